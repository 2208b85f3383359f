/-
  What functions of the program compute, as plain Lean functions (m_..), and proofs that they compute it (c_..). Printed by a program of the author; no conditions.
-/
import Derived.Test.YtbmjpjhbankpoaaGreatCodeDecodeBFloat
import Derived.Test.YtbmjpjhbankpoaaGreatProg
import Derived.Test.YtbmjpjhbankpoaaGreatCodeDecodeBBrief
import Derived.Test.YtbmjpjhbankpoaaGreatCodeDecodeBThree
import Derived.Test.YtbmjpjhbankpoaaGreatCodeDecodeF3
set_option linter.unusedVariables false
set_option maxRecDepth 100000
set_option maxHeartbeats 2000000
namespace Go.Proofs.YtbmjpjhbankpoaaGreat
open Go Go.RowKit
open Go.IntKind (i8 i16 i32 i64 u8 u16 u32 u64)
open Go.Proofs.Tryz

def Zg5 (aa:Int) (kk_L2:(Bool→Int→Option Int)) (ab:Bool):Option Int:=
  kk_L2 ab (i64.wrap (aa+1))
def Za2 (N:Nat) (ad:R1) (ab:Int) (kk_L1:(Int→Option Int)):Nat→Bool→Int→Option Int
  | 0,_,_=>none
  | ae+1,af,aa=>(Zn ad.2.2.1 ab).bind fun ac=>if (decide (aa<(ac.length:Int)))=true then (if af=true then (Zg5 aa (Za2 N ad ab kk_L1 ae) true) else ((Zn ac aa).bind fun ag=>(Zjk N ac ag).bind fun ah=>Zg5 aa (Za2 N ad ab kk_L1 ae) (decide (ah<aa)))) else (if af=true then (some 40) else (if (decide ((ac.length:Int)=0))=true then (some 43) else (kk_L1 (i64.wrap (ab+1)))))
termination_by structural x=>x
def Zeg (N:Nat) (ad:R1) (aa:Int) (kk_L4:(Int→Option Int)):Nat→Int→Option Int
  | 0,_=>none
  | af+1,ab=>(Zn ad.2.2.2.2 aa).bind fun ae=>if (decide (ab<(ae.length:Int)))=true then ((Zn ae ab).bind fun ac=>(Zg8 N ((ac.1.1,ac.1.2),ac.2)).bind fun ag=>if ag=true then (some 45) else ((Zeg N ad aa kk_L4 af) (i64.wrap (ab+1)))) else (kk_L4 (i64.wrap (aa+1)))
termination_by structural x=>x
def Za4 (N:Nat) (ab:R1) (ac:List Int):Nat→Int→Option Int
  | 0,_=>none
  | ad+1,aa=>if (decide (aa<(ab.2.1.length:Int)))=true then ((Zn ab.2.2.2.2 aa).bind fun ae=>(Zn ac aa).bind fun af=>(Zlm N ae af).bind fun ag=>if (!ag)=true then (some 46) else ((Za4 N ab ac ad) (i64.wrap (aa+1)))) else (some 0)
termination_by structural x=>x
def Zaa (N:Nat) (aa:R1) (ab:List Int):Nat→Int→Option Int
  | 0,_=>none
  | ad+1,ac=>if (decide (ac<(aa.2.1.length:Int)))=true then (Zeg N aa ac (Zaa N aa ab ad) N 0) else (Za4 N aa ab N 0)
termination_by structural x=>x
def Za3 (N:Nat) (aa:R1) (ac:List Int):Nat→Int→Option Int
  | 0,_=>none
  | af+1,ab=>if (decide (ab<(aa.2.1.length:Int)))=true then ((Zn aa.2.2.2.1 ab).bind fun ag=>(Zjj N ag ac).bind fun ad=>(Zn ac ab).bind fun ae=>(Zjl ad ae).bind fun ah=>if ah=true then (some 4) else ((Zn aa.2.2.2.2 ab).bind fun ai=>if (!decide ((ai.length:Int)=(i64.wrap (ad * ae))))=true then (some 60) else ((Za3 N aa ac af) (i64.wrap (ab+1))))) else (Zaa N aa ac N 0)
termination_by structural x=>x
def Sn (N:Nat) (aa:R1):Nat→Int→Option Int
  | 0,_=>none
  | ad+1,ab=>if (decide (ab<(aa.2.1.length:Int)))=true then ((Zn aa.2.1 ab).bind fun ae=>(Zjk N aa.2.1 ae).bind fun af=>Za2 N aa ab (Sn N aa ad) N (decide (af<ab)) 0) else ((Sm N aa.2.2.2.1).bind fun ac=>if (!decide (ac=0))=true then (some ac) else ((Zej N (aa.1,aa.2.1,aa.2.2.1,aa.2.2.2.1,aa.2.2.2.2)).bind fun ag=>Za3 N aa ag N 0))
termination_by structural x=>x
def Zce (N:Nat) (aa:R1) (ab:Bool):Option Int:=
  if ab=true then (some 60) else (if (decide (1024<(aa.2.1.length:Int)))=true then (some 4) else (Sn N aa N 0))
def Zg4 (N:Nat) (aa:R1):Option Int:=
  if (!decide ((aa.2.2.1.length:Int)=(aa.2.1.length:Int)))=true then (Zce N aa true) else (if (!decide ((aa.2.2.2.1.length:Int)=(aa.2.1.length:Int)))=true then (Zce N aa true) else (Zce N aa (!decide ((aa.2.2.2.2.length:Int)=(aa.2.1.length:Int)))))
theorem Zyn {N ak al am an:Nat} {ao ap aq ar:Option Addr} {col:Zd} {w0:World} {ab:R1} {r:Int} (hm:Zg4 N ab=some r) (a0:Sl Za.str col w0 ao ak ab.2.1) (ah:Sl (Za.slice Za.str) col w0 ap al ab.2.2.1) (a1:Sl (Za.slice (Za.int .i64)) col w0 aq am ab.2.2.2.1) (ai:Sl (Za.slice (Za.pair (Za.pair Za.bool (Za.slice (Za.int .u32))) (Za.slice (Za.int .u32)))) col w0 ar an ab.2.2.2.2):
    Calls Tryz.prog 79 #[(.agg #[.string ab.1,.slice ao ab.2.1.length ak,.slice ap ab.2.2.1.length al,.slice aq ab.2.2.2.1.length am,.slice ar ab.2.2.2.2.length an])] w0 (fun e w'=>e= .returned ((.int .i64 r))∧Below w0.heap.size w0 w'):=by
 refine Xe 2 (m:=175) func79 rfl rfl rfl rfl rfl ?_;rw [Zg4.eq_1] at hm;have aa:=St.start col w0;refine go ?_;refine Xi (col:=(Zi col)) 1 rfl ?_;intro av dt du cg ac;refine go ?_;refine Xc ac<|lV _ (Tw underlying22 rfl)<|Yr rfl<|Zk<|Zu<|Zu ?_;replace a0:=a0.keep (Zj.start col w0);replace ah:=ah.keep (Zj.start col w0);replace a1:=a1.keep (Zj.start col w0);replace ai:=ai.keep (Zj.start col w0);replace aa:=aa.grow cg;refine Wp.cutK [1,3,1000000] (fun f bo=>∃ bp bq,Zce N ab bq=some r∧St w0 (Zi col) bp bo∧Zl 27 1 bp bo av #[.string ab.1,.slice ao ab.2.1.length ak,.slice ap ab.2.2.1.length al,.slice aq ab.2.2.2.1.length am,.slice ar ab.2.2.2.2.length an]∧[38].map f=[.bool bq]) ?_ ?_
 ·intro f bo hJ;obtain ⟨bp,bq,hm,aa,ac,hs⟩:=hJ;rw [Zce.eq_1] at hm;refine .lL [38] hs ?_;refine Zp hm (fun hb hm=>go ?_) fun hb hm=>go ?_
  ·cases hm;exact ⟨rfl,rfl,aa.below⟩
  refine Zp hm (fun hb hm=>go ?_) fun hb hm=>go ?_
  ·cases hm;exact ⟨rfl,rfl,aa.below⟩
  refine Zy [1,3,1000000] (fun n f bf=>∃ aj a8 aw,aw=n∧Sn N ab aw a8=some r∧St w0 (Zi col) aj bf∧Zl 27 1 aj bf av #[.string ab.1,.slice ao ab.2.1.length ak,.slice ap ab.2.2.1.length al,.slice aq ab.2.2.2.1.length am,.slice ar ab.2.2.2.2.length an]∧[4].map f=[.int .i64 a8]) N ⟨_,0,_,rfl,hm,aa,ac,rfl⟩ ?_;clear hm;intro n f bf hI;obtain ⟨aj,a8,aw,hn,hm,aa,ac,hs⟩:=hI;subst hn;refine .lL [4] hs ?_
  cases aw with
  | zero=>rw [Sn.eq_1] at hm;cases hm
  | succ aw=>
   rw [Sn.eq_2] at hm;refine go ?_;refine Zp hm (fun hb hm=>go ?_) fun hb hm=>go ?_
   ·refine Wo (col:=aj) (by kernel_rfl) (by kernel_rfl)<|qF ⟨_,_,rfl⟩ ?_;refine qW (fun _ hC=>((ac.atN).nth (q:=1) rfl).gr (hC.bl aj)) ?_;refine qF ⟨_,_,rfl⟩ ?_;refine qW (fun _ hC=>((ac.atN).nth (q:=1) rfl).gr (hC.bl aj)) ?_;refine go ?_;obtain ⟨dv,br,hm⟩:=bZ hm;refine qI br ((a0.ks aa).addr br)<|qW (fun _ hC=>((a0.ks aa).gr (hC.bl aj)).atStr br) ?_;obtain ⟨ch,ci,hm⟩:=bZ hm;refine qc (v:=(.int .i64 ch)) rfl (fun _ hC=>⟨_,_,Tv call192 rfl rfl,(Zp8 ci ((a0.ks aa).gr (hC.bl aj)):).mono fun _ _ h=>⟨h.1,hC.trans (.of_below h.2)⟩⟩) ?_;refine go ?_;refine Yl ?_;intro dw hC;replace hC:=hC.bl aj;refine go ?_;replace ac:=ac.gr hC;replace aa:=aa.grow hC;refine Zy [1,3,4,1000000] (fun n f bs=>∃ af bt a9 ay,ay=n∧Za2 N ab a8 (Sn N ab aw) ay bt a9=some r∧St w0 (Zi col) af bs∧Zl 27 1 af bs av #[.string ab.1,.slice ao ab.2.1.length ak,.slice ap ab.2.2.1.length al,.slice aq ab.2.2.2.1.length am,.slice ar ab.2.2.2.2.length an]∧[5,6].map f=[.bool bt,.int .i64 a9]) N ⟨_,_,0,_,rfl,hm,aa,ac,rfl⟩ ?_;clear hm;intro n f bs hI;obtain ⟨af,bt,a9,ay,hn,hm,aa,ac,hs⟩:=hI;subst hn;refine .lL [5,6] hs ?_
    cases ay with
    | zero=>rw [Za2.eq_1] at hm;cases hm
    | succ ay=>
     rw [Za2.eq_2] at hm;refine go ?_;refine Xc ac<|X3 rfl ?_;obtain ⟨dx,ag,hm⟩:=bZ hm;refine lI ag ((ah.ks aa).addr ag) ?_;obtain ⟨_,cj,ck⟩:=(ah.ks aa).atN ag;obtain ⟨⟨dy,dz,rfl,d0⟩,_⟩:=cj;refine lW ck.one<|go ?_;refine Zp hm (fun hb hm=>?_) fun hb hm=>go ?_
     ·refine X5<|Zu ?_;refine Wp.cutK [1,3,4,6,1000000] (fun f bu=>∃ bv bw,Zg5 a9 (Za2 N ab a8 (Sn N ab aw) ay) bw=some r∧St w0 (Zi col) bv bu∧Zl 27 1 bv bu av #[.string ab.1,.slice ao ab.2.1.length ak,.slice ap ab.2.2.1.length al,.slice aq ab.2.2.2.1.length am,.slice ar ab.2.2.2.2.length an]∧[5].map f=[.bool bw]) ?_ ?_
      ·intro f bu hJ;obtain ⟨bv,bw,hm,aa,ac,hs⟩:=hJ;rw [Zg5.eq_1] at hm;refine .lL [5] hs<|go ?_;exact ⟨ay,by omega,rfl,⟨_,_,_,_,rfl,hm,aa,ac,rfl⟩⟩
      refine Zc1<|Wo (col:=af) (by kernel_rfl) (by kernel_rfl)<|go ?_;refine Xq hm (fun bx hm=>go ?_) fun bx hm=>go ?_
      ·refine qv (v:=(.bool true)) rfl (fun _ hC=>Z1 (congrArg Value.bool bx) rfl) ?_;refine go ?_;refine Yl ?_;intro d1 hC;replace hC:=hC.bl af;replace ac:=ac.gr hC;replace aa:=aa.grow hC;exact ⟨rfl,_,_,hm,aa,ac,rfl⟩
      refine qF ⟨_,_,rfl⟩ ?_;refine go ?_;refine qW (fun _ hC=>((ac.atN).nth (q:=2) rfl).gr (hC.bl af)) ?_;refine go ?_;refine qI ag ((ah.ks aa).addr ag) ?_;refine go ?_;obtain ⟨_,cl,cn⟩:=(ah.ks aa).atN ag;obtain ⟨⟨d2,d3,rfl,co⟩,_⟩:=cl;refine qW (fun _ hC=>cn.one.gr (hC.bl af)) ?_;refine go ?_;refine qF ⟨_,_,rfl⟩ ?_;refine go ?_;refine qW (fun _ hC=>((ac.atN).nth (q:=2) rfl).gr (hC.bl af)) ?_;refine go ?_;refine qI ag ((ah.ks aa).addr ag) ?_;refine go ?_;obtain ⟨_,cp,cq⟩:=(ah.ks aa).atN ag;obtain ⟨⟨d4,d5,rfl,cb⟩,_⟩:=cp;refine qW (fun _ hC=>cq.one.gr (hC.bl af)) ?_;refine go ?_;obtain ⟨d6,bz,hm⟩:=bZ hm;refine qI bz (cb.addr bz) ?_;refine go ?_;refine qW (fun _ hC=>(cb.gr (hC.bl af)).atStr bz) ?_;refine go ?_;obtain ⟨cc,cr,hm⟩:=bZ hm;refine qc (v:=(.int .i64 cc)) rfl (fun _ hC=>⟨_,_,Tv call192 rfl rfl,(Zp8 cr (co.gr (hC.bl af)):).mono fun _ _ h=>⟨h.1,hC.trans (.of_below h.2)⟩⟩) ?_;refine go ?_;refine qv (v:=(.bool (decide (cc<a9)))) rfl (fun _ hC=>Xn (congrArg Value.bool bx) rfl) ?_;refine go ?_;refine Yl ?_;intro d7 hC;replace hC:=hC.bl af;replace ac:=ac.gr hC;replace aa:=aa.grow hC;exact ⟨rfl,_,_,hm,aa,ac,rfl⟩
     refine Zp hm (fun hb hm=>go ?_) fun hb hm=>go ?_
     ·cases hm;exact ⟨rfl,rfl,aa.below⟩
     refine Xc ac<|X3 rfl<|lI ag ((ah.ks aa).addr ag) ?_;obtain ⟨_,cs,ct⟩:=(ah.ks aa).atN ag;obtain ⟨⟨d8,d9,rfl,ea⟩,_⟩:=cs;refine lW ct.one<|go ?_;refine Zp hm (fun hb hm=>go ?_) fun hb hm=>go ?_
     ·cases hm;exact ⟨rfl,rfl,aa.below⟩
     exact ⟨aw,by omega,rfl,⟨_,_,_,rfl,hm,aa,ac,rfl⟩⟩
   refine Xc ac ?_;obtain ⟨eb,cu,hm⟩:=bZ hm;refine Zh (Zp6 cu (a1.ks aa)) ?_;rintro _ cv ⟨rfl,bg⟩;refine ⟨_,rfl,?_⟩;replace bg:Zg aj bf aj cv:=.of_below bg;refine go ?_;replace ac:=ac.gr bg;replace aa:=aa.grow bg;refine Zp hm (fun hb hm=>go ?_) fun hb hm=>go ?_
   ·cases hm;exact ⟨rfl,rfl,aa.below⟩
   refine lV _ (Xh isAgg27 sizeOf27 ac) ?_;obtain ⟨ax,cw,hm⟩:=bZ hm;refine Zh (Zyr 2 cw (a0.ks aa) (ah.ks aa) (a1.ks aa) (ai.ks aa)) ?_;rintro _ ec ⟨ed,bh,bi,rfl,cd,ad⟩;refine ⟨_,rfl,go ?_⟩;replace ac:=ac.gr cd;replace aa:=aa.grow cd;refine Zy [1,3,8,1000000] (fun n f ba=>∃ ae b0 a2,a2=n∧Za3 N ab ax a2 b0=some r∧St w0 (Zi col) ae ba∧Zl 27 1 ae ba av #[.string ab.1,.slice ao ab.2.1.length ak,.slice ap ab.2.2.1.length al,.slice aq ab.2.2.2.1.length am,.slice ar ab.2.2.2.2.length an]∧Zc (Za.int .i64) 3 2 ae ba bh bi ax∧[9].map f=[.int .i64 b0]) N ⟨_,0,_,rfl,hm,aa,ac,ad,rfl⟩ ?_;clear hm;intro n f ba hI;obtain ⟨ae,b0,a2,hn,hm,aa,ac,ad,hs⟩:=hI;subst hn;refine .lL [9] hs ?_
   cases a2 with
   | zero=>rw [Za3.eq_1] at hm;cases hm
   | succ a2=>
    rw [Za3.eq_2] at hm;refine go ?_;refine Zp hm (fun hb hm=>go ?_) fun hb hm=>go ?_
    ·refine Xc ac<|X3 rfl ?_;obtain ⟨ee,b1,hm⟩:=bZ hm;refine lI b1 ((a1.ks aa).addr b1) ?_;obtain ⟨_,cx,cy⟩:=(a1.ks aa).atN b1;obtain ⟨⟨ef,eg,rfl,cz⟩,_⟩:=cx;refine lW cy.one<|W0 rfl ?_;obtain ⟨eh,c0,hm⟩:=bZ hm;refine Zh (Zyo c0 (cz.froz 2) (ad.toSlF (Zm.int .i64))) ?_;rintro _ ce ⟨rfl,bb⟩;refine ⟨_,rfl,?_⟩;replace bb:Zg ae ba ae ce:=.of_below bb;refine go ?_;obtain ⟨ei,a3,hm⟩:=bZ hm;replace ad:=ad.gr bb;refine lI a3 (ad.addr a3)<|lW (ad.atInt a3) ?_;obtain ⟨ej,c1,hm⟩:=bZ hm;refine Zh (Zyq (col:=ae) c1) ?_;rintro _ c2 ⟨rfl,bc⟩;refine ⟨_,rfl,?_⟩;replace bc:Zg ae ce ae c2:=.of_below bc;refine go ?_;replace ac:=(ac.gr bb).gr bc;replace aa:=(aa.grow bb).grow bc;replace ad:=ad.gr bc;refine Zp hm (fun hb hm=>go ?_) fun hb hm=>go ?_
     ·cases hm;exact ⟨rfl,rfl,aa.below⟩
     refine Wo (col:=ae) (by kernel_rfl) (by kernel_rfl)<|qF ⟨_,_,rfl⟩ ?_;refine qW (fun _ hC=>((ac.atN).nth (q:=4) rfl).gr (hC.bl ae)) ?_;refine go ?_;obtain ⟨ek,b2,hm⟩:=bZ hm;refine qI b2 ((ai.ks aa).addr b2) ?_;obtain ⟨_,c3,c4⟩:=(ai.ks aa).atN b2;obtain ⟨⟨el,em,rfl,en⟩,_⟩:=c3;refine qW (fun _ hC=>c4.one.gr (hC.bl ae)) ?_;refine go ?_;refine qI a3 (ad.addr a3)<|qW (fun _ hC=>(ad.gr (hC.bl ae)).atInt a3) ?_;refine go ?_;refine Yl ?_;intro eo hC;replace hC:=hC.bl ae;replace ad:=ad.gr hC;replace ac:=ac.gr hC;replace aa:=aa.grow hC;refine Zp hm (fun hb hm=>go ?_) fun hb hm=>go ?_
     ·cases hm;exact ⟨rfl,rfl,aa.below⟩
     exact ⟨a2,by omega,rfl,⟨_,_,_,rfl,hm,aa,ac,ad,rfl⟩⟩
    refine Zy [1,3,8,1000000] (fun n f bj=>∃ bk bm az,az=n∧Zaa N ab ax az bm=some r∧St w0 (Zi col) bk bj∧Zl 27 1 bk bj av #[.string ab.1,.slice ao ab.2.1.length ak,.slice ap ab.2.2.1.length al,.slice aq ab.2.2.2.1.length am,.slice ar ab.2.2.2.2.length an]∧Zc (Za.int .i64) 3 2 bk bj bh bi ax∧[12].map f=[.int .i64 bm]) N ⟨_,0,_,rfl,hm,aa,ac,ad,rfl⟩ ?_;clear hm;intro n f bj hI;obtain ⟨bk,bm,az,hn,hm,aa,ac,ad,hs⟩:=hI;subst hn;refine .lL [12] hs ?_
    cases az with
    | zero=>rw [Zaa.eq_1] at hm;cases hm
    | succ az=>
     rw [Zaa.eq_2] at hm;refine go ?_;refine Zp hm (fun hb hm=>go ?_) fun hb hm=>go ?_
     ·refine Zy [1,12,3,8,1000000] (fun n f bd=>∃ a4 b3 a5,a5=n∧Zeg N ab bm (Zaa N ab ax az) a5 b3=some r∧St w0 (Zi col) a4 bd∧Zl 27 1 a4 bd av #[.string ab.1,.slice ao ab.2.1.length ak,.slice ap ab.2.2.1.length al,.slice aq ab.2.2.2.1.length am,.slice ar ab.2.2.2.2.length an]∧Zc (Za.int .i64) 3 2 a4 bd bh bi ax∧[13].map f=[.int .i64 b3]) N ⟨_,0,_,rfl,hm,aa,ac,ad,rfl⟩ ?_;clear hm;intro n f bd hI;obtain ⟨a4,b3,a5,hn,hm,aa,ac,ad,hs⟩:=hI;subst hn;refine .lL [13] hs ?_
      cases a5 with
      | zero=>rw [Zeg.eq_1] at hm;cases hm
      | succ a5=>
       rw [Zeg.eq_2] at hm;refine go ?_;refine Xc ac<|X3 rfl ?_;obtain ⟨ep,a6,hm⟩:=bZ hm;refine lI a6 ((ai.ks aa).addr a6) ?_;obtain ⟨_,c5,c6⟩:=(ai.ks aa).atN a6;obtain ⟨⟨eq,er,rfl,es⟩,_⟩:=c5;refine lW c6.one<|go ?_;refine Zp hm (fun hb hm=>go ?_) fun hb hm=>go ?_
       ·refine Xc ac<|X3 rfl<|lI a6 ((ai.ks aa).addr a6) ?_;obtain ⟨_,c7,c8⟩:=(ai.ks aa).atN a6;obtain ⟨⟨et,eu,rfl,cf⟩,_⟩:=c7;refine lW c8.one<|X3 rfl ?_;obtain ⟨b4,b5,hm⟩:=bZ hm;refine lI b5 (cf.addr b5) ?_;obtain ⟨_,c9,da⟩:=cf.atN b5;obtain ⟨_,_,rfl,db,dc⟩:=Yn c9;obtain ⟨_,_,rfl,dd,de⟩:=Yn db;obtain ⟨rfl,_⟩:=dd;obtain ⟨⟨df,dg,rfl,dh⟩,_⟩:=de;obtain ⟨⟨di,dj,rfl,dk⟩,_⟩:=dc;refine lV (.agg #[.bool b4.1.1,.slice df b4.1.2.length dg,.slice di b4.2.length dj]) (Xp isAgg47 sizeOf47 rfl rfl da) ?_;obtain ⟨ew,dl,hm⟩:=bZ hm;refine Zh (Zyp dl dh dk) ?_;rintro _ dm ⟨rfl,be⟩;refine ⟨_,rfl,?_⟩;replace be:Zg a4 bd a4 dm:=.of_below be;refine go ?_;replace ad:=ad.gr be;replace ac:=ac.gr be;replace aa:=aa.grow be;refine Zp hm (fun hb hm=>go ?_) fun hb hm=>go ?_
        ·cases hm;exact ⟨rfl,rfl,aa.below⟩
        exact ⟨a5,by omega,rfl,⟨_,_,_,rfl,hm,aa,ac,ad,rfl⟩⟩
       exact ⟨az,by omega,rfl,⟨_,_,_,rfl,hm,aa,ac,ad,rfl⟩⟩
     refine Zy [1,3,8,1000000] (fun n f bn=>∃ au b6 a7,a7=n∧Za4 N ab ax a7 b6=some r∧St w0 (Zi col) au bn∧Zl 27 1 au bn av #[.string ab.1,.slice ao ab.2.1.length ak,.slice ap ab.2.2.1.length al,.slice aq ab.2.2.2.1.length am,.slice ar ab.2.2.2.2.length an]∧Zc (Za.int .i64) 3 2 au bn bh bi ax∧[15].map f=[.int .i64 b6]) N ⟨_,0,_,rfl,hm,aa,ac,ad,rfl⟩ ?_;clear hm;intro n f bn hI;obtain ⟨au,b6,a7,hn,hm,aa,ac,ad,hs⟩:=hI;subst hn;refine .lL [15] hs ?_
     cases a7 with
     | zero=>rw [Za4.eq_1] at hm;cases hm
     | succ a7=>
      rw [Za4.eq_2] at hm;refine go ?_;refine Zp hm (fun hb hm=>go ?_) fun hb hm=>go ?_
      ·refine Wo (col:=au) (by kernel_rfl) (by kernel_rfl)<|qF ⟨_,_,rfl⟩ ?_;refine qW (fun _ hC=>((ac.atN).nth (q:=4) rfl).gr (hC.bl au)) ?_;refine go ?_;obtain ⟨ey,b7,hm⟩:=bZ hm;refine qI b7 ((ai.ks aa).addr b7) ?_;obtain ⟨_,dn,dp⟩:=(ai.ks aa).atN b7;obtain ⟨⟨ez,e0,rfl,dq⟩,_⟩:=dn;refine qW (fun _ hC=>dp.one.gr (hC.bl au)) ?_;refine go ?_;obtain ⟨e1,b8,hm⟩:=bZ hm;refine qI b8 (ad.addr b8)<|qW (fun _ hC=>(ad.gr (hC.bl au)).atInt b8) ?_;obtain ⟨dr,ds,hm⟩:=bZ hm;refine qc (v:=(.bool dr)) rfl (fun _ hC=>⟨_,_,Tv call197 rfl rfl,(Zys ds (dq.gr (hC.bl au)):).mono fun _ _ h=>⟨h.1,hC.trans (.of_below h.2)⟩⟩) ?_;refine go ?_;refine Yl ?_;intro e2 hC;replace hC:=hC.bl au;refine go ?_;replace ad:=ad.gr hC;replace ac:=ac.gr hC;replace aa:=aa.grow hC;refine Zp hm (fun hb hm=>go ?_) fun hb hm=>go ?_
       ·cases hm;exact ⟨rfl,rfl,aa.below⟩
       exact ⟨a7,by omega,rfl,⟨_,_,_,rfl,hm,aa,ac,ad,rfl⟩⟩
      cases hm;exact ⟨rfl,rfl,aa.below⟩
 refine Wi<|Xc ac ?_;refine go ?_;refine Xq hm (fun b9 hm=>go ?_) fun b9 hm=>go ?_
 ·refine lV (.bool true) (Z1 (congrArg Value.bool b9) rfl)<|X2 rfl<|lP 32 rfl rfl<|lP 32 rfl rfl<|lP 32 rfl rfl<|lP 32 rfl rfl<|lP 32 rfl rfl<|lV (.bool true) (Z1 rfl rfl)<|Zk ?_;exact ⟨rfl,_,_,hm,aa,ac,rfl⟩
 refine Xf ⟨_,_,rfl⟩ ?_;refine go ?_;refine lW ((ac.atN).nth (q:=3) rfl)<|go ?_;refine lV (.bool (!decide ((ab.2.2.2.1.length:Int)=(ab.2.1.length:Int)))) (Xn (congrArg Value.bool b9) rfl)<|X2 rfl ?_;refine Xq hm (fun ca hm=>go ?_) fun ca hm=>go ?_
 ·refine lV (.bool true) (Z1 (congrArg Value.bool ca) rfl)<|Zk ?_;exact ⟨rfl,_,_,hm,aa,ac,rfl⟩
 refine Xf ⟨_,_,rfl⟩ ?_;refine go ?_;refine lW ((ac.atN).nth (q:=4) rfl)<|go ?_;refine lV (.bool (!decide ((ab.2.2.2.2.length:Int)=(ab.2.1.length:Int)))) (Xn (congrArg Value.bool ca) rfl)<|Zk ?_;exact ⟨rfl,_,_,hm,aa,ac,rfl⟩
abbrev Xt:=ByteArray×List ByteArray×List Ra×List R2×List (List QV)
instance decMemB:∀ (s:ByteArray) (l:List ByteArray),Decidable (s ∈ l)
 | _,[]=>isFalse (by simp)
 | s,x :: l=>if h:s=x then isTrue (by rw [h];exact List.mem_cons_self) else match decMemB s l with
  | isTrue h2=>isTrue (List.mem_cons_of_mem _ h2)
  | isFalse h2=>isFalse (by rw [List.mem_cons];rintro (h3 | h3) <;> contradiction)
theorem Z11 {α:Type} (l:List α) (k:Nat) (hk:k<l.length):(l.take (k+1)).Nodup↔(l.take k).Nodup∧l[k] ∉ l.take k:=by
 rw [List.take_add_one,List.getElem?_eq_getElem hk,Option.toList_some,List.nodup_append]
 constructor
 ·rintro ⟨h1,_,h3⟩
  exact ⟨h1,fun hm=>h3 _ hm _ (by simp) rfl⟩
 ·rintro ⟨h1,h2⟩
  refine ⟨h1,by simp,fun a ha b hb e=>?_⟩
  rw [List.mem_singleton] at hb
  subst hb;subst e
  exact h2 ha
theorem Zq1 (N:Nat) (l:List ByteArray) (hl:l.length<4611686018427387904) (v:Nat) (hv:v<l.length):∀ (n k:Nat),k≤v→v<n+k→l[v] ∉ l.take k→∃ j:Nat,Zei N l l[v] n (k:Int)=some (j:Int)∧j≤v∧(j<v↔l[v] ∈ l.take v)
 | 0,k,h1,h2,_=>by omega
 | n+1,k,h1,h2,h3=>by
  have hk:k<l.length:=by omega
  rw [Zei.eq_2,if_pos (decide_eq_true (by omega)),Zz hk,Option.bind_some]
  by_cases he:l[k]=l[v]
  ·rw [if_pos (decide_eq_true he)]
   refine ⟨k,rfl,h1,fun h=>?_,fun h=>?_⟩
   ·rw [← he]
    exact List.mem_iff_getElem.2 ⟨k,by rw [List.length_take];omega,by rw [List.getElem_take]⟩
   ·rcases Nat.lt_or_ge k v with h4 | h4
    ·exact h4
    ·have:k=v:=by omega
     subst this;exact absurd h h3
  ·have hkv:k<v:=by
    rcases Nat.lt_or_ge k v with h4 | h4
    ·exact h4
    ·have:k=v:=by omega
     subst this;exact absurd rfl he
   rw [if_neg (by rw [decide_eq_false he];decide),Zr (by omega)]
   have:=Zq1 N l hl v hv n (k+1) (by omega) (by omega) (by
    rw [List.take_add_one,List.getElem?_eq_getElem hk,Option.toList_some,List.mem_append,List.mem_singleton]
    rintro (h | h)
    ·exact h3 h
    ·exact he h.symm)
   exact this
theorem Zq2 {N:Nat} {l:List ByteArray} (hl:l.length<4611686018427387904) {v:Nat} (hv:v<l.length) (hN:l.length<N):∃ j:Nat,Zjk N l l[v]=some (j:Int)∧(j<v↔l[v] ∈ l.take v):=by
 obtain ⟨j,h1,_,h2⟩:=Zq1 N l hl v hv N 0 (by omega) (by omega) (by simp)
 exact ⟨j,h1,h2⟩
theorem Zrr (s:ByteArray):∀ (l:List ByteArray) (k:Nat),∃ j:Int,Ze0 s l k=some j∧(0≤j↔s ∈ l)
 | [],k=>⟨-1,rfl,by simp⟩
 | x :: l,k=>by
  rw [Ze0.eq_2]
  by_cases h:s=x
  ·rw [if_pos (decide_eq_true h)];exact ⟨_,rfl,by simp [h]⟩
  ·rw [if_neg (by rw [decide_eq_false h];decide)]
   obtain ⟨j,h1,h2⟩:=Zrr s l (k+1)
   exact ⟨j,h1,by rw [h2,List.mem_cons];simp [h]⟩
theorem Zzk (s:ByteArray) (l:List ByteArray):Zjs l s=some (decide (s ∈ l)):=by
 obtain ⟨j,h1,h2⟩:=Zrr s l 0
 rw [Zjs,Zlv,h1,Option.bind_some]
 congr 1
 exact decide_eq_decide.2 h2
theorem Zta:∀ (l:List ByteArray) (seen:List (ByteArray×Int)) (S:List ByteArray),S.Nodup→(∀ k,Wa seen k=if k ∈ S then some 1 else none)→Zb0 l seen=some (!decide (S++l).Nodup)
 | [],seen,S,h1,h2=>by rw [Zb0.eq_1,List.append_nil,decide_eq_true h1];rfl
 | x :: l,seen,S,h1,h2=>by
  rw [Zb0.eq_2,h2 x]
  by_cases hx:x ∈ S
  ·rw [if_pos hx,if_pos (by decide),decide_eq_false]
   ·rfl
   intro h
   exact (List.nodup_append.1 h).2.2 x hx x List.mem_cons_self rfl
  ·rw [if_neg hx,if_neg (by decide),Option.bind_some,Zta l _ (S++[x]) (by
    rw [List.nodup_append]
    refine ⟨h1,by simp,fun a ha b hb e=>?_⟩
    rw [List.mem_singleton] at hb;subst hb;subst e;exact hx ha) (fun k=>by
    rw [Zsz,h2 k]
    by_cases hk:k=x
    ·subst hk;rw [if_pos rfl,if_pos (by simp)]
    ·rw [if_neg hk]
     by_cases hs:k ∈ S
     ·rw [if_pos hs,if_pos (by simp [hs])]
     ·rw [if_neg hs,if_neg (by simp [hs,hk])])]
   rw [List.append_assoc];rfl
theorem Z1s (l:List ByteArray):Ziy l=some (!decide l.Nodup):=by
 rw [Ziy,Zta l [] [] .nil (fun k=>by simp [Wa]),List.nil_append]
def Ts (names:List ByteArray) (vals:List Ra):Nat→Nat→Int
 | 0,_=>0
 | m+1,v=>if names.getD v ⟨#[]⟩ ∈ names.take v∨¬ (vals.getD v []).Nodup then 40 else if vals.getD v []=[] then 43 else Ts names vals m (v+1)
theorem Ztf (n:Xt) (hl:n.2.2.1.length=n.2.1.length):∀ (l:List ByteArray) (k:Nat),n.2.1.drop k=l→k≤n.2.1.length→Zap n l k=some (Ts n.2.1 n.2.2.1 l.length k)
 | [],k,_,_=>rfl
 | x :: l,k,hd,hk=>by
  have hk1:k<n.2.1.length:=by
   rcases Nat.lt_or_ge k n.2.1.length with h | h
   ·exact h
   ·rw [List.drop_eq_nil_of_le h] at hd;cases hd
  have hd2:=List.drop_eq_getElem_cons hk1
  rw [hd] at hd2
  obtain ⟨hx,hl2⟩:=List.cons.inj hd2
  rw [Zap.eq_2,Z6 (by omega),Int.toNat_natCast,Zzk,Option.bind_some,List.length_cons,Ts,Yk hk1,← hx,Yk (by omega)]
  by_cases h1:x ∈ n.2.1.take k
  ·rw [if_pos (decide_eq_true h1),Zf5,if_pos rfl,if_pos (.inl h1)]
  ·rw [if_neg (by rw [decide_eq_false h1];decide),Zz (by omega),Option.bind_some,Z1s,Option.bind_some,Zf5]
   by_cases h2:(n.2.2.1[k]'(by omega)).Nodup
   ·rw [decide_eq_true h2,if_neg (by decide),if_neg (by simp [h1,h2]),Zz (by omega),Option.bind_some]
    by_cases h3:n.2.2.1[k]'(by omega)=[]
    ·rw [if_pos (by rw [h3];decide),if_pos h3]
    ·rw [if_neg (by simpa using h3),if_neg h3]
     exact Ztf n hl l (k+1) hl2.symm (by omega)
   ·rw [decide_eq_false h2,if_pos (by decide),if_pos (.inr h2)]
theorem Z1v (n:Xt) (hl:n.2.2.1.length=n.2.1.length):Zf4 n=some (Ts n.2.1 n.2.2.1 n.2.1.length 0):=by
 rw [Zf4];exact Ztf n hl n.2.1 0 (by simp) (by omega)
theorem Zoz (N:Nat) (n:Xt) (v:Nat) (hv:v<n.2.2.1.length) (hb:n.2.2.1[v].length≤1048576) (hN:1048577<N) (hvb:v<4611686018427387904) (kk:Int→Option Int) (A:Prop) [Decidable A]:∀ (m i:Nat) (a:Bool),i≤n.2.2.1[v].length→n.2.2.1[v].length<m+i→(a=true→A∨¬ (n.2.2.1[v]).Nodup)→(a=false→¬ A∧((n.2.2.1[v]).take i).Nodup)→
  Za2 N n (v:Int) kk m a (i:Int)=if A∨¬ (n.2.2.1[v]).Nodup then some 40 else if n.2.2.1[v]=[] then some 43 else kk ((v:Int)+1)
 | 0,i,a,h1,h2,_,_=>by omega
 | m+1,i,a,h1,h2,h3,h4=>by
  rw [Za2.eq_2,Zz hv,Option.bind_some]
  by_cases hi:i<n.2.2.1[v].length
  ·rw [if_pos (decide_eq_true (by omega))]
   cases a with
   | true=>
    rw [if_pos rfl,Zg5,Zr (by omega)]
    exact Zoz N n v hv hb hN hvb kk A m (i+1) true (by omega) (by omega) h3 (fun h=>by cases h)
   | false=>
    obtain ⟨j,j1,j2⟩:=Zq2 (N:=N) (l:=n.2.2.1[v]) (by omega) hi (by omega)
    have st:=Z11 n.2.2.1[v] i hi
    have h5:=h4 rfl
    rw [if_neg (by decide),Zz hi,Option.bind_some,j1,Option.bind_some,Zg5,Zr (by omega)]
    have:=Zoz N n v hv hb hN hvb kk A m (i+1) (decide ((j:Int)<(i:Int))) (by omega) (by omega) (fun h=>.inr fun hn=>by
     have h6:=of_decide_eq_true h
     have h7:=(hn.sublist (List.take_sublist (i+1) _))
     exact (st.1 h7).2 (j2.1 (by omega))) (fun h=>⟨h5.1,st.2 ⟨h5.2,fun hm=>by
     have h6:=of_decide_eq_false h
     have:=j2.2 hm
     omega⟩⟩)
    exact this
  ·have hil:i=n.2.2.1[v].length:=by omega
   rw [if_neg (by rw [decide_eq_false (by omega)];decide)]
   cases a with
   | true=>rw [if_pos rfl,if_pos (h3 rfl)]
   | false=>
    obtain ⟨h5,h6⟩:=h4 rfl
    rw [hil,List.take_length] at h6
    have hA:¬ (A∨¬ (n.2.2.1[v]).Nodup):=fun h=>h.elim h5 (fun h=>h h6)
    rw [if_neg (by decide),if_neg hA,Zr (by omega)]
    by_cases h7:n.2.2.1[v]=[]
    ·rw [if_pos (by rw [h7];decide),if_pos h7]
    ·rw [if_neg (by simpa using h7),if_neg h7]
theorem Zvg (N:Nat) (n:Xt) (hl:n.2.2.1.length=n.2.1.length) (hn:n.2.1.length≤1048576) (hb:∀ l ∈ n.2.2.1,l.length≤1048576) (hN:1048577<N):∀ (m fuel v:Nat),m+v=n.2.1.length→m<fuel→
  Sn N n fuel (v:Int)=if Ts n.2.1 n.2.2.1 m v=0 then Sn N n (fuel - m) (n.2.1.length:Int) else some (Ts n.2.1 n.2.2.1 m v)
 | 0,fuel,v,h1,_=>by
  have:v=n.2.1.length:=by omega
  rw [Ts,if_pos rfl,this,Nat.sub_zero]
 | m+1,0,v,h1,h2=>by omega
 | m+1,fuel+1,v,h1,h2=>by
  have hv:v<n.2.1.length:=by omega
  have hv2:v<n.2.2.1.length:=by omega
  obtain ⟨j,j1,j2⟩:=Zq2 (N:=N) (l:=n.2.1) (by omega) hv (by omega)
  rw [Sn.eq_2,if_pos (decide_eq_true (by omega)),Zz hv,Option.bind_some,j1,Option.bind_some,Ts,Yk hv,Yk hv2,show (0:Int)=((0:Nat):Int) from rfl,
   Zoz N n v hv2 (hb _ (List.getElem_mem hv2)) hN (by omega) (Sn N n fuel) (n.2.1[v] ∈ n.2.1.take v) N 0 _ (by omega) (by have:=hb _ (List.getElem_mem hv2);omega) (fun h=>.inl (j2.1 (by have:=of_decide_eq_true h;omega))) (fun h=>⟨fun hm=>by have:=of_decide_eq_false h;have:=j2.2 hm;omega,by simp⟩)]
  by_cases h3:n.2.1[v] ∈ n.2.1.take v∨¬ (n.2.2.1[v]).Nodup
  ·rw [if_pos h3,if_pos h3,if_neg (by decide)]
  ·rw [if_neg h3,if_neg h3]
   by_cases h4:n.2.2.1[v]=[]
   ·rw [if_pos h4,if_pos h4,if_neg (by decide)]
   ·rw [if_neg h4,if_neg h4]
    have ih:=Zvg N n hl hn hb hN m fuel (v+1) (by omega) (by omega)
    rw [show ((v+1:Nat):Int)=(v:Int)+1 by omega] at ih
    rw [ih,show fuel+1 - (m+1)=fuel - m by omega]
    rfl
theorem Ztg {names:List ByteArray} {vals:List Ra}:∀ (m v:Nat),Ts names vals m v=0→∀ i,v≤i→i<v+m→vals.getD i []≠[]∧(vals.getD i []).Nodup∧names.getD i ⟨#[]⟩ ∉ names.take i
 | 0,v,_,i,h1,h2=>by omega
 | m+1,v,h,i,h1,h2=>by
  rw [Ts] at h
  by_cases h3:names.getD v ⟨#[]⟩ ∈ names.take v∨¬ (vals.getD v []).Nodup
  ·rw [if_pos h3] at h;cases h
  ·rw [if_neg h3] at h
   by_cases h4:vals.getD v []=[]
   ·rw [if_pos h4] at h;cases h
   ·rw [if_neg h4] at h
    rcases Nat.lt_or_ge v i with h5 | h5
    ·exact Ztg m (v+1) h i (by omega) (by omega)
    ·have:i=v:=by omega
     subst this
     exact ⟨h4,by simpa using (not_or.1 h3).2,(not_or.1 h3).1⟩
def Yj (vals:List Ra):List Int→Nat→Nat
 | [],k=>k
 | p :: ps,k=>Yj vals ps (min (k * (vals.getD p.toNat []).length) 1099511627776)
theorem Zo1 (vals:List Ra):∀ (ps:List Int) (k:Nat),k≤1099511627776→Yj vals ps k≤1099511627776
 | [],k,h=>h
 | p :: ps,k,h=>Zo1 vals ps _ (by omega)
theorem Zlx {a b:Nat} (h:a≤1099511627776) (g:b≤1048576):a * b≤1152921504606846976:=by
 have:=Nat.mul_le_mul h g
 simpa using this
theorem Zs7 (n:Xt) (hb:∀ l ∈ n.2.2.1,l.length≤1048576):∀ (ps:List Int) (k:Nat),k≤1099511627776→(∀ p ∈ ps,0≤p∧p<(n.2.2.1.length:Int))→Zdr n ps (k:Int)=some (Yj n.2.2.1 ps k:Int)
 | [],k,_,_=>rfl
 | p :: ps,k,hk,hp=>by
  have h1:=hp p List.mem_cons_self
  have h2:p.toNat<n.2.2.1.length:=by omega
  have h3:=hb _ (List.getElem_mem h2)
  have h4:=Zlx hk h3
  rw [Zdr.eq_2,show p=((p.toNat:Nat):Int) by omega,Zz h2,Option.bind_some,Yj,Int.toNat_natCast,Yk h2,← Int.natCast_mul,Zr (by omega)]
  have ih:=Zs7 n hb ps (min (k * n.2.2.1[p.toNat].length) 1099511627776) (by omega) (fun q hq=>hp q (List.mem_cons_of_mem _ hq))
  rw [← ih]
  congr 1
  by_cases h5:1099511627776<k * n.2.2.1[p.toNat].length
  ·rw [if_pos (by omega),Nat.min_eq_right (by omega)];rfl
  ·rw [if_neg (by omega),Nat.min_eq_left (by omega)]
theorem Zv3 (N:Nat) (n:Xt) (hl:n.2.2.1.length≤1048576):∀ (m i:Nat) (out:List Int),i≤n.2.2.1.length→n.2.2.1.length<m+i→out=(n.2.2.1.take i).map (fun l=>(l.length:Int))→Zek N n m out (i:Int)=some (n.2.2.1.map fun l=>(l.length:Int))
 | 0,i,out,h1,h2,_=>by omega
 | m+1,i,out,h1,h2,h3=>by
  rw [Zek.eq_2]
  have lo:out.length=i:=by rw [h3,List.length_map,List.length_take];omega
  by_cases hi:i<n.2.2.1.length
  ·rw [if_pos (decide_eq_true (by omega)),Zz hi,Option.bind_some,Z6 (by simp only [List.length_singleton,maxLen];omega),Zr (by omega)]
   exact Zv3 N n hl m (i+1) _ (by omega) (by omega) (by rw [h3,List.take_add_one,List.getElem?_eq_getElem hi,Option.toList_some,List.map_append];rfl)
  ·rw [if_neg (by rw [decide_eq_false (by omega)];decide),h3,List.take_of_length_le (by omega)]
theorem Z3p {N:Nat} {n:Xt} (hl:n.2.2.1.length≤1048576) (hN:1048576<N):Zej N n=some (n.2.2.1.map fun l=>(l.length:Int)):=by
 rw [Zej]
 exact Zv3 N n hl N 0 [] (by omega) (by omega) (by simp)
theorem Zmn {vals:List Ra} {i:Nat} (h:i<vals.length):Zn (vals.map fun l=>(l.length:Int)) (i:Int)=some (vals[i].length:Int):=by
 rw [Zz (by rw [List.length_map];exact h),List.getElem_map]
theorem Znh (N:Nat) (ps:List Int) (vals:List Ra) (hb:∀ l ∈ vals,l.length≤1048576) (hne:∀ l ∈ vals,l≠[]) (hp:∀ p ∈ ps,0≤p∧p<(vals.length:Int)) (hps:ps.length≤1048576):∀ (m i k:Nat),i≤ps.length→ps.length<m+i→k≤1099511627776→
  Za5 N ps (vals.map fun l=>(l.length:Int)) m (k:Int) (i:Int)=some (Yj vals (ps.drop i) k:Int)
 | 0,i,k,h1,h2,_=>by omega
 | m+1,i,k,h1,h2,h3=>by
  rw [Za5.eq_2]
  by_cases hi:i<ps.length
  ·have h4:=hp _ (List.getElem_mem hi)
   have h5:(ps[i]).toNat<vals.length:=by omega
   have h6:=hb _ (List.getElem_mem h5)
   have h7:0<vals[(ps[i]).toNat].length:=List.length_pos_iff.2 (hne _ (List.getElem_mem h5))
   have h8:=Zlx h3 h6
   rw [if_pos (decide_eq_true (by omega)),Zz hi,Option.bind_some]
   conv=>lhs;rw [show ps[i]=(((ps[i]).toNat:Nat):Int) by omega]
   rw [Zmn h5,Option.bind_some,Z6 (by omega),List.drop_eq_getElem_cons hi,Yj,Yk h5]
   have e:i64.wrap (Int.tdiv 1099511627776 (vals[(ps[i]).toNat].length:Int))=((1099511627776 / vals[(ps[i]).toNat].length:Nat):Int):=by
    rw [Int.tdiv_eq_ediv_of_nonneg (by decide),show (1099511627776:Int)=((1099511627776:Nat):Int) from rfl,← Int.natCast_ediv]
    refine Zr ⟨by have:=Int.natCast_nonneg (1099511627776 / vals[(ps[i]).toNat].length);omega,?_⟩
    have:=Nat.div_le_self 1099511627776 vals[(ps[i]).toNat].length
    omega
   rw [e]
   have cmp:1099511627776 / vals[(ps[i]).toNat].length<k↔1099511627776<k * vals[(ps[i]).toNat].length:=Nat.div_lt_iff_lt_mul h7
   by_cases h9:1099511627776<k * vals[(ps[i]).toNat].length
   ·rw [if_pos (decide_eq_true (Int.ofNat_lt.2 (cmp.2 h9))),Zg6,Zr (by omega),Nat.min_eq_right (by omega)]
    exact Znh N ps vals hb hne hp hps m (i+1) 1099511627776 (by omega) (by omega) (by omega)
   ·rw [if_neg (by rw [decide_eq_false (fun h=>h9 (cmp.1 (Int.ofNat_lt.1 h)))];decide),Zg6,← Int.natCast_mul,Zr (by omega),Zr (by omega),Nat.min_eq_left (by omega)]
    exact Znh N ps vals hb hne hp hps m (i+1) _ (by omega) (by omega) (by omega)
  ·rw [if_neg (by rw [decide_eq_false (by omega)];decide),List.drop_eq_nil_of_le (by omega),Yj]
theorem Zqi (N:Nat) (ps:List Int) (vals:List Ra) (hb:∀ l ∈ vals,l.length≤1048576) (hne:∀ l ∈ vals,l≠[]) (hp:∀ p ∈ ps,0≤p∧p<(vals.length:Int)) (hps:ps.length≤1048576) (hN:1048577<N):∀ (m i:Nat),i≤ps.length→ps.length<m+i→
  Zeh N ps (vals.map fun l=>(l.length:Int)) m (i:Int)=some (Yj vals ps 1:Int)
 | 0,i,h1,h2=>by omega
 | m+1,i,h1,h2=>by
  rw [Zeh.eq_2]
  by_cases hi:i<ps.length
  ·have h4:=hp _ (List.getElem_mem hi)
   have h5:(ps[i]).toNat<vals.length:=by omega
   have h7:0<vals[(ps[i]).toNat].length:=List.length_pos_iff.2 (hne _ (List.getElem_mem h5))
   rw [if_pos (decide_eq_true (by omega)),Zz hi,Option.bind_some]
   conv=>lhs;rw [show ps[i]=(((ps[i]).toNat:Nat):Int) by omega]
   rw [Zmn h5,Option.bind_some,if_neg (by rw [decide_eq_false (by omega)];decide),Zr (by omega)]
   exact Zqi N ps vals hb hne hp hps hN m (i+1) (by omega) (by omega)
  ·rw [if_neg (by rw [decide_eq_false (by omega)];decide)]
   exact Znh N ps vals hb hne hp hps N 0 1 (by omega) (by omega) (by omega)
theorem Zzh {N:Nat} {ps:List Int} {vals:List Ra} (hb:∀ l ∈ vals,l.length≤1048576) (hne:∀ l ∈ vals,l≠[]) (hp:∀ p ∈ ps,0≤p∧p<(vals.length:Int)) (hps:ps.length≤1048576) (hN:1048577<N):Zjj N ps (vals.map fun l=>(l.length:Int))=some (Yj vals ps 1:Int):=by
 rw [Zjj]
 exact Zqi N ps vals hb hne hp hps hN N 0 (by omega) (by omega)
theorem Z2a {r c:Nat} (hc:0<c):Zjl (r:Int) (c:Int)=some (decide (65536<r * c)):=by
 have e:i64.wrap (Int.tdiv 65536 (c:Int))=((65536 / c:Nat):Int):=by
  rw [Int.tdiv_eq_ediv_of_nonneg (by decide),show (65536:Int)=((65536:Nat):Int) from rfl,← Int.natCast_ediv]
  refine Zr ⟨by have:=Int.natCast_nonneg (65536 / c);omega,?_⟩
  have:=Nat.div_le_self 65536 c
  omega
 rw [Zjl,if_pos (decide_eq_true (by omega)),Z6 (by omega),e,Zjm]
 congr 1
 refine decide_eq_decide.2 ?_
 rw [Int.ofNat_lt]
 exact Nat.div_lt_iff_lt_mul hc
def Tx (vals:List Ra) (P:List R2) (T:List (List QV)):Nat→Nat→Int
 | 0,_=>0
 | m+1,v=>if 65536<Yj vals (P.getD v []) 1 * (vals.getD v []).length then 4 else if Yj vals (P.getD v []) 1 * (vals.getD v []).length≠(T.getD v []).length then 60 else Tx vals P T m (v+1)
structure Ue (n:Xt) (W:Nat):Prop where
 nm:n.2.1.length≤1048575
 vl:∀ l ∈ n.2.2.1,l.length≤1048576
 pn:Zkh n.2.2.2.1
 tl:∀ t ∈ n.2.2.2.2,t.length≤1048576
 tq:∀ t ∈ n.2.2.2.2,X9 t≤W
 lim:∀ t ∈ n.2.2.2.2,∀ x ∈ t,Wx x
structure Th (n:Xt):Prop where
 v:n.2.2.1.length=n.2.1.length
 p:n.2.2.2.1.length=n.2.1.length
 t:n.2.2.2.2.length=n.2.1.length
 i:Uc n.2.2.2.1.length n.2.2.2.1=true
 ne:∀ l ∈ n.2.2.1,l≠[]
theorem Th.par {n:Xt} (h:Th n) {ps:List Int} (hp:ps ∈ n.2.2.2.1):∀ p ∈ ps,0≤p∧p<(n.2.2.1.length:Int):=by
 have:=Zru h.i ps hp
 rw [h.p] at this
 rw [h.v];exact this
theorem Zs8 {N W:Nat} {n:Xt} (hs:Ue n W) (he:Th n):∀ (l:List (List QV)) (k:Nat),n.2.2.2.2.drop k=l→k≤n.2.1.length→Zan N n l k=if Tx n.2.2.1 n.2.2.2.1 n.2.2.2.2 l.length k=0 then Zao N n n.2.2.2.2 else some (Tx n.2.2.1 n.2.2.2.1 n.2.2.2.2 l.length k)
 | [],k,_,_=>by rw [Zan.eq_1];rfl
 | t :: l,k,hd,hk=>by
  have ht:=he.t;have hv:=he.v;have hp:=he.p
  have hk1:k<n.2.2.2.2.length:=by
   rcases Nat.lt_or_ge k n.2.2.2.2.length with h | h
   ·exact h
   ·rw [List.drop_eq_nil_of_le h] at hd;cases hd
  have hd2:=List.drop_eq_getElem_cons hk1
  rw [hd] at hd2
  obtain ⟨hx,hl2⟩:=List.cons.inj hd2
  have kv:k<n.2.2.1.length:=by omega
  have kp:k<n.2.2.2.1.length:=by omega
  have r1:=Zo1 n.2.2.1 (n.2.2.2.1[k]) 1 (by omega)
  have c1:=hs.vl _ (List.getElem_mem kv)
  have r2:=Zlx r1 c1
  have hrow:Zf9 n (k:Int)=some (Yj n.2.2.1 n.2.2.2.1[k] 1:Int):=by
   rw [Zf9,Zz kp,Option.bind_some]
   exact Zs7 n hs.vl _ 1 (by omega) (he.par (List.getElem_mem kp))
  rw [Zan.eq_2]
  have hrow':Zf9 (n.1,n.2.1,n.2.2.1,n.2.2.2.1,n.2.2.2.2) (k:Int)=some (Yj n.2.2.1 n.2.2.2.1[k] 1:Int):=hrow
  rw [hrow',Option.bind_some,Zz kv,Option.bind_some,← Int.natCast_mul,Zr (by omega),List.length_cons,Tx,Yk kp,Yk kv,Yk hk1,← hx]
  generalize Yj n.2.2.1 n.2.2.2.1[k] 1 * n.2.2.1[k].length=rc at *
  by_cases h1:65536<rc
  ·rw [if_pos (decide_eq_true (by omega)),if_pos h1,if_neg (by decide)]
  ·rw [if_neg (by rw [decide_eq_false (by omega)];decide),if_neg h1]
   by_cases h2:rc=t.length
   ·rw [if_neg (by rw [decide_eq_true (by omega)];decide),if_neg (show ¬ rc≠t.length from fun h=>h h2)]
    exact Zs8 hs he l (k+1) hl2.symm (by omega)
   ·rw [if_pos (by rw [decide_eq_false (by omega)];decide),if_pos h2,if_neg (by decide)]
theorem Zvu {N W:Nat} {n:Xt} (hN:1048577<N) (hs:Ue n W) (he:Th n):∀ (m fuel v:Nat),m+v=n.2.1.length→m<fuel→
  Za3 N n (n.2.2.1.map fun l=>(l.length:Int)) fuel (v:Int)=if Tx n.2.2.1 n.2.2.2.1 n.2.2.2.2 m v=0 then Zaa N n (n.2.2.1.map fun l=>(l.length:Int)) N 0 else some (Tx n.2.2.1 n.2.2.2.1 n.2.2.2.2 m v)
 | 0,0,v,_,h=>by omega
 | 0,fuel+1,v,h1,_=>by
  rw [Za3.eq_2,if_neg (by rw [decide_eq_false (by omega)];decide)];rfl
 | m+1,0,v,_,h=>by omega
 | m+1,fuel+1,v,h1,h2=>by
  have ht:=he.t;have hv:=he.v;have hp:=he.p;have hnm:=hs.nm
  have kt:v<n.2.2.2.2.length:=by omega
  have kv:v<n.2.2.1.length:=by omega
  have kp:v<n.2.2.2.1.length:=by omega
  have r1:=Zo1 n.2.2.1 (n.2.2.2.1[v]) 1 (by omega)
  have c1:=hs.vl _ (List.getElem_mem kv)
  have c0:0<n.2.2.1[v].length:=List.length_pos_iff.2 (he.ne _ (List.getElem_mem kv))
  have r2:=Zlx r1 c1
  rw [Za3.eq_2,if_pos (decide_eq_true (by omega)),Zz kp,Option.bind_some,Zzh hs.vl he.ne (he.par (List.getElem_mem kp)) (hs.pn.ls _ (List.getElem_mem kp)) hN,Option.bind_some,Zmn kv,Option.bind_some,Z2a c0,Option.bind_some,Tx,Yk kp,Yk kv,Yk kt,← Int.natCast_mul,Zr (by omega)]
  generalize Yj n.2.2.1 n.2.2.2.1[v] 1 * n.2.2.1[v].length=rc at *
  by_cases h3:65536<rc
  ·rw [if_pos (decide_eq_true (by omega)),if_pos h3,if_neg (by decide)]
  ·rw [if_neg (by rw [decide_eq_false (by omega)];decide),if_neg h3,Zz kt,Option.bind_some]
   by_cases h4:rc=n.2.2.2.2[v].length
   ·rw [if_neg (by rw [decide_eq_true (by omega)];decide),if_neg (show ¬ rc≠n.2.2.2.2[v].length from fun h=>h h4),Zr (by omega)]
    exact Zvu hN hs he m fuel (v+1) (by omega) (by omega)
   ·rw [if_pos (by rw [decide_eq_false (by omega)];decide),if_pos h4,if_neg (by decide)]
def Vp (x:QV):Bool:=decide (Zv x<0)||decide (1<Zv x)
theorem Zt3 {a b:Rat}:0<Vq a b↔b<a:=by
 rw [Vq]
 by_cases h:a<b
 ·rw [if_pos h]
  constructor
  ·intro h2;omega
  ·intro h2;exact absurd (Rat.le_of_lt h2) (Rat.not_le.2 h)
 ·rw [if_neg h]
  by_cases h2:b<a
  ·simp [h2]
  ·simp [h2]
theorem Zl4 {a b:Rat}:Vq a b=0↔a=b:=by
 rw [Vq]
 constructor
 ·intro h
  split at h
  ·cases h
  ·split at h
   ·cases h
   ·rename_i h1 h2
    exact Rat.le_antisymm (Rat.not_lt.1 h2) (Rat.not_lt.1 h1)
 ·rintro rfl
  rw [if_neg Rat.lt_irrefl,if_neg Rat.lt_irrefl]
theorem Zs5 {N:Nat} (hr:Xd N 8):Zf6 N=some (Zq 1):=by
 rw [Zf6,Z0g (by omega) (by omega) (hr.mono (by omega)),Option.bind_some,if_neg (by decide)]
 have:((1:Int):Rat) / ((1:Int):Rat)=1:=div_one _
 rw [this]
theorem Zvl {N:Nat} (hr:Xd N 8):Zg7 N=some (Zq 1):=by
 rw [Zg7,Zv5 hr];rfl
theorem Zmk:RV 1 (Zq 1):=Wh (by rw [Z2e];omega)
theorem Z1r {N k:Nat} {x:QV} (hx:RV k x) (hr:Xd N (2 * k+16)):Zf7 N x=some (Vp x):=by
 have h2:Zfv N ((x.1.1,x.1.2),x.2)=some (Zcu (Zv x)):=Z0j hx (hr.mono (by omega))
 rw [Zf7,h2,Option.bind_some,Vp]
 by_cases h:Zv x<0
 ·rw [if_pos (decide_eq_true (Zl6.2 h)),Zf8,decide_eq_true h,Bool.true_or]
 ·rw [if_neg (by rw [decide_eq_false (fun h3=>h (Zl6.1 h3))];decide),decide_eq_false h,Bool.false_or,Zs5 (hr.mono (by omega)),Option.bind_some,Zik (a:=((x.1.1,x.1.2),x.2)) (b:=Zq 1) hx Zmk (hr.mono (by omega)),Option.bind_some,Zf8,Yy]
  congr 1
  exact decide_eq_decide.2 Zt3
theorem Z3f {N k:Nat} {x:QV} (hx:RV k x) (hr:Xd N (2 * k+16)):Zg8 N x=some (Vp x):=by
 have h2:Zgy N ((x.1.1,x.1.2),x.2)=some (Zcu (Zv x)):=Z3b hx (hr.mono (by omega))
 rw [Zg8,h2,Option.bind_some,Vp]
 by_cases h:Zv x<0
 ·rw [if_pos (decide_eq_true (Zl6.2 h)),Zg9,decide_eq_true h,Bool.true_or]
 ·rw [if_neg (by rw [decide_eq_false (fun h3=>h (Zl6.1 h3))];decide),decide_eq_false h,Bool.false_or,Zvl (hr.mono (by omega)),Option.bind_some,Zj5 (a:=((x.1.1,x.1.2),x.2)) (b:=Zq 1) hx Zmk (hr.mono (by omega)),Option.bind_some,Zg9,Yy]
  congr 1
  exact decide_eq_decide.2 Zt3
def V0 (x:QV):QV:=if Zb x.2=0 then (x.1,[1]) else x
theorem Zq6 {x:QV} (h:Wx x):Wx (V0 x):=by
 rw [V0];split
 ·exact ⟨h.1,.cons (by decide) .nil⟩
 ·exact h
theorem Zq7 (x:QV):Zv (V0 x)=Zv x:=by
 rw [V0];split
 ·rename_i h
  rw [Zv,Zv]
  show mkRat (Zs x.1) (X1 [1])=mkRat (Zs x.1) (X1 x.2)
  rw [X1,X1,if_pos h]
  congr 1
 ·rfl
theorem Z0c (x:QV):Vp (V0 x)=Vp x:=by rw [Vp,Vp,Zq7]
theorem Z0b (x:QV):max (V0 x).1.2.length (V0 x).2.length≤max x.1.2.length x.2.length+1:=by
 rw [V0];split
 ·show max x.1.2.length [(1:Int)].length≤_
  simp only [List.length_singleton];omega
 ·omega
theorem Zom:∀ l:List QV,2 * l.length≤X9 l
 | []=>by simp [X9]
 | a :: l=>by rw [X9,List.length_cons];have:=Zom l;omega
theorem Zol:∀ l:List QV,X9 (l.map V0)≤X9 l+l.length
 | []=>by simp [X9]
 | a :: l=>by
  rw [List.map_cons,X9,X9,List.length_cons]
  have:=Zol l;have:=Z0b a;omega
theorem Zt4 (a b:List QV):X9 (a++b)=X9 a+X9 b:=by
 induction a with
 | nil=>simp [X9]
 | cons x a ih=>rw [List.cons_append,X9,X9,ih];omega
theorem Zon (l:List QV) (k:Nat):X9 (l.take k)≤X9 l:=by
 have:=Zt4 (l.take k) (l.drop k)
 rw [List.take_append_drop] at this;omega
theorem Zok (l:List QV) (k:Nat):X9 (l.drop k)≤X9 l:=by
 have:=Zt4 (l.take k) (l.drop k)
 rw [List.take_append_drop] at this;omega
theorem Zt6 {l:List QV} {x:QV} (h:x ∈ l):max x.1.2.length x.2.length≤X9 l:=by
 induction l with
 | nil=>simp at h
 | cons y l ih=>
  rw [X9]
  rcases List.mem_cons.1 h with rfl | h
  ·omega
  ·have:=ih h;omega
theorem Z0e {N k:Nat} {x:QV} (h:Wx x) (hk:max x.1.2.length x.2.length≤k) (hr:Xd N k):Zf1 N x=some (V0 x):=by
 obtain ⟨r1,r2⟩:=hr
 rw [Zf1,Zoa h.2 (by omega) (by omega),Option.bind_some,V0]
 by_cases h0:Zb x.2=0
 ·rw [h0,Wt,if_pos (by decide),if_pos rfl,Zj0 (by decide) (by omega),Option.bind_some,Zf2,show (1:Int).toNat=1 from rfl,Ta]
 ·have:=Tm h0
  rw [if_neg (by rw [decide_eq_false (by omega)];decide),if_neg h0,Zf2]
theorem Zrc {N W:Nat} (hr:Xd N W):∀ (l out:List QV),(∀ x ∈ l,Wx x)→X9 l≤W→out.length+l.length≤1048576→Zbz N l out=some (out++l.map V0)
 | [],out,_,_,_=>by rw [Zbz.eq_1];simp
 | x :: l,out,hl,hq,hlen=>by
  rw [X9] at hq
  rw [List.length_cons] at hlen
  have h1:Zf1 N ((x.1.1,x.1.2),x.2)=some (V0 x):=Z0e (x:=x) (hl x List.mem_cons_self) (k:=W) (by omega) hr
  rw [Zbz.eq_2,h1,Option.bind_some,Z6 (by simp only [List.length_singleton,maxLen];omega),Zrc hr l _ (fun y hy=>hl y (List.mem_cons_of_mem _ hy)) (by omega) (by simp only [List.length_append,List.length_singleton];omega)]
  simp
theorem Zrd {N W:Nat} {l:List QV} (hr:Xd N W) (hl:∀ x ∈ l,Wx x) (hq:X9 l≤W) (hlen:l.length≤1048576):Zf3 N l=some (l.map V0):=by
 rw [Zf3,Z6 (by simp only [maxLen];omega),Zrc hr l [] hl hq (by simpa using hlen),List.nil_append]
theorem Zrq {N W:Nat} (hr:Xd N (2 * W+16)):∀ (l:List QV) (k:Nat),(∀ x ∈ l,Wx x)→X9 l≤W→∃ j:Int,Zez N l k=some j∧(0≤j↔l.any Vp=true)
 | [],k,_,_=>⟨-1,rfl,by simp⟩
 | x :: l,k,hl,hq=>by
  rw [X9] at hq
  have hx:=hl x List.mem_cons_self
  have h1:Zf7 N ((x.1.1,x.1.2),x.2)=some (Vp x):=Z1r (x:=x) (Zcy hx.1 hx.2) (hr.mono (by omega))
  rw [Zez.eq_2,h1,Option.bind_some,List.any_cons]
  cases Vp x with
  | true=>rw [if_pos rfl];exact ⟨_,rfl,by simp⟩
  | false=>
   rw [if_neg (by decide)]
   obtain ⟨j,h1,h2⟩:=Zrq hr l (k+1) (fun y hy=>hl y (List.mem_cons_of_mem _ hy)) (by omega)
   exact ⟨j,h1,by rw [h2];simp⟩
def Zdc (T:List (List QV)):Bool:=T.any fun t=>t.any Vp
theorem Zw7 (l:List QV):(l.map V0).any Vp=l.any Vp:=by
 induction l with
 | nil=>rfl
 | cons x l ih=>rw [List.map_cons,List.any_cons,List.any_cons,ih,Z0c]
theorem Zsx {N W:Nat} {n:Xt} (hr:Xd N (4 * W+16)):∀ l:List (List QV),(∀ t ∈ l,t.length≤1048576∧X9 t≤W∧∀ x ∈ t,Wx x)→Zao N n l=if Zdc l=true then some 45 else Zby N n n.2.2.2.2 0
 | [],_=>by rw [Zao.eq_1];rfl
 | t :: l,h=>by
  obtain ⟨h1,h2,h3⟩:=h t List.mem_cons_self
  have hp:=Zom t
  have hf:=Zol t
  obtain ⟨j,j1,j2⟩:=Zrq (N:=N) (W:=2 * W) (hr.mono (by omega)) (t.map V0) 0 (fun x hx=>by
   obtain ⟨y,hy,rfl⟩:=List.mem_map.1 hx
   exact Zq6 (h3 y hy)) (by omega)
  rw [Zao.eq_2,Zrd (W:=W) (hr.mono (by omega)) h3 h2 h1,Option.bind_some,Zlt,Zlu,j1,Option.bind_some,Option.bind_some,Zdc,List.any_cons]
  rw [Zw7] at j2
  by_cases ho:t.any Vp=true
  ·rw [if_pos (decide_eq_true (j2.2 ho)),ho,Bool.true_or,if_pos rfl]
  ·rw [if_neg (by rw [decide_eq_false (fun h=>ho (j2.1 h))];decide),Bool.eq_false_iff.2 ho,Bool.false_or]
   exact Zsx hr l fun x hx=>h x (List.mem_cons_of_mem _ hx)
theorem Zu2 {N W:Nat} {n:Xt} (sz:List Int) (hr:Xd N (4 * W+16)) {v:Nat} (hv:v<n.2.2.2.2.length) (hvs:v<1048576) (h1:n.2.2.2.2[v].length≤1048576) (h2:X9 n.2.2.2.2[v]≤W) (h3:∀ x ∈ n.2.2.2.2[v],Wx x) (kk:Int→Option Int):∀ (m i:Nat),i≤n.2.2.2.2[v].length→n.2.2.2.2[v].length<m+i→
  Zeg N n (v:Int) kk m (i:Int)=if ((n.2.2.2.2[v]).drop i).any Vp=true then some 45 else kk ((v:Int)+1)
 | 0,i,g1,g2=>by omega
 | m+1,i,g1,g2=>by
  rw [Zeg.eq_2,Zz hv,Option.bind_some]
  by_cases hi:i<n.2.2.2.2[v].length
  ·have hx:=h3 _ (List.getElem_mem hi)
   have hm:=Zt6 (List.getElem_mem hi)
   have e:Zg8 N (((n.2.2.2.2[v][i]).1.1,(n.2.2.2.2[v][i]).1.2),(n.2.2.2.2[v][i]).2)=some (Vp n.2.2.2.2[v][i]):=Z3f (x:=n.2.2.2.2[v][i]) (Zcy hx.1 hx.2) (hr.mono (by omega))
   rw [if_pos (decide_eq_true (by omega)),Zz hi,Option.bind_some,e,Option.bind_some,List.drop_eq_getElem_cons hi,List.any_cons]
   cases Vp n.2.2.2.2[v][i] with
   | true=>rw [if_pos rfl,Bool.true_or,if_pos rfl]
   | false=>
    rw [if_neg (by decide),Bool.false_or,Zr (by omega)]
    exact Zu2 sz hr hv hvs h1 h2 h3 kk m (i+1) (by omega) (by omega)
  ·rw [if_neg (by rw [decide_eq_false (by omega)];decide),List.drop_eq_nil_of_le (by omega),List.any_nil,if_neg (by decide),Zr (by omega)]
theorem Zu1 {N W:Nat} {n:Xt} (sz:List Int) (hs:Ue n W) (he:n.2.2.2.2.length=n.2.1.length) (hr:Xd N (4 * W+16)) (hN:1048577<N):∀ (m fuel v:Nat),m+v=n.2.1.length→m<fuel→
  Zaa N n sz fuel (v:Int)=if Zdc (n.2.2.2.2.drop v)=true then some 45 else Za4 N n sz N 0
 | 0,0,v,_,h=>by omega
 | 0,fuel+1,v,h1,_=>by
  rw [Zaa.eq_2,if_neg (by rw [decide_eq_false (by omega)];decide),List.drop_eq_nil_of_le (by omega)];rfl
 | m+1,0,v,_,h=>by omega
 | m+1,fuel+1,v,h1,h2=>by
  have hv:v<n.2.2.2.2.length:=by omega
  have hnm:=hs.nm
  have hm:=List.getElem_mem hv
  rw [Zaa.eq_2,if_pos (decide_eq_true (by omega)),show (0:Int)=((0:Nat):Int) from rfl,Zu2 sz hr hv (by omega) (hs.tl _ hm) (hs.tq _ hm) (hs.lim _ hm) _ N 0 (by omega) (by have:=hs.tl _ hm;omega),List.drop_zero,List.drop_eq_getElem_cons hv,Zdc,List.any_cons]
  cases n.2.2.2.2[v].any Vp with
  | true=>rw [if_pos rfl,Bool.true_or,if_pos rfl]
  | false=>
   rw [if_neg (by decide),Bool.false_or]
   exact Zu1 sz hs he hr hN m fuel (v+1) (by omega) (by omega)
def Tt (c:Nat):Nat→List QV→Bool
 | 0,_=>true
 | m+1,l=>decide (Va (l.take c)=1)&&Tt c m (l.drop c)
def Zig (c:Nat):Nat→List QV→List (List QV)
 | 0,_=>[]
 | m+1,l=>l.take c :: Zig c m (l.drop c)
theorem Zqj (N:Nat) (l:List QV) (c:Nat) (hc:0<c) (hl:l.length≤1048576) (hcs:c≤1048576):∀ (m fuel i:Nat),i+m * c=l.length→m<fuel→Zco N l (c:Int) fuel (i:Int)=some (Zig c m (l.drop i))
 | 0,0,i,_,h=>by omega
 | 0,fuel+1,i,h1,_=>by
  rw [Zco.eq_2,if_neg (by rw [decide_eq_false (by omega)];decide)];rfl
 | m+1,0,i,_,h=>by omega
 | m+1,fuel+1,i,h1,h2=>by
  have h3:i+c+m * c=l.length:=by rw [Nat.add_mul,Nat.one_mul] at h1;omega
  have e:(if ((l.drop i).length:Int)<(c:Int) then ((l.drop i).length:Int) else (c:Int))=(c:Int):=by
   rw [List.length_drop]
   by_cases h:((l.length - i:Nat):Int)<(c:Int)
   ·omega
   ·rw [if_neg h]
  rw [Zco.eq_2,if_pos (decide_eq_true (by omega)),Int.toNat_natCast,e,Zr (by omega),Z6 (by omega),Z6 (by omega),show (i:Int)+(c:Int)=((i+c:Nat):Int) by omega,Zqj N l c hc hl hcs m fuel (i+c) (by omega) (by omega),Option.bind_some,Int.toNat_natCast,Zig,List.drop_take,show i+c - i=c by omega,List.drop_drop]
theorem Z2g (l:List QV):Va (l.map V0)=Va l:=by
 rw [Va,Va,List.map_map]
 congr 1
 exact List.map_congr_left fun x _=>Zq7 x
theorem Zto (c:Nat):∀ (m:Nat) (l:List QV),Tt c m (l.map V0)=Tt c m l
 | 0,l=>rfl
 | m+1,l=>by rw [Tt,Tt,← List.map_take,← List.map_drop,Z2g,Zto c m]
theorem Zte {N W:Nat} (hr:Xd N (4 * W+40)) (c:Nat) (b:Bool):∀ (m:Nat) (l:List QV),(∀ x ∈ l,Wx x)→X9 l≤W→Zds N (Zig c m l) b=some (Tt c m l)
 | 0,l,_,_=>rfl
 | m+1,l,hl,hq=>by
  have ht:=Zon l c
  have hd:=Zok l c
  obtain ⟨s1,s2⟩:=Zns (N:=N) (l:=l.take c) (fun x hx=>hl x (List.mem_of_mem_take hx)) (hr.mono (by omega))
  rw [Zig,Zds.eq_2,s1,Option.bind_some,Zs5 (hr.mono (by omega)),Option.bind_some,Zik (a:=Zq _) (b:=Zq 1) (Wh s2) Zmk (hr.mono (by omega)),Option.bind_some,Yy,Yy,Tt]
  by_cases h:Va (l.take c)=1
  ·rw [if_neg (by rw [Zl4.2 h];decide),decide_eq_true h,Bool.true_and]
   exact Zte hr c b m _ (fun x hx=>hl x (List.mem_of_mem_drop hx)) (by omega)
  ·rw [if_pos (by rw [decide_eq_false (fun h2=>h (Zl4.1 h2))];decide),decide_eq_false h,Bool.false_and];rfl
theorem Z1t {N W c m:Nat} {l:List QV} (hr:Xd N (4 * W+40)) (hl:∀ x ∈ l,Wx x) (hq:X9 l≤W) (hc:0<c) (hcs:c≤1048576) (hll:l.length≤1048576) (hm:m * c=l.length) (hN:1048577<N):Ziz N l (c:Int)=some (Tt c m l):=by
 have hmc:m≤l.length:=by rw [← hm];exact Nat.le_mul_of_pos_right m hc
 rw [Ziz,Zlq,if_neg (by rw [decide_eq_false (by omega)];decide),Zls,Zlr,show (0:Int)=((0:Nat):Int) from rfl,Zqj N l c hc hll hcs m N 0 (by omega) (by omega),Option.bind_some,List.drop_zero]
 exact Zte hr c false m l hl hq
theorem Zvy {N W c:Nat} {l:List QV} (hr:Xd N (4 * W+40)) (hl:∀ x ∈ l,Wx x) (hq:X9 l≤W) (hc:0<c) (hcs:c≤1048576) (hll:l.length≤1048576) (hN:1048577<N):∀ (m fuel i:Nat),i+m * c=l.length→m<fuel→Zcf N l (c:Int) fuel (i:Int)=some (Tt c m (l.drop i))
 | 0,0,i,_,h=>by omega
 | 0,fuel+1,i,h1,_=>by
  rw [Zcf.eq_2,if_neg (by rw [decide_eq_false (by omega)];decide)];rfl
 | m+1,0,i,_,h=>by omega
 | m+1,fuel+1,i,h1,h2=>by
  have h3:i+c+m * c=l.length:=by rw [Nat.add_mul,Nat.one_mul] at h1;omega
  have ht:=Zon (l.drop i) c
  have hd:=Zok l i
  have hlim:∀ x ∈ (l.drop i).take c,Wx x:=fun x hx=>hl x (List.mem_of_mem_drop (List.mem_of_mem_take hx))
  obtain ⟨_,s2⟩:=Zns (N:=N) (l:=(l.drop i).take c) hlim (hr.mono (by omega))
  have hlen:((l.drop i).take c).length≤1048576:=by rw [List.length_take,List.length_drop];omega
  rw [Zcf.eq_2,if_pos (decide_eq_true (by omega)),Zr (by omega),Z6 (by omega),show (i:Int)+(c:Int)=((i+c:Nat):Int) by omega,Int.toNat_natCast,Int.toNat_natCast,List.drop_take,show i+c - i=c by omega,Z3d hlim (by omega) (by omega) (hr.mono (by omega)),Option.bind_some,Zvl (hr.mono (by omega)),Option.bind_some,Zj5 (a:=Zq _) (b:=Zq 1) (Wh s2) Zmk (hr.mono (by omega)),Option.bind_some,Yy,Yy,Tt]
  by_cases h:Va ((l.drop i).take c)=1
  ·rw [if_neg (by rw [Zl4.2 h];decide),decide_eq_true h,Bool.true_and,List.drop_drop]
   exact Zvy hr hl hq hc hcs hll hN m fuel (i+c) (by omega) (by omega)
  ·rw [if_pos (by rw [decide_eq_false (fun h2=>h (Zl4.1 h2))];decide),decide_eq_false h,Bool.false_and]
def Zhx (vals:List Ra) (P:List R2) (T:List (List QV)):Nat→Nat→Int
 | 0,_=>0
 | m+1,v=>if Tt (vals.getD v []).length (Yj vals (P.getD v []) 1) (T.getD v [])=true then Zhx vals P T m (v+1) else 46
theorem Zml {vals:List Ra} {P:List R2} {T:List (List QV)}:∀ (m v:Nat),Tx vals P T m v=0→∀ i,v≤i→i<v+m→Yj vals (P.getD i []) 1 * (vals.getD i []).length=(T.getD i []).length∧(T.getD i []).length≤65536
 | 0,v,_,i,h1,h2=>by omega
 | m+1,v,h,i,h1,h2=>by
  rw [Tx] at h
  by_cases h3:65536<Yj vals (P.getD v []) 1 * (vals.getD v []).length
  ·rw [if_pos h3] at h;cases h
  ·rw [if_neg h3] at h
   by_cases h4:Yj vals (P.getD v []) 1 * (vals.getD v []).length=(T.getD v []).length
   ·rw [if_neg (show ¬ Yj vals (P.getD v []) 1 * (vals.getD v []).length≠(T.getD v []).length from fun h=>h h4)] at h
    rcases Nat.lt_or_ge v i with h5 | h5
    ·exact Zml m (v+1) h i (by omega) (by omega)
    ·have:i=v:=by omega
     subst this
     exact ⟨h4,by omega⟩
   ·rw [if_pos h4] at h;cases h
theorem Zs9 {N W:Nat} {n:Xt} (hs:Ue n W) (he:Th n) (hsh:Tx n.2.2.1 n.2.2.2.1 n.2.2.2.2 n.2.1.length 0=0) (hr:Xd N (8 * W+40)) (hN:1048577<N):∀ (l:List (List QV)) (k:Nat),n.2.2.2.2.drop k=l→k≤n.2.1.length→Zby N n l k=some (Zhx n.2.2.1 n.2.2.2.1 n.2.2.2.2 l.length k)
 | [],k,_,_=>rfl
 | t :: l,k,hd,hk=>by
  have ht:=he.t;have hv:=he.v;have hp:=he.p
  have hk1:k<n.2.2.2.2.length:=by
   rcases Nat.lt_or_ge k n.2.2.2.2.length with h | h
   ·exact h
   ·rw [List.drop_eq_nil_of_le h] at hd;cases hd
  have hd2:=List.drop_eq_getElem_cons hk1
  rw [hd] at hd2
  obtain ⟨hx,hl2⟩:=List.cons.inj hd2
  have kv:k<n.2.2.1.length:=by omega
  have kp:k<n.2.2.2.1.length:=by omega
  have hm:t ∈ n.2.2.2.2:=by rw [hx];exact List.getElem_mem hk1
  have c1:=hs.vl _ (List.getElem_mem kv)
  have c0:0<n.2.2.1[k].length:=List.length_pos_iff.2 (he.ne _ (List.getElem_mem kv))
  obtain ⟨s1,s2⟩:=Zml _ 0 hsh k (by omega) (by omega)
  rw [Yk kv,Yk hk1,← hx] at s1
  rw [Yk hk1,← hx] at s2
  have hq:=hs.tq t hm
  have hp2:=Zom t
  have hf:=Zol t
  rw [Zby.eq_2,Zz kv,Option.bind_some,Zrd (W:=W) (hr.mono (by omega)) (hs.lim t hm) hq (hs.tl t hm),Option.bind_some,
   Z1t (W:=2 * W) (m:=Yj n.2.2.1 (n.2.2.2.1.getD k []) 1) (hr.mono (by omega)) (fun x hx=>by
    obtain ⟨y,hy,rfl⟩:=List.mem_map.1 hx
    exact Zq6 (hs.lim t hm y hy)) (by omega) c0 c1 (by rw [List.length_map];omega) (by rw [List.length_map];exact s1) hN,Option.bind_some,Zto,List.length_cons,Zhx,Yk kv,Yk hk1,← hx]
  cases Tt n.2.2.1[k].length (Yj n.2.2.1 (n.2.2.2.1.getD k []) 1) t with
  | true=>
   rw [if_neg (by decide),if_pos rfl]
   exact Zs9 hs he hsh hr hN l (k+1) hl2.symm (by omega)
  | false=>rw [if_pos (by decide),if_neg (by decide)]
theorem Zvx {N W:Nat} {n:Xt} (hs:Ue n W) (he:Th n) (hsh:Tx n.2.2.1 n.2.2.2.1 n.2.2.2.2 n.2.1.length 0=0) (hr:Xd N (8 * W+40)) (hN:1048577<N):∀ (m fuel v:Nat),m+v=n.2.1.length→m<fuel→
  Za4 N n (n.2.2.1.map fun l=>(l.length:Int)) fuel (v:Int)=some (Zhx n.2.2.1 n.2.2.2.1 n.2.2.2.2 m v)
 | 0,0,v,_,h=>by omega
 | 0,fuel+1,v,h1,_=>by
  rw [Za4.eq_2,if_neg (by rw [decide_eq_false (by omega)];decide)];rfl
 | m+1,0,v,_,h=>by omega
 | m+1,fuel+1,v,h1,h2=>by
  have ht:=he.t;have hv:=he.v;have hp:=he.p;have hnm:=hs.nm
  have kt:v<n.2.2.2.2.length:=by omega
  have kv:v<n.2.2.1.length:=by omega
  have hm:=List.getElem_mem kt
  have c1:=hs.vl _ (List.getElem_mem kv)
  have c0:0<n.2.2.1[v].length:=List.length_pos_iff.2 (he.ne _ (List.getElem_mem kv))
  obtain ⟨s1,s2⟩:=Zml _ 0 hsh v (by omega) (by omega)
  rw [Yk kv,Yk kt] at s1
  rw [Yk kt] at s2
  have hmc:Yj n.2.2.1 (n.2.2.2.1.getD v []) 1≤n.2.2.2.2[v].length:=by rw [← s1];exact Nat.le_mul_of_pos_right _ c0
  have hw:=Zvy (N:=N) (W:=W) (c:=n.2.2.1[v].length) (l:=n.2.2.2.2[v]) (hr.mono (by omega)) (hs.lim _ hm) (hs.tq _ hm) c0 c1 (hs.tl _ hm) hN (Yj n.2.2.1 (n.2.2.2.1.getD v []) 1) N 0 (by omega) (by omega)
  rw [List.drop_zero,show ((0:Nat):Int)=0 from rfl] at hw
  rw [Za4.eq_2,if_pos (decide_eq_true (by omega)),Zz kt,Option.bind_some,Zmn kv,Option.bind_some,Zlm,hw,Option.bind_some,Zhx,Yk kv,Yk kt]
  cases Tt n.2.2.1[v].length (Yj n.2.2.1 (n.2.2.2.1.getD v []) 1) n.2.2.2.2[v] with
  | true=>
   rw [if_neg (by decide),if_pos rfl,Zr (by omega)]
   exact Zvx hs he hsh hr hN m fuel (v+1) (by omega) (by omega)
  | false=>rw [if_pos (by decide),if_neg (by decide)]
structure Vx (N:Nat) (n:Xt):Prop where
 ev:Th n
 le:n.2.1.length≤1024
 nm:Ts n.2.1 n.2.2.1 n.2.1.length 0=0
 sh:Tx n.2.2.1 n.2.2.2.1 n.2.2.2.2 n.2.1.length 0=0
 en:Zdc n.2.2.2.2=false
 su:Zhx n.2.2.1 n.2.2.2.1 n.2.2.2.2 n.2.1.length 0=0
 tw:U3 n.2.2.2.1=false
 or:∃ l,Qr N n.2.2.2.1=some (l,0)∧Tc N n.2.2.2.1=some l∧Sm N n.2.2.2.1=some 0∧Us n.2.2.2.1 l∧l.length=n.2.2.2.1.length
theorem Zzf {N W:Nat} {n:Xt} (hs:Ue n W) (hr:Xd N (8 * W+40)) (hN:2000000<N):∃ e,Zf0 N n=some e∧Zg4 N n=some e∧(e=0→Vx N n):=by
 have hnm:=hs.nm
 -- shapes of the lists
 have J:∀ b:Bool,(b=true→Zbx N n b=some 60∧Zce N n b=some 60):=fun b hb=>by
  subst hb
  exact ⟨by rw [Zbx,if_pos rfl],by rw [Zce,if_pos rfl]⟩
 have J1:=J true rfl
 rw [Zf0,Zg4]
 by_cases hv:n.2.2.1.length=n.2.1.length
 ·by_cases hp:n.2.2.2.1.length=n.2.1.length
  ·by_cases ht:n.2.2.2.2.length=n.2.1.length
   ·rw [if_neg (by rw [decide_eq_true (by omega)];decide),if_neg (by rw [decide_eq_true (by omega)];decide),if_neg (by rw [decide_eq_true (by omega)];decide),if_neg (by rw [decide_eq_true (by omega)];decide),show (!decide ((n.2.2.2.2.length:Int)=(n.2.1.length:Int)))=false by rw [decide_eq_true (by omega)];rfl,Zbx,Zce,if_neg (show ¬ (false=true) by decide),if_neg (show ¬ (false=true) by decide)]
    by_cases hk:1024<n.2.1.length
    ·rw [if_pos (decide_eq_true (by omega)),if_pos (decide_eq_true (by omega))]
     exact ⟨4,rfl,rfl,fun h=>by cases h⟩
    ·rw [if_neg (by rw [decide_eq_false (by omega)];decide),if_neg (by rw [decide_eq_false (by omega)];decide)]
     have nn:Zf4 (n.1,n.2.1,n.2.2.1,n.2.2.2.1,n.2.2.2.2)=some (Ts n.2.1 n.2.2.1 n.2.1.length 0):=Z1v n hv
     have rn:=Zvg N n hv (by omega) hs.vl (by omega) n.2.1.length N 0 (by omega) (by omega)
     rw [show ((0:Nat):Int)=0 from rfl] at rn
     rw [nn,Option.bind_some,rn]
     by_cases hnms:Ts n.2.1 n.2.2.1 n.2.1.length 0=0
     ·rw [if_neg (by rw [decide_eq_true hnms];decide),if_pos hnms]
      obtain ⟨f,hf⟩:∃ f,N - n.2.1.length=f+1:=⟨N - n.2.1.length - 1,by omega⟩
      rw [hf,Sn.eq_2,if_neg (by rw [decide_eq_false (by omega)];decide)]
      have hne:∀ l ∈ n.2.2.1,l≠[]:=fun l hl=>by
       obtain ⟨i,hi,rfl⟩:=List.mem_iff_getElem.1 hl
       have:=(Ztg _ 0 hnms i (by omega) (by omega)).1
       rw [Yk hi] at this;exact this
      have fin:∀ e,Zal N n.2.2.2.1=some e→Sm N n.2.2.2.1=some e→e≠0→∃ e,((Zal N n.2.2.2.1).bind fun r_17=>if (!decide (r_17=0))=true then some r_17 else Zan N n n.2.2.2.2 0)=some e∧((Sm N n.2.2.2.1).bind fun r_76=>if (!decide (r_76=0))=true then some r_76 else (Zej N (n.1,n.2.1,n.2.2.1,n.2.2.2.1,n.2.2.2.2)).bind fun r_80=>Za3 N n r_80 N 0)=some e∧(e=0→Vx N n):=fun e h1 h2 h3=>by
       rw [h1,h2,Option.bind_some,Option.bind_some,if_pos (by rw [decide_eq_false h3];decide),if_pos (by rw [decide_eq_false h3];decide)]
       exact ⟨e,rfl,rfl,fun h=>absurd h h3⟩
      rcases Zv2 hs.pn hN with ⟨e,D,R,h3⟩ | ⟨_,_,l,_,_,_,_,D,R⟩ | ⟨hI,hT,l,ho,hok,hmx,hle,D,R⟩
      ·exact fin e (by rw [Zal,D];rfl) R (by rcases h3 with h | h <;> omega)
      ·exact fin 42 (by rw [Zal,D];rfl) R (by decide)
      ·have D':Zal N n.2.2.2.1=some 0:=by rw [Zal,D];rfl
       have he:Th n:=⟨hv,hp,ht,hI,hne⟩
       have hsz:Zej N (n.1,n.2.1,n.2.2.1,n.2.2.2.1,n.2.2.2.2)=some (n.2.2.1.map fun l=>(l.length:Int)):=Z3p (n:=n) (by omega) (by omega)
       have ms:=Zs8 (N:=N) hs he n.2.2.2.2 0 (by simp) (by omega)
       have rs:=Zvu (N:=N) (by omega) hs he n.2.1.length N 0 (by omega) (by omega)
       rw [show ((0:Nat):Int)=0 from rfl] at rs
       rw [D',R,Option.bind_some,Option.bind_some,if_neg (by decide),if_neg (by decide),hsz,Option.bind_some,ms,rs,ht]
       by_cases hsh:Tx n.2.2.1 n.2.2.2.1 n.2.2.2.2 n.2.1.length 0=0
       ·have me:=Zsx (N:=N) (n:=n) (W:=W) (hr.mono (by omega)) n.2.2.2.2 (fun t h=>⟨hs.tl t h,hs.tq t h,hs.lim t h⟩)
        have re:=Zu1 (N:=N) (n.2.2.1.map fun l=>(l.length:Int)) hs ht (hr.mono (by omega)) (by omega) n.2.1.length N 0 (by omega) (by omega)
        rw [show ((0:Nat):Int)=0 from rfl,List.drop_zero] at re
        rw [if_pos hsh,if_pos hsh,me,re]
        by_cases hen:Zdc n.2.2.2.2=true
        ·rw [if_pos hen,if_pos hen]
         exact ⟨45,rfl,rfl,fun h=>by cases h⟩
        ·have m6:=Zs9 (N:=N) hs he hsh hr (by omega) n.2.2.2.2 0 (by simp) (by omega)
         have r6:=Zvx (N:=N) hs he hsh hr (by omega) n.2.1.length N 0 (by omega) (by omega)
         rw [show ((0:Nat):Int)=0 from rfl] at r6
         rw [if_neg hen,if_neg hen,m6,r6,ht]
         exact ⟨_,rfl,rfl,fun h=>⟨he,by omega,hnms,hsh,Bool.eq_false_iff.2 hen,h,hT,l,D,ho,R,hok,hle⟩⟩
       ·rw [if_neg hsh,if_neg hsh]
        exact ⟨_,rfl,rfl,fun h=>absurd h hsh⟩
     ·rw [if_pos (by rw [decide_eq_false hnms];decide),if_neg hnms]
      exact ⟨_,rfl,rfl,fun h=>absurd h hnms⟩
   ·rw [if_neg (by rw [decide_eq_true (by omega)];decide),if_neg (by rw [decide_eq_true (by omega)];decide),if_neg (by rw [decide_eq_true (by omega)];decide),if_neg (by rw [decide_eq_true (by omega)];decide),decide_eq_false (by omega)]
    exact ⟨60,J1.1,J1.2,fun h=>by cases h⟩
  ·rw [if_neg (by rw [decide_eq_true (by omega)];decide),if_pos (by rw [decide_eq_false (by omega)];decide),if_neg (by rw [decide_eq_true (by omega)];decide),if_pos (by rw [decide_eq_false (by omega)];decide)]
   exact ⟨60,J1.1,J1.2,fun h=>by cases h⟩
 ·rw [if_pos (by rw [decide_eq_false (by omega)];decide),if_pos (by rw [decide_eq_false (by omega)];decide)]
  exact ⟨60,J1.1,J1.2,fun h=>by cases h⟩
def Xo (p:Rat×Rat):QV×QV:=(Zq p.1,Zq p.2)
def cnt (n:Xt) (v:Nat):Nat:=(n.2.2.1.getD v []).length
def Zhw (n:Xt) (w:List Int):List Int→Nat→Nat
 | [],r=>r
 | p :: ps,r=>Zhw n w ps (r * cnt n p.toNat+(w.getD p.toNat 0).toNat)
def Vv (n:Xt) (w:List Int) (v:Nat):Nat:=Zhw n w (n.2.2.2.1.getD v []) 0
def Xz (n:Xt) (w:List Int) (v:Nat):List QV:=((n.2.2.2.2.getD v []).drop (Vv n w v * cnt n v)).take (cnt n v)
structure Vy (n:Xt) (w:List Int):Prop where
 len:w.length=n.2.1.length
 ok:∀ i,i<w.length→0≤w.getD i 0∧w.getD i 0<(cnt n i:Int)
theorem Znk {n:Xt} (he:Th n) {v:Nat} (hv:v<n.2.1.length):0<cnt n v:=by
 have h1:v<n.2.2.1.length:=by rw [he.v];exact hv
 rw [cnt,Yk h1]
 exact List.length_pos_iff.2 (he.ne _ (List.getElem_mem h1))
theorem Zvr {n:Xt} (he:Th n):∀ (ps:List Int) (k:Nat),(∀ p ∈ ps,0≤p∧p<(n.2.1.length:Int))→k≤1099511627776→k≤Yj n.2.2.1 ps k
 | [],k,_,_=>Nat.le_refl _
 | p :: ps,k,hp,hk=>by
  have h1:=hp p List.mem_cons_self
  have h2:0<(n.2.2.1.getD p.toNat []).length:=Znk he (by omega)
  rw [Yj]
  have h3:k≤min (k * (n.2.2.1.getD p.toNat []).length) 1099511627776:=Nat.le_min.2 ⟨Nat.le_mul_of_pos_right k h2,hk⟩
  exact Nat.le_trans h3 (Zvr he ps _ (fun q hq=>hp q (List.mem_cons_of_mem _ hq)) (Nat.min_le_right _ _))
theorem Zo0 {n:Xt} (he:Th n) {w:List Int} (hw:Vy n w) {p:Int} {ps:List Int} {r k:Nat} (hp:∀ q ∈ p :: ps,0≤q∧q<(n.2.1.length:Int)) (hr:r<k) (hk:k≤65536) (hb:Yj n.2.2.1 (p :: ps) k≤65536):
  r * cnt n p.toNat+(w.getD p.toNat 0).toNat<k * cnt n p.toNat∧k * cnt n p.toNat≤65536∧Yj n.2.2.1 ps (k * cnt n p.toNat)≤65536:=by
 have h1:=hp p List.mem_cons_self
 have h2:=hw.ok p.toNat (by rw [hw.len];omega)
 have h3:r * cnt n p.toNat+cnt n p.toNat≤k * cnt n p.toNat:=by
  have:=Nat.mul_le_mul_right (cnt n p.toNat) (show r+1≤k by omega)
  rwa [Nat.add_mul,Nat.one_mul] at this
 rw [Yj] at hb
 have h4:=Zvr he ps (min (k * (n.2.2.1.getD p.toNat []).length) 1099511627776) (fun q hq=>hp q (List.mem_cons_of_mem _ hq)) (Nat.min_le_right _ _)
 have h5:k * (n.2.2.1.getD p.toNat []).length≤1099511627776:=by
  rcases Nat.le_total (k * (n.2.2.1.getD p.toNat []).length) 1099511627776 with h | h
  ·exact h
  ·rw [Nat.min_eq_right h] at h4 hb;omega
 rw [Nat.min_eq_left h5] at h4 hb
 exact ⟨by omega,Nat.le_trans h4 hb,hb⟩
theorem Zvo {n:Xt} (he:Th n) {w:List Int} (hw:Vy n w):∀ (ps:List Int) (r k:Nat),(∀ q ∈ ps,0≤q∧q<(n.2.1.length:Int))→r<k→k≤65536→Yj n.2.2.1 ps k≤65536→Zhw n w ps r<Yj n.2.2.1 ps k
 | [],r,k,_,hr,_,_=>hr
 | p :: ps,r,k,hp,hr,hk,hb=>by
  obtain ⟨h1,h2,h3⟩:=Zo0 he hw hp hr hk hb
  have:=Zvo he hw ps _ _ (fun q hq=>hp q (List.mem_cons_of_mem _ hq)) h1 h2 h3
  rw [Zhw,Yj,Nat.min_eq_left (by rw [cnt] at h2;omega)]
  exact this
section
variable {N:Nat} {n:Xt} (hf:Vx N n)
include hf
theorem Vx.pars {v:Nat} (hv:v<n.2.1.length):∀ p ∈ n.2.2.2.1.getD v [],0≤p∧p<(n.2.1.length:Int):=fun p hp=>by
 have h1:v<n.2.2.2.1.length:=by rw [hf.ev.p];exact hv
 rw [Yk h1] at hp
 have:=hf.ev.par (List.getElem_mem h1) p hp
 rwa [hf.ev.v] at this
theorem Vx.rows {v:Nat} (hv:v<n.2.1.length):Yj n.2.2.1 (n.2.2.2.1.getD v []) 1 * cnt n v=(n.2.2.2.2.getD v []).length∧(n.2.2.2.2.getD v []).length≤65536∧Yj n.2.2.1 (n.2.2.2.1.getD v []) 1≤65536:=by
 have h1:=Zml _ 0 hf.sh v (Nat.zero_le _) (by omega)
 have h2:=Znk hf.ev hv
 refine ⟨h1.1,h1.2,?_⟩
 have h3:Yj n.2.2.1 (n.2.2.2.1.getD v []) 1≤Yj n.2.2.1 (n.2.2.2.1.getD v []) 1 * cnt n v:=Nat.le_mul_of_pos_right _ h2
 have h4:Yj n.2.2.1 (n.2.2.2.1.getD v []) 1 * cnt n v≤65536:=by
  have:=h1.1;rw [cnt,this];exact h1.2
 omega
theorem Vx.row {w:List Int} (hw:Vy n w) {v:Nat} (hv:v<n.2.1.length):Vv n w v * cnt n v+cnt n v≤(n.2.2.2.2.getD v []).length∧Vv n w v<65536:=by
 obtain ⟨h1,h2,h3⟩:=hf.rows hv
 have h4:=Zvo hf.ev hw _ 0 1 (hf.pars hv) (by omega) (by omega) h3
 have h5:=Nat.mul_le_mul_right (cnt n v) (show Vv n w v+1≤Yj n.2.2.1 (n.2.2.2.1.getD v []) 1 from h4)
 rw [Nat.add_mul,Nat.one_mul,h1] at h5
 exact ⟨h5,Nat.lt_of_lt_of_le h4 h3⟩
theorem Vx.rowT_len {w:List Int} (hw:Vy n w) {v:Nat} (hv:v<n.2.1.length):(Xz n w v).length=cnt n v:=by
 have:=(hf.row hw hv).1
 rw [Xz,List.length_take,List.length_drop];omega
theorem Vx.ent {v:Nat} (hv:v<n.2.1.length):∀ x ∈ n.2.2.2.2.getD v [],0≤Zv x∧Zv x≤1:=fun x hx=>by
 have h1:v<n.2.2.2.2.length:=by rw [hf.ev.t];exact hv
 rw [Yk h1] at hx
 have h2:=hf.en
 rw [Zdc,List.any_eq_false] at h2
 have h3:=h2 _ (List.getElem_mem h1)
 rw [Bool.not_eq_true,List.any_eq_false] at h3
 have h4:=h3 x hx
 simp only [Vp,Bool.or_eq_true,decide_eq_true_eq,not_or] at h4
 exact ⟨Rat.not_lt.1 h4.1,Rat.not_lt.1 h4.2⟩
end
theorem Zjx {n:Xt} {w:List Int} {v:Nat} {x:QV} (h:x ∈ Xz n w v):x ∈ n.2.2.2.2.getD v []:=List.mem_of_mem_drop (List.mem_of_mem_take h)
theorem Zvn {n:Xt} {w:List Int} {v j:Nat} (hj:j<(Xz n w v).length):Zn (n.2.2.2.2.getD v []) ((Vv n w v * cnt n v+j:Nat):Int)=some (Xz n w v)[j]:=by
 have h1:Vv n w v * cnt n v+j<(n.2.2.2.2.getD v []).length:=by
  rw [Xz,List.length_take,List.length_drop] at hj;omega
 rw [Zz h1]
 simp only [Xz,List.getElem_take,List.getElem_drop]
def Up (P:List R2) (l:List Int):Prop:=∀ (a:List Int) (v:Int) (b:List Int),l=a++v :: b→∀ p ∈ P.getD v.toNat [],p ∈ a
theorem Up.step {P:List R2} {l:List Int} {j:Nat} (h:Up P l) (hn:W6 P l 0=some j):Up P (l++[(j:Int)]):=by
 obtain ⟨_,h2,h3,_⟩:=Zn8 hn
 obtain ⟨h4,h5⟩:=(Zu0 h2).1 h3
 intro a v b e p hp
 rcases List.eq_nil_or_concat b with rfl | ⟨b',c,rfl⟩
 ·obtain ⟨e1,e2⟩:=List.append_inj' e rfl
  rw [List.cons.injEq] at e2
  obtain ⟨rfl,-⟩:=e2
  subst e1
  rw [Int.toNat_natCast,Yk h2] at hp
  exact h5 p hp
 ·rw [List.concat_eq_append,← List.cons_append,← List.append_assoc] at e
  exact h a v b' (List.append_inj' e rfl).1 p hp
theorem Zts {N:Nat} {P:List R2} (hP:P.length<1048576) (hls:∀ x ∈ P,x.length≤1048576) (hN:1048576<N):∀ (n:Nat) (l r:List Int),Us P l→Up P l→V4 N P n l=some r→Up P r
 | 0,l,r,_,_,h=>by rw [V4.eq_1] at h;cases h
 | n+1,l,r,h0,hk,h=>by
  have hl:=h0.len
  rw [Zod (by omega) hls (by omega) hN] at h
  cases hnx:W6 P l 0 with
  | none=>rw [hnx] at h;cases h;exact hk
  | some j=>
   rw [hnx] at h
   exact Zts hP hls hN n (l++[(j:Int)]) r (h0.step hnx).1 (hk.step hnx) h
structure Zbd (P:List R2) (l:List Int):Prop where
 rg:∀ x ∈ l,0≤x∧x<(P.length:Int)
 nd:l.Nodup
 up:Up P l
theorem Z17 {N:Nat} {P:List R2} {l:List Int} (hP:P.length<1048576) (hls:∀ x ∈ P,x.length≤1048576) (hN:1048576<N) (h:Tc N P=some l) (ho:Us P l):Zbd P l:=
 ⟨ho.2.1,ho.1,Zts hP hls hN N [] l ⟨.nil,by simp,by simp⟩ (fun a v b e=>by cases a <;> simp at e) (by rwa [Tc] at h)⟩
structure Tj (D M:Nat) (s:Rat×Rat):Prop where
 d:D≠0
 m:1≤M
 a:Bd D M s.1
 b:Bd D M s.2
theorem Tj.zero:Tj 1 1 (0,1):=⟨by decide,by decide,.zero 1 1,.one⟩
theorem Zn1 (M D:Nat):(Ze (M * D)).length≤(Ze M).length+(Ze D).length:=Uv M D
section
variable {N W:Nat} {n:Xt} (hf:Vx N n) (hs:Ue n W)
include hf hs
theorem Znp {v:Nat} (hv:v<n.2.1.length):∀ x ∈ n.2.2.2.2.getD v [],Wx x∧max x.1.2.length x.2.length≤W:=fun x hx=>by
 have h1:v<n.2.2.2.2.length:=by rw [hf.ev.t];exact hv
 rw [Yk h1] at hx
 have h2:=hs.tq _ (List.getElem_mem h1)
 exact ⟨hs.lim _ (List.getElem_mem h1) x hx,Nat.le_trans (Zt6 hx) h2⟩
theorem Z3g {v:Nat} (hv:v<n.2.1.length) (w:List Int):X9 (Xz n w v)≤W:=by
 have h1:v<n.2.2.2.2.length:=by rw [hf.ev.t];exact hv
 have h2:=hs.tq _ (List.getElem_mem h1)
 rw [Xz,Yk h1]
 exact Nat.le_trans (Zon _ _) (Nat.le_trans (Zok _ _) h2)
theorem Zn2 {w:List Int} (hw:Vy n w) {v:Nat} (hv:v<n.2.1.length) {D M:Nat} {s:Rat×Rat} (h:Tj D M s):∃ D' M',(Ze M').length+(Ze D').length≤(Ze M).length+(Ze D).length+(W+2)∧
  (∀ p ∈ Yh (s.2 - s.1) (Xz n w v) s.1,Tj D' M' p)∧qs (s.2 - s.1)≤(Ze M).length+(Ze D).length+1:=by
 have hl:Bd D (M+M) (s.2 - s.1):=h.b.sub h.a h.d
 have hE:=Zk2 (Xz n w v)
 have hlim:∀ x ∈ Xz n w v,Wx x:=fun x hx=>(Znp hf hs hv x (Zjx hx)).1
 have hEl:=Zqz (Xz n w v) hlim
 have hq:=Z3g hf hs hv w
 have hc:(Xz n w v).length≤65536:=by
  have h1:=(hf.rows hv).2.1
  have h2:=(hf.row hw hv).1
  rw [hf.rowT_len hw hv];omega
 have hP:=Ztx (M:=M) h.d hl (Xz n w v) 1 s.1 M (by decide) (fun x hx=>hf.ent hv x (Zjx hx)) (by rw [Nat.mul_one];exact h.a)
 rw [Nat.one_mul] at hP
 have hM:M+(M+M) * (Xz n w v).length≤M * 262144:=by
  have h1:(M+M) * (Xz n w v).length≤(M+M) * 65536:=Nat.mul_le_mul_left _ hc
  omega
 refine ⟨D * U7 (Xz n w v),M * 262144,?_,fun p hp=>?_,?_⟩
 ·have h1:=Uv D (U7 (Xz n w v))
  have h2:=Uv M 262144
  have h3:(Ze 262144).length≤1:=Wm.2 (by decide)
  omega
 ·obtain ⟨h1,h2⟩:=hP p hp
  have:=h.m
  exact ⟨Nat.mul_ne_zero h.d hE,by omega,h1.up hM,h2.up hM⟩
 ·have h1:=hl.qs h.d (by have:=h.m;omega)
  have h2:=Zn1 (M+M) D
  have h3:(Ze (M+M)).length≤(Ze M).length+1:=Zip (Nat.le_refl _) (Nat.le_refl _)
  omega
end
theorem Tj.qa {D M:Nat} {s:Rat×Rat} (h:Tj D M s):qs s.1≤(Ze M).length+(Ze D).length:=Nat.le_trans (h.a.qs h.d h.m) (Zn1 M D)
theorem Tj.qb {D M:Nat} {s:Rat×Rat} (h:Tj D M s):qs s.2≤(Ze M).length+(Ze D).length:=Nat.le_trans (h.b.qs h.d h.m) (Zn1 M D)
theorem Vy.set {n:Xt} {w:List Int} (h:Vy n w) {v:Nat} {k:Int} (hk:0≤k∧k<(cnt n v:Int)):Vy n (w.set v k):=by
 refine ⟨by rw [List.length_set];exact h.len,fun i hi=>?_⟩
 rw [List.length_set] at hi
 by_cases hv:v<w.length
 ·rw [S7 w 0 v i k hv]
  split
  ·rename_i e;rw [e];exact hk
  ·exact h.ok i hi
 ·rw [List.set_eq_of_length_le (by omega)];exact h.ok i hi
def Zjq (N:Nat):Option (R0×R0):=
  (Q7 N 0 1).bind fun aa=>(Q7 N 1 1).bind fun ab=>some (((aa.1.1,aa.1.2),aa.2),((ab.1.1,ab.1.2),ab.2))
theorem Zy2 {N:Nat} {col:Zd} {w0:World} {r:(R0×R0)} (c1 c2 c3 c4:Nat) (hm:Zjq N=some r):
    Calls Tryz.prog 87 #[] w0 (fun e w'=>∃ (col':Zd) (ra1:Option Addr) (rc2:Nat) (ra4:Option Addr) (rc5:Nat) (ra7:Option Addr) (rc8:Nat) (ra10:Option Addr) (rc11:Nat),e= .returned ((.agg #[.bool r.1.1.1,.slice ra1 r.1.1.2.length rc2,.slice ra4 r.1.2.length rc5,.bool r.2.1.1,.slice ra7 r.2.1.2.length rc8,.slice ra10 r.2.2.length rc11]))∧Zg col w0 col' w'∧Zc (Za.int .u32) 79 c1 col' w' ra1 rc2 r.1.1.2∧Zc (Za.int .u32) 79 c2 col' w' ra4 rc5 r.1.2∧Zc (Za.int .u32) 79 c3 col' w' ra7 rc8 r.2.1.2∧Zc (Za.int .u32) 79 c4 col' w' ra10 rc11 r.2.2):=by
 refine Yf (m:=4) func87 rfl rfl rfl ?_;rw [Zjq.eq_1] at hm;have aa:=St.start col w0;refine go ?_;refine Xs (col:=(Zi col)) #[.bool false,.slice none (([]:List Int).length) 0,.slice none (([]:List Int).length) 0,.bool false,.slice none (([]:List Int).length) 0,.slice none (([]:List Int).length) 0] 1 zeroValue49 ?_;intro a2 a3 al am ad;refine go ?_;obtain ⟨ae,an,hm⟩:=bZ hm;refine Zh (Zkv (col:=al) 2 3 an) ?_;rintro _ a4 ⟨ao,ap,aq,ar,au,rfl,ak,af,ag⟩;refine ⟨_,rfl,?_⟩;obtain ⟨ah,av,hm⟩:=bZ hm;refine Zh (Zkv (col:=ao) 4 5 av) ?_;rintro _ a5 ⟨a6,aw,ax,ay,az,rfl,ac,ai,aj⟩;refine ⟨_,rfl,?_⟩;refine lV (.agg #[.bool ae.1.1,.slice ap ae.1.2.length aq,.slice ar ae.2.length au,.bool ah.1.1,.slice aw ah.1.2.length ax,.slice ay ah.2.length az]) (Yt (l:=[_,_]) (qs:=[(0,3),(3,3)]) underlying49 zeroValue49 ⟨rfl,sizeOf47,rfl,sizeOf47,trivial⟩ rfl) ?_;replace ad:=(ad.gr ak).gr ac;refine Z8 ad ?_;intro a7 ab a0 a1;refine go ?_;cases hm;replace aa:=(((aa.grow am).grow ak).grow ac).kp ab a0;replace af:=(af.gr ac).kp ab;replace ag:=(ag.gr ac).kp ab;replace ai:=ai.kp ab;replace aj:=aj.kp ab;exact ⟨rfl,_,ra a1.atN,_,_,_,_,_,_,_,_,_,rfl,aa.fin (cm [(2,c1),(3,c2),(4,c3),(5,c4)]),aa.fo af,aa.fo ag,aa.fo ai,aa.fo aj⟩
theorem Z2z {N:Nat} (hr:Xd N 8):Zjq N=some (Xo (0,1)):=by
 rw [Zjq,Zv6 hr,Option.bind_some,Zv5 hr,Option.bind_some];rfl
theorem Zn4 {l:List (Rat×Rat)} {j:Nat} (hj:j<l.length):Zn (l.map Xo) (j:Int)=some (Xo (l.getD j (0,0))):=by
 rw [Zz (by rw [List.length_map];exact hj),List.getElem_map,Yk hj]
theorem Zsw {l:List (Rat×Rat)} {j:Nat} (hj:j<l.length):l.getD j (0,0) ∈ l:=by rw [Yk hj];exact List.getElem_mem hj
def Zfk:Option R0:=
  some ((false,[1]),[1])
theorem Zpp {col:Zd} {w0:World} {r:R0} (c1 c2:Nat) (hm:Zfk=some r):
    Calls Tryz.prog 97 #[] w0 (fun e w'=>∃ (col':Zd) (ra1:Option Addr) (rc2:Nat) (ra4:Option Addr) (rc5:Nat),e= .returned ((.agg #[.bool r.1.1,.slice ra1 r.1.2.length rc2,.slice ra4 r.2.length rc5]))∧Zg col w0 col' w'∧Zc (Za.int .u32) 79 c1 col' w' ra1 rc2 r.1.2∧Zc (Za.int .u32) 79 c2 col' w' ra4 rc5 r.2):=by
 refine Yf (m:=5) func97 rfl rfl rfl ?_;rw [Zfk.eq_1] at hm;have aa:=St.start col w0;refine go ?_;refine Xs (col:=(Zi col)) #[.bool false,.slice none (([]:List Int).length) 0,.slice none (([]:List Int).length) 0] 1 zeroValue47 ?_;intro ao ap ai aj ab;refine go ?_;refine W1 (col:=ai) [1] 2 ?_;intro ag aq ak ah ac;refine lV (.agg #[.bool false,.slice ag ([1].length) 1]) (Yt (l:=[_,_]) (qs:=[(0,1),(1,1)]) underlying45 zeroValue45 ⟨rfl,sizeOf4,rfl,sizeOf43,trivial⟩ rfl)<|W1 (col:=ak) [1] 3 ?_;intro al ar au ad ae;refine lV (.agg #[.bool false,.slice ag ([1].length) 1,.slice al ([1].length) 1]) (Yt (l:=[_,_]) (qs:=[(0,2),(2,1)]) underlying47 zeroValue47 ⟨rfl,sizeOf45,rfl,sizeOf43,trivial⟩ rfl) ?_;replace ab:=(ab.gr ah).gr ad;refine Z8 ab ?_;intro av af am an;refine go ?_;cases hm;replace aa:=(((aa.grow aj).grow ah).grow ad).kp af am;replace ac:=(ac.gr ad).kp af;replace ae:=ae.kp af;exact ⟨rfl,_,ra an.atN,_,_,1,_,1,rfl,aa.fin (cm [(2,c1),(3,c2)]),aa.fo ac,aa.fo ae⟩
abbrev S0:=Option (List Int×(QV×QV)×Bool)
theorem Zrf:Zfk=some (Zq 1):=by
 rw [Zfk,show Zq 1=((false,[1]),[1]) by rw [Zq,Z3];simp [Ta]]
theorem Vy.zero {n:Xt} (he:Th n):Vy n (List.replicate n.2.1.length 0):=by
 refine ⟨List.length_replicate,fun i hi=>?_⟩
 rw [List.length_replicate] at hi
 have:=Znk he hi
 rw [List.getD_eq_getElem?_getD,List.getElem?_replicate,if_pos hi]
 simp;exact this
theorem Zrj {N:Nat} (hr:Xd N 16):Zbt N ([]:List QV)=some (Zq 0):=by
 have:=(Zns (N:=N) (l:=[]) (by simp) hr).1
 rwa [Va,List.map_nil,List.sum_nil] at this
abbrev noS:QV×QV:=(((false,([]:List Int)),([]:List Int)),((false,([]:List Int)),([]:List Int)))
def Uu (n:Xt) (ch:List (Rat×Rat)→Int):List Int→List Int→Rat×Rat→Option (List Int×(Rat×Rat))
 | [],w,s=>some (w,s)
 | v :: l,w,s=>if ch (Yh (s.2 - s.1) (Xz n w v.toNat) s.1)<0 then none else
   Uu n ch l (w.set v.toNat (ch (Yh (s.2 - s.1) (Xz n w v.toNat) s.1))) ((Yh (s.2 - s.1) (Xz n w v.toNat) s.1).getD (ch (Yh (s.2 - s.1) (Xz n w v.toNat) s.1)).toNat (0,0))
def Zdb:Option (List Int×(Rat×Rat))→S0
 | none=>some ([],noS,false)
 | some (w,s)=>some (w,Xo s,true)
def Zii:Option (List Int×(Rat×Rat))→Option Rb
 | none=>some ([],false)
 | some (w,_)=>some (w,true)
def Zmx (ch:List (Rat×Rat)→Int):Prop:=∀ P,ch P<(P.length:Int)
/-! the program's loops,the chooser left open -/
def Zfe (N:Nat) (n:Xt) (ch:Int→List (QV×QV)→Option Int) (w:List Int) (kk:QV→QV→List Int→S0) (x row:Int) (d:QV) (e:List ByteArray):Nat→QV→List (QV×QV)→Int→S0
 | 0,_,_,_=>none
 | f+1,a,ps,k=>if decide (k<(e.length:Int))=true then (Zn n.2.2.2.2 x).bind fun t=>(Zn n.2.2.1 x).bind fun e2=>(Zn t (i64.wrap (i64.wrap (row * (e2.length:Int))+k))).bind fun y=>(Qz N d y).bind fun z=>(Qy N a z).bind fun b=>
   Zw ((ps.length+[(a,b)].length) * 112≤140737488355328∧ps.length+[(a,b)].length≤maxLen) (Zfe N n ch w kk x row d e f b (ps++[(a,b)]) (i64.wrap (k+1)))
  else (ch x ps).bind fun r=>if decide (r<0)=true then some ([],noS,false) else (Zn ps r).bind fun p=>(Zn w x).bind fun _=>(some (w.set (Int.toNat x) r)).bind fun xs=>kk p.1 p.2 xs
def Zah (N:Nat) (n:Xt) (ch:Int→List (QV×QV)→Option Int) (s:QV×QV) (w:List Int) (kk:QV→QV→List Int→S0) (x:Int):List Int→Int→S0
 | [],row=>(Zdm N s.2 s.1).bind fun d=>(Zn n.2.2.1 x).bind fun e=>Zfe N n ch w kk x row d e N s.1 [] 0
 | p :: l,row=>(Zn n.2.2.1 p).bind fun e=>(Zn w p).bind fun y=>Zah N n ch s w kk x l (i64.wrap (i64.wrap (row * (e.length:Int))+y))
def Zbl (N:Nat) (n:Xt) (ch:Int→List (QV×QV)→Option Int):List Int→QV→QV→List Int→S0
 | [],a,b,w=>some (w,(a,b),true)
 | x :: l,a,b,w=>(Zn n.2.2.2.1 x).bind fun ps=>Zah N n ch (a,b) w (Zbl N n ch l) x ps 0
section
variable {N K:Nat} {n:Xt} (hf:Vx N n) (hr:Xd N (8 * K+40))
include hf hr
theorem Zrn (ch:Int→List (QV×QV)→Option Int) (w:List Int) (hw:Vy n w) (kk:QV→QV→List Int→S0) {v:Nat} (hv:v<n.2.1.length) (hl:∀ x ∈ Xz n w v,Wx x∧max x.1.2.length x.2.length≤K) {long:Rat} (hlong:qs long≤K) (F:List (QV×QV)→S0)
  (hF:∀ P:List (QV×QV),((ch (v:Int) P).bind fun r=>if decide (r<0)=true then some ([],noS,false) else (Zn P r).bind fun p=>(Zn w (v:Int)).bind fun _=>(some (w.set (Int.toNat (v:Int)) r)).bind fun xs=>kk p.1 p.2 xs)=F P):
  ∀ (l:List QV) (f j:Nat) (a:Rat) (parts:List (QV×QV)),(Xz n w v).drop j=l→j≤cnt n v→cnt n v<f+j→qs a≤K→(∀ p ∈ Yh long l a,qs p.1≤K∧qs p.2≤K)→parts.length=j→
   Zfe N n ch w kk (v:Int) (Vv n w v:Int) (Zq long) (n.2.2.1.getD v []) f (Zq a) parts (j:Int)=F (parts++(Yh long l a).map Xo)
 | l,0,j,a,parts,_,h1,h2,_,_,_=>by omega
 | l,f+1,j,a,parts,hd,h1,h2,ha,hp,hpl=>by
  have hlen:=hf.rowT_len hw hv
  have hrow:=hf.row hw hv
  have hrows:=hf.rows hv
  rw [Zfe]
  cases l with
  | nil=>
   have h3:=List.drop_eq_nil_iff.1 hd
   rw [if_neg (by rw [decide_eq_false (by rw [cnt] at h1 hlen;omega)];decide),hF,Yh,List.map_nil,List.append_nil]
  | cons y l=>
   have hj:j<(Xz n w v).length:=by
    rcases Nat.lt_or_ge j (Xz n w v).length with h | h
    ·exact h
    ·rw [List.drop_eq_nil_of_le h] at hd;cases hd
   have hy:(Xz n w v)[j]=y∧(Xz n w v).drop (j+1)=l:=by
    rw [List.drop_eq_getElem_cons hj] at hd
    exact List.cons.inj hd
   have hyK:=hl y (hy.1 ▸ List.getElem_mem hj)
   have hjc:j<cnt n v:=by omega
   have hq:=hp _ List.mem_cons_self
   have e0:(0:Int)≤((Vv n w v * cnt n v:Nat):Int):=Int.natCast_nonneg _
   have e1:i64.wrap ((Vv n w v:Int) * ((n.2.2.1.getD v []).length:Int))=((Vv n w v * cnt n v:Nat):Int):=by
    rw [show ((n.2.2.1.getD v []).length:Int)=((cnt n v:Nat):Int) from rfl,← Int.natCast_mul]
    exact Zr (by omega)
   have e2:i64.wrap (((Vv n w v * cnt n v:Nat):Int)+(j:Int))=((Vv n w v * cnt n v+j:Nat):Int):=by
    rw [← Int.natCast_add]
    exact Zr (by omega)
   have r1:=Zcy hyK.1.1 hyK.1.2
   have m1:Qz N (Zq long) y=some (Zq (long * Zv y)):=by
    have:=Zre (Wh hlong) (r1.mono hyK.2) (hr.mono (by omega))
    rwa [Yy] at this
   have s1:qs (long * Zv y)≤K+(K+1):=by
    have h4:=Zt7 long (Zv y)
    have h5:=Zl5 hyK.1
    omega
   have a1:Qy N (Zq a) (Zq (long * Zv y))=some (Zq (a+long * Zv y)):=by
    have:=Znq (Wh ha) (Wh s1) (hr.mono (by omega))
    rwa [Yy,Yy] at this
   rw [if_pos (decide_eq_true (by rw [cnt] at hjc;omega)),Vz [] (by rw [hf.ev.t];exact hv),Option.bind_some,Vz [] (by rw [hf.ev.v];exact hv),Option.bind_some,e1,e2,Zvn hj,hy.1,Option.bind_some,m1,Option.bind_some,a1,Option.bind_some,
    Z6 (by simp only [List.length_singleton,maxLen];omega),Zr (x:=(j:Int)+1) (by omega)]
   have ih:=Zrn ch w hw kk hv hl hlong F hF l f (j+1) (a+long * Zv y) (parts++[Xo (a,a+long * Zv y)]) hy.2 (by omega) (by omega) hq.2 (fun p h=>hp p (List.mem_cons_of_mem _ h)) (by rw [List.length_append,List.length_singleton];omega)
   rw [List.append_assoc] at ih
   exact ih
omit hr in
theorem Zrm (ch:Int→List (QV×QV)→Option Int) (s:QV×QV) (w:List Int) (hw:Vy n w) (kk:QV→QV→List Int→S0) (x:Int):∀ (ps:List Int) (r k:Nat),(∀ q ∈ ps,0≤q∧q<(n.2.1.length:Int))→r<k→k≤65536→Yj n.2.2.1 ps k≤65536→
  Zah N n ch s w kk x ps (r:Int)=Zah N n ch s w kk x [] (Zhw n w ps r:Int)
 | [],r,k,_,_,_,_=>rfl
 | p :: ps,r,k,hp,h1,h2,h3=>by
  obtain ⟨g1,g2,g3⟩:=Zo0 hf.ev hw hp h1 h2 h3
  have hpp:=hp p List.mem_cons_self
  have hwp:=hw.ok p.toNat (by rw [hw.len];omega)
  have g4:r * cnt n p.toNat≤k * cnt n p.toNat:=Nat.mul_le_mul_right _ (by omega)
  have q1:Zn n.2.2.1 p=some (n.2.2.1.getD p.toNat []):=by
   have:=Vz (l:=n.2.2.1) [] (j:=p.toNat) (by rw [hf.ev.v];omega)
   rwa [show ((p.toNat:Nat):Int)=p by omega] at this
  have q2:Zn w p=some (w.getD p.toNat 0):=by
   have:=Vz (l:=w) 0 (j:=p.toNat) (by rw [hw.len];omega)
   rwa [show ((p.toNat:Nat):Int)=p by omega] at this
  have e1:i64.wrap ((r:Int) * ((n.2.2.1.getD p.toNat []).length:Int))=((r * cnt n p.toNat:Nat):Int):=by
   rw [show ((n.2.2.1.getD p.toNat []).length:Int)=((cnt n p.toNat:Nat):Int) from rfl,← Int.natCast_mul]
   exact Zr (by omega)
  have e2:i64.wrap (((r * cnt n p.toNat:Nat):Int)+w.getD p.toNat 0)=((r * cnt n p.toNat+(w.getD p.toNat 0).toNat:Nat):Int):=by
   rw [Int.natCast_add,show (((w.getD p.toNat 0).toNat:Nat):Int)=w.getD p.toNat 0 by omega]
   exact Zr (by omega)
  rw [Zah.eq_2,q1,Option.bind_some,q2,Option.bind_some,e1,e2]
  exact Zrm ch s w hw kk x ps _ _ (fun q hq=>hp q (List.mem_cons_of_mem _ hq)) g1 g2 g3
end
section
variable {N W K:Nat} {n:Xt} (hf:Vx N n) (hs:Ue n W) (hr:Xd N (8 * K+40)) (hWK:W≤K) {ord:List Int} (ho:Zbd n.2.2.2.1 ord) {cF:List (Rat×Rat)→Int} (hF:Zmx cF)
include hf hs hr hWK ho hF
theorem Zrl {ch:Int→List (QV×QV)→Option Int} (hN:65536<N) (hch:∀ (v:Nat) (P:List (Rat×Rat)),(∀ p ∈ P,qs p.1≤K∧qs p.2≤K)→P.length≤65536→ch (v:Int) (P.map Xo)=some (cF P)):
  ∀ (l:List Int) (w:List Int) (s:Rat×Rat) (D M:Nat),(∀ x ∈ l,x ∈ ord)→Vy n w→Tj D M s→(Ze M).length+(Ze D).length+l.length * (W+2)+2≤K→
  Zbl N n ch l (Zq s.1) (Zq s.2) w=Zdb (Uu n cF l w s)
 | [],w,s,D,M,_,_,_,_=>rfl
 | v :: l,w,s,D,M,he,hw,hL,hK=>by
  have hvr:=ho.rg v (he v List.mem_cons_self)
  rw [hf.ev.p] at hvr
  obtain ⟨k,rfl⟩:∃ k:Nat,v=(k:Int):=⟨v.toNat,by omega⟩
  have hv:k<n.2.1.length:=by omega
  obtain ⟨D',M',c1,c2,c3⟩:=Zn2 hf hs hw hv hL
  have hKs:(l.length+1) * (W+2)=l.length * (W+2)+(W+2):=by rw [Nat.add_mul,Nat.one_mul]
  rw [List.length_cons,hKs] at hK
  have hrows:=hf.rows hv
  have hcl:cnt n k≤65536:=by have:=(hf.row hw hv).1;omega
  have hsub:Zdm N (Zq s.2) (Zq s.1)=some (Zq (s.2 - s.1)):=by
   have:=Z0k (Wh hL.qb) (Wh hL.qa) (hr.mono (s:=2 * ((Ze M).length+(Ze D).length+((Ze M).length+(Ze D).length)+3)) (by omega))
   rwa [Yy,Yy] at this
  rw [Zbl,Vz [] (by rw [hf.ev.p];exact hv),Option.bind_some]
  have h2:=Zrm (N:=N) hf ch (Zq s.1,Zq s.2) w hw (Zbl N n ch l) (k:Int) (n.2.2.2.1.getD k []) 0 1 (hf.pars hv) (by omega) (by omega) hrows.2.2
  rw [show ((0:Nat):Int)=0 from rfl] at h2
  rw [h2,Zah,hsub,Option.bind_some,Vz [] (by rw [hf.ev.v];exact hv),Option.bind_some]
  have h3:=Zrn hf hr ch w hw (Zbl N n ch l) hv (fun x hx=>by have:=Znp hf hs hv x (Zjx hx);exact ⟨this.1,by omega⟩) (long:=s.2 - s.1) (by omega) _ (fun _=>rfl) (Xz n w k) N 0 s.1 [] rfl (Nat.zero_le _) (by omega) (by have:=hL.qa;omega) (fun p hp=>⟨by have:=(c2 p hp).qa;omega,by have:=(c2 p hp).qb;omega⟩) rfl
  rw [show ((0:Nat):Int)=0 from rfl] at h3
  have h3':=h3
  rw [Vv] at h3'
  rw [h3',List.nil_append]
  have hlen:(Yh (s.2 - s.1) (Xz n w k) s.1).length=cnt n k:=by rw [Zof,hf.rowT_len hw hv]
  have hfit:=hF (Yh (s.2 - s.1) (Xz n w k) s.1)
  rw [hch k _ (fun p hp=>⟨by have:=(c2 p hp).qa;omega,by have:=(c2 p hp).qb;omega⟩) (by omega),Option.bind_some,Uu,Int.toNat_natCast]
  by_cases hneg:cF (Yh (s.2 - s.1) (Xz n w k) s.1)<0
  ·rw [if_pos (decide_eq_true hneg),if_pos hneg];rfl
  ·obtain ⟨q,hq⟩:∃ q:Nat,cF (Yh (s.2 - s.1) (Xz n w k) s.1)=(q:Int):=⟨(cF (Yh (s.2 - s.1) (Xz n w k) s.1)).toNat,by omega⟩
   rw [hq] at hfit
   have hql:q<(Yh (s.2 - s.1) (Xz n w k) s.1).length:=by omega
   rw [hq,if_neg (by rw [decide_eq_false (by omega)];decide),if_neg (by omega),Zn4 hql,Option.bind_some,Vz 0 (by rw [hw.len];exact hv),Option.bind_some,Option.bind_some,Int.toNat_natCast]
   exact Zrl hN hch l (w.set k q) _ D' M' (fun x hx=>he x (List.mem_cons_of_mem _ hx)) (hw.set (by omega)) (c2 _ (Zsw hql)) (by omega)
end
theorem Znl {n:Xt} {ch:List (Rat×Rat)→Int}:∀ (l w:List Int) (s:Rat×Rat) (r:List Int×(Rat×Rat)),Uu n ch l w s=some r→r.1.length=w.length
 | [],w,s,r,h=>by rw [Uu,Option.some.injEq] at h;rw [← h]
 | v :: l,w,s,r,h=>by
  rw [Uu] at h
  split at h
  ·cases h
  ·have:=Znl l _ _ r h
   rw [this,List.length_set]
def Zcm (N:Nat) (ag:R1) (ah:Int) (al:Int) (ab:R0):Nat→Rg→Bool→R2→R2→Int→Option Rg
  | 0,_,_,_,_,_=>none
  | an+1,ac,ad,ae,af,ai=>(Zn ag.2.2.1 ah).bind fun am=>if (decide (ai<(am.length:Int)))=true then ((Zn ag.2.2.2.2 ah).bind fun ao=>(Zn ao (i64.wrap ((i64.wrap (al * (am.length:Int)))+ai))).bind fun aj=>(Zgw N ((ab.1.1,ab.1.2),ab.2) ((aj.1.1,aj.1.2),aj.2)).bind fun ak=>(Zca N ((ad,ae),af) ((ak.1.1,ak.1.2),ak.2)).bind fun aa=>Zw ((ac.length+[(((ad,ae),af),((aa.1.1,aa.1.2),aa.2))].length) * 112≤140737488355328∧ac.length+[(((ad,ae),af),((aa.1.1,aa.1.2),aa.2))].length≤maxLen) ((Zcm N ag ah al ab an) (ac++[(((ad,ae),af),((aa.1.1,aa.1.2),aa.2))]) aa.1.1 aa.1.2 aa.2 (i64.wrap (ai+1)))) else (some ac)
termination_by structural x=>x
def Zex (N:Nat) (ab:R1) (ac:Int) (ae:List Int) (aa:(R0×R0)):Nat→Int→Int→Option Rg
  | 0,_,_=>none
  | ai+1,ad,af=>(Zn ab.2.2.2.1 ac).bind fun ag=>if (decide (ad<(ag.length:Int)))=true then ((Zn ag ad).bind fun ah=>(Zn ab.2.2.1 ah).bind fun aj=>(Zn ae ah).bind fun ak=>(Zex N ab ac ae aa ai) (i64.wrap (ad+1)) (i64.wrap ((i64.wrap (af * (aj.length:Int)))+ak))) else ((Zeb N ((aa.2.1.1,aa.2.1.2),aa.2.2) ((aa.1.1.1,aa.1.1.2),aa.1.2)).bind fun al=>Zcm N ab ac af al N ([]:List (R0×R0)) aa.1.1.1 aa.1.1.2 aa.1.2 0)
termination_by structural x=>x
def Zhk (N:Nat) (aa:R1) (ab:Int) (ac:List Int) (ad:(R0×R0)):Option Rg:=
  Zex N aa ab ac ad N 0 0
theorem Zy1 {N cd bu ce bv cu b1 b2 cf cg:Nat} {ch bk ci bm a2 b3 b4 cj ck:Option Addr} {col:Zd} {w0:World} {ad:R1} {bh:Int} {b5:R2} {ac:(R0×R0)} {r:Rg} (c1 qc2:Nat) (hm:Zhk N ad bh b5 ac=some r) (hqqc2:qc2≠0) (e5:Sl Za.str col w0 ch cd ad.2.1) (bi:Sl (Za.slice Za.str) col w0 bk bu ad.2.2.1) (bw:Sl (Za.slice (Za.int .i64)) col w0 ci ce ad.2.2.2.1) (cl:Sl (Za.slice (Za.pair (Za.pair Za.bool (Za.slice (Za.int .u32))) (Za.slice (Za.int .u32)))) col w0 bm bv ad.2.2.2.2) (h2:Zc (Za.int .i64) 3 qc2 col w0 a2 cu b5) (cn:Sl (Za.int .u32) col w0 b3 b1 ac.1.1.2) (co:Sl (Za.int .u32) col w0 b4 b2 ac.1.2) (cv:Sl (Za.int .u32) col w0 cj cf ac.2.1.2) (cw:Sl (Za.int .u32) col w0 ck cg ac.2.2):
    Calls Tryz.prog 88 #[(.agg #[.string ad.1,.slice ch ad.2.1.length cd,.slice bk ad.2.2.1.length bu,.slice ci ad.2.2.2.1.length ce,.slice bm ad.2.2.2.2.length bv]),.int .i64 bh,.slice a2 b5.length cu,(.agg #[.bool ac.1.1.1,.slice b3 ac.1.1.2.length b1,.slice b4 ac.1.2.length b2,.bool ac.2.1.1,.slice cj ac.2.1.2.length cf,.slice ck ac.2.2.length cg])] w0 (fun e w'=>∃ (col':Zd) (ra1:Option Addr) (rc2:Nat),e= .returned ((.slice ra1 r.length rc2))∧Zg col w0 col' w'∧Zc (Za.pair (Za.pair (Za.pair Za.bool (Za.slice (Za.int .u32))) (Za.slice (Za.int .u32))) (Za.pair (Za.pair Za.bool (Za.slice (Za.int .u32))) (Za.slice (Za.int .u32)))) 49 c1 col' w' ra1 rc2 r):=by
 refine Xe 8 (m:=94) func88 rfl rfl rfl rfl rfl ?_;rw [Zhk.eq_1] at hm;have aa:=St.start col w0;replace h2:=h2.start0 hqqc2;refine go ?_;refine Xi (col:=(Zi col)) 1 rfl ?_;intro cp e6 dn dj ab;refine Xi (col:=dn) 2 rfl ?_;intro dp e7 e8 cx a1;refine go ?_;replace h2:=(h2.gr dj).gr cx;replace aa:=(aa.grow dj).grow cx;replace ab:=ab.gr cx;refine Zy [1,2,4,7,1000000] (fun n f b6=>∃ a3 cy a4 bx,bx=n∧Zex N ad bh b5 ac bx cy a4=some r∧St w0 (Zi col) a3 b6∧Zc (Za.int .i64) 3 999 a3 b6 a2 cu b5∧Zl 27 1 a3 b6 cp #[.string ad.1,.slice ch ad.2.1.length cd,.slice bk ad.2.2.1.length bu,.slice ci ad.2.2.2.1.length ce,.slice bm ad.2.2.2.2.length bv]∧Zl 49 2 a3 b6 dp #[.bool ac.1.1.1,.slice b3 ac.1.1.2.length b1,.slice b4 ac.1.2.length b2,.bool ac.2.1.1,.slice cj ac.2.1.2.length cf,.slice ck ac.2.2.length cg]∧[10,9].map f=[.int .i64 cy,.int .i64 a4]) N ⟨_,0,0,_,rfl,hm,aa,h2,ab,a1,rfl⟩ ?_;clear hm;intro n f b6 hI;obtain ⟨a3,cy,a4,bx,hn,hm,aa,h2,ab,a1,hs⟩:=hI;subst hn;refine .lL [10,9] hs ?_;replace bi:=bi.keep (Zj.start col w0);replace bw:=bw.keep (Zj.start col w0);replace cl:=cl.keep (Zj.start col w0);replace cn:=cn.keep (Zj.start col w0);replace co:=co.keep (Zj.start col w0);replace cv:=cv.keep (Zj.start col w0);replace cw:=cw.keep (Zj.start col w0)
 cases bx with
 | zero=>rw [Zex.eq_1] at hm;cases hm
 | succ bx=>
  rw [Zex.eq_2] at hm;refine go ?_;refine Xc ab<|X3 rfl ?_;obtain ⟨e9,bz,hm⟩:=bZ hm;refine lI bz ((bw.ks aa).addr bz) ?_;obtain ⟨_,dq,dr⟩:=(bw.ks aa).atN bz;obtain ⟨⟨fa,fb,rfl,fc⟩,_⟩:=dq;refine lW dr.one<|go ?_;refine Zp hm (fun hb hm=>go ?_) fun hb hm=>go ?_
  ·refine Xc ab<|X3 rfl<|lI bz ((bw.ks aa).addr bz) ?_;obtain ⟨_,ds,dt⟩:=(bw.ks aa).atN bz;obtain ⟨⟨fd,fe,rfl,dk⟩,_⟩:=ds;refine lW dt.one<|X3 rfl ?_;obtain ⟨ff,cz,hm⟩:=bZ hm;refine lI cz (dk.addr cz)<|lW (dk.atInt cz) ?_;refine go ?_;refine Wo (col:=a3) (by kernel_rfl) (by kernel_rfl)<|go ?_;refine qF ⟨_,_,rfl⟩ ?_;refine qW (fun _ hC=>((ab.atN).nth (q:=2) rfl).gr (hC.bl a3)) ?_;refine go ?_;obtain ⟨fg,c0,hm⟩:=bZ hm;refine qI c0 ((bi.ks aa).addr c0) ?_;obtain ⟨_,du,dv⟩:=(bi.ks aa).atN c0;obtain ⟨⟨fh,fi,rfl,fj⟩,_⟩:=du;refine qW (fun _ hC=>dv.one.gr (hC.bl a3)) ?_;refine go ?_;obtain ⟨fk,c2,hm⟩:=bZ hm;refine qI c2 (h2.addr c2)<|qW (fun _ hC=>(h2.gr (hC.bl a3)).atInt c2) ?_;refine go ?_;refine Yl ?_;intro fl hC;replace hC:=hC.bl a3;refine go ?_;replace h2:=h2.gr hC;replace ab:=ab.gr hC;replace a1:=a1.gr hC;replace aa:=aa.grow hC;exact ⟨bx,by omega,rfl,⟨_,_,_,_,rfl,hm,aa,h2,ab,a1,rfl⟩⟩
  refine Xf ⟨_,_,rfl⟩ ?_;refine lV (.agg #[.bool ac.2.1.1,.slice cj ac.2.1.2.length cf,.slice ck ac.2.2.length cg]) (Xp isAgg47 sizeOf47 rfl rfl ((a1.atN).part 3 3 _ rfl))<|Xf ⟨_,_,rfl⟩ ?_;refine lV (.agg #[.bool ac.1.1.1,.slice b3 ac.1.1.2.length b1,.slice b4 ac.1.2.length b2]) (Xp isAgg47 sizeOf47 rfl rfl ((a1.atN).part 0 3 _ rfl)) ?_;obtain ⟨bb,dw,hm⟩:=bZ hm;refine Zh (Zyh 3 4 dw (cv.ks aa) (cw.ks aa) (cn.ks aa) (co.ks aa)) ?_;rintro _ fm ⟨dx,c3,c4,c5,c6,rfl,c7,ai,aj⟩;refine ⟨_,rfl,?_⟩;refine Xs (col:=dx) #[.bool false,.slice none (([]:List Int).length) 0,.slice none (([]:List Int).length) 0] 5 zeroValue47 ?_;intro dy fn dz b7 d0;refine Z8 d0 ?_;intro fp b8 d1 ag;refine go ?_;refine Xf ⟨_,_,rfl⟩ ?_;replace a1:=((a1.gr c7).gr b7).kp b8;refine lV (.agg #[.bool ac.1.1.1,.slice b3 ac.1.1.2.length b1,.slice b4 ac.1.2.length b2]) (Xp isAgg47 sizeOf47 rfl rfl ((a1.atN).part 0 3 _ rfl))<|Xs (col:=dz) #[.bool false,.slice none (([]:List Int).length) 0,.slice none (([]:List Int).length) 0] 6 zeroValue47 ?_;intro d2 fq fr b9 d3;refine Z8 d3 ?_;intro ft ca d4 ah;refine go ?_;replace ab:=((((ab.gr c7).gr b7).kp b8).gr b9).kp ca;replace aa:=((((aa.grow c7).grow b7).kp b8 d1).grow b9).kp ca d4;replace ai:=(((ai.gr b7).kp b8).gr b9).kp ca;replace aj:=(((aj.gr b7).kp b8).gr b9).kp ca;replace ag:=(ag.gr b9).kp ca
  refine Zy [1,12,14,4,9,1000000] (fun n f af=>∃ ae c8 c9 cq a5 bn bo a6 bp bq a7 br b0,b0=n∧Zcm N ad bh a4 bb b0 cq a5 a6 a7 br=some r∧St w0 (Zi col) ae af∧Zc (Za.int .u32) 79 3 ae af c3 c4 bb.1.2∧Zc (Za.int .u32) 79 4 ae af c5 c6 bb.2∧Zl 47 5 ae af dy #[.bool bb.1.1,.slice c3 bb.1.2.length c4,.slice c5 bb.2.length c6]∧Zc (Za.pair (Za.pair (Za.pair Za.bool (Za.slice (Za.int .u32))) (Za.slice (Za.int .u32))) (Za.pair (Za.pair Za.bool (Za.slice (Za.int .u32))) (Za.slice (Za.int .u32)))) 49 7 ae af c8 c9 cq∧Sl (Za.int .u32) ae af bn bo a6∧Sl (Za.int .u32) ae af bp bq a7∧Zl 47 6 ae af d2 #[.bool a5,.slice bn a6.length bo,.slice bp a7.length bq]∧Zl 27 1 ae af cp #[.string ad.1,.slice ch ad.2.1.length cd,.slice bk ad.2.2.1.length bu,.slice ci ad.2.2.2.1.length ce,.slice bm ad.2.2.2.2.length bv]∧[13,15].map f=[.slice c8 cq.length c9,.int .i64 br]) N ⟨_,none,0,_,_,_,_,_,_,_,_,0,_,rfl,hm,aa,ai,aj,ag,Zc.nil,(cn.ks aa),(co.ks aa),ah,ab,rfl⟩ ?_;clear hm;intro n f af hI;obtain ⟨ae,c8,c9,cq,a5,bn,bo,a6,bp,bq,a7,br,b0,hn,hm,aa,ai,aj,ag,ak,ap,aq,ah,ab,hs⟩:=hI;subst hn;refine .lL [13,15] hs ?_
  cases b0 with
  | zero=>rw [Zcm.eq_1] at hm;cases hm
  | succ b0=>
   rw [Zcm.eq_2] at hm;refine go ?_;refine Xc ab<|X3 rfl ?_;obtain ⟨bs,bt,hm⟩:=bZ hm;refine lI bt ((bi.ks aa).addr bt) ?_;obtain ⟨_,d5,d6⟩:=(bi.ks aa).atN bt;obtain ⟨⟨fu,fv,rfl,fw⟩,_⟩:=d5;refine lW d6.one<|go ?_;refine Zp hm (fun hb hm=>go ?_) fun hb hm=>go ?_
   ·have bc:=Zx.clip (fun _=>false) ae af;refine Zc2 (col:=ae) [(0,0),(1,0),(2,1),(3,0),(4,1),(5,1),(6,0),(7,1),(8,1),(9,0),(10,1),(11,1),(12,0),(13,1),(14,1),(15,1),(16,1),(17,1),(18,0),(19,3),(20,3),(21,4),(22,2)] (by kernel_rfl) (by kernel_rfl) ⟨fun h=>absurd h (by decide),fun h=>absurd h (by decide),fun h=>absurd h (by decide),fun h=>absurd h (by decide),fun h=>absurd h (by decide),fun h=>absurd h (by decide),fun h=>absurd h (by decide),fun h=>absurd h (by decide),fun h=>absurd h (by decide),fun h=>absurd h (by decide),fun h=>absurd h (by decide),fun h=>absurd h (by decide),fun h=>absurd h (by decide),fun h=>absurd h (by decide),fun h=>absurd h (by decide),fun h=>absurd h (by decide),fun h=>absurd h (by decide),fun h=>absurd h (by decide),fun h=>absurd h (by decide),fun h=>absurd h (by decide),fun h=>absurd h (by decide),fun _=>⟨_,_,_,rfl,Ug zeroValue47⟩,fun h=>absurd h (by decide),trivial⟩ ?_;replace ah:=ah.kpp bc;refine Wd (v:=(.agg #[.bool a5,.slice bn a6.length bo,.slice bp a7.length bq])) rfl rfl (fun _ hC=>Xp isAgg47 sizeOf47 rfl rfl (ah.atN.gr (hC.bl (Zf af ae)))) ?_;replace ag:=ag.kpp bc;refine Wd (v:=(.agg #[.bool bb.1.1,.slice c3 bb.1.2.length c4,.slice c5 bb.2.length c6])) rfl rfl (fun _ hC=>Xp isAgg47 sizeOf47 rfl rfl (ag.atN.gr (hC.bl (Zf af ae)))) ?_;refine Ye (v:=(.pointer ((some (⟨cp,0,none⟩:Addr)).map (·.add 4)))) rfl rfl (fun _=>Te (sz:=1) (off:=4) underlying27 rfl sizeOf25 (by decide) rfl rfl ⟨_,_,rfl⟩) ?_;replace ab:=ab.kpp bc;refine Wd (v:=(.slice bm ad.2.2.2.2.length bv)) rfl rfl (fun _ hC=>Sw isAgg25 rfl (((ab.atN).nth (q:=4) (v:=(.slice bm ad.2.2.2.2.length bv)) rfl).gr (hC.bl (Zf af ae)))) ?_;refine Ye (v:=(.int .i64 bh)) rfl rfl (fun _=>Wv rfl) ?_;obtain ⟨d7,cr,hm⟩:=bZ hm;replace aa:=aa.kpp bc;refine Ye (v:=(X4 bm (Int.toNat bh * 1))) rfl rfl (fun _=>Wr underlying25 sizeOf56 rfl rfl (X0 cr).1 (X0 cr).2.1 ((cl.ks aa).addr cr)) ?_;obtain ⟨_,d8,d9⟩:=(cl.ks aa).atN cr;obtain ⟨⟨dl,ea,rfl,dm⟩,_⟩:=d8;refine Wd (v:=(.slice dl d7.length ea)) rfl rfl (fun _ hC=>Sw isAgg56 rfl (d9.one.gr (hC.bl (Zf af ae)))) ?_;refine Ye (v:=(.int .i64 a4)) rfl rfl (fun _=>Wv rfl) ?_;refine Ye (v:=(.pointer ((some (⟨cp,0,none⟩:Addr)).map (·.add 2)))) rfl rfl (fun _=>Te (sz:=1) (off:=2) underlying27 rfl sizeOf23 (by decide) rfl rfl ⟨_,_,rfl⟩) ?_
    refine Wd (v:=(.slice bk ad.2.2.1.length bu)) rfl rfl (fun _ hC=>Sw isAgg23 rfl (((ab.atN).nth (q:=2) (v:=(.slice bk ad.2.2.1.length bu)) rfl).gr (hC.bl (Zf af ae)))) ?_;refine Ye (v:=(.int .i64 bh)) rfl rfl (fun _=>Wv rfl) ?_;refine Ye (v:=(X4 bk (Int.toNat bh * 1))) rfl rfl (fun _=>Wr underlying23 sizeOf22 rfl rfl (X0 bt).1 (X0 bt).2.1 ((bi.ks aa).addr bt)) ?_;obtain ⟨_,eb,ec⟩:=(bi.ks aa).atN bt;obtain ⟨⟨ed,ee,rfl,fx⟩,_⟩:=eb;refine Wd (v:=(.slice ed bs.length ee)) rfl rfl (fun _ hC=>Sw isAgg22 rfl (ec.one.gr (hC.bl (Zf af ae)))) ?_;refine Ye (v:=(.int .i64 bs.length)) rfl rfl (fun _=>Tw underlying22 rfl) ?_;refine Ye (v:=(.int .i64 (i64.wrap (a4 * (bs.length:Int))))) rfl rfl (fun _=>Zhu a4 (bs.length:Int) rfl rfl) ?_;refine Ye (v:=(.int .i64 br)) rfl rfl (fun _=>Wv rfl) ?_;refine Ye (v:=(.int .i64 (i64.wrap ((i64.wrap (a4 * (bs.length:Int)))+br)))) rfl rfl (fun _=>Qj (i64.wrap (a4 * (bs.length:Int))) br rfl rfl) ?_;obtain ⟨da,ct,hm⟩:=bZ hm;refine Ye (v:=(X4 dl (Int.toNat (i64.wrap ((i64.wrap (a4 * (bs.length:Int)))+br)) * 3))) rfl rfl (fun _=>Wr underlying56 sizeOf47 rfl rfl (X0 ct).1 (X0 ct).2.1 (dm.addr ct)) ?_;obtain ⟨_,ef,eg⟩:=dm.atN ct;obtain ⟨_,_,rfl,eh,ei⟩:=Yn ef;obtain ⟨_,_,rfl,ej,ek⟩:=Yn eh;obtain ⟨rfl,_⟩:=ej;obtain ⟨⟨el,em,rfl,db⟩,_⟩:=ek;obtain ⟨⟨en,eo,rfl,dc⟩,_⟩:=ei;refine Wd (v:=(.agg #[.bool da.1.1,.slice el da.1.2.length em,.slice en da.2.length eo])) rfl rfl (fun _ hC=>Xp isAgg47 sizeOf47 rfl rfl (eg.gr (hC.bl (Zf af ae)))) ?_;refine Y2 rfl rfl ?_;intro ep hC0;have hC:=hC0.bl (Zf af ae);obtain ⟨fy,eq,hm⟩:=bZ hm;replace ai:=(ai.kpp bc).gr hC;replace aj:=(aj.kpp bc).gr hC;replace db:=db.gr hC;replace dc:=dc.gr hC;refine Zh (Zyd 8 9 eq ((ai.toSlF (Zm.int .u32)).froz 4) ((aj.froz 3 (by decide)).toSlF (Zm.int .u32)) ((db.froz 3).froz 4) ((dc.froz 3).froz 4)) ?_;rintro _ a8 ⟨er,fz,f0,f1,f2,rfl,al,cb,cc⟩;refine ⟨_,rfl,?_⟩;replace cb:=cb.thaw (Z0 .u32) al (((Fz.refl (col:=(Zf af ae))).froz 3).froz 4) (by decide);replace cc:=cc.thaw (Z0 .u32) al (((Fz.refl (col:=(Zf af ae))).froz 3).froz 4) (by decide)
    replace al:=al.thawR (col:=(Zf af ae));generalize Xb ep.heap.size (Zf af ae) er=bd at *;refine Zk ?_;refine ⟨fun w'=>Zg (Zf a8 bd) a8 (Zf a8 bd) w',fun g=>(Zf a8 bd) g=497,Zg.refl _ _,Yv,fun _=>⟨fun _ h=>Ws hC0 al h,fun b hb=>al.below.block b hb,fun g x1 x2=>Wz al g x1 (by first | exact x2 | (simp only [Xk,x2];rfl) | (simp only [Xk,X6,x2];rfl))⟩,?_⟩;have ax:=Zx.clip (fun _=>false) bd a8;refine Y2 rfl rfl ?_;intro es hC0;replace ak:=(((ak.kpp bc).gr hC).gr al).kpp ax;replace ap:=(((ap.kpp bc).gr hC).gr al).kpp ax;replace aq:=(((aq.kpp bc).gr hC).gr al).kpp ax;replace ag:=((ag.gr hC).gr al).kpp ax;replace ah:=((ah.gr hC).gr al).kpp ax;replace ab:=((ab.gr hC).gr al).kpp ax;replace aa:=((aa.grow hC).grow al).kpp ax;have hC:=hC0.bl (Zf a8 bd);obtain ⟨am,et,hm⟩:=bZ hm;replace cb:=(cb.kpp ax).gr hC;replace cc:=(cc.kpp ax).gr hC;replace ap:=ap.gr hC;replace aq:=aq.gr hC;refine Zh (Znc 10 11 et ((ap.froz 8).froz 9) ((aq.froz 8).froz 9) ((cb.toSlF (Zm.int .u32)).froz 9) ((cc.froz 8 (by decide)).toSlF (Zm.int .u32))) ?_;rintro _ ao ⟨eu,dd,de,df,dg,rfl,an,ar,au⟩;refine ⟨_,rfl,?_⟩;replace ar:=ar.thaw (Z0 .u32) an (((Fz.refl (col:=(Zf a8 bd))).froz 8).froz 9) (by decide);replace au:=au.thaw (Z0 .u32) an (((Fz.refl (col:=(Zf a8 bd))).froz 8).froz 9) (by decide);replace an:=an.thawR (col:=(Zf a8 bd));generalize Xb es.heap.size (Zf a8 bd) eu=av at *;refine Zk ?_;refine ⟨fun w'=>Zg (Zf ao av) ao (Zf ao av) w',fun g=>(Zf ao av) g=497,Zg.refl _ _,Yv,fun _=>⟨fun _ h=>Ws hC0 an h,fun b hb=>an.below.block b hb,fun g x1 x2=>Wz an g x1 (by first | exact x2 | (simp only [Xk,x2];rfl) | (simp only [Xk,X6,x2];rfl))⟩,?_⟩;have ay:=Zx.clip (fun _=>false) av ao;refine Zc3 rfl rfl (Ug zeroValue47) ?_;intro be ew;refine Y2 rfl rfl ?_;intro ey ⟨hC0,hZ0⟩;replace ai:=((((ai.gr al).kpp ax).gr hC).gr an).kpp ay;replace aj:=((((aj.gr al).kpp ax).gr hC).gr an).kpp ay;replace ak:=((ak.gr hC).gr an).kpp ay;replace ag:=((ag.gr hC).gr an).kpp ay;replace ah:=((ah.gr hC).gr an).kpp ay;replace ab:=((ab.gr hC).gr an).kpp ay
    replace aa:=((aa.grow hC).grow an).kpp ay;have hC:=hC0.bl (Zf ao av);obtain ⟨az,dh⟩:=Zbg (col:=(Zf ao av)) 12 hZ0 ew;replace dh:Zl 47 12 (Xa be 12 (Zf ao av)) ey be #[.bool false,.slice none (([]:List Int).length) 0,.slice none (([]:List Int).length) 0]:=dh;refine Z8 dh ?_;intro bf a0 ez a9;refine Zk ?_;refine ⟨fun w'=>Zg (Zf bf (Xa be 12 (Zf ao av))) bf (Zf bf (Xa be 12 (Zf ao av))) w',fun g=>(Zf bf (Xa be 12 (Zf ao av))) g=497,Zg.refl _ _,Yv,fun h=>absurd h (by decide),?_⟩;have aw:=Zx.clip (fun _=>false) (Xa be 12 (Zf ao av)) bf;refine Zc4 ?_;replace ap:=(((((ap.gr an).kpp ay).gr hC).kpp az).kp a0).kpp aw;replace aq:=(((((aq.gr an).kpp ay).gr hC).kpp az).kp a0).kpp aw;replace ar:=((((ar.kpp ay).gr hC).kpp az).kp a0).kpp aw;replace au:=((((au.kpp ay).gr hC).kpp az).kp a0).kpp aw;replace ai:=(((ai.gr hC).kpp az).kp a0).kpp aw;replace aj:=(((aj.gr hC).kpp az).kp a0).kpp aw;replace ak:=(((ak.gr hC).kpp az).kp a0).kpp aw;replace ag:=(((ag.gr hC).kpp az).kp a0).kpp aw;replace ah:=(((ah.gr hC).kpp az).kp a0).kpp aw;replace ab:=(((ab.gr hC).kpp az).kp a0).kpp aw;replace aa:=(((aa.grow hC).kpp az).kp a0 ez).kpp aw;intro e0 hC;replace hC:Zg (Zf bf (Xa be 12 (Zf ao av))) bf (Zf bf (Xa be 12 (Zf ao av))) e0:=.of_below hC.below;refine go ?_;replace ah:=ah.gr hC;refine lV _ (Xh isAgg47 sizeOf47 ah) ?_;replace a9:=(a9.kpp aw).gr hC;refine lV _ (Xh isAgg47 sizeOf47 a9)<|lV (.agg #[.bool a5,.slice bn a6.length bo,.slice bp a7.length bq,.bool am.1.1,.slice dd am.1.2.length de,.slice df am.2.length dg]) (Yt (l:=[_,_]) (qs:=[(0,3),(3,3)]) underlying49 zeroValue49 ⟨rfl,sizeOf47,rfl,sizeOf47,trivial⟩ rfl) ?_;replace ai:=ai.gr hC;replace ai:=ai.froz 11 (by decide);replace aj:=aj.gr hC;replace aj:=aj.froz 11 (by decide);replace ap:=ap.gr hC;replace ap:=ap.froz 11;replace aq:=aq.gr hC;replace aq:=aq.froz 11;replace ar:=ar.gr hC;replace ar:=ar.froz 11 (by decide);replace au:=au.gr hC;replace au:=(au).toSlF (Zm.int .u32);replace ak:=ak.gr hC;replace ak:=ak.froz 11 (by decide);replace ag:=ag.gr hC;replace ag:=ag.froz 11 (by decide);replace ah:=ah.froz 11 (by decide);replace ab:=ab.gr hC;replace ab:=ab.froz 11 (by decide)
    replace a9:=a9.froz 11 (by decide);replace aa:=aa.grow hC;replace aa:=aa.froz 11 (by decide) (by decide);replace ai:=ai.froz 10 (by decide);replace aj:=aj.froz 10 (by decide);replace ap:=ap.froz 10;replace aq:=aq.froz 10;replace ar:=(ar).toSlF (Zm.int .u32);replace au:=au.froz 10;replace ak:=ak.froz 10 (by decide);replace ag:=ag.froz 10 (by decide);replace ah:=ah.froz 10 (by decide);replace ab:=ab.froz 10 (by decide);replace a9:=a9.froz 10 (by decide);replace aa:=aa.froz 10 (by decide) (by decide);refine Zbm (col:=(Xk 10 (Xk 11 (Zf bf (Xa be 12 (Zf ao av)))))) (r:=(Za.pair (Za.pair (Za.pair Za.bool (Za.slice (Za.int .u32))) (Za.slice (Za.int .u32))) (Za.pair (Za.pair Za.bool (Za.slice (Za.int .u32))) (Za.slice (Za.int .u32))))) (xs:=[(((a5,a6),a7),((am.1.1,am.1.2),am.2))]) [(.agg #[.bool a5,.slice bn a6.length bo,.slice bp a7.length bq,.bool am.1.1,.slice dd am.1.2.length de,.slice df am.2.length dg])] 13 (V9.ofF (Rows.consF (r:=(Za.pair (Za.pair (Za.pair Za.bool (Za.slice (Za.int .u32))) (Za.slice (Za.int .u32))) (Za.pair (Za.pair Za.bool (Za.slice (Za.int .u32))) (Za.slice (Za.int .u32))))) (x:=(((a5,a6),a7),((am.1.1,am.1.2),am.2))) (cs:=[.bool a5,.slice bn a6.length bo,.slice bp a7.length bq,.bool am.1.1,.slice dd am.1.2.length de,.slice df am.2.length dg]) (V7 (V7 (V7 (Zcw a5) (Zad ap)) (Zad aq)) (V7 (V7 (Zcw am.1.1) (Zad ar)) (Zad au))) Rows.nil0)) ?_;intro f3 f4 f5 ba e1;obtain ⟨e2,hm⟩:=Z4 hm;replace ak:=ak.gr ba;refine W3 ak (e1.srcN (NB.pair (NB.pair (NB.pair NB.bool NB.slice) NB.slice) (NB.pair (NB.pair NB.bool NB.slice) NB.slice))) e2 ?_;intro f6 f7 f8 f9 bg di;refine go ?_;replace a9:=(a9.gr ba).kpp bg;refine lV _ (Xh isAgg47 sizeOf47 a9) ?_;replace ah:=(ah.gr ba).kpp bg;refine Z8 ah ?_;intro ga bj e3 e4;refine go ?_;replace ai:=((ai.gr ba).kpp bg).kp bj;replace aj:=((aj.gr ba).kpp bg).kp bj;replace ar:=((ar.gr ba).kpp bg).kp bj;replace au:=((au.gr ba).kpp bg).kp bj;replace ag:=((ag.gr ba).kpp bg).kp bj;replace ab:=((ab.gr ba).kpp bg).kp bj;replace aa:=((aa.grow ba).kpp bg).kp bj e3;replace di:=di.kp bj;exact ⟨b0,by omega,rfl,⟨_,_,_,_,_,_,_,_,_,_,_,_,_,rfl,hm,aa,ai,aj,ag,di,ar,au,e4,ab,rfl⟩⟩
   cases hm;exact ⟨rfl,_,_,_,rfl,aa.fin (cm [(7,c1)]),aa.fo ak⟩
section
variable {N K:Nat} {n:Xt} (hf:Vx N n) (w:List Int) (hw:Vy n w)
include hf hw
theorem Zvt (hr:Xd N (8 * K+40)) {v:Nat} (hv:v<n.2.1.length) (hl:∀ x ∈ Xz n w v,Wx x∧max x.1.2.length x.2.length≤K) {long:Rat} (hlong:qs long≤K):
  ∀ (l:List QV) (f j:Nat) (a:Rat) (parts:List (QV×QV)),(Xz n w v).drop j=l→j≤cnt n v→cnt n v<f+j→qs a≤K→(∀ p ∈ Yh long l a,qs p.1≤K∧qs p.2≤K)→parts.length=j→
   Zcm N n (v:Int) (Vv n w v:Int) (Zq long) f parts (Zq a).1.1 (Zq a).1.2 (Zq a).2 (j:Int)=some (parts++(Yh long l a).map Xo)
 | l,0,j,a,parts,_,h1,h2,_,_,_=>by omega
 | l,f+1,j,a,parts,hd,h1,h2,ha,hp,hpl=>by
  have hlen:=hf.rowT_len hw hv
  have hrow:=hf.row hw hv
  have hrows:=hf.rows hv
  rw [Zcm.eq_2,Vz [] (by rw [hf.ev.v];exact hv),Option.bind_some]
  cases l with
  | nil=>
   have h3:=List.drop_eq_nil_iff.1 hd
   rw [if_neg (by rw [decide_eq_false (by rw [cnt] at h1 hlen;omega)];decide),Yh,List.map_nil,List.append_nil]
  | cons y l=>
   have hj:j<(Xz n w v).length:=by
    rcases Nat.lt_or_ge j (Xz n w v).length with h | h
    ·exact h
    ·rw [List.drop_eq_nil_of_le h] at hd;cases hd
   have hy:(Xz n w v)[j]=y∧(Xz n w v).drop (j+1)=l:=by
    rw [List.drop_eq_getElem_cons hj] at hd
    exact List.cons.inj hd
   have hyK:=hl y (hy.1 ▸ List.getElem_mem hj)
   have hjc:j<cnt n v:=by omega
   have hq:=hp _ List.mem_cons_self
   have e0:(0:Int)≤((Vv n w v * cnt n v:Nat):Int):=Int.natCast_nonneg _
   have e1:i64.wrap ((Vv n w v:Int) * ((n.2.2.1.getD v []).length:Int))=((Vv n w v * cnt n v:Nat):Int):=by
    rw [show ((n.2.2.1.getD v []).length:Int)=((cnt n v:Nat):Int) from rfl,← Int.natCast_mul]
    exact Zr (by omega)
   have e2:i64.wrap (((Vv n w v * cnt n v:Nat):Int)+(j:Int))=((Vv n w v * cnt n v+j:Nat):Int):=by
    rw [← Int.natCast_add]
    exact Zr (by omega)
   have r1:=Zcy hyK.1.1 hyK.1.2
   have m1:Zgw N (((Zq long).1.1,(Zq long).1.2),(Zq long).2) ((y.1.1,y.1.2),y.2)=some (Zq (long * Zv y)):=by
    have:=Z29 (Wh hlong) (r1.mono hyK.2) (hr.mono (by omega))
    rwa [Yy] at this
   have s1:qs (long * Zv y)≤K+(K+1):=by
    have h4:=Zt7 long (Zv y)
    have h5:=Zl5 hyK.1
    omega
   have a1:Zca N (((Zq a).1.1,(Zq a).1.2),(Zq a).2) (((Zq (long * Zv y)).1.1,(Zq (long * Zv y)).1.2),(Zq (long * Zv y)).2)=some (Zq (a+long * Zv y)):=by
    have:=Zoy (Wh ha) (Wh s1) (hr.mono (by omega))
    rwa [Yy,Yy] at this
   rw [if_pos (decide_eq_true (by rw [cnt] at hjc;omega)),Vz [] (by rw [hf.ev.t];exact hv),Option.bind_some,e1,e2,Zvn hj,hy.1,Option.bind_some,m1,Option.bind_some,a1,Option.bind_some,
    Z6 (by simp only [List.length_singleton,maxLen];omega),Zr (x:=(j:Int)+1) (by omega)]
   have ih:=Zvt hr hv hl hlong l f (j+1) (a+long * Zv y) (parts++[Xo (a,a+long * Zv y)]) hy.2 (by omega) (by omega) hq.2 (fun p h=>hp p (List.mem_cons_of_mem _ h)) (by rw [List.length_append,List.length_singleton];omega)
   rw [List.append_assoc] at ih
   exact ih
theorem Zvs (s:QV×QV) {v:Nat} (hv:v<n.2.1.length) (hps:(n.2.2.2.1.getD v []).length≤1048576):∀ (f i r k:Nat),i≤(n.2.2.2.1.getD v []).length→(n.2.2.2.1.getD v []).length<f+i→r<k→k≤65536→Yj n.2.2.1 ((n.2.2.2.1.getD v []).drop i) k≤65536→
  Zex N n (v:Int) w s f (i:Int) (r:Int)=(Zeb N ((s.2.1.1,s.2.1.2),s.2.2) ((s.1.1.1,s.1.1.2),s.1.2)).bind fun d=>Zcm N n (v:Int) (Zhw n w ((n.2.2.2.1.getD v []).drop i) r:Int) d N ([]:List (QV×QV)) s.1.1.1 s.1.1.2 s.1.2 0
 | 0,i,r,k,h1,h2,_,_,_=>by omega
 | f+1,i,r,k,h1,h2,g1,g2,g3=>by
  rw [Zex.eq_2,Vz [] (by rw [hf.ev.p];exact hv),Option.bind_some]
  by_cases hi:i<(n.2.2.2.1.getD v []).length
  ·have hp:∀ q ∈ (n.2.2.2.1.getD v []).drop i,0≤q∧q<(n.2.1.length:Int):=fun q hq=>hf.pars hv q (List.mem_of_mem_drop hq)
   rw [List.drop_eq_getElem_cons hi] at g3 hp ⊢
   obtain ⟨c1,c2,c3⟩:=Zo0 hf.ev hw hp g1 g2 g3
   generalize he:(n.2.2.2.1.getD v [])[i]=p at *
   have hpp:=hp p List.mem_cons_self
   have hwp:=hw.ok p.toNat (by rw [hw.len];omega)
   have g4:r * cnt n p.toNat≤k * cnt n p.toNat:=Nat.mul_le_mul_right _ (by omega)
   have q1:Zn n.2.2.1 p=some (n.2.2.1.getD p.toNat []):=by
    have:=Vz (l:=n.2.2.1) [] (j:=p.toNat) (by rw [hf.ev.v];omega)
    rwa [show ((p.toNat:Nat):Int)=p by omega] at this
   have q2:Zn w p=some (w.getD p.toNat 0):=by
    have:=Vz (l:=w) 0 (j:=p.toNat) (by rw [hw.len];omega)
    rwa [show ((p.toNat:Nat):Int)=p by omega] at this
   have e1:i64.wrap ((r:Int) * ((n.2.2.1.getD p.toNat []).length:Int))=((r * cnt n p.toNat:Nat):Int):=by
    rw [show ((n.2.2.1.getD p.toNat []).length:Int)=((cnt n p.toNat:Nat):Int) from rfl,← Int.natCast_mul]
    exact Zr (by omega)
   have e2:i64.wrap (((r * cnt n p.toNat:Nat):Int)+w.getD p.toNat 0)=((r * cnt n p.toNat+(w.getD p.toNat 0).toNat:Nat):Int):=by
    rw [Int.natCast_add,show (((w.getD p.toNat 0).toNat:Nat):Int)=w.getD p.toNat 0 by omega]
    exact Zr (by omega)
   rw [if_pos (decide_eq_true (by omega)),Zz hi,he,Option.bind_some,q1,Option.bind_some,q2,Option.bind_some,e1,e2,wS (by omega)]
   exact Zvs s hv hps f (i+1) _ _ (by omega) (by omega) c1 c2 c3
  ·rw [if_neg (by rw [decide_eq_false (by omega)];decide),List.drop_eq_nil_of_le (by omega)];rfl
end
section
variable {N W K:Nat} {n:Xt} (hf:Vx N n) (hs:Ue n W) (hr:Xd N (8 * K+40)) (hWK:W≤K) (hN:1048577<N)
include hf hs hr hWK hN
theorem Z3i {w:List Int} (hw:Vy n w) {v:Nat} (hv:v<n.2.1.length) {D M:Nat} {s:Rat×Rat} (hL:Tj D M s) (hK:(Ze M).length+(Ze D).length+(W+2)+2≤K):
  Zhk N n (v:Int) w (Xo s)=some ((Yh (s.2 - s.1) (Xz n w v) s.1).map Xo):=by
 obtain ⟨D',M',c1,c2,c3⟩:=Zn2 hf hs hw hv hL
 have hrows:=hf.rows hv
 have hcl:cnt n v≤65536:=by have:=(hf.row hw hv).1;omega
 have hps:(n.2.2.2.1.getD v []).length≤1048576:=by
  rw [Yk (by rw [hf.ev.p];exact hv)]
  exact hs.pn.ls _ (List.getElem_mem _)
 have hsub:Zeb N (((Xo s).2.1.1,(Xo s).2.1.2),(Xo s).2.2) (((Xo s).1.1.1,(Xo s).1.1.2),(Xo s).1.2)=some (Zq (s.2 - s.1)):=by
  have:=Z3c (Wh hL.qb) (Wh hL.qa) (hr.mono (s:=2 * ((Ze M).length+(Ze D).length+2 * ((Ze M).length+(Ze D).length)+4)) (by omega))
  rwa [Yy,Yy] at this
 have h1:=Zvs hf w hw (Xo s) hv hps N 0 0 1 (Nat.zero_le _) (by omega) (by omega) (by omega) hrows.2.2
 rw [show ((0:Nat):Int)=0 from rfl,List.drop_zero,hsub,Option.bind_some] at h1
 rw [Zhk,h1]
 have h3:=Zvt hf w hw hr hv (fun x hx=>by have:=Znp hf hs hv x (Zjx hx);exact ⟨this.1,by omega⟩) (long:=s.2 - s.1) (by omega) (Xz n w v) N 0 s.1 [] rfl (Nat.zero_le _) (by omega) (by have:=hL.qa;omega) (fun p hp=>⟨by have:=(c2 p hp).qa;omega,by have:=(c2 p hp).qb;omega⟩) rfl
 rw [show ((0:Nat):Int)=0 from rfl,List.nil_append] at h3
 exact h3
end
def Zcc (N:Nat) (aa:Rc):Option Rh:=
  (Sm N aa).bind fun ab=>if (!decide (ab=0))=true then (some (([]:List Int),ab)) else ((Tc N aa).bind fun ac=>some (ac,0))
theorem Zyk {N ac:Nat} {a0:Option Addr} {col:Zd} {w0:World} {ab:Rc} {r:Rh} (c1:Nat) (hm:Zcc N ab=some r) (h0:Sl (Za.slice (Za.int .i64)) col w0 a0 ac ab):
    Calls Tryz.prog 86 #[.slice a0 ab.length ac] w0 (fun e w'=>∃ (col':Zd) (ra1:Option Addr) (rc2:Nat),e= .returned (.tuple #[.slice ra1 r.1.length rc2,.int .i64 r.2])∧Zg col w0 col' w'∧Zc (Za.int .i64) 3 c1 col' w' ra1 rc2 r.1):=by
 refine Zie 2 3 (m:=12) (args:=[.slice a0 ab.length ac]) func86 rfl rfl rfl rfl rfl ?_;rw [Zcc.eq_1] at hm;have aa:=St.start col w0;refine go ?_;obtain ⟨aj,ae,hm⟩:=bZ hm;replace h0:=h0.keep (Zj.start col w0);refine Zh (Zp6 ae (h0.ks aa)) ?_;rintro _ af ⟨rfl,ad⟩;refine ⟨_,rfl,?_⟩;replace ad:Zg (Zi col) w0 (Zi col) af:=.of_below ad;refine go ?_;replace aa:=aa.grow ad;refine Zp hm (fun hb hm=>go ?_) fun hb hm=>go ?_
 ·cases hm;exact ⟨rfl,_,none,0,rfl,aa.fin (cm []),Zc.nil⟩
 obtain ⟨ak,ag,hm⟩:=bZ hm;refine Zh (Zp7 1 ag (h0.ks aa)) ?_;rintro _ al ⟨am,an,ao,rfl,ah,ai⟩;refine ⟨_,rfl,go ?_⟩;cases hm;replace aa:=aa.grow ah;exact ⟨rfl,_,_,_,rfl,aa.fin (cm [(1,c1)]),aa.fo ai⟩
def Zcl (aa:Int) (kk_L2:(Int→Int→Option Rb)) (ab:Int):Option Rb:=
  kk_L2 ab (i64.wrap (aa+1))
def Zew (ab:Int) (aa:Int) (kk_L2:(Int→Int→Option Rb)) (ac:Bool):Option Rb:=
  if ac=true then (Zcl aa kk_L2 aa) else (Zcl aa kk_L2 ab)
def Zhi (N:Nat) (aa:(R0×R0)) (ae:Rg) (ad:Int) (ab:Int) (kk_L2:(Int→Int→Option Rb)) (af:Bool):Option Rb:=
  if af=true then ((Zn ae ab).bind fun ac=>(Sk N ((aa.2.1.1,aa.2.1.2),aa.2.2) ((ac.2.1.1,ac.2.1.2),ac.2.2)).bind fun ag=>Zew ad ab kk_L2 (decide (ag≤0))) else (Zew ad ab kk_L2 false)
def Sp (N:Nat) (aa:(R0×R0)) (ai:Int) (af:List Int) (kk_L1:(Int→R2→Bool→R2→R2→Bool→R2→R2→Option Rb)) (ag:Int) (ab:Rg):Nat→Int→Int→Option Rb
  | 0,_,_=>none
  | aj+1,ae,ah=>if (decide (ah<(ab.length:Int)))=true then ((Zn ab ah).bind fun ac=>(Sk N ((ac.1.1.1,ac.1.1.2),ac.1.2) ((aa.1.1.1,aa.1.1.2),aa.1.2)).bind fun ak=>if (decide (ak≤0))=true then ((Sk N ((aa.1.1.1,aa.1.1.2),aa.1.2) ((ac.2.1.1,ac.2.1.2),ac.2.2)).bind fun al=>Zhi N aa ab ae ah (Sp N aa ai af kk_L1 ag ab aj) (decide (al<0))) else (Zhi N aa ab ae ah (Sp N aa ai af kk_L1 ag ab aj) false)) else (if (decide (ae<0))=true then (some (([]:List Int),false)) else ((Zn af ag).bind fun an=>(some (af.set (Int.toNat ag) ae)).bind fun am=>(Zn ab ae).bind fun ad=>kk_L1 (i64.wrap (ai+1)) am ad.1.1.1 ad.1.1.2 ad.1.2 ad.2.1.1 ad.2.1.2 ad.2.2))
termination_by structural x=>x
def Tr (N:Nat) (aa:R1) (ae:(R0×R0)) (ab:Rh):Nat→Int→R2→Bool→R2→R2→Bool→R2→R2→Option Rb
  | 0,_,_,_,_,_,_,_,_=>none
  | ag+1,ac,ad,ah,ai,aj,ak,al,am=>if (decide (ac<(ab.1.length:Int)))=true then ((Zn ab.1 ac).bind fun af=>(Zhk N (aa.1,aa.2.1,aa.2.2.1,aa.2.2.2.1,aa.2.2.2.2) af ad (((ah,ai),aj),((ak,al),am))).bind fun an=>Sp N ae ac ad (Tr N aa ae ab ag) af an N (-1) 0) else (some (ad,true))
termination_by structural x=>x
def Zhh (N:Nat) (ab:R1) (ac:(R0×R0)):Option Rb:=
  (Zcc N ab.2.2.2.1).bind fun ad=>Zw (ab.2.1.length * 8≤281474976710656∧ab.2.1.length≤maxLen) ((Zjq N).bind fun aa=>Tr N ab ac ad N 0 (List.replicate ab.2.1.length (0:Int)) aa.1.1.1 aa.1.1.2 aa.1.2 aa.2.1.1 aa.2.1.2 aa.2.2)
theorem Zyz {N b1 b2 b3 b4 bi bj bp bq:Nat} {b5 b6 b7 b8 bk bm br bs:Option Addr} {col:Zd} {w0:World} {ac:R1} {aa:(R0×R0)} {r:Rb} (c1:Nat) (hm:Zhh N ac aa=some r) (cz:Sl Za.str col w0 b5 b1 ac.2.1) (c0:Sl (Za.slice Za.str) col w0 b6 b2 ac.2.2.1) (cq:Sl (Za.slice (Za.int .i64)) col w0 b7 b3 ac.2.2.2.1) (c2:Sl (Za.slice (Za.pair (Za.pair Za.bool (Za.slice (Za.int .u32))) (Za.slice (Za.int .u32)))) col w0 b8 b4 ac.2.2.2.2) (cr:Sl (Za.int .u32) col w0 bk bi aa.1.1.2) (cs:Sl (Za.int .u32) col w0 bm bj aa.1.2) (c3:Sl (Za.int .u32) col w0 br bp aa.2.1.2) (c4:Sl (Za.int .u32) col w0 bs bq aa.2.2):
    Calls Tryz.prog 96 #[(.agg #[.string ac.1,.slice b5 ac.2.1.length b1,.slice b6 ac.2.2.1.length b2,.slice b7 ac.2.2.2.1.length b3,.slice b8 ac.2.2.2.2.length b4]),(.agg #[.bool aa.1.1.1,.slice bk aa.1.1.2.length bi,.slice bm aa.1.2.length bj,.bool aa.2.1.1,.slice br aa.2.1.2.length bp,.slice bs aa.2.2.length bq])] w0 (fun e w'=>∃ (col':Zd) (ra1:Option Addr) (rc2:Nat),e= .returned (.tuple #[.slice ra1 r.1.length rc2,.bool r.2])∧Zg col w0 col' w'∧Zc (Za.int .i64) 3 c1 col' w' ra1 rc2 r.1):=by
 refine Zie 4 5 (m:=92) (args:=[(.agg #[.string ac.1,.slice b5 ac.2.1.length b1,.slice b6 ac.2.2.1.length b2,.slice b7 ac.2.2.2.1.length b3,.slice b8 ac.2.2.2.2.length b4]),(.agg #[.bool aa.1.1.1,.slice bk aa.1.1.2.length bi,.slice bm aa.1.2.length bj,.bool aa.2.1.1,.slice br aa.2.1.2.length bp,.slice bs aa.2.2.length bq])]) func96 rfl rfl rfl rfl rfl ?_;rw [Zhh.eq_1] at hm;have ab:=St.start col w0;refine go ?_;refine Xi (col:=(Zi col)) 1 rfl ?_;intro ck gd dp dq ad;refine Xi (col:=dp) 2 rfl ?_;intro cl ge gf dk ae;refine go ?_;refine Xf ⟨_,_,rfl⟩ ?_;replace ad:=ad.gr dk;refine lW ((ad.atN).nth (q:=3) rfl) ?_;obtain ⟨ap,dr,hm⟩:=bZ hm;replace cq:=cq.keep (Zj.start col w0);replace ab:=(ab.grow dq).grow dk;refine Zh (Zyk 3 dr (cq.ks ab)) ?_;rintro _ ds ⟨dt,ca,cb,rfl,c5,af⟩;refine ⟨_,rfl,?_⟩;refine lM (.tuple #[.slice ca ap.1.length cb,.int .i64 ap.2])<|lV (.slice ca ap.1.length cb) (Xv rfl rfl)<|lV (.int .i64 ap.2) (Xv rfl rfl)<|go ?_;refine Xf ⟨_,_,rfl⟩ ?_;replace ad:=ad.gr c5;refine lW ((ad.atN).nth (q:=1) rfl)<|go ?_;obtain ⟨dl,hm⟩:=Z4 hm;refine Sb (col:=dt) (w:=ds) (r:=(Za.int .i64)) (n:=ac.2.1.length) (x0:=0) 4 rfl underlying40 Tryz.t3 rfl rfl rfl rfl rfl rfl rfl dl.1 dl.2 (Ql .i64 0) ?_;intro gg gh du ct a3;refine go ?_;obtain ⟨gi,dv,hm⟩:=bZ hm;refine lc rfl rfl (Za8 call87) (Zy2 (col:=du) 5 6 7 8 dv:) ?_;rintro _ gj ⟨dw,gk,gl,gm,gp,gs,gt,gu,gv,rfl,cn,a4,a5,a6,a7⟩;refine ⟨_,rfl,?_⟩;refine Xs (col:=dw) #[.bool false,.slice none (([]:List Int).length) 0,.slice none (([]:List Int).length) 0,.bool false,.slice none (([]:List Int).length) 0,.slice none (([]:List Int).length) 0] 9 zeroValue49 ?_;intro co gw gx bt dx;refine Z8 dx ?_;intro gy bu dy ag;refine go ?_;replace af:=(((af.gr ct).gr cn).gr bt).kp bu;replace af:=af.froz 5 (by decide);replace a3:=((a3.gr cn).gr bt).kp bu;replace a3:=a3.froz 5 (by decide);replace a4:=(a4.gr bt).kp bu;replace a4:=(a4).toSlF (Zm.int .u32);replace a5:=(a5.gr bt).kp bu;replace a5:=a5.froz 5 (by decide);replace a6:=(a6.gr bt).kp bu;replace a6:=a6.froz 5 (by decide);replace a7:=(a7.gr bt).kp bu;replace a7:=a7.froz 5 (by decide);replace ad:=(((ad.gr ct).gr cn).gr bt).kp bu;replace ad:=ad.froz 5 (by decide)
 replace ae:=((((ae.gr c5).gr ct).gr cn).gr bt).kp bu;replace ae:=ae.froz 5 (by decide);replace ag:=ag.froz 5 (by decide);replace ab:=((((ab.grow c5).grow ct).grow cn).grow bt).kp bu dy;replace ab:=ab.froz 5 (by decide) (by decide);replace af:=af.froz 6 (by decide);replace a3:=a3.froz 6 (by decide);replace a4:=a4.froz 6;replace a5:=(a5).toSlF (Zm.int .u32);replace a6:=a6.froz 6 (by decide);replace a7:=a7.froz 6 (by decide);replace ad:=ad.froz 6 (by decide);replace ae:=ae.froz 6 (by decide);replace ag:=ag.froz 6 (by decide);replace ab:=ab.froz 6 (by decide) (by decide);replace af:=af.froz 7 (by decide);replace a3:=a3.froz 7 (by decide);replace a4:=a4.froz 7;replace a5:=a5.froz 7;replace a6:=(a6).toSlF (Zm.int .u32);replace a7:=a7.froz 7 (by decide);replace ad:=ad.froz 7 (by decide);replace ae:=ae.froz 7 (by decide);replace ag:=ag.froz 7 (by decide);replace ab:=ab.froz 7 (by decide) (by decide);replace af:=af.froz 8 (by decide);replace a3:=a3.froz 8 (by decide);replace a4:=a4.froz 8;replace a5:=a5.froz 8;replace a6:=a6.froz 8;replace a7:=(a7).toSlF (Zm.int .u32);replace ad:=ad.froz 8 (by decide);replace ae:=ae.froz 8 (by decide);replace ag:=ag.froz 8 (by decide);replace ab:=ab.froz 8 (by decide) (by decide);refine Zy [2,3,6,9,1000000] (fun n f a8=>∃ a9 cc bv bw aq cd ba bb ar bc bd au ce be bf av bg bh aw bn,bn=n∧Tr N ac aa ap bn cc aq cd ar au ce av aw=some r∧St w0 (Zi col) a9 a8∧Zl 27 1 a9 a8 ck #[.string ac.1,.slice b5 ac.2.1.length b1,.slice b6 ac.2.2.1.length b2,.slice b7 ac.2.2.2.1.length b3,.slice b8 ac.2.2.2.2.length b4]∧Zl 49 2 a9 a8 cl #[.bool aa.1.1.1,.slice bk aa.1.1.2.length bi,.slice bm aa.1.2.length bj,.bool aa.2.1.1,.slice br aa.2.1.2.length bp,.slice bs aa.2.2.length bq]∧Zc (Za.int .i64) 3 3 a9 a8 ca cb ap.1∧Zc (Za.int .i64) 3 4 a9 a8 bv bw aq∧Sl (Za.int .u32) a9 a8 ba bb ar∧Sl (Za.int .u32) a9 a8 bc bd au∧Sl (Za.int .u32) a9 a8 be bf av∧Sl (Za.int .u32) a9 a8 bg bh aw∧Zl 49 9 a9 a8 co #[.bool cd,.slice ba ar.length bb,.slice bc au.length bd,.bool ce,.slice be av.length bf,.slice bg aw.length bh]∧[10,8].map f=[.int .i64 cc,.slice bv aq.length bw]) N ⟨_,0,_,_,_,_,_,_,_,_,_,_,_,_,_,_,_,_,_,_,rfl,hm,ab,ad,ae,af,a3,a4,a5,a6,a7,ag,rfl⟩ ?_
 clear hm;intro n f a8 hI;obtain ⟨a9,cc,bv,bw,aq,cd,ba,bb,ar,bc,bd,au,ce,be,bf,av,bg,bh,aw,bn,hn,hm,ab,ad,ae,af,aj,ak,al,am,an,ag,hs⟩:=hI;subst hn;refine .lL [10,8] hs ?_;replace cz:=cz.keep (Zj.start col w0);replace c0:=c0.keep (Zj.start col w0);replace c2:=c2.keep (Zj.start col w0);replace cr:=cr.keep (Zj.start col w0);replace cs:=cs.keep (Zj.start col w0);replace c3:=c3.keep (Zj.start col w0);replace c4:=c4.keep (Zj.start col w0)
 cases bn with
 | zero=>rw [Tr.eq_1] at hm;cases hm
 | succ bn=>
  rw [Tr.eq_2] at hm;refine go ?_;refine Zp hm (fun hb hm=>go ?_) fun hb hm=>go ?_
  ·obtain ⟨cp,c6,hm⟩:=bZ hm;refine lI c6 (af.addr c6)<|lW (af.atInt c6) ?_;refine go ?_;refine lV _ (Xh isAgg27 sizeOf27 ad)<|go ?_;refine lV _ (Xh isAgg49 sizeOf49 ag) ?_;obtain ⟨bx,dz,hm⟩:=bZ hm;refine Zh (Zy1 10 4 dz (by decide) (cz.ks ab) (c0.ks ab) (cq.ks ab) (c2.ks ab) aj ak al am an) ?_;rintro _ gz ⟨g0,cu,cv,rfl,bo,ah⟩;refine ⟨_,rfl,go ?_⟩;replace af:=af.gr bo;replace aj:=aj.gr bo;replace ak:=ak.gr bo;replace al:=al.gr bo;replace am:=am.gr bo;replace an:=an.gr bo;replace ad:=ad.gr bo;replace ae:=ae.gr bo;replace ag:=ag.gr bo;replace ab:=ab.grow bo;refine Zy [10,11,12,2,3,6,8,9,1000000] (fun n f ax=>∃ ai cf cg bz,bz=n∧Sp N aa cc aq (Tr N ac aa ap bn) cp bx bz cf cg=some r∧St w0 (Zi col) ai ax∧Zc (Za.pair (Za.pair (Za.pair Za.bool (Za.slice (Za.int .u32))) (Za.slice (Za.int .u32))) (Za.pair (Za.pair Za.bool (Za.slice (Za.int .u32))) (Za.slice (Za.int .u32)))) 49 10 ai ax cu cv bx∧Zl 27 1 ai ax ck #[.string ac.1,.slice b5 ac.2.1.length b1,.slice b6 ac.2.2.1.length b2,.slice b7 ac.2.2.2.1.length b3,.slice b8 ac.2.2.2.2.length b4]∧Zl 49 2 ai ax cl #[.bool aa.1.1.1,.slice bk aa.1.1.2.length bi,.slice bm aa.1.2.length bj,.bool aa.2.1.1,.slice br aa.2.1.2.length bp,.slice bs aa.2.2.length bq]∧Zc (Za.int .i64) 3 3 ai ax ca cb ap.1∧Zc (Za.int .i64) 3 4 ai ax bv bw aq∧Sl (Za.int .u32) ai ax ba bb ar∧Sl (Za.int .u32) ai ax bc bd au∧Sl (Za.int .u32) ai ax be bf av∧Sl (Za.int .u32) ai ax bg bh aw∧Zl 49 9 ai ax co #[.bool cd,.slice ba ar.length bb,.slice bc au.length bd,.bool ce,.slice be av.length bf,.slice bg aw.length bh]∧[13,14].map f=[.int .i64 cf,.int .i64 cg]) N ⟨_,_,0,_,rfl,hm,ab,ah,ad,ae,af,aj,ak,al,am,an,ag,rfl⟩ ?_;clear hm;intro n f ax hI;obtain ⟨ai,cf,cg,bz,hn,hm,ab,ah,ad,ae,af,aj,ak,al,am,an,ag,hs⟩:=hI;subst hn;refine .lL [13,14] hs ?_
   cases bz with
   | zero=>rw [Sp.eq_1] at hm;cases hm
   | succ bz=>
    rw [Sp.eq_2] at hm;refine go ?_;refine Zp hm (fun hb hm=>?_) fun hb hm=>go ?_
    ·refine X5<|Zu ?_;refine Wp.cutK [10,11,12,14,2,3,6,8,9,1000000] (fun f ay=>∃ az c7,Zcl cg (Sp N aa cc aq (Tr N ac aa ap bn) cp bx bz) c7=some r∧St w0 (Zi col) az ay∧Zc (Za.pair (Za.pair (Za.pair Za.bool (Za.slice (Za.int .u32))) (Za.slice (Za.int .u32))) (Za.pair (Za.pair Za.bool (Za.slice (Za.int .u32))) (Za.slice (Za.int .u32)))) 49 10 az ay cu cv bx∧Zl 27 1 az ay ck #[.string ac.1,.slice b5 ac.2.1.length b1,.slice b6 ac.2.2.1.length b2,.slice b7 ac.2.2.2.1.length b3,.slice b8 ac.2.2.2.2.length b4]∧Zl 49 2 az ay cl #[.bool aa.1.1.1,.slice bk aa.1.1.2.length bi,.slice bm aa.1.2.length bj,.bool aa.2.1.1,.slice br aa.2.1.2.length bp,.slice bs aa.2.2.length bq]∧Zc (Za.int .i64) 3 3 az ay ca cb ap.1∧Zc (Za.int .i64) 3 4 az ay bv bw aq∧Sl (Za.int .u32) az ay ba bb ar∧Sl (Za.int .u32) az ay bc bd au∧Sl (Za.int .u32) az ay be bf av∧Sl (Za.int .u32) az ay bg bh aw∧Zl 49 9 az ay co #[.bool cd,.slice ba ar.length bb,.slice bc au.length bd,.bool ce,.slice be av.length bf,.slice bg aw.length bh]∧[13].map f=[.int .i64 c7]) ?_ ?_
     ·intro f ay hJ;obtain ⟨az,c7,hm,ab,ah,ad,ae,af,aj,ak,al,am,an,ag,hs⟩:=hJ;rw [Zcl.eq_1] at hm;refine .lL [13] hs<|go ?_;exact ⟨bz,by omega,rfl,⟨_,_,_,_,rfl,hm,ab,ah,ad,ae,af,aj,ak,al,am,an,ag,rfl⟩⟩
     refine Zc1<|Zu ?_;refine Wp.cutK [10,11,12,13,14,2,3,6,8,9,1000000] (fun f a0=>∃ ao c8,Zhi N aa bx cf cg (Sp N aa cc aq (Tr N ac aa ap bn) cp bx bz) c8=some r∧St w0 (Zi col) ao a0∧Zc (Za.pair (Za.pair (Za.pair Za.bool (Za.slice (Za.int .u32))) (Za.slice (Za.int .u32))) (Za.pair (Za.pair Za.bool (Za.slice (Za.int .u32))) (Za.slice (Za.int .u32)))) 49 10 ao a0 cu cv bx∧Zl 27 1 ao a0 ck #[.string ac.1,.slice b5 ac.2.1.length b1,.slice b6 ac.2.2.1.length b2,.slice b7 ac.2.2.2.1.length b3,.slice b8 ac.2.2.2.2.length b4]∧Zl 49 2 ao a0 cl #[.bool aa.1.1.1,.slice bk aa.1.1.2.length bi,.slice bm aa.1.2.length bj,.bool aa.2.1.1,.slice br aa.2.1.2.length bp,.slice bs aa.2.2.length bq]∧Zc (Za.int .i64) 3 3 ao a0 ca cb ap.1∧Zc (Za.int .i64) 3 4 ao a0 bv bw aq∧Sl (Za.int .u32) ao a0 ba bb ar∧Sl (Za.int .u32) ao a0 bc bd au∧Sl (Za.int .u32) ao a0 be bf av∧Sl (Za.int .u32) ao a0 bg bh aw∧Zl 49 9 ao a0 co #[.bool cd,.slice ba ar.length bb,.slice bc au.length bd,.bool ce,.slice be av.length bf,.slice bg aw.length bh]∧[15].map f=[.bool c8]) ?_ ?_
     ·intro f a0 hJ;obtain ⟨ao,c8,hm,ab,ah,ad,ae,af,aj,ak,al,am,an,ag,hs⟩:=hJ;rw [Zhi.eq_1] at hm;refine .lL [15] hs<|Zu ?_;refine Wp.cutK [10,11,12,13,14,2,3,6,8,9,1000000] (fun f a1=>∃ a2 c9,Zew cf cg (Sp N aa cc aq (Tr N ac aa ap bn) cp bx bz) c9=some r∧St w0 (Zi col) a2 a1∧Zc (Za.pair (Za.pair (Za.pair Za.bool (Za.slice (Za.int .u32))) (Za.slice (Za.int .u32))) (Za.pair (Za.pair Za.bool (Za.slice (Za.int .u32))) (Za.slice (Za.int .u32)))) 49 10 a2 a1 cu cv bx∧Zl 27 1 a2 a1 ck #[.string ac.1,.slice b5 ac.2.1.length b1,.slice b6 ac.2.2.1.length b2,.slice b7 ac.2.2.2.1.length b3,.slice b8 ac.2.2.2.2.length b4]∧Zl 49 2 a2 a1 cl #[.bool aa.1.1.1,.slice bk aa.1.1.2.length bi,.slice bm aa.1.2.length bj,.bool aa.2.1.1,.slice br aa.2.1.2.length bp,.slice bs aa.2.2.length bq]∧Zc (Za.int .i64) 3 3 a2 a1 ca cb ap.1∧Zc (Za.int .i64) 3 4 a2 a1 bv bw aq∧Sl (Za.int .u32) a2 a1 ba bb ar∧Sl (Za.int .u32) a2 a1 bc bd au∧Sl (Za.int .u32) a2 a1 be bf av∧Sl (Za.int .u32) a2 a1 bg bh aw∧Zl 49 9 a2 a1 co #[.bool cd,.slice ba ar.length bb,.slice bc au.length bd,.bool ce,.slice be av.length bf,.slice bg aw.length bh]∧[79].map f=[.bool c9]) ?_ ?_
      ·intro f a1 hJ;obtain ⟨a2,c9,hm,ab,ah,ad,ae,af,aj,ak,al,am,an,ag,hs⟩:=hJ;rw [Zew.eq_1] at hm;refine .lL [79] hs ?_;refine Zp hm (fun hb hm=>go ?_) fun hb hm=>?_
       ·exact ⟨rfl,_,_,hm,ab,ah,ad,ae,af,aj,ak,al,am,an,ag,rfl⟩
       refine X5 ?_;exact ⟨rfl,_,_,hm,ab,ah,ad,ae,af,aj,ak,al,am,an,ag,rfl⟩
      refine Wo (col:=ao) (by kernel_rfl) (by kernel_rfl)<|go ?_;refine Xq hm (fun da hm=>go ?_) fun da hm=>go ?_
      ·refine qF ⟨_,_,rfl⟩ ?_;refine go ?_;refine qv (v:=(.agg #[.bool aa.2.1.1,.slice br aa.2.1.2.length bp,.slice bs aa.2.2.length bq])) rfl (fun _ hC=>Xp isAgg47 sizeOf47 rfl rfl (((ae.atN).part 3 3 _ rfl).gr (hC.bl ao))) ?_;refine go ?_;obtain ⟨db,cw,hm⟩:=bZ hm;refine qI cw (ah.addr cw) ?_;refine go ?_;refine qF (Wn (ah.addr cw)) ?_;refine go ?_;obtain ⟨_,d0,d1⟩:=ah.atN cw;obtain ⟨_,_,rfl,d2,d3⟩:=d0.parts;obtain ⟨_,_,rfl,d4,d5⟩:=d2.parts;obtain ⟨_,_,rfl,d6,d7⟩:=d4.parts;obtain rfl:=d6.bool;obtain ⟨g1,g2,rfl,g3⟩:=d7.slice;obtain ⟨g4,g5,rfl,g6⟩:=d5.slice;obtain ⟨_,_,rfl,d8,d9⟩:=d3.parts;obtain ⟨_,_,rfl,ea,eb⟩:=d8.parts;obtain rfl:=ea.bool;obtain ⟨ec,ed,rfl,ee⟩:=eb.slice;obtain ⟨ef,eg,rfl,eh⟩:=d9.slice;refine qv (v:=(.agg #[.bool db.2.1.1,.slice ec db.2.1.2.length ed,.slice ef db.2.2.length eg])) rfl (fun _ hC=>Xp isAgg47 sizeOf47 rfl rfl (((d1).part 3 3 _ rfl).gr (hC.bl ao))) ?_;refine go ?_;obtain ⟨dm,ei,hm⟩:=bZ hm;refine qc (v:=(.int .i64 dm)) rfl (fun _ hC=>⟨_,_,Tv call94 rfl rfl,(Zid ei ((c3.ks ab).gr (hC.bl ao)) ((c4.ks ab).gr (hC.bl ao)) (ee.gr (hC.bl ao)) (eh.gr (hC.bl ao)):).mono fun _ _ h=>⟨h.1,hC.trans (.of_below h.2)⟩⟩) ?_;refine go ?_;refine qv (v:=(.bool (decide (dm≤0)))) rfl (fun _ hC=>Z1 (congrArg Value.bool da) rfl) ?_;refine Yl ?_;intro g7 hC;replace hC:=hC.bl ao;replace ah:=ah.gr hC;replace af:=af.gr hC;replace aj:=aj.gr hC;replace ak:=ak.gr hC;replace al:=al.gr hC;replace am:=am.gr hC;replace an:=an.gr hC;replace ad:=ad.gr hC;replace ae:=ae.gr hC;replace ag:=ag.gr hC;replace ab:=ab.grow hC;exact ⟨rfl,_,_,hm,ab,ah,ad,ae,af,aj,ak,al,am,an,ag,rfl⟩
      refine qv (v:=(.bool false)) rfl (fun _ hC=>Xn (congrArg Value.bool da) rfl) ?_;refine Yl ?_;intro g8 hC;replace hC:=hC.bl ao;replace ah:=ah.gr hC;replace af:=af.gr hC;replace aj:=aj.gr hC;replace ak:=ak.gr hC;replace al:=al.gr hC;replace am:=am.gr hC;replace an:=an.gr hC;replace ad:=ad.gr hC;replace ae:=ae.gr hC;replace ag:=ag.gr hC;replace ab:=ab.grow hC;exact ⟨rfl,_,_,hm,ab,ah,ad,ae,af,aj,ak,al,am,an,ag,rfl⟩
     refine Wo (col:=ai) (by kernel_rfl) (by kernel_rfl)<|go ?_;obtain ⟨ch,b9,hm⟩:=bZ hm;refine qI b9 (ah.addr b9)<|qF (Wn (ah.addr b9)) ?_;obtain ⟨_,ej,ek⟩:=ah.atN b9;obtain ⟨_,_,rfl,el,em⟩:=ej.parts;obtain ⟨_,_,rfl,en,eo⟩:=el.parts;obtain ⟨_,_,rfl,ep,eq⟩:=en.parts;obtain rfl:=ep.bool;obtain ⟨er,es,rfl,et⟩:=eq.slice;obtain ⟨eu,ew,rfl,ey⟩:=eo.slice;obtain ⟨_,_,rfl,ez,e0⟩:=em.parts;obtain ⟨_,_,rfl,e1,e2⟩:=ez.parts;obtain rfl:=e1.bool;obtain ⟨g9,ha,rfl,hc⟩:=e2.slice;obtain ⟨hd,he,rfl,hf⟩:=e0.slice;refine qv (v:=(.agg #[.bool ch.1.1.1,.slice er ch.1.1.2.length es,.slice eu ch.1.2.length ew])) rfl (fun _ hC=>Xp isAgg47 sizeOf47 rfl rfl (((ek).part 0 3 _ rfl).gr (hC.bl ai))) ?_;refine qF ⟨_,_,rfl⟩ ?_;refine qv (v:=(.agg #[.bool aa.1.1.1,.slice bk aa.1.1.2.length bi,.slice bm aa.1.2.length bj])) rfl (fun _ hC=>Xp isAgg47 sizeOf47 rfl rfl (((ae.atN).part 0 3 _ rfl).gr (hC.bl ai))) ?_;obtain ⟨e3,e4,hm⟩:=bZ hm;refine qc (v:=(.int .i64 e3)) rfl (fun _ hC=>⟨_,_,Tv call94 rfl rfl,(Zid e4 (et.gr (hC.bl ai)) (ey.gr (hC.bl ai)) ((cr.ks ab).gr (hC.bl ai)) ((cs.ks ab).gr (hC.bl ai)):).mono fun _ _ h=>⟨h.1,hC.trans (.of_below h.2)⟩⟩) ?_;refine go ?_;refine Xq hm (fun dc hm=>go ?_) fun dc hm=>go ?_
     ·refine qF ⟨_,_,rfl⟩ ?_;refine go ?_;refine qv (v:=(.agg #[.bool aa.1.1.1,.slice bk aa.1.1.2.length bi,.slice bm aa.1.2.length bj])) rfl (fun _ hC=>Xp isAgg47 sizeOf47 rfl rfl (((ae.atN).part 0 3 _ rfl).gr (hC.bl ai))) ?_;refine go ?_;refine qI b9 (ah.addr b9) ?_;refine go ?_;refine qF (Wn (ah.addr b9)) ?_;refine go ?_;obtain ⟨_,e5,e6⟩:=ah.atN b9;obtain ⟨_,_,rfl,e7,e8⟩:=e5.parts;obtain ⟨_,_,rfl,e9,fa⟩:=e7.parts;obtain ⟨_,_,rfl,fb,fc⟩:=e9.parts;obtain rfl:=fb.bool;obtain ⟨hg,hh,rfl,hi⟩:=fc.slice;obtain ⟨hj,hk,rfl,hl⟩:=fa.slice;obtain ⟨_,_,rfl,fd,fe⟩:=e8.parts;obtain ⟨_,_,rfl,ff,fg⟩:=fd.parts;obtain rfl:=ff.bool;obtain ⟨fh,fi,rfl,fj⟩:=fg.slice;obtain ⟨fk,fl,rfl,fm⟩:=fe.slice;refine qv (v:=(.agg #[.bool ch.2.1.1,.slice fh ch.2.1.2.length fi,.slice fk ch.2.2.length fl])) rfl (fun _ hC=>Xp isAgg47 sizeOf47 rfl rfl (((e6).part 3 3 _ rfl).gr (hC.bl ai))) ?_;refine go ?_;obtain ⟨dn,fn,hm⟩:=bZ hm;refine qc (v:=(.int .i64 dn)) rfl (fun _ hC=>⟨_,_,Tv call94 rfl rfl,(Zid fn ((cr.ks ab).gr (hC.bl ai)) ((cs.ks ab).gr (hC.bl ai)) (fj.gr (hC.bl ai)) (fm.gr (hC.bl ai)):).mono fun _ _ h=>⟨h.1,hC.trans (.of_below h.2)⟩⟩) ?_;refine go ?_;refine qv (v:=(.bool (decide (dn<0)))) rfl (fun _ hC=>Z1 (congrArg Value.bool dc) rfl) ?_;refine go ?_;refine Yl ?_;intro ho hC;replace hC:=hC.bl ai;replace ah:=ah.gr hC;replace af:=af.gr hC;replace aj:=aj.gr hC;replace ak:=ak.gr hC;replace al:=al.gr hC;replace am:=am.gr hC;replace an:=an.gr hC;replace ad:=ad.gr hC;replace ae:=ae.gr hC;replace ag:=ag.gr hC;replace ab:=ab.grow hC;exact ⟨rfl,_,_,hm,ab,ah,ad,ae,af,aj,ak,al,am,an,ag,rfl⟩
     refine qv (v:=(.bool false)) rfl (fun _ hC=>Xn (congrArg Value.bool dc) rfl) ?_;refine go ?_;refine Yl ?_;intro hp hC;replace hC:=hC.bl ai;replace ah:=ah.gr hC;replace af:=af.gr hC;replace aj:=aj.gr hC;replace ak:=ak.gr hC;replace al:=al.gr hC;replace am:=am.gr hC;replace an:=an.gr hC;replace ad:=ad.gr hC;replace ae:=ae.gr hC;replace ag:=ag.gr hC;replace ab:=ab.grow hC;exact ⟨rfl,_,_,hm,ab,ah,ad,ae,af,aj,ak,al,am,an,ag,rfl⟩
    refine Zp hm (fun hb hm=>go ?_) fun hb hm=>go ?_
    ·cases hm;exact ⟨rfl,_,none,0,rfl,ab.fin (cm []),Zc.nil⟩
    obtain ⟨hq,dd,hm⟩:=bZ hm;refine lI dd (aj.addr dd) ?_;obtain ⟨de,cx,hm⟩:=bZ hm;have cx:de=aq.set (Int.toNat cp) cf:=(Option.some.inj cx).symm;refine Yw (x1:=cf) aj dd ?_;intro hr ci fp cy;rw [← cx] at cy;refine .ld (d:=8) (v:=(.slice bv de.length bw)) (congrArg (fun n=>Value.slice bv n bw) (show aq.length=de.length by rw [cx,List.length_set])) ?_;refine go ?_;obtain ⟨cj,df,hm⟩:=bZ hm;replace ah:=ah.kp ci;refine lI df (ah.addr df) ?_;obtain ⟨_,fq,fr⟩:=ah.atN df;obtain ⟨_,_,rfl,ft,fu⟩:=fq.parts;obtain ⟨_,_,rfl,fv,fw⟩:=ft.parts;obtain ⟨_,_,rfl,fx,fy⟩:=fv.parts;obtain rfl:=fx.bool;obtain ⟨fz,f0,rfl,dg⟩:=fy.slice;obtain ⟨f1,f2,rfl,dh⟩:=fw.slice;obtain ⟨_,_,rfl,f3,f4⟩:=fu.parts;obtain ⟨_,_,rfl,f5,f6⟩:=f3.parts;obtain rfl:=f5.bool;obtain ⟨f7,f8,rfl,di⟩:=f6.slice;obtain ⟨f9,ga,rfl,dj⟩:=f4.slice;refine lV (.agg #[.bool cj.1.1.1,.slice fz cj.1.1.2.length f0,.slice f1 cj.1.2.length f2,.bool cj.2.1.1,.slice f7 cj.2.1.2.length f8,.slice f9 cj.2.2.length ga]) (Xp isAgg49 sizeOf49 rfl rfl fr) ?_;replace ag:=ag.kp ci;refine Z8 ag ?_;intro ht b0 gb gc;refine go ?_;replace af:=(af.kp ci).kp b0;replace ad:=(ad.kp ci).kp b0;replace ae:=(ae.kp ci).kp b0;replace ab:=(ab.kp ci fp).kp b0 gb;replace cy:=cy.kp b0;replace dg:=dg.kp b0;replace dh:=dh.kp b0;replace di:=di.kp b0;replace dj:=dj.kp b0;exact ⟨bn,by omega,rfl,⟨_,_,_,_,_,_,_,_,_,_,_,_,_,_,_,_,_,_,_,_,rfl,hm,ab,ad,ae,af,cy,dg,dh,di,dj,gc,rfl⟩⟩
  cases hm;exact ⟨rfl,_,_,_,rfl,ab.fin (cm [(4,c1)]),ab.fo aj⟩
theorem Zct {a b:Rat}:Vq a b≤0↔a≤b:=by
 rw [Vq,← Rat.not_lt]
 by_cases h:a<b
 ·rw [if_pos h];exact ⟨fun _ g=>absurd (Rat.le_of_lt h) (Rat.not_le.2 g),fun _=>by decide⟩
 ·rw [if_neg h]
  by_cases g:b<a
  ·rw [if_pos g];exact ⟨fun e=>absurd e (by decide),fun e=>absurd g e⟩
  ·rw [if_neg g];exact ⟨fun _=>g,fun _=>by decide⟩
theorem Zl3 {a b:Rat}:Vq a b<0↔a<b:=by
 rw [Vq]
 by_cases h:a<b
 ·rw [if_pos h];exact ⟨fun _=>h,fun _=>by decide⟩
 ·rw [if_neg h]
  by_cases g:b<a
  ·rw [if_pos g];exact ⟨fun e=>absurd e (by decide),fun e=>absurd e h⟩
  ·rw [if_neg g];exact ⟨fun e=>absurd e (by decide),fun e=>absurd e h⟩
def Tl (c:Rat×Rat→Bool):List (Rat×Rat)→Nat→Int
 | [],_=> -1
 | p :: l,k=>if c p=true then (k:Int) else Tl c l (k+1)
def Vg (c:Rat×Rat→Bool):List (Rat×Rat)→Nat→Int→Int
 | [],_,f=>f
 | p :: l,k,f=>Vg c l (k+1) (if c p=true then (k:Int) else f)
theorem Zq3 (c:Rat×Rat→Bool):∀ (l:List (Rat×Rat)) (k:Nat),Tl c l k<((k+l.length:Nat):Int)
 | [],k=>by rw [Tl];omega
 | p :: l,k=>by
  have:=Zq3 c l (k+1)
  rw [Tl,List.length_cons]
  split
  ·omega
  ·omega
theorem Z0a (c:Rat×Rat→Bool):Zmx fun P=>Tl c P 0:=fun P=>by have:=Zq3 c P 0;rwa [Nat.zero_add] at this
theorem Zr6 (c:Rat×Rat→Bool):∀ (l:List (Rat×Rat)) (k:Nat) (f:Int),f<((k+l.length:Nat):Int)→Vg c l k f<((k+l.length:Nat):Int)
 | [],k,f,h=>h
 | p :: l,k,f,h=>by
  rw [List.length_cons] at h ⊢
  have:=Zr6 c l (k+1) (if c p=true then (k:Int) else f) (by split <;> omega)
  rw [Vg];omega
theorem Z06 (c:Rat×Rat→Bool):Zmx fun P=>Vg c P 0 (-1):=fun P=>by have:=Zr6 c P 0 (-1) (by omega);rwa [Nat.zero_add] at this
theorem Znz {c:Rat×Rat→Bool}:∀ (l:List (Rat×Rat)) (k:Nat) (f:Int),(∀ p ∈ l,c p=false)→Vg c l k f=f
 | [],k,f,_=>rfl
 | p :: l,k,f,h=>by rw [Vg,h p List.mem_cons_self,if_neg (by decide)];exact Znz l _ _ fun q hq=>h q (List.mem_cons_of_mem _ hq)
theorem Zq5 {c:Rat×Rat→Bool}:∀ (l:List (Rat×Rat)) (k:Nat),(∀ p ∈ l,c p=false)→Tl c l k= -1
 | [],k,_=>rfl
 | p :: l,k,h=>by rw [Tl,h p List.mem_cons_self,if_neg (by decide)];exact Zq5 l _ fun q hq=>h q (List.mem_cons_of_mem _ hq)
theorem Z0o {long a:Rat} {x:QV} (hl:0≤long) (hx:0≤Zv x):a≤a+long * Zv x:=by
 have h1:=Rat.add_le_add_left (c:=a) |>.2 (Rat.mul_nonneg hl hx)
 rwa [Rat.add_zero] at h1
theorem Zog {long:Rat} (hl:0≤long):∀ (t:List QV) (a:Rat),(∀ x ∈ t,0≤Zv x)→∀ p ∈ Yh long t a,a≤p.1∧p.1≤p.2
 | [],a,_,p,hp=>by rw [Yh] at hp;cases hp
 | x :: t,a,ht,p,hp=>by
  have h1:=Z0o (a:=a) hl (ht x List.mem_cons_self)
  rw [Yh] at hp
  rcases List.mem_cons.1 hp with rfl | hp
  ·exact ⟨Rat.le_refl,h1⟩
  ·obtain ⟨h2,h3⟩:=Zog hl t _ (fun y hy=>ht y (List.mem_cons_of_mem _ hy)) p hp
   exact ⟨Rat.le_trans h1 h2,h3⟩
def U9 (x:Rat×Rat) (p:Rat×Rat):Bool:=decide (p.1≤x.1)&&decide (x.1<p.2)&&decide (x.2≤p.2)
theorem Zai {x p:Rat×Rat}:U9 x p=true↔p.1≤x.1∧x.1<p.2∧x.2≤p.2:=by simp [U9,and_assoc]
structure Zmv (x:Rat×Rat) (c:Rat×Rat→Bool):Prop where
 same:∀ p,p.1≤x.1→c p=U9 x p
 far:∀ p,x.1<p.2→c p=false→∀ q,x.1<q.1→c q=false
theorem Zq4 {x:Rat×Rat} {c:Rat×Rat→Bool} (h:Zmv x c) {long:Rat} (hl:0≤long):∀ (t:List QV) (a:Rat) (k:Nat),(∀ y ∈ t,0≤Zv y)→a≤x.1→Tl c (Yh long t a) k=Vg (U9 x) (Yh long t a) k (-1)
 | [],a,k,_,_=>rfl
 | y :: t,a,k,ht,ha=>by
  have ht':∀ z ∈ t,0≤Zv z:=fun z hz=>ht z (List.mem_cons_of_mem _ hz)
  have hge:=Zog hl t (a+long * Zv y) ht'
  rw [Yh,Tl,Vg]
  have hs:=h.same (a,a+long * Zv y) ha
  by_cases hc:c (a,a+long * Zv y)=true
  ·rw [if_pos hc,if_pos (hs ▸ hc),Znz]
   intro p hp
   have h1:=(Zai.1 (hs ▸ hc)).2.1
   rw [Bool.eq_false_iff]
   intro g
   exact absurd (Zai.1 g).1 (Rat.not_le.2 (Std.lt_of_lt_of_le h1 (hge p hp).1))
  ·rw [if_neg hc,if_neg (hs ▸ hc)]
   by_cases hx:a+long * Zv y≤x.1
   ·exact Zq4 h hl t _ (k+1) ht' hx
   ·have hx:=Rat.not_le.1 hx
    rw [Zq5,Znz]
    ·intro p hp
     rw [Bool.eq_false_iff]
     intro g
     exact absurd (Zai.1 g).1 (Rat.not_le.2 (Std.lt_of_lt_of_le hx (hge p hp).1))
    ·intro p hp
     exact h.far _ hx (by simpa using hc) p (Std.lt_of_lt_of_le hx (hge p hp).1)
theorem Zr7 {c:Rat×Rat→Bool}:∀ (l:List (Rat×Rat)) (k:Nat) (f:Int),Vg c l k f=f∨∃ j,∃ h:j<l.length,Vg c l k f=((k+j:Nat):Int)∧c l[j]=true
 | [],k,f=>.inl rfl
 | p :: l,k,f=>by
  rw [Vg]
  rcases Zr7 (c:=c) l (k+1) (if c p=true then (k:Int) else f) with h | ⟨j,hj,h1,h2⟩
  ·rw [h]
   by_cases hc:c p=true
   ·rw [if_pos hc];exact .inr ⟨0,by simp,by omega,hc⟩
   ·rw [if_neg hc];exact .inl rfl
  ·exact .inr ⟨j+1,by simpa using hj,by rw [h1];omega,h2⟩
section
variable {N W K:Nat} {n:Xt} (hf:Vx N n) {ord:List Int} (ho:Zbd n.2.2.2.1 ord)
include hf ho
theorem Zqq {x:Rat×Rat} {c:Rat×Rat→Bool} (h:Zmv x c):∀ (l w:List Int) (s:Rat×Rat),(∀ y ∈ l,y ∈ ord)→s.1≤x.1→s.1≤s.2→
  Uu n (fun P=>Tl c P 0) l w s=Uu n (fun P=>Vg (U9 x) P 0 (-1)) l w s
 | [],w,s,_,_,_=>rfl
 | v :: l,w,s,he,h1,h2=>by
  have hvr:=ho.rg v (he v List.mem_cons_self)
  rw [hf.ev.p] at hvr
  have hent:∀ y ∈ Xz n w v.toNat,0≤Zv y:=fun y hy=>(hf.ent (v:=v.toNat) (by omega) y (Zjx hy)).1
  have hlong:0≤s.2 - s.1:=by rw [Rat.le_iff_sub_nonneg] at h2;exact h2
  have hfl:=Zq4 h hlong (Xz n w v.toNat) s.1 0 hent h1
  rw [Uu,Uu,hfl]
  split
  ·rfl
  ·rename_i hneg
   rcases Zr7 (c:=U9 x) (Yh (s.2 - s.1) (Xz n w v.toNat) s.1) 0 (-1) with e | ⟨j,hj,e1,e2⟩
   ·rw [e] at hneg;exact absurd (by decide) hneg
   ·have hm:(Yh (s.2 - s.1) (Xz n w v.toNat) s.1)[j] ∈ Yh (s.2 - s.1) (Xz n w v.toNat) s.1:=List.getElem_mem hj
    rw [e1,Nat.zero_add,Int.toNat_natCast,Yk hj]
    exact Zqq h l _ _ (fun y hy=>he y (List.mem_cons_of_mem _ hy)) (Zai.1 e2).1 (Zog hlong _ _ hent _ hm).2
end
/-! the document's loops -/
abbrev Zpg:=Option Rb
section
variable {N K:Nat} (hr:Xd N (8 * K+40)) {x:Rat×Rat} {X:QV×QV} (q1:RV K X.1) (q2:RV K X.2) (v1:Zv X.1=x.1) (v2:Zv X.2=x.2)
include hr q1 q2 v1 v2
theorem Zrt (i:Int) (w:List Int) (kk:Int→List Int→Bool→List Int→List Int→Bool→List Int→List Int→Zpg) (e:Int) (P:List (Rat×Rat)) (hP:∀ p ∈ P,qs p.1≤K∧qs p.2≤K) (hl:P.length≤65536) (F:Int→Zpg)
  (hF:∀ g:Int,(if decide (g<0)=true then some (([]:List Int),false) else (Zn w e).bind fun _=>(some (w.set (Int.toNat e) g)).bind fun xs=>(Zn (P.map Xo) g).bind fun y=>kk (i64.wrap (i+1)) xs y.1.1.1 y.1.1.2 y.1.2 y.2.1.1 y.2.1.2 y.2.2)=F g):
  ∀ (l:List (Rat×Rat)) (f k:Nat) (g:Int),P.drop k=l→k≤P.length→P.length<f+k→Sp N X i w kk e (P.map Xo) f g (k:Int)=F (Vg (U9 x) l k g)
 | l,0,k,g,_,h1,h2=>by omega
 | [],f+1,k,g,hd,h1,h2=>by
  have h3:=List.drop_eq_nil_iff.1 hd
  rw [Sp.eq_2,if_neg (by rw [decide_eq_false (by rw [List.length_map];omega)];decide),hF,Vg]
 | p :: l,f+1,k,g,hd,h1,h2=>by
  have hk:k<P.length:=by
   rcases Nat.lt_or_ge k P.length with h | h
   ·exact h
   ·rw [List.drop_eq_nil_of_le h] at hd;cases hd
  rw [List.drop_eq_getElem_cons hk] at hd
  obtain ⟨e1,e2⟩:=List.cons.inj hd
  have hp:=hP p (e1 ▸ List.getElem_mem hk)
  have ha:Zn (P.map Xo) (k:Int)=some (Xo p):=by rw [Zn4 hk,Yk hk,e1]
  have c1:Sk N (((Xo p).1.1.1,(Xo p).1.1.2),(Xo p).1.2) ((X.1.1.1,X.1.1.2),X.1.2)=some (Vq p.1 x.1):=by
   have:=Zj5 (Wh hp.1) q1 (hr.mono (by omega))
   rwa [Yy,v1] at this
  have c2:Sk N ((X.1.1.1,X.1.1.2),X.1.2) (((Xo p).2.1.1,(Xo p).2.1.2),(Xo p).2.2)=some (Vq x.1 p.2):=by
   have:=Zj5 q1 (Wh hp.2) (hr.mono (by omega))
   rwa [Yy,v1] at this
  have c3:Sk N ((X.2.1.1,X.2.1.2),X.2.2) (((Xo p).2.1.1,(Xo p).2.1.2),(Xo p).2.2)=some (Vq x.2 p.2):=by
   have:=Zj5 q2 (Wh hp.2) (hr.mono (by omega))
   rwa [Yy,v2] at this
  have ih:=fun g=>Zrt i w kk e P hP hl F hF l f (k+1) g e2 (by omega) (by omega)
  rw [Sp.eq_2,if_pos (decide_eq_true (by rw [List.length_map];omega)),ha,Option.bind_some,c1,Option.bind_some,Vg]
  by_cases a1:p.1≤x.1
  ·rw [if_pos (decide_eq_true (Zct.2 a1)),c2,Option.bind_some,Zhi]
   by_cases a2:x.1<p.2
   ·rw [if_pos (decide_eq_true (Zl3.2 a2)),ha,Option.bind_some,c3,Option.bind_some,Zew]
    by_cases a3:x.2≤p.2
    ·rw [if_pos (decide_eq_true (Zct.2 a3)),Zcl,wS (by omega),ih,if_pos (Zai.2 ⟨a1,a2,a3⟩)]
    ·rw [if_neg (by rw [decide_eq_false (fun e=>a3 (Zct.1 e))];decide),Zcl,wS (by omega),ih,if_neg (fun e=>a3 (Zai.1 e).2.2)]
   ·rw [if_neg (by rw [decide_eq_false (fun e=>a2 (Zl3.1 e))];decide),Zew,if_neg (by decide),Zcl,wS (by omega),ih,if_neg (fun e=>a2 (Zai.1 e).2.1)]
  ·rw [if_neg (by rw [decide_eq_false (fun e=>a1 (Zct.1 e))];decide),Zhi,if_neg (by decide),Zew,if_neg (by decide),Zcl,wS (by omega),ih,if_neg (fun e=>a1 (Zai.1 e).1)]
end
section
variable {N W K:Nat} {n:Xt} (hf:Vx N n) (hs:Ue n W) (hr:Xd N (8 * K+40)) (hWK:W≤K) (hN:1048577<N) {ord:List Int} (ho:Zbd n.2.2.2.1 ord) (hol:ord.length≤1024)
variable {x:Rat×Rat} {X:QV×QV} (q1:RV K X.1) (q2:RV K X.2) (v1:Zv X.1=x.1) (v2:Zv X.2=x.2)
include hf hs hr hWK hN ho hol q1 q2 v1 v2
theorem Zrs (er:Int):∀ (l:List Int) (f i:Nat) (w:List Int) (s:Rat×Rat) (D M:Nat),ord.drop i=l→i≤ord.length→ord.length<f+i→Vy n w→Tj D M s→(Ze M).length+(Ze D).length+l.length * (W+2)+2≤K→
  Tr N n X (ord,er) f (i:Int) w (Zq s.1).1.1 (Zq s.1).1.2 (Zq s.1).2 (Zq s.2).1.1 (Zq s.2).1.2 (Zq s.2).2=Zii (Uu n (fun P=>Vg (U9 x) P 0 (-1)) l w s)
 | l,0,i,w,s,D,M,_,h1,h2,_,_,_=>by omega
 | [],f+1,i,w,s,D,M,hd,h1,h2,hw,hL,hK=>by
  have:=List.drop_eq_nil_iff.1 hd
  rw [Tr.eq_2,if_neg (by rw [decide_eq_false (by rw [show ((ord,er):List Int×Int).1=ord from rfl];omega)];decide)]
  rfl
 | v :: l,f+1,i,w,s,D,M,hd,h1,h2,hw,hL,hK=>by
  have hi:i<ord.length:=by
   rcases Nat.lt_or_ge i ord.length with h | h
   ·exact h
   ·rw [List.drop_eq_nil_of_le h] at hd;cases hd
  rw [List.drop_eq_getElem_cons hi] at hd
  obtain ⟨e1,e2⟩:=List.cons.inj hd
  have hvr:=ho.rg v (e1 ▸ List.getElem_mem hi)
  rw [hf.ev.p] at hvr
  obtain ⟨k,rfl⟩:∃ k:Nat,v=(k:Int):=⟨v.toNat,by omega⟩
  have hv:k<n.2.1.length:=by omega
  obtain ⟨D',M',c1,c2,c3⟩:=Zn2 hf hs hw hv hL
  have hKs:(l.length+1) * (W+2)=l.length * (W+2)+(W+2):=by rw [Nat.add_mul,Nat.one_mul]
  rw [List.length_cons,hKs] at hK
  have hcl:cnt n k≤65536:=by have:=(hf.row hw hv).1;have:=hf.rows hv;omega
  have hP:Zhk N (n.1,n.2.1,n.2.2.1,n.2.2.2.1,n.2.2.2.2) (k:Int) w ((((Zq s.1).1.1,(Zq s.1).1.2),(Zq s.1).2),(((Zq s.2).1.1,(Zq s.2).1.2),(Zq s.2).2))=some ((Yh (s.2 - s.1) (Xz n w k) s.1).map Xo):=Z3i hf hs hr hWK hN hw hv hL (by omega)
  rw [Tr.eq_2,if_pos (decide_eq_true (by rw [show ((ord,er):List Int×Int).1=ord from rfl];omega)),show ((ord,er):List Int×Int).1=ord from rfl,Zz hi,e1,Option.bind_some,hP,Option.bind_some]
  have hlen:(Yh (s.2 - s.1) (Xz n w k) s.1).length=cnt n k:=by rw [Zof,hf.rowT_len hw hv]
  have h3:=Zrt hr q1 q2 v1 v2 (i:Int) w (Tr N n X (ord,er) f) (k:Int) (Yh (s.2 - s.1) (Xz n w k) s.1) (fun p hp=>⟨by have:=(c2 p hp).qa;omega,by have:=(c2 p hp).qb;omega⟩) (by omega) _ (fun _=>rfl) (Yh (s.2 - s.1) (Xz n w k) s.1) N 0 (-1) rfl (Nat.zero_le _) (by omega)
  rw [show ((0:Nat):Int)=0 from rfl] at h3
  rw [h3,Uu,Int.toNat_natCast]
  have hfit:=Z06 (U9 x) (Yh (s.2 - s.1) (Xz n w k) s.1)
  by_cases hneg:Vg (U9 x) (Yh (s.2 - s.1) (Xz n w k) s.1) 0 (-1)<0
  ·rw [if_pos (decide_eq_true hneg),if_pos hneg];rfl
  ·obtain ⟨q,hq⟩:∃ q:Nat,Vg (U9 x) (Yh (s.2 - s.1) (Xz n w k) s.1) 0 (-1)=(q:Int):=⟨(Vg (U9 x) (Yh (s.2 - s.1) (Xz n w k) s.1) 0 (-1)).toNat,by omega⟩
   simp only [hq] at hfit ⊢
   have hql:q<(Yh (s.2 - s.1) (Xz n w k) s.1).length:=by omega
   rw [if_neg (by rw [decide_eq_false (by omega)];decide),if_neg (by omega),Zn4 hql,Vz 0 (by rw [hw.len];exact hv),Option.bind_some,Option.bind_some,Option.bind_some,Int.toNat_natCast,wS (by omega)]
   exact Zrs er l f (i+1) (w.set k q) _ D' M' e2 (by omega) (by omega) (hw.set (by omega)) (c2 _ (Zsw hql)) (by omega)
end
section
variable {N W K:Nat} {n:Xt} (hf:Vx N n) (hs:Ue n W) (hr:Xd N (8 * K+40)) (hWK:1025 * (W+2)+4≤K) (hN:1048577<N) {ord:List Int} (ho:Zbd n.2.2.2.1 ord) (hol:ord.length≤1024)
variable {x:Rat×Rat} {X:QV×QV} (q1:RV K X.1) (q2:RV K X.2) (v1:Zv X.1=x.1) (v2:Zv X.2=x.2)
include hf hs hr hWK hN ho hol q1 q2 v1 v2
theorem Z0u {er:Int} (hO:Zcc N n.2.2.2.1=some (ord,er)):Zhh N n X=Zii (Uu n (fun P=>Vg (U9 x) P 0 (-1)) ord (List.replicate n.2.1.length 0) (0,1)):=by
 have hnm:=hf.le
 have hmul:ord.length * (W+2)≤1024 * (W+2):=Nat.mul_le_mul_right _ hol
 have h1:(Ze 1).length=1:=by rw [Ta];rfl
 have h:=Zrs hf hs hr (by omega) hN ho hol q1 q2 v1 v2 er ord N 0 (List.replicate n.2.1.length 0) (0,1) 1 1 rfl (Nat.zero_le _) (by omega) (Vy.zero hf.ev) Tj.zero (by omega)
 rw [Zhh,hO,Option.bind_some,Z6 (by simp only [maxLen];omega),Z2z (hr.mono (by omega)),Option.bind_some]
 exact h
end
def Zfl (aa:Nat) (kk_L1:(Nat→Option Int)):Option Int:=
  kk_L1 (aa+1)
def Zbp (aa:Nat) (kk_L1:(Nat→Option Int)) (ab:Bool):Option Int:=
  if ab=true then (some (aa:Int)) else (Zfl aa kk_L1)
def S9 (N:Nat) (ab:(R0×R0)):List (R0×R0)→Nat→Option Int
  | [],ac=>some (-1)
  | aa :: ad,ac=>(Se N ((aa.1.1.1,aa.1.1.2),aa.1.2) ((ab.1.1.1,ab.1.1.2),ab.1.2)).bind fun ae=>if (decide (ae≤0))=true then ((Se N ((ab.2.1.1,ab.2.1.2),ab.2.2) ((aa.2.1.1,aa.2.1.2),aa.2.2)).bind fun af=>if (decide (af≤0))=true then ((Se N ((aa.1.1.1,aa.1.1.2),aa.1.2) ((aa.2.1.1,aa.2.1.2),aa.2.2)).bind fun ag=>Zbp ac (S9 N ab ad) (decide (ag<0))) else (Zbp ac (S9 N ab ad) false)) else (Zbp ac (S9 N ab ad) false)
termination_by structural x=>x
def Zlc (N:Nat) (ac:Int) (aa:Rg) (ab:(R0×R0)):Option Int:=
  S9 N ab aa 0
theorem Zxh (N:Nat) (col:Zd) (w0:World) (qc2:Nat) (hqqc2:qc2≠0) (bq:Int) (a1:Option Addr) (br:Nat) (al:Rg) (g2:Nat) (aa:(R0×R0)) (am:Option Addr) (an:Nat) (ao:Option Addr) (ap:Nat) (aq:Option Addr) (ar:Nat) (au:Option Addr) (av:Nat) (h1:Sl (Za.pair (Za.pair (Za.pair Za.bool (Za.slice (Za.int .u32))) (Za.slice (Za.int .u32))) (Za.pair (Za.pair Za.bool (Za.slice (Za.int .u32))) (Za.slice (Za.int .u32)))) col w0 a1 br al) (a3:Sl (Za.int .u32) col w0 am an aa.1.1.2) (a4:Sl (Za.int .u32) col w0 ao ap aa.1.2) (a5:Sl (Za.int .u32) col w0 aq ar aa.2.1.2) (a6:Sl (Za.int .u32) col w0 au av aa.2.2) (hb2:Zl 49 qc2 col w0 g2 #[.bool aa.1.1.1,.slice am aa.1.1.2.length an,.slice ao aa.1.2.length ap,.bool aa.2.1.1,.slice aq aa.2.1.2.length ar,.slice au aa.2.2.length av]) (r:Int) (hm:Zlc N bq al aa=some r):
    Calls Tryz.prog 210 #[.int .i64 bq,.slice a1 al.length br,.pointer (some ⟨g2,0,none⟩)] w0 (fun e w'=>e= .returned ((.int .i64 r))∧Below w0.heap.size w0 w'):=by
 refine Xe 5 (m:=39) func210 rfl rfl rfl rfl rfl ?_;rw [Zlc.eq_1] at hm;have ab:=St.start col w0;replace hb2:=hb2.start0 hqqc2;refine go ?_;refine Zy [2,8,9,1000000] (fun n f a7=>∃ a0 af az,n=az.length∧al.drop af=az∧S9 N aa az af=some r∧St w0 (Zi col) a0 a7∧Zl 49 999 a0 a7 g2 #[.bool aa.1.1.1,.slice am aa.1.1.2.length an,.slice ao aa.1.2.length ap,.bool aa.2.1.1,.slice aq aa.2.1.2.length ar,.slice au aa.2.2.length av]∧[10].map f=[.int .i64 af]) al.length ⟨_,0,_,rfl,rfl,hm,ab,hb2,rfl⟩ ?_;clear hm;intro n f a7 hI;obtain ⟨a0,af,az,hn,hl,hm,ab,hb2,hs⟩:=hI;subst hn;refine .lL [10] hs ?_;replace h1:=h1.keep (Zj.start col w0);replace a3:=a3.keep (Zj.start col w0);replace a4:=a4.keep (Zj.start col w0);replace a5:=a5.keep (Zj.start col w0);replace a6:=a6.keep (Zj.start col w0)
 cases az with
 | nil=>
  have hk:¬ ((af:Int)<(al.length:Int)):=by have:=List.drop_eq_nil_iff.1 hl;omega
  have hkb:=decide_eq_false hk;rw [S9.eq_1] at hm;refine go ?_;refine Y4 (congrArg Value.bool hkb)<|go ?_;cases hm;exact ⟨rfl,rfl,ab.below⟩
 | cons ac a8=>
  obtain ⟨a9,bu,bv⟩:=Y8 hl;have hk:(af:Int)<(al.length:Int):=by omega
  have hkb:=decide_eq_true hk;rw [S9.eq_2] at hm;refine go ?_;refine Y5 (congrArg Value.bool hkb)<|X5<|Zu ?_;refine Wp.cutK [10,2,8,9,1000000] (fun f ba=>∃ bb,Zfl af (S9 N aa a8)=some r∧St w0 (Zi col) bb ba∧Zl 49 999 bb ba g2 #[.bool aa.1.1.1,.slice am aa.1.1.2.length an,.slice ao aa.1.2.length ap,.bool aa.2.1.1,.slice aq aa.2.1.2.length ar,.slice au aa.2.2.length av]) ?_ ?_
  ·intro f ba hJ;obtain ⟨bb,hm,ab,hb2⟩:=hJ;rw [Zfl.eq_1] at hm;refine go ?_;exact ⟨a8.length,by simp,rfl,⟨_,_,_,rfl,bu,hm,ab,hb2,(Wl (congrArg (Value.int .i64) (Wb (Nat.lt_of_lt_of_le bv (h1.ks ab).1.1))) rfl)⟩⟩
  refine go ?_;refine lI a9 ((h1.ks ab).addr a9) ?_;obtain ⟨_,bw,bx⟩:=(h1.ks ab).atN a9;obtain ⟨_,_,rfl,bz,b0⟩:=Yn bw;obtain ⟨_,_,rfl,b1,b2⟩:=Yn bz;obtain ⟨_,_,rfl,b3,b4⟩:=Yn b1;obtain ⟨rfl,_⟩:=b3;obtain ⟨⟨bc,bd,rfl,ag⟩,_⟩:=b4;obtain ⟨⟨be,bf,rfl,ah⟩,_⟩:=b2;obtain ⟨_,_,rfl,b5,b6⟩:=Yn b0;obtain ⟨_,_,rfl,b7,b8⟩:=Yn b5;obtain ⟨rfl,_⟩:=b7;obtain ⟨⟨bg,bh,rfl,ai⟩,_⟩:=b8;obtain ⟨⟨bi,bj,rfl,aj⟩,_⟩:=b6;refine lV (.agg #[.bool ac.1.1.1,.slice bc ac.1.1.2.length bd,.slice be ac.1.2.length bf,.bool ac.2.1.1,.slice bg ac.2.1.2.length bh,.slice bi ac.2.2.length bj]) (Xp isAgg49 sizeOf49 rfl rfl bx)<|Xs (col:=a0) #[.bool false,.slice none (([]:List Int).length) 0,.slice none (([]:List Int).length) 0,.bool false,.slice none (([]:List Int).length) 0,.slice none (([]:List Int).length) 0] 1 zeroValue49 ?_;intro ci cj aw ax b9;refine Yr rfl<|Z8 b9 ?_;intro ca ay cb ak;refine Zk<|Zu ?_;replace ag:=(ag.gr ax).kp ay;replace ah:=(ah.gr ax).kp ay;replace ai:=(ai.gr ax).kp ay;replace aj:=(aj.gr ax).kp ay;replace hb2:=(hb2.gr ax).kp ay;replace ab:=(ab.grow ax).kp ay cb;refine Wp.cutK [10,2,6,8,9,1000000] (fun f bk=>∃ bm bn,Zbp af (S9 N aa a8) bn=some r∧St w0 (Zi col) bm bk∧Zl 49 999 bm bk g2 #[.bool aa.1.1.1,.slice am aa.1.1.2.length an,.slice ao aa.1.2.length ap,.bool aa.2.1.1,.slice aq aa.2.1.2.length ar,.slice au aa.2.2.length av]∧[36].map f=[.bool bn]) ?_ ?_
  ·intro f bk hJ;obtain ⟨bm,bn,hm,ab,hb2,hs⟩:=hJ;rw [Zbp.eq_1] at hm;refine .lL [36] hs ?_;refine Zp hm (fun hb hm=>go ?_) fun hb hm=>?_
   ·cases hm;exact ⟨rfl,rfl,ab.below⟩
   refine X5 ?_;exact ⟨rfl,_,hm,ab,hb2⟩
  refine Wi<|Xf ⟨_,_,rfl⟩ ?_;refine lV (.agg #[.bool ac.1.1.1,.slice bc ac.1.1.2.length bd,.slice be ac.1.2.length bf]) (Xp isAgg47 sizeOf47 rfl rfl ((ak.atN).part 0 3 _ rfl))<|Xf ⟨_,_,rfl⟩ ?_;refine lV (.agg #[.bool aa.1.1.1,.slice am aa.1.1.2.length an,.slice ao aa.1.2.length ap]) (Xp isAgg47 sizeOf47 rfl rfl ((hb2.atN).part 0 3 _ rfl)) ?_;obtain ⟨ck,cc,hm⟩:=bZ hm;refine Zh (Zh7 cc ag ah (a3.ks ab) (a4.ks ab)) ?_;rintro _ bs ⟨rfl,ad⟩;refine ⟨_,rfl,?_⟩;replace ad:Zg aw ca aw bs:=.of_below ad;refine go ?_;replace ag:=ag.gr ad;replace ah:=ah.gr ad;replace ai:=ai.gr ad;replace aj:=aj.gr ad;replace hb2:=hb2.gr ad;replace ak:=ak.gr ad;replace ab:=ab.grow ad;refine Xq hm (fun bo hm=>go ?_) fun bo hm=>go ?_
  ·refine Xf ⟨_,_,rfl⟩ ?_;refine go ?_;refine lV (.agg #[.bool aa.2.1.1,.slice aq aa.2.1.2.length ar,.slice au aa.2.2.length av]) (Xp isAgg47 sizeOf47 rfl rfl ((hb2.atN).part 3 3 _ rfl))<|go ?_;refine Xf ⟨_,_,rfl⟩ ?_;refine go ?_;refine lV (.agg #[.bool ac.2.1.1,.slice bg ac.2.1.2.length bh,.slice bi ac.2.2.length bj]) (Xp isAgg47 sizeOf47 rfl rfl ((ak.atN).part 3 3 _ rfl))<|go ?_;obtain ⟨cd,ce,hm⟩:=bZ hm;refine Zh (Zh7 ce (a5.ks ab) (a6.ks ab) ai aj) ?_;rintro _ bt ⟨rfl,ae⟩;refine ⟨_,rfl,?_⟩;replace ae:Zg aw bs aw bt:=.of_below ae;refine go ?_;refine lV (.bool (decide (cd≤0))) (Z1 (congrArg Value.bool bo) rfl)<|X2 rfl ?_;replace ag:=ag.gr ae;replace ah:=ah.gr ae;replace ai:=ai.gr ae;replace aj:=aj.gr ae;replace hb2:=hb2.gr ae;replace ak:=ak.gr ae;replace ab:=ab.grow ae;refine Xq hm (fun bp hm=>go ?_) fun bp hm=>go ?_
   ·refine Xf ⟨_,_,rfl⟩ ?_;refine go ?_;refine lV (.agg #[.bool ac.1.1.1,.slice bc ac.1.1.2.length bd,.slice be ac.1.2.length bf]) (Xp isAgg47 sizeOf47 rfl rfl ((ak.atN).part 0 3 _ rfl))<|go ?_;refine Xf ⟨_,_,rfl⟩ ?_;refine go ?_;refine lV (.agg #[.bool ac.2.1.1,.slice bg ac.2.1.2.length bh,.slice bi ac.2.2.length bj]) (Xp isAgg47 sizeOf47 rfl rfl ((ak.atN).part 3 3 _ rfl))<|go ?_;obtain ⟨cf,cg,hm⟩:=bZ hm;refine Zh (Zh7 cg ag ah ai aj) ?_;rintro _ ch ⟨rfl,a2⟩;refine ⟨_,rfl,?_⟩;replace a2:Zg aw bt aw ch:=.of_below a2;refine go ?_;refine lV (.bool (decide (cf<0))) (Z1 (congrArg Value.bool bp) rfl)<|Zk ?_;replace hb2:=hb2.gr a2;replace ab:=ab.grow a2;exact ⟨rfl,_,_,hm,ab,hb2,rfl⟩
   refine lV (.bool false) (Xn (congrArg Value.bool bp) rfl)<|Zk ?_;exact ⟨rfl,_,_,hm,ab,hb2,rfl⟩
  refine lV (.bool false) (Xn (congrArg Value.bool bo) rfl)<|X2 rfl<|lP 29 rfl rfl<|lP 29 rfl rfl<|lP 29 rfl rfl<|lP 29 rfl rfl<|lP 29 rfl rfl<|lP 29 rfl rfl<|lV (.bool false) (Xn rfl rfl)<|Zk ?_;exact ⟨rfl,_,_,hm,ab,hb2,rfl⟩
def Zdk (N:Nat) (ai:R1) (aj:Bool) (ak:List Int) (al:List Int) (am:Bool) (an:List Int) (ao:List Int) (aw:Bool) (ax:List Int) (ay:List Int) (az:Bool) (a0:List Int) (a1:List Int) (ap:List Int) (kk_L1:(Bool→R2→R2→Bool→R2→R2→Bool→R2→R2→Bool→R2→R2→Bool→R2→R2→Bool→R2→R2→R2→Option Rf)) (ab:Int) (a2:Int) (ae:R0) (a3:List ByteArray):Nat→Bool→R2→R2→Rg→Int→Option Rf
  | 0,_,_,_,_,_=>none
  | a4+1,af,ag,ah,ad,aq=>if (decide (aq<(a3.length:Int)))=true then ((Zn ai.2.2.2.2 ab).bind fun a5=>(Zn ai.2.2.1 ab).bind fun a6=>(Zn a5 (i64.wrap ((i64.wrap (a2 * (a6.length:Int)))+aq))).bind fun ar=>(Qz N ((ae.1.1,ae.1.2),ae.2) ((ar.1.1,ar.1.2),ar.2)).bind fun au=>(Qy N ((af,ag),ah) ((au.1.1,au.1.2),au.2)).bind fun aa=>Zw ((ad.length+[(((af,ag),ah),((aa.1.1,aa.1.2),aa.2))].length) * 112≤140737488355328∧ad.length+[(((af,ag),ah),((aa.1.1,aa.1.2),aa.2))].length≤maxLen) ((Zdk N ai aj ak al am an ao aw ax ay az a0 a1 ap kk_L1 ab a2 ae a3 a4) aa.1.1 aa.1.2 aa.2 (ad++[(((af,ag),ah),((aa.1.1,aa.1.2),aa.2))]) (i64.wrap (aq+1)))) else ((Zlc N ab ad (((aj,ak),al),((am,an),ao))).bind fun av=>if (decide (av<0))=true then (some (([]:List Int),(((false,([]:List Int)),([]:List Int)),((false,([]:List Int)),([]:List Int))),false)) else ((Zn ad av).bind fun ac=>(Zn ap ab).bind fun a8=>(some (ap.set (Int.toNat ab) av)).bind fun a7=>kk_L1 ac.1.1.1 ac.1.1.2 ac.1.2 ac.2.1.1 ac.2.1.2 ac.2.2 aj ak al am an ao aw ax ay az a0 a1 a7))
termination_by structural x=>x
def Zbo (N:Nat) (aa:R1) (ab:Bool) (ac:List Int) (ad:List Int) (ah:Bool) (ai:List Int) (aj:List Int) (ak:Bool) (al:List Int) (am:List Int) (an:Bool) (ao:List Int) (ap:List Int) (aq:Bool) (ar:List Int) (au:List Int) (av:Bool) (aw:List Int) (ax:List Int) (ae:List Int) (kk_L1:(Bool→R2→R2→Bool→R2→R2→Bool→R2→R2→Bool→R2→R2→Bool→R2→R2→Bool→R2→R2→R2→Option Rf)) (af:Int):List Int→Int→Option Rf
  | [],ag=>(Zdm N ((ah,ai),aj) ((ab,ac),ad)).bind fun az=>(Zn aa.2.2.1 af).bind fun a0=>Zdk N aa ak al am an ao ap aq ar au av aw ax ae kk_L1 af ag az a0 N ab ac ad ([]:List (R0×R0)) 0
  | ay :: a1,ag=>(Zn aa.2.2.1 ay).bind fun a2=>(Zn ae ay).bind fun a3=>(Zbo N aa ab ac ad ah ai aj ak al am an ao ap aq ar au av aw ax ae kk_L1 af a1) (i64.wrap ((i64.wrap (ag * (a2.length:Int)))+a3))
termination_by structural x=>x
def S8 (N:Nat) (aa:R1):List Int→Bool→R2→R2→Bool→R2→R2→Bool→R2→R2→Bool→R2→R2→Bool→R2→R2→Bool→R2→R2→R2→Option Rf
  | [],ab,ac,ad,ae,af,ag,ai,aj,ak,al,am,an,ao,ap,aq,ar,au,av,ah=>some (ah,(((ab,ac),ad),((ae,af),ag)),true)
  | aw :: ax,ab,ac,ad,ae,af,ag,ai,aj,ak,al,am,an,ao,ap,aq,ar,au,av,ah=>(Zn aa.2.2.2.1 aw).bind fun ay=>Zbo N aa ab ac ad ae af ag ai aj ak al am an ao ap aq ar au av ah (S8 N aa ax) aw ay 0
termination_by structural x=>x
def Zbn (N:Nat) (ab:R1) (ae:List Int) (aa:(R0×R0)):Option Rf:=
  Zw (ab.2.1.length * 8≤281474976710656∧ab.2.1.length≤maxLen) ((Zbt N ([]:List R0)).bind fun ac=>(Zfk).bind fun ad=>S8 N ab ae ac.1.1 ac.1.2 ac.2 ad.1.1 ad.1.2 ad.2 aa.1.1.1 aa.1.1.2 aa.1.2 aa.2.1.1 aa.2.1.2 aa.2.2 false ([]:List Int) ([]:List Int) false ([]:List Int) ([]:List Int) (List.replicate ab.2.1.length (0:Int)))
theorem Zxe {N ec dk ed dl f4 g3 f5 f6 f7 f8:Nat} {ee cz ef c0 a1 f9 ga gb gc:Option Addr} {col:Zd} {w0:World} {ag:R1} {dm:R2} {bx:(R0×R0)} {r:Rf} (c1 qc3:Nat) (hm:Zbn N ag dm bx=some r) (hqqc3:qc3≠0) (jq:Sl Za.str col w0 ee ec ag.2.1) (c2:Sl (Za.slice Za.str) col w0 cz dk ag.2.2.1) (eq:Sl (Za.slice (Za.int .i64)) col w0 ef ed ag.2.2.2.1) (er:Sl (Za.slice (Za.pair (Za.pair Za.bool (Za.slice (Za.int .u32))) (Za.slice (Za.int .u32)))) col w0 c0 dl ag.2.2.2.2) (h1:Sl (Za.int .i64) col w0 a1 f4 dm) (e2:Sl (Za.int .u32) col w0 f9 f5 bx.1.1.2) (e3:Sl (Za.int .u32) col w0 ga f6 bx.1.2) (e4:Sl (Za.int .u32) col w0 gb f7 bx.2.1.2) (e5:Sl (Za.int .u32) col w0 gc f8 bx.2.2) (hb3:Zl 49 qc3 col w0 g3 #[.bool bx.1.1.1,.slice f9 bx.1.1.2.length f5,.slice ga bx.1.2.length f6,.bool bx.2.1.1,.slice gb bx.2.1.2.length f7,.slice gc bx.2.2.length f8]):
    Calls Tryz.prog 90 #[(.agg #[.string ag.1,.slice ee ag.2.1.length ec,.slice cz ag.2.2.1.length dk,.slice ef ag.2.2.2.1.length ed,.slice c0 ag.2.2.2.2.length dl]),.slice a1 dm.length f4,(.func (.func 210) #[] #[.pointer (some ⟨g3,0,none⟩)])] w0 (fun e w'=>∃ (col':Zd) (ra1:Option Addr) (rc2:Nat) (ra4:Option Addr) (rc5:Nat) (ra7:Option Addr) (rc8:Nat) (ra10:Option Addr) (rc11:Nat) (ra13:Option Addr) (rc14:Nat),e= .returned (.tuple #[.slice ra1 r.1.length rc2,(.agg #[.bool r.2.1.1.1.1,.slice ra4 r.2.1.1.1.2.length rc5,.slice ra7 r.2.1.1.2.length rc8,.bool r.2.1.2.1.1,.slice ra10 r.2.1.2.1.2.length rc11,.slice ra13 r.2.1.2.2.length rc14]),.bool r.2.2])∧Zg col w0 col' w'∧Zc (Za.int .i64) 3 c1 col' w' ra1 rc2 r.1∧Sl (Za.int .u32) col' w' ra4 rc5 r.2.1.1.1.2∧Sl (Za.int .u32) col' w' ra7 rc8 r.2.1.1.2∧Sl (Za.int .u32) col' w' ra10 rc11 r.2.1.2.1.2∧Sl (Za.int .u32) col' w' ra13 rc14 r.2.1.2.2):=by
 refine Yf (m:=122) func90 rfl rfl rfl ?_;rw [Zbn.eq_1] at hm;have aa:=St.start col w0;replace hb3:=hb3.start0 hqqc3;refine go ?_;refine Xi (col:=(Zi col)) 1 rfl ?_;intro eg jr gh gd ab;refine Sa rfl<|Xs (col:=gh) #[.bool false,.slice none (([]:List Int).length) 0,.slice none (([]:List Int).length) 0,.bool false,.slice none (([]:List Int).length) 0,.slice none (([]:List Int).length) 0] 2 zeroValue49 ?_;intro e6 gi gj e7 ac;refine go ?_;refine Xf ⟨_,_,rfl⟩ ?_;replace ab:=ab.gr e7;refine lW ((ab.atN).nth (q:=1) rfl)<|go ?_;obtain ⟨ge,hm⟩:=Z4 hm;refine Sb (col:=gj) (w:=gi) (r:=(Za.int .i64)) (n:=ag.2.1.length) (x0:=0) 3 rfl underlying40 Tryz.t3 rfl rfl rfl rfl rfl rfl rfl ge.1 ge.2 (Ql .i64 0) ?_;intro js jt gk es bz;refine go ?_;obtain ⟨e8,gl,hm⟩:=bZ hm;refine Zh (Zm5 (col:=gk) 4 5 gl Sl.nil) ?_;rintro _ ju ⟨gm,gp,gs,gt,gu,rfl,eh,b0,b1⟩;refine ⟨_,rfl,?_⟩;obtain ⟨e9,gv,hm⟩:=bZ hm;refine lc rfl rfl (Za8 call97) (Zpp (col:=gm) 6 7 gv:) ?_;rintro _ jv ⟨gw,gx,gy,gz,g0,rfl,dn,b2,b3⟩;refine ⟨_,rfl,?_⟩;refine lV (.agg #[.bool e8.1.1,.slice gp e8.1.2.length gs,.slice gt e8.2.length gu,.bool e9.1.1,.slice gx e9.1.2.length gy,.slice gz e9.2.length g0]) (Yt (l:=[_,_]) (qs:=[(0,3),(3,3)]) underlying49 zeroValue49 ⟨rfl,sizeOf47,rfl,sizeOf47,trivial⟩ rfl)<|Xs (col:=gw) #[.bool false,.slice none (([]:List Int).length) 0,.slice none (([]:List Int).length) 0,.bool false,.slice none (([]:List Int).length) 0,.slice none (([]:List Int).length) 0] 8 zeroValue49 ?_;intro fa jw jx co g1;refine Z8 g1 ?_;intro jy cp g2 ad;refine go ?_;replace bz:=(((bz.gr eh).gr dn).gr co).kp cp;replace bz:=bz.froz 4 (by decide);replace b0:=((b0.gr dn).gr co).kp cp;replace b0:=(b0).toSlF (Zm.int .u32);replace b1:=((b1.gr dn).gr co).kp cp;replace b1:=b1.froz 4 (by decide);replace b2:=(b2.gr co).kp cp;replace b2:=b2.froz 4 (by decide);replace b3:=(b3.gr co).kp cp;replace b3:=b3.froz 4 (by decide);replace hb3:=((((((hb3.gr gd).gr e7).gr es).gr eh).gr dn).gr co).kp cp;replace hb3:=hb3.froz 4 (by decide);replace ab:=((((ab.gr es).gr eh).gr dn).gr co).kp cp;replace ab:=ab.froz 4 (by decide);replace ac:=((((ac.gr es).gr eh).gr dn).gr co).kp cp;replace ac:=ac.froz 4 (by decide);replace ad:=ad.froz 4 (by decide)
 replace aa:=((((((aa.grow gd).grow e7).grow es).grow eh).grow dn).grow co).kp cp g2;replace aa:=aa.froz 4 (by decide) (by decide);replace bz:=bz.froz 5 (by decide);replace b0:=b0.froz 5;replace b1:=(b1).toSlF (Zm.int .u32);replace b2:=b2.froz 5 (by decide);replace b3:=b3.froz 5 (by decide);replace hb3:=hb3.froz 5 (by decide);replace ab:=ab.froz 5 (by decide);replace ac:=ac.froz 5 (by decide);replace ad:=ad.froz 5 (by decide);replace aa:=aa.froz 5 (by decide) (by decide);replace bz:=bz.froz 6 (by decide);replace b0:=b0.froz 6;replace b1:=b1.froz 6;replace b2:=(b2).toSlF (Zm.int .u32);replace b3:=b3.froz 6 (by decide);replace hb3:=hb3.froz 6 (by decide);replace ab:=ab.froz 6 (by decide);replace ac:=ac.froz 6 (by decide);replace ad:=ad.froz 6 (by decide);replace aa:=aa.froz 6 (by decide) (by decide);replace bz:=bz.froz 7 (by decide);replace b0:=b0.froz 7;replace b1:=b1.froz 7;replace b2:=b2.froz 7;replace b3:=(b3).toSlF (Zm.int .u32);replace hb3:=hb3.froz 7 (by decide);replace ab:=ab.froz 7 (by decide);replace ac:=ac.froz 7 (by decide);replace ad:=ad.froz 7 (by decide);replace aa:=aa.froz 7 (by decide) (by decide);replace e2:=e2.keep (Zj.start col w0);replace e3:=e3.keep (Zj.start col w0);replace e4:=e4.keep (Zj.start col w0);replace e5:=e5.keep (Zj.start col w0)
 refine Zy [10,2,29,3,30,7,1000000] (fun n f bk=>∃ a8 c3 cq cr b4 ct cu b5 dp c4 c5 ca c6 c7 cb c8 c9 da b6 db dc b7 dd de df b8 dg dh b9 ei dq dr ds cc dt du cd dv dw dx ce dy dz cf d0 d1 cg ej,n=ej.length∧dm.drop ei=ej∧S8 N ag ej c3 b4 b5 dp ca cb c8 b6 b7 dd b8 b9 dq cc cd dv ce cf cg=some r∧St w0 (Zi col) a8 bk∧Sl (Za.int .u32) a8 bk cq cr b4∧Sl (Za.int .u32) a8 bk ct cu b5∧Sl (Za.int .u32) a8 bk c4 c5 ca∧Sl (Za.int .u32) a8 bk c6 c7 cb∧Zl 49 8 a8 bk fa #[.bool c3,.slice cq b4.length cr,.slice ct b5.length cu,.bool dp,.slice c4 ca.length c5,.slice c6 cb.length c7]∧Sl (Za.int .u32) a8 bk c9 da b6∧Sl (Za.int .u32) a8 bk db dc b7∧Sl (Za.int .u32) a8 bk de df b8∧Sl (Za.int .u32) a8 bk dg dh b9∧Zl 49 999 a8 bk g3 #[.bool c8,.slice c9 b6.length da,.slice db b7.length dc,.bool dd,.slice de b8.length df,.slice dg b9.length dh]∧Zl 27 1 a8 bk eg #[.string ag.1,.slice ee ag.2.1.length ec,.slice cz ag.2.2.1.length dk,.slice ef ag.2.2.2.1.length ed,.slice c0 ag.2.2.2.2.length dl]∧Zc (Za.int .u32) 79 9 a8 bk dr ds cc∧Zc (Za.int .u32) 79 10 a8 bk dt du cd∧Zc (Za.int .u32) 79 11 a8 bk dw dx ce∧Zc (Za.int .u32) 79 12 a8 bk dy dz cf∧Zl 49 2 a8 bk e6 #[.bool dq,.slice dr cc.length ds,.slice dt cd.length du,.bool dv,.slice dw ce.length dx,.slice dy cf.length dz]∧Zc (Za.int .i64) 3 3 a8 bk d0 d1 cg∧[31,9].map f=[.int .i64 ei,.slice d0 cg.length d1]) dm.length ⟨_,_,_,_,_,_,_,_,_,_,_,_,_,_,_,_,_,_,_,_,_,_,_,_,_,_,_,_,_,0,_,none,0,_,none,0,_,_,none,0,_,none,0,_,_,_,_,_,rfl,rfl,hm,aa,b0,b1,b2,b3,ad,(e2.ks aa),(e3.ks aa),(e4.ks aa),(e5.ks aa),hb3,ab,Zc.nil,Zc.nil,Zc.nil,Zc.nil,ac,bz,rfl⟩ ?_;clear hm;intro n f bk hI;obtain ⟨a8,c3,cq,cr,b4,ct,cu,b5,dp,c4,c5,ca,c6,c7,cb,c8,c9,da,b6,db,dc,b7,dd,de,df,b8,dg,dh,b9,ei,dq,dr,ds,cc,dt,du,cd,dv,dw,dx,ce,dy,dz,cf,d0,d1,cg,ej,hn,hl,hm,aa,ak,al,am,an,ad,ao,ap,aq,ar,hb3,ab,au,av,aw,ax,ac,ah,hs⟩:=hI;subst hn
 refine .lL [31,9] hs ?_;replace c2:=c2.keep (Zj.start col w0);replace eq:=eq.keep (Zj.start col w0);replace er:=er.keep (Zj.start col w0);replace h1:=h1.keep (Zj.start col w0)
 cases ej with
 | nil=>
  have hk:¬ ((ei:Int)<(dm.length:Int)):=by have:=List.drop_eq_nil_iff.1 hl;omega
  have hkb:=decide_eq_false hk;rw [S8.eq_1] at hm;refine go ?_;refine Y4 (congrArg Value.bool hkb)<|go ?_;refine Y6 (col:=a8) [(0,1),(1,0),(2,1),(3,2),(4,1)] (by kernel_rfl) (by kernel_rfl)<|xu rfl rfl (fun _=>U1 rfl) ?_;refine xv rfl rfl (fun _ hC=>Xh isAgg49 sizeOf49 (ad.gr (hC.bl a8))) ?_;refine xu rfl rfl (fun _=>Zub rfl) ?_;refine xe rfl rfl ?_;intro jz hC0;have hC:=hC0.bl a8;replace ac:=ac.gr hC;refine Z8 ac ?_;intro j0 d9 g4 fb;refine Zk<|xk a8<|xu rfl rfl (fun _=>Zht rfl) ?_;refine Yz ?_;replace ak:=(ak.gr hC).kp d9;replace al:=(al.gr hC).kp d9;replace am:=(am.gr hC).kp d9;replace an:=(an.gr hC).kp d9;replace ah:=(ah.gr hC).kp d9;replace aa:=(aa.grow hC).kp d9 g4;intro j1 hC;replace hC:=hC.bl a8;refine Wc ?_;cases hm;replace ak:=ak.gr hC;replace al:=al.gr hC;replace am:=am.gr hC;replace an:=an.gr hC;replace ah:=ah.gr hC;replace fb:=fb.gr hC;replace aa:=aa.grow hC;exact ⟨rfl,_,Zu4 rfl rfl rfl rfl isAgg49 sizeOf49 rfl rfl fb.atN rfl rfl,_,_,_,_,_,_,_,_,_,_,_,rfl,aa.fin (cm [(3,c1)]),aa.fo ah,aa.fs ak,aa.fs al,aa.fs am,aa.fs an⟩
 | cons di fc=>
  obtain ⟨d2,g5,g6⟩:=Y8 hl;have hk:(ei:Int)<(dm.length:Int):=by omega
  have hkb:=decide_eq_true hk;rw [S8.eq_2] at hm;refine go ?_;refine Y5 (congrArg Value.bool hkb)<|go ?_;refine lI d2 ((h1.ks aa).addr d2)<|lW ((h1.ks aa).atInt d2) ?_;refine go ?_;refine Xc ab<|X3 rfl ?_;obtain ⟨ek,fd,hm⟩:=bZ hm;refine lI fd ((eq.ks aa).addr fd) ?_;obtain ⟨_,g7,g8⟩:=(eq.ks aa).atN fd;obtain ⟨⟨g9,ha,rfl,dj⟩,_⟩:=g7;refine lW g8.one<|go ?_;refine Zy [10,12,2,29,3,30,31,39,40,7,9,1000000] (fun n f be=>∃ a5 ch el em,n=em.length∧ek.drop el=em∧Zbo N ag c3 b4 b5 dp ca cb c8 b6 b7 dd b8 b9 dq cc cd dv ce cf cg (S8 N ag fc) di em ch=some r∧St w0 (Zi col) a5 be∧Sl (Za.int .u32) a5 be cq cr b4∧Sl (Za.int .u32) a5 be ct cu b5∧Sl (Za.int .u32) a5 be c4 c5 ca∧Sl (Za.int .u32) a5 be c6 c7 cb∧Zl 49 8 a5 be fa #[.bool c3,.slice cq b4.length cr,.slice ct b5.length cu,.bool dp,.slice c4 ca.length c5,.slice c6 cb.length c7]∧Sl (Za.int .u32) a5 be c9 da b6∧Sl (Za.int .u32) a5 be db dc b7∧Sl (Za.int .u32) a5 be de df b8∧Sl (Za.int .u32) a5 be dg dh b9∧Zl 49 999 a5 be g3 #[.bool c8,.slice c9 b6.length da,.slice db b7.length dc,.bool dd,.slice de b8.length df,.slice dg b9.length dh]∧Zl 27 1 a5 be eg #[.string ag.1,.slice ee ag.2.1.length ec,.slice cz ag.2.2.1.length dk,.slice ef ag.2.2.2.1.length ed,.slice c0 ag.2.2.2.2.length dl]∧Sl (Za.int .i64) a5 be g9 ha ek∧Zc (Za.int .u32) 79 9 a5 be dr ds cc∧Zc (Za.int .u32) 79 10 a5 be dt du cd∧Zc (Za.int .u32) 79 11 a5 be dw dx ce∧Zc (Za.int .u32) 79 12 a5 be dy dz cf∧Zl 49 2 a5 be e6 #[.bool dq,.slice dr cc.length ds,.slice dt cd.length du,.bool dv,.slice dw ce.length dx,.slice dy cf.length dz]∧Zc (Za.int .i64) 3 3 a5 be d0 d1 cg∧[41,13].map f=[.int .i64 el,.int .i64 ch]) ek.length ⟨_,0,0,_,rfl,rfl,hm,aa,ak,al,am,an,ad,ao,ap,aq,ar,hb3,ab,dj,au,av,aw,ax,ac,ah,rfl⟩ ?_;clear hm;intro n f be hI;obtain ⟨a5,ch,el,em,hn,hl,hm,aa,ak,al,am,an,ad,ao,ap,aq,ar,hb3,ab,dj,au,av,aw,ax,ac,ah,hs⟩:=hI;subst hn;refine .lL [41,13] hs ?_
  cases em with
  | nil=>
   have hk:¬ ((el:Int)<(ek.length:Int)):=by have:=List.drop_eq_nil_iff.1 hl;omega
   have hkb:=decide_eq_false hk;rw [Zbo.eq_1] at hm;refine go ?_;refine Y4 (congrArg Value.bool hkb)<|go ?_;refine Xf ⟨_,_,rfl⟩ ?_;refine lV (.agg #[.bool dp,.slice c4 ca.length c5,.slice c6 cb.length c7]) (Xp isAgg47 sizeOf47 rfl rfl ((ad.atN).part 3 3 _ rfl))<|Xf ⟨_,_,rfl⟩ ?_;refine lV (.agg #[.bool c3,.slice cq b4.length cr,.slice ct b5.length cu]) (Xp isAgg47 sizeOf47 rfl rfl ((ad.atN).part 0 3 _ rfl)) ?_;obtain ⟨cv,hc,hm⟩:=bZ hm;refine Zh (Zxq 13 14 hc am an ak al) ?_;rintro _ j2 ⟨hd,fe,ff,fg,fh,rfl,bm,bf,bg⟩;refine ⟨_,rfl,?_⟩;refine Xs (col:=hd) #[.bool false,.slice none (([]:List Int).length) 0,.slice none (([]:List Int).length) 0] 15 zeroValue47 ?_;intro he j3 hf bh hg;refine Z8 hg ?_;intro j4 bi hh ba;refine go ?_;refine Xf ⟨_,_,rfl⟩ ?_;replace ad:=((ad.gr bm).gr bh).kp bi;refine lV (.agg #[.bool c3,.slice cq b4.length cr,.slice ct b5.length cu]) (Xp isAgg47 sizeOf47 rfl rfl ((ad.atN).part 0 3 _ rfl))<|Xs (col:=hf) #[.bool false,.slice none (([]:List Int).length) 0,.slice none (([]:List Int).length) 0] 16 zeroValue47 ?_;intro hi j5 j6 bb hj;refine Z8 hj ?_;intro j7 bc ho bd;refine go ?_;refine Xf ⟨_,_,rfl⟩ ?_;replace ab:=((((ab.gr bm).gr bh).kp bi).gr bb).kp bc;refine lW ((ab.atN).nth (q:=2) rfl)<|X3 rfl ?_;obtain ⟨hp,fi,hm⟩:=bZ hm;replace aa:=((((aa.grow bm).grow bh).kp bi hh).grow bb).kp bc ho;refine lI fi ((c2.ks aa).addr fi) ?_;obtain ⟨_,hq,hr⟩:=(c2.ks aa).atN fi;obtain ⟨⟨j8,j9,rfl,ka⟩,_⟩:=hq;refine lW hr.one<|go ?_;replace ak:=((((ak.gr bm).gr bh).kp bi).gr bb).kp bc;replace al:=((((al.gr bm).gr bh).kp bi).gr bb).kp bc;replace am:=((((am.gr bm).gr bh).kp bi).gr bb).kp bc;replace an:=((((an.gr bm).gr bh).kp bi).gr bb).kp bc;replace ao:=((((ao.gr bm).gr bh).kp bi).gr bb).kp bc;replace ap:=((((ap.gr bm).gr bh).kp bi).gr bb).kp bc;replace aq:=((((aq.gr bm).gr bh).kp bi).gr bb).kp bc;replace ar:=((((ar.gr bm).gr bh).kp bi).gr bb).kp bc;replace au:=((((au.gr bm).gr bh).kp bi).gr bb).kp bc;replace av:=((((av.gr bm).gr bh).kp bi).gr bb).kp bc;replace aw:=((((aw.gr bm).gr bh).kp bi).gr bb).kp bc
   replace ax:=((((ax.gr bm).gr bh).kp bi).gr bb).kp bc;replace ah:=((((ah.gr bm).gr bh).kp bi).gr bb).kp bc;replace hb3:=((((hb3.gr bm).gr bh).kp bi).gr bb).kp bc;replace ac:=((((ac.gr bm).gr bh).kp bi).gr bb).kp bc;replace bf:=(((bf.gr bh).kp bi).gr bb).kp bc;replace bg:=(((bg.gr bh).kp bi).gr bb).kp bc;replace ad:=(ad.gr bb).kp bc;replace ba:=(ba.gr bb).kp bc
   refine Zy [10,12,13,16,17,2,29,3,30,31,7,71,9,1000000] (fun n f af=>∃ ae ci d3 d4 cj d5 d6 ck et eu en d7 ea,ea=n∧Zdk N ag c8 b6 b7 dd b8 b9 dq cc cd dv ce cf cg (S8 N ag fc) di ch cv hp ea ci cj ck en d7=some r∧St w0 (Zi col) ae af∧Sl (Za.int .u32) ae af cq cr b4∧Sl (Za.int .u32) ae af ct cu b5∧Sl (Za.int .u32) ae af c4 c5 ca∧Sl (Za.int .u32) ae af c6 c7 cb∧Zl 49 8 ae af fa #[.bool c3,.slice cq b4.length cr,.slice ct b5.length cu,.bool dp,.slice c4 ca.length c5,.slice c6 cb.length c7]∧Zc (Za.int .u32) 79 13 ae af fe ff cv.1.2∧Zc (Za.int .u32) 79 14 ae af fg fh cv.2∧Zl 47 15 ae af he #[.bool cv.1.1,.slice fe cv.1.2.length ff,.slice fg cv.2.length fh]∧Sl (Za.int .u32) ae af d3 d4 cj∧Sl (Za.int .u32) ae af d5 d6 ck∧Zl 47 16 ae af hi #[.bool ci,.slice d3 cj.length d4,.slice d5 ck.length d6]∧Zc (Za.pair (Za.pair (Za.pair Za.bool (Za.slice (Za.int .u32))) (Za.slice (Za.int .u32))) (Za.pair (Za.pair Za.bool (Za.slice (Za.int .u32))) (Za.slice (Za.int .u32)))) 49 17 ae af et eu en∧Sl (Za.int .u32) ae af c9 da b6∧Sl (Za.int .u32) ae af db dc b7∧Sl (Za.int .u32) ae af de df b8∧Sl (Za.int .u32) ae af dg dh b9∧Zl 49 999 ae af g3 #[.bool c8,.slice c9 b6.length da,.slice db b7.length dc,.bool dd,.slice de b8.length df,.slice dg b9.length dh]∧Zl 27 1 ae af eg #[.string ag.1,.slice ee ag.2.1.length ec,.slice cz ag.2.2.1.length dk,.slice ef ag.2.2.2.1.length ed,.slice c0 ag.2.2.2.2.length dl]∧Zc (Za.int .u32) 79 9 ae af dr ds cc∧Zc (Za.int .u32) 79 10 ae af dt du cd∧Zc (Za.int .u32) 79 11 ae af dw dx ce∧Zc (Za.int .u32) 79 12 ae af dy dz cf∧Zl 49 2 ae af e6 #[.bool dq,.slice dr cc.length ds,.slice dt cd.length du,.bool dv,.slice dw ce.length dx,.slice dy cf.length dz]∧Zc (Za.int .i64) 3 3 ae af d0 d1 cg∧[18,72].map f=[.slice et en.length eu,.int .i64 d7]) N ⟨_,_,_,_,_,_,_,_,none,0,_,0,_,rfl,hm,aa,ak,al,am,an,ad,bf,bg,ba,ak,al,bd,Zc.nil,ao,ap,aq,ar,hb3,ab,au,av,aw,ax,ac,ah,rfl⟩ ?_
   clear hm;intro n f af hI;obtain ⟨ae,ci,d3,d4,cj,d5,d6,ck,et,eu,en,d7,ea,hn,hm,aa,ak,al,am,an,ad,bf,bg,ba,bs,bt,bd,bj,ao,ap,aq,ar,hb3,ab,au,av,aw,ax,ac,ah,hs⟩:=hI;subst hn;refine .lL [18,72] hs ?_
   cases ea with
   | zero=>rw [Zdk.eq_1] at hm;cases hm
   | succ ea=>
    rw [Zdk.eq_2] at hm;refine go ?_;refine Zp hm (fun hb hm=>go ?_) fun hb hm=>go ?_
    ·have a6:=Zx.clip (fun _=>false) ae af;refine Zc2 (col:=ae) [(0,0),(1,0),(2,1),(3,0),(4,1),(5,1),(6,0),(7,1),(8,1),(9,0),(10,1),(11,1),(12,0),(13,1),(14,1),(15,1),(16,1),(17,1),(18,0),(19,3),(20,3),(21,4),(22,2)] (by kernel_rfl) (by kernel_rfl) ⟨fun h=>absurd h (by decide),fun h=>absurd h (by decide),fun h=>absurd h (by decide),fun h=>absurd h (by decide),fun h=>absurd h (by decide),fun h=>absurd h (by decide),fun h=>absurd h (by decide),fun h=>absurd h (by decide),fun h=>absurd h (by decide),fun h=>absurd h (by decide),fun h=>absurd h (by decide),fun h=>absurd h (by decide),fun h=>absurd h (by decide),fun h=>absurd h (by decide),fun h=>absurd h (by decide),fun h=>absurd h (by decide),fun h=>absurd h (by decide),fun h=>absurd h (by decide),fun h=>absurd h (by decide),fun h=>absurd h (by decide),fun h=>absurd h (by decide),fun _=>⟨_,_,_,rfl,Ug zeroValue47⟩,fun h=>absurd h (by decide),trivial⟩ ?_;replace bd:=bd.kpp a6;refine Wd (v:=(.agg #[.bool ci,.slice d3 cj.length d4,.slice d5 ck.length d6])) rfl rfl (fun _ hC=>Xp isAgg47 sizeOf47 rfl rfl (bd.atN.gr (hC.bl (Zf af ae)))) ?_;replace ba:=ba.kpp a6;refine Wd (v:=(.agg #[.bool cv.1.1,.slice fe cv.1.2.length ff,.slice fg cv.2.length fh])) rfl rfl (fun _ hC=>Xp isAgg47 sizeOf47 rfl rfl (ba.atN.gr (hC.bl (Zf af ae)))) ?_;refine Ye (v:=(.pointer ((some (⟨eg,0,none⟩:Addr)).map (·.add 4)))) rfl rfl (fun _=>Te (sz:=1) (off:=4) underlying27 rfl sizeOf25 (by decide) rfl rfl ⟨_,_,rfl⟩) ?_;replace ab:=ab.kpp a6;refine Wd (v:=(.slice c0 ag.2.2.2.2.length dl)) rfl rfl (fun _ hC=>Sw isAgg25 rfl (((ab.atN).nth (q:=4) (v:=(.slice c0 ag.2.2.2.2.length dl)) rfl).gr (hC.bl (Zf af ae)))) ?_;refine Ye (v:=(.int .i64 di)) rfl rfl (fun _=>Wv rfl) ?_;obtain ⟨ht,ew,hm⟩:=bZ hm;replace aa:=aa.kpp a6;refine Ye (v:=(X4 c0 (Int.toNat di * 1))) rfl rfl (fun _=>Wr underlying25 sizeOf56 rfl rfl (X0 ew).1 (X0 ew).2.1 ((er.ks aa).addr ew)) ?_;obtain ⟨_,hu,hv⟩:=(er.ks aa).atN ew;obtain ⟨⟨gf,hw,rfl,gg⟩,_⟩:=hu;refine Wd (v:=(.slice gf ht.length hw)) rfl rfl (fun _ hC=>Sw isAgg56 rfl (hv.one.gr (hC.bl (Zf af ae)))) ?_;refine Ye (v:=(.int .i64 ch)) rfl rfl (fun _=>Wv rfl) ?_;refine Ye (v:=(.pointer ((some (⟨eg,0,none⟩:Addr)).map (·.add 2)))) rfl rfl (fun _=>Te (sz:=1) (off:=2) underlying27 rfl sizeOf23 (by decide) rfl rfl ⟨_,_,rfl⟩) ?_
     refine Wd (v:=(.slice cz ag.2.2.1.length dk)) rfl rfl (fun _ hC=>Sw isAgg23 rfl (((ab.atN).nth (q:=2) (v:=(.slice cz ag.2.2.1.length dk)) rfl).gr (hC.bl (Zf af ae)))) ?_;refine Ye (v:=(.int .i64 di)) rfl rfl (fun _=>Wv rfl) ?_;obtain ⟨d8,ey,hm⟩:=bZ hm;refine Ye (v:=(X4 cz (Int.toNat di * 1))) rfl rfl (fun _=>Wr underlying23 sizeOf22 rfl rfl (X0 ey).1 (X0 ey).2.1 ((c2.ks aa).addr ey)) ?_;obtain ⟨_,hx,hy⟩:=(c2.ks aa).atN ey;obtain ⟨⟨hz,h0,rfl,kb⟩,_⟩:=hx;refine Wd (v:=(.slice hz d8.length h0)) rfl rfl (fun _ hC=>Sw isAgg22 rfl (hy.one.gr (hC.bl (Zf af ae)))) ?_;refine Ye (v:=(.int .i64 d8.length)) rfl rfl (fun _=>Tw underlying22 rfl) ?_;refine Ye (v:=(.int .i64 (i64.wrap (ch * (d8.length:Int))))) rfl rfl (fun _=>Zhu ch (d8.length:Int) rfl rfl) ?_;refine Ye (v:=(.int .i64 d7)) rfl rfl (fun _=>Wv rfl) ?_;refine Ye (v:=(.int .i64 (i64.wrap ((i64.wrap (ch * (d8.length:Int)))+d7)))) rfl rfl (fun _=>Qj (i64.wrap (ch * (d8.length:Int))) d7 rfl rfl) ?_;obtain ⟨fj,ez,hm⟩:=bZ hm;refine Ye (v:=(X4 gf (Int.toNat (i64.wrap ((i64.wrap (ch * (d8.length:Int)))+d7)) * 3))) rfl rfl (fun _=>Wr underlying56 sizeOf47 rfl rfl (X0 ez).1 (X0 ez).2.1 (gg.addr ez)) ?_;obtain ⟨_,h2,h3⟩:=gg.atN ez;obtain ⟨_,_,rfl,h4,h5⟩:=Yn h2;obtain ⟨_,_,rfl,h6,h7⟩:=Yn h4;obtain ⟨rfl,_⟩:=h6;obtain ⟨⟨h8,h9,rfl,fk⟩,_⟩:=h7;obtain ⟨⟨ia,ib,rfl,fl⟩,_⟩:=h5;refine Wd (v:=(.agg #[.bool fj.1.1,.slice h8 fj.1.2.length h9,.slice ia fj.2.length ib])) rfl rfl (fun _ hC=>Xp isAgg47 sizeOf47 rfl rfl (h3.gr (hC.bl (Zf af ae)))) ?_;refine Y2 rfl rfl ?_;intro ic hC0;have hC:=hC0.bl (Zf af ae);obtain ⟨kc,id,hm⟩:=bZ hm;replace bf:=(bf.kpp a6).gr hC;replace bg:=(bg.kpp a6).gr hC;replace fk:=fk.gr hC;replace fl:=fl.gr hC;refine Zh (Zps 18 19 id ((bf.toSlF (Zm.int .u32)).froz 14) ((bg.froz 13 (by decide)).toSlF (Zm.int .u32)) ((fk.froz 13).froz 14) ((fl.froz 13).froz 14)) ?_;rintro _ cl ⟨ie,kd,ke,kf,kg,rfl,ai,eo,ep⟩;refine ⟨_,rfl,?_⟩;replace eo:=eo.thaw (Z0 .u32) ai (((Fz.refl (col:=(Zf af ae))).froz 13).froz 14) (by decide)
     replace ep:=ep.thaw (Z0 .u32) ai (((Fz.refl (col:=(Zf af ae))).froz 13).froz 14) (by decide);replace ai:=ai.thawR (col:=(Zf af ae));generalize Xb ic.heap.size (Zf af ae) ie=cw at *;refine Zk ?_;refine ⟨fun w'=>Zg (Zf cl cw) cl (Zf cl cw) w',fun g=>(Zf cl cw) g=497,Zg.refl _ _,Yv,fun _=>⟨fun _ h=>Ws hC0 ai h,fun b hb=>ai.below.block b hb,fun g x1 x2=>Wz ai g x1 (by first | exact x2 | (simp only [Xk,x2];rfl) | (simp only [Xk,X6,x2];rfl))⟩,?_⟩;have az:=Zx.clip (fun _=>false) cw cl;refine Y2 rfl rfl ?_;intro ig hC0;replace ak:=(((ak.kpp a6).gr hC).gr ai).kpp az;replace al:=(((al.kpp a6).gr hC).gr ai).kpp az;replace am:=(((am.kpp a6).gr hC).gr ai).kpp az;replace an:=(((an.kpp a6).gr hC).gr ai).kpp az;replace bs:=(((bs.kpp a6).gr hC).gr ai).kpp az;replace bt:=(((bt.kpp a6).gr hC).gr ai).kpp az;replace bj:=(((bj.kpp a6).gr hC).gr ai).kpp az;replace ao:=(((ao.kpp a6).gr hC).gr ai).kpp az;replace ap:=(((ap.kpp a6).gr hC).gr ai).kpp az;replace aq:=(((aq.kpp a6).gr hC).gr ai).kpp az;replace ar:=(((ar.kpp a6).gr hC).gr ai).kpp az;replace au:=(((au.kpp a6).gr hC).gr ai).kpp az;replace av:=(((av.kpp a6).gr hC).gr ai).kpp az;replace aw:=(((aw.kpp a6).gr hC).gr ai).kpp az;replace ax:=(((ax.kpp a6).gr hC).gr ai).kpp az;replace ah:=(((ah.kpp a6).gr hC).gr ai).kpp az;replace ad:=(((ad.kpp a6).gr hC).gr ai).kpp az;replace hb3:=(((hb3.kpp a6).gr hC).gr ai).kpp az;replace ac:=(((ac.kpp a6).gr hC).gr ai).kpp az;replace ba:=((ba.gr hC).gr ai).kpp az;replace bd:=((bd.gr hC).gr ai).kpp az;replace ab:=((ab.gr hC).gr ai).kpp az;replace aa:=((aa.grow hC).grow ai).kpp az;have hC:=hC0.bl (Zf cl cw);obtain ⟨bq,ih,hm⟩:=bZ hm;replace eo:=(eo.kpp az).gr hC;replace ep:=(ep.kpp az).gr hC;replace bs:=bs.gr hC;replace bt:=bt.gr hC;refine Zh (Zm4 20 21 ih ((bs.froz 18).froz 19) ((bt.froz 18).froz 19) ((eo.toSlF (Zm.int .u32)).froz 19) ((ep.froz 18 (by decide)).toSlF (Zm.int .u32))) ?_;rintro _ br ⟨ii,fm,fn,fp,fq,rfl,aj,bu,bv⟩;refine ⟨_,rfl,?_⟩;replace bu:=bu.thaw (Z0 .u32) aj (((Fz.refl (col:=(Zf cl cw))).froz 18).froz 19) (by decide)
     replace bv:=bv.thaw (Z0 .u32) aj (((Fz.refl (col:=(Zf cl cw))).froz 18).froz 19) (by decide);replace aj:=aj.thawR (col:=(Zf cl cw));generalize Xb ig.heap.size (Zf cl cw) ii=bw at *;refine Zk ?_;refine ⟨fun w'=>Zg (Zf br bw) br (Zf br bw) w',fun g=>(Zf br bw) g=497,Zg.refl _ _,Yv,fun _=>⟨fun _ h=>Ws hC0 aj h,fun b hb=>aj.below.block b hb,fun g x1 x2=>Wz aj g x1 (by first | exact x2 | (simp only [Xk,x2];rfl) | (simp only [Xk,X6,x2];rfl))⟩,?_⟩;have a0:=Zx.clip (fun _=>false) bw br;refine Zc3 rfl rfl (Ug zeroValue47) ?_;intro cx ij;refine Y2 rfl rfl ?_;intro ik ⟨hC0,hZ0⟩;replace bf:=((((bf.gr ai).kpp az).gr hC).gr aj).kpp a0;replace bg:=((((bg.gr ai).kpp az).gr hC).gr aj).kpp a0;replace ak:=((ak.gr hC).gr aj).kpp a0;replace al:=((al.gr hC).gr aj).kpp a0;replace am:=((am.gr hC).gr aj).kpp a0;replace an:=((an.gr hC).gr aj).kpp a0;replace bj:=((bj.gr hC).gr aj).kpp a0;replace ao:=((ao.gr hC).gr aj).kpp a0;replace ap:=((ap.gr hC).gr aj).kpp a0;replace aq:=((aq.gr hC).gr aj).kpp a0;replace ar:=((ar.gr hC).gr aj).kpp a0;replace au:=((au.gr hC).gr aj).kpp a0;replace av:=((av.gr hC).gr aj).kpp a0;replace aw:=((aw.gr hC).gr aj).kpp a0;replace ax:=((ax.gr hC).gr aj).kpp a0;replace ah:=((ah.gr hC).gr aj).kpp a0;replace ad:=((ad.gr hC).gr aj).kpp a0;replace ba:=((ba.gr hC).gr aj).kpp a0;replace bd:=((bd.gr hC).gr aj).kpp a0;replace hb3:=((hb3.gr hC).gr aj).kpp a0;replace ab:=((ab.gr hC).gr aj).kpp a0;replace ac:=((ac.gr hC).gr aj).kpp a0;replace aa:=((aa.grow hC).grow aj).kpp a0;have hC:=hC0.bl (Zf br bw);obtain ⟨a2,fr⟩:=Zbg (col:=(Zf br bw)) 22 hZ0 ij;replace fr:Zl 47 22 (Xa cx 22 (Zf br bw)) ik cx #[.bool false,.slice none (([]:List Int).length) 0,.slice none (([]:List Int).length) 0]:=fr;refine Z8 fr ?_;intro cy a3 il cn;refine Zk ?_;refine ⟨fun w'=>Zg (Zf cy (Xa cx 22 (Zf br bw))) cy (Zf cy (Xa cx 22 (Zf br bw))) w',fun g=>(Zf cy (Xa cx 22 (Zf br bw))) g=497,Zg.refl _ _,Yv,fun h=>absurd h (by decide),?_⟩;have ay:=Zx.clip (fun _=>false) (Xa cx 22 (Zf br bw)) cy;refine Zc4 ?_;replace bs:=(((((bs.gr aj).kpp a0).gr hC).kpp a2).kp a3).kpp ay
     replace bt:=(((((bt.gr aj).kpp a0).gr hC).kpp a2).kp a3).kpp ay;replace bu:=((((bu.kpp a0).gr hC).kpp a2).kp a3).kpp ay;replace bv:=((((bv.kpp a0).gr hC).kpp a2).kp a3).kpp ay;replace ak:=(((ak.gr hC).kpp a2).kp a3).kpp ay;replace al:=(((al.gr hC).kpp a2).kp a3).kpp ay;replace am:=(((am.gr hC).kpp a2).kp a3).kpp ay;replace an:=(((an.gr hC).kpp a2).kp a3).kpp ay;replace bf:=(((bf.gr hC).kpp a2).kp a3).kpp ay;replace bg:=(((bg.gr hC).kpp a2).kp a3).kpp ay;replace bj:=(((bj.gr hC).kpp a2).kp a3).kpp ay;replace ao:=(((ao.gr hC).kpp a2).kp a3).kpp ay;replace ap:=(((ap.gr hC).kpp a2).kp a3).kpp ay;replace aq:=(((aq.gr hC).kpp a2).kp a3).kpp ay;replace ar:=(((ar.gr hC).kpp a2).kp a3).kpp ay;replace au:=(((au.gr hC).kpp a2).kp a3).kpp ay;replace av:=(((av.gr hC).kpp a2).kp a3).kpp ay;replace aw:=(((aw.gr hC).kpp a2).kp a3).kpp ay;replace ax:=(((ax.gr hC).kpp a2).kp a3).kpp ay;replace ah:=(((ah.gr hC).kpp a2).kp a3).kpp ay;replace ad:=(((ad.gr hC).kpp a2).kp a3).kpp ay;replace ba:=(((ba.gr hC).kpp a2).kp a3).kpp ay;replace bd:=(((bd.gr hC).kpp a2).kp a3).kpp ay;replace hb3:=(((hb3.gr hC).kpp a2).kp a3).kpp ay;replace ab:=(((ab.gr hC).kpp a2).kp a3).kpp ay;replace ac:=(((ac.gr hC).kpp a2).kp a3).kpp ay;replace aa:=(((aa.grow hC).kpp a2).kp a3 il).kpp ay;intro im hC;replace hC:Zg (Zf cy (Xa cx 22 (Zf br bw))) cy (Zf cy (Xa cx 22 (Zf br bw))) im:=.of_below hC.below;refine go ?_;replace bd:=bd.gr hC;refine lV _ (Xh isAgg47 sizeOf47 bd) ?_;replace cn:=(cn.kpp ay).gr hC;refine lV _ (Xh isAgg47 sizeOf47 cn)<|lV (.agg #[.bool ci,.slice d3 cj.length d4,.slice d5 ck.length d6,.bool bq.1.1,.slice fm bq.1.2.length fn,.slice fp bq.2.length fq]) (Yt (l:=[_,_]) (qs:=[(0,3),(3,3)]) underlying49 zeroValue49 ⟨rfl,sizeOf47,rfl,sizeOf47,trivial⟩ rfl) ?_;replace ak:=ak.gr hC;replace ak:=ak.froz 21;replace al:=al.gr hC;replace al:=al.froz 21;replace am:=am.gr hC;replace am:=am.froz 21;replace an:=an.gr hC;replace an:=an.froz 21;replace bf:=bf.gr hC;replace bf:=bf.froz 21 (by decide);replace bg:=bg.gr hC;replace bg:=bg.froz 21 (by decide);replace bs:=bs.gr hC;replace bs:=bs.froz 21;replace bt:=bt.gr hC;replace bt:=bt.froz 21
     replace ao:=ao.gr hC;replace ao:=ao.froz 21;replace ap:=ap.gr hC;replace ap:=ap.froz 21;replace aq:=aq.gr hC;replace aq:=aq.froz 21;replace ar:=ar.gr hC;replace ar:=ar.froz 21;replace au:=au.gr hC;replace au:=au.froz 21 (by decide);replace av:=av.gr hC;replace av:=av.froz 21 (by decide);replace aw:=aw.gr hC;replace aw:=aw.froz 21 (by decide);replace ax:=ax.gr hC;replace ax:=ax.froz 21 (by decide);replace ah:=ah.gr hC;replace ah:=ah.froz 21 (by decide);replace bu:=bu.gr hC;replace bu:=bu.froz 21 (by decide);replace bv:=bv.gr hC;replace bv:=(bv).toSlF (Zm.int .u32);replace bj:=bj.gr hC;replace bj:=bj.froz 21 (by decide);replace ad:=ad.gr hC;replace ad:=ad.froz 21 (by decide);replace ba:=ba.gr hC;replace ba:=ba.froz 21 (by decide);replace bd:=bd.froz 21 (by decide);replace hb3:=hb3.gr hC;replace hb3:=hb3.froz 21 (by decide);replace ab:=ab.gr hC;replace ab:=ab.froz 21 (by decide);replace ac:=ac.gr hC;replace ac:=ac.froz 21 (by decide);replace cn:=cn.froz 21 (by decide);replace aa:=aa.grow hC;replace aa:=aa.froz 21 (by decide) (by decide);replace ak:=ak.froz 20;replace al:=al.froz 20;replace am:=am.froz 20;replace an:=an.froz 20;replace bf:=bf.froz 20 (by decide);replace bg:=bg.froz 20 (by decide);replace bs:=bs.froz 20;replace bt:=bt.froz 20;replace ao:=ao.froz 20;replace ap:=ap.froz 20;replace aq:=aq.froz 20;replace ar:=ar.froz 20;replace au:=au.froz 20 (by decide);replace av:=av.froz 20 (by decide);replace aw:=aw.froz 20 (by decide);replace ax:=ax.froz 20 (by decide);replace ah:=ah.froz 20 (by decide);replace bu:=(bu).toSlF (Zm.int .u32);replace bv:=bv.froz 20;replace bj:=bj.froz 20 (by decide);replace ad:=ad.froz 20 (by decide);replace ba:=ba.froz 20 (by decide);replace bd:=bd.froz 20 (by decide);replace hb3:=hb3.froz 20 (by decide);replace ab:=ab.froz 20 (by decide);replace ac:=ac.froz 20 (by decide);replace cn:=cn.froz 20 (by decide);replace aa:=aa.froz 20 (by decide) (by decide)
     refine Zbm (col:=(Xk 20 (Xk 21 (Zf cy (Xa cx 22 (Zf br bw)))))) (r:=(Za.pair (Za.pair (Za.pair Za.bool (Za.slice (Za.int .u32))) (Za.slice (Za.int .u32))) (Za.pair (Za.pair Za.bool (Za.slice (Za.int .u32))) (Za.slice (Za.int .u32))))) (xs:=[(((ci,cj),ck),((bq.1.1,bq.1.2),bq.2))]) [(.agg #[.bool ci,.slice d3 cj.length d4,.slice d5 ck.length d6,.bool bq.1.1,.slice fm bq.1.2.length fn,.slice fp bq.2.length fq])] 23 (V9.ofF (Rows.consF (r:=(Za.pair (Za.pair (Za.pair Za.bool (Za.slice (Za.int .u32))) (Za.slice (Za.int .u32))) (Za.pair (Za.pair Za.bool (Za.slice (Za.int .u32))) (Za.slice (Za.int .u32))))) (x:=(((ci,cj),ck),((bq.1.1,bq.1.2),bq.2))) (cs:=[.bool ci,.slice d3 cj.length d4,.slice d5 ck.length d6,.bool bq.1.1,.slice fm bq.1.2.length fn,.slice fp bq.2.length fq]) (V7 (V7 (V7 (Zcw ci) (Zad bs)) (Zad bt)) (V7 (V7 (Zcw bq.1.1) (Zad bu)) (Zad bv))) Rows.nil0)) ?_;intro kh ki kj a4 io;obtain ⟨ip,hm⟩:=Z4 hm;replace bj:=bj.gr a4;refine W3 bj (io.srcN (NB.pair (NB.pair (NB.pair NB.bool NB.slice) NB.slice) (NB.pair (NB.pair NB.bool NB.slice) NB.slice))) ip ?_;intro kk kl km kn a7 ft;refine go ?_;replace cn:=(cn.gr a4).kpp a7;refine lV _ (Xh isAgg47 sizeOf47 cn) ?_;replace bd:=(bd.gr a4).kpp a7;refine Z8 bd ?_;intro ko a9 iq ir;refine go ?_;replace ak:=((ak.gr a4).kpp a7).kp a9;replace al:=((al.gr a4).kpp a7).kp a9;replace am:=((am.gr a4).kpp a7).kp a9;replace an:=((an.gr a4).kpp a7).kp a9;replace bf:=((bf.gr a4).kpp a7).kp a9;replace bg:=((bg.gr a4).kpp a7).kp a9;replace ao:=((ao.gr a4).kpp a7).kp a9;replace ap:=((ap.gr a4).kpp a7).kp a9;replace aq:=((aq.gr a4).kpp a7).kp a9;replace ar:=((ar.gr a4).kpp a7).kp a9;replace au:=((au.gr a4).kpp a7).kp a9;replace av:=((av.gr a4).kpp a7).kp a9;replace aw:=((aw.gr a4).kpp a7).kp a9;replace ax:=((ax.gr a4).kpp a7).kp a9;replace ah:=((ah.gr a4).kpp a7).kp a9;replace bu:=((bu.gr a4).kpp a7).kp a9;replace bv:=((bv.gr a4).kpp a7).kp a9;replace ad:=((ad.gr a4).kpp a7).kp a9;replace ba:=((ba.gr a4).kpp a7).kp a9;replace hb3:=((hb3.gr a4).kpp a7).kp a9;replace ab:=((ab.gr a4).kpp a7).kp a9
     replace ac:=((ac.gr a4).kpp a7).kp a9;replace aa:=((aa.grow a4).kpp a7).kp a9 iq;replace ft:=ft.kp a9;exact ⟨ea,by omega,rfl,⟨_,_,_,_,_,_,_,_,_,_,_,_,_,rfl,hm,aa,ak,al,am,an,ad,bf,bg,ba,bu,bv,ir,ft,ao,ap,aq,ar,hb3,ab,au,av,aw,ax,ac,ah,rfl⟩⟩
    refine lM (.func (.func 210) #[] #[.pointer (some ⟨g3,0,none⟩)])<|go ?_;obtain ⟨fu,it,hm⟩:=bZ hm;refine lc rfl rfl (Z2m call210 rfl rfl rfl) (Zxh N (Xk 17 ae) _ 999 (by decide) di et eu en g3 (((c8,b6),b7),((dd,b8),b9)) c9 da db dc de df dg dh (bj.toSlF (Zm.pair (Zm.pair (Zm.pair Zm.bool Zm.slice) Zm.slice) (Zm.pair (Zm.pair Zm.bool Zm.slice) Zm.slice))) (ao.froz 17) (ap.froz 17) (aq.froz 17) (ar.froz 17) (hb3.froz 17 (by decide)) fu it) ?_;rintro _ iu ⟨rfl,bn⟩;refine ⟨_,rfl,?_⟩;replace bn:Zg ae af ae iu:=.of_below bn;refine go ?_;replace bj:=bj.gr bn;replace ao:=ao.gr bn;replace ap:=ap.gr bn;replace aq:=aq.gr bn;replace ar:=ar.gr bn;replace au:=au.gr bn;replace av:=av.gr bn;replace aw:=aw.gr bn;replace ax:=ax.gr bn;replace ah:=ah.gr bn;replace ad:=ad.gr bn;replace hb3:=hb3.gr bn;replace ab:=ab.gr bn;replace ac:=ac.gr bn;replace aa:=aa.grow bn;refine Zp hm (fun hb hm=>go ?_) fun hb hm=>go ?_
    ·refine lV (.agg #[.bool false,.slice none (([]:List Int).length) 0,.slice none (([]:List Int).length) 0,.bool false,.slice none (([]:List Int).length) 0,.slice none (([]:List Int).length) 0]) (Yt (l:=[_,_]) (qs:=[(0,3),(3,3)]) underlying49 zeroValue49 ⟨rfl,sizeOf47,rfl,sizeOf47,trivial⟩ rfl)<|Sa rfl<|Z8 ac ?_;intro kq iv iw ix;refine go ?_;cases hm;replace aa:=aa.kp iv iw;exact ⟨rfl,_,Zu4 rfl rfl rfl rfl isAgg49 sizeOf49 rfl rfl ix.atN rfl rfl,_,none,0,none,0,none,0,none,0,none,0,rfl,aa.fin (cm []),Zc.nil,Sl.nil,Sl.nil,Sl.nil,Sl.nil⟩
    obtain ⟨eb,fv,hm⟩:=bZ hm;refine lI fv (bj.addr fv) ?_;obtain ⟨_,iy,iz⟩:=bj.atN fv;obtain ⟨_,_,rfl,i0,i1⟩:=iy.parts;obtain ⟨_,_,rfl,i2,i3⟩:=i0.parts;obtain ⟨_,_,rfl,i4,i5⟩:=i2.parts;obtain rfl:=i4.bool;obtain ⟨i6,i7,rfl,fw⟩:=i5.slice;obtain ⟨i8,i9,rfl,fx⟩:=i3.slice;obtain ⟨_,_,rfl,ja,jb⟩:=i1.parts;obtain ⟨_,_,rfl,jc,jd⟩:=ja.parts;obtain rfl:=jc.bool;obtain ⟨je,jf,rfl,fy⟩:=jd.slice;obtain ⟨jg,jh,rfl,fz⟩:=jb.slice;refine lV (.agg #[.bool eb.1.1.1,.slice i6 eb.1.1.2.length i7,.slice i8 eb.1.2.length i9,.bool eb.2.1.1,.slice je eb.2.1.2.length jf,.slice jg eb.2.2.length jh]) (Xp isAgg49 sizeOf49 rfl rfl iz) ?_;obtain ⟨kr,f0,hm⟩:=bZ hm;refine lI f0 (ah.addr f0) ?_;obtain ⟨f1,e0,hm⟩:=bZ hm;have e0:f1=cg.set (Int.toNat di) fu:=(Option.some.inj e0).symm;refine Yw (x1:=fu) ah f0 ?_;intro kt bo ji e1;rw [← e0] at e1;refine .ld (d:=9) (v:=(.slice d0 f1.length d1)) (congrArg (fun n=>Value.slice d0 n d1) (show cg.length=f1.length by rw [e0,List.length_set])) ?_;replace ad:=ad.kp bo;refine Z8 ad ?_;intro ku bp jj jk;refine go ?_;replace ao:=(ao.kp bo).kp bp;replace ap:=(ap.kp bo).kp bp;replace aq:=(aq.kp bo).kp bp;replace ar:=(ar.kp bo).kp bp;replace au:=(au.kp bo).kp bp;replace av:=(av.kp bo).kp bp;replace aw:=(aw.kp bo).kp bp;replace ax:=(ax.kp bo).kp bp;replace fw:=(fw.kp bo).kp bp;replace fx:=(fx.kp bo).kp bp;replace fy:=(fy.kp bo).kp bp;replace fz:=(fz.kp bo).kp bp;replace hb3:=(hb3.kp bo).kp bp;replace ab:=(ab.kp bo).kp bp;replace ac:=(ac.kp bo).kp bp;replace aa:=(aa.kp bo ji).kp bp jj;replace e1:=e1.kp bp;exact ⟨fc.length,by simp,rfl,⟨_,_,_,_,_,_,_,_,_,_,_,_,_,_,_,_,_,_,_,_,_,_,_,_,_,_,_,_,_,_,_,_,_,_,_,_,_,_,_,_,_,_,_,_,_,_,_,_,rfl,g5,hm,aa,fw,fx,fy,fz,jk,ao,ap,aq,ar,hb3,ab,au,av,aw,ax,ac,e1,(Wl (congrArg (Value.int .i64) (Wb (Nat.lt_of_lt_of_le g6 (h1.ks aa).1.1))) rfl)⟩⟩
  | cons kv jl=>
   obtain ⟨d2,jm,jn⟩:=Y8 hl;have hk:(el:Int)<(ek.length:Int):=by omega
   have hkb:=decide_eq_true hk;rw [Zbo.eq_2] at hm;refine go ?_;refine Y5 (congrArg Value.bool hkb)<|go ?_;refine lI d2 (dj.addr d2)<|lW (dj.atInt d2) ?_;refine go ?_;refine Wo (col:=a5) (by kernel_rfl) (by kernel_rfl)<|go ?_;refine qF ⟨_,_,rfl⟩ ?_;refine qW (fun _ hC=>((ab.atN).nth (q:=2) rfl).gr (hC.bl a5)) ?_;refine go ?_;obtain ⟨kw,f2,hm⟩:=bZ hm;refine qI f2 ((c2.ks aa).addr f2) ?_;obtain ⟨_,jo,jp⟩:=(c2.ks aa).atN f2;obtain ⟨⟨kx,ky,rfl,kz⟩,_⟩:=jo;refine qW (fun _ hC=>jp.one.gr (hC.bl a5)) ?_;refine go ?_;obtain ⟨k0,f3,hm⟩:=bZ hm;refine qI f3 (ah.addr f3)<|qW (fun _ hC=>(ah.gr (hC.bl a5)).atInt f3) ?_;refine go ?_;refine Yl ?_;intro k1 hC;replace hC:=hC.bl a5;refine go ?_;replace ak:=ak.gr hC;replace al:=al.gr hC;replace am:=am.gr hC;replace an:=an.gr hC;replace ao:=ao.gr hC;replace ap:=ap.gr hC;replace aq:=aq.gr hC;replace ar:=ar.gr hC;replace dj:=dj.gr hC;replace au:=au.gr hC;replace av:=av.gr hC;replace aw:=aw.gr hC;replace ax:=ax.gr hC;replace ah:=ah.gr hC;replace ad:=ad.gr hC;replace hb3:=hb3.gr hC;replace ab:=ab.gr hC;replace ac:=ac.gr hC;replace aa:=aa.grow hC;exact ⟨jl.length,by simp,rfl,⟨_,_,_,_,rfl,jm,hm,aa,ak,al,am,an,ad,ao,ap,aq,ar,hb3,ab,dj,au,av,aw,ax,ac,ah,(Wl (congrArg (Value.int .i64) (Wb (Nat.lt_of_lt_of_le jn dj.1.1))) rfl)⟩⟩
section
variable (N:Nat) (n:Xt) (X V:QV×QV)
abbrev Zif:Int→List (QV×QV)→Option Int:=fun x P=>Zlc N x P X
theorem Zqp (w:List Int) (kk:Bool→List Int→List Int→Bool→List Int→List Int→Bool→List Int→List Int→Bool→List Int→List Int→Bool→List Int→List Int→Bool→List Int→List Int→List Int→S0) (x row:Int) (d:QV) (e:List ByteArray):∀ (f:Nat) (a:QV) (ps:List (QV×QV)) (k:Int),
  Zdk N n X.1.1.1 X.1.1.2 X.1.2 X.2.1.1 X.2.1.2 X.2.2 V.1.1.1 V.1.1.2 V.1.2 V.2.1.1 V.2.1.2 V.2.2 w kk x row d e f a.1.1 a.1.2 a.2 ps k=
   Zfe N n (Zif N X) w (fun a b xs=>kk a.1.1 a.1.2 a.2 b.1.1 b.1.2 b.2 X.1.1.1 X.1.1.2 X.1.2 X.2.1.1 X.2.1.2 X.2.2 V.1.1.1 V.1.1.2 V.1.2 V.2.1.1 V.2.1.2 V.2.2 xs) x row d e f a ps k
 | 0,a,ps,k=>rfl
 | f+1,a,ps,k=>by
  have ih:=Zqp w kk x row d e f
  rw [Zdk.eq_2,Zfe]
  simp only [ih]
theorem Zqo (s:QV×QV) (w:List Int) (kk:Bool→List Int→List Int→Bool→List Int→List Int→Bool→List Int→List Int→Bool→List Int→List Int→Bool→List Int→List Int→Bool→List Int→List Int→List Int→S0) (x:Int):∀ (ps:List Int) (row:Int),
  Zbo N n s.1.1.1 s.1.1.2 s.1.2 s.2.1.1 s.2.1.2 s.2.2 X.1.1.1 X.1.1.2 X.1.2 X.2.1.1 X.2.1.2 X.2.2 V.1.1.1 V.1.1.2 V.1.2 V.2.1.1 V.2.1.2 V.2.2 w kk x ps row=
   Zah N n (Zif N X) s w (fun a b xs=>kk a.1.1 a.1.2 a.2 b.1.1 b.1.2 b.2 X.1.1.1 X.1.1.2 X.1.2 X.2.1.1 X.2.1.2 X.2.2 V.1.1.1 V.1.1.2 V.1.2 V.2.1.1 V.2.1.2 V.2.2 xs) x ps row
 | [],row=>by
  rw [Zbo.eq_1,Zah]
  simp only [Zqp]
 | p :: ps,row=>by
  rw [Zbo.eq_2,Zah]
  simp only [Zqo s w kk x ps]
theorem Zqn:∀ (l:List Int) (a b:QV) (w:List Int),
  S8 N n l a.1.1 a.1.2 a.2 b.1.1 b.1.2 b.2 X.1.1.1 X.1.1.2 X.1.2 X.2.1.1 X.2.1.2 X.2.2 V.1.1.1 V.1.1.2 V.1.2 V.2.1.1 V.2.1.2 V.2.2 w=Zbl N n (Zif N X) l a b w
 | [],a,b,w=>rfl
 | x :: l,a,b,w=>by
  rw [S8.eq_2,Zbl]
  have e:(fun a b xs=>S8 N n l a.1.1 a.1.2 a.2 b.1.1 b.1.2 b.2 X.1.1.1 X.1.1.2 X.1.2 X.2.1.1 X.2.1.2 X.2.2 V.1.1.1 V.1.1.2 V.1.2 V.2.1.1 V.2.1.2 V.2.2 xs)=Zbl N n (Zif N X) l:=by
   funext a b xs
   exact Zqn l a b xs
  have h:=fun ps=>Zqo N n X V (a,b) w (S8 N n l) x ps 0
  rw [e] at h
  simp only [h]
end
def Zfg (x:Rat×Rat) (p:Rat×Rat):Bool:=decide (p.1≤x.1)&&decide (x.2≤p.2)&&decide (p.1<p.2)
theorem Zfh {x p:Rat×Rat}:Zfg x p=true↔p.1≤x.1∧x.2≤p.2∧p.1<p.2:=by simp [Zfg,and_assoc]
theorem Zw5 {x:Rat×Rat} (h:x.1<x.2):Zmv x (Zfg x):=by
 refine ⟨fun p hp=>?_,fun p _ _ q hq=>?_⟩
 ·rw [Bool.eq_iff_iff,Zfh,Zai]
  exact ⟨fun g=>⟨g.1,Std.lt_of_lt_of_le h g.2.1,g.2.1⟩,fun g=>⟨g.1,g.2.2,Std.lt_of_le_of_lt g.1 g.2.1⟩⟩
 ·rw [Bool.eq_false_iff]
  intro g
  exact absurd (Zfh.1 g).1 (Rat.not_le.2 hq)
section
variable {N K:Nat} (hr:Xd N (8 * K+40)) {x:Rat×Rat} {X:QV×QV} (q1:RV K X.1) (q2:RV K X.2) (v1:Zv X.1=x.1) (v2:Zv X.2=x.2)
include hr q1 q2 v1 v2
theorem Zqf:∀ (P:List (Rat×Rat)) (k:Nat),(∀ p ∈ P,qs p.1≤K∧qs p.2≤K)→S9 N X (P.map Xo) k=some (Tl (Zfg x) P k)
 | [],k,_=>rfl
 | p :: P,k,h=>by
  have hp:=h p List.mem_cons_self
  have ih:=Zqf P (k+1) fun q hq=>h q (List.mem_cons_of_mem _ hq)
  have c1:Se N (((Xo p).1.1.1,(Xo p).1.1.2),(Xo p).1.2) ((X.1.1.1,X.1.1.2),X.1.2)=some (Vq p.1 x.1):=by
   have:=Zik (Wh hp.1) q1 (hr.mono (by omega))
   rwa [Yy,v1] at this
  have c2:Se N ((X.2.1.1,X.2.1.2),X.2.2) (((Xo p).2.1.1,(Xo p).2.1.2),(Xo p).2.2)=some (Vq x.2 p.2):=by
   have:=Zik q2 (Wh hp.2) (hr.mono (by omega))
   rwa [Yy,v2] at this
  have c3:Se N (((Xo p).1.1.1,(Xo p).1.1.2),(Xo p).1.2) (((Xo p).2.1.1,(Xo p).2.1.2),(Xo p).2.2)=some (Vq p.1 p.2):=by
   have:=Zik (Wh hp.1) (Wh hp.2) (hr.mono (by omega))
   rwa [Yy,Yy] at this
  rw [List.map_cons,S9.eq_2,c1,Option.bind_some,Tl]
  by_cases a1:p.1≤x.1
  ·rw [if_pos (decide_eq_true (Zct.2 a1)),c2,Option.bind_some]
   by_cases a2:x.2≤p.2
   ·rw [if_pos (decide_eq_true (Zct.2 a2)),c3,Option.bind_some,Zbp]
    by_cases a3:p.1<p.2
    ·rw [if_pos (decide_eq_true (Zl3.2 a3)),if_pos (Zfh.2 ⟨a1,a2,a3⟩)]
    ·rw [if_neg (by rw [decide_eq_false (fun e=>a3 (Zl3.1 e))];decide),Zfl,ih,if_neg (fun e=>a3 (Zfh.1 e).2.2)]
   ·rw [if_neg (by rw [decide_eq_false (fun e=>a2 (Zct.1 e))];decide),Zbp,if_neg (by decide),Zfl,ih,if_neg (fun e=>a2 (Zfh.1 e).2.1)]
  ·rw [if_neg (by rw [decide_eq_false (fun e=>a1 (Zct.1 e))];decide),Zbp,if_neg (by decide),Zfl,ih,if_neg (fun e=>a1 (Zfh.1 e).1)]
end
section
variable {N W K:Nat} {n:Xt} (hf:Vx N n) (hs:Ue n W) (hr:Xd N (8 * K+40)) (hWK:1025 * (W+2)+4≤K) (hN:1048577<N) {ord:List Int} (ho:Zbd n.2.2.2.1 ord) (hol:ord.length≤1024)
variable {x:Rat×Rat} {X:QV×QV} (q1:RV K X.1) (q2:RV K X.2) (v1:Zv X.1=x.1) (v2:Zv X.2=x.2)
include hf hs hr hWK hN ho hol q1 q2 v1 v2
theorem Zzn:Zbn N n ord X=Zdb (Uu n (fun P=>Tl (Zfg x) P 0) ord (List.replicate n.2.1.length 0) (0,1)):=by
 have hnm:=hf.le
 have hmul:ord.length * (W+2)≤1024 * (W+2):=Nat.mul_le_mul_right _ hol
 have h1:(Ze 1).length=1:=by rw [Ta];rfl
 have h:=Zrl hf hs hr (by omega) ho (Z0a (Zfg x)) (ch:=Zif N X) (by omega) (fun v P hP _=>Zqf hr q1 q2 v1 v2 P 0 hP) ord (List.replicate n.2.1.length 0) (0,1) 1 1 (fun _ h=>h) (Vy.zero hf.ev) Tj.zero (by omega)
 rw [← Zqn N n X ((((false,[]),[]),((false,[]),[]))) ord] at h
 rw [Zbn,Z6 (by simp only [maxLen];omega),Zrj (hr.mono (by omega)),Option.bind_some,Zrf,Option.bind_some]
 exact h
end
def Zjr (aa:Int):Option R2:=
  Zw ((Int.toNat (i64.wrap ((i64.wrap (Int.tdiv aa 32))+1))) * 4≤281474976710656∧(Int.toNat (i64.wrap ((i64.wrap (Int.tdiv aa 32))+1)))≤maxLen∧0≤(i64.wrap ((i64.wrap (Int.tdiv aa 32))+1))) (Zw (0≤(Int.tmod aa 32)) ((Zn (List.replicate (Int.toNat (i64.wrap ((i64.wrap (Int.tdiv aa 32))+1))) (0:Int)) (i64.wrap (Int.tdiv aa 32))).bind fun ac=>(some ((List.replicate (Int.toNat (i64.wrap ((i64.wrap (Int.tdiv aa 32))+1))) (0:Int)).set (Int.toNat (i64.wrap (Int.tdiv aa 32))) (Xw .u32 1 (Int.tmod aa 32)))).bind fun ab=>some ab))
theorem Zy3 {col:Zd} {w0:World} {aa:Int} {r:R2} (c1:Nat) (hm:Zjr aa=some r):
    Calls Tryz.prog 223 #[.int .i64 aa] w0 (fun e w'=>∃ (col':Zd) (ra1:Option Addr) (rc2:Nat),e= .returned ((.slice ra1 r.length rc2))∧Zg col w0 col' w'∧Zc (Za.int .u32) 79 c1 col' w' ra1 rc2 r):=by
 refine Xe 2 (m:=16) func223 rfl rfl rfl rfl rfl ?_;rw [Zjr.eq_1] at hm;have ab:=St.start col w0;refine go ?_;refine lV (.int .i64 (i64.wrap (Int.tdiv aa 32))) (Vr aa 32 rfl rfl (by decide))<|go ?_;obtain ⟨ac,hm⟩:=Z4 hm;refine Sb (col:=(Zi col)) (w:=w0) (r:=(Za.int .u32)) (n:=(Int.toNat (i64.wrap ((i64.wrap (Int.tdiv aa 32))+1)))) (x0:=0) 1 rfl underlying43 Tryz.t79 rfl rfl rfl rfl rfl (congrArg (Value.int _) (Int.toNat_of_nonneg ac.2.2).symm) (congrArg (Value.int _) (Int.toNat_of_nonneg ac.2.2).symm) ac.1 ac.2.1 (Ql .u32 0) ?_;intro ag an ao aj ah;refine go ?_;refine lV (.int .i64 (i64.wrap (Int.tdiv aa 32))) (Vr aa 32 rfl rfl (by decide))<|X3 rfl<|lV (.int .i64 (Int.tmod aa 32)) (Sx aa 32 rfl rfl (by decide)) ?_;obtain ⟨ak,hm⟩:=Z4 hm;refine lV (.int .u32 (Xw .u32 1 (Int.tmod aa 32))) (Zcv 1 (Int.tmod aa 32) rfl rfl ak) ?_;obtain ⟨ap,ae,hm⟩:=bZ hm;refine lI ae (ah.addr ae) ?_;obtain ⟨af,ad,hm⟩:=bZ hm;have ad:af=(List.replicate (Int.toNat (i64.wrap ((i64.wrap (Int.tdiv aa 32))+1))) (0:Int)).set (Int.toNat (i64.wrap (Int.tdiv aa 32))) (Xw .u32 1 (Int.tmod aa 32)):=(Option.some.inj ad).symm;refine Yw (x1:=Xw .u32 1 (Int.tmod aa 32)) ah ae ?_;intro aq al am ai;rw [← ad] at ai;refine .ld (d:=3) (v:=(.slice ag af.length (Int.toNat (i64.wrap ((i64.wrap (Int.tdiv aa 32))+1))))) (congrArg (fun n=>Value.slice ag n (Int.toNat (i64.wrap ((i64.wrap (Int.tdiv aa 32))+1)))) (show (List.replicate (Int.toNat (i64.wrap ((i64.wrap (Int.tdiv aa 32))+1))) (0:Int)).length=af.length by rw [ad,List.length_set])) ?_;refine go ?_;cases hm;replace ab:=(ab.grow aj).kp al am;exact ⟨rfl,_,_,_,rfl,ab.fin (cm [(1,c1)]),ab.fo ai⟩
def Zcn (N:Nat) (ab:R4) (ac:Int):Option R0:=
  (Zjr ac).bind fun ad=>(Zgx N (ab.1,ab.2) (false,ad)).bind fun aa=>some ((aa.1.1.1,aa.1.1.2),aa.1.2)
theorem Zqb {N aw:Nat} {ax:Option Addr} {col:Zd} {w0:World} {am:R4} {ay:Int} {r:R0} (c1 c2:Nat) (hm:Zcn N am ay=some r) (az:Sl (Za.int .u32) col w0 ax aw am.2):
    Calls Tryz.prog 123 #[(.agg #[.bool am.1,.slice ax am.2.length aw]),.int .i64 ay] w0 (fun e w'=>∃ (col':Zd) (ra1:Option Addr) (rc2:Nat) (ra4:Option Addr) (rc5:Nat),e= .returned ((.agg #[.bool r.1.1,.slice ra1 r.1.2.length rc2,.slice ra4 r.2.length rc5]))∧Zg col w0 col' w'∧Zc (Za.int .u32) 79 c1 col' w' ra1 rc2 r.1.2∧Zc (Za.int .u32) 79 c2 col' w' ra4 rc5 r.2):=by
 refine Yf (m:=16) func123 rfl rfl rfl ?_;rw [Zcn.eq_1] at hm;have ac:=St.start col w0;refine go ?_;refine Xi (col:=(Zi col)) 1 rfl ?_;intro bs bt bc bd a0;refine Xs (col:=bc) #[.bool false,.slice none (([]:List Int).length) 0,.slice none (([]:List Int).length) 0] 2 zeroValue47 ?_;intro bu aq an a7 ae;refine go ?_;have a1:=Zx.clip (fun _=>false) an aq;refine Zc2 (col:=an) [(0,0),(1,1),(2,3),(3,1),(4,3),(5,1),(6,1),(7,1),(8,4),(9,2),(10,1)] (by kernel_rfl) (by kernel_rfl) ⟨fun h=>absurd h (by decide),fun h=>absurd h (by decide),fun h=>absurd h (by decide),fun h=>absurd h (by decide),fun h=>absurd h (by decide),fun h=>absurd h (by decide),fun h=>absurd h (by decide),fun h=>absurd h (by decide),fun _=>⟨_,_,_,rfl,Ug zeroValue47⟩,fun h=>absurd h (by decide),fun h=>absurd h (by decide),trivial⟩ ?_;replace a0:=(a0.gr a7).kpp a1;refine Wd (v:=(.agg #[.bool am.1,.slice ax am.2.length aw])) rfl rfl (fun _ hC=>Xp isAgg45 sizeOf45 rfl rfl (a0.atN.gr (hC.bl (Zf aq an)))) ?_;refine Ye (v:=(.int .i64 ay)) rfl rfl (fun _=>Wv rfl) ?_;refine Y2 rfl rfl ?_;intro bv hC0;have hC:=hC0.bl (Zf aq an);obtain ⟨be,bf,hm⟩:=bZ hm;refine Zh (Zy3 (col:=(Zf aq an)) 3 bf) ?_;rintro _ ad ⟨af,bg,bh,rfl,ao,a2⟩;refine ⟨_,rfl,?_⟩;refine Zk ?_;refine ⟨fun w'=>Zg (Zf ad af) ad (Zf ad af) w',fun g=>(Zf ad af) g=497,Zg.refl _ _,Yv,fun _=>⟨fun _ h=>Ws hC0 ao h,fun b hb=>ao.below.block b hb,fun g x1 x2=>Wz ao g x1 (by first | exact x2 | (simp only [Xk,x2];rfl) | (simp only [Xk,X6,x2];rfl))⟩,?_⟩;have a3:=Zx.clip (fun _=>false) af ad;refine Ye (v:=(.agg #[.bool false,.slice bg be.length bh])) rfl rfl (fun _=>Yt (l:=[_,_]) (qs:=[(0,1),(1,1)]) underlying45 zeroValue45 ⟨rfl,sizeOf4,rfl,sizeOf43,trivial⟩ rfl) ?_;refine Y2 rfl rfl ?_;intro bi hC0;replace ac:=(((((ac.grow bd).grow a7).kpp a1).grow hC).grow ao).kpp a3;replace ae:=(((ae.kpp a1).gr hC).gr ao).kpp a3;have hC:=hC0.bl (Zf ad af);obtain ⟨ag,bj,hm⟩:=bZ hm;replace az:=az.keep (Zj.start col w0);replace a2:=(a2.kpp a3).gr hC;replace ac:=ac.grow hC;refine Zh (Zp5 4 5 bj ((az.ks ac).froz 3) (a2.toSlF (Zm.int .u32))) ?_;rintro _ aa ⟨bk,a8,a9,ba,bb,rfl,ah,ak,al⟩;refine ⟨_,rfl,?_⟩;replace ak:=ak.thaw (Z0 .u32) ah ((Fz.refl (col:=(Zf ad af))).froz 3) (by decide)
 replace al:=al.thaw (Z0 .u32) ah ((Fz.refl (col:=(Zf ad af))).froz 3) (by decide);replace ah:=ah.thawR (col:=(Zf ad af));generalize Xb bi.heap.size (Zf ad af) bk=ab at *;refine Zk ?_;refine ⟨fun w'=>Zg (Zf aa ab) aa (Zf aa ab) w',fun g=>(Zf aa ab) g=497,Zg.refl _ _,Yv,fun _=>⟨fun _ h=>Ws hC0 ah h,fun b hb=>ah.below.block b hb,fun g x1 x2=>Wz ah g x1 (by first | exact x2 | (simp only [Xk,x2];rfl) | (simp only [Xk,X6,x2];rfl))⟩,?_⟩;have ar:=Zx.clip (fun _=>false) ab aa;refine Ye (v:=(.tuple #[(.agg #[.bool ag.1.1.1,.slice a8 ag.1.1.2.length a9,.slice ba ag.1.2.length bb]),.int .i64 ag.2])) rfl rfl (fun _=>Wv rfl) ?_;refine Ye (v:=(.agg #[.bool ag.1.1.1,.slice a8 ag.1.1.2.length a9,.slice ba ag.1.2.length bb])) rfl rfl (fun _=>Xv rfl rfl) ?_;refine Ye (v:=(.int .i64 ag.2)) rfl rfl (fun _=>Xv rfl rfl) ?_;refine Zc3 rfl rfl (Ug zeroValue47) ?_;intro ai bm;refine Y2 rfl rfl ?_;intro bn ⟨hC0,hZ0⟩;replace ae:=((ae.gr hC).gr ah).kpp ar;have hC:=hC0.bl (Zf aa ab);obtain ⟨au,a4⟩:=Zbg (col:=(Zf aa ab)) 6 hZ0 bm;replace a4:Zl 47 6 (Xa ai 6 (Zf aa ab)) bn ai #[.bool false,.slice none (([]:List Int).length) 0,.slice none (([]:List Int).length) 0]:=a4;refine Z8 a4 ?_;intro aj av bo a5;refine Zk ?_;refine ⟨fun w'=>Zg (Zf aj (Xa ai 6 (Zf aa ab))) aj (Zf aj (Xa ai 6 (Zf aa ab))) w',fun g=>(Zf aj (Xa ai 6 (Zf aa ab))) g=497,Zg.refl _ _,Yv,fun h=>absurd h (by decide),?_⟩;have ap:=Zx.clip (fun _=>false) (Xa ai 6 (Zf aa ab)) aj;refine Ye (v:=(.int .i64 ag.2)) rfl rfl (fun _=>U0 rfl) ?_;refine Zc4 ?_;replace ac:=(((((ac.grow ah).kpp ar).grow hC).kpp au).kp av bo).kpp ap;replace ak:=((((ak.kpp ar).gr hC).kpp au).kp av).kpp ap;replace al:=((((al.kpp ar).gr hC).kpp au).kp av).kpp ap;replace ae:=(((ae.gr hC).kpp au).kp av).kpp ap;intro bp hC;replace hC:Zg (Zf aj (Xa ai 6 (Zf aa ab))) aj (Zf aj (Xa ai 6 (Zf aa ab))) bp:=.of_below hC.below;refine go ?_;replace a5:=(a5.kpp ap).gr hC;refine lV _ (Xh isAgg47 sizeOf47 a5) ?_;replace ae:=ae.gr hC;refine Z8 ae ?_;intro bw a6 bq br;refine go ?_;cases hm;replace ak:=(ak.gr hC).kp a6;replace al:=(al.gr hC).kp a6;replace ac:=(ac.grow hC).kp a6 bq;exact ⟨rfl,_,ra br.atN,_,_,_,_,_,rfl,ac.fin (cm [(4,c1),(5,c2)]),ac.fo ak,ac.fo al⟩
theorem Z3n {r:Nat} (h:r<32):Xw .u32 1 (r:Int)=((2 ^ r:Nat):Int):=by
 have:∀ q:Fin 32,Xw .u32 1 (q.val:Int)=((2 ^ q.val:Nat):Int):=by decide
 exact this ⟨r,h⟩
theorem Z3x {k:Nat} (hk:k≤1099511627776):∃ l,Zjr (k:Int)=some l∧Zo l∧Zb l=2 ^ k∧l.length=k / 32+1:=by
 have e1:Int.tdiv (k:Int) 32=((k / 32:Nat):Int):=rfl
 have e2:Int.tmod (k:Int) 32=((k % 32:Nat):Int):=rfl
 have hr:=Nat.mod_lt k (show 0<32 by decide)
 have hd:=Nat.div_add_mod k 32
 generalize hq:k / 32=q at *
 generalize hs:k % 32=r at *
 have hp:(2 ^ r:Nat)<4294967296:=by
  have:=Nat.pow_lt_pow_right (show 1<2 by decide) hr
  exact this
 have hlen:((List.replicate (q+1) (0:Int)).set q ((2 ^ r:Nat):Int)).length=q+1:=by simp
 refine ⟨(List.replicate (q+1) (0:Int)).set q ((2 ^ r:Nat):Int),?_,?_,?_,hlen⟩
 ·rw [Zjr,e1,e2,Zr (x:=(q:Int)) (by omega),wS (by omega),Int.toNat_natCast,Z6 (by simp only [maxLen];omega),Z6 (by omega),Zz (by simp),Option.bind_some,Option.bind_some,Z3n hr,Int.toNat_natCast]
 ·intro d hd'
  rcases List.mem_or_eq_of_mem_set hd' with h | h
  ·rw [(List.mem_replicate.1 h).2];omega
  ·obtain ⟨Z,hZ⟩:∃ Z,Z=2 ^ r:=⟨_,rfl⟩
   rw [← hZ] at h hp
   rw [h];omega
 ·have h:=Um (l:=List.replicate (q+1) (0:Int)) (k:=q) (by simp) ((2 ^ r:Nat):Int)
  rw [List.getElem_replicate,Uz,Int.toNat_natCast] at h
  rw [show Zb ((List.replicate (q+1) (0:Int)).set q ((2 ^ r:Nat):Int))=4294967296 ^ q * 2 ^ r by simpa using h,show (4294967296:Nat)=2 ^ 32 from rfl,← Nat.pow_mul,← Nat.pow_add,hd]
theorem Zvm {N L k:Nat} {b:ZV} (hb:Zo b.2) (hl:b.2.length≤L) (hk:k≤1099511627776) (hr:Xd N (L+(k / 32+1))):Zcn N b (k:Int)=some (Zq (mkRat (Zs b) (2 ^ k))):=by
 obtain ⟨l,h1,h2,h3,h4⟩:=Z3x hk
 have hpos:0<2 ^ k:=Nat.pow_pos (by decide)
 generalize (2 ^ k:Nat)=Z at *
 have hs:(Zs (false,l)).sign=1:=by
  rw [Zs,if_neg (by simp),h3]
  exact Int.sign_eq_one_of_pos (by omega)
 have hb':(!decide (b.1=false))=b.1:=by cases b.1 <;> rfl
 have e:=Zj6 (N:=N) (num:=(b.1,b.2)) (den:=l) hb h2 (by omega) hl (by omega) hr
 rw [Zcn,h1,Option.bind_some,Zgx,Zmj (a:=(false,l)) (k:=k / 32+1) h2 (by simp only;omega) (hr.mono (by omega)),Option.bind_some,hs,if_neg (by decide),hb',e,Option.bind_some,Option.bind_some,h3]
def Zdl (N:Nat) (aa:(R0×R0)) (ad:Bool):Option (R0×R0):=
  (Qy N ((aa.1.1.1,aa.1.1.2),aa.1.2) ((aa.2.1.1,aa.2.1.2),aa.2.2)).bind fun ac=>(Qz N ((ac.1.1,ac.1.2),ac.2) ((false,[1]),[2])).bind fun ab=>if ad=true then (some (((ab.1.1,ab.1.2),ab.2),((aa.2.1.1,aa.2.1.2),aa.2.2))) else (some (((aa.1.1.1,aa.1.1.2),aa.1.2),((ab.1.1,ab.1.2),ab.2)))
theorem Zxf {N ai aj ak al:Nat} {am an ao ap:Option Addr} {col:Zd} {w0:World} {ab:(R0×R0)} {bb:Bool} {r:(R0×R0)} (hm:Zdl N ab bb=some r) (az:Sl (Za.int .u32) col w0 am ai ab.1.1.2) (a0:Sl (Za.int .u32) col w0 an aj ab.1.2) (a1:Sl (Za.int .u32) col w0 ao ak ab.2.1.2) (a2:Sl (Za.int .u32) col w0 ap al ab.2.2):
    Calls Tryz.prog 101 #[(.agg #[.bool ab.1.1.1,.slice am ab.1.1.2.length ai,.slice an ab.1.2.length aj,.bool ab.2.1.1,.slice ao ab.2.1.2.length ak,.slice ap ab.2.2.length al]),.bool bb] w0 (fun e w'=>∃ (col':Zd) (ra1:Option Addr) (rc2:Nat) (ra4:Option Addr) (rc5:Nat) (ra7:Option Addr) (rc8:Nat) (ra10:Option Addr) (rc11:Nat),e= .returned ((.agg #[.bool r.1.1.1,.slice ra1 r.1.1.2.length rc2,.slice ra4 r.1.2.length rc5,.bool r.2.1.1,.slice ra7 r.2.1.2.length rc8,.slice ra10 r.2.2.length rc11]))∧Zg col w0 col' w'∧Sl (Za.int .u32) col' w' ra1 rc2 r.1.1.2∧Sl (Za.int .u32) col' w' ra4 rc5 r.1.2∧Sl (Za.int .u32) col' w' ra7 rc8 r.2.1.2∧Sl (Za.int .u32) col' w' ra10 rc11 r.2.2):=by
 refine Yf (m:=27) func101 rfl rfl rfl ?_;rw [Zdl.eq_1] at hm;have aa:=St.start col w0;refine go ?_;refine Xi (col:=(Zi col)) 1 rfl ?_;intro b4 b5 bj bk ae;refine Xs (col:=bj) #[.bool false,.slice none (([]:List Int).length) 0,.slice none (([]:List Int).length) 0,.bool false,.slice none (([]:List Int).length) 0,.slice none (([]:List Int).length) 0] 2 zeroValue49 ?_;intro b6 b7 b8 bc a3;refine go ?_;refine Xf ⟨_,_,rfl⟩ ?_;replace ae:=ae.gr bc;refine lV (.agg #[.bool ab.1.1.1,.slice am ab.1.1.2.length ai,.slice an ab.1.2.length aj]) (Xp isAgg47 sizeOf47 rfl rfl ((ae.atN).part 0 3 _ rfl))<|Xf ⟨_,_,rfl⟩ ?_;refine lV (.agg #[.bool ab.2.1.1,.slice ao ab.2.1.2.length ak,.slice ap ab.2.2.length al]) (Xp isAgg47 sizeOf47 rfl rfl ((ae.atN).part 3 3 _ rfl)) ?_;obtain ⟨b9,bm,hm⟩:=bZ hm;replace az:=az.keep (Zj.start col w0);replace a0:=a0.keep (Zj.start col w0);replace a1:=a1.keep (Zj.start col w0);replace a2:=a2.keep (Zj.start col w0);replace aa:=(aa.grow bk).grow bc;refine Zh (Zm4 3 4 bm (az.ks aa) (a0.ks aa) (a1.ks aa) (a2.ks aa)) ?_;rintro _ ca ⟨bn,cb,cc,cd,ce,rfl,a5,a6,a7⟩;refine ⟨_,rfl,?_⟩;refine Xs (col:=bn) #[.bool false,.slice none (([]:List Int).length) 0,.slice none (([]:List Int).length) 0] 5 zeroValue47 ?_;intro cf cg bo aq bp;refine Z8 bp ?_;intro ch ar bq br;refine go ?_;refine lV _ (Xh isAgg47 sizeOf47 br)<|W1 (col:=bo) [1] 6 ?_;intro bd ci bs au a8;refine lV (.agg #[.bool false,.slice bd ([1].length) 1]) (Yt (l:=[_,_]) (qs:=[(0,1),(1,1)]) underlying45 zeroValue45 ⟨rfl,sizeOf4,rfl,sizeOf43,trivial⟩ rfl)<|W1 (col:=bs) [2] 7 ?_;intro bt bu a4 ag bv;refine lV (.agg #[.bool false,.slice bd ([1].length) 1,.slice bt ([2].length) 1]) (Yt (l:=[_,_]) (qs:=[(0,2),(2,1)]) underlying47 zeroValue47 ⟨rfl,sizeOf45,rfl,sizeOf43,trivial⟩ rfl) ?_;obtain ⟨ah,bw,hm⟩:=bZ hm;replace a6:=(((a6.gr aq).kp ar).gr au).gr ag;replace a7:=(((a7.gr aq).kp ar).gr au).gr ag;replace a8:=a8.gr ag
 refine Zh (Zps 8 9 bw ((((a6.toSlF (Zm.int .u32)).froz 4).froz 6).froz 7) ((((a7.froz 3 (by decide)).toSlF (Zm.int .u32)).froz 6).froz 7) ((((a8.froz 3 (by decide)).froz 4 (by decide)).toSlF (Zm.int .u32)).froz 7) ((((bv.froz 3 (by decide)).froz 4 (by decide)).froz 6 (by decide)).toSlF (Zm.int .u32))) ?_;rintro _ cj ⟨bx,be,bf,bg,bh,rfl,af,ac,ad⟩;refine ⟨_,rfl,?_⟩;replace ac:=ac.thaw (Z0 .u32) af (((((Fz.refl (col:=a4)).froz 3).froz 4).froz 6).froz 7) (by decide);replace ad:=ad.thaw (Z0 .u32) af (((((Fz.refl (col:=a4)).froz 3).froz 4).froz 6).froz 7) (by decide);replace af:=af.thawR (col:=a4);generalize Xb bu.heap.size a4 bx=bz at *;refine Xs (col:=bz) #[.bool false,.slice none (([]:List Int).length) 0,.slice none (([]:List Int).length) 0] 10 zeroValue47 ?_;intro ck cl cn av b0;refine Z8 b0 ?_;intro co aw b1 bi;refine go ?_;replace ae:=(((((((ae.gr a5).gr aq).kp ar).gr au).gr ag).gr af).gr av).kp aw;replace a3:=(((((((a3.gr a5).gr aq).kp ar).gr au).gr ag).gr af).gr av).kp aw;replace aa:=(((((((aa.grow a5).grow aq).kp ar bq).grow au).grow ag).grow af).grow av).kp aw b1;replace ac:=(ac.gr av).kp aw;replace ad:=(ad.gr av).kp aw;refine Zp hm (fun hb hm=>go ?_) fun hb hm=>go ?_
 ·refine lV _ (Xh isAgg47 sizeOf47 bi)<|Xf ⟨_,_,rfl⟩ ?_;refine lV (.agg #[.bool ab.2.1.1,.slice ao ab.2.1.2.length ak,.slice ap ab.2.2.length al]) (Xp isAgg47 sizeOf47 rfl rfl ((ae.atN).part 3 3 _ rfl))<|lV (.agg #[.bool ah.1.1,.slice be ah.1.2.length bf,.slice bg ah.2.length bh,.bool ab.2.1.1,.slice ao ab.2.1.2.length ak,.slice ap ab.2.2.length al]) (Yt (l:=[_,_]) (qs:=[(0,3),(3,3)]) underlying49 zeroValue49 ⟨rfl,sizeOf47,rfl,sizeOf47,trivial⟩ rfl)<|Z8 a3 ?_;intro cp a9 b2 ax;refine go ?_;replace ac:=ac.kp a9;replace ac:=(ac).toSlF (Zm.int .u32);replace ad:=ad.kp a9;replace ad:=ad.froz 8 (by decide);replace ax:=ax.froz 8 (by decide);replace aa:=aa.kp a9 b2;replace aa:=aa.froz 8 (by decide) (by decide);replace ac:=ac.froz 9;replace ad:=(ad).toSlF (Zm.int .u32);replace ax:=ax.froz 9 (by decide);replace aa:=aa.froz 9 (by decide) (by decide);cases hm;exact ⟨rfl,_,ra ax.atN,_,_,_,_,_,_,_,_,_,rfl,aa.fin (cm []),aa.fs ac,aa.fs ad,aa.fs (a1.ks aa),aa.fs (a2.ks aa)⟩
 refine Xf ⟨_,_,rfl⟩ ?_;refine lV (.agg #[.bool ab.1.1.1,.slice am ab.1.1.2.length ai,.slice an ab.1.2.length aj]) (Xp isAgg47 sizeOf47 rfl rfl ((ae.atN).part 0 3 _ rfl))<|lV _ (Xh isAgg47 sizeOf47 bi)<|lV (.agg #[.bool ab.1.1.1,.slice am ab.1.1.2.length ai,.slice an ab.1.2.length aj,.bool ah.1.1,.slice be ah.1.2.length bf,.slice bg ah.2.length bh]) (Yt (l:=[_,_]) (qs:=[(0,3),(3,3)]) underlying49 zeroValue49 ⟨rfl,sizeOf47,rfl,sizeOf47,trivial⟩ rfl)<|Z8 a3 ?_;intro cq ba b3 ay;refine go ?_;replace ac:=ac.kp ba;replace ac:=(ac).toSlF (Zm.int .u32);replace ad:=ad.kp ba;replace ad:=ad.froz 8 (by decide);replace ay:=ay.froz 8 (by decide);replace aa:=aa.kp ba b3;replace aa:=aa.froz 8 (by decide) (by decide);replace ac:=ac.froz 9;replace ad:=(ad).toSlF (Zm.int .u32);replace ay:=ay.froz 9 (by decide);replace aa:=aa.froz 9 (by decide) (by decide);cases hm;exact ⟨rfl,_,ra ay.atN,_,_,_,_,_,_,_,_,_,rfl,aa.fin (cm []),aa.fs (az.ks aa),aa.fs (a0.ks aa),aa.fs ac,aa.fs ad⟩

end Go.Proofs.YtbmjpjhbankpoaaGreat
