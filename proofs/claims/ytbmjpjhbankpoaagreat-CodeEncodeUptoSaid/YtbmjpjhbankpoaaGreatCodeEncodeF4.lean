/-
  What functions of the program compute, as plain Lean functions (m_..), and proofs that they compute it (c_..). Printed by a program of the author; no conditions.
-/
import Derived.Test.YtbmjpjhbankpoaaGreatCodeEncodeBFloat
import Derived.Test.YtbmjpjhbankpoaaGreatProg
import Derived.Test.YtbmjpjhbankpoaaGreatCodeEncodeBBrief
import Derived.Test.YtbmjpjhbankpoaaGreatCodeEncodeBMixD
import Derived.Test.YtbmjpjhbankpoaaGreatCodeEncodeBThree
import Derived.Test.YtbmjpjhbankpoaaGreatCodeEncodeF3
set_option linter.unusedVariables false
set_option maxRecDepth 100000
set_option maxHeartbeats 2000000
namespace Go.Proofs.YtbmjpjhbankpoaaGreat
open Go Go.RowKit
open Go.IntKind (i8 i16 i32 i64 u8 u16 u32 u64)
open Go.Proofs.Tryz

def Zhj (aa:Int) (kk_L2:(Bool→Int→Option Int)) (ab:Bool):Option Int:=
  kk_L2 ab (i64.wrap (aa+1))
def Zbe (N:Nat) (ad:R0) (ab:Int) (kk_L1:(Int→Option Int)):Nat→Bool→Int→Option Int
  | 0,_,_=>none
  | ae+1,af,aa=>(Zo ad.2.2.1 ab).bind fun ac=>if (decide (aa<(ac.length:Int)))=true then (if af=true then (Zhj aa (Zbe N ad ab kk_L1 ae) true) else ((Zo ac aa).bind fun ag=>(Zj0 N ac ag).bind fun ah=>Zhj aa (Zbe N ad ab kk_L1 ae) (decide (ah<aa)))) else (if af=true then (some 40) else (if (decide ((ac.length:Int)=0))=true then (some 43) else (kk_L1 (i64.wrap (ab+1)))))
termination_by structural x=>x
def Zel (N:Nat) (ad:R0) (aa:Int) (kk_L4:(Int→Option Int)):Nat→Int→Option Int
  | 0,_=>none
  | af+1,ab=>(Zo ad.2.2.2.2 aa).bind fun ae=>if (decide (ab<(ae.length:Int)))=true then ((Zo ae ab).bind fun ac=>(Zhm N ((ac.1.1,ac.1.2),ac.2)).bind fun ag=>if ag=true then (some 45) else ((Zel N ad aa kk_L4 af) (i64.wrap (ab+1)))) else (kk_L4 (i64.wrap (aa+1)))
termination_by structural x=>x
def Zbg (N:Nat) (ab:R0) (ac:List Int):Nat→Int→Option Int
  | 0,_=>none
  | ad+1,aa=>if (decide (aa<(ab.2.1.length:Int)))=true then ((Zo ab.2.2.2.2 aa).bind fun ae=>(Zo ac aa).bind fun af=>(Zl0 N ae af).bind fun ag=>if (!ag)=true then (some 46) else ((Zbg N ab ac ad) (i64.wrap (aa+1)))) else (some 0)
termination_by structural x=>x
def Zae (N:Nat) (aa:R0) (ab:List Int):Nat→Int→Option Int
  | 0,_=>none
  | ad+1,ac=>if (decide (ac<(aa.2.1.length:Int)))=true then (Zel N aa ac (Zae N aa ab ad) N 0) else (Zbg N aa ab N 0)
termination_by structural x=>x
def Zbf (N:Nat) (aa:R0) (ac:List Int):Nat→Int→Option Int
  | 0,_=>none
  | af+1,ab=>if (decide (ab<(aa.2.1.length:Int)))=true then ((Zo aa.2.2.2.1 ab).bind fun ag=>(Zjz N ag ac).bind fun ad=>(Zo ac ab).bind fun ae=>(Zj1 ad ae).bind fun ah=>if ah=true then (some 4) else ((Zo aa.2.2.2.2 ab).bind fun ai=>if (!decide ((ai.length:Int)=(i64.wrap (ad * ae))))=true then (some 60) else ((Zbf N aa ac af) (i64.wrap (ab+1))))) else (Zae N aa ac N 0)
termination_by structural x=>x
def Su (N:Nat) (aa:R0):Nat→Int→Option Int
  | 0,_=>none
  | ad+1,ab=>if (decide (ab<(aa.2.1.length:Int)))=true then ((Zo aa.2.1 ab).bind fun ae=>(Zj0 N aa.2.1 ae).bind fun af=>Zbe N aa ab (Su N aa ad) N (decide (af<ab)) 0) else ((Ss N aa.2.2.2.1).bind fun ac=>if (!decide (ac=0))=true then (some ac) else ((Zeo N (aa.1,aa.2.1,aa.2.2.1,aa.2.2.2.1,aa.2.2.2.2)).bind fun ag=>Zbf N aa ag N 0))
termination_by structural x=>x
def Zcs (N:Nat) (aa:R0) (ab:Bool):Option Int:=
  if ab=true then (some 60) else (if (decide (1024<(aa.2.1.length:Int)))=true then (some 4) else (Su N aa N 0))
def Zhi (N:Nat) (aa:R0):Option Int:=
  if (!decide ((aa.2.2.1.length:Int)=(aa.2.1.length:Int)))=true then (Zcs N aa true) else (if (!decide ((aa.2.2.2.1.length:Int)=(aa.2.1.length:Int)))=true then (Zcs N aa true) else (Zcs N aa (!decide ((aa.2.2.2.2.length:Int)=(aa.2.1.length:Int)))))
theorem Zze {N ak al am an:Nat} {ao ap aq ar:Option Addr} {col:Zf} {w0:World} {ab:R0} {r:Int} (hm:Zhi N ab=some r) (a0:Sl Za.str col w0 ao ak ab.2.1) (ah:Sl (Za.slice Za.str) col w0 ap al ab.2.2.1) (a1:Sl (Za.slice (Za.int .i64)) col w0 aq am ab.2.2.2.1) (ai:Sl (Za.slice (Za.pair (Za.pair Za.bool (Za.slice (Za.int .u32))) (Za.slice (Za.int .u32)))) col w0 ar an ab.2.2.2.2):
    Calls Tryz.prog 79 #[(.agg #[.string ab.1,.slice ao ab.2.1.length ak,.slice ap ab.2.2.1.length al,.slice aq ab.2.2.2.1.length am,.slice ar ab.2.2.2.2.length an])] w0 (fun e w'=>e= .returned ((.int .i64 r))∧Below w0.heap.size w0 w'):=by
 refine Xi 2 (m:=175) func79 rfl rfl rfl rfl rfl ?_;rw [Zhi.eq_1] at hm;have aa:=St.start col w0;refine go ?_;refine Xd (col:=(Zi col)) 1 rfl ?_;intro av du dv cg ac;refine go ?_;refine Xc ac<|lV _ (T7 underlying22 rfl)<|Yu rfl<|Zk<|Zy<|Zy ?_;replace a0:=a0.keep (Zj.start col w0);replace ah:=ah.keep (Zj.start col w0);replace a1:=a1.keep (Zj.start col w0);replace ai:=ai.keep (Zj.start col w0);replace aa:=aa.grow cg;refine Wp.cutK [1,3,1000000] (fun f bo=>∃ bp bq,Zcs N ab bq=some r∧St w0 (Zi col) bp bo∧Zn 27 1 bp bo av #[.string ab.1,.slice ao ab.2.1.length ak,.slice ap ab.2.2.1.length al,.slice aq ab.2.2.2.1.length am,.slice ar ab.2.2.2.2.length an]∧[38].map f=[.bool bq]) ?_ ?_
 ·intro f bo hJ;obtain ⟨bp,bq,hm,aa,ac,hs⟩:=hJ;rw [Zcs.eq_1] at hm;refine .lL [38] hs ?_;refine Zq hm (fun hb hm=>go ?_) fun hb hm=>go ?_
  ·cases hm;exact ⟨rfl,rfl,aa.below⟩
  refine Zq hm (fun hb hm=>go ?_) fun hb hm=>go ?_
  ·cases hm;exact ⟨rfl,rfl,aa.below⟩
  refine Z8 [1,3,1000000] (fun n f bf=>∃ aj a8 aw,aw=n∧Su N ab aw a8=some r∧St w0 (Zi col) aj bf∧Zn 27 1 aj bf av #[.string ab.1,.slice ao ab.2.1.length ak,.slice ap ab.2.2.1.length al,.slice aq ab.2.2.2.1.length am,.slice ar ab.2.2.2.2.length an]∧[4].map f=[.int .i64 a8]) N ⟨_,0,_,rfl,hm,aa,ac,rfl⟩ ?_;clear hm;intro n f bf hI;obtain ⟨aj,a8,aw,hn,hm,aa,ac,hs⟩:=hI;subst hn;refine .lL [4] hs ?_
  cases aw with
  | zero=>rw [Su.eq_1] at hm;cases hm
  | succ aw=>
   rw [Su.eq_2] at hm;refine go ?_;refine Zq hm (fun hb hm=>go ?_) fun hb hm=>go ?_
   ·refine Wc (col:=aj) (by kernel_rfl) (by kernel_rfl)<|qF ⟨_,_,rfl⟩ ?_;refine qW (fun _ hC=>((ac.atN).nth (q:=1) rfl).gr (hC.bl aj)) ?_;refine qF ⟨_,_,rfl⟩ ?_;refine qW (fun _ hC=>((ac.atN).nth (q:=1) rfl).gr (hC.bl aj)) ?_;refine go ?_;obtain ⟨dw,br,hm⟩:=bZ hm;refine qI br ((a0.ks aa).addr br)<|qW (fun _ hC=>((a0.ks aa).gr (hC.bl aj)).atStr br) ?_;obtain ⟨ch,ci,hm⟩:=bZ hm;refine qc (v:=(.int .i64 ch)) rfl (fun _ hC=>⟨_,_,Zc6 call192 rfl rfl,(Zq2 ci ((a0.ks aa).gr (hC.bl aj)):).mono fun _ _ h=>⟨h.1,hC.trans (.of_below h.2)⟩⟩) ?_;refine go ?_;refine Yf ?_;intro dx hC;replace hC:=hC.bl aj;refine go ?_;replace ac:=ac.gr hC;replace aa:=aa.grow hC;refine Z8 [1,3,4,1000000] (fun n f bs=>∃ af bt a9 ay,ay=n∧Zbe N ab a8 (Su N ab aw) ay bt a9=some r∧St w0 (Zi col) af bs∧Zn 27 1 af bs av #[.string ab.1,.slice ao ab.2.1.length ak,.slice ap ab.2.2.1.length al,.slice aq ab.2.2.2.1.length am,.slice ar ab.2.2.2.2.length an]∧[5,6].map f=[.bool bt,.int .i64 a9]) N ⟨_,_,0,_,rfl,hm,aa,ac,rfl⟩ ?_;clear hm;intro n f bs hI;obtain ⟨af,bt,a9,ay,hn,hm,aa,ac,hs⟩:=hI;subst hn;refine .lL [5,6] hs ?_
    cases ay with
    | zero=>rw [Zbe.eq_1] at hm;cases hm
    | succ ay=>
     rw [Zbe.eq_2] at hm;refine go ?_;refine Xc ac<|Xo rfl ?_;obtain ⟨dy,ag,hm⟩:=bZ hm;refine lI ag ((ah.ks aa).addr ag) ?_;obtain ⟨_,cj,ck⟩:=(ah.ks aa).atN ag;obtain ⟨⟨dz,d0,rfl,d1⟩,_⟩:=cj;refine lW ck.one<|go ?_;refine Zq hm (fun hb hm=>?_) fun hb hm=>go ?_
     ·refine X8<|Zy ?_;refine Wp.cutK [1,3,4,6,1000000] (fun f bu=>∃ bv bw,Zhj a9 (Zbe N ab a8 (Su N ab aw) ay) bw=some r∧St w0 (Zi col) bv bu∧Zn 27 1 bv bu av #[.string ab.1,.slice ao ab.2.1.length ak,.slice ap ab.2.2.1.length al,.slice aq ab.2.2.2.1.length am,.slice ar ab.2.2.2.2.length an]∧[5].map f=[.bool bw]) ?_ ?_
      ·intro f bu hJ;obtain ⟨bv,bw,hm,aa,ac,hs⟩:=hJ;rw [Zhj.eq_1] at hm;refine .lL [5] hs<|go ?_;exact ⟨ay,by omega,rfl,⟨_,_,_,_,rfl,hm,aa,ac,rfl⟩⟩
      refine Zdc<|Wc (col:=af) (by kernel_rfl) (by kernel_rfl)<|go ?_;refine Xv hm (fun bx hm=>go ?_) fun bx hm=>go ?_
      ·refine qv (v:=(.bool true)) rfl (fun _ hC=>Xj (congrArg Value.bool bx) rfl) ?_;refine go ?_;refine Yf ?_;intro d2 hC;replace hC:=hC.bl af;replace ac:=ac.gr hC;replace aa:=aa.grow hC;exact ⟨rfl,_,_,hm,aa,ac,rfl⟩
      refine qF ⟨_,_,rfl⟩ ?_;refine go ?_;refine qW (fun _ hC=>((ac.atN).nth (q:=2) rfl).gr (hC.bl af)) ?_;refine go ?_;refine qI ag ((ah.ks aa).addr ag) ?_;refine go ?_;obtain ⟨_,cl,cn⟩:=(ah.ks aa).atN ag;obtain ⟨⟨d3,d4,rfl,co⟩,_⟩:=cl;refine qW (fun _ hC=>cn.one.gr (hC.bl af)) ?_;refine go ?_;refine qF ⟨_,_,rfl⟩ ?_;refine go ?_;refine qW (fun _ hC=>((ac.atN).nth (q:=2) rfl).gr (hC.bl af)) ?_;refine go ?_;refine qI ag ((ah.ks aa).addr ag) ?_;refine go ?_;obtain ⟨_,cp,cq⟩:=(ah.ks aa).atN ag;obtain ⟨⟨d5,d6,rfl,cb⟩,_⟩:=cp;refine qW (fun _ hC=>cq.one.gr (hC.bl af)) ?_;refine go ?_;obtain ⟨d7,bz,hm⟩:=bZ hm;refine qI bz (cb.addr bz) ?_;refine go ?_;refine qW (fun _ hC=>(cb.gr (hC.bl af)).atStr bz) ?_;refine go ?_;obtain ⟨cc,cr,hm⟩:=bZ hm;refine qc (v:=(.int .i64 cc)) rfl (fun _ hC=>⟨_,_,Zc6 call192 rfl rfl,(Zq2 cr (co.gr (hC.bl af)):).mono fun _ _ h=>⟨h.1,hC.trans (.of_below h.2)⟩⟩) ?_;refine go ?_;refine qv (v:=(.bool (decide (cc<a9)))) rfl (fun _ hC=>Xs (congrArg Value.bool bx) rfl) ?_;refine go ?_;refine Yf ?_;intro d8 hC;replace hC:=hC.bl af;replace ac:=ac.gr hC;replace aa:=aa.grow hC;exact ⟨rfl,_,_,hm,aa,ac,rfl⟩
     refine Zq hm (fun hb hm=>go ?_) fun hb hm=>go ?_
     ·cases hm;exact ⟨rfl,rfl,aa.below⟩
     refine Xc ac<|Xo rfl<|lI ag ((ah.ks aa).addr ag) ?_;obtain ⟨_,cs,ct⟩:=(ah.ks aa).atN ag;obtain ⟨⟨d9,ea,rfl,eb⟩,_⟩:=cs;refine lW ct.one<|go ?_;refine Zq hm (fun hb hm=>go ?_) fun hb hm=>go ?_
     ·cases hm;exact ⟨rfl,rfl,aa.below⟩
     exact ⟨aw,by omega,rfl,⟨_,_,_,rfl,hm,aa,ac,rfl⟩⟩
   refine Xc ac ?_;obtain ⟨ec,cu,hm⟩:=bZ hm;refine Zh (Zq0 cu (a1.ks aa)) ?_;rintro _ cv ⟨rfl,bg⟩;refine ⟨_,rfl,?_⟩;replace bg:Zg aj bf aj cv:=.of_below bg;refine go ?_;replace ac:=ac.gr bg;replace aa:=aa.grow bg;refine Zq hm (fun hb hm=>go ?_) fun hb hm=>go ?_
   ·cases hm;exact ⟨rfl,rfl,aa.below⟩
   refine lV _ (Xa isAgg27 sizeOf27 ac) ?_;obtain ⟨ax,cw,hm⟩:=bZ hm;refine Zh (Zzi 2 cw (a0.ks aa) (ah.ks aa) (a1.ks aa) (ai.ks aa)) ?_;rintro _ ed ⟨ee,bh,bi,rfl,cd,ad⟩;refine ⟨_,rfl,go ?_⟩;replace ac:=ac.gr cd;replace aa:=aa.grow cd;refine Z8 [1,3,8,1000000] (fun n f ba=>∃ ae b0 a2,a2=n∧Zbf N ab ax a2 b0=some r∧St w0 (Zi col) ae ba∧Zn 27 1 ae ba av #[.string ab.1,.slice ao ab.2.1.length ak,.slice ap ab.2.2.1.length al,.slice aq ab.2.2.2.1.length am,.slice ar ab.2.2.2.2.length an]∧Zc (Za.int .i64) 3 2 ae ba bh bi ax∧[9].map f=[.int .i64 b0]) N ⟨_,0,_,rfl,hm,aa,ac,ad,rfl⟩ ?_;clear hm;intro n f ba hI;obtain ⟨ae,b0,a2,hn,hm,aa,ac,ad,hs⟩:=hI;subst hn;refine .lL [9] hs ?_
   cases a2 with
   | zero=>rw [Zbf.eq_1] at hm;cases hm
   | succ a2=>
    rw [Zbf.eq_2] at hm;refine go ?_;refine Zq hm (fun hb hm=>go ?_) fun hb hm=>go ?_
    ·refine Xc ac<|Xo rfl ?_;obtain ⟨ef,b1,hm⟩:=bZ hm;refine lI b1 ((a1.ks aa).addr b1) ?_;obtain ⟨_,cx,cy⟩:=(a1.ks aa).atN b1;obtain ⟨⟨eg,eh,rfl,cz⟩,_⟩:=cx;refine lW cy.one<|Wa rfl ?_;obtain ⟨ei,c0,hm⟩:=bZ hm;refine Zh (Zzf c0 (cz.froz 2) (ad.toSlF (Zl.int .i64))) ?_;rintro _ ce ⟨rfl,bb⟩;refine ⟨_,rfl,?_⟩;replace bb:Zg ae ba ae ce:=.of_below bb;refine go ?_;obtain ⟨ej,a3,hm⟩:=bZ hm;replace ad:=ad.gr bb;refine lI a3 (ad.addr a3)<|lW (ad.atInt a3) ?_;obtain ⟨ek,c1,hm⟩:=bZ hm;refine Zh (Zzh (col:=ae) c1) ?_;rintro _ c2 ⟨rfl,bc⟩;refine ⟨_,rfl,?_⟩;replace bc:Zg ae ce ae c2:=.of_below bc;refine go ?_;replace ac:=(ac.gr bb).gr bc;replace aa:=(aa.grow bb).grow bc;replace ad:=ad.gr bc;refine Zq hm (fun hb hm=>go ?_) fun hb hm=>go ?_
     ·cases hm;exact ⟨rfl,rfl,aa.below⟩
     refine Wc (col:=ae) (by kernel_rfl) (by kernel_rfl)<|qF ⟨_,_,rfl⟩ ?_;refine qW (fun _ hC=>((ac.atN).nth (q:=4) rfl).gr (hC.bl ae)) ?_;refine go ?_;obtain ⟨el,b2,hm⟩:=bZ hm;refine qI b2 ((ai.ks aa).addr b2) ?_;obtain ⟨_,c3,c4⟩:=(ai.ks aa).atN b2;obtain ⟨⟨em,en,rfl,eo⟩,_⟩:=c3;refine qW (fun _ hC=>c4.one.gr (hC.bl ae)) ?_;refine go ?_;refine qI a3 (ad.addr a3)<|qW (fun _ hC=>(ad.gr (hC.bl ae)).atInt a3) ?_;refine go ?_;refine Yf ?_;intro ep hC;replace hC:=hC.bl ae;replace ad:=ad.gr hC;replace ac:=ac.gr hC;replace aa:=aa.grow hC;refine Zq hm (fun hb hm=>go ?_) fun hb hm=>go ?_
     ·cases hm;exact ⟨rfl,rfl,aa.below⟩
     exact ⟨a2,by omega,rfl,⟨_,_,_,rfl,hm,aa,ac,ad,rfl⟩⟩
    refine Z8 [1,3,8,1000000] (fun n f bj=>∃ bk bm az,az=n∧Zae N ab ax az bm=some r∧St w0 (Zi col) bk bj∧Zn 27 1 bk bj av #[.string ab.1,.slice ao ab.2.1.length ak,.slice ap ab.2.2.1.length al,.slice aq ab.2.2.2.1.length am,.slice ar ab.2.2.2.2.length an]∧Zc (Za.int .i64) 3 2 bk bj bh bi ax∧[12].map f=[.int .i64 bm]) N ⟨_,0,_,rfl,hm,aa,ac,ad,rfl⟩ ?_;clear hm;intro n f bj hI;obtain ⟨bk,bm,az,hn,hm,aa,ac,ad,hs⟩:=hI;subst hn;refine .lL [12] hs ?_
    cases az with
    | zero=>rw [Zae.eq_1] at hm;cases hm
    | succ az=>
     rw [Zae.eq_2] at hm;refine go ?_;refine Zq hm (fun hb hm=>go ?_) fun hb hm=>go ?_
     ·refine Z8 [1,12,3,8,1000000] (fun n f bd=>∃ a4 b3 a5,a5=n∧Zel N ab bm (Zae N ab ax az) a5 b3=some r∧St w0 (Zi col) a4 bd∧Zn 27 1 a4 bd av #[.string ab.1,.slice ao ab.2.1.length ak,.slice ap ab.2.2.1.length al,.slice aq ab.2.2.2.1.length am,.slice ar ab.2.2.2.2.length an]∧Zc (Za.int .i64) 3 2 a4 bd bh bi ax∧[13].map f=[.int .i64 b3]) N ⟨_,0,_,rfl,hm,aa,ac,ad,rfl⟩ ?_;clear hm;intro n f bd hI;obtain ⟨a4,b3,a5,hn,hm,aa,ac,ad,hs⟩:=hI;subst hn;refine .lL [13] hs ?_
      cases a5 with
      | zero=>rw [Zel.eq_1] at hm;cases hm
      | succ a5=>
       rw [Zel.eq_2] at hm;refine go ?_;refine Xc ac<|Xo rfl ?_;obtain ⟨eq,a6,hm⟩:=bZ hm;refine lI a6 ((ai.ks aa).addr a6) ?_;obtain ⟨_,c5,c6⟩:=(ai.ks aa).atN a6;obtain ⟨⟨er,es,rfl,et⟩,_⟩:=c5;refine lW c6.one<|go ?_;refine Zq hm (fun hb hm=>go ?_) fun hb hm=>go ?_
       ·refine Xc ac<|Xo rfl<|lI a6 ((ai.ks aa).addr a6) ?_;obtain ⟨_,c7,c8⟩:=(ai.ks aa).atN a6;obtain ⟨⟨eu,ew,rfl,cf⟩,_⟩:=c7;refine lW c8.one<|Xo rfl ?_;obtain ⟨b4,b5,hm⟩:=bZ hm;refine lI b5 (cf.addr b5) ?_;obtain ⟨_,c9,da⟩:=cf.atN b5;obtain ⟨_,_,rfl,db,dc⟩:=Y5 c9;obtain ⟨_,_,rfl,dd,de⟩:=Y5 db;obtain ⟨rfl,_⟩:=dd;obtain ⟨⟨df,dg,rfl,dh⟩,_⟩:=de;obtain ⟨⟨di,dj,rfl,dl⟩,_⟩:=dc;refine lV (.agg #[.bool b4.1.1,.slice df b4.1.2.length dg,.slice di b4.2.length dj]) (Xn isAgg47 sizeOf47 rfl rfl da) ?_;obtain ⟨ey,dm,hm⟩:=bZ hm;refine Zh (Zzg dm dh dl) ?_;rintro _ dn ⟨rfl,be⟩;refine ⟨_,rfl,?_⟩;replace be:Zg a4 bd a4 dn:=.of_below be;refine go ?_;replace ad:=ad.gr be;replace ac:=ac.gr be;replace aa:=aa.grow be;refine Zq hm (fun hb hm=>go ?_) fun hb hm=>go ?_
        ·cases hm;exact ⟨rfl,rfl,aa.below⟩
        exact ⟨a5,by omega,rfl,⟨_,_,_,rfl,hm,aa,ac,ad,rfl⟩⟩
       exact ⟨az,by omega,rfl,⟨_,_,_,rfl,hm,aa,ac,ad,rfl⟩⟩
     refine Z8 [1,3,8,1000000] (fun n f bn=>∃ au b6 a7,a7=n∧Zbg N ab ax a7 b6=some r∧St w0 (Zi col) au bn∧Zn 27 1 au bn av #[.string ab.1,.slice ao ab.2.1.length ak,.slice ap ab.2.2.1.length al,.slice aq ab.2.2.2.1.length am,.slice ar ab.2.2.2.2.length an]∧Zc (Za.int .i64) 3 2 au bn bh bi ax∧[15].map f=[.int .i64 b6]) N ⟨_,0,_,rfl,hm,aa,ac,ad,rfl⟩ ?_;clear hm;intro n f bn hI;obtain ⟨au,b6,a7,hn,hm,aa,ac,ad,hs⟩:=hI;subst hn;refine .lL [15] hs ?_
     cases a7 with
     | zero=>rw [Zbg.eq_1] at hm;cases hm
     | succ a7=>
      rw [Zbg.eq_2] at hm;refine go ?_;refine Zq hm (fun hb hm=>go ?_) fun hb hm=>go ?_
      ·refine Wc (col:=au) (by kernel_rfl) (by kernel_rfl)<|qF ⟨_,_,rfl⟩ ?_;refine qW (fun _ hC=>((ac.atN).nth (q:=4) rfl).gr (hC.bl au)) ?_;refine go ?_;obtain ⟨ez,b7,hm⟩:=bZ hm;refine qI b7 ((ai.ks aa).addr b7) ?_;obtain ⟨_,dp,dq⟩:=(ai.ks aa).atN b7;obtain ⟨⟨e0,e1,rfl,dr⟩,_⟩:=dp;refine qW (fun _ hC=>dq.one.gr (hC.bl au)) ?_;refine go ?_;obtain ⟨e2,b8,hm⟩:=bZ hm;refine qI b8 (ad.addr b8)<|qW (fun _ hC=>(ad.gr (hC.bl au)).atInt b8) ?_;obtain ⟨ds,dt,hm⟩:=bZ hm;refine qc (v:=(.bool ds)) rfl (fun _ hC=>⟨_,_,Zc6 call197 rfl rfl,(Zzj dt (dr.gr (hC.bl au)):).mono fun _ _ h=>⟨h.1,hC.trans (.of_below h.2)⟩⟩) ?_;refine go ?_;refine Yf ?_;intro e3 hC;replace hC:=hC.bl au;refine go ?_;replace ad:=ad.gr hC;replace ac:=ac.gr hC;replace aa:=aa.grow hC;refine Zq hm (fun hb hm=>go ?_) fun hb hm=>go ?_
       ·cases hm;exact ⟨rfl,rfl,aa.below⟩
       exact ⟨a7,by omega,rfl,⟨_,_,_,rfl,hm,aa,ac,ad,rfl⟩⟩
      cases hm;exact ⟨rfl,rfl,aa.below⟩
 refine Wd<|Xc ac ?_;refine go ?_;refine Xv hm (fun b9 hm=>go ?_) fun b9 hm=>go ?_
 ·refine lV (.bool true) (Xj (congrArg Value.bool b9) rfl)<|Yo rfl<|lP 32 rfl rfl<|lP 32 rfl rfl<|lP 32 rfl rfl<|lP 32 rfl rfl<|lP 32 rfl rfl<|lV (.bool true) (Xj rfl rfl)<|Zk ?_;exact ⟨rfl,_,_,hm,aa,ac,rfl⟩
 refine Xh ⟨_,_,rfl⟩ ?_;refine go ?_;refine lW ((ac.atN).nth (q:=3) rfl)<|go ?_;refine lV (.bool (!decide ((ab.2.2.2.1.length:Int)=(ab.2.1.length:Int)))) (Xs (congrArg Value.bool b9) rfl)<|Yo rfl ?_;refine Xv hm (fun ca hm=>go ?_) fun ca hm=>go ?_
 ·refine lV (.bool true) (Xj (congrArg Value.bool ca) rfl)<|Zk ?_;exact ⟨rfl,_,_,hm,aa,ac,rfl⟩
 refine Xh ⟨_,_,rfl⟩ ?_;refine go ?_;refine lW ((ac.atN).nth (q:=4) rfl)<|go ?_;refine lV (.bool (!decide ((ab.2.2.2.2.length:Int)=(ab.2.1.length:Int)))) (Xs (congrArg Value.bool ca) rfl)<|Zk ?_;exact ⟨rfl,_,_,hm,aa,ac,rfl⟩
abbrev Xu:=ByteArray×List ByteArray×List R9×List R2×List (List QV)
instance decMemB:∀ (s:ByteArray) (l:List ByteArray),Decidable (s ∈ l)
 | _,[]=>isFalse (by simp)
 | s,x :: l=>if h:s=x then isTrue (by rw [h];exact List.mem_cons_self) else match decMemB s l with
  | isTrue h2=>isTrue (List.mem_cons_of_mem _ h2)
  | isFalse h2=>isFalse (by rw [List.mem_cons];rintro (h3 | h3) <;> contradiction)
theorem Z2u {α:Type} (l:List α) (k:Nat) (hk:k<l.length):(l.take (k+1)).Nodup↔(l.take k).Nodup∧l[k] ∉ l.take k:=by
 rw [List.take_add_one,List.getElem?_eq_getElem hk,Option.toList_some,List.nodup_append]
 constructor
 ·rintro ⟨h1,_,h3⟩
  exact ⟨h1,fun hm=>h3 _ hm _ (by simp) rfl⟩
 ·rintro ⟨h1,h2⟩
  refine ⟨h1,by simp,fun a ha b hb e=>?_⟩
  rw [List.mem_singleton] at hb
  subst hb;subst e
  exact h2 ha
theorem Zrx (N:Nat) (l:List ByteArray) (hl:l.length<4611686018427387904) (v:Nat) (hv:v<l.length):∀ (n k:Nat),k≤v→v<n+k→l[v] ∉ l.take k→∃ j:Nat,Zen N l l[v] n (k:Int)=some (j:Int)∧j≤v∧(j<v↔l[v] ∈ l.take v)
 | 0,k,h1,h2,_=>by omega
 | n+1,k,h1,h2,h3=>by
  have hk:k<l.length:=by omega
  rw [Zen.eq_2,if_pos (decide_eq_true (by omega)),Z7 hk,Option.bind_some]
  by_cases he:l[k]=l[v]
  ·rw [if_pos (decide_eq_true he)]
   refine ⟨k,rfl,h1,fun h=>?_,fun h=>?_⟩
   ·rw [← he]
    exact List.mem_iff_getElem.2 ⟨k,by rw [List.length_take];omega,by rw [List.getElem_take]⟩
   ·rcases Nat.lt_or_ge k v with h4 | h4
    ·exact h4
    ·have:k=v:=by omega
     subst this;exact absurd h h3
  ·have hkv:k<v:=by
    rcases Nat.lt_or_ge k v with h4 | h4
    ·exact h4
    ·have:k=v:=by omega
     subst this;exact absurd rfl he
   rw [if_neg (by rw [decide_eq_false he];decide),Zt (by omega)]
   have:=Zrx N l hl v hv n (k+1) (by omega) (by omega) (by
    rw [List.take_add_one,List.getElem?_eq_getElem hk,Option.toList_some,List.mem_append,List.mem_singleton]
    rintro (h | h)
    ·exact h3 h
    ·exact he h.symm)
   exact this
theorem Zry {N:Nat} {l:List ByteArray} (hl:l.length<4611686018427387904) {v:Nat} (hv:v<l.length) (hN:l.length<N):∃ j:Nat,Zj0 N l l[v]=some (j:Int)∧(j<v↔l[v] ∈ l.take v):=by
 obtain ⟨j,h1,_,h2⟩:=Zrx N l hl v hv N 0 (by omega) (by omega) (by simp)
 exact ⟨j,h1,h2⟩
theorem Zsj (s:ByteArray):∀ (l:List ByteArray) (k:Nat),∃ j:Int,Ze3 s l k=some j∧(0≤j↔s ∈ l)
 | [],k=>⟨-1,rfl,by simp⟩
 | x :: l,k=>by
  rw [Ze3.eq_2]
  by_cases h:s=x
  ·rw [if_pos (decide_eq_true h)];exact ⟨_,rfl,by simp [h]⟩
  ·rw [if_neg (by rw [decide_eq_false h];decide)]
   obtain ⟨j,h1,h2⟩:=Zsj s l (k+1)
   exact ⟨j,h1,by rw [h2,List.mem_cons];simp [h]⟩
theorem Z0h (s:ByteArray) (l:List ByteArray):Zj8 l s=some (decide (s ∈ l)):=by
 obtain ⟨j,h1,h2⟩:=Zsj s l 0
 rw [Zj8,Zl7,h1,Option.bind_some]
 congr 1
 exact decide_eq_decide.2 h2
theorem Zty:∀ (l:List ByteArray) (seen:List Ri) (S:List ByteArray),S.Nodup→(∀ k,Wh seen k=if k ∈ S then some 1 else none)→Zcc l seen=some (!decide (S++l).Nodup)
 | [],seen,S,h1,h2=>by rw [Zcc.eq_1,List.append_nil,decide_eq_true h1];rfl
 | x :: l,seen,S,h1,h2=>by
  rw [Zcc.eq_2,h2 x]
  by_cases hx:x ∈ S
  ·rw [if_pos hx,if_pos (by decide),decide_eq_false]
   ·rfl
   intro h
   exact (List.nodup_append.1 h).2.2 x hx x List.mem_cons_self rfl
  ·rw [if_neg hx,if_neg (by decide),Option.bind_some,Zty l _ (S++[x]) (by
    rw [List.nodup_append]
    refine ⟨h1,by simp,fun a ha b hb e=>?_⟩
    rw [List.mem_singleton] at hb;subst hb;subst e;exact hx ha) (fun k=>by
    rw [Ztl,h2 k]
    by_cases hk:k=x
    ·subst hk;rw [if_pos rfl,if_pos (by simp)]
    ·rw [if_neg hk]
     by_cases hs:k ∈ S
     ·rw [if_pos hs,if_pos (by simp [hs])]
     ·rw [if_neg hs,if_neg (by simp [hs,hk])])]
   rw [List.append_assoc];rfl
theorem Z2l (l:List ByteArray):Zje l=some (!decide l.Nodup):=by
 rw [Zje,Zty l [] [] .nil (fun k=>by simp [Wh]),List.nil_append]
def T0 (names:List ByteArray) (vals:List R9):Nat→Nat→Int
 | 0,_=>0
 | m+1,v=>if names.getD v ⟨#[]⟩ ∈ names.take v∨¬ (vals.getD v []).Nodup then 40 else if vals.getD v []=[] then 43 else T0 names vals m (v+1)
theorem Zt3 (n:Xu) (hl:n.2.2.1.length=n.2.1.length):∀ (l:List ByteArray) (k:Nat),n.2.1.drop k=l→k≤n.2.1.length→Zaw n l k=some (T0 n.2.1 n.2.2.1 l.length k)
 | [],k,_,_=>rfl
 | x :: l,k,hd,hk=>by
  have hk1:k<n.2.1.length:=by
   rcases Nat.lt_or_ge k n.2.1.length with h | h
   ·exact h
   ·rw [List.drop_eq_nil_of_le h] at hd;cases hd
  have hd2:=List.drop_eq_getElem_cons hk1
  rw [hd] at hd2
  obtain ⟨hx,hl2⟩:=List.cons.inj hd2
  rw [Zaw.eq_2,Z9 (by omega),Int.toNat_natCast,Z0h,Option.bind_some,List.length_cons,T0,Yp hk1,← hx,Yp (by omega)]
  by_cases h1:x ∈ n.2.1.take k
  ·rw [if_pos (decide_eq_true h1),Zgm,if_pos rfl,if_pos (.inl h1)]
  ·rw [if_neg (by rw [decide_eq_false h1];decide),Z7 (by omega),Option.bind_some,Z2l,Option.bind_some,Zgm]
   by_cases h2:(n.2.2.1[k]'(by omega)).Nodup
   ·rw [decide_eq_true h2,if_neg (by decide),if_neg (by simp [h1,h2]),Z7 (by omega),Option.bind_some]
    by_cases h3:n.2.2.1[k]'(by omega)=[]
    ·rw [if_pos (by rw [h3];decide),if_pos h3]
    ·rw [if_neg (by simpa using h3),if_neg h3]
     exact Zt3 n hl l (k+1) hl2.symm (by omega)
   ·rw [decide_eq_false h2,if_pos (by decide),if_pos (.inr h2)]
theorem Z2o (n:Xu) (hl:n.2.2.1.length=n.2.1.length):Zgl n=some (T0 n.2.1 n.2.2.1 n.2.1.length 0):=by
 rw [Zgl];exact Zt3 n hl n.2.1 0 (by simp) (by omega)
theorem Zpg (N:Nat) (n:Xu) (v:Nat) (hv:v<n.2.2.1.length) (hb:n.2.2.1[v].length≤1048576) (hN:1048577<N) (hvb:v<4611686018427387904) (kk:Int→Option Int) (A:Prop) [Decidable A]:∀ (m i:Nat) (a:Bool),i≤n.2.2.1[v].length→n.2.2.1[v].length<m+i→(a=true→A∨¬ (n.2.2.1[v]).Nodup)→(a=false→¬ A∧((n.2.2.1[v]).take i).Nodup)→
  Zbe N n (v:Int) kk m a (i:Int)=if A∨¬ (n.2.2.1[v]).Nodup then some 40 else if n.2.2.1[v]=[] then some 43 else kk ((v:Int)+1)
 | 0,i,a,h1,h2,_,_=>by omega
 | m+1,i,a,h1,h2,h3,h4=>by
  rw [Zbe.eq_2,Z7 hv,Option.bind_some]
  by_cases hi:i<n.2.2.1[v].length
  ·rw [if_pos (decide_eq_true (by omega))]
   cases a with
   | true=>
    rw [if_pos rfl,Zhj,Zt (by omega)]
    exact Zpg N n v hv hb hN hvb kk A m (i+1) true (by omega) (by omega) h3 (fun h=>by cases h)
   | false=>
    obtain ⟨j,j1,j2⟩:=Zry (N:=N) (l:=n.2.2.1[v]) (by omega) hi (by omega)
    have st:=Z2u n.2.2.1[v] i hi
    have h5:=h4 rfl
    rw [if_neg (by decide),Z7 hi,Option.bind_some,j1,Option.bind_some,Zhj,Zt (by omega)]
    have:=Zpg N n v hv hb hN hvb kk A m (i+1) (decide ((j:Int)<(i:Int))) (by omega) (by omega) (fun h=>.inr fun hn=>by
     have h6:=of_decide_eq_true h
     have h7:=(hn.sublist (List.take_sublist (i+1) _))
     exact (st.1 h7).2 (j2.1 (by omega))) (fun h=>⟨h5.1,st.2 ⟨h5.2,fun hm=>by
     have h6:=of_decide_eq_false h
     have:=j2.2 hm
     omega⟩⟩)
    exact this
  ·have hil:i=n.2.2.1[v].length:=by omega
   rw [if_neg (by rw [decide_eq_false (by omega)];decide)]
   cases a with
   | true=>rw [if_pos rfl,if_pos (h3 rfl)]
   | false=>
    obtain ⟨h5,h6⟩:=h4 rfl
    rw [hil,List.take_length] at h6
    have hA:¬ (A∨¬ (n.2.2.1[v]).Nodup):=fun h=>h.elim h5 (fun h=>h h6)
    rw [if_neg (by decide),if_neg hA,Zt (by omega)]
    by_cases h7:n.2.2.1[v]=[]
    ·rw [if_pos (by rw [h7];decide),if_pos h7]
    ·rw [if_neg (by simpa using h7),if_neg h7]
theorem Zwd (N:Nat) (n:Xu) (hl:n.2.2.1.length=n.2.1.length) (hn:n.2.1.length≤1048576) (hb:∀ l ∈ n.2.2.1,l.length≤1048576) (hN:1048577<N):∀ (m fuel v:Nat),m+v=n.2.1.length→m<fuel→
  Su N n fuel (v:Int)=if T0 n.2.1 n.2.2.1 m v=0 then Su N n (fuel - m) (n.2.1.length:Int) else some (T0 n.2.1 n.2.2.1 m v)
 | 0,fuel,v,h1,_=>by
  have:v=n.2.1.length:=by omega
  rw [T0,if_pos rfl,this,Nat.sub_zero]
 | m+1,0,v,h1,h2=>by omega
 | m+1,fuel+1,v,h1,h2=>by
  have hv:v<n.2.1.length:=by omega
  have hv2:v<n.2.2.1.length:=by omega
  obtain ⟨j,j1,j2⟩:=Zry (N:=N) (l:=n.2.1) (by omega) hv (by omega)
  rw [Su.eq_2,if_pos (decide_eq_true (by omega)),Z7 hv,Option.bind_some,j1,Option.bind_some,T0,Yp hv,Yp hv2,show (0:Int)=((0:Nat):Int) from rfl,
   Zpg N n v hv2 (hb _ (List.getElem_mem hv2)) hN (by omega) (Su N n fuel) (n.2.1[v] ∈ n.2.1.take v) N 0 _ (by omega) (by have:=hb _ (List.getElem_mem hv2);omega) (fun h=>.inl (j2.1 (by have:=of_decide_eq_true h;omega))) (fun h=>⟨fun hm=>by have:=of_decide_eq_false h;have:=j2.2 hm;omega,by simp⟩)]
  by_cases h3:n.2.1[v] ∈ n.2.1.take v∨¬ (n.2.2.1[v]).Nodup
  ·rw [if_pos h3,if_pos h3,if_neg (by decide)]
  ·rw [if_neg h3,if_neg h3]
   by_cases h4:n.2.2.1[v]=[]
   ·rw [if_pos h4,if_pos h4,if_neg (by decide)]
   ·rw [if_neg h4,if_neg h4]
    have ih:=Zwd N n hl hn hb hN m fuel (v+1) (by omega) (by omega)
    rw [show ((v+1:Nat):Int)=(v:Int)+1 by omega] at ih
    rw [ih,show fuel+1 - (m+1)=fuel - m by omega]
    rfl
theorem Zt4 {names:List ByteArray} {vals:List R9}:∀ (m v:Nat),T0 names vals m v=0→∀ i,v≤i→i<v+m→vals.getD i []≠[]∧(vals.getD i []).Nodup∧names.getD i ⟨#[]⟩ ∉ names.take i
 | 0,v,_,i,h1,h2=>by omega
 | m+1,v,h,i,h1,h2=>by
  rw [T0] at h
  by_cases h3:names.getD v ⟨#[]⟩ ∈ names.take v∨¬ (vals.getD v []).Nodup
  ·rw [if_pos h3] at h;cases h
  ·rw [if_neg h3] at h
   by_cases h4:vals.getD v []=[]
   ·rw [if_pos h4] at h;cases h
   ·rw [if_neg h4] at h
    rcases Nat.lt_or_ge v i with h5 | h5
    ·exact Zt4 m (v+1) h i (by omega) (by omega)
    ·have:i=v:=by omega
     subst this
     exact ⟨h4,by simpa using (not_or.1 h3).2,(not_or.1 h3).1⟩
def Yh (vals:List R9):List Int→Nat→Nat
 | [],k=>k
 | p :: ps,k=>Yh vals ps (min (k * (vals.getD p.toNat []).length) 1099511627776)
theorem Zpj (vals:List R9):∀ (ps:List Int) (k:Nat),k≤1099511627776→Yh vals ps k≤1099511627776
 | [],k,h=>h
 | p :: ps,k,h=>Zpj vals ps _ (by omega)
theorem Zmb {a b:Nat} (h:a≤1099511627776) (g:b≤1048576):a * b≤1152921504606846976:=by
 have:=Nat.mul_le_mul h g
 simpa using this
theorem Ztv (n:Xu) (hb:∀ l ∈ n.2.2.1,l.length≤1048576):∀ (ps:List Int) (k:Nat),k≤1099511627776→(∀ p ∈ ps,0≤p∧p<(n.2.2.1.length:Int))→Zdt n ps (k:Int)=some (Yh n.2.2.1 ps k:Int)
 | [],k,_,_=>rfl
 | p :: ps,k,hk,hp=>by
  have h1:=hp p List.mem_cons_self
  have h2:p.toNat<n.2.2.1.length:=by omega
  have h3:=hb _ (List.getElem_mem h2)
  have h4:=Zmb hk h3
  rw [Zdt.eq_2,show p=((p.toNat:Nat):Int) by omega,Z7 h2,Option.bind_some,Yh,Int.toNat_natCast,Yp h2,← Int.natCast_mul,Zt (by omega)]
  have ih:=Ztv n hb ps (min (k * n.2.2.1[p.toNat].length) 1099511627776) (by omega) (fun q hq=>hp q (List.mem_cons_of_mem _ hq))
  rw [← ih]
  congr 1
  by_cases h5:1099511627776<k * n.2.2.1[p.toNat].length
  ·rw [if_pos (by omega),Nat.min_eq_right (by omega)];rfl
  ·rw [if_neg (by omega),Nat.min_eq_left (by omega)]
theorem Zw2 (N:Nat) (n:Xu) (hl:n.2.2.1.length≤1048576):∀ (m i:Nat) (out:List Int),i≤n.2.2.1.length→n.2.2.1.length<m+i→out=(n.2.2.1.take i).map (fun l=>(l.length:Int))→Zep N n m out (i:Int)=some (n.2.2.1.map fun l=>(l.length:Int))
 | 0,i,out,h1,h2,_=>by omega
 | m+1,i,out,h1,h2,h3=>by
  rw [Zep.eq_2]
  have lo:out.length=i:=by rw [h3,List.length_map,List.length_take];omega
  by_cases hi:i<n.2.2.1.length
  ·rw [if_pos (decide_eq_true (by omega)),Z7 hi,Option.bind_some,Z9 (by simp only [List.length_singleton,maxLen];omega),Zt (by omega)]
   exact Zw2 N n hl m (i+1) _ (by omega) (by omega) (by rw [h3,List.take_add_one,List.getElem?_eq_getElem hi,Option.toList_some,List.map_append];rfl)
  ·rw [if_neg (by rw [decide_eq_false (by omega)];decide),h3,List.take_of_length_le (by omega)]
theorem Z4k {N:Nat} {n:Xu} (hl:n.2.2.1.length≤1048576) (hN:1048576<N):Zeo N n=some (n.2.2.1.map fun l=>(l.length:Int)):=by
 rw [Zeo]
 exact Zw2 N n hl N 0 [] (by omega) (by omega) (by simp)
theorem Zm2 {vals:List R9} {i:Nat} (h:i<vals.length):Zo (vals.map fun l=>(l.length:Int)) (i:Int)=some (vals[i].length:Int):=by
 rw [Z7 (by rw [List.length_map];exact h),List.getElem_map]
theorem Zn0 (N:Nat) (ps:List Int) (vals:List R9) (hb:∀ l ∈ vals,l.length≤1048576) (hne:∀ l ∈ vals,l≠[]) (hp:∀ p ∈ ps,0≤p∧p<(vals.length:Int)) (hps:ps.length≤1048576):∀ (m i k:Nat),i≤ps.length→ps.length<m+i→k≤1099511627776→
  Zbh N ps (vals.map fun l=>(l.length:Int)) m (k:Int) (i:Int)=some (Yh vals (ps.drop i) k:Int)
 | 0,i,k,h1,h2,_=>by omega
 | m+1,i,k,h1,h2,h3=>by
  rw [Zbh.eq_2]
  by_cases hi:i<ps.length
  ·have h4:=hp _ (List.getElem_mem hi)
   have h5:(ps[i]).toNat<vals.length:=by omega
   have h6:=hb _ (List.getElem_mem h5)
   have h7:0<vals[(ps[i]).toNat].length:=List.length_pos_iff.2 (hne _ (List.getElem_mem h5))
   have h8:=Zmb h3 h6
   rw [if_pos (decide_eq_true (by omega)),Z7 hi,Option.bind_some]
   conv=>lhs;rw [show ps[i]=(((ps[i]).toNat:Nat):Int) by omega]
   rw [Zm2 h5,Option.bind_some,Z9 (by omega),List.drop_eq_getElem_cons hi,Yh,Yp h5]
   have e:i64.wrap (Int.tdiv 1099511627776 (vals[(ps[i]).toNat].length:Int))=((1099511627776 / vals[(ps[i]).toNat].length:Nat):Int):=by
    rw [Int.tdiv_eq_ediv_of_nonneg (by decide),show (1099511627776:Int)=((1099511627776:Nat):Int) from rfl,← Int.natCast_ediv]
    refine Zt ⟨by have:=Int.natCast_nonneg (1099511627776 / vals[(ps[i]).toNat].length);omega,?_⟩
    have:=Nat.div_le_self 1099511627776 vals[(ps[i]).toNat].length
    omega
   rw [e]
   have cmp:1099511627776 / vals[(ps[i]).toNat].length<k↔1099511627776<k * vals[(ps[i]).toNat].length:=Nat.div_lt_iff_lt_mul h7
   by_cases h9:1099511627776<k * vals[(ps[i]).toNat].length
   ·rw [if_pos (decide_eq_true (Int.ofNat_lt.2 (cmp.2 h9))),Zhk,Zt (by omega),Nat.min_eq_right (by omega)]
    exact Zn0 N ps vals hb hne hp hps m (i+1) 1099511627776 (by omega) (by omega) (by omega)
   ·rw [if_neg (by rw [decide_eq_false (fun h=>h9 (cmp.1 (Int.ofNat_lt.1 h)))];decide),Zhk,← Int.natCast_mul,Zt (by omega),Zt (by omega),Nat.min_eq_left (by omega)]
    exact Zn0 N ps vals hb hne hp hps m (i+1) _ (by omega) (by omega) (by omega)
  ·rw [if_neg (by rw [decide_eq_false (by omega)];decide),List.drop_eq_nil_of_le (by omega),Yh]
theorem Zra (N:Nat) (ps:List Int) (vals:List R9) (hb:∀ l ∈ vals,l.length≤1048576) (hne:∀ l ∈ vals,l≠[]) (hp:∀ p ∈ ps,0≤p∧p<(vals.length:Int)) (hps:ps.length≤1048576) (hN:1048577<N):∀ (m i:Nat),i≤ps.length→ps.length<m+i→
  Zem N ps (vals.map fun l=>(l.length:Int)) m (i:Int)=some (Yh vals ps 1:Int)
 | 0,i,h1,h2=>by omega
 | m+1,i,h1,h2=>by
  rw [Zem.eq_2]
  by_cases hi:i<ps.length
  ·have h4:=hp _ (List.getElem_mem hi)
   have h5:(ps[i]).toNat<vals.length:=by omega
   have h7:0<vals[(ps[i]).toNat].length:=List.length_pos_iff.2 (hne _ (List.getElem_mem h5))
   rw [if_pos (decide_eq_true (by omega)),Z7 hi,Option.bind_some]
   conv=>lhs;rw [show ps[i]=(((ps[i]).toNat:Nat):Int) by omega]
   rw [Zm2 h5,Option.bind_some,if_neg (by rw [decide_eq_false (by omega)];decide),Zt (by omega)]
   exact Zra N ps vals hb hne hp hps hN m (i+1) (by omega) (by omega)
  ·rw [if_neg (by rw [decide_eq_false (by omega)];decide)]
   exact Zn0 N ps vals hb hne hp hps N 0 1 (by omega) (by omega) (by omega)
theorem Z0d {N:Nat} {ps:List Int} {vals:List R9} (hb:∀ l ∈ vals,l.length≤1048576) (hne:∀ l ∈ vals,l≠[]) (hp:∀ p ∈ ps,0≤p∧p<(vals.length:Int)) (hps:ps.length≤1048576) (hN:1048577<N):Zjz N ps (vals.map fun l=>(l.length:Int))=some (Yh vals ps 1:Int):=by
 rw [Zjz]
 exact Zra N ps vals hb hne hp hps hN N 0 (by omega) (by omega)
theorem Z23 {r c:Nat} (hc:0<c):Zj1 (r:Int) (c:Int)=some (decide (65536<r * c)):=by
 have e:i64.wrap (Int.tdiv 65536 (c:Int))=((65536 / c:Nat):Int):=by
  rw [Int.tdiv_eq_ediv_of_nonneg (by decide),show (65536:Int)=((65536:Nat):Int) from rfl,← Int.natCast_ediv]
  refine Zt ⟨by have:=Int.natCast_nonneg (65536 / c);omega,?_⟩
  have:=Nat.div_le_self 65536 c
  omega
 rw [Zj1,if_pos (decide_eq_true (by omega)),Z9 (by omega),e,Zj2]
 congr 1
 refine decide_eq_decide.2 ?_
 rw [Int.ofNat_lt]
 exact Nat.div_lt_iff_lt_mul hc
def T9 (vals:List R9) (P:List R2) (T:List (List QV)):Nat→Nat→Int
 | 0,_=>0
 | m+1,v=>if 65536<Yh vals (P.getD v []) 1 * (vals.getD v []).length then 4 else if Yh vals (P.getD v []) 1 * (vals.getD v []).length≠(T.getD v []).length then 60 else T9 vals P T m (v+1)
structure Ur (n:Xu) (W:Nat):Prop where
 nm:n.2.1.length≤1048575
 vl:∀ l ∈ n.2.2.1,l.length≤1048576
 pn:Zky n.2.2.2.1
 tl:∀ t ∈ n.2.2.2.2,t.length≤1048576
 tq:∀ t ∈ n.2.2.2.2,X9 t≤W
 lim:∀ t ∈ n.2.2.2.2,∀ x ∈ t,W2 x
structure Tc (n:Xu):Prop where
 v:n.2.2.1.length=n.2.1.length
 p:n.2.2.2.1.length=n.2.1.length
 t:n.2.2.2.2.length=n.2.1.length
 i:Ul n.2.2.2.1.length n.2.2.2.1=true
 ne:∀ l ∈ n.2.2.1,l≠[]
theorem Tc.par {n:Xu} (h:Tc n) {ps:List Int} (hp:ps ∈ n.2.2.2.1):∀ p ∈ ps,0≤p∧p<(n.2.2.1.length:Int):=by
 have:=Zsk h.i ps hp
 rw [h.p] at this
 rw [h.v];exact this
theorem Ztw {N W:Nat} {n:Xu} (hs:Ur n W) (he:Tc n):∀ (l:List (List QV)) (k:Nat),n.2.2.2.2.drop k=l→k≤n.2.1.length→Zau N n l k=if T9 n.2.2.1 n.2.2.2.1 n.2.2.2.2 l.length k=0 then Zav N n n.2.2.2.2 else some (T9 n.2.2.1 n.2.2.2.1 n.2.2.2.2 l.length k)
 | [],k,_,_=>by rw [Zau.eq_1];rfl
 | t :: l,k,hd,hk=>by
  have ht:=he.t;have hv:=he.v;have hp:=he.p
  have hk1:k<n.2.2.2.2.length:=by
   rcases Nat.lt_or_ge k n.2.2.2.2.length with h | h
   ·exact h
   ·rw [List.drop_eq_nil_of_le h] at hd;cases hd
  have hd2:=List.drop_eq_getElem_cons hk1
  rw [hd] at hd2
  obtain ⟨hx,hl2⟩:=List.cons.inj hd2
  have kv:k<n.2.2.1.length:=by omega
  have kp:k<n.2.2.2.1.length:=by omega
  have r1:=Zpj n.2.2.1 (n.2.2.2.1[k]) 1 (by omega)
  have c1:=hs.vl _ (List.getElem_mem kv)
  have r2:=Zmb r1 c1
  have hrow:Zgq n (k:Int)=some (Yh n.2.2.1 n.2.2.2.1[k] 1:Int):=by
   rw [Zgq,Z7 kp,Option.bind_some]
   exact Ztv n hs.vl _ 1 (by omega) (he.par (List.getElem_mem kp))
  rw [Zau.eq_2]
  have hrow':Zgq (n.1,n.2.1,n.2.2.1,n.2.2.2.1,n.2.2.2.2) (k:Int)=some (Yh n.2.2.1 n.2.2.2.1[k] 1:Int):=hrow
  rw [hrow',Option.bind_some,Z7 kv,Option.bind_some,← Int.natCast_mul,Zt (by omega),List.length_cons,T9,Yp kp,Yp kv,Yp hk1,← hx]
  generalize Yh n.2.2.1 n.2.2.2.1[k] 1 * n.2.2.1[k].length=rc at *
  by_cases h1:65536<rc
  ·rw [if_pos (decide_eq_true (by omega)),if_pos h1,if_neg (by decide)]
  ·rw [if_neg (by rw [decide_eq_false (by omega)];decide),if_neg h1]
   by_cases h2:rc=t.length
   ·rw [if_neg (by rw [decide_eq_true (by omega)];decide),if_neg (show ¬ rc≠t.length from fun h=>h h2)]
    exact Ztw hs he l (k+1) hl2.symm (by omega)
   ·rw [if_pos (by rw [decide_eq_false (by omega)];decide),if_pos h2,if_neg (by decide)]
theorem Zwr {N W:Nat} {n:Xu} (hN:1048577<N) (hs:Ur n W) (he:Tc n):∀ (m fuel v:Nat),m+v=n.2.1.length→m<fuel→
  Zbf N n (n.2.2.1.map fun l=>(l.length:Int)) fuel (v:Int)=if T9 n.2.2.1 n.2.2.2.1 n.2.2.2.2 m v=0 then Zae N n (n.2.2.1.map fun l=>(l.length:Int)) N 0 else some (T9 n.2.2.1 n.2.2.2.1 n.2.2.2.2 m v)
 | 0,0,v,_,h=>by omega
 | 0,fuel+1,v,h1,_=>by
  rw [Zbf.eq_2,if_neg (by rw [decide_eq_false (by omega)];decide)];rfl
 | m+1,0,v,_,h=>by omega
 | m+1,fuel+1,v,h1,h2=>by
  have ht:=he.t;have hv:=he.v;have hp:=he.p;have hnm:=hs.nm
  have kt:v<n.2.2.2.2.length:=by omega
  have kv:v<n.2.2.1.length:=by omega
  have kp:v<n.2.2.2.1.length:=by omega
  have r1:=Zpj n.2.2.1 (n.2.2.2.1[v]) 1 (by omega)
  have c1:=hs.vl _ (List.getElem_mem kv)
  have c0:0<n.2.2.1[v].length:=List.length_pos_iff.2 (he.ne _ (List.getElem_mem kv))
  have r2:=Zmb r1 c1
  rw [Zbf.eq_2,if_pos (decide_eq_true (by omega)),Z7 kp,Option.bind_some,Z0d hs.vl he.ne (he.par (List.getElem_mem kp)) (hs.pn.ls _ (List.getElem_mem kp)) hN,Option.bind_some,Zm2 kv,Option.bind_some,Z23 c0,Option.bind_some,T9,Yp kp,Yp kv,Yp kt,← Int.natCast_mul,Zt (by omega)]
  generalize Yh n.2.2.1 n.2.2.2.1[v] 1 * n.2.2.1[v].length=rc at *
  by_cases h3:65536<rc
  ·rw [if_pos (decide_eq_true (by omega)),if_pos h3,if_neg (by decide)]
  ·rw [if_neg (by rw [decide_eq_false (by omega)];decide),if_neg h3,Z7 kt,Option.bind_some]
   by_cases h4:rc=n.2.2.2.2[v].length
   ·rw [if_neg (by rw [decide_eq_true (by omega)];decide),if_neg (show ¬ rc≠n.2.2.2.2[v].length from fun h=>h h4),Zt (by omega)]
    exact Zwr hN hs he m fuel (v+1) (by omega) (by omega)
   ·rw [if_pos (by rw [decide_eq_false (by omega)];decide),if_pos h4,if_neg (by decide)]
def Vt (x:QV):Bool:=decide (Z6 x<0)||decide (1<Z6 x)
theorem Zuv {a b:Rat}:0<Vu a b↔b<a:=by
 rw [Vu]
 by_cases h:a<b
 ·rw [if_pos h]
  constructor
  ·intro h2;omega
  ·intro h2;exact absurd (Rat.le_of_lt h2) (Rat.not_le.2 h)
 ·rw [if_neg h]
  by_cases h2:b<a
  ·simp [h2]
  ·simp [h2]
theorem Zmj {a b:Rat}:Vu a b=0↔a=b:=by
 rw [Vu]
 constructor
 ·intro h
  split at h
  ·cases h
  ·split at h
   ·cases h
   ·rename_i h1 h2
    exact Rat.le_antisymm (Rat.not_lt.1 h2) (Rat.not_lt.1 h1)
 ·rintro rfl
  rw [if_neg Rat.lt_irrefl,if_neg Rat.lt_irrefl]
theorem Ztt {N:Nat} (hr:Xe N 8):Zgn N=some (Zm 1):=by
 rw [Zgn,Z1c (by omega) (by omega) (hr.mono (by omega)),Option.bind_some,if_neg (by decide)]
 have:((1:Int):Rat) / ((1:Int):Rat)=1:=div_one _
 rw [this]
theorem Zwh {N:Nat} (hr:Xe N 8):Zhl N=some (Zm 1):=by
 rw [Zhl,Zw4 hr];rfl
theorem Zm0:RV 1 (Zm 1):=Y2 (by rw [Zo5];omega)
theorem Z2k {N k:Nat} {x:QV} (hx:RV k x) (hr:Xe N (2 * k+16)):Zgo N x=some (Vt x):=by
 have h2:Zb6 N ((x.1.1,x.1.2),x.2)=some (Qh (Z6 x)):=Zsc hx (hr.mono (by omega))
 rw [Zgo,h2,Option.bind_some,Vt]
 by_cases h:Z6 x<0
 ·rw [if_pos (decide_eq_true (Zmm.2 h)),Zgp,decide_eq_true h,Bool.true_or]
 ·rw [if_neg (by rw [decide_eq_false (fun h3=>h (Zmm.1 h3))];decide),decide_eq_false h,Bool.false_or,Ztt (hr.mono (by omega)),Option.bind_some,Zn7 (a:=((x.1.1,x.1.2),x.2)) (b:=Zm 1) hx Zm0 (hr.mono (by omega)),Option.bind_some,Zgp,Yr]
  congr 1
  exact decide_eq_decide.2 Zuv
theorem Z37 {N k:Nat} {x:QV} (hx:RV k x) (hr:Xe N (2 * k+16)):Zhm N x=some (Vt x):=by
 have h2:Zhc N ((x.1.1,x.1.2),x.2)=some (Qh (Z6 x)):=Z33 hx (hr.mono (by omega))
 rw [Zhm,h2,Option.bind_some,Vt]
 by_cases h:Z6 x<0
 ·rw [if_pos (decide_eq_true (Zmm.2 h)),Zhn,decide_eq_true h,Bool.true_or]
 ·rw [if_neg (by rw [decide_eq_false (fun h3=>h (Zmm.1 h3))];decide),decide_eq_false h,Bool.false_or,Zwh (hr.mono (by omega)),Option.bind_some,Zmy (a:=((x.1.1,x.1.2),x.2)) (b:=Zm 1) hx Zm0 (hr.mono (by omega)),Option.bind_some,Zhn,Yr]
  congr 1
  exact decide_eq_decide.2 Zuv
def V5 (x:QV):QV:=if Zb x.2=0 then (x.1,[1]) else x
theorem Zrz {x:QV} (h:W2 x):W2 (V5 x):=by
 rw [V5];split
 ·exact ⟨h.1,.cons (by decide) .nil⟩
 ·exact h
theorem Zr0 (x:QV):Z6 (V5 x)=Z6 x:=by
 rw [V5];split
 ·rename_i h
  rw [Z6,Z6]
  show mkRat (Zr x.1) (Xx [1])=mkRat (Zr x.1) (Xx x.2)
  rw [Xx,Xx,if_pos h]
  congr 1
 ·rfl
theorem Z05 (x:QV):Vt (V5 x)=Vt x:=by rw [Vt,Vt,Zr0]
theorem Z04 (x:QV):max (V5 x).1.2.length (V5 x).2.length≤max x.1.2.length x.2.length+1:=by
 rw [V5];split
 ·show max x.1.2.length [(1:Int)].length≤_
  simp only [List.length_singleton];omega
 ·omega
theorem Zo3:∀ l:List QV,2 * l.length≤X9 l
 | []=>by simp [X9]
 | a :: l=>by rw [X9,List.length_cons];have:=Zo3 l;omega
theorem Zo2:∀ l:List QV,X9 (l.map V5)≤X9 l+l.length
 | []=>by simp [X9]
 | a :: l=>by
  rw [List.map_cons,X9,X9,List.length_cons]
  have:=Zo2 l;have:=Z04 a;omega
theorem Zuw (a b:List QV):X9 (a++b)=X9 a+X9 b:=by
 induction a with
 | nil=>simp [X9]
 | cons x a ih=>rw [List.cons_append,X9,X9,ih];omega
theorem Zo4 (l:List QV) (k:Nat):X9 (l.take k)≤X9 l:=by
 have:=Zuw (l.take k) (l.drop k)
 rw [List.take_append_drop] at this;omega
theorem Zo1 (l:List QV) (k:Nat):X9 (l.drop k)≤X9 l:=by
 have:=Zuw (l.take k) (l.drop k)
 rw [List.take_append_drop] at this;omega
theorem Zuy {l:List QV} {x:QV} (h:x ∈ l):max x.1.2.length x.2.length≤X9 l:=by
 induction l with
 | nil=>simp at h
 | cons y l ih=>
  rw [X9]
  rcases List.mem_cons.1 h with rfl | h
  ·omega
  ·have:=ih h;omega
theorem Z08 {N k:Nat} {x:QV} (h:W2 x) (hk:max x.1.2.length x.2.length≤k) (hr:Xe N k):Zgi N x=some (V5 x):=by
 obtain ⟨r1,r2⟩:=hr
 rw [Zgi,Zot h.2 (by omega) (by omega),Option.bind_some,V5]
 by_cases h0:Zb x.2=0
 ·rw [h0,Wz,if_pos (by decide),if_pos rfl,Zkg (by decide) (by omega),Option.bind_some,Zgj,show (1:Int).toNat=1 from rfl,W8]
 ·have:=Tu h0
  rw [if_neg (by rw [decide_eq_false (by omega)];decide),if_neg h0,Zgj]
theorem Zr5 {N W:Nat} (hr:Xe N W):∀ (l out:List QV),(∀ x ∈ l,W2 x)→X9 l≤W→out.length+l.length≤1048576→Zcb N l out=some (out++l.map V5)
 | [],out,_,_,_=>by rw [Zcb.eq_1];simp
 | x :: l,out,hl,hq,hlen=>by
  rw [X9] at hq
  rw [List.length_cons] at hlen
  have h1:Zgi N ((x.1.1,x.1.2),x.2)=some (V5 x):=Z08 (x:=x) (hl x List.mem_cons_self) (k:=W) (by omega) hr
  rw [Zcb.eq_2,h1,Option.bind_some,Z9 (by simp only [List.length_singleton,maxLen];omega),Zr5 hr l _ (fun y hy=>hl y (List.mem_cons_of_mem _ hy)) (by omega) (by simp only [List.length_append,List.length_singleton];omega)]
  simp
theorem Zr6 {N W:Nat} {l:List QV} (hr:Xe N W) (hl:∀ x ∈ l,W2 x) (hq:X9 l≤W) (hlen:l.length≤1048576):Zgk N l=some (l.map V5):=by
 rw [Zgk,Z9 (by simp only [maxLen];omega),Zr5 hr l [] hl hq (by simpa using hlen),List.nil_append]
theorem Zsh {N W:Nat} (hr:Xe N (2 * W+16)):∀ (l:List QV) (k:Nat),(∀ x ∈ l,W2 x)→X9 l≤W→∃ j:Int,Ze2 N l k=some j∧(0≤j↔l.any Vt=true)
 | [],k,_,_=>⟨-1,rfl,by simp⟩
 | x :: l,k,hl,hq=>by
  rw [X9] at hq
  have hx:=hl x List.mem_cons_self
  have h1:Zgo N ((x.1.1,x.1.2),x.2)=some (Vt x):=Z2k (x:=x) (Zda hx.1 hx.2) (hr.mono (by omega))
  rw [Ze2.eq_2,h1,Option.bind_some,List.any_cons]
  cases Vt x with
  | true=>rw [if_pos rfl];exact ⟨_,rfl,by simp⟩
  | false=>
   rw [if_neg (by decide)]
   obtain ⟨j,h1,h2⟩:=Zsh hr l (k+1) (fun y hy=>hl y (List.mem_cons_of_mem _ hy)) (by omega)
   exact ⟨j,h1,by rw [h2];simp⟩
def Zdi (T:List (List QV)):Bool:=T.any fun t=>t.any Vt
theorem Zxz (l:List QV):(l.map V5).any Vt=l.any Vt:=by
 induction l with
 | nil=>rfl
 | cons x l ih=>rw [List.map_cons,List.any_cons,List.any_cons,ih,Z05]
theorem Ztj {N W:Nat} {n:Xu} (hr:Xe N (4 * W+16)):∀ l:List (List QV),(∀ t ∈ l,t.length≤1048576∧X9 t≤W∧∀ x ∈ t,W2 x)→Zav N n l=if Zdi l=true then some 45 else Zca N n n.2.2.2.2 0
 | [],_=>by rw [Zav.eq_1];rfl
 | t :: l,h=>by
  obtain ⟨h1,h2,h3⟩:=h t List.mem_cons_self
  have hp:=Zo3 t
  have hf:=Zo2 t
  obtain ⟨j,j1,j2⟩:=Zsh (N:=N) (W:=2 * W) (hr.mono (by omega)) (t.map V5) 0 (fun x hx=>by
   obtain ⟨y,hy,rfl⟩:=List.mem_map.1 hx
   exact Zrz (h3 y hy)) (by omega)
  rw [Zav.eq_2,Zr6 (W:=W) (hr.mono (by omega)) h3 h2 h1,Option.bind_some,Zl5,Zl6,j1,Option.bind_some,Option.bind_some,Zdi,List.any_cons]
  rw [Zxz] at j2
  by_cases ho:t.any Vt=true
  ·rw [if_pos (decide_eq_true (j2.2 ho)),ho,Bool.true_or,if_pos rfl]
  ·rw [if_neg (by rw [decide_eq_false (fun h=>ho (j2.1 h))];decide),Bool.eq_false_iff.2 ho,Bool.false_or]
   exact Ztj hr l fun x hx=>h x (List.mem_cons_of_mem _ hx)
theorem Zvv {N W:Nat} {n:Xu} (sz:List Int) (hr:Xe N (4 * W+16)) {v:Nat} (hv:v<n.2.2.2.2.length) (hvs:v<1048576) (h1:n.2.2.2.2[v].length≤1048576) (h2:X9 n.2.2.2.2[v]≤W) (h3:∀ x ∈ n.2.2.2.2[v],W2 x) (kk:Int→Option Int):∀ (m i:Nat),i≤n.2.2.2.2[v].length→n.2.2.2.2[v].length<m+i→
  Zel N n (v:Int) kk m (i:Int)=if ((n.2.2.2.2[v]).drop i).any Vt=true then some 45 else kk ((v:Int)+1)
 | 0,i,g1,g2=>by omega
 | m+1,i,g1,g2=>by
  rw [Zel.eq_2,Z7 hv,Option.bind_some]
  by_cases hi:i<n.2.2.2.2[v].length
  ·have hx:=h3 _ (List.getElem_mem hi)
   have hm:=Zuy (List.getElem_mem hi)
   have e:Zhm N (((n.2.2.2.2[v][i]).1.1,(n.2.2.2.2[v][i]).1.2),(n.2.2.2.2[v][i]).2)=some (Vt n.2.2.2.2[v][i]):=Z37 (x:=n.2.2.2.2[v][i]) (Zda hx.1 hx.2) (hr.mono (by omega))
   rw [if_pos (decide_eq_true (by omega)),Z7 hi,Option.bind_some,e,Option.bind_some,List.drop_eq_getElem_cons hi,List.any_cons]
   cases Vt n.2.2.2.2[v][i] with
   | true=>rw [if_pos rfl,Bool.true_or,if_pos rfl]
   | false=>
    rw [if_neg (by decide),Bool.false_or,Zt (by omega)]
    exact Zvv sz hr hv hvs h1 h2 h3 kk m (i+1) (by omega) (by omega)
  ·rw [if_neg (by rw [decide_eq_false (by omega)];decide),List.drop_eq_nil_of_le (by omega),List.any_nil,if_neg (by decide),Zt (by omega)]
theorem Zvu {N W:Nat} {n:Xu} (sz:List Int) (hs:Ur n W) (he:n.2.2.2.2.length=n.2.1.length) (hr:Xe N (4 * W+16)) (hN:1048577<N):∀ (m fuel v:Nat),m+v=n.2.1.length→m<fuel→
  Zae N n sz fuel (v:Int)=if Zdi (n.2.2.2.2.drop v)=true then some 45 else Zbg N n sz N 0
 | 0,0,v,_,h=>by omega
 | 0,fuel+1,v,h1,_=>by
  rw [Zae.eq_2,if_neg (by rw [decide_eq_false (by omega)];decide),List.drop_eq_nil_of_le (by omega)];rfl
 | m+1,0,v,_,h=>by omega
 | m+1,fuel+1,v,h1,h2=>by
  have hv:v<n.2.2.2.2.length:=by omega
  have hnm:=hs.nm
  have hm:=List.getElem_mem hv
  rw [Zae.eq_2,if_pos (decide_eq_true (by omega)),show (0:Int)=((0:Nat):Int) from rfl,Zvv sz hr hv (by omega) (hs.tl _ hm) (hs.tq _ hm) (hs.lim _ hm) _ N 0 (by omega) (by have:=hs.tl _ hm;omega),List.drop_zero,List.drop_eq_getElem_cons hv,Zdi,List.any_cons]
  cases n.2.2.2.2[v].any Vt with
  | true=>rw [if_pos rfl,Bool.true_or,if_pos rfl]
  | false=>
   rw [if_neg (by decide),Bool.false_or]
   exact Zvu sz hs he hr hN m fuel (v+1) (by omega) (by omega)
def T4 (c:Nat):Nat→List QV→Bool
 | 0,_=>true
 | m+1,l=>decide (Vf (l.take c)=1)&&T4 c m (l.drop c)
def Ziw (c:Nat):Nat→List QV→List (List QV)
 | 0,_=>[]
 | m+1,l=>l.take c :: Ziw c m (l.drop c)
theorem Zrb (N:Nat) (l:List QV) (c:Nat) (hc:0<c) (hl:l.length≤1048576) (hcs:c≤1048576):∀ (m fuel i:Nat),i+m * c=l.length→m<fuel→Zc0 N l (c:Int) fuel (i:Int)=some (Ziw c m (l.drop i))
 | 0,0,i,_,h=>by omega
 | 0,fuel+1,i,h1,_=>by
  rw [Zc0.eq_2,if_neg (by rw [decide_eq_false (by omega)];decide)];rfl
 | m+1,0,i,_,h=>by omega
 | m+1,fuel+1,i,h1,h2=>by
  have h3:i+c+m * c=l.length:=by rw [Nat.add_mul,Nat.one_mul] at h1;omega
  have e:(if ((l.drop i).length:Int)<(c:Int) then ((l.drop i).length:Int) else (c:Int))=(c:Int):=by
   rw [List.length_drop]
   by_cases h:((l.length - i:Nat):Int)<(c:Int)
   ·omega
   ·rw [if_neg h]
  rw [Zc0.eq_2,if_pos (decide_eq_true (by omega)),Int.toNat_natCast,e,Zt (by omega),Z9 (by omega),Z9 (by omega),show (i:Int)+(c:Int)=((i+c:Nat):Int) by omega,Zrb N l c hc hl hcs m fuel (i+c) (by omega) (by omega),Option.bind_some,Int.toNat_natCast,Ziw,List.drop_take,show i+c - i=c by omega,List.drop_drop]
theorem Z28 (l:List QV):Vf (l.map V5)=Vf l:=by
 rw [Vf,Vf,List.map_map]
 congr 1
 exact List.map_congr_left fun x _=>Zr0 x
theorem Zue (c:Nat):∀ (m:Nat) (l:List QV),T4 c m (l.map V5)=T4 c m l
 | 0,l=>rfl
 | m+1,l=>by rw [T4,T4,← List.map_take,← List.map_drop,Z28,Zue c m]
theorem Zt2 {N W:Nat} (hr:Xe N (4 * W+40)) (c:Nat) (b:Bool):∀ (m:Nat) (l:List QV),(∀ x ∈ l,W2 x)→X9 l≤W→Zdu N (Ziw c m l) b=some (T4 c m l)
 | 0,l,_,_=>rfl
 | m+1,l,hl,hq=>by
  have ht:=Zo4 l c
  have hd:=Zo1 l c
  obtain ⟨s1,s2⟩:=Zob (N:=N) (l:=l.take c) (fun x hx=>hl x (List.mem_of_mem_take hx)) (hr.mono (by omega))
  rw [Ziw,Zdu.eq_2,s1,Option.bind_some,Ztt (hr.mono (by omega)),Option.bind_some,Zn7 (a:=Zm _) (b:=Zm 1) (Y2 s2) Zm0 (hr.mono (by omega)),Option.bind_some,Yr,Yr,T4]
  by_cases h:Vf (l.take c)=1
  ·rw [if_neg (by rw [Zmj.2 h];decide),decide_eq_true h,Bool.true_and]
   exact Zt2 hr c b m _ (fun x hx=>hl x (List.mem_of_mem_drop hx)) (by omega)
  ·rw [if_pos (by rw [decide_eq_false (fun h2=>h (Zmj.1 h2))];decide),decide_eq_false h,Bool.false_and];rfl
theorem Z2m {N W c m:Nat} {l:List QV} (hr:Xe N (4 * W+40)) (hl:∀ x ∈ l,W2 x) (hq:X9 l≤W) (hc:0<c) (hcs:c≤1048576) (hll:l.length≤1048576) (hm:m * c=l.length) (hN:1048577<N):Zjf N l (c:Int)=some (T4 c m l):=by
 have hmc:m≤l.length:=by rw [← hm];exact Nat.le_mul_of_pos_right m hc
 rw [Zjf,Zl2,if_neg (by rw [decide_eq_false (by omega)];decide),Zl4,Zl3,show (0:Int)=((0:Nat):Int) from rfl,Zrb N l c hc hll hcs m N 0 (by omega) (by omega),Option.bind_some,List.drop_zero]
 exact Zt2 hr c false m l hl hq
theorem Zwx {N W c:Nat} {l:List QV} (hr:Xe N (4 * W+40)) (hl:∀ x ∈ l,W2 x) (hq:X9 l≤W) (hc:0<c) (hcs:c≤1048576) (hll:l.length≤1048576) (hN:1048577<N):∀ (m fuel i:Nat),i+m * c=l.length→m<fuel→Zct N l (c:Int) fuel (i:Int)=some (T4 c m (l.drop i))
 | 0,0,i,_,h=>by omega
 | 0,fuel+1,i,h1,_=>by
  rw [Zct.eq_2,if_neg (by rw [decide_eq_false (by omega)];decide)];rfl
 | m+1,0,i,_,h=>by omega
 | m+1,fuel+1,i,h1,h2=>by
  have h3:i+c+m * c=l.length:=by rw [Nat.add_mul,Nat.one_mul] at h1;omega
  have ht:=Zo4 (l.drop i) c
  have hd:=Zo1 l i
  have hlim:∀ x ∈ (l.drop i).take c,W2 x:=fun x hx=>hl x (List.mem_of_mem_drop (List.mem_of_mem_take hx))
  obtain ⟨_,s2⟩:=Zob (N:=N) (l:=(l.drop i).take c) hlim (hr.mono (by omega))
  have hlen:((l.drop i).take c).length≤1048576:=by rw [List.length_take,List.length_drop];omega
  rw [Zct.eq_2,if_pos (decide_eq_true (by omega)),Zt (by omega),Z9 (by omega),show (i:Int)+(c:Int)=((i+c:Nat):Int) by omega,Int.toNat_natCast,Int.toNat_natCast,List.drop_take,show i+c - i=c by omega,Z34 hlim (by omega) (by omega) (hr.mono (by omega)),Option.bind_some,Zwh (hr.mono (by omega)),Option.bind_some,Zmy (a:=Zm _) (b:=Zm 1) (Y2 s2) Zm0 (hr.mono (by omega)),Option.bind_some,Yr,Yr,T4]
  by_cases h:Vf ((l.drop i).take c)=1
  ·rw [if_neg (by rw [Zmj.2 h];decide),decide_eq_true h,Bool.true_and,List.drop_drop]
   exact Zwx hr hl hq hc hcs hll hN m fuel (i+c) (by omega) (by omega)
  ·rw [if_pos (by rw [decide_eq_false (fun h2=>h (Zmj.1 h2))];decide),decide_eq_false h,Bool.false_and]
def Zid (vals:List R9) (P:List R2) (T:List (List QV)):Nat→Nat→Int
 | 0,_=>0
 | m+1,v=>if T4 (vals.getD v []).length (Yh vals (P.getD v []) 1) (T.getD v [])=true then Zid vals P T m (v+1) else 46
theorem Zm1 {vals:List R9} {P:List R2} {T:List (List QV)}:∀ (m v:Nat),T9 vals P T m v=0→∀ i,v≤i→i<v+m→Yh vals (P.getD i []) 1 * (vals.getD i []).length=(T.getD i []).length∧(T.getD i []).length≤65536
 | 0,v,_,i,h1,h2=>by omega
 | m+1,v,h,i,h1,h2=>by
  rw [T9] at h
  by_cases h3:65536<Yh vals (P.getD v []) 1 * (vals.getD v []).length
  ·rw [if_pos h3] at h;cases h
  ·rw [if_neg h3] at h
   by_cases h4:Yh vals (P.getD v []) 1 * (vals.getD v []).length=(T.getD v []).length
   ·rw [if_neg (show ¬ Yh vals (P.getD v []) 1 * (vals.getD v []).length≠(T.getD v []).length from fun h=>h h4)] at h
    rcases Nat.lt_or_ge v i with h5 | h5
    ·exact Zm1 m (v+1) h i (by omega) (by omega)
    ·have:i=v:=by omega
     subst this
     exact ⟨h4,by omega⟩
   ·rw [if_pos h4] at h;cases h
theorem Ztx {N W:Nat} {n:Xu} (hs:Ur n W) (he:Tc n) (hsh:T9 n.2.2.1 n.2.2.2.1 n.2.2.2.2 n.2.1.length 0=0) (hr:Xe N (8 * W+40)) (hN:1048577<N):∀ (l:List (List QV)) (k:Nat),n.2.2.2.2.drop k=l→k≤n.2.1.length→Zca N n l k=some (Zid n.2.2.1 n.2.2.2.1 n.2.2.2.2 l.length k)
 | [],k,_,_=>rfl
 | t :: l,k,hd,hk=>by
  have ht:=he.t;have hv:=he.v;have hp:=he.p
  have hk1:k<n.2.2.2.2.length:=by
   rcases Nat.lt_or_ge k n.2.2.2.2.length with h | h
   ·exact h
   ·rw [List.drop_eq_nil_of_le h] at hd;cases hd
  have hd2:=List.drop_eq_getElem_cons hk1
  rw [hd] at hd2
  obtain ⟨hx,hl2⟩:=List.cons.inj hd2
  have kv:k<n.2.2.1.length:=by omega
  have kp:k<n.2.2.2.1.length:=by omega
  have hm:t ∈ n.2.2.2.2:=by rw [hx];exact List.getElem_mem hk1
  have c1:=hs.vl _ (List.getElem_mem kv)
  have c0:0<n.2.2.1[k].length:=List.length_pos_iff.2 (he.ne _ (List.getElem_mem kv))
  obtain ⟨s1,s2⟩:=Zm1 _ 0 hsh k (by omega) (by omega)
  rw [Yp kv,Yp hk1,← hx] at s1
  rw [Yp hk1,← hx] at s2
  have hq:=hs.tq t hm
  have hp2:=Zo3 t
  have hf:=Zo2 t
  rw [Zca.eq_2,Z7 kv,Option.bind_some,Zr6 (W:=W) (hr.mono (by omega)) (hs.lim t hm) hq (hs.tl t hm),Option.bind_some,
   Z2m (W:=2 * W) (m:=Yh n.2.2.1 (n.2.2.2.1.getD k []) 1) (hr.mono (by omega)) (fun x hx=>by
    obtain ⟨y,hy,rfl⟩:=List.mem_map.1 hx
    exact Zrz (hs.lim t hm y hy)) (by omega) c0 c1 (by rw [List.length_map];omega) (by rw [List.length_map];exact s1) hN,Option.bind_some,Zue,List.length_cons,Zid,Yp kv,Yp hk1,← hx]
  cases T4 n.2.2.1[k].length (Yh n.2.2.1 (n.2.2.2.1.getD k []) 1) t with
  | true=>
   rw [if_neg (by decide),if_pos rfl]
   exact Ztx hs he hsh hr hN l (k+1) hl2.symm (by omega)
  | false=>rw [if_pos (by decide),if_neg (by decide)]
theorem Zww {N W:Nat} {n:Xu} (hs:Ur n W) (he:Tc n) (hsh:T9 n.2.2.1 n.2.2.2.1 n.2.2.2.2 n.2.1.length 0=0) (hr:Xe N (8 * W+40)) (hN:1048577<N):∀ (m fuel v:Nat),m+v=n.2.1.length→m<fuel→
  Zbg N n (n.2.2.1.map fun l=>(l.length:Int)) fuel (v:Int)=some (Zid n.2.2.1 n.2.2.2.1 n.2.2.2.2 m v)
 | 0,0,v,_,h=>by omega
 | 0,fuel+1,v,h1,_=>by
  rw [Zbg.eq_2,if_neg (by rw [decide_eq_false (by omega)];decide)];rfl
 | m+1,0,v,_,h=>by omega
 | m+1,fuel+1,v,h1,h2=>by
  have ht:=he.t;have hv:=he.v;have hp:=he.p;have hnm:=hs.nm
  have kt:v<n.2.2.2.2.length:=by omega
  have kv:v<n.2.2.1.length:=by omega
  have hm:=List.getElem_mem kt
  have c1:=hs.vl _ (List.getElem_mem kv)
  have c0:0<n.2.2.1[v].length:=List.length_pos_iff.2 (he.ne _ (List.getElem_mem kv))
  obtain ⟨s1,s2⟩:=Zm1 _ 0 hsh v (by omega) (by omega)
  rw [Yp kv,Yp kt] at s1
  rw [Yp kt] at s2
  have hmc:Yh n.2.2.1 (n.2.2.2.1.getD v []) 1≤n.2.2.2.2[v].length:=by rw [← s1];exact Nat.le_mul_of_pos_right _ c0
  have hw:=Zwx (N:=N) (W:=W) (c:=n.2.2.1[v].length) (l:=n.2.2.2.2[v]) (hr.mono (by omega)) (hs.lim _ hm) (hs.tq _ hm) c0 c1 (hs.tl _ hm) hN (Yh n.2.2.1 (n.2.2.2.1.getD v []) 1) N 0 (by omega) (by omega)
  rw [List.drop_zero,show ((0:Nat):Int)=0 from rfl] at hw
  rw [Zbg.eq_2,if_pos (decide_eq_true (by omega)),Z7 kt,Option.bind_some,Zm2 kv,Option.bind_some,Zl0,hw,Option.bind_some,Zid,Yp kv,Yp kt]
  cases T4 n.2.2.1[v].length (Yh n.2.2.1 (n.2.2.2.1.getD v []) 1) n.2.2.2.2[v] with
  | true=>
   rw [if_neg (by decide),if_pos rfl,Zt (by omega)]
   exact Zww hs he hsh hr hN m fuel (v+1) (by omega) (by omega)
  | false=>rw [if_pos (by decide),if_neg (by decide)]
structure Uh (N:Nat) (n:Xu):Prop where
 ev:Tc n
 le:n.2.1.length≤1024
 nm:T0 n.2.1 n.2.2.1 n.2.1.length 0=0
 sh:T9 n.2.2.1 n.2.2.2.1 n.2.2.2.2 n.2.1.length 0=0
 en:Zdi n.2.2.2.2=false
 su:Zid n.2.2.1 n.2.2.2.1 n.2.2.2.2 n.2.1.length 0=0
 tw:Ta n.2.2.2.1=false
 or:∃ l,Qy N n.2.2.2.1=some (l,0)∧Ti N n.2.2.2.1=some l∧Ss N n.2.2.2.1=some 0∧U2 n.2.2.2.1 l∧l.length=n.2.2.2.1.length
theorem Z0b {N W:Nat} {n:Xu} (hs:Ur n W) (hr:Xe N (8 * W+40)) (hN:2000000<N):∃ e,Zgh N n=some e∧Zhi N n=some e∧(e=0→Uh N n):=by
 have hnm:=hs.nm
 -- shapes of the lists
 have J:∀ b:Bool,(b=true→Zb9 N n b=some 60∧Zcs N n b=some 60):=fun b hb=>by
  subst hb
  exact ⟨by rw [Zb9,if_pos rfl],by rw [Zcs,if_pos rfl]⟩
 have J1:=J true rfl
 rw [Zgh,Zhi]
 by_cases hv:n.2.2.1.length=n.2.1.length
 ·by_cases hp:n.2.2.2.1.length=n.2.1.length
  ·by_cases ht:n.2.2.2.2.length=n.2.1.length
   ·rw [if_neg (by rw [decide_eq_true (by omega)];decide),if_neg (by rw [decide_eq_true (by omega)];decide),if_neg (by rw [decide_eq_true (by omega)];decide),if_neg (by rw [decide_eq_true (by omega)];decide),show (!decide ((n.2.2.2.2.length:Int)=(n.2.1.length:Int)))=false by rw [decide_eq_true (by omega)];rfl,Zb9,Zcs,if_neg (show ¬ (false=true) by decide),if_neg (show ¬ (false=true) by decide)]
    by_cases hk:1024<n.2.1.length
    ·rw [if_pos (decide_eq_true (by omega)),if_pos (decide_eq_true (by omega))]
     exact ⟨4,rfl,rfl,fun h=>by cases h⟩
    ·rw [if_neg (by rw [decide_eq_false (by omega)];decide),if_neg (by rw [decide_eq_false (by omega)];decide)]
     have nn:Zgl (n.1,n.2.1,n.2.2.1,n.2.2.2.1,n.2.2.2.2)=some (T0 n.2.1 n.2.2.1 n.2.1.length 0):=Z2o n hv
     have rn:=Zwd N n hv (by omega) hs.vl (by omega) n.2.1.length N 0 (by omega) (by omega)
     rw [show ((0:Nat):Int)=0 from rfl] at rn
     rw [nn,Option.bind_some,rn]
     by_cases hnms:T0 n.2.1 n.2.2.1 n.2.1.length 0=0
     ·rw [if_neg (by rw [decide_eq_true hnms];decide),if_pos hnms]
      obtain ⟨f,hf⟩:∃ f,N - n.2.1.length=f+1:=⟨N - n.2.1.length - 1,by omega⟩
      rw [hf,Su.eq_2,if_neg (by rw [decide_eq_false (by omega)];decide)]
      have hne:∀ l ∈ n.2.2.1,l≠[]:=fun l hl=>by
       obtain ⟨i,hi,rfl⟩:=List.mem_iff_getElem.1 hl
       have:=(Zt4 _ 0 hnms i (by omega) (by omega)).1
       rw [Yp hi] at this;exact this
      have fin:∀ e,Zaq N n.2.2.2.1=some e→Ss N n.2.2.2.1=some e→e≠0→∃ e,((Zaq N n.2.2.2.1).bind fun r_17=>if (!decide (r_17=0))=true then some r_17 else Zau N n n.2.2.2.2 0)=some e∧((Ss N n.2.2.2.1).bind fun r_76=>if (!decide (r_76=0))=true then some r_76 else (Zeo N (n.1,n.2.1,n.2.2.1,n.2.2.2.1,n.2.2.2.2)).bind fun r_80=>Zbf N n r_80 N 0)=some e∧(e=0→Uh N n):=fun e h1 h2 h3=>by
       rw [h1,h2,Option.bind_some,Option.bind_some,if_pos (by rw [decide_eq_false h3];decide),if_pos (by rw [decide_eq_false h3];decide)]
       exact ⟨e,rfl,rfl,fun h=>absurd h h3⟩
      rcases Zw1 hs.pn hN with ⟨e,D,R,h3⟩ | ⟨_,_,l,_,_,_,_,D,R⟩ | ⟨hI,hT,l,ho,hok,hmx,hle,D,R⟩
      ·exact fin e (by rw [Zaq,D];rfl) R (by rcases h3 with h | h <;> omega)
      ·exact fin 42 (by rw [Zaq,D];rfl) R (by decide)
      ·have D':Zaq N n.2.2.2.1=some 0:=by rw [Zaq,D];rfl
       have he:Tc n:=⟨hv,hp,ht,hI,hne⟩
       have hsz:Zeo N (n.1,n.2.1,n.2.2.1,n.2.2.2.1,n.2.2.2.2)=some (n.2.2.1.map fun l=>(l.length:Int)):=Z4k (n:=n) (by omega) (by omega)
       have ms:=Ztw (N:=N) hs he n.2.2.2.2 0 (by simp) (by omega)
       have rs:=Zwr (N:=N) (by omega) hs he n.2.1.length N 0 (by omega) (by omega)
       rw [show ((0:Nat):Int)=0 from rfl] at rs
       rw [D',R,Option.bind_some,Option.bind_some,if_neg (by decide),if_neg (by decide),hsz,Option.bind_some,ms,rs,ht]
       by_cases hsh:T9 n.2.2.1 n.2.2.2.1 n.2.2.2.2 n.2.1.length 0=0
       ·have me:=Ztj (N:=N) (n:=n) (W:=W) (hr.mono (by omega)) n.2.2.2.2 (fun t h=>⟨hs.tl t h,hs.tq t h,hs.lim t h⟩)
        have re:=Zvu (N:=N) (n.2.2.1.map fun l=>(l.length:Int)) hs ht (hr.mono (by omega)) (by omega) n.2.1.length N 0 (by omega) (by omega)
        rw [show ((0:Nat):Int)=0 from rfl,List.drop_zero] at re
        rw [if_pos hsh,if_pos hsh,me,re]
        by_cases hen:Zdi n.2.2.2.2=true
        ·rw [if_pos hen,if_pos hen]
         exact ⟨45,rfl,rfl,fun h=>by cases h⟩
        ·have m6:=Ztx (N:=N) hs he hsh hr (by omega) n.2.2.2.2 0 (by simp) (by omega)
         have r6:=Zww (N:=N) hs he hsh hr (by omega) n.2.1.length N 0 (by omega) (by omega)
         rw [show ((0:Nat):Int)=0 from rfl] at r6
         rw [if_neg hen,if_neg hen,m6,r6,ht]
         exact ⟨_,rfl,rfl,fun h=>⟨he,by omega,hnms,hsh,Bool.eq_false_iff.2 hen,h,hT,l,D,ho,R,hok,hle⟩⟩
       ·rw [if_neg hsh,if_neg hsh]
        exact ⟨_,rfl,rfl,fun h=>absurd h hsh⟩
     ·rw [if_pos (by rw [decide_eq_false hnms];decide),if_neg hnms]
      exact ⟨_,rfl,rfl,fun h=>absurd h hnms⟩
   ·rw [if_neg (by rw [decide_eq_true (by omega)];decide),if_neg (by rw [decide_eq_true (by omega)];decide),if_neg (by rw [decide_eq_true (by omega)];decide),if_neg (by rw [decide_eq_true (by omega)];decide),decide_eq_false (by omega)]
    exact ⟨60,J1.1,J1.2,fun h=>by cases h⟩
  ·rw [if_neg (by rw [decide_eq_true (by omega)];decide),if_pos (by rw [decide_eq_false (by omega)];decide),if_neg (by rw [decide_eq_true (by omega)];decide),if_pos (by rw [decide_eq_false (by omega)];decide)]
   exact ⟨60,J1.1,J1.2,fun h=>by cases h⟩
 ·rw [if_pos (by rw [decide_eq_false (by omega)];decide),if_pos (by rw [decide_eq_false (by omega)];decide)]
  exact ⟨60,J1.1,J1.2,fun h=>by cases h⟩
def W1 (p:Rat×Rat):QV×QV:=(Zm p.1,Zm p.2)
def cnt (n:Xu) (v:Nat):Nat:=(n.2.2.1.getD v []).length
def Zaj (n:Xu) (w:List Int):List Int→Nat→Nat
 | [],r=>r
 | p :: ps,r=>Zaj n w ps (r * cnt n p.toNat+(w.getD p.toNat 0).toNat)
def Vo (n:Xu) (w:List Int) (v:Nat):Nat:=Zaj n w (n.2.2.2.1.getD v []) 0
def Ye (n:Xu) (w:List Int) (v:Nat):List QV:=((n.2.2.2.2.getD v []).drop (Vo n w v * cnt n v)).take (cnt n v)
structure Vv (n:Xu) (w:List Int):Prop where
 len:w.length=n.2.1.length
 ok:∀ i,i<w.length→0≤w.getD i 0∧w.getD i 0<(cnt n i:Int)
theorem Zn3 {n:Xu} (he:Tc n) {v:Nat} (hv:v<n.2.1.length):0<cnt n v:=by
 have h1:v<n.2.2.1.length:=by rw [he.v];exact hv
 rw [cnt,Yp h1]
 exact List.length_pos_iff.2 (he.ne _ (List.getElem_mem h1))
theorem Zwn {n:Xu} (he:Tc n):∀ (ps:List Int) (k:Nat),(∀ p ∈ ps,0≤p∧p<(n.2.1.length:Int))→k≤1099511627776→k≤Yh n.2.2.1 ps k
 | [],k,_,_=>Nat.le_refl _
 | p :: ps,k,hp,hk=>by
  have h1:=hp p List.mem_cons_self
  have h2:0<(n.2.2.1.getD p.toNat []).length:=Zn3 he (by omega)
  rw [Yh]
  have h3:k≤min (k * (n.2.2.1.getD p.toNat []).length) 1099511627776:=Nat.le_min.2 ⟨Nat.le_mul_of_pos_right k h2,hk⟩
  exact Nat.le_trans h3 (Zwn he ps _ (fun q hq=>hp q (List.mem_cons_of_mem _ hq)) (Nat.min_le_right _ _))
theorem Zpi {n:Xu} (he:Tc n) {w:List Int} (hw:Vv n w) {p:Int} {ps:List Int} {r k:Nat} (hp:∀ q ∈ p :: ps,0≤q∧q<(n.2.1.length:Int)) (hr:r<k) (hk:k≤65536) (hb:Yh n.2.2.1 (p :: ps) k≤65536):
  r * cnt n p.toNat+(w.getD p.toNat 0).toNat<k * cnt n p.toNat∧k * cnt n p.toNat≤65536∧Yh n.2.2.1 ps (k * cnt n p.toNat)≤65536:=by
 have h1:=hp p List.mem_cons_self
 have h2:=hw.ok p.toNat (by rw [hw.len];omega)
 have h3:r * cnt n p.toNat+cnt n p.toNat≤k * cnt n p.toNat:=by
  have:=Nat.mul_le_mul_right (cnt n p.toNat) (show r+1≤k by omega)
  rwa [Nat.add_mul,Nat.one_mul] at this
 rw [Yh] at hb
 have h4:=Zwn he ps (min (k * (n.2.2.1.getD p.toNat []).length) 1099511627776) (fun q hq=>hp q (List.mem_cons_of_mem _ hq)) (Nat.min_le_right _ _)
 have h5:k * (n.2.2.1.getD p.toNat []).length≤1099511627776:=by
  rcases Nat.le_total (k * (n.2.2.1.getD p.toNat []).length) 1099511627776 with h | h
  ·exact h
  ·rw [Nat.min_eq_right h] at h4 hb;omega
 rw [Nat.min_eq_left h5] at h4 hb
 exact ⟨by omega,Nat.le_trans h4 hb,hb⟩
theorem Zwk {n:Xu} (he:Tc n) {w:List Int} (hw:Vv n w):∀ (ps:List Int) (r k:Nat),(∀ q ∈ ps,0≤q∧q<(n.2.1.length:Int))→r<k→k≤65536→Yh n.2.2.1 ps k≤65536→Zaj n w ps r<Yh n.2.2.1 ps k
 | [],r,k,_,hr,_,_=>hr
 | p :: ps,r,k,hp,hr,hk,hb=>by
  obtain ⟨h1,h2,h3⟩:=Zpi he hw hp hr hk hb
  have:=Zwk he hw ps _ _ (fun q hq=>hp q (List.mem_cons_of_mem _ hq)) h1 h2 h3
  rw [Zaj,Yh,Nat.min_eq_left (by rw [cnt] at h2;omega)]
  exact this
theorem Zwi {n:Xu} {w u:List Int}:∀ (ps:List Int) (r:Nat),(∀ p ∈ ps,w.getD p.toNat 0=u.getD p.toNat 0)→Zaj n w ps r=Zaj n u ps r
 | [],_,_=>rfl
 | p :: ps,r,h=>by rw [Zaj,Zaj,h p List.mem_cons_self];exact Zwi ps _ fun q hq=>h q (List.mem_cons_of_mem _ hq)
section
variable {N:Nat} {n:Xu} (hf:Uh N n)
include hf
theorem Uh.pars {v:Nat} (hv:v<n.2.1.length):∀ p ∈ n.2.2.2.1.getD v [],0≤p∧p<(n.2.1.length:Int):=fun p hp=>by
 have h1:v<n.2.2.2.1.length:=by rw [hf.ev.p];exact hv
 rw [Yp h1] at hp
 have:=hf.ev.par (List.getElem_mem h1) p hp
 rwa [hf.ev.v] at this
theorem Uh.rows {v:Nat} (hv:v<n.2.1.length):Yh n.2.2.1 (n.2.2.2.1.getD v []) 1 * cnt n v=(n.2.2.2.2.getD v []).length∧(n.2.2.2.2.getD v []).length≤65536∧Yh n.2.2.1 (n.2.2.2.1.getD v []) 1≤65536:=by
 have h1:=Zm1 _ 0 hf.sh v (Nat.zero_le _) (by omega)
 have h2:=Zn3 hf.ev hv
 refine ⟨h1.1,h1.2,?_⟩
 have h3:Yh n.2.2.1 (n.2.2.2.1.getD v []) 1≤Yh n.2.2.1 (n.2.2.2.1.getD v []) 1 * cnt n v:=Nat.le_mul_of_pos_right _ h2
 have h4:Yh n.2.2.1 (n.2.2.2.1.getD v []) 1 * cnt n v≤65536:=by
  have:=h1.1;rw [cnt,this];exact h1.2
 omega
theorem Uh.row {w:List Int} (hw:Vv n w) {v:Nat} (hv:v<n.2.1.length):Vo n w v * cnt n v+cnt n v≤(n.2.2.2.2.getD v []).length∧Vo n w v<65536:=by
 obtain ⟨h1,h2,h3⟩:=hf.rows hv
 have h4:=Zwk hf.ev hw _ 0 1 (hf.pars hv) (by omega) (by omega) h3
 have h5:=Nat.mul_le_mul_right (cnt n v) (show Vo n w v+1≤Yh n.2.2.1 (n.2.2.2.1.getD v []) 1 from h4)
 rw [Nat.add_mul,Nat.one_mul,h1] at h5
 exact ⟨h5,Nat.lt_of_lt_of_le h4 h3⟩
theorem Uh.rowT_len {w:List Int} (hw:Vv n w) {v:Nat} (hv:v<n.2.1.length):(Ye n w v).length=cnt n v:=by
 have:=(hf.row hw hv).1
 rw [Ye,List.length_take,List.length_drop];omega
theorem Uh.ent {v:Nat} (hv:v<n.2.1.length):∀ x ∈ n.2.2.2.2.getD v [],0≤Z6 x∧Z6 x≤1:=fun x hx=>by
 have h1:v<n.2.2.2.2.length:=by rw [hf.ev.t];exact hv
 rw [Yp h1] at hx
 have h2:=hf.en
 rw [Zdi,List.any_eq_false] at h2
 have h3:=h2 _ (List.getElem_mem h1)
 rw [Bool.not_eq_true,List.any_eq_false] at h3
 have h4:=h3 x hx
 simp only [Vt,Bool.or_eq_true,decide_eq_true_eq,not_or] at h4
 exact ⟨Rat.not_lt.1 h4.1,Rat.not_lt.1 h4.2⟩
end
theorem Zma {n:Xu} {w:List Int} {v:Nat} {x:QV} (h:x ∈ Ye n w v):x ∈ n.2.2.2.2.getD v []:=List.mem_of_mem_drop (List.mem_of_mem_take h)
theorem Zwj {n:Xu} {w:List Int} {v j:Nat} (hj:j<(Ye n w v).length):Zo (n.2.2.2.2.getD v []) ((Vo n w v * cnt n v+j:Nat):Int)=some (Ye n w v)[j]:=by
 have h1:Vo n w v * cnt n v+j<(n.2.2.2.2.getD v []).length:=by
  rw [Ye,List.length_take,List.length_drop] at hj;omega
 rw [Z7 h1]
 simp only [Ye,List.getElem_take,List.getElem_drop]
def Up (P:List R2) (l:List Int):Prop:=∀ (a:List Int) (v:Int) (b:List Int),l=a++v :: b→∀ p ∈ P.getD v.toNat [],p ∈ a
theorem Up.step {P:List R2} {l:List Int} {j:Nat} (h:Up P l) (hn:W9 P l 0=some j):Up P (l++[(j:Int)]):=by
 obtain ⟨_,h2,h3,_⟩:=Zor hn
 obtain ⟨h4,h5⟩:=(Zvs h2).1 h3
 intro a v b e p hp
 rcases List.eq_nil_or_concat b with rfl | ⟨b',c,rfl⟩
 ·obtain ⟨e1,e2⟩:=List.append_inj' e rfl
  rw [List.cons.injEq] at e2
  obtain ⟨rfl,-⟩:=e2
  subst e1
  rw [Int.toNat_natCast,Yp h2] at hp
  exact h5 p hp
 ·rw [List.concat_eq_append,← List.cons_append,← List.append_assoc] at e
  exact h a v b' (List.append_inj' e rfl).1 p hp
theorem Zui {N:Nat} {P:List R2} (hP:P.length<1048576) (hls:∀ x ∈ P,x.length≤1048576) (hN:1048576<N):∀ (n:Nat) (l r:List Int),U2 P l→Up P l→Uc N P n l=some r→Up P r
 | 0,l,r,_,_,h=>by rw [Uc.eq_1] at h;cases h
 | n+1,l,r,h0,hk,h=>by
  have hl:=h0.len
  rw [Zow (by omega) hls (by omega) hN] at h
  cases hnx:W9 P l 0 with
  | none=>rw [hnx] at h;cases h;exact hk
  | some j=>
   rw [hnx] at h
   exact Zui hP hls hN n (l++[(j:Int)]) r (h0.step hnx).1 (hk.step hnx) h
structure Zff (P:List R2) (l:List Int):Prop where
 rg:∀ x ∈ l,0≤x∧x<(P.length:Int)
 nd:l.Nodup
 up:Up P l
theorem Z20 {N:Nat} {P:List R2} {l:List Int} (hP:P.length<1048576) (hls:∀ x ∈ P,x.length≤1048576) (hN:1048576<N) (h:Ti N P=some l) (ho:U2 P l):Zff P l:=
 ⟨ho.2.1,ho.1,Zui hP hls hN N [] l ⟨.nil,by simp,by simp⟩ (fun a v b e=>by cases a <;> simp at e) (by rwa [Ti] at h)⟩
def Ug (n:Xu) (w:List Int):List Int→Rat×Rat→Rat×Rat
 | [],s=>s
 | v :: l,s=>Ug n w l ((V0 (s.2 - s.1) (Ye n w v.toNat) s.1).getD (w.getD v.toNat 0).toNat (0,0))
structure Td (D M:Nat) (s:Rat×Rat):Prop where
 d:D≠0
 m:1≤M
 a:Bd D M s.1
 b:Bd D M s.2
theorem Td.zero:Td 1 1 (0,1):=⟨by decide,by decide,.zero 1 1,.one⟩
theorem Zoj (M D:Nat):(Zd (M * D)).length≤(Zd M).length+(Zd D).length:=U5 M D
section
variable {N W:Nat} {n:Xu} (hf:Uh N n) (hs:Ur n W)
include hf hs
theorem Zn6 {v:Nat} (hv:v<n.2.1.length):∀ x ∈ n.2.2.2.2.getD v [],W2 x∧max x.1.2.length x.2.length≤W:=fun x hx=>by
 have h1:v<n.2.2.2.2.length:=by rw [hf.ev.t];exact hv
 rw [Yp h1] at hx
 have h2:=hs.tq _ (List.getElem_mem h1)
 exact ⟨hs.lim _ (List.getElem_mem h1) x hx,Nat.le_trans (Zuy hx) h2⟩
theorem Z39 {v:Nat} (hv:v<n.2.1.length) (w:List Int):X9 (Ye n w v)≤W:=by
 have h1:v<n.2.2.2.2.length:=by rw [hf.ev.t];exact hv
 have h2:=hs.tq _ (List.getElem_mem h1)
 rw [Ye,Yp h1]
 exact Nat.le_trans (Zo4 _ _) (Nat.le_trans (Zo1 _ _) h2)
theorem Zol {w:List Int} (hw:Vv n w) {v:Nat} (hv:v<n.2.1.length) {D M:Nat} {s:Rat×Rat} (h:Td D M s):∃ D' M',(Zd M').length+(Zd D').length≤(Zd M).length+(Zd D).length+(W+2)∧
  (∀ p ∈ V0 (s.2 - s.1) (Ye n w v) s.1,Td D' M' p)∧qs (s.2 - s.1)≤(Zd M).length+(Zd D).length+1:=by
 have hl:Bd D (M+M) (s.2 - s.1):=h.b.sub h.a h.d
 have hE:=Zlj (Ye n w v)
 have hlim:∀ x ∈ Ye n w v,W2 x:=fun x hx=>(Zn6 hf hs hv x (Zma hx)).1
 have hEl:=Zrs (Ye n w v) hlim
 have hq:=Z39 hf hs hv w
 have hc:(Ye n w v).length≤65536:=by
  have h1:=(hf.rows hv).2.1
  have h2:=(hf.row hw hv).1
  rw [hf.rowT_len hw hv];omega
 have hP:=Zun (M:=M) h.d hl (Ye n w v) 1 s.1 M (by decide) (fun x hx=>hf.ent hv x (Zma hx)) (by rw [Nat.mul_one];exact h.a)
 rw [Nat.one_mul] at hP
 have hM:M+(M+M) * (Ye n w v).length≤M * 262144:=by
  have h1:(M+M) * (Ye n w v).length≤(M+M) * 65536:=Nat.mul_le_mul_left _ hc
  omega
 refine ⟨D * Tg (Ye n w v),M * 262144,?_,fun p hp=>?_,?_⟩
 ·have h1:=U5 D (Tg (Ye n w v))
  have h2:=U5 M 262144
  have h3:(Zd 262144).length≤1:=Wt.2 (by decide)
  omega
 ·obtain ⟨h1,h2⟩:=hP p hp
  have:=h.m
  exact ⟨Nat.mul_ne_zero h.d hE,by omega,h1.up hM,h2.up hM⟩
 ·have h1:=hl.qs h.d (by have:=h.m;omega)
  have h2:=Zoj (M+M) D
  have h3:(Zd (M+M)).length≤(Zd M).length+1:=Zft (Nat.le_refl _) (Nat.le_refl _)
  omega
end
theorem Td.qa {D M:Nat} {s:Rat×Rat} (h:Td D M s):qs s.1≤(Zd M).length+(Zd D).length:=Nat.le_trans (h.a.qs h.d h.m) (Zoj M D)
theorem Td.qb {D M:Nat} {s:Rat×Rat} (h:Td D M s):qs s.2≤(Zd M).length+(Zd D).length:=Nat.le_trans (h.b.qs h.d h.m) (Zoj M D)
theorem Vv.set {n:Xu} {w:List Int} (h:Vv n w) {v:Nat} {k:Int} (hk:0≤k∧k<(cnt n v:Int)):Vv n (w.set v k):=by
 refine ⟨by rw [List.length_set];exact h.len,fun i hi=>?_⟩
 rw [List.length_set] at hi
 by_cases hv:v<w.length
 ·rw [Tv w 0 v i k hv]
  split
  ·rename_i e;rw [e];exact hk
  ·exact h.ok i hi
 ·rw [List.set_eq_of_length_le (by omega)];exact h.ok i hi
def Zj6 (N:Nat):Option (R1×R1):=
  (Zac N 0 1).bind fun aa=>(Zac N 1 1).bind fun ab=>some (((aa.1.1,aa.1.2),aa.2),((ab.1.1,ab.1.2),ab.2))
theorem Zzt {N:Nat} {col:Zf} {w0:World} {r:(R1×R1)} (c1 c2 c3 c4:Nat) (hm:Zj6 N=some r):
    Calls Tryz.prog 87 #[] w0 (fun e w'=>∃ (col':Zf) (ra1:Option Addr) (rc2:Nat) (ra4:Option Addr) (rc5:Nat) (ra7:Option Addr) (rc8:Nat) (ra10:Option Addr) (rc11:Nat),e= .returned ((.agg #[.bool r.1.1.1,.slice ra1 r.1.1.2.length rc2,.slice ra4 r.1.2.length rc5,.bool r.2.1.1,.slice ra7 r.2.1.2.length rc8,.slice ra10 r.2.2.length rc11]))∧Zg col w0 col' w'∧Zc (Za.int .u32) 79 c1 col' w' ra1 rc2 r.1.1.2∧Zc (Za.int .u32) 79 c2 col' w' ra4 rc5 r.1.2∧Zc (Za.int .u32) 79 c3 col' w' ra7 rc8 r.2.1.2∧Zc (Za.int .u32) 79 c4 col' w' ra10 rc11 r.2.2):=by
 refine X2 (m:=4) func87 rfl rfl rfl ?_;rw [Zj6.eq_1] at hm;have aa:=St.start col w0;refine go ?_;refine Xf (col:=(Zi col)) #[.bool false,.slice none (([]:List Int).length) 0,.slice none (([]:List Int).length) 0,.bool false,.slice none (([]:List Int).length) 0,.slice none (([]:List Int).length) 0] 1 zeroValue49 ?_;intro a2 a3 al am ad;refine go ?_;obtain ⟨ae,an,hm⟩:=bZ hm;refine Zh (Zlf (col:=al) 2 3 an) ?_;rintro _ a4 ⟨ao,ap,aq,ar,au,rfl,ak,af,ag⟩;refine ⟨_,rfl,?_⟩;obtain ⟨ah,av,hm⟩:=bZ hm;refine Zh (Zlf (col:=ao) 4 5 av) ?_;rintro _ a5 ⟨a6,aw,ax,ay,az,rfl,ac,ai,aj⟩;refine ⟨_,rfl,?_⟩;refine lV (.agg #[.bool ae.1.1,.slice ap ae.1.2.length aq,.slice ar ae.2.length au,.bool ah.1.1,.slice aw ah.1.2.length ax,.slice ay ah.2.length az]) (Yc (l:=[_,_]) (qs:=[(0,3),(3,3)]) underlying49 zeroValue49 ⟨rfl,sizeOf47,rfl,sizeOf47,trivial⟩ rfl) ?_;replace ad:=(ad.gr ak).gr ac;refine Zw ad ?_;intro a7 ab a0 a1;refine go ?_;cases hm;replace aa:=(((aa.grow am).grow ak).grow ac).kp ab a0;replace af:=(af.gr ac).kp ab;replace ag:=(ag.gr ac).kp ab;replace ai:=ai.kp ab;replace aj:=aj.kp ab;exact ⟨rfl,_,ra a1.atN,_,_,_,_,_,_,_,_,_,rfl,aa.fin (cm [(2,c1),(3,c2),(4,c3),(5,c4)]),aa.fo af,aa.fo ag,aa.fo ai,aa.fo aj⟩
theorem Z3s {N:Nat} (hr:Xe N 8):Zj6 N=some (W1 (0,1)):=by
 rw [Zj6,Zw5 hr,Option.bind_some,Zw4 hr,Option.bind_some];rfl
theorem Ztf {l:List (Rat×Rat)} {j:Nat} (hj:j<l.length):Zo (l.map W1) (j:Int)=some (W1 (l.getD j (0,0))):=by
 rw [Z7 (by rw [List.length_map];exact hj),List.getElem_map,Yp hj]
theorem Zti {l:List (Rat×Rat)} {j:Nat} (hj:j<l.length):l.getD j (0,0) ∈ l:=by rw [Yp hj];exact List.getElem_mem hj
def Zcx (N:Nat) (ag:R0) (ah:Int) (al:Int) (ab:R1):Nat→Rj→Bool→R2→R2→Int→Option Rj
  | 0,_,_,_,_,_=>none
  | an+1,ac,ad,ae,af,ai=>(Zo ag.2.2.1 ah).bind fun am=>if (decide (ai<(am.length:Int)))=true then ((Zo ag.2.2.2.2 ah).bind fun ao=>(Zo ao (i64.wrap ((i64.wrap (al * (am.length:Int)))+ai))).bind fun aj=>(Zcq N ((ab.1.1,ab.1.2),ab.2) ((aj.1.1,aj.1.2),aj.2)).bind fun ak=>(Zcp N ((ad,ae),af) ((ak.1.1,ak.1.2),ak.2)).bind fun aa=>Z1 ((ac.length+[(((ad,ae),af),((aa.1.1,aa.1.2),aa.2))].length) * 112≤140737488355328∧ac.length+[(((ad,ae),af),((aa.1.1,aa.1.2),aa.2))].length≤maxLen) ((Zcx N ag ah al ab an) (ac++[(((ad,ae),af),((aa.1.1,aa.1.2),aa.2))]) aa.1.1 aa.1.2 aa.2 (i64.wrap (ai+1)))) else (some ac)
termination_by structural x=>x
def Ze1 (N:Nat) (ab:R0) (ac:Int) (ae:List Int) (aa:(R1×R1)):Nat→Int→Int→Option Rj
  | 0,_,_=>none
  | ai+1,ad,af=>(Zo ab.2.2.2.1 ac).bind fun ag=>if (decide (ad<(ag.length:Int)))=true then ((Zo ag ad).bind fun ah=>(Zo ab.2.2.1 ah).bind fun aj=>(Zo ae ah).bind fun ak=>(Ze1 N ab ac ae aa ai) (i64.wrap (ad+1)) (i64.wrap ((i64.wrap (af * (aj.length:Int)))+ak))) else ((Za9 N ((aa.2.1.1,aa.2.1.2),aa.2.2) ((aa.1.1.1,aa.1.1.2),aa.1.2)).bind fun al=>Zcx N ab ac af al N ([]:List (R1×R1)) aa.1.1.1 aa.1.1.2 aa.1.2 0)
termination_by structural x=>x
def Zhv (N:Nat) (aa:R0) (ab:Int) (ac:List Int) (ad:(R1×R1)):Option Rj:=
  Ze1 N aa ab ac ad N 0 0
theorem Zzr {N cb bu cc bv dh b1 b2 cd ce:Nat} {cf bk cg bm a2 b3 b4 ch ci:Option Addr} {col:Zf} {w0:World} {ad:R0} {bh:Int} {cj:R2} {ac:(R1×R1)} {r:Rj} (c1:Nat) (hm:Zhv N ad bh cj ac=some r) (e6:Sl Za.str col w0 cf cb ad.2.1) (bi:Sl (Za.slice Za.str) col w0 bk bu ad.2.2.1) (bw:Sl (Za.slice (Za.int .i64)) col w0 cg cc ad.2.2.2.1) (ck:Sl (Za.slice (Za.pair (Za.pair Za.bool (Za.slice (Za.int .u32))) (Za.slice (Za.int .u32)))) col w0 bm bv ad.2.2.2.2) (h2:Sl (Za.int .i64) col w0 a2 dh cj) (cl:Sl (Za.int .u32) col w0 b3 b1 ac.1.1.2) (cn:Sl (Za.int .u32) col w0 b4 b2 ac.1.2) (cu:Sl (Za.int .u32) col w0 ch cd ac.2.1.2) (cv:Sl (Za.int .u32) col w0 ci ce ac.2.2):
    Calls Tryz.prog 88 #[(.agg #[.string ad.1,.slice cf ad.2.1.length cb,.slice bk ad.2.2.1.length bu,.slice cg ad.2.2.2.1.length cc,.slice bm ad.2.2.2.2.length bv]),.int .i64 bh,.slice a2 cj.length dh,(.agg #[.bool ac.1.1.1,.slice b3 ac.1.1.2.length b1,.slice b4 ac.1.2.length b2,.bool ac.2.1.1,.slice ch ac.2.1.2.length cd,.slice ci ac.2.2.length ce])] w0 (fun e w'=>∃ (col':Zf) (ra1:Option Addr) (rc2:Nat),e= .returned ((.slice ra1 r.length rc2))∧Zg col w0 col' w'∧Zc (Za.pair (Za.pair (Za.pair Za.bool (Za.slice (Za.int .u32))) (Za.slice (Za.int .u32))) (Za.pair (Za.pair Za.bool (Za.slice (Za.int .u32))) (Za.slice (Za.int .u32)))) 49 c1 col' w' ra1 rc2 r):=by
 refine Xi 8 (m:=94) func88 rfl rfl rfl rfl rfl ?_;rw [Zhv.eq_1] at hm;have aa:=St.start col w0;refine go ?_;refine Xd (col:=(Zi col)) 1 rfl ?_;intro co e7 dn dp ab;refine Xd (col:=dn) 2 rfl ?_;intro dq e8 e9 di a1;refine go ?_;replace aa:=(aa.grow dp).grow di;replace ab:=ab.gr di;refine Z8 [1,2,4,7,1000000] (fun n f cp=>∃ ba cw a3 bx,bx=n∧Ze1 N ad bh cj ac bx cw a3=some r∧St w0 (Zi col) ba cp∧Zn 27 1 ba cp co #[.string ad.1,.slice cf ad.2.1.length cb,.slice bk ad.2.2.1.length bu,.slice cg ad.2.2.2.1.length cc,.slice bm ad.2.2.2.2.length bv]∧Zn 49 2 ba cp dq #[.bool ac.1.1.1,.slice b3 ac.1.1.2.length b1,.slice b4 ac.1.2.length b2,.bool ac.2.1.1,.slice ch ac.2.1.2.length cd,.slice ci ac.2.2.length ce]∧[10,9].map f=[.int .i64 cw,.int .i64 a3]) N ⟨_,0,0,_,rfl,hm,aa,ab,a1,rfl⟩ ?_;clear hm;intro n f cp hI;obtain ⟨ba,cw,a3,bx,hn,hm,aa,ab,a1,hs⟩:=hI;subst hn;refine .lL [10,9] hs ?_;replace bi:=bi.keep (Zj.start col w0);replace bw:=bw.keep (Zj.start col w0);replace ck:=ck.keep (Zj.start col w0);replace h2:=h2.keep (Zj.start col w0);replace cl:=cl.keep (Zj.start col w0);replace cn:=cn.keep (Zj.start col w0);replace cu:=cu.keep (Zj.start col w0);replace cv:=cv.keep (Zj.start col w0)
 cases bx with
 | zero=>rw [Ze1.eq_1] at hm;cases hm
 | succ bx=>
  rw [Ze1.eq_2] at hm;refine go ?_;refine Xc ab<|Xo rfl ?_;obtain ⟨fa,bz,hm⟩:=bZ hm;refine lI bz ((bw.ks aa).addr bz) ?_;obtain ⟨_,dr,ds⟩:=(bw.ks aa).atN bz;obtain ⟨⟨fb,fc,rfl,fd⟩,_⟩:=dr;refine lW ds.one<|go ?_;refine Zq hm (fun hb hm=>go ?_) fun hb hm=>go ?_
  ·refine Xc ab<|Xo rfl<|lI bz ((bw.ks aa).addr bz) ?_;obtain ⟨_,dt,du⟩:=(bw.ks aa).atN bz;obtain ⟨⟨fe,ff,rfl,dj⟩,_⟩:=dt;refine lW du.one<|Xo rfl ?_;obtain ⟨fg,cx,hm⟩:=bZ hm;refine lI cx (dj.addr cx)<|lW (dj.atInt cx) ?_;refine go ?_;refine Wc (col:=ba) (by kernel_rfl) (by kernel_rfl)<|go ?_;refine qF ⟨_,_,rfl⟩ ?_;refine qW (fun _ hC=>((ab.atN).nth (q:=2) rfl).gr (hC.bl ba)) ?_;refine go ?_;obtain ⟨fh,cy,hm⟩:=bZ hm;refine qI cy ((bi.ks aa).addr cy) ?_;obtain ⟨_,dv,dw⟩:=(bi.ks aa).atN cy;obtain ⟨⟨fi,fj,rfl,fk⟩,_⟩:=dv;refine qW (fun _ hC=>dw.one.gr (hC.bl ba)) ?_;refine go ?_;obtain ⟨fl,cz,hm⟩:=bZ hm;refine qI cz ((h2.ks aa).addr cz)<|qW (fun _ hC=>((h2.ks aa).gr (hC.bl ba)).atInt cz) ?_;refine go ?_;refine Yf ?_;intro fm hC;replace hC:=hC.bl ba;refine go ?_;replace ab:=ab.gr hC;replace a1:=a1.gr hC;replace aa:=aa.grow hC;exact ⟨bx,by omega,rfl,⟨_,_,_,_,rfl,hm,aa,ab,a1,rfl⟩⟩
  refine Xh ⟨_,_,rfl⟩ ?_;refine lV (.agg #[.bool ac.2.1.1,.slice ch ac.2.1.2.length cd,.slice ci ac.2.2.length ce]) (Xn isAgg47 sizeOf47 rfl rfl ((a1.atN).part 3 3 _ rfl))<|Xh ⟨_,_,rfl⟩ ?_;refine lV (.agg #[.bool ac.1.1.1,.slice b3 ac.1.1.2.length b1,.slice b4 ac.1.2.length b2]) (Xn isAgg47 sizeOf47 rfl rfl ((a1.atN).part 0 3 _ rfl)) ?_;obtain ⟨bb,dx,hm⟩:=bZ hm;refine Zh (Zqz 3 4 dx (cu.ks aa) (cv.ks aa) (cl.ks aa) (cn.ks aa)) ?_;rintro _ fn ⟨dy,c0,c2,c3,c4,rfl,c5,ai,aj⟩;refine ⟨_,rfl,?_⟩;refine Xf (col:=dy) #[.bool false,.slice none (([]:List Int).length) 0,.slice none (([]:List Int).length) 0] 5 zeroValue47 ?_;intro dz fp d0 b5 d1;refine Zw d1 ?_;intro fq b6 d2 ag;refine go ?_;refine Xh ⟨_,_,rfl⟩ ?_;replace a1:=((a1.gr c5).gr b5).kp b6;refine lV (.agg #[.bool ac.1.1.1,.slice b3 ac.1.1.2.length b1,.slice b4 ac.1.2.length b2]) (Xn isAgg47 sizeOf47 rfl rfl ((a1.atN).part 0 3 _ rfl))<|Xf (col:=d0) #[.bool false,.slice none (([]:List Int).length) 0,.slice none (([]:List Int).length) 0] 6 zeroValue47 ?_;intro d3 fr ft b7 d4;refine Zw d4 ?_;intro fu b8 d5 ah;refine go ?_;replace ab:=((((ab.gr c5).gr b5).kp b6).gr b7).kp b8;replace aa:=((((aa.grow c5).grow b5).kp b6 d2).grow b7).kp b8 d5;replace ai:=(((ai.gr b5).kp b6).gr b7).kp b8;replace aj:=(((aj.gr b5).kp b6).gr b7).kp b8;replace ag:=(ag.gr b7).kp b8
  refine Z8 [1,12,14,4,9,1000000] (fun n f af=>∃ ae c6 c7 cq a4 bn bo a5 bp bq a6 br b0,b0=n∧Zcx N ad bh a3 bb b0 cq a4 a5 a6 br=some r∧St w0 (Zi col) ae af∧Zc (Za.int .u32) 79 3 ae af c0 c2 bb.1.2∧Zc (Za.int .u32) 79 4 ae af c3 c4 bb.2∧Zn 47 5 ae af dz #[.bool bb.1.1,.slice c0 bb.1.2.length c2,.slice c3 bb.2.length c4]∧Zc (Za.pair (Za.pair (Za.pair Za.bool (Za.slice (Za.int .u32))) (Za.slice (Za.int .u32))) (Za.pair (Za.pair Za.bool (Za.slice (Za.int .u32))) (Za.slice (Za.int .u32)))) 49 7 ae af c6 c7 cq∧Sl (Za.int .u32) ae af bn bo a5∧Sl (Za.int .u32) ae af bp bq a6∧Zn 47 6 ae af d3 #[.bool a4,.slice bn a5.length bo,.slice bp a6.length bq]∧Zn 27 1 ae af co #[.string ad.1,.slice cf ad.2.1.length cb,.slice bk ad.2.2.1.length bu,.slice cg ad.2.2.2.1.length cc,.slice bm ad.2.2.2.2.length bv]∧[13,15].map f=[.slice c6 cq.length c7,.int .i64 br]) N ⟨_,none,0,_,_,_,_,_,_,_,_,0,_,rfl,hm,aa,ai,aj,ag,Zc.nil,(cl.ks aa),(cn.ks aa),ah,ab,rfl⟩ ?_;clear hm;intro n f af hI;obtain ⟨ae,c6,c7,cq,a4,bn,bo,a5,bp,bq,a6,br,b0,hn,hm,aa,ai,aj,ag,ak,ap,aq,ah,ab,hs⟩:=hI;subst hn;refine .lL [13,15] hs ?_
  cases b0 with
  | zero=>rw [Zcx.eq_1] at hm;cases hm
  | succ b0=>
   rw [Zcx.eq_2] at hm;refine go ?_;refine Xc ab<|Xo rfl ?_;obtain ⟨bs,bt,hm⟩:=bZ hm;refine lI bt ((bi.ks aa).addr bt) ?_;obtain ⟨_,d6,d7⟩:=(bi.ks aa).atN bt;obtain ⟨⟨fv,fw,rfl,fx⟩,_⟩:=d6;refine lW d7.one<|go ?_;refine Zq hm (fun hb hm=>go ?_) fun hb hm=>go ?_
   ·have bc:=Zz.clip (fun _=>false) ae af;refine Zbr (col:=ae) [(0,0),(1,0),(2,1),(3,0),(4,1),(5,1),(6,0),(7,1),(8,1),(9,0),(10,1),(11,1),(12,0),(13,1),(14,1),(15,1),(16,1),(17,1),(18,0),(19,3),(20,3),(21,4),(22,2)] (by kernel_rfl) (by kernel_rfl) ⟨fun h=>absurd h (by decide),fun h=>absurd h (by decide),fun h=>absurd h (by decide),fun h=>absurd h (by decide),fun h=>absurd h (by decide),fun h=>absurd h (by decide),fun h=>absurd h (by decide),fun h=>absurd h (by decide),fun h=>absurd h (by decide),fun h=>absurd h (by decide),fun h=>absurd h (by decide),fun h=>absurd h (by decide),fun h=>absurd h (by decide),fun h=>absurd h (by decide),fun h=>absurd h (by decide),fun h=>absurd h (by decide),fun h=>absurd h (by decide),fun h=>absurd h (by decide),fun h=>absurd h (by decide),fun h=>absurd h (by decide),fun h=>absurd h (by decide),fun _=>⟨_,_,_,rfl,Ve zeroValue47⟩,fun h=>absurd h (by decide),trivial⟩ ?_;replace ah:=ah.kpp bc;refine Y9 (v:=(.agg #[.bool a4,.slice bn a5.length bo,.slice bp a6.length bq])) rfl rfl (fun _ hC=>Xn isAgg47 sizeOf47 rfl rfl (ah.atN.gr (hC.bl (Ze af ae)))) ?_;replace ag:=ag.kpp bc;refine Y9 (v:=(.agg #[.bool bb.1.1,.slice c0 bb.1.2.length c2,.slice c3 bb.2.length c4])) rfl rfl (fun _ hC=>Xn isAgg47 sizeOf47 rfl rfl (ag.atN.gr (hC.bl (Ze af ae)))) ?_;refine X5 (v:=(.pointer ((some (⟨co,0,none⟩:Addr)).map (·.add 4)))) rfl rfl (fun _=>Ux (sz:=1) (off:=4) underlying27 rfl sizeOf25 (by decide) rfl rfl ⟨_,_,rfl⟩) ?_;replace ab:=ab.kpp bc;refine Y9 (v:=(.slice bm ad.2.2.2.2.length bv)) rfl rfl (fun _ hC=>S1 isAgg25 rfl (((ab.atN).nth (q:=4) (v:=(.slice bm ad.2.2.2.2.length bv)) rfl).gr (hC.bl (Ze af ae)))) ?_;refine X5 (v:=(.int .i64 bh)) rfl rfl (fun _=>W0 rfl) ?_;obtain ⟨d8,cr,hm⟩:=bZ hm;replace aa:=aa.kpp bc;refine X5 (v:=(X3 bm (Int.toNat bh * 1))) rfl rfl (fun _=>Wb underlying25 sizeOf56 rfl rfl (Xp cr).1 (Xp cr).2.1 ((ck.ks aa).addr cr)) ?_;obtain ⟨_,d9,ea⟩:=(ck.ks aa).atN cr;obtain ⟨⟨dl,eb,rfl,dm⟩,_⟩:=d9;refine Y9 (v:=(.slice dl d8.length eb)) rfl rfl (fun _ hC=>S1 isAgg56 rfl (ea.one.gr (hC.bl (Ze af ae)))) ?_;refine X5 (v:=(.int .i64 a3)) rfl rfl (fun _=>W0 rfl) ?_;refine X5 (v:=(.pointer ((some (⟨co,0,none⟩:Addr)).map (·.add 2)))) rfl rfl (fun _=>Ux (sz:=1) (off:=2) underlying27 rfl sizeOf23 (by decide) rfl rfl ⟨_,_,rfl⟩) ?_
    refine Y9 (v:=(.slice bk ad.2.2.1.length bu)) rfl rfl (fun _ hC=>S1 isAgg23 rfl (((ab.atN).nth (q:=2) (v:=(.slice bk ad.2.2.1.length bu)) rfl).gr (hC.bl (Ze af ae)))) ?_;refine X5 (v:=(.int .i64 bh)) rfl rfl (fun _=>W0 rfl) ?_;refine X5 (v:=(X3 bk (Int.toNat bh * 1))) rfl rfl (fun _=>Wb underlying23 sizeOf22 rfl rfl (Xp bt).1 (Xp bt).2.1 ((bi.ks aa).addr bt)) ?_;obtain ⟨_,ec,ed⟩:=(bi.ks aa).atN bt;obtain ⟨⟨ee,ef,rfl,fy⟩,_⟩:=ec;refine Y9 (v:=(.slice ee bs.length ef)) rfl rfl (fun _ hC=>S1 isAgg22 rfl (ed.one.gr (hC.bl (Ze af ae)))) ?_;refine X5 (v:=(.int .i64 bs.length)) rfl rfl (fun _=>T7 underlying22 rfl) ?_;refine X5 (v:=(.int .i64 (i64.wrap (a3 * (bs.length:Int))))) rfl rfl (fun _=>Zib a3 (bs.length:Int) rfl rfl) ?_;refine X5 (v:=(.int .i64 br)) rfl rfl (fun _=>W0 rfl) ?_;refine X5 (v:=(.int .i64 (i64.wrap ((i64.wrap (a3 * (bs.length:Int)))+br)))) rfl rfl (fun _=>Qi (i64.wrap (a3 * (bs.length:Int))) br rfl rfl) ?_;obtain ⟨c8,ct,hm⟩:=bZ hm;refine X5 (v:=(X3 dl (Int.toNat (i64.wrap ((i64.wrap (a3 * (bs.length:Int)))+br)) * 3))) rfl rfl (fun _=>Wb underlying56 sizeOf47 rfl rfl (Xp ct).1 (Xp ct).2.1 (dm.addr ct)) ?_;obtain ⟨_,eg,eh⟩:=dm.atN ct;obtain ⟨_,_,rfl,ei,ej⟩:=Y5 eg;obtain ⟨_,_,rfl,ek,el⟩:=Y5 ei;obtain ⟨rfl,_⟩:=ek;obtain ⟨⟨em,en,rfl,c9⟩,_⟩:=el;obtain ⟨⟨eo,ep,rfl,da⟩,_⟩:=ej;refine Y9 (v:=(.agg #[.bool c8.1.1,.slice em c8.1.2.length en,.slice eo c8.2.length ep])) rfl rfl (fun _ hC=>Xn isAgg47 sizeOf47 rfl rfl (eh.gr (hC.bl (Ze af ae)))) ?_;refine Ym rfl rfl ?_;intro eq hC0;have hC:=hC0.bl (Ze af ae);obtain ⟨fz,er,hm⟩:=bZ hm;replace ai:=(ai.kpp bc).gr hC;replace aj:=(aj.kpp bc).gr hC;replace c9:=c9.gr hC;replace da:=da.gr hC;refine Zh (Zqx 8 9 er ((ai.toSlF (Zl.int .u32)).froz 4) ((aj.froz 3 (by decide)).toSlF (Zl.int .u32)) ((c9.froz 3).froz 4) ((da.froz 3).froz 4)) ?_;rintro _ a7 ⟨es,f0,f1,f2,f3,rfl,al,b9,ca⟩;refine ⟨_,rfl,?_⟩;replace b9:=b9.thaw (Zv .u32) al (((Fz.refl (col:=(Ze af ae))).froz 3).froz 4) (by decide);replace ca:=ca.thaw (Zv .u32) al (((Fz.refl (col:=(Ze af ae))).froz 3).froz 4) (by decide)
    replace al:=al.thawR (col:=(Ze af ae));generalize Z4 eq.heap.size (Ze af ae) es=bd at *;refine Zk ?_;refine ⟨fun w'=>Zg (Ze a7 bd) a7 (Ze a7 bd) w',fun g=>(Ze a7 bd) g=497,Zg.refl _ _,Yk,fun _=>⟨fun _ h=>Wm hC0 al h,fun b hb=>al.below.block b hb,fun g x1 x2=>Wr al g x1 (by first | exact x2 | (simp only [Xk,x2];rfl) | (simp only [Xk,Xz,x2];rfl))⟩,?_⟩;have ax:=Zz.clip (fun _=>false) bd a7;refine Ym rfl rfl ?_;intro et hC0;replace ak:=(((ak.kpp bc).gr hC).gr al).kpp ax;replace ap:=(((ap.kpp bc).gr hC).gr al).kpp ax;replace aq:=(((aq.kpp bc).gr hC).gr al).kpp ax;replace ag:=((ag.gr hC).gr al).kpp ax;replace ah:=((ah.gr hC).gr al).kpp ax;replace ab:=((ab.gr hC).gr al).kpp ax;replace aa:=((aa.grow hC).grow al).kpp ax;have hC:=hC0.bl (Ze a7 bd);obtain ⟨am,eu,hm⟩:=bZ hm;replace b9:=(b9.kpp ax).gr hC;replace ca:=(ca.kpp ax).gr hC;replace ap:=ap.gr hC;replace aq:=aq.gr hC;refine Zh (Znt 10 11 eu ((ap.froz 8).froz 9) ((aq.froz 8).froz 9) ((b9.toSlF (Zl.int .u32)).froz 9) ((ca.froz 8 (by decide)).toSlF (Zl.int .u32))) ?_;rintro _ ao ⟨ew,db,dc,dd,de,rfl,an,ar,au⟩;refine ⟨_,rfl,?_⟩;replace ar:=ar.thaw (Zv .u32) an (((Fz.refl (col:=(Ze a7 bd))).froz 8).froz 9) (by decide);replace au:=au.thaw (Zv .u32) an (((Fz.refl (col:=(Ze a7 bd))).froz 8).froz 9) (by decide);replace an:=an.thawR (col:=(Ze a7 bd));generalize Z4 et.heap.size (Ze a7 bd) ew=av at *;refine Zk ?_;refine ⟨fun w'=>Zg (Ze ao av) ao (Ze ao av) w',fun g=>(Ze ao av) g=497,Zg.refl _ _,Yk,fun _=>⟨fun _ h=>Wm hC0 an h,fun b hb=>an.below.block b hb,fun g x1 x2=>Wr an g x1 (by first | exact x2 | (simp only [Xk,x2];rfl) | (simp only [Xk,Xz,x2];rfl))⟩,?_⟩;have ay:=Zz.clip (fun _=>false) av ao;refine Qm rfl rfl (Ve zeroValue47) ?_;intro be ey;refine Ym rfl rfl ?_;intro ez ⟨hC0,hZ0⟩;replace ai:=((((ai.gr al).kpp ax).gr hC).gr an).kpp ay;replace aj:=((((aj.gr al).kpp ax).gr hC).gr an).kpp ay;replace ak:=((ak.gr hC).gr an).kpp ay;replace ag:=((ag.gr hC).gr an).kpp ay;replace ah:=((ah.gr hC).gr an).kpp ay;replace ab:=((ab.gr hC).gr an).kpp ay
    replace aa:=((aa.grow hC).grow an).kpp ay;have hC:=hC0.bl (Ze ao av);obtain ⟨az,df⟩:=S4 (col:=(Ze ao av)) 12 hZ0 ey;replace df:Zn 47 12 (Zu be 12 (Ze ao av)) ez be #[.bool false,.slice none (([]:List Int).length) 0,.slice none (([]:List Int).length) 0]:=df;refine Zw df ?_;intro bf a0 e0 a8;refine Zk ?_;refine ⟨fun w'=>Zg (Ze bf (Zu be 12 (Ze ao av))) bf (Ze bf (Zu be 12 (Ze ao av))) w',fun g=>(Ze bf (Zu be 12 (Ze ao av))) g=497,Zg.refl _ _,Yk,fun h=>absurd h (by decide),?_⟩;have aw:=Zz.clip (fun _=>false) (Zu be 12 (Ze ao av)) bf;refine Zbs ?_;replace ap:=(((((ap.gr an).kpp ay).gr hC).kpp az).kp a0).kpp aw;replace aq:=(((((aq.gr an).kpp ay).gr hC).kpp az).kp a0).kpp aw;replace ar:=((((ar.kpp ay).gr hC).kpp az).kp a0).kpp aw;replace au:=((((au.kpp ay).gr hC).kpp az).kp a0).kpp aw;replace ai:=(((ai.gr hC).kpp az).kp a0).kpp aw;replace aj:=(((aj.gr hC).kpp az).kp a0).kpp aw;replace ak:=(((ak.gr hC).kpp az).kp a0).kpp aw;replace ag:=(((ag.gr hC).kpp az).kp a0).kpp aw;replace ah:=(((ah.gr hC).kpp az).kp a0).kpp aw;replace ab:=(((ab.gr hC).kpp az).kp a0).kpp aw;replace aa:=(((aa.grow hC).kpp az).kp a0 e0).kpp aw;intro e1 hC;replace hC:Zg (Ze bf (Zu be 12 (Ze ao av))) bf (Ze bf (Zu be 12 (Ze ao av))) e1:=.of_below hC.below;refine go ?_;replace ah:=ah.gr hC;refine lV _ (Xa isAgg47 sizeOf47 ah) ?_;replace a8:=(a8.kpp aw).gr hC;refine lV _ (Xa isAgg47 sizeOf47 a8)<|lV (.agg #[.bool a4,.slice bn a5.length bo,.slice bp a6.length bq,.bool am.1.1,.slice db am.1.2.length dc,.slice dd am.2.length de]) (Yc (l:=[_,_]) (qs:=[(0,3),(3,3)]) underlying49 zeroValue49 ⟨rfl,sizeOf47,rfl,sizeOf47,trivial⟩ rfl) ?_;replace ai:=ai.gr hC;replace ai:=ai.froz 11 (by decide);replace aj:=aj.gr hC;replace aj:=aj.froz 11 (by decide);replace ap:=ap.gr hC;replace ap:=ap.froz 11;replace aq:=aq.gr hC;replace aq:=aq.froz 11;replace ar:=ar.gr hC;replace ar:=ar.froz 11 (by decide);replace au:=au.gr hC;replace au:=(au).toSlF (Zl.int .u32);replace ak:=ak.gr hC;replace ak:=ak.froz 11 (by decide);replace ag:=ag.gr hC;replace ag:=ag.froz 11 (by decide);replace ah:=ah.froz 11 (by decide);replace ab:=ab.gr hC;replace ab:=ab.froz 11 (by decide)
    replace a8:=a8.froz 11 (by decide);replace aa:=aa.grow hC;replace aa:=aa.froz 11 (by decide) (by decide);replace ai:=ai.froz 10 (by decide);replace aj:=aj.froz 10 (by decide);replace ap:=ap.froz 10;replace aq:=aq.froz 10;replace ar:=(ar).toSlF (Zl.int .u32);replace au:=au.froz 10;replace ak:=ak.froz 10 (by decide);replace ag:=ag.froz 10 (by decide);replace ah:=ah.froz 10 (by decide);replace ab:=ab.froz 10 (by decide);replace a8:=a8.froz 10 (by decide);replace aa:=aa.froz 10 (by decide) (by decide);refine Zb0 (col:=(Xk 10 (Xk 11 (Ze bf (Zu be 12 (Ze ao av)))))) (r:=(Za.pair (Za.pair (Za.pair Za.bool (Za.slice (Za.int .u32))) (Za.slice (Za.int .u32))) (Za.pair (Za.pair Za.bool (Za.slice (Za.int .u32))) (Za.slice (Za.int .u32))))) (xs:=[(((a4,a5),a6),((am.1.1,am.1.2),am.2))]) [(.agg #[.bool a4,.slice bn a5.length bo,.slice bp a6.length bq,.bool am.1.1,.slice db am.1.2.length dc,.slice dd am.2.length de])] 13 (Ui.ofF (Rows.consF (r:=(Za.pair (Za.pair (Za.pair Za.bool (Za.slice (Za.int .u32))) (Za.slice (Za.int .u32))) (Za.pair (Za.pair Za.bool (Za.slice (Za.int .u32))) (Za.slice (Za.int .u32))))) (x:=(((a4,a5),a6),((am.1.1,am.1.2),am.2))) (cs:=[.bool a4,.slice bn a5.length bo,.slice bp a6.length bq,.bool am.1.1,.slice db am.1.2.length dc,.slice dd am.2.length de]) (Uf (Uf (Uf (Zc7 a4) (Zah ap)) (Zah aq)) (Uf (Uf (Zc7 am.1.1) (Zah ar)) (Zah au))) Rows.nil0)) ?_;intro f4 f5 f6 a9 e2;obtain ⟨e3,hm⟩:=Z3 hm;replace ak:=ak.gr a9;refine Ws ak (e2.srcN (NB.pair (NB.pair (NB.pair NB.bool NB.slice) NB.slice) (NB.pair (NB.pair NB.bool NB.slice) NB.slice))) e3 ?_;intro f7 f8 f9 ga bg dg;refine go ?_;replace a8:=(a8.gr a9).kpp bg;refine lV _ (Xa isAgg47 sizeOf47 a8) ?_;replace ah:=(ah.gr a9).kpp bg;refine Zw ah ?_;intro gb bj e4 e5;refine go ?_;replace ai:=((ai.gr a9).kpp bg).kp bj;replace aj:=((aj.gr a9).kpp bg).kp bj;replace ar:=((ar.gr a9).kpp bg).kp bj;replace au:=((au.gr a9).kpp bg).kp bj;replace ag:=((ag.gr a9).kpp bg).kp bj;replace ab:=((ab.gr a9).kpp bg).kp bj;replace aa:=((aa.grow a9).kpp bg).kp bj e4;replace dg:=dg.kp bj;exact ⟨b0,by omega,rfl,⟨_,_,_,_,_,_,_,_,_,_,_,_,_,rfl,hm,aa,ai,aj,ag,dg,ar,au,e5,ab,rfl⟩⟩
   cases hm;exact ⟨rfl,_,_,_,rfl,aa.fin (cm [(7,c1)]),aa.fo ak⟩
section
variable {N K:Nat} {n:Xu} (hf:Uh N n) (w:List Int) (hw:Vv n w)
include hf hw
theorem Zwq (hr:Xe N (8 * K+40)) {v:Nat} (hv:v<n.2.1.length) (hl:∀ x ∈ Ye n w v,W2 x∧max x.1.2.length x.2.length≤K) {long:Rat} (hlong:qs long≤K):
  ∀ (l:List QV) (f j:Nat) (a:Rat) (parts:List (QV×QV)),(Ye n w v).drop j=l→j≤cnt n v→cnt n v<f+j→qs a≤K→(∀ p ∈ V0 long l a,qs p.1≤K∧qs p.2≤K)→parts.length=j→
   Zcx N n (v:Int) (Vo n w v:Int) (Zm long) f parts (Zm a).1.1 (Zm a).1.2 (Zm a).2 (j:Int)=some (parts++(V0 long l a).map W1)
 | l,0,j,a,parts,_,h1,h2,_,_,_=>by omega
 | l,f+1,j,a,parts,hd,h1,h2,ha,hp,hpl=>by
  have hlen:=hf.rowT_len hw hv
  have hrow:=hf.row hw hv
  have hrows:=hf.rows hv
  rw [Zcx.eq_2,Vl [] (by rw [hf.ev.v];exact hv),Option.bind_some]
  cases l with
  | nil=>
   have h3:=List.drop_eq_nil_iff.1 hd
   rw [if_neg (by rw [decide_eq_false (by rw [cnt] at h1 hlen;omega)];decide),V0,List.map_nil,List.append_nil]
  | cons y l=>
   have hj:j<(Ye n w v).length:=by
    rcases Nat.lt_or_ge j (Ye n w v).length with h | h
    ·exact h
    ·rw [List.drop_eq_nil_of_le h] at hd;cases hd
   have hy:(Ye n w v)[j]=y∧(Ye n w v).drop (j+1)=l:=by
    rw [List.drop_eq_getElem_cons hj] at hd
    exact List.cons.inj hd
   have hyK:=hl y (hy.1 ▸ List.getElem_mem hj)
   have hjc:j<cnt n v:=by omega
   have hq:=hp _ List.mem_cons_self
   have e0:(0:Int)≤((Vo n w v * cnt n v:Nat):Int):=Int.natCast_nonneg _
   have e1:i64.wrap ((Vo n w v:Int) * ((n.2.2.1.getD v []).length:Int))=((Vo n w v * cnt n v:Nat):Int):=by
    rw [show ((n.2.2.1.getD v []).length:Int)=((cnt n v:Nat):Int) from rfl,← Int.natCast_mul]
    exact Zt (by omega)
   have e2:i64.wrap (((Vo n w v * cnt n v:Nat):Int)+(j:Int))=((Vo n w v * cnt n v+j:Nat):Int):=by
    rw [← Int.natCast_add]
    exact Zt (by omega)
   have r1:=Zda hyK.1.1 hyK.1.2
   have m1:Zcq N (((Zm long).1.1,(Zm long).1.2),(Zm long).2) ((y.1.1,y.1.2),y.2)=some (Zm (long * Z6 y)):=by
    have:=Zvy (Y2 hlong) (r1.mono hyK.2) (hr.mono (by omega))
    rwa [Yr] at this
   have s1:qs (long * Z6 y)≤K+(K+1):=by
    have h4:=Zh9 long (Z6 y)
    have h5:=Zml hyK.1
    omega
   have a1:Zcp N (((Zm a).1.1,(Zm a).1.2),(Zm a).2) (((Zm (long * Z6 y)).1.1,(Zm (long * Z6 y)).1.2),(Zm (long * Z6 y)).2)=some (Zm (a+long * Z6 y)):=by
    have:=Zpf (Y2 ha) (Y2 s1) (hr.mono (by omega))
    rwa [Yr,Yr] at this
   rw [if_pos (decide_eq_true (by rw [cnt] at hjc;omega)),Vl [] (by rw [hf.ev.t];exact hv),Option.bind_some,e1,e2,Zwj hj,hy.1,Option.bind_some,m1,Option.bind_some,a1,Option.bind_some,
    Z9 (by simp only [List.length_singleton,maxLen];omega),Zt (x:=(j:Int)+1) (by omega)]
   have ih:=Zwq hr hv hl hlong l f (j+1) (a+long * Z6 y) (parts++[W1 (a,a+long * Z6 y)]) hy.2 (by omega) (by omega) hq.2 (fun p h=>hp p (List.mem_cons_of_mem _ h)) (by rw [List.length_append,List.length_singleton];omega)
   rw [List.append_assoc] at ih
   exact ih
theorem Zwp (s:QV×QV) {v:Nat} (hv:v<n.2.1.length) (hps:(n.2.2.2.1.getD v []).length≤1048576):∀ (f i r k:Nat),i≤(n.2.2.2.1.getD v []).length→(n.2.2.2.1.getD v []).length<f+i→r<k→k≤65536→Yh n.2.2.1 ((n.2.2.2.1.getD v []).drop i) k≤65536→
  Ze1 N n (v:Int) w s f (i:Int) (r:Int)=(Za9 N ((s.2.1.1,s.2.1.2),s.2.2) ((s.1.1.1,s.1.1.2),s.1.2)).bind fun d=>Zcx N n (v:Int) (Zaj n w ((n.2.2.2.1.getD v []).drop i) r:Int) d N ([]:List (QV×QV)) s.1.1.1 s.1.1.2 s.1.2 0
 | 0,i,r,k,h1,h2,_,_,_=>by omega
 | f+1,i,r,k,h1,h2,g1,g2,g3=>by
  rw [Ze1.eq_2,Vl [] (by rw [hf.ev.p];exact hv),Option.bind_some]
  by_cases hi:i<(n.2.2.2.1.getD v []).length
  ·have hp:∀ q ∈ (n.2.2.2.1.getD v []).drop i,0≤q∧q<(n.2.1.length:Int):=fun q hq=>hf.pars hv q (List.mem_of_mem_drop hq)
   rw [List.drop_eq_getElem_cons hi] at g3 hp ⊢
   obtain ⟨c1,c2,c3⟩:=Zpi hf.ev hw hp g1 g2 g3
   generalize he:(n.2.2.2.1.getD v [])[i]=p at *
   have hpp:=hp p List.mem_cons_self
   have hwp:=hw.ok p.toNat (by rw [hw.len];omega)
   have g4:r * cnt n p.toNat≤k * cnt n p.toNat:=Nat.mul_le_mul_right _ (by omega)
   have q1:Zo n.2.2.1 p=some (n.2.2.1.getD p.toNat []):=by
    have:=Vl (l:=n.2.2.1) [] (j:=p.toNat) (by rw [hf.ev.v];omega)
    rwa [show ((p.toNat:Nat):Int)=p by omega] at this
   have q2:Zo w p=some (w.getD p.toNat 0):=by
    have:=Vl (l:=w) 0 (j:=p.toNat) (by rw [hw.len];omega)
    rwa [show ((p.toNat:Nat):Int)=p by omega] at this
   have e1:i64.wrap ((r:Int) * ((n.2.2.1.getD p.toNat []).length:Int))=((r * cnt n p.toNat:Nat):Int):=by
    rw [show ((n.2.2.1.getD p.toNat []).length:Int)=((cnt n p.toNat:Nat):Int) from rfl,← Int.natCast_mul]
    exact Zt (by omega)
   have e2:i64.wrap (((r * cnt n p.toNat:Nat):Int)+w.getD p.toNat 0)=((r * cnt n p.toNat+(w.getD p.toNat 0).toNat:Nat):Int):=by
    rw [Int.natCast_add,show (((w.getD p.toNat 0).toNat:Nat):Int)=w.getD p.toNat 0 by omega]
    exact Zt (by omega)
   rw [if_pos (decide_eq_true (by omega)),Z7 hi,he,Option.bind_some,q1,Option.bind_some,q2,Option.bind_some,e1,e2,wS (by omega)]
   exact Zwp s hv hps f (i+1) _ _ (by omega) (by omega) c1 c2 c3
  ·rw [if_neg (by rw [decide_eq_false (by omega)];decide),List.drop_eq_nil_of_le (by omega)];rfl
end
section
variable {N W K:Nat} {n:Xu} (hf:Uh N n) (hs:Ur n W) (hr:Xe N (8 * K+40)) (hWK:W≤K) (hN:1048577<N)
include hf hs hr hWK hN
theorem Z4b {w:List Int} (hw:Vv n w) {v:Nat} (hv:v<n.2.1.length) {D M:Nat} {s:Rat×Rat} (hL:Td D M s) (hK:(Zd M).length+(Zd D).length+(W+2)+2≤K):
  Zhv N n (v:Int) w (W1 s)=some ((V0 (s.2 - s.1) (Ye n w v) s.1).map W1):=by
 obtain ⟨D',M',c1,c2,c3⟩:=Zol hf hs hw hv hL
 have hrows:=hf.rows hv
 have hcl:cnt n v≤65536:=by have:=(hf.row hw hv).1;omega
 have hps:(n.2.2.2.1.getD v []).length≤1048576:=by
  rw [Yp (by rw [hf.ev.p];exact hv)]
  exact hs.pn.ls _ (List.getElem_mem _)
 have hsub:Za9 N (((W1 s).2.1.1,(W1 s).2.1.2),(W1 s).2.2) (((W1 s).1.1.1,(W1 s).1.1.2),(W1 s).1.2)=some (Zm (s.2 - s.1)):=by
  have:=Zv0 (Y2 hL.qb) (Y2 hL.qa) (hr.mono (s:=2 * ((Zd M).length+(Zd D).length+2 * ((Zd M).length+(Zd D).length)+4)) (by omega))
  rwa [Yr,Yr] at this
 have h1:=Zwp hf w hw (W1 s) hv hps N 0 0 1 (Nat.zero_le _) (by omega) (by omega) (by omega) hrows.2.2
 rw [show ((0:Nat):Int)=0 from rfl,List.drop_zero,hsub,Option.bind_some] at h1
 rw [Zhv,h1]
 have h3:=Zwq hf w hw hr hv (fun x hx=>by have:=Zn6 hf hs hv x (Zma hx);exact ⟨this.1,by omega⟩) (long:=s.2 - s.1) (by omega) (Ye n w v) N 0 s.1 [] rfl (Nat.zero_le _) (by omega) (by have:=hL.qa;omega) (fun p hp=>⟨by have:=(c2 p hp).qa;omega,by have:=(c2 p hp).qb;omega⟩) rfl
 rw [show ((0:Nat):Int)=0 from rfl,List.nil_append] at h3
 exact h3
end
def Zf2:Option R1:=
  some ((false,[1]),[1])
theorem Zqg {col:Zf} {w0:World} {r:R1} (c1 c2:Nat) (hm:Zf2=some r):
    Calls Tryz.prog 97 #[] w0 (fun e w'=>∃ (col':Zf) (ra1:Option Addr) (rc2:Nat) (ra4:Option Addr) (rc5:Nat),e= .returned ((.agg #[.bool r.1.1,.slice ra1 r.1.2.length rc2,.slice ra4 r.2.length rc5]))∧Zg col w0 col' w'∧Zc (Za.int .u32) 79 c1 col' w' ra1 rc2 r.1.2∧Zc (Za.int .u32) 79 c2 col' w' ra4 rc5 r.2):=by
 refine X2 (m:=5) func97 rfl rfl rfl ?_;rw [Zf2.eq_1] at hm;have aa:=St.start col w0;refine go ?_;refine Xf (col:=(Zi col)) #[.bool false,.slice none (([]:List Int).length) 0,.slice none (([]:List Int).length) 0] 1 zeroValue47 ?_;intro ao ap ai aj ab;refine go ?_;refine Wx (col:=ai) [1] 2 ?_;intro ag aq ak ah ac;refine lV (.agg #[.bool false,.slice ag ([1].length) 1]) (Yc (l:=[_,_]) (qs:=[(0,1),(1,1)]) underlying45 zeroValue45 ⟨rfl,sizeOf4,rfl,sizeOf43,trivial⟩ rfl)<|Wx (col:=ak) [1] 3 ?_;intro al ar au ad ae;refine lV (.agg #[.bool false,.slice ag ([1].length) 1,.slice al ([1].length) 1]) (Yc (l:=[_,_]) (qs:=[(0,2),(2,1)]) underlying47 zeroValue47 ⟨rfl,sizeOf45,rfl,sizeOf43,trivial⟩ rfl) ?_;replace ab:=(ab.gr ah).gr ad;refine Zw ab ?_;intro av af am an;refine go ?_;cases hm;replace aa:=(((aa.grow aj).grow ah).grow ad).kp af am;replace ac:=(ac.gr ad).kp af;replace ae:=ae.kp af;exact ⟨rfl,_,ra an.atN,_,_,1,_,1,rfl,aa.fin (cm [(2,c1),(3,c2)]),aa.fo ac,aa.fo ae⟩
abbrev Zp1:=Option (List Int×(QV×QV)×Bool)
theorem Zr8:Zf2=some (Zm 1):=by
 rw [Zf2,show Zm 1=((false,[1]),[1]) by rw [Zm,Zs];simp [W8]]
theorem Vv.zero {n:Xu} (he:Tc n):Vv n (List.replicate n.2.1.length 0):=by
 refine ⟨List.length_replicate,fun i hi=>?_⟩
 rw [List.length_replicate] at hi
 have:=Zn3 he hi
 rw [List.getD_eq_getElem?_getD,List.getElem?_replicate,if_pos hi]
 simp;exact this
theorem Z1f {N:Nat} (hr:Xe N 16):Zdp N ([]:List QV)=some (Zm 0):=by
 have:=(Zob (N:=N) (l:=[]) (by simp) hr).1
 rwa [Vf,List.map_nil,List.sum_nil] at this
def Zfw (aa:Int) (ad:Rj) (ab:List Int):Option Int:=
  (Zo ab aa).bind fun ac=>some ac
theorem Zx7 (col:Zf) (w0:World) (qc2:Nat) (hqqc2:qc2≠0) (af:Int) (a1:Option Addr) (ag:Nat) (ab:Rj) (g2:Nat) (ac:List Int) (ah:Option Addr) (ai:Nat) (h1:Sl (Za.pair (Za.pair (Za.pair Za.bool (Za.slice (Za.int .u32))) (Za.slice (Za.int .u32))) (Za.pair (Za.pair Za.bool (Za.slice (Za.int .u32))) (Za.slice (Za.int .u32)))) col w0 a1 ag ab) (aa:Sl (Za.int .i64) col w0 ah ai ac) (hb2:Zn 40 qc2 col w0 g2 #[.slice ah ac.length ai]) (r:Int) (hm:Zfw af ab ac=some r):
    Calls Tryz.prog 91 #[.int .i64 af,.slice a1 ab.length ag,.pointer (some ⟨g2,0,none⟩)] w0 (fun e w'=>e= .returned ((.int .i64 r))∧Below w0.heap.size w0 w'):=by
 refine Xi 5 (m:=10) func91 rfl rfl rfl rfl rfl ?_;rw [Zfw.eq_1] at hm;have ad:=St.start col w0;replace hb2:=hb2.start0 hqqc2;refine go ?_;refine lW hb2.at1<|Xo rfl ?_;obtain ⟨aj,ae,hm⟩:=bZ hm;replace aa:=aa.keep (Zj.start col w0);refine lI ae ((aa.ks ad).addr ae)<|lW ((aa.ks ad).atInt ae) ?_;refine go ?_;cases hm;exact ⟨rfl,rfl,ad.below⟩
def Zdn (N:Nat) (ai:R0) (aj:List Int) (ap:Bool) (aq:List Int) (ar:List Int) (au:Bool) (av:List Int) (aw:List Int) (ak:List Int) (kk_L1:(Bool→R2→R2→Bool→R2→R2→R2→Bool→R2→R2→Bool→R2→R2→R2→Option Re)) (ab:Int) (ax:Int) (ae:R1) (ay:List ByteArray):Nat→Bool→R2→R2→Rj→Int→Option Re
  | 0,_,_,_,_,_=>none
  | az+1,af,ag,ah,ad,al=>if (decide (al<(ay.length:Int)))=true then ((Zo ai.2.2.2.2 ab).bind fun a0=>(Zo ai.2.2.1 ab).bind fun a1=>(Zo a0 (i64.wrap ((i64.wrap (ax * (a1.length:Int)))+al))).bind fun am=>(Zas N ((ae.1.1,ae.1.2),ae.2) ((am.1.1,am.1.2),am.2)).bind fun an=>(Qa N ((af,ag),ah) ((an.1.1,an.1.2),an.2)).bind fun aa=>Z1 ((ad.length+[(((af,ag),ah),((aa.1.1,aa.1.2),aa.2))].length) * 112≤140737488355328∧ad.length+[(((af,ag),ah),((aa.1.1,aa.1.2),aa.2))].length≤maxLen) ((Zdn N ai aj ap aq ar au av aw ak kk_L1 ab ax ae ay az) aa.1.1 aa.1.2 aa.2 (ad++[(((af,ag),ah),((aa.1.1,aa.1.2),aa.2))]) (i64.wrap (al+1)))) else ((Zfw ab ad aj).bind fun ao=>if (decide (ao<0))=true then (some (([]:List Int),(((false,([]:List Int)),([]:List Int)),((false,([]:List Int)),([]:List Int))),false)) else ((Zo ad ao).bind fun ac=>(Zo ak ab).bind fun a3=>(some (ak.set (Int.toNat ab) ao)).bind fun a2=>kk_L1 ac.1.1.1 ac.1.1.2 ac.1.2 ac.2.1.1 ac.2.1.2 ac.2.2 aj ap aq ar au av aw a2))
termination_by structural x=>x
def Zap (N:Nat) (aa:R0) (ab:Bool) (ac:List Int) (ad:List Int) (ah:Bool) (ai:List Int) (aj:List Int) (ak:List Int) (al:Bool) (am:List Int) (an:List Int) (ao:Bool) (ap:List Int) (aq:List Int) (ae:List Int) (kk_L1:(Bool→R2→R2→Bool→R2→R2→R2→Bool→R2→R2→Bool→R2→R2→R2→Option Re)) (af:Int):List Int→Int→Option Re
  | [],ag=>(Zb7 N ((ah,ai),aj) ((ab,ac),ad)).bind fun au=>(Zo aa.2.2.1 af).bind fun av=>Zdn N aa ak al am an ao ap aq ae kk_L1 af ag au av N ab ac ad ([]:List (R1×R1)) 0
  | ar :: aw,ag=>(Zo aa.2.2.1 ar).bind fun ax=>(Zo ae ar).bind fun ay=>(Zap N aa ab ac ad ah ai aj ak al am an ao ap aq ae kk_L1 af aw) (i64.wrap ((i64.wrap (ag * (ax.length:Int)))+ay))
termination_by structural x=>x
def S9 (N:Nat) (aa:R0):List Int→Bool→R2→R2→Bool→R2→R2→R2→Bool→R2→R2→Bool→R2→R2→R2→Option Re
  | [],ab,ac,ad,ae,af,ag,ai,aj,ak,al,am,an,ao,ah=>some (ah,(((ab,ac),ad),((ae,af),ag)),true)
  | ap :: aq,ab,ac,ad,ae,af,ag,ai,aj,ak,al,am,an,ao,ah=>(Zo aa.2.2.2.1 ap).bind fun ar=>Zap N aa ab ac ad ae af ag ai aj ak al am an ao ah (S9 N aa aq) ap ar 0
termination_by structural x=>x
def Zfy (N:Nat) (aa:R0) (ad:List Int) (ae:List Int):Option Re:=
  Z1 (aa.2.1.length * 8≤281474976710656∧aa.2.1.length≤maxLen) ((Zdp N ([]:List R1)).bind fun ab=>(Zf2).bind fun ac=>S9 N aa ad ab.1.1 ab.1.2 ab.2 ac.1.1 ac.1.2 ac.2 ae false ([]:List Int) ([]:List Int) false ([]:List Int) ([]:List Int) (List.replicate aa.2.1.length (0:Int)))
theorem Zx8 {N dy c5 dz c6 fm g3 fn:Nat} {d0 cr d1 ct a1 fp:Option Addr} {col:Zf} {w0:World} {ag:R0} {c7 em:R2} {r:Re} (c1 qc3:Nat) (hm:Zfy N ag c7 em=some r) (hqqc3:qc3≠0) (i4:Sl Za.str col w0 d0 dy ag.2.1) (cu:Sl (Za.slice Za.str) col w0 cr c5 ag.2.2.1) (ec:Sl (Za.slice (Za.int .i64)) col w0 d1 dz ag.2.2.2.1) (ed:Sl (Za.slice (Za.pair (Za.pair Za.bool (Za.slice (Za.int .u32))) (Za.slice (Za.int .u32)))) col w0 ct c6 ag.2.2.2.2) (h1:Sl (Za.int .i64) col w0 a1 fm c7) (en:Sl (Za.int .i64) col w0 fp fn em) (hb3:Zn 40 qc3 col w0 g3 #[.slice fp em.length fn]):
    Calls Tryz.prog 90 #[(.agg #[.string ag.1,.slice d0 ag.2.1.length dy,.slice cr ag.2.2.1.length c5,.slice d1 ag.2.2.2.1.length dz,.slice ct ag.2.2.2.2.length c6]),.slice a1 c7.length fm,(.func (.func 91) #[] #[.pointer (some ⟨g3,0,none⟩)])] w0 (fun e w'=>∃ (col':Zf) (ra1:Option Addr) (rc2:Nat) (ra4:Option Addr) (rc5:Nat) (ra7:Option Addr) (rc8:Nat) (ra10:Option Addr) (rc11:Nat) (ra13:Option Addr) (rc14:Nat),e= .returned (.tuple #[.slice ra1 r.1.length rc2,(.agg #[.bool r.2.1.1.1.1,.slice ra4 r.2.1.1.1.2.length rc5,.slice ra7 r.2.1.1.2.length rc8,.bool r.2.1.2.1.1,.slice ra10 r.2.1.2.1.2.length rc11,.slice ra13 r.2.1.2.2.length rc14]),.bool r.2.2])∧Zg col w0 col' w'∧Zc (Za.int .i64) 3 c1 col' w' ra1 rc2 r.1∧Sl (Za.int .u32) col' w' ra4 rc5 r.2.1.1.1.2∧Sl (Za.int .u32) col' w' ra7 rc8 r.2.1.1.2∧Sl (Za.int .u32) col' w' ra10 rc11 r.2.1.2.1.2∧Sl (Za.int .u32) col' w' ra13 rc14 r.2.1.2.2):=by
 refine X2 (m:=122) func90 rfl rfl rfl ?_;rw [Zfy.eq_1] at hm;have aa:=St.start col w0;replace hb3:=hb3.start0 hqqc3;refine go ?_;refine Xd (col:=(Zi col)) 1 rfl ?_;intro d2 i5 fv fq ab;refine Tt rfl<|Xf (col:=fv) #[.bool false,.slice none (([]:List Int).length) 0,.slice none (([]:List Int).length) 0,.bool false,.slice none (([]:List Int).length) 0,.slice none (([]:List Int).length) 0] 2 zeroValue49 ?_;intro eo fw fx ep ac;refine go ?_;refine Xh ⟨_,_,rfl⟩ ?_;replace ab:=ab.gr ep;refine lW ((ab.atN).nth (q:=1) rfl)<|go ?_;obtain ⟨fr,hm⟩:=Z3 hm;refine Sh (col:=fx) (w:=fw) (r:=(Za.int .i64)) (n:=ag.2.1.length) (x0:=0) 3 rfl underlying40 Tryz.t3 rfl rfl rfl rfl rfl rfl rfl fr.1 fr.2 (S3 .i64 0) ?_;intro i6 i7 fy ee bu;refine go ?_;obtain ⟨eq,fz,hm⟩:=bZ hm;refine Zh (Zql (col:=fy) 4 5 fz Sl.nil) ?_;rintro _ i8 ⟨f0,f1,f2,f3,f4,rfl,d3,bv,bw⟩;refine ⟨_,rfl,?_⟩;obtain ⟨er,f5,hm⟩:=bZ hm;refine lc rfl rfl (Zbn call97) (Zqg (col:=f0) 6 7 f5:) ?_;rintro _ i9 ⟨f6,f7,f8,f9,ga,rfl,c8,bx,bz⟩;refine ⟨_,rfl,?_⟩;refine lV (.agg #[.bool eq.1.1,.slice f1 eq.1.2.length f2,.slice f3 eq.2.length f4,.bool er.1.1,.slice f7 er.1.2.length f8,.slice f9 er.2.length ga]) (Yc (l:=[_,_]) (qs:=[(0,3),(3,3)]) underlying49 zeroValue49 ⟨rfl,sizeOf47,rfl,sizeOf47,trivial⟩ rfl)<|Xf (col:=f6) #[.bool false,.slice none (([]:List Int).length) 0,.slice none (([]:List Int).length) 0,.bool false,.slice none (([]:List Int).length) 0,.slice none (([]:List Int).length) 0] 8 zeroValue49 ?_;intro es ja jb cg gb;refine Zw gb ?_;intro jc ch gc ad;refine go ?_;replace bu:=(((bu.gr d3).gr c8).gr cg).kp ch;replace bu:=bu.froz 4 (by decide);replace bv:=((bv.gr c8).gr cg).kp ch;replace bv:=(bv).toSlF (Zl.int .u32);replace bw:=((bw.gr c8).gr cg).kp ch;replace bw:=bw.froz 4 (by decide);replace bx:=(bx.gr cg).kp ch;replace bx:=bx.froz 4 (by decide);replace bz:=(bz.gr cg).kp ch;replace bz:=bz.froz 4 (by decide);replace hb3:=((((((hb3.gr fq).gr ep).gr ee).gr d3).gr c8).gr cg).kp ch;replace hb3:=hb3.froz 4 (by decide);replace ab:=((((ab.gr ee).gr d3).gr c8).gr cg).kp ch;replace ab:=ab.froz 4 (by decide);replace ac:=((((ac.gr ee).gr d3).gr c8).gr cg).kp ch;replace ac:=ac.froz 4 (by decide);replace ad:=ad.froz 4 (by decide)
 replace aa:=((((((aa.grow fq).grow ep).grow ee).grow d3).grow c8).grow cg).kp ch gc;replace aa:=aa.froz 4 (by decide) (by decide);replace bu:=bu.froz 5 (by decide);replace bv:=bv.froz 5;replace bw:=(bw).toSlF (Zl.int .u32);replace bx:=bx.froz 5 (by decide);replace bz:=bz.froz 5 (by decide);replace hb3:=hb3.froz 5 (by decide);replace ab:=ab.froz 5 (by decide);replace ac:=ac.froz 5 (by decide);replace ad:=ad.froz 5 (by decide);replace aa:=aa.froz 5 (by decide) (by decide);replace bu:=bu.froz 6 (by decide);replace bv:=bv.froz 6;replace bw:=bw.froz 6;replace bx:=(bx).toSlF (Zl.int .u32);replace bz:=bz.froz 6 (by decide);replace hb3:=hb3.froz 6 (by decide);replace ab:=ab.froz 6 (by decide);replace ac:=ac.froz 6 (by decide);replace ad:=ad.froz 6 (by decide);replace aa:=aa.froz 6 (by decide) (by decide);replace bu:=bu.froz 7 (by decide);replace bv:=bv.froz 7;replace bw:=bw.froz 7;replace bx:=bx.froz 7;replace bz:=(bz).toSlF (Zl.int .u32);replace hb3:=hb3.froz 7 (by decide);replace ab:=ab.froz 7 (by decide);replace ac:=ac.froz 7 (by decide);replace ad:=ad.froz 7 (by decide);replace aa:=aa.froz 7 (by decide) (by decide);replace en:=en.keep (Zj.start col w0)
 refine Z8 [10,2,29,3,30,7,1000000] (fun n f bh=>∃ a6 cv ci cj b0 ck cl b1 c9 cw cx b3 cy cz b4 c0 c2 b2 d4 da db dc b5 dd de b6 df dg dh b7 di dj b8 dl dm b9 d5,n=d5.length∧c7.drop d4=d5∧S9 N ag d5 cv b0 b1 c9 b3 b4 b2 da b5 b6 df b7 b8 b9=some r∧St w0 (Zi col) a6 bh∧Sl (Za.int .u32) a6 bh ci cj b0∧Sl (Za.int .u32) a6 bh ck cl b1∧Sl (Za.int .u32) a6 bh cw cx b3∧Sl (Za.int .u32) a6 bh cy cz b4∧Zn 49 8 a6 bh es #[.bool cv,.slice ci b0.length cj,.slice ck b1.length cl,.bool c9,.slice cw b3.length cx,.slice cy b4.length cz]∧Sl (Za.int .i64) a6 bh c0 c2 b2∧Zn 40 999 a6 bh g3 #[.slice c0 b2.length c2]∧Zn 27 1 a6 bh d2 #[.string ag.1,.slice d0 ag.2.1.length dy,.slice cr ag.2.2.1.length c5,.slice d1 ag.2.2.2.1.length dz,.slice ct ag.2.2.2.2.length c6]∧Zc (Za.int .u32) 79 9 a6 bh db dc b5∧Zc (Za.int .u32) 79 10 a6 bh dd de b6∧Zc (Za.int .u32) 79 11 a6 bh dg dh b7∧Zc (Za.int .u32) 79 12 a6 bh di dj b8∧Zn 49 2 a6 bh eo #[.bool da,.slice db b5.length dc,.slice dd b6.length de,.bool df,.slice dg b7.length dh,.slice di b8.length dj]∧Zc (Za.int .i64) 3 3 a6 bh dl dm b9∧[31,9].map f=[.int .i64 d4,.slice dl b9.length dm]) c7.length ⟨_,_,_,_,_,_,_,_,_,_,_,_,_,_,_,_,_,_,0,_,none,0,_,none,0,_,_,none,0,_,none,0,_,_,_,_,_,rfl,rfl,hm,aa,bv,bw,bx,bz,ad,(en.ks aa),hb3,ab,Zc.nil,Zc.nil,Zc.nil,Zc.nil,ac,bu,rfl⟩ ?_;clear hm;intro n f bh hI;obtain ⟨a6,cv,ci,cj,b0,ck,cl,b1,c9,cw,cx,b3,cy,cz,b4,c0,c2,b2,d4,da,db,dc,b5,dd,de,b6,df,dg,dh,b7,di,dj,b8,dl,dm,b9,d5,hn,hl,hm,aa,ai,aj,ak,al,ad,am,hb3,ab,an,ao,ap,aq,ac,ah,hs⟩:=hI;subst hn;refine .lL [31,9] hs ?_;replace cu:=cu.keep (Zj.start col w0);replace ec:=ec.keep (Zj.start col w0);replace ed:=ed.keep (Zj.start col w0);replace h1:=h1.keep (Zj.start col w0)
 cases d5 with
 | nil=>
  have hk:¬ ((d4:Int)<(c7.length:Int)):=by have:=List.drop_eq_nil_iff.1 hl;omega
  have hkb:=decide_eq_false hk;rw [S9.eq_1] at hm;refine go ?_;refine Y7 (congrArg Value.bool hkb)<|go ?_;refine Yv (col:=a6) [(0,1),(1,0),(2,1),(3,2),(4,1)] (by kernel_rfl) (by kernel_rfl)<|xu rfl rfl (fun _=>Vb rfl) ?_;refine xv rfl rfl (fun _ hC=>Xa isAgg49 sizeOf49 (ad.gr (hC.bl a6))) ?_;refine xu rfl rfl (fun _=>r_aS rfl) ?_;refine xe rfl rfl ?_;intro jd hC0;have hC:=hC0.bl a6;replace ac:=ac.gr hC;refine Zw ac ?_;intro je dv gd et;refine Zk<|xk a6<|xu rfl rfl (fun _=>Zki rfl) ?_;refine Yn ?_;replace ai:=(ai.gr hC).kp dv;replace aj:=(aj.gr hC).kp dv;replace ak:=(ak.gr hC).kp dv;replace al:=(al.gr hC).kp dv;replace ah:=(ah.gr hC).kp dv;replace aa:=(aa.grow hC).kp dv gd;intro jf hC;replace hC:=hC.bl a6;refine Ys ?_;cases hm;replace ai:=ai.gr hC;replace aj:=aj.gr hC;replace ak:=ak.gr hC;replace al:=al.gr hC;replace ah:=ah.gr hC;replace et:=et.gr hC;replace aa:=aa.grow hC;exact ⟨rfl,_,Zvx rfl rfl rfl rfl isAgg49 sizeOf49 rfl rfl et.atN rfl rfl,_,_,_,_,_,_,_,_,_,_,_,rfl,aa.fin (cm [(3,c1)]),aa.fo ah,aa.fs ai,aa.fs aj,aa.fs ak,aa.fs al⟩
 | cons c3 eu=>
  obtain ⟨dn,ge,gf⟩:=Wg hl;have hk:(d4:Int)<(c7.length:Int):=by omega
  have hkb:=decide_eq_true hk;rw [S9.eq_2] at hm;refine go ?_;refine Y8 (congrArg Value.bool hkb)<|go ?_;refine lI dn ((h1.ks aa).addr dn)<|lW ((h1.ks aa).atInt dn) ?_;refine go ?_;refine Xc ab<|Xo rfl ?_;obtain ⟨d6,ew,hm⟩:=bZ hm;refine lI ew ((ec.ks aa).addr ew) ?_;obtain ⟨_,gg,gh⟩:=(ec.ks aa).atN ew;obtain ⟨⟨gi,gj,rfl,c4⟩,_⟩:=gg;refine lW gh.one<|go ?_;refine Z8 [10,12,2,29,3,30,31,39,40,7,9,1000000] (fun n f be=>∃ a2 ca d7 d8,n=d8.length∧d6.drop d7=d8∧Zap N ag cv b0 b1 c9 b3 b4 b2 da b5 b6 df b7 b8 b9 (S9 N ag eu) c3 d8 ca=some r∧St w0 (Zi col) a2 be∧Sl (Za.int .u32) a2 be ci cj b0∧Sl (Za.int .u32) a2 be ck cl b1∧Sl (Za.int .u32) a2 be cw cx b3∧Sl (Za.int .u32) a2 be cy cz b4∧Zn 49 8 a2 be es #[.bool cv,.slice ci b0.length cj,.slice ck b1.length cl,.bool c9,.slice cw b3.length cx,.slice cy b4.length cz]∧Sl (Za.int .i64) a2 be c0 c2 b2∧Zn 40 999 a2 be g3 #[.slice c0 b2.length c2]∧Zn 27 1 a2 be d2 #[.string ag.1,.slice d0 ag.2.1.length dy,.slice cr ag.2.2.1.length c5,.slice d1 ag.2.2.2.1.length dz,.slice ct ag.2.2.2.2.length c6]∧Sl (Za.int .i64) a2 be gi gj d6∧Zc (Za.int .u32) 79 9 a2 be db dc b5∧Zc (Za.int .u32) 79 10 a2 be dd de b6∧Zc (Za.int .u32) 79 11 a2 be dg dh b7∧Zc (Za.int .u32) 79 12 a2 be di dj b8∧Zn 49 2 a2 be eo #[.bool da,.slice db b5.length dc,.slice dd b6.length de,.bool df,.slice dg b7.length dh,.slice di b8.length dj]∧Zc (Za.int .i64) 3 3 a2 be dl dm b9∧[41,13].map f=[.int .i64 d7,.int .i64 ca]) d6.length ⟨_,0,0,_,rfl,rfl,hm,aa,ai,aj,ak,al,ad,am,hb3,ab,c4,an,ao,ap,aq,ac,ah,rfl⟩ ?_;clear hm;intro n f be hI;obtain ⟨a2,ca,d7,d8,hn,hl,hm,aa,ai,aj,ak,al,ad,am,hb3,ab,c4,an,ao,ap,aq,ac,ah,hs⟩:=hI;subst hn;refine .lL [41,13] hs ?_
  cases d8 with
  | nil=>
   have hk:¬ ((d7:Int)<(d6.length:Int)):=by have:=List.drop_eq_nil_iff.1 hl;omega
   have hkb:=decide_eq_false hk;rw [Zap.eq_1] at hm;refine go ?_;refine Y7 (congrArg Value.bool hkb)<|go ?_;refine Xh ⟨_,_,rfl⟩ ?_;refine lV (.agg #[.bool c9,.slice cw b3.length cx,.slice cy b4.length cz]) (Xn isAgg47 sizeOf47 rfl rfl ((ad.atN).part 3 3 _ rfl))<|Xh ⟨_,_,rfl⟩ ?_;refine lV (.agg #[.bool cv,.slice ci b0.length cj,.slice ck b1.length cl]) (Xn isAgg47 sizeOf47 rfl rfl ((ad.atN).part 0 3 _ rfl)) ?_;obtain ⟨cn,gk,hm⟩:=bZ hm;refine Zh (Zqk 13 14 gk ak al ai aj) ?_;rintro _ jg ⟨gl,ey,ez,e0,e1,rfl,bj,a9,ba⟩;refine ⟨_,rfl,?_⟩;refine Xf (col:=gl) #[.bool false,.slice none (([]:List Int).length) 0,.slice none (([]:List Int).length) 0] 15 zeroValue47 ?_;intro gm jh gp bf gs;refine Zw gs ?_;intro ji bg gt a3;refine go ?_;refine Xh ⟨_,_,rfl⟩ ?_;replace ad:=((ad.gr bj).gr bf).kp bg;refine lV (.agg #[.bool cv,.slice ci b0.length cj,.slice ck b1.length cl]) (Xn isAgg47 sizeOf47 rfl rfl ((ad.atN).part 0 3 _ rfl))<|Xf (col:=gp) #[.bool false,.slice none (([]:List Int).length) 0,.slice none (([]:List Int).length) 0] 16 zeroValue47 ?_;intro gu jj jk bc gv;refine Zw gv ?_;intro jl bd gw a7;refine go ?_;refine Xh ⟨_,_,rfl⟩ ?_;replace ab:=((((ab.gr bj).gr bf).kp bg).gr bc).kp bd;refine lW ((ab.atN).nth (q:=2) rfl)<|Xo rfl ?_;obtain ⟨gx,e2,hm⟩:=bZ hm;replace aa:=((((aa.grow bj).grow bf).kp bg gt).grow bc).kp bd gw;refine lI e2 ((cu.ks aa).addr e2) ?_;obtain ⟨_,gy,gz⟩:=(cu.ks aa).atN e2;obtain ⟨⟨jm,jn,rfl,jo⟩,_⟩:=gy;refine lW gz.one<|go ?_;replace ai:=((((ai.gr bj).gr bf).kp bg).gr bc).kp bd;replace aj:=((((aj.gr bj).gr bf).kp bg).gr bc).kp bd;replace ak:=((((ak.gr bj).gr bf).kp bg).gr bc).kp bd;replace al:=((((al.gr bj).gr bf).kp bg).gr bc).kp bd;replace am:=((((am.gr bj).gr bf).kp bg).gr bc).kp bd;replace an:=((((an.gr bj).gr bf).kp bg).gr bc).kp bd;replace ao:=((((ao.gr bj).gr bf).kp bg).gr bc).kp bd;replace ap:=((((ap.gr bj).gr bf).kp bg).gr bc).kp bd;replace aq:=((((aq.gr bj).gr bf).kp bg).gr bc).kp bd;replace ah:=((((ah.gr bj).gr bf).kp bg).gr bc).kp bd;replace hb3:=((((hb3.gr bj).gr bf).kp bg).gr bc).kp bd
   replace ac:=((((ac.gr bj).gr bf).kp bg).gr bc).kp bd;replace a9:=(((a9.gr bf).kp bg).gr bc).kp bd;replace ba:=(((ba.gr bf).kp bg).gr bc).kp bd;replace ad:=(ad.gr bc).kp bd;replace a3:=(a3.gr bc).kp bd;refine Z8 [10,12,13,16,17,2,29,3,30,31,7,71,9,1000000] (fun n f af=>∃ ae cb dp dq cc dr ds cd ef eg d9 dt dw,dw=n∧Zdn N ag b2 da b5 b6 df b7 b8 b9 (S9 N ag eu) c3 ca cn gx dw cb cc cd d9 dt=some r∧St w0 (Zi col) ae af∧Sl (Za.int .u32) ae af ci cj b0∧Sl (Za.int .u32) ae af ck cl b1∧Sl (Za.int .u32) ae af cw cx b3∧Sl (Za.int .u32) ae af cy cz b4∧Zn 49 8 ae af es #[.bool cv,.slice ci b0.length cj,.slice ck b1.length cl,.bool c9,.slice cw b3.length cx,.slice cy b4.length cz]∧Zc (Za.int .u32) 79 13 ae af ey ez cn.1.2∧Zc (Za.int .u32) 79 14 ae af e0 e1 cn.2∧Zn 47 15 ae af gm #[.bool cn.1.1,.slice ey cn.1.2.length ez,.slice e0 cn.2.length e1]∧Sl (Za.int .u32) ae af dp dq cc∧Sl (Za.int .u32) ae af dr ds cd∧Zn 47 16 ae af gu #[.bool cb,.slice dp cc.length dq,.slice dr cd.length ds]∧Zc (Za.pair (Za.pair (Za.pair Za.bool (Za.slice (Za.int .u32))) (Za.slice (Za.int .u32))) (Za.pair (Za.pair Za.bool (Za.slice (Za.int .u32))) (Za.slice (Za.int .u32)))) 49 17 ae af ef eg d9∧Sl (Za.int .i64) ae af c0 c2 b2∧Zn 40 999 ae af g3 #[.slice c0 b2.length c2]∧Zn 27 1 ae af d2 #[.string ag.1,.slice d0 ag.2.1.length dy,.slice cr ag.2.2.1.length c5,.slice d1 ag.2.2.2.1.length dz,.slice ct ag.2.2.2.2.length c6]∧Zc (Za.int .u32) 79 9 ae af db dc b5∧Zc (Za.int .u32) 79 10 ae af dd de b6∧Zc (Za.int .u32) 79 11 ae af dg dh b7∧Zc (Za.int .u32) 79 12 ae af di dj b8∧Zn 49 2 ae af eo #[.bool da,.slice db b5.length dc,.slice dd b6.length de,.bool df,.slice dg b7.length dh,.slice di b8.length dj]∧Zc (Za.int .i64) 3 3 ae af dl dm b9∧[18,72].map f=[.slice ef d9.length eg,.int .i64 dt]) N ⟨_,_,_,_,_,_,_,_,none,0,_,0,_,rfl,hm,aa,ai,aj,ak,al,ad,a9,ba,a3,ai,aj,a7,Zc.nil,am,hb3,ab,an,ao,ap,aq,ac,ah,rfl⟩ ?_;clear hm;intro n f af hI
   obtain ⟨ae,cb,dp,dq,cc,dr,ds,cd,ef,eg,d9,dt,dw,hn,hm,aa,ai,aj,ak,al,ad,a9,ba,a3,bm,bn,a7,bb,am,hb3,ab,an,ao,ap,aq,ac,ah,hs⟩:=hI;subst hn;refine .lL [18,72] hs ?_
   cases dw with
   | zero=>rw [Zdn.eq_1] at hm;cases hm
   | succ dw=>
    rw [Zdn.eq_2] at hm;refine go ?_;refine Zq hm (fun hb hm=>go ?_) fun hb hm=>go ?_
    ·have a4:=Zz.clip (fun _=>false) ae af;refine Zbr (col:=ae) [(0,0),(1,0),(2,1),(3,0),(4,1),(5,1),(6,0),(7,1),(8,1),(9,0),(10,1),(11,1),(12,0),(13,1),(14,1),(15,1),(16,1),(17,1),(18,0),(19,3),(20,3),(21,4),(22,2)] (by kernel_rfl) (by kernel_rfl) ⟨fun h=>absurd h (by decide),fun h=>absurd h (by decide),fun h=>absurd h (by decide),fun h=>absurd h (by decide),fun h=>absurd h (by decide),fun h=>absurd h (by decide),fun h=>absurd h (by decide),fun h=>absurd h (by decide),fun h=>absurd h (by decide),fun h=>absurd h (by decide),fun h=>absurd h (by decide),fun h=>absurd h (by decide),fun h=>absurd h (by decide),fun h=>absurd h (by decide),fun h=>absurd h (by decide),fun h=>absurd h (by decide),fun h=>absurd h (by decide),fun h=>absurd h (by decide),fun h=>absurd h (by decide),fun h=>absurd h (by decide),fun h=>absurd h (by decide),fun _=>⟨_,_,_,rfl,Ve zeroValue47⟩,fun h=>absurd h (by decide),trivial⟩ ?_;replace a7:=a7.kpp a4;refine Y9 (v:=(.agg #[.bool cb,.slice dp cc.length dq,.slice dr cd.length ds])) rfl rfl (fun _ hC=>Xn isAgg47 sizeOf47 rfl rfl (a7.atN.gr (hC.bl (Ze af ae)))) ?_;replace a3:=a3.kpp a4;refine Y9 (v:=(.agg #[.bool cn.1.1,.slice ey cn.1.2.length ez,.slice e0 cn.2.length e1])) rfl rfl (fun _ hC=>Xn isAgg47 sizeOf47 rfl rfl (a3.atN.gr (hC.bl (Ze af ae)))) ?_;refine X5 (v:=(.pointer ((some (⟨d2,0,none⟩:Addr)).map (·.add 4)))) rfl rfl (fun _=>Ux (sz:=1) (off:=4) underlying27 rfl sizeOf25 (by decide) rfl rfl ⟨_,_,rfl⟩) ?_;replace ab:=ab.kpp a4;refine Y9 (v:=(.slice ct ag.2.2.2.2.length c6)) rfl rfl (fun _ hC=>S1 isAgg25 rfl (((ab.atN).nth (q:=4) (v:=(.slice ct ag.2.2.2.2.length c6)) rfl).gr (hC.bl (Ze af ae)))) ?_;refine X5 (v:=(.int .i64 c3)) rfl rfl (fun _=>W0 rfl) ?_;obtain ⟨g0,eh,hm⟩:=bZ hm;replace aa:=aa.kpp a4;refine X5 (v:=(X3 ct (Int.toNat c3 * 1))) rfl rfl (fun _=>Wb underlying25 sizeOf56 rfl rfl (Xp eh).1 (Xp eh).2.1 ((ed.ks aa).addr eh)) ?_;obtain ⟨_,g1,g2⟩:=(ed.ks aa).atN eh;obtain ⟨⟨ft,g4,rfl,fu⟩,_⟩:=g1;refine Y9 (v:=(.slice ft g0.length g4)) rfl rfl (fun _ hC=>S1 isAgg56 rfl (g2.one.gr (hC.bl (Ze af ae)))) ?_;refine X5 (v:=(.int .i64 ca)) rfl rfl (fun _=>W0 rfl) ?_;refine X5 (v:=(.pointer ((some (⟨d2,0,none⟩:Addr)).map (·.add 2)))) rfl rfl (fun _=>Ux (sz:=1) (off:=2) underlying27 rfl sizeOf23 (by decide) rfl rfl ⟨_,_,rfl⟩) ?_
     refine Y9 (v:=(.slice cr ag.2.2.1.length c5)) rfl rfl (fun _ hC=>S1 isAgg23 rfl (((ab.atN).nth (q:=2) (v:=(.slice cr ag.2.2.1.length c5)) rfl).gr (hC.bl (Ze af ae)))) ?_;refine X5 (v:=(.int .i64 c3)) rfl rfl (fun _=>W0 rfl) ?_;obtain ⟨du,ei,hm⟩:=bZ hm;refine X5 (v:=(X3 cr (Int.toNat c3 * 1))) rfl rfl (fun _=>Wb underlying23 sizeOf22 rfl rfl (Xp ei).1 (Xp ei).2.1 ((cu.ks aa).addr ei)) ?_;obtain ⟨_,g5,g6⟩:=(cu.ks aa).atN ei;obtain ⟨⟨g7,g8,rfl,jp⟩,_⟩:=g5;refine Y9 (v:=(.slice g7 du.length g8)) rfl rfl (fun _ hC=>S1 isAgg22 rfl (g6.one.gr (hC.bl (Ze af ae)))) ?_;refine X5 (v:=(.int .i64 du.length)) rfl rfl (fun _=>T7 underlying22 rfl) ?_;refine X5 (v:=(.int .i64 (i64.wrap (ca * (du.length:Int))))) rfl rfl (fun _=>Zib ca (du.length:Int) rfl rfl) ?_;refine X5 (v:=(.int .i64 dt)) rfl rfl (fun _=>W0 rfl) ?_;refine X5 (v:=(.int .i64 (i64.wrap ((i64.wrap (ca * (du.length:Int)))+dt)))) rfl rfl (fun _=>Qi (i64.wrap (ca * (du.length:Int))) dt rfl rfl) ?_;obtain ⟨e3,ej,hm⟩:=bZ hm;refine X5 (v:=(X3 ft (Int.toNat (i64.wrap ((i64.wrap (ca * (du.length:Int)))+dt)) * 3))) rfl rfl (fun _=>Wb underlying56 sizeOf47 rfl rfl (Xp ej).1 (Xp ej).2.1 (fu.addr ej)) ?_;obtain ⟨_,g9,ha⟩:=fu.atN ej;obtain ⟨_,_,rfl,hc,hd⟩:=Y5 g9;obtain ⟨_,_,rfl,he,hf⟩:=Y5 hc;obtain ⟨rfl,_⟩:=he;obtain ⟨⟨hg,hh,rfl,e4⟩,_⟩:=hf;obtain ⟨⟨hi,hj,rfl,e5⟩,_⟩:=hd;refine Y9 (v:=(.agg #[.bool e3.1.1,.slice hg e3.1.2.length hh,.slice hi e3.2.length hj])) rfl rfl (fun _ hC=>Xn isAgg47 sizeOf47 rfl rfl (ha.gr (hC.bl (Ze af ae)))) ?_;refine Ym rfl rfl ?_;intro ho hC0;have hC:=hC0.bl (Ze af ae);obtain ⟨jq,hp,hm⟩:=bZ hm;replace a9:=(a9.kpp a4).gr hC;replace ba:=(ba.kpp a4).gr hC;replace e4:=e4.gr hC;replace e5:=e5.gr hC;refine Zh (Znj 18 19 hp ((a9.toSlF (Zl.int .u32)).froz 14) ((ba.froz 13 (by decide)).toSlF (Zl.int .u32)) ((e4.froz 13).froz 14) ((e5.froz 13).froz 14)) ?_;rintro _ ce ⟨hq,jr,js,jt,ju,rfl,ar,ea,eb⟩;refine ⟨_,rfl,?_⟩;replace ea:=ea.thaw (Zv .u32) ar (((Fz.refl (col:=(Ze af ae))).froz 13).froz 14) (by decide)
     replace eb:=eb.thaw (Zv .u32) ar (((Fz.refl (col:=(Ze af ae))).froz 13).froz 14) (by decide);replace ar:=ar.thawR (col:=(Ze af ae));generalize Z4 ho.heap.size (Ze af ae) hq=co at *;refine Zk ?_;refine ⟨fun w'=>Zg (Ze ce co) ce (Ze ce co) w',fun g=>(Ze ce co) g=497,Zg.refl _ _,Yk,fun _=>⟨fun _ h=>Wm hC0 ar h,fun b hb=>ar.below.block b hb,fun g x1 x2=>Wr ar g x1 (by first | exact x2 | (simp only [Xk,x2];rfl) | (simp only [Xk,Xz,x2];rfl))⟩,?_⟩;have aw:=Zz.clip (fun _=>false) co ce;refine Ym rfl rfl ?_;intro hr hC0;replace ai:=(((ai.kpp a4).gr hC).gr ar).kpp aw;replace aj:=(((aj.kpp a4).gr hC).gr ar).kpp aw;replace ak:=(((ak.kpp a4).gr hC).gr ar).kpp aw;replace al:=(((al.kpp a4).gr hC).gr ar).kpp aw;replace bm:=(((bm.kpp a4).gr hC).gr ar).kpp aw;replace bn:=(((bn.kpp a4).gr hC).gr ar).kpp aw;replace bb:=(((bb.kpp a4).gr hC).gr ar).kpp aw;replace am:=(((am.kpp a4).gr hC).gr ar).kpp aw;replace an:=(((an.kpp a4).gr hC).gr ar).kpp aw;replace ao:=(((ao.kpp a4).gr hC).gr ar).kpp aw;replace ap:=(((ap.kpp a4).gr hC).gr ar).kpp aw;replace aq:=(((aq.kpp a4).gr hC).gr ar).kpp aw;replace ah:=(((ah.kpp a4).gr hC).gr ar).kpp aw;replace ad:=(((ad.kpp a4).gr hC).gr ar).kpp aw;replace hb3:=(((hb3.kpp a4).gr hC).gr ar).kpp aw;replace ac:=(((ac.kpp a4).gr hC).gr ar).kpp aw;replace a3:=((a3.gr hC).gr ar).kpp aw;replace a7:=((a7.gr hC).gr ar).kpp aw;replace ab:=((ab.gr hC).gr ar).kpp aw;replace aa:=((aa.grow hC).grow ar).kpp aw;have hC:=hC0.bl (Ze ce co);obtain ⟨bi,ht,hm⟩:=bZ hm;replace ea:=(ea.kpp aw).gr hC;replace eb:=(eb.kpp aw).gr hC;replace bm:=bm.gr hC;replace bn:=bn.gr hC;refine Zh (Zk8 20 21 ht ((bm.froz 18).froz 19) ((bn.froz 18).froz 19) ((ea.toSlF (Zl.int .u32)).froz 19) ((eb.froz 18 (by decide)).toSlF (Zl.int .u32))) ?_;rintro _ bk ⟨hu,e6,e7,e8,e9,rfl,au,bo,bp⟩;refine ⟨_,rfl,?_⟩;replace bo:=bo.thaw (Zv .u32) au (((Fz.refl (col:=(Ze ce co))).froz 18).froz 19) (by decide);replace bp:=bp.thaw (Zv .u32) au (((Fz.refl (col:=(Ze ce co))).froz 18).froz 19) (by decide);replace au:=au.thawR (col:=(Ze ce co))
     generalize Z4 hr.heap.size (Ze ce co) hu=bq at *;refine Zk ?_;refine ⟨fun w'=>Zg (Ze bk bq) bk (Ze bk bq) w',fun g=>(Ze bk bq) g=497,Zg.refl _ _,Yk,fun _=>⟨fun _ h=>Wm hC0 au h,fun b hb=>au.below.block b hb,fun g x1 x2=>Wr au g x1 (by first | exact x2 | (simp only [Xk,x2];rfl) | (simp only [Xk,Xz,x2];rfl))⟩,?_⟩;have ax:=Zz.clip (fun _=>false) bq bk;refine Qm rfl rfl (Ve zeroValue47) ?_;intro cp hv;refine Ym rfl rfl ?_;intro hw ⟨hC0,hZ0⟩;replace a9:=((((a9.gr ar).kpp aw).gr hC).gr au).kpp ax;replace ba:=((((ba.gr ar).kpp aw).gr hC).gr au).kpp ax;replace ai:=((ai.gr hC).gr au).kpp ax;replace aj:=((aj.gr hC).gr au).kpp ax;replace ak:=((ak.gr hC).gr au).kpp ax;replace al:=((al.gr hC).gr au).kpp ax;replace bb:=((bb.gr hC).gr au).kpp ax;replace am:=((am.gr hC).gr au).kpp ax;replace an:=((an.gr hC).gr au).kpp ax;replace ao:=((ao.gr hC).gr au).kpp ax;replace ap:=((ap.gr hC).gr au).kpp ax;replace aq:=((aq.gr hC).gr au).kpp ax;replace ah:=((ah.gr hC).gr au).kpp ax;replace ad:=((ad.gr hC).gr au).kpp ax;replace a3:=((a3.gr hC).gr au).kpp ax;replace a7:=((a7.gr hC).gr au).kpp ax;replace hb3:=((hb3.gr hC).gr au).kpp ax;replace ab:=((ab.gr hC).gr au).kpp ax;replace ac:=((ac.gr hC).gr au).kpp ax;replace aa:=((aa.grow hC).grow au).kpp ax;have hC:=hC0.bl (Ze bk bq);obtain ⟨ay,fa⟩:=S4 (col:=(Ze bk bq)) 22 hZ0 hv;replace fa:Zn 47 22 (Zu cp 22 (Ze bk bq)) hw cp #[.bool false,.slice none (([]:List Int).length) 0,.slice none (([]:List Int).length) 0]:=fa;refine Zw fa ?_;intro cq az hx cf;refine Zk ?_;refine ⟨fun w'=>Zg (Ze cq (Zu cp 22 (Ze bk bq))) cq (Ze cq (Zu cp 22 (Ze bk bq))) w',fun g=>(Ze cq (Zu cp 22 (Ze bk bq))) g=497,Zg.refl _ _,Yk,fun h=>absurd h (by decide),?_⟩;have av:=Zz.clip (fun _=>false) (Zu cp 22 (Ze bk bq)) cq;refine Zbs ?_;replace bm:=(((((bm.gr au).kpp ax).gr hC).kpp ay).kp az).kpp av;replace bn:=(((((bn.gr au).kpp ax).gr hC).kpp ay).kp az).kpp av;replace bo:=((((bo.kpp ax).gr hC).kpp ay).kp az).kpp av;replace bp:=((((bp.kpp ax).gr hC).kpp ay).kp az).kpp av;replace ai:=(((ai.gr hC).kpp ay).kp az).kpp av;replace aj:=(((aj.gr hC).kpp ay).kp az).kpp av
     replace ak:=(((ak.gr hC).kpp ay).kp az).kpp av;replace al:=(((al.gr hC).kpp ay).kp az).kpp av;replace a9:=(((a9.gr hC).kpp ay).kp az).kpp av;replace ba:=(((ba.gr hC).kpp ay).kp az).kpp av;replace bb:=(((bb.gr hC).kpp ay).kp az).kpp av;replace am:=(((am.gr hC).kpp ay).kp az).kpp av;replace an:=(((an.gr hC).kpp ay).kp az).kpp av;replace ao:=(((ao.gr hC).kpp ay).kp az).kpp av;replace ap:=(((ap.gr hC).kpp ay).kp az).kpp av;replace aq:=(((aq.gr hC).kpp ay).kp az).kpp av;replace ah:=(((ah.gr hC).kpp ay).kp az).kpp av;replace ad:=(((ad.gr hC).kpp ay).kp az).kpp av;replace a3:=(((a3.gr hC).kpp ay).kp az).kpp av;replace a7:=(((a7.gr hC).kpp ay).kp az).kpp av;replace hb3:=(((hb3.gr hC).kpp ay).kp az).kpp av;replace ab:=(((ab.gr hC).kpp ay).kp az).kpp av;replace ac:=(((ac.gr hC).kpp ay).kp az).kpp av;replace aa:=(((aa.grow hC).kpp ay).kp az hx).kpp av;intro hy hC;replace hC:Zg (Ze cq (Zu cp 22 (Ze bk bq))) cq (Ze cq (Zu cp 22 (Ze bk bq))) hy:=.of_below hC.below;refine go ?_;replace a7:=a7.gr hC;refine lV _ (Xa isAgg47 sizeOf47 a7) ?_;replace cf:=(cf.kpp av).gr hC;refine lV _ (Xa isAgg47 sizeOf47 cf)<|lV (.agg #[.bool cb,.slice dp cc.length dq,.slice dr cd.length ds,.bool bi.1.1,.slice e6 bi.1.2.length e7,.slice e8 bi.2.length e9]) (Yc (l:=[_,_]) (qs:=[(0,3),(3,3)]) underlying49 zeroValue49 ⟨rfl,sizeOf47,rfl,sizeOf47,trivial⟩ rfl) ?_;replace ai:=ai.gr hC;replace ai:=ai.froz 21;replace aj:=aj.gr hC;replace aj:=aj.froz 21;replace ak:=ak.gr hC;replace ak:=ak.froz 21;replace al:=al.gr hC;replace al:=al.froz 21;replace a9:=a9.gr hC;replace a9:=a9.froz 21 (by decide);replace ba:=ba.gr hC;replace ba:=ba.froz 21 (by decide);replace bm:=bm.gr hC;replace bm:=bm.froz 21;replace bn:=bn.gr hC;replace bn:=bn.froz 21;replace am:=am.gr hC;replace am:=am.froz 21;replace an:=an.gr hC;replace an:=an.froz 21 (by decide);replace ao:=ao.gr hC;replace ao:=ao.froz 21 (by decide);replace ap:=ap.gr hC;replace ap:=ap.froz 21 (by decide);replace aq:=aq.gr hC;replace aq:=aq.froz 21 (by decide);replace ah:=ah.gr hC;replace ah:=ah.froz 21 (by decide);replace bo:=bo.gr hC;replace bo:=bo.froz 21 (by decide);replace bp:=bp.gr hC;replace bp:=(bp).toSlF (Zl.int .u32);replace bb:=bb.gr hC
     replace bb:=bb.froz 21 (by decide);replace ad:=ad.gr hC;replace ad:=ad.froz 21 (by decide);replace a3:=a3.gr hC;replace a3:=a3.froz 21 (by decide);replace a7:=a7.froz 21 (by decide);replace hb3:=hb3.gr hC;replace hb3:=hb3.froz 21 (by decide);replace ab:=ab.gr hC;replace ab:=ab.froz 21 (by decide);replace ac:=ac.gr hC;replace ac:=ac.froz 21 (by decide);replace cf:=cf.froz 21 (by decide);replace aa:=aa.grow hC;replace aa:=aa.froz 21 (by decide) (by decide);replace ai:=ai.froz 20;replace aj:=aj.froz 20;replace ak:=ak.froz 20;replace al:=al.froz 20;replace a9:=a9.froz 20 (by decide);replace ba:=ba.froz 20 (by decide);replace bm:=bm.froz 20;replace bn:=bn.froz 20;replace am:=am.froz 20;replace an:=an.froz 20 (by decide);replace ao:=ao.froz 20 (by decide);replace ap:=ap.froz 20 (by decide);replace aq:=aq.froz 20 (by decide);replace ah:=ah.froz 20 (by decide);replace bo:=(bo).toSlF (Zl.int .u32);replace bp:=bp.froz 20;replace bb:=bb.froz 20 (by decide);replace ad:=ad.froz 20 (by decide);replace a3:=a3.froz 20 (by decide);replace a7:=a7.froz 20 (by decide);replace hb3:=hb3.froz 20 (by decide);replace ab:=ab.froz 20 (by decide);replace ac:=ac.froz 20 (by decide);replace cf:=cf.froz 20 (by decide);replace aa:=aa.froz 20 (by decide) (by decide);refine Zb0 (col:=(Xk 20 (Xk 21 (Ze cq (Zu cp 22 (Ze bk bq)))))) (r:=(Za.pair (Za.pair (Za.pair Za.bool (Za.slice (Za.int .u32))) (Za.slice (Za.int .u32))) (Za.pair (Za.pair Za.bool (Za.slice (Za.int .u32))) (Za.slice (Za.int .u32))))) (xs:=[(((cb,cc),cd),((bi.1.1,bi.1.2),bi.2))]) [(.agg #[.bool cb,.slice dp cc.length dq,.slice dr cd.length ds,.bool bi.1.1,.slice e6 bi.1.2.length e7,.slice e8 bi.2.length e9])] 23 (Ui.ofF (Rows.consF (r:=(Za.pair (Za.pair (Za.pair Za.bool (Za.slice (Za.int .u32))) (Za.slice (Za.int .u32))) (Za.pair (Za.pair Za.bool (Za.slice (Za.int .u32))) (Za.slice (Za.int .u32))))) (x:=(((cb,cc),cd),((bi.1.1,bi.1.2),bi.2))) (cs:=[.bool cb,.slice dp cc.length dq,.slice dr cd.length ds,.bool bi.1.1,.slice e6 bi.1.2.length e7,.slice e8 bi.2.length e9]) (Uf (Uf (Uf (Zc7 cb) (Zah bm)) (Zah bn)) (Uf (Uf (Zc7 bi.1.1) (Zah bo)) (Zah bp))) Rows.nil0)) ?_;intro jv jw jx a0 hz;obtain ⟨h0,hm⟩:=Z3 hm;replace bb:=bb.gr a0
     refine Ws bb (hz.srcN (NB.pair (NB.pair (NB.pair NB.bool NB.slice) NB.slice) (NB.pair (NB.pair NB.bool NB.slice) NB.slice))) h0 ?_;intro jy jz j0 j1 a5 fb;refine go ?_;replace cf:=(cf.gr a0).kpp a5;refine lV _ (Xa isAgg47 sizeOf47 cf) ?_;replace a7:=(a7.gr a0).kpp a5;refine Zw a7 ?_;intro j2 a8 h2 h3;refine go ?_;replace ai:=((ai.gr a0).kpp a5).kp a8;replace aj:=((aj.gr a0).kpp a5).kp a8;replace ak:=((ak.gr a0).kpp a5).kp a8;replace al:=((al.gr a0).kpp a5).kp a8;replace a9:=((a9.gr a0).kpp a5).kp a8;replace ba:=((ba.gr a0).kpp a5).kp a8;replace am:=((am.gr a0).kpp a5).kp a8;replace an:=((an.gr a0).kpp a5).kp a8;replace ao:=((ao.gr a0).kpp a5).kp a8;replace ap:=((ap.gr a0).kpp a5).kp a8;replace aq:=((aq.gr a0).kpp a5).kp a8;replace ah:=((ah.gr a0).kpp a5).kp a8;replace bo:=((bo.gr a0).kpp a5).kp a8;replace bp:=((bp.gr a0).kpp a5).kp a8;replace ad:=((ad.gr a0).kpp a5).kp a8;replace a3:=((a3.gr a0).kpp a5).kp a8;replace hb3:=((hb3.gr a0).kpp a5).kp a8;replace ab:=((ab.gr a0).kpp a5).kp a8;replace ac:=((ac.gr a0).kpp a5).kp a8;replace aa:=((aa.grow a0).kpp a5).kp a8 h2;replace fb:=fb.kp a8;exact ⟨dw,by omega,rfl,⟨_,_,_,_,_,_,_,_,_,_,_,_,_,rfl,hm,aa,ai,aj,ak,al,ad,a9,ba,a3,bo,bp,h3,fb,am,hb3,ab,an,ao,ap,aq,ac,ah,rfl⟩⟩
    refine lM (.func (.func 91) #[] #[.pointer (some ⟨g3,0,none⟩)])<|go ?_;obtain ⟨fc,h4,hm⟩:=bZ hm;refine lc rfl rfl (Z3f call91 rfl rfl rfl) (Zx7 (Xk 17 ae) _ 999 (by decide) c3 ef eg d9 g3 b2 c0 c2 (bb.toSlF (Zl.pair (Zl.pair (Zl.pair Zl.bool Zl.slice) Zl.slice) (Zl.pair (Zl.pair Zl.bool Zl.slice) Zl.slice))) (am.froz 17) (hb3.froz 17 (by decide)) fc h4) ?_;rintro _ h5 ⟨rfl,br⟩;refine ⟨_,rfl,?_⟩;replace br:Zg ae af ae h5:=.of_below br;refine go ?_;replace bb:=bb.gr br;replace am:=am.gr br;replace an:=an.gr br;replace ao:=ao.gr br;replace ap:=ap.gr br;replace aq:=aq.gr br;replace ah:=ah.gr br;replace ad:=ad.gr br;replace hb3:=hb3.gr br;replace ab:=ab.gr br;replace ac:=ac.gr br;replace aa:=aa.grow br;refine Zq hm (fun hb hm=>go ?_) fun hb hm=>go ?_
    ·refine lV (.agg #[.bool false,.slice none (([]:List Int).length) 0,.slice none (([]:List Int).length) 0,.bool false,.slice none (([]:List Int).length) 0,.slice none (([]:List Int).length) 0]) (Yc (l:=[_,_]) (qs:=[(0,3),(3,3)]) underlying49 zeroValue49 ⟨rfl,sizeOf47,rfl,sizeOf47,trivial⟩ rfl)<|Tt rfl<|Zw ac ?_;intro j3 h6 h7 h8;refine go ?_;cases hm;replace aa:=aa.kp h6 h7;exact ⟨rfl,_,Zvx rfl rfl rfl rfl isAgg49 sizeOf49 rfl rfl h8.atN rfl rfl,_,none,0,none,0,none,0,none,0,none,0,rfl,aa.fin (cm []),Zc.nil,Sl.nil,Sl.nil,Sl.nil,Sl.nil⟩
    obtain ⟨dx,fd,hm⟩:=bZ hm;refine lI fd (bb.addr fd) ?_;obtain ⟨_,h9,ia⟩:=bb.atN fd;obtain ⟨_,_,rfl,ib,ic⟩:=h9.parts;obtain ⟨_,_,rfl,id,ie⟩:=ib.parts;obtain ⟨_,_,rfl,ig,ih⟩:=id.parts;obtain rfl:=ig.bool;obtain ⟨ii,ij,rfl,fe⟩:=ih.slice;obtain ⟨ik,il,rfl,ff⟩:=ie.slice;obtain ⟨_,_,rfl,im,io⟩:=ic.parts;obtain ⟨_,_,rfl,ip,iq⟩:=im.parts;obtain rfl:=ip.bool;obtain ⟨ir,it,rfl,fg⟩:=iq.slice;obtain ⟨iu,iv,rfl,fh⟩:=io.slice;refine lV (.agg #[.bool dx.1.1.1,.slice ii dx.1.1.2.length ij,.slice ik dx.1.2.length il,.bool dx.2.1.1,.slice ir dx.2.1.2.length it,.slice iu dx.2.2.length iv]) (Xn isAgg49 sizeOf49 rfl rfl ia) ?_;obtain ⟨j4,fi,hm⟩:=bZ hm;refine lI fi (ah.addr fi) ?_;obtain ⟨fj,ek,hm⟩:=bZ hm;have ek:fj=b9.set (Int.toNat c3) fc:=(Option.some.inj ek).symm;refine Yz (x1:=fc) ah fi ?_;intro j5 bs iw el;rw [← ek] at el;refine .ld (d:=9) (v:=(.slice dl fj.length dm)) (congrArg (fun n=>Value.slice dl n dm) (show b9.length=fj.length by rw [ek,List.length_set])) ?_;replace ad:=ad.kp bs;refine Zw ad ?_;intro j6 bt ix iy;refine go ?_;replace am:=(am.kp bs).kp bt;replace an:=(an.kp bs).kp bt;replace ao:=(ao.kp bs).kp bt;replace ap:=(ap.kp bs).kp bt;replace aq:=(aq.kp bs).kp bt;replace fe:=(fe.kp bs).kp bt;replace ff:=(ff.kp bs).kp bt;replace fg:=(fg.kp bs).kp bt;replace fh:=(fh.kp bs).kp bt;replace hb3:=(hb3.kp bs).kp bt;replace ab:=(ab.kp bs).kp bt;replace ac:=(ac.kp bs).kp bt;replace aa:=(aa.kp bs iw).kp bt ix;replace el:=el.kp bt;exact ⟨eu.length,by simp,rfl,⟨_,_,_,_,_,_,_,_,_,_,_,_,_,_,_,_,_,_,_,_,_,_,_,_,_,_,_,_,_,_,_,_,_,_,_,_,_,rfl,ge,hm,aa,fe,ff,fg,fh,iy,am,hb3,ab,an,ao,ap,aq,ac,el,(Wq (congrArg (Value.int .i64) (Wj (Nat.lt_of_lt_of_le gf (h1.ks aa).1.1))) rfl)⟩⟩
  | cons j7 iz=>
   obtain ⟨dn,i0,i1⟩:=Wg hl;have hk:(d7:Int)<(d6.length:Int):=by omega
   have hkb:=decide_eq_true hk;rw [Zap.eq_2] at hm;refine go ?_;refine Y8 (congrArg Value.bool hkb)<|go ?_;refine lI dn (c4.addr dn)<|lW (c4.atInt dn) ?_;refine go ?_;refine Wc (col:=a2) (by kernel_rfl) (by kernel_rfl)<|go ?_;refine qF ⟨_,_,rfl⟩ ?_;refine qW (fun _ hC=>((ab.atN).nth (q:=2) rfl).gr (hC.bl a2)) ?_;refine go ?_;obtain ⟨j8,fk,hm⟩:=bZ hm;refine qI fk ((cu.ks aa).addr fk) ?_;obtain ⟨_,i2,i3⟩:=(cu.ks aa).atN fk;obtain ⟨⟨j9,ka,rfl,kb⟩,_⟩:=i2;refine qW (fun _ hC=>i3.one.gr (hC.bl a2)) ?_;refine go ?_;obtain ⟨kc,fl,hm⟩:=bZ hm;refine qI fl (ah.addr fl)<|qW (fun _ hC=>(ah.gr (hC.bl a2)).atInt fl) ?_;refine go ?_;refine Yf ?_;intro kd hC;replace hC:=hC.bl a2;refine go ?_;replace ai:=ai.gr hC;replace aj:=aj.gr hC;replace ak:=ak.gr hC;replace al:=al.gr hC;replace am:=am.gr hC;replace c4:=c4.gr hC;replace an:=an.gr hC;replace ao:=ao.gr hC;replace ap:=ap.gr hC;replace aq:=aq.gr hC;replace ah:=ah.gr hC;replace ad:=ad.gr hC;replace hb3:=hb3.gr hC;replace ab:=ab.gr hC;replace ac:=ac.gr hC;replace aa:=aa.grow hC;exact ⟨iz.length,by simp,rfl,⟨_,_,_,_,rfl,i0,hm,aa,ai,aj,ak,al,ad,am,hb3,ab,c4,an,ao,ap,aq,ac,ah,(Wq (congrArg (Value.int .i64) (Wj (Nat.lt_of_lt_of_le i1 c4.1.1))) rfl)⟩⟩
def Zb1 (N:Nat) (aa:R1):Option R1:=
  (Qa N ((aa.1.1,aa.1.2),aa.2) ((false,([]:List Int)),([]:List Int))).bind fun ab=>some ((ab.1.1,ab.1.2),ab.2)
theorem Zqf {N aj ak:Nat} {al am:Option Addr} {col:Zf} {w0:World} {ab r:R1} (c1 c2:Nat) (hm:Zb1 N ab=some r) (ac:Sl (Za.int .u32) col w0 al aj ab.1.2) (ad:Sl (Za.int .u32) col w0 am ak ab.2):
    Calls Tryz.prog 92 #[(.agg #[.bool ab.1.1,.slice al ab.1.2.length aj,.slice am ab.2.length ak])] w0 (fun e w'=>∃ (col':Zf) (ra1:Option Addr) (rc2:Nat) (ra4:Option Addr) (rc5:Nat),e= .returned ((.agg #[.bool r.1.1,.slice ra1 r.1.2.length rc2,.slice ra4 r.2.length rc5]))∧Zg col w0 col' w'∧Zc (Za.int .u32) 79 c1 col' w' ra1 rc2 r.1.2∧Zc (Za.int .u32) 79 c2 col' w' ra4 rc5 r.2):=by
 refine X2 (m:=6) func92 rfl rfl rfl ?_;rw [Zb1.eq_1] at hm;have aa:=St.start col w0;refine go ?_;refine Xd (col:=(Zi col)) 1 rfl ?_;intro aw ax ap aq ae;refine Xf (col:=ap) #[.bool false,.slice none (([]:List Int).length) 0,.slice none (([]:List Int).length) 0] 2 zeroValue47 ?_;intro ay az a0 an af;refine go ?_;replace ae:=ae.gr an;refine lV _ (Xa isAgg47 sizeOf47 ae)<|lV (.agg #[.bool false,.slice none (([]:List Int).length) 0,.slice none (([]:List Int).length) 0]) (Yc (l:=[_,_]) (qs:=[(0,2),(2,1)]) underlying47 zeroValue47 ⟨rfl,sizeOf45,rfl,sizeOf43,trivial⟩ rfl) ?_;obtain ⟨a1,ar,hm⟩:=bZ hm;replace ac:=ac.keep (Zj.start col w0);replace ad:=ad.keep (Zj.start col w0);replace aa:=(aa.grow aq).grow an;refine Zh (Zk8 3 4 ar (ac.ks aa) (ad.ks aa) Sl.nil Sl.nil) ?_;rintro _ a2 ⟨a3,a4,a5,a6,a7,rfl,ao,ag,ah⟩;refine ⟨_,rfl,?_⟩;replace af:=af.gr ao;refine Zw af ?_;intro a8 ai au av;refine go ?_;cases hm;replace aa:=(aa.grow ao).kp ai au;replace ag:=ag.kp ai;replace ah:=ah.kp ai;exact ⟨rfl,_,ra av.atN,_,_,_,_,_,rfl,aa.fin (cm [(3,c1),(4,c2)]),aa.fo ag,aa.fo ah⟩
def Zfx (aa:Nat) (ab:Bool) (ac:List Int) (ad:List Int) (ae:Bool) (af:List Int) (ag:List Int) (kk_L1:(Nat→Bool→R2→R2→Bool→R2→R2→Option Rg)) (ah:Bool):Option Rg:=
  if ah=true then (some ((((false,([]:List Int)),([]:List Int)),((false,([]:List Int)),([]:List Int))),3)) else (kk_L1 (aa+1) ab ac ad ae af ag)
def S8 (N:Nat) (aa:R0) (ad:List Int):List Int→Nat→Bool→R2→R2→Bool→R2→R2→Option Rg
  | [],ac,ae,af,ag,ah,ai,aj=>(Qy N aa.2.2.2.1).bind fun ao=>(Zfy N (aa.1,aa.2.1,aa.2.2.1,aa.2.2.2.1,aa.2.2.2.2) ao.1 ad).bind fun ab=>(Zb1 N ((ab.2.1.1.1.1,ab.2.1.1.1.2),ab.2.1.1.2)).bind fun ak=>(Zb1 N ((ab.2.1.2.1.1,ab.2.1.2.1.2),ab.2.1.2.2)).bind fun al=>some ((((ak.1.1,ak.1.2),ak.2),((al.1.1,al.1.2),al.2)),0)
  | am :: an,ac,ae,af,ag,ah,ai,aj=>if (decide (am<0))=true then (Zfx ac ae af ag ah ai aj (S8 N aa ad an) true) else ((Zo aa.2.2.1 (ac:Int)).bind fun ap=>Zfx ac ae af ag ah ai aj (S8 N aa ad an) (decide ((ap.length:Int)≤am)))
termination_by structural x=>x
def Zfv (N:Nat) (aa:R0) (ab:List Int):Option Rg:=
  (Zgh N (aa.1,aa.2.1,aa.2.2.1,aa.2.2.2.1,aa.2.2.2.2)).bind fun ac=>if (!decide (ac=0))=true then (some ((((false,([]:List Int)),([]:List Int)),((false,([]:List Int)),([]:List Int))),ac)) else (if (!decide ((ab.length:Int)=(aa.2.1.length:Int)))=true then (some ((((false,([]:List Int)),([]:List Int)),((false,([]:List Int)),([]:List Int))),3)) else (S8 N aa ab ab 0 false ([]:List Int) ([]:List Int) false ([]:List Int) ([]:List Int)))
theorem Zx6 {N bj bk bm bn au:Nat} {bo bp bq br a1:Option Addr} {col:Zf} {w0:World} {ab:R0} {ag:R2} {r:Rg} (c1 c2 c3 c4:Nat) (hm:Zfv N ab ag=some r) (bs:Sl Za.str col w0 bo bj ab.2.1) (av:Sl (Za.slice Za.str) col w0 bp bk ab.2.2.1) (az:Sl (Za.slice (Za.int .i64)) col w0 bq bm ab.2.2.2.1) (bt:Sl (Za.slice (Za.pair (Za.pair Za.bool (Za.slice (Za.int .u32))) (Za.slice (Za.int .u32)))) col w0 br bn ab.2.2.2.2) (h1:Sl (Za.int .i64) col w0 a1 au ag):
    Calls Tryz.prog 24 #[(.agg #[.string ab.1,.slice bo ab.2.1.length bj,.slice bp ab.2.2.1.length bk,.slice bq ab.2.2.2.1.length bm,.slice br ab.2.2.2.2.length bn]),.slice a1 ag.length au] w0 (fun e w'=>∃ (col':Zf) (ra1:Option Addr) (rc2:Nat) (ra4:Option Addr) (rc5:Nat) (ra7:Option Addr) (rc8:Nat) (ra10:Option Addr) (rc11:Nat),e= .returned (.tuple #[(.agg #[.bool r.1.1.1.1,.slice ra1 r.1.1.1.2.length rc2,.slice ra4 r.1.1.2.length rc5,.bool r.1.2.1.1,.slice ra7 r.1.2.1.2.length rc8,.slice ra10 r.1.2.2.length rc11]),.int .i64 r.2])∧Zg col w0 col' w'∧Zc (Za.int .u32) 79 c1 col' w' ra1 rc2 r.1.1.1.2∧Zc (Za.int .u32) 79 c2 col' w' ra4 rc5 r.1.1.2∧Zc (Za.int .u32) 79 c3 col' w' ra7 rc8 r.1.2.1.2∧Zc (Za.int .u32) 79 c4 col' w' ra10 rc11 r.1.2.2):=by
 refine X2 (m:=69) func24 rfl rfl rfl ?_;rw [Zfv.eq_1] at hm;have aa:=St.start col w0;refine go ?_;refine Xd (col:=(Zi col)) 1 rfl ?_;intro co d8 c5 c6 ae;refine Zln (col:=c5) (v:=(.slice a1 ag.length au)) 2 rfl rfl ?_;intro bu c7 cp cq af;replace af:Zn 40 2 cp c7 bu #[.slice a1 ag.length au]:=af;refine Xf (col:=cp) #[.bool false,.slice none (([]:List Int).length) 0,.slice none (([]:List Int).length) 0,.bool false,.slice none (([]:List Int).length) 0,.slice none (([]:List Int).length) 0] 3 zeroValue49 ?_;intro cr c8 cs b4 ac;refine go ?_;replace ae:=(ae.gr cq).gr b4;refine lV _ (Xa isAgg27 sizeOf27 ae) ?_;obtain ⟨d9,c9,hm⟩:=bZ hm;replace bs:=bs.keep (Zj.start col w0);replace av:=av.keep (Zj.start col w0);replace az:=az.keep (Zj.start col w0);replace bt:=bt.keep (Zj.start col w0);replace aa:=((aa.grow c6).grow cq).grow b4;refine Zh (Zyp c9 (bs.ks aa) (av.ks aa) (az.ks aa) (bt.ks aa)) ?_;rintro _ da ⟨rfl,aw⟩;refine ⟨_,rfl,?_⟩;replace aw:Zg cs c8 cs da:=.of_below aw;refine go ?_;replace h1:=h1.keep (Zj.start col w0);replace af:=(af.gr b4).gr aw;replace ae:=ae.gr aw;replace ac:=ac.gr aw;replace aa:=aa.grow aw;refine Zq hm (fun hb hm=>go ?_) fun hb hm=>go ?_
 ·refine lV (.agg #[.bool false,.slice none (([]:List Int).length) 0,.slice none (([]:List Int).length) 0,.bool false,.slice none (([]:List Int).length) 0,.slice none (([]:List Int).length) 0]) (Yc (l:=[_,_]) (qs:=[(0,3),(3,3)]) underlying49 zeroValue49 ⟨rfl,sizeOf47,rfl,sizeOf47,trivial⟩ rfl)<|Xo rfl<|Zw ac ?_;intro ea db dc dd;refine go ?_;cases hm;replace aa:=aa.kp db dc;exact ⟨rfl,_,T8 dd.atN,_,none,0,none,0,none,0,none,0,rfl,aa.fin (cm []),Zc.nil,Zc.nil,Zc.nil,Zc.nil⟩
 refine lW af.at1<|go ?_;refine Xc ae ?_;refine go ?_;refine Zq hm (fun hb hm=>go ?_) fun hb hm=>go ?_
 ·refine lV (.agg #[.bool false,.slice none (([]:List Int).length) 0,.slice none (([]:List Int).length) 0,.bool false,.slice none (([]:List Int).length) 0,.slice none (([]:List Int).length) 0]) (Yc (l:=[_,_]) (qs:=[(0,3),(3,3)]) underlying49 zeroValue49 ⟨rfl,sizeOf47,rfl,sizeOf47,trivial⟩ rfl)<|Zw ac ?_;intro eb de df dg;refine go ?_;cases hm;replace aa:=aa.kp de df;exact ⟨rfl,_,T8 dg.atN,_,none,0,none,0,none,0,none,0,rfl,aa.fin (cm []),Zc.nil,Zc.nil,Zc.nil,Zc.nil⟩
 refine lW af.at1<|go ?_;refine Z8 [2,27,28,3,4,1000000] (fun n f ah=>∃ ai al a0 a2 a3 am a4 a5 an a6 a7 a8 ao a9 ba ap bb,n=bb.length∧ag.drop al=bb∧S8 N ab ag bb al a0 am an a6 ao ap=some r∧St w0 (Zi col) ai ah∧Zn 27 1 ai ah co #[.string ab.1,.slice bo ab.2.1.length bj,.slice bp ab.2.2.1.length bk,.slice bq ab.2.2.2.1.length bm,.slice br ab.2.2.2.2.length bn]∧Zn 40 2 ai ah bu #[.slice a1 ag.length au]∧Zc (Za.int .u32) 79 4 ai ah a2 a3 am∧Zc (Za.int .u32) 79 5 ai ah a4 a5 an∧Zc (Za.int .u32) 79 6 ai ah a7 a8 ao∧Zc (Za.int .u32) 79 7 ai ah a9 ba ap∧Zn 49 3 ai ah cr #[.bool a0,.slice a2 am.length a3,.slice a4 an.length a5,.bool a6,.slice a7 ao.length a8,.slice a9 ap.length ba]∧[29].map f=[.int .i64 al]) ag.length ⟨_,0,_,none,0,_,none,0,_,_,none,0,_,none,0,_,_,rfl,rfl,hm,aa,ae,af,Zc.nil,Zc.nil,Zc.nil,Zc.nil,ac,rfl⟩ ?_;clear hm;intro n f ah hI;obtain ⟨ai,al,a0,a2,a3,am,a4,a5,an,a6,a7,a8,ao,a9,ba,ap,bb,hn,hl,hm,aa,ae,af,bv,bw,bx,bz,ac,hs⟩:=hI;subst hn;refine .lL [29] hs ?_
 cases bb with
 | nil=>
  have hk:¬ ((al:Int)<(ag.length:Int)):=by have:=List.drop_eq_nil_iff.1 hl;omega
  have hkb:=decide_eq_false hk;rw [S8.eq_1] at hm;refine go ?_;refine Y7 (congrArg Value.bool hkb)<|go ?_;refine Xc ae ?_;obtain ⟨b0,dh,hm⟩:=bZ hm;refine Zh (Zqh 8 dh (az.ks aa)) ?_;rintro _ ec ⟨ed,ct,cu,rfl,b1,b5⟩;refine ⟨_,rfl,?_⟩;refine lM (.tuple #[.slice ct b0.1.length cu,.int .i64 b0.2])<|lV (.slice ct b0.1.length cu) (Xl rfl rfl)<|lV (.int .i64 b0.2) (Xl rfl rfl)<|go ?_;replace ae:=ae.gr b1;refine lV _ (Xa isAgg27 sizeOf27 ae)<|Wa rfl<|lV (.func (.func 91) #[] #[.pointer (some ⟨bu,0,none⟩)]) (Z3h rfl) ?_;replace b5:=(b5).toSlF (Zl.int .i64);replace af:=af.gr b1;replace af:=af.froz 8 (by decide);replace ac:=ac.gr b1;replace ac:=ac.froz 8 (by decide);replace aa:=aa.grow b1;replace aa:=aa.froz 8 (by decide) (by decide);obtain ⟨ad,di,hm⟩:=bZ hm;refine Zh (Zx8 9 2 di (by decide) (bs.ks aa) (av.ks aa) (az.ks aa) (bt.ks aa) b5 (h1.ks aa) af) ?_;rintro _ ee ⟨dj,cv,cw,b6,b7,b8,b9,ca,cb,cc,cd,rfl,cx,ef,ce,cf,bc,bd⟩;refine ⟨_,rfl,?_⟩;refine lM (.tuple #[.slice cv ad.1.length cw,(.agg #[.bool ad.2.1.1.1.1,.slice b6 ad.2.1.1.1.2.length b7,.slice b8 ad.2.1.1.2.length b9,.bool ad.2.1.2.1.1,.slice ca ad.2.1.2.1.2.length cb,.slice cc ad.2.1.2.2.length cd]),.bool ad.2.2])<|lV (.slice cv ad.1.length cw) (Xl rfl rfl)<|lV (.agg #[.bool ad.2.1.1.1.1,.slice b6 ad.2.1.1.1.2.length b7,.slice b8 ad.2.1.1.2.length b9,.bool ad.2.1.2.1.1,.slice ca ad.2.1.2.1.2.length cb,.slice cc ad.2.1.2.2.length cd]) (Xl rfl rfl)<|lV (.bool ad.2.2) (Xl rfl rfl)<|Xf (col:=dj) #[.bool false,.slice none (([]:List Int).length) 0,.slice none (([]:List Int).length) 0,.bool false,.slice none (([]:List Int).length) 0,.slice none (([]:List Int).length) 0] 10 zeroValue49 ?_;intro eg eh b2 ax dl;refine Tt rfl<|Zw dl ?_;intro ei ay dm cy;refine go ?_;refine Yv (col:=b2) [(0,1),(1,0),(3,1),(4,0),(2,3),(5,3),(6,1),(7,2),(8,1)] (by kernel_rfl) (by kernel_rfl)<|xF ⟨_,_,rfl⟩ ?_;refine xv (v:=(.agg #[.bool ad.2.1.1.1.1,.slice b6 ad.2.1.1.1.2.length b7,.slice b8 ad.2.1.1.2.length b9])) rfl rfl (fun _ hC=>Xn isAgg47 sizeOf47 rfl rfl (((cy.atN).part 0 3 _ rfl).gr (hC.bl b2))) ?_;refine xF ⟨_,_,rfl⟩ ?_
  refine xv (v:=(.agg #[.bool ad.2.1.2.1.1,.slice ca ad.2.1.2.1.2.length cb,.slice cc ad.2.1.2.2.length cd])) rfl rfl (fun _ hC=>Xn isAgg47 sizeOf47 rfl rfl (((cy.atN).part 3 3 _ rfl).gr (hC.bl b2))) ?_;refine xe rfl rfl ?_;intro ej hC0;have hC:=hC0.bl b2;obtain ⟨cg,dn,hm⟩:=bZ hm;replace ce:=((ce.gr ax).kp ay).gr hC;replace cf:=((cf.gr ax).kp ay).gr hC;refine Zh (Zqf 11 12 dn ce cf) ?_;rintro _ ek ⟨cz,dp,dq,dr,ds,rfl,be,aq,ar⟩;refine ⟨_,rfl,?_⟩;refine Zk<|Xg cz hC0 be<|xe rfl rfl ?_;intro el hC0;replace ac:=((((ac.gr cx).gr ax).kp ay).gr hC).gr be;replace aa:=((((aa.grow cx).grow ax).kp ay dm).grow hC).grow be;replace bc:=(((bc.gr ax).kp ay).gr hC).gr be;replace bd:=(((bd.gr ax).kp ay).gr hC).gr be;have hC:=hC0.bl cz;obtain ⟨ch,dt,hm⟩:=bZ hm;replace bc:=bc.gr hC;replace bd:=bd.gr hC;refine Zh (Zqf 13 14 dt bc bd) ?_;rintro _ em ⟨b3,du,dv,dw,dx,rfl,bf,bg,bh⟩;refine ⟨_,rfl,?_⟩;refine Zk<|Xg b3 hC0 bf<|xu (v:=(.agg #[.bool cg.1.1,.slice dp cg.1.2.length dq,.slice dr cg.2.length ds,.bool ch.1.1,.slice du ch.1.2.length dv,.slice dw ch.2.length dx])) rfl rfl (fun _=>Yc (l:=[_,_]) (qs:=[(0,3),(3,3)]) underlying49 zeroValue49 ⟨rfl,sizeOf47,rfl,sizeOf47,trivial⟩ rfl) ?_;refine xe rfl rfl ?_;intro en hC0;replace aq:=(aq.gr hC).gr bf;replace ar:=(ar.gr hC).gr bf;replace ac:=(ac.gr hC).gr bf;replace aa:=(aa.grow hC).grow bf;have hC:=hC0.bl b3;replace ac:=ac.gr hC;refine Zw ac ?_;intro eo bi dy ci;refine Zk<|xk b3<|xu rfl rfl (fun _=>Zia rfl) ?_;refine Yn ?_;replace aq:=(aq.gr hC).kp bi;replace ar:=(ar.gr hC).kp bi;replace bg:=(bg.gr hC).kp bi;replace bh:=(bh.gr hC).kp bi;replace aa:=(aa.grow hC).kp bi dy;intro ep hC;replace hC:=hC.bl b3;refine Ys ?_;cases hm;replace aq:=aq.gr hC;replace ar:=ar.gr hC;replace bg:=bg.gr hC;replace bh:=bh.gr hC;replace ci:=ci.gr hC;replace aa:=aa.grow hC;exact ⟨rfl,_,T8 ci.atN,_,_,_,_,_,_,_,_,_,rfl,aa.fin (cm [(11,c1),(12,c2),(13,c3),(14,c4)]),aa.fo aq,aa.fo ar,aa.fo bg,aa.fo bh⟩
 | cons dz c0=>
  obtain ⟨cj,d0,d1⟩:=Wg hl;have hk:(al:Int)<(ag.length:Int):=by omega
  have hkb:=decide_eq_true hk;rw [S8.eq_2] at hm;refine go ?_;refine Y8 (congrArg Value.bool hkb)<|go ?_;refine lI cj ((h1.ks aa).addr cj)<|lW ((h1.ks aa).atInt cj)<|Yu rfl<|Yu rfl<|Zk<|Zy ?_;refine Wp.cutK [2,27,28,29,3,4,1000000] (fun f aj=>∃ ak ck,Zfx al a0 am an a6 ao ap (S8 N ab ag c0) ck=some r∧St w0 (Zi col) ak aj∧Zn 27 1 ak aj co #[.string ab.1,.slice bo ab.2.1.length bj,.slice bp ab.2.2.1.length bk,.slice bq ab.2.2.2.1.length bm,.slice br ab.2.2.2.2.length bn]∧Zn 40 2 ak aj bu #[.slice a1 ag.length au]∧Zc (Za.int .u32) 79 4 ak aj a2 a3 am∧Zc (Za.int .u32) 79 5 ak aj a4 a5 an∧Zc (Za.int .u32) 79 6 ak aj a7 a8 ao∧Zc (Za.int .u32) 79 7 ak aj a9 ba ap∧Zn 49 3 ak aj cr #[.bool a0,.slice a2 am.length a3,.slice a4 an.length a5,.bool a6,.slice a7 ao.length a8,.slice a9 ap.length ba]∧[45].map f=[.bool ck]) ?_ ?_
  ·intro f aj hJ;obtain ⟨ak,ck,hm,aa,ae,af,bv,bw,bx,bz,ac,hs⟩:=hJ;rw [Zfx.eq_1] at hm;refine .lL [45] hs ?_;refine Zq hm (fun hb hm=>go ?_) fun hb hm=>go ?_
   ·refine lV (.agg #[.bool false,.slice none (([]:List Int).length) 0,.slice none (([]:List Int).length) 0,.bool false,.slice none (([]:List Int).length) 0,.slice none (([]:List Int).length) 0]) (Yc (l:=[_,_]) (qs:=[(0,3),(3,3)]) underlying49 zeroValue49 ⟨rfl,sizeOf47,rfl,sizeOf47,trivial⟩ rfl)<|Zw ac ?_;intro eq d2 d3 d4;refine go ?_;cases hm;replace aa:=aa.kp d2 d3;exact ⟨rfl,_,T8 d4.atN,_,none,0,none,0,none,0,none,0,rfl,aa.fin (cm []),Zc.nil,Zc.nil,Zc.nil,Zc.nil⟩
   exact ⟨c0.length,by simp,rfl,⟨_,_,_,_,_,_,_,_,_,_,_,_,_,_,_,_,_,rfl,d0,hm,aa,ae,af,bv,bw,bx,bz,ac,(Wq (congrArg (Value.int .i64) (Wj (Nat.lt_of_lt_of_le d1 (h1.ks aa).1.1))) rfl)⟩⟩
  refine go ?_;refine Xv hm (fun cl hm=>go ?_) fun cl hm=>go ?_
  ·refine lV (.bool true) (Xj (congrArg Value.bool cl) rfl)<|Zk ?_;exact ⟨rfl,_,_,hm,aa,ae,af,bv,bw,bx,bz,ac,rfl⟩
  refine Xh ⟨_,_,rfl⟩ ?_;refine go ?_;refine lW ((ae.atN).nth (q:=2) rfl)<|go ?_;obtain ⟨d5,cn,hm⟩:=bZ hm;refine lI cn ((av.ks aa).addr cn) ?_;refine go ?_;obtain ⟨_,d6,d7⟩:=(av.ks aa).atN cn;obtain ⟨⟨er,es,rfl,et⟩,_⟩:=d6;refine lW d7.one<|go ?_;refine lV (.bool (decide ((d5.length:Int)≤dz))) (Xs (congrArg Value.bool cl) rfl)<|Zk ?_;exact ⟨rfl,_,_,hm,aa,ae,af,bv,bw,bx,bz,ac,rfl⟩
section
variable {N K:Nat} {n:Xu} (hf:Uh N n) (hr:Xe N (8 * K+40))
include hf hr
variable (nv:List Int) (b1:Bool) (l1 l2:List Int) (b3:Bool) (l3 l4:List Int) (w:List Int) (hw:Vv n w)
 (kk:Bool→List Int→List Int→Bool→List Int→List Int→List Int→Bool→List Int→List Int→Bool→List Int→List Int→List Int→Zp1)
include hw
theorem Zrh {v:Nat} (hv:v<n.2.1.length) (hl:∀ x ∈ Ye n w v,W2 x∧max x.1.2.length x.2.length≤K) {long:Rat} (hlong:qs long≤K) (F:List (QV×QV)→Zp1)
  (hF:∀ P:List (QV×QV),((Zfw (v:Int) P nv).bind fun r=>if (decide (r<0))=true then (some (([]:List Int),(((false,([]:List Int)),([]:List Int)),((false,([]:List Int)),([]:List Int))),false)) else ((Zo P r).bind fun e=>(Zo w (v:Int)).bind fun _=>(some (w.set (Int.toNat (v:Int)) r)).bind fun xs=>kk e.1.1.1 e.1.1.2 e.1.2 e.2.1.1 e.2.1.2 e.2.2 nv b1 l1 l2 b3 l3 l4 xs))=F P):
  ∀ (l:List QV) (f j:Nat) (a:Rat) (parts:List (QV×QV)),(Ye n w v).drop j=l→j≤cnt n v→cnt n v<f+j→qs a≤K→(∀ p ∈ V0 long l a,qs p.1≤K∧qs p.2≤K)→parts.length=j→
   Zdn N n nv b1 l1 l2 b3 l3 l4 w kk (v:Int) (Vo n w v:Int) (Zm long) (n.2.2.1.getD v []) f (Zm a).1.1 (Zm a).1.2 (Zm a).2 parts (j:Int)=F (parts++(V0 long l a).map W1)
 | l,0,j,a,parts,_,h1,h2,_,_,_=>by omega
 | l,f+1,j,a,parts,hd,h1,h2,ha,hp,hpl=>by
  have hlen:=hf.rowT_len hw hv
  have hrow:=hf.row hw hv
  have hrows:=hf.rows hv
  rw [Zdn.eq_2]
  cases l with
  | nil=>
   have h3:=List.drop_eq_nil_iff.1 hd
   rw [if_neg (by rw [decide_eq_false (by rw [cnt] at h1 hlen;omega)];decide),hF,V0,List.map_nil,List.append_nil]
  | cons y l=>
   have hj:j<(Ye n w v).length:=by
    rcases Nat.lt_or_ge j (Ye n w v).length with h | h
    ·exact h
    ·rw [List.drop_eq_nil_of_le h] at hd;cases hd
   have hy:(Ye n w v)[j]=y∧(Ye n w v).drop (j+1)=l:=by
    rw [List.drop_eq_getElem_cons hj] at hd
    exact List.cons.inj hd
   have hyK:=hl y (hy.1 ▸ List.getElem_mem hj)
   have hjc:j<cnt n v:=by omega
   have hq:=hp _ List.mem_cons_self
   have e0:(0:Int)≤((Vo n w v * cnt n v:Nat):Int):=Int.natCast_nonneg _
   have e1:i64.wrap ((Vo n w v:Int) * ((n.2.2.1.getD v []).length:Int))=((Vo n w v * cnt n v:Nat):Int):=by
    rw [show ((n.2.2.1.getD v []).length:Int)=((cnt n v:Nat):Int) from rfl,← Int.natCast_mul]
    exact Zt (by omega)
   have e2:i64.wrap (((Vo n w v * cnt n v:Nat):Int)+(j:Int))=((Vo n w v * cnt n v+j:Nat):Int):=by
    rw [← Int.natCast_add]
    exact Zt (by omega)
   have r1:=Zda hyK.1.1 hyK.1.2
   have m1:Zas N (((Zm long).1.1,(Zm long).1.2),(Zm long).2) ((y.1.1,y.1.2),y.2)=some (Zm (long * Z6 y)):=by
    have:=Zr7 (Y2 hlong) (r1.mono hyK.2) (hr.mono (by omega))
    rwa [Yr] at this
   have s1:qs (long * Z6 y)≤K+(K+1):=by
    have h4:=Zh9 long (Z6 y)
    have h5:=Zml hyK.1
    omega
   have a1:Qa N (((Zm a).1.1,(Zm a).1.2),(Zm a).2) (((Zm (long * Z6 y)).1.1,(Zm (long * Z6 y)).1.2),(Zm (long * Z6 y)).2)=some (Zm (a+long * Z6 y)):=by
    have:=Zll (Y2 ha) (Y2 s1) (hr.mono (by omega))
    rwa [Yr,Yr] at this
   rw [if_pos (decide_eq_true (by rw [cnt] at hjc;omega)),Vl [] (by rw [hf.ev.t];exact hv),Option.bind_some,Vl [] (by rw [hf.ev.v];exact hv),Option.bind_some,e1,e2,Zwj hj,hy.1,Option.bind_some,m1,Option.bind_some,a1,Option.bind_some,
    Z9 (by simp only [List.length_singleton,maxLen];omega),Zt (x:=(j:Int)+1) (by omega)]
   have ih:=Zrh hv hl hlong F hF l f (j+1) (a+long * Z6 y) (parts++[W1 (a,a+long * Z6 y)]) hy.2 (by omega) (by omega) hq.2 (fun p h=>hp p (List.mem_cons_of_mem _ h)) (by rw [List.length_append,List.length_singleton];omega)
   rw [List.append_assoc] at ih
   exact ih
omit hr in
theorem Zrg (a b:QV) (x:Int):∀ (ps:List Int) (r k:Nat),(∀ q ∈ ps,0≤q∧q<(n.2.1.length:Int))→r<k→k≤65536→Yh n.2.2.1 ps k≤65536→
  Zap N n a.1.1 a.1.2 a.2 b.1.1 b.1.2 b.2 nv b1 l1 l2 b3 l3 l4 w kk x ps (r:Int)=Zap N n a.1.1 a.1.2 a.2 b.1.1 b.1.2 b.2 nv b1 l1 l2 b3 l3 l4 w kk x [] (Zaj n w ps r:Int)
 | [],r,k,_,_,_,_=>rfl
 | p :: ps,r,k,hp,h1,h2,h3=>by
  obtain ⟨g1,g2,g3⟩:=Zpi hf.ev hw hp h1 h2 h3
  have hpp:=hp p List.mem_cons_self
  have hwp:=hw.ok p.toNat (by rw [hw.len];omega)
  have g4:r * cnt n p.toNat≤k * cnt n p.toNat:=Nat.mul_le_mul_right _ (by omega)
  have q1:Zo n.2.2.1 p=some (n.2.2.1.getD p.toNat []):=by
   have:=Vl (l:=n.2.2.1) [] (j:=p.toNat) (by rw [hf.ev.v];omega)
   rwa [show ((p.toNat:Nat):Int)=p by omega] at this
  have q2:Zo w p=some (w.getD p.toNat 0):=by
   have:=Vl (l:=w) 0 (j:=p.toNat) (by rw [hw.len];omega)
   rwa [show ((p.toNat:Nat):Int)=p by omega] at this
  have e1:i64.wrap ((r:Int) * ((n.2.2.1.getD p.toNat []).length:Int))=((r * cnt n p.toNat:Nat):Int):=by
   rw [show ((n.2.2.1.getD p.toNat []).length:Int)=((cnt n p.toNat:Nat):Int) from rfl,← Int.natCast_mul]
   exact Zt (by omega)
  have e2:i64.wrap (((r * cnt n p.toNat:Nat):Int)+w.getD p.toNat 0)=((r * cnt n p.toNat+(w.getD p.toNat 0).toNat:Nat):Int):=by
   rw [Int.natCast_add,show (((w.getD p.toNat 0).toNat:Nat):Int)=w.getD p.toNat 0 by omega]
   exact Zt (by omega)
  rw [Zap.eq_2,q1,Option.bind_some,q2,Option.bind_some,e1,e2]
  exact Zrg a b x ps _ _ (fun q hq=>hp q (List.mem_cons_of_mem _ hq)) g1 g2 g3
end
theorem Zrf {N W K:Nat} {n:Xu} (hf:Uh N n) (hs:Ur n W) (hr:Xe N (8 * K+40)) (hWK:W≤K) (hN:65536<N) {nv:List Int} (hnv:Vv n nv) {ord:List Int} (ho:Zff n.2.2.2.1 ord):∀ (l pre w:List Int) (s:Rat×Rat) (D M:Nat) (b1:Bool) (l1 l2:List Int) (b3:Bool) (l3 l4:List Int),ord=pre++l→Vv n w→(∀ p ∈ pre,w.getD p.toNat 0=nv.getD p.toNat 0)→Td D M s→
  (Zd M).length+(Zd D).length+l.length * (W+2)+2≤K→
  ∃ w',S9 N n l (Zm s.1).1.1 (Zm s.1).1.2 (Zm s.1).2 (Zm s.2).1.1 (Zm s.2).1.2 (Zm s.2).2 nv b1 l1 l2 b3 l3 l4 w=some (w',W1 (Ug n nv l s),true)
 | [],pre,w,s,D,M,b1,l1,l2,b3,l3,l4,_,_,_,_,_=>⟨w,rfl⟩
 | v :: l,pre,w,s,D,M,b1,l1,l2,b3,l3,l4,he,hw,hag,hL,hK=>by
  have hvr:=ho.rg v (by rw [he];simp)
  rw [hf.ev.p] at hvr
  obtain ⟨k,rfl⟩:∃ k:Nat,v=(k:Int):=⟨v.toNat,by omega⟩
  have hv:k<n.2.1.length:=by omega
  have hpar:∀ p ∈ n.2.2.2.1.getD k [],w.getD p.toNat 0=nv.getD p.toNat 0:=fun p hp=>hag p (ho.up pre k l he p (by rw [Int.toNat_natCast];exact hp))
  have hrow:Vo n w k=Vo n nv k:=Zwi _ _ hpar
  have hrT:Ye n w k=Ye n nv k:=by rw [Ye,Ye,hrow]
  obtain ⟨D',M',c1,c2,c3⟩:=Zol hf hs hw hv hL
  have hKs:(l.length+1) * (W+2)=l.length * (W+2)+(W+2):=by rw [Nat.add_mul,Nat.one_mul]
  rw [List.length_cons,hKs] at hK
  have hrows:=hf.rows hv
  have hcl:cnt n k≤65536:=by have:=(hf.row hw hv).1;omega
  have hsub:Zb7 N (((Zm s.2).1.1,(Zm s.2).1.2),(Zm s.2).2) (((Zm s.1).1.1,(Zm s.1).1.2),(Zm s.1).2)=some (Zm (s.2 - s.1)):=by
   have:=Zsd (Y2 hL.qb) (Y2 hL.qa) (hr.mono (s:=2 * ((Zd M).length+(Zd D).length+((Zd M).length+(Zd D).length)+3)) (by omega))
   rwa [Yr,Yr] at this
  rw [S9.eq_2,Vl [] (by rw [hf.ev.p];exact hv),Option.bind_some]
  have h2:=Zrg hf nv b1 l1 l2 b3 l3 l4 w hw (S9 N n l) (Zm s.1) (Zm s.2) (k:Int) (n.2.2.2.1.getD k []) 0 1 (hf.pars hv) (by omega) (by omega) hrows.2.2
  rw [show ((0:Nat):Int)=0 from rfl] at h2
  rw [h2,Zap.eq_1,hsub,Option.bind_some,Vl [] (by rw [hf.ev.v];exact hv),Option.bind_some]
  have h3:=Zrh hf hr nv b1 l1 l2 b3 l3 l4 w hw (S9 N n l) hv (fun x hx=>by have:=Zn6 hf hs hv x (Zma hx);exact ⟨this.1,by omega⟩) (long:=s.2 - s.1) (by omega) _ (fun _=>rfl) (Ye n w k) N 0 s.1 [] rfl (Nat.zero_le _) (by omega) (by have:=hL.qa;omega) (fun p hp=>⟨by have:=(c2 p hp).qa;omega,by have:=(c2 p hp).qb;omega⟩) rfl
  rw [show ((0:Nat):Int)=0 from rfl] at h3
  have h3':=h3
  rw [Vo] at h3'
  rw [h3',List.nil_append]
  have hnk:=hnv.ok k (by rw [hnv.len];exact hv)
  obtain ⟨q,hq⟩:∃ q:Nat,nv.getD k 0=(q:Int):=⟨(nv.getD k 0).toNat,by omega⟩
  have hql:q<(V0 (s.2 - s.1) (Ye n w k) s.1).length:=by rw [Zoy,hf.rowT_len hw hv];omega
  have hch:Zfw (k:Int) ((V0 (s.2 - s.1) (Ye n w k) s.1).map W1) nv=some (q:Int):=by
   rw [Zfw,Vl 0 (by rw [hnv.len];exact hv),hq];rfl
  rw [hch,Option.bind_some,if_neg (by rw [decide_eq_false (by omega)];decide),Ztf hql,Option.bind_some,Vl 0 (by rw [hw.len];exact hv),Option.bind_some,Option.bind_some,Int.toNat_natCast]
  have hset:=hw.set (v:=k) (k:=(q:Int)) (by omega)
  have ih:=Zrf hf hs hr hWK hN hnv ho l (pre++[(k:Int)]) (w.set k q) _ D' M' b1 l1 l2 b3 l3 l4 (by rw [he,List.append_assoc];rfl) hset (fun p hp=>?_) (c2 _ (Zti hql)) (by omega)
  ·obtain ⟨w',hw'⟩:=ih
   refine ⟨w',?_⟩
   rw [Ug,Int.toNat_natCast,hq,Int.toNat_natCast,← hrT]
   exact hw'
  ·rcases List.mem_append.1 hp with hp | hp
   ·rw [Tv w 0 k _ _ (by rw [hw.len];exact hv)]
    split
    ·rename_i e;rw [e,hq]
    ·exact hag p hp
   ·rw [List.mem_singleton] at hp
    rw [hp,Int.toNat_natCast,Tv w 0 k _ _ (by rw [hw.len];exact hv),if_pos rfl,hq]
theorem Z0k {N W K:Nat} {n:Xu} (hf:Uh N n) (hs:Ur n W) (hr:Xe N (8 * K+40)) (hWK:1025 * (W+2)+4≤K) (hN:65536<N) {nv:List Int} (hnv:Vv n nv) {ord:List Int} (ho:Zff n.2.2.2.1 ord) (hol:ord.length≤1024):
  ∃ w',Zfy N n ord nv=some (w',W1 (Ug n nv ord (0,1)),true):=by
 have hnm:=hf.le
 have hmul:ord.length * (W+2)≤1024 * (W+2):=Nat.mul_le_mul_right _ hol
 have h1:(Zd 1).length=1:=by rw [W8];rfl
 obtain ⟨w',h⟩:=Zrf hf hs hr (by omega) hN hnv ho ord [] (List.replicate n.2.1.length 0) (0,1) 1 1 false [] [] false [] [] rfl (Vv.zero hf.ev) (by simp) Td.zero (by omega)
 refine ⟨w',?_⟩
 rw [Zfy,Z9 (by simp only [maxLen];omega),Z1f (hr.mono (by omega)),Option.bind_some,Zr8,Option.bind_some]
 exact h
def Zh0 (aa:Int) (kk_L1:(Int→Option Bool)) (ab:Bool):Option Bool:=
  if ab=true then (some false) else (kk_L1 (i64.wrap (aa+1)))
def Zbk (N:Nat) (ac:R0) (ab:List Int):Nat→Int→Option Bool
  | 0,_=>none
  | ad+1,aa=>if (decide (aa<(ab.length:Int)))=true then ((Zo ab aa).bind fun ae=>if (decide (ae<0))=true then (Zh0 aa (Zbk N ac ab ad) true) else ((Zo ac.2.2.1 aa).bind fun af=>Zh0 aa (Zbk N ac ab ad) (decide ((af.length:Int)≤ae)))) else (some true)
termination_by structural x=>x
def Zhz (N:Nat) (aa:R0) (ab:List Int):Option Bool:=
  if (!decide ((ab.length:Int)=(aa.2.1.length:Int)))=true then (some false) else (Zbk N aa ab N 0)
theorem Zzx {N ah ai aj ak az:Nat} {al am an ao a1:Option Addr} {col:Zf} {w0:World} {aa:R0} {ag:R2} {r:Bool} (hm:Zhz N aa ag=some r) (a7:Sl Za.str col w0 al ah aa.2.1) (ap:Sl (Za.slice Za.str) col w0 am ai aa.2.2.1) (a8:Sl (Za.slice (Za.int .i64)) col w0 an aj aa.2.2.2.1) (a9:Sl (Za.slice (Za.pair (Za.pair Za.bool (Za.slice (Za.int .u32))) (Za.slice (Za.int .u32)))) col w0 ao ak aa.2.2.2.2) (h1:Sl (Za.int .i64) col w0 a1 az ag):
    Calls Tryz.prog 85 #[(.agg #[.string aa.1,.slice al aa.2.1.length ah,.slice am aa.2.2.1.length ai,.slice an aa.2.2.2.1.length aj,.slice ao aa.2.2.2.2.length ak]),.slice a1 ag.length az] w0 (fun e w'=>e= .returned ((.bool r))∧Below w0.heap.size w0 w'):=by
 refine Xi 4 (m:=36) func85 rfl rfl rfl rfl rfl ?_;rw [Zhz.eq_1] at hm;have ab:=St.start col w0;refine go ?_;refine Xd (col:=(Zi col)) 1 rfl ?_;intro a0 ba bb a2 ac;refine go ?_;refine Xc ac ?_;refine go ?_;replace ap:=ap.keep (Zj.start col w0);replace h1:=h1.keep (Zj.start col w0);replace ab:=ab.grow a2;refine Zq hm (fun hb hm=>go ?_) fun hb hm=>go ?_
 ·cases hm;exact ⟨rfl,rfl,ab.below⟩
 refine Z8 [1,2,1000000] (fun n f ar=>∃ ad aq ae,ae=n∧Zbk N aa ag ae aq=some r∧St w0 (Zi col) ad ar∧Zn 27 1 ad ar a0 #[.string aa.1,.slice al aa.2.1.length ah,.slice am aa.2.2.1.length ai,.slice an aa.2.2.2.1.length aj,.slice ao aa.2.2.2.2.length ak]∧[5].map f=[.int .i64 aq]) N ⟨_,0,_,rfl,hm,ab,ac,rfl⟩ ?_;clear hm;intro n f ar hI;obtain ⟨ad,aq,ae,hn,hm,ab,ac,hs⟩:=hI;subst hn;refine .lL [5] hs ?_
 cases ae with
 | zero=>rw [Zbk.eq_1] at hm;cases hm
 | succ ae=>
  rw [Zbk.eq_2] at hm;refine go ?_;refine Zq hm (fun hb hm=>?_) fun hb hm=>go ?_
  ·refine X8<|Zy<|Zdc<|Zy ?_;refine Wp.cutK [1,2,5,1000000] (fun f au=>∃ av aw,Zh0 aq (Zbk N aa ag ae) aw=some r∧St w0 (Zi col) av au∧Zn 27 1 av au a0 #[.string aa.1,.slice al aa.2.1.length ah,.slice am aa.2.2.1.length ai,.slice an aa.2.2.2.1.length aj,.slice ao aa.2.2.2.2.length ak]∧[35].map f=[.bool aw]) ?_ ?_
   ·intro f au hJ;obtain ⟨av,aw,hm,ab,ac,hs⟩:=hJ;rw [Zh0.eq_1] at hm;refine .lL [35] hs ?_;refine Zq hm (fun hb hm=>go ?_) fun hb hm=>go ?_
    ·cases hm;exact ⟨rfl,rfl,ab.below⟩
    exact ⟨ae,by omega,rfl,⟨_,_,_,rfl,hm,ab,ac,rfl⟩⟩
   refine Wc (col:=ad) (by kernel_rfl) (by kernel_rfl)<|go ?_;obtain ⟨a3,af,hm⟩:=bZ hm;refine qI af ((h1.ks ab).addr af)<|qW (fun _ hC=>((h1.ks ab).gr (hC.bl ad)).atInt af) ?_;refine go ?_;refine Xv hm (fun ax hm=>go ?_) fun ax hm=>go ?_
   ·refine qv (v:=(.bool true)) rfl (fun _ hC=>Xj (congrArg Value.bool ax) rfl) ?_;refine Yf ?_;intro bc hC;replace hC:=hC.bl ad;replace ac:=ac.gr hC;replace ab:=ab.grow hC;exact ⟨rfl,_,_,hm,ab,ac,rfl⟩
   refine qI af ((h1.ks ab).addr af) ?_;refine go ?_;refine qW (fun _ hC=>((h1.ks ab).gr (hC.bl ad)).atInt af) ?_;refine go ?_;refine qF ⟨_,_,rfl⟩ ?_;refine go ?_;refine qW (fun _ hC=>((ac.atN).nth (q:=2) rfl).gr (hC.bl ad)) ?_;refine go ?_;obtain ⟨a4,ay,hm⟩:=bZ hm;refine qI ay ((ap.ks ab).addr ay) ?_;refine go ?_;obtain ⟨_,a5,a6⟩:=(ap.ks ab).atN ay;obtain ⟨⟨bd,be,rfl,bf⟩,_⟩:=a5;refine qW (fun _ hC=>a6.one.gr (hC.bl ad)) ?_;refine go ?_;refine qv (v:=(.bool (decide ((a4.length:Int)≤a3)))) rfl (fun _ hC=>Xs (congrArg Value.bool ax) rfl) ?_;refine Yf ?_;intro bg hC;replace hC:=hC.bl ad;replace ac:=ac.gr hC;replace ab:=ab.grow hC;exact ⟨rfl,_,_,hm,ab,ac,rfl⟩
  cases hm;exact ⟨rfl,rfl,ab.below⟩
def Zjy (N:Nat) (aa:Ra):Option Rd:=
  (Ss N aa).bind fun ab=>if (!decide (ab=0))=true then (some (([]:List Int),ab)) else ((Ti N aa).bind fun ac=>some (ac,0))
theorem Zzb {N ac:Nat} {a0:Option Addr} {col:Zf} {w0:World} {ab:Ra} {r:Rd} (c1:Nat) (hm:Zjy N ab=some r) (h0:Sl (Za.slice (Za.int .i64)) col w0 a0 ac ab):
    Calls Tryz.prog 86 #[.slice a0 ab.length ac] w0 (fun e w'=>∃ (col':Zf) (ra1:Option Addr) (rc2:Nat),e= .returned (.tuple #[.slice ra1 r.1.length rc2,.int .i64 r.2])∧Zg col w0 col' w'∧Zc (Za.int .i64) 3 c1 col' w' ra1 rc2 r.1):=by
 refine Zdg 2 3 (m:=12) (args:=[.slice a0 ab.length ac]) func86 rfl rfl rfl rfl rfl ?_;rw [Zjy.eq_1] at hm;have aa:=St.start col w0;refine go ?_;obtain ⟨aj,ae,hm⟩:=bZ hm;replace h0:=h0.keep (Zj.start col w0);refine Zh (Zq0 ae (h0.ks aa)) ?_;rintro _ af ⟨rfl,ad⟩;refine ⟨_,rfl,?_⟩;replace ad:Zg (Zi col) w0 (Zi col) af:=.of_below ad;refine go ?_;replace aa:=aa.grow ad;refine Zq hm (fun hb hm=>go ?_) fun hb hm=>go ?_
 ·cases hm;exact ⟨rfl,_,none,0,rfl,aa.fin (cm []),Zc.nil⟩
 obtain ⟨ak,ag,hm⟩:=bZ hm;refine Zh (Zq1 1 ag (h0.ks aa)) ?_;rintro _ al ⟨am,an,ao,rfl,ah,ai⟩;refine ⟨_,rfl,go ?_⟩;cases hm;replace aa:=aa.grow ah;exact ⟨rfl,_,_,_,rfl,aa.fin (cm [(1,c1)]),aa.fo ai⟩
def Zcy (N:Nat) (aa:R0) (ac:List Int) (ad:Rd):Nat→Bool→R2→R2→Bool→R2→R2→Int→Option Rg
  | 0,_,_,_,_,_,_,_=>none
  | am+1,af,ag,ah,ai,aj,ak,ae=>if (decide (ae<(ad.1.length:Int)))=true then ((Zo ad.1 ae).bind fun al=>(Zo ac al).bind fun an=>(Zhv N (aa.1,aa.2.1,aa.2.2.1,aa.2.2.2.1,aa.2.2.2.2) al ac (((af,ag),ah),((ai,aj),ak))).bind fun ao=>(Zo ao an).bind fun ab=>(Zcy N aa ac ad am) ab.1.1.1 ab.1.1.2 ab.1.2 ab.2.1.1 ab.2.1.2 ab.2.2 (i64.wrap (ae+1))) else (some ((((af,ag),ah),((ai,aj),ak)),0))
termination_by structural x=>x
def Zhw (N:Nat) (aa:R0) (ac:List Int):Option Rg:=
  (Zhi N (aa.1,aa.2.1,aa.2.2.1,aa.2.2.2.1,aa.2.2.2.2)).bind fun ad=>if (!decide (ad=0))=true then (some ((((false,([]:List Int)),([]:List Int)),((false,([]:List Int)),([]:List Int))),ad)) else ((Zhz N (aa.1,aa.2.1,aa.2.2.1,aa.2.2.2.1,aa.2.2.2.2) ac).bind fun ae=>if (!ae)=true then (some ((((false,([]:List Int)),([]:List Int)),((false,([]:List Int)),([]:List Int))),3)) else ((Zjy N aa.2.2.2.1).bind fun af=>(Zj6 N).bind fun ab=>Zcy N aa ac af N ab.1.1.1 ab.1.1.2 ab.1.2 ab.2.1.1 ab.2.1.2 ab.2.2 0))
theorem Zzs {N bn bo bp bq cb:Nat} {br bs bt bu a1:Option Addr} {col:Zf} {w0:World} {ag:R0} {bd:R2} {r:Rg} (hm:Zhw N ag bd=some r) (a2:Sl Za.str col w0 br bn ag.2.1) (a3:Sl (Za.slice Za.str) col w0 bs bo ag.2.2.1) (aq:Sl (Za.slice (Za.int .i64)) col w0 bt bp ag.2.2.2.1) (a4:Sl (Za.slice (Za.pair (Za.pair Za.bool (Za.slice (Za.int .u32))) (Za.slice (Za.int .u32)))) col w0 bu bq ag.2.2.2.2) (h1:Sl (Za.int .i64) col w0 a1 cb bd):
    Calls Tryz.prog 22 #[(.agg #[.string ag.1,.slice br ag.2.1.length bn,.slice bs ag.2.2.1.length bo,.slice bt ag.2.2.2.1.length bp,.slice bu ag.2.2.2.2.length bq]),.slice a1 bd.length cb] w0 (fun e w'=>∃ (col':Zf) (ra1:Option Addr) (rc2:Nat) (ra4:Option Addr) (rc5:Nat) (ra7:Option Addr) (rc8:Nat) (ra10:Option Addr) (rc11:Nat),e= .returned (.tuple #[(.agg #[.bool r.1.1.1.1,.slice ra1 r.1.1.1.2.length rc2,.slice ra4 r.1.1.2.length rc5,.bool r.1.2.1.1,.slice ra7 r.1.2.1.2.length rc8,.slice ra10 r.1.2.2.length rc11]),.int .i64 r.2])∧Zg col w0 col' w'∧Sl (Za.int .u32) col' w' ra1 rc2 r.1.1.1.2∧Sl (Za.int .u32) col' w' ra4 rc5 r.1.1.2∧Sl (Za.int .u32) col' w' ra7 rc8 r.1.2.1.2∧Sl (Za.int .u32) col' w' ra10 rc11 r.1.2.2):=by
 refine X2 (m:=55) func22 rfl rfl rfl ?_;rw [Zhw.eq_1] at hm;have aa:=St.start col w0;refine go ?_;refine Xd (col:=(Zi col)) 1 rfl ?_;intro cf dr cg ch ab;refine Xf (col:=cg) #[.bool false,.slice none (([]:List Int).length) 0,.slice none (([]:List Int).length) 0,.bool false,.slice none (([]:List Int).length) 0,.slice none (([]:List Int).length) 0] 2 zeroValue49 ?_;intro ci cj be cc ac;refine go ?_;replace ab:=ab.gr cc;refine lV _ (Xa isAgg27 sizeOf27 ab) ?_;obtain ⟨ds,ck,hm⟩:=bZ hm;replace a2:=a2.keep (Zj.start col w0);replace a3:=a3.keep (Zj.start col w0);replace aq:=aq.keep (Zj.start col w0);replace a4:=a4.keep (Zj.start col w0);replace aa:=(aa.grow ch).grow cc;refine Zh (Zze ck (a2.ks aa) (a3.ks aa) (aq.ks aa) (a4.ks aa)) ?_;rintro _ cd ⟨rfl,a5⟩;refine ⟨_,rfl,?_⟩;replace a5:Zg be cj be cd:=.of_below a5;refine go ?_;replace h1:=h1.keep (Zj.start col w0);replace ab:=ab.gr a5;replace ac:=ac.gr a5;replace aa:=aa.grow a5;refine Zq hm (fun hb hm=>go ?_) fun hb hm=>go ?_
 ·refine lV (.agg #[.bool false,.slice none (([]:List Int).length) 0,.slice none (([]:List Int).length) 0,.bool false,.slice none (([]:List Int).length) 0,.slice none (([]:List Int).length) 0]) (Yc (l:=[_,_]) (qs:=[(0,3),(3,3)]) underlying49 zeroValue49 ⟨rfl,sizeOf47,rfl,sizeOf47,trivial⟩ rfl)<|Xo rfl<|Zw ac ?_;intro dt cl cn co;refine go ?_;cases hm;replace aa:=aa.kp cl cn;exact ⟨rfl,_,T8 co.atN,_,none,0,none,0,none,0,none,0,rfl,aa.fin (cm []),Sl.nil,Sl.nil,Sl.nil,Sl.nil⟩
 refine lV _ (Xa isAgg27 sizeOf27 ab)<|Wa rfl ?_;obtain ⟨du,cp,hm⟩:=bZ hm;refine Zh (Zzx cp (a2.ks aa) (a3.ks aa) (aq.ks aa) (a4.ks aa) (h1.ks aa)) ?_;rintro _ cq ⟨rfl,a6⟩;refine ⟨_,rfl,?_⟩;replace a6:Zg be cd be cq:=.of_below a6;refine go ?_;replace ab:=ab.gr a6;replace ac:=ac.gr a6;replace aa:=aa.grow a6;refine Zq hm (fun hb hm=>go ?_) fun hb hm=>go ?_
 ·refine lV (.agg #[.bool false,.slice none (([]:List Int).length) 0,.slice none (([]:List Int).length) 0,.bool false,.slice none (([]:List Int).length) 0,.slice none (([]:List Int).length) 0]) (Yc (l:=[_,_]) (qs:=[(0,3),(3,3)]) underlying49 zeroValue49 ⟨rfl,sizeOf47,rfl,sizeOf47,trivial⟩ rfl)<|Zw ac ?_;intro dv cr cs ct;refine go ?_;cases hm;replace aa:=aa.kp cr cs;exact ⟨rfl,_,T8 ct.atN,_,none,0,none,0,none,0,none,0,rfl,aa.fin (cm []),Sl.nil,Sl.nil,Sl.nil,Sl.nil⟩
 refine Xc ab ?_;obtain ⟨ar,cu,hm⟩:=bZ hm;refine Zh (Zzb 3 cu (aq.ks aa)) ?_;rintro _ dw ⟨cv,bv,bw,rfl,bx,ad⟩;refine ⟨_,rfl,?_⟩;refine lM (.tuple #[.slice bv ar.1.length bw,.int .i64 ar.2])<|lV (.slice bv ar.1.length bw) (Xl rfl rfl)<|lV (.int .i64 ar.2) (Xl rfl rfl)<|go ?_;obtain ⟨dx,cw,hm⟩:=bZ hm;refine lc rfl rfl (Zbn call87) (Zzt (col:=cv) 4 5 6 7 cw:) ?_;rintro _ dy ⟨cx,dz,d0,d1,d2,d3,d4,d5,d6,rfl,bf,ah,ai,aj,ak⟩;refine ⟨_,rfl,?_⟩;refine Xf (col:=cx) #[.bool false,.slice none (([]:List Int).length) 0,.slice none (([]:List Int).length) 0,.bool false,.slice none (([]:List Int).length) 0,.slice none (([]:List Int).length) 0] 8 zeroValue49 ?_;intro cy d7 d8 am cz;refine Zw cz ?_;intro d9 an c0 ae;refine go ?_;replace ad:=((ad.gr bf).gr am).kp an;replace ad:=ad.froz 4 (by decide);replace ah:=(ah.gr am).kp an;replace ah:=(ah).toSlF (Zl.int .u32);replace ai:=(ai.gr am).kp an;replace ai:=ai.froz 4 (by decide);replace aj:=(aj.gr am).kp an;replace aj:=aj.froz 4 (by decide);replace ak:=(ak.gr am).kp an;replace ak:=ak.froz 4 (by decide);replace ab:=(((ab.gr bx).gr bf).gr am).kp an;replace ab:=ab.froz 4 (by decide);replace ac:=(((ac.gr bx).gr bf).gr am).kp an;replace ac:=ac.froz 4 (by decide);replace ae:=ae.froz 4 (by decide);replace aa:=(((aa.grow bx).grow bf).grow am).kp an c0;replace aa:=aa.froz 4 (by decide) (by decide);replace ad:=ad.froz 5 (by decide);replace ah:=ah.froz 5;replace ai:=(ai).toSlF (Zl.int .u32);replace aj:=aj.froz 5 (by decide);replace ak:=ak.froz 5 (by decide);replace ab:=ab.froz 5 (by decide);replace ac:=ac.froz 5 (by decide);replace ae:=ae.froz 5 (by decide);replace aa:=aa.froz 5 (by decide) (by decide);replace ad:=ad.froz 6 (by decide);replace ah:=ah.froz 6;replace ai:=ai.froz 6;replace aj:=(aj).toSlF (Zl.int .u32);replace ak:=ak.froz 6 (by decide);replace ab:=ab.froz 6 (by decide);replace ac:=ac.froz 6 (by decide);replace ae:=ae.froz 6 (by decide);replace aa:=aa.froz 6 (by decide) (by decide);replace ad:=ad.froz 7 (by decide);replace ah:=ah.froz 7;replace ai:=ai.froz 7;replace aj:=aj.froz 7;replace ak:=(ak).toSlF (Zl.int .u32);replace ab:=ab.froz 7 (by decide);replace ac:=ac.froz 7 (by decide);replace ae:=ae.froz 7 (by decide);replace aa:=aa.froz 7 (by decide) (by decide)
 refine Z8 [1,10,2,4,8,1000000] (fun n f al=>∃ af bz b0 b1 bg b2 b3 bh b4 b5 b6 bi b7 b8 bj b9 au,au=n∧Zcy N ag bd ar au bz bg bh b4 bi bj b9=some r∧St w0 (Zi col) af al∧Sl (Za.int .u32) af al b0 b1 bg∧Sl (Za.int .u32) af al b2 b3 bh∧Sl (Za.int .u32) af al b5 b6 bi∧Sl (Za.int .u32) af al b7 b8 bj∧Zn 49 8 af al cy #[.bool bz,.slice b0 bg.length b1,.slice b2 bh.length b3,.bool b4,.slice b5 bi.length b6,.slice b7 bj.length b8]∧Zn 27 1 af al cf #[.string ag.1,.slice br ag.2.1.length bn,.slice bs ag.2.2.1.length bo,.slice bt ag.2.2.2.1.length bp,.slice bu ag.2.2.2.2.length bq]∧Zn 49 2 af al ci #[.bool false,.slice none (([]:List Int).length) 0,.slice none (([]:List Int).length) 0,.bool false,.slice none (([]:List Int).length) 0,.slice none (([]:List Int).length) 0]∧Zc (Za.int .i64) 3 3 af al bv bw ar.1∧[11].map f=[.int .i64 b9]) N ⟨_,_,_,_,_,_,_,_,_,_,_,_,_,_,_,0,_,rfl,hm,aa,ah,ai,aj,ak,ae,ab,ac,ad,rfl⟩ ?_;clear hm;intro n f al hI;obtain ⟨af,bz,b0,b1,bg,b2,b3,bh,b4,b5,b6,bi,b7,b8,bj,b9,au,hn,hm,aa,av,aw,ax,ay,ae,ab,ac,ad,hs⟩:=hI;subst hn;refine .lL [11] hs ?_
 cases au with
 | zero=>rw [Zcy.eq_1] at hm;cases hm
 | succ au=>
  rw [Zcy.eq_2] at hm;refine go ?_;refine Zq hm (fun hb hm=>go ?_) fun hb hm=>go ?_
  ·refine Yv (col:=af) [(0,0),(1,1),(2,1),(3,1),(4,0),(5,1),(6,0),(8,1),(9,1),(10,1),(11,1),(12,0),(13,1),(14,0),(7,3),(15,1),(16,0),(17,2)] (by kernel_rfl) (by kernel_rfl)<|xv rfl rfl (fun _ hC=>Xa isAgg27 sizeOf27 (ab.gr (hC.bl af))) ?_;refine xu rfl rfl (fun _=>Vb rfl) ?_;refine xu rfl rfl (fun _=>Vg rfl) ?_;obtain ⟨ea,ao,hm⟩:=bZ hm;refine xu rfl rfl (fun _=>Wb underlying40 sizeOf3 rfl rfl (Xp ao).1 (Xp ao).2.1 (ad.addr ao)) ?_;refine xW (fun _ hC=>(ad.gr (hC.bl af)).atInt ao) ?_;refine xu rfl rfl (fun _=>Vb rfl) ?_;refine xv rfl rfl (fun _ hC=>Xa isAgg49 sizeOf49 (ae.gr (hC.bl af))) ?_;refine xu rfl rfl (fun _=>Vb rfl) ?_;refine xu rfl rfl (fun _=>Vb rfl) ?_;refine xu rfl rfl (fun _=>Vg rfl) ?_;refine xu rfl rfl (fun _=>Wb underlying40 sizeOf3 rfl rfl (Xp ao).1 (Xp ao).2.1 (ad.addr ao)) ?_;refine xW (fun _ hC=>(ad.gr (hC.bl af)).atInt ao) ?_;obtain ⟨eb,bk,hm⟩:=bZ hm;refine xu rfl rfl (fun _=>Wb underlying40 sizeOf3 rfl rfl (Xp bk).1 (Xp bk).2.1 ((h1.ks aa).addr bk)) ?_;refine xW (fun _ hC=>((h1.ks aa).gr (hC.bl af)).atInt bk) ?_;refine xe rfl rfl ?_;intro ec hC0;have hC:=hC0.bl af;obtain ⟨ed,c1,hm⟩:=bZ hm;replace av:=av.gr hC;replace aw:=aw.gr hC;replace ax:=ax.gr hC;replace ay:=ay.gr hC;replace aa:=aa.grow hC;refine Zh (Zzr 9 c1 (a2.ks aa) (a3.ks aa) (aq.ks aa) (a4.ks aa) (h1.ks aa) av aw ax ay) ?_;rintro _ ee ⟨a7,ef,eg,rfl,az,ce⟩;refine ⟨_,rfl,?_⟩;refine Zk<|Xg a7 hC0 az ?_;obtain ⟨a0,bm,hm⟩:=bZ hm;refine xu rfl rfl (fun _=>Wb underlying120 sizeOf49 rfl rfl (Xp bm).1 (Xp bm).2.1 (ce.addr bm)) ?_;obtain ⟨_,c2,c3⟩:=ce.atN bm;obtain ⟨_,_,rfl,c4,c5⟩:=c2.parts;obtain ⟨_,_,rfl,c6,c7⟩:=c4.parts;obtain ⟨_,_,rfl,c8,c9⟩:=c6.parts;obtain rfl:=c8.bool;obtain ⟨da,db,rfl,a8⟩:=c9.slice;obtain ⟨dc,dd,rfl,a9⟩:=c7.slice;obtain ⟨_,_,rfl,de,df⟩:=c5.parts;obtain ⟨_,_,rfl,dg,dh⟩:=de.parts;obtain rfl:=dg.bool;obtain ⟨di,dj,rfl,ba⟩:=dh.slice;obtain ⟨dl,dm,rfl,bb⟩:=df.slice
   refine xv (v:=(.agg #[.bool a0.1.1.1,.slice da a0.1.1.2.length db,.slice dc a0.1.2.length dd,.bool a0.2.1.1,.slice di a0.2.1.2.length dj,.slice dl a0.2.2.length dm])) rfl rfl (fun _ hC=>Xn isAgg49 sizeOf49 rfl rfl (c3.gr (hC.bl a7))) ?_;refine xe rfl rfl ?_;intro eh hC0;replace ad:=(ad.gr hC).gr az;replace ae:=(ae.gr hC).gr az;replace ab:=(ab.gr hC).gr az;replace ac:=(ac.gr hC).gr az;have hC:=hC0.bl a7;replace ae:=ae.gr hC;refine Zw ae ?_;intro ei ap dn ca;refine Zk<|xk a7<|Yn ?_;replace aa:=((aa.grow az).grow hC).kp ap dn;replace ad:=(ad.gr hC).kp ap;replace a8:=(a8.gr hC).kp ap;replace a9:=(a9.gr hC).kp ap;replace ba:=(ba.gr hC).kp ap;replace bb:=(bb.gr hC).kp ap;replace ab:=(ab.gr hC).kp ap;replace ac:=(ac.gr hC).kp ap;intro ej hC;replace hC:=hC.bl a7;refine go ?_;replace a8:=a8.gr hC;replace a9:=a9.gr hC;replace ba:=ba.gr hC;replace bb:=bb.gr hC;replace ad:=ad.gr hC;replace ca:=ca.gr hC;replace ab:=ab.gr hC;replace ac:=ac.gr hC;replace aa:=aa.grow hC;exact ⟨au,by omega,rfl,⟨_,_,_,_,_,_,_,_,_,_,_,_,_,_,_,_,_,rfl,hm,aa,a8,a9,ba,bb,ca,ab,ac,ad,rfl⟩⟩
  refine lV _ (Xa isAgg49 sizeOf49 ae)<|Zw ac ?_;intro ek bc dp dq;refine go ?_;cases hm;replace av:=av.kp bc;replace aw:=aw.kp bc;replace ax:=ax.kp bc;replace ay:=ay.kp bc;replace aa:=aa.kp bc dp;exact ⟨rfl,_,T8 dq.atN,_,_,_,_,_,_,_,_,_,rfl,aa.fin (cm []),aa.fs av,aa.fs aw,aa.fs ax,aa.fs ay⟩
def Ts (n:Xu):List Int→Nat→Bool
 | [],_=>true
 | x :: l,k=>!decide (x<0)&&(!decide ((cnt n k:Int)≤x)&&Ts n l (k+1))
theorem Zsi {n:Xu}:∀ (l:List Int) (k:Nat),Ts n l k=true→∀ i,i<l.length→0≤l.getD i 0∧l.getD i 0<(cnt n (k+i):Int)
 | [],_,_,i,hi=>by simp at hi
 | x :: l,k,h,i,hi=>by
  simp only [Ts,Bool.and_eq_true,Bool.not_eq_true',decide_eq_false_iff_not] at h
  cases i with
  | zero=>rw [List.getD_cons_zero,Nat.add_zero];omega
  | succ i=>
   rw [List.getD_cons_succ,show k+(i+1)=k+1+i by omega]
   exact Zsi l (k+1) h.2.2 i (by simpa using hi)
theorem Z1l {n:Xu} {w:List Int} (hl:w.length=n.2.1.length) (h:Ts n w 0=true):Vv n w:=⟨hl,fun i hi=>by have:=Zsi w 0 h i hi;rwa [Nat.zero_add] at this⟩
section
variable {N:Nat} {n:Xu} (he:Tc n)
include he
theorem Zv9 (hl:n.2.1.length≤1048576) (w:List Int) (hw:w.length=n.2.1.length):∀ (l:List Int) (f k:Nat),w.drop k=l→k≤w.length→w.length<f+k→Zbk N n w f (k:Int)=some (Ts n l k)
 | l,0,k,_,h1,h2=>by omega
 | l,f+1,k,hd,h1,h2=>by
  rw [Zbk.eq_2]
  cases l with
  | nil=>
   have:=List.drop_eq_nil_iff.1 hd
   rw [if_neg (by rw [decide_eq_false (by omega)];decide),Ts]
  | cons x l=>
   have hk:k<w.length:=by
    rcases Nat.lt_or_ge k w.length with h | h
    ·exact h
    ·rw [List.drop_eq_nil_of_le h] at hd;cases hd
   rw [List.drop_eq_getElem_cons hk] at hd
   obtain ⟨e1,e2⟩:=List.cons.inj hd
   rw [if_pos (decide_eq_true (by omega)),Z7 hk,e1,Option.bind_some,Ts]
   by_cases hx:x<0
   ·rw [if_pos (decide_eq_true hx),Zh0,if_pos rfl,decide_eq_true hx];rfl
   ·rw [if_neg (by rw [decide_eq_false hx];decide),Vl [] (by rw [he.v];omega),Option.bind_some,Zh0,decide_eq_false hx]
    by_cases hc:(cnt n k:Int)≤x
    ·rw [show ((n.2.2.1.getD k []).length:Int)=(cnt n k:Int) from rfl,decide_eq_true hc,if_pos rfl];rfl
    ·rw [show ((n.2.2.1.getD k []).length:Int)=(cnt n k:Int) from rfl,decide_eq_false hc,if_neg (by decide),wS (by omega),Zv9 hl w hw l f (k+1) e2 (by omega) (by omega)];rfl
theorem Z36 (hl:n.2.1.length≤1048576) (w:List Int) (hN:1048577<N):Zhz N n w=some (decide (w.length=n.2.1.length)&&Ts n w 0):=by
 rw [Zhz]
 by_cases h:w.length=n.2.1.length
 ·rw [if_neg (by rw [decide_eq_true (by omega)];decide),decide_eq_true h]
  exact Zv9 he hl w h w N 0 rfl (Nat.zero_le _) (by omega)
 ·rw [if_pos (by rw [decide_eq_false (by omega)];rfl),decide_eq_false h];rfl
theorem Zw7 (hl:n.2.1.length≤1048576) (w:List Int) (hw:w.length=n.2.1.length):∀ (l:List Int) (k:Nat) (b1:Bool) (l1 l2:List Int) (b3:Bool) (l3 l4:List Int),w.drop k=l→k≤w.length→S8 N n w l k b1 l1 l2 b3 l3 l4=if Ts n l k=true then S8 N n w [] w.length b1 l1 l2 b3 l3 l4 else some ((((false,([]:List Int)),([]:List Int)),((false,([]:List Int)),([]:List Int))),3)
 | [],k,b1,l1,l2,b3,l3,l4,hd,h1=>by
  have:=List.drop_eq_nil_iff.1 hd
  rw [Ts,if_pos rfl,show k=w.length by omega]
 | x :: l,k,b1,l1,l2,b3,l3,l4,hd,h1=>by
  have hk:k<w.length:=by
   rcases Nat.lt_or_ge k w.length with h | h
   ·exact h
   ·rw [List.drop_eq_nil_of_le h] at hd;cases hd
  rw [List.drop_eq_getElem_cons hk] at hd
  obtain ⟨e1,e2⟩:=List.cons.inj hd
  rw [S8.eq_2,Ts]
  by_cases hx:x<0
  ·rw [if_pos (decide_eq_true hx),Zfx,if_pos rfl,decide_eq_true hx];rfl
  ·rw [if_neg (by rw [decide_eq_false hx];decide),Vl [] (by rw [he.v];omega),Option.bind_some,Zfx,decide_eq_false hx]
   by_cases hc:(cnt n k:Int)≤x
   ·rw [show ((n.2.2.1.getD k []).length:Int)=(cnt n k:Int) from rfl,decide_eq_true hc,if_pos rfl];rfl
   ·rw [show ((n.2.2.1.getD k []).length:Int)=(cnt n k:Int) from rfl,decide_eq_false hc,if_neg (by decide),Zw7 hl w hw l (k+1) b1 l1 l2 b3 l3 l4 e2 (by omega)];rfl
end
section
variable {N W K:Nat} {n:Xu} (hf:Uh N n) (hs:Ur n W) (hr:Xe N (8 * K+40)) (hN:1048577<N)
include hf hs hr hN
theorem Zwt (hWK:W≤K) {w:List Int} (hw:Vv n w) {ord:List Int} {e:Int} (ho:Zff n.2.2.2.1 ord) (hol:ord.length≤1048576):∀ (l:List Int) (f i:Nat) (s:Rat×Rat) (D M:Nat),ord.drop i=l→i≤ord.length→ord.length<f+i→Td D M s→(Zd M).length+(Zd D).length+l.length * (W+2)+2≤K→
  Zcy N n w (ord,e) f (Zm s.1).1.1 (Zm s.1).1.2 (Zm s.1).2 (Zm s.2).1.1 (Zm s.2).1.2 (Zm s.2).2 (i:Int)=some (W1 (Ug n w l s),0)∧∃ D' M',Td D' M' (Ug n w l s)∧(Zd M').length+(Zd D').length≤(Zd M).length+(Zd D).length+l.length * (W+2)
 | l,0,i,s,D,M,_,h1,h2,_,_=>by omega
 | [],f+1,i,s,D,M,hd,h1,h2,hL,hK=>by
  have:=List.drop_eq_nil_iff.1 hd
  rw [Zcy.eq_2,if_neg (by rw [decide_eq_false (by rw [show ((ord,e):List Int×Int).1=ord from rfl];omega)];decide)]
  exact ⟨rfl,D,M,hL,by simp⟩
 | v :: l,f+1,i,s,D,M,hd,h1,h2,hL,hK=>by
  have hi:i<ord.length:=by
   rcases Nat.lt_or_ge i ord.length with h | h
   ·exact h
   ·rw [List.drop_eq_nil_of_le h] at hd;cases hd
  rw [List.drop_eq_getElem_cons hi] at hd
  obtain ⟨e1,e2⟩:=List.cons.inj hd
  have hvr:=ho.rg v (e1 ▸ List.getElem_mem hi)
  rw [hf.ev.p] at hvr
  obtain ⟨k,rfl⟩:∃ k:Nat,v=(k:Int):=⟨v.toNat,by omega⟩
  have hv:k<n.2.1.length:=by omega
  obtain ⟨D',M',c1,c2,c3⟩:=Zol hf hs hw hv hL
  have hKs:(l.length+1) * (W+2)=l.length * (W+2)+(W+2):=by rw [Nat.add_mul,Nat.one_mul]
  rw [List.length_cons,hKs] at hK
  have hnk:=hw.ok k (by rw [hw.len];exact hv)
  obtain ⟨q,hq⟩:∃ q:Nat,w.getD k 0=(q:Int):=⟨(w.getD k 0).toNat,by omega⟩
  have hql:q<(V0 (s.2 - s.1) (Ye n w k) s.1).length:=by rw [Zoy,hf.rowT_len hw hv];omega
  have hP:Zhv N (n.1,n.2.1,n.2.2.1,n.2.2.2.1,n.2.2.2.2) (k:Int) w ((((Zm s.1).1.1,(Zm s.1).1.2),(Zm s.1).2),(((Zm s.2).1.1,(Zm s.2).1.2),(Zm s.2).2))=some ((V0 (s.2 - s.1) (Ye n w k) s.1).map W1):=Z4b hf hs hr hWK hN hw hv hL (by omega)
  obtain ⟨ih1,D2,M2,ih2,ih3⟩:=Zwt hWK hw ho hol l f (i+1) _ D' M' e2 (by omega) (by omega) (c2 _ (Zti hql)) (by omega)
  refine ⟨?_,D2,M2,?_,?_⟩
  ·rw [Zcy.eq_2,if_pos (decide_eq_true (by rw [show ((ord,e):List Int×Int).1=ord from rfl];omega)),show ((ord,e):List Int×Int).1=ord from rfl,Z7 hi,e1,Option.bind_some,Vl 0 (by rw [hw.len];exact hv),hq,Option.bind_some,hP,Option.bind_some,Ztf hql,Option.bind_some,wS (by omega),Ug,Int.toNat_natCast,hq,Int.toNat_natCast]
   exact ih1
  ·rw [Ug,Int.toNat_natCast,hq,Int.toNat_natCast];exact ih2
  ·rw [List.length_cons,hKs];omega
end
def Zrw (k:Int):(QV×QV)×Int:=((((false,([]:List Int)),([]:List Int)),((false,([]:List Int)),([]:List Int))),k)
theorem Zsa {N K:Nat} {q:Rat} (hr:Xe N (8 * K+40)) (hq:qs q≤K):Zb1 N (((Zm q).1.1,(Zm q).1.2),(Zm q).2)=some (Zm q):=by
 have hz:RV 0 ((false,([]:List Int)),([]:List Int)):=⟨by simp [Zp],by simp [Zp],by simp,by simp⟩
 have h1:=Zll (Y2 hq) hz (hr.mono (by omega))
 have h2:Z6 ((false,([]:List Int)),([]:List Int))=0:=by rw [Z6];simp [Zr,Zb]
 rw [Yr,h2,Rat.add_zero] at h1
 rw [Zb1]
 have h3:Qa N (((Zm q).1.1,(Zm q).1.2),(Zm q).2) ((false,([]:List Int)),([]:List Int))=some (Zm q):=h1
 rw [h3];rfl
theorem Z4o {N W K:Nat} {n:Xu} {w:List Int} (hs:Ur n W) (hr:Xe N (8 * K+40)) (hWK:1025 * (W+2)+4≤K) (hN:2000000<N):
  ∃ x:(QV×QV)×Int,Zfv N n w=some x∧Zhw N n w=some x∧((∃ e,e≠0∧x=Zrw e)∨∃ p:Rat×Rat,x=(W1 p,0)∧qs p.1≤K∧qs p.2≤K):=by
 obtain ⟨e,m1,m2,fine⟩:=Z0b hs (hr.mono (s:=8 * W+40) (by omega)) hN
 have m1':Zgh N (n.1,n.2.1,n.2.2.1,n.2.2.2.1,n.2.2.2.2)=some e:=m1
 have m2':Zhi N (n.1,n.2.1,n.2.2.1,n.2.2.2.1,n.2.2.2.2)=some e:=m2
 rw [Zfv,Zhw,m1',m2',Option.bind_some,Option.bind_some]
 by_cases h0:e=0
 ·have hf:=fine h0
  have hc0:¬ (!decide (e=0))=true:=by rw [decide_eq_true h0];decide
  rw [if_neg hc0,if_neg hc0]
  have hle:=hf.le
  have hri:Zhz N (n.1,n.2.1,n.2.2.1,n.2.2.2.1,n.2.2.2.2) w=some (decide (w.length=n.2.1.length)&&Ts n w 0):=Z36 hf.ev (by omega) w (by omega)
  rw [hri,Option.bind_some]
  by_cases hlen:w.length=n.2.1.length
  ·rw [if_neg (show ¬ (!decide ((w.length:Int)=(n.2.1.length:Int)))=true by rw [decide_eq_true (by omega)];decide),Zw7 hf.ev (by omega) w hlen w 0 false [] [] false [] [] rfl (Nat.zero_le _),decide_eq_true hlen,Bool.true_and]
   cases hin:Ts n w 0 with
   | false=>rw [if_neg (show ¬ false=true by decide),if_pos (show (!false)=true from rfl)];exact ⟨_,rfl,rfl,.inl ⟨3,by decide,rfl⟩⟩
   | true=>
    have hw:=Z1l hlen hin
    obtain ⟨l,o1,o2,o3,o4,o5⟩:=hf.or
    have hpl:n.2.2.2.1.length≤1024:=by rw [hf.ev.p];exact hle
    have ho:Zff n.2.2.2.1 l:=Z20 (by omega) hs.pn.ls (by omega) o2 o4
    have hol:l.length≤1024:=by omega
    have hmul:l.length * (W+2)≤1024 * (W+2):=Nat.mul_le_mul_right _ hol
    have h1:(Zd 1).length=1:=by rw [W8];rfl
    obtain ⟨w',hc⟩:=Z0k hf hs hr hWK (by omega) hw ho hol
    obtain ⟨hR,D,M,hLv,hLe⟩:=Zwt (e:=0) hf hs hr (by omega) (by omega) hw ho (by omega) l N 0 (0,1) 1 1 rfl (Nat.zero_le _) (by omega) Td.zero (by omega)
    have qa:qs (Ug n w l (0,1)).1≤K:=by have:=hLv.qa;omega
    have qb:qs (Ug n w l (0,1)).2≤K:=by have:=hLv.qb;omega
    have hO:Zjy N n.2.2.2.1=some (l,0):=by rw [Zjy,o3,Option.bind_some,if_neg (by decide),o2];rfl
    have hc':Zfy N (n.1,n.2.1,n.2.2.1,n.2.2.2.1,n.2.2.2.2) l w=some (w',W1 (Ug n w l (0,1)),true):=hc
    refine ⟨(W1 (Ug n w l (0,1)),0),?_,?_,.inr ⟨_,rfl,qa,qb⟩⟩
    ·rw [if_pos rfl,S8.eq_1,o1,Option.bind_some,hc',Option.bind_some]
     have f1:=Zsa hr qa
     have f2:=Zsa hr qb
     exact (by
      show (Zb1 N (((Zm (Ug n w l (0,1)).1).1.1,(Zm (Ug n w l (0,1)).1).1.2),(Zm (Ug n w l (0,1)).1).2)).bind _=_
      rw [f1,Option.bind_some]
      show (Zb1 N (((Zm (Ug n w l (0,1)).2).1.1,(Zm (Ug n w l (0,1)).2).1.2),(Zm (Ug n w l (0,1)).2).2)).bind _=_
      rw [f2];rfl)
    ·rw [if_neg (by decide),hO,Option.bind_some,Z3s (hr.mono (by omega)),Option.bind_some]
     exact hR
  ·rw [if_pos (show (!decide ((w.length:Int)=(n.2.1.length:Int)))=true by rw [decide_eq_false (by omega)];rfl),decide_eq_false hlen,Bool.false_and,if_pos (show (!false)=true from rfl)]
   exact ⟨_,rfl,rfl,.inl ⟨3,by decide,rfl⟩⟩
 ·have hc0:(!decide (e=0))=true:=by rw [decide_eq_false h0];rfl
  rw [if_pos hc0,if_pos hc0]
  exact ⟨_,rfl,rfl,.inl ⟨e,h0,rfl⟩⟩
def Zh4 (N:Nat) (ab:R4) (ac:R4):Option Rf:=
  (Zcd N ab.2 ac.2).bind fun aa=>if (!decide (aa.2.2=0))=true then (some ((false,([]:List Int)),(false,([]:List Int)),aa.2.2)) else ((Tk N (!decide (ab.1=ac.1)) aa.1).bind fun ad=>(Tk N ab.1 aa.2.1).bind fun ae=>some ((ad.1,ad.2),(ae.1,ae.2),0))
theorem Zz9 {N a3 a4:Nat} {a5 a6:Option Addr} {col:Zf} {w0:World} {aq ar:R4} {r:Rf} (c1 c2:Nat) (hm:Zh4 N aq ar=some r) (ax:Sl (Za.int .u32) col w0 a5 a3 aq.2) (ay:Sl (Za.int .u32) col w0 a6 a4 ar.2):
    Calls Tryz.prog 278 #[(.agg #[.bool aq.1,.slice a5 aq.2.length a3]),(.agg #[.bool ar.1,.slice a6 ar.2.length a4])] w0 (fun e w'=>∃ (col':Zf) (ra1:Option Addr) (rc2:Nat) (ra4:Option Addr) (rc5:Nat),e= .returned (.tuple #[(.agg #[.bool r.1.1,.slice ra1 r.1.2.length rc2]),(.agg #[.bool r.2.1.1,.slice ra4 r.2.1.2.length rc5]),.int .i64 r.2.2])∧Zg col w0 col' w'∧Zc (Za.int .u32) 79 c1 col' w' ra1 rc2 r.1.2∧Zc (Za.int .u32) 79 c2 col' w' ra4 rc5 r.2.1.2):=by
 refine X2 (m:=35) func278 rfl rfl rfl ?_;rw [Zh4.eq_1] at hm;have aa:=St.start col w0;refine go ?_;refine Xd (col:=(Zi col)) 1 rfl ?_;intro bv bw be bf ai;refine Xd (col:=be) 2 rfl ?_;intro bx bz bg a7 aj;refine Xf (col:=bg) #[.bool false,.slice none (([]:List Int).length) 0] 3 zeroValue45 ?_;intro b0 b1 bh az ad;refine Xf (col:=bh) #[.bool false,.slice none (([]:List Int).length) 0] 4 zeroValue45 ?_;intro b2 b3 b4 au ab;refine go ?_;refine Xh ⟨_,_,rfl⟩ ?_;replace ai:=((ai.gr a7).gr az).gr au;refine lW ((ai.atN).nth (q:=1) rfl)<|Xh ⟨_,_,rfl⟩ ?_;replace aj:=(aj.gr az).gr au;refine lW ((aj.atN).nth (q:=1) rfl) ?_;obtain ⟨ak,bi,hm⟩:=bZ hm;replace ax:=ax.keep (Zj.start col w0);replace ay:=ay.keep (Zj.start col w0);replace aa:=(((aa.grow bf).grow a7).grow az).grow au;refine Zh (Zk9 5 6 bi (ax.ks aa) (ay.ks aa)) ?_;rintro _ b5 ⟨af,a8,a9,ba,bb,rfl,am,a0,an⟩;refine ⟨_,rfl,?_⟩;refine lM (.tuple #[.slice a8 ak.1.length a9,.slice ba ak.2.1.length bb,.int .i64 ak.2.2])<|lV (.slice a8 ak.1.length a9) (Xl rfl rfl)<|lV (.slice ba ak.2.1.length bb) (Xl rfl rfl)<|lV (.int .i64 ak.2.2) (Xl rfl rfl)<|go ?_;replace ad:=(ad.gr au).gr am;replace ai:=ai.gr am;replace aj:=aj.gr am;replace ab:=ab.gr am;replace aa:=aa.grow am;refine Zq hm (fun hb hm=>go ?_) fun hb hm=>go ?_
 ·refine lV (.agg #[.bool false,.slice none (([]:List Int).length) 0]) (Yc (l:=[_,_]) (qs:=[(0,1),(1,1)]) underlying45 zeroValue45 ⟨rfl,sizeOf4,rfl,sizeOf43,trivial⟩ rfl)<|lV (.agg #[.bool false,.slice none (([]:List Int).length) 0]) (Yc (l:=[_,_]) (qs:=[(0,1),(1,1)]) underlying45 zeroValue45 ⟨rfl,sizeOf4,rfl,sizeOf43,trivial⟩ rfl)<|Xo rfl<|Zw ad ?_;intro b6 bc bj a1;replace ab:=ab.kp bc;refine Zw ab ?_;intro b7 bd bk bm;refine go ?_;cases hm;replace aa:=(aa.kp bc bj).kp bd bk;replace a1:=a1.kp bd;exact ⟨rfl,_,Zc9 rfl rfl isAgg45 sizeOf45 rfl rfl a1.atN rfl isAgg45 sizeOf45 rfl rfl bm.atN rfl rfl,_,none,0,none,0,rfl,aa.fin (cm []),Zc.nil,Zc.nil⟩
 refine Yv (col:=af) [(0,1),(1,0),(2,1),(3,0),(4,1),(5,1),(7,1),(8,0),(9,1),(6,3),(10,3),(11,2),(12,2),(13,1)] (by kernel_rfl) (by kernel_rfl)<|xF ⟨_,_,rfl⟩ ?_;refine xW (fun _ hC=>((ai.atN).nth (q:=0) rfl).gr (hC.bl af)) ?_;refine xF ⟨_,_,rfl⟩ ?_;refine xW (fun _ hC=>((aj.atN).nth (q:=0) rfl).gr (hC.bl af)) ?_;refine xu rfl rfl (fun _=>Zfa _ _ underlying4 rfl rfl) ?_;refine xu rfl rfl (fun _=>Vb rfl) ?_;refine xF ⟨_,_,rfl⟩ ?_;refine xW (fun _ hC=>((ai.atN).nth (q:=0) rfl).gr (hC.bl af)) ?_;refine xu rfl rfl (fun _=>Vb rfl) ?_;refine xe rfl rfl ?_;intro bn hC0;have hC:=hC0.bl af;obtain ⟨b8,bo,hm⟩:=bZ hm;replace a0:=a0.gr hC;refine Zh (Qu 7 bo (a0.toSlF (Zl.int .u32))) ?_;rintro _ b9 ⟨bp,ca,cb,rfl,ag,ac⟩;refine ⟨_,rfl,?_⟩;replace ac:=ac.thaw (Zv .u32) ag ((Fz.refl (col:=af)).froz 5) (by decide);replace ag:=ag.thawR (col:=af);generalize Z4 bn.heap.size af bp=ao at *;refine Zk<|Xg ao hC0 ag<|xe rfl rfl ?_;intro bq hC0;replace an:=(an.gr hC).gr ag;replace ad:=(ad.gr hC).gr ag;replace ab:=(ab.gr hC).gr ag;replace aa:=(aa.grow hC).grow ag;have hC:=hC0.bl ao;obtain ⟨cc,br,hm⟩:=bZ hm;replace an:=an.gr hC;refine Zh (Qu 8 br (an.toSlF (Zl.int .u32))) ?_;rintro _ cd ⟨bs,ce,cf,rfl,ah,ae⟩;refine ⟨_,rfl,?_⟩;replace ae:=ae.thaw (Zv .u32) ah ((Fz.refl (col:=ao)).froz 6) (by decide);replace ah:=ah.thawR (col:=ao);generalize Z4 bq.heap.size ao bs=al at *;refine Zk<|Xg al hC0 ah<|xe rfl rfl ?_;intro cg hC0;replace ac:=(ac.gr hC).gr ah;replace ad:=(ad.gr hC).gr ah;replace ab:=(ab.gr hC).gr ah;replace aa:=(aa.grow hC).grow ah;have hC:=hC0.bl al;replace ad:=ad.gr hC;refine Zw ad ?_;intro ch av bt ap;refine Zk<|xk al<|xe rfl rfl ?_;intro ci hC0;replace ac:=(ac.gr hC).kp av;replace ae:=(ae.gr hC).kp av;replace ab:=(ab.gr hC).kp av;replace aa:=(aa.grow hC).kp av bt;have hC:=hC0.bl al;replace ab:=ab.gr hC;refine Zw ab ?_;intro cj aw bu a2;refine Zk<|xk al<|xu rfl rfl (fun _=>Zia rfl) ?_;refine Yn ?_;replace ac:=(ac.gr hC).kp aw;replace ae:=(ae.gr hC).kp aw;replace ap:=(ap.gr hC).kp aw;replace aa:=(aa.grow hC).kp aw bu;intro ck hC;replace hC:=hC.bl al;refine Ys ?_;cases hm;replace ac:=ac.gr hC;replace ae:=ae.gr hC;replace ap:=ap.gr hC;replace a2:=a2.gr hC;replace aa:=aa.grow hC
 exact ⟨rfl,_,Zc9 rfl rfl isAgg45 sizeOf45 rfl rfl ap.atN rfl isAgg45 sizeOf45 rfl rfl a2.atN rfl rfl,_,_,_,_,_,rfl,aa.fin (cm [(7,c1),(8,c2)]),aa.fo ac,aa.fo ae⟩
def Zh2 (N:Nat) (ab:R4) (aa:Rf) (af:Bool):Option Rf:=
  if af=true then (some ((aa.1.1,aa.1.2),(aa.2.1.1,aa.2.1.2),aa.2.2)) else ((Zc3 N 1).bind fun ac=>(Ze4 N (aa.1.1,aa.1.2) (ac.1,ac.2)).bind fun ad=>(Zc2 N (aa.2.1.1,aa.2.1.2) (ab.1,ab.2)).bind fun ae=>some ((ad.1,ad.2),(ae.1,ae.2),0))
def Zka (N:Nat) (ac:R4) (aa:R4):Option Rf:=
  (Zh4 N (ac.1,ac.2) (aa.1,aa.2)).bind fun ab=>if (!decide (ab.2.2=0))=true then (Zh2 N aa ab true) else ((Sw N (ab.2.1.1,ab.2.1.2)).bind fun ad=>(Sw N (aa.1,aa.2)).bind fun ae=>Zh2 N aa ab (decide (0≤(i64.wrap (ad * ae)))))
theorem Zz5 {N bt bf:Nat} {bu bg:Option Addr} {col:Zf} {w0:World} {a9 ap:R4} {r:Rf} (c1 c2:Nat) (hm:Zka N a9 ap=some r) (bh:Sl (Za.int .u32) col w0 bu bt a9.2) (az:Sl (Za.int .u32) col w0 bg bf ap.2):
    Calls Tryz.prog 235 #[(.agg #[.bool a9.1,.slice bu a9.2.length bt]),(.agg #[.bool ap.1,.slice bg ap.2.length bf])] w0 (fun e w'=>∃ (col':Zf) (ra1:Option Addr) (rc2:Nat) (ra4:Option Addr) (rc5:Nat),e= .returned (.tuple #[(.agg #[.bool r.1.1,.slice ra1 r.1.2.length rc2]),(.agg #[.bool r.2.1.1,.slice ra4 r.2.1.2.length rc5]),.int .i64 r.2.2])∧Zg col w0 col' w'∧Zc (Za.int .u32) 79 c1 col' w' ra1 rc2 r.1.2∧Zc (Za.int .u32) 79 c2 col' w' ra4 rc5 r.2.1.2):=by
 refine X2 (m:=36) func235 rfl rfl rfl ?_;rw [Zka.eq_1] at hm;have aa:=St.start col w0;refine go ?_;refine Xd (col:=(Zi col)) 1 rfl ?_;intro cu cv b2 b3 bi;refine Xd (col:=b2) 2 rfl ?_;intro b4 cw b5 bv ah;refine Xf (col:=b5) #[.bool false,.slice none (([]:List Int).length) 0] 3 zeroValue45 ?_;intro b6 cx b7 bj af;refine Xf (col:=b7) #[.bool false,.slice none (([]:List Int).length) 0] 4 zeroValue45 ?_;intro b8 cy cz ba ac;refine go ?_;replace bi:=((bi.gr bv).gr bj).gr ba;refine lV _ (Xa isAgg45 sizeOf45 bi) ?_;replace ah:=(ah.gr bj).gr ba;refine lV _ (Xa isAgg45 sizeOf45 ah) ?_;obtain ⟨ae,b9,hm⟩:=bZ hm;replace bh:=bh.keep (Zj.start col w0);replace az:=az.keep (Zj.start col w0);replace aa:=(((aa.grow b3).grow bv).grow bj).grow ba;refine Zh (Zz9 5 6 b9 (bh.ks aa) (az.ks aa)) ?_;rintro _ c0 ⟨ca,a0,a1,a2,a3,rfl,bb,ag,ad⟩;refine ⟨_,rfl,?_⟩;refine lM (.tuple #[(.agg #[.bool ae.1.1,.slice a0 ae.1.2.length a1]),(.agg #[.bool ae.2.1.1,.slice a2 ae.2.1.2.length a3]),.int .i64 ae.2.2])<|lV (.agg #[.bool ae.1.1,.slice a0 ae.1.2.length a1]) (Xl rfl rfl)<|lV (.agg #[.bool ae.2.1.1,.slice a2 ae.2.1.2.length a3]) (Xl rfl rfl)<|lV (.int .i64 ae.2.2) (Xl rfl rfl)<|Xf (col:=ca) #[.bool false,.slice none (([]:List Int).length) 0] 7 zeroValue45 ?_;intro cb c3 cc aw bk;refine Xf (col:=cc) #[.bool false,.slice none (([]:List Int).length) 0] 8 zeroValue45 ?_;intro cd c4 aq ar bm;replace bk:=bk.gr ar;refine Zw bk ?_;intro c5 au ce ai;replace bm:=bm.kp au;refine Zw bm ?_;intro c6 av cf ak;refine Yu rfl<|Zk<|Zy<|Zy ?_;replace af:=(((((af.gr ba).gr bb).gr aw).gr ar).kp au).kp av;replace ah:=((((ah.gr bb).gr aw).gr ar).kp au).kp av;replace ac:=((((ac.gr bb).gr aw).gr ar).kp au).kp av;replace aa:=((((aa.grow bb).grow aw).grow ar).kp au ce).kp av cf;replace ag:=(((ag.gr aw).gr ar).kp au).kp av;replace ad:=(((ad.gr aw).gr ar).kp au).kp av;replace ai:=ai.kp av
 refine Wp.cutK [3,4,5,7,8,9,1000000] (fun f al=>∃ ab bn,Zh2 N ap ae bn=some r∧St w0 (Zi col) ab al∧Zn 45 2 ab al b4 #[.bool ap.1,.slice bg ap.2.length bf]∧Zn 45 3 ab al b6 #[.bool false,.slice none (([]:List Int).length) 0]∧Zn 45 4 ab al b8 #[.bool false,.slice none (([]:List Int).length) 0]∧Zc (Za.int .u32) 79 5 ab al a0 a1 ae.1.2∧Zn 45 7 ab al cb #[.bool ae.1.1,.slice a0 ae.1.2.length a1]∧Zc (Za.int .u32) 79 6 ab al a2 a3 ae.2.1.2∧Zn 45 8 ab al cd #[.bool ae.2.1.1,.slice a2 ae.2.1.2.length a3]∧[26].map f=[.bool bn]) ?_ ?_
 ·intro f al hJ;obtain ⟨ab,bn,hm,aa,ah,af,ac,ag,ai,ad,ak,hs⟩:=hJ;rw [Zh2.eq_1] at hm;refine .lL [26] hs ?_;refine Zq hm (fun hb hm=>?_) fun hb hm=>go ?_
  ·refine Zy<|Zpv (col:=ab) (pS [3]) [(0,0),(1,5),(2,1),(3,4),(4,2),(5,1)] (by kernel_rfl) (by kernel_rfl)<|xvD (v:=(.agg #[.bool ae.1.1,.slice a0 ae.1.2.length a1])) rfl rfl (fun _ hC=>Xn isAgg45 sizeOf45 rfl rfl (ai.atN.gr (hC.bl ab))) ?_;refine xsD (v:=(.agg #[.bool ae.2.1.1,.slice a2 ae.2.1.2.length a3])) rfl rfl (fun _ hC=>Xn isAgg45 sizeOf45 rfl rfl (ak.dk hC rfl rfl).atN) ?_;refine Zku (v:=(.int .i64 ae.2.2)) rfl rfl (fun _=>W0 rfl) ?_;refine Zih rfl rfl ?_;intro cg hC0;have hC:=hC0.bl ab;replace ag:=ag.gr hC;replace ad:=ad.gr hC;replace af:=af.gr hC;replace ac:=ac.gr hC;replace aa:=aa.grow hC;have bo:Zz (pS [3]) ab al ab cg:=hC.toP;refine Zw af ?_;intro bw a4 bx a5;replace bo:=bo.kp a4 bx rfl;refine Zk ?_;refine ⟨fun w'=>Zg ab bw ab w',fun w'=>∃ c',Zz (pS [3]) ab bw c' w',Zg.refl _ _,fun _ h=>⟨_,h.toP⟩,fun h=>absurd h (by decide),fun _ _ ⟨c9,h⟩=>⟨c9,bo.trans h⟩,?_⟩;refine Zih rfl rfl ?_;intro c7 hC0;have hC:=hC0.bl ab;replace ac:=(ac.kp a4).gr hC;refine Zw ac ?_;intro bz bc ch bp;refine Zk ?_;refine ⟨fun w'=>Zg ab bz ab w',fun w'=>∃ c',Zz (pS [3]) ab bz c' w',Zg.refl _ _,fun _ h=>⟨_,h.toP⟩,fun h=>absurd h (by decide),fun h=>absurd h (by decide),?_⟩;refine Zku (v:=(.int .i64 ae.2.2)) rfl rfl (fun _=>Uq rfl) ?_;refine Zpz ?_;replace ag:=((ag.kp a4).gr hC).kp bc;replace ad:=((ad.kp a4).gr hC).kp bc;replace aa:=((aa.kp a4 bx).grow hC).kp bc ch;replace a5:=(a5.gr hC).kp bc;intro c8 hC;replace hC:=hC.bl ab;refine Ys ?_;cases hm;replace ag:=ag.gr hC;replace ad:=ad.gr hC;replace a5:=a5.gr hC;replace bp:=bp.gr hC;replace aa:=aa.grow hC;exact ⟨rfl,_,Zc9 rfl rfl isAgg45 sizeOf45 rfl rfl a5.atN rfl isAgg45 sizeOf45 rfl rfl bp.atN rfl rfl,_,_,_,_,_,rfl,aa.fin (cm [(5,c1),(6,c2)]),aa.fo ag,aa.fo ad⟩
  refine Yv (col:=ab) [(0,0),(3,0),(4,0),(1,3),(2,3),(5,3),(6,2),(7,2),(8,1)] (by kernel_rfl) (by kernel_rfl)<|xv rfl rfl (fun _ hC=>Xa isAgg45 sizeOf45 (ai.gr (hC.bl ab))) ?_;refine xv rfl rfl (fun _ hC=>Xa isAgg45 sizeOf45 (ak.gr (hC.bl ab))) ?_;refine xv rfl rfl (fun _ hC=>Xa isAgg45 sizeOf45 (ah.gr (hC.bl ab))) ?_;refine xe rfl rfl ?_;intro da hC0;have hC:=hC0.bl ab;obtain ⟨db,ci,hm⟩:=bZ hm;refine Zh (Znx (col:=ab) 9 ci) ?_;rintro _ dc ⟨a6,dd,de,rfl,ax,bq⟩;refine ⟨_,rfl,?_⟩;refine Zk<|Xg a6 hC0 ax<|xe rfl rfl ?_;intro cj hC0;replace ag:=(ag.gr hC).gr ax;replace ad:=(ad.gr hC).gr ax;replace af:=(af.gr hC).gr ax;replace ac:=(ac.gr hC).gr ax;replace aa:=(aa.grow hC).grow ax;have hC:=hC0.bl a6;obtain ⟨df,ck,hm⟩:=bZ hm;replace ag:=ag.gr hC;replace bq:=bq.gr hC;refine Zh (Zq6 10 ck ((ag.toSlF (Zl.int .u32)).froz 9) ((bq.froz 5 (by decide)).toSlF (Zl.int .u32))) ?_;rintro _ dg ⟨cl,dh,di,rfl,an,aj⟩;refine ⟨_,rfl,?_⟩;replace aj:=aj.thaw (Zv .u32) an (((Fz.refl (col:=a6)).froz 5).froz 9) (by decide);replace an:=an.thawR (col:=a6);generalize Z4 cj.heap.size a6 cl=a7 at *;refine Zk<|Xg a7 hC0 an<|xe rfl rfl ?_;intro cn hC0;replace ad:=(ad.gr hC).gr an;replace af:=(af.gr hC).gr an;replace ac:=(ac.gr hC).gr an;replace aa:=(aa.grow hC).grow an;have hC:=hC0.bl a7;obtain ⟨dj,co,hm⟩:=bZ hm;replace ad:=ad.gr hC;replace aa:=aa.grow hC;refine Zh (Znw 11 co (ad.toSlF (Zl.int .u32)) ((az.ks aa).froz 6)) ?_;rintro _ dl ⟨cp,dm,dn,rfl,ao,am⟩;refine ⟨_,rfl,?_⟩;replace am:=am.thaw (Zv .u32) ao ((Fz.refl (col:=a7)).froz 6) (by decide);replace ao:=ao.thawR (col:=a7);generalize Z4 cn.heap.size a7 cp=ay at *;refine Zk<|Xg ay hC0 ao<|xe rfl rfl ?_;intro dp hC0;replace aj:=(aj.gr hC).gr ao;replace af:=(af.gr hC).gr ao;replace ac:=(ac.gr hC).gr ao;have hC:=hC0.bl ay;replace af:=af.gr hC;refine Zw af ?_;intro dq bd cq a8;refine Zk<|xk ay<|xe rfl rfl ?_;intro dr hC0;replace aa:=((aa.grow ao).grow hC).kp bd cq;replace aj:=(aj.gr hC).kp bd;replace am:=(am.gr hC).kp bd;replace ac:=(ac.gr hC).kp bd;have hC:=hC0.bl ay;replace ac:=ac.gr hC;refine Zw ac ?_
  intro ds be cr br;refine Zk<|xk ay<|xu rfl rfl (fun _=>Zia rfl) ?_;refine Yn ?_;replace aj:=(aj.gr hC).kp be;replace am:=(am.gr hC).kp be;replace a8:=(a8.gr hC).kp be;replace aa:=(aa.grow hC).kp be cr;intro dt hC;replace hC:=hC.bl ay;refine Ys ?_;cases hm;replace aj:=aj.gr hC;replace am:=am.gr hC;replace a8:=a8.gr hC;replace br:=br.gr hC;replace aa:=aa.grow hC;exact ⟨rfl,_,Zc9 rfl rfl isAgg45 sizeOf45 rfl rfl a8.atN rfl isAgg45 sizeOf45 rfl rfl br.atN rfl rfl,_,_,_,_,_,rfl,aa.fin (cm [(10,c1),(11,c2)]),aa.fo aj,aa.fo am⟩
 refine Wc (col:=aq) (by kernel_rfl) (by kernel_rfl)<|go ?_;refine Xv hm (fun bs hm=>go ?_) fun bs hm=>go ?_
 ·refine qv (v:=(.bool true)) rfl (fun _ hC=>Xj (congrArg Value.bool bs) rfl) ?_;refine Yf ?_;intro du hC;replace hC:=hC.bl aq;replace ag:=ag.gr hC;replace ad:=ad.gr hC;replace ah:=ah.gr hC;replace af:=af.gr hC;replace ac:=ac.gr hC;replace ai:=ai.gr hC;replace ak:=ak.gr hC;replace aa:=aa.grow hC;exact ⟨rfl,_,_,hm,aa,ah,af,ac,ag,ai,ad,ak,rfl⟩
 refine qv rfl (fun _ hC=>Xa isAgg45 sizeOf45 (ak.gr (hC.bl aq))) ?_;refine go ?_;obtain ⟨b0,cs,hm⟩:=bZ hm;refine qc (v:=(.int .i64 b0)) rfl (fun _ hC=>⟨_,_,S0 call187 rfl,(Zfm cs ((ad.gr (hC.bl aq)).toSlF (Zl.int .u32)):).mono fun _ _ h=>⟨h.1,hC.trans (.of_below h.2)⟩⟩) ?_;refine go ?_;refine qv rfl (fun _ hC=>Xa isAgg45 sizeOf45 (ah.gr (hC.bl aq))) ?_;refine go ?_;obtain ⟨b1,ct,hm⟩:=bZ hm;refine qc (v:=(.int .i64 b1)) rfl (fun _ hC=>⟨_,_,S0 call187 rfl,(Zfm ct ((az.ks aa).gr (hC.bl aq)):).mono fun _ _ h=>⟨h.1,hC.trans (.of_below h.2)⟩⟩) ?_;refine go ?_;refine qv (v:=(.bool (decide (0≤(i64.wrap (b0 * b1)))))) rfl (fun _ hC=>Xs (congrArg Value.bool bs) rfl) ?_;refine Yf ?_;intro dv hC;replace hC:=hC.bl aq;replace ag:=ag.gr hC;replace ad:=ad.gr hC;replace ah:=ah.gr hC;replace af:=af.gr hC;replace ac:=ac.gr hC;replace ai:=ai.gr hC;replace ak:=ak.gr hC;replace aa:=aa.grow hC;exact ⟨rfl,_,_,hm,aa,ah,af,ac,ag,ai,ad,ak,rfl⟩
def Zi7 (N:Nat) (aa:R1):Option R4:=
  (Vy N ((aa.1.1,aa.1.2),aa.2)).bind fun ac=>(Zka N (aa.1.1,aa.1.2) (false,ac)).bind fun ab=>some (ab.1.1,ab.1.2)
theorem Zyg {N aw a5:Nat} {ax a6:Option Addr} {col:Zf} {w0:World} {ag:R1} {r:R4} (c1:Nat) (hm:Zi7 N ag=some r) (ay:Sl (Za.int .u32) col w0 ax aw ag.1.2) (a7:Sl (Za.int .u32) col w0 a6 a5 ag.2):
    Calls Tryz.prog 131 #[(.agg #[.bool ag.1.1,.slice ax ag.1.2.length aw,.slice a6 ag.2.length a5])] w0 (fun e w'=>∃ (col':Zf) (ra1:Option Addr) (rc2:Nat),e= .returned ((.agg #[.bool r.1,.slice ra1 r.2.length rc2]))∧Zg col w0 col' w'∧Zc (Za.int .u32) 79 c1 col' w' ra1 rc2 r.2):=by
 refine X2 (m:=17) func131 rfl rfl rfl ?_;rw [Zi7.eq_1] at hm;have ad:=St.start col w0;refine go ?_;refine Xd (col:=(Zi col)) 1 rfl ?_;intro bm b4 bn bo az;refine Xf (col:=bn) #[.bool false,.slice none (([]:List Int).length) 0] 2 zeroValue45 ?_;intro b5 a0 ao bd ah;refine go ?_;have a8:=Zz.clip (fun _=>false) ao a0;refine Zbr (col:=ao) [(0,1),(1,0),(2,0),(3,3),(4,1),(5,3),(6,1),(7,1),(8,1),(9,1),(10,4),(11,4),(12,2),(13,2),(14,1)] (by kernel_rfl) (by kernel_rfl) ⟨fun h=>absurd h (by decide),fun h=>absurd h (by decide),fun h=>absurd h (by decide),fun h=>absurd h (by decide),fun h=>absurd h (by decide),fun h=>absurd h (by decide),fun h=>absurd h (by decide),fun h=>absurd h (by decide),fun h=>absurd h (by decide),fun h=>absurd h (by decide),fun _=>⟨_,_,_,rfl,Ve zeroValue45⟩,fun _=>⟨_,_,_,rfl,Ve zeroValue45⟩,fun h=>absurd h (by decide),fun h=>absurd h (by decide),fun h=>absurd h (by decide),trivial⟩<|X5 (v:=(.pointer ((some (⟨bm,0,none⟩:Addr)).map (·.add 0)))) rfl rfl (fun _=>Ux (sz:=2) (off:=0) underlying47 rfl sizeOf45 (by decide) rfl rfl ⟨_,_,rfl⟩) ?_;replace az:=(az.gr bd).kpp a8;refine Y9 (v:=(.agg #[.bool ag.1.1,.slice ax ag.1.2.length aw])) rfl rfl (fun _ hC=>Xn isAgg45 sizeOf45 rfl rfl (((az.atN).part 0 2 _ rfl).gr (hC.bl (Ze a0 ao)))) ?_;refine Y9 (v:=(.agg #[.bool ag.1.1,.slice ax ag.1.2.length aw,.slice a6 ag.2.length a5])) rfl rfl (fun _ hC=>Xn isAgg47 sizeOf47 rfl rfl (az.atN.gr (hC.bl (Ze a0 ao)))) ?_;refine Ym rfl rfl ?_;intro b6 hC0;have hC:=hC0.bl (Ze a0 ao);obtain ⟨bp,bq,hm⟩:=bZ hm;replace ay:=ay.keep (Zj.start col w0);replace a7:=a7.keep (Zj.start col w0);replace ad:=(((ad.grow bo).grow bd).kpp a8).grow hC;refine Zh (Te 3 bq (ay.ks ad) (a7.ks ad)) ?_;rintro _ aj ⟨al,br,bs,rfl,ap,a9⟩;refine ⟨_,rfl,?_⟩;refine Zk ?_;refine ⟨fun w'=>Zg (Ze aj al) aj (Ze aj al) w',fun g=>(Ze aj al) g=497,Zg.refl _ _,Yk,fun _=>⟨fun _ h=>Wm hC0 ap h,fun b hb=>ap.below.block b hb,fun g x1 x2=>Wr ap g x1 (by first | exact x2 | (simp only [Xk,x2];rfl) | (simp only [Xk,Xz,x2];rfl))⟩,?_⟩;have ba:=Zz.clip (fun _=>false) al aj;refine X5 (v:=(.agg #[.bool false,.slice br bp.length bs])) rfl rfl (fun _=>Yc (l:=[_,_]) (qs:=[(0,1),(1,1)]) underlying45 zeroValue45 ⟨rfl,sizeOf4,rfl,sizeOf43,trivial⟩ rfl) ?_;refine Ym rfl rfl ?_;intro bt hC0
 replace ah:=(((ah.kpp a8).gr hC).gr ap).kpp ba;have hC:=hC0.bl (Ze aj al);obtain ⟨ai,bu,hm⟩:=bZ hm;replace ad:=((ad.grow ap).kpp ba).grow hC;replace a9:=(a9.kpp ba).gr hC;refine Zh (Zz5 4 5 bu ((ay.ks ad).froz 3) (a9.toSlF (Zl.int .u32))) ?_;rintro _ aa ⟨bv,be,bf,bg,bh,rfl,am,ak,b7⟩;refine ⟨_,rfl,?_⟩;replace ak:=ak.thaw (Zv .u32) am ((Fz.refl (col:=(Ze aj al))).froz 3) (by decide);replace am:=am.thawR (col:=(Ze aj al));generalize Z4 bt.heap.size (Ze aj al) bv=ab at *;refine Zk ?_;refine ⟨fun w'=>Zg (Ze aa ab) aa (Ze aa ab) w',fun g=>(Ze aa ab) g=497,Zg.refl _ _,Yk,fun _=>⟨fun _ h=>Wm hC0 am h,fun b hb=>am.below.block b hb,fun g x1 x2=>Wr am g x1 (by first | exact x2 | (simp only [Xk,x2];rfl) | (simp only [Xk,Xz,x2];rfl))⟩,?_⟩;have bb:=Zz.clip (fun _=>false) ab aa;refine X5 (v:=(.tuple #[(.agg #[.bool ai.1.1,.slice be ai.1.2.length bf]),(.agg #[.bool ai.2.1.1,.slice bg ai.2.1.2.length bh]),.int .i64 ai.2.2])) rfl rfl (fun _=>W0 rfl) ?_;refine X5 (v:=(.agg #[.bool ai.1.1,.slice be ai.1.2.length bf])) rfl rfl (fun _=>Xl rfl rfl) ?_;refine X5 (v:=(.agg #[.bool ai.2.1.1,.slice bg ai.2.1.2.length bh])) rfl rfl (fun _=>Xl rfl rfl) ?_;refine X5 (v:=(.int .i64 ai.2.2)) rfl rfl (fun _=>Xl rfl rfl) ?_;refine Qm rfl rfl (Ve zeroValue45) ?_;intro ac bw;refine Qm rfl rfl (Ve zeroValue45) ?_;intro ae bi;refine Ym rfl rfl ?_;intro bj ⟨⟨hC0,hZ0⟩,hZ1⟩;replace ah:=((ah.gr hC).gr am).kpp bb;have hC:=hC0.bl (Ze aa ab);obtain ⟨bc,aq⟩:=S4 (col:=(Ze aa ab)) 6 hZ0 bw;replace aq:Zn 45 6 (Zu ac 6 (Ze aa ab)) bj ac #[.bool false,.slice none (([]:List Int).length) 0]:=aq;obtain ⟨a1,ar⟩:=S4 (col:=(Zu ac 6 (Ze aa ab))) 7 hZ1 ((if_neg bi.2:Zu ac 6 _ ae=_).trans bi.1);replace ar:Zn 45 7 (Zu ae 7 (Zu ac 6 (Ze aa ab))) bj ae #[.bool false,.slice none (([]:List Int).length) 0]:=ar;replace aq:=aq.kpp a1;refine Zw aq ?_;intro af a2 bx au;refine Zk ?_;refine ⟨fun w'=>Zg (Ze af (Zu ae 7 (Zu ac 6 (Ze aa ab)))) af (Ze af (Zu ae 7 (Zu ac 6 (Ze aa ab)))) w',fun g=>(Ze af (Zu ae 7 (Zu ac 6 (Ze aa ab)))) g=497,Zg.refl _ _,Yk,fun h=>absurd h (by decide),?_⟩;have av:=Zz.clip (fun _=>false) (Zu ae 7 (Zu ac 6 (Ze aa ab))) af
 refine Ym rfl rfl ?_;intro bz hC0;replace ad:=((((((ad.grow am).kpp bb).grow hC).kpp bc).kpp a1).kp a2 bx).kpp av;replace ak:=(((((ak.kpp bb).gr hC).kpp bc).kpp a1).kp a2).kpp av;replace ah:=((((ah.gr hC).kpp bc).kpp a1).kp a2).kpp av;have hC:Zg (Ze af (Zu ae 7 (Zu ac 6 (Ze aa ab)))) af (Ze af (Zu ae 7 (Zu ac 6 (Ze aa ab)))) bz:=.of_below hC0.below;replace ar:=((ar.kp a2).kpp av).gr hC;refine Zw ar ?_;intro an a3 b0 b8;refine Zk ?_;refine ⟨fun w'=>Zg (Ze an (Ze af (Zu ae 7 (Zu ac 6 (Ze aa ab))))) an (Ze an (Ze af (Zu ae 7 (Zu ac 6 (Ze aa ab))))) w',fun g=>(Ze an (Ze af (Zu ae 7 (Zu ac 6 (Ze aa ab))))) g=497,Zg.refl _ _,Yk,fun h=>absurd h (by decide),?_⟩;have a4:=Zz.clip (fun _=>false) (Ze af (Zu ae 7 (Zu ac 6 (Ze aa ab)))) an;refine X5 (v:=(.int .i64 ai.2.2)) rfl rfl (fun _=>Uq rfl) ?_;refine Zbs ?_;replace au:=(((au.kpp av).gr hC).kp a3).kpp a4;replace ak:=((ak.gr hC).kp a3).kpp a4;replace ah:=((ah.gr hC).kp a3).kpp a4;replace ad:=((ad.grow hC).kp a3 b0).kpp a4;intro b1 hC;replace hC:Zg (Ze an (Ze af (Zu ae 7 (Zu ac 6 (Ze aa ab))))) an (Ze an (Ze af (Zu ae 7 (Zu ac 6 (Ze aa ab))))) b1:=.of_below hC.below;refine go ?_;replace au:=au.gr hC;refine lV _ (Xa isAgg45 sizeOf45 au) ?_;replace ah:=ah.gr hC;refine Zw ah ?_;intro b9 bk b2 b3;refine go ?_;cases hm;replace ak:=(ak.gr hC).kp bk;replace ad:=(ad.grow hC).kp bk b2;exact ⟨rfl,_,ra b3.atN,_,_,_,rfl,ad.fin (cm [(4,c1)]),ad.fo ak⟩
def Zhb (N:Nat) (aa:R4) (ac:R4):Option Rf:=
  (Zd7 N aa.2 ac.2).bind fun ab=>if (!decide (ab.2.2=0))=true then (some ((false,([]:List Int)),(false,([]:List Int)),11)) else ((Th N (!decide (aa.1=ac.1)) ab.1).bind fun ad=>(Th N aa.1 ab.2.1).bind fun ae=>some ((ad.1,ad.2),(ae.1,ae.2),0))
theorem Zy5 {N a3 a4:Nat} {a5 a6:Option Addr} {col:Zf} {w0:World} {aq ar:R4} {r:Rf} (c1 c2:Nat) (hm:Zhb N aq ar=some r) (ax:Sl (Za.int .u32) col w0 a5 a3 aq.2) (ay:Sl (Za.int .u32) col w0 a6 a4 ar.2):
    Calls Tryz.prog 292 #[(.agg #[.bool aq.1,.slice a5 aq.2.length a3]),(.agg #[.bool ar.1,.slice a6 ar.2.length a4])] w0 (fun e w'=>∃ (col':Zf) (ra1:Option Addr) (rc2:Nat) (ra4:Option Addr) (rc5:Nat),e= .returned (.tuple #[(.agg #[.bool r.1.1,.slice ra1 r.1.2.length rc2]),(.agg #[.bool r.2.1.1,.slice ra4 r.2.1.2.length rc5]),.int .i64 r.2.2])∧Zg col w0 col' w'∧Zc (Za.int .u32) 79 c1 col' w' ra1 rc2 r.1.2∧Zc (Za.int .u32) 79 c2 col' w' ra4 rc5 r.2.1.2):=by
 refine X2 (m:=34) func292 rfl rfl rfl ?_;rw [Zhb.eq_1] at hm;have aa:=St.start col w0;refine go ?_;refine Xd (col:=(Zi col)) 1 rfl ?_;intro bv bw be bf ai;refine Xd (col:=be) 2 rfl ?_;intro bx bz bg a7 aj;refine Xf (col:=bg) #[.bool false,.slice none (([]:List Int).length) 0] 3 zeroValue45 ?_;intro b0 b1 bh az ad;refine Xf (col:=bh) #[.bool false,.slice none (([]:List Int).length) 0] 4 zeroValue45 ?_;intro b2 b3 b4 au ab;refine go ?_;refine Xh ⟨_,_,rfl⟩ ?_;replace ai:=((ai.gr a7).gr az).gr au;refine lW ((ai.atN).nth (q:=1) rfl)<|Xh ⟨_,_,rfl⟩ ?_;replace aj:=(aj.gr az).gr au;refine lW ((aj.atN).nth (q:=1) rfl) ?_;obtain ⟨ak,bi,hm⟩:=bZ hm;replace ax:=ax.keep (Zj.start col w0);replace ay:=ay.keep (Zj.start col w0);replace aa:=(((aa.grow bf).grow a7).grow az).grow au;refine Zh (Znq 5 6 bi (ax.ks aa) (ay.ks aa)) ?_;rintro _ b5 ⟨af,a8,a9,ba,bb,rfl,am,a0,an⟩;refine ⟨_,rfl,?_⟩;refine lM (.tuple #[.slice a8 ak.1.length a9,.slice ba ak.2.1.length bb,.int .i64 ak.2.2])<|lV (.slice a8 ak.1.length a9) (Xl rfl rfl)<|lV (.slice ba ak.2.1.length bb) (Xl rfl rfl)<|lV (.int .i64 ak.2.2) (Xl rfl rfl)<|go ?_;replace ad:=(ad.gr au).gr am;replace ai:=ai.gr am;replace aj:=aj.gr am;replace ab:=ab.gr am;replace aa:=aa.grow am;refine Zq hm (fun hb hm=>go ?_) fun hb hm=>go ?_
 ·refine lV (.agg #[.bool false,.slice none (([]:List Int).length) 0]) (Yc (l:=[_,_]) (qs:=[(0,1),(1,1)]) underlying45 zeroValue45 ⟨rfl,sizeOf4,rfl,sizeOf43,trivial⟩ rfl)<|lV (.agg #[.bool false,.slice none (([]:List Int).length) 0]) (Yc (l:=[_,_]) (qs:=[(0,1),(1,1)]) underlying45 zeroValue45 ⟨rfl,sizeOf4,rfl,sizeOf43,trivial⟩ rfl)<|Zw ad ?_;intro b6 bc bj a1;replace ab:=ab.kp bc;refine Zw ab ?_;intro b7 bd bk bm;refine go ?_;cases hm;replace aa:=(aa.kp bc bj).kp bd bk;replace a1:=a1.kp bd;exact ⟨rfl,_,Zc9 rfl rfl isAgg45 sizeOf45 rfl rfl a1.atN rfl isAgg45 sizeOf45 rfl rfl bm.atN rfl rfl,_,none,0,none,0,rfl,aa.fin (cm []),Zc.nil,Zc.nil⟩
 refine Yv (col:=af) [(0,1),(1,0),(2,1),(3,0),(4,1),(5,1),(7,1),(8,0),(9,1),(6,3),(10,3),(11,2),(12,2),(13,1)] (by kernel_rfl) (by kernel_rfl)<|xF ⟨_,_,rfl⟩ ?_;refine xW (fun _ hC=>((ai.atN).nth (q:=0) rfl).gr (hC.bl af)) ?_;refine xF ⟨_,_,rfl⟩ ?_;refine xW (fun _ hC=>((aj.atN).nth (q:=0) rfl).gr (hC.bl af)) ?_;refine xu rfl rfl (fun _=>Zfa _ _ underlying4 rfl rfl) ?_;refine xu rfl rfl (fun _=>Vb rfl) ?_;refine xF ⟨_,_,rfl⟩ ?_;refine xW (fun _ hC=>((ai.atN).nth (q:=0) rfl).gr (hC.bl af)) ?_;refine xu rfl rfl (fun _=>Vb rfl) ?_;refine xe rfl rfl ?_;intro bn hC0;have hC:=hC0.bl af;obtain ⟨b8,bo,hm⟩:=bZ hm;replace a0:=a0.gr hC;refine Zh (Qs 7 bo (a0.toSlF (Zl.int .u32))) ?_;rintro _ b9 ⟨bp,ca,cb,rfl,ag,ac⟩;refine ⟨_,rfl,?_⟩;replace ac:=ac.thaw (Zv .u32) ag ((Fz.refl (col:=af)).froz 5) (by decide);replace ag:=ag.thawR (col:=af);generalize Z4 bn.heap.size af bp=ao at *;refine Zk<|Xg ao hC0 ag<|xe rfl rfl ?_;intro bq hC0;replace an:=(an.gr hC).gr ag;replace ad:=(ad.gr hC).gr ag;replace ab:=(ab.gr hC).gr ag;replace aa:=(aa.grow hC).grow ag;have hC:=hC0.bl ao;obtain ⟨cc,br,hm⟩:=bZ hm;replace an:=an.gr hC;refine Zh (Qs 8 br (an.toSlF (Zl.int .u32))) ?_;rintro _ cd ⟨bs,ce,cf,rfl,ah,ae⟩;refine ⟨_,rfl,?_⟩;replace ae:=ae.thaw (Zv .u32) ah ((Fz.refl (col:=ao)).froz 6) (by decide);replace ah:=ah.thawR (col:=ao);generalize Z4 bq.heap.size ao bs=al at *;refine Zk<|Xg al hC0 ah<|xe rfl rfl ?_;intro cg hC0;replace ac:=(ac.gr hC).gr ah;replace ad:=(ad.gr hC).gr ah;replace ab:=(ab.gr hC).gr ah;replace aa:=(aa.grow hC).grow ah;have hC:=hC0.bl al;replace ad:=ad.gr hC;refine Zw ad ?_;intro ch av bt ap;refine Zk<|xk al<|xe rfl rfl ?_;intro ci hC0;replace ac:=(ac.gr hC).kp av;replace ae:=(ae.gr hC).kp av;replace ab:=(ab.gr hC).kp av;replace aa:=(aa.grow hC).kp av bt;have hC:=hC0.bl al;replace ab:=ab.gr hC;refine Zw ab ?_;intro cj aw bu a2;refine Zk<|xk al<|xu rfl rfl (fun _=>Zia rfl) ?_;refine Yn ?_;replace ac:=(ac.gr hC).kp aw;replace ae:=(ae.gr hC).kp aw;replace ap:=(ap.gr hC).kp aw;replace aa:=(aa.grow hC).kp aw bu;intro ck hC;replace hC:=hC.bl al;refine Ys ?_;cases hm;replace ac:=ac.gr hC;replace ae:=ae.gr hC;replace ap:=ap.gr hC;replace a2:=a2.gr hC
 replace aa:=aa.grow hC;exact ⟨rfl,_,Zc9 rfl rfl isAgg45 sizeOf45 rfl rfl ap.atN rfl isAgg45 sizeOf45 rfl rfl a2.atN rfl rfl,_,_,_,_,_,rfl,aa.fin (cm [(7,c1),(8,c2)]),aa.fo ac,aa.fo ae⟩

end Go.Proofs.YtbmjpjhbankpoaaGreat
