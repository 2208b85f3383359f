/-
  What functions of the program compute, as plain Lean functions (m_..), and proofs that they compute it (c_..). Printed by a program of the author; no conditions.
-/
import Derived.Test.YtbmjpjhbankpoaaGreatLearnScoreBFloat
import Derived.Test.YtbmjpjhbankpoaaGreatProg
import Derived.Test.YtbmjpjhbankpoaaGreatLearnScoreBBrief
import Derived.Test.YtbmjpjhbankpoaaGreatLearnScoreBBulk
import Derived.Test.YtbmjpjhbankpoaaGreatLearnScoreBThree
import Derived.Test.YtbmjpjhbankpoaaGreatLearnScoreBView
import Derived.Test.YtbmjpjhbankpoaaGreatLearnScoreBVrow
import Derived.Test.YtbmjpjhbankpoaaGreatLearnScoreF4
set_option linter.unusedVariables false
set_option maxRecDepth 100000
set_option maxHeartbeats 2000000
namespace Go.Proofs.YtbmjpjhbankpoaaGreat
open Go Go.RowKit
open Go.IntKind (i8 i16 i32 i64 u8 u16 u32 u64)
open Go.Proofs.Tryz

def Zea (N:Nat) (ab:R4) (ac:R4):Nat→Int→Option Bool
  | 0,_=>none
  | ad+1,aa=>if (decide (aa<(ab.length:Int)))=true then ((Zl ab aa).bind fun ae=>(Zl ac aa).bind fun af=>(Zgs N ae af).bind fun ag=>if (!ag)=true then (some false) else ((Zea N ab ac ad) (i64.wrap (aa+1)))) else (some true)
termination_by structural x=>x
def Zi7 (N:Nat) (aa:R4) (ab:R4):Option Bool:=
  if (!decide ((aa.length:Int)=(ab.length:Int)))=true then (some false) else (Zea N aa ab N 0)
theorem Zyu {N ai aj:Nat} {a0 a1:Option Addr} {col:Ze} {w0:World} {ad ae:R4} {r:Bool} (hm:Zi7 N ad ae=some r) (h0:Sl (Za.slice (Za.int .i64)) col w0 a0 ai ad) (h1:Sl (Za.slice (Za.int .i64)) col w0 a1 aj ae):
    Calls prog 220 #[.slice a0 ad.length ai,.slice a1 ae.length aj] w0 (fun e w'=>e= .returned ((.bool r))∧Below w0.heap.size w0 w'):=by
 refine Z1 4 (m:=29) func220 rfl rfl rfl rfl rfl ?_;rw [Zi7.eq_1] at hm;have aa:=St.start col w0;refine go ?_;replace h0:=h0.keep (Zh.start col w0);replace h1:=h1.keep (Zh.start col w0);refine Zm hm (fun hb hm=>go ?_) fun hb hm=>go ?_
 ·cases hm;exact ⟨rfl,rfl,aa.below⟩
 refine Zu [0,1,1000000] (fun n f ak=>∃ ab af ac,ac=n∧Zea N ad ae ac af=some r∧St w0 (Zg col) ab ak∧[5].map f=[.int .i64 af]) N ⟨_,0,_,rfl,hm,aa,rfl⟩ ?_;clear hm;intro n f ak hI;obtain ⟨ab,af,ac,hn,hm,aa,hs⟩:=hI;subst hn;refine .lL [5] hs ?_
 cases ac with
 | zero=>rw [Zea.eq_1] at hm;cases hm
 | succ ac=>
  rw [Zea.eq_2] at hm;refine go ?_;refine Zm hm (fun hb hm=>go ?_) fun hb hm=>go ?_
  ·refine Ys (col:=ab) (by kernel_rfl) (by kernel_rfl)<|go ?_;obtain ⟨av,ag,hm⟩:=bZ hm;refine qI ag ((h0.ks aa).addr ag) ?_;obtain ⟨_,al,am⟩:=(h0.ks aa).atN ag;obtain ⟨⟨aw,ax,rfl,an⟩,_⟩:=al;refine qW (fun _ hC=>am.one.gr (hC.bl ab)) ?_;refine go ?_;obtain ⟨ay,ah,hm⟩:=bZ hm;refine qI ah ((h1.ks aa).addr ah) ?_;obtain ⟨_,ao,ap⟩:=(h1.ks aa).atN ah;obtain ⟨⟨az,a2,rfl,aq⟩,_⟩:=ao;refine qW (fun _ hC=>ap.one.gr (hC.bl ab)) ?_;obtain ⟨ar,au,hm⟩:=bZ hm;refine qc (v:=(.bool ar)) rfl (fun _ hC=>⟨_,_,Ur call119 rfl rfl,(Zp2 au (an.gr (hC.bl ab)) (aq.gr (hC.bl ab)):).mono fun _ _ h=>⟨h.1,hC.trans (.of_below h.2)⟩⟩) ?_;refine go ?_;refine X9 ?_;intro a3 hC;replace hC:=hC.bl ab;refine go ?_;replace aa:=aa.grow hC;refine Zm hm (fun hb hm=>go ?_) fun hb hm=>go ?_
   ·cases hm;exact ⟨rfl,rfl,aa.below⟩
   exact ⟨ac,by omega,rfl,⟨_,_,_,rfl,hm,aa,rfl⟩⟩
  cases hm;exact ⟨rfl,rfl,aa.below⟩
def Zi5 (aa:Int) (kk_L1:(Bool→Int→Option Bool)) (ab:Bool):Option Bool:=
  kk_L1 ab (i64.wrap (aa+1))
def Zle (aa:Int) (kk_L2:(Bool→Int→Option Bool)) (ab:Bool):Option Bool:=
  kk_L2 ab (i64.wrap (aa+1))
def Zg7 (N:Nat) (ae:R0) (af:R0) (aa:Int) (kk_L2:(Bool→Int→Option Bool)) (ag:Bool) (ab:Int) (kk_L3:(Bool→Int→Option Bool)) (ah:Bool):Option Bool:=
  if ah=true then ((Zl ae.2.2.2.2 aa).bind fun ai=>(Zl ai ab).bind fun ac=>(Zl af.2.2.2.2 aa).bind fun aj=>(Zl aj ab).bind fun ad=>(Zb0 N ((ac.1.1,ac.1.2),ac.2) ((ad.1.1,ad.1.2),ad.2)).bind fun ak=>kk_L3 (decide (ak=0)) (i64.wrap (ab+1))) else (Zle aa kk_L2 ag)
def Zax (N:Nat) (aa:R0) (ac:R0) (ab:Int) (kk_L2:(Bool→Int→Option Bool)):Nat→Bool→Int→Option Bool
  | 0,_,_=>none
  | af+1,ad,ae=>if ad=true then ((Zl aa.2.2.2.2 ab).bind fun ag=>Zg7 N aa ac ab kk_L2 ad ae (Zax N aa ac ab kk_L2 af) (decide (ae<(ag.length:Int)))) else (Zg7 N aa ac ab kk_L2 ad ae (Zax N aa ac ab kk_L2 af) false)
termination_by structural x=>x
def Zi6 (N:Nat) (aa:R0) (ab:R0) (ac:Int) (kk_L2:(Bool→Int→Option Bool)) (ad:Bool):Option Bool:=
  Zax N aa ab ac kk_L2 N ad 0
def Up (N:Nat) (aa:R0) (ab:R0):Nat→Bool→Int→Option Bool
  | 0,_,_=>none
  | ad+1,ae,ac=>if (decide (ac<(aa.2.2.2.2.length:Int)))=true then (if ae=true then ((Zl aa.2.2.2.2 ac).bind fun af=>(Zl ab.2.2.2.2 ac).bind fun ag=>Zi6 N aa ab ac (Up N aa ab ad) (decide ((af.length:Int)=(ag.length:Int)))) else (Zi6 N aa ab ac (Up N aa ab ad) false)) else (some ae)
termination_by structural x=>x
def Zaw (N:Nat) (aa:R0) (ac:R0):Nat→Bool→Int→Option Bool
  | 0,_,_=>none
  | ad+1,ae,ab=>if (decide (ab<(aa.2.2.1.length:Int)))=true then (if ae=true then ((Zl aa.2.2.1 ab).bind fun af=>(Zl ac.2.2.1 ab).bind fun ag=>(Zgr N af ag).bind fun ah=>Zi5 ab (Zaw N aa ac ad) ah) else (Zi5 ab (Zaw N aa ac ad) false)) else (Up N aa ac N ae 0)
termination_by structural x=>x
def Zi4 (N:Nat) (aa:R0) (ab:R0) (ac:Bool):Option Bool:=
  Zaw N aa ab N ac 0
def Zg6 (N:Nat) (aa:R0) (ab:R0) (ac:Bool):Option Bool:=
  if ac=true then (some false) else ((Zgr N aa.2.1 ab.2.1).bind fun ad=>if ad=true then ((Zi7 N aa.2.2.2.1 ab.2.2.2.1).bind fun ae=>Zi4 N aa ab ae) else (Zi4 N aa ab false))
def Zg5 (N:Nat) (aa:R0) (ab:R0):Option Bool:=
  if (!decide (aa.1=ab.1))=true then (Zg6 N aa ab true) else (if (!decide ((aa.2.2.1.length:Int)=(ab.2.2.1.length:Int)))=true then (Zg6 N aa ab true) else (Zg6 N aa ab (!decide ((aa.2.2.2.2.length:Int)=(ab.2.2.2.2.length:Int)))))
theorem Zyr {N ah ai aj ak al am an ao:Nat} {ap aq ar au av aw ax ay:Option Addr} {col:Ze} {w0:World} {aa ab:R0} {r:Bool} (hm:Zg5 N aa ab=some r) (bv:Sl Za.str col w0 ap ah aa.2.1) (bd:Sl (Za.slice Za.str) col w0 aq ai aa.2.2.1) (bw:Sl (Za.slice (Za.int .i64)) col w0 ar aj aa.2.2.2.1) (a3:Sl (Za.slice (Za.pair (Za.pair Za.bool (Za.slice (Za.int .u32))) (Za.slice (Za.int .u32)))) col w0 au ak aa.2.2.2.2) (bx:Sl Za.str col w0 av al ab.2.1) (be:Sl (Za.slice Za.str) col w0 aw am ab.2.2.1) (bz:Sl (Za.slice (Za.int .i64)) col w0 ax an ab.2.2.2.1) (a8:Sl (Za.slice (Za.pair (Za.pair Za.bool (Za.slice (Za.int .u32))) (Za.slice (Za.int .u32)))) col w0 ay ao ab.2.2.2.2):
    Calls prog 117 #[(.agg #[.string aa.1,.slice ap aa.2.1.length ah,.slice aq aa.2.2.1.length ai,.slice ar aa.2.2.2.1.length aj,.slice au aa.2.2.2.2.length ak]),(.agg #[.string ab.1,.slice av ab.2.1.length al,.slice aw ab.2.2.1.length am,.slice ax ab.2.2.2.1.length an,.slice ay ab.2.2.2.2.length ao])] w0 (fun e w'=>e= .returned ((.bool r))∧Below w0.heap.size w0 w'):=by
 refine Z1 4 (m:=120) func117 rfl rfl rfl rfl rfl ?_;rw [Zg5.eq_1] at hm;have ac:=St.start col w0;refine go ?_;refine Xe (col:=(Zg col)) 1 rfl ?_;intro a1 ed cv cw ad;refine Xe (col:=cv) 2 rfl ?_;intro a2 ee ef cq ae;refine Zcw rfl<|Zo<|Zt<|Zt ?_;replace bv:=bv.keep (Zh.start col w0);replace bd:=bd.keep (Zh.start col w0);replace bw:=bw.keep (Zh.start col w0);replace a3:=a3.keep (Zh.start col w0);replace bx:=bx.keep (Zh.start col w0);replace be:=be.keep (Zh.start col w0);replace bz:=bz.keep (Zh.start col w0);replace a8:=a8.keep (Zh.start col w0);replace ac:=(ac.grow cw).grow cq;replace ad:=ad.gr cq;refine Wp.cutK [2,3,1000000] (fun f a9=>∃ a4 b0,Zg6 N aa ab b0=some r∧St w0 (Zg col) a4 a9∧Zk 27 1 a4 a9 a1 #[.string aa.1,.slice ap aa.2.1.length ah,.slice aq aa.2.2.1.length ai,.slice ar aa.2.2.2.1.length aj,.slice au aa.2.2.2.2.length ak]∧Zk 27 2 a4 a9 a2 #[.string ab.1,.slice av ab.2.1.length al,.slice aw ab.2.2.1.length am,.slice ax ab.2.2.2.1.length an,.slice ay ab.2.2.2.2.length ao]∧[31].map f=[.bool b0]) ?_ ?_
 ·intro f a9 hJ;obtain ⟨a4,b0,hm,ac,ad,ae,hs⟩:=hJ;rw [Zg6.eq_1] at hm;refine .lL [31] hs ?_;refine Zm hm (fun hb hm=>go ?_) fun hb hm=>?_
  ·cases hm;exact ⟨rfl,rfl,ac.below⟩
  refine Xr<|Zt ?_;refine Wp.cutK [2,3,1000000] (fun f bf=>∃ bg b1,Zi4 N aa ab b1=some r∧St w0 (Zg col) bg bf∧Zk 27 1 bg bf a1 #[.string aa.1,.slice ap aa.2.1.length ah,.slice aq aa.2.2.1.length ai,.slice ar aa.2.2.2.1.length aj,.slice au aa.2.2.2.2.length ak]∧Zk 27 2 bg bf a2 #[.string ab.1,.slice av ab.2.1.length al,.slice aw ab.2.2.1.length am,.slice ax ab.2.2.2.1.length an,.slice ay ab.2.2.2.2.length ao]∧[5].map f=[.bool b1]) ?_ ?_
  ·intro f bf hJ;obtain ⟨bg,b1,hm,ac,ad,ae,hs⟩:=hJ;rw [Zi4.eq_1] at hm;refine .lL [5] hs<|go ?_;refine Zu [2,3,1000000] (fun n f bh=>∃ ag b2 bi a6,a6=n∧Zaw N aa ab a6 b2 bi=some r∧St w0 (Zg col) ag bh∧Zk 27 1 ag bh a1 #[.string aa.1,.slice ap aa.2.1.length ah,.slice aq aa.2.2.1.length ai,.slice ar aa.2.2.2.1.length aj,.slice au aa.2.2.2.2.length ak]∧Zk 27 2 ag bh a2 #[.string ab.1,.slice av ab.2.1.length al,.slice aw ab.2.2.1.length am,.slice ax ab.2.2.2.1.length an,.slice ay ab.2.2.2.2.length ao]∧[5,6].map f=[.bool b2,.int .i64 bi]) N ⟨_,_,0,_,rfl,hm,ac,ad,ae,rfl⟩ ?_;clear hm;intro n f bh hI;obtain ⟨ag,b2,bi,a6,hn,hm,ac,ad,ae,hs⟩:=hI;subst hn;refine .lL [5,6] hs ?_
   cases a6 with
   | zero=>rw [Zaw.eq_1] at hm;cases hm
   | succ a6=>
    rw [Zaw.eq_2] at hm;refine go ?_;refine Z9 ad ?_;refine go ?_;refine Zm hm (fun hb hm=>?_) fun hb hm=>go ?_
    ·refine Xr<|Zt ?_;refine Wp.cutK [2,3,6,1000000] (fun f bj=>∃ bk b3,Zi5 bi (Zaw N aa ab a6) b3=some r∧St w0 (Zg col) bk bj∧Zk 27 1 bk bj a1 #[.string aa.1,.slice ap aa.2.1.length ah,.slice aq aa.2.2.1.length ai,.slice ar aa.2.2.2.1.length aj,.slice au aa.2.2.2.2.length ak]∧Zk 27 2 bk bj a2 #[.string ab.1,.slice av ab.2.1.length al,.slice aw ab.2.2.1.length am,.slice ax ab.2.2.2.1.length an,.slice ay ab.2.2.2.2.length ao]∧[5].map f=[.bool b3]) ?_ ?_
     ·intro f bj hJ;obtain ⟨bk,b3,hm,ac,ad,ae,hs⟩:=hJ;rw [Zi5.eq_1] at hm;refine .lL [5] hs<|go ?_;exact ⟨a6,by omega,rfl,⟨_,_,_,_,rfl,hm,ac,ad,ae,rfl⟩⟩
     refine Zck<|Ys (col:=ag) (by kernel_rfl) (by kernel_rfl)<|go ?_;refine Xu hm (fun b4 hm=>go ?_) fun b4 hm=>go ?_
     ·refine qF ⟨_,_,rfl⟩ ?_;refine go ?_;refine qW (fun _ hC=>((ad.atN).nth (q:=2) rfl).gr (hC.bl ag)) ?_;refine go ?_;obtain ⟨eg,b5,hm⟩:=bZ hm;refine qI b5 ((bd.ks ac).addr b5) ?_;refine go ?_;obtain ⟨_,cx,cy⟩:=(bd.ks ac).atN b5;obtain ⟨⟨eh,ei,rfl,cz⟩,_⟩:=cx;refine qW (fun _ hC=>cy.one.gr (hC.bl ag)) ?_;refine go ?_;refine qF ⟨_,_,rfl⟩ ?_;refine go ?_;refine qW (fun _ hC=>((ae.atN).nth (q:=2) rfl).gr (hC.bl ag)) ?_;refine go ?_;obtain ⟨ej,b6,hm⟩:=bZ hm;refine qI b6 ((be.ks ac).addr b6) ?_;refine go ?_;obtain ⟨_,c0,c1⟩:=(be.ks ac).atN b6;obtain ⟨⟨ek,el,rfl,c2⟩,_⟩:=c0;refine qW (fun _ hC=>c1.one.gr (hC.bl ag)) ?_;refine go ?_;obtain ⟨cr,c3,hm⟩:=bZ hm;refine qc (v:=(.bool cr)) rfl (fun _ hC=>⟨_,_,Ur call219 rfl rfl,(Zp1 c3 (cz.gr (hC.bl ag)) (c2.gr (hC.bl ag)):).mono fun _ _ h=>⟨h.1,hC.trans (.of_below h.2)⟩⟩) ?_;refine qv (v:=(.bool cr)) rfl (fun _ hC=>Xg (congrArg Value.bool b4) rfl) ?_;refine go ?_;refine X9 ?_;intro em hC;replace hC:=hC.bl ag;replace ad:=ad.gr hC;replace ae:=ae.gr hC;replace ac:=ac.grow hC;exact ⟨rfl,_,_,hm,ac,ad,ae,rfl⟩
     refine qv (v:=(.bool false)) rfl (fun _ hC=>Xt (congrArg Value.bool b4) rfl) ?_;refine go ?_;refine X9 ?_;intro en hC;replace hC:=hC.bl ag;replace ad:=ad.gr hC;replace ae:=ae.gr hC;replace ac:=ac.grow hC;exact ⟨rfl,_,_,hm,ac,ad,ae,rfl⟩
    refine Zu [2,3,1000000] (fun n f bm=>∃ az b7 a5 a0,a0=n∧Up N aa ab a0 b7 a5=some r∧St w0 (Zg col) az bm∧Zk 27 1 az bm a1 #[.string aa.1,.slice ap aa.2.1.length ah,.slice aq aa.2.2.1.length ai,.slice ar aa.2.2.2.1.length aj,.slice au aa.2.2.2.2.length ak]∧Zk 27 2 az bm a2 #[.string ab.1,.slice av ab.2.1.length al,.slice aw ab.2.2.1.length am,.slice ax ab.2.2.2.1.length an,.slice ay ab.2.2.2.2.length ao]∧[5,7].map f=[.bool b7,.int .i64 a5]) N ⟨_,_,0,_,rfl,hm,ac,ad,ae,rfl⟩ ?_;clear hm;intro n f bm hI;obtain ⟨az,b7,a5,a0,hn,hm,ac,ad,ae,hs⟩:=hI;subst hn;refine .lL [5,7] hs ?_
    cases a0 with
    | zero=>rw [Up.eq_1] at hm;cases hm
    | succ a0=>
     rw [Up.eq_2] at hm;refine go ?_;refine Z9 ad ?_;refine go ?_;refine Zm hm (fun hb hm=>?_) fun hb hm=>go ?_
     ·refine Xr<|Zt ?_;refine Wp.cutK [2,3,7,1000000] (fun f bn=>∃ bo b8,Zle a5 (Up N aa ab a0) b8=some r∧St w0 (Zg col) bo bn∧Zk 27 1 bo bn a1 #[.string aa.1,.slice ap aa.2.1.length ah,.slice aq aa.2.2.1.length ai,.slice ar aa.2.2.2.1.length aj,.slice au aa.2.2.2.2.length ak]∧Zk 27 2 bo bn a2 #[.string ab.1,.slice av ab.2.1.length al,.slice aw ab.2.2.1.length am,.slice ax ab.2.2.2.1.length an,.slice ay ab.2.2.2.2.length ao]∧[5].map f=[.bool b8]) ?_ ?_
      ·intro f bn hJ;obtain ⟨bo,b8,hm,ac,ad,ae,hs⟩:=hJ;rw [Zle.eq_1] at hm;refine .lL [5] hs<|go ?_;exact ⟨a0,by omega,rfl,⟨_,_,_,_,rfl,hm,ac,ad,ae,rfl⟩⟩
      refine Zck<|Zt ?_;refine Wp.cutK [2,3,7,1000000] (fun f bp=>∃ bq b9,Zi6 N aa ab a5 (Up N aa ab a0) b9=some r∧St w0 (Zg col) bq bp∧Zk 27 1 bq bp a1 #[.string aa.1,.slice ap aa.2.1.length ah,.slice aq aa.2.2.1.length ai,.slice ar aa.2.2.2.1.length aj,.slice au aa.2.2.2.2.length ak]∧Zk 27 2 bq bp a2 #[.string ab.1,.slice av ab.2.1.length al,.slice aw ab.2.2.1.length am,.slice ax ab.2.2.2.1.length an,.slice ay ab.2.2.2.2.length ao]∧[5].map f=[.bool b9]) ?_ ?_
      ·intro f bp hJ;obtain ⟨bq,b9,hm,ac,ad,ae,hs⟩:=hJ;rw [Zi6.eq_1] at hm;refine .lL [5] hs<|go ?_;refine Zu [2,3,7,1000000] (fun n f br=>∃ bs bt ba a7,a7=n∧Zax N aa ab a5 (Up N aa ab a0) a7 bt ba=some r∧St w0 (Zg col) bs br∧Zk 27 1 bs br a1 #[.string aa.1,.slice ap aa.2.1.length ah,.slice aq aa.2.2.1.length ai,.slice ar aa.2.2.2.1.length aj,.slice au aa.2.2.2.2.length ak]∧Zk 27 2 bs br a2 #[.string ab.1,.slice av ab.2.1.length al,.slice aw ab.2.2.1.length am,.slice ax ab.2.2.2.1.length an,.slice ay ab.2.2.2.2.length ao]∧[5,8].map f=[.bool bt,.int .i64 ba]) N ⟨_,_,0,_,rfl,hm,ac,ad,ae,rfl⟩ ?_;clear hm;intro n f br hI;obtain ⟨bs,bt,ba,a7,hn,hm,ac,ad,ae,hs⟩:=hI;subst hn;refine .lL [5,8] hs ?_
       cases a7 with
       | zero=>rw [Zax.eq_1] at hm;cases hm
       | succ a7=>
        rw [Zax.eq_2] at hm;refine Zt<|Zt ?_;refine Wp.cutK [2,3,5,7,8,1000000] (fun f bu=>∃ af ca,Zg7 N aa ab a5 (Up N aa ab a0) bt ba (Zax N aa ab a5 (Up N aa ab a0) a7) ca=some r∧St w0 (Zg col) af bu∧Zk 27 1 af bu a1 #[.string aa.1,.slice ap aa.2.1.length ah,.slice aq aa.2.2.1.length ai,.slice ar aa.2.2.2.1.length aj,.slice au aa.2.2.2.2.length ak]∧Zk 27 2 af bu a2 #[.string ab.1,.slice av ab.2.1.length al,.slice aw ab.2.2.1.length am,.slice ax ab.2.2.2.1.length an,.slice ay ab.2.2.2.2.length ao]∧[98].map f=[.bool ca]) ?_ ?_
        ·intro f bu hJ;obtain ⟨af,ca,hm,ac,ad,ae,hs⟩:=hJ;rw [Zg7.eq_1] at hm;refine .lL [98] hs ?_;refine Zm hm (fun hb hm=>go ?_) fun hb hm=>go ?_
         ·refine Ys (col:=af) (by kernel_rfl) (by kernel_rfl)<|qF ⟨_,_,rfl⟩ ?_;refine qW (fun _ hC=>((ad.atN).nth (q:=4) rfl).gr (hC.bl af)) ?_;refine go ?_;obtain ⟨eo,cb,hm⟩:=bZ hm;refine qI cb ((a3.ks ac).addr cb) ?_;obtain ⟨_,c4,c5⟩:=(a3.ks ac).atN cb;obtain ⟨⟨ep,eq,rfl,cs⟩,_⟩:=c4;refine qW (fun _ hC=>c5.one.gr (hC.bl af)) ?_;refine go ?_;obtain ⟨cc,cd,hm⟩:=bZ hm;refine qI cd (cs.addr cd) ?_;obtain ⟨_,c6,c7⟩:=cs.atN cd;obtain ⟨_,_,rfl,c8,c9⟩:=W8 c6;obtain ⟨_,_,rfl,da,db⟩:=W8 c8;obtain ⟨rfl,_⟩:=da;obtain ⟨⟨dc,dd,rfl,de⟩,_⟩:=db;obtain ⟨⟨df,dg,rfl,dh⟩,_⟩:=c9;refine qv (v:=(.agg #[.bool cc.1.1,.slice dc cc.1.2.length dd,.slice df cc.2.length dg])) rfl (fun _ hC=>Y1 isAgg47 sizeOf47 rfl rfl (c7.gr (hC.bl af))) ?_;refine qF ⟨_,_,rfl⟩ ?_;refine qW (fun _ hC=>((ae.atN).nth (q:=4) rfl).gr (hC.bl af)) ?_;refine go ?_;obtain ⟨er,ce,hm⟩:=bZ hm;refine qI ce ((a8.ks ac).addr ce) ?_;obtain ⟨_,di,dj⟩:=(a8.ks ac).atN ce;obtain ⟨⟨es,et,rfl,ct⟩,_⟩:=di;refine qW (fun _ hC=>dj.one.gr (hC.bl af)) ?_;refine go ?_;obtain ⟨cf,cg,hm⟩:=bZ hm;refine qI cg (ct.addr cg) ?_;obtain ⟨_,dl,dm⟩:=ct.atN cg;obtain ⟨_,_,rfl,dn,dp⟩:=W8 dl;obtain ⟨_,_,rfl,dq,dr⟩:=W8 dn;obtain ⟨rfl,_⟩:=dq;obtain ⟨⟨ds,dt,rfl,du⟩,_⟩:=dr;obtain ⟨⟨dv,dw,rfl,dx⟩,_⟩:=dp;refine qv (v:=(.agg #[.bool cf.1.1,.slice ds cf.1.2.length dt,.slice dv cf.2.length dw])) rfl (fun _ hC=>Y1 isAgg47 sizeOf47 rfl rfl (dm.gr (hC.bl af))) ?_;obtain ⟨dy,dz,hm⟩:=bZ hm;refine qc (v:=(.int .i64 dy)) rfl (fun _ hC=>⟨_,_,Ur call94 rfl rfl,(Znb dz (de.gr (hC.bl af)) (dh.gr (hC.bl af)) (du.gr (hC.bl af)) (dx.gr (hC.bl af)):).mono fun _ _ h=>⟨h.1,hC.trans (.of_below h.2)⟩⟩) ?_;refine go ?_;refine X9 ?_;intro eu hC;replace hC:=hC.bl af;refine go ?_;replace ad:=ad.gr hC;replace ae:=ae.gr hC;replace ac:=ac.grow hC;exact ⟨a7,by omega,rfl,⟨_,_,_,_,rfl,hm,ac,ad,ae,rfl⟩⟩
         exact ⟨rfl,_,_,hm,ac,ad,ae,rfl⟩
        refine go ?_;refine Xu hm (fun ch hm=>go ?_) fun ch hm=>go ?_
        ·refine Xv ⟨_,_,rfl⟩ ?_;refine go ?_;refine lW ((ad.atN).nth (q:=4) rfl)<|go ?_;obtain ⟨d0,ci,hm⟩:=bZ hm;refine lI ci ((a3.ks ac).addr ci) ?_;refine go ?_;obtain ⟨_,d1,d2⟩:=(a3.ks ac).atN ci;obtain ⟨⟨ew,ey,rfl,ez⟩,_⟩:=d1;refine lW d2.one<|go ?_;refine lV (.bool (decide (ba<(d0.length:Int)))) (Xg (congrArg Value.bool ch) rfl)<|Zo ?_;exact ⟨rfl,_,_,hm,ac,ad,ae,rfl⟩
        refine lV (.bool false) (Xt (congrArg Value.bool ch) rfl)<|Zo ?_;exact ⟨rfl,_,_,hm,ac,ad,ae,rfl⟩
      refine Ys (col:=az) (by kernel_rfl) (by kernel_rfl)<|go ?_;refine Xu hm (fun cj hm=>go ?_) fun cj hm=>go ?_
      ·refine qF ⟨_,_,rfl⟩ ?_;refine go ?_;refine qW (fun _ hC=>((ad.atN).nth (q:=4) rfl).gr (hC.bl az)) ?_;refine go ?_;obtain ⟨d3,ck,hm⟩:=bZ hm;refine qI ck ((a3.ks ac).addr ck) ?_;refine go ?_;obtain ⟨_,d4,d5⟩:=(a3.ks ac).atN ck;obtain ⟨⟨e0,e1,rfl,e2⟩,_⟩:=d4;refine qW (fun _ hC=>d5.one.gr (hC.bl az)) ?_;refine go ?_;refine qF ⟨_,_,rfl⟩ ?_;refine go ?_;refine qW (fun _ hC=>((ae.atN).nth (q:=4) rfl).gr (hC.bl az)) ?_;refine go ?_;obtain ⟨d6,cl,hm⟩:=bZ hm;refine qI cl ((a8.ks ac).addr cl) ?_;refine go ?_;obtain ⟨_,d7,d8⟩:=(a8.ks ac).atN cl;obtain ⟨⟨e3,e4,rfl,e5⟩,_⟩:=d7;refine qW (fun _ hC=>d8.one.gr (hC.bl az)) ?_;refine go ?_;refine qv (v:=(.bool (decide ((d3.length:Int)=(d6.length:Int))))) rfl (fun _ hC=>Xg (congrArg Value.bool cj) rfl) ?_;refine go ?_;refine X9 ?_;intro e6 hC;replace hC:=hC.bl az;replace ad:=ad.gr hC;replace ae:=ae.gr hC;replace ac:=ac.grow hC;exact ⟨rfl,_,_,hm,ac,ad,ae,rfl⟩
      refine qv (v:=(.bool false)) rfl (fun _ hC=>Xt (congrArg Value.bool cj) rfl) ?_;refine go ?_;refine X9 ?_;intro e7 hC;replace hC:=hC.bl az;replace ad:=ad.gr hC;replace ae:=ae.gr hC;replace ac:=ac.grow hC;exact ⟨rfl,_,_,hm,ac,ad,ae,rfl⟩
     cases hm;exact ⟨rfl,rfl,ac.below⟩
  refine Wa<|Z9 ad<|Z9 ae ?_;obtain ⟨e8,d9,hm⟩:=bZ hm;refine Zi (Zp1 d9 (bv.ks ac) (bx.ks ac)) ?_;rintro _ cu ⟨rfl,bb⟩;refine ⟨_,rfl,?_⟩;replace bb:Zf a4 a9 a4 cu:=.of_below bb;refine Y0 rfl ?_;replace ad:=ad.gr bb;replace ae:=ae.gr bb;replace ac:=ac.grow bb;refine Xu hm (fun cn hm=>go ?_) fun cn hm=>go ?_
  ·refine Xv ⟨_,_,rfl⟩ ?_;refine go ?_;refine lW ((ad.atN).nth (q:=3) rfl)<|go ?_;refine Xv ⟨_,_,rfl⟩ ?_;refine go ?_;refine lW ((ae.atN).nth (q:=3) rfl)<|go ?_;obtain ⟨ea,eb,hm⟩:=bZ hm;refine Zi (Zyu eb (bw.ks ac) (bz.ks ac)) ?_;rintro _ ec ⟨rfl,bc⟩;refine ⟨_,rfl,?_⟩;replace bc:Zf a4 cu a4 ec:=.of_below bc;refine lV (.bool ea) (Xg (congrArg Value.bool cn) rfl)<|go ?_;replace ad:=ad.gr bc;replace ae:=ae.gr bc;replace ac:=ac.grow bc;exact ⟨rfl,_,_,hm,ac,ad,ae,rfl⟩
  refine lV (.bool false) (Xt (congrArg Value.bool cn) rfl)<|go ?_;exact ⟨rfl,_,_,hm,ac,ad,ae,rfl⟩
 refine Wa<|Z9 ad<|Z9 ae ?_;refine go ?_;refine Xu hm (fun co hm=>go ?_) fun co hm=>go ?_
 ·refine lV (.bool true) (Xg (congrArg Value.bool co) rfl)<|Y0 rfl<|lP 23 rfl rfl<|lP 23 rfl rfl<|lP 23 rfl rfl<|lP 23 rfl rfl<|lP 23 rfl rfl<|lP 23 rfl rfl<|lP 23 rfl rfl<|lV (.bool true) (Xg rfl rfl)<|Zo ?_;exact ⟨rfl,_,_,hm,ac,ad,ae,rfl⟩
 refine Xv ⟨_,_,rfl⟩ ?_;refine go ?_;refine lW ((ad.atN).nth (q:=2) rfl)<|go ?_;refine Xv ⟨_,_,rfl⟩ ?_;refine go ?_;refine lW ((ae.atN).nth (q:=2) rfl)<|go ?_;refine lV (.bool (!decide ((aa.2.2.1.length:Int)=(ab.2.2.1.length:Int)))) (Xt (congrArg Value.bool co) rfl)<|Y0 rfl ?_;refine Xu hm (fun cp hm=>go ?_) fun cp hm=>go ?_
 ·refine lV (.bool true) (Xg (congrArg Value.bool cp) rfl)<|Zo ?_;exact ⟨rfl,_,_,hm,ac,ad,ae,rfl⟩
 refine Xv ⟨_,_,rfl⟩ ?_;refine go ?_;refine lW ((ad.atN).nth (q:=4) rfl)<|go ?_;refine Xv ⟨_,_,rfl⟩ ?_;refine go ?_;refine lW ((ae.atN).nth (q:=4) rfl)<|go ?_;refine lV (.bool (!decide ((aa.2.2.2.2.length:Int)=(ab.2.2.2.2.length:Int)))) (Xt (congrArg Value.bool cp) rfl)<|Zo ?_;exact ⟨rfl,_,_,hm,ac,ad,ae,rfl⟩
def Zdt (N:Nat) (ab:R7) (ae:R7):Nat→Int→Option Bool
  | 0,_=>none
  | af+1,aa=>if (decide (aa<(ab.length:Int)))=true then ((Zl ab aa).bind fun ac=>(Zl ae aa).bind fun ad=>(Zb1 N ((ac.1.1,ac.1.2),ac.2) ((ad.1.1,ad.1.2),ad.2)).bind fun ag=>if (!ag)=true then (some false) else ((Zdt N ab ae af) (i64.wrap (aa+1)))) else (some true)
termination_by structural x=>x
def Zix (N:Nat) (aa:R7) (ab:R7):Option Bool:=
  if (!decide ((aa.length:Int)=(ab.length:Int)))=true then (some false) else (Zdt N aa ab N 0)
theorem Zyd {N ak al:Nat} {a0 a1:Option Addr} {col:Ze} {w0:World} {ad ae:R7} {r:Bool} (hm:Zix N ad ae=some r) (h0:Sl (Za.pair (Za.pair Za.bool (Za.slice (Za.int .u32))) (Za.slice (Za.int .u32))) col w0 a0 ak ad) (h1:Sl (Za.pair (Za.pair Za.bool (Za.slice (Za.int .u32))) (Za.slice (Za.int .u32))) col w0 a1 al ae):
    Calls prog 118 #[.slice a0 ad.length ak,.slice a1 ae.length al] w0 (fun e w'=>e= .returned ((.bool r))∧Below w0.heap.size w0 w'):=by
 refine Z1 4 (m:=29) func118 rfl rfl rfl rfl rfl ?_;rw [Zix.eq_1] at hm;have aa:=St.start col w0;refine go ?_;replace h0:=h0.keep (Zh.start col w0);replace h1:=h1.keep (Zh.start col w0);refine Zm hm (fun hb hm=>go ?_) fun hb hm=>go ?_
 ·cases hm;exact ⟨rfl,rfl,aa.below⟩
 refine Zu [0,1,1000000] (fun n f am=>∃ ab af ac,ac=n∧Zdt N ad ae ac af=some r∧St w0 (Zg col) ab am∧[5].map f=[.int .i64 af]) N ⟨_,0,_,rfl,hm,aa,rfl⟩ ?_;clear hm;intro n f am hI;obtain ⟨ab,af,ac,hn,hm,aa,hs⟩:=hI;subst hn;refine .lL [5] hs ?_
 cases ac with
 | zero=>rw [Zdt.eq_1] at hm;cases hm
 | succ ac=>
  rw [Zdt.eq_2] at hm;refine go ?_;refine Zm hm (fun hb hm=>go ?_) fun hb hm=>go ?_
  ·refine Ys (col:=ab) (by kernel_rfl) (by kernel_rfl)<|go ?_;obtain ⟨ag,ah,hm⟩:=bZ hm;refine qI ah ((h0.ks aa).addr ah) ?_;obtain ⟨_,an,ao⟩:=(h0.ks aa).atN ah;obtain ⟨_,_,rfl,ap,aq⟩:=W8 an;obtain ⟨_,_,rfl,ar,au⟩:=W8 ap;obtain ⟨rfl,_⟩:=ar;obtain ⟨⟨av,aw,rfl,ax⟩,_⟩:=au;obtain ⟨⟨ay,az,rfl,a2⟩,_⟩:=aq;refine qv (v:=(.agg #[.bool ag.1.1,.slice av ag.1.2.length aw,.slice ay ag.2.length az])) rfl (fun _ hC=>Y1 isAgg47 sizeOf47 rfl rfl (ao.gr (hC.bl ab))) ?_;refine go ?_;obtain ⟨ai,aj,hm⟩:=bZ hm;refine qI aj ((h1.ks aa).addr aj) ?_;obtain ⟨_,a3,a4⟩:=(h1.ks aa).atN aj;obtain ⟨_,_,rfl,a5,a6⟩:=W8 a3;obtain ⟨_,_,rfl,a7,a8⟩:=W8 a5;obtain ⟨rfl,_⟩:=a7;obtain ⟨⟨a9,ba,rfl,bb⟩,_⟩:=a8;obtain ⟨⟨bc,bd,rfl,be⟩,_⟩:=a6;refine qv (v:=(.agg #[.bool ai.1.1,.slice a9 ai.1.2.length ba,.slice bc ai.2.length bd])) rfl (fun _ hC=>Y1 isAgg47 sizeOf47 rfl rfl (a4.gr (hC.bl ab))) ?_;obtain ⟨bf,bg,hm⟩:=bZ hm;refine qc (v:=(.bool bf)) rfl (fun _ hC=>⟨_,_,Ur call41 rfl rfl,(Zkk bg (ax.gr (hC.bl ab)) (a2.gr (hC.bl ab)) (bb.gr (hC.bl ab)) (be.gr (hC.bl ab)):).mono fun _ _ h=>⟨h.1,hC.trans (.of_below h.2)⟩⟩) ?_;refine go ?_;refine X9 ?_;intro bh hC;replace hC:=hC.bl ab;refine go ?_;replace aa:=aa.grow hC;refine Zm hm (fun hb hm=>go ?_) fun hb hm=>go ?_
   ·cases hm;exact ⟨rfl,rfl,aa.below⟩
   exact ⟨ac,by omega,rfl,⟨_,_,_,rfl,hm,aa,rfl⟩⟩
  cases hm;exact ⟨rfl,rfl,aa.below⟩
def Zg1 (N:Nat) (ab:R0) (ac:R0) (ad:Bool) (aa:Int) (kk_L1:(Bool→Int→Option Bool)) (ae:Bool):Option Bool:=
  if ae=true then ((Zl ab.2.2.2.2 aa).bind fun af=>(Zl ac.2.2.2.2 aa).bind fun ag=>(Zix N af ag).bind fun ah=>kk_L1 ah (i64.wrap (aa+1))) else (some ad)
def Zav (N:Nat) (aa:R0) (ab:R0):Nat→Bool→Int→Option Bool
  | 0,_,_=>none
  | ae+1,ac,ad=>if ac=true then (Zg1 N aa ab ac ad (Zav N aa ab ae) (decide (ad<(aa.2.2.2.2.length:Int)))) else (Zg1 N aa ab ac ad (Zav N aa ab ae) false)
termination_by structural x=>x
def Zg0 (N:Nat) (aa:R0) (ab:R0):Option Bool:=
  (Zg5 N (aa.1,aa.2.1,aa.2.2.1,aa.2.2.2.1,aa.2.2.2.2) (ab.1,ab.2.1,ab.2.2.1,ab.2.2.2.1,ab.2.2.2.2)).bind fun ac=>Zav N aa ab N ac 0
theorem Zyn {N al am an ao ap aq ar au:Nat} {av aw ax ay az a0 a1 a2:Option Addr} {col:Ze} {w0:World} {ab ac:R0} {r:Bool} (hm:Zg0 N ab ac=some r) (a7:Sl Za.str col w0 av al ab.2.1) (a8:Sl (Za.slice Za.str) col w0 aw am ab.2.2.1) (a9:Sl (Za.slice (Za.int .i64)) col w0 ax an ab.2.2.2.1) (ah:Sl (Za.slice (Za.pair (Za.pair Za.bool (Za.slice (Za.int .u32))) (Za.slice (Za.int .u32)))) col w0 ay ao ab.2.2.2.2) (ba:Sl Za.str col w0 az ap ac.2.1) (bb:Sl (Za.slice Za.str) col w0 a0 aq ac.2.2.1) (bc:Sl (Za.slice (Za.int .i64)) col w0 a1 ar ac.2.2.2.1) (ai:Sl (Za.slice (Za.pair (Za.pair Za.bool (Za.slice (Za.int .u32))) (Za.slice (Za.int .u32)))) col w0 a2 au ac.2.2.2.2):
    Calls prog 42 #[(.agg #[.string ab.1,.slice av ab.2.1.length al,.slice aw ab.2.2.1.length am,.slice ax ab.2.2.2.1.length an,.slice ay ab.2.2.2.2.length ao]),(.agg #[.string ac.1,.slice az ac.2.1.length ap,.slice a0 ac.2.2.1.length aq,.slice a1 ac.2.2.2.1.length ar,.slice a2 ac.2.2.2.2.length au])] w0 (fun e w'=>e= .returned ((.bool r))∧Below w0.heap.size w0 w'):=by
 refine Z1 4 (m:=32) func42 rfl rfl rfl rfl rfl ?_;rw [Zg0.eq_1] at hm;have aa:=St.start col w0;refine go ?_;refine Xe (col:=(Zg col)) 1 rfl ?_;intro bh b0 bm bn ad;refine Xe (col:=bm) 2 rfl ?_;intro bi bo bj bk ae;refine go ?_;replace ad:=ad.gr bk;refine lV _ (Xd isAgg27 sizeOf27 ad)<|lV _ (Xd isAgg27 sizeOf27 ae) ?_;obtain ⟨b1,bp,hm⟩:=bZ hm;replace a7:=a7.keep (Zh.start col w0);replace a8:=a8.keep (Zh.start col w0);replace a9:=a9.keep (Zh.start col w0);replace ah:=ah.keep (Zh.start col w0);replace ba:=ba.keep (Zh.start col w0);replace bb:=bb.keep (Zh.start col w0);replace bc:=bc.keep (Zh.start col w0);replace ai:=ai.keep (Zh.start col w0);replace aa:=(aa.grow bn).grow bk;refine Zi (Zyr bp (a7.ks aa) (a8.ks aa) (a9.ks aa) (ah.ks aa) (ba.ks aa) (bb.ks aa) (bc.ks aa) (ai.ks aa)) ?_;rintro _ bq ⟨rfl,aj⟩;refine ⟨_,rfl,?_⟩;replace aj:Zf bj bo bj bq:=.of_below aj;refine go ?_;replace ad:=ad.gr aj;replace ae:=ae.gr aj;replace aa:=aa.grow aj;refine Zu [2,3,1000000] (fun n f a3=>∃ a4 a5 ak ag,ag=n∧Zav N ab ac ag a5 ak=some r∧St w0 (Zg col) a4 a3∧Zk 27 1 a4 a3 bh #[.string ab.1,.slice av ab.2.1.length al,.slice aw ab.2.2.1.length am,.slice ax ab.2.2.2.1.length an,.slice ay ab.2.2.2.2.length ao]∧Zk 27 2 a4 a3 bi #[.string ac.1,.slice az ac.2.1.length ap,.slice a0 ac.2.2.1.length aq,.slice a1 ac.2.2.2.1.length ar,.slice a2 ac.2.2.2.2.length au]∧[5,6].map f=[.bool a5,.int .i64 ak]) N ⟨_,_,0,_,rfl,hm,aa,ad,ae,rfl⟩ ?_;clear hm;intro n f a3 hI;obtain ⟨a4,a5,ak,ag,hn,hm,aa,ad,ae,hs⟩:=hI;subst hn;refine .lL [5,6] hs ?_
 cases ag with
 | zero=>rw [Zav.eq_1] at hm;cases hm
 | succ ag=>
  rw [Zav.eq_2] at hm;refine Zt<|Zt ?_;refine Wp.cutK [2,3,5,6,1000000] (fun f a6=>∃ af bd,Zg1 N ab ac a5 ak (Zav N ab ac ag) bd=some r∧St w0 (Zg col) af a6∧Zk 27 1 af a6 bh #[.string ab.1,.slice av ab.2.1.length al,.slice aw ab.2.2.1.length am,.slice ax ab.2.2.2.1.length an,.slice ay ab.2.2.2.2.length ao]∧Zk 27 2 af a6 bi #[.string ac.1,.slice az ac.2.1.length ap,.slice a0 ac.2.2.1.length aq,.slice a1 ac.2.2.2.1.length ar,.slice a2 ac.2.2.2.2.length au]∧[17].map f=[.bool bd]) ?_ ?_
  ·intro f a6 hJ;obtain ⟨af,bd,hm,aa,ad,ae,hs⟩:=hJ;rw [Zg1.eq_1] at hm;refine .lL [17] hs ?_;refine Zm hm (fun hb hm=>go ?_) fun hb hm=>go ?_
   ·refine Ys (col:=af) (by kernel_rfl) (by kernel_rfl)<|qF ⟨_,_,rfl⟩ ?_;refine qW (fun _ hC=>((ad.atN).nth (q:=4) rfl).gr (hC.bl af)) ?_;refine go ?_;obtain ⟨b2,be,hm⟩:=bZ hm;refine qI be ((ah.ks aa).addr be) ?_;obtain ⟨_,br,bs⟩:=(ah.ks aa).atN be;obtain ⟨⟨b3,b4,rfl,bt⟩,_⟩:=br;refine qW (fun _ hC=>bs.one.gr (hC.bl af)) ?_;refine qF ⟨_,_,rfl⟩ ?_;refine qW (fun _ hC=>((ae.atN).nth (q:=4) rfl).gr (hC.bl af)) ?_;refine go ?_;obtain ⟨b5,bf,hm⟩:=bZ hm;refine qI bf ((ai.ks aa).addr bf) ?_;obtain ⟨_,bu,bv⟩:=(ai.ks aa).atN bf;obtain ⟨⟨b6,b7,rfl,bw⟩,_⟩:=bu;refine qW (fun _ hC=>bv.one.gr (hC.bl af)) ?_;obtain ⟨bx,bz,hm⟩:=bZ hm;refine qc (v:=(.bool bx)) rfl (fun _ hC=>⟨_,_,Ur call118 rfl rfl,(Zyd bz (bt.gr (hC.bl af)) (bw.gr (hC.bl af)):).mono fun _ _ h=>⟨h.1,hC.trans (.of_below h.2)⟩⟩) ?_;refine go ?_;refine X9 ?_;intro b8 hC;replace hC:=hC.bl af;refine go ?_;replace ad:=ad.gr hC;replace ae:=ae.gr hC;replace aa:=aa.grow hC;exact ⟨ag,by omega,rfl,⟨_,_,_,_,rfl,hm,aa,ad,ae,rfl⟩⟩
   cases hm;exact ⟨rfl,rfl,aa.below⟩
  refine go ?_;refine Xu hm (fun bg hm=>go ?_) fun bg hm=>go ?_
  ·refine Xv ⟨_,_,rfl⟩ ?_;refine go ?_;refine lW ((ad.atN).nth (q:=4) rfl)<|go ?_;refine lV (.bool (decide (ak<(ab.2.2.2.2.length:Int)))) (Xg (congrArg Value.bool bg) rfl)<|Zo ?_;exact ⟨rfl,_,_,hm,aa,ad,ae,rfl⟩
  refine lV (.bool false) (Xt (congrArg Value.bool bg) rfl)<|Zo ?_;exact ⟨rfl,_,_,hm,aa,ad,ae,rfl⟩
section
variable {N:Nat} {n:Z4} (hb:Zcq n) (hN:1099511627777<N)
include hb hN
omit hN in
theorem Zwl {i:Nat} (hi:i<n.2.2.2.2.length) (m1:ByteArray) (m2:List ByteArray) (m3:List R5) (m4:List R1) (m5:List (List QV)) (h5:m5.length≤1048576) (kk:ByteArray→List ByteArray→List R5→List R1→List (List QV)→Int→Option Z4):∀ (f k:Nat),k≤n.2.2.2.2[i].length→n.2.2.2.2[i].length<f+k→Zd9 N n m1 m2 m3 m4 m5 (i:Int) kk f (k:Int) (n.2.2.2.2[i].take k)=kk m1 m2 m3 m4 (m5++[n.2.2.2.2[i]]) ((i+1:Nat):Int)
 | 0,k,h1,h2=>by omega
 | f+1,k,h1,h2=>by
  have htn:=hb.tn
  have htl:=hb.tl _ (List.getElem_mem hi)
  rw [Zd9.eq_2,Zv hi,oB]
  by_cases hk:k<n.2.2.2.2[i].length
  ·have hx:=hb.tm _ (List.getElem_mem hi) _ (List.getElem_mem hk)
   have ih:=Zwl hi m1 m2 m3 m4 m5 h5 kk f (k+1) (by omega) (by omega)
   have hlt:(n.2.2.2.2[i].take k).length≤1048576:=by rw [nK];omega
   rw [List.take_succ_eq_append_getElem hk] at ih
   rw [if_pos (dT (by omega)),Zv hk,oB,Z6 (by simp only [nN,maxLen];omega),Z6 (by simp only [nN,maxLen];omega),Z6 (by simp only [List.length_singleton,maxLen];omega),List.nil_append,List.nil_append,wS (by omega)]
   exact ih
  ·rw [if_neg (dF (by omega)),List.take_of_length_le (by omega),Z6 (by simp only [List.length_singleton,maxLen];omega),wS (by omega)]
theorem Zwk:∀ (f i:Nat),i≤n.2.2.2.2.length→n.2.2.2.2.length<f+i→Zay N n f n.1 n.2.1 n.2.2.1 n.2.2.2.1 (n.2.2.2.2.take i) (i:Int)=some n
 | 0,i,h1,h2=>by omega
 | f+1,i,h1,h2=>by
  have htn:=hb.tn
  rw [Zay.eq_2]
  by_cases hi:i<n.2.2.2.2.length
  ·have htl:=hb.tl _ (List.getElem_mem hi)
   have h4:=Zwl (N:=N) hb hi n.1 n.2.1 n.2.2.1 n.2.2.2.1 (n.2.2.2.2.take i) (by rw [nK];omega) (Zay N n f) N 0 (Nat.zero_le _) (by omega)
   rw [List.take_zero,← List.take_succ_eq_append_getElem hi] at h4
   rw [if_pos (dT (by omega))]
   exact h4.trans (Zwk f (i+1) (by omega) (by omega))
  ·rw [if_neg (dF (by omega)),List.take_of_length_le (by omega)]
theorem Zwj:∀ (f i:Nat),i≤n.2.2.2.1.length→n.2.2.2.1.length<f+i→Zd8 N n f n.1 n.2.1 n.2.2.1 (n.2.2.2.1.take i) [] (i:Int)=some n
 | 0,i,h1,h2=>by omega
 | f+1,i,h1,h2=>by
  have hpn:=hb.pn
  rw [Zd8.eq_2]
  by_cases hi:i<n.2.2.2.1.length
  ·have hpl:=hb.pl _ (List.getElem_mem hi)
   have ih:=Zwj f (i+1) (by omega) (by omega)
   rw [List.take_succ_eq_append_getElem hi] at ih
   rw [if_pos (dT (by omega)),Zv hi,oB,Z6 (by simp only [nN,maxLen];omega),Z6 (by simp only [nK,List.length_singleton,maxLen];omega),List.nil_append,wS (by omega)]
   exact ih
  ·have htn:=hb.tn
   rw [if_neg (dF (by omega)),List.take_of_length_le (by omega)]
   exact Zwk hb hN N 0 (Nat.zero_le _) (by omega)
theorem Zwi:∀ (f i:Nat),i≤n.2.2.1.length→n.2.2.1.length<f+i→Zd7 N n f n.1 n.2.1 (n.2.2.1.take i) [] [] (i:Int)=some n
 | 0,i,h1,h2=>by omega
 | f+1,i,h1,h2=>by
  have hvn:=hb.vn
  rw [Zd7.eq_2]
  by_cases hi:i<n.2.2.1.length
  ·have hvl:=hb.vl _ (List.getElem_mem hi)
   have ih:=Zwi f (i+1) (by omega) (by omega)
   rw [List.take_succ_eq_append_getElem hi] at ih
   rw [if_pos (dT (by omega)),Zv hi,oB,Z6 (by simp only [nN,maxLen];omega),Z6 (by simp only [nK,List.length_singleton,maxLen];omega),List.nil_append,wS (by omega)]
   exact ih
  ·have hpn:=hb.pn
   rw [if_neg (dF (by omega)),List.take_of_length_le (by omega)]
   exact Zwj hb hN N 0 (Nat.zero_le _) (by omega)
theorem Zwm:Zb6 N n=some n:=by
 have hnm:=hb.nm;have hvn:=hb.vn
 rw [Zb6,Z6 (by simp only [nN,maxLen];omega),List.nil_append]
 exact Zwi hb hN N 0 (Nat.zero_le _) (by omega)
omit hb in
theorem Zv3 {l:List ByteArray} (hl:l.length≤1048576):Zgr N l l=some true:=by
 have L:∀ (f i:Nat),i≤l.length→l.length<f+i→Zdw N l l f (i:Int)=some true:=by
  intro f
  induction f with
  | zero=>intro i h1 h2;omega
  | succ f ih=>
   intro i h1 h2
   rw [Zdw.eq_2]
   by_cases hi:i<l.length
   ·rw [if_pos (dT (by omega)),Zv hi,oB,oB,if_neg (by rw [decide_eq_true rfl];decide),wS (by omega)]
    exact ih (i+1) (by omega) (by omega)
   ·rw [if_neg (dF (by omega))]
 rw [Zgr,if_neg (by rw [decide_eq_true rfl];decide)]
 exact L N 0 (Nat.zero_le _) (by omega)
omit hb in
theorem Zvq {l:List Int} (hl:l.length≤1048576):Zgs N l l=some true:=by
 have L:∀ (f i:Nat),i≤l.length→l.length<f+i→Zdz N l l f (i:Int)=some true:=by
  intro f
  induction f with
  | zero=>intro i h1 h2;omega
  | succ f ih=>
   intro i h1 h2
   rw [Zdz.eq_2]
   by_cases hi:i<l.length
   ·rw [if_pos (dT (by omega)),Zv hi,oB,oB,if_neg (by rw [decide_eq_true rfl];decide),wS (by omega)]
    exact ih (i+1) (by omega) (by omega)
   ·rw [if_neg (dF (by omega))]
 rw [Zgs,if_neg (by rw [decide_eq_true rfl];decide)]
 exact L N 0 (Nat.zero_le _) (by omega)
omit hb in
theorem Z0z {P:List R1} (hP:P.length≤1048576) (hl:∀ l ∈ P,l.length≤1048576):Zi7 N P P=some true:=by
 have L:∀ (f i:Nat),i≤P.length→P.length<f+i→Zea N P P f (i:Int)=some true:=by
  intro f
  induction f with
  | zero=>intro i h1 h2;omega
  | succ f ih=>
   intro i h1 h2
   rw [Zea.eq_2]
   by_cases hi:i<P.length
   ·rw [if_pos (dT (by omega)),Zv hi,oB,oB,Zvq hN (hl _ (List.getElem_mem hi)),oB,if_neg (by decide),wS (by omega)]
    exact ih (i+1) (by omega) (by omega)
   ·rw [if_neg (dF (by omega))]
 rw [Zi7,if_neg (by rw [decide_eq_true rfl];decide)]
 exact L N 0 (Nat.zero_le _) (by omega)
variable (hlim:∀ t ∈ n.2.2.2.2,∀ x ∈ t,W3 x) (hr:Z5 N 8388608)
include hlim hr
omit hN in
theorem Zvt {i:Nat} (hi:i<n.2.2.2.2.length) (kk:Bool→Int→Option Bool):∀ (f k:Nat),k≤n.2.2.2.2[i].length→n.2.2.2.2[i].length<f+k→Zax N n n (i:Int) kk f true (k:Int)=kk true ((i+1:Nat):Int)
 | 0,k,h1,h2=>by omega
 | f+1,k,h1,h2=>by
  have htn:=hb.tn
  have htl:=hb.tl _ (List.getElem_mem hi)
  rw [Zax.eq_2,if_pos rfl,Zv hi,oB]
  by_cases hk:k<n.2.2.2.2[i].length
  ·have hx:=hb.tm _ (List.getElem_mem hi) _ (List.getElem_mem hk)
   have hq:=hlim _ (List.getElem_mem hi) _ (List.getElem_mem hk)
   have ih:=Zvt hi kk f (k+1) (by omega) (by omega)
   have cm:=Zok (N:=N) (Zeo hq.1 hq.2) (Zeo hq.1 hq.2) (hr.mono (by omega))
   have z:T8 (Xl n.2.2.2.2[i][k]) (Xl n.2.2.2.2[i][k])=0:=by rw [T8,if_neg Rat.lt_irrefl,if_neg Rat.lt_irrefl]
   rw [z] at cm
   have cm':Zb0 N ((n.2.2.2.2[i][k].1.1,n.2.2.2.2[i][k].1.2),n.2.2.2.2[i][k].2) ((n.2.2.2.2[i][k].1.1,n.2.2.2.2[i][k].1.2),n.2.2.2.2[i][k].2)=some 0:=cm
   rw [decide_eq_true (by omega),Zg7,if_pos rfl,Zv hi,oB,Zv hk,oB,oB,Zv hk,oB,cm',oB,wS (by omega)]
   exact ih
  ·rw [decide_eq_false (by omega),Zg7,if_neg (by decide),Zle,wS (by omega)]
theorem Zvs:∀ (f i:Nat),i≤n.2.2.2.2.length→n.2.2.2.2.length<f+i→Up N n n f true (i:Int)=some true
 | 0,i,h1,h2=>by omega
 | f+1,i,h1,h2=>by
  have htn:=hb.tn
  rw [Up.eq_2]
  by_cases hi:i<n.2.2.2.2.length
  ·have htl:=hb.tl _ (List.getElem_mem hi)
   rw [if_pos (dT (by omega)),if_pos rfl,Zv hi,oB,oB,decide_eq_true rfl,Zi6]
   exact (Zvt hb hlim hr hi (Up N n n f) N 0 (Nat.zero_le _) (by omega)).trans (Zvs f (i+1) (by omega) (by omega))
  ·rw [if_neg (dF (by omega))]
theorem Zvr:∀ (f i:Nat),i≤n.2.2.1.length→n.2.2.1.length<f+i→Zaw N n n f true (i:Int)=some true
 | 0,i,h1,h2=>by omega
 | f+1,i,h1,h2=>by
  have hvn:=hb.vn
  rw [Zaw.eq_2]
  by_cases hi:i<n.2.2.1.length
  ·have hvl:=hb.vl _ (List.getElem_mem hi)
   rw [if_pos (dT (by omega)),if_pos rfl,Zv hi,oB,oB,Zv3 hN hvl,oB,Zi5,wS (by omega)]
   exact Zvr f (i+1) (by omega) (by omega)
  ·have htn:=hb.tn
   rw [if_neg (dF (by omega))]
   exact Zvs hb hN hlim hr N 0 (Nat.zero_le _) (by omega)
theorem Z22:Zg5 N n n=some true:=by
 have hvn:=hb.vn
 have h1:=Zv3 (N:=N) hN hb.nm
 have h2:=Z0z (N:=N) hN hb.pn hb.pl
 have h3:=Zvr hb hN hlim hr N 0 (Nat.zero_le _) (by omega)
 rw [Zg5,if_neg (by rw [decide_eq_true rfl];decide),if_neg (by rw [decide_eq_true rfl];decide),decide_eq_true rfl,Zg6,if_neg (by decide),h1,oB,if_pos rfl,h2,oB,Zi4]
 exact h3
omit hb hlim hr in
theorem Z26 {t:List QV} (ht:t.length≤1048576) (hx:∀ x ∈ t,x.1.2.length≤1048576∧x.2.length≤1048576):Zix N t t=some true:=by
 have L:∀ (f i:Nat),i≤t.length→t.length<f+i→Zdt N t t f (i:Int)=some true:=by
  intro f
  induction f with
  | zero=>intro i h1 h2;omega
  | succ f ih=>
   intro i h1 h2
   rw [Zdt.eq_2]
   by_cases hi:i<t.length
   ·have h3:=hx _ (List.getElem_mem hi)
    rw [if_pos (dT (by omega)),Zv hi,oB,oB,Zos ⟨by omega,by omega⟩ hN,oB,if_neg (by decide),wS (by omega)]
    exact ih (i+1) (by omega) (by omega)
   ·rw [if_neg (dF (by omega))]
 rw [Zix,if_neg (by rw [decide_eq_true rfl];decide)]
 exact L N 0 (Nat.zero_le _) (by omega)
theorem Zz1:Zg0 N n n=some true:=by
 have htn:=hb.tn
 have L:∀ (f i:Nat),i≤n.2.2.2.2.length→n.2.2.2.2.length<f+i→Zav N n n f true (i:Int)=some true:=by
  intro f
  induction f with
  | zero=>intro i h1 h2;omega
  | succ f ih=>
   intro i h1 h2
   rw [Zav.eq_2,if_pos rfl]
   by_cases hi:i<n.2.2.2.2.length
   ·rw [decide_eq_true (by omega),Zg1,if_pos rfl,Zv hi,oB,oB,Z26 hN (hb.tl _ (List.getElem_mem hi)) (hb.tm _ (List.getElem_mem hi)),oB,wS (by omega)]
    exact ih (i+1) (by omega) (by omega)
   ·rw [decide_eq_false (by omega),Zg1,if_neg (by decide)]
 have s:=Z22 hb hN hlim hr
 have s':Zg5 N (n.1,n.2.1,n.2.2.1,n.2.2.2.1,n.2.2.2.2) (n.1,n.2.1,n.2.2.1,n.2.2.2.1,n.2.2.2.2)=some true:=s
 rw [Zg0,s',oB]
 exact L N 0 (Nat.zero_le _) (by omega)
end
def Zh8 (aa:R4):Option R4:=
  Z0 ((0:Int)≤(if 12<(aa.length:Int) then 12 else (aa.length:Int))∧(if 12<(aa.length:Int) then 12 else (aa.length:Int))≤(aa.length:Int)) (some (aa.take (Int.toNat (if 12<(aa.length:Int) then 12 else (aa.length:Int)))))
theorem Zxl {ab:Nat} {a0:Option Addr} {col:Ze} {w0:World} {aa r:R4} (hm:Zh8 aa=some r) (h0:Sl (Za.slice (Za.int .i64)) col w0 a0 ab aa):
    Calls prog 36 #[.slice a0 aa.length ab] w0 (fun e w'=>∃ (col':Ze) (ra1:Option Addr) (rc2:Nat),e= .returned ((.slice ra1 r.length rc2))∧Zf col w0 col' w'∧Sl (Za.slice (Za.int .i64)) col' w' ra1 rc2 r):=by
 refine Z1 2 (m:=8) func36 rfl rfl rfl rfl rfl ?_;rw [Zh8.eq_1] at hm;have ac:=St.start col w0;refine go ?_;refine lV (.int .i64 (if 12<(aa.length:Int) then 12 else (aa.length:Int))) (Zl9 (aa.length:Int) 12 rfl rfl) ?_;obtain ⟨ad,hm⟩:=Z3 hm;replace h0:=h0.keep (Zh.start col w0);refine lv (v:=.slice a0 (Int.toNat (if 12<(aa.length:Int) then 12 else (aa.length:Int))) ab) rfl rfl (Q0 underlying66 sizeOf40 rfl rfl ad.1 (by have:=(h0.ks ac).1.2;have:=ad.2;omega))<|.ld (d:=7) (v:=(.slice a0 ((aa.take (Int.toNat (if 12<(aa.length:Int) then 12 else (aa.length:Int)))).length) ab)) (congrArg (fun n=>Value.slice a0 n ab) (List.length_take_of_le (show (Int.toNat (if 12<(aa.length:Int) then 12 else (aa.length:Int)))≤aa.length by have:=ad.2;omega)).symm) ?_;refine go ?_;cases hm;exact ⟨rfl,_,_,_,rfl,ac.fin (cm []),ac.fs ((h0.ks ac).take (Int.toNat (if 12<(aa.length:Int) then 12 else (aa.length:Int))))⟩
def Zc5 (N:Nat) (ae:R4) (ac:List (Nat×List Int)) (ad:Int) (kk_L1:(R9→Int→Option R9)):Nat→R1→Int→Option R9
  | 0,_,_=>none
  | ag+1,aa,af=>if (decide (af<3))=true then (Z0 ((aa.length+[(-77)].length) * 8≤140737488355328∧aa.length+[(-77)].length≤maxLen) ((Zc5 N ae ac ad kk_L1 ag) (aa++[(-77)]) (i64.wrap (af+1)))) else ((Zl ae ad).bind fun ab=>Z0 ((0:Int)≤(ab.length:Int)∧(ab.length:Int)≤(aa.length:Int)) (Z0 ((ac.length+[((Int.toNat (ab.length:Int)),aa)].length) * 24≤140737488355328∧ac.length+[((Int.toNat (ab.length:Int)),aa)].length≤maxLen) (kk_L1 (ac++[((Int.toNat (ab.length:Int)),aa)]) (i64.wrap (ad+1)))))
termination_by structural x=>x
def Zad (N:Nat) (aa:R4):Nat→R9→Int→Option R9
  | 0,_,_=>none
  | ae+1,ad,ab=>if (decide (ab<(aa.length:Int)))=true then ((Zl aa ab).bind fun ac=>Z0 ((([]:List Int).length+ac.length) * 8≤140737488355328∧([]:List Int).length+ac.length≤maxLen) (Zc5 N aa ad ab (Zad N aa ae) N (([]:List Int)++ac) 0)) else (some ad)
termination_by structural x=>x
def Zk2 (N:Nat) (aa:R4):Option R9:=
  Zad N aa N ([]:List (Nat×List Int)) 0
theorem Zxm {N az:Nat} {a0:Option Addr} {col:Ze} {w0:World} {ah:R4} {r:R9} (c1:Nat) (hm:Zk2 N ah=some r) (h0:Sl (Za.slice (Za.int .i64)) col w0 a0 az ah):
    Calls prog 38 #[.slice a0 ah.length az] w0 (fun e w'=>∃ (col':Ze) (ra1:Option Addr) (rc2:Nat),e= .returned ((.slice ra1 r.length rc2))∧Zf col w0 col' w'∧Zc (Za.vrow 3 (Za.int .i64)) 40 c1 col' w' ra1 rc2 r):=by
 refine Z1 2 (m:=37) func38 rfl rfl rfl rfl rfl ?_;rw [Zk2.eq_1] at hm;have aa:=St.start col w0;refine go ?_;refine Zu [0,1000000] (fun n f aq=>∃ ar am an ai ao af,af=n∧Zad N ah af ai ao=some r∧St w0 (Zg col) ar aq∧Zc (Za.vrow 3 (Za.int .i64)) 40 1 ar aq am an ai∧[3,4].map f=[.slice am ai.length an,.int .i64 ao]) N ⟨_,none,0,_,0,_,rfl,hm,aa,Zc.nil,rfl⟩ ?_;clear hm;intro n f aq hI;obtain ⟨ar,am,an,ai,ao,af,hn,hm,aa,ab,hs⟩:=hI;subst hn;refine .lL [3,4] hs ?_;replace h0:=h0.keep (Zh.start col w0)
 cases af with
 | zero=>rw [Zad.eq_1] at hm;cases hm
 | succ af=>
  rw [Zad.eq_2] at hm;refine go ?_;refine Zm hm (fun hb hm=>go ?_) fun hb hm=>go ?_
  ·obtain ⟨bi,au,hm⟩:=bZ hm;refine lI au ((h0.ks aa).addr au) ?_;obtain ⟨_,a4,a5⟩:=(h0.ks aa).atN au;obtain ⟨⟨bj,bk,rfl,a6⟩,_⟩:=a4;refine lW a5.one ?_;obtain ⟨a7,hm⟩:=Z3 hm;refine Wk (c:=2) Zc.nil a6.srcC a7 ?_;intro bm bn bo bp a1 a8;refine go ?_;replace ab:=ab.kpp a1;replace aa:=aa.kpp a1;refine Zu [0,3,4,1000000] (fun n f ap=>∃ aj ad ae ac av ak,ak=n∧Zc5 N ah ai ao (Zad N ah af) ak ac av=some r∧St w0 (Zg col) aj ap∧Zc (Za.vrow 3 (Za.int .i64)) 40 1 aj ap am an ai∧Zc (Za.int .i64) 3 2 aj ap ad ae ac∧[5,6].map f=[.slice ad ac.length ae,.int .i64 av]) N ⟨_,_,_,_,0,_,rfl,hm,aa,ab,a8,rfl⟩ ?_;clear hm;intro n f ap hI;obtain ⟨aj,ad,ae,ac,av,ak,hn,hm,aa,ab,al,hs⟩:=hI;subst hn;refine .lL [5,6] hs ?_
   cases ak with
   | zero=>rw [Zc5.eq_1] at hm;cases hm
   | succ ak=>
    rw [Zc5.eq_2] at hm;refine go ?_;refine Zm hm (fun hb hm=>go ?_) fun hb hm=>go ?_
    ·refine W5 (col:=aj) [(-77)] 3 ?_;intro bq br bs aw a9;obtain ⟨ba,hm⟩:=Z3 hm;replace al:=al.gr aw;refine Wk al (a9.srcN (NB.int (k:=.i64))) ba ?_;intro bt bu bv bw a2 bb;refine go ?_;replace ab:=(ab.gr aw).kpp a2;replace aa:=(aa.grow aw).kpp a2;exact ⟨ak,by omega,rfl,⟨_,_,_,_,_,_,rfl,hm,aa,ab,bb,rfl⟩⟩
    obtain ⟨ag,ax,hm⟩:=bZ hm;refine lI ax ((h0.ks aa).addr ax) ?_;obtain ⟨_,bc,bd⟩:=(h0.ks aa).atN ax;obtain ⟨⟨bx,bz,rfl,b0⟩,_⟩:=bc;refine lW bd.one<|go ?_;obtain ⟨ay,hm⟩:=Z3 hm;refine lv (v:=.slice ad (Int.toNat (ag.length:Int)) ae) rfl rfl (Q0 underlying40 sizeOf3 rfl rfl ay.1 (by have:=al.lecap;have:=ay.2;omega))<|.ld (d:=33) (v:=(.slice ad ((ac.take (Int.toNat (ag.length:Int))).length) ae)) (congrArg (fun n=>Value.slice ad n ae) (List.length_take_of_le (show (Int.toNat (ag.length:Int))≤ac.length by have:=ay.2;omega)).symm) ?_;refine Zcy (col:=aj) (r:=(Za.vrow 3 (Za.int .i64))) (xs:=[((Int.toNat (ag.length:Int)),ac)]) [(.slice ad ((ac.take (Int.toNat (ag.length:Int))).length) ae)] 2 (Vj.cons1 (cs:=[(.slice ad ((ac.take (Int.toNat (ag.length:Int))).length) ae)]) (al.hasV (Int.toNat (ag.length:Int))) Rows.nil0) ?_;intro b1 b2 b3 a3 be;obtain ⟨bf,hm⟩:=Z3 hm;replace ab:=ab.gr a3;refine Wk (c:=1) (c2:=2) ab (be.srcC (by decide)) bf ?_;intro b4 b5 b6 b7 bg bh;refine go ?_;replace aa:=(aa.grow a3).kpp bg;exact ⟨af,by omega,rfl,⟨_,_,_,_,_,_,rfl,hm,aa,bh,rfl⟩⟩
  cases hm;exact ⟨rfl,_,_,_,rfl,aa.fin (cm [(1,c1)]),aa.fo ab⟩
def Zfo (aa:Int) (kk_L1:(Int→Option Bool)) (ab:Bool):Option Bool:=
  if ab=true then (some false) else (kk_L1 (i64.wrap (aa+1)))
def Ql (N:Nat) (ad:R9) (ab:R4):Nat→Int→Option Bool
  | 0,_=>none
  | af+1,ac=>if (decide (ac<(ab.length:Int)))=true then ((Zl ad ac).bind fun ae=>(Zl ab ac).bind fun aa=>Z0 ((0:Int)≤(i64.wrap ((aa.length:Int)+3))∧(i64.wrap ((aa.length:Int)+3))≤(ae.2.length:Int)) (Z0 ((0:Int)≤(aa.length:Int)∧(aa.length:Int)≤(ae.2.length:Int)) ((Zgs N (ae.2.take (Int.toNat (aa.length:Int))) aa).bind fun ag=>if (!ag)=true then (Zfo ac (Ql N ad ab af) true) else ((Zl (ae.2.take (Int.toNat (i64.wrap ((aa.length:Int)+3)))) (aa.length:Int)).bind fun ah=>if (!decide (ah=(-77)))=true then (Zfo ac (Ql N ad ab af) true) else ((Zl (ae.2.take (Int.toNat (i64.wrap ((aa.length:Int)+3)))) (i64.wrap ((aa.length:Int)+2))).bind fun ai=>Zfo ac (Ql N ad ab af) (!decide (ai=(-77)))))))) else (some (decide ((ad.length:Int)=(ab.length:Int))))
termination_by structural x=>x
def Zk1 (N:Nat) (aa:R9) (ab:R4):Option Bool:=
  Ql N aa ab N 0
theorem Zxk {N ax ay:Nat} {a0 a1:Option Addr} {col:Ze} {w0:World} {ai:R9} {aj:R4} {r:Bool} (hm:Zk1 N ai aj=some r) (h0:Sl (Za.view (Za.int .i64)) col w0 a0 ax ai) (h1:Sl (Za.slice (Za.int .i64)) col w0 a1 ay aj):
    Calls prog 43 #[.slice a0 ai.length ax,.slice a1 aj.length ay] w0 (fun e w'=>e= .returned ((.bool r))∧Below w0.heap.size w0 w'):=by
 refine Z1 4 (m:=67) func43 rfl rfl rfl rfl rfl ?_;rw [Zk1.eq_1] at hm;have aa:=St.start col w0;refine go ?_;refine Zu [0,1,1000000] (fun n f am=>∃ ac al af,af=n∧Ql N ai aj af al=some r∧St w0 (Zg col) ac am∧[5].map f=[.int .i64 al]) N ⟨_,0,_,rfl,hm,aa,rfl⟩ ?_;clear hm;intro n f am hI;obtain ⟨ac,al,af,hn,hm,aa,hs⟩:=hI;subst hn;refine .lL [5] hs ?_;replace h0:=h0.keep (Zh.start col w0);replace h1:=h1.keep (Zh.start col w0)
 cases af with
 | zero=>rw [Ql.eq_1] at hm;cases hm
 | succ af=>
  rw [Ql.eq_2] at hm;refine go ?_;refine Zm hm (fun hb hm=>go ?_) fun hb hm=>go ?_
  ·refine Ys (col:=ac) (by kernel_rfl) (by kernel_rfl)<|go ?_;obtain ⟨ak,an,hm⟩:=bZ hm;refine qI an ((h0.ks aa).addr an) ?_;obtain ⟨_,a3,a4⟩:=(h0.ks aa).atN an;obtain ⟨⟨ag,ah,rfl,ad⟩,_⟩:=a3;replace ad:Sl (Za.int .i64) ac am ag ah ak.2:=ad;refine qW (fun _ hC=>a4.one.gr (hC.bl ac)) ?_;refine go ?_;obtain ⟨ae,ab,hm⟩:=bZ hm;refine qI ab ((h1.ks aa).addr ab) ?_;obtain ⟨_,a5,a6⟩:=(h1.ks aa).atN ab;obtain ⟨⟨bk,bm,rfl,bn⟩,_⟩:=a5;refine qW (fun _ hC=>a6.one.gr (hC.bl ac)) ?_;refine go ?_;obtain ⟨ao,hm⟩:=Z3 hm;refine qv (v:=.slice ag (Int.toNat (i64.wrap ((ae.length:Int)+3))) ah) rfl (fun _ hC=>Q0 underlying40 sizeOf3 rfl rfl ao.1 (by have:=ad.1.2;have:=ao.2;omega)) ?_;refine .ld (d:=24) (v:=(.slice ag ((ak.2.take (Int.toNat (i64.wrap ((ae.length:Int)+3)))).length) ah)) (congrArg (fun n=>Value.slice ag n ah) (List.length_take_of_le (show (Int.toNat (i64.wrap ((ae.length:Int)+3)))≤ak.2.length by have:=ao.2;omega)).symm) ?_;refine go ?_;refine X9 ?_;intro bo hC;replace hC:=hC.bl ac;refine Zt<|Ys (col:=ac) (by kernel_rfl) (by kernel_rfl)<|go ?_;replace aa:=aa.grow hC;refine qI ab ((h1.ks aa).addr ab) ?_;obtain ⟨_,a7,a8⟩:=(h1.ks aa).atN ab;obtain ⟨⟨bp,bq,rfl,br⟩,_⟩:=a7;refine qW (fun _ hC=>a8.one.gr (hC.bl ac)) ?_;refine go ?_;obtain ⟨ap,hm⟩:=Z3 hm;replace ad:=ad.gr hC;refine qv (v:=.slice ag (Int.toNat (ae.length:Int)) ah) rfl (fun _ hC=>Q0 underlying40 sizeOf3 rfl rfl ap.1 (by have:=ad.1.2;have:=ap.2;omega)) ?_;refine .ld (d:=31) (v:=(.slice ag ((ak.2.take (Int.toNat (ae.length:Int))).length) ah)) (congrArg (fun n=>Value.slice ag n ah) (List.length_take_of_le (show (Int.toNat (ae.length:Int))≤ak.2.length by have:=ap.2;omega)).symm) ?_;refine go ?_;refine qI ab ((h1.ks aa).addr ab) ?_;obtain ⟨_,a9,ba⟩:=(h1.ks aa).atN ab;obtain ⟨⟨bs,bt,rfl,bb⟩,_⟩:=a9;refine qW (fun _ hC=>ba.one.gr (hC.bl ac)) ?_;obtain ⟨bc,bd,hm⟩:=bZ hm;refine qc (v:=(.bool bc)) rfl (fun _ hC=>⟨_,_,Ur call119 rfl rfl,(Zp2 bd ((ad.take (Int.toNat (ae.length:Int))).gr (hC.bl ac)) (bb.gr (hC.bl ac)):).mono fun _ _ h=>⟨h.1,hC.trans (.of_below h.2)⟩⟩) ?_;refine go ?_;refine X9 ?_;intro bu hC;replace hC:=hC.bl ac;refine Zt ?_;replace ad:=ad.gr hC;replace aa:=aa.grow hC
   refine Wp.cutK [0,1,5,1000000] (fun f az=>∃ a2 aq,Zfo al (Ql N ai aj af) aq=some r∧St w0 (Zg col) a2 az∧[61].map f=[.bool aq]) ?_ ?_
   ·intro f az hJ;obtain ⟨a2,aq,hm,aa,hs⟩:=hJ;rw [Zfo.eq_1] at hm;refine .lL [61] hs ?_;refine Zm hm (fun hb hm=>go ?_) fun hb hm=>go ?_
    ·cases hm;exact ⟨rfl,rfl,aa.below⟩
    exact ⟨af,by omega,rfl,⟨_,_,_,rfl,hm,aa,rfl⟩⟩
   refine go ?_;refine Xu hm (fun ar hm=>go ?_) fun ar hm=>go ?_
   ·refine lV (.bool true) (Xg (congrArg Value.bool ar) rfl)<|Y0 rfl<|lP 50 rfl rfl<|lP 50 rfl rfl<|lP 50 rfl rfl<|lP 50 rfl rfl<|lP 50 rfl rfl<|lP 50 rfl rfl<|lP 50 rfl rfl<|lP 50 rfl rfl<|lP 50 rfl rfl<|lP 50 rfl rfl<|lV (.bool true) (Xg rfl rfl)<|Zo ?_;exact ⟨rfl,_,_,hm,aa,rfl⟩
   refine lI ab ((h1.ks aa).addr ab) ?_;refine go ?_;obtain ⟨_,be,bf⟩:=(h1.ks aa).atN ab;obtain ⟨⟨bv,bw,rfl,bx⟩,_⟩:=be;refine lW bf.one<|go ?_;obtain ⟨bg,au,hm⟩:=bZ hm;refine lI au ((ad.take (Int.toNat (i64.wrap ((ae.length:Int)+3)))).addr au) ?_;refine go ?_;refine lW ((ad.take (Int.toNat (i64.wrap ((ae.length:Int)+3)))).atInt au)<|go ?_;refine lV (.bool (!decide (bg=(-77)))) (Xt (congrArg Value.bool ar) rfl)<|Y0 rfl ?_;refine Xu hm (fun av hm=>go ?_) fun av hm=>go ?_
   ·refine lV (.bool true) (Xg (congrArg Value.bool av) rfl)<|Zo ?_;exact ⟨rfl,_,_,hm,aa,rfl⟩
   refine lI ab ((h1.ks aa).addr ab) ?_;refine go ?_;obtain ⟨_,bh,bi⟩:=(h1.ks aa).atN ab;obtain ⟨⟨bz,b0,rfl,b1⟩,_⟩:=bh;refine lW bi.one<|go ?_;obtain ⟨bj,aw,hm⟩:=bZ hm;refine lI aw ((ad.take (Int.toNat (i64.wrap ((ae.length:Int)+3)))).addr aw) ?_;refine go ?_;refine lW ((ad.take (Int.toNat (i64.wrap ((ae.length:Int)+3)))).atInt aw)<|go ?_;refine lV (.bool (!decide (bj=(-77)))) (Xt (congrArg Value.bool av) rfl)<|Zo ?_;exact ⟨rfl,_,_,hm,aa,rfl⟩
  cases hm;exact ⟨rfl,rfl,aa.below⟩
theorem Zzw:Wi prog 3 1 8:=⟨Tryz.t3,_,rfl,rfl,rfl,rfl,rfl⟩
def Zc3 (aa:Int) (kk_L2:(R4→Int→Option Rc)) (ab:List R1):Option Rc:=
  kk_L2 ab (i64.wrap (aa+1))
def Zc4 (ac:Int) (aa:Int) (kk_L2:(R4→Int→Option Rc)) (ae:Int) (ab:List R1):Option Rc:=
  if (decide (ae=(-1)))=true then ((Zl ab ac).bind fun ad=>(Zl ad aa).bind fun ag=>(some (ad.set (Int.toNat aa) 0)).bind fun af=>Zc3 aa kk_L2 (ab.set (Int.toNat ac) af)) else (Zc3 aa kk_L2 ab)
def Zbj (af:R0) (ab:Int) (ac:List R1) (aa:Int) (kk_L2:(R4→Int→Option Rc)) (ad:Int) (ag:Bool):Option Rc:=
  if ag=true then ((Zl ac ab).bind fun ae=>(Zl af.2.2.1 aa).bind fun ah=>(Zl ae aa).bind fun aj=>(some (ae.set (Int.toNat aa) (i64.wrap ((i64.wrap ((ah.length:Int) - 1)) - ad)))).bind fun ai=>Zc4 ab aa kk_L2 ad (ac.set (Int.toNat ab) ai)) else (Zc4 ab aa kk_L2 ad ac)
def U4 (N:Nat) (aa:R0) (ae:List R1) (ab:Int) (kk_L1:(R4→R4→Int→Option Rc)):Nat→R4→Int→Option Rc
  | 0,_,_=>none
  | ah+1,af,ac=>(Zl af ab).bind fun ad=>if (decide (ac<(ad.length:Int)))=true then ((Zl ad ac).bind fun ag=>if (decide (ac<(aa.2.2.1.length:Int)))=true then (if (decide (0≤ag))=true then ((Zl aa.2.2.1 ac).bind fun ai=>Zbj aa ab af ac (U4 N aa ae ab kk_L1 ah) ag (decide (ag<(ai.length:Int)))) else (Zbj aa ab af ac (U4 N aa ae ab kk_L1 ah) ag false)) else (Zbj aa ab af ac (U4 N aa ae ab kk_L1 ah) ag false)) else (Z0 ((([]:List Int).length+ad.length) * 8≤140737488355328∧([]:List Int).length+ad.length≤maxLen) (Z0 ((ae.length+[([]:List Int)++ad].length) * 24≤140737488355328∧ae.length+[([]:List Int)++ad].length≤maxLen) (kk_L1 af (ae++[([]:List Int)++ad]) (i64.wrap (ab+1)))))
termination_by structural x=>x
def Zh7 (aa:List R1) (ab:Bool):Option Rc:=
  some (ab,aa)
def Tr (N:Nat) (aa:R0):Nat→R4→R4→Int→Option Rc
  | 0,_,_,_=>none
  | ah+1,ab,af,ag=>if (decide (ag<(ab.length:Int)))=true then (U4 N aa af ag (Tr N aa ah) N ab 0) else ((Zb6 N (aa.1,aa.2.1,aa.2.2.1,aa.2.2.2.1,aa.2.2.2.2)).bind fun ac=>(Tz N (ac.1,ac.2.1,ac.2.2.1,ac.2.2.2.1,ac.2.2.2.2) af).bind fun ad=>(U5 N (aa.1,aa.2.1,aa.2.2.1,aa.2.2.2.1,aa.2.2.2.2) ab).bind fun ae=>if (decide (ae.2=ad.2))=true then ((Zb1 N ((ae.1.1.1,ae.1.1.2),ae.1.2) ((ad.1.1.1,ad.1.1.2),ad.1.2)).bind fun ai=>Zh7 ab ai) else (Zh7 ab false))
termination_by structural x=>x
def Zh6 (N:Nat) (aa:R0) (ab:R4):Option Rc:=
  Tr N aa N ab ([]:List R1) 0
theorem Zxj {N a0 a2 a3 a4 ae:Nat} {a5 a6 a7 a8 a1:Option Addr} {col:Ze} {w0:World} {ab:R0} {ah:R4} {r:Rc} (qc1:Nat) (hm:Zh6 N ab ah=some r) (hd:Se [qc1]=true) (b1:Sl Za.str col w0 a5 a0 ab.2.1) (aq:Sl (Za.slice Za.str) col w0 a6 a2 ab.2.2.1) (b2:Sl (Za.slice (Za.int .i64)) col w0 a7 a3 ab.2.2.2.1) (b3:Sl (Za.slice (Za.pair (Za.pair Za.bool (Za.slice (Za.int .u32))) (Za.slice (Za.int .u32)))) col w0 a8 a4 ab.2.2.2.2) (h1:Zc (Za.row 3 (Za.int .i64)) 40 qc1 col w0 a1 ae ah):
    Calls prog 44 #[(.agg #[.string ab.1,.slice a5 ab.2.1.length a0,.slice a6 ab.2.2.1.length a2,.slice a7 ab.2.2.2.1.length a3,.slice a8 ab.2.2.2.2.length a4]),.slice a1 ah.length ae] w0 (fun e w'=>∃ (col':Ze),e= .returned ((.bool r.1))∧Zx (pS [qc1]) col w0 col' w'∧Zc (Za.row 3 (Za.int .i64)) 40 qc1 col' w' a1 ae r.2∧r.2.length=ah.length):=by
 refine Z1 4 (m:=107) func44 rfl rfl rfl rfl rfl ?_;rw [Zh6.eq_1] at hm;have aa:=St.startL (l:=[qc1]) rfl col w0;replace b1:=b1.keep (Zh.startL [qc1] col w0);replace aq:=aq.keep (Zh.startL [qc1] col w0);replace b2:=b2.keep (Zh.startL [qc1] col w0);replace b3:=b3.keep (Zh.startL [qc1] col w0);replace h1:=h1.startL (Q7 hd 0 rfl) (Q6 hd 0 rfl);refine go ?_;refine Xe (col:=(Xh [qc1] col)) 1 rfl ?_;intro bn fj fk c7 ac;refine go ?_;replace h1:=h1.gr c7;replace aa:=aa.grow c7;refine Zu [2,1000000] (fun n f bo=>∃ bp ar a9 ba aj af am,am=n∧Tr N ab am ar aj af=some r∧St w0 (Xh [qc1] col) bp bo∧Zc (Za.row 3 (Za.int .i64)) 40 440 bp bo a1 ae ar∧ar.length=ah.length∧Zk 27 1 bp bo bn #[.string ab.1,.slice a5 ab.2.1.length a0,.slice a6 ab.2.2.1.length a2,.slice a7 ab.2.2.2.1.length a3,.slice a8 ab.2.2.2.2.length a4]∧Zc (Za.row 3 (Za.int .i64)) 40 2 bp bo a9 ba aj∧ar.length=ah.length∧[1,5,6].map f=[.slice a1 ar.length ae,.slice a9 aj.length ba,.int .i64 af]) N ⟨_,_,none,0,_,0,_,rfl,hm,aa,h1,rfl,ac,Zc.nil,rfl,rfl⟩ ?_;clear hm;intro n f bo hI;obtain ⟨bp,ar,a9,ba,aj,af,am,hn,hm,aa,ak,d0,ac,ad,c8,hs⟩:=hI;subst hn;refine .lL [1,5,6] hs ?_
 cases am with
 | zero=>rw [Tr.eq_1] at hm;cases hm
 | succ am=>
  rw [Tr.eq_2] at hm;refine go ?_;refine Zm hm (fun hb hm=>go ?_) fun hb hm=>go ?_
  ·refine Zu [2,5,6,1000000] (fun n f bq=>∃ be ai au an,an=n∧U4 N ab aj af (Tr N ab am) an ai au=some r∧St w0 (Xh [qc1] col) be bq∧Zc (Za.row 3 (Za.int .i64)) 40 440 be bq a1 ae ai∧ai.length=ah.length∧Zk 27 1 be bq bn #[.string ab.1,.slice a5 ab.2.1.length a0,.slice a6 ab.2.2.1.length a2,.slice a7 ab.2.2.2.1.length a3,.slice a8 ab.2.2.2.2.length a4]∧Zc (Za.row 3 (Za.int .i64)) 40 2 be bq a9 ba aj∧ai.length=ah.length∧[1,7].map f=[.slice a1 ai.length ae,.int .i64 au]) N ⟨_,_,0,_,rfl,hm,aa,ak,d0,ac,ad,c8,rfl⟩ ?_;clear hm;intro n f bq hI;obtain ⟨be,ai,au,an,hn,hm,aa,ag,cj,ac,ad,c9,hs⟩:=hI;subst hn;refine .lL [1,7] hs ?_
   cases an with
   | zero=>rw [U4.eq_1] at hm;cases hm
   | succ an=>
    rw [U4.eq_2] at hm;refine go ?_;obtain ⟨ck,ao,hm⟩:=bZ hm;refine lI ao (ag.addr ao) ?_;obtain ⟨_,d1,d2⟩:=ag.atN ao;obtain ⟨fl,fm,rfl,fn⟩:=d1.row;refine lW d2.one<|go ?_;refine Zm hm (fun hb hm=>?_) fun hb hm=>go ?_
    ·refine Xr<|Zt ?_;refine Wp.cutK [2,5,6,7,1000000] (fun f br=>∃ bs bf,Zc3 au (U4 N ab aj af (Tr N ab am) an) bf=some r∧St w0 (Xh [qc1] col) bs br∧Zc (Za.row 3 (Za.int .i64)) 40 440 bs br a1 ae bf∧bf.length=ah.length∧Zk 27 1 bs br bn #[.string ab.1,.slice a5 ab.2.1.length a0,.slice a6 ab.2.2.1.length a2,.slice a7 ab.2.2.2.1.length a3,.slice a8 ab.2.2.2.2.length a4]∧Zc (Za.row 3 (Za.int .i64)) 40 2 bs br a9 ba aj∧bf.length=ah.length∧[1].map f=[.slice a1 bf.length ae]) ?_ ?_
     ·intro f br hJ;obtain ⟨bs,bf,hm,aa,d3,d4,ac,ad,d5,hs⟩:=hJ;rw [Zc3.eq_1] at hm;refine .lL [1] hs<|go ?_;exact ⟨an,by omega,rfl,⟨_,_,_,_,rfl,hm,aa,d3,d4,ac,ad,d5,rfl⟩⟩
     refine go ?_;refine lI ao (ag.addr ao) ?_;obtain ⟨_,d6,d7⟩:=ag.atN ao;obtain ⟨fp,fq,rfl,da⟩:=d6.row;refine lW d7.one<|Xn rfl ?_;obtain ⟨bg,cl,hm⟩:=bZ hm;refine lI cl (da.addr cl)<|lW (da.atInt cl)<|Yh rfl<|Zo<|Zt ?_;refine Wp.cutK [2,5,6,7,8,1000000] (fun f bh=>∃ bt al,Zc4 af au (U4 N ab aj af (Tr N ab am) an) bg al=some r∧St w0 (Xh [qc1] col) bt bh∧Zc (Za.row 3 (Za.int .i64)) 40 440 bt bh a1 ae al∧al.length=ah.length∧Zk 27 1 bt bh bn #[.string ab.1,.slice a5 ab.2.1.length a0,.slice a6 ab.2.2.1.length a2,.slice a7 ab.2.2.2.1.length a3,.slice a8 ab.2.2.2.2.length a4]∧Zc (Za.row 3 (Za.int .i64)) 40 2 bt bh a9 ba aj∧al.length=ah.length∧[1].map f=[.slice a1 al.length ae]) ?_ ?_
     ·intro f bh hJ;obtain ⟨bt,al,hm,aa,cn,db,ac,ad,d8,hs⟩:=hJ;rw [Zc4.eq_1] at hm;refine .lL [1] hs<|go ?_;refine Zm hm (fun hb hm=>go ?_) fun hb hm=>?_
      ·obtain ⟨co,cp,hm⟩:=bZ hm;refine lI cp (cn.addr cp) ?_;obtain ⟨_,dc,cq,av,d9⟩:=cn.open_ 3 (by decide) cp;obtain ⟨dd,de,rfl,df⟩:=d9.row;replace av:Yk (Za.row 3 (Za.int .i64)) 40 440 dc bh a1 ae al (Int.toNat af) [.slice dd co.length de]:=av;refine lW av.atN.one<|Xn rfl ?_;obtain ⟨fr,cr,hm⟩:=bZ hm;refine lI cr (df.addr cr) ?_;obtain ⟨bi,b4,hm⟩:=bZ hm;have b4:bi=co.set (Int.toNat au) 0:=(Option.some.inj b4).symm;refine Yu (x1:=0) df cr ?_;intro ea b5 eb dg;rw [← b4] at dg;replace av:=av.kp b5;replace av:Yk (Za.row 3 (Za.int .i64)) 40 440 dc ea a1 ae al (Int.toNat af) [.slice dd bi.length de]:=by rw [← (show co.length=bi.length by rw [b4,nS])];exact av
       have ec:=av.close dg.has (by decide) (by decide);have dh:(al.set (Int.toNat af) bi).length=ah.length:=by rw [nS];exact db
       replace ad:=(ad.kpp cq).kp b5;replace ad:=ad.recol 3 440 (by decide);replace ac:=(ac.kpp cq).kp b5;replace ac:=ac.recol 3 440 (by decide);replace aa:=(aa.kpp cq).kp b5 eb;replace aa:=aa.recol 3 440 (by decide) (by decide);refine .ld (d:=1) (v:=(.slice a1 ((al.set (Int.toNat af) bi).length) ae)) (congrArg (fun n=>Value.slice a1 n ae) (show al.length=(al.set (Int.toNat af) bi).length by simp only [nS])) ?_;refine Zo ?_;exact ⟨rfl,_,_,hm,aa,ec,dh,ac,ad,dh,rfl⟩
      refine Xr ?_;exact ⟨rfl,_,_,hm,aa,cn,db,ac,ad,d8,rfl⟩
     refine Zt ?_;refine Wp.cutK [1,2,5,6,7,8,1000000] (fun f bj=>∃ bk ct,Zbj ab af ai au (U4 N ab aj af (Tr N ab am) an) bg ct=some r∧St w0 (Xh [qc1] col) bk bj∧Zc (Za.row 3 (Za.int .i64)) 40 440 bk bj a1 ae ai∧Zk 27 1 bk bj bn #[.string ab.1,.slice a5 ab.2.1.length a0,.slice a6 ab.2.2.1.length a2,.slice a7 ab.2.2.2.1.length a3,.slice a8 ab.2.2.2.2.length a4]∧Zc (Za.row 3 (Za.int .i64)) 40 2 bk bj a9 ba aj∧[53].map f=[.bool ct]) ?_ ?_
     ·intro f bj hJ;obtain ⟨bk,ct,hm,aa,ag,ac,ad,hs⟩:=hJ;rw [Zbj.eq_1] at hm;refine .lL [53] hs ?_;refine Zm hm (fun hb hm=>?_) fun hb hm=>?_
      ·refine W9 (col:=bk) [(0,1),(1,1),(2,1),(3,0),(4,1),(5,1),(6,0),(7,1),(8,1),(9,0),(10,1),(11,1),(12,1),(13,1),(14,1),(15,2)] (by kernel_rfl) (by kernel_rfl)<|xu rfl rfl (fun _=>Qz rfl) ?_;refine xu rfl rfl (fun _=>W7 rfl) ?_;obtain ⟨cu,b6,hm⟩:=bZ hm;refine xu rfl rfl (fun _=>Wt underlying66 sizeOf40 rfl rfl (Xy b6).1 (Xy b6).2.1 (ag.addr b6)) ?_;obtain ⟨_,aw,cv,ax,ed⟩:=ag.open_ 4 (by decide) b6;obtain ⟨di,dj,rfl,b7⟩:=ed.row;replace ax:Yk (Za.row 3 (Za.int .i64)) 40 440 aw bj a1 ae ai (Int.toNat af) [.slice di cu.length dj]:=ax;refine xW (fun _ hC=>ax.atN.one.gr (hC.bl aw)) ?_;refine xu rfl rfl (fun _=>W7 rfl) ?_;refine xF ⟨_,_,rfl⟩ ?_;replace ac:=ac.kpp cv;refine xW (fun _ hC=>((ac.atN).nth (q:=2) rfl).gr (hC.bl aw)) ?_;refine xu rfl rfl (fun _=>W7 rfl) ?_;obtain ⟨dl,b8,hm⟩:=bZ hm;replace aa:=aa.kpp cv;refine xu rfl rfl (fun _=>Wt underlying23 sizeOf22 rfl rfl (Xy b8).1 (Xy b8).2.1 ((aq.ks aa).addr b8)) ?_;obtain ⟨_,ee,ef⟩:=(aq.ks aa).atN b8;obtain ⟨⟨ft,fu,rfl,fv⟩,_⟩:=ee;refine xW (fun _ hC=>ef.one.gr (hC.bl aw)) ?_;refine xu rfl rfl (fun _=>Zel underlying22 rfl) ?_;refine xu rfl rfl (fun _=>Zhg _ _ rfl rfl) ?_;refine xu rfl rfl (fun _=>W7 rfl) ?_;refine xu rfl rfl (fun _=>Zhg _ _ rfl rfl) ?_;obtain ⟨fw,b9,hm⟩:=bZ hm;refine xu rfl rfl (fun _=>Wt underlying40 sizeOf3 rfl rfl (Xy b9).1 (Xy b9).2.1 (b7.addr b9)) ?_;refine xe rfl rfl ?_;intro fx hC0;have hC:=hC0.bl aw;obtain ⟨bm,ca,hm⟩:=bZ hm;have ca:bm=cu.set (Int.toNat au) (i64.wrap ((i64.wrap ((dl.length:Int) - 1)) - bg)):=(Option.some.inj ca).symm;replace b7:=b7.gr hC;refine Yu (x1:=i64.wrap ((i64.wrap ((dl.length:Int) - 1)) - bg)) b7 b9 ?_;intro eg cb eh dm;rw [← ca] at dm;replace ax:=(ax.gr hC).kp cb;replace ax:Yk (Za.row 3 (Za.int .i64)) 40 440 aw eg a1 ae ai (Int.toNat af) [.slice di bm.length dj]:=by rw [← (show cu.length=bm.length by rw [ca,nS])];exact ax
       refine Zo<|xk aw ?_;have cw:=ax.close dm.has (by decide) (by decide);have dn:(ai.set (Int.toNat af) bm).length=ah.length:=by rw [nS];exact cj
       replace ad:=((ad.kpp cv).gr hC).kp cb;replace ad:=ad.recol 4 440 (by decide);replace ac:=(ac.gr hC).kp cb;replace ac:=ac.recol 4 440 (by decide);replace aa:=(aa.grow hC).kp cb eh;replace aa:=aa.recol 4 440 (by decide) (by decide);refine .ld (d:=1) (v:=(.slice a1 ((ai.set (Int.toNat af) bm).length) ae)) (congrArg (fun n=>Value.slice a1 n ae) (show ai.length=(ai.set (Int.toNat af) bm).length by simp only [nS])) ?_;refine Wu ?_;intro fy hC;replace hC:=hC.bl (X0 4 440 aw);replace cw:=cw.gr hC;replace ad:=ad.gr hC;replace ac:=ac.gr hC;replace aa:=aa.grow hC;exact ⟨rfl,_,_,hm,aa,cw,dn,ac,ad,dn,rfl⟩
      refine Xr ?_;exact ⟨rfl,_,_,hm,aa,ag,cj,ac,ad,c9,rfl⟩
     refine go ?_;refine Z9 ac ?_;refine go ?_;refine Xu hm (fun cx hm=>go ?_) fun cx hm=>go ?_
     ·refine lV (.bool (decide (0≤bg))) (Xg (congrArg Value.bool cx) rfl)<|Y0 rfl ?_;refine Xu hm (fun cy hm=>go ?_) fun cy hm=>go ?_
      ·refine Xv ⟨_,_,rfl⟩ ?_;refine go ?_;refine lW ((ac.atN).nth (q:=2) rfl)<|go ?_;obtain ⟨ei,cz,hm⟩:=bZ hm;refine lI cz ((aq.ks aa).addr cz) ?_;refine go ?_;obtain ⟨_,ej,ek⟩:=(aq.ks aa).atN cz;obtain ⟨⟨fz,f0,rfl,f1⟩,_⟩:=ej;refine lW ek.one<|go ?_;refine lV (.bool (decide (bg<(ei.length:Int)))) (Xg (congrArg Value.bool cy) rfl)<|Zo ?_;exact ⟨rfl,_,_,hm,aa,ag,ac,ad,rfl⟩
      refine lV (.bool false) (Xt (congrArg Value.bool cy) rfl)<|Zo ?_;exact ⟨rfl,_,_,hm,aa,ag,ac,ad,rfl⟩
     refine lV (.bool false) (Xt (congrArg Value.bool cx) rfl)<|Y0 rfl<|lP 44 rfl rfl<|lP 44 rfl rfl<|lP 44 rfl rfl<|lP 44 rfl rfl<|lP 44 rfl rfl<|lP 44 rfl rfl<|lP 44 rfl rfl<|lP 44 rfl rfl<|lV (.bool false) (Xt rfl rfl)<|Zo ?_;exact ⟨rfl,_,_,hm,aa,ag,ac,ad,rfl⟩
    refine Znu (col:=be) (r:=(Za.int .i64)) 5 rfl underlying40 Zzw rfl ?_;intro f2 f3 f4 cc el;refine go ?_;replace ag:=ag.gr cc;refine lI ao (ag.addr ao) ?_;obtain ⟨_,em,en⟩:=ag.atN ao;obtain ⟨f5,f6,rfl,eo⟩:=em.row;refine lW en.one ?_;obtain ⟨ep,hm⟩:=Z3 hm;refine Wk el (eo.srcN (NB.int (k:=.i64))) ep ?_;intro dp dq f7 eq cd er;refine Zcy (col:=eq) (r:=(Za.row 3 (Za.int .i64))) (xs:=[([]:List Int)++ck]) [.slice dp ((([]:List Int)++ck).length) dq] 5 (Vj.cons1 (cs:=[.slice dp ((([]:List Int)++ck).length) dq]) er.has Rows.nil0) ?_;intro f8 f9 ga ce es;obtain ⟨et,hm⟩:=Z3 hm;replace ad:=((ad.gr cc).kpp cd).gr ce;refine Wk (c:=2) (c2:=5) ad (es.srcC (by decide)) et ?_;intro gb gc gd ge c0 eu;refine go ?_;replace ac:=(((ac.gr cc).kpp cd).gr ce).kpp c0;replace aa:=(((aa.grow cc).kpp cd).grow ce).kpp c0;replace ag:=((ag.kpp cd).gr ce).kpp c0;exact ⟨am,by omega,rfl,⟨_,_,_,_,_,_,_,rfl,hm,aa,ag,cj,ac,eu,c9,rfl⟩⟩
  refine lV _ (Xd isAgg27 sizeOf27 ac) ?_;obtain ⟨gf,ew,hm⟩:=bZ hm;refine Zi (Zp5 6 7 8 9 ew (b1.ks aa) (aq.ks aa) (b2.ks aa) (b3.ks aa)) ?_;rintro _ ey ⟨cf,gg,gh,gi,gj,gk,gl,gm,gp,rfl,cg,ez,e0,e1,e2⟩;refine ⟨_,rfl,?_⟩;refine Yi rfl ?_;obtain ⟨ay,e3,hm⟩:=bZ hm;replace ad:=ad.gr cg;refine Zi (Zp6 10 11 e3 (((((ez.toSlF Zj.str).froz 7).froz 8).froz 9).froz 2) (((((e0.froz 6 (by decide)).toSlF (Zj.row Zj.str)).froz 8).froz 9).froz 2) (((((e1.froz 6 (by decide)).froz 7 (by decide)).toSlF (Zj.row (Zj.int .i64))).froz 9).froz 2) (((((e2.froz 6 (by decide)).froz 7 (by decide)).froz 8 (by decide)).toSlF (Zj.row (Zj.pair (Zj.pair Zj.bool (Zj.row (Zj.int .u32))) (Zj.row (Zj.int .u32))))).froz 2) (((((ad.froz 6 (by decide)).froz 7 (by decide)).froz 8 (by decide)).froz 9 (by decide)).toSlF (Zj.row (Zj.int .i64)))) ?_;rintro _ gs ⟨e4,dr,ds,dt,du,rfl,bb,bu,bv⟩;refine ⟨_,rfl,?_⟩;replace bu:=bu.thaw (Z2 .u32) bb ((((((Fz.refl (col:=cf)).froz 6).froz 7).froz 8).froz 9).froz 2) (by decide);replace bv:=bv.thaw (Z2 .u32) bb ((((((Fz.refl (col:=cf)).froz 6).froz 7).froz 8).froz 9).froz 2) (by decide);replace bb:=bb.thawR (col:=cf);generalize Z7 ey.heap.size cf e4=e5 at *;refine lM (.tuple #[(.agg #[.bool ay.1.1.1,.slice dr ay.1.1.2.length ds,.slice dt ay.1.2.length du]),.int .i64 ay.2])<|lV (.agg #[.bool ay.1.1.1,.slice dr ay.1.1.2.length ds,.slice dt ay.1.2.length du]) (Xq rfl rfl)<|lV (.int .i64 ay.2) (Xq rfl rfl)<|Xs (col:=e5) #[.bool false,.slice none (([]:List Int).length) 0,.slice none (([]:List Int).length) 0] 12 zeroValue47 ?_;intro gt gu ch bw e6;refine Xa e6 ?_;intro e7 bx e8 c1;refine go ?_;replace ac:=(((ac.gr cg).gr bb).gr bw).kp bx;refine lV _ (Xd isAgg27 sizeOf27 ac)<|Yi rfl ?_;obtain ⟨az,e9,hm⟩:=bZ hm;replace ak:=(((ak.gr cg).gr bb).gr bw).kp bx;replace aa:=(((aa.grow cg).grow bb).grow bw).kp bx e8
  refine Zi (Zm4 13 14 e9 ((b1.ks aa).froz 440) ((aq.ks aa).froz 440) ((b2.ks aa).froz 440) ((b3.ks aa).froz 440) (ak.toSlF (Zj.row (Zj.int .i64)))) ?_;rintro _ gv ⟨fa,dv,dw,dx,dy,rfl,ap,bz,b0⟩;refine ⟨_,rfl,?_⟩;replace bz:=bz.thaw (Z2 .u32) ap ((Fz.refl (col:=ch)).froz 440) (by decide);replace b0:=b0.thaw (Z2 .u32) ap ((Fz.refl (col:=ch)).froz 440) (by decide);replace ap:=ap.thawR (col:=ch);generalize Z7 e7.heap.size ch fa=fb at *;refine lM (.tuple #[(.agg #[.bool az.1.1.1,.slice dv az.1.1.2.length dw,.slice dx az.1.2.length dy]),.int .i64 az.2])<|lV (.agg #[.bool az.1.1.1,.slice dv az.1.1.2.length dw,.slice dx az.1.2.length dy]) (Xq rfl rfl)<|lV (.int .i64 az.2) (Xq rfl rfl)<|Xs (col:=fb) #[.bool false,.slice none (([]:List Int).length) 0,.slice none (([]:List Int).length) 0] 15 zeroValue47 ?_;intro gw gx dz bc fc;refine Xa fc ?_;intro fd bd fe ff;refine Yh rfl<|Zo<|Zt ?_;replace bu:=((((bu.gr bw).kp bx).gr ap).gr bc).kp bd;replace bv:=((((bv.gr bw).kp bx).gr ap).gr bc).kp bd;replace ak:=((ak.gr ap).gr bc).kp bd;replace c1:=((c1.gr ap).gr bc).kp bd;replace aa:=((aa.grow ap).grow bc).kp bd fe;replace bz:=(bz.gr bc).kp bd;replace b0:=(b0.gr bc).kp bd;refine Wp.cutK [1000000] (fun f c3=>∃ c4 c5,Zh7 ar c5=some r∧St w0 (Xh [qc1] col) c4 c3∧Zc (Za.row 3 (Za.int .i64)) 40 440 c4 c3 a1 ae ar∧[4].map f=[.bool c5]) ?_ ?_
  ·intro f c3 hJ;obtain ⟨c4,c5,hm,aa,ak,hs⟩:=hJ;rw [Zh7.eq_1] at hm;refine .lL [4] hs<|Wh ?_;cases hm;exact ⟨rfl,_,rfl,aa.finL rfl (cm [(440,qc1)]),aa.foL ak,c8⟩
  refine go ?_;refine Xu hm (fun c6 hm=>go ?_) fun c6 hm=>go ?_
  ·refine lV _ (Xd isAgg47 sizeOf47 ff)<|go ?_;refine lV _ (Xd isAgg47 sizeOf47 c1)<|go ?_;obtain ⟨fg,fh,hm⟩:=bZ hm;refine Zi (Zkk fh ((((bz.toSlF (Zj.int .u32)).froz 14).froz 10).froz 11) ((((b0.froz 13 (by decide)).toSlF (Zj.int .u32)).froz 10).froz 11) ((((bu.froz 13 (by decide)).froz 14 (by decide)).toSlF (Zj.int .u32)).froz 11) ((((bv.froz 13 (by decide)).froz 14 (by decide)).froz 10 (by decide)).toSlF (Zj.int .u32))) ?_;rintro _ fi ⟨rfl,ci⟩;refine ⟨_,rfl,?_⟩;replace ci:Zf dz fd dz fi:=.of_below ci;refine lV (.bool fg) (Xg (congrArg Value.bool c6) rfl)<|go ?_;replace ak:=ak.gr ci;replace aa:=aa.grow ci;exact ⟨rfl,_,_,hm,aa,ak,rfl⟩
  refine lV (.bool false) (Xt (congrArg Value.bool c6) rfl)<|go ?_;exact ⟨rfl,_,_,hm,aa,ak,rfl⟩
def Zac (N:Nat) (aa:R0) (ab:R9) (ac:Bool):Option Bool:=
  if ac=true then (some false) else ((Zh6 N (aa.1,aa.2.1,aa.2.2.1,aa.2.2.2.1,aa.2.2.2.2) (ab.map Uw)).bind fun ad=>some ad.1)
def Zk0 (N:Nat) (ab:R0) (ah:R4):Option Bool:=
  (Zh8 ah).bind fun ag=>(Zb6 N (ab.1,ab.2.1,ab.2.2.1,ab.2.2.2.1,ab.2.2.2.2)).bind fun aa=>(Zk2 N ag).bind fun ac=>(Tz N (ab.1,ab.2.1,ab.2.2.1,ab.2.2.2.1,ab.2.2.2.2) ag).bind fun ad=>(U5 N (aa.1,aa.2.1,aa.2.2.1,aa.2.2.2.1,aa.2.2.2.2) (ac.map Uw)).bind fun ae=>(U5 N (aa.1,aa.2.1,aa.2.2.1,aa.2.2.2.1,aa.2.2.2.2) (ac.map Uw)).bind fun af=>if (!decide (ae.2=ad.2))=true then (Zac N aa ac true) else (if (!decide (af.2=ad.2))=true then (Zac N aa ac true) else ((Zb1 N ((ae.1.1.1,ae.1.1.2),ae.1.2) ((ad.1.1.1,ad.1.1.2),ad.1.2)).bind fun ai=>if (!ai)=true then (Zac N aa ac true) else ((Zb1 N ((af.1.1.1,af.1.1.2),af.1.2) ((ad.1.1.1,ad.1.1.2),ad.1.2)).bind fun aj=>if (!aj)=true then (Zac N aa ac true) else ((Zg0 N (aa.1,aa.2.1,aa.2.2.1,aa.2.2.2.1,aa.2.2.2.2) (ab.1,ab.2.1,ab.2.2.1,ab.2.2.2.1,ab.2.2.2.2)).bind fun ak=>if (!ak)=true then (Zac N aa ac true) else ((Zk1 N ac ag).bind fun al=>Zac N aa ac (!al))))))
theorem Zxi (N:Nat) (col:Ze) (w0:World) (b3:Option Addr) (b4:Nat) (b5:Option Addr) (b6:Nat) (b7:Option Addr) (b8:Nat) (b9:Option Addr) (ca:Nat) (ax:R0) (a1:Option Addr) (cb:Nat) (bs:R4) (bj:Sl Za.str col w0 b3 b4 ax.2.1) (bk:Sl (Za.slice Za.str) col w0 b5 b6 ax.2.2.1) (bm:Sl (Za.slice (Za.int .i64)) col w0 b7 b8 ax.2.2.2.1) (bn:Sl (Za.slice (Za.pair (Za.pair Za.bool (Za.slice (Za.int .u32))) (Za.slice (Za.int .u32)))) col w0 b9 ca ax.2.2.2.2) (h1:Sl (Za.slice (Za.int .i64)) col w0 a1 cb bs) (r:Bool) (hm:Zk0 N ax bs=some r):
    Calls prog 7 #[(.agg #[.string ax.1,.slice b3 ax.2.1.length b4,.slice b5 ax.2.2.1.length b6,.slice b7 ax.2.2.2.1.length b8,.slice b9 ax.2.2.2.2.length ca]),.slice a1 bs.length cb] w0 (fun e w'=>e= .returned ((.bool r))∧Below w0.heap.size w0 w'):=by
 refine Z1 4 (m:=72) func7 rfl rfl rfl rfl rfl ?_;rw [Zk0.eq_1] at hm;have aa:=St.start col w0;refine go ?_;refine Xe (col:=(Zg col)) 1 rfl ?_;intro d7 d8 d9 c2 ap;refine go ?_;obtain ⟨ea,c3,hm⟩:=bZ hm;replace h1:=h1.keep (Zh.start col w0);replace aa:=aa.grow c2;refine Zi (Zxl c3 (h1.ks aa)) ?_;rintro _ eb ⟨ec,ed,ee,rfl,cc,am⟩;refine ⟨_,rfl,go ?_⟩;replace ap:=ap.gr cc;refine lV _ (Xd isAgg27 sizeOf27 ap) ?_;obtain ⟨ay,c4,hm⟩:=bZ hm;replace bj:=bj.keep (Zh.start col w0);replace bk:=bk.keep (Zh.start col w0);replace bm:=bm.keep (Zh.start col w0);replace bn:=bn.keep (Zh.start col w0);replace aa:=aa.grow cc;refine Zi (Zp5 2 3 4 5 c4 (bj.ks aa) (bk.ks aa) (bm.ks aa) (bn.ks aa)) ?_;rintro _ ef ⟨c5,cd,ce,cf,cg,ch,ci,cj,ck,rfl,bt,ab,ac,ad,ae⟩;refine ⟨_,rfl,?_⟩;refine Xs (col:=c5) #[.string (⟨#[]⟩),.slice none (([]:List ByteArray).length) 0,.slice none (([]:List R5).length) 0,.slice none (([]:List R1).length) 0,(.slice none (([]:List R7).length) 0)] 6 zeroValue27 ?_;intro c6 eg eh bc c7;refine Xa c7 ?_;intro ei bd c8 af;refine go ?_;obtain ⟨aq,c9,hm⟩:=bZ hm;replace am:=((am.gr bt).gr bc).kp bd;refine Zi (Zxm 7 c9 am) ?_;rintro _ ej ⟨ek,az,a0,rfl,a9,ag⟩;refine ⟨_,rfl,go ?_⟩;replace ap:=(((ap.gr bt).gr bc).kp bd).gr a9;refine lV _ (Xd isAgg27 sizeOf27 ap)<|Yi rfl ?_;obtain ⟨a3,da,hm⟩:=bZ hm;replace aa:=(((aa.grow bt).grow bc).kp bd c8).grow a9;replace am:=am.gr a9;refine Zi (Zp6 8 9 da (bj.ks aa) (bk.ks aa) (bm.ks aa) (bn.ks aa) am) ?_;rintro _ el ⟨db,cl,cn,co,cp,rfl,a4,bg,bh⟩;refine ⟨_,rfl,?_⟩;refine lM (.tuple #[(.agg #[.bool a3.1.1.1,.slice cl a3.1.1.2.length cn,.slice co a3.1.2.length cp]),.int .i64 a3.2])<|lV (.agg #[.bool a3.1.1.1,.slice cl a3.1.1.2.length cn,.slice co a3.1.2.length cp]) (Xq rfl rfl)<|lV (.int .i64 a3.2) (Xq rfl rfl)<|Xs (col:=db) #[.bool false,.slice none (([]:List Int).length) 0,.slice none (([]:List Int).length) 0] 10 zeroValue47 ?_
 intro em en bq ar dc;refine Xa dc ?_;intro dd au de bi;refine go ?_;replace af:=(((af.gr a9).gr a4).gr ar).kp au;refine lV _ (Xd isAgg27 sizeOf27 af)<|Yi rfl ?_;have df:((.slice az aq.length a0):Value)=(.slice az (aq.map Uw).length a0):=by first | (simp only [List.length_map];done) | simp only [List.length_map,List.take_length]
 obtain ⟨ba,dg,hm⟩:=bZ hm;replace ab:=(((((ab.gr bc).kp bd).gr a9).gr a4).gr ar).kp au;replace ac:=(((((ac.gr bc).kp bd).gr a9).gr a4).gr ar).kp au;replace ad:=(((((ad.gr bc).kp bd).gr a9).gr a4).gr ar).kp au;replace ae:=(((((ae.gr bc).kp bd).gr a9).gr a4).gr ar).kp au;replace ag:=((ag.gr a4).gr ar).kp au;refine lc rfl rfl (Ur call40 rfl df) (Zm4 11 12 dg (((((ab.toSlF Zj.str).froz 3).froz 4).froz 5).froz 7) (((((ac.froz 2 (by decide)).toSlF (Zj.row Zj.str)).froz 4).froz 5).froz 7) (((((ad.froz 2 (by decide)).froz 3 (by decide)).toSlF (Zj.row (Zj.int .i64))).froz 5).froz 7) (((((ae.froz 2 (by decide)).froz 3 (by decide)).froz 4 (by decide)).toSlF (Zj.row (Zj.pair (Zj.pair Zj.bool (Zj.row (Zj.int .u32))) (Zj.row (Zj.int .u32))))).froz 7) ((((((ag.froz 2 (by decide)).froz 3 (by decide)).froz 4 (by decide)).froz 5 (by decide)).toSlF (Zj.vrow (Zj.int .i64))).weak Q4.view0):) ?_;rintro _ eo ⟨dh,cq,cr,cs,ct,rfl,al,bo,bp⟩;refine ⟨_,rfl,?_⟩;replace bo:=bo.thaw (Z2 .u32) al ((((((Fz.refl (col:=bq)).froz 2).froz 3).froz 4).froz 5).froz 7) (by decide);replace bp:=bp.thaw (Z2 .u32) al ((((((Fz.refl (col:=bq)).froz 2).froz 3).froz 4).froz 5).froz 7) (by decide);replace al:=al.thawR (col:=bq);generalize Z7 dd.heap.size bq dh=di at *;refine lM (.tuple #[(.agg #[.bool ba.1.1.1,.slice cq ba.1.1.2.length cr,.slice cs ba.1.2.length ct]),.int .i64 ba.2])<|lV (.agg #[.bool ba.1.1.1,.slice cq ba.1.1.2.length cr,.slice cs ba.1.2.length ct]) (Xq rfl rfl)<|lV (.int .i64 ba.2) (Xq rfl rfl)<|Xs (col:=di) #[.bool false,.slice none (([]:List Int).length) 0,.slice none (([]:List Int).length) 0] 13 zeroValue47 ?_;intro ep eq br an dj;refine Xa dj ?_;intro dl ao dm bu;refine go ?_;replace af:=((af.gr al).gr an).kp ao;refine lV _ (Xd isAgg27 sizeOf27 af)<|Yi rfl ?_;have dn:((.slice az aq.length a0):Value)=(.slice az (aq.map Uw).length a0):=by first | (simp only [List.length_map];done) | simp only [List.length_map,List.take_length]
 obtain ⟨a5,dp,hm⟩:=bZ hm;replace ab:=((ab.gr al).gr an).kp ao;replace ac:=((ac.gr al).gr an).kp ao;replace ad:=((ad.gr al).gr an).kp ao;replace ae:=((ae.gr al).gr an).kp ao;replace ag:=((ag.gr al).gr an).kp ao;refine lc rfl rfl (Ur call40 rfl dn) (Zm4 14 15 dp (((((ab.toSlF Zj.str).froz 3).froz 4).froz 5).froz 7) (((((ac.froz 2 (by decide)).toSlF (Zj.row Zj.str)).froz 4).froz 5).froz 7) (((((ad.froz 2 (by decide)).froz 3 (by decide)).toSlF (Zj.row (Zj.int .i64))).froz 5).froz 7) (((((ae.froz 2 (by decide)).froz 3 (by decide)).froz 4 (by decide)).toSlF (Zj.row (Zj.pair (Zj.pair Zj.bool (Zj.row (Zj.int .u32))) (Zj.row (Zj.int .u32))))).froz 7) ((((((ag.froz 2 (by decide)).froz 3 (by decide)).froz 4 (by decide)).froz 5 (by decide)).toSlF (Zj.vrow (Zj.int .i64))).weak Q4.view0):) ?_;rintro _ er ⟨dq,cu,cv,cw,cx,rfl,ah,be,bf⟩;refine ⟨_,rfl,?_⟩;replace be:=be.thaw (Z2 .u32) ah ((((((Fz.refl (col:=br)).froz 2).froz 3).froz 4).froz 5).froz 7) (by decide);replace bf:=bf.thaw (Z2 .u32) ah ((((((Fz.refl (col:=br)).froz 2).froz 3).froz 4).froz 5).froz 7) (by decide);replace ah:=ah.thawR (col:=br);generalize Z7 dl.heap.size br dq=dr at *;refine lM (.tuple #[(.agg #[.bool a5.1.1.1,.slice cu a5.1.1.2.length cv,.slice cw a5.1.2.length cx]),.int .i64 a5.2])<|lV (.agg #[.bool a5.1.1.1,.slice cu a5.1.1.2.length cv,.slice cw a5.1.2.length cx]) (Xq rfl rfl)<|lV (.int .i64 a5.2) (Xq rfl rfl)<|Xs (col:=dr) #[.bool false,.slice none (([]:List Int).length) 0,.slice none (([]:List Int).length) 0] 16 zeroValue47 ?_;intro es et bb ai ds;refine Xa ds ?_;intro dt aj du bv;refine Yh rfl<|Zo<|Zt<|Zt ?_;replace am:=((((((((am.gr a4).gr ar).kp au).gr al).gr an).kp ao).gr ah).gr ai).kp aj;replace ap:=((((((((ap.gr a4).gr ar).kp au).gr al).gr an).kp ao).gr ah).gr ai).kp aj;replace aa:=((((((((aa.grow a4).grow ar).kp au de).grow al).grow an).kp ao dm).grow ah).grow ai).kp aj du;replace bg:=(((((((bg.gr ar).kp au).gr al).gr an).kp ao).gr ah).gr ai).kp aj;replace bh:=(((((((bh.gr ar).kp au).gr al).gr an).kp ao).gr ah).gr ai).kp aj;replace bi:=(((((bi.gr al).gr an).kp ao).gr ah).gr ai).kp aj
 replace bo:=((((bo.gr an).kp ao).gr ah).gr ai).kp aj;replace bp:=((((bp.gr an).kp ao).gr ah).gr ai).kp aj;replace ab:=((ab.gr ah).gr ai).kp aj;replace ac:=((ac.gr ah).gr ai).kp aj;replace ad:=((ad.gr ah).gr ai).kp aj;replace ae:=((ae.gr ah).gr ai).kp aj;replace ag:=((ag.gr ah).gr ai).kp aj;replace af:=((af.gr ah).gr ai).kp aj;replace bu:=((bu.gr ah).gr ai).kp aj;replace be:=(be.gr ai).kp aj;replace bf:=(bf.gr ai).kp aj;refine Wp.cutK [5,6,1000000] (fun f a6=>∃ a7 bw,Zac N ay aq bw=some r∧St w0 (Zg col) a7 a6∧Zc Za.str 9 2 a7 a6 cd ce ay.2.1∧Zc (Za.row 9 Za.str) 22 3 a7 a6 cf cg ay.2.2.1∧Zc (Za.row 3 (Za.int .i64)) 40 4 a7 a6 ch ci ay.2.2.2.1∧Zc (Za.row 47 (Za.pair (Za.pair Za.bool (Za.row 79 (Za.int .u32))) (Za.row 79 (Za.int .u32)))) 56 5 a7 a6 cj ck ay.2.2.2.2∧Zk 27 6 a7 a6 c6 #[.string ay.1,.slice cd ay.2.1.length ce,.slice cf ay.2.2.1.length cg,.slice ch ay.2.2.2.1.length ci,.slice cj ay.2.2.2.2.length ck]∧Zc (Za.vrow 3 (Za.int .i64)) 40 7 a7 a6 az a0 aq∧[68].map f=[.bool bw]) ?_ ?_
 ·intro f a6 hJ;obtain ⟨a7,bw,hm,aa,ab,ac,ad,ae,af,ag,hs⟩:=hJ;rw [Zac.eq_1] at hm;refine .lL [68] hs ?_;refine Zm hm (fun hb hm=>go ?_) fun hb hm=>go ?_
  ·cases hm;exact ⟨rfl,rfl,aa.below⟩
  refine lV _ (Xd isAgg27 sizeOf27 af)<|Yi rfl ?_;have av:=ag.weakO Zet.vrow0;refine .ld (d:=70) (v:=(.slice az ((aq.map Uw).length) a0)) (congrArg (fun n=>Value.slice az n a0) (show aq.length=(aq.map Uw).length by rw [List.length_map])) ?_;replace av:Zc (Za.row 3 (Za.int .i64)) 40 7 a7 a6 az a0 (aq.map Uw):=av;replace ab:=(ab).toSlF Zj.str;replace ac:=ac.froz 2 (by decide);replace ad:=ad.froz 2 (by decide);replace ae:=ae.froz 2 (by decide);replace av:=av.froz 2 (by decide);replace aa:=aa.froz 2 (by decide) (by decide);replace ab:=ab.froz 3;replace ac:=(ac).toSlF (Zj.row Zj.str);replace ad:=ad.froz 3 (by decide);replace ae:=ae.froz 3 (by decide);replace av:=av.froz 3 (by decide);replace aa:=aa.froz 3 (by decide) (by decide);replace ab:=ab.froz 4;replace ac:=ac.froz 4;replace ad:=(ad).toSlF (Zj.row (Zj.int .i64));replace ae:=ae.froz 4 (by decide);replace av:=av.froz 4 (by decide);replace aa:=aa.froz 4 (by decide) (by decide);replace ab:=ab.froz 5;replace ac:=ac.froz 5;replace ad:=ad.froz 5;replace ae:=(ae).toSlF (Zj.row (Zj.pair (Zj.pair Zj.bool (Zj.row (Zj.int .u32))) (Zj.row (Zj.int .u32))));replace av:=av.froz 5 (by decide);replace aa:=aa.froz 5 (by decide) (by decide);obtain ⟨cy,dv,hm⟩:=bZ hm;refine Zi (Zxj 7 dv rfl ab ac ad ae av) ?_;rintro _ eu ⟨ew,rfl,dw,ey,dx⟩;refine ⟨_,rfl,?_⟩;refine .ld (d:=70) (v:=(.slice az cy.2.length a0)) (congrArg (fun n=>Value.slice az n a0) (show (aq.map Uw).length=cy.2.length from dx.symm)) ?_;refine go ?_;cases hm;replace aa:=aa.kpp dw;exact ⟨rfl,rfl,aa.below⟩
 refine go ?_;refine Xu hm (fun bx hm=>go ?_) fun bx hm=>go ?_
 ·refine lV (.bool true) (Xg (congrArg Value.bool bx) rfl)<|Y0 rfl<|lP 45 rfl rfl<|lP 45 rfl rfl<|lP 45 rfl rfl<|lP 45 rfl rfl<|lV (.bool true) (Xg rfl rfl)<|Y0 rfl<|lP 51 rfl rfl<|lP 51 rfl rfl<|lP 51 rfl rfl<|lP 51 rfl rfl<|lV (.bool true) (Xg rfl rfl)<|Y0 rfl<|lP 57 rfl rfl<|lP 57 rfl rfl<|lP 57 rfl rfl<|lP 57 rfl rfl<|lV (.bool true) (Xg rfl rfl)<|Y0 rfl<|lP 63 rfl rfl<|lP 63 rfl rfl<|lP 63 rfl rfl<|lP 63 rfl rfl<|lV (.bool true) (Xg rfl rfl)<|Zo ?_;exact ⟨rfl,_,_,hm,aa,ab,ac,ad,ae,af,ag,rfl⟩
 refine lV (.bool (!decide (a5.2=a3.2))) (Xt (congrArg Value.bool bx) rfl)<|Y0 rfl ?_;refine Xu hm (fun bz hm=>go ?_) fun bz hm=>go ?_
 ·refine lV (.bool true) (Xg (congrArg Value.bool bz) rfl)<|Y0 rfl<|lP 51 rfl rfl<|lP 51 rfl rfl<|lP 51 rfl rfl<|lP 51 rfl rfl<|lV (.bool true) (Xg rfl rfl)<|Y0 rfl<|lP 57 rfl rfl<|lP 57 rfl rfl<|lP 57 rfl rfl<|lP 57 rfl rfl<|lV (.bool true) (Xg rfl rfl)<|Y0 rfl<|lP 63 rfl rfl<|lP 63 rfl rfl<|lP 63 rfl rfl<|lP 63 rfl rfl<|lV (.bool true) (Xg rfl rfl)<|Zo ?_;exact ⟨rfl,_,_,hm,aa,ab,ac,ad,ae,af,ag,rfl⟩
 refine lV _ (Xd isAgg47 sizeOf47 bu)<|go ?_;refine lV _ (Xd isAgg47 sizeOf47 bi)<|go ?_;obtain ⟨dy,dz,hm⟩:=bZ hm;refine Zi (Zkk dz ((((bo.toSlF (Zj.int .u32)).froz 12).froz 8).froz 9) ((((bp.froz 11 (by decide)).toSlF (Zj.int .u32)).froz 8).froz 9) ((((bg.froz 11 (by decide)).froz 12 (by decide)).toSlF (Zj.int .u32)).froz 9) ((((bh.froz 11 (by decide)).froz 12 (by decide)).froz 8 (by decide)).toSlF (Zj.int .u32))) ?_;rintro _ cz ⟨rfl,ak⟩;refine ⟨_,rfl,?_⟩;replace ak:Zf bb dt bb cz:=.of_below ak;refine go ?_;refine lV (.bool (!dy)) (Xt (congrArg Value.bool bz) rfl)<|Y0 rfl ?_;replace am:=am.gr ak;replace ab:=ab.gr ak;replace ac:=ac.gr ak;replace ad:=ad.gr ak;replace ae:=ae.gr ak;replace ag:=ag.gr ak;replace bg:=bg.gr ak;replace bh:=bh.gr ak;replace be:=be.gr ak;replace bf:=bf.gr ak;replace ap:=ap.gr ak;replace af:=af.gr ak;replace bi:=bi.gr ak;replace bv:=bv.gr ak;replace aa:=aa.grow ak;refine Xu hm (fun b0 hm=>go ?_) fun b0 hm=>go ?_
 ·refine lV (.bool true) (Xg (congrArg Value.bool b0) rfl)<|Y0 rfl<|lP 57 rfl rfl<|lP 57 rfl rfl<|lP 57 rfl rfl<|lP 57 rfl rfl<|lV (.bool true) (Xg rfl rfl)<|Y0 rfl<|lP 63 rfl rfl<|lP 63 rfl rfl<|lP 63 rfl rfl<|lP 63 rfl rfl<|lV (.bool true) (Xg rfl rfl)<|Zo ?_;exact ⟨rfl,_,_,hm,aa,ab,ac,ad,ae,af,ag,rfl⟩
 refine lV _ (Xd isAgg47 sizeOf47 bv)<|go ?_;refine lV _ (Xd isAgg47 sizeOf47 bi)<|go ?_;obtain ⟨d0,d1,hm⟩:=bZ hm;refine Zi (Zkk d1 ((((be.toSlF (Zj.int .u32)).froz 15).froz 8).froz 9) ((((bf.froz 14 (by decide)).toSlF (Zj.int .u32)).froz 8).froz 9) ((((bg.froz 14 (by decide)).froz 15 (by decide)).toSlF (Zj.int .u32)).froz 9) ((((bh.froz 14 (by decide)).froz 15 (by decide)).froz 8 (by decide)).toSlF (Zj.int .u32))) ?_;rintro _ c0 ⟨rfl,aw⟩;refine ⟨_,rfl,?_⟩;replace aw:Zf bb cz bb c0:=.of_below aw;refine go ?_;refine lV (.bool (!d0)) (Xt (congrArg Value.bool b0) rfl)<|Y0 rfl ?_;replace am:=am.gr aw;replace ab:=ab.gr aw;replace ac:=ac.gr aw;replace ad:=ad.gr aw;replace ae:=ae.gr aw;replace ag:=ag.gr aw;replace ap:=ap.gr aw;replace af:=af.gr aw;replace aa:=aa.grow aw;refine Xu hm (fun b1 hm=>go ?_) fun b1 hm=>go ?_
 ·refine lV (.bool true) (Xg (congrArg Value.bool b1) rfl)<|Y0 rfl<|lP 63 rfl rfl<|lP 63 rfl rfl<|lP 63 rfl rfl<|lP 63 rfl rfl<|lV (.bool true) (Xg rfl rfl)<|Zo ?_;exact ⟨rfl,_,_,hm,aa,ab,ac,ad,ae,af,ag,rfl⟩
 refine lV _ (Xd isAgg27 sizeOf27 af)<|go ?_;refine lV _ (Xd isAgg27 sizeOf27 ap)<|go ?_;obtain ⟨d2,d3,hm⟩:=bZ hm;refine Zi (Zyn d3 ((((ab.toSlF Zj.str).froz 3).froz 4).froz 5) ((((ac.froz 2 (by decide)).toSlF (Zj.row Zj.str)).froz 4).froz 5) ((((ad.froz 2 (by decide)).froz 3 (by decide)).toSlF (Zj.row (Zj.int .i64))).froz 5) ((((ae.froz 2 (by decide)).froz 3 (by decide)).froz 4 (by decide)).toSlF (Zj.row (Zj.pair (Zj.pair Zj.bool (Zj.row (Zj.int .u32))) (Zj.row (Zj.int .u32))))) (((((bj.ks aa).froz 2).froz 3).froz 4).froz 5) (((((bk.ks aa).froz 2).froz 3).froz 4).froz 5) (((((bm.ks aa).froz 2).froz 3).froz 4).froz 5) (((((bn.ks aa).froz 2).froz 3).froz 4).froz 5)) ?_;rintro _ c1 ⟨rfl,a2⟩;refine ⟨_,rfl,?_⟩;replace a2:Zf bb c0 bb c1:=.of_below a2;refine go ?_;refine lV (.bool (!d2)) (Xt (congrArg Value.bool b1) rfl)<|Y0 rfl ?_;replace am:=am.gr a2;replace ab:=ab.gr a2;replace ac:=ac.gr a2;replace ad:=ad.gr a2;replace ae:=ae.gr a2;replace ag:=ag.gr a2;replace af:=af.gr a2;replace aa:=aa.grow a2;refine Xu hm (fun b2 hm=>go ?_) fun b2 hm=>go ?_
 ·refine lV (.bool true) (Xg (congrArg Value.bool b2) rfl)<|Zo ?_;exact ⟨rfl,_,_,hm,aa,ab,ac,ad,ae,af,ag,rfl⟩
 obtain ⟨d4,d5,hm⟩:=bZ hm;refine Zi (Zxk d5 (ag.toSlF (Zj.vrow (Zj.int .i64))) (am.froz 7)) ?_;rintro _ d6 ⟨rfl,a8⟩;refine ⟨_,rfl,?_⟩;replace a8:Zf bb c1 bb d6:=.of_below a8;refine go ?_;refine lV (.bool (!d4)) (Xt (congrArg Value.bool b2) rfl)<|Zo ?_;replace ab:=ab.gr a8;replace ac:=ac.gr a8;replace ad:=ad.gr a8;replace ae:=ae.gr a8;replace ag:=ag.gr a8;replace af:=af.gr a8;replace aa:=aa.grow a8;exact ⟨rfl,_,_,hm,aa,ab,ac,ad,ae,af,ag,rfl⟩
section
variable {N:Nat} {n:Z4} (hf:Wb N n) (hr:Z5 N 4294967296) {r:List R1} (hl:r.length≤12)
include hf hr hl
omit hr hl in
theorem Ztb (hR:∀ row ∈ r,W2 n row) (hl:r.length≤12) (hr:Z5 N 4294967296):∀ (m v O U:Nat),v+m=n.2.1.length→U≠0→(Zd (T6 n r m v O)).length≤(Zd O).length+983040 * m∧(Zd (Tf n r m v U)).length≤(Zd U).length+983040 * m∧Tf n r m v U≠0
 | 0,v,O,U,_,hU=>by rw [T6,Tf];exact ⟨by omega,by omega,hU⟩
 | m+1,v,O,U,h1,hU=>by
  have hv:v<n.2.1.length:=by omega
  have hcp:=Zhv hf.ev hv
  obtain ⟨c1,c2⟩:=Zkp hf (r:=r) hv
  have hrw:0<Y2 n v:=Zjr hf.ev (n.2.2.2.1.getD v []) 1 (hf.pars hv) (by omega)
  have hkb:cnt n v≤65536:=by
   have:=Nat.le_mul_of_pos_left (cnt n v) hrw
   omega
  have hq:=Znj hf hl hv (j:=0) (m:=Y2 n v) (by omega)
  have hcl:=Zni n v r 0 (Y2 n v)
  have o1:=Zlx hcp hkb _ O hq
  have u1:=Zmo hcp hkb _ U hq
  have e15:cnt n v * Y2 n v≤65536:=by rw [Nat.mul_comm,c1];exact c2
  rw [hcl] at o1 u1
  obtain ⟨i1,i2,i3⟩:=Ztb hR hl hr m (v+1) (Ug (cnt n v) (U1 n v r 0 (Y2 n v)) O) (Vz (cnt n v) (U1 n v r 0 (Y2 n v)) U) (by omega) (Zmp _ _ hU)
  rw [T6,Tf]
  exact ⟨by omega,by omega,i3⟩
omit hf hr hl in
theorem Zr9:∀ (l:List R1) (a:Bool) (b c:List Int),(∀ row ∈ l,Wn n row 0=true)→Qa l=false→Qm N n r l a b c=some (((false,[]),[]),72)
 | [],a,b,c,_,h=>by cases h
 | row :: l,a,b,c,h1,h2=>by
  rw [Qm.eq_2,Zrv,oB]
  rw [Qa,List.all_cons,Zrg (h1 row List.mem_cons_self)] at h2
  by_cases hm:(-1:Int) ∈ row
  ·rw [if_pos (dT hm)]
  ·rw [decide_eq_false hm,Bool.not_false,Bool.true_and] at h2
   rw [if_neg (dF hm)]
   exact Zr9 l a b c (fun q hq=>h1 q (List.mem_cons_of_mem _ hq)) h2
omit hf hr in
theorem Zvh (hb:n.2.1.length≤1048576) (hN:1048577<N) (hlen:∀ row ∈ r,row.length=n.2.1.length):∀ (f i:Nat) (a:Bool) (b c:List Int),i≤r.length→r.length<f+i→Qa (r.drop i)=false→Sx N n r f a b c (i:Int)=some (((false,[]),[]),72)
 | 0,i,a,b,c,h1,h2,_=>by omega
 | f+1,i,a,b,c,h1,h2,h3=>by
  have hi:i<r.length:=by
   rcases Nat.lt_or_ge i r.length with h | h
   ·exact h
   ·rw [List.drop_eq_nil_of_le h] at h3;cases h3
  have hil:=hlen _ (List.getElem_mem hi)
  have L2:∀ (kk:Bool→List Int→List Int→Int→Option (QV×Int)) (f v:Nat),v≤r[i].length→r[i].length<f+v→Zaz N r (i:Int) kk f a b c (v:Int)=if (r[i].drop v).all (fun x=>decide (0≤x))=true then kk a b c ((i+1:Nat):Int) else some (((false,[]),[]),72):=by
   intro kk f
   induction f with
   | zero=>intro v h1 h2;omega
   | succ f ih=>
    intro v h1 h2
    rw [Zaz.eq_2,Zv hi,oB]
    by_cases hv:v<r[i].length
    ·have ih:=ih (v+1) (by omega) (by omega)
     rw [if_pos (dT (by omega)),Zv hv,oB,List.drop_eq_getElem_cons hv,List.all_cons]
     by_cases hx:r[i][v]<0
     ·rw [if_pos (dT hx),decide_eq_false (show ¬ 0≤r[i][v] by omega)];rfl
     ·rw [if_neg (dF hx),decide_eq_true (show 0≤r[i][v] by omega),Bool.true_and,wS (by omega)]
      exact ih
    ·rw [if_neg (dF (by omega)),List.drop_eq_nil_of_le (by omega),wS (by omega)];rfl
  rw [List.drop_eq_getElem_cons hi,Qa,List.all_cons] at h3
  have h4:=L2 (Sx N n r f) N 0 (Nat.zero_le _) (by omega)
  rw [List.drop_zero] at h4
  rw [Sx.eq_2,if_pos (dT (by omega))]
  refine Eq.trans h4 ?_
  by_cases h5:(r[i].all fun x=>decide (0≤x))=true
  ·rw [if_pos h5]
   rw [h5,Bool.true_and] at h3
   exact Zvh hb hN hlen f (i+1) a b c (by omega) (by omega) h3
  ·rw [if_neg h5]
end
theorem Zvy {N W:Nat} {n:Z4} {r:List R1} (hs:Vd n W) (hW:Z5 N (8 * W+40)) (hr:Z5 N 4294967296) (hN:1099511627777<N) (hl:r.length≤12):∃ x,U5 N n r=some x∧Tz N n r=some x∧Zjz x:=by
 obtain ⟨e,m1,m2,fine⟩:=Zze hs hW (by omega)
 have m1':Sm N (n.1,n.2.1,n.2.2.1,n.2.2.2.1,n.2.2.2.2)=some e:=m1
 have m2':Zb4 N (n.1,n.2.1,n.2.2.1,n.2.2.2.1,n.2.2.2.2)=some e:=m2
 have z0:∀ k:Int,Zjz (((false,([]:List Int)),([]:List Int)),k):=fun k=>by simp [Zjz]
 by_cases h0:e=0
 ·have hf:=fine h0
  subst h0
  have hle:=hf.le;have hv:=hf.ev.v
  have hps:∀ v,(n.2.2.2.1.getD v []).length≤1048576:=fun v=>by
   rcases Nat.lt_or_ge v n.2.2.2.1.length with h | h
   ·rw [Yr h];have:=hs.pn.ls _ (List.getElem_mem h);omega
   ·rw [List.getD_eq_getElem?_getD,List.getElem?_eq_none h];simp
  have lw:Zbm N (n.1,n.2.1,n.2.2.1,n.2.2.2.1,n.2.2.2.2) r=some (if Td n r=true then 0 else 71):=by
   rw [Zbm,m1',oB,if_neg (by decide)]
   exact Znx (n:=n) hv r
  have rw':Zb8 N (n.1,n.2.1,n.2.2.1,n.2.2.2.1,n.2.2.2.2) r=some (if Td n r=true then 0 else 71):=by
   rw [Zb8,m2',oB,if_neg (by decide)]
   have:=Zor (N:=N) (r:=r) hv (by omega) (by omega) (by omega) N 0 (Nat.zero_le _) (by omega)
   rw [List.drop_zero] at this
   exact this
  by_cases hw:Td n r=true
  ·rw [if_pos hw] at lw rw'
   cases hfu:Qa r with
   | true=>
    have hR:=Z2x hw hfu
    obtain ⟨l1,l2,l3⟩:=Ztb hf hR hl hr n.2.1.length 0 1 1 (by omega) (by decide)
    have e1:(Zd 1).length=1:=by rw [V1];rfl
    refine ⟨_,Z1w hf hr hR hl m1 hw hps hfu,Z20 hf hr hR hl hps m2 hw hfu,Z1n (K:=1100000000) (Zjn (by rw [Int.natAbs_natCast];omega) (by omega) (by decide)) (by decide) 0⟩
   | false=>
    have hrng:∀ row ∈ r,row.length=n.2.1.length∧Wn n row 0=true:=fun row h=>by
     have:=List.all_eq_true.1 hw row h
     rwa [Bool.and_eq_true,decide_eq_true_eq] at this
    refine ⟨_,?_,?_,z0 72⟩
    ·rw [U5,lw,oB,if_neg (by decide)]
     exact Zr9 r _ _ _ (fun row h=>(hrng row h).2) hfu
    ·rw [Tz,rw',oB,if_neg (by decide)]
     have:=Zvh (N:=N) hl (by omega) (by omega) (fun row h=>(hrng row h).1) N 0 false [] [] (Nat.zero_le _) (by omega) (by rw [List.drop_zero];exact hfu)
     exact this
  ·rw [if_neg hw] at lw rw'
   refine ⟨_,?_,?_,z0 71⟩
   ·rw [U5,lw,oB,if_pos (by decide)]
   ·rw [Tz,rw',oB,if_pos (by decide)]
 ·have hc0:(!decide (e=0))=true:=by rw [decide_eq_false h0];rfl
  refine ⟨_,?_,?_,z0 e⟩
  ·rw [U5,Zbm,m1',oB,if_pos hc0,oB,if_pos hc0]
  ·rw [Tz,Zb8,m2',oB,if_pos hc0,oB,if_pos hc0]
/-! observations with Za2 behind them -/
abbrev Vr:List Int:=[-77,-77,-77]
theorem Zwh {N:Nat} {r:List R1} {i:Nat} (hi:i<r.length) (hil:r[i].length≤1048576) (hrl:r.length≤1048576) (kk:List (Nat×List Int)→Int→Option R9) {out:List (Nat×List Int)} (ho:out.length≤1048576):∀ (f k:Nat),k≤3→3<f+k→Zc5 N r out (i:Int) kk f (r[i]++List.replicate k (-77)) (k:Int)=kk (out++[U3 Vr r[i]]) ((i+1:Nat):Int)
 | 0,k,h1,h2=>by omega
 | f+1,k,h1,h2=>by
  rw [Zc5.eq_2]
  by_cases hk:k<3
  ·have ih:=Zwh (N:=N) hi hil hrl kk ho f (k+1) (by omega) (by omega)
   rw [List.replicate_succ',← List.append_assoc] at ih
   rw [if_pos (dT (by omega)),Z6 (by simp only [nA,List.length_replicate,List.length_singleton,maxLen];omega),wS (by omega)]
   exact ih
  ·have hk:k=3:=by omega
   subst hk
   rw [if_neg (by decide),Zv hi,oB,Z6 (by rw [nA];omega),Z6 (by simp only [List.length_singleton,maxLen];omega),Int.toNat_natCast,wS (by omega)]
   rfl
theorem Z3h {N:Nat} {r:List R1} (hr:r.length≤1048576) (hl:∀ l ∈ r,l.length≤1048576) (hN:1048577<N):Zk2 N r=some (r.map (U3 Vr)):=by
 have L:∀ (f i:Nat),i≤r.length→r.length<f+i→Zad N r f ((r.take i).map (U3 Vr)) (i:Int)=some (r.map (U3 Vr)):=by
  intro f
  induction f with
  | zero=>intro i h1 h2;omega
  | succ f ih=>
   intro i h1 h2
   rw [Zad.eq_2]
   by_cases hi:i<r.length
   ·have hil:=hl _ (List.getElem_mem hi)
    have ih:=ih (i+1) (by omega) (by omega)
    rw [List.take_succ_eq_append_getElem hi,List.map_append,List.map_singleton] at ih
    have h3:=Zwh (N:=N) hi hil hr (Zad N r f) (out:=(r.take i).map (U3 Vr)) (by rw [List.length_map,nK];omega) N 0 (by decide) (by omega)
    rw [List.replicate_zero,List.append_nil] at h3
    rw [if_pos (dT (by omega)),Zv hi,oB,Z6 (by simp only [nN,maxLen];omega),List.nil_append]
    exact h3.trans ih
   ·rw [if_neg (dF (by omega)),List.take_of_length_le (by omega)]
 exact L N 0 (Nat.zero_le _) (by omega)
theorem Z0k {N:Nat} {r:List R1} (hr:r.length≤1048576) (hl:∀ l ∈ r,l.length≤1048576) (hN:1099511627777<N):Zk1 N (r.map (U3 Vr)) r=some true:=by
 have L:∀ (f i:Nat),i≤r.length→r.length<f+i→Ql N (r.map (U3 Vr)) r f (i:Int)=some true:=by
  intro f
  induction f with
  | zero=>intro i h1 h2;omega
  | succ f ih=>
   intro i h1 h2
   rw [Ql.eq_2]
   by_cases hi:i<r.length
   ·have hil:=hl _ (List.getElem_mem hi)
    have a0:Zl (r.map (U3 Vr)) (i:Int)=some (U3 Vr r[i]):=by rw [Zv (by rw [List.length_map];exact hi),List.getElem_map]
    have e2:(U3 Vr r[i]).2=r[i]++Vr:=rfl
    have t1:(r[i]++Vr).take r[i].length=r[i]:=List.take_left
    have t3:(r[i]++Vr).take (r[i].length+3)=r[i]++Vr:=List.take_of_length_le (by rw [nA];exact Nat.le_refl _)
    have m0:Zl (r[i]++Vr) ((r[i].length:Nat):Int)=some (-77):=by
     rw [Q5,List.getElem?_append_right (Nat.le_refl _),Nat.sub_self];rfl
    have m2:Zl (r[i]++Vr) ((r[i].length+2:Nat):Int)=some (-77):=by
     rw [Q5,List.getElem?_append_right (by omega),Nat.add_sub_cancel_left];rfl
    rw [if_pos (dT (by omega)),a0,oB,Zv hi,oB,e2,Zs (x:=(r[i].length:Int)+3) (by omega),Z6 (by simp only [nA,nC,nN];omega),Z6 (by simp only [nA];omega),Int.toNat_natCast,t1,Zvq hN hil,oB,if_neg (by decide),
     show Int.toNat ((r[i].length:Int)+3)=r[i].length+3 by omega,t3,m0,oB,if_neg (by decide),Zs (x:=(r[i].length:Int)+2) (by omega),show (r[i].length:Int)+2=((r[i].length+2:Nat):Int) by omega,m2,oB,decide_eq_true rfl,Zfo,if_neg (by decide),wS (by omega)]
    exact ih (i+1) (by omega) (by omega)
   ·rw [if_neg (dF (by omega)),List.length_map,decide_eq_true rfl]
 exact L N 0 (Nat.zero_le _) (by omega)
/-! observations written over -/
def Zhl (n:Z4) (k:Nat) (x:Int):Int:=if k<n.2.2.1.length∧0≤x∧x<(cnt n k:Int) then (cnt n k:Int) - 1 - x else if x= -1 then 0 else x
def Wo (n:Z4):List Int→Nat→List Int
 | [],_=>[]
 | x :: l,k=>Zhl n k x :: Wo n l (k+1)
theorem Zcj (n:Z4):∀ (l:List Int) (k:Nat),(Wo n l k).length=l.length
 | [],_=>rfl
 | x :: l,k=>by rw [Wo,nC,nC,Zcj n l]
theorem Zwe (n:Z4):∀ (l:List Int) (k i:Nat) (h:i<l.length),(Wo n l k)[i]?=some (Zhl n (k+i) l[i])
 | x :: l,k,0,_=>rfl
 | x :: l,k,i+1,h=>by
  rw [Wo,List.getElem?_cons_succ,Zwe n l (k+1) i (by simpa using h),List.getElem_cons_succ,show k+1+i=k+(i+1) by omega]
def Vw (n:Z4) (l:List Int) (k:Nat):List Int:=(Wo n l 0).take k++l.drop k
theorem Z0g (n:Z4) (l:List Int) {k:Nat} (h:k≤l.length):(Vw n l k).length=l.length:=by
 rw [Vw,nA,nK,List.length_drop,Zcj];omega
theorem Zrj (n:Z4) (l:List Int) {k:Nat} (h:k<l.length):(Vw n l k)[k]?=some l[k]:=by
 rw [Vw,List.getElem?_append_right (by rw [nK,Zcj];omega),nK,Zcj,Nat.min_eq_left (by omega),Nat.sub_self,List.getElem?_drop,Nat.add_zero,List.getElem?_eq_getElem h]
theorem Z0h (n:Z4) (l:List Int) {k:Nat} (h:k<l.length):(Vw n l k).set k (Zhl n k l[k])=Vw n l (k+1):=by
 have h1:k<(Wo n l 0).length:=by rw [Zcj];exact h
 have h2:(Wo n l 0)[k]=Zhl n k l[k]:=by
  have:=Zwe n l 0 k h
  rw [List.getElem?_eq_getElem h1,Nat.zero_add,Option.some.injEq] at this
  exact this
 rw [Vw,Vw,List.set_append_right (i:=k) _ (by rw [nK,Zcj];omega),nK,Zcj,Nat.min_eq_left (by omega),Nat.sub_self,List.drop_eq_getElem_cons h,List.set_cons_zero,List.take_succ_eq_append_getElem h1,h2,List.append_assoc];rfl
theorem setG {l:List Int} {i:Nat} {x:Int} (h:l[i]?=some x):l.set i x=l:=by
 obtain ⟨hi,rfl⟩:=List.getElem?_eq_some_iff.1 h
 exact List.set_getElem_self hi
theorem Zpb {N:Nat} {n:Z4} (hb:Zcq n) {t0:List R1} {i:Nat} (hi:i<t0.length) (hil:t0[i].length≤1048576) (htl:t0.length≤1048576) {r:List R1} (hrl:r.length≤1048576) (kk:List R1→List R1→Int→Option (Bool×List R1)) {T:List R1} (hT:T.length=t0.length):
  ∀ (f k:Nat),k≤t0[i].length→t0[i].length<f+k→U4 N n r (i:Int) kk f (T.set i (Vw n t0[i] k)) (k:Int)=kk (T.set i (Wo n t0[i] 0)) (r++[Wo n t0[i] 0]) ((i+1:Nat):Int)
 | 0,k,h1,h2=>by omega
 | f+1,k,h1,h2=>by
  have hvn:=hb.vn
  have hit:i<T.length:=by omega
  have aT:∀ y:List Int,Zl (T.set i y) (i:Int)=some y:=fun y=>by rw [Q5,List.getElem?_set_self hit]
  have sT:∀ y z:List Int,(T.set i y).set i z=T.set i z:=fun y z=>List.set_set ..
  have hlen:=Z0g n t0[i] h1
  rw [U4.eq_2,aT,oB,hlen]
  by_cases hk:k<t0[i].length
  ·have hg:Zl (Vw n t0[i] k) (k:Int)=some t0[i][k]:=by rw [Q5,Zrj n _ hk]
   have hset:=Z0h n t0[i] hk
   have ih:=Zpb (N:=N) hb hi hil htl hrl kk hT f (k+1) (by omega) (by omega)
   generalize hx:t0[i][k]=x at *
   rw [if_pos (dT (by omega)),hg,oB]
   -- what is left: neither, or a missing one
   have J2:¬ (k<n.2.2.1.length∧0≤x∧x<(cnt n k:Int))→Zc4 (i:Int) (k:Int) (U4 N n r (i:Int) kk f) x (T.set i (Vw n t0[i] k))=kk (T.set i (Wo n t0[i] 0)) (r++[Wo n t0[i] 0]) ((i+1:Nat):Int):=fun hno=>by
    rw [Zhl,if_neg hno] at hset
    rw [Zc4]
    by_cases hm:x= -1
    ·rw [if_pos hm] at hset
     rw [if_pos (dT hm),aT,oB,hg,oB,oB,Int.toNat_natCast,Int.toNat_natCast,hset,sT,Zc3,wS (by omega)]
     exact ih
    ·have hs2:(Vw n t0[i] k).set k x=Vw n t0[i] k:=setG (by rw [← hx];exact Zrj n _ hk)
     rw [if_neg hm,hs2] at hset
     rw [if_neg (dF hm),hset,Zc3,wS (by omega)]
     exact ih
   by_cases hv:k<n.2.2.1.length
   ·have hvl:=hb.vl _ (List.getElem_mem hv)
    have hc:cnt n k=n.2.2.1[k].length:=by rw [cnt,Yr hv]
    rw [if_pos (dT (by omega))]
    by_cases h0:0≤x
    ·rw [if_pos (dT h0),Zv hv,oB,Zbj]
     by_cases h4:x<(n.2.2.1[k].length:Int)
     ·rw [Zhl,if_pos ⟨hv,h0,by rw [hc];exact h4⟩,hc] at hset
      rw [if_pos (dT h4),aT,oB,Zv hv,oB,hg,oB,oB,Int.toNat_natCast,Int.toNat_natCast,Zs (x:=(n.2.2.1[k].length:Int) - 1) (by omega),Zs (by omega),hset,sT,Zc4,if_neg (dF (by omega)),Zc3,wS (by omega)]
      exact ih
     ·rw [if_neg (dF h4)]
      exact J2 fun h=>h4 (by have:=h.2.2;rw [hc] at this;exact this)
    ·rw [if_neg (dF h0),Zbj,if_neg (by decide)]
     exact J2 fun h=>h0 h.2.1
   ·rw [if_neg (dF (by omega)),Zbj,if_neg (by decide)]
    exact J2 fun h=>hv h.1
  ·have hk:k=t0[i].length:=by omega
   have e:Vw n t0[i] k=Wo n t0[i] 0:=by rw [Vw,hk,List.drop_length,List.append_nil,List.take_of_length_le (by rw [Zcj];omega)]
   rw [if_neg (dF (by omega)),e,Z6 (by simp only [nN,maxLen];omega),Z6 (by simp only [List.length_singleton,maxLen];omega),List.nil_append,wS (by omega)]
theorem Zw0 {N W:Nat} {n:Z4} {t0:List R1} (hs:Vd n W) (hb:Zcq n) (hW:Z5 N (8 * W+40)) (hr:Z5 N 4294967296) (hN:1099511627777<N) (hl:t0.length≤12) (htl:∀ l ∈ t0,l.length≤1048576):∃ T,Zh6 N n t0=some (true,T):=by
 have L:∀ (f i:Nat),i≤t0.length→t0.length<f+i→∃ T,Tr N n f ((t0.take i).map (fun l=>Wo n l 0)++t0.drop i) ((t0.take i).map fun l=>Wo n l 0) (i:Int)=some (true,T):=by
  intro f
  induction f with
  | zero=>intro i h1 h2;omega
  | succ f ih=>
   intro i h1 h2
   have hlen:((t0.take i).map (fun l=>Wo n l 0)++t0.drop i).length=t0.length:=by rw [nA,List.length_map,nK,List.length_drop];omega
   rw [Tr.eq_2,hlen]
   by_cases hi:i<t0.length
   ·obtain ⟨T,ih⟩:=ih (i+1) (by omega) (by omega)
    have hil:=htl _ (List.getElem_mem hi)
    have L2:=Zpb (N:=N) hb hi hil (by omega) (r:=(t0.take i).map fun l=>Wo n l 0) (by rw [List.length_map,nK];omega) (Tr N n f) hlen N 0 (Nat.zero_le _) (by omega)
    have e0:Vw n t0[i] 0=t0[i]:=by rw [Vw,List.take_zero,List.nil_append,List.drop_zero]
    have hml:((t0.take i).map fun l=>Wo n l 0).length=i:=by rw [List.length_map,nK];omega
    have hdr:t0.drop i=t0[i] :: t0.drop (i+1):=List.drop_eq_getElem_cons hi
    have s0:∀ y:List Int,((t0.take i).map (fun l=>Wo n l 0)++t0.drop i).set i y=(t0.take i).map (fun l=>Wo n l 0)++y :: t0.drop (i+1):=fun y=>by
     rw [hdr,List.set_append_right (i:=i) _ (by omega),hml,Nat.sub_self,List.set_cons_zero]
    rw [e0,s0,s0,← hdr] at L2
    rw [List.take_succ_eq_append_getElem hi,List.map_append,List.map_singleton,List.append_assoc,List.singleton_append] at ih
    refine ⟨T,?_⟩
    rw [if_pos (dT (by omega))]
    exact L2.trans ih
   ·rw [if_neg (dF (by omega)),List.take_of_length_le (by omega),List.drop_eq_nil_of_le (by omega),List.append_nil]
    have tw:Zb6 N (n.1,n.2.1,n.2.2.1,n.2.2.2.1,n.2.2.2.2)=some n:=Zwm hb hN
    obtain ⟨x,x1,x2,x3⟩:=Zvy (r:=t0.map fun l=>Wo n l 0) hs hW hr hN (by rw [List.length_map];exact hl)
    have x1':U5 N (n.1,n.2.1,n.2.2.1,n.2.2.2.1,n.2.2.2.2) (t0.map fun l=>Wo n l 0)=some x:=x1
    have x2':Tz N (n.1,n.2.1,n.2.2.1,n.2.2.2.1,n.2.2.2.2) (t0.map fun l=>Wo n l 0)=some x:=x2
    have sx:=Zos (N:=N) (x:=x.1) x3 hN
    exact ⟨_,by rw [tw,oB,x2',oB,x1',oB,if_pos (dT rfl),sx,oB,Zh7]⟩
 obtain ⟨T,h⟩:=L N 0 (Nat.zero_le _) (by omega)
 exact ⟨T,h⟩
theorem Zww {N W:Nat} {n:Z4} {r:List R1} (hs:Vd n W) (hb:Zcq n) (hW:Z5 N (8 * W+40)) (hr:Z5 N 4294967296) (hN:1099511627777<N) (hrl:r.length≤1048576) (htl:∀ l ∈ r,l.length≤1048576):Zk0 N n r=some true:=by
 have hsome:∃ k,k≤12∧Zh8 r=some (r.take k):=by
  rw [Zh8]
  by_cases h:12<(r.length:Int)
  ·exact ⟨12,by decide,by rw [if_pos h,Z6 (by omega)];rfl⟩
  ·exact ⟨r.length,by omega,by rw [if_neg h,Z6 (by omega),Int.toNat_natCast]⟩
 obtain ⟨k,hk,hsome⟩:=hsome
 have hl:(r.take k).length≤12:=by rw [nK];omega
 have htk:∀ l ∈ r.take k,l.length≤1048576:=fun l h=>htl l (List.mem_of_mem_take h)
 generalize r.take k=q at *
 have tw:Zb6 N (n.1,n.2.1,n.2.2.1,n.2.2.2.1,n.2.2.2.2)=some n:=Zwm hb hN
 have t28:=Z3h (N:=N) (r:=q) (by omega) htk (by omega)
 have kp:=Z0k (N:=N) (r:=q) (by omega) htk hN
 have vq:(q.map (U3 Vr)).map Uw=q:=by
  rw [List.map_map]
  exact (List.map_congr_left fun l _=>Z3i Vr l).trans (List.map_id' q)
 obtain ⟨x,x1,x2,x3⟩:=Zvy (r:=q) hs hW hr hN hl
 have x1':U5 N (n.1,n.2.1,n.2.2.1,n.2.2.2.1,n.2.2.2.2) q=some x:=x1
 have x2':Tz N (n.1,n.2.1,n.2.2.1,n.2.2.2.1,n.2.2.2.2) q=some x:=x2
 have sx:=Zos (N:=N) (x:=x.1) x3 hN
 have ex:Zg0 N (n.1,n.2.1,n.2.2.1,n.2.2.2.1,n.2.2.2.2) (n.1,n.2.1,n.2.2.1,n.2.2.2.1,n.2.2.2.2)=some true:=Zz1 hb hN hs.lim (hr.mono (by decide))
 obtain ⟨T,an⟩:=Zw0 (t0:=q) hs hb hW hr hN hl htk
 have an':Zh6 N (n.1,n.2.1,n.2.2.1,n.2.2.2.1,n.2.2.2.2) q=some (true,T):=an
 have d1:¬ (!decide (x.2=x.2))=true:=by rw [decide_eq_true rfl];decide
 rw [Zk0,hsome,oB,tw,oB,t28,oB,x2',oB,vq,x1',oB,oB,if_neg d1,if_neg d1,sx,oB,if_neg (by decide),oB,if_neg (by decide),ex,oB,if_neg (by decide),kp,oB,show (!true)=false from rfl,Zac,if_neg (by decide),vq,an',oB]
theorem Sj {α:Type} {b:α→Nat} (hb:∀ x,1≤b x):∀ (l:List α),l.length+1≤Xi b l
 | []=>by simp [Xi]
 | x :: l=>by
  have h:=Sj hb l
  have:=hb x
  simp only [Xi,List.map_cons,List.sum_cons,nC] at h ⊢
  omega
theorem Zjh {α:Type} {b:α→Nat} {x:α}:∀ {l:List α},x ∈ l→b x+1≤Xi b l
 | y :: l,h=>by
  simp only [Xi,List.map_cons,List.sum_cons]
  rcases List.mem_cons.1 h with rfl | h
  ·omega
  ·have:=Zjh (b:=b) h
   simp only [Xi] at this
   omega
theorem Zka {α:Type} {b:α→Nat} (l:List α):1≤Xi b l:=by simp only [Xi];omega
theorem Zm1 (s:ByteArray):1≤Vu s:=by simp only [Vu];omega
theorem Zj8 {α:Type} (s:α):1≤Yz s:=by simp only [Yz];omega
theorem Zw5 {α:Type} {b:α→Nat} (s:α):1≤Ua b s:=by simp only [Ua];omega
abbrev Za7:QV→Nat:=Ua (Wr (Ua (Wr Yz (Xi Yz))) (Xi Yz))
abbrev qQ:QV→Prop:=Tc (Tc (fun _=>True) (We (S4 .u32))) (We (S4 .u32))
abbrev Zj9:Z4→Nat:=Ua (Wr Vu (Wr (Xi Vu) (Wr (Xi (Xi Vu)) (Wr (Xi (Xi Yz)) (Xi (Xi Za7))))))
abbrev Ztp:Z4→Prop:=Tc (fun _=>True) (Tc (We (fun _=>True)) (Tc (We (We (fun _=>True))) (Tc (We (We (S4 .i64))) (We (We qQ)))))
theorem Zr5 {l:List Int} (h:We (S4 .u32) l):Zn l:=by
 intro d hd
 have h1:=h d hd
 simp [S4,Lit.wf,IntKind.min,IntKind.max,IntKind.signed,IntKind.bits] at h1
 omega
theorem Z0x {x:QV} (h:qQ x):W3 x:=⟨Zr5 h.1.2,Zr5 h.2⟩
theorem Zpc (x:QV):x.1.2.length+x.2.length+4≤Za7 x:=by
 have h1:=Sj (b:=Yz) Zj8 x.1.2
 have h2:=Sj (b:=Yz) Zj8 x.2
 simp only [Ua,Wr]
 have h3:Yz x.1.1=1:=rfl
 omega
theorem Ztt:∀ t:List QV,X5 t≤Xi Za7 t
 | []=>by rw [X5];omega
 | x :: t=>by
  have h1:=Ztt t
  have h2:=Zpc x
  rw [X5]
  simp only [Xi,List.map_cons,List.sum_cons] at h1 ⊢
  omega
theorem Zwb:∀ P:List R1,Ui P+P.length≤Xi (Xi Yz) P
 | []=>by simp [Ui,Xi]
 | l :: P=>by
  have h1:=Zwb P
  have h2:=Sj (b:=Yz) Zj8 l
  rw [Zjv,nC]
  simp only [Xi,List.map_cons,List.sum_cons] at h1 h2 ⊢
  omega
theorem Z1f {n:Z4} (hb:Zj9 n≤1048576) (hq:Ztp n):Vd n 1048576∧Zcq n:=by
 have a1:=Zm1 n.1
 have a2:=Sj (b:=Vu) Zm1 n.2.1
 have a3:=Sj (b:=Xi Vu) Zka n.2.2.1
 have a4:=Zwb n.2.2.2.1
 have a5:=Sj (b:=Xi Za7) Zka n.2.2.2.2
 have a6:=Zka (b:=Xi Yz) n.2.2.2.1
 simp only [Zj9,Ua,Wr] at hb
 have b3:∀ l ∈ n.2.2.1,l.length≤1048576:=fun l hl=>by
  have h1:=Zjh (b:=Xi Vu) hl
  have h2:=Sj (b:=Vu) Zm1 l
  omega
 have b4:∀ l ∈ n.2.2.2.1,l.length≤1048576:=fun l hl=>by
  have h1:=Zml hl
  omega
 have b5:∀ t ∈ n.2.2.2.2,Xi Za7 t≤1048576:=fun t ht=>by
  have h1:=Zjh (b:=Xi Za7) ht
  omega
 have b6:∀ t ∈ n.2.2.2.2,t.length≤1048576:=fun t ht=>by
  have h1:=b5 t ht
  have h2:=Sj (b:=Za7) Zw5 t
  omega
 refine ⟨⟨by omega,b3,⟨by omega,by omega⟩,b6,fun t ht=>Nat.le_trans (Ztt t) (b5 t ht),fun t ht x hx=>Z0x (hq.2.2.2.2 t ht x hx)⟩,⟨by omega,by omega,b3,by omega,b4,by omega,b6,fun t ht x hx=>?_⟩⟩
 have h1:=b5 t ht
 have h2:=Zjh (b:=Za7) hx
 have h3:=Zpc x
 omega
/-! the document's loops -/
/-! a row's entries are 1 together -/
/-! parts side by side -/
/-! a network whose lists are its Zjm -/

end Go.Proofs.YtbmjpjhbankpoaaGreat
