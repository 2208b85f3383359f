/-
  What functions of the program compute, as plain Lean functions (m_..), and proofs that they compute it (c_..). Printed by a program of the author; no conditions.
-/
import Derived.Test.YtbmjpjhbankpoaaGreatJointSumBFloat
import Derived.Test.YtbmjpjhbankpoaaGreatProg
import Derived.Test.YtbmjpjhbankpoaaGreatJointSumBBrief
import Derived.Test.YtbmjpjhbankpoaaGreatJointSumBThree
import Derived.Test.YtbmjpjhbankpoaaGreatJointSumF2
set_option linter.unusedVariables false
set_option maxRecDepth 100000
set_option maxHeartbeats 2000000
namespace Go.Proofs.YtbmjpjhbankpoaaGreat
open Go Go.RowKit
open Go.IntKind (i8 i16 i32 i64 u8 u16 u32 u64)
open Go.Proofs.Tryz

def Zhq (N:Nat) (kk_L2:(List Int→R2→Option R2)) (aa:List Int) (ab:List Int):Option R2:=
  (Zct N ab aa).bind fun ac=>kk_L2 aa ac.1
def Zj5 (N:Nat) (kk_L2:(List Int→R2→Option R2)) (ab:List Int) (aa:List Int) (kk_L4:(List Int→Option R2)) (ac:Bool):Option R2:=
  if ac=true then ((Zcv N aa).bind fun ad=>kk_L4 ad) else ((Zep N ab aa).bind fun ae=>if (decide (0<ae))=true then (Zhq N kk_L2 aa ab) else (Zhq N kk_L2 ab aa))
def Zag (N:Nat) (kk_L2:(List Int→R2→Option R2)) (aa:List Int):Nat→R2→Option R2
  | 0,_=>none
  | ac+1,ab=>if (decide (0<(ab.length:Int)))=true then ((Zcu ab).bind fun ad=>Zj5 N kk_L2 aa ab (Zag N kk_L2 aa ac) ad) else (Zj5 N kk_L2 aa ab (Zag N kk_L2 aa ac) false)
termination_by structural x=>x
def Zer (N:Nat) (ab:List Int) (kk_L2:(List Int→R2→Option R2)):Nat→R2→Option R2
  | 0,_=>none
  | ac+1,aa=>(Zcu aa).bind fun ad=>if ad=true then ((Zcv N aa).bind fun ae=>(Zer N ab kk_L2 ac) ae) else (Zag N kk_L2 aa N ab)
termination_by structural x=>x
def Zes (N:Nat) (aa:Int):Nat→R2→Int→Option R2
  | 0,_,_=>none
  | ad+1,ab,ac=>if (decide (ac<aa))=true then ((Zhv N ab 0).bind fun ae=>(Zes N aa ad) ae (i64.wrap (ac+1))) else (some ab)
termination_by structural x=>x
def Uc (N:Nat) (aa:Int):Nat→R2→R2→Option R2
  | 0,_,_=>none
  | ad+1,ab,ac=>if (decide (0<(ac.length:Int)))=true then (Zer N ac (Uc N aa ad) N ab) else (Zes N aa N ab 0)
termination_by structural x=>x
def Zhp (N:Nat) (aa:List Int) (ab:List Int) (ac:Int) (kk_L1:(List Int→R2→Int→Option R2)) (ad:Bool):Option R2:=
  if ad=true then ((Zcv N aa).bind fun ae=>(Zcv N ab).bind fun af=>kk_L1 ae af (i64.wrap (ac+1))) else (Uc N ac N aa ab)
def Zbh (N:Nat):Nat→R2→R2→Int→Option R2
  | 0,_,_,_=>none
  | ac+1,aa,ab,ad=>(Zcu aa).bind fun ae=>if ae=true then ((Zcu ab).bind fun af=>Zhp N aa ab ad (Zbh N ac) af) else (Zhp N aa ab ad (Zbh N ac) false)
termination_by structural x=>x
def Zj4 (N:Nat) (ac:List Int) (ad:List Int):Option R2:=
  (Vs N ac).bind fun aa=>(Vs N ad).bind fun ab=>if (decide ((aa.length:Int)=0))=true then (some ab) else (if (decide ((ab.length:Int)=0))=true then (some aa) else (Zbh N N aa ab 0))
theorem Z04 {N cs ct:Nat} {a0 a1:Option Addr} {col:Zd} {w0:World} {cb cc r:R2} (c1:Nat) (hm:Zj4 N cb cc=some r) (h0:Sl (Za.int .u32) col w0 a0 cs cb) (h1:Sl (Za.int .u32) col w0 a1 ct cc):
    Calls prog 271 #[.slice a0 cb.length cs,.slice a1 cc.length ct] w0 (fun e w'=>∃ (col':Zd) (ra1:Option Addr) (rc2:Nat),e= .returned ((.slice ra1 r.length rc2))∧Zg col w0 col' w'∧Zc (Za.int .u32) 79 c1 col' w' ra1 rc2 r):=by
 refine Xc 4 (m:=69) func271 rfl rfl rfl rfl rfl ?_;rw [Zj4.eq_1] at hm;have aa:=St.start col w0;refine go ?_;obtain ⟨dv,c3,hm⟩:=bZ hm;replace h0:=h0.keep (Zf.start col w0);refine Zi (Us 1 c3 (h0.ks aa)) ?_;rintro _ dw ⟨dx,dy,dz,rfl,c4,bs⟩;refine ⟨_,rfl,go ?_⟩;obtain ⟨d0,c5,hm⟩:=bZ hm;replace h1:=h1.keep (Zf.start col w0);replace aa:=aa.grow c4;refine Zi (Us 2 c5 (h1.ks aa)) ?_;rintro _ d1 ⟨d2,d3,d4,rfl,cu,cv⟩;refine ⟨_,rfl,go ?_⟩;replace bs:=bs.gr cu;replace aa:=aa.grow cu;refine Zo hm (fun hb hm=>go ?_) fun hb hm=>go ?_
 ·cases hm;exact ⟨rfl,_,_,_,rfl,aa.fin (cm [(2,c1)]),aa.fo cv⟩
 refine Zo hm (fun hb hm=>go ?_) fun hb hm=>go ?_
 ·cases hm;exact ⟨rfl,_,_,_,rfl,aa.fin (cm [(1,c1)]),aa.fo bs⟩
 refine Zw [1000000] (fun n f a6=>∃ am bt bu au bv bw av ae an,an=n∧Zbh N an au av ae=some r∧St w0 (Zh col) am a6∧Zc (Za.int .u32) 79 1 am a6 bt bu au∧Zc (Za.int .u32) 79 2 am a6 bv bw av∧[5,6,7].map f=[.slice bt au.length bu,.slice bv av.length bw,.int .i64 ae]) N ⟨_,_,_,_,_,_,_,0,_,rfl,hm,aa,bs,cv,rfl⟩ ?_;clear hm;intro n f a6 hI;obtain ⟨am,bt,bu,au,bv,bw,av,ae,an,hn,hm,aa,ag,ad,hs⟩:=hI;subst hn;refine .lL [5,6,7] hs ?_
 cases an with
 | zero=>rw [Zbh.eq_1] at hm;cases hm
 | succ an=>
  rw [Zbh.eq_2] at hm;refine Z0<|Z0 ?_;refine Wp.cutK [5,6,7,1000000] (fun f a7=>∃ ao cd,Zhp N au av ae (Zbh N an) cd=some r∧St w0 (Zh col) ao a7∧Zc (Za.int .u32) 79 1 ao a7 bt bu au∧Zc (Za.int .u32) 79 2 ao a7 bv bw av∧[26].map f=[.bool cd]) ?_ ?_
  ·intro f a7 hJ;obtain ⟨ao,cd,hm,aa,ag,ad,hs⟩:=hJ;rw [Zhp.eq_1] at hm;refine .lL [26] hs ?_;refine Zo hm (fun hb hm=>go ?_) fun hb hm=>go ?_
   ·obtain ⟨d5,c6,hm⟩:=bZ hm;refine Zi (Zlt 3 c6 (ag.toSlF (Zn.int .u32))) ?_;rintro _ c7 ⟨c8,d6,d7,rfl,a8,ai⟩;refine ⟨_,rfl,?_⟩;replace ai:=ai.thaw (Z3 .u32) a8 ((Fz.refl (col:=ao)).froz 1) (by decide);replace a8:=a8.thawR (col:=ao);generalize Xf a7.heap.size ao c8=ce at *;refine go ?_;obtain ⟨d8,c9,hm⟩:=bZ hm;replace ad:=ad.gr a8;refine Zi (Zlt 4 c9 (ad.toSlF (Zn.int .u32))) ?_;rintro _ d9 ⟨da,ea,eb,rfl,a9,ap⟩;refine ⟨_,rfl,?_⟩;replace ap:=ap.thaw (Z3 .u32) a9 ((Fz.refl (col:=ce)).froz 2) (by decide);replace a9:=a9.thawR (col:=ce);generalize Xf c7.heap.size ce da=ec at *;refine go ?_;replace ai:=ai.gr a9;replace ai:=ai.recolSelf 1 (by decide);replace ap:=ap.recol 3 1 (by decide);replace aa:=(aa.grow a8).grow a9;replace aa:=aa.recol 3 1 (by decide) (by decide);replace ai:=ai.recol 4 2 (by decide);replace ap:=ap.recolSelf 2 (by decide);replace aa:=aa.recol 4 2 (by decide) (by decide);exact ⟨an,by omega,rfl,⟨_,_,_,_,_,_,_,_,_,rfl,hm,aa,ai,ap,rfl⟩⟩
   refine Zw [7,1000000] (fun n f bx=>∃ bz cf cg b0 b1 b2 aw af,af=n∧Uc N ae af b0 aw=some r∧St w0 (Zh col) bz bx∧Zc (Za.int .u32) 79 1 bz bx cf cg b0∧Zc (Za.int .u32) 79 2 bz bx b1 b2 aw∧[5,6].map f=[.slice cf b0.length cg,.slice b1 aw.length b2]) N ⟨_,_,_,_,_,_,_,_,rfl,hm,aa,ag,ad,rfl⟩ ?_;clear hm;intro n f bx hI;obtain ⟨bz,cf,cg,b0,b1,b2,aw,af,hn,hm,aa,cw,ah,hs⟩:=hI;subst hn;refine .lL [5,6] hs ?_
   cases af with
   | zero=>rw [Uc.eq_1] at hm;cases hm
   | succ af=>
    rw [Uc.eq_2] at hm;refine go ?_;refine Zo hm (fun hb hm=>go ?_) fun hb hm=>go ?_
    ·refine Zw [6,7,1000000] (fun n f ba=>∃ aj bb bc ak ax,ax=n∧Zer N aw (Uc N ae af) ax ak=some r∧St w0 (Zh col) aj ba∧Zc (Za.int .u32) 79 1 aj ba bb bc ak∧Zc (Za.int .u32) 79 2 aj ba b1 b2 aw∧[5].map f=[.slice bb ak.length bc]) N ⟨_,_,_,_,_,rfl,hm,aa,cw,ah,rfl⟩ ?_;clear hm;intro n f ba hI;obtain ⟨aj,bb,bc,ak,ax,hn,hm,aa,ab,ah,hs⟩:=hI;subst hn;refine .lL [5] hs ?_
     cases ax with
     | zero=>rw [Zer.eq_1] at hm;cases hm
     | succ ax=>
      rw [Zer.eq_2] at hm;refine go ?_;obtain ⟨ed,db,hm⟩:=bZ hm;refine Zi (Zls db (ab.toSlF (Zn.int .u32))) ?_;rintro _ cx ⟨rfl,bd⟩;refine ⟨_,rfl,?_⟩;replace bd:Zg aj ba aj cx:=.of_below bd;refine Zk ?_;replace ab:=ab.gr bd;replace ah:=ah.gr bd;replace aa:=aa.grow bd;refine Zo hm (fun hb hm=>go ?_) fun hb hm=>go ?_
      ·obtain ⟨ee,dc,hm⟩:=bZ hm;refine Zi (Zlt 5 dc (ab.toSlF (Zn.int .u32))) ?_;rintro _ ef ⟨dd,eg,eh,rfl,be,bf⟩;refine ⟨_,rfl,?_⟩;replace bf:=bf.thaw (Z3 .u32) be ((Fz.refl (col:=aj)).froz 1) (by decide);replace be:=be.thawR (col:=aj);generalize Xf cx.heap.size aj dd=ei at *;refine go ?_;replace ah:=ah.gr be;replace ah:=ah.recol 5 1 (by decide);replace bf:=bf.recolSelf 1 (by decide);replace aa:=aa.grow be;replace aa:=aa.recol 5 1 (by decide) (by decide);exact ⟨ax,by omega,rfl,⟨_,_,_,_,_,rfl,hm,aa,bf,ah,rfl⟩⟩
      refine Zw [5,7,1000000] (fun n f bg=>∃ ay b3 b4 az aq,aq=n∧Zag N (Uc N ae af) ak aq az=some r∧St w0 (Zh col) ay bg∧Zc (Za.int .u32) 79 1 ay bg bb bc ak∧Zc (Za.int .u32) 79 2 ay bg b3 b4 az∧[6].map f=[.slice b3 az.length b4]) N ⟨_,_,_,_,_,rfl,hm,aa,ab,ah,rfl⟩ ?_;clear hm;intro n f bg hI;obtain ⟨ay,b3,b4,az,aq,hn,hm,aa,ab,ac,hs⟩:=hI;subst hn;refine .lL [6] hs ?_
      cases aq with
      | zero=>rw [Zag.eq_1] at hm;cases hm
      | succ aq=>
       rw [Zag.eq_2] at hm;refine Z0<|Z0 ?_;refine Wp.cutK [5,6,7,1000000] (fun f a2=>∃ al ch,Zj5 N (Uc N ae af) ak az (Zag N (Uc N ae af) ak aq) ch=some r∧St w0 (Zh col) al a2∧Zc (Za.int .u32) 79 1 al a2 bb bc ak∧Zc (Za.int .u32) 79 2 al a2 b3 b4 az∧[46].map f=[.bool ch]) ?_ ?_
       ·intro f a2 hJ;obtain ⟨al,ch,hm,aa,ab,ac,hs⟩:=hJ;rw [Zj5.eq_1] at hm;refine .lL [46] hs ?_;refine Zo hm (fun hb hm=>go ?_) fun hb hm=>?_
        ·obtain ⟨ej,de,hm⟩:=bZ hm;refine Zi (Zlt 6 de (ac.toSlF (Zn.int .u32))) ?_;rintro _ ek ⟨df,el,em,rfl,bh,bi⟩;refine ⟨_,rfl,?_⟩;replace bi:=bi.thaw (Z3 .u32) bh ((Fz.refl (col:=al)).froz 2) (by decide);replace bh:=bh.thawR (col:=al);generalize Xf a2.heap.size al df=en at *;refine go ?_;replace ab:=ab.gr bh;replace ab:=ab.recol 6 2 (by decide);replace bi:=bi.recolSelf 2 (by decide);replace aa:=aa.grow bh;replace aa:=aa.recol 6 2 (by decide) (by decide);exact ⟨aq,by omega,rfl,⟨_,_,_,_,_,rfl,hm,aa,ab,bi,rfl⟩⟩
        refine Zk9 (Zji ?_);refine Z0 ?_;refine Wp.cutK [7,1000000] (fun f bj=>∃ ar ci cj b5 ck cl b6,Zhq N (Uc N ae af) b5 b6=some r∧St w0 (Zh col) ar bj∧Zc (Za.int .u32) 79 1 ar bj ci cj b5∧Zc (Za.int .u32) 79 2 ar bj ck cl b6∧[5,6].map f=[.slice ci b5.length cj,.slice ck b6.length cl]) ?_ ?_
        ·intro f bj hJ;obtain ⟨ar,ci,cj,b5,ck,cl,b6,hm,aa,a3,dg,hs⟩:=hJ;rw [Zhq.eq_1] at hm;refine .lL [5,6] hs<|go ?_;obtain ⟨b7,dh,hm⟩:=bZ hm;refine Zi (Zlr 7 dh ((dg.toSlF (Zn.int .u32)).froz 1) ((a3.froz 2 (by decide)).toSlF (Zn.int .u32))) ?_;rintro _ eo ⟨di,cy,cz,rfl,bk,bm⟩;refine ⟨_,rfl,?_⟩;replace bm:=bm.thaw (Z3 .u32) bk (((Fz.refl (col:=ar)).froz 2).froz 1) (by decide);replace bk:=bk.thawR (col:=ar);generalize Xf bj.heap.size ar di=ep at *;refine lM (.tuple #[.slice cy b7.1.length cz,.bool b7.2])<|lV (.slice cy b7.1.length cz) (Xv rfl rfl)<|lV (.bool b7.2) (Xv rfl rfl)<|go ?_;replace a3:=a3.gr bk;replace a3:=a3.recol 7 2 (by decide);replace bm:=bm.recolSelf 2 (by decide);replace aa:=aa.grow bk;replace aa:=aa.recol 7 2 (by decide) (by decide);exact ⟨af,by omega,rfl,⟨_,_,_,_,_,_,_,_,rfl,hm,aa,a3,bm,rfl⟩⟩
        refine go ?_;obtain ⟨eq,dj,hm⟩:=bZ hm;refine Zi (Zol dj ((ab.toSlF (Zn.int .u32)).froz 2) ((ac.froz 1 (by decide)).toSlF (Zn.int .u32))) ?_;rintro _ dk ⟨rfl,bn⟩;refine ⟨_,rfl,?_⟩;replace bn:Zg al a2 al dk:=.of_below bn;refine go ?_;replace ab:=ab.gr bn;replace ac:=ac.gr bn;replace aa:=aa.grow bn;refine Zo hm (fun hb hm=>go ?_) fun hb hm=>?_
        ·replace ac:=ac.recol 1 8 (by decide);replace ab:=ab.recolSelf 8 (by decide);replace aa:=aa.recol 1 8 (by decide) (by decide);replace ac:=ac.recolSelf 1 (by decide);replace ab:=ab.recol 2 1 (by decide);replace aa:=aa.recol 2 1 (by decide) (by decide);replace ac:=ac.recol 8 2 (by decide);replace ab:=ab.recolSelf 2 (by decide);replace aa:=aa.recol 8 2 (by decide) (by decide);exact ⟨rfl,_,_,_,_,_,_,_,hm,aa,ac,ab,rfl⟩
        refine X9 ?_;exact ⟨rfl,_,_,_,_,_,_,_,hm,aa,ab,ac,rfl⟩
       refine go ?_;refine Xt hm (fun cn hm=>go ?_) fun cn hm=>go ?_
       ·obtain ⟨dl,dm,hm⟩:=bZ hm;refine Zi (Zls dm (ac.toSlF (Zn.int .u32))) ?_;rintro _ dn ⟨rfl,bo⟩;refine ⟨_,rfl,?_⟩;replace bo:Zg ay bg ay dn:=.of_below bo;refine lV (.bool dl) (Xb (congrArg Value.bool cn) rfl)<|Zk ?_;replace ab:=ab.gr bo;replace ac:=ac.gr bo;replace aa:=aa.grow bo;exact ⟨rfl,_,_,hm,aa,ab,ac,rfl⟩
       refine lV (.bool false) (Xm (congrArg Value.bool cn) rfl)<|Zk ?_;exact ⟨rfl,_,_,hm,aa,ab,ac,rfl⟩
    refine Zw [7,1000000] (fun n f b8=>∃ a4 co cp b9 cq a5,a5=n∧Zes N ae a5 b9 cq=some r∧St w0 (Zh col) a4 b8∧Zc (Za.int .u32) 79 1 a4 b8 co cp b9∧[5,8].map f=[.slice co b9.length cp,.int .i64 cq]) N ⟨_,_,_,_,0,_,rfl,hm,aa,cw,rfl⟩ ?_;clear hm;intro n f b8 hI;obtain ⟨a4,co,cp,b9,cq,a5,hn,hm,aa,c0,hs⟩:=hI;subst hn;refine .lL [5,8] hs ?_
    cases a5 with
    | zero=>rw [Zes.eq_1] at hm;cases hm
    | succ a5=>
     rw [Zes.eq_2] at hm;refine go ?_;refine Zo hm (fun hb hm=>go ?_) fun hb hm=>go ?_
     ·obtain ⟨er,dp,hm⟩:=bZ hm;refine Zi (Zrl 9 dp (c0.toSlF (Zn.int .u32))) ?_;rintro _ es ⟨dq,et,eu,rfl,ca,bp⟩;refine ⟨_,rfl,?_⟩;replace bp:=bp.thaw (Z3 .u32) ca ((Fz.refl (col:=a4)).froz 1) (by decide);replace ca:=ca.thawR (col:=a4);generalize Xf b8.heap.size a4 dq=ew at *;refine go ?_;replace bp:=bp.recolSelf 1 (by decide);replace aa:=aa.grow ca;replace aa:=aa.recol 9 1 (by decide) (by decide);exact ⟨a5,by omega,rfl,⟨_,_,_,_,_,_,rfl,hm,aa,bp,rfl⟩⟩
     cases hm;exact ⟨rfl,_,_,_,rfl,aa.fin (cm [(1,c1)]),aa.fo c0⟩
  refine go ?_;obtain ⟨ey,dr,hm⟩:=bZ hm;refine Zi (Zls dr (ag.toSlF (Zn.int .u32))) ?_;rintro _ c2 ⟨rfl,bq⟩;refine ⟨_,rfl,?_⟩;replace bq:Zg am a6 am c2:=.of_below bq;refine Y2 rfl ?_;replace ag:=ag.gr bq;replace ad:=ad.gr bq;replace aa:=aa.grow bq;refine Xt hm (fun cr hm=>go ?_) fun cr hm=>go ?_
  ·obtain ⟨ds,dt,hm⟩:=bZ hm;refine Zi (Zls dt (ad.toSlF (Zn.int .u32))) ?_;rintro _ du ⟨rfl,br⟩;refine ⟨_,rfl,?_⟩;replace br:Zg am c2 am du:=.of_below br;refine lV (.bool ds) (Xb (congrArg Value.bool cr) rfl)<|Zk ?_;replace ag:=ag.gr br;replace ad:=ad.gr br;replace aa:=aa.grow br;exact ⟨rfl,_,_,hm,aa,ag,ad,rfl⟩
  refine lV (.bool false) (Xm (congrArg Value.bool cr) rfl)<|Zk ?_;exact ⟨rfl,_,_,hm,aa,ag,ad,rfl⟩
def Zet (N:Nat) (af:List Int) (ab:List Int) (aa:Int) (kk_L1:(List Int→Int→Option R2)):Nat→Int→R2→Int→Option R2
  | 0,_,_,_=>none
  | aj+1,ac,ad,ae=>if (decide (ac<(ab.length:Int)))=true then ((Zj af aa).bind fun ag=>(Zj ab ac).bind fun ah=>(Zj ad (i64.wrap (aa+ac))).bind fun ai=>(some (ad.set (Int.toNat (i64.wrap (aa+ac))) (u32.wrap (Int.tmod (u64.wrap ((u64.wrap (ae+(u64.wrap ((u64.wrap ag) * (u64.wrap ah)))))+(u64.wrap ai))) 4294967296)))).bind fun ak=>(Zet N af ab aa kk_L1 aj) (i64.wrap (ac+1)) ak (u64.wrap (Int.tdiv (u64.wrap ((u64.wrap (ae+(u64.wrap ((u64.wrap ag) * (u64.wrap ah)))))+(u64.wrap ai))) 4294967296))) else ((Zj ad (i64.wrap (aa+(ab.length:Int)))).bind fun am=>(some (ad.set (Int.toNat (i64.wrap (aa+(ab.length:Int)))) (u32.wrap ae))).bind fun al=>kk_L1 al (i64.wrap (aa+1)))
termination_by structural x=>x
def Zbi (N:Nat) (aa:List Int) (ab:List Int):Nat→R2→Int→Option R2
  | 0,_,_=>none
  | ae+1,ac,ad=>if (decide (ad<(aa.length:Int)))=true then (Zet N aa ab ad (Zbi N aa ab ae) N 0 ac 0) else ((Vs N ac).bind fun af=>some af)
termination_by structural x=>x
def Zcs (N:Nat) (ac:List Int) (ad:List Int):Option R2:=
  (Vs N ac).bind fun aa=>(Vs N ad).bind fun ab=>Zv ((Int.toNat (i64.wrap ((aa.length:Int)+(ab.length:Int)))) * 4≤281474976710656∧(Int.toNat (i64.wrap ((aa.length:Int)+(ab.length:Int))))≤maxLen∧0≤(i64.wrap ((aa.length:Int)+(ab.length:Int)))) (Zbi N aa ab N (List.replicate (Int.toNat (i64.wrap ((aa.length:Int)+(ab.length:Int)))) (0:Int)) 0)
theorem Zom {N bi bj:Nat} {a0 a1:Option Addr} {col:Zd} {w0:World} {a5 a6 r:R2} (c1:Nat) (hm:Zcs N a5 a6=some r) (h0:Sl (Za.int .u32) col w0 a0 bi a5) (h1:Sl (Za.int .u32) col w0 a1 bj a6):
    Calls prog 104 #[.slice a0 a5.length bi,.slice a1 a6.length bj] w0 (fun e w'=>∃ (col':Zd) (ra1:Option Addr) (rc2:Nat),e= .returned ((.slice ra1 r.length rc2))∧Zg col w0 col' w'∧Zc (Za.int .u32) 79 c1 col' w' ra1 rc2 r):=by
 refine Xc 4 (m:=74) func104 rfl rfl rfl rfl rfl ?_;rw [Zcs.eq_1] at hm;have aa:=St.start col w0;refine go ?_;obtain ⟨am,bt,hm⟩:=bZ hm;replace h0:=h0.keep (Zf.start col w0);refine Zi (Us 1 bt (h0.ks aa)) ?_;rintro _ b4 ⟨b5,bk,bm,rfl,bu,ab⟩;refine ⟨_,rfl,go ?_⟩;obtain ⟨ai,bv,hm⟩:=bZ hm;replace h1:=h1.keep (Zf.start col w0);replace aa:=aa.grow bu;refine Zi (Us 2 bv (h1.ks aa)) ?_;rintro _ bw ⟨bx,bn,bo,rfl,bp,ac⟩;refine ⟨_,rfl,go ?_⟩;obtain ⟨ax,hm⟩:=Zx hm;refine Sf (col:=bx) (w:=bw) (r:=(Za.int .u32)) (n:=(Int.toNat (i64.wrap ((am.length:Int)+(ai.length:Int))))) (x0:=0) 3 rfl underlying43 Tryz.t79 rfl rfl rfl rfl rfl (congrArg (Value.int _) (Int.toNat_of_nonneg ax.2.2).symm) (congrArg (Value.int _) (Int.toNat_of_nonneg ax.2.2).symm) ax.1 ax.2.1 (Uf .u32 0) ?_;intro b6 b7 b8 a7 bz;refine go ?_;replace ab:=(ab.gr bp).gr a7;replace aa:=(aa.grow bp).grow a7;replace ac:=ac.gr a7;refine Zw [5,6,1000000] (fun n f an=>∃ af a8 a9 ay ao aj,aj=n∧Zbi N am ai aj ay ao=some r∧St w0 (Zh col) af an∧Zc (Za.int .u32) 79 1 af an bk bm am∧Zc (Za.int .u32) 79 2 af an bn bo ai∧Zc (Za.int .u32) 79 3 af an a8 a9 ay∧[7,8].map f=[.slice a8 ay.length a9,.int .i64 ao]) N ⟨_,_,_,_,0,_,rfl,hm,aa,ab,ac,bz,rfl⟩ ?_;clear hm;intro n f an hI;obtain ⟨af,a8,a9,ay,ao,aj,hn,hm,aa,ab,ac,bq,hs⟩:=hI;subst hn;refine .lL [7,8] hs ?_
 cases aj with
 | zero=>rw [Zbi.eq_1] at hm;cases hm
 | succ aj=>
  rw [Zbi.eq_2] at hm;refine go ?_;refine Zo hm (fun hb hm=>go ?_) fun hb hm=>go ?_
  ·refine Zw [5,6,8,1000000] (fun n f aw=>∃ ae az ak al ag ad ap,ap=n∧Zet N am ai ao (Zbi N am ai aj) ap az ag ad=some r∧St w0 (Zh col) ae aw∧Zc (Za.int .u32) 79 1 ae aw bk bm am∧Zc (Za.int .u32) 79 2 ae aw bn bo ai∧Zc (Za.int .u32) 79 3 ae aw ak al ag∧[10,7,9].map f=[.int .i64 az,.slice ak ag.length al,.int .u64 ad]) N ⟨_,0,_,_,_,0,_,rfl,hm,aa,ab,ac,bq,rfl⟩ ?_;clear hm;intro n f aw hI;obtain ⟨ae,az,ak,al,ag,ad,ap,hn,hm,aa,ab,ac,ah,hs⟩:=hI;subst hn;refine .lL [10,7,9] hs ?_
   cases ap with
   | zero=>rw [Zet.eq_1] at hm;cases hm
   | succ ap=>
    rw [Zet.eq_2] at hm;refine go ?_;refine Zo hm (fun hb hm=>go ?_) fun hb hm=>go ?_
    ·refine Wd (col:=ae) (by kernel_rfl) (by kernel_rfl)<|go ?_;obtain ⟨aq,ba,hm⟩:=bZ hm;refine qI ba (ab.addr ba)<|qW (fun _ hC=>(ab.gr (hC.bl ae)).atInt ba) ?_;refine go ?_;obtain ⟨ar,bb,hm⟩:=bZ hm;refine qI bb (ac.addr bb)<|qW (fun _ hC=>(ac.gr (hC.bl ae)).atInt bb) ?_;refine go ?_;obtain ⟨au,av,hm⟩:=bZ hm;refine qI av (ah.addr av)<|qW (fun _ hC=>(ah.gr (hC.bl ae)).atInt av) ?_;refine go ?_;refine X7 ?_;intro b9 hC;replace hC:=hC.bl ae;refine go ?_;refine lV (.int .u64 (Int.tmod (u64.wrap ((u64.wrap (ad+(u64.wrap ((u64.wrap aq) * (u64.wrap ar)))))+(u64.wrap au))) 4294967296)) (Sz (u64.wrap ((u64.wrap (ad+(u64.wrap ((u64.wrap aq) * (u64.wrap ar)))))+(u64.wrap au))) 4294967296 rfl rfl (by decide))<|go ?_;replace ah:=ah.gr hC;refine lI av (ah.addr av) ?_;obtain ⟨bc,a2,hm⟩:=bZ hm;have a2:bc=ag.set (Int.toNat (i64.wrap (ao+az))) (u32.wrap (Int.tmod (u64.wrap ((u64.wrap (ad+(u64.wrap ((u64.wrap aq) * (u64.wrap ar)))))+(u64.wrap au))) 4294967296)):=(Option.some.inj a2).symm;refine Wb (x1:=u32.wrap (Int.tmod (u64.wrap ((u64.wrap (ad+(u64.wrap ((u64.wrap aq) * (u64.wrap ar)))))+(u64.wrap au))) 4294967296)) ah av ?_;intro ca bd b0 br;rw [← a2] at br;refine .ld (d:=7) (v:=(.slice ak bc.length al)) (congrArg (fun n=>Value.slice ak n al) (show ag.length=bc.length by rw [a2,nS])) ?_;refine go ?_;refine lV (.int .u64 (u64.wrap (Int.tdiv (u64.wrap ((u64.wrap (ad+(u64.wrap ((u64.wrap aq) * (u64.wrap ar)))))+(u64.wrap au))) 4294967296))) (Vw (u64.wrap ((u64.wrap (ad+(u64.wrap ((u64.wrap aq) * (u64.wrap ar)))))+(u64.wrap au))) 4294967296 rfl rfl (by decide))<|go ?_;replace ab:=(ab.gr hC).kp bd;replace ac:=(ac.gr hC).kp bd;replace aa:=(aa.grow hC).kp bd b0;exact ⟨ap,by omega,rfl,⟨_,_,_,_,_,_,_,rfl,hm,aa,ab,ac,br,rfl⟩⟩
    obtain ⟨cb,be,hm⟩:=bZ hm;refine lI be (ah.addr be) ?_;obtain ⟨bf,a3,hm⟩:=bZ hm;have a3:bf=ag.set (Int.toNat (i64.wrap (ao+(ai.length:Int)))) (u32.wrap ad):=(Option.some.inj a3).symm;refine Wb (x1:=u32.wrap ad) ah be ?_;intro cc bg b1 bs;rw [← a3] at bs;refine .ld (d:=7) (v:=(.slice ak bf.length al)) (congrArg (fun n=>Value.slice ak n al) (show ag.length=bf.length by rw [a3,nS])) ?_;refine go ?_;replace ab:=ab.kp bg;replace ac:=ac.kp bg;replace aa:=aa.kp bg b1;exact ⟨aj,by omega,rfl,⟨_,_,_,_,_,_,rfl,hm,aa,ab,ac,bs,rfl⟩⟩
  obtain ⟨cd,b2,hm⟩:=bZ hm;refine Zi (Us 4 b2 (bq.toSlF (Zn.int .u32))) ?_;rintro _ ce ⟨b3,cf,cg,rfl,a4,bh⟩;refine ⟨_,rfl,?_⟩;replace bh:=bh.thaw (Z3 .u32) a4 ((Fz.refl (col:=af)).froz 3) (by decide);replace a4:=a4.thawR (col:=af);generalize Xf an.heap.size af b3=ch at *;refine go ?_;cases hm;replace aa:=aa.grow a4;exact ⟨rfl,_,_,_,rfl,aa.fin (cm [(4,c1)]),aa.fo bh⟩
def Zj1 (af:List Int) (ag:List Int) (ad:List Int) (aa:Int) (ae:Int) (kk_L1:(List Int→Int→Int→Option R2)):Option R2:=
  (Qo af ae).bind fun ab=>(Qo ag ae).bind fun ac=>Zv ((ad.length+[u32.wrap (Int.tmod (u64.wrap ((u64.wrap (aa+ab))+ac)) 4294967296)].length) * 4≤140737488355328∧ad.length+[u32.wrap (Int.tmod (u64.wrap ((u64.wrap (aa+ab))+ac)) 4294967296)].length≤maxLen) (kk_L1 (ad++[u32.wrap (Int.tmod (u64.wrap ((u64.wrap (aa+ab))+ac)) 4294967296)]) (u64.wrap (Int.tdiv (u64.wrap ((u64.wrap (aa+ab))+ac)) 4294967296)) (i64.wrap (ae+1)))
def Zcr (N:Nat) (ab:List Int) (ac:List Int) (aa:List Int) (ad:Int) (ae:Int) (kk_L1:(List Int→Int→Int→Option R2)) (af:Bool):Option R2:=
  if af=true then (Zj1 ab ac aa ad ae kk_L1) else ((Vs N aa).bind fun ag=>some ag)
def So (N:Nat) (aa:List Int) (ab:List Int):Nat→R2→Int→Int→Option R2
  | 0,_,_,_=>none
  | ae+1,af,ad,ac=>if (decide (ac<(aa.length:Int)))=true then (Zcr N aa ab af ad ac (So N aa ab ae) true) else (if (decide (ac<(ab.length:Int)))=true then (Zcr N aa ab af ad ac (So N aa ab ae) true) else (Zcr N aa ab af ad ac (So N aa ab ae) (decide (0<ad))))
termination_by structural x=>x
def Zhl (N:Nat) (aa:List Int) (ab:List Int):Option R2:=
  So N aa ab N ([]:List Int) 0 0
theorem Zrh {N a3 a4:Nat} {a0 a1:Option Addr} {col:Zd} {w0:World} {ae ad r:R2} (c1:Nat) (hm:Zhl N ae ad=some r) (h0:Sl (Za.int .u32) col w0 a0 a3 ae) (h1:Sl (Za.int .u32) col w0 a1 a4 ad):
    Calls prog 227 #[.slice a0 ae.length a3,.slice a1 ad.length a4] w0 (fun e w'=>∃ (col':Zd) (ra1:Option Addr) (rc2:Nat),e= .returned ((.slice ra1 r.length rc2))∧Zg col w0 col' w'∧Zc (Za.int .u32) 79 c1 col' w' ra1 rc2 r):=by
 refine Xc 4 (m:=43) func227 rfl rfl rfl rfl rfl ?_;rw [Zhl.eq_1] at hm;have aa:=St.start col w0;refine go ?_;refine Zw [0,1,1000000] (fun n f av=>∃ aw ak al af ab ai ag,ag=n∧So N ae ad ag af ab ai=some r∧St w0 (Zh col) aw av∧Zc (Za.int .u32) 79 1 aw av ak al af∧[5,6,7].map f=[.slice ak af.length al,.int .u64 ab,.int .i64 ai]) N ⟨_,none,0,_,0,0,_,rfl,hm,aa,Zc.nil,rfl⟩ ?_;clear hm;intro n f av hI;obtain ⟨aw,ak,al,af,ab,ai,ag,hn,hm,aa,ac,hs⟩:=hI;subst hn;refine .lL [5,6,7] hs ?_;replace h0:=h0.keep (Zf.start col w0);replace h1:=h1.keep (Zf.start col w0)
 cases ag with
 | zero=>rw [So.eq_1] at hm;cases hm
 | succ ag=>
  rw [So.eq_2] at hm;refine Z0 ?_;refine Wp.cutK [0,1,5,6,7,1000000] (fun f ao=>∃ ah,Zj1 ae ad af ab ai (So N ae ad ag)=some r∧St w0 (Zh col) ah ao∧Zc (Za.int .u32) 79 1 ah ao ak al af) ?_ ?_
  ·intro f ao hJ;obtain ⟨ah,hm,aa,ac⟩:=hJ;rw [Zj1.eq_1] at hm;refine go ?_;obtain ⟨am,a7,hm⟩:=bZ hm;refine Zi (Zdp a7 (h0.ks aa)) ?_;rintro _ a5 ⟨rfl,ap⟩;refine ⟨_,rfl,?_⟩;replace ap:Zg ah ao ah a5:=.of_below ap;refine go ?_;obtain ⟨an,a8,hm⟩:=bZ hm;replace aa:=aa.grow ap;refine Zi (Zdp a8 (h1.ks aa)) ?_;rintro _ a9 ⟨rfl,aq⟩;refine ⟨_,rfl,?_⟩;replace aq:Zg ah a5 ah a9:=.of_below aq;refine go ?_;refine lV (.int .u64 (Int.tmod (u64.wrap ((u64.wrap (ab+am))+an)) 4294967296)) (Sz (u64.wrap ((u64.wrap (ab+am))+an)) 4294967296 rfl rfl (by decide))<|go ?_;refine W1 (col:=ah) [u32.wrap (Int.tmod (u64.wrap ((u64.wrap (ab+am))+an)) 4294967296)] 2 ?_;intro bg bh bi a6 ba;obtain ⟨bb,hm⟩:=Zx hm;replace ac:=((ac.gr ap).gr aq).gr a6;refine Y3 ac (ba.srcN (NB.int (k:=.u32))) bb ?_;intro bj bk bm bn bc bd;refine go ?_;refine lV (.int .u64 (u64.wrap (Int.tdiv (u64.wrap ((u64.wrap (ab+am))+an)) 4294967296))) (Vw (u64.wrap ((u64.wrap (ab+am))+an)) 4294967296 rfl rfl (by decide))<|go ?_;replace aa:=((aa.grow aq).grow a6).kpp bc;exact ⟨ag,by omega,rfl,⟨_,_,_,_,_,_,_,rfl,hm,aa,bd,rfl⟩⟩
  refine Z0 ?_;refine Wp.cutK [0,1,5,6,7,1000000] (fun f ar=>∃ aj ax,Zcr N ae ad af ab ai (So N ae ad ag) ax=some r∧St w0 (Zh col) aj ar∧Zc (Za.int .u32) 79 1 aj ar ak al af∧[21].map f=[.bool ax]) ?_ ?_
  ·intro f ar hJ;obtain ⟨aj,ax,hm,aa,ac,hs⟩:=hJ;rw [Zcr.eq_1] at hm;refine .lL [21] hs ?_;refine Zo hm (fun hb hm=>?_) fun hb hm=>go ?_
   ·refine X9 ?_;exact ⟨rfl,_,hm,aa,ac⟩
   obtain ⟨bo,be,hm⟩:=bZ hm;refine Zi (Us 3 be (ac.toSlF (Zn.int .u32))) ?_;rintro _ bp ⟨bf,bq,br,rfl,au,ay⟩;refine ⟨_,rfl,?_⟩;replace ay:=ay.thaw (Z3 .u32) au ((Fz.refl (col:=aj)).froz 1) (by decide);replace au:=au.thawR (col:=aj);generalize Xf ar.heap.size aj bf=bs at *;refine go ?_;cases hm;replace aa:=aa.grow au;exact ⟨rfl,_,_,_,rfl,aa.fin (cm [(3,c1)]),aa.fo ay⟩
  refine go ?_;refine Xt hm (fun az hm=>go ?_) fun az hm=>go ?_
  ·refine lV (.bool true) (Xb (congrArg Value.bool az) rfl)<|Y2 rfl<|lP 18 rfl rfl<|lP 18 rfl rfl<|lV (.bool true) (Xb rfl rfl)<|Zk ?_;exact ⟨rfl,_,_,hm,aa,ac,rfl⟩
  refine lV (.bool (decide (ai<(ad.length:Int)))) (Xm (congrArg Value.bool az) rfl)<|Y2 rfl ?_;refine Xt hm (fun a2 hm=>go ?_) fun a2 hm=>go ?_
  ·refine lV (.bool true) (Xb (congrArg Value.bool a2) rfl)<|Zk ?_;exact ⟨rfl,_,_,hm,aa,ac,rfl⟩
  refine lV (.bool (decide (0<ab))) (Xm (congrArg Value.bool a2) rfl)<|Zk ?_;exact ⟨rfl,_,_,hm,aa,ac,rfl⟩
def Zhs (N:Nat) (aa:Int):Option R2:=
  (Vs N [u32.wrap (Int.tmod aa 4294967296),u32.wrap (u64.wrap (Int.tdiv aa 4294967296))]).bind fun ab=>some ab
theorem Zrj {N:Nat} {col:Zd} {w0:World} {aa:Int} {r:R2} (c1:Nat) (hm:Zhs N aa=some r):
    Calls prog 229 #[.int .u64 aa] w0 (fun e w'=>∃ (col':Zd) (ra1:Option Addr) (rc2:Nat),e= .returned ((.slice ra1 r.length rc2))∧Zg col w0 col' w'∧Zc (Za.int .u32) 79 c1 col' w' ra1 rc2 r):=by
 refine Xc 2 (m:=11) func229 rfl rfl rfl rfl rfl ?_;rw [Zhs.eq_1] at hm;have ab:=St.start col w0;refine go ?_;refine lV (.int .u64 (Int.tmod aa 4294967296)) (Sz aa 4294967296 rfl rfl (by decide))<|go ?_;refine lV (.int .u64 (u64.wrap (Int.tdiv aa 4294967296))) (Vw aa 4294967296 rfl rfl (by decide))<|go ?_;refine W1 (col:=(Zh col)) [u32.wrap (Int.tmod aa 4294967296),u32.wrap (u64.wrap (Int.tdiv aa 4294967296))] 1 ?_;intro ak af ad ag ah;obtain ⟨al,ai,hm⟩:=bZ hm;refine Zi (Us 2 ai (ah.toSlF (Zn.int .u32))) ?_;rintro _ am ⟨aj,an,ao,rfl,ac,ae⟩;refine ⟨_,rfl,?_⟩;replace ae:=ae.thaw (Z3 .u32) ac ((Fz.refl (col:=ad)).froz 1) (by decide);replace ac:=ac.thawR (col:=ad);generalize Xf af.heap.size ad aj=ap at *;refine go ?_;cases hm;replace ab:=(ab.grow ag).grow ac;exact ⟨rfl,_,_,_,rfl,ab.fin (cm [(2,c1)]),ab.fo ae⟩
theorem Zyb (N:Nat) (a:List Int) (hb:a.length≤1099511627776):∀ (n j:Nat),j≤a.length→Zbj N a n (j:Int)=Tz N n (a.take j)
 | 0,j,_=>rfl
 | n+1,j,hj=>by
  have hl:(a.take j).length=j:=by rw [nK];omega
  have ht:0<j→Zj (a.take j) ((j - 1:Nat):Int)=Zj a ((j - 1:Nat):Int):=fun h=>by rw [V1,V1,List.getElem?_take,if_pos (by omega)]
  rw [Zbj.eq_2,Tz.eq_2,hl]
  by_cases h0:0<j
  ·have e:(j:Int) - 1=((j - 1:Nat):Int):=by omega
   rw [if_pos (dT (by omega)),if_pos (dT (by omega)),Zr (by omega),e,ht h0,Zy (by omega),oB,oB,Zhr,Zbe,hl,Zr (by omega),e,Int.toNat_natCast,Int.toNat_natCast]
   by_cases hx:a[j - 1]=0
   ·rw [if_pos (dT hx),if_pos (dT hx),Zz (by omega),Zyb N a hb n (j - 1) (by omega),List.take_take,Nat.min_eq_left (by omega)]
   ·rw [if_neg (dF hx),if_neg (dF hx),Zz (by omega),Zz (by rw [hl];simp only [nN,maxLen];omega),List.nil_append]
  ·have:j=0:=by omega
   subst this
   rw [if_neg (by decide),if_neg (by decide),Zhr,Zbe,if_neg (by decide),if_neg (by decide),Zz (by omega)]
   exact Zz (by simp [maxLen])
theorem U1 {N:Nat} {a:List Int} (h:Zp a) (hn:a.length<N) (hb:a.length≤1099511627776):Vs N a=some (Ze (Zb a)):=by
 rw [Vs,Zyb N a hb N a.length (Nat.le_refl _),List.take_length]
 exact Znz N N a h hn (by omega)
theorem Zyd {N:Nat} {u:Int} (h:0≤u∧u<18446744073709551616) (hn:2<N):Zhs N u=some (Ze u.toNat):=by
 have e1:u32.wrap (Int.tmod u 4294967296)=u % 4294967296:=by rw [Int.tmod_eq_emod_of_nonneg h.1,V6 (by omega)]
 have e2:u32.wrap (u64.wrap (Int.tdiv u 4294967296))=u / 4294967296:=by rw [Int.tdiv_eq_ediv_of_nonneg h.1,Xj (by omega),V6 (by omega)]
 have hl:Zp [u % 4294967296,u / 4294967296]:=.cons (by omega) (.cons (by omega) .nil)
 have e:Zb [u % 4294967296,u / 4294967296]=u.toNat:=by rw [Wg,Wg,Yk];omega
 rw [Zhs,e1,e2,U1 hl (by simpa using hn) (by simp),oB,e]
theorem Zdw {a:List Int} (h:Zp a) (k:Nat):Qo a (k:Int)=some ((Xy a k:Nat):Int):=by
 rw [Qo]
 by_cases hk:k<a.length
 ·have:=h.get hk
  rw [if_pos (dT (by omega)),Zy hk,oB,Xj (by omega),Xy,List.getD_eq_getElem?_getD,List.getElem?_eq_getElem hk,Option.getD_some]
  congr 1;omega
 ·rw [if_neg (dF (by omega)),Xy,List.getD_eq_getElem?_getD,List.getElem?_eq_none (by omega)];rfl
theorem Zna {a:List Int} (h:Zp a) (k:Nat):Zb (a.take k)<4294967296 ^ k:=by
 have h1:=Sw (h.take k)
 refine Nat.lt_of_lt_of_le h1 (Nat.pow_le_pow_right (by decide) ?_)
 rw [nK];omega
theorem Zp8 (N:Nat) (a b:List Int) (ha:Zp a) (hb:Zp b):∀ (n i:Nat),i<4611686018427387904→i<n→Zb (a.drop i)=Zb (b.drop i)→Zeq N a b n ((i:Int) - 1)=some (if Zb a<Zb b then -1 else if Zb b<Zb a then 1 else 0)
 | 0,i,_,h,_=>by omega
 | n+1,i,hi,hn,he=>by
  rw [Zeq.eq_2]
  by_cases h0:i=0
  ·subst h0
   rw [if_neg (by decide)]
   rw [List.drop_zero,List.drop_zero] at he
   rw [if_neg (by omega),if_neg (by omega)]
  ·have e:(i:Int) - 1=((i - 1:Nat):Int):=by omega
   have e1:i - 1+1=i:=by omega
   rw [if_pos (dT (by omega)),e,Zdw ha,Zdw hb,oB,oB]
   have va:=U7 a (i - 1)
   have vb:=U7 b (i - 1)
   rw [Uz a,e1] at va
   rw [Uz b,e1,← he] at vb
   have la:=Zna ha (i - 1)
   have lb:=Zna hb (i - 1)
   have key:∀ x y:Nat,x<y→4294967296 ^ (i - 1) * (x+4294967296 * Zb (a.drop i))+4294967296 ^ (i - 1)≤4294967296 ^ (i - 1) * (y+4294967296 * Zb (a.drop i)):=fun x y hxy=>by
    rw [← Nat.mul_succ];exact Nat.mul_le_mul_left _ (by omega)
   generalize 4294967296 ^ (i - 1)=Q at *
   by_cases hlt:Xy a (i - 1)<Xy b (i - 1)
   ·have:=key _ _ hlt
    rw [if_pos (dT (by omega)),if_pos (by omega)]
   ·rw [if_neg (dF (by omega))]
    by_cases hgt:Xy b (i - 1)<Xy a (i - 1)
    ·have:=key _ _ hgt
     rw [if_pos (dT (by omega)),if_neg (by omega),if_pos (by omega)]
    ·rw [if_neg (dF (by omega)),Zr (by omega)]
     exact Zp8 N a b ha hb n (i - 1) (by omega) (by omega) (by rw [Uz a,Uz b,e1,he];omega)
theorem Zp9 {N:Nat} {a b:List Int} (ha:Zp a) (hb:Zp b) (h1:a.length<N) (h2:b.length<N) (h3:a.length≤1099511627776) (h4:b.length≤1099511627776):
  Zep N a b=some (if Zb a<Zb b then -1 else if Zb b<Zb a then 1 else 0):=by
 have dz:∀ (l:List Int) (k:Nat),l.length≤k→Zb (l.drop k)=0:=fun l k h=>by rw [List.drop_eq_nil_of_le h];rfl
 rw [Zep]
 by_cases h:a.length<b.length
 ·rw [if_pos (dT (by omega)),Zhm,Zr (by omega)]
  exact Zp8 N a b ha hb N b.length (by omega) h2 (by rw [dz a _ (by omega),dz b _ (by omega)])
 ·rw [if_neg (dF (by omega)),Zhm,Zr (by omega)]
  exact Zp8 N a b ha hb N a.length (by omega) h1 (by rw [dz a _ (by omega),dz b _ (by omega)])
theorem Zqq {s:Int} (h:0≤s∧s<18446744073709551616):u32.wrap (Int.tmod s 4294967296)=((s.toNat % 4294967296:Nat):Int):=by
 rw [Int.tmod_eq_emod_of_nonneg h.1,V6 (by omega)];omega
theorem Zqp {s:Int} (h:0≤s∧s<18446744073709551616):u64.wrap (Int.tdiv s 4294967296)=((s.toNat / 4294967296:Nat):Int):=by
 rw [Int.tdiv_eq_ediv_of_nonneg h.1,Xj (by omega)];omega
theorem Zpr {S Q A B C:Nat} (h:A=B+4294967296 * C):S+Q * B+Q * 4294967296 * C=S+Q * A:=by
 subst h;grind
theorem Zw7 (N:Nat) (a b:List Int) (ha:Zp a) (hb:Zp b) (hN:a.length+b.length+2<N) (hs:a.length+b.length<1099511627000):∀ (n i:Nat) (out:List Int) (c:Nat),out.length=i→Zp out→c≤1→i≤a.length+b.length+2→(i≤a.length+b.length+1∨c=0)→a.length+b.length+3≤n+i→
  So N a b n out (c:Int) (i:Int)=some (Ze (Zb out+4294967296 ^ i * (c+Zb (a.drop i)+Zb (b.drop i))))
 | 0,i,out,c,_,_,_,h1,_,h2=>by omega
 | n+1,i,out,c,ho,hO,hc,h1,h2,h3=>by
  have go:(i<a.length∨i<b.length∨0<c)→Zj1 a b out (c:Int) (i:Int) (So N a b n)=some (Ze (Zb out+4294967296 ^ i * (c+Zb (a.drop i)+Zb (b.drop i)))):=fun hgo=>by
   have la:=Zdv ha i
   have lb:=Zdv hb i
   have es:u64.wrap (u64.wrap ((c:Int)+((Xy a i:Nat):Int))+((Xy b i:Nat):Int))=((c+Xy a i+Xy b i:Nat):Int):=by
    rw [Xj (x:=(c:Int)+_) (by omega),Xj (by omega)];omega
   rw [Zj1,Zdw ha,Zdw hb,oB,oB,es,Zqq (by omega),Zqp (by omega),Int.toNat_natCast]
   generalize hsum:c+Xy a i+Xy b i=s
   rw [Zz (by simp only [List.length_singleton,maxLen];omega),Zr (by omega)]
   have ih:=Zw7 N a b ha hb hN hs n (i+1) (out++[((s % 4294967296:Nat):Int)]) (s / 4294967296) (by simp [ho]) (hO.app (.cons (by omega) .nil)) (by omega) (by omega) (by
    by_cases hi:i<a.length∨i<b.length
    ·omega
    ·right
     have za:Xy a i=0:=by rw [Xy,List.getD_eq_getElem?_getD,List.getElem?_eq_none (by omega)];rfl
     have zb:Xy b i=0:=by rw [Xy,List.getD_eq_getElem?_getD,List.getElem?_eq_none (by omega)];rfl
     omega) (by omega)
   rw [show ((i+1:Nat):Int)=(i:Int)+1 by omega] at ih
   rw [ih,Sv,ho,Wg,Yk,Int.toNat_natCast,Uz a i,Uz b i,Nat.pow_succ]
   congr 2
   rw [Nat.mul_zero,Nat.add_zero]
   refine Zpr ?_
   omega
  rw [So.eq_2]
  by_cases hia:i<a.length
  ·rw [if_pos (dT (by omega)),Zcr,if_pos rfl];exact go (.inl hia)
  ·rw [if_neg (dF (by omega))]
   by_cases hib:i<b.length
   ·rw [if_pos (dT (by omega)),Zcr,if_pos rfl];exact go (.inr (.inl hib))
   ·rw [if_neg (dF (by omega)),Zcr]
    by_cases hcp:0<c
    ·rw [if_pos (dT (by omega))];exact go (.inr (.inr hcp))
    ·have:c=0:=by omega
     subst this
     rw [if_neg (by decide),U1 hO (by omega) (by omega),oB,List.drop_eq_nil_of_le (by omega),List.drop_eq_nil_of_le (by omega),Yk]
     simp
theorem Zw8 {N:Nat} {a b:List Int} (ha:Zp a) (hb:Zp b) (hN:a.length+b.length+3<N) (hs:a.length+b.length<1099511627000):Zhl N a b=some (Ze (Zb a+Zb b)):=by
 have:=Zw7 N a b ha hb (by omega) hs N 0 [] 0 rfl .nil (by omega) (by omega) (by omega) (by omega)
 rw [List.drop_zero,List.drop_zero,Yk,Nat.pow_zero] at this
 rw [Zhl,show (0:Int)=((0:Nat):Int) from rfl,this]
 simp
theorem Zym (N:Nat) (a b:List Int) (ha:Zp a) (hb:Zp b) (hN:a.length<N) (hs:a.length<1099511627776):∀ (n i:Nat) (out:List Int) (c:Nat),out.length=i→Zp out→c≤1→i≤a.length→a.length<n+i→c+Zb (b.drop i)≤Zb (a.drop i)→
  Qn N a b n out (c:Int) (i:Int)=some (Ze (Zb out+4294967296 ^ i * (Zb (a.drop i) - (c+Zb (b.drop i)))),true)
 | 0,i,out,c,_,_,_,h1,h2,_=>by omega
 | n+1,i,out,c,ho,hO,hc,h1,h2,h3=>by
  rw [Qn.eq_2]
  by_cases hi:i<a.length
  ·have la:=Zdv ha i
   have lb:=Zdv hb i
   rw [Uz a i,Uz b i] at h3
   have go:∀ (c':Nat) (x:Int),c'≤1→x=((Xy a i+4294967296 * c':Nat):Int)→Xy b i+c≤Xy a i+4294967296 * c'→Xy a i+4294967296 * c'<Xy b i+c+4294967296→Zhu out (c:Int) (i:Int) (Qn N a b n) ((Xy b i:Nat):Int) (c':Int) x=some (Ze (Zb out+4294967296 ^ i * (Zb (a.drop i) - (c+Zb (b.drop i)))),true):=fun c' x hc' hx h5 h6=>by
    have ev:u32.wrap (u64.wrap (x - u64.wrap (((Xy b i:Nat):Int)+(c:Int))))=((Xy a i+4294967296 * c' - (Xy b i+c):Nat):Int):=by
     rw [Xj (x:=((Xy b i:Nat):Int)+(c:Int)) (by omega),Xj (by omega),V6 (by omega)];omega
    rw [Zhu,ev,Zz (by simp only [List.length_singleton,maxLen];omega),Zmn,Zr (by omega)]
    generalize hv:Xy a i+4294967296 * c' - (Xy b i+c)=v
    have ih:=Zym N a b ha hb hN hs n (i+1) (out++[(v:Int)]) c' (by simp [ho]) (hO.app (.cons (by omega) .nil)) hc' (by omega) (by omega) (by omega)
    rw [show ((i+1:Nat):Int)=(i:Int)+1 by omega] at ih
    rw [ih,Sv,ho,Wg,Yk,Int.toNat_natCast,Uz a i,Uz b i,Nat.pow_succ,Nat.mul_zero,Nat.add_zero]
    congr 3
    refine Zpr ?_
    omega
   rw [if_pos (dT (by omega)),Zdw ha,Zdw hb,oB,oB,Xj (x:=((Xy b i:Nat):Int)+(c:Int)) (by omega)]
   by_cases hlt:Xy a i<Xy b i+c
   ·rw [if_pos (dT (by omega))]
    exact go 1 _ (by omega) (by rw [Xj (by omega)];omega) (by omega) (by omega)
   ·rw [if_neg (dF (by omega))]
    exact go 0 _ (by omega) (by omega) (by omega) (by omega)
  ·rw [if_neg (dF (by omega)),U1 hO (by omega) (by omega),oB]
   rw [List.drop_eq_nil_of_le (show a.length≤i by omega),Yk] at h3 ⊢
   rw [show 0 - (c+Zb (b.drop i))=0 by omega]
   simp
theorem Zk2 {N:Nat} {a b:List Int} (ha:Zp a) (hb:Zp b) (h1:a.length<N) (h2:b.length<N) (h3:a.length<1099511627776) (h4:b.length<1099511627776):
  Zct N a b=some (if Zb a<Zb b then ([],false) else (Ze (Zb a - Zb b),true)):=by
 rw [Zct,Zp9 ha hb h1 h2 (by omega) (by omega),oB]
 by_cases h:Zb a<Zb b
 ·rw [if_pos h,if_pos (by decide),if_pos h]
 ·have:=Zym N a b ha hb h1 h3 N 0 [] 0 rfl .nil (by omega) (by omega) (by omega) (by simpa using Nat.le_of_not_lt h)
  rw [if_neg h,if_neg (by split <;> decide),if_neg h,show (0:Int)=((0:Nat):Int) from rfl,this]
  simp [Yk]
theorem Zx6 (N:Nat) (a b:List Int) (ha:Zp a) (hb:Zp b) (i:Nat) (hi:i<a.length) (kk:List Int→Int→Option R2):∀ (n j:Nat) (p:List Int) (c:Nat),j≤b.length→b.length<n+j→i+b.length<p.length→p.length<4611686018427387904→Zp p→c<4294967296→Zb (p.drop (i+b.length))=0→
  ∃ p',Zet N a b (i:Int) kk n (j:Int) p (c:Int)=kk p' ((i:Int)+1)∧p'.length=p.length∧Zp p'∧Zb p'=Zb p+4294967296 ^ (i+j) * (c+Xy a i * Zb (b.drop j))∧Zb (p'.drop (i+b.length+1))=0
 | 0,j,p,c,h1,h2,_,_,_,_,_=>by omega
 | n+1,j,p,c,h1,h2,hp,hs,hL,hc,hz=>by
  rw [Zet.eq_2]
  by_cases hj:j<b.length
  ·have hij:i+j<p.length:=by omega
   have gp:=hL.get hij
   have ga:=ha.get hi
   have gb:=hb.get hj
   have ea:Xy a i=(a[i]).toNat:=by rw [Xy,List.getD_eq_getElem?_getD,List.getElem?_eq_getElem hi,Option.getD_some]
   have hm:a[i] * b[j]≤4294967295 * 4294967295:=Int.mul_le_mul (by omega) (by omega) (by omega) (by omega)
   have hm0:0≤a[i] * b[j]:=Int.mul_nonneg ga.1 gb.1
   have em:(((a[i]).toNat * (b[j]).toNat:Nat):Int)=a[i] * b[j]:=by rw [Int.natCast_mul,Int.toNat_of_nonneg ga.1,Int.toNat_of_nonneg gb.1]
   have es:u64.wrap (u64.wrap ((c:Int)+u64.wrap (u64.wrap a[i] * u64.wrap b[j]))+u64.wrap p[i+j])=((c+((a[i]).toNat * (b[j]).toNat+(p[i+j]).toNat):Nat):Int):=by
    rw [Xj (x:=a[i]) (by omega),Xj (x:=b[j]) (by omega),Xj (x:=a[i] * b[j]) (by omega),Xj (x:=p[i+j]) (by omega),Xj (x:=(c:Int)+_) (by omega),Xj (by omega)]
    omega
   rw [if_pos (dT (by omega)),Zy hi,oB,Zy hj,oB,Zr (x:=(i:Int)+(j:Int)) (by omega),show (i:Int)+(j:Int)=((i+j:Nat):Int) by omega,Zy hij,oB,oB,Int.toNat_natCast,es]
   have hsb:c+((a[i]).toNat * (b[j]).toNat+(p[i+j]).toNat)<18446744073709551616:=by omega
   rw [Zqq (by omega),Zqp (by omega),Int.toNat_natCast,Zr (x:=(j:Int)+1) (by omega),show (j:Int)+1=((j+1:Nat):Int) by omega]
   generalize hS:c+((a[i]).toNat * (b[j]).toNat+(p[i+j]).toNat)=S at *
   obtain ⟨p',q1,q2,q3,q4,q5⟩:=Zx6 N a b ha hb i hi kk n (j+1) (p.set (i+j) ((S % 4294967296:Nat):Int)) (S / 4294967296) (by omega) (by omega) (by rw [nS];exact hp) (by rw [nS];exact hs) (hL.set _ (by omega)) (by omega) (by rw [Qa _ (by omega)];exact hz)
   refine ⟨p',q1,by rw [q2,nS],q3,?_,q5⟩
   rw [q4,← Nat.add_assoc i j 1,Nat.pow_succ,Ud hj,ea]
   exact Zvd _ _ _ _ _ _ (p[i+j]).toNat (S % 4294967296) _ _ (by have:=U6 hij ((S % 4294967296:Nat):Int);rw [Int.toNat_natCast] at this;exact this) (by omega)
  ·have:j=b.length:=by omega
   subst this
   have hz':=drop_zero hL hp hz
   rw [if_neg (dF (by omega)),Zr (x:=(i:Int)+(b.length:Int)) (by omega),show (i:Int)+(b.length:Int)=((i+b.length:Nat):Int) by omega,Zy hp,oB,oB,Int.toNat_natCast,V6 (by omega),Zr (by omega)]
   refine ⟨_,rfl,by rw [nS],hL.set _ (by omega),?_,?_⟩
   ·have h1:=U6 hp (c:Int)
    rw [hz'.1,Int.toNat_natCast] at h1
    rw [List.drop_length,Yk,Nat.mul_zero,Nat.add_zero]
    simpa using h1
   ·rw [Qa _ (by omega)];exact hz'.2
theorem Zx5 (N:Nat) (a b:List Int) (ha:Zp a) (hb:Zp b) (hN:a.length+b.length<N) (hs:a.length+b.length<1099511627776):∀ (n i:Nat) (p:List Int),i≤a.length→a.length<n+i→p.length=a.length+b.length→Zp p→Zb (p.drop (i+b.length))=0→
  Zbi N a b n p (i:Int)=some (Ze (Zb p+4294967296 ^ i * (Zb (a.drop i) * Zb b)))
 | 0,i,p,h1,h2,_,_,_=>by omega
 | n+1,i,p,h1,h2,hp,hL,hz=>by
  rw [Zbi.eq_2]
  by_cases hi:i<a.length
  ·obtain ⟨p',q1,q2,q3,q4,q5⟩:=Zx6 N a b ha hb i hi (Zbi N a b n) N 0 p 0 (by omega) (by omega) (by omega) (by omega) hL (by omega) hz
   rw [show ((0:Nat):Int)=0 from rfl] at q1
   have ih:=Zx5 N a b ha hb hN hs n (i+1) p' (by omega) (by omega) (by omega) q3 (by rw [show i+1+b.length=i+b.length+1 by omega];exact q5)
   rw [show ((i+1:Nat):Int)=(i:Int)+1 by omega] at ih
   rw [if_pos (dT (by omega)),q1,ih,q4,Uz a i,Nat.pow_succ,List.drop_zero]
   congr 2
   simp only [Nat.add_zero,Nat.zero_add]
   grind
  ·rw [if_neg (dF (by omega)),U1 hL (by omega) (by omega),oB,List.drop_eq_nil_of_le (by omega),Yk];simp
theorem Zx7 {N:Nat} {a b:List Int} (ha:Zp a) (hb:Zp b) (h1:a.length+b.length<N) (h3:a.length+b.length<1099511627776):Zcs N a b=some (Ze (Zb a * Zb b)):=by
 have la:=Yc ha
 have lb:=Yc hb
 rw [Zcs,U1 ha (by omega) (by omega),oB,U1 hb (by omega) (by omega),oB,Zr (by omega),Zz (by simp only [maxLen];omega)]
 have:=Zx5 N (Ze (Zb a)) (Ze (Zb b)) (Z8 _) (Z8 _) (by omega) (by omega) N 0 (List.replicate (Int.toNat (((Ze (Zb a)).length:Int)+((Ze (Zb b)).length:Int))) 0) (by omega) (by omega) (by rw [List.length_replicate];omega) (.zeros _) (by rw [List.drop_replicate];exact Tm _)
 rw [show ((0:Nat):Int)=0 from rfl] at this
 rw [this,Tm,List.drop_zero,Z9,Z9]
 simp
theorem Zxb (N:Nat):∀ (n:Nat) (c:Int) (t:Nat),Xi t<n→t<4294967296→0≤c∧c+(Xi t:Int)≤4611686018427387904→Zeo N n c (t:Int)=some (c+(Xi t:Int))
 | 0,c,t,h,_,_=>by omega
 | n+1,c,t,h,ht,hc=>by
  rw [Zeo.eq_2]
  have hb:Xi t≤32:=V2.2 (by omega)
  by_cases h0:0<t
  ·have e:u32.wrap (Int.tdiv (t:Int) 2)=((t / 2:Nat):Int):=by rw [Int.tdiv_eq_ediv_of_nonneg (by omega),V6 (by omega)];omega
   have hs:=Zja t 1
   rw [Nat.pow_one] at hs
   have h1:1≤Xi t:=by rw [Xi,if_neg (by omega)];omega
   rw [if_pos (dT (by omega)),e,Zr (by omega),Zxb N n (c+1) (t / 2) (by omega) (by omega) (by omega)]
   congr 1;omega
  ·have:t=0:=by omega
   subst this
   rw [if_neg (by decide),Zgd];simp
theorem Z55 {N:Nat} {a:List Int} (h:Zp a) (hn:a.length+32<N) (hb:a.length≤1099511627776):Zj3 N a=some ((Xi (Zb a):Nat):Int):=by
 have hl:=Yc h
 rw [Zj3,U1 h (by omega) hb,oB]
 by_cases h0:(Ze (Zb a)).length=0
 ·have:Zb a=0:=Zgl.1 (List.eq_nil_of_length_eq_zero h0)
  rw [if_pos (dT (by omega)),this,Zgd];rfl
 ·have hp:0<(Ze (Zb a)).length:=by omega
  have e:((Ze (Zb a)).length:Int) - 1=(((Ze (Zb a)).length - 1:Nat):Int):=by omega
  have hx:=(Z8 (Zb a)).get (k:=(Ze (Zb a)).length - 1) (by omega)
  have hne:=Zl9 hp
  have hs:=Zgk hp
  have e2:(Ze (Zb a))[(Ze (Zb a)).length - 1]=(((Ze (Zb a))[(Ze (Zb a)).length - 1]).toNat:Int):=by omega
  have hb2:Xi ((Ze (Zb a))[(Ze (Zb a)).length - 1]).toNat≤32:=V2.2 (by omega)
  rw [if_neg (dF (by omega)),Zr (by omega),e,Zy (by omega),oB,e2,Zr (by omega),Zxb N N _ _ (by omega) (by omega) (by omega)]
  have hb:=Zq2 (a:=(Ze (Zb a)).take ((Ze (Zb a)).length - 1)) (x:=(Ze (Zb a))[(Ze (Zb a)).length - 1]) ((Z8 _).take _) (by omega)
  rw [hs,Z9,nK,Nat.min_eq_left (by omega)] at hb
  rw [hb]
  congr 1
theorem Zz1 (T l R k s:Nat) (hT:T<4294967296 ^ k) (hs:s<32):(T+4294967296 ^ k * (l+4294967296 * R)) / 2 ^ (32 * k+s) % 2=l / 2 ^ s % 2:=by
 have e:(4294967296:Nat) ^ k=2 ^ (32 * k):=by rw [show (4294967296:Nat)=2 ^ 32 by decide,← Nat.pow_mul]
 have hp:0<4294967296 ^ k:=Nat.pow_pos (by decide)
 rw [Nat.pow_add,← e,← Nat.div_div_eq_div_mul,Nat.add_mul_div_left _ _ hp,Nat.div_eq_of_lt hT,Nat.zero_add]
 have pw:(4294967296:Nat)=2 ^ s * (2 * 2 ^ (31 - s)):=by
  rw [Nat.mul_left_comm,← Nat.pow_add,show s+(31 - s)=31 by omega]
 have e2:l+4294967296 * R=l+2 ^ s * (2 * (2 ^ (31 - s) * R)):=by
  conv=>lhs;rw [pw]
  rw [Nat.mul_assoc,Nat.mul_assoc]
 rw [e2,Nat.add_mul_div_left _ _ (Nat.two_pow_pos s),Nat.add_mul_mod_self_left]
theorem Z54 {a:List Int} (h:Zp a) {i:Nat} (hi:i<4611686018427387904):Zj2 a (i:Int)=some ((Zb a / 2 ^ i % 2:Nat):Int):=by
 have hl:=Zdv h (i / 32)
 have e1:i64.wrap (Int.tdiv (i:Int) 32)=((i / 32:Nat):Int):=by rw [Int.tdiv_eq_ediv_of_nonneg (by omega),Zr (by omega)];omega
 have e2:Int.tmod (i:Int) 32=((i % 32:Nat):Int):=by rw [Int.tmod_eq_emod_of_nonneg (by omega)];omega
 rw [Zj2,e1,Zdw h,oB,e2,Zz (by omega),Znw _ _ _ (by simp only [IntKind.bits];omega)]
 have hd:=Nat.div_le_self (Xy a (i / 32)) (2 ^ (i % 32))
 have e3:=Zz1 (Zb (a.take (i / 32))) (Xy a (i / 32)) (Zb (a.drop (i / 32+1))) (i / 32) (i % 32) (Zna h _) (by omega)
 rw [← Uz a,← U7,show 32 * (i / 32)+i % 32=i by omega] at e3
 rw [e3]
 generalize Xy a (i / 32) / 2 ^ (i % 32)=x at *
 rw [V6 (by omega),Int.tmod_eq_emod_of_nonneg (by omega)]
 congr 1
theorem Zxk (N:Nat) (a:List Int) (ha:Zp a) (hs:a.length<1099511627776):∀ (n i:Nat) (out:List Int) (c:Nat),out.length=i→Zp out→c≤1→i≤a.length→a.length<n+i→
  ∃ o,Zev N a n out (c:Int) (i:Int)=some o∧o.length≤a.length+1∧Zp o∧Zb o=Zb out+4294967296 ^ i * (c+2 * Zb (a.drop i))
 | 0,i,out,c,_,_,_,h1,h2=>by omega
 | n+1,i,out,c,ho,hO,hc,h1,h2=>by
  rw [Zev.eq_2]
  by_cases hi:i<a.length
  ·have ga:=ha.get hi
   have es:u64.wrap ((c:Int)+u64.wrap (2 * u64.wrap a[i]))=((c+2 * (a[i]).toNat:Nat):Int):=by
    rw [Xj (x:=a[i]) (by omega),Xj (x:=2 * _) (by omega),Xj (by omega)];omega
   rw [if_pos (dT (by omega)),Zy hi,oB,es,Zqq (by omega),Zqp (by omega),Int.toNat_natCast]
   generalize hS:c+2 * (a[i]).toNat=S
   rw [Zz (by simp only [List.length_singleton,maxLen];omega),Zr (by omega)]
   obtain ⟨o,q1,q2,q3,q4⟩:=Zxk N a ha hs n (i+1) (out++[((S % 4294967296:Nat):Int)]) (S / 4294967296) (by simp [ho]) (hO.app (.cons (by omega) .nil)) (by omega) (by omega) (by omega)
   rw [show ((i+1:Nat):Int)=(i:Int)+1 by omega] at q1
   refine ⟨o,q1,q2,q3,?_⟩
   rw [q4,Sv,ho,Wg,Yk,Int.toNat_natCast,Ud hi,Nat.pow_succ,Nat.mul_zero,Nat.add_zero]
   refine Zpr ?_
   omega
  ·have hia:i=a.length:=by omega
   rw [if_neg (dF (by omega))]
   by_cases hcp:0<c
   ·rw [if_pos (dT (by omega)),Zz (by simp only [List.length_singleton,maxLen];omega),Zhw,V6 (by omega)]
    refine ⟨_,rfl,by simp;omega,hO.app (.cons (by omega) .nil),?_⟩
    rw [Sv,ho,Wg,Yk,Int.toNat_natCast,List.drop_eq_nil_of_le (by omega),Yk]
   ·have:c=0:=by omega
    subst this
    rw [if_neg (by decide),Zhw]
    refine ⟨_,rfl,by omega,hO,?_⟩
    rw [List.drop_eq_nil_of_le (by omega),Yk];simp
theorem Zxl {N:Nat} {a:List Int} {c:Nat} (ha:Zp a) (hc:c≤1) (hN:a.length<N) (hs:a.length<1099511627776):∃ o,Zhv N a (c:Int)=some o∧o.length≤a.length+1∧Zp o∧Zb o=2 * Zb a+c:=by
 obtain ⟨o,q1,q2,q3,q4⟩:=Zxk N a ha hs N 0 [] c rfl .nil hc (by omega) (by omega)
 refine ⟨o,?_,q2,q3,?_⟩
 ·rw [Zhv,Xj (by omega)];exact q1
 ·rw [q4,Yk,Nat.pow_zero,List.drop_zero];omega
theorem Z32 (Q e o2 r S v L:Nat) (h:r * 4294967296+e=2 * v+o2) (hS:S=Q * (o2+2 * (v+4294967296 * L))):S=Q * e+Q * 4294967296 * (r+2 * L):=by
 subst hS
 have:Q * (r * 4294967296+e)=Q * (2 * v+o2):=by rw [h]
 grind
theorem Zx3 (N:Nat) (a:List Int) (ha:Zp a) (hN:a.length<N) (hs:a.length<1099511627776):∀ (n j:Nat) (out:List Int) (r:Nat),out.length=a.length→Zp out→r≤1→j≤a.length→j<n→Zb (out.take j)=0→
  ∃ v,Zew N a n out (r:Int) ((j:Int) - 1)=some (Ze v)∧∃ ρ,ρ≤1∧2 * v+ρ=Zb (a.take j)+4294967296 ^ j * (r+2 * Zb (out.drop j))
 | 0,j,out,r,_,_,_,_,h,_=>by omega
 | n+1,j,out,r,ho,hO,hr,hj,hn,hz=>by
  rw [Zew.eq_2]
  by_cases h0:j=0
  ·subst h0
   rw [if_neg (by decide),U1 hO (by omega) (by omega),oB]
   refine ⟨_,rfl,r,hr,?_⟩
   rw [List.take_zero,Yk,List.drop_zero,Nat.pow_zero];omega
  ·have e:(j:Int) - 1=((j - 1:Nat):Int):=by omega
   have e1:j - 1+1=j:=by omega
   have hk:j - 1<a.length:=by omega
   have g:=ha.get hk
   have es:u64.wrap (u64.wrap ((r:Int) * 4294967296)+u64.wrap a[j - 1])=((r * 4294967296+(a[j - 1]).toNat:Nat):Int):=by
    rw [Xj (x:=a[j - 1]) (by omega),Xj (x:=(r:Int) * 4294967296) (by omega),Xj (by omega)];omega
   rw [if_pos (dT (by omega)),e,Zy hk,oB,Zy (by omega),oB,oB,Int.toNat_natCast,es,Zr (by omega)]
   generalize hS:r * 4294967296+(a[j - 1]).toNat=S
   have e2:u32.wrap (u64.wrap (Int.tdiv (S:Int) 2))=((S / 2:Nat):Int):=by rw [Int.tdiv_eq_ediv_of_nonneg (by omega),Xj (by omega),V6 (by omega)];omega
   have e3:Int.tmod (S:Int) 2=((S % 2:Nat):Int):=by rw [Int.tmod_eq_emod_of_nonneg (by omega)];omega
   have zt:Zb (out.take (j - 1))=0:=by
    have:=U7 (out.take j) (j - 1)
    rw [List.take_take,Nat.min_eq_left (by omega),hz] at this
    omega
   rw [e2,e3]
   obtain ⟨v,q1,ρ,q2,q3⟩:=Zx3 N a ha hN hs n (j - 1) (out.set (j - 1) ((S / 2:Nat):Int)) (S % 2) (by rw [nS];exact ho) (hO.set _ (by omega)) (by omega) (by omega) (by omega) (by rw [Zdj _ (Nat.le_refl _)];exact zt)
   refine ⟨v,q1,ρ,q2,?_⟩
   rw [q3]
   have t1:=Zpp hk
   have t2:Zb ((out.set (j - 1) ((S / 2:Nat):Int)).drop (j - 1))=S / 2+4294967296 * Zb (out.drop (j - 1+1)):=by
    rw [Ud (by rw [nS];omega),List.getElem_set_self,Qa _ (by omega),Int.toNat_natCast]
   rw [e1] at t1 t2
   have hp:(4294967296:Nat) ^ j=4294967296 ^ (j - 1) * 4294967296:=by rw [← Nat.pow_succ,show (j - 1).succ=j by omega]
   rw [t1,t2,hp,Nat.add_assoc]
   congr 1
   exact Z32 _ _ (S % 2) _ _ (S / 2) _ (by omega) rfl
theorem Znt {N:Nat} {a:List Int} (ha:Zp a) (hN:a.length<N) (hs:a.length<1099511627776):Zcv N a=some (Ze (Zb a / 2)):=by
 obtain ⟨v,q1,ρ,q2,q3⟩:=Zx3 N a ha hN hs N a.length (List.replicate a.length 0) 0 (by rw [List.length_replicate]) (.zeros _) (by omega) (Nat.le_refl _) hN (by rw [List.take_replicate];exact Tm _)
 rw [Zcv,Zz (by simp only [maxLen];omega),Zr (by omega)]
 rw [List.take_length,List.drop_replicate,Tm] at q3
 refine Eq.trans q1 ?_
 rw [show v=Zb a / 2 by omega]
theorem Z49 {a:List Int} (h:Zp a):Zb a % 2=Xy a 0 % 2:=by
 have:=Uz a 0
 rw [List.drop_zero] at this
 omega
theorem Zns {a:List Int} (h:Zp a):Zcu a=some (decide (Zb a % 2=0)):=by
 rw [Zcu,Z49 h]
 by_cases h0:a.length=0
 ·have:a=[]:=List.eq_nil_of_length_eq_zero h0
  subst this
  rfl
 ·have g:=h.get (k:=0) (by omega)
  have ea:Xy a 0=(a[0]).toNat:=by rw [Xy,List.getD_eq_getElem?_getD,List.getElem?_eq_getElem (by omega),Option.getD_some]
  rw [if_neg (dF (by omega)),show (0:Int)=((0:Nat):Int) from rfl,Zy (by omega),oB,Zj6,Int.tmod_eq_emod_of_nonneg (by omega),ea]
  congr 1
  exact decide_eq_decide.2 (by omega)
theorem Z5h {q:List Int} (hq:Zp q) {i:Nat} (hi:i<32 * q.length) (hd:2 ^ (i+1) ∣ Zb q):
  ∃ x:Nat,Zj q ((i / 32:Nat):Int)=some (x:Int)∧u32.wrap ((x:Int)+X6 .u32 1 ((i % 32:Nat):Int))=((x+2 ^ (i % 32):Nat):Int)∧x+2 ^ (i % 32)<4294967296∧Zb (q.set (i / 32) ((x+2 ^ (i % 32):Nat):Int))=Zb q+2 ^ i:=by
 have hk:i / 32<q.length:=by omega
 have g:=hq.get hk
 have hs:i % 32<32:=Nat.mod_lt _ (by decide)
 have hp:=Nat.two_pow_pos (i % 32)
 have e32:(4294967296:Nat) ^ (i / 32)=2 ^ (32 * (i / 32)):=by rw [show (4294967296:Nat)=2 ^ 32 by decide,← Nat.pow_mul]
 have eb:(4294967296:Nat)=2 ^ (i % 32+1) * 2 ^ (31 - i % 32):=by rw [← Nat.pow_add,show i % 32+1+(31 - i % 32)=32 by omega]
 have pi:(2:Nat) ^ (i+1)=4294967296 ^ (i / 32) * 2 ^ (i % 32+1):=by rw [e32,← Nat.pow_add];congr 1;omega
 have pi0:(2:Nat) ^ i=4294967296 ^ (i / 32) * 2 ^ (i % 32):=by rw [e32,← Nat.pow_add];congr 1;omega
 have sp:=U7 q (i / 32)
 rw [Ud hk] at sp
 have tl:=Zna hq (i / 32)
 have hQ:0<4294967296 ^ (i / 32):=Nat.pow_pos (by decide)
 rw [pi] at hd
 -- the limb's lower bits are none
 have hx:2 ^ (i % 32+1) ∣ (q[i / 32]).toNat:=by
  have d1:4294967296 ^ (i / 32) ∣ Zb q:=Nat.dvd_trans ⟨_,rfl⟩ hd
  have d2:4294967296 ^ (i / 32) ∣ Zb (q.take (i / 32)):=by
   rw [sp] at d1
   exact (Nat.dvd_add_left ⟨_,rfl⟩).1 d1
  have z:Zb (q.take (i / 32))=0:=Nat.eq_zero_of_dvd_of_lt d2 tl
  rw [z,Nat.zero_add] at sp
  rw [sp] at hd
  have d3:=Nat.dvd_of_mul_dvd_mul_left hQ hd
  have d4:2 ^ (i % 32+1) ∣ 4294967296 * Zb (q.drop (i / 32+1)):=by
   conv=>rhs;rw [eb]
   exact ⟨2 ^ (31 - i % 32) * Zb (q.drop (i / 32+1)),by rw [Nat.mul_assoc]⟩
  exact (Nat.dvd_add_left d4).1 d3
 obtain ⟨y,hy⟩:=hx
 have hlt:(q[i / 32]).toNat+2 ^ (i % 32)<4294967296:=by
  have h1:2 ^ (i % 32+1) * y<2 ^ (i % 32+1) * 2 ^ (31 - i % 32):=by rw [← hy,← eb];omega
  have h2:=Nat.lt_of_mul_lt_mul_left h1
  have h3:=Nat.mul_le_mul_left (2 ^ (i % 32+1)) (show y+1≤2 ^ (31 - i % 32) from h2)
  rw [← eb,Nat.mul_add,← hy,Nat.pow_succ] at h3
  omega
 refine ⟨(q[i / 32]).toNat,by rw [Zy hk];congr 1;omega,?_,hlt,?_⟩
 ·rw [show (1:Int)=((1:Nat):Int) from rfl,Zqk hs (.inl rfl),Nat.one_mul,V6 (x:=((2 ^ (i % 32):Nat):Int)) (by omega),V6 (by omega)]
  omega
 ·have h1:=U6 hk (((q[i / 32]).toNat+2 ^ (i % 32):Nat):Int)
  rw [Int.toNat_natCast,Nat.mul_add,← pi0] at h1
  omega
theorem Zqb (N:Nat) (a y:List Int) (ha:Zp a) (hy:Zp y) (hy0:0<Zb y) (hly:y.length+8<N) (hs:y.length<549755813888) (hla:a.length<549755813888) (hyc:(Ze (Zb y)).length=y.length) (hNa:a.length+y.length+8<N):∀ (n j:Nat) (r q:List Int),j<n→j<4611686018427387904→j≤32 * q.length→q.length≤a.length→Zp q→r=Ze (Zb r)→Zb r<Zb y→2 ^ j ∣ Zb q→Zb a / 2 ^ j=Zb q / 2 ^ j * Zb y+Zb r→
  Zbg N a y n r ((j:Int) - 1) q=some (Ze (Zb a / Zb y),Ze (Zb a % Zb y),0)
 | 0,j,r,q,h,_,_,_,_,_,_,_,_=>by omega
 | n+1,j,r,q,hjn,hj,hjq,hqa,hq,hr,hlt,hd,he=>by
  rw [Zbg.eq_2]
  by_cases h0:j=0
  ·subst h0
   rw [Nat.pow_zero,Nat.div_one,Nat.div_one] at he
   rw [if_neg (by decide),U1 hq (by omega) (by omega),oB]
   have h1:Zb a / Zb y=Zb q:=by rw [he,Nat.mul_comm,Nat.mul_add_div hy0,Nat.div_eq_of_lt hlt,Nat.add_zero]
   have h2:Zb a % Zb y=Zb r:=by rw [he,Nat.mul_comm,Nat.mul_add_mod,Nat.mod_eq_of_lt hlt]
   rw [h1,h2,← hr]
  ·have e:(j:Int) - 1=((j - 1:Nat):Int):=by omega
   obtain ⟨i,rfl⟩:∃ i,j=i+1:=⟨j - 1,by omega⟩
   have ei:i+1 - 1=i:=by omega
   rw [e,ei]
   have hrl:r.length≤y.length:=by
    rw [hr,← hyc];exact W6 (Nat.le_of_lt hlt)
   have hlr:Zp r:=by rw [hr];exact Z8 _
   have hb:=Nat.mod_lt (Zb a / 2 ^ i) (show 0<2 by decide)
   obtain ⟨d,d1,d2,d3,d4⟩:=Zxl (N:=N) (a:=r) (c:=Zb a / 2 ^ i % 2) hlr (by omega) (by omega) (by omega)
   have h2:Zb a / 2 ^ i=2 * (Zb a / 2 ^ (i+1))+Zb a / 2 ^ i % 2:=by
    rw [Nat.pow_succ,← Nat.div_div_eq_div_mul];omega
   obtain ⟨qq,hqq⟩:=hd
   have hq1:Zb q / 2 ^ (i+1)=qq:=by rw [hqq,Nat.mul_div_cancel_left _ (Nat.two_pow_pos _)]
   have hq2:Zb q / 2 ^ i=2 * qq:=by rw [hqq,Nat.pow_succ,Nat.mul_assoc,Nat.mul_div_cancel_left _ (Nat.two_pow_pos _)]
   rw [hq1] at he
   rw [if_pos (dT (by omega)),Z54 ha (by omega),oB,d1,oB,U1 d3 (by omega) (by omega),oB,Zp9 (Z8 _) hy (by have:=Yc d3;omega) (by omega) (by have:=Yc d3;omega) (by omega),oB,Z9,d4]
   rw [he] at h2
   have hkey:Zb a / 2 ^ i=2 * qq * Zb y+(2 * Zb r+Zb a / 2 ^ i % 2):=by
    have:2 * qq * Zb y=2 * (qq * Zb y):=Nat.mul_assoc _ _ _
    omega
   generalize hbit:Zb a / 2 ^ i % 2=b at *
   by_cases hge:Zb y≤2 * Zb r+b
   ·rw [if_pos (by rw [if_neg (by omega)];split <;> decide)]
    obtain ⟨x,x1,x2,x3,x4⟩:=Z5h hq (i:=i) (by omega) ⟨qq,hqq⟩
    have e1:i64.wrap (Int.tdiv (i:Int) 32)=((i / 32:Nat):Int):=by rw [Int.tdiv_eq_ediv_of_nonneg (by omega),Zr (by omega)];omega
    have e2:Int.tmod (i:Int) 32=((i % 32:Nat):Int):=by rw [Int.tmod_eq_emod_of_nonneg (by omega)];omega
    have ll:(Ze (2 * Zb r+b)).length≤y.length+1:=by rw [← d4];exact Nat.le_trans (Yc d3) (by omega)
    rw [Zk2 (Z8 _) hy (by omega) (by omega) (by omega) (by omega),oB,Z9,if_neg (by omega),e1,e2,x1,oB,Zz (by omega),x2,oB,Int.toNat_natCast,Zho,Zr (by omega)]
    have ih:=Zqb N a y ha hy hy0 hly hs hla hyc hNa n i (Ze (2 * Zb r+b - Zb y)) (q.set (i / 32) ((x+2 ^ (i % 32):Nat):Int)) (by omega) (by omega) (by rw [nS];omega) (by rw [nS];exact hqa) (hq.set _ ⟨Int.natCast_nonneg _,Int.ofNat_lt.2 x3⟩) (by rw [Z9]) (by rw [Z9];omega) (by
     rw [x4,hqq];exact Nat.dvd_add ⟨2 * qq,by rw [Nat.pow_succ,Nat.mul_assoc]⟩ (Nat.dvd_refl _)) (by
     have:Zb (q.set (i / 32) ((x+2 ^ (i % 32):Nat):Int)) / 2 ^ i=2 * qq+1:=by
      rw [x4,Nat.add_div_right _ (Nat.two_pow_pos _),hq2]
     rw [this,Z9,hkey,Nat.add_mul,Nat.one_mul];omega)
    exact ih
   ·rw [if_neg (by rw [if_pos (by omega)];decide),Zho,Zr (by omega)]
    exact Zqb N a y ha hy hy0 hly hs hla hyc hNa n i (Ze (2 * Zb r+b)) q (by omega) (by omega) (by omega) hqa hq (by rw [Z9]) (by rw [Z9];omega) (by rw [hqq];exact ⟨2 * qq,by rw [Nat.pow_succ,Nat.mul_assoc]⟩) (by rw [hq2,Z9,hkey])
theorem Zxj {N:Nat} {a b:List Int} (ha:Zp a) (hb:Zp b) (hN:32 * a.length+(Ze (Zb b)).length+48<N) (hbN:b.length<N) (hs:a.length+(Ze (Zb b)).length<274877906944) (hbs:b.length≤1099511627776):
  Zhn N a b=some (if Zb b=0 then ([],[],11) else (Ze (Zb a / Zb b),Ze (Zb a % Zb b),0)):=by
 have la:=Yc ha
 rw [Zhn,U1 hb (by omega) (by omega),oB]
 by_cases h0:Zb b=0
 ·rw [h0,W2,if_pos (by decide),if_pos rfl]
 ·have hbp:=Tu h0
  have hbl:=(Zlm (Zb a)).2
  rw [if_neg (dF (by omega)),if_neg h0,Z55 ha (by omega) (by omega),oB]
  have e1:i64.wrap (Int.tdiv (i64.wrap (((Xi (Zb a):Nat):Int)+31)) 32)=(((Xi (Zb a)+31) / 32:Nat):Int):=by
   rw [Zr (x:=((Xi (Zb a):Nat):Int)+31) (by omega),Int.tdiv_eq_ediv_of_nonneg (by omega),Zr (by omega)];omega
  rw [e1,Zz (by simp only [maxLen,Int.toNat_natCast];omega),Int.toNat_natCast,Zr (by omega)]
  have:=Zqb N a (Ze (Zb b)) ha (Z8 _) (by rw [Z9];omega) (by omega) (by omega) (by omega) (by rw [Z9]) (by omega) N (Xi (Zb a)) [] (List.replicate ((Xi (Zb a)+31) / 32) 0) (by omega) (by omega) (by rw [List.length_replicate];omega) (by rw [List.length_replicate];omega) (.zeros _) (by rw [Yk,W2]) (by rw [Z9,Yk];omega) (by rw [Tm];exact ⟨0,rfl⟩) (by
   rw [Tm,Yk,Nat.zero_div,Nat.zero_mul]
   exact Nat.div_eq_of_lt (V2.1 (Nat.le_refl _)))
  rw [Z9] at this
  exact this
theorem Z2q {x:Nat} (h:x % 2=1):Nat.Coprime 2 x:=by
 rw [Nat.coprime_iff_gcd_eq_one,Nat.gcd_rec,h,Nat.gcd_one_left]
theorem Ztt {x y k:Nat} (h:y % 2=1):Nat.gcd (2 ^ k * x) y=Nat.gcd x y:=by
 induction k with
 | zero=>rw [Nat.pow_zero,Nat.one_mul]
 | succ k ih=>rw [Nat.pow_succ,Nat.mul_comm (2 ^ k),Nat.mul_assoc,(Z2q h).gcd_mul_left_cancel,ih]
theorem Z31 {x y k:Nat} (h:x % 2=1):Nat.gcd x (2 ^ k * y)=Nat.gcd x y:=by
 rw [Nat.gcd_comm,Ztt h,Nat.gcd_comm]
theorem Zln {x:Nat} (h:x≠0):1≤Xi x:=by rw [Xi,if_neg h];omega
theorem Zll (x:Nat):Xi (x / 2)=Xi x - 1:=by
 have:=Zja x 1
 rwa [Nat.pow_one] at this
theorem Zi9 {x y:Nat} (h:x≤y):Xi x≤Xi y:=V2.2 (Nat.lt_of_le_of_lt h (V2.1 (Nat.le_refl _)))
theorem Zi8 {M x:Nat} (h:(Ze x).length≤M):Xi x≤32 * M:=by have:=(Zlm x).2;omega
theorem Zua {x xo k:Nat} (h:x=2 ^ k * xo):xo≤x:=by
 rw [h]
 have:=Nat.mul_le_mul_right xo (Nat.two_pow_pos k)
 omega
section
variable {N M:Nat} (hN:100 * M+64<N) (hM:M<17179869200)
include hN hM
theorem Zx1 (t:Nat):∀ (n i:Nat) (x:List Int),i≤t→t - i<n→t≤32 * M→Zp x→x.length+(t - i)≤33 * M→
  ∃ g,Zes N (t:Int) n x (i:Int)=some g∧Zp g∧Zb g=2 ^ (t - i) * Zb x∧g.length≤x.length+(t - i)
 | 0,i,x,_,h,_,_,_=>by omega
 | n+1,i,x,hi,hn,ht,hx,hl=>by
  rw [Zes.eq_2]
  by_cases h0:i<t
  ·obtain ⟨d,d1,d2,d3,d4⟩:=Zxl (N:=N) (a:=x) (c:=0) hx (by omega) (by omega) (by omega)
   rw [show ((0:Nat):Int)=0 from rfl] at d1
   obtain ⟨g,g1,g2,g3,g4⟩:=Zx1 t n (i+1) d (by omega) (by omega) ht d3 (by omega)
   rw [show ((i+1:Nat):Int)=(i:Int)+1 by omega] at g1
   rw [if_pos (dT (by omega)),d1,oB,Zr (by omega)]
   refine ⟨g,g1,g2,?_,by omega⟩
   rw [g3,d4,Nat.add_zero (2 * Zb x),← Nat.mul_assoc,← Nat.pow_succ]
   congr 2;omega
  ·have:i=t:=by omega
   subst this
   rw [if_neg (dF (by omega))]
   exact ⟨x,rfl,hx,by simp,by omega⟩
theorem Zx0 (kk:List Int→List Int→Option R2) {x:Nat} (hx:(Ze x).length≤M):∀ (n y:Nat),y≠0→Xi y<n→(Ze y).length≤M→
  ∃ yo k,y=2 ^ k * yo∧yo % 2=1∧Zag N kk (Ze x) n (Ze y)=kk (Ze (min x yo)) (Ze (max x yo - min x yo))
 | 0,y,_,h,_=>by omega
 | n+1,y,h0,hn,hy=>by
  have hp:=Tu h0
  rw [Zag.eq_2,if_pos (dT (by omega)),Zns (Z8 _),Z9,oB,Zj5]
  by_cases he:y % 2=0
  ·rw [if_pos (dT he),Znt (Z8 _) (by omega) (by omega),oB,Z9]
   have hb:=Zll y
   have h1:=Zln h0
   obtain ⟨yo,k,e1,e2,e3⟩:=Zx0 kk hx n (y / 2) (by omega) (by omega) (Nat.le_trans (W6 (Nat.div_le_self _ _)) hy)
   refine ⟨yo,k+1,?_,e2,e3⟩
   rw [Nat.pow_succ,Nat.mul_comm (2 ^ k),Nat.mul_assoc,← e1];omega
  ·rw [if_neg (dF he),Zp9 (Z8 _) (Z8 _) (by omega) (by omega) (by omega) (by omega),oB,Z9,Z9]
   refine ⟨y,0,by simp,by omega,?_⟩
   by_cases hxy:y<x
   ·rw [if_pos (by rw [if_neg (by omega),if_pos hxy];decide),Zhq,Zk2 (Z8 _) (Z8 _) (by omega) (by omega) (by omega) (by omega),oB,Z9,Z9,if_neg (by omega),Nat.min_eq_right (by omega),Nat.max_eq_left (by omega)]
   ·rw [if_neg (by split <;> (try split) <;> simp_all <;> omega),Zhq,Zk2 (Z8 _) (Z8 _) (by omega) (by omega) (by omega) (by omega),oB,Z9,Z9,if_neg (by omega),Nat.min_eq_left (by omega),Nat.max_eq_right (by omega)]
theorem Zxz (kk:List Int→List Int→Option R2) {y:Nat}:∀ (n x:Nat),x≠0→Xi x<n→(Ze x).length≤M→
  ∃ xo k,x=2 ^ k * xo∧xo % 2=1∧Zer N (Ze y) kk n (Ze x)=Zag N kk (Ze xo) N (Ze y)
 | 0,x,_,h,_=>by omega
 | n+1,x,h0,hn,hx=>by
  rw [Zer.eq_2,Zns (Z8 _),Z9,oB]
  by_cases he:x % 2=0
  ·rw [if_pos (dT he),Znt (Z8 _) (by omega) (by omega),oB,Z9]
   have hb:=Zll x
   have h1:=Zln h0
   obtain ⟨xo,k,e1,e2,e3⟩:=Zxz kk n (x / 2) (by omega) (by omega) (Nat.le_trans (W6 (Nat.div_le_self _ _)) hx)
   refine ⟨xo,k+1,?_,e2,e3⟩
   rw [Nat.pow_succ,Nat.mul_comm (2 ^ k),Nat.mul_assoc,← e1];omega
  ·rw [if_neg (dF he)]
   exact ⟨x,0,by simp,by omega,rfl⟩
theorem Zx2 (t:Nat) {n x y:Nat} (hx:x≠0) (hy:y≠0) (h:x % 2=1∨y % 2=1) (lx:(Ze x).length≤M) (ly:(Ze y).length≤M):
  ∃ x' y',Uc N (t:Int) (n+1) (Ze x) (Ze y)=Uc N (t:Int) n (Ze x') (Ze y')∧x' % 2=1∧y' % 2=0∧Nat.gcd x' y'=Nat.gcd x y∧(Ze x').length≤M∧(Ze y').length≤M∧(Xi x'+Xi y'≤Xi x+Xi y)∧(y % 2=0→Xi x'+Xi y'+1≤Xi x+Xi y):=by
 have hp:=Tu hy
 have bx:=Zi8 lx
 have by_:=Zi8 ly
 obtain ⟨xo,k,x1,x2,x3⟩:=Zxz hN hM (Uc N (t:Int) n) (y:=y) N x hx (by omega) lx
 have lxo:=Zua x1
 obtain ⟨yo,l,y1,y2,y3⟩:=Zx0 hN hM (Uc N (t:Int) n) (x:=xo) (Nat.le_trans (W6 lxo) lx) N y hy (by omega) ly
 have lyo:=Zua y1
 rw [Uc.eq_2,if_pos (dT (by omega)),x3,y3]
 have mM:max xo yo≤max x y:=by omega
 have lM:(Ze (max x y)).length≤M:=by
  rcases Nat.le_total x y with h | h
  ·rw [Nat.max_eq_right h];exact ly
  ·rw [Nat.max_eq_left h];exact lx
 have bmm:Xi (min xo yo)+Xi (max xo yo - min xo yo)≤Xi xo+Xi yo:=by
  rcases Nat.le_total xo yo with h | h
  ·rw [Nat.min_eq_left h,Nat.max_eq_right h]
   have:=Zi9 (Nat.sub_le yo xo);omega
  ·rw [Nat.min_eq_right h,Nat.max_eq_left h]
   have:=Zi9 (Nat.sub_le xo yo);omega
 have b1:=Zi9 lxo
 have b2:=Zi9 lyo
 refine ⟨_,_,rfl,by omega,by omega,?_,Nat.le_trans (W6 (by omega)) lM,Nat.le_trans (W6 (by omega)) lM,by omega,fun hev=>?_⟩
 ·have g1:Nat.gcd (min xo yo) (max xo yo - min xo yo)=Nat.gcd xo yo:=by
   rcases Nat.le_total xo yo with h | h
   ·rw [Nat.min_eq_left h,Nat.max_eq_right h,Nat.gcd_sub_self_right h]
   ·rw [Nat.min_eq_right h,Nat.max_eq_left h,Nat.gcd_sub_self_right h,Nat.gcd_comm]
  rw [g1,x1,y1]
  rcases h with h | h
  ·have hk:k=0:=by
    rcases Nat.eq_zero_or_pos k with hk | hk
    ·exact hk
    ·obtain ⟨k',rfl⟩:∃ k',k=k'+1:=⟨k - 1,by omega⟩
     rw [x1,Nat.pow_succ,Nat.mul_comm (2 ^ k'),Nat.mul_assoc] at h;omega
   subst hk
   rw [Nat.pow_zero,Nat.one_mul,Z31 x2]
  ·have hl:l=0:=by
    rcases Nat.eq_zero_or_pos l with hk | hk
    ·exact hk
    ·obtain ⟨k',rfl⟩:∃ k',l=k'+1:=⟨l - 1,by omega⟩
     rw [y1,Nat.pow_succ,Nat.mul_comm (2 ^ k'),Nat.mul_assoc] at h;omega
   subst hl
   rw [Nat.pow_zero,Nat.one_mul,Ztt y2]
 ·have:yo≤y / 2:=by
   rcases Nat.eq_zero_or_pos l with hl | hl
   ·subst hl;rw [Nat.pow_zero,Nat.one_mul] at y1;omega
   ·obtain ⟨k',rfl⟩:∃ k',l=k'+1:=⟨l - 1,by omega⟩
    rw [y1,Nat.pow_succ,Nat.mul_comm (2 ^ k'),Nat.mul_assoc,Nat.mul_div_cancel_left _ (by decide)]
    have:=Nat.mul_le_mul_right yo (Nat.two_pow_pos k')
    omega
  have h3:=Zi9 this
  rw [Zll] at h3
  have h4:=Zln hy
  omega
theorem Zxy (t:Nat) (ht:t≤32 * M):∀ (n x y:Nat),x % 2=1→y % 2=0→Xi x+Xi y<n→(Ze x).length≤M→(Ze y).length≤M→
  ∃ g,Uc N (t:Int) n (Ze x) (Ze y)=some g∧Zp g∧Zb g=2 ^ t * Nat.gcd x y∧g.length≤33 * M
 | 0,x,y,_,_,h,_,_=>by omega
 | n+1,x,y,hx,hy,hn,lx,ly=>by
  by_cases h0:y=0
  ·subst h0
   rw [Uc.eq_2,W2,if_neg (by decide)]
   obtain ⟨g,g1,g2,g3,g4⟩:=Zx1 hN hM t N 0 (Ze x) (by omega) (by omega) ht (Z8 _) (by omega)
   rw [Z9,Nat.sub_zero] at g3
   exact ⟨g,g1,g2,by rw [g3,Nat.gcd_zero_right],by omega⟩
  ·obtain ⟨x',y',e1,e2,e3,e4,e5,e6,_,e7⟩:=Zx2 hN hM t (n:=n) (by omega) h0 (.inl hx) lx ly
   have:=e7 hy
   obtain ⟨g,g1,g2,g3,g4⟩:=Zxy t ht n x' y' e2 e3 (by omega) e5 e6
   exact ⟨g,by rw [e1,g1],g2,by rw [g3,e4],g4⟩
theorem Zxx:∀ (n x y t:Nat),x≠0→y≠0→Xi x<n→t+Xi x≤32 * M→(Ze x).length≤M→(Ze y).length≤M→
  ∃ g,Zbh N n (Ze x) (Ze y) (t:Int)=some g∧Zp g∧Zb g=2 ^ t * Nat.gcd x y∧g.length≤33 * M
 | 0,x,y,t,_,_,h,_,_,_=>by omega
 | n+1,x,y,t,hx,hy,hn,ht,lx,ly=>by
  have bx:=Zi8 lx
  have by_:=Zi8 ly
  have last:(x % 2=1∨y % 2=1)→∃ g,Uc N (t:Int) N (Ze x) (Ze y)=some g∧Zp g∧Zb g=2 ^ t * Nat.gcd x y∧g.length≤33 * M:=fun h=>by
   obtain ⟨N',hN'⟩:∃ N',N=N'+1:=⟨N - 1,by omega⟩
   obtain ⟨x',y',e1,e2,e3,e4,e5,e6,e7,_⟩:=Zx2 hN hM t (n:=N') hx hy h lx ly
   obtain ⟨g,g1,g2,g3,g4⟩:=Zxy hN hM t (by omega) N' x' y' e2 e3 (by omega) e5 e6
   refine ⟨g,?_,g2,by rw [g3,e4],g4⟩
   rw [← g1,← e1]
   congr 1
  rw [Zbh.eq_2,Zns (Z8 _),Z9,oB]
  by_cases hxe:x % 2=0
  ·rw [if_pos (dT hxe),Zns (Z8 _),Z9,oB,Zhp]
   by_cases hye:y % 2=0
   ·rw [if_pos (dT hye),Znt (Z8 _) (by omega) (by omega),oB,Znt (Z8 _) (by omega) (by omega),oB,Z9,Z9,Zr (by omega)]
    have hb:=Zll x
    have h1:=Zln hx
    obtain ⟨g,g1,g2,g3,g4⟩:=Zxx n (x / 2) (y / 2) (t+1) (by omega) (by omega) (by omega) (by omega) (Nat.le_trans (W6 (Nat.div_le_self _ _)) lx) (Nat.le_trans (W6 (Nat.div_le_self _ _)) ly)
    rw [show ((t+1:Nat):Int)=(t:Int)+1 by omega] at g1
    refine ⟨g,g1,g2,?_,g4⟩
    rw [g3,Nat.pow_succ,Nat.mul_assoc,← Nat.gcd_mul_left]
    congr 2 <;> omega
   ·rw [if_neg (dF hye)]
    exact last (.inr (by omega))
  ·rw [if_neg (dF hxe),Zhp,if_neg (by decide)]
   exact last (.inl (by omega))
end
theorem Z6g {N M:Nat} {a b:List Int} (ha:Zp a) (hb:Zp b) (hla:a.length≤M) (hlb:b.length≤M) (hN:100 * M+64<N) (hM:M<17179869200):∃ g,Zj4 N a b=some g∧Zp g∧Zb g=Nat.gcd (Zb a) (Zb b)∧g.length≤33 * M:=by
 have la:=Yc ha
 have lb:=Yc hb
 rw [Zj4,U1 ha (by omega) (by omega),oB,U1 hb (by omega) (by omega),oB]
 by_cases h1:Zb a=0
 ·rw [h1,W2,if_pos (by decide),Nat.gcd_zero_left]
  exact ⟨_,rfl,Z8 _,Z9 _,by omega⟩
 ·have p1:=Tu h1
  rw [if_neg (dF (by omega))]
  by_cases h2:Zb b=0
  ·rw [h2,W2,if_pos (by decide),Nat.gcd_zero_right]
   exact ⟨_,rfl,Z8 _,Z9 _,by omega⟩
  ·have p2:=Tu h2
   have bx:=Zi8 (x:=Zb a) (by omega)
   rw [if_neg (dF (by omega))]
   obtain ⟨g,g1,g2,g3,g4⟩:=Zxx hN hM N (Zb a) (Zb b) 0 h1 h2 (by omega) (by omega) (by omega) (by omega)
   exact ⟨g,g1,g2,by rw [g3];simp,g4⟩
def Zmr:Option R2:=
  some [1]
theorem Z1d {col:Zd} {w0:World} {r:R2} (c1:Nat) (hm:Zmr=some r):
    Calls prog 270 #[] w0 (fun e w'=>∃ (col':Zd) (ra1:Option Addr) (rc2:Nat),e= .returned ((.slice ra1 r.length rc2))∧Zg col w0 col' w'∧Zc (Za.int .u32) 79 c1 col' w' ra1 rc2 r):=by
 refine Xc 0 (m:=2) func270 rfl rfl rfl rfl rfl ?_;rw [Zmr.eq_1] at hm;have aa:=St.start col w0;refine go ?_;refine W1 (col:=(Zh col)) [1] 1 ?_;intro ad ae af ab ac;refine go ?_;cases hm;replace aa:=aa.grow ab;exact ⟨rfl,_,_,1,rfl,aa.fin (cm [(1,c1)]),aa.fo ac⟩
def T0 (N:Nat) (ab:R1):Option R2:=
  (Vs N ab.2).bind fun aa=>if (decide ((aa.length:Int)=0))=true then ((Zmr).bind fun ac=>some ac) else (some aa)
theorem Zax {N ad ae:Nat} {af ag:Option Addr} {col:Zd} {w0:World} {ab:R1} {r:R2} (c1:Nat) (hm:T0 N ab=some r) (aq:Sl (Za.int .u32) col w0 af ad ab.1.2) (ac:Sl (Za.int .u32) col w0 ag ae ab.2):
    Calls prog 208 #[(.agg #[.bool ab.1.1,.slice af ab.1.2.length ad,.slice ag ab.2.length ae])] w0 (fun e w'=>∃ (col':Zd) (ra1:Option Addr) (rc2:Nat),e= .returned ((.slice ra1 r.length rc2))∧Zg col w0 col' w'∧Zc (Za.int .u32) 79 c1 col' w' ra1 rc2 r):=by
 refine Xc 2 (m:=12) func208 rfl rfl rfl rfl rfl ?_;rw [T0.eq_1] at hm;have aa:=St.start col w0;refine go ?_;refine Xg (col:=(Zh col)) 1 rfl ?_;intro ar au av ah ai;refine go ?_;refine Xa ai ?_;obtain ⟨aw,aj,hm⟩:=bZ hm;replace ac:=ac.keep (Zf.start col w0);replace aa:=aa.grow ah;refine Zi (Us 2 aj (ac.ks aa)) ?_;rintro _ ax ⟨ak,ay,az,rfl,al,am⟩;refine ⟨_,rfl,go ?_⟩;replace aa:=aa.grow al;refine Zo hm (fun hb hm=>go ?_) fun hb hm=>go ?_
 ·obtain ⟨a0,an,hm⟩:=bZ hm;refine lc rfl rfl (Zf3 call270) (Z1d (col:=ak) 3 an:) ?_;rintro _ a1 ⟨a2,a3,a4,rfl,ao,ap⟩;refine ⟨_,rfl,go ?_⟩;cases hm;replace aa:=aa.grow ao;exact ⟨rfl,_,_,_,rfl,aa.fin (cm [(3,c1)]),aa.fo ap⟩
 cases hm;exact ⟨rfl,_,_,_,rfl,aa.fin (cm [(2,c1)]),aa.fo am⟩
def Zai (aa:List Int):Option R4:=
  some (false,aa)
theorem Zlv {ac:Nat} {a0:Option Addr} {col:Zd} {w0:World} {ab:R2} {r:R4} (hm:Zai ab=some r) (h0:Sl (Za.int .u32) col w0 a0 ac ab):
    Calls prog 207 #[.slice a0 ab.length ac] w0 (fun e w'=>∃ (col':Zd) (ra1:Option Addr) (rc2:Nat),e= .returned ((.agg #[.bool r.1,.slice ra1 r.2.length rc2]))∧Zg col w0 col' w'∧Sl (Za.int .u32) col' w' ra1 rc2 r.2):=by
 refine Ym (m:=5) func207 rfl rfl rfl ?_;rw [Zai.eq_1] at hm;have aa:=St.start col w0;refine go ?_;refine Xl (col:=(Zh col)) #[.bool false,.slice none (([]:List Int).length) 0] 1 zeroValue45 ?_;intro ai aj ak ad ae;refine go ?_;refine lV (.agg #[.bool false,.slice a0 ab.length ac]) (Yz (l:=[_,_]) (qs:=[(0,1),(1,1)]) underlying45 zeroValue45 ⟨rfl,sizeOf4,rfl,sizeOf43,trivial⟩ rfl)<|Z4 ae ?_;intro al af ag ah;refine go ?_;cases hm;replace h0:=h0.keep (Zf.start col w0);replace aa:=(aa.grow ad).kp af ag;exact ⟨rfl,_,ra ah.atN,_,_,_,rfl,aa.fin (cm []),aa.fs (h0.ks aa)⟩
def Zhy (aa:Bool) (ab:List Int):Option R4:=
  some (aa,ab)
def Sp (N:Nat) (ab:Bool) (ac:List Int):Option R4:=
  (Vs N ac).bind fun aa=>if ab=true then (Zhy (decide (0<(aa.length:Int))) aa) else (Zhy false aa)
theorem Zb3 {N ao:Nat} {a1:Option Addr} {col:Zd} {w0:World} {ap:Bool} {ah:R2} {r:R4} (c1:Nat) (hm:Sp N ap ah=some r) (h1:Sl (Za.int .u32) col w0 a1 ao ah):
    Calls prog 226 #[.bool ap,.slice a1 ah.length ao] w0 (fun e w'=>∃ (col':Zd) (ra1:Option Addr) (rc2:Nat),e= .returned ((.agg #[.bool r.1,.slice ra1 r.2.length rc2]))∧Zg col w0 col' w'∧Zc (Za.int .u32) 79 c1 col' w' ra1 rc2 r.2):=by
 refine Ym (m:=16) func226 rfl rfl rfl ?_;rw [Sp.eq_1] at hm;have aa:=St.start col w0;refine go ?_;refine Xl (col:=(Zh col)) #[.bool false,.slice none (([]:List Int).length) 0] 1 zeroValue45 ?_;intro ax a4 a5 ay ac;refine go ?_;obtain ⟨ad,az,hm⟩:=bZ hm;replace h1:=h1.keep (Zf.start col w0);replace aa:=aa.grow ay;refine Zi (Us 2 az (h1.ks aa)) ?_;rintro _ a6 ⟨a7,aq,ar,rfl,au,ab⟩;refine ⟨_,rfl,?_⟩;refine Za0 rfl<|Zk<|Z0 ?_;replace ac:=ac.gr au;replace aa:=aa.grow au;refine Wp.cutK [4,1000000] (fun f ae=>∃ af ai aj ak ag,Zhy ai ag=some r∧St w0 (Zh col) af ae∧Zc (Za.int .u32) 79 3 af ae aj ak ag∧Zm 45 1 af ae ax #[.bool ai,.slice aj ag.length ak]) ?_ ?_
 ·intro f ae hJ;obtain ⟨af,ai,aj,ak,ag,hm,aa,a0,ac⟩:=hJ;rw [Zhy.eq_1] at hm;refine We ?_;cases hm;exact ⟨rfl,_,ra ac.atN,_,_,_,rfl,aa.fin (cm [(3,c1)]),aa.fo a0⟩
 refine go ?_;refine Xt hm (fun al hm=>go ?_) fun al hm=>go ?_
 ·refine lV (.bool (decide (0<(ad.length:Int)))) (Xb (congrArg Value.bool al) rfl)<|Yr rfl<|lV (.agg #[.bool (decide (0<(ad.length:Int))),.slice aq ad.length ar]) (Yz (l:=[_,_]) (qs:=[(0,1),(1,1)]) underlying45 zeroValue45 ⟨rfl,sizeOf4,rfl,sizeOf43,trivial⟩ rfl)<|Z4 ac ?_;intro a8 av a2 am;refine Zk ?_;replace ab:=ab.kp av;replace ab:=ab.recolSelf 3 (by decide);replace am:=am.recol 2 3 (by decide);replace aa:=aa.kp av a2;replace aa:=aa.recol 2 3 (by decide) (by decide);exact ⟨rfl,_,_,_,_,_,hm,aa,ab,am⟩
 refine lV (.bool false) (Xm (congrArg Value.bool al) rfl)<|Yr rfl<|lV (.agg #[.bool false,.slice aq ad.length ar]) (Yz (l:=[_,_]) (qs:=[(0,1),(1,1)]) underlying45 zeroValue45 ⟨rfl,sizeOf4,rfl,sizeOf43,trivial⟩ rfl)<|Z4 ac ?_;intro a9 aw a3 an;refine Zk ?_;replace ab:=ab.kp aw;replace ab:=ab.recolSelf 3 (by decide);replace an:=an.recol 2 3 (by decide);replace aa:=aa.kp aw a3;replace aa:=aa.recol 2 3 (by decide) (by decide);exact ⟨rfl,_,_,_,_,_,hm,aa,ab,an⟩
def Zbk (N:Nat) (aa:R4) (ab:R4):Option R4:=
  (Zcs N aa.2 ab.2).bind fun ad=>(Sp N (!decide (aa.1=ab.1)) ad).bind fun ac=>some (ac.1,ac.2)
theorem Zjc {N ar au:Nat} {av aw:Option Addr} {col:Zd} {w0:World} {ag ah r:R4} (c1:Nat) (hm:Zbk N ag ah=some r) (al:Sl (Za.int .u32) col w0 av ar ag.2) (am:Sl (Za.int .u32) col w0 aw au ah.2):
    Calls prog 206 #[(.agg #[.bool ag.1,.slice av ag.2.length ar]),(.agg #[.bool ah.1,.slice aw ah.2.length au])] w0 (fun e w'=>∃ (col':Zd) (ra1:Option Addr) (rc2:Nat),e= .returned ((.agg #[.bool r.1,.slice ra1 r.2.length rc2]))∧Zg col w0 col' w'∧Zc (Za.int .u32) 79 c1 col' w' ra1 rc2 r.2):=by
 refine Ym (m:=16) func206 rfl rfl rfl ?_;rw [Zbk.eq_1] at hm;have aa:=St.start col w0;refine go ?_;refine Xg (col:=(Zh col)) 1 rfl ?_;intro a7 a8 az a0 ai;refine Xg (col:=az) 2 rfl ?_;intro a9 ba a1 ax aj;refine Xl (col:=a1) #[.bool false,.slice none (([]:List Int).length) 0] 3 zeroValue45 ?_;intro bb bc ad an ab;refine go ?_;refine Wh (col:=ad) [(0,1),(1,0),(2,1),(3,0),(4,1),(5,1),(6,0),(7,1),(8,0),(9,3),(10,3),(11,2)] (by kernel_rfl) (by kernel_rfl)<|xF ⟨_,_,rfl⟩ ?_;replace ai:=(ai.gr ax).gr an;refine xW (fun _ hC=>((ai.atN).nth (q:=0) rfl).gr (hC.bl ad)) ?_;refine xF ⟨_,_,rfl⟩ ?_;replace aj:=aj.gr an;refine xW (fun _ hC=>((aj.atN).nth (q:=0) rfl).gr (hC.bl ad)) ?_;refine xu rfl rfl (fun _=>Ziw _ _ underlying4 rfl rfl) ?_;refine xF ⟨_,_,rfl⟩ ?_;refine xW (fun _ hC=>((ai.atN).nth (q:=1) rfl).gr (hC.bl ad)) ?_;refine xF ⟨_,_,rfl⟩ ?_;refine xW (fun _ hC=>((aj.atN).nth (q:=1) rfl).gr (hC.bl ad)) ?_;refine xe rfl rfl ?_;intro bd hC0;have hC:=hC0.bl ad;obtain ⟨be,a2,hm⟩:=bZ hm;replace al:=al.keep (Zf.start col w0);replace am:=am.keep (Zf.start col w0);replace aa:=(((aa.grow a0).grow ax).grow an).grow hC;refine Zi (Zom 4 a2 (al.ks aa) (am.ks aa)) ?_;rintro _ bf ⟨af,bg,bh,rfl,ao,ap⟩;refine ⟨_,rfl,?_⟩;refine Zk<|Xp af hC0 ao<|xe rfl rfl ?_;intro a3 hC0;replace ab:=(ab.gr hC).gr ao;have hC:=hC0.bl af;obtain ⟨bi,a4,hm⟩:=bZ hm;replace ap:=ap.gr hC;refine Zi (Zb3 5 a4 (ap.toSlF (Zn.int .u32))) ?_;rintro _ bj ⟨a5,bk,bm,rfl,ae,ac⟩;refine ⟨_,rfl,?_⟩;replace ac:=ac.thaw (Z3 .u32) ae ((Fz.refl (col:=af)).froz 4) (by decide);replace ae:=ae.thawR (col:=af);generalize Xf a3.heap.size af a5=ak at *;refine Zk<|Xp ak hC0 ae<|xe rfl rfl ?_;intro bn hC0;replace aa:=((aa.grow ao).grow hC).grow ae;replace ab:=(ab.gr hC).gr ae;have hC:=hC0.bl ak;replace ab:=ab.gr hC;refine Z4 ab ?_;intro bo ay a6 aq;refine Zk<|xk ak<|Y9 ?_;replace ac:=(ac.gr hC).kp ay;replace aa:=(aa.grow hC).kp ay a6;intro bp hC;replace hC:=hC.bl ak;refine We ?_;cases hm;replace ac:=ac.gr hC;replace aq:=aq.gr hC;replace aa:=aa.grow hC;exact ⟨rfl,_,ra aq.atN,_,_,_,rfl,aa.fin (cm [(5,c1)]),aa.fo ac⟩
def Zhx (N:Nat) (aa:R4) (ab:R4):Option R4:=
  if (decide (aa.1=ab.1))=true then ((Zhl N aa.2 ab.2).bind fun ag=>(Sp N aa.1 ag).bind fun ac=>some (ac.1,ac.2)) else ((Zct N aa.2 ab.2).bind fun ad=>if ad.2=true then ((Sp N aa.1 ad.1).bind fun ae=>some (ae.1,ae.2)) else ((Zct N ab.2 aa.2).bind fun ah=>(Sp N ab.1 ah.1).bind fun af=>some (af.1,af.2)))
theorem Zrm {N a3 a4:Nat} {a5 a6:Option Addr} {col:Zd} {w0:World} {ao ap r:R4} (c1:Nat) (hm:Zhx N ao ap=some r) (ag:Sl (Za.int .u32) col w0 a5 a3 ao.2) (ah:Sl (Za.int .u32) col w0 a6 a4 ap.2):
    Calls prog 124 #[(.agg #[.bool ao.1,.slice a5 ao.2.length a3]),(.agg #[.bool ap.1,.slice a6 ap.2.length a4])] w0 (fun e w'=>∃ (col':Zd) (ra1:Option Addr) (rc2:Nat),e= .returned ((.agg #[.bool r.1,.slice ra1 r.2.length rc2]))∧Zg col w0 col' w'∧Zc (Za.int .u32) 79 c1 col' w' ra1 rc2 r.2):=by
 refine Ym (m:=45) func124 rfl rfl rfl ?_;rw [Zhx.eq_1] at hm;have aa:=St.start col w0;refine go ?_;refine Xg (col:=(Zh col)) 1 rfl ?_;intro b3 b4 bf bg ad;refine Xg (col:=bf) 2 rfl ?_;intro b5 b6 bh a7 ac;refine Xl (col:=bh) #[.bool false,.slice none (([]:List Int).length) 0] 3 zeroValue45 ?_;intro b7 b8 ai aw ab;refine go ?_;refine Xd ⟨_,_,rfl⟩ ?_;replace ad:=(ad.gr a7).gr aw;refine lW ((ad.atN).nth (q:=0) rfl)<|Xd ⟨_,_,rfl⟩ ?_;replace ac:=ac.gr aw;refine lW ((ac.atN).nth (q:=0) rfl)<|go ?_;replace ag:=ag.keep (Zf.start col w0);replace ah:=ah.keep (Zf.start col w0);replace aa:=((aa.grow bg).grow a7).grow aw;refine Zo hm (fun hb hm=>?_) fun hb hm=>go ?_
 ·refine Z0<|Wh (col:=ai) [(0,1),(1,0),(2,1),(3,0),(4,1),(5,0),(6,3),(7,3),(8,2)] (by kernel_rfl) (by kernel_rfl)<|xF ⟨_,_,rfl⟩ ?_;refine xW (fun _ hC=>((ad.atN).nth (q:=0) rfl).gr (hC.bl ai)) ?_;refine xF ⟨_,_,rfl⟩ ?_;refine xW (fun _ hC=>((ad.atN).nth (q:=1) rfl).gr (hC.bl ai)) ?_;refine xF ⟨_,_,rfl⟩ ?_;refine xW (fun _ hC=>((ac.atN).nth (q:=1) rfl).gr (hC.bl ai)) ?_;refine xe rfl rfl ?_;intro b9 hC0;have hC:=hC0.bl ai;obtain ⟨ca,bi,hm⟩:=bZ hm;replace aa:=aa.grow hC;refine Zi (Zrh 4 bi (ag.ks aa) (ah.ks aa)) ?_;rintro _ cb ⟨aj,cc,cd,rfl,ax,ay⟩;refine ⟨_,rfl,?_⟩;refine Zk<|Xp aj hC0 ax<|xe rfl rfl ?_;intro bj hC0;replace ab:=(ab.gr hC).gr ax;have hC:=hC0.bl aj;obtain ⟨ce,bk,hm⟩:=bZ hm;replace ay:=ay.gr hC;refine Zi (Zb3 5 bk (ay.toSlF (Zn.int .u32))) ?_;rintro _ cf ⟨bm,cg,ch,rfl,af,ae⟩;refine ⟨_,rfl,?_⟩;replace ae:=ae.thaw (Z3 .u32) af ((Fz.refl (col:=aj)).froz 4) (by decide);replace af:=af.thawR (col:=aj);generalize Xf bj.heap.size aj bm=aq at *;refine Zk<|Xp aq hC0 af<|xe rfl rfl ?_;intro ci hC0;replace aa:=((aa.grow ax).grow hC).grow af;replace ab:=(ab.gr hC).gr af;have hC:=hC0.bl aq;replace ab:=ab.gr hC;refine Z4 ab ?_;intro cj a8 bn az;refine Zk<|xk aq<|Y9 ?_;replace ae:=(ae.gr hC).kp a8;replace aa:=(aa.grow hC).kp a8 bn;intro ck hC;replace hC:=hC.bl aq;refine We ?_;cases hm;replace ae:=ae.gr hC;replace az:=az.gr hC;replace aa:=aa.grow hC;exact ⟨rfl,_,ra az.atN,_,_,_,rfl,aa.fin (cm [(5,c1)]),aa.fo ae⟩
 refine Xa ad<|Xa ac ?_;obtain ⟨ar,bo,hm⟩:=bZ hm;refine Zi (Zlr 6 bo (ag.ks aa) (ah.ks aa)) ?_;rintro _ bp ⟨a0,a9,ba,rfl,au,bq⟩;refine ⟨_,rfl,?_⟩;refine lM (.tuple #[.slice a9 ar.1.length ba,.bool ar.2])<|lV (.slice a9 ar.1.length ba) (Xv rfl rfl)<|lV (.bool ar.2) (Xv rfl rfl)<|go ?_;replace ad:=ad.gr au;replace ac:=ac.gr au;replace ab:=ab.gr au;replace aa:=aa.grow au;refine Zo hm (fun hb hm=>go ?_) fun hb hm=>go ?_
 ·refine Xa ad<|Yr rfl ?_;obtain ⟨cl,br,hm⟩:=bZ hm;refine Zi (Zb3 7 br (bq.toSlF (Zn.int .u32))) ?_;rintro _ cn ⟨bs,co,cp,rfl,ak,al⟩;refine ⟨_,rfl,?_⟩;replace al:=al.thaw (Z3 .u32) ak ((Fz.refl (col:=a0)).froz 6) (by decide);replace ak:=ak.thawR (col:=a0);generalize Xf bp.heap.size a0 bs=cq at *;replace ab:=ab.gr ak;refine Z4 ab ?_;intro cr bb bt bu;refine go ?_;cases hm;replace aa:=(aa.grow ak).kp bb bt;replace al:=al.kp bb;exact ⟨rfl,_,ra bu.atN,_,_,_,rfl,aa.fin (cm [(7,c1)]),aa.fo al⟩
 refine Xa ac<|Xa ad ?_;obtain ⟨av,bv,hm⟩:=bZ hm;refine Zi (Zlr 8 bv (ah.ks aa) (ag.ks aa)) ?_;rintro _ bw ⟨a1,bc,bd,rfl,a2,bx⟩;refine ⟨_,rfl,?_⟩;refine lM (.tuple #[.slice bc av.1.length bd,.bool av.2])<|lV (.slice bc av.1.length bd) (Xv rfl rfl)<|lV (.bool av.2) (Xv rfl rfl)<|go ?_;refine Xd ⟨_,_,rfl⟩ ?_;replace ac:=ac.gr a2;refine lW ((ac.atN).nth (q:=0) rfl)<|Yr rfl ?_;obtain ⟨cs,bz,hm⟩:=bZ hm;refine Zi (Zb3 9 bz (bx.toSlF (Zn.int .u32))) ?_;rintro _ ct ⟨b0,cu,cv,rfl,am,an⟩;refine ⟨_,rfl,?_⟩;replace an:=an.thaw (Z3 .u32) am ((Fz.refl (col:=a1)).froz 8) (by decide);replace am:=am.thawR (col:=a1);generalize Xf bw.heap.size a1 b0=cw at *;replace ab:=(ab.gr a2).gr am;refine Z4 ab ?_;intro cx be b1 b2;refine go ?_;cases hm;replace aa:=((aa.grow a2).grow am).kp be b1;replace an:=an.kp be;exact ⟨rfl,_,ra b2.atN,_,_,_,rfl,aa.fin (cm [(9,c1)]),aa.fo an⟩
def Zhz (N:Nat) (aa:R4):Option R4:=
  (Sp N aa.1 aa.2).bind fun ab=>some (ab.1,ab.2)
theorem Zrn {N ag:Nat} {ah:Option Addr} {col:Zd} {w0:World} {ab r:R4} (c1:Nat) (hm:Zhz N ab=some r) (ad:Sl (Za.int .u32) col w0 ah ag ab.2):
    Calls prog 268 #[(.agg #[.bool ab.1,.slice ah ab.2.length ag])] w0 (fun e w'=>∃ (col':Zd) (ra1:Option Addr) (rc2:Nat),e= .returned ((.agg #[.bool r.1,.slice ra1 r.2.length rc2]))∧Zg col w0 col' w'∧Zc (Za.int .u32) 79 c1 col' w' ra1 rc2 r.2):=by
 refine Ym (m:=8) func268 rfl rfl rfl ?_;rw [Zhz.eq_1] at hm;have aa:=St.start col w0;refine go ?_;refine Xg (col:=(Zh col)) 1 rfl ?_;intro aq ar al am ac;refine Xl (col:=al) #[.bool false,.slice none (([]:List Int).length) 0] 2 zeroValue45 ?_;intro au av aw ai ae;refine go ?_;refine Xd ⟨_,_,rfl⟩ ?_;replace ac:=ac.gr ai;refine lW ((ac.atN).nth (q:=0) rfl)<|Xa ac ?_;obtain ⟨ax,an,hm⟩:=bZ hm;replace ad:=ad.keep (Zf.start col w0);replace aa:=(aa.grow am).grow ai;refine Zi (Zb3 3 an (ad.ks aa)) ?_;rintro _ ay ⟨az,a0,a1,rfl,aj,af⟩;refine ⟨_,rfl,?_⟩;replace ae:=ae.gr aj;refine Z4 ae ?_;intro a2 ak ao ap;refine go ?_;cases hm;replace aa:=(aa.grow aj).kp ak ao;replace af:=af.kp ak;exact ⟨rfl,_,ra ap.atN,_,_,_,rfl,aa.fin (cm [(3,c1)]),aa.fo af⟩
def Ze1 (N:Nat) (aa:R4) (ab:List Int):Option R1:=
  (Zj4 N aa.2 ab).bind fun ac=>(Zhn N aa.2 ac).bind fun ae=>(Zhn N ab ac).bind fun af=>(Zhz N (aa.1,ae.1)).bind fun ad=>(Vs N af.1).bind fun ag=>some ((ad.1,ad.2),ag)
theorem Zoo {N a2 a3:Nat} {a4 a1:Option Addr} {col:Zd} {w0:World} {ai:R4} {ap:R2} {r:R1} (c1 c2:Nat) (hm:Ze1 N ai ap=some r) (an:Sl (Za.int .u32) col w0 a4 a2 ai.2) (h1:Sl (Za.int .u32) col w0 a1 a3 ap):
    Calls prog 213 #[(.agg #[.bool ai.1,.slice a4 ai.2.length a2]),.slice a1 ap.length a3] w0 (fun e w'=>∃ (col':Zd) (ra1:Option Addr) (rc2:Nat) (ra4:Option Addr) (rc5:Nat),e= .returned ((.agg #[.bool r.1.1,.slice ra1 r.1.2.length rc2,.slice ra4 r.2.length rc5]))∧Zg col w0 col' w'∧Zc (Za.int .u32) 79 c1 col' w' ra1 rc2 r.1.2∧Zc (Za.int .u32) 79 c2 col' w' ra4 rc5 r.2):=by
 refine Ym (m:=39) func213 rfl rfl rfl ?_;rw [Ze1.eq_1] at hm;have aa:=St.start col w0;refine go ?_;refine Xg (col:=(Zh col)) 1 rfl ?_;intro b1 b2 bd be ab;refine Xl (col:=bd) #[.bool false,.slice none (([]:List Int).length) 0,.slice none (([]:List Int).length) 0] 2 zeroValue47 ?_;intro b3 b4 b5 a5 aq;refine go ?_;refine Xd ⟨_,_,rfl⟩ ?_;replace ab:=ab.gr a5;refine lW ((ab.atN).nth (q:=1) rfl)<|Yr rfl ?_;obtain ⟨b6,bf,hm⟩:=bZ hm;replace an:=an.keep (Zf.start col w0);replace h1:=h1.keep (Zf.start col w0);replace aa:=(aa.grow be).grow a5;refine Zi (Z04 3 bf (an.ks aa) (h1.ks aa)) ?_;rintro _ bg ⟨ar,b7,b8,rfl,au,ao⟩;refine ⟨_,rfl,go ?_⟩;refine Xd ⟨_,_,rfl⟩ ?_;replace ab:=ab.gr au;refine lW ((ab.atN).nth (q:=1) rfl)<|Yr rfl ?_;obtain ⟨ac,bh,hm⟩:=bZ hm;replace aa:=aa.grow au;refine Zi (Zri 4 5 bh ((an.ks aa).froz 3) (ao.toSlF (Zn.int .u32))) ?_;rintro _ bi ⟨bj,av,aw,a6,a7,rfl,ad,aj,b9⟩;refine ⟨_,rfl,?_⟩;replace aj:=aj.thaw (Z3 .u32) ad ((Fz.refl (col:=ar)).froz 3) (by decide);replace ad:=ad.thawR (col:=ar);generalize Xf bg.heap.size ar bj=ax at *;refine lM (.tuple #[.slice av ac.1.length aw,.slice a6 ac.2.1.length a7,.int .i64 ac.2.2])<|lV (.slice av ac.1.length aw) (Xv rfl rfl)<|lV (.slice a6 ac.2.1.length a7) (Xv rfl rfl)<|lV (.int .i64 ac.2.2) (Xv rfl rfl)<|go ?_;obtain ⟨af,bk,hm⟩:=bZ hm;replace ao:=ao.gr ad;replace aa:=aa.grow ad;refine Zi (Zri 6 7 bk ((h1.ks aa).froz 3) (ao.toSlF (Zn.int .u32))) ?_;rintro _ bm ⟨bn,a8,a9,ba,bb,rfl,ae,ak,ca⟩;refine ⟨_,rfl,?_⟩;replace ak:=ak.thaw (Z3 .u32) ae ((Fz.refl (col:=ax)).froz 3) (by decide);replace ae:=ae.thawR (col:=ax);generalize Xf bi.heap.size ax bn=ay at *;refine lM (.tuple #[.slice a8 af.1.length a9,.slice ba af.2.1.length bb,.int .i64 af.2.2])<|lV (.slice a8 af.1.length a9) (Xv rfl rfl)<|lV (.slice ba af.2.1.length bb) (Xv rfl rfl)<|lV (.int .i64 af.2.2) (Xv rfl rfl)<|go ?_;refine Xd ⟨_,_,rfl⟩ ?_;replace ab:=(ab.gr ad).gr ae
 refine lW ((ab.atN).nth (q:=0) rfl)<|Yr rfl<|lV (.agg #[.bool ai.1,.slice av ac.1.length aw]) (Yz (l:=[_,_]) (qs:=[(0,1),(1,1)]) underlying45 zeroValue45 ⟨rfl,sizeOf4,rfl,sizeOf43,trivial⟩ rfl) ?_;obtain ⟨bc,bo,hm⟩:=bZ hm;replace aj:=aj.gr ae;refine Zi (Zrn 8 bo (aj.toSlF (Zn.int .u32))) ?_;rintro _ bp ⟨bq,br,bs,rfl,ag,al⟩;refine ⟨_,rfl,?_⟩;replace al:=al.thaw (Z3 .u32) ag ((Fz.refl (col:=ay)).froz 4) (by decide);replace ag:=ag.thawR (col:=ay);generalize Xf bm.heap.size ay bq=az at *;refine Yr rfl ?_;obtain ⟨bt,bu,hm⟩:=bZ hm;replace ak:=ak.gr ag;refine Zi (Us 9 bu (ak.toSlF (Zn.int .u32))) ?_;rintro _ cb ⟨bv,bw,bx,rfl,ah,am⟩;refine ⟨_,rfl,?_⟩;replace am:=am.thaw (Z3 .u32) ah ((Fz.refl (col:=az)).froz 6) (by decide);replace ah:=ah.thawR (col:=az);generalize Xf bp.heap.size az bv=cc at *;refine lV (.agg #[.bool bc.1,.slice br bc.2.length bs,.slice bw bt.length bx]) (Yz (l:=[_,_]) (qs:=[(0,2),(2,1)]) underlying47 zeroValue47 ⟨rfl,sizeOf45,rfl,sizeOf43,trivial⟩ rfl) ?_;replace aq:=((((aq.gr au).gr ad).gr ae).gr ag).gr ah;refine Z4 aq ?_;intro cd a0 bz b0;refine go ?_;cases hm;replace aa:=(((aa.grow ae).grow ag).grow ah).kp a0 bz;replace al:=(al.gr ah).kp a0;replace am:=am.kp a0;exact ⟨rfl,_,ra b0.atN,_,_,_,_,_,rfl,aa.fin (cm [(8,c1),(9,c2)]),aa.fo al,aa.fo am⟩
def Zey (N:Nat) (aa:R1) (ab:R1):Option R1:=
  (T0 N ((ab.1.1,ab.1.2),ab.2)).bind fun ai=>(Zai ai).bind fun ad=>(Zbk N (aa.1.1,aa.1.2) (ad.1,ad.2)).bind fun ae=>(T0 N ((aa.1.1,aa.1.2),aa.2)).bind fun aj=>(Zai aj).bind fun af=>(Zbk N (ab.1.1,ab.1.2) (af.1,af.2)).bind fun ag=>(Zhx N (ae.1,ae.2) (ag.1,ag.2)).bind fun ah=>(T0 N ((aa.1.1,aa.1.2),aa.2)).bind fun ak=>(T0 N ((ab.1.1,ab.1.2),ab.2)).bind fun al=>(Zcs N ak al).bind fun am=>(Ze1 N (ah.1,ah.2) am).bind fun ac=>some ((ac.1.1,ac.1.2),ac.2)
theorem Zrp {N b3 cd b4 ce:Nat} {b5 cf b6 cg:Option Addr} {col:Zd} {w0:World} {ao ap r:R1} (c1 c2:Nat) (hm:Zey N ao ap=some r) (bj:Sl (Za.int .u32) col w0 b5 b3 ao.1.2) (b7:Sl (Za.int .u32) col w0 cf cd ao.2) (bk:Sl (Za.int .u32) col w0 b6 b4 ap.1.2) (b8:Sl (Za.int .u32) col w0 cg ce ap.2):
    Calls prog 156 #[(.agg #[.bool ao.1.1,.slice b5 ao.1.2.length b3,.slice cf ao.2.length cd]),(.agg #[.bool ap.1.1,.slice b6 ap.1.2.length b4,.slice cg ap.2.length ce])] w0 (fun e w'=>∃ (col':Zd) (ra1:Option Addr) (rc2:Nat) (ra4:Option Addr) (rc5:Nat),e= .returned ((.agg #[.bool r.1.1,.slice ra1 r.1.2.length rc2,.slice ra4 r.2.length rc5]))∧Zg col w0 col' w'∧Zc (Za.int .u32) 79 c1 col' w' ra1 rc2 r.1.2∧Zc (Za.int .u32) 79 c2 col' w' ra4 rc5 r.2):=by
 refine Ym (m:=28) func156 rfl rfl rfl ?_;rw [Zey.eq_1] at hm;have aa:=St.start col w0;refine go ?_;refine Xg (col:=(Zh col)) 1 rfl ?_;intro cw ds cx cy ac;refine Xg (col:=cx) 2 rfl ?_;intro cz dt c0 cr ad;refine Xl (col:=c0) #[.bool false,.slice none (([]:List Int).length) 0,.slice none (([]:List Int).length) 0] 3 zeroValue47 ?_;intro du b9 bm ch ab;refine go ?_;have ca:=Z1.clip (fun _=>false) bm b9;refine Zi0 (col:=bm) [(0,1),(1,0),(2,0),(3,3),(4,3),(5,3),(6,4),(7,2)] (by kernel_rfl) (by kernel_rfl) ⟨fun h=>absurd h (by decide),fun h=>absurd h (by decide),fun h=>absurd h (by decide),fun h=>absurd h (by decide),fun h=>absurd h (by decide),fun h=>absurd h (by decide),fun _=>⟨_,_,_,rfl,Sd zeroValue45⟩,fun h=>absurd h (by decide),trivial⟩<|Vg (v:=(.pointer ((some (⟨cw,0,none⟩:Addr)).map (·.add 0)))) rfl rfl (fun _=>Sy (sz:=2) (off:=0) underlying47 rfl sizeOf45 (by decide) rfl rfl ⟨_,_,rfl⟩) ?_;replace ac:=((ac.gr cr).gr ch).kpp ca;refine Tc (v:=(.agg #[.bool ao.1.1,.slice b5 ao.1.2.length b3])) rfl rfl (fun _ hC=>Yj isAgg45 sizeOf45 rfl rfl (((ac.atN).part 0 2 _ rfl).gr (hC.bl (Zl b9 bm)))) ?_;replace ad:=(ad.gr ch).kpp ca;refine Tc (v:=(.agg #[.bool ap.1.1,.slice b6 ap.1.2.length b4,.slice cg ap.2.length ce])) rfl rfl (fun _ hC=>Yj isAgg47 sizeOf47 rfl rfl (ad.atN.gr (hC.bl (Zl b9 bm)))) ?_;refine W8 rfl rfl ?_;intro dv hC0;have hC:=hC0.bl (Zl b9 bm);obtain ⟨dw,c3,hm⟩:=bZ hm;replace bk:=bk.keep (Zf.start col w0);replace b8:=b8.keep (Zf.start col w0);replace aa:=((((aa.grow cy).grow cr).grow ch).kpp ca).grow hC;refine Zi (Zax 4 c3 (bk.ks aa) (b8.ks aa)) ?_;rintro _ bb ⟨bn,dx,dy,rfl,ax,bo⟩;refine ⟨_,rfl,?_⟩;refine Zk ?_;refine ⟨fun w'=>Zg (Zl bb bn) bb (Zl bb bn) w',fun g=>(Zl bb bn) g=497,Zg.refl _ _,W0,fun _=>⟨fun _ h=>V3 hC0 ax h,fun b hb=>ax.below.block b hb,fun g x1 x2=>V8 ax g x1 (by first | exact x2 | (simp only [Xq,x2];rfl) | (simp only [Xq,Xx,x2];rfl))⟩,?_⟩;have bp:=Z1.clip (fun _=>false) bn bb;refine W8 rfl rfl ?_;intro dz hC0;replace ab:=(((ab.kpp ca).gr hC).gr ax).kpp bp;replace ac:=((ac.gr hC).gr ax).kpp bp;replace ad:=((ad.gr hC).gr ax).kpp bp;have hC:=hC0.bl (Zl bb bn);replace bo:=(bo.kpp bp).gr hC;replace bo:=(bo).toSlF (Zn.int .u32);replace ac:=ac.gr hC;replace ac:=ac.froz 4 (by decide)
 replace ad:=ad.gr hC;replace ad:=ad.froz 4 (by decide);replace ab:=ab.gr hC;replace ab:=ab.froz 4 (by decide);replace aa:=((aa.grow ax).kpp bp).grow hC;replace aa:=aa.froz 4 (by decide) (by decide);obtain ⟨d0,c4,hm⟩:=bZ hm;refine Zi (Zlv c4 bo) ?_;rintro _ bc ⟨bq,d1,d2,rfl,ay,ci⟩;refine ⟨_,rfl,?_⟩;refine Zk ?_;refine ⟨fun w'=>Zg (Zl bc bq) bc (Zl bc bq) w',fun g=>(Zl bc bq) g=497,Zg.refl _ _,W0,fun _=>⟨fun _ h=>V3 hC0 ay h,fun b hb=>ay.below.block b hb,fun g x1 x2=>V8 ay g x1 (by first | exact x2 | (simp only [Xq,x2];rfl) | (simp only [Xq,Xx,x2];rfl))⟩,?_⟩;have br:=Z1.clip (fun _=>false) bq bc;refine W8 rfl rfl ?_;intro d3 hC0;have hC:=hC0.bl (Zl bc bq);obtain ⟨d4,c5,hm⟩:=bZ hm;replace bj:=bj.keep (Zf.start col w0);replace aa:=((aa.grow ay).kpp br).grow hC;replace ci:=(ci.kpp br).gr hC;refine Zi (Zjc 5 c5 (bj.ks aa) ci) ?_;rintro _ ag ⟨ah,d5,d6,rfl,az,ai⟩;refine ⟨_,rfl,?_⟩;refine Zk ?_;refine ⟨fun w'=>Zg (Zl ag ah) ag (Zl ag ah) w',fun g=>(Zl ag ah) g=497,Zg.refl _ _,W0,fun _=>⟨fun _ h=>V3 hC0 az h,fun b hb=>az.below.block b hb,fun g x1 x2=>V8 az g x1 (by first | exact x2 | (simp only [Xq,x2];rfl) | (simp only [Xq,Xx,x2];rfl))⟩,?_⟩;have bs:=Z1.clip (fun _=>false) ah ag;refine Zi1 rfl rfl (Sd zeroValue45) ?_;intro am c6;refine W8 rfl rfl ?_;intro c7 ⟨hC0,hZ0⟩;replace ac:=((((ac.gr ay).kpp br).gr hC).gr az).kpp bs;replace ad:=((((ad.gr ay).kpp br).gr hC).gr az).kpp bs;replace ab:=((((ab.gr ay).kpp br).gr hC).gr az).kpp bs;have hC:=hC0.bl (Zl ag ah);replace b7:=b7.keep (Zf.start col w0);obtain ⟨bt,cj⟩:=Zge (col:=(Zl ag ah)) 6 hZ0 c6;replace cj:Zm 45 6 (Xk am 6 (Zl ag ah)) c7 am #[.bool false,.slice none (([]:List Int).length) 0]:=cj;refine Z4 cj ?_;intro an bu c8 al;refine Zk ?_;refine ⟨fun w'=>Zg (Zl an (Xk am 6 (Zl ag ah))) an (Zl an (Xk am 6 (Zl ag ah))) w',fun g=>(Zl an (Xk am 6 (Zl ag ah))) g=497,Zg.refl _ _,W0,fun h=>absurd h (by decide),?_⟩;have bd:=Z1.clip (fun _=>false) (Xk am 6 (Zl ag ah)) an;refine Zi2 ?_;replace aa:=(((((aa.grow az).kpp bs).grow hC).kpp bt).kp bu c8).kpp bd;replace ai:=((((ai.kpp bs).gr hC).kpp bt).kp bu).kpp bd
 replace ac:=(((ac.gr hC).kpp bt).kp bu).kpp bd;replace ad:=(((ad.gr hC).kpp bt).kp bu).kpp bd;replace ab:=(((ab.gr hC).kpp bt).kp bu).kpp bd;intro a0 hC;replace hC:Zg (Zl an (Xk am 6 (Zl ag ah))) an (Zl an (Xk am 6 (Zl ag ah))) a0:=.of_below hC.below;refine Z0 ?_;have be:=Z1.clip (fun _=>false) (Zl an (Xk am 6 (Zl ag ah))) a0;refine Zi0 (col:=(Zl an (Xk am 6 (Zl ag ah)))) [(0,1),(1,0),(2,0),(3,3),(4,3),(5,3),(6,4),(7,2)] (by kernel_rfl) (by kernel_rfl) ⟨fun h=>absurd h (by decide),fun h=>absurd h (by decide),fun h=>absurd h (by decide),fun h=>absurd h (by decide),fun h=>absurd h (by decide),fun h=>absurd h (by decide),fun _=>⟨_,_,_,rfl,Sd zeroValue45⟩,fun h=>absurd h (by decide),trivial⟩<|Vg (v:=(.pointer ((some (⟨cz,0,none⟩:Addr)).map (·.add 0)))) rfl rfl (fun _=>Sy (sz:=2) (off:=0) underlying47 rfl sizeOf45 (by decide) rfl rfl ⟨_,_,rfl⟩) ?_;replace ad:=(ad.gr hC).kpp be;refine Tc (v:=(.agg #[.bool ap.1.1,.slice b6 ap.1.2.length b4])) rfl rfl (fun _ hC=>Yj isAgg45 sizeOf45 rfl rfl (((ad.atN).part 0 2 _ rfl).gr (hC.bl (Zl a0 (Zl an (Xk am 6 (Zl ag ah))))))) ?_;replace ac:=(ac.gr hC).kpp be;refine Tc (v:=(.agg #[.bool ao.1.1,.slice b5 ao.1.2.length b3,.slice cf ao.2.length cd])) rfl rfl (fun _ hC=>Yj isAgg47 sizeOf47 rfl rfl (ac.atN.gr (hC.bl (Zl a0 (Zl an (Xk am 6 (Zl ag ah))))))) ?_;refine W8 rfl rfl ?_;intro c9 hC0;replace al:=((al.kpp bd).gr hC).kpp be;replace ai:=(ai.gr hC).kpp be;replace ab:=(ab.gr hC).kpp be;replace aa:=(aa.grow hC).kpp be;have hC:Zg (Zl a0 (Zl an (Xk am 6 (Zl ag ah)))) a0 (Zl a0 (Zl an (Xk am 6 (Zl ag ah)))) c9:=.of_below hC0.below;obtain ⟨d7,da,hm⟩:=bZ hm;replace aa:=aa.grow hC;refine Zi (Zax 7 da (bj.ks aa) (b7.ks aa)) ?_;rintro _ bf ⟨bv,d8,d9,rfl,ar,bw⟩;refine ⟨_,rfl,?_⟩;refine Zk ?_;refine ⟨fun w'=>Zg (Zl bf bv) bf (Zl bf bv) w',fun g=>(Zl bf bv) g=497,Zg.refl _ _,W0,fun _=>⟨fun _ h=>V3 hC0 ar h,fun b hb=>ar.below.block b hb,fun g x1 x2=>V8 ar g x1 (by first | exact x2 | (simp only [Xq,x2];rfl) | (simp only [Xq,Xx,x2];rfl))⟩,?_⟩;have a1:=Z1.clip (fun _=>false) bv bf;refine W8 rfl rfl ?_;intro ea hC0;replace ai:=((ai.gr hC).gr ar).kpp a1;replace ac:=((ac.gr hC).gr ar).kpp a1
 replace ad:=((ad.gr hC).gr ar).kpp a1;replace ab:=((ab.gr hC).gr ar).kpp a1;replace al:=((al.gr hC).gr ar).kpp a1;have hC:=hC0.bl (Zl bf bv);replace ai:=ai.gr hC;replace ai:=ai.froz 7 (by decide);replace bw:=(bw.kpp a1).gr hC;replace bw:=(bw).toSlF (Zn.int .u32);replace ac:=ac.gr hC;replace ac:=ac.froz 7 (by decide);replace ad:=ad.gr hC;replace ad:=ad.froz 7 (by decide);replace ab:=ab.gr hC;replace ab:=ab.froz 7 (by decide);replace al:=al.gr hC;replace al:=al.froz 7 (by decide);replace aa:=((aa.grow ar).kpp a1).grow hC;replace aa:=aa.froz 7 (by decide) (by decide);obtain ⟨eb,db,hm⟩:=bZ hm;refine Zi (Zlv db bw) ?_;rintro _ bg ⟨bx,ec,ed,rfl,au,ck⟩;refine ⟨_,rfl,?_⟩;refine Zk ?_;refine ⟨fun w'=>Zg (Zl bg bx) bg (Zl bg bx) w',fun g=>(Zl bg bx) g=497,Zg.refl _ _,W0,fun _=>⟨fun _ h=>V3 hC0 au h,fun b hb=>au.below.block b hb,fun g x1 x2=>V8 au g x1 (by first | exact x2 | (simp only [Xq,x2];rfl) | (simp only [Xq,Xx,x2];rfl))⟩,?_⟩;have a2:=Z1.clip (fun _=>false) bx bg;refine W8 rfl rfl ?_;intro ee hC0;have hC:=hC0.bl (Zl bg bx);obtain ⟨ef,dc,hm⟩:=bZ hm;replace aa:=((aa.grow au).kpp a2).grow hC;replace ck:=(ck.kpp a2).gr hC;refine Zi (Zjc 8 dc (bk.ks aa) ck) ?_;rintro _ ae ⟨af,eg,eh,rfl,av,a3⟩;refine ⟨_,rfl,?_⟩;refine Zk ?_;refine ⟨fun w'=>Zg (Zl ae af) ae (Zl ae af) w',fun g=>(Zl ae af) g=497,Zg.refl _ _,W0,fun _=>⟨fun _ h=>V3 hC0 av h,fun b hb=>av.below.block b hb,fun g x1 x2=>V8 av g x1 (by first | exact x2 | (simp only [Xq,x2];rfl) | (simp only [Xq,Xx,x2];rfl))⟩,?_⟩;have a4:=Z1.clip (fun _=>false) af ae;refine Zi1 rfl rfl (Sd zeroValue45) ?_;intro aj dd;refine W8 rfl rfl ?_;intro de ⟨hC0,hZ0⟩;replace ai:=((((ai.gr au).kpp a2).gr hC).gr av).kpp a4;replace ac:=((((ac.gr au).kpp a2).gr hC).gr av).kpp a4;replace ad:=((((ad.gr au).kpp a2).gr hC).gr av).kpp a4;replace ab:=((((ab.gr au).kpp a2).gr hC).gr av).kpp a4;replace al:=((((al.gr au).kpp a2).gr hC).gr av).kpp a4;have hC:=hC0.bl (Zl ae af);obtain ⟨a5,cl⟩:=Zge (col:=(Zl ae af)) 9 hZ0 dd;replace cl:Zm 45 9 (Xk aj 9 (Zl ae af)) de aj #[.bool false,.slice none (([]:List Int).length) 0]:=cl;refine Z4 cl ?_;intro ak a6 df cn;refine Zk ?_
 refine ⟨fun w'=>Zg (Zl ak (Xk aj 9 (Zl ae af))) ak (Zl ak (Xk aj 9 (Zl ae af))) w',fun g=>(Zl ak (Xk aj 9 (Zl ae af))) g=497,Zg.refl _ _,W0,fun h=>absurd h (by decide),?_⟩;have aw:=Z1.clip (fun _=>false) (Xk aj 9 (Zl ae af)) ak;refine Zi2 ?_;replace aa:=(((((aa.grow av).kpp a4).grow hC).kpp a5).kp a6 df).kpp aw;replace a3:=((((a3.kpp a4).gr hC).kpp a5).kp a6).kpp aw;replace ai:=(((ai.gr hC).kpp a5).kp a6).kpp aw;replace ac:=(((ac.gr hC).kpp a5).kp a6).kpp aw;replace ad:=(((ad.gr hC).kpp a5).kp a6).kpp aw;replace ab:=(((ab.gr hC).kpp a5).kp a6).kpp aw;replace al:=(((al.gr hC).kpp a5).kp a6).kpp aw;intro cs hC;replace hC:Zg (Zl ak (Xk aj 9 (Zl ae af))) ak (Zl ak (Xk aj 9 (Zl ae af))) cs:=.of_below hC.below;refine Z0<|Wh (col:=(Zl ak (Xk aj 9 (Zl ae af)))) [(0,0),(1,0),(3,0),(5,0),(2,3),(4,3),(6,3),(7,3),(8,3),(9,2)] (by kernel_rfl) (by kernel_rfl) ?_;replace al:=al.gr hC;refine xv rfl rfl (fun _ hC=>Z7 isAgg45 sizeOf45 (al.gr (hC.bl (Zl ak (Xk aj 9 (Zl ae af)))))) ?_;replace cn:=(cn.kpp aw).gr hC;refine xv rfl rfl (fun _ hC=>Z7 isAgg45 sizeOf45 (cn.gr (hC.bl (Zl ak (Xk aj 9 (Zl ae af)))))) ?_;replace ac:=ac.gr hC;refine xv rfl rfl (fun _ hC=>Z7 isAgg47 sizeOf47 (ac.gr (hC.bl (Zl ak (Xk aj 9 (Zl ae af)))))) ?_;replace ad:=ad.gr hC;refine xv rfl rfl (fun _ hC=>Z7 isAgg47 sizeOf47 (ad.gr (hC.bl (Zl ak (Xk aj 9 (Zl ae af)))))) ?_;refine xe rfl rfl ?_;intro ct hC0;replace ai:=ai.gr hC;replace a3:=a3.gr hC;replace ab:=ab.gr hC;replace aa:=aa.grow hC;have hC:Zg (Zl ak (Xk aj 9 (Zl ae af))) cs (Zl ak (Xk aj 9 (Zl ae af))) ct:=.of_below hC0.below;obtain ⟨ei,dg,hm⟩:=bZ hm;replace ai:=ai.gr hC;replace a3:=a3.gr hC;refine Zi (Zrm 10 dg ((ai.toSlF (Zn.int .u32)).froz 8) ((a3.froz 5 (by decide)).toSlF (Zn.int .u32))) ?_;rintro _ ej ⟨dh,ek,el,rfl,bh,aq⟩;refine ⟨_,rfl,?_⟩;replace aq:=aq.thaw (Z3 .u32) bh (((Fz.refl (col:=(Zl ak (Xk aj 9 (Zl ae af))))).froz 5).froz 8) (by decide);replace bh:=bh.thawR (col:=(Zl ak (Xk aj 9 (Zl ae af))));generalize Xf ct.heap.size (Zl ak (Xk aj 9 (Zl ae af))) dh=cu at *;refine Zk<|Xp cu hC0 bh<|xe rfl rfl ?_;intro em hC0
 replace ab:=(ab.gr hC).gr bh;replace aa:=(aa.grow hC).grow bh;have hC:=hC0.bl cu;obtain ⟨en,di,hm⟩:=bZ hm;replace aa:=aa.grow hC;refine Zi (Zax 11 di (bj.ks aa) (b7.ks aa)) ?_;rintro _ eo ⟨cv,ep,eq,rfl,cb,bz⟩;refine ⟨_,rfl,?_⟩;refine Zk<|Xp cv hC0 cb<|xe rfl rfl ?_;intro er hC0;replace aq:=(aq.gr hC).gr cb;replace ab:=(ab.gr hC).gr cb;have hC:=hC0.bl cv;obtain ⟨es,dj,hm⟩:=bZ hm;replace aa:=(aa.grow cb).grow hC;refine Zi (Zax 12 dj (bk.ks aa) (b8.ks aa)) ?_;rintro _ et ⟨b0,eu,ew,rfl,b1,co⟩;refine ⟨_,rfl,?_⟩;refine Zk<|Xp b0 hC0 b1<|xe rfl rfl ?_;intro dk hC0;replace aq:=(aq.gr hC).gr b1;replace bz:=(bz.gr hC).gr b1;replace ab:=(ab.gr hC).gr b1;have hC:=hC0.bl b0;obtain ⟨ey,dl,hm⟩:=bZ hm;replace bz:=bz.gr hC;replace co:=co.gr hC;refine Zi (Zom 13 dl ((bz.toSlF (Zn.int .u32)).froz 12) ((co.froz 11 (by decide)).toSlF (Zn.int .u32))) ?_;rintro _ ez ⟨dm,e0,e1,rfl,a7,b2⟩;refine ⟨_,rfl,?_⟩;replace b2:=b2.thaw (Z3 .u32) a7 (((Fz.refl (col:=b0)).froz 11).froz 12) (by decide);replace a7:=a7.thawR (col:=b0);generalize Xf dk.heap.size b0 dm=bi at *;refine Zk<|Xp bi hC0 a7<|xe rfl rfl ?_;intro dn hC0;replace aa:=((aa.grow b1).grow hC).grow a7;replace aq:=(aq.gr hC).gr a7;replace ab:=(ab.gr hC).gr a7;have hC:=hC0.bl bi;obtain ⟨e2,dp,hm⟩:=bZ hm;replace aq:=aq.gr hC;replace b2:=b2.gr hC;refine Zi (Zoo 14 15 dp ((aq.toSlF (Zn.int .u32)).froz 13) ((b2.froz 10 (by decide)).toSlF (Zn.int .u32))) ?_;rintro _ e3 ⟨dq,e4,e5,e6,e7,rfl,a8,a9,ba⟩;refine ⟨_,rfl,?_⟩;replace a9:=a9.thaw (Z3 .u32) a8 (((Fz.refl (col:=bi)).froz 10).froz 13) (by decide);replace ba:=ba.thaw (Z3 .u32) a8 (((Fz.refl (col:=bi)).froz 10).froz 13) (by decide);replace a8:=a8.thawR (col:=bi);generalize Xf dn.heap.size bi dq=cc at *;refine Zk<|Xp cc hC0 a8<|xe rfl rfl ?_;intro e8 hC0;replace ab:=(ab.gr hC).gr a8;replace aa:=(aa.grow hC).grow a8;have hC:=hC0.bl cc;replace ab:=ab.gr hC;refine Z4 ab ?_
 intro e9 cp dr cq;refine Zk<|xk cc<|Y9 ?_;replace a9:=(a9.gr hC).kp cp;replace ba:=(ba.gr hC).kp cp;replace aa:=(aa.grow hC).kp cp dr;intro fa hC;replace hC:=hC.bl cc;refine We ?_;cases hm;replace a9:=a9.gr hC;replace ba:=ba.gr hC;replace cq:=cq.gr hC;replace aa:=aa.grow hC;exact ⟨rfl,_,ra cq.atN,_,_,_,_,_,rfl,aa.fin (cm [(14,c1),(15,c2)]),aa.fo a9,aa.fo ba⟩
def Zj8 (N:Nat) (aa:R4):Option R4:=
  (Sp N (!aa.1) aa.2).bind fun ab=>some (ab.1,ab.2)
theorem Z06 {N ag:Nat} {ah:Option Addr} {col:Zd} {w0:World} {ab r:R4} (c1:Nat) (hm:Zj8 N ab=some r) (ad:Sl (Za.int .u32) col w0 ah ag ab.2):
    Calls prog 224 #[(.agg #[.bool ab.1,.slice ah ab.2.length ag])] w0 (fun e w'=>∃ (col':Zd) (ra1:Option Addr) (rc2:Nat),e= .returned ((.agg #[.bool r.1,.slice ra1 r.2.length rc2]))∧Zg col w0 col' w'∧Zc (Za.int .u32) 79 c1 col' w' ra1 rc2 r.2):=by
 refine Ym (m:=9) func224 rfl rfl rfl ?_;rw [Zj8.eq_1] at hm;have aa:=St.start col w0;refine go ?_;refine Xg (col:=(Zh col)) 1 rfl ?_;intro aq ar al am ac;refine Xl (col:=al) #[.bool false,.slice none (([]:List Int).length) 0] 2 zeroValue45 ?_;intro au av aw ai ae;refine go ?_;refine Xd ⟨_,_,rfl⟩ ?_;replace ac:=ac.gr ai;refine lW ((ac.atN).nth (q:=0) rfl)<|go ?_;refine Xa ac ?_;obtain ⟨ax,an,hm⟩:=bZ hm;replace ad:=ad.keep (Zf.start col w0);replace aa:=(aa.grow am).grow ai;refine Zi (Zb3 3 an (ad.ks aa)) ?_;rintro _ ay ⟨az,a0,a1,rfl,aj,af⟩;refine ⟨_,rfl,?_⟩;replace ae:=ae.gr aj;refine Z4 ae ?_;intro a2 ak ao ap;refine go ?_;cases hm;replace aa:=(aa.grow aj).kp ak ao;replace af:=af.kp ak;exact ⟨rfl,_,ra ap.atN,_,_,_,rfl,aa.fin (cm [(3,c1)]),aa.fo af⟩
def Zcw (N:Nat) (aa:R1) (ab:R1):Option R1:=
  (Zbk N (aa.1.1,aa.1.2) (ab.1.1,ab.1.2)).bind fun ad=>(T0 N ((aa.1.1,aa.1.2),aa.2)).bind fun ae=>(T0 N ((ab.1.1,ab.1.2),ab.2)).bind fun af=>(Zcs N ae af).bind fun ag=>(Ze1 N (ad.1,ad.2) ag).bind fun ac=>some ((ac.1.1,ac.1.2),ac.2)
theorem Zrr {N ax a8 ay a9:Nat} {az ba a0 bb:Option Addr} {col:Zd} {w0:World} {ad ae r:R1} (c1 c2:Nat) (hm:Zcw N ad ae=some r) (ap:Sl (Za.int .u32) col w0 az ax ad.1.2) (a1:Sl (Za.int .u32) col w0 ba a8 ad.2) (aq:Sl (Za.int .u32) col w0 a0 ay ae.1.2) (a2:Sl (Za.int .u32) col w0 bb a9 ae.2):
    Calls prog 200 #[(.agg #[.bool ad.1.1,.slice az ad.1.2.length ax,.slice ba ad.2.length a8]),(.agg #[.bool ae.1.1,.slice a0 ae.1.2.length ay,.slice bb ae.2.length a9])] w0 (fun e w'=>∃ (col':Zd) (ra1:Option Addr) (rc2:Nat) (ra4:Option Addr) (rc5:Nat),e= .returned ((.agg #[.bool r.1.1,.slice ra1 r.1.2.length rc2,.slice ra4 r.2.length rc5]))∧Zg col w0 col' w'∧Zc (Za.int .u32) 79 c1 col' w' ra1 rc2 r.1.2∧Zc (Za.int .u32) 79 c2 col' w' ra4 rc5 r.2):=by
 refine Ym (m:=16) func200 rfl rfl rfl ?_;rw [Zcw.eq_1] at hm;have aa:=St.start col w0;refine go ?_;refine Xg (col:=(Zh col)) 1 rfl ?_;intro bt bu bf bg ar;refine Xg (col:=bf) 2 rfl ?_;intro bv bw bh bc au;refine Xl (col:=bh) #[.bool false,.slice none (([]:List Int).length) 0,.slice none (([]:List Int).length) 0] 3 zeroValue47 ?_;intro bx bz aj a3 ab;refine go ?_;refine Wh (col:=aj) [(0,1),(1,0),(2,1),(3,0),(5,0),(7,0),(4,3),(6,3),(8,3),(9,3),(10,3),(11,2)] (by kernel_rfl) (by kernel_rfl)<|xF ⟨_,_,rfl⟩ ?_;replace ar:=(ar.gr bc).gr a3;refine xv (v:=(.agg #[.bool ad.1.1,.slice az ad.1.2.length ax])) rfl rfl (fun _ hC=>Yj isAgg45 sizeOf45 rfl rfl (((ar.atN).part 0 2 _ rfl).gr (hC.bl aj))) ?_;refine xF ⟨_,_,rfl⟩ ?_;replace au:=au.gr a3;refine xv (v:=(.agg #[.bool ae.1.1,.slice a0 ae.1.2.length ay])) rfl rfl (fun _ hC=>Yj isAgg45 sizeOf45 rfl rfl (((au.atN).part 0 2 _ rfl).gr (hC.bl aj))) ?_;refine xv rfl rfl (fun _ hC=>Z7 isAgg47 sizeOf47 (ar.gr (hC.bl aj))) ?_;refine xv rfl rfl (fun _ hC=>Z7 isAgg47 sizeOf47 (au.gr (hC.bl aj))) ?_;refine xe rfl rfl ?_;intro b0 hC0;have hC:=hC0.bl aj;obtain ⟨b1,bi,hm⟩:=bZ hm;replace ap:=ap.keep (Zf.start col w0);replace aq:=aq.keep (Zf.start col w0);replace aa:=(((aa.grow bg).grow bc).grow a3).grow hC;refine Zi (Zjc 4 bi (ap.ks aa) (aq.ks aa)) ?_;rintro _ b2 ⟨bd,b3,b4,rfl,a4,ac⟩;refine ⟨_,rfl,?_⟩;refine Zk<|Xp bd hC0 a4<|xe rfl rfl ?_;intro b5 hC0;replace ab:=(ab.gr hC).gr a4;have hC:=hC0.bl bd;obtain ⟨b6,bj,hm⟩:=bZ hm;replace a1:=a1.keep (Zf.start col w0);replace aa:=(aa.grow a4).grow hC;refine Zi (Zax 5 bj (ap.ks aa) (a1.ks aa)) ?_;rintro _ b7 ⟨be,b8,b9,rfl,av,al⟩;refine ⟨_,rfl,?_⟩;refine Zk<|Xp be hC0 av<|xe rfl rfl ?_;intro ca hC0;replace ac:=(ac.gr hC).gr av;replace ab:=(ab.gr hC).gr av;have hC:=hC0.bl be;obtain ⟨cb,bk,hm⟩:=bZ hm;replace a2:=a2.keep (Zf.start col w0);replace aa:=(aa.grow av).grow hC;refine Zi (Zax 6 bk (aq.ks aa) (a2.ks aa)) ?_;rintro _ cc ⟨am,cd,ce,rfl,an,a5⟩;refine ⟨_,rfl,?_⟩;refine Zk<|Xp am hC0 an<|xe rfl rfl ?_;intro bm hC0;replace ac:=(ac.gr hC).gr an;replace al:=(al.gr hC).gr an
 replace ab:=(ab.gr hC).gr an;have hC:=hC0.bl am;obtain ⟨cf,bn,hm⟩:=bZ hm;replace al:=al.gr hC;replace a5:=a5.gr hC;refine Zi (Zom 7 bn ((al.toSlF (Zn.int .u32)).froz 6) ((a5.froz 5 (by decide)).toSlF (Zn.int .u32))) ?_;rintro _ cg ⟨bo,ch,ci,rfl,af,ao⟩;refine ⟨_,rfl,?_⟩;replace ao:=ao.thaw (Z3 .u32) af (((Fz.refl (col:=am)).froz 5).froz 6) (by decide);replace af:=af.thawR (col:=am);generalize Xf bm.heap.size am bo=ak at *;refine Zk<|Xp ak hC0 af<|xe rfl rfl ?_;intro bp hC0;replace aa:=((aa.grow an).grow hC).grow af;replace ac:=(ac.gr hC).gr af;replace ab:=(ab.gr hC).gr af;have hC:=hC0.bl ak;obtain ⟨cj,bq,hm⟩:=bZ hm;replace ac:=ac.gr hC;replace ao:=ao.gr hC;refine Zi (Zoo 8 9 bq ((ac.toSlF (Zn.int .u32)).froz 7) ((ao.froz 4 (by decide)).toSlF (Zn.int .u32))) ?_;rintro _ ck ⟨br,cl,cn,co,cp,rfl,ag,ah,ai⟩;refine ⟨_,rfl,?_⟩;replace ah:=ah.thaw (Z3 .u32) ag (((Fz.refl (col:=ak)).froz 4).froz 7) (by decide);replace ai:=ai.thaw (Z3 .u32) ag (((Fz.refl (col:=ak)).froz 4).froz 7) (by decide);replace ag:=ag.thawR (col:=ak);generalize Xf bp.heap.size ak br=aw at *;refine Zk<|Xp aw hC0 ag<|xe rfl rfl ?_;intro cq hC0;replace ab:=(ab.gr hC).gr ag;replace aa:=(aa.grow hC).grow ag;have hC:=hC0.bl aw;replace ab:=ab.gr hC;refine Z4 ab ?_;intro cr a6 bs a7;refine Zk<|xk aw<|Y9 ?_;replace ah:=(ah.gr hC).kp a6;replace ai:=(ai.gr hC).kp a6;replace aa:=(aa.grow hC).kp a6 bs;intro cs hC;replace hC:=hC.bl aw;refine We ?_;cases hm;replace ah:=ah.gr hC;replace ai:=ai.gr hC;replace a7:=a7.gr hC;replace aa:=aa.grow hC;exact ⟨rfl,_,ra a7.atN,_,_,_,_,_,rfl,aa.fin (cm [(8,c1),(9,c2)]),aa.fo ah,aa.fo ai⟩
def Zka (N:Nat) (aa:R4) (ab:R4):Option R4:=
  (Zj8 N (ab.1,ab.2)).bind fun ac=>(Zhx N (aa.1,aa.2) (ac.1,ac.2)).bind fun ad=>some (ad.1,ad.2)
theorem Z08 {N ar au:Nat} {av aw:Option Addr} {col:Zd} {w0:World} {af ag r:R4} (c1:Nat) (hm:Zka N af ag=some r) (aj:Sl (Za.int .u32) col w0 av ar af.2) (ak:Sl (Za.int .u32) col w0 aw au ag.2):
    Calls prog 269 #[(.agg #[.bool af.1,.slice av af.2.length ar]),(.agg #[.bool ag.1,.slice aw ag.2.length au])] w0 (fun e w'=>∃ (col':Zd) (ra1:Option Addr) (rc2:Nat),e= .returned ((.agg #[.bool r.1,.slice ra1 r.2.length rc2]))∧Zg col w0 col' w'∧Zc (Za.int .u32) 79 c1 col' w' ra1 rc2 r.2):=by
 refine Ym (m:=9) func269 rfl rfl rfl ?_;rw [Zka.eq_1] at hm;have aa:=St.start col w0;refine go ?_;refine Xg (col:=(Zh col)) 1 rfl ?_;intro a7 a8 az a0 al;refine Xg (col:=az) 2 rfl ?_;intro a9 ba a1 ax am;refine Xl (col:=a1) #[.bool false,.slice none (([]:List Int).length) 0] 3 zeroValue45 ?_;intro bb bc ah an ab;refine go ?_;refine Wh (col:=ah) [(0,0),(1,0),(2,3),(3,3),(4,2)] (by kernel_rfl) (by kernel_rfl) ?_;replace al:=(al.gr ax).gr an;refine xv rfl rfl (fun _ hC=>Z7 isAgg45 sizeOf45 (al.gr (hC.bl ah))) ?_;replace am:=am.gr an;refine xv rfl rfl (fun _ hC=>Z7 isAgg45 sizeOf45 (am.gr (hC.bl ah))) ?_;refine xe rfl rfl ?_;intro bd hC0;have hC:=hC0.bl ah;obtain ⟨be,a2,hm⟩:=bZ hm;replace ak:=ak.keep (Zf.start col w0);replace aa:=(((aa.grow a0).grow ax).grow an).grow hC;refine Zi (Z06 4 a2 (ak.ks aa)) ?_;rintro _ bf ⟨ae,bg,bh,rfl,ao,ap⟩;refine ⟨_,rfl,?_⟩;refine Zk<|Xp ae hC0 ao<|xe rfl rfl ?_;intro a3 hC0;replace ab:=(ab.gr hC).gr ao;have hC:=hC0.bl ae;obtain ⟨bi,a4,hm⟩:=bZ hm;replace aj:=aj.keep (Zf.start col w0);replace aa:=(aa.grow ao).grow hC;replace ap:=ap.gr hC;refine Zi (Zrm 5 a4 ((aj.ks aa).froz 4) (ap.toSlF (Zn.int .u32))) ?_;rintro _ bj ⟨a5,bk,bm,rfl,ad,ac⟩;refine ⟨_,rfl,?_⟩;replace ac:=ac.thaw (Z3 .u32) ad ((Fz.refl (col:=ae)).froz 4) (by decide);replace ad:=ad.thawR (col:=ae);generalize Xf a3.heap.size ae a5=ai at *;refine Zk<|Xp ai hC0 ad<|xe rfl rfl ?_;intro bn hC0;replace ab:=(ab.gr hC).gr ad;have hC:=hC0.bl ai;replace ab:=ab.gr hC;refine Z4 ab ?_;intro bo ay a6 aq;refine Zk<|xk ai<|Y9 ?_;replace aa:=((aa.grow ad).grow hC).kp ay a6;replace ac:=(ac.gr hC).kp ay;intro bp hC;replace hC:=hC.bl ai;refine We ?_;cases hm;replace ac:=ac.gr hC;replace aq:=aq.gr hC;replace aa:=aa.grow hC;exact ⟨rfl,_,ra aq.atN,_,_,_,rfl,aa.fin (cm [(5,c1)]),aa.fo ac⟩
def Zex (N:Nat) (aa:R4):Option Int:=
  (Zhz N (aa.1,aa.2)).bind fun ab=>if (decide ((ab.2.length:Int)=0))=true then (some 0) else (if ab.1=true then (some (-1)) else (some 1))
theorem Zon {N ad:Nat} {ae:Option Addr} {col:Zd} {w0:World} {ab:R4} {r:Int} (hm:Zex N ab=some r) (ac:Sl (Za.int .u32) col w0 ae ad ab.2):
    Calls prog 204 #[(.agg #[.bool ab.1,.slice ae ab.2.length ad])] w0 (fun e w'=>e= .returned ((.int .i64 r))∧Below w0.heap.size w0 w'):=by
 refine Xc 2 (m:=12) func204 rfl rfl rfl rfl rfl ?_;rw [Zex.eq_1] at hm;have aa:=St.start col w0;refine go ?_;refine Xg (col:=(Zh col)) 1 rfl ?_;intro ap aq ar ag ah;refine go ?_;refine lV _ (Z7 isAgg45 sizeOf45 ah) ?_;obtain ⟨au,ai,hm⟩:=bZ hm;replace ac:=ac.keep (Zf.start col w0);replace aa:=aa.grow ag;refine Zi (Zrn 2 ai (ac.ks aa)) ?_;rintro _ av ⟨aj,aw,ax,rfl,ak,ay⟩;refine ⟨_,rfl,?_⟩;refine Xl (col:=aj) #[.bool false,.slice none (([]:List Int).length) 0] 3 zeroValue45 ?_;intro az a0 a1 al am;refine Z4 am ?_;intro a2 an ao af;refine go ?_;refine Xa af ?_;refine go ?_;replace aa:=((aa.grow ak).grow al).kp an ao;refine Zo hm (fun hb hm=>go ?_) fun hb hm=>go ?_
 ·cases hm;exact ⟨rfl,rfl,aa.below⟩
 refine Xa af<|Zk ?_;refine Zo hm (fun hb hm=>go ?_) fun hb hm=>go ?_
 ·cases hm;exact ⟨rfl,rfl,aa.below⟩
 cases hm;exact ⟨rfl,rfl,aa.below⟩
def Zj7 (N:Nat) (aa:R4) (ab:R4):Option Int:=
  (Zka N (aa.1,aa.2) (ab.1,ab.2)).bind fun ac=>(Zex N (ac.1,ac.2)).bind fun ad=>some ad
theorem Z05 {N ah ai:Nat} {aj ak:Option Addr} {col:Zd} {w0:World} {ab ac:R4} {r:Int} (hm:Zj7 N ab ac=some r) (ad:Sl (Za.int .u32) col w0 aj ah ab.2) (ae:Sl (Za.int .u32) col w0 ak ai ac.2):
    Calls prog 205 #[(.agg #[.bool ab.1,.slice aj ab.2.length ah]),(.agg #[.bool ac.1,.slice ak ac.2.length ai])] w0 (fun e w'=>e= .returned ((.int .i64 r))∧Below w0.heap.size w0 w'):=by
 refine Xc 4 (m:=9) func205 rfl rfl rfl rfl rfl ?_;rw [Zj7.eq_1] at hm;have aa:=St.start col w0;refine go ?_;refine Xg (col:=(Zh col)) 1 rfl ?_;intro ay az an ao af;refine Xg (col:=an) 2 rfl ?_;intro a0 a1 a2 al ap;refine go ?_;replace af:=af.gr al;refine lV _ (Z7 isAgg45 sizeOf45 af)<|lV _ (Z7 isAgg45 sizeOf45 ap) ?_;obtain ⟨a3,aq,hm⟩:=bZ hm;replace ad:=ad.keep (Zf.start col w0);replace ae:=ae.keep (Zf.start col w0);replace aa:=(aa.grow ao).grow al;refine Zi (Z08 3 aq (ad.ks aa) (ae.ks aa)) ?_;rintro _ ar ⟨am,a4,a5,rfl,au,av⟩;refine ⟨_,rfl,?_⟩;obtain ⟨a6,aw,hm⟩:=bZ hm;refine Zi (Zon aw (av.toSlF (Zn.int .u32))) ?_;rintro _ ax ⟨rfl,ag⟩;refine ⟨_,rfl,?_⟩;replace ag:Zg am ar am ax:=.of_below ag;refine go ?_;cases hm;replace aa:=(aa.grow au).grow ag;exact ⟨rfl,rfl,aa.below⟩
def Zh1 (N:Nat) (aa:R1) (ab:R1):Option Int:=
  (T0 N ((ab.1.1,ab.1.2),ab.2)).bind fun ag=>(Zai ag).bind fun ac=>(Zbk N (aa.1.1,aa.1.2) (ac.1,ac.2)).bind fun ad=>(T0 N ((aa.1.1,aa.1.2),aa.2)).bind fun ah=>(Zai ah).bind fun ae=>(Zbk N (ab.1.1,ab.1.2) (ae.1,ae.2)).bind fun af=>(Zj7 N (ad.1,ad.2) (af.1,af.2)).bind fun ai=>some ai
theorem Zrq {N am a0 an a1:Nat} {ao a2 ap a3:Option Addr} {col:Zd} {w0:World} {ac ad:R1} {r:Int} (hm:Zh1 N ac ad=some r) (ai:Sl (Za.int .u32) col w0 ao am ac.1.2) (aq:Sl (Za.int .u32) col w0 a2 a0 ac.2) (aj:Sl (Za.int .u32) col w0 ap an ad.1.2) (ar:Sl (Za.int .u32) col w0 a3 a1 ad.2):
    Calls prog 94 #[(.agg #[.bool ac.1.1,.slice ao ac.1.2.length am,.slice a2 ac.2.length a0]),(.agg #[.bool ad.1.1,.slice ap ad.1.2.length an,.slice a3 ad.2.length a1])] w0 (fun e w'=>e= .returned ((.int .i64 r))∧Below w0.heap.size w0 w'):=by
 refine Xc 4 (m:=18) func94 rfl rfl rfl rfl rfl ?_;rw [Zh1.eq_1] at hm;have aa:=St.start col w0;refine go ?_;refine Xg (col:=(Zh col)) 1 rfl ?_;intro bq br be bf ak;refine Xg (col:=be) 2 rfl ?_;intro bs bt ae a4 a5;refine go ?_;refine Wh (col:=ae) [(0,1),(1,0),(2,0),(6,1),(7,0),(8,0),(3,3),(4,3),(5,3),(9,3),(10,3),(11,3),(12,3),(13,1)] (by kernel_rfl) (by kernel_rfl)<|xF ⟨_,_,rfl⟩ ?_;replace ak:=ak.gr a4;refine xv (v:=(.agg #[.bool ac.1.1,.slice ao ac.1.2.length am])) rfl rfl (fun _ hC=>Yj isAgg45 sizeOf45 rfl rfl (((ak.atN).part 0 2 _ rfl).gr (hC.bl ae))) ?_;refine xv rfl rfl (fun _ hC=>Z7 isAgg47 sizeOf47 (a5.gr (hC.bl ae))) ?_;refine xF ⟨_,_,rfl⟩ ?_;refine xv (v:=(.agg #[.bool ad.1.1,.slice ap ad.1.2.length an])) rfl rfl (fun _ hC=>Yj isAgg45 sizeOf45 rfl rfl (((a5.atN).part 0 2 _ rfl).gr (hC.bl ae))) ?_;refine xv rfl rfl (fun _ hC=>Z7 isAgg47 sizeOf47 (ak.gr (hC.bl ae))) ?_;refine xe rfl rfl ?_;intro bu hC0;have hC:=hC0.bl ae;obtain ⟨bv,bg,hm⟩:=bZ hm;replace aj:=aj.keep (Zf.start col w0);replace ar:=ar.keep (Zf.start col w0);replace aa:=((aa.grow bf).grow a4).grow hC;refine Zi (Zax 3 bg (aj.ks aa) (ar.ks aa)) ?_;rintro _ bw ⟨a6,bx,bz,rfl,a7,ag⟩;refine ⟨_,rfl,?_⟩;refine Zk<|Xp a6 hC0 a7<|xe rfl rfl ?_;intro b0 hC0;have hC:=hC0.bl a6;replace ag:=ag.gr hC;replace ag:=(ag).toSlF (Zn.int .u32);replace aa:=(aa.grow a7).grow hC;replace aa:=aa.froz 3 (by decide) (by decide);obtain ⟨b1,bh,hm⟩:=bZ hm;refine Zi (Zlv bh ag) ?_;rintro _ b2 ⟨a8,b3,b4,rfl,a9,au⟩;refine ⟨_,rfl,?_⟩;refine Zk<|Xp a8 hC0 a9<|xe rfl rfl ?_;intro b5 hC0;have hC:=hC0.bl a8;obtain ⟨b6,bi,hm⟩:=bZ hm;replace ai:=ai.keep (Zf.start col w0);replace aa:=(aa.grow a9).grow hC;replace au:=au.gr hC;refine Zi (Zjc 4 bi (ai.ks aa) au) ?_;rintro _ b7 ⟨ba,b8,b9,rfl,bb,ab⟩;refine ⟨_,rfl,?_⟩;refine Zk<|Xp ba hC0 bb<|xe rfl rfl ?_;intro ca hC0;have hC:=hC0.bl ba;obtain ⟨cb,bj,hm⟩:=bZ hm;replace aq:=aq.keep (Zf.start col w0);replace aa:=(aa.grow bb).grow hC;refine Zi (Zax 5 bj (ai.ks aa) (aq.ks aa)) ?_;rintro _ cc ⟨bc,cd,ce,rfl,av,ah⟩;refine ⟨_,rfl,?_⟩
 refine Zk<|Xp bc hC0 av<|xe rfl rfl ?_;intro cf hC0;replace ab:=(ab.gr hC).gr av;have hC:=hC0.bl bc;replace ab:=ab.gr hC;replace ab:=ab.froz 5 (by decide);replace ah:=ah.gr hC;replace ah:=(ah).toSlF (Zn.int .u32);replace aa:=(aa.grow av).grow hC;replace aa:=aa.froz 5 (by decide) (by decide);obtain ⟨cg,bk,hm⟩:=bZ hm;refine Zi (Zlv bk ah) ?_;rintro _ ch ⟨bd,ci,cj,rfl,aw,ax⟩;refine ⟨_,rfl,?_⟩;refine Zk<|Xp bd hC0 aw<|xe rfl rfl ?_;intro ck hC0;have hC:=hC0.bl bd;obtain ⟨cl,bm,hm⟩:=bZ hm;replace aa:=(aa.grow aw).grow hC;replace ax:=ax.gr hC;refine Zi (Zjc 6 bm (aj.ks aa) ax) ?_;rintro _ cn ⟨af,co,cp,rfl,ay,az⟩;refine ⟨_,rfl,?_⟩;refine Zk<|Xp af hC0 ay<|xe rfl rfl ?_;intro bn hC0;replace ab:=((ab.gr aw).gr hC).gr ay;have hC:=hC0.bl af;obtain ⟨cq,bo,hm⟩:=bZ hm;replace ab:=ab.gr hC;replace az:=az.gr hC;refine Zi (Z05 bo ((ab.toSlF (Zn.int .u32)).froz 6) ((az.froz 4 (by decide)).toSlF (Zn.int .u32))) ?_;rintro _ bp ⟨rfl,al⟩;refine ⟨_,rfl,?_⟩;replace al:Zg af bn af bp:=.of_below al;refine Zk<|Xp af hC0 al<|xu rfl rfl (fun _=>Zp3 rfl) ?_;refine Y9 ?_;replace aa:=((aa.grow ay).grow hC).grow al;intro cr hC;replace hC:=hC.bl af;refine We ?_;cases hm;replace aa:=aa.grow hC;exact ⟨rfl,rfl,aa.below⟩
def Zh0 (N:Nat) (aa:Int):Option R4:=
  if (decide (0≤aa))=true then ((Zhs N (u64.wrap aa)).bind fun ad=>(Sp N false ad).bind fun ab=>some (ab.1,ab.2)) else ((Zhs N (u64.wrap (i64.wrap (-(i64.wrap (aa+1)))))).bind fun ae=>(Zhl N ae [1]).bind fun af=>(Sp N true af).bind fun ac=>some (ac.1,ac.2))
theorem Zro {N:Nat} {col:Zd} {w0:World} {an:Int} {r:R4} (c1:Nat) (hm:Zh0 N an=some r):
    Calls prog 125 #[.int .i64 an] w0 (fun e w'=>∃ (col':Zd) (ra1:Option Addr) (rc2:Nat),e= .returned ((.agg #[.bool r.1,.slice ra1 r.2.length rc2]))∧Zg col w0 col' w'∧Zc (Za.int .u32) 79 c1 col' w' ra1 rc2 r.2):=by
 refine Ym (m:=17) func125 rfl rfl rfl ?_;rw [Zh0.eq_1] at hm;have aa:=St.start col w0;refine go ?_;refine Xl (col:=(Zh col)) #[.bool false,.slice none (([]:List Int).length) 0] 1 zeroValue45 ?_;intro be bf ao av ab;refine go ?_;replace aa:=aa.grow av;refine Zo hm (fun hb hm=>go ?_) fun hb hm=>go ?_
 ·obtain ⟨bg,aw,hm⟩:=bZ hm;refine Zi (Zrj (col:=ao) 2 aw) ?_;rintro _ ax ⟨ah,bh,bi,rfl,ap,ay⟩;refine ⟨_,rfl,?_⟩;obtain ⟨bj,az,hm⟩:=bZ hm;refine Zi (Zb3 3 az (ay.toSlF (Zn.int .u32))) ?_;rintro _ bk ⟨a0,bm,bn,rfl,ac,ad⟩;refine ⟨_,rfl,?_⟩;replace ad:=ad.thaw (Z3 .u32) ac ((Fz.refl (col:=ah)).froz 2) (by decide);replace ac:=ac.thawR (col:=ah);generalize Xf ax.heap.size ah a0=bo at *;replace ab:=(ab.gr ap).gr ac;refine Z4 ab ?_;intro bp aq a1 a2;refine go ?_;cases hm;replace aa:=((aa.grow ap).grow ac).kp aq a1;replace ad:=ad.kp aq;exact ⟨rfl,_,ra a2.atN,_,_,_,rfl,aa.fin (cm [(3,c1)]),aa.fo ad⟩
 obtain ⟨bq,a3,hm⟩:=bZ hm;refine Zi (Zrj (col:=ao) 4 a3) ?_;rintro _ br ⟨a4,bs,bt,rfl,ar,ai⟩;refine ⟨_,rfl,?_⟩;refine W1 (col:=a4) [1] 5 ?_;intro bu a5 aj ak a6;obtain ⟨bv,a7,hm⟩:=bZ hm;replace ai:=ai.gr ak;refine Zi (Zrh 6 a7 ((ai.toSlF (Zn.int .u32)).froz 5) ((a6.froz 4 (by decide)).toSlF (Zn.int .u32))) ?_;rintro _ a8 ⟨a9,bw,bx,rfl,ae,al⟩;refine ⟨_,rfl,?_⟩;replace al:=al.thaw (Z3 .u32) ae (((Fz.refl (col:=aj)).froz 4).froz 5) (by decide);replace ae:=ae.thawR (col:=aj);generalize Xf a5.heap.size aj a9=am at *;obtain ⟨bz,ba,hm⟩:=bZ hm;refine Zi (Zb3 7 ba (al.toSlF (Zn.int .u32))) ?_;rintro _ b0 ⟨bb,b1,b2,rfl,af,ag⟩;refine ⟨_,rfl,?_⟩;replace ag:=ag.thaw (Z3 .u32) af ((Fz.refl (col:=am)).froz 6) (by decide);replace af:=af.thawR (col:=am);generalize Xf a8.heap.size am bb=b3 at *;replace ab:=(((ab.gr ar).gr ak).gr ae).gr af;refine Z4 ab ?_;intro b4 au bc bd;refine go ?_;cases hm;replace aa:=((((aa.grow ar).grow ak).grow ae).grow af).kp au bc;replace ag:=ag.kp au;exact ⟨rfl,_,ra bd.atN,_,_,_,rfl,aa.fin (cm [(7,c1)]),aa.fo ag⟩
def Zmp (N:Nat) (ac:R4) (aa:R4):Option (R1×Int):=
  (Zex N (aa.1,aa.2)).bind fun ad=>if (decide (ad=0))=true then (some (((false,([]:List Int)),([]:List Int)),11)) else ((Ze1 N (!decide (ac.1=aa.1),ac.2) aa.2).bind fun ab=>some (((ab.1.1,ab.1.2),ab.2),0))
theorem Z1a {N ai ap:Nat} {aj aq:Option Addr} {col:Zd} {w0:World} {ac af:R4} {r:(R1×Int)} (c1 c2:Nat) (hm:Zmp N ac af=some r) (ak:Sl (Za.int .u32) col w0 aj ai ac.2) (ag:Sl (Za.int .u32) col w0 aq ap af.2):
    Calls prog 222 #[(.agg #[.bool ac.1,.slice aj ac.2.length ai]),(.agg #[.bool af.1,.slice aq af.2.length ap])] w0 (fun e w'=>∃ (col':Zd) (ra1:Option Addr) (rc2:Nat) (ra4:Option Addr) (rc5:Nat),e= .returned (.tuple #[(.agg #[.bool r.1.1.1,.slice ra1 r.1.1.2.length rc2,.slice ra4 r.1.2.length rc5]),.int .i64 r.2])∧Zg col w0 col' w'∧Zc (Za.int .u32) 79 c1 col' w' ra1 rc2 r.1.1.2∧Zc (Za.int .u32) 79 c2 col' w' ra4 rc5 r.1.2):=by
 refine Ym (m:=21) func222 rfl rfl rfl ?_;rw [Zmp.eq_1] at hm;have aa:=St.start col w0;refine go ?_;refine Xg (col:=(Zh col)) 1 rfl ?_;intro a8 a9 aw ax ah;refine Xg (col:=aw) 2 rfl ?_;intro ba bb ay ar ab;refine Xl (col:=ay) #[.bool false,.slice none (([]:List Int).length) 0,.slice none (([]:List Int).length) 0] 3 zeroValue47 ?_;intro bc az au al ad;refine go ?_;replace ab:=ab.gr al;refine lV _ (Z7 isAgg45 sizeOf45 ab) ?_;obtain ⟨bd,a0,hm⟩:=bZ hm;replace ag:=ag.keep (Zf.start col w0);replace aa:=((aa.grow ax).grow ar).grow al;refine Zi (Zon a0 (ag.ks aa)) ?_;rintro _ a1 ⟨rfl,ae⟩;refine ⟨_,rfl,?_⟩;replace ae:Zg au az au a1:=.of_below ae;refine go ?_;replace ak:=ak.keep (Zf.start col w0);replace ah:=((ah.gr ar).gr al).gr ae;replace ab:=ab.gr ae;replace ad:=ad.gr ae;replace aa:=aa.grow ae;refine Zo hm (fun hb hm=>go ?_) fun hb hm=>go ?_
 ·refine lV (.agg #[.bool false,.slice none (([]:List Int).length) 0,.slice none (([]:List Int).length) 0]) (Yz (l:=[_,_]) (qs:=[(0,2),(2,1)]) underlying47 zeroValue47 ⟨rfl,sizeOf45,rfl,sizeOf43,trivial⟩ rfl)<|Z4 ad ?_;intro be a2 a3 a4;refine go ?_;cases hm;replace aa:=aa.kp a2 a3;exact ⟨rfl,_,W7 a4.atN,_,none,0,none,0,rfl,aa.fin (cm []),Zc.nil,Zc.nil⟩
 refine Xa ah<|Xa ab ?_;refine go ?_;refine Xa ah<|lV (.agg #[.bool (!decide (ac.1=af.1)),.slice aj ac.2.length ai]) (Yz (l:=[_,_]) (qs:=[(0,1),(1,1)]) underlying45 zeroValue45 ⟨rfl,sizeOf4,rfl,sizeOf43,trivial⟩ rfl)<|Xa ab ?_;obtain ⟨bf,a5,hm⟩:=bZ hm;refine Zi (Zoo 4 5 a5 (ak.ks aa) (ag.ks aa)) ?_;rintro _ bg ⟨bh,bi,bj,bk,bm,rfl,av,am,an⟩;refine ⟨_,rfl,?_⟩;replace ad:=ad.gr av;refine Z4 ad ?_;intro bn ao a6 a7;refine go ?_;cases hm;replace aa:=(aa.grow av).kp ao a6;replace am:=am.kp ao;replace an:=an.kp ao;exact ⟨rfl,_,W7 a7.atN,_,_,_,_,_,rfl,aa.fin (cm [(4,c1),(5,c2)]),aa.fo am,aa.fo an⟩
def Zmq (N:Nat) (ad:Int) (ae:Int):Option (R1×Int):=
  (Zh0 N ad).bind fun ab=>(Zh0 N ae).bind fun ac=>(Zmp N (ab.1,ab.2) (ac.1,ac.2)).bind fun aa=>some (((aa.1.1.1,aa.1.1.2),aa.1.2),aa.2)
theorem Z1b {N:Nat} {col:Zd} {w0:World} {ak al:Int} {r:(R1×Int)} (c1 c2:Nat) (hm:Zmq N ak al=some r):
    Calls prog 209 #[.int .i64 ak,.int .i64 al] w0 (fun e w'=>∃ (col':Zd) (ra1:Option Addr) (rc2:Nat) (ra4:Option Addr) (rc5:Nat),e= .returned (.tuple #[(.agg #[.bool r.1.1.1,.slice ra1 r.1.1.2.length rc2,.slice ra4 r.1.2.length rc5]),.int .i64 r.2])∧Zg col w0 col' w'∧Zc (Za.int .u32) 79 c1 col' w' ra1 rc2 r.1.1.2∧Zc (Za.int .u32) 79 c2 col' w' ra4 rc5 r.1.2):=by
 refine Ym (m:=13) func209 rfl rfl rfl ?_;rw [Zmq.eq_1] at hm;have ab:=St.start col w0;refine go ?_;refine Xl (col:=(Zh col)) #[.bool false,.slice none (([]:List Int).length) 0,.slice none (([]:List Int).length) 0] 1 zeroValue47 ?_;intro a4 a5 an ao ag;refine go ?_;obtain ⟨a6,ap,hm⟩:=bZ hm;refine Zi (Zro (col:=an) 2 ap) ?_;rintro _ a7 ⟨aq,a8,a9,rfl,am,ah⟩;refine ⟨_,rfl,?_⟩;refine Xo rfl ?_;obtain ⟨ba,ar,hm⟩:=bZ hm;refine Zi (Zro (col:=aq) 3 ar) ?_;rintro _ au ⟨ae,bb,bc,rfl,ai,av⟩;refine ⟨_,rfl,?_⟩;obtain ⟨af,aw,hm⟩:=bZ hm;replace ah:=ah.gr ai;refine Zi (Z1a 4 5 aw ((ah.toSlF (Zn.int .u32)).froz 3) ((av.froz 2 (by decide)).toSlF (Zn.int .u32))) ?_;rintro _ bd ⟨ax,ay,az,a0,a1,rfl,aa,ac,ad⟩;refine ⟨_,rfl,?_⟩;replace ac:=ac.thaw (Z3 .u32) aa (((Fz.refl (col:=ae)).froz 2).froz 3) (by decide);replace ad:=ad.thaw (Z3 .u32) aa (((Fz.refl (col:=ae)).froz 2).froz 3) (by decide);replace aa:=aa.thawR (col:=ae);generalize Xf au.heap.size ae ax=be at *;refine lV (.agg #[.bool af.1.1.1,.slice ay af.1.1.2.length az,.slice a0 af.1.2.length a1]) (Xv rfl rfl)<|lV (.int .i64 af.2) (Xv rfl rfl) ?_;replace ag:=((ag.gr am).gr ai).gr aa;refine Z4 ag ?_;intro bf aj a2 a3;refine go ?_;cases hm;replace ab:=((((ab.grow ao).grow am).grow ai).grow aa).kp aj a2;replace ac:=ac.kp aj;replace ad:=ad.kp aj;exact ⟨rfl,_,W7 a3.atN,_,_,_,_,_,rfl,ab.fin (cm [(4,c1),(5,c2)]),ab.fo ac,ab.fo ad⟩
def Zah (N:Nat) (ab:Int) (ac:Int):Option R1:=
  (Zmq N ab ac).bind fun aa=>some ((aa.1.1.1,aa.1.1.2),aa.1.2)
theorem Zlu {N:Nat} {col:Zd} {w0:World} {ai aj:Int} {r:R1} (c1 c2:Nat) (hm:Zah N ai aj=some r):
    Calls prog 95 #[.int .i64 ai,.int .i64 aj] w0 (fun e w'=>∃ (col':Zd) (ra1:Option Addr) (rc2:Nat) (ra4:Option Addr) (rc5:Nat),e= .returned ((.agg #[.bool r.1.1,.slice ra1 r.1.2.length rc2,.slice ra4 r.2.length rc5]))∧Zg col w0 col' w'∧Zc (Za.int .u32) 79 c1 col' w' ra1 rc2 r.1.2∧Zc (Za.int .u32) 79 c2 col' w' ra4 rc5 r.2):=by
 refine Ym (m:=14) func95 rfl rfl rfl ?_;rw [Zah.eq_1] at hm;have ab:=St.start col w0;refine go ?_;refine Xl (col:=(Zh col)) #[.bool false,.slice none (([]:List Int).length) 0,.slice none (([]:List Int).length) 0] 1 zeroValue47 ?_;intro a0 a1 ap aq ae;refine go ?_;obtain ⟨aa,ar,hm⟩:=bZ hm;refine Zi (Z1b (col:=ap) 2 3 ar) ?_;rintro _ a2 ⟨au,ak,al,am,an,rfl,ao,af,ag⟩;refine ⟨_,rfl,?_⟩;refine lM (.tuple #[(.agg #[.bool aa.1.1.1,.slice ak aa.1.1.2.length al,.slice am aa.1.2.length an]),.int .i64 aa.2])<|lV (.agg #[.bool aa.1.1.1,.slice ak aa.1.1.2.length al,.slice am aa.1.2.length an]) (Xv rfl rfl)<|lV (.int .i64 aa.2) (Xv rfl rfl)<|Xl (col:=au) #[.bool false,.slice none (([]:List Int).length) 0,.slice none (([]:List Int).length) 0] 4 zeroValue47 ?_;intro a3 a4 a5 ac av;refine Z4 av ?_;intro a6 ad aw ax;refine go ?_;refine lV _ (Z7 isAgg47 sizeOf47 ax) ?_;replace ae:=((ae.gr ao).gr ac).kp ad;refine Z4 ae ?_;intro a7 ah ay az;refine go ?_;cases hm;replace ab:=((((ab.grow aq).grow ao).grow ac).kp ad aw).kp ah ay;replace af:=((af.gr ac).kp ad).kp ah;replace ag:=((ag.gr ac).kp ad).kp ah;exact ⟨rfl,_,ra az.atN,_,_,_,_,_,rfl,ab.fin (cm [(2,c1),(3,c2)]),ab.fo af,ab.fo ag⟩
def Ze0 (N:Nat) (aa:R8):Nat→Bool→R2→R2→Int→Option R1
  | 0,_,_,_,_=>none
  | ah+1,ae,af,ag,ab=>if (decide (ab<(aa.length:Int)))=true then ((Zj aa ab).bind fun ac=>(Zey N ((ae,af),ag) ((ac.1.1,ac.1.2),ac.2)).bind fun ad=>(Ze0 N aa ah) ad.1.1 ad.1.2 ad.2 (i64.wrap (ab+1))) else (some ((ae,af),ag))
termination_by structural x=>x
def Zkc (N:Nat) (ab:R8):Option R1:=
  (Zah N 0 1).bind fun aa=>Ze0 N ab N aa.1.1 aa.1.2 aa.2 0
theorem Z1c {N a9:Nat} {a0:Option Addr} {col:Zd} {w0:World} {am:R8} {r:R1} (c1 c2:Nat) (hm:Zkc N am=some r) (h0:Sl (Za.pair (Za.pair Za.bool (Za.slice (Za.int .u32))) (Za.slice (Za.int .u32))) col w0 a0 a9 am):
    Calls prog 154 #[.slice a0 am.length a9] w0 (fun e w'=>∃ (col':Zd) (ra1:Option Addr) (rc2:Nat) (ra4:Option Addr) (rc5:Nat),e= .returned ((.agg #[.bool r.1.1,.slice ra1 r.1.2.length rc2,.slice ra4 r.2.length rc5]))∧Zg col w0 col' w'∧Zc (Za.int .u32) 79 c1 col' w' ra1 rc2 r.1.2∧Zc (Za.int .u32) 79 c2 col' w' ra4 rc5 r.2):=by
 refine Ym (m:=19) func154 rfl rfl rfl ?_;rw [Zkc.eq_1] at hm;have aa:=St.start col w0;refine go ?_;refine Xl (col:=(Zh col)) #[.bool false,.slice none (([]:List Int).length) 0,.slice none (([]:List Int).length) 0] 1 zeroValue47 ?_;intro bb b1 bc bd ab;refine go ?_;obtain ⟨b2,be,hm⟩:=bZ hm;refine Zi (Zlu (col:=bc) 2 3 be) ?_;rintro _ b3 ⟨bf,b4,b5,b6,b7,rfl,ba,aw,ax⟩;refine ⟨_,rfl,?_⟩;refine Xl (col:=bf) #[.bool false,.slice none (([]:List Int).length) 0,.slice none (([]:List Int).length) 0] 4 zeroValue47 ?_;intro bg b8 b9 an bh;refine Z4 bh ?_;intro ca ao bi af;refine go ?_;replace aa:=(((aa.grow bd).grow ba).grow an).kp ao bi;replace ab:=((ab.gr ba).gr an).kp ao;replace aw:=(aw.gr an).kp ao;replace ax:=(ax.gr an).kp ao;refine Zw [0,2,3,1000000] (fun n f ai=>∃ ac ay az a1 ap a2 a3 aq a4 aj,aj=n∧Ze0 N am aj ay ap aq a4=some r∧St w0 (Zh col) ac ai∧Zm 47 1 ac ai bb #[.bool false,.slice none (([]:List Int).length) 0,.slice none (([]:List Int).length) 0]∧Zc (Za.int .u32) 79 2 ac ai az a1 ap∧Zc (Za.int .u32) 79 3 ac ai a2 a3 aq∧Zm 47 4 ac ai bg #[.bool ay,.slice az ap.length a1,.slice a2 aq.length a3]∧[4].map f=[.int .i64 a4]) N ⟨_,_,_,_,_,_,_,_,0,_,rfl,hm,aa,ab,aw,ax,af,rfl⟩ ?_;clear hm;intro n f ai hI;obtain ⟨ac,ay,az,a1,ap,a2,a3,aq,a4,aj,hn,hm,aa,ab,ak,al,af,hs⟩:=hI;subst hn;refine .lL [4] hs ?_;replace h0:=h0.keep (Zf.start col w0)
 cases aj with
 | zero=>rw [Ze0.eq_1] at hm;cases hm
 | succ aj=>
  rw [Ze0.eq_2] at hm;refine go ?_;refine Zo hm (fun hb hm=>go ?_) fun hb hm=>go ?_
  ·refine Wh (col:=ac) [(0,0),(1,1),(2,1),(3,1),(4,0),(5,3),(6,2)] (by kernel_rfl) (by kernel_rfl)<|xv rfl rfl (fun _ hC=>Z7 isAgg47 sizeOf47 (af.gr (hC.bl ac))) ?_;refine xu rfl rfl (fun _=>Vf rfl) ?_;refine xu rfl rfl (fun _=>Wj rfl) ?_;obtain ⟨a5,ar,hm⟩:=bZ hm;refine xu rfl rfl (fun _=>Wi underlying56 sizeOf47 rfl rfl (Xn ar).1 (Xn ar).2.1 ((h0.ks aa).addr ar)) ?_;obtain ⟨_,bj,bk⟩:=(h0.ks aa).atN ar;obtain ⟨_,_,rfl,bm,bn⟩:=Yi bj;obtain ⟨_,_,rfl,bo,bp⟩:=Yi bm;obtain ⟨rfl,_⟩:=bo;obtain ⟨⟨bq,br,rfl,a6⟩,_⟩:=bp;obtain ⟨⟨bs,bt,rfl,a7⟩,_⟩:=bn;refine xv (v:=(.agg #[.bool a5.1.1,.slice bq a5.1.2.length br,.slice bs a5.2.length bt])) rfl rfl (fun _ hC=>Yj isAgg47 sizeOf47 rfl rfl (bk.gr (hC.bl ac))) ?_;refine xe rfl rfl ?_;intro bu hC0;have hC:=hC0.bl ac;obtain ⟨cb,bv,hm⟩:=bZ hm;replace ak:=ak.gr hC;replace al:=al.gr hC;replace a6:=a6.gr hC;replace a7:=a7.gr hC;refine Zi (Zrp 5 6 bv ((ak.toSlF (Zn.int .u32)).froz 3) ((al.froz 2 (by decide)).toSlF (Zn.int .u32)) ((a6.froz 2).froz 3) ((a7.froz 2).froz 3)) ?_;rintro _ cc ⟨bw,cd,ce,cf,cg,rfl,ag,ad,ae⟩;refine ⟨_,rfl,?_⟩;replace ad:=ad.thaw (Z3 .u32) ag (((Fz.refl (col:=ac)).froz 2).froz 3) (by decide);replace ae:=ae.thaw (Z3 .u32) ag (((Fz.refl (col:=ac)).froz 2).froz 3) (by decide);replace ag:=ag.thawR (col:=ac);generalize Xf bu.heap.size ac bw=au at *;refine Zk<|Xp au hC0 ag<|xe rfl rfl ?_;intro ch hC0;replace ab:=(ab.gr hC).gr ag;replace af:=(af.gr hC).gr ag;replace aa:=(aa.grow hC).grow ag;have hC:=hC0.bl au;replace af:=af.gr hC;refine Z4 af ?_;intro ci av bx ah;refine Zk<|xk au<|Y9 ?_;replace ad:=(ad.gr hC).kp av;replace ae:=(ae.gr hC).kp av;replace ab:=(ab.gr hC).kp av;replace aa:=(aa.grow hC).kp av bx;intro cj hC;replace hC:=hC.bl au;refine go ?_;replace ad:=ad.gr hC;replace ad:=ad.recolSelf 2 (by decide);replace ae:=ae.gr hC;replace ae:=ae.recol 5 2 (by decide);replace ab:=ab.gr hC;replace ab:=ab.recol 5 2 (by decide);replace ah:=ah.gr hC;replace ah:=ah.recol 5 2 (by decide);replace aa:=aa.grow hC;replace aa:=aa.recol 5 2 (by decide) (by decide);replace ad:=ad.recol 6 3 (by decide);replace ae:=ae.recolSelf 3 (by decide);replace ab:=ab.recol 6 3 (by decide);replace ah:=ah.recol 6 3 (by decide)
   replace aa:=aa.recol 6 3 (by decide) (by decide);exact ⟨aj,by omega,rfl,⟨_,_,_,_,_,_,_,_,_,_,rfl,hm,aa,ab,ad,ae,ah,rfl⟩⟩
  refine lV _ (Z7 isAgg47 sizeOf47 af)<|Z4 ab ?_;intro ck a8 bz b0;refine go ?_;cases hm;replace ak:=ak.kp a8;replace al:=al.kp a8;replace aa:=aa.kp a8 bz;exact ⟨rfl,_,ra b0.atN,_,_,_,_,_,rfl,aa.fin (cm [(2,c1),(3,c2)]),aa.fo ak,aa.fo al⟩
def Zez (N:Nat) (aa:R1):Option Int:=
  (Zex N (aa.1.1,aa.1.2)).bind fun ab=>some ab
theorem Zrt {N ac ag:Nat} {ad ah:Option Addr} {col:Zd} {w0:World} {aa:R1} {r:Int} (hm:Zez N aa=some r) (ae:Sl (Za.int .u32) col w0 ad ac aa.1.2) (ao:Sl (Za.int .u32) col w0 ah ag aa.2):
    Calls prog 93 #[(.agg #[.bool aa.1.1,.slice ad aa.1.2.length ac,.slice ah aa.2.length ag])] w0 (fun e w'=>e= .returned ((.int .i64 r))∧Below w0.heap.size w0 w'):=by
 refine Xc 2 (m:=6) func93 rfl rfl rfl rfl rfl ?_;rw [Zez.eq_1] at hm;have ab:=St.start col w0;refine go ?_;refine Xg (col:=(Zh col)) 1 rfl ?_;intro ap aj ai ak al;refine go ?_;refine Xd ⟨_,_,rfl⟩ ?_;refine lV (.agg #[.bool aa.1.1,.slice ad aa.1.2.length ac]) (Yj isAgg45 sizeOf45 rfl rfl ((al.atN).part 0 2 _ rfl)) ?_;obtain ⟨aq,am,hm⟩:=bZ hm;replace ae:=ae.keep (Zf.start col w0);replace ab:=ab.grow ak;refine Zi (Zon am (ae.ks ab)) ?_;rintro _ an ⟨rfl,af⟩;refine ⟨_,rfl,?_⟩;replace af:Zg ai aj ai an:=.of_below af;refine go ?_;cases hm;replace ab:=ab.grow af;exact ⟨rfl,rfl,ab.below⟩
def Zh2 (N:Nat) (ab:R1) (aa:R1):Option (R1×Int):=
  (Zez N ((aa.1.1,aa.1.2),aa.2)).bind fun ad=>if (decide (ad=0))=true then (some (((false,([]:List Int)),([]:List Int)),11)) else ((T0 N ((aa.1.1,aa.1.2),aa.2)).bind fun ae=>(Zcw N ((ab.1.1,ab.1.2),ab.2) ((aa.1.1,ae),aa.1.2)).bind fun ac=>some (((ac.1.1,ac.1.2),ac.2),0))
theorem Z09 {N bc bd ak a4:Nat} {be bf al a5:Option Addr} {col:Zd} {w0:World} {am ad:R1} {r:(R1×Int)} (c1 c2:Nat) (hm:Zh2 N am ad=some r) (a6:Sl (Za.int .u32) col w0 be bc am.1.2) (a7:Sl (Za.int .u32) col w0 bf bd am.2) (ar:Sl (Za.int .u32) col w0 al ak ad.1.2) (ay:Sl (Za.int .u32) col w0 a5 a4 ad.2):
    Calls prog 148 #[(.agg #[.bool am.1.1,.slice be am.1.2.length bc,.slice bf am.2.length bd]),(.agg #[.bool ad.1.1,.slice al ad.1.2.length ak,.slice a5 ad.2.length a4])] w0 (fun e w'=>∃ (col':Zd) (ra1:Option Addr) (rc2:Nat) (ra4:Option Addr) (rc5:Nat),e= .returned (.tuple #[(.agg #[.bool r.1.1.1,.slice ra1 r.1.1.2.length rc2,.slice ra4 r.1.2.length rc5]),.int .i64 r.2])∧Zg col w0 col' w'∧Zc (Za.int .u32) 79 c1 col' w' ra1 rc2 r.1.1.2∧Zc (Za.int .u32) 79 c2 col' w' ra4 rc5 r.1.2):=by
 refine Ym (m:=24) func148 rfl rfl rfl ?_;rw [Zh2.eq_1] at hm;have aa:=St.start col w0;refine go ?_;refine Xg (col:=(Zh col)) 1 rfl ?_;intro b3 b4 bm bn ai;refine Xg (col:=bm) 2 rfl ?_;intro az b5 bo bg ag;refine Xl (col:=bo) #[.bool false,.slice none (([]:List Int).length) 0,.slice none (([]:List Int).length) 0] 3 zeroValue47 ?_;intro b6 bp aj a8 ah;refine go ?_;replace ag:=ag.gr a8;refine lV _ (Z7 isAgg47 sizeOf47 ag) ?_;obtain ⟨b7,bq,hm⟩:=bZ hm;replace ar:=ar.keep (Zf.start col w0);replace ay:=ay.keep (Zf.start col w0);replace aa:=((aa.grow bn).grow bg).grow a8;refine Zi (Zrt bq (ar.ks aa) (ay.ks aa)) ?_;rintro _ an ⟨rfl,ao⟩;refine ⟨_,rfl,?_⟩;replace ao:Zg aj bp aj an:=.of_below ao;refine go ?_;replace a6:=a6.keep (Zf.start col w0);replace a7:=a7.keep (Zf.start col w0);replace ai:=((ai.gr bg).gr a8).gr ao;replace ag:=ag.gr ao;replace ah:=ah.gr ao;replace aa:=aa.grow ao;refine Zo hm (fun hb hm=>go ?_) fun hb hm=>go ?_
 ·refine lV (.agg #[.bool false,.slice none (([]:List Int).length) 0,.slice none (([]:List Int).length) 0]) (Yz (l:=[_,_]) (qs:=[(0,2),(2,1)]) underlying47 zeroValue47 ⟨rfl,sizeOf45,rfl,sizeOf43,trivial⟩ rfl)<|Z4 ah ?_;intro b8 br bs bt;refine go ?_;cases hm;replace aa:=aa.kp br bs;exact ⟨rfl,_,W7 bt.atN,_,none,0,none,0,rfl,aa.fin (cm []),Zc.nil,Zc.nil⟩
 have a0:=Z1.clip (fun _=>false) aj an;refine Zi0 (col:=aj) [(0,1),(1,1),(2,0),(3,0),(6,1),(7,1),(8,0),(4,3),(5,1),(9,1),(10,4),(11,2)] (by kernel_rfl) (by kernel_rfl) ⟨fun h=>absurd h (by decide),fun h=>absurd h (by decide),fun h=>absurd h (by decide),fun h=>absurd h (by decide),fun h=>absurd h (by decide),fun h=>absurd h (by decide),fun h=>absurd h (by decide),fun h=>absurd h (by decide),fun h=>absurd h (by decide),fun h=>absurd h (by decide),fun _=>⟨_,_,_,rfl,Sd zeroValue47⟩,fun h=>absurd h (by decide),trivial⟩<|Vg (v:=(.pointer ((some (⟨az,0,none⟩:Addr)).map (·.add 0)))) rfl rfl (fun _=>Sy (sz:=2) (off:=0) underlying47 rfl sizeOf45 (by decide) rfl rfl ⟨_,_,rfl⟩) ?_;refine Vg (v:=(.pointer (((some (⟨az,0,none⟩:Addr)).map (·.add 0)).map (·.add 0)))) rfl rfl (fun _=>Sy (sz:=1) (off:=0) underlying45 rfl sizeOf4 (by decide) rfl rfl (X2 ⟨_,_,rfl⟩)) ?_;replace ag:=ag.kpp a0;refine Tc (v:=(.bool ad.1.1)) rfl rfl (fun _ hC=>Ziu isAgg4 rfl (((((ag.atN).part 0 2 _ rfl)).nth (q:=0) (v:=(.bool ad.1.1)) rfl).gr (hC.bl (Zl an aj)))) ?_;refine Tc (v:=(.agg #[.bool ad.1.1,.slice al ad.1.2.length ak,.slice a5 ad.2.length a4])) rfl rfl (fun _ hC=>Yj isAgg47 sizeOf47 rfl rfl (ag.atN.gr (hC.bl (Zl an aj)))) ?_;refine Vg (v:=(.pointer ((some (⟨az,0,none⟩:Addr)).map (·.add 0)))) rfl rfl (fun _=>Sy (sz:=2) (off:=0) underlying47 rfl sizeOf45 (by decide) rfl rfl ⟨_,_,rfl⟩) ?_;refine Vg (v:=(.pointer (((some (⟨az,0,none⟩:Addr)).map (·.add 0)).map (·.add 1)))) rfl rfl (fun _=>Sy (sz:=1) (off:=1) underlying45 rfl sizeOf43 (by decide) rfl rfl (X2 ⟨_,_,rfl⟩)) ?_;refine Tc (v:=(.slice al ad.1.2.length ak)) rfl rfl (fun _ hC=>Ziu isAgg43 rfl (((((ag.atN).part 0 2 _ rfl)).nth (q:=1) (v:=(.slice al ad.1.2.length ak)) rfl).gr (hC.bl (Zl an aj)))) ?_;refine W8 rfl rfl ?_;intro b9 hC0;have hC:=hC0.bl (Zl an aj);obtain ⟨bh,bu,hm⟩:=bZ hm;replace aa:=(aa.kpp a0).grow hC;refine Zi (Zax 4 bu (ar.ks aa) (ay.ks aa)) ?_;rintro _ ab ⟨ac,bi,bj,rfl,ap,au⟩;refine ⟨_,rfl,?_⟩;refine Zk ?_;refine ⟨fun w'=>Zg (Zl ab ac) ab (Zl ab ac) w',fun g=>(Zl ab ac) g=497,Zg.refl _ _,W0,fun _=>⟨fun _ h=>V3 hC0 ap h,fun b hb=>ap.below.block b hb,fun g x1 x2=>V8 ap g x1 (by first | exact x2 | (simp only [Xq,x2];rfl) | (simp only [Xq,Xx,x2];rfl))⟩,?_⟩;have a1:=Z1.clip (fun _=>false) ac ab
 refine Vg (v:=(.agg #[.bool ad.1.1,.slice bi bh.length bj])) rfl rfl (fun _=>Yz (l:=[_,_]) (qs:=[(0,1),(1,1)]) underlying45 zeroValue45 ⟨rfl,sizeOf4,rfl,sizeOf43,trivial⟩ rfl) ?_;refine Vg (v:=(.agg #[.bool ad.1.1,.slice bi bh.length bj,.slice al ad.1.2.length ak])) rfl rfl (fun _=>Yz (l:=[_,_]) (qs:=[(0,2),(2,1)]) underlying47 zeroValue47 ⟨rfl,sizeOf45,rfl,sizeOf43,trivial⟩ rfl) ?_;refine Zi1 rfl rfl (Sd zeroValue47) ?_;intro ae bv;refine W8 rfl rfl ?_;intro bw ⟨hC0,hZ0⟩;replace ai:=(((ai.kpp a0).gr hC).gr ap).kpp a1;replace ah:=(((ah.kpp a0).gr hC).gr ap).kpp a1;have hC:=hC0.bl (Zl ab ac);obtain ⟨a2,a9⟩:=Zge (col:=(Zl ab ac)) 5 hZ0 bv;replace a9:Zm 47 5 (Xk ae 5 (Zl ab ac)) bw ae #[.bool false,.slice none (([]:List Int).length) 0,.slice none (([]:List Int).length) 0]:=a9;refine Z4 a9 ?_;intro af a3 bx ba;refine Zk ?_;refine ⟨fun w'=>Zg (Zl af (Xk ae 5 (Zl ab ac))) af (Zl af (Xk ae 5 (Zl ab ac))) w',fun g=>(Zl af (Xk ae 5 (Zl ab ac))) g=497,Zg.refl _ _,W0,fun h=>absurd h (by decide),?_⟩;have av:=Z1.clip (fun _=>false) (Xk ae 5 (Zl ab ac)) af;refine Zi2 ?_;replace aa:=(((((aa.grow ap).kpp a1).grow hC).kpp a2).kp a3 bx).kpp av;replace au:=((((au.kpp a1).gr hC).kpp a2).kp a3).kpp av;replace ai:=(((ai.gr hC).kpp a2).kp a3).kpp av;replace ah:=(((ah.gr hC).kpp a2).kp a3).kpp av;intro bk hC;replace hC:Zg (Zl af (Xk ae 5 (Zl ab ac))) af (Zl af (Xk ae 5 (Zl ab ac))) bk:=.of_below hC.below;refine go ?_;replace ai:=ai.gr hC;refine lV _ (Z7 isAgg47 sizeOf47 ai) ?_;replace ba:=(ba.kpp av).gr hC;refine lV _ (Z7 isAgg47 sizeOf47 ba) ?_;obtain ⟨ca,bz,hm⟩:=bZ hm;replace au:=au.gr hC;replace aa:=aa.grow hC;refine Zi (Zrr 6 7 bz ((a6.ks aa).froz 4) ((a7.ks aa).froz 4) (au.toSlF (Zn.int .u32)) ((ar.ks aa).froz 4)) ?_;rintro _ cb ⟨b0,cc,cd,ce,cf,rfl,aq,aw,ax⟩;refine ⟨_,rfl,?_⟩;replace aw:=aw.thaw (Z3 .u32) aq ((Fz.refl (col:=(Zl af (Xk ae 5 (Zl ab ac))))).froz 4) (by decide);replace ax:=ax.thaw (Z3 .u32) aq ((Fz.refl (col:=(Zl af (Xk ae 5 (Zl ab ac))))).froz 4) (by decide);replace aq:=aq.thawR (col:=(Zl af (Xk ae 5 (Zl ab ac))))
 generalize Xf bk.heap.size (Zl af (Xk ae 5 (Zl ab ac))) b0=cg at *;replace ah:=(ah.gr hC).gr aq;refine Z4 ah ?_;intro ch bb b1 b2;refine go ?_;cases hm;replace aa:=(aa.grow aq).kp bb b1;replace aw:=aw.kp bb;replace ax:=ax.kp bb;exact ⟨rfl,_,W7 b2.atN,_,_,_,_,_,rfl,aa.fin (cm [(6,c1),(7,c2)]),aa.fo aw,aa.fo ax⟩
theorem Zdi {N k:Nat} {neg:Bool} {m:List Int} (hm:Zp m) (hk:m.length≤k) (hr:Xh N k):Sp N neg m=some (Xr (Zt (neg,m))):=by
 obtain ⟨r1,r2⟩:=hr
 rw [Sp,U1 hm (by omega) (by omega),oB,Zkv]
 have e:decide (0<((Ze (Zb m)).length:Int))=decide (Zb m≠0):=by
  by_cases h:Zb m=0
  ·rw [h,W2];decide
  ·have:=Tu h
   rw [decide_eq_true (by omega),decide_eq_true h]
 cases neg
 ·rw [if_neg (by decide),Zhy,Bool.false_and]
 ·rw [if_pos rfl,Zhy,e,Bool.true_and]
theorem Zya {N k:Nat} {a:ZV} (hm:Zp a.2) (hk:a.2.length≤k) (hr:Xh N k):Zhz N a=some (Xr (Zt a)):=by
 rw [Zhz,Zdi hm hk hr];rfl
theorem Zqg {N k:Nat} {a:ZV} (hm:Zp a.2) (hk:a.2.length≤k) (hr:Xh N k):Zex N a=some (Zt a).sign:=by
 rw [Zex,Zya hm hk hr,oB,Xr]
 generalize Zt a=z
 by_cases h:z=0
 ·subst h;rw [Int.natAbs_zero,W2,if_pos (by decide)];rfl
 ·have:=Tu (n:=z.natAbs) (by omega)
  rw [if_neg (dF (by simp only;omega))]
  by_cases h2:z<0
  ·rw [if_pos (dT h2),Int.sign_eq_neg_one_of_neg h2]
  ·rw [if_neg (fun hc=>h2 (of_decide_eq_true hc)),Int.sign_eq_one_of_pos (by omega)]
theorem Zw6 {N k l:Nat} {a b:ZV} (ha:Zp a.2) (hb:Zp b.2) (hk:a.2.length≤k) (hl:b.2.length≤l) (hr:Xh N (k+l+1)):Zhx N a b=some (Xr (Zt a+Zt b)):=by
 have hr':=hr
 obtain ⟨r1,r2⟩:=hr'
 have la:=Yc ha
 have lb:=Yc hb
 have lsum:(Ze (Zb a.2+Zb b.2)).length≤k+l+1:=Zl8 (by omega) (by omega)
 have ls1:(Ze (Zb a.2 - Zb b.2)).length≤k+l+1:=by have:=W6 (Nat.sub_le (Zb a.2) (Zb b.2));omega
 have ls2:(Ze (Zb b.2 - Zb a.2)).length≤k+l+1:=by have:=W6 (Nat.sub_le (Zb b.2) (Zb a.2));omega
 rw [Zhx]
 by_cases h:a.1=b.1
 ·rw [if_pos (dT h),Zw8 ha hb (by omega) (by omega),oB,Zdi (Z8 _) lsum hr,oB,Zi3.1 h]
 ·rw [if_neg (dF h),Zk2 ha hb (by omega) (by omega) (by omega) (by omega),oB]
  by_cases hlt:Zb a.2<Zb b.2
  ·rw [if_pos hlt,if_neg (by decide),Zk2 hb ha (by omega) (by omega) (by omega) (by omega),oB,if_neg (by omega),Zdi (Z8 _) ls2 hr,oB,(Zi3.2 h).2 hlt]
  ·rw [if_neg hlt,if_pos rfl,Zdi (Z8 _) ls1 hr,oB,(Zi3.2 h).1 (by omega)]
theorem Z6h {N k:Nat} {a:ZV} (hm:Zp a.2) (hk:a.2.length≤k) (hr:Xh N k):Zj8 N a=some (Xr (-Zt a)):=by
 rw [Zj8,Zdi hm hk hr,oB,Z7b]
theorem Zuh {a:ZV} (hm:Zp a.2):(Xr (Zt a)).2.length≤a.2.length:=by
 rw [Zdu,Zaw];exact Yc hm
theorem Z4h {a:ZV} (hm:Zp a.2):(Xr (-Zt a)).2.length≤a.2.length:=by
 rw [Zdu,Int.natAbs_neg,Zaw];exact Yc hm
theorem Z6l {N k l:Nat} {a b:ZV} (ha:Zp a.2) (hb:Zp b.2) (hk:a.2.length≤k) (hl:b.2.length≤l) (hr:Xh N (k+l+1)):Zka N a b=some (Xr (Zt a - Zt b)):=by
 rw [Zka,Z6h (a:=(b.1,b.2)) hb hl (hr.mono (by omega)),oB,Zw6 (a:=(a.1,a.2)) (b:=Xr _) ha (Ua _) hk (Nat.le_trans (Z4h hb) hl) hr,oB,V7,Int.sub_eq_add_neg]
theorem Zk1 {N k l:Nat} {a b:ZV} (ha:Zp a.2) (hb:Zp b.2) (hk:a.2.length≤k) (hl:b.2.length≤l) (hr:Xh N (k+l)):Zbk N a b=some (Xr (Zt a * Zt b)):=by
 have hr':=hr
 obtain ⟨r1,r2⟩:=hr'
 have la:=Yc ha
 have lb:=Yc hb
 have:=Uu (Zb a.2) (Zb b.2)
 rw [Zbk,Zx7 ha hb (by omega) (by omega),oB,Zdi (k:=k+l) (Z8 _) (by omega) hr,oB,Zn6]
theorem Z7a (a b:Int):(a - b).sign=Q0 a b:=by
 rw [← Zn5];unfold Q0
 (repeat' split) <;> omega
theorem Z57 {N k l:Nat} {a b:ZV} (ha:Zp a.2) (hb:Zp b.2) (hk:a.2.length≤k) (hl:b.2.length≤l) (hr:Xh N (k+l+1)):Zj7 N a b=some (Q0 (Zt a) (Zt b)):=by
 have sl:(Xr (Zt a - Zt b)).2.length≤k+l+1:=Z6v (k:=k+l) (Nat.le_trans (Zuh ha) (by omega)) (Nat.le_trans (Zuh hb) (by omega))
 rw [Zj7,Z6l (a:=(a.1,a.2)) (b:=(b.1,b.2)) ha hb hk hl hr,oB,Zqg (a:=Xr _) (Ua _) sl hr,oB,V7,Z7a]
theorem Zyc {N:Nat} {z:Int} (h:-9223372036854775808≤z∧z≤9223372036854775807) (hr:Xh N 4):Zh0 N z=some (Xr z):=by
 have hr':=hr
 obtain ⟨r1,r2⟩:=hr'
 have l2:∀ n:Nat,n<18446744073709551616→(Ze n).length≤2:=fun n hn=>Wv.2 (by simpa using hn)
 have l1:Zp [1]:=.cons (by decide) .nil
 rw [Zh0]
 by_cases hz:0≤z
 ·rw [if_pos (dT hz),Xj (by omega),Zyd (by omega) (by omega),oB,Zdi (Z8 _) (l2 _ (by omega)) (hr.mono (by omega)),oB]
  have e2:Zt (false,Ze z.toNat)=z:=by simp only [Zt,Z9];simp;omega
  rw [e2]
 ·have hl3:=l2 (-z - 1).toNat (by omega)
  have e:u64.wrap (i64.wrap (-i64.wrap (z+1)))= -z - 1:=by rw [Zr (x:=z+1) (by omega),Zr (by omega),Xj (by omega)];omega
  rw [if_neg (dF hz),e,Zyd (by omega) (by omega),oB,Zw8 (Z8 _) l1 (by simp only [List.length_singleton];omega) (by simp only [List.length_singleton];omega),oB,Z9,Wg,Yk,Zdi (k:=4) (Z8 _) (by
   have:=l2 ((-z - 1).toNat+((1:Int).toNat+4294967296 * 0)) (by omega)
   omega) hr,oB]
  have e2:Zt (true,Ze ((-z - 1).toNat+((1:Int).toNat+4294967296 * 0)))=z:=by simp only [Zt,Z9,if_true];omega
  rw [e2]
theorem Zf5 {N k:Nat} {a:QV} (ha:RV k a) (hr:Xh N k):T0 N a=some (Ze (Xw a.2)):=by
 obtain ⟨r1,r2⟩:=hr
 have:=ha.ld
 rw [T0,U1 ha.d (by omega) (by omega),oB,Xw]
 by_cases h:Zb a.2=0
 ·rw [h,W2,if_pos (by decide),if_pos rfl,Zmr,oB,Sg]
 ·have:=Tu h
  rw [if_neg (dF (by omega)),if_neg h]
theorem Zqc {N k l:Nat} {num:ZV} {den:List Int} (hn:Zp num.2) (hd:Zp den) (h0:Zb den≠0) (hk:num.2.length≤k) (hl:den.length≤l) (hr:Xh N (k+l)):
  Ze1 N num den=some (Zs (mkRat (Zt num) (Zb den))):=by
 have hr':=hr
 obtain ⟨r1,r2⟩:=hr'
 have l1:=Yc hn
 have l2:=Yc hd
 have hg:Nat.gcd (Zb num.2) (Zb den)≠0:=fun h=>h0 (Nat.gcd_eq_zero_iff.1 h).2
 have lg:(Ze (Nat.gcd (Zb num.2) (Zb den))).length≤den.length:=Nat.le_trans (W6 (Nat.gcd_le_right _ (by omega))) l2
 have lq:=W6 (Nat.div_le_self (Zb num.2) (Nat.gcd (Zb num.2) (Zb den)))
 have ld:=W6 (Nat.div_le_self (Zb den) (Nat.gcd (Zb num.2) (Zb den)))
 obtain ⟨g,g1,g2,g3,g4⟩:=Z6g (N:=N) (M:=k+l) hn hd (by omega) (by omega) (by omega) (by omega)
 rw [Ze1,g1,oB,Zxj hn g2 (by rw [g3];omega) (by omega) (by rw [g3];omega) (by omega),oB,Zxj hd g2 (by rw [g3];omega) (by omega) (by rw [g3];omega) (by omega),oB,g3,if_neg hg,if_neg hg,
  Zya (k:=k) (a:=(num.1,Ze (Zb num.2 / Nat.gcd (Zb num.2) (Zb den)))) (Z8 _) (by simp only;omega) (hr.mono (by omega)),oB,U1 (Z8 _) (by omega) (by omega),oB,Zvn (neg:=num.1) h0,Zkv,Z9,Z9]
theorem Zxv {N k:Nat} {a:QV} (ha:RV k a) (hr:Xh N k):Zez N a=some (Zau (Z5 a)):=by
 rw [Zez,Zqg (a:=(a.1.1,a.1.2)) ha.m ha.lm hr,oB,Zwq]
theorem Zn7 (n:Nat):Zt (false,Ze n)=n:=by simp [Zt,Z9]
theorem Zxs {N k l:Nat} {a b:QV} (ha:RV k a) (hb:RV l b) (hr:Xh N (2 * (k+l+3))):Zh1 N a b=some (Qx (Z5 a) (Z5 b)):=by
 have da:=Ut ha
 have db:=Ut hb
 have o1:=Zb9 (n:=Xw b.2) ha.m ha.lm db
 have o2:=Zb9 (n:=Xw a.2) hb.m hb.lm da
 rw [Zh1,Zf5 hb (hr.mono (by omega)),oB,Zai,oB,Zk1 (a:=(a.1.1,a.1.2)) (b:=(false,Ze (Xw b.2))) (k:=k) (l:=l+1) ha.m (Z8 _) ha.lm db (hr.mono (by omega)),oB,Zf5 ha (hr.mono (by omega)),oB,Zai,oB,Zk1 (a:=(b.1.1,b.1.2)) (b:=(false,Ze (Xw a.2))) (k:=l) (l:=k+1) hb.m (Z8 _) hb.lm da (hr.mono (by omega)),oB,Zn7,Zn7,
  Z57 (a:=Xr _) (b:=Xr _) (Ua _) (Ua _) o1 o2 (hr.mono (by omega)),oB,V7,V7,Z5,Z5,Zpw (Uk _) (Uk _)]
theorem Zxi {N k l:Nat} {a b:QV} (ha:RV k a) (hb:RV l b) (hr:Xh N (k+l+2)):Zcs N (Ze (Xw a.2)) (Ze (Xw b.2))=some (Ze (Xw a.2 * Xw b.2)):=by
 have da:=Ut ha
 have db:=Ut hb
 obtain ⟨r1,r2⟩:=hr
 rw [Zx7 (Z8 _) (Z8 _) (by omega) (by omega),Z9,Z9]
theorem Zxr {N k l:Nat} {a b:QV} (ha:RV k a) (hb:RV l b) (hr:Xh N (2 * (k+l+3))):Zey N a b=some (Zs (Z5 a+Z5 b)):=by
 have da:=Ut ha
 have db:=Ut hb
 have o1:=Zb9 (n:=Xw b.2) ha.m ha.lm db
 have o2:=Zb9 (n:=Xw a.2) hb.m hb.lm da
 obtain ⟨_,m2,m3⟩:=Zlz ha hb (hr.mono (by omega))
 have m1:=Zxi ha hb (hr.mono (by omega))
 have sl:=Zqo (k:=k+l+1) (by omega) (Nat.le_trans o2 (by omega))
 rw [Zey,Zf5 hb (hr.mono (by omega)),oB,Zai,oB,Zk1 (a:=(a.1.1,a.1.2)) (b:=(false,Ze (Xw b.2))) (k:=k) (l:=l+1) ha.m (Z8 _) ha.lm db (hr.mono (by omega)),oB,Zf5 ha (hr.mono (by omega)),oB,Zai,oB,Zk1 (a:=(b.1.1,b.1.2)) (b:=(false,Ze (Xw a.2))) (k:=l) (l:=k+1) hb.m (Z8 _) hb.lm da (hr.mono (by omega)),oB,Zn7,Zn7,
  Zw6 (a:=Xr _) (b:=Xr _) (Ua _) (Ua _) o1 o2 (hr.mono (by omega)),oB,V7,V7,oB,oB,m1,oB,
  Zqc (num:=Xr _) (Ua _) (Z8 _) (by rw [Z9];exact m3) sl m2 (hr.mono (by omega)),oB,V7,Z9,Z5,Z5,Rat.mkRat_add_mkRat _ _ (Uk _) (Uk _)]
theorem Zxu {N k l:Nat} {a b:QV} (ha:RV k a) (hb:RV l b) (hr:Xh N (2 * (k+l+3))):Zcw N a b=some (Zs (Z5 a * Z5 b)):=by
 obtain ⟨_,m2,m3⟩:=Zlz ha hb (hr.mono (by omega))
 have m1:=Zxi ha hb (hr.mono (by omega))
 have zl:(Xr (Zt a.1 * Zt b.1)).2.length≤k+l:=by
  rw [Zdu,Int.natAbs_mul,Zaw,Zaw]
  have h1:=Uu (Zb a.1.2) (Zb b.1.2)
  have h2:=Yc ha.m
  have h3:=Yc hb.m
  have:=ha.lm;have:=hb.lm
  omega
 rw [Zcw,Zk1 (a:=(a.1.1,a.1.2)) (b:=(b.1.1,b.1.2)) ha.m hb.m ha.lm hb.lm (hr.mono (by omega)),oB,Zf5 ha (hr.mono (by omega)),oB,Zf5 hb (hr.mono (by omega)),oB,m1,oB,
  Zqc (num:=Xr _) (Ua _) (Z8 _) (by rw [Z9];exact m3) zl m2 (hr.mono (by omega)),oB,V7,Z9,Z5,Z5,Rat.mkRat_mul_mkRat]
theorem Z6e {N k l:Nat} {a b:QV} (ha:RV k a) (hb:RV l b) (hr:Xh N (2 * (k+l+4))):Zh2 N a b=some (if Z5 b=0 then (((false,[]),[]),11) else (Zs (Z5 a / Z5 b),0)):=by
 rw [Zh2,Zxv hb (hr.mono (by omega)),oB]
 by_cases h0:Z5 b=0
 ·rw [if_pos h0,h0,if_pos (by decide)]
 ·have hb0:Zb b.1.2≠0:=fun h=>h0 ((Zws b).2 h)
  have db:=Ut hb
  have hl:=hb.lm
  have rvo:RV (l+1) ((b.1.1,Ze (Xw b.2)),b.1.2):=⟨Z8 _,hb.m,db,by simp only;omega⟩
  have e:=Zm6 (Zt a.1) (Xw a.2) b.1 (Xw b.2) a.1.1 a.1.2 rfl hb0
  rw [if_neg (dF (fun h=>h0 (Zwr.1 h))),if_neg h0,Zf5 hb (hr.mono (by omega)),oB,Zxu (k:=k) (l:=l+1) ha rvo (hr.mono (by omega)),oB]
  have e2:Z5 ((b.1.1,Ze (Xw b.2)),b.1.2)=mkRat (Zt (b.1.1,Ze (Xw b.2))) (Zb b.1.2):=by
   rw [Z5]
   show mkRat _ (Xw b.1.2)=_
   rw [show Xw b.1.2=Zb b.1.2 by rw [Xw,if_neg hb0]]
  have e3:Z5 a * Z5 ((b.1.1,Ze (Xw b.2)),b.1.2)=Z5 a / Z5 b:=by
   have q1:Z5 a / Z5 b=mkRat (Zt a.1) (Xw a.2) / mkRat (Zt b.1) (Xw b.2):=rfl
   rw [q1,e,e2,Z5,Rat.mkRat_mul_mkRat,← Zn6]
   simp only [Z9]
  have e4:Z5 (((a.1.1,a.1.2),a.2):QV)=Z5 a:=rfl
  rw [e4,e3]
theorem Zyl {N:Nat} {a b:Int} (h:-9223372036854775808≤a∧a≤9223372036854775807) (g:0<b∧b≤9223372036854775807) (hr:Xh N 8):Zah N a b=some (Zs ((a:Rat) / (b:Rat))):=by
 have l2:∀ z:Int,-9223372036854775808≤z∧z≤9223372036854775807→(Xr z).2.length≤2:=fun z hz=>Wv.2 (by simp;omega)
 have la:=l2 a h
 have lb:=l2 b (by omega)
 have hb0:Zb (Xr b).2≠0:=by rw [Zdu,Z9];omega
 have e:=Zm6 (Zt (Xr a)) 1 (Xr b) 1 (Xr a).1 (Xr a).2 rfl hb0
 rw [Zah,Zmq,Zyc h (hr.mono (by omega)),oB,Zyc (by omega) (hr.mono (by omega)),oB,Zmp,Zqg (a:=Xr b) (Ua _) lb (hr.mono (by omega)),oB,V7,Int.sign_eq_one_of_pos g.1,if_neg (by decide),Zqc (num:=(!decide ((Xr a).1=(Xr b).1),(Xr a).2)) (Ua _) (Ua _) hb0 la lb (hr.mono (by omega)),oB,oB,oB]
 rw [Rat.mkRat_eq_div,Rat.mkRat_eq_div,V7,V7] at e
 have e1:(a:Rat) / ((1:Nat):Rat) / ((b:Rat) / ((1:Nat):Rat))=(a:Rat) / (b:Rat):=by
  have h1:((1:Nat):Rat)=1:=rfl
  have h2:(1:Rat)⁻¹=1:=Rat.inv_eq_of_mul_eq_one (by grind)
  simp only [h1,Rat.div_def,h2,Rat.mul_one]
 rw [e1,Nat.one_mul,Nat.mul_one] at e
 rw [e]
 have e2:Zt (!decide ((Xr a).1=(Xr b).1),Ze (Zb (Xr a).2))=Zt (!decide ((Xr a).1=(Xr b).1),(Xr a).2):=by simp only [Zt,Z9]
 rw [e2]
theorem div_one (a:Rat):a / 1=a:=by
 have h2:(1:Rat)⁻¹=1:=Rat.inv_eq_of_mul_eq_one (by grind)
 rw [Rat.div_def,h2,Rat.mul_one]
theorem Zy5 {N:Nat} (hr:Xh N 8):Zah N 0 1=some (Zs 0):=by
 rw [Zyl (by omega) (by omega) hr]
 congr 2
 exact div_one _
theorem Zy4 {N:Nat} (hr:Xh N 8):Zah N 1 1=some (Zs 1):=by
 rw [Zyl (by omega) (by omega) hr]
 congr 2
 exact div_one _
theorem Zxw {N:Nat} (l:List QV) (hl:∀ a ∈ l,Wy a) (hb:l.length<4611686018427387904):∀ (n i:Nat) (q:Rat),i≤l.length→l.length<n+i→Xh N (4 * (qs q+Xz (l.drop i)+3))→Ze0 N l n (Zs q).1.1 (Zs q).1.2 (Zs q).2 (i:Int)=some (Zs (q+Wx (l.drop i)))
 | 0,i,q,h1,h2,_=>by omega
 | n+1,i,q,h1,h2,hr=>by
  rw [Ze0.eq_2]
  by_cases hi:i<l.length
  ·have hd:=List.drop_eq_getElem_cons hi
   have ha:=hl _ (List.getElem_mem hi)
   have hs:=Zp1 ha
   rw [hd,Xz] at hr
   have h3:=Zwn q (Z5 l[i])
   rw [if_pos (dT (by omega)),Zy hi,oB,Zxr (k:=qs q) (l:=max (l[i]).1.2.length (l[i]).2.length) (Zqi q) (Zby ha.1 ha.2) (hr.mono (by omega)),oB,Zr (by omega)]
   have ih:=Zxw l hl hb n (i+1) (q+Z5 l[i]) (by omega) (by omega) (hr.mono (by omega))
   have e:Z5 ((((Zs q).1.1,(Zs q).1.2),(Zs q).2):QV)=q:=V4 q
   have e2:Z5 (((l[i].1.1,l[i].1.2),l[i].2):QV)=Z5 l[i]:=rfl
   rw [show ((i+1:Nat):Int)=(i:Int)+1 by omega] at ih
   rw [e,e2,ih,hd,Wx,Wx,List.map_cons,List.sum_cons,Rat.add_assoc]
  ·rw [if_neg (dF (by omega)),List.drop_eq_nil_of_le (by omega),Wx,List.map_nil,List.sum_nil,Rat.add_zero]
theorem Z6f {N:Nat} {l:List QV} (hl:∀ a ∈ l,Wy a) (hb:l.length<4611686018427387904) (hn:l.length<N) (hr:Xh N (4 * (Xz l+4))):Zkc N l=some (Zs (Wx l)):=by
 rw [Zkc,Zy5 (hr.mono (by omega)),oB]
 have:=Zxw (N:=N) l hl hb N 0 0 (by omega) (by omega) (hr.mono (by rw [Zp2,List.drop_zero];omega))
 rw [List.drop_zero,Rat.zero_add] at this
 exact this
def Zfz (ab:ByteArray):List ByteArray→Nat→Option Int
  | [],aa=>some (-1)
  | ac :: ad,aa=>if (decide (ab=ac))=true then (some (aa:Int)) else ((Zfz ab ad) (aa+1))
termination_by structural x=>x
def Zm3 (aa:List ByteArray) (ab:ByteArray):Option Int:=
  Zfz ab aa 0
theorem Z2c {ag:Nat} {a0:Option Addr} {col:Zd} {w0:World} {ab:R7} {ae:ByteArray} {r:Int} (hm:Zm3 ab ae=some r) (h0:Sl Za.str col w0 a0 ag ab):
    Calls prog 191 #[.slice a0 ab.length ag,.string ae] w0 (fun e w'=>e= .returned ((.int .i64 r))∧Below w0.heap.size w0 w'):=by
 refine Xc 4 (m:=19) func191 rfl rfl rfl rfl rfl ?_;rw [Zm3.eq_1] at hm;have aa:=St.start col w0;refine go ?_;refine Zw [0,1,7,1000000] (fun n f ah=>∃ ai ac ad,n=ad.length∧ab.drop ac=ad∧Zfz ae ad ac=some r∧St w0 (Zh col) ai ah∧[8].map f=[.int .i64 ac]) ab.length ⟨_,0,_,rfl,rfl,hm,aa,rfl⟩ ?_;clear hm;intro n f ah hI;obtain ⟨ai,ac,ad,hn,hl,hm,aa,hs⟩:=hI;subst hn;refine .lL [8] hs ?_;replace h0:=h0.keep (Zf.start col w0)
 cases ad with
 | nil=>
  have hk:¬ ((ac:Int)<(ab.length:Int)):=by have:=List.drop_eq_nil_iff.1 hl;omega
  have hkb:=decide_eq_false hk;rw [Zfz.eq_1] at hm;refine go ?_;refine Yf (congrArg Value.bool hkb)<|go ?_;cases hm;exact ⟨rfl,rfl,aa.below⟩
 | cons am aj=>
  obtain ⟨af,ak,al⟩:=Yw hl;have hk:(ac:Int)<(ab.length:Int):=by omega
  have hkb:=decide_eq_true hk;rw [Zfz.eq_2] at hm;refine go ?_;refine Yg (congrArg Value.bool hkb)<|go ?_;refine lI af ((h0.ks aa).addr af)<|lW ((h0.ks aa).atStr af) ?_;refine go ?_;refine Zo hm (fun hb hm=>go ?_) fun hb hm=>go ?_
  ·cases hm;exact ⟨rfl,rfl,aa.below⟩
  exact ⟨aj.length,by simp,rfl,⟨_,_,_,rfl,ak,hm,aa,(Y1 (congrArg (Value.int .i64) (Yy (Nat.lt_of_lt_of_le al (h0.ks aa).1.1))) rfl)⟩⟩
def Zkn (aa:List ByteArray) (ab:ByteArray):Option Bool:=
  (Zm3 aa ab).bind fun ac=>some (decide (0≤ac))
theorem Z2a {ad:Nat} {a0:Option Addr} {col:Zd} {w0:World} {ab:R7} {ae:ByteArray} {r:Bool} (hm:Zkn ab ae=some r) (h0:Sl Za.str col w0 a0 ad ab):
    Calls prog 78 #[.slice a0 ab.length ad,.string ae] w0 (fun e w'=>e= .returned ((.bool r))∧Below w0.heap.size w0 w'):=by
 refine Xc 4 (m:=9) func78 rfl rfl rfl rfl rfl ?_;rw [Zkn.eq_1] at hm;have aa:=St.start col w0;refine go ?_;obtain ⟨ah,af,hm⟩:=bZ hm;replace h0:=h0.keep (Zf.start col w0);refine Zi (Z2c af (h0.ks aa)) ?_;rintro _ ag ⟨rfl,ac⟩;refine ⟨_,rfl,?_⟩;replace ac:Zg (Zh col) w0 (Zh col) ag:=.of_below ac;refine go ?_;cases hm;replace aa:=aa.grow ac;exact ⟨rfl,rfl,aa.below⟩
def Zcm:List ByteArray→(List (ByteArray×Int))→Option Bool
  | [],aa=>some false
  | ab :: ac,aa=>if (decide (0<((Wq aa ab).getD 0)))=true then (some true) else ((some (Su aa ab 1)).bind fun ad=>(Zcm ac) ad)
termination_by structural x=>x
def Zjq (aa:List ByteArray):Option Bool:=
  Zcm aa ([]:List (ByteArray×Int))
theorem Z0u {al:Nat} {a0:Option Addr} {col:Zd} {w0:World} {ab:R7} {r:Bool} (hm:Zjq ab=some r) (h0:Sl Za.str col w0 a0 al ab):
    Calls prog 252 #[.slice a0 ab.length al] w0 (fun e w'=>e= .returned ((.bool r))∧Below w0.heap.size w0 w'):=by
 refine Xc 2 (m:=20) func252 rfl rfl rfl rfl rfl ?_;rw [Zjq.eq_1] at hm;have aa:=St.start col w0;refine go ?_;refine Z4d (col:=(Zh col)) (fk:=Value.string) (fv:=(Value.int .i64)) 1 rfl ?_;intro ay az a1 ao ap;refine go ?_;replace aa:=aa.grow ao;refine Zw [7,8,1000000] (fun n f af=>∃ ag ah ac ad ae,n=ae.length∧ab.drop ad=ae∧Zcm ae ac=some r∧St w0 (Zh col) ag af∧Vh Value.string (Value.int .i64) 1 ag af ah ac∧[9,3].map f=[.int .i64 ad,.map (some ah)]) ab.length ⟨_,_,_,0,_,rfl,rfl,hm,aa,ap,rfl⟩ ?_;clear hm;intro n f af hI;obtain ⟨ag,ah,ac,ad,ae,hn,hl,hm,aa,am,hs⟩:=hI;subst hn;refine .lL [9,3] hs ?_;replace h0:=h0.keep (Zf.start col w0)
 cases ae with
 | nil=>
  have hk:¬ ((ad:Int)<(ab.length:Int)):=by have:=List.drop_eq_nil_iff.1 hl;omega
  have hkb:=decide_eq_false hk;rw [Zcm.eq_1] at hm;refine go ?_;refine Yf (congrArg Value.bool hkb)<|go ?_;cases hm;exact ⟨rfl,rfl,aa.below⟩
 | cons ai aq=>
  obtain ⟨aj,ar,au⟩:=Yw hl;have hk:(ad:Int)<(ab.length:Int):=by omega
  have hkb:=decide_eq_true hk;rw [Zcm.eq_2] at hm;refine go ?_;refine Yg (congrArg Value.bool hkb)<|go ?_;refine lI aj ((h0.ks aa).addr aj)<|lW ((h0.ks aa).atStr aj) ?_;refine go ?_;refine lV (.int .i64 ((Wq ac ai).getD 0)) (Zw0 T7.str am underlying111 underlying9 zeroValue3 rfl rfl)<|go ?_;refine Zo hm (fun hb hm=>go ?_) fun hb hm=>go ?_
  ·cases hm;exact ⟨rfl,rfl,aa.below⟩
  obtain ⟨av,ak,hm⟩:=bZ hm;have ak:av=Su ac ai 1:=(Option.some.inj ak).symm;refine Zt8 (k:=ai) (v:=1) T7.str am underlying111 underlying9 rfl rfl rfl ?_;intro a2 aw ax an;rw [← ak] at an;refine go ?_;replace aa:=aa.kp aw ax;exact ⟨aq.length,by simp,rfl,⟨_,_,_,_,_,rfl,ar,hm,aa,an,(Y1 (congrArg (Value.int .i64) (Yy (Nat.lt_of_lt_of_le au (h0.ks aa).1.1))) rfl)⟩⟩
def Zg9 (ab:R0) (aa:Nat) (kk_L1:(Nat→Option Int)) (ac:Bool):Option Int:=
  if ac=true then (some 40) else ((Zj ab.2.2.1 (aa:Int)).bind fun ad=>if (decide ((ad.length:Int)=0))=true then (some 43) else (kk_L1 (aa+1)))
def Zbb (aa:R0):List ByteArray→Nat→Option Int
  | [],ab=>some 0
  | ad :: ac,ab=>Zv ((0:Int)≤(ab:Int)∧(ab:Int)≤(aa.2.1.length:Int)) ((Zkn (aa.2.1.take (Int.toNat (ab:Int))) ad).bind fun ae=>if ae=true then (Zg9 aa ab (Zbb aa ac) true) else ((Zj aa.2.2.1 (ab:Int)).bind fun af=>(Zjq af).bind fun ag=>Zg9 aa ab (Zbb aa ac) ag))
termination_by structural x=>x
def Zeb (aa:R0):Option Int:=
  Zbb aa aa.2.1 0
theorem Z0r {ae ak al am:Nat} {af an ao ap:Option Addr} {col:Zd} {w0:World} {aa:R0} {r:Int} (hm:Zeb aa=some r) (ag:Sl Za.str col w0 af ae aa.2.1) (ai:Sl (Za.slice Za.str) col w0 an ak aa.2.2.1) (bi:Sl (Za.slice (Za.int .i64)) col w0 ao al aa.2.2.2.1) (bj:Sl (Za.slice (Za.pair (Za.pair Za.bool (Za.slice (Za.int .u32))) (Za.slice (Za.int .u32)))) col w0 ap am aa.2.2.2.2):
    Calls prog 174 #[(.agg #[.string aa.1,.slice af aa.2.1.length ae,.slice an aa.2.2.1.length ak,.slice ao aa.2.2.2.1.length al,.slice ap aa.2.2.2.2.length am])] w0 (fun e w'=>e= .returned ((.int .i64 r))∧Below w0.heap.size w0 w'):=by
 refine Xc 2 (m:=37) func174 rfl rfl rfl rfl rfl ?_;rw [Zeb.eq_1] at hm;have ab:=St.start col w0;refine go ?_;refine Xg (col:=(Zh col)) 1 rfl ?_;intro a3 bk bm a6 ac;refine go ?_;refine Xa ac ?_;refine go ?_;replace ab:=ab.grow a6;refine Zw [1,6,7,1000000] (fun n f aq=>∃ ah ad aj,n=aj.length∧aa.2.1.drop ad=aj∧Zbb aa aj ad=some r∧St w0 (Zh col) ah aq∧Zm 27 1 ah aq a3 #[.string aa.1,.slice af aa.2.1.length ae,.slice an aa.2.2.1.length ak,.slice ao aa.2.2.2.1.length al,.slice ap aa.2.2.2.2.length am]∧[8].map f=[.int .i64 ad]) aa.2.1.length ⟨_,0,_,rfl,rfl,hm,ab,ac,rfl⟩ ?_;clear hm;intro n f aq hI;obtain ⟨ah,ad,aj,hn,hl,hm,ab,ac,hs⟩:=hI;subst hn;refine .lL [8] hs ?_;replace ag:=ag.keep (Zf.start col w0);replace ai:=ai.keep (Zf.start col w0)
 cases aj with
 | nil=>
  have hk:¬ ((ad:Int)<(aa.2.1.length:Int)):=by have:=List.drop_eq_nil_iff.1 hl;omega
  have hkb:=decide_eq_false hk;rw [Zbb.eq_1] at hm;refine go ?_;refine Yf (congrArg Value.bool hkb)<|go ?_;cases hm;exact ⟨rfl,rfl,ab.below⟩
 | cons bn a4=>
  obtain ⟨av,a7,a8⟩:=Yw hl;have hk:(ad:Int)<(aa.2.1.length:Int):=by omega
  have hkb:=decide_eq_true hk;rw [Zbb.eq_2] at hm;refine go ?_;refine Yg (congrArg Value.bool hkb)<|go ?_;refine lI av ((ag.ks ab).addr av)<|lW ((ag.ks ab).atStr av)<|Y8 rfl<|lAT rfl<|Zk<|Ziz<|Z0 ?_;refine Wp.cutK [1,3,6,7,8,1000000] (fun f aw=>∃ ax ay,Zg9 aa ad (Zbb aa a4) ay=some r∧St w0 (Zh col) ax aw∧Zm 27 1 ax aw a3 #[.string aa.1,.slice af aa.2.1.length ae,.slice an aa.2.2.1.length ak,.slice ao aa.2.2.2.1.length al,.slice ap aa.2.2.2.2.length am]∧[13].map f=[.bool ay]) ?_ ?_
  ·intro f aw hJ;obtain ⟨ax,ay,hm,ab,ac,hs⟩:=hJ;rw [Zg9.eq_1] at hm;refine .lL [13] hs ?_;refine Zo hm (fun hb hm=>go ?_) fun hb hm=>go ?_
   ·cases hm;exact ⟨rfl,rfl,ab.below⟩
   refine Xa ac<|Xo rfl ?_;obtain ⟨bo,az,hm⟩:=bZ hm;refine lI az ((ai.ks ab).addr az) ?_;obtain ⟨_,a9,ba⟩:=(ai.ks ab).atN az;obtain ⟨⟨bp,bq,rfl,br⟩,_⟩:=a9;refine lW ba.one<|go ?_;refine Zo hm (fun hb hm=>go ?_) fun hb hm=>go ?_
   ·cases hm;exact ⟨rfl,rfl,ab.below⟩
   exact ⟨a4.length,by simp,rfl,⟨_,_,_,rfl,a7,hm,ab,ac,(Y1 (congrArg (Value.int .i64) (Yy (Nat.lt_of_lt_of_le a8 (ag.ks ab).1.1))) rfl)⟩⟩
  refine Wk<|Xa ac<|Xo rfl ?_;obtain ⟨a0,hm⟩:=Zx hm;refine lv (v:=.slice af (Int.toNat (ad:Int)) ae) rfl rfl (V5 underlying22 sizeOf9 rfl rfl a0.1 (by have:=(ag.ks ab).1.2;have:=a0.2;omega))<|.ld (d:=17) (v:=(.slice af ((aa.2.1.take (Int.toNat (ad:Int))).length) ae)) (congrArg (fun n=>Value.slice af n ae) (List.length_take_of_le (show (Int.toNat (ad:Int))≤aa.2.1.length by have:=a0.2;omega)).symm) ?_;refine lMT rfl ?_;obtain ⟨bs,bb,hm⟩:=bZ hm;refine Zi (Z2a bb ((ag.ks ab).take (Int.toNat (ad:Int)))) ?_;rintro _ a5 ⟨rfl,ar⟩;refine ⟨_,rfl,?_⟩;replace ar:Zg ah aq ah a5:=.of_below ar;refine Y2 rfl ?_;replace ac:=ac.gr ar;replace ab:=ab.grow ar;refine Xt hm (fun a1 hm=>go ?_) fun a1 hm=>go ?_
  ·refine lV (.bool true) (Xb (congrArg Value.bool a1) rfl)<|go ?_;exact ⟨rfl,_,_,hm,ab,ac,rfl⟩
  refine Xd ⟨_,_,rfl⟩ ?_;refine go ?_;refine lW ((ac.atN).nth (q:=2) rfl)<|go ?_;obtain ⟨bt,a2,hm⟩:=bZ hm;refine lI a2 ((ai.ks ab).addr a2) ?_;refine go ?_;obtain ⟨_,bc,bd⟩:=(ai.ks ab).atN a2;obtain ⟨⟨bu,bv,rfl,be⟩,_⟩:=bc;refine lW bd.one<|go ?_;obtain ⟨bf,bg,hm⟩:=bZ hm;refine Zi (Z0u bg be) ?_;rintro _ bh ⟨rfl,au⟩;refine ⟨_,rfl,?_⟩;replace au:Zg ah a5 ah bh:=.of_below au;refine lV (.bool bf) (Xm (congrArg Value.bool a1) rfl)<|go ?_;replace ac:=ac.gr au;replace ab:=ab.grow au;exact ⟨rfl,_,_,hm,ab,ac,rfl⟩
def Zg7 (aa:Bool) (ab:List Int) (ac:List Int):Option R1:=
  some ((aa,ab),ac)
def Zck (N:Nat) (aa:R1):Option R1:=
  (Zej N aa.2).bind fun ab=>if (decide ((ab.length:Int)=0))=true then ((Zbc N 1).bind fun ac=>Zg7 aa.1.1 aa.1.2 ac) else (Zg7 aa.1.1 aa.1.2 aa.2)
theorem Zrc {N am a1:Nat} {an a2:Option Addr} {col:Zd} {w0:World} {ad r:R1} (hm:Zck N ad=some r) (ai:Sl (Za.int .u32) col w0 an am ad.1.2) (aj:Sl (Za.int .u32) col w0 a2 a1 ad.2):
    Calls prog 183 #[(.agg #[.bool ad.1.1,.slice an ad.1.2.length am,.slice a2 ad.2.length a1])] w0 (fun e w'=>∃ (col':Zd) (ra1:Option Addr) (rc2:Nat) (ra4:Option Addr) (rc5:Nat),e= .returned ((.agg #[.bool r.1.1,.slice ra1 r.1.2.length rc2,.slice ra4 r.2.length rc5]))∧Zg col w0 col' w'∧Sl (Za.int .u32) col' w' ra1 rc2 r.1.2∧Sl (Za.int .u32) col' w' ra4 rc5 r.2):=by
 refine Ym (m:=11) func183 rfl rfl rfl ?_;rw [Zck.eq_1] at hm;have aa:=St.start col w0;refine go ?_;refine Xg (col:=(Zh col)) 1 rfl ?_;intro a3 bj a8 a9 ab;refine Xl (col:=a8) #[.bool false,.slice none (([]:List Int).length) 0,.slice none (([]:List Int).length) 0] 2 zeroValue47 ?_;intro ba bk bm a4 ac;refine Zk<|Z0 ?_;replace ai:=ai.keep (Zf.start col w0);replace aj:=aj.keep (Zf.start col w0);replace aa:=(aa.grow a9).grow a4;replace ab:=ab.gr a4;refine Wp.cutK [1,2,1000000] (fun f ae=>∃ af ao ap aq ak ar au al,Zg7 ao ak al=some r∧St w0 (Zh col) af ae∧Sl (Za.int .u32) af ae ap aq ak∧Sl (Za.int .u32) af ae ar au al∧Zm 47 1 af ae a3 #[.bool ao,.slice ap ak.length aq,.slice ar al.length au]∧Zm 47 2 af ae ba #[.bool false,.slice none (([]:List Int).length) 0,.slice none (([]:List Int).length) 0]) ?_ ?_
 ·intro f ae hJ;obtain ⟨af,ao,ap,aq,ak,ar,au,al,hm,aa,av,aw,ab,ac⟩:=hJ;rw [Zg7.eq_1] at hm;refine go ?_;refine lV _ (Z7 isAgg47 sizeOf47 ab)<|Z4 ac ?_;intro bn ax bb bc;refine go ?_;cases hm;replace av:=av.kp ax;replace aw:=aw.kp ax;replace aa:=aa.kp ax bb;exact ⟨rfl,_,ra bc.atN,_,_,_,_,_,rfl,aa.fin (cm []),aa.fs av,aa.fs aw⟩
 refine go ?_;refine Xa ab ?_;obtain ⟨bo,bd,hm⟩:=bZ hm;refine Zi (Zok 3 bd (aj.ks aa)) ?_;rintro _ bp ⟨be,bq,br,rfl,ay,bs⟩;refine ⟨_,rfl,go ?_⟩;replace ab:=ab.gr ay;replace ac:=ac.gr ay;replace aa:=aa.grow ay;refine Zo hm (fun hb hm=>?_) fun hb hm=>?_
 ·refine Wk ?_;obtain ⟨a5,bf,hm⟩:=bZ hm;refine Zi (Zjb (col:=be) 4 bf) ?_;rintro _ bt ⟨bg,a6,a7,rfl,az,ag⟩;refine ⟨_,rfl,?_⟩;refine Xd ⟨_,_,rfl⟩ ?_;replace ab:=ab.gr az;refine Tg (off:=2) (v:=(.slice a6 a5.length a7)) ab sizeOf43 rfl rfl (by intro u hu;simp only [Value.cells,List.mem_cons,List.not_mem_nil,or_false] at hu;subst hu;rfl) rfl rfl ?_;intro bh a0 bi ah;replace ah:Zm 47 1 bg bh a3 #[.bool ad.1.1,.slice an ad.1.2.length am,.slice a6 a5.length a7]:=ah;refine Zk ?_;replace ag:=ag.kp a0;replace ag:=(ag).toSlF (Zn.int .u32);replace ah:=ah.froz 4 (by decide);replace ac:=(ac.gr az).kp a0;replace ac:=ac.froz 4 (by decide);replace aa:=(aa.grow az).kp a0 bi;replace aa:=aa.froz 4 (by decide) (by decide);exact ⟨rfl,_,_,_,_,_,_,_,_,hm,aa,(ai.ks aa),ag,ah,ac⟩
 refine X9 ?_;exact ⟨rfl,_,_,_,_,_,_,_,_,hm,aa,(ai.ks aa),(aj.ks aa),ab,ac⟩
theorem Z3e:Wf prog 47 3 56:=⟨Tryz.t47,_,rfl,rfl,rfl,rfl,rfl⟩
def Zcl (N:Nat):List R1→R8→Option R8
  | [],ab=>some ab
  | ac :: ad,ab=>(Zck N ((ac.1.1,ac.1.2),ac.2)).bind fun aa=>Zv ((ab.length+[((aa.1.1,aa.1.2),aa.2)].length) * 56≤140737488355328∧ab.length+[((aa.1.1,aa.1.2),aa.2)].length≤maxLen) ((Zcl N ad) (ab++[((aa.1.1,aa.1.2),aa.2)]))
termination_by structural x=>x
def Zg8 (N:Nat) (aa:R8):Option R8:=
  Zv (aa.length * 56≤281474976710656∧aa.length≤maxLen) (Zcl N aa ([]:List R1))
theorem Zrd {N ar:Nat} {a0:Option Addr} {col:Zd} {w0:World} {ac r:R8} (c1:Nat) (hm:Zg8 N ac=some r) (h0:Sl (Za.pair (Za.pair Za.bool (Za.slice (Za.int .u32))) (Za.slice (Za.int .u32))) col w0 a0 ar ac):
    Calls prog 178 #[.slice a0 ac.length ar] w0 (fun e w'=>∃ (col':Zd) (ra1:Option Addr) (rc2:Nat),e= .returned ((.slice ra1 r.length rc2))∧Zg col w0 col' w'∧Zc (Za.pair (Za.pair Za.bool (Za.slice (Za.int .u32))) (Za.slice (Za.int .u32))) 47 c1 col' w' ra1 rc2 r):=by
 refine Xc 2 (m:=22) func178 rfl rfl rfl rfl rfl ?_;rw [Zg8.eq_1] at hm;have ab:=St.start col w0;refine go ?_;obtain ⟨au,hm⟩:=Zx hm;refine Z4c (col:=(Zh col)) (w:=w0) (r:=(Za.pair (Za.pair Za.bool (Za.slice (Za.int .u32))) (Za.slice (Za.int .u32)))) (n:=ac.length) 1 rfl underlying56 Z3e rfl rfl rfl au.1 au.2 ?_;intro bt bu bv a2 a3;refine go ?_;replace ab:=ab.grow a2;refine Zw [10,9,1000000] (fun n f ak=>∃ af ad al am ag ae,n=ae.length∧ac.drop ad=ae∧Zcl N ae ag=some r∧St w0 (Zh col) af ak∧Zc (Za.pair (Za.pair Za.bool (Za.slice (Za.int .u32))) (Za.slice (Za.int .u32))) 47 1 af ak al am ag∧[11,3].map f=[.int .i64 ad,.slice al ag.length am]) ac.length ⟨_,0,_,_,_,_,rfl,rfl,hm,ab,a3,rfl⟩ ?_;clear hm;intro n f ak hI;obtain ⟨af,ad,al,am,ag,ae,hn,hl,hm,ab,ah,hs⟩:=hI;subst hn;refine .lL [11,3] hs ?_;replace h0:=h0.keep (Zf.start col w0)
 cases ae with
 | nil=>
  have hk:¬ ((ad:Int)<(ac.length:Int)):=by have:=List.drop_eq_nil_iff.1 hl;omega
  have hkb:=decide_eq_false hk;rw [Zcl.eq_1] at hm;refine go ?_;refine Yf (congrArg Value.bool hkb)<|go ?_;cases hm;exact ⟨rfl,_,_,_,rfl,ab.fin (cm [(1,c1)]),ab.fo ah⟩
 | cons an a4=>
  obtain ⟨ao,a5,a6⟩:=Yw hl;have hk:(ad:Int)<(ac.length:Int):=by omega
  have hkb:=decide_eq_true hk;rw [Zcl.eq_2] at hm;refine go ?_;refine Yg (congrArg Value.bool hkb)<|go ?_;refine lI ao ((h0.ks ab).addr ao) ?_;obtain ⟨_,a7,a8⟩:=(h0.ks ab).atN ao;obtain ⟨_,_,rfl,a9,ba⟩:=Yi a7;obtain ⟨_,_,rfl,bb,bc⟩:=Yi a9;obtain ⟨rfl,_⟩:=bb;obtain ⟨⟨bd,be,rfl,ap⟩,_⟩:=bc;obtain ⟨⟨bf,bg,rfl,aq⟩,_⟩:=ba;refine lV (.agg #[.bool an.1.1,.slice bd an.1.2.length be,.slice bf an.2.length bg]) (Yj isAgg47 sizeOf47 rfl rfl a8)<|Xl (col:=af) #[.bool false,.slice none (([]:List Int).length) 0,.slice none (([]:List Int).length) 0] 2 zeroValue47 ?_;intro bw bx bz ai bh;refine Z4 bh ?_;intro b0 aj bi bj;refine go ?_;refine lV _ (Z7 isAgg47 sizeOf47 bj) ?_;obtain ⟨aa,bk,hm⟩:=bZ hm;replace ap:=(ap.gr ai).kp aj;replace aq:=(aq.gr ai).kp aj;refine Zi (Zrc bk ap aq) ?_;rintro _ b1 ⟨bm,av,aw,ax,ay,rfl,az,bn,bo⟩;refine ⟨_,rfl,?_⟩;refine Th (col:=bm) (r:=(Za.pair (Za.pair Za.bool (Za.slice (Za.int .u32))) (Za.slice (Za.int .u32)))) (xs:=[((aa.1.1,aa.1.2),aa.2)]) [(.agg #[.bool aa.1.1,.slice av aa.1.2.length aw,.slice ax aa.2.length ay])] 3 (Wm.ofF (Rows.consF (r:=(Za.pair (Za.pair Za.bool (Za.slice (Za.int .u32))) (Za.slice (Za.int .u32)))) (x:=((aa.1.1,aa.1.2),aa.2)) (cs:=[.bool aa.1.1,.slice av aa.1.2.length aw,.slice ax aa.2.length ay]) (S1 (S1 (T3 aa.1.1) (Zqa bn)) (Zqa bo)) Rows.nil0)) ?_;intro b2 b3 b4 a1 bp;obtain ⟨bq,hm⟩:=Zx hm;replace ah:=(((ah.gr ai).kp aj).gr az).gr a1;refine Y3 ah (bp.srcN (NB.pair (NB.pair NB.bool NB.slice) NB.slice)) bq ?_;intro b5 b6 b7 b8 br bs;refine go ?_;replace ab:=((((ab.grow ai).kp aj bi).grow az).grow a1).kpp br;exact ⟨a4.length,by simp,rfl,⟨_,_,_,_,_,_,rfl,a5,hm,ab,bs,(Y1 (congrArg (Value.int .i64) (Yy (Nat.lt_of_lt_of_le a6 (h0.ks ab).1.1))) rfl)⟩⟩
def Zdc (N:Nat) (ab:List R1) (ac:Int):Nat→Int→Option (List R8)
  | 0,_=>none
  | ad+1,aa=>if (decide (aa<(ab.length:Int)))=true then (Zv ((0:Int)≤aa∧aa≤(ab.length:Int)) (Zv ((0:Int)≤aa∧aa≤(i64.wrap (aa+(if ((ab.drop (Int.toNat aa)).length:Int)<ac then ((ab.drop (Int.toNat aa)).length:Int) else ac)))∧(i64.wrap (aa+(if ((ab.drop (Int.toNat aa)).length:Int)<ac then ((ab.drop (Int.toNat aa)).length:Int) else ac)))≤(i64.wrap (aa+(if ((ab.drop (Int.toNat aa)).length:Int)<ac then ((ab.drop (Int.toNat aa)).length:Int) else ac)))∧(i64.wrap (aa+(if ((ab.drop (Int.toNat aa)).length:Int)<ac then ((ab.drop (Int.toNat aa)).length:Int) else ac)))≤(ab.length:Int)) (((Zdc N ab ac ad) (i64.wrap (aa+ac))).bind fun ae=>some ((ab.take (Int.toNat (i64.wrap (aa+(if ((ab.drop (Int.toNat aa)).length:Int)<ac then ((ab.drop (Int.toNat aa)).length:Int) else ac))))).drop (Int.toNat aa) :: ae)))) else (some [])
termination_by structural x=>x
def Zmz (N:Nat) (aa:List R1) (ab:Int):Option (List R8):=
  Zdc N aa ab N 0
theorem Z17 (N:Nat) (col:Zd) (w0:World) (g0:Nat) (af0:Option Addr) (capf0:Nat) (ab:List R1) (hf0:Sl (Za.pair (Za.pair Za.bool (Za.slice (Za.int .u32))) (Za.slice (Za.int .u32))) col w0 af0 capf0 ab) (hb0:Zm 56 450 col w0 g0 #[.slice af0 ab.length capf0]) (g1:Nat) (ac:Int) (hb1:Zm 3 450 col w0 g1 #[.int .i64 ac]) (r:List R8) (hm:Zmz N ab ac=some r):
    Zgb prog 1 285 [.pointer (some ⟨g0,0,none⟩),.pointer (some ⟨g1,0,none⟩)] (fun (y:List R1) (col:Zd) (w:World) (args:List Value)=>∃ (a0:Option Addr) (ak:Nat),args=[.slice a0 y.length ak]∧Sl (Za.pair (Za.pair Za.bool (Za.slice (Za.int .u32))) (Za.slice (Za.int .u32))) col w a0 ak y) r col w0:=by
 intro l J X hjs hxs hy ad;refine Zjd (m:=31) (args:=[.func (.yield l) #[] #[],.pointer (some ⟨g0,0,none⟩),.pointer (some ⟨g1,0,none⟩)]) func285 rfl rfl rfl rfl ?_;rw [Zmz.eq_1] at hm;refine go ?_;refine Zw [0,1,2,1000000] (fun n f ah=>∃ ae r aa af,af=n∧Zdc N ab ac af aa=some r∧J r ae ah∧Sl (Za.pair (Za.pair Za.bool (Za.slice (Za.int .u32))) (Za.slice (Za.int .u32))) ae ah af0 capf0 ab∧Zm 56 450 ae ah g0 #[.slice af0 ab.length capf0]∧Zm 3 450 ae ah g1 #[.int .i64 ac]∧[4].map f=[.int .i64 aa]) N ⟨_,_,0,_,rfl,hm,ad,hf0,hb0,hb1,rfl⟩ ?_;clear hm;intro n f ah hI;obtain ⟨ae,r,aa,af,hn,hm,ad,hf0,hb0,hb1,hs⟩:=hI;subst hn;refine .lL [4] hs ?_
 cases af with
 | zero=>rw [Zdc.eq_1] at hm;cases hm
 | succ af=>
  rw [Zdc.eq_2] at hm;refine go ?_;refine lW hb0.at1<|go ?_;refine Zo hm (fun hb hm=>go ?_) fun hb hm=>go ?_
  ·refine Wd (col:=ae) (by kernel_rfl) (by kernel_rfl)<|qW (fun _ hC=>hb1.at1.gr (hC.bl ae)) ?_;refine qW (fun _ hC=>hb0.at1.gr (hC.bl ae)) ?_;refine go ?_;obtain ⟨al,hm⟩:=Zx hm;have ap:=hf0.drop (sz:=3) rfl (Int.toNat aa);refine qv (v:=.slice (if capf0=(Int.toNat aa) then af0 else af0.map (·.add ((Int.toNat aa) * 3))) (ab.length - (Int.toNat aa)) (capf0 - (Int.toNat aa))) rfl (fun _ hC=>Z5z underlying56 sizeOf47 rfl rfl al.1 al.2) ?_;generalize (if capf0=(Int.toNat aa) then af0 else af0.map (·.add ((Int.toNat aa) * 3)))=am at *;refine .ld (d:=16) (v:=(.slice am ((ab.drop (Int.toNat aa)).length) (capf0 - (Int.toNat aa)))) (congrArg (fun n=>Value.slice am n (capf0 - (Int.toNat aa))) (List.length_drop (i:=(Int.toNat aa)) (l:=ab)).symm) ?_;refine go ?_;refine qv (v:=(.int .i64 (if ((ab.drop (Int.toNat aa)).length:Int)<ac then ((ab.drop (Int.toNat aa)).length:Int) else ac))) rfl (fun _ hC=>Zp6 ac ((ab.drop (Int.toNat aa)).length:Int) rfl rfl) ?_;refine go ?_;refine X7 ?_;intro aq hC;replace hC:=hC.bl ae;replace hf0:=hf0.gr hC;replace hb0:=hb0.gr hC;replace hb1:=hb1.gr hC;replace ad:=hjs _ _ _ _ _ ad hC.toP;refine go ?_;refine lM (.func (.yield l) #[] #[])<|lW hb0.at1<|go ?_;obtain ⟨ag,hm⟩:=Zx hm;have an:=((hf0.take (Int.toNat (i64.wrap (aa+(if ((ab.drop (Int.toNat aa)).length:Int)<ac then ((ab.drop (Int.toNat aa)).length:Int) else ac))))).recap (show (ab.take (Int.toNat (i64.wrap (aa+(if ((ab.drop (Int.toNat aa)).length:Int)<ac then ((ab.drop (Int.toNat aa)).length:Int) else ac))))).length≤(Int.toNat (i64.wrap (aa+(if ((ab.drop (Int.toNat aa)).length:Int)<ac then ((ab.drop (Int.toNat aa)).length:Int) else ac)))) by rw [List.length_take (i:=(Int.toNat (i64.wrap (aa+(if ((ab.drop (Int.toNat aa)).length:Int)<ac then ((ab.drop (Int.toNat aa)).length:Int) else ac))))) (l:=ab)];have:=ag.2;omega)).drop (sz:=3) rfl (Int.toNat aa);refine lv (v:=.slice (if (Int.toNat (i64.wrap (aa+(if ((ab.drop (Int.toNat aa)).length:Int)<ac then ((ab.drop (Int.toNat aa)).length:Int) else ac))))=(Int.toNat aa) then af0 else af0.map (·.add ((Int.toNat aa) * 3))) ((Int.toNat (i64.wrap (aa+(if ((ab.drop (Int.toNat aa)).length:Int)<ac then ((ab.drop (Int.toNat aa)).length:Int) else ac)))) - (Int.toNat aa)) ((Int.toNat (i64.wrap (aa+(if ((ab.drop (Int.toNat aa)).length:Int)<ac then ((ab.drop (Int.toNat aa)).length:Int) else ac)))) - (Int.toNat aa))) rfl rfl (Z50 underlying56 sizeOf47 rfl rfl rfl rfl ag.1 ag.2.1 ag.2.2.1 (by have:=hf0.1.2;have:=ag.2.2.2;omega)) ?_
   generalize (if (Int.toNat (i64.wrap (aa+(if ((ab.drop (Int.toNat aa)).length:Int)<ac then ((ab.drop (Int.toNat aa)).length:Int) else ac))))=(Int.toNat aa) then af0 else af0.map (·.add ((Int.toNat aa) * 3)))=ai at *;refine .ld (d:=28) (v:=(.slice ai (((ab.take (Int.toNat (i64.wrap (aa+(if ((ab.drop (Int.toNat aa)).length:Int)<ac then ((ab.drop (Int.toNat aa)).length:Int) else ac))))).drop (Int.toNat aa)).length) ((Int.toNat (i64.wrap (aa+(if ((ab.drop (Int.toNat aa)).length:Int)<ac then ((ab.drop (Int.toNat aa)).length:Int) else ac)))) - (Int.toNat aa)))) (congrArg (fun n=>Value.slice ai n ((Int.toNat (i64.wrap (aa+(if ((ab.drop (Int.toNat aa)).length:Int)<ac then ((ab.drop (Int.toNat aa)).length:Int) else ac)))) - (Int.toNat aa))) (show (Int.toNat (i64.wrap (aa+(if ((ab.drop (Int.toNat aa)).length:Int)<ac then ((ab.drop (Int.toNat aa)).length:Int) else ac)))) - (Int.toNat aa)=((ab.take (Int.toNat (i64.wrap (aa+(if ((ab.drop (Int.toNat aa)).length:Int)<ac then ((ab.drop (Int.toNat aa)).length:Int) else ac))))).drop (Int.toNat aa)).length by rw [List.length_drop (i:=(Int.toNat aa)) (l:=ab.take (Int.toNat (i64.wrap (aa+(if ((ab.drop (Int.toNat aa)).length:Int)<ac then ((ab.drop (Int.toNat aa)).length:Int) else ac))))),List.length_take (i:=(Int.toNat (i64.wrap (aa+(if ((ab.drop (Int.toNat aa)).length:Int)<ac then ((ab.drop (Int.toNat aa)).length:Int) else ac))))) (l:=ab)];have:=ag.2;omega)) ?_;obtain ⟨ar,hc_14m,ao⟩:=bZ hm;cases ao;have hm:=hc_14m;refine ly1 rfl rfl rfl (hy _ _ _ _ [(.slice ai (((ab.take (Int.toNat (i64.wrap (aa+(if ((ab.drop (Int.toNat aa)).length:Int)<ac then ((ab.drop (Int.toNat aa)).length:Int) else ac))))).drop (Int.toNat aa)).length) ((Int.toNat (i64.wrap (aa+(if ((ab.drop (Int.toNat aa)).length:Int)<ac then ((ab.drop (Int.toNat aa)).length:Int) else ac)))) - (Int.toNat aa)))] ad ⟨ai,((Int.toNat (i64.wrap (aa+(if ((ab.drop (Int.toNat aa)).length:Int)<ac then ((ab.drop (Int.toNat aa)).length:Int) else ac)))) - (Int.toNat aa)),rfl,an⟩) ?_;rintro _ au ⟨av,aj,⟨rfl,hJ⟩ | ⟨rfl,hX⟩⟩
   ·refine ⟨_,rfl,?_⟩;have ad:=hJ;refine go ?_;refine Yf rfl<|go ?_;replace hb1:=hb1.kpp aj;refine lW hb1.at1<|go ?_;replace hf0:=hf0.kpp aj;replace hb0:=hb0.kpp aj;exact ⟨af,by omega,rfl,⟨_,_,_,_,rfl,hm,ad,hf0,hb0,hb1,rfl⟩⟩
   refine ⟨_,rfl,?_⟩;have ad:=hX;refine go ?_;refine Yg rfl<|We ?_;exact ⟨rfl,⟨_,rfl⟩,_,.inr ad⟩
  cases hm;exact ⟨rfl,⟨_,rfl⟩,_,.inl ad⟩
def Zm0 (N:Nat) (aa:R8) (ab:Int):Option (List R8):=
  Zmz N aa ab
def Zmy (N:Nat) (ab:R8) (aa:Int):Option (List R8):=
  if (decide (aa<1))=true then none else (Zm0 N ab aa)
theorem Z16 {N aa:Nat} {a0:Option Addr} {col:Zd} {w0:World} {ac:R8} {ad:Int} {r:(List R8)} (hm:Zmy N ac ad=some r) (h0:Sl (Za.pair (Za.pair Za.bool (Za.slice (Za.int .u32))) (Za.slice (Za.int .u32))) col w0 a0 aa ac):
    Calls prog 254 #[.slice a0 ac.length aa,.int .i64 ad] w0 (fun e w'=>∃ (col':Zd) (rv1:Value),e= .returned (rv1)∧Zg col w0 col' w'∧It prog 1 rv1 (fun (y:List R1) (col:Zd) (w:World) (args:List Value)=>∃ (a0:Option Addr) (aa:Nat),args=[.slice a0 y.length aa]∧Sl (Za.pair (Za.pair Za.bool (Za.slice (Za.int .u32))) (Za.slice (Za.int .u32))) col w a0 aa y) r q0 col' w'):=by
 refine Xc 4 (m:=9) func254 rfl rfl rfl rfl rfl ?_;rw [Zmy.eq_1] at hm;have ab:=St.start col w0;refine go ?_;refine Zdt (col:=(Zh col)) (v:=(.slice a0 ac.length aa)) 1 rfl rfl ?_;intro af ap an aq ae;replace ae:Zm 56 1 an ap af #[.slice a0 ac.length aa]:=ae;refine Zdt (col:=an) (v:=(.int .i64 ad)) 2 rfl rfl ?_;intro ag ar au ao ah;replace ah:Zm 3 2 au ar ag #[.int .i64 ad]:=ah;refine lv (v:=_) rfl rfl (U0 rfl)<|Zk<|Z0 ?_;replace h0:=h0.keep (Zf.start col w0);replace ab:=(ab.grow aq).grow ao;replace ae:=ae.gr ao;refine Wp.cutK [2,3,1000000] (fun f aj=>∃ ai,Zm0 N ac ad=some r∧St w0 (Zh col) ai aj∧Zm 56 1 ai aj af #[.slice a0 ac.length aa]∧Zm 3 2 ai aj ag #[.int .i64 ad]) ?_ ?_
 ·intro f aj hJ;obtain ⟨ai,hm,ab,ae,ah⟩:=hJ;rw [Zm0.eq_1] at hm;refine go ?_;refine lV (.func (.func 285) #[] #[.pointer (some ⟨af,0,none⟩),.pointer (some ⟨ag,0,none⟩)]) (Zp5 rfl rfl)<|lA (.func (.func 285) #[] #[.pointer (some ⟨af,0,none⟩),.pointer (some ⟨ag,0,none⟩)])<|go ?_;have ak:=ab.finBox (G:=(fun n=>bif Nat.beq n 1 then 450 else bif Nat.beq n 2 then 450 else 0)) ae (by decide) (by decide) (show (fun n=>bif Nat.beq n 1 then 450 else bif Nat.beq n 2 then 450 else 0) 1=450 from rfl);have h0f:=ab.finSl (g:=(fun n=>bif Nat.beq n 1 then 450 else bif Nat.beq n 2 then 450 else 0)) rfl (h0.ks ab);have al:=ab.finBox (G:=(fun n=>bif Nat.beq n 1 then 450 else bif Nat.beq n 2 then 450 else 0)) ah (by decide) (by decide) (show (fun n=>bif Nat.beq n 1 then 450 else bif Nat.beq n 2 then 450 else 0) 2=450 from rfl);refine ⟨rfl,Vq w0.heap.size col ai (fun n=>bif Nat.beq n 1 then 450 else bif Nat.beq n 2 then 450 else 0),_,rfl,ab.fin (fun n=>bif Nat.beq n 1 then 450 else bif Nat.beq n 2 then 450 else 0),285,[.pointer (some ⟨af,0,none⟩),.pointer (some ⟨ag,0,none⟩)],rfl,call285,?_⟩;intro col9 w9 am hk9;replace ak:=ak.itk am hk9 rfl;replace h0f:=h0f.itk am hk9 rfl;replace al:=al.itk am hk9 rfl;exact Z17 N col9 w9 af a0 aa ac h0f ak ag ad al r hm
 refine go ?_;refine lW ah.at1<|go ?_;refine Zo hm (fun hb hm=>?_) fun hb hm=>?_
 ·cases hm
 refine X9 ?_;exact ⟨rfl,_,hm,ab,ae,ah⟩
def Zec (N:Nat):Option R1:=
  (Zjm N 1 1).bind fun aa=>some ((aa.1.1.1,aa.1.1.2),aa.1.2)
theorem Zoh {N:Nat} {col:Zd} {w0:World} {r:R1} (c1 c2:Nat) (hm:Zec N=some r):
    Calls prog 182 #[] w0 (fun e w'=>∃ (col':Zd) (ra1:Option Addr) (rc2:Nat) (ra4:Option Addr) (rc5:Nat),e= .returned ((.agg #[.bool r.1.1,.slice ra1 r.1.2.length rc2,.slice ra4 r.2.length rc5]))∧Zg col w0 col' w'∧Zc (Za.int .u32) 79 c1 col' w' ra1 rc2 r.1.2∧Zc (Za.int .u32) 79 c2 col' w' ra4 rc5 r.2):=by
 refine Ym (m:=8) func182 rfl rfl rfl ?_;rw [Zec.eq_1] at hm;have ab:=St.start col w0;refine go ?_;refine Xl (col:=(Zh col)) #[.bool false,.slice none (([]:List Int).length) 0,.slice none (([]:List Int).length) 0] 1 zeroValue47 ?_;intro ay az an ao ae;refine go ?_;obtain ⟨aa,ap,hm⟩:=bZ hm;refine Zi (Z0c (col:=an) 2 3 ap) ?_;rintro _ a0 ⟨aq,ai,aj,ak,al,rfl,am,af,ag⟩;refine ⟨_,rfl,?_⟩;refine lM (.tuple #[(.agg #[.bool aa.1.1.1,.slice ai aa.1.1.2.length aj,.slice ak aa.1.2.length al]),.int .i64 aa.2])<|lV (.agg #[.bool aa.1.1.1,.slice ai aa.1.1.2.length aj,.slice ak aa.1.2.length al]) (Xv rfl rfl)<|lV (.int .i64 aa.2) (Xv rfl rfl)<|Xl (col:=aq) #[.bool false,.slice none (([]:List Int).length) 0,.slice none (([]:List Int).length) 0] 4 zeroValue47 ?_;intro a1 a2 a3 ac ar;refine Z4 ar ?_;intro a4 ad au av;refine go ?_;refine lV _ (Z7 isAgg47 sizeOf47 av) ?_;replace ae:=((ae.gr am).gr ac).kp ad;refine Z4 ae ?_;intro a5 ah aw ax;refine go ?_;cases hm;replace ab:=((((ab.grow ao).grow am).grow ac).kp ad au).kp ah aw;replace af:=((af.gr ac).kp ad).kp ah;replace ag:=((ag.gr ac).kp ad).kp ah;exact ⟨rfl,_,ra ax.atN,_,_,_,_,_,rfl,ab.fin (cm [(2,c1),(3,c2)]),ab.fo af,ab.fo ag⟩
def Zpg (aa:Bool):Option Bool:=
  some aa
def Zee (N:Nat):List R8→Bool→Option Bool
  | [],ac=>some true
  | ad :: ae,ac=>(Zdz N ad).bind fun aa=>(Zec N).bind fun ab=>(Zgv N ((aa.1.1,aa.1.2),aa.2) ((ab.1.1,ab.1.2),ab.2)).bind fun af=>if (!decide (af=0))=true then (Zpg false) else ((Zee N ae) ac)
termination_by structural x=>x
def Zjr (N:Nat) (aa:R8) (ab:Int):Option Bool:=
  (Zmy N aa ab).bind fun ac=>Zee N ac false
theorem Z0v {N ah:Nat} {a0:Option Addr} {col:Zd} {w0:World} {am:R8} {ao:Int} {r:Bool} (hm:Zjr N am ao=some r) (h0:Sl (Za.pair (Za.pair Za.bool (Za.slice (Za.int .u32))) (Za.slice (Za.int .u32))) col w0 a0 ah am):
    Calls prog 180 #[.slice a0 am.length ah,.int .i64 ao] w0 (fun e w'=>e= .returned ((.bool r))∧Below w0.heap.size w0 w'):=by
 refine Zr2 (m:=15) (args:=[.slice a0 am.length ah,.int .i64 ao]) func180 rfl rfl rfl ?_;rw [Zjr.eq_1] at hm;have aa:=St.start col w0;replace h0:=h0.keep (Zf.start col w0);have hmk:Yv 499 (Zh col) w0 []:=.nil;refine go ?_;refine Zds (col:=(Zh col)) (v:=(.bool false)) 1 rfl zeroValue4 ?_;intro ai a4 a5 ax ab;replace ab:Zm 4 1 a5 a4 ai #[.bool false]:=ab;refine go ?_;obtain ⟨a6,a7,hm⟩:=bZ hm;replace aa:=aa.grow ax;refine Zi (Z16 a7 (h0.ks aa)) ?_;rintro _ bq ⟨a8,br,rfl,ap,a9⟩;refine ⟨_,rfl,go ?_⟩;replace hmk:=(hmk.gr ax).gr ap;replace ab:=ab.gr ap;replace aa:=aa.grow ap;refine Zn3 (psl:=[9]) (arr:=(fun (y:List R1) (col:Zd) (w:World) (args:List Value)=>∃ (a0:Option Addr) (ah:Nat),args=[.slice a0 y.length ah]∧Sl (Za.pair (Za.pair Za.bool (Za.slice (Za.int .u32))) (Za.slice (Za.int .u32))) col w a0 ah y)) (ys:=a6) (col:=a8) 498 rfl a9 rfl hmk rfl rfl (by rintro _ _ _ _ ⟨_,_,rfl,_⟩;rfl) (fun ys_ ad ae=>∃ (ac:Bool),Zee N ys_ ac=some r∧St w0 (Zh col) ad ae∧Zm 4 1 ad ae ai #[.bool ac]) (fun c_ ad ae=>(c_= .ret∧∃ (ac:Bool),Zpg ac=some r∧St w0 (Zh col) ad ae∧Zm 4 1 ad ae ai #[.bool ac])) ?_ ?_ ⟨false,hm,aa,ab⟩ ?_ ?_ ?_
 ·intro ys_ ad ae col2_ w2_ hJ hk;obtain ⟨ac,hm,aa,ab⟩:=hJ;exact ⟨ac,hm,aa.kpp hk rfl rfl,ab.kpp hk rfl⟩
 ·intro c_ ad ae col2_ w2_ hX hk;obtain ⟨rfl,hX⟩:=hX;obtain ⟨ac,hm,aa,ab⟩:=hX;exact ⟨rfl,⟨ac,hm,aa.kpp hk rfl rfl,ab.kpp hk rfl⟩⟩
 ·intro bs bt bu bv bw ad ae args hJ hrec hmk harr;obtain ⟨ac,hm,aa,ab⟩:=hJ;rw [Zee.eq_2] at hm;have hki:=Z1.refl (pC 1) ad ae;obtain ⟨bx,bz,rfl,aq⟩:=harr;refine go ?_;refine ⟨_,hrec,?_⟩;intro b0 b1 aj ay hrec2;have hrec:=hrec2;refine go ?_;obtain ⟨b2,ba,hm⟩:=bZ hm;replace aq:=aq.kp aj;refine Zi (Zq7 2 3 ba aq) ?_;rintro _ b3 ⟨bb,b4,b5,b6,b7,rfl,ak,ar,au⟩;refine ⟨_,rfl,?_⟩;obtain ⟨b8,bc,hm⟩:=bZ hm;refine lc rfl rfl (Zf3 call182) (Zoh (col:=bb) 4 5 bc:) ?_;rintro _ bd ⟨av,b9,ca,cb,cc,rfl,af,be,bf⟩;refine ⟨_,rfl,?_⟩;obtain ⟨cd,bg,hm⟩:=bZ hm;replace ar:=ar.gr af;replace au:=au.gr af;refine Zi (Zq5 bg ((((ar.toSlF (Zn.int .u32)).froz 3).froz 4).froz 5) ((((au.froz 2 (by decide)).toSlF (Zn.int .u32)).froz 4).froz 5) ((((be.froz 2 (by decide)).froz 3 (by decide)).toSlF (Zn.int .u32)).froz 5) ((((bf.froz 2 (by decide)).froz 3 (by decide)).froz 4 (by decide)).toSlF (Zn.int .u32))) ?_;rintro _ bh ⟨rfl,ag⟩;refine ⟨_,rfl,?_⟩;replace ag:Zg av bd av bh:=.of_below ag;refine go ?_;replace ab:=(((ab.kp aj).gr ak).gr af).gr ag;replace hmk:=(((hmk.kp aj).gr ak).gr af).gr ag;replace hki:=(((hki.kp aj ay rfl).gr ak).gr af).gr ag;replace aa:=(((aa.kp aj ay).grow ak).grow af).grow ag;replace hrec:=((hrec.gr ak).gr af).gr ag;refine Zo hm (fun hb hm=>go ?_) fun hb hm=>?_
  ·refine Q5 (v:=(.bool false)) ab sizeOf4 rfl rfl (by intro u hu;simp only [Value.cells,List.mem_cons,List.not_mem_nil,or_false] at hu;subst hu;rfl) rfl rfl ?_;intro bi an az aw;replace aw:Zm 4 1 av bi ai #[.bool false]:=aw;refine go ?_;replace hrec:=hrec.kp an;replace hmk:=hmk.kp an;replace hki:=hki.kp an az rfl;replace aa:=aa.kp an az;exact ⟨_,hki,⟨rfl,⟨false,hm,aa,aw⟩⟩,hrec,hmk⟩
  refine X9 ?_;exact ⟨_,hki,⟨ac,hm,aa,ab⟩,hrec,hmk⟩
 ·intro bj ad ae hJ hmk;obtain ⟨ac,hm,aa,ab⟩:=hJ;rw [Zee.eq_1] at hm;refine go ?_;refine Q5 (v:=(.bool true)) ab sizeOf4 rfl rfl (by intro u hu;simp only [Value.cells,List.mem_cons,List.not_mem_nil,or_false] at hu;subst hu;rfl) rfl rfl ?_;intro bk a1 bm al;replace al:Zm 4 1 ad bk ai #[.bool true]:=al;refine go ?_;cases hm;replace hmk:=hmk.kp a1;refine ⟨_,(bj :: []),rfl,hmk,?_⟩;intro ce a2 bn;replace aa:=(aa.kp a1 bm).kp a2 bn;replace al:=al.kp a2;exact ⟨_,Zxq rfl rfl isAgg4 rfl al.at1,rfl,aa.below⟩
 intro c_ bo ad ae hX hmk;obtain ⟨rfl,hX⟩:=hX;obtain ⟨ac,hm,aa,ab⟩:=hX;rw [Zpg.eq_1] at hm;refine We ?_;cases hm;refine ⟨_,(bo :: []),rfl,hmk,?_⟩;intro cf a3 bp;replace ab:=ab.kp a3;replace aa:=aa.kp a3 bp;exact ⟨_,Zxq rfl rfl isAgg4 rfl ab.at1,rfl,aa.below⟩
def Zhb (aa:Bool):Option Bool:=
  some aa
def Zha (N:Nat) (aa:R1):Option Bool:=
  (Zdy N ((aa.1.1,aa.1.2),aa.2)).bind fun ac=>if (decide (ac<0))=true then (Zhb true) else ((Zec N).bind fun ab=>(Zgv N ((aa.1.1,aa.1.2),aa.2) ((ab.1.1,ab.1.2),ab.2)).bind fun ad=>Zhb (decide (0<ad)))
theorem Z0s {N al am:Nat} {an ao:Option Addr} {col:Zd} {w0:World} {ac:R1} {r:Bool} (hm:Zha N ac=some r) (ah:Sl (Za.int .u32) col w0 an al ac.1.2) (ai:Sl (Za.int .u32) col w0 ao am ac.2):
    Calls prog 179 #[(.agg #[.bool ac.1.1,.slice an ac.1.2.length al,.slice ao ac.2.length am])] w0 (fun e w'=>e= .returned ((.bool r))∧Below w0.heap.size w0 w'):=by
 refine Xc 2 (m:=12) func179 rfl rfl rfl rfl rfl ?_;rw [Zha.eq_1] at hm;have aa:=St.start col w0;refine go ?_;refine Xg (col:=(Zh col)) 1 rfl ?_;intro a6 a7 ab ay aj;refine Q4 rfl<|Zk<|Z0 ?_;replace ah:=ah.keep (Zf.start col w0);replace ai:=ai.keep (Zf.start col w0);replace aa:=aa.grow ay;refine Wp.cutK [1000000] (fun f av=>∃ aw ap,Zhb ap=some r∧St w0 (Zh col) aw av∧[2].map f=[.bool ap]) ?_ ?_
 ·intro f av hJ;obtain ⟨aw,ap,hm,aa,hs⟩:=hJ;rw [Zhb.eq_1] at hm;refine .lL [2] hs<|We ?_;cases hm;exact ⟨rfl,rfl,aa.below⟩
 refine Wh (col:=ab) [(0,0),(1,3),(2,1),(3,1),(4,0),(5,3),(6,3),(7,1),(8,1),(9,1)] (by kernel_rfl) (by kernel_rfl)<|xv rfl rfl (fun _ hC=>Z7 isAgg47 sizeOf47 (aj.gr (hC.bl ab))) ?_;refine xe rfl rfl ?_;intro az hC0;have hC:=hC0.bl ab;obtain ⟨ae,a0,hm⟩:=bZ hm;replace aa:=aa.grow hC;refine Zi (Zq6 a0 (ah.ks aa) (ai.ks aa)) ?_;rintro _ a1 ⟨rfl,ag⟩;refine ⟨_,rfl,?_⟩;replace ag:Zg ab az ab a1:=.of_below ag;refine Zk<|Xp ab hC0 ag<|xu rfl rfl (fun _=>Znn _ _ rfl rfl) ?_;refine xu rfl rfl (fun _=>Zw1 rfl) ?_;replace aj:=(aj.gr hC).gr ag;replace aa:=aa.grow ag;refine Xt hm (fun ad hm=>?_) fun ad hm=>?_
 ·refine Zdl (b:=decide (ae<0)) 6 rfl rfl rfl rfl rfl (by rw [ad];rfl)<|Zdl (b:=decide (ae<0)) 6 rfl rfl rfl rfl rfl (by rw [ad];rfl)<|Zdl (b:=decide (ae<0)) 6 rfl rfl rfl rfl rfl (by rw [ad];rfl)<|Zdl (b:=decide (ae<0)) 6 rfl rfl rfl rfl rfl (by rw [ad];rfl)<|xu (v:=(.bool true)) rfl rfl (fun _=>Xb (congrArg Value.bool ad) rfl) ?_;refine xu rfl rfl (fun _=>Znk rfl) ?_;refine Y9 ?_;intro a8 hC;replace hC:=hC.bl ab;replace aa:=aa.grow hC;exact ⟨rfl,_,_,hm,aa,rfl⟩
 refine Zzt (v:=(.agg #[.bool ac.1.1,.slice an ac.1.2.length al,.slice ao ac.2.length am])) (b:=decide (ae<0)) 6 rfl rfl rfl rfl rfl (by rw [ad];rfl) (fun _ hC=>Yj isAgg47 sizeOf47 rfl rfl (aj.atN.gr (hC.bl ab))) ?_;refine xe rfl rfl ?_;intro a9 hC0;have hC:=hC0.bl ab;refine go ?_;obtain ⟨ba,a2,hm⟩:=bZ hm;refine lc rfl rfl (Zf3 call182) (Zoh (col:=ab) 6 7 a2:) ?_;rintro _ bb ⟨af,bc,bd,be,bf,rfl,ax,aq,ar⟩;refine ⟨_,rfl,?_⟩;refine Zk<|Xp af hC0 ax<|xe rfl rfl ?_;intro a3 hC0;replace aa:=(aa.grow hC).grow ax;have hC:=hC0.bl af;refine go ?_;obtain ⟨au,a4,hm⟩:=bZ hm;replace aq:=aq.gr hC;replace ar:=ar.gr hC;replace aa:=aa.grow hC;refine Zi (Zq5 a4 (((ah.ks aa).froz 6).froz 7) (((ai.ks aa).froz 6).froz 7) ((aq.toSlF (Zn.int .u32)).froz 7) ((ar.froz 6 (by decide)).toSlF (Zn.int .u32))) ?_;rintro _ a5 ⟨rfl,ak⟩;refine ⟨_,rfl,?_⟩;replace ak:Zg af a3 af a5:=.of_below ak;refine Zk<|Xp af hC0 ak<|Zzs (v:=(.bool (decide (0<au)))) (b:=decide (ae<0)) 6 rfl rfl rfl rfl rfl (by rw [ad];rfl) (fun _=>Znm au 0 rfl rfl) ?_;refine xu (v:=(.bool (decide (0<au)))) rfl rfl (fun _=>Xm (congrArg Value.bool ad) rfl) ?_;refine xu rfl rfl (fun _=>Znk rfl) ?_;refine Y9 ?_;intro bg hC;replace hC:=hC.bl af;replace aa:=(aa.grow ak).grow hC;exact ⟨rfl,_,_,hm,aa,rfl⟩
def Zfy (N:Nat):List R1→Nat→Option Int
  | [],aa=>some (-1)
  | ab :: ac,aa=>(Zha N ((ab.1.1,ab.1.2),ab.2)).bind fun ad=>if ad=true then (some (aa:Int)) else ((Zfy N ac) (aa+1))
termination_by structural x=>x
def Zm2 (N:Nat) (aa:R8):Option Int:=
  Zfy N aa 0
theorem Z2b {N aj:Nat} {a0:Option Addr} {col:Zd} {w0:World} {ab:R8} {r:Int} (hm:Zm2 N ab=some r) (h0:Sl (Za.pair (Za.pair Za.bool (Za.slice (Za.int .u32))) (Za.slice (Za.int .u32))) col w0 a0 aj ab):
    Calls prog 253 #[.slice a0 ab.length aj,(.func (.func 179) #[] #[])] w0 (fun e w'=>e= .returned ((.int .i64 r))∧Below w0.heap.size w0 w'):=by
 refine Xc 4 (m:=19) func253 rfl rfl rfl rfl rfl ?_;rw [Zm2.eq_1] at hm;have aa:=St.start col w0;refine go ?_;refine Zw [0,1,7,1000000] (fun n f af=>∃ ae ac ad,n=ad.length∧ab.drop ac=ad∧Zfy N ad ac=some r∧St w0 (Zh col) ae af∧[8].map f=[.int .i64 ac]) ab.length ⟨_,0,_,rfl,rfl,hm,aa,rfl⟩ ?_;clear hm;intro n f af hI;obtain ⟨ae,ac,ad,hn,hl,hm,aa,hs⟩:=hI;subst hn;refine .lL [8] hs ?_;replace h0:=h0.keep (Zf.start col w0)
 cases ad with
 | nil=>
  have hk:¬ ((ac:Int)<(ab.length:Int)):=by have:=List.drop_eq_nil_iff.1 hl;omega
  have hkb:=decide_eq_false hk;rw [Zfy.eq_1] at hm;refine go ?_;refine Yf (congrArg Value.bool hkb)<|go ?_;cases hm;exact ⟨rfl,rfl,aa.below⟩
 | cons ag ak=>
  obtain ⟨ah,al,am⟩:=Yw hl;have hk:(ac:Int)<(ab.length:Int):=by omega
  have hkb:=decide_eq_true hk;rw [Zfy.eq_2] at hm;refine go ?_;refine Yg (congrArg Value.bool hkb)<|go ?_;refine lM (.func (.func 179) #[] #[])<|go ?_;refine lI ah ((h0.ks aa).addr ah) ?_;obtain ⟨_,an,ao⟩:=(h0.ks aa).atN ah;obtain ⟨_,_,rfl,ap,aq⟩:=Yi an;obtain ⟨_,_,rfl,ar,au⟩:=Yi ap;obtain ⟨rfl,_⟩:=ar;obtain ⟨⟨av,aw,rfl,ax⟩,_⟩:=au;obtain ⟨⟨ay,az,rfl,a1⟩,_⟩:=aq;refine lV (.agg #[.bool ag.1.1,.slice av ag.1.2.length aw,.slice ay ag.2.length az]) (Yj isAgg47 sizeOf47 rfl rfl ao) ?_;obtain ⟨a4,a2,hm⟩:=bZ hm;refine lc rfl rfl (Z5n call179 rfl rfl) (Z0s a2 ax a1:) ?_;rintro _ a3 ⟨rfl,ai⟩;refine ⟨_,rfl,?_⟩;replace ai:Zg ae af ae a3:=.of_below ai;refine Zk ?_;replace aa:=aa.grow ai;refine Zo hm (fun hb hm=>go ?_) fun hb hm=>go ?_
  ·cases hm;exact ⟨rfl,rfl,aa.below⟩
  exact ⟨ak.length,by simp,rfl,⟨_,_,_,rfl,al,hm,aa,(Y1 (congrArg (Value.int .i64) (Yy (Nat.lt_of_lt_of_le am (h0.ks aa).1.1))) rfl)⟩⟩
def Zm1 (N:Nat) (aa:R8):Option Bool:=
  (Zm2 N aa).bind fun ab=>some (decide (0≤ab))
theorem Z19 {N ad:Nat} {a0:Option Addr} {col:Zd} {w0:World} {ab:R8} {r:Bool} (hm:Zm1 N ab=some r) (h0:Sl (Za.pair (Za.pair Za.bool (Za.slice (Za.int .u32))) (Za.slice (Za.int .u32))) col w0 a0 ad ab):
    Calls prog 177 #[.slice a0 ab.length ad,(.func (.func 179) #[] #[])] w0 (fun e w'=>e= .returned ((.bool r))∧Below w0.heap.size w0 w'):=by
 refine Xc 4 (m:=9) func177 rfl rfl rfl rfl rfl ?_;rw [Zm1.eq_1] at hm;have aa:=St.start col w0;refine go ?_;refine lM (.func (.func 179) #[] #[]) ?_;obtain ⟨ag,ae,hm⟩:=bZ hm;replace h0:=h0.keep (Zf.start col w0);refine Zi (Z2b ae (h0.ks aa)) ?_;rintro _ af ⟨rfl,ac⟩;refine ⟨_,rfl,?_⟩;replace ac:Zg (Zh col) w0 (Zh col) af:=.of_below ac;refine go ?_;cases hm;replace aa:=aa.grow ac;exact ⟨rfl,rfl,aa.below⟩
def Zed (ab:R0):List Int→Int→Option Int
  | [],aa=>some aa
  | ad :: ae,aa=>(Zj ab.2.2.1 ad).bind fun ac=>(Zed ab ae) (if 1099511627776<(i64.wrap (aa * (ac.length:Int))) then 1099511627776 else (i64.wrap (aa * (ac.length:Int))))
termination_by structural x=>x
def Zhc (aa:R0) (ab:Int):Option Int:=
  (Zj aa.2.2.2.1 ab).bind fun ac=>Zed aa ac 1
theorem Z0t {am an ao ap:Nat} {aq ar au av:Option Addr} {col:Zd} {w0:World} {aa:R0} {a0 r:Int} (hm:Zhc aa a0=some r) (bc:Sl Za.str col w0 aq am aa.2.1) (ai:Sl (Za.slice Za.str) col w0 ar an aa.2.2.1) (aj:Sl (Za.slice (Za.int .i64)) col w0 au ao aa.2.2.2.1) (bd:Sl (Za.slice (Za.pair (Za.pair Za.bool (Za.slice (Za.int .u32))) (Za.slice (Za.int .u32)))) col w0 av ap aa.2.2.2.2):
    Calls prog 176 #[(.agg #[.string aa.1,.slice aq aa.2.1.length am,.slice ar aa.2.2.1.length an,.slice au aa.2.2.2.1.length ao,.slice av aa.2.2.2.2.length ap]),.int .i64 a0] w0 (fun e w'=>e= .returned ((.int .i64 r))∧Below w0.heap.size w0 w'):=by
 refine Xc 4 (m:=29) func176 rfl rfl rfl rfl rfl ?_;rw [Zhc.eq_1] at hm;have ab:=St.start col w0;refine go ?_;refine Xg (col:=(Zh col)) 1 rfl ?_;intro a1 be bf a2 ae;refine go ?_;refine Xa ae<|Xo rfl ?_;obtain ⟨af,aw,hm⟩:=bZ hm;replace aj:=aj.keep (Zf.start col w0);replace ab:=ab.grow a2;refine lI aw ((aj.ks ab).addr aw) ?_;obtain ⟨_,a3,a4⟩:=(aj.ks ab).atN aw;obtain ⟨⟨a5,a6,rfl,ac⟩,_⟩:=a3;refine lW a4.one<|go ?_;refine Zw [12,13,2,1000000] (fun n f ak=>∃ al ag ad ah,n=ah.length∧af.drop ag=ah∧Zed aa ah ad=some r∧St w0 (Zh col) al ak∧Sl (Za.int .i64) al ak a5 a6 af∧Zm 27 1 al ak a1 #[.string aa.1,.slice aq aa.2.1.length am,.slice ar aa.2.2.1.length an,.slice au aa.2.2.2.1.length ao,.slice av aa.2.2.2.2.length ap]∧[14,5].map f=[.int .i64 ag,.int .i64 ad]) af.length ⟨_,0,1,_,rfl,rfl,hm,ab,ac,ae,rfl⟩ ?_;clear hm;intro n f ak hI;obtain ⟨al,ag,ad,ah,hn,hl,hm,ab,ac,ae,hs⟩:=hI;subst hn;refine .lL [14,5] hs ?_;replace ai:=ai.keep (Zf.start col w0)
 cases ah with
 | nil=>
  have hk:¬ ((ag:Int)<(af.length:Int)):=by have:=List.drop_eq_nil_iff.1 hl;omega
  have hkb:=decide_eq_false hk;rw [Zed.eq_1] at hm;refine go ?_;refine Yf (congrArg Value.bool hkb)<|go ?_;cases hm;exact ⟨rfl,rfl,ab.below⟩
 | cons bg a7=>
  obtain ⟨ax,a8,a9⟩:=Yw hl;have hk:(ag:Int)<(af.length:Int):=by omega
  have hkb:=decide_eq_true hk;rw [Zed.eq_2] at hm;refine go ?_;refine Yg (congrArg Value.bool hkb)<|go ?_;refine lI ax (ac.addr ax)<|lW (ac.atInt ax) ?_;refine go ?_;refine Xa ae<|Xo rfl ?_;obtain ⟨ay,az,hm⟩:=bZ hm;refine lI az ((ai.ks ab).addr az) ?_;obtain ⟨_,ba,bb⟩:=(ai.ks ab).atN az;obtain ⟨⟨bh,bi,rfl,bj⟩,_⟩:=ba;refine lW bb.one<|go ?_;refine lV (.int .i64 (if 1099511627776<(i64.wrap (ad * (ay.length:Int))) then 1099511627776 else (i64.wrap (ad * (ay.length:Int))))) (Zp6 (i64.wrap (ad * (ay.length:Int))) 1099511627776 rfl rfl)<|go ?_;exact ⟨a7.length,by simp,rfl,⟨_,_,_,_,rfl,a8,hm,ab,ac,ae,(Y1 (congrArg (Value.int .i64) (Yy (Nat.lt_of_lt_of_le a9 ac.1.1))) rfl)⟩⟩
def Zci (N:Nat) (ab:R0):List R8→Nat→Option Int
  | [],aa=>some 0
  | ac :: ad,aa=>(Zj ab.2.2.1 (aa:Int)).bind fun ae=>(Zg8 N ac).bind fun af=>(Zjr N af (ae.length:Int)).bind fun ag=>if (!ag)=true then (some 46) else ((Zci N ab ad) (aa+1))
termination_by structural x=>x
def Zba (N:Nat) (aa:R0):List R8→Option Int
  | []=>Zci N aa aa.2.2.2.2 0
  | ab :: ac=>(Zg8 N ab).bind fun ad=>(Zm1 N ad).bind fun ae=>if ae=true then (some 45) else (Zba N aa ac)
termination_by structural x=>x
def Za9 (N:Nat) (aa:R0):List R8→Nat→Option Int
  | [],ab=>Zba N aa aa.2.2.2.2
  | ae :: af,ab=>(Zhc (aa.1,aa.2.1,aa.2.2.1,aa.2.2.2.1,aa.2.2.2.2) (ab:Int)).bind fun ac=>(Zj aa.2.2.1 (ab:Int)).bind fun ad=>if (decide (65536<(i64.wrap (ac * (ad.length:Int)))))=true then (some 4) else (if (!decide ((i64.wrap (ac * (ad.length:Int)))=(ae.length:Int)))=true then (some 60) else ((Za9 N aa af) (ab+1)))
termination_by structural x=>x
def Za8 (N:Nat) (aa:R0) (ad:Bool):Option Int:=
  if ad=true then (some 60) else (if (decide (1024<(aa.2.1.length:Int)))=true then (some 4) else ((Zeb (aa.1,aa.2.1,aa.2.2.1,aa.2.2.2.1,aa.2.2.2.2)).bind fun ab=>if (!decide (ab=0))=true then (some ab) else ((Qi N aa.2.2.2.1).bind fun ac=>if (!decide (ac=0))=true then (some ac) else (Za9 N aa aa.2.2.2.2 0))))
def Tw (N:Nat) (aa:R0):Option Int:=
  if (!decide ((aa.2.2.1.length:Int)=(aa.2.1.length:Int)))=true then (Za8 N aa true) else (if (!decide ((aa.2.2.2.1.length:Int)=(aa.2.1.length:Int)))=true then (Za8 N aa true) else (Za8 N aa (!decide ((aa.2.2.2.2.length:Int)=(aa.2.1.length:Int)))))
theorem Zrb {N aj ak al am:Nat} {an ao ap aq:Option Addr} {col:Zd} {w0:World} {ab:R0} {r:Int} (hm:Tw N ab=some r) (a2:Sl Za.str col w0 an aj ab.2.1) (ag:Sl (Za.slice Za.str) col w0 ao ak ab.2.2.1) (aw:Sl (Za.slice (Za.int .i64)) col w0 ap al ab.2.2.2.1) (ad:Sl (Za.slice (Za.pair (Za.pair Za.bool (Za.slice (Za.int .u32))) (Za.slice (Za.int .u32)))) col w0 aq am ab.2.2.2.2):
    Calls prog 67 #[(.agg #[.string ab.1,.slice an ab.2.1.length aj,.slice ao ab.2.2.1.length ak,.slice ap ab.2.2.2.1.length al,.slice aq ab.2.2.2.2.length am])] w0 (fun e w'=>e= .returned ((.int .i64 r))∧Below w0.heap.size w0 w'):=by
 refine Xc 2 (m:=103) func67 rfl rfl rfl rfl rfl ?_;rw [Tw.eq_1] at hm;have aa:=St.start col w0;refine go ?_;refine Xg (col:=(Zh col)) 1 rfl ?_;intro a3 cp cq bo ac;refine go ?_;refine Xa ac<|lV _ (U9 underlying22 rfl)<|Y8 rfl<|Zk<|Z0<|Z0 ?_;replace a2:=a2.keep (Zf.start col w0);replace ag:=ag.keep (Zf.start col w0);replace aw:=aw.keep (Zf.start col w0);replace ad:=ad.keep (Zf.start col w0);replace aa:=aa.grow bo;refine Wp.cutK [1,3,1000000] (fun f a4=>∃ ah a9,Za8 N ab a9=some r∧St w0 (Zh col) ah a4∧Zm 27 1 ah a4 a3 #[.string ab.1,.slice an ab.2.1.length aj,.slice ao ab.2.2.1.length ak,.slice ap ab.2.2.2.1.length al,.slice aq ab.2.2.2.2.length am]∧[34].map f=[.bool a9]) ?_ ?_
 ·intro f a4 hJ;obtain ⟨ah,a9,hm,aa,ac,hs⟩:=hJ;rw [Za8.eq_1] at hm;refine .lL [34] hs ?_;refine Zo hm (fun hb hm=>go ?_) fun hb hm=>go ?_
  ·cases hm;exact ⟨rfl,rfl,aa.below⟩
  refine Zo hm (fun hb hm=>go ?_) fun hb hm=>go ?_
  ·cases hm;exact ⟨rfl,rfl,aa.below⟩
  refine lV _ (Z7 isAgg27 sizeOf27 ac) ?_;obtain ⟨cr,bp,hm⟩:=bZ hm;refine Zi (Z0r bp (a2.ks aa) (ag.ks aa) (aw.ks aa) (ad.ks aa)) ?_;rintro _ bk ⟨rfl,a5⟩;refine ⟨_,rfl,?_⟩;replace a5:Zg ah a4 ah bk:=.of_below a5;refine go ?_;replace ac:=ac.gr a5;replace aa:=aa.grow a5;refine Zo hm (fun hb hm=>go ?_) fun hb hm=>go ?_
  ·cases hm;exact ⟨rfl,rfl,aa.below⟩
  refine Xa ac ?_;obtain ⟨cs,bq,hm⟩:=bZ hm;refine Zi (Zz3 bq (aw.ks aa)) ?_;rintro _ br ⟨rfl,a6⟩;refine ⟨_,rfl,?_⟩;replace a6:Zg ah bk ah br:=.of_below a6;refine go ?_;replace ac:=ac.gr a6;replace aa:=aa.grow a6;refine Zo hm (fun hb hm=>go ?_) fun hb hm=>go ?_
  ·cases hm;exact ⟨rfl,rfl,aa.below⟩
  refine Xa ac ?_;refine go ?_;refine Zw [1,49,50,1000000] (fun n f ba=>∃ ae ar ax,n=ax.length∧ab.2.2.2.2.drop ar=ax∧Za9 N ab ax ar=some r∧St w0 (Zh col) ae ba∧Zm 27 1 ae ba a3 #[.string ab.1,.slice an ab.2.1.length aj,.slice ao ab.2.2.1.length ak,.slice ap ab.2.2.2.1.length al,.slice aq ab.2.2.2.2.length am]∧[51].map f=[.int .i64 ar]) ab.2.2.2.2.length ⟨_,0,_,rfl,rfl,hm,aa,ac,rfl⟩ ?_;clear hm;intro n f ba hI;obtain ⟨ae,ar,ax,hn,hl,hm,aa,ac,hs⟩:=hI;subst hn;refine .lL [51] hs ?_
  cases ax with
  | nil=>
   have hk:¬ ((ar:Int)<(ab.2.2.2.2.length:Int)):=by have:=List.drop_eq_nil_iff.1 hl;omega
   have hkb:=decide_eq_false hk;rw [Za9.eq_1] at hm;refine go ?_;refine Yf (congrArg Value.bool hkb)<|go ?_;refine Xa ac ?_;refine go ?_;refine Zw [1,74,75,1000000] (fun n f bb=>∃ bc ay az,n=az.length∧ab.2.2.2.2.drop ay=az∧Zba N ab az=some r∧St w0 (Zh col) bc bb∧Zm 27 1 bc bb a3 #[.string ab.1,.slice an ab.2.1.length aj,.slice ao ab.2.2.1.length ak,.slice ap ab.2.2.2.1.length al,.slice aq ab.2.2.2.2.length am]∧[76].map f=[.int .i64 ay]) ab.2.2.2.2.length ⟨_,0,_,rfl,rfl,hm,aa,ac,rfl⟩ ?_;clear hm;intro n f bb hI;obtain ⟨bc,ay,az,hn,hl,hm,aa,ac,hs⟩:=hI;subst hn;refine .lL [76] hs ?_
   cases az with
   | nil=>
    have hk:¬ ((ay:Int)<(ab.2.2.2.2.length:Int)):=by have:=List.drop_eq_nil_iff.1 hl;omega
    have hkb:=decide_eq_false hk;rw [Zba.eq_1] at hm;refine go ?_;refine Yf (congrArg Value.bool hkb)<|go ?_;refine Xa ac ?_;refine go ?_;refine Zw [1,85,86,1000000] (fun n f bd=>∃ ai au a0,n=a0.length∧ab.2.2.2.2.drop au=a0∧Zci N ab a0 au=some r∧St w0 (Zh col) ai bd∧Zm 27 1 ai bd a3 #[.string ab.1,.slice an ab.2.1.length aj,.slice ao ab.2.2.1.length ak,.slice ap ab.2.2.2.1.length al,.slice aq ab.2.2.2.2.length am]∧[87].map f=[.int .i64 au]) ab.2.2.2.2.length ⟨_,0,_,rfl,rfl,hm,aa,ac,rfl⟩ ?_;clear hm;intro n f bd hI;obtain ⟨ai,au,a0,hn,hl,hm,aa,ac,hs⟩:=hI;subst hn;refine .lL [87] hs ?_
    cases a0 with
    | nil=>
     have hk:¬ ((au:Int)<(ab.2.2.2.2.length:Int)):=by have:=List.drop_eq_nil_iff.1 hl;omega
     have hkb:=decide_eq_false hk;rw [Zci.eq_1] at hm;refine go ?_;refine Yf (congrArg Value.bool hkb)<|go ?_;cases hm;exact ⟨rfl,rfl,aa.below⟩
    | cons ct bs=>
     obtain ⟨af,bt,bu⟩:=Yw hl;have hk:(au:Int)<(ab.2.2.2.2.length:Int):=by omega
     have hkb:=decide_eq_true hk;rw [Zci.eq_2] at hm;refine go ?_;refine Yg (congrArg Value.bool hkb)<|go ?_;refine lI af ((ad.ks aa).addr af) ?_;obtain ⟨_,bv,bw⟩:=(ad.ks aa).atN af;obtain ⟨⟨cu,cv,rfl,be⟩,_⟩:=bv;refine lW bw.one<|go ?_;refine Wh (col:=ai) [(0,1),(2,1),(3,0),(4,1),(5,1),(6,0),(7,1),(1,3),(8,3),(9,1)] (by kernel_rfl) (by kernel_rfl)<|xu rfl rfl (fun _=>Vf rfl) ?_;refine xF ⟨_,_,rfl⟩ ?_;refine xW (fun _ hC=>((ac.atN).nth (q:=2) rfl).gr (hC.bl ai)) ?_;refine xu rfl rfl (fun _=>Wj rfl) ?_;obtain ⟨cw,a7,hm⟩:=bZ hm;refine xu rfl rfl (fun _=>Wi underlying23 sizeOf22 rfl rfl (Xn a7).1 (Xn a7).2.1 ((ag.ks aa).addr a7)) ?_;obtain ⟨_,bx,bz⟩:=(ag.ks aa).atN a7;obtain ⟨⟨cx,cy,rfl,cz⟩,_⟩:=bx;refine xW (fun _ hC=>bz.one.gr (hC.bl ai)) ?_;refine xu rfl rfl (fun _=>U9 underlying22 rfl) ?_;refine xe rfl rfl ?_;intro c0 hC0;have hC:=hC0.bl ai;obtain ⟨c1,b0,hm⟩:=bZ hm;replace be:=be.gr hC;refine Zi (Zrd 2 b0 be) ?_;rintro _ c2 ⟨av,c3,c4,rfl,bf,bg⟩;refine ⟨_,rfl,?_⟩;refine Zk<|Xp av hC0 bf<|xe rfl rfl ?_;intro b1 hC0;replace ac:=(ac.gr hC).gr bf;replace aa:=(aa.grow hC).grow bf;have hC:=hC0.bl av;obtain ⟨c5,b2,hm⟩:=bZ hm;replace bg:=bg.gr hC;refine Zi (Z0v b2 (bg.toSlF (Zn.pair (Zn.pair Zn.bool Zn.slice) Zn.slice))) ?_;rintro _ b3 ⟨rfl,a1⟩;refine ⟨_,rfl,?_⟩;replace a1:Zg av b1 av b3:=.of_below a1;refine Zk<|Xp av hC0 a1<|xu rfl rfl (fun _=>Zkz _ rfl) ?_;refine Y9 ?_;replace ac:=(ac.gr hC).gr a1;replace aa:=(aa.grow hC).grow a1;intro c6 hC;replace hC:=hC.bl av;replace ac:=ac.gr hC;replace aa:=aa.grow hC;refine Zo hm (fun hb hm=>go ?_) fun hb hm=>go ?_
     ·cases hm;exact ⟨rfl,rfl,aa.below⟩
     exact ⟨bs.length,by simp,rfl,⟨_,_,_,rfl,bt,hm,aa,ac,(Y1 (congrArg (Value.int .i64) (Yy (Nat.lt_of_lt_of_le bu (ad.ks aa).1.1))) rfl)⟩⟩
   | cons c7 b4=>
    obtain ⟨af,b5,b6⟩:=Yw hl;have hk:(ay:Int)<(ab.2.2.2.2.length:Int):=by omega
    have hkb:=decide_eq_true hk;rw [Zba.eq_2] at hm;refine go ?_;refine Yg (congrArg Value.bool hkb)<|go ?_;refine lI af ((ad.ks aa).addr af) ?_;obtain ⟨_,b7,b8⟩:=(ad.ks aa).atN af;obtain ⟨⟨c8,c9,rfl,b9⟩,_⟩:=b7;refine lW b8.one<|go ?_;obtain ⟨da,ca,hm⟩:=bZ hm;refine Zi (Zrd 3 ca b9) ?_;rintro _ cb ⟨bm,db,dc,rfl,bn,cc⟩;refine ⟨_,rfl,?_⟩;obtain ⟨dd,cd,hm⟩:=bZ hm;refine Zi (Z19 cd (cc.toSlF (Zn.pair (Zn.pair Zn.bool Zn.slice) Zn.slice))) ?_;rintro _ ce ⟨rfl,a8⟩;refine ⟨_,rfl,?_⟩;replace a8:Zg bm cb bm ce:=.of_below a8;refine Zk ?_;replace ac:=(ac.gr bn).gr a8;replace aa:=(aa.grow bn).grow a8;refine Zo hm (fun hb hm=>go ?_) fun hb hm=>go ?_
    ·cases hm;exact ⟨rfl,rfl,aa.below⟩
    exact ⟨b4.length,by simp,rfl,⟨_,_,_,rfl,b5,hm,aa,ac,(Y1 (congrArg (Value.int .i64) (Yy (Nat.lt_of_lt_of_le b6 (ad.ks aa).1.1))) rfl)⟩⟩
  | cons de cf=>
   obtain ⟨af,cg,ch⟩:=Yw hl;have hk:(ar:Int)<(ab.2.2.2.2.length:Int):=by omega
   have hkb:=decide_eq_true hk;rw [Za9.eq_2] at hm;refine go ?_;refine Yg (congrArg Value.bool hkb)<|go ?_;refine lI af ((ad.ks aa).addr af) ?_;obtain ⟨_,ci,cj⟩:=(ad.ks aa).atN af;obtain ⟨⟨df,dg,rfl,dh⟩,_⟩:=ci;refine lW cj.one<|go ?_;refine Wd (col:=ae) (by kernel_rfl) (by kernel_rfl)<|qv rfl (fun _ hC=>Z7 isAgg27 sizeOf27 (ac.gr (hC.bl ae))) ?_;refine go ?_;obtain ⟨ck,cl,hm⟩:=bZ hm;refine qc (v:=(.int .i64 ck)) rfl (fun _ hC=>⟨_,_,Zbx call176 rfl rfl,(Z0t cl ((a2.ks aa).gr (hC.bl ae)) ((ag.ks aa).gr (hC.bl ae)) ((aw.ks aa).gr (hC.bl ae)) ((ad.ks aa).gr (hC.bl ae)):).mono fun _ _ h=>⟨h.1,hC.trans (.of_below h.2)⟩⟩) ?_;refine qF ⟨_,_,rfl⟩ ?_;refine qW (fun _ hC=>((ac.atN).nth (q:=2) rfl).gr (hC.bl ae)) ?_;refine go ?_;obtain ⟨di,bh,hm⟩:=bZ hm;refine qI bh ((ag.ks aa).addr bh) ?_;obtain ⟨_,cn,co⟩:=(ag.ks aa).atN bh;obtain ⟨⟨dj,dk,rfl,dl⟩,_⟩:=cn;refine qW (fun _ hC=>co.one.gr (hC.bl ae)) ?_;refine go ?_;refine X7 ?_;intro dm hC;replace hC:=hC.bl ae;refine go ?_;replace ac:=ac.gr hC;replace aa:=aa.grow hC;refine Zo hm (fun hb hm=>go ?_) fun hb hm=>go ?_
   ·cases hm;exact ⟨rfl,rfl,aa.below⟩
   refine Zo hm (fun hb hm=>go ?_) fun hb hm=>go ?_
   ·cases hm;exact ⟨rfl,rfl,aa.below⟩
   exact ⟨cf.length,by simp,rfl,⟨_,_,_,rfl,cg,hm,aa,ac,(Y1 (congrArg (Value.int .i64) (Yy (Nat.lt_of_lt_of_le ch (ad.ks aa).1.1))) rfl)⟩⟩
 refine Wk<|Xa ac ?_;refine go ?_;refine Xt hm (fun bi hm=>go ?_) fun bi hm=>go ?_
 ·refine lV (.bool true) (Xb (congrArg Value.bool bi) rfl)<|Y2 rfl<|lP 28 rfl rfl<|lP 28 rfl rfl<|lP 28 rfl rfl<|lP 28 rfl rfl<|lP 28 rfl rfl<|lV (.bool true) (Xb rfl rfl)<|Zk ?_;exact ⟨rfl,_,_,hm,aa,ac,rfl⟩
 refine Xd ⟨_,_,rfl⟩ ?_;refine go ?_;refine lW ((ac.atN).nth (q:=3) rfl)<|go ?_;refine lV (.bool (!decide ((ab.2.2.2.1.length:Int)=(ab.2.1.length:Int)))) (Xm (congrArg Value.bool bi) rfl)<|Y2 rfl ?_;refine Xt hm (fun bj hm=>go ?_) fun bj hm=>go ?_
 ·refine lV (.bool true) (Xb (congrArg Value.bool bj) rfl)<|Zk ?_;exact ⟨rfl,_,_,hm,aa,ac,rfl⟩
 refine Xd ⟨_,_,rfl⟩ ?_;refine go ?_;refine lW ((ac.atN).nth (q:=4) rfl)<|go ?_;refine lV (.bool (!decide ((ab.2.2.2.2.length:Int)=(ab.2.1.length:Int)))) (Xm (congrArg Value.bool bj) rfl)<|Zk ?_;exact ⟨rfl,_,_,hm,aa,ac,rfl⟩
def Ze7 (N:Nat) (ab:List ByteArray) (ac:ByteArray):Nat→Int→Option Int
  | 0,_=>none
  | ad+1,aa=>if (decide (aa<(ab.length:Int)))=true then ((Zj ab aa).bind fun ae=>if (decide (ae=ac))=true then (some aa) else ((Ze7 N ab ac ad) (i64.wrap (aa+1)))) else (some (-1))
termination_by structural x=>x
def Zke (N:Nat) (aa:List ByteArray) (ab:ByteArray):Option Int:=
  Ze7 N aa ab N 0
theorem Zru {N ag:Nat} {a0:Option Addr} {col:Zd} {w0:World} {ac:R7} {ad:ByteArray} {r:Int} (hm:Zke N ac ad=some r) (h0:Sl Za.str col w0 a0 ag ac):
    Calls prog 192 #[.slice a0 ac.length ag,.string ad] w0 (fun e w'=>e= .returned ((.int .i64 r))∧Below w0.heap.size w0 w'):=by
 refine Xc 4 (m:=19) func192 rfl rfl rfl rfl rfl ?_;rw [Zke.eq_1] at hm;have aa:=St.start col w0;refine go ?_;refine Zw [0,1,1000000] (fun n f ah=>∃ ai ae ab,ab=n∧Ze7 N ac ad ab ae=some r∧St w0 (Zh col) ai ah∧[5].map f=[.int .i64 ae]) N ⟨_,0,_,rfl,hm,aa,rfl⟩ ?_;clear hm;intro n f ah hI;obtain ⟨ai,ae,ab,hn,hm,aa,hs⟩:=hI;subst hn;refine .lL [5] hs ?_;replace h0:=h0.keep (Zf.start col w0)
 cases ab with
 | zero=>rw [Ze7.eq_1] at hm;cases hm
 | succ ab=>
  rw [Ze7.eq_2] at hm;refine go ?_;refine Zo hm (fun hb hm=>go ?_) fun hb hm=>go ?_
  ·obtain ⟨aj,af,hm⟩:=bZ hm;refine lI af ((h0.ks aa).addr af)<|lW ((h0.ks aa).atStr af) ?_;refine go ?_;refine Zo hm (fun hb hm=>go ?_) fun hb hm=>go ?_
   ·cases hm;exact ⟨rfl,rfl,aa.below⟩
   exact ⟨ab,by omega,rfl,⟨_,_,_,rfl,hm,aa,rfl⟩⟩
  cases hm;exact ⟨rfl,rfl,aa.below⟩
def Ze9 (N:Nat) (ab:R0):Nat→R2→Int→Option R2
  | 0,_,_=>none
  | ae+1,aa,ac=>if (decide (ac<(ab.2.2.1.length:Int)))=true then ((Zj ab.2.2.1 ac).bind fun ad=>Zv ((aa.length+[(ad.length:Int)].length) * 8≤140737488355328∧aa.length+[(ad.length:Int)].length≤maxLen) ((Ze9 N ab ae) (aa++[(ad.length:Int)]) (i64.wrap (ac+1)))) else (some aa)
termination_by structural x=>x
def Ze8 (N:Nat) (aa:R0):Option R2:=
  Ze9 N aa N ([]:List Int) 0
theorem Z1m {N aj ak al am:Nat} {an ao ap aq:Option Addr} {col:Zd} {w0:World} {aa:R0} {r:R2} (c1:Nat) (hm:Ze8 N aa=some r) (a7:Sl Za.str col w0 an aj aa.2.1) (af:Sl (Za.slice Za.str) col w0 ao ak aa.2.2.1) (a8:Sl (Za.slice (Za.int .i64)) col w0 ap al aa.2.2.2.1) (a9:Sl (Za.slice (Za.pair (Za.pair Za.bool (Za.slice (Za.int .u32))) (Za.slice (Za.int .u32)))) col w0 aq am aa.2.2.2.2):
    Calls prog 150 #[(.agg #[.string aa.1,.slice an aa.2.1.length aj,.slice ao aa.2.2.1.length ak,.slice ap aa.2.2.2.1.length al,.slice aq aa.2.2.2.2.length am])] w0 (fun e w'=>∃ (col':Zd) (ra1:Option Addr) (rc2:Nat),e= .returned ((.slice ra1 r.length rc2))∧Zg col w0 col' w'∧Zc (Za.int .i64) 3 c1 col' w' ra1 rc2 r):=by
 refine Xc 2 (m:=22) func150 rfl rfl rfl rfl rfl ?_;rw [Ze8.eq_1] at hm;have ab:=St.start col w0;refine go ?_;refine Xg (col:=(Zh col)) 1 rfl ?_;intro az ba bb a0 ac;refine go ?_;replace ab:=ab.grow a0;refine Zw [1,1000000] (fun n f ag=>∃ ae ar au ah av ad,ad=n∧Ze9 N aa ad ah av=some r∧St w0 (Zh col) ae ag∧Zm 27 1 ae ag az #[.string aa.1,.slice an aa.2.1.length aj,.slice ao aa.2.2.1.length ak,.slice ap aa.2.2.2.1.length al,.slice aq aa.2.2.2.2.length am]∧Zc (Za.int .i64) 3 2 ae ag ar au ah∧[3,4].map f=[.slice ar ah.length au,.int .i64 av]) N ⟨_,none,0,_,0,_,rfl,hm,ab,ac,Zc.nil,rfl⟩ ?_;clear hm;intro n f ag hI;obtain ⟨ae,ar,au,ah,av,ad,hn,hm,ab,ac,ai,hs⟩:=hI;subst hn;refine .lL [3,4] hs ?_;replace af:=af.keep (Zf.start col w0)
 cases ad with
 | zero=>rw [Ze9.eq_1] at hm;cases hm
 | succ ad=>
  rw [Ze9.eq_2] at hm;refine go ?_;refine Xa ac ?_;refine go ?_;refine Zo hm (fun hb hm=>go ?_) fun hb hm=>go ?_
  ·refine Xa ac<|Xo rfl ?_;obtain ⟨a1,aw,hm⟩:=bZ hm;refine lI aw ((af.ks ab).addr aw) ?_;obtain ⟨_,a2,a3⟩:=(af.ks ab).atN aw;obtain ⟨⟨bc,bd,rfl,be⟩,_⟩:=a2;refine lW a3.one<|go ?_;refine W1 (col:=ae) [(a1.length:Int)] 3 ?_;intro bf bg bh ax a4;obtain ⟨a5,hm⟩:=Zx hm;replace ai:=ai.gr ax;refine Y3 ai (a4.srcN (NB.int (k:=.i64))) a5 ?_;intro bi bj bk bm ay a6;refine go ?_;replace ac:=(ac.gr ax).kpp ay;replace ab:=(ab.grow ax).kpp ay;exact ⟨ad,by omega,rfl,⟨_,_,_,_,_,_,rfl,hm,ab,ac,a6,rfl⟩⟩
  cases hm;exact ⟨rfl,_,_,_,rfl,ab.fin (cm [(2,c1)]),ab.fo ai⟩

end Go.Proofs.YtbmjpjhbankpoaaGreat
