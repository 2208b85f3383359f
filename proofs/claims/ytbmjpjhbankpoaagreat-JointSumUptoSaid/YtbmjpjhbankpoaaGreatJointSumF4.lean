/-
  What functions of the program compute, as plain Lean functions (m_..), and proofs that they compute it (c_..). Printed by a program of the author; no conditions.
-/
import Derived.Test.YtbmjpjhbankpoaaGreatJointSumBFloat
import Derived.Test.YtbmjpjhbankpoaaGreatProg
import Derived.Test.YtbmjpjhbankpoaaGreatJointSumBBrief
import Derived.Test.YtbmjpjhbankpoaaGreatJointSumBThree
import Derived.Test.YtbmjpjhbankpoaaGreatJointSumF3
set_option linter.unusedVariables false
set_option maxRecDepth 100000
set_option maxHeartbeats 2000000
namespace Go.Proofs.YtbmjpjhbankpoaaGreat
open Go Go.RowKit
open Go.IntKind (i8 i16 i32 i64 u8 u16 u32 u64)
open Go.Proofs.Tryz

def Zia (aa:Int) (kk_L2:(Int→Int→Option Int)) (ab:Int):Option Int:=
  kk_L2 ab (i64.wrap (aa+1))
def Zbr (N:Nat) (aa:List Int) (ac:List Int):Nat→Int→Int→Option Int
  | 0,_,_=>none
  | af+1,ad,ab=>if (decide (ab<(aa.length:Int)))=true then ((Zj aa ab).bind fun ag=>(Zj ac ag).bind fun ae=>Zv (ae≠0) (if (decide ((i64.wrap (Int.tdiv 1099511627776 ae))<ad))=true then (Zia ab (Zbr N aa ac af) 1099511627776) else (Zia ab (Zbr N aa ac af) (i64.wrap (ad * ae))))) else (some ad)
termination_by structural x=>x
def Ze6 (N:Nat) (aa:List Int) (ab:List Int):Nat→Int→Option Int
  | 0,_=>none
  | ad+1,ac=>if (decide (ac<(aa.length:Int)))=true then ((Zj aa ac).bind fun ae=>(Zj ab ae).bind fun af=>if (decide (af<1))=true then (some 0) else ((Ze6 N aa ab ad) (i64.wrap (ac+1)))) else (Zbr N aa ab N 1 0)
termination_by structural x=>x
def Zkd (N:Nat) (aa:List Int) (ab:List Int):Option Int:=
  Ze6 N aa ab N 0
theorem Z1j {N an ao:Nat} {a0 a1:Option Addr} {col:Zd} {w0:World} {ac ad:R2} {r:Int} (hm:Zkd N ac ad=some r) (h0:Sl (Za.int .i64) col w0 a0 an ac) (h1:Sl (Za.int .i64) col w0 a1 ao ad):
    Calls prog 194 #[.slice a0 ac.length an,.slice a1 ad.length ao] w0 (fun e w'=>e= .returned ((.int .i64 r))∧Below w0.heap.size w0 w'):=by
 refine Xc 4 (m:=48) func194 rfl rfl rfl rfl rfl ?_;rw [Zkd.eq_1] at hm;have aa:=St.start col w0;refine go ?_;refine Zw [0,1,1000000] (fun n f ap=>∃ aq ai ae,ae=n∧Ze6 N ac ad ae ai=some r∧St w0 (Zh col) aq ap∧[5].map f=[.int .i64 ai]) N ⟨_,0,_,rfl,hm,aa,rfl⟩ ?_;clear hm;intro n f ap hI;obtain ⟨aq,ai,ae,hn,hm,aa,hs⟩:=hI;subst hn;refine .lL [5] hs ?_;replace h0:=h0.keep (Zf.start col w0);replace h1:=h1.keep (Zf.start col w0)
 cases ae with
 | zero=>rw [Ze6.eq_1] at hm;cases hm
 | succ ae=>
  rw [Ze6.eq_2] at hm;refine go ?_;refine Zo hm (fun hb hm=>go ?_) fun hb hm=>go ?_
  ·obtain ⟨az,aj,hm⟩:=bZ hm;refine lI aj ((h0.ks aa).addr aj)<|lW ((h0.ks aa).atInt aj) ?_;obtain ⟨a2,ak,hm⟩:=bZ hm;refine lI ak ((h1.ks aa).addr ak)<|lW ((h1.ks aa).atInt ak) ?_;refine go ?_;refine Zo hm (fun hb hm=>go ?_) fun hb hm=>go ?_
   ·cases hm;exact ⟨rfl,rfl,aa.below⟩
   exact ⟨ae,by omega,rfl,⟨_,_,_,rfl,hm,aa,rfl⟩⟩
  refine Zw [0,1,1000000] (fun n f ar=>∃ au al ah ab,ab=n∧Zbr N ac ad ab al ah=some r∧St w0 (Zh col) au ar∧[6,7].map f=[.int .i64 al,.int .i64 ah]) N ⟨_,1,0,_,rfl,hm,aa,rfl⟩ ?_;clear hm;intro n f ar hI;obtain ⟨au,al,ah,ab,hn,hm,aa,hs⟩:=hI;subst hn;refine .lL [6,7] hs ?_
  cases ab with
  | zero=>rw [Zbr.eq_1] at hm;cases hm
  | succ ab=>
   rw [Zbr.eq_2] at hm;refine go ?_;refine Zo hm (fun hb hm=>?_) fun hb hm=>go ?_
   ·refine X9<|Z0 ?_;refine Wp.cutK [0,1,7,1000000] (fun f av=>∃ aw am,Zia ah (Zbr N ac ad ab) am=some r∧St w0 (Zh col) aw av∧[6].map f=[.int .i64 am]) ?_ ?_
    ·intro f av hJ;obtain ⟨aw,am,hm,aa,hs⟩:=hJ;rw [Zia.eq_1] at hm;refine .lL [6] hs<|go ?_;exact ⟨ab,by omega,rfl,⟨_,_,_,_,rfl,hm,aa,rfl⟩⟩
    refine go ?_;obtain ⟨a3,af,hm⟩:=bZ hm;refine lI af ((h0.ks aa).addr af)<|lW ((h0.ks aa).atInt af) ?_;obtain ⟨ax,ag,hm⟩:=bZ hm;refine lI ag ((h1.ks aa).addr ag)<|lW ((h1.ks aa).atInt ag) ?_;obtain ⟨ay,hm⟩:=Zx hm;refine lV (.int .i64 (i64.wrap (Int.tdiv 1099511627776 ax))) (Vw 1099511627776 ax rfl rfl ay)<|go ?_;refine Zo hm (fun hb hm=>go ?_) fun hb hm=>go ?_
    ·exact ⟨rfl,_,1099511627776,hm,aa,rfl⟩
    refine lI af ((h0.ks aa).addr af)<|lW ((h0.ks aa).atInt af)<|lI ag ((h1.ks aa).addr ag)<|lW ((h1.ks aa).atInt ag) ?_;refine go ?_;exact ⟨rfl,_,_,hm,aa,rfl⟩
   cases hm;exact ⟨rfl,rfl,aa.below⟩
def Zkg (aa:Bool):Option Bool:=
  some aa
def Zkf (ab:Int) (aa:Int):Option Bool:=
  if (decide (0<aa))=true then (Zv (aa≠0) (Zkg (decide ((i64.wrap (Int.tdiv 65536 aa))<ab)))) else (Zkg false)
theorem Z1l {col:Zd} {w0:World} {ac aa:Int} {r:Bool} (hm:Zkf ac aa=some r):
    Calls prog 195 #[.int .i64 ac,.int .i64 aa] w0 (fun e w'=>e= .returned ((.bool r))∧Below w0.heap.size w0 w'):=by
 refine Xc 4 (m:=13) func195 rfl rfl rfl rfl rfl ?_;rw [Zkf.eq_1] at hm;have ab:=St.start col w0;refine Z0<|Wk<|Q4 rfl<|Zk<|Z0 ?_;refine Wp.cutK [1000000] (fun f af=>∃ ag ad,Zkg ad=some r∧St w0 (Zh col) ag af∧[4].map f=[.bool ad]) ?_ ?_
 ·intro f af hJ;obtain ⟨ag,ad,hm,ab,hs⟩:=hJ;rw [Zkg.eq_1] at hm;refine .lL [4] hs<|We ?_;cases hm;exact ⟨rfl,rfl,ab.below⟩
 refine go ?_;refine Xt hm (fun ae hm=>go ?_) fun ae hm=>go ?_
 ·obtain ⟨ah,hm⟩:=Zx hm;refine lV (.int .i64 (i64.wrap (Int.tdiv 65536 aa))) (Vw 65536 aa rfl rfl ah)<|go ?_;refine lV (.bool (decide ((i64.wrap (Int.tdiv 65536 aa))<ac))) (Xb (congrArg Value.bool ae) rfl)<|go ?_;exact ⟨rfl,_,_,hm,ab,rfl⟩
 refine lV (.bool false) (Xm (congrArg Value.bool ae) rfl)<|go ?_;exact ⟨rfl,_,_,hm,ab,rfl⟩
def Zib (N:Nat):Option R1:=
  (Zah N 1 1).bind fun aa=>some ((aa.1.1,aa.1.2),aa.2)
theorem Zrv {N:Nat} {col:Zd} {w0:World} {r:R1} (c1 c2:Nat) (hm:Zib N=some r):
    Calls prog 242 #[] w0 (fun e w'=>∃ (col':Zd) (ra1:Option Addr) (rc2:Nat) (ra4:Option Addr) (rc5:Nat),e= .returned ((.agg #[.bool r.1.1,.slice ra1 r.1.2.length rc2,.slice ra4 r.2.length rc5]))∧Zg col w0 col' w'∧Zc (Za.int .u32) 79 c1 col' w' ra1 rc2 r.1.2∧Zc (Za.int .u32) 79 c2 col' w' ra4 rc5 r.2):=by
 refine Ym (m:=2) func242 rfl rfl rfl ?_;rw [Zib.eq_1] at hm;have aa:=St.start col w0;refine go ?_;refine Xl (col:=(Zh col)) #[.bool false,.slice none (([]:List Int).length) 0,.slice none (([]:List Int).length) 0] 1 zeroValue47 ?_;intro al am ag ah ab;refine go ?_;obtain ⟨an,ai,hm⟩:=bZ hm;refine Zi (Zlu (col:=ag) 2 3 ai) ?_;rintro _ ao ⟨ap,aq,ar,au,av,rfl,af,ac,ad⟩;refine ⟨_,rfl,?_⟩;replace ab:=ab.gr af;refine Z4 ab ?_;intro aw ae aj ak;refine go ?_;cases hm;replace aa:=((aa.grow ah).grow af).kp ae aj;replace ac:=ac.kp ae;replace ad:=ad.kp ae;exact ⟨rfl,_,ra ak.atN,_,_,_,_,_,rfl,aa.fin (cm [(2,c1),(3,c2)]),aa.fo ac,aa.fo ad⟩
def Zid (aa:Bool):Option Bool:=
  some aa
def Zic (N:Nat) (aa:R1):Option Bool:=
  (Zez N ((aa.1.1,aa.1.2),aa.2)).bind fun ac=>if (decide (ac<0))=true then (Zid true) else ((Zib N).bind fun ab=>(Zh1 N ((aa.1.1,aa.1.2),aa.2) ((ab.1.1,ab.1.2),ab.2)).bind fun ad=>Zid (decide (0<ad)))
theorem Z1k {N al am:Nat} {an ao:Option Addr} {col:Zd} {w0:World} {ac:R1} {r:Bool} (hm:Zic N ac=some r) (ah:Sl (Za.int .u32) col w0 an al ac.1.2) (ai:Sl (Za.int .u32) col w0 ao am ac.2):
    Calls prog 196 #[(.agg #[.bool ac.1.1,.slice an ac.1.2.length al,.slice ao ac.2.length am])] w0 (fun e w'=>e= .returned ((.bool r))∧Below w0.heap.size w0 w'):=by
 refine Xc 2 (m:=12) func196 rfl rfl rfl rfl rfl ?_;rw [Zic.eq_1] at hm;have aa:=St.start col w0;refine go ?_;refine Xg (col:=(Zh col)) 1 rfl ?_;intro a6 a7 ab ay aj;refine Q4 rfl<|Zk<|Z0 ?_;replace ah:=ah.keep (Zf.start col w0);replace ai:=ai.keep (Zf.start col w0);replace aa:=aa.grow ay;refine Wp.cutK [1000000] (fun f av=>∃ aw ap,Zid ap=some r∧St w0 (Zh col) aw av∧[2].map f=[.bool ap]) ?_ ?_
 ·intro f av hJ;obtain ⟨aw,ap,hm,aa,hs⟩:=hJ;rw [Zid.eq_1] at hm;refine .lL [2] hs<|We ?_;cases hm;exact ⟨rfl,rfl,aa.below⟩
 refine Wh (col:=ab) [(0,0),(1,3),(2,1),(3,1),(4,0),(5,3),(6,3),(7,1),(8,1),(9,1)] (by kernel_rfl) (by kernel_rfl)<|xv rfl rfl (fun _ hC=>Z7 isAgg47 sizeOf47 (aj.gr (hC.bl ab))) ?_;refine xe rfl rfl ?_;intro az hC0;have hC:=hC0.bl ab;obtain ⟨ae,a0,hm⟩:=bZ hm;replace aa:=aa.grow hC;refine Zi (Zrt a0 (ah.ks aa) (ai.ks aa)) ?_;rintro _ a1 ⟨rfl,ag⟩;refine ⟨_,rfl,?_⟩;replace ag:Zg ab az ab a1:=.of_below ag;refine Zk<|Xp ab hC0 ag<|xu rfl rfl (fun _=>Znn _ _ rfl rfl) ?_;refine xu rfl rfl (fun _=>Zw1 rfl) ?_;replace aj:=(aj.gr hC).gr ag;replace aa:=aa.grow ag;refine Xt hm (fun ad hm=>?_) fun ad hm=>?_
 ·refine Zdl (b:=decide (ae<0)) 6 rfl rfl rfl rfl rfl (by rw [ad];rfl)<|Zdl (b:=decide (ae<0)) 6 rfl rfl rfl rfl rfl (by rw [ad];rfl)<|Zdl (b:=decide (ae<0)) 6 rfl rfl rfl rfl rfl (by rw [ad];rfl)<|Zdl (b:=decide (ae<0)) 6 rfl rfl rfl rfl rfl (by rw [ad];rfl)<|xu (v:=(.bool true)) rfl rfl (fun _=>Xb (congrArg Value.bool ad) rfl) ?_;refine xu rfl rfl (fun _=>Znk rfl) ?_;refine Y9 ?_;intro a8 hC;replace hC:=hC.bl ab;replace aa:=aa.grow hC;exact ⟨rfl,_,_,hm,aa,rfl⟩
 refine Zzt (v:=(.agg #[.bool ac.1.1,.slice an ac.1.2.length al,.slice ao ac.2.length am])) (b:=decide (ae<0)) 6 rfl rfl rfl rfl rfl (by rw [ad];rfl) (fun _ hC=>Yj isAgg47 sizeOf47 rfl rfl (aj.atN.gr (hC.bl ab))) ?_;refine xe rfl rfl ?_;intro a9 hC0;have hC:=hC0.bl ab;refine go ?_;obtain ⟨ba,a2,hm⟩:=bZ hm;refine lc rfl rfl (Zf3 call242) (Zrv (col:=ab) 6 7 a2:) ?_;rintro _ bb ⟨af,bc,bd,be,bf,rfl,ax,aq,ar⟩;refine ⟨_,rfl,?_⟩;refine Zk<|Xp af hC0 ax<|xe rfl rfl ?_;intro a3 hC0;replace aa:=(aa.grow hC).grow ax;have hC:=hC0.bl af;refine go ?_;obtain ⟨au,a4,hm⟩:=bZ hm;replace aq:=aq.gr hC;replace ar:=ar.gr hC;replace aa:=aa.grow hC;refine Zi (Zrq a4 (((ah.ks aa).froz 6).froz 7) (((ai.ks aa).froz 6).froz 7) ((aq.toSlF (Zn.int .u32)).froz 7) ((ar.froz 6 (by decide)).toSlF (Zn.int .u32))) ?_;rintro _ a5 ⟨rfl,ak⟩;refine ⟨_,rfl,?_⟩;replace ak:Zg af a3 af a5:=.of_below ak;refine Zk<|Xp af hC0 ak<|Zzs (v:=(.bool (decide (0<au)))) (b:=decide (ae<0)) 6 rfl rfl rfl rfl rfl (by rw [ad];rfl) (fun _=>Znm au 0 rfl rfl) ?_;refine xu (v:=(.bool (decide (0<au)))) rfl rfl (fun _=>Xm (congrArg Value.bool ad) rfl) ?_;refine xu rfl rfl (fun _=>Znk rfl) ?_;refine Y9 ?_;intro bg hC;replace hC:=hC.bl af;replace aa:=(aa.grow ak).grow hC;exact ⟨rfl,_,_,hm,aa,rfl⟩
def Zc0 (N:Nat) (ac:R8) (ab:Int):Nat→Int→Option Bool
  | 0,_=>none
  | af+1,aa=>if (decide (aa<(ac.length:Int)))=true then (Zv ((0:Int)≤aa∧aa≤(i64.wrap (aa+ab))∧(i64.wrap (aa+ab))≤(ac.length:Int)) ((Zkc N ((ac.take (Int.toNat (i64.wrap (aa+ab)))).drop (Int.toNat aa))).bind fun ad=>(Zib N).bind fun ae=>(Zh1 N ((ad.1.1,ad.1.2),ad.2) ((ae.1.1,ae.1.2),ae.2)).bind fun ag=>if (!decide (ag=0))=true then (some false) else ((Zc0 N ac ab af) (i64.wrap (aa+ab))))) else (some true)
termination_by structural x=>x
def Zms (N:Nat) (aa:R8) (ab:Int):Option Bool:=
  Zc0 N aa ab N 0
theorem Z1n {N ad:Nat} {a0:Option Addr} {col:Zd} {w0:World} {ae:R8} {ac:Int} {r:Bool} (hm:Zms N ae ac=some r) (h0:Sl (Za.pair (Za.pair Za.bool (Za.slice (Za.int .u32))) (Za.slice (Za.int .u32))) col w0 a0 ad ae):
    Calls prog 197 #[.slice a0 ae.length ad,.int .i64 ac] w0 (fun e w'=>e= .returned ((.bool r))∧Below w0.heap.size w0 w'):=by
 refine Xc 4 (m:=23) func197 rfl rfl rfl rfl rfl ?_;rw [Zms.eq_1] at hm;have ab:=St.start col w0;refine go ?_;refine Zw [0,1,1000000] (fun n f al=>∃ am aa af,af=n∧Zc0 N ae ac af aa=some r∧St w0 (Zh col) am al∧[5].map f=[.int .i64 aa]) N ⟨_,0,_,rfl,hm,ab,rfl⟩ ?_;clear hm;intro n f al hI;obtain ⟨am,aa,af,hn,hm,ab,hs⟩:=hI;subst hn;refine .lL [5] hs ?_;replace h0:=h0.keep (Zf.start col w0)
 cases af with
 | zero=>rw [Zc0.eq_1] at hm;cases hm
 | succ af=>
  rw [Zc0.eq_2] at hm;refine go ?_;refine Zo hm (fun hb hm=>go ?_) fun hb hm=>go ?_
  ·obtain ⟨ag,hm⟩:=Zx hm;have ap:=((h0.ks ab).take (Int.toNat (i64.wrap (aa+ac)))).drop (sz:=3) rfl (Int.toNat aa);refine lv (v:=.slice (if ad=(Int.toNat aa) then a0 else a0.map (·.add ((Int.toNat aa) * 3))) ((Int.toNat (i64.wrap (aa+ac))) - (Int.toNat aa)) (ad - (Int.toNat aa))) rfl rfl (Zw5 underlying56 sizeOf47 rfl rfl rfl ag.1 ag.2.1 (by have:=(h0.ks ab).1.2;have:=ag.2.2;omega)) ?_;generalize (if ad=(Int.toNat aa) then a0 else a0.map (·.add ((Int.toNat aa) * 3)))=an at *;refine .ld (d:=18) (v:=(.slice an (((ae.take (Int.toNat (i64.wrap (aa+ac)))).drop (Int.toNat aa)).length) (ad - (Int.toNat aa)))) (congrArg (fun n=>Value.slice an n (ad - (Int.toNat aa))) (show (Int.toNat (i64.wrap (aa+ac))) - (Int.toNat aa)=((ae.take (Int.toNat (i64.wrap (aa+ac)))).drop (Int.toNat aa)).length by rw [List.length_drop,nK];have:=ag.2;omega)) ?_;obtain ⟨a2,aq,hm⟩:=bZ hm;refine Zi (Z1c 1 2 aq ap) ?_;rintro _ a3 ⟨ar,a4,a5,a6,a7,rfl,au,ah,ai⟩;refine ⟨_,rfl,?_⟩;obtain ⟨a8,av,hm⟩:=bZ hm;refine lc rfl rfl (Zf3 call242) (Zrv (col:=ar) 3 4 av:) ?_;rintro _ aw ⟨ao,a9,ba,bb,bc,rfl,aj,ax,ay⟩;refine ⟨_,rfl,?_⟩;obtain ⟨bd,az,hm⟩:=bZ hm;replace ah:=ah.gr aj;replace ai:=ai.gr aj;refine Zi (Zrq az ((((ah.toSlF (Zn.int .u32)).froz 2).froz 3).froz 4) ((((ai.froz 1 (by decide)).toSlF (Zn.int .u32)).froz 3).froz 4) ((((ax.froz 1 (by decide)).froz 2 (by decide)).toSlF (Zn.int .u32)).froz 4) ((((ay.froz 1 (by decide)).froz 2 (by decide)).froz 3 (by decide)).toSlF (Zn.int .u32))) ?_;rintro _ a1 ⟨rfl,ak⟩;refine ⟨_,rfl,?_⟩;replace ak:Zg ao aw ao a1:=.of_below ak;refine go ?_;replace ab:=((ab.grow au).grow aj).grow ak;refine Zo hm (fun hb hm=>go ?_) fun hb hm=>go ?_
   ·cases hm;exact ⟨rfl,rfl,ab.below⟩
   exact ⟨af,by omega,rfl,⟨_,_,_,rfl,hm,ab,rfl⟩⟩
  cases hm;exact ⟨rfl,rfl,ab.below⟩
def Zh9 (aa:Int) (kk_L2:(Bool→Int→Option Int)) (ab:Bool):Option Int:=
  kk_L2 ab (i64.wrap (aa+1))
def Zbo (N:Nat) (ad:R0) (ab:Int) (kk_L1:(Int→Option Int)):Nat→Bool→Int→Option Int
  | 0,_,_=>none
  | ae+1,af,aa=>(Zj ad.2.2.1 ab).bind fun ac=>if (decide (aa<(ac.length:Int)))=true then (if af=true then (Zh9 aa (Zbo N ad ab kk_L1 ae) true) else ((Zj ac aa).bind fun ag=>(Zke N ac ag).bind fun ah=>Zh9 aa (Zbo N ad ab kk_L1 ae) (decide (ah<aa)))) else (if af=true then (some 40) else (if (decide ((ac.length:Int)=0))=true then (some 43) else (kk_L1 (i64.wrap (ab+1)))))
termination_by structural x=>x
def Ze5 (N:Nat) (ad:R0) (aa:Int) (kk_L4:(Int→Option Int)):Nat→Int→Option Int
  | 0,_=>none
  | af+1,ab=>(Zj ad.2.2.2.2 aa).bind fun ae=>if (decide (ab<(ae.length:Int)))=true then ((Zj ae ab).bind fun ac=>(Zic N ((ac.1.1,ac.1.2),ac.2)).bind fun ag=>if ag=true then (some 45) else ((Ze5 N ad aa kk_L4 af) (i64.wrap (ab+1)))) else (kk_L4 (i64.wrap (aa+1)))
termination_by structural x=>x
def Zbq (N:Nat) (ab:R0) (ac:List Int):Nat→Int→Option Int
  | 0,_=>none
  | ad+1,aa=>if (decide (aa<(ab.2.1.length:Int)))=true then ((Zj ab.2.2.2.2 aa).bind fun ae=>(Zj ac aa).bind fun af=>(Zms N ae af).bind fun ag=>if (!ag)=true then (some 46) else ((Zbq N ab ac ad) (i64.wrap (aa+1)))) else (some 0)
termination_by structural x=>x
def Zak (N:Nat) (aa:R0) (ab:List Int):Nat→Int→Option Int
  | 0,_=>none
  | ad+1,ac=>if (decide (ac<(aa.2.1.length:Int)))=true then (Ze5 N aa ac (Zak N aa ab ad) N 0) else (Zbq N aa ab N 0)
termination_by structural x=>x
def Zbp (N:Nat) (aa:R0) (ac:List Int):Nat→Int→Option Int
  | 0,_=>none
  | af+1,ab=>if (decide (ab<(aa.2.1.length:Int)))=true then ((Zj aa.2.2.2.1 ab).bind fun ag=>(Zkd N ag ac).bind fun ad=>(Zj ac ab).bind fun ae=>(Zkf ad ae).bind fun ah=>if ah=true then (some 4) else ((Zj aa.2.2.2.2 ab).bind fun ai=>if (!decide ((ai.length:Int)=(i64.wrap (ad * ae))))=true then (some 60) else ((Zbp N aa ac af) (i64.wrap (ab+1))))) else (Zak N aa ac N 0)
termination_by structural x=>x
def Sq (N:Nat) (aa:R0):Nat→Int→Option Int
  | 0,_=>none
  | ad+1,ab=>if (decide (ab<(aa.2.1.length:Int)))=true then ((Zj aa.2.1 ab).bind fun ae=>(Zke N aa.2.1 ae).bind fun af=>Zbo N aa ab (Sq N aa ad) N (decide (af<ab)) 0) else ((Qp N aa.2.2.2.1).bind fun ac=>if (!decide (ac=0))=true then (some ac) else ((Ze8 N (aa.1,aa.2.1,aa.2.2.1,aa.2.2.2.1,aa.2.2.2.2)).bind fun ag=>Zbp N aa ag N 0))
termination_by structural x=>x
def Zcz (N:Nat) (aa:R0) (ab:Bool):Option Int:=
  if ab=true then (some 60) else (if (decide (1024<(aa.2.1.length:Int)))=true then (some 4) else (Sq N aa N 0))
def Zcy (N:Nat) (aa:R0):Option Int:=
  if (!decide ((aa.2.2.1.length:Int)=(aa.2.1.length:Int)))=true then (Zcz N aa true) else (if (!decide ((aa.2.2.2.1.length:Int)=(aa.2.1.length:Int)))=true then (Zcz N aa true) else (Zcz N aa (!decide ((aa.2.2.2.2.length:Int)=(aa.2.1.length:Int)))))
theorem Z1i {N ak al am an:Nat} {ao ap aq ar:Option Addr} {col:Zd} {w0:World} {ab:R0} {r:Int} (hm:Zcy N ab=some r) (a0:Sl Za.str col w0 ao ak ab.2.1) (ah:Sl (Za.slice Za.str) col w0 ap al ab.2.2.1) (a1:Sl (Za.slice (Za.int .i64)) col w0 aq am ab.2.2.2.1) (ai:Sl (Za.slice (Za.pair (Za.pair Za.bool (Za.slice (Za.int .u32))) (Za.slice (Za.int .u32)))) col w0 ar an ab.2.2.2.2):
    Calls prog 79 #[(.agg #[.string ab.1,.slice ao ab.2.1.length ak,.slice ap ab.2.2.1.length al,.slice aq ab.2.2.2.1.length am,.slice ar ab.2.2.2.2.length an])] w0 (fun e w'=>e= .returned ((.int .i64 r))∧Below w0.heap.size w0 w'):=by
 refine Xc 2 (m:=175) func79 rfl rfl rfl rfl rfl ?_;rw [Zcy.eq_1] at hm;have aa:=St.start col w0;refine go ?_;refine Xg (col:=(Zh col)) 1 rfl ?_;intro av dt du cg ac;refine go ?_;refine Xa ac<|lV _ (U9 underlying22 rfl)<|Y8 rfl<|Zk<|Z0<|Z0 ?_;replace a0:=a0.keep (Zf.start col w0);replace ah:=ah.keep (Zf.start col w0);replace a1:=a1.keep (Zf.start col w0);replace ai:=ai.keep (Zf.start col w0);replace aa:=aa.grow cg;refine Wp.cutK [1,3,1000000] (fun f bo=>∃ bp bq,Zcz N ab bq=some r∧St w0 (Zh col) bp bo∧Zm 27 1 bp bo av #[.string ab.1,.slice ao ab.2.1.length ak,.slice ap ab.2.2.1.length al,.slice aq ab.2.2.2.1.length am,.slice ar ab.2.2.2.2.length an]∧[38].map f=[.bool bq]) ?_ ?_
 ·intro f bo hJ;obtain ⟨bp,bq,hm,aa,ac,hs⟩:=hJ;rw [Zcz.eq_1] at hm;refine .lL [38] hs ?_;refine Zo hm (fun hb hm=>go ?_) fun hb hm=>go ?_
  ·cases hm;exact ⟨rfl,rfl,aa.below⟩
  refine Zo hm (fun hb hm=>go ?_) fun hb hm=>go ?_
  ·cases hm;exact ⟨rfl,rfl,aa.below⟩
  refine Zw [1,3,1000000] (fun n f bf=>∃ aj a8 aw,aw=n∧Sq N ab aw a8=some r∧St w0 (Zh col) aj bf∧Zm 27 1 aj bf av #[.string ab.1,.slice ao ab.2.1.length ak,.slice ap ab.2.2.1.length al,.slice aq ab.2.2.2.1.length am,.slice ar ab.2.2.2.2.length an]∧[4].map f=[.int .i64 a8]) N ⟨_,0,_,rfl,hm,aa,ac,rfl⟩ ?_;clear hm;intro n f bf hI;obtain ⟨aj,a8,aw,hn,hm,aa,ac,hs⟩:=hI;subst hn;refine .lL [4] hs ?_
  cases aw with
  | zero=>rw [Sq.eq_1] at hm;cases hm
  | succ aw=>
   rw [Sq.eq_2] at hm;refine go ?_;refine Zo hm (fun hb hm=>go ?_) fun hb hm=>go ?_
   ·refine Wd (col:=aj) (by kernel_rfl) (by kernel_rfl)<|qF ⟨_,_,rfl⟩ ?_;refine qW (fun _ hC=>((ac.atN).nth (q:=1) rfl).gr (hC.bl aj)) ?_;refine qF ⟨_,_,rfl⟩ ?_;refine qW (fun _ hC=>((ac.atN).nth (q:=1) rfl).gr (hC.bl aj)) ?_;refine go ?_;obtain ⟨dv,br,hm⟩:=bZ hm;refine qI br ((a0.ks aa).addr br)<|qW (fun _ hC=>((a0.ks aa).gr (hC.bl aj)).atStr br) ?_;obtain ⟨ch,ci,hm⟩:=bZ hm;refine qc (v:=(.int .i64 ch)) rfl (fun _ hC=>⟨_,_,Zbx call192 rfl rfl,(Zru ci ((a0.ks aa).gr (hC.bl aj)):).mono fun _ _ h=>⟨h.1,hC.trans (.of_below h.2)⟩⟩) ?_;refine go ?_;refine X7 ?_;intro dw hC;replace hC:=hC.bl aj;refine go ?_;replace ac:=ac.gr hC;replace aa:=aa.grow hC;refine Zw [1,3,4,1000000] (fun n f bs=>∃ af bt a9 ay,ay=n∧Zbo N ab a8 (Sq N ab aw) ay bt a9=some r∧St w0 (Zh col) af bs∧Zm 27 1 af bs av #[.string ab.1,.slice ao ab.2.1.length ak,.slice ap ab.2.2.1.length al,.slice aq ab.2.2.2.1.length am,.slice ar ab.2.2.2.2.length an]∧[5,6].map f=[.bool bt,.int .i64 a9]) N ⟨_,_,0,_,rfl,hm,aa,ac,rfl⟩ ?_;clear hm;intro n f bs hI;obtain ⟨af,bt,a9,ay,hn,hm,aa,ac,hs⟩:=hI;subst hn;refine .lL [5,6] hs ?_
    cases ay with
    | zero=>rw [Zbo.eq_1] at hm;cases hm
    | succ ay=>
     rw [Zbo.eq_2] at hm;refine go ?_;refine Xa ac<|Xo rfl ?_;obtain ⟨dx,ag,hm⟩:=bZ hm;refine lI ag ((ah.ks aa).addr ag) ?_;obtain ⟨_,cj,ck⟩:=(ah.ks aa).atN ag;obtain ⟨⟨dy,dz,rfl,d0⟩,_⟩:=cj;refine lW ck.one<|go ?_;refine Zo hm (fun hb hm=>?_) fun hb hm=>go ?_
     ·refine X9<|Z0 ?_;refine Wp.cutK [1,3,4,6,1000000] (fun f bu=>∃ bv bw,Zh9 a9 (Zbo N ab a8 (Sq N ab aw) ay) bw=some r∧St w0 (Zh col) bv bu∧Zm 27 1 bv bu av #[.string ab.1,.slice ao ab.2.1.length ak,.slice ap ab.2.2.1.length al,.slice aq ab.2.2.2.1.length am,.slice ar ab.2.2.2.2.length an]∧[5].map f=[.bool bw]) ?_ ?_
      ·intro f bu hJ;obtain ⟨bv,bw,hm,aa,ac,hs⟩:=hJ;rw [Zh9.eq_1] at hm;refine .lL [5] hs<|go ?_;exact ⟨ay,by omega,rfl,⟨_,_,_,_,rfl,hm,aa,ac,rfl⟩⟩
      refine Ziz<|Wd (col:=af) (by kernel_rfl) (by kernel_rfl)<|go ?_;refine Xt hm (fun bx hm=>go ?_) fun bx hm=>go ?_
      ·refine qv (v:=(.bool true)) rfl (fun _ hC=>Xb (congrArg Value.bool bx) rfl) ?_;refine go ?_;refine X7 ?_;intro d1 hC;replace hC:=hC.bl af;replace ac:=ac.gr hC;replace aa:=aa.grow hC;exact ⟨rfl,_,_,hm,aa,ac,rfl⟩
      refine qF ⟨_,_,rfl⟩ ?_;refine go ?_;refine qW (fun _ hC=>((ac.atN).nth (q:=2) rfl).gr (hC.bl af)) ?_;refine go ?_;refine qI ag ((ah.ks aa).addr ag) ?_;refine go ?_;obtain ⟨_,cl,cn⟩:=(ah.ks aa).atN ag;obtain ⟨⟨d2,d3,rfl,co⟩,_⟩:=cl;refine qW (fun _ hC=>cn.one.gr (hC.bl af)) ?_;refine go ?_;refine qF ⟨_,_,rfl⟩ ?_;refine go ?_;refine qW (fun _ hC=>((ac.atN).nth (q:=2) rfl).gr (hC.bl af)) ?_;refine go ?_;refine qI ag ((ah.ks aa).addr ag) ?_;refine go ?_;obtain ⟨_,cp,cq⟩:=(ah.ks aa).atN ag;obtain ⟨⟨d4,d5,rfl,cb⟩,_⟩:=cp;refine qW (fun _ hC=>cq.one.gr (hC.bl af)) ?_;refine go ?_;obtain ⟨d6,bz,hm⟩:=bZ hm;refine qI bz (cb.addr bz) ?_;refine go ?_;refine qW (fun _ hC=>(cb.gr (hC.bl af)).atStr bz) ?_;refine go ?_;obtain ⟨cc,cr,hm⟩:=bZ hm;refine qc (v:=(.int .i64 cc)) rfl (fun _ hC=>⟨_,_,Zbx call192 rfl rfl,(Zru cr (co.gr (hC.bl af)):).mono fun _ _ h=>⟨h.1,hC.trans (.of_below h.2)⟩⟩) ?_;refine go ?_;refine qv (v:=(.bool (decide (cc<a9)))) rfl (fun _ hC=>Xm (congrArg Value.bool bx) rfl) ?_;refine go ?_;refine X7 ?_;intro d7 hC;replace hC:=hC.bl af;replace ac:=ac.gr hC;replace aa:=aa.grow hC;exact ⟨rfl,_,_,hm,aa,ac,rfl⟩
     refine Zo hm (fun hb hm=>go ?_) fun hb hm=>go ?_
     ·cases hm;exact ⟨rfl,rfl,aa.below⟩
     refine Xa ac<|Xo rfl<|lI ag ((ah.ks aa).addr ag) ?_;obtain ⟨_,cs,ct⟩:=(ah.ks aa).atN ag;obtain ⟨⟨d8,d9,rfl,ea⟩,_⟩:=cs;refine lW ct.one<|go ?_;refine Zo hm (fun hb hm=>go ?_) fun hb hm=>go ?_
     ·cases hm;exact ⟨rfl,rfl,aa.below⟩
     exact ⟨aw,by omega,rfl,⟨_,_,_,rfl,hm,aa,ac,rfl⟩⟩
   refine Xa ac ?_;obtain ⟨eb,cu,hm⟩:=bZ hm;refine Zi (Z1e cu (a1.ks aa)) ?_;rintro _ cv ⟨rfl,bg⟩;refine ⟨_,rfl,?_⟩;replace bg:Zg aj bf aj cv:=.of_below bg;refine go ?_;replace ac:=ac.gr bg;replace aa:=aa.grow bg;refine Zo hm (fun hb hm=>go ?_) fun hb hm=>go ?_
   ·cases hm;exact ⟨rfl,rfl,aa.below⟩
   refine lV _ (Z7 isAgg27 sizeOf27 ac) ?_;obtain ⟨ax,cw,hm⟩:=bZ hm;refine Zi (Z1m 2 cw (a0.ks aa) (ah.ks aa) (a1.ks aa) (ai.ks aa)) ?_;rintro _ ec ⟨ed,bh,bi,rfl,cd,ad⟩;refine ⟨_,rfl,go ?_⟩;replace ac:=ac.gr cd;replace aa:=aa.grow cd;refine Zw [1,3,8,1000000] (fun n f ba=>∃ ae b0 a2,a2=n∧Zbp N ab ax a2 b0=some r∧St w0 (Zh col) ae ba∧Zm 27 1 ae ba av #[.string ab.1,.slice ao ab.2.1.length ak,.slice ap ab.2.2.1.length al,.slice aq ab.2.2.2.1.length am,.slice ar ab.2.2.2.2.length an]∧Zc (Za.int .i64) 3 2 ae ba bh bi ax∧[9].map f=[.int .i64 b0]) N ⟨_,0,_,rfl,hm,aa,ac,ad,rfl⟩ ?_;clear hm;intro n f ba hI;obtain ⟨ae,b0,a2,hn,hm,aa,ac,ad,hs⟩:=hI;subst hn;refine .lL [9] hs ?_
   cases a2 with
   | zero=>rw [Zbp.eq_1] at hm;cases hm
   | succ a2=>
    rw [Zbp.eq_2] at hm;refine go ?_;refine Zo hm (fun hb hm=>go ?_) fun hb hm=>go ?_
    ·refine Xa ac<|Xo rfl ?_;obtain ⟨ee,b1,hm⟩:=bZ hm;refine lI b1 ((a1.ks aa).addr b1) ?_;obtain ⟨_,cx,cy⟩:=(a1.ks aa).atN b1;obtain ⟨⟨ef,eg,rfl,cz⟩,_⟩:=cx;refine lW cy.one<|Yr rfl ?_;obtain ⟨eh,c0,hm⟩:=bZ hm;refine Zi (Z1j c0 (cz.froz 2) (ad.toSlF (Zn.int .i64))) ?_;rintro _ ce ⟨rfl,bb⟩;refine ⟨_,rfl,?_⟩;replace bb:Zg ae ba ae ce:=.of_below bb;refine go ?_;obtain ⟨ei,a3,hm⟩:=bZ hm;replace ad:=ad.gr bb;refine lI a3 (ad.addr a3)<|lW (ad.atInt a3) ?_;obtain ⟨ej,c1,hm⟩:=bZ hm;refine Zi (Z1l (col:=ae) c1) ?_;rintro _ c2 ⟨rfl,bc⟩;refine ⟨_,rfl,?_⟩;replace bc:Zg ae ce ae c2:=.of_below bc;refine go ?_;replace ac:=(ac.gr bb).gr bc;replace aa:=(aa.grow bb).grow bc;replace ad:=ad.gr bc;refine Zo hm (fun hb hm=>go ?_) fun hb hm=>go ?_
     ·cases hm;exact ⟨rfl,rfl,aa.below⟩
     refine Wd (col:=ae) (by kernel_rfl) (by kernel_rfl)<|qF ⟨_,_,rfl⟩ ?_;refine qW (fun _ hC=>((ac.atN).nth (q:=4) rfl).gr (hC.bl ae)) ?_;refine go ?_;obtain ⟨ek,b2,hm⟩:=bZ hm;refine qI b2 ((ai.ks aa).addr b2) ?_;obtain ⟨_,c3,c4⟩:=(ai.ks aa).atN b2;obtain ⟨⟨el,em,rfl,en⟩,_⟩:=c3;refine qW (fun _ hC=>c4.one.gr (hC.bl ae)) ?_;refine go ?_;refine qI a3 (ad.addr a3)<|qW (fun _ hC=>(ad.gr (hC.bl ae)).atInt a3) ?_;refine go ?_;refine X7 ?_;intro eo hC;replace hC:=hC.bl ae;replace ad:=ad.gr hC;replace ac:=ac.gr hC;replace aa:=aa.grow hC;refine Zo hm (fun hb hm=>go ?_) fun hb hm=>go ?_
     ·cases hm;exact ⟨rfl,rfl,aa.below⟩
     exact ⟨a2,by omega,rfl,⟨_,_,_,rfl,hm,aa,ac,ad,rfl⟩⟩
    refine Zw [1,3,8,1000000] (fun n f bj=>∃ bk bm az,az=n∧Zak N ab ax az bm=some r∧St w0 (Zh col) bk bj∧Zm 27 1 bk bj av #[.string ab.1,.slice ao ab.2.1.length ak,.slice ap ab.2.2.1.length al,.slice aq ab.2.2.2.1.length am,.slice ar ab.2.2.2.2.length an]∧Zc (Za.int .i64) 3 2 bk bj bh bi ax∧[12].map f=[.int .i64 bm]) N ⟨_,0,_,rfl,hm,aa,ac,ad,rfl⟩ ?_;clear hm;intro n f bj hI;obtain ⟨bk,bm,az,hn,hm,aa,ac,ad,hs⟩:=hI;subst hn;refine .lL [12] hs ?_
    cases az with
    | zero=>rw [Zak.eq_1] at hm;cases hm
    | succ az=>
     rw [Zak.eq_2] at hm;refine go ?_;refine Zo hm (fun hb hm=>go ?_) fun hb hm=>go ?_
     ·refine Zw [1,12,3,8,1000000] (fun n f bd=>∃ a4 b3 a5,a5=n∧Ze5 N ab bm (Zak N ab ax az) a5 b3=some r∧St w0 (Zh col) a4 bd∧Zm 27 1 a4 bd av #[.string ab.1,.slice ao ab.2.1.length ak,.slice ap ab.2.2.1.length al,.slice aq ab.2.2.2.1.length am,.slice ar ab.2.2.2.2.length an]∧Zc (Za.int .i64) 3 2 a4 bd bh bi ax∧[13].map f=[.int .i64 b3]) N ⟨_,0,_,rfl,hm,aa,ac,ad,rfl⟩ ?_;clear hm;intro n f bd hI;obtain ⟨a4,b3,a5,hn,hm,aa,ac,ad,hs⟩:=hI;subst hn;refine .lL [13] hs ?_
      cases a5 with
      | zero=>rw [Ze5.eq_1] at hm;cases hm
      | succ a5=>
       rw [Ze5.eq_2] at hm;refine go ?_;refine Xa ac<|Xo rfl ?_;obtain ⟨ep,a6,hm⟩:=bZ hm;refine lI a6 ((ai.ks aa).addr a6) ?_;obtain ⟨_,c5,c6⟩:=(ai.ks aa).atN a6;obtain ⟨⟨eq,er,rfl,es⟩,_⟩:=c5;refine lW c6.one<|go ?_;refine Zo hm (fun hb hm=>go ?_) fun hb hm=>go ?_
       ·refine Xa ac<|Xo rfl<|lI a6 ((ai.ks aa).addr a6) ?_;obtain ⟨_,c7,c8⟩:=(ai.ks aa).atN a6;obtain ⟨⟨et,eu,rfl,cf⟩,_⟩:=c7;refine lW c8.one<|Xo rfl ?_;obtain ⟨b4,b5,hm⟩:=bZ hm;refine lI b5 (cf.addr b5) ?_;obtain ⟨_,c9,da⟩:=cf.atN b5;obtain ⟨_,_,rfl,db,dc⟩:=Yi c9;obtain ⟨_,_,rfl,dd,de⟩:=Yi db;obtain ⟨rfl,_⟩:=dd;obtain ⟨⟨df,dg,rfl,dh⟩,_⟩:=de;obtain ⟨⟨di,dj,rfl,dk⟩,_⟩:=dc;refine lV (.agg #[.bool b4.1.1,.slice df b4.1.2.length dg,.slice di b4.2.length dj]) (Yj isAgg47 sizeOf47 rfl rfl da) ?_;obtain ⟨ew,dl,hm⟩:=bZ hm;refine Zi (Z1k dl dh dk) ?_;rintro _ dm ⟨rfl,be⟩;refine ⟨_,rfl,?_⟩;replace be:Zg a4 bd a4 dm:=.of_below be;refine go ?_;replace ad:=ad.gr be;replace ac:=ac.gr be;replace aa:=aa.grow be;refine Zo hm (fun hb hm=>go ?_) fun hb hm=>go ?_
        ·cases hm;exact ⟨rfl,rfl,aa.below⟩
        exact ⟨a5,by omega,rfl,⟨_,_,_,rfl,hm,aa,ac,ad,rfl⟩⟩
       exact ⟨az,by omega,rfl,⟨_,_,_,rfl,hm,aa,ac,ad,rfl⟩⟩
     refine Zw [1,3,8,1000000] (fun n f bn=>∃ au b6 a7,a7=n∧Zbq N ab ax a7 b6=some r∧St w0 (Zh col) au bn∧Zm 27 1 au bn av #[.string ab.1,.slice ao ab.2.1.length ak,.slice ap ab.2.2.1.length al,.slice aq ab.2.2.2.1.length am,.slice ar ab.2.2.2.2.length an]∧Zc (Za.int .i64) 3 2 au bn bh bi ax∧[15].map f=[.int .i64 b6]) N ⟨_,0,_,rfl,hm,aa,ac,ad,rfl⟩ ?_;clear hm;intro n f bn hI;obtain ⟨au,b6,a7,hn,hm,aa,ac,ad,hs⟩:=hI;subst hn;refine .lL [15] hs ?_
     cases a7 with
     | zero=>rw [Zbq.eq_1] at hm;cases hm
     | succ a7=>
      rw [Zbq.eq_2] at hm;refine go ?_;refine Zo hm (fun hb hm=>go ?_) fun hb hm=>go ?_
      ·refine Wd (col:=au) (by kernel_rfl) (by kernel_rfl)<|qF ⟨_,_,rfl⟩ ?_;refine qW (fun _ hC=>((ac.atN).nth (q:=4) rfl).gr (hC.bl au)) ?_;refine go ?_;obtain ⟨ey,b7,hm⟩:=bZ hm;refine qI b7 ((ai.ks aa).addr b7) ?_;obtain ⟨_,dn,dp⟩:=(ai.ks aa).atN b7;obtain ⟨⟨ez,e0,rfl,dq⟩,_⟩:=dn;refine qW (fun _ hC=>dp.one.gr (hC.bl au)) ?_;refine go ?_;obtain ⟨e1,b8,hm⟩:=bZ hm;refine qI b8 (ad.addr b8)<|qW (fun _ hC=>(ad.gr (hC.bl au)).atInt b8) ?_;obtain ⟨dr,ds,hm⟩:=bZ hm;refine qc (v:=(.bool dr)) rfl (fun _ hC=>⟨_,_,Zbx call197 rfl rfl,(Z1n ds (dq.gr (hC.bl au)):).mono fun _ _ h=>⟨h.1,hC.trans (.of_below h.2)⟩⟩) ?_;refine go ?_;refine X7 ?_;intro e2 hC;replace hC:=hC.bl au;refine go ?_;replace ad:=ad.gr hC;replace ac:=ac.gr hC;replace aa:=aa.grow hC;refine Zo hm (fun hb hm=>go ?_) fun hb hm=>go ?_
       ·cases hm;exact ⟨rfl,rfl,aa.below⟩
       exact ⟨a7,by omega,rfl,⟨_,_,_,rfl,hm,aa,ac,ad,rfl⟩⟩
      cases hm;exact ⟨rfl,rfl,aa.below⟩
 refine Wk<|Xa ac ?_;refine go ?_;refine Xt hm (fun b9 hm=>go ?_) fun b9 hm=>go ?_
 ·refine lV (.bool true) (Xb (congrArg Value.bool b9) rfl)<|Y2 rfl<|lP 32 rfl rfl<|lP 32 rfl rfl<|lP 32 rfl rfl<|lP 32 rfl rfl<|lP 32 rfl rfl<|lV (.bool true) (Xb rfl rfl)<|Zk ?_;exact ⟨rfl,_,_,hm,aa,ac,rfl⟩
 refine Xd ⟨_,_,rfl⟩ ?_;refine go ?_;refine lW ((ac.atN).nth (q:=3) rfl)<|go ?_;refine lV (.bool (!decide ((ab.2.2.2.1.length:Int)=(ab.2.1.length:Int)))) (Xm (congrArg Value.bool b9) rfl)<|Y2 rfl ?_;refine Xt hm (fun ca hm=>go ?_) fun ca hm=>go ?_
 ·refine lV (.bool true) (Xb (congrArg Value.bool ca) rfl)<|Zk ?_;exact ⟨rfl,_,_,hm,aa,ac,rfl⟩
 refine Xd ⟨_,_,rfl⟩ ?_;refine go ?_;refine lW ((ac.atN).nth (q:=4) rfl)<|go ?_;refine lV (.bool (!decide ((ab.2.2.2.2.length:Int)=(ab.2.1.length:Int)))) (Xm (congrArg Value.bool ca) rfl)<|Zk ?_;exact ⟨rfl,_,_,hm,aa,ac,rfl⟩
abbrev Xe:=ByteArray×List ByteArray×List R7×List R2×List (List QV)
instance decMemB:∀ (s:ByteArray) (l:List ByteArray),Decidable (s ∈ l)
 | _,[]=>isFalse (by simp)
 | s,x :: l=>if h:s=x then isTrue (by rw [h];exact List.mem_cons_self) else match decMemB s l with
  | isTrue h2=>isTrue (List.mem_cons_of_mem _ h2)
  | isFalse h2=>isFalse (by rw [List.mem_cons];rintro (h3 | h3) <;> contradiction)
theorem Zvk {α:Type} (l:List α) (k:Nat) (hk:k<l.length):(l.take (k+1)).Nodup↔(l.take k).Nodup∧l[k] ∉ l.take k:=by
 rw [List.take_add_one,List.getElem?_eq_getElem hk,Option.toList_some,List.nodup_append]
 constructor
 ·rintro ⟨h1,_,h3⟩
  exact ⟨h1,fun hm=>h3 _ hm _ (by simp) rfl⟩
 ·rintro ⟨h1,h2⟩
  refine ⟨h1,by simp,fun a ha b hb e=>?_⟩
  rw [List.mem_singleton] at hb
  subst hb;subst e
  exact h2 ha
theorem Zs2 (N:Nat) (l:List ByteArray) (hl:l.length<4611686018427387904) (v:Nat) (hv:v<l.length):∀ (n k:Nat),k≤v→v<n+k→l[v] ∉ l.take k→∃ j:Nat,Ze7 N l l[v] n (k:Int)=some (j:Int)∧j≤v∧(j<v↔l[v] ∈ l.take v)
 | 0,k,h1,h2,_=>by omega
 | n+1,k,h1,h2,h3=>by
  have hk:k<l.length:=by omega
  rw [Ze7.eq_2,if_pos (dT (by omega)),Zy hk,oB]
  by_cases he:l[k]=l[v]
  ·rw [if_pos (dT he)]
   refine ⟨k,rfl,h1,fun h=>?_,fun h=>?_⟩
   ·rw [← he]
    exact List.mem_iff_getElem.2 ⟨k,by rw [nK];omega,by rw [List.getElem_take]⟩
   ·rcases Nat.lt_or_ge k v with h4 | h4
    ·exact h4
    ·have:k=v:=by omega
     subst this;exact absurd h h3
  ·have hkv:k<v:=by
    rcases Nat.lt_or_ge k v with h4 | h4
    ·exact h4
    ·have:k=v:=by omega
     subst this;exact absurd rfl he
   rw [if_neg (dF he),Zr (by omega)]
   have:=Zs2 N l hl v hv n (k+1) (by omega) (by omega) (by
    rw [List.take_add_one,List.getElem?_eq_getElem hk,Option.toList_some,List.mem_append,List.mem_singleton]
    rintro (h | h)
    ·exact h3 h
    ·exact he h.symm)
   exact this
theorem Zs3 {N:Nat} {l:List ByteArray} (hl:l.length<4611686018427387904) {v:Nat} (hv:v<l.length) (hN:l.length<N):∃ j:Nat,Zke N l l[v]=some (j:Int)∧(j<v↔l[v] ∈ l.take v):=by
 obtain ⟨j,h1,_,h2⟩:=Zs2 N l hl v hv N 0 (by omega) (by omega) (by simp)
 exact ⟨j,h1,h2⟩
theorem Ztw (s:ByteArray):∀ (l:List ByteArray) (k:Nat),∃ j:Int,Zfz s l k=some j∧(0≤j↔s ∈ l)
 | [],k=>⟨-1,rfl,by simp⟩
 | x :: l,k=>by
  rw [Zfz.eq_2]
  by_cases h:s=x
  ·rw [if_pos (dT h)];exact ⟨_,rfl,by simp [h]⟩
  ·rw [if_neg (dF h)]
   obtain ⟨j,h1,h2⟩:=Ztw s l (k+1)
   exact ⟨j,h1,by rw [h2,List.mem_cons];simp [h]⟩
theorem Z2p (s:ByteArray) (l:List ByteArray):Zkn l s=some (decide (s ∈ l)):=by
 obtain ⟨j,h1,h2⟩:=Ztw s l 0
 rw [Zkn,Zm3,h1,oB]
 congr 1
 exact decide_eq_decide.2 h2
theorem Zva:∀ (l:List ByteArray) (seen:List (ByteArray×Int)) (S:List ByteArray),S.Nodup→(∀ k,Wq seen k=if k ∈ S then some 1 else none)→Zcm l seen=some (!decide (S++l).Nodup)
 | [],seen,S,h1,h2=>by rw [Zcm.eq_1,List.append_nil,decide_eq_true h1];rfl
 | x :: l,seen,S,h1,h2=>by
  rw [Zcm.eq_2,h2 x]
  by_cases hx:x ∈ S
  ·rw [if_pos hx,if_pos (by decide),decide_eq_false]
   ·rfl
   intro h
   exact (List.nodup_append.1 h).2.2 x hx x List.mem_cons_self rfl
  ·rw [if_neg hx,if_neg (by decide),oB,Zva l _ (S++[x]) (by
    rw [List.nodup_append]
    refine ⟨h1,by simp,fun a ha b hb e=>?_⟩
    rw [List.mem_singleton] at hb;subst hb;subst e;exact hx ha) (fun k=>by
    rw [Zu3,h2 k]
    by_cases hk:k=x
    ·subst hk;rw [if_pos rfl,if_pos (by simp)]
    ·rw [if_neg hk]
     by_cases hs:k ∈ S
     ·rw [if_pos hs,if_pos (by simp [hs])]
     ·rw [if_neg hs,if_neg (by simp [hs,hk])])]
   rw [List.append_assoc];rfl
theorem Z4z (l:List ByteArray):Zjq l=some (!decide l.Nodup):=by
 rw [Zjq,Zva l [] [] .nil (fun k=>by simp [Wq]),List.nil_append]
def Tl (names:List ByteArray) (vals:List R7):Nat→Nat→Int
 | 0,_=>0
 | m+1,v=>if names.getD v ⟨#[]⟩ ∈ names.take v∨¬ (vals.getD v []).Nodup then 40 else if vals.getD v []=[] then 43 else Tl names vals m (v+1)
theorem Zvf (n:Xe) (hl:n.2.2.1.length=n.2.1.length):∀ (l:List ByteArray) (k:Nat),n.2.1.drop k=l→k≤n.2.1.length→Zbb n l k=some (Tl n.2.1 n.2.2.1 l.length k)
 | [],k,_,_=>rfl
 | x :: l,k,hd,hk=>by
  have hk1:k<n.2.1.length:=by
   rcases Nat.lt_or_ge k n.2.1.length with h | h
   ·exact h
   ·rw [List.drop_eq_nil_of_le h] at hd;cases hd
  have hd2:=List.drop_eq_getElem_cons hk1
  rw [hd] at hd2
  obtain ⟨hx,hl2⟩:=List.cons.inj hd2
  rw [Zbb.eq_2,Zz (by omega),Int.toNat_natCast,Z2p,oB,nC,Tl,Yb hk1,← hx,Yb (by omega)]
  by_cases h1:x ∈ n.2.1.take k
  ·rw [if_pos (dT h1),Zg9,if_pos rfl,if_pos (.inl h1)]
  ·rw [if_neg (dF h1),Zy (by omega),oB,Z4z,oB,Zg9]
   by_cases h2:(n.2.2.1[k]'(by omega)).Nodup
   ·rw [decide_eq_true h2,if_neg (by decide),if_neg (by simp [h1,h2]),Zy (by omega),oB]
    by_cases h3:n.2.2.1[k]'(by omega)=[]
    ·rw [if_pos (by rw [h3];decide),if_pos h3]
    ·rw [if_neg (by simpa using h3),if_neg h3]
     exact Zvf n hl l (k+1) hl2.symm (by omega)
   ·rw [decide_eq_false h2,if_pos (by decide),if_pos (.inr h2)]
theorem Zvg (n:Xe) (hl:n.2.2.1.length=n.2.1.length):Zeb n=some (Tl n.2.1 n.2.2.1 n.2.1.length 0):=by
 rw [Zeb];exact Zvf n hl n.2.1 0 (by simp) (by omega)
theorem Zqd (N:Nat) (n:Xe) (v:Nat) (hv:v<n.2.2.1.length) (hb:n.2.2.1[v].length≤1048576) (hN:1048577<N) (hvb:v<4611686018427387904) (kk:Int→Option Int) (A:Prop) [Decidable A]:∀ (m i:Nat) (a:Bool),i≤n.2.2.1[v].length→n.2.2.1[v].length<m+i→(a=true→A∨¬ (n.2.2.1[v]).Nodup)→(a=false→¬ A∧((n.2.2.1[v]).take i).Nodup)→
  Zbo N n (v:Int) kk m a (i:Int)=if A∨¬ (n.2.2.1[v]).Nodup then some 40 else if n.2.2.1[v]=[] then some 43 else kk ((v:Int)+1)
 | 0,i,a,h1,h2,_,_=>by omega
 | m+1,i,a,h1,h2,h3,h4=>by
  rw [Zbo.eq_2,Zy hv,oB]
  by_cases hi:i<n.2.2.1[v].length
  ·rw [if_pos (dT (by omega))]
   cases a with
   | true=>
    rw [if_pos rfl,Zh9,Zr (by omega)]
    exact Zqd N n v hv hb hN hvb kk A m (i+1) true (by omega) (by omega) h3 (fun h=>by cases h)
   | false=>
    obtain ⟨j,j1,j2⟩:=Zs3 (N:=N) (l:=n.2.2.1[v]) (by omega) hi (by omega)
    have st:=Zvk n.2.2.1[v] i hi
    have h5:=h4 rfl
    rw [if_neg (by decide),Zy hi,oB,j1,oB,Zh9,Zr (by omega)]
    have:=Zqd N n v hv hb hN hvb kk A m (i+1) (decide ((j:Int)<(i:Int))) (by omega) (by omega) (fun h=>.inr fun hn=>by
     have h6:=of_decide_eq_true h
     have h7:=(hn.sublist (List.take_sublist (i+1) _))
     exact (st.1 h7).2 (j2.1 (by omega))) (fun h=>⟨h5.1,st.2 ⟨h5.2,fun hm=>by
     have h6:=of_decide_eq_false h
     have:=j2.2 hm
     omega⟩⟩)
    exact this
  ·have hil:i=n.2.2.1[v].length:=by omega
   rw [if_neg (dF (by omega))]
   cases a with
   | true=>rw [if_pos rfl,if_pos (h3 rfl)]
   | false=>
    obtain ⟨h5,h6⟩:=h4 rfl
    rw [hil,List.take_length] at h6
    have hA:¬ (A∨¬ (n.2.2.1[v]).Nodup):=fun h=>h.elim h5 (fun h=>h h6)
    rw [if_neg (by decide),if_neg hA,Zr (by omega)]
    by_cases h7:n.2.2.1[v]=[]
    ·rw [if_pos (by rw [h7];decide),if_pos h7]
    ·rw [if_neg (by simpa using h7),if_neg h7]
theorem Zx8 (N:Nat) (n:Xe) (hl:n.2.2.1.length=n.2.1.length) (hn:n.2.1.length≤1048576) (hb:∀ l ∈ n.2.2.1,l.length≤1048576) (hN:1048577<N):∀ (m fuel v:Nat),m+v=n.2.1.length→m<fuel→
  Sq N n fuel (v:Int)=if Tl n.2.1 n.2.2.1 m v=0 then Sq N n (fuel - m) (n.2.1.length:Int) else some (Tl n.2.1 n.2.2.1 m v)
 | 0,fuel,v,h1,_=>by
  have:v=n.2.1.length:=by omega
  rw [Tl,if_pos rfl,this,Nat.sub_zero]
 | m+1,0,v,h1,h2=>by omega
 | m+1,fuel+1,v,h1,h2=>by
  have hv:v<n.2.1.length:=by omega
  have hv2:v<n.2.2.1.length:=by omega
  obtain ⟨j,j1,j2⟩:=Zs3 (N:=N) (l:=n.2.1) (by omega) hv (by omega)
  rw [Sq.eq_2,if_pos (dT (by omega)),Zy hv,oB,j1,oB,Tl,Yb hv,Yb hv2,show (0:Int)=((0:Nat):Int) from rfl,
   Zqd N n v hv2 (hb _ (List.getElem_mem hv2)) hN (by omega) (Sq N n fuel) (n.2.1[v] ∈ n.2.1.take v) N 0 _ (by omega) (by have:=hb _ (List.getElem_mem hv2);omega) (fun h=>.inl (j2.1 (by have:=of_decide_eq_true h;omega))) (fun h=>⟨fun hm=>by have:=of_decide_eq_false h;have:=j2.2 hm;omega,by simp⟩)]
  by_cases h3:n.2.1[v] ∈ n.2.1.take v∨¬ (n.2.2.1[v]).Nodup
  ·rw [if_pos h3,if_pos h3,if_neg (by decide)]
  ·rw [if_neg h3,if_neg h3]
   by_cases h4:n.2.2.1[v]=[]
   ·rw [if_pos h4,if_pos h4,if_neg (by decide)]
   ·rw [if_neg h4,if_neg h4]
    have ih:=Zx8 N n hl hn hb hN m fuel (v+1) (by omega) (by omega)
    rw [show ((v+1:Nat):Int)=(v:Int)+1 by omega] at ih
    rw [ih,show fuel+1 - (m+1)=fuel - m by omega]
    rfl
theorem Zvi {names:List ByteArray} {vals:List R7}:∀ (m v:Nat),Tl names vals m v=0→∀ i,v≤i→i<v+m→vals.getD i []≠[]∧(vals.getD i []).Nodup∧names.getD i ⟨#[]⟩ ∉ names.take i
 | 0,v,_,i,h1,h2=>by omega
 | m+1,v,h,i,h1,h2=>by
  rw [Tl] at h
  by_cases h3:names.getD v ⟨#[]⟩ ∈ names.take v∨¬ (vals.getD v []).Nodup
  ·rw [if_pos h3] at h;cases h
  ·rw [if_neg h3] at h
   by_cases h4:vals.getD v []=[]
   ·rw [if_pos h4] at h;cases h
   ·rw [if_neg h4] at h
    rcases Nat.lt_or_ge v i with h5 | h5
    ·exact Zvi m (v+1) h i (by omega) (by omega)
    ·have:i=v:=by omega
     subst this
     exact ⟨h4,by simpa using (not_or.1 h3).2,(not_or.1 h3).1⟩
def Ys (vals:List R7):List Int→Nat→Nat
 | [],k=>k
 | p :: ps,k=>Ys vals ps (min (k * (vals.getD p.toNat []).length) 1099511627776)
theorem Zqf (vals:List R7):∀ (ps:List Int) (k:Nat),k≤1099511627776→Ys vals ps k≤1099511627776
 | [],k,h=>h
 | p :: ps,k,h=>Zqf vals ps _ (by omega)
theorem Zm8 {a b:Nat} (h:a≤1099511627776) (g:b≤1048576):a * b≤1152921504606846976:=by
 have:=Nat.mul_le_mul h g
 simpa using this
theorem Zu9 (n:Xe) (hb:∀ l ∈ n.2.2.1,l.length≤1048576):∀ (ps:List Int) (k:Nat),k≤1099511627776→(∀ p ∈ ps,0≤p∧p<(n.2.2.1.length:Int))→Zed n ps (k:Int)=some (Ys n.2.2.1 ps k:Int)
 | [],k,_,_=>rfl
 | p :: ps,k,hk,hp=>by
  have h1:=hp p List.mem_cons_self
  have h2:p.toNat<n.2.2.1.length:=by omega
  have h3:=hb _ (List.getElem_mem h2)
  have h4:=Zm8 hk h3
  rw [Zed.eq_2,show p=((p.toNat:Nat):Int) by omega,Zy h2,oB,Ys,Int.toNat_natCast,Yb h2,← Int.natCast_mul,Zr (by omega)]
  have ih:=Zu9 n hb ps (min (k * n.2.2.1[p.toNat].length) 1099511627776) (by omega) (fun q hq=>hp q (List.mem_cons_of_mem _ hq))
  rw [← ih]
  congr 1
  by_cases h5:1099511627776<k * n.2.2.1[p.toNat].length
  ·rw [if_pos (by omega),Nat.min_eq_right (by omega)];rfl
  ·rw [if_neg (by omega),Nat.min_eq_left (by omega)]
theorem Zy2 (N:Nat) (n:Xe) (hl:n.2.2.1.length≤1048576):∀ (m i:Nat) (out:List Int),i≤n.2.2.1.length→n.2.2.1.length<m+i→out=(n.2.2.1.take i).map (fun l=>(l.length:Int))→Ze9 N n m out (i:Int)=some (n.2.2.1.map fun l=>(l.length:Int))
 | 0,i,out,h1,h2,_=>by omega
 | m+1,i,out,h1,h2,h3=>by
  rw [Ze9.eq_2]
  have lo:out.length=i:=by rw [h3,List.length_map,nK];omega
  by_cases hi:i<n.2.2.1.length
  ·rw [if_pos (dT (by omega)),Zy hi,oB,Zz (by simp only [List.length_singleton,maxLen];omega),Zr (by omega)]
   exact Zy2 N n hl m (i+1) _ (by omega) (by omega) (by rw [h3,List.take_add_one,List.getElem?_eq_getElem hi,Option.toList_some,List.map_append];rfl)
  ·rw [if_neg (dF (by omega)),h3,List.take_of_length_le (by omega)]
theorem Z6r {N:Nat} {n:Xe} (hl:n.2.2.1.length≤1048576) (hN:1048576<N):Ze8 N n=some (n.2.2.1.map fun l=>(l.length:Int)):=by
 rw [Ze8]
 exact Zy2 N n hl N 0 [] (by omega) (by omega) (by simp)
theorem Znx {vals:List R7} {i:Nat} (h:i<vals.length):Zj (vals.map fun l=>(l.length:Int)) (i:Int)=some (vals[i].length:Int):=by
 rw [Zy (by rw [List.length_map];exact h),List.getElem_map]
theorem Zov (N:Nat) (ps:List Int) (vals:List R7) (hb:∀ l ∈ vals,l.length≤1048576) (hne:∀ l ∈ vals,l≠[]) (hp:∀ p ∈ ps,0≤p∧p<(vals.length:Int)) (hps:ps.length≤1048576):∀ (m i k:Nat),i≤ps.length→ps.length<m+i→k≤1099511627776→
  Zbr N ps (vals.map fun l=>(l.length:Int)) m (k:Int) (i:Int)=some (Ys vals (ps.drop i) k:Int)
 | 0,i,k,h1,h2,_=>by omega
 | m+1,i,k,h1,h2,h3=>by
  rw [Zbr.eq_2]
  by_cases hi:i<ps.length
  ·have h4:=hp _ (List.getElem_mem hi)
   have h5:(ps[i]).toNat<vals.length:=by omega
   have h6:=hb _ (List.getElem_mem h5)
   have h7:0<vals[(ps[i]).toNat].length:=List.length_pos_iff.2 (hne _ (List.getElem_mem h5))
   have h8:=Zm8 h3 h6
   rw [if_pos (dT (by omega)),Zy hi,oB]
   conv=>lhs;rw [show ps[i]=(((ps[i]).toNat:Nat):Int) by omega]
   rw [Znx h5,oB,Zz (by omega),List.drop_eq_getElem_cons hi,Ys,Yb h5]
   have e:i64.wrap (Int.tdiv 1099511627776 (vals[(ps[i]).toNat].length:Int))=((1099511627776 / vals[(ps[i]).toNat].length:Nat):Int):=by
    rw [Int.tdiv_eq_ediv_of_nonneg (by decide),show (1099511627776:Int)=((1099511627776:Nat):Int) from rfl,← Int.natCast_ediv]
    refine Zr ⟨by have:=Int.natCast_nonneg (1099511627776 / vals[(ps[i]).toNat].length);omega,?_⟩
    have:=Nat.div_le_self 1099511627776 vals[(ps[i]).toNat].length
    omega
   rw [e]
   have cmp:1099511627776 / vals[(ps[i]).toNat].length<k↔1099511627776<k * vals[(ps[i]).toNat].length:=Nat.div_lt_iff_lt_mul h7
   by_cases h9:1099511627776<k * vals[(ps[i]).toNat].length
   ·rw [if_pos (dT (Int.ofNat_lt.2 (cmp.2 h9))),Zia,Zr (by omega),Nat.min_eq_right (by omega)]
    exact Zov N ps vals hb hne hp hps m (i+1) 1099511627776 (by omega) (by omega) (by omega)
   ·rw [if_neg (by rw [decide_eq_false (fun h=>h9 (cmp.1 (Int.ofNat_lt.1 h)))];decide),Zia,← Int.natCast_mul,Zr (by omega),Zr (by omega),Nat.min_eq_left (by omega)]
    exact Zov N ps vals hb hne hp hps m (i+1) _ (by omega) (by omega) (by omega)
  ·rw [if_neg (dF (by omega)),List.drop_eq_nil_of_le (by omega),Ys]
theorem Zr8 (N:Nat) (ps:List Int) (vals:List R7) (hb:∀ l ∈ vals,l.length≤1048576) (hne:∀ l ∈ vals,l≠[]) (hp:∀ p ∈ ps,0≤p∧p<(vals.length:Int)) (hps:ps.length≤1048576) (hN:1048577<N):∀ (m i:Nat),i≤ps.length→ps.length<m+i→
  Ze6 N ps (vals.map fun l=>(l.length:Int)) m (i:Int)=some (Ys vals ps 1:Int)
 | 0,i,h1,h2=>by omega
 | m+1,i,h1,h2=>by
  rw [Ze6.eq_2]
  by_cases hi:i<ps.length
  ·have h4:=hp _ (List.getElem_mem hi)
   have h5:(ps[i]).toNat<vals.length:=by omega
   have h7:0<vals[(ps[i]).toNat].length:=List.length_pos_iff.2 (hne _ (List.getElem_mem h5))
   rw [if_pos (dT (by omega)),Zy hi,oB]
   conv=>lhs;rw [show ps[i]=(((ps[i]).toNat:Nat):Int) by omega]
   rw [Znx h5,oB,if_neg (dF (by omega)),Zr (by omega)]
   exact Zr8 N ps vals hb hne hp hps hN m (i+1) (by omega) (by omega)
  ·rw [if_neg (dF (by omega))]
   exact Zov N ps vals hb hne hp hps N 0 1 (by omega) (by omega) (by omega)
theorem Z2l {N:Nat} {ps:List Int} {vals:List R7} (hb:∀ l ∈ vals,l.length≤1048576) (hne:∀ l ∈ vals,l≠[]) (hp:∀ p ∈ ps,0≤p∧p<(vals.length:Int)) (hps:ps.length≤1048576) (hN:1048577<N):Zkd N ps (vals.map fun l=>(l.length:Int))=some (Ys vals ps 1:Int):=by
 rw [Zkd]
 exact Zr8 N ps vals hb hne hp hps hN N 0 (by omega) (by omega)
theorem Z5f {r c:Nat} (hc:0<c):Zkf (r:Int) (c:Int)=some (decide (65536<r * c)):=by
 have e:i64.wrap (Int.tdiv 65536 (c:Int))=((65536 / c:Nat):Int):=by
  rw [Int.tdiv_eq_ediv_of_nonneg (by decide),show (65536:Int)=((65536:Nat):Int) from rfl,← Int.natCast_ediv]
  refine Zr ⟨by have:=Int.natCast_nonneg (65536 / c);omega,?_⟩
  have:=Nat.div_le_self 65536 c
  omega
 rw [Zkf,if_pos (dT (by omega)),Zz (by omega),e,Zkg]
 congr 1
 refine decide_eq_decide.2 ?_
 rw [Int.ofNat_lt]
 exact Nat.div_lt_iff_lt_mul hc
def Uo (vals:List R7) (P:List R2) (T:List (List QV)):Nat→Nat→Int
 | 0,_=>0
 | m+1,v=>if 65536<Ys vals (P.getD v []) 1 * (vals.getD v []).length then 4 else if Ys vals (P.getD v []) 1 * (vals.getD v []).length≠(T.getD v []).length then 60 else Uo vals P T m (v+1)
structure W4 (n:Xe) (W:Nat):Prop where
 nm:n.2.1.length≤1048575
 vl:∀ l ∈ n.2.2.1,l.length≤1048576
 pn:Zld n.2.2.2.1
 tl:∀ t ∈ n.2.2.2.2,t.length≤1048576
 tq:∀ t ∈ n.2.2.2.2,Xz t≤W
 lim:∀ t ∈ n.2.2.2.2,∀ x ∈ t,Wy x
structure Td (n:Xe):Prop where
 v:n.2.2.1.length=n.2.1.length
 p:n.2.2.2.1.length=n.2.1.length
 t:n.2.2.2.2.length=n.2.1.length
 i:Ul n.2.2.2.1.length n.2.2.2.1=true
 ne:∀ l ∈ n.2.2.1,l≠[]
theorem Td.par {n:Xe} (h:Td n) {ps:List Int} (hp:ps ∈ n.2.2.2.1):∀ p ∈ ps,0≤p∧p<(n.2.2.1.length:Int):=by
 have:=Ztx h.i ps hp
 rw [h.p] at this
 rw [h.v];exact this
theorem Zpl {N W:Nat} {n:Xe} (hs:W4 n W) (he:Td n):∀ (l:List (List QV)) (k:Nat),n.2.2.2.2.drop k=l→k≤n.2.1.length→Za9 N n l k=if Uo n.2.2.1 n.2.2.2.1 n.2.2.2.2 l.length k=0 then Zba N n n.2.2.2.2 else some (Uo n.2.2.1 n.2.2.2.1 n.2.2.2.2 l.length k)
 | [],k,_,_=>by rw [Za9.eq_1];rfl
 | t :: l,k,hd,hk=>by
  have ht:=he.t;have hv:=he.v;have hp:=he.p
  have hk1:k<n.2.2.2.2.length:=by
   rcases Nat.lt_or_ge k n.2.2.2.2.length with h | h
   ·exact h
   ·rw [List.drop_eq_nil_of_le h] at hd;cases hd
  have hd2:=List.drop_eq_getElem_cons hk1
  rw [hd] at hd2
  obtain ⟨hx,hl2⟩:=List.cons.inj hd2
  have kv:k<n.2.2.1.length:=by omega
  have kp:k<n.2.2.2.1.length:=by omega
  have r1:=Zqf n.2.2.1 (n.2.2.2.1[k]) 1 (by omega)
  have c1:=hs.vl _ (List.getElem_mem kv)
  have r2:=Zm8 r1 c1
  have hrow:Zhc n (k:Int)=some (Ys n.2.2.1 n.2.2.2.1[k] 1:Int):=by
   rw [Zhc,Zy kp,oB]
   exact Zu9 n hs.vl _ 1 (by omega) (he.par (List.getElem_mem kp))
  rw [Za9.eq_2]
  have hrow':Zhc (n.1,n.2.1,n.2.2.1,n.2.2.2.1,n.2.2.2.2) (k:Int)=some (Ys n.2.2.1 n.2.2.2.1[k] 1:Int):=hrow
  rw [hrow',oB,Zy kv,oB,← Int.natCast_mul,Zr (by omega),nC,Uo,Yb kp,Yb kv,Yb hk1,← hx]
  generalize Ys n.2.2.1 n.2.2.2.1[k] 1 * n.2.2.1[k].length=rc at *
  by_cases h1:65536<rc
  ·rw [if_pos (dT (by omega)),if_pos h1,if_neg (by decide)]
  ·rw [if_neg (dF (by omega)),if_neg h1]
   by_cases h2:rc=t.length
   ·rw [if_neg (by rw [decide_eq_true (by omega)];decide),if_neg (show ¬ rc≠t.length from fun h=>h h2)]
    exact Zpl hs he l (k+1) hl2.symm (by omega)
   ·rw [if_pos (by rw [decide_eq_false (by omega)];decide),if_pos h2,if_neg (by decide)]
theorem Zyk {N W:Nat} {n:Xe} (hN:1048577<N) (hs:W4 n W) (he:Td n):∀ (m fuel v:Nat),m+v=n.2.1.length→m<fuel→
  Zbp N n (n.2.2.1.map fun l=>(l.length:Int)) fuel (v:Int)=if Uo n.2.2.1 n.2.2.2.1 n.2.2.2.2 m v=0 then Zak N n (n.2.2.1.map fun l=>(l.length:Int)) N 0 else some (Uo n.2.2.1 n.2.2.2.1 n.2.2.2.2 m v)
 | 0,0,v,_,h=>by omega
 | 0,fuel+1,v,h1,_=>by
  rw [Zbp.eq_2,if_neg (dF (by omega))];rfl
 | m+1,0,v,_,h=>by omega
 | m+1,fuel+1,v,h1,h2=>by
  have ht:=he.t;have hv:=he.v;have hp:=he.p;have hnm:=hs.nm
  have kt:v<n.2.2.2.2.length:=by omega
  have kv:v<n.2.2.1.length:=by omega
  have kp:v<n.2.2.2.1.length:=by omega
  have r1:=Zqf n.2.2.1 (n.2.2.2.1[v]) 1 (by omega)
  have c1:=hs.vl _ (List.getElem_mem kv)
  have c0:0<n.2.2.1[v].length:=List.length_pos_iff.2 (he.ne _ (List.getElem_mem kv))
  have r2:=Zm8 r1 c1
  rw [Zbp.eq_2,if_pos (dT (by omega)),Zy kp,oB,Z2l hs.vl he.ne (he.par (List.getElem_mem kp)) (hs.pn.ls _ (List.getElem_mem kp)) hN,oB,Znx kv,oB,Z5f c0,oB,Uo,Yb kp,Yb kv,Yb kt,← Int.natCast_mul,Zr (by omega)]
  generalize Ys n.2.2.1 n.2.2.2.1[v] 1 * n.2.2.1[v].length=rc at *
  by_cases h3:65536<rc
  ·rw [if_pos (dT (by omega)),if_pos h3,if_neg (by decide)]
  ·rw [if_neg (dF (by omega)),if_neg h3,Zy kt,oB]
   by_cases h4:rc=n.2.2.2.2[v].length
   ·rw [if_neg (by rw [decide_eq_true (by omega)];decide),if_neg (show ¬ rc≠n.2.2.2.2[v].length from fun h=>h h4),Zr (by omega)]
    exact Zyk hN hs he m fuel (v+1) (by omega) (by omega)
   ·rw [if_pos (by rw [decide_eq_false (by omega)];decide),if_pos h4,if_neg (by decide)]
def Ww (x:QV):Bool:=decide (Z5 x<0)||decide (1<Z5 x)
theorem Zwh {a b:Rat}:0<Qx a b↔b<a:=by
 rw [Qx]
 by_cases h:a<b
 ·rw [if_pos h]
  constructor
  ·intro h2;omega
  ·intro h2;exact absurd (Rat.le_of_lt h2) (Rat.not_le.2 h)
 ·rw [if_neg h]
  by_cases h2:b<a
  ·simp [h2]
  ·simp [h2]
theorem Znh {a b:Rat}:Qx a b=0↔a=b:=by
 rw [Qx]
 constructor
 ·intro h
  split at h
  ·cases h
  ·split at h
   ·cases h
   ·rename_i h1 h2
    exact Rat.le_antisymm (Rat.not_lt.1 h2) (Rat.not_lt.1 h1)
 ·rintro rfl
  rw [if_neg Rat.lt_irrefl,if_neg Rat.lt_irrefl]
theorem Zpk {N:Nat} (hr:Xh N 8):Zec N=some (Zs 1):=by
 rw [Zec,Z3u (by omega) (by omega) (hr.mono (by omega)),oB,if_neg (by decide)]
 have:((1:Int):Rat) / ((1:Int):Rat)=1:=div_one _
 rw [this]
theorem Zye {N:Nat} (hr:Xh N 8):Zib N=some (Zs 1):=by
 rw [Zib,Zy4 hr];rfl
theorem Znu:RV 1 (Zs 1):=T4 (by rw [Zp0];omega)
theorem Z4y {N k:Nat} {x:QV} (hx:RV k x) (hr:Xh N (2 * k+16)):Zha N x=some (Ww x):=by
 have h2:Zdy N ((x.1.1,x.1.2),x.2)=some (Zau (Z5 x)):=Ztq hx (hr.mono (by omega))
 rw [Zha,h2,oB,Ww]
 by_cases h:Z5 x<0
 ·rw [if_pos (dT (Znj.2 h)),Zhb,decide_eq_true h,Bool.true_or]
 ·rw [if_neg (dF (fun h3=>h (Znj.1 h3))),decide_eq_false h,Bool.false_or,Zpk (hr.mono (by omega)),oB,Zs1 (a:=((x.1.1,x.1.2),x.2)) (b:=Zs 1) hx Znu (hr.mono (by omega)),oB,Zhb,V4]
  congr 1
  exact decide_eq_decide.2 Zwh
theorem Z6j {N k:Nat} {x:QV} (hx:RV k x) (hr:Xh N (2 * k+16)):Zic N x=some (Ww x):=by
 have h2:Zez N ((x.1.1,x.1.2),x.2)=some (Zau (Z5 x)):=Zxv hx (hr.mono (by omega))
 rw [Zic,h2,oB,Ww]
 by_cases h:Z5 x<0
 ·rw [if_pos (dT (Znj.2 h)),Zid,decide_eq_true h,Bool.true_or]
 ·rw [if_neg (dF (fun h3=>h (Znj.1 h3))),decide_eq_false h,Bool.false_or,Zye (hr.mono (by omega)),oB,Zxs (a:=((x.1.1,x.1.2),x.2)) (b:=Zs 1) hx Znu (hr.mono (by omega)),oB,Zid,V4]
  congr 1
  exact decide_eq_decide.2 Zwh
def Wt (x:QV):QV:=if Zb x.2=0 then (x.1,[1]) else x
theorem Zs4 {x:QV} (h:Wy x):Wy (Wt x):=by
 rw [Wt];split
 ·exact ⟨h.1,.cons (by decide) .nil⟩
 ·exact h
theorem Zo4 (x:QV):Z5 (Wt x)=Z5 x:=by
 rw [Wt];split
 ·rename_i h
  rw [Z5,Z5]
  show mkRat (Zt x.1) (Xw [1])=mkRat (Zt x.1) (Xw x.2)
  rw [Xw,Xw,if_pos h]
  congr 1
 ·rfl
theorem Z3q (x:QV):Ww (Wt x)=Ww x:=by rw [Ww,Ww,Zo4]
theorem Z3p (x:QV):max (Wt x).1.2.length (Wt x).2.length≤max x.1.2.length x.2.length+1:=by
 rw [Wt];split
 ·show max x.1.2.length [(1:Int)].length≤_
  simp only [List.length_singleton];omega
 ·omega
theorem Zpy:∀ l:List QV,2 * l.length≤Xz l
 | []=>by simp [Xz]
 | a :: l=>by rw [Xz,nC];have:=Zpy l;omega
theorem Zpx:∀ l:List QV,Xz (l.map Wt)≤Xz l+l.length
 | []=>by simp [Xz]
 | a :: l=>by
  rw [List.map_cons,Xz,Xz,nC]
  have:=Zpx l;have:=Z3p a;omega
theorem Zwi (a b:List QV):Xz (a++b)=Xz a+Xz b:=by
 induction a with
 | nil=>simp [Xz]
 | cons x a ih=>rw [List.cons_append,Xz,Xz,ih];omega
theorem Zwm (l:List QV) (k:Nat):Xz (l.take k)≤Xz l:=by
 have:=Zwi (l.take k) (l.drop k)
 rw [List.take_append_drop] at this;omega
theorem Zwj (l:List QV) (k:Nat):Xz (l.drop k)≤Xz l:=by
 have:=Zwi (l.take k) (l.drop k)
 rw [List.take_append_drop] at this;omega
theorem Zwl {l:List QV} {x:QV} (h:x ∈ l):max x.1.2.length x.2.length≤Xz l:=by
 induction l with
 | nil=>simp at h
 | cons y l ih=>
  rw [Xz]
  rcases List.mem_cons.1 h with rfl | h
  ·omega
  ·have:=ih h;omega
theorem Zs9 {N k:Nat} {x:QV} (h:Wy x) (hk:max x.1.2.length x.2.length≤k) (hr:Xh N k):Zck N x=some (Wt x):=by
 obtain ⟨r1,r2⟩:=hr
 rw [Zck,Zpo h.2 (by omega) (by omega),oB,Wt]
 by_cases h0:Zb x.2=0
 ·rw [h0,W2,if_pos (by decide),if_pos rfl,Zkw (by decide) (by omega),oB,Zg7,show (1:Int).toNat=1 from rfl,Sg]
 ·have:=Tu h0
  rw [if_neg (dF (by omega)),if_neg h0,Zg7]
theorem Zta {N W:Nat} (hr:Xh N W):∀ (l out:List QV),(∀ x ∈ l,Wy x)→Xz l≤W→out.length+l.length≤1048576→Zcl N l out=some (out++l.map Wt)
 | [],out,_,_,_=>by rw [Zcl.eq_1];simp
 | x :: l,out,hl,hq,hlen=>by
  rw [Xz] at hq
  rw [nC] at hlen
  have h1:Zck N ((x.1.1,x.1.2),x.2)=some (Wt x):=Zs9 (x:=x) (hl x List.mem_cons_self) (k:=W) (by omega) hr
  rw [Zcl.eq_2,h1,oB,Zz (by simp only [List.length_singleton,maxLen];omega),Zta hr l _ (fun y hy=>hl y (List.mem_cons_of_mem _ hy)) (by omega) (by simp only [nA,List.length_singleton];omega)]
  simp
theorem Ztb {N W:Nat} {l:List QV} (hr:Xh N W) (hl:∀ x ∈ l,Wy x) (hq:Xz l≤W) (hlen:l.length≤1048576):Zg8 N l=some (l.map Wt):=by
 rw [Zg8,Zz (by simp only [maxLen];omega),Zta hr l [] hl hq (by simpa using hlen),List.nil_append]
theorem Ztu {N W:Nat} (hr:Xh N (2 * W+16)):∀ (l:List QV) (k:Nat),(∀ x ∈ l,Wy x)→Xz l≤W→∃ j:Int,Zfy N l k=some j∧(0≤j↔l.any Ww=true)
 | [],k,_,_=>⟨-1,rfl,by simp⟩
 | x :: l,k,hl,hq=>by
  rw [Xz] at hq
  have hx:=hl x List.mem_cons_self
  have h1:Zha N ((x.1.1,x.1.2),x.2)=some (Ww x):=Z4y (x:=x) (Zby hx.1 hx.2) (hr.mono (by omega))
  rw [Zfy.eq_2,h1,oB,List.any_cons]
  cases Ww x with
  | true=>rw [if_pos rfl];exact ⟨_,rfl,by simp⟩
  | false=>
   rw [if_neg (by decide)]
   obtain ⟨j,h1,h2⟩:=Ztu hr l (k+1) (fun y hy=>hl y (List.mem_cons_of_mem _ hy)) (by omega)
   exact ⟨j,h1,by rw [h2];simp⟩
def Qc (T:List (List QV)):Bool:=T.any fun t=>t.any Ww
theorem Zzy (l:List QV):(l.map Wt).any Ww=l.any Ww:=by
 induction l with
 | nil=>rfl
 | cons x l ih=>rw [List.map_cons,List.any_cons,List.any_cons,ih,Z3q]
theorem Zpi {N W:Nat} {n:Xe} (hr:Xh N (4 * W+16)):∀ l:List (List QV),(∀ t ∈ l,t.length≤1048576∧Xz t≤W∧∀ x ∈ t,Wy x)→Zba N n l=if Qc l=true then some 45 else Zci N n n.2.2.2.2 0
 | [],_=>by rw [Zba.eq_1];rfl
 | t :: l,h=>by
  obtain ⟨h1,h2,h3⟩:=h t List.mem_cons_self
  have hp:=Zpy t
  have hf:=Zpx t
  obtain ⟨j,j1,j2⟩:=Ztu (N:=N) (W:=2 * W) (hr.mono (by omega)) (t.map Wt) 0 (fun x hx=>by
   obtain ⟨y,hy,rfl⟩:=List.mem_map.1 hx
   exact Zs4 (h3 y hy)) (by omega)
  rw [Zba.eq_2,Ztb (W:=W) (hr.mono (by omega)) h3 h2 h1,oB,Zm1,Zm2,j1,oB,oB,Qc,List.any_cons]
  rw [Zzy] at j2
  by_cases ho:t.any Ww=true
  ·rw [if_pos (dT (j2.2 ho)),ho,Bool.true_or,if_pos rfl]
  ·rw [if_neg (dF (fun h=>ho (j2.1 h))),Bool.eq_false_iff.2 ho,Bool.false_or]
   exact Zpi hr l fun x hx=>h x (List.mem_cons_of_mem _ hx)
theorem Zxo {N W:Nat} {n:Xe} (sz:List Int) (hr:Xh N (4 * W+16)) {v:Nat} (hv:v<n.2.2.2.2.length) (hvs:v<1048576) (h1:n.2.2.2.2[v].length≤1048576) (h2:Xz n.2.2.2.2[v]≤W) (h3:∀ x ∈ n.2.2.2.2[v],Wy x) (kk:Int→Option Int):∀ (m i:Nat),i≤n.2.2.2.2[v].length→n.2.2.2.2[v].length<m+i→
  Ze5 N n (v:Int) kk m (i:Int)=if ((n.2.2.2.2[v]).drop i).any Ww=true then some 45 else kk ((v:Int)+1)
 | 0,i,g1,g2=>by omega
 | m+1,i,g1,g2=>by
  rw [Ze5.eq_2,Zy hv,oB]
  by_cases hi:i<n.2.2.2.2[v].length
  ·have hx:=h3 _ (List.getElem_mem hi)
   have hm:=Zwl (List.getElem_mem hi)
   have e:Zic N (((n.2.2.2.2[v][i]).1.1,(n.2.2.2.2[v][i]).1.2),(n.2.2.2.2[v][i]).2)=some (Ww n.2.2.2.2[v][i]):=Z6j (x:=n.2.2.2.2[v][i]) (Zby hx.1 hx.2) (hr.mono (by omega))
   rw [if_pos (dT (by omega)),Zy hi,oB,e,oB,List.drop_eq_getElem_cons hi,List.any_cons]
   cases Ww n.2.2.2.2[v][i] with
   | true=>rw [if_pos rfl,Bool.true_or,if_pos rfl]
   | false=>
    rw [if_neg (by decide),Bool.false_or,Zr (by omega)]
    exact Zxo sz hr hv hvs h1 h2 h3 kk m (i+1) (by omega) (by omega)
  ·rw [if_neg (dF (by omega)),List.drop_eq_nil_of_le (by omega),List.any_nil,if_neg (by decide),Zr (by omega)]
theorem Zxn {N W:Nat} {n:Xe} (sz:List Int) (hs:W4 n W) (he:n.2.2.2.2.length=n.2.1.length) (hr:Xh N (4 * W+16)) (hN:1048577<N):∀ (m fuel v:Nat),m+v=n.2.1.length→m<fuel→
  Zak N n sz fuel (v:Int)=if Qc (n.2.2.2.2.drop v)=true then some 45 else Zbq N n sz N 0
 | 0,0,v,_,h=>by omega
 | 0,fuel+1,v,h1,_=>by
  rw [Zak.eq_2,if_neg (dF (by omega)),List.drop_eq_nil_of_le (by omega)];rfl
 | m+1,0,v,_,h=>by omega
 | m+1,fuel+1,v,h1,h2=>by
  have hv:v<n.2.2.2.2.length:=by omega
  have hnm:=hs.nm
  have hm:=List.getElem_mem hv
  rw [Zak.eq_2,if_pos (dT (by omega)),show (0:Int)=((0:Nat):Int) from rfl,Zxo sz hr hv (by omega) (hs.tl _ hm) (hs.tq _ hm) (hs.lim _ hm) _ N 0 (by omega) (by have:=hs.tl _ hm;omega),List.drop_zero,List.drop_eq_getElem_cons hv,Qc,List.any_cons]
  cases n.2.2.2.2[v].any Ww with
  | true=>rw [if_pos rfl,Bool.true_or,if_pos rfl]
  | false=>
   rw [if_neg (by decide),Bool.false_or]
   exact Zxn sz hs he hr hN m fuel (v+1) (by omega) (by omega)
def Um (c:Nat):Nat→List QV→Bool
 | 0,_=>true
 | m+1,l=>decide (Wx (l.take c)=1)&&Um c m (l.drop c)
def Zje (c:Nat):Nat→List QV→List (List QV)
 | 0,_=>[]
 | m+1,l=>l.take c :: Zje c m (l.drop c)
theorem Zr9 (N:Nat) (l:List QV) (c:Nat) (hc:0<c) (hl:l.length≤1048576) (hcs:c≤1048576):∀ (m fuel i:Nat),i+m * c=l.length→m<fuel→Zdc N l (c:Int) fuel (i:Int)=some (Zje c m (l.drop i))
 | 0,0,i,_,h=>by omega
 | 0,fuel+1,i,h1,_=>by
  rw [Zdc.eq_2,if_neg (dF (by omega))];rfl
 | m+1,0,i,_,h=>by omega
 | m+1,fuel+1,i,h1,h2=>by
  have h3:i+c+m * c=l.length:=by rw [Nat.add_mul,Nat.one_mul] at h1;omega
  have e:(if ((l.drop i).length:Int)<(c:Int) then ((l.drop i).length:Int) else (c:Int))=(c:Int):=by
   rw [List.length_drop]
   by_cases h:((l.length - i:Nat):Int)<(c:Int)
   ·omega
   ·rw [if_neg h]
  rw [Zdc.eq_2,if_pos (dT (by omega)),Int.toNat_natCast,e,Zr (by omega),Zz (by omega),Zz (by omega),show (i:Int)+(c:Int)=((i+c:Nat):Int) by omega,Zr9 N l c hc hl hcs m fuel (i+c) (by omega) (by omega),oB,Int.toNat_natCast,Zje,List.drop_take,show i+c - i=c by omega,List.drop_drop]
theorem Z5j (l:List QV):Wx (l.map Wt)=Wx l:=by
 rw [Wx,Wx,List.map_map]
 congr 1
 exact List.map_congr_left fun x _=>Zo4 x
theorem Zvr (c:Nat):∀ (m:Nat) (l:List QV),Um c m (l.map Wt)=Um c m l
 | 0,l=>rfl
 | m+1,l=>by rw [Um,Um,← List.map_take,← List.map_drop,Z5j,Zvr c m]
theorem Zve {N W:Nat} (hr:Xh N (4 * W+40)) (c:Nat) (b:Bool):∀ (m:Nat) (l:List QV),(∀ x ∈ l,Wy x)→Xz l≤W→Zee N (Zje c m l) b=some (Um c m l)
 | 0,l,_,_=>rfl
 | m+1,l,hl,hq=>by
  have ht:=Zwm l c
  have hd:=Zwj l c
  obtain ⟨s1,s2⟩:=Zo6 (N:=N) (l:=l.take c) (fun x hx=>hl x (List.mem_of_mem_take hx)) (hr.mono (by omega))
  rw [Zje,Zee.eq_2,s1,oB,Zpk (hr.mono (by omega)),oB,Zs1 (a:=Zs _) (b:=Zs 1) (T4 s2) Znu (hr.mono (by omega)),oB,V4,V4,Um]
  by_cases h:Wx (l.take c)=1
  ·rw [if_neg (by rw [Znh.2 h];decide),decide_eq_true h,Bool.true_and]
   exact Zve hr c b m _ (fun x hx=>hl x (List.mem_of_mem_drop hx)) (by omega)
  ·rw [if_pos (by rw [decide_eq_false (fun h2=>h (Znh.1 h2))];decide),decide_eq_false h,Bool.false_and];rfl
theorem Z40 {N W c m:Nat} {l:List QV} (hr:Xh N (4 * W+40)) (hl:∀ x ∈ l,Wy x) (hq:Xz l≤W) (hc:0<c) (hcs:c≤1048576) (hll:l.length≤1048576) (hm:m * c=l.length) (hN:1048577<N):Zjr N l (c:Int)=some (Um c m l):=by
 have hmc:m≤l.length:=by rw [← hm];exact Nat.le_mul_of_pos_right m hc
 rw [Zjr,Zmy,if_neg (dF (by omega)),Zm0,Zmz,show (0:Int)=((0:Nat):Int) from rfl,Zr9 N l c hc hll hcs m N 0 (by omega) (by omega),oB,List.drop_zero]
 exact Zve hr c false m l hl hq
theorem Zyr {N W c:Nat} {l:List QV} (hr:Xh N (4 * W+40)) (hl:∀ x ∈ l,Wy x) (hq:Xz l≤W) (hc:0<c) (hcs:c≤1048576) (hll:l.length≤1048576) (hN:1048577<N):∀ (m fuel i:Nat),i+m * c=l.length→m<fuel→Zc0 N l (c:Int) fuel (i:Int)=some (Um c m (l.drop i))
 | 0,0,i,_,h=>by omega
 | 0,fuel+1,i,h1,_=>by
  rw [Zc0.eq_2,if_neg (dF (by omega))];rfl
 | m+1,0,i,_,h=>by omega
 | m+1,fuel+1,i,h1,h2=>by
  have h3:i+c+m * c=l.length:=by rw [Nat.add_mul,Nat.one_mul] at h1;omega
  have ht:=Zwm (l.drop i) c
  have hd:=Zwj l i
  have hlim:∀ x ∈ (l.drop i).take c,Wy x:=fun x hx=>hl x (List.mem_of_mem_drop (List.mem_of_mem_take hx))
  obtain ⟨_,s2⟩:=Zo6 (N:=N) (l:=(l.drop i).take c) hlim (hr.mono (by omega))
  have hlen:((l.drop i).take c).length≤1048576:=by rw [nK,List.length_drop];omega
  rw [Zc0.eq_2,if_pos (dT (by omega)),Zr (by omega),Zz (by omega),show (i:Int)+(c:Int)=((i+c:Nat):Int) by omega,Int.toNat_natCast,Int.toNat_natCast,List.drop_take,show i+c - i=c by omega,Z6f hlim (by omega) (by omega) (hr.mono (by omega)),oB,Zye (hr.mono (by omega)),oB,Zxs (a:=Zs _) (b:=Zs 1) (T4 s2) Znu (hr.mono (by omega)),oB,V4,V4,Um]
  by_cases h:Wx ((l.drop i).take c)=1
  ·rw [if_neg (by rw [Znh.2 h];decide),decide_eq_true h,Bool.true_and,List.drop_drop]
   exact Zyr hr hl hq hc hcs hll hN m fuel (i+c) (by omega) (by omega)
  ·rw [if_pos (by rw [decide_eq_false (fun h2=>h (Znh.1 h2))];decide),decide_eq_false h,Bool.false_and]
def Zav (vals:List R7) (P:List R2) (T:List (List QV)):Nat→Nat→Int
 | 0,_=>0
 | m+1,v=>if Um (vals.getD v []).length (Ys vals (P.getD v []) 1) (T.getD v [])=true then Zav vals P T m (v+1) else 46
theorem Znv {vals:List R7} {P:List R2} {T:List (List QV)}:∀ (m v:Nat),Uo vals P T m v=0→∀ i,v≤i→i<v+m→Ys vals (P.getD i []) 1 * (vals.getD i []).length=(T.getD i []).length∧(T.getD i []).length≤65536
 | 0,v,_,i,h1,h2=>by omega
 | m+1,v,h,i,h1,h2=>by
  rw [Uo] at h
  by_cases h3:65536<Ys vals (P.getD v []) 1 * (vals.getD v []).length
  ·rw [if_pos h3] at h;cases h
  ·rw [if_neg h3] at h
   by_cases h4:Ys vals (P.getD v []) 1 * (vals.getD v []).length=(T.getD v []).length
   ·rw [if_neg (show ¬ Ys vals (P.getD v []) 1 * (vals.getD v []).length≠(T.getD v []).length from fun h=>h h4)] at h
    rcases Nat.lt_or_ge v i with h5 | h5
    ·exact Znv m (v+1) h i (by omega) (by omega)
    ·have:i=v:=by omega
     subst this
     exact ⟨h4,by omega⟩
   ·rw [if_pos h4] at h;cases h
theorem Zpm {N W:Nat} {n:Xe} (hs:W4 n W) (he:Td n) (hsh:Uo n.2.2.1 n.2.2.2.1 n.2.2.2.2 n.2.1.length 0=0) (hr:Xh N (8 * W+40)) (hN:1048577<N):∀ (l:List (List QV)) (k:Nat),n.2.2.2.2.drop k=l→k≤n.2.1.length→Zci N n l k=some (Zav n.2.2.1 n.2.2.2.1 n.2.2.2.2 l.length k)
 | [],k,_,_=>rfl
 | t :: l,k,hd,hk=>by
  have ht:=he.t;have hv:=he.v;have hp:=he.p
  have hk1:k<n.2.2.2.2.length:=by
   rcases Nat.lt_or_ge k n.2.2.2.2.length with h | h
   ·exact h
   ·rw [List.drop_eq_nil_of_le h] at hd;cases hd
  have hd2:=List.drop_eq_getElem_cons hk1
  rw [hd] at hd2
  obtain ⟨hx,hl2⟩:=List.cons.inj hd2
  have kv:k<n.2.2.1.length:=by omega
  have kp:k<n.2.2.2.1.length:=by omega
  have hm:t ∈ n.2.2.2.2:=by rw [hx];exact List.getElem_mem hk1
  have c1:=hs.vl _ (List.getElem_mem kv)
  have c0:0<n.2.2.1[k].length:=List.length_pos_iff.2 (he.ne _ (List.getElem_mem kv))
  obtain ⟨s1,s2⟩:=Znv _ 0 hsh k (by omega) (by omega)
  rw [Yb kv,Yb hk1,← hx] at s1
  rw [Yb hk1,← hx] at s2
  have hq:=hs.tq t hm
  have hp2:=Zpy t
  have hf:=Zpx t
  rw [Zci.eq_2,Zy kv,oB,Ztb (W:=W) (hr.mono (by omega)) (hs.lim t hm) hq (hs.tl t hm),oB,
   Z40 (W:=2 * W) (m:=Ys n.2.2.1 (n.2.2.2.1.getD k []) 1) (hr.mono (by omega)) (fun x hx=>by
    obtain ⟨y,hy,rfl⟩:=List.mem_map.1 hx
    exact Zs4 (hs.lim t hm y hy)) (by omega) c0 c1 (by rw [List.length_map];omega) (by rw [List.length_map];exact s1) hN,oB,Zvr,nC,Zav,Yb kv,Yb hk1,← hx]
  cases Um n.2.2.1[k].length (Ys n.2.2.1 (n.2.2.2.1.getD k []) 1) t with
  | true=>
   rw [if_neg (by decide),if_pos rfl]
   exact Zpm hs he hsh hr hN l (k+1) hl2.symm (by omega)
  | false=>rw [if_pos (by decide),if_neg (by decide)]
theorem Zyn {N W:Nat} {n:Xe} (hs:W4 n W) (he:Td n) (hsh:Uo n.2.2.1 n.2.2.2.1 n.2.2.2.2 n.2.1.length 0=0) (hr:Xh N (8 * W+40)) (hN:1048577<N):∀ (m fuel v:Nat),m+v=n.2.1.length→m<fuel→
  Zbq N n (n.2.2.1.map fun l=>(l.length:Int)) fuel (v:Int)=some (Zav n.2.2.1 n.2.2.2.1 n.2.2.2.2 m v)
 | 0,0,v,_,h=>by omega
 | 0,fuel+1,v,h1,_=>by
  rw [Zbq.eq_2,if_neg (dF (by omega))];rfl
 | m+1,0,v,_,h=>by omega
 | m+1,fuel+1,v,h1,h2=>by
  have ht:=he.t;have hv:=he.v;have hp:=he.p;have hnm:=hs.nm
  have kt:v<n.2.2.2.2.length:=by omega
  have kv:v<n.2.2.1.length:=by omega
  have hm:=List.getElem_mem kt
  have c1:=hs.vl _ (List.getElem_mem kv)
  have c0:0<n.2.2.1[v].length:=List.length_pos_iff.2 (he.ne _ (List.getElem_mem kv))
  obtain ⟨s1,s2⟩:=Znv _ 0 hsh v (by omega) (by omega)
  rw [Yb kv,Yb kt] at s1
  rw [Yb kt] at s2
  have hmc:Ys n.2.2.1 (n.2.2.2.1.getD v []) 1≤n.2.2.2.2[v].length:=by rw [← s1];exact Nat.le_mul_of_pos_right _ c0
  have hw:=Zyr (N:=N) (W:=W) (c:=n.2.2.1[v].length) (l:=n.2.2.2.2[v]) (hr.mono (by omega)) (hs.lim _ hm) (hs.tq _ hm) c0 c1 (hs.tl _ hm) hN (Ys n.2.2.1 (n.2.2.2.1.getD v []) 1) N 0 (by omega) (by omega)
  rw [List.drop_zero,show ((0:Nat):Int)=0 from rfl] at hw
  rw [Zbq.eq_2,if_pos (dT (by omega)),Zy kt,oB,Znx kv,oB,Zms,hw,oB,Zav,Yb kv,Yb kt]
  cases Um n.2.2.1[v].length (Ys n.2.2.1 (n.2.2.2.1.getD v []) 1) n.2.2.2.2[v] with
  | true=>
   rw [if_neg (by decide),if_pos rfl,Zr (by omega)]
   exact Zyn hs he hsh hr hN m fuel (v+1) (by omega) (by omega)
  | false=>rw [if_pos (by decide),if_neg (by decide)]
structure Y4 (N:Nat) (n:Xe):Prop where
 ev:Td n
 le:n.2.1.length≤1024
 nm:Tl n.2.1 n.2.2.1 n.2.1.length 0=0
 sh:Uo n.2.2.1 n.2.2.2.1 n.2.2.2.2 n.2.1.length 0=0
 en:Qc n.2.2.2.2=false
 su:Zav n.2.2.1 n.2.2.2.1 n.2.2.2.2 n.2.1.length 0=0
 tw:Tb n.2.2.2.1=false
 or:∃ l,Za1 N n.2.2.2.1=some (l,0)∧Qq N n.2.2.2.1=some l∧Qp N n.2.2.2.1=some 0∧Tq n.2.2.2.1 l∧l.length=n.2.2.2.1.length
theorem Z2j {N W:Nat} {n:Xe} (hs:W4 n W) (hr:Xh N (8 * W+40)) (hN:2000000<N):∃ e,Tw N n=some e∧Zcy N n=some e∧(e=0→Y4 N n):=by
 have hnm:=hs.nm
 -- shapes of the lists
 have J:∀ b:Bool,(b=true→Za8 N n b=some 60∧Zcz N n b=some 60):=fun b hb=>by
  subst hb
  exact ⟨by rw [Za8,if_pos rfl],by rw [Zcz,if_pos rfl]⟩
 have J1:=J true rfl
 rw [Tw,Zcy]
 by_cases hv:n.2.2.1.length=n.2.1.length
 ·by_cases hp:n.2.2.2.1.length=n.2.1.length
  ·by_cases ht:n.2.2.2.2.length=n.2.1.length
   ·rw [if_neg (by rw [decide_eq_true (by omega)];decide),if_neg (by rw [decide_eq_true (by omega)];decide),if_neg (by rw [decide_eq_true (by omega)];decide),if_neg (by rw [decide_eq_true (by omega)];decide),show (!decide ((n.2.2.2.2.length:Int)=(n.2.1.length:Int)))=false by rw [decide_eq_true (by omega)];rfl,Za8,Zcz,if_neg (show ¬ (false=true) by decide),if_neg (show ¬ (false=true) by decide)]
    by_cases hk:1024<n.2.1.length
    ·rw [if_pos (dT (by omega)),if_pos (dT (by omega))]
     exact ⟨4,rfl,rfl,fun h=>by cases h⟩
    ·rw [if_neg (dF (by omega)),if_neg (dF (by omega))]
     have nn:Zeb (n.1,n.2.1,n.2.2.1,n.2.2.2.1,n.2.2.2.2)=some (Tl n.2.1 n.2.2.1 n.2.1.length 0):=Zvg n hv
     have rn:=Zx8 N n hv (by omega) hs.vl (by omega) n.2.1.length N 0 (by omega) (by omega)
     rw [show ((0:Nat):Int)=0 from rfl] at rn
     rw [nn,oB,rn]
     by_cases hnms:Tl n.2.1 n.2.2.1 n.2.1.length 0=0
     ·rw [if_neg (by rw [decide_eq_true hnms];decide),if_pos hnms]
      obtain ⟨f,hf⟩:∃ f,N - n.2.1.length=f+1:=⟨N - n.2.1.length - 1,by omega⟩
      rw [hf,Sq.eq_2,if_neg (dF (by omega))]
      have hne:∀ l ∈ n.2.2.1,l≠[]:=fun l hl=>by
       obtain ⟨i,hi,rfl⟩:=List.mem_iff_getElem.1 hl
       have:=(Zvi _ 0 hnms i (by omega) (by omega)).1
       rw [Yb hi] at this;exact this
      have fin:∀ e,Qi N n.2.2.2.1=some e→Qp N n.2.2.2.1=some e→e≠0→∃ e,((Qi N n.2.2.2.1).bind fun r_17=>if (!decide (r_17=0))=true then some r_17 else Za9 N n n.2.2.2.2 0)=some e∧((Qp N n.2.2.2.1).bind fun r_76=>if (!decide (r_76=0))=true then some r_76 else (Ze8 N (n.1,n.2.1,n.2.2.1,n.2.2.2.1,n.2.2.2.2)).bind fun r_80=>Zbp N n r_80 N 0)=some e∧(e=0→Y4 N n):=fun e h1 h2 h3=>by
       rw [h1,h2,oB,oB,if_pos (by rw [decide_eq_false h3];decide),if_pos (by rw [decide_eq_false h3];decide)]
       exact ⟨e,rfl,rfl,fun h=>absurd h h3⟩
      rcases Zy1 hs.pn hN with ⟨e,D,R,h3⟩ | ⟨_,_,l,_,_,_,_,D,R⟩ | ⟨hI,hT,l,ho,hok,hmx,hle,D,R⟩
      ·exact fin e (by rw [Qi,D];rfl) R (by rcases h3 with h | h <;> omega)
      ·exact fin 42 (by rw [Qi,D];rfl) R (by decide)
      ·have D':Qi N n.2.2.2.1=some 0:=by rw [Qi,D];rfl
       have he:Td n:=⟨hv,hp,ht,hI,hne⟩
       have hsz:Ze8 N (n.1,n.2.1,n.2.2.1,n.2.2.2.1,n.2.2.2.2)=some (n.2.2.1.map fun l=>(l.length:Int)):=Z6r (n:=n) (by omega) (by omega)
       have ms:=Zpl (N:=N) hs he n.2.2.2.2 0 (by simp) (by omega)
       have rs:=Zyk (N:=N) (by omega) hs he n.2.1.length N 0 (by omega) (by omega)
       rw [show ((0:Nat):Int)=0 from rfl] at rs
       rw [D',R,oB,oB,if_neg (by decide),if_neg (by decide),hsz,oB,ms,rs,ht]
       by_cases hsh:Uo n.2.2.1 n.2.2.2.1 n.2.2.2.2 n.2.1.length 0=0
       ·have me:=Zpi (N:=N) (n:=n) (W:=W) (hr.mono (by omega)) n.2.2.2.2 (fun t h=>⟨hs.tl t h,hs.tq t h,hs.lim t h⟩)
        have re:=Zxn (N:=N) (n.2.2.1.map fun l=>(l.length:Int)) hs ht (hr.mono (by omega)) (by omega) n.2.1.length N 0 (by omega) (by omega)
        rw [show ((0:Nat):Int)=0 from rfl,List.drop_zero] at re
        rw [if_pos hsh,if_pos hsh,me,re]
        by_cases hen:Qc n.2.2.2.2=true
        ·rw [if_pos hen,if_pos hen]
         exact ⟨45,rfl,rfl,fun h=>by cases h⟩
        ·have m6:=Zpm (N:=N) hs he hsh hr (by omega) n.2.2.2.2 0 (by simp) (by omega)
         have r6:=Zyn (N:=N) hs he hsh hr (by omega) n.2.1.length N 0 (by omega) (by omega)
         rw [show ((0:Nat):Int)=0 from rfl] at r6
         rw [if_neg hen,if_neg hen,m6,r6,ht]
         exact ⟨_,rfl,rfl,fun h=>⟨he,by omega,hnms,hsh,Bool.eq_false_iff.2 hen,h,hT,l,D,ho,R,hok,hle⟩⟩
       ·rw [if_neg hsh,if_neg hsh]
        exact ⟨_,rfl,rfl,fun h=>absurd h hsh⟩
     ·rw [if_pos (by rw [decide_eq_false hnms];decide),if_neg hnms]
      exact ⟨_,rfl,rfl,fun h=>absurd h hnms⟩
   ·rw [if_neg (by rw [decide_eq_true (by omega)];decide),if_neg (by rw [decide_eq_true (by omega)];decide),if_neg (by rw [decide_eq_true (by omega)];decide),if_neg (by rw [decide_eq_true (by omega)];decide),decide_eq_false (by omega)]
    exact ⟨60,J1.1,J1.2,fun h=>by cases h⟩
  ·rw [if_neg (by rw [decide_eq_true (by omega)];decide),if_pos (by rw [decide_eq_false (by omega)];decide),if_neg (by rw [decide_eq_true (by omega)];decide),if_pos (by rw [decide_eq_false (by omega)];decide)]
   exact ⟨60,J1.1,J1.2,fun h=>by cases h⟩
 ·rw [if_pos (by rw [decide_eq_false (by omega)];decide),if_pos (by rw [decide_eq_false (by omega)];decide)]
  exact ⟨60,J1.1,J1.2,fun h=>by cases h⟩
def cnt (n:Xe) (v:Nat):Nat:=(n.2.2.1.getD v []).length
def S3 (n:Xe) (w:List Int):List Int→Nat→Nat
 | [],r=>r
 | p :: ps,r=>S3 n w ps (r * cnt n p.toNat+(w.getD p.toNat 0).toNat)
def Vn (n:Xe) (w:List Int) (v:Nat):Nat:=S3 n w (n.2.2.2.1.getD v []) 0
def Vo (n:Xe) (w:List Int) (v:Nat):List QV:=((n.2.2.2.2.getD v []).drop (Vn n w v * cnt n v)).take (cnt n v)
structure Uq (n:Xe) (w:List Int):Prop where
 len:w.length=n.2.1.length
 ok:∀ i,i<w.length→0≤w.getD i 0∧w.getD i 0<(cnt n i:Int)
theorem Zsc {n:Xe} (he:Td n) {v:Nat} (hv:v<n.2.1.length):0<cnt n v:=by
 have h1:v<n.2.2.1.length:=by rw [he.v];exact hv
 rw [cnt,Yb h1]
 exact List.length_pos_iff.2 (he.ne _ (List.getElem_mem h1))
theorem Zyj {n:Xe} (he:Td n):∀ (ps:List Int) (k:Nat),(∀ p ∈ ps,0≤p∧p<(n.2.1.length:Int))→k≤1099511627776→k≤Ys n.2.2.1 ps k
 | [],k,_,_=>Nat.le_refl _
 | p :: ps,k,hp,hk=>by
  have h1:=hp p List.mem_cons_self
  have h2:0<(n.2.2.1.getD p.toNat []).length:=Zsc he (by omega)
  rw [Ys]
  have h3:k≤min (k * (n.2.2.1.getD p.toNat []).length) 1099511627776:=Nat.le_min.2 ⟨Nat.le_mul_of_pos_right k h2,hk⟩
  exact Nat.le_trans h3 (Zyj he ps _ (fun q hq=>hp q (List.mem_cons_of_mem _ hq)) (Nat.min_le_right _ _))
theorem Zqe {n:Xe} (he:Td n) {w:List Int} (hw:Uq n w) {p:Int} {ps:List Int} {r k:Nat} (hp:∀ q ∈ p :: ps,0≤q∧q<(n.2.1.length:Int)) (hr:r<k) (hk:k≤65536) (hb:Ys n.2.2.1 (p :: ps) k≤65536):
  r * cnt n p.toNat+(w.getD p.toNat 0).toNat<k * cnt n p.toNat∧k * cnt n p.toNat≤65536∧Ys n.2.2.1 ps (k * cnt n p.toNat)≤65536:=by
 have h1:=hp p List.mem_cons_self
 have h2:=hw.ok p.toNat (by rw [hw.len];omega)
 have h3:r * cnt n p.toNat+cnt n p.toNat≤k * cnt n p.toNat:=by
  have:=Nat.mul_le_mul_right (cnt n p.toNat) (show r+1≤k by omega)
  rwa [Nat.add_mul,Nat.one_mul] at this
 rw [Ys] at hb
 have h4:=Zyj he ps (min (k * (n.2.2.1.getD p.toNat []).length) 1099511627776) (fun q hq=>hp q (List.mem_cons_of_mem _ hq)) (Nat.min_le_right _ _)
 have h5:k * (n.2.2.1.getD p.toNat []).length≤1099511627776:=by
  rcases Nat.le_total (k * (n.2.2.1.getD p.toNat []).length) 1099511627776 with h | h
  ·exact h
  ·rw [Nat.min_eq_right h] at h4 hb;omega
 rw [Nat.min_eq_left h5] at h4 hb
 exact ⟨by omega,Nat.le_trans h4 hb,hb⟩
theorem Zyg {n:Xe} (he:Td n) {w:List Int} (hw:Uq n w):∀ (ps:List Int) (r k:Nat),(∀ q ∈ ps,0≤q∧q<(n.2.1.length:Int))→r<k→k≤65536→Ys n.2.2.1 ps k≤65536→S3 n w ps r<Ys n.2.2.1 ps k
 | [],r,k,_,hr,_,_=>hr
 | p :: ps,r,k,hp,hr,hk,hb=>by
  obtain ⟨h1,h2,h3⟩:=Zqe he hw hp hr hk hb
  have:=Zyg he hw ps _ _ (fun q hq=>hp q (List.mem_cons_of_mem _ hq)) h1 h2 h3
  rw [S3,Ys,Nat.min_eq_left (by rw [cnt] at h2;omega)]
  exact this
section
variable {N:Nat} {n:Xe} (hf:Y4 N n)
include hf
theorem Y4.pars {v:Nat} (hv:v<n.2.1.length):∀ p ∈ n.2.2.2.1.getD v [],0≤p∧p<(n.2.1.length:Int):=fun p hp=>by
 have h1:v<n.2.2.2.1.length:=by rw [hf.ev.p];exact hv
 rw [Yb h1] at hp
 have:=hf.ev.par (List.getElem_mem h1) p hp
 rwa [hf.ev.v] at this
theorem Y4.rows {v:Nat} (hv:v<n.2.1.length):Ys n.2.2.1 (n.2.2.2.1.getD v []) 1 * cnt n v=(n.2.2.2.2.getD v []).length∧(n.2.2.2.2.getD v []).length≤65536∧Ys n.2.2.1 (n.2.2.2.1.getD v []) 1≤65536:=by
 have h1:=Znv _ 0 hf.sh v (Nat.zero_le _) (by omega)
 have h2:=Zsc hf.ev hv
 refine ⟨h1.1,h1.2,?_⟩
 have h3:Ys n.2.2.1 (n.2.2.2.1.getD v []) 1≤Ys n.2.2.1 (n.2.2.2.1.getD v []) 1 * cnt n v:=Nat.le_mul_of_pos_right _ h2
 have h4:Ys n.2.2.1 (n.2.2.2.1.getD v []) 1 * cnt n v≤65536:=by
  have:=h1.1;rw [cnt,this];exact h1.2
 omega
theorem Y4.row {w:List Int} (hw:Uq n w) {v:Nat} (hv:v<n.2.1.length):Vn n w v * cnt n v+cnt n v≤(n.2.2.2.2.getD v []).length∧Vn n w v<65536:=by
 obtain ⟨h1,h2,h3⟩:=hf.rows hv
 have h4:=Zyg hf.ev hw _ 0 1 (hf.pars hv) (by omega) (by omega) h3
 have h5:=Nat.mul_le_mul_right (cnt n v) (show Vn n w v+1≤Ys n.2.2.1 (n.2.2.2.1.getD v []) 1 from h4)
 rw [Nat.add_mul,Nat.one_mul,h1] at h5
 exact ⟨h5,Nat.lt_of_lt_of_le h4 h3⟩
theorem Y4.rowT_len {w:List Int} (hw:Uq n w) {v:Nat} (hv:v<n.2.1.length):(Vo n w v).length=cnt n v:=by
 have:=(hf.row hw hv).1
 rw [Vo,nK,List.length_drop];omega
theorem Y4.ent {v:Nat} (hv:v<n.2.1.length):∀ x ∈ n.2.2.2.2.getD v [],0≤Z5 x∧Z5 x≤1:=fun x hx=>by
 have h1:v<n.2.2.2.2.length:=by rw [hf.ev.t];exact hv
 rw [Yb h1] at hx
 have h2:=hf.en
 rw [Qc,List.any_eq_false] at h2
 have h3:=h2 _ (List.getElem_mem h1)
 rw [Bool.not_eq_true,List.any_eq_false] at h3
 have h4:=h3 x hx
 simp only [Ww,Bool.or_eq_true,decide_eq_true_eq,not_or] at h4
 exact ⟨Rat.not_lt.1 h4.1,Rat.not_lt.1 h4.2⟩
end
theorem Zm4 {n:Xe} {w:List Int} {v:Nat} {x:QV} (h:x ∈ Vo n w v):x ∈ n.2.2.2.2.getD v []:=List.mem_of_mem_drop (List.mem_of_mem_take h)
theorem Zyf {n:Xe} {w:List Int} {v j:Nat} (hj:j<(Vo n w v).length):Zj (n.2.2.2.2.getD v []) ((Vn n w v * cnt n v+j:Nat):Int)=some (Vo n w v)[j]:=by
 have h1:Vn n w v * cnt n v+j<(n.2.2.2.2.getD v []).length:=by
  rw [Vo,nK,List.length_drop] at hj;omega
 rw [Zy h1]
 simp only [Vo,List.getElem_take,List.getElem_drop]
section
variable {N W:Nat} {n:Xe} (hf:Y4 N n) (hs:W4 n W)
include hf hs
theorem Zl3 {v:Nat} (hv:v<n.2.1.length):∀ x ∈ n.2.2.2.2.getD v [],Wy x∧max x.1.2.length x.2.length≤W:=fun x hx=>by
 have h1:v<n.2.2.2.2.length:=by rw [hf.ev.t];exact hv
 rw [Yb h1] at hx
 have h2:=hs.tq _ (List.getElem_mem h1)
 exact ⟨hs.lim _ (List.getElem_mem h1) x hx,Nat.le_trans (Zwl hx) h2⟩
end
theorem Zou {N W:Nat} {n:Xe} (hf:Y4 N n) (hs:W4 n W) (hr:Xh N (8 * W+40)) (hN:2000000<N):Tw N n=some 0:=by
 obtain ⟨l,o1,o2,o3,o4,o5⟩:=hf.or
 have hv:=hf.ev.v;have hp:=hf.ev.p;have ht:=hf.ev.t;have hle:=hf.le
 have nn:Zeb (n.1,n.2.1,n.2.2.1,n.2.2.2.1,n.2.2.2.2)=some (Tl n.2.1 n.2.2.1 n.2.1.length 0):=Zvg n hv
 have D':Qi N n.2.2.2.1=some 0:=by rw [Qi,o1];rfl
 have ms:=Zpl (N:=N) hs hf.ev n.2.2.2.2 0 (by simp) (by omega)
 have me:=Zpi (N:=N) (n:=n) (W:=W) (hr.mono (by omega)) n.2.2.2.2 (fun t h=>⟨hs.tl t h,hs.tq t h,hs.lim t h⟩)
 have m6:=Zpm (N:=N) hs hf.ev hf.sh hr (by omega) n.2.2.2.2 0 (by simp) (by omega)
 rw [Tw,if_neg (by rw [decide_eq_true (by omega)];decide),if_neg (by rw [decide_eq_true (by omega)];decide),show (!decide ((n.2.2.2.2.length:Int)=(n.2.1.length:Int)))=false by rw [decide_eq_true (by omega)];rfl,Za8,if_neg (show ¬ (false=true) by decide),if_neg (dF (by omega)),
  nn,oB,hf.nm,if_neg (by decide),D',oB,if_neg (by decide),ms,ht,if_pos hf.sh,me,hf.en,if_neg (by decide),m6,ht,hf.su]
theorem Z3y {N:Nat} (hr:Xh N 16):Zdz N ([]:List QV)=some (Zs 0):=by
 have:=(Zo6 (N:=N) (l:=[]) (by simp) hr).1
 rwa [Wx,List.map_nil,List.sum_nil] at this
/-! the document's loops -/
/-! a row's entries are 1 together -/
/-! parts side by side -/
def Se (n:Xe):List Int→Nat→Bool
 | [],_=>true
 | x :: l,k=>!decide (x<0)&&(!decide ((cnt n k:Int)≤x)&&Se n l (k+1))
theorem Ztv {n:Xe}:∀ (l:List Int) (k:Nat),Se n l k=true→∀ i,i<l.length→0≤l.getD i 0∧l.getD i 0<(cnt n (k+i):Int)
 | [],_,_,i,hi=>by simp at hi
 | x :: l,k,h,i,hi=>by
  simp only [Se,Bool.and_eq_true,Bool.not_eq_true',decide_eq_false_iff_not] at h
  cases i with
  | zero=>rw [List.getD_cons_zero,Nat.add_zero];omega
  | succ i=>
   rw [List.getD_cons_succ,show k+(i+1)=k+1+i by omega]
   exact Ztv l (k+1) h.2.2 i (by simpa using hi)
theorem Z34 {n:Xe} {w:List Int} (hl:w.length=n.2.1.length) (h:Se n w 0=true):Uq n w:=⟨hl,fun i hi=>by have:=Ztv w 0 h i hi;rwa [Nat.zero_add] at this⟩
def Za7 (N:Nat) (ab:R0) (ac:List Int) (aa:Nat) (ah:Bool) (ai:List Int) (aj:List Int) (kk_L2:(Nat→Bool→R2→R2→Option (R1×Int))) (ak:R8):List Int→Int→Option (R1×Int)
  | [],ad=>(Zj ab.2.2.1 (aa:Int)).bind fun am=>(Zj ac (aa:Int)).bind fun an=>(Zj ak (i64.wrap ((i64.wrap (ad * (am.length:Int)))+an))).bind fun ae=>(Zck N ((ae.1.1,ae.1.2),ae.2)).bind fun af=>(Zgx N ((ah,ai),aj) ((af.1.1,af.1.2),af.2)).bind fun ag=>kk_L2 (aa+1) ag.1.1 ag.1.2 ag.2
  | al :: ao,ad=>(Zj ab.2.2.1 al).bind fun ap=>(Zj ac al).bind fun aq=>(Za7 N ab ac aa ah ai aj kk_L2 ak ao) (i64.wrap ((i64.wrap (ad * (ap.length:Int)))+aq))
termination_by structural x=>x
def Za6 (N:Nat) (aa:R0) (af:List Int):List R8→Nat→Bool→R2→R2→Option (R1×Int)
  | [],ab,ac,ad,ae=>some (((ac,ad),ae),0)
  | ag :: ah,ab,ac,ad,ae=>(Zj aa.2.2.2.1 (ab:Int)).bind fun ai=>Za7 N aa af ab ac ad ae (Za6 N aa af ah) ag ai 0
termination_by structural x=>x
def Zg6 (aa:Nat) (ab:Bool) (ac:List Int) (ad:List Int) (kk_L1:(Nat→Bool→R2→R2→Option (R1×Int))) (ae:Bool):Option (R1×Int):=
  if ae=true then (some (((false,([]:List Int)),([]:List Int)),3)) else (kk_L1 (aa+1) ab ac ad)
def Qk (N:Nat) (aa:R0) (ac:List Int):List Int→Nat→Bool→R2→R2→Option (R1×Int)
  | [],ab,ad,ae,af=>(Zec N).bind fun ag=>Za6 N aa ac aa.2.2.2.2 0 ag.1.1 ag.1.2 ag.2
  | ah :: ai,ab,ad,ae,af=>if (decide (ah<0))=true then (Zg6 ab ad ae af (Qk N aa ac ai) true) else ((Zj aa.2.2.1 (ab:Int)).bind fun aj=>Zg6 ab ad ae af (Qk N aa ac ai) (decide ((aj.length:Int)≤ah)))
termination_by structural x=>x
def Zg5 (N:Nat) (aa:R0) (ab:List Int):Option (R1×Int):=
  (Tw N (aa.1,aa.2.1,aa.2.2.1,aa.2.2.2.1,aa.2.2.2.2)).bind fun ac=>if (!decide (ac=0))=true then (some (((false,([]:List Int)),([]:List Int)),ac)) else (if (!decide ((ab.length:Int)=(aa.2.1.length:Int)))=true then (some (((false,([]:List Int)),([]:List Int)),60)) else (Qk N aa ab ab 0 false ([]:List Int) ([]:List Int)))
theorem Z0p {N bf bg bh bi cu:Nat} {bj bk bm bn a1:Option Addr} {col:Zd} {w0:World} {ab:R0} {ak:R2} {r:(R1×Int)} (c1 c2:Nat) (hm:Zg5 N ab ak=some r) (cd:Sl Za.str col w0 bj bf ab.2.1) (au:Sl (Za.slice Za.str) col w0 bk bg ab.2.2.1) (bt:Sl (Za.slice (Za.int .i64)) col w0 bm bh ab.2.2.2.1) (bo:Sl (Za.slice (Za.pair (Za.pair Za.bool (Za.slice (Za.int .u32))) (Za.slice (Za.int .u32)))) col w0 bn bi ab.2.2.2.2) (h1:Sl (Za.int .i64) col w0 a1 cu ak):
    Calls prog 70 #[(.agg #[.string ab.1,.slice bj ab.2.1.length bf,.slice bk ab.2.2.1.length bg,.slice bm ab.2.2.2.1.length bh,.slice bn ab.2.2.2.2.length bi]),.slice a1 ak.length cu] w0 (fun e w'=>∃ (col':Zd) (ra1:Option Addr) (rc2:Nat) (ra4:Option Addr) (rc5:Nat),e= .returned (.tuple #[(.agg #[.bool r.1.1.1,.slice ra1 r.1.1.2.length rc2,.slice ra4 r.1.2.length rc5]),.int .i64 r.2])∧Zg col w0 col' w'∧Zc (Za.int .u32) 79 c1 col' w' ra1 rc2 r.1.1.2∧Zc (Za.int .u32) 79 c2 col' w' ra4 rc5 r.1.2):=by
 refine Ym (m:=103) func70 rfl rfl rfl ?_;rw [Zg5.eq_1] at hm;have aa:=St.start col w0;refine go ?_;refine Xg (col:=(Zh col)) 1 rfl ?_;intro b7 eq c3 c4 ac;refine Xl (col:=c3) #[.bool false,.slice none (([]:List Int).length) 0,.slice none (([]:List Int).length) 0] 2 zeroValue47 ?_;intro b8 c5 cv cw ad;refine go ?_;replace ac:=ac.gr cw;refine lV _ (Z7 isAgg27 sizeOf27 ac) ?_;obtain ⟨er,c6,hm⟩:=bZ hm;replace cd:=cd.keep (Zf.start col w0);replace au:=au.keep (Zf.start col w0);replace bt:=bt.keep (Zf.start col w0);replace bo:=bo.keep (Zf.start col w0);replace aa:=(aa.grow c4).grow cw;refine Zi (Zrb c6 (cd.ks aa) (au.ks aa) (bt.ks aa) (bo.ks aa)) ?_;rintro _ c7 ⟨rfl,bu⟩;refine ⟨_,rfl,?_⟩;replace bu:Zg cv c5 cv c7:=.of_below bu;refine go ?_;replace h1:=h1.keep (Zf.start col w0);replace ac:=ac.gr bu;replace ad:=ad.gr bu;replace aa:=aa.grow bu;refine Zo hm (fun hb hm=>go ?_) fun hb hm=>go ?_
 ·refine lV (.agg #[.bool false,.slice none (([]:List Int).length) 0,.slice none (([]:List Int).length) 0]) (Yz (l:=[_,_]) (qs:=[(0,2),(2,1)]) underlying47 zeroValue47 ⟨rfl,sizeOf45,rfl,sizeOf43,trivial⟩ rfl)<|Xo rfl<|Z4 ad ?_;intro es c8 c9 da;refine go ?_;cases hm;replace aa:=aa.kp c8 c9;exact ⟨rfl,_,W7 da.atN,_,none,0,none,0,rfl,aa.fin (cm []),Zc.nil,Zc.nil⟩
 refine Xa ac ?_;refine go ?_;refine Zo hm (fun hb hm=>go ?_) fun hb hm=>go ?_
 ·refine lV (.agg #[.bool false,.slice none (([]:List Int).length) 0,.slice none (([]:List Int).length) 0]) (Yz (l:=[_,_]) (qs:=[(0,2),(2,1)]) underlying47 zeroValue47 ⟨rfl,sizeOf45,rfl,sizeOf43,trivial⟩ rfl)<|Z4 ad ?_;intro et db dc dd;refine go ?_;cases hm;replace aa:=aa.kp db dc;exact ⟨rfl,_,W7 dd.atN,_,none,0,none,0,rfl,aa.fin (cm []),Zc.nil,Zc.nil⟩
 refine Zw [1,2,28,29,4,1000000] (fun n f bp=>∃ a4 a5 a6 av aw al ax ay am bv,n=bv.length∧ak.drop a5=bv∧Qk N ab ak bv a5 a6 al am=some r∧St w0 (Zh col) a4 bp∧Zm 27 1 a4 bp b7 #[.string ab.1,.slice bj ab.2.1.length bf,.slice bk ab.2.2.1.length bg,.slice bm ab.2.2.2.1.length bh,.slice bn ab.2.2.2.2.length bi]∧Zc (Za.int .u32) 79 3 a4 bp av aw al∧Zc (Za.int .u32) 79 4 a4 bp ax ay am∧Zm 47 2 a4 bp b8 #[.bool a6,.slice av al.length aw,.slice ax am.length ay]∧[30].map f=[.int .i64 a5]) ak.length ⟨_,0,_,none,0,_,none,0,_,_,rfl,rfl,hm,aa,ac,Zc.nil,Zc.nil,ad,rfl⟩ ?_;clear hm;intro n f bp hI;obtain ⟨a4,a5,a6,av,aw,al,ax,ay,am,bv,hn,hl,hm,aa,ac,ae,af,ad,hs⟩:=hI;subst hn;refine .lL [30] hs ?_
 cases bv with
 | nil=>
  have hk:¬ ((a5:Int)<(ak.length:Int)):=by have:=List.drop_eq_nil_iff.1 hl;omega
  have hkb:=decide_eq_false hk;rw [Qk.eq_1] at hm;refine go ?_;refine Yf (congrArg Value.bool hkb)<|go ?_;obtain ⟨eu,de,hm⟩:=bZ hm;refine lc rfl rfl (Zf3 call182) (Zoh (col:=a4) 5 6 de:) ?_;rintro _ ew ⟨df,ey,ez,e0,e1,rfl,bw,ce,cf⟩;refine ⟨_,rfl,?_⟩;refine Xl (col:=df) #[.bool false,.slice none (([]:List Int).length) 0,.slice none (([]:List Int).length) 0] 7 zeroValue47 ?_;intro cx e2 e3 a7 dg;refine Z4 dg ?_;intro e4 a8 dh ah;refine go ?_;refine Xd ⟨_,_,rfl⟩ ?_;replace ac:=((ac.gr bw).gr a7).kp a8;refine lW ((ac.atN).nth (q:=4) rfl)<|go ?_;replace ae:=((ae.gr bw).gr a7).kp a8;replace af:=((af.gr bw).gr a7).kp a8;replace ad:=((ad.gr bw).gr a7).kp a8;replace aa:=((aa.grow bw).grow a7).kp a8 dh;replace ce:=(ce.gr a7).kp a8;replace cf:=(cf.gr a7).kp a8;refine Zw [1,2,4,51,52,9,1000000] (fun n f az=>∃ a0 a9 bx bz b0 ba b1 b2 bb b3,n=b3.length∧ab.2.2.2.2.drop a9=b3∧Za6 N ab ak b3 a9 bx ba bb=some r∧St w0 (Zh col) a0 az∧Zm 27 1 a0 az b7 #[.string ab.1,.slice bj ab.2.1.length bf,.slice bk ab.2.2.1.length bg,.slice bm ab.2.2.2.1.length bh,.slice bn ab.2.2.2.2.length bi]∧Zc (Za.int .u32) 79 3 a0 az av aw al∧Zc (Za.int .u32) 79 4 a0 az ax ay am∧Zm 47 2 a0 az b8 #[.bool a6,.slice av al.length aw,.slice ax am.length ay]∧Zc (Za.int .u32) 79 5 a0 az bz b0 ba∧Zc (Za.int .u32) 79 6 a0 az b1 b2 bb∧Zm 47 7 a0 az cx #[.bool bx,.slice bz ba.length b0,.slice b1 bb.length b2]∧[53].map f=[.int .i64 a9]) ab.2.2.2.2.length ⟨_,0,_,_,_,_,_,_,_,_,rfl,rfl,hm,aa,ac,ae,af,ad,ce,cf,ah,rfl⟩ ?_;clear hm;intro n f az hI;obtain ⟨a0,a9,bx,bz,b0,ba,b1,b2,bb,b3,hn,hl,hm,aa,ac,ae,af,ad,ai,aj,ah,hs⟩:=hI;subst hn;refine .lL [53] hs ?_
  cases b3 with
  | nil=>
   have hk:¬ ((a9:Int)<(ab.2.2.2.2.length:Int)):=by have:=List.drop_eq_nil_iff.1 hl;omega
   have hkb:=decide_eq_false hk;rw [Za6.eq_1] at hm;refine go ?_;refine Yf (congrArg Value.bool hkb)<|go ?_;refine lV _ (Z7 isAgg47 sizeOf47 ah)<|Z4 ad ?_;intro e5 cg di dj;refine go ?_;cases hm;replace ai:=ai.kp cg;replace aj:=aj.kp cg;replace aa:=aa.kp cg di;exact ⟨rfl,_,W7 dj.atN,_,_,_,_,_,rfl,aa.fin (cm [(5,c1),(6,c2)]),aa.fo ai,aa.fo aj⟩
  | cons cy cz=>
   obtain ⟨an,dk,dl⟩:=Yw hl;have hk:(a9:Int)<(ab.2.2.2.2.length:Int):=by omega
   have hkb:=decide_eq_true hk;rw [Za6.eq_2] at hm;refine go ?_;refine Yg (congrArg Value.bool hkb)<|go ?_;refine lI an ((bo.ks aa).addr an) ?_;obtain ⟨_,dm,dn⟩:=(bo.ks aa).atN an;obtain ⟨⟨dp,dq,rfl,bc⟩,_⟩:=dm;refine lW dn.one<|go ?_;refine Xa ac<|Xo rfl ?_;obtain ⟨b4,ch,hm⟩:=bZ hm;refine lI ch ((bt.ks aa).addr ch) ?_;obtain ⟨_,dr,ds⟩:=(bt.ks aa).atN ch;obtain ⟨⟨dt,du,rfl,a3⟩,_⟩:=dr;refine lW ds.one<|go ?_;refine Zw [1,10,11,2,4,51,52,53,62,63,9,1000000] (fun n f ao=>∃ ag ci b5 b6,n=b6.length∧b4.drop b5=b6∧Za7 N ab ak a9 bx ba bb (Za6 N ab ak cz) cy b6 ci=some r∧St w0 (Zh col) ag ao∧Sl (Za.pair (Za.pair Za.bool (Za.slice (Za.int .u32))) (Za.slice (Za.int .u32))) ag ao dp dq cy∧Zm 27 1 ag ao b7 #[.string ab.1,.slice bj ab.2.1.length bf,.slice bk ab.2.2.1.length bg,.slice bm ab.2.2.2.1.length bh,.slice bn ab.2.2.2.2.length bi]∧Zc (Za.int .u32) 79 3 ag ao av aw al∧Zc (Za.int .u32) 79 4 ag ao ax ay am∧Zm 47 2 ag ao b8 #[.bool a6,.slice av al.length aw,.slice ax am.length ay]∧Sl (Za.int .i64) ag ao dt du b4∧Zc (Za.int .u32) 79 5 ag ao bz b0 ba∧Zc (Za.int .u32) 79 6 ag ao b1 b2 bb∧Zm 47 7 ag ao cx #[.bool bx,.slice bz ba.length b0,.slice b1 bb.length b2]∧[64,12].map f=[.int .i64 b5,.int .i64 ci]) b4.length ⟨_,0,0,_,rfl,rfl,hm,aa,bc,ac,ae,af,ad,a3,ai,aj,ah,rfl⟩ ?_;clear hm;intro n f ao hI;obtain ⟨ag,ci,b5,b6,hn,hl,hm,aa,bc,ac,ae,af,ad,a3,ai,aj,ah,hs⟩:=hI;subst hn;refine .lL [64,12] hs ?_
   cases b6 with
   | nil=>
    have hk:¬ ((b5:Int)<(b4.length:Int)):=by have:=List.drop_eq_nil_iff.1 hl;omega
    have hkb:=decide_eq_false hk;rw [Za7.eq_1] at hm;refine go ?_;refine Yf (congrArg Value.bool hkb)<|go ?_;refine Wh (col:=ag) [(0,0),(1,1),(2,1),(3,1),(4,0),(5,1),(6,1),(7,0),(8,1),(9,1),(10,1),(11,1),(12,1),(13,0),(14,1),(15,1),(16,0),(17,3),(18,3),(19,2)] (by kernel_rfl) (by kernel_rfl)<|xv rfl rfl (fun _ hC=>Z7 isAgg47 sizeOf47 (ah.gr (hC.bl ag))) ?_;refine xu rfl rfl (fun _=>Vf rfl) ?_;refine xu rfl rfl (fun _=>Wj rfl) ?_;refine xF ⟨_,_,rfl⟩ ?_;refine xW (fun _ hC=>((ac.atN).nth (q:=2) rfl).gr (hC.bl ag)) ?_;refine xu rfl rfl (fun _=>Wj rfl) ?_;obtain ⟨e6,b9,hm⟩:=bZ hm;refine xu rfl rfl (fun _=>Wi underlying23 sizeOf22 rfl rfl (Xn b9).1 (Xn b9).2.1 ((au.ks aa).addr b9)) ?_;obtain ⟨_,dv,dw⟩:=(au.ks aa).atN b9;obtain ⟨⟨e7,e8,rfl,e9⟩,_⟩:=dv;refine xW (fun _ hC=>dw.one.gr (hC.bl ag)) ?_;refine xu rfl rfl (fun _=>U9 underlying22 rfl) ?_;refine xu rfl rfl (fun _=>Ziv _ _ rfl rfl) ?_;refine xu rfl rfl (fun _=>Vf rfl) ?_;refine xu rfl rfl (fun _=>Wj rfl) ?_;obtain ⟨fa,ca,hm⟩:=bZ hm;refine xu rfl rfl (fun _=>Wi underlying40 sizeOf3 rfl rfl (Xn ca).1 (Xn ca).2.1 ((h1.ks aa).addr ca)) ?_;refine xW (fun _ hC=>((h1.ks aa).gr (hC.bl ag)).atInt ca) ?_;refine xu rfl rfl (fun _=>Qy _ _ rfl rfl) ?_;obtain ⟨cj,cb,hm⟩:=bZ hm;refine xu rfl rfl (fun _=>Wi underlying56 sizeOf47 rfl rfl (Xn cb).1 (Xn cb).2.1 (bc.addr cb)) ?_;obtain ⟨_,dx,dy⟩:=bc.atN cb;obtain ⟨_,_,rfl,dz,d0⟩:=Yi dx;obtain ⟨_,_,rfl,d1,d2⟩:=Yi dz;obtain ⟨rfl,_⟩:=d1;obtain ⟨⟨d3,d4,rfl,ck⟩,_⟩:=d2;obtain ⟨⟨d5,d6,rfl,cl⟩,_⟩:=d0;refine xv (v:=(.agg #[.bool cj.1.1,.slice d3 cj.1.2.length d4,.slice d5 cj.2.length d6])) rfl rfl (fun _ hC=>Yj isAgg47 sizeOf47 rfl rfl (dy.gr (hC.bl ag))) ?_;refine xe rfl rfl ?_;intro fb hC0;have hC:=hC0.bl ag;obtain ⟨fc,d7,hm⟩:=bZ hm;replace ck:=ck.gr hC;replace cl:=cl.gr hC;refine Zi (Zrc d7 ck cl) ?_;rintro _ fd ⟨bq,fe,ff,fg,fh,rfl,a2,cn,co⟩;refine ⟨_,rfl,?_⟩;refine Zk<|Xp bq hC0 a2<|xe rfl rfl ?_;intro d8 hC0;replace ae:=(ae.gr hC).gr a2;replace af:=(af.gr hC).gr a2;replace ai:=(ai.gr hC).gr a2;replace aj:=(aj.gr hC).gr a2;replace ac:=(ac.gr hC).gr a2;replace ad:=(ad.gr hC).gr a2;replace ah:=(ah.gr hC).gr a2;replace aa:=(aa.grow hC).grow a2
    have hC:=hC0.bl bq;obtain ⟨fi,d9,hm⟩:=bZ hm;replace ai:=ai.gr hC;replace aj:=aj.gr hC;replace cn:=cn.gr hC;replace co:=co.gr hC;refine Zi (Z0a 8 9 d9 ((ai.toSlF (Zn.int .u32)).froz 6) ((aj.froz 5 (by decide)).toSlF (Zn.int .u32)) ((cn.froz 5).froz 6) ((co.froz 5).froz 6)) ?_;rintro _ fj ⟨ea,fk,fl,fm,fn,rfl,ap,aq,ar⟩;refine ⟨_,rfl,?_⟩;replace aq:=aq.thaw (Z3 .u32) ap (((Fz.refl (col:=bq)).froz 5).froz 6) (by decide);replace ar:=ar.thaw (Z3 .u32) ap (((Fz.refl (col:=bq)).froz 5).froz 6) (by decide);replace ap:=ap.thawR (col:=bq);generalize Xf d8.heap.size bq ea=cc at *;refine Zk<|Xp cc hC0 ap<|xe rfl rfl ?_;intro fp hC0;replace ae:=(ae.gr hC).gr ap;replace af:=(af.gr hC).gr ap;replace ac:=(ac.gr hC).gr ap;replace ad:=(ad.gr hC).gr ap;replace ah:=(ah.gr hC).gr ap;replace aa:=(aa.grow hC).grow ap;have hC:=hC0.bl cc;replace ah:=ah.gr hC;refine Z4 ah ?_;intro fq bd eb be;refine Zk<|xk cc<|Y9 ?_;replace ae:=(ae.gr hC).kp bd;replace af:=(af.gr hC).kp bd;replace aq:=(aq.gr hC).kp bd;replace ar:=(ar.gr hC).kp bd;replace ac:=(ac.gr hC).kp bd;replace ad:=(ad.gr hC).kp bd;replace aa:=(aa.grow hC).kp bd eb;intro fr hC;replace hC:=hC.bl cc;refine go ?_;replace ae:=ae.gr hC;replace ae:=ae.recol 8 5 (by decide);replace af:=af.gr hC;replace af:=af.recol 8 5 (by decide);replace aq:=aq.gr hC;replace aq:=aq.recolSelf 5 (by decide);replace ar:=ar.gr hC;replace ar:=ar.recol 8 5 (by decide);replace ac:=ac.gr hC;replace ac:=ac.recol 8 5 (by decide);replace ad:=ad.gr hC;replace ad:=ad.recol 8 5 (by decide);replace be:=be.gr hC;replace be:=be.recol 8 5 (by decide);replace aa:=aa.grow hC;replace aa:=aa.recol 8 5 (by decide) (by decide);replace ae:=ae.recol 9 6 (by decide);replace af:=af.recol 9 6 (by decide);replace aq:=aq.recol 9 6 (by decide);replace ar:=ar.recolSelf 6 (by decide);replace ac:=ac.recol 9 6 (by decide);replace ad:=ad.recol 9 6 (by decide);replace be:=be.recol 9 6 (by decide);replace aa:=aa.recol 9 6 (by decide) (by decide);exact ⟨cz.length,by simp,rfl,⟨_,_,_,_,_,_,_,_,_,_,rfl,dk,hm,aa,ac,ae,af,ad,aq,ar,be,(Y1 (congrArg (Value.int .i64) (Yy (Nat.lt_of_lt_of_le dl (bo.ks aa).1.1))) rfl)⟩⟩
   | cons ft ec=>
    obtain ⟨an,ed,ee⟩:=Yw hl;have hk:(b5:Int)<(b4.length:Int):=by omega
    have hkb:=decide_eq_true hk;rw [Za7.eq_2] at hm;refine go ?_;refine Yg (congrArg Value.bool hkb)<|go ?_;refine lI an (a3.addr an)<|lW (a3.atInt an) ?_;refine go ?_;refine Wd (col:=ag) (by kernel_rfl) (by kernel_rfl)<|go ?_;refine qF ⟨_,_,rfl⟩ ?_;refine qW (fun _ hC=>((ac.atN).nth (q:=2) rfl).gr (hC.bl ag)) ?_;refine go ?_;obtain ⟨fu,cp,hm⟩:=bZ hm;refine qI cp ((au.ks aa).addr cp) ?_;obtain ⟨_,ef,eg⟩:=(au.ks aa).atN cp;obtain ⟨⟨fv,fw,rfl,fx⟩,_⟩:=ef;refine qW (fun _ hC=>eg.one.gr (hC.bl ag)) ?_;refine go ?_;obtain ⟨fy,cq,hm⟩:=bZ hm;refine qI cq ((h1.ks aa).addr cq)<|qW (fun _ hC=>((h1.ks aa).gr (hC.bl ag)).atInt cq) ?_;refine go ?_;refine X7 ?_;intro fz hC;replace hC:=hC.bl ag;refine go ?_;replace bc:=bc.gr hC;replace ae:=ae.gr hC;replace af:=af.gr hC;replace a3:=a3.gr hC;replace ai:=ai.gr hC;replace aj:=aj.gr hC;replace ac:=ac.gr hC;replace ad:=ad.gr hC;replace ah:=ah.gr hC;replace aa:=aa.grow hC;exact ⟨ec.length,by simp,rfl,⟨_,_,_,_,rfl,ed,hm,aa,bc,ac,ae,af,ad,a3,ai,aj,ah,(Y1 (congrArg (Value.int .i64) (Yy (Nat.lt_of_lt_of_le ee a3.1.1))) rfl)⟩⟩
 | cons eh c0=>
  obtain ⟨an,ei,ej⟩:=Yw hl;have hk:(a5:Int)<(ak.length:Int):=by omega
  have hkb:=decide_eq_true hk;rw [Qk.eq_2] at hm;refine go ?_;refine Yg (congrArg Value.bool hkb)<|go ?_;refine lI an ((h1.ks aa).addr an)<|lW ((h1.ks aa).atInt an)<|Y8 rfl<|Y8 rfl<|Zk<|Z0 ?_;refine Wp.cutK [1,2,28,29,30,4,1000000] (fun f br=>∃ bs cr,Zg6 a5 a6 al am (Qk N ab ak c0) cr=some r∧St w0 (Zh col) bs br∧Zm 27 1 bs br b7 #[.string ab.1,.slice bj ab.2.1.length bf,.slice bk ab.2.2.1.length bg,.slice bm ab.2.2.2.1.length bh,.slice bn ab.2.2.2.2.length bi]∧Zc (Za.int .u32) 79 3 bs br av aw al∧Zc (Za.int .u32) 79 4 bs br ax ay am∧Zm 47 2 bs br b8 #[.bool a6,.slice av al.length aw,.slice ax am.length ay]∧[46].map f=[.bool cr]) ?_ ?_
  ·intro f br hJ;obtain ⟨bs,cr,hm,aa,ac,ae,af,ad,hs⟩:=hJ;rw [Zg6.eq_1] at hm;refine .lL [46] hs ?_;refine Zo hm (fun hb hm=>go ?_) fun hb hm=>go ?_
   ·refine lV (.agg #[.bool false,.slice none (([]:List Int).length) 0,.slice none (([]:List Int).length) 0]) (Yz (l:=[_,_]) (qs:=[(0,2),(2,1)]) underlying47 zeroValue47 ⟨rfl,sizeOf45,rfl,sizeOf43,trivial⟩ rfl)<|Z4 ad ?_;intro f0 ek el em;refine go ?_;cases hm;replace aa:=aa.kp ek el;exact ⟨rfl,_,W7 em.atN,_,none,0,none,0,rfl,aa.fin (cm []),Zc.nil,Zc.nil⟩
   exact ⟨c0.length,by simp,rfl,⟨_,_,_,_,_,_,_,_,_,_,rfl,ei,hm,aa,ac,ae,af,ad,(Y1 (congrArg (Value.int .i64) (Yy (Nat.lt_of_lt_of_le ej (h1.ks aa).1.1))) rfl)⟩⟩
  refine go ?_;refine Xt hm (fun cs hm=>go ?_) fun cs hm=>go ?_
  ·refine lV (.bool true) (Xb (congrArg Value.bool cs) rfl)<|Zk ?_;exact ⟨rfl,_,_,hm,aa,ac,ae,af,ad,rfl⟩
  refine Xd ⟨_,_,rfl⟩ ?_;refine go ?_;refine lW ((ac.atN).nth (q:=2) rfl)<|go ?_;obtain ⟨en,ct,hm⟩:=bZ hm;refine lI ct ((au.ks aa).addr ct) ?_;refine go ?_;obtain ⟨_,eo,ep⟩:=(au.ks aa).atN ct;obtain ⟨⟨f1,f2,rfl,f3⟩,_⟩:=eo;refine lW ep.one<|go ?_;refine lV (.bool (decide ((en.length:Int)≤eh))) (Xm (congrArg Value.bool cs) rfl)<|Zk ?_;exact ⟨rfl,_,_,hm,aa,ac,ae,af,ad,rfl⟩
def ent (n:Xe) (w:List Int) (v:Nat):Rat:=Z5 ((Vo n w v).getD (w.getD v 0).toNat ((false,[]),[]))
def Vv (n:Xe) (w:List Int):Nat→Nat→Rat→Rat
 | 0,_,q=>q
 | m+1,k,q=>Vv n w m (k+1) (q * ent n w k)
section
variable {N:Nat} {n:Xe} (hf:Y4 N n) {w:List Int} (hw:Uq n w)
include hf hw
variable {W K:Nat} (hs:W4 n W) (hr:Xh N (8 * K+40)) (hWK:1025 * (W+2)+4≤K)
include hs hr hWK
omit hr hWK in
theorem Zs0 {k:Nat} (hk:k<n.2.1.length):qs (ent n w k)≤W+1:=by
 have hwv:=hw.ok k (by rw [hw.len];exact hk)
 have hq:(w.getD k 0).toNat<(Vo n w k).length:=by rw [hf.rowT_len hw hk];omega
 rw [ent,Yb hq]
 obtain ⟨h1,h2⟩:=Zl3 hf hs hk _ (Zm4 (List.getElem_mem hq))
 have:=Zp1 h1
 omega
omit hs hr hWK in
theorem Zr5 {k:Nat} (hk:k<n.2.1.length) (a:Bool) (b c:List Int) (kk:Nat→Bool→List Int→List Int→Option (QV×Int)) (t:List QV):∀ (ps:List Int) (r kb:Nat),(∀ q ∈ ps,0≤q∧q<(n.2.1.length:Int))→r<kb→kb≤65536→Ys n.2.2.1 ps kb≤65536→
  Za7 N n w k a b c kk t ps (r:Int)=Za7 N n w k a b c kk t [] (S3 n w ps r:Int)
 | [],r,kb,_,_,_,_=>rfl
 | p :: ps,r,kb,hp,h1,h2,h3=>by
  obtain ⟨g1,g2,g3⟩:=Zqe hf.ev hw hp h1 h2 h3
  have hpp:=hp p List.mem_cons_self
  have hwp:=hw.ok p.toNat (by rw [hw.len];omega)
  have g4:r * cnt n p.toNat≤kb * cnt n p.toNat:=Nat.mul_le_mul_right _ (by omega)
  have q1:Zj n.2.2.1 p=some (n.2.2.1.getD p.toNat []):=by
   have:=Vk (l:=n.2.2.1) [] (j:=p.toNat) (by rw [hf.ev.v];omega)
   rwa [show ((p.toNat:Nat):Int)=p by omega] at this
  have q2:Zj w p=some (w.getD p.toNat 0):=by
   have:=Vk (l:=w) 0 (j:=p.toNat) (by rw [hw.len];omega)
   rwa [show ((p.toNat:Nat):Int)=p by omega] at this
  have e1:i64.wrap ((r:Int) * ((n.2.2.1.getD p.toNat []).length:Int))=((r * cnt n p.toNat:Nat):Int):=by
   rw [show ((n.2.2.1.getD p.toNat []).length:Int)=((cnt n p.toNat:Nat):Int) from rfl,← Int.natCast_mul]
   exact Zr (by omega)
  have e2:i64.wrap (((r * cnt n p.toNat:Nat):Int)+w.getD p.toNat 0)=((r * cnt n p.toNat+(w.getD p.toNat 0).toNat:Nat):Int):=by
   rw [Int.natCast_add,show (((w.getD p.toNat 0).toNat:Nat):Int)=w.getD p.toNat 0 by omega]
   exact Zr (by omega)
  rw [Za7.eq_2,q1,oB,q2,oB,e1,e2]
  exact Zr5 hk a b c kk t ps _ _ (fun q hq=>hp q (List.mem_cons_of_mem _ hq)) g1 g2 g3
theorem Zr4:∀ (l:List (List QV)) (k:Nat) (q:Rat),n.2.2.2.2.drop k=l→k≤n.2.1.length→qs q≤k * (W+1)+1→Za6 N n w l k (Zs q).1.1 (Zs q).1.2 (Zs q).2=some (Zs (Vv n w l.length k q),0)
 | [],k,q,_,_,_=>rfl
 | t :: l,k,q,hd,hk,hq=>by
  have ht:=hf.ev.t
  have hle:=hf.le
  have hk1:k<n.2.2.2.2.length:=by
   rcases Nat.lt_or_ge k n.2.2.2.2.length with h | h
   ·exact h
   ·rw [List.drop_eq_nil_of_le h] at hd;cases hd
  have hv:k<n.2.1.length:=by omega
  rw [List.drop_eq_getElem_cons hk1] at hd
  obtain ⟨e1,e2⟩:=List.cons.inj hd
  have htd:n.2.2.2.2.getD k []=t:=by rw [Yb hk1];exact e1
  have hrows:=hf.rows hv
  have hrow:=hf.row hw hv
  have hwk:=hw.ok k (by rw [hw.len];exact hv)
  have h2:=Zr5 hf hw hv (Zs q).1.1 (Zs q).1.2 (Zs q).2 (Za6 N n w l) t (n.2.2.2.1.getD k []) 0 1 (hf.pars hv) (by omega) (by omega) hrows.2.2
  rw [show ((0:Nat):Int)=0 from rfl] at h2
  have hj:(w.getD k 0).toNat<(Vo n w k).length:=by rw [hf.rowT_len hw hv];omega
  have e3:i64.wrap ((Vn n w k:Int) * ((n.2.2.1.getD k []).length:Int))=((Vn n w k * cnt n k:Nat):Int):=by
   rw [show ((n.2.2.1.getD k []).length:Int)=((cnt n k:Nat):Int) from rfl,← Int.natCast_mul]
   exact Zr (by omega)
  have e4:i64.wrap (((Vn n w k * cnt n k:Nat):Int)+w.getD k 0)=((Vn n w k * cnt n k+(w.getD k 0).toNat:Nat):Int):=by
   rw [Int.natCast_add,show (((w.getD k 0).toNat:Nat):Int)=w.getD k 0 by omega]
   exact Zr (by omega)
  have hat:Zj t ((Vn n w k * cnt n k+(w.getD k 0).toNat:Nat):Int)=some (Vo n w k)[(w.getD k 0).toNat]:=by
   rw [← htd];exact Zyf hj
  obtain ⟨y,hy⟩:∃ y,y=(Vo n w k)[(w.getD k 0).toNat]:=⟨_,rfl⟩
  obtain ⟨y1,y2⟩:=Zl3 hf hs hv y (Zm4 (hy ▸ List.getElem_mem hj))
  have he:ent n w k=Z5 y:=by rw [ent,Yb hj,hy]
  have hmul:k * (W+1)≤1024 * (W+1):=Nat.mul_le_mul_right _ (by omega)
  have hfit:Wy (Wt y):=by
   rw [Wt];split
   ·exact ⟨y1.1,by simp [Zp]⟩
   ·exact y1
  have hfk:RV (W+1) (Wt y):=by
   refine ⟨hfit.1,hfit.2,?_,?_⟩
   ·rw [Wt];split
    ·simp only;omega
    ·omega
   ·rw [Wt];split
    ·simp
    ·omega
  have f1:Zck N ((y.1.1,y.1.2),y.2)=some (Wt y):=Zs9 y1 y2 (hr.mono (by omega))
  have m1:Zgx N (((Zs q).1.1,(Zs q).1.2),(Zs q).2) (((Wt y).1.1,(Wt y).1.2),(Wt y).2)=some (Zs (q * ent n w k)):=by
   have:=Z3s (T4 hq) hfk (hr.mono (by omega))
   rwa [V4,Zo4,← he] at this
  have hqs:=Zpz q (ent n w k)
  have hqe:=Zs0 hf hw hs hv
  have ih:=Zr4 l (k+1) (q * ent n w k) e2 (by omega) (by rw [Nat.add_mul,Nat.one_mul];omega)
  rw [Za6.eq_2,Vk [] (by rw [hf.ev.p];exact hv),oB,h2,← Vn,Za7.eq_1,Vk [] (by rw [hf.ev.v];exact hv),oB,Vk 0 (by rw [hw.len];exact hv),oB,e3,e4,hat,← hy,oB,f1,oB,m1,oB,nC,Vv]
  exact ih
end
theorem Zr3 {N:Nat} {n:Xe} (he:Td n) (hl:n.2.1.length≤1048576) (w:List Int) (hw:w.length=n.2.1.length):∀ (l:List Int) (k:Nat) (b:Bool) (l1 l2:List Int),w.drop k=l→k≤w.length→Qk N n w l k b l1 l2=if Se n l k=true then Qk N n w [] w.length b l1 l2 else some (((false,([]:List Int)),([]:List Int)),3)
 | [],k,b,l1,l2,hd,h1=>by
  have:=List.drop_eq_nil_iff.1 hd
  rw [Se,if_pos rfl,show k=w.length by omega]
 | x :: l,k,b,l1,l2,hd,h1=>by
  have hk:k<w.length:=by
   rcases Nat.lt_or_ge k w.length with h | h
   ·exact h
   ·rw [List.drop_eq_nil_of_le h] at hd;cases hd
  rw [List.drop_eq_getElem_cons hk] at hd
  obtain ⟨e1,e2⟩:=List.cons.inj hd
  rw [Qk.eq_2,Se]
  by_cases hx:x<0
  ·rw [if_pos (dT hx),Zg6,if_pos rfl,decide_eq_true hx];rfl
  ·rw [if_neg (dF hx),Vk [] (by rw [he.v];omega),oB,Zg6,decide_eq_false hx]
   by_cases hc:(cnt n k:Int)≤x
   ·rw [show ((n.2.2.1.getD k []).length:Int)=(cnt n k:Int) from rfl,decide_eq_true hc,if_pos rfl];rfl
   ·rw [show ((n.2.2.1.getD k []).length:Int)=(cnt n k:Int) from rfl,decide_eq_false hc,if_neg (by decide),Zr3 he hl w hw l (k+1) b l1 l2 e2 (by omega)];rfl
theorem Z2i {N W K:Nat} {n:Xe} (hf:Y4 N n) (hs:W4 n W) (hr:Xh N (8 * K+40)) (hWK:1025 * (W+2)+4≤K) (hN:2000000<N) (hC:Tw N n=some 0) (w:List Int):
  ∃ p e,Zg5 N n w=some (p,e)∧((e≠0∧(decide (w.length=n.2.1.length)&&Se n w 0)=false)∨(e=0∧Uq n w∧p=Zs (Vv n w n.2.1.length 0 1))):=by
 have hC':Tw N (n.1,n.2.1,n.2.2.1,n.2.2.2.1,n.2.2.2.2)=some 0:=hC
 have hle:=hf.le
 rw [Zg5,hC',oB,if_neg (by decide)]
 by_cases hlen:w.length=n.2.1.length
 ·rw [if_neg (show ¬ (!decide ((w.length:Int)=(n.2.1.length:Int)))=true by rw [decide_eq_true (by omega)];decide),Zr3 hf.ev (by omega) w hlen w 0 false [] [] rfl (Nat.zero_le _)]
  cases hin:Se n w 0 with
  | false=>rw [if_neg (show ¬ false=true by decide)];exact ⟨_,3,rfl,.inl ⟨by decide,by simp⟩⟩
  | true=>
   have hw:=Z34 hlen hin
   have h2:=Zr4 hf hw hs hr hWK n.2.2.2.2 0 1 rfl (Nat.zero_le _) (by rw [Zp0];omega)
   rw [if_pos rfl,Qk.eq_1,Zpk (hr.mono (by omega)),oB,h2,hf.ev.t]
   exact ⟨_,0,rfl,.inr ⟨rfl,hw,rfl⟩⟩
 ·rw [if_pos (show (!decide ((w.length:Int)=(n.2.1.length:Int)))=true by rw [decide_eq_false (by omega)];rfl)]
  exact ⟨_,60,rfl,.inl ⟨by decide,by rw [decide_eq_false hlen];rfl⟩⟩
def Zcj:List R7→R2→Option R2
  | [],aa=>some aa
  | ab :: ac,aa=>Zv ((aa.length+[(ab.length:Int)].length) * 8≤140737488355328∧aa.length+[(ab.length:Int)].length≤maxLen) ((Zcj ac) (aa++[(ab.length:Int)]))
termination_by structural x=>x
def Zea (aa:R0):Option R2:=
  Zcj aa.2.2.1 ([]:List Int)
theorem Z0q {am an ao ap:Nat} {aq ar au av:Option Addr} {col:Zd} {w0:World} {aa:R0} {r:R2} (c1:Nat) (hm:Zea aa=some r) (a9:Sl Za.str col w0 aq am aa.2.1) (ac:Sl (Za.slice Za.str) col w0 ar an aa.2.2.1) (ba:Sl (Za.slice (Za.int .i64)) col w0 au ao aa.2.2.2.1) (bb:Sl (Za.slice (Za.pair (Za.pair Za.bool (Za.slice (Za.int .u32))) (Za.slice (Za.int .u32)))) col w0 av ap aa.2.2.2.2):
    Calls prog 237 #[(.agg #[.string aa.1,.slice aq aa.2.1.length am,.slice ar aa.2.2.1.length an,.slice au aa.2.2.2.1.length ao,.slice av aa.2.2.2.2.length ap])] w0 (fun e w'=>∃ (col':Zd) (ra1:Option Addr) (rc2:Nat),e= .returned ((.slice ra1 r.length rc2))∧Zg col w0 col' w'∧Zc (Za.int .i64) 3 c1 col' w' ra1 rc2 r):=by
 refine Xc 2 (m:=20) func237 rfl rfl rfl rfl rfl ?_;rw [Zea.eq_1] at hm;have ab:=St.start col w0;refine go ?_;refine Xg (col:=(Zh col)) 1 rfl ?_;intro bc bd be ax ay;refine go ?_;refine Xa ay ?_;refine go ?_;replace ab:=ab.grow ax;refine Zw [7,8,1000000] (fun n f ai=>∃ af aj ak ag ad ae,n=ae.length∧aa.2.2.1.drop ad=ae∧Zcj ae ag=some r∧St w0 (Zh col) af ai∧Zc (Za.int .i64) 3 2 af ai aj ak ag∧[9,3].map f=[.int .i64 ad,.slice aj ag.length ak]) aa.2.2.1.length ⟨_,none,0,_,0,_,rfl,rfl,hm,ab,Zc.nil,rfl⟩ ?_;clear hm;intro n f ai hI;obtain ⟨af,aj,ak,ag,ad,ae,hn,hl,hm,ab,ah,hs⟩:=hI;subst hn;refine .lL [9,3] hs ?_;replace ac:=ac.keep (Zf.start col w0)
 cases ae with
 | nil=>
  have hk:¬ ((ad:Int)<(aa.2.2.1.length:Int)):=by have:=List.drop_eq_nil_iff.1 hl;omega
  have hkb:=decide_eq_false hk;rw [Zcj.eq_1] at hm;refine go ?_;refine Yf (congrArg Value.bool hkb)<|go ?_;cases hm;exact ⟨rfl,_,_,_,rfl,ab.fin (cm [(2,c1)]),ab.fo ah⟩
 | cons az a0=>
  obtain ⟨al,a1,a2⟩:=Yw hl;have hk:(ad:Int)<(aa.2.2.1.length:Int):=by omega
  have hkb:=decide_eq_true hk;rw [Zcj.eq_2] at hm;refine go ?_;refine Yg (congrArg Value.bool hkb)<|go ?_;refine lI al ((ac.ks ab).addr al) ?_;obtain ⟨_,a3,a4⟩:=(ac.ks ab).atN al;obtain ⟨⟨bf,bg,rfl,bh⟩,_⟩:=a3;refine lW a4.one<|go ?_;refine W1 (col:=af) [(az.length:Int)] 3 ?_;intro bi bj bk aw a5;obtain ⟨a6,hm⟩:=Zx hm;replace ah:=ah.gr aw;refine Y3 ah (a5.srcN (NB.int (k:=.i64))) a6 ?_;intro bm bn bo bp a7 a8;refine go ?_;replace ab:=(ab.grow aw).kpp a7;exact ⟨a0.length,by simp,rfl,⟨_,_,_,_,_,_,rfl,a1,hm,ab,a8,(Y1 (congrArg (Value.int .i64) (Yy (Nat.lt_of_lt_of_le a2 (ac.ks ab).1.1))) rfl)⟩⟩
theorem Z28:Wf prog 3 1 8:=⟨Tryz.t3,_,rfl,rfl,rfl,rfl,rfl⟩
def Zcg (aa:List Int) (ab:Bool):Option Rf:=
  if ab=true then (some (([]:List Int),4)) else (some (aa,0))
def Qj (aa:List Int):List Int→(List Bool)→Option Rf
  | [],ab=>(Zc9 aa).bind fun ac=>if (!decide (ac.2=0))=true then (Zcg aa true) else (Zcg aa (decide (65536<ac.1)))
  | ad :: ae,ab=>(Zj ab ad).bind fun af=>if af=true then (some (([]:List Int),40)) else ((some (ab.set (Int.toNat ad) true)).bind fun ag=>(Qj aa ae) ag)
termination_by structural x=>x
def Za3 (ab:List Int):List R5→R2→Option Rf
  | [],aa=>Qj ab aa (List.replicate ab.length (false:Bool))
  | ac :: ad,aa=>Zv ((0:Int)≤0∧0≤(aa.length:Int)∧(aa.length:Int)≤(aa.length:Int)∧(aa.length:Int)≤(aa.length:Int)) (Zv (((aa.take (Int.toNat (aa.length:Int))).length+[ac.1].length) * 8≤140737488355328∧(aa.take (Int.toNat (aa.length:Int))).length+[ac.1].length≤maxLen) ((Za3 ab ad) ((aa.take (Int.toNat (aa.length:Int)))++[ac.1])))
termination_by structural x=>x
def Zgz (kk_L2:(Option Rf)) (aa:Bool):Option Rf:=
  if aa=true then (some (([]:List Int),3)) else kk_L2
def Sj (ab:Rc) (ac:List Int) (aa:List Int):List Int→Option Rf
  | []=>Zv (aa.length * 1≤281474976710656∧aa.length≤maxLen) (Za3 aa ab ac)
  | ad :: ae=>if (decide (ad<0))=true then (Zgz (Sj ab ac aa ae) true) else (Zgz (Sj ab ac aa ae) (decide ((aa.length:Int)≤ad)))
termination_by structural x=>x
def Zad (kk_L1:(Option Rf)) (aa:Bool):Option Rf:=
  if aa=true then (some (([]:List Int),3)) else kk_L1
def Tv (ac:Rc) (ab:List Int) (aa:List Int):List R5→Option Rf
  | []=>Sj ac ab aa ab
  | ad :: ae=>if (decide (ad.1<0))=true then (Zad (Tv ac ab aa ae) true) else (if (decide ((aa.length:Int)≤ad.1))=true then (Zad (Tv ac ab aa ae) true) else (if (decide (ad.2<0))=true then (Zad (Tv ac ab aa ae) true) else ((Zj aa ad.1).bind fun af=>Zad (Tv ac ab aa ae) (decide (af≤ad.2)))))
termination_by structural x=>x
def Tj (N:Nat) (aa:R0) (ab:Rc) (ad:List Int):Option Rf:=
  (Tw N (aa.1,aa.2.1,aa.2.2.1,aa.2.2.2.1,aa.2.2.2.2)).bind fun ac=>if (!decide (ac=0))=true then (some (([]:List Int),ac)) else ((Zea (aa.1,aa.2.1,aa.2.2.1,aa.2.2.2.1,aa.2.2.2.2)).bind fun ae=>Tv ab ad ae ab)
theorem Zof {N bx bz b0 b1 b2 b3:Nat} {b4 b5 b6 b7 a1 a2:Option Addr} {col:Zd} {w0:World} {af:R0} {ae:Rc} {ah:R2} {r:Rf} (c1:Nat) (hm:Tj N af ae ah=some r) (bf:Sl Za.str col w0 b4 bx af.2.1) (bg:Sl (Za.slice Za.str) col w0 b5 bz af.2.2.1) (bh:Sl (Za.slice (Za.int .i64)) col w0 b6 b0 af.2.2.2.1) (bi:Sl (Za.slice (Za.pair (Za.pair Za.bool (Za.slice (Za.int .u32))) (Za.slice (Za.int .u32)))) col w0 b7 b1 af.2.2.2.2) (h1:Sl (Za.pair (Za.int .i64) (Za.int .i64)) col w0 a1 b2 ae) (h2:Sl (Za.int .i64) col w0 a2 b3 ah):
    Calls prog 138 #[(.agg #[.string af.1,.slice b4 af.2.1.length bx,.slice b5 af.2.2.1.length bz,.slice b6 af.2.2.2.1.length b0,.slice b7 af.2.2.2.2.length b1]),.slice a1 ae.length b2,.slice a2 ah.length b3] w0 (fun e w'=>∃ (col':Zd) (ra1:Option Addr) (rc2:Nat),e= .returned (.tuple #[.slice ra1 r.1.length rc2,.int .i64 r.2])∧Zg col w0 col' w'∧Zc (Za.int .i64) 3 c1 col' w' ra1 rc2 r.1):=by
 refine Zdr 6 7 (m:=121) (args:=[(.agg #[.string af.1,.slice b4 af.2.1.length bx,.slice b5 af.2.2.1.length bz,.slice b6 af.2.2.2.1.length b0,.slice b7 af.2.2.2.2.length b1]),.slice a1 ae.length b2,.slice a2 ah.length b3]) func138 rfl rfl rfl rfl rfl ?_;rw [Tj.eq_1] at hm;have aa:=St.start col w0;refine go ?_;refine Xg (col:=(Zh col)) 1 rfl ?_;intro d9 c6 cu c7 bj;refine go ?_;refine lV _ (Z7 isAgg27 sizeOf27 bj) ?_;obtain ⟨ea,c8,hm⟩:=bZ hm;replace bf:=bf.keep (Zf.start col w0);replace bg:=bg.keep (Zf.start col w0);replace bh:=bh.keep (Zf.start col w0);replace bi:=bi.keep (Zf.start col w0);replace aa:=aa.grow c7;refine Zi (Zrb c8 (bf.ks aa) (bg.ks aa) (bh.ks aa) (bi.ks aa)) ?_;rintro _ c9 ⟨rfl,bk⟩;refine ⟨_,rfl,?_⟩;replace bk:Zg cu c6 cu c9:=.of_below bk;refine go ?_;replace h1:=h1.keep (Zf.start col w0);replace h2:=h2.keep (Zf.start col w0);replace bj:=bj.gr bk;replace aa:=aa.grow bk;refine Zo hm (fun hb hm=>go ?_) fun hb hm=>go ?_
 ·cases hm;exact ⟨rfl,_,none,0,rfl,aa.fin (cm []),Zc.nil⟩
 refine lV _ (Z7 isAgg27 sizeOf27 bj) ?_;obtain ⟨ad,da,hm⟩:=bZ hm;refine Zi (Z0q 2 da (bf.ks aa) (bg.ks aa) (bh.ks aa) (bi.ks aa)) ?_;rintro _ eb ⟨ec,al,am,rfl,db,ab⟩;refine ⟨_,rfl,go ?_⟩;replace aa:=aa.grow db;refine Zw [1,2,28,29,9,1000000] (fun n f b8=>∃ bm aw ax,n=ax.length∧ae.drop aw=ax∧Tv ae ah ad ax=some r∧St w0 (Zh col) bm b8∧Zc (Za.int .i64) 3 2 bm b8 al am ad∧[30].map f=[.int .i64 aw]) ae.length ⟨_,0,_,rfl,rfl,hm,aa,ab,rfl⟩ ?_;clear hm;intro n f b8 hI;obtain ⟨bm,aw,ax,hn,hl,hm,aa,ab,hs⟩:=hI;subst hn;refine .lL [30] hs ?_
 cases ax with
 | nil=>
  have hk:¬ ((aw:Int)<(ae.length:Int)):=by have:=List.drop_eq_nil_iff.1 hl;omega
  have hkb:=decide_eq_false hk;rw [Tv.eq_1] at hm;refine go ?_;refine Yf (congrArg Value.bool hkb)<|go ?_;refine Zw [1,2,60,61,9,1000000] (fun n f bn=>∃ bo ay az,n=az.length∧ah.drop ay=az∧Sj ae ah ad az=some r∧St w0 (Zh col) bo bn∧Zc (Za.int .i64) 3 2 bo bn al am ad∧[62].map f=[.int .i64 ay]) ah.length ⟨_,0,_,rfl,rfl,hm,aa,ab,rfl⟩ ?_;clear hm;intro n f bn hI;obtain ⟨bo,ay,az,hn,hl,hm,aa,ab,hs⟩:=hI;subst hn;refine .lL [62] hs ?_
  cases az with
  | nil=>
   have hk:¬ ((ay:Int)<(ah.length:Int)):=by have:=List.drop_eq_nil_iff.1 hl;omega
   have hkb:=decide_eq_false hk;rw [Sj.eq_1] at hm;refine go ?_;refine Yf (congrArg Value.bool hkb)<|go ?_;obtain ⟨cv,hm⟩:=Zx hm;refine Sf (col:=bo) (w:=bn) (r:=Za.bool) (n:=ad.length) (x0:=false) 3 rfl underlying225 Tryz.t4 rfl rfl rfl rfl rfl rfl rfl cv.1 cv.2 (T3 false) ?_;intro dc ed ee cw ai;refine go ?_;replace ab:=ab.gr cw;replace aa:=aa.grow cw;refine Zw [14,78,79,9,1000000] (fun n f a0=>∃ ap an bp ac a3 a4,n=a4.length∧ae.drop a3=a4∧Za3 ad a4 ac=some r∧St w0 (Zh col) ap a0∧Zc Za.bool 4 3 ap a0 dc ad.length (List.replicate ad.length (false:Bool))∧Sl (Za.int .i64) ap a0 an bp ac∧Zc (Za.int .i64) 3 2 ap a0 al am ad∧[80,2].map f=[.int .i64 a3,.slice an ac.length bp]) ae.length ⟨_,_,_,_,0,_,rfl,rfl,hm,aa,ai,(h2.ks aa),ab,rfl⟩ ?_;clear hm;intro n f a0 hI;obtain ⟨ap,an,bp,ac,a3,a4,hn,hl,hm,aa,ai,aj,ab,hs⟩:=hI;subst hn;refine .lL [80,2] hs ?_
   cases a4 with
   | nil=>
    have hk:¬ ((a3:Int)<(ae.length:Int)):=by have:=List.drop_eq_nil_iff.1 hl;omega
    have hkb:=decide_eq_false hk;rw [Za3.eq_1] at hm;refine go ?_;refine Yf (congrArg Value.bool hkb)<|go ?_;refine Zw [9,95,96,1000000] (fun n f aq=>∃ ao a5 a6 ar a7 a8,n=a8.length∧ac.drop a7=a8∧Qj ad a8 ar=some r∧St w0 (Zh col) ao aq∧Zc Za.bool 4 3 ao aq a5 a6 ar∧Zc (Za.int .i64) 3 2 ao aq al am ad∧Sl (Za.int .i64) ao aq an bp ac∧[97,14].map f=[.int .i64 a7,.slice a5 ar.length a6]) ac.length ⟨_,_,_,_,0,_,rfl,rfl,hm,aa,ai,ab,aj,rfl⟩ ?_;clear hm;intro n f aq hI;obtain ⟨ao,a5,a6,ar,a7,a8,hn,hl,hm,aa,bq,ab,aj,hs⟩:=hI;subst hn;refine .lL [97,14] hs ?_
    cases a8 with
    | nil=>
     have hk:¬ ((a7:Int)<(ac.length:Int)):=by have:=List.drop_eq_nil_iff.1 hl;omega
     have hkb:=decide_eq_false hk;rw [Qj.eq_1] at hm;refine go ?_;refine Yf (congrArg Value.bool hkb)<|go ?_;obtain ⟨a9,dd,hm⟩:=bZ hm;refine Zi (Zrx dd (ab.toSlF (Zn.int .i64))) ?_;rintro _ de ⟨rfl,br⟩;refine ⟨_,rfl,?_⟩;replace br:Zg ao aq ao de:=.of_below br;refine lM (.tuple #[.int .i64 a9.1,.int .i64 a9.2])<|lV (.int .i64 a9.1) (Xv rfl rfl)<|lV (.int .i64 a9.2) (Xv rfl rfl)<|Y8 rfl<|Y8 rfl<|Zk<|Z0 ?_;replace ab:=ab.gr br;replace aa:=aa.grow br;refine Wp.cutK [9,1000000] (fun f b9=>∃ ca cb,Zcg ad cb=some r∧St w0 (Zh col) ca b9∧Zc (Za.int .i64) 3 2 ca b9 al am ad∧[119].map f=[.bool cb]) ?_ ?_
     ·intro f b9 hJ;obtain ⟨ca,cb,hm,aa,ab,hs⟩:=hJ;rw [Zcg.eq_1] at hm;refine .lL [119] hs ?_;refine Zo hm (fun hb hm=>go ?_) fun hb hm=>go ?_
      ·cases hm;exact ⟨rfl,_,none,0,rfl,aa.fin (cm []),Zc.nil⟩
      cases hm;exact ⟨rfl,_,_,_,rfl,aa.fin (cm [(2,c1)]),aa.fo ab⟩
     refine go ?_;refine Xt hm (fun cc hm=>go ?_) fun cc hm=>go ?_
     ·refine lV (.bool true) (Xb (congrArg Value.bool cc) rfl)<|Zk ?_;exact ⟨rfl,_,_,hm,aa,ab,rfl⟩
     refine lV (.bool (decide (65536<a9.1))) (Xm (congrArg Value.bool cc) rfl)<|Zk ?_;exact ⟨rfl,_,_,hm,aa,ab,rfl⟩
    | cons df dg=>
     obtain ⟨ag,dh,di⟩:=Yw hl;have hk:(a7:Int)<(ac.length:Int):=by omega
     have hkb:=decide_eq_true hk;rw [Qj.eq_2] at hm;refine go ?_;refine Yg (congrArg Value.bool hkb)<|go ?_;refine lI ag (aj.addr ag)<|lW (aj.atInt ag) ?_;refine go ?_;obtain ⟨ef,au,hm⟩:=bZ hm;refine lI au (bq.addr au)<|lW (bq.atBool au)<|Zk ?_;refine Zo hm (fun hb hm=>go ?_) fun hb hm=>go ?_
     ·cases hm;exact ⟨rfl,_,none,0,rfl,aa.fin (cm []),Zc.nil⟩
     refine lI au (bq.addr au) ?_;obtain ⟨cd,bs,hm⟩:=bZ hm;have bs:cd=ar.set (Int.toNat df) true:=(Option.some.inj bs).symm;refine Zt9 (x1:=true) (v:=(.bool true)) bq au rfl sizeOf4 (T3 true) rfl rfl (by decide) ?_;intro eg ce dj cx;rw [← bs] at cx;refine .ld (d:=14) (v:=(.slice a5 cd.length a6)) (congrArg (fun n=>Value.slice a5 n a6) (show ar.length=cd.length by rw [bs,nS])) ?_;refine go ?_;replace ab:=ab.kp ce;replace aj:=aj.kp ce;replace aa:=aa.kp ce dj;exact ⟨dg.length,by simp,rfl,⟨_,_,_,_,_,_,rfl,dh,hm,aa,cx,ab,aj,(Y1 (congrArg (Value.int .i64) (Yy (Nat.lt_of_lt_of_le di aj.1.1))) rfl)⟩⟩
   | cons bt dk=>
    obtain ⟨ag,dl,dm⟩:=Yw hl;have hk:(a3:Int)<(ae.length:Int):=by omega
    have hkb:=decide_eq_true hk;rw [Za3.eq_2] at hm;refine go ?_;refine Yg (congrArg Value.bool hkb)<|go ?_;refine lI ag ((h1.ks aa).addr ag) ?_;obtain ⟨_,dn,dp⟩:=(h1.ks aa).atN ag;obtain ⟨_,_,rfl,dq,dr⟩:=Yi dn;obtain ⟨rfl,_⟩:=dq;obtain ⟨rfl,_⟩:=dr;refine lV (.agg #[.int .i64 bt.1,.int .i64 bt.2]) (Yj isAgg97 sizeOf97 rfl rfl dp)<|Xl (col:=ap) #[.int .i64 0,.int .i64 0] 4 zeroValue97 ?_;intro eh ei bu bv ds;refine Z4 ds ?_;intro ej bw dt du;refine Zk<|Wh (col:=bu) [(0,1),(1,1),(2,1),(3,1),(4,1),(5,1),(6,1),(7,0),(8,3),(9,2),(10,1)] (by kernel_rfl) (by kernel_rfl)<|xu rfl rfl (fun _=>Vf rfl) ?_;refine xu rfl rfl (fun _=>Vf rfl) ?_;refine xu rfl rfl (fun _=>U9 underlying40 rfl) ?_;refine xu rfl rfl (fun _=>Vf rfl) ?_;refine xu rfl rfl (fun _=>U9 underlying40 rfl) ?_;obtain ⟨ba,hm⟩:=Zx hm;replace aj:=(aj.gr bv).kp bw;have av:=(aj.take (Int.toNat (ac.length:Int))).recap (show (ac.take (Int.toNat (ac.length:Int))).length≤(Int.toNat (ac.length:Int)) by rw [List.length_take (i:=(Int.toNat (ac.length:Int))) (l:=ac)];have:=ba.2;omega);refine xu (v:=.slice an (Int.toNat (ac.length:Int)) (Int.toNat (ac.length:Int))) rfl rfl (fun _=>Z5y underlying40 sizeOf3 rfl rfl rfl ba.2.1 ba.2.2.1 (by have:=aj.1.2;have:=ba.2.2.2;omega)) ?_;refine .ld (d:=89) (v:=(.slice an ((ac.take (Int.toNat (ac.length:Int))).length) (Int.toNat (ac.length:Int)))) (congrArg (fun n=>Value.slice an n (Int.toNat (ac.length:Int))) (show (Int.toNat (ac.length:Int))=(ac.take (Int.toNat (ac.length:Int))).length by rw [List.length_take (i:=(Int.toNat (ac.length:Int))) (l:=ac)];have:=ba.2;omega)) ?_;refine xF ⟨_,_,rfl⟩ ?_;refine xW (fun _ hC=>((du.atN).nth (q:=0) rfl).gr (hC.bl bu)) ?_;refine xe rfl rfl ?_;intro ek hC0;have hC:=hC0.bl bu;refine W1 (col:=bu) [bt.1] 5 ?_;intro el em cf bb cg;refine Zk<|Xp cf hC0 bb<|xe rfl rfl ?_;intro dv hC0;replace ai:=(((ai.gr bv).kp bw).gr hC).gr bb;replace ab:=(((ab.gr bv).kp bw).gr hC).gr bb;replace aa:=(((aa.grow bv).kp bw dt).grow hC).grow bb;replace av:=(av.gr hC).gr bb;have hC:=hC0.bl cf;obtain ⟨cy,hm⟩:=Zx hm;replace av:=av.gr hC;have dw:(Int.toNat (ac.length:Int))=(ac.take (Int.toNat (ac.length:Int))).length:=by have:=av.1.2;rw [List.length_take (i:=(Int.toNat (ac.length:Int))) (l:=ac)] at this ⊢;omega
    replace cg:=cg.gr hC;refine Z39 (col:=cf) (w:=dv) (r:=(Za.int .i64)) (c:=6) (c2:=6) 6 (xs:=ac.take (Int.toNat (ac.length:Int))) (ys:=[bt.1]) av dw (NB.int (k:=.i64)) (by simp) (cg.srcN (NB.int (k:=.i64))) rfl underlying40 Z28 rfl rfl rfl cy.1 cy.2 ?_;intro en eo ep cz ch bc;refine Zk<|xk cz<|xu rfl rfl (fun _=>r_aS rfl) ?_;refine Y9 ?_;replace ai:=(ai.gr hC).gr ch;replace ab:=(ab.gr hC).gr ch;replace aa:=(aa.grow hC).grow ch;intro eq hC;replace hC:=hC.bl cz;refine go ?_;replace ai:=ai.gr hC;replace ai:=ai.froz 6 (by decide);replace bc:=bc.gr hC;replace bc:=(bc).toSlF (Zn.int .i64);replace ab:=ab.gr hC;replace ab:=ab.froz 6 (by decide);replace aa:=aa.grow hC;replace aa:=aa.froz 6 (by decide) (by decide);exact ⟨dk.length,by simp,rfl,⟨_,_,_,_,_,_,rfl,dl,hm,aa,ai,bc,ab,(Y1 (congrArg (Value.int .i64) (Yy (Nat.lt_of_lt_of_le dm (h1.ks aa).1.1))) rfl)⟩⟩
  | cons dx c0=>
   obtain ⟨ag,dy,dz⟩:=Yw hl;have hk:(ay:Int)<(ah.length:Int):=by omega
   have hkb:=decide_eq_true hk;rw [Sj.eq_2] at hm;refine go ?_;refine Yg (congrArg Value.bool hkb)<|go ?_;refine lI ag ((h2.ks aa).addr ag)<|lW ((h2.ks aa).atInt ag)<|Y8 rfl<|Zk<|Z0 ?_;refine Wp.cutK [1,2,60,61,62,9,1000000] (fun f ci=>∃ cj ck,Zgz (Sj ae ah ad c0) ck=some r∧St w0 (Zh col) cj ci∧Zc (Za.int .i64) 3 2 cj ci al am ad∧[73].map f=[.bool ck]) ?_ ?_
   ·intro f ci hJ;obtain ⟨cj,ck,hm,aa,ab,hs⟩:=hJ;rw [Zgz.eq_1] at hm;refine .lL [73] hs ?_;refine Zo hm (fun hb hm=>go ?_) fun hb hm=>go ?_
    ·cases hm;exact ⟨rfl,_,none,0,rfl,aa.fin (cm []),Zc.nil⟩
    exact ⟨c0.length,by simp,rfl,⟨_,_,_,rfl,dy,hm,aa,ab,(Y1 (congrArg (Value.int .i64) (Yy (Nat.lt_of_lt_of_le dz (h2.ks aa).1.1))) rfl)⟩⟩
   refine go ?_;refine Xt hm (fun cl hm=>go ?_) fun cl hm=>go ?_
   ·refine lV (.bool true) (Xb (congrArg Value.bool cl) rfl)<|Zk ?_;exact ⟨rfl,_,_,hm,aa,ab,rfl⟩
   refine lV (.bool (decide ((ad.length:Int)≤dx))) (Xm (congrArg Value.bool cl) rfl)<|Zk ?_;exact ⟨rfl,_,_,hm,aa,ab,rfl⟩
 | cons bd c3=>
  obtain ⟨ag,d0,d1⟩:=Yw hl;have hk:(aw:Int)<(ae.length:Int):=by omega
  have hkb:=decide_eq_true hk;rw [Tv.eq_2] at hm;refine go ?_;refine Yg (congrArg Value.bool hkb)<|go ?_;refine lI ag ((h1.ks aa).addr ag) ?_;obtain ⟨_,d2,d3⟩:=(h1.ks aa).atN ag;obtain ⟨_,_,rfl,d4,d5⟩:=Yi d2;obtain ⟨rfl,_⟩:=d4;obtain ⟨rfl,_⟩:=d5;refine lV (.agg #[.int .i64 bd.1,.int .i64 bd.2]) (Yj isAgg97 sizeOf97 rfl rfl d3)<|Xl (col:=bm) #[.int .i64 0,.int .i64 0] 7 zeroValue97 ?_;intro er es ak c4 d6;refine Z4 d6 ?_;intro et c5 d7 be;refine Zk<|Z0 ?_;replace ab:=(ab.gr c4).kp c5;replace aa:=(aa.grow c4).kp c5 d7;refine Wp.cutK [1,2,28,29,30,9,1000000] (fun f cn=>∃ co cp,Zad (Tv ae ah ad c3) cp=some r∧St w0 (Zh col) co cn∧Zc (Za.int .i64) 3 2 co cn al am ad∧[58].map f=[.bool cp]) ?_ ?_
  ·intro f cn hJ;obtain ⟨co,cp,hm,aa,ab,hs⟩:=hJ;rw [Zad.eq_1] at hm;refine .lL [58] hs ?_;refine Zo hm (fun hb hm=>go ?_) fun hb hm=>go ?_
   ·cases hm;exact ⟨rfl,_,none,0,rfl,aa.fin (cm []),Zc.nil⟩
   exact ⟨c3.length,by simp,rfl,⟨_,_,_,rfl,d0,hm,aa,ab,(Y1 (congrArg (Value.int .i64) (Yy (Nat.lt_of_lt_of_le d1 (h1.ks aa).1.1))) rfl)⟩⟩
  refine Wd (col:=ak) (by kernel_rfl) (by kernel_rfl)<|qF ⟨_,_,rfl⟩ ?_;refine qW (fun _ hC=>((be.atN).nth (q:=0) rfl).gr (hC.bl ak)) ?_;refine go ?_;refine Xt hm (fun cq hm=>go ?_) fun cq hm=>go ?_
  ·refine qv (v:=(.bool true)) rfl (fun _ hC=>Xb (congrArg Value.bool cq) rfl) ?_;refine go ?_;refine qP 44 rfl rfl<|qP 44 rfl rfl<|qP 44 rfl rfl<|qv (v:=(.bool true)) rfl (fun _ hC=>Xb rfl rfl) ?_;refine go ?_;refine qP 49 rfl rfl<|qP 49 rfl rfl<|qP 49 rfl rfl<|qP 49 rfl rfl<|qP 49 rfl rfl<|qP 49 rfl rfl<|qP 49 rfl rfl<|qP 49 rfl rfl<|qv (v:=(.bool true)) rfl (fun _ hC=>Xb rfl rfl) ?_;refine X7 ?_;intro eu hC;replace hC:=hC.bl ak;replace ab:=ab.gr hC;replace aa:=aa.grow hC;exact ⟨rfl,_,_,hm,aa,ab,rfl⟩
  refine qF ⟨_,_,rfl⟩ ?_;refine go ?_;refine qW (fun _ hC=>((be.atN).nth (q:=0) rfl).gr (hC.bl ak)) ?_;refine go ?_;refine qv (v:=(.bool (decide ((ad.length:Int)≤bd.1)))) rfl (fun _ hC=>Xm (congrArg Value.bool cq) rfl) ?_;refine go ?_;refine Xt hm (fun cr hm=>go ?_) fun cr hm=>go ?_
  ·refine qv (v:=(.bool true)) rfl (fun _ hC=>Xb (congrArg Value.bool cr) rfl) ?_;refine go ?_;refine qP 49 rfl rfl<|qP 49 rfl rfl<|qP 49 rfl rfl<|qP 49 rfl rfl<|qP 49 rfl rfl<|qP 49 rfl rfl<|qP 49 rfl rfl<|qP 49 rfl rfl<|qv (v:=(.bool true)) rfl (fun _ hC=>Xb rfl rfl) ?_;refine X7 ?_;intro ew hC;replace hC:=hC.bl ak;replace ab:=ab.gr hC;replace aa:=aa.grow hC;exact ⟨rfl,_,_,hm,aa,ab,rfl⟩
  refine qF ⟨_,_,rfl⟩ ?_;refine go ?_;refine qW (fun _ hC=>((be.atN).nth (q:=1) rfl).gr (hC.bl ak)) ?_;refine go ?_;refine qv (v:=(.bool (decide (bd.2<0)))) rfl (fun _ hC=>Xm (congrArg Value.bool cr) rfl) ?_;refine go ?_;refine Xt hm (fun cs hm=>go ?_) fun cs hm=>go ?_
  ·refine qv (v:=(.bool true)) rfl (fun _ hC=>Xb (congrArg Value.bool cs) rfl) ?_;refine X7 ?_;intro ey hC;replace hC:=hC.bl ak;replace ab:=ab.gr hC;replace aa:=aa.grow hC;exact ⟨rfl,_,_,hm,aa,ab,rfl⟩
  refine qF ⟨_,_,rfl⟩ ?_;refine go ?_;refine qW (fun _ hC=>((be.atN).nth (q:=1) rfl).gr (hC.bl ak)) ?_;refine go ?_;refine qF ⟨_,_,rfl⟩ ?_;refine go ?_;refine qW (fun _ hC=>((be.atN).nth (q:=0) rfl).gr (hC.bl ak)) ?_;refine go ?_;obtain ⟨d8,ct,hm⟩:=bZ hm;refine qI ct (ab.addr ct) ?_;refine go ?_;refine qW (fun _ hC=>(ab.gr (hC.bl ak)).atInt ct) ?_;refine go ?_;refine qv (v:=(.bool (decide (d8≤bd.2)))) rfl (fun _ hC=>Xm (congrArg Value.bool cs) rfl) ?_;refine X7 ?_;intro ez hC;replace hC:=hC.bl ak;replace ab:=ab.gr hC;replace aa:=aa.grow hC;exact ⟨rfl,_,_,hm,aa,ab,rfl⟩
def Zpf:Option (List Ri):=
  some []
theorem Z0e (cy:Nat) (col:Zd) (w0:World) (r:List Ri) (hm:Zpf=some r):
    Zgb prog 2 139 [] (fun (y:List Int×R1) (col:Zd) (w:World) (args:List Value)=>∃ (a0:Option Addr) (ab:Nat) (a1_0_1:Option Addr) (c1_0_1:Nat) (ac:Option Addr) (ad:Nat),args=[.slice a0 y.1.length ab,.agg #[.bool y.2.1.1,.slice a1_0_1 y.2.1.2.length c1_0_1,.slice ac y.2.2.length ad]]∧Zc (Za.int .i64) 3 cy col w a0 ab y.1∧Sl (Za.int .u32) col w a1_0_1 c1_0_1 y.2.1.2∧Sl (Za.int .u32) col w ac ad y.2.2) r col w0:=by
 intro l J X hjs hxs hy aa;refine Zr1 (mc:=1998) (m:=2) (args:=[.func (.yield l) #[] #[]]) func139 rfl rfl rfl rfl ?_;rw [Zpf.eq_1] at hm;have hmk:Yv 1998 col w0 []:=.nil;refine X9 ?_;cases hm;refine ⟨_,[],rfl,hmk,?_⟩;intro ag ae af;replace aa:=hjs _ _ _ _ _ aa (ae.toP af rfl);exact ⟨⟨_,rfl⟩,_,.inl aa⟩
theorem Z3k:Wf prog 9 1 16:=⟨Tryz.t9,_,rfl,rfl,rfl,rfl,rfl⟩
def Zfx (aa:List ByteArray):Option R7:=
  Zv ((([]:List ByteArray).length+aa.length) * 16≤140737488355328∧([]:List ByteArray).length+aa.length≤maxLen) (some (([]:List ByteArray)++aa))
theorem Zry {ad:Nat} {a0:Option Addr} {col:Zd} {w0:World} {ac r:R7} (c1:Nat) (hm:Zfx ac=some r) (h0:Sl Za.str col w0 a0 ad ac):
    Calls prog 238 #[.slice a0 ac.length ad] w0 (fun e w'=>∃ (col':Zd) (ra1:Option Addr) (rc2:Nat),e= .returned ((.slice ra1 r.length rc2))∧Zg col w0 col' w'∧Zc Za.str 9 c1 col' w' ra1 rc2 r):=by
 refine Xc 2 (m:=8) func238 rfl rfl rfl rfl rfl ?_;rw [Zfx.eq_1] at hm;have aa:=St.start col w0;refine go ?_;replace h0:=h0.keep (Zf.start col w0);rcases Zm9 h0 with ab | ab
 ·replace hm:some ([]:List ByteArray)=some r:=by have h0:=ab.2;subst h0;simpa [Zv,maxLen] using hm
  refine lv (v:=.bool a0.isNone) rfl rfl (Zdh underlying22 rfl)<|.ld (d:=4) (v:=.bool true) (congrArg Value.bool ab.1)<|Zk<|Yg rfl<|go ?_;cases hm;exact ⟨rfl,_,none,0,rfl,aa.fin (cm []),Zc.nil⟩
 refine lv (v:=.bool a0.isNone) rfl rfl (Zdh underlying22 rfl)<|.ld (d:=4) (v:=.bool false) (congrArg Value.bool ab)<|Zk<|Yf rfl<|go ?_;refine Zl7 (col:=(Zh col)) (r:=Za.str) 1 rfl underlying22 Z3k rfl ?_;intro aj ak al ae af;refine Yr rfl ?_;obtain ⟨ag,hm⟩:=Zx hm;replace h0:=h0.gr ae;refine Y3 af h0.srcC ag ?_;intro am an ao ap ah ai;refine go ?_;cases hm;replace aa:=(aa.grow ae).kpp ah;exact ⟨rfl,_,_,_,rfl,aa.fin (cm [(1,c1)]),aa.fo ai⟩
theorem Z26:Wf prog 22 1 24:=⟨Tryz.t22,_,rfl,rfl,rfl,rfl,rfl⟩
theorem Z3c:Wf prog 40 1 24:=⟨Tryz.t40,_,rfl,rfl,rfl,rfl,rfl⟩
theorem Z3f:Wf prog 56 1 24:=⟨Tryz.t56,_,rfl,rfl,rfl,rfl,rfl⟩
def Zch (N:Nat) (ae:Int) (af:ByteArray) (ag:List ByteArray) (ah:List R7) (ai:List R2) (ac:List R8) (kk_L1:(Int→ByteArray→R7→(List R7)→Rd→(List R8)→Option R0)) (aj:List ByteArray) (ak:List Int):List R1→R8→Option R0
  | [],ab=>Zv ((ac.length+[ab].length) * 24≤140737488355328∧ac.length+[ab].length≤maxLen) (kk_L1 (i64.wrap (ae+1)) af ag (ah++[aj]) (ai++[ak]) (ac++[ab]))
  | ad :: al,ab=>(Zac N ((ad.1.1,ad.1.2),ad.2) ((false,([]:List Int)),([]:List Int))).bind fun aa=>Zv ((ab.length+[((aa.1.1,aa.1.2),aa.2)].length) * 56≤140737488355328∧ab.length+[((aa.1.1,aa.1.2),aa.2)].length≤maxLen) ((Zch N ae af ag ah ai ac kk_L1 aj ak al) (ab++[((aa.1.1,aa.1.2),aa.2)]))
termination_by structural x=>x
def Za4 (N:Nat) (aa:R0):Nat→Int→ByteArray→R7→(List R7)→Rd→(List R8)→Option R0
  | 0,_,_,_,_,_,_=>none
  | aj+1,ab,ag,ah,ac,ad,ai=>if (decide (ab<(aa.2.1.length:Int)))=true then ((Zj aa.2.2.1 ab).bind fun ak=>(Zfx ak).bind fun ae=>Zv ((ac.length+[ae].length) * 24≤140737488355328∧ac.length+[ae].length≤maxLen) ((Zj aa.2.2.2.1 ab).bind fun al=>(Zdd al).bind fun af=>Zv ((ad.length+[af].length) * 24≤140737488355328∧ad.length+[af].length≤maxLen) ((Zj aa.2.2.2.2 ab).bind fun am=>Zch N ab ag ah ac ad ai (Za4 N aa aj) ae af am ([]:List R1)))) else (some (ag,ah,ac,ad,ai))
termination_by structural x=>x
def Zg0 (N:Nat) (aa:R0):Option R0:=
  (Zfx aa.2.1).bind fun ab=>Za4 N aa N 0 aa.1 ab ([]:List R7) ([]:List R2) ([]:List R8)
theorem Z0i {N cd bz bu bi:Nat} {ce b0 bv bj:Option Addr} {col:Zd} {w0:World} {af r:R0} (c1 c2 c3 c4:Nat) (hm:Zg0 N af=some r) (cv:Sl Za.str col w0 ce cd af.2.1) (cf:Sl (Za.slice Za.str) col w0 b0 bz af.2.2.1) (cg:Sl (Za.slice (Za.int .i64)) col w0 bv bu af.2.2.2.1) (ch:Sl (Za.slice (Za.pair (Za.pair Za.bool (Za.slice (Za.int .u32))) (Za.slice (Za.int .u32)))) col w0 bj bi af.2.2.2.2):
    Calls prog 140 #[(.agg #[.string af.1,.slice ce af.2.1.length cd,.slice b0 af.2.2.1.length bz,.slice bv af.2.2.2.1.length bu,.slice bj af.2.2.2.2.length bi])] w0 (fun e w'=>∃ (col':Zd) (ra1:Option Addr) (rc2:Nat) (ra4:Option Addr) (rc5:Nat) (ra7:Option Addr) (rc8:Nat) (ra10:Option Addr) (rc11:Nat),e= .returned ((.agg #[.string r.1,.slice ra1 r.2.1.length rc2,.slice ra4 r.2.2.1.length rc5,.slice ra7 r.2.2.2.1.length rc8,.slice ra10 r.2.2.2.2.length rc11]))∧Zg col w0 col' w'∧Zc Za.str 9 c1 col' w' ra1 rc2 r.2.1∧Zc (Za.row 9 Za.str) 22 c2 col' w' ra4 rc5 r.2.2.1∧Zc (Za.row 3 (Za.int .i64)) 40 c3 col' w' ra7 rc8 r.2.2.2.1∧Zc (Za.row 47 (Za.pair (Za.pair Za.bool (Za.row 79 (Za.int .u32))) (Za.row 79 (Za.int .u32)))) 56 c4 col' w' ra10 rc11 r.2.2.2.2):=by
 refine Ym (m:=69) func140 rfl rfl rfl ?_;rw [Zg0.eq_1] at hm;have aa:=St.start col w0;refine go ?_;refine Xg (col:=(Zh col)) 1 rfl ?_;intro dt f4 d9 ea ab;refine Xl (col:=d9) #[.string (⟨#[]⟩),.slice none (([]:List ByteArray).length) 0,.slice none (([]:List R7).length) 0,.slice none (([]:List R2).length) 0,(.slice none (([]:List R8).length) 0)] 2 zeroValue27 ?_;intro du f5 eb dv ac;refine go ?_;replace ab:=ab.gr dv;refine lV _ (Z7 isAgg27 sizeOf27 ab)<|Xl (col:=eb) #[.string (⟨#[]⟩),.slice none (([]:List ByteArray).length) 0,.slice none (([]:List R7).length) 0,.slice none (([]:List R2).length) 0,(.slice none (([]:List R8).length) 0)] 3 zeroValue27 ?_;intro a4 f6 f7 cw ec;refine Z4 ec ?_;intro f8 cx ed cy;refine go ?_;refine Xd ⟨_,_,rfl⟩ ?_;replace ab:=(ab.gr cw).kp cx;refine lW ((ab.atN).nth (q:=1) rfl) ?_;obtain ⟨b1,ee,hm⟩:=bZ hm;replace cv:=cv.keep (Zf.start col w0);replace aa:=(((aa.grow ea).grow dv).grow cw).kp cx ed;refine Zi (Zry 4 ee (cv.ks aa)) ?_;rintro _ f9 ⟨ci,b2,b3,rfl,cj,cz⟩;refine ⟨_,rfl,?_⟩;refine Xd ⟨_,_,rfl⟩ ?_;replace cy:=cy.gr cj;refine Tg (off:=1) (v:=(.slice b2 b1.length b3)) cy sizeOf22 rfl rfl (by intro u hu;simp only [Value.cells,List.mem_cons,List.not_mem_nil,or_false] at hu;subst hu;rfl) rfl rfl ?_;intro ef ck eg c0;replace c0:Zm 27 3 ci ef a4 #[.string af.1,.slice b2 b1.length b3,.slice b0 af.2.2.1.length bz,.slice bv af.2.2.2.1.length bu,.slice bj af.2.2.2.2.length bi]:=c0;refine go ?_;refine Xd ⟨_,_,rfl⟩ ?_;refine Tg (off:=2) (v:=(.slice none (([]:List R7).length) 0)) c0 sizeOf23 rfl rfl (by intro u hu;simp only [Value.cells,List.mem_cons,List.not_mem_nil,or_false] at hu;subst hu;rfl) rfl rfl ?_;intro eh cl ei c5;replace c5:Zm 27 3 ci eh a4 #[.string af.1,.slice b2 b1.length b3,.slice none (([]:List R7).length) 0,.slice bv af.2.2.2.1.length bu,.slice bj af.2.2.2.2.length bi]:=c5;refine Xd ⟨_,_,rfl⟩ ?_;refine Tg (off:=3) (v:=(.slice none (([]:List R2).length) 0)) c5 sizeOf24 rfl rfl (by intro u hu;simp only [Value.cells,List.mem_cons,List.not_mem_nil,or_false] at hu;subst hu;rfl) rfl rfl ?_;intro ej cn ek c6
 replace c6:Zm 27 3 ci ej a4 #[.string af.1,.slice b2 b1.length b3,.slice none (([]:List R7).length) 0,.slice none (([]:List R2).length) 0,.slice bj af.2.2.2.2.length bi]:=c6;refine Xd ⟨_,_,rfl⟩ ?_;refine Tg (off:=4) (v:=(.slice none (([]:List R8).length) 0)) c6 sizeOf25 rfl rfl (by intro u hu;simp only [Value.cells,List.mem_cons,List.not_mem_nil,or_false] at hu;subst hu;rfl) rfl rfl ?_;intro el co em aj;replace aj:Zm 27 3 ci el a4 #[.string af.1,.slice b2 b1.length b3,.slice none (([]:List R7).length) 0,.slice none (([]:List R2).length) 0,(.slice none (([]:List R8).length) 0)]:=aj;refine go ?_;refine Xd ⟨_,_,rfl⟩ ?_;replace ab:=((((ab.gr cj).kp ck).kp cl).kp cn).kp co;refine lW ((ab.atN).nth (q:=1) rfl)<|go ?_;replace ac:=((((((ac.gr cw).kp cx).gr cj).kp ck).kp cl).kp cn).kp co;replace aa:=((((aa.grow cj).kp ck eg).kp cl ei).kp cn ek).kp co em;replace cz:=(((cz.kp ck).kp cl).kp cn).kp co;refine Zw [1,18,2,3,1000000] (fun n f a5=>∃ ak cp bd be bf ax c7 c8 ar cq cr au bk bm av bn,bn=n∧Za4 N af bn cp bd ax ar au av=some r∧St w0 (Zh col) ak a5∧Zm 27 1 ak a5 dt #[.string af.1,.slice ce af.2.1.length cd,.slice b0 af.2.2.1.length bz,.slice bv af.2.2.2.1.length bu,.slice bj af.2.2.2.2.length bi]∧Zm 27 2 ak a5 du #[.string (⟨#[]⟩),.slice none (([]:List ByteArray).length) 0,.slice none (([]:List R7).length) 0,.slice none (([]:List R2).length) 0,(.slice none (([]:List R8).length) 0)]∧Zc Za.str 9 4 ak a5 be bf ax∧Zc (Za.row 9 Za.str) 22 5 ak a5 c7 c8 ar∧Zc (Za.row 3 (Za.int .i64)) 40 6 ak a5 cq cr au∧Zc (Za.row 47 (Za.pair (Za.pair Za.bool (Za.row 79 (Za.int .u32))) (Za.row 79 (Za.int .u32)))) 56 7 ak a5 bk bm av∧Zm 27 3 ak a5 a4 #[.string bd,.slice be ax.length bf,.slice c7 ar.length c8,.slice cq au.length cr,.slice bk av.length bm]∧[19].map f=[.int .i64 cp]) N ⟨_,0,_,_,_,_,none,0,_,none,0,_,none,0,_,_,rfl,hm,aa,ab,ac,cz,Zc.nil,Zc.nil,Zc.nil,aj,rfl⟩ ?_;clear hm;intro n f a5 hI;obtain ⟨ak,cp,bd,be,bf,ax,c7,c8,ar,cq,cr,au,bk,bm,av,bn,hn,hm,aa,ab,ac,ad,ay,ah,ae,aj,hs⟩:=hI;subst hn;refine .lL [19] hs ?_;replace cf:=cf.keep (Zf.start col w0)
 replace cg:=cg.keep (Zf.start col w0);replace ch:=ch.keep (Zf.start col w0)
 cases bn with
 | zero=>rw [Za4.eq_1] at hm;cases hm
 | succ bn=>
  rw [Za4.eq_2] at hm;refine go ?_;refine Zo hm (fun hb hm=>go ?_) fun hb hm=>go ?_
  ·refine Wh (col:=ak) [(0,1),(1,0),(2,1),(3,0),(4,1),(5,1),(6,0),(7,3),(8,3),(9,2),(10,1),(11,2)] (by kernel_rfl) (by kernel_rfl)<|xF ⟨_,_,rfl⟩ ?_;refine xW (fun _ hC=>((aj.atN).nth (q:=2) rfl).gr (hC.bl ak)) ?_;refine xF ⟨_,_,rfl⟩ ?_;refine xW (fun _ hC=>((ab.atN).nth (q:=2) rfl).gr (hC.bl ak)) ?_;refine xu rfl rfl (fun _=>Wj rfl) ?_;obtain ⟨ga,ct,hm⟩:=bZ hm;refine xu rfl rfl (fun _=>Wi underlying23 sizeOf22 rfl rfl (Xn ct).1 (Xn ct).2.1 ((cf.ks aa).addr ct)) ?_;obtain ⟨_,en,eo⟩:=(cf.ks aa).atN ct;obtain ⟨⟨gb,gc,rfl,c9⟩,_⟩:=en;refine xW (fun _ hC=>eo.one.gr (hC.bl ak)) ?_;refine xe rfl rfl ?_;intro gd hC0;have hC:=hC0.bl ak;obtain ⟨az,ep,hm⟩:=bZ hm;replace c9:=c9.gr hC;refine Zi (Zry 8 ep c9) ?_;rintro _ ge ⟨da,dw,dx,rfl,a6,db⟩;refine ⟨_,rfl,?_⟩;refine Zk<|Xp da hC0 a6<|xe rfl rfl ?_;intro gf hC0;replace ad:=(ad.gr hC).gr a6;replace ay:=(ay.gr hC).gr a6;replace ah:=(ah.gr hC).gr a6;replace ae:=(ae.gr hC).gr a6;replace ab:=(ab.gr hC).gr a6;replace ac:=(ac.gr hC).gr a6;replace aj:=(aj.gr hC).gr a6;replace aa:=(aa.grow hC).grow a6;have hC:=hC0.bl da;replace db:=db.gr hC;refine Th (col:=da) (r:=(Za.row 9 Za.str)) (xs:=[az]) [.slice dw az.length dx] 8 (Wm.cons1 (cs:=[.slice dw az.length dx]) db.has Rows.nil0) ?_;intro gg gh dc a7 dd;refine Zk<|Xp dc hC0 a7<|xe rfl rfl ?_;intro eq hC0;replace ad:=(ad.gr hC).gr a7;replace ay:=(ay.gr hC).gr a7;replace ah:=(ah.gr hC).gr a7;replace ae:=(ae.gr hC).gr a7;replace ab:=(ab.gr hC).gr a7;replace ac:=(ac.gr hC).gr a7;replace aj:=(aj.gr hC).gr a7;replace aa:=(aa.grow hC).grow a7;have hC:=hC0.bl dc;obtain ⟨dy,hm⟩:=Zx hm;replace ay:=ay.gr hC;replace dd:=dd.gr hC;refine Qf (col:=dc) (w:=eq) (r:=(Za.row 9 Za.str)) (c:=5) (c2:=8) (ay.ex) (dd.srcC (by decide)) rfl underlying23 Z26 rfl rfl rfl dy.1 dy.2 (by decide) ?_;intro bw bx gi a0 bo de;refine Zk<|xk a0<|xF ⟨_,_,rfl⟩ ?_;refine xe rfl rfl ?_;intro gj hC0;replace ad:=(ad.gr hC).kpp bo;replace ah:=(ah.gr hC).kpp bo;replace ae:=(ae.gr hC).kpp bo;replace ab:=(ab.gr hC).kpp bo;replace ac:=(ac.gr hC).kpp bo;replace aj:=(aj.gr hC).kpp bo;replace aa:=(aa.grow hC).kpp bo;have hC:=hC0.bl a0;replace aj:=aj.gr hC
   refine Tg (off:=2) (v:=(.slice bw ((ar++[az]).length) bx)) aj sizeOf23 rfl rfl (by intro u hu;simp only [Value.cells,List.mem_cons,List.not_mem_nil,or_false] at hu;subst hu;rfl) rfl rfl ?_;intro er bp es al;replace al:Zm 27 3 a0 er a4 #[.string bd,.slice be ax.length bf,.slice bw ((ar++[az]).length) bx,.slice cq au.length cr,.slice bk av.length bm]:=al;refine Zk<|xk a0 ?_;replace de:=(de.gr hC).kp bp;have ag:=de.new;refine Y9 ?_;replace ad:=(ad.gr hC).kp bp;replace ah:=(ah.gr hC).kp bp;replace ae:=(ae.gr hC).kp bp;replace ab:=(ab.gr hC).kp bp;replace ac:=(ac.gr hC).kp bp;replace aa:=(aa.grow hC).kp bp es;intro gk hC;replace hC:=hC.bl a0;refine Z0<|Wh (col:=a0) [(0,1),(1,0),(2,1),(3,0),(4,1),(5,1),(6,0),(7,3),(8,3),(9,2),(10,1),(11,2)] (by kernel_rfl) (by kernel_rfl)<|xF ⟨_,_,rfl⟩ ?_;replace al:=al.gr hC;refine xW (fun _ hC=>((al.atN).nth (q:=3) rfl).gr (hC.bl a0)) ?_;refine xF ⟨_,_,rfl⟩ ?_;replace ab:=ab.gr hC;refine xW (fun _ hC=>((ab.atN).nth (q:=3) rfl).gr (hC.bl a0)) ?_;refine xu rfl rfl (fun _=>Wj rfl) ?_;obtain ⟨gl,cu,hm⟩:=bZ hm;replace aa:=aa.grow hC;refine xu rfl rfl (fun _=>Wi underlying24 sizeOf40 rfl rfl (Xn cu).1 (Xn cu).2.1 ((cg.ks aa).addr cu)) ?_;obtain ⟨_,et,eu⟩:=(cg.ks aa).atN cu;obtain ⟨⟨gm,gp,rfl,df⟩,_⟩:=et;refine xW (fun _ hC=>eu.one.gr (hC.bl a0)) ?_;refine xe rfl rfl ?_;intro gs hC0;replace ad:=ad.gr hC;replace ag:=ag.gr hC;replace ah:=ah.gr hC;replace ae:=ae.gr hC;replace ac:=ac.gr hC;have hC:=hC0.bl a0;obtain ⟨a8,ew,hm⟩:=bZ hm;replace df:=df.gr hC;refine Zi (Zos 9 ew df) ?_;rintro _ gt ⟨dg,dz,d0,rfl,a9,dh⟩;refine ⟨_,rfl,?_⟩;refine Zk<|Xp dg hC0 a9<|xe rfl rfl ?_;intro gu hC0;replace ad:=(ad.gr hC).gr a9;replace ag:=(ag.gr hC).gr a9;replace ah:=(ah.gr hC).gr a9;replace ae:=(ae.gr hC).gr a9;replace ab:=(ab.gr hC).gr a9;replace ac:=(ac.gr hC).gr a9;replace al:=(al.gr hC).gr a9;replace aa:=(aa.grow hC).grow a9;have hC:=hC0.bl dg;replace dh:=dh.gr hC;refine Th (col:=dg) (r:=(Za.row 3 (Za.int .i64))) (xs:=[a8]) [.slice dz a8.length d0] 9 (Wm.cons1 (cs:=[.slice dz a8.length d0]) dh.has Rows.nil0) ?_;intro gv gw di ba dj;refine Zk<|Xp di hC0 ba<|xe rfl rfl ?_;intro ey hC0;replace ad:=(ad.gr hC).gr ba;replace ag:=(ag.gr hC).gr ba
   replace ah:=(ah.gr hC).gr ba;replace ae:=(ae.gr hC).gr ba;replace ab:=(ab.gr hC).gr ba;replace ac:=(ac.gr hC).gr ba;replace al:=(al.gr hC).gr ba;replace aa:=(aa.grow hC).grow ba;have hC:=hC0.bl di;obtain ⟨d1,hm⟩:=Zx hm;replace ah:=ah.gr hC;replace dj:=dj.gr hC;refine Qf (col:=di) (w:=ey) (r:=(Za.row 3 (Za.int .i64))) (c:=6) (c2:=9) (ah.ex) (dj.srcC (by decide)) rfl underlying24 Z3c rfl rfl rfl d1.1 d1.2 (by decide) ?_;intro b4 b5 gx b6 bq dk;refine Zk<|xk b6<|xF ⟨_,_,rfl⟩ ?_;refine xe rfl rfl ?_;intro gy hC0;replace ad:=(ad.gr hC).kpp bq;replace ag:=(ag.gr hC).kpp bq;replace ae:=(ae.gr hC).kpp bq;replace ab:=(ab.gr hC).kpp bq;replace ac:=(ac.gr hC).kpp bq;replace al:=(al.gr hC).kpp bq;replace aa:=(aa.grow hC).kpp bq;have hC:=hC0.bl b6;replace al:=al.gr hC;refine Tg (off:=3) (v:=(.slice b4 ((au++[a8]).length) b5)) al sizeOf24 rfl rfl (by intro u hu;simp only [Value.cells,List.mem_cons,List.not_mem_nil,or_false] at hu;subst hu;rfl) rfl rfl ?_;intro ez br e0 ai;replace ai:Zm 27 3 b6 ez a4 #[.string bd,.slice be ax.length bf,.slice bw ((ar++[az]).length) bx,.slice b4 ((au++[a8]).length) b5,.slice bk av.length bm]:=ai;refine Zk<|xk b6 ?_;replace dk:=(dk.gr hC).kp br;have am:=dk.new;refine Y9 ?_;replace ad:=(ad.gr hC).kp br;replace ag:=(ag.gr hC).kp br;replace ae:=(ae.gr hC).kp br;replace ab:=(ab.gr hC).kp br;replace ac:=(ac.gr hC).kp br;replace aa:=(aa.grow hC).kp br e0;intro gz hC;replace hC:=hC.bl b6;refine go ?_;refine Xd ⟨_,_,rfl⟩ ?_;replace ab:=ab.gr hC;refine lW ((ab.atN).nth (q:=4) rfl)<|Xo rfl ?_;obtain ⟨b7,dl,hm⟩:=bZ hm;replace aa:=aa.grow hC;refine lI dl ((ch.ks aa).addr dl) ?_;obtain ⟨_,e1,e2⟩:=(ch.ks aa).atN dl;obtain ⟨⟨e3,e4,rfl,ao⟩,_⟩:=e1;refine lW e2.one<|go ?_;replace ad:=ad.gr hC;replace ag:=ag.gr hC;replace am:=am.gr hC;replace ae:=ae.gr hC;replace ac:=ac.gr hC;replace ai:=ai.gr hC
   refine Zw [1,18,19,2,3,48,49,1000000] (fun n f aw=>∃ an b8 b9 bb ca cb,n=cb.length∧b7.drop ca=cb∧Zch N cp bd ax ar au av (Za4 N af bn) az a8 cb bb=some r∧St w0 (Zh col) an aw∧Zm 27 1 an aw dt #[.string af.1,.slice ce af.2.1.length cd,.slice b0 af.2.2.1.length bz,.slice bv af.2.2.2.1.length bu,.slice bj af.2.2.2.2.length bi]∧Zm 27 2 an aw du #[.string (⟨#[]⟩),.slice none (([]:List ByteArray).length) 0,.slice none (([]:List R7).length) 0,.slice none (([]:List R2).length) 0,(.slice none (([]:List R8).length) 0)]∧Zc Za.str 9 4 an aw be bf ax∧Zc (Za.row 9 Za.str) 22 5 an aw bw bx (ar++[az])∧Zc (Za.row 3 (Za.int .i64)) 40 6 an aw b4 b5 (au++[a8])∧Zc (Za.row 47 (Za.pair (Za.pair Za.bool (Za.row 79 (Za.int .u32))) (Za.row 79 (Za.int .u32)))) 56 7 an aw bk bm av∧Zm 27 3 an aw a4 #[.string bd,.slice be ax.length bf,.slice bw ((ar++[az]).length) bx,.slice b4 ((au++[a8]).length) b5,.slice bk av.length bm]∧Sl (Za.pair (Za.pair Za.bool (Za.slice (Za.int .u32))) (Za.slice (Za.int .u32))) an aw e3 e4 b7∧Zc (Za.pair (Za.pair Za.bool (Za.row 79 (Za.int .u32))) (Za.row 79 (Za.int .u32))) 47 10 an aw b8 b9 bb∧[50,5].map f=[.int .i64 ca,.slice b8 bb.length b9]) b7.length ⟨_,none,0,_,0,_,rfl,rfl,hm,aa,ab,ac,ad,ag,am,ae,ai,ao,Zc.nil,rfl⟩ ?_;clear hm;intro n f aw hI;obtain ⟨an,b8,b9,bb,ca,cb,hn,hl,hm,aa,ab,ac,ad,ag,am,ae,ai,ao,bg,hs⟩:=hI;subst hn;refine .lL [50,5] hs ?_
   cases cb with
   | nil=>
    have hk:¬ ((ca:Int)<(b7.length:Int)):=by have:=List.drop_eq_nil_iff.1 hl;omega
    have hkb:=decide_eq_false hk;rw [Zch.eq_1] at hm;refine go ?_;refine Yf (congrArg Value.bool hkb)<|go ?_;refine Xa ai<|Yr rfl<|Th (col:=an) (r:=(Za.row 47 (Za.pair (Za.pair Za.bool (Za.row 79 (Za.int .u32))) (Za.row 79 (Za.int .u32))))) (xs:=[bb]) [.slice b8 bb.length b9] 10 (Wm.cons1 (cs:=[.slice b8 bb.length b9]) bg.has Rows.nil0) ?_;intro g0 e5 e6 bh e7;obtain ⟨d2,hm⟩:=Zx hm;replace ae:=ae.gr bh;refine Qf (col:=e6) (w:=e5) (r:=(Za.row 47 (Za.pair (Za.pair Za.bool (Za.row 79 (Za.int .u32))) (Za.row 79 (Za.int .u32))))) (c:=7) (c2:=10) (ae.ex) (e7.srcC (by decide)) rfl underlying25 Z3f rfl rfl rfl d2.1 d2.2 (by decide) ?_;intro d3 d4 g1 e8 bs dm;refine Xd ⟨_,_,rfl⟩ ?_;replace ai:=(ai.gr bh).kpp bs;refine Tg (off:=4) (v:=(.slice d3 ((av++[bb]).length) d4)) ai sizeOf25 rfl rfl (by intro u hu;simp only [Value.cells,List.mem_cons,List.not_mem_nil,or_false] at hu;subst hu;rfl) rfl rfl ?_;intro e9 bt fa dn;replace dn:Zm 27 3 e8 e9 a4 #[.string bd,.slice be ax.length bf,.slice bw ((ar++[az]).length) bx,.slice b4 ((au++[a8]).length) b5,.slice d3 ((av++[bb]).length) d4]:=dn;replace dm:=dm.kp bt;have fb:=dm.new;refine go ?_;replace ad:=((ad.gr bh).kpp bs).kp bt;replace ag:=((ag.gr bh).kpp bs).kp bt;replace am:=((am.gr bh).kpp bs).kp bt;replace ab:=((ab.gr bh).kpp bs).kp bt;replace ac:=((ac.gr bh).kpp bs).kp bt;replace aa:=((aa.grow bh).kpp bs).kp bt fa;exact ⟨bn,by omega,rfl,⟨_,_,_,_,_,_,_,_,_,_,_,_,_,_,_,_,rfl,hm,aa,ab,ac,ad,ag,am,fb,dn,rfl⟩⟩
   | cons dp fc=>
    obtain ⟨dq,fd,fe⟩:=Yw hl;have hk:(ca:Int)<(b7.length:Int):=by omega
    have hkb:=decide_eq_true hk;rw [Zch.eq_2] at hm;refine go ?_;refine Yg (congrArg Value.bool hkb)<|go ?_;refine lI dq (ao.addr dq) ?_;obtain ⟨_,ff,fg⟩:=ao.atN dq;obtain ⟨_,_,rfl,fh,fi⟩:=Yi ff;obtain ⟨_,_,rfl,fj,fk⟩:=Yi fh;obtain ⟨rfl,_⟩:=fj;obtain ⟨⟨fl,fm,rfl,dr⟩,_⟩:=fk;obtain ⟨⟨fn,fp,rfl,ds⟩,_⟩:=fi;refine lV (.agg #[.bool dp.1.1,.slice fl dp.1.2.length fm,.slice fn dp.2.length fp]) (Yj isAgg47 sizeOf47 rfl rfl fg)<|Xl (col:=an) #[.bool false,.slice none (([]:List Int).length) 0,.slice none (([]:List Int).length) 0] 11 zeroValue47 ?_;intro g2 g3 g4 ap fq;refine Z4 fq ?_;intro g5 aq fr ft;refine go ?_;refine lV _ (Z7 isAgg47 sizeOf47 ft)<|lV (.agg #[.bool false,.slice none (([]:List Int).length) 0,.slice none (([]:List Int).length) 0]) (Yz (l:=[_,_]) (qs:=[(0,2),(2,1)]) underlying47 zeroValue47 ⟨rfl,sizeOf45,rfl,sizeOf43,trivial⟩ rfl) ?_;obtain ⟨a1,fu,hm⟩:=bZ hm;replace dr:=(dr.gr ap).kp aq;replace ds:=(ds.gr ap).kp aq;refine Zi (Zoe 12 13 fu dr ds Sl.nil Sl.nil) ?_;rintro _ g6 ⟨fv,d5,d6,d7,d8,rfl,a2,fw,fx⟩;refine ⟨_,rfl,?_⟩;have fy:=X0.join (X0.joinL (T3 a1.1.1) fw.has) fx.has (by decide) (by decide);replace ad:=((ad.gr ap).kp aq).gr a2;replace ad:=ad.recol 13 12 (by decide);replace ag:=((ag.gr ap).kp aq).gr a2;replace ag:=ag.recol 13 12 (by decide);replace am:=((am.gr ap).kp aq).gr a2;replace am:=am.recol 13 12 (by decide);replace ae:=((ae.gr ap).kp aq).gr a2;replace ae:=ae.recol 13 12 (by decide);replace ao:=((ao.gr ap).kp aq).gr a2;replace ao:=ao.recol 13 12 (by decide);replace bg:=((bg.gr ap).kp aq).gr a2;replace bg:=bg.recol 13 12 (by decide);replace ab:=((ab.gr ap).kp aq).gr a2;replace ab:=ab.recol 13 12 (by decide);replace ac:=((ac.gr ap).kp aq).gr a2;replace ac:=ac.recol 13 12 (by decide);replace ai:=((ai.gr ap).kp aq).gr a2;replace ai:=ai.recol 13 12 (by decide);replace aa:=((aa.grow ap).kp aq fr).grow a2;replace aa:=aa.recol 13 12 (by decide) (by decide)
    refine Th (col:=(Xx 13 12 fv)) (r:=(Za.pair (Za.pair Za.bool (Za.row 79 (Za.int .u32))) (Za.row 79 (Za.int .u32)))) (xs:=[((a1.1.1,a1.1.2),a1.2)]) [(.agg #[.bool a1.1.1,.slice d5 a1.1.2.length d6,.slice d7 a1.2.length d8])] 12 (Wm.cons1 (cs:=[.bool a1.1.1,.slice d5 a1.1.2.length d6,.slice d7 a1.2.length d8]) fy Rows.nil0) ?_;intro g7 g8 g9 a3 fz;obtain ⟨f0,hm⟩:=Zx hm;replace bg:=bg.gr a3;refine Y3 (c:=10) (c2:=12) bg (fz.srcC (by decide)) f0 ?_;intro ha hc hd he bc f1;refine go ?_;replace ad:=(ad.gr a3).kpp bc;replace ag:=(ag.gr a3).kpp bc;replace am:=(am.gr a3).kpp bc;replace ae:=(ae.gr a3).kpp bc;replace ao:=(ao.gr a3).kpp bc;replace ab:=(ab.gr a3).kpp bc;replace ac:=(ac.gr a3).kpp bc;replace ai:=(ai.gr a3).kpp bc;replace aa:=(aa.grow a3).kpp bc;exact ⟨fc.length,by simp,rfl,⟨_,_,_,_,_,_,rfl,fd,hm,aa,ab,ac,ad,ag,am,ae,ai,ao,f1,(Y1 (congrArg (Value.int .i64) (Yy (Nat.lt_of_lt_of_le fe ao.1.1))) rfl)⟩⟩
  refine lV _ (Z7 isAgg27 sizeOf27 aj)<|Z4 ac ?_;intro hf cc f2 f3;refine go ?_;cases hm;replace ad:=ad.kp cc;replace ay:=ay.kp cc;replace ah:=ah.kp cc;replace ae:=ae.kp cc;replace aa:=aa.kp cc f2;exact ⟨rfl,_,ra f3.atN,_,_,_,_,_,_,_,_,_,rfl,aa.fin (cm [(4,c1),(5,c2),(6,c3),(7,c4)]),aa.fo ad,aa.fo ay,aa.fo ah,aa.fo ae⟩
def Zd0 (N:Nat) (aa:R0):List Ra→Option (List Ri)
  | []=>some []
  | ac :: ad=>(Zg5 N (aa.1,aa.2.1,aa.2.2.1,aa.2.2.2.1,aa.2.2.2.2) ac.2).bind fun ab=>(Zdd ac.2).bind fun ae=>((Zd0 N aa ad)).bind fun af=>some ((ae,((ab.1.1.1,ab.1.1.2),ab.1.2)) :: af)
termination_by structural x=>x
def Zmb (N:Nat) (aa:List Int) (ab:R0):Option (List Ri):=
  (Zkj N aa).bind fun ac=>Zd0 N ab ac
theorem Z0f (N:Nat) (cy:Nat) (col:Zd) (w0:World) (g0:Nat) (af0:Option Addr) (capf0:Nat) (az:List Int) (hf0:Sl (Za.int .i64) col w0 af0 capf0 az) (hb0:Zm 40 450 col w0 g0 #[.slice af0 az.length capf0]) (g1:Nat) (a2:Option Addr) (a3:Nat) (a4:Option Addr) (a5:Nat) (a6:Option Addr) (a7:Nat) (a8:Option Addr) (a9:Nat) (ah:R0) (ab:Sl Za.str col w0 a2 a3 ah.2.1) (ac:Sl (Za.slice Za.str) col w0 a4 a5 ah.2.2.1) (ad:Sl (Za.slice (Za.int .i64)) col w0 a6 a7 ah.2.2.2.1) (ae:Sl (Za.slice (Za.pair (Za.pair Za.bool (Za.slice (Za.int .u32))) (Za.slice (Za.int .u32)))) col w0 a8 a9 ah.2.2.2.2) (hb1:Zm 27 450 col w0 g1 #[.string ah.1,.slice a2 ah.2.1.length a3,.slice a4 ah.2.2.1.length a5,.slice a6 ah.2.2.2.1.length a7,.slice a8 ah.2.2.2.2.length a9]) (r:List Ri) (hm:Zmb N az ah=some r):
    Zgb prog 2 141 [.pointer (some ⟨g0,0,none⟩),.pointer (some ⟨g1,0,none⟩)] (fun (y:List Int×R1) (col:Zd) (w:World) (args:List Value)=>∃ (a0:Option Addr) (bf:Nat) (a1_0_1:Option Addr) (c1_0_1:Nat) (bg:Option Addr) (bh:Nat),args=[.slice a0 y.1.length bf,.agg #[.bool y.2.1.1,.slice a1_0_1 y.2.1.2.length c1_0_1,.slice bg y.2.2.length bh]]∧Zc (Za.int .i64) 3 cy col w a0 bf y.1∧Sl (Za.int .u32) col w a1_0_1 c1_0_1 y.2.1.2∧Sl (Za.int .u32) col w bg bh y.2.2) r col w0:=by
 intro l J X hjs hxs hy aa;refine Zr1 (mc:=1998) (m:=24) (args:=[.func (.yield l) #[] #[],.pointer (some ⟨g0,0,none⟩),.pointer (some ⟨g1,0,none⟩)]) func141 rfl rfl rfl rfl ?_;rw [Zmb.eq_1] at hm;have hmk:Yv 1998 col w0 []:=.nil;refine go ?_;refine Zdt (col:=col) (v:=(.func (.yield l) #[] #[])) 1001 rfl rfl ?_;intro bi bq br ax af;replace hf0:=hf0.gr ax;replace ab:=ab.gr ax;replace ac:=ac.gr ax;replace ad:=ad.gr ax;replace ae:=ae.gr ax;replace hb0:=hb0.gr ax;replace hb1:=hb1.gr ax;replace hmk:=hmk.gr ax;replace aa:=hjs _ _ _ _ _ aa ax.toP;replace af:Zm 158 1001 br bq bi #[(.func (.yield l) #[] #[])]:=af;refine go ?_;refine lW hb0.at1 ?_;obtain ⟨bs,bt,hm⟩:=bZ hm;refine Zi (Z11 1002 bt hf0) ?_;rintro _ cf ⟨bu,cg,rfl,aw,bv⟩;refine ⟨_,rfl,?_⟩;replace ab:=ab.gr aw;replace ac:=ac.gr aw;replace ad:=ad.gr aw;replace ae:=ae.gr aw;replace hf0:=hf0.gr aw;replace hb0:=hb0.gr aw;replace hb1:=hb1.gr aw;replace af:=af.gr aw;replace hmk:=hmk.gr aw;replace aa:=hjs _ _ _ _ _ aa aw.toP;refine go ?_;refine Zn3 (psl:=[10,11]) (arr:=(fun (y:Int×List Int) (col:Zd) (w:World) (args:List Value)=>∃ (a1:Option Addr) (bj:Nat),args=[.int .i64 y.1,.slice a1 y.2.length bj]∧Zc (Za.int .i64) 3 1002 col w a1 bj y.2)) (ys:=bs) (col:=bu) 1999 rfl bv rfl hmk rfl rfl (by rintro _ _ _ _ ⟨_,_,rfl,_⟩;rfl) (fun ys_ ag al=>∃ (r:List Ri),Zd0 N ah ys_=some r∧J r ag al∧Sl Za.str ag al a2 a3 ah.2.1∧Sl (Za.slice Za.str) ag al a4 a5 ah.2.2.1∧Sl (Za.slice (Za.int .i64)) ag al a6 a7 ah.2.2.2.1∧Sl (Za.slice (Za.pair (Za.pair Za.bool (Za.slice (Za.int .u32))) (Za.slice (Za.int .u32)))) ag al a8 a9 ah.2.2.2.2∧Zm 27 450 ag al g1 #[.string ah.1,.slice a2 ah.2.1.length a3,.slice a4 ah.2.2.1.length a5,.slice a6 ah.2.2.2.1.length a7,.slice a8 ah.2.2.2.2.length a9]∧Zm 158 1001 ag al bi #[(.func (.yield l) #[] #[])]∧Sl (Za.int .i64) ag al af0 capf0 az∧Zm 40 450 ag al g0 #[.slice af0 az.length capf0]) (fun c_ ag al=>(c_= .ret∧X ag al)) ?_ ?_ ⟨r,hm,aa,ab,ac,ad,ae,hb1,af,hf0,hb0⟩ ?_ ?_ ?_
 ·intro ys_ ag al col2_ w2_ hJ hk;obtain ⟨r,hm,aa,ab,ac,ad,ae,hb1,af,hf0,hb0⟩:=hJ;exact ⟨r,hm,(hjs _ _ _ _ _ aa (hk.mono fun _=>Zv0)),ab.kpp hk rfl,ac.kpp hk rfl,ad.kpp hk rfl,ae.kpp hk rfl,hb1.kpp hk rfl,af.kpp hk rfl,hf0.kpp hk rfl,hb0.kpp hk rfl⟩
 ·intro c_ ag al col2_ w2_ hX hk;obtain ⟨rfl,hX⟩:=hX;exact ⟨rfl,hxs _ _ _ _ hX (hk.mono fun _=>Zv0)⟩
 ·intro ch ci cj ck cl ag al args hJ hrec hmk harr;obtain ⟨r,hm,aa,ab,ac,ad,ae,hb1,af,hf0,hb0⟩:=hJ;rw [Zd0.eq_2] at hm;have hki:=Z1.refl (pC 1) ag al;obtain ⟨cn,co,rfl,aq⟩:=harr;refine go ?_;refine ⟨_,hrec,?_⟩;intro bw cp ar bk hrec2;replace ab:=ab.kp ar;replace ac:=ac.kp ar;replace ad:=ad.kp ar;replace ae:=ae.kp ar;replace aq:=aq.kp ar;replace hf0:=hf0.kp ar;replace hb1:=hb1.kp ar;replace af:=af.kp ar;replace hb0:=hb0.kp ar;replace hmk:=hmk.kp ar;replace hki:=hki.kp ar bk rfl;replace aa:=hjs _ _ _ _ _ aa (ar.toP bk rfl);have hrec:=hrec2;refine go ?_;refine lV _ (Z7 isAgg27 sizeOf27 hb1)<|Yr rfl ?_;obtain ⟨au,bx,hm⟩:=bZ hm;refine Zi (Z0p 1003 1004 bx (ab.froz 1002) (ac.froz 1002) (ad.froz 1002) (ae.froz 1002) (aq.toSlF (Zn.int .i64))) ?_;rintro _ cq ⟨bz,ba,bb,bc,bd,rfl,am,ai,aj⟩;refine ⟨_,rfl,?_⟩;replace ai:=ai.thaw (Z3 .u32) am ((Fz.refl (col:=ag)).froz 1002) (by decide);replace aj:=aj.thaw (Z3 .u32) am ((Fz.refl (col:=ag)).froz 1002) (by decide);replace am:=am.thawR (col:=ag);generalize Xf bw.heap.size ag bz=b0 at *;replace ab:=ab.gr am;replace ac:=ac.gr am;replace ad:=ad.gr am;replace ae:=ae.gr am;replace aq:=aq.gr am;replace hf0:=hf0.gr am;replace hb1:=hb1.gr am;replace af:=af.gr am;replace hb0:=hb0.gr am;replace hrec:=hrec.gr am;replace hmk:=hmk.gr am;replace hki:=hki.gr am;replace aa:=hjs _ _ _ _ _ aa am.toP;refine lM (.tuple #[(.agg #[.bool au.1.1.1,.slice ba au.1.1.2.length bb,.slice bc au.1.2.length bd]),.int .i64 au.2])<|lV (.agg #[.bool au.1.1.1,.slice ba au.1.1.2.length bb,.slice bc au.1.2.length bd]) (Xv rfl rfl)<|lV (.int .i64 au.2) (Xv rfl rfl)<|Xl (col:=b0) #[.bool false,.slice none (([]:List Int).length) 0,.slice none (([]:List Int).length) 0] 1005 zeroValue47 ?_;intro cr cs ay an b1;replace ab:=ab.gr an;replace ac:=ac.gr an;replace ad:=ad.gr an;replace ae:=ae.gr an;replace aq:=aq.gr an;replace ai:=ai.gr an;replace aj:=aj.gr an;replace hf0:=hf0.gr an;replace hb1:=hb1.gr an;replace af:=af.gr an;replace hb0:=hb0.gr an;replace hrec:=hrec.gr an;replace hmk:=hmk.gr an;replace hki:=hki.gr an;replace aa:=hjs _ _ _ _ _ aa an.toP;refine Z4 b1 ?_;intro ct ao bm b2
  replace ab:=ab.kp ao;replace ac:=ac.kp ao;replace ad:=ad.kp ao;replace ae:=ae.kp ao;replace aq:=aq.kp ao;replace ai:=ai.kp ao;replace aj:=aj.kp ao;replace hf0:=hf0.kp ao;replace hb1:=hb1.kp ao;replace af:=af.kp ao;replace hb0:=hb0.kp ao;replace hrec:=hrec.kp ao;replace hmk:=hmk.kp ao;replace hki:=hki.kp ao bm rfl;replace aa:=hjs _ _ _ _ _ aa (ao.toP bm rfl);refine go ?_;refine Wh (col:=ay) [(0,0),(1,1),(3,0),(2,3),(4,2),(5,1)] (by kernel_rfl) (by kernel_rfl)<|xW (fun _ hC=>af.at1.gr (hC.bl ay)) ?_;refine xu rfl rfl (fun _=>Vf rfl) ?_;refine xv rfl rfl (fun _ hC=>Z7 isAgg47 sizeOf47 (b2.gr (hC.bl ay))) ?_;refine xe rfl rfl ?_;intro b3 hC0;have hC:=hC0.bl ay;replace ab:=ab.gr hC;replace ac:=ac.gr hC;replace ad:=ad.gr hC;replace ae:=ae.gr hC;replace aq:=aq.gr hC;replace ai:=ai.gr hC;replace aj:=aj.gr hC;replace hf0:=hf0.gr hC;replace hb1:=hb1.gr hC;replace af:=af.gr hC;replace hb0:=hb0.gr hC;replace hrec:=hrec.gr hC;replace hmk:=hmk.gr hC;replace hki:=hki.gr hC;replace aa:=hjs _ _ _ _ _ aa hC.toP;obtain ⟨b4,b5,hm⟩:=bZ hm;refine Zi (Zos 1006 b5 (aq.toSlF (Zn.int .i64))) ?_;rintro _ cu ⟨b6,bn,bo,rfl,ak,av⟩;refine ⟨_,rfl,?_⟩;replace av:=av.thaw (Z3 .i64) ak ((Fz.refl (col:=ay)).froz 1002) (by decide);replace ak:=ak.thawR (col:=ay);generalize Xf b3.heap.size ay b6=bp at *;replace ab:=ab.gr ak;replace ac:=ac.gr ak;replace ad:=ad.gr ak;replace ae:=ae.gr ak;replace ai:=ai.gr ak;replace aj:=aj.gr ak;replace hf0:=hf0.gr ak;replace hb1:=hb1.gr ak;replace af:=af.gr ak;replace hb0:=hb0.gr ak;replace hrec:=hrec.gr ak;replace hmk:=hmk.gr ak;replace hki:=hki.gr ak;replace aa:=hjs _ _ _ _ _ aa ak.toP;refine Zk<|Xp bp hC0 ak<|xe rfl rfl ?_;intro cv hC0;have hC:=hC0.bl bp;replace ab:=ab.gr hC;replace ac:=ac.gr hC;replace ad:=ad.gr hC;replace ae:=ae.gr hC;replace ai:=ai.gr hC;replace aj:=aj.gr hC;replace av:=av.gr hC;replace hf0:=hf0.gr hC;replace hb1:=hb1.gr hC;replace af:=af.gr hC;replace hb0:=hb0.gr hC;replace hrec:=hrec.gr hC;replace hmk:=hmk.gr hC;replace hki:=hki.gr hC;replace aa:=hjs _ _ _ _ _ aa hC.toP;replace ab:=ab.froz 1003;replace ac:=ac.froz 1003;replace ad:=ad.froz 1003;replace ae:=ae.froz 1003;replace ai:=(ai).toSlF (Zn.int .u32);replace aj:=aj.froz 1003 (by decide);replace av:=av.froz 1003 (by decide);replace hf0:=hf0.froz 1003
  replace hb1:=hb1.froz 1003 (by decide);replace af:=af.froz 1003 (by decide);replace hb0:=hb0.froz 1003 (by decide);replace hrec:=hrec.froz 1003 (by decide);replace hmk:=hmk.froz 1003 (by decide);replace hki:=hki.froz 1003 rfl;replace aa:=hjs _ _ _ _ _ aa ((Z1.refl _ _ _).froz 1003 rfl);replace ab:=ab.froz 1004;replace ac:=ac.froz 1004;replace ad:=ad.froz 1004;replace ae:=ae.froz 1004;replace ai:=ai.froz 1004;replace aj:=(aj).toSlF (Zn.int .u32);replace av:=av.froz 1004 (by decide);replace hf0:=hf0.froz 1004;replace hb1:=hb1.froz 1004 (by decide);replace af:=af.froz 1004 (by decide);replace hb0:=hb0.froz 1004 (by decide);replace hrec:=hrec.froz 1004 (by decide);replace hmk:=hmk.froz 1004 (by decide);replace hki:=hki.froz 1004 rfl;replace aa:=hjs _ _ _ _ _ aa ((Z1.refl _ _ _).froz 1004 rfl);replace ab:=ab.recol 1006 cy (by decide);replace ac:=ac.recol 1006 cy (by decide);replace ad:=ad.recol 1006 cy (by decide);replace ae:=ae.recol 1006 cy (by decide);replace ai:=ai.recol 1006 cy (by decide);replace aj:=aj.recol 1006 cy (by decide);replace av:=av.recolSelf cy (by decide);replace hf0:=hf0.recol 1006 cy (by decide);replace hb1:=hb1.recol 1006 cy (by decide);replace af:=af.recol 1006 cy (by decide);replace hb0:=hb0.recol 1006 cy (by decide);replace hrec:=hrec.recol 1006 cy (by decide);replace hmk:=hmk.recol 1006 cy (by decide);replace hki:=hki.recol 1006 cy rfl;replace aa:=hjs _ _ _ _ _ aa ((Z1.refl _ _ _).recol 1006 cy rfl);obtain ⟨b7,hc_68m,b8⟩:=bZ hm;cases b8;have hm:=hc_68m;refine ly2 rfl rfl rfl rfl (hy _ _ _ _ [.slice bn b4.length bo,(.agg #[.bool au.1.1.1,.slice ba au.1.1.2.length bb,.slice bc au.1.2.length bd])] aa ⟨bn,bo,ba,bb,bc,bd,rfl,av,ai,aj⟩) ?_;rintro _ cw ⟨be,ap,⟨rfl,hJ⟩ | ⟨rfl,hX⟩⟩
  ·refine ⟨_,rfl,?_⟩;replace ab:=ab.kpp ap;replace ac:=ac.kpp ap;replace ad:=ad.kpp ap;replace ae:=ae.kpp ap;replace hf0:=hf0.kpp ap;replace hb1:=hb1.kpp ap;replace af:=af.kpp ap;replace hb0:=hb0.kpp ap;replace hrec:=hrec.kpp ap;replace hmk:=hmk.kpp ap;replace hki:=hki.trans (ap.mono (by first | exact pCo_p2 rfl | exact pCo_p1 rfl | exact pCo_pS rfl | exact fun _=>Zvw | exact fun _ h=>h | exact fun _ _=>rfl));have aa:=hJ;refine Zk<|xk be<|xu rfl rfl (fun _=>Zkz _ rfl) ?_;refine Y9 ?_;intro cx hC;replace hC:=hC.bl be;replace ab:=ab.gr hC;replace ac:=ac.gr hC;replace ad:=ad.gr hC;replace ae:=ae.gr hC;replace hf0:=hf0.gr hC;replace hb1:=hb1.gr hC;replace af:=af.gr hC;replace hb0:=hb0.gr hC;replace hrec:=hrec.gr hC;replace hmk:=hmk.gr hC;replace hki:=hki.gr hC;replace aa:=hjs _ _ _ _ _ aa hC.toP;refine Yf rfl<|X9 ?_;exact ⟨_,hki,⟨b7,hm,aa,ab,ac,ad,ae,hb1,af,hf0,hb0⟩,hrec,hmk⟩
  refine ⟨_,rfl,?_⟩;replace hrec:=hrec.kpp ap;replace hmk:=hmk.kpp ap;replace hki:=hki.trans (ap.mono (by first | exact pCo_p2 rfl | exact pCo_p1 rfl | exact pCo_pS rfl | exact fun _=>Zvw | exact fun _ h=>h | exact fun _ _=>rfl));have aa:=hX;refine Zk<|xk be<|xu rfl rfl (fun _=>Zkz _ rfl) ?_;refine Y9 ?_;intro cz hC;replace hC:=hC.bl be;replace hrec:=hrec.gr hC;replace hmk:=hmk.gr hC;replace hki:=hki.gr hC;replace aa:=hxs _ _ _ _ aa hC.toP;refine Yg rfl<|We ?_;exact ⟨_,hki,⟨rfl,aa⟩,hrec,hmk⟩
 ·intro b9 ag al hJ hmk;obtain ⟨r,hm,aa,ab,ac,ad,ae,hb1,af,hf0,hb0⟩:=hJ;rw [Zd0.eq_1] at hm;cases hm;refine ⟨_,(b9 :: []),rfl,hmk,?_⟩;intro c0 ca cb;replace aa:=hjs _ _ _ _ _ aa (ca.toP cb rfl);exact ⟨⟨_,rfl⟩,_,.inl aa⟩
 intro c_ cc ag al hX hmk;obtain ⟨rfl,hX⟩:=hX;have aa:=hX;refine We ?_;refine ⟨_,(cc :: []),rfl,hmk,?_⟩;intro c1 cd ce;replace aa:=hxs _ _ _ _ aa (cd.toP ce rfl);exact ⟨⟨_,rfl⟩,_,.inr aa⟩
def Zgy (N:Nat) (aa:R0):Option (List Ri):=
  (Tj N (aa.1,aa.2.1,aa.2.2.1,aa.2.2.2.1,aa.2.2.2.2) ([]:List R5) ([]:List Int)).bind fun ac=>if (!decide (ac.2=0))=true then Zpf else ((Zg0 N (aa.1,aa.2.1,aa.2.2.1,aa.2.2.2.1,aa.2.2.2.2)).bind fun ab=>Zmb N ac.1 (ab.1,ab.2.1,ab.2.2.1,ab.2.2.2.1,ab.2.2.2.2))
theorem Z0d {N bc bd be bf:Nat} {bg bh bi bj:Option Addr} {col:Zd} {w0:World} {ai:R0} {r:(List Ri)} (cy:Nat) (hm:Zgy N ai=some r) (ar:Sl Za.str col w0 bg bc ai.2.1) (au:Sl (Za.slice Za.str) col w0 bh bd ai.2.2.1) (av:Sl (Za.slice (Za.int .i64)) col w0 bi be ai.2.2.2.1) (aw:Sl (Za.slice (Za.pair (Za.pair Za.bool (Za.slice (Za.int .u32))) (Za.slice (Za.int .u32)))) col w0 bj bf ai.2.2.2.2):
    Calls prog 49 #[(.agg #[.string ai.1,.slice bg ai.2.1.length bc,.slice bh ai.2.2.1.length bd,.slice bi ai.2.2.2.1.length be,.slice bj ai.2.2.2.2.length bf])] w0 (fun e w'=>∃ (col':Zd) (rv1:Value),e= .returned (rv1)∧Zg col w0 col' w'∧It prog 2 rv1 (fun (y:List Int×R1) (col:Zd) (w:World) (args:List Value)=>∃ (a0:Option Addr) (bk:Nat) (a1_0_1:Option Addr) (c1_0_1:Nat) (bm:Option Addr) (bn:Nat),args=[.slice a0 y.1.length bk,.agg #[.bool y.2.1.1,.slice a1_0_1 y.2.1.2.length c1_0_1,.slice bm y.2.2.length bn]]∧Zc (Za.int .i64) 3 cy col w a0 bk y.1∧Sl (Za.int .u32) col w a1_0_1 c1_0_1 y.2.1.2∧Sl (Za.int .u32) col w bm bn y.2.2) r q0 col' w'):=by
 refine Xc 2 (m:=16) func49 rfl rfl rfl rfl rfl ?_;rw [Zgy.eq_1] at hm;have aa:=St.start col w0;refine go ?_;refine Xg (col:=(Zh col)) 1 rfl ?_;intro b9 ca cb bp ax;refine lv (v:=_) rfl rfl (U0 rfl)<|go ?_;refine lV _ (Z7 isAgg27 sizeOf27 ax) ?_;obtain ⟨ak,bq,hm⟩:=bZ hm;replace ar:=ar.keep (Zf.start col w0);replace au:=au.keep (Zf.start col w0);replace av:=av.keep (Zf.start col w0);replace aw:=aw.keep (Zf.start col w0);replace aa:=aa.grow bp;refine Zi (Zof 2 bq (ar.ks aa) (au.ks aa) (av.ks aa) (aw.ks aa) Sl.nil Sl.nil) ?_;rintro _ cc ⟨br,ao,ap,rfl,bo,ab⟩;refine ⟨_,rfl,?_⟩;refine lM (.tuple #[.slice ao ak.1.length ap,.int .i64 ak.2])<|lV (.slice ao ak.1.length ap) (Xv rfl rfl)<|lV (.int .i64 ak.2) (Xv rfl rfl)<|Zds (col:=br) (v:=(.slice none (([]:List Int).length) 0)) 3 rfl zeroValue40 ?_;intro an bs az a1 a2;replace a2:Zm 40 3 az bs an #[.slice none (([]:List Int).length) 0]:=a2;refine Q5 (v:=(.slice ao ak.1.length ap)) a2 sizeOf40 rfl rfl (by intro u hu;simp only [Value.cells,List.mem_cons,List.not_mem_nil,or_false] at hu;subst hu;rfl) rfl rfl ?_;intro bt a3 bu ac;replace ac:Zm 40 3 az bt an #[.slice ao ak.1.length ap]:=ac;refine go ?_;replace ax:=((ax.gr bo).gr a1).kp a3;replace aa:=((aa.grow bo).grow a1).kp a3 bu;replace ab:=(ab.gr a1).kp a3;refine Zo hm (fun hb hm=>go ?_) fun hb hm=>go ?_
 ·refine lA (.func (.func 139) #[] #[])<|go ?_;refine ⟨rfl,Vq w0.heap.size col az (fun n=>0),_,rfl,aa.fin (fun n=>0),139,[],rfl,call139,?_⟩;intro col9 w9 aj hk9;exact Z0e cy col9 w9 r hm
 refine lV _ (Z7 isAgg27 sizeOf27 ax) ?_;obtain ⟨aq,bv,hm⟩:=bZ hm;refine Zi (Z0i 4 5 6 7 bv (ar.ks aa) (au.ks aa) (av.ks aa) (aw.ks aa)) ?_;rintro _ cd ⟨bw,bx,bz,b0,b1,b2,b3,b4,b5,rfl,a4,ad,ae,af,ag⟩;refine ⟨_,rfl,?_⟩;refine Xl (col:=bw) #[.string (⟨#[]⟩),.slice none (([]:List ByteArray).length) 0,.slice none (([]:List R7).length) 0,.slice none (([]:List R2).length) 0,(.slice none (([]:List R8).length) 0)] 8 zeroValue27 ?_;intro ay ce b6 al b7;refine Z4 b7 ?_;intro cf am b8 ah;refine go ?_;refine lV (.func (.func 141) #[] #[.pointer (some ⟨an,0,none⟩),.pointer (some ⟨ay,0,none⟩)]) (Zp5 rfl rfl)<|lA (.func (.func 141) #[] #[.pointer (some ⟨an,0,none⟩),.pointer (some ⟨ay,0,none⟩)])<|go ?_;replace ab:=((ab.gr a4).gr al).kp am;replace ab:=(ab).toSlF (Zn.int .i64);replace ad:=(ad.gr al).kp am;replace ad:=ad.froz 2 (by decide);replace ae:=(ae.gr al).kp am;replace ae:=ae.froz 2 (by decide);replace af:=(af.gr al).kp am;replace af:=af.froz 2 (by decide);replace ag:=(ag.gr al).kp am;replace ag:=ag.froz 2 (by decide);replace ac:=((ac.gr a4).gr al).kp am;replace ac:=ac.froz 2 (by decide);replace ah:=ah.froz 2 (by decide);replace aa:=((aa.grow a4).grow al).kp am b8;replace aa:=aa.froz 2 (by decide) (by decide);replace ab:=ab.froz 4;replace ad:=(ad).toSlF Zn.str;replace ae:=ae.froz 4 (by decide);replace af:=af.froz 4 (by decide);replace ag:=ag.froz 4 (by decide);replace ac:=ac.froz 4 (by decide);replace ah:=ah.froz 4 (by decide);replace aa:=aa.froz 4 (by decide) (by decide);replace ab:=ab.froz 5;replace ad:=ad.froz 5;replace ae:=(ae).toSlF (Zn.row Zn.str);replace af:=af.froz 5 (by decide);replace ag:=ag.froz 5 (by decide);replace ac:=ac.froz 5 (by decide);replace ah:=ah.froz 5 (by decide);replace aa:=aa.froz 5 (by decide) (by decide);replace ab:=ab.froz 6;replace ad:=ad.froz 6;replace ae:=ae.froz 6;replace af:=(af).toSlF (Zn.row (Zn.int .i64));replace ag:=ag.froz 6 (by decide);replace ac:=ac.froz 6 (by decide);replace ah:=ah.froz 6 (by decide);replace aa:=aa.froz 6 (by decide) (by decide);replace ab:=ab.froz 7;replace ad:=ad.froz 7;replace ae:=ae.froz 7;replace af:=af.froz 7
 replace ag:=(ag).toSlF (Zn.row (Zn.pair (Zn.pair Zn.bool (Zn.row (Zn.int .u32))) (Zn.row (Zn.int .u32))));replace ac:=ac.froz 7 (by decide);replace ah:=ah.froz 7 (by decide);replace aa:=aa.froz 7 (by decide) (by decide);have a5:=aa.finBox (G:=(fun n=>bif Nat.beq n 3 then 450 else bif Nat.beq n 8 then 450 else 0)) ac (by decide) (by decide) (show (fun n=>bif Nat.beq n 3 then 450 else bif Nat.beq n 8 then 450 else 0) 3=450 from rfl);have a6:=aa.finSl (g:=(fun n=>bif Nat.beq n 3 then 450 else bif Nat.beq n 8 then 450 else 0)) rfl ab;have a7:=aa.finBox (G:=(fun n=>bif Nat.beq n 3 then 450 else bif Nat.beq n 8 then 450 else 0)) ah (by decide) (by decide) (show (fun n=>bif Nat.beq n 3 then 450 else bif Nat.beq n 8 then 450 else 0) 8=450 from rfl);have a8:=aa.finSl (g:=(fun n=>bif Nat.beq n 3 then 450 else bif Nat.beq n 8 then 450 else 0)) rfl ad;have a9:=aa.finSl (g:=(fun n=>bif Nat.beq n 3 then 450 else bif Nat.beq n 8 then 450 else 0)) rfl ae;have ba:=aa.finSl (g:=(fun n=>bif Nat.beq n 3 then 450 else bif Nat.beq n 8 then 450 else 0)) rfl af;have bb:=aa.finSl (g:=(fun n=>bif Nat.beq n 3 then 450 else bif Nat.beq n 8 then 450 else 0)) rfl ag;refine ⟨rfl,Vq w0.heap.size col (Xq 7 (Xq 6 (Xq 5 (Xq 4 (Xq 2 b6))))) (fun n=>bif Nat.beq n 3 then 450 else bif Nat.beq n 8 then 450 else 0),_,rfl,aa.fin (fun n=>bif Nat.beq n 3 then 450 else bif Nat.beq n 8 then 450 else 0),141,[.pointer (some ⟨an,0,none⟩),.pointer (some ⟨ay,0,none⟩)],rfl,call141,?_⟩;intro col9 w9 aj hk9;replace a5:=a5.itk aj hk9 rfl;replace a6:=a6.itk aj hk9 rfl;replace a7:=a7.itk aj hk9 rfl;replace a8:=a8.itk aj hk9 rfl;replace a9:=a9.itk aj hk9 rfl;replace ba:=ba.itk aj hk9 rfl;replace bb:=bb.itk aj hk9 rfl;exact Z0f N cy col9 w9 an ao ap ak.1 a6 a5 ay bx bz b0 b1 b2 b3 b4 b5 (aq.1,aq.2.1,aq.2.2.1,aq.2.2.2.1,aq.2.2.2.2) a8 a9 ba bb a7 r hm
/-! a network whose lists are its own -/
def Ws (x:QV):QV:=Zs (Z5 x)
def Vr (n:Xe):Xe:=(n.1,n.2.1,n.2.2.1,n.2.2.2.1,n.2.2.2.2.map (List.map Ws))
theorem Zo0 (x:QV):Z5 (Ws x)=Z5 x:=V4 _
theorem Zoz (T:List (List QV)) (v:Nat):(T.map (List.map Ws)).getD v []=(T.getD v []).map Ws:=by
 rw [List.getD_eq_getElem?_getD,List.getD_eq_getElem?_getD,List.getElem?_map]
 cases T[v]? with
 | none=>rfl
 | some t=>rfl
theorem Z2w (l:List QV):Wx (l.map Ws)=Wx l:=by
 rw [Wx,Wx,List.map_map]
 congr 1
 exact List.map_congr_left fun x _=>Zo0 x
theorem Zsg (c:Nat):∀ (m:Nat) (l:List QV),Um c m (l.map Ws)=Um c m l
 | 0,l=>rfl
 | m+1,l=>by rw [Um,Um,← List.map_take,← List.map_drop,Z2w,Zsg c m]
theorem Zsj (vals:List R7) (P:List R2) (T:List (List QV)):∀ m v,Uo vals P (T.map (List.map Ws)) m v=Uo vals P T m v
 | 0,v=>rfl
 | m+1,v=>by rw [Uo,Uo,Zoz,List.length_map,Zsj vals P T m]
theorem Zsk (vals:List R7) (P:List R2) (T:List (List QV)):∀ m v,Zav vals P (T.map (List.map Ws)) m v=Zav vals P T m v
 | 0,v=>rfl
 | m+1,v=>by rw [Zav,Zav,Zoz,Zsg,Zsk vals P T m]
theorem Z2t (T:List (List QV)):Qc (T.map (List.map Ws))=Qc T:=by
 rw [Qc,Qc,List.any_map]
 congr 1
 funext t
 show (t.map Ws).any Ww=t.any Ww
 rw [List.any_map]
 congr 1
 funext x
 show Ww (Ws x)=Ww x
 rw [Ww,Ww,Zo0]
theorem Z2v {N:Nat} {n:Xe} (hf:Y4 N n):Y4 N (Vr n) where
 ev:=⟨hf.ev.v,hf.ev.p,by show (n.2.2.2.2.map (List.map Ws)).length=_;rw [List.length_map];exact hf.ev.t,hf.ev.i,hf.ev.ne⟩
 le:=hf.le
 nm:=hf.nm
 sh:=(Zsj _ _ _ _ _).trans hf.sh
 en:=(Z2t _).trans hf.en
 su:=(Zsk _ _ _ _ _).trans hf.su
 tw:=hf.tw
 or:=hf.or
theorem Z2x {n:Xe} {W:Nat} (hs:W4 n W) (hq:∀ t ∈ n.2.2.2.2,Xz (t.map Ws)≤W):W4 (Vr n) W:=by
 refine ⟨hs.nm,hs.vl,hs.pn,fun t ht=>?_,fun t ht=>?_,fun t ht x hx=>?_⟩
 ·obtain ⟨u,hu,rfl⟩:=List.mem_map.1 ht
  rw [List.length_map];exact hs.tl u hu
 ·obtain ⟨u,hu,rfl⟩:=List.mem_map.1 ht
  exact hq u hu
 ·obtain ⟨u,hu,rfl⟩:=List.mem_map.1 ht
  obtain ⟨y,hy,rfl⟩:=List.mem_map.1 hx
  exact ⟨Z8 _,Z8 _⟩
theorem Z2u (n:Xe) (w:List Int) (v:Nat):ent (Vr n) w v=ent n w v:=by
 have hr:∀ (ps:List Int) (r:Nat),S3 (Vr n) w ps r=S3 n w ps r:=fun ps=>by
  induction ps with
  | nil=>intro r;rfl
  | cons p ps ih=>intro r;rw [S3,S3,ih];rfl
 have hi:Vn (Vr n) w v=Vn n w v:=hr _ _
 have hT:Vo (Vr n) w v=(Vo n w v).map Ws:=by
  rw [Vo,Vo,hi,List.map_take,List.map_drop]
  show List.take (cnt n v) (List.drop (Vn n w v * cnt n v) ((n.2.2.2.2.map (List.map Ws)).getD v []))=_
  rw [Zoz]
 rw [ent,ent,hT]
 generalize (w.getD v 0).toNat=j
 rw [List.getD_eq_getElem?_getD,List.getD_eq_getElem?_getD,List.getElem?_map]
 cases (Vo n w v)[j]? with
 | none=>rfl
 | some x=>exact Zo0 x
theorem Zsh (n:Xe) (w:List Int):∀ m k q,Vv (Vr n) w m k q=Vv n w m k q
 | 0,k,q=>rfl
 | m+1,k,q=>by rw [Vv,Vv,Z2u,Zsh n w m]
section
variable {N W K:Nat} {n:Xe} (hf:Y4 N n) (hs:W4 n W) (hr:Xh N (8 * K+40)) (hWK:1025 * (W+2)+4≤K) (hN:2000000<N)
include hf hs hr hWK hN
omit hf hs hN in
theorem Zse (v:Int) (m1:ByteArray) (m2:List ByteArray) (m3:List R7) (m4:List R2) (m5:List (List QV)) (h5:m5.length≤1048576) (kk:Int→ByteArray→List ByteArray→List R7→List R2→List (List QV)→Option Xe) (r1:List ByteArray) (r2:List Int):∀ (l out:List QV),(∀ x ∈ l,Wy x∧max x.1.2.length x.2.length≤W)→out.length+l.length≤1048576→
  Zch N v m1 m2 m3 m4 m5 kk r1 r2 l out=kk (i64.wrap (v+1)) m1 m2 (m3++[r1]) (m4++[r2]) (m5++[out++l.map Ws])
 | [],out,_,h2=>by
  rw [Zch.eq_1,Zz (by simp only [List.length_singleton,maxLen];omega),List.map_nil,List.append_nil]
 | x :: l,out,h1,h2=>by
  obtain ⟨x1,x2⟩:=h1 x List.mem_cons_self
  have hz:RV 0 ((false,([]:List Int)),([]:List Int)):=⟨by simp [Zp],by simp [Zp],by simp,by simp⟩
  have hz2:Z5 ((false,([]:List Int)),([]:List Int))=0:=by rw [Z5];simp [Zt,Zb]
  have ad:Zac N ((x.1.1,x.1.2),x.2) ((false,([]:List Int)),([]:List Int))=some (Ws x):=by
   have:=Zo3 ((Zby x1.1 x1.2).mono x2) hz (hr.mono (by omega))
   rwa [hz2,Rat.add_zero] at this
  rw [nC] at h2
  rw [Zch.eq_2,ad,oB,Zz (by simp only [List.length_singleton,maxLen];omega)]
  have ih:=Zse v m1 m2 m3 m4 m5 h5 kk r1 r2 l (out++[Ws x]) (fun y hy=>h1 y (List.mem_cons_of_mem _ hy)) (by rw [nA,List.length_singleton];omega)
  rw [List.append_assoc] at ih
  exact ih
omit hN in
theorem Zsd:∀ (f v:Nat),v≤n.2.1.length→n.2.1.length<f+v→Za4 N n f (v:Int) n.1 n.2.1 (n.2.2.1.take v) (n.2.2.2.1.take v) ((n.2.2.2.2.take v).map (List.map Ws))=some (Vr n)
 | 0,v,h1,h2=>by omega
 | f+1,v,h1,h2=>by
  have hv:=hf.ev.v;have hp:=hf.ev.p;have ht:=hf.ev.t;have hle:=hf.le
  rw [Za4.eq_2]
  by_cases hk:v<n.2.1.length
  ·have a1:v<n.2.2.1.length:=by omega
   have a2:v<n.2.2.2.1.length:=by omega
   have a3:v<n.2.2.2.2.length:=by omega
   have c1:Zfx n.2.2.1[v]=some n.2.2.1[v]:=by
    have:=hs.vl _ (List.getElem_mem a1)
    rw [Zfx,Zz (by simp only [nN,maxLen];omega),List.nil_append]
   have c2:Zdd n.2.2.2.1[v]=some n.2.2.2.1[v]:=Zox (by have:=hs.pn.ls _ (List.getElem_mem a2);omega)
   have hmem:=fun x hx=>Zl3 hf hs hk x (by rw [Yb a3];exact hx)
   have l2:=Zse hr hWK (v:Int) n.1 n.2.1 (n.2.2.1.take v) (n.2.2.2.1.take v) ((n.2.2.2.2.take v).map (List.map Ws)) (by rw [List.length_map,nK];omega) (Za4 N n f) n.2.2.1[v] n.2.2.2.1[v] n.2.2.2.2[v] [] hmem (by have:=hs.tl _ (List.getElem_mem a3);simpa using this)
   have ih:=Zsd f (v+1) (by omega) (by omega)
   rw [List.take_succ_eq_append_getElem a1,List.take_succ_eq_append_getElem a2,List.take_succ_eq_append_getElem a3,List.map_append,List.map_singleton] at ih
   rw [if_pos (dT (by omega)),Zy a1,oB,c1,oB,Zz (by simp only [nK,List.length_singleton,maxLen];omega),Zy a2,oB,c2,oB,Zz (by simp only [nK,List.length_singleton,maxLen];omega),Zy a3,oB,l2,wS (by omega),List.nil_append]
   exact ih
  ·rw [if_neg (dF (by omega)),List.take_of_length_le (by omega),List.take_of_length_le (by omega),List.take_of_length_le (by omega)];rfl
theorem Z2r:Zg0 N n=some (Vr n):=by
 have hle:=hf.le
 have h:=Zsd hf hs hr hWK N 0 (Nat.zero_le _) (by omega)
 rw [List.take_zero,List.take_zero,List.take_zero,List.map_nil] at h
 rw [Zg0,Zfx,Zz (by simp only [nN,maxLen];omega),oB,List.nil_append]
 exact h
/-! how many -/
def Zq (n:Xe):List Nat:=n.2.2.1.map List.length
omit hs hr hWK hN in
theorem S4:∀ s ∈ Zq n,0<s:=fun s h=>by
 obtain ⟨l,hl,rfl⟩:=List.mem_map.1 h
 exact List.length_pos_iff.2 (hf.ev.ne l hl)
omit hr hWK hf hN hs in
theorem Zpa:∀ (l:List R7) (out:List Int),out.length+l.length≤1048576→Zcj l out=some (out++X8 (l.map List.length))
 | [],out,_=>by rw [Zcj.eq_1,List.map_nil,X8,List.map_nil,List.append_nil]
 | x :: l,out,h=>by
  rw [nC] at h
  rw [Zcj.eq_2,Zz (by simp only [List.length_singleton,maxLen];omega),Zpa l _ (by rw [nA,List.length_singleton];omega),List.append_assoc];rfl
theorem Z37 (hb:Z6 (Zq n)≤65536):Tj N n [] []=some (X8 (Zq n),0):=by
 have hv:=hf.ev.v;have hle:=hf.le
 have hC:Tw N (n.1,n.2.1,n.2.2.1,n.2.2.2.1,n.2.2.2.2)=some 0:=Zou hf hs (hr.mono (by omega)) hN
 have sz:Zea (n.1,n.2.1,n.2.2.1,n.2.2.2.1,n.2.2.2.2)=some (X8 (Zq n)):=by
  have:=Zpa n.2.2.1 [] (by simp only [nN];omega)
  rw [List.nil_append] at this
  rw [Zea];exact this
 have hlen:(X8 (Zq n)).length=n.2.1.length:=by rw [X8,Zq,List.length_map,List.length_map,hv]
 have ct:=Zyu (S4 hf) hb
 rw [Tj,hC,oB,if_neg (by decide),sz,oB,Tv.eq_1,Sj.eq_1,Zz (by rw [hlen];simp only [maxLen];omega),Za3.eq_1,Qj.eq_1,ct,oB]
 dsimp only
 rw [if_neg (show ¬ (!decide ((0:Int)=0))=true by decide),decide_eq_false (by omega),Zcg,if_neg (by decide)]
omit hs hr hWK hN in
theorem Zjg {w:List Int} (h:S6 (Zq n) w):Uq n w:=by
 have key:∀ (L:List R7) (w:List Int),S6 (L.map List.length) w→w.length=L.length∧∀ i,i<w.length→0≤w.getD i 0∧w.getD i 0<((L.getD i []).length:Int):=by
  intro L
  induction L with
  | nil=>
   intro w hw
   cases w with
   | nil=>exact ⟨rfl,fun i hi=>by simp at hi⟩
   | cons d w=>exact hw.elim
  | cons l L ih=>
   intro w hw
   cases w with
   | nil=>exact hw.elim
   | cons d w=>
    obtain ⟨h1,h2⟩:=ih w hw.2
    refine ⟨by rw [nC,nC,h1],fun i hi=>?_⟩
    cases i with
    | zero=>exact hw.1
    | succ i=>exact h2 i (by simpa using hi)
 obtain ⟨h1,h2⟩:=key n.2.2.1 w h
 exact ⟨by rw [h1,hf.ev.v],h2⟩
def Zdo (n:Xe):Nat→Nat→List (List Int×QV)
 | _,0=>[]
 | k,m+1=>(X4 (Zq n) k,Zs (Vv n (X4 (Zq n) k) n.2.1.length 0 1)) :: Zdo n (k+1) m
theorem Zqy (hq:∀ t ∈ n.2.2.2.2,Xz (t.map Ws)≤W) (hb:Z6 (Zq n)≤65536):∀ (m k:Nat),k+m=Z6 (Zq n)→Zd0 N (Vr n) (Zgj (Zq n) k m)=some (Zdo n k m)
 | 0,k,_=>rfl
 | m+1,k,h=>by
  have hf':=Z2v hf
  have hs':=Z2x hs hq
  have hC':=Zou hf' hs' (hr.mono (by omega)) hN
  have hle:=hf.le
  have hd:=Zjg hf (Zjf (Zq n) k (S4 hf) (by omega))
  obtain ⟨p,e,ch,cs⟩:=Z2i hf' hs' hr hWK hN hC' (X4 (Zq n) k)
  have hin:(decide ((X4 (Zq n) k).length=(Vr n).2.1.length)&&Se (Vr n) (X4 (Zq n) k) 0)=true:=by
   have:∀ (l:List Int) (j:Nat),(X4 (Zq n) k).drop j=l→Se (Vr n) l j=true:=by
    intro l
    induction l with
    | nil=>intro j _;rfl
    | cons x l ihl=>
     intro j hj
     have hjl:j<(X4 (Zq n) k).length:=by
      rcases Nat.lt_or_ge j (X4 (Zq n) k).length with h | h
      ·exact h
      ·rw [List.drop_eq_nil_of_le h] at hj;cases hj
     rw [List.drop_eq_getElem_cons hjl] at hj
     obtain ⟨a1,a2⟩:=List.cons.inj hj
     have hok:=hd.ok j hjl
     rw [Yb hjl,a1] at hok
     have hcn:cnt (Vr n) j=cnt n j:=rfl
     rw [Se,ihl (j+1) a2,hcn,decide_eq_false (by omega),decide_eq_false (by omega)];rfl
   rw [this (X4 (Zq n) k) 0 (by rw [List.drop_zero]),Bool.and_true]
   exact decide_eq_true hd.len
  rcases cs with ⟨_,h0⟩ | ⟨_,_,hp⟩
  ·rw [hin] at h0;cases h0
  ·have ch':Zg5 N ((Vr n).1,(Vr n).2.1,(Vr n).2.2.1,(Vr n).2.2.2.1,(Vr n).2.2.2.2) (X4 (Zq n) k)=some (p,e):=ch
   have hlen:(X4 (Zq n) k).length≤1099511627776:=by rw [hd.len];omega
   rw [Zgj,Zd0.eq_2]
   dsimp only
   rw [ch',oB,Zox hlen,oB,Zqy hq hb m (k+1) (by omega),oB,hp,Zsh]
   rfl
theorem Z36 (hq:∀ t ∈ n.2.2.2.2,Xz (t.map Ws)≤W) (hb:Z6 (Zq n)≤65536):Zgy N n=some (Zdo n 0 (Z6 (Zq n))):=by
 have hle:=hf.le;have hv:=hf.ev.v
 have jc:Tj N (n.1,n.2.1,n.2.2.1,n.2.2.2.1,n.2.2.2.2) [] []=some (X8 (Zq n),0):=Z37 hf hs hr hWK hN hb
 have cp:Zg0 N (n.1,n.2.1,n.2.2.1,n.2.2.2.1,n.2.2.2.2)=some (Vr n):=Z2r hf hs hr hWK hN
 have ra:=Z52 (N:=N) (S4 hf) (by rw [Zq,List.length_map];omega) (by omega) hb
 rw [Zgy,jc,oB]
 dsimp only
 rw [if_neg (show ¬ (!decide ((0:Int)=0))=true by decide),cp,oB,Zmb,ra,oB]
 exact Zqy hf hs hr hWK hN hq hb (Z6 (Zq n)) 0 (by omega)
end
def Zfa (N:Nat) (ab:R0) (ac:List Int) (ag:Bool) (ah:List Int) (ai:List Int) (aa:Int) (kk_L1:(Bool→R2→R2→Int→Option R1)):Nat→Int→Int→Option R1
  | 0,_,_=>none
  | am+1,aj,ad=>(Zj ab.2.2.2.1 aa).bind fun ak=>if (decide (ad<(ak.length:Int)))=true then ((Zj ak ad).bind fun al=>(Zj ab.2.2.1 al).bind fun an=>(Zj ac al).bind fun ao=>(Zfa N ab ac ag ah ai aa kk_L1 am) (i64.wrap ((i64.wrap (aj * (an.length:Int)))+ao)) (i64.wrap (ad+1))) else ((Zj ab.2.2.2.2 aa).bind fun ap=>(Zj ab.2.2.1 aa).bind fun aq=>(Zj ac aa).bind fun ar=>(Zj ap (i64.wrap ((i64.wrap (aj * (aq.length:Int)))+ar))).bind fun ae=>(Zcw N ((ag,ah),ai) ((ae.1.1,ae.1.2),ae.2)).bind fun af=>kk_L1 af.1.1 af.1.2 af.2 (i64.wrap (aa+1)))
termination_by structural x=>x
def Zbs (N:Nat) (aa:R0) (ab:List Int):Nat→Bool→R2→R2→Int→Option R1
  | 0,_,_,_,_=>none
  | ag+1,ac,ad,ae,af=>if (decide (af<(aa.2.1.length:Int)))=true then (Zfa N aa ab ac ad ae af (Zbs N aa ab ag) N 0 0) else (some ((ac,ad),ae))
termination_by structural x=>x
def Zif (N:Nat) (ab:R0) (ac:List Int):Option R1:=
  (Zah N 1 1).bind fun aa=>Zbs N ab ac N aa.1.1 aa.1.2 aa.2 0
theorem Z1q {N a8 a9 ba bb b1:Nat} {bc bd be bf a1:Option Addr} {col:Zd} {w0:World} {ad:R0} {au:R2} {r:R1} (c1 c2:Nat) (hm:Zif N ad au=some r) (c8:Sl Za.str col w0 bc a8 ad.2.1) (av:Sl (Za.slice Za.str) col w0 bd a9 ad.2.2.1) (aw:Sl (Za.slice (Za.int .i64)) col w0 be ba ad.2.2.2.1) (bg:Sl (Za.slice (Za.pair (Za.pair Za.bool (Za.slice (Za.int .u32))) (Za.slice (Za.int .u32)))) col w0 bf bb ad.2.2.2.2) (h1:Sl (Za.int .i64) col w0 a1 b1 au):
    Calls prog 136 #[(.agg #[.string ad.1,.slice bc ad.2.1.length a8,.slice bd ad.2.2.1.length a9,.slice be ad.2.2.2.1.length ba,.slice bf ad.2.2.2.2.length bb]),.slice a1 au.length b1] w0 (fun e w'=>∃ (col':Zd) (ra1:Option Addr) (rc2:Nat) (ra4:Option Addr) (rc5:Nat),e= .returned ((.agg #[.bool r.1.1,.slice ra1 r.1.2.length rc2,.slice ra4 r.2.length rc5]))∧Zg col w0 col' w'∧Zc (Za.int .u32) 79 c1 col' w' ra1 rc2 r.1.2∧Zc (Za.int .u32) 79 c2 col' w' ra4 rc5 r.2):=by
 refine Ym (m:=72) func136 rfl rfl rfl ?_;rw [Zif.eq_1] at hm;have aa:=St.start col w0;refine go ?_;refine Xg (col:=(Zh col)) 1 rfl ?_;intro b2 c9 b8 b9 ab;refine Xl (col:=b8) #[.bool false,.slice none (([]:List Int).length) 0,.slice none (([]:List Int).length) 0] 2 zeroValue47 ?_;intro b3 da ca b4 ae;refine go ?_;obtain ⟨db,cb,hm⟩:=bZ hm;refine Zi (Zlu (col:=ca) 3 4 cb) ?_;rintro _ dc ⟨cc,dd,de,df,dg,rfl,bo,bp,bq⟩;refine ⟨_,rfl,?_⟩;refine Xl (col:=cc) #[.bool false,.slice none (([]:List Int).length) 0,.slice none (([]:List Int).length) 0] 5 zeroValue47 ?_;intro b5 dh di az cd;refine Z4 cd ?_;intro dj a0 ce af;refine go ?_;replace aa:=((((aa.grow b9).grow b4).grow bo).grow az).kp a0 ce;replace ab:=(((ab.gr b4).gr bo).gr az).kp a0;replace ae:=((ae.gr bo).gr az).kp a0;replace bp:=(bp.gr az).kp a0;replace bq:=(bq.gr az).kp a0;refine Zw [1,2,4,5,1000000] (fun n f al=>∃ am a2 a3 a4 an a5 a6 ao bh ap,ap=n∧Zbs N ad au ap a2 an ao bh=some r∧St w0 (Zh col) am al∧Zm 27 1 am al b2 #[.string ad.1,.slice bc ad.2.1.length a8,.slice bd ad.2.2.1.length a9,.slice be ad.2.2.2.1.length ba,.slice bf ad.2.2.2.2.length bb]∧Zm 47 2 am al b3 #[.bool false,.slice none (([]:List Int).length) 0,.slice none (([]:List Int).length) 0]∧Zc (Za.int .u32) 79 3 am al a3 a4 an∧Zc (Za.int .u32) 79 4 am al a5 a6 ao∧Zm 47 5 am al b5 #[.bool a2,.slice a3 an.length a4,.slice a5 ao.length a6]∧[6].map f=[.int .i64 bh]) N ⟨_,_,_,_,_,_,_,_,0,_,rfl,hm,aa,ab,ae,bp,bq,af,rfl⟩ ?_;clear hm;intro n f al hI;obtain ⟨am,a2,a3,a4,an,a5,a6,ao,bh,ap,hn,hm,aa,ab,ae,ag,ah,af,hs⟩:=hI;subst hn;refine .lL [6] hs ?_;replace av:=av.keep (Zf.start col w0);replace aw:=aw.keep (Zf.start col w0);replace bg:=bg.keep (Zf.start col w0);replace h1:=h1.keep (Zf.start col w0)
 cases ap with
 | zero=>rw [Zbs.eq_1] at hm;cases hm
 | succ ap=>
  rw [Zbs.eq_2] at hm;refine go ?_;refine Xa ab ?_;refine go ?_;refine Zo hm (fun hb hm=>go ?_) fun hb hm=>go ?_
  ·refine Zw [1,2,4,5,6,1000000] (fun n f aq=>∃ ac br bs ax,ax=n∧Zfa N ad au a2 an ao bh (Zbs N ad au ap) ax br bs=some r∧St w0 (Zh col) ac aq∧Zm 27 1 ac aq b2 #[.string ad.1,.slice bc ad.2.1.length a8,.slice bd ad.2.2.1.length a9,.slice be ad.2.2.2.1.length ba,.slice bf ad.2.2.2.2.length bb]∧Zm 47 2 ac aq b3 #[.bool false,.slice none (([]:List Int).length) 0,.slice none (([]:List Int).length) 0]∧Zc (Za.int .u32) 79 3 ac aq a3 a4 an∧Zc (Za.int .u32) 79 4 ac aq a5 a6 ao∧Zm 47 5 ac aq b5 #[.bool a2,.slice a3 an.length a4,.slice a5 ao.length a6]∧[7,8].map f=[.int .i64 br,.int .i64 bs]) N ⟨_,0,0,_,rfl,hm,aa,ab,ae,ag,ah,af,rfl⟩ ?_;clear hm;intro n f aq hI;obtain ⟨ac,br,bs,ax,hn,hm,aa,ab,ae,ag,ah,af,hs⟩:=hI;subst hn;refine .lL [7,8] hs ?_
   cases ax with
   | zero=>rw [Zfa.eq_1] at hm;cases hm
   | succ ax=>
    rw [Zfa.eq_2] at hm;refine go ?_;refine Xa ab<|Xo rfl ?_;obtain ⟨dk,ay,hm⟩:=bZ hm;refine lI ay ((aw.ks aa).addr ay) ?_;obtain ⟨_,cf,cg⟩:=(aw.ks aa).atN ay;obtain ⟨⟨dl,dm,rfl,dn⟩,_⟩:=cf;refine lW cg.one<|go ?_;refine Zo hm (fun hb hm=>go ?_) fun hb hm=>go ?_
    ·refine Xa ab<|Xo rfl<|lI ay ((aw.ks aa).addr ay) ?_;obtain ⟨_,ch,ci⟩:=(aw.ks aa).atN ay;obtain ⟨⟨dp,dq,rfl,b6⟩,_⟩:=ch;refine lW ci.one<|Xo rfl ?_;obtain ⟨dr,bt,hm⟩:=bZ hm;refine lI bt (b6.addr bt)<|lW (b6.atInt bt) ?_;refine go ?_;refine Wd (col:=ac) (by kernel_rfl) (by kernel_rfl)<|go ?_;refine qF ⟨_,_,rfl⟩ ?_;refine qW (fun _ hC=>((ab.atN).nth (q:=2) rfl).gr (hC.bl ac)) ?_;refine go ?_;obtain ⟨ds,bu,hm⟩:=bZ hm;refine qI bu ((av.ks aa).addr bu) ?_;obtain ⟨_,cj,ck⟩:=(av.ks aa).atN bu;obtain ⟨⟨dt,du,rfl,dv⟩,_⟩:=cj;refine qW (fun _ hC=>ck.one.gr (hC.bl ac)) ?_;refine go ?_;obtain ⟨dw,bv,hm⟩:=bZ hm;refine qI bv ((h1.ks aa).addr bv)<|qW (fun _ hC=>((h1.ks aa).gr (hC.bl ac)).atInt bv) ?_;refine go ?_;refine X7 ?_;intro dx hC;replace hC:=hC.bl ac;refine go ?_;replace ag:=ag.gr hC;replace ah:=ah.gr hC;replace ab:=ab.gr hC;replace ae:=ae.gr hC;replace af:=af.gr hC;replace aa:=aa.grow hC;exact ⟨ax,by omega,rfl,⟨_,_,_,_,rfl,hm,aa,ab,ae,ag,ah,af,rfl⟩⟩
    refine Wh (col:=ac) [(0,0),(1,1),(2,0),(3,1),(4,1),(5,0),(6,1),(7,1),(8,0),(9,1),(10,1),(11,0),(12,1),(13,1),(14,1),(15,1),(16,1),(17,0),(18,1),(19,1),(20,0),(21,3),(22,2)] (by kernel_rfl) (by kernel_rfl)<|xv rfl rfl (fun _ hC=>Z7 isAgg47 sizeOf47 (af.gr (hC.bl ac))) ?_;refine xF ⟨_,_,rfl⟩ ?_;refine xW (fun _ hC=>((ab.atN).nth (q:=4) rfl).gr (hC.bl ac)) ?_;refine xu rfl rfl (fun _=>Wj rfl) ?_;obtain ⟨dy,bi,hm⟩:=bZ hm;refine xu rfl rfl (fun _=>Wi underlying25 sizeOf56 rfl rfl (Xn bi).1 (Xn bi).2.1 ((bg.ks aa).addr bi)) ?_;obtain ⟨_,cl,cn⟩:=(bg.ks aa).atN bi;obtain ⟨⟨dz,d0,rfl,b7⟩,_⟩:=cl;refine xW (fun _ hC=>cn.one.gr (hC.bl ac)) ?_;refine xu rfl rfl (fun _=>Wj rfl) ?_;refine xF ⟨_,_,rfl⟩ ?_;refine xW (fun _ hC=>((ab.atN).nth (q:=2) rfl).gr (hC.bl ac)) ?_;refine xu rfl rfl (fun _=>Wj rfl) ?_;obtain ⟨d1,bj,hm⟩:=bZ hm;refine xu rfl rfl (fun _=>Wi underlying23 sizeOf22 rfl rfl (Xn bj).1 (Xn bj).2.1 ((av.ks aa).addr bj)) ?_;obtain ⟨_,co,cp⟩:=(av.ks aa).atN bj;obtain ⟨⟨d2,d3,rfl,d4⟩,_⟩:=co;refine xW (fun _ hC=>cp.one.gr (hC.bl ac)) ?_;refine xu rfl rfl (fun _=>U9 underlying22 rfl) ?_;refine xu rfl rfl (fun _=>Ziv _ _ rfl rfl) ?_;refine xu rfl rfl (fun _=>Vf rfl) ?_;refine xu rfl rfl (fun _=>Wj rfl) ?_;obtain ⟨d5,bk,hm⟩:=bZ hm;refine xu rfl rfl (fun _=>Wi underlying40 sizeOf3 rfl rfl (Xn bk).1 (Xn bk).2.1 ((h1.ks aa).addr bk)) ?_;refine xW (fun _ hC=>((h1.ks aa).gr (hC.bl ac)).atInt bk) ?_;refine xu rfl rfl (fun _=>Qy _ _ rfl rfl) ?_;obtain ⟨bw,bm,hm⟩:=bZ hm;refine xu rfl rfl (fun _=>Wi underlying56 sizeOf47 rfl rfl (Xn bm).1 (Xn bm).2.1 (b7.addr bm)) ?_;obtain ⟨_,cq,cr⟩:=b7.atN bm;obtain ⟨_,_,rfl,cs,ct⟩:=Yi cq;obtain ⟨_,_,rfl,cu,cv⟩:=Yi cs;obtain ⟨rfl,_⟩:=cu;obtain ⟨⟨cw,cx,rfl,bx⟩,_⟩:=cv;obtain ⟨⟨cy,cz,rfl,bz⟩,_⟩:=ct;refine xv (v:=(.agg #[.bool bw.1.1,.slice cw bw.1.2.length cx,.slice cy bw.2.length cz])) rfl rfl (fun _ hC=>Yj isAgg47 sizeOf47 rfl rfl (cr.gr (hC.bl ac))) ?_;refine xe rfl rfl ?_;intro c0 hC0;have hC:=hC0.bl ac;obtain ⟨d6,c3,hm⟩:=bZ hm;replace ag:=ag.gr hC;replace ah:=ah.gr hC;replace bx:=bx.gr hC;replace bz:=bz.gr hC
    refine Zi (Zrr 6 7 c3 ((ag.toSlF (Zn.int .u32)).froz 4) ((ah.froz 3 (by decide)).toSlF (Zn.int .u32)) ((bx.froz 3).froz 4) ((bz.froz 3).froz 4)) ?_;rintro _ d7 ⟨c4,d8,d9,ea,eb,rfl,ak,ai,aj⟩;refine ⟨_,rfl,?_⟩;replace ai:=ai.thaw (Z3 .u32) ak (((Fz.refl (col:=ac)).froz 3).froz 4) (by decide);replace aj:=aj.thaw (Z3 .u32) ak (((Fz.refl (col:=ac)).froz 3).froz 4) (by decide);replace ak:=ak.thawR (col:=ac);generalize Xf c0.heap.size ac c4=bn at *;refine Zk<|Xp bn hC0 ak<|xe rfl rfl ?_;intro ec hC0;replace ab:=(ab.gr hC).gr ak;replace ae:=(ae.gr hC).gr ak;replace af:=(af.gr hC).gr ak;replace aa:=(aa.grow hC).grow ak;have hC:=hC0.bl bn;replace af:=af.gr hC;refine Z4 af ?_;intro ed a7 c5 ar;refine Zk<|xk bn<|Y9 ?_;replace ai:=(ai.gr hC).kp a7;replace aj:=(aj.gr hC).kp a7;replace ab:=(ab.gr hC).kp a7;replace ae:=(ae.gr hC).kp a7;replace aa:=(aa.grow hC).kp a7 c5;intro ee hC;replace hC:=hC.bl bn;refine go ?_;replace ai:=ai.gr hC;replace ai:=ai.recolSelf 3 (by decide);replace aj:=aj.gr hC;replace aj:=aj.recol 6 3 (by decide);replace ab:=ab.gr hC;replace ab:=ab.recol 6 3 (by decide);replace ae:=ae.gr hC;replace ae:=ae.recol 6 3 (by decide);replace ar:=ar.gr hC;replace ar:=ar.recol 6 3 (by decide);replace aa:=aa.grow hC;replace aa:=aa.recol 6 3 (by decide) (by decide);replace ai:=ai.recol 7 4 (by decide);replace aj:=aj.recolSelf 4 (by decide);replace ab:=ab.recol 7 4 (by decide);replace ae:=ae.recol 7 4 (by decide);replace ar:=ar.recol 7 4 (by decide);replace aa:=aa.recol 7 4 (by decide) (by decide);exact ⟨ap,by omega,rfl,⟨_,_,_,_,_,_,_,_,_,_,rfl,hm,aa,ab,ae,ai,aj,ar,rfl⟩⟩
  refine lV _ (Z7 isAgg47 sizeOf47 af)<|Z4 ae ?_;intro ef b0 c6 c7;refine go ?_;cases hm;replace ag:=ag.kp b0;replace ah:=ah.kp b0;replace aa:=aa.kp b0 c6;exact ⟨rfl,_,ra c7.atN,_,_,_,_,_,rfl,aa.fin (cm [(3,c1),(4,c2)]),aa.fo ag,aa.fo ah⟩
def Zc6 (N:Nat) (ac:R0):Nat→R2→Int→Option Rg
  | 0,_,_=>none
  | ae+1,ad,aa=>if (decide (0≤aa))=true then ((Zj ad aa).bind fun af=>(some (ad.set (Int.toNat aa) (i64.wrap (af+1)))).bind fun ab=>(Zj ab aa).bind fun ag=>(Zj ac.2.2.1 aa).bind fun ah=>if (decide (ag<(ah.length:Int)))=true then (some (ab,true)) else ((some (ab.set (Int.toNat aa) 0)).bind fun ai=>(Zc6 N ac ae) ai (i64.wrap (aa - 1)))) else (some (([]:List Int),false))
termination_by structural x=>x
def Zim (N:Nat) (ab:R0) (aa:List Int):Option Rg:=
  Zv ((([]:List Int).length+aa.length) * 8≤140737488355328∧([]:List Int).length+aa.length≤maxLen) (Zc6 N ab N (([]:List Int)++aa) (i64.wrap (((([]:List Int)++aa).length:Int) - 1)))
theorem Z1w {N an ao ap aq a4:Nat} {ar au av aw a1:Option Addr} {col:Zd} {w0:World} {aa:R0} {ax:R2} {r:Rg} (c1:Nat) (hm:Zim N aa ax=some r) (bk:Sl Za.str col w0 ar an aa.2.1) (ay:Sl (Za.slice Za.str) col w0 au ao aa.2.2.1) (bm:Sl (Za.slice (Za.int .i64)) col w0 av ap aa.2.2.2.1) (bn:Sl (Za.slice (Za.pair (Za.pair Za.bool (Za.slice (Za.int .u32))) (Za.slice (Za.int .u32)))) col w0 aw aq aa.2.2.2.2) (h1:Sl (Za.int .i64) col w0 a1 a4 ax):
    Calls prog 137 #[(.agg #[.string aa.1,.slice ar aa.2.1.length an,.slice au aa.2.2.1.length ao,.slice av aa.2.2.2.1.length ap,.slice aw aa.2.2.2.2.length aq]),.slice a1 ax.length a4] w0 (fun e w'=>∃ (col':Zd) (ra1:Option Addr) (rc2:Nat),e= .returned (.tuple #[.slice ra1 r.1.length rc2,.bool r.2])∧Zg col w0 col' w'∧Zc (Za.int .i64) 3 c1 col' w' ra1 rc2 r.1):=by
 refine Zdr 4 5 (m:=41) (args:=[(.agg #[.string aa.1,.slice ar aa.2.1.length an,.slice au aa.2.2.1.length ao,.slice av aa.2.2.2.1.length ap,.slice aw aa.2.2.2.2.length aq]),.slice a1 ax.length a4]) func137 rfl rfl rfl rfl rfl ?_;rw [Zim.eq_1] at hm;have ab:=St.start col w0;refine go ?_;refine Xg (col:=(Zh col)) 1 rfl ?_;intro bc bo bp bd ac;refine go ?_;obtain ⟨be,hm⟩:=Zx hm;replace h1:=h1.keep (Zf.start col w0);replace ab:=ab.grow bd;refine Y3 (c:=2) Zc.nil (h1.ks ab).srcC be ?_;intro bq br bs bt a7 bf;refine go ?_;replace ac:=ac.kpp a7;replace ab:=ab.kpp a7;refine Zw [2,1000000] (fun n f az=>∃ ad af ag ah al ai,ai=n∧Zc6 N aa ai ah al=some r∧St w0 (Zh col) ad az∧Zm 27 1 ad az bc #[.string aa.1,.slice ar aa.2.1.length an,.slice au aa.2.2.1.length ao,.slice av aa.2.2.2.1.length ap,.slice aw aa.2.2.2.2.length aq]∧Zc (Za.int .i64) 3 2 ad az af ag ah∧[6,7].map f=[.slice af ah.length ag,.int .i64 al]) N ⟨_,_,_,_,_,_,rfl,hm,ab,ac,bf,rfl⟩ ?_;clear hm;intro n f az hI;obtain ⟨ad,af,ag,ah,al,ai,hn,hm,ab,ac,a0,hs⟩:=hI;subst hn;refine .lL [6,7] hs ?_;replace ay:=ay.keep (Zf.start col w0)
 cases ai with
 | zero=>rw [Zc6.eq_1] at hm;cases hm
 | succ ai=>
  rw [Zc6.eq_2] at hm;refine go ?_;refine Zo hm (fun hb hm=>go ?_) fun hb hm=>go ?_
  ·obtain ⟨a8,aj,hm⟩:=bZ hm;refine lI aj (a0.addr aj)<|lW (a0.atInt aj) ?_;refine go ?_;refine lI aj (a0.addr aj) ?_;obtain ⟨am,a2,hm⟩:=bZ hm;have a2:am=ah.set (Int.toNat al) (i64.wrap (a8+1)):=(Option.some.inj a2).symm;refine Wb (x1:=i64.wrap (a8+1)) a0 aj ?_;intro bu a9 bg ae;rw [← a2] at ae;refine .ld (d:=6) (v:=(.slice af am.length ag)) (congrArg (fun n=>Value.slice af n ag) (show ah.length=am.length by rw [a2,nS])) ?_;refine go ?_;refine Wd (col:=ad) (by kernel_rfl) (by kernel_rfl)<|go ?_;obtain ⟨bv,ak,hm⟩:=bZ hm;refine qI ak (ae.addr ak)<|qW (fun _ hC=>(ae.gr (hC.bl ad)).atInt ak) ?_;refine qF ⟨_,_,rfl⟩ ?_;replace ac:=ac.kp a9;refine qW (fun _ hC=>((ac.atN).nth (q:=2) rfl).gr (hC.bl ad)) ?_;refine go ?_;obtain ⟨bw,a5,hm⟩:=bZ hm;replace ab:=ab.kp a9 bg;refine qI a5 ((ay.ks ab).addr a5) ?_;obtain ⟨_,bh,bi⟩:=(ay.ks ab).atN a5;obtain ⟨⟨bx,bz,rfl,b0⟩,_⟩:=bh;refine qW (fun _ hC=>bi.one.gr (hC.bl ad)) ?_;refine go ?_;refine X7 ?_;intro b1 hC;replace hC:=hC.bl ad;replace ae:=ae.gr hC;replace ac:=ac.gr hC;replace ab:=ab.grow hC;refine Zo hm (fun hb hm=>go ?_) fun hb hm=>go ?_
   ·cases hm;exact ⟨rfl,_,_,_,rfl,ab.fin (cm [(2,c1)]),ab.fo ae⟩
   refine lI ak (ae.addr ak) ?_;obtain ⟨a6,a3,hm⟩:=bZ hm;have a3:a6=am.set (Int.toNat al) 0:=(Option.some.inj a3).symm;refine Wb (x1:=0) ae ak ?_;intro b2 ba bj bb;rw [← a3] at bb;refine .ld (d:=6) (v:=(.slice af a6.length ag)) (congrArg (fun n=>Value.slice af n ag) (show am.length=a6.length by rw [a3,nS])) ?_;refine go ?_;replace ac:=ac.kp ba;replace ab:=ab.kp ba bj;exact ⟨ai,by omega,rfl,⟨_,_,_,_,_,_,rfl,hm,ab,ac,bb,rfl⟩⟩
  cases hm;exact ⟨rfl,_,none,0,rfl,ab.fin (cm []),Zc.nil⟩
section
variable {N W K:Nat} {n:Xe} (hf:Y4 N n) {w:List Int} (hw:Uq n w)
include hf hw
theorem Zxd {v:Nat} (hv:v<n.2.1.length) (hps:(n.2.2.2.1.getD v []).length≤1048576) (a:Bool) (b c:List Int) (kk:Bool→List Int→List Int→Int→Option QV) {x:QV} (hx:Zj (n.2.2.2.2.getD v []) ((Vn n w v * cnt n v+(w.getD v 0).toNat:Nat):Int)=some x):∀ (f i r k:Nat),i≤(n.2.2.2.1.getD v []).length→(n.2.2.2.1.getD v []).length<f+i→r<k→k≤65536→Ys n.2.2.1 ((n.2.2.2.1.getD v []).drop i) k≤65536→S3 n w ((n.2.2.2.1.getD v []).drop i) r=Vn n w v→
  Zfa N n w a b c (v:Int) kk f (r:Int) (i:Int)=(Zcw N ((a,b),c) ((x.1.1,x.1.2),x.2)).bind fun r_104=>kk r_104.1.1 r_104.1.2 r_104.2 (i64.wrap ((v:Int)+1))
 | 0,i,r,k,h1,h2,_,_,_,_=>by omega
 | f+1,i,r,k,h1,h2,g1,g2,g3,g4=>by
  have hwv:=hw.ok v (by rw [hw.len];exact hv)
  rw [Zfa.eq_2,Vk [] (by rw [hf.ev.p];exact hv),oB]
  by_cases hi:i<(n.2.2.2.1.getD v []).length
  ·have hp:∀ q ∈ (n.2.2.2.1.getD v []).drop i,0≤q∧q<(n.2.1.length:Int):=fun q hq=>hf.pars hv q (List.mem_of_mem_drop hq)
   rw [List.drop_eq_getElem_cons hi] at g3 hp g4
   obtain ⟨c1,c2,c3⟩:=Zqe hf.ev hw hp g1 g2 g3
   rw [S3] at g4
   generalize he:(n.2.2.2.1.getD v [])[i]=p at *
   have hpp:=hp p List.mem_cons_self
   have hwp:=hw.ok p.toNat (by rw [hw.len];omega)
   have g5:r * cnt n p.toNat≤k * cnt n p.toNat:=Nat.mul_le_mul_right _ (by omega)
   have q1:Zj n.2.2.1 p=some (n.2.2.1.getD p.toNat []):=by
    have:=Vk (l:=n.2.2.1) [] (j:=p.toNat) (by rw [hf.ev.v];omega)
    rwa [show ((p.toNat:Nat):Int)=p by omega] at this
   have q2:Zj w p=some (w.getD p.toNat 0):=by
    have:=Vk (l:=w) 0 (j:=p.toNat) (by rw [hw.len];omega)
    rwa [show ((p.toNat:Nat):Int)=p by omega] at this
   have e1:i64.wrap ((r:Int) * ((n.2.2.1.getD p.toNat []).length:Int))=((r * cnt n p.toNat:Nat):Int):=by
    rw [show ((n.2.2.1.getD p.toNat []).length:Int)=((cnt n p.toNat:Nat):Int) from rfl,← Int.natCast_mul]
    exact Zr (by omega)
   have e2:i64.wrap (((r * cnt n p.toNat:Nat):Int)+w.getD p.toNat 0)=((r * cnt n p.toNat+(w.getD p.toNat 0).toNat:Nat):Int):=by
    rw [Int.natCast_add,show (((w.getD p.toNat 0).toNat:Nat):Int)=w.getD p.toNat 0 by omega]
    exact Zr (by omega)
   rw [if_pos (dT (by omega)),Zy hi,he,oB,q1,oB,q2,oB,e1,e2,wS (by omega)]
   exact Zxd hv hps a b c kk hx f (i+1) _ _ (by omega) (by omega) c1 c2 c3 g4
  ·rw [List.drop_eq_nil_of_le (by omega),S3] at g4
   have hrow:=hf.row hw hv
   have hrows:=hf.rows hv
   have e3:i64.wrap ((Vn n w v:Int) * ((n.2.2.1.getD v []).length:Int))=((Vn n w v * cnt n v:Nat):Int):=by
    rw [show ((n.2.2.1.getD v []).length:Int)=((cnt n v:Nat):Int) from rfl,← Int.natCast_mul]
    exact Zr (by omega)
   have e4:i64.wrap (((Vn n w v * cnt n v:Nat):Int)+w.getD v 0)=((Vn n w v * cnt n v+(w.getD v 0).toNat:Nat):Int):=by
    rw [Int.natCast_add,show (((w.getD v 0).toNat:Nat):Int)=w.getD v 0 by omega]
    exact Zr (by omega)
   rw [if_neg (dF (by omega)),Vk [] (by rw [hf.ev.t];exact hv),oB,Vk [] (by rw [hf.ev.v];exact hv),oB,Vk 0 (by rw [hw.len];exact hv),oB,g4,e3,e4,hx,oB]
variable (hs:W4 n W) (hr:Xh N (8 * K+40)) (hWK:1025 * (W+2)+4≤K) (hN:2000000<N)
include hs hr hWK hN
theorem Zxc:∀ (f k:Nat) (q:Rat),k≤n.2.1.length→n.2.1.length<f+k→qs q≤k * (W+1)+1→Zbs N n w f (Zs q).1.1 (Zs q).1.2 (Zs q).2 (k:Int)=some (Zs (Vv n w (n.2.1.length - k) k q))
 | 0,k,q,h1,h2,_=>by omega
 | f+1,k,q,h1,h2,hq=>by
  have hle:=hf.le
  rw [Zbs.eq_2]
  by_cases hk:k<n.2.1.length
  ·have hrows:=hf.rows hk
   have hps:(n.2.2.2.1.getD k []).length≤1048576:=by
    rw [Yb (by rw [hf.ev.p];exact hk)]
    exact hs.pn.ls _ (List.getElem_mem _)
   have hwk:=hw.ok k (by rw [hw.len];exact hk)
   have hj:(w.getD k 0).toNat<(Vo n w k).length:=by rw [hf.rowT_len hw hk];omega
   have hat:=Zyf (n:=n) (w:=w) hj
   obtain ⟨y,hy⟩:∃ y,y=(Vo n w k)[(w.getD k 0).toNat]:=⟨_,rfl⟩
   rw [← hy] at hat
   obtain ⟨y1,y2⟩:=Zl3 hf hs hk y (Zm4 (hy ▸ List.getElem_mem hj))
   have he:ent n w k=Z5 y:=by rw [ent,Yb hj,hy]
   have hmul:k * (W+1)≤1024 * (W+1):=Nat.mul_le_mul_right _ (by omega)
   have m1:Zcw N (((Zs q).1.1,(Zs q).1.2),(Zs q).2) ((y.1.1,y.1.2),y.2)=some (Zs (q * ent n w k)):=by
    have:=Zxu (T4 hq) ((Zby y1.1 y1.2).mono y2) (hr.mono (by omega))
    rwa [V4,← he] at this
   have h3:=Zxd hf hw hk hps (Zs q).1.1 (Zs q).1.2 (Zs q).2 (Zbs N n w f) hat N 0 0 1 (Nat.zero_le _) (by omega) (by omega) (by omega) hrows.2.2 (by rw [List.drop_zero];rfl)
   rw [show ((0:Nat):Int)=0 from rfl,m1,oB,wS (by omega)] at h3
   have hqs:=Zpz q (ent n w k)
   have hqe:=Zs0 hf hw hs hk
   have ih:=Zxc f (k+1) (q * ent n w k) (by omega) (by omega) (by rw [Nat.add_mul,Nat.one_mul];omega)
   rw [if_pos (dT (by omega)),h3,ih,show n.2.1.length - k=(n.2.1.length - (k+1))+1 by omega,Vv]
  ·rw [if_neg (dF (by omega)),show n.2.1.length - k=0 by omega,Vv]
theorem Z56:Zif N n w=some (Zs (Vv n w n.2.1.length 0 1)):=by
 have hle:=hf.le
 have h:=Zxc hf hw hs hr hWK hN N 0 1 (Nat.zero_le _) (by omega) (by rw [Zp0];omega)
 rw [Zif,Zy4 (hr.mono (by omega)),oB]
 exact h
end
/-! the next one -/
def Zo9:List Nat→List Int→Nat→Nat
 | s :: ss,d :: w,a=>Zo9 ss w (a * s+d.toNat)
 | _,_,a=>a
theorem Zps:∀ (ss:List Nat) (w:List Int) (v a:Nat),ss.length=w.length→v≤w.length→a * Z6 ss+Wu ss w=Zo9 (ss.take v) (w.take v) a * Z6 (ss.drop v)+Wu (ss.drop v) (w.drop v)
 | ss,w,0,a,_,_=>by
  rw [List.take_zero,List.take_zero,List.drop_zero,List.drop_zero]
  rfl
 | [],[],v+1,a,_,h=>by simp at h
 | s :: ss,d :: w,v+1,a,hl,hv=>by
  have ih:=Zps ss w v (a * s+d.toNat) (by simpa using hl) (by simpa using hv)
  rw [List.take_succ_cons,List.take_succ_cons,List.drop_succ_cons,List.drop_succ_cons,Zo9,← ih,Z6,Wu,Nat.add_mul,Nat.mul_assoc,Nat.add_assoc]
theorem Zwa:∀ ss:List Nat,Wu ss (List.replicate ss.length 0)=0
 | []=>rfl
 | s :: ss=>by rw [nC,List.replicate_succ,Wu,Zwa ss];simp
theorem Zst {ss:List Nat}:∀ {w:List Int},S6 ss w→ss.length=w.length∧∀ i,i<w.length→0≤w.getD i 0∧w.getD i 0<((ss.getD i 0:Nat):Int):=by
 induction ss with
 | nil=>
  intro w hw
  cases w with
  | nil=>exact ⟨rfl,fun i hi=>by simp at hi⟩
  | cons d w=>exact hw.elim
 | cons s ss ih=>
  intro w hw
  cases w with
  | nil=>exact hw.elim
  | cons d w=>
   obtain ⟨h1,h2⟩:=ih hw.2
   refine ⟨by rw [nC,nC,h1],fun i hi=>?_⟩
   cases i with
   | zero=>exact hw.1
   | succ i=>exact h2 i (by simpa using hi)
theorem Z22 {ss:List Nat}:∀ {w:List Int},ss.length=w.length→(∀ i,i<w.length→0≤w.getD i 0∧w.getD i 0<((ss.getD i 0:Nat):Int))→S6 ss w:=by
 induction ss with
 | nil=>
  intro w hw _
  cases w with
  | nil=>trivial
  | cons d w=>simp at hw
 | cons s ss ih=>
  intro w hw hok
  cases w with
  | nil=>simp at hw
  | cons d w=>exact ⟨hok 0 (by simp),ih (by simpa using hw) fun i hi=>by have:=hok (i+1) (by simpa using hi);simpa using this⟩
theorem Zx9 {N:Nat} {n:Xe} (hf:Y4 N n) {w:List Int} (hw:S6 (Zq n) w) (hP:Z6 (Zq n)≤65536):∀ (v f:Nat),v≤w.length→v<f→Wu ((Zq n).drop v) (w.drop v)+1=Z6 ((Zq n).drop v)→
  Zc6 N n f (w.take v++List.replicate (w.length - v) 0) ((v:Int) - 1)=some (if Wu (Zq n) w+1<Z6 (Zq n) then (X4 (Zq n) (Wu (Zq n) w+1),true) else ([],false))
 | v,0,_,h,_=>by omega
 | 0,f+1,h1,h2,h3=>by
  rw [List.drop_zero,List.drop_zero] at h3
  rw [Zc6.eq_2,if_neg (by decide),if_neg (by omega)]
 | v+1,f+1,h1,h2,h3=>by
  obtain ⟨g1,g2⟩:=Zst hw
  have hv:=hf.ev.v;have hle:=hf.le
  have hsz:(Zq n).length=n.2.1.length:=by rw [Zq,List.length_map,hv]
  have hvl:v<w.length:=by omega
  have hk1:v<n.2.2.1.length:=by omega
  have hok:=g2 v hvl
  have hsv:(Zq n).getD v 0=n.2.2.1[v].length:=by
   rw [Yb (show v<(Zq n).length by omega)];simp only [Zq,List.getElem_map]
  rw [hsv,Yb hvl] at hok
  obtain ⟨d,hd⟩:∃ d:Nat,w[v]=(d:Int):=⟨(w[v]).toNat,by omega⟩
  have hdr:(Zq n).drop v=n.2.2.1[v].length :: (Zq n).drop (v+1):=by
   rw [List.drop_eq_getElem_cons (show v<(Zq n).length by omega)]
   simp only [Zq,List.getElem_map]
  have hwd:w.drop v=(d:Int) :: w.drop (v+1):=by rw [List.drop_eq_getElem_cons hvl,hd]
  have hlen:(w.take (v+1)++List.replicate (w.length - (v+1)) 0).length=w.length:=by
   rw [nA,nK,List.length_replicate];omega
  have hat:Zj (w.take (v+1)++List.replicate (w.length - (v+1)) 0) (v:Int)=some (d:Int):=by
   rw [Zy (by omega),List.getElem_append_left (by rw [nK];omega),List.getElem_take,hd]
  have hset:∀ c:Int,(w.take (v+1)++List.replicate (w.length - (v+1)) 0).set v c=w.take v++c :: List.replicate (w.length - (v+1)) 0:=fun c=>by
   rw [List.take_succ_eq_append_getElem hvl,List.append_assoc,List.set_append_right (i:=v) c (by rw [nK];omega),nK,Nat.min_eq_left (by omega),Nat.sub_self,List.singleton_append,List.set_cons_zero]
  have hat2:Zj (w.take v++((d:Int)+1) :: List.replicate (w.length - (v+1)) 0) (v:Int)=some ((d:Int)+1):=by
   rw [Zy (by rw [nA,nK,nC,List.length_replicate];omega),List.getElem_append_right (by rw [nK];omega)]
   congr 1
   simp [List.length_take,Nat.min_eq_left (show v≤w.length by omega)]
  have hset2:(w.take v++((d:Int)+1) :: List.replicate (w.length - (v+1)) 0).set v 0=w.take v++List.replicate (w.length - v) 0:=by
   rw [List.set_append_right (i:=v) 0 (by rw [nK];omega),nK,Nat.min_eq_left (by omega),Nat.sub_self,List.set_cons_zero,show w.length - v=(w.length - (v+1))+1 by omega,List.replicate_succ]
  have hdp:d<4611686018427387904:=by
   have hvn:v<n.2.1.length:=by omega
   have h7:=(hf.row (Zjg hf hw) hvn).1
   have h8:=(hf.rows hvn).2.1
   have h9:cnt n v=n.2.2.1[v].length:=by rw [cnt,Yb hk1]
   rw [hd] at hok
   omega
  rw [Zc6.eq_2,show ((v+1:Nat):Int) - 1=(v:Int) by omega,if_pos (dT (by omega)),hat,oB,Int.toNat_natCast,Zr (x:=(d:Int)+1) (by omega),hset,oB,hat2,oB,Zy hk1,oB]
  have hcut:=Zps (Zq n) w v 0 g1 (by omega)
  rw [Nat.zero_mul,Nat.zero_add,hdr,hwd,Z6,Wu,Int.toNat_natCast] at hcut
  by_cases hlt:(d:Int)+1<(n.2.2.1[v].length:Int)
  ·have hu:S6 (Zq n) (w.take v++((d:Int)+1) :: List.replicate (w.length - (v+1)) 0):=by
    refine Z22 (by rw [nA,nK,nC,List.length_replicate];omega) fun i hi=>?_
    rw [nA,nK,nC,List.length_replicate] at hi
    by_cases h:i<v
    ·have:=g2 i (by omega)
     rw [List.getD_eq_getElem?_getD,List.getElem?_append_left (by rw [nK];omega),List.getElem?_take,if_pos h,← List.getD_eq_getElem?_getD]
     exact this
    ·by_cases h':i=v
     ·subst h'
      have e:(w.take i++((d:Int)+1) :: List.replicate (w.length - (i+1)) 0).getD i 0=(d:Int)+1:=by
       rw [Zy (by rw [nA,nK,nC,List.length_replicate];omega),Option.some.injEq] at hat2
       rw [Yb (by rw [nA,nK,nC,List.length_replicate];omega),hat2]
      rw [e,hsv];omega
     ·have e:(w.take v++((d:Int)+1) :: List.replicate (w.length - (v+1)) 0).getD i 0=0:=by
       rw [List.getD_eq_getElem?_getD,List.getElem?_append_right (by rw [nK];omega),nK,Nat.min_eq_left (by omega),show i - v=(i - v - 1)+1 by omega,List.getElem?_cons_succ,List.getElem?_replicate]
       split <;> rfl
      rw [e]
      have hp:=S4 hf ((Zq n).getD i 0) (by rw [Yb (show i<(Zq n).length by omega)];exact List.getElem_mem _)
      omega
   have hpl:Wu (Zq n) (w.take v++((d:Int)+1) :: List.replicate (w.length - (v+1)) 0)=Wu (Zq n) w+1:=by
    have hc2:=Zps (Zq n) (w.take v++((d:Int)+1) :: List.replicate (w.length - (v+1)) 0) v 0 (by rw [nA,nK,nC,List.length_replicate];omega) (by rw [nA,nK,nC,List.length_replicate];omega)
    have t1:(w.take v++((d:Int)+1) :: List.replicate (w.length - (v+1)) 0).take v=w.take v:=List.take_left' (by rw [nK];omega)
    have t2:(w.take v++((d:Int)+1) :: List.replicate (w.length - (v+1)) 0).drop v=((d:Int)+1) :: List.replicate (w.length - (v+1)) 0:=List.drop_left' (by rw [nK];omega)
    have t3:List.replicate (w.length - (v+1)) (0:Int)=List.replicate ((Zq n).drop (v+1)).length 0:=by rw [List.length_drop,g1]
    rw [Nat.zero_mul,Nat.zero_add,t1,t2,hdr,Z6,Wu,t3,Zwa,show ((d:Int)+1).toNat=d+1 by omega,Nat.add_mul,Nat.one_mul,Nat.add_zero] at hc2
    rw [t3,hc2,hcut,← h3];omega
   have hlt2:=Zpt _ _ hu
   rw [hpl] at hlt2
   rw [if_pos (dT hlt),if_pos hlt2,← hpl,Zss _ _ hu]
  ·have hdm:d+1=n.2.2.1[v].length:=by rw [hd] at hok;omega
   rw [if_neg (dF hlt),hset2,oB,Zr (by omega)]
   refine Zx9 hf hw hP v f (by omega) (by omega) ?_
   rw [hdr,hwd,Z6,Wu,Int.toNat_natCast,Nat.add_assoc,h3,← hdm,Nat.add_mul,Nat.one_mul]
def Zft (aa:Bool):Option Bool:=
  some aa
def Zip (ab:R0) (aa:R5):Option Bool:=
  if (decide (aa.1<0))=true then (Zft true) else (if (decide ((ab.2.1.length:Int)≤aa.1))=true then (Zft true) else (if (decide (aa.2<0))=true then (Zft true) else ((Zj ab.2.2.1 aa.1).bind fun ac=>Zft (decide ((ac.length:Int)≤aa.2)))))
theorem Z10 {am an ao ap:Nat} {aq ar au av:Option Addr} {col:Zd} {w0:World} {ac:R0} {ad:R5} {r:Bool} (hm:Zip ac ad=some r) (a4:Sl Za.str col w0 aq am ac.2.1) (af:Sl (Za.slice Za.str) col w0 ar an ac.2.2.1) (a5:Sl (Za.slice (Za.int .i64)) col w0 au ao ac.2.2.2.1) (a6:Sl (Za.slice (Za.pair (Za.pair Za.bool (Za.slice (Za.int .u32))) (Za.slice (Za.int .u32)))) col w0 av ap ac.2.2.2.2):
    Calls prog 236 #[(.agg #[.string ac.1,.slice aq ac.2.1.length am,.slice ar ac.2.2.1.length an,.slice au ac.2.2.2.1.length ao,.slice av ac.2.2.2.2.length ap]),(.agg #[.int .i64 ad.1,.int .i64 ad.2])] w0 (fun e w'=>e= .returned ((.bool r))∧Below w0.heap.size w0 w'):=by
 refine Xc 4 (m:=33) func236 rfl rfl rfl rfl rfl ?_;rw [Zip.eq_1] at hm;have aa:=St.start col w0;refine go ?_;refine Xg (col:=(Zh col)) 1 rfl ?_;intro a7 a8 az a0 ag;refine Xg (col:=az) 2 rfl ?_;intro a9 ba ab aw ae;refine Q4 rfl<|Zk<|Z0 ?_;replace af:=af.keep (Zf.start col w0);replace aa:=(aa.grow a0).grow aw;replace ag:=ag.gr aw;refine Wp.cutK [1000000] (fun f ax=>∃ ay ah,Zft ah=some r∧St w0 (Zh col) ay ax∧[4].map f=[.bool ah]) ?_ ?_
 ·intro f ax hJ;obtain ⟨ay,ah,hm,aa,hs⟩:=hJ;rw [Zft.eq_1] at hm;refine .lL [4] hs<|We ?_;cases hm;exact ⟨rfl,rfl,aa.below⟩
 refine Wd (col:=ab) (by kernel_rfl) (by kernel_rfl)<|qF ⟨_,_,rfl⟩ ?_;refine qW (fun _ hC=>((ae.atN).nth (q:=0) rfl).gr (hC.bl ab)) ?_;refine go ?_;refine Xt hm (fun ai hm=>go ?_) fun ai hm=>go ?_
 ·refine qv (v:=(.bool true)) rfl (fun _ hC=>Xb (congrArg Value.bool ai) rfl) ?_;refine go ?_;refine qP 16 rfl rfl<|qP 16 rfl rfl<|qP 16 rfl rfl<|qv (v:=(.bool true)) rfl (fun _ hC=>Xb rfl rfl) ?_;refine go ?_;refine qP 21 rfl rfl<|qP 21 rfl rfl<|qP 21 rfl rfl<|qP 21 rfl rfl<|qP 21 rfl rfl<|qP 21 rfl rfl<|qP 21 rfl rfl<|qP 21 rfl rfl<|qP 21 rfl rfl<|qP 21 rfl rfl<|qv (v:=(.bool true)) rfl (fun _ hC=>Xb rfl rfl) ?_;refine go ?_;refine X7 ?_;intro bb hC;replace hC:=hC.bl ab;replace aa:=aa.grow hC;exact ⟨rfl,_,_,hm,aa,rfl⟩
 refine qF ⟨_,_,rfl⟩ ?_;refine go ?_;refine qW (fun _ hC=>((ae.atN).nth (q:=0) rfl).gr (hC.bl ab)) ?_;refine go ?_;refine qF ⟨_,_,rfl⟩ ?_;refine go ?_;refine qW (fun _ hC=>((ag.atN).nth (q:=1) rfl).gr (hC.bl ab)) ?_;refine go ?_;refine qv (v:=(.bool (decide ((ac.2.1.length:Int)≤ad.1)))) rfl (fun _ hC=>Xm (congrArg Value.bool ai) rfl) ?_;refine go ?_;refine Xt hm (fun aj hm=>go ?_) fun aj hm=>go ?_
 ·refine qv (v:=(.bool true)) rfl (fun _ hC=>Xb (congrArg Value.bool aj) rfl) ?_;refine go ?_;refine qP 21 rfl rfl<|qP 21 rfl rfl<|qP 21 rfl rfl<|qP 21 rfl rfl<|qP 21 rfl rfl<|qP 21 rfl rfl<|qP 21 rfl rfl<|qP 21 rfl rfl<|qP 21 rfl rfl<|qP 21 rfl rfl<|qv (v:=(.bool true)) rfl (fun _ hC=>Xb rfl rfl) ?_;refine go ?_;refine X7 ?_;intro bc hC;replace hC:=hC.bl ab;replace aa:=aa.grow hC;exact ⟨rfl,_,_,hm,aa,rfl⟩
 refine qF ⟨_,_,rfl⟩ ?_;refine go ?_;refine qW (fun _ hC=>((ae.atN).nth (q:=1) rfl).gr (hC.bl ab)) ?_;refine go ?_;refine qv (v:=(.bool (decide (ad.2<0)))) rfl (fun _ hC=>Xm (congrArg Value.bool aj) rfl) ?_;refine go ?_;refine Xt hm (fun ak hm=>go ?_) fun ak hm=>go ?_
 ·refine qv (v:=(.bool true)) rfl (fun _ hC=>Xb (congrArg Value.bool ak) rfl) ?_;refine go ?_;refine X7 ?_;intro bd hC;replace hC:=hC.bl ab;replace aa:=aa.grow hC;exact ⟨rfl,_,_,hm,aa,rfl⟩
 refine qF ⟨_,_,rfl⟩ ?_;refine go ?_;refine qW (fun _ hC=>((ae.atN).nth (q:=1) rfl).gr (hC.bl ab)) ?_;refine go ?_;refine qF ⟨_,_,rfl⟩ ?_;refine go ?_;refine qW (fun _ hC=>((ag.atN).nth (q:=2) rfl).gr (hC.bl ab)) ?_;refine go ?_;refine qF ⟨_,_,rfl⟩ ?_;refine go ?_;refine qW (fun _ hC=>((ae.atN).nth (q:=0) rfl).gr (hC.bl ab)) ?_;refine go ?_;obtain ⟨a1,al,hm⟩:=bZ hm;refine qI al ((af.ks aa).addr al) ?_;refine go ?_;obtain ⟨_,a2,a3⟩:=(af.ks aa).atN al;obtain ⟨⟨be,bf,rfl,bg⟩,_⟩:=a2;refine qW (fun _ hC=>a3.one.gr (hC.bl ab)) ?_;refine go ?_;refine qv (v:=(.bool (decide ((a1.length:Int)≤ad.2)))) rfl (fun _ hC=>Xm (congrArg Value.bool ak) rfl) ?_;refine go ?_;refine X7 ?_;intro bh hC;replace hC:=hC.bl ab;replace aa:=aa.grow hC;exact ⟨rfl,_,_,hm,aa,rfl⟩

end Go.Proofs.YtbmjpjhbankpoaaGreat
