/-
  What functions of the program compute, as plain Lean functions (m_..), and proofs that they compute it (c_..). Printed by a program of the author; no conditions.
-/
import Derived.Test.YtbmjpjhbankpoaaGreatCodeEncodeBFloat
import Derived.Test.YtbmjpjhbankpoaaGreatProg
import Derived.Test.YtbmjpjhbankpoaaGreatCodeEncodeBBrief
import Derived.Test.YtbmjpjhbankpoaaGreatCodeEncodeBThree
import Derived.Test.YtbmjpjhbankpoaaGreatCodeEncodeF2
set_option linter.unusedVariables false
set_option maxRecDepth 100000
set_option maxHeartbeats 2000000
namespace Go.Proofs.YtbmjpjhbankpoaaGreat
open Go Go.RowKit
open Go.IntKind (i8 i16 i32 i64 u8 u16 u32 u64)
open Go.Proofs.Tryz

def Zea (N:Nat) (af:List Int) (ab:List Int) (aa:Int) (kk_L1:(List Int→Int→Option R2)):Nat→Int→R2→Int→Option R2
  | 0,_,_,_=>none
  | aj+1,ac,ad,ae=>if (decide (ac<(ab.length:Int)))=true then ((Zo af aa).bind fun ag=>(Zo ab ac).bind fun ah=>(Zo ad (i64.wrap (aa+ac))).bind fun ai=>(some (ad.set (Int.toNat (i64.wrap (aa+ac))) (u32.wrap (Int.tmod (u64.wrap ((u64.wrap (ae+(u64.wrap ((u64.wrap ag) * (u64.wrap ah)))))+(u64.wrap ai))) 4294967296)))).bind fun ak=>(Zea N af ab aa kk_L1 aj) (i64.wrap (ac+1)) ak (u64.wrap (Int.tdiv (u64.wrap ((u64.wrap (ae+(u64.wrap ((u64.wrap ag) * (u64.wrap ah)))))+(u64.wrap ai))) 4294967296))) else ((Zo ad (i64.wrap (aa+(ab.length:Int)))).bind fun am=>(some (ad.set (Int.toNat (i64.wrap (aa+(ab.length:Int)))) (u32.wrap ae))).bind fun al=>kk_L1 al (i64.wrap (aa+1)))
termination_by structural x=>x
def Za5 (N:Nat) (aa:List Int) (ab:List Int):Nat→R2→Int→Option R2
  | 0,_,_=>none
  | ae+1,ac,ad=>if (decide (ad<(aa.length:Int)))=true then (Zea N aa ab ad (Za5 N aa ab ae) N 0 ac 0) else ((Vs N ac).bind fun af=>some af)
termination_by structural x=>x
def Zck (N:Nat) (ac:List Int) (ad:List Int):Option R2:=
  (Vs N ac).bind fun aa=>(Vs N ad).bind fun ab=>Z1 ((Int.toNat (i64.wrap ((aa.length:Int)+(ab.length:Int)))) * 4≤281474976710656∧(Int.toNat (i64.wrap ((aa.length:Int)+(ab.length:Int))))≤maxLen∧0≤(i64.wrap ((aa.length:Int)+(ab.length:Int)))) (Za5 N aa ab N (List.replicate (Int.toNat (i64.wrap ((aa.length:Int)+(ab.length:Int)))) (0:Int)) 0)
theorem Znr {N bi bj:Nat} {a0 a1:Option Addr} {col:Zf} {w0:World} {a5 a6 r:R2} (c1:Nat) (hm:Zck N a5 a6=some r) (h0:Sl (Za.int .u32) col w0 a0 bi a5) (h1:Sl (Za.int .u32) col w0 a1 bj a6):
    Calls Tryz.prog 104 #[.slice a0 a5.length bi,.slice a1 a6.length bj] w0 (fun e w'=>∃ (col':Zf) (ra1:Option Addr) (rc2:Nat),e= .returned ((.slice ra1 r.length rc2))∧Zg col w0 col' w'∧Zc (Za.int .u32) 79 c1 col' w' ra1 rc2 r):=by
 refine Xi 4 (m:=74) func104 rfl rfl rfl rfl rfl ?_;rw [Zck.eq_1] at hm;have aa:=St.start col w0;refine go ?_;obtain ⟨am,bt,hm⟩:=bZ hm;replace h0:=h0.keep (Zj.start col w0);refine Zh (Ut 1 bt (h0.ks aa)) ?_;rintro _ b4 ⟨b5,bk,bm,rfl,bu,ab⟩;refine ⟨_,rfl,go ?_⟩;obtain ⟨ai,bv,hm⟩:=bZ hm;replace h1:=h1.keep (Zj.start col w0);replace aa:=aa.grow bu;refine Zh (Ut 2 bv (h1.ks aa)) ?_;rintro _ bw ⟨bx,bn,bo,rfl,bp,ac⟩;refine ⟨_,rfl,go ?_⟩;obtain ⟨ax,hm⟩:=Z3 hm;refine Sh (col:=bx) (w:=bw) (r:=(Za.int .u32)) (n:=(Int.toNat (i64.wrap ((am.length:Int)+(ai.length:Int))))) (x0:=0) 3 rfl underlying43 Tryz.t79 rfl rfl rfl rfl rfl (congrArg (Value.int _) (Int.toNat_of_nonneg ax.2.2).symm) (congrArg (Value.int _) (Int.toNat_of_nonneg ax.2.2).symm) ax.1 ax.2.1 (S3 .u32 0) ?_;intro b6 b7 b8 a7 bz;refine go ?_;replace ab:=(ab.gr bp).gr a7;replace aa:=(aa.grow bp).grow a7;replace ac:=ac.gr a7;refine Z8 [5,6,1000000] (fun n f an=>∃ af a8 a9 ay ao aj,aj=n∧Za5 N am ai aj ay ao=some r∧St w0 (Zi col) af an∧Zc (Za.int .u32) 79 1 af an bk bm am∧Zc (Za.int .u32) 79 2 af an bn bo ai∧Zc (Za.int .u32) 79 3 af an a8 a9 ay∧[7,8].map f=[.slice a8 ay.length a9,.int .i64 ao]) N ⟨_,_,_,_,0,_,rfl,hm,aa,ab,ac,bz,rfl⟩ ?_;clear hm;intro n f an hI;obtain ⟨af,a8,a9,ay,ao,aj,hn,hm,aa,ab,ac,bq,hs⟩:=hI;subst hn;refine .lL [7,8] hs ?_
 cases aj with
 | zero=>rw [Za5.eq_1] at hm;cases hm
 | succ aj=>
  rw [Za5.eq_2] at hm;refine go ?_;refine Zq hm (fun hb hm=>go ?_) fun hb hm=>go ?_
  ·refine Z8 [5,6,8,1000000] (fun n f aw=>∃ ae az ak al ag ad ap,ap=n∧Zea N am ai ao (Za5 N am ai aj) ap az ag ad=some r∧St w0 (Zi col) ae aw∧Zc (Za.int .u32) 79 1 ae aw bk bm am∧Zc (Za.int .u32) 79 2 ae aw bn bo ai∧Zc (Za.int .u32) 79 3 ae aw ak al ag∧[10,7,9].map f=[.int .i64 az,.slice ak ag.length al,.int .u64 ad]) N ⟨_,0,_,_,_,0,_,rfl,hm,aa,ab,ac,bq,rfl⟩ ?_;clear hm;intro n f aw hI;obtain ⟨ae,az,ak,al,ag,ad,ap,hn,hm,aa,ab,ac,ah,hs⟩:=hI;subst hn;refine .lL [10,7,9] hs ?_
   cases ap with
   | zero=>rw [Zea.eq_1] at hm;cases hm
   | succ ap=>
    rw [Zea.eq_2] at hm;refine go ?_;refine Zq hm (fun hb hm=>go ?_) fun hb hm=>go ?_
    ·refine Wc (col:=ae) (by kernel_rfl) (by kernel_rfl)<|go ?_;obtain ⟨aq,ba,hm⟩:=bZ hm;refine qI ba (ab.addr ba)<|qW (fun _ hC=>(ab.gr (hC.bl ae)).atInt ba) ?_;refine go ?_;obtain ⟨ar,bb,hm⟩:=bZ hm;refine qI bb (ac.addr bb)<|qW (fun _ hC=>(ac.gr (hC.bl ae)).atInt bb) ?_;refine go ?_;obtain ⟨au,av,hm⟩:=bZ hm;refine qI av (ah.addr av)<|qW (fun _ hC=>(ah.gr (hC.bl ae)).atInt av) ?_;refine go ?_;refine Yf ?_;intro b9 hC;replace hC:=hC.bl ae;refine go ?_;refine lV (.int .u64 (Int.tmod (u64.wrap ((u64.wrap (ad+(u64.wrap ((u64.wrap aq) * (u64.wrap ar)))))+(u64.wrap au))) 4294967296)) (U8 (u64.wrap ((u64.wrap (ad+(u64.wrap ((u64.wrap aq) * (u64.wrap ar)))))+(u64.wrap au))) 4294967296 rfl rfl (by decide))<|go ?_;replace ah:=ah.gr hC;refine lI av (ah.addr av) ?_;obtain ⟨bc,a2,hm⟩:=bZ hm;have a2:bc=ag.set (Int.toNat (i64.wrap (ao+az))) (u32.wrap (Int.tmod (u64.wrap ((u64.wrap (ad+(u64.wrap ((u64.wrap aq) * (u64.wrap ar)))))+(u64.wrap au))) 4294967296)):=(Option.some.inj a2).symm;refine Yz (x1:=u32.wrap (Int.tmod (u64.wrap ((u64.wrap (ad+(u64.wrap ((u64.wrap aq) * (u64.wrap ar)))))+(u64.wrap au))) 4294967296)) ah av ?_;intro ca bd b0 br;rw [← a2] at br;refine .ld (d:=7) (v:=(.slice ak bc.length al)) (congrArg (fun n=>Value.slice ak n al) (show ag.length=bc.length by rw [a2,List.length_set])) ?_;refine go ?_;refine lV (.int .u64 (u64.wrap (Int.tdiv (u64.wrap ((u64.wrap (ad+(u64.wrap ((u64.wrap aq) * (u64.wrap ar)))))+(u64.wrap au))) 4294967296))) (Wy (u64.wrap ((u64.wrap (ad+(u64.wrap ((u64.wrap aq) * (u64.wrap ar)))))+(u64.wrap au))) 4294967296 rfl rfl (by decide))<|go ?_;replace ab:=(ab.gr hC).kp bd;replace ac:=(ac.gr hC).kp bd;replace aa:=(aa.grow hC).kp bd b0;exact ⟨ap,by omega,rfl,⟨_,_,_,_,_,_,_,rfl,hm,aa,ab,ac,br,rfl⟩⟩
    obtain ⟨cb,be,hm⟩:=bZ hm;refine lI be (ah.addr be) ?_;obtain ⟨bf,a3,hm⟩:=bZ hm;have a3:bf=ag.set (Int.toNat (i64.wrap (ao+(ai.length:Int)))) (u32.wrap ad):=(Option.some.inj a3).symm;refine Yz (x1:=u32.wrap ad) ah be ?_;intro cc bg b1 bs;rw [← a3] at bs;refine .ld (d:=7) (v:=(.slice ak bf.length al)) (congrArg (fun n=>Value.slice ak n al) (show ag.length=bf.length by rw [a3,List.length_set])) ?_;refine go ?_;replace ab:=ab.kp bg;replace ac:=ac.kp bg;replace aa:=aa.kp bg b1;exact ⟨aj,by omega,rfl,⟨_,_,_,_,_,_,rfl,hm,aa,ab,ac,bs,rfl⟩⟩
  obtain ⟨cd,b2,hm⟩:=bZ hm;refine Zh (Ut 4 b2 (bq.toSlF (Zl.int .u32))) ?_;rintro _ ce ⟨b3,cf,cg,rfl,a4,bh⟩;refine ⟨_,rfl,?_⟩;replace bh:=bh.thaw (Zv .u32) a4 ((Fz.refl (col:=af)).froz 3) (by decide);replace a4:=a4.thawR (col:=af);generalize Z4 an.heap.size af b3=ch at *;refine go ?_;cases hm;replace aa:=aa.grow a4;exact ⟨rfl,_,_,_,rfl,aa.fin (cm [(4,c1)]),aa.fo bh⟩
def Zjq (af:List Int) (ag:List Int) (ad:List Int) (aa:Int) (ae:Int) (kk_L1:(List Int→Int→Int→Option R2)):Option R2:=
  (Qd af ae).bind fun ab=>(Qd ag ae).bind fun ac=>Z1 ((ad.length+[u32.wrap (Int.tmod (u64.wrap ((u64.wrap (aa+ab))+ac)) 4294967296)].length) * 4≤140737488355328∧ad.length+[u32.wrap (Int.tmod (u64.wrap ((u64.wrap (aa+ab))+ac)) 4294967296)].length≤maxLen) (kk_L1 (ad++[u32.wrap (Int.tmod (u64.wrap ((u64.wrap (aa+ab))+ac)) 4294967296)]) (u64.wrap (Int.tdiv (u64.wrap ((u64.wrap (aa+ab))+ac)) 4294967296)) (i64.wrap (ae+1)))
def Zcj (N:Nat) (ab:List Int) (ac:List Int) (aa:List Int) (ad:Int) (ae:Int) (kk_L1:(List Int→Int→Int→Option R2)) (af:Bool):Option R2:=
  if af=true then (Zjq ab ac aa ad ae kk_L1) else ((Vs N aa).bind fun ag=>some ag)
def Sp (N:Nat) (aa:List Int) (ab:List Int):Nat→R2→Int→Int→Option R2
  | 0,_,_,_=>none
  | ae+1,af,ad,ac=>if (decide (ac<(aa.length:Int)))=true then (Zcj N aa ab af ad ac (Sp N aa ab ae) true) else (if (decide (ac<(ab.length:Int)))=true then (Zcj N aa ab af ad ac (Sp N aa ab ae) true) else (Zcj N aa ab af ad ac (Sp N aa ab ae) (decide (0<ad))))
termination_by structural x=>x
def Zgy (N:Nat) (aa:List Int) (ab:List Int):Option R2:=
  Sp N aa ab N ([]:List Int) 0 0
theorem Zqr {N a3 a4:Nat} {a0 a1:Option Addr} {col:Zf} {w0:World} {ae ad r:R2} (c1:Nat) (hm:Zgy N ae ad=some r) (h0:Sl (Za.int .u32) col w0 a0 a3 ae) (h1:Sl (Za.int .u32) col w0 a1 a4 ad):
    Calls Tryz.prog 227 #[.slice a0 ae.length a3,.slice a1 ad.length a4] w0 (fun e w'=>∃ (col':Zf) (ra1:Option Addr) (rc2:Nat),e= .returned ((.slice ra1 r.length rc2))∧Zg col w0 col' w'∧Zc (Za.int .u32) 79 c1 col' w' ra1 rc2 r):=by
 refine Xi 4 (m:=43) func227 rfl rfl rfl rfl rfl ?_;rw [Zgy.eq_1] at hm;have aa:=St.start col w0;refine go ?_;refine Z8 [0,1,1000000] (fun n f av=>∃ aw ak al af ab ai ag,ag=n∧Sp N ae ad ag af ab ai=some r∧St w0 (Zi col) aw av∧Zc (Za.int .u32) 79 1 aw av ak al af∧[5,6,7].map f=[.slice ak af.length al,.int .u64 ab,.int .i64 ai]) N ⟨_,none,0,_,0,0,_,rfl,hm,aa,Zc.nil,rfl⟩ ?_;clear hm;intro n f av hI;obtain ⟨aw,ak,al,af,ab,ai,ag,hn,hm,aa,ac,hs⟩:=hI;subst hn;refine .lL [5,6,7] hs ?_;replace h0:=h0.keep (Zj.start col w0);replace h1:=h1.keep (Zj.start col w0)
 cases ag with
 | zero=>rw [Sp.eq_1] at hm;cases hm
 | succ ag=>
  rw [Sp.eq_2] at hm;refine Zy ?_;refine Wp.cutK [0,1,5,6,7,1000000] (fun f ao=>∃ ah,Zjq ae ad af ab ai (Sp N ae ad ag)=some r∧St w0 (Zi col) ah ao∧Zc (Za.int .u32) 79 1 ah ao ak al af) ?_ ?_
  ·intro f ao hJ;obtain ⟨ah,hm,aa,ac⟩:=hJ;rw [Zjq.eq_1] at hm;refine go ?_;obtain ⟨am,a7,hm⟩:=bZ hm;refine Zh (Zdf a7 (h0.ks aa)) ?_;rintro _ a5 ⟨rfl,ap⟩;refine ⟨_,rfl,?_⟩;replace ap:Zg ah ao ah a5:=.of_below ap;refine go ?_;obtain ⟨an,a8,hm⟩:=bZ hm;replace aa:=aa.grow ap;refine Zh (Zdf a8 (h1.ks aa)) ?_;rintro _ a9 ⟨rfl,aq⟩;refine ⟨_,rfl,?_⟩;replace aq:Zg ah a5 ah a9:=.of_below aq;refine go ?_;refine lV (.int .u64 (Int.tmod (u64.wrap ((u64.wrap (ab+am))+an)) 4294967296)) (U8 (u64.wrap ((u64.wrap (ab+am))+an)) 4294967296 rfl rfl (by decide))<|go ?_;refine Wx (col:=ah) [u32.wrap (Int.tmod (u64.wrap ((u64.wrap (ab+am))+an)) 4294967296)] 2 ?_;intro bg bh bi a6 ba;obtain ⟨bb,hm⟩:=Z3 hm;replace ac:=((ac.gr ap).gr aq).gr a6;refine Ws ac (ba.srcN (NB.int (k:=.u32))) bb ?_;intro bj bk bm bn bc bd;refine go ?_;refine lV (.int .u64 (u64.wrap (Int.tdiv (u64.wrap ((u64.wrap (ab+am))+an)) 4294967296))) (Wy (u64.wrap ((u64.wrap (ab+am))+an)) 4294967296 rfl rfl (by decide))<|go ?_;replace aa:=((aa.grow aq).grow a6).kpp bc;exact ⟨ag,by omega,rfl,⟨_,_,_,_,_,_,_,rfl,hm,aa,bd,rfl⟩⟩
  refine Zy ?_;refine Wp.cutK [0,1,5,6,7,1000000] (fun f ar=>∃ aj ax,Zcj N ae ad af ab ai (Sp N ae ad ag) ax=some r∧St w0 (Zi col) aj ar∧Zc (Za.int .u32) 79 1 aj ar ak al af∧[21].map f=[.bool ax]) ?_ ?_
  ·intro f ar hJ;obtain ⟨aj,ax,hm,aa,ac,hs⟩:=hJ;rw [Zcj.eq_1] at hm;refine .lL [21] hs ?_;refine Zq hm (fun hb hm=>?_) fun hb hm=>go ?_
   ·refine X8 ?_;exact ⟨rfl,_,hm,aa,ac⟩
   obtain ⟨bo,be,hm⟩:=bZ hm;refine Zh (Ut 3 be (ac.toSlF (Zl.int .u32))) ?_;rintro _ bp ⟨bf,bq,br,rfl,au,ay⟩;refine ⟨_,rfl,?_⟩;replace ay:=ay.thaw (Zv .u32) au ((Fz.refl (col:=aj)).froz 1) (by decide);replace au:=au.thawR (col:=aj);generalize Z4 ar.heap.size aj bf=bs at *;refine go ?_;cases hm;replace aa:=aa.grow au;exact ⟨rfl,_,_,_,rfl,aa.fin (cm [(3,c1)]),aa.fo ay⟩
  refine go ?_;refine Xv hm (fun az hm=>go ?_) fun az hm=>go ?_
  ·refine lV (.bool true) (Xj (congrArg Value.bool az) rfl)<|Yo rfl<|lP 18 rfl rfl<|lP 18 rfl rfl<|lV (.bool true) (Xj rfl rfl)<|Zk ?_;exact ⟨rfl,_,_,hm,aa,ac,rfl⟩
  refine lV (.bool (decide (ai<(ad.length:Int)))) (Xs (congrArg Value.bool az) rfl)<|Yo rfl ?_;refine Xv hm (fun a2 hm=>go ?_) fun a2 hm=>go ?_
  ·refine lV (.bool true) (Xj (congrArg Value.bool a2) rfl)<|Zk ?_;exact ⟨rfl,_,_,hm,aa,ac,rfl⟩
  refine lV (.bool (decide (0<ab))) (Xs (congrArg Value.bool a2) rfl)<|Zk ?_;exact ⟨rfl,_,_,hm,aa,ac,rfl⟩
def Zg5 (N:Nat) (aa:Int):Option R2:=
  (Vs N [u32.wrap (Int.tmod aa 4294967296),u32.wrap (u64.wrap (Int.tdiv aa 4294967296))]).bind fun ab=>some ab
theorem Zqt {N:Nat} {col:Zf} {w0:World} {aa:Int} {r:R2} (c1:Nat) (hm:Zg5 N aa=some r):
    Calls Tryz.prog 229 #[.int .u64 aa] w0 (fun e w'=>∃ (col':Zf) (ra1:Option Addr) (rc2:Nat),e= .returned ((.slice ra1 r.length rc2))∧Zg col w0 col' w'∧Zc (Za.int .u32) 79 c1 col' w' ra1 rc2 r):=by
 refine Xi 2 (m:=11) func229 rfl rfl rfl rfl rfl ?_;rw [Zg5.eq_1] at hm;have ab:=St.start col w0;refine go ?_;refine lV (.int .u64 (Int.tmod aa 4294967296)) (U8 aa 4294967296 rfl rfl (by decide))<|go ?_;refine lV (.int .u64 (u64.wrap (Int.tdiv aa 4294967296))) (Wy aa 4294967296 rfl rfl (by decide))<|go ?_;refine Wx (col:=(Zi col)) [u32.wrap (Int.tmod aa 4294967296),u32.wrap (u64.wrap (Int.tdiv aa 4294967296))] 1 ?_;intro ak af ad ag ah;obtain ⟨al,ai,hm⟩:=bZ hm;refine Zh (Ut 2 ai (ah.toSlF (Zl.int .u32))) ?_;rintro _ am ⟨aj,an,ao,rfl,ac,ae⟩;refine ⟨_,rfl,?_⟩;replace ae:=ae.thaw (Zv .u32) ac ((Fz.refl (col:=ad)).froz 1) (by decide);replace ac:=ac.thawR (col:=ad);generalize Z4 af.heap.size ad aj=ap at *;refine go ?_;cases hm;replace ab:=(ab.grow ag).grow ac;exact ⟨rfl,_,_,_,rfl,ab.fin (cm [(2,c1)]),ab.fo ae⟩
theorem Zwf (N:Nat) (a:List Int) (hb:a.length≤1099511627776):∀ (n j:Nat),j≤a.length→Za6 N a n (j:Int)=Ty N n (a.take j)
 | 0,j,_=>rfl
 | n+1,j,hj=>by
  have hl:(a.take j).length=j:=by rw [List.length_take];omega
  have ht:0<j→Zo (a.take j) ((j - 1:Nat):Int)=Zo a ((j - 1:Nat):Int):=fun h=>by rw [Us,Us,List.getElem?_take,if_pos (by omega)]
  rw [Za6.eq_2,Ty.eq_2,hl]
  by_cases h0:0<j
  ·have e:(j:Int) - 1=((j - 1:Nat):Int):=by omega
   rw [if_pos (decide_eq_true (by omega)),if_pos (decide_eq_true (by omega)),Zt (by omega),e,ht h0,Z7 (by omega),Option.bind_some,Option.bind_some,Zg4,Za0,hl,Zt (by omega),e,Int.toNat_natCast,Int.toNat_natCast]
   by_cases hx:a[j - 1]=0
   ·rw [if_pos (decide_eq_true hx),if_pos (decide_eq_true hx),Z9 (by omega),Zwf N a hb n (j - 1) (by omega),List.take_take,Nat.min_eq_left (by omega)]
   ·rw [if_neg (by rw [decide_eq_false hx];decide),if_neg (by rw [decide_eq_false hx];decide),Z9 (by omega),Z9 (by rw [hl];simp only [List.length_nil,maxLen];omega),List.nil_append]
  ·have:j=0:=by omega
   subst this
   rw [if_neg (by decide),if_neg (by decide),Zg4,Za0,if_neg (by decide),if_neg (by decide),Z9 (by omega)]
   exact Z9 (by simp [maxLen])
theorem Uy {N:Nat} {a:List Int} (h:Zp a) (hn:a.length<N) (hb:a.length≤1099511627776):Vs N a=some (Zd (Zb a)):=by
 rw [Vs,Zwf N a hb N a.length (Nat.le_refl _),List.take_length]
 exact Zm6 N N a h hn (by omega)
theorem Zwg {N:Nat} {u:Int} (h:0≤u∧u<18446744073709551616) (hn:2<N):Zg5 N u=some (Zd u.toNat):=by
 have e1:u32.wrap (Int.tmod u 4294967296)=u % 4294967296:=by rw [Int.tmod_eq_emod_of_nonneg h.1,V3 (by omega)]
 have e2:u32.wrap (u64.wrap (Int.tdiv u 4294967296))=u / 4294967296:=by rw [Int.tdiv_eq_ediv_of_nonneg h.1,Xm (by omega),V3 (by omega)]
 have hl:Zp [u % 4294967296,u / 4294967296]:=.cons (by omega) (.cons (by omega) .nil)
 have e:Zb [u % 4294967296,u / 4294967296]=u.toNat:=by rw [Y4,Y4,Yd];omega
 rw [Zg5,e1,e2,Uy hl (by simpa using hn) (by simp),Option.bind_some,e]
theorem Zdl {a:List Int} (h:Zp a) (k:Nat):Qd a (k:Int)=some ((Xr a k:Nat):Int):=by
 rw [Qd]
 by_cases hk:k<a.length
 ·have:=h.get hk
  rw [if_pos (decide_eq_true (by omega)),Z7 hk,Option.bind_some,Xm (by omega),Xr,List.getD_eq_getElem?_getD,List.getElem?_eq_getElem hk,Option.getD_some]
  congr 1;omega
 ·rw [if_neg (by rw [decide_eq_false (by omega)];decide),Xr,List.getD_eq_getElem?_getD,List.getElem?_eq_none (by omega)];rfl
theorem Zke {a:List Int} (h:Zp a) (k:Nat):Zb (a.take k)<4294967296 ^ k:=by
 have h1:=Sz (h.take k)
 refine Nat.lt_of_lt_of_le h1 (Nat.pow_le_pow_right (by decide) ?_)
 rw [List.length_take];omega
theorem Zpa (N:Nat) (a b:List Int) (ha:Zp a) (hb:Zp b):∀ (n i:Nat),i<4611686018427387904→i<n→Zb (a.drop i)=Zb (b.drop i)→Zd6 N a b n ((i:Int) - 1)=some (if Zb a<Zb b then -1 else if Zb b<Zb a then 1 else 0)
 | 0,i,_,h,_=>by omega
 | n+1,i,hi,hn,he=>by
  rw [Zd6.eq_2]
  by_cases h0:i=0
  ·subst h0
   rw [if_neg (by decide)]
   rw [List.drop_zero,List.drop_zero] at he
   rw [if_neg (by omega),if_neg (by omega)]
  ·have e:(i:Int) - 1=((i - 1:Nat):Int):=by omega
   have e1:i - 1+1=i:=by omega
   rw [if_pos (decide_eq_true (by omega)),e,Zdl ha,Zdl hb,Option.bind_some,Option.bind_some]
   have va:=Uv a (i - 1)
   have vb:=Uv b (i - 1)
   rw [Uo a,e1] at va
   rw [Uo b,e1,← he] at vb
   have la:=Zke ha (i - 1)
   have lb:=Zke hb (i - 1)
   have key:∀ x y:Nat,x<y→4294967296 ^ (i - 1) * (x+4294967296 * Zb (a.drop i))+4294967296 ^ (i - 1)≤4294967296 ^ (i - 1) * (y+4294967296 * Zb (a.drop i)):=fun x y hxy=>by
    rw [← Nat.mul_succ];exact Nat.mul_le_mul_left _ (by omega)
   generalize 4294967296 ^ (i - 1)=Q at *
   by_cases hlt:Xr a (i - 1)<Xr b (i - 1)
   ·have:=key _ _ hlt
    rw [if_pos (decide_eq_true (by omega)),if_pos (by omega)]
   ·rw [if_neg (by rw [decide_eq_false (by omega)];decide)]
    by_cases hgt:Xr b (i - 1)<Xr a (i - 1)
    ·have:=key _ _ hgt
     rw [if_pos (decide_eq_true (by omega)),if_neg (by omega),if_pos (by omega)]
    ·rw [if_neg (by rw [decide_eq_false (by omega)];decide),Zt (by omega)]
     exact Zpa N a b ha hb n (i - 1) (by omega) (by omega) (by rw [Uo a,Uo b,e1,he];omega)
theorem Zpb {N:Nat} {a b:List Int} (ha:Zp a) (hb:Zp b) (h1:a.length<N) (h2:b.length<N) (h3:a.length≤1099511627776) (h4:b.length≤1099511627776):
  Zd5 N a b=some (if Zb a<Zb b then -1 else if Zb b<Zb a then 1 else 0):=by
 have dz:∀ (l:List Int) (k:Nat),l.length≤k→Zb (l.drop k)=0:=fun l k h=>by rw [List.drop_eq_nil_of_le h];rfl
 rw [Zd5]
 by_cases h:a.length<b.length
 ·rw [if_pos (decide_eq_true (by omega)),Zg0,Zt (by omega)]
  exact Zpa N a b ha hb N b.length (by omega) h2 (by rw [dz a _ (by omega),dz b _ (by omega)])
 ·rw [if_neg (by rw [decide_eq_false (by omega)];decide),Zg0,Zt (by omega)]
  exact Zpa N a b ha hb N a.length (by omega) h1 (by rw [dz a _ (by omega),dz b _ (by omega)])
theorem Zpp {s:Int} (h:0≤s∧s<18446744073709551616):u32.wrap (Int.tmod s 4294967296)=((s.toNat % 4294967296:Nat):Int):=by
 rw [Int.tmod_eq_emod_of_nonneg h.1,V3 (by omega)];omega
theorem Zpo {s:Int} (h:0≤s∧s<18446744073709551616):u64.wrap (Int.tdiv s 4294967296)=((s.toNat / 4294967296:Nat):Int):=by
 rw [Int.tdiv_eq_ediv_of_nonneg h.1,Xm (by omega)];omega
theorem Zoz {S Q A B C:Nat} (h:A=B+4294967296 * C):S+Q * B+Q * 4294967296 * C=S+Q * A:=by
 subst h;grind
theorem Zvh (N:Nat) (a b:List Int) (ha:Zp a) (hb:Zp b) (hN:a.length+b.length+2<N) (hs:a.length+b.length<1099511627000):∀ (n i:Nat) (out:List Int) (c:Nat),out.length=i→Zp out→c≤1→i≤a.length+b.length+2→(i≤a.length+b.length+1∨c=0)→a.length+b.length+3≤n+i→
  Sp N a b n out (c:Int) (i:Int)=some (Zd (Zb out+4294967296 ^ i * (c+Zb (a.drop i)+Zb (b.drop i))))
 | 0,i,out,c,_,_,_,h1,_,h2=>by omega
 | n+1,i,out,c,ho,hO,hc,h1,h2,h3=>by
  have go:(i<a.length∨i<b.length∨0<c)→Zjq a b out (c:Int) (i:Int) (Sp N a b n)=some (Zd (Zb out+4294967296 ^ i * (c+Zb (a.drop i)+Zb (b.drop i)))):=fun hgo=>by
   have la:=Zdk ha i
   have lb:=Zdk hb i
   have es:u64.wrap (u64.wrap ((c:Int)+((Xr a i:Nat):Int))+((Xr b i:Nat):Int))=((c+Xr a i+Xr b i:Nat):Int):=by
    rw [Xm (x:=(c:Int)+_) (by omega),Xm (by omega)];omega
   rw [Zjq,Zdl ha,Zdl hb,Option.bind_some,Option.bind_some,es,Zpp (by omega),Zpo (by omega),Int.toNat_natCast]
   generalize hsum:c+Xr a i+Xr b i=s
   rw [Z9 (by simp only [List.length_singleton,maxLen];omega),Zt (by omega)]
   have ih:=Zvh N a b ha hb hN hs n (i+1) (out++[((s % 4294967296:Nat):Int)]) (s / 4294967296) (by simp [ho]) (hO.app (.cons (by omega) .nil)) (by omega) (by omega) (by
    by_cases hi:i<a.length∨i<b.length
    ·omega
    ·right
     have za:Xr a i=0:=by rw [Xr,List.getD_eq_getElem?_getD,List.getElem?_eq_none (by omega)];rfl
     have zb:Xr b i=0:=by rw [Xr,List.getD_eq_getElem?_getD,List.getElem?_eq_none (by omega)];rfl
     omega) (by omega)
   rw [show ((i+1:Nat):Int)=(i:Int)+1 by omega] at ih
   rw [ih,T3,ho,Y4,Yd,Int.toNat_natCast,Uo a i,Uo b i,Nat.pow_succ]
   congr 2
   rw [Nat.mul_zero,Nat.add_zero]
   refine Zoz ?_
   omega
  rw [Sp.eq_2]
  by_cases hia:i<a.length
  ·rw [if_pos (decide_eq_true (by omega)),Zcj,if_pos rfl];exact go (.inl hia)
  ·rw [if_neg (by rw [decide_eq_false (by omega)];decide)]
   by_cases hib:i<b.length
   ·rw [if_pos (decide_eq_true (by omega)),Zcj,if_pos rfl];exact go (.inr (.inl hib))
   ·rw [if_neg (by rw [decide_eq_false (by omega)];decide),Zcj]
    by_cases hcp:0<c
    ·rw [if_pos (decide_eq_true (by omega))];exact go (.inr (.inr hcp))
    ·have:c=0:=by omega
     subst this
     rw [if_neg (by decide),Uy hO (by omega) (by omega),Option.bind_some,List.drop_eq_nil_of_le (by omega),List.drop_eq_nil_of_le (by omega),Yd]
     simp
theorem Zvi {N:Nat} {a b:List Int} (ha:Zp a) (hb:Zp b) (hN:a.length+b.length+3<N) (hs:a.length+b.length<1099511627000):Zgy N a b=some (Zd (Zb a+Zb b)):=by
 have:=Zvh N a b ha hb (by omega) hs N 0 [] 0 rfl .nil (by omega) (by omega) (by omega) (by omega)
 rw [List.drop_zero,List.drop_zero,Yd,Nat.pow_zero] at this
 rw [Zgy,show (0:Int)=((0:Nat):Int) from rfl,this]
 simp
theorem Zwv (N:Nat) (a b:List Int) (ha:Zp a) (hb:Zp b) (hN:a.length<N) (hs:a.length<1099511627776):∀ (n i:Nat) (out:List Int) (c:Nat),out.length=i→Zp out→c≤1→i≤a.length→a.length<n+i→c+Zb (b.drop i)≤Zb (a.drop i)→
  Qc N a b n out (c:Int) (i:Int)=some (Zd (Zb out+4294967296 ^ i * (Zb (a.drop i) - (c+Zb (b.drop i)))),true)
 | 0,i,out,c,_,_,_,h1,h2,_=>by omega
 | n+1,i,out,c,ho,hO,hc,h1,h2,h3=>by
  rw [Qc.eq_2]
  by_cases hi:i<a.length
  ·have la:=Zdk ha i
   have lb:=Zdk hb i
   rw [Uo a i,Uo b i] at h3
   have go:∀ (c':Nat) (x:Int),c'≤1→x=((Xr a i+4294967296 * c':Nat):Int)→Xr b i+c≤Xr a i+4294967296 * c'→Xr a i+4294967296 * c'<Xr b i+c+4294967296→Zg6 out (c:Int) (i:Int) (Qc N a b n) ((Xr b i:Nat):Int) (c':Int) x=some (Zd (Zb out+4294967296 ^ i * (Zb (a.drop i) - (c+Zb (b.drop i)))),true):=fun c' x hc' hx h5 h6=>by
    have ev:u32.wrap (u64.wrap (x - u64.wrap (((Xr b i:Nat):Int)+(c:Int))))=((Xr a i+4294967296 * c' - (Xr b i+c):Nat):Int):=by
     rw [Xm (x:=((Xr b i:Nat):Int)+(c:Int)) (by omega),Xm (by omega),V3 (by omega)];omega
    rw [Zg6,ev,Z9 (by simp only [List.length_singleton,maxLen];omega),Zlx,Zt (by omega)]
    generalize hv:Xr a i+4294967296 * c' - (Xr b i+c)=v
    have ih:=Zwv N a b ha hb hN hs n (i+1) (out++[(v:Int)]) c' (by simp [ho]) (hO.app (.cons (by omega) .nil)) hc' (by omega) (by omega) (by omega)
    rw [show ((i+1:Nat):Int)=(i:Int)+1 by omega] at ih
    rw [ih,T3,ho,Y4,Yd,Int.toNat_natCast,Uo a i,Uo b i,Nat.pow_succ,Nat.mul_zero,Nat.add_zero]
    congr 3
    refine Zoz ?_
    omega
   rw [if_pos (decide_eq_true (by omega)),Zdl ha,Zdl hb,Option.bind_some,Option.bind_some,Xm (x:=((Xr b i:Nat):Int)+(c:Int)) (by omega)]
   by_cases hlt:Xr a i<Xr b i+c
   ·rw [if_pos (decide_eq_true (by omega))]
    exact go 1 _ (by omega) (by rw [Xm (by omega)];omega) (by omega) (by omega)
   ·rw [if_neg (by rw [decide_eq_false (by omega)];decide)]
    exact go 0 _ (by omega) (by omega) (by omega) (by omega)
  ·rw [if_neg (by rw [decide_eq_false (by omega)];decide),Uy hO (by omega) (by omega),Option.bind_some]
   rw [List.drop_eq_nil_of_le (show a.length≤i by omega),Yd] at h3 ⊢
   rw [show 0 - (c+Zb (b.drop i))=0 by omega]
   simp
theorem Zkn {N:Nat} {a b:List Int} (ha:Zp a) (hb:Zp b) (h1:a.length<N) (h2:b.length<N) (h3:a.length<1099511627776) (h4:b.length<1099511627776):
  Zcl N a b=some (if Zb a<Zb b then ([],false) else (Zd (Zb a - Zb b),true)):=by
 rw [Zcl,Zpb ha hb h1 h2 (by omega) (by omega),Option.bind_some]
 by_cases h:Zb a<Zb b
 ·rw [if_pos h,if_pos (by decide),if_pos h]
 ·have:=Zwv N a b ha hb h1 h3 N 0 [] 0 rfl .nil (by omega) (by omega) (by omega) (by simpa using Nat.le_of_not_lt h)
  rw [if_neg h,if_neg (by split <;> decide),if_neg h,show (0:Int)=((0:Nat):Int) from rfl,this]
  simp [Yd]
theorem Zwb (N:Nat) (a b:List Int) (ha:Zp a) (hb:Zp b) (i:Nat) (hi:i<a.length) (kk:List Int→Int→Option R2):∀ (n j:Nat) (p:List Int) (c:Nat),j≤b.length→b.length<n+j→i+b.length<p.length→p.length<4611686018427387904→Zp p→c<4294967296→Zb (p.drop (i+b.length))=0→
  ∃ p',Zea N a b (i:Int) kk n (j:Int) p (c:Int)=kk p' ((i:Int)+1)∧p'.length=p.length∧Zp p'∧Zb p'=Zb p+4294967296 ^ (i+j) * (c+Xr a i * Zb (b.drop j))∧Zb (p'.drop (i+b.length+1))=0
 | 0,j,p,c,h1,h2,_,_,_,_,_=>by omega
 | n+1,j,p,c,h1,h2,hp,hs,hL,hc,hz=>by
  rw [Zea.eq_2]
  by_cases hj:j<b.length
  ·have hij:i+j<p.length:=by omega
   have gp:=hL.get hij
   have ga:=ha.get hi
   have gb:=hb.get hj
   have ea:Xr a i=(a[i]).toNat:=by rw [Xr,List.getD_eq_getElem?_getD,List.getElem?_eq_getElem hi,Option.getD_some]
   have hm:a[i] * b[j]≤4294967295 * 4294967295:=Int.mul_le_mul (by omega) (by omega) (by omega) (by omega)
   have hm0:0≤a[i] * b[j]:=Int.mul_nonneg ga.1 gb.1
   have em:(((a[i]).toNat * (b[j]).toNat:Nat):Int)=a[i] * b[j]:=by rw [Int.natCast_mul,Int.toNat_of_nonneg ga.1,Int.toNat_of_nonneg gb.1]
   have es:u64.wrap (u64.wrap ((c:Int)+u64.wrap (u64.wrap a[i] * u64.wrap b[j]))+u64.wrap p[i+j])=((c+((a[i]).toNat * (b[j]).toNat+(p[i+j]).toNat):Nat):Int):=by
    rw [Xm (x:=a[i]) (by omega),Xm (x:=b[j]) (by omega),Xm (x:=a[i] * b[j]) (by omega),Xm (x:=p[i+j]) (by omega),Xm (x:=(c:Int)+_) (by omega),Xm (by omega)]
    omega
   rw [if_pos (decide_eq_true (by omega)),Z7 hi,Option.bind_some,Z7 hj,Option.bind_some,Zt (x:=(i:Int)+(j:Int)) (by omega),show (i:Int)+(j:Int)=((i+j:Nat):Int) by omega,Z7 hij,Option.bind_some,Option.bind_some,Int.toNat_natCast,es]
   have hsb:c+((a[i]).toNat * (b[j]).toNat+(p[i+j]).toNat)<18446744073709551616:=by omega
   rw [Zpp (by omega),Zpo (by omega),Int.toNat_natCast,Zt (x:=(j:Int)+1) (by omega),show (j:Int)+1=((j+1:Nat):Int) by omega]
   generalize hS:c+((a[i]).toNat * (b[j]).toNat+(p[i+j]).toNat)=S at *
   obtain ⟨p',q1,q2,q3,q4,q5⟩:=Zwb N a b ha hb i hi kk n (j+1) (p.set (i+j) ((S % 4294967296:Nat):Int)) (S / 4294967296) (by omega) (by omega) (by rw [List.length_set];exact hp) (by rw [List.length_set];exact hs) (hL.set _ (by omega)) (by omega) (by rw [S6 _ (by omega)];exact hz)
   refine ⟨p',q1,by rw [q2,List.length_set],q3,?_,q5⟩
   rw [q4,← Nat.add_assoc i j 1,Nat.pow_succ,Ud hj,ea]
   exact Zt1 _ _ _ _ _ _ (p[i+j]).toNat (S % 4294967296) _ _ (by have:=Uu hij ((S % 4294967296:Nat):Int);rw [Int.toNat_natCast] at this;exact this) (by omega)
  ·have:j=b.length:=by omega
   subst this
   have hz':=drop_zero hL hp hz
   rw [if_neg (by rw [decide_eq_false (by omega)];decide),Zt (x:=(i:Int)+(b.length:Int)) (by omega),show (i:Int)+(b.length:Int)=((i+b.length:Nat):Int) by omega,Z7 hp,Option.bind_some,Option.bind_some,Int.toNat_natCast,V3 (by omega),Zt (by omega)]
   refine ⟨_,rfl,by rw [List.length_set],hL.set _ (by omega),?_,?_⟩
   ·have h1:=Uu hp (c:Int)
    rw [hz'.1,Int.toNat_natCast] at h1
    rw [List.drop_length,Yd,Nat.mul_zero,Nat.add_zero]
    simpa using h1
   ·rw [S6 _ (by omega)];exact hz'.2
theorem Zwa (N:Nat) (a b:List Int) (ha:Zp a) (hb:Zp b) (hN:a.length+b.length<N) (hs:a.length+b.length<1099511627776):∀ (n i:Nat) (p:List Int),i≤a.length→a.length<n+i→p.length=a.length+b.length→Zp p→Zb (p.drop (i+b.length))=0→
  Za5 N a b n p (i:Int)=some (Zd (Zb p+4294967296 ^ i * (Zb (a.drop i) * Zb b)))
 | 0,i,p,h1,h2,_,_,_=>by omega
 | n+1,i,p,h1,h2,hp,hL,hz=>by
  rw [Za5.eq_2]
  by_cases hi:i<a.length
  ·obtain ⟨p',q1,q2,q3,q4,q5⟩:=Zwb N a b ha hb i hi (Za5 N a b n) N 0 p 0 (by omega) (by omega) (by omega) (by omega) hL (by omega) hz
   rw [show ((0:Nat):Int)=0 from rfl] at q1
   have ih:=Zwa N a b ha hb hN hs n (i+1) p' (by omega) (by omega) (by omega) q3 (by rw [show i+1+b.length=i+b.length+1 by omega];exact q5)
   rw [show ((i+1:Nat):Int)=(i:Int)+1 by omega] at ih
   rw [if_pos (decide_eq_true (by omega)),q1,ih,q4,Uo a i,Nat.pow_succ,List.drop_zero]
   congr 2
   simp only [Nat.add_zero,Nat.zero_add]
   grind
  ·rw [if_neg (by rw [decide_eq_false (by omega)];decide),Uy hL (by omega) (by omega),Option.bind_some,List.drop_eq_nil_of_le (by omega),Yd];simp
theorem Zwc {N:Nat} {a b:List Int} (ha:Zp a) (hb:Zp b) (h1:a.length+b.length<N) (h3:a.length+b.length<1099511627776):Zck N a b=some (Zd (Zb a * Zb b)):=by
 have la:=X0 ha
 have lb:=X0 hb
 rw [Zck,Uy ha (by omega) (by omega),Option.bind_some,Uy hb (by omega) (by omega),Option.bind_some,Zt (by omega),Z9 (by simp only [maxLen];omega)]
 have:=Zwa N (Zd (Zb a)) (Zd (Zb b)) (Z2 _) (Z2 _) (by omega) (by omega) N 0 (List.replicate (Int.toNat (((Zd (Zb a)).length:Int)+((Zd (Zb b)).length:Int))) 0) (by omega) (by omega) (by rw [List.length_replicate];omega) (.zeros _) (by rw [List.drop_replicate];exact Uw _)
 rw [show ((0:Nat):Int)=0 from rfl] at this
 rw [this,Uw,List.drop_zero,Z0,Z0]
 simp
theorem Zvl (N:Nat):∀ (n:Nat) (c:Int) (t:Nat),Xb t<n→t<4294967296→0≤c∧c+(Xb t:Int)≤4611686018427387904→Zd4 N n c (t:Int)=some (c+(Xb t:Int))
 | 0,c,t,h,_,_=>by omega
 | n+1,c,t,h,ht,hc=>by
  rw [Zd4.eq_2]
  have hb:Xb t≤32:=Vr.2 (by omega)
  by_cases h0:0<t
  ·have e:u32.wrap (Int.tdiv (t:Int) 2)=((t / 2:Nat):Int):=by rw [Int.tdiv_eq_ediv_of_nonneg (by omega),V3 (by omega)];omega
   have hs:=Zip t 1
   rw [Nat.pow_one] at hs
   have h1:1≤Xb t:=by rw [Xb,if_neg (by omega)];omega
   rw [if_pos (decide_eq_true (by omega)),e,Zt (by omega),Zvl N n (c+1) (t / 2) (by omega) (by omega) (by omega)]
   congr 1;omega
  ·have:t=0:=by omega
   subst this
   rw [if_neg (by decide),Zfj];simp
theorem Zo9 {N:Nat} {a:List Int} (h:Zp a) (hn:a.length+32<N) (hb:a.length≤1099511627776):Za2 N a=some ((Xb (Zb a):Nat):Int):=by
 have hl:=X0 h
 rw [Za2,Uy h (by omega) hb,Option.bind_some]
 by_cases h0:(Zd (Zb a)).length=0
 ·have:Zb a=0:=Zfu.1 (List.eq_nil_of_length_eq_zero h0)
  rw [if_pos (decide_eq_true (by omega)),this,Zfj];rfl
 ·have hp:0<(Zd (Zb a)).length:=by omega
  have e:((Zd (Zb a)).length:Int) - 1=(((Zd (Zb a)).length - 1:Nat):Int):=by omega
  have hx:=(Z2 (Zb a)).get (k:=(Zd (Zb a)).length - 1) (by omega)
  have hne:=Zlp hp
  have hs:=Zfs hp
  have e2:(Zd (Zb a))[(Zd (Zb a)).length - 1]=(((Zd (Zb a))[(Zd (Zb a)).length - 1]).toNat:Int):=by omega
  have hb2:Xb ((Zd (Zb a))[(Zd (Zb a)).length - 1]).toNat≤32:=Vr.2 (by omega)
  rw [if_neg (by rw [decide_eq_false (by omega)];decide),Zt (by omega),e,Z7 (by omega),Option.bind_some,e2,Zt (by omega),Zvl N N _ _ (by omega) (by omega) (by omega)]
  have hb:=Zqd (a:=(Zd (Zb a)).take ((Zd (Zb a)).length - 1)) (x:=(Zd (Zb a))[(Zd (Zb a)).length - 1]) ((Z2 _).take _) (by omega)
  rw [hs,Z0,List.length_take,Nat.min_eq_left (by omega)] at hb
  rw [hb]
  congr 1
theorem Zp8 (T l R k s:Nat) (hT:T<4294967296 ^ k) (hs:s<32):(T+4294967296 ^ k * (l+4294967296 * R)) / 2 ^ (32 * k+s) % 2=l / 2 ^ s % 2:=by
 have e:(4294967296:Nat) ^ k=2 ^ (32 * k):=by rw [show (4294967296:Nat)=2 ^ 32 by decide,← Nat.pow_mul]
 have hp:0<4294967296 ^ k:=Nat.pow_pos (by decide)
 rw [Nat.pow_add,← e,← Nat.div_div_eq_div_mul,Nat.add_mul_div_left _ _ hp,Nat.div_eq_of_lt hT,Nat.zero_add]
 have pw:(4294967296:Nat)=2 ^ s * (2 * 2 ^ (31 - s)):=by
  rw [Nat.mul_left_comm,← Nat.pow_add,show s+(31 - s)=31 by omega]
 have e2:l+4294967296 * R=l+2 ^ s * (2 * (2 ^ (31 - s) * R)):=by
  conv=>lhs;rw [pw]
  rw [Nat.mul_assoc,Nat.mul_assoc]
 rw [e2,Nat.add_mul_div_left _ _ (Nat.two_pow_pos s),Nat.add_mul_mod_self_left]
theorem Zvj {a:List Int} (h:Zp a) {i:Nat} (hi:i<4611686018427387904):Zgz a (i:Int)=some ((Zb a / 2 ^ i % 2:Nat):Int):=by
 have hl:=Zdk h (i / 32)
 have e1:i64.wrap (Int.tdiv (i:Int) 32)=((i / 32:Nat):Int):=by rw [Int.tdiv_eq_ediv_of_nonneg (by omega),Zt (by omega)];omega
 have e2:Int.tmod (i:Int) 32=((i % 32:Nat):Int):=by rw [Int.tmod_eq_emod_of_nonneg (by omega)];omega
 rw [Zgz,e1,Zdl h,Option.bind_some,e2,Z9 (by omega),Zko _ _ _ (by simp only [IntKind.bits];omega)]
 have hd:=Nat.div_le_self (Xr a (i / 32)) (2 ^ (i % 32))
 have e3:=Zp8 (Zb (a.take (i / 32))) (Xr a (i / 32)) (Zb (a.drop (i / 32+1))) (i / 32) (i % 32) (Zke h _) (by omega)
 rw [← Uo a,← Uv,show 32 * (i / 32)+i % 32=i by omega] at e3
 rw [e3]
 generalize Xr a (i / 32) / 2 ^ (i % 32)=x at *
 rw [V3 (by omega),Int.tmod_eq_emod_of_nonneg (by omega)]
 congr 1
theorem Zvp (N:Nat) (a:List Int) (ha:Zp a) (hs:a.length<1099511627776):∀ (n i:Nat) (out:List Int) (c:Nat),out.length=i→Zp out→c≤1→i≤a.length→a.length<n+i→
  ∃ o,Zeb N a n out (c:Int) (i:Int)=some o∧o.length≤a.length+1∧Zp o∧Zb o=Zb out+4294967296 ^ i * (c+2 * Zb (a.drop i))
 | 0,i,out,c,_,_,_,h1,h2=>by omega
 | n+1,i,out,c,ho,hO,hc,h1,h2=>by
  rw [Zeb.eq_2]
  by_cases hi:i<a.length
  ·have ga:=ha.get hi
   have es:u64.wrap ((c:Int)+u64.wrap (2 * u64.wrap a[i]))=((c+2 * (a[i]).toNat:Nat):Int):=by
    rw [Xm (x:=a[i]) (by omega),Xm (x:=2 * _) (by omega),Xm (by omega)];omega
   rw [if_pos (decide_eq_true (by omega)),Z7 hi,Option.bind_some,es,Zpp (by omega),Zpo (by omega),Int.toNat_natCast]
   generalize hS:c+2 * (a[i]).toNat=S
   rw [Z9 (by simp only [List.length_singleton,maxLen];omega),Zt (by omega)]
   obtain ⟨o,q1,q2,q3,q4⟩:=Zvp N a ha hs n (i+1) (out++[((S % 4294967296:Nat):Int)]) (S / 4294967296) (by simp [ho]) (hO.app (.cons (by omega) .nil)) (by omega) (by omega) (by omega)
   rw [show ((i+1:Nat):Int)=(i:Int)+1 by omega] at q1
   refine ⟨o,q1,q2,q3,?_⟩
   rw [q4,T3,ho,Y4,Yd,Int.toNat_natCast,Ud hi,Nat.pow_succ,Nat.mul_zero,Nat.add_zero]
   refine Zoz ?_
   omega
  ·have hia:i=a.length:=by omega
   rw [if_neg (by rw [decide_eq_false (by omega)];decide)]
   by_cases hcp:0<c
   ·rw [if_pos (decide_eq_true (by omega)),Z9 (by simp only [List.length_singleton,maxLen];omega),Zg8,V3 (by omega)]
    refine ⟨_,rfl,by simp;omega,hO.app (.cons (by omega) .nil),?_⟩
    rw [T3,ho,Y4,Yd,Int.toNat_natCast,List.drop_eq_nil_of_le (by omega),Yd]
   ·have:c=0:=by omega
    subst this
    rw [if_neg (by decide),Zg8]
    refine ⟨_,rfl,by omega,hO,?_⟩
    rw [List.drop_eq_nil_of_le (by omega),Yd];simp
theorem Zvq {N:Nat} {a:List Int} {c:Nat} (ha:Zp a) (hc:c≤1) (hN:a.length<N) (hs:a.length<1099511627776):∃ o,Zg7 N a (c:Int)=some o∧o.length≤a.length+1∧Zp o∧Zb o=2 * Zb a+c:=by
 obtain ⟨o,q1,q2,q3,q4⟩:=Zvp N a ha hs N 0 [] c rfl .nil hc (by omega) (by omega)
 refine ⟨o,?_,q2,q3,?_⟩
 ·rw [Zg7,Xm (by omega)];exact q1
 ·rw [q4,Yd,Nat.pow_zero,List.drop_zero];omega
theorem Z1j (Q e o2 r S v L:Nat) (h:r * 4294967296+e=2 * v+o2) (hS:S=Q * (o2+2 * (v+4294967296 * L))):S=Q * e+Q * 4294967296 * (r+2 * L):=by
 subst hS
 have:Q * (r * 4294967296+e)=Q * (2 * v+o2):=by rw [h]
 grind
theorem Zv8 (N:Nat) (a:List Int) (ha:Zp a) (hN:a.length<N) (hs:a.length<1099511627776):∀ (n j:Nat) (out:List Int) (r:Nat),out.length=a.length→Zp out→r≤1→j≤a.length→j<n→Zb (out.take j)=0→
  ∃ v,Zec N a n out (r:Int) ((j:Int) - 1)=some (Zd v)∧∃ ρ,ρ≤1∧2 * v+ρ=Zb (a.take j)+4294967296 ^ j * (r+2 * Zb (out.drop j))
 | 0,j,out,r,_,_,_,_,h,_=>by omega
 | n+1,j,out,r,ho,hO,hr,hj,hn,hz=>by
  rw [Zec.eq_2]
  by_cases h0:j=0
  ·subst h0
   rw [if_neg (by decide),Uy hO (by omega) (by omega),Option.bind_some]
   refine ⟨_,rfl,r,hr,?_⟩
   rw [List.take_zero,Yd,List.drop_zero,Nat.pow_zero];omega
  ·have e:(j:Int) - 1=((j - 1:Nat):Int):=by omega
   have e1:j - 1+1=j:=by omega
   have hk:j - 1<a.length:=by omega
   have g:=ha.get hk
   have es:u64.wrap (u64.wrap ((r:Int) * 4294967296)+u64.wrap a[j - 1])=((r * 4294967296+(a[j - 1]).toNat:Nat):Int):=by
    rw [Xm (x:=a[j - 1]) (by omega),Xm (x:=(r:Int) * 4294967296) (by omega),Xm (by omega)];omega
   rw [if_pos (decide_eq_true (by omega)),e,Z7 hk,Option.bind_some,Z7 (by omega),Option.bind_some,Option.bind_some,Int.toNat_natCast,es,Zt (by omega)]
   generalize hS:r * 4294967296+(a[j - 1]).toNat=S
   have e2:u32.wrap (u64.wrap (Int.tdiv (S:Int) 2))=((S / 2:Nat):Int):=by rw [Int.tdiv_eq_ediv_of_nonneg (by omega),Xm (by omega),V3 (by omega)];omega
   have e3:Int.tmod (S:Int) 2=((S % 2:Nat):Int):=by rw [Int.tmod_eq_emod_of_nonneg (by omega)];omega
   have zt:Zb (out.take (j - 1))=0:=by
    have:=Uv (out.take j) (j - 1)
    rw [List.take_take,Nat.min_eq_left (by omega),hz] at this
    omega
   rw [e2,e3]
   obtain ⟨v,q1,ρ,q2,q3⟩:=Zv8 N a ha hN hs n (j - 1) (out.set (j - 1) ((S / 2:Nat):Int)) (S % 2) (by rw [List.length_set];exact ho) (hO.set _ (by omega)) (by omega) (by omega) (by omega) (by rw [Zdb _ (Nat.le_refl _)];exact zt)
   refine ⟨v,q1,ρ,q2,?_⟩
   rw [q3]
   have t1:=Zou hk
   have t2:Zb ((out.set (j - 1) ((S / 2:Nat):Int)).drop (j - 1))=S / 2+4294967296 * Zb (out.drop (j - 1+1)):=by
    rw [Ud (by rw [List.length_set];omega),List.getElem_set_self,S6 _ (by omega),Int.toNat_natCast]
   rw [e1] at t1 t2
   have hp:(4294967296:Nat) ^ j=4294967296 ^ (j - 1) * 4294967296:=by rw [← Nat.pow_succ,show (j - 1).succ=j by omega]
   rw [t1,t2,hp,Nat.add_assoc]
   congr 1
   exact Z1j _ _ (S % 2) _ _ (S / 2) _ (by omega) rfl
theorem Zmz {N:Nat} {a:List Int} (ha:Zp a) (hN:a.length<N) (hs:a.length<1099511627776):Zcn N a=some (Zd (Zb a / 2)):=by
 obtain ⟨v,q1,ρ,q2,q3⟩:=Zv8 N a ha hN hs N a.length (List.replicate a.length 0) 0 (by rw [List.length_replicate]) (.zeros _) (by omega) (Nat.le_refl _) hN (by rw [List.take_replicate];exact Uw _)
 rw [Zcn,Z9 (by simp only [maxLen];omega),Zt (by omega)]
 rw [List.take_length,List.drop_replicate,Uw] at q3
 refine Eq.trans q1 ?_
 rw [show v=Zb a / 2 by omega]
theorem Z2x {a:List Int} (h:Zp a):Zb a % 2=Xr a 0 % 2:=by
 have:=Uo a 0
 rw [List.drop_zero] at this
 omega
theorem Zmx {a:List Int} (h:Zp a):Zcm a=some (decide (Zb a % 2=0)):=by
 rw [Zcm,Z2x h]
 by_cases h0:a.length=0
 ·have:a=[]:=List.eq_nil_of_length_eq_zero h0
  subst this
  rfl
 ·have g:=h.get (k:=0) (by omega)
  have ea:Xr a 0=(a[0]).toNat:=by rw [Xr,List.getD_eq_getElem?_getD,List.getElem?_eq_getElem (by omega),Option.getD_some]
  rw [if_neg (by rw [decide_eq_false (by omega)];decide),show (0:Int)=((0:Nat):Int) from rfl,Z7 (by omega),Option.bind_some,Zjt,Int.tmod_eq_emod_of_nonneg (by omega),ea]
  congr 1
  exact decide_eq_decide.2 (by omega)
theorem Z26 {q:List Int} (hq:Zp q) {i:Nat} (hi:i<32 * q.length) (hd:2 ^ (i+1) ∣ Zb q):
  ∃ x:Nat,Zo q ((i / 32:Nat):Int)=some (x:Int)∧u32.wrap ((x:Int)+Xq .u32 1 ((i % 32:Nat):Int))=((x+2 ^ (i % 32):Nat):Int)∧x+2 ^ (i % 32)<4294967296∧Zb (q.set (i / 32) ((x+2 ^ (i % 32):Nat):Int))=Zb q+2 ^ i:=by
 have hk:i / 32<q.length:=by omega
 have g:=hq.get hk
 have hs:i % 32<32:=Nat.mod_lt _ (by decide)
 have hp:=Nat.two_pow_pos (i % 32)
 have e32:(4294967296:Nat) ^ (i / 32)=2 ^ (32 * (i / 32)):=by rw [show (4294967296:Nat)=2 ^ 32 by decide,← Nat.pow_mul]
 have eb:(4294967296:Nat)=2 ^ (i % 32+1) * 2 ^ (31 - i % 32):=by rw [← Nat.pow_add,show i % 32+1+(31 - i % 32)=32 by omega]
 have pi:(2:Nat) ^ (i+1)=4294967296 ^ (i / 32) * 2 ^ (i % 32+1):=by rw [e32,← Nat.pow_add];congr 1;omega
 have pi0:(2:Nat) ^ i=4294967296 ^ (i / 32) * 2 ^ (i % 32):=by rw [e32,← Nat.pow_add];congr 1;omega
 have sp:=Uv q (i / 32)
 rw [Ud hk] at sp
 have tl:=Zke hq (i / 32)
 have hQ:0<4294967296 ^ (i / 32):=Nat.pow_pos (by decide)
 rw [pi] at hd
 -- the limb's lower bits are none
 have hx:2 ^ (i % 32+1) ∣ (q[i / 32]).toNat:=by
  have d1:4294967296 ^ (i / 32) ∣ Zb q:=Nat.dvd_trans ⟨_,rfl⟩ hd
  have d2:4294967296 ^ (i / 32) ∣ Zb (q.take (i / 32)):=by
   rw [sp] at d1
   exact (Nat.dvd_add_left ⟨_,rfl⟩).1 d1
  have z:Zb (q.take (i / 32))=0:=Nat.eq_zero_of_dvd_of_lt d2 tl
  rw [z,Nat.zero_add] at sp
  rw [sp] at hd
  have d3:=Nat.dvd_of_mul_dvd_mul_left hQ hd
  have d4:2 ^ (i % 32+1) ∣ 4294967296 * Zb (q.drop (i / 32+1)):=by
   conv=>rhs;rw [eb]
   exact ⟨2 ^ (31 - i % 32) * Zb (q.drop (i / 32+1)),by rw [Nat.mul_assoc]⟩
  exact (Nat.dvd_add_left d4).1 d3
 obtain ⟨y,hy⟩:=hx
 have hlt:(q[i / 32]).toNat+2 ^ (i % 32)<4294967296:=by
  have h1:2 ^ (i % 32+1) * y<2 ^ (i % 32+1) * 2 ^ (31 - i % 32):=by rw [← hy,← eb];omega
  have h2:=Nat.lt_of_mul_lt_mul_left h1
  have h3:=Nat.mul_le_mul_left (2 ^ (i % 32+1)) (show y+1≤2 ^ (31 - i % 32) from h2)
  rw [← eb,Nat.mul_add,← hy,Nat.pow_succ] at h3
  omega
 refine ⟨(q[i / 32]).toNat,by rw [Z7 hk];congr 1;omega,?_,hlt,?_⟩
 ·rw [show (1:Int)=((1:Nat):Int) from rfl,Zpl hs (.inl rfl),Nat.one_mul,V3 (x:=((2 ^ (i % 32):Nat):Int)) (by omega),V3 (by omega)]
  omega
 ·have h1:=Uu hk (((q[i / 32]).toNat+2 ^ (i % 32):Nat):Int)
  rw [Int.toNat_natCast,Nat.mul_add,← pi0] at h1
  omega
theorem Zpd (N:Nat) (a y:List Int) (ha:Zp a) (hy:Zp y) (hy0:0<Zb y) (hly:y.length+8<N) (hs:y.length<549755813888) (hla:a.length<549755813888) (hyc:(Zd (Zb y)).length=y.length) (hNa:a.length+y.length+8<N):∀ (n j:Nat) (r q:List Int),j<n→j<4611686018427387904→j≤32 * q.length→q.length≤a.length→Zp q→r=Zd (Zb r)→Zb r<Zb y→2 ^ j ∣ Zb q→Zb a / 2 ^ j=Zb q / 2 ^ j * Zb y+Zb r→
  Za3 N a y n r ((j:Int) - 1) q=some (Zd (Zb a / Zb y),Zd (Zb a % Zb y),0)
 | 0,j,r,q,h,_,_,_,_,_,_,_,_=>by omega
 | n+1,j,r,q,hjn,hj,hjq,hqa,hq,hr,hlt,hd,he=>by
  rw [Za3.eq_2]
  by_cases h0:j=0
  ·subst h0
   rw [Nat.pow_zero,Nat.div_one,Nat.div_one] at he
   rw [if_neg (by decide),Uy hq (by omega) (by omega),Option.bind_some]
   have h1:Zb a / Zb y=Zb q:=by rw [he,Nat.mul_comm,Nat.mul_add_div hy0,Nat.div_eq_of_lt hlt,Nat.add_zero]
   have h2:Zb a % Zb y=Zb r:=by rw [he,Nat.mul_comm,Nat.mul_add_mod,Nat.mod_eq_of_lt hlt]
   rw [h1,h2,← hr]
  ·have e:(j:Int) - 1=((j - 1:Nat):Int):=by omega
   obtain ⟨i,rfl⟩:∃ i,j=i+1:=⟨j - 1,by omega⟩
   have ei:i+1 - 1=i:=by omega
   rw [e,ei]
   have hrl:r.length≤y.length:=by
    rw [hr,← hyc];exact Y3 (Nat.le_of_lt hlt)
   have hlr:Zp r:=by rw [hr];exact Z2 _
   have hb:=Nat.mod_lt (Zb a / 2 ^ i) (show 0<2 by decide)
   obtain ⟨d,d1,d2,d3,d4⟩:=Zvq (N:=N) (a:=r) (c:=Zb a / 2 ^ i % 2) hlr (by omega) (by omega) (by omega)
   have h2:Zb a / 2 ^ i=2 * (Zb a / 2 ^ (i+1))+Zb a / 2 ^ i % 2:=by
    rw [Nat.pow_succ,← Nat.div_div_eq_div_mul];omega
   obtain ⟨qq,hqq⟩:=hd
   have hq1:Zb q / 2 ^ (i+1)=qq:=by rw [hqq,Nat.mul_div_cancel_left _ (Nat.two_pow_pos _)]
   have hq2:Zb q / 2 ^ i=2 * qq:=by rw [hqq,Nat.pow_succ,Nat.mul_assoc,Nat.mul_div_cancel_left _ (Nat.two_pow_pos _)]
   rw [hq1] at he
   rw [if_pos (decide_eq_true (by omega)),Zvj ha (by omega),Option.bind_some,d1,Option.bind_some,Uy d3 (by omega) (by omega),Option.bind_some,Zpb (Z2 _) hy (by have:=X0 d3;omega) (by omega) (by have:=X0 d3;omega) (by omega),Option.bind_some,Z0,d4]
   rw [he] at h2
   have hkey:Zb a / 2 ^ i=2 * qq * Zb y+(2 * Zb r+Zb a / 2 ^ i % 2):=by
    have:2 * qq * Zb y=2 * (qq * Zb y):=Nat.mul_assoc _ _ _
    omega
   generalize hbit:Zb a / 2 ^ i % 2=b at *
   by_cases hge:Zb y≤2 * Zb r+b
   ·rw [if_pos (by rw [if_neg (by omega)];split <;> decide)]
    obtain ⟨x,x1,x2,x3,x4⟩:=Z26 hq (i:=i) (by omega) ⟨qq,hqq⟩
    have e1:i64.wrap (Int.tdiv (i:Int) 32)=((i / 32:Nat):Int):=by rw [Int.tdiv_eq_ediv_of_nonneg (by omega),Zt (by omega)];omega
    have e2:Int.tmod (i:Int) 32=((i % 32:Nat):Int):=by rw [Int.tmod_eq_emod_of_nonneg (by omega)];omega
    have ll:(Zd (2 * Zb r+b)).length≤y.length+1:=by rw [← d4];exact Nat.le_trans (X0 d3) (by omega)
    rw [Zkn (Z2 _) hy (by omega) (by omega) (by omega) (by omega),Option.bind_some,Z0,if_neg (by omega),e1,e2,x1,Option.bind_some,Z9 (by omega),x2,Option.bind_some,Int.toNat_natCast,Zg1,Zt (by omega)]
    have ih:=Zpd N a y ha hy hy0 hly hs hla hyc hNa n i (Zd (2 * Zb r+b - Zb y)) (q.set (i / 32) ((x+2 ^ (i % 32):Nat):Int)) (by omega) (by omega) (by rw [List.length_set];omega) (by rw [List.length_set];exact hqa) (hq.set _ ⟨Int.natCast_nonneg _,Int.ofNat_lt.2 x3⟩) (by rw [Z0]) (by rw [Z0];omega) (by
     rw [x4,hqq];exact Nat.dvd_add ⟨2 * qq,by rw [Nat.pow_succ,Nat.mul_assoc]⟩ (Nat.dvd_refl _)) (by
     have:Zb (q.set (i / 32) ((x+2 ^ (i % 32):Nat):Int)) / 2 ^ i=2 * qq+1:=by
      rw [x4,Nat.add_div_right _ (Nat.two_pow_pos _),hq2]
     rw [this,Z0,hkey,Nat.add_mul,Nat.one_mul];omega)
    exact ih
   ·rw [if_neg (by rw [if_pos (by omega)];decide),Zg1,Zt (by omega)]
    exact Zpd N a y ha hy hy0 hly hs hla hyc hNa n i (Zd (2 * Zb r+b)) q (by omega) (by omega) (by omega) hqa hq (by rw [Z0]) (by rw [Z0];omega) (by rw [hqq];exact ⟨2 * qq,by rw [Nat.pow_succ,Nat.mul_assoc]⟩) (by rw [hq2,Z0,hkey])
theorem Zpe {N:Nat} {a b:List Int} (ha:Zp a) (hb:Zp b) (hN:32 * a.length+(Zd (Zb b)).length+48<N) (hbN:b.length<N) (hs:a.length+(Zd (Zb b)).length<274877906944) (hbs:b.length≤1099511627776):
  Zd7 N a b=some (if Zb b=0 then ([],[],11) else (Zd (Zb a / Zb b),Zd (Zb a % Zb b),0)):=by
 have la:=X0 ha
 rw [Zd7,Uy hb (by omega) (by omega),Option.bind_some]
 by_cases h0:Zb b=0
 ·rw [h0,Wz,if_pos (by decide),if_pos rfl]
 ·have hbp:=Tu h0
  have hbl:=(Zfi (Zb a)).2
  rw [if_neg (by rw [decide_eq_false (by omega)];decide),if_neg h0,Zo9 ha (by omega) (by omega),Option.bind_some]
  have e1:i64.wrap (Int.tdiv (i64.wrap (((Xb (Zb a):Nat):Int)+31)) 32)=(((Xb (Zb a)+31) / 32:Nat):Int):=by
   rw [Zt (x:=((Xb (Zb a):Nat):Int)+31) (by omega),Int.tdiv_eq_ediv_of_nonneg (by omega),Zt (by omega)];omega
  rw [e1,Z9 (by simp only [maxLen,Int.toNat_natCast];omega),Int.toNat_natCast,Zt (by omega)]
  have:=Zpd N a (Zd (Zb b)) ha (Z2 _) (by rw [Z0];omega) (by omega) (by omega) (by omega) (by rw [Z0]) (by omega) N (Xb (Zb a)) [] (List.replicate ((Xb (Zb a)+31) / 32) 0) (by omega) (by omega) (by rw [List.length_replicate];omega) (by rw [List.length_replicate];omega) (.zeros _) (by rw [Yd,Wz]) (by rw [Z0,Yd];omega) (by rw [Uw];exact ⟨0,rfl⟩) (by
   rw [Uw,Yd,Nat.zero_div,Nat.zero_mul]
   exact Nat.div_eq_of_lt (Vr.1 (Nat.le_refl _)))
  rw [Z0] at this
  exact this
theorem Z0i {x:Nat} (h:x % 2=1):Nat.Coprime 2 x:=by
 rw [Nat.coprime_iff_gcd_eq_one,Nat.gcd_rec,h,Nat.gcd_one_left]
theorem Zsg {x y k:Nat} (h:y % 2=1):Nat.gcd (2 ^ k * x) y=Nat.gcd x y:=by
 induction k with
 | zero=>rw [Nat.pow_zero,Nat.one_mul]
 | succ k ih=>rw [Nat.pow_succ,Nat.mul_comm (2 ^ k),Nat.mul_assoc,(Z0i h).gcd_mul_left_cancel,ih]
theorem Z1i {x y k:Nat} (h:x % 2=1):Nat.gcd x (2 ^ k * y)=Nat.gcd x y:=by
 rw [Nat.gcd_comm,Zsg h,Nat.gcd_comm]
theorem Zk6 {x:Nat} (h:x≠0):1≤Xb x:=by rw [Xb,if_neg h];omega
theorem Zk5 (x:Nat):Xb (x / 2)=Xb x - 1:=by
 have:=Zip x 1
 rwa [Nat.pow_one] at this
theorem Zio {x y:Nat} (h:x≤y):Xb x≤Xb y:=Vr.2 (Nat.lt_of_le_of_lt h (Vr.1 (Nat.le_refl _)))
theorem Zin {M x:Nat} (h:(Zd x).length≤M):Xb x≤32 * M:=by have:=(Zfi x).2;omega
theorem Zsx {x xo k:Nat} (h:x=2 ^ k * xo):xo≤x:=by
 rw [h]
 have:=Nat.mul_le_mul_right xo (Nat.two_pow_pos k)
 omega
section
variable {N M:Nat} (hN:100 * M+64<N) (hM:M<17179869200)
include hN hM
theorem Zv6 (t:Nat):∀ (n i:Nat) (x:List Int),i≤t→t - i<n→t≤32 * M→Zp x→x.length+(t - i)≤33 * M→
  ∃ g,Zd9 N (t:Int) n x (i:Int)=some g∧Zp g∧Zb g=2 ^ (t - i) * Zb x∧g.length≤x.length+(t - i)
 | 0,i,x,_,h,_,_,_=>by omega
 | n+1,i,x,hi,hn,ht,hx,hl=>by
  rw [Zd9.eq_2]
  by_cases h0:i<t
  ·obtain ⟨d,d1,d2,d3,d4⟩:=Zvq (N:=N) (a:=x) (c:=0) hx (by omega) (by omega) (by omega)
   rw [show ((0:Nat):Int)=0 from rfl] at d1
   obtain ⟨g,g1,g2,g3,g4⟩:=Zv6 t n (i+1) d (by omega) (by omega) ht d3 (by omega)
   rw [show ((i+1:Nat):Int)=(i:Int)+1 by omega] at g1
   rw [if_pos (decide_eq_true (by omega)),d1,Option.bind_some,Zt (by omega)]
   refine ⟨g,g1,g2,?_,by omega⟩
   rw [g3,d4,Nat.add_zero (2 * Zb x),← Nat.mul_assoc,← Nat.pow_succ]
   congr 2;omega
  ·have:i=t:=by omega
   subst this
   rw [if_neg (by rw [decide_eq_false (by omega)];decide)]
   exact ⟨x,rfl,hx,by simp,by omega⟩
theorem Zv5 (kk:List Int→List Int→Option R2) {x:Nat} (hx:(Zd x).length≤M):∀ (n y:Nat),y≠0→Xb y<n→(Zd y).length≤M→
  ∃ yo k,y=2 ^ k * yo∧yo % 2=1∧Q9 N kk (Zd x) n (Zd y)=kk (Zd (min x yo)) (Zd (max x yo - min x yo))
 | 0,y,_,h,_=>by omega
 | n+1,y,h0,hn,hy=>by
  have hp:=Tu h0
  rw [Q9.eq_2,if_pos (decide_eq_true (by omega)),Zmx (Z2 _),Z0,Option.bind_some,Zjs]
  by_cases he:y % 2=0
  ·rw [if_pos (decide_eq_true he),Zmz (Z2 _) (by omega) (by omega),Option.bind_some,Z0]
   have hb:=Zk5 y
   have h1:=Zk6 h0
   obtain ⟨yo,k,e1,e2,e3⟩:=Zv5 kk hx n (y / 2) (by omega) (by omega) (Nat.le_trans (Y3 (Nat.div_le_self _ _)) hy)
   refine ⟨yo,k+1,?_,e2,e3⟩
   rw [Nat.pow_succ,Nat.mul_comm (2 ^ k),Nat.mul_assoc,← e1];omega
  ·rw [if_neg (by rw [decide_eq_false he];decide),Zpb (Z2 _) (Z2 _) (by omega) (by omega) (by omega) (by omega),Option.bind_some,Z0,Z0]
   refine ⟨y,0,by simp,by omega,?_⟩
   by_cases hxy:y<x
   ·rw [if_pos (by rw [if_neg (by omega),if_pos hxy];decide),Zg3,Zkn (Z2 _) (Z2 _) (by omega) (by omega) (by omega) (by omega),Option.bind_some,Z0,Z0,if_neg (by omega),Nat.min_eq_right (by omega),Nat.max_eq_left (by omega)]
   ·rw [if_neg (by split <;> (try split) <;> simp_all <;> omega),Zg3,Zkn (Z2 _) (Z2 _) (by omega) (by omega) (by omega) (by omega),Option.bind_some,Z0,Z0,if_neg (by omega),Nat.min_eq_left (by omega),Nat.max_eq_right (by omega)]
theorem Zv4 (kk:List Int→List Int→Option R2) {y:Nat}:∀ (n x:Nat),x≠0→Xb x<n→(Zd x).length≤M→
  ∃ xo k,x=2 ^ k * xo∧xo % 2=1∧Zd8 N (Zd y) kk n (Zd x)=Q9 N kk (Zd xo) N (Zd y)
 | 0,x,_,h,_=>by omega
 | n+1,x,h0,hn,hx=>by
  rw [Zd8.eq_2,Zmx (Z2 _),Z0,Option.bind_some]
  by_cases he:x % 2=0
  ·rw [if_pos (decide_eq_true he),Zmz (Z2 _) (by omega) (by omega),Option.bind_some,Z0]
   have hb:=Zk5 x
   have h1:=Zk6 h0
   obtain ⟨xo,k,e1,e2,e3⟩:=Zv4 kk n (x / 2) (by omega) (by omega) (Nat.le_trans (Y3 (Nat.div_le_self _ _)) hx)
   refine ⟨xo,k+1,?_,e2,e3⟩
   rw [Nat.pow_succ,Nat.mul_comm (2 ^ k),Nat.mul_assoc,← e1];omega
  ·rw [if_neg (by rw [decide_eq_false he];decide)]
   exact ⟨x,0,by simp,by omega,rfl⟩
theorem Zv7 (t:Nat) {n x y:Nat} (hx:x≠0) (hy:y≠0) (h:x % 2=1∨y % 2=1) (lx:(Zd x).length≤M) (ly:(Zd y).length≤M):
  ∃ x' y',Ub N (t:Int) (n+1) (Zd x) (Zd y)=Ub N (t:Int) n (Zd x') (Zd y')∧x' % 2=1∧y' % 2=0∧Nat.gcd x' y'=Nat.gcd x y∧(Zd x').length≤M∧(Zd y').length≤M∧(Xb x'+Xb y'≤Xb x+Xb y)∧(y % 2=0→Xb x'+Xb y'+1≤Xb x+Xb y):=by
 have hp:=Tu hy
 have bx:=Zin lx
 have by_:=Zin ly
 obtain ⟨xo,k,x1,x2,x3⟩:=Zv4 hN hM (Ub N (t:Int) n) (y:=y) N x hx (by omega) lx
 have lxo:=Zsx x1
 obtain ⟨yo,l,y1,y2,y3⟩:=Zv5 hN hM (Ub N (t:Int) n) (x:=xo) (Nat.le_trans (Y3 lxo) lx) N y hy (by omega) ly
 have lyo:=Zsx y1
 rw [Ub.eq_2,if_pos (decide_eq_true (by omega)),x3,y3]
 have mM:max xo yo≤max x y:=by omega
 have lM:(Zd (max x y)).length≤M:=by
  rcases Nat.le_total x y with h | h
  ·rw [Nat.max_eq_right h];exact ly
  ·rw [Nat.max_eq_left h];exact lx
 have bmm:Xb (min xo yo)+Xb (max xo yo - min xo yo)≤Xb xo+Xb yo:=by
  rcases Nat.le_total xo yo with h | h
  ·rw [Nat.min_eq_left h,Nat.max_eq_right h]
   have:=Zio (Nat.sub_le yo xo);omega
  ·rw [Nat.min_eq_right h,Nat.max_eq_left h]
   have:=Zio (Nat.sub_le xo yo);omega
 have b1:=Zio lxo
 have b2:=Zio lyo
 refine ⟨_,_,rfl,by omega,by omega,?_,Nat.le_trans (Y3 (by omega)) lM,Nat.le_trans (Y3 (by omega)) lM,by omega,fun hev=>?_⟩
 ·have g1:Nat.gcd (min xo yo) (max xo yo - min xo yo)=Nat.gcd xo yo:=by
   rcases Nat.le_total xo yo with h | h
   ·rw [Nat.min_eq_left h,Nat.max_eq_right h,Nat.gcd_sub_self_right h]
   ·rw [Nat.min_eq_right h,Nat.max_eq_left h,Nat.gcd_sub_self_right h,Nat.gcd_comm]
  rw [g1,x1,y1]
  rcases h with h | h
  ·have hk:k=0:=by
    rcases Nat.eq_zero_or_pos k with hk | hk
    ·exact hk
    ·obtain ⟨k',rfl⟩:∃ k',k=k'+1:=⟨k - 1,by omega⟩
     rw [x1,Nat.pow_succ,Nat.mul_comm (2 ^ k'),Nat.mul_assoc] at h;omega
   subst hk
   rw [Nat.pow_zero,Nat.one_mul,Z1i x2]
  ·have hl:l=0:=by
    rcases Nat.eq_zero_or_pos l with hk | hk
    ·exact hk
    ·obtain ⟨k',rfl⟩:∃ k',l=k'+1:=⟨l - 1,by omega⟩
     rw [y1,Nat.pow_succ,Nat.mul_comm (2 ^ k'),Nat.mul_assoc] at h;omega
   subst hl
   rw [Nat.pow_zero,Nat.one_mul,Zsg y2]
 ·have:yo≤y / 2:=by
   rcases Nat.eq_zero_or_pos l with hl | hl
   ·subst hl;rw [Nat.pow_zero,Nat.one_mul] at y1;omega
   ·obtain ⟨k',rfl⟩:∃ k',l=k'+1:=⟨l - 1,by omega⟩
    rw [y1,Nat.pow_succ,Nat.mul_comm (2 ^ k'),Nat.mul_assoc,Nat.mul_div_cancel_left _ (by decide)]
    have:=Nat.mul_le_mul_right yo (Nat.two_pow_pos k')
    omega
  have h3:=Zio this
  rw [Zk5] at h3
  have h4:=Zk6 hy
  omega
theorem Zv3 (t:Nat) (ht:t≤32 * M):∀ (n x y:Nat),x % 2=1→y % 2=0→Xb x+Xb y<n→(Zd x).length≤M→(Zd y).length≤M→
  ∃ g,Ub N (t:Int) n (Zd x) (Zd y)=some g∧Zp g∧Zb g=2 ^ t * Nat.gcd x y∧g.length≤33 * M
 | 0,x,y,_,_,h,_,_=>by omega
 | n+1,x,y,hx,hy,hn,lx,ly=>by
  by_cases h0:y=0
  ·subst h0
   rw [Ub.eq_2,Wz,if_neg (by decide)]
   obtain ⟨g,g1,g2,g3,g4⟩:=Zv6 hN hM t N 0 (Zd x) (by omega) (by omega) ht (Z2 _) (by omega)
   rw [Z0,Nat.sub_zero] at g3
   exact ⟨g,g1,g2,by rw [g3,Nat.gcd_zero_right],by omega⟩
  ·obtain ⟨x',y',e1,e2,e3,e4,e5,e6,_,e7⟩:=Zv7 hN hM t (n:=n) (by omega) h0 (.inl hx) lx ly
   have:=e7 hy
   obtain ⟨g,g1,g2,g3,g4⟩:=Zv3 t ht n x' y' e2 e3 (by omega) e5 e6
   exact ⟨g,by rw [e1,g1],g2,by rw [g3,e4],g4⟩
theorem Zv2:∀ (n x y t:Nat),x≠0→y≠0→Xb x<n→t+Xb x≤32 * M→(Zd x).length≤M→(Zd y).length≤M→
  ∃ g,Za4 N n (Zd x) (Zd y) (t:Int)=some g∧Zp g∧Zb g=2 ^ t * Nat.gcd x y∧g.length≤33 * M
 | 0,x,y,t,_,_,h,_,_,_=>by omega
 | n+1,x,y,t,hx,hy,hn,ht,lx,ly=>by
  have bx:=Zin lx
  have by_:=Zin ly
  have last:(x % 2=1∨y % 2=1)→∃ g,Ub N (t:Int) N (Zd x) (Zd y)=some g∧Zp g∧Zb g=2 ^ t * Nat.gcd x y∧g.length≤33 * M:=fun h=>by
   obtain ⟨N',hN'⟩:∃ N',N=N'+1:=⟨N - 1,by omega⟩
   obtain ⟨x',y',e1,e2,e3,e4,e5,e6,e7,_⟩:=Zv7 hN hM t (n:=N') hx hy h lx ly
   obtain ⟨g,g1,g2,g3,g4⟩:=Zv3 hN hM t (by omega) N' x' y' e2 e3 (by omega) e5 e6
   refine ⟨g,?_,g2,by rw [g3,e4],g4⟩
   rw [← g1,← e1]
   congr 1
  rw [Za4.eq_2,Zmx (Z2 _),Z0,Option.bind_some]
  by_cases hxe:x % 2=0
  ·rw [if_pos (decide_eq_true hxe),Zmx (Z2 _),Z0,Option.bind_some,Zg2]
   by_cases hye:y % 2=0
   ·rw [if_pos (decide_eq_true hye),Zmz (Z2 _) (by omega) (by omega),Option.bind_some,Zmz (Z2 _) (by omega) (by omega),Option.bind_some,Z0,Z0,Zt (by omega)]
    have hb:=Zk5 x
    have h1:=Zk6 hx
    obtain ⟨g,g1,g2,g3,g4⟩:=Zv2 n (x / 2) (y / 2) (t+1) (by omega) (by omega) (by omega) (by omega) (Nat.le_trans (Y3 (Nat.div_le_self _ _)) lx) (Nat.le_trans (Y3 (Nat.div_le_self _ _)) ly)
    rw [show ((t+1:Nat):Int)=(t:Int)+1 by omega] at g1
    refine ⟨g,g1,g2,?_,g4⟩
    rw [g3,Nat.pow_succ,Nat.mul_assoc,← Nat.gcd_mul_left]
    congr 2 <;> omega
   ·rw [if_neg (by rw [decide_eq_false hye];decide)]
    exact last (.inr (by omega))
  ·rw [if_neg (by rw [decide_eq_false hxe];decide),Zg2,if_neg (by decide)]
   exact last (.inl (by omega))
end
theorem Z35 {N M:Nat} {a b:List Int} (ha:Zp a) (hb:Zp b) (hla:a.length≤M) (hlb:b.length≤M) (hN:100 * M+64<N) (hM:M<17179869200):∃ g,Zjr N a b=some g∧Zp g∧Zb g=Nat.gcd (Zb a) (Zb b)∧g.length≤33 * M:=by
 have la:=X0 ha
 have lb:=X0 hb
 rw [Zjr,Uy ha (by omega) (by omega),Option.bind_some,Uy hb (by omega) (by omega),Option.bind_some]
 by_cases h1:Zb a=0
 ·rw [h1,Wz,if_pos (by decide),Nat.gcd_zero_left]
  exact ⟨_,rfl,Z2 _,Z0 _,by omega⟩
 ·have p1:=Tu h1
  rw [if_neg (by rw [decide_eq_false (by omega)];decide)]
  by_cases h2:Zb b=0
  ·rw [h2,Wz,if_pos (by decide),Nat.gcd_zero_right]
   exact ⟨_,rfl,Z2 _,Z0 _,by omega⟩
  ·have p2:=Tu h2
   have bx:=Zin (x:=Zb a) (by omega)
   rw [if_neg (by rw [decide_eq_false (by omega)];decide)]
   obtain ⟨g,g1,g2,g3,g4⟩:=Zv2 hN hM N (Zb a) (Zb b) 0 h1 h2 (by omega) (by omega) (by omega) (by omega)
   exact ⟨g,g1,g2,by rw [g3];simp,g4⟩
def Zlz:Option R2:=
  some [1]
theorem Zza {col:Zf} {w0:World} {r:R2} (c1:Nat) (hm:Zlz=some r):
    Calls Tryz.prog 270 #[] w0 (fun e w'=>∃ (col':Zf) (ra1:Option Addr) (rc2:Nat),e= .returned ((.slice ra1 r.length rc2))∧Zg col w0 col' w'∧Zc (Za.int .u32) 79 c1 col' w' ra1 rc2 r):=by
 refine Xi 0 (m:=2) func270 rfl rfl rfl rfl rfl ?_;rw [Zlz.eq_1] at hm;have aa:=St.start col w0;refine go ?_;refine Wx (col:=(Zi col)) [1] 1 ?_;intro ad ae af ab ac;refine go ?_;cases hm;replace aa:=aa.grow ab;exact ⟨rfl,_,_,1,rfl,aa.fin (cm [(1,c1)]),aa.fo ac⟩
def U7 (N:Nat) (ab:R1):Option R2:=
  (Vs N ab.2).bind fun aa=>if (decide ((aa.length:Int)=0))=true then ((Zlz).bind fun ac=>some ac) else (some aa)
theorem Qt {N ad ae:Nat} {af ag:Option Addr} {col:Zf} {w0:World} {ab:R1} {r:R2} (c1:Nat) (hm:U7 N ab=some r) (aq:Sl (Za.int .u32) col w0 af ad ab.1.2) (ac:Sl (Za.int .u32) col w0 ag ae ab.2):
    Calls Tryz.prog 208 #[(.agg #[.bool ab.1.1,.slice af ab.1.2.length ad,.slice ag ab.2.length ae])] w0 (fun e w'=>∃ (col':Zf) (ra1:Option Addr) (rc2:Nat),e= .returned ((.slice ra1 r.length rc2))∧Zg col w0 col' w'∧Zc (Za.int .u32) 79 c1 col' w' ra1 rc2 r):=by
 refine Xi 2 (m:=12) func208 rfl rfl rfl rfl rfl ?_;rw [U7.eq_1] at hm;have aa:=St.start col w0;refine go ?_;refine Xd (col:=(Zi col)) 1 rfl ?_;intro ar au av ah ai;refine go ?_;refine Xc ai ?_;obtain ⟨aw,aj,hm⟩:=bZ hm;replace ac:=ac.keep (Zj.start col w0);replace aa:=aa.grow ah;refine Zh (Ut 2 aj (ac.ks aa)) ?_;rintro _ ax ⟨ak,ay,az,rfl,al,am⟩;refine ⟨_,rfl,go ?_⟩;replace aa:=aa.grow al;refine Zq hm (fun hb hm=>go ?_) fun hb hm=>go ?_
 ·obtain ⟨a0,an,hm⟩:=bZ hm;refine lc rfl rfl (Zbn call270) (Zza (col:=ak) 3 an:) ?_;rintro _ a1 ⟨a2,a3,a4,rfl,ao,ap⟩;refine ⟨_,rfl,go ?_⟩;cases hm;replace aa:=aa.grow ao;exact ⟨rfl,_,_,_,rfl,aa.fin (cm [(3,c1)]),aa.fo ap⟩
 cases hm;exact ⟨rfl,_,_,_,rfl,aa.fin (cm [(2,c1)]),aa.fo am⟩
def Sr (aa:List Int):Option R4:=
  some (false,aa)
theorem Ziv {ac:Nat} {a0:Option Addr} {col:Zf} {w0:World} {ab:R2} {r:R4} (hm:Sr ab=some r) (h0:Sl (Za.int .u32) col w0 a0 ac ab):
    Calls Tryz.prog 207 #[.slice a0 ab.length ac] w0 (fun e w'=>∃ (col':Zf) (ra1:Option Addr) (rc2:Nat),e= .returned ((.agg #[.bool r.1,.slice ra1 r.2.length rc2]))∧Zg col w0 col' w'∧Sl (Za.int .u32) col' w' ra1 rc2 r.2):=by
 refine X2 (m:=5) func207 rfl rfl rfl ?_;rw [Sr.eq_1] at hm;have aa:=St.start col w0;refine go ?_;refine Xf (col:=(Zi col)) #[.bool false,.slice none (([]:List Int).length) 0] 1 zeroValue45 ?_;intro ai aj ak ad ae;refine go ?_;refine lV (.agg #[.bool false,.slice a0 ab.length ac]) (Yc (l:=[_,_]) (qs:=[(0,1),(1,1)]) underlying45 zeroValue45 ⟨rfl,sizeOf4,rfl,sizeOf43,trivial⟩ rfl)<|Zw ae ?_;intro al af ag ah;refine go ?_;cases hm;replace h0:=h0.keep (Zj.start col w0);replace aa:=(aa.grow ad).kp af ag;exact ⟨rfl,_,ra ah.atN,_,_,_,rfl,aa.fin (cm []),aa.fs (h0.ks aa)⟩
def Zg9 (aa:Bool) (ab:List Int):Option R4:=
  some (aa,ab)
def Th (N:Nat) (ab:Bool) (ac:List Int):Option R4:=
  (Vs N ac).bind fun aa=>if ab=true then (Zg9 (decide (0<(aa.length:Int))) aa) else (Zg9 false aa)
theorem Qs {N ao:Nat} {a1:Option Addr} {col:Zf} {w0:World} {ap:Bool} {ah:R2} {r:R4} (c1:Nat) (hm:Th N ap ah=some r) (h1:Sl (Za.int .u32) col w0 a1 ao ah):
    Calls Tryz.prog 226 #[.bool ap,.slice a1 ah.length ao] w0 (fun e w'=>∃ (col':Zf) (ra1:Option Addr) (rc2:Nat),e= .returned ((.agg #[.bool r.1,.slice ra1 r.2.length rc2]))∧Zg col w0 col' w'∧Zc (Za.int .u32) 79 c1 col' w' ra1 rc2 r.2):=by
 refine X2 (m:=16) func226 rfl rfl rfl ?_;rw [Th.eq_1] at hm;have aa:=St.start col w0;refine go ?_;refine Xf (col:=(Zi col)) #[.bool false,.slice none (([]:List Int).length) 0] 1 zeroValue45 ?_;intro ax a4 a5 ay ac;refine go ?_;obtain ⟨ad,az,hm⟩:=bZ hm;replace h1:=h1.keep (Zj.start col w0);replace aa:=aa.grow ay;refine Zh (Ut 2 az (h1.ks aa)) ?_;rintro _ a6 ⟨a7,aq,ar,rfl,au,ab⟩;refine ⟨_,rfl,?_⟩;refine Tt rfl<|Zk<|Zy ?_;replace ac:=ac.gr au;replace aa:=aa.grow au;refine Wp.cutK [4,1000000] (fun f ae=>∃ af ai aj ak ag,Zg9 ai ag=some r∧St w0 (Zi col) af ae∧Zc (Za.int .u32) 79 3 af ae aj ak ag∧Zn 45 1 af ae ax #[.bool ai,.slice aj ag.length ak]) ?_ ?_
 ·intro f ae hJ;obtain ⟨af,ai,aj,ak,ag,hm,aa,a0,ac⟩:=hJ;rw [Zg9.eq_1] at hm;refine Ys ?_;cases hm;exact ⟨rfl,_,ra ac.atN,_,_,_,rfl,aa.fin (cm [(3,c1)]),aa.fo a0⟩
 refine go ?_;refine Xv hm (fun al hm=>go ?_) fun al hm=>go ?_
 ·refine lV (.bool (decide (0<(ad.length:Int)))) (Xj (congrArg Value.bool al) rfl)<|Wa rfl<|lV (.agg #[.bool (decide (0<(ad.length:Int))),.slice aq ad.length ar]) (Yc (l:=[_,_]) (qs:=[(0,1),(1,1)]) underlying45 zeroValue45 ⟨rfl,sizeOf4,rfl,sizeOf43,trivial⟩ rfl)<|Zw ac ?_;intro a8 av a2 am;refine Zk ?_;replace ab:=ab.kp av;replace ab:=ab.recolSelf 3 (by decide);replace am:=am.recol 2 3 (by decide);replace aa:=aa.kp av a2;replace aa:=aa.recol 2 3 (by decide) (by decide);exact ⟨rfl,_,_,_,_,_,hm,aa,ab,am⟩
 refine lV (.bool false) (Xs (congrArg Value.bool al) rfl)<|Wa rfl<|lV (.agg #[.bool false,.slice aq ad.length ar]) (Yc (l:=[_,_]) (qs:=[(0,1),(1,1)]) underlying45 zeroValue45 ⟨rfl,sizeOf4,rfl,sizeOf43,trivial⟩ rfl)<|Zw ac ?_;intro a9 aw a3 an;refine Zk ?_;replace ab:=ab.kp aw;replace ab:=ab.recolSelf 3 (by decide);replace an:=an.recol 2 3 (by decide);replace aa:=aa.kp aw a3;replace aa:=aa.recol 2 3 (by decide) (by decide);exact ⟨rfl,_,_,_,_,_,hm,aa,ab,an⟩
def Za7 (N:Nat) (aa:R4) (ab:R4):Option R4:=
  (Zck N aa.2 ab.2).bind fun ad=>(Th N (!decide (aa.1=ab.1)) ad).bind fun ac=>some (ac.1,ac.2)
theorem Zit {N ar au:Nat} {av aw:Option Addr} {col:Zf} {w0:World} {ag ah r:R4} (c1:Nat) (hm:Za7 N ag ah=some r) (al:Sl (Za.int .u32) col w0 av ar ag.2) (am:Sl (Za.int .u32) col w0 aw au ah.2):
    Calls Tryz.prog 206 #[(.agg #[.bool ag.1,.slice av ag.2.length ar]),(.agg #[.bool ah.1,.slice aw ah.2.length au])] w0 (fun e w'=>∃ (col':Zf) (ra1:Option Addr) (rc2:Nat),e= .returned ((.agg #[.bool r.1,.slice ra1 r.2.length rc2]))∧Zg col w0 col' w'∧Zc (Za.int .u32) 79 c1 col' w' ra1 rc2 r.2):=by
 refine X2 (m:=16) func206 rfl rfl rfl ?_;rw [Za7.eq_1] at hm;have aa:=St.start col w0;refine go ?_;refine Xd (col:=(Zi col)) 1 rfl ?_;intro a7 a8 az a0 ai;refine Xd (col:=az) 2 rfl ?_;intro a9 ba a1 ax aj;refine Xf (col:=a1) #[.bool false,.slice none (([]:List Int).length) 0] 3 zeroValue45 ?_;intro bb bc ad an ab;refine go ?_;refine Yv (col:=ad) [(0,1),(1,0),(2,1),(3,0),(4,1),(5,1),(6,0),(7,1),(8,0),(9,3),(10,3),(11,2)] (by kernel_rfl) (by kernel_rfl)<|xF ⟨_,_,rfl⟩ ?_;replace ai:=(ai.gr ax).gr an;refine xW (fun _ hC=>((ai.atN).nth (q:=0) rfl).gr (hC.bl ad)) ?_;refine xF ⟨_,_,rfl⟩ ?_;replace aj:=aj.gr an;refine xW (fun _ hC=>((aj.atN).nth (q:=0) rfl).gr (hC.bl ad)) ?_;refine xu rfl rfl (fun _=>Zfa _ _ underlying4 rfl rfl) ?_;refine xF ⟨_,_,rfl⟩ ?_;refine xW (fun _ hC=>((ai.atN).nth (q:=1) rfl).gr (hC.bl ad)) ?_;refine xF ⟨_,_,rfl⟩ ?_;refine xW (fun _ hC=>((aj.atN).nth (q:=1) rfl).gr (hC.bl ad)) ?_;refine xe rfl rfl ?_;intro bd hC0;have hC:=hC0.bl ad;obtain ⟨be,a2,hm⟩:=bZ hm;replace al:=al.keep (Zj.start col w0);replace am:=am.keep (Zj.start col w0);replace aa:=(((aa.grow a0).grow ax).grow an).grow hC;refine Zh (Znr 4 a2 (al.ks aa) (am.ks aa)) ?_;rintro _ bf ⟨af,bg,bh,rfl,ao,ap⟩;refine ⟨_,rfl,?_⟩;refine Zk<|Xg af hC0 ao<|xe rfl rfl ?_;intro a3 hC0;replace ab:=(ab.gr hC).gr ao;have hC:=hC0.bl af;obtain ⟨bi,a4,hm⟩:=bZ hm;replace ap:=ap.gr hC;refine Zh (Qs 5 a4 (ap.toSlF (Zl.int .u32))) ?_;rintro _ bj ⟨a5,bk,bm,rfl,ae,ac⟩;refine ⟨_,rfl,?_⟩;replace ac:=ac.thaw (Zv .u32) ae ((Fz.refl (col:=af)).froz 4) (by decide);replace ae:=ae.thawR (col:=af);generalize Z4 a3.heap.size af a5=ak at *;refine Zk<|Xg ak hC0 ae<|xe rfl rfl ?_;intro bn hC0;replace aa:=((aa.grow ao).grow hC).grow ae;replace ab:=(ab.gr hC).gr ae;have hC:=hC0.bl ak;replace ab:=ab.gr hC;refine Zw ab ?_;intro bo ay a6 aq;refine Zk<|xk ak<|Yn ?_;replace ac:=(ac.gr hC).kp ay;replace aa:=(aa.grow hC).kp ay a6;intro bp hC;replace hC:=hC.bl ak;refine Ys ?_;cases hm;replace ac:=ac.gr hC;replace aq:=aq.gr hC;replace aa:=aa.grow hC;exact ⟨rfl,_,ra aq.atN,_,_,_,rfl,aa.fin (cm [(5,c1)]),aa.fo ac⟩
def Zaa (N:Nat) (aa:R4) (ab:R4):Option R4:=
  if (decide (aa.1=ab.1))=true then ((Zgy N aa.2 ab.2).bind fun ag=>(Th N aa.1 ag).bind fun ac=>some (ac.1,ac.2)) else ((Zcl N aa.2 ab.2).bind fun ad=>if ad.2=true then ((Th N aa.1 ad.1).bind fun ae=>some (ae.1,ae.2)) else ((Zcl N ab.2 aa.2).bind fun ah=>(Th N ab.1 ah.1).bind fun af=>some (af.1,af.2)))
theorem Zld {N a3 a4:Nat} {a5 a6:Option Addr} {col:Zf} {w0:World} {ao ap r:R4} (c1:Nat) (hm:Zaa N ao ap=some r) (ag:Sl (Za.int .u32) col w0 a5 a3 ao.2) (ah:Sl (Za.int .u32) col w0 a6 a4 ap.2):
    Calls Tryz.prog 124 #[(.agg #[.bool ao.1,.slice a5 ao.2.length a3]),(.agg #[.bool ap.1,.slice a6 ap.2.length a4])] w0 (fun e w'=>∃ (col':Zf) (ra1:Option Addr) (rc2:Nat),e= .returned ((.agg #[.bool r.1,.slice ra1 r.2.length rc2]))∧Zg col w0 col' w'∧Zc (Za.int .u32) 79 c1 col' w' ra1 rc2 r.2):=by
 refine X2 (m:=45) func124 rfl rfl rfl ?_;rw [Zaa.eq_1] at hm;have aa:=St.start col w0;refine go ?_;refine Xd (col:=(Zi col)) 1 rfl ?_;intro b3 b4 bf bg ad;refine Xd (col:=bf) 2 rfl ?_;intro b5 b6 bh a7 ac;refine Xf (col:=bh) #[.bool false,.slice none (([]:List Int).length) 0] 3 zeroValue45 ?_;intro b7 b8 ai aw ab;refine go ?_;refine Xh ⟨_,_,rfl⟩ ?_;replace ad:=(ad.gr a7).gr aw;refine lW ((ad.atN).nth (q:=0) rfl)<|Xh ⟨_,_,rfl⟩ ?_;replace ac:=ac.gr aw;refine lW ((ac.atN).nth (q:=0) rfl)<|go ?_;replace ag:=ag.keep (Zj.start col w0);replace ah:=ah.keep (Zj.start col w0);replace aa:=((aa.grow bg).grow a7).grow aw;refine Zq hm (fun hb hm=>?_) fun hb hm=>go ?_
 ·refine Zy<|Yv (col:=ai) [(0,1),(1,0),(2,1),(3,0),(4,1),(5,0),(6,3),(7,3),(8,2)] (by kernel_rfl) (by kernel_rfl)<|xF ⟨_,_,rfl⟩ ?_;refine xW (fun _ hC=>((ad.atN).nth (q:=0) rfl).gr (hC.bl ai)) ?_;refine xF ⟨_,_,rfl⟩ ?_;refine xW (fun _ hC=>((ad.atN).nth (q:=1) rfl).gr (hC.bl ai)) ?_;refine xF ⟨_,_,rfl⟩ ?_;refine xW (fun _ hC=>((ac.atN).nth (q:=1) rfl).gr (hC.bl ai)) ?_;refine xe rfl rfl ?_;intro b9 hC0;have hC:=hC0.bl ai;obtain ⟨ca,bi,hm⟩:=bZ hm;replace aa:=aa.grow hC;refine Zh (Zqr 4 bi (ag.ks aa) (ah.ks aa)) ?_;rintro _ cb ⟨aj,cc,cd,rfl,ax,ay⟩;refine ⟨_,rfl,?_⟩;refine Zk<|Xg aj hC0 ax<|xe rfl rfl ?_;intro bj hC0;replace ab:=(ab.gr hC).gr ax;have hC:=hC0.bl aj;obtain ⟨ce,bk,hm⟩:=bZ hm;replace ay:=ay.gr hC;refine Zh (Qs 5 bk (ay.toSlF (Zl.int .u32))) ?_;rintro _ cf ⟨bm,cg,ch,rfl,af,ae⟩;refine ⟨_,rfl,?_⟩;replace ae:=ae.thaw (Zv .u32) af ((Fz.refl (col:=aj)).froz 4) (by decide);replace af:=af.thawR (col:=aj);generalize Z4 bj.heap.size aj bm=aq at *;refine Zk<|Xg aq hC0 af<|xe rfl rfl ?_;intro ci hC0;replace aa:=((aa.grow ax).grow hC).grow af;replace ab:=(ab.gr hC).gr af;have hC:=hC0.bl aq;replace ab:=ab.gr hC;refine Zw ab ?_;intro cj a8 bn az;refine Zk<|xk aq<|Yn ?_;replace ae:=(ae.gr hC).kp a8;replace aa:=(aa.grow hC).kp a8 bn;intro ck hC;replace hC:=hC.bl aq;refine Ys ?_;cases hm;replace ae:=ae.gr hC;replace az:=az.gr hC;replace aa:=aa.grow hC;exact ⟨rfl,_,ra az.atN,_,_,_,rfl,aa.fin (cm [(5,c1)]),aa.fo ae⟩
 refine Xc ad<|Xc ac ?_;obtain ⟨ar,bo,hm⟩:=bZ hm;refine Zh (Zla 6 bo (ag.ks aa) (ah.ks aa)) ?_;rintro _ bp ⟨a0,a9,ba,rfl,au,bq⟩;refine ⟨_,rfl,?_⟩;refine lM (.tuple #[.slice a9 ar.1.length ba,.bool ar.2])<|lV (.slice a9 ar.1.length ba) (Xl rfl rfl)<|lV (.bool ar.2) (Xl rfl rfl)<|go ?_;replace ad:=ad.gr au;replace ac:=ac.gr au;replace ab:=ab.gr au;replace aa:=aa.grow au;refine Zq hm (fun hb hm=>go ?_) fun hb hm=>go ?_
 ·refine Xc ad<|Wa rfl ?_;obtain ⟨cl,br,hm⟩:=bZ hm;refine Zh (Qs 7 br (bq.toSlF (Zl.int .u32))) ?_;rintro _ cn ⟨bs,co,cp,rfl,ak,al⟩;refine ⟨_,rfl,?_⟩;replace al:=al.thaw (Zv .u32) ak ((Fz.refl (col:=a0)).froz 6) (by decide);replace ak:=ak.thawR (col:=a0);generalize Z4 bp.heap.size a0 bs=cq at *;replace ab:=ab.gr ak;refine Zw ab ?_;intro cr bb bt bu;refine go ?_;cases hm;replace aa:=(aa.grow ak).kp bb bt;replace al:=al.kp bb;exact ⟨rfl,_,ra bu.atN,_,_,_,rfl,aa.fin (cm [(7,c1)]),aa.fo al⟩
 refine Xc ac<|Xc ad ?_;obtain ⟨av,bv,hm⟩:=bZ hm;refine Zh (Zla 8 bv (ah.ks aa) (ag.ks aa)) ?_;rintro _ bw ⟨a1,bc,bd,rfl,a2,bx⟩;refine ⟨_,rfl,?_⟩;refine lM (.tuple #[.slice bc av.1.length bd,.bool av.2])<|lV (.slice bc av.1.length bd) (Xl rfl rfl)<|lV (.bool av.2) (Xl rfl rfl)<|go ?_;refine Xh ⟨_,_,rfl⟩ ?_;replace ac:=ac.gr a2;refine lW ((ac.atN).nth (q:=0) rfl)<|Wa rfl ?_;obtain ⟨cs,bz,hm⟩:=bZ hm;refine Zh (Qs 9 bz (bx.toSlF (Zl.int .u32))) ?_;rintro _ ct ⟨b0,cu,cv,rfl,am,an⟩;refine ⟨_,rfl,?_⟩;replace an:=an.thaw (Zv .u32) am ((Fz.refl (col:=a1)).froz 8) (by decide);replace am:=am.thawR (col:=a1);generalize Z4 bw.heap.size a1 b0=cw at *;replace ab:=(ab.gr a2).gr am;refine Zw ab ?_;intro cx be b1 b2;refine go ?_;cases hm;replace aa:=((aa.grow a2).grow am).kp be b1;replace an:=an.kp be;exact ⟨rfl,_,ra b2.atN,_,_,_,rfl,aa.fin (cm [(9,c1)]),aa.fo an⟩
def Zha (N:Nat) (aa:R4):Option R4:=
  (Th N aa.1 aa.2).bind fun ab=>some (ab.1,ab.2)
theorem Zqv {N ag:Nat} {ah:Option Addr} {col:Zf} {w0:World} {ab r:R4} (c1:Nat) (hm:Zha N ab=some r) (ad:Sl (Za.int .u32) col w0 ah ag ab.2):
    Calls Tryz.prog 268 #[(.agg #[.bool ab.1,.slice ah ab.2.length ag])] w0 (fun e w'=>∃ (col':Zf) (ra1:Option Addr) (rc2:Nat),e= .returned ((.agg #[.bool r.1,.slice ra1 r.2.length rc2]))∧Zg col w0 col' w'∧Zc (Za.int .u32) 79 c1 col' w' ra1 rc2 r.2):=by
 refine X2 (m:=8) func268 rfl rfl rfl ?_;rw [Zha.eq_1] at hm;have aa:=St.start col w0;refine go ?_;refine Xd (col:=(Zi col)) 1 rfl ?_;intro aq ar al am ac;refine Xf (col:=al) #[.bool false,.slice none (([]:List Int).length) 0] 2 zeroValue45 ?_;intro au av aw ai ae;refine go ?_;refine Xh ⟨_,_,rfl⟩ ?_;replace ac:=ac.gr ai;refine lW ((ac.atN).nth (q:=0) rfl)<|Xc ac ?_;obtain ⟨ax,an,hm⟩:=bZ hm;replace ad:=ad.keep (Zj.start col w0);replace aa:=(aa.grow am).grow ai;refine Zh (Qs 3 an (ad.ks aa)) ?_;rintro _ ay ⟨az,a0,a1,rfl,aj,af⟩;refine ⟨_,rfl,?_⟩;replace ae:=ae.gr aj;refine Zw ae ?_;intro a2 ak ao ap;refine go ?_;cases hm;replace aa:=(aa.grow aj).kp ak ao;replace af:=af.kp ak;exact ⟨rfl,_,ra ap.atN,_,_,_,rfl,aa.fin (cm [(3,c1)]),aa.fo af⟩
def Zba (N:Nat) (aa:R4) (ab:List Int):Option R1:=
  (Zjr N aa.2 ab).bind fun ac=>(Zd7 N aa.2 ac).bind fun ae=>(Zd7 N ab ac).bind fun af=>(Zha N (aa.1,ae.1)).bind fun ad=>(Vs N af.1).bind fun ag=>some ((ad.1,ad.2),ag)
theorem Zlg {N a2 a3:Nat} {a4 a1:Option Addr} {col:Zf} {w0:World} {ai:R4} {ap:R2} {r:R1} (c1 c2:Nat) (hm:Zba N ai ap=some r) (an:Sl (Za.int .u32) col w0 a4 a2 ai.2) (h1:Sl (Za.int .u32) col w0 a1 a3 ap):
    Calls Tryz.prog 213 #[(.agg #[.bool ai.1,.slice a4 ai.2.length a2]),.slice a1 ap.length a3] w0 (fun e w'=>∃ (col':Zf) (ra1:Option Addr) (rc2:Nat) (ra4:Option Addr) (rc5:Nat),e= .returned ((.agg #[.bool r.1.1,.slice ra1 r.1.2.length rc2,.slice ra4 r.2.length rc5]))∧Zg col w0 col' w'∧Zc (Za.int .u32) 79 c1 col' w' ra1 rc2 r.1.2∧Zc (Za.int .u32) 79 c2 col' w' ra4 rc5 r.2):=by
 refine X2 (m:=39) func213 rfl rfl rfl ?_;rw [Zba.eq_1] at hm;have aa:=St.start col w0;refine go ?_;refine Xd (col:=(Zi col)) 1 rfl ?_;intro b1 b2 bd be ab;refine Xf (col:=bd) #[.bool false,.slice none (([]:List Int).length) 0,.slice none (([]:List Int).length) 0] 2 zeroValue47 ?_;intro b3 b4 b5 a5 aq;refine go ?_;refine Xh ⟨_,_,rfl⟩ ?_;replace ab:=ab.gr a5;refine lW ((ab.atN).nth (q:=1) rfl)<|Wa rfl ?_;obtain ⟨b6,bf,hm⟩:=bZ hm;replace an:=an.keep (Zj.start col w0);replace h1:=h1.keep (Zj.start col w0);replace aa:=(aa.grow be).grow a5;refine Zh (Zy2 3 bf (an.ks aa) (h1.ks aa)) ?_;rintro _ bg ⟨ar,b7,b8,rfl,au,ao⟩;refine ⟨_,rfl,go ?_⟩;refine Xh ⟨_,_,rfl⟩ ?_;replace ab:=ab.gr au;refine lW ((ab.atN).nth (q:=1) rfl)<|Wa rfl ?_;obtain ⟨ac,bh,hm⟩:=bZ hm;replace aa:=aa.grow au;refine Zh (Znq 4 5 bh ((an.ks aa).froz 3) (ao.toSlF (Zl.int .u32))) ?_;rintro _ bi ⟨bj,av,aw,a6,a7,rfl,ad,aj,b9⟩;refine ⟨_,rfl,?_⟩;replace aj:=aj.thaw (Zv .u32) ad ((Fz.refl (col:=ar)).froz 3) (by decide);replace ad:=ad.thawR (col:=ar);generalize Z4 bg.heap.size ar bj=ax at *;refine lM (.tuple #[.slice av ac.1.length aw,.slice a6 ac.2.1.length a7,.int .i64 ac.2.2])<|lV (.slice av ac.1.length aw) (Xl rfl rfl)<|lV (.slice a6 ac.2.1.length a7) (Xl rfl rfl)<|lV (.int .i64 ac.2.2) (Xl rfl rfl)<|go ?_;obtain ⟨af,bk,hm⟩:=bZ hm;replace ao:=ao.gr ad;replace aa:=aa.grow ad;refine Zh (Znq 6 7 bk ((h1.ks aa).froz 3) (ao.toSlF (Zl.int .u32))) ?_;rintro _ bm ⟨bn,a8,a9,ba,bb,rfl,ae,ak,ca⟩;refine ⟨_,rfl,?_⟩;replace ak:=ak.thaw (Zv .u32) ae ((Fz.refl (col:=ax)).froz 3) (by decide);replace ae:=ae.thawR (col:=ax);generalize Z4 bi.heap.size ax bn=ay at *;refine lM (.tuple #[.slice a8 af.1.length a9,.slice ba af.2.1.length bb,.int .i64 af.2.2])<|lV (.slice a8 af.1.length a9) (Xl rfl rfl)<|lV (.slice ba af.2.1.length bb) (Xl rfl rfl)<|lV (.int .i64 af.2.2) (Xl rfl rfl)<|go ?_;refine Xh ⟨_,_,rfl⟩ ?_;replace ab:=(ab.gr ad).gr ae
 refine lW ((ab.atN).nth (q:=0) rfl)<|Wa rfl<|lV (.agg #[.bool ai.1,.slice av ac.1.length aw]) (Yc (l:=[_,_]) (qs:=[(0,1),(1,1)]) underlying45 zeroValue45 ⟨rfl,sizeOf4,rfl,sizeOf43,trivial⟩ rfl) ?_;obtain ⟨bc,bo,hm⟩:=bZ hm;replace aj:=aj.gr ae;refine Zh (Zqv 8 bo (aj.toSlF (Zl.int .u32))) ?_;rintro _ bp ⟨bq,br,bs,rfl,ag,al⟩;refine ⟨_,rfl,?_⟩;replace al:=al.thaw (Zv .u32) ag ((Fz.refl (col:=ay)).froz 4) (by decide);replace ag:=ag.thawR (col:=ay);generalize Z4 bm.heap.size ay bq=az at *;refine Wa rfl ?_;obtain ⟨bt,bu,hm⟩:=bZ hm;replace ak:=ak.gr ag;refine Zh (Ut 9 bu (ak.toSlF (Zl.int .u32))) ?_;rintro _ cb ⟨bv,bw,bx,rfl,ah,am⟩;refine ⟨_,rfl,?_⟩;replace am:=am.thaw (Zv .u32) ah ((Fz.refl (col:=az)).froz 6) (by decide);replace ah:=ah.thawR (col:=az);generalize Z4 bp.heap.size az bv=cc at *;refine lV (.agg #[.bool bc.1,.slice br bc.2.length bs,.slice bw bt.length bx]) (Yc (l:=[_,_]) (qs:=[(0,2),(2,1)]) underlying47 zeroValue47 ⟨rfl,sizeOf45,rfl,sizeOf43,trivial⟩ rfl) ?_;replace aq:=((((aq.gr au).gr ad).gr ae).gr ag).gr ah;refine Zw aq ?_;intro cd a0 bz b0;refine go ?_;cases hm;replace aa:=(((aa.grow ae).grow ag).grow ah).kp a0 bz;replace al:=(al.gr ah).kp a0;replace am:=am.kp a0;exact ⟨rfl,_,ra b0.atN,_,_,_,_,_,rfl,aa.fin (cm [(8,c1),(9,c2)]),aa.fo al,aa.fo am⟩
def Zcp (N:Nat) (aa:R1) (ab:R1):Option R1:=
  (U7 N ((ab.1.1,ab.1.2),ab.2)).bind fun ai=>(Sr ai).bind fun ad=>(Za7 N (aa.1.1,aa.1.2) (ad.1,ad.2)).bind fun ae=>(U7 N ((aa.1.1,aa.1.2),aa.2)).bind fun aj=>(Sr aj).bind fun af=>(Za7 N (ab.1.1,ab.1.2) (af.1,af.2)).bind fun ag=>(Zaa N (ae.1,ae.2) (ag.1,ag.2)).bind fun ah=>(U7 N ((aa.1.1,aa.1.2),aa.2)).bind fun ak=>(U7 N ((ab.1.1,ab.1.2),ab.2)).bind fun al=>(Zck N ak al).bind fun am=>(Zba N (ah.1,ah.2) am).bind fun ac=>some ((ac.1.1,ac.1.2),ac.2)
theorem Znt {N b3 cd b4 ce:Nat} {b5 cf b6 cg:Option Addr} {col:Zf} {w0:World} {ao ap r:R1} (c1 c2:Nat) (hm:Zcp N ao ap=some r) (bj:Sl (Za.int .u32) col w0 b5 b3 ao.1.2) (b7:Sl (Za.int .u32) col w0 cf cd ao.2) (bk:Sl (Za.int .u32) col w0 b6 b4 ap.1.2) (b8:Sl (Za.int .u32) col w0 cg ce ap.2):
    Calls Tryz.prog 156 #[(.agg #[.bool ao.1.1,.slice b5 ao.1.2.length b3,.slice cf ao.2.length cd]),(.agg #[.bool ap.1.1,.slice b6 ap.1.2.length b4,.slice cg ap.2.length ce])] w0 (fun e w'=>∃ (col':Zf) (ra1:Option Addr) (rc2:Nat) (ra4:Option Addr) (rc5:Nat),e= .returned ((.agg #[.bool r.1.1,.slice ra1 r.1.2.length rc2,.slice ra4 r.2.length rc5]))∧Zg col w0 col' w'∧Zc (Za.int .u32) 79 c1 col' w' ra1 rc2 r.1.2∧Zc (Za.int .u32) 79 c2 col' w' ra4 rc5 r.2):=by
 refine X2 (m:=28) func156 rfl rfl rfl ?_;rw [Zcp.eq_1] at hm;have aa:=St.start col w0;refine go ?_;refine Xd (col:=(Zi col)) 1 rfl ?_;intro cw dt cx cy ac;refine Xd (col:=cx) 2 rfl ?_;intro cz du c0 cr ad;refine Xf (col:=c0) #[.bool false,.slice none (([]:List Int).length) 0,.slice none (([]:List Int).length) 0] 3 zeroValue47 ?_;intro dv b9 bm ch ab;refine go ?_;have ca:=Zz.clip (fun _=>false) bm b9;refine Zbr (col:=bm) [(0,1),(1,0),(2,0),(3,3),(4,3),(5,3),(6,4),(7,2)] (by kernel_rfl) (by kernel_rfl) ⟨fun h=>absurd h (by decide),fun h=>absurd h (by decide),fun h=>absurd h (by decide),fun h=>absurd h (by decide),fun h=>absurd h (by decide),fun h=>absurd h (by decide),fun _=>⟨_,_,_,rfl,Ve zeroValue45⟩,fun h=>absurd h (by decide),trivial⟩<|X5 (v:=(.pointer ((some (⟨cw,0,none⟩:Addr)).map (·.add 0)))) rfl rfl (fun _=>Ux (sz:=2) (off:=0) underlying47 rfl sizeOf45 (by decide) rfl rfl ⟨_,_,rfl⟩) ?_;replace ac:=((ac.gr cr).gr ch).kpp ca;refine Y9 (v:=(.agg #[.bool ao.1.1,.slice b5 ao.1.2.length b3])) rfl rfl (fun _ hC=>Xn isAgg45 sizeOf45 rfl rfl (((ac.atN).part 0 2 _ rfl).gr (hC.bl (Ze b9 bm)))) ?_;replace ad:=(ad.gr ch).kpp ca;refine Y9 (v:=(.agg #[.bool ap.1.1,.slice b6 ap.1.2.length b4,.slice cg ap.2.length ce])) rfl rfl (fun _ hC=>Xn isAgg47 sizeOf47 rfl rfl (ad.atN.gr (hC.bl (Ze b9 bm)))) ?_;refine Ym rfl rfl ?_;intro dw hC0;have hC:=hC0.bl (Ze b9 bm);obtain ⟨dx,c3,hm⟩:=bZ hm;replace bk:=bk.keep (Zj.start col w0);replace b8:=b8.keep (Zj.start col w0);replace aa:=((((aa.grow cy).grow cr).grow ch).kpp ca).grow hC;refine Zh (Qt 4 c3 (bk.ks aa) (b8.ks aa)) ?_;rintro _ bb ⟨bn,dy,dz,rfl,ax,bo⟩;refine ⟨_,rfl,?_⟩;refine Zk ?_;refine ⟨fun w'=>Zg (Ze bb bn) bb (Ze bb bn) w',fun g=>(Ze bb bn) g=497,Zg.refl _ _,Yk,fun _=>⟨fun _ h=>Wm hC0 ax h,fun b hb=>ax.below.block b hb,fun g x1 x2=>Wr ax g x1 (by first | exact x2 | (simp only [Xk,x2];rfl) | (simp only [Xk,Xz,x2];rfl))⟩,?_⟩;have bp:=Zz.clip (fun _=>false) bn bb;refine Ym rfl rfl ?_;intro d0 hC0;replace ab:=(((ab.kpp ca).gr hC).gr ax).kpp bp;replace ac:=((ac.gr hC).gr ax).kpp bp;replace ad:=((ad.gr hC).gr ax).kpp bp;have hC:=hC0.bl (Ze bb bn);replace bo:=(bo.kpp bp).gr hC;replace bo:=(bo).toSlF (Zl.int .u32);replace ac:=ac.gr hC;replace ac:=ac.froz 4 (by decide)
 replace ad:=ad.gr hC;replace ad:=ad.froz 4 (by decide);replace ab:=ab.gr hC;replace ab:=ab.froz 4 (by decide);replace aa:=((aa.grow ax).kpp bp).grow hC;replace aa:=aa.froz 4 (by decide) (by decide);obtain ⟨d1,c4,hm⟩:=bZ hm;refine Zh (Ziv c4 bo) ?_;rintro _ bc ⟨bq,d2,d3,rfl,ay,ci⟩;refine ⟨_,rfl,?_⟩;refine Zk ?_;refine ⟨fun w'=>Zg (Ze bc bq) bc (Ze bc bq) w',fun g=>(Ze bc bq) g=497,Zg.refl _ _,Yk,fun _=>⟨fun _ h=>Wm hC0 ay h,fun b hb=>ay.below.block b hb,fun g x1 x2=>Wr ay g x1 (by first | exact x2 | (simp only [Xk,x2];rfl) | (simp only [Xk,Xz,x2];rfl))⟩,?_⟩;have br:=Zz.clip (fun _=>false) bq bc;refine Ym rfl rfl ?_;intro d4 hC0;have hC:=hC0.bl (Ze bc bq);obtain ⟨d5,c5,hm⟩:=bZ hm;replace bj:=bj.keep (Zj.start col w0);replace aa:=((aa.grow ay).kpp br).grow hC;replace ci:=(ci.kpp br).gr hC;refine Zh (Zit 5 c5 (bj.ks aa) ci) ?_;rintro _ ag ⟨ah,d6,d7,rfl,az,ai⟩;refine ⟨_,rfl,?_⟩;refine Zk ?_;refine ⟨fun w'=>Zg (Ze ag ah) ag (Ze ag ah) w',fun g=>(Ze ag ah) g=497,Zg.refl _ _,Yk,fun _=>⟨fun _ h=>Wm hC0 az h,fun b hb=>az.below.block b hb,fun g x1 x2=>Wr az g x1 (by first | exact x2 | (simp only [Xk,x2];rfl) | (simp only [Xk,Xz,x2];rfl))⟩,?_⟩;have bs:=Zz.clip (fun _=>false) ah ag;refine Qm rfl rfl (Ve zeroValue45) ?_;intro am c6;refine Ym rfl rfl ?_;intro c7 ⟨hC0,hZ0⟩;replace ac:=((((ac.gr ay).kpp br).gr hC).gr az).kpp bs;replace ad:=((((ad.gr ay).kpp br).gr hC).gr az).kpp bs;replace ab:=((((ab.gr ay).kpp br).gr hC).gr az).kpp bs;have hC:=hC0.bl (Ze ag ah);replace b7:=b7.keep (Zj.start col w0);obtain ⟨bt,cj⟩:=S4 (col:=(Ze ag ah)) 6 hZ0 c6;replace cj:Zn 45 6 (Zu am 6 (Ze ag ah)) c7 am #[.bool false,.slice none (([]:List Int).length) 0]:=cj;refine Zw cj ?_;intro an bu c8 al;refine Zk ?_;refine ⟨fun w'=>Zg (Ze an (Zu am 6 (Ze ag ah))) an (Ze an (Zu am 6 (Ze ag ah))) w',fun g=>(Ze an (Zu am 6 (Ze ag ah))) g=497,Zg.refl _ _,Yk,fun h=>absurd h (by decide),?_⟩;have bd:=Zz.clip (fun _=>false) (Zu am 6 (Ze ag ah)) an;refine Zbs ?_;replace aa:=(((((aa.grow az).kpp bs).grow hC).kpp bt).kp bu c8).kpp bd;replace ai:=((((ai.kpp bs).gr hC).kpp bt).kp bu).kpp bd
 replace ac:=(((ac.gr hC).kpp bt).kp bu).kpp bd;replace ad:=(((ad.gr hC).kpp bt).kp bu).kpp bd;replace ab:=(((ab.gr hC).kpp bt).kp bu).kpp bd;intro a0 hC;replace hC:Zg (Ze an (Zu am 6 (Ze ag ah))) an (Ze an (Zu am 6 (Ze ag ah))) a0:=.of_below hC.below;refine Zy ?_;have be:=Zz.clip (fun _=>false) (Ze an (Zu am 6 (Ze ag ah))) a0;refine Zbr (col:=(Ze an (Zu am 6 (Ze ag ah)))) [(0,1),(1,0),(2,0),(3,3),(4,3),(5,3),(6,4),(7,2)] (by kernel_rfl) (by kernel_rfl) ⟨fun h=>absurd h (by decide),fun h=>absurd h (by decide),fun h=>absurd h (by decide),fun h=>absurd h (by decide),fun h=>absurd h (by decide),fun h=>absurd h (by decide),fun _=>⟨_,_,_,rfl,Ve zeroValue45⟩,fun h=>absurd h (by decide),trivial⟩<|X5 (v:=(.pointer ((some (⟨cz,0,none⟩:Addr)).map (·.add 0)))) rfl rfl (fun _=>Ux (sz:=2) (off:=0) underlying47 rfl sizeOf45 (by decide) rfl rfl ⟨_,_,rfl⟩) ?_;replace ad:=(ad.gr hC).kpp be;refine Y9 (v:=(.agg #[.bool ap.1.1,.slice b6 ap.1.2.length b4])) rfl rfl (fun _ hC=>Xn isAgg45 sizeOf45 rfl rfl (((ad.atN).part 0 2 _ rfl).gr (hC.bl (Ze a0 (Ze an (Zu am 6 (Ze ag ah))))))) ?_;replace ac:=(ac.gr hC).kpp be;refine Y9 (v:=(.agg #[.bool ao.1.1,.slice b5 ao.1.2.length b3,.slice cf ao.2.length cd])) rfl rfl (fun _ hC=>Xn isAgg47 sizeOf47 rfl rfl (ac.atN.gr (hC.bl (Ze a0 (Ze an (Zu am 6 (Ze ag ah))))))) ?_;refine Ym rfl rfl ?_;intro c9 hC0;replace al:=((al.kpp bd).gr hC).kpp be;replace ai:=(ai.gr hC).kpp be;replace ab:=(ab.gr hC).kpp be;replace aa:=(aa.grow hC).kpp be;have hC:Zg (Ze a0 (Ze an (Zu am 6 (Ze ag ah)))) a0 (Ze a0 (Ze an (Zu am 6 (Ze ag ah)))) c9:=.of_below hC0.below;obtain ⟨d8,da,hm⟩:=bZ hm;replace aa:=aa.grow hC;refine Zh (Qt 7 da (bj.ks aa) (b7.ks aa)) ?_;rintro _ bf ⟨bv,d9,ea,rfl,ar,bw⟩;refine ⟨_,rfl,?_⟩;refine Zk ?_;refine ⟨fun w'=>Zg (Ze bf bv) bf (Ze bf bv) w',fun g=>(Ze bf bv) g=497,Zg.refl _ _,Yk,fun _=>⟨fun _ h=>Wm hC0 ar h,fun b hb=>ar.below.block b hb,fun g x1 x2=>Wr ar g x1 (by first | exact x2 | (simp only [Xk,x2];rfl) | (simp only [Xk,Xz,x2];rfl))⟩,?_⟩;have a1:=Zz.clip (fun _=>false) bv bf;refine Ym rfl rfl ?_;intro eb hC0;replace ai:=((ai.gr hC).gr ar).kpp a1;replace ac:=((ac.gr hC).gr ar).kpp a1
 replace ad:=((ad.gr hC).gr ar).kpp a1;replace ab:=((ab.gr hC).gr ar).kpp a1;replace al:=((al.gr hC).gr ar).kpp a1;have hC:=hC0.bl (Ze bf bv);replace ai:=ai.gr hC;replace ai:=ai.froz 7 (by decide);replace bw:=(bw.kpp a1).gr hC;replace bw:=(bw).toSlF (Zl.int .u32);replace ac:=ac.gr hC;replace ac:=ac.froz 7 (by decide);replace ad:=ad.gr hC;replace ad:=ad.froz 7 (by decide);replace ab:=ab.gr hC;replace ab:=ab.froz 7 (by decide);replace al:=al.gr hC;replace al:=al.froz 7 (by decide);replace aa:=((aa.grow ar).kpp a1).grow hC;replace aa:=aa.froz 7 (by decide) (by decide);obtain ⟨ec,db,hm⟩:=bZ hm;refine Zh (Ziv db bw) ?_;rintro _ bg ⟨bx,ed,ee,rfl,au,ck⟩;refine ⟨_,rfl,?_⟩;refine Zk ?_;refine ⟨fun w'=>Zg (Ze bg bx) bg (Ze bg bx) w',fun g=>(Ze bg bx) g=497,Zg.refl _ _,Yk,fun _=>⟨fun _ h=>Wm hC0 au h,fun b hb=>au.below.block b hb,fun g x1 x2=>Wr au g x1 (by first | exact x2 | (simp only [Xk,x2];rfl) | (simp only [Xk,Xz,x2];rfl))⟩,?_⟩;have a2:=Zz.clip (fun _=>false) bx bg;refine Ym rfl rfl ?_;intro ef hC0;have hC:=hC0.bl (Ze bg bx);obtain ⟨eg,dc,hm⟩:=bZ hm;replace aa:=((aa.grow au).kpp a2).grow hC;replace ck:=(ck.kpp a2).gr hC;refine Zh (Zit 8 dc (bk.ks aa) ck) ?_;rintro _ ae ⟨af,eh,ei,rfl,av,a3⟩;refine ⟨_,rfl,?_⟩;refine Zk ?_;refine ⟨fun w'=>Zg (Ze ae af) ae (Ze ae af) w',fun g=>(Ze ae af) g=497,Zg.refl _ _,Yk,fun _=>⟨fun _ h=>Wm hC0 av h,fun b hb=>av.below.block b hb,fun g x1 x2=>Wr av g x1 (by first | exact x2 | (simp only [Xk,x2];rfl) | (simp only [Xk,Xz,x2];rfl))⟩,?_⟩;have a4:=Zz.clip (fun _=>false) af ae;refine Qm rfl rfl (Ve zeroValue45) ?_;intro aj dd;refine Ym rfl rfl ?_;intro de ⟨hC0,hZ0⟩;replace ai:=((((ai.gr au).kpp a2).gr hC).gr av).kpp a4;replace ac:=((((ac.gr au).kpp a2).gr hC).gr av).kpp a4;replace ad:=((((ad.gr au).kpp a2).gr hC).gr av).kpp a4;replace ab:=((((ab.gr au).kpp a2).gr hC).gr av).kpp a4;replace al:=((((al.gr au).kpp a2).gr hC).gr av).kpp a4;have hC:=hC0.bl (Ze ae af);obtain ⟨a5,cl⟩:=S4 (col:=(Ze ae af)) 9 hZ0 dd;replace cl:Zn 45 9 (Zu aj 9 (Ze ae af)) de aj #[.bool false,.slice none (([]:List Int).length) 0]:=cl;refine Zw cl ?_;intro ak a6 df cn;refine Zk ?_
 refine ⟨fun w'=>Zg (Ze ak (Zu aj 9 (Ze ae af))) ak (Ze ak (Zu aj 9 (Ze ae af))) w',fun g=>(Ze ak (Zu aj 9 (Ze ae af))) g=497,Zg.refl _ _,Yk,fun h=>absurd h (by decide),?_⟩;have aw:=Zz.clip (fun _=>false) (Zu aj 9 (Ze ae af)) ak;refine Zbs ?_;replace aa:=(((((aa.grow av).kpp a4).grow hC).kpp a5).kp a6 df).kpp aw;replace a3:=((((a3.kpp a4).gr hC).kpp a5).kp a6).kpp aw;replace ai:=(((ai.gr hC).kpp a5).kp a6).kpp aw;replace ac:=(((ac.gr hC).kpp a5).kp a6).kpp aw;replace ad:=(((ad.gr hC).kpp a5).kp a6).kpp aw;replace ab:=(((ab.gr hC).kpp a5).kp a6).kpp aw;replace al:=(((al.gr hC).kpp a5).kp a6).kpp aw;intro cs hC;replace hC:Zg (Ze ak (Zu aj 9 (Ze ae af))) ak (Ze ak (Zu aj 9 (Ze ae af))) cs:=.of_below hC.below;refine Zy<|Yv (col:=(Ze ak (Zu aj 9 (Ze ae af)))) [(0,0),(1,0),(3,0),(5,0),(2,3),(4,3),(6,3),(7,3),(8,3),(9,2)] (by kernel_rfl) (by kernel_rfl) ?_;replace al:=al.gr hC;refine xv rfl rfl (fun _ hC=>Xa isAgg45 sizeOf45 (al.gr (hC.bl (Ze ak (Zu aj 9 (Ze ae af)))))) ?_;replace cn:=(cn.kpp aw).gr hC;refine xv rfl rfl (fun _ hC=>Xa isAgg45 sizeOf45 (cn.gr (hC.bl (Ze ak (Zu aj 9 (Ze ae af)))))) ?_;replace ac:=ac.gr hC;refine xv rfl rfl (fun _ hC=>Xa isAgg47 sizeOf47 (ac.gr (hC.bl (Ze ak (Zu aj 9 (Ze ae af)))))) ?_;replace ad:=ad.gr hC;refine xv rfl rfl (fun _ hC=>Xa isAgg47 sizeOf47 (ad.gr (hC.bl (Ze ak (Zu aj 9 (Ze ae af)))))) ?_;refine xe rfl rfl ?_;intro ct hC0;replace ai:=ai.gr hC;replace a3:=a3.gr hC;replace ab:=ab.gr hC;replace aa:=aa.grow hC;have hC:Zg (Ze ak (Zu aj 9 (Ze ae af))) cs (Ze ak (Zu aj 9 (Ze ae af))) ct:=.of_below hC0.below;obtain ⟨ej,dg,hm⟩:=bZ hm;replace ai:=ai.gr hC;replace a3:=a3.gr hC;refine Zh (Zld 10 dg ((ai.toSlF (Zl.int .u32)).froz 8) ((a3.froz 5 (by decide)).toSlF (Zl.int .u32))) ?_;rintro _ ek ⟨dh,el,em,rfl,bh,aq⟩;refine ⟨_,rfl,?_⟩;replace aq:=aq.thaw (Zv .u32) bh (((Fz.refl (col:=(Ze ak (Zu aj 9 (Ze ae af))))).froz 5).froz 8) (by decide);replace bh:=bh.thawR (col:=(Ze ak (Zu aj 9 (Ze ae af))));generalize Z4 ct.heap.size (Ze ak (Zu aj 9 (Ze ae af))) dh=cu at *;refine Zk<|Xg cu hC0 bh<|xe rfl rfl ?_;intro en hC0
 replace ab:=(ab.gr hC).gr bh;replace aa:=(aa.grow hC).grow bh;have hC:=hC0.bl cu;obtain ⟨eo,di,hm⟩:=bZ hm;replace aa:=aa.grow hC;refine Zh (Qt 11 di (bj.ks aa) (b7.ks aa)) ?_;rintro _ ep ⟨cv,eq,er,rfl,cb,bz⟩;refine ⟨_,rfl,?_⟩;refine Zk<|Xg cv hC0 cb<|xe rfl rfl ?_;intro es hC0;replace aq:=(aq.gr hC).gr cb;replace ab:=(ab.gr hC).gr cb;have hC:=hC0.bl cv;obtain ⟨et,dj,hm⟩:=bZ hm;replace aa:=(aa.grow cb).grow hC;refine Zh (Qt 12 dj (bk.ks aa) (b8.ks aa)) ?_;rintro _ eu ⟨b0,ew,ey,rfl,b1,co⟩;refine ⟨_,rfl,?_⟩;refine Zk<|Xg b0 hC0 b1<|xe rfl rfl ?_;intro dl hC0;replace aq:=(aq.gr hC).gr b1;replace bz:=(bz.gr hC).gr b1;replace ab:=(ab.gr hC).gr b1;have hC:=hC0.bl b0;obtain ⟨ez,dm,hm⟩:=bZ hm;replace bz:=bz.gr hC;replace co:=co.gr hC;refine Zh (Znr 13 dm ((bz.toSlF (Zl.int .u32)).froz 12) ((co.froz 11 (by decide)).toSlF (Zl.int .u32))) ?_;rintro _ e0 ⟨dn,e1,e2,rfl,a7,b2⟩;refine ⟨_,rfl,?_⟩;replace b2:=b2.thaw (Zv .u32) a7 (((Fz.refl (col:=b0)).froz 11).froz 12) (by decide);replace a7:=a7.thawR (col:=b0);generalize Z4 dl.heap.size b0 dn=bi at *;refine Zk<|Xg bi hC0 a7<|xe rfl rfl ?_;intro dp hC0;replace aa:=((aa.grow b1).grow hC).grow a7;replace aq:=(aq.gr hC).gr a7;replace ab:=(ab.gr hC).gr a7;have hC:=hC0.bl bi;obtain ⟨e3,dq,hm⟩:=bZ hm;replace aq:=aq.gr hC;replace b2:=b2.gr hC;refine Zh (Zlg 14 15 dq ((aq.toSlF (Zl.int .u32)).froz 13) ((b2.froz 10 (by decide)).toSlF (Zl.int .u32))) ?_;rintro _ e4 ⟨dr,e5,e6,e7,e8,rfl,a8,a9,ba⟩;refine ⟨_,rfl,?_⟩;replace a9:=a9.thaw (Zv .u32) a8 (((Fz.refl (col:=bi)).froz 10).froz 13) (by decide);replace ba:=ba.thaw (Zv .u32) a8 (((Fz.refl (col:=bi)).froz 10).froz 13) (by decide);replace a8:=a8.thawR (col:=bi);generalize Z4 dp.heap.size bi dr=cc at *;refine Zk<|Xg cc hC0 a8<|xe rfl rfl ?_;intro e9 hC0;replace ab:=(ab.gr hC).gr a8;replace aa:=(aa.grow hC).grow a8;have hC:=hC0.bl cc;replace ab:=ab.gr hC;refine Zw ab ?_
 intro fa cp ds cq;refine Zk<|xk cc<|Yn ?_;replace a9:=(a9.gr hC).kp cp;replace ba:=(ba.gr hC).kp cp;replace aa:=(aa.grow hC).kp cp ds;intro fb hC;replace hC:=hC.bl cc;refine Ys ?_;cases hm;replace a9:=a9.gr hC;replace ba:=ba.gr hC;replace cq:=cq.gr hC;replace aa:=aa.grow hC;exact ⟨rfl,_,ra cq.atN,_,_,_,_,_,rfl,aa.fin (cm [(14,c1),(15,c2)]),aa.fo a9,aa.fo ba⟩
def Zco (N:Nat) (aa:R4):Option R4:=
  (Th N (!aa.1) aa.2).bind fun ab=>some (ab.1,ab.2)
theorem Zns {N ag:Nat} {ah:Option Addr} {col:Zf} {w0:World} {ab r:R4} (c1:Nat) (hm:Zco N ab=some r) (ad:Sl (Za.int .u32) col w0 ah ag ab.2):
    Calls Tryz.prog 224 #[(.agg #[.bool ab.1,.slice ah ab.2.length ag])] w0 (fun e w'=>∃ (col':Zf) (ra1:Option Addr) (rc2:Nat),e= .returned ((.agg #[.bool r.1,.slice ra1 r.2.length rc2]))∧Zg col w0 col' w'∧Zc (Za.int .u32) 79 c1 col' w' ra1 rc2 r.2):=by
 refine X2 (m:=9) func224 rfl rfl rfl ?_;rw [Zco.eq_1] at hm;have aa:=St.start col w0;refine go ?_;refine Xd (col:=(Zi col)) 1 rfl ?_;intro aq ar al am ac;refine Xf (col:=al) #[.bool false,.slice none (([]:List Int).length) 0] 2 zeroValue45 ?_;intro au av aw ai ae;refine go ?_;refine Xh ⟨_,_,rfl⟩ ?_;replace ac:=ac.gr ai;refine lW ((ac.atN).nth (q:=0) rfl)<|go ?_;refine Xc ac ?_;obtain ⟨ax,an,hm⟩:=bZ hm;replace ad:=ad.keep (Zj.start col w0);replace aa:=(aa.grow am).grow ai;refine Zh (Qs 3 an (ad.ks aa)) ?_;rintro _ ay ⟨az,a0,a1,rfl,aj,af⟩;refine ⟨_,rfl,?_⟩;replace ae:=ae.gr aj;refine Zw ae ?_;intro a2 ak ao ap;refine go ?_;cases hm;replace aa:=(aa.grow aj).kp ak ao;replace af:=af.kp ak;exact ⟨rfl,_,ra ap.atN,_,_,_,rfl,aa.fin (cm [(3,c1)]),aa.fo af⟩
def Zeg (N:Nat) (aa:R1):Option R1:=
  (Zco N (aa.1.1,aa.1.2)).bind fun ac=>(U7 N ((aa.1.1,aa.1.2),aa.2)).bind fun ad=>(Zba N (ac.1,ac.2) ad).bind fun ab=>some ((ab.1.1,ab.1.2),ab.2)
theorem Zqy {N an aw:Nat} {ao ax:Option Addr} {col:Zf} {w0:World} {ac r:R1} (c1 c2:Nat) (hm:Zeg N ac=some r) (ai:Sl (Za.int .u32) col w0 ao an ac.1.2) (ap:Sl (Za.int .u32) col w0 ax aw ac.2):
    Calls Tryz.prog 221 #[(.agg #[.bool ac.1.1,.slice ao ac.1.2.length an,.slice ax ac.2.length aw])] w0 (fun e w'=>∃ (col':Zf) (ra1:Option Addr) (rc2:Nat) (ra4:Option Addr) (rc5:Nat),e= .returned ((.agg #[.bool r.1.1,.slice ra1 r.1.2.length rc2,.slice ra4 r.2.length rc5]))∧Zg col w0 col' w'∧Zc (Za.int .u32) 79 c1 col' w' ra1 rc2 r.1.2∧Zc (Za.int .u32) 79 c2 col' w' ra4 rc5 r.2):=by
 refine X2 (m:=9) func221 rfl rfl rfl ?_;rw [Zeg.eq_1] at hm;have aa:=St.start col w0;refine go ?_;refine Xd (col:=(Zi col)) 1 rfl ?_;intro a8 a9 a0 a1 aj;refine Xf (col:=a0) #[.bool false,.slice none (([]:List Int).length) 0,.slice none (([]:List Int).length) 0] 2 zeroValue47 ?_;intro ba bb ak ay ab;refine go ?_;refine Yv (col:=ak) [(0,1),(1,0),(3,0),(2,3),(4,3),(5,3),(6,2)] (by kernel_rfl) (by kernel_rfl)<|xF ⟨_,_,rfl⟩ ?_;replace aj:=aj.gr ay;refine xv (v:=(.agg #[.bool ac.1.1,.slice ao ac.1.2.length an])) rfl rfl (fun _ hC=>Xn isAgg45 sizeOf45 rfl rfl (((aj.atN).part 0 2 _ rfl).gr (hC.bl ak))) ?_;refine xv rfl rfl (fun _ hC=>Xa isAgg47 sizeOf47 (aj.gr (hC.bl ak))) ?_;refine xe rfl rfl ?_;intro bc hC0;have hC:=hC0.bl ak;obtain ⟨bd,a2,hm⟩:=bZ hm;replace ai:=ai.keep (Zj.start col w0);replace aa:=((aa.grow a1).grow ay).grow hC;refine Zh (Zns 3 a2 (ai.ks aa)) ?_;rintro _ be ⟨az,bf,bg,rfl,aq,ah⟩;refine ⟨_,rfl,?_⟩;refine Zk<|Xg az hC0 aq<|xe rfl rfl ?_;intro bh hC0;replace ab:=(ab.gr hC).gr aq;have hC:=hC0.bl az;obtain ⟨bi,a3,hm⟩:=bZ hm;replace ap:=ap.keep (Zj.start col w0);replace aa:=(aa.grow aq).grow hC;refine Zh (Qt 4 a3 (ai.ks aa) (ap.ks aa)) ?_;rintro _ bj ⟨ag,bk,bm,rfl,al,ar⟩;refine ⟨_,rfl,?_⟩;refine Zk<|Xg ag hC0 al<|xe rfl rfl ?_;intro a4 hC0;replace ah:=(ah.gr hC).gr al;replace ab:=(ab.gr hC).gr al;have hC:=hC0.bl ag;obtain ⟨bn,a5,hm⟩:=bZ hm;replace ah:=ah.gr hC;replace ar:=ar.gr hC;refine Zh (Zlg 5 6 a5 ((ah.toSlF (Zl.int .u32)).froz 4) ((ar.froz 3 (by decide)).toSlF (Zl.int .u32))) ?_;rintro _ bo ⟨a6,bp,bq,br,bs,rfl,ad,ae,af⟩;refine ⟨_,rfl,?_⟩;replace ae:=ae.thaw (Zv .u32) ad (((Fz.refl (col:=ag)).froz 3).froz 4) (by decide);replace af:=af.thaw (Zv .u32) ad (((Fz.refl (col:=ag)).froz 3).froz 4) (by decide);replace ad:=ad.thawR (col:=ag);generalize Z4 a4.heap.size ag a6=am at *;refine Zk<|Xg am hC0 ad<|xe rfl rfl ?_;intro bt hC0;replace aa:=((aa.grow al).grow hC).grow ad;replace ab:=(ab.gr hC).gr ad;have hC:=hC0.bl am;replace ab:=ab.gr hC;refine Zw ab ?_;intro bu au a7 av;refine Zk<|xk am<|Yn ?_;replace ae:=(ae.gr hC).kp au;replace af:=(af.gr hC).kp au
 replace aa:=(aa.grow hC).kp au a7;intro bv hC;replace hC:=hC.bl am;refine Ys ?_;cases hm;replace ae:=ae.gr hC;replace af:=af.gr hC;replace av:=av.gr hC;replace aa:=aa.grow hC;exact ⟨rfl,_,ra av.atN,_,_,_,_,_,rfl,aa.fin (cm [(5,c1),(6,c2)]),aa.fo ae,aa.fo af⟩
def Za9 (N:Nat) (aa:R1) (ab:R1):Option R1:=
  (Zeg N ((ab.1.1,ab.1.2),ab.2)).bind fun ac=>(Zcp N ((aa.1.1,aa.1.2),aa.2) ((ac.1.1,ac.1.2),ac.2)).bind fun ad=>some ((ad.1.1,ad.1.2),ad.2)
theorem Zqz {N ay az a0 a1:Nat} {a2 a3 a4 a5:Option Addr} {col:Zf} {w0:World} {af ag r:R1} (c1 c2:Nat) (hm:Za9 N af ag=some r) (ak:Sl (Za.int .u32) col w0 a2 ay af.1.2) (al:Sl (Za.int .u32) col w0 a3 az af.2) (am:Sl (Za.int .u32) col w0 a4 a0 ag.1.2) (an:Sl (Za.int .u32) col w0 a5 a1 ag.2):
    Calls Tryz.prog 120 #[(.agg #[.bool af.1.1,.slice a2 af.1.2.length ay,.slice a3 af.2.length az]),(.agg #[.bool ag.1.1,.slice a4 ag.1.2.length a0,.slice a5 ag.2.length a1])] w0 (fun e w'=>∃ (col':Zf) (ra1:Option Addr) (rc2:Nat) (ra4:Option Addr) (rc5:Nat),e= .returned ((.agg #[.bool r.1.1,.slice ra1 r.1.2.length rc2,.slice ra4 r.2.length rc5]))∧Zg col w0 col' w'∧Zc (Za.int .u32) 79 c1 col' w' ra1 rc2 r.1.2∧Zc (Za.int .u32) 79 c2 col' w' ra4 rc5 r.2):=by
 refine X2 (m:=9) func120 rfl rfl rfl ?_;rw [Za9.eq_1] at hm;have aa:=St.start col w0;refine go ?_;refine Xd (col:=(Zi col)) 1 rfl ?_;intro bf bg a7 a8 ao;refine Xd (col:=a7) 2 rfl ?_;intro bh bi a9 a6 ap;refine Xf (col:=a9) #[.bool false,.slice none (([]:List Int).length) 0,.slice none (([]:List Int).length) 0] 3 zeroValue47 ?_;intro bj bk ai aq ab;refine go ?_;refine Yv (col:=ai) [(0,0),(1,0),(2,3),(3,3),(4,2)] (by kernel_rfl) (by kernel_rfl) ?_;replace ao:=(ao.gr a6).gr aq;refine xv rfl rfl (fun _ hC=>Xa isAgg47 sizeOf47 (ao.gr (hC.bl ai))) ?_;replace ap:=ap.gr aq;refine xv rfl rfl (fun _ hC=>Xa isAgg47 sizeOf47 (ap.gr (hC.bl ai))) ?_;refine xe rfl rfl ?_;intro bm hC0;have hC:=hC0.bl ai;obtain ⟨bn,ba,hm⟩:=bZ hm;replace am:=am.keep (Zj.start col w0);replace an:=an.keep (Zj.start col w0);replace aa:=(((aa.grow a8).grow a6).grow aq).grow hC;refine Zh (Zqy 4 5 ba (am.ks aa) (an.ks aa)) ?_;rintro _ bo ⟨ah,bp,bq,br,bs,rfl,ar,au,av⟩;refine ⟨_,rfl,?_⟩;refine Zk<|Xg ah hC0 ar<|xe rfl rfl ?_;intro bb hC0;replace ab:=(ab.gr hC).gr ar;have hC:=hC0.bl ah;obtain ⟨bt,bc,hm⟩:=bZ hm;replace ak:=ak.keep (Zj.start col w0);replace al:=al.keep (Zj.start col w0);replace aa:=(aa.grow ar).grow hC;replace au:=au.gr hC;replace av:=av.gr hC;refine Zh (Znt 6 7 bc (((ak.ks aa).froz 4).froz 5) (((al.ks aa).froz 4).froz 5) ((au.toSlF (Zl.int .u32)).froz 5) ((av.froz 4 (by decide)).toSlF (Zl.int .u32))) ?_;rintro _ bu ⟨bd,bv,bw,bx,bz,rfl,ac,ad,ae⟩;refine ⟨_,rfl,?_⟩;replace ad:=ad.thaw (Zv .u32) ac (((Fz.refl (col:=ah)).froz 4).froz 5) (by decide);replace ae:=ae.thaw (Zv .u32) ac (((Fz.refl (col:=ah)).froz 4).froz 5) (by decide);replace ac:=ac.thawR (col:=ah);generalize Z4 bb.heap.size ah bd=aj at *;refine Zk<|Xg aj hC0 ac<|xe rfl rfl ?_;intro b0 hC0;replace ab:=(ab.gr hC).gr ac;have hC:=hC0.bl aj;replace ab:=ab.gr hC;refine Zw ab ?_;intro b1 aw be ax;refine Zk<|xk aj<|Yn ?_;replace aa:=((aa.grow ac).grow hC).kp aw be;replace ad:=(ad.gr hC).kp aw;replace ae:=(ae.gr hC).kp aw;intro b2 hC;replace hC:=hC.bl aj;refine Ys ?_;cases hm;replace ad:=ad.gr hC;replace ae:=ae.gr hC;replace ax:=ax.gr hC
 replace aa:=aa.grow hC;exact ⟨rfl,_,ra ax.atN,_,_,_,_,_,rfl,aa.fin (cm [(6,c1),(7,c2)]),aa.fo ad,aa.fo ae⟩
def Zcq (N:Nat) (aa:R1) (ab:R1):Option R1:=
  (Za7 N (aa.1.1,aa.1.2) (ab.1.1,ab.1.2)).bind fun ad=>(U7 N ((aa.1.1,aa.1.2),aa.2)).bind fun ae=>(U7 N ((ab.1.1,ab.1.2),ab.2)).bind fun af=>(Zck N ae af).bind fun ag=>(Zba N (ad.1,ad.2) ag).bind fun ac=>some ((ac.1.1,ac.1.2),ac.2)
theorem Zqx {N ax a8 ay a9:Nat} {az ba a0 bb:Option Addr} {col:Zf} {w0:World} {ad ae r:R1} (c1 c2:Nat) (hm:Zcq N ad ae=some r) (ap:Sl (Za.int .u32) col w0 az ax ad.1.2) (a1:Sl (Za.int .u32) col w0 ba a8 ad.2) (aq:Sl (Za.int .u32) col w0 a0 ay ae.1.2) (a2:Sl (Za.int .u32) col w0 bb a9 ae.2):
    Calls Tryz.prog 200 #[(.agg #[.bool ad.1.1,.slice az ad.1.2.length ax,.slice ba ad.2.length a8]),(.agg #[.bool ae.1.1,.slice a0 ae.1.2.length ay,.slice bb ae.2.length a9])] w0 (fun e w'=>∃ (col':Zf) (ra1:Option Addr) (rc2:Nat) (ra4:Option Addr) (rc5:Nat),e= .returned ((.agg #[.bool r.1.1,.slice ra1 r.1.2.length rc2,.slice ra4 r.2.length rc5]))∧Zg col w0 col' w'∧Zc (Za.int .u32) 79 c1 col' w' ra1 rc2 r.1.2∧Zc (Za.int .u32) 79 c2 col' w' ra4 rc5 r.2):=by
 refine X2 (m:=16) func200 rfl rfl rfl ?_;rw [Zcq.eq_1] at hm;have aa:=St.start col w0;refine go ?_;refine Xd (col:=(Zi col)) 1 rfl ?_;intro bt bu bf bg ar;refine Xd (col:=bf) 2 rfl ?_;intro bv bw bh bc au;refine Xf (col:=bh) #[.bool false,.slice none (([]:List Int).length) 0,.slice none (([]:List Int).length) 0] 3 zeroValue47 ?_;intro bx bz aj a3 ab;refine go ?_;refine Yv (col:=aj) [(0,1),(1,0),(2,1),(3,0),(5,0),(7,0),(4,3),(6,3),(8,3),(9,3),(10,3),(11,2)] (by kernel_rfl) (by kernel_rfl)<|xF ⟨_,_,rfl⟩ ?_;replace ar:=(ar.gr bc).gr a3;refine xv (v:=(.agg #[.bool ad.1.1,.slice az ad.1.2.length ax])) rfl rfl (fun _ hC=>Xn isAgg45 sizeOf45 rfl rfl (((ar.atN).part 0 2 _ rfl).gr (hC.bl aj))) ?_;refine xF ⟨_,_,rfl⟩ ?_;replace au:=au.gr a3;refine xv (v:=(.agg #[.bool ae.1.1,.slice a0 ae.1.2.length ay])) rfl rfl (fun _ hC=>Xn isAgg45 sizeOf45 rfl rfl (((au.atN).part 0 2 _ rfl).gr (hC.bl aj))) ?_;refine xv rfl rfl (fun _ hC=>Xa isAgg47 sizeOf47 (ar.gr (hC.bl aj))) ?_;refine xv rfl rfl (fun _ hC=>Xa isAgg47 sizeOf47 (au.gr (hC.bl aj))) ?_;refine xe rfl rfl ?_;intro b0 hC0;have hC:=hC0.bl aj;obtain ⟨b1,bi,hm⟩:=bZ hm;replace ap:=ap.keep (Zj.start col w0);replace aq:=aq.keep (Zj.start col w0);replace aa:=(((aa.grow bg).grow bc).grow a3).grow hC;refine Zh (Zit 4 bi (ap.ks aa) (aq.ks aa)) ?_;rintro _ b2 ⟨bd,b3,b4,rfl,a4,ac⟩;refine ⟨_,rfl,?_⟩;refine Zk<|Xg bd hC0 a4<|xe rfl rfl ?_;intro b5 hC0;replace ab:=(ab.gr hC).gr a4;have hC:=hC0.bl bd;obtain ⟨b6,bj,hm⟩:=bZ hm;replace a1:=a1.keep (Zj.start col w0);replace aa:=(aa.grow a4).grow hC;refine Zh (Qt 5 bj (ap.ks aa) (a1.ks aa)) ?_;rintro _ b7 ⟨be,b8,b9,rfl,av,al⟩;refine ⟨_,rfl,?_⟩;refine Zk<|Xg be hC0 av<|xe rfl rfl ?_;intro ca hC0;replace ac:=(ac.gr hC).gr av;replace ab:=(ab.gr hC).gr av;have hC:=hC0.bl be;obtain ⟨cb,bk,hm⟩:=bZ hm;replace a2:=a2.keep (Zj.start col w0);replace aa:=(aa.grow av).grow hC;refine Zh (Qt 6 bk (aq.ks aa) (a2.ks aa)) ?_;rintro _ cc ⟨am,cd,ce,rfl,an,a5⟩;refine ⟨_,rfl,?_⟩;refine Zk<|Xg am hC0 an<|xe rfl rfl ?_;intro bm hC0;replace ac:=(ac.gr hC).gr an;replace al:=(al.gr hC).gr an
 replace ab:=(ab.gr hC).gr an;have hC:=hC0.bl am;obtain ⟨cf,bn,hm⟩:=bZ hm;replace al:=al.gr hC;replace a5:=a5.gr hC;refine Zh (Znr 7 bn ((al.toSlF (Zl.int .u32)).froz 6) ((a5.froz 5 (by decide)).toSlF (Zl.int .u32))) ?_;rintro _ cg ⟨bo,ch,ci,rfl,af,ao⟩;refine ⟨_,rfl,?_⟩;replace ao:=ao.thaw (Zv .u32) af (((Fz.refl (col:=am)).froz 5).froz 6) (by decide);replace af:=af.thawR (col:=am);generalize Z4 bm.heap.size am bo=ak at *;refine Zk<|Xg ak hC0 af<|xe rfl rfl ?_;intro bp hC0;replace aa:=((aa.grow an).grow hC).grow af;replace ac:=(ac.gr hC).gr af;replace ab:=(ab.gr hC).gr af;have hC:=hC0.bl ak;obtain ⟨cj,bq,hm⟩:=bZ hm;replace ac:=ac.gr hC;replace ao:=ao.gr hC;refine Zh (Zlg 8 9 bq ((ac.toSlF (Zl.int .u32)).froz 7) ((ao.froz 4 (by decide)).toSlF (Zl.int .u32))) ?_;rintro _ ck ⟨br,cl,cn,co,cp,rfl,ag,ah,ai⟩;refine ⟨_,rfl,?_⟩;replace ah:=ah.thaw (Zv .u32) ag (((Fz.refl (col:=ak)).froz 4).froz 7) (by decide);replace ai:=ai.thaw (Zv .u32) ag (((Fz.refl (col:=ak)).froz 4).froz 7) (by decide);replace ag:=ag.thawR (col:=ak);generalize Z4 bp.heap.size ak br=aw at *;refine Zk<|Xg aw hC0 ag<|xe rfl rfl ?_;intro cq hC0;replace ab:=(ab.gr hC).gr ag;replace aa:=(aa.grow hC).grow ag;have hC:=hC0.bl aw;replace ab:=ab.gr hC;refine Zw ab ?_;intro cr a6 bs a7;refine Zk<|xk aw<|Yn ?_;replace ah:=(ah.gr hC).kp a6;replace ai:=(ai.gr hC).kp a6;replace aa:=(aa.grow hC).kp a6 bs;intro cs hC;replace hC:=hC.bl aw;refine Ys ?_;cases hm;replace ah:=ah.gr hC;replace ai:=ai.gr hC;replace a7:=a7.gr hC;replace aa:=aa.grow hC;exact ⟨rfl,_,ra a7.atN,_,_,_,_,_,rfl,aa.fin (cm [(8,c1),(9,c2)]),aa.fo ah,aa.fo ai⟩
def Zef (N:Nat) (aa:R4) (ab:R4):Option R4:=
  (Zco N (ab.1,ab.2)).bind fun ac=>(Zaa N (aa.1,aa.2) (ac.1,ac.2)).bind fun ad=>some (ad.1,ad.2)
theorem Zqw {N ar au:Nat} {av aw:Option Addr} {col:Zf} {w0:World} {af ag r:R4} (c1:Nat) (hm:Zef N af ag=some r) (aj:Sl (Za.int .u32) col w0 av ar af.2) (ak:Sl (Za.int .u32) col w0 aw au ag.2):
    Calls Tryz.prog 269 #[(.agg #[.bool af.1,.slice av af.2.length ar]),(.agg #[.bool ag.1,.slice aw ag.2.length au])] w0 (fun e w'=>∃ (col':Zf) (ra1:Option Addr) (rc2:Nat),e= .returned ((.agg #[.bool r.1,.slice ra1 r.2.length rc2]))∧Zg col w0 col' w'∧Zc (Za.int .u32) 79 c1 col' w' ra1 rc2 r.2):=by
 refine X2 (m:=9) func269 rfl rfl rfl ?_;rw [Zef.eq_1] at hm;have aa:=St.start col w0;refine go ?_;refine Xd (col:=(Zi col)) 1 rfl ?_;intro a7 a8 az a0 al;refine Xd (col:=az) 2 rfl ?_;intro a9 ba a1 ax am;refine Xf (col:=a1) #[.bool false,.slice none (([]:List Int).length) 0] 3 zeroValue45 ?_;intro bb bc ah an ab;refine go ?_;refine Yv (col:=ah) [(0,0),(1,0),(2,3),(3,3),(4,2)] (by kernel_rfl) (by kernel_rfl) ?_;replace al:=(al.gr ax).gr an;refine xv rfl rfl (fun _ hC=>Xa isAgg45 sizeOf45 (al.gr (hC.bl ah))) ?_;replace am:=am.gr an;refine xv rfl rfl (fun _ hC=>Xa isAgg45 sizeOf45 (am.gr (hC.bl ah))) ?_;refine xe rfl rfl ?_;intro bd hC0;have hC:=hC0.bl ah;obtain ⟨be,a2,hm⟩:=bZ hm;replace ak:=ak.keep (Zj.start col w0);replace aa:=(((aa.grow a0).grow ax).grow an).grow hC;refine Zh (Zns 4 a2 (ak.ks aa)) ?_;rintro _ bf ⟨ae,bg,bh,rfl,ao,ap⟩;refine ⟨_,rfl,?_⟩;refine Zk<|Xg ae hC0 ao<|xe rfl rfl ?_;intro a3 hC0;replace ab:=(ab.gr hC).gr ao;have hC:=hC0.bl ae;obtain ⟨bi,a4,hm⟩:=bZ hm;replace aj:=aj.keep (Zj.start col w0);replace aa:=(aa.grow ao).grow hC;replace ap:=ap.gr hC;refine Zh (Zld 5 a4 ((aj.ks aa).froz 4) (ap.toSlF (Zl.int .u32))) ?_;rintro _ bj ⟨a5,bk,bm,rfl,ad,ac⟩;refine ⟨_,rfl,?_⟩;replace ac:=ac.thaw (Zv .u32) ad ((Fz.refl (col:=ae)).froz 4) (by decide);replace ad:=ad.thawR (col:=ae);generalize Z4 a3.heap.size ae a5=ai at *;refine Zk<|Xg ai hC0 ad<|xe rfl rfl ?_;intro bn hC0;replace ab:=(ab.gr hC).gr ad;have hC:=hC0.bl ai;replace ab:=ab.gr hC;refine Zw ab ?_;intro bo ay a6 aq;refine Zk<|xk ai<|Yn ?_;replace aa:=((aa.grow ad).grow hC).kp ay a6;replace ac:=(ac.gr hC).kp ay;intro bp hC;replace hC:=hC.bl ai;refine Ys ?_;cases hm;replace ac:=ac.gr hC;replace aq:=aq.gr hC;replace aa:=aa.grow hC;exact ⟨rfl,_,ra aq.atN,_,_,_,rfl,aa.fin (cm [(5,c1)]),aa.fo ac⟩
def Tz (N:Nat) (aa:R4):Option Int:=
  (Zha N (aa.1,aa.2)).bind fun ab=>if (decide ((ab.2.length:Int)=0))=true then (some 0) else (if ab.1=true then (some (-1)) else (some 1))
theorem Zfl {N ad:Nat} {ae:Option Addr} {col:Zf} {w0:World} {ab:R4} {r:Int} (hm:Tz N ab=some r) (ac:Sl (Za.int .u32) col w0 ae ad ab.2):
    Calls Tryz.prog 204 #[(.agg #[.bool ab.1,.slice ae ab.2.length ad])] w0 (fun e w'=>e= .returned ((.int .i64 r))∧Below w0.heap.size w0 w'):=by
 refine Xi 2 (m:=12) func204 rfl rfl rfl rfl rfl ?_;rw [Tz.eq_1] at hm;have aa:=St.start col w0;refine go ?_;refine Xd (col:=(Zi col)) 1 rfl ?_;intro ap aq ar ag ah;refine go ?_;refine lV _ (Xa isAgg45 sizeOf45 ah) ?_;obtain ⟨au,ai,hm⟩:=bZ hm;replace ac:=ac.keep (Zj.start col w0);replace aa:=aa.grow ag;refine Zh (Zqv 2 ai (ac.ks aa)) ?_;rintro _ av ⟨aj,aw,ax,rfl,ak,ay⟩;refine ⟨_,rfl,?_⟩;refine Xf (col:=aj) #[.bool false,.slice none (([]:List Int).length) 0] 3 zeroValue45 ?_;intro az a0 a1 al am;refine Zw am ?_;intro a2 an ao af;refine go ?_;refine Xc af ?_;refine go ?_;replace aa:=((aa.grow ak).grow al).kp an ao;refine Zq hm (fun hb hm=>go ?_) fun hb hm=>go ?_
 ·cases hm;exact ⟨rfl,rfl,aa.below⟩
 refine Xc af<|Zk ?_;refine Zq hm (fun hb hm=>go ?_) fun hb hm=>go ?_
 ·cases hm;exact ⟨rfl,rfl,aa.below⟩
 cases hm;exact ⟨rfl,rfl,aa.below⟩
def Zju (N:Nat) (aa:R4) (ab:R4):Option Int:=
  (Zef N (aa.1,aa.2) (ab.1,ab.2)).bind fun ac=>(Tz N (ac.1,ac.2)).bind fun ad=>some ad
theorem Zy3 {N ah ai:Nat} {aj ak:Option Addr} {col:Zf} {w0:World} {ab ac:R4} {r:Int} (hm:Zju N ab ac=some r) (ad:Sl (Za.int .u32) col w0 aj ah ab.2) (ae:Sl (Za.int .u32) col w0 ak ai ac.2):
    Calls Tryz.prog 205 #[(.agg #[.bool ab.1,.slice aj ab.2.length ah]),(.agg #[.bool ac.1,.slice ak ac.2.length ai])] w0 (fun e w'=>e= .returned ((.int .i64 r))∧Below w0.heap.size w0 w'):=by
 refine Xi 4 (m:=9) func205 rfl rfl rfl rfl rfl ?_;rw [Zju.eq_1] at hm;have aa:=St.start col w0;refine go ?_;refine Xd (col:=(Zi col)) 1 rfl ?_;intro ay az an ao af;refine Xd (col:=an) 2 rfl ?_;intro a0 a1 a2 al ap;refine go ?_;replace af:=af.gr al;refine lV _ (Xa isAgg45 sizeOf45 af)<|lV _ (Xa isAgg45 sizeOf45 ap) ?_;obtain ⟨a3,aq,hm⟩:=bZ hm;replace ad:=ad.keep (Zj.start col w0);replace ae:=ae.keep (Zj.start col w0);replace aa:=(aa.grow ao).grow al;refine Zh (Zqw 3 aq (ad.ks aa) (ae.ks aa)) ?_;rintro _ ar ⟨am,a4,a5,rfl,au,av⟩;refine ⟨_,rfl,?_⟩;obtain ⟨a6,aw,hm⟩:=bZ hm;refine Zh (Zfl aw (av.toSlF (Zl.int .u32))) ?_;rintro _ ax ⟨rfl,ag⟩;refine ⟨_,rfl,?_⟩;replace ag:Zg am ar am ax:=.of_below ag;refine go ?_;cases hm;replace aa:=(aa.grow au).grow ag;exact ⟨rfl,rfl,aa.below⟩
def Zab (N:Nat) (aa:R1) (ab:R1):Option Int:=
  (U7 N ((ab.1.1,ab.1.2),ab.2)).bind fun ag=>(Sr ag).bind fun ac=>(Za7 N (aa.1.1,aa.1.2) (ac.1,ac.2)).bind fun ad=>(U7 N ((aa.1.1,aa.1.2),aa.2)).bind fun ah=>(Sr ah).bind fun ae=>(Za7 N (ab.1.1,ab.1.2) (ae.1,ae.2)).bind fun af=>(Zju N (ad.1,ad.2) (af.1,af.2)).bind fun ai=>some ai
theorem Zle {N am a0 an a1:Nat} {ao a2 ap a3:Option Addr} {col:Zf} {w0:World} {ac ad:R1} {r:Int} (hm:Zab N ac ad=some r) (ai:Sl (Za.int .u32) col w0 ao am ac.1.2) (aq:Sl (Za.int .u32) col w0 a2 a0 ac.2) (aj:Sl (Za.int .u32) col w0 ap an ad.1.2) (ar:Sl (Za.int .u32) col w0 a3 a1 ad.2):
    Calls Tryz.prog 94 #[(.agg #[.bool ac.1.1,.slice ao ac.1.2.length am,.slice a2 ac.2.length a0]),(.agg #[.bool ad.1.1,.slice ap ad.1.2.length an,.slice a3 ad.2.length a1])] w0 (fun e w'=>e= .returned ((.int .i64 r))∧Below w0.heap.size w0 w'):=by
 refine Xi 4 (m:=18) func94 rfl rfl rfl rfl rfl ?_;rw [Zab.eq_1] at hm;have aa:=St.start col w0;refine go ?_;refine Xd (col:=(Zi col)) 1 rfl ?_;intro bq br be bf ak;refine Xd (col:=be) 2 rfl ?_;intro bs bt ae a4 a5;refine go ?_;refine Yv (col:=ae) [(0,1),(1,0),(2,0),(6,1),(7,0),(8,0),(3,3),(4,3),(5,3),(9,3),(10,3),(11,3),(12,3),(13,1)] (by kernel_rfl) (by kernel_rfl)<|xF ⟨_,_,rfl⟩ ?_;replace ak:=ak.gr a4;refine xv (v:=(.agg #[.bool ac.1.1,.slice ao ac.1.2.length am])) rfl rfl (fun _ hC=>Xn isAgg45 sizeOf45 rfl rfl (((ak.atN).part 0 2 _ rfl).gr (hC.bl ae))) ?_;refine xv rfl rfl (fun _ hC=>Xa isAgg47 sizeOf47 (a5.gr (hC.bl ae))) ?_;refine xF ⟨_,_,rfl⟩ ?_;refine xv (v:=(.agg #[.bool ad.1.1,.slice ap ad.1.2.length an])) rfl rfl (fun _ hC=>Xn isAgg45 sizeOf45 rfl rfl (((a5.atN).part 0 2 _ rfl).gr (hC.bl ae))) ?_;refine xv rfl rfl (fun _ hC=>Xa isAgg47 sizeOf47 (ak.gr (hC.bl ae))) ?_;refine xe rfl rfl ?_;intro bu hC0;have hC:=hC0.bl ae;obtain ⟨bv,bg,hm⟩:=bZ hm;replace aj:=aj.keep (Zj.start col w0);replace ar:=ar.keep (Zj.start col w0);replace aa:=((aa.grow bf).grow a4).grow hC;refine Zh (Qt 3 bg (aj.ks aa) (ar.ks aa)) ?_;rintro _ bw ⟨a6,bx,bz,rfl,a7,ag⟩;refine ⟨_,rfl,?_⟩;refine Zk<|Xg a6 hC0 a7<|xe rfl rfl ?_;intro b0 hC0;have hC:=hC0.bl a6;replace ag:=ag.gr hC;replace ag:=(ag).toSlF (Zl.int .u32);replace aa:=(aa.grow a7).grow hC;replace aa:=aa.froz 3 (by decide) (by decide);obtain ⟨b1,bh,hm⟩:=bZ hm;refine Zh (Ziv bh ag) ?_;rintro _ b2 ⟨a8,b3,b4,rfl,a9,au⟩;refine ⟨_,rfl,?_⟩;refine Zk<|Xg a8 hC0 a9<|xe rfl rfl ?_;intro b5 hC0;have hC:=hC0.bl a8;obtain ⟨b6,bi,hm⟩:=bZ hm;replace ai:=ai.keep (Zj.start col w0);replace aa:=(aa.grow a9).grow hC;replace au:=au.gr hC;refine Zh (Zit 4 bi (ai.ks aa) au) ?_;rintro _ b7 ⟨ba,b8,b9,rfl,bb,ab⟩;refine ⟨_,rfl,?_⟩;refine Zk<|Xg ba hC0 bb<|xe rfl rfl ?_;intro ca hC0;have hC:=hC0.bl ba;obtain ⟨cb,bj,hm⟩:=bZ hm;replace aq:=aq.keep (Zj.start col w0);replace aa:=(aa.grow bb).grow hC;refine Zh (Qt 5 bj (ai.ks aa) (aq.ks aa)) ?_;rintro _ cc ⟨bc,cd,ce,rfl,av,ah⟩;refine ⟨_,rfl,?_⟩
 refine Zk<|Xg bc hC0 av<|xe rfl rfl ?_;intro cf hC0;replace ab:=(ab.gr hC).gr av;have hC:=hC0.bl bc;replace ab:=ab.gr hC;replace ab:=ab.froz 5 (by decide);replace ah:=ah.gr hC;replace ah:=(ah).toSlF (Zl.int .u32);replace aa:=(aa.grow av).grow hC;replace aa:=aa.froz 5 (by decide) (by decide);obtain ⟨cg,bk,hm⟩:=bZ hm;refine Zh (Ziv bk ah) ?_;rintro _ ch ⟨bd,ci,cj,rfl,aw,ax⟩;refine ⟨_,rfl,?_⟩;refine Zk<|Xg bd hC0 aw<|xe rfl rfl ?_;intro ck hC0;have hC:=hC0.bl bd;obtain ⟨cl,bm,hm⟩:=bZ hm;replace aa:=(aa.grow aw).grow hC;replace ax:=ax.gr hC;refine Zh (Zit 6 bm (aj.ks aa) ax) ?_;rintro _ cn ⟨af,co,cp,rfl,ay,az⟩;refine ⟨_,rfl,?_⟩;refine Zk<|Xg af hC0 ay<|xe rfl rfl ?_;intro bn hC0;replace ab:=((ab.gr aw).gr hC).gr ay;have hC:=hC0.bl af;obtain ⟨cq,bo,hm⟩:=bZ hm;replace ab:=ab.gr hC;replace az:=az.gr hC;refine Zh (Zy3 bo ((ab.toSlF (Zl.int .u32)).froz 6) ((az.froz 4 (by decide)).toSlF (Zl.int .u32))) ?_;rintro _ bp ⟨rfl,al⟩;refine ⟨_,rfl,?_⟩;replace al:Zg af bn af bp:=.of_below al;refine Zk<|Xg af hC0 al<|xu rfl rfl (fun _=>Zia rfl) ?_;refine Yn ?_;replace aa:=((aa.grow ay).grow hC).grow al;intro cr hC;replace hC:=hC.bl af;refine Ys ?_;cases hm;replace aa:=aa.grow hC;exact ⟨rfl,rfl,aa.below⟩
def Sq (N:Nat) (aa:Int):Option R4:=
  if (decide (0≤aa))=true then ((Zg5 N (u64.wrap aa)).bind fun ad=>(Th N false ad).bind fun ab=>some (ab.1,ab.2)) else ((Zg5 N (u64.wrap (i64.wrap (-(i64.wrap (aa+1)))))).bind fun ae=>(Zgy N ae [1]).bind fun af=>(Th N true af).bind fun ac=>some (ac.1,ac.2))
theorem Ziu {N:Nat} {col:Zf} {w0:World} {an:Int} {r:R4} (c1:Nat) (hm:Sq N an=some r):
    Calls Tryz.prog 125 #[.int .i64 an] w0 (fun e w'=>∃ (col':Zf) (ra1:Option Addr) (rc2:Nat),e= .returned ((.agg #[.bool r.1,.slice ra1 r.2.length rc2]))∧Zg col w0 col' w'∧Zc (Za.int .u32) 79 c1 col' w' ra1 rc2 r.2):=by
 refine X2 (m:=17) func125 rfl rfl rfl ?_;rw [Sq.eq_1] at hm;have aa:=St.start col w0;refine go ?_;refine Xf (col:=(Zi col)) #[.bool false,.slice none (([]:List Int).length) 0] 1 zeroValue45 ?_;intro be bf ao av ab;refine go ?_;replace aa:=aa.grow av;refine Zq hm (fun hb hm=>go ?_) fun hb hm=>go ?_
 ·obtain ⟨bg,aw,hm⟩:=bZ hm;refine Zh (Zqt (col:=ao) 2 aw) ?_;rintro _ ax ⟨ah,bh,bi,rfl,ap,ay⟩;refine ⟨_,rfl,?_⟩;obtain ⟨bj,az,hm⟩:=bZ hm;refine Zh (Qs 3 az (ay.toSlF (Zl.int .u32))) ?_;rintro _ bk ⟨a0,bm,bn,rfl,ac,ad⟩;refine ⟨_,rfl,?_⟩;replace ad:=ad.thaw (Zv .u32) ac ((Fz.refl (col:=ah)).froz 2) (by decide);replace ac:=ac.thawR (col:=ah);generalize Z4 ax.heap.size ah a0=bo at *;replace ab:=(ab.gr ap).gr ac;refine Zw ab ?_;intro bp aq a1 a2;refine go ?_;cases hm;replace aa:=((aa.grow ap).grow ac).kp aq a1;replace ad:=ad.kp aq;exact ⟨rfl,_,ra a2.atN,_,_,_,rfl,aa.fin (cm [(3,c1)]),aa.fo ad⟩
 obtain ⟨bq,a3,hm⟩:=bZ hm;refine Zh (Zqt (col:=ao) 4 a3) ?_;rintro _ br ⟨a4,bs,bt,rfl,ar,ai⟩;refine ⟨_,rfl,?_⟩;refine Wx (col:=a4) [1] 5 ?_;intro bu a5 aj ak a6;obtain ⟨bv,a7,hm⟩:=bZ hm;replace ai:=ai.gr ak;refine Zh (Zqr 6 a7 ((ai.toSlF (Zl.int .u32)).froz 5) ((a6.froz 4 (by decide)).toSlF (Zl.int .u32))) ?_;rintro _ a8 ⟨a9,bw,bx,rfl,ae,al⟩;refine ⟨_,rfl,?_⟩;replace al:=al.thaw (Zv .u32) ae (((Fz.refl (col:=aj)).froz 4).froz 5) (by decide);replace ae:=ae.thawR (col:=aj);generalize Z4 a5.heap.size aj a9=am at *;obtain ⟨bz,ba,hm⟩:=bZ hm;refine Zh (Qs 7 ba (al.toSlF (Zl.int .u32))) ?_;rintro _ b0 ⟨bb,b1,b2,rfl,af,ag⟩;refine ⟨_,rfl,?_⟩;replace ag:=ag.thaw (Zv .u32) af ((Fz.refl (col:=am)).froz 6) (by decide);replace af:=af.thawR (col:=am);generalize Z4 a8.heap.size am bb=b3 at *;replace ab:=(((ab.gr ar).gr ak).gr ae).gr af;refine Zw ab ?_;intro b4 au bc bd;refine go ?_;cases hm;replace aa:=((((aa.grow ar).grow ak).grow ae).grow af).kp au bc;replace ag:=ag.kp au;exact ⟨rfl,_,ra bd.atN,_,_,_,rfl,aa.fin (cm [(7,c1)]),aa.fo ag⟩
def Za8 (N:Nat) (ac:R4) (aa:R4):Option (R1×Int):=
  (Tz N (aa.1,aa.2)).bind fun ad=>if (decide (ad=0))=true then (some (((false,([]:List Int)),([]:List Int)),11)) else ((Zba N (!decide (ac.1=aa.1),ac.2) aa.2).bind fun ab=>some (((ab.1.1,ab.1.2),ab.2),0))
theorem Znu {N ai ap:Nat} {aj aq:Option Addr} {col:Zf} {w0:World} {ac af:R4} {r:(R1×Int)} (c1 c2:Nat) (hm:Za8 N ac af=some r) (ak:Sl (Za.int .u32) col w0 aj ai ac.2) (ag:Sl (Za.int .u32) col w0 aq ap af.2):
    Calls Tryz.prog 222 #[(.agg #[.bool ac.1,.slice aj ac.2.length ai]),(.agg #[.bool af.1,.slice aq af.2.length ap])] w0 (fun e w'=>∃ (col':Zf) (ra1:Option Addr) (rc2:Nat) (ra4:Option Addr) (rc5:Nat),e= .returned (.tuple #[(.agg #[.bool r.1.1.1,.slice ra1 r.1.1.2.length rc2,.slice ra4 r.1.2.length rc5]),.int .i64 r.2])∧Zg col w0 col' w'∧Zc (Za.int .u32) 79 c1 col' w' ra1 rc2 r.1.1.2∧Zc (Za.int .u32) 79 c2 col' w' ra4 rc5 r.1.2):=by
 refine X2 (m:=21) func222 rfl rfl rfl ?_;rw [Za8.eq_1] at hm;have aa:=St.start col w0;refine go ?_;refine Xd (col:=(Zi col)) 1 rfl ?_;intro a8 a9 aw ax ah;refine Xd (col:=aw) 2 rfl ?_;intro ba bb ay ar ab;refine Xf (col:=ay) #[.bool false,.slice none (([]:List Int).length) 0,.slice none (([]:List Int).length) 0] 3 zeroValue47 ?_;intro bc az au al ad;refine go ?_;replace ab:=ab.gr al;refine lV _ (Xa isAgg45 sizeOf45 ab) ?_;obtain ⟨bd,a0,hm⟩:=bZ hm;replace ag:=ag.keep (Zj.start col w0);replace aa:=((aa.grow ax).grow ar).grow al;refine Zh (Zfl a0 (ag.ks aa)) ?_;rintro _ a1 ⟨rfl,ae⟩;refine ⟨_,rfl,?_⟩;replace ae:Zg au az au a1:=.of_below ae;refine go ?_;replace ak:=ak.keep (Zj.start col w0);replace ah:=((ah.gr ar).gr al).gr ae;replace ab:=ab.gr ae;replace ad:=ad.gr ae;replace aa:=aa.grow ae;refine Zq hm (fun hb hm=>go ?_) fun hb hm=>go ?_
 ·refine lV (.agg #[.bool false,.slice none (([]:List Int).length) 0,.slice none (([]:List Int).length) 0]) (Yc (l:=[_,_]) (qs:=[(0,2),(2,1)]) underlying47 zeroValue47 ⟨rfl,sizeOf45,rfl,sizeOf43,trivial⟩ rfl)<|Zw ad ?_;intro be a2 a3 a4;refine go ?_;cases hm;replace aa:=aa.kp a2 a3;exact ⟨rfl,_,T8 a4.atN,_,none,0,none,0,rfl,aa.fin (cm []),Zc.nil,Zc.nil⟩
 refine Xc ah<|Xc ab ?_;refine go ?_;refine Xc ah<|lV (.agg #[.bool (!decide (ac.1=af.1)),.slice aj ac.2.length ai]) (Yc (l:=[_,_]) (qs:=[(0,1),(1,1)]) underlying45 zeroValue45 ⟨rfl,sizeOf4,rfl,sizeOf43,trivial⟩ rfl)<|Xc ab ?_;obtain ⟨bf,a5,hm⟩:=bZ hm;refine Zh (Zlg 4 5 a5 (ak.ks aa) (ag.ks aa)) ?_;rintro _ bg ⟨bh,bi,bj,bk,bm,rfl,av,am,an⟩;refine ⟨_,rfl,?_⟩;replace ad:=ad.gr av;refine Zw ad ?_;intro bn ao a6 a7;refine go ?_;cases hm;replace aa:=(aa.grow av).kp ao a6;replace am:=am.kp ao;replace an:=an.kp ao;exact ⟨rfl,_,T8 a7.atN,_,_,_,_,_,rfl,aa.fin (cm [(4,c1),(5,c2)]),aa.fo am,aa.fo an⟩
def Zly (N:Nat) (ad:Int) (ae:Int):Option (R1×Int):=
  (Sq N ad).bind fun ab=>(Sq N ae).bind fun ac=>(Za8 N (ab.1,ab.2) (ac.1,ac.2)).bind fun aa=>some (((aa.1.1.1,aa.1.1.2),aa.1.2),aa.2)
theorem Zy7 {N:Nat} {col:Zf} {w0:World} {ak al:Int} {r:(R1×Int)} (c1 c2:Nat) (hm:Zly N ak al=some r):
    Calls Tryz.prog 209 #[.int .i64 ak,.int .i64 al] w0 (fun e w'=>∃ (col':Zf) (ra1:Option Addr) (rc2:Nat) (ra4:Option Addr) (rc5:Nat),e= .returned (.tuple #[(.agg #[.bool r.1.1.1,.slice ra1 r.1.1.2.length rc2,.slice ra4 r.1.2.length rc5]),.int .i64 r.2])∧Zg col w0 col' w'∧Zc (Za.int .u32) 79 c1 col' w' ra1 rc2 r.1.1.2∧Zc (Za.int .u32) 79 c2 col' w' ra4 rc5 r.1.2):=by
 refine X2 (m:=13) func209 rfl rfl rfl ?_;rw [Zly.eq_1] at hm;have ab:=St.start col w0;refine go ?_;refine Xf (col:=(Zi col)) #[.bool false,.slice none (([]:List Int).length) 0,.slice none (([]:List Int).length) 0] 1 zeroValue47 ?_;intro a4 a5 an ao ag;refine go ?_;obtain ⟨a6,ap,hm⟩:=bZ hm;refine Zh (Ziu (col:=an) 2 ap) ?_;rintro _ a7 ⟨aq,a8,a9,rfl,am,ah⟩;refine ⟨_,rfl,?_⟩;refine Xo rfl ?_;obtain ⟨ba,ar,hm⟩:=bZ hm;refine Zh (Ziu (col:=aq) 3 ar) ?_;rintro _ au ⟨ae,bb,bc,rfl,ai,av⟩;refine ⟨_,rfl,?_⟩;obtain ⟨af,aw,hm⟩:=bZ hm;replace ah:=ah.gr ai;refine Zh (Znu 4 5 aw ((ah.toSlF (Zl.int .u32)).froz 3) ((av.froz 2 (by decide)).toSlF (Zl.int .u32))) ?_;rintro _ bd ⟨ax,ay,az,a0,a1,rfl,aa,ac,ad⟩;refine ⟨_,rfl,?_⟩;replace ac:=ac.thaw (Zv .u32) aa (((Fz.refl (col:=ae)).froz 2).froz 3) (by decide);replace ad:=ad.thaw (Zv .u32) aa (((Fz.refl (col:=ae)).froz 2).froz 3) (by decide);replace aa:=aa.thawR (col:=ae);generalize Z4 au.heap.size ae ax=be at *;refine lV (.agg #[.bool af.1.1.1,.slice ay af.1.1.2.length az,.slice a0 af.1.2.length a1]) (Xl rfl rfl)<|lV (.int .i64 af.2) (Xl rfl rfl) ?_;replace ag:=((ag.gr am).gr ai).gr aa;refine Zw ag ?_;intro bf aj a2 a3;refine go ?_;cases hm;replace ab:=((((ab.grow ao).grow am).grow ai).grow aa).kp aj a2;replace ac:=ac.kp aj;replace ad:=ad.kp aj;exact ⟨rfl,_,T8 a3.atN,_,_,_,_,_,rfl,ab.fin (cm [(4,c1),(5,c2)]),ab.fo ac,ab.fo ad⟩
def Zac (N:Nat) (ab:Int) (ac:Int):Option R1:=
  (Zly N ab ac).bind fun aa=>some ((aa.1.1.1,aa.1.1.2),aa.1.2)
theorem Zlf {N:Nat} {col:Zf} {w0:World} {ai aj:Int} {r:R1} (c1 c2:Nat) (hm:Zac N ai aj=some r):
    Calls Tryz.prog 95 #[.int .i64 ai,.int .i64 aj] w0 (fun e w'=>∃ (col':Zf) (ra1:Option Addr) (rc2:Nat) (ra4:Option Addr) (rc5:Nat),e= .returned ((.agg #[.bool r.1.1,.slice ra1 r.1.2.length rc2,.slice ra4 r.2.length rc5]))∧Zg col w0 col' w'∧Zc (Za.int .u32) 79 c1 col' w' ra1 rc2 r.1.2∧Zc (Za.int .u32) 79 c2 col' w' ra4 rc5 r.2):=by
 refine X2 (m:=14) func95 rfl rfl rfl ?_;rw [Zac.eq_1] at hm;have ab:=St.start col w0;refine go ?_;refine Xf (col:=(Zi col)) #[.bool false,.slice none (([]:List Int).length) 0,.slice none (([]:List Int).length) 0] 1 zeroValue47 ?_;intro a0 a1 ap aq ae;refine go ?_;obtain ⟨aa,ar,hm⟩:=bZ hm;refine Zh (Zy7 (col:=ap) 2 3 ar) ?_;rintro _ a2 ⟨au,ak,al,am,an,rfl,ao,af,ag⟩;refine ⟨_,rfl,?_⟩;refine lM (.tuple #[(.agg #[.bool aa.1.1.1,.slice ak aa.1.1.2.length al,.slice am aa.1.2.length an]),.int .i64 aa.2])<|lV (.agg #[.bool aa.1.1.1,.slice ak aa.1.1.2.length al,.slice am aa.1.2.length an]) (Xl rfl rfl)<|lV (.int .i64 aa.2) (Xl rfl rfl)<|Xf (col:=au) #[.bool false,.slice none (([]:List Int).length) 0,.slice none (([]:List Int).length) 0] 4 zeroValue47 ?_;intro a3 a4 a5 ac av;refine Zw av ?_;intro a6 ad aw ax;refine go ?_;refine lV _ (Xa isAgg47 sizeOf47 ax) ?_;replace ae:=((ae.gr ao).gr ac).kp ad;refine Zw ae ?_;intro a7 ah ay az;refine go ?_;cases hm;replace ab:=((((ab.grow aq).grow ao).grow ac).kp ad aw).kp ah ay;replace af:=((af.gr ac).kp ad).kp ah;replace ag:=((ag.gr ac).kp ad).kp ah;exact ⟨rfl,_,ra az.atN,_,_,_,_,_,rfl,ab.fin (cm [(2,c1),(3,c2)]),ab.fo af,ab.fo ag⟩
def Zeh (N:Nat) (aa:Rc):Nat→Bool→R2→R2→Int→Option R1
  | 0,_,_,_,_=>none
  | ah+1,ae,af,ag,ab=>if (decide (ab<(aa.length:Int)))=true then ((Zo aa ab).bind fun ac=>(Zcp N ((ae,af),ag) ((ac.1.1,ac.1.2),ac.2)).bind fun ad=>(Zeh N aa ah) ad.1.1 ad.1.2 ad.2 (i64.wrap (ab+1))) else (some ((ae,af),ag))
termination_by structural x=>x
def Zjx (N:Nat) (ab:Rc):Option R1:=
  (Zac N 0 1).bind fun aa=>Zeh N ab N aa.1.1 aa.1.2 aa.2 0
theorem Zy9 {N a9:Nat} {a0:Option Addr} {col:Zf} {w0:World} {am:Rc} {r:R1} (c1 c2:Nat) (hm:Zjx N am=some r) (h0:Sl (Za.pair (Za.pair Za.bool (Za.slice (Za.int .u32))) (Za.slice (Za.int .u32))) col w0 a0 a9 am):
    Calls Tryz.prog 154 #[.slice a0 am.length a9] w0 (fun e w'=>∃ (col':Zf) (ra1:Option Addr) (rc2:Nat) (ra4:Option Addr) (rc5:Nat),e= .returned ((.agg #[.bool r.1.1,.slice ra1 r.1.2.length rc2,.slice ra4 r.2.length rc5]))∧Zg col w0 col' w'∧Zc (Za.int .u32) 79 c1 col' w' ra1 rc2 r.1.2∧Zc (Za.int .u32) 79 c2 col' w' ra4 rc5 r.2):=by
 refine X2 (m:=19) func154 rfl rfl rfl ?_;rw [Zjx.eq_1] at hm;have aa:=St.start col w0;refine go ?_;refine Xf (col:=(Zi col)) #[.bool false,.slice none (([]:List Int).length) 0,.slice none (([]:List Int).length) 0] 1 zeroValue47 ?_;intro bb b1 bc bd ab;refine go ?_;obtain ⟨b2,be,hm⟩:=bZ hm;refine Zh (Zlf (col:=bc) 2 3 be) ?_;rintro _ b3 ⟨bf,b4,b5,b6,b7,rfl,ba,aw,ax⟩;refine ⟨_,rfl,?_⟩;refine Xf (col:=bf) #[.bool false,.slice none (([]:List Int).length) 0,.slice none (([]:List Int).length) 0] 4 zeroValue47 ?_;intro bg b8 b9 an bh;refine Zw bh ?_;intro ca ao bi af;refine go ?_;replace aa:=(((aa.grow bd).grow ba).grow an).kp ao bi;replace ab:=((ab.gr ba).gr an).kp ao;replace aw:=(aw.gr an).kp ao;replace ax:=(ax.gr an).kp ao;refine Z8 [0,2,3,1000000] (fun n f ai=>∃ ac ay az a1 ap a2 a3 aq a4 aj,aj=n∧Zeh N am aj ay ap aq a4=some r∧St w0 (Zi col) ac ai∧Zn 47 1 ac ai bb #[.bool false,.slice none (([]:List Int).length) 0,.slice none (([]:List Int).length) 0]∧Zc (Za.int .u32) 79 2 ac ai az a1 ap∧Zc (Za.int .u32) 79 3 ac ai a2 a3 aq∧Zn 47 4 ac ai bg #[.bool ay,.slice az ap.length a1,.slice a2 aq.length a3]∧[4].map f=[.int .i64 a4]) N ⟨_,_,_,_,_,_,_,_,0,_,rfl,hm,aa,ab,aw,ax,af,rfl⟩ ?_;clear hm;intro n f ai hI;obtain ⟨ac,ay,az,a1,ap,a2,a3,aq,a4,aj,hn,hm,aa,ab,ak,al,af,hs⟩:=hI;subst hn;refine .lL [4] hs ?_;replace h0:=h0.keep (Zj.start col w0)
 cases aj with
 | zero=>rw [Zeh.eq_1] at hm;cases hm
 | succ aj=>
  rw [Zeh.eq_2] at hm;refine go ?_;refine Zq hm (fun hb hm=>go ?_) fun hb hm=>go ?_
  ·refine Yv (col:=ac) [(0,0),(1,1),(2,1),(3,1),(4,0),(5,3),(6,2)] (by kernel_rfl) (by kernel_rfl)<|xv rfl rfl (fun _ hC=>Xa isAgg47 sizeOf47 (af.gr (hC.bl ac))) ?_;refine xu rfl rfl (fun _=>Vb rfl) ?_;refine xu rfl rfl (fun _=>Vg rfl) ?_;obtain ⟨a5,ar,hm⟩:=bZ hm;refine xu rfl rfl (fun _=>Wb underlying56 sizeOf47 rfl rfl (Xp ar).1 (Xp ar).2.1 ((h0.ks aa).addr ar)) ?_;obtain ⟨_,bj,bk⟩:=(h0.ks aa).atN ar;obtain ⟨_,_,rfl,bm,bn⟩:=Y5 bj;obtain ⟨_,_,rfl,bo,bp⟩:=Y5 bm;obtain ⟨rfl,_⟩:=bo;obtain ⟨⟨bq,br,rfl,a6⟩,_⟩:=bp;obtain ⟨⟨bs,bt,rfl,a7⟩,_⟩:=bn;refine xv (v:=(.agg #[.bool a5.1.1,.slice bq a5.1.2.length br,.slice bs a5.2.length bt])) rfl rfl (fun _ hC=>Xn isAgg47 sizeOf47 rfl rfl (bk.gr (hC.bl ac))) ?_;refine xe rfl rfl ?_;intro bu hC0;have hC:=hC0.bl ac;obtain ⟨cb,bv,hm⟩:=bZ hm;replace ak:=ak.gr hC;replace al:=al.gr hC;replace a6:=a6.gr hC;replace a7:=a7.gr hC;refine Zh (Znt 5 6 bv ((ak.toSlF (Zl.int .u32)).froz 3) ((al.froz 2 (by decide)).toSlF (Zl.int .u32)) ((a6.froz 2).froz 3) ((a7.froz 2).froz 3)) ?_;rintro _ cc ⟨bw,cd,ce,cf,cg,rfl,ag,ad,ae⟩;refine ⟨_,rfl,?_⟩;replace ad:=ad.thaw (Zv .u32) ag (((Fz.refl (col:=ac)).froz 2).froz 3) (by decide);replace ae:=ae.thaw (Zv .u32) ag (((Fz.refl (col:=ac)).froz 2).froz 3) (by decide);replace ag:=ag.thawR (col:=ac);generalize Z4 bu.heap.size ac bw=au at *;refine Zk<|Xg au hC0 ag<|xe rfl rfl ?_;intro ch hC0;replace ab:=(ab.gr hC).gr ag;replace af:=(af.gr hC).gr ag;replace aa:=(aa.grow hC).grow ag;have hC:=hC0.bl au;replace af:=af.gr hC;refine Zw af ?_;intro ci av bx ah;refine Zk<|xk au<|Yn ?_;replace ad:=(ad.gr hC).kp av;replace ae:=(ae.gr hC).kp av;replace ab:=(ab.gr hC).kp av;replace aa:=(aa.grow hC).kp av bx;intro cj hC;replace hC:=hC.bl au;refine go ?_;replace ad:=ad.gr hC;replace ad:=ad.recolSelf 2 (by decide);replace ae:=ae.gr hC;replace ae:=ae.recol 5 2 (by decide);replace ab:=ab.gr hC;replace ab:=ab.recol 5 2 (by decide);replace ah:=ah.gr hC;replace ah:=ah.recol 5 2 (by decide);replace aa:=aa.grow hC;replace aa:=aa.recol 5 2 (by decide) (by decide);replace ad:=ad.recol 6 3 (by decide);replace ae:=ae.recolSelf 3 (by decide);replace ab:=ab.recol 6 3 (by decide);replace ah:=ah.recol 6 3 (by decide)
   replace aa:=aa.recol 6 3 (by decide) (by decide);exact ⟨aj,by omega,rfl,⟨_,_,_,_,_,_,_,_,_,_,rfl,hm,aa,ab,ad,ae,ah,rfl⟩⟩
  refine lV _ (Xa isAgg47 sizeOf47 af)<|Zw ab ?_;intro ck a8 bz b0;refine go ?_;cases hm;replace ak:=ak.kp a8;replace al:=al.kp a8;replace aa:=aa.kp a8 bz;exact ⟨rfl,_,ra b0.atN,_,_,_,_,_,rfl,aa.fin (cm [(2,c1),(3,c2)]),aa.fo ak,aa.fo al⟩
def Zhc (N:Nat) (aa:R1):Option Int:=
  (Tz N (aa.1.1,aa.1.2)).bind fun ab=>some ab
theorem Zy8 {N ac ag:Nat} {ad ah:Option Addr} {col:Zf} {w0:World} {aa:R1} {r:Int} (hm:Zhc N aa=some r) (ae:Sl (Za.int .u32) col w0 ad ac aa.1.2) (ao:Sl (Za.int .u32) col w0 ah ag aa.2):
    Calls Tryz.prog 93 #[(.agg #[.bool aa.1.1,.slice ad aa.1.2.length ac,.slice ah aa.2.length ag])] w0 (fun e w'=>e= .returned ((.int .i64 r))∧Below w0.heap.size w0 w'):=by
 refine Xi 2 (m:=6) func93 rfl rfl rfl rfl rfl ?_;rw [Zhc.eq_1] at hm;have ab:=St.start col w0;refine go ?_;refine Xd (col:=(Zi col)) 1 rfl ?_;intro ap aj ai ak al;refine go ?_;refine Xh ⟨_,_,rfl⟩ ?_;refine lV (.agg #[.bool aa.1.1,.slice ad aa.1.2.length ac]) (Xn isAgg45 sizeOf45 rfl rfl ((al.atN).part 0 2 _ rfl)) ?_;obtain ⟨aq,am,hm⟩:=bZ hm;replace ae:=ae.keep (Zj.start col w0);replace ab:=ab.grow ak;refine Zh (Zfl am (ae.ks ab)) ?_;rintro _ an ⟨rfl,af⟩;refine ⟨_,rfl,?_⟩;replace af:Zg ai aj ai an:=.of_below af;refine go ?_;cases hm;replace ab:=ab.grow af;exact ⟨rfl,rfl,ab.below⟩
theorem Zai {N k:Nat} {neg:Bool} {m:List Int} (hm:Zp m) (hk:m.length≤k) (hr:Xe N k):Th N neg m=some (Zs (Zr (neg,m))):=by
 obtain ⟨r1,r2⟩:=hr
 rw [Th,Uy hm (by omega) (by omega),Option.bind_some,Zkf]
 have e:decide (0<((Zd (Zb m)).length:Int))=decide (Zb m≠0):=by
  by_cases h:Zb m=0
  ·rw [h,Wz];decide
  ·have:=Tu h
   rw [decide_eq_true (by omega),decide_eq_true h]
 cases neg
 ·rw [if_neg (by decide),Zg9,Bool.false_and]
 ·rw [if_pos rfl,Zg9,e,Bool.true_and]
theorem Zwe {N k:Nat} {a:ZV} (hm:Zp a.2) (hk:a.2.length≤k) (hr:Xe N k):Zha N a=some (Zs (Zr a)):=by
 rw [Zha,Zai hm hk hr];rfl
theorem Zfc {N k:Nat} {a:ZV} (hm:Zp a.2) (hk:a.2.length≤k) (hr:Xe N k):Tz N a=some (Zr a).sign:=by
 rw [Tz,Zwe hm hk hr,Option.bind_some,Zs]
 generalize Zr a=z
 by_cases h:z=0
 ·subst h;rw [Int.natAbs_zero,Wz,if_pos (by decide)];rfl
 ·have:=Tu (n:=z.natAbs) (by omega)
  rw [if_neg (by rw [decide_eq_false (by simp only;omega)];decide)]
  by_cases h2:z<0
  ·rw [if_pos (decide_eq_true h2),Int.sign_eq_neg_one_of_neg h2]
  ·rw [if_neg (fun hc=>h2 (of_decide_eq_true hc)),Int.sign_eq_one_of_pos (by omega)]
theorem Zmv {N k l:Nat} {a b:ZV} (ha:Zp a.2) (hb:Zp b.2) (hk:a.2.length≤k) (hl:b.2.length≤l) (hr:Xe N (k+l+1)):Zaa N a b=some (Zs (Zr a+Zr b)):=by
 have hr':=hr
 obtain ⟨r1,r2⟩:=hr'
 have la:=X0 ha
 have lb:=X0 hb
 have lsum:(Zd (Zb a.2+Zb b.2)).length≤k+l+1:=Zft (by omega) (by omega)
 have ls1:(Zd (Zb a.2 - Zb b.2)).length≤k+l+1:=by have:=Y3 (Nat.sub_le (Zb a.2) (Zb b.2));omega
 have ls2:(Zd (Zb b.2 - Zb a.2)).length≤k+l+1:=by have:=Y3 (Nat.sub_le (Zb b.2) (Zb a.2));omega
 rw [Zaa]
 by_cases h:a.1=b.1
 ·rw [if_pos (decide_eq_true h),Zvi ha hb (by omega) (by omega),Option.bind_some,Zai (Z2 _) lsum hr,Option.bind_some,Zii.1 h]
 ·rw [if_neg (by rw [decide_eq_false h];decide),Zkn ha hb (by omega) (by omega) (by omega) (by omega),Option.bind_some]
  by_cases hlt:Zb a.2<Zb b.2
  ·rw [if_pos hlt,if_neg (by decide),Zkn hb ha (by omega) (by omega) (by omega) (by omega),Option.bind_some,if_neg (by omega),Zai (Z2 _) ls2 hr,Option.bind_some,(Zii.2 h).2 hlt]
  ·rw [if_neg hlt,if_pos rfl,Zai (Z2 _) ls1 hr,Option.bind_some,(Zii.2 h).1 (by omega)]
theorem Zph {N k:Nat} {a:ZV} (hm:Zp a.2) (hk:a.2.length≤k) (hr:Xe N k):Zco N a=some (Zs (-Zr a)):=by
 rw [Zco,Zai hm hk hr,Option.bind_some,Zna]
theorem Zok {a:ZV} (hm:Zp a.2):(Zs (Zr a)).2.length≤a.2.length:=by
 rw [Vm,Zbt];exact X0 hm
theorem Zs1 {a:ZV} (hm:Zp a.2):(Zs (-Zr a)).2.length≤a.2.length:=by
 rw [Vm,Int.natAbs_neg,Zbt];exact X0 hm
theorem Zwu {N k l:Nat} {a b:ZV} (ha:Zp a.2) (hb:Zp b.2) (hk:a.2.length≤k) (hl:b.2.length≤l) (hr:Xe N (k+l+1)):Zef N a b=some (Zs (Zr a - Zr b)):=by
 rw [Zef,Zph (a:=(b.1,b.2)) hb hl (hr.mono (by omega)),Option.bind_some,Zmv (a:=(a.1,a.2)) (b:=Zs _) ha (Yj _) hk (Nat.le_trans (Zs1 hb) hl) hr,Option.bind_some,Yt,Int.sub_eq_add_neg]
theorem Zkl {N k l:Nat} {a b:ZV} (ha:Zp a.2) (hb:Zp b.2) (hk:a.2.length≤k) (hl:b.2.length≤l) (hr:Xe N (k+l)):Za7 N a b=some (Zs (Zr a * Zr b)):=by
 have hr':=hr
 obtain ⟨r1,r2⟩:=hr'
 have la:=X0 ha
 have lb:=X0 hb
 have:=U5 (Zb a.2) (Zb b.2)
 rw [Za7,Zwc ha hb (by omega) (by omega),Option.bind_some,Zai (k:=k+l) (Z2 _) (by omega) hr,Option.bind_some,Zp0]
theorem Z46 (a b:Int):(a - b).sign=Qn a b:=by
 rw [← Zm9];unfold Qn
 (repeat' split) <;> omega
theorem Z3u {N k l:Nat} {a b:ZV} (ha:Zp a.2) (hb:Zp b.2) (hk:a.2.length≤k) (hl:b.2.length≤l) (hr:Xe N (k+l+1)):Zju N a b=some (Qn (Zr a) (Zr b)):=by
 have sl:(Zs (Zr a - Zr b)).2.length≤k+l+1:=Zw9 (k:=k+l) (Nat.le_trans (Zok ha) (by omega)) (Nat.le_trans (Zok hb) (by omega))
 rw [Zju,Zwu (a:=(a.1,a.2)) (b:=(b.1,b.2)) ha hb hk hl hr,Option.bind_some,Zfc (a:=Zs _) (Yj _) sl hr,Option.bind_some,Yt,Z46]
theorem Zkm {N:Nat} {z:Int} (h:-9223372036854775808≤z∧z≤9223372036854775807) (hr:Xe N 4):Sq N z=some (Zs z):=by
 have hr':=hr
 obtain ⟨r1,r2⟩:=hr'
 have l2:∀ n:Nat,n<18446744073709551616→(Zd n).length≤2:=fun n hn=>Wt.2 (by simpa using hn)
 have l1:Zp [1]:=.cons (by decide) .nil
 rw [Sq]
 by_cases hz:0≤z
 ·rw [if_pos (decide_eq_true hz),Xm (by omega),Zwg (by omega) (by omega),Option.bind_some,Zai (Z2 _) (l2 _ (by omega)) (hr.mono (by omega)),Option.bind_some]
  have e2:Zr (false,Zd z.toNat)=z:=by simp only [Zr,Z0];simp;omega
  rw [e2]
 ·have hl3:=l2 (-z - 1).toNat (by omega)
  have e:u64.wrap (i64.wrap (-i64.wrap (z+1)))= -z - 1:=by rw [Zt (x:=z+1) (by omega),Zt (by omega),Xm (by omega)];omega
  rw [if_neg (by rw [decide_eq_false hz];decide),e,Zwg (by omega) (by omega),Option.bind_some,Zvi (Z2 _) l1 (by simp only [List.length_singleton];omega) (by simp only [List.length_singleton];omega),Option.bind_some,Z0,Y4,Yd,Zai (k:=4) (Z2 _) (by
   have:=l2 ((-z - 1).toNat+((1:Int).toNat+4294967296 * 0)) (by omega)
   omega) hr,Option.bind_some]
  have e2:Zr (true,Zd ((-z - 1).toNat+((1:Int).toNat+4294967296 * 0)))=z:=by simp only [Zr,Z0,if_true];omega
  rw [e2]
theorem Zc8 {N k:Nat} {a:QV} (ha:RV k a) (hr:Xe N k):U7 N a=some (Zd (Xx a.2)):=by
 obtain ⟨r1,r2⟩:=hr
 have:=ha.ld
 rw [U7,Uy ha.d (by omega) (by omega),Option.bind_some,Xx]
 by_cases h:Zb a.2=0
 ·rw [h,Wz,if_pos (by decide),if_pos rfl,Zlz,Option.bind_some,W8]
 ·have:=Tu h
  rw [if_neg (by rw [decide_eq_false (by omega)];decide),if_neg h]
theorem Zic {N k l:Nat} {num:ZV} {den:List Int} (hn:Zp num.2) (hd:Zp den) (h0:Zb den≠0) (hk:num.2.length≤k) (hl:den.length≤l) (hr:Xe N (k+l)):
  Zba N num den=some (Zm (mkRat (Zr num) (Zb den))):=by
 have hr':=hr
 obtain ⟨r1,r2⟩:=hr'
 have l1:=X0 hn
 have l2:=X0 hd
 have hg:Nat.gcd (Zb num.2) (Zb den)≠0:=fun h=>h0 (Nat.gcd_eq_zero_iff.1 h).2
 have lg:(Zd (Nat.gcd (Zb num.2) (Zb den))).length≤den.length:=Nat.le_trans (Y3 (Nat.gcd_le_right _ (by omega))) l2
 have lq:=Y3 (Nat.div_le_self (Zb num.2) (Nat.gcd (Zb num.2) (Zb den)))
 have ld:=Y3 (Nat.div_le_self (Zb den) (Nat.gcd (Zb num.2) (Zb den)))
 obtain ⟨g,g1,g2,g3,g4⟩:=Z35 (N:=N) (M:=k+l) hn hd (by omega) (by omega) (by omega) (by omega)
 rw [Zba,g1,Option.bind_some,Zpe hn g2 (by rw [g3];omega) (by omega) (by rw [g3];omega) (by omega),Option.bind_some,Zpe hd g2 (by rw [g3];omega) (by omega) (by rw [g3];omega) (by omega),Option.bind_some,g3,if_neg hg,if_neg hg,
  Zwe (k:=k) (a:=(num.1,Zd (Zb num.2 / Nat.gcd (Zb num.2) (Zb den)))) (Z2 _) (by simp only;omega) (hr.mono (by omega)),Option.bind_some,Uy (Z2 _) (by omega) (by omega),Option.bind_some,Zt8 (neg:=num.1) h0,Zkf,Z0,Z0]
theorem Zvz {N k:Nat} {a:QV} (ha:RV k a) (hr:Xe N (2 * k+1)):Zeg N a=some (Zm (-Z6 a)):=by
 have ld:=Um ha
 rw [Zeg,Zph (a:=(a.1.1,a.1.2)) ha.m ha.lm (hr.mono (by omega)),Option.bind_some,Zc8 ha (hr.mono (by omega)),Option.bind_some,Zic (num:=Zs _) (k:=k) (l:=k+1) (Yj _) (Z2 _) (by rw [Z0];exact V4 _) (Nat.le_trans (Zs1 (a:=(a.1.1,a.1.2)) ha.m) ha.lm) ld (hr.mono (by omega)),Option.bind_some,Z0,Yt,Z6,Rat.neg_mkRat]
theorem Z33 {N k:Nat} {a:QV} (ha:RV k a) (hr:Xe N k):Zhc N a=some (Qh (Z6 a)):=by
 rw [Zhc,Zfc (a:=(a.1.1,a.1.2)) ha.m ha.lm hr,Option.bind_some,Zu1]
theorem Zij (n:Nat):Zr (false,Zd n)=n:=by simp [Zr,Z0]
theorem Zmy {N k l:Nat} {a b:QV} (ha:RV k a) (hb:RV l b) (hr:Xe N (2 * (k+l+3))):Zab N a b=some (Vu (Z6 a) (Z6 b)):=by
 have da:=Um ha
 have db:=Um hb
 have o1:=Qx (n:=Xx b.2) ha.m ha.lm db
 have o2:=Qx (n:=Xx a.2) hb.m hb.lm da
 rw [Zab,Zc8 hb (hr.mono (by omega)),Option.bind_some,Sr,Option.bind_some,Zkl (a:=(a.1.1,a.1.2)) (b:=(false,Zd (Xx b.2))) (k:=k) (l:=l+1) ha.m (Z2 _) ha.lm db (hr.mono (by omega)),Option.bind_some,Zc8 ha (hr.mono (by omega)),Option.bind_some,Sr,Option.bind_some,Zkl (a:=(b.1.1,b.1.2)) (b:=(false,Zd (Xx a.2))) (k:=l) (l:=k+1) hb.m (Z2 _) hb.lm da (hr.mono (by omega)),Option.bind_some,Zij,Zij,
  Z3u (a:=Zs _) (b:=Zs _) (Yj _) (Yj _) o1 o2 (hr.mono (by omega)),Option.bind_some,Yt,Yt,Z6,Z6,Zo0 (V4 _) (V4 _)]
theorem Zvo {N k l:Nat} {a b:QV} (ha:RV k a) (hb:RV l b) (hr:Xe N (k+l+2)):Zck N (Zd (Xx a.2)) (Zd (Xx b.2))=some (Zd (Xx a.2 * Xx b.2)):=by
 have da:=Um ha
 have db:=Um hb
 obtain ⟨r1,r2⟩:=hr
 rw [Zwc (Z2 _) (Z2 _) (by omega) (by omega),Z0,Z0]
theorem Zpf {N k l:Nat} {a b:QV} (ha:RV k a) (hb:RV l b) (hr:Xe N (2 * (k+l+3))):Zcp N a b=some (Zm (Z6 a+Z6 b)):=by
 have da:=Um ha
 have db:=Um hb
 have o1:=Qx (n:=Xx b.2) ha.m ha.lm db
 have o2:=Qx (n:=Xx a.2) hb.m hb.lm da
 obtain ⟨_,m2,m3⟩:=Zix ha hb (hr.mono (by omega))
 have m1:=Zvo ha hb (hr.mono (by omega))
 have sl:=Zm3 (k:=k+l+1) (by omega) (Nat.le_trans o2 (by omega))
 rw [Zcp,Zc8 hb (hr.mono (by omega)),Option.bind_some,Sr,Option.bind_some,Zkl (a:=(a.1.1,a.1.2)) (b:=(false,Zd (Xx b.2))) (k:=k) (l:=l+1) ha.m (Z2 _) ha.lm db (hr.mono (by omega)),Option.bind_some,Zc8 ha (hr.mono (by omega)),Option.bind_some,Sr,Option.bind_some,Zkl (a:=(b.1.1,b.1.2)) (b:=(false,Zd (Xx a.2))) (k:=l) (l:=k+1) hb.m (Z2 _) hb.lm da (hr.mono (by omega)),Option.bind_some,Zij,Zij,
  Zmv (a:=Zs _) (b:=Zs _) (Yj _) (Yj _) o1 o2 (hr.mono (by omega)),Option.bind_some,Yt,Yt,Option.bind_some,Option.bind_some,m1,Option.bind_some,
  Zic (num:=Zs _) (Yj _) (Z2 _) (by rw [Z0];exact m3) sl m2 (hr.mono (by omega)),Option.bind_some,Yt,Z0,Z6,Z6,Rat.mkRat_add_mkRat _ _ (V4 _) (V4 _)]
theorem Zv0 {N k l:Nat} {a b:QV} (ha:RV k a) (hb:RV l b) (hr:Xe N (2 * (k+2 * l+4))):Za9 N a b=some (Zm (Z6 a - Z6 b)):=by
 have hq:qs (-Z6 b)≤l+1:=by rw [Ze9];have:=Zu0 hb;omega
 rw [Za9,Zvz hb (hr.mono (by omega)),Option.bind_some,Zpf (b:=Zm _) ha (Y2 hq) (hr.mono (by omega)),Option.bind_some,Yr,Rat.sub_eq_add_neg]
theorem Zvy {N k l:Nat} {a b:QV} (ha:RV k a) (hb:RV l b) (hr:Xe N (2 * (k+l+3))):Zcq N a b=some (Zm (Z6 a * Z6 b)):=by
 obtain ⟨_,m2,m3⟩:=Zix ha hb (hr.mono (by omega))
 have m1:=Zvo ha hb (hr.mono (by omega))
 have zl:(Zs (Zr a.1 * Zr b.1)).2.length≤k+l:=by
  rw [Vm,Int.natAbs_mul,Zbt,Zbt]
  have h1:=U5 (Zb a.1.2) (Zb b.1.2)
  have h2:=X0 ha.m
  have h3:=X0 hb.m
  have:=ha.lm;have:=hb.lm
  omega
 rw [Zcq,Zkl (a:=(a.1.1,a.1.2)) (b:=(b.1.1,b.1.2)) ha.m hb.m ha.lm hb.lm (hr.mono (by omega)),Option.bind_some,Zc8 ha (hr.mono (by omega)),Option.bind_some,Zc8 hb (hr.mono (by omega)),Option.bind_some,m1,Option.bind_some,
  Zic (num:=Zs _) (Yj _) (Z2 _) (by rw [Z0];exact m3) zl m2 (hr.mono (by omega)),Option.bind_some,Yt,Z0,Z6,Z6,Rat.mkRat_mul_mkRat]
theorem Zws {N:Nat} {a b:Int} (h:-9223372036854775808≤a∧a≤9223372036854775807) (g:0<b∧b≤9223372036854775807) (hr:Xe N 8):Zac N a b=some (Zm ((a:Rat) / (b:Rat))):=by
 have l2:∀ z:Int,-9223372036854775808≤z∧z≤9223372036854775807→(Zs z).2.length≤2:=fun z hz=>Wt.2 (by simp;omega)
 have la:=l2 a h
 have lb:=l2 b (by omega)
 have hb0:Zb (Zs b).2≠0:=by rw [Vm,Z0];omega
 have e:=Ztr (Zr (Zs a)) 1 (Zs b) 1 (Zs a).1 (Zs a).2 rfl hb0
 rw [Zac,Zly,Zkm h (hr.mono (by omega)),Option.bind_some,Zkm (by omega) (hr.mono (by omega)),Option.bind_some,Za8,Zfc (a:=Zs b) (Yj _) lb (hr.mono (by omega)),Option.bind_some,Yt,Int.sign_eq_one_of_pos g.1,if_neg (by decide),Zic (num:=(!decide ((Zs a).1=(Zs b).1),(Zs a).2)) (Yj _) (Yj _) hb0 la lb (hr.mono (by omega)),Option.bind_some,Option.bind_some,Option.bind_some]
 rw [Rat.mkRat_eq_div,Rat.mkRat_eq_div,Yt,Yt] at e
 have e1:(a:Rat) / ((1:Nat):Rat) / ((b:Rat) / ((1:Nat):Rat))=(a:Rat) / (b:Rat):=by
  have h1:((1:Nat):Rat)=1:=rfl
  have h2:(1:Rat)⁻¹=1:=Rat.inv_eq_of_mul_eq_one (by grind)
  simp only [h1,Rat.div_def,h2,Rat.mul_one]
 rw [e1,Nat.one_mul,Nat.mul_one] at e
 rw [e]
 have e2:Zr (!decide ((Zs a).1=(Zs b).1),Zd (Zb (Zs a).2))=Zr (!decide ((Zs a).1=(Zs b).1),(Zs a).2):=by simp only [Zr,Z0]
 rw [e2]
theorem div_one (a:Rat):a / 1=a:=by
 have h2:(1:Rat)⁻¹=1:=Rat.inv_eq_of_mul_eq_one (by grind)
 rw [Rat.div_def,h2,Rat.mul_one]
theorem Zw5 {N:Nat} (hr:Xe N 8):Zac N 0 1=some (Zm 0):=by
 rw [Zws (by omega) (by omega) hr]
 congr 2
 exact div_one _
theorem Zw4 {N:Nat} (hr:Xe N 8):Zac N 1 1=some (Zm 1):=by
 rw [Zws (by omega) (by omega) hr]
 congr 2
 exact div_one _
theorem Zv1 {N:Nat} (l:List QV) (hl:∀ a ∈ l,W2 a) (hb:l.length<4611686018427387904):∀ (n i:Nat) (q:Rat),i≤l.length→l.length<n+i→Xe N (4 * (qs q+X9 (l.drop i)+3))→Zeh N l n (Zm q).1.1 (Zm q).1.2 (Zm q).2 (i:Int)=some (Zm (q+Vf (l.drop i)))
 | 0,i,q,h1,h2,_=>by omega
 | n+1,i,q,h1,h2,hr=>by
  rw [Zeh.eq_2]
  by_cases hi:i<l.length
  ·have hd:=List.drop_eq_getElem_cons hi
   have ha:=hl _ (List.getElem_mem hi)
   have hs:=Zml ha
   rw [hd,X9] at hr
   have h3:=Zmk q (Z6 l[i])
   rw [if_pos (decide_eq_true (by omega)),Z7 hi,Option.bind_some,Zpf (k:=qs q) (l:=max (l[i]).1.2.length (l[i]).2.length) (Zpk q) (Zda ha.1 ha.2) (hr.mono (by omega)),Option.bind_some,Zt (by omega)]
   have ih:=Zv1 l hl hb n (i+1) (q+Z6 l[i]) (by omega) (by omega) (hr.mono (by omega))
   have e:Z6 ((((Zm q).1.1,(Zm q).1.2),(Zm q).2):QV)=q:=Yr q
   have e2:Z6 (((l[i].1.1,l[i].1.2),l[i].2):QV)=Z6 l[i]:=rfl
   rw [show ((i+1:Nat):Int)=(i:Int)+1 by omega] at ih
   rw [e,e2,ih,hd,Vf,Vf,List.map_cons,List.sum_cons,Rat.add_assoc]
  ·rw [if_neg (by rw [decide_eq_false (by omega)];decide),List.drop_eq_nil_of_le (by omega),Vf,List.map_nil,List.sum_nil,Rat.add_zero]
theorem Z34 {N:Nat} {l:List QV} (hl:∀ a ∈ l,W2 a) (hb:l.length<4611686018427387904) (hn:l.length<N) (hr:Xe N (4 * (X9 l+4))):Zjx N l=some (Zm (Vf l)):=by
 rw [Zjx,Zw5 (hr.mono (by omega)),Option.bind_some]
 have:=Zv1 (N:=N) l hl hb N 0 0 (by omega) (by omega) (hr.mono (by rw [Zo7,List.drop_zero];omega))
 rw [List.drop_zero,Rat.zero_add] at this
 exact this
def Ze3 (ab:ByteArray):List ByteArray→Nat→Option Int
  | [],aa=>some (-1)
  | ac :: ad,aa=>if (decide (ab=ac))=true then (some (aa:Int)) else ((Ze3 ab ad) (aa+1))
termination_by structural x=>x
def Zl7 (aa:List ByteArray) (ab:ByteArray):Option Int:=
  Ze3 ab aa 0
theorem Zz3 {ag:Nat} {a0:Option Addr} {col:Zf} {w0:World} {ab:R9} {ae:ByteArray} {r:Int} (hm:Zl7 ab ae=some r) (h0:Sl Za.str col w0 a0 ag ab):
    Calls Tryz.prog 191 #[.slice a0 ab.length ag,.string ae] w0 (fun e w'=>e= .returned ((.int .i64 r))∧Below w0.heap.size w0 w'):=by
 refine Xi 4 (m:=19) func191 rfl rfl rfl rfl rfl ?_;rw [Zl7.eq_1] at hm;have aa:=St.start col w0;refine go ?_;refine Z8 [0,1,7,1000000] (fun n f ah=>∃ ai ac ad,n=ad.length∧ab.drop ac=ad∧Ze3 ae ad ac=some r∧St w0 (Zi col) ai ah∧[8].map f=[.int .i64 ac]) ab.length ⟨_,0,_,rfl,rfl,hm,aa,rfl⟩ ?_;clear hm;intro n f ah hI;obtain ⟨ai,ac,ad,hn,hl,hm,aa,hs⟩:=hI;subst hn;refine .lL [8] hs ?_;replace h0:=h0.keep (Zj.start col w0)
 cases ad with
 | nil=>
  have hk:¬ ((ac:Int)<(ab.length:Int)):=by have:=List.drop_eq_nil_iff.1 hl;omega
  have hkb:=decide_eq_false hk;rw [Ze3.eq_1] at hm;refine go ?_;refine Y7 (congrArg Value.bool hkb)<|go ?_;cases hm;exact ⟨rfl,rfl,aa.below⟩
 | cons am aj=>
  obtain ⟨af,ak,al⟩:=Wg hl;have hk:(ac:Int)<(ab.length:Int):=by omega
  have hkb:=decide_eq_true hk;rw [Ze3.eq_2] at hm;refine go ?_;refine Y8 (congrArg Value.bool hkb)<|go ?_;refine lI af ((h0.ks aa).addr af)<|lW ((h0.ks aa).atStr af) ?_;refine go ?_;refine Zq hm (fun hb hm=>go ?_) fun hb hm=>go ?_
  ·cases hm;exact ⟨rfl,rfl,aa.below⟩
  exact ⟨aj.length,by simp,rfl,⟨_,_,_,rfl,ak,hm,aa,(Wq (congrArg (Value.int .i64) (Wj (Nat.lt_of_lt_of_le al (h0.ks aa).1.1))) rfl)⟩⟩
def Zj8 (aa:List ByteArray) (ab:ByteArray):Option Bool:=
  (Zl7 aa ab).bind fun ac=>some (decide (0≤ac))
theorem Zz1 {ad:Nat} {a0:Option Addr} {col:Zf} {w0:World} {ab:R9} {ae:ByteArray} {r:Bool} (hm:Zj8 ab ae=some r) (h0:Sl Za.str col w0 a0 ad ab):
    Calls Tryz.prog 78 #[.slice a0 ab.length ad,.string ae] w0 (fun e w'=>e= .returned ((.bool r))∧Below w0.heap.size w0 w'):=by
 refine Xi 4 (m:=9) func78 rfl rfl rfl rfl rfl ?_;rw [Zj8.eq_1] at hm;have aa:=St.start col w0;refine go ?_;obtain ⟨ah,af,hm⟩:=bZ hm;replace h0:=h0.keep (Zj.start col w0);refine Zh (Zz3 af (h0.ks aa)) ?_;rintro _ ag ⟨rfl,ac⟩;refine ⟨_,rfl,?_⟩;replace ac:Zg (Zi col) w0 (Zi col) ag:=.of_below ac;refine go ?_;cases hm;replace aa:=aa.grow ac;exact ⟨rfl,rfl,aa.below⟩
def Zcc:List ByteArray→(List Ri)→Option Bool
  | [],aa=>some false
  | ab :: ac,aa=>if (decide (0<((Wh aa ab).getD 0)))=true then (some true) else ((some (Sy aa ab 1)).bind fun ad=>(Zcc ac) ad)
termination_by structural x=>x
def Zje (aa:List ByteArray):Option Bool:=
  Zcc aa ([]:List Ri)
theorem Zyu {al:Nat} {a0:Option Addr} {col:Zf} {w0:World} {ab:R9} {r:Bool} (hm:Zje ab=some r) (h0:Sl Za.str col w0 a0 al ab):
    Calls Tryz.prog 252 #[.slice a0 ab.length al] w0 (fun e w'=>e= .returned ((.bool r))∧Below w0.heap.size w0 w'):=by
 refine Xi 2 (m:=20) func252 rfl rfl rfl rfl rfl ?_;rw [Zje.eq_1] at hm;have aa:=St.start col w0;refine go ?_;refine Z1t (col:=(Zi col)) (fk:=Value.string) (fv:=(Value.int .i64)) 1 rfl ?_;intro ay az a1 ao ap;refine go ?_;replace aa:=aa.grow ao;refine Z8 [7,8,1000000] (fun n f af=>∃ ag ah ac ad ae,n=ae.length∧ab.drop ad=ae∧Zcc ae ac=some r∧St w0 (Zi col) ag af∧Vi Value.string (Value.int .i64) 1 ag af ah ac∧[9,3].map f=[.int .i64 ad,.map (some ah)]) ab.length ⟨_,_,_,0,_,rfl,rfl,hm,aa,ap,rfl⟩ ?_;clear hm;intro n f af hI;obtain ⟨ag,ah,ac,ad,ae,hn,hl,hm,aa,am,hs⟩:=hI;subst hn;refine .lL [9,3] hs ?_;replace h0:=h0.keep (Zj.start col w0)
 cases ae with
 | nil=>
  have hk:¬ ((ad:Int)<(ab.length:Int)):=by have:=List.drop_eq_nil_iff.1 hl;omega
  have hkb:=decide_eq_false hk;rw [Zcc.eq_1] at hm;refine go ?_;refine Y7 (congrArg Value.bool hkb)<|go ?_;cases hm;exact ⟨rfl,rfl,aa.below⟩
 | cons ai aq=>
  obtain ⟨aj,ar,au⟩:=Wg hl;have hk:(ad:Int)<(ab.length:Int):=by omega
  have hkb:=decide_eq_true hk;rw [Zcc.eq_2] at hm;refine go ?_;refine Y8 (congrArg Value.bool hkb)<|go ?_;refine lI aj ((h0.ks aa).addr aj)<|lW ((h0.ks aa).atStr aj) ?_;refine go ?_;refine lV (.int .i64 ((Wh ac ai).getD 0)) (Zu9 Sc.str am underlying111 underlying9 zeroValue3 rfl rfl)<|go ?_;refine Zq hm (fun hb hm=>go ?_) fun hb hm=>go ?_
  ·cases hm;exact ⟨rfl,rfl,aa.below⟩
  obtain ⟨av,ak,hm⟩:=bZ hm;have ak:av=Sy ac ai 1:=(Option.some.inj ak).symm;refine Zsv (k:=ai) (v:=1) Sc.str am underlying111 underlying9 rfl rfl rfl ?_;intro a2 aw ax an;rw [← ak] at an;refine go ?_;replace aa:=aa.kp aw ax;exact ⟨aq.length,by simp,rfl,⟨_,_,_,_,_,rfl,ar,hm,aa,an,(Wq (congrArg (Value.int .i64) (Wj (Nat.lt_of_lt_of_le au (h0.ks aa).1.1))) rfl)⟩⟩
def Zgm (ab:R0) (aa:Nat) (kk_L1:(Nat→Option Int)) (ac:Bool):Option Int:=
  if ac=true then (some 40) else ((Zo ab.2.2.1 (aa:Int)).bind fun ad=>if (decide ((ad.length:Int)=0))=true then (some 43) else (kk_L1 (aa+1)))
def Zaw (aa:R0):List ByteArray→Nat→Option Int
  | [],ab=>some 0
  | ad :: ac,ab=>Z1 ((0:Int)≤(ab:Int)∧(ab:Int)≤(aa.2.1.length:Int)) ((Zj8 (aa.2.1.take (Int.toNat (ab:Int))) ad).bind fun ae=>if ae=true then (Zgm aa ab (Zaw aa ac) true) else ((Zo aa.2.2.1 (ab:Int)).bind fun af=>(Zje af).bind fun ag=>Zgm aa ab (Zaw aa ac) ag))
termination_by structural x=>x
def Zgl (aa:R0):Option Int:=
  Zaw aa aa.2.1 0
theorem Zyr {ae ak al am:Nat} {af an ao ap:Option Addr} {col:Zf} {w0:World} {aa:R0} {r:Int} (hm:Zgl aa=some r) (ag:Sl Za.str col w0 af ae aa.2.1) (ai:Sl (Za.slice Za.str) col w0 an ak aa.2.2.1) (bi:Sl (Za.slice (Za.int .i64)) col w0 ao al aa.2.2.2.1) (bj:Sl (Za.slice (Za.pair (Za.pair Za.bool (Za.slice (Za.int .u32))) (Za.slice (Za.int .u32)))) col w0 ap am aa.2.2.2.2):
    Calls Tryz.prog 174 #[(.agg #[.string aa.1,.slice af aa.2.1.length ae,.slice an aa.2.2.1.length ak,.slice ao aa.2.2.2.1.length al,.slice ap aa.2.2.2.2.length am])] w0 (fun e w'=>e= .returned ((.int .i64 r))∧Below w0.heap.size w0 w'):=by
 refine Xi 2 (m:=37) func174 rfl rfl rfl rfl rfl ?_;rw [Zgl.eq_1] at hm;have ab:=St.start col w0;refine go ?_;refine Xd (col:=(Zi col)) 1 rfl ?_;intro a3 bk bm a6 ac;refine go ?_;refine Xc ac ?_;refine go ?_;replace ab:=ab.grow a6;refine Z8 [1,6,7,1000000] (fun n f aq=>∃ ah ad aj,n=aj.length∧aa.2.1.drop ad=aj∧Zaw aa aj ad=some r∧St w0 (Zi col) ah aq∧Zn 27 1 ah aq a3 #[.string aa.1,.slice af aa.2.1.length ae,.slice an aa.2.2.1.length ak,.slice ao aa.2.2.2.1.length al,.slice ap aa.2.2.2.2.length am]∧[8].map f=[.int .i64 ad]) aa.2.1.length ⟨_,0,_,rfl,rfl,hm,ab,ac,rfl⟩ ?_;clear hm;intro n f aq hI;obtain ⟨ah,ad,aj,hn,hl,hm,ab,ac,hs⟩:=hI;subst hn;refine .lL [8] hs ?_;replace ag:=ag.keep (Zj.start col w0);replace ai:=ai.keep (Zj.start col w0)
 cases aj with
 | nil=>
  have hk:¬ ((ad:Int)<(aa.2.1.length:Int)):=by have:=List.drop_eq_nil_iff.1 hl;omega
  have hkb:=decide_eq_false hk;rw [Zaw.eq_1] at hm;refine go ?_;refine Y7 (congrArg Value.bool hkb)<|go ?_;cases hm;exact ⟨rfl,rfl,ab.below⟩
 | cons bn a4=>
  obtain ⟨av,a7,a8⟩:=Wg hl;have hk:(ad:Int)<(aa.2.1.length:Int):=by omega
  have hkb:=decide_eq_true hk;rw [Zaw.eq_2] at hm;refine go ?_;refine Y8 (congrArg Value.bool hkb)<|go ?_;refine lI av ((ag.ks ab).addr av)<|lW ((ag.ks ab).atStr av)<|Yu rfl<|lAT rfl<|Zk<|Zdc<|Zy ?_;refine Wp.cutK [1,3,6,7,8,1000000] (fun f aw=>∃ ax ay,Zgm aa ad (Zaw aa a4) ay=some r∧St w0 (Zi col) ax aw∧Zn 27 1 ax aw a3 #[.string aa.1,.slice af aa.2.1.length ae,.slice an aa.2.2.1.length ak,.slice ao aa.2.2.2.1.length al,.slice ap aa.2.2.2.2.length am]∧[13].map f=[.bool ay]) ?_ ?_
  ·intro f aw hJ;obtain ⟨ax,ay,hm,ab,ac,hs⟩:=hJ;rw [Zgm.eq_1] at hm;refine .lL [13] hs ?_;refine Zq hm (fun hb hm=>go ?_) fun hb hm=>go ?_
   ·cases hm;exact ⟨rfl,rfl,ab.below⟩
   refine Xc ac<|Xo rfl ?_;obtain ⟨bo,az,hm⟩:=bZ hm;refine lI az ((ai.ks ab).addr az) ?_;obtain ⟨_,a9,ba⟩:=(ai.ks ab).atN az;obtain ⟨⟨bp,bq,rfl,br⟩,_⟩:=a9;refine lW ba.one<|go ?_;refine Zq hm (fun hb hm=>go ?_) fun hb hm=>go ?_
   ·cases hm;exact ⟨rfl,rfl,ab.below⟩
   exact ⟨a4.length,by simp,rfl,⟨_,_,_,rfl,a7,hm,ab,ac,(Wq (congrArg (Value.int .i64) (Wj (Nat.lt_of_lt_of_le a8 (ag.ks ab).1.1))) rfl)⟩⟩
  refine Wd<|Xc ac<|Xo rfl ?_;obtain ⟨a0,hm⟩:=Z3 hm;refine lv (v:=.slice af (Int.toNat (ad:Int)) ae) rfl rfl (V1 underlying22 sizeOf9 rfl rfl a0.1 (by have:=(ag.ks ab).1.2;have:=a0.2;omega))<|.ld (d:=17) (v:=(.slice af ((aa.2.1.take (Int.toNat (ad:Int))).length) ae)) (congrArg (fun n=>Value.slice af n ae) (List.length_take_of_le (show (Int.toNat (ad:Int))≤aa.2.1.length by have:=a0.2;omega)).symm) ?_;refine lMT rfl ?_;obtain ⟨bs,bb,hm⟩:=bZ hm;refine Zh (Zz1 bb ((ag.ks ab).take (Int.toNat (ad:Int)))) ?_;rintro _ a5 ⟨rfl,ar⟩;refine ⟨_,rfl,?_⟩;replace ar:Zg ah aq ah a5:=.of_below ar;refine Yo rfl ?_;replace ac:=ac.gr ar;replace ab:=ab.grow ar;refine Xv hm (fun a1 hm=>go ?_) fun a1 hm=>go ?_
  ·refine lV (.bool true) (Xj (congrArg Value.bool a1) rfl)<|go ?_;exact ⟨rfl,_,_,hm,ab,ac,rfl⟩
  refine Xh ⟨_,_,rfl⟩ ?_;refine go ?_;refine lW ((ac.atN).nth (q:=2) rfl)<|go ?_;obtain ⟨bt,a2,hm⟩:=bZ hm;refine lI a2 ((ai.ks ab).addr a2) ?_;refine go ?_;obtain ⟨_,bc,bd⟩:=(ai.ks ab).atN a2;obtain ⟨⟨bu,bv,rfl,be⟩,_⟩:=bc;refine lW bd.one<|go ?_;obtain ⟨bf,bg,hm⟩:=bZ hm;refine Zh (Zyu bg be) ?_;rintro _ bh ⟨rfl,au⟩;refine ⟨_,rfl,?_⟩;replace au:Zg ah a5 ah bh:=.of_below au;refine lV (.bool bf) (Xs (congrArg Value.bool a1) rfl)<|go ?_;replace ac:=ac.gr au;replace ab:=ab.grow au;exact ⟨rfl,_,_,hm,ab,ac,rfl⟩
def Zgj (aa:Bool) (ab:List Int) (ac:List Int):Option R1:=
  some ((aa,ab),ac)
def Zgi (N:Nat) (aa:R1):Option R1:=
  (Zdy N aa.2).bind fun ab=>if (decide ((ab.length:Int)=0))=true then ((Zay N 1).bind fun ac=>Zgj aa.1.1 aa.1.2 ac) else (Zgj aa.1.1 aa.1.2 aa.2)
theorem Zyq {N am a1:Nat} {an a2:Option Addr} {col:Zf} {w0:World} {ad r:R1} (hm:Zgi N ad=some r) (ai:Sl (Za.int .u32) col w0 an am ad.1.2) (aj:Sl (Za.int .u32) col w0 a2 a1 ad.2):
    Calls Tryz.prog 183 #[(.agg #[.bool ad.1.1,.slice an ad.1.2.length am,.slice a2 ad.2.length a1])] w0 (fun e w'=>∃ (col':Zf) (ra1:Option Addr) (rc2:Nat) (ra4:Option Addr) (rc5:Nat),e= .returned ((.agg #[.bool r.1.1,.slice ra1 r.1.2.length rc2,.slice ra4 r.2.length rc5]))∧Zg col w0 col' w'∧Sl (Za.int .u32) col' w' ra1 rc2 r.1.2∧Sl (Za.int .u32) col' w' ra4 rc5 r.2):=by
 refine X2 (m:=11) func183 rfl rfl rfl ?_;rw [Zgi.eq_1] at hm;have aa:=St.start col w0;refine go ?_;refine Xd (col:=(Zi col)) 1 rfl ?_;intro a3 bj a8 a9 ab;refine Xf (col:=a8) #[.bool false,.slice none (([]:List Int).length) 0,.slice none (([]:List Int).length) 0] 2 zeroValue47 ?_;intro ba bk bm a4 ac;refine Zk<|Zy ?_;replace ai:=ai.keep (Zj.start col w0);replace aj:=aj.keep (Zj.start col w0);replace aa:=(aa.grow a9).grow a4;replace ab:=ab.gr a4;refine Wp.cutK [1,2,1000000] (fun f ae=>∃ af ao ap aq ak ar au al,Zgj ao ak al=some r∧St w0 (Zi col) af ae∧Sl (Za.int .u32) af ae ap aq ak∧Sl (Za.int .u32) af ae ar au al∧Zn 47 1 af ae a3 #[.bool ao,.slice ap ak.length aq,.slice ar al.length au]∧Zn 47 2 af ae ba #[.bool false,.slice none (([]:List Int).length) 0,.slice none (([]:List Int).length) 0]) ?_ ?_
 ·intro f ae hJ;obtain ⟨af,ao,ap,aq,ak,ar,au,al,hm,aa,av,aw,ab,ac⟩:=hJ;rw [Zgj.eq_1] at hm;refine go ?_;refine lV _ (Xa isAgg47 sizeOf47 ab)<|Zw ac ?_;intro bn ax bb bc;refine go ?_;cases hm;replace av:=av.kp ax;replace aw:=aw.kp ax;replace aa:=aa.kp ax bb;exact ⟨rfl,_,ra bc.atN,_,_,_,_,_,rfl,aa.fin (cm []),aa.fs av,aa.fs aw⟩
 refine go ?_;refine Xc ab ?_;obtain ⟨bo,bd,hm⟩:=bZ hm;refine Zh (Znm 3 bd (aj.ks aa)) ?_;rintro _ bp ⟨be,bq,br,rfl,ay,bs⟩;refine ⟨_,rfl,go ?_⟩;replace ab:=ab.gr ay;replace ac:=ac.gr ay;replace aa:=aa.grow ay;refine Zq hm (fun hb hm=>?_) fun hb hm=>?_
 ·refine Wd ?_;obtain ⟨a5,bf,hm⟩:=bZ hm;refine Zh (Zis (col:=be) 4 bf) ?_;rintro _ bt ⟨bg,a6,a7,rfl,az,ag⟩;refine ⟨_,rfl,?_⟩;refine Xh ⟨_,_,rfl⟩ ?_;replace ab:=ab.gr az;refine Zdj (off:=2) (v:=(.slice a6 a5.length a7)) ab sizeOf43 rfl rfl (by intro u hu;simp only [Value.cells,List.mem_cons,List.not_mem_nil,or_false] at hu;subst hu;rfl) rfl rfl ?_;intro bh a0 bi ah;replace ah:Zn 47 1 bg bh a3 #[.bool ad.1.1,.slice an ad.1.2.length am,.slice a6 a5.length a7]:=ah;refine Zk ?_;replace ag:=ag.kp a0;replace ag:=(ag).toSlF (Zl.int .u32);replace ah:=ah.froz 4 (by decide);replace ac:=(ac.gr az).kp a0;replace ac:=ac.froz 4 (by decide);replace aa:=(aa.grow az).kp a0 bi;replace aa:=aa.froz 4 (by decide) (by decide);exact ⟨rfl,_,_,_,_,_,_,_,_,hm,aa,(ai.ks aa),ag,ah,ac⟩
 refine X8 ?_;exact ⟨rfl,_,_,_,_,_,_,_,_,hm,aa,(ai.ks aa),(aj.ks aa),ab,ac⟩
theorem Z0v:W4 Tryz.prog 47 3 56:=⟨Tryz.t47,_,rfl,rfl,rfl,rfl,rfl⟩
def Zcb (N:Nat):List R1→Rc→Option Rc
  | [],ab=>some ab
  | ac :: ad,ab=>(Zgi N ((ac.1.1,ac.1.2),ac.2)).bind fun aa=>Z1 ((ab.length+[((aa.1.1,aa.1.2),aa.2)].length) * 56≤140737488355328∧ab.length+[((aa.1.1,aa.1.2),aa.2)].length≤maxLen) ((Zcb N ad) (ab++[((aa.1.1,aa.1.2),aa.2)]))
termination_by structural x=>x
def Zgk (N:Nat) (aa:Rc):Option Rc:=
  Z1 (aa.length * 56≤281474976710656∧aa.length≤maxLen) (Zcb N aa ([]:List R1))
theorem Zqn {N ar:Nat} {a0:Option Addr} {col:Zf} {w0:World} {ac r:Rc} (c1:Nat) (hm:Zgk N ac=some r) (h0:Sl (Za.pair (Za.pair Za.bool (Za.slice (Za.int .u32))) (Za.slice (Za.int .u32))) col w0 a0 ar ac):
    Calls Tryz.prog 178 #[.slice a0 ac.length ar] w0 (fun e w'=>∃ (col':Zf) (ra1:Option Addr) (rc2:Nat),e= .returned ((.slice ra1 r.length rc2))∧Zg col w0 col' w'∧Zc (Za.pair (Za.pair Za.bool (Za.slice (Za.int .u32))) (Za.slice (Za.int .u32))) 47 c1 col' w' ra1 rc2 r):=by
 refine Xi 2 (m:=22) func178 rfl rfl rfl rfl rfl ?_;rw [Zgk.eq_1] at hm;have ab:=St.start col w0;refine go ?_;obtain ⟨au,hm⟩:=Z3 hm;refine Z1s (col:=(Zi col)) (w:=w0) (r:=(Za.pair (Za.pair Za.bool (Za.slice (Za.int .u32))) (Za.slice (Za.int .u32)))) (n:=ac.length) 1 rfl underlying56 Z0v rfl rfl rfl au.1 au.2 ?_;intro bt bu bv a2 a3;refine go ?_;replace ab:=ab.grow a2;refine Z8 [10,9,1000000] (fun n f ak=>∃ af ad al am ag ae,n=ae.length∧ac.drop ad=ae∧Zcb N ae ag=some r∧St w0 (Zi col) af ak∧Zc (Za.pair (Za.pair Za.bool (Za.slice (Za.int .u32))) (Za.slice (Za.int .u32))) 47 1 af ak al am ag∧[11,3].map f=[.int .i64 ad,.slice al ag.length am]) ac.length ⟨_,0,_,_,_,_,rfl,rfl,hm,ab,a3,rfl⟩ ?_;clear hm;intro n f ak hI;obtain ⟨af,ad,al,am,ag,ae,hn,hl,hm,ab,ah,hs⟩:=hI;subst hn;refine .lL [11,3] hs ?_;replace h0:=h0.keep (Zj.start col w0)
 cases ae with
 | nil=>
  have hk:¬ ((ad:Int)<(ac.length:Int)):=by have:=List.drop_eq_nil_iff.1 hl;omega
  have hkb:=decide_eq_false hk;rw [Zcb.eq_1] at hm;refine go ?_;refine Y7 (congrArg Value.bool hkb)<|go ?_;cases hm;exact ⟨rfl,_,_,_,rfl,ab.fin (cm [(1,c1)]),ab.fo ah⟩
 | cons an a4=>
  obtain ⟨ao,a5,a6⟩:=Wg hl;have hk:(ad:Int)<(ac.length:Int):=by omega
  have hkb:=decide_eq_true hk;rw [Zcb.eq_2] at hm;refine go ?_;refine Y8 (congrArg Value.bool hkb)<|go ?_;refine lI ao ((h0.ks ab).addr ao) ?_;obtain ⟨_,a7,a8⟩:=(h0.ks ab).atN ao;obtain ⟨_,_,rfl,a9,ba⟩:=Y5 a7;obtain ⟨_,_,rfl,bb,bc⟩:=Y5 a9;obtain ⟨rfl,_⟩:=bb;obtain ⟨⟨bd,be,rfl,ap⟩,_⟩:=bc;obtain ⟨⟨bf,bg,rfl,aq⟩,_⟩:=ba;refine lV (.agg #[.bool an.1.1,.slice bd an.1.2.length be,.slice bf an.2.length bg]) (Xn isAgg47 sizeOf47 rfl rfl a8)<|Xf (col:=af) #[.bool false,.slice none (([]:List Int).length) 0,.slice none (([]:List Int).length) 0] 2 zeroValue47 ?_;intro bw bx bz ai bh;refine Zw bh ?_;intro b0 aj bi bj;refine go ?_;refine lV _ (Xa isAgg47 sizeOf47 bj) ?_;obtain ⟨aa,bk,hm⟩:=bZ hm;replace ap:=(ap.gr ai).kp aj;replace aq:=(aq.gr ai).kp aj;refine Zh (Zyq bk ap aq) ?_;rintro _ b1 ⟨bm,av,aw,ax,ay,rfl,az,bn,bo⟩;refine ⟨_,rfl,?_⟩;refine Zb0 (col:=bm) (r:=(Za.pair (Za.pair Za.bool (Za.slice (Za.int .u32))) (Za.slice (Za.int .u32)))) (xs:=[((aa.1.1,aa.1.2),aa.2)]) [(.agg #[.bool aa.1.1,.slice av aa.1.2.length aw,.slice ax aa.2.length ay])] 3 (Ui.ofF (Rows.consF (r:=(Za.pair (Za.pair Za.bool (Za.slice (Za.int .u32))) (Za.slice (Za.int .u32)))) (x:=((aa.1.1,aa.1.2),aa.2)) (cs:=[.bool aa.1.1,.slice av aa.1.2.length aw,.slice ax aa.2.length ay]) (Uf (Uf (Zc7 aa.1.1) (Zah bn)) (Zah bo)) Rows.nil0)) ?_;intro b2 b3 b4 a1 bp;obtain ⟨bq,hm⟩:=Z3 hm;replace ah:=(((ah.gr ai).kp aj).gr az).gr a1;refine Ws ah (bp.srcN (NB.pair (NB.pair NB.bool NB.slice) NB.slice)) bq ?_;intro b5 b6 b7 b8 br bs;refine go ?_;replace ab:=((((ab.grow ai).kp aj bi).grow az).grow a1).kpp br;exact ⟨a4.length,by simp,rfl,⟨_,_,_,_,_,_,rfl,a5,hm,ab,bs,(Wq (congrArg (Value.int .i64) (Wj (Nat.lt_of_lt_of_le a6 (h0.ks ab).1.1))) rfl)⟩⟩
def Zc0 (N:Nat) (ab:List R1) (ac:Int):Nat→Int→Option (List Rc)
  | 0,_=>none
  | ad+1,aa=>if (decide (aa<(ab.length:Int)))=true then (Z1 ((0:Int)≤aa∧aa≤(ab.length:Int)) (Z1 ((0:Int)≤aa∧aa≤(i64.wrap (aa+(if ((ab.drop (Int.toNat aa)).length:Int)<ac then ((ab.drop (Int.toNat aa)).length:Int) else ac)))∧(i64.wrap (aa+(if ((ab.drop (Int.toNat aa)).length:Int)<ac then ((ab.drop (Int.toNat aa)).length:Int) else ac)))≤(i64.wrap (aa+(if ((ab.drop (Int.toNat aa)).length:Int)<ac then ((ab.drop (Int.toNat aa)).length:Int) else ac)))∧(i64.wrap (aa+(if ((ab.drop (Int.toNat aa)).length:Int)<ac then ((ab.drop (Int.toNat aa)).length:Int) else ac)))≤(ab.length:Int)) (((Zc0 N ab ac ad) (i64.wrap (aa+ac))).bind fun ae=>some ((ab.take (Int.toNat (i64.wrap (aa+(if ((ab.drop (Int.toNat aa)).length:Int)<ac then ((ab.drop (Int.toNat aa)).length:Int) else ac))))).drop (Int.toNat aa) :: ae)))) else (some [])
termination_by structural x=>x
def Zl3 (N:Nat) (aa:List R1) (ab:Int):Option (List Rc):=
  Zc0 N aa ab N 0
theorem Zzz (N:Nat) (col:Zf) (w0:World) (g0:Nat) (af0:Option Addr) (capf0:Nat) (ab:List R1) (hf0:Sl (Za.pair (Za.pair Za.bool (Za.slice (Za.int .u32))) (Za.slice (Za.int .u32))) col w0 af0 capf0 ab) (hb0:Zn 56 450 col w0 g0 #[.slice af0 ab.length capf0]) (g1:Nat) (ac:Int) (hb1:Zn 3 450 col w0 g1 #[.int .i64 ac]) (r:List Rc) (hm:Zl3 N ab ac=some r):
    Zp2 Tryz.prog 1 285 [.pointer (some ⟨g0,0,none⟩),.pointer (some ⟨g1,0,none⟩)] (fun (y:List R1) (col:Zf) (w:World) (args:List Value)=>∃ (a0:Option Addr) (ak:Nat),args=[.slice a0 y.length ak]∧Sl (Za.pair (Za.pair Za.bool (Za.slice (Za.int .u32))) (Za.slice (Za.int .u32))) col w a0 ak y) r col w0:=by
 intro l J X hjs hxs hy ad;refine Znz (m:=31) (args:=[.func (.yield l) #[] #[],.pointer (some ⟨g0,0,none⟩),.pointer (some ⟨g1,0,none⟩)]) func285 rfl rfl rfl rfl ?_;rw [Zl3.eq_1] at hm;refine go ?_;refine Z8 [0,1,2,1000000] (fun n f ah=>∃ ae r aa af,af=n∧Zc0 N ab ac af aa=some r∧J r ae ah∧Sl (Za.pair (Za.pair Za.bool (Za.slice (Za.int .u32))) (Za.slice (Za.int .u32))) ae ah af0 capf0 ab∧Zn 56 450 ae ah g0 #[.slice af0 ab.length capf0]∧Zn 3 450 ae ah g1 #[.int .i64 ac]∧[4].map f=[.int .i64 aa]) N ⟨_,_,0,_,rfl,hm,ad,hf0,hb0,hb1,rfl⟩ ?_;clear hm;intro n f ah hI;obtain ⟨ae,r,aa,af,hn,hm,ad,hf0,hb0,hb1,hs⟩:=hI;subst hn;refine .lL [4] hs ?_
 cases af with
 | zero=>rw [Zc0.eq_1] at hm;cases hm
 | succ af=>
  rw [Zc0.eq_2] at hm;refine go ?_;refine lW hb0.at1<|go ?_;refine Zq hm (fun hb hm=>go ?_) fun hb hm=>go ?_
  ·refine Wc (col:=ae) (by kernel_rfl) (by kernel_rfl)<|qW (fun _ hC=>hb1.at1.gr (hC.bl ae)) ?_;refine qW (fun _ hC=>hb0.at1.gr (hC.bl ae)) ?_;refine go ?_;obtain ⟨al,hm⟩:=Z3 hm;have ap:=hf0.drop (sz:=3) rfl (Int.toNat aa);refine qv (v:=.slice (if capf0=(Int.toNat aa) then af0 else af0.map (·.add ((Int.toNat aa) * 3))) (ab.length - (Int.toNat aa)) (capf0 - (Int.toNat aa))) rfl (fun _ hC=>Zvf underlying56 sizeOf47 rfl rfl al.1 al.2) ?_;generalize (if capf0=(Int.toNat aa) then af0 else af0.map (·.add ((Int.toNat aa) * 3)))=am at *;refine .ld (d:=16) (v:=(.slice am ((ab.drop (Int.toNat aa)).length) (capf0 - (Int.toNat aa)))) (congrArg (fun n=>Value.slice am n (capf0 - (Int.toNat aa))) (List.length_drop (i:=(Int.toNat aa)) (l:=ab)).symm) ?_;refine go ?_;refine qv (v:=(.int .i64 (if ((ab.drop (Int.toNat aa)).length:Int)<ac then ((ab.drop (Int.toNat aa)).length:Int) else ac))) rfl (fun _ hC=>Zms ac ((ab.drop (Int.toNat aa)).length:Int) rfl rfl) ?_;refine go ?_;refine Yf ?_;intro aq hC;replace hC:=hC.bl ae;replace hf0:=hf0.gr hC;replace hb0:=hb0.gr hC;replace hb1:=hb1.gr hC;replace ad:=hjs _ _ _ _ _ ad hC.toP;refine go ?_;refine lM (.func (.yield l) #[] #[])<|lW hb0.at1<|go ?_;obtain ⟨ag,hm⟩:=Z3 hm;have an:=((hf0.take (Int.toNat (i64.wrap (aa+(if ((ab.drop (Int.toNat aa)).length:Int)<ac then ((ab.drop (Int.toNat aa)).length:Int) else ac))))).recap (show (ab.take (Int.toNat (i64.wrap (aa+(if ((ab.drop (Int.toNat aa)).length:Int)<ac then ((ab.drop (Int.toNat aa)).length:Int) else ac))))).length≤(Int.toNat (i64.wrap (aa+(if ((ab.drop (Int.toNat aa)).length:Int)<ac then ((ab.drop (Int.toNat aa)).length:Int) else ac)))) by rw [List.length_take (i:=(Int.toNat (i64.wrap (aa+(if ((ab.drop (Int.toNat aa)).length:Int)<ac then ((ab.drop (Int.toNat aa)).length:Int) else ac))))) (l:=ab)];have:=ag.2;omega)).drop (sz:=3) rfl (Int.toNat aa);refine lv (v:=.slice (if (Int.toNat (i64.wrap (aa+(if ((ab.drop (Int.toNat aa)).length:Int)<ac then ((ab.drop (Int.toNat aa)).length:Int) else ac))))=(Int.toNat aa) then af0 else af0.map (·.add ((Int.toNat aa) * 3))) ((Int.toNat (i64.wrap (aa+(if ((ab.drop (Int.toNat aa)).length:Int)<ac then ((ab.drop (Int.toNat aa)).length:Int) else ac)))) - (Int.toNat aa)) ((Int.toNat (i64.wrap (aa+(if ((ab.drop (Int.toNat aa)).length:Int)<ac then ((ab.drop (Int.toNat aa)).length:Int) else ac)))) - (Int.toNat aa))) rfl rfl (Z3q underlying56 sizeOf47 rfl rfl rfl rfl ag.1 ag.2.1 ag.2.2.1 (by have:=hf0.1.2;have:=ag.2.2.2;omega)) ?_
   generalize (if (Int.toNat (i64.wrap (aa+(if ((ab.drop (Int.toNat aa)).length:Int)<ac then ((ab.drop (Int.toNat aa)).length:Int) else ac))))=(Int.toNat aa) then af0 else af0.map (·.add ((Int.toNat aa) * 3)))=ai at *;refine .ld (d:=28) (v:=(.slice ai (((ab.take (Int.toNat (i64.wrap (aa+(if ((ab.drop (Int.toNat aa)).length:Int)<ac then ((ab.drop (Int.toNat aa)).length:Int) else ac))))).drop (Int.toNat aa)).length) ((Int.toNat (i64.wrap (aa+(if ((ab.drop (Int.toNat aa)).length:Int)<ac then ((ab.drop (Int.toNat aa)).length:Int) else ac)))) - (Int.toNat aa)))) (congrArg (fun n=>Value.slice ai n ((Int.toNat (i64.wrap (aa+(if ((ab.drop (Int.toNat aa)).length:Int)<ac then ((ab.drop (Int.toNat aa)).length:Int) else ac)))) - (Int.toNat aa))) (show (Int.toNat (i64.wrap (aa+(if ((ab.drop (Int.toNat aa)).length:Int)<ac then ((ab.drop (Int.toNat aa)).length:Int) else ac)))) - (Int.toNat aa)=((ab.take (Int.toNat (i64.wrap (aa+(if ((ab.drop (Int.toNat aa)).length:Int)<ac then ((ab.drop (Int.toNat aa)).length:Int) else ac))))).drop (Int.toNat aa)).length by rw [List.length_drop (i:=(Int.toNat aa)) (l:=ab.take (Int.toNat (i64.wrap (aa+(if ((ab.drop (Int.toNat aa)).length:Int)<ac then ((ab.drop (Int.toNat aa)).length:Int) else ac))))),List.length_take (i:=(Int.toNat (i64.wrap (aa+(if ((ab.drop (Int.toNat aa)).length:Int)<ac then ((ab.drop (Int.toNat aa)).length:Int) else ac))))) (l:=ab)];have:=ag.2;omega)) ?_;obtain ⟨ar,hc_14m,ao⟩:=bZ hm;cases ao;have hm:=hc_14m;refine ly1 rfl rfl rfl (hy _ _ _ _ [(.slice ai (((ab.take (Int.toNat (i64.wrap (aa+(if ((ab.drop (Int.toNat aa)).length:Int)<ac then ((ab.drop (Int.toNat aa)).length:Int) else ac))))).drop (Int.toNat aa)).length) ((Int.toNat (i64.wrap (aa+(if ((ab.drop (Int.toNat aa)).length:Int)<ac then ((ab.drop (Int.toNat aa)).length:Int) else ac)))) - (Int.toNat aa)))] ad ⟨ai,((Int.toNat (i64.wrap (aa+(if ((ab.drop (Int.toNat aa)).length:Int)<ac then ((ab.drop (Int.toNat aa)).length:Int) else ac)))) - (Int.toNat aa)),rfl,an⟩) ?_;rintro _ au ⟨av,aj,⟨rfl,hJ⟩ | ⟨rfl,hX⟩⟩
   ·refine ⟨_,rfl,?_⟩;have ad:=hJ;refine go ?_;refine Y7 rfl<|go ?_;replace hb1:=hb1.kpp aj;refine lW hb1.at1<|go ?_;replace hf0:=hf0.kpp aj;replace hb0:=hb0.kpp aj;exact ⟨af,by omega,rfl,⟨_,_,_,_,rfl,hm,ad,hf0,hb0,hb1,rfl⟩⟩
   refine ⟨_,rfl,?_⟩;have ad:=hX;refine go ?_;refine Y8 rfl<|Ys ?_;exact ⟨rfl,⟨_,rfl⟩,_,.inr ad⟩
  cases hm;exact ⟨rfl,⟨_,rfl⟩,_,.inl ad⟩
def Zl4 (N:Nat) (aa:Rc) (ab:Int):Option (List Rc):=
  Zl3 N aa ab
def Zl2 (N:Nat) (ab:Rc) (aa:Int):Option (List Rc):=
  if (decide (aa<1))=true then none else (Zl4 N ab aa)
theorem Zzy {N aa:Nat} {a0:Option Addr} {col:Zf} {w0:World} {ac:Rc} {ad:Int} {r:(List Rc)} (hm:Zl2 N ac ad=some r) (h0:Sl (Za.pair (Za.pair Za.bool (Za.slice (Za.int .u32))) (Za.slice (Za.int .u32))) col w0 a0 aa ac):
    Calls Tryz.prog 254 #[.slice a0 ac.length aa,.int .i64 ad] w0 (fun e w'=>∃ (col':Zf) (rv1:Value),e= .returned (rv1)∧Zg col w0 col' w'∧It Tryz.prog 1 rv1 (fun (y:List R1) (col:Zf) (w:World) (args:List Value)=>∃ (a0:Option Addr) (aa:Nat),args=[.slice a0 y.length aa]∧Sl (Za.pair (Za.pair Za.bool (Za.slice (Za.int .u32))) (Za.slice (Za.int .u32))) col w a0 aa y) r q0 col' w'):=by
 refine Xi 4 (m:=9) func254 rfl rfl rfl rfl rfl ?_;rw [Zl2.eq_1] at hm;have ab:=St.start col w0;refine go ?_;refine Zln (col:=(Zi col)) (v:=(.slice a0 ac.length aa)) 1 rfl rfl ?_;intro af ap an aq ae;replace ae:Zn 56 1 an ap af #[.slice a0 ac.length aa]:=ae;refine Zln (col:=an) (v:=(.int .i64 ad)) 2 rfl rfl ?_;intro ag ar au ao ah;replace ah:Zn 3 2 au ar ag #[.int .i64 ad]:=ah;refine lv (v:=_) rfl rfl (Uq rfl)<|Zk<|Zy ?_;replace h0:=h0.keep (Zj.start col w0);replace ab:=(ab.grow aq).grow ao;replace ae:=ae.gr ao;refine Wp.cutK [2,3,1000000] (fun f aj=>∃ ai,Zl4 N ac ad=some r∧St w0 (Zi col) ai aj∧Zn 56 1 ai aj af #[.slice a0 ac.length aa]∧Zn 3 2 ai aj ag #[.int .i64 ad]) ?_ ?_
 ·intro f aj hJ;obtain ⟨ai,hm,ab,ae,ah⟩:=hJ;rw [Zl4.eq_1] at hm;refine go ?_;refine lV (.func (.func 285) #[] #[.pointer (some ⟨af,0,none⟩),.pointer (some ⟨ag,0,none⟩)]) (Z3i rfl rfl)<|lA (.func (.func 285) #[] #[.pointer (some ⟨af,0,none⟩),.pointer (some ⟨ag,0,none⟩)])<|go ?_;have ak:=ab.finBox (G:=(fun n=>bif Nat.beq n 1 then 450 else bif Nat.beq n 2 then 450 else 0)) ae (by decide) (by decide) (show (fun n=>bif Nat.beq n 1 then 450 else bif Nat.beq n 2 then 450 else 0) 1=450 from rfl);have h0f:=ab.finSl (g:=(fun n=>bif Nat.beq n 1 then 450 else bif Nat.beq n 2 then 450 else 0)) rfl (h0.ks ab);have al:=ab.finBox (G:=(fun n=>bif Nat.beq n 1 then 450 else bif Nat.beq n 2 then 450 else 0)) ah (by decide) (by decide) (show (fun n=>bif Nat.beq n 1 then 450 else bif Nat.beq n 2 then 450 else 0) 2=450 from rfl);refine ⟨rfl,Tr w0.heap.size col ai (fun n=>bif Nat.beq n 1 then 450 else bif Nat.beq n 2 then 450 else 0),_,rfl,ab.fin (fun n=>bif Nat.beq n 1 then 450 else bif Nat.beq n 2 then 450 else 0),285,[.pointer (some ⟨af,0,none⟩),.pointer (some ⟨ag,0,none⟩)],rfl,call285,?_⟩;intro col9 w9 am hk9;replace ak:=ak.itk am hk9 rfl;replace h0f:=h0f.itk am hk9 rfl;replace al:=al.itk am hk9 rfl;exact Zzz N col9 w9 af a0 aa ac h0f ak ag ad al r hm
 refine go ?_;refine lW ah.at1<|go ?_;refine Zq hm (fun hb hm=>?_) fun hb hm=>?_
 ·cases hm
 refine X8 ?_;exact ⟨rfl,_,hm,ab,ae,ah⟩
def Zgn (N:Nat):Option R1:=
  (Zi9 N 1 1).bind fun aa=>some ((aa.1.1.1,aa.1.1.2),aa.1.2)
theorem Zqo {N:Nat} {col:Zf} {w0:World} {r:R1} (c1 c2:Nat) (hm:Zgn N=some r):
    Calls Tryz.prog 182 #[] w0 (fun e w'=>∃ (col':Zf) (ra1:Option Addr) (rc2:Nat) (ra4:Option Addr) (rc5:Nat),e= .returned ((.agg #[.bool r.1.1,.slice ra1 r.1.2.length rc2,.slice ra4 r.2.length rc5]))∧Zg col w0 col' w'∧Zc (Za.int .u32) 79 c1 col' w' ra1 rc2 r.1.2∧Zc (Za.int .u32) 79 c2 col' w' ra4 rc5 r.2):=by
 refine X2 (m:=8) func182 rfl rfl rfl ?_;rw [Zgn.eq_1] at hm;have ab:=St.start col w0;refine go ?_;refine Xf (col:=(Zi col)) #[.bool false,.slice none (([]:List Int).length) 0,.slice none (([]:List Int).length) 0] 1 zeroValue47 ?_;intro ay az an ao ae;refine go ?_;obtain ⟨aa,ap,hm⟩:=bZ hm;refine Zh (Zyj (col:=an) 2 3 ap) ?_;rintro _ a0 ⟨aq,ai,aj,ak,al,rfl,am,af,ag⟩;refine ⟨_,rfl,?_⟩;refine lM (.tuple #[(.agg #[.bool aa.1.1.1,.slice ai aa.1.1.2.length aj,.slice ak aa.1.2.length al]),.int .i64 aa.2])<|lV (.agg #[.bool aa.1.1.1,.slice ai aa.1.1.2.length aj,.slice ak aa.1.2.length al]) (Xl rfl rfl)<|lV (.int .i64 aa.2) (Xl rfl rfl)<|Xf (col:=aq) #[.bool false,.slice none (([]:List Int).length) 0,.slice none (([]:List Int).length) 0] 4 zeroValue47 ?_;intro a1 a2 a3 ac ar;refine Zw ar ?_;intro a4 ad au av;refine go ?_;refine lV _ (Xa isAgg47 sizeOf47 av) ?_;replace ae:=((ae.gr am).gr ac).kp ad;refine Zw ae ?_;intro a5 ah aw ax;refine go ?_;cases hm;replace ab:=((((ab.grow ao).grow am).grow ac).kp ad au).kp ah aw;replace af:=((af.gr ac).kp ad).kp ah;replace ag:=((ag.gr ac).kp ad).kp ah;exact ⟨rfl,_,ra ax.atN,_,_,_,_,_,rfl,ab.fin (cm [(2,c1),(3,c2)]),ab.fo af,ab.fo ag⟩
def Zom (aa:Bool):Option Bool:=
  some aa
def Zdu (N:Nat):List Rc→Bool→Option Bool
  | [],ac=>some true
  | ad :: ae,ac=>(Zdp N ad).bind fun aa=>(Zgn N).bind fun ab=>(Zb5 N ((aa.1.1,aa.1.2),aa.2) ((ab.1.1,ab.1.2),ab.2)).bind fun af=>if (!decide (af=0))=true then (Zom false) else ((Zdu N ae) ac)
termination_by structural x=>x
def Zjf (N:Nat) (aa:Rc) (ab:Int):Option Bool:=
  (Zl2 N aa ab).bind fun ac=>Zdu N ac false
theorem Zyv {N ah:Nat} {a0:Option Addr} {col:Zf} {w0:World} {am:Rc} {ao:Int} {r:Bool} (hm:Zjf N am ao=some r) (h0:Sl (Za.pair (Za.pair Za.bool (Za.slice (Za.int .u32))) (Za.slice (Za.int .u32))) col w0 a0 ah am):
    Calls Tryz.prog 180 #[.slice a0 am.length ah,.int .i64 ao] w0 (fun e w'=>e= .returned ((.bool r))∧Below w0.heap.size w0 w'):=by
 refine Z0a (m:=15) (args:=[.slice a0 am.length ah,.int .i64 ao]) func180 rfl rfl rfl ?_;rw [Zjf.eq_1] at hm;have aa:=St.start col w0;replace h0:=h0.keep (Zj.start col w0);have hmk:Wv 499 (Zi col) w0 []:=.nil;refine go ?_;refine Zof (col:=(Zi col)) (v:=(.bool false)) 1 rfl zeroValue4 ?_;intro ai a4 a5 ax ab;replace ab:Zn 4 1 a5 a4 ai #[.bool false]:=ab;refine go ?_;obtain ⟨a6,a7,hm⟩:=bZ hm;replace aa:=aa.grow ax;refine Zh (Zzy a7 (h0.ks aa)) ?_;rintro _ bq ⟨a8,br,rfl,ap,a9⟩;refine ⟨_,rfl,go ?_⟩;replace hmk:=(hmk.gr ax).gr ap;replace ab:=ab.gr ap;replace aa:=aa.grow ap;refine Z44 (psl:=[9]) (arr:=(fun (y:List R1) (col:Zf) (w:World) (args:List Value)=>∃ (a0:Option Addr) (ah:Nat),args=[.slice a0 y.length ah]∧Sl (Za.pair (Za.pair Za.bool (Za.slice (Za.int .u32))) (Za.slice (Za.int .u32))) col w a0 ah y)) (ys:=a6) (col:=a8) 498 rfl a9 rfl hmk rfl rfl (by rintro _ _ _ _ ⟨_,_,rfl,_⟩;rfl) (fun ys_ ad ae=>∃ (ac:Bool),Zdu N ys_ ac=some r∧St w0 (Zi col) ad ae∧Zn 4 1 ad ae ai #[.bool ac]) (fun c_ ad ae=>(c_= .ret∧∃ (ac:Bool),Zom ac=some r∧St w0 (Zi col) ad ae∧Zn 4 1 ad ae ai #[.bool ac])) ?_ ?_ ⟨false,hm,aa,ab⟩ ?_ ?_ ?_
 ·intro ys_ ad ae col2_ w2_ hJ hk;obtain ⟨ac,hm,aa,ab⟩:=hJ;exact ⟨ac,hm,aa.kpp hk rfl rfl,ab.kpp hk rfl⟩
 ·intro c_ ad ae col2_ w2_ hX hk;obtain ⟨rfl,hX⟩:=hX;obtain ⟨ac,hm,aa,ab⟩:=hX;exact ⟨rfl,⟨ac,hm,aa.kpp hk rfl rfl,ab.kpp hk rfl⟩⟩
 ·intro bs bt bu bv bw ad ae args hJ hrec hmk harr;obtain ⟨ac,hm,aa,ab⟩:=hJ;rw [Zdu.eq_2] at hm;have hki:=Zz.refl (pC 1) ad ae;obtain ⟨bx,bz,rfl,aq⟩:=harr;refine go ?_;refine ⟨_,hrec,?_⟩;intro b0 b1 aj ay hrec2;have hrec:=hrec2;refine go ?_;obtain ⟨b2,ba,hm⟩:=bZ hm;replace aq:=aq.kp aj;refine Zh (Zql 2 3 ba aq) ?_;rintro _ b3 ⟨bb,b4,b5,b6,b7,rfl,ak,ar,au⟩;refine ⟨_,rfl,?_⟩;obtain ⟨b8,bc,hm⟩:=bZ hm;refine lc rfl rfl (Zbn call182) (Zqo (col:=bb) 4 5 bc:) ?_;rintro _ bd ⟨av,b9,ca,cb,cc,rfl,af,be,bf⟩;refine ⟨_,rfl,?_⟩;obtain ⟨cd,bg,hm⟩:=bZ hm;replace ar:=ar.gr af;replace au:=au.gr af;refine Zh (Zni bg ((((ar.toSlF (Zl.int .u32)).froz 3).froz 4).froz 5) ((((au.froz 2 (by decide)).toSlF (Zl.int .u32)).froz 4).froz 5) ((((be.froz 2 (by decide)).froz 3 (by decide)).toSlF (Zl.int .u32)).froz 5) ((((bf.froz 2 (by decide)).froz 3 (by decide)).froz 4 (by decide)).toSlF (Zl.int .u32))) ?_;rintro _ bh ⟨rfl,ag⟩;refine ⟨_,rfl,?_⟩;replace ag:Zg av bd av bh:=.of_below ag;refine go ?_;replace ab:=(((ab.kp aj).gr ak).gr af).gr ag;replace hmk:=(((hmk.kp aj).gr ak).gr af).gr ag;replace hki:=(((hki.kp aj ay rfl).gr ak).gr af).gr ag;replace aa:=(((aa.kp aj ay).grow ak).grow af).grow ag;replace hrec:=((hrec.gr ak).gr af).gr ag;refine Zq hm (fun hb hm=>go ?_) fun hb hm=>?_
  ·refine Zi1 (v:=(.bool false)) ab sizeOf4 rfl rfl (by intro u hu;simp only [Value.cells,List.mem_cons,List.not_mem_nil,or_false] at hu;subst hu;rfl) rfl rfl ?_;intro bi an az aw;replace aw:Zn 4 1 av bi ai #[.bool false]:=aw;refine go ?_;replace hrec:=hrec.kp an;replace hmk:=hmk.kp an;replace hki:=hki.kp an az rfl;replace aa:=aa.kp an az;exact ⟨_,hki,⟨rfl,⟨false,hm,aa,aw⟩⟩,hrec,hmk⟩
  refine X8 ?_;exact ⟨_,hki,⟨ac,hm,aa,ab⟩,hrec,hmk⟩
 ·intro bj ad ae hJ hmk;obtain ⟨ac,hm,aa,ab⟩:=hJ;rw [Zdu.eq_1] at hm;refine go ?_;refine Zi1 (v:=(.bool true)) ab sizeOf4 rfl rfl (by intro u hu;simp only [Value.cells,List.mem_cons,List.not_mem_nil,or_false] at hu;subst hu;rfl) rfl rfl ?_;intro bk a1 bm al;replace al:Zn 4 1 ad bk ai #[.bool true]:=al;refine go ?_;cases hm;replace hmk:=hmk.kp a1;refine ⟨_,(bj :: []),rfl,hmk,?_⟩;intro ce a2 bn;replace aa:=(aa.kp a1 bm).kp a2 bn;replace al:=al.kp a2;exact ⟨_,Zvw rfl rfl isAgg4 rfl al.at1,rfl,aa.below⟩
 intro c_ bo ad ae hX hmk;obtain ⟨rfl,hX⟩:=hX;obtain ⟨ac,hm,aa,ab⟩:=hX;rw [Zom.eq_1] at hm;refine Ys ?_;cases hm;refine ⟨_,(bo :: []),rfl,hmk,?_⟩;intro cf a3 bp;replace ab:=ab.kp a3;replace aa:=aa.kp a3 bp;exact ⟨_,Zvw rfl rfl isAgg4 rfl ab.at1,rfl,aa.below⟩
def Zgp (aa:Bool):Option Bool:=
  some aa
def Zgo (N:Nat) (aa:R1):Option Bool:=
  (Zb6 N ((aa.1.1,aa.1.2),aa.2)).bind fun ac=>if (decide (ac<0))=true then (Zgp true) else ((Zgn N).bind fun ab=>(Zb5 N ((aa.1.1,aa.1.2),aa.2) ((ab.1.1,ab.1.2),ab.2)).bind fun ad=>Zgp (decide (0<ad)))
theorem Zys {N al am:Nat} {an ao:Option Addr} {col:Zf} {w0:World} {ac:R1} {r:Bool} (hm:Zgo N ac=some r) (ah:Sl (Za.int .u32) col w0 an al ac.1.2) (ai:Sl (Za.int .u32) col w0 ao am ac.2):
    Calls Tryz.prog 179 #[(.agg #[.bool ac.1.1,.slice an ac.1.2.length al,.slice ao ac.2.length am])] w0 (fun e w'=>e= .returned ((.bool r))∧Below w0.heap.size w0 w'):=by
 refine Xi 2 (m:=12) func179 rfl rfl rfl rfl rfl ?_;rw [Zgo.eq_1] at hm;have aa:=St.start col w0;refine go ?_;refine Xd (col:=(Zi col)) 1 rfl ?_;intro a6 a7 ab ay aj;refine Zfq rfl<|Zk<|Zy ?_;replace ah:=ah.keep (Zj.start col w0);replace ai:=ai.keep (Zj.start col w0);replace aa:=aa.grow ay;refine Wp.cutK [1000000] (fun f av=>∃ aw ap,Zgp ap=some r∧St w0 (Zi col) aw av∧[2].map f=[.bool ap]) ?_ ?_
 ·intro f av hJ;obtain ⟨aw,ap,hm,aa,hs⟩:=hJ;rw [Zgp.eq_1] at hm;refine .lL [2] hs<|Ys ?_;cases hm;exact ⟨rfl,rfl,aa.below⟩
 refine Yv (col:=ab) [(0,0),(1,3),(2,1),(3,1),(4,0),(5,3),(6,3),(7,1),(8,1),(9,1)] (by kernel_rfl) (by kernel_rfl)<|xv rfl rfl (fun _ hC=>Xa isAgg47 sizeOf47 (aj.gr (hC.bl ab))) ?_;refine xe rfl rfl ?_;intro az hC0;have hC:=hC0.bl ab;obtain ⟨ae,a0,hm⟩:=bZ hm;replace aa:=aa.grow hC;refine Zh (Zqj a0 (ah.ks aa) (ai.ks aa)) ?_;rintro _ a1 ⟨rfl,ag⟩;refine ⟨_,rfl,?_⟩;replace ag:Zg ab az ab a1:=.of_below ag;refine Zk<|Xg ab hC0 ag<|xu rfl rfl (fun _=>Zmq _ _ rfl rfl) ?_;refine xu rfl rfl (fun _=>Zva rfl) ?_;replace aj:=(aj.gr hC).gr ag;replace aa:=aa.grow ag;refine Xv hm (fun ad hm=>?_) fun ad hm=>?_
 ·refine Zdd (b:=decide (ae<0)) 6 rfl rfl rfl rfl rfl (by rw [ad];rfl)<|Zdd (b:=decide (ae<0)) 6 rfl rfl rfl rfl rfl (by rw [ad];rfl)<|Zdd (b:=decide (ae<0)) 6 rfl rfl rfl rfl rfl (by rw [ad];rfl)<|Zdd (b:=decide (ae<0)) 6 rfl rfl rfl rfl rfl (by rw [ad];rfl)<|xu (v:=(.bool true)) rfl rfl (fun _=>Xj (congrArg Value.bool ad) rfl) ?_;refine xu rfl rfl (fun _=>Zki rfl) ?_;refine Yn ?_;intro a8 hC;replace hC:=hC.bl ab;replace aa:=aa.grow hC;exact ⟨rfl,_,_,hm,aa,rfl⟩
 refine Zxs (v:=(.agg #[.bool ac.1.1,.slice an ac.1.2.length al,.slice ao ac.2.length am])) (b:=decide (ae<0)) 6 rfl rfl rfl rfl rfl (by rw [ad];rfl) (fun _ hC=>Xn isAgg47 sizeOf47 rfl rfl (aj.atN.gr (hC.bl ab))) ?_;refine xe rfl rfl ?_;intro a9 hC0;have hC:=hC0.bl ab;refine go ?_;obtain ⟨ba,a2,hm⟩:=bZ hm;refine lc rfl rfl (Zbn call182) (Zqo (col:=ab) 6 7 a2:) ?_;rintro _ bb ⟨af,bc,bd,be,bf,rfl,ax,aq,ar⟩;refine ⟨_,rfl,?_⟩;refine Zk<|Xg af hC0 ax<|xe rfl rfl ?_;intro a3 hC0;replace aa:=(aa.grow hC).grow ax;have hC:=hC0.bl af;refine go ?_;obtain ⟨au,a4,hm⟩:=bZ hm;replace aq:=aq.gr hC;replace ar:=ar.gr hC;replace aa:=aa.grow hC;refine Zh (Zni a4 (((ah.ks aa).froz 6).froz 7) (((ai.ks aa).froz 6).froz 7) ((aq.toSlF (Zl.int .u32)).froz 7) ((ar.froz 6 (by decide)).toSlF (Zl.int .u32))) ?_;rintro _ a5 ⟨rfl,ak⟩;refine ⟨_,rfl,?_⟩;replace ak:Zg af a3 af a5:=.of_below ak;refine Zk<|Xg af hC0 ak<|Zxr (v:=(.bool (decide (0<au)))) (b:=decide (ae<0)) 6 rfl rfl rfl rfl rfl (by rw [ad];rfl) (fun _=>Zmo au 0 rfl rfl) ?_;refine xu (v:=(.bool (decide (0<au)))) rfl rfl (fun _=>Xs (congrArg Value.bool ad) rfl) ?_;refine xu rfl rfl (fun _=>Zki rfl) ?_;refine Yn ?_;intro bg hC;replace hC:=hC.bl af;replace aa:=(aa.grow ak).grow hC;exact ⟨rfl,_,_,hm,aa,rfl⟩
def Ze2 (N:Nat):List R1→Nat→Option Int
  | [],aa=>some (-1)
  | ab :: ac,aa=>(Zgo N ((ab.1.1,ab.1.2),ab.2)).bind fun ad=>if ad=true then (some (aa:Int)) else ((Ze2 N ac) (aa+1))
termination_by structural x=>x
def Zl6 (N:Nat) (aa:Rc):Option Int:=
  Ze2 N aa 0
theorem Zz2 {N aj:Nat} {a0:Option Addr} {col:Zf} {w0:World} {ab:Rc} {r:Int} (hm:Zl6 N ab=some r) (h0:Sl (Za.pair (Za.pair Za.bool (Za.slice (Za.int .u32))) (Za.slice (Za.int .u32))) col w0 a0 aj ab):
    Calls Tryz.prog 253 #[.slice a0 ab.length aj,(.func (.func 179) #[] #[])] w0 (fun e w'=>e= .returned ((.int .i64 r))∧Below w0.heap.size w0 w'):=by
 refine Xi 4 (m:=19) func253 rfl rfl rfl rfl rfl ?_;rw [Zl6.eq_1] at hm;have aa:=St.start col w0;refine go ?_;refine Z8 [0,1,7,1000000] (fun n f af=>∃ ae ac ad,n=ad.length∧ab.drop ac=ad∧Ze2 N ad ac=some r∧St w0 (Zi col) ae af∧[8].map f=[.int .i64 ac]) ab.length ⟨_,0,_,rfl,rfl,hm,aa,rfl⟩ ?_;clear hm;intro n f af hI;obtain ⟨ae,ac,ad,hn,hl,hm,aa,hs⟩:=hI;subst hn;refine .lL [8] hs ?_;replace h0:=h0.keep (Zj.start col w0)
 cases ad with
 | nil=>
  have hk:¬ ((ac:Int)<(ab.length:Int)):=by have:=List.drop_eq_nil_iff.1 hl;omega
  have hkb:=decide_eq_false hk;rw [Ze2.eq_1] at hm;refine go ?_;refine Y7 (congrArg Value.bool hkb)<|go ?_;cases hm;exact ⟨rfl,rfl,aa.below⟩
 | cons ag ak=>
  obtain ⟨ah,al,am⟩:=Wg hl;have hk:(ac:Int)<(ab.length:Int):=by omega
  have hkb:=decide_eq_true hk;rw [Ze2.eq_2] at hm;refine go ?_;refine Y8 (congrArg Value.bool hkb)<|go ?_;refine lM (.func (.func 179) #[] #[])<|go ?_;refine lI ah ((h0.ks aa).addr ah) ?_;obtain ⟨_,an,ao⟩:=(h0.ks aa).atN ah;obtain ⟨_,_,rfl,ap,aq⟩:=Y5 an;obtain ⟨_,_,rfl,ar,au⟩:=Y5 ap;obtain ⟨rfl,_⟩:=ar;obtain ⟨⟨av,aw,rfl,ax⟩,_⟩:=au;obtain ⟨⟨ay,az,rfl,a1⟩,_⟩:=aq;refine lV (.agg #[.bool ag.1.1,.slice av ag.1.2.length aw,.slice ay ag.2.length az]) (Xn isAgg47 sizeOf47 rfl rfl ao) ?_;obtain ⟨a4,a2,hm⟩:=bZ hm;refine lc rfl rfl (Z3e call179 rfl rfl) (Zys a2 ax a1:) ?_;rintro _ a3 ⟨rfl,ai⟩;refine ⟨_,rfl,?_⟩;replace ai:Zg ae af ae a3:=.of_below ai;refine Zk ?_;replace aa:=aa.grow ai;refine Zq hm (fun hb hm=>go ?_) fun hb hm=>go ?_
  ·cases hm;exact ⟨rfl,rfl,aa.below⟩
  exact ⟨ak.length,by simp,rfl,⟨_,_,_,rfl,al,hm,aa,(Wq (congrArg (Value.int .i64) (Wj (Nat.lt_of_lt_of_le am (h0.ks aa).1.1))) rfl)⟩⟩
def Zl5 (N:Nat) (aa:Rc):Option Bool:=
  (Zl6 N aa).bind fun ab=>some (decide (0≤ab))
theorem Zz0 {N ad:Nat} {a0:Option Addr} {col:Zf} {w0:World} {ab:Rc} {r:Bool} (hm:Zl5 N ab=some r) (h0:Sl (Za.pair (Za.pair Za.bool (Za.slice (Za.int .u32))) (Za.slice (Za.int .u32))) col w0 a0 ad ab):
    Calls Tryz.prog 177 #[.slice a0 ab.length ad,(.func (.func 179) #[] #[])] w0 (fun e w'=>e= .returned ((.bool r))∧Below w0.heap.size w0 w'):=by
 refine Xi 4 (m:=9) func177 rfl rfl rfl rfl rfl ?_;rw [Zl5.eq_1] at hm;have aa:=St.start col w0;refine go ?_;refine lM (.func (.func 179) #[] #[]) ?_;obtain ⟨ag,ae,hm⟩:=bZ hm;replace h0:=h0.keep (Zj.start col w0);refine Zh (Zz2 ae (h0.ks aa)) ?_;rintro _ af ⟨rfl,ac⟩;refine ⟨_,rfl,?_⟩;replace ac:Zg (Zi col) w0 (Zi col) af:=.of_below ac;refine go ?_;cases hm;replace aa:=aa.grow ac;exact ⟨rfl,rfl,aa.below⟩
def Zdt (ab:R0):List Int→Int→Option Int
  | [],aa=>some aa
  | ad :: ae,aa=>(Zo ab.2.2.1 ad).bind fun ac=>(Zdt ab ae) (if 1099511627776<(i64.wrap (aa * (ac.length:Int))) then 1099511627776 else (i64.wrap (aa * (ac.length:Int))))
termination_by structural x=>x
def Zgq (aa:R0) (ab:Int):Option Int:=
  (Zo aa.2.2.2.1 ab).bind fun ac=>Zdt aa ac 1
theorem Zyt {am an ao ap:Nat} {aq ar au av:Option Addr} {col:Zf} {w0:World} {aa:R0} {a0 r:Int} (hm:Zgq aa a0=some r) (bc:Sl Za.str col w0 aq am aa.2.1) (ai:Sl (Za.slice Za.str) col w0 ar an aa.2.2.1) (aj:Sl (Za.slice (Za.int .i64)) col w0 au ao aa.2.2.2.1) (bd:Sl (Za.slice (Za.pair (Za.pair Za.bool (Za.slice (Za.int .u32))) (Za.slice (Za.int .u32)))) col w0 av ap aa.2.2.2.2):
    Calls Tryz.prog 176 #[(.agg #[.string aa.1,.slice aq aa.2.1.length am,.slice ar aa.2.2.1.length an,.slice au aa.2.2.2.1.length ao,.slice av aa.2.2.2.2.length ap]),.int .i64 a0] w0 (fun e w'=>e= .returned ((.int .i64 r))∧Below w0.heap.size w0 w'):=by
 refine Xi 4 (m:=29) func176 rfl rfl rfl rfl rfl ?_;rw [Zgq.eq_1] at hm;have ab:=St.start col w0;refine go ?_;refine Xd (col:=(Zi col)) 1 rfl ?_;intro a1 be bf a2 ae;refine go ?_;refine Xc ae<|Xo rfl ?_;obtain ⟨af,aw,hm⟩:=bZ hm;replace aj:=aj.keep (Zj.start col w0);replace ab:=ab.grow a2;refine lI aw ((aj.ks ab).addr aw) ?_;obtain ⟨_,a3,a4⟩:=(aj.ks ab).atN aw;obtain ⟨⟨a5,a6,rfl,ac⟩,_⟩:=a3;refine lW a4.one<|go ?_;refine Z8 [12,13,2,1000000] (fun n f ak=>∃ al ag ad ah,n=ah.length∧af.drop ag=ah∧Zdt aa ah ad=some r∧St w0 (Zi col) al ak∧Sl (Za.int .i64) al ak a5 a6 af∧Zn 27 1 al ak a1 #[.string aa.1,.slice aq aa.2.1.length am,.slice ar aa.2.2.1.length an,.slice au aa.2.2.2.1.length ao,.slice av aa.2.2.2.2.length ap]∧[14,5].map f=[.int .i64 ag,.int .i64 ad]) af.length ⟨_,0,1,_,rfl,rfl,hm,ab,ac,ae,rfl⟩ ?_;clear hm;intro n f ak hI;obtain ⟨al,ag,ad,ah,hn,hl,hm,ab,ac,ae,hs⟩:=hI;subst hn;refine .lL [14,5] hs ?_;replace ai:=ai.keep (Zj.start col w0)
 cases ah with
 | nil=>
  have hk:¬ ((ag:Int)<(af.length:Int)):=by have:=List.drop_eq_nil_iff.1 hl;omega
  have hkb:=decide_eq_false hk;rw [Zdt.eq_1] at hm;refine go ?_;refine Y7 (congrArg Value.bool hkb)<|go ?_;cases hm;exact ⟨rfl,rfl,ab.below⟩
 | cons bg a7=>
  obtain ⟨ax,a8,a9⟩:=Wg hl;have hk:(ag:Int)<(af.length:Int):=by omega
  have hkb:=decide_eq_true hk;rw [Zdt.eq_2] at hm;refine go ?_;refine Y8 (congrArg Value.bool hkb)<|go ?_;refine lI ax (ac.addr ax)<|lW (ac.atInt ax) ?_;refine go ?_;refine Xc ae<|Xo rfl ?_;obtain ⟨ay,az,hm⟩:=bZ hm;refine lI az ((ai.ks ab).addr az) ?_;obtain ⟨_,ba,bb⟩:=(ai.ks ab).atN az;obtain ⟨⟨bh,bi,rfl,bj⟩,_⟩:=ba;refine lW bb.one<|go ?_;refine lV (.int .i64 (if 1099511627776<(i64.wrap (ad * (ay.length:Int))) then 1099511627776 else (i64.wrap (ad * (ay.length:Int))))) (Zms (i64.wrap (ad * (ay.length:Int))) 1099511627776 rfl rfl)<|go ?_;exact ⟨a7.length,by simp,rfl,⟨_,_,_,_,rfl,a8,hm,ab,ac,ae,(Wq (congrArg (Value.int .i64) (Wj (Nat.lt_of_lt_of_le a9 ac.1.1))) rfl)⟩⟩
def Zca (N:Nat) (ab:R0):List Rc→Nat→Option Int
  | [],aa=>some 0
  | ac :: ad,aa=>(Zo ab.2.2.1 (aa:Int)).bind fun ae=>(Zgk N ac).bind fun af=>(Zjf N af (ae.length:Int)).bind fun ag=>if (!ag)=true then (some 46) else ((Zca N ab ad) (aa+1))
termination_by structural x=>x
def Zav (N:Nat) (aa:R0):List Rc→Option Int
  | []=>Zca N aa aa.2.2.2.2 0
  | ab :: ac=>(Zgk N ab).bind fun ad=>(Zl5 N ad).bind fun ae=>if ae=true then (some 45) else (Zav N aa ac)
termination_by structural x=>x
def Zau (N:Nat) (aa:R0):List Rc→Nat→Option Int
  | [],ab=>Zav N aa aa.2.2.2.2
  | ae :: af,ab=>(Zgq (aa.1,aa.2.1,aa.2.2.1,aa.2.2.2.1,aa.2.2.2.2) (ab:Int)).bind fun ac=>(Zo aa.2.2.1 (ab:Int)).bind fun ad=>if (decide (65536<(i64.wrap (ac * (ad.length:Int)))))=true then (some 4) else (if (!decide ((i64.wrap (ac * (ad.length:Int)))=(ae.length:Int)))=true then (some 60) else ((Zau N aa af) (ab+1)))
termination_by structural x=>x
def Zb9 (N:Nat) (aa:R0) (ad:Bool):Option Int:=
  if ad=true then (some 60) else (if (decide (1024<(aa.2.1.length:Int)))=true then (some 4) else ((Zgl (aa.1,aa.2.1,aa.2.2.1,aa.2.2.2.1,aa.2.2.2.2)).bind fun ab=>if (!decide (ab=0))=true then (some ab) else ((Zaq N aa.2.2.2.1).bind fun ac=>if (!decide (ac=0))=true then (some ac) else (Zau N aa aa.2.2.2.2 0))))
def Zgh (N:Nat) (aa:R0):Option Int:=
  if (!decide ((aa.2.2.1.length:Int)=(aa.2.1.length:Int)))=true then (Zb9 N aa true) else (if (!decide ((aa.2.2.2.1.length:Int)=(aa.2.1.length:Int)))=true then (Zb9 N aa true) else (Zb9 N aa (!decide ((aa.2.2.2.2.length:Int)=(aa.2.1.length:Int)))))
theorem Zyp {N aj ak al am:Nat} {an ao ap aq:Option Addr} {col:Zf} {w0:World} {ab:R0} {r:Int} (hm:Zgh N ab=some r) (a2:Sl Za.str col w0 an aj ab.2.1) (ag:Sl (Za.slice Za.str) col w0 ao ak ab.2.2.1) (aw:Sl (Za.slice (Za.int .i64)) col w0 ap al ab.2.2.2.1) (ad:Sl (Za.slice (Za.pair (Za.pair Za.bool (Za.slice (Za.int .u32))) (Za.slice (Za.int .u32)))) col w0 aq am ab.2.2.2.2):
    Calls Tryz.prog 67 #[(.agg #[.string ab.1,.slice an ab.2.1.length aj,.slice ao ab.2.2.1.length ak,.slice ap ab.2.2.2.1.length al,.slice aq ab.2.2.2.2.length am])] w0 (fun e w'=>e= .returned ((.int .i64 r))∧Below w0.heap.size w0 w'):=by
 refine Xi 2 (m:=103) func67 rfl rfl rfl rfl rfl ?_;rw [Zgh.eq_1] at hm;have aa:=St.start col w0;refine go ?_;refine Xd (col:=(Zi col)) 1 rfl ?_;intro a3 cp cq bo ac;refine go ?_;refine Xc ac<|lV _ (T7 underlying22 rfl)<|Yu rfl<|Zk<|Zy<|Zy ?_;replace a2:=a2.keep (Zj.start col w0);replace ag:=ag.keep (Zj.start col w0);replace aw:=aw.keep (Zj.start col w0);replace ad:=ad.keep (Zj.start col w0);replace aa:=aa.grow bo;refine Wp.cutK [1,3,1000000] (fun f a4=>∃ ah a9,Zb9 N ab a9=some r∧St w0 (Zi col) ah a4∧Zn 27 1 ah a4 a3 #[.string ab.1,.slice an ab.2.1.length aj,.slice ao ab.2.2.1.length ak,.slice ap ab.2.2.2.1.length al,.slice aq ab.2.2.2.2.length am]∧[34].map f=[.bool a9]) ?_ ?_
 ·intro f a4 hJ;obtain ⟨ah,a9,hm,aa,ac,hs⟩:=hJ;rw [Zb9.eq_1] at hm;refine .lL [34] hs ?_;refine Zq hm (fun hb hm=>go ?_) fun hb hm=>go ?_
  ·cases hm;exact ⟨rfl,rfl,aa.below⟩
  refine Zq hm (fun hb hm=>go ?_) fun hb hm=>go ?_
  ·cases hm;exact ⟨rfl,rfl,aa.below⟩
  refine lV _ (Xa isAgg27 sizeOf27 ac) ?_;obtain ⟨cr,bp,hm⟩:=bZ hm;refine Zh (Zyr bp (a2.ks aa) (ag.ks aa) (aw.ks aa) (ad.ks aa)) ?_;rintro _ bk ⟨rfl,a5⟩;refine ⟨_,rfl,?_⟩;replace a5:Zg ah a4 ah bk:=.of_below a5;refine go ?_;replace ac:=ac.gr a5;replace aa:=aa.grow a5;refine Zq hm (fun hb hm=>go ?_) fun hb hm=>go ?_
  ·cases hm;exact ⟨rfl,rfl,aa.below⟩
  refine Xc ac ?_;obtain ⟨cs,bq,hm⟩:=bZ hm;refine Zh (Zyb bq (aw.ks aa)) ?_;rintro _ br ⟨rfl,a6⟩;refine ⟨_,rfl,?_⟩;replace a6:Zg ah bk ah br:=.of_below a6;refine go ?_;replace ac:=ac.gr a6;replace aa:=aa.grow a6;refine Zq hm (fun hb hm=>go ?_) fun hb hm=>go ?_
  ·cases hm;exact ⟨rfl,rfl,aa.below⟩
  refine Xc ac ?_;refine go ?_;refine Z8 [1,49,50,1000000] (fun n f ba=>∃ ae ar ax,n=ax.length∧ab.2.2.2.2.drop ar=ax∧Zau N ab ax ar=some r∧St w0 (Zi col) ae ba∧Zn 27 1 ae ba a3 #[.string ab.1,.slice an ab.2.1.length aj,.slice ao ab.2.2.1.length ak,.slice ap ab.2.2.2.1.length al,.slice aq ab.2.2.2.2.length am]∧[51].map f=[.int .i64 ar]) ab.2.2.2.2.length ⟨_,0,_,rfl,rfl,hm,aa,ac,rfl⟩ ?_;clear hm;intro n f ba hI;obtain ⟨ae,ar,ax,hn,hl,hm,aa,ac,hs⟩:=hI;subst hn;refine .lL [51] hs ?_
  cases ax with
  | nil=>
   have hk:¬ ((ar:Int)<(ab.2.2.2.2.length:Int)):=by have:=List.drop_eq_nil_iff.1 hl;omega
   have hkb:=decide_eq_false hk;rw [Zau.eq_1] at hm;refine go ?_;refine Y7 (congrArg Value.bool hkb)<|go ?_;refine Xc ac ?_;refine go ?_;refine Z8 [1,74,75,1000000] (fun n f bb=>∃ bc ay az,n=az.length∧ab.2.2.2.2.drop ay=az∧Zav N ab az=some r∧St w0 (Zi col) bc bb∧Zn 27 1 bc bb a3 #[.string ab.1,.slice an ab.2.1.length aj,.slice ao ab.2.2.1.length ak,.slice ap ab.2.2.2.1.length al,.slice aq ab.2.2.2.2.length am]∧[76].map f=[.int .i64 ay]) ab.2.2.2.2.length ⟨_,0,_,rfl,rfl,hm,aa,ac,rfl⟩ ?_;clear hm;intro n f bb hI;obtain ⟨bc,ay,az,hn,hl,hm,aa,ac,hs⟩:=hI;subst hn;refine .lL [76] hs ?_
   cases az with
   | nil=>
    have hk:¬ ((ay:Int)<(ab.2.2.2.2.length:Int)):=by have:=List.drop_eq_nil_iff.1 hl;omega
    have hkb:=decide_eq_false hk;rw [Zav.eq_1] at hm;refine go ?_;refine Y7 (congrArg Value.bool hkb)<|go ?_;refine Xc ac ?_;refine go ?_;refine Z8 [1,85,86,1000000] (fun n f bd=>∃ ai au a0,n=a0.length∧ab.2.2.2.2.drop au=a0∧Zca N ab a0 au=some r∧St w0 (Zi col) ai bd∧Zn 27 1 ai bd a3 #[.string ab.1,.slice an ab.2.1.length aj,.slice ao ab.2.2.1.length ak,.slice ap ab.2.2.2.1.length al,.slice aq ab.2.2.2.2.length am]∧[87].map f=[.int .i64 au]) ab.2.2.2.2.length ⟨_,0,_,rfl,rfl,hm,aa,ac,rfl⟩ ?_;clear hm;intro n f bd hI;obtain ⟨ai,au,a0,hn,hl,hm,aa,ac,hs⟩:=hI;subst hn;refine .lL [87] hs ?_
    cases a0 with
    | nil=>
     have hk:¬ ((au:Int)<(ab.2.2.2.2.length:Int)):=by have:=List.drop_eq_nil_iff.1 hl;omega
     have hkb:=decide_eq_false hk;rw [Zca.eq_1] at hm;refine go ?_;refine Y7 (congrArg Value.bool hkb)<|go ?_;cases hm;exact ⟨rfl,rfl,aa.below⟩
    | cons ct bs=>
     obtain ⟨af,bt,bu⟩:=Wg hl;have hk:(au:Int)<(ab.2.2.2.2.length:Int):=by omega
     have hkb:=decide_eq_true hk;rw [Zca.eq_2] at hm;refine go ?_;refine Y8 (congrArg Value.bool hkb)<|go ?_;refine lI af ((ad.ks aa).addr af) ?_;obtain ⟨_,bv,bw⟩:=(ad.ks aa).atN af;obtain ⟨⟨cu,cv,rfl,be⟩,_⟩:=bv;refine lW bw.one<|go ?_;refine Yv (col:=ai) [(0,1),(2,1),(3,0),(4,1),(5,1),(6,0),(7,1),(1,3),(8,3),(9,1)] (by kernel_rfl) (by kernel_rfl)<|xu rfl rfl (fun _=>Vb rfl) ?_;refine xF ⟨_,_,rfl⟩ ?_;refine xW (fun _ hC=>((ac.atN).nth (q:=2) rfl).gr (hC.bl ai)) ?_;refine xu rfl rfl (fun _=>Vg rfl) ?_;obtain ⟨cw,a7,hm⟩:=bZ hm;refine xu rfl rfl (fun _=>Wb underlying23 sizeOf22 rfl rfl (Xp a7).1 (Xp a7).2.1 ((ag.ks aa).addr a7)) ?_;obtain ⟨_,bx,bz⟩:=(ag.ks aa).atN a7;obtain ⟨⟨cx,cy,rfl,cz⟩,_⟩:=bx;refine xW (fun _ hC=>bz.one.gr (hC.bl ai)) ?_;refine xu rfl rfl (fun _=>T7 underlying22 rfl) ?_;refine xe rfl rfl ?_;intro c0 hC0;have hC:=hC0.bl ai;obtain ⟨c1,b0,hm⟩:=bZ hm;replace be:=be.gr hC;refine Zh (Zqn 2 b0 be) ?_;rintro _ c2 ⟨av,c3,c4,rfl,bf,bg⟩;refine ⟨_,rfl,?_⟩;refine Zk<|Xg av hC0 bf<|xe rfl rfl ?_;intro b1 hC0;replace ac:=(ac.gr hC).gr bf;replace aa:=(aa.grow hC).grow bf;have hC:=hC0.bl av;obtain ⟨c5,b2,hm⟩:=bZ hm;replace bg:=bg.gr hC;refine Zh (Zyv b2 (bg.toSlF (Zl.pair (Zl.pair Zl.bool Zl.slice) Zl.slice))) ?_;rintro _ b3 ⟨rfl,a1⟩;refine ⟨_,rfl,?_⟩;replace a1:Zg av b1 av b3:=.of_below a1;refine Zk<|Xg av hC0 a1<|xu rfl rfl (fun _=>Zmt _ rfl) ?_;refine Yn ?_;replace ac:=(ac.gr hC).gr a1;replace aa:=(aa.grow hC).grow a1;intro c6 hC;replace hC:=hC.bl av;replace ac:=ac.gr hC;replace aa:=aa.grow hC;refine Zq hm (fun hb hm=>go ?_) fun hb hm=>go ?_
     ·cases hm;exact ⟨rfl,rfl,aa.below⟩
     exact ⟨bs.length,by simp,rfl,⟨_,_,_,rfl,bt,hm,aa,ac,(Wq (congrArg (Value.int .i64) (Wj (Nat.lt_of_lt_of_le bu (ad.ks aa).1.1))) rfl)⟩⟩
   | cons c7 b4=>
    obtain ⟨af,b5,b6⟩:=Wg hl;have hk:(ay:Int)<(ab.2.2.2.2.length:Int):=by omega
    have hkb:=decide_eq_true hk;rw [Zav.eq_2] at hm;refine go ?_;refine Y8 (congrArg Value.bool hkb)<|go ?_;refine lI af ((ad.ks aa).addr af) ?_;obtain ⟨_,b7,b8⟩:=(ad.ks aa).atN af;obtain ⟨⟨c8,c9,rfl,b9⟩,_⟩:=b7;refine lW b8.one<|go ?_;obtain ⟨da,ca,hm⟩:=bZ hm;refine Zh (Zqn 3 ca b9) ?_;rintro _ cb ⟨bm,db,dc,rfl,bn,cc⟩;refine ⟨_,rfl,?_⟩;obtain ⟨dd,cd,hm⟩:=bZ hm;refine Zh (Zz0 cd (cc.toSlF (Zl.pair (Zl.pair Zl.bool Zl.slice) Zl.slice))) ?_;rintro _ ce ⟨rfl,a8⟩;refine ⟨_,rfl,?_⟩;replace a8:Zg bm cb bm ce:=.of_below a8;refine Zk ?_;replace ac:=(ac.gr bn).gr a8;replace aa:=(aa.grow bn).grow a8;refine Zq hm (fun hb hm=>go ?_) fun hb hm=>go ?_
    ·cases hm;exact ⟨rfl,rfl,aa.below⟩
    exact ⟨b4.length,by simp,rfl,⟨_,_,_,rfl,b5,hm,aa,ac,(Wq (congrArg (Value.int .i64) (Wj (Nat.lt_of_lt_of_le b6 (ad.ks aa).1.1))) rfl)⟩⟩
  | cons de cf=>
   obtain ⟨af,cg,ch⟩:=Wg hl;have hk:(ar:Int)<(ab.2.2.2.2.length:Int):=by omega
   have hkb:=decide_eq_true hk;rw [Zau.eq_2] at hm;refine go ?_;refine Y8 (congrArg Value.bool hkb)<|go ?_;refine lI af ((ad.ks aa).addr af) ?_;obtain ⟨_,ci,cj⟩:=(ad.ks aa).atN af;obtain ⟨⟨df,dg,rfl,dh⟩,_⟩:=ci;refine lW cj.one<|go ?_;refine Wc (col:=ae) (by kernel_rfl) (by kernel_rfl)<|qv rfl (fun _ hC=>Xa isAgg27 sizeOf27 (ac.gr (hC.bl ae))) ?_;refine go ?_;obtain ⟨ck,cl,hm⟩:=bZ hm;refine qc (v:=(.int .i64 ck)) rfl (fun _ hC=>⟨_,_,Zc6 call176 rfl rfl,(Zyt cl ((a2.ks aa).gr (hC.bl ae)) ((ag.ks aa).gr (hC.bl ae)) ((aw.ks aa).gr (hC.bl ae)) ((ad.ks aa).gr (hC.bl ae)):).mono fun _ _ h=>⟨h.1,hC.trans (.of_below h.2)⟩⟩) ?_;refine qF ⟨_,_,rfl⟩ ?_;refine qW (fun _ hC=>((ac.atN).nth (q:=2) rfl).gr (hC.bl ae)) ?_;refine go ?_;obtain ⟨di,bh,hm⟩:=bZ hm;refine qI bh ((ag.ks aa).addr bh) ?_;obtain ⟨_,cn,co⟩:=(ag.ks aa).atN bh;obtain ⟨⟨dj,dl,rfl,dm⟩,_⟩:=cn;refine qW (fun _ hC=>co.one.gr (hC.bl ae)) ?_;refine go ?_;refine Yf ?_;intro dn hC;replace hC:=hC.bl ae;refine go ?_;replace ac:=ac.gr hC;replace aa:=aa.grow hC;refine Zq hm (fun hb hm=>go ?_) fun hb hm=>go ?_
   ·cases hm;exact ⟨rfl,rfl,aa.below⟩
   refine Zq hm (fun hb hm=>go ?_) fun hb hm=>go ?_
   ·cases hm;exact ⟨rfl,rfl,aa.below⟩
   exact ⟨cf.length,by simp,rfl,⟨_,_,_,rfl,cg,hm,aa,ac,(Wq (congrArg (Value.int .i64) (Wj (Nat.lt_of_lt_of_le ch (ad.ks aa).1.1))) rfl)⟩⟩
 refine Wd<|Xc ac ?_;refine go ?_;refine Xv hm (fun bi hm=>go ?_) fun bi hm=>go ?_
 ·refine lV (.bool true) (Xj (congrArg Value.bool bi) rfl)<|Yo rfl<|lP 28 rfl rfl<|lP 28 rfl rfl<|lP 28 rfl rfl<|lP 28 rfl rfl<|lP 28 rfl rfl<|lV (.bool true) (Xj rfl rfl)<|Zk ?_;exact ⟨rfl,_,_,hm,aa,ac,rfl⟩
 refine Xh ⟨_,_,rfl⟩ ?_;refine go ?_;refine lW ((ac.atN).nth (q:=3) rfl)<|go ?_;refine lV (.bool (!decide ((ab.2.2.2.1.length:Int)=(ab.2.1.length:Int)))) (Xs (congrArg Value.bool bi) rfl)<|Yo rfl ?_;refine Xv hm (fun bj hm=>go ?_) fun bj hm=>go ?_
 ·refine lV (.bool true) (Xj (congrArg Value.bool bj) rfl)<|Zk ?_;exact ⟨rfl,_,_,hm,aa,ac,rfl⟩
 refine Xh ⟨_,_,rfl⟩ ?_;refine go ?_;refine lW ((ac.atN).nth (q:=4) rfl)<|go ?_;refine lV (.bool (!decide ((ab.2.2.2.2.length:Int)=(ab.2.1.length:Int)))) (Xs (congrArg Value.bool bj) rfl)<|Zk ?_;exact ⟨rfl,_,_,hm,aa,ac,rfl⟩
def Zen (N:Nat) (ab:List ByteArray) (ac:ByteArray):Nat→Int→Option Int
  | 0,_=>none
  | ad+1,aa=>if (decide (aa<(ab.length:Int)))=true then ((Zo ab aa).bind fun ae=>if (decide (ae=ac))=true then (some aa) else ((Zen N ab ac ad) (i64.wrap (aa+1)))) else (some (-1))
termination_by structural x=>x
def Zj0 (N:Nat) (aa:List ByteArray) (ab:ByteArray):Option Int:=
  Zen N aa ab N 0
theorem Zq2 {N ag:Nat} {a0:Option Addr} {col:Zf} {w0:World} {ac:R9} {ad:ByteArray} {r:Int} (hm:Zj0 N ac ad=some r) (h0:Sl Za.str col w0 a0 ag ac):
    Calls Tryz.prog 192 #[.slice a0 ac.length ag,.string ad] w0 (fun e w'=>e= .returned ((.int .i64 r))∧Below w0.heap.size w0 w'):=by
 refine Xi 4 (m:=19) func192 rfl rfl rfl rfl rfl ?_;rw [Zj0.eq_1] at hm;have aa:=St.start col w0;refine go ?_;refine Z8 [0,1,1000000] (fun n f ah=>∃ ai ae ab,ab=n∧Zen N ac ad ab ae=some r∧St w0 (Zi col) ai ah∧[5].map f=[.int .i64 ae]) N ⟨_,0,_,rfl,hm,aa,rfl⟩ ?_;clear hm;intro n f ah hI;obtain ⟨ai,ae,ab,hn,hm,aa,hs⟩:=hI;subst hn;refine .lL [5] hs ?_;replace h0:=h0.keep (Zj.start col w0)
 cases ab with
 | zero=>rw [Zen.eq_1] at hm;cases hm
 | succ ab=>
  rw [Zen.eq_2] at hm;refine go ?_;refine Zq hm (fun hb hm=>go ?_) fun hb hm=>go ?_
  ·obtain ⟨aj,af,hm⟩:=bZ hm;refine lI af ((h0.ks aa).addr af)<|lW ((h0.ks aa).atStr af) ?_;refine go ?_;refine Zq hm (fun hb hm=>go ?_) fun hb hm=>go ?_
   ·cases hm;exact ⟨rfl,rfl,aa.below⟩
   exact ⟨ab,by omega,rfl,⟨_,_,_,rfl,hm,aa,rfl⟩⟩
  cases hm;exact ⟨rfl,rfl,aa.below⟩
def Zep (N:Nat) (ab:R0):Nat→R2→Int→Option R2
  | 0,_,_=>none
  | ae+1,aa,ac=>if (decide (ac<(ab.2.2.1.length:Int)))=true then ((Zo ab.2.2.1 ac).bind fun ad=>Z1 ((aa.length+[(ad.length:Int)].length) * 8≤140737488355328∧aa.length+[(ad.length:Int)].length≤maxLen) ((Zep N ab ae) (aa++[(ad.length:Int)]) (i64.wrap (ac+1)))) else (some aa)
termination_by structural x=>x
def Zeo (N:Nat) (aa:R0):Option R2:=
  Zep N aa N ([]:List Int) 0
theorem Zzi {N aj ak al am:Nat} {an ao ap aq:Option Addr} {col:Zf} {w0:World} {aa:R0} {r:R2} (c1:Nat) (hm:Zeo N aa=some r) (a7:Sl Za.str col w0 an aj aa.2.1) (af:Sl (Za.slice Za.str) col w0 ao ak aa.2.2.1) (a8:Sl (Za.slice (Za.int .i64)) col w0 ap al aa.2.2.2.1) (a9:Sl (Za.slice (Za.pair (Za.pair Za.bool (Za.slice (Za.int .u32))) (Za.slice (Za.int .u32)))) col w0 aq am aa.2.2.2.2):
    Calls Tryz.prog 150 #[(.agg #[.string aa.1,.slice an aa.2.1.length aj,.slice ao aa.2.2.1.length ak,.slice ap aa.2.2.2.1.length al,.slice aq aa.2.2.2.2.length am])] w0 (fun e w'=>∃ (col':Zf) (ra1:Option Addr) (rc2:Nat),e= .returned ((.slice ra1 r.length rc2))∧Zg col w0 col' w'∧Zc (Za.int .i64) 3 c1 col' w' ra1 rc2 r):=by
 refine Xi 2 (m:=22) func150 rfl rfl rfl rfl rfl ?_;rw [Zeo.eq_1] at hm;have ab:=St.start col w0;refine go ?_;refine Xd (col:=(Zi col)) 1 rfl ?_;intro az ba bb a0 ac;refine go ?_;replace ab:=ab.grow a0;refine Z8 [1,1000000] (fun n f ag=>∃ ae ar au ah av ad,ad=n∧Zep N aa ad ah av=some r∧St w0 (Zi col) ae ag∧Zn 27 1 ae ag az #[.string aa.1,.slice an aa.2.1.length aj,.slice ao aa.2.2.1.length ak,.slice ap aa.2.2.2.1.length al,.slice aq aa.2.2.2.2.length am]∧Zc (Za.int .i64) 3 2 ae ag ar au ah∧[3,4].map f=[.slice ar ah.length au,.int .i64 av]) N ⟨_,none,0,_,0,_,rfl,hm,ab,ac,Zc.nil,rfl⟩ ?_;clear hm;intro n f ag hI;obtain ⟨ae,ar,au,ah,av,ad,hn,hm,ab,ac,ai,hs⟩:=hI;subst hn;refine .lL [3,4] hs ?_;replace af:=af.keep (Zj.start col w0)
 cases ad with
 | zero=>rw [Zep.eq_1] at hm;cases hm
 | succ ad=>
  rw [Zep.eq_2] at hm;refine go ?_;refine Xc ac ?_;refine go ?_;refine Zq hm (fun hb hm=>go ?_) fun hb hm=>go ?_
  ·refine Xc ac<|Xo rfl ?_;obtain ⟨a1,aw,hm⟩:=bZ hm;refine lI aw ((af.ks ab).addr aw) ?_;obtain ⟨_,a2,a3⟩:=(af.ks ab).atN aw;obtain ⟨⟨bc,bd,rfl,be⟩,_⟩:=a2;refine lW a3.one<|go ?_;refine Wx (col:=ae) [(a1.length:Int)] 3 ?_;intro bf bg bh ax a4;obtain ⟨a5,hm⟩:=Z3 hm;replace ai:=ai.gr ax;refine Ws ai (a4.srcN (NB.int (k:=.i64))) a5 ?_;intro bi bj bk bm ay a6;refine go ?_;replace ac:=(ac.gr ax).kpp ay;replace ab:=(ab.grow ax).kpp ay;exact ⟨ad,by omega,rfl,⟨_,_,_,_,_,_,rfl,hm,ab,ac,a6,rfl⟩⟩
  cases hm;exact ⟨rfl,_,_,_,rfl,ab.fin (cm [(2,c1)]),ab.fo ai⟩
def Zhk (aa:Int) (kk_L2:(Int→Int→Option Int)) (ab:Int):Option Int:=
  kk_L2 ab (i64.wrap (aa+1))
def Zbh (N:Nat) (aa:List Int) (ac:List Int):Nat→Int→Int→Option Int
  | 0,_,_=>none
  | af+1,ad,ab=>if (decide (ab<(aa.length:Int)))=true then ((Zo aa ab).bind fun ag=>(Zo ac ag).bind fun ae=>Z1 (ae≠0) (if (decide ((i64.wrap (Int.tdiv 1099511627776 ae))<ad))=true then (Zhk ab (Zbh N aa ac af) 1099511627776) else (Zhk ab (Zbh N aa ac af) (i64.wrap (ad * ae))))) else (some ad)
termination_by structural x=>x
def Zem (N:Nat) (aa:List Int) (ab:List Int):Nat→Int→Option Int
  | 0,_=>none
  | ad+1,ac=>if (decide (ac<(aa.length:Int)))=true then ((Zo aa ac).bind fun ae=>(Zo ab ae).bind fun af=>if (decide (af<1))=true then (some 0) else ((Zem N aa ab ad) (i64.wrap (ac+1)))) else (Zbh N aa ab N 1 0)
termination_by structural x=>x
def Zjz (N:Nat) (aa:List Int) (ab:List Int):Option Int:=
  Zem N aa ab N 0
theorem Zzf {N an ao:Nat} {a0 a1:Option Addr} {col:Zf} {w0:World} {ac ad:R2} {r:Int} (hm:Zjz N ac ad=some r) (h0:Sl (Za.int .i64) col w0 a0 an ac) (h1:Sl (Za.int .i64) col w0 a1 ao ad):
    Calls Tryz.prog 194 #[.slice a0 ac.length an,.slice a1 ad.length ao] w0 (fun e w'=>e= .returned ((.int .i64 r))∧Below w0.heap.size w0 w'):=by
 refine Xi 4 (m:=48) func194 rfl rfl rfl rfl rfl ?_;rw [Zjz.eq_1] at hm;have aa:=St.start col w0;refine go ?_;refine Z8 [0,1,1000000] (fun n f ap=>∃ aq ai ae,ae=n∧Zem N ac ad ae ai=some r∧St w0 (Zi col) aq ap∧[5].map f=[.int .i64 ai]) N ⟨_,0,_,rfl,hm,aa,rfl⟩ ?_;clear hm;intro n f ap hI;obtain ⟨aq,ai,ae,hn,hm,aa,hs⟩:=hI;subst hn;refine .lL [5] hs ?_;replace h0:=h0.keep (Zj.start col w0);replace h1:=h1.keep (Zj.start col w0)
 cases ae with
 | zero=>rw [Zem.eq_1] at hm;cases hm
 | succ ae=>
  rw [Zem.eq_2] at hm;refine go ?_;refine Zq hm (fun hb hm=>go ?_) fun hb hm=>go ?_
  ·obtain ⟨az,aj,hm⟩:=bZ hm;refine lI aj ((h0.ks aa).addr aj)<|lW ((h0.ks aa).atInt aj) ?_;obtain ⟨a2,ak,hm⟩:=bZ hm;refine lI ak ((h1.ks aa).addr ak)<|lW ((h1.ks aa).atInt ak) ?_;refine go ?_;refine Zq hm (fun hb hm=>go ?_) fun hb hm=>go ?_
   ·cases hm;exact ⟨rfl,rfl,aa.below⟩
   exact ⟨ae,by omega,rfl,⟨_,_,_,rfl,hm,aa,rfl⟩⟩
  refine Z8 [0,1,1000000] (fun n f ar=>∃ au al ah ab,ab=n∧Zbh N ac ad ab al ah=some r∧St w0 (Zi col) au ar∧[6,7].map f=[.int .i64 al,.int .i64 ah]) N ⟨_,1,0,_,rfl,hm,aa,rfl⟩ ?_;clear hm;intro n f ar hI;obtain ⟨au,al,ah,ab,hn,hm,aa,hs⟩:=hI;subst hn;refine .lL [6,7] hs ?_
  cases ab with
  | zero=>rw [Zbh.eq_1] at hm;cases hm
  | succ ab=>
   rw [Zbh.eq_2] at hm;refine go ?_;refine Zq hm (fun hb hm=>?_) fun hb hm=>go ?_
   ·refine X8<|Zy ?_;refine Wp.cutK [0,1,7,1000000] (fun f av=>∃ aw am,Zhk ah (Zbh N ac ad ab) am=some r∧St w0 (Zi col) aw av∧[6].map f=[.int .i64 am]) ?_ ?_
    ·intro f av hJ;obtain ⟨aw,am,hm,aa,hs⟩:=hJ;rw [Zhk.eq_1] at hm;refine .lL [6] hs<|go ?_;exact ⟨ab,by omega,rfl,⟨_,_,_,_,rfl,hm,aa,rfl⟩⟩
    refine go ?_;obtain ⟨a3,af,hm⟩:=bZ hm;refine lI af ((h0.ks aa).addr af)<|lW ((h0.ks aa).atInt af) ?_;obtain ⟨ax,ag,hm⟩:=bZ hm;refine lI ag ((h1.ks aa).addr ag)<|lW ((h1.ks aa).atInt ag) ?_;obtain ⟨ay,hm⟩:=Z3 hm;refine lV (.int .i64 (i64.wrap (Int.tdiv 1099511627776 ax))) (Wy 1099511627776 ax rfl rfl ay)<|go ?_;refine Zq hm (fun hb hm=>go ?_) fun hb hm=>go ?_
    ·exact ⟨rfl,_,1099511627776,hm,aa,rfl⟩
    refine lI af ((h0.ks aa).addr af)<|lW ((h0.ks aa).atInt af)<|lI ag ((h1.ks aa).addr ag)<|lW ((h1.ks aa).atInt ag) ?_;refine go ?_;exact ⟨rfl,_,_,hm,aa,rfl⟩
   cases hm;exact ⟨rfl,rfl,aa.below⟩
def Zj2 (aa:Bool):Option Bool:=
  some aa
def Zj1 (ab:Int) (aa:Int):Option Bool:=
  if (decide (0<aa))=true then (Z1 (aa≠0) (Zj2 (decide ((i64.wrap (Int.tdiv 65536 aa))<ab)))) else (Zj2 false)
theorem Zzh {col:Zf} {w0:World} {ac aa:Int} {r:Bool} (hm:Zj1 ac aa=some r):
    Calls Tryz.prog 195 #[.int .i64 ac,.int .i64 aa] w0 (fun e w'=>e= .returned ((.bool r))∧Below w0.heap.size w0 w'):=by
 refine Xi 4 (m:=13) func195 rfl rfl rfl rfl rfl ?_;rw [Zj1.eq_1] at hm;have ab:=St.start col w0;refine Zy<|Wd<|Zfq rfl<|Zk<|Zy ?_;refine Wp.cutK [1000000] (fun f af=>∃ ag ad,Zj2 ad=some r∧St w0 (Zi col) ag af∧[4].map f=[.bool ad]) ?_ ?_
 ·intro f af hJ;obtain ⟨ag,ad,hm,ab,hs⟩:=hJ;rw [Zj2.eq_1] at hm;refine .lL [4] hs<|Ys ?_;cases hm;exact ⟨rfl,rfl,ab.below⟩
 refine go ?_;refine Xv hm (fun ae hm=>go ?_) fun ae hm=>go ?_
 ·obtain ⟨ah,hm⟩:=Z3 hm;refine lV (.int .i64 (i64.wrap (Int.tdiv 65536 aa))) (Wy 65536 aa rfl rfl ah)<|go ?_;refine lV (.bool (decide ((i64.wrap (Int.tdiv 65536 aa))<ac))) (Xj (congrArg Value.bool ae) rfl)<|go ?_;exact ⟨rfl,_,_,hm,ab,rfl⟩
 refine lV (.bool false) (Xs (congrArg Value.bool ae) rfl)<|go ?_;exact ⟨rfl,_,_,hm,ab,rfl⟩
def Zhl (N:Nat):Option R1:=
  (Zac N 1 1).bind fun aa=>some ((aa.1.1,aa.1.2),aa.2)
theorem Zq3 {N:Nat} {col:Zf} {w0:World} {r:R1} (c1 c2:Nat) (hm:Zhl N=some r):
    Calls Tryz.prog 242 #[] w0 (fun e w'=>∃ (col':Zf) (ra1:Option Addr) (rc2:Nat) (ra4:Option Addr) (rc5:Nat),e= .returned ((.agg #[.bool r.1.1,.slice ra1 r.1.2.length rc2,.slice ra4 r.2.length rc5]))∧Zg col w0 col' w'∧Zc (Za.int .u32) 79 c1 col' w' ra1 rc2 r.1.2∧Zc (Za.int .u32) 79 c2 col' w' ra4 rc5 r.2):=by
 refine X2 (m:=2) func242 rfl rfl rfl ?_;rw [Zhl.eq_1] at hm;have aa:=St.start col w0;refine go ?_;refine Xf (col:=(Zi col)) #[.bool false,.slice none (([]:List Int).length) 0,.slice none (([]:List Int).length) 0] 1 zeroValue47 ?_;intro al am ag ah ab;refine go ?_;obtain ⟨an,ai,hm⟩:=bZ hm;refine Zh (Zlf (col:=ag) 2 3 ai) ?_;rintro _ ao ⟨ap,aq,ar,au,av,rfl,af,ac,ad⟩;refine ⟨_,rfl,?_⟩;replace ab:=ab.gr af;refine Zw ab ?_;intro aw ae aj ak;refine go ?_;cases hm;replace aa:=((aa.grow ah).grow af).kp ae aj;replace ac:=ac.kp ae;replace ad:=ad.kp ae;exact ⟨rfl,_,ra ak.atN,_,_,_,_,_,rfl,aa.fin (cm [(2,c1),(3,c2)]),aa.fo ac,aa.fo ad⟩
def Zhn (aa:Bool):Option Bool:=
  some aa
def Zhm (N:Nat) (aa:R1):Option Bool:=
  (Zhc N ((aa.1.1,aa.1.2),aa.2)).bind fun ac=>if (decide (ac<0))=true then (Zhn true) else ((Zhl N).bind fun ab=>(Zab N ((aa.1.1,aa.1.2),aa.2) ((ab.1.1,ab.1.2),ab.2)).bind fun ad=>Zhn (decide (0<ad)))
theorem Zzg {N al am:Nat} {an ao:Option Addr} {col:Zf} {w0:World} {ac:R1} {r:Bool} (hm:Zhm N ac=some r) (ah:Sl (Za.int .u32) col w0 an al ac.1.2) (ai:Sl (Za.int .u32) col w0 ao am ac.2):
    Calls Tryz.prog 196 #[(.agg #[.bool ac.1.1,.slice an ac.1.2.length al,.slice ao ac.2.length am])] w0 (fun e w'=>e= .returned ((.bool r))∧Below w0.heap.size w0 w'):=by
 refine Xi 2 (m:=12) func196 rfl rfl rfl rfl rfl ?_;rw [Zhm.eq_1] at hm;have aa:=St.start col w0;refine go ?_;refine Xd (col:=(Zi col)) 1 rfl ?_;intro a6 a7 ab ay aj;refine Zfq rfl<|Zk<|Zy ?_;replace ah:=ah.keep (Zj.start col w0);replace ai:=ai.keep (Zj.start col w0);replace aa:=aa.grow ay;refine Wp.cutK [1000000] (fun f av=>∃ aw ap,Zhn ap=some r∧St w0 (Zi col) aw av∧[2].map f=[.bool ap]) ?_ ?_
 ·intro f av hJ;obtain ⟨aw,ap,hm,aa,hs⟩:=hJ;rw [Zhn.eq_1] at hm;refine .lL [2] hs<|Ys ?_;cases hm;exact ⟨rfl,rfl,aa.below⟩
 refine Yv (col:=ab) [(0,0),(1,3),(2,1),(3,1),(4,0),(5,3),(6,3),(7,1),(8,1),(9,1)] (by kernel_rfl) (by kernel_rfl)<|xv rfl rfl (fun _ hC=>Xa isAgg47 sizeOf47 (aj.gr (hC.bl ab))) ?_;refine xe rfl rfl ?_;intro az hC0;have hC:=hC0.bl ab;obtain ⟨ae,a0,hm⟩:=bZ hm;replace aa:=aa.grow hC;refine Zh (Zy8 a0 (ah.ks aa) (ai.ks aa)) ?_;rintro _ a1 ⟨rfl,ag⟩;refine ⟨_,rfl,?_⟩;replace ag:Zg ab az ab a1:=.of_below ag;refine Zk<|Xg ab hC0 ag<|xu rfl rfl (fun _=>Zmq _ _ rfl rfl) ?_;refine xu rfl rfl (fun _=>Zva rfl) ?_;replace aj:=(aj.gr hC).gr ag;replace aa:=aa.grow ag;refine Xv hm (fun ad hm=>?_) fun ad hm=>?_
 ·refine Zdd (b:=decide (ae<0)) 6 rfl rfl rfl rfl rfl (by rw [ad];rfl)<|Zdd (b:=decide (ae<0)) 6 rfl rfl rfl rfl rfl (by rw [ad];rfl)<|Zdd (b:=decide (ae<0)) 6 rfl rfl rfl rfl rfl (by rw [ad];rfl)<|Zdd (b:=decide (ae<0)) 6 rfl rfl rfl rfl rfl (by rw [ad];rfl)<|xu (v:=(.bool true)) rfl rfl (fun _=>Xj (congrArg Value.bool ad) rfl) ?_;refine xu rfl rfl (fun _=>Zki rfl) ?_;refine Yn ?_;intro a8 hC;replace hC:=hC.bl ab;replace aa:=aa.grow hC;exact ⟨rfl,_,_,hm,aa,rfl⟩
 refine Zxs (v:=(.agg #[.bool ac.1.1,.slice an ac.1.2.length al,.slice ao ac.2.length am])) (b:=decide (ae<0)) 6 rfl rfl rfl rfl rfl (by rw [ad];rfl) (fun _ hC=>Xn isAgg47 sizeOf47 rfl rfl (aj.atN.gr (hC.bl ab))) ?_;refine xe rfl rfl ?_;intro a9 hC0;have hC:=hC0.bl ab;refine go ?_;obtain ⟨ba,a2,hm⟩:=bZ hm;refine lc rfl rfl (Zbn call242) (Zq3 (col:=ab) 6 7 a2:) ?_;rintro _ bb ⟨af,bc,bd,be,bf,rfl,ax,aq,ar⟩;refine ⟨_,rfl,?_⟩;refine Zk<|Xg af hC0 ax<|xe rfl rfl ?_;intro a3 hC0;replace aa:=(aa.grow hC).grow ax;have hC:=hC0.bl af;refine go ?_;obtain ⟨au,a4,hm⟩:=bZ hm;replace aq:=aq.gr hC;replace ar:=ar.gr hC;replace aa:=aa.grow hC;refine Zh (Zle a4 (((ah.ks aa).froz 6).froz 7) (((ai.ks aa).froz 6).froz 7) ((aq.toSlF (Zl.int .u32)).froz 7) ((ar.froz 6 (by decide)).toSlF (Zl.int .u32))) ?_;rintro _ a5 ⟨rfl,ak⟩;refine ⟨_,rfl,?_⟩;replace ak:Zg af a3 af a5:=.of_below ak;refine Zk<|Xg af hC0 ak<|Zxr (v:=(.bool (decide (0<au)))) (b:=decide (ae<0)) 6 rfl rfl rfl rfl rfl (by rw [ad];rfl) (fun _=>Zmo au 0 rfl rfl) ?_;refine xu (v:=(.bool (decide (0<au)))) rfl rfl (fun _=>Xs (congrArg Value.bool ad) rfl) ?_;refine xu rfl rfl (fun _=>Zki rfl) ?_;refine Yn ?_;intro bg hC;replace hC:=hC.bl af;replace aa:=(aa.grow ak).grow hC;exact ⟨rfl,_,_,hm,aa,rfl⟩
def Zct (N:Nat) (ac:Rc) (ab:Int):Nat→Int→Option Bool
  | 0,_=>none
  | af+1,aa=>if (decide (aa<(ac.length:Int)))=true then (Z1 ((0:Int)≤aa∧aa≤(i64.wrap (aa+ab))∧(i64.wrap (aa+ab))≤(ac.length:Int)) ((Zjx N ((ac.take (Int.toNat (i64.wrap (aa+ab)))).drop (Int.toNat aa))).bind fun ad=>(Zhl N).bind fun ae=>(Zab N ((ad.1.1,ad.1.2),ad.2) ((ae.1.1,ae.1.2),ae.2)).bind fun ag=>if (!decide (ag=0))=true then (some false) else ((Zct N ac ab af) (i64.wrap (aa+ab))))) else (some true)
termination_by structural x=>x
def Zl0 (N:Nat) (aa:Rc) (ab:Int):Option Bool:=
  Zct N aa ab N 0
theorem Zzj {N ad:Nat} {a0:Option Addr} {col:Zf} {w0:World} {ae:Rc} {ac:Int} {r:Bool} (hm:Zl0 N ae ac=some r) (h0:Sl (Za.pair (Za.pair Za.bool (Za.slice (Za.int .u32))) (Za.slice (Za.int .u32))) col w0 a0 ad ae):
    Calls Tryz.prog 197 #[.slice a0 ae.length ad,.int .i64 ac] w0 (fun e w'=>e= .returned ((.bool r))∧Below w0.heap.size w0 w'):=by
 refine Xi 4 (m:=23) func197 rfl rfl rfl rfl rfl ?_;rw [Zl0.eq_1] at hm;have ab:=St.start col w0;refine go ?_;refine Z8 [0,1,1000000] (fun n f al=>∃ am aa af,af=n∧Zct N ae ac af aa=some r∧St w0 (Zi col) am al∧[5].map f=[.int .i64 aa]) N ⟨_,0,_,rfl,hm,ab,rfl⟩ ?_;clear hm;intro n f al hI;obtain ⟨am,aa,af,hn,hm,ab,hs⟩:=hI;subst hn;refine .lL [5] hs ?_;replace h0:=h0.keep (Zj.start col w0)
 cases af with
 | zero=>rw [Zct.eq_1] at hm;cases hm
 | succ af=>
  rw [Zct.eq_2] at hm;refine go ?_;refine Zq hm (fun hb hm=>go ?_) fun hb hm=>go ?_
  ·obtain ⟨ag,hm⟩:=Z3 hm;have ap:=((h0.ks ab).take (Int.toNat (i64.wrap (aa+ac)))).drop (sz:=3) rfl (Int.toNat aa);refine lv (v:=.slice (if ad=(Int.toNat aa) then a0 else a0.map (·.add ((Int.toNat aa) * 3))) ((Int.toNat (i64.wrap (aa+ac))) - (Int.toNat aa)) (ad - (Int.toNat aa))) rfl rfl (Zvg underlying56 sizeOf47 rfl rfl rfl ag.1 ag.2.1 (by have:=(h0.ks ab).1.2;have:=ag.2.2;omega)) ?_;generalize (if ad=(Int.toNat aa) then a0 else a0.map (·.add ((Int.toNat aa) * 3)))=an at *;refine .ld (d:=18) (v:=(.slice an (((ae.take (Int.toNat (i64.wrap (aa+ac)))).drop (Int.toNat aa)).length) (ad - (Int.toNat aa)))) (congrArg (fun n=>Value.slice an n (ad - (Int.toNat aa))) (show (Int.toNat (i64.wrap (aa+ac))) - (Int.toNat aa)=((ae.take (Int.toNat (i64.wrap (aa+ac)))).drop (Int.toNat aa)).length by rw [List.length_drop,List.length_take];have:=ag.2;omega)) ?_;obtain ⟨a2,aq,hm⟩:=bZ hm;refine Zh (Zy9 1 2 aq ap) ?_;rintro _ a3 ⟨ar,a4,a5,a6,a7,rfl,au,ah,ai⟩;refine ⟨_,rfl,?_⟩;obtain ⟨a8,av,hm⟩:=bZ hm;refine lc rfl rfl (Zbn call242) (Zq3 (col:=ar) 3 4 av:) ?_;rintro _ aw ⟨ao,a9,ba,bb,bc,rfl,aj,ax,ay⟩;refine ⟨_,rfl,?_⟩;obtain ⟨bd,az,hm⟩:=bZ hm;replace ah:=ah.gr aj;replace ai:=ai.gr aj;refine Zh (Zle az ((((ah.toSlF (Zl.int .u32)).froz 2).froz 3).froz 4) ((((ai.froz 1 (by decide)).toSlF (Zl.int .u32)).froz 3).froz 4) ((((ax.froz 1 (by decide)).froz 2 (by decide)).toSlF (Zl.int .u32)).froz 4) ((((ay.froz 1 (by decide)).froz 2 (by decide)).froz 3 (by decide)).toSlF (Zl.int .u32))) ?_;rintro _ a1 ⟨rfl,ak⟩;refine ⟨_,rfl,?_⟩;replace ak:Zg ao aw ao a1:=.of_below ak;refine go ?_;replace ab:=((ab.grow au).grow aj).grow ak;refine Zq hm (fun hb hm=>go ?_) fun hb hm=>go ?_
   ·cases hm;exact ⟨rfl,rfl,ab.below⟩
   exact ⟨af,by omega,rfl,⟨_,_,_,rfl,hm,ab,rfl⟩⟩
  cases hm;exact ⟨rfl,rfl,ab.below⟩

end Go.Proofs.YtbmjpjhbankpoaaGreat
