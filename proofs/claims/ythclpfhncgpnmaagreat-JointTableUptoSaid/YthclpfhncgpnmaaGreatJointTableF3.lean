/-
  What functions of the program compute, as plain Lean functions (m_..), and proofs that they compute it (c_..). Printed by a program of the author; no conditions.
-/
import Derived.Test.YthclpfhncgpnmaaGreatJointTableBFloat
import Derived.Test.YthclpfhncgpnmaaGreatProg
import Derived.Test.YthclpfhncgpnmaaGreatJointTableBBrief
import Derived.Test.YthclpfhncgpnmaaGreatJointTableBThree
import Derived.Test.YthclpfhncgpnmaaGreatJointTableF2
set_option linter.unusedVariables false
set_option maxRecDepth 100000
set_option maxHeartbeats 2000000
namespace Go.Proofs.YthclpfhncgpnmaaGreat
open Go Go.RowKit
open Int renaming toNat→aA,tmod→bI,tdiv→aV,toNat_of_nonneg→bJ,toNat_natCast→aB,tmod_eq_emod_of_nonneg→cD,tdiv_eq_ediv_of_nonneg→bW,sign_eq_one_of_pos→iD
open List renaming replicate→aC,take_take→fT,take_length→dK,getD_eq_getElem?_getD→aF,getElem?_eq_getElem→aI,getElem?_eq_none→cY,drop_zero→aR,drop_eq_nil_of_le→aG,length_singleton→aH,length_replicate→aN,drop_replicate→fV,eq_nil_of_length_eq_zero→cH,drop_eq_nil_iff→aM,mem_cons→aP,not_mem_nil→bA,length_drop→cG,length_take→cE
open Nat renaming min_eq_left→aS,le_refl→bB,lt_of_lt_of_le→aK,mul_le_mul_left→aU,pow_succ→aZ,mul_zero→dI,add_zero→bO,pow_zero→dH,add_assoc→dU,zero_add→cS,pow_add→cW,div_div_eq_div_mul→eD,add_mul_div_left→fW,div_eq_of_lt→dV,mul_assoc→bP,two_pow_pos→bY,div_le_self→cM,dvd_add_left→jI,one_mul→bR,mul_comm→bS,mul_div_cancel_left→fE,le_trans→aY,gcd→cR,gcd_comm→eS,mul_le_mul_right→bH,min_eq_right→dL,max_eq_left→fM,max_eq_right→fF,le_total→iB,sub_le→gT,gcd_sub_self_right→iC,eq_zero_or_pos→eY,gcd_zero_right→iY,beq→aJ
open Option renaming getD_some→dC
open Rat renaming mkRat_eq_div→dN,inv_eq_of_mul_eq_one→fI
open Go.IntKind (i8 i16 i32 i64 u8 u16 u32 u64)
open Go.Proofs.Tryz

def Zfn (N:Nat) (af ab:List Int) (aa:Int) (kk_L1:(List Int→Int→Option R2)):Nat→Int→R2→Int→Option R2
  | 0,_,_,_=>none
  | aj+1,ac,ad,ae=>if (decide (ac<(ab.length:Int)))=true then ((Zi af aa).bind fun ag=>(Zi ab ac).bind fun ah=>(Zi ad (i64.wrap (aa+ac))).bind fun ai=>(some (ad.set (aA (i64.wrap (aa+ac))) (u32.wrap (bI (u64.wrap ((u64.wrap (ae+(u64.wrap ((u64.wrap ag) * (u64.wrap ah)))))+(u64.wrap ai))) 4294967296)))).bind fun ak=>(Zfn N af ab aa kk_L1 aj) (i64.wrap (ac+1)) ak (u64.wrap (aV (u64.wrap ((u64.wrap (ae+(u64.wrap ((u64.wrap ag) * (u64.wrap ah)))))+(u64.wrap ai))) 4294967296))) else ((Zi ad (i64.wrap (aa+(ab.length:Int)))).bind fun am=>(some (ad.set (aA (i64.wrap (aa+(ab.length:Int)))) (u32.wrap ae))).bind fun al=>kk_L1 al (i64.wrap (aa+1)))
def Zby (N:Nat) (aa ab:List Int):Nat→R2→Int→Option R2
  | 0,_,_=>none
  | ae+1,ac,ad=>if (decide (ad<(aa.length:Int)))=true then (Zfn N aa ab ad (Zby N aa ab ae) N 0 ac 0) else ((V1 N ac).bind fun af=>some af)
def Zdi (N:Nat) (ac ad:List Int):Option R2:=
  (V1 N ac).bind fun aa=>(V1 N ad).bind fun ab=>Zt ((aA (i64.wrap ((aa.length:Int)+(ab.length:Int)))) * 4≤281474976710656∧(aA (i64.wrap ((aa.length:Int)+(ab.length:Int))))≤maxLen∧0≤(i64.wrap ((aa.length:Int)+(ab.length:Int)))) (Zby N aa ab N (aC (aA (i64.wrap ((aa.length:Int)+(ab.length:Int)))) (0:Int)) 0)
theorem Zp7 {N bi bj:Nat} {a0 a1:Option Addr} {col:Zd} {w0:World} {a5 a6 r:R2} (c1:Nat) (hm:Zdi N a5 a6=some r) (h0:Sl rU col w0 a0 bi a5) (h1:Sl rU col w0 a1 bj a6):
    Calls prog 112 #[.slice a0 a5.length bi,.slice a1 a6.length bj] w0 (W2 .u32 45 c1 col w0 r):=by
 refine Z6 4 (m:=74) func112 rfl rfl rfl rfl rfl ?_;rw [Zdi.eq_1] at hm;have aa:=St.start col w0;refine go ?_;obtain ⟨am,bt,hm⟩:=bZ hm;refine Zk (Ut 1 bt (h0.k0.ks aa)) ?_;rintro _ b4 ⟨b5,bk,bm,rfl,bu,ab⟩;refine ⟨_,rfl,go ?_⟩;obtain ⟨ai,bv,hm⟩:=bZ hm;replace aa:=aa.grow bu;refine Zk (Ut 2 bv (h1.k0.ks aa)) ?_;rintro _ bw ⟨bx,bn,bo,rfl,bp,ac⟩;refine ⟨_,rfl,go ?_⟩;obtain ⟨ax,hm⟩:=Zv hm;refine Sv (col:=bx) (w:=bw) (r:=rU) (n:=(aA (i64.wrap ((am.length:Int)+(ai.length:Int))))) (x0:=0) 3 rfl underlying38 Tryz.t45 rfl rfl rfl rfl rfl (congrArg (Value.int _) (bJ ax.2.2).symm) (congrArg (Value.int _) (bJ ax.2.2).symm) ax.1 ax.2.1 (Vn .u32 0) ?_;intro b6 b7 b8 a7 bz;refine go ?_;replace ab:=(ab.gr bp).gr a7;replace aa:=(aa.grow bp).grow a7;replace ac:=ac.gr a7;refine Zs [5,6,1000000] (fun n f an=>∃ af a8 a9 ay ao aj,aj=n∧Zby N am ai aj ay ao=some r∧St w0 (Zf col) af an∧Zc rU 45 1 af an bk bm am∧Zc rU 45 2 af an bn bo ai∧Zc rU 45 3 af an a8 a9 ay∧[7,8].map f=[.slice a8 ay.length a9,.int .i64 ao]) N ⟨_,_,_,_,0,_,rfl,hm,aa,ab,ac,bz,rfl⟩ ?_;clear hm;intro n f an hI;obtain ⟨af,a8,a9,ay,ao,aj,hn,hm,aa,ab,ac,bq,hs⟩:=hI;subst hn;refine .lL [7,8] hs ?_
 cases aj with
 | zero=>rw [Zby.eq_1] at hm;cases hm
 | succ aj=>
  rw [Zby.eq_2] at hm;refine go ?_;refine Zm hm (fun hb hm=>go ?_) fun hb hm=>go ?_
  ·refine Zs [5,6,8,1000000] (fun n f aw=>∃ ae az ak al ag ad ap,ap=n∧Zfn N am ai ao (Zby N am ai aj) ap az ag ad=some r∧St w0 (Zf col) ae aw∧Zc rU 45 1 ae aw bk bm am∧Zc rU 45 2 ae aw bn bo ai∧Zc rU 45 3 ae aw ak al ag∧[10,7,9].map f=[.int .i64 az,.slice ak ag.length al,.int .u64 ad]) N ⟨_,0,_,_,_,0,_,rfl,hm,aa,ab,ac,bq,rfl⟩ ?_;clear hm;intro n f aw hI;obtain ⟨ae,az,ak,al,ag,ad,ap,hn,hm,aa,ab,ac,ah,hs⟩:=hI;subst hn;refine .lL [10,7,9] hs ?_
   cases ap with
   | zero=>rw [Zfn.eq_1] at hm;cases hm
   | succ ap=>
    rw [Zfn.eq_2] at hm;refine go ?_;refine Zm hm (fun hb hm=>go ?_) fun hb hm=>go ?_
    ·refine Y7 (col:=ae) (by kernel_rfl) (by kernel_rfl)<|go ?_;obtain ⟨aq,ba,hm⟩:=bZ hm;refine qI ba (ab.addr ba)<|qW (fun _ hC=>(ab.gr (hC.bl ae)).atInt ba) ?_;refine go ?_;obtain ⟨ar,bb,hm⟩:=bZ hm;refine qI bb (ac.addr bb)<|qW (fun _ hC=>(ac.gr (hC.bl ae)).atInt bb) ?_;refine go ?_;obtain ⟨au,av,hm⟩:=bZ hm;refine qI av (ah.addr av)<|qW (fun _ hC=>(ah.gr (hC.bl ae)).atInt av) ?_;refine go ?_;refine X2 ?_;intro b9 hC;replace hC:=hC.bl ae;refine go ?_;refine lV (.int .u64 (bI (u64.wrap ((u64.wrap (ad+(u64.wrap ((u64.wrap aq) * (u64.wrap ar)))))+(u64.wrap au))) 4294967296)) (Qh (u64.wrap ((u64.wrap (ad+(u64.wrap ((u64.wrap aq) * (u64.wrap ar)))))+(u64.wrap au))) 4294967296 rfl rfl (by decide))<|go ?_;replace ah:=ah.gr hC;refine lI av (ah.addr av) ?_;obtain ⟨bc,a2,hm⟩:=bZ hm;have a2:bc=ag.set (aA (i64.wrap (ao+az))) (u32.wrap (bI (u64.wrap ((u64.wrap (ad+(u64.wrap ((u64.wrap aq) * (u64.wrap ar)))))+(u64.wrap au))) 4294967296)):=(Option.some.inj a2).symm;refine Wa (x1:=u32.wrap (bI (u64.wrap ((u64.wrap (ad+(u64.wrap ((u64.wrap aq) * (u64.wrap ar)))))+(u64.wrap au))) 4294967296)) ah av ?_;intro ca bd b0 br;rw [← a2] at br;refine .ld (d:=7) (v:=(.slice ak bc.length al)) (congrArg (fun n=>Value.slice ak n al) (show ag.length=bc.length by rw [a2,nS])) ?_;refine go ?_;refine lV (.int .u64 (u64.wrap (aV (u64.wrap ((u64.wrap (ad+(u64.wrap ((u64.wrap aq) * (u64.wrap ar)))))+(u64.wrap au))) 4294967296))) (V3 (u64.wrap ((u64.wrap (ad+(u64.wrap ((u64.wrap aq) * (u64.wrap ar)))))+(u64.wrap au))) 4294967296 rfl rfl (by decide))<|go ?_;replace ab:=(ab.gr hC).kp bd;replace ac:=(ac.gr hC).kp bd;replace aa:=(aa.grow hC).kp bd b0;exact ⟨ap,by omega,rfl,⟨_,_,_,_,_,_,_,rfl,hm,aa,ab,ac,br,rfl⟩⟩
    obtain ⟨cb,be,hm⟩:=bZ hm;refine lI be (ah.addr be) ?_;obtain ⟨bf,a3,hm⟩:=bZ hm;have a3:bf=ag.set (aA (i64.wrap (ao+(ai.length:Int)))) (u32.wrap ad):=(Option.some.inj a3).symm;refine Wa (x1:=u32.wrap ad) ah be ?_;intro cc bg b1 bs;rw [← a3] at bs;refine .ld (d:=7) (v:=(.slice ak bf.length al)) (congrArg (fun n=>Value.slice ak n al) (show ag.length=bf.length by rw [a3,nS])) ?_;refine go ?_;replace aa:=aa.kp bg b1;exact ⟨aj,by omega,rfl,⟨_,_,_,_,_,_,rfl,hm,aa,ab.kp bg,ac.kp bg,bs,rfl⟩⟩
  obtain ⟨cd,b2,hm⟩:=bZ hm;refine Zk (Ut 4 b2 (bq.toSlF (Zh.int .u32))) fun _ ce ⟨b3,cf,cg,e',a4,bh⟩=>⟨_,e',?_⟩;replace bh:=bh.thaw (Z3 .u32) a4 ((Fz.refl (col:=af)).froz 3);replace a4:=a4.thawR (col:=af);generalize Xj an.heap.size af b3=ch at *;refine go ?_;cases hm;replace aa:=aa.grow a4;exact ⟨rfl,_,_,_,rfl,aa.fin (cm [(4,c1)]),aa.fo bh⟩
def Zk3 (af ag ad:List Int) (aa ae:Int) (kk_L1:(List Int→Int→Int→Option R2)):Option R2:=
  (Q5 af ae).bind fun ab=>(Q5 ag ae).bind fun ac=>Zt ((ad.length+[u32.wrap (bI (u64.wrap ((u64.wrap (aa+ab))+ac)) 4294967296)].length) * 4≤140737488355328∧ad.length+[u32.wrap (bI (u64.wrap ((u64.wrap (aa+ab))+ac)) 4294967296)].length≤maxLen) (kk_L1 (ad++[u32.wrap (bI (u64.wrap ((u64.wrap (aa+ab))+ac)) 4294967296)]) (u64.wrap (aV (u64.wrap ((u64.wrap (aa+ab))+ac)) 4294967296)) (i64.wrap (ae+1)))
def Zdh (N:Nat) (ab ac aa:List Int) (ad ae:Int) (kk_L1:(List Int→Int→Int→Option R2)) (af:Bool):Option R2:=
  if af=true then (Zk3 ab ac aa ad ae kk_L1) else ((V1 N aa).bind fun ag=>some ag)
def S5 (N:Nat) (aa ab:List Int):Nat→R2→Int→Int→Option R2
  | 0,_,_,_=>none
  | ae+1,af,ad,ac=>if (decide (ac<(aa.length:Int)))=true then (Zdh N aa ab af ad ac (S5 N aa ab ae) true) else (if (decide (ac<(ab.length:Int)))=true then (Zdh N aa ab af ad ac (S5 N aa ab ae) true) else (Zdh N aa ab af ad ac (S5 N aa ab ae) (decide (0<ad))))
def Zii (N:Nat) (aa ab:List Int):Option R2:=
  S5 N aa ab N ([]:List Int) 0 0
theorem Ztb {N a3 a4:Nat} {a0 a1:Option Addr} {col:Zd} {w0:World} {ae ad r:R2} (c1:Nat) (hm:Zii N ae ad=some r) (h0:Sl rU col w0 a0 a3 ae) (h1:Sl rU col w0 a1 a4 ad):
    Calls prog 151 #[.slice a0 ae.length a3,.slice a1 ad.length a4] w0 (W2 .u32 45 c1 col w0 r):=by
 refine Z6 4 (m:=43) func151 rfl rfl rfl rfl rfl ?_;rw [Zii.eq_1] at hm;have aa:=St.start col w0;refine go ?_;refine Zs [0,1,1000000] (fun n f av=>∃ aw ak al af ab ai ag,ag=n∧S5 N ae ad ag af ab ai=some r∧St w0 (Zf col) aw av∧Zc rU 45 1 aw av ak al af∧[5,6,7].map f=[.slice ak af.length al,.int .u64 ab,.int .i64 ai]) N ⟨_,none,0,_,0,0,_,rfl,hm,aa,Zc.nil,rfl⟩ ?_;clear hm;intro n f av hI;obtain ⟨aw,ak,al,af,ab,ai,ag,hn,hm,aa,ac,hs⟩:=hI;subst hn;refine .lL [5,6,7] hs ?_;replace h1:=h1.k0
 cases ag with
 | zero=>rw [S5.eq_1] at hm;cases hm
 | succ ag=>
  rw [S5.eq_2] at hm;refine Z0 ?_;refine Wp.cutK [0,1,5,6,7,1000000] (fun f ao=>∃ ah,Zk3 ae ad af ab ai (S5 N ae ad ag)=some r∧St w0 (Zf col) ah ao∧Zc rU 45 1 ah ao ak al af) ?_ ?_
  ·intro f ao hJ;obtain ⟨ah,hm,aa,ac⟩:=hJ;rw [Zk3.eq_1] at hm;refine go ?_;obtain ⟨am,a7,hm⟩:=bZ hm;refine Zk (Zen a7 (h0.k0.ks aa)) fun _ a5 ⟨e',ap⟩=>⟨_,e',?_⟩;replace ap:Zn ah ao ah a5:=.of_below ap;refine go ?_;obtain ⟨an,a8,hm⟩:=bZ hm;replace aa:=aa.grow ap;refine Zk (Zen a8 (h1.ks aa)) fun _ a9 ⟨e',aq⟩=>⟨_,e',?_⟩;replace aq:Zn ah a5 ah a9:=.of_below aq;refine go ?_;refine lV (.int .u64 (bI (u64.wrap ((u64.wrap (ab+am))+an)) 4294967296)) (Qh (u64.wrap ((u64.wrap (ab+am))+an)) 4294967296 rfl rfl (by decide))<|go ?_;refine Wj (col:=ah) [u32.wrap (bI (u64.wrap ((u64.wrap (ab+am))+an)) 4294967296)] 2 ?_;intro bg bh bi a6 ba;obtain ⟨bb,hm⟩:=Zv hm;replace ac:=((ac.gr ap).gr aq).gr a6;refine Yy ac (ba.srcN (NB.int (k:=.u32))) bb ?_;intro bj bk bm bn bc bd;refine go ?_;refine lV (.int .u64 (u64.wrap (aV (u64.wrap ((u64.wrap (ab+am))+an)) 4294967296))) (V3 (u64.wrap ((u64.wrap (ab+am))+an)) 4294967296 rfl rfl (by decide))<|go ?_;replace aa:=((aa.grow aq).grow a6).kpp bc;exact ⟨ag,by omega,rfl,⟨_,_,_,_,_,_,_,rfl,hm,aa,bd,rfl⟩⟩
  refine Z0 ?_;refine Wp.cutK [0,1,5,6,7,1000000] (fun f ar=>∃ aj ax,Zdh N ae ad af ab ai (S5 N ae ad ag) ax=some r∧St w0 (Zf col) aj ar∧Zc rU 45 1 aj ar ak al af∧[21].map f=[.bool ax]) ?_ ?_
  ·intro f ar hJ;obtain ⟨aj,ax,hm,aa,ac,hs⟩:=hJ;rw [Zdh.eq_1] at hm;refine .lL [21] hs ?_;refine Zm hm (fun hb hm=>?_) fun hb hm=>go ?_
   ·refine Yj ?_;exact ⟨rfl,_,hm,aa,ac⟩
   obtain ⟨bo,be,hm⟩:=bZ hm;refine Zk (Ut 3 be (ac.toSlF (Zh.int .u32))) fun _ bp ⟨bf,bq,br,e',au,ay⟩=>⟨_,e',?_⟩;replace ay:=ay.thaw (Z3 .u32) au ((Fz.refl (col:=aj)).froz 1);replace au:=au.thawR (col:=aj);generalize Xj ar.heap.size aj bf=bs at *;refine go ?_;cases hm;replace aa:=aa.grow au;exact ⟨rfl,_,_,_,rfl,aa.fin (cm [(3,c1)]),aa.fo ay⟩
  refine go ?_;refine Xn hm (fun az hm=>go ?_) fun az hm=>go ?_
  ·refine lV (.bool true) (Zw (congrArg Value.bool az) rfl)<|Xq rfl<|lP 18 rfl rfl<|lP 18 rfl rfl<|lV (.bool true) (Zw rfl rfl)<|Zl ?_;exact ⟨rfl,_,_,hm,aa,ac,rfl⟩
  refine lV (.bool (decide (ai<(ad.length:Int)))) (Xk (congrArg Value.bool az) rfl)<|Xq rfl ?_;refine Xn hm (fun a2 hm=>go ?_) fun a2 hm=>go ?_
  ·refine lV (.bool true) (Zw (congrArg Value.bool a2) rfl)<|Zl ?_;exact ⟨rfl,_,_,hm,aa,ac,rfl⟩
  refine lV (.bool (decide (0<ab))) (Xk (congrArg Value.bool a2) rfl)<|Zl ?_;exact ⟨rfl,_,_,hm,aa,ac,rfl⟩
def Zip (N:Nat) (aa:Int):Option R2:=
  (V1 N [u32.wrap (bI aa 4294967296),u32.wrap (u64.wrap (aV aa 4294967296))]).bind fun ab=>some ab
theorem Ztd {N:Nat} {col:Zd} {w0:World} {aa:Int} {r:R2} (c1:Nat) (hm:Zip N aa=some r):
    Calls prog 177 #[.int .u64 aa] w0 (W2 .u32 45 c1 col w0 r):=by
 refine Z6 2 (m:=11) func177 rfl rfl rfl rfl rfl ?_;rw [Zip.eq_1] at hm;have ab:=St.start col w0;refine go ?_;refine lV (.int .u64 (bI aa 4294967296)) (Qh aa 4294967296 rfl rfl (by decide))<|go ?_;refine lV (.int .u64 (u64.wrap (aV aa 4294967296))) (V3 aa 4294967296 rfl rfl (by decide))<|go ?_;refine Wj (col:=(Zf col)) [u32.wrap (bI aa 4294967296),u32.wrap (u64.wrap (aV aa 4294967296))] 1 ?_;intro ak af ad ag ah;obtain ⟨al,ai,hm⟩:=bZ hm;refine Zk (Ut 2 ai (ah.toSlF (Zh.int .u32))) fun _ am ⟨aj,an,ao,e',ac,ae⟩=>⟨_,e',?_⟩;replace ae:=ae.thaw (Z3 .u32) ac ((Fz.refl (col:=ad)).froz 1);replace ac:=ac.thawR (col:=ad);generalize Xj af.heap.size ad aj=ap at *;refine go ?_;cases hm;replace ab:=(ab.grow ag).grow ac;exact ⟨rfl,_,_,_,rfl,ab.fin (cm [(2,c1)]),ab.fo ae⟩
theorem Z0k (N:Nat) (a:List Int) (hb:a.length≤35184372088000):∀ (n j:Nat),j≤a.length→Zbz N a n (j:Int)=Se N n (a.take j)
 | 0,j,_=>rfl
 | n+1,j,d=>by
  have b:(a.take j).length=j:=by rw [nK];omega
  have c:0<j→Zi (a.take j) ((j - 1:Nat):Int)=Zi a ((j - 1:Nat):Int):=fun h=>by rw [V6,V6,List.getElem?_take,if_pos (by omega)]
  rw [Zbz.eq_2,Se.eq_2,b]
  by_cases h0:0<j
  ·have e:(j:Int) - 1=((j - 1:Nat):Int):=by omega
   rw [if_pos (dT (by omega)),if_pos (dT (by omega)),Zr (by omega),e,c h0,Zu (by omega),oB,oB,Zio,Zbu,b,Zr (by omega),e,aB,aB]
   by_cases hx:a[j - 1]=0
   ·rw [if_pos (dT hx),if_pos (dT hx),Zx (by omega),Z0k N a hb n (j - 1) (by omega),fT,aS (by omega)]
   ·rw [if_neg (dF hx),if_neg (dF hx),Zx (by omega),Zx (by rw [b];simp only [nN,maxLen];omega),List.nil_append]
  ·have:j=0:=by omega
   subst this
   rw [if_neg (by decide),if_neg (by decide),Zio,Zbu,if_neg (by decide),if_neg (by decide),Zx (by omega)]
   exact Zx (by simp [maxLen])
theorem U1 {N:Nat} {a:List Int} (h:Zo a) (hn:a.length<N) (hb:a.length≤35184372088000):V1 N a=some (Ze (Zb a)):=by
 rw [V1,Z0k N a hb N a.length (bB _),dK]
 exact Zpk N N a h hn (by omega)
theorem Z0m {N:Nat} {u:Int} (h:0≤u∧u<18446744073709551616) (hn:2<N):Zip N u=some (Ze u.toNat):=by
 have a:u32.wrap (bI u 4294967296)=u % 4294967296:=by rw [cD h.1,Ua (by omega)]
 have b:u32.wrap (u64.wrap (aV u 4294967296))=u / 4294967296:=by rw [bW h.1,Xs (by omega),Ua (by omega)]
 have c:Zo [u % 4294967296,u / 4294967296]:=.cons (by omega) (.cons (by omega) .nil)
 have e:Zb [u % 4294967296,u / 4294967296]=u.toNat:=by rw [Wq,Wq,Yn];omega
 rw [Zip,a,b,U1 c (by simpa using hn) (by simp),oB,e]
theorem Zes {a:List Int} (h:Zo a) (k:Nat):Q5 a (k:Int)=some ((Xy a k:Nat):Int):=by
 rw [Q5]
 by_cases hk:k<a.length
 ·have:=h.get hk
  rw [if_pos (dT (by omega)),Zu hk,oB,Xs (by omega),Xy,aF,aI hk,dC]
  congr 1;omega
 ·rw [if_neg (dF (by omega)),Xy,aF,cY (by omega)];rfl
theorem Zoq {a:List Int} (h:Zo a) (k:Nat):Zb (a.take k)<4294967296 ^ k:=by
 have b:=Qe (h.take k)
 refine aK b (Nat.pow_le_pow_right (by decide) ?_)
 rw [nK];omega
theorem Zrz (N:Nat) (a b:List Int) (ha:Zo a) (hb:Zo b):∀ (n i:Nat),i<4611686018427387904→i<n→Zb (a.drop i)=Zb (b.drop i)→Zfk N a b n ((i:Int) - 1)=some (if Zb a<Zb b then -1 else if Zb b<Zb a then 1 else 0)
 | 0,i,_,h,_=>by omega
 | n+1,i,l,m,d=>by
  rw [Zfk.eq_2]
  by_cases h0:i=0
  ·subst h0
   rw [if_neg (by decide)]
   rw [aR,aR] at d
   rw [if_neg (by omega),if_neg (by omega)]
  ·have e:(i:Int) - 1=((i - 1:Nat):Int):=by omega
   have f:i - 1+1=i:=by omega
   rw [if_pos (dT (by omega)),e,Zes ha,Zes hb,oB,oB]
   have g:=Td a (i - 1)
   have j:=Td b (i - 1)
   rw [Uy a,f] at g
   rw [Uy b,f,← d] at j
   have o:=Zoq ha (i - 1)
   have p:=Zoq hb (i - 1)
   have c:∀ x y:Nat,x<y→4294967296 ^ (i - 1) * (x+4294967296 * Zb (a.drop i))+4294967296 ^ (i - 1)≤4294967296 ^ (i - 1) * (y+4294967296 * Zb (a.drop i)):=fun x y k=>by
    rw [← Nat.mul_succ];exact aU _ (by omega)
   generalize 4294967296 ^ (i - 1)=Q at *
   by_cases hlt:Xy a (i - 1)<Xy b (i - 1)
   ·have:=c _ _ hlt
    rw [if_pos (dT (by omega)),if_pos (by omega)]
   ·rw [if_neg (dF (by omega))]
    by_cases hgt:Xy b (i - 1)<Xy a (i - 1)
    ·have:=c _ _ hgt
     rw [if_pos (dT (by omega)),if_neg (by omega),if_pos (by omega)]
    ·rw [if_neg (dF (by omega)),Zr (by omega)]
     exact Zrz N a b ha hb n (i - 1) (by omega) (by omega) (by rw [Uy a,Uy b,f,d];omega)
theorem Zr0 {N:Nat} {a b:List Int} (ha:Zo a) (hb:Zo b) (h1:a.length<N) (h2:b.length<N) (h3:a.length≤35184372088000) (h4:b.length≤35184372088000):
  Zfj N a b=some (if Zb a<Zb b then -1 else if Zb b<Zb a then 1 else 0):=by
 have c:∀ (l:List Int) (k:Nat),l.length≤k→Zb (l.drop k)=0:=fun l k h=>by rw [aG h];rfl
 rw [Zfj]
 by_cases h:a.length<b.length
 ·rw [if_pos (dT (by omega)),Zij,Zr (by omega)]
  exact Zrz N a b ha hb N b.length (by omega) h2 (by rw [c a _ (by omega),c b _ (by omega)])
 ·rw [if_neg (dF (by omega)),Zij,Zr (by omega)]
  exact Zrz N a b ha hb N a.length (by omega) h1 (by rw [c a _ (by omega),c b _ (by omega)])
theorem Zsj {s:Int} (h:0≤s∧s<18446744073709551616):u32.wrap (bI s 4294967296)=((s.toNat % 4294967296:Nat):Int):=by
 rw [cD h.1,Ua (by omega)];omega
theorem Zsi {s:Int} (h:0≤s∧s<18446744073709551616):u64.wrap (aV s 4294967296)=((s.toNat / 4294967296:Nat):Int):=by
 rw [bW h.1,Xs (by omega)];omega
theorem Zrl {S Q A B C:Nat} (h:A=B+4294967296 * C):S+Q * B+Q * 4294967296 * C=S+Q * A:=by
 subst h;grind
theorem Zzf (N:Nat) (a b:List Int) (ha:Zo a) (hb:Zo b) (hN:a.length+b.length+2<N) (hs:a.length+b.length<35184372087000):∀ (n i:Nat) (out:List Int) (c:Nat),out.length=i→Zo out→c≤1→i≤a.length+b.length+2→(i≤a.length+b.length+1∨c=0)→a.length+b.length+3≤n+i→
  S5 N a b n out (c:Int) (i:Int)=some (Ze (Zb out+4294967296 ^ i * (c+Zb (a.drop i)+Zb (b.drop i))))
 | 0,i,out,c,_,_,_,g,_,j=>by omega
 | n+1,i,out,c,d,e,m,g,j,o=>by
  have go:(i<a.length∨i<b.length∨0<c)→Zk3 a b out (c:Int) (i:Int) (S5 N a b n)=some (Ze (Zb out+4294967296 ^ i * (c+Zb (a.drop i)+Zb (b.drop i)))):=fun l=>by
   have p:=Zer ha i
   have q:=Zer hb i
   have k:u64.wrap (u64.wrap ((c:Int)+((Xy a i:Nat):Int))+((Xy b i:Nat):Int))=((c+Xy a i+Xy b i:Nat):Int):=by
    rw [Xs (x:=(c:Int)+_) (by omega),Xs (by omega)];omega
   rw [Zk3,Zes ha,Zes hb,oB,oB,k,Zsj (by omega),Zsi (by omega),aB]
   generalize hsum:c+Xy a i+Xy b i=s
   rw [Zx (by simp only [aH,maxLen];omega),Zr (by omega)]
   have f:=Zzf N a b ha hb hN hs n (i+1) (out++[((s % 4294967296:Nat):Int)]) (s / 4294967296) (by simp [d]) (e.app (.cons (by omega) .nil)) (by omega) (by omega) (by
    by_cases hi:i<a.length∨i<b.length
    ·omega
    ·right
     have r:Xy a i=0:=by rw [Xy,aF,cY (by omega)];rfl
     have zb:Xy b i=0:=by rw [Xy,aF,cY (by omega)];rfl
     omega) (by omega)
   rw [show ((i+1:Nat):Int)=(i:Int)+1 by omega] at f
   rw [f,Qd,d,Wq,Yn,aB,Uy a i,Uy b i,aZ]
   congr 2
   rw [dI,bO]
   refine Zrl ?_
   omega
  rw [S5.eq_2]
  by_cases hia:i<a.length
  ·rw [if_pos (dT (by omega)),Zdh,if_pos rfl];exact go (.inl hia)
  ·rw [if_neg (dF (by omega))]
   by_cases hib:i<b.length
   ·rw [if_pos (dT (by omega)),Zdh,if_pos rfl];exact go (.inr (.inl hib))
   ·rw [if_neg (dF (by omega)),Zdh]
    by_cases hcp:0<c
    ·rw [if_pos (dT (by omega))];exact go (.inr (.inr hcp))
    ·have:c=0:=by omega
     subst this
     rw [if_neg (by decide),U1 e (by omega) (by omega),oB,aG (by omega),aG (by omega),Yn]
     simp
theorem Zzg {N:Nat} {a b:List Int} (ha:Zo a) (hb:Zo b) (hN:a.length+b.length+3<N) (hs:a.length+b.length<35184372087000):Zii N a b=some (Ze (Zb a+Zb b)):=by
 have:=Zzf N a b ha hb (by omega) hs N 0 [] 0 rfl .nil (by omega) (by omega) (by omega) (by omega)
 rw [aR,aR,Yn,dH] at this
 rw [Zii,show (0:Int)=((0:Nat):Int) from rfl,this]
 simp
theorem Z0y (N:Nat) (a b:List Int) (ha:Zo a) (hb:Zo b) (hN:a.length<N) (hs:a.length<35184372088000):∀ (n i:Nat) (out:List Int) (c:Nat),out.length=i→Zo out→c≤1→i≤a.length→a.length<n+i→c+Zb (b.drop i)≤Zb (a.drop i)→
  Q4 N a b n out (c:Int) (i:Int)=some (Ze (Zb out+4294967296 ^ i * (Zb (a.drop i) - (c+Zb (b.drop i)))),true)
 | 0,i,out,c,_,_,_,l,m,_=>by omega
 | n+1,i,out,c,e,f,o,l,m,g=>by
  rw [Q4.eq_2]
  by_cases hi:i<a.length
  ·have p:=Zer ha i
   have q:=Zer hb i
   rw [Uy a i,Uy b i] at g
   have go:∀ (d:Nat) (x:Int),d≤1→x=((Xy a i+4294967296 * d:Nat):Int)→Xy b i+c≤Xy a i+4294967296 * d→Xy a i+4294967296 * d<Xy b i+c+4294967296→Zir out (c:Int) (i:Int) (Q4 N a b n) ((Xy b i:Nat):Int) (d:Int) x=some (Ze (Zb out+4294967296 ^ i * (Zb (a.drop i) - (c+Zb (b.drop i)))),true):=fun d x j r s t=>by
    have ev:u32.wrap (u64.wrap (x - u64.wrap (((Xy b i:Nat):Int)+(c:Int))))=((Xy a i+4294967296 * d - (Xy b i+c):Nat):Int):=by
     rw [Xs (x:=((Xy b i:Nat):Int)+(c:Int)) (by omega),Xs (by omega),Ua (by omega)];omega
    rw [Zir,ev,Zx (by simp only [aH,maxLen];omega),Zn2,Zr (by omega)]
    generalize hv:Xy a i+4294967296 * d - (Xy b i+c)=v
    have k:=Z0y N a b ha hb hN hs n (i+1) (out++[(v:Int)]) d (by simp [e]) (f.app (.cons (by omega) .nil)) j (by omega) (by omega) (by omega)
    rw [show ((i+1:Nat):Int)=(i:Int)+1 by omega] at k
    rw [k,Qd,e,Wq,Yn,aB,Uy a i,Uy b i,aZ,dI,bO]
    congr 3
    refine Zrl ?_
    omega
   rw [if_pos (dT (by omega)),Zes ha,Zes hb,oB,oB,Xs (x:=((Xy b i:Nat):Int)+(c:Int)) (by omega)]
   by_cases hlt:Xy a i<Xy b i+c
   ·rw [if_pos (dT (by omega))]
    exact go 1 _ (by omega) (by rw [Xs (by omega)];omega) (by omega) (by omega)
   ·rw [if_neg (dF (by omega))]
    exact go 0 _ (by omega) (by omega) (by omega) (by omega)
  ·rw [if_neg (dF (by omega)),U1 f (by omega) (by omega),oB]
   rw [aG (show a.length≤i by omega),Yn] at g ⊢
   rw [show 0 - (c+Zb (b.drop i))=0 by omega]
   simp
theorem Zmh {N:Nat} {a b:List Int} (ha:Zo a) (hb:Zo b) (h1:a.length<N) (h2:b.length<N) (h3:a.length<35184372088000) (h4:b.length<35184372088000):
  Zdj N a b=some (if Zb a<Zb b then ([],false) else (Ze (Zb a - Zb b),true)):=by
 rw [Zdj,Zr0 ha hb h1 h2 (by omega) (by omega),oB]
 by_cases h:Zb a<Zb b
 ·rw [if_pos h,if_pos (by decide),if_pos h]
 ·have:=Z0y N a b ha hb h1 h3 N 0 [] 0 rfl .nil (by omega) (by omega) (by omega) (by simpa using Nat.le_of_not_lt h)
  rw [if_neg h,if_neg (by split <;> decide),if_neg h,show (0:Int)=((0:Nat):Int) from rfl,this]
  simp [Yn]
theorem Z0f (N:Nat) (a b:List Int) (ha:Zo a) (hb:Zo b) (i:Nat) (hi:i<a.length) (kk:List Int→Int→Option R2):∀ (n j:Nat) (p:List Int) (c:Nat),j≤b.length→b.length<n+j→i+b.length<p.length→p.length<4611686018427387904→Zo p→c<4294967296→Zb (p.drop (i+b.length))=0→
  ∃ p',Zfn N a b (i:Int) kk n (j:Int) p (c:Int)=kk p' ((i:Int)+1)∧p'.length=p.length∧Zo p'∧Zb p'=Zb p+4294967296 ^ (i+j) * (c+Xy a i * Zb (b.drop j))∧Zb (p'.drop (i+b.length+1))=0
 | 0,j,p,c,e,q,_,_,_,_,_=>by omega
 | n+1,j,p,c,e,q,f,r,g,C,l=>by
  rw [Zfn.eq_2]
  by_cases hj:j<b.length
  ·have d:i+j<p.length:=by omega
   have D:=g.get d
   have m:=ha.get hi
   have o:=hb.get hj
   have s:Xy a i=(a[i]).toNat:=by rw [Xy,aF,aI hi,dC]
   have E:a[i] * b[j]≤4294967295 * 4294967295:=Int.mul_le_mul (by omega) (by omega) (by omega) (by omega)
   have A:0≤a[i] * b[j]:=Int.mul_nonneg m.1 o.1
   have F:(((a[i]).toNat * (b[j]).toNat:Nat):Int)=a[i] * b[j]:=by rw [Int.natCast_mul,bJ m.1,bJ o.1]
   have t:u64.wrap (u64.wrap ((c:Int)+u64.wrap (u64.wrap a[i] * u64.wrap b[j]))+u64.wrap p[i+j])=((c+((a[i]).toNat * (b[j]).toNat+(p[i+j]).toNat):Nat):Int):=by
    rw [Xs (x:=a[i]) (by omega),Xs (x:=b[j]) (by omega),Xs (x:=a[i] * b[j]) (by omega),Xs (x:=p[i+j]) (by omega),Xs (x:=(c:Int)+_) (by omega),Xs (by omega)]
    omega
   rw [if_pos (dT (by omega)),Zu hi,oB,Zu hj,oB,Zr (x:=(i:Int)+(j:Int)) (by omega),show (i:Int)+(j:Int)=((i+j:Nat):Int) by omega,Zu d,oB,oB,aB,t]
   have B:c+((a[i]).toNat * (b[j]).toNat+(p[i+j]).toNat)<18446744073709551616:=by omega
   rw [Zsj (by omega),Zsi (by omega),aB,Zr (x:=(j:Int)+1) (by omega),show (j:Int)+1=((j+1:Nat):Int) by omega]
   generalize hS:c+((a[i]).toNat * (b[j]).toNat+(p[i+j]).toNat)=S at *
   obtain ⟨p',q1,u,v,w,y⟩:=Z0f N a b ha hb i hi kk n (j+1) (p.set (i+j) ((S % 4294967296:Nat):Int)) (S / 4294967296) (by omega) (by omega) (by rw [nS];exact f) (by rw [nS];exact r) (g.set _ (by omega)) (by omega) (by rw [Qp _ (by omega)];exact l)
   refine ⟨p',q1,by rw [u,nS],v,?_,y⟩
   rw [w,← dU i j 1,aZ,Uh hj,s]
   exact Zxa _ _ _ _ _ _ (p[i+j]).toNat (S % 4294967296) _ _ (by have:=Tc d ((S % 4294967296:Nat):Int);rw [aB] at this;exact this) (by omega)
  ·have:j=b.length:=by omega
   subst this
   have k:=drop_zero g f l
   rw [if_neg (dF (by omega)),Zr (x:=(i:Int)+(b.length:Int)) (by omega),show (i:Int)+(b.length:Int)=((i+b.length:Nat):Int) by omega,Zu f,oB,oB,aB,Ua (by omega),Zr (by omega)]
   refine ⟨_,rfl,by rw [nS],g.set _ (by omega),?_,?_⟩
   ·have e:=Tc f (c:Int)
    rw [k.1,aB] at e
    rw [List.drop_length,Yn,dI,bO]
    simpa using e
   ·rw [Qp _ (by omega)];exact k.2
theorem Z0e (N:Nat) (a b:List Int) (ha:Zo a) (hb:Zo b) (hN:a.length+b.length<N) (hs:a.length+b.length<35184372088000):∀ (n i:Nat) (p:List Int),i≤a.length→a.length<n+i→p.length=a.length+b.length→Zo p→Zb (p.drop (i+b.length))=0→
  Zby N a b n p (i:Int)=some (Ze (Zb p+4294967296 ^ i * (Zb (a.drop i) * Zb b)))
 | 0,i,p,e,f,_,_,_=>by omega
 | n+1,i,p,e,f,o,c,g=>by
  rw [Zby.eq_2]
  by_cases hi:i<a.length
  ·obtain ⟨j,q1,q,k,l,m⟩:=Z0f N a b ha hb i hi (Zby N a b n) N 0 p 0 (by omega) (by omega) (by omega) (by omega) c (by omega) g
   rw [show ((0:Nat):Int)=0 from rfl] at q1
   have d:=Z0e N a b ha hb hN hs n (i+1) j (by omega) (by omega) (by omega) k (by rw [show i+1+b.length=i+b.length+1 by omega];exact m)
   rw [show ((i+1:Nat):Int)=(i:Int)+1 by omega] at d
   rw [if_pos (dT (by omega)),q1,d,l,Uy a i,aZ,aR]
   congr 2
   simp only [bO,cS]
   grind
  ·rw [if_neg (dF (by omega)),U1 c (by omega) (by omega),oB,aG (by omega),Yn];simp
theorem Z0g {N:Nat} {a b:List Int} (ha:Zo a) (hb:Zo b) (h1:a.length+b.length<N) (h3:a.length+b.length<35184372088000):Zdi N a b=some (Ze (Zb a * Zb b)):=by
 have c:=Yh ha
 have d:=Yh hb
 rw [Zdi,U1 ha (by omega) (by omega),oB,U1 hb (by omega) (by omega),oB,Zr (by omega),Zx (by simp only [maxLen];omega)]
 have:=Z0e N (Ze (Zb a)) (Ze (Zb b)) (Xc _) (Xc _) (by omega) (by omega) N 0 (aC (aA (((Ze (Zb a)).length:Int)+((Ze (Zb b)).length:Int))) 0) (by omega) (by omega) (by rw [aN];omega) (.zeros _) (by rw [fV];exact Tt _)
 rw [show ((0:Nat):Int)=0 from rfl] at this
 rw [this,Tt,aR,Xd,Xd]
 simp
theorem Zzj (N:Nat):∀ (n:Nat) (c:Int) (t:Nat),Xo t<n→t<4294967296→0≤c∧c+(Xo t:Int)≤4611686018427387904→Zfi N n c (t:Int)=some (c+(Xo t:Int))
 | 0,c,t,h,_,_=>by omega
 | n+1,c,t,h,b,d=>by
  rw [Zfi.eq_2]
  have f:Xo t≤32:=V7.2 (by omega)
  by_cases h0:0<t
  ·have e:u32.wrap (aV (t:Int) 2)=((t / 2:Nat):Int):=by rw [bW (by omega),Ua (by omega)];omega
   have a:=Zj8 t 1
   rw [Nat.pow_one] at a
   have g:1≤Xo t:=by rw [Xo,if_neg (by omega)];omega
   rw [if_pos (dT (by omega)),e,Zr (by omega),Zzj N n (c+1) (t / 2) (by omega) (by omega) (by omega)]
   congr 1;omega
  ·have:t=0:=by omega
   subst this
   rw [if_neg (by decide),Zhb];simp
theorem Z87 {N:Nat} {a:List Int} (h:Zo a) (hn:a.length+32<N) (hb:a.length≤35184372088000):Zk5 N a=some ((Xo (Zb a):Nat):Int):=by
 have i:=Yh h
 rw [Zk5,U1 h (by omega) hb,oB]
 by_cases h0:(Ze (Zb a)).length=0
 ·have:Zb a=0:=Zhk.1 (cH h0)
  rw [if_pos (dT (by omega)),this,Zhb];rfl
 ·have b:0<(Ze (Zb a)).length:=by omega
  have e:((Ze (Zb a)).length:Int) - 1=(((Ze (Zb a)).length - 1:Nat):Int):=by omega
  have j:=(Xc (Zb a)).get (k:=(Ze (Zb a)).length - 1) (by omega)
  have f:=Znp b
  have c:=Zhj b
  have d:(Ze (Zb a))[(Ze (Zb a)).length - 1]=(((Ze (Zb a))[(Ze (Zb a)).length - 1]).toNat:Int):=by omega
  have g:Xo ((Ze (Zb a))[(Ze (Zb a)).length - 1]).toNat≤32:=V7.2 (by omega)
  rw [if_neg (dF (by omega)),Zr (by omega),e,Zu (by omega),oB,d,Zr (by omega),Zzj N N _ _ (by omega) (by omega) (by omega)]
  have hb:=Zsy (a:=(Ze (Zb a)).take ((Ze (Zb a)).length - 1)) (x:=(Ze (Zb a))[(Ze (Zb a)).length - 1]) ((Xc _).take _) (by omega)
  rw [c,Xd,nK,aS (by omega)] at hb
  rw [hb]
  congr 1
theorem Z2k (T l R k s:Nat) (hT:T<4294967296 ^ k) (hs:s<32):(T+4294967296 ^ k * (l+4294967296 * R)) / 2 ^ (32 * k+s) % 2=l / 2 ^ s % 2:=by
 have e:(4294967296:Nat) ^ k=2 ^ (32 * k):=by rw [show (4294967296:Nat)=2 ^ 32 by decide,← Nat.pow_mul]
 have a:0<4294967296 ^ k:=Nat.pow_pos (by decide)
 rw [cW,← e,← eD,fW _ _ a,dV hT,cS]
 have b:(4294967296:Nat)=2 ^ s * (2 * 2 ^ (31 - s)):=by
  rw [Nat.mul_left_comm,← cW,show s+(31 - s)=31 by omega]
 have c:l+4294967296 * R=l+2 ^ s * (2 * (2 ^ (31 - s) * R)):=by
  conv=>lhs;rw [b]
  rw [bP,bP]
 rw [c,fW _ _ (bY s),Nat.add_mul_mod_self_left]
theorem Z86 {a:List Int} (h:Zo a) {i:Nat} (hi:i<4611686018427387904):Zk4 a (i:Int)=some ((Zb a / 2 ^ i % 2:Nat):Int):=by
 have e:=Zer h (i / 32)
 have c:i64.wrap (aV (i:Int) 32)=((i / 32:Nat):Int):=by rw [bW (by omega),Zr (by omega)];omega
 have d:bI (i:Int) 32=((i % 32:Nat):Int):=by rw [cD (by omega)];omega
 rw [Zk4,c,Zes h,oB,d,Zx (by omega),Zpe _ _ _ (by simp only [IntKind.bits];omega)]
 have f:=cM (Xy a (i / 32)) (2 ^ (i % 32))
 have b:=Z2k (Zb (a.take (i / 32))) (Xy a (i / 32)) (Zb (a.drop (i / 32+1))) (i / 32) (i % 32) (Zoq h _) (by omega)
 rw [← Uy a,← Td,show 32 * (i / 32)+i % 32=i by omega] at b
 rw [b]
 generalize Xy a (i / 32) / 2 ^ (i % 32)=x at *
 rw [Ua (by omega),cD (by omega)]
 congr 1
theorem Zzt (N:Nat) (a:List Int) (ha:Zo a) (hs:a.length<35184372088000):∀ (n i:Nat) (out:List Int) (c:Nat),out.length=i→Zo out→c≤1→i≤a.length→a.length<n+i→
  ∃ o,Zfp N a n out (c:Int) (i:Int)=some o∧o.length≤a.length+1∧Zo o∧Zb o=Zb out+4294967296 ^ i * (c+2 * Zb (a.drop i))
 | 0,i,out,c,_,_,_,e,f=>by omega
 | n+1,i,out,c,b,d,p,e,f=>by
  rw [Zfp.eq_2]
  by_cases hi:i<a.length
  ·have q:=ha.get hi
   have g:u64.wrap ((c:Int)+u64.wrap (2 * u64.wrap a[i]))=((c+2 * (a[i]).toNat:Nat):Int):=by
    rw [Xs (x:=a[i]) (by omega),Xs (x:=2 * _) (by omega),Xs (by omega)];omega
   rw [if_pos (dT (by omega)),Zu hi,oB,g,Zsj (by omega),Zsi (by omega),aB]
   generalize hS:c+2 * (a[i]).toNat=S
   rw [Zx (by simp only [aH,maxLen];omega),Zr (by omega)]
   obtain ⟨o,q1,j,k,l⟩:=Zzt N a ha hs n (i+1) (out++[((S % 4294967296:Nat):Int)]) (S / 4294967296) (by simp [b]) (d.app (.cons (by omega) .nil)) (by omega) (by omega) (by omega)
   rw [show ((i+1:Nat):Int)=(i:Int)+1 by omega] at q1
   refine ⟨o,q1,j,k,?_⟩
   rw [l,Qd,b,Wq,Yn,aB,Uh hi,aZ,dI,bO]
   refine Zrl ?_
   omega
  ·have m:i=a.length:=by omega
   rw [if_neg (dF (by omega))]
   by_cases hcp:0<c
   ·rw [if_pos (dT (by omega)),Zx (by simp only [aH,maxLen];omega),Zit,Ua (by omega)]
    refine ⟨_,rfl,by simp;omega,d.app (.cons (by omega) .nil),?_⟩
    rw [Qd,b,Wq,Yn,aB,aG (by omega),Yn]
   ·have:c=0:=by omega
    subst this
    rw [if_neg (by decide),Zit]
    refine ⟨_,rfl,by omega,d,?_⟩
    rw [aG (by omega),Yn];simp
theorem Zzu {N:Nat} {a:List Int} {c:Nat} (ha:Zo a) (hc:c≤1) (hN:a.length<N) (hs:a.length<35184372088000):∃ o,Zis N a (c:Int)=some o∧o.length≤a.length+1∧Zo o∧Zb o=2 * Zb a+c:=by
 obtain ⟨o,q1,b,d,e⟩:=Zzt N a ha hs N 0 [] c rfl .nil hc (by omega) (by omega)
 refine ⟨o,?_,b,d,?_⟩
 ·rw [Zis,Xs (by omega)];exact q1
 ·rw [e,Yn,dH,aR];omega
theorem Z6y (Q e o2 r S v L:Nat) (h:r * 4294967296+e=2 * v+o2) (hS:S=Q * (o2+2 * (v+4294967296 * L))):S=Q * e+Q * 4294967296 * (r+2 * L):=by
 subst hS
 have:Q * (r * 4294967296+e)=Q * (2 * v+o2):=by rw [h]
 grind
theorem Zz9 (N:Nat) (a:List Int) (ha:Zo a) (hN:a.length<N) (hs:a.length<35184372088000):∀ (n j:Nat) (out:List Int) (r:Nat),out.length=a.length→Zo out→r≤1→j≤a.length→j<n→Zb (out.take j)=0→
  ∃ v,Zfq N a n out (r:Int) ((j:Int) - 1)=some (Ze v)∧∃ ρ,ρ≤1∧2 * v+ρ=Zb (a.take j)+4294967296 ^ j * (r+2 * Zb (out.drop j))
 | 0,j,out,r,_,_,_,_,h,_=>by omega
 | n+1,j,out,r,i,c,k,y,A,l=>by
  rw [Zfq.eq_2]
  by_cases h0:j=0
  ·subst h0
   rw [if_neg (by decide),U1 c (by omega) (by omega),oB]
   refine ⟨_,rfl,r,k,?_⟩
   rw [List.take_zero,Yn,aR,dH];omega
  ·have e:(j:Int) - 1=((j - 1:Nat):Int):=by omega
   have m:j - 1+1=j:=by omega
   have b:j - 1<a.length:=by omega
   have g:=ha.get b
   have o:u64.wrap (u64.wrap ((r:Int) * 4294967296)+u64.wrap a[j - 1])=((r * 4294967296+(a[j - 1]).toNat:Nat):Int):=by
    rw [Xs (x:=a[j - 1]) (by omega),Xs (x:=(r:Int) * 4294967296) (by omega),Xs (by omega)];omega
   rw [if_pos (dT (by omega)),e,Zu b,oB,Zu (by omega),oB,oB,aB,o,Zr (by omega)]
   generalize hS:r * 4294967296+(a[j - 1]).toNat=S
   have p:u32.wrap (u64.wrap (aV (S:Int) 2))=((S / 2:Nat):Int):=by rw [bW (by omega),Xs (by omega),Ua (by omega)];omega
   have q:bI (S:Int) 2=((S % 2:Nat):Int):=by rw [cD (by omega)];omega
   have s:Zb (out.take (j - 1))=0:=by
    have:=Td (out.take j) (j - 1)
    rw [fT,aS (by omega),l] at this
    omega
   rw [p,q]
   obtain ⟨v,q1,ρ,t,u⟩:=Zz9 N a ha hN hs n (j - 1) (out.set (j - 1) ((S / 2:Nat):Int)) (S % 2) (by rw [nS];exact i) (c.set _ (by omega)) (by omega) (by omega) (by omega) (by rw [Zeh _ (bB _)];exact s)
   refine ⟨v,q1,ρ,t,?_⟩
   rw [u]
   have d:=Zrj b
   have f:Zb ((out.set (j - 1) ((S / 2:Nat):Int)).drop (j - 1))=S / 2+4294967296 * Zb (out.drop (j - 1+1)):=by
    rw [Uh (by rw [nS];omega),List.getElem_set_self,Qp _ (by omega),aB]
   rw [m] at d f
   have w:(4294967296:Nat) ^ j=4294967296 ^ (j - 1) * 4294967296:=by rw [← aZ,show (j - 1).succ=j by omega]
   rw [d,f,w,dU]
   congr 1
   exact Z6y _ _ (S % 2) _ _ (S / 2) _ (by omega) rfl
theorem Zo9 {N:Nat} {a:List Int} (ha:Zo a) (hN:a.length<N) (hs:a.length<35184372088000):Zdl N a=some (Ze (Zb a / 2)):=by
 obtain ⟨v,q1,ρ,c,b⟩:=Zz9 N a ha hN hs N a.length (aC a.length 0) 0 (by rw [aN]) (.zeros _) (by omega) (bB _) hN (by rw [List.take_replicate];exact Tt _)
 rw [Zdl,Zx (by simp only [maxLen];omega),Zr (by omega)]
 rw [dK,fV,Tt] at b
 refine Eq.trans q1 ?_
 rw [show v=Zb a / 2 by omega]
theorem Z78 {a:List Int} (h:Zo a):Zb a % 2=Xy a 0 % 2:=by
 have:=Uy a 0
 rw [aR] at this
 omega
theorem Zo8 {a:List Int} (h:Zo a):Zdk a=some (decide (Zb a % 2=0)):=by
 rw [Zdk,Z78 h]
 by_cases h0:a.length=0
 ·have:a=[]:=cH h0
  subst this
  rfl
 ·have g:=h.get (k:=0) (by omega)
  have b:Xy a 0=(a[0]).toNat:=by rw [Xy,aF,aI (by omega),dC]
  rw [if_neg (dF (by omega)),show (0:Int)=((0:Nat):Int) from rfl,Zu (by omega),oB,Zk8,cD (by omega),b]
  congr 1
  exact decide_eq_decide.2 (by omega)
theorem Z8l {q:List Int} (hq:Zo q) {i:Nat} (hi:i<32 * q.length) (hd:2 ^ (i+1) ∣ Zb q):
  ∃ x:Nat,Zi q ((i / 32:Nat):Int)=some (x:Int)∧u32.wrap ((x:Int)+X6 .u32 1 ((i % 32:Nat):Int))=((x+2 ^ (i % 32):Nat):Int)∧x+2 ^ (i % 32)<4294967296∧Zb (q.set (i / 32) ((x+2 ^ (i % 32):Nat):Int))=Zb q+2 ^ i:=by
 have a:i / 32<q.length:=by omega
 have g:=hq.get a
 have m:i % 32<32:=Nat.mod_lt _ (by decide)
 have A:=bY (i % 32)
 have c:(4294967296:Nat) ^ (i / 32)=2 ^ (32 * (i / 32)):=by rw [show (4294967296:Nat)=2 ^ 32 by decide,← Nat.pow_mul]
 have d:(4294967296:Nat)=2 ^ (i % 32+1) * 2 ^ (31 - i % 32):=by rw [← cW,show i % 32+1+(31 - i % 32)=32 by omega]
 have n:(2:Nat) ^ (i+1)=4294967296 ^ (i / 32) * 2 ^ (i % 32+1):=by rw [c,← cW];congr 1;omega
 have f:(2:Nat) ^ i=4294967296 ^ (i / 32) * 2 ^ (i % 32):=by rw [c,← cW];congr 1;omega
 have b:=Td q (i / 32)
 rw [Uh a] at b
 have o:=Zoq hq (i / 32)
 have p:0<4294967296 ^ (i / 32):=Nat.pow_pos (by decide)
 rw [n] at hd
 -- the limb's lower bits are none
 have r:2 ^ (i % 32+1) ∣ (q[i / 32]).toNat:=by
  have j:4294967296 ^ (i / 32) ∣ Zb q:=Nat.dvd_trans ⟨_,rfl⟩ hd
  have s:4294967296 ^ (i / 32) ∣ Zb (q.take (i / 32)):=by
   rw [b] at j
   exact (jI ⟨_,rfl⟩).1 j
  have z:Zb (q.take (i / 32))=0:=Nat.eq_zero_of_dvd_of_lt s o
  rw [z,cS] at b
  rw [b] at hd
  have t:=Nat.dvd_of_mul_dvd_mul_left p hd
  have u:2 ^ (i % 32+1) ∣ 4294967296 * Zb (q.drop (i / 32+1)):=by
   conv=>rhs;rw [d]
   exact ⟨2 ^ (31 - i % 32) * Zb (q.drop (i / 32+1)),by rw [bP]⟩
  exact (jI u).1 t
 obtain ⟨y,k⟩:=r
 have l:(q[i / 32]).toNat+2 ^ (i % 32)<4294967296:=by
  have e:2 ^ (i % 32+1) * y<2 ^ (i % 32+1) * 2 ^ (31 - i % 32):=by rw [← k,← d];omega
  have v:=Nat.lt_of_mul_lt_mul_left e
  have w:=aU (2 ^ (i % 32+1)) (show y+1≤2 ^ (31 - i % 32) from v)
  rw [← d,Nat.mul_add,← k,aZ] at w
  omega
 refine ⟨(q[i / 32]).toNat,by rw [Zu a];congr 1;omega,?_,l,?_⟩
 ·rw [show (1:Int)=((1:Nat):Int) from rfl,Zsc m (.inl rfl),bR,Ua (x:=((2 ^ (i % 32):Nat):Int)) (by omega),Ua (by omega)]
  omega
 ·have e:=Tc a (((q[i / 32]).toNat+2 ^ (i % 32):Nat):Int)
  rw [aB,Nat.mul_add,← f] at e
  omega
theorem Zr2 (N:Nat) (a y:List Int) (ha:Zo a) (hy:Zo y) (hy0:0<Zb y) (hly:y.length+8<N) (hs:y.length<35184372000000) (hla:a.length<35184372000000) (hyc:(Ze (Zb y)).length=y.length) (hNa:a.length+y.length+8<N):∀ (n j:Nat) (r q:List Int),j<n→j<4611686018427387904→j≤32 * q.length→q.length≤a.length→Zo q→r=Ze (Zb r)→Zb r<Zb y→2 ^ j ∣ Zb q→Zb a / 2 ^ j=Zb q / 2 ^ j * Zb y+Zb r→
  Zbw N a y n r ((j:Int) - 1) q=some (Ze (Zb a / Zb y),Ze (Zb a % Zb y),0)
 | 0,j,r,q,h,_,_,_,_,_,_,_,_=>by omega
 | n+1,j,r,q,O,R,P,p,m,t,g,C,k=>by
  rw [Zbw.eq_2]
  by_cases h0:j=0
  ·subst h0
   rw [dH,Nat.div_one,Nat.div_one] at k
   rw [if_neg (by decide),U1 m (by omega) (by omega),oB]
   have D:Zb a / Zb y=Zb q:=by rw [k,bS,Nat.mul_add_div hy0,dV g,bO]
   have u:Zb a % Zb y=Zb r:=by rw [k,bS,Nat.mul_add_mod,Nat.mod_eq_of_lt g]
   rw [D,u,← t]
  ·have e:(j:Int) - 1=((j - 1:Nat):Int):=by omega
   obtain ⟨i,rfl⟩:∃ i,j=i+1:=⟨j - 1,by omega⟩
   have E:i+1 - 1=i:=by omega
   rw [e,E]
   have Q:r.length≤y.length:=by
    rw [t,← hyc];exact Vi (Nat.le_of_lt g)
   have v:Zo r:=by rw [t];exact Xc _
   have S:=Nat.mod_lt (Zb a / 2 ^ i) (show 0<2 by decide)
   obtain ⟨d,F,T,o,w⟩:=Zzu (N:=N) (a:=r) (c:=Zb a / 2 ^ i % 2) v (by omega) (by omega) (by omega)
   have u:Zb a / 2 ^ i=2 * (Zb a / 2 ^ (i+1))+Zb a / 2 ^ i % 2:=by
    rw [aZ,← eD];omega
   obtain ⟨qq,f⟩:=C
   have A:Zb q / 2 ^ (i+1)=qq:=by rw [f,fE _ (bY _)]
   have s:Zb q / 2 ^ i=2 * qq:=by rw [f,aZ,bP,fE _ (bY _)]
   rw [A] at k
   rw [if_pos (dT (by omega)),Z86 ha (by omega),oB,F,oB,U1 o (by omega) (by omega),oB,Zr0 (Xc _) hy (by have:=Yh o;omega) (by omega) (by have:=Yh o;omega) (by omega),oB,Xd,w]
   rw [k] at u
   have l:Zb a / 2 ^ i=2 * qq * Zb y+(2 * Zb r+Zb a / 2 ^ i % 2):=by
    have:2 * qq * Zb y=2 * (qq * Zb y):=bP _ _ _
    omega
   generalize hbit:Zb a / 2 ^ i % 2=b at *
   by_cases hge:Zb y≤2 * Zb r+b
   ·rw [if_pos (by rw [if_neg (by omega)];split <;> decide)]
    obtain ⟨x,G,H,I,B⟩:=Z8l m (i:=i) (by omega) ⟨qq,f⟩
    have J:i64.wrap (aV (i:Int) 32)=((i / 32:Nat):Int):=by rw [bW (by omega),Zr (by omega)];omega
    have K:bI (i:Int) 32=((i % 32:Nat):Int):=by rw [cD (by omega)];omega
    have U:(Ze (2 * Zb r+b)).length≤y.length+1:=by rw [← w];exact aY (Yh o) (by omega)
    rw [Zmh (Xc _) hy (by omega) (by omega) (by omega) (by omega),oB,Xd,if_neg (by omega),J,K,G,oB,Zx (by omega),H,oB,aB,Zil,Zr (by omega)]
    have L:=Zr2 N a y ha hy hy0 hly hs hla hyc hNa n i (Ze (2 * Zb r+b - Zb y)) (q.set (i / 32) ((x+2 ^ (i % 32):Nat):Int)) (by omega) (by omega) (by rw [nS];omega) (by rw [nS];exact p) (m.set _ ⟨Int.natCast_nonneg _,Int.ofNat_lt.2 I⟩) (by rw [Xd]) (by rw [Xd];omega) (by
     rw [B,f];exact Nat.dvd_add ⟨2 * qq,by rw [aZ,bP]⟩ (Nat.dvd_refl _)) (by
     have:Zb (q.set (i / 32) ((x+2 ^ (i % 32):Nat):Int)) / 2 ^ i=2 * qq+1:=by
      rw [B,Nat.add_div_right _ (bY _),s]
     rw [this,Xd,l,Nat.add_mul,bR];omega)
    exact L
   ·rw [if_neg (by rw [if_pos (by omega)];decide),Zil,Zr (by omega)]
    exact Zr2 N a y ha hy hy0 hly hs hla hyc hNa n i (Ze (2 * Zb r+b)) q (by omega) (by omega) (by omega) p m (by rw [Xd]) (by rw [Xd];omega) (by rw [f];exact ⟨2 * qq,by rw [aZ,bP]⟩) (by rw [s,Xd,l])
theorem Zzs {N:Nat} {a b:List Int} (ha:Zo a) (hb:Zo b) (hN:32 * a.length+(Ze (Zb b)).length+48<N) (hbN:b.length<N) (hs:a.length+(Ze (Zb b)).length<35184370000000) (hbs:b.length≤35184372000000):
  Zik N a b=some (if Zb b=0 then ([],[],11) else (Ze (Zb a / Zb b),Ze (Zb a % Zb b),0)):=by
 have f:=Yh ha
 rw [Zik,U1 hb (by omega) (by omega),oB]
 by_cases h0:Zb b=0
 ·rw [h0,Ve,if_pos (by decide),if_pos rfl]
 ·have d:=T9 h0
  have e:=(Zm0 (Zb a)).2
  rw [if_neg (dF (by omega)),if_neg h0,Z87 ha (by omega) (by omega),oB]
  have c:i64.wrap (aV (i64.wrap (((Xo (Zb a):Nat):Int)+31)) 32)=(((Xo (Zb a)+31) / 32:Nat):Int):=by
   rw [Zr (x:=((Xo (Zb a):Nat):Int)+31) (by omega),bW (by omega),Zr (by omega)];omega
  rw [c,Zx (by simp only [maxLen,aB];omega),aB,Zr (by omega)]
  have:=Zr2 N a (Ze (Zb b)) ha (Xc _) (by rw [Xd];omega) (by omega) (by omega) (by omega) (by rw [Xd]) (by omega) N (Xo (Zb a)) [] (aC ((Xo (Zb a)+31) / 32) 0) (by omega) (by omega) (by rw [aN];omega) (by rw [aN];omega) (.zeros _) (by rw [Yn,Ve]) (by rw [Xd,Yn];omega) (by rw [Tt];exact ⟨0,rfl⟩) (by
   rw [Tt,Yn,Nat.zero_div,Nat.zero_mul]
   exact dV (V7.1 (bB _)))
  rw [Xd] at this
  exact this
theorem Z5f {x:Nat} (h:x % 2=1):Nat.Coprime 2 x:=by
 rw [Nat.coprime_iff_gcd_eq_one,Nat.gcd_rec,h,Nat.gcd_one_left]
theorem Zvj {x y k:Nat} (h:y % 2=1):cR (2 ^ k * x) y=cR x y:=by
 induction k with
 | zero=>rw [dH,bR]
 | succ k a=>rw [aZ,bS (2 ^ k),bP,(Z5f h).gcd_mul_left_cancel,a]
theorem Z6x {x y k:Nat} (h:x % 2=1):cR x (2 ^ k * y)=cR x y:=by
 rw [eS,Zvj h,eS]
theorem Zm1 {x:Nat} (h:x≠0):1≤Xo x:=by rw [Xo,if_neg h];omega
theorem Zmz (x:Nat):Xo (x / 2)=Xo x - 1:=by
 have:=Zj8 x 1
 rwa [Nat.pow_one] at this
theorem Zj7 {x y:Nat} (h:x≤y):Xo x≤Xo y:=V7.2 (Nat.lt_of_le_of_lt h (V7.1 (bB _)))
theorem Zj6 {M x:Nat} (h:(Ze x).length≤M):Xo x≤32 * M:=by have:=(Zm0 x).2;omega
theorem Zv6 {x xo k:Nat} (h:x=2 ^ k * xo):xo≤x:=by
 rw [h]
 have:=bH xo (bY k)
 omega
section
variable {N M:Nat} (hN:100 * M+64<N) (hM:M<1066000000100)
include hN hM
theorem Zz7 (t:Nat):∀ (n i:Nat) (x:List Int),i≤t→t - i<n→t≤32 * M→Zo x→x.length+(t - i)≤33 * M→
  ∃ g,Zfm N (t:Int) n x (i:Int)=some g∧Zo g∧Zb g=2 ^ (t - i) * Zb x∧g.length≤x.length+(t - i)
 | 0,i,x,_,h,_,_,_=>by omega
 | n+1,i,x,p,q,j,b,r=>by
  rw [Zfm.eq_2]
  by_cases h0:i<t
  ·obtain ⟨d,e,s,k,l⟩:=Zzu (N:=N) (a:=x) (c:=0) b (by omega) (by omega) (by omega)
   rw [show ((0:Nat):Int)=0 from rfl] at e
   obtain ⟨g,f,m,o,u⟩:=Zz7 t n (i+1) d (by omega) (by omega) j k (by omega)
   rw [show ((i+1:Nat):Int)=(i:Int)+1 by omega] at f
   rw [if_pos (dT (by omega)),e,oB,Zr (by omega)]
   refine ⟨g,f,m,?_,by omega⟩
   rw [o,l,bO (2 * Zb x),← bP,← aZ]
   congr 2;omega
  ·have:i=t:=by omega
   subst this
   rw [if_neg (dF (by omega))]
   exact ⟨x,rfl,b,by simp,by omega⟩
theorem Zz6 (kk:List Int→List Int→Option R2) {x:Nat} (hx:(Ze x).length≤M):∀ (n y:Nat),y≠0→Xo y<n→(Ze y).length≤M→
  ∃ yo k,y=2 ^ k * yo∧yo % 2=1∧Zax N kk (Ze x) n (Ze y)=kk (Ze (min x yo)) (Ze (max x yo - min x yo))
 | 0,y,_,h,_=>by omega
 | n+1,y,a,f,b=>by
  have g:=T9 a
  rw [Zax.eq_2,if_pos (dT (by omega)),Zo8 (Xc _),Xd,oB,Zk7]
  by_cases he:y % 2=0
  ·rw [if_pos (dT he),Zo9 (Xc _) (by omega) (by omega),oB,Xd]
   have i:=Zmz y
   have j:=Zm1 a
   obtain ⟨yo,k,c,d,e⟩:=Zz6 kk hx n (y / 2) (by omega) (by omega) (aY (Vi (cM _ _)) b)
   refine ⟨yo,k+1,?_,d,e⟩
   rw [aZ,bS (2 ^ k),bP,← c];omega
  ·rw [if_neg (dF he),Zr0 (Xc _) (Xc _) (by omega) (by omega) (by omega) (by omega),oB,Xd,Xd]
   refine ⟨y,0,by simp,by omega,?_⟩
   by_cases hxy:y<x
   ·rw [if_pos (by rw [if_neg (by omega),if_pos hxy];decide),Zin,Zmh (Xc _) (Xc _) (by omega) (by omega) (by omega) (by omega),oB,Xd,Xd,if_neg (by omega),dL (by omega),fM (by omega)]
   ·rw [if_neg (by split <;> (try split) <;> simp_all <;> omega),Zin,Zmh (Xc _) (Xc _) (by omega) (by omega) (by omega) (by omega),oB,Xd,Xd,if_neg (by omega),aS (by omega),fF (by omega)]
theorem Zz5 (kk:List Int→List Int→Option R2) {y:Nat}:∀ (n x:Nat),x≠0→Xo x<n→(Ze x).length≤M→
  ∃ xo k,x=2 ^ k * xo∧xo % 2=1∧Zfl N (Ze y) kk n (Ze x)=Zax N kk (Ze xo) N (Ze y)
 | 0,x,_,h,_=>by omega
 | n+1,x,a,f,b=>by
  rw [Zfl.eq_2,Zo8 (Xc _),Xd,oB]
  by_cases he:x % 2=0
  ·rw [if_pos (dT he),Zo9 (Xc _) (by omega) (by omega),oB,Xd]
   have g:=Zmz x
   have i:=Zm1 a
   obtain ⟨xo,k,c,d,e⟩:=Zz5 kk n (x / 2) (by omega) (by omega) (aY (Vi (cM _ _)) b)
   refine ⟨xo,k+1,?_,d,e⟩
   rw [aZ,bS (2 ^ k),bP,← c];omega
  ·rw [if_neg (dF he)]
   exact ⟨x,0,by simp,by omega,rfl⟩
theorem Zz8 (t:Nat) {n x y:Nat} (hx:x≠0) (hy:y≠0) (h:x % 2=1∨y % 2=1) (lx:(Ze x).length≤M) (ly:(Ze y).length≤M):
  ∃ x' y',Ug N (t:Int) (n+1) (Ze x) (Ze y)=Ug N (t:Int) n (Ze x') (Ze y')∧x' % 2=1∧y' % 2=0∧cR x' y'=cR x y∧(Ze x').length≤M∧(Ze y').length≤M∧(Xo x'+Xo y'≤Xo x+Xo y)∧(y % 2=0→Xo x'+Xo y'+1≤Xo x+Xo y):=by
 have w:=T9 hy
 have A:=Zj6 lx
 have s:=Zj6 ly
 obtain ⟨a,k,g,j,m⟩:=Zz5 hN hM (Ug N (t:Int) n) (y:=y) N x hx (by omega) lx
 have f:=Zv6 g
 obtain ⟨yo,l,d,o,p⟩:=Zz6 hN hM (Ug N (t:Int) n) (x:=a) (aY (Vi f) lx) N y hy (by omega) ly
 have i:=Zv6 d
 rw [Ug.eq_2,if_pos (dT (by omega)),m,p]
 have B:max a yo≤max x y:=by omega
 have lM:(Ze (max x y)).length≤M:=by
  rcases iB x y with h | h
  ·rw [fF h];exact ly
  ·rw [fM h];exact lx
 have u:Xo (min a yo)+Xo (max a yo - min a yo)≤Xo a+Xo yo:=by
  rcases iB a yo with h | h
  ·rw [aS h,fF h]
   have:=Zj7 (gT yo a);omega
  ·rw [dL h,fM h]
   have:=Zj7 (gT a yo);omega
 have C:=Zj7 f
 have D:=Zj7 i
 refine ⟨_,_,rfl,by omega,by omega,?_,aY (Vi (by omega)) lM,aY (Vi (by omega)) lM,by omega,fun v=>?_⟩
 ·have q:cR (min a yo) (max a yo - min a yo)=cR a yo:=by
   rcases iB a yo with h | h
   ·rw [aS h,fF h,iC h]
   ·rw [dL h,fM h,iC h,eS]
  rw [q,g,d]
  rcases h with h | h
  ·have c:k=0:=by
    rcases eY k with c | c
    ·exact c
    ·obtain ⟨b,rfl⟩:∃ b,k=b+1:=⟨k - 1,by omega⟩
     rw [g,aZ,bS (2 ^ b),bP] at h;omega
   subst c
   rw [dH,bR,Z6x j]
  ·have e:l=0:=by
    rcases eY l with c | c
    ·exact c
    ·obtain ⟨b,rfl⟩:∃ b,l=b+1:=⟨l - 1,by omega⟩
     rw [d,aZ,bS (2 ^ b),bP] at h;omega
   subst e
   rw [dH,bR,Zvj o]
 ·have:yo≤y / 2:=by
   rcases eY l with e | e
   ·subst e;rw [dH,bR] at d;omega
   ·obtain ⟨b,rfl⟩:∃ b,l=b+1:=⟨l - 1,by omega⟩
    rw [d,aZ,bS (2 ^ b),bP,fE _ (by decide)]
    have:=bH yo (bY b)
    omega
  have r:=Zj7 this
  rw [Zmz] at r
  have E:=Zm1 hy
  omega
theorem Zz4 (t:Nat) (ht:t≤32 * M):∀ (n x y:Nat),x % 2=1→y % 2=0→Xo x+Xo y<n→(Ze x).length≤M→(Ze y).length≤M→
  ∃ g,Ug N (t:Int) n (Ze x) (Ze y)=some g∧Zo g∧Zb g=2 ^ t * cR x y∧g.length≤33 * M
 | 0,x,y,_,_,h,_,_=>by omega
 | n+1,x,y,e,f,v,i,j=>by
  by_cases h0:y=0
  ·subst h0
   rw [Ug.eq_2,Ve,if_neg (by decide)]
   obtain ⟨g,b,c,a,d⟩:=Zz7 hN hM t N 0 (Ze x) (by omega) (by omega) ht (Xc _) (by omega)
   rw [Xd,Nat.sub_zero] at a
   exact ⟨g,b,c,by rw [a,iY],by omega⟩
  ·obtain ⟨k,l,m,o,p,q,r,s,_,u⟩:=Zz8 hN hM t (n:=n) (by omega) h0 (.inl e) i j
   have:=u f
   obtain ⟨g,b,c,a,d⟩:=Zz4 t ht n k l o p (by omega) r s
   exact ⟨g,by rw [m,b],c,by rw [a,q],d⟩
theorem Zz3:∀ (n x y t:Nat),x≠0→y≠0→Xo x<n→t+Xo x≤32 * M→(Ze x).length≤M→(Ze y).length≤M→
  ∃ g,Zbx N n (Ze x) (Ze y) (t:Int)=some g∧Zo g∧Zb g=2 ^ t * cR x y∧g.length≤33 * M
 | 0,x,y,t,_,_,h,_,_,_=>by omega
 | n+1,x,y,t,k,l,B,C,d,e=>by
  have D:=Zj6 d
  have w:=Zj6 e
  have a:(x % 2=1∨y % 2=1)→∃ g,Ug N (t:Int) N (Ze x) (Ze y)=some g∧Zo g∧Zb g=2 ^ t * cR x y∧g.length≤33 * M:=fun h=>by
   obtain ⟨b,A⟩:∃ b,N=b+1:=⟨N - 1,by omega⟩
   obtain ⟨m,o,p,q,r,s,u,v,E,_⟩:=Zz8 hN hM t (n:=b) k l h d e
   obtain ⟨g,c,f,i,j⟩:=Zz4 hN hM t (by omega) b m o q r (by omega) u v
   refine ⟨g,?_,f,by rw [i,s],j⟩
   rw [← c,← p]
   congr 1
  rw [Zbx.eq_2,Zo8 (Xc _),Xd,oB]
  by_cases hxe:x % 2=0
  ·rw [if_pos (dT hxe),Zo8 (Xc _),Xd,oB,Zim]
   by_cases hye:y % 2=0
   ·rw [if_pos (dT hye),Zo9 (Xc _) (by omega) (by omega),oB,Zo9 (Xc _) (by omega) (by omega),oB,Xd,Xd,Zr (by omega)]
    have F:=Zmz x
    have G:=Zm1 k
    obtain ⟨g,c,f,i,j⟩:=Zz3 n (x / 2) (y / 2) (t+1) (by omega) (by omega) (by omega) (by omega) (aY (Vi (cM _ _)) d) (aY (Vi (cM _ _)) e)
    rw [show ((t+1:Nat):Int)=(t:Int)+1 by omega] at c
    refine ⟨g,c,f,?_,j⟩
    rw [i,aZ,bP,← Nat.gcd_mul_left]
    congr 2 <;> omega
   ·rw [if_neg (dF hye)]
    exact a (.inr (by omega))
  ·rw [if_neg (dF hxe),Zim,if_neg (by decide)]
   exact a (.inl (by omega))
end
theorem Z9j {N M:Nat} {a b:List Int} (ha:Zo a) (hb:Zo b) (hla:a.length≤M) (hlb:b.length≤M) (hN:100 * M+64<N) (hM:M<1066000000100):∃ g,Zk6 N a b=some g∧Zo g∧Zb g=cR (Zb a) (Zb b)∧g.length≤33 * M:=by
 have i:=Yh ha
 have j:=Yh hb
 rw [Zk6,U1 ha (by omega) (by omega),oB,U1 hb (by omega) (by omega),oB]
 by_cases h1:Zb a=0
 ·rw [h1,Ve,if_pos (by decide),Nat.gcd_zero_left]
  exact ⟨_,rfl,Xc _,Xd _,by omega⟩
 ·have p1:=T9 h1
  rw [if_neg (dF (by omega))]
  by_cases h2:Zb b=0
  ·rw [h2,Ve,if_pos (by decide),iY]
   exact ⟨_,rfl,Xc _,Xd _,by omega⟩
  ·have p2:=T9 h2
   have k:=Zj6 (x:=Zb a) (by omega)
   rw [if_neg (dF (by omega))]
   obtain ⟨g,c,d,e,f⟩:=Zz3 hN hM N (Zb a) (Zb b) 0 h1 h2 (by omega) (by omega) (by omega) (by omega)
   exact ⟨g,c,d,by rw [e];simp,f⟩
def Zn6:Option R2:=
  some [1]
theorem Z3z {col:Zd} {w0:World} {r:R2} (c1:Nat) (hm:Zn6=some r):
    Calls prog 147 #[] w0 (W2 .u32 45 c1 col w0 r):=by
 refine Z6 0 (m:=2) func147 rfl rfl rfl rfl rfl ?_;rw [Zn6.eq_1] at hm;have aa:=St.start col w0;refine go ?_;refine Wj (col:=(Zf col)) [1] 1 ?_;intro ad ae af ab ac;refine go ?_;cases hm;replace aa:=aa.grow ab;exact ⟨rfl,_,_,1,rfl,aa.fin (cm [(1,c1)]),aa.fo ac⟩
def S7 (N:Nat) (ab:R1):Option R2:=
  (V1 N ab.2).bind fun aa=>if (decide ((aa.length:Int)=0))=true then ((Zn6).bind fun ac=>some ac) else (some aa)
theorem Zcn {N ad ae:Nat} {af ag:Option Addr} {col:Zd} {w0:World} {ab:R1} {r:R2} (c1:Nat) (hm:S7 N ab=some r) (aq:Sl rU col w0 af ad ab.1.2) (ac:Sl rU col w0 ag ae ab.2):
    Calls prog 107 #[(.agg #[.bool ab.1.1,.slice af ab.1.2.length ad,.slice ag ab.2.length ae])] w0 (W2 .u32 45 c1 col w0 r):=by
 refine Z6 2 (m:=12) func107 rfl rfl rfl rfl rfl ?_;rw [S7.eq_1] at hm;have aa:=St.start col w0;refine go ?_;refine Xl (col:=(Zf col)) 1 rfl ?_;intro ar au av ah ai;refine go ?_;refine Z1 ai ?_;obtain ⟨aw,aj,hm⟩:=bZ hm;replace aa:=aa.grow ah;refine Zk (Ut 2 aj (ac.k0.ks aa)) ?_;rintro _ ax ⟨ak,ay,az,rfl,al,am⟩;refine ⟨_,rfl,go ?_⟩;replace aa:=aa.grow al;refine Zm hm (fun hb hm=>go ?_) fun hb hm=>go ?_
 ·obtain ⟨a0,an,hm⟩:=bZ hm;refine lc rfl rfl (Zg4 call147) (Z3z (col:=ak) 3 an:) ?_;rintro _ a1 ⟨a2,a3,a4,rfl,ao,ap⟩;refine ⟨_,rfl,go ?_⟩;cases hm;replace aa:=aa.grow ao;exact ⟨rfl,_,_,_,rfl,aa.fin (cm [(3,c1)]),aa.fo ap⟩
 cases hm;exact ⟨rfl,_,_,_,rfl,aa.fin (cm [(2,c1)]),aa.fo am⟩
def Zaz (aa:List Int):Option R4:=
  some (false,aa)
theorem Zna {ac:Nat} {a0:Option Addr} {col:Zd} {w0:World} {ab:R2} {r:R4} (hm:Zaz ab=some r) (h0:Sl rU col w0 a0 ac ab):
    Calls prog 109 #[.slice a0 ab.length ac] w0 (fun e w'=>∃ col' ra1 rc2,e= .returned ((.agg #[.bool r.1,.slice ra1 r.2.length rc2]))∧Zn col w0 col' w'∧Sl rU col' w' ra1 rc2 r.2):=by
 refine We (m:=5) func109 rfl rfl rfl ?_;rw [Zaz.eq_1] at hm;have aa:=St.start col w0;refine go ?_;refine Xx (col:=(Zf col)) #[.bool false,(nI)] 1 zeroValue40 ?_;intro ai aj ak ad ae;refine go ?_;refine lV (.agg #[.bool false,.slice a0 ab.length ac]) (Wl (l:=[_,_]) (qs:=[(0,1),(1,1)]) underlying40 zeroValue40 ⟨rfl,sizeOf4,rfl,sizeOf38,trivial⟩ rfl)<|Xf ae ?_;intro al af ag ah;refine go ?_;cases hm;replace aa:=(aa.grow ad).kp af ag;exact ⟨rfl,_,ra ah.atN,_,_,_,rfl,aa.fin (cm []),aa.fs (h0.k0.ks aa)⟩
def Ziv (aa:Bool) (ab:List Int):Option R4:=
  some (aa,ab)
def S6 (N:Nat) (ab:Bool) (ac:List Int):Option R4:=
  (V1 N ac).bind fun aa=>if ab=true then (Ziv (decide (0<(aa.length:Int))) aa) else (Ziv false aa)
theorem Zcm {N ao:Nat} {a1:Option Addr} {col:Zd} {w0:World} {ap:Bool} {ah:R2} {r:R4} (c1:Nat) (hm:S6 N ap ah=some r) (h1:Sl rU col w0 a1 ao ah):
    Calls prog 148 #[.bool ap,.slice a1 ah.length ao] w0 (Sg 45 c1 col w0 r):=by
 refine We (m:=16) func148 rfl rfl rfl ?_;rw [S6.eq_1] at hm;have aa:=St.start col w0;refine go ?_;refine Xx (col:=(Zf col)) #[.bool false,(nI)] 1 zeroValue40 ?_;intro ax a4 a5 ay ac;refine go ?_;obtain ⟨ad,az,hm⟩:=bZ hm;replace aa:=aa.grow ay;refine Zk (Ut 2 az (h1.k0.ks aa)) fun _ a6 ⟨a7,aq,ar,e',au,ab⟩=>⟨_,e',?_⟩;refine Zbe rfl<|Zl<|Z0 ?_;replace ac:=ac.gr au;replace aa:=aa.grow au;refine Wp.cutK [4,1000000] (fun f ae=>∃ af ai aj ak ag,Ziv ai ag=some r∧St w0 (Zf col) af ae∧Zc rU 45 3 af ae aj ak ag∧Zj 40 1 af ae ax #[.bool ai,.slice aj ag.length ak]) ?_ ?_
 ·intro f ae hJ;obtain ⟨af,ai,aj,ak,ag,hm,aa,a0,ac⟩:=hJ;rw [Ziv.eq_1] at hm;refine Wh ?_;cases hm;exact ⟨rfl,_,ra ac.atN,_,_,_,rfl,aa.fin (cm [(3,c1)]),aa.fo a0⟩
 refine go ?_;refine Xn hm (fun al hm=>go ?_) fun al hm=>go ?_
 ·refine lV (.bool (decide (0<(ad.length:Int)))) (Zw (congrArg Value.bool al) rfl)<|Wo rfl<|lV (.agg #[.bool (decide (0<(ad.length:Int))),.slice aq ad.length ar]) (Wl (l:=[_,_]) (qs:=[(0,1),(1,1)]) underlying40 zeroValue40 ⟨rfl,sizeOf4,rfl,sizeOf38,trivial⟩ rfl)<|Xf ac ?_;intro a8 av a2 am;refine Zl ?_;replace ab:=ab.kp av;replace ab:=ab.recolSelf 3 (by decide);replace aa:=aa.kp av a2;replace aa:=aa.recol 2 3 (by decide) (by decide);exact ⟨rfl,_,_,_,_,_,hm,aa,ab,am.recol 2 3⟩
 refine lV (.bool false) (Xk (congrArg Value.bool al) rfl)<|Wo rfl<|lV (.agg #[.bool false,.slice aq ad.length ar]) (Wl (l:=[_,_]) (qs:=[(0,1),(1,1)]) underlying40 zeroValue40 ⟨rfl,sizeOf4,rfl,sizeOf38,trivial⟩ rfl)<|Xf ac ?_;intro a9 aw a3 an;refine Zl ?_;replace ab:=ab.kp aw;replace ab:=ab.recolSelf 3 (by decide);replace aa:=aa.kp aw a3;replace aa:=aa.recol 2 3 (by decide) (by decide);exact ⟨rfl,_,_,_,_,_,hm,aa,ab,an.recol 2 3⟩
def Zb0 (N:Nat) (aa:R4) (ab:R4):Option R4:=
  (Zdi N aa.2 ab.2).bind fun ad=>(S6 N (!decide (aa.1=ab.1)) ad).bind fun ac=>some (ac.1,ac.2)
theorem Zka {N ar au:Nat} {av aw:Option Addr} {col:Zd} {w0:World} {ag ah r:R4} (c1:Nat) (hm:Zb0 N ag ah=some r) (al:Sl rU col w0 av ar ag.2) (am:Sl rU col w0 aw au ah.2):
    Calls prog 108 #[(.agg #[.bool ag.1,.slice av ag.2.length ar]),(.agg #[.bool ah.1,.slice aw ah.2.length au])] w0 (Sg 45 c1 col w0 r):=by
 refine We (m:=16) func108 rfl rfl rfl ?_;rw [Zb0.eq_1] at hm;have aa:=St.start col w0;refine go ?_;refine Xl (col:=(Zf col)) 1 rfl ?_;intro a7 a8 az a0 ai;refine Xl (col:=az) 2 rfl ?_;intro a9 ba a1 ax aj;refine Xx (col:=a1) #[.bool false,(nI)] 3 zeroValue40 ?_;intro bb bc ad an ab;refine go ?_;refine Wc (col:=ad) [(0,1),(1,0),(2,1),(3,0),(4,1),(5,1),(6,0),(7,1),(8,0),(9,3),(10,3),(11,2)] (by kernel_rfl) (by kernel_rfl)<|xF ⟨_,_,rfl⟩ ?_;replace ai:=(ai.gr ax).gr an;refine xW (fun _ hC=>((ai.atN).nth (q:=0) rfl).gr (hC.bl ad)) ?_;refine xF ⟨_,_,rfl⟩ ?_;replace aj:=aj.gr an;refine xW (fun _ hC=>((aj.atN).nth (q:=0) rfl).gr (hC.bl ad)) ?_;refine xu rfl rfl (fun _=>Zmc _ _ underlying4 rfl rfl) ?_;refine xF ⟨_,_,rfl⟩ ?_;refine xW (fun _ hC=>((ai.atN).nth (q:=1) rfl).gr (hC.bl ad)) ?_;refine xF ⟨_,_,rfl⟩ ?_;refine xW (fun _ hC=>((aj.atN).nth (q:=1) rfl).gr (hC.bl ad)) ?_;refine xe rfl rfl ?_;intro bd hC0;have hC:=hC0.bl ad;obtain ⟨be,a2,hm⟩:=bZ hm;replace aa:=(((aa.grow a0).grow ax).grow an).grow hC;refine Zk (Zp7 4 a2 (al.k0.ks aa) (am.k0.ks aa)) fun _ bf ⟨af,bg,bh,e',ao,ap⟩=>⟨_,e',?_⟩;refine Zl<|Xt af hC0 ao<|xe rfl rfl ?_;intro a3 hC0;replace ab:=(ab.gr hC).gr ao;have hC:=hC0.bl af;obtain ⟨bi,a4,hm⟩:=bZ hm;refine Zk (Zcm 5 a4 ((ap.gr hC).toSlF (Zh.int .u32))) fun _ bj ⟨a5,bk,bm,e',ae,ac⟩=>⟨_,e',?_⟩;replace ac:=ac.thaw (Z3 .u32) ae ((Fz.refl (col:=af)).froz 4);replace ae:=ae.thawR (col:=af);generalize Xj a3.heap.size af a5=ak at *;refine Zl<|Xt ak hC0 ae<|xe rfl rfl ?_;intro bn hC0;replace aa:=((aa.grow ao).grow hC).grow ae;replace ab:=(ab.gr hC).gr ae;have hC:=hC0.bl ak;refine Xf (ab.gr hC) ?_;intro bo ay a6 aq;refine Zl<|xk ak<|Y0 ?_;replace ac:=(ac.gr hC).kp ay;replace aa:=(aa.grow hC).kp ay a6;intro bp hC;replace hC:=hC.bl ak;refine Wh ?_;cases hm;replace aa:=aa.grow hC;exact ⟨rfl,_,ra (aq.gr hC).atN,_,_,_,rfl,aa.fin (cm [(5,c1)]),aa.fo (ac.gr hC)⟩
def Ziu (N:Nat) (aa:R4) (ab:R4):Option R4:=
  if (decide (aa.1=ab.1))=true then ((Zii N aa.2 ab.2).bind fun ag=>(S6 N aa.1 ag).bind fun ac=>some (ac.1,ac.2)) else ((Zdj N aa.2 ab.2).bind fun ad=>if ad.2=true then ((S6 N aa.1 ad.1).bind fun ae=>some (ae.1,ae.2)) else ((Zdj N ab.2 aa.2).bind fun ah=>(S6 N ab.1 ah.1).bind fun af=>some (af.1,af.2)))
theorem Ztg {N a3 a4:Nat} {a5 a6:Option Addr} {col:Zd} {w0:World} {ao ap r:R4} (c1:Nat) (hm:Ziu N ao ap=some r) (ag:Sl rU col w0 a5 a3 ao.2) (ah:Sl rU col w0 a6 a4 ap.2):
    Calls prog 111 #[(.agg #[.bool ao.1,.slice a5 ao.2.length a3]),(.agg #[.bool ap.1,.slice a6 ap.2.length a4])] w0 (Sg 45 c1 col w0 r):=by
 refine We (m:=45) func111 rfl rfl rfl ?_;rw [Ziu.eq_1] at hm;have aa:=St.start col w0;refine go ?_;refine Xl (col:=(Zf col)) 1 rfl ?_;intro b3 b4 bf bg ad;refine Xl (col:=bf) 2 rfl ?_;intro b5 b6 bh a7 ac;refine Xx (col:=bh) #[.bool false,(nI)] 3 zeroValue40 ?_;intro b7 b8 ai aw ab;refine go ?_;refine Z7 ⟨_,_,rfl⟩ ?_;replace ad:=(ad.gr a7).gr aw;refine lW ((ad.atN).nth (q:=0) rfl)<|Z7 ⟨_,_,rfl⟩ ?_;replace ac:=ac.gr aw;refine lW ((ac.atN).nth (q:=0) rfl)<|go ?_;replace ag:=ag.k0;replace ah:=ah.k0;replace aa:=((aa.grow bg).grow a7).grow aw;refine Zm hm (fun hb hm=>?_) fun hb hm=>go ?_
 ·refine Z0<|Wc (col:=ai) [(0,1),(1,0),(2,1),(3,0),(4,1),(5,0),(6,3),(7,3),(8,2)] (by kernel_rfl) (by kernel_rfl)<|xF ⟨_,_,rfl⟩ ?_;refine xW (fun _ hC=>((ad.atN).nth (q:=0) rfl).gr (hC.bl ai)) ?_;refine xF ⟨_,_,rfl⟩ ?_;refine xW (fun _ hC=>((ad.atN).nth (q:=1) rfl).gr (hC.bl ai)) ?_;refine xF ⟨_,_,rfl⟩ ?_;refine xW (fun _ hC=>((ac.atN).nth (q:=1) rfl).gr (hC.bl ai)) ?_;refine xe rfl rfl ?_;intro b9 hC0;have hC:=hC0.bl ai;obtain ⟨ca,bi,hm⟩:=bZ hm;replace aa:=aa.grow hC;refine Zk (Ztb 4 bi (ag.ks aa) (ah.ks aa)) fun _ cb ⟨aj,cc,cd,e',ax,ay⟩=>⟨_,e',?_⟩;refine Zl<|Xt aj hC0 ax<|xe rfl rfl ?_;intro bj hC0;replace ab:=(ab.gr hC).gr ax;have hC:=hC0.bl aj;obtain ⟨ce,bk,hm⟩:=bZ hm;refine Zk (Zcm 5 bk ((ay.gr hC).toSlF (Zh.int .u32))) fun _ cf ⟨bm,cg,ch,e',af,ae⟩=>⟨_,e',?_⟩;replace ae:=ae.thaw (Z3 .u32) af ((Fz.refl (col:=aj)).froz 4);replace af:=af.thawR (col:=aj);generalize Xj bj.heap.size aj bm=aq at *;refine Zl<|Xt aq hC0 af<|xe rfl rfl ?_;intro ci hC0;replace aa:=((aa.grow ax).grow hC).grow af;replace ab:=(ab.gr hC).gr af;have hC:=hC0.bl aq;replace ab:=ab.gr hC;refine Xf ab ?_;intro cj a8 bn az;refine Zl<|xk aq<|Y0 ?_;replace ae:=(ae.gr hC).kp a8;replace aa:=(aa.grow hC).kp a8 bn;intro ck hC;replace hC:=hC.bl aq;refine Wh ?_;cases hm;replace aa:=aa.grow hC;exact ⟨rfl,_,ra (az.gr hC).atN,_,_,_,rfl,aa.fin (cm [(5,c1)]),aa.fo (ae.gr hC)⟩
 refine Z1 ad<|Z1 ac ?_;obtain ⟨ar,bo,hm⟩:=bZ hm;refine Zk (Zm6 6 bo (ag.ks aa) (ah.ks aa)) fun _ bp ⟨a0,a9,ba,e',au,bq⟩=>⟨_,e',?_⟩;refine lM (.tuple #[.slice a9 ar.1.length ba,.bool ar.2])<|lV (.slice a9 ar.1.length ba) (Xu rfl rfl)<|lV (.bool ar.2) (Xu rfl rfl)<|go ?_;replace ad:=ad.gr au;replace ac:=ac.gr au;replace ab:=ab.gr au;replace aa:=aa.grow au;refine Zm hm (fun hb hm=>go ?_) fun hb hm=>go ?_
 ·refine Z1 ad<|Wo rfl ?_;obtain ⟨cl,br,hm⟩:=bZ hm;refine Zk (Zcm 7 br (bq.toSlF (Zh.int .u32))) fun _ cn ⟨bs,co,cp,e',ak,al⟩=>⟨_,e',?_⟩;replace al:=al.thaw (Z3 .u32) ak ((Fz.refl (col:=a0)).froz 6);replace ak:=ak.thawR (col:=a0);generalize Xj bp.heap.size a0 bs=cq at *;replace ab:=ab.gr ak;refine Xf ab ?_;intro cr bb bt bu;refine go ?_;cases hm;replace aa:=(aa.grow ak).kp bb bt;exact ⟨rfl,_,ra bu.atN,_,_,_,rfl,aa.fin (cm [(7,c1)]),aa.fo (al.kp bb)⟩
 refine Z1 ac<|Z1 ad ?_;obtain ⟨av,bv,hm⟩:=bZ hm;refine Zk (Zm6 8 bv (ah.ks aa) (ag.ks aa)) fun _ bw ⟨a1,bc,bd,e',a2,bx⟩=>⟨_,e',?_⟩;refine lM (.tuple #[.slice bc av.1.length bd,.bool av.2])<|lV (.slice bc av.1.length bd) (Xu rfl rfl)<|lV (.bool av.2) (Xu rfl rfl)<|go ?_;refine Z7 ⟨_,_,rfl⟩ ?_;refine lW (((ac.gr a2).atN).nth (q:=0) rfl)<|Wo rfl ?_;obtain ⟨cs,bz,hm⟩:=bZ hm;refine Zk (Zcm 9 bz (bx.toSlF (Zh.int .u32))) fun _ ct ⟨b0,cu,cv,e',am,an⟩=>⟨_,e',?_⟩;replace an:=an.thaw (Z3 .u32) am ((Fz.refl (col:=a1)).froz 8);replace am:=am.thawR (col:=a1);generalize Xj bw.heap.size a1 b0=cw at *;refine Xf ((ab.gr a2).gr am) ?_;intro cx be b1 b2;refine go ?_;cases hm;replace aa:=((aa.grow a2).grow am).kp be b1;exact ⟨rfl,_,ra b2.atN,_,_,_,rfl,aa.fin (cm [(9,c1)]),aa.fo (an.kp be)⟩
def Ziw (N:Nat) (aa:R4):Option R4:=
  (S6 N aa.1 aa.2).bind fun ab=>some (ab.1,ab.2)
theorem Zth {N ag:Nat} {ah:Option Addr} {col:Zd} {w0:World} {ab r:R4} (c1:Nat) (hm:Ziw N ab=some r) (ad:Sl rU col w0 ah ag ab.2):
    Calls prog 145 #[(.agg #[.bool ab.1,.slice ah ab.2.length ag])] w0 (Sg 45 c1 col w0 r):=by
 refine We (m:=8) func145 rfl rfl rfl ?_;rw [Ziw.eq_1] at hm;have aa:=St.start col w0;refine go ?_;refine Xl (col:=(Zf col)) 1 rfl ?_;intro aq ar al am ac;refine Xx (col:=al) #[.bool false,(nI)] 2 zeroValue40 ?_;intro au av aw ai ae;refine go ?_;refine Z7 ⟨_,_,rfl⟩ ?_;replace ac:=ac.gr ai;refine lW ((ac.atN).nth (q:=0) rfl)<|Z1 ac ?_;obtain ⟨ax,an,hm⟩:=bZ hm;replace aa:=(aa.grow am).grow ai;refine Zk (Zcm 3 an (ad.k0.ks aa)) fun _ ay ⟨az,a0,a1,e',aj,af⟩=>⟨_,e',?_⟩;refine Xf (ae.gr aj) ?_;intro a2 ak ao ap;refine go ?_;cases hm;replace aa:=(aa.grow aj).kp ak ao;exact ⟨rfl,_,ra ap.atN,_,_,_,rfl,aa.fin (cm [(3,c1)]),aa.fo (af.kp ak)⟩
def Zfw (N:Nat) (aa:R4) (ab:List Int):Option R1:=
  (Zk6 N aa.2 ab).bind fun ac=>(Zik N aa.2 ac).bind fun ae=>(Zik N ab ac).bind fun af=>(Ziw N (aa.1,ae.1)).bind fun ad=>(V1 N af.1).bind fun ag=>some ((ad.1,ad.2),ag)
theorem Zp9 {N a2 a3:Nat} {a4 a1:Option Addr} {col:Zd} {w0:World} {ai:R4} {ap:R2} {r:R1} (c1 c2:Nat) (hm:Zfw N ai ap=some r) (an:Sl rU col w0 a4 a2 ai.2) (h1:Sl rU col w0 a1 a3 ap):
    Calls prog 110 #[(.agg #[.bool ai.1,.slice a4 ai.2.length a2]),.slice a1 ap.length a3] w0 (Qg 45 c1 c2 col w0 r):=by
 refine We (m:=39) func110 rfl rfl rfl ?_;rw [Zfw.eq_1] at hm;have aa:=St.start col w0;refine go ?_;refine Xl (col:=(Zf col)) 1 rfl ?_;intro b1 b2 bd be ab;refine Xx (col:=bd) #[.bool false,(nI),(nI)] 2 zeroValue42 ?_;intro b3 b4 b5 a5 aq;refine go ?_;refine Z7 ⟨_,_,rfl⟩ ?_;replace ab:=ab.gr a5;refine lW ((ab.atN).nth (q:=1) rfl)<|Wo rfl ?_;obtain ⟨b6,bf,hm⟩:=bZ hm;replace an:=an.k0;replace h1:=h1.k0;replace aa:=(aa.grow be).grow a5;refine Zk (Z3n 3 bf (an.ks aa) (h1.ks aa)) ?_;rintro _ bg ⟨ar,b7,b8,rfl,au,ao⟩;refine ⟨_,rfl,go ?_⟩;refine Z7 ⟨_,_,rfl⟩ ?_;replace ab:=ab.gr au;refine lW ((ab.atN).nth (q:=1) rfl)<|Wo rfl ?_;obtain ⟨ac,bh,hm⟩:=bZ hm;replace aa:=aa.grow au;refine Zk (Ztc 4 5 bh ((an.ks aa).froz 3) (ao.toSlF (Zh.int .u32))) fun _ bi ⟨bj,av,aw,a6,a7,e',ad,aj,b9⟩=>⟨_,e',?_⟩;replace aj:=aj.thaw (Z3 .u32) ad ((Fz.refl (col:=ar)).froz 3);replace ad:=ad.thawR (col:=ar);generalize Xj bg.heap.size ar bj=ax at *;refine lM (.tuple #[.slice av ac.1.length aw,.slice a6 ac.2.1.length a7,.int .i64 ac.2.2])<|lV (.slice av ac.1.length aw) (Xu rfl rfl)<|lV (.slice a6 ac.2.1.length a7) (Xu rfl rfl)<|lV (.int .i64 ac.2.2) (Xu rfl rfl)<|go ?_;obtain ⟨af,bk,hm⟩:=bZ hm;replace aa:=aa.grow ad;refine Zk (Ztc 6 7 bk ((h1.ks aa).froz 3) ((ao.gr ad).toSlF (Zh.int .u32))) fun _ bm ⟨bn,a8,a9,ba,bb,e',ae,ak,ca⟩=>⟨_,e',?_⟩;replace ak:=ak.thaw (Z3 .u32) ae ((Fz.refl (col:=ax)).froz 3);replace ae:=ae.thawR (col:=ax);generalize Xj bi.heap.size ax bn=ay at *;refine lM (.tuple #[.slice a8 af.1.length a9,.slice ba af.2.1.length bb,.int .i64 af.2.2])<|lV (.slice a8 af.1.length a9) (Xu rfl rfl)<|lV (.slice ba af.2.1.length bb) (Xu rfl rfl)<|lV (.int .i64 af.2.2) (Xu rfl rfl)<|go ?_;refine Z7 ⟨_,_,rfl⟩ ?_;replace ab:=(ab.gr ad).gr ae
 refine lW ((ab.atN).nth (q:=0) rfl)<|Wo rfl<|lV (.agg #[.bool ai.1,.slice av ac.1.length aw]) (Wl (l:=[_,_]) (qs:=[(0,1),(1,1)]) underlying40 zeroValue40 ⟨rfl,sizeOf4,rfl,sizeOf38,trivial⟩ rfl) ?_;obtain ⟨bc,bo,hm⟩:=bZ hm;refine Zk (Zth 8 bo ((aj.gr ae).toSlF (Zh.int .u32))) fun _ bp ⟨bq,br,bs,e',ag,al⟩=>⟨_,e',?_⟩;replace al:=al.thaw (Z3 .u32) ag ((Fz.refl (col:=ay)).froz 4);replace ag:=ag.thawR (col:=ay);generalize Xj bm.heap.size ay bq=az at *;refine Wo rfl ?_;obtain ⟨bt,bu,hm⟩:=bZ hm;refine Zk (Ut 9 bu ((ak.gr ag).toSlF (Zh.int .u32))) fun _ cb ⟨bv,bw,bx,e',ah,am⟩=>⟨_,e',?_⟩;replace am:=am.thaw (Z3 .u32) ah ((Fz.refl (col:=az)).froz 6);replace ah:=ah.thawR (col:=az);generalize Xj bp.heap.size az bv=cc at *;refine lV (.agg #[.bool bc.1,.slice br bc.2.length bs,.slice bw bt.length bx]) (Wl (l:=[_,_]) (qs:=[(0,2),(2,1)]) underlying42 zeroValue42 ⟨rfl,sizeOf40,rfl,sizeOf38,trivial⟩ rfl) ?_;refine Xf (((((aq.gr au).gr ad).gr ae).gr ag).gr ah) ?_;intro cd a0 bz b0;refine go ?_;cases hm;replace aa:=(((aa.grow ae).grow ag).grow ah).kp a0 bz;exact ⟨rfl,_,ra b0.atN,_,_,_,_,_,rfl,aa.fin (cm [(8,c1),(9,c2)]),aa.fo ((al.gr ah).kp a0),aa.fo (am.kp a0)⟩
def Zfs (N:Nat) (aa:R1) (ab:R1):Option R1:=
  (S7 N ((ab.1.1,ab.1.2),ab.2)).bind fun ai=>(Zaz ai).bind fun ad=>(Zb0 N (aa.1.1,aa.1.2) (ad.1,ad.2)).bind fun ae=>(S7 N ((aa.1.1,aa.1.2),aa.2)).bind fun aj=>(Zaz aj).bind fun af=>(Zb0 N (ab.1.1,ab.1.2) (af.1,af.2)).bind fun ag=>(Ziu N (ae.1,ae.2) (ag.1,ag.2)).bind fun ah=>(S7 N ((aa.1.1,aa.1.2),aa.2)).bind fun ak=>(S7 N ((ab.1.1,ab.1.2),ab.2)).bind fun al=>(Zdi N ak al).bind fun am=>(Zfw N (ah.1,ah.2) am).bind fun ac=>some ((ac.1.1,ac.1.2),ac.2)
theorem Ztj {N b3 cd b4 ce:Nat} {b5 cf b6 cg:Option Addr} {col:Zd} {w0:World} {ao ap r:R1} (c1 c2:Nat) (hm:Zfs N ao ap=some r) (bj:Sl rU col w0 b5 b3 ao.1.2) (b7:Sl rU col w0 cf cd ao.2) (bk:Sl rU col w0 b6 b4 ap.1.2) (b8:Sl rU col w0 cg ce ap.2):
    Calls prog 59 #[(.agg #[.bool ao.1.1,.slice b5 ao.1.2.length b3,.slice cf ao.2.length cd]),(.agg #[.bool ap.1.1,.slice b6 ap.1.2.length b4,.slice cg ap.2.length ce])] w0 (Qg 45 c1 c2 col w0 r):=by
 refine We (m:=28) func59 rfl rfl rfl ?_;rw [Zfs.eq_1] at hm;have aa:=St.start col w0;refine go ?_;refine Xl (col:=(Zf col)) 1 rfl ?_;intro cw ds cx cy ac;refine Xl (col:=cx) 2 rfl ?_;intro cz dt c0 cr ad;refine Xx (col:=c0) #[.bool false,(nI),(nI)] 3 zeroValue42 ?_;intro du b9 bm ch ab;refine go ?_;have ca:=Z5.clip (fun _=>false) bm b9;refine Zso (col:=bm) [(0,1),(1,0),(2,0),(3,3),(4,3),(5,3),(6,4),(7,2)] (by kernel_rfl) (by kernel_rfl) ⟨fun h=>absurd h (by decide),fun h=>absurd h (by decide),fun h=>absurd h (by decide),fun h=>absurd h (by decide),fun h=>absurd h (by decide),fun h=>absurd h (by decide),fun _=>⟨_,_,_,rfl,Zhf zeroValue40⟩,fun h=>absurd h (by decide),trivial⟩<|Zpp (v:=(.pointer ((some (⟨cw,0,none⟩:Addr)).map (·.add 0)))) rfl rfl (fun _=>Zee (sz:=2) (off:=0) underlying42 rfl sizeOf40 (by decide) rfl rfl ⟨_,_,rfl⟩) ?_;replace ac:=((ac.gr cr).gr ch).kpp ca;refine Zej (v:=(.agg #[.bool ao.1.1,.slice b5 ao.1.2.length b3])) rfl rfl (fun _ hC=>Ym isAgg40 sizeOf40 rfl rfl (((ac.atN).part 0 2 _ rfl).gr (hC.bl (Zq b9 bm)))) ?_;replace ad:=(ad.gr ch).kpp ca;refine Zej (v:=(.agg #[.bool ap.1.1,.slice b6 ap.1.2.length b4,.slice cg ap.2.length ce])) rfl rfl (fun _ hC=>Ym isAgg42 sizeOf42 rfl rfl (ad.atN.gr (hC.bl (Zq b9 bm)))) ?_;refine Tz rfl rfl ?_;intro dv hC0;have hC:=hC0.bl (Zq b9 bm);obtain ⟨dw,c3,hm⟩:=bZ hm;replace bk:=bk.k0;replace b8:=b8.k0;replace aa:=((((aa.grow cy).grow cr).grow ch).kpp ca).grow hC;refine Zk (Zcn 4 c3 (bk.ks aa) (b8.ks aa)) fun _ bb ⟨bn,dx,dy,e',ax,bo⟩=>⟨_,e',?_⟩;refine Zl ?_;refine ⟨fun w'=>Zn (Zq bb bn) bb (Zq bb bn) w',fun g=>(Zq bb bn) g=497,Zn.refl _ _,U7,fun _=>⟨fun _ h=>Sp hC0 ax h,fun b hb=>ax.below.block b hb,fun g x1 x2=>Qr ax g x1 (by first | exact x2 | (simp only [X5,x2];rfl) | (simp only [X5,X7,x2];rfl))⟩,?_⟩;have bp:=Z5.clip (fun _=>false) bn bb;refine Tz rfl rfl ?_;intro dz hC0;replace ab:=(((ab.kpp ca).gr hC).gr ax).kpp bp;replace ac:=((ac.gr hC).gr ax).kpp bp;replace ad:=((ad.gr hC).gr ax).kpp bp;have hC:=hC0.bl (Zq bb bn);replace bo:=(bo.kpp bp).gr hC;replace ac:=ac.gr hC;replace ac:=ac.froz 4
 replace ad:=ad.gr hC;replace ad:=ad.froz 4;replace ab:=ab.gr hC;replace ab:=ab.froz 4;replace aa:=((aa.grow ax).kpp bp).grow hC;replace aa:=aa.froz 4 (by decide) (by decide);obtain ⟨d0,c4,hm⟩:=bZ hm;refine Zk (Zna c4 ((bo).toSlF (Zh.int .u32))) fun _ bc ⟨bq,d1,d2,e',ay,ci⟩=>⟨_,e',?_⟩;refine Zl ?_;refine ⟨fun w'=>Zn (Zq bc bq) bc (Zq bc bq) w',fun g=>(Zq bc bq) g=497,Zn.refl _ _,U7,fun _=>⟨fun _ h=>Sp hC0 ay h,fun b hb=>ay.below.block b hb,fun g x1 x2=>Qr ay g x1 (by first | exact x2 | (simp only [X5,x2];rfl) | (simp only [X5,X7,x2];rfl))⟩,?_⟩;have br:=Z5.clip (fun _=>false) bq bc;refine Tz rfl rfl ?_;intro d3 hC0;have hC:=hC0.bl (Zq bc bq);obtain ⟨d4,c5,hm⟩:=bZ hm;replace bj:=bj.k0;replace aa:=((aa.grow ay).kpp br).grow hC;refine Zk (Zka 5 c5 (bj.ks aa) ((ci.kpp br).gr hC)) fun _ ag ⟨ah,d5,d6,e',az,ai⟩=>⟨_,e',?_⟩;refine Zl ?_;refine ⟨fun w'=>Zn (Zq ag ah) ag (Zq ag ah) w',fun g=>(Zq ag ah) g=497,Zn.refl _ _,U7,fun _=>⟨fun _ h=>Sp hC0 az h,fun b hb=>az.below.block b hb,fun g x1 x2=>Qr az g x1 (by first | exact x2 | (simp only [X5,x2];rfl) | (simp only [X5,X7,x2];rfl))⟩,?_⟩;have bs:=Z5.clip (fun _=>false) ah ag;refine xaF rfl rfl (Zhf zeroValue40) ?_;intro am c6;refine Tz rfl rfl ?_;intro c7 ⟨hC0,hZ0⟩;replace ac:=((((ac.gr ay).kpp br).gr hC).gr az).kpp bs;replace ad:=((((ad.gr ay).kpp br).gr hC).gr az).kpp bs;replace ab:=((((ab.gr ay).kpp br).gr hC).gr az).kpp bs;have hC:=hC0.bl (Zq ag ah);replace b7:=b7.k0;obtain ⟨bt,cj⟩:=Zpz (col:=(Zq ag ah)) 6 hZ0 c6;replace cj:Zj 40 6 (Yi am 6 (Zq ag ah)) c7 am #[.bool false,(nI)]:=cj;refine Xf cj ?_;intro an bu c8 al;refine Zl ?_;refine ⟨fun w'=>Zn (Zq an (Yi am 6 (Zq ag ah))) an (Zq an (Yi am 6 (Zq ag ah))) w',fun g=>(Zq an (Yi am 6 (Zq ag ah))) g=497,Zn.refl _ _,U7,fun h=>absurd h (by decide),?_⟩;have bd:=Z5.clip (fun _=>false) (Yi am 6 (Zq ag ah)) an;refine Zsp ?_;replace aa:=(((((aa.grow az).kpp bs).grow hC).kpp bt).kp bu c8).kpp bd;replace ai:=((((ai.kpp bs).gr hC).kpp bt).kp bu).kpp bd
 replace ac:=(((ac.gr hC).kpp bt).kp bu).kpp bd;replace ad:=(((ad.gr hC).kpp bt).kp bu).kpp bd;replace ab:=(((ab.gr hC).kpp bt).kp bu).kpp bd;intro a0 hC;replace hC:Zn (Zq an (Yi am 6 (Zq ag ah))) an (Zq an (Yi am 6 (Zq ag ah))) a0:=.of_below hC.below;refine Z0 ?_;have be:=Z5.clip (fun _=>false) (Zq an (Yi am 6 (Zq ag ah))) a0;refine Zso (col:=(Zq an (Yi am 6 (Zq ag ah)))) [(0,1),(1,0),(2,0),(3,3),(4,3),(5,3),(6,4),(7,2)] (by kernel_rfl) (by kernel_rfl) ⟨fun h=>absurd h (by decide),fun h=>absurd h (by decide),fun h=>absurd h (by decide),fun h=>absurd h (by decide),fun h=>absurd h (by decide),fun h=>absurd h (by decide),fun _=>⟨_,_,_,rfl,Zhf zeroValue40⟩,fun h=>absurd h (by decide),trivial⟩<|Zpp (v:=(.pointer ((some (⟨cz,0,none⟩:Addr)).map (·.add 0)))) rfl rfl (fun _=>Zee (sz:=2) (off:=0) underlying42 rfl sizeOf40 (by decide) rfl rfl ⟨_,_,rfl⟩) ?_;replace ad:=(ad.gr hC).kpp be;refine Zej (v:=(.agg #[.bool ap.1.1,.slice b6 ap.1.2.length b4])) rfl rfl (fun _ hC=>Ym isAgg40 sizeOf40 rfl rfl (((ad.atN).part 0 2 _ rfl).gr (hC.bl (Zq a0 (Zq an (Yi am 6 (Zq ag ah))))))) ?_;replace ac:=(ac.gr hC).kpp be;refine Zej (v:=(.agg #[.bool ao.1.1,.slice b5 ao.1.2.length b3,.slice cf ao.2.length cd])) rfl rfl (fun _ hC=>Ym isAgg42 sizeOf42 rfl rfl (ac.atN.gr (hC.bl (Zq a0 (Zq an (Yi am 6 (Zq ag ah))))))) ?_;refine Tz rfl rfl ?_;intro c9 hC0;replace al:=((al.kpp bd).gr hC).kpp be;replace ai:=(ai.gr hC).kpp be;replace ab:=(ab.gr hC).kpp be;replace aa:=(aa.grow hC).kpp be;have hC:Zn (Zq a0 (Zq an (Yi am 6 (Zq ag ah)))) a0 (Zq a0 (Zq an (Yi am 6 (Zq ag ah)))) c9:=.of_below hC0.below;obtain ⟨d7,da,hm⟩:=bZ hm;replace aa:=aa.grow hC;refine Zk (Zcn 7 da (bj.ks aa) (b7.ks aa)) fun _ bf ⟨bv,d8,d9,e',ar,bw⟩=>⟨_,e',?_⟩;refine Zl ?_;refine ⟨fun w'=>Zn (Zq bf bv) bf (Zq bf bv) w',fun g=>(Zq bf bv) g=497,Zn.refl _ _,U7,fun _=>⟨fun _ h=>Sp hC0 ar h,fun b hb=>ar.below.block b hb,fun g x1 x2=>Qr ar g x1 (by first | exact x2 | (simp only [X5,x2];rfl) | (simp only [X5,X7,x2];rfl))⟩,?_⟩;have a1:=Z5.clip (fun _=>false) bv bf;refine Tz rfl rfl ?_;intro ea hC0;replace ai:=((ai.gr hC).gr ar).kpp a1;replace ac:=((ac.gr hC).gr ar).kpp a1
 replace ad:=((ad.gr hC).gr ar).kpp a1;replace ab:=((ab.gr hC).gr ar).kpp a1;replace al:=((al.gr hC).gr ar).kpp a1;have hC:=hC0.bl (Zq bf bv);replace ai:=ai.gr hC;replace ai:=ai.froz 7;replace bw:=(bw.kpp a1).gr hC;replace ac:=ac.gr hC;replace ac:=ac.froz 7;replace ad:=ad.gr hC;replace ad:=ad.froz 7;replace ab:=ab.gr hC;replace ab:=ab.froz 7;replace al:=al.gr hC;replace al:=al.froz 7;replace aa:=((aa.grow ar).kpp a1).grow hC;replace aa:=aa.froz 7 (by decide) (by decide);obtain ⟨eb,db,hm⟩:=bZ hm;refine Zk (Zna db ((bw).toSlF (Zh.int .u32))) fun _ bg ⟨bx,ec,ed,e',au,ck⟩=>⟨_,e',?_⟩;refine Zl ?_;refine ⟨fun w'=>Zn (Zq bg bx) bg (Zq bg bx) w',fun g=>(Zq bg bx) g=497,Zn.refl _ _,U7,fun _=>⟨fun _ h=>Sp hC0 au h,fun b hb=>au.below.block b hb,fun g x1 x2=>Qr au g x1 (by first | exact x2 | (simp only [X5,x2];rfl) | (simp only [X5,X7,x2];rfl))⟩,?_⟩;have a2:=Z5.clip (fun _=>false) bx bg;refine Tz rfl rfl ?_;intro ee hC0;have hC:=hC0.bl (Zq bg bx);obtain ⟨ef,dc,hm⟩:=bZ hm;replace aa:=((aa.grow au).kpp a2).grow hC;refine Zk (Zka 8 dc (bk.ks aa) ((ck.kpp a2).gr hC)) fun _ ae ⟨af,eg,eh,e',av,a3⟩=>⟨_,e',?_⟩;refine Zl ?_;refine ⟨fun w'=>Zn (Zq ae af) ae (Zq ae af) w',fun g=>(Zq ae af) g=497,Zn.refl _ _,U7,fun _=>⟨fun _ h=>Sp hC0 av h,fun b hb=>av.below.block b hb,fun g x1 x2=>Qr av g x1 (by first | exact x2 | (simp only [X5,x2];rfl) | (simp only [X5,X7,x2];rfl))⟩,?_⟩;have a4:=Z5.clip (fun _=>false) af ae;refine xaF rfl rfl (Zhf zeroValue40) ?_;intro aj dd;refine Tz rfl rfl ?_;intro de ⟨hC0,hZ0⟩;replace ai:=((((ai.gr au).kpp a2).gr hC).gr av).kpp a4;replace ac:=((((ac.gr au).kpp a2).gr hC).gr av).kpp a4;replace ad:=((((ad.gr au).kpp a2).gr hC).gr av).kpp a4;replace ab:=((((ab.gr au).kpp a2).gr hC).gr av).kpp a4;replace al:=((((al.gr au).kpp a2).gr hC).gr av).kpp a4;have hC:=hC0.bl (Zq ae af);obtain ⟨a5,cl⟩:=Zpz (col:=(Zq ae af)) 9 hZ0 dd;replace cl:Zj 40 9 (Yi aj 9 (Zq ae af)) de aj #[.bool false,(nI)]:=cl;refine Xf cl ?_;intro ak a6 df cn;refine Zl ?_
 refine ⟨fun w'=>Zn (Zq ak (Yi aj 9 (Zq ae af))) ak (Zq ak (Yi aj 9 (Zq ae af))) w',fun g=>(Zq ak (Yi aj 9 (Zq ae af))) g=497,Zn.refl _ _,U7,fun h=>absurd h (by decide),?_⟩;have aw:=Z5.clip (fun _=>false) (Yi aj 9 (Zq ae af)) ak;refine Zsp ?_;replace aa:=(((((aa.grow av).kpp a4).grow hC).kpp a5).kp a6 df).kpp aw;replace a3:=((((a3.kpp a4).gr hC).kpp a5).kp a6).kpp aw;replace ai:=(((ai.gr hC).kpp a5).kp a6).kpp aw;replace ac:=(((ac.gr hC).kpp a5).kp a6).kpp aw;replace ad:=(((ad.gr hC).kpp a5).kp a6).kpp aw;replace ab:=(((ab.gr hC).kpp a5).kp a6).kpp aw;replace al:=(((al.gr hC).kpp a5).kp a6).kpp aw;intro cs hC;replace hC:Zn (Zq ak (Yi aj 9 (Zq ae af))) ak (Zq ak (Yi aj 9 (Zq ae af))) cs:=.of_below hC.below;refine Z0<|Wc (col:=(Zq ak (Yi aj 9 (Zq ae af)))) [(0,0),(1,0),(3,0),(5,0),(2,3),(4,3),(6,3),(7,3),(8,3),(9,2)] (by kernel_rfl) (by kernel_rfl) ?_;replace al:=al.gr hC;refine xv rfl rfl (fun _ hC=>Z9 isAgg40 sizeOf40 (al.gr (hC.bl (Zq ak (Yi aj 9 (Zq ae af)))))) ?_;replace cn:=(cn.kpp aw).gr hC;refine xv rfl rfl (fun _ hC=>Z9 isAgg40 sizeOf40 (cn.gr (hC.bl (Zq ak (Yi aj 9 (Zq ae af)))))) ?_;replace ac:=ac.gr hC;refine xv rfl rfl (fun _ hC=>Z9 isAgg42 sizeOf42 (ac.gr (hC.bl (Zq ak (Yi aj 9 (Zq ae af)))))) ?_;replace ad:=ad.gr hC;refine xv rfl rfl (fun _ hC=>Z9 isAgg42 sizeOf42 (ad.gr (hC.bl (Zq ak (Yi aj 9 (Zq ae af)))))) ?_;refine xe rfl rfl ?_;intro ct hC0;replace ai:=ai.gr hC;replace a3:=a3.gr hC;replace ab:=ab.gr hC;replace aa:=aa.grow hC;have hC:Zn (Zq ak (Yi aj 9 (Zq ae af))) cs (Zq ak (Yi aj 9 (Zq ae af))) ct:=.of_below hC0.below;obtain ⟨ei,dg,hm⟩:=bZ hm;refine Zk (Ztg 10 dg (((ai.gr hC).toSlF (Zh.int .u32)).froz 8) (((a3.gr hC).froz 5).toSlF (Zh.int .u32))) fun _ ej ⟨dh,ek,el,e',bh,aq⟩=>⟨_,e',?_⟩;replace aq:=aq.thaw (Z3 .u32) bh (((Fz.refl (col:=(Zq ak (Yi aj 9 (Zq ae af))))).froz 5).froz 8) (by decide);replace bh:=bh.thawR (col:=(Zq ak (Yi aj 9 (Zq ae af))));generalize Xj ct.heap.size (Zq ak (Yi aj 9 (Zq ae af))) dh=cu at *;refine Zl<|Xt cu hC0 bh<|xe rfl rfl ?_;intro em hC0
 replace ab:=(ab.gr hC).gr bh;replace aa:=(aa.grow hC).grow bh;have hC:=hC0.bl cu;obtain ⟨en,di,hm⟩:=bZ hm;replace aa:=aa.grow hC;refine Zk (Zcn 11 di (bj.ks aa) (b7.ks aa)) fun _ eo ⟨cv,ep,eq,e',cb,bz⟩=>⟨_,e',?_⟩;refine Zl<|Xt cv hC0 cb<|xe rfl rfl ?_;intro er hC0;replace aq:=(aq.gr hC).gr cb;replace ab:=(ab.gr hC).gr cb;have hC:=hC0.bl cv;obtain ⟨es,dj,hm⟩:=bZ hm;replace aa:=(aa.grow cb).grow hC;refine Zk (Zcn 12 dj (bk.ks aa) (b8.ks aa)) fun _ et ⟨b0,eu,ew,e',b1,co⟩=>⟨_,e',?_⟩;refine Zl<|Xt b0 hC0 b1<|xe rfl rfl ?_;intro dk hC0;replace aq:=(aq.gr hC).gr b1;replace bz:=(bz.gr hC).gr b1;replace ab:=(ab.gr hC).gr b1;have hC:=hC0.bl b0;obtain ⟨ey,dl,hm⟩:=bZ hm;refine Zk (Zp7 13 dl (((bz.gr hC).toSlF (Zh.int .u32)).froz 12) (((co.gr hC).froz 11).toSlF (Zh.int .u32))) fun _ ez ⟨dm,e0,e1,e',a7,b2⟩=>⟨_,e',?_⟩;replace b2:=b2.thaw (Z3 .u32) a7 (((Fz.refl (col:=b0)).froz 11).froz 12);replace a7:=a7.thawR (col:=b0);generalize Xj dk.heap.size b0 dm=bi at *;refine Zl<|Xt bi hC0 a7<|xe rfl rfl ?_;intro dn hC0;replace aa:=((aa.grow b1).grow hC).grow a7;replace aq:=(aq.gr hC).gr a7;replace ab:=(ab.gr hC).gr a7;have hC:=hC0.bl bi;obtain ⟨e2,dp,hm⟩:=bZ hm;refine Zk (Zp9 14 15 dp (((aq.gr hC).toSlF (Zh.int .u32)).froz 13) (((b2.gr hC).froz 10).toSlF (Zh.int .u32))) fun _ e3 ⟨dq,e4,e5,e6,e7,e',a8,a9,ba⟩=>⟨_,e',?_⟩;replace a9:=a9.thaw (Z3 .u32) a8 (((Fz.refl (col:=bi)).froz 10).froz 13);replace ba:=ba.thaw (Z3 .u32) a8 (((Fz.refl (col:=bi)).froz 10).froz 13);replace a8:=a8.thawR (col:=bi);generalize Xj dn.heap.size bi dq=cc at *;refine Zl<|Xt cc hC0 a8<|xe rfl rfl ?_;intro e8 hC0;replace ab:=(ab.gr hC).gr a8;replace aa:=(aa.grow hC).grow a8;have hC:=hC0.bl cc;refine Xf (ab.gr hC) ?_
 intro e9 cp dr cq;refine Zl<|xk cc<|Y0 ?_;replace a9:=(a9.gr hC).kp cp;replace ba:=(ba.gr hC).kp cp;replace aa:=(aa.grow hC).kp cp dr;intro fa hC;replace hC:=hC.bl cc;refine Wh ?_;cases hm;replace aa:=aa.grow hC;exact ⟨rfl,_,ra (cq.gr hC).atN,_,_,_,_,_,rfl,aa.fin (cm [(14,c1),(15,c2)]),aa.fo (a9.gr hC),aa.fo (ba.gr hC)⟩
def Zft (N:Nat) (aa:R1) (ab:R1):Option R1:=
  (Zb0 N (aa.1.1,aa.1.2) (ab.1.1,ab.1.2)).bind fun ad=>(S7 N ((aa.1.1,aa.1.2),aa.2)).bind fun ae=>(S7 N ((ab.1.1,ab.1.2),ab.2)).bind fun af=>(Zdi N ae af).bind fun ag=>(Zfw N (ad.1,ad.2) ag).bind fun ac=>some ((ac.1.1,ac.1.2),ac.2)
theorem Z3s {N ax a8 ay a9:Nat} {az ba a0 bb:Option Addr} {col:Zd} {w0:World} {ad ae r:R1} (c1 c2:Nat) (hm:Zft N ad ae=some r) (ap:Sl rU col w0 az ax ad.1.2) (a1:Sl rU col w0 ba a8 ad.2) (aq:Sl rU col w0 a0 ay ae.1.2) (a2:Sl rU col w0 bb a9 ae.2):
    Calls prog 88 #[(.agg #[.bool ad.1.1,.slice az ad.1.2.length ax,.slice ba ad.2.length a8]),(.agg #[.bool ae.1.1,.slice a0 ae.1.2.length ay,.slice bb ae.2.length a9])] w0 (Qg 45 c1 c2 col w0 r):=by
 refine We (m:=16) func88 rfl rfl rfl ?_;rw [Zft.eq_1] at hm;have aa:=St.start col w0;refine go ?_;refine Xl (col:=(Zf col)) 1 rfl ?_;intro bt bu bf bg ar;refine Xl (col:=bf) 2 rfl ?_;intro bv bw bh bc au;refine Xx (col:=bh) #[.bool false,(nI),(nI)] 3 zeroValue42 ?_;intro bx bz aj a3 ab;refine go ?_;refine Wc (col:=aj) [(0,1),(1,0),(2,1),(3,0),(5,0),(7,0),(4,3),(6,3),(8,3),(9,3),(10,3),(11,2)] (by kernel_rfl) (by kernel_rfl)<|xF ⟨_,_,rfl⟩ ?_;replace ar:=(ar.gr bc).gr a3;refine xv (v:=(.agg #[.bool ad.1.1,.slice az ad.1.2.length ax])) rfl rfl (fun _ hC=>Ym isAgg40 sizeOf40 rfl rfl (((ar.atN).part 0 2 _ rfl).gr (hC.bl aj))) ?_;refine xF ⟨_,_,rfl⟩ ?_;replace au:=au.gr a3;refine xv (v:=(.agg #[.bool ae.1.1,.slice a0 ae.1.2.length ay])) rfl rfl (fun _ hC=>Ym isAgg40 sizeOf40 rfl rfl (((au.atN).part 0 2 _ rfl).gr (hC.bl aj))) ?_;refine xv rfl rfl (fun _ hC=>Z9 isAgg42 sizeOf42 (ar.gr (hC.bl aj))) ?_;refine xv rfl rfl (fun _ hC=>Z9 isAgg42 sizeOf42 (au.gr (hC.bl aj))) ?_;refine xe rfl rfl ?_;intro b0 hC0;have hC:=hC0.bl aj;obtain ⟨b1,bi,hm⟩:=bZ hm;replace ap:=ap.k0;replace aq:=aq.k0;replace aa:=(((aa.grow bg).grow bc).grow a3).grow hC;refine Zk (Zka 4 bi (ap.ks aa) (aq.ks aa)) fun _ b2 ⟨bd,b3,b4,e',a4,ac⟩=>⟨_,e',?_⟩;refine Zl<|Xt bd hC0 a4<|xe rfl rfl ?_;intro b5 hC0;replace ab:=(ab.gr hC).gr a4;have hC:=hC0.bl bd;obtain ⟨b6,bj,hm⟩:=bZ hm;replace aa:=(aa.grow a4).grow hC;refine Zk (Zcn 5 bj (ap.ks aa) (a1.k0.ks aa)) fun _ b7 ⟨be,b8,b9,e',av,al⟩=>⟨_,e',?_⟩;refine Zl<|Xt be hC0 av<|xe rfl rfl ?_;intro ca hC0;replace ac:=(ac.gr hC).gr av;replace ab:=(ab.gr hC).gr av;have hC:=hC0.bl be;obtain ⟨cb,bk,hm⟩:=bZ hm;replace aa:=(aa.grow av).grow hC;refine Zk (Zcn 6 bk (aq.ks aa) (a2.k0.ks aa)) fun _ cc ⟨am,cd,ce,e',an,a5⟩=>⟨_,e',?_⟩;refine Zl<|Xt am hC0 an<|xe rfl rfl ?_;intro bm hC0;replace ac:=(ac.gr hC).gr an;replace al:=(al.gr hC).gr an
 replace ab:=(ab.gr hC).gr an;have hC:=hC0.bl am;obtain ⟨cf,bn,hm⟩:=bZ hm;refine Zk (Zp7 7 bn (((al.gr hC).toSlF (Zh.int .u32)).froz 6) (((a5.gr hC).froz 5).toSlF (Zh.int .u32))) fun _ cg ⟨bo,ch,ci,e',af,ao⟩=>⟨_,e',?_⟩;replace ao:=ao.thaw (Z3 .u32) af (((Fz.refl (col:=am)).froz 5).froz 6);replace af:=af.thawR (col:=am);generalize Xj bm.heap.size am bo=ak at *;refine Zl<|Xt ak hC0 af<|xe rfl rfl ?_;intro bp hC0;replace aa:=((aa.grow an).grow hC).grow af;replace ac:=(ac.gr hC).gr af;replace ab:=(ab.gr hC).gr af;have hC:=hC0.bl ak;obtain ⟨cj,bq,hm⟩:=bZ hm;refine Zk (Zp9 8 9 bq (((ac.gr hC).toSlF (Zh.int .u32)).froz 7) (((ao.gr hC).froz 4).toSlF (Zh.int .u32))) fun _ ck ⟨br,cl,cn,co,cp,e',ag,ah,ai⟩=>⟨_,e',?_⟩;replace ah:=ah.thaw (Z3 .u32) ag (((Fz.refl (col:=ak)).froz 4).froz 7);replace ai:=ai.thaw (Z3 .u32) ag (((Fz.refl (col:=ak)).froz 4).froz 7);replace ag:=ag.thawR (col:=ak);generalize Xj bp.heap.size ak br=aw at *;refine Zl<|Xt aw hC0 ag<|xe rfl rfl ?_;intro cq hC0;replace ab:=(ab.gr hC).gr ag;replace aa:=(aa.grow hC).grow ag;have hC:=hC0.bl aw;refine Xf (ab.gr hC) ?_;intro cr a6 bs a7;refine Zl<|xk aw<|Y0 ?_;replace ah:=(ah.gr hC).kp a6;replace ai:=(ai.gr hC).kp a6;replace aa:=(aa.grow hC).kp a6 bs;intro cs hC;replace hC:=hC.bl aw;refine Wh ?_;cases hm;replace aa:=aa.grow hC;exact ⟨rfl,_,ra (a7.gr hC).atN,_,_,_,_,_,rfl,aa.fin (cm [(8,c1),(9,c2)]),aa.fo (ah.gr hC),aa.fo (ai.gr hC)⟩
def Zla (N:Nat) (aa:R4):Option R4:=
  (S6 N (!aa.1) aa.2).bind fun ab=>some (ab.1,ab.2)
theorem Z3p {N ag:Nat} {ah:Option Addr} {col:Zd} {w0:World} {ab r:R4} (c1:Nat) (hm:Zla N ab=some r) (ad:Sl rU col w0 ah ag ab.2):
    Calls prog 210 #[(.agg #[.bool ab.1,.slice ah ab.2.length ag])] w0 (Sg 45 c1 col w0 r):=by
 refine We (m:=9) func210 rfl rfl rfl ?_;rw [Zla.eq_1] at hm;have aa:=St.start col w0;refine go ?_;refine Xl (col:=(Zf col)) 1 rfl ?_;intro aq ar al am ac;refine Xx (col:=al) #[.bool false,(nI)] 2 zeroValue40 ?_;intro au av aw ai ae;refine go ?_;refine Z7 ⟨_,_,rfl⟩ ?_;replace ac:=ac.gr ai;refine lW ((ac.atN).nth (q:=0) rfl)<|go ?_;refine Z1 ac ?_;obtain ⟨ax,an,hm⟩:=bZ hm;replace aa:=(aa.grow am).grow ai;refine Zk (Zcm 3 an (ad.k0.ks aa)) fun _ ay ⟨az,a0,a1,e',aj,af⟩=>⟨_,e',?_⟩;refine Xf (ae.gr aj) ?_;intro a2 ak ao ap;refine go ?_;cases hm;replace aa:=(aa.grow aj).kp ak ao;exact ⟨rfl,_,ra ap.atN,_,_,_,rfl,aa.fin (cm [(3,c1)]),aa.fo (af.kp ak)⟩
def Zlc (N:Nat) (aa:R4) (ab:R4):Option R4:=
  (Zla N (ab.1,ab.2)).bind fun ac=>(Ziu N (aa.1,aa.2) (ac.1,ac.2)).bind fun ad=>some (ad.1,ad.2)
theorem Z3r {N ar au:Nat} {av aw:Option Addr} {col:Zd} {w0:World} {af ag r:R4} (c1:Nat) (hm:Zlc N af ag=some r) (aj:Sl rU col w0 av ar af.2) (ak:Sl rU col w0 aw au ag.2):
    Calls prog 193 #[(.agg #[.bool af.1,.slice av af.2.length ar]),(.agg #[.bool ag.1,.slice aw ag.2.length au])] w0 (Sg 45 c1 col w0 r):=by
 refine We (m:=9) func193 rfl rfl rfl ?_;rw [Zlc.eq_1] at hm;have aa:=St.start col w0;refine go ?_;refine Xl (col:=(Zf col)) 1 rfl ?_;intro a7 a8 az a0 al;refine Xl (col:=az) 2 rfl ?_;intro a9 ba a1 ax am;refine Xx (col:=a1) #[.bool false,(nI)] 3 zeroValue40 ?_;intro bb bc ah an ab;refine go ?_;refine Wc (col:=ah) [(0,0),(1,0),(2,3),(3,3),(4,2)] (by kernel_rfl) (by kernel_rfl) ?_;refine xv rfl rfl (fun _ hC=>Z9 isAgg40 sizeOf40 (((al.gr ax).gr an).gr (hC.bl ah))) ?_;refine xv rfl rfl (fun _ hC=>Z9 isAgg40 sizeOf40 ((am.gr an).gr (hC.bl ah))) ?_;refine xe rfl rfl ?_;intro bd hC0;have hC:=hC0.bl ah;obtain ⟨be,a2,hm⟩:=bZ hm;replace aa:=(((aa.grow a0).grow ax).grow an).grow hC;refine Zk (Z3p 4 a2 (ak.k0.ks aa)) fun _ bf ⟨ae,bg,bh,e',ao,ap⟩=>⟨_,e',?_⟩;refine Zl<|Xt ae hC0 ao<|xe rfl rfl ?_;intro a3 hC0;replace ab:=(ab.gr hC).gr ao;have hC:=hC0.bl ae;obtain ⟨bi,a4,hm⟩:=bZ hm;replace aa:=(aa.grow ao).grow hC;refine Zk (Ztg 5 a4 ((aj.k0.ks aa).froz 4) ((ap.gr hC).toSlF (Zh.int .u32))) fun _ bj ⟨a5,bk,bm,e',ad,ac⟩=>⟨_,e',?_⟩;replace ac:=ac.thaw (Z3 .u32) ad ((Fz.refl (col:=ae)).froz 4);replace ad:=ad.thawR (col:=ae);generalize Xj a3.heap.size ae a5=ai at *;refine Zl<|Xt ai hC0 ad<|xe rfl rfl ?_;intro bn hC0;replace ab:=(ab.gr hC).gr ad;have hC:=hC0.bl ai;refine Xf (ab.gr hC) ?_;intro bo ay a6 aq;refine Zl<|xk ai<|Y0 ?_;replace aa:=((aa.grow ad).grow hC).kp ay a6;replace ac:=(ac.gr hC).kp ay;intro bp hC;replace hC:=hC.bl ai;refine Wh ?_;cases hm;replace aa:=aa.grow hC;exact ⟨rfl,_,ra (aq.gr hC).atN,_,_,_,rfl,aa.fin (cm [(5,c1)]),aa.fo (ac.gr hC)⟩
def Zfr (N:Nat) (aa:R4):Option Int:=
  (Ziw N (aa.1,aa.2)).bind fun ab=>if (decide ((ab.2.length:Int)=0))=true then (some 0) else (if ab.1=true then (some (-1)) else (some 1))
theorem Zp8 {N ad:Nat} {ae:Option Addr} {col:Zd} {w0:World} {ab:R4} {r:Int} (hm:Zfr N ab=some r) (ac:Sl rU col w0 ae ad ab.2):
    Calls prog 106 #[(.agg #[.bool ab.1,.slice ae ab.2.length ad])] w0 (W5 w0 r):=by
 refine Z6 2 (m:=12) func106 rfl rfl rfl rfl rfl ?_;rw [Zfr.eq_1] at hm;have aa:=St.start col w0;refine go ?_;refine Xl (col:=(Zf col)) 1 rfl ?_;intro ap aq ar ag ah;refine go ?_;refine lV _ (Z9 isAgg40 sizeOf40 ah) ?_;obtain ⟨au,ai,hm⟩:=bZ hm;replace aa:=aa.grow ag;refine Zk (Zth 2 ai (ac.k0.ks aa)) fun _ av ⟨aj,aw,ax,e',ak,ay⟩=>⟨_,e',?_⟩;refine Xx (col:=aj) #[.bool false,(nI)] 3 zeroValue40 ?_;intro az a0 a1 al am;refine Xf am ?_;intro a2 an ao af;refine go ?_;refine Z1 af ?_;refine go ?_;replace aa:=((aa.grow ak).grow al).kp an ao;refine Zm hm (fun hb hm=>go ?_) fun hb hm=>go ?_
 ·cases hm;exact ⟨rfl,rfl,aa.below⟩
 refine Z1 af<|Zl ?_;refine Zm hm (fun hb hm=>go ?_) fun hb hm=>go ?_
 ·cases hm;exact ⟨rfl,rfl,aa.below⟩
 cases hm;exact ⟨rfl,rfl,aa.below⟩
def Zk9 (N:Nat) (aa:R4) (ab:R4):Option Int:=
  (Zlc N (aa.1,aa.2) (ab.1,ab.2)).bind fun ac=>(Zfr N (ac.1,ac.2)).bind fun ad=>some ad
theorem Z3o {N ah ai:Nat} {aj ak:Option Addr} {col:Zd} {w0:World} {ab ac:R4} {r:Int} (hm:Zk9 N ab ac=some r) (ad:Sl rU col w0 aj ah ab.2) (ae:Sl rU col w0 ak ai ac.2):
    Calls prog 165 #[(.agg #[.bool ab.1,.slice aj ab.2.length ah]),(.agg #[.bool ac.1,.slice ak ac.2.length ai])] w0 (W5 w0 r):=by
 refine Z6 4 (m:=9) func165 rfl rfl rfl rfl rfl ?_;rw [Zk9.eq_1] at hm;have aa:=St.start col w0;refine go ?_;refine Xl (col:=(Zf col)) 1 rfl ?_;intro ay az an ao af;refine Xl (col:=an) 2 rfl ?_;intro a0 a1 a2 al ap;refine go ?_;refine lV _ (Z9 isAgg40 sizeOf40 (af.gr al))<|lV _ (Z9 isAgg40 sizeOf40 ap) ?_;obtain ⟨a3,aq,hm⟩:=bZ hm;replace aa:=(aa.grow ao).grow al;refine Zk (Z3r 3 aq (ad.k0.ks aa) (ae.k0.ks aa)) fun _ ar ⟨am,a4,a5,e',au,av⟩=>⟨_,e',?_⟩;obtain ⟨a6,aw,hm⟩:=bZ hm;refine Zk (Zp8 aw (av.toSlF (Zh.int .u32))) fun _ ax ⟨e',ag⟩=>⟨_,e',?_⟩;replace ag:Zn am ar am ax:=.of_below ag;refine go ?_;cases hm;exact ⟨rfl,rfl,((aa.grow au).grow ag).below⟩
def Ziy (N:Nat) (aa:R1) (ab:R1):Option Int:=
  (S7 N ((ab.1.1,ab.1.2),ab.2)).bind fun ag=>(Zaz ag).bind fun ac=>(Zb0 N (aa.1.1,aa.1.2) (ac.1,ac.2)).bind fun ad=>(S7 N ((aa.1.1,aa.1.2),aa.2)).bind fun ah=>(Zaz ah).bind fun ae=>(Zb0 N (ab.1.1,ab.1.2) (ae.1,ae.2)).bind fun af=>(Zk9 N (ad.1,ad.2) (af.1,af.2)).bind fun ai=>some ai
theorem Ztk {N am a0 an a1:Nat} {ao a2 ap a3:Option Addr} {col:Zd} {w0:World} {ac ad:R1} {r:Int} (hm:Ziy N ac ad=some r) (ai:Sl rU col w0 ao am ac.1.2) (aq:Sl rU col w0 a2 a0 ac.2) (aj:Sl rU col w0 ap an ad.1.2) (ar:Sl rU col w0 a3 a1 ad.2):
    Calls prog 126 #[(.agg #[.bool ac.1.1,.slice ao ac.1.2.length am,.slice a2 ac.2.length a0]),(.agg #[.bool ad.1.1,.slice ap ad.1.2.length an,.slice a3 ad.2.length a1])] w0 (W5 w0 r):=by
 refine Z6 4 (m:=18) func126 rfl rfl rfl rfl rfl ?_;rw [Ziy.eq_1] at hm;have aa:=St.start col w0;refine go ?_;refine Xl (col:=(Zf col)) 1 rfl ?_;intro bq br be bf ak;refine Xl (col:=be) 2 rfl ?_;intro bs bt ae a4 a5;refine go ?_;refine Wc (col:=ae) [(0,1),(1,0),(2,0),(6,1),(7,0),(8,0),(3,3),(4,3),(5,3),(9,3),(10,3),(11,3),(12,3),(13,1)] (by kernel_rfl) (by kernel_rfl)<|xF ⟨_,_,rfl⟩ ?_;replace ak:=ak.gr a4;refine xv (v:=(.agg #[.bool ac.1.1,.slice ao ac.1.2.length am])) rfl rfl (fun _ hC=>Ym isAgg40 sizeOf40 rfl rfl (((ak.atN).part 0 2 _ rfl).gr (hC.bl ae))) ?_;refine xv rfl rfl (fun _ hC=>Z9 isAgg42 sizeOf42 (a5.gr (hC.bl ae))) ?_;refine xF ⟨_,_,rfl⟩ ?_;refine xv (v:=(.agg #[.bool ad.1.1,.slice ap ad.1.2.length an])) rfl rfl (fun _ hC=>Ym isAgg40 sizeOf40 rfl rfl (((a5.atN).part 0 2 _ rfl).gr (hC.bl ae))) ?_;refine xv rfl rfl (fun _ hC=>Z9 isAgg42 sizeOf42 (ak.gr (hC.bl ae))) ?_;refine xe rfl rfl ?_;intro bu hC0;have hC:=hC0.bl ae;obtain ⟨bv,bg,hm⟩:=bZ hm;replace aj:=aj.k0;replace aa:=((aa.grow bf).grow a4).grow hC;refine Zk (Zcn 3 bg (aj.ks aa) (ar.k0.ks aa)) fun _ bw ⟨a6,bx,bz,e',a7,ag⟩=>⟨_,e',?_⟩;refine Zl<|Xt a6 hC0 a7<|xe rfl rfl ?_;intro b0 hC0;have hC:=hC0.bl a6;replace ag:=ag.gr hC;replace aa:=(aa.grow a7).grow hC;replace aa:=aa.froz 3 (by decide) (by decide);obtain ⟨b1,bh,hm⟩:=bZ hm;refine Zk (Zna bh ((ag).toSlF (Zh.int .u32))) fun _ b2 ⟨a8,b3,b4,e',a9,au⟩=>⟨_,e',?_⟩;refine Zl<|Xt a8 hC0 a9<|xe rfl rfl ?_;intro b5 hC0;have hC:=hC0.bl a8;obtain ⟨b6,bi,hm⟩:=bZ hm;replace ai:=ai.k0;replace aa:=(aa.grow a9).grow hC;refine Zk (Zka 4 bi (ai.ks aa) (au.gr hC)) fun _ b7 ⟨ba,b8,b9,e',bb,ab⟩=>⟨_,e',?_⟩;refine Zl<|Xt ba hC0 bb<|xe rfl rfl ?_;intro ca hC0;have hC:=hC0.bl ba;obtain ⟨cb,bj,hm⟩:=bZ hm;replace aa:=(aa.grow bb).grow hC;refine Zk (Zcn 5 bj (ai.ks aa) (aq.k0.ks aa)) fun _ cc ⟨bc,cd,ce,e',av,ah⟩=>⟨_,e',?_⟩
 refine Zl<|Xt bc hC0 av<|xe rfl rfl ?_;intro cf hC0;replace ab:=(ab.gr hC).gr av;have hC:=hC0.bl bc;replace ab:=ab.gr hC;replace ab:=ab.froz 5;replace ah:=ah.gr hC;replace aa:=(aa.grow av).grow hC;replace aa:=aa.froz 5 (by decide) (by decide);obtain ⟨cg,bk,hm⟩:=bZ hm;refine Zk (Zna bk ((ah).toSlF (Zh.int .u32))) fun _ ch ⟨bd,ci,cj,e',aw,ax⟩=>⟨_,e',?_⟩;refine Zl<|Xt bd hC0 aw<|xe rfl rfl ?_;intro ck hC0;have hC:=hC0.bl bd;obtain ⟨cl,bm,hm⟩:=bZ hm;replace aa:=(aa.grow aw).grow hC;refine Zk (Zka 6 bm (aj.ks aa) (ax.gr hC)) fun _ cn ⟨af,co,cp,e',ay,az⟩=>⟨_,e',?_⟩;refine Zl<|Xt af hC0 ay<|xe rfl rfl ?_;intro bn hC0;replace ab:=((ab.gr aw).gr hC).gr ay;have hC:=hC0.bl af;obtain ⟨cq,bo,hm⟩:=bZ hm;refine Zk (Z3o bo (((ab.gr hC).toSlF (Zh.int .u32)).froz 6) (((az.gr hC).froz 4).toSlF (Zh.int .u32))) fun _ bp ⟨e',al⟩=>⟨_,e',?_⟩;replace al:Zn af bn af bp:=.of_below al;refine Zl<|Xt af hC0 al<|xu rfl rfl (fun _=>Zyy rfl) ?_;refine Y0 ?_;replace aa:=((aa.grow ay).grow hC).grow al;intro cr hC;refine Wh ?_;cases hm;exact ⟨rfl,rfl,(aa.grow (hC.bl af)).below⟩
def Zix (N:Nat) (aa:Int):Option R4:=
  if (decide (0≤aa))=true then ((Zip N (u64.wrap aa)).bind fun ad=>(S6 N false ad).bind fun ab=>some (ab.1,ab.2)) else ((Zip N (u64.wrap (i64.wrap (-(i64.wrap (aa+1)))))).bind fun ae=>(Zii N ae [1]).bind fun af=>(S6 N true af).bind fun ac=>some (ac.1,ac.2))
theorem Zti {N:Nat} {col:Zd} {w0:World} {an:Int} {r:R4} (c1:Nat) (hm:Zix N an=some r):
    Calls prog 144 #[.int .i64 an] w0 (Sg 45 c1 col w0 r):=by
 refine We (m:=17) func144 rfl rfl rfl ?_;rw [Zix.eq_1] at hm;have aa:=St.start col w0;refine go ?_;refine Xx (col:=(Zf col)) #[.bool false,(nI)] 1 zeroValue40 ?_;intro be bf ao av ab;refine go ?_;replace aa:=aa.grow av;refine Zm hm (fun hb hm=>go ?_) fun hb hm=>go ?_
 ·obtain ⟨bg,aw,hm⟩:=bZ hm;refine Zk (Ztd (col:=ao) 2 aw) fun _ ax ⟨ah,bh,bi,e',ap,ay⟩=>⟨_,e',?_⟩;obtain ⟨bj,az,hm⟩:=bZ hm;refine Zk (Zcm 3 az (ay.toSlF (Zh.int .u32))) fun _ bk ⟨a0,bm,bn,e',ac,ad⟩=>⟨_,e',?_⟩;replace ad:=ad.thaw (Z3 .u32) ac ((Fz.refl (col:=ah)).froz 2);replace ac:=ac.thawR (col:=ah);generalize Xj ax.heap.size ah a0=bo at *;replace ab:=(ab.gr ap).gr ac;refine Xf ab ?_;intro bp aq a1 a2;refine go ?_;cases hm;replace aa:=((aa.grow ap).grow ac).kp aq a1;exact ⟨rfl,_,ra a2.atN,_,_,_,rfl,aa.fin (cm [(3,c1)]),aa.fo (ad.kp aq)⟩
 obtain ⟨bq,a3,hm⟩:=bZ hm;refine Zk (Ztd (col:=ao) 4 a3) fun _ br ⟨a4,bs,bt,e',ar,ai⟩=>⟨_,e',?_⟩;refine Wj (col:=a4) [1] 5 ?_;intro bu a5 aj ak a6;obtain ⟨bv,a7,hm⟩:=bZ hm;refine Zk (Ztb 6 a7 (((ai.gr ak).toSlF (Zh.int .u32)).froz 5) ((a6.froz 4).toSlF (Zh.int .u32))) fun _ a8 ⟨a9,bw,bx,e',ae,al⟩=>⟨_,e',?_⟩;replace al:=al.thaw (Z3 .u32) ae (((Fz.refl (col:=aj)).froz 4).froz 5);replace ae:=ae.thawR (col:=aj);generalize Xj a5.heap.size aj a9=am at *;obtain ⟨bz,ba,hm⟩:=bZ hm;refine Zk (Zcm 7 ba (al.toSlF (Zh.int .u32))) fun _ b0 ⟨bb,b1,b2,e',af,ag⟩=>⟨_,e',?_⟩;replace ag:=ag.thaw (Z3 .u32) af ((Fz.refl (col:=am)).froz 6);replace af:=af.thawR (col:=am);generalize Xj a8.heap.size am bb=b3 at *;refine Xf ((((ab.gr ar).gr ak).gr ae).gr af) ?_;intro b4 au bc bd;refine go ?_;cases hm;replace aa:=((((aa.grow ar).grow ak).grow ae).grow af).kp au bc;exact ⟨rfl,_,ra bd.atN,_,_,_,rfl,aa.fin (cm [(7,c1)]),aa.fo (ag.kp au)⟩
def Zn4 (N:Nat) (ac:R4) (aa:R4):Option (R1×Int):=
  (Zfr N (aa.1,aa.2)).bind fun ad=>if (decide (ad=0))=true then (some (((false,([]:List Int)),([]:List Int)),11)) else ((Zfw N (!decide (ac.1=aa.1),ac.2) aa.2).bind fun ab=>some (((ab.1.1,ab.1.2),ab.2),0))
theorem Z3t {N ai ap:Nat} {aj aq:Option Addr} {col:Zd} {w0:World} {ac af:R4} {r:(R1×Int)} (c1 c2:Nat) (hm:Zn4 N ac af=some r) (ak:Sl rU col w0 aj ai ac.2) (ag:Sl rU col w0 aq ap af.2):
    Calls prog 143 #[(.agg #[.bool ac.1,.slice aj ac.2.length ai]),(.agg #[.bool af.1,.slice aq af.2.length ap])] w0 (Zl9 45 c1 c2 col w0 r):=by
 refine We (m:=21) func143 rfl rfl rfl ?_;rw [Zn4.eq_1] at hm;have aa:=St.start col w0;refine go ?_;refine Xl (col:=(Zf col)) 1 rfl ?_;intro a8 a9 aw ax ah;refine Xl (col:=aw) 2 rfl ?_;intro ba bb ay ar ab;refine Xx (col:=ay) #[.bool false,(nI),(nI)] 3 zeroValue42 ?_;intro bc az au al ad;refine go ?_;replace ab:=ab.gr al;refine lV _ (Z9 isAgg40 sizeOf40 ab) ?_;obtain ⟨bd,a0,hm⟩:=bZ hm;replace ag:=ag.k0;replace aa:=((aa.grow ax).grow ar).grow al;refine Zk (Zp8 a0 (ag.ks aa)) fun _ a1 ⟨e',ae⟩=>⟨_,e',?_⟩;replace ae:Zn au az au a1:=.of_below ae;refine go ?_;replace ah:=((ah.gr ar).gr al).gr ae;replace ab:=ab.gr ae;replace ad:=ad.gr ae;replace aa:=aa.grow ae;refine Zm hm (fun hb hm=>go ?_) fun hb hm=>go ?_
 ·refine lV (.agg #[.bool false,(nI),(nI)]) (Wl (l:=[_,_]) (qs:=[(0,2),(2,1)]) underlying42 zeroValue42 ⟨rfl,sizeOf40,rfl,sizeOf38,trivial⟩ rfl)<|Xf ad ?_;intro be a2 a3 a4;refine go ?_;cases hm;replace aa:=aa.kp a2 a3;exact ⟨rfl,_,Qj a4.atN,_,none,0,none,0,rfl,aa.fin (cm []),Zc.nil,Zc.nil⟩
 refine Z1 ah<|Z1 ab ?_;refine go ?_;refine Z1 ah<|lV (.agg #[.bool (!decide (ac.1=af.1)),.slice aj ac.2.length ai]) (Wl (l:=[_,_]) (qs:=[(0,1),(1,1)]) underlying40 zeroValue40 ⟨rfl,sizeOf4,rfl,sizeOf38,trivial⟩ rfl)<|Z1 ab ?_;obtain ⟨bf,a5,hm⟩:=bZ hm;refine Zk (Zp9 4 5 a5 (ak.k0.ks aa) (ag.ks aa)) fun _ bg ⟨bh,bi,bj,bk,bm,e',av,am,an⟩=>⟨_,e',?_⟩;refine Xf (ad.gr av) ?_;intro bn ao a6 a7;refine go ?_;cases hm;replace aa:=(aa.grow av).kp ao a6;exact ⟨rfl,_,Qj a7.atN,_,_,_,_,_,rfl,aa.fin (cm [(4,c1),(5,c2)]),aa.fo (am.kp ao),aa.fo (an.kp ao)⟩
def Zn5 (N:Nat) (ad ae:Int):Option (R1×Int):=
  (Zix N ad).bind fun ab=>(Zix N ae).bind fun ac=>(Zn4 N (ab.1,ab.2) (ac.1,ac.2)).bind fun aa=>some (((aa.1.1.1,aa.1.1.2),aa.1.2),aa.2)
theorem Z3u {N:Nat} {col:Zd} {w0:World} {ak al:Int} {r:(R1×Int)} (c1 c2:Nat) (hm:Zn5 N ak al=some r):
    Calls prog 102 #[.int .i64 ak,.int .i64 al] w0 (Zl9 45 c1 c2 col w0 r):=by
 refine We (m:=13) func102 rfl rfl rfl ?_;rw [Zn5.eq_1] at hm;have ab:=St.start col w0;refine go ?_;refine Xx (col:=(Zf col)) #[.bool false,(nI),(nI)] 1 zeroValue42 ?_;intro a4 a5 an ao ag;refine go ?_;obtain ⟨a6,ap,hm⟩:=bZ hm;refine Zk (Zti (col:=an) 2 ap) fun _ a7 ⟨aq,a8,a9,e',am,ah⟩=>⟨_,e',?_⟩;refine Xr rfl ?_;obtain ⟨ba,ar,hm⟩:=bZ hm;refine Zk (Zti (col:=aq) 3 ar) fun _ au ⟨ae,bb,bc,e',ai,av⟩=>⟨_,e',?_⟩;obtain ⟨af,aw,hm⟩:=bZ hm;refine Zk (Z3t 4 5 aw (((ah.gr ai).toSlF (Zh.int .u32)).froz 3) ((av.froz 2).toSlF (Zh.int .u32))) fun _ bd ⟨ax,ay,az,a0,a1,e',aa,ac,ad⟩=>⟨_,e',?_⟩;replace ac:=ac.thaw (Z3 .u32) aa (((Fz.refl (col:=ae)).froz 2).froz 3);replace ad:=ad.thaw (Z3 .u32) aa (((Fz.refl (col:=ae)).froz 2).froz 3);replace aa:=aa.thawR (col:=ae);generalize Xj au.heap.size ae ax=be at *;refine lV (.agg #[.bool af.1.1.1,.slice ay af.1.1.2.length az,.slice a0 af.1.2.length a1]) (Xu rfl rfl)<|lV (.int .i64 af.2) (Xu rfl rfl) ?_;refine Xf (((ag.gr am).gr ai).gr aa) ?_;intro bf aj a2 a3;refine go ?_;cases hm;replace ab:=((((ab.grow ao).grow am).grow ai).grow aa).kp aj a2;exact ⟨rfl,_,Qj a3.atN,_,_,_,_,_,rfl,ab.fin (cm [(4,c1),(5,c2)]),ab.fo (ac.kp aj),ab.fo (ad.kp aj)⟩
def Zay (N:Nat) (ab ac:Int):Option R1:=
  (Zn5 N ab ac).bind fun aa=>some ((aa.1.1.1,aa.1.1.2),aa.1.2)
theorem Zm9 {N:Nat} {col:Zd} {w0:World} {ai aj:Int} {r:R1} (c1 c2:Nat) (hm:Zay N ai aj=some r):
    Calls prog 52 #[.int .i64 ai,.int .i64 aj] w0 (Qg 45 c1 c2 col w0 r):=by
 refine We (m:=14) func52 rfl rfl rfl ?_;rw [Zay.eq_1] at hm;have ab:=St.start col w0;refine go ?_;refine Xx (col:=(Zf col)) #[.bool false,(nI),(nI)] 1 zeroValue42 ?_;intro a0 a1 ap aq ae;refine go ?_;obtain ⟨aa,ar,hm⟩:=bZ hm;refine Zk (Z3u (col:=ap) 2 3 ar) fun _ a2 ⟨au,ak,al,am,an,e',ao,af,ag⟩=>⟨_,e',?_⟩;refine lM (.tuple #[(.agg #[.bool aa.1.1.1,.slice ak aa.1.1.2.length al,.slice am aa.1.2.length an]),.int .i64 aa.2])<|lV (.agg #[.bool aa.1.1.1,.slice ak aa.1.1.2.length al,.slice am aa.1.2.length an]) (Xu rfl rfl)<|lV (.int .i64 aa.2) (Xu rfl rfl)<|Xx (col:=au) #[.bool false,(nI),(nI)] 4 zeroValue42 ?_;intro a3 a4 a5 ac av;refine Xf av ?_;intro a6 ad aw ax;refine go ?_;refine lV _ (Z9 isAgg42 sizeOf42 ax) ?_;refine Xf (((ae.gr ao).gr ac).kp ad) ?_;intro a7 ah ay az;refine go ?_;cases hm;replace ab:=((((ab.grow aq).grow ao).grow ac).kp ad aw).kp ah ay;exact ⟨rfl,_,ra az.atN,_,_,_,_,_,rfl,ab.fin (cm [(2,c1),(3,c2)]),ab.fo (((af.gr ac).kp ad).kp ah),ab.fo (((ag.gr ac).kp ad).kp ah)⟩
def Zfv (N:Nat) (aa:R6):Nat→Bool→R2→R2→Int→Option R1
  | 0,_,_,_,_=>none
  | ah+1,ae,af,ag,ab=>if (decide (ab<(aa.length:Int)))=true then ((Zi aa ab).bind fun ac=>(Zfs N ((ae,af),ag) ((ac.1.1,ac.1.2),ac.2)).bind fun ad=>(Zfv N aa ah) ad.1.1 ad.1.2 ad.2 (i64.wrap (ab+1))) else (some ((ae,af),ag))
def Zlg (N:Nat) (ab:R6):Option R1:=
  (Zay N 0 1).bind fun aa=>Zfv N ab N aa.1.1 aa.1.2 aa.2 0
theorem Z3y {N a9:Nat} {a0:Option Addr} {col:Zd} {w0:World} {am:R6} {r:R1} (c1 c2:Nat) (hm:Zlg N am=some r) (h0:Sl rQ col w0 a0 a9 am):
    Calls prog 55 #[.slice a0 am.length a9] w0 (Qg 45 c1 c2 col w0 r):=by
 refine We (m:=19) func55 rfl rfl rfl ?_;rw [Zlg.eq_1] at hm;have aa:=St.start col w0;refine go ?_;refine Xx (col:=(Zf col)) #[.bool false,(nI),(nI)] 1 zeroValue42 ?_;intro bb b1 bc bd ab;refine go ?_;obtain ⟨b2,be,hm⟩:=bZ hm;refine Zk (Zm9 (col:=bc) 2 3 be) fun _ b3 ⟨bf,b4,b5,b6,b7,e',ba,aw,ax⟩=>⟨_,e',?_⟩;refine Xx (col:=bf) #[.bool false,(nI),(nI)] 4 zeroValue42 ?_;intro bg b8 b9 an bh;refine Xf bh ?_;intro ca ao bi af;refine go ?_;replace aa:=(((aa.grow bd).grow ba).grow an).kp ao bi;replace ab:=((ab.gr ba).gr an).kp ao;refine Zs [0,2,3,1000000] (fun n f ai=>∃ ac ay az a1 ap a2 a3 aq a4 aj,aj=n∧Zfv N am aj ay ap aq a4=some r∧St w0 (Zf col) ac ai∧Zj 42 1 ac ai bb #[.bool false,(nI),(nI)]∧Zc rU 45 2 ac ai az a1 ap∧Zc rU 45 3 ac ai a2 a3 aq∧Zj 42 4 ac ai bg #[.bool ay,.slice az ap.length a1,.slice a2 aq.length a3]∧[4].map f=[.int .i64 a4]) N ⟨_,_,_,_,_,_,_,_,0,_,rfl,hm,aa,ab,(aw.gr an).kp ao,(ax.gr an).kp ao,af,rfl⟩ ?_;clear hm;intro n f ai hI;obtain ⟨ac,ay,az,a1,ap,a2,a3,aq,a4,aj,hn,hm,aa,ab,ak,al,af,hs⟩:=hI;subst hn;refine .lL [4] hs ?_;replace h0:=h0.k0
 cases aj with
 | zero=>rw [Zfv.eq_1] at hm;cases hm
 | succ aj=>
  rw [Zfv.eq_2] at hm;refine go ?_;refine Zm hm (fun hb hm=>go ?_) fun hb hm=>go ?_
  ·refine Wc (col:=ac) [(0,0),(1,1),(2,1),(3,1),(4,0),(5,3),(6,2)] (by kernel_rfl) (by kernel_rfl)<|xv rfl rfl (fun _ hC=>Z9 isAgg42 sizeOf42 (af.gr (hC.bl ac))) ?_;refine xu rfl rfl (fun _=>Va rfl) ?_;refine xu rfl rfl (fun _=>Yz rfl) ?_;obtain ⟨a5,ar,hm⟩:=bZ hm;refine xu rfl rfl (fun _=>Yv underlying29 sizeOf42 rfl rfl (Xe ar).1 (Xe ar).2.1 ((h0.ks aa).addr ar)) ?_;obtain ⟨_,bj,bk⟩:=(h0.ks aa).atN ar;obtain ⟨_,_,rfl,bm,bn⟩:=Yb bj;obtain ⟨_,_,rfl,bo,bp⟩:=Yb bm;obtain ⟨rfl,_⟩:=bo;obtain ⟨⟨bq,br,rfl,a6⟩,_⟩:=bp;obtain ⟨⟨bs,bt,rfl,a7⟩,_⟩:=bn;refine xv (v:=(.agg #[.bool a5.1.1,.slice bq a5.1.2.length br,.slice bs a5.2.length bt])) rfl rfl (fun _ hC=>Ym isAgg42 sizeOf42 rfl rfl (bk.gr (hC.bl ac))) ?_;refine xe rfl rfl ?_;intro bu hC0;have hC:=hC0.bl ac;obtain ⟨cb,bv,hm⟩:=bZ hm;replace ak:=ak.gr hC;replace al:=al.gr hC;refine Zk (Ztj 5 6 bv ((ak.toSlF (Zh.int .u32)).froz 3) ((al.froz 2).toSlF (Zh.int .u32)) (((a6.gr hC).froz 2).froz 3) (((a7.gr hC).froz 2).froz 3)) fun _ cc ⟨bw,cd,ce,cf,cg,e',ag,ad,ae⟩=>⟨_,e',?_⟩;replace ad:=ad.thaw (Z3 .u32) ag (((Fz.refl (col:=ac)).froz 2).froz 3);replace ae:=ae.thaw (Z3 .u32) ag (((Fz.refl (col:=ac)).froz 2).froz 3);replace ag:=ag.thawR (col:=ac);generalize Xj bu.heap.size ac bw=au at *;refine Zl<|Xt au hC0 ag<|xe rfl rfl ?_;intro ch hC0;replace ab:=(ab.gr hC).gr ag;replace af:=(af.gr hC).gr ag;replace aa:=(aa.grow hC).grow ag;have hC:=hC0.bl au;replace af:=af.gr hC;refine Xf af ?_;intro ci av bx ah;refine Zl<|xk au<|Y0 ?_;replace ad:=(ad.gr hC).kp av;replace ae:=(ae.gr hC).kp av;replace ab:=(ab.gr hC).kp av;replace aa:=(aa.grow hC).kp av bx;intro cj hC;replace hC:=hC.bl au;refine go ?_;replace ad:=ad.gr hC;replace ad:=ad.recolSelf 2 (by decide);replace ae:=ae.gr hC;replace ae:=ae.recol 5 2;replace ab:=ab.gr hC;replace ab:=ab.recol 5 2;replace ah:=ah.gr hC;replace ah:=ah.recol 5 2;replace aa:=aa.grow hC;replace aa:=aa.recol 5 2 (by decide) (by decide);replace ae:=ae.recolSelf 3 (by decide);replace ab:=ab.recol 6 3;replace ah:=ah.recol 6 3
   replace aa:=aa.recol 6 3 (by decide) (by decide);exact ⟨aj,by omega,rfl,⟨_,_,_,_,_,_,_,_,_,_,rfl,hm,aa,ab,ad.recol 6 3,ae,ah,rfl⟩⟩
  refine lV _ (Z9 isAgg42 sizeOf42 af)<|Xf ab ?_;intro ck a8 bz b0;refine go ?_;cases hm;replace aa:=aa.kp a8 bz;exact ⟨rfl,_,ra b0.atN,_,_,_,_,_,rfl,aa.fin (cm [(2,c1),(3,c2)]),aa.fo (ak.kp a8),aa.fo (al.kp a8)⟩
def Ziz (N:Nat) (aa:R1):Option Int:=
  (Zfr N (aa.1.1,aa.1.2)).bind fun ab=>some ab
theorem Z3x {N ac ag:Nat} {ad ah:Option Addr} {col:Zd} {w0:World} {aa:R1} {r:Int} (hm:Ziz N aa=some r) (ae:Sl rU col w0 ad ac aa.1.2) (ao:Sl rU col w0 ah ag aa.2):
    Calls prog 56 #[(.agg #[.bool aa.1.1,.slice ad aa.1.2.length ac,.slice ah aa.2.length ag])] w0 (W5 w0 r):=by
 refine Z6 2 (m:=6) func56 rfl rfl rfl rfl rfl ?_;rw [Ziz.eq_1] at hm;have ab:=St.start col w0;refine go ?_;refine Xl (col:=(Zf col)) 1 rfl ?_;intro ap aj ai ak al;refine go ?_;refine Z7 ⟨_,_,rfl⟩ ?_;refine lV (.agg #[.bool aa.1.1,.slice ad aa.1.2.length ac]) (Ym isAgg40 sizeOf40 rfl rfl ((al.atN).part 0 2 _ rfl)) ?_;obtain ⟨aq,am,hm⟩:=bZ hm;replace ab:=ab.grow ak;refine Zk (Zp8 am (ae.k0.ks ab)) fun _ an ⟨e',af⟩=>⟨_,e',?_⟩;replace af:Zn ai aj ai an:=.of_below af;refine go ?_;cases hm;exact ⟨rfl,rfl,(ab.grow af).below⟩
theorem Zeg {N k:Nat} {neg:Bool} {m:List Int} (hm:Zo m) (hk:m.length≤k) (hr:Xg N k):S6 N neg m=some (Xv (Zz (neg,m))):=by
 obtain ⟨a,b⟩:=hr
 rw [S6,U1 hm (by omega) (by omega),oB,Zl2]
 have e:decide (0<((Ze (Zb m)).length:Int))=decide (Zb m≠0):=by
  by_cases h:Zb m=0
  ·rw [h,Ve];decide
  ·have:=T9 h
   rw [decide_eq_true (by omega),decide_eq_true h]
 cases neg
 ·rw [if_neg (by decide),Ziv,Bool.false_and]
 ·rw [if_pos rfl,Ziv,e,Bool.true_and]
theorem Z0j {N k:Nat} {a:ZV} (hm:Zo a.2) (hk:a.2.length≤k) (hr:Xg N k):Ziw N a=some (Xv (Zz a)):=by
 rw [Ziw,Zeg hm hk hr];rfl
theorem Zr9 {N k:Nat} {a:ZV} (hm:Zo a.2) (hk:a.2.length≤k) (hr:Xg N k):Zfr N a=some (Zz a).sign:=by
 rw [Zfr,Z0j hm hk hr,oB,Xv]
 generalize Zz a=z
 by_cases h:z=0
 ·subst h;rw [Int.natAbs_zero,Ve,if_pos (by decide)];rfl
 ·have:=T9 (n:=z.natAbs) (by omega)
  rw [if_neg (dF (by simp only;omega))]
  by_cases h2:z<0
  ·rw [if_pos (dT h2),Int.sign_eq_neg_one_of_neg h2]
  ·rw [if_neg (fun b=>h2 (of_decide_eq_true b)),iD (by omega)]
theorem Zze {N k l:Nat} {a b:ZV} (ha:Zo a.2) (hb:Zo b.2) (hk:a.2.length≤k) (hl:b.2.length≤l) (hr:Xg N (k+l+1)):Ziu N a b=some (Xv (Zz a+Zz b)):=by
 have d:=hr
 obtain ⟨g,i⟩:=d
 have j:=Yh ha
 have m:=Yh hb
 have c:(Ze (Zb a.2+Zb b.2)).length≤k+l+1:=Znn (by omega) (by omega)
 have e:(Ze (Zb a.2 - Zb b.2)).length≤k+l+1:=by have:=Vi (gT (Zb a.2) (Zb b.2));omega
 have f:(Ze (Zb b.2 - Zb a.2)).length≤k+l+1:=by have:=Vi (gT (Zb b.2) (Zb a.2));omega
 rw [Ziu]
 by_cases h:a.1=b.1
 ·rw [if_pos (dT h),Zzg ha hb (by omega) (by omega),oB,Zeg (Xc _) c hr,oB,Zj0.1 h]
 ·rw [if_neg (dF h),Zmh ha hb (by omega) (by omega) (by omega) (by omega),oB]
  by_cases hlt:Zb a.2<Zb b.2
  ·rw [if_pos hlt,if_neg (by decide),Zmh hb ha (by omega) (by omega) (by omega) (by omega),oB,if_neg (by omega),Zeg (Xc _) f hr,oB,(Zj0.2 h).2 hlt]
  ·rw [if_neg hlt,if_pos rfl,Zeg (Xc _) e hr,oB,(Zj0.2 h).1 (by omega)]
theorem Z9l {N k:Nat} {a:ZV} (hm:Zo a.2) (hk:a.2.length≤k) (hr:Xg N k):Zla N a=some (Xv (-Zz a)):=by
 rw [Zla,Zeg hm hk hr,oB,Xal]
theorem Zwd {a:ZV} (hm:Zo a.2):(Xv (Zz a)).2.length≤a.2.length:=by
 rw [Zeq,Zcj];exact Yh hm
theorem Z7f {a:ZV} (hm:Zo a.2):(Xv (-Zz a)).2.length≤a.2.length:=by
 rw [Zeq,Int.natAbs_neg,Zcj];exact Yh hm
theorem Z9p {N k l:Nat} {a b:ZV} (ha:Zo a.2) (hb:Zo b.2) (hk:a.2.length≤k) (hl:b.2.length≤l) (hr:Xg N (k+l+1)):Zlc N a b=some (Xv (Zz a - Zz b)):=by
 rw [Zlc,Z9l (a:=(b.1,b.2)) hb hl (hr.mono (by omega)),oB,Zze (a:=(a.1,a.2)) (b:=Xv _) ha (Ue _) hk (aY (Z7f hb) hl) hr,oB,Ub,Int.sub_eq_add_neg]
theorem Zmg {N k l:Nat} {a b:ZV} (ha:Zo a.2) (hb:Zo b.2) (hk:a.2.length≤k) (hl:b.2.length≤l) (hr:Xg N (k+l)):Zb0 N a b=some (Xv (Zz a * Zz b)):=by
 have c:=hr
 obtain ⟨d,e⟩:=c
 have f:=Yh ha
 have g:=Yh hb
 have:=Tp (Zb a.2) (Zb b.2)
 rw [Zb0,Z0g ha hb (by omega) (by omega),oB,Zeg (k:=k+l) (Xc _) (by omega) hr,oB,Zsq]
theorem Xak (a b:Int):(a - b).sign=Zaj a b:=by
 rw [← Zpq];unfold Zaj
 (repeat' split) <;> omega
theorem Z89 {N k l:Nat} {a b:ZV} (ha:Zo a.2) (hb:Zo b.2) (hk:a.2.length≤k) (hl:b.2.length≤l) (hr:Xg N (k+l+1)):Zk9 N a b=some (Zaj (Zz a) (Zz b)):=by
 have sl:(Xv (Zz a - Zz b)).2.length≤k+l+1:=Z94 (k:=k+l) (aY (Zwd ha) (by omega)) (aY (Zwd hb) (by omega))
 rw [Zk9,Z9p (a:=(a.1,a.2)) (b:=(b.1,b.2)) ha hb hk hl hr,oB,Zr9 (a:=Xv _) (Ue _) sl hr,oB,Ub,Xak]
theorem Z0l {N:Nat} {z:Int} (h:-9223372036854775808≤z∧z≤9223372036854775807) (hr:Xg N 4):Zix N z=some (Xv z):=by
 have c:=hr
 obtain ⟨i,j⟩:=c
 have a:∀ n:Nat,n<18446744073709551616→(Ze n).length≤2:=fun n d=>W7.2 (by simpa using d)
 have f:Zo [1]:=.cons (by decide) .nil
 rw [Zix]
 by_cases hz:0≤z
 ·rw [if_pos (dT hz),Xs (by omega),Z0m (by omega) (by omega),oB,Zeg (Xc _) (a _ (by omega)) (hr.mono (by omega)),oB]
  have b:Zz (false,Ze z.toNat)=z:=by simp only [Zz,Xd];simp;omega
  rw [b]
 ·have g:=a (-z - 1).toNat (by omega)
  have e:u64.wrap (i64.wrap (-i64.wrap (z+1)))= -z - 1:=by rw [Zr (x:=z+1) (by omega),Zr (by omega),Xs (by omega)];omega
  rw [if_neg (dF hz),e,Z0m (by omega) (by omega),oB,Zzg (Xc _) f (by simp only [aH];omega) (by simp only [aH];omega),oB,Xd,Wq,Yn,Zeg (k:=4) (Xc _) (by
   have:=a ((-z - 1).toNat+((1:Int).toNat+4294967296 * 0)) (by omega)
   omega) hr,oB]
  have b:Zz (true,Ze ((-z - 1).toNat+((1:Int).toNat+4294967296 * 0)))=z:=by simp only [Zz,Xd,if_true];omega
  rw [b]
theorem Zjt {N k:Nat} {a:QV} (ha:RV k a) (hr:Xg N k):S7 N a=some (Ze (Yf a.2)):=by
 obtain ⟨b,c⟩:=hr
 have:=ha.ld
 rw [S7,U1 ha.d (by omega) (by omega),oB,Yf]
 by_cases h:Zb a.2=0
 ·rw [h,Ve,if_pos (by decide),if_pos rfl,Zn6,oB,Qx]
 ·have:=T9 h
  rw [if_neg (dF (by omega)),if_neg h]
theorem Zr4 {N k l:Nat} {num:ZV} {den:List Int} (hn:Zo num.2) (hd:Zo den) (h0:Zb den≠0) (hk:num.2.length≤k) (hl:den.length≤l) (hr:Xg N (k+l)):
  Zfw N num den=some (Z2 (mkRat (Zz num) (Zb den))):=by
 have c:=hr
 obtain ⟨j,m⟩:=c
 have n:=Yh hn
 have f:=Yh hd
 have d:cR (Zb num.2) (Zb den)≠0:=fun h=>h0 (Nat.gcd_eq_zero_iff.1 h).2
 have lg:(Ze (cR (Zb num.2) (Zb den))).length≤den.length:=aY (Vi (Nat.gcd_le_right _ (by omega))) f
 have o:=Vi (cM (Zb num.2) (cR (Zb num.2) (Zb den)))
 have ld:=Vi (cM (Zb den) (cR (Zb num.2) (Zb den)))
 obtain ⟨g,i,e,b,p⟩:=Z9j (N:=N) (M:=k+l) hn hd (by omega) (by omega) (by omega) (by omega)
 rw [Zfw,i,oB,Zzs hn e (by rw [b];omega) (by omega) (by rw [b];omega) (by omega),oB,Zzs hd e (by rw [b];omega) (by omega) (by rw [b];omega) (by omega),oB,b,if_neg d,if_neg d,
  Z0j (k:=k) (a:=(num.1,Ze (Zb num.2 / cR (Zb num.2) (Zb den)))) (Xc _) (by simp only;omega) (hr.mono (by omega)),oB,U1 (Xc _) (by omega) (by omega),oB,Zxr (neg:=num.1) h0,Zl2,Xd,Xd]
theorem Z9h {N k:Nat} {a:QV} (ha:RV k a) (hr:Xg N k):Ziz N a=some (Zed (Xm a)):=by
 rw [Ziz,Zr9 (a:=(a.1.1,a.1.2)) ha.m ha.lm hr,oB,Zyx]
theorem Zpr (n:Nat):Zz (false,Ze n)=n:=by simp [Zz,Xd]
theorem Zz0 {N k l:Nat} {a b:QV} (ha:RV k a) (hb:RV l b) (hr:Xg N (2 * (k+l+3))):Ziy N a b=some (Zbb (Xm a) (Xm b)):=by
 have c:=T8 ha
 have d:=T8 hb
 have e:=Zcw (n:=Yf b.2) ha.m ha.lm d
 have f:=Zcw (n:=Yf a.2) hb.m hb.lm c
 rw [Ziy,Zjt hb (hr.mono (by omega)),oB,Zaz,oB,Zmg (a:=(a.1.1,a.1.2)) (b:=(false,Ze (Yf b.2))) (k:=k) (l:=l+1) ha.m (Xc _) ha.lm d (hr.mono (by omega)),oB,Zjt ha (hr.mono (by omega)),oB,Zaz,oB,Zmg (a:=(b.1.1,b.1.2)) (b:=(false,Ze (Yf a.2))) (k:=l) (l:=k+1) hb.m (Xc _) hb.lm c (hr.mono (by omega)),oB,Zpr,Zpr,
  Z89 (a:=Xv _) (b:=Xv _) (Ue _) (Ue _) e f (hr.mono (by omega)),oB,Ub,Ub,Xm,Xm,Zrp (U6 _) (U6 _)]
theorem Zzr {N k l:Nat} {a b:QV} (ha:RV k a) (hb:RV l b) (hr:Xg N (k+l+2)):Zdi N (Ze (Yf a.2)) (Ze (Yf b.2))=some (Ze (Yf a.2 * Yf b.2)):=by
 have c:=T8 ha
 have d:=T8 hb
 obtain ⟨e,f⟩:=hr
 rw [Z0g (Xc _) (Xc _) (by omega) (by omega),Xd,Xd]
theorem Zzz {N k l:Nat} {a b:QV} (ha:RV k a) (hb:RV l b) (hr:Xg N (2 * (k+l+3))):Zfs N a b=some (Z2 (Xm a+Xm b)):=by
 have c:=T8 ha
 have d:=T8 hb
 have f:=Zcw (n:=Yf b.2) ha.m ha.lm d
 have e:=Zcw (n:=Yf a.2) hb.m hb.lm c
 obtain ⟨_,g,i⟩:=Znd ha hb (hr.mono (by omega))
 have j:=Zzr ha hb (hr.mono (by omega))
 have sl:=Zsg (k:=k+l+1) (by omega) (aY e (by omega))
 rw [Zfs,Zjt hb (hr.mono (by omega)),oB,Zaz,oB,Zmg (a:=(a.1.1,a.1.2)) (b:=(false,Ze (Yf b.2))) (k:=k) (l:=l+1) ha.m (Xc _) ha.lm d (hr.mono (by omega)),oB,Zjt ha (hr.mono (by omega)),oB,Zaz,oB,Zmg (a:=(b.1.1,b.1.2)) (b:=(false,Ze (Yf a.2))) (k:=l) (l:=k+1) hb.m (Xc _) hb.lm c (hr.mono (by omega)),oB,Zpr,Zpr,
  Zze (a:=Xv _) (b:=Xv _) (Ue _) (Ue _) f e (hr.mono (by omega)),oB,Ub,Ub,oB,oB,j,oB,
  Zr4 (num:=Xv _) (Ue _) (Xc _) (by rw [Xd];exact i) sl g (hr.mono (by omega)),oB,Ub,Xd,Xm,Xm,Rat.mkRat_add_mkRat _ _ (U6 _) (U6 _)]
theorem Z9g {N k l:Nat} {a b:QV} (ha:RV k a) (hb:RV l b) (hr:Xg N (2 * (k+l+3))):Zft N a b=some (Z2 (Xm a * Xm b)):=by
 obtain ⟨_,c,d⟩:=Znd ha hb (hr.mono (by omega))
 have e:=Zzr ha hb (hr.mono (by omega))
 have f:(Xv (Zz a.1 * Zz b.1)).2.length≤k+l:=by
  rw [Zeq,Int.natAbs_mul,Zcj,Zcj]
  have g:=Tp (Zb a.1.2) (Zb b.1.2)
  have i:=Yh ha.m
  have j:=Yh hb.m
  have:=ha.lm;have:=hb.lm
  omega
 rw [Zft,Zmg (a:=(a.1.1,a.1.2)) (b:=(b.1.1,b.1.2)) ha.m hb.m ha.lm hb.lm (hr.mono (by omega)),oB,Zjt ha (hr.mono (by omega)),oB,Zjt hb (hr.mono (by omega)),oB,e,oB,
  Zr4 (num:=Xv _) (Ue _) (Xc _) (by rw [Xd];exact d) f c (hr.mono (by omega)),oB,Ub,Xd,Xm,Xm,Rat.mkRat_mul_mkRat]
theorem Z0x {N:Nat} {a b:Int} (h:-9223372036854775808≤a∧a≤9223372036854775807) (g:0<b∧b≤9223372036854775807) (hr:Xg N 8):Zay N a b=some (Z2 ((a:Rat) / (b:Rat))):=by
 have d:∀ z:Int,-9223372036854775808≤z∧z≤9223372036854775807→(Xv z).2.length≤2:=fun z n=>W7.2 (by simp;omega)
 have i:=d a h
 have f:=d b (by omega)
 have c:Zb (Xv b).2≠0:=by rw [Zeq,Xd];omega
 have e:=Zw2 (Zz (Xv a)) 1 (Xv b) 1 (Xv a).1 (Xv a).2 rfl c
 rw [Zay,Zn5,Z0l h (hr.mono (by omega)),oB,Z0l (by omega) (hr.mono (by omega)),oB,Zn4,Zr9 (a:=Xv b) (Ue _) f (hr.mono (by omega)),oB,Ub,iD g.1,if_neg (by decide),Zr4 (num:=(!decide ((Xv a).1=(Xv b).1),(Xv a).2)) (Ue _) (Ue _) c i f (hr.mono (by omega)),oB,oB,oB]
 rw [dN,dN,Ub,Ub] at e
 have j:(a:Rat) / ((1:Nat):Rat) / ((b:Rat) / ((1:Nat):Rat))=(a:Rat) / (b:Rat):=by
  have k:((1:Nat):Rat)=1:=rfl
  have l:(1:Rat)⁻¹=1:=fI (by grind)
  simp only [k,Rat.div_def,l,Rat.mul_one]
 rw [j,bR,Nat.mul_one] at e
 rw [e]
 have m:Zz (!decide ((Xv a).1=(Xv b).1),Ze (Zb (Xv a).2))=Zz (!decide ((Xv a).1=(Xv b).1),(Xv a).2):=by simp only [Zz,Xd]
 rw [m]
theorem div_one (a:Rat):a / 1=a:=by
 have b:(1:Rat)⁻¹=1:=fI (by grind)
 rw [Rat.div_def,b,Rat.mul_one]
theorem Z1o {N:Nat} (hr:Xg N 8):Zay N 0 1=some (Z2 0):=by
 rw [Z0x (by omega) (by omega) hr]
 congr 2
 exact div_one _
theorem Z1n {N:Nat} (hr:Xg N 8):Zay N 1 1=some (Z2 1):=by
 rw [Z0x (by omega) (by omega) hr]
 congr 2
 exact div_one _
theorem Zz2 {N:Nat} (l:List QV) (hl:∀ a ∈ l,Vc a) (hb:l.length<4611686018427387904):∀ (n i:Nat) (q:Rat),i≤l.length→l.length<n+i→Xg N (4 * (qs q+Xz (l.drop i)+3))→Zfv N l n (Z2 q).1.1 (Z2 q).1.2 (Z2 q).2 (i:Int)=some (Z2 (q+W9 (l.drop i)))
 | 0,i,q,g,j,_=>by omega
 | n+1,i,q,g,j,b=>by
  rw [Zfv.eq_2]
  by_cases hi:i<l.length
  ·have d:=List.drop_eq_getElem_cons hi
   have c:=hl _ (List.getElem_mem hi)
   have o:=Zrt c
   rw [d,Xz] at b
   have p:=Zyu q (Xm l[i])
   rw [if_pos (dT (by omega)),Zu hi,oB,Zzz (k:=qs q) (l:=max (l[i]).1.2.length (l[i]).2.length) (Zsa q) (Zcg c.1 c.2) (b.mono (by omega)),oB,Zr (by omega)]
   have f:=Zz2 l hl hb n (i+1) (q+Xm l[i]) (by omega) (by omega) (b.mono (by omega))
   have e:Xm ((((Z2 q).1.1,(Z2 q).1.2),(Z2 q).2):QV)=q:=Te q
   have m:Xm (((l[i].1.1,l[i].1.2),l[i].2):QV)=Xm l[i]:=rfl
   rw [show ((i+1:Nat):Int)=(i:Int)+1 by omega] at f
   rw [e,m,f,d,W9,W9,List.map_cons,List.sum_cons,Rat.add_assoc]
  ·rw [if_neg (dF (by omega)),aG (by omega),W9,List.map_nil,List.sum_nil,Rat.add_zero]
theorem Z9i {N:Nat} {l:List QV} (hl:∀ a ∈ l,Vc a) (hb:l.length<4611686018427387904) (hn:l.length<N) (hr:Xg N (4 * (Xz l+4))):Zlg N l=some (Z2 (W9 l)):=by
 rw [Zlg,Z1o (hr.mono (by omega)),oB]
 have:=Zz2 (N:=N) l hl hb N 0 0 (by omega) (by omega) (hr.mono (by rw [Zru,aR];omega))
 rw [aR,Rat.zero_add] at this
 exact this
def Zg1 (ab:ByteArray):List ByteArray→Nat→Option Int
  | [],aa=>some (-1)
  | ac :: ad,aa=>if (decide (ab=ac))=true then (some (aa:Int)) else ((Zg1 ab ad) (aa+1))
def Zol (aa:List ByteArray) (ab:ByteArray):Option Int:=
  Zg1 ab aa 0
theorem Z4z {ag:Nat} {a0:Option Addr} {col:Zd} {w0:World} {ab:R8} {ae:ByteArray} {r:Int} (hm:Zol ab ae=some r) (h0:Sl Za.str col w0 a0 ag ab):
    Calls prog 204 #[.slice a0 ab.length ag,.string ae] w0 (W5 w0 r):=by
 refine Z6 4 (m:=19) func204 rfl rfl rfl rfl rfl ?_;rw [Zol.eq_1] at hm;have aa:=St.start col w0;refine go ?_;refine Zs [0,1,7,1000000] (fun n f ah=>∃ ai ac ad,n=ad.length∧ab.drop ac=ad∧Zg1 ae ad ac=some r∧St w0 (Zf col) ai ah∧[8].map f=[.int .i64 ac]) ab.length ⟨_,0,_,rfl,rfl,hm,aa,rfl⟩ ?_;clear hm;intro n f ah hI;obtain ⟨ai,ac,ad,hn,hl,hm,aa,hs⟩:=hI;subst hn;refine .lL [8] hs ?_;replace h0:=h0.k0
 cases ad with
 | nil=>
  have hk:¬ ((ac:Int)<(ab.length:Int)):=by have:=aM.1 hl;omega
  have hkb:=decide_eq_false hk;rw [Zg1.eq_1] at hm;refine go ?_;refine Yc (congrArg Value.bool hkb)<|go ?_;cases hm;exact ⟨rfl,rfl,aa.below⟩
 | cons am aj=>
  obtain ⟨af,ak,al⟩:=Yu hl;have hk:(ac:Int)<(ab.length:Int):=by omega
  have hkb:=decide_eq_true hk;rw [Zg1.eq_2] at hm;refine go ?_;refine Yd (congrArg Value.bool hkb)<|go ?_;refine lI af ((h0.ks aa).addr af)<|lW ((h0.ks aa).atStr af) ?_;refine go ?_;refine Zm hm (fun hb hm=>go ?_) fun hb hm=>go ?_
  ·cases hm;exact ⟨rfl,rfl,aa.below⟩
  exact ⟨aj.length,by simp,rfl,⟨_,_,_,rfl,ak,hm,aa,(Y2 (congrArg (Value.int .i64) (Yx (aK al (h0.ks aa).1.1))) rfl)⟩⟩
def Zlt (aa:List ByteArray) (ab:ByteArray):Option Bool:=
  (Zol aa ab).bind fun ac=>some (decide (0≤ac))
theorem Z4x {ad:Nat} {a0:Option Addr} {col:Zd} {w0:World} {ab:R8} {ae:ByteArray} {r:Bool} (hm:Zlt ab ae=some r) (h0:Sl Za.str col w0 a0 ad ab):
    Calls prog 169 #[.slice a0 ab.length ad,.string ae] w0 (Wx w0 r):=by
 refine Z6 4 (m:=9) func169 rfl rfl rfl rfl rfl ?_;rw [Zlt.eq_1] at hm;have aa:=St.start col w0;refine go ?_;obtain ⟨ah,af,hm⟩:=bZ hm;refine Zk (Z4z af (h0.k0.ks aa)) fun _ ag ⟨e',ac⟩=>⟨_,e',?_⟩;replace ac:Zn (Zf col) w0 (Zf col) ag:=.of_below ac;refine go ?_;cases hm;exact ⟨rfl,rfl,(aa.grow ac).below⟩
def Zdc:List ByteArray→(List (ByteArray×Int))→Option Bool
  | [],aa=>some false
  | ab :: ac,aa=>if (decide (0<((Wv aa ab).getD 0)))=true then (some true) else ((some (Qc aa ab 1)).bind fun ad=>(Zdc ac) ad)
def Zks (aa:List ByteArray):Option Bool:=
  Zdc aa ([]:List (ByteArray×Int))
theorem Z3d {al:Nat} {a0:Option Addr} {col:Zd} {w0:World} {ab:R8} {r:Bool} (hm:Zks ab=some r) (h0:Sl Za.str col w0 a0 al ab):
    Calls prog 170 #[.slice a0 ab.length al] w0 (Wx w0 r):=by
 refine Z6 2 (m:=20) func170 rfl rfl rfl rfl rfl ?_;rw [Zks.eq_1] at hm;have aa:=St.start col w0;refine go ?_;refine Z7b (col:=(Zf col)) (fk:=Value.string) (fv:=(Value.int .i64)) 1 rfl ?_;intro ay az a1 ao ap;refine go ?_;replace aa:=aa.grow ao;refine Zs [7,8,1000000] (fun n f af=>∃ ag ah ac ad ae,n=ae.length∧ab.drop ad=ae∧Zdc ae ac=some r∧St w0 (Zf col) ag af∧Vp Value.string (Value.int .i64) 1 ag af ah ac∧[9,3].map f=[.int .i64 ad,.map (some ah)]) ab.length ⟨_,_,_,0,_,rfl,rfl,hm,aa,ap,rfl⟩ ?_;clear hm;intro n f af hI;obtain ⟨ag,ah,ac,ad,ae,hn,hl,hm,aa,am,hs⟩:=hI;subst hn;refine .lL [9,3] hs ?_;replace h0:=h0.k0
 cases ae with
 | nil=>
  have hk:¬ ((ad:Int)<(ab.length:Int)):=by have:=aM.1 hl;omega
  have hkb:=decide_eq_false hk;rw [Zdc.eq_1] at hm;refine go ?_;refine Yc (congrArg Value.bool hkb)<|go ?_;cases hm;exact ⟨rfl,rfl,aa.below⟩
 | cons ai aq=>
  obtain ⟨aj,ar,au⟩:=Yu hl;have hk:(ad:Int)<(ab.length:Int):=by omega
  have hkb:=decide_eq_true hk;rw [Zdc.eq_2] at hm;refine go ?_;refine Yd (congrArg Value.bool hkb)<|go ?_;refine lI aj ((h0.ks aa).addr aj)<|lW ((h0.ks aa).atStr aj) ?_;refine go ?_;refine lV (.int .i64 ((Wv ac ai).getD 0)) (Zy6 Sj.str am underlying196 underlying9 zeroValue3 rfl rfl)<|go ?_;refine Zm hm (fun hb hm=>go ?_) fun hb hm=>go ?_
  ·cases hm;exact ⟨rfl,rfl,aa.below⟩
  obtain ⟨av,ak,hm⟩:=bZ hm;have ak:av=Qc ac ai 1:=(Option.some.inj ak).symm;refine Zv4 (k:=ai) (v:=1) Sj.str am underlying196 underlying9 rfl rfl rfl ?_;intro a2 aw ax an;rw [← ak] at an;refine go ?_;replace aa:=aa.kp aw ax;exact ⟨aq.length,by simp,rfl,⟨_,_,_,_,_,rfl,ar,hm,aa,an,(Y2 (congrArg (Value.int .i64) (Yx (aK au (h0.ks aa).1.1))) rfl)⟩⟩
def Zh6 (ab:R0) (aa:Nat) (kk_L1:(Nat→Option Int)) (ac:Bool):Option Int:=
  if ac=true then (some 40) else ((Zi ab.2.2.1 (aa:Int)).bind fun ad=>if (decide ((ad.length:Int)=0))=true then (some 43) else (kk_L1 (aa+1)))
def Zbq (aa:R0):List ByteArray→Nat→Option Int
  | [],ab=>some 0
  | ad :: ac,ab=>Zt ((0:Int)≤(ab:Int)∧(ab:Int)≤(aa.2.1.length:Int)) ((Zlt (aa.2.1.take (aA (ab:Int))) ad).bind fun ae=>if ae=true then (Zh6 aa ab (Zbq aa ac) true) else ((Zi aa.2.2.1 (ab:Int)).bind fun af=>(Zks af).bind fun ag=>Zh6 aa ab (Zbq aa ac) ag))
def Ze5 (aa:R0):Option Int:=
  Zbq aa aa.2.1 0
theorem Z3a {ae ak al am:Nat} {af an ao ap:Option Addr} {col:Zd} {w0:World} {aa:R0} {r:Int} (hm:Ze5 aa=some r) (ag:Sl Za.str col w0 af ae aa.2.1) (ai:Sl rV col w0 an ak aa.2.2.1) (bi:Sl rP col w0 ao al aa.2.2.2.1) (bj:Sl (Za.slice rQ) col w0 ap am aa.2.2.2.2):
    Calls prog 131 #[(.agg #[.string aa.1,.slice af aa.2.1.length ae,.slice an aa.2.2.1.length ak,.slice ao aa.2.2.2.1.length al,.slice ap aa.2.2.2.2.length am])] w0 (W5 w0 r):=by
 refine Z6 2 (m:=37) func131 rfl rfl rfl rfl rfl ?_;rw [Ze5.eq_1] at hm;have ab:=St.start col w0;refine go ?_;refine Xl (col:=(Zf col)) 1 rfl ?_;intro a3 bk bm a6 ac;refine go ?_;refine Z1 ac ?_;refine go ?_;replace ab:=ab.grow a6;refine Zs [1,6,7,1000000] (fun n f aq=>∃ ah ad aj,n=aj.length∧aa.2.1.drop ad=aj∧Zbq aa aj ad=some r∧St w0 (Zf col) ah aq∧Zj 27 1 ah aq a3 #[.string aa.1,.slice af aa.2.1.length ae,.slice an aa.2.2.1.length ak,.slice ao aa.2.2.2.1.length al,.slice ap aa.2.2.2.2.length am]∧[8].map f=[.int .i64 ad]) aa.2.1.length ⟨_,0,_,rfl,rfl,hm,ab,ac,rfl⟩ ?_;clear hm;intro n f aq hI;obtain ⟨ah,ad,aj,hn,hl,hm,ab,ac,hs⟩:=hI;subst hn;refine .lL [8] hs ?_;replace ag:=ag.k0;replace ai:=ai.k0
 cases aj with
 | nil=>
  have hk:¬ ((ad:Int)<(aa.2.1.length:Int)):=by have:=aM.1 hl;omega
  have hkb:=decide_eq_false hk;rw [Zbq.eq_1] at hm;refine go ?_;refine Yc (congrArg Value.bool hkb)<|go ?_;cases hm;exact ⟨rfl,rfl,ab.below⟩
 | cons bn a4=>
  obtain ⟨av,a7,a8⟩:=Yu hl;have hk:(ad:Int)<(aa.2.1.length:Int):=by omega
  have hkb:=decide_eq_true hk;rw [Zbq.eq_2] at hm;refine go ?_;refine Yd (congrArg Value.bool hkb)<|go ?_;refine lI av ((ag.ks ab).addr av)<|lW ((ag.ks ab).atStr av)<|Y4 rfl<|lAT rfl<|Zl<|Zjy<|Z0 ?_;refine Wp.cutK [1,3,6,7,8,1000000] (fun f aw=>∃ ax ay,Zh6 aa ad (Zbq aa a4) ay=some r∧St w0 (Zf col) ax aw∧Zj 27 1 ax aw a3 #[.string aa.1,.slice af aa.2.1.length ae,.slice an aa.2.2.1.length ak,.slice ao aa.2.2.2.1.length al,.slice ap aa.2.2.2.2.length am]∧[13].map f=[.bool ay]) ?_ ?_
  ·intro f aw hJ;obtain ⟨ax,ay,hm,ab,ac,hs⟩:=hJ;rw [Zh6.eq_1] at hm;refine .lL [13] hs ?_;refine Zm hm (fun hb hm=>go ?_) fun hb hm=>go ?_
   ·cases hm;exact ⟨rfl,rfl,ab.below⟩
   refine Z1 ac<|Xr rfl ?_;obtain ⟨bo,az,hm⟩:=bZ hm;refine lI az ((ai.ks ab).addr az) ?_;obtain ⟨_,a9,ba⟩:=(ai.ks ab).atN az;obtain ⟨⟨bp,bq,rfl,br⟩,_⟩:=a9;refine lW ba.one<|go ?_;refine Zm hm (fun hb hm=>go ?_) fun hb hm=>go ?_
   ·cases hm;exact ⟨rfl,rfl,ab.below⟩
   exact ⟨a4.length,by simp,rfl,⟨_,_,_,rfl,a7,hm,ab,ac,(Y2 (congrArg (Value.int .i64) (Yx (aK a8 (ag.ks ab).1.1))) rfl)⟩⟩
  refine Wy<|Z1 ac<|Xr rfl ?_;obtain ⟨a0,hm⟩:=Zv hm;refine lv (v:=.slice af (aA (ad:Int)) ae) rfl rfl (Vt underlying22 sizeOf9 rfl rfl a0.1 (by have:=(ag.ks ab).1.2;have:=a0.2;omega))<|.ld (d:=17) (v:=(.slice af ((aa.2.1.take (aA (ad:Int))).length) ae)) (congrArg (fun n=>Value.slice af n ae) (List.length_take_of_le (show (aA (ad:Int))≤aa.2.1.length by have:=a0.2;omega)).symm) ?_;refine lMT rfl ?_;obtain ⟨bs,bb,hm⟩:=bZ hm;refine Zk (Z4x bb ((ag.ks ab).take (aA (ad:Int)))) fun _ a5 ⟨e',ar⟩=>⟨_,e',?_⟩;replace ar:Zn ah aq ah a5:=.of_below ar;refine Xq rfl ?_;replace ac:=ac.gr ar;replace ab:=ab.grow ar;refine Xn hm (fun a1 hm=>go ?_) fun a1 hm=>go ?_
  ·refine lV (.bool true) (Zw (congrArg Value.bool a1) rfl)<|go ?_;exact ⟨rfl,_,_,hm,ab,ac,rfl⟩
  refine Z7 ⟨_,_,rfl⟩ ?_;refine go ?_;refine lW ((ac.atN).nth (q:=2) rfl)<|go ?_;obtain ⟨bt,a2,hm⟩:=bZ hm;refine lI a2 ((ai.ks ab).addr a2) ?_;refine go ?_;obtain ⟨_,bc,bd⟩:=(ai.ks ab).atN a2;obtain ⟨⟨bu,bv,rfl,be⟩,_⟩:=bc;refine lW bd.one<|go ?_;obtain ⟨bf,bg,hm⟩:=bZ hm;refine Zk (Z3d bg be) fun _ bh ⟨e',au⟩=>⟨_,e',?_⟩;replace au:Zn ah a5 ah bh:=.of_below au;refine lV (.bool bf) (Xk (congrArg Value.bool a1) rfl)<|go ?_;exact ⟨rfl,_,_,hm,ab.grow au,ac.gr au,rfl⟩
def Zh4 (aa:Bool) (ab ac:List Int):Option R1:=
  some ((aa,ab),ac)
def Zda (N:Nat) (aa:R1):Option R1:=
  (Zfd N aa.2).bind fun ab=>if (decide ((ab.length:Int)=0))=true then ((Zbs N 1).bind fun ac=>Zh4 aa.1.1 aa.1.2 ac) else (Zh4 aa.1.1 aa.1.2 aa.2)
theorem Zs6 {N am a1:Nat} {an a2:Option Addr} {col:Zd} {w0:World} {ad r:R1} (hm:Zda N ad=some r) (ai:Sl rU col w0 an am ad.1.2) (aj:Sl rU col w0 a2 a1 ad.2):
    Calls prog 95 #[(.agg #[.bool ad.1.1,.slice an ad.1.2.length am,.slice a2 ad.2.length a1])] w0 (fun e w'=>∃ col' ra1 rc2 ra4 rc5,e= .returned ((.agg #[.bool r.1.1,.slice ra1 r.1.2.length rc2,.slice ra4 r.2.length rc5]))∧Zn col w0 col' w'∧Sl rU col' w' ra1 rc2 r.1.2∧Sl rU col' w' ra4 rc5 r.2):=by
 refine We (m:=11) func95 rfl rfl rfl ?_;rw [Zda.eq_1] at hm;have aa:=St.start col w0;refine go ?_;refine Xl (col:=(Zf col)) 1 rfl ?_;intro a3 bj a8 a9 ab;refine Xx (col:=a8) #[.bool false,(nI),(nI)] 2 zeroValue42 ?_;intro ba bk bm a4 ac;refine Zl<|Z0 ?_;replace ai:=ai.k0;replace aj:=aj.k0;replace aa:=(aa.grow a9).grow a4;replace ab:=ab.gr a4;refine Wp.cutK [1,2,1000000] (fun f ae=>∃ af ao ap aq ak ar au al,Zh4 ao ak al=some r∧St w0 (Zf col) af ae∧Sl rU af ae ap aq ak∧Sl rU af ae ar au al∧Zj 42 1 af ae a3 #[.bool ao,.slice ap ak.length aq,.slice ar al.length au]∧Zj 42 2 af ae ba #[.bool false,(nI),(nI)]) ?_ ?_
 ·intro f ae hJ;obtain ⟨af,ao,ap,aq,ak,ar,au,al,hm,aa,av,aw,ab,ac⟩:=hJ;rw [Zh4.eq_1] at hm;refine go ?_;refine lV _ (Z9 isAgg42 sizeOf42 ab)<|Xf ac ?_;intro bn ax bb bc;refine go ?_;cases hm;replace aa:=aa.kp ax bb;exact ⟨rfl,_,ra bc.atN,_,_,_,_,_,rfl,aa.fin (cm []),aa.fs (av.kp ax),aa.fs (aw.kp ax)⟩
 refine go ?_;refine Z1 ab ?_;obtain ⟨bo,bd,hm⟩:=bZ hm;refine Zk (Zp5 3 bd (aj.ks aa)) ?_;rintro _ bp ⟨be,bq,br,rfl,ay,bs⟩;refine ⟨_,rfl,go ?_⟩;replace ab:=ab.gr ay;replace ac:=ac.gr ay;replace aa:=aa.grow ay;refine Zm hm (fun hb hm=>?_) fun hb hm=>?_
 ·refine Wy ?_;obtain ⟨a5,bf,hm⟩:=bZ hm;refine Zk (Zj9 (col:=be) 4 bf) fun _ bt ⟨bg,a6,a7,e',az,ag⟩=>⟨_,e',?_⟩;refine Z7 ⟨_,_,rfl⟩ ?_;replace ab:=ab.gr az;refine Ud (off:=2) (v:=(.slice a6 a5.length a7)) ab sizeOf38 rfl rfl (by intro u hu;simp only [Value.cells,aP,bA,or_false] at hu;subst hu;rfl) rfl rfl ?_;intro bh a0 bi ah;replace ah:Zj 42 1 bg bh a3 #[.bool ad.1.1,.slice an ad.1.2.length am,.slice a6 a5.length a7]:=ah;refine Zl ?_;replace ag:=ag.kp a0;replace ac:=(ac.gr az).kp a0;replace ac:=ac.froz 4;replace aa:=(aa.grow az).kp a0 bi;replace aa:=aa.froz 4 (by decide) (by decide);exact ⟨rfl,_,_,_,_,_,_,_,_,hm,aa,(ai.ks aa),(ag).toSlF (Zh.int .u32),ah.froz 4,ac⟩
 refine Yj ?_;exact ⟨rfl,_,_,_,_,_,_,_,_,hm,aa,(ai.ks aa),(aj.ks aa),ab,ac⟩
theorem Z58:Y1 prog 42 3 56:=⟨Tryz.t42,_,rfl,rfl,rfl,rfl,rfl⟩
def Zdb (N:Nat):List R1→R6→Option R6
  | [],ab=>some ab
  | ac :: ad,ab=>(Zda N ((ac.1.1,ac.1.2),ac.2)).bind fun aa=>Zt ((ab.length+[((aa.1.1,aa.1.2),aa.2)].length) * 56≤140737488355328∧ab.length+[((aa.1.1,aa.1.2),aa.2)].length≤maxLen) ((Zdb N ad) (ab++[((aa.1.1,aa.1.2),aa.2)]))
def Zh5 (N:Nat) (aa:R6):Option R6:=
  Zt (aa.length * 56≤281474976710656∧aa.length≤maxLen) (Zdb N aa ([]:List R1))
theorem Zs7 {N ar:Nat} {a0:Option Addr} {col:Zd} {w0:World} {ac r:R6} (c1:Nat) (hm:Zh5 N ac=some r) (h0:Sl rQ col w0 a0 ar ac):
    Calls prog 135 #[.slice a0 ac.length ar] w0 (fun e w'=>∃ col' ra1 rc2,e= .returned ((.slice ra1 r.length rc2))∧Zn col w0 col' w'∧Zc rQ 42 c1 col' w' ra1 rc2 r):=by
 refine Z6 2 (m:=22) func135 rfl rfl rfl rfl rfl ?_;rw [Zh5.eq_1] at hm;have ab:=St.start col w0;refine go ?_;obtain ⟨au,hm⟩:=Zv hm;refine Z7a (col:=(Zf col)) (w:=w0) (r:=rQ) (n:=ac.length) 1 rfl underlying29 Z58 rfl rfl rfl au.1 au.2 ?_;intro bt bu bv a2 a3;refine go ?_;replace ab:=ab.grow a2;refine Zs [10,9,1000000] (fun n f ak=>∃ af ad al am ag ae,n=ae.length∧ac.drop ad=ae∧Zdb N ae ag=some r∧St w0 (Zf col) af ak∧Zc rQ 42 1 af ak al am ag∧[11,3].map f=[.int .i64 ad,.slice al ag.length am]) ac.length ⟨_,0,_,_,_,_,rfl,rfl,hm,ab,a3,rfl⟩ ?_;clear hm;intro n f ak hI;obtain ⟨af,ad,al,am,ag,ae,hn,hl,hm,ab,ah,hs⟩:=hI;subst hn;refine .lL [11,3] hs ?_;replace h0:=h0.k0
 cases ae with
 | nil=>
  have hk:¬ ((ad:Int)<(ac.length:Int)):=by have:=aM.1 hl;omega
  have hkb:=decide_eq_false hk;rw [Zdb.eq_1] at hm;refine go ?_;refine Yc (congrArg Value.bool hkb)<|go ?_;cases hm;exact ⟨rfl,_,_,_,rfl,ab.fin (cm [(1,c1)]),ab.fo ah⟩
 | cons an a4=>
  obtain ⟨ao,a5,a6⟩:=Yu hl;have hk:(ad:Int)<(ac.length:Int):=by omega
  have hkb:=decide_eq_true hk;rw [Zdb.eq_2] at hm;refine go ?_;refine Yd (congrArg Value.bool hkb)<|go ?_;refine lI ao ((h0.ks ab).addr ao) ?_;obtain ⟨_,a7,a8⟩:=(h0.ks ab).atN ao;obtain ⟨_,_,rfl,a9,ba⟩:=Yb a7;obtain ⟨_,_,rfl,bb,bc⟩:=Yb a9;obtain ⟨rfl,_⟩:=bb;obtain ⟨⟨bd,be,rfl,ap⟩,_⟩:=bc;obtain ⟨⟨bf,bg,rfl,aq⟩,_⟩:=ba;refine lV (.agg #[.bool an.1.1,.slice bd an.1.2.length be,.slice bf an.2.length bg]) (Ym isAgg42 sizeOf42 rfl rfl a8)<|Xx (col:=af) #[.bool false,(nI),(nI)] 2 zeroValue42 ?_;intro bw bx bz ai bh;refine Xf bh ?_;intro b0 aj bi bj;refine go ?_;refine lV _ (Z9 isAgg42 sizeOf42 bj) ?_;obtain ⟨aa,bk,hm⟩:=bZ hm;refine Zk (Zs6 bk ((ap.gr ai).kp aj) ((aq.gr ai).kp aj)) fun _ b1 ⟨bm,av,aw,ax,ay,e',az,bn,bo⟩=>⟨_,e',?_⟩;refine Uo (col:=bm) (r:=rQ) (xs:=[((aa.1.1,aa.1.2),aa.2)]) [(.agg #[.bool aa.1.1,.slice av aa.1.2.length aw,.slice ax aa.2.length ay])] 3 (W0.ofF (Rows.consF (r:=rQ) (x:=((aa.1.1,aa.1.2),aa.2)) (cs:=[.bool aa.1.1,.slice av aa.1.2.length aw,.slice ax aa.2.length ay]) (Tg (Tg (U0 aa.1.1) (Zr1 bn)) (Zr1 bo)) Rows.nil0)) ?_;intro b2 b3 b4 a1 bp;obtain ⟨bq,hm⟩:=Zv hm;refine Yy ((((ah.gr ai).kp aj).gr az).gr a1) (bp.srcN (NB.pair (NB.pair NB.bool NB.slice) NB.slice)) bq ?_;intro b5 b6 b7 b8 br bs;refine go ?_;replace ab:=((((ab.grow ai).kp aj bi).grow az).grow a1).kpp br;exact ⟨a4.length,by simp,rfl,⟨_,_,_,_,_,_,rfl,a5,hm,ab,bs,(Y2 (congrArg (Value.int .i64) (Yx (aK a6 (h0.ks ab).1.1))) rfl)⟩⟩
def Zd7 (N:Nat) (ab:List R1) (ac:Int):Nat→Int→Option (List R6)
  | 0,_=>none
  | ad+1,aa=>if (decide (aa<(ab.length:Int)))=true then (Zt ((0:Int)≤aa∧aa≤(ab.length:Int)) (Zt ((0:Int)≤aa∧aa≤(i64.wrap (aa+(if ((ab.drop (aA aa)).length:Int)<ac then ((ab.drop (aA aa)).length:Int) else ac)))∧(i64.wrap (aa+(if ((ab.drop (aA aa)).length:Int)<ac then ((ab.drop (aA aa)).length:Int) else ac)))≤(i64.wrap (aa+(if ((ab.drop (aA aa)).length:Int)<ac then ((ab.drop (aA aa)).length:Int) else ac)))∧(i64.wrap (aa+(if ((ab.drop (aA aa)).length:Int)<ac then ((ab.drop (aA aa)).length:Int) else ac)))≤(ab.length:Int)) (((Zd7 N ab ac ad) (i64.wrap (aa+ac))).bind fun ae=>some ((ab.take (aA (i64.wrap (aa+(if ((ab.drop (aA aa)).length:Int)<ac then ((ab.drop (aA aa)).length:Int) else ac))))).drop (aA aa) :: ae)))) else (some [])
def Zog (N:Nat) (aa:List R1) (ab:Int):Option (List R6):=
  Zd7 N aa ab N 0
theorem Z4u (N:Nat) (col:Zd) (w0:World) (g0:Nat) (af0:Option Addr) (capf0:Nat) (ab:List R1) (hf0:Sl rQ col w0 af0 capf0 ab) (hb0:Zj 29 450 col w0 g0 #[.slice af0 ab.length capf0]) (g1:Nat) (ac:Int) (hb1:Zj 3 450 col w0 g1 #[.int .i64 ac]) (r:List R6) (hm:Zog N ab ac=some r):
    Zel prog 1 209 [.pointer (some ⟨g0,0,none⟩),.pointer (some ⟨g1,0,none⟩)] (fun (y:List R1) (col:Zd) (w:World) (args:List Value)=>∃ a0 ak,args=[.slice a0 y.length ak]∧Sl rQ col w a0 ak y) r col w0:=by
 intro l J X hjs hxs hy ad;refine Zhe (m:=31) (args:=[.func (.yield l) #[] #[],.pointer (some ⟨g0,0,none⟩),.pointer (some ⟨g1,0,none⟩)]) func209 rfl rfl rfl rfl ?_;rw [Zog.eq_1] at hm;refine go ?_;refine Zs [0,1,2,1000000] (fun n f ah=>∃ ae r aa af,af=n∧Zd7 N ab ac af aa=some r∧J r ae ah∧Sl rQ ae ah af0 capf0 ab∧Zj 29 450 ae ah g0 #[.slice af0 ab.length capf0]∧Zj 3 450 ae ah g1 #[.int .i64 ac]∧[4].map f=[.int .i64 aa]) N ⟨_,_,0,_,rfl,hm,ad,hf0,hb0,hb1,rfl⟩ ?_;clear hm;intro n f ah hI;obtain ⟨ae,r,aa,af,hn,hm,ad,hf0,hb0,hb1,hs⟩:=hI;subst hn;refine .lL [4] hs ?_
 cases af with
 | zero=>rw [Zd7.eq_1] at hm;cases hm
 | succ af=>
  rw [Zd7.eq_2] at hm;refine go ?_;refine lW hb0.at1<|go ?_;refine Zm hm (fun hb hm=>go ?_) fun hb hm=>go ?_
  ·refine Y7 (col:=ae) (by kernel_rfl) (by kernel_rfl)<|qW (fun _ hC=>hb1.at1.gr (hC.bl ae)) ?_;refine qW (fun _ hC=>hb0.at1.gr (hC.bl ae)) ?_;refine go ?_;obtain ⟨al,hm⟩:=Zv hm;have ap:=hf0.drop (sz:=3) rfl (aA aa);refine qv (v:=.slice (if capf0=(aA aa) then af0 else af0.map (·.add ((aA aa) * 3))) (ab.length - (aA aa)) (capf0 - (aA aa))) rfl (fun _ hC=>Zzb underlying29 sizeOf42 rfl rfl al.1 al.2) ?_;generalize (if capf0=(aA aa) then af0 else af0.map (·.add ((aA aa) * 3)))=am at *;refine .ld (d:=16) (v:=(.slice am ((ab.drop (aA aa)).length) (capf0 - (aA aa)))) (congrArg (fun n=>Value.slice am n (capf0 - (aA aa))) (cG (i:=(aA aa)) (l:=ab)).symm) ?_;refine go ?_;refine qv (v:=(.int .i64 (if ((ab.drop (aA aa)).length:Int)<ac then ((ab.drop (aA aa)).length:Int) else ac))) rfl (fun _ hC=>Zrx ac ((ab.drop (aA aa)).length:Int) rfl rfl) ?_;refine go ?_;refine X2 ?_;intro aq hC;replace hC:=hC.bl ae;replace hf0:=hf0.gr hC;replace hb0:=hb0.gr hC;replace hb1:=hb1.gr hC;replace ad:=hjs _ _ _ _ _ ad hC.toP;refine go ?_;refine lM (.func (.yield l) #[] #[])<|lW hb0.at1<|go ?_;obtain ⟨ag,hm⟩:=Zv hm;have an:=((hf0.take (aA (i64.wrap (aa+(if ((ab.drop (aA aa)).length:Int)<ac then ((ab.drop (aA aa)).length:Int) else ac))))).recap (show (ab.take (aA (i64.wrap (aa+(if ((ab.drop (aA aa)).length:Int)<ac then ((ab.drop (aA aa)).length:Int) else ac))))).length≤(aA (i64.wrap (aa+(if ((ab.drop (aA aa)).length:Int)<ac then ((ab.drop (aA aa)).length:Int) else ac)))) by rw [cE (i:=(aA (i64.wrap (aa+(if ((ab.drop (aA aa)).length:Int)<ac then ((ab.drop (aA aa)).length:Int) else ac))))) (l:=ab)];have:=ag.2;omega)).drop (sz:=3) rfl (aA aa);refine lv (v:=.slice (if (aA (i64.wrap (aa+(if ((ab.drop (aA aa)).length:Int)<ac then ((ab.drop (aA aa)).length:Int) else ac))))=(aA aa) then af0 else af0.map (·.add ((aA aa) * 3))) ((aA (i64.wrap (aa+(if ((ab.drop (aA aa)).length:Int)<ac then ((ab.drop (aA aa)).length:Int) else ac)))) - (aA aa)) ((aA (i64.wrap (aa+(if ((ab.drop (aA aa)).length:Int)<ac then ((ab.drop (aA aa)).length:Int) else ac)))) - (aA aa))) rfl rfl (Z82 underlying29 sizeOf42 rfl rfl rfl rfl ag.1 ag.2.1 ag.2.2.1 (by have:=hf0.1.2;have:=ag.2.2.2;omega)) ?_
   generalize (if (aA (i64.wrap (aa+(if ((ab.drop (aA aa)).length:Int)<ac then ((ab.drop (aA aa)).length:Int) else ac))))=(aA aa) then af0 else af0.map (·.add ((aA aa) * 3)))=ai at *;refine .ld (d:=28) (v:=(.slice ai (((ab.take (aA (i64.wrap (aa+(if ((ab.drop (aA aa)).length:Int)<ac then ((ab.drop (aA aa)).length:Int) else ac))))).drop (aA aa)).length) ((aA (i64.wrap (aa+(if ((ab.drop (aA aa)).length:Int)<ac then ((ab.drop (aA aa)).length:Int) else ac)))) - (aA aa)))) (congrArg (fun n=>Value.slice ai n ((aA (i64.wrap (aa+(if ((ab.drop (aA aa)).length:Int)<ac then ((ab.drop (aA aa)).length:Int) else ac)))) - (aA aa))) (show (aA (i64.wrap (aa+(if ((ab.drop (aA aa)).length:Int)<ac then ((ab.drop (aA aa)).length:Int) else ac)))) - (aA aa)=((ab.take (aA (i64.wrap (aa+(if ((ab.drop (aA aa)).length:Int)<ac then ((ab.drop (aA aa)).length:Int) else ac))))).drop (aA aa)).length by rw [cG (i:=(aA aa)) (l:=ab.take (aA (i64.wrap (aa+(if ((ab.drop (aA aa)).length:Int)<ac then ((ab.drop (aA aa)).length:Int) else ac))))),cE (i:=(aA (i64.wrap (aa+(if ((ab.drop (aA aa)).length:Int)<ac then ((ab.drop (aA aa)).length:Int) else ac))))) (l:=ab)];have:=ag.2;omega)) ?_;obtain ⟨ar,hc_14m,ao⟩:=bZ hm;cases ao;have hm:=hc_14m;refine ly1 rfl rfl rfl (hy _ _ _ _ [(.slice ai (((ab.take (aA (i64.wrap (aa+(if ((ab.drop (aA aa)).length:Int)<ac then ((ab.drop (aA aa)).length:Int) else ac))))).drop (aA aa)).length) ((aA (i64.wrap (aa+(if ((ab.drop (aA aa)).length:Int)<ac then ((ab.drop (aA aa)).length:Int) else ac)))) - (aA aa)))] ad ⟨ai,((aA (i64.wrap (aa+(if ((ab.drop (aA aa)).length:Int)<ac then ((ab.drop (aA aa)).length:Int) else ac)))) - (aA aa)),rfl,an⟩) ?_;rintro _ au ⟨av,aj,⟨rfl,hJ⟩ | ⟨rfl,hX⟩⟩
   ·refine ⟨_,rfl,?_⟩;have ad:=hJ;refine go ?_;refine Yc rfl<|go ?_;replace hb1:=hb1.kpp aj;refine lW hb1.at1<|go ?_;replace hf0:=hf0.kpp aj;replace hb0:=hb0.kpp aj;exact ⟨af,by omega,rfl,⟨_,_,_,_,rfl,hm,ad,hf0,hb0,hb1,rfl⟩⟩
   refine ⟨_,rfl,?_⟩;have ad:=hX;refine go ?_;refine Yd rfl<|Wh ?_;exact ⟨rfl,⟨_,rfl⟩,_,.inr ad⟩
  cases hm;exact ⟨rfl,⟨_,rfl⟩,_,.inl ad⟩
def Zoh (N:Nat) (aa:R6) (ab:Int):Option (List R6):=
  Zog N aa ab
def Zof (N:Nat) (ab:R6) (aa:Int):Option (List R6):=
  if (decide (aa<1))=true then none else (Zoh N ab aa)
theorem Z4t {N aa:Nat} {a0:Option Addr} {col:Zd} {w0:World} {ac:R6} {ad:Int} {r:(List R6)} (hm:Zof N ac ad=some r) (h0:Sl rQ col w0 a0 aa ac):
    Calls prog 174 #[.slice a0 ac.length aa,.int .i64 ad] w0 (fun e w'=>∃ (col':Zd) (rv1:Value),e= .returned (rv1)∧Zn col w0 col' w'∧It prog 1 rv1 (fun (y:List R1) (col:Zd) (w:World) (args:List Value)=>∃ a0 aa,args=[.slice a0 y.length aa]∧Sl rQ col w a0 aa y) r q0 col' w'):=by
 refine Z6 4 (m:=9) func174 rfl rfl rfl rfl rfl ?_;rw [Zof.eq_1] at hm;have ab:=St.start col w0;refine go ?_;refine Zbf (col:=(Zf col)) (v:=(.slice a0 ac.length aa)) 1 rfl rfl ?_;intro af ap an aq ae;replace ae:Zj 29 1 an ap af #[.slice a0 ac.length aa]:=ae;refine Zbf (col:=an) (v:=(.int .i64 ad)) 2 rfl rfl ?_;intro ag ar au ao ah;replace ah:Zj 3 2 au ar ag #[.int .i64 ad]:=ah;refine lv (v:=_) rfl rfl (Tf rfl)<|Zl<|Z0 ?_;replace ab:=(ab.grow aq).grow ao;replace ae:=ae.gr ao;refine Wp.cutK [2,3,1000000] (fun f aj=>∃ ai,Zoh N ac ad=some r∧St w0 (Zf col) ai aj∧Zj 29 1 ai aj af #[.slice a0 ac.length aa]∧Zj 3 2 ai aj ag #[.int .i64 ad]) ?_ ?_
 ·intro f aj hJ;obtain ⟨ai,hm,ab,ae,ah⟩:=hJ;rw [Zoh.eq_1] at hm;refine go ?_;refine lV (.func (.func 209) #[] #[.pointer (some ⟨af,0,none⟩),.pointer (some ⟨ag,0,none⟩)]) (Zrw rfl rfl)<|lA (.func (.func 209) #[] #[.pointer (some ⟨af,0,none⟩),.pointer (some ⟨ag,0,none⟩)])<|go ?_;have ak:=ab.finBox (G:=(fun n=>bif aJ n 1 then 450 else bif aJ n 2 then 450 else 0)) ae (by decide) (by decide) (show (fun n=>bif aJ n 1 then 450 else bif aJ n 2 then 450 else 0) 1=450 from rfl);have h0f:=ab.finSl (g:=(fun n=>bif aJ n 1 then 450 else bif aJ n 2 then 450 else 0)) rfl (h0.k0.ks ab);have al:=ab.finBox (G:=(fun n=>bif aJ n 1 then 450 else bif aJ n 2 then 450 else 0)) ah (by decide) (by decide) (show (fun n=>bif aJ n 1 then 450 else bif aJ n 2 then 450 else 0) 2=450 from rfl);refine ⟨rfl,Vh w0.heap.size col ai (fun n=>bif aJ n 1 then 450 else bif aJ n 2 then 450 else 0),_,rfl,ab.fin (fun n=>bif aJ n 1 then 450 else bif aJ n 2 then 450 else 0),209,[.pointer (some ⟨af,0,none⟩),.pointer (some ⟨ag,0,none⟩)],rfl,call209,?_⟩;intro col9 w9 am hk9;exact Z4u N col9 w9 af a0 aa ac (h0f.itk am hk9 rfl) (ak.itk am hk9 rfl) ag ad (al.itk am hk9 rfl) r hm
 refine go ?_;refine lW ah.at1<|go ?_;refine Zm hm (fun hb hm=>?_) fun hb hm=>?_
 ·cases hm
 refine Yj ?_;exact ⟨rfl,_,hm,ab,ae,ah⟩
def Ze6 (N:Nat):Option R1:=
  (Zkm N 1 1).bind fun aa=>some ((aa.1.1.1,aa.1.1.2),aa.1.2)
theorem Zp2 {N:Nat} {col:Zd} {w0:World} {r:R1} (c1 c2:Nat) (hm:Ze6 N=some r):
    Calls prog 94 #[] w0 (Qg 45 c1 c2 col w0 r):=by
 refine We (m:=8) func94 rfl rfl rfl ?_;rw [Ze6.eq_1] at hm;have ab:=St.start col w0;refine go ?_;refine Xx (col:=(Zf col)) #[.bool false,(nI),(nI)] 1 zeroValue42 ?_;intro ay az an ao ae;refine go ?_;obtain ⟨aa,ap,hm⟩:=bZ hm;refine Zk (Z2u (col:=an) 2 3 ap) fun _ a0 ⟨aq,ai,aj,ak,al,e',am,af,ag⟩=>⟨_,e',?_⟩;refine lM (.tuple #[(.agg #[.bool aa.1.1.1,.slice ai aa.1.1.2.length aj,.slice ak aa.1.2.length al]),.int .i64 aa.2])<|lV (.agg #[.bool aa.1.1.1,.slice ai aa.1.1.2.length aj,.slice ak aa.1.2.length al]) (Xu rfl rfl)<|lV (.int .i64 aa.2) (Xu rfl rfl)<|Xx (col:=aq) #[.bool false,(nI),(nI)] 4 zeroValue42 ?_;intro a1 a2 a3 ac ar;refine Xf ar ?_;intro a4 ad au av;refine go ?_;refine lV _ (Z9 isAgg42 sizeOf42 av) ?_;refine Xf (((ae.gr am).gr ac).kp ad) ?_;intro a5 ah aw ax;refine go ?_;cases hm;replace ab:=((((ab.grow ao).grow am).grow ac).kp ad au).kp ah aw;exact ⟨rfl,_,ra ax.atN,_,_,_,_,_,rfl,ab.fin (cm [(2,c1),(3,c2)]),ab.fo (((af.gr ac).kp ad).kp ah),ab.fo (((ag.gr ac).kp ad).kp ah)⟩
def Zq7 (aa:Bool):Option Bool:=
  some aa
def Ze8 (N:Nat):List R6→Bool→Option Bool
  | [],ac=>some true
  | ad :: ae,ac=>(Zeu N ad).bind fun aa=>(Ze6 N).bind fun ab=>(Zhu N ((aa.1.1,aa.1.2),aa.2) ((ab.1.1,ab.1.2),ab.2)).bind fun af=>if (!decide (af=0))=true then (Zq7 false) else ((Ze8 N ae) ac)
def Zkt (N:Nat) (aa:R6) (ab:Int):Option Bool:=
  (Zof N aa ab).bind fun ac=>Ze8 N ac false
theorem Z3e {N ah:Nat} {a0:Option Addr} {col:Zd} {w0:World} {am:R6} {ao:Int} {r:Bool} (hm:Zkt N am ao=some r) (h0:Sl rQ col w0 a0 ah am):
    Calls prog 137 #[.slice a0 am.length ah,.int .i64 ao] w0 (Wx w0 r):=by
 refine Ztv (m:=15) (args:=[.slice a0 am.length ah,.int .i64 ao]) func137 rfl rfl rfl ?_;rw [Zkt.eq_1] at hm;have aa:=St.start col w0;have hmk:Yp 499 (Zf col) w0 []:=.nil;refine go ?_;refine Zep (col:=(Zf col)) (v:=(.bool false)) 1 rfl zeroValue4 ?_;intro ai a4 a5 ax ab;replace ab:Zj 4 1 a5 a4 ai #[.bool false]:=ab;refine go ?_;obtain ⟨a6,a7,hm⟩:=bZ hm;replace aa:=aa.grow ax;refine Zk (Z4t a7 (h0.k0.ks aa)) ?_;rintro _ bq ⟨a8,br,rfl,ap,a9⟩;refine ⟨_,rfl,go ?_⟩;replace hmk:=(hmk.gr ax).gr ap;replace ab:=ab.gr ap;replace aa:=aa.grow ap;refine Zmm (psl:=[9]) (arr:=(fun (y:List R1) (col:Zd) (w:World) (args:List Value)=>∃ a0 ah,args=[.slice a0 y.length ah]∧Sl rQ col w a0 ah y)) (ys:=a6) (col:=a8) 498 rfl a9 rfl hmk rfl rfl (by rintro _ _ _ _ ⟨_,_,rfl,_⟩;rfl) (fun ys_ ad ae=>∃ (ac:Bool),Ze8 N ys_ ac=some r∧St w0 (Zf col) ad ae∧Zj 4 1 ad ae ai #[.bool ac]) (fun c_ ad ae=>(c_= .ret∧∃ (ac:Bool),Zq7 ac=some r∧St w0 (Zf col) ad ae∧Zj 4 1 ad ae ai #[.bool ac])) ?_ ?_ ⟨false,hm,aa,ab⟩ ?_ ?_ ?_
 ·intro ys_ ad ae col2_ w2_ hJ hk;obtain ⟨ac,hm,aa,ab⟩:=hJ;exact ⟨ac,hm,aa.kpp hk rfl rfl,ab.kpp hk rfl⟩
 ·intro c_ ad ae col2_ w2_ hX hk;obtain ⟨rfl,hX⟩:=hX;obtain ⟨ac,hm,aa,ab⟩:=hX;exact ⟨rfl,⟨ac,hm,aa.kpp hk rfl rfl,ab.kpp hk rfl⟩⟩
 ·intro bs bt bu bv bw ad ae args hJ hrec hmk harr;obtain ⟨ac,hm,aa,ab⟩:=hJ;rw [Ze8.eq_2] at hm;have hki:=Z5.refl (pC 1) ad ae;obtain ⟨bx,bz,rfl,aq⟩:=harr;refine go ?_;refine ⟨_,hrec,?_⟩;intro b0 b1 aj ay hrec2;have hrec:=hrec2;refine go ?_;obtain ⟨b2,ba,hm⟩:=bZ hm;refine Zk (Zs2 2 3 ba (aq.kp aj)) fun _ b3 ⟨bb,b4,b5,b6,b7,e',ak,ar,au⟩=>⟨_,e',?_⟩;obtain ⟨b8,bc,hm⟩:=bZ hm;refine lc rfl rfl (Zg4 call94) (Zp2 (col:=bb) 4 5 bc:) fun _ bd ⟨av,b9,ca,cb,cc,e',af,be,bf⟩=>⟨_,e',?_⟩;obtain ⟨cd,bg,hm⟩:=bZ hm;refine Zk (Zs1 bg (((((ar.gr af).toSlF (Zh.int .u32)).froz 3).froz 4).froz 5) (((((au.gr af).froz 2).toSlF (Zh.int .u32)).froz 4).froz 5) ((((be.froz 2).froz 3).toSlF (Zh.int .u32)).froz 5) ((((bf.froz 2).froz 3).froz 4).toSlF (Zh.int .u32))) fun _ bh ⟨e',ag⟩=>⟨_,e',?_⟩;replace ag:Zn av bd av bh:=.of_below ag;refine go ?_;replace ab:=(((ab.kp aj).gr ak).gr af).gr ag;replace hmk:=(((hmk.kp aj).gr ak).gr af).gr ag;replace hki:=(((hki.kp aj ay rfl).gr ak).gr af).gr ag;replace aa:=(((aa.kp aj ay).grow ak).grow af).grow ag;replace hrec:=((hrec.gr ak).gr af).gr ag;refine Zm hm (fun hb hm=>go ?_) fun hb hm=>?_
  ·refine Qu (v:=(.bool false)) ab sizeOf4 rfl rfl (by intro u hu;simp only [Value.cells,aP,bA,or_false] at hu;subst hu;rfl) rfl rfl ?_;intro bi an az aw;replace aw:Zj 4 1 av bi ai #[.bool false]:=aw;refine go ?_;replace hrec:=hrec.kp an;replace hmk:=hmk.kp an;replace hki:=hki.kp an az rfl;replace aa:=aa.kp an az;exact ⟨_,hki,⟨rfl,⟨false,hm,aa,aw⟩⟩,hrec,hmk⟩
  refine Yj ?_;exact ⟨_,hki,⟨ac,hm,aa,ab⟩,hrec,hmk⟩
 ·intro bj ad ae hJ hmk;obtain ⟨ac,hm,aa,ab⟩:=hJ;rw [Ze8.eq_1] at hm;refine go ?_;refine Qu (v:=(.bool true)) ab sizeOf4 rfl rfl (by intro u hu;simp only [Value.cells,aP,bA,or_false] at hu;subst hu;rfl) rfl rfl ?_;intro bk a1 bm al;replace al:Zj 4 1 ad bk ai #[.bool true]:=al;refine go ?_;cases hm;replace hmk:=hmk.kp a1;refine ⟨_,(bj :: []),rfl,hmk,?_⟩;intro ce a2 bn;replace aa:=(aa.kp a1 bm).kp a2 bn;exact ⟨_,Zzy rfl rfl isAgg4 rfl (al.kp a2).at1,rfl,aa.below⟩
 intro c_ bo ad ae hX hmk;obtain ⟨rfl,hX⟩:=hX;obtain ⟨ac,hm,aa,ab⟩:=hX;rw [Zq7.eq_1] at hm;refine Wh ?_;cases hm;refine ⟨_,(bo :: []),rfl,hmk,?_⟩;intro cf a3 bp;exact ⟨_,Zzy rfl rfl isAgg4 rfl (ab.kp a3).at1,rfl,(aa.kp a3 bp).below⟩
def Zh8 (aa:Bool):Option Bool:=
  some aa
def Zh7 (N:Nat) (aa:R1):Option Bool:=
  (Zhw N ((aa.1.1,aa.1.2),aa.2)).bind fun ac=>if (decide (ac<0))=true then (Zh8 true) else ((Ze6 N).bind fun ab=>(Zhu N ((aa.1.1,aa.1.2),aa.2) ((ab.1.1,ab.1.2),ab.2)).bind fun ad=>Zh8 (decide (0<ad)))
theorem Z3b {N al am:Nat} {an ao:Option Addr} {col:Zd} {w0:World} {ac:R1} {r:Bool} (hm:Zh7 N ac=some r) (ah:Sl rU col w0 an al ac.1.2) (ai:Sl rU col w0 ao am ac.2):
    Calls prog 136 #[(.agg #[.bool ac.1.1,.slice an ac.1.2.length al,.slice ao ac.2.length am])] w0 (Wx w0 r):=by
 refine Z6 2 (m:=12) func136 rfl rfl rfl rfl rfl ?_;rw [Zh7.eq_1] at hm;have aa:=St.start col w0;refine go ?_;refine Xl (col:=(Zf col)) 1 rfl ?_;intro a6 a7 ab ay aj;refine Qt rfl<|Zl<|Z0 ?_;replace ah:=ah.k0;replace ai:=ai.k0;replace aa:=aa.grow ay;refine Wp.cutK [1000000] (fun f av=>∃ aw ap,Zh8 ap=some r∧St w0 (Zf col) aw av∧[2].map f=[.bool ap]) ?_ ?_
 ·intro f av hJ;obtain ⟨aw,ap,hm,aa,hs⟩:=hJ;rw [Zh8.eq_1] at hm;refine .lL [2] hs<|Wh ?_;cases hm;exact ⟨rfl,rfl,aa.below⟩
 refine Wc (col:=ab) [(0,0),(1,3),(2,1),(3,1),(4,0),(5,3),(6,3),(7,1),(8,1),(9,1)] (by kernel_rfl) (by kernel_rfl)<|xv rfl rfl (fun _ hC=>Z9 isAgg42 sizeOf42 (aj.gr (hC.bl ab))) ?_;refine xe rfl rfl ?_;intro az hC0;have hC:=hC0.bl ab;obtain ⟨ae,a0,hm⟩:=bZ hm;replace aa:=aa.grow hC;refine Zk (Z2v a0 (ah.ks aa) (ai.ks aa)) fun _ a1 ⟨e',ag⟩=>⟨_,e',?_⟩;replace ag:Zn ab az ab a1:=.of_below ag;refine Zl<|Xt ab hC0 ag<|xu rfl rfl (fun _=>Zo4 _ _ rfl rfl) ?_;refine xu rfl rfl (fun _=>Zy7 rfl) ?_;replace aj:=(aj.gr hC).gr ag;replace aa:=aa.grow ag;refine Xn hm (fun ad hm=>?_) fun ad hm=>?_
 ·refine Zei (b:=decide (ae<0)) 6 rfl rfl rfl rfl rfl (by rw [ad];rfl)<|Zei (b:=decide (ae<0)) 6 rfl rfl rfl rfl rfl (by rw [ad];rfl)<|Zei (b:=decide (ae<0)) 6 rfl rfl rfl rfl rfl (by rw [ad];rfl)<|Zei (b:=decide (ae<0)) 6 rfl rfl rfl rfl rfl (by rw [ad];rfl)<|xu (v:=(.bool true)) rfl rfl (fun _=>Zw (congrArg Value.bool ad) rfl) ?_;refine xu rfl rfl (fun _=>Zo0 rfl) ?_;refine Y0 ?_;intro a8 hC;replace hC:=hC.bl ab;replace aa:=aa.grow hC;exact ⟨rfl,_,_,hm,aa,rfl⟩
 refine Z2c (v:=(.agg #[.bool ac.1.1,.slice an ac.1.2.length al,.slice ao ac.2.length am])) (b:=decide (ae<0)) 6 rfl rfl rfl rfl rfl (by rw [ad];rfl) (fun _ hC=>Ym isAgg42 sizeOf42 rfl rfl (aj.atN.gr (hC.bl ab))) ?_;refine xe rfl rfl ?_;intro a9 hC0;have hC:=hC0.bl ab;refine go ?_;obtain ⟨ba,a2,hm⟩:=bZ hm;refine lc rfl rfl (Zg4 call94) (Zp2 (col:=ab) 6 7 a2:) fun _ bb ⟨af,bc,bd,be,bf,e',ax,aq,ar⟩=>⟨_,e',?_⟩;refine Zl<|Xt af hC0 ax<|xe rfl rfl ?_;intro a3 hC0;replace aa:=(aa.grow hC).grow ax;have hC:=hC0.bl af;refine go ?_;obtain ⟨au,a4,hm⟩:=bZ hm;replace aa:=aa.grow hC;refine Zk (Zs1 a4 (((ah.ks aa).froz 6).froz 7) (((ai.ks aa).froz 6).froz 7) (((aq.gr hC).toSlF (Zh.int .u32)).froz 7) (((ar.gr hC).froz 6).toSlF (Zh.int .u32))) fun _ a5 ⟨e',ak⟩=>⟨_,e',?_⟩;replace ak:Zn af a3 af a5:=.of_below ak;refine Zl<|Xt af hC0 ak<|Z2b (v:=(.bool (decide (0<au)))) (b:=decide (ae<0)) 6 rfl rfl rfl rfl rfl (by rw [ad];rfl) (fun _=>Zo2 au 0 rfl rfl) ?_;refine xu (v:=(.bool (decide (0<au)))) rfl rfl (fun _=>Xk (congrArg Value.bool ad) rfl) ?_;refine xu rfl rfl (fun _=>Zo0 rfl) ?_;refine Y0 ?_;intro bg hC;exact ⟨rfl,_,_,hm,(aa.grow ak).grow (hC.bl af),rfl⟩
def Zg0 (N:Nat):List R1→Nat→Option Int
  | [],aa=>some (-1)
  | ab :: ac,aa=>(Zh7 N ((ab.1.1,ab.1.2),ab.2)).bind fun ad=>if ad=true then (some (aa:Int)) else ((Zg0 N ac) (aa+1))
def Zok (N:Nat) (aa:R6):Option Int:=
  Zg0 N aa 0
theorem Z4y {N aj:Nat} {a0:Option Addr} {col:Zd} {w0:World} {ab:R6} {r:Int} (hm:Zok N ab=some r) (h0:Sl rQ col w0 a0 aj ab):
    Calls prog 172 #[.slice a0 ab.length aj,(.func (.func 136) #[] #[])] w0 (W5 w0 r):=by
 refine Z6 4 (m:=19) func172 rfl rfl rfl rfl rfl ?_;rw [Zok.eq_1] at hm;have aa:=St.start col w0;refine go ?_;refine Zs [0,1,7,1000000] (fun n f af=>∃ ae ac ad,n=ad.length∧ab.drop ac=ad∧Zg0 N ad ac=some r∧St w0 (Zf col) ae af∧[8].map f=[.int .i64 ac]) ab.length ⟨_,0,_,rfl,rfl,hm,aa,rfl⟩ ?_;clear hm;intro n f af hI;obtain ⟨ae,ac,ad,hn,hl,hm,aa,hs⟩:=hI;subst hn;refine .lL [8] hs ?_;replace h0:=h0.k0
 cases ad with
 | nil=>
  have hk:¬ ((ac:Int)<(ab.length:Int)):=by have:=aM.1 hl;omega
  have hkb:=decide_eq_false hk;rw [Zg0.eq_1] at hm;refine go ?_;refine Yc (congrArg Value.bool hkb)<|go ?_;cases hm;exact ⟨rfl,rfl,aa.below⟩
 | cons ag ak=>
  obtain ⟨ah,al,am⟩:=Yu hl;have hk:(ac:Int)<(ab.length:Int):=by omega
  have hkb:=decide_eq_true hk;rw [Zg0.eq_2] at hm;refine go ?_;refine Yd (congrArg Value.bool hkb)<|go ?_;refine lM (.func (.func 136) #[] #[])<|go ?_;refine lI ah ((h0.ks aa).addr ah) ?_;obtain ⟨_,an,ao⟩:=(h0.ks aa).atN ah;obtain ⟨_,_,rfl,ap,aq⟩:=Yb an;obtain ⟨_,_,rfl,ar,au⟩:=Yb ap;obtain ⟨rfl,_⟩:=ar;obtain ⟨⟨av,aw,rfl,ax⟩,_⟩:=au;obtain ⟨⟨ay,az,rfl,a1⟩,_⟩:=aq;refine lV (.agg #[.bool ag.1.1,.slice av ag.1.2.length aw,.slice ay ag.2.length az]) (Ym isAgg42 sizeOf42 rfl rfl ao) ?_;obtain ⟨a4,a2,hm⟩:=bZ hm;refine lc rfl rfl (Z8r call136 rfl rfl) (Z3b a2 ax a1:) fun _ a3 ⟨e',ai⟩=>⟨_,e',?_⟩;replace ai:Zn ae af ae a3:=.of_below ai;refine Zl ?_;replace aa:=aa.grow ai;refine Zm hm (fun hb hm=>go ?_) fun hb hm=>go ?_
  ·cases hm;exact ⟨rfl,rfl,aa.below⟩
  exact ⟨ak.length,by simp,rfl,⟨_,_,_,rfl,al,hm,aa,(Y2 (congrArg (Value.int .i64) (Yx (aK am (h0.ks aa).1.1))) rfl)⟩⟩
def Zoj (N:Nat) (aa:R6):Option Bool:=
  (Zok N aa).bind fun ab=>some (decide (0≤ab))
theorem Z4w {N ad:Nat} {a0:Option Addr} {col:Zd} {w0:World} {ab:R6} {r:Bool} (hm:Zoj N ab=some r) (h0:Sl rQ col w0 a0 ad ab):
    Calls prog 134 #[.slice a0 ab.length ad,(.func (.func 136) #[] #[])] w0 (Wx w0 r):=by
 refine Z6 4 (m:=9) func134 rfl rfl rfl rfl rfl ?_;rw [Zoj.eq_1] at hm;have aa:=St.start col w0;refine go ?_;refine lM (.func (.func 136) #[] #[]) ?_;obtain ⟨ag,ae,hm⟩:=bZ hm;refine Zk (Z4y ae (h0.k0.ks aa)) fun _ af ⟨e',ac⟩=>⟨_,e',?_⟩;replace ac:Zn (Zf col) w0 (Zf col) af:=.of_below ac;refine go ?_;cases hm;exact ⟨rfl,rfl,(aa.grow ac).below⟩
def Ze7 (ab:R0):List Int→Int→Option Int
  | [],aa=>some aa
  | ad :: ae,aa=>(Zi ab.2.2.1 ad).bind fun ac=>(Ze7 ab ae) (if 1099511627776<(i64.wrap (aa * (ac.length:Int))) then 1099511627776 else (i64.wrap (aa * (ac.length:Int))))
def Zh9 (aa:R0) (ab:Int):Option Int:=
  (Zi aa.2.2.2.1 ab).bind fun ac=>Ze7 aa ac 1
theorem Z3c {am an ao ap:Nat} {aq ar au av:Option Addr} {col:Zd} {w0:World} {aa:R0} {a0 r:Int} (hm:Zh9 aa a0=some r) (bc:Sl Za.str col w0 aq am aa.2.1) (ai:Sl rV col w0 ar an aa.2.2.1) (aj:Sl rP col w0 au ao aa.2.2.2.1) (bd:Sl (Za.slice rQ) col w0 av ap aa.2.2.2.2):
    Calls prog 133 #[(.agg #[.string aa.1,.slice aq aa.2.1.length am,.slice ar aa.2.2.1.length an,.slice au aa.2.2.2.1.length ao,.slice av aa.2.2.2.2.length ap]),.int .i64 a0] w0 (W5 w0 r):=by
 refine Z6 4 (m:=29) func133 rfl rfl rfl rfl rfl ?_;rw [Zh9.eq_1] at hm;have ab:=St.start col w0;refine go ?_;refine Xl (col:=(Zf col)) 1 rfl ?_;intro a1 be bf a2 ae;refine go ?_;refine Z1 ae<|Xr rfl ?_;obtain ⟨af,aw,hm⟩:=bZ hm;replace aj:=aj.k0;replace ab:=ab.grow a2;refine lI aw ((aj.ks ab).addr aw) ?_;obtain ⟨_,a3,a4⟩:=(aj.ks ab).atN aw;obtain ⟨⟨a5,a6,rfl,ac⟩,_⟩:=a3;refine lW a4.one<|go ?_;refine Zs [12,13,2,1000000] (fun n f ak=>∃ al ag ad ah,n=ah.length∧af.drop ag=ah∧Ze7 aa ah ad=some r∧St w0 (Zf col) al ak∧Sl rI al ak a5 a6 af∧Zj 27 1 al ak a1 #[.string aa.1,.slice aq aa.2.1.length am,.slice ar aa.2.2.1.length an,.slice au aa.2.2.2.1.length ao,.slice av aa.2.2.2.2.length ap]∧[14,5].map f=[.int .i64 ag,.int .i64 ad]) af.length ⟨_,0,1,_,rfl,rfl,hm,ab,ac,ae,rfl⟩ ?_;clear hm;intro n f ak hI;obtain ⟨al,ag,ad,ah,hn,hl,hm,ab,ac,ae,hs⟩:=hI;subst hn;refine .lL [14,5] hs ?_;replace ai:=ai.k0
 cases ah with
 | nil=>
  have hk:¬ ((ag:Int)<(af.length:Int)):=by have:=aM.1 hl;omega
  have hkb:=decide_eq_false hk;rw [Ze7.eq_1] at hm;refine go ?_;refine Yc (congrArg Value.bool hkb)<|go ?_;cases hm;exact ⟨rfl,rfl,ab.below⟩
 | cons bg a7=>
  obtain ⟨ax,a8,a9⟩:=Yu hl;have hk:(ag:Int)<(af.length:Int):=by omega
  have hkb:=decide_eq_true hk;rw [Ze7.eq_2] at hm;refine go ?_;refine Yd (congrArg Value.bool hkb)<|go ?_;refine lI ax (ac.addr ax)<|lW (ac.atInt ax) ?_;refine go ?_;refine Z1 ae<|Xr rfl ?_;obtain ⟨ay,az,hm⟩:=bZ hm;refine lI az ((ai.ks ab).addr az) ?_;obtain ⟨_,ba,bb⟩:=(ai.ks ab).atN az;obtain ⟨⟨bh,bi,rfl,bj⟩,_⟩:=ba;refine lW bb.one<|go ?_;refine lV (.int .i64 (if 1099511627776<(i64.wrap (ad * (ay.length:Int))) then 1099511627776 else (i64.wrap (ad * (ay.length:Int))))) (Zrx (i64.wrap (ad * (ay.length:Int))) 1099511627776 rfl rfl)<|go ?_;exact ⟨a7.length,by simp,rfl,⟨_,_,_,_,rfl,a8,hm,ab,ac,ae,(Y2 (congrArg (Value.int .i64) (Yx (aK a9 ac.1.1))) rfl)⟩⟩
def Zc8 (N:Nat) (ab:R0):List R6→Nat→Option Int
  | [],aa=>some 0
  | ac :: ad,aa=>(Zi ab.2.2.1 (aa:Int)).bind fun ae=>(Zh5 N ac).bind fun af=>(Zkt N af (ae.length:Int)).bind fun ag=>if (!ag)=true then (some 46) else ((Zc8 N ab ad) (aa+1))
def Zbp (N:Nat) (aa:R0):List R6→Option Int
  | []=>Zc8 N aa aa.2.2.2.2 0
  | ab :: ac=>(Zh5 N ab).bind fun ad=>(Zoj N ad).bind fun ae=>if ae=true then (some 45) else (Zbp N aa ac)
def Zbo (N:Nat) (aa:R0):List R6→Nat→Option Int
  | [],ab=>Zbp N aa aa.2.2.2.2
  | ae :: af,ab=>(Zh9 (aa.1,aa.2.1,aa.2.2.1,aa.2.2.2.1,aa.2.2.2.2) (ab:Int)).bind fun ac=>(Zi aa.2.2.1 (ab:Int)).bind fun ad=>if (decide (65536<(i64.wrap (ac * (ad.length:Int)))))=true then (some 4) else (if (!decide ((i64.wrap (ac * (ad.length:Int)))=(ae.length:Int)))=true then (some 60) else ((Zbo N aa af) (ab+1)))
def Zbn (N:Nat) (aa:R0) (ad:Bool):Option Int:=
  if ad=true then (some 60) else (if (decide (1024<(aa.2.1.length:Int)))=true then (some 4) else ((Ze5 (aa.1,aa.2.1,aa.2.2.1,aa.2.2.2.1,aa.2.2.2.2)).bind fun ab=>if (!decide (ab=0))=true then (some ab) else ((Qy N aa.2.2.2.1).bind fun ac=>if (!decide (ac=0))=true then (some ac) else (Zbo N aa aa.2.2.2.2 0))))
def Sb (N:Nat) (aa:R0):Option Int:=
  if (!decide ((aa.2.2.1.length:Int)=(aa.2.1.length:Int)))=true then (Zbn N aa true) else (if (!decide ((aa.2.2.2.1.length:Int)=(aa.2.1.length:Int)))=true then (Zbn N aa true) else (Zbn N aa (!decide ((aa.2.2.2.2.length:Int)=(aa.2.1.length:Int)))))
theorem Zs5 {N aj ak al am:Nat} {an ao ap aq:Option Addr} {col:Zd} {w0:World} {ab:R0} {r:Int} (hm:Sb N ab=some r) (a2:Sl Za.str col w0 an aj ab.2.1) (ag:Sl rV col w0 ao ak ab.2.2.1) (aw:Sl rP col w0 ap al ab.2.2.2.1) (ad:Sl (Za.slice rQ) col w0 aq am ab.2.2.2.2):
    Calls prog 89 #[(.agg #[.string ab.1,.slice an ab.2.1.length aj,.slice ao ab.2.2.1.length ak,.slice ap ab.2.2.2.1.length al,.slice aq ab.2.2.2.2.length am])] w0 (W5 w0 r):=by
 refine Z6 2 (m:=103) func89 rfl rfl rfl rfl rfl ?_;rw [Sb.eq_1] at hm;have aa:=St.start col w0;refine go ?_;refine Xl (col:=(Zf col)) 1 rfl ?_;intro a3 cp cq bo ac;refine go ?_;refine Z1 ac<|lV _ (Uz underlying22 rfl)<|Y4 rfl<|Zl<|Z0<|Z0 ?_;replace a2:=a2.k0;replace ag:=ag.k0;replace aw:=aw.k0;replace ad:=ad.k0;replace aa:=aa.grow bo;refine Wp.cutK [1,3,1000000] (fun f a4=>∃ ah a9,Zbn N ab a9=some r∧St w0 (Zf col) ah a4∧Zj 27 1 ah a4 a3 #[.string ab.1,.slice an ab.2.1.length aj,.slice ao ab.2.2.1.length ak,.slice ap ab.2.2.2.1.length al,.slice aq ab.2.2.2.2.length am]∧[34].map f=[.bool a9]) ?_ ?_
 ·intro f a4 hJ;obtain ⟨ah,a9,hm,aa,ac,hs⟩:=hJ;rw [Zbn.eq_1] at hm;refine .lL [34] hs ?_;refine Zm hm (fun hb hm=>go ?_) fun hb hm=>go ?_
  ·cases hm;exact ⟨rfl,rfl,aa.below⟩
  refine Zm hm (fun hb hm=>go ?_) fun hb hm=>go ?_
  ·cases hm;exact ⟨rfl,rfl,aa.below⟩
  refine lV _ (Z9 isAgg27 sizeOf27 ac) ?_;obtain ⟨cr,bp,hm⟩:=bZ hm;refine Zk (Z3a bp (a2.ks aa) (ag.ks aa) (aw.ks aa) (ad.ks aa)) fun _ bk ⟨e',a5⟩=>⟨_,e',?_⟩;replace a5:Zn ah a4 ah bk:=.of_below a5;refine go ?_;replace ac:=ac.gr a5;replace aa:=aa.grow a5;refine Zm hm (fun hb hm=>go ?_) fun hb hm=>go ?_
  ·cases hm;exact ⟨rfl,rfl,aa.below⟩
  refine Z1 ac ?_;obtain ⟨cs,bq,hm⟩:=bZ hm;refine Zk (Z2m bq (aw.ks aa)) fun _ br ⟨e',a6⟩=>⟨_,e',?_⟩;replace a6:Zn ah bk ah br:=.of_below a6;refine go ?_;replace ac:=ac.gr a6;replace aa:=aa.grow a6;refine Zm hm (fun hb hm=>go ?_) fun hb hm=>go ?_
  ·cases hm;exact ⟨rfl,rfl,aa.below⟩
  refine Z1 ac ?_;refine go ?_;refine Zs [1,49,50,1000000] (fun n f ba=>∃ ae ar ax,n=ax.length∧ab.2.2.2.2.drop ar=ax∧Zbo N ab ax ar=some r∧St w0 (Zf col) ae ba∧Zj 27 1 ae ba a3 #[.string ab.1,.slice an ab.2.1.length aj,.slice ao ab.2.2.1.length ak,.slice ap ab.2.2.2.1.length al,.slice aq ab.2.2.2.2.length am]∧[51].map f=[.int .i64 ar]) ab.2.2.2.2.length ⟨_,0,_,rfl,rfl,hm,aa,ac,rfl⟩ ?_;clear hm;intro n f ba hI;obtain ⟨ae,ar,ax,hn,hl,hm,aa,ac,hs⟩:=hI;subst hn;refine .lL [51] hs ?_
  cases ax with
  | nil=>
   have hk:¬ ((ar:Int)<(ab.2.2.2.2.length:Int)):=by have:=aM.1 hl;omega
   have hkb:=decide_eq_false hk;rw [Zbo.eq_1] at hm;refine go ?_;refine Yc (congrArg Value.bool hkb)<|go ?_;refine Z1 ac ?_;refine go ?_;refine Zs [1,74,75,1000000] (fun n f bb=>∃ bc ay az,n=az.length∧ab.2.2.2.2.drop ay=az∧Zbp N ab az=some r∧St w0 (Zf col) bc bb∧Zj 27 1 bc bb a3 #[.string ab.1,.slice an ab.2.1.length aj,.slice ao ab.2.2.1.length ak,.slice ap ab.2.2.2.1.length al,.slice aq ab.2.2.2.2.length am]∧[76].map f=[.int .i64 ay]) ab.2.2.2.2.length ⟨_,0,_,rfl,rfl,hm,aa,ac,rfl⟩ ?_;clear hm;intro n f bb hI;obtain ⟨bc,ay,az,hn,hl,hm,aa,ac,hs⟩:=hI;subst hn;refine .lL [76] hs ?_
   cases az with
   | nil=>
    have hk:¬ ((ay:Int)<(ab.2.2.2.2.length:Int)):=by have:=aM.1 hl;omega
    have hkb:=decide_eq_false hk;rw [Zbp.eq_1] at hm;refine go ?_;refine Yc (congrArg Value.bool hkb)<|go ?_;refine Z1 ac ?_;refine go ?_;refine Zs [1,85,86,1000000] (fun n f bd=>∃ ai au a0,n=a0.length∧ab.2.2.2.2.drop au=a0∧Zc8 N ab a0 au=some r∧St w0 (Zf col) ai bd∧Zj 27 1 ai bd a3 #[.string ab.1,.slice an ab.2.1.length aj,.slice ao ab.2.2.1.length ak,.slice ap ab.2.2.2.1.length al,.slice aq ab.2.2.2.2.length am]∧[87].map f=[.int .i64 au]) ab.2.2.2.2.length ⟨_,0,_,rfl,rfl,hm,aa,ac,rfl⟩ ?_;clear hm;intro n f bd hI;obtain ⟨ai,au,a0,hn,hl,hm,aa,ac,hs⟩:=hI;subst hn;refine .lL [87] hs ?_
    cases a0 with
    | nil=>
     have hk:¬ ((au:Int)<(ab.2.2.2.2.length:Int)):=by have:=aM.1 hl;omega
     have hkb:=decide_eq_false hk;rw [Zc8.eq_1] at hm;refine go ?_;refine Yc (congrArg Value.bool hkb)<|go ?_;cases hm;exact ⟨rfl,rfl,aa.below⟩
    | cons ct bs=>
     obtain ⟨af,bt,bu⟩:=Yu hl;have hk:(au:Int)<(ab.2.2.2.2.length:Int):=by omega
     have hkb:=decide_eq_true hk;rw [Zc8.eq_2] at hm;refine go ?_;refine Yd (congrArg Value.bool hkb)<|go ?_;refine lI af ((ad.ks aa).addr af) ?_;obtain ⟨_,bv,bw⟩:=(ad.ks aa).atN af;obtain ⟨⟨cu,cv,rfl,be⟩,_⟩:=bv;refine lW bw.one<|go ?_;refine Wc (col:=ai) [(0,1),(2,1),(3,0),(4,1),(5,1),(6,0),(7,1),(1,3),(8,3),(9,1)] (by kernel_rfl) (by kernel_rfl)<|xu rfl rfl (fun _=>Va rfl) ?_;refine xF ⟨_,_,rfl⟩ ?_;refine xW (fun _ hC=>((ac.atN).nth (q:=2) rfl).gr (hC.bl ai)) ?_;refine xu rfl rfl (fun _=>Yz rfl) ?_;obtain ⟨cw,a7,hm⟩:=bZ hm;refine xu rfl rfl (fun _=>Yv underlying23 sizeOf22 rfl rfl (Xe a7).1 (Xe a7).2.1 ((ag.ks aa).addr a7)) ?_;obtain ⟨_,bx,bz⟩:=(ag.ks aa).atN a7;obtain ⟨⟨cx,cy,rfl,cz⟩,_⟩:=bx;refine xW (fun _ hC=>bz.one.gr (hC.bl ai)) ?_;refine xu rfl rfl (fun _=>Uz underlying22 rfl) ?_;refine xe rfl rfl ?_;intro c0 hC0;have hC:=hC0.bl ai;obtain ⟨c1,b0,hm⟩:=bZ hm;refine Zk (Zs7 2 b0 (be.gr hC)) fun _ c2 ⟨av,c3,c4,e',bf,bg⟩=>⟨_,e',?_⟩;refine Zl<|Xt av hC0 bf<|xe rfl rfl ?_;intro b1 hC0;replace ac:=(ac.gr hC).gr bf;replace aa:=(aa.grow hC).grow bf;have hC:=hC0.bl av;obtain ⟨c5,b2,hm⟩:=bZ hm;refine Zk (Z3e b2 ((bg.gr hC).toSlF (Zh.pair (Zh.pair Zh.bool Zh.slice) Zh.slice))) fun _ b3 ⟨e',a1⟩=>⟨_,e',?_⟩;replace a1:Zn av b1 av b3:=.of_below a1;refine Zl<|Xt av hC0 a1<|xu rfl rfl (fun _=>Zmd _ rfl) ?_;refine Y0 ?_;replace ac:=(ac.gr hC).gr a1;replace aa:=(aa.grow hC).grow a1;intro c6 hC;replace hC:=hC.bl av;replace ac:=ac.gr hC;replace aa:=aa.grow hC;refine Zm hm (fun hb hm=>go ?_) fun hb hm=>go ?_
     ·cases hm;exact ⟨rfl,rfl,aa.below⟩
     exact ⟨bs.length,by simp,rfl,⟨_,_,_,rfl,bt,hm,aa,ac,(Y2 (congrArg (Value.int .i64) (Yx (aK bu (ad.ks aa).1.1))) rfl)⟩⟩
   | cons c7 b4=>
    obtain ⟨af,b5,b6⟩:=Yu hl;have hk:(ay:Int)<(ab.2.2.2.2.length:Int):=by omega
    have hkb:=decide_eq_true hk;rw [Zbp.eq_2] at hm;refine go ?_;refine Yd (congrArg Value.bool hkb)<|go ?_;refine lI af ((ad.ks aa).addr af) ?_;obtain ⟨_,b7,b8⟩:=(ad.ks aa).atN af;obtain ⟨⟨c8,c9,rfl,b9⟩,_⟩:=b7;refine lW b8.one<|go ?_;obtain ⟨da,ca,hm⟩:=bZ hm;refine Zk (Zs7 3 ca b9) fun _ cb ⟨bm,db,dc,e',bn,cc⟩=>⟨_,e',?_⟩;obtain ⟨dd,cd,hm⟩:=bZ hm;refine Zk (Z4w cd (cc.toSlF (Zh.pair (Zh.pair Zh.bool Zh.slice) Zh.slice))) fun _ ce ⟨e',a8⟩=>⟨_,e',?_⟩;replace a8:Zn bm cb bm ce:=.of_below a8;refine Zl ?_;replace ac:=(ac.gr bn).gr a8;replace aa:=(aa.grow bn).grow a8;refine Zm hm (fun hb hm=>go ?_) fun hb hm=>go ?_
    ·cases hm;exact ⟨rfl,rfl,aa.below⟩
    exact ⟨b4.length,by simp,rfl,⟨_,_,_,rfl,b5,hm,aa,ac,(Y2 (congrArg (Value.int .i64) (Yx (aK b6 (ad.ks aa).1.1))) rfl)⟩⟩
  | cons de cf=>
   obtain ⟨af,cg,ch⟩:=Yu hl;have hk:(ar:Int)<(ab.2.2.2.2.length:Int):=by omega
   have hkb:=decide_eq_true hk;rw [Zbo.eq_2] at hm;refine go ?_;refine Yd (congrArg Value.bool hkb)<|go ?_;refine lI af ((ad.ks aa).addr af) ?_;obtain ⟨_,ci,cj⟩:=(ad.ks aa).atN af;obtain ⟨⟨df,dg,rfl,dh⟩,_⟩:=ci;refine lW cj.one<|go ?_;refine Y7 (col:=ae) (by kernel_rfl) (by kernel_rfl)<|qv rfl (fun _ hC=>Z9 isAgg27 sizeOf27 (ac.gr (hC.bl ae))) ?_;refine go ?_;obtain ⟨ck,cl,hm⟩:=bZ hm;refine qc (v:=(.int .i64 ck)) rfl (fun _ hC=>⟨_,_,Zce call133 rfl rfl,(Z3c cl ((a2.ks aa).gr (hC.bl ae)) ((ag.ks aa).gr (hC.bl ae)) ((aw.ks aa).gr (hC.bl ae)) ((ad.ks aa).gr (hC.bl ae)):).mono fun _ _ h=>⟨h.1,hC.trans (.of_below h.2)⟩⟩) ?_;refine qF ⟨_,_,rfl⟩ ?_;refine qW (fun _ hC=>((ac.atN).nth (q:=2) rfl).gr (hC.bl ae)) ?_;refine go ?_;obtain ⟨di,bh,hm⟩:=bZ hm;refine qI bh ((ag.ks aa).addr bh) ?_;obtain ⟨_,cn,co⟩:=(ag.ks aa).atN bh;obtain ⟨⟨dj,dk,rfl,dl⟩,_⟩:=cn;refine qW (fun _ hC=>co.one.gr (hC.bl ae)) ?_;refine go ?_;refine X2 ?_;intro dm hC;replace hC:=hC.bl ae;refine go ?_;replace ac:=ac.gr hC;replace aa:=aa.grow hC;refine Zm hm (fun hb hm=>go ?_) fun hb hm=>go ?_
   ·cases hm;exact ⟨rfl,rfl,aa.below⟩
   refine Zm hm (fun hb hm=>go ?_) fun hb hm=>go ?_
   ·cases hm;exact ⟨rfl,rfl,aa.below⟩
   exact ⟨cf.length,by simp,rfl,⟨_,_,_,rfl,cg,hm,aa,ac,(Y2 (congrArg (Value.int .i64) (Yx (aK ch (ad.ks aa).1.1))) rfl)⟩⟩
 refine Wy<|Z1 ac ?_;refine go ?_;refine Xn hm (fun bi hm=>go ?_) fun bi hm=>go ?_
 ·refine lV (.bool true) (Zw (congrArg Value.bool bi) rfl)<|Xq rfl<|lP 28 rfl rfl<|lP 28 rfl rfl<|lP 28 rfl rfl<|lP 28 rfl rfl<|lP 28 rfl rfl<|lV (.bool true) (Zw rfl rfl)<|Zl ?_;exact ⟨rfl,_,_,hm,aa,ac,rfl⟩
 refine Z7 ⟨_,_,rfl⟩ ?_;refine go ?_;refine lW ((ac.atN).nth (q:=3) rfl)<|go ?_;refine lV (.bool (!decide ((ab.2.2.2.1.length:Int)=(ab.2.1.length:Int)))) (Xk (congrArg Value.bool bi) rfl)<|Xq rfl ?_;refine Xn hm (fun bj hm=>go ?_) fun bj hm=>go ?_
 ·refine lV (.bool true) (Zw (congrArg Value.bool bj) rfl)<|Zl ?_;exact ⟨rfl,_,_,hm,aa,ac,rfl⟩
 refine Z7 ⟨_,_,rfl⟩ ?_;refine go ?_;refine lW ((ac.atN).nth (q:=4) rfl)<|go ?_;refine lV (.bool (!decide ((ab.2.2.2.2.length:Int)=(ab.2.1.length:Int)))) (Xk (congrArg Value.bool bj) rfl)<|Zl ?_;exact ⟨rfl,_,_,hm,aa,ac,rfl⟩
def Zf2 (N:Nat) (ab:List ByteArray) (ac:ByteArray):Nat→Int→Option Int
  | 0,_=>none
  | ad+1,aa=>if (decide (aa<(ab.length:Int)))=true then ((Zi ab aa).bind fun ae=>if (decide (ae=ac))=true then (some aa) else ((Zf2 N ab ac ad) (i64.wrap (aa+1)))) else (some (-1))
def Zli (N:Nat) (aa:List ByteArray) (ab:ByteArray):Option Int:=
  Zf2 N aa ab N 0
theorem Ztl {N ag:Nat} {a0:Option Addr} {col:Zd} {w0:World} {ac:R8} {ad:ByteArray} {r:Int} (hm:Zli N ac ad=some r) (h0:Sl Za.str col w0 a0 ag ac):
    Calls prog 96 #[.slice a0 ac.length ag,.string ad] w0 (W5 w0 r):=by
 refine Z6 4 (m:=19) func96 rfl rfl rfl rfl rfl ?_;rw [Zli.eq_1] at hm;have aa:=St.start col w0;refine go ?_;refine Zs [0,1,1000000] (fun n f ah=>∃ ai ae ab,ab=n∧Zf2 N ac ad ab ae=some r∧St w0 (Zf col) ai ah∧[5].map f=[.int .i64 ae]) N ⟨_,0,_,rfl,hm,aa,rfl⟩ ?_;clear hm;intro n f ah hI;obtain ⟨ai,ae,ab,hn,hm,aa,hs⟩:=hI;subst hn;refine .lL [5] hs ?_;replace h0:=h0.k0
 cases ab with
 | zero=>rw [Zf2.eq_1] at hm;cases hm
 | succ ab=>
  rw [Zf2.eq_2] at hm;refine go ?_;refine Zm hm (fun hb hm=>go ?_) fun hb hm=>go ?_
  ·obtain ⟨aj,af,hm⟩:=bZ hm;refine lI af ((h0.ks aa).addr af)<|lW ((h0.ks aa).atStr af) ?_;refine go ?_;refine Zm hm (fun hb hm=>go ?_) fun hb hm=>go ?_
   ·cases hm;exact ⟨rfl,rfl,aa.below⟩
   exact ⟨ab,by omega,rfl,⟨_,_,_,rfl,hm,aa,rfl⟩⟩
  cases hm;exact ⟨rfl,rfl,aa.below⟩
def Zf4 (N:Nat) (ab:R0):Nat→R2→Int→Option R2
  | 0,_,_=>none
  | ae+1,aa,ac=>if (decide (ac<(ab.2.2.1.length:Int)))=true then ((Zi ab.2.2.1 ac).bind fun ad=>Zt ((aa.length+[(ad.length:Int)].length) * 8≤140737488355328∧aa.length+[(ad.length:Int)].length≤maxLen) ((Zf4 N ab ae) (aa++[(ad.length:Int)]) (i64.wrap (ac+1)))) else (some aa)
def Zf3 (N:Nat) (aa:R0):Option R2:=
  Zf4 N aa N ([]:List Int) 0
theorem Z38 {N aj ak al am:Nat} {an ao ap aq:Option Addr} {col:Zd} {w0:World} {aa:R0} {r:R2} (c1:Nat) (hm:Zf3 N aa=some r) (a7:Sl Za.str col w0 an aj aa.2.1) (af:Sl rV col w0 ao ak aa.2.2.1) (a8:Sl rP col w0 ap al aa.2.2.2.1) (a9:Sl (Za.slice rQ) col w0 aq am aa.2.2.2.2):
    Calls prog 49 #[(.agg #[.string aa.1,.slice an aa.2.1.length aj,.slice ao aa.2.2.1.length ak,.slice ap aa.2.2.2.1.length al,.slice aq aa.2.2.2.2.length am])] w0 (W2 .i64 3 c1 col w0 r):=by
 refine Z6 2 (m:=22) func49 rfl rfl rfl rfl rfl ?_;rw [Zf3.eq_1] at hm;have ab:=St.start col w0;refine go ?_;refine Xl (col:=(Zf col)) 1 rfl ?_;intro az ba bb a0 ac;refine go ?_;replace ab:=ab.grow a0;refine Zs [1,1000000] (fun n f ag=>∃ ae ar au ah av ad,ad=n∧Zf4 N aa ad ah av=some r∧St w0 (Zf col) ae ag∧Zj 27 1 ae ag az #[.string aa.1,.slice an aa.2.1.length aj,.slice ao aa.2.2.1.length ak,.slice ap aa.2.2.2.1.length al,.slice aq aa.2.2.2.2.length am]∧Zc rI 3 2 ae ag ar au ah∧[3,4].map f=[.slice ar ah.length au,.int .i64 av]) N ⟨_,none,0,_,0,_,rfl,hm,ab,ac,Zc.nil,rfl⟩ ?_;clear hm;intro n f ag hI;obtain ⟨ae,ar,au,ah,av,ad,hn,hm,ab,ac,ai,hs⟩:=hI;subst hn;refine .lL [3,4] hs ?_;replace af:=af.k0
 cases ad with
 | zero=>rw [Zf4.eq_1] at hm;cases hm
 | succ ad=>
  rw [Zf4.eq_2] at hm;refine go ?_;refine Z1 ac ?_;refine go ?_;refine Zm hm (fun hb hm=>go ?_) fun hb hm=>go ?_
  ·refine Z1 ac<|Xr rfl ?_;obtain ⟨a1,aw,hm⟩:=bZ hm;refine lI aw ((af.ks ab).addr aw) ?_;obtain ⟨_,a2,a3⟩:=(af.ks ab).atN aw;obtain ⟨⟨bc,bd,rfl,be⟩,_⟩:=a2;refine lW a3.one<|go ?_;refine Wj (col:=ae) [(a1.length:Int)] 3 ?_;intro bf bg bh ax a4;obtain ⟨a5,hm⟩:=Zv hm;replace ai:=ai.gr ax;refine Yy ai (a4.srcN (NB.int (k:=.i64))) a5 ?_;intro bi bj bk bm ay a6;refine go ?_;replace ab:=(ab.grow ax).kpp ay;exact ⟨ad,by omega,rfl,⟨_,_,_,_,_,_,rfl,hm,ab,(ac.gr ax).kpp ay,a6,rfl⟩⟩
  cases hm;exact ⟨rfl,_,_,_,rfl,ab.fin (cm [(2,c1)]),ab.fo ai⟩
def Zi6 (aa:Int) (kk_L2:(Int→Int→Option Int)) (ab:Int):Option Int:=
  kk_L2 ab (i64.wrap (aa+1))
def Zb7 (N:Nat) (aa ac:List Int):Nat→Int→Int→Option Int
  | 0,_,_=>none
  | af+1,ad,ab=>if (decide (ab<(aa.length:Int)))=true then ((Zi aa ab).bind fun ag=>(Zi ac ag).bind fun ae=>Zt (ae≠0) (if (decide ((i64.wrap (aV 1099511627776 ae))<ad))=true then (Zi6 ab (Zb7 N aa ac af) 1099511627776) else (Zi6 ab (Zb7 N aa ac af) (i64.wrap (ad * ae))))) else (some ad)
def Zf1 (N:Nat) (aa ab:List Int):Nat→Int→Option Int
  | 0,_=>none
  | ad+1,ac=>if (decide (ac<(aa.length:Int)))=true then ((Zi aa ac).bind fun ae=>(Zi ab ae).bind fun af=>if (decide (af<1))=true then (some 0) else ((Zf1 N aa ab ad) (i64.wrap (ac+1)))) else (Zb7 N aa ab N 1 0)
def Zlh (N:Nat) (aa ab:List Int):Option Int:=
  Zf1 N aa ab N 0
theorem Z35 {N an ao:Nat} {a0 a1:Option Addr} {col:Zd} {w0:World} {ac ad:R2} {r:Int} (hm:Zlh N ac ad=some r) (h0:Sl rI col w0 a0 an ac) (h1:Sl rI col w0 a1 ao ad):
    Calls prog 98 #[.slice a0 ac.length an,.slice a1 ad.length ao] w0 (W5 w0 r):=by
 refine Z6 4 (m:=48) func98 rfl rfl rfl rfl rfl ?_;rw [Zlh.eq_1] at hm;have aa:=St.start col w0;refine go ?_;refine Zs [0,1,1000000] (fun n f ap=>∃ aq ai ae,ae=n∧Zf1 N ac ad ae ai=some r∧St w0 (Zf col) aq ap∧[5].map f=[.int .i64 ai]) N ⟨_,0,_,rfl,hm,aa,rfl⟩ ?_;clear hm;intro n f ap hI;obtain ⟨aq,ai,ae,hn,hm,aa,hs⟩:=hI;subst hn;refine .lL [5] hs ?_;replace h0:=h0.k0;replace h1:=h1.k0
 cases ae with
 | zero=>rw [Zf1.eq_1] at hm;cases hm
 | succ ae=>
  rw [Zf1.eq_2] at hm;refine go ?_;refine Zm hm (fun hb hm=>go ?_) fun hb hm=>go ?_
  ·obtain ⟨az,aj,hm⟩:=bZ hm;refine lI aj ((h0.ks aa).addr aj)<|lW ((h0.ks aa).atInt aj) ?_;obtain ⟨a2,ak,hm⟩:=bZ hm;refine lI ak ((h1.ks aa).addr ak)<|lW ((h1.ks aa).atInt ak) ?_;refine go ?_;refine Zm hm (fun hb hm=>go ?_) fun hb hm=>go ?_
   ·cases hm;exact ⟨rfl,rfl,aa.below⟩
   exact ⟨ae,by omega,rfl,⟨_,_,_,rfl,hm,aa,rfl⟩⟩
  refine Zs [0,1,1000000] (fun n f ar=>∃ au al ah ab,ab=n∧Zb7 N ac ad ab al ah=some r∧St w0 (Zf col) au ar∧[6,7].map f=[.int .i64 al,.int .i64 ah]) N ⟨_,1,0,_,rfl,hm,aa,rfl⟩ ?_;clear hm;intro n f ar hI;obtain ⟨au,al,ah,ab,hn,hm,aa,hs⟩:=hI;subst hn;refine .lL [6,7] hs ?_
  cases ab with
  | zero=>rw [Zb7.eq_1] at hm;cases hm
  | succ ab=>
   rw [Zb7.eq_2] at hm;refine go ?_;refine Zm hm (fun hb hm=>?_) fun hb hm=>go ?_
   ·refine Yj<|Z0 ?_;refine Wp.cutK [0,1,7,1000000] (fun f av=>∃ aw am,Zi6 ah (Zb7 N ac ad ab) am=some r∧St w0 (Zf col) aw av∧[6].map f=[.int .i64 am]) ?_ ?_
    ·intro f av hJ;obtain ⟨aw,am,hm,aa,hs⟩:=hJ;rw [Zi6.eq_1] at hm;refine .lL [6] hs<|go ?_;exact ⟨ab,by omega,rfl,⟨_,_,_,_,rfl,hm,aa,rfl⟩⟩
    refine go ?_;obtain ⟨a3,af,hm⟩:=bZ hm;refine lI af ((h0.ks aa).addr af)<|lW ((h0.ks aa).atInt af) ?_;obtain ⟨ax,ag,hm⟩:=bZ hm;refine lI ag ((h1.ks aa).addr ag)<|lW ((h1.ks aa).atInt ag) ?_;obtain ⟨ay,hm⟩:=Zv hm;refine lV (.int .i64 (i64.wrap (aV 1099511627776 ax))) (V3 1099511627776 ax rfl rfl ay)<|go ?_;refine Zm hm (fun hb hm=>go ?_) fun hb hm=>go ?_
    ·exact ⟨rfl,_,1099511627776,hm,aa,rfl⟩
    refine lI af ((h0.ks aa).addr af)<|lW ((h0.ks aa).atInt af)<|lI ag ((h1.ks aa).addr ag)<|lW ((h1.ks aa).atInt ag) ?_;refine go ?_;exact ⟨rfl,_,_,hm,aa,rfl⟩
   cases hm;exact ⟨rfl,rfl,aa.below⟩
def Zlk (aa:Bool):Option Bool:=
  some aa
def Zlj (ab aa:Int):Option Bool:=
  if (decide (0<aa))=true then (Zt (aa≠0) (Zlk (decide ((i64.wrap (aV 65536 aa))<ab)))) else (Zlk false)
theorem Z37 {col:Zd} {w0:World} {ac aa:Int} {r:Bool} (hm:Zlj ac aa=some r):
    Calls prog 99 #[.int .i64 ac,.int .i64 aa] w0 (Wx w0 r):=by
 refine Z6 4 (m:=13) func99 rfl rfl rfl rfl rfl ?_;rw [Zlj.eq_1] at hm;have ab:=St.start col w0;refine Z0<|Wy<|Qt rfl<|Zl<|Z0 ?_;refine Wp.cutK [1000000] (fun f af=>∃ ag ad,Zlk ad=some r∧St w0 (Zf col) ag af∧[4].map f=[.bool ad]) ?_ ?_
 ·intro f af hJ;obtain ⟨ag,ad,hm,ab,hs⟩:=hJ;rw [Zlk.eq_1] at hm;refine .lL [4] hs<|Wh ?_;cases hm;exact ⟨rfl,rfl,ab.below⟩
 refine go ?_;refine Xn hm (fun ae hm=>go ?_) fun ae hm=>go ?_
 ·obtain ⟨ah,hm⟩:=Zv hm;refine lV (.int .i64 (i64.wrap (aV 65536 aa))) (V3 65536 aa rfl rfl ah)<|go ?_;refine lV (.bool (decide ((i64.wrap (aV 65536 aa))<ac))) (Zw (congrArg Value.bool ae) rfl)<|go ?_;exact ⟨rfl,_,_,hm,ab,rfl⟩
 refine lV (.bool false) (Xk (congrArg Value.bool ae) rfl)<|go ?_;exact ⟨rfl,_,_,hm,ab,rfl⟩
def Zi7 (N:Nat):Option R1:=
  (Zay N 1 1).bind fun aa=>some ((aa.1.1,aa.1.2),aa.2)
theorem Ztm {N:Nat} {col:Zd} {w0:World} {r:R1} (c1 c2:Nat) (hm:Zi7 N=some r):
    Calls prog 104 #[] w0 (Qg 45 c1 c2 col w0 r):=by
 refine We (m:=2) func104 rfl rfl rfl ?_;rw [Zi7.eq_1] at hm;have aa:=St.start col w0;refine go ?_;refine Xx (col:=(Zf col)) #[.bool false,(nI),(nI)] 1 zeroValue42 ?_;intro al am ag ah ab;refine go ?_;obtain ⟨an,ai,hm⟩:=bZ hm;refine Zk (Zm9 (col:=ag) 2 3 ai) fun _ ao ⟨ap,aq,ar,au,av,e',af,ac,ad⟩=>⟨_,e',?_⟩;refine Xf (ab.gr af) ?_;intro aw ae aj ak;refine go ?_;cases hm;replace aa:=((aa.grow ah).grow af).kp ae aj;exact ⟨rfl,_,ra ak.atN,_,_,_,_,_,rfl,aa.fin (cm [(2,c1),(3,c2)]),aa.fo (ac.kp ae),aa.fo (ad.kp ae)⟩
def Zi9 (aa:Bool):Option Bool:=
  some aa
def Zi8 (N:Nat) (aa:R1):Option Bool:=
  (Ziz N ((aa.1.1,aa.1.2),aa.2)).bind fun ac=>if (decide (ac<0))=true then (Zi9 true) else ((Zi7 N).bind fun ab=>(Ziy N ((aa.1.1,aa.1.2),aa.2) ((ab.1.1,ab.1.2),ab.2)).bind fun ad=>Zi9 (decide (0<ad)))
theorem Z36 {N al am:Nat} {an ao:Option Addr} {col:Zd} {w0:World} {ac:R1} {r:Bool} (hm:Zi8 N ac=some r) (ah:Sl rU col w0 an al ac.1.2) (ai:Sl rU col w0 ao am ac.2):
    Calls prog 100 #[(.agg #[.bool ac.1.1,.slice an ac.1.2.length al,.slice ao ac.2.length am])] w0 (Wx w0 r):=by
 refine Z6 2 (m:=12) func100 rfl rfl rfl rfl rfl ?_;rw [Zi8.eq_1] at hm;have aa:=St.start col w0;refine go ?_;refine Xl (col:=(Zf col)) 1 rfl ?_;intro a6 a7 ab ay aj;refine Qt rfl<|Zl<|Z0 ?_;replace ah:=ah.k0;replace ai:=ai.k0;replace aa:=aa.grow ay;refine Wp.cutK [1000000] (fun f av=>∃ aw ap,Zi9 ap=some r∧St w0 (Zf col) aw av∧[2].map f=[.bool ap]) ?_ ?_
 ·intro f av hJ;obtain ⟨aw,ap,hm,aa,hs⟩:=hJ;rw [Zi9.eq_1] at hm;refine .lL [2] hs<|Wh ?_;cases hm;exact ⟨rfl,rfl,aa.below⟩
 refine Wc (col:=ab) [(0,0),(1,3),(2,1),(3,1),(4,0),(5,3),(6,3),(7,1),(8,1),(9,1)] (by kernel_rfl) (by kernel_rfl)<|xv rfl rfl (fun _ hC=>Z9 isAgg42 sizeOf42 (aj.gr (hC.bl ab))) ?_;refine xe rfl rfl ?_;intro az hC0;have hC:=hC0.bl ab;obtain ⟨ae,a0,hm⟩:=bZ hm;replace aa:=aa.grow hC;refine Zk (Z3x a0 (ah.ks aa) (ai.ks aa)) fun _ a1 ⟨e',ag⟩=>⟨_,e',?_⟩;replace ag:Zn ab az ab a1:=.of_below ag;refine Zl<|Xt ab hC0 ag<|xu rfl rfl (fun _=>Zo4 _ _ rfl rfl) ?_;refine xu rfl rfl (fun _=>Zy7 rfl) ?_;replace aj:=(aj.gr hC).gr ag;replace aa:=aa.grow ag;refine Xn hm (fun ad hm=>?_) fun ad hm=>?_
 ·refine Zei (b:=decide (ae<0)) 6 rfl rfl rfl rfl rfl (by rw [ad];rfl)<|Zei (b:=decide (ae<0)) 6 rfl rfl rfl rfl rfl (by rw [ad];rfl)<|Zei (b:=decide (ae<0)) 6 rfl rfl rfl rfl rfl (by rw [ad];rfl)<|Zei (b:=decide (ae<0)) 6 rfl rfl rfl rfl rfl (by rw [ad];rfl)<|xu (v:=(.bool true)) rfl rfl (fun _=>Zw (congrArg Value.bool ad) rfl) ?_;refine xu rfl rfl (fun _=>Zo0 rfl) ?_;refine Y0 ?_;intro a8 hC;replace hC:=hC.bl ab;replace aa:=aa.grow hC;exact ⟨rfl,_,_,hm,aa,rfl⟩
 refine Z2c (v:=(.agg #[.bool ac.1.1,.slice an ac.1.2.length al,.slice ao ac.2.length am])) (b:=decide (ae<0)) 6 rfl rfl rfl rfl rfl (by rw [ad];rfl) (fun _ hC=>Ym isAgg42 sizeOf42 rfl rfl (aj.atN.gr (hC.bl ab))) ?_;refine xe rfl rfl ?_;intro a9 hC0;have hC:=hC0.bl ab;refine go ?_;obtain ⟨ba,a2,hm⟩:=bZ hm;refine lc rfl rfl (Zg4 call104) (Ztm (col:=ab) 6 7 a2:) fun _ bb ⟨af,bc,bd,be,bf,e',ax,aq,ar⟩=>⟨_,e',?_⟩;refine Zl<|Xt af hC0 ax<|xe rfl rfl ?_;intro a3 hC0;replace aa:=(aa.grow hC).grow ax;have hC:=hC0.bl af;refine go ?_;obtain ⟨au,a4,hm⟩:=bZ hm;replace aa:=aa.grow hC;refine Zk (Ztk a4 (((ah.ks aa).froz 6).froz 7) (((ai.ks aa).froz 6).froz 7) (((aq.gr hC).toSlF (Zh.int .u32)).froz 7) (((ar.gr hC).froz 6).toSlF (Zh.int .u32))) fun _ a5 ⟨e',ak⟩=>⟨_,e',?_⟩;replace ak:Zn af a3 af a5:=.of_below ak;refine Zl<|Xt af hC0 ak<|Z2b (v:=(.bool (decide (0<au)))) (b:=decide (ae<0)) 6 rfl rfl rfl rfl rfl (by rw [ad];rfl) (fun _=>Zo2 au 0 rfl rfl) ?_;refine xu (v:=(.bool (decide (0<au)))) rfl rfl (fun _=>Xk (congrArg Value.bool ad) rfl) ?_;refine xu rfl rfl (fun _=>Zo0 rfl) ?_;refine Y0 ?_;intro bg hC;exact ⟨rfl,_,_,hm,(aa.grow ak).grow (hC.bl af),rfl⟩
def Zdp (N:Nat) (ac:R6) (ab:Int):Nat→Int→Option Bool
  | 0,_=>none
  | af+1,aa=>if (decide (aa<(ac.length:Int)))=true then (Zt ((0:Int)≤aa∧aa≤(i64.wrap (aa+ab))∧(i64.wrap (aa+ab))≤(ac.length:Int)) ((Zlg N ((ac.take (aA (i64.wrap (aa+ab)))).drop (aA aa))).bind fun ad=>(Zi7 N).bind fun ae=>(Ziy N ((ad.1.1,ad.1.2),ad.2) ((ae.1.1,ae.1.2),ae.2)).bind fun ag=>if (!decide (ag=0))=true then (some false) else ((Zdp N ac ab af) (i64.wrap (aa+ab))))) else (some true)
def Zn7 (N:Nat) (aa:R6) (ab:Int):Option Bool:=
  Zdp N aa ab N 0
theorem Z39 {N ad:Nat} {a0:Option Addr} {col:Zd} {w0:World} {ae:R6} {ac:Int} {r:Bool} (hm:Zn7 N ae ac=some r) (h0:Sl rQ col w0 a0 ad ae):
    Calls prog 101 #[.slice a0 ae.length ad,.int .i64 ac] w0 (Wx w0 r):=by
 refine Z6 4 (m:=23) func101 rfl rfl rfl rfl rfl ?_;rw [Zn7.eq_1] at hm;have ab:=St.start col w0;refine go ?_;refine Zs [0,1,1000000] (fun n f al=>∃ am aa af,af=n∧Zdp N ae ac af aa=some r∧St w0 (Zf col) am al∧[5].map f=[.int .i64 aa]) N ⟨_,0,_,rfl,hm,ab,rfl⟩ ?_;clear hm;intro n f al hI;obtain ⟨am,aa,af,hn,hm,ab,hs⟩:=hI;subst hn;refine .lL [5] hs ?_;replace h0:=h0.k0
 cases af with
 | zero=>rw [Zdp.eq_1] at hm;cases hm
 | succ af=>
  rw [Zdp.eq_2] at hm;refine go ?_;refine Zm hm (fun hb hm=>go ?_) fun hb hm=>go ?_
  ·obtain ⟨ag,hm⟩:=Zv hm;have ap:=((h0.ks ab).take (aA (i64.wrap (aa+ac)))).drop (sz:=3) rfl (aA aa);refine lv (v:=.slice (if ad=(aA aa) then a0 else a0.map (·.add ((aA aa) * 3))) ((aA (i64.wrap (aa+ac))) - (aA aa)) (ad - (aA aa))) rfl rfl (Zzc underlying29 sizeOf42 rfl rfl rfl ag.1 ag.2.1 (by have:=(h0.ks ab).1.2;have:=ag.2.2;omega)) ?_;generalize (if ad=(aA aa) then a0 else a0.map (·.add ((aA aa) * 3)))=an at *;refine .ld (d:=18) (v:=(.slice an (((ae.take (aA (i64.wrap (aa+ac)))).drop (aA aa)).length) (ad - (aA aa)))) (congrArg (fun n=>Value.slice an n (ad - (aA aa))) (show (aA (i64.wrap (aa+ac))) - (aA aa)=((ae.take (aA (i64.wrap (aa+ac)))).drop (aA aa)).length by rw [cG,nK];have:=ag.2;omega)) ?_;obtain ⟨a2,aq,hm⟩:=bZ hm;refine Zk (Z3y 1 2 aq ap) fun _ a3 ⟨ar,a4,a5,a6,a7,e',au,ah,ai⟩=>⟨_,e',?_⟩;obtain ⟨a8,av,hm⟩:=bZ hm;refine lc rfl rfl (Zg4 call104) (Ztm (col:=ar) 3 4 av:) fun _ aw ⟨ao,a9,ba,bb,bc,e',aj,ax,ay⟩=>⟨_,e',?_⟩;obtain ⟨bd,az,hm⟩:=bZ hm;refine Zk (Ztk az (((((ah.gr aj).toSlF (Zh.int .u32)).froz 2).froz 3).froz 4) (((((ai.gr aj).froz 1).toSlF (Zh.int .u32)).froz 3).froz 4) ((((ax.froz 1).froz 2).toSlF (Zh.int .u32)).froz 4) ((((ay.froz 1).froz 2).froz 3).toSlF (Zh.int .u32))) fun _ a1 ⟨e',ak⟩=>⟨_,e',?_⟩;replace ak:Zn ao aw ao a1:=.of_below ak;refine go ?_;replace ab:=((ab.grow au).grow aj).grow ak;refine Zm hm (fun hb hm=>go ?_) fun hb hm=>go ?_
   ·cases hm;exact ⟨rfl,rfl,ab.below⟩
   exact ⟨af,by omega,rfl,⟨_,_,_,rfl,hm,ab,rfl⟩⟩
  cases hm;exact ⟨rfl,rfl,ab.below⟩

end Go.Proofs.YthclpfhncgpnmaaGreat
