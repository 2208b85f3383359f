/-
  What functions of the program compute, as plain Lean functions (m_..), and proofs that they compute it (c_..). Printed by a program of the author; no conditions.
-/
import Derived.Test.YthclpfhncgpnmaaGreatJointAllBFloat
import Derived.Test.YthclpfhncgpnmaaGreatProg
import Derived.Test.YthclpfhncgpnmaaGreatJointAllBBrief
import Derived.Test.YthclpfhncgpnmaaGreatJointAllBThree
import Derived.Test.YthclpfhncgpnmaaGreatJointAllF2
set_option linter.unusedVariables false
set_option maxRecDepth 100000
set_option maxHeartbeats 2000000
namespace Go.Proofs.YthclpfhncgpnmaaGreat
open Go Go.RowKit
open Int renaming toNat→aA,tmod→bC,tdiv→aU,toNat_of_nonneg→bE,toNat_natCast→aB,tmod_eq_emod_of_nonneg→bW,tdiv_eq_ediv_of_nonneg→bR,sign_eq_one_of_pos→gV
open List renaming replicate→aI,take_take→fK,take_length→eX,getD_eq_getElem?_getD→aE,getElem?_eq_getElem→aG,getElem?_eq_none→cO,drop_zero→aX,drop_eq_nil_of_le→aF,length_singleton→aN,length_replicate→aQ,drop_replicate→fM,eq_nil_of_length_eq_zero→bY,drop_eq_nil_iff→aK,mem_cons→aM,not_mem_nil→aO,length_drop→cA,length_take→bX
open Nat renaming min_eq_left→aR,le_refl→bB,lt_of_lt_of_le→aJ,mul_le_mul_left→aS,pow_succ→aY,mul_zero→dB,add_zero→bQ,pow_zero→dA,add_assoc→dP,zero_add→cK,pow_add→cN,div_div_eq_div_mul→dX,add_mul_div_left→fN,div_eq_of_lt→dQ,mul_assoc→bN,two_pow_pos→bU,div_le_self→cB,dvd_add_left→iS,one_mul→bP,mul_comm→bL,mul_div_cancel_left→eT,le_trans→bA,gcd→cJ,gcd_comm→eK,mul_le_mul_right→bF,min_eq_right→dH,max_eq_left→eZ,max_eq_right→eU,le_total→gT,sub_le→gH,gcd_sub_self_right→gU,eq_zero_or_pos→eP,gcd_zero_right→iM,beq→aC
open Option renaming getD_some→cT
open Rat renaming mkRat_eq_div→dJ,inv_eq_of_mul_eq_one→eW
open Go.IntKind (i8 i16 i32 i64 u8 u16 u32 u64)
open Go.Proofs.Tryz

def Zej (N:Nat) (af ab:List Int) (aa:Int) (kk_L1:(List Int→Int→Option R2)):Nat→Int→R2→Int→Option R2
  | 0,_,_,_=>none
  | aj+1,ac,ad,ae=>if (decide (ac<(ab.length:Int)))=true then ((Zi af aa).bind fun ag=>(Zi ab ac).bind fun ah=>(Zi ad (i64.wrap (aa+ac))).bind fun ai=>(some (ad.set (aA (i64.wrap (aa+ac))) (u32.wrap (bC (u64.wrap ((u64.wrap (ae+(u64.wrap ((u64.wrap ag) * (u64.wrap ah)))))+(u64.wrap ai))) 4294967296)))).bind fun ak=>(Zej N af ab aa kk_L1 aj) (i64.wrap (ac+1)) ak (u64.wrap (aU (u64.wrap ((u64.wrap (ae+(u64.wrap ((u64.wrap ag) * (u64.wrap ah)))))+(u64.wrap ai))) 4294967296))) else ((Zi ad (i64.wrap (aa+(ab.length:Int)))).bind fun am=>(some (ad.set (aA (i64.wrap (aa+(ab.length:Int)))) (u32.wrap ae))).bind fun al=>kk_L1 al (i64.wrap (aa+1)))
def Za4 (N:Nat) (aa ab:List Int):Nat→R2→Int→Option R2
  | 0,_,_=>none
  | ae+1,ac,ad=>if (decide (ad<(aa.length:Int)))=true then (Zej N aa ab ad (Za4 N aa ab ae) N 0 ac 0) else ((Vl N ac).bind fun af=>some af)
def Zci (N:Nat) (ac ad:List Int):Option R2:=
  (Vl N ac).bind fun aa=>(Vl N ad).bind fun ab=>Zv ((aA (i64.wrap ((aa.length:Int)+(ab.length:Int)))) * 4≤281474976710656∧(aA (i64.wrap ((aa.length:Int)+(ab.length:Int))))≤maxLen∧0≤(i64.wrap ((aa.length:Int)+(ab.length:Int)))) (Za4 N aa ab N (aI (aA (i64.wrap ((aa.length:Int)+(ab.length:Int)))) (0:Int)) 0)
theorem Znz {N bi bj:Nat} {a0 a1:Option Addr} {col:Zd} {w0:World} {a5 a6 r:R2} (c1:Nat) (hm:Zci N a5 a6=some r) (h0:Sl rU col w0 a0 bi a5) (h1:Sl rU col w0 a1 bj a6):
    Calls prog 112 #[.slice a0 a5.length bi,.slice a1 a6.length bj] w0 (W2 .u32 45 c1 col w0 r):=by
 refine Z7 4 (m:=74) func112 rfl rfl rfl rfl rfl ?_;rw [Zci.eq_1] at hm;have aa:=St.start col w0;refine go ?_;obtain ⟨am,bt,hm⟩:=bZ hm;refine Zh (Uc 1 bt (h0.k0.ks aa)) ?_;rintro _ b4 ⟨b5,bk,bm,rfl,bu,ab⟩;refine ⟨_,rfl,go ?_⟩;obtain ⟨ai,bv,hm⟩:=bZ hm;replace aa:=aa.grow bu;refine Zh (Uc 2 bv (h1.k0.ks aa)) ?_;rintro _ bw ⟨bx,bn,bo,rfl,bp,ac⟩;refine ⟨_,rfl,go ?_⟩;obtain ⟨ax,hm⟩:=Zx hm;refine Ty (col:=bx) (w:=bw) (r:=rU) (n:=(aA (i64.wrap ((am.length:Int)+(ai.length:Int))))) (x0:=0) 3 rfl underlying38 Tryz.t45 rfl rfl rfl rfl rfl (congrArg (Value.int _) (bE ax.2.2).symm) (congrArg (Value.int _) (bE ax.2.2).symm) ax.1 ax.2.1 (Zag .u32 0) ?_;intro b6 b7 b8 a7 bz;refine go ?_;replace ab:=(ab.gr bp).gr a7;replace aa:=(aa.grow bp).grow a7;replace ac:=ac.gr a7;refine Zt [5,6,1000000] (fun n f an=>∃ af a8 a9 ay ao aj,aj=n∧Za4 N am ai aj ay ao=some r∧St w0 (Zg col) af an∧Zb rU 45 1 af an bk bm am∧Zb rU 45 2 af an bn bo ai∧Zb rU 45 3 af an a8 a9 ay∧[7,8].map f=[.slice a8 ay.length a9,.int .i64 ao]) N ⟨_,_,_,_,0,_,rfl,hm,aa,ab,ac,bz,rfl⟩ ?_;clear hm;intro n f an hI;obtain ⟨af,a8,a9,ay,ao,aj,hn,hm,aa,ab,ac,bq,hs⟩:=hI;subst hn;refine .lL [7,8] hs ?_
 cases aj with
 | zero=>rw [Za4.eq_1] at hm;cases hm
 | succ aj=>
  rw [Za4.eq_2] at hm;refine go ?_;refine Zl hm (fun hb hm=>go ?_) fun hb hm=>go ?_
  ·refine Zt [5,6,8,1000000] (fun n f aw=>∃ ae az ak al ag ad ap,ap=n∧Zej N am ai ao (Za4 N am ai aj) ap az ag ad=some r∧St w0 (Zg col) ae aw∧Zb rU 45 1 ae aw bk bm am∧Zb rU 45 2 ae aw bn bo ai∧Zb rU 45 3 ae aw ak al ag∧[10,7,9].map f=[.int .i64 az,.slice ak ag.length al,.int .u64 ad]) N ⟨_,0,_,_,_,0,_,rfl,hm,aa,ab,ac,bq,rfl⟩ ?_;clear hm;intro n f aw hI;obtain ⟨ae,az,ak,al,ag,ad,ap,hn,hm,aa,ab,ac,ah,hs⟩:=hI;subst hn;refine .lL [10,7,9] hs ?_
   cases ap with
   | zero=>rw [Zej.eq_1] at hm;cases hm
   | succ ap=>
    rw [Zej.eq_2] at hm;refine go ?_;refine Zl hm (fun hb hm=>go ?_) fun hb hm=>go ?_
    ·refine Y0 (col:=ae) (by kernel_rfl) (by kernel_rfl)<|go ?_;obtain ⟨aq,ba,hm⟩:=bZ hm;refine qI ba (ab.addr ba)<|qW (fun _ hC=>(ab.gr (hC.bl ae)).atInt ba) ?_;refine go ?_;obtain ⟨ar,bb,hm⟩:=bZ hm;refine qI bb (ac.addr bb)<|qW (fun _ hC=>(ac.gr (hC.bl ae)).atInt bb) ?_;refine go ?_;obtain ⟨au,av,hm⟩:=bZ hm;refine qI av (ah.addr av)<|qW (fun _ hC=>(ah.gr (hC.bl ae)).atInt av) ?_;refine go ?_;refine Xw ?_;intro b9 hC;replace hC:=hC.bl ae;refine go ?_;refine lV (.int .u64 (bC (u64.wrap ((u64.wrap (ad+(u64.wrap ((u64.wrap aq) * (u64.wrap ar)))))+(u64.wrap au))) 4294967296)) (So (u64.wrap ((u64.wrap (ad+(u64.wrap ((u64.wrap aq) * (u64.wrap ar)))))+(u64.wrap au))) 4294967296 rfl rfl (by decide))<|go ?_;replace ah:=ah.gr hC;refine lI av (ah.addr av) ?_;obtain ⟨bc,a2,hm⟩:=bZ hm;have a2:bc=ag.set (aA (i64.wrap (ao+az))) (u32.wrap (bC (u64.wrap ((u64.wrap (ad+(u64.wrap ((u64.wrap aq) * (u64.wrap ar)))))+(u64.wrap au))) 4294967296)):=(Option.some.inj a2).symm;refine Yp (x1:=u32.wrap (bC (u64.wrap ((u64.wrap (ad+(u64.wrap ((u64.wrap aq) * (u64.wrap ar)))))+(u64.wrap au))) 4294967296)) ah av ?_;intro ca bd b0 br;rw [← a2] at br;refine .ld (d:=7) (v:=(.slice ak bc.length al)) (congrArg (fun n=>Value.slice ak n al) (show ag.length=bc.length by rw [a2,nS])) ?_;refine go ?_;refine lV (.int .u64 (u64.wrap (aU (u64.wrap ((u64.wrap (ad+(u64.wrap ((u64.wrap aq) * (u64.wrap ar)))))+(u64.wrap au))) 4294967296))) (Vm (u64.wrap ((u64.wrap (ad+(u64.wrap ((u64.wrap aq) * (u64.wrap ar)))))+(u64.wrap au))) 4294967296 rfl rfl (by decide))<|go ?_;replace ab:=(ab.gr hC).kp bd;replace ac:=(ac.gr hC).kp bd;replace aa:=(aa.grow hC).kp bd b0;exact ⟨ap,by omega,rfl,⟨_,_,_,_,_,_,_,rfl,hm,aa,ab,ac,br,rfl⟩⟩
    obtain ⟨cb,be,hm⟩:=bZ hm;refine lI be (ah.addr be) ?_;obtain ⟨bf,a3,hm⟩:=bZ hm;have a3:bf=ag.set (aA (i64.wrap (ao+(ai.length:Int)))) (u32.wrap ad):=(Option.some.inj a3).symm;refine Yp (x1:=u32.wrap ad) ah be ?_;intro cc bg b1 bs;rw [← a3] at bs;refine .ld (d:=7) (v:=(.slice ak bf.length al)) (congrArg (fun n=>Value.slice ak n al) (show ag.length=bf.length by rw [a3,nS])) ?_;refine go ?_;replace aa:=aa.kp bg b1;exact ⟨aj,by omega,rfl,⟨_,_,_,_,_,_,rfl,hm,aa,ab.kp bg,ac.kp bg,bs,rfl⟩⟩
  obtain ⟨cd,b2,hm⟩:=bZ hm;refine Zh (Uc 4 b2 (bq.toSlF (Zm.int .u32))) fun _ ce ⟨b3,cf,cg,e',a4,bh⟩=>⟨_,e',?_⟩;replace bh:=bh.thaw (Z8 .u32) a4 ((Fz.refl (col:=af)).froz 3);replace a4:=a4.thawR (col:=af);generalize Xb an.heap.size af b3=ch at *;refine go ?_;cases hm;replace aa:=aa.grow a4;exact ⟨rfl,_,_,_,rfl,aa.fin (cm [(4,c1)]),aa.fo bh⟩
def Zjl (af ag ad:List Int) (aa ae:Int) (kk_L1:(List Int→Int→Int→Option R2)):Option R2:=
  (Qc af ae).bind fun ab=>(Qc ag ae).bind fun ac=>Zv ((ad.length+[u32.wrap (bC (u64.wrap ((u64.wrap (aa+ab))+ac)) 4294967296)].length) * 4≤140737488355328∧ad.length+[u32.wrap (bC (u64.wrap ((u64.wrap (aa+ab))+ac)) 4294967296)].length≤maxLen) (kk_L1 (ad++[u32.wrap (bC (u64.wrap ((u64.wrap (aa+ab))+ac)) 4294967296)]) (u64.wrap (aU (u64.wrap ((u64.wrap (aa+ab))+ac)) 4294967296)) (i64.wrap (ae+1)))
def Zch (N:Nat) (ab ac aa:List Int) (ad ae:Int) (kk_L1:(List Int→Int→Int→Option R2)) (af:Bool):Option R2:=
  if af=true then (Zjl ab ac aa ad ae kk_L1) else ((Vl N aa).bind fun ag=>some ag)
def Sb (N:Nat) (aa ab:List Int):Nat→R2→Int→Int→Option R2
  | 0,_,_,_=>none
  | ae+1,af,ad,ac=>if (decide (ac<(aa.length:Int)))=true then (Zch N aa ab af ad ac (Sb N aa ab ae) true) else (if (decide (ac<(ab.length:Int)))=true then (Zch N aa ab af ad ac (Sb N aa ab ae) true) else (Zch N aa ab af ad ac (Sb N aa ab ae) (decide (0<ad))))
def Zg8 (N:Nat) (aa ab:List Int):Option R2:=
  Sb N aa ab N ([]:List Int) 0 0
theorem Zqt {N a3 a4:Nat} {a0 a1:Option Addr} {col:Zd} {w0:World} {ae ad r:R2} (c1:Nat) (hm:Zg8 N ae ad=some r) (h0:Sl rU col w0 a0 a3 ae) (h1:Sl rU col w0 a1 a4 ad):
    Calls prog 151 #[.slice a0 ae.length a3,.slice a1 ad.length a4] w0 (W2 .u32 45 c1 col w0 r):=by
 refine Z7 4 (m:=43) func151 rfl rfl rfl rfl rfl ?_;rw [Zg8.eq_1] at hm;have aa:=St.start col w0;refine go ?_;refine Zt [0,1,1000000] (fun n f av=>∃ aw ak al af ab ai ag,ag=n∧Sb N ae ad ag af ab ai=some r∧St w0 (Zg col) aw av∧Zb rU 45 1 aw av ak al af∧[5,6,7].map f=[.slice ak af.length al,.int .u64 ab,.int .i64 ai]) N ⟨_,none,0,_,0,0,_,rfl,hm,aa,Zb.nil,rfl⟩ ?_;clear hm;intro n f av hI;obtain ⟨aw,ak,al,af,ab,ai,ag,hn,hm,aa,ac,hs⟩:=hI;subst hn;refine .lL [5,6,7] hs ?_;replace h1:=h1.k0
 cases ag with
 | zero=>rw [Sb.eq_1] at hm;cases hm
 | succ ag=>
  rw [Sb.eq_2] at hm;refine Zw ?_;refine Wp.cutK [0,1,5,6,7,1000000] (fun f ao=>∃ ah,Zjl ae ad af ab ai (Sb N ae ad ag)=some r∧St w0 (Zg col) ah ao∧Zb rU 45 1 ah ao ak al af) ?_ ?_
  ·intro f ao hJ;obtain ⟨ah,hm,aa,ac⟩:=hJ;rw [Zjl.eq_1] at hm;refine go ?_;obtain ⟨am,a7,hm⟩:=bZ hm;refine Zh (Zdi a7 (h0.k0.ks aa)) fun _ a5 ⟨e',ap⟩=>⟨_,e',?_⟩;replace ap:Zk ah ao ah a5:=.of_below ap;refine go ?_;obtain ⟨an,a8,hm⟩:=bZ hm;replace aa:=aa.grow ap;refine Zh (Zdi a8 (h1.ks aa)) fun _ a9 ⟨e',aq⟩=>⟨_,e',?_⟩;replace aq:Zk ah a5 ah a9:=.of_below aq;refine go ?_;refine lV (.int .u64 (bC (u64.wrap ((u64.wrap (ab+am))+an)) 4294967296)) (So (u64.wrap ((u64.wrap (ab+am))+an)) 4294967296 rfl rfl (by decide))<|go ?_;refine Wt (col:=ah) [u32.wrap (bC (u64.wrap ((u64.wrap (ab+am))+an)) 4294967296)] 2 ?_;intro bg bh bi a6 ba;obtain ⟨bb,hm⟩:=Zx hm;replace ac:=((ac.gr ap).gr aq).gr a6;refine Y9 ac (ba.srcN (NB.int (k:=.u32))) bb ?_;intro bj bk bm bn bc bd;refine go ?_;refine lV (.int .u64 (u64.wrap (aU (u64.wrap ((u64.wrap (ab+am))+an)) 4294967296))) (Vm (u64.wrap ((u64.wrap (ab+am))+an)) 4294967296 rfl rfl (by decide))<|go ?_;replace aa:=((aa.grow aq).grow a6).kpp bc;exact ⟨ag,by omega,rfl,⟨_,_,_,_,_,_,_,rfl,hm,aa,bd,rfl⟩⟩
  refine Zw ?_;refine Wp.cutK [0,1,5,6,7,1000000] (fun f ar=>∃ aj ax,Zch N ae ad af ab ai (Sb N ae ad ag) ax=some r∧St w0 (Zg col) aj ar∧Zb rU 45 1 aj ar ak al af∧[21].map f=[.bool ax]) ?_ ?_
  ·intro f ar hJ;obtain ⟨aj,ax,hm,aa,ac,hs⟩:=hJ;rw [Zch.eq_1] at hm;refine .lL [21] hs ?_;refine Zl hm (fun hb hm=>?_) fun hb hm=>go ?_
   ·refine X7 ?_;exact ⟨rfl,_,hm,aa,ac⟩
   obtain ⟨bo,be,hm⟩:=bZ hm;refine Zh (Uc 3 be (ac.toSlF (Zm.int .u32))) fun _ bp ⟨bf,bq,br,e',au,ay⟩=>⟨_,e',?_⟩;replace ay:=ay.thaw (Z8 .u32) au ((Fz.refl (col:=aj)).froz 1);replace au:=au.thawR (col:=aj);generalize Xb ar.heap.size aj bf=bs at *;refine go ?_;cases hm;replace aa:=aa.grow au;exact ⟨rfl,_,_,_,rfl,aa.fin (cm [(3,c1)]),aa.fo ay⟩
  refine go ?_;refine Xo hm (fun az hm=>go ?_) fun az hm=>go ?_
  ·refine lV (.bool true) (Z5 (congrArg Value.bool az) rfl)<|Ws rfl<|lP 18 rfl rfl<|lP 18 rfl rfl<|lV (.bool true) (Z5 rfl rfl)<|Zj ?_;exact ⟨rfl,_,_,hm,aa,ac,rfl⟩
  refine lV (.bool (decide (ai<(ad.length:Int)))) (Xn (congrArg Value.bool az) rfl)<|Ws rfl ?_;refine Xo hm (fun a2 hm=>go ?_) fun a2 hm=>go ?_
  ·refine lV (.bool true) (Z5 (congrArg Value.bool a2) rfl)<|Zj ?_;exact ⟨rfl,_,_,hm,aa,ac,rfl⟩
  refine lV (.bool (decide (0<ab))) (Xn (congrArg Value.bool a2) rfl)<|Zj ?_;exact ⟨rfl,_,_,hm,aa,ac,rfl⟩
def Zhf (N:Nat) (aa:Int):Option R2:=
  (Vl N [u32.wrap (bC aa 4294967296),u32.wrap (u64.wrap (aU aa 4294967296))]).bind fun ab=>some ab
theorem Zqv {N:Nat} {col:Zd} {w0:World} {aa:Int} {r:R2} (c1:Nat) (hm:Zhf N aa=some r):
    Calls prog 177 #[.int .u64 aa] w0 (W2 .u32 45 c1 col w0 r):=by
 refine Z7 2 (m:=11) func177 rfl rfl rfl rfl rfl ?_;rw [Zhf.eq_1] at hm;have ab:=St.start col w0;refine go ?_;refine lV (.int .u64 (bC aa 4294967296)) (So aa 4294967296 rfl rfl (by decide))<|go ?_;refine lV (.int .u64 (u64.wrap (aU aa 4294967296))) (Vm aa 4294967296 rfl rfl (by decide))<|go ?_;refine Wt (col:=(Zg col)) [u32.wrap (bC aa 4294967296),u32.wrap (u64.wrap (aU aa 4294967296))] 1 ?_;intro ak af ad ag ah;obtain ⟨al,ai,hm⟩:=bZ hm;refine Zh (Uc 2 ai (ah.toSlF (Zm.int .u32))) fun _ am ⟨aj,an,ao,e',ac,ae⟩=>⟨_,e',?_⟩;replace ae:=ae.thaw (Z8 .u32) ac ((Fz.refl (col:=ad)).froz 1);replace ac:=ac.thawR (col:=ad);generalize Xb af.heap.size ad aj=ap at *;refine go ?_;cases hm;replace ab:=(ab.grow ag).grow ac;exact ⟨rfl,_,_,_,rfl,ab.fin (cm [(2,c1)]),ab.fo ae⟩
theorem Zwz (N:Nat) (a:List Int) (hb:a.length≤35184372088000):∀ (n j:Nat),j≤a.length→Za5 N a n (j:Int)=Ti N n (a.take j)
 | 0,j,_=>rfl
 | n+1,j,d=>by
  have b:(a.take j).length=j:=by rw [nK];omega
  have c:0<j→Zi (a.take j) ((j - 1:Nat):Int)=Zi a ((j - 1:Nat):Int):=fun h=>by rw [Uo,Uo,List.getElem?_take,if_pos (by omega)]
  rw [Za5.eq_2,Ti.eq_2,b]
  by_cases h0:0<j
  ·have e:(j:Int) - 1=((j - 1:Nat):Int):=by omega
   rw [if_pos (dT (by omega)),if_pos (dT (by omega)),Zp (by omega),e,c h0,Zs (by omega),oB,oB,Zhe,Za0,b,Zp (by omega),e,aB,aB]
   by_cases hx:a[j - 1]=0
   ·rw [if_pos (dT hx),if_pos (dT hx),Zz (by omega),Zwz N a hb n (j - 1) (by omega),fK,aR (by omega)]
   ·rw [if_neg (dF hx),if_neg (dF hx),Zz (by omega),Zz (by rw [b];simp only [nN,maxLen];omega),List.nil_append]
  ·have:j=0:=by omega
   subst this
   rw [if_neg (by decide),if_neg (by decide),Zhe,Za0,if_neg (by decide),if_neg (by decide),Zz (by omega)]
   exact Zz (by simp [maxLen])
theorem Uj {N:Nat} {a:List Int} (h:Zn a) (hn:a.length<N) (hb:a.length≤35184372088000):Vl N a=some (Zf (Zc a)):=by
 rw [Vl,Zwz N a hb N a.length (bB _),eX]
 exact Zne N N a h hn (by omega)
theorem Zw1 {N:Nat} {u:Int} (h:0≤u∧u<18446744073709551616) (hn:2<N):Zhf N u=some (Zf u.toNat):=by
 have a:u32.wrap (bC u 4294967296)=u % 4294967296:=by rw [bW h.1,Vv (by omega)]
 have b:u32.wrap (u64.wrap (aU u 4294967296))=u / 4294967296:=by rw [bR h.1,Xi (by omega),Vv (by omega)]
 have c:Zn [u % 4294967296,u / 4294967296]:=.cons (by omega) (.cons (by omega) .nil)
 have e:Zc [u % 4294967296,u / 4294967296]=u.toNat:=by rw [Y3,Y3,Yg];omega
 rw [Zhf,a,b,Uj c (by simpa using hn) (by simp),oB,e]
theorem Zdo {a:List Int} (h:Zn a) (k:Nat):Qc a (k:Int)=some ((Xq a k:Nat):Int):=by
 rw [Qc]
 by_cases hk:k<a.length
 ·have:=h.get hk
  rw [if_pos (dT (by omega)),Zs hk,oB,Xi (by omega),Xq,aE,aG hk,cT]
  congr 1;omega
 ·rw [if_neg (dF (by omega)),Xq,aE,cO (by omega)];rfl
theorem Zmm {a:List Int} (h:Zn a) (k:Nat):Zc (a.take k)<4294967296 ^ k:=by
 have b:=Sj (h.take k)
 refine aJ b (Nat.pow_le_pow_right (by decide) ?_)
 rw [nK];omega
theorem Zpm (N:Nat) (a b:List Int) (ha:Zn a) (hb:Zn b):∀ (n i:Nat),i<4611686018427387904→i<n→Zc (a.drop i)=Zc (b.drop i)→Zeg N a b n ((i:Int) - 1)=some (if Zc a<Zc b then -1 else if Zc b<Zc a then 1 else 0)
 | 0,i,_,h,_=>by omega
 | n+1,i,l,m,d=>by
  rw [Zeg.eq_2]
  by_cases h0:i=0
  ·subst h0
   rw [if_neg (by decide)]
   rw [aX,aX] at d
   rw [if_neg (by omega),if_neg (by omega)]
  ·have e:(i:Int) - 1=((i - 1:Nat):Int):=by omega
   have f:i - 1+1=i:=by omega
   rw [if_pos (dT (by omega)),e,Zdo ha,Zdo hb,oB,oB]
   have g:=Ut a (i - 1)
   have j:=Ut b (i - 1)
   rw [Uh a,f] at g
   rw [Uh b,f,← d] at j
   have o:=Zmm ha (i - 1)
   have p:=Zmm hb (i - 1)
   have c:∀ x y:Nat,x<y→4294967296 ^ (i - 1) * (x+4294967296 * Zc (a.drop i))+4294967296 ^ (i - 1)≤4294967296 ^ (i - 1) * (y+4294967296 * Zc (a.drop i)):=fun x y k=>by
    rw [← Nat.mul_succ];exact aS _ (by omega)
   generalize 4294967296 ^ (i - 1)=Q at *
   by_cases hlt:Xq a (i - 1)<Xq b (i - 1)
   ·have:=c _ _ hlt
    rw [if_pos (dT (by omega)),if_pos (by omega)]
   ·rw [if_neg (dF (by omega))]
    by_cases hgt:Xq b (i - 1)<Xq a (i - 1)
    ·have:=c _ _ hgt
     rw [if_pos (dT (by omega)),if_neg (by omega),if_pos (by omega)]
    ·rw [if_neg (dF (by omega)),Zp (by omega)]
     exact Zpm N a b ha hb n (i - 1) (by omega) (by omega) (by rw [Uh a,Uh b,f,d];omega)
theorem Zpn {N:Nat} {a b:List Int} (ha:Zn a) (hb:Zn b) (h1:a.length<N) (h2:b.length<N) (h3:a.length≤35184372088000) (h4:b.length≤35184372088000):
  Zef N a b=some (if Zc a<Zc b then -1 else if Zc b<Zc a then 1 else 0):=by
 have c:∀ (l:List Int) (k:Nat),l.length≤k→Zc (l.drop k)=0:=fun l k h=>by rw [aF h];rfl
 rw [Zef]
 by_cases h:a.length<b.length
 ·rw [if_pos (dT (by omega)),Zg9,Zp (by omega)]
  exact Zpm N a b ha hb N b.length (by omega) h2 (by rw [c a _ (by omega),c b _ (by omega)])
 ·rw [if_neg (dF (by omega)),Zg9,Zp (by omega)]
  exact Zpm N a b ha hb N a.length (by omega) h1 (by rw [c a _ (by omega),c b _ (by omega)])
theorem Zp2 {s:Int} (h:0≤s∧s<18446744073709551616):u32.wrap (bC s 4294967296)=((s.toNat % 4294967296:Nat):Int):=by
 rw [bW h.1,Vv (by omega)];omega
theorem Zp1 {s:Int} (h:0≤s∧s<18446744073709551616):u64.wrap (aU s 4294967296)=((s.toNat / 4294967296:Nat):Int):=by
 rw [bR h.1,Xi (by omega)];omega
theorem Zo9 {S Q A B C:Nat} (h:A=B+4294967296 * C):S+Q * B+Q * 4294967296 * C=S+Q * A:=by
 subst h;grind
theorem Zv0 (N:Nat) (a b:List Int) (ha:Zn a) (hb:Zn b) (hN:a.length+b.length+2<N) (hs:a.length+b.length<35184372087000):∀ (n i:Nat) (out:List Int) (c:Nat),out.length=i→Zn out→c≤1→i≤a.length+b.length+2→(i≤a.length+b.length+1∨c=0)→a.length+b.length+3≤n+i→
  Sb N a b n out (c:Int) (i:Int)=some (Zf (Zc out+4294967296 ^ i * (c+Zc (a.drop i)+Zc (b.drop i))))
 | 0,i,out,c,_,_,_,g,_,j=>by omega
 | n+1,i,out,c,d,e,m,g,j,o=>by
  have go:(i<a.length∨i<b.length∨0<c)→Zjl a b out (c:Int) (i:Int) (Sb N a b n)=some (Zf (Zc out+4294967296 ^ i * (c+Zc (a.drop i)+Zc (b.drop i)))):=fun l=>by
   have p:=Zdn ha i
   have q:=Zdn hb i
   have k:u64.wrap (u64.wrap ((c:Int)+((Xq a i:Nat):Int))+((Xq b i:Nat):Int))=((c+Xq a i+Xq b i:Nat):Int):=by
    rw [Xi (x:=(c:Int)+_) (by omega),Xi (by omega)];omega
   rw [Zjl,Zdo ha,Zdo hb,oB,oB,k,Zp2 (by omega),Zp1 (by omega),aB]
   generalize hsum:c+Xq a i+Xq b i=s
   rw [Zz (by simp only [aN,maxLen];omega),Zp (by omega)]
   have f:=Zv0 N a b ha hb hN hs n (i+1) (out++[((s % 4294967296:Nat):Int)]) (s / 4294967296) (by simp [d]) (e.app (.cons (by omega) .nil)) (by omega) (by omega) (by
    by_cases hi:i<a.length∨i<b.length
    ·omega
    ·right
     have r:Xq a i=0:=by rw [Xq,aE,cO (by omega)];rfl
     have zb:Xq b i=0:=by rw [Xq,aE,cO (by omega)];rfl
     omega) (by omega)
   rw [show ((i+1:Nat):Int)=(i:Int)+1 by omega] at f
   rw [f,Si,d,Y3,Yg,aB,Uh a i,Uh b i,aY]
   congr 2
   rw [dB,bQ]
   refine Zo9 ?_
   omega
  rw [Sb.eq_2]
  by_cases hia:i<a.length
  ·rw [if_pos (dT (by omega)),Zch,if_pos rfl];exact go (.inl hia)
  ·rw [if_neg (dF (by omega))]
   by_cases hib:i<b.length
   ·rw [if_pos (dT (by omega)),Zch,if_pos rfl];exact go (.inr (.inl hib))
   ·rw [if_neg (dF (by omega)),Zch]
    by_cases hcp:0<c
    ·rw [if_pos (dT (by omega))];exact go (.inr (.inr hcp))
    ·have:c=0:=by omega
     subst this
     rw [if_neg (by decide),Uj e (by omega) (by omega),oB,aF (by omega),aF (by omega),Yg]
     simp
theorem Zv1 {N:Nat} {a b:List Int} (ha:Zn a) (hb:Zn b) (hN:a.length+b.length+3<N) (hs:a.length+b.length<35184372087000):Zg8 N a b=some (Zf (Zc a+Zc b)):=by
 have:=Zv0 N a b ha hb (by omega) hs N 0 [] 0 rfl .nil (by omega) (by omega) (by omega) (by omega)
 rw [aX,aX,Yg,dA] at this
 rw [Zg8,show (0:Int)=((0:Nat):Int) from rfl,this]
 simp
theorem Zxa (N:Nat) (a b:List Int) (ha:Zn a) (hb:Zn b) (hN:a.length<N) (hs:a.length<35184372088000):∀ (n i:Nat) (out:List Int) (c:Nat),out.length=i→Zn out→c≤1→i≤a.length→a.length<n+i→c+Zc (b.drop i)≤Zc (a.drop i)→
  Qb N a b n out (c:Int) (i:Int)=some (Zf (Zc out+4294967296 ^ i * (Zc (a.drop i) - (c+Zc (b.drop i)))),true)
 | 0,i,out,c,_,_,_,l,m,_=>by omega
 | n+1,i,out,c,e,f,o,l,m,g=>by
  rw [Qb.eq_2]
  by_cases hi:i<a.length
  ·have p:=Zdn ha i
   have q:=Zdn hb i
   rw [Uh a i,Uh b i] at g
   have go:∀ (d:Nat) (x:Int),d≤1→x=((Xq a i+4294967296 * d:Nat):Int)→Xq b i+c≤Xq a i+4294967296 * d→Xq a i+4294967296 * d<Xq b i+c+4294967296→Zhh out (c:Int) (i:Int) (Qb N a b n) ((Xq b i:Nat):Int) (d:Int) x=some (Zf (Zc out+4294967296 ^ i * (Zc (a.drop i) - (c+Zc (b.drop i)))),true):=fun d x j r s t=>by
    have ev:u32.wrap (u64.wrap (x - u64.wrap (((Xq b i:Nat):Int)+(c:Int))))=((Xq a i+4294967296 * d - (Xq b i+c):Nat):Int):=by
     rw [Xi (x:=((Xq b i:Nat):Int)+(c:Int)) (by omega),Xi (by omega),Vv (by omega)];omega
    rw [Zhh,ev,Zz (by simp only [aN,maxLen];omega),Zl4,Zp (by omega)]
    generalize hv:Xq a i+4294967296 * d - (Xq b i+c)=v
    have k:=Zxa N a b ha hb hN hs n (i+1) (out++[(v:Int)]) d (by simp [e]) (f.app (.cons (by omega) .nil)) j (by omega) (by omega) (by omega)
    rw [show ((i+1:Nat):Int)=(i:Int)+1 by omega] at k
    rw [k,Si,e,Y3,Yg,aB,Uh a i,Uh b i,aY,dB,bQ]
    congr 3
    refine Zo9 ?_
    omega
   rw [if_pos (dT (by omega)),Zdo ha,Zdo hb,oB,oB,Xi (x:=((Xq b i:Nat):Int)+(c:Int)) (by omega)]
   by_cases hlt:Xq a i<Xq b i+c
   ·rw [if_pos (dT (by omega))]
    exact go 1 _ (by omega) (by rw [Xi (by omega)];omega) (by omega) (by omega)
   ·rw [if_neg (dF (by omega))]
    exact go 0 _ (by omega) (by omega) (by omega) (by omega)
  ·rw [if_neg (dF (by omega)),Uj f (by omega) (by omega),oB]
   rw [aF (show a.length≤i by omega),Yg] at g ⊢
   rw [show 0 - (c+Zc (b.drop i))=0 by omega]
   simp
theorem Zkq {N:Nat} {a b:List Int} (ha:Zn a) (hb:Zn b) (h1:a.length<N) (h2:b.length<N) (h3:a.length<35184372088000) (h4:b.length<35184372088000):
  Zcj N a b=some (if Zc a<Zc b then ([],false) else (Zf (Zc a - Zc b),true)):=by
 rw [Zcj,Zpn ha hb h1 h2 (by omega) (by omega),oB]
 by_cases h:Zc a<Zc b
 ·rw [if_pos h,if_pos (by decide),if_pos h]
 ·have:=Zxa N a b ha hb h1 h3 N 0 [] 0 rfl .nil (by omega) (by omega) (by omega) (by simpa using Nat.le_of_not_lt h)
  rw [if_neg h,if_neg (by split <;> decide),if_neg h,show (0:Int)=((0:Nat):Int) from rfl,this]
  simp [Yg]
theorem Zwu (N:Nat) (a b:List Int) (ha:Zn a) (hb:Zn b) (i:Nat) (hi:i<a.length) (kk:List Int→Int→Option R2):∀ (n j:Nat) (p:List Int) (c:Nat),j≤b.length→b.length<n+j→i+b.length<p.length→p.length<4611686018427387904→Zn p→c<4294967296→Zc (p.drop (i+b.length))=0→
  ∃ p',Zej N a b (i:Int) kk n (j:Int) p (c:Int)=kk p' ((i:Int)+1)∧p'.length=p.length∧Zn p'∧Zc p'=Zc p+4294967296 ^ (i+j) * (c+Xq a i * Zc (b.drop j))∧Zc (p'.drop (i+b.length+1))=0
 | 0,j,p,c,e,q,_,_,_,_,_=>by omega
 | n+1,j,p,c,e,q,f,r,g,C,l=>by
  rw [Zej.eq_2]
  by_cases hj:j<b.length
  ·have d:i+j<p.length:=by omega
   have D:=g.get d
   have m:=ha.get hi
   have o:=hb.get hj
   have s:Xq a i=(a[i]).toNat:=by rw [Xq,aE,aG hi,cT]
   have E:a[i] * b[j]≤4294967295 * 4294967295:=Int.mul_le_mul (by omega) (by omega) (by omega) (by omega)
   have A:0≤a[i] * b[j]:=Int.mul_nonneg m.1 o.1
   have F:(((a[i]).toNat * (b[j]).toNat:Nat):Int)=a[i] * b[j]:=by rw [Int.natCast_mul,bE m.1,bE o.1]
   have t:u64.wrap (u64.wrap ((c:Int)+u64.wrap (u64.wrap a[i] * u64.wrap b[j]))+u64.wrap p[i+j])=((c+((a[i]).toNat * (b[j]).toNat+(p[i+j]).toNat):Nat):Int):=by
    rw [Xi (x:=a[i]) (by omega),Xi (x:=b[j]) (by omega),Xi (x:=a[i] * b[j]) (by omega),Xi (x:=p[i+j]) (by omega),Xi (x:=(c:Int)+_) (by omega),Xi (by omega)]
    omega
   rw [if_pos (dT (by omega)),Zs hi,oB,Zs hj,oB,Zp (x:=(i:Int)+(j:Int)) (by omega),show (i:Int)+(j:Int)=((i+j:Nat):Int) by omega,Zs d,oB,oB,aB,t]
   have B:c+((a[i]).toNat * (b[j]).toNat+(p[i+j]).toNat)<18446744073709551616:=by omega
   rw [Zp2 (by omega),Zp1 (by omega),aB,Zp (x:=(j:Int)+1) (by omega),show (j:Int)+1=((j+1:Nat):Int) by omega]
   generalize hS:c+((a[i]).toNat * (b[j]).toNat+(p[i+j]).toNat)=S at *
   obtain ⟨p',q1,u,v,w,y⟩:=Zwu N a b ha hb i hi kk n (j+1) (p.set (i+j) ((S % 4294967296:Nat):Int)) (S / 4294967296) (by omega) (by omega) (by rw [nS];exact f) (by rw [nS];exact r) (g.set _ (by omega)) (by omega) (by rw [Sx _ (by omega)];exact l)
   refine ⟨p',q1,by rw [u,nS],v,?_,y⟩
   rw [w,← dP i j 1,aY,V1 hj,s]
   exact Zuf _ _ _ _ _ _ (p[i+j]).toNat (S % 4294967296) _ _ (by have:=Us d ((S % 4294967296:Nat):Int);rw [aB] at this;exact this) (by omega)
  ·have:j=b.length:=by omega
   subst this
   have k:=drop_zero g f l
   rw [if_neg (dF (by omega)),Zp (x:=(i:Int)+(b.length:Int)) (by omega),show (i:Int)+(b.length:Int)=((i+b.length:Nat):Int) by omega,Zs f,oB,oB,aB,Vv (by omega),Zp (by omega)]
   refine ⟨_,rfl,by rw [nS],g.set _ (by omega),?_,?_⟩
   ·have e:=Us f (c:Int)
    rw [k.1,aB] at e
    rw [List.drop_length,Yg,dB,bQ]
    simpa using e
   ·rw [Sx _ (by omega)];exact k.2
theorem Zwt (N:Nat) (a b:List Int) (ha:Zn a) (hb:Zn b) (hN:a.length+b.length<N) (hs:a.length+b.length<35184372088000):∀ (n i:Nat) (p:List Int),i≤a.length→a.length<n+i→p.length=a.length+b.length→Zn p→Zc (p.drop (i+b.length))=0→
  Za4 N a b n p (i:Int)=some (Zf (Zc p+4294967296 ^ i * (Zc (a.drop i) * Zc b)))
 | 0,i,p,e,f,_,_,_=>by omega
 | n+1,i,p,e,f,o,c,g=>by
  rw [Za4.eq_2]
  by_cases hi:i<a.length
  ·obtain ⟨j,q1,q,k,l,m⟩:=Zwu N a b ha hb i hi (Za4 N a b n) N 0 p 0 (by omega) (by omega) (by omega) (by omega) c (by omega) g
   rw [show ((0:Nat):Int)=0 from rfl] at q1
   have d:=Zwt N a b ha hb hN hs n (i+1) j (by omega) (by omega) (by omega) k (by rw [show i+1+b.length=i+b.length+1 by omega];exact m)
   rw [show ((i+1:Nat):Int)=(i:Int)+1 by omega] at d
   rw [if_pos (dT (by omega)),q1,d,l,Uh a i,aY,aX]
   congr 2
   simp only [bQ,cK]
   grind
  ·rw [if_neg (dF (by omega)),Uj c (by omega) (by omega),oB,aF (by omega),Yg];simp
theorem Zwv {N:Nat} {a b:List Int} (ha:Zn a) (hb:Zn b) (h1:a.length+b.length<N) (h3:a.length+b.length<35184372088000):Zci N a b=some (Zf (Zc a * Zc b)):=by
 have c:=X9 ha
 have d:=X9 hb
 rw [Zci,Uj ha (by omega) (by omega),oB,Uj hb (by omega) (by omega),oB,Zp (by omega),Zz (by simp only [maxLen];omega)]
 have:=Zwt N (Zf (Zc a)) (Zf (Zc b)) (Z2 _) (Z2 _) (by omega) (by omega) N 0 (aI (aA (((Zf (Zc a)).length:Int)+((Zf (Zc b)).length:Int))) 0) (by omega) (by omega) (by rw [aQ];omega) (.zeros _) (by rw [fM];exact U5 _)
 rw [show ((0:Nat):Int)=0 from rfl] at this
 rw [this,U5,aX,Z3,Z3]
 simp
theorem Zv4 (N:Nat):∀ (n:Nat) (c:Int) (t:Nat),Xd t<n→t<4294967296→0≤c∧c+(Xd t:Int)≤4611686018427387904→Zee N n c (t:Int)=some (c+(Xd t:Int))
 | 0,c,t,h,_,_=>by omega
 | n+1,c,t,h,b,d=>by
  rw [Zee.eq_2]
  have f:Xd t≤32:=Vr.2 (by omega)
  by_cases h0:0<t
  ·have e:u32.wrap (aU (t:Int) 2)=((t / 2:Nat):Int):=by rw [bR (by omega),Vv (by omega)];omega
   have a:=Zit t 1
   rw [Nat.pow_one] at a
   have g:1≤Xd t:=by rw [Xd,if_neg (by omega)];omega
   rw [if_pos (dT (by omega)),e,Zp (by omega),Zv4 N n (c+1) (t / 2) (by omega) (by omega) (by omega)]
   congr 1;omega
  ·have:t=0:=by omega
   subst this
   rw [if_neg (by decide),Zf1];simp
theorem Z42 {N:Nat} {a:List Int} (h:Zn a) (hn:a.length+32<N) (hb:a.length≤35184372088000):Zjn N a=some ((Xd (Zc a):Nat):Int):=by
 have i:=X9 h
 rw [Zjn,Uj h (by omega) hb,oB]
 by_cases h0:(Zf (Zc a)).length=0
 ·have:Zc a=0:=Zf9.1 (bY h0)
  rw [if_pos (dT (by omega)),this,Zf1];rfl
 ·have b:0<(Zf (Zc a)).length:=by omega
  have e:((Zf (Zc a)).length:Int) - 1=(((Zf (Zc a)).length - 1:Nat):Int):=by omega
  have j:=(Z2 (Zc a)).get (k:=(Zf (Zc a)).length - 1) (by omega)
  have f:=Zlt b
  have c:=Zf8 b
  have d:(Zf (Zc a))[(Zf (Zc a)).length - 1]=(((Zf (Zc a))[(Zf (Zc a)).length - 1]).toNat:Int):=by omega
  have g:Xd ((Zf (Zc a))[(Zf (Zc a)).length - 1]).toNat≤32:=Vr.2 (by omega)
  rw [if_neg (dF (by omega)),Zp (by omega),e,Zs (by omega),oB,d,Zp (by omega),Zv4 N N _ _ (by omega) (by omega) (by omega)]
  have hb:=Zqh (a:=(Zf (Zc a)).take ((Zf (Zc a)).length - 1)) (x:=(Zf (Zc a))[(Zf (Zc a)).length - 1]) ((Z2 _).take _) (by omega)
  rw [c,Z3,nK,aR (by omega)] at hb
  rw [hb]
  congr 1
theorem Zyz (T l R k s:Nat) (hT:T<4294967296 ^ k) (hs:s<32):(T+4294967296 ^ k * (l+4294967296 * R)) / 2 ^ (32 * k+s) % 2=l / 2 ^ s % 2:=by
 have e:(4294967296:Nat) ^ k=2 ^ (32 * k):=by rw [show (4294967296:Nat)=2 ^ 32 by decide,← Nat.pow_mul]
 have a:0<4294967296 ^ k:=Nat.pow_pos (by decide)
 rw [cN,← e,← dX,fN _ _ a,dQ hT,cK]
 have b:(4294967296:Nat)=2 ^ s * (2 * 2 ^ (31 - s)):=by
  rw [Nat.mul_left_comm,← cN,show s+(31 - s)=31 by omega]
 have c:l+4294967296 * R=l+2 ^ s * (2 * (2 ^ (31 - s) * R)):=by
  conv=>lhs;rw [b]
  rw [bN,bN]
 rw [c,fN _ _ (bU s),Nat.add_mul_mod_self_left]
theorem Z41 {a:List Int} (h:Zn a) {i:Nat} (hi:i<4611686018427387904):Zjm a (i:Int)=some ((Zc a / 2 ^ i % 2:Nat):Int):=by
 have e:=Zdn h (i / 32)
 have c:i64.wrap (aU (i:Int) 32)=((i / 32:Nat):Int):=by rw [bR (by omega),Zp (by omega)];omega
 have d:bC (i:Int) 32=((i % 32:Nat):Int):=by rw [bW (by omega)];omega
 rw [Zjm,c,Zdo h,oB,d,Zz (by omega),Znb _ _ _ (by simp only [IntKind.bits];omega)]
 have f:=cB (Xq a (i / 32)) (2 ^ (i % 32))
 have b:=Zyz (Zc (a.take (i / 32))) (Xq a (i / 32)) (Zc (a.drop (i / 32+1))) (i / 32) (i % 32) (Zmm h _) (by omega)
 rw [← Uh a,← Ut,show 32 * (i / 32)+i % 32=i by omega] at b
 rw [b]
 generalize Xq a (i / 32) / 2 ^ (i % 32)=x at *
 rw [Vv (by omega),bW (by omega)]
 congr 1
theorem Zwe (N:Nat) (a:List Int) (ha:Zn a) (hs:a.length<35184372088000):∀ (n i:Nat) (out:List Int) (c:Nat),out.length=i→Zn out→c≤1→i≤a.length→a.length<n+i→
  ∃ o,Zel N a n out (c:Int) (i:Int)=some o∧o.length≤a.length+1∧Zn o∧Zc o=Zc out+4294967296 ^ i * (c+2 * Zc (a.drop i))
 | 0,i,out,c,_,_,_,e,f=>by omega
 | n+1,i,out,c,b,d,p,e,f=>by
  rw [Zel.eq_2]
  by_cases hi:i<a.length
  ·have q:=ha.get hi
   have g:u64.wrap ((c:Int)+u64.wrap (2 * u64.wrap a[i]))=((c+2 * (a[i]).toNat:Nat):Int):=by
    rw [Xi (x:=a[i]) (by omega),Xi (x:=2 * _) (by omega),Xi (by omega)];omega
   rw [if_pos (dT (by omega)),Zs hi,oB,g,Zp2 (by omega),Zp1 (by omega),aB]
   generalize hS:c+2 * (a[i]).toNat=S
   rw [Zz (by simp only [aN,maxLen];omega),Zp (by omega)]
   obtain ⟨o,q1,j,k,l⟩:=Zwe N a ha hs n (i+1) (out++[((S % 4294967296:Nat):Int)]) (S / 4294967296) (by simp [b]) (d.app (.cons (by omega) .nil)) (by omega) (by omega) (by omega)
   rw [show ((i+1:Nat):Int)=(i:Int)+1 by omega] at q1
   refine ⟨o,q1,j,k,?_⟩
   rw [l,Si,b,Y3,Yg,aB,V1 hi,aY,dB,bQ]
   refine Zo9 ?_
   omega
  ·have m:i=a.length:=by omega
   rw [if_neg (dF (by omega))]
   by_cases hcp:0<c
   ·rw [if_pos (dT (by omega)),Zz (by simp only [aN,maxLen];omega),Zhj,Vv (by omega)]
    refine ⟨_,rfl,by simp;omega,d.app (.cons (by omega) .nil),?_⟩
    rw [Si,b,Y3,Yg,aB,aF (by omega),Yg]
   ·have:c=0:=by omega
    subst this
    rw [if_neg (by decide),Zhj]
    refine ⟨_,rfl,by omega,d,?_⟩
    rw [aF (by omega),Yg];simp
theorem Zwf {N:Nat} {a:List Int} {c:Nat} (ha:Zn a) (hc:c≤1) (hN:a.length<N) (hs:a.length<35184372088000):∃ o,Zhi N a (c:Int)=some o∧o.length≤a.length+1∧Zn o∧Zc o=2 * Zc a+c:=by
 obtain ⟨o,q1,b,d,e⟩:=Zwe N a ha hs N 0 [] c rfl .nil hc (by omega) (by omega)
 refine ⟨o,?_,b,d,?_⟩
 ·rw [Zhi,Xi (by omega)];exact q1
 ·rw [e,Yg,dA,aX];omega
theorem Z2u (Q e o2 r S v L:Nat) (h:r * 4294967296+e=2 * v+o2) (hS:S=Q * (o2+2 * (v+4294967296 * L))):S=Q * e+Q * 4294967296 * (r+2 * L):=by
 subst hS
 have:Q * (r * 4294967296+e)=Q * (2 * v+o2):=by rw [h]
 grind
theorem Zws (N:Nat) (a:List Int) (ha:Zn a) (hN:a.length<N) (hs:a.length<35184372088000):∀ (n j:Nat) (out:List Int) (r:Nat),out.length=a.length→Zn out→r≤1→j≤a.length→j<n→Zc (out.take j)=0→
  ∃ v,Zem N a n out (r:Int) ((j:Int) - 1)=some (Zf v)∧∃ ρ,ρ≤1∧2 * v+ρ=Zc (a.take j)+4294967296 ^ j * (r+2 * Zc (out.drop j))
 | 0,j,out,r,_,_,_,_,h,_=>by omega
 | n+1,j,out,r,i,c,k,y,A,l=>by
  rw [Zem.eq_2]
  by_cases h0:j=0
  ·subst h0
   rw [if_neg (by decide),Uj c (by omega) (by omega),oB]
   refine ⟨_,rfl,r,k,?_⟩
   rw [List.take_zero,Yg,aX,dA];omega
  ·have e:(j:Int) - 1=((j - 1:Nat):Int):=by omega
   have m:j - 1+1=j:=by omega
   have b:j - 1<a.length:=by omega
   have g:=ha.get b
   have o:u64.wrap (u64.wrap ((r:Int) * 4294967296)+u64.wrap a[j - 1])=((r * 4294967296+(a[j - 1]).toNat:Nat):Int):=by
    rw [Xi (x:=a[j - 1]) (by omega),Xi (x:=(r:Int) * 4294967296) (by omega),Xi (by omega)];omega
   rw [if_pos (dT (by omega)),e,Zs b,oB,Zs (by omega),oB,oB,aB,o,Zp (by omega)]
   generalize hS:r * 4294967296+(a[j - 1]).toNat=S
   have p:u32.wrap (u64.wrap (aU (S:Int) 2))=((S / 2:Nat):Int):=by rw [bR (by omega),Xi (by omega),Vv (by omega)];omega
   have q:bC (S:Int) 2=((S % 2:Nat):Int):=by rw [bW (by omega)];omega
   have s:Zc (out.take (j - 1))=0:=by
    have:=Ut (out.take j) (j - 1)
    rw [fK,aR (by omega),l] at this
    omega
   rw [p,q]
   obtain ⟨v,q1,ρ,t,u⟩:=Zws N a ha hN hs n (j - 1) (out.set (j - 1) ((S / 2:Nat):Int)) (S % 2) (by rw [nS];exact i) (c.set _ (by omega)) (by omega) (by omega) (by omega) (by rw [Zdd _ (bB _)];exact s)
   refine ⟨v,q1,ρ,t,?_⟩
   rw [u]
   have d:=Zo6 b
   have f:Zc ((out.set (j - 1) ((S / 2:Nat):Int)).drop (j - 1))=S / 2+4294967296 * Zc (out.drop (j - 1+1)):=by
    rw [V1 (by rw [nS];omega),List.getElem_set_self,Sx _ (by omega),aB]
   rw [m] at d f
   have w:(4294967296:Nat) ^ j=4294967296 ^ (j - 1) * 4294967296:=by rw [← aY,show (j - 1).succ=j by omega]
   rw [d,f,w,dP]
   congr 1
   exact Z2u _ _ (S % 2) _ _ (S / 2) _ (by omega) rfl
theorem Zm8 {N:Nat} {a:List Int} (ha:Zn a) (hN:a.length<N) (hs:a.length<35184372088000):Zcl N a=some (Zf (Zc a / 2)):=by
 obtain ⟨v,q1,ρ,c,b⟩:=Zws N a ha hN hs N a.length (aI a.length 0) 0 (by rw [aQ]) (.zeros _) (by omega) (bB _) hN (by rw [List.take_replicate];exact U5 _)
 rw [Zcl,Zz (by simp only [maxLen];omega),Zp (by omega)]
 rw [eX,fM,U5] at b
 refine Eq.trans q1 ?_
 rw [show v=Zc a / 2 by omega]
theorem Z34 {a:List Int} (h:Zn a):Zc a % 2=Xq a 0 % 2:=by
 have:=Uh a 0
 rw [aX] at this
 omega
theorem Zm7 {a:List Int} (h:Zn a):Zck a=some (decide (Zc a % 2=0)):=by
 rw [Zck,Z34 h]
 by_cases h0:a.length=0
 ·have:a=[]:=bY h0
  subst this
  rfl
 ·have g:=h.get (k:=0) (by omega)
  have b:Xq a 0=(a[0]).toNat:=by rw [Xq,aE,aG (by omega),cT]
  rw [if_neg (dF (by omega)),show (0:Int)=((0:Nat):Int) from rfl,Zs (by omega),oB,Zjq,bW (by omega),b]
  congr 1
  exact decide_eq_decide.2 (by omega)
theorem Z4d {q:List Int} (hq:Zn q) {i:Nat} (hi:i<32 * q.length) (hd:2 ^ (i+1) ∣ Zc q):
  ∃ x:Nat,Zi q ((i / 32:Nat):Int)=some (x:Int)∧u32.wrap ((x:Int)+Xy .u32 1 ((i % 32:Nat):Int))=((x+2 ^ (i % 32):Nat):Int)∧x+2 ^ (i % 32)<4294967296∧Zc (q.set (i / 32) ((x+2 ^ (i % 32):Nat):Int))=Zc q+2 ^ i:=by
 have a:i / 32<q.length:=by omega
 have g:=hq.get a
 have m:i % 32<32:=Nat.mod_lt _ (by decide)
 have A:=bU (i % 32)
 have c:(4294967296:Nat) ^ (i / 32)=2 ^ (32 * (i / 32)):=by rw [show (4294967296:Nat)=2 ^ 32 by decide,← Nat.pow_mul]
 have d:(4294967296:Nat)=2 ^ (i % 32+1) * 2 ^ (31 - i % 32):=by rw [← cN,show i % 32+1+(31 - i % 32)=32 by omega]
 have n:(2:Nat) ^ (i+1)=4294967296 ^ (i / 32) * 2 ^ (i % 32+1):=by rw [c,← cN];congr 1;omega
 have f:(2:Nat) ^ i=4294967296 ^ (i / 32) * 2 ^ (i % 32):=by rw [c,← cN];congr 1;omega
 have b:=Ut q (i / 32)
 rw [V1 a] at b
 have o:=Zmm hq (i / 32)
 have p:0<4294967296 ^ (i / 32):=Nat.pow_pos (by decide)
 rw [n] at hd
 -- the limb's lower bits are none
 have r:2 ^ (i % 32+1) ∣ (q[i / 32]).toNat:=by
  have j:4294967296 ^ (i / 32) ∣ Zc q:=Nat.dvd_trans ⟨_,rfl⟩ hd
  have s:4294967296 ^ (i / 32) ∣ Zc (q.take (i / 32)):=by
   rw [b] at j
   exact (iS ⟨_,rfl⟩).1 j
  have z:Zc (q.take (i / 32))=0:=Nat.eq_zero_of_dvd_of_lt s o
  rw [z,cK] at b
  rw [b] at hd
  have t:=Nat.dvd_of_mul_dvd_mul_left p hd
  have u:2 ^ (i % 32+1) ∣ 4294967296 * Zc (q.drop (i / 32+1)):=by
   conv=>rhs;rw [d]
   exact ⟨2 ^ (31 - i % 32) * Zc (q.drop (i / 32+1)),by rw [bN]⟩
  exact (iS u).1 t
 obtain ⟨y,k⟩:=r
 have l:(q[i / 32]).toNat+2 ^ (i % 32)<4294967296:=by
  have e:2 ^ (i % 32+1) * y<2 ^ (i % 32+1) * 2 ^ (31 - i % 32):=by rw [← k,← d];omega
  have v:=Nat.lt_of_mul_lt_mul_left e
  have w:=aS (2 ^ (i % 32+1)) (show y+1≤2 ^ (31 - i % 32) from v)
  rw [← d,Nat.mul_add,← k,aY] at w
  omega
 refine ⟨(q[i / 32]).toNat,by rw [Zs a];congr 1;omega,?_,l,?_⟩
 ·rw [show (1:Int)=((1:Nat):Int) from rfl,Zpx m (.inl rfl),bP,Vv (x:=((2 ^ (i % 32):Nat):Int)) (by omega),Vv (by omega)]
  omega
 ·have e:=Us a (((q[i / 32]).toNat+2 ^ (i % 32):Nat):Int)
  rw [aB,Nat.mul_add,← f] at e
  omega
theorem Zpp (N:Nat) (a y:List Int) (ha:Zn a) (hy:Zn y) (hy0:0<Zc y) (hly:y.length+8<N) (hs:y.length<35184372000000) (hla:a.length<35184372000000) (hyc:(Zf (Zc y)).length=y.length) (hNa:a.length+y.length+8<N):∀ (n j:Nat) (r q:List Int),j<n→j<4611686018427387904→j≤32 * q.length→q.length≤a.length→Zn q→r=Zf (Zc r)→Zc r<Zc y→2 ^ j ∣ Zc q→Zc a / 2 ^ j=Zc q / 2 ^ j * Zc y+Zc r→
  Za2 N a y n r ((j:Int) - 1) q=some (Zf (Zc a / Zc y),Zf (Zc a % Zc y),0)
 | 0,j,r,q,h,_,_,_,_,_,_,_,_=>by omega
 | n+1,j,r,q,O,R,P,p,m,t,g,C,k=>by
  rw [Za2.eq_2]
  by_cases h0:j=0
  ·subst h0
   rw [dA,Nat.div_one,Nat.div_one] at k
   rw [if_neg (by decide),Uj m (by omega) (by omega),oB]
   have D:Zc a / Zc y=Zc q:=by rw [k,bL,Nat.mul_add_div hy0,dQ g,bQ]
   have u:Zc a % Zc y=Zc r:=by rw [k,bL,Nat.mul_add_mod,Nat.mod_eq_of_lt g]
   rw [D,u,← t]
  ·have e:(j:Int) - 1=((j - 1:Nat):Int):=by omega
   obtain ⟨i,rfl⟩:∃ i,j=i+1:=⟨j - 1,by omega⟩
   have E:i+1 - 1=i:=by omega
   rw [e,E]
   have Q:r.length≤y.length:=by
    rw [t,← hyc];exact Vf (Nat.le_of_lt g)
   have v:Zn r:=by rw [t];exact Z2 _
   have S:=Nat.mod_lt (Zc a / 2 ^ i) (show 0<2 by decide)
   obtain ⟨d,F,T,o,w⟩:=Zwf (N:=N) (a:=r) (c:=Zc a / 2 ^ i % 2) v (by omega) (by omega) (by omega)
   have u:Zc a / 2 ^ i=2 * (Zc a / 2 ^ (i+1))+Zc a / 2 ^ i % 2:=by
    rw [aY,← dX];omega
   obtain ⟨qq,f⟩:=C
   have A:Zc q / 2 ^ (i+1)=qq:=by rw [f,eT _ (bU _)]
   have s:Zc q / 2 ^ i=2 * qq:=by rw [f,aY,bN,eT _ (bU _)]
   rw [A] at k
   rw [if_pos (dT (by omega)),Z41 ha (by omega),oB,F,oB,Uj o (by omega) (by omega),oB,Zpn (Z2 _) hy (by have:=X9 o;omega) (by omega) (by have:=X9 o;omega) (by omega),oB,Z3,w]
   rw [k] at u
   have l:Zc a / 2 ^ i=2 * qq * Zc y+(2 * Zc r+Zc a / 2 ^ i % 2):=by
    have:2 * qq * Zc y=2 * (qq * Zc y):=bN _ _ _
    omega
   generalize hbit:Zc a / 2 ^ i % 2=b at *
   by_cases hge:Zc y≤2 * Zc r+b
   ·rw [if_pos (by rw [if_neg (by omega)];split <;> decide)]
    obtain ⟨x,G,H,I,B⟩:=Z4d m (i:=i) (by omega) ⟨qq,f⟩
    have J:i64.wrap (aU (i:Int) 32)=((i / 32:Nat):Int):=by rw [bR (by omega),Zp (by omega)];omega
    have K:bC (i:Int) 32=((i % 32:Nat):Int):=by rw [bW (by omega)];omega
    have U:(Zf (2 * Zc r+b)).length≤y.length+1:=by rw [← w];exact bA (X9 o) (by omega)
    rw [Zkq (Z2 _) hy (by omega) (by omega) (by omega) (by omega),oB,Z3,if_neg (by omega),J,K,G,oB,Zz (by omega),H,oB,aB,Zhb,Zp (by omega)]
    have L:=Zpp N a y ha hy hy0 hly hs hla hyc hNa n i (Zf (2 * Zc r+b - Zc y)) (q.set (i / 32) ((x+2 ^ (i % 32):Nat):Int)) (by omega) (by omega) (by rw [nS];omega) (by rw [nS];exact p) (m.set _ ⟨Int.natCast_nonneg _,Int.ofNat_lt.2 I⟩) (by rw [Z3]) (by rw [Z3];omega) (by
     rw [B,f];exact Nat.dvd_add ⟨2 * qq,by rw [aY,bN]⟩ (Nat.dvd_refl _)) (by
     have:Zc (q.set (i / 32) ((x+2 ^ (i % 32):Nat):Int)) / 2 ^ i=2 * qq+1:=by
      rw [B,Nat.add_div_right _ (bU _),s]
     rw [this,Z3,l,Nat.add_mul,bP];omega)
    exact L
   ·rw [if_neg (by rw [if_pos (by omega)];decide),Zhb,Zp (by omega)]
    exact Zpp N a y ha hy hy0 hly hs hla hyc hNa n i (Zf (2 * Zc r+b)) q (by omega) (by omega) (by omega) p m (by rw [Z3]) (by rw [Z3];omega) (by rw [f];exact ⟨2 * qq,by rw [aY,bN]⟩) (by rw [s,Z3,l])
theorem Zwd {N:Nat} {a b:List Int} (ha:Zn a) (hb:Zn b) (hN:32 * a.length+(Zf (Zc b)).length+48<N) (hbN:b.length<N) (hs:a.length+(Zf (Zc b)).length<35184370000000) (hbs:b.length≤35184372000000):
  Zha N a b=some (if Zc b=0 then ([],[],11) else (Zf (Zc a / Zc b),Zf (Zc a % Zc b),0)):=by
 have f:=X9 ha
 rw [Zha,Uj hb (by omega) (by omega),oB]
 by_cases h0:Zc b=0
 ·rw [h0,Wv,if_pos (by decide),if_pos rfl]
 ·have d:=T0 h0
  have e:=(Zk9 (Zc a)).2
  rw [if_neg (dF (by omega)),if_neg h0,Z42 ha (by omega) (by omega),oB]
  have c:i64.wrap (aU (i64.wrap (((Xd (Zc a):Nat):Int)+31)) 32)=(((Xd (Zc a)+31) / 32:Nat):Int):=by
   rw [Zp (x:=((Xd (Zc a):Nat):Int)+31) (by omega),bR (by omega),Zp (by omega)];omega
  rw [c,Zz (by simp only [maxLen,aB];omega),aB,Zp (by omega)]
  have:=Zpp N a (Zf (Zc b)) ha (Z2 _) (by rw [Z3];omega) (by omega) (by omega) (by omega) (by rw [Z3]) (by omega) N (Xd (Zc a)) [] (aI ((Xd (Zc a)+31) / 32) 0) (by omega) (by omega) (by rw [aQ];omega) (by rw [aQ];omega) (.zeros _) (by rw [Yg,Wv]) (by rw [Z3,Yg];omega) (by rw [U5];exact ⟨0,rfl⟩) (by
   rw [U5,Yg,Nat.zero_div,Nat.zero_mul]
   exact dQ (Vr.1 (bB _)))
  rw [Z3] at this
  exact this
theorem Z1l {x:Nat} (h:x % 2=1):Nat.Coprime 2 x:=by
 rw [Nat.coprime_iff_gcd_eq_one,Nat.gcd_rec,h,Nat.gcd_one_left]
theorem Zsq {x y k:Nat} (h:y % 2=1):cJ (2 ^ k * x) y=cJ x y:=by
 induction k with
 | zero=>rw [dA,bP]
 | succ k a=>rw [aY,bL (2 ^ k),bN,(Z1l h).gcd_mul_left_cancel,a]
theorem Z2t {x y k:Nat} (h:x % 2=1):cJ x (2 ^ k * y)=cJ x y:=by
 rw [eK,Zsq h,eK]
theorem Zla {x:Nat} (h:x≠0):1≤Xd x:=by rw [Xd,if_neg h];omega
theorem Zk8 (x:Nat):Xd (x / 2)=Xd x - 1:=by
 have:=Zit x 1
 rwa [Nat.pow_one] at this
theorem Zis {x y:Nat} (h:x≤y):Xd x≤Xd y:=Vr.2 (Nat.lt_of_le_of_lt h (Vr.1 (bB _)))
theorem Zir {M x:Nat} (h:(Zf x).length≤M):Xd x≤32 * M:=by have:=(Zk9 x).2;omega
theorem Ztc {x xo k:Nat} (h:x=2 ^ k * xo):xo≤x:=by
 rw [h]
 have:=bF xo (bU k)
 omega
section
variable {N M:Nat} (hN:100 * M+64<N) (hM:M<1066000000100)
include hN hM
theorem Zwq (t:Nat):∀ (n i:Nat) (x:List Int),i≤t→t - i<n→t≤32 * M→Zn x→x.length+(t - i)≤33 * M→
  ∃ g,Zei N (t:Int) n x (i:Int)=some g∧Zn g∧Zc g=2 ^ (t - i) * Zc x∧g.length≤x.length+(t - i)
 | 0,i,x,_,h,_,_,_=>by omega
 | n+1,i,x,p,q,j,b,r=>by
  rw [Zei.eq_2]
  by_cases h0:i<t
  ·obtain ⟨d,e,s,k,l⟩:=Zwf (N:=N) (a:=x) (c:=0) b (by omega) (by omega) (by omega)
   rw [show ((0:Nat):Int)=0 from rfl] at e
   obtain ⟨g,f,m,o,u⟩:=Zwq t n (i+1) d (by omega) (by omega) j k (by omega)
   rw [show ((i+1:Nat):Int)=(i:Int)+1 by omega] at f
   rw [if_pos (dT (by omega)),e,oB,Zp (by omega)]
   refine ⟨g,f,m,?_,by omega⟩
   rw [o,l,bQ (2 * Zc x),← bN,← aY]
   congr 2;omega
  ·have:i=t:=by omega
   subst this
   rw [if_neg (dF (by omega))]
   exact ⟨x,rfl,b,by simp,by omega⟩
theorem Zwp (kk:List Int→List Int→Option R2) {x:Nat} (hx:(Zf x).length≤M):∀ (n y:Nat),y≠0→Xd y<n→(Zf y).length≤M→
  ∃ yo k,y=2 ^ k * yo∧yo % 2=1∧Q3 N kk (Zf x) n (Zf y)=kk (Zf (min x yo)) (Zf (max x yo - min x yo))
 | 0,y,_,h,_=>by omega
 | n+1,y,a,f,b=>by
  have g:=T0 a
  rw [Q3.eq_2,if_pos (dT (by omega)),Zm7 (Z2 _),Z3,oB,Zjp]
  by_cases he:y % 2=0
  ·rw [if_pos (dT he),Zm8 (Z2 _) (by omega) (by omega),oB,Z3]
   have i:=Zk8 y
   have j:=Zla a
   obtain ⟨yo,k,c,d,e⟩:=Zwp kk hx n (y / 2) (by omega) (by omega) (bA (Vf (cB _ _)) b)
   refine ⟨yo,k+1,?_,d,e⟩
   rw [aY,bL (2 ^ k),bN,← c];omega
  ·rw [if_neg (dF he),Zpn (Z2 _) (Z2 _) (by omega) (by omega) (by omega) (by omega),oB,Z3,Z3]
   refine ⟨y,0,by simp,by omega,?_⟩
   by_cases hxy:y<x
   ·rw [if_pos (by rw [if_neg (by omega),if_pos hxy];decide),Zhd,Zkq (Z2 _) (Z2 _) (by omega) (by omega) (by omega) (by omega),oB,Z3,Z3,if_neg (by omega),dH (by omega),eZ (by omega)]
   ·rw [if_neg (by split <;> (try split) <;> simp_all <;> omega),Zhd,Zkq (Z2 _) (Z2 _) (by omega) (by omega) (by omega) (by omega),oB,Z3,Z3,if_neg (by omega),aR (by omega),eU (by omega)]
theorem Zwo (kk:List Int→List Int→Option R2) {y:Nat}:∀ (n x:Nat),x≠0→Xd x<n→(Zf x).length≤M→
  ∃ xo k,x=2 ^ k * xo∧xo % 2=1∧Zeh N (Zf y) kk n (Zf x)=Q3 N kk (Zf xo) N (Zf y)
 | 0,x,_,h,_=>by omega
 | n+1,x,a,f,b=>by
  rw [Zeh.eq_2,Zm7 (Z2 _),Z3,oB]
  by_cases he:x % 2=0
  ·rw [if_pos (dT he),Zm8 (Z2 _) (by omega) (by omega),oB,Z3]
   have g:=Zk8 x
   have i:=Zla a
   obtain ⟨xo,k,c,d,e⟩:=Zwo kk n (x / 2) (by omega) (by omega) (bA (Vf (cB _ _)) b)
   refine ⟨xo,k+1,?_,d,e⟩
   rw [aY,bL (2 ^ k),bN,← c];omega
  ·rw [if_neg (dF he)]
   exact ⟨x,0,by simp,by omega,rfl⟩
theorem Zwr (t:Nat) {n x y:Nat} (hx:x≠0) (hy:y≠0) (h:x % 2=1∨y % 2=1) (lx:(Zf x).length≤M) (ly:(Zf y).length≤M):
  ∃ x' y',V0 N (t:Int) (n+1) (Zf x) (Zf y)=V0 N (t:Int) n (Zf x') (Zf y')∧x' % 2=1∧y' % 2=0∧cJ x' y'=cJ x y∧(Zf x').length≤M∧(Zf y').length≤M∧(Xd x'+Xd y'≤Xd x+Xd y)∧(y % 2=0→Xd x'+Xd y'+1≤Xd x+Xd y):=by
 have w:=T0 hy
 have A:=Zir lx
 have s:=Zir ly
 obtain ⟨a,k,g,j,m⟩:=Zwo hN hM (V0 N (t:Int) n) (y:=y) N x hx (by omega) lx
 have f:=Ztc g
 obtain ⟨yo,l,d,o,p⟩:=Zwp hN hM (V0 N (t:Int) n) (x:=a) (bA (Vf f) lx) N y hy (by omega) ly
 have i:=Ztc d
 rw [V0.eq_2,if_pos (dT (by omega)),m,p]
 have B:max a yo≤max x y:=by omega
 have lM:(Zf (max x y)).length≤M:=by
  rcases gT x y with h | h
  ·rw [eU h];exact ly
  ·rw [eZ h];exact lx
 have u:Xd (min a yo)+Xd (max a yo - min a yo)≤Xd a+Xd yo:=by
  rcases gT a yo with h | h
  ·rw [aR h,eU h]
   have:=Zis (gH yo a);omega
  ·rw [dH h,eZ h]
   have:=Zis (gH a yo);omega
 have C:=Zis f
 have D:=Zis i
 refine ⟨_,_,rfl,by omega,by omega,?_,bA (Vf (by omega)) lM,bA (Vf (by omega)) lM,by omega,fun v=>?_⟩
 ·have q:cJ (min a yo) (max a yo - min a yo)=cJ a yo:=by
   rcases gT a yo with h | h
   ·rw [aR h,eU h,gU h]
   ·rw [dH h,eZ h,gU h,eK]
  rw [q,g,d]
  rcases h with h | h
  ·have c:k=0:=by
    rcases eP k with c | c
    ·exact c
    ·obtain ⟨b,rfl⟩:∃ b,k=b+1:=⟨k - 1,by omega⟩
     rw [g,aY,bL (2 ^ b),bN] at h;omega
   subst c
   rw [dA,bP,Z2t j]
  ·have e:l=0:=by
    rcases eP l with c | c
    ·exact c
    ·obtain ⟨b,rfl⟩:∃ b,l=b+1:=⟨l - 1,by omega⟩
     rw [d,aY,bL (2 ^ b),bN] at h;omega
   subst e
   rw [dA,bP,Zsq o]
 ·have:yo≤y / 2:=by
   rcases eP l with e | e
   ·subst e;rw [dA,bP] at d;omega
   ·obtain ⟨b,rfl⟩:∃ b,l=b+1:=⟨l - 1,by omega⟩
    rw [d,aY,bL (2 ^ b),bN,eT _ (by decide)]
    have:=bF yo (bU b)
    omega
  have r:=Zis this
  rw [Zk8] at r
  have E:=Zla hy
  omega
theorem Zwn (t:Nat) (ht:t≤32 * M):∀ (n x y:Nat),x % 2=1→y % 2=0→Xd x+Xd y<n→(Zf x).length≤M→(Zf y).length≤M→
  ∃ g,V0 N (t:Int) n (Zf x) (Zf y)=some g∧Zn g∧Zc g=2 ^ t * cJ x y∧g.length≤33 * M
 | 0,x,y,_,_,h,_,_=>by omega
 | n+1,x,y,e,f,v,i,j=>by
  by_cases h0:y=0
  ·subst h0
   rw [V0.eq_2,Wv,if_neg (by decide)]
   obtain ⟨g,b,c,a,d⟩:=Zwq hN hM t N 0 (Zf x) (by omega) (by omega) ht (Z2 _) (by omega)
   rw [Z3,Nat.sub_zero] at a
   exact ⟨g,b,c,by rw [a,iM],by omega⟩
  ·obtain ⟨k,l,m,o,p,q,r,s,_,u⟩:=Zwr hN hM t (n:=n) (by omega) h0 (.inl e) i j
   have:=u f
   obtain ⟨g,b,c,a,d⟩:=Zwn t ht n k l o p (by omega) r s
   exact ⟨g,by rw [m,b],c,by rw [a,q],d⟩
theorem Zwm:∀ (n x y t:Nat),x≠0→y≠0→Xd x<n→t+Xd x≤32 * M→(Zf x).length≤M→(Zf y).length≤M→
  ∃ g,Za3 N n (Zf x) (Zf y) (t:Int)=some g∧Zn g∧Zc g=2 ^ t * cJ x y∧g.length≤33 * M
 | 0,x,y,t,_,_,h,_,_,_=>by omega
 | n+1,x,y,t,k,l,B,C,d,e=>by
  have D:=Zir d
  have w:=Zir e
  have a:(x % 2=1∨y % 2=1)→∃ g,V0 N (t:Int) N (Zf x) (Zf y)=some g∧Zn g∧Zc g=2 ^ t * cJ x y∧g.length≤33 * M:=fun h=>by
   obtain ⟨b,A⟩:∃ b,N=b+1:=⟨N - 1,by omega⟩
   obtain ⟨m,o,p,q,r,s,u,v,E,_⟩:=Zwr hN hM t (n:=b) k l h d e
   obtain ⟨g,c,f,i,j⟩:=Zwn hN hM t (by omega) b m o q r (by omega) u v
   refine ⟨g,?_,f,by rw [i,s],j⟩
   rw [← c,← p]
   congr 1
  rw [Za3.eq_2,Zm7 (Z2 _),Z3,oB]
  by_cases hxe:x % 2=0
  ·rw [if_pos (dT hxe),Zm7 (Z2 _),Z3,oB,Zhc]
   by_cases hye:y % 2=0
   ·rw [if_pos (dT hye),Zm8 (Z2 _) (by omega) (by omega),oB,Zm8 (Z2 _) (by omega) (by omega),oB,Z3,Z3,Zp (by omega)]
    have F:=Zk8 x
    have G:=Zla k
    obtain ⟨g,c,f,i,j⟩:=Zwm n (x / 2) (y / 2) (t+1) (by omega) (by omega) (by omega) (by omega) (bA (Vf (cB _ _)) d) (bA (Vf (cB _ _)) e)
    rw [show ((t+1:Nat):Int)=(t:Int)+1 by omega] at c
    refine ⟨g,c,f,?_,j⟩
    rw [i,aY,bN,← Nat.gcd_mul_left]
    congr 2 <;> omega
   ·rw [if_neg (dF hye)]
    exact a (.inr (by omega))
  ·rw [if_neg (dF hxe),Zhc,if_neg (by decide)]
   exact a (.inl (by omega))
end
theorem Z5g {N M:Nat} {a b:List Int} (ha:Zn a) (hb:Zn b) (hla:a.length≤M) (hlb:b.length≤M) (hN:100 * M+64<N) (hM:M<1066000000100):∃ g,Zjo N a b=some g∧Zn g∧Zc g=cJ (Zc a) (Zc b)∧g.length≤33 * M:=by
 have i:=X9 ha
 have j:=X9 hb
 rw [Zjo,Uj ha (by omega) (by omega),oB,Uj hb (by omega) (by omega),oB]
 by_cases h1:Zc a=0
 ·rw [h1,Wv,if_pos (by decide),Nat.gcd_zero_left]
  exact ⟨_,rfl,Z2 _,Z3 _,by omega⟩
 ·have p1:=T0 h1
  rw [if_neg (dF (by omega))]
  by_cases h2:Zc b=0
  ·rw [h2,Wv,if_pos (by decide),iM]
   exact ⟨_,rfl,Z2 _,Z3 _,by omega⟩
  ·have p2:=T0 h2
   have k:=Zir (x:=Zc a) (by omega)
   rw [if_neg (dF (by omega))]
   obtain ⟨g,c,d,e,f⟩:=Zwm hN hM N (Zc a) (Zc b) 0 h1 h2 (by omega) (by omega) (by omega) (by omega)
   exact ⟨g,c,d,by rw [e];simp,f⟩
def Zl8:Option R2:=
  some [1]
theorem Z0d {col:Zd} {w0:World} {r:R2} (c1:Nat) (hm:Zl8=some r):
    Calls prog 147 #[] w0 (W2 .u32 45 c1 col w0 r):=by
 refine Z7 0 (m:=2) func147 rfl rfl rfl rfl rfl ?_;rw [Zl8.eq_1] at hm;have aa:=St.start col w0;refine go ?_;refine Wt (col:=(Zg col)) [1] 1 ?_;intro ad ae af ab ac;refine go ?_;cases hm;replace aa:=aa.grow ab;exact ⟨rfl,_,_,1,rfl,aa.fin (cm [(1,c1)]),aa.fo ac⟩
def Sd (N:Nat) (ab:R1):Option R2:=
  (Vl N ab.2).bind fun aa=>if (decide ((aa.length:Int)=0))=true then ((Zl8).bind fun ac=>some ac) else (some aa)
theorem Zbr {N ad ae:Nat} {af ag:Option Addr} {col:Zd} {w0:World} {ab:R1} {r:R2} (c1:Nat) (hm:Sd N ab=some r) (aq:Sl rU col w0 af ad ab.1.2) (ac:Sl rU col w0 ag ae ab.2):
    Calls prog 107 #[(.agg #[.bool ab.1.1,.slice af ab.1.2.length ad,.slice ag ab.2.length ae])] w0 (W2 .u32 45 c1 col w0 r):=by
 refine Z7 2 (m:=12) func107 rfl rfl rfl rfl rfl ?_;rw [Sd.eq_1] at hm;have aa:=St.start col w0;refine go ?_;refine Xf (col:=(Zg col)) 1 rfl ?_;intro ar au av ah ai;refine go ?_;refine Zy ai ?_;obtain ⟨aw,aj,hm⟩:=bZ hm;replace aa:=aa.grow ah;refine Zh (Uc 2 aj (ac.k0.ks aa)) ?_;rintro _ ax ⟨ak,ay,az,rfl,al,am⟩;refine ⟨_,rfl,go ?_⟩;replace aa:=aa.grow al;refine Zl hm (fun hb hm=>go ?_) fun hb hm=>go ?_
 ·obtain ⟨a0,an,hm⟩:=bZ hm;refine lc rfl rfl (Zfr call147) (Z0d (col:=ak) 3 an:) ?_;rintro _ a1 ⟨a2,a3,a4,rfl,ao,ap⟩;refine ⟨_,rfl,go ?_⟩;cases hm;replace aa:=aa.grow ao;exact ⟨rfl,_,_,_,rfl,aa.fin (cm [(3,c1)]),aa.fo ap⟩
 cases hm;exact ⟨rfl,_,_,_,rfl,aa.fin (cm [(2,c1)]),aa.fo am⟩
def Q4 (aa:List Int):Option R5:=
  some (false,aa)
theorem Zlh {ac:Nat} {a0:Option Addr} {col:Zd} {w0:World} {ab:R2} {r:R5} (hm:Q4 ab=some r) (h0:Sl rU col w0 a0 ac ab):
    Calls prog 109 #[.slice a0 ab.length ac] w0 (fun e w'=>∃ col' ra1 rc2,e= .returned ((.agg #[.bool r.1,.slice ra1 r.2.length rc2]))∧Zk col w0 col' w'∧Sl rU col' w' ra1 rc2 r.2):=by
 refine Yw (m:=5) func109 rfl rfl rfl ?_;rw [Q4.eq_1] at hm;have aa:=St.start col w0;refine go ?_;refine Xt (col:=(Zg col)) #[.bool false,(nI)] 1 zeroValue40 ?_;intro ai aj ak ad ae;refine go ?_;refine lV (.agg #[.bool false,.slice a0 ab.length ac]) (Wz (l:=[_,_]) (qs:=[(0,1),(1,1)]) underlying40 zeroValue40 ⟨rfl,sizeOf4,rfl,sizeOf38,trivial⟩ rfl)<|Xg ae ?_;intro al af ag ah;refine go ?_;cases hm;replace aa:=(aa.grow ad).kp af ag;exact ⟨rfl,_,ra ah.atN,_,_,_,rfl,aa.fin (cm []),aa.fs (h0.k0.ks aa)⟩
def Zhl (aa:Bool) (ab:List Int):Option R5:=
  some (aa,ab)
def Sc (N:Nat) (ab:Bool) (ac:List Int):Option R5:=
  (Vl N ac).bind fun aa=>if ab=true then (Zhl (decide (0<(aa.length:Int))) aa) else (Zhl false aa)
theorem Zbq {N ao:Nat} {a1:Option Addr} {col:Zd} {w0:World} {ap:Bool} {ah:R2} {r:R5} (c1:Nat) (hm:Sc N ap ah=some r) (h1:Sl rU col w0 a1 ao ah):
    Calls prog 148 #[.bool ap,.slice a1 ah.length ao] w0 (Tk 45 c1 col w0 r):=by
 refine Yw (m:=16) func148 rfl rfl rfl ?_;rw [Sc.eq_1] at hm;have aa:=St.start col w0;refine go ?_;refine Xt (col:=(Zg col)) #[.bool false,(nI)] 1 zeroValue40 ?_;intro ax a4 a5 ay ac;refine go ?_;obtain ⟨ad,az,hm⟩:=bZ hm;replace aa:=aa.grow ay;refine Zh (Uc 2 az (h1.k0.ks aa)) fun _ a6 ⟨a7,aq,ar,e',au,ab⟩=>⟨_,e',?_⟩;refine Zbx rfl<|Zj<|Zw ?_;replace ac:=ac.gr au;replace aa:=aa.grow au;refine Wp.cutK [4,1000000] (fun f ae=>∃ af ai aj ak ag,Zhl ai ag=some r∧St w0 (Zg col) af ae∧Zb rU 45 3 af ae aj ak ag∧Ze 40 1 af ae ax #[.bool ai,.slice aj ag.length ak]) ?_ ?_
 ·intro f ae hJ;obtain ⟨af,ai,aj,ak,ag,hm,aa,a0,ac⟩:=hJ;rw [Zhl.eq_1] at hm;refine Y1 ?_;cases hm;exact ⟨rfl,_,ra ac.atN,_,_,_,rfl,aa.fin (cm [(3,c1)]),aa.fo a0⟩
 refine go ?_;refine Xo hm (fun al hm=>go ?_) fun al hm=>go ?_
 ·refine lV (.bool (decide (0<(ad.length:Int)))) (Z5 (congrArg Value.bool al) rfl)<|Y8 rfl<|lV (.agg #[.bool (decide (0<(ad.length:Int))),.slice aq ad.length ar]) (Wz (l:=[_,_]) (qs:=[(0,1),(1,1)]) underlying40 zeroValue40 ⟨rfl,sizeOf4,rfl,sizeOf38,trivial⟩ rfl)<|Xg ac ?_;intro a8 av a2 am;refine Zj ?_;replace ab:=ab.kp av;replace ab:=ab.recolSelf 3 (by decide);replace aa:=aa.kp av a2;replace aa:=aa.recol 2 3 (by decide) (by decide);exact ⟨rfl,_,_,_,_,_,hm,aa,ab,am.recol 2 3⟩
 refine lV (.bool false) (Xn (congrArg Value.bool al) rfl)<|Y8 rfl<|lV (.agg #[.bool false,.slice aq ad.length ar]) (Wz (l:=[_,_]) (qs:=[(0,1),(1,1)]) underlying40 zeroValue40 ⟨rfl,sizeOf4,rfl,sizeOf38,trivial⟩ rfl)<|Xg ac ?_;intro a9 aw a3 an;refine Zj ?_;replace ab:=ab.kp aw;replace ab:=ab.recolSelf 3 (by decide);replace aa:=aa.kp aw a3;replace aa:=aa.recol 2 3 (by decide) (by decide);exact ⟨rfl,_,_,_,_,_,hm,aa,ab,an.recol 2 3⟩
def Za6 (N:Nat) (aa:R5) (ab:R5):Option R5:=
  (Zci N aa.2 ab.2).bind fun ad=>(Sc N (!decide (aa.1=ab.1)) ad).bind fun ac=>some (ac.1,ac.2)
theorem Ziv {N ar au:Nat} {av aw:Option Addr} {col:Zd} {w0:World} {ag ah r:R5} (c1:Nat) (hm:Za6 N ag ah=some r) (al:Sl rU col w0 av ar ag.2) (am:Sl rU col w0 aw au ah.2):
    Calls prog 108 #[(.agg #[.bool ag.1,.slice av ag.2.length ar]),(.agg #[.bool ah.1,.slice aw ah.2.length au])] w0 (Tk 45 c1 col w0 r):=by
 refine Yw (m:=16) func108 rfl rfl rfl ?_;rw [Za6.eq_1] at hm;have aa:=St.start col w0;refine go ?_;refine Xf (col:=(Zg col)) 1 rfl ?_;intro a7 a8 az a0 ai;refine Xf (col:=az) 2 rfl ?_;intro a9 ba a1 ax aj;refine Xt (col:=a1) #[.bool false,(nI)] 3 zeroValue40 ?_;intro bb bc ad an ab;refine go ?_;refine Wc (col:=ad) [(0,1),(1,0),(2,1),(3,0),(4,1),(5,1),(6,0),(7,1),(8,0),(9,3),(10,3),(11,2)] (by kernel_rfl) (by kernel_rfl)<|xF ⟨_,_,rfl⟩ ?_;replace ai:=(ai.gr ax).gr an;refine xW (fun _ hC=>((ai.atN).nth (q:=0) rfl).gr (hC.bl ad)) ?_;refine xF ⟨_,_,rfl⟩ ?_;replace aj:=aj.gr an;refine xW (fun _ hC=>((aj.atN).nth (q:=0) rfl).gr (hC.bl ad)) ?_;refine xu rfl rfl (fun _=>Zkm _ _ underlying4 rfl rfl) ?_;refine xF ⟨_,_,rfl⟩ ?_;refine xW (fun _ hC=>((ai.atN).nth (q:=1) rfl).gr (hC.bl ad)) ?_;refine xF ⟨_,_,rfl⟩ ?_;refine xW (fun _ hC=>((aj.atN).nth (q:=1) rfl).gr (hC.bl ad)) ?_;refine xe rfl rfl ?_;intro bd hC0;have hC:=hC0.bl ad;obtain ⟨be,a2,hm⟩:=bZ hm;replace aa:=(((aa.grow a0).grow ax).grow an).grow hC;refine Zh (Znz 4 a2 (al.k0.ks aa) (am.k0.ks aa)) fun _ bf ⟨af,bg,bh,e',ao,ap⟩=>⟨_,e',?_⟩;refine Zj<|Xp af hC0 ao<|xe rfl rfl ?_;intro a3 hC0;replace ab:=(ab.gr hC).gr ao;have hC:=hC0.bl af;obtain ⟨bi,a4,hm⟩:=bZ hm;refine Zh (Zbq 5 a4 ((ap.gr hC).toSlF (Zm.int .u32))) fun _ bj ⟨a5,bk,bm,e',ae,ac⟩=>⟨_,e',?_⟩;replace ac:=ac.thaw (Z8 .u32) ae ((Fz.refl (col:=af)).froz 4);replace ae:=ae.thawR (col:=af);generalize Xb a3.heap.size af a5=ak at *;refine Zj<|Xp ak hC0 ae<|xe rfl rfl ?_;intro bn hC0;replace aa:=((aa.grow ao).grow hC).grow ae;replace ab:=(ab.gr hC).gr ae;have hC:=hC0.bl ak;refine Xg (ab.gr hC) ?_;intro bo ay a6 aq;refine Zj<|xk ak<|Y4 ?_;replace ac:=(ac.gr hC).kp ay;replace aa:=(aa.grow hC).kp ay a6;intro bp hC;replace hC:=hC.bl ak;refine Y1 ?_;cases hm;replace aa:=aa.grow hC;exact ⟨rfl,_,ra (aq.gr hC).atN,_,_,_,rfl,aa.fin (cm [(5,c1)]),aa.fo (ac.gr hC)⟩
def Zhk (N:Nat) (aa:R5) (ab:R5):Option R5:=
  if (decide (aa.1=ab.1))=true then ((Zg8 N aa.2 ab.2).bind fun ag=>(Sc N aa.1 ag).bind fun ac=>some (ac.1,ac.2)) else ((Zcj N aa.2 ab.2).bind fun ad=>if ad.2=true then ((Sc N aa.1 ad.1).bind fun ae=>some (ae.1,ae.2)) else ((Zcj N ab.2 aa.2).bind fun ah=>(Sc N ab.1 ah.1).bind fun af=>some (af.1,af.2)))
theorem Zqy {N a3 a4:Nat} {a5 a6:Option Addr} {col:Zd} {w0:World} {ao ap r:R5} (c1:Nat) (hm:Zhk N ao ap=some r) (ag:Sl rU col w0 a5 a3 ao.2) (ah:Sl rU col w0 a6 a4 ap.2):
    Calls prog 111 #[(.agg #[.bool ao.1,.slice a5 ao.2.length a3]),(.agg #[.bool ap.1,.slice a6 ap.2.length a4])] w0 (Tk 45 c1 col w0 r):=by
 refine Yw (m:=45) func111 rfl rfl rfl ?_;rw [Zhk.eq_1] at hm;have aa:=St.start col w0;refine go ?_;refine Xf (col:=(Zg col)) 1 rfl ?_;intro b3 b4 bf bg ad;refine Xf (col:=bf) 2 rfl ?_;intro b5 b6 bh a7 ac;refine Xt (col:=bh) #[.bool false,(nI)] 3 zeroValue40 ?_;intro b7 b8 ai aw ab;refine go ?_;refine Z9 ⟨_,_,rfl⟩ ?_;replace ad:=(ad.gr a7).gr aw;refine lW ((ad.atN).nth (q:=0) rfl)<|Z9 ⟨_,_,rfl⟩ ?_;replace ac:=ac.gr aw;refine lW ((ac.atN).nth (q:=0) rfl)<|go ?_;replace ag:=ag.k0;replace ah:=ah.k0;replace aa:=((aa.grow bg).grow a7).grow aw;refine Zl hm (fun hb hm=>?_) fun hb hm=>go ?_
 ·refine Zw<|Wc (col:=ai) [(0,1),(1,0),(2,1),(3,0),(4,1),(5,0),(6,3),(7,3),(8,2)] (by kernel_rfl) (by kernel_rfl)<|xF ⟨_,_,rfl⟩ ?_;refine xW (fun _ hC=>((ad.atN).nth (q:=0) rfl).gr (hC.bl ai)) ?_;refine xF ⟨_,_,rfl⟩ ?_;refine xW (fun _ hC=>((ad.atN).nth (q:=1) rfl).gr (hC.bl ai)) ?_;refine xF ⟨_,_,rfl⟩ ?_;refine xW (fun _ hC=>((ac.atN).nth (q:=1) rfl).gr (hC.bl ai)) ?_;refine xe rfl rfl ?_;intro b9 hC0;have hC:=hC0.bl ai;obtain ⟨ca,bi,hm⟩:=bZ hm;replace aa:=aa.grow hC;refine Zh (Zqt 4 bi (ag.ks aa) (ah.ks aa)) fun _ cb ⟨aj,cc,cd,e',ax,ay⟩=>⟨_,e',?_⟩;refine Zj<|Xp aj hC0 ax<|xe rfl rfl ?_;intro bj hC0;replace ab:=(ab.gr hC).gr ax;have hC:=hC0.bl aj;obtain ⟨ce,bk,hm⟩:=bZ hm;refine Zh (Zbq 5 bk ((ay.gr hC).toSlF (Zm.int .u32))) fun _ cf ⟨bm,cg,ch,e',af,ae⟩=>⟨_,e',?_⟩;replace ae:=ae.thaw (Z8 .u32) af ((Fz.refl (col:=aj)).froz 4);replace af:=af.thawR (col:=aj);generalize Xb bj.heap.size aj bm=aq at *;refine Zj<|Xp aq hC0 af<|xe rfl rfl ?_;intro ci hC0;replace aa:=((aa.grow ax).grow hC).grow af;replace ab:=(ab.gr hC).gr af;have hC:=hC0.bl aq;replace ab:=ab.gr hC;refine Xg ab ?_;intro cj a8 bn az;refine Zj<|xk aq<|Y4 ?_;replace ae:=(ae.gr hC).kp a8;replace aa:=(aa.grow hC).kp a8 bn;intro ck hC;replace hC:=hC.bl aq;refine Y1 ?_;cases hm;replace aa:=aa.grow hC;exact ⟨rfl,_,ra (az.gr hC).atN,_,_,_,rfl,aa.fin (cm [(5,c1)]),aa.fo (ae.gr hC)⟩
 refine Zy ad<|Zy ac ?_;obtain ⟨ar,bo,hm⟩:=bZ hm;refine Zh (Zle 6 bo (ag.ks aa) (ah.ks aa)) fun _ bp ⟨a0,a9,ba,e',au,bq⟩=>⟨_,e',?_⟩;refine lM (.tuple #[.slice a9 ar.1.length ba,.bool ar.2])<|lV (.slice a9 ar.1.length ba) (X6 rfl rfl)<|lV (.bool ar.2) (X6 rfl rfl)<|go ?_;replace ad:=ad.gr au;replace ac:=ac.gr au;replace ab:=ab.gr au;replace aa:=aa.grow au;refine Zl hm (fun hb hm=>go ?_) fun hb hm=>go ?_
 ·refine Zy ad<|Y8 rfl ?_;obtain ⟨cl,br,hm⟩:=bZ hm;refine Zh (Zbq 7 br (bq.toSlF (Zm.int .u32))) fun _ cn ⟨bs,co,cp,e',ak,al⟩=>⟨_,e',?_⟩;replace al:=al.thaw (Z8 .u32) ak ((Fz.refl (col:=a0)).froz 6);replace ak:=ak.thawR (col:=a0);generalize Xb bp.heap.size a0 bs=cq at *;replace ab:=ab.gr ak;refine Xg ab ?_;intro cr bb bt bu;refine go ?_;cases hm;replace aa:=(aa.grow ak).kp bb bt;exact ⟨rfl,_,ra bu.atN,_,_,_,rfl,aa.fin (cm [(7,c1)]),aa.fo (al.kp bb)⟩
 refine Zy ac<|Zy ad ?_;obtain ⟨av,bv,hm⟩:=bZ hm;refine Zh (Zle 8 bv (ah.ks aa) (ag.ks aa)) fun _ bw ⟨a1,bc,bd,e',a2,bx⟩=>⟨_,e',?_⟩;refine lM (.tuple #[.slice bc av.1.length bd,.bool av.2])<|lV (.slice bc av.1.length bd) (X6 rfl rfl)<|lV (.bool av.2) (X6 rfl rfl)<|go ?_;refine Z9 ⟨_,_,rfl⟩ ?_;refine lW (((ac.gr a2).atN).nth (q:=0) rfl)<|Y8 rfl ?_;obtain ⟨cs,bz,hm⟩:=bZ hm;refine Zh (Zbq 9 bz (bx.toSlF (Zm.int .u32))) fun _ ct ⟨b0,cu,cv,e',am,an⟩=>⟨_,e',?_⟩;replace an:=an.thaw (Z8 .u32) am ((Fz.refl (col:=a1)).froz 8);replace am:=am.thawR (col:=a1);generalize Xb bw.heap.size a1 b0=cw at *;refine Xg ((ab.gr a2).gr am) ?_;intro cx be b1 b2;refine go ?_;cases hm;replace aa:=((aa.grow a2).grow am).kp be b1;exact ⟨rfl,_,ra b2.atN,_,_,_,rfl,aa.fin (cm [(9,c1)]),aa.fo (an.kp be)⟩
def Zhm (N:Nat) (aa:R5):Option R5:=
  (Sc N aa.1 aa.2).bind fun ab=>some (ab.1,ab.2)
theorem Zqz {N ag:Nat} {ah:Option Addr} {col:Zd} {w0:World} {ab r:R5} (c1:Nat) (hm:Zhm N ab=some r) (ad:Sl rU col w0 ah ag ab.2):
    Calls prog 145 #[(.agg #[.bool ab.1,.slice ah ab.2.length ag])] w0 (Tk 45 c1 col w0 r):=by
 refine Yw (m:=8) func145 rfl rfl rfl ?_;rw [Zhm.eq_1] at hm;have aa:=St.start col w0;refine go ?_;refine Xf (col:=(Zg col)) 1 rfl ?_;intro aq ar al am ac;refine Xt (col:=al) #[.bool false,(nI)] 2 zeroValue40 ?_;intro au av aw ai ae;refine go ?_;refine Z9 ⟨_,_,rfl⟩ ?_;replace ac:=ac.gr ai;refine lW ((ac.atN).nth (q:=0) rfl)<|Zy ac ?_;obtain ⟨ax,an,hm⟩:=bZ hm;replace aa:=(aa.grow am).grow ai;refine Zh (Zbq 3 an (ad.k0.ks aa)) fun _ ay ⟨az,a0,a1,e',aj,af⟩=>⟨_,e',?_⟩;refine Xg (ae.gr aj) ?_;intro a2 ak ao ap;refine go ?_;cases hm;replace aa:=(aa.grow aj).kp ak ao;exact ⟨rfl,_,ra ap.atN,_,_,_,rfl,aa.fin (cm [(3,c1)]),aa.fo (af.kp ak)⟩
def Zeq (N:Nat) (aa:R5) (ab:List Int):Option R1:=
  (Zjo N aa.2 ab).bind fun ac=>(Zha N aa.2 ac).bind fun ae=>(Zha N ab ac).bind fun af=>(Zhm N (aa.1,ae.1)).bind fun ad=>(Vl N af.1).bind fun ag=>some ((ad.1,ad.2),ag)
theorem Zn2 {N a2 a3:Nat} {a4 a1:Option Addr} {col:Zd} {w0:World} {ai:R5} {ap:R2} {r:R1} (c1 c2:Nat) (hm:Zeq N ai ap=some r) (an:Sl rU col w0 a4 a2 ai.2) (h1:Sl rU col w0 a1 a3 ap):
    Calls prog 110 #[(.agg #[.bool ai.1,.slice a4 ai.2.length a2]),.slice a1 ap.length a3] w0 (Sm 45 c1 c2 col w0 r):=by
 refine Yw (m:=39) func110 rfl rfl rfl ?_;rw [Zeq.eq_1] at hm;have aa:=St.start col w0;refine go ?_;refine Xf (col:=(Zg col)) 1 rfl ?_;intro b1 b2 bd be ab;refine Xt (col:=bd) #[.bool false,(nI),(nI)] 2 zeroValue42 ?_;intro b3 b4 b5 a5 aq;refine go ?_;refine Z9 ⟨_,_,rfl⟩ ?_;replace ab:=ab.gr a5;refine lW ((ab.atN).nth (q:=1) rfl)<|Y8 rfl ?_;obtain ⟨b6,bf,hm⟩:=bZ hm;replace an:=an.k0;replace h1:=h1.k0;replace aa:=(aa.grow be).grow a5;refine Zh (Zz2 3 bf (an.ks aa) (h1.ks aa)) ?_;rintro _ bg ⟨ar,b7,b8,rfl,au,ao⟩;refine ⟨_,rfl,go ?_⟩;refine Z9 ⟨_,_,rfl⟩ ?_;replace ab:=ab.gr au;refine lW ((ab.atN).nth (q:=1) rfl)<|Y8 rfl ?_;obtain ⟨ac,bh,hm⟩:=bZ hm;replace aa:=aa.grow au;refine Zh (Zqu 4 5 bh ((an.ks aa).froz 3) (ao.toSlF (Zm.int .u32))) fun _ bi ⟨bj,av,aw,a6,a7,e',ad,aj,b9⟩=>⟨_,e',?_⟩;replace aj:=aj.thaw (Z8 .u32) ad ((Fz.refl (col:=ar)).froz 3);replace ad:=ad.thawR (col:=ar);generalize Xb bg.heap.size ar bj=ax at *;refine lM (.tuple #[.slice av ac.1.length aw,.slice a6 ac.2.1.length a7,.int .i64 ac.2.2])<|lV (.slice av ac.1.length aw) (X6 rfl rfl)<|lV (.slice a6 ac.2.1.length a7) (X6 rfl rfl)<|lV (.int .i64 ac.2.2) (X6 rfl rfl)<|go ?_;obtain ⟨af,bk,hm⟩:=bZ hm;replace aa:=aa.grow ad;refine Zh (Zqu 6 7 bk ((h1.ks aa).froz 3) ((ao.gr ad).toSlF (Zm.int .u32))) fun _ bm ⟨bn,a8,a9,ba,bb,e',ae,ak,ca⟩=>⟨_,e',?_⟩;replace ak:=ak.thaw (Z8 .u32) ae ((Fz.refl (col:=ax)).froz 3);replace ae:=ae.thawR (col:=ax);generalize Xb bi.heap.size ax bn=ay at *;refine lM (.tuple #[.slice a8 af.1.length a9,.slice ba af.2.1.length bb,.int .i64 af.2.2])<|lV (.slice a8 af.1.length a9) (X6 rfl rfl)<|lV (.slice ba af.2.1.length bb) (X6 rfl rfl)<|lV (.int .i64 af.2.2) (X6 rfl rfl)<|go ?_;refine Z9 ⟨_,_,rfl⟩ ?_;replace ab:=(ab.gr ad).gr ae
 refine lW ((ab.atN).nth (q:=0) rfl)<|Y8 rfl<|lV (.agg #[.bool ai.1,.slice av ac.1.length aw]) (Wz (l:=[_,_]) (qs:=[(0,1),(1,1)]) underlying40 zeroValue40 ⟨rfl,sizeOf4,rfl,sizeOf38,trivial⟩ rfl) ?_;obtain ⟨bc,bo,hm⟩:=bZ hm;refine Zh (Zqz 8 bo ((aj.gr ae).toSlF (Zm.int .u32))) fun _ bp ⟨bq,br,bs,e',ag,al⟩=>⟨_,e',?_⟩;replace al:=al.thaw (Z8 .u32) ag ((Fz.refl (col:=ay)).froz 4);replace ag:=ag.thawR (col:=ay);generalize Xb bm.heap.size ay bq=az at *;refine Y8 rfl ?_;obtain ⟨bt,bu,hm⟩:=bZ hm;refine Zh (Uc 9 bu ((ak.gr ag).toSlF (Zm.int .u32))) fun _ cb ⟨bv,bw,bx,e',ah,am⟩=>⟨_,e',?_⟩;replace am:=am.thaw (Z8 .u32) ah ((Fz.refl (col:=az)).froz 6);replace ah:=ah.thawR (col:=az);generalize Xb bp.heap.size az bv=cc at *;refine lV (.agg #[.bool bc.1,.slice br bc.2.length bs,.slice bw bt.length bx]) (Wz (l:=[_,_]) (qs:=[(0,2),(2,1)]) underlying42 zeroValue42 ⟨rfl,sizeOf40,rfl,sizeOf38,trivial⟩ rfl) ?_;refine Xg (((((aq.gr au).gr ad).gr ae).gr ag).gr ah) ?_;intro cd a0 bz b0;refine go ?_;cases hm;replace aa:=(((aa.grow ae).grow ag).grow ah).kp a0 bz;exact ⟨rfl,_,ra b0.atN,_,_,_,_,_,rfl,aa.fin (cm [(8,c1),(9,c2)]),aa.fo ((al.gr ah).kp a0),aa.fo (am.kp a0)⟩
def Zjv (N:Nat) (aa:R1) (ab:R1):Option R1:=
  (Sd N ((ab.1.1,ab.1.2),ab.2)).bind fun ai=>(Q4 ai).bind fun ad=>(Za6 N (aa.1.1,aa.1.2) (ad.1,ad.2)).bind fun ae=>(Sd N ((aa.1.1,aa.1.2),aa.2)).bind fun aj=>(Q4 aj).bind fun af=>(Za6 N (ab.1.1,ab.1.2) (af.1,af.2)).bind fun ag=>(Zhk N (ae.1,ae.2) (ag.1,ag.2)).bind fun ah=>(Sd N ((aa.1.1,aa.1.2),aa.2)).bind fun ak=>(Sd N ((ab.1.1,ab.1.2),ab.2)).bind fun al=>(Zci N ak al).bind fun am=>(Zeq N (ah.1,ah.2) am).bind fun ac=>some ((ac.1.1,ac.1.2),ac.2)
theorem Zz7 {N b3 cd b4 ce:Nat} {b5 cf b6 cg:Option Addr} {col:Zd} {w0:World} {ao ap r:R1} (c1 c2:Nat) (hm:Zjv N ao ap=some r) (bj:Sl rU col w0 b5 b3 ao.1.2) (b7:Sl rU col w0 cf cd ao.2) (bk:Sl rU col w0 b6 b4 ap.1.2) (b8:Sl rU col w0 cg ce ap.2):
    Calls prog 59 #[(.agg #[.bool ao.1.1,.slice b5 ao.1.2.length b3,.slice cf ao.2.length cd]),(.agg #[.bool ap.1.1,.slice b6 ap.1.2.length b4,.slice cg ap.2.length ce])] w0 (Sm 45 c1 c2 col w0 r):=by
 refine Yw (m:=28) func59 rfl rfl rfl ?_;rw [Zjv.eq_1] at hm;have aa:=St.start col w0;refine go ?_;refine Xf (col:=(Zg col)) 1 rfl ?_;intro cw ds cx cy ac;refine Xf (col:=cx) 2 rfl ?_;intro cz dt c0 cr ad;refine Xt (col:=c0) #[.bool false,(nI),(nI)] 3 zeroValue42 ?_;intro du b9 bm ch ab;refine go ?_;have ca:=Z1.clip (fun _=>false) bm b9;refine Zp6 (col:=bm) [(0,1),(1,0),(2,0),(3,3),(4,3),(5,3),(6,4),(7,2)] (by kernel_rfl) (by kernel_rfl) ⟨fun h=>absurd h (by decide),fun h=>absurd h (by decide),fun h=>absurd h (by decide),fun h=>absurd h (by decide),fun h=>absurd h (by decide),fun h=>absurd h (by decide),fun _=>⟨_,_,_,rfl,Zf5 zeroValue40⟩,fun h=>absurd h (by decide),trivial⟩<|Zni (v:=(.pointer ((some (⟨cw,0,none⟩:Addr)).map (·.add 0)))) rfl rfl (fun _=>Zc7 (sz:=2) (off:=0) underlying42 rfl sizeOf40 (by decide) rfl rfl ⟨_,_,rfl⟩) ?_;replace ac:=((ac.gr cr).gr ch).kpp ca;refine Zdg (v:=(.agg #[.bool ao.1.1,.slice b5 ao.1.2.length b3])) rfl rfl (fun _ hC=>Yq isAgg40 sizeOf40 rfl rfl (((ac.atN).part 0 2 _ rfl).gr (hC.bl (Zo b9 bm)))) ?_;replace ad:=(ad.gr ch).kpp ca;refine Zdg (v:=(.agg #[.bool ap.1.1,.slice b6 ap.1.2.length b4,.slice cg ap.2.length ce])) rfl rfl (fun _ hC=>Yq isAgg42 sizeOf42 rfl rfl (ad.atN.gr (hC.bl (Zo b9 bm)))) ?_;refine U9 rfl rfl ?_;intro dv hC0;have hC:=hC0.bl (Zo b9 bm);obtain ⟨dw,c3,hm⟩:=bZ hm;replace bk:=bk.k0;replace b8:=b8.k0;replace aa:=((((aa.grow cy).grow cr).grow ch).kpp ca).grow hC;refine Zh (Zbr 4 c3 (bk.ks aa) (b8.ks aa)) fun _ bb ⟨bn,dx,dy,e',ax,bo⟩=>⟨_,e',?_⟩;refine Zj ?_;refine ⟨fun w'=>Zk (Zo bb bn) bb (Zo bb bn) w',fun g=>(Zo bb bn) g=497,Zk.refl _ _,Up,fun _=>⟨fun _ h=>Ts hC0 ax h,fun b hb=>ax.below.block b hb,fun g x1 x2=>S0 ax g x1 (by first | exact x2 | (simp only [Yo,x2];rfl) | (simp only [Yo,Xr,x2];rfl))⟩,?_⟩;have bp:=Z1.clip (fun _=>false) bn bb;refine U9 rfl rfl ?_;intro dz hC0;replace ab:=(((ab.kpp ca).gr hC).gr ax).kpp bp;replace ac:=((ac.gr hC).gr ax).kpp bp;replace ad:=((ad.gr hC).gr ax).kpp bp;have hC:=hC0.bl (Zo bb bn);replace bo:=(bo.kpp bp).gr hC;replace ac:=ac.gr hC;replace ac:=ac.froz 4
 replace ad:=ad.gr hC;replace ad:=ad.froz 4;replace ab:=ab.gr hC;replace ab:=ab.froz 4;replace aa:=((aa.grow ax).kpp bp).grow hC;replace aa:=aa.froz 4 (by decide) (by decide);obtain ⟨d0,c4,hm⟩:=bZ hm;refine Zh (Zlh c4 ((bo).toSlF (Zm.int .u32))) fun _ bc ⟨bq,d1,d2,e',ay,ci⟩=>⟨_,e',?_⟩;refine Zj ?_;refine ⟨fun w'=>Zk (Zo bc bq) bc (Zo bc bq) w',fun g=>(Zo bc bq) g=497,Zk.refl _ _,Up,fun _=>⟨fun _ h=>Ts hC0 ay h,fun b hb=>ay.below.block b hb,fun g x1 x2=>S0 ay g x1 (by first | exact x2 | (simp only [Yo,x2];rfl) | (simp only [Yo,Xr,x2];rfl))⟩,?_⟩;have br:=Z1.clip (fun _=>false) bq bc;refine U9 rfl rfl ?_;intro d3 hC0;have hC:=hC0.bl (Zo bc bq);obtain ⟨d4,c5,hm⟩:=bZ hm;replace bj:=bj.k0;replace aa:=((aa.grow ay).kpp br).grow hC;refine Zh (Ziv 5 c5 (bj.ks aa) ((ci.kpp br).gr hC)) fun _ ag ⟨ah,d5,d6,e',az,ai⟩=>⟨_,e',?_⟩;refine Zj ?_;refine ⟨fun w'=>Zk (Zo ag ah) ag (Zo ag ah) w',fun g=>(Zo ag ah) g=497,Zk.refl _ _,Up,fun _=>⟨fun _ h=>Ts hC0 az h,fun b hb=>az.below.block b hb,fun g x1 x2=>S0 az g x1 (by first | exact x2 | (simp only [Yo,x2];rfl) | (simp only [Yo,Xr,x2];rfl))⟩,?_⟩;have bs:=Z1.clip (fun _=>false) ah ag;refine xaF rfl rfl (Zf5 zeroValue40) ?_;intro am c6;refine U9 rfl rfl ?_;intro c7 ⟨hC0,hZ0⟩;replace ac:=((((ac.gr ay).kpp br).gr hC).gr az).kpp bs;replace ad:=((((ad.gr ay).kpp br).gr hC).gr az).kpp bs;replace ab:=((((ab.gr ay).kpp br).gr hC).gr az).kpp bs;have hC:=hC0.bl (Zo ag ah);replace b7:=b7.k0;obtain ⟨bt,cj⟩:=Zns (col:=(Zo ag ah)) 6 hZ0 c6;replace cj:Ze 40 6 (Ya am 6 (Zo ag ah)) c7 am #[.bool false,(nI)]:=cj;refine Xg cj ?_;intro an bu c8 al;refine Zj ?_;refine ⟨fun w'=>Zk (Zo an (Ya am 6 (Zo ag ah))) an (Zo an (Ya am 6 (Zo ag ah))) w',fun g=>(Zo an (Ya am 6 (Zo ag ah))) g=497,Zk.refl _ _,Up,fun h=>absurd h (by decide),?_⟩;have bd:=Z1.clip (fun _=>false) (Ya am 6 (Zo ag ah)) an;refine Zp7 ?_;replace aa:=(((((aa.grow az).kpp bs).grow hC).kpp bt).kp bu c8).kpp bd;replace ai:=((((ai.kpp bs).gr hC).kpp bt).kp bu).kpp bd
 replace ac:=(((ac.gr hC).kpp bt).kp bu).kpp bd;replace ad:=(((ad.gr hC).kpp bt).kp bu).kpp bd;replace ab:=(((ab.gr hC).kpp bt).kp bu).kpp bd;intro a0 hC;replace hC:Zk (Zo an (Ya am 6 (Zo ag ah))) an (Zo an (Ya am 6 (Zo ag ah))) a0:=.of_below hC.below;refine Zw ?_;have be:=Z1.clip (fun _=>false) (Zo an (Ya am 6 (Zo ag ah))) a0;refine Zp6 (col:=(Zo an (Ya am 6 (Zo ag ah)))) [(0,1),(1,0),(2,0),(3,3),(4,3),(5,3),(6,4),(7,2)] (by kernel_rfl) (by kernel_rfl) ⟨fun h=>absurd h (by decide),fun h=>absurd h (by decide),fun h=>absurd h (by decide),fun h=>absurd h (by decide),fun h=>absurd h (by decide),fun h=>absurd h (by decide),fun _=>⟨_,_,_,rfl,Zf5 zeroValue40⟩,fun h=>absurd h (by decide),trivial⟩<|Zni (v:=(.pointer ((some (⟨cz,0,none⟩:Addr)).map (·.add 0)))) rfl rfl (fun _=>Zc7 (sz:=2) (off:=0) underlying42 rfl sizeOf40 (by decide) rfl rfl ⟨_,_,rfl⟩) ?_;replace ad:=(ad.gr hC).kpp be;refine Zdg (v:=(.agg #[.bool ap.1.1,.slice b6 ap.1.2.length b4])) rfl rfl (fun _ hC=>Yq isAgg40 sizeOf40 rfl rfl (((ad.atN).part 0 2 _ rfl).gr (hC.bl (Zo a0 (Zo an (Ya am 6 (Zo ag ah))))))) ?_;replace ac:=(ac.gr hC).kpp be;refine Zdg (v:=(.agg #[.bool ao.1.1,.slice b5 ao.1.2.length b3,.slice cf ao.2.length cd])) rfl rfl (fun _ hC=>Yq isAgg42 sizeOf42 rfl rfl (ac.atN.gr (hC.bl (Zo a0 (Zo an (Ya am 6 (Zo ag ah))))))) ?_;refine U9 rfl rfl ?_;intro c9 hC0;replace al:=((al.kpp bd).gr hC).kpp be;replace ai:=(ai.gr hC).kpp be;replace ab:=(ab.gr hC).kpp be;replace aa:=(aa.grow hC).kpp be;have hC:Zk (Zo a0 (Zo an (Ya am 6 (Zo ag ah)))) a0 (Zo a0 (Zo an (Ya am 6 (Zo ag ah)))) c9:=.of_below hC0.below;obtain ⟨d7,da,hm⟩:=bZ hm;replace aa:=aa.grow hC;refine Zh (Zbr 7 da (bj.ks aa) (b7.ks aa)) fun _ bf ⟨bv,d8,d9,e',ar,bw⟩=>⟨_,e',?_⟩;refine Zj ?_;refine ⟨fun w'=>Zk (Zo bf bv) bf (Zo bf bv) w',fun g=>(Zo bf bv) g=497,Zk.refl _ _,Up,fun _=>⟨fun _ h=>Ts hC0 ar h,fun b hb=>ar.below.block b hb,fun g x1 x2=>S0 ar g x1 (by first | exact x2 | (simp only [Yo,x2];rfl) | (simp only [Yo,Xr,x2];rfl))⟩,?_⟩;have a1:=Z1.clip (fun _=>false) bv bf;refine U9 rfl rfl ?_;intro ea hC0;replace ai:=((ai.gr hC).gr ar).kpp a1;replace ac:=((ac.gr hC).gr ar).kpp a1
 replace ad:=((ad.gr hC).gr ar).kpp a1;replace ab:=((ab.gr hC).gr ar).kpp a1;replace al:=((al.gr hC).gr ar).kpp a1;have hC:=hC0.bl (Zo bf bv);replace ai:=ai.gr hC;replace ai:=ai.froz 7;replace bw:=(bw.kpp a1).gr hC;replace ac:=ac.gr hC;replace ac:=ac.froz 7;replace ad:=ad.gr hC;replace ad:=ad.froz 7;replace ab:=ab.gr hC;replace ab:=ab.froz 7;replace al:=al.gr hC;replace al:=al.froz 7;replace aa:=((aa.grow ar).kpp a1).grow hC;replace aa:=aa.froz 7 (by decide) (by decide);obtain ⟨eb,db,hm⟩:=bZ hm;refine Zh (Zlh db ((bw).toSlF (Zm.int .u32))) fun _ bg ⟨bx,ec,ed,e',au,ck⟩=>⟨_,e',?_⟩;refine Zj ?_;refine ⟨fun w'=>Zk (Zo bg bx) bg (Zo bg bx) w',fun g=>(Zo bg bx) g=497,Zk.refl _ _,Up,fun _=>⟨fun _ h=>Ts hC0 au h,fun b hb=>au.below.block b hb,fun g x1 x2=>S0 au g x1 (by first | exact x2 | (simp only [Yo,x2];rfl) | (simp only [Yo,Xr,x2];rfl))⟩,?_⟩;have a2:=Z1.clip (fun _=>false) bx bg;refine U9 rfl rfl ?_;intro ee hC0;have hC:=hC0.bl (Zo bg bx);obtain ⟨ef,dc,hm⟩:=bZ hm;replace aa:=((aa.grow au).kpp a2).grow hC;refine Zh (Ziv 8 dc (bk.ks aa) ((ck.kpp a2).gr hC)) fun _ ae ⟨af,eg,eh,e',av,a3⟩=>⟨_,e',?_⟩;refine Zj ?_;refine ⟨fun w'=>Zk (Zo ae af) ae (Zo ae af) w',fun g=>(Zo ae af) g=497,Zk.refl _ _,Up,fun _=>⟨fun _ h=>Ts hC0 av h,fun b hb=>av.below.block b hb,fun g x1 x2=>S0 av g x1 (by first | exact x2 | (simp only [Yo,x2];rfl) | (simp only [Yo,Xr,x2];rfl))⟩,?_⟩;have a4:=Z1.clip (fun _=>false) af ae;refine xaF rfl rfl (Zf5 zeroValue40) ?_;intro aj dd;refine U9 rfl rfl ?_;intro de ⟨hC0,hZ0⟩;replace ai:=((((ai.gr au).kpp a2).gr hC).gr av).kpp a4;replace ac:=((((ac.gr au).kpp a2).gr hC).gr av).kpp a4;replace ad:=((((ad.gr au).kpp a2).gr hC).gr av).kpp a4;replace ab:=((((ab.gr au).kpp a2).gr hC).gr av).kpp a4;replace al:=((((al.gr au).kpp a2).gr hC).gr av).kpp a4;have hC:=hC0.bl (Zo ae af);obtain ⟨a5,cl⟩:=Zns (col:=(Zo ae af)) 9 hZ0 dd;replace cl:Ze 40 9 (Ya aj 9 (Zo ae af)) de aj #[.bool false,(nI)]:=cl;refine Xg cl ?_;intro ak a6 df cn;refine Zj ?_
 refine ⟨fun w'=>Zk (Zo ak (Ya aj 9 (Zo ae af))) ak (Zo ak (Ya aj 9 (Zo ae af))) w',fun g=>(Zo ak (Ya aj 9 (Zo ae af))) g=497,Zk.refl _ _,Up,fun h=>absurd h (by decide),?_⟩;have aw:=Z1.clip (fun _=>false) (Ya aj 9 (Zo ae af)) ak;refine Zp7 ?_;replace aa:=(((((aa.grow av).kpp a4).grow hC).kpp a5).kp a6 df).kpp aw;replace a3:=((((a3.kpp a4).gr hC).kpp a5).kp a6).kpp aw;replace ai:=(((ai.gr hC).kpp a5).kp a6).kpp aw;replace ac:=(((ac.gr hC).kpp a5).kp a6).kpp aw;replace ad:=(((ad.gr hC).kpp a5).kp a6).kpp aw;replace ab:=(((ab.gr hC).kpp a5).kp a6).kpp aw;replace al:=(((al.gr hC).kpp a5).kp a6).kpp aw;intro cs hC;replace hC:Zk (Zo ak (Ya aj 9 (Zo ae af))) ak (Zo ak (Ya aj 9 (Zo ae af))) cs:=.of_below hC.below;refine Zw<|Wc (col:=(Zo ak (Ya aj 9 (Zo ae af)))) [(0,0),(1,0),(3,0),(5,0),(2,3),(4,3),(6,3),(7,3),(8,3),(9,2)] (by kernel_rfl) (by kernel_rfl) ?_;replace al:=al.gr hC;refine xv rfl rfl (fun _ hC=>Xh isAgg40 sizeOf40 (al.gr (hC.bl (Zo ak (Ya aj 9 (Zo ae af)))))) ?_;replace cn:=(cn.kpp aw).gr hC;refine xv rfl rfl (fun _ hC=>Xh isAgg40 sizeOf40 (cn.gr (hC.bl (Zo ak (Ya aj 9 (Zo ae af)))))) ?_;replace ac:=ac.gr hC;refine xv rfl rfl (fun _ hC=>Xh isAgg42 sizeOf42 (ac.gr (hC.bl (Zo ak (Ya aj 9 (Zo ae af)))))) ?_;replace ad:=ad.gr hC;refine xv rfl rfl (fun _ hC=>Xh isAgg42 sizeOf42 (ad.gr (hC.bl (Zo ak (Ya aj 9 (Zo ae af)))))) ?_;refine xe rfl rfl ?_;intro ct hC0;replace ai:=ai.gr hC;replace a3:=a3.gr hC;replace ab:=ab.gr hC;replace aa:=aa.grow hC;have hC:Zk (Zo ak (Ya aj 9 (Zo ae af))) cs (Zo ak (Ya aj 9 (Zo ae af))) ct:=.of_below hC0.below;obtain ⟨ei,dg,hm⟩:=bZ hm;refine Zh (Zqy 10 dg (((ai.gr hC).toSlF (Zm.int .u32)).froz 8) (((a3.gr hC).froz 5).toSlF (Zm.int .u32))) fun _ ej ⟨dh,ek,el,e',bh,aq⟩=>⟨_,e',?_⟩;replace aq:=aq.thaw (Z8 .u32) bh (((Fz.refl (col:=(Zo ak (Ya aj 9 (Zo ae af))))).froz 5).froz 8) (by decide);replace bh:=bh.thawR (col:=(Zo ak (Ya aj 9 (Zo ae af))));generalize Xb ct.heap.size (Zo ak (Ya aj 9 (Zo ae af))) dh=cu at *;refine Zj<|Xp cu hC0 bh<|xe rfl rfl ?_;intro em hC0
 replace ab:=(ab.gr hC).gr bh;replace aa:=(aa.grow hC).grow bh;have hC:=hC0.bl cu;obtain ⟨en,di,hm⟩:=bZ hm;replace aa:=aa.grow hC;refine Zh (Zbr 11 di (bj.ks aa) (b7.ks aa)) fun _ eo ⟨cv,ep,eq,e',cb,bz⟩=>⟨_,e',?_⟩;refine Zj<|Xp cv hC0 cb<|xe rfl rfl ?_;intro er hC0;replace aq:=(aq.gr hC).gr cb;replace ab:=(ab.gr hC).gr cb;have hC:=hC0.bl cv;obtain ⟨es,dj,hm⟩:=bZ hm;replace aa:=(aa.grow cb).grow hC;refine Zh (Zbr 12 dj (bk.ks aa) (b8.ks aa)) fun _ et ⟨b0,eu,ew,e',b1,co⟩=>⟨_,e',?_⟩;refine Zj<|Xp b0 hC0 b1<|xe rfl rfl ?_;intro dk hC0;replace aq:=(aq.gr hC).gr b1;replace bz:=(bz.gr hC).gr b1;replace ab:=(ab.gr hC).gr b1;have hC:=hC0.bl b0;obtain ⟨ey,dl,hm⟩:=bZ hm;refine Zh (Znz 13 dl (((bz.gr hC).toSlF (Zm.int .u32)).froz 12) (((co.gr hC).froz 11).toSlF (Zm.int .u32))) fun _ ez ⟨dm,e0,e1,e',a7,b2⟩=>⟨_,e',?_⟩;replace b2:=b2.thaw (Z8 .u32) a7 (((Fz.refl (col:=b0)).froz 11).froz 12);replace a7:=a7.thawR (col:=b0);generalize Xb dk.heap.size b0 dm=bi at *;refine Zj<|Xp bi hC0 a7<|xe rfl rfl ?_;intro dn hC0;replace aa:=((aa.grow b1).grow hC).grow a7;replace aq:=(aq.gr hC).gr a7;replace ab:=(ab.gr hC).gr a7;have hC:=hC0.bl bi;obtain ⟨e2,dp,hm⟩:=bZ hm;refine Zh (Zn2 14 15 dp (((aq.gr hC).toSlF (Zm.int .u32)).froz 13) (((b2.gr hC).froz 10).toSlF (Zm.int .u32))) fun _ e3 ⟨dq,e4,e5,e6,e7,e',a8,a9,ba⟩=>⟨_,e',?_⟩;replace a9:=a9.thaw (Z8 .u32) a8 (((Fz.refl (col:=bi)).froz 10).froz 13);replace ba:=ba.thaw (Z8 .u32) a8 (((Fz.refl (col:=bi)).froz 10).froz 13);replace a8:=a8.thawR (col:=bi);generalize Xb dn.heap.size bi dq=cc at *;refine Zj<|Xp cc hC0 a8<|xe rfl rfl ?_;intro e8 hC0;replace ab:=(ab.gr hC).gr a8;replace aa:=(aa.grow hC).grow a8;have hC:=hC0.bl cc;refine Xg (ab.gr hC) ?_
 intro e9 cp dr cq;refine Zj<|xk cc<|Y4 ?_;replace a9:=(a9.gr hC).kp cp;replace ba:=(ba.gr hC).kp cp;replace aa:=(aa.grow hC).kp cp dr;intro fa hC;replace hC:=hC.bl cc;refine Y1 ?_;cases hm;replace aa:=aa.grow hC;exact ⟨rfl,_,ra (cq.gr hC).atN,_,_,_,_,_,rfl,aa.fin (cm [(14,c1),(15,c2)]),aa.fo (a9.gr hC),aa.fo (ba.gr hC)⟩
def Zeo (N:Nat) (aa:R1) (ab:R1):Option R1:=
  (Za6 N (aa.1.1,aa.1.2) (ab.1.1,ab.1.2)).bind fun ad=>(Sd N ((aa.1.1,aa.1.2),aa.2)).bind fun ae=>(Sd N ((ab.1.1,ab.1.2),ab.2)).bind fun af=>(Zci N ae af).bind fun ag=>(Zeq N (ad.1,ad.2) ag).bind fun ac=>some ((ac.1.1,ac.1.2),ac.2)
theorem Zz8 {N ax a8 ay a9:Nat} {az ba a0 bb:Option Addr} {col:Zd} {w0:World} {ad ae r:R1} (c1 c2:Nat) (hm:Zeo N ad ae=some r) (ap:Sl rU col w0 az ax ad.1.2) (a1:Sl rU col w0 ba a8 ad.2) (aq:Sl rU col w0 a0 ay ae.1.2) (a2:Sl rU col w0 bb a9 ae.2):
    Calls prog 88 #[(.agg #[.bool ad.1.1,.slice az ad.1.2.length ax,.slice ba ad.2.length a8]),(.agg #[.bool ae.1.1,.slice a0 ae.1.2.length ay,.slice bb ae.2.length a9])] w0 (Sm 45 c1 c2 col w0 r):=by
 refine Yw (m:=16) func88 rfl rfl rfl ?_;rw [Zeo.eq_1] at hm;have aa:=St.start col w0;refine go ?_;refine Xf (col:=(Zg col)) 1 rfl ?_;intro bt bu bf bg ar;refine Xf (col:=bf) 2 rfl ?_;intro bv bw bh bc au;refine Xt (col:=bh) #[.bool false,(nI),(nI)] 3 zeroValue42 ?_;intro bx bz aj a3 ab;refine go ?_;refine Wc (col:=aj) [(0,1),(1,0),(2,1),(3,0),(5,0),(7,0),(4,3),(6,3),(8,3),(9,3),(10,3),(11,2)] (by kernel_rfl) (by kernel_rfl)<|xF ⟨_,_,rfl⟩ ?_;replace ar:=(ar.gr bc).gr a3;refine xv (v:=(.agg #[.bool ad.1.1,.slice az ad.1.2.length ax])) rfl rfl (fun _ hC=>Yq isAgg40 sizeOf40 rfl rfl (((ar.atN).part 0 2 _ rfl).gr (hC.bl aj))) ?_;refine xF ⟨_,_,rfl⟩ ?_;replace au:=au.gr a3;refine xv (v:=(.agg #[.bool ae.1.1,.slice a0 ae.1.2.length ay])) rfl rfl (fun _ hC=>Yq isAgg40 sizeOf40 rfl rfl (((au.atN).part 0 2 _ rfl).gr (hC.bl aj))) ?_;refine xv rfl rfl (fun _ hC=>Xh isAgg42 sizeOf42 (ar.gr (hC.bl aj))) ?_;refine xv rfl rfl (fun _ hC=>Xh isAgg42 sizeOf42 (au.gr (hC.bl aj))) ?_;refine xe rfl rfl ?_;intro b0 hC0;have hC:=hC0.bl aj;obtain ⟨b1,bi,hm⟩:=bZ hm;replace ap:=ap.k0;replace aq:=aq.k0;replace aa:=(((aa.grow bg).grow bc).grow a3).grow hC;refine Zh (Ziv 4 bi (ap.ks aa) (aq.ks aa)) fun _ b2 ⟨bd,b3,b4,e',a4,ac⟩=>⟨_,e',?_⟩;refine Zj<|Xp bd hC0 a4<|xe rfl rfl ?_;intro b5 hC0;replace ab:=(ab.gr hC).gr a4;have hC:=hC0.bl bd;obtain ⟨b6,bj,hm⟩:=bZ hm;replace aa:=(aa.grow a4).grow hC;refine Zh (Zbr 5 bj (ap.ks aa) (a1.k0.ks aa)) fun _ b7 ⟨be,b8,b9,e',av,al⟩=>⟨_,e',?_⟩;refine Zj<|Xp be hC0 av<|xe rfl rfl ?_;intro ca hC0;replace ac:=(ac.gr hC).gr av;replace ab:=(ab.gr hC).gr av;have hC:=hC0.bl be;obtain ⟨cb,bk,hm⟩:=bZ hm;replace aa:=(aa.grow av).grow hC;refine Zh (Zbr 6 bk (aq.ks aa) (a2.k0.ks aa)) fun _ cc ⟨am,cd,ce,e',an,a5⟩=>⟨_,e',?_⟩;refine Zj<|Xp am hC0 an<|xe rfl rfl ?_;intro bm hC0;replace ac:=(ac.gr hC).gr an;replace al:=(al.gr hC).gr an
 replace ab:=(ab.gr hC).gr an;have hC:=hC0.bl am;obtain ⟨cf,bn,hm⟩:=bZ hm;refine Zh (Znz 7 bn (((al.gr hC).toSlF (Zm.int .u32)).froz 6) (((a5.gr hC).froz 5).toSlF (Zm.int .u32))) fun _ cg ⟨bo,ch,ci,e',af,ao⟩=>⟨_,e',?_⟩;replace ao:=ao.thaw (Z8 .u32) af (((Fz.refl (col:=am)).froz 5).froz 6);replace af:=af.thawR (col:=am);generalize Xb bm.heap.size am bo=ak at *;refine Zj<|Xp ak hC0 af<|xe rfl rfl ?_;intro bp hC0;replace aa:=((aa.grow an).grow hC).grow af;replace ac:=(ac.gr hC).gr af;replace ab:=(ab.gr hC).gr af;have hC:=hC0.bl ak;obtain ⟨cj,bq,hm⟩:=bZ hm;refine Zh (Zn2 8 9 bq (((ac.gr hC).toSlF (Zm.int .u32)).froz 7) (((ao.gr hC).froz 4).toSlF (Zm.int .u32))) fun _ ck ⟨br,cl,cn,co,cp,e',ag,ah,ai⟩=>⟨_,e',?_⟩;replace ah:=ah.thaw (Z8 .u32) ag (((Fz.refl (col:=ak)).froz 4).froz 7);replace ai:=ai.thaw (Z8 .u32) ag (((Fz.refl (col:=ak)).froz 4).froz 7);replace ag:=ag.thawR (col:=ak);generalize Xb bp.heap.size ak br=aw at *;refine Zj<|Xp aw hC0 ag<|xe rfl rfl ?_;intro cq hC0;replace ab:=(ab.gr hC).gr ag;replace aa:=(aa.grow hC).grow ag;have hC:=hC0.bl aw;refine Xg (ab.gr hC) ?_;intro cr a6 bs a7;refine Zj<|xk aw<|Y4 ?_;replace ah:=(ah.gr hC).kp a6;replace ai:=(ai.gr hC).kp a6;replace aa:=(aa.grow hC).kp a6 bs;intro cs hC;replace hC:=hC.bl aw;refine Y1 ?_;cases hm;replace aa:=aa.grow hC;exact ⟨rfl,_,ra (a7.gr hC).atN,_,_,_,_,_,rfl,aa.fin (cm [(8,c1),(9,c2)]),aa.fo (ah.gr hC),aa.fo (ai.gr hC)⟩
def Zjs (N:Nat) (aa:R5):Option R5:=
  (Sc N (!aa.1) aa.2).bind fun ab=>some (ab.1,ab.2)
theorem Zz4 {N ag:Nat} {ah:Option Addr} {col:Zd} {w0:World} {ab r:R5} (c1:Nat) (hm:Zjs N ab=some r) (ad:Sl rU col w0 ah ag ab.2):
    Calls prog 210 #[(.agg #[.bool ab.1,.slice ah ab.2.length ag])] w0 (Tk 45 c1 col w0 r):=by
 refine Yw (m:=9) func210 rfl rfl rfl ?_;rw [Zjs.eq_1] at hm;have aa:=St.start col w0;refine go ?_;refine Xf (col:=(Zg col)) 1 rfl ?_;intro aq ar al am ac;refine Xt (col:=al) #[.bool false,(nI)] 2 zeroValue40 ?_;intro au av aw ai ae;refine go ?_;refine Z9 ⟨_,_,rfl⟩ ?_;replace ac:=ac.gr ai;refine lW ((ac.atN).nth (q:=0) rfl)<|go ?_;refine Zy ac ?_;obtain ⟨ax,an,hm⟩:=bZ hm;replace aa:=(aa.grow am).grow ai;refine Zh (Zbq 3 an (ad.k0.ks aa)) fun _ ay ⟨az,a0,a1,e',aj,af⟩=>⟨_,e',?_⟩;refine Xg (ae.gr aj) ?_;intro a2 ak ao ap;refine go ?_;cases hm;replace aa:=(aa.grow aj).kp ak ao;exact ⟨rfl,_,ra ap.atN,_,_,_,rfl,aa.fin (cm [(3,c1)]),aa.fo (af.kp ak)⟩
def Zju (N:Nat) (aa:R5) (ab:R5):Option R5:=
  (Zjs N (ab.1,ab.2)).bind fun ac=>(Zhk N (aa.1,aa.2) (ac.1,ac.2)).bind fun ad=>some (ad.1,ad.2)
theorem Zz6 {N ar au:Nat} {av aw:Option Addr} {col:Zd} {w0:World} {af ag r:R5} (c1:Nat) (hm:Zju N af ag=some r) (aj:Sl rU col w0 av ar af.2) (ak:Sl rU col w0 aw au ag.2):
    Calls prog 193 #[(.agg #[.bool af.1,.slice av af.2.length ar]),(.agg #[.bool ag.1,.slice aw ag.2.length au])] w0 (Tk 45 c1 col w0 r):=by
 refine Yw (m:=9) func193 rfl rfl rfl ?_;rw [Zju.eq_1] at hm;have aa:=St.start col w0;refine go ?_;refine Xf (col:=(Zg col)) 1 rfl ?_;intro a7 a8 az a0 al;refine Xf (col:=az) 2 rfl ?_;intro a9 ba a1 ax am;refine Xt (col:=a1) #[.bool false,(nI)] 3 zeroValue40 ?_;intro bb bc ah an ab;refine go ?_;refine Wc (col:=ah) [(0,0),(1,0),(2,3),(3,3),(4,2)] (by kernel_rfl) (by kernel_rfl) ?_;refine xv rfl rfl (fun _ hC=>Xh isAgg40 sizeOf40 (((al.gr ax).gr an).gr (hC.bl ah))) ?_;refine xv rfl rfl (fun _ hC=>Xh isAgg40 sizeOf40 ((am.gr an).gr (hC.bl ah))) ?_;refine xe rfl rfl ?_;intro bd hC0;have hC:=hC0.bl ah;obtain ⟨be,a2,hm⟩:=bZ hm;replace aa:=(((aa.grow a0).grow ax).grow an).grow hC;refine Zh (Zz4 4 a2 (ak.k0.ks aa)) fun _ bf ⟨ae,bg,bh,e',ao,ap⟩=>⟨_,e',?_⟩;refine Zj<|Xp ae hC0 ao<|xe rfl rfl ?_;intro a3 hC0;replace ab:=(ab.gr hC).gr ao;have hC:=hC0.bl ae;obtain ⟨bi,a4,hm⟩:=bZ hm;replace aa:=(aa.grow ao).grow hC;refine Zh (Zqy 5 a4 ((aj.k0.ks aa).froz 4) ((ap.gr hC).toSlF (Zm.int .u32))) fun _ bj ⟨a5,bk,bm,e',ad,ac⟩=>⟨_,e',?_⟩;replace ac:=ac.thaw (Z8 .u32) ad ((Fz.refl (col:=ae)).froz 4);replace ad:=ad.thawR (col:=ae);generalize Xb a3.heap.size ae a5=ai at *;refine Zj<|Xp ai hC0 ad<|xe rfl rfl ?_;intro bn hC0;replace ab:=(ab.gr hC).gr ad;have hC:=hC0.bl ai;refine Xg (ab.gr hC) ?_;intro bo ay a6 aq;refine Zj<|xk ai<|Y4 ?_;replace aa:=((aa.grow ad).grow hC).kp ay a6;replace ac:=(ac.gr hC).kp ay;intro bp hC;replace hC:=hC.bl ai;refine Y1 ?_;cases hm;replace aa:=aa.grow hC;exact ⟨rfl,_,ra (aq.gr hC).atN,_,_,_,rfl,aa.fin (cm [(5,c1)]),aa.fo (ac.gr hC)⟩
def Zen (N:Nat) (aa:R5):Option Int:=
  (Zhm N (aa.1,aa.2)).bind fun ab=>if (decide ((ab.2.length:Int)=0))=true then (some 0) else (if ab.1=true then (some (-1)) else (some 1))
theorem Zn0 {N ad:Nat} {ae:Option Addr} {col:Zd} {w0:World} {ab:R5} {r:Int} (hm:Zen N ab=some r) (ac:Sl rU col w0 ae ad ab.2):
    Calls prog 106 #[(.agg #[.bool ab.1,.slice ae ab.2.length ad])] w0 (Wq w0 r):=by
 refine Z7 2 (m:=12) func106 rfl rfl rfl rfl rfl ?_;rw [Zen.eq_1] at hm;have aa:=St.start col w0;refine go ?_;refine Xf (col:=(Zg col)) 1 rfl ?_;intro ap aq ar ag ah;refine go ?_;refine lV _ (Xh isAgg40 sizeOf40 ah) ?_;obtain ⟨au,ai,hm⟩:=bZ hm;replace aa:=aa.grow ag;refine Zh (Zqz 2 ai (ac.k0.ks aa)) fun _ av ⟨aj,aw,ax,e',ak,ay⟩=>⟨_,e',?_⟩;refine Xt (col:=aj) #[.bool false,(nI)] 3 zeroValue40 ?_;intro az a0 a1 al am;refine Xg am ?_;intro a2 an ao af;refine go ?_;refine Zy af ?_;refine go ?_;replace aa:=((aa.grow ak).grow al).kp an ao;refine Zl hm (fun hb hm=>go ?_) fun hb hm=>go ?_
 ·cases hm;exact ⟨rfl,rfl,aa.below⟩
 refine Zy af<|Zj ?_;refine Zl hm (fun hb hm=>go ?_) fun hb hm=>go ?_
 ·cases hm;exact ⟨rfl,rfl,aa.below⟩
 cases hm;exact ⟨rfl,rfl,aa.below⟩
def Zjr (N:Nat) (aa:R5) (ab:R5):Option Int:=
  (Zju N (aa.1,aa.2) (ab.1,ab.2)).bind fun ac=>(Zen N (ac.1,ac.2)).bind fun ad=>some ad
theorem Zz3 {N ah ai:Nat} {aj ak:Option Addr} {col:Zd} {w0:World} {ab ac:R5} {r:Int} (hm:Zjr N ab ac=some r) (ad:Sl rU col w0 aj ah ab.2) (ae:Sl rU col w0 ak ai ac.2):
    Calls prog 165 #[(.agg #[.bool ab.1,.slice aj ab.2.length ah]),(.agg #[.bool ac.1,.slice ak ac.2.length ai])] w0 (Wq w0 r):=by
 refine Z7 4 (m:=9) func165 rfl rfl rfl rfl rfl ?_;rw [Zjr.eq_1] at hm;have aa:=St.start col w0;refine go ?_;refine Xf (col:=(Zg col)) 1 rfl ?_;intro ay az an ao af;refine Xf (col:=an) 2 rfl ?_;intro a0 a1 a2 al ap;refine go ?_;refine lV _ (Xh isAgg40 sizeOf40 (af.gr al))<|lV _ (Xh isAgg40 sizeOf40 ap) ?_;obtain ⟨a3,aq,hm⟩:=bZ hm;replace aa:=(aa.grow ao).grow al;refine Zh (Zz6 3 aq (ad.k0.ks aa) (ae.k0.ks aa)) fun _ ar ⟨am,a4,a5,e',au,av⟩=>⟨_,e',?_⟩;obtain ⟨a6,aw,hm⟩:=bZ hm;refine Zh (Zn0 aw (av.toSlF (Zm.int .u32))) fun _ ax ⟨e',ag⟩=>⟨_,e',?_⟩;replace ag:Zk am ar am ax:=.of_below ag;refine go ?_;cases hm;exact ⟨rfl,rfl,((aa.grow au).grow ag).below⟩
def Zho (N:Nat) (aa:R1) (ab:R1):Option Int:=
  (Sd N ((ab.1.1,ab.1.2),ab.2)).bind fun ag=>(Q4 ag).bind fun ac=>(Za6 N (aa.1.1,aa.1.2) (ac.1,ac.2)).bind fun ad=>(Sd N ((aa.1.1,aa.1.2),aa.2)).bind fun ah=>(Q4 ah).bind fun ae=>(Za6 N (ab.1.1,ab.1.2) (ae.1,ae.2)).bind fun af=>(Zjr N (ad.1,ad.2) (af.1,af.2)).bind fun ai=>some ai
theorem Zq1 {N am a0 an a1:Nat} {ao a2 ap a3:Option Addr} {col:Zd} {w0:World} {ac ad:R1} {r:Int} (hm:Zho N ac ad=some r) (ai:Sl rU col w0 ao am ac.1.2) (aq:Sl rU col w0 a2 a0 ac.2) (aj:Sl rU col w0 ap an ad.1.2) (ar:Sl rU col w0 a3 a1 ad.2):
    Calls prog 126 #[(.agg #[.bool ac.1.1,.slice ao ac.1.2.length am,.slice a2 ac.2.length a0]),(.agg #[.bool ad.1.1,.slice ap ad.1.2.length an,.slice a3 ad.2.length a1])] w0 (Wq w0 r):=by
 refine Z7 4 (m:=18) func126 rfl rfl rfl rfl rfl ?_;rw [Zho.eq_1] at hm;have aa:=St.start col w0;refine go ?_;refine Xf (col:=(Zg col)) 1 rfl ?_;intro bq br be bf ak;refine Xf (col:=be) 2 rfl ?_;intro bs bt ae a4 a5;refine go ?_;refine Wc (col:=ae) [(0,1),(1,0),(2,0),(6,1),(7,0),(8,0),(3,3),(4,3),(5,3),(9,3),(10,3),(11,3),(12,3),(13,1)] (by kernel_rfl) (by kernel_rfl)<|xF ⟨_,_,rfl⟩ ?_;replace ak:=ak.gr a4;refine xv (v:=(.agg #[.bool ac.1.1,.slice ao ac.1.2.length am])) rfl rfl (fun _ hC=>Yq isAgg40 sizeOf40 rfl rfl (((ak.atN).part 0 2 _ rfl).gr (hC.bl ae))) ?_;refine xv rfl rfl (fun _ hC=>Xh isAgg42 sizeOf42 (a5.gr (hC.bl ae))) ?_;refine xF ⟨_,_,rfl⟩ ?_;refine xv (v:=(.agg #[.bool ad.1.1,.slice ap ad.1.2.length an])) rfl rfl (fun _ hC=>Yq isAgg40 sizeOf40 rfl rfl (((a5.atN).part 0 2 _ rfl).gr (hC.bl ae))) ?_;refine xv rfl rfl (fun _ hC=>Xh isAgg42 sizeOf42 (ak.gr (hC.bl ae))) ?_;refine xe rfl rfl ?_;intro bu hC0;have hC:=hC0.bl ae;obtain ⟨bv,bg,hm⟩:=bZ hm;replace aj:=aj.k0;replace aa:=((aa.grow bf).grow a4).grow hC;refine Zh (Zbr 3 bg (aj.ks aa) (ar.k0.ks aa)) fun _ bw ⟨a6,bx,bz,e',a7,ag⟩=>⟨_,e',?_⟩;refine Zj<|Xp a6 hC0 a7<|xe rfl rfl ?_;intro b0 hC0;have hC:=hC0.bl a6;replace ag:=ag.gr hC;replace aa:=(aa.grow a7).grow hC;replace aa:=aa.froz 3 (by decide) (by decide);obtain ⟨b1,bh,hm⟩:=bZ hm;refine Zh (Zlh bh ((ag).toSlF (Zm.int .u32))) fun _ b2 ⟨a8,b3,b4,e',a9,au⟩=>⟨_,e',?_⟩;refine Zj<|Xp a8 hC0 a9<|xe rfl rfl ?_;intro b5 hC0;have hC:=hC0.bl a8;obtain ⟨b6,bi,hm⟩:=bZ hm;replace ai:=ai.k0;replace aa:=(aa.grow a9).grow hC;refine Zh (Ziv 4 bi (ai.ks aa) (au.gr hC)) fun _ b7 ⟨ba,b8,b9,e',bb,ab⟩=>⟨_,e',?_⟩;refine Zj<|Xp ba hC0 bb<|xe rfl rfl ?_;intro ca hC0;have hC:=hC0.bl ba;obtain ⟨cb,bj,hm⟩:=bZ hm;replace aa:=(aa.grow bb).grow hC;refine Zh (Zbr 5 bj (ai.ks aa) (aq.k0.ks aa)) fun _ cc ⟨bc,cd,ce,e',av,ah⟩=>⟨_,e',?_⟩
 refine Zj<|Xp bc hC0 av<|xe rfl rfl ?_;intro cf hC0;replace ab:=(ab.gr hC).gr av;have hC:=hC0.bl bc;replace ab:=ab.gr hC;replace ab:=ab.froz 5;replace ah:=ah.gr hC;replace aa:=(aa.grow av).grow hC;replace aa:=aa.froz 5 (by decide) (by decide);obtain ⟨cg,bk,hm⟩:=bZ hm;refine Zh (Zlh bk ((ah).toSlF (Zm.int .u32))) fun _ ch ⟨bd,ci,cj,e',aw,ax⟩=>⟨_,e',?_⟩;refine Zj<|Xp bd hC0 aw<|xe rfl rfl ?_;intro ck hC0;have hC:=hC0.bl bd;obtain ⟨cl,bm,hm⟩:=bZ hm;replace aa:=(aa.grow aw).grow hC;refine Zh (Ziv 6 bm (aj.ks aa) (ax.gr hC)) fun _ cn ⟨af,co,cp,e',ay,az⟩=>⟨_,e',?_⟩;refine Zj<|Xp af hC0 ay<|xe rfl rfl ?_;intro bn hC0;replace ab:=((ab.gr aw).gr hC).gr ay;have hC:=hC0.bl af;obtain ⟨cq,bo,hm⟩:=bZ hm;refine Zh (Zz3 bo (((ab.gr hC).toSlF (Zm.int .u32)).froz 6) (((az.gr hC).froz 4).toSlF (Zm.int .u32))) fun _ bp ⟨e',al⟩=>⟨_,e',?_⟩;replace al:Zk af bn af bp:=.of_below al;refine Zj<|Xp af hC0 al<|xu rfl rfl (fun _=>Zvm rfl) ?_;refine Y4 ?_;replace aa:=((aa.grow ay).grow hC).grow al;intro cr hC;refine Y1 ?_;cases hm;exact ⟨rfl,rfl,(aa.grow (hC.bl af)).below⟩
def Zhn (N:Nat) (aa:Int):Option R5:=
  if (decide (0≤aa))=true then ((Zhf N (u64.wrap aa)).bind fun ad=>(Sc N false ad).bind fun ab=>some (ab.1,ab.2)) else ((Zhf N (u64.wrap (i64.wrap (-(i64.wrap (aa+1)))))).bind fun ae=>(Zg8 N ae [1]).bind fun af=>(Sc N true af).bind fun ac=>some (ac.1,ac.2))
theorem Zq0 {N:Nat} {col:Zd} {w0:World} {an:Int} {r:R5} (c1:Nat) (hm:Zhn N an=some r):
    Calls prog 144 #[.int .i64 an] w0 (Tk 45 c1 col w0 r):=by
 refine Yw (m:=17) func144 rfl rfl rfl ?_;rw [Zhn.eq_1] at hm;have aa:=St.start col w0;refine go ?_;refine Xt (col:=(Zg col)) #[.bool false,(nI)] 1 zeroValue40 ?_;intro be bf ao av ab;refine go ?_;replace aa:=aa.grow av;refine Zl hm (fun hb hm=>go ?_) fun hb hm=>go ?_
 ·obtain ⟨bg,aw,hm⟩:=bZ hm;refine Zh (Zqv (col:=ao) 2 aw) fun _ ax ⟨ah,bh,bi,e',ap,ay⟩=>⟨_,e',?_⟩;obtain ⟨bj,az,hm⟩:=bZ hm;refine Zh (Zbq 3 az (ay.toSlF (Zm.int .u32))) fun _ bk ⟨a0,bm,bn,e',ac,ad⟩=>⟨_,e',?_⟩;replace ad:=ad.thaw (Z8 .u32) ac ((Fz.refl (col:=ah)).froz 2);replace ac:=ac.thawR (col:=ah);generalize Xb ax.heap.size ah a0=bo at *;replace ab:=(ab.gr ap).gr ac;refine Xg ab ?_;intro bp aq a1 a2;refine go ?_;cases hm;replace aa:=((aa.grow ap).grow ac).kp aq a1;exact ⟨rfl,_,ra a2.atN,_,_,_,rfl,aa.fin (cm [(3,c1)]),aa.fo (ad.kp aq)⟩
 obtain ⟨bq,a3,hm⟩:=bZ hm;refine Zh (Zqv (col:=ao) 4 a3) fun _ br ⟨a4,bs,bt,e',ar,ai⟩=>⟨_,e',?_⟩;refine Wt (col:=a4) [1] 5 ?_;intro bu a5 aj ak a6;obtain ⟨bv,a7,hm⟩:=bZ hm;refine Zh (Zqt 6 a7 (((ai.gr ak).toSlF (Zm.int .u32)).froz 5) ((a6.froz 4).toSlF (Zm.int .u32))) fun _ a8 ⟨a9,bw,bx,e',ae,al⟩=>⟨_,e',?_⟩;replace al:=al.thaw (Z8 .u32) ae (((Fz.refl (col:=aj)).froz 4).froz 5);replace ae:=ae.thawR (col:=aj);generalize Xb a5.heap.size aj a9=am at *;obtain ⟨bz,ba,hm⟩:=bZ hm;refine Zh (Zbq 7 ba (al.toSlF (Zm.int .u32))) fun _ b0 ⟨bb,b1,b2,e',af,ag⟩=>⟨_,e',?_⟩;replace ag:=ag.thaw (Z8 .u32) af ((Fz.refl (col:=am)).froz 6);replace af:=af.thawR (col:=am);generalize Xb a8.heap.size am bb=b3 at *;refine Xg ((((ab.gr ar).gr ak).gr ae).gr af) ?_;intro b4 au bc bd;refine go ?_;cases hm;replace aa:=((((aa.grow ar).grow ak).grow ae).grow af).kp au bc;exact ⟨rfl,_,ra bd.atN,_,_,_,rfl,aa.fin (cm [(7,c1)]),aa.fo (ag.kp au)⟩
def Zl6 (N:Nat) (ac:R5) (aa:R5):Option (R1×Int):=
  (Zen N (aa.1,aa.2)).bind fun ad=>if (decide (ad=0))=true then (some (((false,([]:List Int)),([]:List Int)),11)) else ((Zeq N (!decide (ac.1=aa.1),ac.2) aa.2).bind fun ab=>some (((ab.1.1,ab.1.2),ab.2),0))
theorem Zz9 {N ai ap:Nat} {aj aq:Option Addr} {col:Zd} {w0:World} {ac af:R5} {r:(R1×Int)} (c1 c2:Nat) (hm:Zl6 N ac af=some r) (ak:Sl rU col w0 aj ai ac.2) (ag:Sl rU col w0 aq ap af.2):
    Calls prog 143 #[(.agg #[.bool ac.1,.slice aj ac.2.length ai]),(.agg #[.bool af.1,.slice aq af.2.length ap])] w0 (Zkj 45 c1 c2 col w0 r):=by
 refine Yw (m:=21) func143 rfl rfl rfl ?_;rw [Zl6.eq_1] at hm;have aa:=St.start col w0;refine go ?_;refine Xf (col:=(Zg col)) 1 rfl ?_;intro a8 a9 aw ax ah;refine Xf (col:=aw) 2 rfl ?_;intro ba bb ay ar ab;refine Xt (col:=ay) #[.bool false,(nI),(nI)] 3 zeroValue42 ?_;intro bc az au al ad;refine go ?_;replace ab:=ab.gr al;refine lV _ (Xh isAgg40 sizeOf40 ab) ?_;obtain ⟨bd,a0,hm⟩:=bZ hm;replace ag:=ag.k0;replace aa:=((aa.grow ax).grow ar).grow al;refine Zh (Zn0 a0 (ag.ks aa)) fun _ a1 ⟨e',ae⟩=>⟨_,e',?_⟩;replace ae:Zk au az au a1:=.of_below ae;refine go ?_;replace ah:=((ah.gr ar).gr al).gr ae;replace ab:=ab.gr ae;replace ad:=ad.gr ae;replace aa:=aa.grow ae;refine Zl hm (fun hb hm=>go ?_) fun hb hm=>go ?_
 ·refine lV (.agg #[.bool false,(nI),(nI)]) (Wz (l:=[_,_]) (qs:=[(0,2),(2,1)]) underlying42 zeroValue42 ⟨rfl,sizeOf40,rfl,sizeOf38,trivial⟩ rfl)<|Xg ad ?_;intro be a2 a3 a4;refine go ?_;cases hm;replace aa:=aa.kp a2 a3;exact ⟨rfl,_,Zae a4.atN,_,none,0,none,0,rfl,aa.fin (cm []),Zb.nil,Zb.nil⟩
 refine Zy ah<|Zy ab ?_;refine go ?_;refine Zy ah<|lV (.agg #[.bool (!decide (ac.1=af.1)),.slice aj ac.2.length ai]) (Wz (l:=[_,_]) (qs:=[(0,1),(1,1)]) underlying40 zeroValue40 ⟨rfl,sizeOf4,rfl,sizeOf38,trivial⟩ rfl)<|Zy ab ?_;obtain ⟨bf,a5,hm⟩:=bZ hm;refine Zh (Zn2 4 5 a5 (ak.k0.ks aa) (ag.ks aa)) fun _ bg ⟨bh,bi,bj,bk,bm,e',av,am,an⟩=>⟨_,e',?_⟩;refine Xg (ad.gr av) ?_;intro bn ao a6 a7;refine go ?_;cases hm;replace aa:=(aa.grow av).kp ao a6;exact ⟨rfl,_,Zae a7.atN,_,_,_,_,_,rfl,aa.fin (cm [(4,c1),(5,c2)]),aa.fo (am.kp ao),aa.fo (an.kp ao)⟩
def Zl7 (N:Nat) (ad ae:Int):Option (R1×Int):=
  (Zhn N ad).bind fun ab=>(Zhn N ae).bind fun ac=>(Zl6 N (ab.1,ab.2) (ac.1,ac.2)).bind fun aa=>some (((aa.1.1.1,aa.1.1.2),aa.1.2),aa.2)
theorem Z0a {N:Nat} {col:Zd} {w0:World} {ak al:Int} {r:(R1×Int)} (c1 c2:Nat) (hm:Zl7 N ak al=some r):
    Calls prog 102 #[.int .i64 ak,.int .i64 al] w0 (Zkj 45 c1 c2 col w0 r):=by
 refine Yw (m:=13) func102 rfl rfl rfl ?_;rw [Zl7.eq_1] at hm;have ab:=St.start col w0;refine go ?_;refine Xt (col:=(Zg col)) #[.bool false,(nI),(nI)] 1 zeroValue42 ?_;intro a4 a5 an ao ag;refine go ?_;obtain ⟨a6,ap,hm⟩:=bZ hm;refine Zh (Zq0 (col:=an) 2 ap) fun _ a7 ⟨aq,a8,a9,e',am,ah⟩=>⟨_,e',?_⟩;refine Xe rfl ?_;obtain ⟨ba,ar,hm⟩:=bZ hm;refine Zh (Zq0 (col:=aq) 3 ar) fun _ au ⟨ae,bb,bc,e',ai,av⟩=>⟨_,e',?_⟩;obtain ⟨af,aw,hm⟩:=bZ hm;refine Zh (Zz9 4 5 aw (((ah.gr ai).toSlF (Zm.int .u32)).froz 3) ((av.froz 2).toSlF (Zm.int .u32))) fun _ bd ⟨ax,ay,az,a0,a1,e',aa,ac,ad⟩=>⟨_,e',?_⟩;replace ac:=ac.thaw (Z8 .u32) aa (((Fz.refl (col:=ae)).froz 2).froz 3);replace ad:=ad.thaw (Z8 .u32) aa (((Fz.refl (col:=ae)).froz 2).froz 3);replace aa:=aa.thawR (col:=ae);generalize Xb au.heap.size ae ax=be at *;refine lV (.agg #[.bool af.1.1.1,.slice ay af.1.1.2.length az,.slice a0 af.1.2.length a1]) (X6 rfl rfl)<|lV (.int .i64 af.2) (X6 rfl rfl) ?_;refine Xg (((ag.gr am).gr ai).gr aa) ?_;intro bf aj a2 a3;refine go ?_;cases hm;replace ab:=((((ab.grow ao).grow am).grow ai).grow aa).kp aj a2;exact ⟨rfl,_,Zae a3.atN,_,_,_,_,_,rfl,ab.fin (cm [(4,c1),(5,c2)]),ab.fo (ac.kp aj),ab.fo (ad.kp aj)⟩
def Za7 (N:Nat) (ab ac:Int):Option R1:=
  (Zl7 N ab ac).bind fun aa=>some ((aa.1.1.1,aa.1.1.2),aa.1.2)
theorem Zn1 {N:Nat} {col:Zd} {w0:World} {ai aj:Int} {r:R1} (c1 c2:Nat) (hm:Za7 N ai aj=some r):
    Calls prog 52 #[.int .i64 ai,.int .i64 aj] w0 (Sm 45 c1 c2 col w0 r):=by
 refine Yw (m:=14) func52 rfl rfl rfl ?_;rw [Za7.eq_1] at hm;have ab:=St.start col w0;refine go ?_;refine Xt (col:=(Zg col)) #[.bool false,(nI),(nI)] 1 zeroValue42 ?_;intro a0 a1 ap aq ae;refine go ?_;obtain ⟨aa,ar,hm⟩:=bZ hm;refine Zh (Z0a (col:=ap) 2 3 ar) fun _ a2 ⟨au,ak,al,am,an,e',ao,af,ag⟩=>⟨_,e',?_⟩;refine lM (.tuple #[(.agg #[.bool aa.1.1.1,.slice ak aa.1.1.2.length al,.slice am aa.1.2.length an]),.int .i64 aa.2])<|lV (.agg #[.bool aa.1.1.1,.slice ak aa.1.1.2.length al,.slice am aa.1.2.length an]) (X6 rfl rfl)<|lV (.int .i64 aa.2) (X6 rfl rfl)<|Xt (col:=au) #[.bool false,(nI),(nI)] 4 zeroValue42 ?_;intro a3 a4 a5 ac av;refine Xg av ?_;intro a6 ad aw ax;refine go ?_;refine lV _ (Xh isAgg42 sizeOf42 ax) ?_;refine Xg (((ae.gr ao).gr ac).kp ad) ?_;intro a7 ah ay az;refine go ?_;cases hm;replace ab:=((((ab.grow aq).grow ao).grow ac).kp ad aw).kp ah ay;exact ⟨rfl,_,ra az.atN,_,_,_,_,_,rfl,ab.fin (cm [(2,c1),(3,c2)]),ab.fo (((af.gr ac).kp ad).kp ah),ab.fo (((ag.gr ac).kp ad).kp ah)⟩
def Zep (N:Nat) (aa:R8):Nat→Bool→R2→R2→Int→Option R1
  | 0,_,_,_,_=>none
  | ah+1,ae,af,ag,ab=>if (decide (ab<(aa.length:Int)))=true then ((Zi aa ab).bind fun ac=>(Zjv N ((ae,af),ag) ((ac.1.1,ac.1.2),ac.2)).bind fun ad=>(Zep N aa ah) ad.1.1 ad.1.2 ad.2 (i64.wrap (ab+1))) else (some ((ae,af),ag))
def Zjx (N:Nat) (ab:R8):Option R1:=
  (Za7 N 0 1).bind fun aa=>Zep N ab N aa.1.1 aa.1.2 aa.2 0
theorem Z0c {N a9:Nat} {a0:Option Addr} {col:Zd} {w0:World} {am:R8} {r:R1} (c1 c2:Nat) (hm:Zjx N am=some r) (h0:Sl rQ col w0 a0 a9 am):
    Calls prog 55 #[.slice a0 am.length a9] w0 (Sm 45 c1 c2 col w0 r):=by
 refine Yw (m:=19) func55 rfl rfl rfl ?_;rw [Zjx.eq_1] at hm;have aa:=St.start col w0;refine go ?_;refine Xt (col:=(Zg col)) #[.bool false,(nI),(nI)] 1 zeroValue42 ?_;intro bb b1 bc bd ab;refine go ?_;obtain ⟨b2,be,hm⟩:=bZ hm;refine Zh (Zn1 (col:=bc) 2 3 be) fun _ b3 ⟨bf,b4,b5,b6,b7,e',ba,aw,ax⟩=>⟨_,e',?_⟩;refine Xt (col:=bf) #[.bool false,(nI),(nI)] 4 zeroValue42 ?_;intro bg b8 b9 an bh;refine Xg bh ?_;intro ca ao bi af;refine go ?_;replace aa:=(((aa.grow bd).grow ba).grow an).kp ao bi;replace ab:=((ab.gr ba).gr an).kp ao;refine Zt [0,2,3,1000000] (fun n f ai=>∃ ac ay az a1 ap a2 a3 aq a4 aj,aj=n∧Zep N am aj ay ap aq a4=some r∧St w0 (Zg col) ac ai∧Ze 42 1 ac ai bb #[.bool false,(nI),(nI)]∧Zb rU 45 2 ac ai az a1 ap∧Zb rU 45 3 ac ai a2 a3 aq∧Ze 42 4 ac ai bg #[.bool ay,.slice az ap.length a1,.slice a2 aq.length a3]∧[4].map f=[.int .i64 a4]) N ⟨_,_,_,_,_,_,_,_,0,_,rfl,hm,aa,ab,(aw.gr an).kp ao,(ax.gr an).kp ao,af,rfl⟩ ?_;clear hm;intro n f ai hI;obtain ⟨ac,ay,az,a1,ap,a2,a3,aq,a4,aj,hn,hm,aa,ab,ak,al,af,hs⟩:=hI;subst hn;refine .lL [4] hs ?_;replace h0:=h0.k0
 cases aj with
 | zero=>rw [Zep.eq_1] at hm;cases hm
 | succ aj=>
  rw [Zep.eq_2] at hm;refine go ?_;refine Zl hm (fun hb hm=>go ?_) fun hb hm=>go ?_
  ·refine Wc (col:=ac) [(0,0),(1,1),(2,1),(3,1),(4,0),(5,3),(6,2)] (by kernel_rfl) (by kernel_rfl)<|xv rfl rfl (fun _ hC=>Xh isAgg42 sizeOf42 (af.gr (hC.bl ac))) ?_;refine xu rfl rfl (fun _=>Vi rfl) ?_;refine xu rfl rfl (fun _=>Wb rfl) ?_;obtain ⟨a5,ar,hm⟩:=bZ hm;refine xu rfl rfl (fun _=>Wa underlying29 sizeOf42 rfl rfl (Xm ar).1 (Xm ar).2.1 ((h0.ks aa).addr ar)) ?_;obtain ⟨_,bj,bk⟩:=(h0.ks aa).atN ar;obtain ⟨_,_,rfl,bm,bn⟩:=Yr bj;obtain ⟨_,_,rfl,bo,bp⟩:=Yr bm;obtain ⟨rfl,_⟩:=bo;obtain ⟨⟨bq,br,rfl,a6⟩,_⟩:=bp;obtain ⟨⟨bs,bt,rfl,a7⟩,_⟩:=bn;refine xv (v:=(.agg #[.bool a5.1.1,.slice bq a5.1.2.length br,.slice bs a5.2.length bt])) rfl rfl (fun _ hC=>Yq isAgg42 sizeOf42 rfl rfl (bk.gr (hC.bl ac))) ?_;refine xe rfl rfl ?_;intro bu hC0;have hC:=hC0.bl ac;obtain ⟨cb,bv,hm⟩:=bZ hm;replace ak:=ak.gr hC;replace al:=al.gr hC;refine Zh (Zz7 5 6 bv ((ak.toSlF (Zm.int .u32)).froz 3) ((al.froz 2).toSlF (Zm.int .u32)) (((a6.gr hC).froz 2).froz 3) (((a7.gr hC).froz 2).froz 3)) fun _ cc ⟨bw,cd,ce,cf,cg,e',ag,ad,ae⟩=>⟨_,e',?_⟩;replace ad:=ad.thaw (Z8 .u32) ag (((Fz.refl (col:=ac)).froz 2).froz 3);replace ae:=ae.thaw (Z8 .u32) ag (((Fz.refl (col:=ac)).froz 2).froz 3);replace ag:=ag.thawR (col:=ac);generalize Xb bu.heap.size ac bw=au at *;refine Zj<|Xp au hC0 ag<|xe rfl rfl ?_;intro ch hC0;replace ab:=(ab.gr hC).gr ag;replace af:=(af.gr hC).gr ag;replace aa:=(aa.grow hC).grow ag;have hC:=hC0.bl au;replace af:=af.gr hC;refine Xg af ?_;intro ci av bx ah;refine Zj<|xk au<|Y4 ?_;replace ad:=(ad.gr hC).kp av;replace ae:=(ae.gr hC).kp av;replace ab:=(ab.gr hC).kp av;replace aa:=(aa.grow hC).kp av bx;intro cj hC;replace hC:=hC.bl au;refine go ?_;replace ad:=ad.gr hC;replace ad:=ad.recolSelf 2 (by decide);replace ae:=ae.gr hC;replace ae:=ae.recol 5 2;replace ab:=ab.gr hC;replace ab:=ab.recol 5 2;replace ah:=ah.gr hC;replace ah:=ah.recol 5 2;replace aa:=aa.grow hC;replace aa:=aa.recol 5 2 (by decide) (by decide);replace ae:=ae.recolSelf 3 (by decide);replace ab:=ab.recol 6 3;replace ah:=ah.recol 6 3
   replace aa:=aa.recol 6 3 (by decide) (by decide);exact ⟨aj,by omega,rfl,⟨_,_,_,_,_,_,_,_,_,_,rfl,hm,aa,ab,ad.recol 6 3,ae,ah,rfl⟩⟩
  refine lV _ (Xh isAgg42 sizeOf42 af)<|Xg ab ?_;intro ck a8 bz b0;refine go ?_;cases hm;replace aa:=aa.kp a8 bz;exact ⟨rfl,_,ra b0.atN,_,_,_,_,_,rfl,aa.fin (cm [(2,c1),(3,c2)]),aa.fo (ak.kp a8),aa.fo (al.kp a8)⟩
def Zhq (N:Nat) (aa:R1):Option Int:=
  (Zen N (aa.1.1,aa.1.2)).bind fun ab=>some ab
theorem Z0b {N ac ag:Nat} {ad ah:Option Addr} {col:Zd} {w0:World} {aa:R1} {r:Int} (hm:Zhq N aa=some r) (ae:Sl rU col w0 ad ac aa.1.2) (ao:Sl rU col w0 ah ag aa.2):
    Calls prog 56 #[(.agg #[.bool aa.1.1,.slice ad aa.1.2.length ac,.slice ah aa.2.length ag])] w0 (Wq w0 r):=by
 refine Z7 2 (m:=6) func56 rfl rfl rfl rfl rfl ?_;rw [Zhq.eq_1] at hm;have ab:=St.start col w0;refine go ?_;refine Xf (col:=(Zg col)) 1 rfl ?_;intro ap aj ai ak al;refine go ?_;refine Z9 ⟨_,_,rfl⟩ ?_;refine lV (.agg #[.bool aa.1.1,.slice ad aa.1.2.length ac]) (Yq isAgg40 sizeOf40 rfl rfl ((al.atN).part 0 2 _ rfl)) ?_;obtain ⟨aq,am,hm⟩:=bZ hm;replace ab:=ab.grow ak;refine Zh (Zn0 am (ae.k0.ks ab)) fun _ an ⟨e',af⟩=>⟨_,e',?_⟩;replace af:Zk ai aj ai an:=.of_below af;refine go ?_;cases hm;exact ⟨rfl,rfl,(ab.grow af).below⟩
theorem Zdb {N k:Nat} {neg:Bool} {m:List Int} (hm:Zn m) (hk:m.length≤k) (hr:Xa N k):Sc N neg m=some (Xk (Zu (neg,m))):=by
 obtain ⟨a,b⟩:=hr
 rw [Sc,Uj hm (by omega) (by omega),oB,Zkf]
 have e:decide (0<((Zf (Zc m)).length:Int))=decide (Zc m≠0):=by
  by_cases h:Zc m=0
  ·rw [h,Wv];decide
  ·have:=T0 h
   rw [decide_eq_true (by omega),decide_eq_true h]
 cases neg
 ·rw [if_neg (by decide),Zhl,Bool.false_and]
 ·rw [if_pos rfl,Zhl,e,Bool.true_and]
theorem Zwy {N k:Nat} {a:ZV} (hm:Zn a.2) (hk:a.2.length≤k) (hr:Xa N k):Zhm N a=some (Xk (Zu a)):=by
 rw [Zhm,Zdb hm hk hr];rfl
theorem Zpu {N k:Nat} {a:ZV} (hm:Zn a.2) (hk:a.2.length≤k) (hr:Xa N k):Zen N a=some (Zu a).sign:=by
 rw [Zen,Zwy hm hk hr,oB,Xk]
 generalize Zu a=z
 by_cases h:z=0
 ·subst h;rw [Int.natAbs_zero,Wv,if_pos (by decide)];rfl
 ·have:=T0 (n:=z.natAbs) (by omega)
  rw [if_neg (dF (by simp only;omega))]
  by_cases h2:z<0
  ·rw [if_pos (dT h2),Int.sign_eq_neg_one_of_neg h2]
  ·rw [if_neg (fun b=>h2 (of_decide_eq_true b)),gV (by omega)]
theorem Zvz {N k l:Nat} {a b:ZV} (ha:Zn a.2) (hb:Zn b.2) (hk:a.2.length≤k) (hl:b.2.length≤l) (hr:Xa N (k+l+1)):Zhk N a b=some (Xk (Zu a+Zu b)):=by
 have d:=hr
 obtain ⟨g,i⟩:=d
 have j:=X9 ha
 have m:=X9 hb
 have c:(Zf (Zc a.2+Zc b.2)).length≤k+l+1:=Zls (by omega) (by omega)
 have e:(Zf (Zc a.2 - Zc b.2)).length≤k+l+1:=by have:=Vf (gH (Zc a.2) (Zc b.2));omega
 have f:(Zf (Zc b.2 - Zc a.2)).length≤k+l+1:=by have:=Vf (gH (Zc b.2) (Zc a.2));omega
 rw [Zhk]
 by_cases h:a.1=b.1
 ·rw [if_pos (dT h),Zv1 ha hb (by omega) (by omega),oB,Zdb (Z2 _) c hr,oB,Zim.1 h]
 ·rw [if_neg (dF h),Zkq ha hb (by omega) (by omega) (by omega) (by omega),oB]
  by_cases hlt:Zc a.2<Zc b.2
  ·rw [if_pos hlt,if_neg (by decide),Zkq hb ha (by omega) (by omega) (by omega) (by omega),oB,if_neg (by omega),Zdb (Z2 _) f hr,oB,(Zim.2 h).2 hlt]
  ·rw [if_neg hlt,if_pos rfl,Zdb (Z2 _) e hr,oB,(Zim.2 h).1 (by omega)]
theorem Z5h {N k:Nat} {a:ZV} (hm:Zn a.2) (hk:a.2.length≤k) (hr:Xa N k):Zjs N a=some (Xk (-Zu a)):=by
 rw [Zjs,Zdb hm hk hr,oB,Z6a]
theorem Ztj {a:ZV} (hm:Zn a.2):(Xk (Zu a)).2.length≤a.2.length:=by
 rw [Zdm,Zbo];exact X9 hm
theorem Z3d {a:ZV} (hm:Zn a.2):(Xk (-Zu a)).2.length≤a.2.length:=by
 rw [Zdm,Int.natAbs_neg,Zbo];exact X9 hm
theorem Z5l {N k l:Nat} {a b:ZV} (ha:Zn a.2) (hb:Zn b.2) (hk:a.2.length≤k) (hl:b.2.length≤l) (hr:Xa N (k+l+1)):Zju N a b=some (Xk (Zu a - Zu b)):=by
 rw [Zju,Z5h (a:=(b.1,b.2)) hb hl (hr.mono (by omega)),oB,Zvz (a:=(a.1,a.2)) (b:=Xk _) ha (Vy _) hk (bA (Z3d hb) hl) hr,oB,Vw,Int.sub_eq_add_neg]
theorem Zkp {N k l:Nat} {a b:ZV} (ha:Zn a.2) (hb:Zn b.2) (hk:a.2.length≤k) (hl:b.2.length≤l) (hr:Xa N (k+l)):Za6 N a b=some (Xk (Zu a * Zu b)):=by
 have c:=hr
 obtain ⟨d,e⟩:=c
 have f:=X9 ha
 have g:=X9 hb
 have:=S4 (Zc a.2) (Zc b.2)
 rw [Za6,Zwv ha hb (by omega) (by omega),oB,Zdb (k:=k+l) (Z2 _) (by omega) hr,oB,Zp8]
theorem Z59 (a b:Int):(a - b).sign=Qo a b:=by
 rw [← Znj];unfold Qo
 (repeat' split) <;> omega
theorem Z44 {N k l:Nat} {a b:ZV} (ha:Zn a.2) (hb:Zn b.2) (hk:a.2.length≤k) (hl:b.2.length≤l) (hr:Xa N (k+l+1)):Zjr N a b=some (Qo (Zu a) (Zu b)):=by
 have sl:(Xk (Zu a - Zu b)).2.length≤k+l+1:=Z5v (k:=k+l) (bA (Ztj ha) (by omega)) (bA (Ztj hb) (by omega))
 rw [Zjr,Z5l (a:=(a.1,a.2)) (b:=(b.1,b.2)) ha hb hk hl hr,oB,Zpu (a:=Xk _) (Vy _) sl hr,oB,Vw,Z59]
theorem Zw0 {N:Nat} {z:Int} (h:-9223372036854775808≤z∧z≤9223372036854775807) (hr:Xa N 4):Zhn N z=some (Xk z):=by
 have c:=hr
 obtain ⟨i,j⟩:=c
 have a:∀ n:Nat,n<18446744073709551616→(Zf n).length≤2:=fun n d=>Wu.2 (by simpa using d)
 have f:Zn [1]:=.cons (by decide) .nil
 rw [Zhn]
 by_cases hz:0≤z
 ·rw [if_pos (dT hz),Xi (by omega),Zw1 (by omega) (by omega),oB,Zdb (Z2 _) (a _ (by omega)) (hr.mono (by omega)),oB]
  have b:Zu (false,Zf z.toNat)=z:=by simp only [Zu,Z3];simp;omega
  rw [b]
 ·have g:=a (-z - 1).toNat (by omega)
  have e:u64.wrap (i64.wrap (-i64.wrap (z+1)))= -z - 1:=by rw [Zp (x:=z+1) (by omega),Zp (by omega),Xi (by omega)];omega
  rw [if_neg (dF hz),e,Zw1 (by omega) (by omega),oB,Zv1 (Z2 _) f (by simp only [aN];omega) (by simp only [aN];omega),oB,Z3,Y3,Yg,Zdb (k:=4) (Z2 _) (by
   have:=a ((-z - 1).toNat+((1:Int).toNat+4294967296 * 0)) (by omega)
   omega) hr,oB]
  have b:Zu (true,Zf ((-z - 1).toNat+((1:Int).toNat+4294967296 * 0)))=z:=by simp only [Zu,Z3,if_true];omega
  rw [b]
theorem Zih {N k:Nat} {a:QV} (ha:RV k a) (hr:Xa N k):Sd N a=some (Zf (Yh a.2)):=by
 obtain ⟨b,c⟩:=hr
 have:=ha.ld
 rw [Sd,Uj ha.d (by omega) (by omega),oB,Yh]
 by_cases h:Zc a.2=0
 ·rw [h,Wv,if_pos (by decide),if_pos rfl,Zl8,oB,Zam]
 ·have:=T0 h
  rw [if_neg (dF (by omega)),if_neg h]
theorem Zpq {N k l:Nat} {num:ZV} {den:List Int} (hn:Zn num.2) (hd:Zn den) (h0:Zc den≠0) (hk:num.2.length≤k) (hl:den.length≤l) (hr:Xa N (k+l)):
  Zeq N num den=some (Xc (mkRat (Zu num) (Zc den))):=by
 have c:=hr
 obtain ⟨j,m⟩:=c
 have n:=X9 hn
 have f:=X9 hd
 have d:cJ (Zc num.2) (Zc den)≠0:=fun h=>h0 (Nat.gcd_eq_zero_iff.1 h).2
 have lg:(Zf (cJ (Zc num.2) (Zc den))).length≤den.length:=bA (Vf (Nat.gcd_le_right _ (by omega))) f
 have o:=Vf (cB (Zc num.2) (cJ (Zc num.2) (Zc den)))
 have ld:=Vf (cB (Zc den) (cJ (Zc num.2) (Zc den)))
 obtain ⟨g,i,e,b,p⟩:=Z5g (N:=N) (M:=k+l) hn hd (by omega) (by omega) (by omega) (by omega)
 rw [Zeq,i,oB,Zwd hn e (by rw [b];omega) (by omega) (by rw [b];omega) (by omega),oB,Zwd hd e (by rw [b];omega) (by omega) (by rw [b];omega) (by omega),oB,b,if_neg d,if_neg d,
  Zwy (k:=k) (a:=(num.1,Zf (Zc num.2 / cJ (Zc num.2) (Zc den)))) (Z2 _) (by simp only;omega) (hr.mono (by omega)),oB,Uj (Z2 _) (by omega) (by omega),oB,Zuo (neg:=num.1) h0,Zkf,Z3,Z3]
theorem Z5e {N k:Nat} {a:QV} (ha:RV k a) (hr:Xa N k):Zhq N a=some (Zc6 (Xj a)):=by
 rw [Zhq,Zpu (a:=(a.1.1,a.1.2)) ha.m ha.lm hr,oB,Zvl]
theorem Znk (n:Nat):Zu (false,Zf n)=n:=by simp [Zu,Z3]
theorem Zwj {N k l:Nat} {a b:QV} (ha:RV k a) (hb:RV l b) (hr:Xa N (2 * (k+l+3))):Zho N a b=some (Zad (Xj a) (Xj b)):=by
 have c:=Tz ha
 have d:=Tz hb
 have e:=Zby (n:=Yh b.2) ha.m ha.lm d
 have f:=Zby (n:=Yh a.2) hb.m hb.lm c
 rw [Zho,Zih hb (hr.mono (by omega)),oB,Q4,oB,Zkp (a:=(a.1.1,a.1.2)) (b:=(false,Zf (Yh b.2))) (k:=k) (l:=l+1) ha.m (Z2 _) ha.lm d (hr.mono (by omega)),oB,Zih ha (hr.mono (by omega)),oB,Q4,oB,Zkp (a:=(b.1.1,b.1.2)) (b:=(false,Zf (Yh a.2))) (k:=l) (l:=k+1) hb.m (Z2 _) hb.lm c (hr.mono (by omega)),oB,Znk,Znk,
  Z44 (a:=Xk _) (b:=Xk _) (Vy _) (Vy _) e f (hr.mono (by omega)),oB,Vw,Vw,Xj,Xj,Zpd (Sz _) (Sz _)]
theorem Zwc {N k l:Nat} {a b:QV} (ha:RV k a) (hb:RV l b) (hr:Xa N (k+l+2)):Zci N (Zf (Yh a.2)) (Zf (Yh b.2))=some (Zf (Yh a.2 * Yh b.2)):=by
 have c:=Tz ha
 have d:=Tz hb
 obtain ⟨e,f⟩:=hr
 rw [Zwv (Z2 _) (Z2 _) (by omega) (by omega),Z3,Z3]
theorem Z5c {N k l:Nat} {a b:QV} (ha:RV k a) (hb:RV l b) (hr:Xa N (2 * (k+l+3))):Zjv N a b=some (Xc (Xj a+Xj b)):=by
 have c:=Tz ha
 have d:=Tz hb
 have f:=Zby (n:=Yh b.2) ha.m ha.lm d
 have e:=Zby (n:=Yh a.2) hb.m hb.lm c
 obtain ⟨_,g,i⟩:=Zlj ha hb (hr.mono (by omega))
 have j:=Zwc ha hb (hr.mono (by omega))
 have sl:=Zp0 (k:=k+l+1) (by omega) (bA e (by omega))
 rw [Zjv,Zih hb (hr.mono (by omega)),oB,Q4,oB,Zkp (a:=(a.1.1,a.1.2)) (b:=(false,Zf (Yh b.2))) (k:=k) (l:=l+1) ha.m (Z2 _) ha.lm d (hr.mono (by omega)),oB,Zih ha (hr.mono (by omega)),oB,Q4,oB,Zkp (a:=(b.1.1,b.1.2)) (b:=(false,Zf (Yh a.2))) (k:=l) (l:=k+1) hb.m (Z2 _) hb.lm c (hr.mono (by omega)),oB,Znk,Znk,
  Zvz (a:=Xk _) (b:=Xk _) (Vy _) (Vy _) f e (hr.mono (by omega)),oB,Vw,Vw,oB,oB,j,oB,
  Zpq (num:=Xk _) (Vy _) (Z2 _) (by rw [Z3];exact i) sl g (hr.mono (by omega)),oB,Vw,Z3,Xj,Xj,Rat.mkRat_add_mkRat _ _ (Sz _) (Sz _)]
theorem Z5d {N k l:Nat} {a b:QV} (ha:RV k a) (hb:RV l b) (hr:Xa N (2 * (k+l+3))):Zeo N a b=some (Xc (Xj a * Xj b)):=by
 obtain ⟨_,c,d⟩:=Zlj ha hb (hr.mono (by omega))
 have e:=Zwc ha hb (hr.mono (by omega))
 have f:(Xk (Zu a.1 * Zu b.1)).2.length≤k+l:=by
  rw [Zdm,Int.natAbs_mul,Zbo,Zbo]
  have g:=S4 (Zc a.1.2) (Zc b.1.2)
  have i:=X9 ha.m
  have j:=X9 hb.m
  have:=ha.lm;have:=hb.lm
  omega
 rw [Zeo,Zkp (a:=(a.1.1,a.1.2)) (b:=(b.1.1,b.1.2)) ha.m hb.m ha.lm hb.lm (hr.mono (by omega)),oB,Zih ha (hr.mono (by omega)),oB,Zih hb (hr.mono (by omega)),oB,e,oB,
  Zpq (num:=Xk _) (Vy _) (Z2 _) (by rw [Z3];exact d) f c (hr.mono (by omega)),oB,Vw,Z3,Xj,Xj,Rat.mkRat_mul_mkRat]
theorem Zw9 {N:Nat} {a b:Int} (h:-9223372036854775808≤a∧a≤9223372036854775807) (g:0<b∧b≤9223372036854775807) (hr:Xa N 8):Za7 N a b=some (Xc ((a:Rat) / (b:Rat))):=by
 have d:∀ z:Int,-9223372036854775808≤z∧z≤9223372036854775807→(Xk z).2.length≤2:=fun z n=>Wu.2 (by simp;omega)
 have i:=d a h
 have f:=d b (by omega)
 have c:Zc (Xk b).2≠0:=by rw [Zdm,Z3];omega
 have e:=Zt8 (Zu (Xk a)) 1 (Xk b) 1 (Xk a).1 (Xk a).2 rfl c
 rw [Za7,Zl7,Zw0 h (hr.mono (by omega)),oB,Zw0 (by omega) (hr.mono (by omega)),oB,Zl6,Zpu (a:=Xk b) (Vy _) f (hr.mono (by omega)),oB,Vw,gV g.1,if_neg (by decide),Zpq (num:=(!decide ((Xk a).1=(Xk b).1),(Xk a).2)) (Vy _) (Vy _) c i f (hr.mono (by omega)),oB,oB,oB]
 rw [dJ,dJ,Vw,Vw] at e
 have j:(a:Rat) / ((1:Nat):Rat) / ((b:Rat) / ((1:Nat):Rat))=(a:Rat) / (b:Rat):=by
  have k:((1:Nat):Rat)=1:=rfl
  have l:(1:Rat)⁻¹=1:=eW (by grind)
  simp only [k,Rat.div_def,l,Rat.mul_one]
 rw [j,bP,Nat.mul_one] at e
 rw [e]
 have m:Zu (!decide ((Xk a).1=(Xk b).1),Zf (Zc (Xk a).2))=Zu (!decide ((Xk a).1=(Xk b).1),(Xk a).2):=by simp only [Zu,Z3]
 rw [m]
theorem div_one (a:Rat):a / 1=a:=by
 have b:(1:Rat)⁻¹=1:=eW (by grind)
 rw [Rat.div_def,b,Rat.mul_one]
theorem Z5r {N:Nat} (hr:Xa N 8):Za7 N 0 1=some (Xc 0):=by
 rw [Zw9 (by omega) (by omega) hr]
 congr 2
 exact div_one _
theorem Zxu {N:Nat} (hr:Xa N 8):Za7 N 1 1=some (Xc 1):=by
 rw [Zw9 (by omega) (by omega) hr]
 congr 2
 exact div_one _
theorem Zwl {N:Nat} (l:List QV) (hl:∀ a ∈ l,W3 a) (hb:l.length<4611686018427387904):∀ (n i:Nat) (q:Rat),i≤l.length→l.length<n+i→Xa N (4 * (qs q+Xz (l.drop i)+3))→Zep N l n (Xc q).1.1 (Xc q).1.2 (Xc q).2 (i:Int)=some (Xc (q+Wy (l.drop i)))
 | 0,i,q,g,j,_=>by omega
 | n+1,i,q,g,j,b=>by
  rw [Zep.eq_2]
  by_cases hi:i<l.length
  ·have d:=List.drop_eq_getElem_cons hi
   have c:=hl _ (List.getElem_mem hi)
   have o:=Zpi c
   rw [d,Xz] at b
   have p:=Zvj q (Xj l[i])
   rw [if_pos (dT (by omega)),Zs hi,oB,Z5c (k:=qs q) (l:=max (l[i]).1.2.length (l[i]).2.length) (Zpv q) (Zdc c.1 c.2) (b.mono (by omega)),oB,Zp (by omega)]
   have f:=Zwl l hl hb n (i+1) (q+Xj l[i]) (by omega) (by omega) (b.mono (by omega))
   have e:Xj ((((Xc q).1.1,(Xc q).1.2),(Xc q).2):QV)=q:=Qk q
   have m:Xj (((l[i].1.1,l[i].1.2),l[i].2):QV)=Xj l[i]:=rfl
   rw [show ((i+1:Nat):Int)=(i:Int)+1 by omega] at f
   rw [e,m,f,d,Wy,Wy,List.map_cons,List.sum_cons,Rat.add_assoc]
  ·rw [if_neg (dF (by omega)),aF (by omega),Wy,List.map_nil,List.sum_nil,Rat.add_zero]
theorem Z5f {N:Nat} {l:List QV} (hl:∀ a ∈ l,W3 a) (hb:l.length<4611686018427387904) (hn:l.length<N) (hr:Xa N (4 * (Xz l+4))):Zjx N l=some (Xc (Wy l)):=by
 rw [Zjx,Z5r (hr.mono (by omega)),oB]
 have:=Zwl (N:=N) l hl hb N 0 0 (by omega) (by omega) (hr.mono (by rw [Zpj,aX];omega))
 rw [aX,Rat.zero_add] at this
 exact this
def Zfn (ab:ByteArray):List ByteArray→Nat→Option Int
  | [],aa=>some (-1)
  | ac :: ad,aa=>if (decide (ab=ac))=true then (some (aa:Int)) else ((Zfn ab ad) (aa+1))
def Zmj (aa:List ByteArray) (ab:ByteArray):Option Int:=
  Zfn ab aa 0
theorem Z08 {ag:Nat} {a0:Option Addr} {col:Zd} {w0:World} {ab:R4} {ae:ByteArray} {r:Int} (hm:Zmj ab ae=some r) (h0:Sl Za.str col w0 a0 ag ab):
    Calls prog 204 #[.slice a0 ab.length ag,.string ae] w0 (Wq w0 r):=by
 refine Z7 4 (m:=19) func204 rfl rfl rfl rfl rfl ?_;rw [Zmj.eq_1] at hm;have aa:=St.start col w0;refine go ?_;refine Zt [0,1,7,1000000] (fun n f ah=>∃ ai ac ad,n=ad.length∧ab.drop ac=ad∧Zfn ae ad ac=some r∧St w0 (Zg col) ai ah∧[8].map f=[.int .i64 ac]) ab.length ⟨_,0,_,rfl,rfl,hm,aa,rfl⟩ ?_;clear hm;intro n f ah hI;obtain ⟨ai,ac,ad,hn,hl,hm,aa,hs⟩:=hI;subst hn;refine .lL [8] hs ?_;replace h0:=h0.k0
 cases ad with
 | nil=>
  have hk:¬ ((ac:Int)<(ab.length:Int)):=by have:=aK.1 hl;omega
  have hkb:=decide_eq_false hk;rw [Zfn.eq_1] at hm;refine go ?_;refine Yc (congrArg Value.bool hkb)<|go ?_;cases hm;exact ⟨rfl,rfl,aa.below⟩
 | cons am aj=>
  obtain ⟨af,ak,al⟩:=Ys hl;have hk:(ac:Int)<(ab.length:Int):=by omega
  have hkb:=decide_eq_true hk;rw [Zfn.eq_2] at hm;refine go ?_;refine Yd (congrArg Value.bool hkb)<|go ?_;refine lI af ((h0.ks aa).addr af)<|lW ((h0.ks aa).atStr af) ?_;refine go ?_;refine Zl hm (fun hb hm=>go ?_) fun hb hm=>go ?_
  ·cases hm;exact ⟨rfl,rfl,aa.below⟩
  exact ⟨aj.length,by simp,rfl,⟨_,_,_,rfl,ak,hm,aa,(Yx (congrArg (Value.int .i64) (Yt (aJ al (h0.ks aa).1.1))) rfl)⟩⟩
def Zj8 (aa:List ByteArray) (ab:ByteArray):Option Bool:=
  (Zmj aa ab).bind fun ac=>some (decide (0≤ac))
theorem Z06 {ad:Nat} {a0:Option Addr} {col:Zd} {w0:World} {ab:R4} {ae:ByteArray} {r:Bool} (hm:Zj8 ab ae=some r) (h0:Sl Za.str col w0 a0 ad ab):
    Calls prog 169 #[.slice a0 ab.length ad,.string ae] w0 (W1 w0 r):=by
 refine Z7 4 (m:=9) func169 rfl rfl rfl rfl rfl ?_;rw [Zj8.eq_1] at hm;have aa:=St.start col w0;refine go ?_;obtain ⟨ah,af,hm⟩:=bZ hm;refine Zh (Z08 af (h0.k0.ks aa)) fun _ ag ⟨e',ac⟩=>⟨_,e',?_⟩;replace ac:Zk (Zg col) w0 (Zg col) ag:=.of_below ac;refine go ?_;cases hm;exact ⟨rfl,rfl,(aa.grow ac).below⟩
def Zcc:List ByteArray→(List (ByteArray×Int))→Option Bool
  | [],aa=>some false
  | ab :: ac,aa=>if (decide (0<((Wf aa ab).getD 0)))=true then (some true) else ((some (Sh aa ab 1)).bind fun ad=>(Zcc ac) ad)
def Zja (aa:List ByteArray):Option Bool:=
  Zcc aa ([]:List (ByteArray×Int))
theorem Zzs {al:Nat} {a0:Option Addr} {col:Zd} {w0:World} {ab:R4} {r:Bool} (hm:Zja ab=some r) (h0:Sl Za.str col w0 a0 al ab):
    Calls prog 170 #[.slice a0 ab.length al] w0 (W1 w0 r):=by
 refine Z7 2 (m:=20) func170 rfl rfl rfl rfl rfl ?_;rw [Zja.eq_1] at hm;have aa:=St.start col w0;refine go ?_;refine Z27 (col:=(Zg col)) (fk:=Value.string) (fv:=(Value.int .i64)) 1 rfl ?_;intro ay az a1 ao ap;refine go ?_;replace aa:=aa.grow ao;refine Zt [7,8,1000000] (fun n f af=>∃ ag ah ac ad ae,n=ae.length∧ab.drop ad=ae∧Zcc ae ac=some r∧St w0 (Zg col) ag af∧Vb Value.string (Value.int .i64) 1 ag af ah ac∧[9,3].map f=[.int .i64 ad,.map (some ah)]) ab.length ⟨_,_,_,0,_,rfl,rfl,hm,aa,ap,rfl⟩ ?_;clear hm;intro n f af hI;obtain ⟨ag,ah,ac,ad,ae,hn,hl,hm,aa,am,hs⟩:=hI;subst hn;refine .lL [9,3] hs ?_;replace h0:=h0.k0
 cases ae with
 | nil=>
  have hk:¬ ((ad:Int)<(ab.length:Int)):=by have:=aK.1 hl;omega
  have hkb:=decide_eq_false hk;rw [Zcc.eq_1] at hm;refine go ?_;refine Yc (congrArg Value.bool hkb)<|go ?_;cases hm;exact ⟨rfl,rfl,aa.below⟩
 | cons ai aq=>
  obtain ⟨aj,ar,au⟩:=Ys hl;have hk:(ad:Int)<(ab.length:Int):=by omega
  have hkb:=decide_eq_true hk;rw [Zcc.eq_2] at hm;refine go ?_;refine Yd (congrArg Value.bool hkb)<|go ?_;refine lI aj ((h0.ks aa).addr aj)<|lW ((h0.ks aa).atStr aj) ?_;refine go ?_;refine lV (.int .i64 ((Wf ac ai).getD 0)) (Zvt Tn.str am underlying196 underlying9 zeroValue3 rfl rfl)<|go ?_;refine Zl hm (fun hb hm=>go ?_) fun hb hm=>go ?_
  ·cases hm;exact ⟨rfl,rfl,aa.below⟩
  obtain ⟨av,ak,hm⟩:=bZ hm;have ak:av=Sh ac ai 1:=(Option.some.inj ak).symm;refine Ztb (k:=ai) (v:=1) Tn.str am underlying196 underlying9 rfl rfl rfl ?_;intro a2 aw ax an;rw [← ak] at an;refine go ?_;replace aa:=aa.kp aw ax;exact ⟨aq.length,by simp,rfl,⟨_,_,_,_,_,rfl,ar,hm,aa,an,(Yx (congrArg (Value.int .i64) (Yt (aJ au (h0.ks aa).1.1))) rfl)⟩⟩
def Zgw (ab:R0) (aa:Nat) (kk_L1:(Nat→Option Int)) (ac:Bool):Option Int:=
  if ac=true then (some 40) else ((Zi ab.2.2.1 (aa:Int)).bind fun ad=>if (decide ((ad.length:Int)=0))=true then (some 43) else (kk_L1 (aa+1)))
def Zaw (aa:R0):List ByteArray→Nat→Option Int
  | [],ab=>some 0
  | ad :: ac,ab=>Zv ((0:Int)≤(ab:Int)∧(ab:Int)≤(aa.2.1.length:Int)) ((Zj8 (aa.2.1.take (aA (ab:Int))) ad).bind fun ae=>if ae=true then (Zgw aa ab (Zaw aa ac) true) else ((Zi aa.2.2.1 (ab:Int)).bind fun af=>(Zja af).bind fun ag=>Zgw aa ab (Zaw aa ac) ag))
def Zd1 (aa:R0):Option Int:=
  Zaw aa aa.2.1 0
theorem Zzp {ae ak al am:Nat} {af an ao ap:Option Addr} {col:Zd} {w0:World} {aa:R0} {r:Int} (hm:Zd1 aa=some r) (ag:Sl Za.str col w0 af ae aa.2.1) (ai:Sl rV col w0 an ak aa.2.2.1) (bi:Sl rP col w0 ao al aa.2.2.2.1) (bj:Sl (Za.slice rQ) col w0 ap am aa.2.2.2.2):
    Calls prog 131 #[(.agg #[.string aa.1,.slice af aa.2.1.length ae,.slice an aa.2.2.1.length ak,.slice ao aa.2.2.2.1.length al,.slice ap aa.2.2.2.2.length am])] w0 (Wq w0 r):=by
 refine Z7 2 (m:=37) func131 rfl rfl rfl rfl rfl ?_;rw [Zd1.eq_1] at hm;have ab:=St.start col w0;refine go ?_;refine Xf (col:=(Zg col)) 1 rfl ?_;intro a3 bk bm a6 ac;refine go ?_;refine Zy ac ?_;refine go ?_;replace ab:=ab.grow a6;refine Zt [1,6,7,1000000] (fun n f aq=>∃ ah ad aj,n=aj.length∧aa.2.1.drop ad=aj∧Zaw aa aj ad=some r∧St w0 (Zg col) ah aq∧Ze 27 1 ah aq a3 #[.string aa.1,.slice af aa.2.1.length ae,.slice an aa.2.2.1.length ak,.slice ao aa.2.2.2.1.length al,.slice ap aa.2.2.2.2.length am]∧[8].map f=[.int .i64 ad]) aa.2.1.length ⟨_,0,_,rfl,rfl,hm,ab,ac,rfl⟩ ?_;clear hm;intro n f aq hI;obtain ⟨ah,ad,aj,hn,hl,hm,ab,ac,hs⟩:=hI;subst hn;refine .lL [8] hs ?_;replace ag:=ag.k0;replace ai:=ai.k0
 cases aj with
 | nil=>
  have hk:¬ ((ad:Int)<(aa.2.1.length:Int)):=by have:=aK.1 hl;omega
  have hkb:=decide_eq_false hk;rw [Zaw.eq_1] at hm;refine go ?_;refine Yc (congrArg Value.bool hkb)<|go ?_;cases hm;exact ⟨rfl,rfl,ab.below⟩
 | cons bn a4=>
  obtain ⟨av,a7,a8⟩:=Ys hl;have hk:(ad:Int)<(aa.2.1.length:Int):=by omega
  have hkb:=decide_eq_true hk;rw [Zaw.eq_2] at hm;refine go ?_;refine Yd (congrArg Value.bool hkb)<|go ?_;refine lI av ((ag.ks ab).addr av)<|lW ((ag.ks ab).atStr av)<|Yz rfl<|lAT rfl<|Zj<|Zde<|Zw ?_;refine Wp.cutK [1,3,6,7,8,1000000] (fun f aw=>∃ ax ay,Zgw aa ad (Zaw aa a4) ay=some r∧St w0 (Zg col) ax aw∧Ze 27 1 ax aw a3 #[.string aa.1,.slice af aa.2.1.length ae,.slice an aa.2.2.1.length ak,.slice ao aa.2.2.2.1.length al,.slice ap aa.2.2.2.2.length am]∧[13].map f=[.bool ay]) ?_ ?_
  ·intro f aw hJ;obtain ⟨ax,ay,hm,ab,ac,hs⟩:=hJ;rw [Zgw.eq_1] at hm;refine .lL [13] hs ?_;refine Zl hm (fun hb hm=>go ?_) fun hb hm=>go ?_
   ·cases hm;exact ⟨rfl,rfl,ab.below⟩
   refine Zy ac<|Xe rfl ?_;obtain ⟨bo,az,hm⟩:=bZ hm;refine lI az ((ai.ks ab).addr az) ?_;obtain ⟨_,a9,ba⟩:=(ai.ks ab).atN az;obtain ⟨⟨bp,bq,rfl,br⟩,_⟩:=a9;refine lW ba.one<|go ?_;refine Zl hm (fun hb hm=>go ?_) fun hb hm=>go ?_
   ·cases hm;exact ⟨rfl,rfl,ab.below⟩
   exact ⟨a4.length,by simp,rfl,⟨_,_,_,rfl,a7,hm,ab,ac,(Yx (congrArg (Value.int .i64) (Yt (aJ a8 (ag.ks ab).1.1))) rfl)⟩⟩
  refine Wk<|Zy ac<|Xe rfl ?_;obtain ⟨a0,hm⟩:=Zx hm;refine lv (v:=.slice af (aA (ad:Int)) ae) rfl rfl (V8 underlying22 sizeOf9 rfl rfl a0.1 (by have:=(ag.ks ab).1.2;have:=a0.2;omega))<|.ld (d:=17) (v:=(.slice af ((aa.2.1.take (aA (ad:Int))).length) ae)) (congrArg (fun n=>Value.slice af n ae) (List.length_take_of_le (show (aA (ad:Int))≤aa.2.1.length by have:=a0.2;omega)).symm) ?_;refine lMT rfl ?_;obtain ⟨bs,bb,hm⟩:=bZ hm;refine Zh (Z06 bb ((ag.ks ab).take (aA (ad:Int)))) fun _ a5 ⟨e',ar⟩=>⟨_,e',?_⟩;replace ar:Zk ah aq ah a5:=.of_below ar;refine Ws rfl ?_;replace ac:=ac.gr ar;replace ab:=ab.grow ar;refine Xo hm (fun a1 hm=>go ?_) fun a1 hm=>go ?_
  ·refine lV (.bool true) (Z5 (congrArg Value.bool a1) rfl)<|go ?_;exact ⟨rfl,_,_,hm,ab,ac,rfl⟩
  refine Z9 ⟨_,_,rfl⟩ ?_;refine go ?_;refine lW ((ac.atN).nth (q:=2) rfl)<|go ?_;obtain ⟨bt,a2,hm⟩:=bZ hm;refine lI a2 ((ai.ks ab).addr a2) ?_;refine go ?_;obtain ⟨_,bc,bd⟩:=(ai.ks ab).atN a2;obtain ⟨⟨bu,bv,rfl,be⟩,_⟩:=bc;refine lW bd.one<|go ?_;obtain ⟨bf,bg,hm⟩:=bZ hm;refine Zh (Zzs bg be) fun _ bh ⟨e',au⟩=>⟨_,e',?_⟩;replace au:Zk ah a5 ah bh:=.of_below au;refine lV (.bool bf) (Xn (congrArg Value.bool a1) rfl)<|go ?_;exact ⟨rfl,_,_,hm,ab.grow au,ac.gr au,rfl⟩
def Zgu (aa:Bool) (ab ac:List Int):Option R1:=
  some ((aa,ab),ac)
def Zca (N:Nat) (aa:R1):Option R1:=
  (Zd9 N aa.2).bind fun ab=>if (decide ((ab.length:Int)=0))=true then ((Zay N 1).bind fun ac=>Zgu aa.1.1 aa.1.2 ac) else (Zgu aa.1.1 aa.1.2 aa.2)
theorem Zqo {N am a1:Nat} {an a2:Option Addr} {col:Zd} {w0:World} {ad r:R1} (hm:Zca N ad=some r) (ai:Sl rU col w0 an am ad.1.2) (aj:Sl rU col w0 a2 a1 ad.2):
    Calls prog 95 #[(.agg #[.bool ad.1.1,.slice an ad.1.2.length am,.slice a2 ad.2.length a1])] w0 (fun e w'=>∃ col' ra1 rc2 ra4 rc5,e= .returned ((.agg #[.bool r.1.1,.slice ra1 r.1.2.length rc2,.slice ra4 r.2.length rc5]))∧Zk col w0 col' w'∧Sl rU col' w' ra1 rc2 r.1.2∧Sl rU col' w' ra4 rc5 r.2):=by
 refine Yw (m:=11) func95 rfl rfl rfl ?_;rw [Zca.eq_1] at hm;have aa:=St.start col w0;refine go ?_;refine Xf (col:=(Zg col)) 1 rfl ?_;intro a3 bj a8 a9 ab;refine Xt (col:=a8) #[.bool false,(nI),(nI)] 2 zeroValue42 ?_;intro ba bk bm a4 ac;refine Zj<|Zw ?_;replace ai:=ai.k0;replace aj:=aj.k0;replace aa:=(aa.grow a9).grow a4;replace ab:=ab.gr a4;refine Wp.cutK [1,2,1000000] (fun f ae=>∃ af ao ap aq ak ar au al,Zgu ao ak al=some r∧St w0 (Zg col) af ae∧Sl rU af ae ap aq ak∧Sl rU af ae ar au al∧Ze 42 1 af ae a3 #[.bool ao,.slice ap ak.length aq,.slice ar al.length au]∧Ze 42 2 af ae ba #[.bool false,(nI),(nI)]) ?_ ?_
 ·intro f ae hJ;obtain ⟨af,ao,ap,aq,ak,ar,au,al,hm,aa,av,aw,ab,ac⟩:=hJ;rw [Zgu.eq_1] at hm;refine go ?_;refine lV _ (Xh isAgg42 sizeOf42 ab)<|Xg ac ?_;intro bn ax bb bc;refine go ?_;cases hm;replace aa:=aa.kp ax bb;exact ⟨rfl,_,ra bc.atN,_,_,_,_,_,rfl,aa.fin (cm []),aa.fs (av.kp ax),aa.fs (aw.kp ax)⟩
 refine go ?_;refine Zy ab ?_;obtain ⟨bo,bd,hm⟩:=bZ hm;refine Zh (Znx 3 bd (aj.ks aa)) ?_;rintro _ bp ⟨be,bq,br,rfl,ay,bs⟩;refine ⟨_,rfl,go ?_⟩;replace ab:=ab.gr ay;replace ac:=ac.gr ay;replace aa:=aa.grow ay;refine Zl hm (fun hb hm=>?_) fun hb hm=>?_
 ·refine Wk ?_;obtain ⟨a5,bf,hm⟩:=bZ hm;refine Zh (Ziu (col:=be) 4 bf) fun _ bt ⟨bg,a6,a7,e',az,ag⟩=>⟨_,e',?_⟩;refine Z9 ⟨_,_,rfl⟩ ?_;replace ab:=ab.gr az;refine U1 (off:=2) (v:=(.slice a6 a5.length a7)) ab sizeOf38 rfl rfl (by intro u hu;simp only [Value.cells,aM,aO,or_false] at hu;subst hu;rfl) rfl rfl ?_;intro bh a0 bi ah;replace ah:Ze 42 1 bg bh a3 #[.bool ad.1.1,.slice an ad.1.2.length am,.slice a6 a5.length a7]:=ah;refine Zj ?_;replace ag:=ag.kp a0;replace ac:=(ac.gr az).kp a0;replace ac:=ac.froz 4;replace aa:=(aa.grow az).kp a0 bi;replace aa:=aa.froz 4 (by decide) (by decide);exact ⟨rfl,_,_,_,_,_,_,_,_,hm,aa,(ai.ks aa),(ag).toSlF (Zm.int .u32),ah.froz 4,ac⟩
 refine X7 ?_;exact ⟨rfl,_,_,_,_,_,_,_,_,hm,aa,(ai.ks aa),(aj.ks aa),ab,ac⟩
theorem Z2b:Y6 prog 42 3 56:=⟨Tryz.t42,_,rfl,rfl,rfl,rfl,rfl⟩
def Zcb (N:Nat):List R1→R8→Option R8
  | [],ab=>some ab
  | ac :: ad,ab=>(Zca N ((ac.1.1,ac.1.2),ac.2)).bind fun aa=>Zv ((ab.length+[((aa.1.1,aa.1.2),aa.2)].length) * 56≤140737488355328∧ab.length+[((aa.1.1,aa.1.2),aa.2)].length≤maxLen) ((Zcb N ad) (ab++[((aa.1.1,aa.1.2),aa.2)]))
def Zgv (N:Nat) (aa:R8):Option R8:=
  Zv (aa.length * 56≤281474976710656∧aa.length≤maxLen) (Zcb N aa ([]:List R1))
theorem Zqp {N ar:Nat} {a0:Option Addr} {col:Zd} {w0:World} {ac r:R8} (c1:Nat) (hm:Zgv N ac=some r) (h0:Sl rQ col w0 a0 ar ac):
    Calls prog 135 #[.slice a0 ac.length ar] w0 (fun e w'=>∃ col' ra1 rc2,e= .returned ((.slice ra1 r.length rc2))∧Zk col w0 col' w'∧Zb rQ 42 c1 col' w' ra1 rc2 r):=by
 refine Z7 2 (m:=22) func135 rfl rfl rfl rfl rfl ?_;rw [Zgv.eq_1] at hm;have ab:=St.start col w0;refine go ?_;obtain ⟨au,hm⟩:=Zx hm;refine Z26 (col:=(Zg col)) (w:=w0) (r:=rQ) (n:=ac.length) 1 rfl underlying29 Z2b rfl rfl rfl au.1 au.2 ?_;intro bt bu bv a2 a3;refine go ?_;replace ab:=ab.grow a2;refine Zt [10,9,1000000] (fun n f ak=>∃ af ad al am ag ae,n=ae.length∧ac.drop ad=ae∧Zcb N ae ag=some r∧St w0 (Zg col) af ak∧Zb rQ 42 1 af ak al am ag∧[11,3].map f=[.int .i64 ad,.slice al ag.length am]) ac.length ⟨_,0,_,_,_,_,rfl,rfl,hm,ab,a3,rfl⟩ ?_;clear hm;intro n f ak hI;obtain ⟨af,ad,al,am,ag,ae,hn,hl,hm,ab,ah,hs⟩:=hI;subst hn;refine .lL [11,3] hs ?_;replace h0:=h0.k0
 cases ae with
 | nil=>
  have hk:¬ ((ad:Int)<(ac.length:Int)):=by have:=aK.1 hl;omega
  have hkb:=decide_eq_false hk;rw [Zcb.eq_1] at hm;refine go ?_;refine Yc (congrArg Value.bool hkb)<|go ?_;cases hm;exact ⟨rfl,_,_,_,rfl,ab.fin (cm [(1,c1)]),ab.fo ah⟩
 | cons an a4=>
  obtain ⟨ao,a5,a6⟩:=Ys hl;have hk:(ad:Int)<(ac.length:Int):=by omega
  have hkb:=decide_eq_true hk;rw [Zcb.eq_2] at hm;refine go ?_;refine Yd (congrArg Value.bool hkb)<|go ?_;refine lI ao ((h0.ks ab).addr ao) ?_;obtain ⟨_,a7,a8⟩:=(h0.ks ab).atN ao;obtain ⟨_,_,rfl,a9,ba⟩:=Yr a7;obtain ⟨_,_,rfl,bb,bc⟩:=Yr a9;obtain ⟨rfl,_⟩:=bb;obtain ⟨⟨bd,be,rfl,ap⟩,_⟩:=bc;obtain ⟨⟨bf,bg,rfl,aq⟩,_⟩:=ba;refine lV (.agg #[.bool an.1.1,.slice bd an.1.2.length be,.slice bf an.2.length bg]) (Yq isAgg42 sizeOf42 rfl rfl a8)<|Xt (col:=af) #[.bool false,(nI),(nI)] 2 zeroValue42 ?_;intro bw bx bz ai bh;refine Xg bh ?_;intro b0 aj bi bj;refine go ?_;refine lV _ (Xh isAgg42 sizeOf42 bj) ?_;obtain ⟨aa,bk,hm⟩:=bZ hm;refine Zh (Zqo bk ((ap.gr ai).kp aj) ((aq.gr ai).kp aj)) fun _ b1 ⟨bm,av,aw,ax,ay,e',az,bn,bo⟩=>⟨_,e',?_⟩;refine Tx (col:=bm) (r:=rQ) (xs:=[((aa.1.1,aa.1.2),aa.2)]) [(.agg #[.bool aa.1.1,.slice av aa.1.2.length aw,.slice ax aa.2.length ay])] 3 (Wl.ofF (Rows.consF (r:=rQ) (x:=((aa.1.1,aa.1.2),aa.2)) (cs:=[.bool aa.1.1,.slice av aa.1.2.length aw,.slice ax aa.2.length ay]) (Zm6 (Zm6 (Zaf aa.1.1) (Zpo bn)) (Zpo bo)) Rows.nil0)) ?_;intro b2 b3 b4 a1 bp;obtain ⟨bq,hm⟩:=Zx hm;refine Y9 ((((ah.gr ai).kp aj).gr az).gr a1) (bp.srcN (NB.pair (NB.pair NB.bool NB.slice) NB.slice)) bq ?_;intro b5 b6 b7 b8 br bs;refine go ?_;replace ab:=((((ab.grow ai).kp aj bi).grow az).grow a1).kpp br;exact ⟨a4.length,by simp,rfl,⟨_,_,_,_,_,_,rfl,a5,hm,ab,bs,(Yx (congrArg (Value.int .i64) (Yt (aJ a6 (h0.ks ab).1.1))) rfl)⟩⟩
def Zc1 (N:Nat) (ab:List R1) (ac:Int):Nat→Int→Option Rh
  | 0,_=>none
  | ad+1,aa=>if (decide (aa<(ab.length:Int)))=true then (Zv ((0:Int)≤aa∧aa≤(ab.length:Int)) (Zv ((0:Int)≤aa∧aa≤(i64.wrap (aa+(if ((ab.drop (aA aa)).length:Int)<ac then ((ab.drop (aA aa)).length:Int) else ac)))∧(i64.wrap (aa+(if ((ab.drop (aA aa)).length:Int)<ac then ((ab.drop (aA aa)).length:Int) else ac)))≤(i64.wrap (aa+(if ((ab.drop (aA aa)).length:Int)<ac then ((ab.drop (aA aa)).length:Int) else ac)))∧(i64.wrap (aa+(if ((ab.drop (aA aa)).length:Int)<ac then ((ab.drop (aA aa)).length:Int) else ac)))≤(ab.length:Int)) (((Zc1 N ab ac ad) (i64.wrap (aa+ac))).bind fun ae=>some ((ab.take (aA (i64.wrap (aa+(if ((ab.drop (aA aa)).length:Int)<ac then ((ab.drop (aA aa)).length:Int) else ac))))).drop (aA aa) :: ae)))) else (some [])
def Zmf (N:Nat) (aa:List R1) (ab:Int):Option Rh:=
  Zc1 N aa ab N 0
theorem Z04 (N:Nat) (col:Zd) (w0:World) (g0:Nat) (af0:Option Addr) (capf0:Nat) (ab:List R1) (hf0:Sl rQ col w0 af0 capf0 ab) (hb0:Ze 29 450 col w0 g0 #[.slice af0 ab.length capf0]) (g1:Nat) (ac:Int) (hb1:Ze 3 450 col w0 g1 #[.int .i64 ac]) (r:List R8) (hm:Zmf N ab ac=some r):
    Zfw prog 1 209 [.pointer (some ⟨g0,0,none⟩),.pointer (some ⟨g1,0,none⟩)] (fun (y:List R1) (col:Zd) (w:World) (args:List Value)=>∃ a0 ak,args=[.slice a0 y.length ak]∧Sl rQ col w a0 ak y) r col w0:=by
 intro l J X hjs hxs hy ad;refine Zf4 (m:=31) (args:=[.func (.yield l) #[] #[],.pointer (some ⟨g0,0,none⟩),.pointer (some ⟨g1,0,none⟩)]) func209 rfl rfl rfl rfl ?_;rw [Zmf.eq_1] at hm;refine go ?_;refine Zt [0,1,2,1000000] (fun n f ah=>∃ ae r aa af,af=n∧Zc1 N ab ac af aa=some r∧J r ae ah∧Sl rQ ae ah af0 capf0 ab∧Ze 29 450 ae ah g0 #[.slice af0 ab.length capf0]∧Ze 3 450 ae ah g1 #[.int .i64 ac]∧[4].map f=[.int .i64 aa]) N ⟨_,_,0,_,rfl,hm,ad,hf0,hb0,hb1,rfl⟩ ?_;clear hm;intro n f ah hI;obtain ⟨ae,r,aa,af,hn,hm,ad,hf0,hb0,hb1,hs⟩:=hI;subst hn;refine .lL [4] hs ?_
 cases af with
 | zero=>rw [Zc1.eq_1] at hm;cases hm
 | succ af=>
  rw [Zc1.eq_2] at hm;refine go ?_;refine lW hb0.at1<|go ?_;refine Zl hm (fun hb hm=>go ?_) fun hb hm=>go ?_
  ·refine Y0 (col:=ae) (by kernel_rfl) (by kernel_rfl)<|qW (fun _ hC=>hb1.at1.gr (hC.bl ae)) ?_;refine qW (fun _ hC=>hb0.at1.gr (hC.bl ae)) ?_;refine go ?_;obtain ⟨al,hm⟩:=Zx hm;have ap:=hf0.drop (sz:=3) rfl (aA aa);refine qv (v:=.slice (if capf0=(aA aa) then af0 else af0.map (·.add ((aA aa) * 3))) (ab.length - (aA aa)) (capf0 - (aA aa))) rfl (fun _ hC=>Z4w underlying29 sizeOf42 rfl rfl al.1 al.2) ?_;generalize (if capf0=(aA aa) then af0 else af0.map (·.add ((aA aa) * 3)))=am at *;refine .ld (d:=16) (v:=(.slice am ((ab.drop (aA aa)).length) (capf0 - (aA aa)))) (congrArg (fun n=>Value.slice am n (capf0 - (aA aa))) (cA (i:=(aA aa)) (l:=ab)).symm) ?_;refine go ?_;refine qv (v:=(.int .i64 (if ((ab.drop (aA aa)).length:Int)<ac then ((ab.drop (aA aa)).length:Int) else ac))) rfl (fun _ hC=>Zkl ac ((ab.drop (aA aa)).length:Int) rfl rfl) ?_;refine go ?_;refine Xw ?_;intro aq hC;replace hC:=hC.bl ae;replace hf0:=hf0.gr hC;replace hb0:=hb0.gr hC;replace hb1:=hb1.gr hC;replace ad:=hjs _ _ _ _ _ ad hC.toP;refine go ?_;refine lM (.func (.yield l) #[] #[])<|lW hb0.at1<|go ?_;obtain ⟨ag,hm⟩:=Zx hm;have an:=((hf0.take (aA (i64.wrap (aa+(if ((ab.drop (aA aa)).length:Int)<ac then ((ab.drop (aA aa)).length:Int) else ac))))).recap (show (ab.take (aA (i64.wrap (aa+(if ((ab.drop (aA aa)).length:Int)<ac then ((ab.drop (aA aa)).length:Int) else ac))))).length≤(aA (i64.wrap (aa+(if ((ab.drop (aA aa)).length:Int)<ac then ((ab.drop (aA aa)).length:Int) else ac)))) by rw [bX (i:=(aA (i64.wrap (aa+(if ((ab.drop (aA aa)).length:Int)<ac then ((ab.drop (aA aa)).length:Int) else ac))))) (l:=ab)];have:=ag.2;omega)).drop (sz:=3) rfl (aA aa);refine lv (v:=.slice (if (aA (i64.wrap (aa+(if ((ab.drop (aA aa)).length:Int)<ac then ((ab.drop (aA aa)).length:Int) else ac))))=(aA aa) then af0 else af0.map (·.add ((aA aa) * 3))) ((aA (i64.wrap (aa+(if ((ab.drop (aA aa)).length:Int)<ac then ((ab.drop (aA aa)).length:Int) else ac)))) - (aA aa)) ((aA (i64.wrap (aa+(if ((ab.drop (aA aa)).length:Int)<ac then ((ab.drop (aA aa)).length:Int) else ac)))) - (aA aa))) rfl rfl (Z4x underlying29 sizeOf42 rfl rfl rfl rfl ag.1 ag.2.1 ag.2.2.1 (by have:=hf0.1.2;have:=ag.2.2.2;omega)) ?_
   generalize (if (aA (i64.wrap (aa+(if ((ab.drop (aA aa)).length:Int)<ac then ((ab.drop (aA aa)).length:Int) else ac))))=(aA aa) then af0 else af0.map (·.add ((aA aa) * 3)))=ai at *;refine .ld (d:=28) (v:=(.slice ai (((ab.take (aA (i64.wrap (aa+(if ((ab.drop (aA aa)).length:Int)<ac then ((ab.drop (aA aa)).length:Int) else ac))))).drop (aA aa)).length) ((aA (i64.wrap (aa+(if ((ab.drop (aA aa)).length:Int)<ac then ((ab.drop (aA aa)).length:Int) else ac)))) - (aA aa)))) (congrArg (fun n=>Value.slice ai n ((aA (i64.wrap (aa+(if ((ab.drop (aA aa)).length:Int)<ac then ((ab.drop (aA aa)).length:Int) else ac)))) - (aA aa))) (show (aA (i64.wrap (aa+(if ((ab.drop (aA aa)).length:Int)<ac then ((ab.drop (aA aa)).length:Int) else ac)))) - (aA aa)=((ab.take (aA (i64.wrap (aa+(if ((ab.drop (aA aa)).length:Int)<ac then ((ab.drop (aA aa)).length:Int) else ac))))).drop (aA aa)).length by rw [cA (i:=(aA aa)) (l:=ab.take (aA (i64.wrap (aa+(if ((ab.drop (aA aa)).length:Int)<ac then ((ab.drop (aA aa)).length:Int) else ac))))),bX (i:=(aA (i64.wrap (aa+(if ((ab.drop (aA aa)).length:Int)<ac then ((ab.drop (aA aa)).length:Int) else ac))))) (l:=ab)];have:=ag.2;omega)) ?_;obtain ⟨ar,hc_14m,ao⟩:=bZ hm;cases ao;have hm:=hc_14m;refine ly1 rfl rfl rfl (hy _ _ _ _ [(.slice ai (((ab.take (aA (i64.wrap (aa+(if ((ab.drop (aA aa)).length:Int)<ac then ((ab.drop (aA aa)).length:Int) else ac))))).drop (aA aa)).length) ((aA (i64.wrap (aa+(if ((ab.drop (aA aa)).length:Int)<ac then ((ab.drop (aA aa)).length:Int) else ac)))) - (aA aa)))] ad ⟨ai,((aA (i64.wrap (aa+(if ((ab.drop (aA aa)).length:Int)<ac then ((ab.drop (aA aa)).length:Int) else ac)))) - (aA aa)),rfl,an⟩) ?_;rintro _ au ⟨av,aj,⟨rfl,hJ⟩ | ⟨rfl,hX⟩⟩
   ·refine ⟨_,rfl,?_⟩;have ad:=hJ;refine go ?_;refine Yc rfl<|go ?_;replace hb1:=hb1.kpp aj;refine lW hb1.at1<|go ?_;replace hf0:=hf0.kpp aj;replace hb0:=hb0.kpp aj;exact ⟨af,by omega,rfl,⟨_,_,_,_,rfl,hm,ad,hf0,hb0,hb1,rfl⟩⟩
   refine ⟨_,rfl,?_⟩;have ad:=hX;refine go ?_;refine Yd rfl<|Y1 ?_;exact ⟨rfl,⟨_,rfl⟩,_,.inr ad⟩
  cases hm;exact ⟨rfl,⟨_,rfl⟩,_,.inl ad⟩
def Zmg (N:Nat) (aa:R8) (ab:Int):Option Rh:=
  Zmf N aa ab
def Zme (N:Nat) (ab:R8) (aa:Int):Option Rh:=
  if (decide (aa<1))=true then none else (Zmg N ab aa)
theorem Z03 {N aa:Nat} {a0:Option Addr} {col:Zd} {w0:World} {ac:R8} {ad:Int} {r:Rh} (hm:Zme N ac ad=some r) (h0:Sl rQ col w0 a0 aa ac):
    Calls prog 174 #[.slice a0 ac.length aa,.int .i64 ad] w0 (fun e w'=>∃ (col':Zd) (rv1:Value),e= .returned (rv1)∧Zk col w0 col' w'∧It prog 1 rv1 (fun (y:List R1) (col:Zd) (w:World) (args:List Value)=>∃ a0 aa,args=[.slice a0 y.length aa]∧Sl rQ col w a0 aa y) r q0 col' w'):=by
 refine Z7 4 (m:=9) func174 rfl rfl rfl rfl rfl ?_;rw [Zme.eq_1] at hm;have ab:=St.start col w0;refine go ?_;refine Zdl (col:=(Zg col)) (v:=(.slice a0 ac.length aa)) 1 rfl rfl ?_;intro af ap an aq ae;replace ae:Ze 29 1 an ap af #[.slice a0 ac.length aa]:=ae;refine Zdl (col:=an) (v:=(.int .i64 ad)) 2 rfl rfl ?_;intro ag ar au ao ah;replace ah:Ze 3 2 au ar ag #[.int .i64 ad]:=ah;refine lv (v:=_) rfl rfl (Uu rfl)<|Zj<|Zw ?_;replace ab:=(ab.grow aq).grow ao;replace ae:=ae.gr ao;refine Wp.cutK [2,3,1000000] (fun f aj=>∃ ai,Zmg N ac ad=some r∧St w0 (Zg col) ai aj∧Ze 29 1 ai aj af #[.slice a0 ac.length aa]∧Ze 3 2 ai aj ag #[.int .i64 ad]) ?_ ?_
 ·intro f aj hJ;obtain ⟨ai,hm,ab,ae,ah⟩:=hJ;rw [Zmg.eq_1] at hm;refine go ?_;refine lV (.func (.func 209) #[] #[.pointer (some ⟨af,0,none⟩),.pointer (some ⟨ag,0,none⟩)]) (Zpk rfl rfl)<|lA (.func (.func 209) #[] #[.pointer (some ⟨af,0,none⟩),.pointer (some ⟨ag,0,none⟩)])<|go ?_;have ak:=ab.finBox (G:=(fun n=>bif aC n 1 then 450 else bif aC n 2 then 450 else 0)) ae (by decide) (by decide) (show (fun n=>bif aC n 1 then 450 else bif aC n 2 then 450 else 0) 1=450 from rfl);have h0f:=ab.finSl (g:=(fun n=>bif aC n 1 then 450 else bif aC n 2 then 450 else 0)) rfl (h0.k0.ks ab);have al:=ab.finBox (G:=(fun n=>bif aC n 1 then 450 else bif aC n 2 then 450 else 0)) ah (by decide) (by decide) (show (fun n=>bif aC n 1 then 450 else bif aC n 2 then 450 else 0) 2=450 from rfl);refine ⟨rfl,Vs w0.heap.size col ai (fun n=>bif aC n 1 then 450 else bif aC n 2 then 450 else 0),_,rfl,ab.fin (fun n=>bif aC n 1 then 450 else bif aC n 2 then 450 else 0),209,[.pointer (some ⟨af,0,none⟩),.pointer (some ⟨ag,0,none⟩)],rfl,call209,?_⟩;intro col9 w9 am hk9;exact Z04 N col9 w9 af a0 aa ac (h0f.itk am hk9 rfl) (ak.itk am hk9 rfl) ag ad (al.itk am hk9 rfl) r hm
 refine go ?_;refine lW ah.at1<|go ?_;refine Zl hm (fun hb hm=>?_) fun hb hm=>?_
 ·cases hm
 refine X7 ?_;exact ⟨rfl,_,hm,ab,ae,ah⟩
def Zd2 (N:Nat):Option R1:=
  (Zi3 N 1 1).bind fun aa=>some ((aa.1.1.1,aa.1.1.2),aa.1.2)
theorem Znu {N:Nat} {col:Zd} {w0:World} {r:R1} (c1 c2:Nat) (hm:Zd2 N=some r):
    Calls prog 94 #[] w0 (Sm 45 c1 c2 col w0 r):=by
 refine Yw (m:=8) func94 rfl rfl rfl ?_;rw [Zd2.eq_1] at hm;have ab:=St.start col w0;refine go ?_;refine Xt (col:=(Zg col)) #[.bool false,(nI),(nI)] 1 zeroValue42 ?_;intro ay az an ao ae;refine go ?_;obtain ⟨aa,ap,hm⟩:=bZ hm;refine Zh (Zza (col:=an) 2 3 ap) fun _ a0 ⟨aq,ai,aj,ak,al,e',am,af,ag⟩=>⟨_,e',?_⟩;refine lM (.tuple #[(.agg #[.bool aa.1.1.1,.slice ai aa.1.1.2.length aj,.slice ak aa.1.2.length al]),.int .i64 aa.2])<|lV (.agg #[.bool aa.1.1.1,.slice ai aa.1.1.2.length aj,.slice ak aa.1.2.length al]) (X6 rfl rfl)<|lV (.int .i64 aa.2) (X6 rfl rfl)<|Xt (col:=aq) #[.bool false,(nI),(nI)] 4 zeroValue42 ?_;intro a1 a2 a3 ac ar;refine Xg ar ?_;intro a4 ad au av;refine go ?_;refine lV _ (Xh isAgg42 sizeOf42 av) ?_;refine Xg (((ae.gr am).gr ac).kp ad) ?_;intro a5 ah aw ax;refine go ?_;cases hm;replace ab:=((((ab.grow ao).grow am).grow ac).kp ad au).kp ah aw;exact ⟨rfl,_,ra ax.atN,_,_,_,_,_,rfl,ab.fin (cm [(2,c1),(3,c2)]),ab.fo (((af.gr ac).kp ad).kp ah),ab.fo (((ag.gr ac).kp ad).kp ah)⟩
def Zov (aa:Bool):Option Bool:=
  some aa
def Zd4 (N:Nat):List R8→Bool→Option Bool
  | [],ac=>some true
  | ad :: ae,ac=>(Zi4 N ad).bind fun aa=>(Zd2 N).bind fun ab=>(Zgj N ((aa.1.1,aa.1.2),aa.2) ((ab.1.1,ab.1.2),ab.2)).bind fun af=>if (!decide (af=0))=true then (Zov false) else ((Zd4 N ae) ac)
def Zjb (N:Nat) (aa:R8) (ab:Int):Option Bool:=
  (Zme N aa ab).bind fun ac=>Zd4 N ac false
theorem Zzt {N ah:Nat} {a0:Option Addr} {col:Zd} {w0:World} {am:R8} {ao:Int} {r:Bool} (hm:Zjb N am ao=some r) (h0:Sl rQ col w0 a0 ah am):
    Calls prog 137 #[.slice a0 am.length ah,.int .i64 ao] w0 (W1 w0 r):=by
 refine Zrd (m:=15) (args:=[.slice a0 am.length ah,.int .i64 ao]) func137 rfl rfl rfl ?_;rw [Zjb.eq_1] at hm;have aa:=St.start col w0;have hmk:Ym 499 (Zg col) w0 []:=.nil;refine go ?_;refine S3 (col:=(Zg col)) (v:=(.bool false)) 1 rfl zeroValue4 ?_;intro ai a4 a5 ax ab;replace ab:Ze 4 1 a5 a4 ai #[.bool false]:=ab;refine go ?_;obtain ⟨a6,a7,hm⟩:=bZ hm;replace aa:=aa.grow ax;refine Zh (Z03 a7 (h0.k0.ks aa)) ?_;rintro _ bq ⟨a8,br,rfl,ap,a9⟩;refine ⟨_,rfl,go ?_⟩;replace hmk:=(hmk.gr ax).gr ap;replace ab:=ab.gr ap;replace aa:=aa.grow ap;refine Zkw (psl:=[9]) (arr:=(fun (y:List R1) (col:Zd) (w:World) (args:List Value)=>∃ a0 ah,args=[.slice a0 y.length ah]∧Sl rQ col w a0 ah y)) (ys:=a6) (col:=a8) 498 rfl a9 rfl hmk rfl rfl (by rintro _ _ _ _ ⟨_,_,rfl,_⟩;rfl) (fun ys_ ad ae=>∃ (ac:Bool),Zd4 N ys_ ac=some r∧St w0 (Zg col) ad ae∧Ze 4 1 ad ae ai #[.bool ac]) (fun c_ ad ae=>(c_= .ret∧∃ (ac:Bool),Zov ac=some r∧St w0 (Zg col) ad ae∧Ze 4 1 ad ae ai #[.bool ac])) ?_ ?_ ⟨false,hm,aa,ab⟩ ?_ ?_ ?_
 ·intro ys_ ad ae col2_ w2_ hJ hk;obtain ⟨ac,hm,aa,ab⟩:=hJ;exact ⟨ac,hm,aa.kpp hk rfl rfl,ab.kpp hk rfl⟩
 ·intro c_ ad ae col2_ w2_ hX hk;obtain ⟨rfl,hX⟩:=hX;obtain ⟨ac,hm,aa,ab⟩:=hX;exact ⟨rfl,⟨ac,hm,aa.kpp hk rfl rfl,ab.kpp hk rfl⟩⟩
 ·intro bs bt bu bv bw ad ae args hJ hrec hmk harr;obtain ⟨ac,hm,aa,ab⟩:=hJ;rw [Zd4.eq_2] at hm;have hki:=Z1.refl (pC 1) ad ae;obtain ⟨bx,bz,rfl,aq⟩:=harr;refine go ?_;refine ⟨_,hrec,?_⟩;intro b0 b1 aj ay hrec2;have hrec:=hrec2;refine go ?_;obtain ⟨b2,ba,hm⟩:=bZ hm;refine Zh (Zzc 2 3 ba (aq.kp aj)) fun _ b3 ⟨bb,b4,b5,b6,b7,e',ak,ar,au⟩=>⟨_,e',?_⟩;obtain ⟨b8,bc,hm⟩:=bZ hm;refine lc rfl rfl (Zfr call94) (Znu (col:=bb) 4 5 bc:) fun _ bd ⟨av,b9,ca,cb,cc,e',af,be,bf⟩=>⟨_,e',?_⟩;obtain ⟨cd,bg,hm⟩:=bZ hm;refine Zh (Zql bg (((((ar.gr af).toSlF (Zm.int .u32)).froz 3).froz 4).froz 5) (((((au.gr af).froz 2).toSlF (Zm.int .u32)).froz 4).froz 5) ((((be.froz 2).froz 3).toSlF (Zm.int .u32)).froz 5) ((((bf.froz 2).froz 3).froz 4).toSlF (Zm.int .u32))) fun _ bh ⟨e',ag⟩=>⟨_,e',?_⟩;replace ag:Zk av bd av bh:=.of_below ag;refine go ?_;replace ab:=(((ab.kp aj).gr ak).gr af).gr ag;replace hmk:=(((hmk.kp aj).gr ak).gr af).gr ag;replace hki:=(((hki.kp aj ay rfl).gr ak).gr af).gr ag;replace aa:=(((aa.kp aj ay).grow ak).grow af).grow ag;replace hrec:=((hrec.gr ak).gr af).gr ag;refine Zl hm (fun hb hm=>go ?_) fun hb hm=>?_
  ·refine W5 (v:=(.bool false)) ab sizeOf4 rfl rfl (by intro u hu;simp only [Value.cells,aM,aO,or_false] at hu;subst hu;rfl) rfl rfl ?_;intro bi an az aw;replace aw:Ze 4 1 av bi ai #[.bool false]:=aw;refine go ?_;replace hrec:=hrec.kp an;replace hmk:=hmk.kp an;replace hki:=hki.kp an az rfl;replace aa:=aa.kp an az;exact ⟨_,hki,⟨rfl,⟨false,hm,aa,aw⟩⟩,hrec,hmk⟩
  refine X7 ?_;exact ⟨_,hki,⟨ac,hm,aa,ab⟩,hrec,hmk⟩
 ·intro bj ad ae hJ hmk;obtain ⟨ac,hm,aa,ab⟩:=hJ;rw [Zd4.eq_1] at hm;refine go ?_;refine W5 (v:=(.bool true)) ab sizeOf4 rfl rfl (by intro u hu;simp only [Value.cells,aM,aO,or_false] at hu;subst hu;rfl) rfl rfl ?_;intro bk a1 bm al;replace al:Ze 4 1 ad bk ai #[.bool true]:=al;refine go ?_;cases hm;replace hmk:=hmk.kp a1;refine ⟨_,(bj :: []),rfl,hmk,?_⟩;intro ce a2 bn;replace aa:=(aa.kp a1 bm).kp a2 bn;exact ⟨_,Zda rfl rfl isAgg4 rfl (al.kp a2).at1,rfl,aa.below⟩
 intro c_ bo ad ae hX hmk;obtain ⟨rfl,hX⟩:=hX;obtain ⟨ac,hm,aa,ab⟩:=hX;rw [Zov.eq_1] at hm;refine Y1 ?_;cases hm;refine ⟨_,(bo :: []),rfl,hmk,?_⟩;intro cf a3 bp;exact ⟨_,Zda rfl rfl isAgg4 rfl (ab.kp a3).at1,rfl,(aa.kp a3 bp).below⟩
def Zgy (aa:Bool):Option Bool:=
  some aa
def Zgx (N:Nat) (aa:R1):Option Bool:=
  (Zgl N ((aa.1.1,aa.1.2),aa.2)).bind fun ac=>if (decide (ac<0))=true then (Zgy true) else ((Zd2 N).bind fun ab=>(Zgj N ((aa.1.1,aa.1.2),aa.2) ((ab.1.1,ab.1.2),ab.2)).bind fun ad=>Zgy (decide (0<ad)))
theorem Zzq {N al am:Nat} {an ao:Option Addr} {col:Zd} {w0:World} {ac:R1} {r:Bool} (hm:Zgx N ac=some r) (ah:Sl rU col w0 an al ac.1.2) (ai:Sl rU col w0 ao am ac.2):
    Calls prog 136 #[(.agg #[.bool ac.1.1,.slice an ac.1.2.length al,.slice ao ac.2.length am])] w0 (W1 w0 r):=by
 refine Z7 2 (m:=12) func136 rfl rfl rfl rfl rfl ?_;rw [Zgx.eq_1] at hm;have aa:=St.start col w0;refine go ?_;refine Xf (col:=(Zg col)) 1 rfl ?_;intro a6 a7 ab ay aj;refine Qu rfl<|Zj<|Zw ?_;replace ah:=ah.k0;replace ai:=ai.k0;replace aa:=aa.grow ay;refine Wp.cutK [1000000] (fun f av=>∃ aw ap,Zgy ap=some r∧St w0 (Zg col) aw av∧[2].map f=[.bool ap]) ?_ ?_
 ·intro f av hJ;obtain ⟨aw,ap,hm,aa,hs⟩:=hJ;rw [Zgy.eq_1] at hm;refine .lL [2] hs<|Y1 ?_;cases hm;exact ⟨rfl,rfl,aa.below⟩
 refine Wc (col:=ab) [(0,0),(1,3),(2,1),(3,1),(4,0),(5,3),(6,3),(7,1),(8,1),(9,1)] (by kernel_rfl) (by kernel_rfl)<|xv rfl rfl (fun _ hC=>Xh isAgg42 sizeOf42 (aj.gr (hC.bl ab))) ?_;refine xe rfl rfl ?_;intro az hC0;have hC:=hC0.bl ab;obtain ⟨ae,a0,hm⟩:=bZ hm;replace aa:=aa.grow hC;refine Zh (Zzb a0 (ah.ks aa) (ai.ks aa)) fun _ a1 ⟨e',ag⟩=>⟨_,e',?_⟩;replace ag:Zk ab az ab a1:=.of_below ag;refine Zj<|Xp ab hC0 ag<|xu rfl rfl (fun _=>Zm3 _ _ rfl rfl) ?_;refine xu rfl rfl (fun _=>Zvu rfl) ?_;replace aj:=(aj.gr hC).gr ag;replace aa:=aa.grow ag;refine Xo hm (fun ad hm=>?_) fun ad hm=>?_
 ·refine Zdf (b:=decide (ae<0)) 6 rfl rfl rfl rfl rfl (by rw [ad];rfl)<|Zdf (b:=decide (ae<0)) 6 rfl rfl rfl rfl rfl (by rw [ad];rfl)<|Zdf (b:=decide (ae<0)) 6 rfl rfl rfl rfl rfl (by rw [ad];rfl)<|Zdf (b:=decide (ae<0)) 6 rfl rfl rfl rfl rfl (by rw [ad];rfl)<|xu (v:=(.bool true)) rfl rfl (fun _=>Z5 (congrArg Value.bool ad) rfl) ?_;refine xu rfl rfl (fun _=>Zmy rfl) ?_;refine Y4 ?_;intro a8 hC;replace hC:=hC.bl ab;replace aa:=aa.grow hC;exact ⟨rfl,_,_,hm,aa,rfl⟩
 refine Zys (v:=(.agg #[.bool ac.1.1,.slice an ac.1.2.length al,.slice ao ac.2.length am])) (b:=decide (ae<0)) 6 rfl rfl rfl rfl rfl (by rw [ad];rfl) (fun _ hC=>Yq isAgg42 sizeOf42 rfl rfl (aj.atN.gr (hC.bl ab))) ?_;refine xe rfl rfl ?_;intro a9 hC0;have hC:=hC0.bl ab;refine go ?_;obtain ⟨ba,a2,hm⟩:=bZ hm;refine lc rfl rfl (Zfr call94) (Znu (col:=ab) 6 7 a2:) fun _ bb ⟨af,bc,bd,be,bf,e',ax,aq,ar⟩=>⟨_,e',?_⟩;refine Zj<|Xp af hC0 ax<|xe rfl rfl ?_;intro a3 hC0;replace aa:=(aa.grow hC).grow ax;have hC:=hC0.bl af;refine go ?_;obtain ⟨au,a4,hm⟩:=bZ hm;replace aa:=aa.grow hC;refine Zh (Zql a4 (((ah.ks aa).froz 6).froz 7) (((ai.ks aa).froz 6).froz 7) (((aq.gr hC).toSlF (Zm.int .u32)).froz 7) (((ar.gr hC).froz 6).toSlF (Zm.int .u32))) fun _ a5 ⟨e',ak⟩=>⟨_,e',?_⟩;replace ak:Zk af a3 af a5:=.of_below ak;refine Zj<|Xp af hC0 ak<|Zyr (v:=(.bool (decide (0<au)))) (b:=decide (ae<0)) 6 rfl rfl rfl rfl rfl (by rw [ad];rfl) (fun _=>Zm1 au 0 rfl rfl) ?_;refine xu (v:=(.bool (decide (0<au)))) rfl rfl (fun _=>Xn (congrArg Value.bool ad) rfl) ?_;refine xu rfl rfl (fun _=>Zmy rfl) ?_;refine Y4 ?_;intro bg hC;exact ⟨rfl,_,_,hm,(aa.grow ak).grow (hC.bl af),rfl⟩
def Zfm (N:Nat):List R1→Nat→Option Int
  | [],aa=>some (-1)
  | ab :: ac,aa=>(Zgx N ((ab.1.1,ab.1.2),ab.2)).bind fun ad=>if ad=true then (some (aa:Int)) else ((Zfm N ac) (aa+1))
def Zmi (N:Nat) (aa:R8):Option Int:=
  Zfm N aa 0
theorem Z07 {N aj:Nat} {a0:Option Addr} {col:Zd} {w0:World} {ab:R8} {r:Int} (hm:Zmi N ab=some r) (h0:Sl rQ col w0 a0 aj ab):
    Calls prog 172 #[.slice a0 ab.length aj,(.func (.func 136) #[] #[])] w0 (Wq w0 r):=by
 refine Z7 4 (m:=19) func172 rfl rfl rfl rfl rfl ?_;rw [Zmi.eq_1] at hm;have aa:=St.start col w0;refine go ?_;refine Zt [0,1,7,1000000] (fun n f af=>∃ ae ac ad,n=ad.length∧ab.drop ac=ad∧Zfm N ad ac=some r∧St w0 (Zg col) ae af∧[8].map f=[.int .i64 ac]) ab.length ⟨_,0,_,rfl,rfl,hm,aa,rfl⟩ ?_;clear hm;intro n f af hI;obtain ⟨ae,ac,ad,hn,hl,hm,aa,hs⟩:=hI;subst hn;refine .lL [8] hs ?_;replace h0:=h0.k0
 cases ad with
 | nil=>
  have hk:¬ ((ac:Int)<(ab.length:Int)):=by have:=aK.1 hl;omega
  have hkb:=decide_eq_false hk;rw [Zfm.eq_1] at hm;refine go ?_;refine Yc (congrArg Value.bool hkb)<|go ?_;cases hm;exact ⟨rfl,rfl,aa.below⟩
 | cons ag ak=>
  obtain ⟨ah,al,am⟩:=Ys hl;have hk:(ac:Int)<(ab.length:Int):=by omega
  have hkb:=decide_eq_true hk;rw [Zfm.eq_2] at hm;refine go ?_;refine Yd (congrArg Value.bool hkb)<|go ?_;refine lM (.func (.func 136) #[] #[])<|go ?_;refine lI ah ((h0.ks aa).addr ah) ?_;obtain ⟨_,an,ao⟩:=(h0.ks aa).atN ah;obtain ⟨_,_,rfl,ap,aq⟩:=Yr an;obtain ⟨_,_,rfl,ar,au⟩:=Yr ap;obtain ⟨rfl,_⟩:=ar;obtain ⟨⟨av,aw,rfl,ax⟩,_⟩:=au;obtain ⟨⟨ay,az,rfl,a1⟩,_⟩:=aq;refine lV (.agg #[.bool ag.1.1,.slice av ag.1.2.length aw,.slice ay ag.2.length az]) (Yq isAgg42 sizeOf42 rfl rfl ao) ?_;obtain ⟨a4,a2,hm⟩:=bZ hm;refine lc rfl rfl (Z4k call136 rfl rfl) (Zzq a2 ax a1:) fun _ a3 ⟨e',ai⟩=>⟨_,e',?_⟩;replace ai:Zk ae af ae a3:=.of_below ai;refine Zj ?_;replace aa:=aa.grow ai;refine Zl hm (fun hb hm=>go ?_) fun hb hm=>go ?_
  ·cases hm;exact ⟨rfl,rfl,aa.below⟩
  exact ⟨ak.length,by simp,rfl,⟨_,_,_,rfl,al,hm,aa,(Yx (congrArg (Value.int .i64) (Yt (aJ am (h0.ks aa).1.1))) rfl)⟩⟩
def Zmh (N:Nat) (aa:R8):Option Bool:=
  (Zmi N aa).bind fun ab=>some (decide (0≤ab))
theorem Z05 {N ad:Nat} {a0:Option Addr} {col:Zd} {w0:World} {ab:R8} {r:Bool} (hm:Zmh N ab=some r) (h0:Sl rQ col w0 a0 ad ab):
    Calls prog 134 #[.slice a0 ab.length ad,(.func (.func 136) #[] #[])] w0 (W1 w0 r):=by
 refine Z7 4 (m:=9) func134 rfl rfl rfl rfl rfl ?_;rw [Zmh.eq_1] at hm;have aa:=St.start col w0;refine go ?_;refine lM (.func (.func 136) #[] #[]) ?_;obtain ⟨ag,ae,hm⟩:=bZ hm;refine Zh (Z07 ae (h0.k0.ks aa)) fun _ af ⟨e',ac⟩=>⟨_,e',?_⟩;replace ac:Zk (Zg col) w0 (Zg col) af:=.of_below ac;refine go ?_;cases hm;exact ⟨rfl,rfl,(aa.grow ac).below⟩
def Zd3 (ab:R0):List Int→Int→Option Int
  | [],aa=>some aa
  | ad :: ae,aa=>(Zi ab.2.2.1 ad).bind fun ac=>(Zd3 ab ae) (if 1099511627776<(i64.wrap (aa * (ac.length:Int))) then 1099511627776 else (i64.wrap (aa * (ac.length:Int))))
def Zgz (aa:R0) (ab:Int):Option Int:=
  (Zi aa.2.2.2.1 ab).bind fun ac=>Zd3 aa ac 1
theorem Zzr {am an ao ap:Nat} {aq ar au av:Option Addr} {col:Zd} {w0:World} {aa:R0} {a0 r:Int} (hm:Zgz aa a0=some r) (bc:Sl Za.str col w0 aq am aa.2.1) (ai:Sl rV col w0 ar an aa.2.2.1) (aj:Sl rP col w0 au ao aa.2.2.2.1) (bd:Sl (Za.slice rQ) col w0 av ap aa.2.2.2.2):
    Calls prog 133 #[(.agg #[.string aa.1,.slice aq aa.2.1.length am,.slice ar aa.2.2.1.length an,.slice au aa.2.2.2.1.length ao,.slice av aa.2.2.2.2.length ap]),.int .i64 a0] w0 (Wq w0 r):=by
 refine Z7 4 (m:=29) func133 rfl rfl rfl rfl rfl ?_;rw [Zgz.eq_1] at hm;have ab:=St.start col w0;refine go ?_;refine Xf (col:=(Zg col)) 1 rfl ?_;intro a1 be bf a2 ae;refine go ?_;refine Zy ae<|Xe rfl ?_;obtain ⟨af,aw,hm⟩:=bZ hm;replace aj:=aj.k0;replace ab:=ab.grow a2;refine lI aw ((aj.ks ab).addr aw) ?_;obtain ⟨_,a3,a4⟩:=(aj.ks ab).atN aw;obtain ⟨⟨a5,a6,rfl,ac⟩,_⟩:=a3;refine lW a4.one<|go ?_;refine Zt [12,13,2,1000000] (fun n f ak=>∃ al ag ad ah,n=ah.length∧af.drop ag=ah∧Zd3 aa ah ad=some r∧St w0 (Zg col) al ak∧Sl rI al ak a5 a6 af∧Ze 27 1 al ak a1 #[.string aa.1,.slice aq aa.2.1.length am,.slice ar aa.2.2.1.length an,.slice au aa.2.2.2.1.length ao,.slice av aa.2.2.2.2.length ap]∧[14,5].map f=[.int .i64 ag,.int .i64 ad]) af.length ⟨_,0,1,_,rfl,rfl,hm,ab,ac,ae,rfl⟩ ?_;clear hm;intro n f ak hI;obtain ⟨al,ag,ad,ah,hn,hl,hm,ab,ac,ae,hs⟩:=hI;subst hn;refine .lL [14,5] hs ?_;replace ai:=ai.k0
 cases ah with
 | nil=>
  have hk:¬ ((ag:Int)<(af.length:Int)):=by have:=aK.1 hl;omega
  have hkb:=decide_eq_false hk;rw [Zd3.eq_1] at hm;refine go ?_;refine Yc (congrArg Value.bool hkb)<|go ?_;cases hm;exact ⟨rfl,rfl,ab.below⟩
 | cons bg a7=>
  obtain ⟨ax,a8,a9⟩:=Ys hl;have hk:(ag:Int)<(af.length:Int):=by omega
  have hkb:=decide_eq_true hk;rw [Zd3.eq_2] at hm;refine go ?_;refine Yd (congrArg Value.bool hkb)<|go ?_;refine lI ax (ac.addr ax)<|lW (ac.atInt ax) ?_;refine go ?_;refine Zy ae<|Xe rfl ?_;obtain ⟨ay,az,hm⟩:=bZ hm;refine lI az ((ai.ks ab).addr az) ?_;obtain ⟨_,ba,bb⟩:=(ai.ks ab).atN az;obtain ⟨⟨bh,bi,rfl,bj⟩,_⟩:=ba;refine lW bb.one<|go ?_;refine lV (.int .i64 (if 1099511627776<(i64.wrap (ad * (ay.length:Int))) then 1099511627776 else (i64.wrap (ad * (ay.length:Int))))) (Zkl (i64.wrap (ad * (ay.length:Int))) 1099511627776 rfl rfl)<|go ?_;exact ⟨a7.length,by simp,rfl,⟨_,_,_,_,rfl,a8,hm,ab,ac,ae,(Yx (congrArg (Value.int .i64) (Yt (aJ a9 ac.1.1))) rfl)⟩⟩
def Zb8 (N:Nat) (ab:R0):List R8→Nat→Option Int
  | [],aa=>some 0
  | ac :: ad,aa=>(Zi ab.2.2.1 (aa:Int)).bind fun ae=>(Zgv N ac).bind fun af=>(Zjb N af (ae.length:Int)).bind fun ag=>if (!ag)=true then (some 46) else ((Zb8 N ab ad) (aa+1))
def Zav (N:Nat) (aa:R0):List R8→Option Int
  | []=>Zb8 N aa aa.2.2.2.2 0
  | ab :: ac=>(Zgv N ab).bind fun ad=>(Zmh N ad).bind fun ae=>if ae=true then (some 45) else (Zav N aa ac)
def Zau (N:Nat) (aa:R0):List R8→Nat→Option Int
  | [],ab=>Zav N aa aa.2.2.2.2
  | ae :: af,ab=>(Zgz (aa.1,aa.2.1,aa.2.2.1,aa.2.2.2.1,aa.2.2.2.2) (ab:Int)).bind fun ac=>(Zi aa.2.2.1 (ab:Int)).bind fun ad=>if (decide (65536<(i64.wrap (ac * (ad.length:Int)))))=true then (some 4) else (if (!decide ((i64.wrap (ac * (ad.length:Int)))=(ae.length:Int)))=true then (some 60) else ((Zau N aa af) (ab+1)))
def Zat (N:Nat) (aa:R0) (ad:Bool):Option Int:=
  if ad=true then (some 60) else (if (decide (1024<(aa.2.1.length:Int)))=true then (some 4) else ((Zd1 (aa.1,aa.2.1,aa.2.2.1,aa.2.2.2.1,aa.2.2.2.2)).bind fun ab=>if (!decide (ab=0))=true then (some ab) else ((S6 N aa.2.2.2.1).bind fun ac=>if (!decide (ac=0))=true then (some ac) else (Zau N aa aa.2.2.2.2 0))))
def Tf (N:Nat) (aa:R0):Option Int:=
  if (!decide ((aa.2.2.1.length:Int)=(aa.2.1.length:Int)))=true then (Zat N aa true) else (if (!decide ((aa.2.2.2.1.length:Int)=(aa.2.1.length:Int)))=true then (Zat N aa true) else (Zat N aa (!decide ((aa.2.2.2.2.length:Int)=(aa.2.1.length:Int)))))
theorem Zqn {N aj ak al am:Nat} {an ao ap aq:Option Addr} {col:Zd} {w0:World} {ab:R0} {r:Int} (hm:Tf N ab=some r) (a2:Sl Za.str col w0 an aj ab.2.1) (ag:Sl rV col w0 ao ak ab.2.2.1) (aw:Sl rP col w0 ap al ab.2.2.2.1) (ad:Sl (Za.slice rQ) col w0 aq am ab.2.2.2.2):
    Calls prog 89 #[(.agg #[.string ab.1,.slice an ab.2.1.length aj,.slice ao ab.2.2.1.length ak,.slice ap ab.2.2.2.1.length al,.slice aq ab.2.2.2.2.length am])] w0 (Wq w0 r):=by
 refine Z7 2 (m:=103) func89 rfl rfl rfl rfl rfl ?_;rw [Tf.eq_1] at hm;have aa:=St.start col w0;refine go ?_;refine Xf (col:=(Zg col)) 1 rfl ?_;intro a3 cp cq bo ac;refine go ?_;refine Zy ac<|lV _ (Uv underlying22 rfl)<|Yz rfl<|Zj<|Zw<|Zw ?_;replace a2:=a2.k0;replace ag:=ag.k0;replace aw:=aw.k0;replace ad:=ad.k0;replace aa:=aa.grow bo;refine Wp.cutK [1,3,1000000] (fun f a4=>∃ ah a9,Zat N ab a9=some r∧St w0 (Zg col) ah a4∧Ze 27 1 ah a4 a3 #[.string ab.1,.slice an ab.2.1.length aj,.slice ao ab.2.2.1.length ak,.slice ap ab.2.2.2.1.length al,.slice aq ab.2.2.2.2.length am]∧[34].map f=[.bool a9]) ?_ ?_
 ·intro f a4 hJ;obtain ⟨ah,a9,hm,aa,ac,hs⟩:=hJ;rw [Zat.eq_1] at hm;refine .lL [34] hs ?_;refine Zl hm (fun hb hm=>go ?_) fun hb hm=>go ?_
  ·cases hm;exact ⟨rfl,rfl,aa.below⟩
  refine Zl hm (fun hb hm=>go ?_) fun hb hm=>go ?_
  ·cases hm;exact ⟨rfl,rfl,aa.below⟩
  refine lV _ (Xh isAgg27 sizeOf27 ac) ?_;obtain ⟨cr,bp,hm⟩:=bZ hm;refine Zh (Zzp bp (a2.ks aa) (ag.ks aa) (aw.ks aa) (ad.ks aa)) fun _ bk ⟨e',a5⟩=>⟨_,e',?_⟩;replace a5:Zk ah a4 ah bk:=.of_below a5;refine go ?_;replace ac:=ac.gr a5;replace aa:=aa.grow a5;refine Zl hm (fun hb hm=>go ?_) fun hb hm=>go ?_
  ·cases hm;exact ⟨rfl,rfl,aa.below⟩
  refine Zy ac ?_;obtain ⟨cs,bq,hm⟩:=bZ hm;refine Zh (Zy2 bq (aw.ks aa)) fun _ br ⟨e',a6⟩=>⟨_,e',?_⟩;replace a6:Zk ah bk ah br:=.of_below a6;refine go ?_;replace ac:=ac.gr a6;replace aa:=aa.grow a6;refine Zl hm (fun hb hm=>go ?_) fun hb hm=>go ?_
  ·cases hm;exact ⟨rfl,rfl,aa.below⟩
  refine Zy ac ?_;refine go ?_;refine Zt [1,49,50,1000000] (fun n f ba=>∃ ae ar ax,n=ax.length∧ab.2.2.2.2.drop ar=ax∧Zau N ab ax ar=some r∧St w0 (Zg col) ae ba∧Ze 27 1 ae ba a3 #[.string ab.1,.slice an ab.2.1.length aj,.slice ao ab.2.2.1.length ak,.slice ap ab.2.2.2.1.length al,.slice aq ab.2.2.2.2.length am]∧[51].map f=[.int .i64 ar]) ab.2.2.2.2.length ⟨_,0,_,rfl,rfl,hm,aa,ac,rfl⟩ ?_;clear hm;intro n f ba hI;obtain ⟨ae,ar,ax,hn,hl,hm,aa,ac,hs⟩:=hI;subst hn;refine .lL [51] hs ?_
  cases ax with
  | nil=>
   have hk:¬ ((ar:Int)<(ab.2.2.2.2.length:Int)):=by have:=aK.1 hl;omega
   have hkb:=decide_eq_false hk;rw [Zau.eq_1] at hm;refine go ?_;refine Yc (congrArg Value.bool hkb)<|go ?_;refine Zy ac ?_;refine go ?_;refine Zt [1,74,75,1000000] (fun n f bb=>∃ bc ay az,n=az.length∧ab.2.2.2.2.drop ay=az∧Zav N ab az=some r∧St w0 (Zg col) bc bb∧Ze 27 1 bc bb a3 #[.string ab.1,.slice an ab.2.1.length aj,.slice ao ab.2.2.1.length ak,.slice ap ab.2.2.2.1.length al,.slice aq ab.2.2.2.2.length am]∧[76].map f=[.int .i64 ay]) ab.2.2.2.2.length ⟨_,0,_,rfl,rfl,hm,aa,ac,rfl⟩ ?_;clear hm;intro n f bb hI;obtain ⟨bc,ay,az,hn,hl,hm,aa,ac,hs⟩:=hI;subst hn;refine .lL [76] hs ?_
   cases az with
   | nil=>
    have hk:¬ ((ay:Int)<(ab.2.2.2.2.length:Int)):=by have:=aK.1 hl;omega
    have hkb:=decide_eq_false hk;rw [Zav.eq_1] at hm;refine go ?_;refine Yc (congrArg Value.bool hkb)<|go ?_;refine Zy ac ?_;refine go ?_;refine Zt [1,85,86,1000000] (fun n f bd=>∃ ai au a0,n=a0.length∧ab.2.2.2.2.drop au=a0∧Zb8 N ab a0 au=some r∧St w0 (Zg col) ai bd∧Ze 27 1 ai bd a3 #[.string ab.1,.slice an ab.2.1.length aj,.slice ao ab.2.2.1.length ak,.slice ap ab.2.2.2.1.length al,.slice aq ab.2.2.2.2.length am]∧[87].map f=[.int .i64 au]) ab.2.2.2.2.length ⟨_,0,_,rfl,rfl,hm,aa,ac,rfl⟩ ?_;clear hm;intro n f bd hI;obtain ⟨ai,au,a0,hn,hl,hm,aa,ac,hs⟩:=hI;subst hn;refine .lL [87] hs ?_
    cases a0 with
    | nil=>
     have hk:¬ ((au:Int)<(ab.2.2.2.2.length:Int)):=by have:=aK.1 hl;omega
     have hkb:=decide_eq_false hk;rw [Zb8.eq_1] at hm;refine go ?_;refine Yc (congrArg Value.bool hkb)<|go ?_;cases hm;exact ⟨rfl,rfl,aa.below⟩
    | cons ct bs=>
     obtain ⟨af,bt,bu⟩:=Ys hl;have hk:(au:Int)<(ab.2.2.2.2.length:Int):=by omega
     have hkb:=decide_eq_true hk;rw [Zb8.eq_2] at hm;refine go ?_;refine Yd (congrArg Value.bool hkb)<|go ?_;refine lI af ((ad.ks aa).addr af) ?_;obtain ⟨_,bv,bw⟩:=(ad.ks aa).atN af;obtain ⟨⟨cu,cv,rfl,be⟩,_⟩:=bv;refine lW bw.one<|go ?_;refine Wc (col:=ai) [(0,1),(2,1),(3,0),(4,1),(5,1),(6,0),(7,1),(1,3),(8,3),(9,1)] (by kernel_rfl) (by kernel_rfl)<|xu rfl rfl (fun _=>Vi rfl) ?_;refine xF ⟨_,_,rfl⟩ ?_;refine xW (fun _ hC=>((ac.atN).nth (q:=2) rfl).gr (hC.bl ai)) ?_;refine xu rfl rfl (fun _=>Wb rfl) ?_;obtain ⟨cw,a7,hm⟩:=bZ hm;refine xu rfl rfl (fun _=>Wa underlying23 sizeOf22 rfl rfl (Xm a7).1 (Xm a7).2.1 ((ag.ks aa).addr a7)) ?_;obtain ⟨_,bx,bz⟩:=(ag.ks aa).atN a7;obtain ⟨⟨cx,cy,rfl,cz⟩,_⟩:=bx;refine xW (fun _ hC=>bz.one.gr (hC.bl ai)) ?_;refine xu rfl rfl (fun _=>Uv underlying22 rfl) ?_;refine xe rfl rfl ?_;intro c0 hC0;have hC:=hC0.bl ai;obtain ⟨c1,b0,hm⟩:=bZ hm;refine Zh (Zqp 2 b0 (be.gr hC)) fun _ c2 ⟨av,c3,c4,e',bf,bg⟩=>⟨_,e',?_⟩;refine Zj<|Xp av hC0 bf<|xe rfl rfl ?_;intro b1 hC0;replace ac:=(ac.gr hC).gr bf;replace aa:=(aa.grow hC).grow bf;have hC:=hC0.bl av;obtain ⟨c5,b2,hm⟩:=bZ hm;refine Zh (Zzt b2 ((bg.gr hC).toSlF (Zm.pair (Zm.pair Zm.bool Zm.slice) Zm.slice))) fun _ b3 ⟨e',a1⟩=>⟨_,e',?_⟩;replace a1:Zk av b1 av b3:=.of_below a1;refine Zj<|Xp av hC0 a1<|xu rfl rfl (fun _=>Zkn _ rfl) ?_;refine Y4 ?_;replace ac:=(ac.gr hC).gr a1;replace aa:=(aa.grow hC).grow a1;intro c6 hC;replace hC:=hC.bl av;replace ac:=ac.gr hC;replace aa:=aa.grow hC;refine Zl hm (fun hb hm=>go ?_) fun hb hm=>go ?_
     ·cases hm;exact ⟨rfl,rfl,aa.below⟩
     exact ⟨bs.length,by simp,rfl,⟨_,_,_,rfl,bt,hm,aa,ac,(Yx (congrArg (Value.int .i64) (Yt (aJ bu (ad.ks aa).1.1))) rfl)⟩⟩
   | cons c7 b4=>
    obtain ⟨af,b5,b6⟩:=Ys hl;have hk:(ay:Int)<(ab.2.2.2.2.length:Int):=by omega
    have hkb:=decide_eq_true hk;rw [Zav.eq_2] at hm;refine go ?_;refine Yd (congrArg Value.bool hkb)<|go ?_;refine lI af ((ad.ks aa).addr af) ?_;obtain ⟨_,b7,b8⟩:=(ad.ks aa).atN af;obtain ⟨⟨c8,c9,rfl,b9⟩,_⟩:=b7;refine lW b8.one<|go ?_;obtain ⟨da,ca,hm⟩:=bZ hm;refine Zh (Zqp 3 ca b9) fun _ cb ⟨bm,db,dc,e',bn,cc⟩=>⟨_,e',?_⟩;obtain ⟨dd,cd,hm⟩:=bZ hm;refine Zh (Z05 cd (cc.toSlF (Zm.pair (Zm.pair Zm.bool Zm.slice) Zm.slice))) fun _ ce ⟨e',a8⟩=>⟨_,e',?_⟩;replace a8:Zk bm cb bm ce:=.of_below a8;refine Zj ?_;replace ac:=(ac.gr bn).gr a8;replace aa:=(aa.grow bn).grow a8;refine Zl hm (fun hb hm=>go ?_) fun hb hm=>go ?_
    ·cases hm;exact ⟨rfl,rfl,aa.below⟩
    exact ⟨b4.length,by simp,rfl,⟨_,_,_,rfl,b5,hm,aa,ac,(Yx (congrArg (Value.int .i64) (Yt (aJ b6 (ad.ks aa).1.1))) rfl)⟩⟩
  | cons de cf=>
   obtain ⟨af,cg,ch⟩:=Ys hl;have hk:(ar:Int)<(ab.2.2.2.2.length:Int):=by omega
   have hkb:=decide_eq_true hk;rw [Zau.eq_2] at hm;refine go ?_;refine Yd (congrArg Value.bool hkb)<|go ?_;refine lI af ((ad.ks aa).addr af) ?_;obtain ⟨_,ci,cj⟩:=(ad.ks aa).atN af;obtain ⟨⟨df,dg,rfl,dh⟩,_⟩:=ci;refine lW cj.one<|go ?_;refine Y0 (col:=ae) (by kernel_rfl) (by kernel_rfl)<|qv rfl (fun _ hC=>Xh isAgg27 sizeOf27 (ac.gr (hC.bl ae))) ?_;refine go ?_;obtain ⟨ck,cl,hm⟩:=bZ hm;refine qc (v:=(.int .i64 ck)) rfl (fun _ hC=>⟨_,_,Sn call133 rfl rfl,(Zzr cl ((a2.ks aa).gr (hC.bl ae)) ((ag.ks aa).gr (hC.bl ae)) ((aw.ks aa).gr (hC.bl ae)) ((ad.ks aa).gr (hC.bl ae)):).mono fun _ _ h=>⟨h.1,hC.trans (.of_below h.2)⟩⟩) ?_;refine qF ⟨_,_,rfl⟩ ?_;refine qW (fun _ hC=>((ac.atN).nth (q:=2) rfl).gr (hC.bl ae)) ?_;refine go ?_;obtain ⟨di,bh,hm⟩:=bZ hm;refine qI bh ((ag.ks aa).addr bh) ?_;obtain ⟨_,cn,co⟩:=(ag.ks aa).atN bh;obtain ⟨⟨dj,dk,rfl,dl⟩,_⟩:=cn;refine qW (fun _ hC=>co.one.gr (hC.bl ae)) ?_;refine go ?_;refine Xw ?_;intro dm hC;replace hC:=hC.bl ae;refine go ?_;replace ac:=ac.gr hC;replace aa:=aa.grow hC;refine Zl hm (fun hb hm=>go ?_) fun hb hm=>go ?_
   ·cases hm;exact ⟨rfl,rfl,aa.below⟩
   refine Zl hm (fun hb hm=>go ?_) fun hb hm=>go ?_
   ·cases hm;exact ⟨rfl,rfl,aa.below⟩
   exact ⟨cf.length,by simp,rfl,⟨_,_,_,rfl,cg,hm,aa,ac,(Yx (congrArg (Value.int .i64) (Yt (aJ ch (ad.ks aa).1.1))) rfl)⟩⟩
 refine Wk<|Zy ac ?_;refine go ?_;refine Xo hm (fun bi hm=>go ?_) fun bi hm=>go ?_
 ·refine lV (.bool true) (Z5 (congrArg Value.bool bi) rfl)<|Ws rfl<|lP 28 rfl rfl<|lP 28 rfl rfl<|lP 28 rfl rfl<|lP 28 rfl rfl<|lP 28 rfl rfl<|lV (.bool true) (Z5 rfl rfl)<|Zj ?_;exact ⟨rfl,_,_,hm,aa,ac,rfl⟩
 refine Z9 ⟨_,_,rfl⟩ ?_;refine go ?_;refine lW ((ac.atN).nth (q:=3) rfl)<|go ?_;refine lV (.bool (!decide ((ab.2.2.2.1.length:Int)=(ab.2.1.length:Int)))) (Xn (congrArg Value.bool bi) rfl)<|Ws rfl ?_;refine Xo hm (fun bj hm=>go ?_) fun bj hm=>go ?_
 ·refine lV (.bool true) (Z5 (congrArg Value.bool bj) rfl)<|Zj ?_;exact ⟨rfl,_,_,hm,aa,ac,rfl⟩
 refine Z9 ⟨_,_,rfl⟩ ?_;refine go ?_;refine lW ((ac.atN).nth (q:=4) rfl)<|go ?_;refine lV (.bool (!decide ((ab.2.2.2.2.length:Int)=(ab.2.1.length:Int)))) (Xn (congrArg Value.bool bj) rfl)<|Zj ?_;exact ⟨rfl,_,_,hm,aa,ac,rfl⟩
def Zew (N:Nat) (ab:List ByteArray) (ac:ByteArray):Nat→Int→Option Int
  | 0,_=>none
  | ad+1,aa=>if (decide (aa<(ab.length:Int)))=true then ((Zi ab aa).bind fun ae=>if (decide (ae=ac))=true then (some aa) else ((Zew N ab ac ad) (i64.wrap (aa+1)))) else (some (-1))
def Zjz (N:Nat) (aa:List ByteArray) (ab:ByteArray):Option Int:=
  Zew N aa ab N 0
theorem Zq3 {N ag:Nat} {a0:Option Addr} {col:Zd} {w0:World} {ac:R4} {ad:ByteArray} {r:Int} (hm:Zjz N ac ad=some r) (h0:Sl Za.str col w0 a0 ag ac):
    Calls prog 96 #[.slice a0 ac.length ag,.string ad] w0 (Wq w0 r):=by
 refine Z7 4 (m:=19) func96 rfl rfl rfl rfl rfl ?_;rw [Zjz.eq_1] at hm;have aa:=St.start col w0;refine go ?_;refine Zt [0,1,1000000] (fun n f ah=>∃ ai ae ab,ab=n∧Zew N ac ad ab ae=some r∧St w0 (Zg col) ai ah∧[5].map f=[.int .i64 ae]) N ⟨_,0,_,rfl,hm,aa,rfl⟩ ?_;clear hm;intro n f ah hI;obtain ⟨ai,ae,ab,hn,hm,aa,hs⟩:=hI;subst hn;refine .lL [5] hs ?_;replace h0:=h0.k0
 cases ab with
 | zero=>rw [Zew.eq_1] at hm;cases hm
 | succ ab=>
  rw [Zew.eq_2] at hm;refine go ?_;refine Zl hm (fun hb hm=>go ?_) fun hb hm=>go ?_
  ·obtain ⟨aj,af,hm⟩:=bZ hm;refine lI af ((h0.ks aa).addr af)<|lW ((h0.ks aa).atStr af) ?_;refine go ?_;refine Zl hm (fun hb hm=>go ?_) fun hb hm=>go ?_
   ·cases hm;exact ⟨rfl,rfl,aa.below⟩
   exact ⟨ab,by omega,rfl,⟨_,_,_,rfl,hm,aa,rfl⟩⟩
  cases hm;exact ⟨rfl,rfl,aa.below⟩
def Zey (N:Nat) (ab:R0):Nat→R2→Int→Option R2
  | 0,_,_=>none
  | ae+1,aa,ac=>if (decide (ac<(ab.2.2.1.length:Int)))=true then ((Zi ab.2.2.1 ac).bind fun ad=>Zv ((aa.length+[(ad.length:Int)].length) * 8≤140737488355328∧aa.length+[(ad.length:Int)].length≤maxLen) ((Zey N ab ae) (aa++[(ad.length:Int)]) (i64.wrap (ac+1)))) else (some aa)
def Zex (N:Nat) (aa:R0):Option R2:=
  Zey N aa N ([]:List Int) 0
theorem Z0m {N aj ak al am:Nat} {an ao ap aq:Option Addr} {col:Zd} {w0:World} {aa:R0} {r:R2} (c1:Nat) (hm:Zex N aa=some r) (a7:Sl Za.str col w0 an aj aa.2.1) (af:Sl rV col w0 ao ak aa.2.2.1) (a8:Sl rP col w0 ap al aa.2.2.2.1) (a9:Sl (Za.slice rQ) col w0 aq am aa.2.2.2.2):
    Calls prog 49 #[(.agg #[.string aa.1,.slice an aa.2.1.length aj,.slice ao aa.2.2.1.length ak,.slice ap aa.2.2.2.1.length al,.slice aq aa.2.2.2.2.length am])] w0 (W2 .i64 3 c1 col w0 r):=by
 refine Z7 2 (m:=22) func49 rfl rfl rfl rfl rfl ?_;rw [Zex.eq_1] at hm;have ab:=St.start col w0;refine go ?_;refine Xf (col:=(Zg col)) 1 rfl ?_;intro az ba bb a0 ac;refine go ?_;replace ab:=ab.grow a0;refine Zt [1,1000000] (fun n f ag=>∃ ae ar au ah av ad,ad=n∧Zey N aa ad ah av=some r∧St w0 (Zg col) ae ag∧Ze 27 1 ae ag az #[.string aa.1,.slice an aa.2.1.length aj,.slice ao aa.2.2.1.length ak,.slice ap aa.2.2.2.1.length al,.slice aq aa.2.2.2.2.length am]∧Zb rI 3 2 ae ag ar au ah∧[3,4].map f=[.slice ar ah.length au,.int .i64 av]) N ⟨_,none,0,_,0,_,rfl,hm,ab,ac,Zb.nil,rfl⟩ ?_;clear hm;intro n f ag hI;obtain ⟨ae,ar,au,ah,av,ad,hn,hm,ab,ac,ai,hs⟩:=hI;subst hn;refine .lL [3,4] hs ?_;replace af:=af.k0
 cases ad with
 | zero=>rw [Zey.eq_1] at hm;cases hm
 | succ ad=>
  rw [Zey.eq_2] at hm;refine go ?_;refine Zy ac ?_;refine go ?_;refine Zl hm (fun hb hm=>go ?_) fun hb hm=>go ?_
  ·refine Zy ac<|Xe rfl ?_;obtain ⟨a1,aw,hm⟩:=bZ hm;refine lI aw ((af.ks ab).addr aw) ?_;obtain ⟨_,a2,a3⟩:=(af.ks ab).atN aw;obtain ⟨⟨bc,bd,rfl,be⟩,_⟩:=a2;refine lW a3.one<|go ?_;refine Wt (col:=ae) [(a1.length:Int)] 3 ?_;intro bf bg bh ax a4;obtain ⟨a5,hm⟩:=Zx hm;replace ai:=ai.gr ax;refine Y9 ai (a4.srcN (NB.int (k:=.i64))) a5 ?_;intro bi bj bk bm ay a6;refine go ?_;replace ab:=(ab.grow ax).kpp ay;exact ⟨ad,by omega,rfl,⟨_,_,_,_,_,_,rfl,hm,ab,(ac.gr ax).kpp ay,a6,rfl⟩⟩
  cases hm;exact ⟨rfl,_,_,_,rfl,ab.fin (cm [(2,c1)]),ab.fo ai⟩
def Zhx (aa:Int) (kk_L2:(Int→Int→Option Int)) (ab:Int):Option Int:=
  kk_L2 ab (i64.wrap (aa+1))
def Zbe (N:Nat) (aa ac:List Int):Nat→Int→Int→Option Int
  | 0,_,_=>none
  | af+1,ad,ab=>if (decide (ab<(aa.length:Int)))=true then ((Zi aa ab).bind fun ag=>(Zi ac ag).bind fun ae=>Zv (ae≠0) (if (decide ((i64.wrap (aU 1099511627776 ae))<ad))=true then (Zhx ab (Zbe N aa ac af) 1099511627776) else (Zhx ab (Zbe N aa ac af) (i64.wrap (ad * ae))))) else (some ad)
def Zev (N:Nat) (aa ab:List Int):Nat→Int→Option Int
  | 0,_=>none
  | ad+1,ac=>if (decide (ac<(aa.length:Int)))=true then ((Zi aa ac).bind fun ae=>(Zi ab ae).bind fun af=>if (decide (af<1))=true then (some 0) else ((Zev N aa ab ad) (i64.wrap (ac+1)))) else (Zbe N aa ab N 1 0)
def Zjy (N:Nat) (aa ab:List Int):Option Int:=
  Zev N aa ab N 0
theorem Z0j {N an ao:Nat} {a0 a1:Option Addr} {col:Zd} {w0:World} {ac ad:R2} {r:Int} (hm:Zjy N ac ad=some r) (h0:Sl rI col w0 a0 an ac) (h1:Sl rI col w0 a1 ao ad):
    Calls prog 98 #[.slice a0 ac.length an,.slice a1 ad.length ao] w0 (Wq w0 r):=by
 refine Z7 4 (m:=48) func98 rfl rfl rfl rfl rfl ?_;rw [Zjy.eq_1] at hm;have aa:=St.start col w0;refine go ?_;refine Zt [0,1,1000000] (fun n f ap=>∃ aq ai ae,ae=n∧Zev N ac ad ae ai=some r∧St w0 (Zg col) aq ap∧[5].map f=[.int .i64 ai]) N ⟨_,0,_,rfl,hm,aa,rfl⟩ ?_;clear hm;intro n f ap hI;obtain ⟨aq,ai,ae,hn,hm,aa,hs⟩:=hI;subst hn;refine .lL [5] hs ?_;replace h0:=h0.k0;replace h1:=h1.k0
 cases ae with
 | zero=>rw [Zev.eq_1] at hm;cases hm
 | succ ae=>
  rw [Zev.eq_2] at hm;refine go ?_;refine Zl hm (fun hb hm=>go ?_) fun hb hm=>go ?_
  ·obtain ⟨az,aj,hm⟩:=bZ hm;refine lI aj ((h0.ks aa).addr aj)<|lW ((h0.ks aa).atInt aj) ?_;obtain ⟨a2,ak,hm⟩:=bZ hm;refine lI ak ((h1.ks aa).addr ak)<|lW ((h1.ks aa).atInt ak) ?_;refine go ?_;refine Zl hm (fun hb hm=>go ?_) fun hb hm=>go ?_
   ·cases hm;exact ⟨rfl,rfl,aa.below⟩
   exact ⟨ae,by omega,rfl,⟨_,_,_,rfl,hm,aa,rfl⟩⟩
  refine Zt [0,1,1000000] (fun n f ar=>∃ au al ah ab,ab=n∧Zbe N ac ad ab al ah=some r∧St w0 (Zg col) au ar∧[6,7].map f=[.int .i64 al,.int .i64 ah]) N ⟨_,1,0,_,rfl,hm,aa,rfl⟩ ?_;clear hm;intro n f ar hI;obtain ⟨au,al,ah,ab,hn,hm,aa,hs⟩:=hI;subst hn;refine .lL [6,7] hs ?_
  cases ab with
  | zero=>rw [Zbe.eq_1] at hm;cases hm
  | succ ab=>
   rw [Zbe.eq_2] at hm;refine go ?_;refine Zl hm (fun hb hm=>?_) fun hb hm=>go ?_
   ·refine X7<|Zw ?_;refine Wp.cutK [0,1,7,1000000] (fun f av=>∃ aw am,Zhx ah (Zbe N ac ad ab) am=some r∧St w0 (Zg col) aw av∧[6].map f=[.int .i64 am]) ?_ ?_
    ·intro f av hJ;obtain ⟨aw,am,hm,aa,hs⟩:=hJ;rw [Zhx.eq_1] at hm;refine .lL [6] hs<|go ?_;exact ⟨ab,by omega,rfl,⟨_,_,_,_,rfl,hm,aa,rfl⟩⟩
    refine go ?_;obtain ⟨a3,af,hm⟩:=bZ hm;refine lI af ((h0.ks aa).addr af)<|lW ((h0.ks aa).atInt af) ?_;obtain ⟨ax,ag,hm⟩:=bZ hm;refine lI ag ((h1.ks aa).addr ag)<|lW ((h1.ks aa).atInt ag) ?_;obtain ⟨ay,hm⟩:=Zx hm;refine lV (.int .i64 (i64.wrap (aU 1099511627776 ax))) (Vm 1099511627776 ax rfl rfl ay)<|go ?_;refine Zl hm (fun hb hm=>go ?_) fun hb hm=>go ?_
    ·exact ⟨rfl,_,1099511627776,hm,aa,rfl⟩
    refine lI af ((h0.ks aa).addr af)<|lW ((h0.ks aa).atInt af)<|lI ag ((h1.ks aa).addr ag)<|lW ((h1.ks aa).atInt ag) ?_;refine go ?_;exact ⟨rfl,_,_,hm,aa,rfl⟩
   cases hm;exact ⟨rfl,rfl,aa.below⟩
def Zj1 (aa:Bool):Option Bool:=
  some aa
def Zj0 (ab aa:Int):Option Bool:=
  if (decide (0<aa))=true then (Zv (aa≠0) (Zj1 (decide ((i64.wrap (aU 65536 aa))<ab)))) else (Zj1 false)
theorem Z0l {col:Zd} {w0:World} {ac aa:Int} {r:Bool} (hm:Zj0 ac aa=some r):
    Calls prog 99 #[.int .i64 ac,.int .i64 aa] w0 (W1 w0 r):=by
 refine Z7 4 (m:=13) func99 rfl rfl rfl rfl rfl ?_;rw [Zj0.eq_1] at hm;have ab:=St.start col w0;refine Zw<|Wk<|Qu rfl<|Zj<|Zw ?_;refine Wp.cutK [1000000] (fun f af=>∃ ag ad,Zj1 ad=some r∧St w0 (Zg col) ag af∧[4].map f=[.bool ad]) ?_ ?_
 ·intro f af hJ;obtain ⟨ag,ad,hm,ab,hs⟩:=hJ;rw [Zj1.eq_1] at hm;refine .lL [4] hs<|Y1 ?_;cases hm;exact ⟨rfl,rfl,ab.below⟩
 refine go ?_;refine Xo hm (fun ae hm=>go ?_) fun ae hm=>go ?_
 ·obtain ⟨ah,hm⟩:=Zx hm;refine lV (.int .i64 (i64.wrap (aU 65536 aa))) (Vm 65536 aa rfl rfl ah)<|go ?_;refine lV (.bool (decide ((i64.wrap (aU 65536 aa))<ac))) (Z5 (congrArg Value.bool ae) rfl)<|go ?_;exact ⟨rfl,_,_,hm,ab,rfl⟩
 refine lV (.bool false) (Xn (congrArg Value.bool ae) rfl)<|go ?_;exact ⟨rfl,_,_,hm,ab,rfl⟩
def Zhy (N:Nat):Option R1:=
  (Za7 N 1 1).bind fun aa=>some ((aa.1.1,aa.1.2),aa.2)
theorem Zq4 {N:Nat} {col:Zd} {w0:World} {r:R1} (c1 c2:Nat) (hm:Zhy N=some r):
    Calls prog 104 #[] w0 (Sm 45 c1 c2 col w0 r):=by
 refine Yw (m:=2) func104 rfl rfl rfl ?_;rw [Zhy.eq_1] at hm;have aa:=St.start col w0;refine go ?_;refine Xt (col:=(Zg col)) #[.bool false,(nI),(nI)] 1 zeroValue42 ?_;intro al am ag ah ab;refine go ?_;obtain ⟨an,ai,hm⟩:=bZ hm;refine Zh (Zn1 (col:=ag) 2 3 ai) fun _ ao ⟨ap,aq,ar,au,av,e',af,ac,ad⟩=>⟨_,e',?_⟩;refine Xg (ab.gr af) ?_;intro aw ae aj ak;refine go ?_;cases hm;replace aa:=((aa.grow ah).grow af).kp ae aj;exact ⟨rfl,_,ra ak.atN,_,_,_,_,_,rfl,aa.fin (cm [(2,c1),(3,c2)]),aa.fo (ac.kp ae),aa.fo (ad.kp ae)⟩
def Zh0 (aa:Bool):Option Bool:=
  some aa
def Zhz (N:Nat) (aa:R1):Option Bool:=
  (Zhq N ((aa.1.1,aa.1.2),aa.2)).bind fun ac=>if (decide (ac<0))=true then (Zh0 true) else ((Zhy N).bind fun ab=>(Zho N ((aa.1.1,aa.1.2),aa.2) ((ab.1.1,ab.1.2),ab.2)).bind fun ad=>Zh0 (decide (0<ad)))
theorem Z0k {N al am:Nat} {an ao:Option Addr} {col:Zd} {w0:World} {ac:R1} {r:Bool} (hm:Zhz N ac=some r) (ah:Sl rU col w0 an al ac.1.2) (ai:Sl rU col w0 ao am ac.2):
    Calls prog 100 #[(.agg #[.bool ac.1.1,.slice an ac.1.2.length al,.slice ao ac.2.length am])] w0 (W1 w0 r):=by
 refine Z7 2 (m:=12) func100 rfl rfl rfl rfl rfl ?_;rw [Zhz.eq_1] at hm;have aa:=St.start col w0;refine go ?_;refine Xf (col:=(Zg col)) 1 rfl ?_;intro a6 a7 ab ay aj;refine Qu rfl<|Zj<|Zw ?_;replace ah:=ah.k0;replace ai:=ai.k0;replace aa:=aa.grow ay;refine Wp.cutK [1000000] (fun f av=>∃ aw ap,Zh0 ap=some r∧St w0 (Zg col) aw av∧[2].map f=[.bool ap]) ?_ ?_
 ·intro f av hJ;obtain ⟨aw,ap,hm,aa,hs⟩:=hJ;rw [Zh0.eq_1] at hm;refine .lL [2] hs<|Y1 ?_;cases hm;exact ⟨rfl,rfl,aa.below⟩
 refine Wc (col:=ab) [(0,0),(1,3),(2,1),(3,1),(4,0),(5,3),(6,3),(7,1),(8,1),(9,1)] (by kernel_rfl) (by kernel_rfl)<|xv rfl rfl (fun _ hC=>Xh isAgg42 sizeOf42 (aj.gr (hC.bl ab))) ?_;refine xe rfl rfl ?_;intro az hC0;have hC:=hC0.bl ab;obtain ⟨ae,a0,hm⟩:=bZ hm;replace aa:=aa.grow hC;refine Zh (Z0b a0 (ah.ks aa) (ai.ks aa)) fun _ a1 ⟨e',ag⟩=>⟨_,e',?_⟩;replace ag:Zk ab az ab a1:=.of_below ag;refine Zj<|Xp ab hC0 ag<|xu rfl rfl (fun _=>Zm3 _ _ rfl rfl) ?_;refine xu rfl rfl (fun _=>Zvu rfl) ?_;replace aj:=(aj.gr hC).gr ag;replace aa:=aa.grow ag;refine Xo hm (fun ad hm=>?_) fun ad hm=>?_
 ·refine Zdf (b:=decide (ae<0)) 6 rfl rfl rfl rfl rfl (by rw [ad];rfl)<|Zdf (b:=decide (ae<0)) 6 rfl rfl rfl rfl rfl (by rw [ad];rfl)<|Zdf (b:=decide (ae<0)) 6 rfl rfl rfl rfl rfl (by rw [ad];rfl)<|Zdf (b:=decide (ae<0)) 6 rfl rfl rfl rfl rfl (by rw [ad];rfl)<|xu (v:=(.bool true)) rfl rfl (fun _=>Z5 (congrArg Value.bool ad) rfl) ?_;refine xu rfl rfl (fun _=>Zmy rfl) ?_;refine Y4 ?_;intro a8 hC;replace hC:=hC.bl ab;replace aa:=aa.grow hC;exact ⟨rfl,_,_,hm,aa,rfl⟩
 refine Zys (v:=(.agg #[.bool ac.1.1,.slice an ac.1.2.length al,.slice ao ac.2.length am])) (b:=decide (ae<0)) 6 rfl rfl rfl rfl rfl (by rw [ad];rfl) (fun _ hC=>Yq isAgg42 sizeOf42 rfl rfl (aj.atN.gr (hC.bl ab))) ?_;refine xe rfl rfl ?_;intro a9 hC0;have hC:=hC0.bl ab;refine go ?_;obtain ⟨ba,a2,hm⟩:=bZ hm;refine lc rfl rfl (Zfr call104) (Zq4 (col:=ab) 6 7 a2:) fun _ bb ⟨af,bc,bd,be,bf,e',ax,aq,ar⟩=>⟨_,e',?_⟩;refine Zj<|Xp af hC0 ax<|xe rfl rfl ?_;intro a3 hC0;replace aa:=(aa.grow hC).grow ax;have hC:=hC0.bl af;refine go ?_;obtain ⟨au,a4,hm⟩:=bZ hm;replace aa:=aa.grow hC;refine Zh (Zq1 a4 (((ah.ks aa).froz 6).froz 7) (((ai.ks aa).froz 6).froz 7) (((aq.gr hC).toSlF (Zm.int .u32)).froz 7) (((ar.gr hC).froz 6).toSlF (Zm.int .u32))) fun _ a5 ⟨e',ak⟩=>⟨_,e',?_⟩;replace ak:Zk af a3 af a5:=.of_below ak;refine Zj<|Xp af hC0 ak<|Zyr (v:=(.bool (decide (0<au)))) (b:=decide (ae<0)) 6 rfl rfl rfl rfl rfl (by rw [ad];rfl) (fun _=>Zm1 au 0 rfl rfl) ?_;refine xu (v:=(.bool (decide (0<au)))) rfl rfl (fun _=>Xn (congrArg Value.bool ad) rfl) ?_;refine xu rfl rfl (fun _=>Zmy rfl) ?_;refine Y4 ?_;intro bg hC;exact ⟨rfl,_,_,hm,(aa.grow ak).grow (hC.bl af),rfl⟩
def Zcp (N:Nat) (ac:R8) (ab:Int):Nat→Int→Option Bool
  | 0,_=>none
  | af+1,aa=>if (decide (aa<(ac.length:Int)))=true then (Zv ((0:Int)≤aa∧aa≤(i64.wrap (aa+ab))∧(i64.wrap (aa+ab))≤(ac.length:Int)) ((Zjx N ((ac.take (aA (i64.wrap (aa+ab)))).drop (aA aa))).bind fun ad=>(Zhy N).bind fun ae=>(Zho N ((ad.1.1,ad.1.2),ad.2) ((ae.1.1,ae.1.2),ae.2)).bind fun ag=>if (!decide (ag=0))=true then (some false) else ((Zcp N ac ab af) (i64.wrap (aa+ab))))) else (some true)
def Zl9 (N:Nat) (aa:R8) (ab:Int):Option Bool:=
  Zcp N aa ab N 0
theorem Z0n {N ad:Nat} {a0:Option Addr} {col:Zd} {w0:World} {ae:R8} {ac:Int} {r:Bool} (hm:Zl9 N ae ac=some r) (h0:Sl rQ col w0 a0 ad ae):
    Calls prog 101 #[.slice a0 ae.length ad,.int .i64 ac] w0 (W1 w0 r):=by
 refine Z7 4 (m:=23) func101 rfl rfl rfl rfl rfl ?_;rw [Zl9.eq_1] at hm;have ab:=St.start col w0;refine go ?_;refine Zt [0,1,1000000] (fun n f al=>∃ am aa af,af=n∧Zcp N ae ac af aa=some r∧St w0 (Zg col) am al∧[5].map f=[.int .i64 aa]) N ⟨_,0,_,rfl,hm,ab,rfl⟩ ?_;clear hm;intro n f al hI;obtain ⟨am,aa,af,hn,hm,ab,hs⟩:=hI;subst hn;refine .lL [5] hs ?_;replace h0:=h0.k0
 cases af with
 | zero=>rw [Zcp.eq_1] at hm;cases hm
 | succ af=>
  rw [Zcp.eq_2] at hm;refine go ?_;refine Zl hm (fun hb hm=>go ?_) fun hb hm=>go ?_
  ·obtain ⟨ag,hm⟩:=Zx hm;have ap:=((h0.ks ab).take (aA (i64.wrap (aa+ac)))).drop (sz:=3) rfl (aA aa);refine lv (v:=.slice (if ad=(aA aa) then a0 else a0.map (·.add ((aA aa) * 3))) ((aA (i64.wrap (aa+ac))) - (aA aa)) (ad - (aA aa))) rfl rfl (Zvy underlying29 sizeOf42 rfl rfl rfl ag.1 ag.2.1 (by have:=(h0.ks ab).1.2;have:=ag.2.2;omega)) ?_;generalize (if ad=(aA aa) then a0 else a0.map (·.add ((aA aa) * 3)))=an at *;refine .ld (d:=18) (v:=(.slice an (((ae.take (aA (i64.wrap (aa+ac)))).drop (aA aa)).length) (ad - (aA aa)))) (congrArg (fun n=>Value.slice an n (ad - (aA aa))) (show (aA (i64.wrap (aa+ac))) - (aA aa)=((ae.take (aA (i64.wrap (aa+ac)))).drop (aA aa)).length by rw [cA,nK];have:=ag.2;omega)) ?_;obtain ⟨a2,aq,hm⟩:=bZ hm;refine Zh (Z0c 1 2 aq ap) fun _ a3 ⟨ar,a4,a5,a6,a7,e',au,ah,ai⟩=>⟨_,e',?_⟩;obtain ⟨a8,av,hm⟩:=bZ hm;refine lc rfl rfl (Zfr call104) (Zq4 (col:=ar) 3 4 av:) fun _ aw ⟨ao,a9,ba,bb,bc,e',aj,ax,ay⟩=>⟨_,e',?_⟩;obtain ⟨bd,az,hm⟩:=bZ hm;refine Zh (Zq1 az (((((ah.gr aj).toSlF (Zm.int .u32)).froz 2).froz 3).froz 4) (((((ai.gr aj).froz 1).toSlF (Zm.int .u32)).froz 3).froz 4) ((((ax.froz 1).froz 2).toSlF (Zm.int .u32)).froz 4) ((((ay.froz 1).froz 2).froz 3).toSlF (Zm.int .u32))) fun _ a1 ⟨e',ak⟩=>⟨_,e',?_⟩;replace ak:Zk ao aw ao a1:=.of_below ak;refine go ?_;replace ab:=((ab.grow au).grow aj).grow ak;refine Zl hm (fun hb hm=>go ?_) fun hb hm=>go ?_
   ·cases hm;exact ⟨rfl,rfl,ab.below⟩
   exact ⟨af,by omega,rfl,⟨_,_,_,rfl,hm,ab,rfl⟩⟩
  cases hm;exact ⟨rfl,rfl,ab.below⟩

end Go.Proofs.YthclpfhncgpnmaaGreat
