/-
  What functions of the program compute, as plain Lean functions (m_..), and proofs that they compute it (c_..). Printed by a program of the author; no conditions.
-/
import Derived.Test.YtbmjpjhbankpoaaGreatCodeDecodeBFloat
import Derived.Test.YtbmjpjhbankpoaaGreatProg
import Derived.Test.YtbmjpjhbankpoaaGreatCodeDecodeBBrief
import Derived.Test.YtbmjpjhbankpoaaGreatCodeDecodeBBulk
import Derived.Test.YtbmjpjhbankpoaaGreatCodeDecodeBView
import Derived.Test.YtbmjpjhbankpoaaGreatCodeDecodeF4
set_option linter.unusedVariables false
set_option maxRecDepth 100000
set_option maxHeartbeats 2000000
namespace Go.Proofs.YtbmjpjhbankpoaaGreat
open Go Go.RowKit
open Go.IntKind (i8 i16 i32 i64 u8 u16 u32 u64)
open Go.Proofs.Tryz

def Zhj (aa:Int) (kk_L1:(Bool→R2→Int→Option (R0×R0))) (ab:Bool) (ac:List Int):Option (R0×R0):=
  kk_L1 ab ac (i64.wrap (aa+1))
def Za7 (N:Nat) (aa:ByteArray):Nat→Bool→R2→Int→Option (R0×R0)
  | 0,_,_,_=>none
  | ah+1,ab,ac,ad=>if (decide (ad<(aa.size:Int)))=true then ((Qd N (ab,ac) (ab,ac)).bind fun ae=>(Vn aa ad).bind fun am=>if (decide (am=49))=true then ((Qe N 1).bind fun ai=>(Qd N (ae.1,ae.2) (ai.1,ai.2)).bind fun aj=>Zhj ad (Za7 N aa ah) aj.1 aj.2) else (Zhj ad (Za7 N aa ah) ae.1 ae.2)) else ((Zcn N (ab,ac) (aa.size:Int)).bind fun af=>(Qe N 1).bind fun ak=>(Qd N (ab,ac) (ak.1,ak.2)).bind fun al=>(Zcn N (al.1,al.2) (aa.size:Int)).bind fun ag=>some (((af.1.1,af.1.2),af.2),((ag.1.1,ag.1.2),ag.2)))
termination_by structural x=>x
def Zjp (N:Nat) (ab:ByteArray):Option (R0×R0):=
  (Qe N 0).bind fun aa=>Za7 N ab N aa.1 aa.2 0
theorem Zy0 {N:Nat} {col:Zd} {w0:World} {ax:ByteArray} {r:(R0×R0)} (c1 c2 c3 c4:Nat) (hm:Zjp N ax=some r):
    Calls Tryz.prog 99 #[.string ax] w0 (fun e w'=>∃ (col':Zd) (ra1:Option Addr) (rc2:Nat) (ra4:Option Addr) (rc5:Nat) (ra7:Option Addr) (rc8:Nat) (ra10:Option Addr) (rc11:Nat),e= .returned ((.agg #[.bool r.1.1.1,.slice ra1 r.1.1.2.length rc2,.slice ra4 r.1.2.length rc5,.bool r.2.1.1,.slice ra7 r.2.1.2.length rc8,.slice ra10 r.2.2.length rc11]))∧Zg col w0 col' w'∧Zc (Za.int .u32) 79 c1 col' w' ra1 rc2 r.1.1.2∧Zc (Za.int .u32) 79 c2 col' w' ra4 rc5 r.1.2∧Zc (Za.int .u32) 79 c3 col' w' ra7 rc8 r.2.1.2∧Zc (Za.int .u32) 79 c4 col' w' ra10 rc11 r.2.2):=by
 refine Yf (m:=33) func99 rfl rfl rfl ?_;rw [Zjp.eq_1] at hm;have aa:=St.start col w0;refine go ?_;refine Xs (col:=(Zi col)) #[.bool false,.slice none (([]:List Int).length) 0,.slice none (([]:List Int).length) 0,.bool false,.slice none (([]:List Int).length) 0,.slice none (([]:List Int).length) 0] 1 zeroValue49 ?_;intro bu cz bx bz ab;refine go ?_;obtain ⟨c0,b0,hm⟩:=bZ hm;refine Zh (Zic (col:=bx) 2 b0) ?_;rintro _ c5 ⟨b1,c6,c7,rfl,bv,bc⟩;refine ⟨_,rfl,?_⟩;refine Xs (col:=b1) #[.bool false,.slice none (([]:List Int).length) 0] 3 zeroValue45 ?_;intro bw c8 c9 bd b2;refine Z8 b2 ?_;intro da be b3 ag;refine go ?_;replace aa:=(((aa.grow bz).grow bv).grow bd).kp be b3;replace ab:=((ab.gr bv).gr bd).kp be;replace bc:=(bc.gr bd).kp be;refine Zy [0,2,3,1000000] (fun n f ar=>∃ ac bf bg bh a6 a7 an,an=n∧Za7 N ax an bf a6 a7=some r∧St w0 (Zi col) ac ar∧Zl 49 1 ac ar bu #[.bool false,.slice none (([]:List Int).length) 0,.slice none (([]:List Int).length) 0,.bool false,.slice none (([]:List Int).length) 0,.slice none (([]:List Int).length) 0]∧Zc (Za.int .u32) 79 2 ac ar bg bh a6∧Zl 45 3 ac ar bw #[.bool bf,.slice bg a6.length bh]∧[4].map f=[.int .i64 a7]) N ⟨_,_,_,_,_,0,_,rfl,hm,aa,ab,bc,ag,rfl⟩ ?_;clear hm;intro n f ar hI;obtain ⟨ac,bf,bg,bh,a6,a7,an,hn,hm,aa,ab,ai,ag,hs⟩:=hI;subst hn;refine .lL [4] hs ?_
 cases an with
 | zero=>rw [Za7.eq_1] at hm;cases hm
 | succ an=>
  rw [Za7.eq_2] at hm;refine go ?_;refine Zp hm (fun hb hm=>?_) fun hb hm=>go ?_
  ·refine X5<|Zu ?_;refine Wp.cutK [0,2,3,4,1000000] (fun f ay=>∃ az bi bj bk a8,Zhj a7 (Za7 N ax an) bi a8=some r∧St w0 (Zi col) az ay∧Zl 49 1 az ay bu #[.bool false,.slice none (([]:List Int).length) 0,.slice none (([]:List Int).length) 0,.bool false,.slice none (([]:List Int).length) 0,.slice none (([]:List Int).length) 0]∧Zc (Za.int .u32) 79 2 az ay bj bk a8∧Zl 45 3 az ay bw #[.bool bi,.slice bj a8.length bk]) ?_ ?_
   ·intro f ay hJ;obtain ⟨az,bi,bj,bk,a8,hm,aa,ab,b4,ag⟩:=hJ;rw [Zhj.eq_1] at hm;refine go ?_;exact ⟨an,by omega,rfl,⟨_,_,_,_,_,_,_,rfl,hm,aa,ab,b4,ag,rfl⟩⟩
   refine go ?_;refine lV _ (Xh isAgg45 sizeOf45 ag)<|lV _ (Xh isAgg45 sizeOf45 ag) ?_;obtain ⟨db,b5,hm⟩:=bZ hm;refine Zh (Zia 4 b5 (ai.toSlF (Zm.int .u32)) (ai.toSlF (Zm.int .u32))) ?_;rintro _ dc ⟨b6,dd,de,rfl,au,af⟩;refine ⟨_,rfl,?_⟩;replace af:=af.thaw (Z0 .u32) au ((Fz.refl (col:=ac)).froz 2) (by decide);replace au:=au.thawR (col:=ac);generalize Xb ar.heap.size ac b6=a9 at *;replace ag:=ag.gr au;refine Z8 ag ?_;intro df bm b7 ah;refine go ?_;obtain ⟨b8,b9,hm⟩:=bZ hm;refine lV (.int .u8 b8) (Ze3 (s:=ax) underlying9 rfl rfl b9)<|go ?_;replace ab:=(ab.gr au).kp bm;replace aa:=(aa.grow au).kp bm b7;replace af:=af.kp bm;refine Zp hm (fun hb hm=>?_) fun hb hm=>?_
   ·refine Y6 (col:=a9) [(0,0),(1,3),(2,3),(3,2)] (by kernel_rfl) (by kernel_rfl)<|xv rfl rfl (fun _ hC=>Xh isAgg45 sizeOf45 (ah.gr (hC.bl a9))) ?_;refine xe rfl rfl ?_;intro dg hC0;have hC:=hC0.bl a9;obtain ⟨dh,ca,hm⟩:=bZ hm;refine Zh (Zic (col:=a9) 5 ca) ?_;rintro _ di ⟨a0,dj,dk,rfl,a1,bn⟩;refine ⟨_,rfl,?_⟩;refine Zk<|Xm a0 hC0 a1<|xe rfl rfl ?_;intro cb hC0;replace af:=(af.gr hC).gr a1;replace ab:=(ab.gr hC).gr a1;replace ah:=(ah.gr hC).gr a1;replace aa:=(aa.grow hC).grow a1;have hC:=hC0.bl a0;obtain ⟨dl,cc,hm⟩:=bZ hm;replace af:=af.gr hC;replace bn:=bn.gr hC;refine Zh (Zia 6 cc ((af.toSlF (Zm.int .u32)).froz 5) ((bn.froz 4 (by decide)).toSlF (Zm.int .u32))) ?_;rintro _ dm ⟨cd,dn,dp,rfl,ao,aj⟩;refine ⟨_,rfl,?_⟩;replace aj:=aj.thaw (Z0 .u32) ao (((Fz.refl (col:=a0)).froz 4).froz 5) (by decide);replace ao:=ao.thawR (col:=a0);generalize Xb cb.heap.size a0 cd=ba at *;refine Zk<|Xm ba hC0 ao<|xe rfl rfl ?_;intro dq hC0;replace ab:=(ab.gr hC).gr ao;replace ah:=(ah.gr hC).gr ao;replace aa:=(aa.grow hC).grow ao;have hC:=hC0.bl ba;replace ah:=ah.gr hC;refine Z8 ah ?_;intro dr bo ce a2;refine Zk<|xk ba<|Yz ?_;replace aj:=(aj.gr hC).kp bo;replace ab:=(ab.gr hC).kp bo;replace aa:=(aa.grow hC).kp bo ce;intro ds hC;replace hC:=hC.bl ba;replace aj:=aj.gr hC;replace aj:=aj.recolSelf 2 (by decide);replace ab:=ab.gr hC;replace ab:=ab.recol 6 2 (by decide);replace a2:=a2.gr hC;replace a2:=a2.recol 6 2 (by decide);replace aa:=aa.grow hC;replace aa:=aa.recol 6 2 (by decide) (by decide);exact ⟨rfl,_,_,_,_,_,hm,aa,ab,aj,a2⟩
   refine X5 ?_;replace af:=af.recolSelf 2 (by decide);replace ab:=ab.recol 4 2 (by decide);replace ah:=ah.recol 4 2 (by decide);replace aa:=aa.recol 4 2 (by decide) (by decide);exact ⟨rfl,_,_,_,_,_,hm,aa,ab,af,ah⟩
  refine Y6 (col:=ac) [(0,0),(1,1),(2,1),(4,0),(7,1),(8,1),(3,3),(5,3),(6,3),(9,3),(10,1),(11,2)] (by kernel_rfl) (by kernel_rfl)<|xv rfl rfl (fun _ hC=>Xh isAgg45 sizeOf45 (ag.gr (hC.bl ac))) ?_;refine xu rfl rfl (fun _=>Zmc rfl) ?_;refine xu rfl rfl (fun _=>Zl9 underlying9 rfl) ?_;refine xv rfl rfl (fun _ hC=>Xh isAgg45 sizeOf45 (ag.gr (hC.bl ac))) ?_;refine xu rfl rfl (fun _=>Zmc rfl) ?_;refine xu rfl rfl (fun _=>Zl9 underlying9 rfl) ?_;refine xe rfl rfl ?_;intro cf hC0;have hC:=hC0.bl ac;obtain ⟨bp,cg,hm⟩:=bZ hm;replace ai:=ai.gr hC;refine Zh (Zqb 7 8 cg (ai.toSlF (Zm.int .u32))) ?_;rintro _ dt ⟨ch,ci,cj,ck,cl,rfl,al,ad,ae⟩;refine ⟨_,rfl,?_⟩;replace ad:=ad.thaw (Z0 .u32) al ((Fz.refl (col:=ac)).froz 2) (by decide);replace ae:=ae.thaw (Z0 .u32) al ((Fz.refl (col:=ac)).froz 2) (by decide);replace al:=al.thawR (col:=ac);generalize Xb cf.heap.size ac ch=bq at *;refine Zk<|Xm bq hC0 al<|xe rfl rfl ?_;intro du hC0;replace ab:=(ab.gr hC).gr al;replace aa:=(aa.grow hC).grow al;have hC:=hC0.bl bq;obtain ⟨dv,cn,hm⟩:=bZ hm;refine Zh (Zic (col:=bq) 9 cn) ?_;rintro _ dw ⟨a3,dx,dy,rfl,av,br⟩;refine ⟨_,rfl,?_⟩;refine Zk<|Xm a3 hC0 av<|xe rfl rfl ?_;intro co hC0;replace ai:=((ai.gr al).gr hC).gr av;replace ad:=(ad.gr hC).gr av;replace ae:=(ae.gr hC).gr av;replace ab:=(ab.gr hC).gr av;replace aa:=(aa.grow hC).grow av;have hC:=hC0.bl a3;obtain ⟨dz,cp,hm⟩:=bZ hm;replace ai:=ai.gr hC;replace br:=br.gr hC;refine Zh (Zia 10 cp ((ai.toSlF (Zm.int .u32)).froz 9) ((br.froz 2 (by decide)).toSlF (Zm.int .u32))) ?_;rintro _ d0 ⟨cq,d1,d2,rfl,am,a4⟩;refine ⟨_,rfl,?_⟩;replace a4:=a4.thaw (Z0 .u32) am (((Fz.refl (col:=a3)).froz 2).froz 9) (by decide);replace am:=am.thawR (col:=a3);generalize Xb co.heap.size a3 cq=aw at *;refine Zk<|Xm aw hC0 am<|xe rfl rfl ?_;intro cr hC0;replace ad:=(ad.gr hC).gr am;replace ae:=(ae.gr hC).gr am;replace ab:=(ab.gr hC).gr am;replace aa:=(aa.grow hC).grow am;have hC:=hC0.bl aw;obtain ⟨bs,cs,hm⟩:=bZ hm;replace a4:=a4.gr hC;refine Zh (Zqb 11 12 cs (a4.toSlF (Zm.int .u32))) ?_
  rintro _ d3 ⟨ct,cu,cv,cw,cx,rfl,ak,ap,aq⟩;refine ⟨_,rfl,?_⟩;replace ap:=ap.thaw (Z0 .u32) ak ((Fz.refl (col:=aw)).froz 10) (by decide);replace aq:=aq.thaw (Z0 .u32) ak ((Fz.refl (col:=aw)).froz 10) (by decide);replace ak:=ak.thawR (col:=aw);generalize Xb cr.heap.size aw ct=bb at *;refine Zk<|Xm bb hC0 ak<|xu (v:=(.agg #[.bool bp.1.1,.slice ci bp.1.2.length cj,.slice ck bp.2.length cl,.bool bs.1.1,.slice cu bs.1.2.length cv,.slice cw bs.2.length cx])) rfl rfl (fun _=>Yt (l:=[_,_]) (qs:=[(0,3),(3,3)]) underlying49 zeroValue49 ⟨rfl,sizeOf47,rfl,sizeOf47,trivial⟩ rfl) ?_;refine xe rfl rfl ?_;intro d4 hC0;replace ad:=(ad.gr hC).gr ak;replace ae:=(ae.gr hC).gr ak;replace ab:=(ab.gr hC).gr ak;replace aa:=(aa.grow hC).grow ak;have hC:=hC0.bl bb;replace ab:=ab.gr hC;refine Z8 ab ?_;intro d5 a5 cy bt;refine Zk<|xk bb<|Yz ?_;replace ad:=(ad.gr hC).kp a5;replace ae:=(ae.gr hC).kp a5;replace ap:=(ap.gr hC).kp a5;replace aq:=(aq.gr hC).kp a5;replace aa:=(aa.grow hC).kp a5 cy;intro d6 hC;replace hC:=hC.bl bb;refine Wc ?_;cases hm;replace ad:=ad.gr hC;replace ae:=ae.gr hC;replace ap:=ap.gr hC;replace aq:=aq.gr hC;replace bt:=bt.gr hC;replace aa:=aa.grow hC;exact ⟨rfl,_,ra bt.atN,_,_,_,_,_,_,_,_,_,rfl,aa.fin (cm [(7,c1),(8,c2),(11,c3),(12,c4)]),aa.fo ad,aa.fo ae,aa.fo ap,aa.fo aq⟩
/-! the number that bits tell -/
def Zc7 (s:ByteArray) (i:Nat):Nat:=if Vn s (i:Int)=some 49 then 1 else 0
def Xr (s:ByteArray):Nat→Nat
 | 0=>0
 | i+1=>Xr s i+Xr s i+Zc7 s i
def Z7 (s:ByteArray) (i:Nat):Rat×Rat:=(mkRat (Xr s i:Int) (2 ^ i),mkRat ((Xr s i:Int)+1) (2 ^ i))
theorem Znn (s:ByteArray):∀ i,Xr s i+1≤2 ^ i
 | 0=>by rw [Xr];decide
 | i+1=>by
  have h:=Znn s i
  have hb:Zc7 s i≤1:=by rw [Zc7];split <;> omega
  rw [Xr,Nat.pow_succ]
  generalize (2 ^ i:Nat)=Z at *
  omega
theorem Zhr {i:Nat} (hi:i≤320) {x:Nat} (hx:x≤2 ^ i):(Ze x).length≤11:=by
 obtain ⟨m,hm⟩:∃ m,m=11:=⟨_,rfl⟩
 rw [← hm,Wm,show (4294967296:Nat)=2 ^ 32 from rfl,← Nat.pow_mul]
 exact Nat.lt_of_le_of_lt hx (Nat.pow_lt_pow_right (by decide) (by omega))
theorem Zk4 (s:ByteArray) {i:Nat} (hi:i≤320):qs (Z7 s i).1≤11∧qs (Z7 s i).2≤11:=by
 have h:=Znn s i
 have h1:=Zhr hi (Nat.le_refl _)
 exact ⟨Zhs (Zhr hi (by rw [Int.natAbs_natCast];omega)) h1 (by decide),Zhs (Zhr hi (by rw [show ((Xr s i:Int)+1).natAbs=Xr s i+1 by omega];exact h)) h1 (by decide)⟩
theorem Zoi (i:Nat):(2 ^ i:Nat)≠0:=Nat.pos_iff_ne_zero.1 (Nat.pow_pos (by decide))
theorem Zzv (s:ByteArray) (i:Nat):(Z7 s i).1<(Z7 s i).2:=by
 have h:=Zoi i
 rw [Z7,Zhp h h]
 generalize (2 ^ i:Nat)=Z at *
 exact Int.mul_lt_mul_of_pos_right (by omega) (by omega)
theorem Zzw (s:ByteArray) (i:Nat):0≤(Z7 s i).1:=by
 rw [Z7,← Rat.not_lt,show (0:Rat)=mkRat 0 1 from rfl,Zhp (Zoi i) (by decide)]
 intro h
 rw [Int.zero_mul] at h
 omega
theorem Zzx (s:ByteArray):Z7 s 0=(0,1):=by
 rw [Z7,Xr]
 decide
theorem Z0s {n:Int} {Z:Nat} (hZ:Z≠0):(mkRat n Z+mkRat (n+1) Z) * mkRat 1 2=mkRat (n+n+1) (Z * 2):=by
 rw [Zs3 _ _ hZ,Rat.mkRat_mul_mkRat,Int.mul_one,Int.add_assoc]
theorem Zrp {n:Int} {Z:Nat} (hZ:Z≠0):mkRat n Z=mkRat (n+n) (Z * 2):=by
 rw [Zn6 hZ (by omega),Int.natCast_mul]
 grind
theorem Z0r {N L:Nat} (hr:Xd N (4 * L+16)) (s:ByteArray) {i:Nat} (q1:qs (Z7 s i).1≤L) (q2:qs (Z7 s i).2≤L) {c:Int} (hc:Vn s (i:Int)=some c):Zdl N (Xo (Z7 s i)) (decide (c=49))=some (Xo (Z7 s (i+1))):=by
 have hZ:=Zoi i
 have a1:Qy N (((Xo (Z7 s i)).1.1.1,(Xo (Z7 s i)).1.1.2),(Xo (Z7 s i)).1.2) (((Xo (Z7 s i)).2.1.1,(Xo (Z7 s i)).2.1.2),(Xo (Z7 s i)).2.2)=some (Zq ((Z7 s i).1+(Z7 s i).2)):=by
  have:=Znq (Wh q1) (Wh q2) (hr.mono (by omega))
  rwa [Yy,Yy] at this
 have hh:RV 1 ((false,[1]),[2]):=⟨by simp [Zo],by simp [Zo],by simp,by simp⟩
 have hv:Zv ((false,[1]),[2])=mkRat 1 2:=by simp [Zv,Zs,X1,Zb]
 have s1:=Zoo (Z7 s i).1 (Z7 s i).2
 have m1:Qz N ((Zq ((Z7 s i).1+(Z7 s i).2))) ((false,[1]),[2])=some (Zq (((Z7 s i).1+(Z7 s i).2) * mkRat 1 2)):=by
  have:=Zre (Wh (q:=(Z7 s i).1+(Z7 s i).2) (k:=2 * L+1) (by omega)) hh (hr.mono (by omega))
  rwa [Yy,hv] at this
 have m1':Qz N (((Zq ((Z7 s i).1+(Z7 s i).2)).1.1,(Zq ((Z7 s i).1+(Z7 s i).2)).1.2),(Zq ((Z7 s i).1+(Z7 s i).2)).2) ((false,[1]),[2])=_:=m1
 have e0:((Z7 s i).1+(Z7 s i).2) * mkRat 1 2=mkRat ((Xr s i:Int)+Xr s i+1) (2 ^ i * 2):=Z0s hZ
 rw [Zdl,a1,Option.bind_some,m1',Option.bind_some,e0]
 by_cases h:c=49
 ·have e:Xr s (i+1)=Xr s i+Xr s i+1:=by rw [Xr,Zc7,hc,h,if_pos rfl]
  have r:Z7 s (i+1)=(mkRat ((Xr s i:Int)+Xr s i+1) (2 ^ i * 2),(Z7 s i).2):=by
   rw [Z7,e,Nat.pow_succ]
   refine Prod.ext ?_ ?_
   ·simp only [Int.natCast_add];rfl
   ·rw [Z7]
    simp only
    rw [Zrp (n:=(Xr s i:Int)+1) hZ]
    congr 1
    omega
  rw [if_pos (decide_eq_true h),r];rfl
 ·have e:Xr s (i+1)=Xr s i+Xr s i:=by rw [Xr,Zc7,hc,if_neg (by simpa using h),Nat.add_zero]
  have r:Z7 s (i+1)=((Z7 s i).1,mkRat ((Xr s i:Int)+Xr s i+1) (2 ^ i * 2)):=by
   rw [Z7,e,Nat.pow_succ]
   refine Prod.ext ?_ ?_
   ·rw [Z7]
    simp only
    rw [Zrp (n:=(Xr s i:Int)) hZ]
    simp only [Int.natCast_add]
   ·simp only [Int.natCast_add]
  rw [if_neg (by rw [decide_eq_false h];decide),r];rfl
theorem Z0q {N K:Nat} (hr:Xd N (8 * K+40)) (hK:11≤K) (s:ByteArray) {i:Nat} (hi:i<320) {c:Int} (hc:Vn s (i:Int)=some c):Zdl N (Xo (Z7 s i)) (decide (c=49))=some (Xo (Z7 s (i+1))):=
 Z0r (L:=11) (hr.mono (by omega)) s (Zk4 s (i:=i) (by omega)).1 (Zk4 s (i:=i) (by omega)).2 hc
theorem Zw9 {s:ByteArray} {k i:Nat} (hk:k≤s.size) (hi:i<k):Vn (s.extract 0 k) (i:Int)=Vn s (i:Int):=by
 have h1:(s.extract 0 k).size=k:=by rw [ByteArray.size_extract];omega
 rw [Vn,Vn,if_pos (by omega),if_pos (by omega),Int.toNat_natCast,getElem?_pos _ _ (by omega),getElem?_pos _ _ (by omega),ByteArray.getElem_extract]
 simp
theorem Zpj {s:ByteArray} {i:Nat} (hi:i<s.size):∃ c,Vn s (i:Int)=some c:=by
 rw [Vn,if_pos (by omega),Int.toNat_natCast,getElem?_pos s i hi]
 exact ⟨_,rfl⟩
section
variable {N K:Nat} (hr:Xd N (8 * K+40)) (hK:15≤K) (hN:1000<N)
include hr hK hN
omit hN in
theorem Zti (s:ByteArray) {k:Nat} (hk:k≤s.size) (h320:k≤319):∀ (f i:Nat),i≤k→k<f+i→Za7 N (s.extract 0 k) f (Z3 (Xr s i:Int)).1 (Z3 (Xr s i:Int)).2 (i:Int)=some (Xo (Z7 s k))
 | 0,i,h1,h2=>by omega
 | f+1,i,h1,h2=>by
  have hsz:(s.extract 0 k).size=k:=by rw [ByteArray.size_extract];omega
  have hlt:=Znn s i
  have hlen:(Z3 (Xr s i:Int)).2.length≤11:=by rw [S6,Int.natAbs_natCast];exact Zhr (i:=i) (by omega) (by omega)
  have one:Qe N 1=some (Z3 1):=Zmi (by omega) (hr.mono (by omega))
  have l1:(Z3 1).2.length≤1:=by rw [S6];simp [Ta]
  have inc:∀ z:Int,(Z3 z).2.length≤13→Qd N ((Z3 z).1,(Z3 z).2) ((Z3 1).1,(Z3 1).2)=some (Z3 (z+1)):=fun z hz=>by
   have:=Zme (N:=N) (a:=Z3 z) (b:=Z3 1) (Wg _) (Wg _) hz l1 (hr.mono (by omega))
   rwa [Wj,Wj] at this
  rw [Za7.eq_2,hsz]
  by_cases hi:i<k
  ·obtain ⟨c,hc⟩:=Zpj (s:=s) (i:=i) (by omega)
   have dbl:Qd N ((Z3 (Xr s i:Int)).1,(Z3 (Xr s i:Int)).2) ((Z3 (Xr s i:Int)).1,(Z3 (Xr s i:Int)).2)=some (Z3 ((Xr s i:Int)+Xr s i)):=by
    have:=Zme (N:=N) (a:=Z3 (Xr s i:Int)) (b:=Z3 (Xr s i:Int)) (Wg _) (Wg _) hlen hlen (hr.mono (by omega))
    rwa [Wj] at this
   have hlen2:(Z3 ((Xr s i:Int)+Xr s i)).2.length≤13:=by
    rw [S6,show ((Xr s i:Int)+Xr s i).natAbs=Xr s i+Xr s i by omega]
    have:=Zhr (i:=i+1) (by omega) (x:=Xr s i+Xr s i) (by rw [Nat.pow_succ];generalize (2 ^ i:Nat)=Z at *;omega)
    omega
   rw [if_pos (decide_eq_true (by omega)),dbl,Option.bind_some,Zw9 hk hi,hc,Option.bind_some]
   have ih:=Zti s hk h320 f (i+1) (by omega) (by omega)
   by_cases h:c=49
   ·have e:((Xr s (i+1):Nat):Int)=(Xr s i:Int)+Xr s i+1:=by rw [Xr,Zc7,hc,h,if_pos rfl];omega
    rw [e] at ih
    rw [if_pos (decide_eq_true h),one,Option.bind_some,inc _ hlen2,Option.bind_some,Zhj,wS (by omega)]
    exact ih
   ·have e:((Xr s (i+1):Nat):Int)=(Xr s i:Int)+Xr s i:=by rw [Xr,Zc7,hc,if_neg (by simpa using h),Nat.add_zero];omega
    rw [e] at ih
    rw [if_neg (by rw [decide_eq_false h];decide),Zhj,wS (by omega)]
    exact ih
  ·have hik:i=k:=by omega
   subst hik
   have hlen3:(Z3 ((Xr s i:Int)+1)).2.length≤11:=by
    rw [S6,show ((Xr s i:Int)+1).natAbs=Xr s i+1 by omega]
    exact Zhr (i:=i) (by omega) hlt
   have o1:Zcn N ((Z3 (Xr s i:Int)).1,(Z3 (Xr s i:Int)).2) (i:Int)=some (Zq (mkRat (Xr s i:Int) (2 ^ i))):=by
    have:=Zvm (N:=N) (b:=Z3 (Xr s i:Int)) (k:=i) (Wg _) hlen (by omega) (hr.mono (by omega))
    rwa [Wj] at this
   have o2:Zcn N ((Z3 ((Xr s i:Int)+1)).1,(Z3 ((Xr s i:Int)+1)).2) (i:Int)=some (Zq (mkRat ((Xr s i:Int)+1) (2 ^ i))):=by
    have:=Zvm (N:=N) (b:=Z3 ((Xr s i:Int)+1)) (k:=i) (Wg _) hlen3 (by omega) (hr.mono (by omega))
    rwa [Wj] at this
   rw [if_neg (by rw [decide_eq_false (by omega)];decide),o1,Option.bind_some,one,Option.bind_some,inc _ (by omega),Option.bind_some,o2,Option.bind_some]
   rfl
theorem Z13 (s:ByteArray) {k:Nat} (hk:k≤s.size) (h320:k≤319):Zjp N (s.extract 0 k)=some (Xo (Z7 s k)):=by
 have z:Qe N 0=some (Z3 0):=Zmi (by omega) (hr.mono (by omega))
 rw [Zjp,z,Option.bind_some]
 exact Zti hr hK s hk h320 N 0 (Nat.zero_le _) (by omega)
end
def Zlo (aa:Int) (kk_L1:(Int→Option R9)):Option R9:=
  kk_L1 (i64.wrap (aa+1))
def Zlp (N:Nat) (ab:R1) (ad:ByteArray) (ac:Int) (kk_L1:(Int→Option R9)):Option R9:=
  Zw ((0:Int)≤0∧0≤ac∧ac≤(ad.size:Int)) ((Zjp N (ad.extract (Int.toNat 0) (Int.toNat ac))).bind fun aa=>(Zhh N (ab.1,ab.2.1,ab.2.2.1,ab.2.2.2.1,ab.2.2.2.2) (((aa.1.1.1,aa.1.1.2),aa.1.2),((aa.2.1.1,aa.2.1.2),aa.2.2))).bind fun ae=>if ae.2=true then (some (ae.1,ac,0)) else (Zlo ac kk_L1))
def Zck (N:Nat) (aa:R1) (ab:ByteArray) (ac:Int) (kk_L1:(Int→Option R9)) (ad:Bool):Option R9:=
  if ad=true then (some (([]:List Int),0,70)) else (Zlp N aa ab ac kk_L1)
def Vi (N:Nat) (ac:R1) (aa:ByteArray):Nat→Int→Option R9
  | 0,_=>none
  | ad+1,ab=>if (decide (ab≤(aa.size:Int)))=true then (if (decide (0<ab))=true then ((Vn aa (i64.wrap (ab - 1))).bind fun ae=>if (!decide (ae=48))=true then ((Vn aa (i64.wrap (ab - 1))).bind fun af=>Zck N ac aa ab (Vi N ac aa ad) (!decide (af=49))) else (Zck N ac aa ab (Vi N ac aa ad) false)) else (Zck N ac aa ab (Vi N ac aa ad) false)) else (some (([]:List Int),0,70))
termination_by structural x=>x
def Zhg (N:Nat) (aa:R1) (ac:ByteArray):Option R9:=
  (Zg4 N (aa.1,aa.2.1,aa.2.2.1,aa.2.2.2.1,aa.2.2.2.2)).bind fun ab=>if (!decide (ab=0))=true then (some (([]:List Int),0,ab)) else (Vi N aa ac N 0)
theorem Zyy {N af ag ah ai:Nat} {aj ak al am:Option Addr} {col:Zd} {w0:World} {aa:R1} {ad:ByteArray} {r:R9} (c1:Nat) (hm:Zhg N aa ad=some r) (au:Sl Za.str col w0 aj af aa.2.1) (av:Sl (Za.slice Za.str) col w0 ak ag aa.2.2.1) (aw:Sl (Za.slice (Za.int .i64)) col w0 al ah aa.2.2.2.1) (ax:Sl (Za.slice (Za.pair (Za.pair Za.bool (Za.slice (Za.int .u32))) (Za.slice (Za.int .u32)))) col w0 am ai aa.2.2.2.2):
    Calls Tryz.prog 34 #[(.agg #[.string aa.1,.slice aj aa.2.1.length af,.slice ak aa.2.2.1.length ag,.slice al aa.2.2.2.1.length ah,.slice am aa.2.2.2.2.length ai]),.string ad] w0 (fun e w'=>∃ (col':Zd) (ra1:Option Addr) (rc2:Nat),e= .returned (.tuple #[.slice ra1 r.1.length rc2,.int .i64 r.2.1,.int .i64 r.2.2])∧Zg col w0 col' w'∧Zc (Za.int .i64) 3 c1 col' w' ra1 rc2 r.1):=by
 refine Zk0 4 5 6 (m:=50) (args:=[(.agg #[.string aa.1,.slice aj aa.2.1.length af,.slice ak aa.2.2.1.length ag,.slice al aa.2.2.2.1.length ah,.slice am aa.2.2.2.2.length ai]),.string ad]) func34 rfl rfl rfl rfl rfl ?_;rw [Zhg.eq_1] at hm;have ab:=St.start col w0;refine go ?_;refine Xi (col:=(Zi col)) 1 rfl ?_;intro ay bn bg bo ac;refine go ?_;refine lV _ (Xh isAgg27 sizeOf27 ac) ?_;obtain ⟨bz,bp,hm⟩:=bZ hm;replace au:=au.keep (Zj.start col w0);replace av:=av.keep (Zj.start col w0);replace aw:=aw.keep (Zj.start col w0);replace ax:=ax.keep (Zj.start col w0);replace ab:=ab.grow bo;refine Zh (Zyn bp (au.ks ab) (av.ks ab) (aw.ks ab) (ax.ks ab)) ?_;rintro _ bq ⟨rfl,az⟩;refine ⟨_,rfl,?_⟩;replace az:Zg bg bn bg bq:=.of_below az;refine go ?_;replace ac:=ac.gr az;replace ab:=ab.grow az;refine Zp hm (fun hb hm=>go ?_) fun hb hm=>go ?_
 ·cases hm;exact ⟨rfl,_,none,0,rfl,ab.fin (cm []),Zc.nil⟩
 refine Zy [1,2,1000000] (fun n f a1=>∃ a2 an ae,ae=n∧Vi N aa ad ae an=some r∧St w0 (Zi col) a2 a1∧Zl 27 1 a2 a1 ay #[.string aa.1,.slice aj aa.2.1.length af,.slice ak aa.2.2.1.length ag,.slice al aa.2.2.2.1.length ah,.slice am aa.2.2.2.2.length ai]∧[8].map f=[.int .i64 an]) N ⟨_,0,_,rfl,hm,ab,ac,rfl⟩ ?_;clear hm;intro n f a1 hI;obtain ⟨a2,an,ae,hn,hm,ab,ac,hs⟩:=hI;subst hn;refine .lL [8] hs ?_
 cases ae with
 | zero=>rw [Vi.eq_1] at hm;cases hm
 | succ ae=>
  rw [Vi.eq_2] at hm;refine go ?_;refine Zp hm (fun hb hm=>?_) fun hb hm=>go ?_
  ·refine X5<|Zu ?_;refine Wp.cutK [1,2,8,1000000] (fun f a3=>∃ a4,Zlo an (Vi N aa ad ae)=some r∧St w0 (Zi col) a4 a3∧Zl 27 1 a4 a3 ay #[.string aa.1,.slice aj aa.2.1.length af,.slice ak aa.2.2.1.length ag,.slice al aa.2.2.2.1.length ah,.slice am aa.2.2.2.2.length ai]) ?_ ?_
   ·intro f a3 hJ;obtain ⟨a4,hm,ab,ac⟩:=hJ;rw [Zlo.eq_1] at hm;refine go ?_;exact ⟨ae,by omega,rfl,⟨_,_,_,rfl,hm,ab,ac,rfl⟩⟩
   refine Zc1<|Zu ?_;refine Wp.cutK [1,2,8,1000000] (fun f a5=>∃ ao,Zlp N aa ad an (Vi N aa ad ae)=some r∧St w0 (Zi col) ao a5∧Zl 27 1 ao a5 ay #[.string aa.1,.slice aj aa.2.1.length af,.slice ak aa.2.2.1.length ag,.slice al aa.2.2.2.1.length ah,.slice am aa.2.2.2.2.length ai]) ?_ ?_
   ·intro f a5 hJ;obtain ⟨ao,hm,ab,ac⟩:=hJ;rw [Zlp.eq_1] at hm;refine Zu<|Y6 (col:=ao) [(0,0),(1,1),(2,1),(3,1),(4,3),(5,3),(6,1),(7,1),(8,1),(9,1),(10,1)] (by kernel_rfl) (by kernel_rfl)<|xv rfl rfl (fun _ hC=>Xh isAgg27 sizeOf27 (ac.gr (hC.bl ao))) ?_;refine xu rfl rfl (fun _=>Zmc rfl) ?_;refine xu rfl rfl (fun _=>Vj rfl) ?_;obtain ⟨br,hm⟩:=Z4 hm;refine xu (v:=(.string (ad.extract (Int.toNat 0) (Int.toNat an)))) rfl rfl (fun _=>Z2y underlying9 rfl rfl br) ?_;refine xe rfl rfl ?_;intro b0 hC0;have hC:=hC0.bl ao;obtain ⟨b1,bs,hm⟩:=bZ hm;refine Zh (Zy0 (col:=ao) 2 3 4 5 bs) ?_;rintro _ b2 ⟨aq,b3,b4,b5,b6,b7,b8,b9,ca,rfl,a6,a7,a8,a9,ba⟩;refine ⟨_,rfl,?_⟩;refine Zk<|Xm aq hC0 a6<|xe rfl rfl ?_;intro bt hC0;replace ac:=(ac.gr hC).gr a6;replace ab:=(ab.grow hC).grow a6;have hC:=hC0.bl aq;obtain ⟨a0,bu,hm⟩:=bZ hm;replace a7:=a7.gr hC;replace a8:=a8.gr hC;replace a9:=a9.gr hC;replace ba:=ba.gr hC;replace ab:=ab.grow hC;refine Zh (Zyz 6 bu (((((au.ks ab).froz 2).froz 3).froz 4).froz 5) (((((av.ks ab).froz 2).froz 3).froz 4).froz 5) (((((aw.ks ab).froz 2).froz 3).froz 4).froz 5) (((((ax.ks ab).froz 2).froz 3).froz 4).froz 5) ((((a7.toSlF (Zm.int .u32)).froz 3).froz 4).froz 5) ((((a8.froz 2 (by decide)).toSlF (Zm.int .u32)).froz 4).froz 5) ((((a9.froz 2 (by decide)).froz 3 (by decide)).toSlF (Zm.int .u32)).froz 5) ((((ba.froz 2 (by decide)).froz 3 (by decide)).froz 4 (by decide)).toSlF (Zm.int .u32))) ?_;rintro _ cb ⟨bv,bh,bi,rfl,ap,ar⟩;refine ⟨_,rfl,?_⟩;replace ar:=ar.thaw (Z0 .i64) ap (((((Fz.refl (col:=aq)).froz 2).froz 3).froz 4).froz 5) (by decide);replace ap:=ap.thawR (col:=aq);generalize Xb bt.heap.size aq bv=bj at *;refine Zk<|Xm bj hC0 ap<|xu (v:=(.tuple #[.slice bh a0.1.length bi,.bool a0.2])) rfl rfl (fun _=>Wv rfl) ?_;refine xu (v:=(.slice bh a0.1.length bi)) rfl rfl (fun _=>Xv rfl rfl) ?_;refine xu (v:=(.bool a0.2)) rfl rfl (fun _=>Xv rfl rfl) ?_;refine xu rfl rfl (fun _=>Zub rfl) ?_;refine xu rfl rfl (fun _=>Zht rfl) ?_;refine Yz ?_;replace ac:=(ac.gr hC).gr ap;intro cc hC;replace hC:=hC.bl bj;refine go ?_;replace ab:=(ab.grow ap).grow hC
    replace ar:=ar.gr hC;replace ac:=ac.gr hC;refine Zp hm (fun hb hm=>go ?_) fun hb hm=>?_
    ·cases hm;exact ⟨rfl,_,_,_,rfl,ab.fin (cm [(6,c1)]),ab.fo ar⟩
    refine X5 ?_;exact ⟨rfl,_,hm,ab,ac⟩
   refine Zu ?_;refine Wp.cutK [1,2,8,1000000] (fun f bb=>∃ bc bd,Zck N aa ad an (Vi N aa ad ae) bd=some r∧St w0 (Zi col) bc bb∧Zl 27 1 bc bb ay #[.string aa.1,.slice aj aa.2.1.length af,.slice ak aa.2.2.1.length ag,.slice al aa.2.2.2.1.length ah,.slice am aa.2.2.2.2.length ai]∧[37].map f=[.bool bd]) ?_ ?_
   ·intro f bb hJ;obtain ⟨bc,bd,hm,ab,ac,hs⟩:=hJ;rw [Zck.eq_1] at hm;refine .lL [37] hs ?_;refine Zp hm (fun hb hm=>go ?_) fun hb hm=>?_
    ·cases hm;exact ⟨rfl,_,none,0,rfl,ab.fin (cm []),Zc.nil⟩
    refine X5 ?_;exact ⟨rfl,_,hm,ab,ac⟩
   refine go ?_;refine Xq hm (fun be hm=>go ?_) fun be hm=>go ?_
   ·obtain ⟨bk,bw,hm⟩:=bZ hm;refine lV (.int .u8 bk) (Ze3 (s:=ad) underlying9 rfl rfl bw)<|go ?_;refine lV (.bool (!decide (bk=48))) (Z1 (congrArg Value.bool be) rfl)<|X2 rfl ?_;refine Xq hm (fun bf hm=>go ?_) fun bf hm=>go ?_
    ·obtain ⟨bm,bx,hm⟩:=bZ hm;refine lV (.int .u8 bm) (Ze3 (s:=ad) underlying9 rfl rfl bx)<|go ?_;refine lV (.bool (!decide (bm=49))) (Z1 (congrArg Value.bool bf) rfl)<|Zk ?_;exact ⟨rfl,_,_,hm,ab,ac,rfl⟩
    refine lV (.bool false) (Xn (congrArg Value.bool bf) rfl)<|Zk ?_;exact ⟨rfl,_,_,hm,ab,ac,rfl⟩
   refine lV (.bool false) (Xn (congrArg Value.bool be) rfl)<|X2 rfl<|lP 31 rfl rfl<|lP 31 rfl rfl<|lP 31 rfl rfl<|lP 31 rfl rfl<|lP 31 rfl rfl<|lV (.bool false) (Xn rfl rfl)<|Zk ?_;exact ⟨rfl,_,_,hm,ab,ac,rfl⟩
  cases hm;exact ⟨rfl,_,none,0,rfl,ab.fin (cm []),Zc.nil⟩
def Ziq (aa:(R0×R0)):Option (R0×R0):=
  some ((((aa.1.1.1,aa.1.1.2),aa.1.2),((aa.2.1.1,aa.2.1.2),aa.2.2)))
theorem Zxg {ac ad ae af:Nat} {ag ah ai aj:Option Addr} {col:Zd} {w0:World} {ab r:(R0×R0)} (c1:Nat) (hm:Ziq ab=some r) (ak:Sl (Za.int .u32) col w0 ag ac ab.1.1.2) (al:Sl (Za.int .u32) col w0 ah ad ab.1.2) (am:Sl (Za.int .u32) col w0 ai ae ab.2.1.2) (an:Sl (Za.int .u32) col w0 aj af ab.2.2):
    Calls Tryz.prog 100 #[(.agg #[.bool ab.1.1.1,.slice ag ab.1.1.2.length ac,.slice ah ab.1.2.length ad,.bool ab.2.1.1,.slice ai ab.2.1.2.length ae,.slice aj ab.2.2.length af])] w0 (fun e w'=>∃ (col':Zd) (rg1:Nat) (ra3:Option Addr) (rc4:Nat) (ra6:Option Addr) (rc7:Nat) (ra9:Option Addr) (rc10:Nat) (ra12:Option Addr) (rc13:Nat),e= .returned ((.func (.func 210) #[] #[.pointer (some ⟨rg1,0,none⟩)]))∧Zg col w0 col' w'∧Zl 49 c1 col' w' rg1 #[.bool r.1.1.1,.slice ra3 r.1.1.2.length rc4,.slice ra6 r.1.2.length rc7,.bool r.2.1.1,.slice ra9 r.2.1.2.length rc10,.slice ra12 r.2.2.length rc13]∧Sl (Za.int .u32) col' w' ra3 rc4 r.1.1.2∧Sl (Za.int .u32) col' w' ra6 rc7 r.1.2∧Sl (Za.int .u32) col' w' ra9 rc10 r.2.1.2∧Sl (Za.int .u32) col' w' ra12 rc13 r.2.2):=by
 refine Xe 2 (m:=4) func100 rfl rfl rfl rfl rfl ?_;rw [Ziq.eq_1] at hm;have aa:=St.start col w0;refine go ?_;refine Xi (col:=(Zi col)) 1 rfl ?_;intro ao au ap aq ar;refine lv (v:=_) rfl rfl (U0 rfl)<|go ?_;refine lV (.func (.func 210) #[] #[.pointer (some ⟨ao,0,none⟩)]) (Z2o rfl)<|lA (.func (.func 210) #[] #[.pointer (some ⟨ao,0,none⟩)])<|go ?_;cases hm;replace ak:=ak.keep (Zj.start col w0);replace al:=al.keep (Zj.start col w0);replace am:=am.keep (Zj.start col w0);replace an:=an.keep (Zj.start col w0);replace aa:=aa.grow aq;exact ⟨rfl,U6 w0.heap.size col ap (fun n=>bif Nat.beq n 1 then c1 else 0),ao,ag,ac,ah,ad,ai,ae,aj,af,rfl,aa.fin (fun n=>bif Nat.beq n 1 then c1 else 0),aa.finBox (G:=(fun n=>bif Nat.beq n 1 then c1 else 0)) ar (by decide) (by decide) rfl,aa.finSl (g:=(fun n=>bif Nat.beq n 1 then c1 else 0)) rfl (ak.ks aa),aa.finSl (g:=(fun n=>bif Nat.beq n 1 then c1 else 0)) rfl (al.ks aa),aa.finSl (g:=(fun n=>bif Nat.beq n 1 then c1 else 0)) rfl (am.ks aa),aa.finSl (g:=(fun n=>bif Nat.beq n 1 then c1 else 0)) rfl (an.ks aa)⟩
def Zla (aa:Int) (kk_L1:(Bool→R2→R2→Bool→R2→R2→Int→Option R9)) (ab:Bool) (ac:List Int) (ad:List Int) (ae:Bool) (af:List Int) (ag:List Int):Option R9:=
  kk_L1 ab ac ad ae af ag (i64.wrap (aa+1))
def Zlb (N:Nat) (ac:ByteArray) (ad:Bool) (ae:List Int) (af:List Int) (ag:Bool) (ah:List Int) (ai:List Int) (ab:Int) (kk_L1:(Bool→R2→R2→Bool→R2→R2→Int→Option R9)):Option R9:=
  (Vn ac ab).bind fun aj=>(Zdl N (((ad,ae),af),((ag,ah),ai)) (decide (aj=49))).bind fun aa=>Zla ab kk_L1 aa.1.1.1 aa.1.1.2 aa.1.2 aa.2.1.1 aa.2.1.2 aa.2.2
def Zak (N:Nat) (aa:ByteArray) (ab:Bool) (ac:List Int) (ad:List Int) (ae:Bool) (af:List Int) (ag:List Int) (ah:Int) (kk_L1:(Bool→R2→R2→Bool→R2→R2→Int→Option R9)) (ai:Bool):Option R9:=
  if ai=true then (some (([]:List Int),0,70)) else (Zlb N aa ab ac ad ae af ag ah kk_L1)
def Tb (N:Nat) (ab:R1) (aa:ByteArray) (ae:Rh):Nat→Bool→R2→R2→Bool→R2→R2→Int→Option R9
  | 0,_,_,_,_,_,_,_=>none
  | al+1,af,ag,ah,ai,aj,ak,ac=>(Ziq (((af,ag),ah),((ai,aj),ak))).bind fun ad=>(Zbn N (ab.1,ab.2.1,ab.2.2.1,ab.2.2.2.1,ab.2.2.2.2) ae.1 (((ad.1.1.1,ad.1.1.2),ad.1.2),((ad.2.1.1,ad.2.1.2),ad.2.2))).bind fun am=>if am.2.2=true then (some (am.1,ac,0)) else (if (decide (ac=(aa.size:Int)))=true then (Zak N aa af ag ah ai aj ak ac (Tb N ab aa ae al) true) else ((Vn aa ac).bind fun an=>if (!decide (an=48))=true then ((Vn aa ac).bind fun ao=>Zak N aa af ag ah ai aj ak ac (Tb N ab aa ae al) (!decide (ao=49))) else (Zak N aa af ag ah ai aj ak ac (Tb N ab aa ae al) false)))
termination_by structural x=>x
def Zdj (N:Nat) (aa:R1) (ae:ByteArray):Option R9:=
  (Zf0 N (aa.1,aa.2.1,aa.2.2.1,aa.2.2.2.1,aa.2.2.2.2)).bind fun ad=>if (!decide (ad=0))=true then (some (([]:List Int),0,ad)) else ((Qr N aa.2.2.2.1).bind fun af=>(Zbt N ([]:List R0)).bind fun ab=>(Zfk).bind fun ac=>Tb N aa ae af N ab.1.1 ab.1.2 ab.2 ac.1.1 ac.1.2 ac.2 0)
theorem Zm3 {N be bf bg bh:Nat} {bi bj bk bm:Option Addr} {col:Zd} {w0:World} {ab:R1} {aw:ByteArray} {r:R9} (c1:Nat) (hm:Zdj N ab aw=some r) (ch:Sl Za.str col w0 bi be ab.2.1) (ci:Sl (Za.slice Za.str) col w0 bj bf ab.2.2.1) (b8:Sl (Za.slice (Za.int .i64)) col w0 bk bg ab.2.2.2.1) (cj:Sl (Za.slice (Za.pair (Za.pair Za.bool (Za.slice (Za.int .u32))) (Za.slice (Za.int .u32)))) col w0 bm bh ab.2.2.2.2):
    Calls Tryz.prog 35 #[(.agg #[.string ab.1,.slice bi ab.2.1.length be,.slice bj ab.2.2.1.length bf,.slice bk ab.2.2.2.1.length bg,.slice bm ab.2.2.2.2.length bh]),.string aw] w0 (fun e w'=>∃ (col':Zd) (ra1:Option Addr) (rc2:Nat),e= .returned (.tuple #[.slice ra1 r.1.length rc2,.int .i64 r.2.1,.int .i64 r.2.2])∧Zg col w0 col' w'∧Zc (Za.int .i64) 3 c1 col' w' ra1 rc2 r.1):=by
 refine Zk0 4 5 6 (m:=65) (args:=[(.agg #[.string ab.1,.slice bi ab.2.1.length be,.slice bj ab.2.2.1.length bf,.slice bk ab.2.2.2.1.length bg,.slice bm ab.2.2.2.2.length bh]),.string aw]) func35 rfl rfl rfl rfl rfl ?_;rw [Zdj.eq_1] at hm;have aa:=St.start col w0;refine go ?_;refine Xi (col:=(Zi col)) 1 rfl ?_;intro ck dv dk dw ac;refine go ?_;refine lV _ (Xh isAgg27 sizeOf27 ac) ?_;obtain ⟨ey,dx,hm⟩:=bZ hm;replace ch:=ch.keep (Zj.start col w0);replace ci:=ci.keep (Zj.start col w0);replace b8:=b8.keep (Zj.start col w0);replace cj:=cj.keep (Zj.start col w0);replace aa:=aa.grow dw;refine Zh (Zxv dx (ch.ks aa) (ci.ks aa) (b8.ks aa) (cj.ks aa)) ?_;rintro _ dy ⟨rfl,cl⟩;refine ⟨_,rfl,?_⟩;replace cl:Zg dk dv dk dy:=.of_below cl;refine go ?_;replace ac:=ac.gr cl;replace aa:=aa.grow cl;refine Zp hm (fun hb hm=>go ?_) fun hb hm=>go ?_
 ·cases hm;exact ⟨rfl,_,none,0,rfl,aa.fin (cm []),Zc.nil⟩
 refine Xc ac ?_;obtain ⟨am,dz,hm⟩:=bZ hm;refine Zh (Zpq 2 dz (b8.ks aa)) ?_;rintro _ ez ⟨d0,b1,b2,rfl,dl,ad⟩;refine ⟨_,rfl,?_⟩;refine lM (.tuple #[.slice b1 am.1.length b2,.int .i64 am.2])<|lV (.slice b1 am.1.length b2) (Xv rfl rfl)<|lV (.int .i64 am.2) (Xv rfl rfl)<|go ?_;obtain ⟨cu,d1,hm⟩:=bZ hm;refine Zh (Zm5 (col:=d0) 3 4 d1 Sl.nil) ?_;rintro _ e0 ⟨d2,d3,d4,d5,d6,rfl,cv,an,ao⟩;refine ⟨_,rfl,?_⟩;obtain ⟨cw,d7,hm⟩:=bZ hm;refine lc rfl rfl (Za8 call97) (Zpp (col:=d2) 5 6 d7:) ?_;rintro _ e1 ⟨d8,d9,ea,eb,ec,rfl,b9,ap,aq⟩;refine ⟨_,rfl,?_⟩;refine lV (.agg #[.bool cu.1.1,.slice d3 cu.1.2.length d4,.slice d5 cu.2.length d6,.bool cw.1.1,.slice d9 cw.1.2.length ea,.slice eb cw.2.length ec]) (Yt (l:=[_,_]) (qs:=[(0,3),(3,3)]) underlying49 zeroValue49 ⟨rfl,sizeOf47,rfl,sizeOf47,trivial⟩ rfl)<|Xs (col:=d8) #[.bool false,.slice none (([]:List Int).length) 0,.slice none (([]:List Int).length) 0,.bool false,.slice none (([]:List Int).length) 0,.slice none (([]:List Int).length) 0] 7 zeroValue49 ?_;intro cn e2 e3 b3 ed;refine Z8 ed ?_;intro e4 b4 ee ae;refine go ?_;replace ad:=(((ad.gr cv).gr b9).gr b3).kp b4;replace ad:=ad.froz 3 (by decide);replace an:=((an.gr b9).gr b3).kp b4;replace an:=(an).toSlF (Zm.int .u32);replace ao:=((ao.gr b9).gr b3).kp b4;replace ao:=ao.froz 3 (by decide);replace ap:=(ap.gr b3).kp b4;replace ap:=ap.froz 3 (by decide);replace aq:=(aq.gr b3).kp b4;replace aq:=aq.froz 3 (by decide);replace ac:=((((ac.gr dl).gr cv).gr b9).gr b3).kp b4;replace ac:=ac.froz 3 (by decide);replace ae:=ae.froz 3 (by decide);replace aa:=((((aa.grow dl).grow cv).grow b9).grow b3).kp b4 ee;replace aa:=aa.froz 3 (by decide) (by decide);replace ad:=ad.froz 4 (by decide);replace an:=an.froz 4;replace ao:=(ao).toSlF (Zm.int .u32);replace ap:=ap.froz 4 (by decide);replace aq:=aq.froz 4 (by decide);replace ac:=ac.froz 4 (by decide);replace ae:=ae.froz 4 (by decide);replace aa:=aa.froz 4 (by decide) (by decide);replace ad:=ad.froz 5 (by decide);replace an:=an.froz 5;replace ao:=ao.froz 5;replace ap:=(ap).toSlF (Zm.int .u32);replace aq:=aq.froz 5 (by decide);replace ac:=ac.froz 5 (by decide);replace ae:=ae.froz 5 (by decide)
 replace aa:=aa.froz 5 (by decide) (by decide);replace ad:=ad.froz 6 (by decide);replace an:=an.froz 6;replace ao:=ao.froz 6;replace ap:=ap.froz 6;replace aq:=(aq).toSlF (Zm.int .u32);replace ac:=ac.froz 6 (by decide);replace ae:=ae.froz 6 (by decide);replace aa:=aa.froz 6 (by decide) (by decide);replace ad:=(ad).toSlF (Zm.int .i64);replace an:=an.froz 2;replace ao:=ao.froz 2;replace ap:=ap.froz 2;replace aq:=aq.froz 2;replace ac:=ac.froz 2 (by decide);replace ae:=ae.froz 2 (by decide);replace aa:=aa.froz 2 (by decide) (by decide);refine Zy [1,10,2,8,1000000] (fun n f ar=>∃ ak bn bo bp ay bq br az bs bt bu a0 bv bw a1 b6 a4,a4=n∧Tb N ab aw am a4 bn ay az bs a0 a1 b6=some r∧St w0 (Zi col) ak ar∧Sl (Za.int .u32) ak ar bo bp ay∧Sl (Za.int .u32) ak ar bq br az∧Sl (Za.int .u32) ak ar bt bu a0∧Sl (Za.int .u32) ak ar bv bw a1∧Zl 49 7 ak ar cn #[.bool bn,.slice bo ay.length bp,.slice bq az.length br,.bool bs,.slice bt a0.length bu,.slice bv a1.length bw]∧Zl 27 1 ak ar ck #[.string ab.1,.slice bi ab.2.1.length be,.slice bj ab.2.2.1.length bf,.slice bk ab.2.2.2.1.length bg,.slice bm ab.2.2.2.2.length bh]∧Sl (Za.int .i64) ak ar b1 b2 am.1∧[11].map f=[.int .i64 b6]) N ⟨_,_,_,_,_,_,_,_,_,_,_,_,_,_,_,0,_,rfl,hm,aa,an,ao,ap,aq,ae,ac,ad,rfl⟩ ?_;clear hm;intro n f ar hI;obtain ⟨ak,bn,bo,bp,ay,bq,br,az,bs,bt,bu,a0,bv,bw,a1,b6,a4,hn,hm,aa,af,ag,ah,ai,ae,ac,ad,hs⟩:=hI;subst hn;refine .lL [11] hs ?_
 cases a4 with
 | zero=>rw [Tb.eq_1] at hm;cases hm
 | succ a4=>
  rw [Tb.eq_2] at hm;refine Zu ?_;refine Wp.cutK [1,10,11,2,8,1000000] (fun f a5=>∃ a6 cx cy cz co c0 c2 cp c3 c4 c5 cq c6 c7 cr,Zla b6 (Tb N ab aw am a4) cx co cp c3 cq cr=some r∧St w0 (Zi col) a6 a5∧Sl (Za.int .u32) a6 a5 cy cz co∧Sl (Za.int .u32) a6 a5 c0 c2 cp∧Sl (Za.int .u32) a6 a5 c4 c5 cq∧Sl (Za.int .u32) a6 a5 c6 c7 cr∧Zl 49 7 a6 a5 cn #[.bool cx,.slice cy co.length cz,.slice c0 cp.length c2,.bool c3,.slice c4 cq.length c5,.slice c6 cr.length c7]∧Zl 27 1 a6 a5 ck #[.string ab.1,.slice bi ab.2.1.length be,.slice bj ab.2.2.1.length bf,.slice bk ab.2.2.2.1.length bg,.slice bm ab.2.2.2.2.length bh]∧Sl (Za.int .i64) a6 a5 b1 b2 am.1) ?_ ?_
  ·intro f a5 hJ;obtain ⟨a6,cx,cy,cz,co,c0,c2,cp,c3,c4,c5,cq,c6,c7,cr,hm,aa,ef,eg,eh,ei,ae,ac,ad⟩:=hJ;rw [Zla.eq_1] at hm;refine go ?_;exact ⟨a4,by omega,rfl,⟨_,_,_,_,_,_,_,_,_,_,_,_,_,_,_,_,_,rfl,hm,aa,ef,eg,eh,ei,ae,ac,ad,rfl⟩⟩
  refine go ?_;have bx:=Zx.clip (fun _=>false) ak ar;refine Zc2 (col:=ak) [(0,0),(1,1),(2,0),(3,3),(4,3),(5,1),(6,1),(7,1),(8,1),(9,4),(10,1),(11,2),(12,1)] (by kernel_rfl) (by kernel_rfl) ⟨fun h=>absurd h (by decide),fun h=>absurd h (by decide),fun h=>absurd h (by decide),fun h=>absurd h (by decide),fun h=>absurd h (by decide),fun h=>absurd h (by decide),fun h=>absurd h (by decide),fun h=>absurd h (by decide),fun h=>absurd h (by decide),fun _=>⟨_,_,_,rfl,Ug zeroValue49⟩,fun h=>absurd h (by decide),fun h=>absurd h (by decide),fun h=>absurd h (by decide),trivial⟩ ?_;replace ac:=ac.kpp bx;refine Wd (v:=(.agg #[.string ab.1,.slice bi ab.2.1.length be,.slice bj ab.2.2.1.length bf,.slice bk ab.2.2.2.1.length bg,.slice bm ab.2.2.2.2.length bh])) rfl rfl (fun _ hC=>Xp isAgg27 sizeOf27 rfl rfl (ac.atN.gr (hC.bl (Zf ar ak)))) ?_;refine Ye (v:=(.slice b1 am.1.length b2)) rfl rfl (fun _=>Wv rfl) ?_;replace ae:=ae.kpp bx;refine Wd (v:=(.agg #[.bool bn,.slice bo ay.length bp,.slice bq az.length br,.bool bs,.slice bt a0.length bu,.slice bv a1.length bw])) rfl rfl (fun _ hC=>Xp isAgg49 sizeOf49 rfl rfl (ae.atN.gr (hC.bl (Zf ar ak)))) ?_;refine Y2 rfl rfl ?_;intro e5 hC0;have hC:=hC0.bl (Zf ar ak);obtain ⟨e6,ej,hm⟩:=bZ hm;replace af:=(af.kpp bx).gr hC;replace ag:=(ag.kpp bx).gr hC;replace ah:=(ah.kpp bx).gr hC;replace ai:=(ai.kpp bx).gr hC;refine Zh (Zxg 8 ej af ag ah ai) ?_;rintro _ b7 ⟨ca,e7,e8,e9,fa,fb,fc,fd,fe,ff,rfl,a2,c8,c9,da,db,dc⟩;refine ⟨_,rfl,?_⟩;refine Zk ?_;refine ⟨fun w'=>Zg (Zf b7 ca) b7 (Zf b7 ca) w',fun g=>(Zf b7 ca) g=497,Zg.refl _ _,Yv,fun _=>⟨fun _ h=>Ws hC0 a2 h,fun b hb=>a2.below.block b hb,fun g x1 x2=>Wz a2 g x1 (by first | exact x2 | (simp only [Xk,x2];rfl) | (simp only [Xk,X6,x2];rfl))⟩,?_⟩;have au:=Zx.clip (fun _=>false) ca b7;refine Y2 rfl rfl ?_;intro fg hC0;replace ad:=(((ad.kpp bx).gr hC).gr a2).kpp au;replace aa:=(((aa.kpp bx).grow hC).grow a2).kpp au;replace ae:=((ae.gr hC).gr a2).kpp au;replace ac:=((ac.gr hC).gr a2).kpp au;have hC:=hC0.bl (Zf b7 ca);obtain ⟨aj,ek,hm⟩:=bZ hm;replace c9:=(c9.kpp au).gr hC;replace da:=(da.kpp au).gr hC;replace db:=(db.kpp au).gr hC;replace dc:=(dc.kpp au).gr hC
  replace c8:=(c8.kpp au).gr hC;replace ad:=ad.gr hC;replace aa:=aa.grow hC;refine Zh (Zxe 9 8 ek (by decide) (ch.ks aa) (ci.ks aa) (b8.ks aa) (cj.ks aa) ad c9 da db dc c8) ?_;rintro _ al ⟨av,dd,de,dm,dn,dp,dq,dr,ds,dt,du,rfl,a3,cb,fh,fi,fj,fk⟩;refine ⟨_,rfl,?_⟩;refine Zk ?_;refine ⟨fun w'=>Zg (Zf al av) al (Zf al av) w',fun g=>(Zf al av) g=497,Zg.refl _ _,Yv,fun _=>⟨fun _ h=>Ws hC0 a3 h,fun b hb=>a3.below.block b hb,fun g x1 x2=>Wz a3 g x1 (by first | exact x2 | (simp only [Xk,x2];rfl) | (simp only [Xk,X6,x2];rfl))⟩,?_⟩;have a7:=Zx.clip (fun _=>false) av al;refine Ye (v:=(.tuple #[.slice dd aj.1.length de,(.agg #[.bool aj.2.1.1.1.1,.slice dm aj.2.1.1.1.2.length dn,.slice dp aj.2.1.1.2.length dq,.bool aj.2.1.2.1.1,.slice dr aj.2.1.2.1.2.length ds,.slice dt aj.2.1.2.2.length du]),.bool aj.2.2])) rfl rfl (fun _=>Wv rfl) ?_;refine Ye (v:=(.slice dd aj.1.length de)) rfl rfl (fun _=>Xv rfl rfl) ?_;refine Ye (v:=(.agg #[.bool aj.2.1.1.1.1,.slice dm aj.2.1.1.1.2.length dn,.slice dp aj.2.1.1.2.length dq,.bool aj.2.1.2.1.1,.slice dr aj.2.1.2.1.2.length ds,.slice dt aj.2.1.2.2.length du])) rfl rfl (fun _=>Xv rfl rfl) ?_;refine Ye (v:=(.bool aj.2.2)) rfl rfl (fun _=>Xv rfl rfl) ?_;refine Zc3 rfl rfl (Ug zeroValue49) ?_;intro bz el;refine Ye (v:=(.slice dd aj.1.length de)) rfl rfl (fun _=>U0 rfl) ?_;refine Y2 rfl rfl ?_;intro em ⟨hC0,hZ0⟩;replace af:=((((af.gr a2).kpp au).gr hC).gr a3).kpp a7;replace ag:=((((ag.gr a2).kpp au).gr hC).gr a3).kpp a7;replace ah:=((((ah.gr a2).kpp au).gr hC).gr a3).kpp a7;replace ai:=((((ai.gr a2).kpp au).gr hC).gr a3).kpp a7;replace ae:=((ae.gr hC).gr a3).kpp a7;replace ac:=((ac.gr hC).gr a3).kpp a7;have hC:=hC0.bl (Zf al av);obtain ⟨a8,df⟩:=Zbg (col:=(Zf al av)) 10 hZ0 el
  replace df:Zl 49 10 (Xa bz 10 (Zf al av)) em bz #[.bool false,.slice none (([]:List Int).length) 0,.slice none (([]:List Int).length) 0,.bool false,.slice none (([]:List Int).length) 0,.slice none (([]:List Int).length) 0]:=df;refine Z8 df ?_;intro b0 a9 en fl;refine Zk ?_;refine ⟨fun w'=>Zg (Zf b0 (Xa bz 10 (Zf al av))) b0 (Zf b0 (Xa bz 10 (Zf al av))) w',fun g=>(Zf b0 (Xa bz 10 (Zf al av))) g=497,Zg.refl _ _,Yv,fun h=>absurd h (by decide),?_⟩;have ba:=Zx.clip (fun _=>false) (Xa bz 10 (Zf al av)) b0;refine Ye (v:=(.bool aj.2.2)) rfl rfl (fun _=>U0 rfl) ?_;refine Zc4 ?_;replace ad:=(((((ad.gr a3).kpp a7).gr hC).kpp a8).kp a9).kpp ba;replace aa:=(((((aa.grow a3).kpp a7).grow hC).kpp a8).kp a9 en).kpp ba;replace cb:=((((cb.kpp a7).gr hC).kpp a8).kp a9).kpp ba;replace af:=(((af.gr hC).kpp a8).kp a9).kpp ba;replace ag:=(((ag.gr hC).kpp a8).kp a9).kpp ba;replace ah:=(((ah.gr hC).kpp a8).kp a9).kpp ba;replace ai:=(((ai.gr hC).kpp a8).kp a9).kpp ba;replace ae:=(((ae.gr hC).kpp a8).kp a9).kpp ba;replace ac:=(((ac.gr hC).kpp a8).kp a9).kpp ba;intro eo hC;replace hC:Zg (Zf b0 (Xa bz 10 (Zf al av))) b0 (Zf b0 (Xa bz 10 (Zf al av))) eo:=.of_below hC.below;refine go ?_;replace af:=af.gr hC;replace ag:=ag.gr hC;replace ah:=ah.gr hC;replace ai:=ai.gr hC;replace ad:=ad.gr hC;replace cb:=cb.gr hC;replace ae:=ae.gr hC;replace ac:=ac.gr hC;replace aa:=aa.grow hC;refine Zp hm (fun hb hm=>go ?_) fun hb hm=>?_
  ·cases hm;exact ⟨rfl,_,_,_,rfl,aa.fin (cm [(9,c1)]),aa.fo cb⟩
  refine X5<|Zu ?_;refine Wp.cutK [1,10,11,2,8,1000000] (fun f bb=>∃ ax,Zlb N aw bn ay az bs a0 a1 b6 (Tb N ab aw am a4)=some r∧St w0 (Zi col) ax bb∧Sl (Za.int .u32) ax bb bo bp ay∧Sl (Za.int .u32) ax bb bq br az∧Sl (Za.int .u32) ax bb bt bu a0∧Sl (Za.int .u32) ax bb bv bw a1∧Zl 49 7 ax bb cn #[.bool bn,.slice bo ay.length bp,.slice bq az.length br,.bool bs,.slice bt a0.length bu,.slice bv a1.length bw]∧Zl 27 1 ax bb ck #[.string ab.1,.slice bi ab.2.1.length be,.slice bj ab.2.2.1.length bf,.slice bk ab.2.2.2.1.length bg,.slice bm ab.2.2.2.2.length bh]∧Sl (Za.int .i64) ax bb b1 b2 am.1) ?_ ?_
  ·intro f bb hJ;obtain ⟨ax,hm,aa,af,ag,ah,ai,ae,ac,ad⟩:=hJ;rw [Zlb.eq_1] at hm;refine Y6 (col:=ax) [(0,0),(1,1),(2,1),(3,0),(4,1),(5,3),(6,2)] (by kernel_rfl) (by kernel_rfl)<|xv rfl rfl (fun _ hC=>Xh isAgg49 sizeOf49 (ae.gr (hC.bl ax))) ?_;refine xu rfl rfl (fun _=>Zmc rfl) ?_;refine xu rfl rfl (fun _=>Vj rfl) ?_;obtain ⟨ep,eq,hm⟩:=bZ hm;refine xv (v:=(.int .u8 ep)) rfl rfl (fun _ hC=>Ze3 (s:=aw) underlying9 rfl rfl eq) ?_;refine xu rfl rfl (fun _=>Zor _ _ rfl rfl) ?_;refine xe rfl rfl ?_;intro fm hC0;have hC:=hC0.bl ax;obtain ⟨fn,er,hm⟩:=bZ hm;replace af:=af.gr hC;replace ag:=ag.gr hC;replace ah:=ah.gr hC;replace ai:=ai.gr hC;refine Zh (Zxf er af ag ah ai) ?_;rintro _ fp ⟨cs,fq,fr,ft,fu,fv,fw,fx,fy,rfl,cc,cd,ce,cf,cg⟩;refine ⟨_,rfl,?_⟩;refine Zk<|Xm cs hC0 cc<|xe rfl rfl ?_;intro fz hC0;replace ad:=(ad.gr hC).gr cc;replace ae:=(ae.gr hC).gr cc;replace ac:=(ac.gr hC).gr cc;replace aa:=(aa.grow hC).grow cc;have hC:=hC0.bl cs;replace ae:=ae.gr hC;refine Z8 ae ?_;intro f0 b5 es dg;refine Zk<|xk cs<|Yz ?_;replace ad:=(ad.gr hC).kp b5;replace cd:=(cd.gr hC).kp b5;replace ce:=(ce.gr hC).kp b5;replace cf:=(cf.gr hC).kp b5;replace cg:=(cg.gr hC).kp b5;replace ac:=(ac.gr hC).kp b5;replace aa:=(aa.grow hC).kp b5 es;intro f1 hC;replace hC:=hC.bl cs;replace cd:=cd.gr hC;replace ce:=ce.gr hC;replace cf:=cf.gr hC;replace cg:=cg.gr hC;replace ad:=ad.gr hC;replace dg:=dg.gr hC;replace ac:=ac.gr hC;replace aa:=aa.grow hC;exact ⟨rfl,_,_,_,_,_,_,_,_,_,_,_,_,_,_,_,hm,aa,cd,ce,cf,cg,dg,ac,ad⟩
  refine Zu ?_;refine Wp.cutK [1,10,11,2,8,1000000] (fun f bc=>∃ bd dh,Zak N aw bn ay az bs a0 a1 b6 (Tb N ab aw am a4) dh=some r∧St w0 (Zi col) bd bc∧Sl (Za.int .u32) bd bc bo bp ay∧Sl (Za.int .u32) bd bc bq br az∧Sl (Za.int .u32) bd bc bt bu a0∧Sl (Za.int .u32) bd bc bv bw a1∧Zl 49 7 bd bc cn #[.bool bn,.slice bo ay.length bp,.slice bq az.length br,.bool bs,.slice bt a0.length bu,.slice bv a1.length bw]∧Zl 27 1 bd bc ck #[.string ab.1,.slice bi ab.2.1.length be,.slice bj ab.2.2.1.length bf,.slice bk ab.2.2.2.1.length bg,.slice bm ab.2.2.2.2.length bh]∧Sl (Za.int .i64) bd bc b1 b2 am.1∧[58].map f=[.bool dh]) ?_ ?_
  ·intro f bc hJ;obtain ⟨bd,dh,hm,aa,af,ag,ah,ai,ae,ac,ad,hs⟩:=hJ;rw [Zak.eq_1] at hm;refine .lL [58] hs ?_;refine Zp hm (fun hb hm=>go ?_) fun hb hm=>?_
   ·cases hm;exact ⟨rfl,_,none,0,rfl,aa.fin (cm []),Zc.nil⟩
   refine X5 ?_;exact ⟨rfl,_,hm,aa,af,ag,ah,ai,ae,ac,ad⟩
  refine go ?_;refine Xq hm (fun ct hm=>go ?_) fun ct hm=>go ?_
  ·refine Zk9 52 rfl rfl rfl rfl<|Zk9 52 rfl rfl rfl rfl<|Zk9 52 rfl rfl rfl rfl<|Zk9 52 rfl rfl rfl rfl<|go ?_;refine lV (.bool true) (Z1 (congrArg Value.bool ct) rfl)<|Zk ?_;exact ⟨rfl,_,_,hm,aa,af,ag,ah,ai,ae,ac,ad,rfl⟩
  obtain ⟨et,eu,hm⟩:=bZ hm;refine lV (.int .u8 et) (Ze3 (s:=aw) underlying9 rfl rfl eu)<|go ?_;refine Xq hm (fun di hm=>go ?_) fun di hm=>go ?_
  ·obtain ⟨dj,ew,hm⟩:=bZ hm;refine lV (.int .u8 dj) (Ze3 (s:=aw) underlying9 rfl rfl ew)<|go ?_;refine lV (.bool (!decide (dj=49))) (Z1 (congrArg Value.bool di) rfl)<|lV (.bool (!decide (dj=49))) (Xn (congrArg Value.bool ct) rfl)<|Zk ?_;exact ⟨rfl,_,_,hm,aa,af,ag,ah,ai,ae,ac,ad,rfl⟩
  refine lV (.bool false) (Xn (congrArg Value.bool di) rfl)<|lV (.bool false) (Xn (congrArg Value.bool ct) rfl)<|Zk ?_;exact ⟨rfl,_,_,hm,aa,af,ag,ah,ai,ae,ac,ad,rfl⟩
def Qp (n:Xt) (ord:List Int) (s:ByteArray) (k:Nat):Option (List Int×(Rat×Rat)):=Uu n (fun P=>Vg (U9 (Z7 s k)) P 0 (-1)) ord (List.replicate n.2.1.length 0) (0,1)
section
variable {N W K:Nat} {n:Xt} (hf:Vx N n) (hs:Ue n W) (hr:Xd N (8 * K+40)) (hWK:1025 * (W+2)+15≤K) (hN:1048577<N) {ord:List Int} (ho:Zbd n.2.2.2.1 ord) (hol:ord.length≤1024) {s:ByteArray} (hsz:s.size≤300)
include hf hs hr hWK hN ho hol hsz
theorem Zuv {er:Int} (hO:Zcc N n.2.2.2.1=some (ord,er)) {k:Nat} (hk:k≤s.size) (kk:Int→Option R9):
  Zck N n s (k:Int) kk false=(match Qp n ord s k with | none=>kk ((k+1:Nat):Int) | some p=>some (p.1,(k:Int),0)):=by
 obtain ⟨q1,q2⟩:=Zk4 s (i:=k) (by omega)
 have hnb:=Z13 hr (by omega) (by omega) s hk (by omega)
 have hI:Zhh N (n.1,n.2.1,n.2.2.1,n.2.2.2.1,n.2.2.2.2) ((((Xo (Z7 s k)).1.1.1,(Xo (Z7 s k)).1.1.2),(Xo (Z7 s k)).1.2),(((Xo (Z7 s k)).2.1.1,(Xo (Z7 s k)).2.1.2),(Xo (Z7 s k)).2.2))=Zii (Qp n ord s k):=
  Z0u (x:=Z7 s k) (X:=Xo (Z7 s k)) hf hs hr (by omega) hN ho hol (Wh (Nat.le_trans q1 (by omega))) (Wh (Nat.le_trans q2 (by omega))) (Yy _) (Yy _) hO
 rw [Zck,if_neg (by decide),Zlp,Z6 ⟨Int.le_refl _,by omega,by omega⟩,show Int.toNat 0=0 from rfl,Int.toNat_natCast,hnb,Option.bind_some,hI]
 cases Qp n ord s k with
 | none=>rw [Zii,Option.bind_some,if_neg (by decide),Zlo,wS (by omega)]
 | some p=>
  obtain ⟨w,t⟩:=p
  rw [Zii,Option.bind_some,if_pos rfl]
omit hsz in
theorem Zqe {k:Nat} (hk:k≤320):Zbn N n ord (Xo (Z7 s k))=Zdb (Qp n ord s k):=by
 obtain ⟨q1,q2⟩:=Zk4 s (i:=k) hk
 have h:=Zzn (x:=Z7 s k) (X:=Xo (Z7 s k)) hf hs hr (by omega) hN ho hol (Wh (Nat.le_trans q1 (by omega))) (Wh (Nat.le_trans q2 (by omega))) (Yy _) (Yy _)
 rw [h,Zqq hf ho (Zw5 (Zzv s k)) ord _ (0,1) (fun _ h=>h) (Zzw s k) (show (0:Rat)≤1 by decide)]
 rfl
theorem Zzp {er e2:Int} (hO:Zcc N n.2.2.2.1=some (ord,er)):∀ (m k f g:Nat),k+m=s.size→m+1<f→m<g→(k=0∨∃ c,Vn s ((k:Int) - 1)=some c∧(c=48∨c=49))→
  ∃ r,Vi N n s f (k:Int)=some r∧Tb N n s (ord,e2) g (Zq (Z7 s k).1).1.1 (Zq (Z7 s k).1).1.2 (Zq (Z7 s k).1).2 (Zq (Z7 s k).2).1.1 (Zq (Z7 s k).2).1.2 (Zq (Z7 s k).2).2 (k:Int)=some r∧r.1.length≤1024:=by
 intro m
 induction m with
 | zero=>
  intro k f g hk h1 h2 hb
  obtain ⟨f,rfl⟩:∃ f',f=f'+1:=⟨f - 1,by omega⟩
  obtain ⟨f,rfl⟩:∃ f',f=f'+1:=⟨f - 1,by omega⟩
  obtain ⟨g,rfl⟩:∃ g',g=g'+1:=⟨g - 1,by omega⟩
  have hJ:=Zuv hf hs hr hWK hN ho hol hsz hO (k:=k) (by omega) (Vi N n s (f+1))
  have hdoc:Vi N n s (f+1+1) (k:Int)=(match Qp n ord s k with | none=>Vi N n s (f+1) ((k+1:Nat):Int) | some p=>some (p.1,(k:Int),0)):=by
   rw [Vi.eq_2,if_pos (decide_eq_true (by omega))]
   by_cases h0:0<k
   ·rcases hb with h | ⟨c,hc,h48⟩
    ·omega
    ·rw [if_pos (decide_eq_true (by omega)),Zr (x:=(k:Int) - 1) (by omega),hc,Option.bind_some]
     rcases h48 with rfl | rfl
     ·rw [if_neg (by decide)];exact hJ
     ·rw [if_pos (by decide),Option.bind_some];exact hJ
   ·rw [if_neg (by rw [decide_eq_false (by omega)];decide)];exact hJ
  have hcut:=Zqe (s:=s) hf hs hr hWK hN ho hol (k:=k) (by omega)
  have hcut':Zbn N (n.1,n.2.1,n.2.2.1,n.2.2.2.1,n.2.2.2.2) ((ord,e2):List Int×Int).1 ((((Zq (Z7 s k).1).1.1,(Zq (Z7 s k).1).1.2),(Zq (Z7 s k).1).2),(((Zq (Z7 s k).2).1.1,(Zq (Z7 s k).2).1.2),(Zq (Z7 s k).2).2))=Zdb (Qp n ord s k):=hcut
  rw [hdoc,Tb.eq_2,Ziq,Option.bind_some,hcut']
  cases hd:Qp n ord s k with
  | some p=>
   obtain ⟨w,t⟩:=p
   have hl:=Znl _ _ _ _ hd
   rw [List.length_replicate] at hl
   have:=hf.le
   exact ⟨(w,(k:Int),0),rfl,rfl,by simp only at hl ⊢;omega⟩
  | none=>
   refine ⟨([],0,70),?_,?_,by simp⟩
   ·simp only
    rw [Vi.eq_2,if_neg (by rw [decide_eq_false (by omega)];decide)]
   ·rw [Zdb,Option.bind_some,if_neg (by decide),if_pos (decide_eq_true (by omega)),Zak,if_pos rfl]
 | succ m ih=>
  intro k f g hk h1 h2 hb
  obtain ⟨f,rfl⟩:∃ f',f=f'+1:=⟨f - 1,by omega⟩
  obtain ⟨f,rfl⟩:∃ f',f=f'+1:=⟨f - 1,by omega⟩
  obtain ⟨g,rfl⟩:∃ g',g=g'+1:=⟨g - 1,by omega⟩
  have hJ:=Zuv hf hs hr hWK hN ho hol hsz hO (k:=k) (by omega) (Vi N n s (f+1))
  have hdoc:Vi N n s (f+1+1) (k:Int)=(match Qp n ord s k with | none=>Vi N n s (f+1) ((k+1:Nat):Int) | some p=>some (p.1,(k:Int),0)):=by
   rw [Vi.eq_2,if_pos (decide_eq_true (by omega))]
   by_cases h0:0<k
   ·rcases hb with h | ⟨c,hc,h48⟩
    ·omega
    ·rw [if_pos (decide_eq_true (by omega)),Zr (x:=(k:Int) - 1) (by omega),hc,Option.bind_some]
     rcases h48 with rfl | rfl
     ·rw [if_neg (by decide)];exact hJ
     ·rw [if_pos (by decide),Option.bind_some];exact hJ
   ·rw [if_neg (by rw [decide_eq_false (by omega)];decide)];exact hJ
  have hcut:=Zqe (s:=s) hf hs hr hWK hN ho hol (k:=k) (by omega)
  have hcut':Zbn N (n.1,n.2.1,n.2.2.1,n.2.2.2.1,n.2.2.2.2) ((ord,e2):List Int×Int).1 ((((Zq (Z7 s k).1).1.1,(Zq (Z7 s k).1).1.2),(Zq (Z7 s k).1).2),(((Zq (Z7 s k).2).1.1,(Zq (Z7 s k).2).1.2),(Zq (Z7 s k).2).2))=Zdb (Qp n ord s k):=hcut
  rw [hdoc,Tb.eq_2,Ziq,Option.bind_some,hcut']
  cases hd:Qp n ord s k with
  | some p=>
   obtain ⟨w,t⟩:=p
   have hl:=Znl _ _ _ _ hd
   rw [List.length_replicate] at hl
   have:=hf.le
   exact ⟨(w,(k:Int),0),rfl,rfl,by simp only at hl ⊢;omega⟩
  | none=>
   simp only
   obtain ⟨c,hc⟩:=Zpj (s:=s) (i:=k) (by omega)
   have hh:=Z0q hr (by omega) s (i:=k) (by omega) hc
   have hh':Zdl N ((((Zq (Z7 s k).1).1.1,(Zq (Z7 s k).1).1.2),(Zq (Z7 s k).1).2),(((Zq (Z7 s k).2).1.1,(Zq (Z7 s k).2).1.2),(Zq (Z7 s k).2).2)) (decide (c=49))=some (Xo (Z7 s (k+1))):=hh
   rw [Zdb,Option.bind_some,if_neg (by decide),if_neg (by rw [decide_eq_false (by omega)];decide),hc,Option.bind_some,Option.bind_some]
   have hk1:((k+1:Nat):Int) - 1=(k:Int):=by omega
   by_cases hok:c=48∨c=49
   ·obtain ⟨r,r1,r2,r3⟩:=ih (k+1) (f+1) g (by omega) (by omega) (by omega) (.inr ⟨c,by rw [hk1];exact hc,hok⟩)
    refine ⟨r,r1,?_,r3⟩
    have hJ2:Zak N s (Zq (Z7 s k).1).1.1 (Zq (Z7 s k).1).1.2 (Zq (Z7 s k).1).2 (Zq (Z7 s k).2).1.1 (Zq (Z7 s k).2).1.2 (Zq (Z7 s k).2).2 (k:Int) (Tb N n s (ord,e2) g) false=some r:=by
     rw [Zak,if_neg (by decide),Zlb,hc,Option.bind_some,hh',Option.bind_some,Zla,wS (by omega)]
     exact r2
    rcases hok with rfl | rfl
    ·rw [if_neg (by decide)];exact hJ2
    ·rw [if_pos (by decide)];exact hJ2
   ·refine ⟨([],0,70),?_,?_,by simp⟩
    ·rw [Vi.eq_2,if_pos (decide_eq_true (by omega)),if_pos (decide_eq_true (by omega)),Zr (x:=((k+1:Nat):Int) - 1) (by omega),hk1,hc,Option.bind_some,if_pos (by rw [decide_eq_false (by omega)];rfl),Option.bind_some,decide_eq_false (show ¬ c=49 by omega),Zck,if_pos (by decide)]
    ·rw [if_pos (by rw [decide_eq_false (by omega)];rfl),decide_eq_false (show ¬ c=49 by omega),Zak,if_pos (by decide)]
end
theorem Zzo {N W K:Nat} {n:Xt} {s:ByteArray} (hs:Ue n W) (hr:Xd N (8 * K+40)) (hWK:1025 * (W+2)+15≤K) (hN:2000000<N) (hsz:s.size≤300):
  ∃ x:List Int×Int×Int,Zdj N n s=some x∧Zhg N n s=some x∧x.1.length≤1024:=by
 obtain ⟨e,m1,m2,fine⟩:=Zzf hs (hr.mono (s:=8 * W+40) (by omega)) hN
 have m1':Zf0 N (n.1,n.2.1,n.2.2.1,n.2.2.2.1,n.2.2.2.2)=some e:=m1
 have m2':Zg4 N (n.1,n.2.1,n.2.2.1,n.2.2.2.1,n.2.2.2.2)=some e:=m2
 rw [Zdj,Zhg,m1',m2',Option.bind_some,Option.bind_some]
 by_cases h0:e=0
 ·have hf:=fine h0
  have hc0:¬ (!decide (e=0))=true:=by rw [decide_eq_true h0];decide
  rw [if_neg hc0,if_neg hc0]
  have hle:=hf.le
  obtain ⟨l,o1,o2,o3,o4,o5⟩:=hf.or
  have hpl:n.2.2.2.1.length≤1024:=by rw [hf.ev.p];exact hle
  have ho:Zbd n.2.2.2.1 l:=Z17 (by omega) hs.pn.ls (by omega) o2 o4
  have hol:l.length≤1024:=by omega
  have hO:Zcc N n.2.2.2.1=some (l,0):=by rw [Zcc,o3,Option.bind_some,if_neg (by decide),o2];rfl
  rw [o1,Option.bind_some,Zrj (hr.mono (by omega)),Option.bind_some,Zrf,Option.bind_some]
  have h:=fun e2=>Zzp hf hs hr hWK (by omega) ho hol hsz (e2:=e2) hO s.size 0 N N (by omega) (by omega) (by omega) (.inl rfl)
  obtain ⟨r,r1,r2,r3⟩:=h _
  rw [Zzx] at r2
  exact ⟨r,r2,r1,by omega⟩
 ·have hc0:(!decide (e=0))=true:=by rw [decide_eq_false h0];rfl
  rw [if_pos hc0,if_pos hc0]
  exact ⟨_,rfl,rfl,by simp⟩
def Zha (aa:R0):Option ((Bool×R5)×R5):=
  Zw ((([]:List Int).length+aa.1.2.length) * 4≤140737488355328∧([]:List Int).length+aa.1.2.length≤maxLen) (Zw (((([]:List Int)++aa.1.2).length+[901,902].length) * 4≤140737488355328∧(([]:List Int)++aa.1.2).length+[901,902].length≤maxLen) (Zw ((([]:List Int).length+aa.2.length) * 4≤140737488355328∧([]:List Int).length+aa.2.length≤maxLen) (Zw (((([]:List Int)++aa.2).length+[903,904].length) * 4≤140737488355328∧(([]:List Int)++aa.2).length+[903,904].length≤maxLen) (Zw ((0:Int)≤(aa.1.2.length:Int)∧(aa.1.2.length:Int)≤(((([]:List Int)++aa.1.2)++[901,902]).length:Int)) (Zw ((0:Int)≤(aa.2.length:Int)∧(aa.2.length:Int)≤(((([]:List Int)++aa.2)++[903,904]).length:Int)) (some ((aa.1.1,((Int.toNat (aa.1.2.length:Int)),(([]:List Int)++aa.1.2)++[901,902])),((Int.toNat (aa.2.length:Int)),(([]:List Int)++aa.2)++[903,904]))))))))
theorem Zyt {a1 a2:Nat} {a3 a4:Option Addr} {col:Zd} {w0:World} {aa:R0} {r:((Bool×R5)×R5)} (hm:Zha aa=some r) (ap:Sl (Za.int .u32) col w0 a3 a1 aa.1.2) (aq:Sl (Za.int .u32) col w0 a4 a2 aa.2):
    Calls Tryz.prog 29 #[(.agg #[.bool aa.1.1,.slice a3 aa.1.2.length a1,.slice a4 aa.2.length a2])] w0 (fun e w'=>∃ (col':Zd) (ra1:Option Addr) (rc2:Nat) (ra4:Option Addr) (rc5:Nat),e= .returned ((.agg #[.bool r.1.1,.slice ra1 ((r.1.2.2.take r.1.2.1).length) rc2,.slice ra4 ((r.2.2.take r.2.1).length) rc5]))∧Zg col w0 col' w'∧Sl (Za.int .u32) col' w' ra1 rc2 r.1.2.2∧Sl (Za.int .u32) col' w' ra4 rc5 r.2.2):=by
 refine Yf (m:=36) func29 rfl rfl rfl ?_;rw [Zha.eq_1] at hm;have ab:=St.start col w0;refine go ?_;refine Xi (col:=(Zi col)) 1 rfl ?_;intro bh bi a6 a7 ad;refine Xs (col:=a6) #[.bool false,.slice none (([]:List Int).length) 0,.slice none (([]:List Int).length) 0] 2 zeroValue47 ?_;intro bj bk bm a5 ar;refine go ?_;refine Xf ⟨_,_,rfl⟩ ?_;refine Xf (Wn ⟨_,_,rfl⟩) ?_;replace ad:=ad.gr a5;refine lW ((((ad.atN).part 0 2 _ rfl)).nth (q:=1) rfl) ?_;obtain ⟨a8,hm⟩:=Z4 hm;replace ap:=ap.keep (Zj.start col w0);replace ab:=(ab.grow a7).grow a5;refine W3 (c:=3) Zc.nil (ap.ks ab).srcC a8 ?_;intro bn bo bp a9 au av;refine go ?_;refine W1 (col:=a9) [901,902] 4 ?_;intro bq br bs ak ba;obtain ⟨bb,hm⟩:=Z4 hm;replace av:=av.gr ak;refine W3 av (ba.srcN (NB.int (k:=.u32))) bb ?_;intro ah ai bt bu aw ac;refine go ?_;refine Xf ⟨_,_,rfl⟩ ?_;replace ad:=((ad.kpp au).gr ak).kpp aw;refine lW ((ad.atN).nth (q:=2) rfl) ?_;obtain ⟨bc,hm⟩:=Z4 hm;replace aq:=aq.keep (Zj.start col w0);replace ab:=((ab.kpp au).grow ak).kpp aw;refine W3 (c:=5) Zc.nil (aq.ks ab).srcC bc ?_;intro bv bw bx bd al ax;refine go ?_;refine W1 (col:=bd) [903,904] 6 ?_;intro bz b0 b1 aj be;obtain ⟨bf,hm⟩:=Z4 hm;replace ax:=ax.gr aj;refine W3 ax (be.srcN (NB.int (k:=.u32))) bf ?_;intro am an b2 af ao ae;refine go ?_;refine Y6 (col:=af) [(0,1),(1,1),(2,0),(3,1),(4,1),(5,1),(6,0),(7,1),(8,1),(9,1),(10,1),(11,1),(12,0),(13,1),(14,1),(15,1),(16,2)] (by kernel_rfl) (by kernel_rfl)<|xF ⟨_,_,rfl⟩ ?_;refine xF (Wn ⟨_,_,rfl⟩) ?_;replace ad:=((ad.kpp al).gr aj).kpp ao;refine xW (fun _ hC=>((((ad.atN).part 0 2 _ rfl)).nth (q:=0) rfl).gr (hC.bl af)) ?_;refine xu rfl rfl (fun _=>U1 rfl) ?_;refine xF ⟨_,_,rfl⟩ ?_;refine xF (Wn ⟨_,_,rfl⟩) ?_;refine xW (fun _ hC=>((((ad.atN).part 0 2 _ rfl)).nth (q:=1) rfl).gr (hC.bl af)) ?_;refine xu rfl rfl (fun _=>Tw underlying43 rfl) ?_;obtain ⟨ay,hm⟩:=Z4 hm;replace ac:=((ac.kpp al).gr aj).kpp ao;refine xu (v:=.slice ah (Int.toNat (aa.1.2.length:Int)) ai) rfl rfl (fun _=>Ud underlying43 sizeOf79 rfl rfl ay.1 (by have:=ac.lecap;have:=ay.2;omega)) ?_;refine .ld (d:=28) (v:=(.slice ah ((((([]:List Int)++aa.1.2)++[901,902]).take (Int.toNat (aa.1.2.length:Int))).length) ai)) (congrArg (fun n=>Value.slice ah n ai) (List.length_take_of_le (show (Int.toNat (aa.1.2.length:Int))≤((([]:List Int)++aa.1.2)++[901,902]).length by have:=ay.2;omega)).symm) ?_
 refine xu (v:=(.agg #[.bool aa.1.1,(.slice ah ((((([]:List Int)++aa.1.2)++[901,902]).take (Int.toNat (aa.1.2.length:Int))).length) ai)])) rfl rfl (fun _=>Yt (l:=[_,_]) (qs:=[(0,1),(1,1)]) underlying45 zeroValue45 ⟨rfl,sizeOf4,rfl,sizeOf43,trivial⟩ rfl) ?_;refine xu rfl rfl (fun _=>U1 rfl) ?_;refine xF ⟨_,_,rfl⟩ ?_;refine xW (fun _ hC=>((ad.atN).nth (q:=2) rfl).gr (hC.bl af)) ?_;refine xu rfl rfl (fun _=>Tw underlying43 rfl) ?_;obtain ⟨az,hm⟩:=Z4 hm;refine xu (v:=.slice am (Int.toNat (aa.2.length:Int)) an) rfl rfl (fun _=>Ud underlying43 sizeOf79 rfl rfl az.1 (by have:=ae.lecap;have:=az.2;omega)) ?_;refine .ld (d:=34) (v:=(.slice am ((((([]:List Int)++aa.2)++[903,904]).take (Int.toNat (aa.2.length:Int))).length) an)) (congrArg (fun n=>Value.slice am n an) (List.length_take_of_le (show (Int.toNat (aa.2.length:Int))≤((([]:List Int)++aa.2)++[903,904]).length by have:=az.2;omega)).symm) ?_;refine xu (v:=(.agg #[.bool aa.1.1,(.slice ah ((((([]:List Int)++aa.1.2)++[901,902]).take (Int.toNat (aa.1.2.length:Int))).length) ai),(.slice am ((((([]:List Int)++aa.2)++[903,904]).take (Int.toNat (aa.2.length:Int))).length) an)])) rfl rfl (fun _=>Yt (l:=[_,_]) (qs:=[(0,2),(2,1)]) underlying47 zeroValue47 ⟨rfl,sizeOf45,rfl,sizeOf43,trivial⟩ rfl) ?_;refine xe rfl rfl ?_;intro b3 hC0;have hC:=hC0.bl af;replace ar:=((((((ar.kpp au).gr ak).kpp aw).kpp al).gr aj).kpp ao).gr hC;refine Z8 ar ?_;intro b4 a0 bg ag;refine Zk<|xk af<|Yz ?_;replace ab:=((((ab.kpp al).grow aj).kpp ao).grow hC).kp a0 bg;replace ac:=(ac.gr hC).kp a0;replace ae:=(ae.gr hC).kp a0;intro b5 hC;replace hC:=hC.bl af;refine Wc ?_;replace ac:=ac.gr hC;replace ac:=(ac).toSlF (Zm.int .u32);replace ae:=ae.gr hC;replace ae:=ae.froz 3 (by decide);replace ag:=ag.gr hC;replace ag:=ag.froz 3 (by decide);replace ab:=ab.grow hC;replace ab:=ab.froz 3 (by decide) (by decide);replace ac:=ac.froz 5;replace ae:=(ae).toSlF (Zm.int .u32);replace ag:=ag.froz 5 (by decide);replace ab:=ab.froz 5 (by decide) (by decide);cases hm;exact ⟨rfl,_,ra ag.atN,_,_,_,_,_,rfl,ab.fin (cm []),ab.fs ac,ab.fs ae⟩
theorem Zz7:Ww Tryz.prog 9 1 16:=⟨Tryz.t9,_,rfl,rfl,rfl,rfl,rfl⟩
theorem Zzz:Ww Tryz.prog 22 1 24:=⟨Tryz.t22,_,rfl,rfl,rfl,rfl,rfl⟩
theorem Zz3:Ww Tryz.prog 40 1 24:=⟨Tryz.t40,_,rfl,rfl,rfl,rfl,rfl⟩
theorem Zz5:Ww Tryz.prog 56 1 24:=⟨Tryz.t56,_,rfl,rfl,rfl,rfl,rfl⟩
def Zeq (N:Nat) (ah:R1) (ai:ByteArray) (aj:List ByteArray) (ak:List R6) (al:List R5) (ad:List R8) (ae:Int) (kk_L3:(ByteArray→Ra→(List R6)→(List R5)→(List R8)→Int→Option R3)):Nat→Int→(List ((Bool×R5)×R5))→Option R3
  | 0,_,_=>none
  | am+1,af,ab=>(Zn ah.2.2.2.2 ae).bind fun ac=>if (decide (af<(ac.length:Int)))=true then ((Zn ac af).bind fun ag=>(Zha ((ag.1.1,ag.1.2),ag.2)).bind fun aa=>Zw ((ab.length+[((aa.1.1,(aa.1.2.1,aa.1.2.2)),(aa.2.1,aa.2.2))].length) * 56≤140737488355328∧ab.length+[((aa.1.1,(aa.1.2.1,aa.1.2.2)),(aa.2.1,aa.2.2))].length≤maxLen) ((Zeq N ah ai aj ak al ad ae kk_L3 am) (i64.wrap (af+1)) (ab++[((aa.1.1,(aa.1.2.1,aa.1.2.2)),(aa.2.1,aa.2.2))]))) else (Zw ((ab.length+[((false,(0,([]:List Int))),([97].length,[97])),((false,(0,([]:List Int))),([98].length,[98]))].length) * 56≤140737488355328∧ab.length+[((false,(0,([]:List Int))),([97].length,[97])),((false,(0,([]:List Int))),([98].length,[98]))].length≤maxLen) (Zw ((0:Int)≤(ac.length:Int)∧(ac.length:Int)≤((ab++[((false,(0,([]:List Int))),([97].length,[97])),((false,(0,([]:List Int))),([98].length,[98]))]).length:Int)) (Zw ((ad.length+[((Int.toNat (ac.length:Int)),ab++[((false,(0,([]:List Int))),([97].length,[97])),((false,(0,([]:List Int))),([98].length,[98]))])].length) * 24≤140737488355328∧ad.length+[((Int.toNat (ac.length:Int)),ab++[((false,(0,([]:List Int))),([97].length,[97])),((false,(0,([]:List Int))),([98].length,[98]))])].length≤maxLen) (kk_L3 ai aj ak al (ad++[((Int.toNat (ac.length:Int)),ab++[((false,(0,([]:List Int))),([97].length,[97])),((false,(0,([]:List Int))),([98].length,[98]))])]) (i64.wrap (ae+1))))))
termination_by structural x=>x
def Zci (N:Nat) (aa:R1):Nat→ByteArray→Ra→(List R6)→(List R5)→(List R8)→Int→Option R3
  | 0,_,_,_,_,_,_=>none
  | ah+1,ab,ac,ad,ae,af,ag=>if (decide (ag<(aa.2.2.2.2.length:Int)))=true then (Zeq N aa ab ac ad ae af ag (Zci N aa ah) N 0 ([]:List ((Bool×R5)×R5))) else (some (ab,((Int.toNat (aa.2.1.length:Int)),ac),ad,ae,af))
termination_by structural x=>x
def Zep (N:Nat) (ab:R1):Nat→ByteArray→Ra→(List R6)→(List R5)→(List R8)→Int→Option R3
  | 0,_,_,_,_,_,_=>none
  | ai+1,ae,af,ag,ac,ah,ad=>if (decide (ad<(ab.2.2.2.1.length:Int)))=true then ((Zn ab.2.2.2.1 ad).bind fun aa=>Zw ((([]:List Int).length+aa.length) * 8≤140737488355328∧([]:List Int).length+aa.length≤maxLen) (Zw (((([]:List Int)++aa).length+[(-95),(-96)].length) * 8≤140737488355328∧(([]:List Int)++aa).length+[(-95),(-96)].length≤maxLen) (Zw ((0:Int)≤(aa.length:Int)∧(aa.length:Int)≤(((([]:List Int)++aa)++[(-95),(-96)]).length:Int)) (Zw ((ac.length+[((Int.toNat (aa.length:Int)),(([]:List Int)++aa)++[(-95),(-96)])].length) * 24≤140737488355328∧ac.length+[((Int.toNat (aa.length:Int)),(([]:List Int)++aa)++[(-95),(-96)])].length≤maxLen) ((Zep N ab ai) ae af ag (ac++[((Int.toNat (aa.length:Int)),(([]:List Int)++aa)++[(-95),(-96)])]) ah (i64.wrap (ad+1))))))) else (Zci N ab N ae af ag ac ah 0)
termination_by structural x=>x
def Zeo (N:Nat) (ab:R1):Nat→ByteArray→Ra→(List R6)→(List R5)→(List R8)→Int→Option R3
  | 0,_,_,_,_,_,_=>none
  | ai+1,ae,af,ac,ag,ah,ad=>if (decide (ad<(ab.2.2.1.length:Int)))=true then ((Zn ab.2.2.1 ad).bind fun aa=>Zw ((([]:List ByteArray).length+aa.length) * 16≤140737488355328∧([]:List ByteArray).length+aa.length≤maxLen) (Zw (((([]:List ByteArray)++aa).length+([⟨#[35,51]⟩,⟨#[35,52]⟩]:List ByteArray).length) * 16≤140737488355328∧(([]:List ByteArray)++aa).length+([⟨#[35,51]⟩,⟨#[35,52]⟩]:List ByteArray).length≤maxLen) (Zw ((0:Int)≤(aa.length:Int)∧(aa.length:Int)≤(((([]:List ByteArray)++aa)++([⟨#[35,51]⟩,⟨#[35,52]⟩]:List ByteArray)).length:Int)) (Zw ((ac.length+([((Int.toNat (aa.length:Int)),(([]:List ByteArray)++aa)++([⟨#[35,51]⟩,⟨#[35,52]⟩]:List ByteArray))]:List R6).length) * 24≤140737488355328∧ac.length+([((Int.toNat (aa.length:Int)),(([]:List ByteArray)++aa)++([⟨#[35,51]⟩,⟨#[35,52]⟩]:List ByteArray))]:List R6).length≤maxLen) ((Zeo N ab ai) ae af (ac++([((Int.toNat (aa.length:Int)),(([]:List ByteArray)++aa)++([⟨#[35,51]⟩,⟨#[35,52]⟩]:List ByteArray))]:List R6)) ag ah (i64.wrap (ad+1))))))) else (Zep N ab N ae af ac ag ah 0)
termination_by structural x=>x
def Zhc (N:Nat) (aa:R1):Option R3:=
  Zw ((([]:List ByteArray).length+aa.2.1.length) * 16≤140737488355328∧([]:List ByteArray).length+aa.2.1.length≤maxLen) (Zw (((([]:List ByteArray)++aa.2.1).length+([⟨#[35,49]⟩,⟨#[35,50]⟩]:List ByteArray).length) * 16≤140737488355328∧(([]:List ByteArray)++aa.2.1).length+([⟨#[35,49]⟩,⟨#[35,50]⟩]:List ByteArray).length≤maxLen) (Zw ((0:Int)≤(aa.2.1.length:Int)∧(aa.2.1.length:Int)≤(((([]:List ByteArray)++aa.2.1)++([⟨#[35,49]⟩,⟨#[35,50]⟩]:List ByteArray)).length:Int)) (Zeo N aa N aa.1 ((([]:List ByteArray)++aa.2.1)++([⟨#[35,49]⟩,⟨#[35,50]⟩]:List ByteArray)) ([]:List R6) ([]:List R5) ([]:List R8) 0)))
theorem Zyv {N b9 ca cb cc:Nat} {cd ce cf cg:Option Addr} {col:Zd} {w0:World} {ac:R1} {r:R3} (hm:Zhc N ac=some r) (ei:Sl Za.str col w0 cd b9 ac.2.1) (ch:Sl (Za.slice Za.str) col w0 ce ca ac.2.2.1) (ci:Sl (Za.slice (Za.int .i64)) col w0 cf cb ac.2.2.2.1) (bj:Sl (Za.slice (Za.pair (Za.pair Za.bool (Za.slice (Za.int .u32))) (Za.slice (Za.int .u32)))) col w0 cg cc ac.2.2.2.2):
    Calls Tryz.prog 15 #[(.agg #[.string ac.1,.slice cd ac.2.1.length b9,.slice ce ac.2.2.1.length ca,.slice cf ac.2.2.2.1.length cb,.slice cg ac.2.2.2.2.length cc])] w0 (fun e w'=>∃ (col':Zd) (ra1:Option Addr) (rc2:Nat) (ra4:Option Addr) (rc5:Nat) (ra7:Option Addr) (rc8:Nat) (ra10:Option Addr) (rc11:Nat),e= .returned ((.agg #[.string r.1,.slice ra1 ((r.2.1.2.take r.2.1.1).length) rc2,.slice ra4 r.2.2.1.length rc5,.slice ra7 r.2.2.2.1.length rc8,.slice ra10 r.2.2.2.2.length rc11]))∧Zg col w0 col' w'∧Sl Za.str col' w' ra1 rc2 r.2.1.2∧Sl (Za.view Za.str) col' w' ra4 rc5 r.2.2.1∧Sl (Za.view (Za.int .i64)) col' w' ra7 rc8 r.2.2.2.1∧Sl (Za.view (Za.pair (Za.pair Za.bool (Za.view (Za.int .u32))) (Za.view (Za.int .u32)))) col' w' ra10 rc11 r.2.2.2.2):=by
 refine Yf (m:=142) func15 rfl rfl rfl ?_;rw [Zhc.eq_1] at hm;have aa:=St.start col w0;refine go ?_;refine Xi (col:=(Zi col)) 1 rfl ?_;intro dt ig f6 f7 ab;refine Xs (col:=f6) #[.string (⟨#[]⟩),.slice none (([]:List ByteArray).length) 0,.slice none (([]:List R6).length) 0,.slice none (([]:List R5).length) 0,(.slice none (([]:List R8).length) 0)] 2 zeroValue27 ?_;intro du ih f8 fk ae;refine go ?_;refine Xf ⟨_,_,rfl⟩ ?_;replace ab:=ab.gr fk;refine lW ((ab.atN).nth (q:=0) rfl)<|lV (.agg #[.string ac.1,.slice none (([]:List ByteArray).length) 0,.slice none (([]:List R6).length) 0,.slice none (([]:List R5).length) 0,(.slice none (([]:List R8).length) 0)]) (Yt (l:=[_,_,_,_,_]) (qs:=[(0,1),(1,1),(2,1),(3,1),(4,1)]) underlying27 zeroValue27 ⟨rfl,sizeOf9,rfl,sizeOf22,rfl,sizeOf23,rfl,sizeOf24,rfl,sizeOf25,trivial⟩ rfl)<|Xs (col:=f8) #[.string (⟨#[]⟩),.slice none (([]:List ByteArray).length) 0,.slice none (([]:List R6).length) 0,.slice none (([]:List R5).length) 0,(.slice none (([]:List R8).length) 0)] 3 zeroValue27 ?_;intro ax ii ij ej f9;refine Z8 f9 ?_;intro ik ek ga dv;refine go ?_;refine Xc dv<|Xf ⟨_,_,rfl⟩ ?_;replace ab:=(ab.gr ej).kp ek;refine lW ((ab.atN).nth (q:=1) rfl) ?_;obtain ⟨gb,hm⟩:=Z4 hm;replace ei:=ei.keep (Zj.start col w0);replace aa:=(((aa.grow f7).grow fk).grow ej).kp ek ga;refine W3 (c:=4) Zc.nil (ei.ks aa).srcC gb ?_;intro fl fm il fn dw el;refine Xf ⟨_,_,rfl⟩ ?_;replace dv:=dv.kpp dw;refine Zde (off:=1) (v:=(.slice fl ((([]:List ByteArray)++ac.2.1).length) fm)) dv sizeOf22 rfl rfl (by intro u hu;simp only [Value.cells,List.mem_cons,List.not_mem_nil,or_false] at hu;subst hu;rfl) rfl rfl ?_;intro gc dx gd cj;replace cj:Zl 27 3 fn gc ax #[.string ac.1,.slice fl ((([]:List ByteArray)++ac.2.1).length) fm,.slice none (([]:List R6).length) 0,.slice none (([]:List R5).length) 0,(.slice none (([]:List R8).length) 0)]:=cj;refine go ?_;refine Xc cj<|Zr4 (col:=fn) ([⟨#[35,49]⟩,⟨#[35,50]⟩]:List ByteArray) 5 ?_;intro im ge gf c5 gg;obtain ⟨fp,hm⟩:=Z4 hm;replace el:=(el.kp dx).gr c5
 refine Zdf (col:=gf) (w:=ge) (r:=Za.str) (c:=4) (c2:=4) (el.ex) (gg.srcN NB.str) rfl underlying22 Zz7 rfl rfl rfl fp.1 fp.2 (by decide) ?_;intro bw bx io fq dy em;refine Xf ⟨_,_,rfl⟩ ?_;replace cj:=(cj.gr c5).kpp dy;refine Zde (off:=1) (v:=(.slice bw (((([]:List ByteArray)++ac.2.1)++([⟨#[35,49]⟩,⟨#[35,50]⟩]:List ByteArray)).length) bx)) cj sizeOf22 rfl rfl (by intro u hu;simp only [Value.cells,List.mem_cons,List.not_mem_nil,or_false] at hu;subst hu;rfl) rfl rfl ?_;intro gh dz gi d0;replace d0:Zl 27 3 fq gh ax #[.string ac.1,(.slice bw (((([]:List ByteArray)++ac.2.1)++([⟨#[35,49]⟩,⟨#[35,50]⟩]:List ByteArray)).length) bx),.slice none (([]:List R6).length) 0,.slice none (([]:List R5).length) 0,(.slice none (([]:List R8).length) 0)]:=d0;replace em:=em.kp dz;have d1:=em.new;refine go ?_;refine Xc d0<|Xf ⟨_,_,rfl⟩ ?_;replace ab:=((((ab.kpp dw).kp dx).gr c5).kpp dy).kp dz;refine lW ((ab.atN).nth (q:=1) rfl)<|go ?_;obtain ⟨en,hm⟩:=Z4 hm;refine lv (v:=.slice bw (Int.toNat (ac.2.1.length:Int)) bx) rfl rfl (Ud underlying22 sizeOf9 rfl rfl en.1 (by have:=d1.lecap;have:=en.2;omega))<|.ld (d:=30) (v:=(.slice bw ((((([]:List ByteArray)++ac.2.1)++([⟨#[35,49]⟩,⟨#[35,50]⟩]:List ByteArray)).take (Int.toNat (ac.2.1.length:Int))).length) bx)) (congrArg (fun n=>Value.slice bw n bx) (List.length_take_of_le (show (Int.toNat (ac.2.1.length:Int))≤((([]:List ByteArray)++ac.2.1)++([⟨#[35,49]⟩,⟨#[35,50]⟩]:List ByteArray)).length by have:=en.2;omega)).symm) ?_;refine Xf ⟨_,_,rfl⟩ ?_;refine Zde (off:=1) (v:=(.slice bw ((((([]:List ByteArray)++ac.2.1)++([⟨#[35,49]⟩,⟨#[35,50]⟩]:List ByteArray)).take (Int.toNat (ac.2.1.length:Int))).length) bx)) d0 sizeOf22 rfl rfl (by intro u hu;simp only [Value.cells,List.mem_cons,List.not_mem_nil,or_false] at hu;subst hu;rfl) rfl rfl ?_;intro gj d2 gk ad;replace ad:Zl 27 3 fq gj ax #[.string ac.1,(.slice bw ((((([]:List ByteArray)++ac.2.1)++([⟨#[35,49]⟩,⟨#[35,50]⟩]:List ByteArray)).take (Int.toNat (ac.2.1.length:Int))).length) bx),.slice none (([]:List R6).length) 0,.slice none (([]:List R5).length) 0,(.slice none (([]:List R8).length) 0)]:=ad;refine go ?_;replace ae:=(((((((ae.gr ej).kp ek).kpp dw).kp dx).gr c5).kpp dy).kp dz).kp d2;replace aa:=(((((aa.kpp dw).kp dx gd).grow c5).kpp dy).kp dz gi).kp d2 gk
 replace d1:=d1.kp d2;replace ab:=ab.kp d2;refine Zy [1,2,3,1000000] (fun n f a1=>∃ a2 d3 d4 d5 c6 eo ep ck d6 d7 c7 d8 d9 c8 eq cl,cl=n∧Zeo N ac cl d3 c6 ck c7 c8 eq=some r∧St w0 (Zi col) a2 a1∧Zl 27 1 a2 a1 dt #[.string ac.1,.slice cd ac.2.1.length b9,.slice ce ac.2.2.1.length ca,.slice cf ac.2.2.2.1.length cb,.slice cg ac.2.2.2.2.length cc]∧Zl 27 2 a2 a1 du #[.string (⟨#[]⟩),.slice none (([]:List ByteArray).length) 0,.slice none (([]:List R6).length) 0,.slice none (([]:List R5).length) 0,(.slice none (([]:List R8).length) 0)]∧Zc Za.str 9 4 a2 a1 d4 d5 c6∧Zc (Za.view Za.str) 22 6 a2 a1 eo ep ck∧Zc (Za.view (Za.int .i64)) 40 7 a2 a1 d6 d7 c7∧Zc (Za.view (Za.pair (Za.pair Za.bool (Za.view (Za.int .u32))) (Za.view (Za.int .u32)))) 56 8 a2 a1 d8 d9 c8∧Zl 27 3 a2 a1 ax #[.string d3,(.slice d4 ((c6.take (Int.toNat (ac.2.1.length:Int))).length) d5),.slice eo ck.length ep,.slice d6 c7.length d7,.slice d8 c8.length d9]∧[4].map f=[.int .i64 eq]) N ⟨_,_,_,_,_,none,0,_,none,0,_,none,0,_,0,_,rfl,hm,aa,ab,ae,d1,Zc.nil,Zc.nil,Zc.nil,ad,rfl⟩ ?_;clear hm;intro n f a1 hI;obtain ⟨a2,d3,d4,d5,c6,eo,ep,ck,d6,d7,c7,d8,d9,c8,eq,cl,hn,hm,aa,ab,ae,am,bk,an,ao,ad,hs⟩:=hI;subst hn;refine .lL [4] hs ?_;replace ch:=ch.keep (Zj.start col w0);replace ci:=ci.keep (Zj.start col w0);replace bj:=bj.keep (Zj.start col w0)
 cases cl with
 | zero=>rw [Zeo.eq_1] at hm;cases hm
 | succ cl=>
  rw [Zeo.eq_2] at hm;refine go ?_;refine Xc ab ?_;refine go ?_;refine Zp hm (fun hb hm=>go ?_) fun hb hm=>go ?_
  ·refine Xc ab<|X3 rfl ?_;obtain ⟨ak,bz,hm⟩:=bZ hm;refine lI bz ((ch.ks aa).addr bz) ?_;obtain ⟨_,gl,gm⟩:=(ch.ks aa).atN bz;obtain ⟨⟨ip,iq,rfl,gp⟩,_⟩:=gl;refine lW gm.one ?_;obtain ⟨gs,hm⟩:=Z4 hm;refine W3 (c:=9) Zc.nil gp.srcC gs ?_;intro ir it iu gt bm er;refine go ?_;refine Zr4 (col:=gt) ([⟨#[35,51]⟩,⟨#[35,52]⟩]:List ByteArray) 10 ?_;intro iv iw ix a3 gu;obtain ⟨gv,hm⟩:=Z4 hm;replace er:=er.gr a3;refine W3 er (gu.srcN NB.str) gv ?_;intro c9 da iy cn bn co;refine go ?_;refine Y6 (col:=cn) [(0,1),(1,0),(2,1),(3,1),(4,0),(5,1),(6,1),(7,0),(8,1),(9,1),(10,3),(11,2),(12,1),(13,2)] (by kernel_rfl) (by kernel_rfl)<|xF ⟨_,_,rfl⟩ ?_;replace ad:=((ad.kpp bm).gr a3).kpp bn;refine xW (fun _ hC=>((ad.atN).nth (q:=2) rfl).gr (hC.bl cn)) ?_;refine xu rfl rfl (fun _=>U1 rfl) ?_;refine xF ⟨_,_,rfl⟩ ?_;replace ab:=((ab.kpp bm).gr a3).kpp bn;refine xW (fun _ hC=>((ab.atN).nth (q:=2) rfl).gr (hC.bl cn)) ?_;refine xu rfl rfl (fun _=>Vj rfl) ?_;replace aa:=((aa.kpp bm).grow a3).kpp bn;refine xu rfl rfl (fun _=>Wr underlying23 sizeOf22 rfl rfl (X0 bz).1 (X0 bz).2.1 ((ch.ks aa).addr bz)) ?_;obtain ⟨_,gw,gx⟩:=(ch.ks aa).atN bz;obtain ⟨⟨iz,i0,rfl,i1⟩,_⟩:=gw;refine xW (fun _ hC=>gx.one.gr (hC.bl cn)) ?_;refine xu rfl rfl (fun _=>Tw underlying22 rfl) ?_;obtain ⟨es,hm⟩:=Z4 hm;refine xu (v:=.slice c9 (Int.toNat (ak.length:Int)) da) rfl rfl (fun _=>Ud underlying22 sizeOf9 rfl rfl es.1 (by have:=co.lecap;have:=es.2;omega)) ?_;refine .ld (d:=58) (v:=(.slice c9 ((((([]:List ByteArray)++ak)++([⟨#[35,51]⟩,⟨#[35,52]⟩]:List ByteArray)).take (Int.toNat (ak.length:Int))).length) da)) (congrArg (fun n=>Value.slice c9 n da) (List.length_take_of_le (show (Int.toNat (ak.length:Int))≤((([]:List ByteArray)++ak)++([⟨#[35,51]⟩,⟨#[35,52]⟩]:List ByteArray)).length by have:=es.2;omega)).symm) ?_;refine xe rfl rfl ?_;intro i2 hC0;have hC:=hC0.bl cn;replace am:=(((am.kpp bm).gr a3).kpp bn).gr hC;replace am:=am.froz 9 (by decide);replace bk:=(((bk.kpp bm).gr a3).kpp bn).gr hC;replace bk:=bk.froz 9 (by decide);replace an:=(((an.kpp bm).gr a3).kpp bn).gr hC;replace an:=an.froz 9 (by decide);replace ao:=(((ao.kpp bm).gr a3).kpp bn).gr hC;replace ao:=ao.froz 9 (by decide);replace co:=co.gr hC;replace co:=(co).toSlF Zm.str;replace ab:=ab.gr hC;replace ab:=ab.froz 9 (by decide);replace ae:=(((ae.kpp bm).gr a3).kpp bn).gr hC
   replace ae:=ae.froz 9 (by decide);replace ad:=ad.gr hC;replace ad:=ad.froz 9 (by decide);replace aa:=aa.grow hC;replace aa:=aa.froz 9 (by decide) (by decide);refine Zbm (col:=(Xk 9 cn)) (r:=(Za.view Za.str)) (xs:=([((Int.toNat (ak.length:Int)),(([]:List ByteArray)++ak)++([⟨#[35,51]⟩,⟨#[35,52]⟩]:List ByteArray))]:List R6)) [(.slice c9 ((((([]:List ByteArray)++ak)++([⟨#[35,51]⟩,⟨#[35,52]⟩]:List ByteArray)).take (Int.toNat (ak.length:Int))).length) da)] 11 (V9.ofF (Rows.consF (r:=(Za.view Za.str)) (x:=((Int.toNat (ak.length:Int)),(([]:List ByteArray)++ak)++([⟨#[35,51]⟩,⟨#[35,52]⟩]:List ByteArray))) (cs:=[(.slice c9 ((((([]:List ByteArray)++ak)++([⟨#[35,51]⟩,⟨#[35,52]⟩]:List ByteArray)).take (Int.toNat (ak.length:Int))).length) da)]) (Zj4 co) Rows.nil0)) ?_;intro i3 i4 et a4 eu;refine Zk<|Xm et hC0 a4<|xe rfl rfl ?_;intro gy hC0;have hC:=hC0.bl et;obtain ⟨fr,hm⟩:=Z4 hm;replace bk:=(bk.gr a4).gr hC;replace eu:=eu.gr hC;refine Zdf (col:=et) (w:=gy) (r:=(Za.view Za.str)) (c:=6) (c2:=6) (bk.ex) (eu.srcN NB.view) rfl underlying23 Zzz rfl rfl rfl fr.1 fr.2 (by decide) ?_;intro ft fu i5 db b0 ew;refine Zk<|xk db<|xF ⟨_,_,rfl⟩ ?_;refine xe rfl rfl ?_;intro i6 hC0;replace am:=((am.gr a4).gr hC).kpp b0;replace an:=((an.gr a4).gr hC).kpp b0;replace ao:=((ao.gr a4).gr hC).kpp b0;replace ab:=((ab.gr a4).gr hC).kpp b0;replace ae:=((ae.gr a4).gr hC).kpp b0;replace ad:=((ad.gr a4).gr hC).kpp b0;replace aa:=((aa.grow a4).grow hC).kpp b0;have hC:=hC0.bl db;replace ad:=ad.gr hC;refine Zde (off:=2) (v:=(.slice ft ((ck++([((Int.toNat (ak.length:Int)),(([]:List ByteArray)++ak)++([⟨#[35,51]⟩,⟨#[35,52]⟩]:List ByteArray))]:List R6)).length) fu)) ad sizeOf23 rfl rfl (by intro u hu;simp only [Value.cells,List.mem_cons,List.not_mem_nil,or_false] at hu;subst hu;rfl) rfl rfl ?_;intro gz b1 g0 dc;replace dc:Zl 27 3 db gz ax #[.string d3,(.slice d4 ((c6.take (Int.toNat (ac.2.1.length:Int))).length) d5),(.slice ft ((ck++([((Int.toNat (ak.length:Int)),(([]:List ByteArray)++ak)++([⟨#[35,51]⟩,⟨#[35,52]⟩]:List ByteArray))]:List R6)).length) fu),.slice d6 c7.length d7,.slice d8 c8.length d9]:=dc;refine Zk<|xk db ?_;replace ew:=(ew.gr hC).kp b1;have ey:=ew.new;refine Yz ?_;replace am:=(am.gr hC).kp b1;replace an:=(an.gr hC).kp b1;replace ao:=(ao.gr hC).kp b1
   replace ab:=(ab.gr hC).kp b1;replace ae:=(ae.gr hC).kp b1;replace aa:=(aa.grow hC).kp b1 g0;intro i7 hC;replace hC:=hC.bl db;refine go ?_;replace am:=am.gr hC;replace ey:=ey.gr hC;replace an:=an.gr hC;replace ao:=ao.gr hC;replace ab:=ab.gr hC;replace ae:=ae.gr hC;replace dc:=dc.gr hC;replace aa:=aa.grow hC;exact ⟨cl,by omega,rfl,⟨_,_,_,_,_,_,_,_,_,_,_,_,_,_,_,_,rfl,hm,aa,ab,ae,am,ey,an,ao,dc,rfl⟩⟩
  refine Zy [1,2,3,1000000] (fun n f a5=>∃ a6 ea eb ec dd ed ee de ez e0 cp ef eg df e1 cq,cq=n∧Zep N ac cq ea dd de cp df e1=some r∧St w0 (Zi col) a6 a5∧Zl 27 1 a6 a5 dt #[.string ac.1,.slice cd ac.2.1.length b9,.slice ce ac.2.2.1.length ca,.slice cf ac.2.2.2.1.length cb,.slice cg ac.2.2.2.2.length cc]∧Zl 27 2 a6 a5 du #[.string (⟨#[]⟩),.slice none (([]:List ByteArray).length) 0,.slice none (([]:List R6).length) 0,.slice none (([]:List R5).length) 0,(.slice none (([]:List R8).length) 0)]∧Zc Za.str 9 4 a6 a5 eb ec dd∧Zc (Za.view Za.str) 22 6 a6 a5 ed ee de∧Zc (Za.view (Za.int .i64)) 40 7 a6 a5 ez e0 cp∧Zc (Za.view (Za.pair (Za.pair Za.bool (Za.view (Za.int .u32))) (Za.view (Za.int .u32)))) 56 8 a6 a5 ef eg df∧Zl 27 3 a6 a5 ax #[.string ea,(.slice eb ((dd.take (Int.toNat (ac.2.1.length:Int))).length) ec),.slice ed de.length ee,.slice ez cp.length e0,.slice ef df.length eg]∧[6].map f=[.int .i64 e1]) N ⟨_,_,_,_,_,_,_,_,_,_,_,_,_,_,0,_,rfl,hm,aa,ab,ae,am,bk,an,ao,ad,rfl⟩ ?_;clear hm;intro n f a5 hI;obtain ⟨a6,ea,eb,ec,dd,ed,ee,de,ez,e0,cp,ef,eg,df,e1,cq,hn,hm,aa,ab,ae,ap,aq,bo,ar,ad,hs⟩:=hI;subst hn;refine .lL [6] hs ?_
  cases cq with
  | zero=>rw [Zep.eq_1] at hm;cases hm
  | succ cq=>
   rw [Zep.eq_2] at hm;refine go ?_;refine Xc ab ?_;refine go ?_;refine Zp hm (fun hb hm=>go ?_) fun hb hm=>go ?_
   ·refine Xc ab<|X3 rfl ?_;obtain ⟨al,b2,hm⟩:=bZ hm;refine lI b2 ((ci.ks aa).addr b2) ?_;obtain ⟨_,g1,g2⟩:=(ci.ks aa).atN b2;obtain ⟨⟨i8,i9,rfl,g3⟩,_⟩:=g1;refine lW g2.one ?_;obtain ⟨g4,hm⟩:=Z4 hm;refine W3 (c:=12) Zc.nil g3.srcC g4 ?_;intro ja jb jc g5 bp e2;refine go ?_;refine W1 (col:=g5) [(-95),(-96)] 13 ?_;intro jd je jf a7 g6;obtain ⟨g7,hm⟩:=Z4 hm;replace e2:=e2.gr a7;refine W3 e2 (g6.srcN (NB.int (k:=.i64))) g7 ?_;intro dg dh jg cr bq ct;refine go ?_;refine Y6 (col:=cr) [(0,1),(1,0),(2,1),(3,1),(4,0),(5,1),(6,1),(7,0),(8,1),(9,1),(10,3),(11,2),(12,1),(13,2)] (by kernel_rfl) (by kernel_rfl)<|xF ⟨_,_,rfl⟩ ?_;replace ad:=((ad.kpp bp).gr a7).kpp bq;refine xW (fun _ hC=>((ad.atN).nth (q:=3) rfl).gr (hC.bl cr)) ?_;refine xu rfl rfl (fun _=>U1 rfl) ?_;refine xF ⟨_,_,rfl⟩ ?_;replace ab:=((ab.kpp bp).gr a7).kpp bq;refine xW (fun _ hC=>((ab.atN).nth (q:=3) rfl).gr (hC.bl cr)) ?_;refine xu rfl rfl (fun _=>Vj rfl) ?_;replace aa:=((aa.kpp bp).grow a7).kpp bq;refine xu rfl rfl (fun _=>Wr underlying24 sizeOf40 rfl rfl (X0 b2).1 (X0 b2).2.1 ((ci.ks aa).addr b2)) ?_;obtain ⟨_,g8,g9⟩:=(ci.ks aa).atN b2;obtain ⟨⟨jh,ji,rfl,jj⟩,_⟩:=g8;refine xW (fun _ hC=>g9.one.gr (hC.bl cr)) ?_;refine xu rfl rfl (fun _=>Tw underlying40 rfl) ?_;obtain ⟨e3,hm⟩:=Z4 hm;refine xu (v:=.slice dg (Int.toNat (al.length:Int)) dh) rfl rfl (fun _=>Ud underlying40 sizeOf3 rfl rfl e3.1 (by have:=ct.lecap;have:=e3.2;omega)) ?_;refine .ld (d:=88) (v:=(.slice dg ((((([]:List Int)++al)++[(-95),(-96)]).take (Int.toNat (al.length:Int))).length) dh)) (congrArg (fun n=>Value.slice dg n dh) (List.length_take_of_le (show (Int.toNat (al.length:Int))≤((([]:List Int)++al)++[(-95),(-96)]).length by have:=e3.2;omega)).symm) ?_;refine xe rfl rfl ?_;intro jk hC0;have hC:=hC0.bl cr;replace ap:=(((ap.kpp bp).gr a7).kpp bq).gr hC;replace ap:=ap.froz 12 (by decide);replace aq:=(((aq.kpp bp).gr a7).kpp bq).gr hC;replace aq:=aq.froz 12 (by decide);replace bo:=(((bo.kpp bp).gr a7).kpp bq).gr hC;replace bo:=bo.froz 12 (by decide);replace ar:=(((ar.kpp bp).gr a7).kpp bq).gr hC;replace ar:=ar.froz 12 (by decide);replace ct:=ct.gr hC;replace ct:=(ct).toSlF (Zm.int .i64);replace ab:=ab.gr hC;replace ab:=ab.froz 12 (by decide);replace ae:=(((ae.kpp bp).gr a7).kpp bq).gr hC
    replace ae:=ae.froz 12 (by decide);replace ad:=ad.gr hC;replace ad:=ad.froz 12 (by decide);replace aa:=aa.grow hC;replace aa:=aa.froz 12 (by decide) (by decide);refine Zbm (col:=(Xk 12 cr)) (r:=(Za.view (Za.int .i64))) (xs:=[((Int.toNat (al.length:Int)),(([]:List Int)++al)++[(-95),(-96)])]) [(.slice dg ((((([]:List Int)++al)++[(-95),(-96)]).take (Int.toNat (al.length:Int))).length) dh)] 14 (V9.ofF (Rows.consF (r:=(Za.view (Za.int .i64))) (x:=((Int.toNat (al.length:Int)),(([]:List Int)++al)++[(-95),(-96)])) (cs:=[(.slice dg ((((([]:List Int)++al)++[(-95),(-96)]).take (Int.toNat (al.length:Int))).length) dh)]) (Zj4 ct) Rows.nil0)) ?_;intro jl jm e4 a8 e5;refine Zk<|Xm e4 hC0 a8<|xe rfl rfl ?_;intro ha hC0;have hC:=hC0.bl e4;obtain ⟨fv,hm⟩:=Z4 hm;replace bo:=(bo.gr a8).gr hC;replace e5:=e5.gr hC;refine Zdf (col:=e4) (w:=ha) (r:=(Za.view (Za.int .i64))) (c:=7) (c2:=7) (bo.ex) (e5.srcN NB.view) rfl underlying24 Zz3 rfl rfl rfl fv.1 fv.2 (by decide) ?_;intro fw fx jn di b3 e6;refine Zk<|xk di<|xF ⟨_,_,rfl⟩ ?_;refine xe rfl rfl ?_;intro jo hC0;replace ap:=((ap.gr a8).gr hC).kpp b3;replace aq:=((aq.gr a8).gr hC).kpp b3;replace ar:=((ar.gr a8).gr hC).kpp b3;replace ab:=((ab.gr a8).gr hC).kpp b3;replace ae:=((ae.gr a8).gr hC).kpp b3;replace ad:=((ad.gr a8).gr hC).kpp b3;replace aa:=((aa.grow a8).grow hC).kpp b3;have hC:=hC0.bl di;replace ad:=ad.gr hC;refine Zde (off:=3) (v:=(.slice fw ((cp++[((Int.toNat (al.length:Int)),(([]:List Int)++al)++[(-95),(-96)])]).length) fx)) ad sizeOf24 rfl rfl (by intro u hu;simp only [Value.cells,List.mem_cons,List.not_mem_nil,or_false] at hu;subst hu;rfl) rfl rfl ?_;intro hc b4 hd dj;replace dj:Zl 27 3 di hc ax #[.string ea,(.slice eb ((dd.take (Int.toNat (ac.2.1.length:Int))).length) ec),.slice ed de.length ee,(.slice fw ((cp++[((Int.toNat (al.length:Int)),(([]:List Int)++al)++[(-95),(-96)])]).length) fx),.slice ef df.length eg]:=dj;refine Zk<|xk di ?_;replace e6:=(e6.gr hC).kp b4;have e7:=e6.new;refine Yz ?_;replace ap:=(ap.gr hC).kp b4;replace aq:=(aq.gr hC).kp b4;replace ar:=(ar.gr hC).kp b4;replace ab:=(ab.gr hC).kp b4;replace ae:=(ae.gr hC).kp b4;replace aa:=(aa.grow hC).kp b4 hd;intro jp hC;replace hC:=hC.bl di;refine go ?_;replace ap:=ap.gr hC;replace aq:=aq.gr hC;replace e7:=e7.gr hC
    replace ar:=ar.gr hC;replace ab:=ab.gr hC;replace ae:=ae.gr hC;replace dj:=dj.gr hC;replace aa:=aa.grow hC;exact ⟨cq,by omega,rfl,⟨_,_,_,_,_,_,_,_,_,_,_,_,_,_,_,_,rfl,hm,aa,ab,ae,ap,aq,e7,ar,dj,rfl⟩⟩
   refine Zy [1,2,3,1000000] (fun n f a9=>∃ ba cu cv cw br cx cy bs cz c0 bt dk dl bb eh b5,b5=n∧Zci N ac b5 cu br bs bt bb eh=some r∧St w0 (Zi col) ba a9∧Zl 27 1 ba a9 dt #[.string ac.1,.slice cd ac.2.1.length b9,.slice ce ac.2.2.1.length ca,.slice cf ac.2.2.2.1.length cb,.slice cg ac.2.2.2.2.length cc]∧Zl 27 2 ba a9 du #[.string (⟨#[]⟩),.slice none (([]:List ByteArray).length) 0,.slice none (([]:List R6).length) 0,.slice none (([]:List R5).length) 0,(.slice none (([]:List R8).length) 0)]∧Zc Za.str 9 4 ba a9 cv cw br∧Zc (Za.view Za.str) 22 6 ba a9 cx cy bs∧Zc (Za.view (Za.int .i64)) 40 7 ba a9 cz c0 bt∧Zc (Za.view (Za.pair (Za.pair Za.bool (Za.view (Za.int .u32))) (Za.view (Za.int .u32)))) 56 8 ba a9 dk dl bb∧Zl 27 3 ba a9 ax #[.string cu,(.slice cv ((br.take (Int.toNat (ac.2.1.length:Int))).length) cw),.slice cx bs.length cy,.slice cz bt.length c0,.slice dk bb.length dl]∧[8].map f=[.int .i64 eh]) N ⟨_,_,_,_,_,_,_,_,_,_,_,_,_,_,0,_,rfl,hm,aa,ab,ae,ap,aq,bo,ar,ad,rfl⟩ ?_;clear hm;intro n f a9 hI;obtain ⟨ba,cu,cv,cw,br,cx,cy,bs,cz,c0,bt,dk,dl,bb,eh,b5,hn,hm,aa,ab,ae,af,ag,ah,ai,ad,hs⟩:=hI;subst hn;refine .lL [8] hs ?_
   cases b5 with
   | zero=>rw [Zci.eq_1] at hm;cases hm
   | succ b5=>
    rw [Zci.eq_2] at hm;refine go ?_;refine Xc ab ?_;refine go ?_;refine Zp hm (fun hb hm=>go ?_) fun hb hm=>go ?_
    ·refine Zy [1,2,3,8,1000000] (fun n f ay=>∃ aw e8 e9 fa au c1,c1=n∧Zeq N ac cu br bs bt bb eh (Zci N ac b5) c1 e8 au=some r∧St w0 (Zi col) aw ay∧Zl 27 1 aw ay dt #[.string ac.1,.slice cd ac.2.1.length b9,.slice ce ac.2.2.1.length ca,.slice cf ac.2.2.2.1.length cb,.slice cg ac.2.2.2.2.length cc]∧Zl 27 2 aw ay du #[.string (⟨#[]⟩),.slice none (([]:List ByteArray).length) 0,.slice none (([]:List R6).length) 0,.slice none (([]:List R5).length) 0,(.slice none (([]:List R8).length) 0)]∧Zc Za.str 9 4 aw ay cv cw br∧Zc (Za.view Za.str) 22 6 aw ay cx cy bs∧Zc (Za.view (Za.int .i64)) 40 7 aw ay cz c0 bt∧Zc (Za.view (Za.pair (Za.pair Za.bool (Za.view (Za.int .u32))) (Za.view (Za.int .u32)))) 56 8 aw ay dk dl bb∧Zl 27 3 aw ay ax #[.string cu,(.slice cv ((br.take (Int.toNat (ac.2.1.length:Int))).length) cw),.slice cx bs.length cy,.slice cz bt.length c0,.slice dk bb.length dl]∧Zc (Za.pair (Za.pair Za.bool (Za.view (Za.int .u32))) (Za.view (Za.int .u32))) 47 15 aw ay e9 fa au∧[10,9].map f=[.int .i64 e8,.slice e9 au.length fa]) N ⟨_,0,none,0,_,_,rfl,hm,aa,ab,ae,af,ag,ah,ai,ad,Zc.nil,rfl⟩ ?_;clear hm;intro n f ay hI;obtain ⟨aw,e8,e9,fa,au,c1,hn,hm,aa,ab,ae,af,ag,ah,ai,ad,av,hs⟩:=hI;subst hn;refine .lL [10,9] hs ?_
     cases c1 with
     | zero=>rw [Zeq.eq_1] at hm;cases hm
     | succ c1=>
      rw [Zeq.eq_2] at hm;refine go ?_;refine Xc ab<|X3 rfl ?_;obtain ⟨bc,az,hm⟩:=bZ hm;refine lI az ((bj.ks aa).addr az) ?_;obtain ⟨_,he,hf⟩:=(bj.ks aa).atN az;obtain ⟨⟨jq,jr,rfl,js⟩,_⟩:=he;refine lW hf.one<|go ?_;refine Zp hm (fun hb hm=>go ?_) fun hb hm=>go ?_
      ·refine Xc ab<|X3 rfl<|lI az ((bj.ks aa).addr az) ?_;obtain ⟨_,hg,hh⟩:=(bj.ks aa).atN az;obtain ⟨⟨jt,ju,rfl,fy⟩,_⟩:=hg;refine lW hh.one<|X3 rfl ?_;obtain ⟨fb,fc,hm⟩:=bZ hm;refine lI fc (fy.addr fc) ?_;obtain ⟨_,hi,hj⟩:=fy.atN fc;obtain ⟨_,_,rfl,hk,hl⟩:=Yn hi;obtain ⟨_,_,rfl,ho,hp⟩:=Yn hk;obtain ⟨rfl,_⟩:=ho;obtain ⟨⟨hq,hr,rfl,ht⟩,_⟩:=hp;obtain ⟨⟨hv,hw,rfl,hx⟩,_⟩:=hl;refine lV (.agg #[.bool fb.1.1,.slice hq fb.1.2.length hr,.slice hv fb.2.length hw]) (Xp isAgg47 sizeOf47 rfl rfl hj) ?_;obtain ⟨aj,hy,hm⟩:=bZ hm;refine Zh (Zyt hy ht hx) ?_;rintro _ jv ⟨hz,fz,f0,f1,f2,rfl,bd,h0,h1⟩;refine ⟨_,rfl,?_⟩;refine Zbm (col:=hz) (r:=(Za.pair (Za.pair Za.bool (Za.view (Za.int .u32))) (Za.view (Za.int .u32)))) (xs:=[((aj.1.1,(aj.1.2.1,aj.1.2.2)),(aj.2.1,aj.2.2))]) [(.agg #[.bool aj.1.1,.slice fz ((aj.1.2.2.take aj.1.2.1).length) f0,.slice f1 ((aj.2.2.take aj.2.1).length) f2])] 16 (V9.ofF (Rows.consF (r:=(Za.pair (Za.pair Za.bool (Za.view (Za.int .u32))) (Za.view (Za.int .u32)))) (x:=((aj.1.1,(aj.1.2.1,aj.1.2.2)),(aj.2.1,aj.2.2))) (cs:=[.bool aj.1.1,.slice fz ((aj.1.2.2.take aj.1.2.1).length) f0,.slice f1 ((aj.2.2.take aj.2.1).length) f2]) (V7 (V7 (Zcw aj.1.1) (Zj4 h0)) (Zj4 h1)) Rows.nil0)) ?_;intro jw jx jy be h2;obtain ⟨h3,hm⟩:=Z4 hm;replace av:=(av.gr bd).gr be;refine W3 av (h2.srcN (NB.pair (NB.pair NB.bool NB.view) NB.view)) h3 ?_;intro jz j0 j1 j2 bu h4;refine go ?_;replace af:=((af.gr bd).gr be).kpp bu;replace ag:=((ag.gr bd).gr be).kpp bu;replace ah:=((ah.gr bd).gr be).kpp bu;replace ai:=((ai.gr bd).gr be).kpp bu;replace ab:=((ab.gr bd).gr be).kpp bu;replace ae:=((ae.gr bd).gr be).kpp bu;replace ad:=((ad.gr bd).gr be).kpp bu;replace aa:=((aa.grow bd).grow be).kpp bu;exact ⟨c1,by omega,rfl,⟨_,_,_,_,_,_,rfl,hm,aa,ab,ae,af,ag,ah,ai,ad,h4,rfl⟩⟩
      refine W1 (col:=aw) [97] 17 ?_;intro fd j3 h5 bf b6;refine lV (.agg #[.bool false,.slice none (([]:List Int).length) 0,.slice fd ([97].length) 1]) (Yt (l:=[_,_]) (qs:=[(0,2),(2,1)]) underlying47 zeroValue47 ⟨rfl,sizeOf45,rfl,sizeOf43,trivial⟩ rfl)<|W1 (col:=h5) [98] 18 ?_;intro fe j4 h6 a0 dm;refine lV (.agg #[.bool false,.slice none (([]:List Int).length) 0,.slice fe ([98].length) 1]) (Yt (l:=[_,_]) (qs:=[(0,2),(2,1)]) underlying47 zeroValue47 ⟨rfl,sizeOf45,rfl,sizeOf43,trivial⟩ rfl) ?_;replace af:=(af.gr bf).gr a0;replace af:=af.froz 17 (by decide);replace ag:=(ag.gr bf).gr a0;replace ag:=ag.froz 17 (by decide);replace ah:=(ah.gr bf).gr a0;replace ah:=ah.froz 17 (by decide);replace ai:=(ai.gr bf).gr a0;replace ai:=ai.froz 17 (by decide);replace av:=(av.gr bf).gr a0;replace av:=av.froz 17 (by decide);replace b6:=b6.gr a0;replace b6:=(b6).toSlF (Zm.int .u32);replace dm:=dm.froz 17 (by decide);replace ab:=(ab.gr bf).gr a0;replace ab:=ab.froz 17 (by decide);replace ae:=(ae.gr bf).gr a0;replace ae:=ae.froz 17 (by decide);replace ad:=(ad.gr bf).gr a0;replace ad:=ad.froz 17 (by decide);replace aa:=(aa.grow bf).grow a0;replace aa:=aa.froz 17 (by decide) (by decide);replace af:=af.froz 18 (by decide);replace ag:=ag.froz 18 (by decide);replace ah:=ah.froz 18 (by decide);replace ai:=ai.froz 18 (by decide);replace av:=av.froz 18 (by decide);replace b6:=b6.froz 18;replace dm:=(dm).toSlF (Zm.int .u32);replace ab:=ab.froz 18 (by decide);replace ae:=ae.froz 18 (by decide);replace ad:=ad.froz 18 (by decide);replace aa:=aa.froz 18 (by decide) (by decide)
      refine Zbm (col:=(Xk 18 (Xk 17 h6))) (r:=(Za.pair (Za.pair Za.bool (Za.view (Za.int .u32))) (Za.view (Za.int .u32)))) (xs:=[((false,(0,([]:List Int))),([97].length,[97])),((false,(0,([]:List Int))),([98].length,[98]))]) [(.agg #[.bool false,.slice none (([]:List Int).length) 0,.slice fd ([97].length) 1]),(.agg #[.bool false,.slice none (([]:List Int).length) 0,.slice fe ([98].length) 1])] 19 (V9.ofF (Rows.consF (r:=(Za.pair (Za.pair Za.bool (Za.view (Za.int .u32))) (Za.view (Za.int .u32)))) (x:=((false,(0,([]:List Int))),([97].length,[97]))) (cs:=[.bool false,.slice none (([]:List Int).length) 0,.slice fd ([97].length) 1]) (V7 (V7 (Zcw false) Zus) (Zut b6)) (Rows.consF (r:=(Za.pair (Za.pair Za.bool (Za.view (Za.int .u32))) (Za.view (Za.int .u32)))) (x:=((false,(0,([]:List Int))),([98].length,[98]))) (cs:=[.bool false,.slice none (([]:List Int).length) 0,.slice fe ([98].length) 1]) (V7 (V7 (Zcw false) Zus) (Zut dm)) Rows.nil0))) ?_;intro j5 j6 j7 bg h7;obtain ⟨h8,hm⟩:=Z4 hm;replace av:=av.gr bg;refine W3 av (h7.srcN (NB.pair (NB.pair NB.bool NB.view) NB.view)) h8 ?_;intro dn dp j8 c3 bv c4;refine go ?_;refine Y6 (col:=c3) [(0,1),(1,0),(2,1),(3,1),(4,0),(5,1),(6,1),(7,0),(8,1),(9,1),(10,3),(11,2),(12,1),(13,2)] (by kernel_rfl) (by kernel_rfl)<|xF ⟨_,_,rfl⟩ ?_;replace ad:=(ad.gr bg).kpp bv;refine xW (fun _ hC=>((ad.atN).nth (q:=4) rfl).gr (hC.bl c3)) ?_;refine xu rfl rfl (fun _=>U1 rfl) ?_;refine xF ⟨_,_,rfl⟩ ?_;replace ab:=(ab.gr bg).kpp bv;refine xW (fun _ hC=>((ab.atN).nth (q:=4) rfl).gr (hC.bl c3)) ?_;refine xu rfl rfl (fun _=>Vj rfl) ?_;replace aa:=(aa.grow bg).kpp bv;refine xu rfl rfl (fun _=>Wr underlying25 sizeOf56 rfl rfl (X0 az).1 (X0 az).2.1 ((bj.ks aa).addr az)) ?_;obtain ⟨_,h9,ia⟩:=(bj.ks aa).atN az;obtain ⟨⟨j9,ka,rfl,kb⟩,_⟩:=h9;refine xW (fun _ hC=>ia.one.gr (hC.bl c3)) ?_;refine xu rfl rfl (fun _=>Tw underlying56 rfl) ?_;obtain ⟨ff,hm⟩:=Z4 hm;refine xu (v:=.slice dn (Int.toNat (bc.length:Int)) dp) rfl rfl (fun _=>Ud underlying56 sizeOf47 rfl rfl ff.1 (by have:=c4.lecap;have:=ff.2;omega)) ?_
      refine .ld (d:=137) (v:=(.slice dn (((au++[((false,(0,([]:List Int))),([97].length,[97])),((false,(0,([]:List Int))),([98].length,[98]))]).take (Int.toNat (bc.length:Int))).length) dp)) (congrArg (fun n=>Value.slice dn n dp) (List.length_take_of_le (show (Int.toNat (bc.length:Int))≤(au++[((false,(0,([]:List Int))),([97].length,[97])),((false,(0,([]:List Int))),([98].length,[98]))]).length by have:=ff.2;omega)).symm) ?_;refine xe rfl rfl ?_;intro kc hC0;have hC:=hC0.bl c3;replace af:=((af.gr bg).kpp bv).gr hC;replace af:=af.froz 15 (by decide);replace ag:=((ag.gr bg).kpp bv).gr hC;replace ag:=ag.froz 15 (by decide);replace ah:=((ah.gr bg).kpp bv).gr hC;replace ah:=ah.froz 15 (by decide);replace ai:=((ai.gr bg).kpp bv).gr hC;replace ai:=ai.froz 15 (by decide);replace c4:=c4.gr hC;replace c4:=(c4).toSlF (Zm.pair (Zm.pair Zm.bool Zm.view) Zm.view);replace ab:=ab.gr hC;replace ab:=ab.froz 15 (by decide);replace ae:=((ae.gr bg).kpp bv).gr hC;replace ae:=ae.froz 15 (by decide);replace ad:=ad.gr hC;replace ad:=ad.froz 15 (by decide);replace aa:=aa.grow hC;replace aa:=aa.froz 15 (by decide) (by decide);refine Zbm (col:=(Xk 15 c3)) (r:=(Za.view (Za.pair (Za.pair Za.bool (Za.view (Za.int .u32))) (Za.view (Za.int .u32))))) (xs:=[((Int.toNat (bc.length:Int)),au++[((false,(0,([]:List Int))),([97].length,[97])),((false,(0,([]:List Int))),([98].length,[98]))])]) [(.slice dn (((au++[((false,(0,([]:List Int))),([97].length,[97])),((false,(0,([]:List Int))),([98].length,[98]))]).take (Int.toNat (bc.length:Int))).length) dp)] 20 (V9.ofF (Rows.consF (r:=(Za.view (Za.pair (Za.pair Za.bool (Za.view (Za.int .u32))) (Za.view (Za.int .u32))))) (x:=((Int.toNat (bc.length:Int)),au++[((false,(0,([]:List Int))),([97].length,[97])),((false,(0,([]:List Int))),([98].length,[98]))])) (cs:=[(.slice dn (((au++[((false,(0,([]:List Int))),([97].length,[97])),((false,(0,([]:List Int))),([98].length,[98]))]).take (Int.toNat (bc.length:Int))).length) dp)]) (Zj4 c4) Rows.nil0)) ?_;intro kd ke fg bh fh;refine Zk<|Xm fg hC0 bh<|xe rfl rfl ?_;intro ib hC0;have hC:=hC0.bl fg;obtain ⟨f3,hm⟩:=Z4 hm;replace ai:=(ai.gr bh).gr hC;replace fh:=fh.gr hC;refine Zdf (col:=fg) (w:=ib) (r:=(Za.view (Za.pair (Za.pair Za.bool (Za.view (Za.int .u32))) (Za.view (Za.int .u32))))) (c:=8) (c2:=8) (ai.ex) (fh.srcN NB.view) rfl underlying25 Zz5 rfl rfl rfl f3.1 f3.2 (by decide) ?_;intro f4 f5 kf dq b7 fi
      refine Zk<|xk dq<|xF ⟨_,_,rfl⟩ ?_;refine xe rfl rfl ?_;intro kg hC0;replace af:=((af.gr bh).gr hC).kpp b7;replace ag:=((ag.gr bh).gr hC).kpp b7;replace ah:=((ah.gr bh).gr hC).kpp b7;replace ab:=((ab.gr bh).gr hC).kpp b7;replace ae:=((ae.gr bh).gr hC).kpp b7;replace ad:=((ad.gr bh).gr hC).kpp b7;replace aa:=((aa.grow bh).grow hC).kpp b7;have hC:=hC0.bl dq;replace ad:=ad.gr hC;refine Zde (off:=4) (v:=(.slice f4 ((bb++[((Int.toNat (bc.length:Int)),au++[((false,(0,([]:List Int))),([97].length,[97])),((false,(0,([]:List Int))),([98].length,[98]))])]).length) f5)) ad sizeOf25 rfl rfl (by intro u hu;simp only [Value.cells,List.mem_cons,List.not_mem_nil,or_false] at hu;subst hu;rfl) rfl rfl ?_;intro ic b8 id dr;replace dr:Zl 27 3 dq ic ax #[.string cu,(.slice cv ((br.take (Int.toNat (ac.2.1.length:Int))).length) cw),.slice cx bs.length cy,.slice cz bt.length c0,(.slice f4 ((bb++[((Int.toNat (bc.length:Int)),au++[((false,(0,([]:List Int))),([97].length,[97])),((false,(0,([]:List Int))),([98].length,[98]))])]).length) f5)]:=dr;refine Zk<|xk dq ?_;replace fi:=(fi.gr hC).kp b8;have fj:=fi.new;refine Yz ?_;replace af:=(af.gr hC).kp b8;replace ag:=(ag.gr hC).kp b8;replace ah:=(ah.gr hC).kp b8;replace ab:=(ab.gr hC).kp b8;replace ae:=(ae.gr hC).kp b8;replace aa:=(aa.grow hC).kp b8 id;intro kh hC;replace hC:=hC.bl dq;refine go ?_;replace af:=af.gr hC;replace ag:=ag.gr hC;replace ah:=ah.gr hC;replace fj:=fj.gr hC;replace ab:=ab.gr hC;replace ae:=ae.gr hC;replace dr:=dr.gr hC;replace aa:=aa.grow hC;exact ⟨b5,by omega,rfl,⟨_,_,_,_,_,_,_,_,_,_,_,_,_,_,_,_,rfl,hm,aa,ab,ae,af,ag,ah,fj,dr,rfl⟩⟩
    refine lV _ (Xh isAgg27 sizeOf27 ad)<|Z8 ae ?_;intro ki ds ie bi;refine go ?_;replace af:=af.kp ds;replace af:=(af).toSlF Zm.str;replace ag:=ag.kp ds;replace ag:=ag.froz 4 (by decide);replace ah:=ah.kp ds;replace ah:=ah.froz 4 (by decide);replace ai:=ai.kp ds;replace ai:=ai.froz 4 (by decide);replace bi:=bi.froz 4 (by decide);replace aa:=aa.kp ds ie;replace aa:=aa.froz 4 (by decide) (by decide);replace af:=af.froz 6;replace ag:=(ag).toSlF Zm.view;replace ah:=ah.froz 6 (by decide);replace ai:=ai.froz 6 (by decide);replace bi:=bi.froz 6 (by decide);replace aa:=aa.froz 6 (by decide) (by decide);replace af:=af.froz 7;replace ag:=ag.froz 7;replace ah:=(ah).toSlF Zm.view;replace ai:=ai.froz 7 (by decide);replace bi:=bi.froz 7 (by decide);replace aa:=aa.froz 7 (by decide) (by decide);replace af:=af.froz 8;replace ag:=ag.froz 8;replace ah:=ah.froz 8;replace ai:=(ai).toSlF Zm.view;replace bi:=bi.froz 8 (by decide);replace aa:=aa.froz 8 (by decide) (by decide);cases hm;exact ⟨rfl,_,ra bi.atN,_,_,_,_,_,_,_,_,_,rfl,aa.fin (cm []),aa.fs af,aa.fs ag,aa.fs ah,aa.fs ai⟩
def Zjo (aa:Bool):Option Bool:=
  some aa
def Zev (N:Nat) (n0:Nat) (aa:List ByteArray) (ac:List ByteArray) (ad:ByteArray) (ae:ByteArray):Nat→Int→Option Bool
  | 0,_=>none
  | af+1,ab=>if (decide (ab<(ac.length:Int)))=true then ((Zn (aa.take n0) ab).bind fun ag=>(Zn ac ab).bind fun ah=>if (!decide (ag=ah))=true then (some false) else ((Zev N n0 aa ac ad ae af) (i64.wrap (ab+1)))) else (Zw ((0:Int)≤(i64.wrap (((aa.take n0).length:Int)+2))∧(i64.wrap (((aa.take n0).length:Int)+2))≤(aa.length:Int)) ((Zn (aa.take (Int.toNat (i64.wrap (((aa.take n0).length:Int)+2)))) ((aa.take n0).length:Int)).bind fun ai=>if (decide (ai=ad))=true then ((Zn (aa.take (Int.toNat (i64.wrap (((aa.take n0).length:Int)+2)))) (i64.wrap (((aa.take n0).length:Int)+1))).bind fun aj=>Zjo (decide (aj=ae))) else (Zjo false)))
termination_by structural x=>x
def Zeu (N:Nat) (n0:Nat) (aa:List ByteArray) (ab:List ByteArray) (ac:ByteArray) (ad:ByteArray):Option Bool:=
  if (!decide (((aa.take n0).length:Int)=(ab.length:Int)))=true then (some false) else (Zev N n0 aa ab ac ad N 0)
theorem Zqa {N ae n0 aq:Nat} {a0 a1:Option Addr} {col:Zd} {w0:World} {ab af:Ra} {ah ag:ByteArray} {r:Bool} (hm:Zeu N n0 ab af ah ag=some r) (h0:Sl Za.str col w0 a0 ae ab) (h1:Sl Za.str col w0 a1 aq af):
    Calls Tryz.prog 82 #[.slice a0 ((ab.take n0).length) ae,.slice a1 af.length aq,.string ah,.string ag] w0 (fun e w'=>e= .returned ((.bool r))∧Below w0.heap.size w0 w'):=by
 refine Xe 8 (m:=53) func82 rfl rfl rfl rfl rfl ?_;rw [Zeu.eq_1] at hm;have aa:=St.start col w0;refine go ?_;replace h0:=h0.keep (Zj.start col w0);replace h1:=h1.keep (Zj.start col w0);refine Zp hm (fun hb hm=>go ?_) fun hb hm=>go ?_
 ·cases hm;exact ⟨rfl,rfl,aa.below⟩
 refine Zy [0,1,2,3,1000000] (fun n f ar=>∃ ac ai ad,ad=n∧Zev N n0 ab af ah ag ad ai=some r∧St w0 (Zi col) ac ar∧[9].map f=[.int .i64 ai]) N ⟨_,0,_,rfl,hm,aa,rfl⟩ ?_;clear hm;intro n f ar hI;obtain ⟨ac,ai,ad,hn,hm,aa,hs⟩:=hI;subst hn;refine .lL [9] hs ?_
 cases ad with
 | zero=>rw [Zev.eq_1] at hm;cases hm
 | succ ad=>
  rw [Zev.eq_2] at hm;refine go ?_;refine Zp hm (fun hb hm=>go ?_) fun hb hm=>go ?_
  ·refine Wo (col:=ac) (by kernel_rfl) (by kernel_rfl)<|go ?_;obtain ⟨ax,aj,hm⟩:=bZ hm;refine qI aj (((h0.ks aa).take n0).addr aj)<|qW (fun _ hC=>(((h0.ks aa).take n0).gr (hC.bl ac)).atStr aj) ?_;refine go ?_;obtain ⟨ay,ak,hm⟩:=bZ hm;refine qI ak ((h1.ks aa).addr ak)<|qW (fun _ hC=>((h1.ks aa).gr (hC.bl ac)).atStr ak) ?_;refine go ?_;refine Yl ?_;intro az hC;replace hC:=hC.bl ac;replace aa:=aa.grow hC;refine Zp hm (fun hb hm=>go ?_) fun hb hm=>go ?_
   ·cases hm;exact ⟨rfl,rfl,aa.below⟩
   exact ⟨ad,by omega,rfl,⟨_,_,_,rfl,hm,aa,rfl⟩⟩
  obtain ⟨al,hm⟩:=Z4 hm;refine lv (v:=.slice a0 (Int.toNat (i64.wrap (((ab.take n0).length:Int)+2))) ae) rfl rfl (Ud underlying22 sizeOf9 rfl rfl al.1 (by have:=(h0.ks aa).1.2;have:=al.2;omega))<|.ld (d:=35) (v:=(.slice a0 ((ab.take (Int.toNat (i64.wrap (((ab.take n0).length:Int)+2)))).length) ae)) (congrArg (fun n=>Value.slice a0 n ae) (List.length_take_of_le (show (Int.toNat (i64.wrap (((ab.take n0).length:Int)+2)))≤ab.length by have:=al.2;omega)).symm) ?_;refine Sa rfl<|Zk<|Zu ?_;refine Wp.cutK [1000000] (fun f au=>∃ av am,Zjo am=some r∧St w0 (Zi col) av au∧[8].map f=[.bool am]) ?_ ?_
  ·intro f au hJ;obtain ⟨av,am,hm,aa,hs⟩:=hJ;rw [Zjo.eq_1] at hm;refine .lL [8] hs<|Wc ?_;cases hm;exact ⟨rfl,rfl,aa.below⟩
  refine go ?_;obtain ⟨a2,an,hm⟩:=bZ hm;refine lI an (((h0.ks aa).take (Int.toNat (i64.wrap (((ab.take n0).length:Int)+2)))).addr an)<|lW (((h0.ks aa).take (Int.toNat (i64.wrap (((ab.take n0).length:Int)+2)))).atStr an) ?_;refine go ?_;refine Xq hm (fun ao hm=>go ?_) fun ao hm=>go ?_
  ·obtain ⟨aw,ap,hm⟩:=bZ hm;refine lI ap (((h0.ks aa).take (Int.toNat (i64.wrap (((ab.take n0).length:Int)+2)))).addr ap) ?_;refine go ?_;refine lW (((h0.ks aa).take (Int.toNat (i64.wrap (((ab.take n0).length:Int)+2)))).atStr ap)<|go ?_;refine lV (.bool (decide (aw=ag))) (Z1 (congrArg Value.bool ao) rfl)<|go ?_;exact ⟨rfl,_,_,hm,aa,rfl⟩
  refine lV (.bool false) (Xn (congrArg Value.bool ao) rfl)<|go ?_;exact ⟨rfl,_,_,hm,aa,rfl⟩
def Zet (N:Nat) (ab:R0) (ac:R0):Nat→Int→Option Bool
  | 0,_=>none
  | ad+1,aa=>if (decide (aa<(ab.1.2.length:Int)))=true then ((Zn ab.1.2 aa).bind fun ae=>(Zn ac.1.2 aa).bind fun af=>if (!decide (ae=af))=true then (some false) else ((Zet N ab ac ad) (i64.wrap (aa+1)))) else (some true)
termination_by structural x=>x
def Zes (N:Nat) (aa:R0) (ac:R0):Nat→Int→Option Bool
  | 0,_=>none
  | ad+1,ab=>if (decide (ab<(aa.2.length:Int)))=true then ((Zn aa.2 ab).bind fun ae=>(Zn ac.2 ab).bind fun af=>if (!decide (ae=af))=true then (some false) else ((Zes N aa ac ad) (i64.wrap (ab+1)))) else (Zet N aa ac N 0)
termination_by structural x=>x
def Zhf (N:Nat) (aa:R0) (ab:R0) (ac:Bool):Option Bool:=
  if ac=true then (some false) else (Zes N aa ab N 0)
def Zhe (N:Nat) (aa:R0) (ab:R0):Option Bool:=
  if (!decide (aa.1.1=ab.1.1))=true then (Zhf N aa ab true) else (if (!decide ((aa.1.2.length:Int)=(ab.1.2.length:Int)))=true then (Zhf N aa ab true) else (Zhf N aa ab (!decide ((aa.2.length:Int)=(ab.2.length:Int)))))
theorem Zyx {N aj ak al am:Nat} {an ao ap aq:Option Addr} {col:Zd} {w0:World} {ac ad:R0} {r:Bool} (hm:Zhe N ac ad=some r) (ar:Sl (Za.int .u32) col w0 an aj ac.1.2) (au:Sl (Za.int .u32) col w0 ao ak ac.2) (av:Sl (Za.int .u32) col w0 ap al ad.1.2) (aw:Sl (Za.int .u32) col w0 aq am ad.2):
    Calls Tryz.prog 25 #[(.agg #[.bool ac.1.1,.slice an ac.1.2.length aj,.slice ao ac.2.length ak]),(.agg #[.bool ad.1.1,.slice ap ad.1.2.length al,.slice aq ad.2.length am])] w0 (fun e w'=>e= .returned ((.bool r))∧Below w0.heap.size w0 w'):=by
 refine Xe 4 (m:=73) func25 rfl rfl rfl rfl rfl ?_;rw [Zhe.eq_1] at hm;have aa:=St.start col w0;refine go ?_;refine Xi (col:=(Zi col)) 1 rfl ?_;intro a1 bf bd be ab;refine Xi (col:=bd) 2 rfl ?_;intro a2 bg bh bc ae;refine Zdd rfl<|Zk<|Zu<|Zu ?_;replace ar:=ar.keep (Zj.start col w0);replace au:=au.keep (Zj.start col w0);replace av:=av.keep (Zj.start col w0);replace aw:=aw.keep (Zj.start col w0);replace aa:=(aa.grow be).grow bc;replace ab:=ab.gr bc;refine Wp.cutK [2,3,1000000] (fun f ax=>∃ ay a3,Zhf N ac ad a3=some r∧St w0 (Zi col) ay ax∧Zl 47 1 ay ax a1 #[.bool ac.1.1,.slice an ac.1.2.length aj,.slice ao ac.2.length ak]∧Zl 47 2 ay ax a2 #[.bool ad.1.1,.slice ap ad.1.2.length al,.slice aq ad.2.length am]∧[33].map f=[.bool a3]) ?_ ?_
 ·intro f ax hJ;obtain ⟨ay,a3,hm,aa,ab,ae,hs⟩:=hJ;rw [Zhf.eq_1] at hm;refine .lL [33] hs ?_;refine Zp hm (fun hb hm=>go ?_) fun hb hm=>go ?_
  ·cases hm;exact ⟨rfl,rfl,aa.below⟩
  refine Zy [2,3,1000000] (fun n f az=>∃ af a4 ah,ah=n∧Zes N ac ad ah a4=some r∧St w0 (Zi col) af az∧Zl 47 1 af az a1 #[.bool ac.1.1,.slice an ac.1.2.length aj,.slice ao ac.2.length ak]∧Zl 47 2 af az a2 #[.bool ad.1.1,.slice ap ad.1.2.length al,.slice aq ad.2.length am]∧[5].map f=[.int .i64 a4]) N ⟨_,0,_,rfl,hm,aa,ab,ae,rfl⟩ ?_;clear hm;intro n f az hI;obtain ⟨af,a4,ah,hn,hm,aa,ab,ae,hs⟩:=hI;subst hn;refine .lL [5] hs ?_
  cases ah with
  | zero=>rw [Zes.eq_1] at hm;cases hm
  | succ ah=>
   rw [Zes.eq_2] at hm;refine go ?_;refine Xc ab ?_;refine go ?_;refine Zp hm (fun hb hm=>go ?_) fun hb hm=>go ?_
   ·refine Wo (col:=af) (by kernel_rfl) (by kernel_rfl)<|qF ⟨_,_,rfl⟩ ?_;refine qW (fun _ hC=>((ab.atN).nth (q:=2) rfl).gr (hC.bl af)) ?_;refine go ?_;obtain ⟨bi,a5,hm⟩:=bZ hm;refine qI a5 ((au.ks aa).addr a5)<|qW (fun _ hC=>((au.ks aa).gr (hC.bl af)).atInt a5) ?_;refine qF ⟨_,_,rfl⟩ ?_;refine qW (fun _ hC=>((ae.atN).nth (q:=2) rfl).gr (hC.bl af)) ?_;refine go ?_;obtain ⟨bj,a6,hm⟩:=bZ hm;refine qI a6 ((aw.ks aa).addr a6)<|qW (fun _ hC=>((aw.ks aa).gr (hC.bl af)).atInt a6) ?_;refine go ?_;refine Yl ?_;intro bk hC;replace hC:=hC.bl af;replace ab:=ab.gr hC;replace ae:=ae.gr hC;replace aa:=aa.grow hC;refine Zp hm (fun hb hm=>go ?_) fun hb hm=>go ?_
    ·cases hm;exact ⟨rfl,rfl,aa.below⟩
    exact ⟨ah,by omega,rfl,⟨_,_,_,rfl,hm,aa,ab,ae,rfl⟩⟩
   refine Zy [2,3,1000000] (fun n f a0=>∃ ag a7 ai,ai=n∧Zet N ac ad ai a7=some r∧St w0 (Zi col) ag a0∧Zl 47 1 ag a0 a1 #[.bool ac.1.1,.slice an ac.1.2.length aj,.slice ao ac.2.length ak]∧Zl 47 2 ag a0 a2 #[.bool ad.1.1,.slice ap ad.1.2.length al,.slice aq ad.2.length am]∧[6].map f=[.int .i64 a7]) N ⟨_,0,_,rfl,hm,aa,ab,ae,rfl⟩ ?_;clear hm;intro n f a0 hI;obtain ⟨ag,a7,ai,hn,hm,aa,ab,ae,hs⟩:=hI;subst hn;refine .lL [6] hs ?_
   cases ai with
   | zero=>rw [Zet.eq_1] at hm;cases hm
   | succ ai=>
    rw [Zet.eq_2] at hm;refine go ?_;refine Xf ⟨_,_,rfl⟩ ?_;refine Xf (Wn ⟨_,_,rfl⟩) ?_;refine lW ((((ab.atN).part 0 2 _ rfl)).nth (q:=1) rfl)<|go ?_;refine Zp hm (fun hb hm=>go ?_) fun hb hm=>go ?_
    ·refine Wo (col:=ag) (by kernel_rfl) (by kernel_rfl)<|qF ⟨_,_,rfl⟩ ?_;refine qF (Wn ⟨_,_,rfl⟩) ?_;refine qW (fun _ hC=>((((ab.atN).part 0 2 _ rfl)).nth (q:=1) rfl).gr (hC.bl ag)) ?_;refine go ?_;obtain ⟨bm,a8,hm⟩:=bZ hm;refine qI a8 ((ar.ks aa).addr a8)<|qW (fun _ hC=>((ar.ks aa).gr (hC.bl ag)).atInt a8) ?_;refine qF ⟨_,_,rfl⟩ ?_;refine qF (Wn ⟨_,_,rfl⟩) ?_;refine qW (fun _ hC=>((((ae.atN).part 0 2 _ rfl)).nth (q:=1) rfl).gr (hC.bl ag)) ?_;refine go ?_;obtain ⟨bn,a9,hm⟩:=bZ hm;refine qI a9 ((av.ks aa).addr a9)<|qW (fun _ hC=>((av.ks aa).gr (hC.bl ag)).atInt a9) ?_;refine go ?_;refine Yl ?_;intro bo hC;replace hC:=hC.bl ag;replace ab:=ab.gr hC;replace ae:=ae.gr hC;replace aa:=aa.grow hC;refine Zp hm (fun hb hm=>go ?_) fun hb hm=>go ?_
     ·cases hm;exact ⟨rfl,rfl,aa.below⟩
     exact ⟨ai,by omega,rfl,⟨_,_,_,rfl,hm,aa,ab,ae,rfl⟩⟩
    cases hm;exact ⟨rfl,rfl,aa.below⟩
 refine Wi<|Xf ⟨_,_,rfl⟩ ?_;refine Xf (Wn ⟨_,_,rfl⟩) ?_;refine lW ((((ab.atN).part 0 2 _ rfl)).nth (q:=0) rfl)<|Xf ⟨_,_,rfl⟩ ?_;refine Xf (Wn ⟨_,_,rfl⟩) ?_;refine lW ((((ae.atN).part 0 2 _ rfl)).nth (q:=0) rfl)<|go ?_;refine Xq hm (fun ba hm=>go ?_) fun ba hm=>go ?_
 ·refine lV (.bool true) (Z1 (congrArg Value.bool ba) rfl)<|X2 rfl<|lP 25 rfl rfl<|lP 25 rfl rfl<|lP 25 rfl rfl<|lP 25 rfl rfl<|lP 25 rfl rfl<|lP 25 rfl rfl<|lP 25 rfl rfl<|lV (.bool true) (Z1 rfl rfl)<|Zk ?_;exact ⟨rfl,_,_,hm,aa,ab,ae,rfl⟩
 refine Xf ⟨_,_,rfl⟩ ?_;refine go ?_;refine Xf (Wn ⟨_,_,rfl⟩) ?_;refine go ?_;refine lW ((((ab.atN).part 0 2 _ rfl)).nth (q:=1) rfl)<|go ?_;refine Xf ⟨_,_,rfl⟩ ?_;refine go ?_;refine Xf (Wn ⟨_,_,rfl⟩) ?_;refine go ?_;refine lW ((((ae.atN).part 0 2 _ rfl)).nth (q:=1) rfl)<|go ?_;refine lV (.bool (!decide ((ac.1.2.length:Int)=(ad.1.2.length:Int)))) (Xn (congrArg Value.bool ba) rfl)<|X2 rfl ?_;refine Xq hm (fun bb hm=>go ?_) fun bb hm=>go ?_
 ·refine lV (.bool true) (Z1 (congrArg Value.bool bb) rfl)<|Zk ?_;exact ⟨rfl,_,_,hm,aa,ab,ae,rfl⟩
 refine Xf ⟨_,_,rfl⟩ ?_;refine go ?_;refine lW ((ab.atN).nth (q:=2) rfl)<|go ?_;refine Xf ⟨_,_,rfl⟩ ?_;refine go ?_;refine lW ((ae.atN).nth (q:=2) rfl)<|go ?_;refine lV (.bool (!decide ((ac.2.length:Int)=(ad.2.length:Int)))) (Xn (congrArg Value.bool bb) rfl)<|Zk ?_;exact ⟨rfl,_,_,hm,aa,ab,ae,rfl⟩
def Zjn (aa:Int) (kk_L2:(Int→Option Bool)) (ab:Bool):Option Bool:=
  if ab=true then (some false) else (kk_L2 (i64.wrap (aa+1)))
def Zen (N:Nat) (ad:R3) (af:R1) (ab:Int) (kk_L2:(Int→Option Bool)) (aa:List Int):Nat→Int→Option Bool
  | 0,_=>none
  | ah+1,ac=>if (decide (ac<(aa.length:Int)))=true then ((Zn ad.2.2.2.1 ab).bind fun ag=>(Zn (ag.2.take ag.1) ac).bind fun ai=>(Zn af.2.2.2.1 ab).bind fun aj=>(Zn aj ac).bind fun ak=>if (!decide (ai=ak))=true then (some false) else ((Zen N ad af ab kk_L2 aa ah) (i64.wrap (ac+1)))) else ((Zn ad.2.2.2.1 ab).bind fun ae=>Zw ((0:Int)≤(i64.wrap ((aa.length:Int)+2))∧(i64.wrap ((aa.length:Int)+2))≤(ae.2.length:Int)) ((Zn (ae.2.take (Int.toNat (i64.wrap ((aa.length:Int)+2)))) (aa.length:Int)).bind fun al=>if (!decide (al=(-95)))=true then (Zjn ab kk_L2 true) else ((Zn (ae.2.take (Int.toNat (i64.wrap ((aa.length:Int)+2)))) (i64.wrap ((aa.length:Int)+1))).bind fun am=>Zjn ab kk_L2 (!decide (am=(-96))))))
termination_by structural x=>x
def Zch (aa:Int) (kk_L5:(Int→Option Bool)) (ab:Bool):Option Bool:=
  if ab=true then (some false) else (kk_L5 (i64.wrap (aa+1)))
def Zel (aa:Int) (kk_L4:(Int→Option Bool)) (ab:Bool):Option Bool:=
  if ab=true then (some false) else (kk_L4 (i64.wrap (aa+1)))
def So (N:Nat) (ae:R3) (af:R1) (ab:Int) (kk_L4:(Int→Option Bool)) (ac:Re):Nat→Int→Option Bool
  | 0,_=>none
  | ag+1,ad=>if (decide (ad<(ac.length:Int)))=true then ((Zn ae.2.2.2.2 ab).bind fun al=>(Zn (al.2.take al.1) ad).bind fun aa=>Zw ((0:Int)≤(i64.wrap (((aa.1.2.2.take aa.1.2.1).length:Int)+2))∧(i64.wrap (((aa.1.2.2.take aa.1.2.1).length:Int)+2))≤(aa.1.2.2.length:Int)) (Zw ((0:Int)≤(i64.wrap (((aa.2.2.take aa.2.1).length:Int)+2))∧(i64.wrap (((aa.2.2.take aa.2.1).length:Int)+2))≤(aa.2.2.length:Int)) ((Zn af.2.2.2.2 ab).bind fun am=>(Zn am ad).bind fun aj=>(Zhe N ((aa.1.1,aa.1.2.2.take aa.1.2.1),aa.2.2.take aa.2.1) ((aj.1.1,aj.1.2),aj.2)).bind fun an=>if (!an)=true then (Zch ad (So N ae af ab kk_L4 ac ag) true) else ((Zn (aa.1.2.2.take (Int.toNat (i64.wrap (((aa.1.2.2.take aa.1.2.1).length:Int)+2)))) (i64.wrap (((aa.1.2.2.take (Int.toNat (i64.wrap (((aa.1.2.2.take aa.1.2.1).length:Int)+2)))).length:Int) - 1))).bind fun ao=>if (!decide (ao=902))=true then (Zch ad (So N ae af ab kk_L4 ac ag) true) else ((Zn (aa.1.2.2.take (Int.toNat (i64.wrap (((aa.1.2.2.take aa.1.2.1).length:Int)+2)))) (i64.wrap (((aa.1.2.2.take (Int.toNat (i64.wrap (((aa.1.2.2.take aa.1.2.1).length:Int)+2)))).length:Int) - 2))).bind fun ap=>if (!decide (ap=901))=true then (Zch ad (So N ae af ab kk_L4 ac ag) true) else ((Zn (aa.2.2.take (Int.toNat (i64.wrap (((aa.2.2.take aa.2.1).length:Int)+2)))) (i64.wrap (((aa.2.2.take (Int.toNat (i64.wrap (((aa.2.2.take aa.2.1).length:Int)+2)))).length:Int) - 1))).bind fun aq=>if (!decide (aq=904))=true then (Zch ad (So N ae af ab kk_L4 ac ag) true) else ((Zn (aa.2.2.take (Int.toNat (i64.wrap (((aa.2.2.take aa.2.1).length:Int)+2)))) (i64.wrap (((aa.2.2.take (Int.toNat (i64.wrap (((aa.2.2.take aa.2.1).length:Int)+2)))).length:Int) - 2))).bind fun ar=>Zch ad (So N ae af ab kk_L4 ac ag) (!decide (ar=903))))))))) else ((Zn ae.2.2.2.2 ab).bind fun ak=>Zw ((0:Int)≤(i64.wrap ((ac.length:Int)+2))∧(i64.wrap ((ac.length:Int)+2))≤(ak.2.length:Int)) ((Zn (ak.2.take (Int.toNat (i64.wrap ((ac.length:Int)+2)))) (ac.length:Int)).bind fun ah=>if (!decide (((ah.2.2.take ah.2.1).length:Int)=1))=true then (Zel ab kk_L4 true) else ((Zn (ah.2.2.take ah.2.1) 0).bind fun au=>if (!decide (au=97))=true then (Zel ab kk_L4 true) else ((Zn (ak.2.take (Int.toNat (i64.wrap ((ac.length:Int)+2)))) (i64.wrap ((ac.length:Int)+1))).bind fun ai=>if (!decide (((ai.2.2.take ai.2.1).length:Int)=1))=true then (Zel ab kk_L4 true) else ((Zn (ai.2.2.take ai.2.1) 0).bind fun av=>Zel ab kk_L4 (!decide (av=98)))))))
termination_by structural x=>x
def Qf (N:Nat) (ac:R3) (aa:R1):Nat→Int→Option Bool
  | 0,_=>none
  | af+1,ab=>if (decide (ab<(aa.2.2.2.2.length:Int)))=true then ((Zn aa.2.2.2.2 ab).bind fun ad=>(Zn ac.2.2.2.2 ab).bind fun ae=>if (!decide (((ae.2.take ae.1).length:Int)=(ad.length:Int)))=true then (some false) else (So N ac aa ab (Qf N ac aa af) ad N 0)) else (some true)
termination_by structural x=>x
def Zab (N:Nat) (ab:R3) (aa:R1):Nat→Int→Option Bool
  | 0,_=>none
  | af+1,ac=>if (decide (ac<(aa.2.2.2.1.length:Int)))=true then ((Zn aa.2.2.2.1 ac).bind fun ad=>(Zn ab.2.2.2.1 ac).bind fun ae=>if (!decide (((ae.2.take ae.1).length:Int)=(ad.length:Int)))=true then (some false) else (Zen N ab aa ac (Zab N ab aa af) ad N 0)) else (Qf N ab aa N 0)
termination_by structural x=>x
def Zem (N:Nat) (ac:R3) (aa:R1):Nat→Int→Option Bool
  | 0,_=>none
  | ae+1,ab=>if (decide (ab<(aa.2.2.1.length:Int)))=true then ((Zn ac.2.2.1 ab).bind fun ad=>(Zn aa.2.2.1 ab).bind fun af=>(Zeu N ad.1 ad.2 af (⟨#[35,51]⟩) (⟨#[35,52]⟩)).bind fun ag=>if (!ag)=true then (some false) else ((Zem N ac aa ae) (i64.wrap (ab+1)))) else (Zab N ac aa N 0)
termination_by structural x=>x
def Zcg (N:Nat) (aa:R3) (ab:R1) (ac:Bool):Option Bool:=
  if ac=true then (some false) else (Zem N aa ab N 0)
def Zhb (N:Nat) (aa:R3) (ab:R1):Option Bool:=
  if (!decide (aa.1=ab.1))=true then (Zcg N aa ab true) else (if (!decide ((aa.2.2.1.length:Int)=(ab.2.2.1.length:Int)))=true then (Zcg N aa ab true) else (if (!decide ((aa.2.2.2.1.length:Int)=(ab.2.2.2.1.length:Int)))=true then (Zcg N aa ab true) else (if (!decide ((aa.2.2.2.2.length:Int)=(ab.2.2.2.2.length:Int)))=true then (Zcg N aa ab true) else ((Zeu N aa.2.1.1 aa.2.1.2 ab.2.1 (⟨#[35,49]⟩) (⟨#[35,50]⟩)).bind fun ac=>Zcg N aa ab (!ac)))))
theorem Zyu {N al am an ao ap aq ar au:Nat} {av aw ax ay az a0 a1 a2:Option Addr} {col:Zd} {w0:World} {ab:R3} {ac:R1} {r:Bool} (hm:Zhb N ab ac=some r) (cp:Sl Za.str col w0 av al ab.2.1.2) (b1:Sl (Za.view Za.str) col w0 aw am ab.2.2.1) (ba:Sl (Za.view (Za.int .i64)) col w0 ax an ab.2.2.2.1) (bb:Sl (Za.view (Za.pair (Za.pair Za.bool (Za.view (Za.int .u32))) (Za.view (Za.int .u32)))) col w0 ay ao ab.2.2.2.2) (cq:Sl Za.str col w0 az ap ac.2.1) (b2:Sl (Za.slice Za.str) col w0 a0 aq ac.2.2.1) (bi:Sl (Za.slice (Za.int .i64)) col w0 a1 ar ac.2.2.2.1) (bj:Sl (Za.slice (Za.pair (Za.pair Za.bool (Za.slice (Za.int .u32))) (Za.slice (Za.int .u32)))) col w0 a2 au ac.2.2.2.2):
    Calls Tryz.prog 19 #[(.agg #[.string ab.1,.slice av ((ab.2.1.2.take ab.2.1.1).length) al,.slice aw ab.2.2.1.length am,.slice ax ab.2.2.2.1.length an,.slice ay ab.2.2.2.2.length ao]),(.agg #[.string ac.1,.slice az ac.2.1.length ap,.slice a0 ac.2.2.1.length aq,.slice a1 ac.2.2.2.1.length ar,.slice a2 ac.2.2.2.2.length au])] w0 (fun e w'=>e= .returned ((.bool r))∧Below w0.heap.size w0 w'):=by
 refine Xe 4 (m:=283) func19 rfl rfl rfl rfl rfl ?_;rw [Zhb.eq_1] at hm;have aa:=St.start col w0;refine go ?_;refine Xi (col:=(Zi col)) 1 rfl ?_;intro a7 ha ed ee ad;refine Xi (col:=ed) 2 rfl ?_;intro a8 ef d9 ea ae;refine Zdd rfl<|Zk<|Zu<|Zu ?_;replace cp:=cp.keep (Zj.start col w0);replace b1:=b1.keep (Zj.start col w0);replace ba:=ba.keep (Zj.start col w0);replace bb:=bb.keep (Zj.start col w0);replace cq:=cq.keep (Zj.start col w0);replace b2:=b2.keep (Zj.start col w0);replace bi:=bi.keep (Zj.start col w0);replace bj:=bj.keep (Zj.start col w0);replace aa:=(aa.grow ee).grow ea;replace ad:=ad.gr ea;refine Wp.cutK [2,3,1000000] (fun f b3=>∃ b4 cr,Zcg N ab ac cr=some r∧St w0 (Zi col) b4 b3∧Zl 27 1 b4 b3 a7 #[.string ab.1,.slice av ((ab.2.1.2.take ab.2.1.1).length) al,.slice aw ab.2.2.1.length am,.slice ax ab.2.2.2.1.length an,.slice ay ab.2.2.2.2.length ao]∧Zl 27 2 b4 b3 a8 #[.string ac.1,.slice az ac.2.1.length ap,.slice a0 ac.2.2.1.length aq,.slice a1 ac.2.2.2.1.length ar,.slice a2 ac.2.2.2.2.length au]∧[56].map f=[.bool cr]) ?_ ?_
 ·intro f b3 hJ;obtain ⟨b4,cr,hm,aa,ad,ae,hs⟩:=hJ;rw [Zcg.eq_1] at hm;refine .lL [56] hs ?_;refine Zp hm (fun hb hm=>go ?_) fun hb hm=>go ?_
  ·cases hm;exact ⟨rfl,rfl,aa.below⟩
  refine Zy [2,3,1000000] (fun n f bp=>∃ ak cs bk,bk=n∧Zem N ab ac bk cs=some r∧St w0 (Zi col) ak bp∧Zl 27 1 ak bp a7 #[.string ab.1,.slice av ((ab.2.1.2.take ab.2.1.1).length) al,.slice aw ab.2.2.1.length am,.slice ax ab.2.2.2.1.length an,.slice ay ab.2.2.2.2.length ao]∧Zl 27 2 ak bp a8 #[.string ac.1,.slice az ac.2.1.length ap,.slice a0 ac.2.2.1.length aq,.slice a1 ac.2.2.2.1.length ar,.slice a2 ac.2.2.2.2.length au]∧[5].map f=[.int .i64 cs]) N ⟨_,0,_,rfl,hm,aa,ad,ae,rfl⟩ ?_;clear hm;intro n f bp hI;obtain ⟨ak,cs,bk,hn,hm,aa,ad,ae,hs⟩:=hI;subst hn;refine .lL [5] hs ?_
  cases bk with
  | zero=>rw [Zem.eq_1] at hm;cases hm
  | succ bk=>
   rw [Zem.eq_2] at hm;refine go ?_;refine Xc ae ?_;refine go ?_;refine Zp hm (fun hb hm=>go ?_) fun hb hm=>go ?_
   ·refine Wo (col:=ak) (by kernel_rfl) (by kernel_rfl)<|qF ⟨_,_,rfl⟩ ?_;refine qW (fun _ hC=>((ad.atN).nth (q:=2) rfl).gr (hC.bl ak)) ?_;refine go ?_;obtain ⟨eg,ct,hm⟩:=bZ hm;refine qI ct ((b1.ks aa).addr ct) ?_;obtain ⟨_,eh,ei⟩:=(b1.ks aa).atN ct;obtain ⟨⟨ej,ek,rfl,cu⟩,_⟩:=eh;replace cu:Sl Za.str ak bp ej ek eg.2:=cu;refine qW (fun _ hC=>ei.one.gr (hC.bl ak)) ?_;refine qF ⟨_,_,rfl⟩ ?_;refine qW (fun _ hC=>((ae.atN).nth (q:=2) rfl).gr (hC.bl ak)) ?_;refine go ?_;obtain ⟨hc,cv,hm⟩:=bZ hm;refine qI cv ((b2.ks aa).addr cv) ?_;obtain ⟨_,el,em⟩:=(b2.ks aa).atN cv;obtain ⟨⟨hd,he,rfl,en⟩,_⟩:=el;refine qW (fun _ hC=>em.one.gr (hC.bl ak)) ?_;obtain ⟨eo,ep,hm⟩:=bZ hm;refine qc (v:=(.bool eo)) rfl (fun _ hC=>⟨_,_,Zuc call82 rfl rfl rfl rfl,(Zqa ep (cu.gr (hC.bl ak)) (en.gr (hC.bl ak)):).mono fun _ _ h=>⟨h.1,hC.trans (.of_below h.2)⟩⟩) ?_;refine go ?_;refine Yl ?_;intro hf hC;replace hC:=hC.bl ak;replace ad:=ad.gr hC;replace ae:=ae.gr hC;replace aa:=aa.grow hC;refine Zp hm (fun hb hm=>go ?_) fun hb hm=>go ?_
    ·cases hm;exact ⟨rfl,rfl,aa.below⟩
    exact ⟨bk,by omega,rfl,⟨_,_,_,rfl,hm,aa,ad,ae,rfl⟩⟩
   refine Zy [2,3,1000000] (fun n f b5=>∃ b6 bq bc,bc=n∧Zab N ab ac bc bq=some r∧St w0 (Zi col) b6 b5∧Zl 27 1 b6 b5 a7 #[.string ab.1,.slice av ((ab.2.1.2.take ab.2.1.1).length) al,.slice aw ab.2.2.1.length am,.slice ax ab.2.2.2.1.length an,.slice ay ab.2.2.2.2.length ao]∧Zl 27 2 b6 b5 a8 #[.string ac.1,.slice az ac.2.1.length ap,.slice a0 ac.2.2.1.length aq,.slice a1 ac.2.2.2.1.length ar,.slice a2 ac.2.2.2.2.length au]∧[6].map f=[.int .i64 bq]) N ⟨_,0,_,rfl,hm,aa,ad,ae,rfl⟩ ?_;clear hm;intro n f b5 hI;obtain ⟨b6,bq,bc,hn,hm,aa,ad,ae,hs⟩:=hI;subst hn;refine .lL [6] hs ?_
   cases bc with
   | zero=>rw [Zab.eq_1] at hm;cases hm
   | succ bc=>
    rw [Zab.eq_2] at hm;refine go ?_;refine Xc ae ?_;refine go ?_;refine Zp hm (fun hb hm=>go ?_) fun hb hm=>go ?_
    ·refine Xc ae<|X3 rfl ?_;obtain ⟨bd,cw,hm⟩:=bZ hm;refine lI cw ((bi.ks aa).addr cw) ?_;obtain ⟨_,eq,er⟩:=(bi.ks aa).atN cw;obtain ⟨⟨hg,hh,rfl,hi⟩,_⟩:=eq;refine lW er.one<|go ?_;refine Xc ad<|X3 rfl ?_;obtain ⟨hj,cx,hm⟩:=bZ hm;refine lI cx ((ba.ks aa).addr cx) ?_;obtain ⟨_,es,et⟩:=(ba.ks aa).atN cx;obtain ⟨⟨hk,hl,rfl,ho⟩,_⟩:=es;refine lW et.one<|go ?_;refine Zp hm (fun hb hm=>go ?_) fun hb hm=>go ?_
     ·cases hm;exact ⟨rfl,rfl,aa.below⟩
     refine Zy [2,3,6,7,1000000] (fun n f bm=>∃ aj cy bn,bn=n∧Zen N ab ac bq (Zab N ab ac bc) bd bn cy=some r∧St w0 (Zi col) aj bm∧Zl 27 1 aj bm a7 #[.string ab.1,.slice av ((ab.2.1.2.take ab.2.1.1).length) al,.slice aw ab.2.2.1.length am,.slice ax ab.2.2.2.1.length an,.slice ay ab.2.2.2.2.length ao]∧Zl 27 2 aj bm a8 #[.string ac.1,.slice az ac.2.1.length ap,.slice a0 ac.2.2.1.length aq,.slice a1 ac.2.2.2.1.length ar,.slice a2 ac.2.2.2.2.length au]∧[8].map f=[.int .i64 cy]) N ⟨_,0,_,rfl,hm,aa,ad,ae,rfl⟩ ?_;clear hm;intro n f bm hI;obtain ⟨aj,cy,bn,hn,hm,aa,ad,ae,hs⟩:=hI;subst hn;refine .lL [8] hs ?_
     cases bn with
     | zero=>rw [Zen.eq_1] at hm;cases hm
     | succ bn=>
      rw [Zen.eq_2] at hm;refine go ?_;refine Zp hm (fun hb hm=>go ?_) fun hb hm=>go ?_
      ·refine Wo (col:=aj) (by kernel_rfl) (by kernel_rfl)<|qF ⟨_,_,rfl⟩ ?_;refine qW (fun _ hC=>((ad.atN).nth (q:=3) rfl).gr (hC.bl aj)) ?_;refine go ?_;obtain ⟨cz,c0,hm⟩:=bZ hm;refine qI c0 ((ba.ks aa).addr c0) ?_;obtain ⟨_,eu,ew⟩:=(ba.ks aa).atN c0;obtain ⟨⟨ey,ez,rfl,b7⟩,_⟩:=eu;replace b7:Sl (Za.int .i64) aj bm ey ez cz.2:=b7;refine qW (fun _ hC=>ew.one.gr (hC.bl aj)) ?_;refine go ?_;obtain ⟨hp,c1,hm⟩:=bZ hm;refine qI c1 ((b7.take cz.1).addr c1)<|qW (fun _ hC=>((b7.take cz.1).gr (hC.bl aj)).atInt c1) ?_;refine qF ⟨_,_,rfl⟩ ?_;refine qW (fun _ hC=>((ae.atN).nth (q:=3) rfl).gr (hC.bl aj)) ?_;refine go ?_;obtain ⟨hq,c2,hm⟩:=bZ hm;refine qI c2 ((bi.ks aa).addr c2) ?_;obtain ⟨_,e0,e1⟩:=(bi.ks aa).atN c2;obtain ⟨⟨hr,ht,rfl,eb⟩,_⟩:=e0;refine qW (fun _ hC=>e1.one.gr (hC.bl aj)) ?_;refine go ?_;obtain ⟨hu,c3,hm⟩:=bZ hm;refine qI c3 (eb.addr c3)<|qW (fun _ hC=>(eb.gr (hC.bl aj)).atInt c3) ?_;refine go ?_;refine Yl ?_;intro hv hC;replace hC:=hC.bl aj;replace ad:=ad.gr hC;replace ae:=ae.gr hC;replace aa:=aa.grow hC;refine Zp hm (fun hb hm=>go ?_) fun hb hm=>go ?_
       ·cases hm;exact ⟨rfl,rfl,aa.below⟩
       exact ⟨bn,by omega,rfl,⟨_,_,_,rfl,hm,aa,ad,ae,rfl⟩⟩
      refine Xc ad<|X3 rfl ?_;obtain ⟨c4,c5,hm⟩:=bZ hm;refine lI c5 ((ba.ks aa).addr c5) ?_;obtain ⟨_,e2,e3⟩:=(ba.ks aa).atN c5;obtain ⟨⟨b8,b9,rfl,bg⟩,_⟩:=e2;replace bg:Sl (Za.int .i64) aj bm b8 b9 c4.2:=bg;refine lW e3.one<|go ?_;obtain ⟨c6,hm⟩:=Z4 hm;refine lv (v:=.slice b8 (Int.toNat (i64.wrap ((bd.length:Int)+2))) b9) rfl rfl (Ud underlying40 sizeOf3 rfl rfl c6.1 (by have:=bg.1.2;have:=c6.2;omega))<|.ld (d:=126) (v:=(.slice b8 ((c4.2.take (Int.toNat (i64.wrap ((bd.length:Int)+2)))).length) b9)) (congrArg (fun n=>Value.slice b8 n b9) (List.length_take_of_le (show (Int.toNat (i64.wrap ((bd.length:Int)+2)))≤c4.2.length by have:=c6.2;omega)).symm) ?_;refine Sa rfl<|Zk<|Zu ?_;refine Wp.cutK [2,3,6,1000000] (fun f ca=>∃ cb c7,Zjn bq (Zab N ab ac bc) c7=some r∧St w0 (Zi col) cb ca∧Zl 27 1 cb ca a7 #[.string ab.1,.slice av ((ab.2.1.2.take ab.2.1.1).length) al,.slice aw ab.2.2.1.length am,.slice ax ab.2.2.2.1.length an,.slice ay ab.2.2.2.2.length ao]∧Zl 27 2 cb ca a8 #[.string ac.1,.slice az ac.2.1.length ap,.slice a0 ac.2.2.1.length aq,.slice a1 ac.2.2.2.1.length ar,.slice a2 ac.2.2.2.2.length au]∧[139].map f=[.bool c7]) ?_ ?_
      ·intro f ca hJ;obtain ⟨cb,c7,hm,aa,ad,ae,hs⟩:=hJ;rw [Zjn.eq_1] at hm;refine .lL [139] hs ?_;refine Zp hm (fun hb hm=>go ?_) fun hb hm=>go ?_
       ·cases hm;exact ⟨rfl,rfl,aa.below⟩
       exact ⟨bc,by omega,rfl,⟨_,_,_,rfl,hm,aa,ad,ae,rfl⟩⟩
      refine go ?_;obtain ⟨hw,c8,hm⟩:=bZ hm;refine lI c8 ((bg.take (Int.toNat (i64.wrap ((bd.length:Int)+2)))).addr c8)<|lW ((bg.take (Int.toNat (i64.wrap ((bd.length:Int)+2)))).atInt c8) ?_;refine go ?_;refine Xq hm (fun c9 hm=>go ?_) fun c9 hm=>go ?_
      ·refine lV (.bool true) (Z1 (congrArg Value.bool c9) rfl)<|Zk ?_;exact ⟨rfl,_,_,hm,aa,ad,ae,rfl⟩
      obtain ⟨e4,da,hm⟩:=bZ hm;refine lI da ((bg.take (Int.toNat (i64.wrap ((bd.length:Int)+2)))).addr da) ?_;refine go ?_;refine lW ((bg.take (Int.toNat (i64.wrap ((bd.length:Int)+2)))).atInt da)<|go ?_;refine lV (.bool (!decide (e4=(-96)))) (Xn (congrArg Value.bool c9) rfl)<|Zk ?_;exact ⟨rfl,_,_,hm,aa,ad,ae,rfl⟩
    refine Zy [2,3,1000000] (fun n f cc=>∃ cd bo a9,a9=n∧Qf N ab ac a9 bo=some r∧St w0 (Zi col) cd cc∧Zl 27 1 cd cc a7 #[.string ab.1,.slice av ((ab.2.1.2.take ab.2.1.1).length) al,.slice aw ab.2.2.1.length am,.slice ax ab.2.2.2.1.length an,.slice ay ab.2.2.2.2.length ao]∧Zl 27 2 cd cc a8 #[.string ac.1,.slice az ac.2.1.length ap,.slice a0 ac.2.2.1.length aq,.slice a1 ac.2.2.2.1.length ar,.slice a2 ac.2.2.2.2.length au]∧[10].map f=[.int .i64 bo]) N ⟨_,0,_,rfl,hm,aa,ad,ae,rfl⟩ ?_;clear hm;intro n f cc hI;obtain ⟨cd,bo,a9,hn,hm,aa,ad,ae,hs⟩:=hI;subst hn;refine .lL [10] hs ?_
    cases a9 with
    | zero=>rw [Qf.eq_1] at hm;cases hm
    | succ a9=>
     rw [Qf.eq_2] at hm;refine go ?_;refine Xc ae ?_;refine go ?_;refine Zp hm (fun hb hm=>go ?_) fun hb hm=>go ?_
     ·refine Xc ae<|X3 rfl ?_;obtain ⟨ah,db,hm⟩:=bZ hm;refine lI db ((bj.ks aa).addr db) ?_;obtain ⟨_,e5,e6⟩:=(bj.ks aa).atN db;obtain ⟨⟨hx,hy,rfl,hz⟩,_⟩:=e5;refine lW e6.one<|go ?_;refine Xc ad<|X3 rfl ?_;obtain ⟨h0,dc,hm⟩:=bZ hm;refine lI dc ((bb.ks aa).addr dc) ?_;obtain ⟨_,e7,e8⟩:=(bb.ks aa).atN dc;obtain ⟨⟨h1,h2,rfl,h3⟩,_⟩:=e7;refine lW e8.one<|go ?_;refine Zp hm (fun hb hm=>go ?_) fun hb hm=>go ?_
      ·cases hm;exact ⟨rfl,rfl,aa.below⟩
      refine Zy [10,11,2,3,1000000] (fun n f a4=>∃ a3 ce bh,bh=n∧So N ab ac bo (Qf N ab ac a9) ah bh ce=some r∧St w0 (Zi col) a3 a4∧Zl 27 1 a3 a4 a7 #[.string ab.1,.slice av ((ab.2.1.2.take ab.2.1.1).length) al,.slice aw ab.2.2.1.length am,.slice ax ab.2.2.2.1.length an,.slice ay ab.2.2.2.2.length ao]∧Zl 27 2 a3 a4 a8 #[.string ac.1,.slice az ac.2.1.length ap,.slice a0 ac.2.2.1.length aq,.slice a1 ac.2.2.2.1.length ar,.slice a2 ac.2.2.2.2.length au]∧[12].map f=[.int .i64 ce]) N ⟨_,0,_,rfl,hm,aa,ad,ae,rfl⟩ ?_;clear hm;intro n f a4 hI;obtain ⟨a3,ce,bh,hn,hm,aa,ad,ae,hs⟩:=hI;subst hn;refine .lL [12] hs ?_
      cases bh with
      | zero=>rw [So.eq_1] at hm;cases hm
      | succ bh=>
       rw [So.eq_2] at hm;refine go ?_;refine Zp hm (fun hb hm=>go ?_) fun hb hm=>go ?_
       ·refine Xc ad<|X3 rfl ?_;obtain ⟨dd,de,hm⟩:=bZ hm;refine lI de ((bb.ks aa).addr de) ?_;obtain ⟨_,e9,fa⟩:=(bb.ks aa).atN de;obtain ⟨⟨fb,fc,rfl,cf⟩,_⟩:=e9;replace cf:Sl (Za.pair (Za.pair Za.bool (Za.view (Za.int .u32))) (Za.view (Za.int .u32))) a3 a4 fb fc dd.2:=cf;refine lW fa.one<|X3 rfl ?_;obtain ⟨af,df,hm⟩:=bZ hm;refine lI df ((cf.take dd.1).addr df) ?_;obtain ⟨_,fd,fe⟩:=(cf.take dd.1).atN df;obtain ⟨_,_,rfl,ff,fg⟩:=Yn fd;obtain ⟨_,_,rfl,fh,fi⟩:=Yn ff;obtain ⟨rfl,_⟩:=fh;obtain ⟨⟨br,bs,rfl,a5⟩,_⟩:=fi;replace a5:Sl (Za.int .u32) a3 a4 br bs af.1.2.2:=a5;obtain ⟨⟨bt,bu,rfl,a6⟩,_⟩:=fg;replace a6:Sl (Za.int .u32) a3 a4 bt bu af.2.2:=a6;refine lV (.agg #[.bool af.1.1,.slice br ((af.1.2.2.take af.1.2.1).length) bs,.slice bt ((af.2.2.take af.2.1).length) bu]) (Xp isAgg47 sizeOf47 rfl rfl fe)<|Xs (col:=a3) #[.bool false,.slice none (([]:List Int).length) 0,.slice none (([]:List Int).length) 0] 3 zeroValue47 ?_;intro h4 h5 ag bv fj;refine Z8 fj ?_;intro h6 bw fk bx;refine go ?_;refine Xf ⟨_,_,rfl⟩ ?_;refine Xf (Wn ⟨_,_,rfl⟩) ?_;refine lW ((((bx.atN).part 0 2 _ rfl)).nth (q:=1) rfl)<|Xf ⟨_,_,rfl⟩ ?_;refine Xf (Wn ⟨_,_,rfl⟩) ?_;refine lW ((((bx.atN).part 0 2 _ rfl)).nth (q:=1) rfl)<|go ?_;obtain ⟨dg,hm⟩:=Z4 hm;replace a5:=(a5.gr bv).kp bw;refine lv (v:=.slice br (Int.toNat (i64.wrap (((af.1.2.2.take af.1.2.1).length:Int)+2))) bs) rfl rfl (Ud underlying43 sizeOf79 rfl rfl dg.1 (by have:=a5.1.2;have:=dg.2;omega))<|.ld (d:=182) (v:=(.slice br ((af.1.2.2.take (Int.toNat (i64.wrap (((af.1.2.2.take af.1.2.1).length:Int)+2)))).length) bs)) (congrArg (fun n=>Value.slice br n bs) (List.length_take_of_le (show (Int.toNat (i64.wrap (((af.1.2.2.take af.1.2.1).length:Int)+2)))≤af.1.2.2.length by have:=dg.2;omega)).symm) ?_;refine go ?_;refine Xc bx<|Xc bx ?_;refine go ?_;obtain ⟨dh,hm⟩:=Z4 hm;replace a6:=(a6.gr bv).kp bw
        refine lv (v:=.slice bt (Int.toNat (i64.wrap (((af.2.2.take af.2.1).length:Int)+2))) bu) rfl rfl (Ud underlying43 sizeOf79 rfl rfl dh.1 (by have:=a6.1.2;have:=dh.2;omega))<|.ld (d:=189) (v:=(.slice bt ((af.2.2.take (Int.toNat (i64.wrap (((af.2.2.take af.2.1).length:Int)+2)))).length) bu)) (congrArg (fun n=>Value.slice bt n bu) (List.length_take_of_le (show (Int.toNat (i64.wrap (((af.2.2.take af.2.1).length:Int)+2)))≤af.2.2.length by have:=dh.2;omega)).symm) ?_;refine Sa rfl<|Zk<|Zu ?_;replace ad:=(ad.gr bv).kp bw;replace ae:=(ae.gr bv).kp bw;replace aa:=(aa.grow bv).kp bw fk;refine Wp.cutK [10,11,12,2,3,1000000] (fun f cg=>∃ ch di,Zch ce (So N ab ac bo (Qf N ab ac a9) ah bh) di=some r∧St w0 (Zi col) ch cg∧Zl 27 1 ch cg a7 #[.string ab.1,.slice av ((ab.2.1.2.take ab.2.1.1).length) al,.slice aw ab.2.2.1.length am,.slice ax ab.2.2.2.1.length an,.slice ay ab.2.2.2.2.length ao]∧Zl 27 2 ch cg a8 #[.string ac.1,.slice az ac.2.1.length ap,.slice a0 ac.2.2.1.length aq,.slice a1 ac.2.2.2.1.length ar,.slice a2 ac.2.2.2.2.length au]∧[236].map f=[.bool di]) ?_ ?_
        ·intro f cg hJ;obtain ⟨ch,di,hm,aa,ad,ae,hs⟩:=hJ;rw [Zch.eq_1] at hm;refine .lL [236] hs ?_;refine Zp hm (fun hb hm=>go ?_) fun hb hm=>go ?_
         ·cases hm;exact ⟨rfl,rfl,aa.below⟩
         exact ⟨bh,by omega,rfl,⟨_,_,_,rfl,hm,aa,ad,ae,rfl⟩⟩
        refine Wo (col:=ag) (by kernel_rfl) (by kernel_rfl)<|qv rfl (fun _ hC=>Xh isAgg47 sizeOf47 (bx.gr (hC.bl ag))) ?_;refine qF ⟨_,_,rfl⟩ ?_;refine qW (fun _ hC=>((ae.atN).nth (q:=4) rfl).gr (hC.bl ag)) ?_;refine go ?_;obtain ⟨h7,dj,hm⟩:=bZ hm;refine qI dj ((bj.ks aa).addr dj) ?_;obtain ⟨_,fl,fm⟩:=(bj.ks aa).atN dj;obtain ⟨⟨h8,h9,rfl,ec⟩,_⟩:=fl;refine qW (fun _ hC=>fm.one.gr (hC.bl ag)) ?_;refine go ?_;obtain ⟨dk,dl,hm⟩:=bZ hm;refine qI dl (ec.addr dl) ?_;obtain ⟨_,fn,fp⟩:=ec.atN dl;obtain ⟨_,_,rfl,fq,fr⟩:=Yn fn;obtain ⟨_,_,rfl,ft,fu⟩:=Yn fq;obtain ⟨rfl,_⟩:=ft;obtain ⟨⟨fv,fw,rfl,fx⟩,_⟩:=fu;obtain ⟨⟨fy,fz,rfl,f0⟩,_⟩:=fr;refine qv (v:=(.agg #[.bool dk.1.1,.slice fv dk.1.2.length fw,.slice fy dk.2.length fz])) rfl (fun _ hC=>Xp isAgg47 sizeOf47 rfl rfl (fp.gr (hC.bl ag))) ?_;obtain ⟨f1,f2,hm⟩:=bZ hm;refine qc (v:=(.bool f1)) rfl (fun _ hC=>⟨_,_,Tv call25 rfl rfl,(Zyx f2 ((a5.take af.1.2.1).gr (hC.bl ag)) ((a6.take af.2.1).gr (hC.bl ag)) (fx.gr (hC.bl ag)) (f0.gr (hC.bl ag)):).mono fun _ _ h=>⟨h.1,hC.trans (.of_below h.2)⟩⟩) ?_;refine go ?_;refine Xq hm (fun dm hm=>go ?_) fun dm hm=>go ?_
        ·refine qv (v:=(.bool true)) rfl (fun _ hC=>Z1 (congrArg Value.bool dm) rfl) ?_;refine go ?_;refine qP 210 rfl rfl<|qP 210 rfl rfl<|qP 210 rfl rfl<|qP 210 rfl rfl<|qP 210 rfl rfl<|qP 210 rfl rfl<|qP 210 rfl rfl<|qv (v:=(.bool true)) rfl (fun _ hC=>Z1 rfl rfl) ?_;refine go ?_;refine qP 219 rfl rfl<|qP 219 rfl rfl<|qP 219 rfl rfl<|qP 219 rfl rfl<|qP 219 rfl rfl<|qP 219 rfl rfl<|qP 219 rfl rfl<|qv (v:=(.bool true)) rfl (fun _ hC=>Z1 rfl rfl) ?_;refine go ?_;refine qP 228 rfl rfl<|qP 228 rfl rfl<|qP 228 rfl rfl<|qP 228 rfl rfl<|qP 228 rfl rfl<|qP 228 rfl rfl<|qP 228 rfl rfl<|qv (v:=(.bool true)) rfl (fun _ hC=>Z1 rfl rfl) ?_;refine Yl ?_;intro ia hC;replace hC:=hC.bl ag;replace ad:=ad.gr hC;replace ae:=ae.gr hC;replace aa:=aa.grow hC;exact ⟨rfl,_,_,hm,aa,ad,ae,rfl⟩
        obtain ⟨f3,dn,hm⟩:=bZ hm;refine qI dn ((a5.take (Int.toNat (i64.wrap (((af.1.2.2.take af.1.2.1).length:Int)+2)))).addr dn) ?_;refine go ?_;refine qW (fun _ hC=>((a5.take (Int.toNat (i64.wrap (((af.1.2.2.take af.1.2.1).length:Int)+2)))).gr (hC.bl ag)).atInt dn) ?_;refine go ?_;refine qv (v:=(.bool (!decide (f3=902)))) rfl (fun _ hC=>Xn (congrArg Value.bool dm) rfl) ?_;refine go ?_;refine Xq hm (fun dp hm=>go ?_) fun dp hm=>go ?_
        ·refine qv (v:=(.bool true)) rfl (fun _ hC=>Z1 (congrArg Value.bool dp) rfl) ?_;refine go ?_;refine qP 219 rfl rfl<|qP 219 rfl rfl<|qP 219 rfl rfl<|qP 219 rfl rfl<|qP 219 rfl rfl<|qP 219 rfl rfl<|qP 219 rfl rfl<|qv (v:=(.bool true)) rfl (fun _ hC=>Z1 rfl rfl) ?_;refine go ?_;refine qP 228 rfl rfl<|qP 228 rfl rfl<|qP 228 rfl rfl<|qP 228 rfl rfl<|qP 228 rfl rfl<|qP 228 rfl rfl<|qP 228 rfl rfl<|qv (v:=(.bool true)) rfl (fun _ hC=>Z1 rfl rfl) ?_;refine Yl ?_;intro ib hC;replace hC:=hC.bl ag;replace ad:=ad.gr hC;replace ae:=ae.gr hC;replace aa:=aa.grow hC;exact ⟨rfl,_,_,hm,aa,ad,ae,rfl⟩
        obtain ⟨f4,dq,hm⟩:=bZ hm;refine qI dq ((a5.take (Int.toNat (i64.wrap (((af.1.2.2.take af.1.2.1).length:Int)+2)))).addr dq) ?_;refine go ?_;refine qW (fun _ hC=>((a5.take (Int.toNat (i64.wrap (((af.1.2.2.take af.1.2.1).length:Int)+2)))).gr (hC.bl ag)).atInt dq) ?_;refine go ?_;refine qv (v:=(.bool (!decide (f4=901)))) rfl (fun _ hC=>Xn (congrArg Value.bool dp) rfl) ?_;refine go ?_;refine Xq hm (fun dr hm=>go ?_) fun dr hm=>go ?_
        ·refine qv (v:=(.bool true)) rfl (fun _ hC=>Z1 (congrArg Value.bool dr) rfl) ?_;refine go ?_;refine qP 228 rfl rfl<|qP 228 rfl rfl<|qP 228 rfl rfl<|qP 228 rfl rfl<|qP 228 rfl rfl<|qP 228 rfl rfl<|qP 228 rfl rfl<|qv (v:=(.bool true)) rfl (fun _ hC=>Z1 rfl rfl) ?_;refine Yl ?_;intro ic hC;replace hC:=hC.bl ag;replace ad:=ad.gr hC;replace ae:=ae.gr hC;replace aa:=aa.grow hC;exact ⟨rfl,_,_,hm,aa,ad,ae,rfl⟩
        obtain ⟨f5,ds,hm⟩:=bZ hm;refine qI ds ((a6.take (Int.toNat (i64.wrap (((af.2.2.take af.2.1).length:Int)+2)))).addr ds) ?_;refine go ?_;refine qW (fun _ hC=>((a6.take (Int.toNat (i64.wrap (((af.2.2.take af.2.1).length:Int)+2)))).gr (hC.bl ag)).atInt ds) ?_;refine go ?_;refine qv (v:=(.bool (!decide (f5=904)))) rfl (fun _ hC=>Xn (congrArg Value.bool dr) rfl) ?_;refine go ?_;refine Xq hm (fun dt hm=>go ?_) fun dt hm=>go ?_
        ·refine qv (v:=(.bool true)) rfl (fun _ hC=>Z1 (congrArg Value.bool dt) rfl) ?_;refine Yl ?_;intro id hC;replace hC:=hC.bl ag;replace ad:=ad.gr hC;replace ae:=ae.gr hC;replace aa:=aa.grow hC;exact ⟨rfl,_,_,hm,aa,ad,ae,rfl⟩
        obtain ⟨f6,du,hm⟩:=bZ hm;refine qI du ((a6.take (Int.toNat (i64.wrap (((af.2.2.take af.2.1).length:Int)+2)))).addr du) ?_;refine go ?_;refine qW (fun _ hC=>((a6.take (Int.toNat (i64.wrap (((af.2.2.take af.2.1).length:Int)+2)))).gr (hC.bl ag)).atInt du) ?_;refine go ?_;refine qv (v:=(.bool (!decide (f6=903)))) rfl (fun _ hC=>Xn (congrArg Value.bool dt) rfl) ?_;refine Yl ?_;intro ie hC;replace hC:=hC.bl ag;replace ad:=ad.gr hC;replace ae:=ae.gr hC;replace aa:=aa.grow hC;exact ⟨rfl,_,_,hm,aa,ad,ae,rfl⟩
       refine Xc ad<|X3 rfl ?_;obtain ⟨dv,dw,hm⟩:=bZ hm;refine lI dw ((bb.ks aa).addr dw) ?_;obtain ⟨_,f7,f8⟩:=(bb.ks aa).atN dw;obtain ⟨⟨ci,cj,rfl,ai⟩,_⟩:=f7;replace ai:Sl (Za.pair (Za.pair Za.bool (Za.view (Za.int .u32))) (Za.view (Za.int .u32))) a3 a4 ci cj dv.2:=ai;refine lW f8.one<|go ?_;obtain ⟨dx,hm⟩:=Z4 hm;refine lv (v:=.slice ci (Int.toNat (i64.wrap ((ah.length:Int)+2))) cj) rfl rfl (Ud underlying56 sizeOf47 rfl rfl dx.1 (by have:=ai.1.2;have:=dx.2;omega))<|.ld (d:=244) (v:=(.slice ci ((dv.2.take (Int.toNat (i64.wrap ((ah.length:Int)+2)))).length) cj)) (congrArg (fun n=>Value.slice ci n cj) (List.length_take_of_le (show (Int.toNat (i64.wrap ((ah.length:Int)+2)))≤dv.2.length by have:=dx.2;omega)).symm) ?_;refine Sa rfl<|Zk<|Zu ?_;refine Wp.cutK [10,2,3,1000000] (fun f ck=>∃ cl dy,Zel bo (Qf N ab ac a9) dy=some r∧St w0 (Zi col) cl ck∧Zl 27 1 cl ck a7 #[.string ab.1,.slice av ((ab.2.1.2.take ab.2.1.1).length) al,.slice aw ab.2.2.1.length am,.slice ax ab.2.2.2.1.length an,.slice ay ab.2.2.2.2.length ao]∧Zl 27 2 cl ck a8 #[.string ac.1,.slice az ac.2.1.length ap,.slice a0 ac.2.2.1.length aq,.slice a1 ac.2.2.2.1.length ar,.slice a2 ac.2.2.2.2.length au]∧[282].map f=[.bool dy]) ?_ ?_
       ·intro f ck hJ;obtain ⟨cl,dy,hm,aa,ad,ae,hs⟩:=hJ;rw [Zel.eq_1] at hm;refine .lL [282] hs ?_;refine Zp hm (fun hb hm=>go ?_) fun hb hm=>go ?_
        ·cases hm;exact ⟨rfl,rfl,aa.below⟩
        exact ⟨a9,by omega,rfl,⟨_,_,_,rfl,hm,aa,ad,ae,rfl⟩⟩
       refine go ?_;obtain ⟨dz,be,hm⟩:=bZ hm;refine lI be ((ai.take (Int.toNat (i64.wrap ((ah.length:Int)+2)))).addr be)<|Xf (Wn ((ai.take (Int.toNat (i64.wrap ((ah.length:Int)+2)))).addr be)) ?_;obtain ⟨_,f9,ga⟩:=(ai.take (Int.toNat (i64.wrap ((ah.length:Int)+2)))).atN be;obtain ⟨_,_,rfl,gb,gc⟩:=Yn f9;obtain ⟨_,_,rfl,gd,ge⟩:=Yn gb;obtain ⟨rfl,_⟩:=gd;obtain ⟨⟨ig,ih,rfl,ii⟩,_⟩:=ge;obtain ⟨⟨ij,ik,rfl,il⟩,_⟩:=gc;refine lW ((ga).nth (q:=2) rfl)<|go ?_;refine Xq hm (fun d0 hm=>go ?_) fun d0 hm=>go ?_
       ·refine lV (.bool true) (Z1 (congrArg Value.bool d0) rfl)<|X2 rfl<|lP 262 rfl rfl<|lP 262 rfl rfl<|lP 262 rfl rfl<|lP 262 rfl rfl<|lP 262 rfl rfl<|lP 262 rfl rfl<|lP 262 rfl rfl<|lP 262 rfl rfl<|lV (.bool true) (Z1 rfl rfl)<|X2 rfl<|lP 272 rfl rfl<|lP 272 rfl rfl<|lP 272 rfl rfl<|lP 272 rfl rfl<|lP 272 rfl rfl<|lP 272 rfl rfl<|lP 272 rfl rfl<|lP 272 rfl rfl<|lP 272 rfl rfl<|lV (.bool true) (Z1 rfl rfl)<|Zk ?_;exact ⟨rfl,_,_,hm,aa,ad,ae,rfl⟩
       refine lI be ((ai.take (Int.toNat (i64.wrap ((ah.length:Int)+2)))).addr be) ?_;refine go ?_;refine Xf (Wn ((ai.take (Int.toNat (i64.wrap ((ah.length:Int)+2)))).addr be)) ?_;refine go ?_;obtain ⟨_,gf,gg⟩:=(ai.take (Int.toNat (i64.wrap ((ah.length:Int)+2)))).atN be;obtain ⟨_,_,rfl,gh,gi⟩:=Yn gf;obtain ⟨_,_,rfl,gj,gk⟩:=Yn gh;obtain ⟨rfl,_⟩:=gj;obtain ⟨⟨im,io,rfl,ip⟩,_⟩:=gk;obtain ⟨⟨gl,gm,rfl,cn⟩,_⟩:=gi;replace cn:Sl (Za.int .u32) a3 a4 gl gm dz.2.2:=cn;refine lW ((gg).nth (q:=2) rfl)<|go ?_;obtain ⟨gp,d1,hm⟩:=bZ hm;refine lI d1 ((cn.take dz.2.1).addr d1) ?_;refine go ?_;refine lW ((cn.take dz.2.1).atInt d1)<|go ?_;refine lV (.bool (!decide (gp=97))) (Xn (congrArg Value.bool d0) rfl)<|X2 rfl ?_;refine Xq hm (fun d2 hm=>go ?_) fun d2 hm=>go ?_
       ·refine lV (.bool true) (Z1 (congrArg Value.bool d2) rfl)<|X2 rfl<|lP 272 rfl rfl<|lP 272 rfl rfl<|lP 272 rfl rfl<|lP 272 rfl rfl<|lP 272 rfl rfl<|lP 272 rfl rfl<|lP 272 rfl rfl<|lP 272 rfl rfl<|lP 272 rfl rfl<|lV (.bool true) (Z1 rfl rfl)<|Zk ?_;exact ⟨rfl,_,_,hm,aa,ad,ae,rfl⟩
       obtain ⟨bz,bf,hm⟩:=bZ hm;refine lI bf ((ai.take (Int.toNat (i64.wrap ((ah.length:Int)+2)))).addr bf) ?_;refine go ?_;refine Xf (Wn ((ai.take (Int.toNat (i64.wrap ((ah.length:Int)+2)))).addr bf)) ?_;refine go ?_;obtain ⟨_,gs,gt⟩:=(ai.take (Int.toNat (i64.wrap ((ah.length:Int)+2)))).atN bf;obtain ⟨_,_,rfl,gu,gv⟩:=Yn gs;obtain ⟨_,_,rfl,gw,gx⟩:=Yn gu;obtain ⟨rfl,_⟩:=gw;obtain ⟨⟨iq,ir,rfl,it⟩,_⟩:=gx;obtain ⟨⟨iu,iv,rfl,iw⟩,_⟩:=gv;refine lW ((gt).nth (q:=2) rfl)<|go ?_;refine lV (.bool (!decide (((bz.2.2.take bz.2.1).length:Int)=1))) (Xn (congrArg Value.bool d2) rfl)<|X2 rfl ?_;refine Xq hm (fun d3 hm=>go ?_) fun d3 hm=>go ?_
       ·refine lV (.bool true) (Z1 (congrArg Value.bool d3) rfl)<|Zk ?_;exact ⟨rfl,_,_,hm,aa,ad,ae,rfl⟩
       refine lI bf ((ai.take (Int.toNat (i64.wrap ((ah.length:Int)+2)))).addr bf) ?_;refine go ?_;refine Xf (Wn ((ai.take (Int.toNat (i64.wrap ((ah.length:Int)+2)))).addr bf)) ?_;refine go ?_;obtain ⟨_,gy,gz⟩:=(ai.take (Int.toNat (i64.wrap ((ah.length:Int)+2)))).atN bf;obtain ⟨_,_,rfl,g0,g1⟩:=Yn gy;obtain ⟨_,_,rfl,g2,g3⟩:=Yn g0;obtain ⟨rfl,_⟩:=g2;obtain ⟨⟨ix,iy,rfl,iz⟩,_⟩:=g3;obtain ⟨⟨g4,g5,rfl,co⟩,_⟩:=g1;replace co:Sl (Za.int .u32) a3 a4 g4 g5 bz.2.2:=co;refine lW ((gz).nth (q:=2) rfl)<|go ?_;obtain ⟨g6,d4,hm⟩:=bZ hm;refine lI d4 ((co.take bz.2.1).addr d4) ?_;refine go ?_;refine lW ((co.take bz.2.1).atInt d4)<|go ?_;refine lV (.bool (!decide (g6=98))) (Xn (congrArg Value.bool d3) rfl)<|Zk ?_;exact ⟨rfl,_,_,hm,aa,ad,ae,rfl⟩
     cases hm;exact ⟨rfl,rfl,aa.below⟩
 refine Wi<|Xc ad<|Xc ae ?_;refine go ?_;refine Xq hm (fun d5 hm=>go ?_) fun d5 hm=>go ?_
 ·refine lV (.bool true) (Z1 (congrArg Value.bool d5) rfl)<|X2 rfl<|lP 31 rfl rfl<|lP 31 rfl rfl<|lP 31 rfl rfl<|lP 31 rfl rfl<|lP 31 rfl rfl<|lP 31 rfl rfl<|lP 31 rfl rfl<|lV (.bool true) (Z1 rfl rfl)<|X2 rfl<|lP 40 rfl rfl<|lP 40 rfl rfl<|lP 40 rfl rfl<|lP 40 rfl rfl<|lP 40 rfl rfl<|lP 40 rfl rfl<|lP 40 rfl rfl<|lV (.bool true) (Z1 rfl rfl)<|X2 rfl<|lP 49 rfl rfl<|lP 49 rfl rfl<|lP 49 rfl rfl<|lP 49 rfl rfl<|lP 49 rfl rfl<|lP 49 rfl rfl<|lV (.bool true) (Z1 rfl rfl)<|Zk ?_;exact ⟨rfl,_,_,hm,aa,ad,ae,rfl⟩
 refine Xf ⟨_,_,rfl⟩ ?_;refine go ?_;refine lW ((ad.atN).nth (q:=2) rfl)<|go ?_;refine Xf ⟨_,_,rfl⟩ ?_;refine go ?_;refine lW ((ae.atN).nth (q:=2) rfl)<|go ?_;refine lV (.bool (!decide ((ab.2.2.1.length:Int)=(ac.2.2.1.length:Int)))) (Xn (congrArg Value.bool d5) rfl)<|X2 rfl ?_;refine Xq hm (fun d6 hm=>go ?_) fun d6 hm=>go ?_
 ·refine lV (.bool true) (Z1 (congrArg Value.bool d6) rfl)<|X2 rfl<|lP 40 rfl rfl<|lP 40 rfl rfl<|lP 40 rfl rfl<|lP 40 rfl rfl<|lP 40 rfl rfl<|lP 40 rfl rfl<|lP 40 rfl rfl<|lV (.bool true) (Z1 rfl rfl)<|X2 rfl<|lP 49 rfl rfl<|lP 49 rfl rfl<|lP 49 rfl rfl<|lP 49 rfl rfl<|lP 49 rfl rfl<|lP 49 rfl rfl<|lV (.bool true) (Z1 rfl rfl)<|Zk ?_;exact ⟨rfl,_,_,hm,aa,ad,ae,rfl⟩
 refine Xf ⟨_,_,rfl⟩ ?_;refine go ?_;refine lW ((ad.atN).nth (q:=3) rfl)<|go ?_;refine Xf ⟨_,_,rfl⟩ ?_;refine go ?_;refine lW ((ae.atN).nth (q:=3) rfl)<|go ?_;refine lV (.bool (!decide ((ab.2.2.2.1.length:Int)=(ac.2.2.2.1.length:Int)))) (Xn (congrArg Value.bool d6) rfl)<|X2 rfl ?_;refine Xq hm (fun d7 hm=>go ?_) fun d7 hm=>go ?_
 ·refine lV (.bool true) (Z1 (congrArg Value.bool d7) rfl)<|X2 rfl<|lP 49 rfl rfl<|lP 49 rfl rfl<|lP 49 rfl rfl<|lP 49 rfl rfl<|lP 49 rfl rfl<|lP 49 rfl rfl<|lV (.bool true) (Z1 rfl rfl)<|Zk ?_;exact ⟨rfl,_,_,hm,aa,ad,ae,rfl⟩
 refine Xf ⟨_,_,rfl⟩ ?_;refine go ?_;refine lW ((ad.atN).nth (q:=4) rfl)<|go ?_;refine Xf ⟨_,_,rfl⟩ ?_;refine go ?_;refine lW ((ae.atN).nth (q:=4) rfl)<|go ?_;refine lV (.bool (!decide ((ab.2.2.2.2.length:Int)=(ac.2.2.2.2.length:Int)))) (Xn (congrArg Value.bool d7) rfl)<|X2 rfl ?_;refine Xq hm (fun d8 hm=>go ?_) fun d8 hm=>go ?_
 ·refine lV (.bool true) (Z1 (congrArg Value.bool d8) rfl)<|Zk ?_;exact ⟨rfl,_,_,hm,aa,ad,ae,rfl⟩
 refine Xf ⟨_,_,rfl⟩ ?_;refine go ?_;refine lW ((ad.atN).nth (q:=1) rfl)<|go ?_;refine Xf ⟨_,_,rfl⟩ ?_;refine go ?_;refine lW ((ae.atN).nth (q:=1) rfl)<|go ?_;obtain ⟨g7,g8,hm⟩:=bZ hm;refine Zh (Zqa g8 (cp.ks aa) (cq.ks aa)) ?_;rintro _ g9 ⟨rfl,b0⟩;refine ⟨_,rfl,?_⟩;replace b0:Zg d9 ef d9 g9:=.of_below b0;refine go ?_;refine lV (.bool (!g7)) (Xn (congrArg Value.bool d8) rfl)<|Zk ?_;replace ad:=ad.gr b0;replace ae:=ae.gr b0;replace aa:=aa.grow b0;exact ⟨rfl,_,_,hm,aa,ad,ae,rfl⟩
abbrev Zh2:=ByteArray×List ByteArray×List Ra×List R2×List (List QV)
abbrev VQ:=(Bool×R5)×R5
def Y9 {α:Type} (ms l:List α):Nat×List α:=(l.length,l++ms)
def Vh (x:QV):VQ:=((x.1.1,Y9 [901,902] x.1.2),Y9 [903,904] x.2)
def Zac (k:Int):VQ:=((false,(0,[])),([k].length,[k]))
def W5 (t:List QV):Nat×List VQ:=(t.length,t.map Vh++[Zac 97,Zac 98])
def Ys (n:Zh2):ByteArray×R6×List R6×List R5×List (Nat×List VQ):=
 (n.1,Y9 [⟨#[35,49]⟩,⟨#[35,50]⟩] n.2.1,n.2.2.1.map (Y9 [⟨#[35,51]⟩,⟨#[35,52]⟩]),n.2.2.2.1.map (Y9 [-95,-96]),n.2.2.2.2.map W5)
structure Zki (n:Zh2):Prop where
 nm:n.2.1.length≤1048576
 vn:n.2.2.1.length≤1048576
 vl:∀ l ∈ n.2.2.1,l.length≤1048576
 pn:n.2.2.2.1.length≤1048576
 pl:∀ l ∈ n.2.2.2.1,l.length≤1048576
 tn:n.2.2.2.2.length≤1048576
 tl:∀ t ∈ n.2.2.2.2,t.length≤1048576
 tm:∀ t ∈ n.2.2.2.2,∀ x ∈ t,x.1.2.length≤1048576∧x.2.length≤1048576
theorem Zhz {α:Type} (ms l:List α):Xj (Y9 ms l)=l:=by rw [Xj,Y9];exact List.take_left
theorem Z1i {α:Type} (ms:List α) (L:List (List α)):(L.map (Y9 ms)).map Xj=L:=by
 rw [List.map_map]
 conv=>rhs;rw [← List.map_id L]
 exact List.map_congr_left fun l _=>Zhz ms l
theorem Z3y (x:QV):Prod.map (Prod.map id Xj) Xj (Vh x)=x:=by
 rw [Vh];simp only [Prod.map,id,Zhz]
theorem Z3z (t:List QV):Vk (Prod.map (Prod.map id Xj) Xj) (W5 t)=t:=by
 rw [Vk,W5]
 show List.map _ (List.take t.length (t.map Vh++_))=t
 rw [show t.length=(t.map Vh).length by rw [List.length_map],List.take_left,List.map_map]
 conv=>rhs;rw [← List.map_id t]
 exact List.map_congr_left fun x _=>Z3y x
theorem Z1j (T:List (List QV)):(T.map W5).map (Vk (Prod.map (Prod.map id Xj) Xj))=T:=by
 rw [List.map_map]
 conv=>rhs;rw [← List.map_id T]
 exact List.map_congr_left fun t _=>Z3z t
theorem Zwq (n:Zh2):((Ys n).1,(Ys n).2.1.2.take (Ys n).2.1.1,(Ys n).2.2.1.map Xj,(Ys n).2.2.2.1.map Xj,(Ys n).2.2.2.2.map (Vk (Prod.map (Prod.map id Xj) Xj)))=n:=by
 rw [Ys]
 simp only [Z1i,Z1j]
 have:=Zhz [⟨#[35,49]⟩,⟨#[35,50]⟩] n.2.1
 rw [Xj] at this
 rw [this]
theorem Zzm {x:QV} (h1:x.1.2.length≤1048576) (h2:x.2.length≤1048576):Zha x=some (Vh x):=by
 rw [Zha,Z6 (by simp only [List.length_nil,maxLen];omega),Z6 (by simp only [List.length_append,List.length_nil,List.length_cons,maxLen];omega),Z6 (by simp only [List.length_nil,maxLen];omega),Z6 (by simp only [List.length_append,List.length_nil,List.length_cons,maxLen];omega),Z6 (by simp only [List.length_append,List.length_nil,List.length_cons];omega),Z6 (by simp only [List.length_append,List.length_nil,List.length_cons];omega),Vh,Y9,Y9,List.nil_append,List.nil_append,Int.toNat_natCast,Int.toNat_natCast]
section
variable {N:Nat} {n:Zh2} (hs:Zki n) (hN:1048577<N)
include hs hN
omit hN in
theorem Zsi {m4:ByteArray} {m5:List ByteArray} {m9:List R6} {m13:List R5} {m17:List (Nat×List VQ)} {i:Nat} (hi:i<n.2.2.2.2.length) (hm:m17.length≤1048576) (hib:i≤1048576) (kk:ByteArray→List ByteArray→List R6→List R5→List (Nat×List VQ)→Int→Option (ByteArray×R6×List R6×List R5×List (Nat×List VQ))):∀ (f k:Nat) (l:List VQ),k≤n.2.2.2.2[i].length→n.2.2.2.2[i].length<f+k→l=(n.2.2.2.2[i].take k).map Vh→
  Zeq N n m4 m5 m9 m13 m17 (i:Int) kk f (k:Int) l=kk m4 m5 m9 m13 (m17++[W5 n.2.2.2.2[i]]) ((i:Int)+1)
 | 0,k,l,h1,h2,_=>by omega
 | f+1,k,l,h1,h2,h3=>by
  have ht:=hs.tl _ (List.getElem_mem hi)
  have hl:l.length=k:=by rw [h3,List.length_map,List.length_take];omega
  rw [Zeq.eq_2,Zz hi,Option.bind_some]
  by_cases hk:k<n.2.2.2.2[i].length
  ·obtain ⟨x1,x2⟩:=hs.tm _ (List.getElem_mem hi) _ (List.getElem_mem hk)
   have hc:Zha (((n.2.2.2.2[i][k]).1.1,(n.2.2.2.2[i][k]).1.2),(n.2.2.2.2[i][k]).2)=some (Vh n.2.2.2.2[i][k]):=Zzm (x:=n.2.2.2.2[i][k]) x1 x2
   rw [if_pos (decide_eq_true (by omega)),Zz hk,Option.bind_some,hc,Option.bind_some,Z6 (by simp only [List.length_singleton,maxLen];omega),Zr (by omega)]
   exact Zsi hi hm hib kk f (k+1) _ (by omega) (by omega) (by rw [h3,List.take_add_one,List.getElem?_eq_getElem hk,Option.toList_some,List.map_append];rfl)
  ·have hk2:k=n.2.2.2.2[i].length:=by omega
   rw [if_neg (by rw [decide_eq_false (by omega)];decide),Z6 (by simp only [List.length_cons,List.length_nil,maxLen];omega),Z6 (by simp only [List.length_append,List.length_cons,List.length_nil];omega),Z6 (by simp only [List.length_singleton,maxLen];omega),Zr (by omega),Int.toNat_natCast,h3,hk2,List.take_length]
   rfl
theorem Zsh {m4:ByteArray} {m5:List ByteArray} {m9:List R6} {m13:List R5}:∀ (f i:Nat) (m17:List (Nat×List VQ)),i≤n.2.2.2.2.length→n.2.2.2.2.length<f+i→m17=(n.2.2.2.2.take i).map W5→
  Zci N n f m4 m5 m9 m13 m17 (i:Int)=some (m4,(n.2.1.length,m5),m9,m13,n.2.2.2.2.map W5)
 | 0,i,m17,h1,h2,_=>by omega
 | f+1,i,m17,h1,h2,h3=>by
  have htn:=hs.tn
  have hl:m17.length=i:=by rw [h3,List.length_map,List.length_take];omega
  rw [Zci.eq_2]
  by_cases hi:i<n.2.2.2.2.length
  ·have ht:=hs.tl _ (List.getElem_mem hi)
   rw [if_pos (decide_eq_true (by omega)),show (0:Int)=((0:Nat):Int) from rfl,Zsi hs hi (by omega) (by omega) _ N 0 [] (by omega) (by omega) (by simp)]
   exact Zsh f (i+1) _ (by omega) (by omega) (by rw [h3,List.take_add_one,List.getElem?_eq_getElem hi,Option.toList_some,List.map_append];rfl)
  ·rw [if_neg (by rw [decide_eq_false (by omega)];decide),h3,List.take_of_length_le (by omega),Int.toNat_natCast]
theorem Zsg {m4:ByteArray} {m5:List ByteArray} {m9:List R6}:∀ (f i:Nat) (m13:List R5),i≤n.2.2.2.1.length→n.2.2.2.1.length<f+i→m13=(n.2.2.2.1.take i).map (Y9 [-95,-96])→
  Zep N n f m4 m5 m9 m13 [] (i:Int)=some (m4,(n.2.1.length,m5),m9,n.2.2.2.1.map (Y9 [-95,-96]),n.2.2.2.2.map W5)
 | 0,i,m13,h1,h2,_=>by omega
 | f+1,i,m13,h1,h2,h3=>by
  have hpn:=hs.pn;have htn:=hs.tn
  have hl:m13.length=i:=by rw [h3,List.length_map,List.length_take];omega
  rw [Zep.eq_2]
  by_cases hi:i<n.2.2.2.1.length
  ·have ht:=hs.pl _ (List.getElem_mem hi)
   rw [if_pos (decide_eq_true (by omega)),Zz hi,Option.bind_some,Z6 (by simp only [List.length_nil,maxLen];omega),Z6 (by simp only [List.length_append,List.length_nil,List.length_cons,maxLen];omega),Z6 (by simp only [List.length_append,List.length_nil,List.length_cons];omega),Z6 (by simp only [List.length_singleton,maxLen];omega),Zr (by omega)]
   exact Zsg f (i+1) _ (by omega) (by omega) (by rw [h3,List.take_add_one,List.getElem?_eq_getElem hi,Option.toList_some,List.map_append];rfl)
  ·rw [if_neg (by rw [decide_eq_false (by omega)];decide),show (0:Int)=((0:Nat):Int) from rfl,Zsh hs hN N 0 [] (by omega) (by omega) (by simp),h3,List.take_of_length_le (by omega)]
theorem Zsf {m4:ByteArray} {m5:List ByteArray}:∀ (f i:Nat) (m9:List R6),i≤n.2.2.1.length→n.2.2.1.length<f+i→m9=(n.2.2.1.take i).map (Y9 [⟨#[35,51]⟩,⟨#[35,52]⟩])→
  Zeo N n f m4 m5 m9 [] [] (i:Int)=some (m4,(n.2.1.length,m5),n.2.2.1.map (Y9 [⟨#[35,51]⟩,⟨#[35,52]⟩]),n.2.2.2.1.map (Y9 [-95,-96]),n.2.2.2.2.map W5)
 | 0,i,m9,h1,h2,_=>by omega
 | f+1,i,m9,h1,h2,h3=>by
  have hpn:=hs.vn;have htn:=hs.pn
  have hl:m9.length=i:=by rw [h3,List.length_map,List.length_take];omega
  rw [Zeo.eq_2]
  by_cases hi:i<n.2.2.1.length
  ·have ht:=hs.vl _ (List.getElem_mem hi)
   rw [if_pos (decide_eq_true (by omega)),Zz hi,Option.bind_some,Z6 (by simp only [List.length_nil,maxLen];omega),Z6 (by simp only [List.length_append,List.length_nil,List.length_cons,maxLen];omega),Z6 (by simp only [List.length_append,List.length_nil,List.length_cons];omega),Z6 (by simp only [List.length_singleton,maxLen];omega),Zr (by omega)]
   exact Zsf f (i+1) _ (by omega) (by omega) (by rw [h3,List.take_add_one,List.getElem?_eq_getElem hi,Option.toList_some,List.map_append];rfl)
  ·rw [if_neg (by rw [decide_eq_false (by omega)];decide),show (0:Int)=((0:Nat):Int) from rfl,Zsg hs hN N 0 [] (by omega) (by omega) (by simp),h3,List.take_of_length_le (by omega)]
theorem Z08:Zhc N n=some (Ys n):=by
 have hnm:=hs.nm;have hvn:=hs.vn
 rw [Zhc,Z6 (by simp only [List.length_nil,maxLen];omega),Z6 (by simp only [List.length_append,List.length_nil,List.length_cons,maxLen];omega),Z6 (by simp only [List.length_append,List.length_nil,List.length_cons];omega),show (0:Int)=((0:Nat):Int) from rfl,Zsf hs hN N 0 [] (by omega) (by omega) (by simp)]
 rfl
end
theorem Zwf {α:Type} (ms l:List α):(Y9 ms l).2.take (Y9 ms l).1=l:=Zhz ms l
theorem Zn0 {α:Type} (ms l:List α):(Y9 ms l).2.length=l.length+ms.length:=by rw [Y9];exact List.length_append
theorem Ze9 {α:Type} {ms l:List α} {j k:Nat} (hj:j<ms.length) (hk:l.length+j<k):Zn ((l++ms).take k) ((l.length+j:Nat):Int)=some ms[j]:=by
 rw [U5,List.getElem?_take,if_pos hk,List.getElem?_append_right (by omega),show l.length+j - l.length=j by omega,List.getElem?_eq_getElem hj]
theorem Zwg {N:Nat} {l:List ByteArray} {one two:ByteArray} (hl:l.length≤1048576):∀ (f i:Nat),i≤l.length→l.length<f+i→Zev N l.length (l++[one,two]) l one two f (i:Int)=some true
 | 0,i,h1,h2=>by omega
 | f+1,i,h1,h2=>by
  have e:(l++[one,two]).take l.length=l:=List.take_left
  rw [Zev.eq_2,e]
  by_cases hi:i<l.length
  ·rw [if_pos (decide_eq_true (by omega)),Zz hi,Option.bind_some,Option.bind_some,if_neg (by rw [decide_eq_true rfl];decide),Zr (by omega)]
   exact Zwg hl f (i+1) (by omega) (by omega)
  ·have a0:=Ze9 (ms:=[one,two]) (l:=l) (j:=0) (k:=l.length+2) (by simp) (by omega)
   have a1:=Ze9 (ms:=[one,two]) (l:=l) (j:=1) (k:=l.length+2) (by simp) (by omega)
   rw [if_neg (by rw [decide_eq_false (by omega)];decide),Zr (x:=(l.length:Int)+2) (by omega),Z6 (by simp only [List.length_append,List.length_cons,List.length_nil];omega),show Int.toNat ((l.length:Int)+2)=l.length+2 by omega]
   simp only [Nat.add_zero] at a0
   rw [a0,Option.bind_some,show [one,two][0]=one from rfl,if_pos (decide_eq_true rfl),Zr (by omega),show (l.length:Int)+1=((l.length+1:Nat):Int) by omega,a1,Option.bind_some,Zjo]
   simp
theorem Zwh {N:Nat} {l:List ByteArray} {one two:ByteArray} (hl:l.length≤1048576) (hN:1048577<N):Zeu N (Y9 [one,two] l).1 (Y9 [one,two] l).2 l one two=some true:=by
 have e:(l++[one,two]).take l.length=l:=List.take_left
 rw [Zeu,Y9,e,if_neg (by rw [decide_eq_true rfl];decide)]
 exact Zwg hl N 0 (by omega) (by omega)
theorem Zv0 {N:Nat} {x:QV} (h1:x.1.2.length≤1048576):∀ (f i:Nat),i≤x.1.2.length→x.1.2.length<f+i→Zet N x x f (i:Int)=some true
 | 0,i,g1,g2=>by omega
 | f+1,i,g1,g2=>by
  rw [Zet.eq_2]
  by_cases hi:i<x.1.2.length
  ·rw [if_pos (decide_eq_true (by omega)),Zz hi,Option.bind_some,Option.bind_some,if_neg (by rw [decide_eq_true rfl];decide),Zr (by omega)]
   exact Zv0 h1 f (i+1) (by omega) (by omega)
  ·rw [if_neg (by rw [decide_eq_false (by omega)];decide)]
theorem Zvz {N:Nat} {x:QV} (h1:x.1.2.length≤1048576) (h2:x.2.length≤1048576) (hN:1048577<N):∀ (f i:Nat),i≤x.2.length→x.2.length<f+i→Zes N x x f (i:Int)=some true
 | 0,i,g1,g2=>by omega
 | f+1,i,g1,g2=>by
  rw [Zes.eq_2]
  by_cases hi:i<x.2.length
  ·rw [if_pos (decide_eq_true (by omega)),Zz hi,Option.bind_some,Option.bind_some,if_neg (by rw [decide_eq_true rfl];decide),Zr (by omega)]
   exact Zvz h1 h2 hN f (i+1) (by omega) (by omega)
  ·rw [if_neg (by rw [decide_eq_false (by omega)];decide)]
   exact Zv0 h1 N 0 (by omega) (by omega)
theorem Z3k {N:Nat} {x:QV} (h1:x.1.2.length≤1048576) (h2:x.2.length≤1048576) (hN:1048577<N):Zhe N x x=some true:=by
 rw [Zhe,if_neg (by rw [decide_eq_true rfl];decide),if_neg (by rw [decide_eq_true rfl];decide),Zhf,if_neg (by rw [decide_eq_true rfl];decide)]
 exact Zvz h1 h2 hN N 0 (by omega) (by omega)
section
variable {N:Nat} {n:Zh2} (hs:Zki n) (hN:1048577<N)
include hs hN
theorem Zr1 {i:Nat} (hi:i<n.2.2.2.2.length) (kk:Int→Option Bool):∀ (f j:Nat),j≤n.2.2.2.2[i].length→n.2.2.2.2[i].length<f+j→
  So N (Ys n) n (i:Int) kk n.2.2.2.2[i] f (j:Int)=kk ((i:Int)+1)
 | 0,j,h1,h2=>by omega
 | f+1,j,h1,h2=>by
  have ht:=hs.tl _ (List.getElem_mem hi)
  have htn:=hs.tn
  have hm:Zn (Ys n).2.2.2.2 (i:Int)=some (W5 n.2.2.2.2[i]):=by
   rw [U5]
   show (n.2.2.2.2.map W5)[i]?=_
   rw [List.getElem?_map,List.getElem?_eq_getElem hi];rfl
  rw [So.eq_2,hm,Option.bind_some,Option.bind_some]
  generalize hT:n.2.2.2.2[i]=t at *
  by_cases hj:j<t.length
  ·have hmem:t ∈ n.2.2.2.2:=by rw [← hT];exact List.getElem_mem hi
   obtain ⟨x1,x2⟩:=hs.tm _ hmem _ (List.getElem_mem hj)
   have e1:Zn ((W5 t).2.take (W5 t).1) (j:Int)=some (Vh t[j]):=by
    rw [U5,W5,List.getElem?_take,if_pos hj,List.getElem?_append_left (by rw [List.length_map];exact hj),List.getElem?_map,List.getElem?_eq_getElem hj];rfl
   rw [if_pos (decide_eq_true (by omega)),e1,Option.bind_some]
   obtain ⟨x,hx⟩:∃ x,x=t[j]:=⟨_,rfl⟩
   rw [← hx] at x1 x2 ⊢
   have v1:(Vh x).1.2.2.take (Vh x).1.2.1=x.1.2:=Zhz _ _
   have v2:(Vh x).2.2.take (Vh x).2.1=x.2:=Zhz _ _
   have l1:(Vh x).1.2.2.length=x.1.2.length+2:=Zn0 _ _
   have l2:(Vh x).2.2.length=x.2.length+2:=Zn0 _ _
   have hat:Zn n.2.2.2.2 (i:Int)=some t:=by rw [Zz hi,hT]
   have sm:Zhe N (((Vh x).1.1,x.1.2),x.2) ((x.1.1,x.1.2),x.2)=some true:=Z3k (x:=x) x1 x2 hN
   have t1:(Vh x).1.2.2.take (x.1.2.length+2)=x.1.2++[901,902]:=List.take_of_length_le (by rw [l1];omega)
   have t2:(Vh x).2.2.take (x.2.length+2)=x.2++[903,904]:=List.take_of_length_le (by rw [l2];omega)
   have q:∀ (l:List Int) (a b:Int),Zn (l++[a,b]) ((l.length:Int)+2 - 1)=some b∧Zn (l++[a,b]) ((l.length:Int)+2 - 2)=some a:=fun l a b=>by
    constructor
    ·rw [show (l.length:Int)+2 - 1=((l.length+1:Nat):Int) by omega,U5,List.getElem?_append_right (by omega),show l.length+1 - l.length=1 by omega];rfl
    ·rw [show (l.length:Int)+2 - 2=((l.length:Nat):Int) by omega,U5,List.getElem?_append_right (by omega),show l.length - l.length=0 by omega];rfl
   have ql:∀ (l:List Int) (a b:Int),((l++[a,b]).length:Int)=(l.length:Int)+2:=fun l a b=>by simp
   rw [v1,v2,l1,l2,Zr (x:=(x.1.2.length:Int)+2) (by omega),Zr (x:=(x.2.length:Int)+2) (by omega),Z6 (by omega),Z6 (by omega),hat,Option.bind_some,Zz hj,Option.bind_some,← hx,sm,Option.bind_some,if_neg (by decide),
    show Int.toNat ((x.1.2.length:Int)+2)=x.1.2.length+2 by omega,show Int.toNat ((x.2.length:Int)+2)=x.2.length+2 by omega,t1,t2,ql,ql,Zr (x:=(x.1.2.length:Int)+2 - 1) (by omega),Zr (x:=(x.1.2.length:Int)+2 - 2) (by omega),Zr (x:=(x.2.length:Int)+2 - 1) (by omega),Zr (x:=(x.2.length:Int)+2 - 2) (by omega),
    (q x.1.2 901 902).1,Option.bind_some,if_neg (by decide),(q x.1.2 901 902).2,Option.bind_some,if_neg (by decide),(q x.2 903 904).1,Option.bind_some,if_neg (by decide),(q x.2 903 904).2,Option.bind_some,Zch,if_neg (by decide),Zr (by omega)]
   have ih:=Zr1 hi kk f (j+1) (by rw [hT];omega) (by rw [hT];omega)
   rw [hT] at ih
   exact ih
  ·have b0:Zn ((W5 t).2.take (t.length+2)) (t.length:Int)=some (Zac 97):=by
    have:=Ze9 (ms:=[Zac 97,Zac 98]) (l:=t.map Vh) (j:=0) (k:=t.length+2) (by simp) (by rw [List.length_map];omega)
    rw [List.length_map,Nat.add_zero] at this
    exact this
   have b1:Zn ((W5 t).2.take (t.length+2)) ((t.length:Int)+1)=some (Zac 98):=by
    have:=Ze9 (ms:=[Zac 97,Zac 98]) (l:=t.map Vh) (j:=1) (k:=t.length+2) (by simp) (by rw [List.length_map];omega)
    rw [List.length_map] at this
    exact this
   have bl:(W5 t).2.length=t.length+2:=by rw [W5];simp
   have c0:∀ k:Int,(Zac k).2.2.take (Zac k).2.1=[k]:=fun k=>rfl
   rw [if_neg (by rw [decide_eq_false (by omega)];decide),Zr (x:=(t.length:Int)+2) (by omega),Z6 (by omega),show Int.toNat ((t.length:Int)+2)=t.length+2 by omega,b0,Option.bind_some,c0,if_neg (by decide),show Zn [(97:Int)] 0=some 97 from rfl,Option.bind_some,if_neg (by decide),Zr (x:=(t.length:Int)+1) (by omega),b1,Option.bind_some,c0,if_neg (by decide),show Zn [(98:Int)] 0=some 98 from rfl,Option.bind_some,Zel,if_neg (by decide),Zr (by omega)]
theorem Zr0:∀ (f i:Nat),i≤n.2.2.2.2.length→n.2.2.2.2.length<f+i→Qf N (Ys n) n f (i:Int)=some true
 | 0,i,h1,h2=>by omega
 | f+1,i,h1,h2=>by
  have htn:=hs.tn
  rw [Qf.eq_2]
  by_cases hi:i<n.2.2.2.2.length
  ·have ht:=hs.tl _ (List.getElem_mem hi)
   have hm:Zn (Ys n).2.2.2.2 (i:Int)=some (W5 n.2.2.2.2[i]):=by
    rw [U5]
    show (n.2.2.2.2.map W5)[i]?=_
    rw [List.getElem?_map,List.getElem?_eq_getElem hi];rfl
   have hl:((W5 n.2.2.2.2[i]).2.take (W5 n.2.2.2.2[i]).1).length=n.2.2.2.2[i].length:=by rw [W5,List.length_take];simp
   have h5:=Zr1 hs hN hi (Qf N (Ys n) n f) N 0 (by omega) (by omega)
   rw [show ((0:Nat):Int)=0 from rfl] at h5
   rw [if_pos (decide_eq_true (by omega)),Zz hi,Option.bind_some,hm,Option.bind_some,hl,if_neg (by rw [decide_eq_true rfl];decide),h5]
   exact Zr0 f (i+1) (by omega) (by omega)
  ·rw [if_neg (by rw [decide_eq_false (by omega)];decide)]
omit hN in
theorem Zrz {i:Nat} (hi:i<n.2.2.2.1.length) (kk:Int→Option Bool):∀ (f j:Nat),j≤n.2.2.2.1[i].length→n.2.2.2.1[i].length<f+j→Zen N (Ys n) n (i:Int) kk n.2.2.2.1[i] f (j:Int)=kk ((i:Int)+1)
 | 0,j,h1,h2=>by omega
 | f+1,j,h1,h2=>by
  have ht:=hs.pl _ (List.getElem_mem hi)
  have hpn:=hs.pn
  have hm:Zn (Ys n).2.2.2.1 (i:Int)=some (Y9 [-95,-96] n.2.2.2.1[i]):=by
   rw [U5]
   show (n.2.2.2.1.map (Y9 [-95,-96]))[i]?=_
   rw [List.getElem?_map,List.getElem?_eq_getElem hi];rfl
  rw [Zen.eq_2,hm,Option.bind_some,Option.bind_some,Zwf]
  by_cases hj:j<n.2.2.2.1[i].length
  ·rw [if_pos (decide_eq_true (by omega)),Zz hj,Option.bind_some,Zz hi,Option.bind_some,Zz hj,Option.bind_some,if_neg (by rw [decide_eq_true rfl];decide),Zr (by omega)]
   exact Zrz hi kk f (j+1) (by omega) (by omega)
  ·have a0:=Ze9 (ms:=[-95,-96]) (l:=n.2.2.2.1[i]) (j:=0) (k:=n.2.2.2.1[i].length+2) (by simp) (by omega)
   have a1:=Ze9 (ms:=[-95,-96]) (l:=n.2.2.2.1[i]) (j:=1) (k:=n.2.2.2.1[i].length+2) (by simp) (by omega)
   simp only [Nat.add_zero] at a0
   have hl:(Y9 [-95,-96] n.2.2.2.1[i]).2=n.2.2.2.1[i]++[-95,-96]:=rfl
   rw [if_neg (by rw [decide_eq_false (by omega)];decide),Zr (x:=(n.2.2.2.1[i].length:Int)+2) (by omega),Z6 (by rw [Zn0];simp only [List.length_cons,List.length_nil];omega),show Int.toNat ((n.2.2.2.1[i].length:Int)+2)=n.2.2.2.1[i].length+2 by omega,hl,a0,Option.bind_some,if_neg (by decide),Zr (by omega),show (n.2.2.2.1[i].length:Int)+1=((n.2.2.2.1[i].length+1:Nat):Int) by omega,a1,Option.bind_some,Zjn,if_neg (by decide),Zr (by omega)]
theorem Zry:∀ (f i:Nat),i≤n.2.2.2.1.length→n.2.2.2.1.length<f+i→Zab N (Ys n) n f (i:Int)=some true
 | 0,i,h1,h2=>by omega
 | f+1,i,h1,h2=>by
  have htn:=hs.pn;have htn2:=hs.tn
  rw [Zab.eq_2]
  by_cases hi:i<n.2.2.2.1.length
  ·have ht:=hs.pl _ (List.getElem_mem hi)
   have hm:Zn (Ys n).2.2.2.1 (i:Int)=some (Y9 [-95,-96] n.2.2.2.1[i]):=by
    rw [U5]
    show (n.2.2.2.1.map (Y9 [-95,-96]))[i]?=_
    rw [List.getElem?_map,List.getElem?_eq_getElem hi];rfl
   have h5:=Zrz (N:=N) hs hi (Zab N (Ys n) n f) N 0 (by omega) (by omega)
   rw [show ((0:Nat):Int)=0 from rfl] at h5
   rw [if_pos (decide_eq_true (by omega)),Zz hi,Option.bind_some,hm,Option.bind_some,Zwf,if_neg (by rw [decide_eq_true rfl];decide),h5]
   exact Zry f (i+1) (by omega) (by omega)
  ·rw [if_neg (by rw [decide_eq_false (by omega)];decide)]
   exact Zr0 hs hN N 0 (by omega) (by omega)
theorem Zrx:∀ (f i:Nat),i≤n.2.2.1.length→n.2.2.1.length<f+i→Zem N (Ys n) n f (i:Int)=some true
 | 0,i,h1,h2=>by omega
 | f+1,i,h1,h2=>by
  have htn:=hs.vn;have htn2:=hs.pn
  rw [Zem.eq_2]
  by_cases hi:i<n.2.2.1.length
  ·have ht:=hs.vl _ (List.getElem_mem hi)
   have hm:Zn (Ys n).2.2.1 (i:Int)=some (Y9 [⟨#[35,51]⟩,⟨#[35,52]⟩] n.2.2.1[i]):=by
    rw [U5]
    show (n.2.2.1.map (Y9 [⟨#[35,51]⟩,⟨#[35,52]⟩]))[i]?=_
    rw [List.getElem?_map,List.getElem?_eq_getElem hi];rfl
   rw [if_pos (decide_eq_true (by omega)),hm,Option.bind_some,Zz hi,Option.bind_some,Zwh ht hN,Option.bind_some,if_neg (by decide),Zr (by omega)]
   exact Zrx f (i+1) (by omega) (by omega)
  ·rw [if_neg (by rw [decide_eq_false (by omega)];decide)]
   exact Zry hs hN N 0 (by omega) (by omega)
theorem Z0w:Zhb N (Ys n) n=some true:=by
 have h1:=hs.nm;have h2:=hs.vn
 have l1:(Ys n).2.2.1.length=n.2.2.1.length:=by show (n.2.2.1.map _).length=_;rw [List.length_map]
 have l2:(Ys n).2.2.2.1.length=n.2.2.2.1.length:=by show (n.2.2.2.1.map _).length=_;rw [List.length_map]
 have l3:(Ys n).2.2.2.2.length=n.2.2.2.2.length:=by show (n.2.2.2.2.map _).length=_;rw [List.length_map]
 have t1:Zeu N (Ys n).2.1.1 (Ys n).2.1.2 n.2.1 (⟨#[35,49]⟩) (⟨#[35,50]⟩)=some true:=Zwh h1 hN
 rw [Zhb,l1,l2,l3,if_neg (by rw [show (Ys n).1=n.1 from rfl,decide_eq_true rfl];decide),if_neg (by rw [decide_eq_true rfl];decide),if_neg (by rw [decide_eq_true rfl];decide),if_neg (by rw [decide_eq_true rfl];decide),t1,Option.bind_some,Zcg,if_neg (by decide)]
 exact Zrx hs hN N 0 (by omega) (by omega)
end
def Zhd (ae:R1) (aa:Int) (kk_L1:(Int→Int→Option Int)) (ab:Int) (ac:Int) (kk_L2:(Int→Int→Option Int)) (af:Bool):Option Int:=
  if af=true then ((Zn ae.2.2.2.2 aa).bind fun ag=>(Zn ag ac).bind fun ad=>kk_L2 (i64.wrap ((i64.wrap (ab+(ad.1.2.length:Int)))+(ad.2.length:Int))) (i64.wrap (ac+1))) else (kk_L1 ab (i64.wrap (aa+1)))
def Za6 (N:Nat) (aa:R1) (ab:Int) (kk_L1:(Int→Int→Option Int)):Nat→Int→Int→Option Int
  | 0,_,_=>none
  | ae+1,ac,ad=>(Zn aa.2.2.2.2 ab).bind fun af=>if (decide (ad<(af.length:Int)))=true then (Zhd aa ab kk_L1 ac ad (Za6 N aa ab kk_L1 ae) (decide (ac<10000))) else (Zhd aa ab kk_L1 ac ad (Za6 N aa ab kk_L1 ae) false)
termination_by structural x=>x
def Qg (N:Nat) (aa:R1):Nat→Int→Int→Option Int
  | 0,_,_=>none
  | ad+1,ab,ac=>if (decide (ac<(aa.2.2.2.2.length:Int)))=true then (Za6 N aa ac (Qg N aa ad) N ab 0) else (some (if 10000<ab then 10000 else ab))
termination_by structural x=>x
def Zln (N:Nat) (aa:R1):Option Int:=
  Qg N aa N 0 0
theorem Zyw {N al am an ao:Nat} {ap aq ar au:Option Addr} {col:Zd} {w0:World} {aa:R1} {r:Int} (hm:Zln N aa=some r) (bs:Sl Za.str col w0 ap al aa.2.1) (bt:Sl (Za.slice Za.str) col w0 aq am aa.2.2.1) (bu:Sl (Za.slice (Za.int .i64)) col w0 ar an aa.2.2.2.1) (ag:Sl (Za.slice (Za.pair (Za.pair Za.bool (Za.slice (Za.int .u32))) (Za.slice (Za.int .u32)))) col w0 au ao aa.2.2.2.2):
    Calls Tryz.prog 84 #[(.agg #[.string aa.1,.slice ap aa.2.1.length al,.slice aq aa.2.2.1.length am,.slice ar aa.2.2.2.1.length an,.slice au aa.2.2.2.2.length ao])] w0 (fun e w'=>e= .returned ((.int .i64 r))∧Below w0.heap.size w0 w'):=by
 refine Xe 2 (m:=53) func84 rfl rfl rfl rfl rfl ?_;rw [Zln.eq_1] at hm;have ab:=St.start col w0;refine go ?_;refine Xi (col:=(Zi col)) 1 rfl ?_;intro ay bv bw a8 ac;refine go ?_;replace ab:=ab.grow a8;refine Zy [1,1000000] (fun n f az=>∃ a0 ai aj ae,ae=n∧Qg N aa ae ai aj=some r∧St w0 (Zi col) a0 az∧Zl 27 1 a0 az ay #[.string aa.1,.slice ap aa.2.1.length al,.slice aq aa.2.2.1.length am,.slice ar aa.2.2.2.1.length an,.slice au aa.2.2.2.2.length ao]∧[3,4].map f=[.int .i64 ai,.int .i64 aj]) N ⟨_,0,0,_,rfl,hm,ab,ac,rfl⟩ ?_;clear hm;intro n f az hI;obtain ⟨a0,ai,aj,ae,hn,hm,ab,ac,hs⟩:=hI;subst hn;refine .lL [3,4] hs ?_;replace ag:=ag.keep (Zj.start col w0)
 cases ae with
 | zero=>rw [Qg.eq_1] at hm;cases hm
 | succ ae=>
  rw [Qg.eq_2] at hm;refine go ?_;refine Xc ac ?_;refine go ?_;refine Zp hm (fun hb hm=>go ?_) fun hb hm=>go ?_
  ·refine Zy [1,4,1000000] (fun n f a1=>∃ a2 av aw ah,ah=n∧Za6 N aa aj (Qg N aa ae) ah av aw=some r∧St w0 (Zi col) a2 a1∧Zl 27 1 a2 a1 ay #[.string aa.1,.slice ap aa.2.1.length al,.slice aq aa.2.2.1.length am,.slice ar aa.2.2.2.1.length an,.slice au aa.2.2.2.2.length ao]∧[3,5].map f=[.int .i64 av,.int .i64 aw]) N ⟨_,_,0,_,rfl,hm,ab,ac,rfl⟩ ?_;clear hm;intro n f a1 hI;obtain ⟨a2,av,aw,ah,hn,hm,ab,ac,hs⟩:=hI;subst hn;refine .lL [3,5] hs ?_
   cases ah with
   | zero=>rw [Za6.eq_1] at hm;cases hm
   | succ ah=>
    rw [Za6.eq_2] at hm;refine Zu<|Zu ?_;refine Wp.cutK [1,3,4,5,1000000] (fun f a3=>∃ ad a4,Zhd aa aj (Qg N aa ae) av aw (Za6 N aa aj (Qg N aa ae) ah) a4=some r∧St w0 (Zi col) ad a3∧Zl 27 1 ad a3 ay #[.string aa.1,.slice ap aa.2.1.length al,.slice aq aa.2.2.1.length am,.slice ar aa.2.2.2.1.length an,.slice au aa.2.2.2.2.length ao]∧[24].map f=[.bool a4]) ?_ ?_
    ·intro f a3 hJ;obtain ⟨ad,a4,hm,ab,ac,hs⟩:=hJ;rw [Zhd.eq_1] at hm;refine .lL [24] hs ?_;refine Zp hm (fun hb hm=>go ?_) fun hb hm=>go ?_
     ·refine Wo (col:=ad) (by kernel_rfl) (by kernel_rfl)<|go ?_;refine qF ⟨_,_,rfl⟩ ?_;refine qW (fun _ hC=>((ac.atN).nth (q:=4) rfl).gr (hC.bl ad)) ?_;refine go ?_;obtain ⟨bx,ak,hm⟩:=bZ hm;refine qI ak ((ag.ks ab).addr ak) ?_;obtain ⟨_,a9,ba⟩:=(ag.ks ab).atN ak;obtain ⟨⟨bz,b0,rfl,ax⟩,_⟩:=a9;refine qW (fun _ hC=>ba.one.gr (hC.bl ad)) ?_;refine go ?_;obtain ⟨b1,af,hm⟩:=bZ hm;refine qI af (ax.addr af)<|qF (Wn (ax.addr af)) ?_;refine qF (Wn (Wn (ax.addr af))) ?_;obtain ⟨_,bb,bc⟩:=ax.atN af;obtain ⟨_,_,rfl,bd,be⟩:=Yn bb;obtain ⟨_,_,rfl,bf,bg⟩:=Yn bd;obtain ⟨rfl,_⟩:=bf;obtain ⟨⟨b2,b3,rfl,b4⟩,_⟩:=bg;obtain ⟨⟨b5,b6,rfl,b7⟩,_⟩:=be;refine qW (fun _ hC=>((((bc).part 0 2 _ rfl)).nth (q:=1) rfl).gr (hC.bl ad)) ?_;refine go ?_;refine qF ⟨_,_,rfl⟩ ?_;refine qW (fun _ hC=>((ac.atN).nth (q:=4) rfl).gr (hC.bl ad)) ?_;refine go ?_;refine qI ak ((ag.ks ab).addr ak) ?_;obtain ⟨_,bh,bi⟩:=(ag.ks ab).atN ak;obtain ⟨⟨b8,b9,rfl,a5⟩,_⟩:=bh;refine qW (fun _ hC=>bi.one.gr (hC.bl ad)) ?_;refine go ?_;refine qI af (a5.addr af)<|qF (Wn (a5.addr af)) ?_;obtain ⟨_,bj,bk⟩:=a5.atN af;obtain ⟨_,_,rfl,bm,bn⟩:=Yn bj;obtain ⟨_,_,rfl,bo,bp⟩:=Yn bm;obtain ⟨rfl,_⟩:=bo;obtain ⟨⟨ca,cb,rfl,cc⟩,_⟩:=bp;obtain ⟨⟨cd,ce,rfl,cf⟩,_⟩:=bn;refine qW (fun _ hC=>((bk).nth (q:=2) rfl).gr (hC.bl ad)) ?_;refine go ?_;refine Yl ?_;intro cg hC;replace hC:=hC.bl ad;refine go ?_;replace ac:=ac.gr hC;replace ab:=ab.grow hC;exact ⟨ah,by omega,rfl,⟨_,_,_,_,rfl,hm,ab,ac,rfl⟩⟩
     exact ⟨ae,by omega,rfl,⟨_,_,_,_,rfl,hm,ab,ac,rfl⟩⟩
    refine go ?_;refine Xc ac<|X3 rfl ?_;obtain ⟨ch,a6,hm⟩:=bZ hm;refine lI a6 ((ag.ks ab).addr a6) ?_;obtain ⟨_,bq,br⟩:=(ag.ks ab).atN a6;obtain ⟨⟨ci,cj,rfl,ck⟩,_⟩:=bq;refine lW br.one<|go ?_;refine Xq hm (fun a7 hm=>go ?_) fun a7 hm=>go ?_
    ·refine lV (.bool (decide (av<10000))) (Z1 (congrArg Value.bool a7) rfl)<|Zk ?_;exact ⟨rfl,_,_,hm,ab,ac,rfl⟩
    refine lV (.bool false) (Xn (congrArg Value.bool a7) rfl)<|Zk ?_;exact ⟨rfl,_,_,hm,ab,ac,rfl⟩
  refine lV (.int .i64 (if 10000<ai then 10000 else ai)) (Zos ai 10000 rfl rfl)<|go ?_;cases hm;exact ⟨rfl,rfl,ab.below⟩
def Zfx (aa:Bool):Option Bool:=
  some aa
def Zdo (N:Nat) (aa:R1) (ab:Int) (ac:Int) (kk_L1:(Int→Int→Option Bool)) (ad:Bool):Option Bool:=
  if ad=true then ((Zn aa.2.2.2.2 ac).bind fun ae=>kk_L1 (i64.wrap (ab+(ae.length:Int))) (i64.wrap (ac+1))) else (if (decide (12<(aa.2.1.length:Int)))=true then (Zfx true) else (if (decide (600<ab))=true then (Zfx true) else (if (decide (12<(aa.2.2.2.2.length:Int)))=true then (Zfx true) else ((Zln N (aa.1,aa.2.1,aa.2.2.1,aa.2.2.2.1,aa.2.2.2.2)).bind fun af=>Zfx (decide (3000<af))))))
def Q2 (N:Nat) (aa:R1):Nat→Int→Int→Option Bool
  | 0,_,_=>none
  | ac+1,ad,ab=>if (decide (ab<(aa.2.2.2.2.length:Int)))=true then (Zdo N aa ad ab (Q2 N aa ac) (decide (ab<13))) else (Zdo N aa ad ab (Q2 N aa ac) false)
termination_by structural x=>x
def Ziu (N:Nat) (aa:R1):Option Bool:=
  Q2 N aa N 0 0
theorem Zxs {N ai aj ak al:Nat} {am an ao ap:Option Addr} {col:Zd} {w0:World} {aa:R1} {r:Bool} (hm:Ziu N aa=some r) (ar:Sl Za.str col w0 am ai aa.2.1) (au:Sl (Za.slice Za.str) col w0 an aj aa.2.2.1) (av:Sl (Za.slice (Za.int .i64)) col w0 ao ak aa.2.2.2.1) (ae:Sl (Za.slice (Za.pair (Za.pair Za.bool (Za.slice (Za.int .u32))) (Za.slice (Za.int .u32)))) col w0 ap al aa.2.2.2.2):
    Calls Tryz.prog 21 #[(.agg #[.string aa.1,.slice am aa.2.1.length ai,.slice an aa.2.2.1.length aj,.slice ao aa.2.2.2.1.length ak,.slice ap aa.2.2.2.2.length al])] w0 (fun e w'=>e= .returned ((.bool r))∧Below w0.heap.size w0 w'):=by
 refine Xe 2 (m:=43) func21 rfl rfl rfl rfl rfl ?_;rw [Ziu.eq_1] at hm;have ab:=St.start col w0;refine go ?_;refine Xi (col:=(Zi col)) 1 rfl ?_;intro a6 bf bg a9 ac;refine go ?_;replace ab:=ab.grow a9;refine Zy [1,1000000] (fun n f aw=>∃ ax af ag ad,ad=n∧Q2 N aa ad af ag=some r∧St w0 (Zi col) ax aw∧Zl 27 1 ax aw a6 #[.string aa.1,.slice am aa.2.1.length ai,.slice an aa.2.2.1.length aj,.slice ao aa.2.2.2.1.length ak,.slice ap aa.2.2.2.2.length al]∧[3,4].map f=[.int .i64 af,.int .i64 ag]) N ⟨_,0,0,_,rfl,hm,ab,ac,rfl⟩ ?_;clear hm;intro n f aw hI;obtain ⟨ax,af,ag,ad,hn,hm,ab,ac,hs⟩:=hI;subst hn;refine .lL [3,4] hs ?_;replace ar:=ar.keep (Zj.start col w0);replace au:=au.keep (Zj.start col w0);replace av:=av.keep (Zj.start col w0);replace ae:=ae.keep (Zj.start col w0)
 cases ad with
 | zero=>rw [Q2.eq_1] at hm;cases hm
 | succ ad=>
  rw [Q2.eq_2] at hm;refine Zu<|Zu ?_;refine Wp.cutK [1,3,4,1000000] (fun f aq=>∃ ah ay,Zdo N aa af ag (Q2 N aa ad) ay=some r∧St w0 (Zi col) ah aq∧Zl 27 1 ah aq a6 #[.string aa.1,.slice am aa.2.1.length ai,.slice an aa.2.2.1.length aj,.slice ao aa.2.2.2.1.length ak,.slice ap aa.2.2.2.2.length al]∧[13].map f=[.bool ay]) ?_ ?_
  ·intro f aq hJ;obtain ⟨ah,ay,hm,ab,ac,hs⟩:=hJ;rw [Zdo.eq_1] at hm;refine .lL [13] hs ?_;refine Zp hm (fun hb hm=>go ?_) fun hb hm=>?_
   ·refine Xc ac<|X3 rfl ?_;obtain ⟨bh,az,hm⟩:=bZ hm;refine lI az ((ae.ks ab).addr az) ?_;obtain ⟨_,ba,bb⟩:=(ae.ks ab).atN az;obtain ⟨⟨bi,bj,rfl,bk⟩,_⟩:=ba;refine lW bb.one<|go ?_;exact ⟨ad,by omega,rfl,⟨_,_,_,_,rfl,hm,ab,ac,rfl⟩⟩
   refine Zkd (Zil ?_);refine Zu ?_;refine Wp.cutK [1000000] (fun f a7=>∃ a8 a0,Zfx a0=some r∧St w0 (Zi col) a8 a7∧[2].map f=[.bool a0]) ?_ ?_
   ·intro f a7 hJ;obtain ⟨a8,a0,hm,ab,hs⟩:=hJ;rw [Zfx.eq_1] at hm;refine .lL [2] hs<|Wc ?_;cases hm;exact ⟨rfl,rfl,ab.below⟩
   refine Wi<|Xc ac ?_;refine go ?_;refine Xq hm (fun a1 hm=>go ?_) fun a1 hm=>go ?_
   ·refine lV (.bool true) (Z1 (congrArg Value.bool a1) rfl)<|X2 rfl<|lP 32 rfl rfl<|lP 32 rfl rfl<|lP 32 rfl rfl<|lP 32 rfl rfl<|lV (.bool true) (Z1 rfl rfl)<|X2 rfl<|lP 38 rfl rfl<|lP 38 rfl rfl<|lP 38 rfl rfl<|lV (.bool true) (Z1 rfl rfl)<|go ?_;exact ⟨rfl,_,_,hm,ab,rfl⟩
   refine lV (.bool (decide (600<af))) (Xn (congrArg Value.bool a1) rfl)<|X2 rfl ?_;refine Xq hm (fun a2 hm=>go ?_) fun a2 hm=>go ?_
   ·refine lV (.bool true) (Z1 (congrArg Value.bool a2) rfl)<|X2 rfl<|lP 38 rfl rfl<|lP 38 rfl rfl<|lP 38 rfl rfl<|lV (.bool true) (Z1 rfl rfl)<|go ?_;exact ⟨rfl,_,_,hm,ab,rfl⟩
   refine Xf ⟨_,_,rfl⟩ ?_;refine go ?_;refine lW ((ac.atN).nth (q:=4) rfl)<|go ?_;refine lV (.bool (decide (12<(aa.2.2.2.2.length:Int)))) (Xn (congrArg Value.bool a2) rfl)<|X2 rfl ?_;refine Xq hm (fun a3 hm=>go ?_) fun a3 hm=>go ?_
   ·refine lV (.bool true) (Z1 (congrArg Value.bool a3) rfl)<|go ?_;exact ⟨rfl,_,_,hm,ab,rfl⟩
   refine lV _ (Xh isAgg27 sizeOf27 ac)<|go ?_;obtain ⟨bc,bd,hm⟩:=bZ hm;refine Zh (Zyw bd (ar.ks ab) (au.ks ab) (av.ks ab) (ae.ks ab)) ?_;rintro _ be ⟨rfl,a4⟩;refine ⟨_,rfl,?_⟩;replace a4:Zg ah aq ah be:=.of_below a4;refine go ?_;refine lV (.bool (decide (3000<bc))) (Xn (congrArg Value.bool a3) rfl)<|go ?_;replace ab:=ab.grow a4;exact ⟨rfl,_,_,hm,ab,rfl⟩
  refine go ?_;refine Xc ac ?_;refine go ?_;refine Xq hm (fun a5 hm=>go ?_) fun a5 hm=>go ?_
  ·refine lV (.bool (decide (ag<13))) (Z1 (congrArg Value.bool a5) rfl)<|Zk ?_;exact ⟨rfl,_,_,hm,ab,ac,rfl⟩
  refine lV (.bool false) (Xn (congrArg Value.bool a5) rfl)<|Zk ?_;exact ⟨rfl,_,_,hm,ab,ac,rfl⟩
def Zer (N:Nat) (ab:List Int) (ac:List Int):Nat→Int→Option Bool
  | 0,_=>none
  | ad+1,aa=>if (decide (aa<(ab.length:Int)))=true then ((Zn ab aa).bind fun ae=>(Zn ac aa).bind fun af=>if (!decide (ae=af))=true then (some false) else ((Zer N ab ac ad) (i64.wrap (aa+1)))) else (some true)
termination_by structural x=>x
def Zcj (N:Nat) (aa:List Int) (ab:List Int):Option Bool:=
  if (!decide ((aa.length:Int)=(ab.length:Int)))=true then (some false) else (Zer N aa ab N 0)
theorem Zky {N ai aj:Nat} {a0 a1:Option Addr} {col:Zd} {w0:World} {ad ae:R2} {r:Bool} (hm:Zcj N ad ae=some r) (h0:Sl (Za.int .i64) col w0 a0 ai ad) (h1:Sl (Za.int .i64) col w0 a1 aj ae):
    Calls Tryz.prog 31 #[.slice a0 ad.length ai,.slice a1 ae.length aj] w0 (fun e w'=>e= .returned ((.bool r))∧Below w0.heap.size w0 w'):=by
 refine Xe 4 (m:=26) func31 rfl rfl rfl rfl rfl ?_;rw [Zcj.eq_1] at hm;have aa:=St.start col w0;refine go ?_;replace h0:=h0.keep (Zj.start col w0);replace h1:=h1.keep (Zj.start col w0);refine Zp hm (fun hb hm=>go ?_) fun hb hm=>go ?_
 ·cases hm;exact ⟨rfl,rfl,aa.below⟩
 refine Zy [0,1,1000000] (fun n f ak=>∃ ab af ac,ac=n∧Zer N ad ae ac af=some r∧St w0 (Zi col) ab ak∧[5].map f=[.int .i64 af]) N ⟨_,0,_,rfl,hm,aa,rfl⟩ ?_;clear hm;intro n f ak hI;obtain ⟨ab,af,ac,hn,hm,aa,hs⟩:=hI;subst hn;refine .lL [5] hs ?_
 cases ac with
 | zero=>rw [Zer.eq_1] at hm;cases hm
 | succ ac=>
  rw [Zer.eq_2] at hm;refine go ?_;refine Zp hm (fun hb hm=>go ?_) fun hb hm=>go ?_
  ·refine Wo (col:=ab) (by kernel_rfl) (by kernel_rfl)<|go ?_;obtain ⟨al,ag,hm⟩:=bZ hm;refine qI ag ((h0.ks aa).addr ag)<|qW (fun _ hC=>((h0.ks aa).gr (hC.bl ab)).atInt ag) ?_;refine go ?_;obtain ⟨am,ah,hm⟩:=bZ hm;refine qI ah ((h1.ks aa).addr ah)<|qW (fun _ hC=>((h1.ks aa).gr (hC.bl ab)).atInt ah) ?_;refine go ?_;refine Yl ?_;intro an hC;replace hC:=hC.bl ab;replace aa:=aa.grow hC;refine Zp hm (fun hb hm=>go ?_) fun hb hm=>go ?_
   ·cases hm;exact ⟨rfl,rfl,aa.below⟩
   exact ⟨ac,by omega,rfl,⟨_,_,_,rfl,hm,aa,rfl⟩⟩
  cases hm;exact ⟨rfl,rfl,aa.below⟩
theorem Zv1 {N:Nat} {l:List Int} (hl:l.length≤1048576):∀ (f i:Nat),i≤l.length→l.length<f+i→Zer N l l f (i:Int)=some true
 | 0,i,h1,h2=>by omega
 | f+1,i,h1,h2=>by
  rw [Zer.eq_2]
  by_cases hi:i<l.length
  ·rw [if_pos (decide_eq_true (by omega)),Zz hi,Option.bind_some,Option.bind_some,if_neg (by rw [decide_eq_true rfl];decide),wS (by omega)]
   exact Zv1 hl f (i+1) (by omega) (by omega)
  ·rw [if_neg (by rw [decide_eq_false (by omega)];decide)]
theorem Z3l {N:Nat} {l:List Int} (hl:l.length≤1048576) (hN:1048577<N):Zcj N l l=some true:=by
 rw [Zcj,if_neg (by rw [decide_eq_true rfl];decide)]
 exact Zv1 hl N 0 (Nat.zero_le _) (by omega)
/-! which networks are gone through -/
theorem Zsn {N:Nat} {n:Xt} (hb:∀ t ∈ n.2.2.2.2,t.length≤1048576∧∀ x ∈ t,x.1.2.length≤1048576∧x.2.length≤1048576) {i:Nat} (hi:i<n.2.2.2.2.length) (hib:i<4611686018427387904) (kk:Int→Int→Option Int) (hkk:∀ s:Int,0≤s→s≤3000000→∃ r,kk s ((i+1:Nat):Int)=some r):∀ (f k:Nat) (s:Int),0≤s→s≤3000000→k≤n.2.2.2.2[i].length→n.2.2.2.2[i].length<f+k→∃ r,Za6 N n (i:Int) kk f s (k:Int)=some r
 | 0,k,s,_,_,h1,h2=>by omega
 | f+1,k,s,s1,s2,h1,h2=>by
  have ht:=hb _ (List.getElem_mem hi)
  rw [Za6.eq_2,Zz hi,Option.bind_some]
  by_cases hk:k<n.2.2.2.2[i].length
  ·have hx:=ht.2 _ (List.getElem_mem hk)
   rw [if_pos (decide_eq_true (by omega)),Zhd]
   by_cases hs:s<10000
   ·rw [decide_eq_true hs,if_pos rfl,Zz hi,Option.bind_some,Zz hk,Option.bind_some,Zr (x:=s+_) (by omega),Zr (by omega),wS (by omega)]
    exact Zsn hb hi hib kk hkk f (k+1) _ (by omega) (by omega) (by omega) (by omega)
   ·rw [decide_eq_false hs,if_neg (by decide),wS (by omega)]
    exact hkk s s1 s2
  ·rw [if_neg (by rw [decide_eq_false (by omega)];decide),Zhd,if_neg (by decide),wS (by omega)]
   exact hkk s s1 s2
theorem Zsm {N:Nat} {n:Xt} (hb:∀ t ∈ n.2.2.2.2,t.length≤1048576∧∀ x ∈ t,x.1.2.length≤1048576∧x.2.length≤1048576) (hl:n.2.2.2.2.length≤1048576) (hN:1048577<N):∀ (f i:Nat) (s:Int),0≤s→s≤3000000→i≤n.2.2.2.2.length→n.2.2.2.2.length<f+i→∃ r,Qg N n f s (i:Int)=some r
 | 0,i,s,_,_,h1,h2=>by omega
 | f+1,i,s,s1,s2,h1,h2=>by
  rw [Qg.eq_2]
  by_cases hi:i<n.2.2.2.2.length
  ·rw [if_pos (decide_eq_true (by omega))]
   have ht:=hb _ (List.getElem_mem hi)
   have:=Zsn (N:=N) hb hi (by omega) (Qg N n f) (fun s' a b=>Zsm hb hl hN f (i+1) s' a b (by omega) (by omega)) N 0 s s1 s2 (Nat.zero_le _) (by omega)
   exact this
  ·rw [if_neg (by rw [decide_eq_false (by omega)];decide)]
   exact ⟨_,rfl⟩
theorem Zsr {N:Nat} {n:Xt} (hb:∀ t ∈ n.2.2.2.2,t.length≤1048576∧∀ x ∈ t,x.1.2.length≤1048576∧x.2.length≤1048576) (hl:n.2.2.2.2.length≤1048576) (hN:1048577<N):∀ (f i:Nat) (s:Int),0≤s→s≤1048576 * (i:Int)→i≤13→13<f+i→∃ r,Q2 N n f s (i:Int)=some r
 | 0,i,s,_,_,h1,h2=>by omega
 | f+1,i,s,s1,s2,h1,h2=>by
  have fin:∃ r,Zdo N n s (i:Int) (Q2 N n f) false=some r:=by
   rw [Zdo,if_neg (by decide)]
   by_cases c1:(12:Int)<(n.2.1.length:Int)
   ·rw [if_pos (decide_eq_true c1)];exact ⟨_,rfl⟩
   ·rw [if_neg (by rw [decide_eq_false c1];decide)]
    by_cases c2:(600:Int)<s
    ·rw [if_pos (decide_eq_true c2)];exact ⟨_,rfl⟩
    ·rw [if_neg (by rw [decide_eq_false c2];decide)]
     by_cases c3:(12:Int)<(n.2.2.2.2.length:Int)
     ·rw [if_pos (decide_eq_true c3)];exact ⟨_,rfl⟩
     ·rw [if_neg (by rw [decide_eq_false c3];decide)]
      obtain ⟨r,hr⟩:=Zsm (N:=N) hb hl hN N 0 0 (by omega) (by omega) (Nat.zero_le _) (by omega)
      have hr':Zln N (n.1,n.2.1,n.2.2.1,n.2.2.2.1,n.2.2.2.2)=some r:=hr
      rw [hr',Option.bind_some];exact ⟨_,rfl⟩
  rw [Q2.eq_2]
  by_cases hi:i<n.2.2.2.2.length
  ·rw [if_pos (decide_eq_true (by omega))]
   by_cases h13:i<13
   ·rw [decide_eq_true (by omega),Zdo,if_pos rfl,Zz hi,Option.bind_some]
    have ht:=hb _ (List.getElem_mem hi)
    rw [Zr (x:=s+_) (by omega),wS (by omega)]
    exact Zsr hb hl hN f (i+1) _ (by omega) (by omega) (by omega) (by omega)
   ·rw [decide_eq_false (by omega)];exact fin
  ·rw [if_neg (by rw [decide_eq_false (by omega)];decide)];exact fin
theorem Z1h {N:Nat} {n:Xt} (hb:∀ t ∈ n.2.2.2.2,t.length≤1048576∧∀ x ∈ t,x.1.2.length≤1048576∧x.2.length≤1048576) (hl:n.2.2.2.2.length≤1048576) (hN:1048577<N):∃ r,Ziu N n=some r:=
 Zsr hb hl hN N 0 0 (by omega) (by omega) (by omega) (by omega)
theorem Zz2:Ww Tryz.prog 3 1 8:=⟨Tryz.t3,_,rfl,rfl,rfl,rfl,rfl⟩
def Ziw (aa:List Int) (ab:Int) (kk_L3:(Int→Option R4)) (ac:Bool):Option R4:=
  if ac=true then (some (false,aa)) else (kk_L3 (i64.wrap (ab+1)))
def Q3 (N:Nat) (aa:List Int) (ac:List Int):Nat→Int→Option R4
  | 0,_=>none
  | ad+1,ab=>if (decide (ab<(aa.length:Int)))=true then ((Zn aa ab).bind fun ae=>if (!decide (ae=(-1)))=true then (Ziw aa ab (Q3 N aa ac ad) true) else ((Zn ac ab).bind fun af=>Ziw aa ab (Q3 N aa ac ad) (!decide (af=(-1))))) else (some (true,aa))
termination_by structural x=>x
def Zbw (N:Nat) (ab:List Int):Nat→R2→Int→Option R4
  | 0,_,_=>none
  | ad+1,aa,ac=>if (decide (ac<40))=true then (Zw ((aa.length+[(-2)].length) * 8≤140737488355328∧aa.length+[(-2)].length≤maxLen) ((Zbw N ab ad) (aa++[(-2)]) (i64.wrap (ac+1)))) else (Q3 N ab aa N 0)
termination_by structural x=>x
def Zdp (N:Nat):Nat→R2→Int→Option R4
  | 0,_,_=>none
  | ac+1,aa,ab=>if (decide (ab<(aa.length:Int)))=true then ((Zn aa ab).bind fun ae=>(some (aa.set (Int.toNat ab) (-1))).bind fun ad=>(Zdp N ac) ad (i64.wrap (ab+1))) else (Zbw N aa N aa 0)
termination_by structural x=>x
def Ziv (N:Nat) (aa:List Int):Option R4:=
  Zdp N N aa 0
theorem Zxt {N ad:Nat} {a0:Option Addr} {col:Zd} {w0:World} {af:R2} {r:R4} (qc0:Nat) (hm:Ziv N af=some r) (hd:S4 [qc0]=true) (h0:Zc (Za.int .i64) 3 qc0 col w0 a0 ad af):
    Calls Tryz.prog 33 #[.slice a0 af.length ad] w0 (fun e w'=>∃ (col':Zd),e= .returned ((.bool r.1))∧Zx (pS [qc0]) col w0 col' w'∧Zc (Za.int .i64) 3 qc0 col' w' a0 ad r.2∧r.2.length=af.length):=by
 refine Xe 2 (m:=42) func33 rfl rfl rfl rfl rfl ?_;rw [Ziv.eq_1] at hm;have aa:=St.startL (l:=[qc0]) rfl col w0;replace h0:=h0.startL (Zag hd 0 rfl) (Zaf hd 0 rfl);refine go ?_;refine Zy [1000000] (fun n f aq=>∃ ar ab an ah,ah=n∧Zdp N ah ab an=some r∧St w0 (Xu [qc0] col) ar aq∧Zc (Za.int .i64) 3 440 ar aq a0 ad ab∧ab.length=af.length∧ab.length=af.length∧[0,3].map f=[.slice a0 ab.length ad,.int .i64 an]) N ⟨_,_,0,_,rfl,hm,aa,h0,rfl,rfl,rfl⟩ ?_;clear hm;intro n f aq hI;obtain ⟨ar,ab,an,ah,hn,hm,aa,au,av,bo,hs⟩:=hI;subst hn;refine .lL [0,3] hs ?_
 cases ah with
 | zero=>rw [Zdp.eq_1] at hm;cases hm
 | succ ah=>
  rw [Zdp.eq_2] at hm;refine go ?_;refine Zp hm (fun hb hm=>go ?_) fun hb hm=>go ?_
  ·obtain ⟨bp,aw,hm⟩:=bZ hm;refine lI aw (au.addr aw) ?_;obtain ⟨aj,ak,hm⟩:=bZ hm;have ak:aj=ab.set (Int.toNat an) (-1):=(Option.some.inj ak).symm;refine Yw (x1:=(-1)) au aw ?_;intro bq bc bd a8;rw [← ak] at a8;have a9:aj.length=af.length:=(show ab.length=aj.length by rw [ak,List.length_set]).symm.trans av;refine .ld (d:=0) (v:=(.slice a0 aj.length ad)) (congrArg (fun n=>Value.slice a0 n ad) (show ab.length=aj.length by rw [ak,List.length_set])) ?_;refine go ?_;replace aa:=aa.kp bc bd;exact ⟨ah,by omega,rfl,⟨_,_,_,_,rfl,hm,aa,a8,a9,a9,rfl⟩⟩
  have be:=au.ex;refine Zy [0,1000000] (fun n f ax=>∃ ao al am ae ay ai,ai=n∧Zbw N ab ai ae ay=some r∧St w0 (Xu [qc0] col) ao ax∧Ex (Za.int .i64) 3 440 ao ax a0 ad ab al am ae∧[4,5].map f=[.slice al ae.length am,.int .i64 ay]) N ⟨_,_,_,_,0,_,rfl,hm,aa,be,rfl⟩ ?_;clear hm;intro n f ax hI;obtain ⟨ao,al,am,ae,ay,ai,hn,hm,aa,ac,hs⟩:=hI;subst hn;refine .lL [4,5] hs ?_
  cases ai with
  | zero=>rw [Zbw.eq_1] at hm;cases hm
  | succ ai=>
   rw [Zbw.eq_2] at hm;refine go ?_;refine Zp hm (fun hb hm=>go ?_) fun hb hm=>go ?_
   ·refine W1 (col:=ao) [(-2)] 1 ?_;intro br bf bg ba bh;obtain ⟨bb,hm⟩:=Z4 hm;replace ac:=ac.gr ba;refine Zdf (col:=bg) (w:=bf) (r:=(Za.int .i64)) (c:=440) (c2:=440) ac (bh.srcN (NB.int (k:=.i64))) rfl underlying40 Zz2 rfl rfl rfl bb.1 bb.2 (by decide) ?_;intro bs bt bu bv bi bj;refine go ?_;replace aa:=(aa.grow ba).kpp bi;exact ⟨ai,by omega,rfl,⟨_,_,_,_,_,_,rfl,hm,aa,bj,rfl⟩⟩
   refine Zy [0,4,1000000] (fun n f az=>∃ a1 ap ag,ag=n∧Q3 N ab ae ag ap=some r∧St w0 (Xu [qc0] col) a1 az∧Ex (Za.int .i64) 3 440 a1 az a0 ad ab al am ae∧[6].map f=[.int .i64 ap]) N ⟨_,0,_,rfl,hm,aa,ac,rfl⟩ ?_;clear hm;intro n f az hI;obtain ⟨a1,ap,ag,hn,hm,aa,ac,hs⟩:=hI;subst hn;refine .lL [6] hs ?_
   cases ag with
   | zero=>rw [Q3.eq_1] at hm;cases hm
   | succ ag=>
    rw [Q3.eq_2] at hm;refine go ?_;refine Zp hm (fun hb hm=>?_) fun hb hm=>go ?_
    ·refine X5<|Zu<|Zc1<|Zu ?_;refine Wp.cutK [0,4,6,1000000] (fun f a2=>∃ a3 a4,Ziw ab ap (Q3 N ab ae ag) a4=some r∧St w0 (Xu [qc0] col) a3 a2∧Ex (Za.int .i64) 3 440 a3 a2 a0 ad ab al am ae∧[41].map f=[.bool a4]) ?_ ?_
     ·intro f a2 hJ;obtain ⟨a3,a4,hm,aa,ac,hs⟩:=hJ;rw [Ziw.eq_1] at hm;refine .lL [41] hs ?_;refine Zp hm (fun hb hm=>go ?_) fun hb hm=>go ?_
      ·have bk:=ac.old;refine go ?_;cases hm;exact ⟨rfl,_,rfl,aa.finL rfl (cm [(440,qc0)]),aa.foL bk,av⟩
      exact ⟨ag,by omega,rfl,⟨_,_,_,rfl,hm,aa,ac,rfl⟩⟩
     refine go ?_;obtain ⟨bw,a5,hm⟩:=bZ hm;refine lI a5 (ac.old.addr a5)<|lW (ac.old.atInt a5) ?_;refine go ?_;refine Xq hm (fun a6 hm=>go ?_) fun a6 hm=>go ?_
     ·refine lV (.bool true) (Z1 (congrArg Value.bool a6) rfl)<|Zk ?_;exact ⟨rfl,_,_,hm,aa,ac,rfl⟩
     obtain ⟨bm,a7,hm⟩:=bZ hm;refine lI a7 (ac.new.addr a7) ?_;refine go ?_;refine lW (ac.new.atInt a7)<|go ?_;refine lV (.bool (!decide (bm=(-1)))) (Xn (congrArg Value.bool a6) rfl)<|Zk ?_;exact ⟨rfl,_,_,hm,aa,ac,rfl⟩
    have bn:=ac.old;refine go ?_;cases hm;exact ⟨rfl,_,rfl,aa.finL rfl (cm [(440,qc0)]),aa.foL bn,av⟩
theorem Zwa {N:Nat} (m:Nat) (M:List Int) (hm:m≤1048576):∀ (f i:Nat),i≤m→m<f+i→Q3 N (List.replicate m (-1)) (List.replicate m (-1)++M) f (i:Int)=some (true,List.replicate m (-1))
 | 0,i,h1,h2=>by omega
 | f+1,i,h1,h2=>by
  rw [Q3.eq_2,List.length_replicate]
  by_cases hi:i<m
  ·rw [if_pos (decide_eq_true (by omega)),Zz (by rw [List.length_replicate];exact hi),List.getElem_replicate,Option.bind_some,if_neg (by decide),Zz (by rw [List.length_append,List.length_replicate];omega),List.getElem_append_left (by rw [List.length_replicate];exact hi),List.getElem_replicate,Option.bind_some,Ziw,if_neg (by decide),wS (by omega)]
   exact Zwa m M hm f (i+1) (by omega) (by omega)
  ·rw [if_neg (by rw [decide_eq_false (by omega)];decide)]
theorem Zv9 {N:Nat} (R:List Int) (hm:R.length≤1048576):∀ (f i:Nat),i≤40→40<f+i→Zbw N R f (R++List.replicate i (-2)) (i:Int)=Q3 N R (R++List.replicate 40 (-2)) N 0
 | 0,i,h1,h2=>by omega
 | f+1,i,h1,h2=>by
  rw [Zbw.eq_2]
  by_cases hi:i<40
  ·rw [if_pos (decide_eq_true (by omega)),Z6 (by simp only [List.length_append,List.length_replicate,List.length_singleton,maxLen];omega),List.append_assoc,← List.replicate_succ',wS (by omega)]
   exact Zv9 R hm f (i+1) (by omega) (by omega)
  ·rw [if_neg (by rw [decide_eq_false (by omega)];decide),show i=40 by omega]
theorem Zv8 {N:Nat} {l:List Int} (hm:l.length≤1048576):∀ (f i:Nat),i≤l.length→l.length<f+i→Zdp N f (List.replicate i (-1)++l.drop i) (i:Int)=Zbw N (List.replicate l.length (-1)) N (List.replicate l.length (-1)) 0
 | 0,i,h1,h2=>by omega
 | f+1,i,h1,h2=>by
  have hlen:(List.replicate i (-1)++l.drop i).length=l.length:=by rw [List.length_append,List.length_replicate,List.length_drop];omega
  rw [Zdp.eq_2,hlen]
  by_cases hi:i<l.length
  ·have e:(List.replicate i (-1)++l.drop i).set i (-1)=List.replicate (i+1) (-1)++l.drop (i+1):=by
    rw [List.drop_eq_getElem_cons hi,List.set_append_right (i:=i) (-1) (by rw [List.length_replicate];exact Nat.le_refl _),List.length_replicate,Nat.sub_self,List.set_cons_zero,List.replicate_succ',List.append_assoc];rfl
   rw [if_pos (decide_eq_true (by omega)),Zz (by rw [hlen];exact hi),Option.bind_some,Int.toNat_natCast,e,Option.bind_some,wS (by omega)]
   exact Zv8 hm f (i+1) (by omega) (by omega)
  ·have:i=l.length:=by omega
   subst this
   rw [if_neg (by rw [decide_eq_false (by omega)];decide),List.drop_length,List.append_nil]
theorem Z3t {N:Nat} {l:List Int} (hm:l.length≤1048576) (hN:1048577<N):Ziv N l=some (true,List.replicate l.length (-1)):=by
 have h1:=Zv8 (N:=N) hm N 0 (Nat.zero_le _) (by omega)
 have h2:=Zv9 (N:=N) (List.replicate l.length (-1)) (by rw [List.length_replicate];exact hm) N 0 (Nat.zero_le _) (by omega)
 have h3:=Zwa (N:=N) l.length (List.replicate 40 (-2)) hm N 0 (Nat.zero_le _) (by omega)
 rw [List.replicate_zero,List.append_nil,show ((0:Nat):Int)=0 from rfl] at h2
 rw [List.replicate_zero,List.nil_append,List.drop_zero,show ((0:Nat):Int)=0 from rfl,h2] at h1
 rw [Ziv,h1]
 exact h3
def Zfw (aa:Bool):Option Bool:=
  some aa
def Q1 (N:Nat) (ac:ByteArray) (ab:R9) (aa:R3) (ad:R9) (ae:R9) (af:Bool):Option Bool:=
  if af=true then (some false) else ((Ziv N ad.1).bind fun ag=>(Zdj N (aa.1,aa.2.1.2.take aa.2.1.1,aa.2.2.1.map Xj,aa.2.2.2.1.map Xj,aa.2.2.2.2.map (Vk (Prod.map (Prod.map id Xj) Xj))) ac).bind fun ah=>if ag.1=true then ((Zcj N ae.1 ab.1).bind fun ai=>if ai=true then ((Zcj N ah.1 ab.1).bind fun aj=>Zfw aj) else (Zfw false)) else (Zfw false))
def Zdn (N:Nat) (ab:R1) (ad:ByteArray) (ag:Bool):Option Bool:=
  if ag=true then (some true) else ((Zhg N (ab.1,ab.2.1,ab.2.2.1,ab.2.2.2.1,ab.2.2.2.2) ad).bind fun ac=>(Zhc N (ab.1,ab.2.1,ab.2.2.1,ab.2.2.2.1,ab.2.2.2.2)).bind fun aa=>(Zdj N (aa.1,aa.2.1.2.take aa.2.1.1,aa.2.2.1.map Xj,aa.2.2.2.1.map Xj,aa.2.2.2.2.map (Vk (Prod.map (Prod.map id Xj) Xj))) ad).bind fun ae=>(Zdj N (aa.1,aa.2.1.2.take aa.2.1.1,aa.2.2.1.map Xj,aa.2.2.2.1.map Xj,aa.2.2.2.2.map (Vk (Prod.map (Prod.map id Xj) Xj))) ad).bind fun af=>if (!decide (ae.2.2=ac.2.2))=true then (Q1 N ad ac aa ae af true) else (if (!decide (af.2.2=ac.2.2))=true then (Q1 N ad ac aa ae af true) else (if (!decide (ae.2.1=ac.2.1))=true then (Q1 N ad ac aa ae af true) else (if (!decide (af.2.1=ac.2.1))=true then (Q1 N ad ac aa ae af true) else ((Zcj N ae.1 ac.1).bind fun ah=>if (!ah)=true then (Q1 N ad ac aa ae af true) else ((Zcj N af.1 ac.1).bind fun ai=>if (!ai)=true then (Q1 N ad ac aa ae af true) else ((Zhb N (aa.1,(aa.2.1.1,aa.2.1.2),aa.2.2.1,aa.2.2.2.1,aa.2.2.2.2) (ab.1,ab.2.1,ab.2.2.1,ab.2.2.2.1,ab.2.2.2.2)).bind fun aj=>Q1 N ad ac aa ae af (!aj))))))))
def Zld (N:Nat) (aa:R1) (ab:ByteArray):Option Bool:=
  (Ziu N (aa.1,aa.2.1,aa.2.2.1,aa.2.2.2.1,aa.2.2.2.2)).bind fun ac=>if ac=true then (Zdn N aa ab true) else (Zdn N aa ab (decide (300<(ab.size:Int))))
theorem Zxr (N:Nat) (col:Zd) (w0:World) (bm:Option Addr) (bn:Nat) (bo:Option Addr) (bp:Nat) (bq:Option Addr) (br:Nat) (bs:Option Addr) (bt:Nat) (al:R1) (bf:ByteArray) (a9:Sl Za.str col w0 bm bn al.2.1) (ba:Sl (Za.slice Za.str) col w0 bo bp al.2.2.1) (bb:Sl (Za.slice (Za.int .i64)) col w0 bq br al.2.2.2.1) (bc:Sl (Za.slice (Za.pair (Za.pair Za.bool (Za.slice (Za.int .u32))) (Za.slice (Za.int .u32)))) col w0 bs bt al.2.2.2.2) (r:Bool) (hm:Zld N al bf=some r):
    Calls Tryz.prog 6 #[(.agg #[.string al.1,.slice bm al.2.1.length bn,.slice bo al.2.2.1.length bp,.slice bq al.2.2.2.1.length br,.slice bs al.2.2.2.2.length bt]),.string bf] w0 (fun e w'=>e= .returned ((.bool r))∧Below w0.heap.size w0 w'):=by
 refine Xe 4 (m:=105) func6 rfl rfl rfl rfl rfl ?_;rw [Zld.eq_1] at hm;have ab:=St.start col w0;refine go ?_;refine Xi (col:=(Zi col)) 1 rfl ?_;intro cs ct ch cu ak;refine Zdd rfl<|Zk<|Zu<|Zu ?_;replace a9:=a9.keep (Zj.start col w0);replace ba:=ba.keep (Zj.start col w0);replace bb:=bb.keep (Zj.start col w0);replace bc:=bc.keep (Zj.start col w0);replace ab:=ab.grow cu;refine Wp.cutK [1,2,1000000] (fun f bu=>∃ bv bw,Zdn N al bf bw=some r∧St w0 (Zi col) bv bu∧Zl 27 1 bv bu cs #[.string al.1,.slice bm al.2.1.length bn,.slice bo al.2.2.1.length bp,.slice bq al.2.2.2.1.length br,.slice bs al.2.2.2.2.length bt]∧[25].map f=[.bool bw]) ?_ ?_
 ·intro f bu hJ;obtain ⟨bv,bw,hm,ab,ak,hs⟩:=hJ;rw [Zdn.eq_1] at hm;refine .lL [25] hs ?_;refine Zp hm (fun hb hm=>go ?_) fun hb hm=>go ?_
  ·cases hm;exact ⟨rfl,rfl,ab.below⟩
  refine lV _ (Xh isAgg27 sizeOf27 ak)<|Zim rfl ?_;obtain ⟨ao,cv,hm⟩:=bZ hm;refine Zh (Zyy 2 cv (a9.ks ab) (ba.ks ab) (bb.ks ab) (bc.ks ab)) ?_;rintro _ dq ⟨dr,bx,bz,rfl,ci,ag⟩;refine ⟨_,rfl,?_⟩;refine lM (.tuple #[.slice bx ao.1.length bz,.int .i64 ao.2.1,.int .i64 ao.2.2])<|lV (.slice bx ao.1.length bz) (Xv rfl rfl)<|lV (.int .i64 ao.2.1) (Xv rfl rfl)<|lV (.int .i64 ao.2.2) (Xv rfl rfl)<|go ?_;replace ak:=ak.gr ci;refine lV _ (Xh isAgg27 sizeOf27 ak) ?_;obtain ⟨aa,cw,hm⟩:=bZ hm;replace ab:=ab.grow ci;refine Zh (Zyv cw (a9.ks ab) (ba.ks ab) (bb.ks ab) (bc.ks ab)) ?_;rintro _ ds ⟨cx,ax,ay,az,a0,a1,a2,a3,a4,rfl,b0,ac,ad,ae,af⟩;refine ⟨_,rfl,?_⟩;refine Xs (col:=cx) #[.string (⟨#[]⟩),.slice none (([]:List ByteArray).length) 0,.slice none (([]:List Ra).length) 0,.slice none (([]:List R2).length) 0,(.slice none (([]:List Re).length) 0)] 3 zeroValue27 ?_;intro cy dt du a7 cz;refine Z8 cz ?_;intro dv a8 c0 ah;refine go ?_;refine lV _ (Xh isAgg27 sizeOf27 ah)<|Zim rfl ?_;have c1:((.agg #[.string aa.1,.slice ax ((aa.2.1.2.take aa.2.1.1).length) ay,.slice az aa.2.2.1.length a0,.slice a1 aa.2.2.2.1.length a2,.slice a3 aa.2.2.2.2.length a4]):Value)=(.agg #[.string aa.1,(.slice ax (aa.1,aa.2.1.2.take aa.2.1.1,aa.2.2.1.map Xj,aa.2.2.2.1.map Xj,aa.2.2.2.2.map (Vk (Prod.map (Prod.map id Xj) Xj))).2.1.length ay),(.slice az (aa.1,aa.2.1.2.take aa.2.1.1,aa.2.2.1.map Xj,aa.2.2.2.1.map Xj,aa.2.2.2.2.map (Vk (Prod.map (Prod.map id Xj) Xj))).2.2.1.length a0),(.slice a1 (aa.1,aa.2.1.2.take aa.2.1.1,aa.2.2.1.map Xj,aa.2.2.2.1.map Xj,aa.2.2.2.2.map (Vk (Prod.map (Prod.map id Xj) Xj))).2.2.2.1.length a2),(.slice a3 (aa.1,aa.2.1.2.take aa.2.1.1,aa.2.2.1.map Xj,aa.2.2.2.1.map Xj,aa.2.2.2.2.map (Vk (Prod.map (Prod.map id Xj) Xj))).2.2.2.2.length a4)]):=by first | (simp only [List.length_map];done) | simp only [List.length_map,List.take_length]
  obtain ⟨aq,c2,hm⟩:=bZ hm;replace ac:=(ac.gr a7).kp a8;replace ad:=(ad.gr a7).kp a8;replace ae:=(ae.gr a7).kp a8;replace af:=(af.gr a7).kp a8;refine lc rfl rfl (Tv call35 c1 rfl) (Zm3 4 c2 (ac.take aa.2.1.1) (ad.weak Ym.view0) (ae.weak Ym.view0) (af.weak (Ym.view (Ym.pair (Ym.pair Ym.rfl Ym.view0) Ym.view0))):) ?_;rintro _ dw ⟨dx,bg,bh,rfl,a5,ai⟩;refine ⟨_,rfl,?_⟩;refine lM (.tuple #[.slice bg aq.1.length bh,.int .i64 aq.2.1,.int .i64 aq.2.2])<|lV (.slice bg aq.1.length bh) (Xv rfl rfl)<|lV (.int .i64 aq.2.1) (Xv rfl rfl)<|lV (.int .i64 aq.2.2) (Xv rfl rfl)<|go ?_;replace ah:=ah.gr a5;refine lV _ (Xh isAgg27 sizeOf27 ah)<|Zim rfl ?_;have c3:((.agg #[.string aa.1,.slice ax ((aa.2.1.2.take aa.2.1.1).length) ay,.slice az aa.2.2.1.length a0,.slice a1 aa.2.2.2.1.length a2,.slice a3 aa.2.2.2.2.length a4]):Value)=(.agg #[.string aa.1,(.slice ax (aa.1,aa.2.1.2.take aa.2.1.1,aa.2.2.1.map Xj,aa.2.2.2.1.map Xj,aa.2.2.2.2.map (Vk (Prod.map (Prod.map id Xj) Xj))).2.1.length ay),(.slice az (aa.1,aa.2.1.2.take aa.2.1.1,aa.2.2.1.map Xj,aa.2.2.2.1.map Xj,aa.2.2.2.2.map (Vk (Prod.map (Prod.map id Xj) Xj))).2.2.1.length a0),(.slice a1 (aa.1,aa.2.1.2.take aa.2.1.1,aa.2.2.1.map Xj,aa.2.2.2.1.map Xj,aa.2.2.2.2.map (Vk (Prod.map (Prod.map id Xj) Xj))).2.2.2.1.length a2),(.slice a3 (aa.1,aa.2.1.2.take aa.2.1.1,aa.2.2.1.map Xj,aa.2.2.2.1.map Xj,aa.2.2.2.2.map (Vk (Prod.map (Prod.map id Xj) Xj))).2.2.2.2.length a4)]):=by first | (simp only [List.length_map];done) | simp only [List.length_map,List.take_length]
  obtain ⟨ar,c4,hm⟩:=bZ hm;replace ac:=ac.gr a5;replace ad:=ad.gr a5;replace ae:=ae.gr a5;replace af:=af.gr a5;refine lc rfl rfl (Tv call35 c3 rfl) (Zm3 5 c4 (ac.take aa.2.1.1) (ad.weak Ym.view0) (ae.weak Ym.view0) (af.weak (Ym.view (Ym.pair (Ym.pair Ym.rfl Ym.view0) Ym.view0))):) ?_;rintro _ c5 ⟨bd,b1,b2,rfl,aw,aj⟩;refine ⟨_,rfl,?_⟩;refine lM (.tuple #[.slice b1 ar.1.length b2,.int .i64 ar.2.1,.int .i64 ar.2.2])<|lV (.slice b1 ar.1.length b2) (Xv rfl rfl)<|lV (.int .i64 ar.2.1) (Xv rfl rfl)<|lV (.int .i64 ar.2.2) (Xv rfl rfl)<|Sa rfl<|Yr rfl<|Yr rfl<|Zk<|Zu<|Zu ?_;replace ag:=((((ag.gr b0).gr a7).kp a8).gr a5).gr aw;replace ak:=((((ak.gr b0).gr a7).kp a8).gr a5).gr aw;replace ab:=((((ab.grow b0).grow a7).kp a8 c0).grow a5).grow aw;replace ac:=ac.gr aw;replace ad:=ad.gr aw;replace ae:=ae.gr aw;replace af:=af.gr aw;replace ai:=ai.gr aw;replace ah:=ah.gr aw;refine Wp.cutK [1,12,5,8,9,1000000] (fun f au=>∃ av b3,Q1 N bf ao aa aq ar b3=some r∧St w0 (Zi col) av au∧Zc (Za.int .i64) 3 5 av au b1 b2 ar.1∧Zc (Za.int .i64) 3 2 av au bx bz ao.1∧Sl Za.str av au ax ay aa.2.1.2∧Sl (Za.view Za.str) av au az a0 aa.2.2.1∧Sl (Za.view (Za.int .i64)) av au a1 a2 aa.2.2.2.1∧Sl (Za.view (Za.pair (Za.pair Za.bool (Za.view (Za.int .u32))) (Za.view (Za.int .u32)))) av au a3 a4 aa.2.2.2.2∧Zl 27 3 av au cy #[.string aa.1,.slice ax ((aa.2.1.2.take aa.2.1.1).length) ay,.slice az aa.2.2.1.length a0,.slice a1 aa.2.2.2.1.length a2,.slice a3 aa.2.2.2.2.length a4]∧Zc (Za.int .i64) 3 4 av au bg bh aq.1∧[84].map f=[.bool b3]) ?_ ?_
  ·intro f au hJ;obtain ⟨av,b3,hm,ab,aj,ag,ac,ad,ae,af,ah,ai,hs⟩:=hJ;rw [Q1.eq_1] at hm;refine .lL [84] hs ?_;refine Zp hm (fun hb hm=>go ?_) fun hb hm=>go ?_
   ·cases hm;exact ⟨rfl,rfl,ab.below⟩
   obtain ⟨cj,c6,hm⟩:=bZ hm;refine Zh (Zxt 4 c6 rfl ai) ?_;rintro _ dy ⟨dz,rfl,a6,d0,c7⟩;refine ⟨_,rfl,?_⟩;refine .ld (d:=85) (v:=(.slice bg cj.2.length bh)) (congrArg (fun n=>Value.slice bg n bh) (show aq.1.length=cj.2.length from c7.symm)) ?_;refine go ?_;replace ah:=ah.kpp a6;refine lV _ (Xh isAgg27 sizeOf27 ah)<|Zim rfl ?_;have c8:((.agg #[.string aa.1,.slice ax ((aa.2.1.2.take aa.2.1.1).length) ay,.slice az aa.2.2.1.length a0,.slice a1 aa.2.2.2.1.length a2,.slice a3 aa.2.2.2.2.length a4]):Value)=(.agg #[.string aa.1,(.slice ax (aa.1,aa.2.1.2.take aa.2.1.1,aa.2.2.1.map Xj,aa.2.2.2.1.map Xj,aa.2.2.2.2.map (Vk (Prod.map (Prod.map id Xj) Xj))).2.1.length ay),(.slice az (aa.1,aa.2.1.2.take aa.2.1.1,aa.2.2.1.map Xj,aa.2.2.2.1.map Xj,aa.2.2.2.2.map (Vk (Prod.map (Prod.map id Xj) Xj))).2.2.1.length a0),(.slice a1 (aa.1,aa.2.1.2.take aa.2.1.1,aa.2.2.1.map Xj,aa.2.2.2.1.map Xj,aa.2.2.2.2.map (Vk (Prod.map (Prod.map id Xj) Xj))).2.2.2.1.length a2),(.slice a3 (aa.1,aa.2.1.2.take aa.2.1.1,aa.2.2.1.map Xj,aa.2.2.2.1.map Xj,aa.2.2.2.2.map (Vk (Prod.map (Prod.map id Xj) Xj))).2.2.2.2.length a4)]):=by first | (simp only [List.length_map];done) | simp only [List.length_map,List.take_length]
   obtain ⟨be,c9,hm⟩:=bZ hm;replace ac:=ac.kpp a6;replace ad:=ad.kpp a6;replace ae:=ae.kpp a6;replace af:=af.kpp a6;refine lc rfl rfl (Tv call35 c8 rfl) (Zm3 6 c9 (ac.take aa.2.1.1) (ad.weak Ym.view0) (ae.weak Ym.view0) (af.weak (Ym.view (Ym.pair (Ym.pair Ym.rfl Ym.view0) Ym.view0))):) ?_;rintro _ da ⟨bj,ck,cl,rfl,b4,b5⟩;refine ⟨_,rfl,?_⟩;refine lM (.tuple #[.slice ck be.1.length cl,.int .i64 be.2.1,.int .i64 be.2.2])<|lV (.slice ck be.1.length cl) (Xv rfl rfl)<|lV (.int .i64 be.2.1) (Xv rfl rfl)<|lV (.int .i64 be.2.2) (Xv rfl rfl)<|Sa rfl<|Yr rfl<|Yr rfl<|Zk<|Zu ?_;replace aj:=(aj.kpp a6).gr b4;replace ag:=(ag.kpp a6).gr b4;replace ab:=(ab.kpp a6).grow b4;refine Wp.cutK [1000000] (fun f cn=>∃ co b6,Zfw b6=some r∧St w0 (Zi col) co cn∧[4].map f=[.bool b6]) ?_ ?_
   ·intro f cn hJ;obtain ⟨co,b6,hm,ab,hs⟩:=hJ;rw [Zfw.eq_1] at hm;refine .lL [4] hs<|Wc ?_;cases hm;exact ⟨rfl,rfl,ab.below⟩
   refine go ?_;refine Xq hm (fun b7 hm=>go ?_) fun b7 hm=>go ?_
   ·obtain ⟨db,dc,hm⟩:=bZ hm;refine Zh (Zky dc ((aj.toSlF (Zm.int .i64)).froz 2) ((ag.froz 5 (by decide)).toSlF (Zm.int .i64))) ?_;rintro _ cp ⟨rfl,bi⟩;refine ⟨_,rfl,?_⟩;replace bi:Zg bj da bj cp:=.of_below bi;refine lV (.bool db) (Z1 (congrArg Value.bool b7) rfl)<|X2 rfl ?_;replace ag:=ag.gr bi;replace b5:=b5.gr bi;replace ab:=ab.grow bi;refine Xq hm (fun b8 hm=>go ?_) fun b8 hm=>go ?_
    ·obtain ⟨dd,de,hm⟩:=bZ hm;refine Zh (Zky de ((b5.toSlF (Zm.int .i64)).froz 2) ((ag.froz 6 (by decide)).toSlF (Zm.int .i64))) ?_;rintro _ df ⟨rfl,b9⟩;refine ⟨_,rfl,?_⟩;replace b9:Zg bj cp bj df:=.of_below b9;refine lV (.bool dd) (Z1 (congrArg Value.bool b8) rfl)<|go ?_;replace ab:=ab.grow b9;exact ⟨rfl,_,_,hm,ab,rfl⟩
    refine lV (.bool false) (Xn (congrArg Value.bool b8) rfl)<|go ?_;exact ⟨rfl,_,_,hm,ab,rfl⟩
   refine lV (.bool false) (Xn (congrArg Value.bool b7) rfl)<|X2 rfl<|lP 100 rfl rfl<|lP 100 rfl rfl<|lP 100 rfl rfl<|lV (.bool false) (Xn rfl rfl)<|go ?_;exact ⟨rfl,_,_,hm,ab,rfl⟩
  refine go ?_;refine Xq hm (fun ca hm=>go ?_) fun ca hm=>go ?_
  ·refine lV (.bool true) (Z1 (congrArg Value.bool ca) rfl)<|X2 rfl<|lP 57 rfl rfl<|lP 57 rfl rfl<|lP 57 rfl rfl<|lV (.bool true) (Z1 rfl rfl)<|X2 rfl<|lP 62 rfl rfl<|lP 62 rfl rfl<|lP 62 rfl rfl<|lV (.bool true) (Z1 rfl rfl)<|X2 rfl<|lP 67 rfl rfl<|lP 67 rfl rfl<|lP 67 rfl rfl<|lP 67 rfl rfl<|lV (.bool true) (Z1 rfl rfl)<|X2 rfl<|lP 73 rfl rfl<|lP 73 rfl rfl<|lP 73 rfl rfl<|lP 73 rfl rfl<|lV (.bool true) (Z1 rfl rfl)<|X2 rfl<|lP 79 rfl rfl<|lP 79 rfl rfl<|lP 79 rfl rfl<|lP 79 rfl rfl<|lV (.bool true) (Z1 rfl rfl)<|Zk ?_;exact ⟨rfl,_,_,hm,ab,aj,ag,ac,ad,ae,af,ah,ai,rfl⟩
  refine lV (.bool (!decide (ar.2.2=ao.2.2))) (Xn (congrArg Value.bool ca) rfl)<|X2 rfl ?_;refine Xq hm (fun cb hm=>go ?_) fun cb hm=>go ?_
  ·refine lV (.bool true) (Z1 (congrArg Value.bool cb) rfl)<|X2 rfl<|lP 62 rfl rfl<|lP 62 rfl rfl<|lP 62 rfl rfl<|lV (.bool true) (Z1 rfl rfl)<|X2 rfl<|lP 67 rfl rfl<|lP 67 rfl rfl<|lP 67 rfl rfl<|lP 67 rfl rfl<|lV (.bool true) (Z1 rfl rfl)<|X2 rfl<|lP 73 rfl rfl<|lP 73 rfl rfl<|lP 73 rfl rfl<|lP 73 rfl rfl<|lV (.bool true) (Z1 rfl rfl)<|X2 rfl<|lP 79 rfl rfl<|lP 79 rfl rfl<|lP 79 rfl rfl<|lP 79 rfl rfl<|lV (.bool true) (Z1 rfl rfl)<|Zk ?_;exact ⟨rfl,_,_,hm,ab,aj,ag,ac,ad,ae,af,ah,ai,rfl⟩
  refine lV (.bool (!decide (aq.2.1=ao.2.1))) (Xn (congrArg Value.bool cb) rfl)<|X2 rfl ?_;refine Xq hm (fun cc hm=>go ?_) fun cc hm=>go ?_
  ·refine lV (.bool true) (Z1 (congrArg Value.bool cc) rfl)<|X2 rfl<|lP 67 rfl rfl<|lP 67 rfl rfl<|lP 67 rfl rfl<|lP 67 rfl rfl<|lV (.bool true) (Z1 rfl rfl)<|X2 rfl<|lP 73 rfl rfl<|lP 73 rfl rfl<|lP 73 rfl rfl<|lP 73 rfl rfl<|lV (.bool true) (Z1 rfl rfl)<|X2 rfl<|lP 79 rfl rfl<|lP 79 rfl rfl<|lP 79 rfl rfl<|lP 79 rfl rfl<|lV (.bool true) (Z1 rfl rfl)<|Zk ?_;exact ⟨rfl,_,_,hm,ab,aj,ag,ac,ad,ae,af,ah,ai,rfl⟩
  refine lV (.bool (!decide (ar.2.1=ao.2.1))) (Xn (congrArg Value.bool cc) rfl)<|X2 rfl ?_;refine Xq hm (fun cd hm=>go ?_) fun cd hm=>go ?_
  ·refine lV (.bool true) (Z1 (congrArg Value.bool cd) rfl)<|X2 rfl<|lP 73 rfl rfl<|lP 73 rfl rfl<|lP 73 rfl rfl<|lP 73 rfl rfl<|lV (.bool true) (Z1 rfl rfl)<|X2 rfl<|lP 79 rfl rfl<|lP 79 rfl rfl<|lP 79 rfl rfl<|lP 79 rfl rfl<|lV (.bool true) (Z1 rfl rfl)<|Zk ?_;exact ⟨rfl,_,_,hm,ab,aj,ag,ac,ad,ae,af,ah,ai,rfl⟩
  obtain ⟨dg,dh,hm⟩:=bZ hm;refine Zh (Zky dh ((ai.toSlF (Zm.int .i64)).froz 2) ((ag.froz 4 (by decide)).toSlF (Zm.int .i64))) ?_;rintro _ cq ⟨rfl,am⟩;refine ⟨_,rfl,?_⟩;replace am:Zg bd c5 bd cq:=.of_below am;refine go ?_;refine lV (.bool (!dg)) (Xn (congrArg Value.bool cd) rfl)<|X2 rfl ?_;replace ag:=ag.gr am;replace ac:=ac.gr am;replace ad:=ad.gr am;replace ae:=ae.gr am;replace af:=af.gr am;replace ai:=ai.gr am;replace aj:=aj.gr am;replace ak:=ak.gr am;replace ah:=ah.gr am;replace ab:=ab.grow am;refine Xq hm (fun ce hm=>go ?_) fun ce hm=>go ?_
  ·refine lV (.bool true) (Z1 (congrArg Value.bool ce) rfl)<|X2 rfl<|lP 79 rfl rfl<|lP 79 rfl rfl<|lP 79 rfl rfl<|lP 79 rfl rfl<|lV (.bool true) (Z1 rfl rfl)<|Zk ?_;exact ⟨rfl,_,_,hm,ab,aj,ag,ac,ad,ae,af,ah,ai,rfl⟩
  obtain ⟨di,dj,hm⟩:=bZ hm;refine Zh (Zky dj ((aj.toSlF (Zm.int .i64)).froz 2) ((ag.froz 5 (by decide)).toSlF (Zm.int .i64))) ?_;rintro _ cr ⟨rfl,an⟩;refine ⟨_,rfl,?_⟩;replace an:Zg bd cq bd cr:=.of_below an;refine go ?_;refine lV (.bool (!di)) (Xn (congrArg Value.bool ce) rfl)<|X2 rfl ?_;replace ag:=ag.gr an;replace ac:=ac.gr an;replace ad:=ad.gr an;replace ae:=ae.gr an;replace af:=af.gr an;replace ai:=ai.gr an;replace aj:=aj.gr an;replace ak:=ak.gr an;replace ah:=ah.gr an;replace ab:=ab.grow an;refine Xq hm (fun cf hm=>go ?_) fun cf hm=>go ?_
  ·refine lV (.bool true) (Z1 (congrArg Value.bool cf) rfl)<|Zk ?_;exact ⟨rfl,_,_,hm,ab,aj,ag,ac,ad,ae,af,ah,ai,rfl⟩
  refine lV _ (Xh isAgg27 sizeOf27 ah)<|go ?_;refine lV _ (Xh isAgg27 sizeOf27 ak)<|go ?_;obtain ⟨dk,dl,hm⟩:=bZ hm;refine Zh (Zyu dl ac ad ae af (a9.ks ab) (ba.ks ab) (bb.ks ab) (bc.ks ab)) ?_;rintro _ dm ⟨rfl,ap⟩;refine ⟨_,rfl,?_⟩;replace ap:Zg bd cr bd dm:=.of_below ap;refine go ?_;refine lV (.bool (!dk)) (Xn (congrArg Value.bool cf) rfl)<|Zk ?_;replace ag:=ag.gr ap;replace ac:=ac.gr ap;replace ad:=ad.gr ap;replace ae:=ae.gr ap;replace af:=af.gr ap;replace ai:=ai.gr ap;replace aj:=aj.gr ap;replace ah:=ah.gr ap;replace ab:=ab.grow ap;exact ⟨rfl,_,_,hm,ab,aj,ag,ac,ad,ae,af,ah,ai,rfl⟩
 refine Wi<|lV _ (Xh isAgg27 sizeOf27 ak) ?_;obtain ⟨d1,dn,hm⟩:=bZ hm;refine Zh (Zxs dn (a9.ks ab) (ba.ks ab) (bb.ks ab) (bc.ks ab)) ?_;rintro _ dp ⟨rfl,bk⟩;refine ⟨_,rfl,?_⟩;replace bk:Zg ch ct ch dp:=.of_below bk;refine X2 rfl ?_;replace ak:=ak.gr bk;replace ab:=ab.grow bk;refine Xq hm (fun cg hm=>go ?_) fun cg hm=>go ?_
 ·refine lV (.bool true) (Z1 (congrArg Value.bool cg) rfl)<|Zk ?_;exact ⟨rfl,_,_,hm,ab,ak,rfl⟩
 refine lV (.bool (decide (300<(bf.size:Int)))) (Xn (congrArg Value.bool cg) rfl)<|Zk ?_;exact ⟨rfl,_,_,hm,ab,ak,rfl⟩
theorem Zw2 {N W K:Nat} {n:Xt} {s:ByteArray} (hs:Ue n W) (hb:Zki n) (hr:Xd N (8 * K+40)) (hWK:1025 * (W+2)+15≤K) (hN:2000000<N):Zld N n s=some true:=by
 obtain ⟨r,hm⟩:=Z1h (N:=N) (n:=n) (fun t ht=>⟨hb.tl t ht,hb.tm t ht⟩) hb.tn (by omega)
 have hm':Ziu N (n.1,n.2.1,n.2.2.1,n.2.2.2.1,n.2.2.2.2)=some r:=hm
 rw [Zld,hm',Option.bind_some]
 cases r with
 | true=>rw [if_pos rfl,Zdn,if_pos rfl]
 | false=>
  rw [if_neg (show ¬ false=true by decide)]
  by_cases hsz:300<(s.size:Int)
  ·rw [decide_eq_true hsz,Zdn,if_pos rfl]
  ·rw [decide_eq_false hsz,Zdn,if_neg (show ¬ false=true by decide)]
   obtain ⟨x,s1,s2,sx⟩:=Zzo (s:=s) hs hr hWK hN (by omega)
   have s2':Zhg N (n.1,n.2.1,n.2.2.1,n.2.2.2.1,n.2.2.2.2) s=some x:=s2
   have l:Zhc N (n.1,n.2.1,n.2.2.1,n.2.2.2.1,n.2.2.2.2)=some (Ys n):=Z08 hb (by omega)
   have k1:Zhb N ((Ys n).1,((Ys n).2.1.1,(Ys n).2.1.2),(Ys n).2.2.1,(Ys n).2.2.2.1,(Ys n).2.2.2.2) (n.1,n.2.1,n.2.2.1,n.2.2.2.1,n.2.2.2.2)=some true:=Z0w hb (by omega)
   have si:=Z3l (N:=N) (l:=x.1) (by omega) (by omega)
   have sp:=Z3t (N:=N) (l:=x.1) (by omega) (by omega)
   have d1:¬ (!decide (x.2.2=x.2.2))=true:=by rw [decide_eq_true rfl];decide
   have d2:¬ (!decide (x.2.1=x.2.1))=true:=by rw [decide_eq_true rfl];decide
   rw [s2',Option.bind_some,l,Option.bind_some,Zwq,s1,Option.bind_some,Option.bind_some,if_neg d1,if_neg d1,if_neg d2,if_neg d2,si,Option.bind_some,if_neg (show ¬ (!true)=true by decide),Option.bind_some,if_neg (show ¬ (!true)=true by decide),k1,Option.bind_some,
    Q1,if_neg (show ¬ (!true)=true by decide),sp,Option.bind_some,Zwq,s1,Option.bind_some,if_pos rfl,si,Option.bind_some,if_pos rfl,Option.bind_some,Zfw]
theorem Zaj {α:Type} {b:α→Nat} (hb:∀ x,1≤b x):∀ (l:List α),l.length+1≤X7 b l
 | []=>by simp [X7]
 | x :: l=>by
  have h:=Zaj hb l
  have:=hb x
  simp only [X7,List.map_cons,List.sum_cons,List.length_cons] at h ⊢
  omega
theorem Zlw {α:Type} {b:α→Nat} {x:α}:∀ {l:List α},x ∈ l→b x+1≤X7 b l
 | y :: l,h=>by
  simp only [X7,List.map_cons,List.sum_cons]
  rcases List.mem_cons.1 h with rfl | h
  ·omega
  ·have:=Zlw (b:=b) h
   simp only [X7] at this
   omega
theorem Zm1 {α:Type} {b:α→Nat} (l:List α):1≤X7 b l:=by simp only [X7];omega
theorem Zm2 (s:ByteArray):1≤Vf s:=by simp only [Vf];omega
theorem Zm0 {α:Type} (s:α):1≤Wy s:=by simp only [Wy];omega
theorem Zxd {α:Type} {b:α→Nat} (s:α):1≤Ut b s:=by simp only [Ut];omega
abbrev Zbf:QV→Nat:=Ut (W9 (Ut (W9 Wy (X7 Wy))) (X7 Wy))
abbrev qQ:QV→Prop:=Tu (Tu (fun _=>True) (Ve (Zbb .u32))) (Ve (Zbb .u32))
abbrev Zkm:Xt→Nat:=Ut (W9 Vf (W9 (X7 Vf) (W9 (X7 (X7 Vf)) (W9 (X7 (X7 Wy)) (X7 (X7 Zbf))))))
abbrev Zt2:Xt→Prop:=Tu (fun _=>True) (Tu (Ve (fun _=>True)) (Tu (Ve (Ve (fun _=>True))) (Tu (Ve (Ve (Zbb .i64))) (Ve (Ve qQ)))))
theorem Zsl {l:List Int} (h:Ve (Zbb .u32) l):Zo l:=by
 intro d hd
 have h1:=h d hd
 simp [Zbb,Lit.wf,IntKind.min,IntKind.max,IntKind.signed,IntKind.bits] at h1
 omega
theorem Z1c {x:QV} (h:qQ x):Wx x:=⟨Zsl h.1.2,Zsl h.2⟩
theorem Zpk (x:QV):x.1.2.length+x.2.length+4≤Zbf x:=by
 have h1:=Zaj (b:=Wy) Zm0 x.1.2
 have h2:=Zaj (b:=Wy) Zm0 x.2
 simp only [Ut,W9]
 have h3:Wy x.1.1=1:=rfl
 omega
theorem Zt5:∀ t:List QV,X9 t≤X7 Zbf t
 | []=>by rw [X9];omega
 | x :: t=>by
  have h1:=Zt5 t
  have h2:=Zpk x
  rw [X9]
  simp only [X7,List.map_cons,List.sum_cons] at h1 ⊢
  omega
theorem Zwl:∀ P:List R2,U2 P+P.length≤X7 (X7 Wy) P
 | []=>by simp [U2,X7]
 | l :: P=>by
  have h1:=Zwl P
  have h2:=Zaj (b:=Wy) Zm0 l
  rw [Zka,List.length_cons]
  simp only [X7,List.map_cons,List.sum_cons] at h1 h2 ⊢
  omega
theorem Z1w {n:Xt} (hb:Zkm n≤1048576) (hq:Zt2 n):Ue n 1048576∧Zki n:=by
 have a1:=Zm2 n.1
 have a2:=Zaj (b:=Vf) Zm2 n.2.1
 have a3:=Zaj (b:=X7 Vf) Zm1 n.2.2.1
 have a4:=Zwl n.2.2.2.1
 have a5:=Zaj (b:=X7 Zbf) Zm1 n.2.2.2.2
 have a6:=Zm1 (b:=X7 Wy) n.2.2.2.1
 simp only [Zkm,Ut,W9] at hb
 have b3:∀ l ∈ n.2.2.1,l.length≤1048576:=fun l hl=>by
  have h1:=Zlw (b:=X7 Vf) hl
  have h2:=Zaj (b:=Vf) Zm2 l
  omega
 have b4:∀ l ∈ n.2.2.2.1,l.length≤1048576:=fun l hl=>by
  have h1:=Zmo hl
  omega
 have b5:∀ t ∈ n.2.2.2.2,X7 Zbf t≤1048576:=fun t ht=>by
  have h1:=Zlw (b:=X7 Zbf) ht
  omega
 have b6:∀ t ∈ n.2.2.2.2,t.length≤1048576:=fun t ht=>by
  have h1:=b5 t ht
  have h2:=Zaj (b:=Zbf) Zxd t
  omega
 refine ⟨⟨by omega,b3,⟨by omega,by omega⟩,b6,fun t ht=>Nat.le_trans (Zt5 t) (b5 t ht),fun t ht x hx=>Z1c (hq.2.2.2.2 t ht x hx)⟩,⟨by omega,by omega,b3,by omega,b4,by omega,b6,fun t ht x hx=>?_⟩⟩
 have h1:=b5 t ht
 have h2:=Zlw (b:=Zbf) hx
 have h3:=Zpk x
 omega
end Go.Proofs.YtbmjpjhbankpoaaGreat
