/-
  What functions of the program compute, as plain Lean functions (m_..), and proofs that they compute it (c_..). Printed by a program of the author; no conditions.
-/
import Derived.Test.YtbmjpjhbankpoaaGreatJointSharesBFloat
import Derived.Test.YtbmjpjhbankpoaaGreatProg
import Derived.Test.YtbmjpjhbankpoaaGreatJointSharesBBrief
import Derived.Test.YtbmjpjhbankpoaaGreatJointSharesBBulk
import Derived.Test.YtbmjpjhbankpoaaGreatJointSharesF4
set_option linter.unusedVariables false
set_option maxRecDepth 100000
set_option maxHeartbeats 2000000
namespace Go.Proofs.YtbmjpjhbankpoaaGreat
open Go Go.RowKit
open Go.IntKind (i8 i16 i32 i64 u8 u16 u32 u64)
open Go.Proofs.Tryz

def Zkd (aa:Bool):Option Bool:=
  some aa
def Zg9 (aa:Bool):Option Bool:=
  some aa
def Zhb (aa:Int) (kk_L2:(Int→Option Bool)):Option Bool:=
  kk_L2 (i64.wrap (aa+1))
def Zfc (aa:Int) (kk_L3:(Bool→R2→R2→Bool→Int→Option Bool)) (ab:Bool) (ac:List Int) (ad:List Int) (ae:Bool):Option Bool:=
  kk_L3 ab ac ad ae (i64.wrap (aa+1))
def Zc4 (N:Nat) (ac:Bool) (ad:List Int) (ae:List Int) (af:Int) (kk_L3:(Bool→R2→R2→Bool→Int→Option Bool)) (aa:(R1×Int)) (ag:Bool):Option Bool:=
  (Vs N ((ac,ad),ae) ((aa.1.1.1,aa.1.1.2),aa.1.2)).bind fun ab=>Zfc af kk_L3 ab.1.1 ab.1.2 ab.2 ag
def Ze9 (aa:Int) (kk_L2:(Int→Option Bool)) (ab:Bool):Option Bool:=
  if ab=true then (some false) else (Zhb aa kk_L2)
def Qy (N:Nat) (aa:R0) (ad:R9) (ab:Int) (kk_L2:(Int→Option Bool)):Nat→Bool→R2→R2→Bool→Int→Option Bool
  | 0,_,_,_,_,_=>none
  | aj+1,ae,af,ag,ak,ac=>(Zq aa.2.2.1 ab).bind fun al=>if (decide (ac<(al.length:Int)))=true then ((Zam N (aa.1,aa.2.1,aa.2.2.1,aa.2.2.2.1,aa.2.2.2.2) [(ab,ac)] ad).bind fun ah=>if ak=true then (Zc4 N ae af ag ac (Qy N aa ad ab kk_L2 aj) ah (decide (ah.2=0))) else (Zc4 N ae af ag ac (Qy N aa ad ab kk_L2 aj) ah false)) else (if ak=true then ((Zhc N 1 1).bind fun ai=>(S1 N ((ae,af),ag) ((ai.1.1,ai.1.2),ai.2)).bind fun am=>Ze9 ab kk_L2 (!decide (am=0))) else (Ze9 ab kk_L2 false))
termination_by structural x=>x
def Tk (N:Nat) (aa:R0) (ac:R9) (ad:Bool):Nat→Int→Option Bool
  | 0,_=>none
  | af+1,ae=>if (decide (ae<(aa.2.1.length:Int)))=true then ((Ti N ([]:List R1)).bind fun ab=>Qy N aa ac ae (Tk N aa ac ad af) N ab.1.1 ab.1.2 ab.2 true 0) else (some ad)
termination_by structural x=>x
def Zha (N:Nat) (aa:R0) (ab:R9) (ac:Bool) (ad:Bool):Option Bool:=
  if ad=true then (some false) else (Tk N aa ab ac N 0)
def Zc6 (N:Nat) (aa:R0) (ac:R9) (ad:R9) (ag:Bool) (ae:(R1×Int)):Option Bool:=
  (Zam N (aa.1,aa.2.1,aa.2.2.1,aa.2.2.2.1,aa.2.2.2.2) ac ad).bind fun af=>Zz ((([]:List R3).length+ac.length) * 16≤140737488355328∧([]:List R3).length+ac.length≤maxLen) (Zz (((([]:List R3)++ac).length+ad.length) * 16≤140737488355328∧(([]:List R3)++ac).length+ad.length≤maxLen) ((Zan N (aa.1,aa.2.1,aa.2.2.1,aa.2.2.2.1,aa.2.2.2.2) ((([]:List R3)++ac)++ad)).bind fun ab=>if (!decide (ab.2=0))=true then (if ag=true then (Zkd (decide (af.2=ab.2))) else (Zkd false)) else ((S3 N ((ae.1.1.1,ae.1.1.2),ae.1.2)).bind fun ai=>if (decide (ai=0))=true then (if ag=true then (if (decide (af.2=52))=true then ((S3 N ((ab.1.1.1,ab.1.1.2),ab.1.2)).bind fun aj=>Zg9 (decide (aj=0))) else (Zg9 false)) else (Zg9 false)) else (if (!decide (af.2=0))=true then (Zha N aa ad ag true) else ((Zbp N ((af.1.1.1,af.1.1.2),af.1.2) ((ae.1.1.1,ae.1.1.2),ae.1.2)).bind fun ah=>(S1 N ((ah.1.1,ah.1.2),ah.2) ((ab.1.1.1,ab.1.1.2),ab.1.2)).bind fun ak=>Zha N aa ad ag (!decide (ak=0)))))))
def Zc8 (N:Nat) (ag:R0) (ah:R9) (ai:R9) (aj:Bool) (ak:(R1×Int)) (ac:R7) (ad:R7) (ab:Int):Nat→Int→Option Bool
  | 0,_=>none
  | al+1,aa=>if (decide (aa<(ad.1.2.2.length:Int)))=true then ((Zq ad.1.2.2 aa).bind fun ae=>Zz ((0:Int)≤(i64.wrap (aa * ab))∧(i64.wrap (aa * ab))≤(i64.wrap ((i64.wrap (aa+1)) * ab))∧(i64.wrap ((i64.wrap (aa+1)) * ab))≤(ac.1.2.2.length:Int)) ((Ti N ((ac.1.2.2.take (Int.toNat (i64.wrap ((i64.wrap (aa+1)) * ab)))).drop (Int.toNat (i64.wrap (aa * ab))))).bind fun af=>(S1 N ((ae.1.1,ae.1.2),ae.2) ((af.1.1,af.1.2),af.2)).bind fun am=>if (!decide (am=0))=true then (some false) else ((Zc8 N ag ah ai aj ak ac ad ab al) (i64.wrap (aa+1))))) else (Zc6 N ag ah ai aj ak)
termination_by structural x=>x
def Zfb (N:Nat) (aa:R0) (ab:R9) (ac:R9) (ad:Bool) (ae:(R1×Int)) (af:R7) (ag:R7) (ah:Int) (ai:Bool):Option Bool:=
  if ai=true then (some false) else (Zc8 N aa ab ac ad ae af ag ah N 0)
def Zfa (N:Nat) (aa:R0) (ag:R9) (ad:R9) (ac:List Int) (ah:Bool) (ai:(R1×Int)) (ab:R7) (aj:Bool):Option Bool:=
  if aj=true then (Zz ((0:Int)≤(i64.wrap ((ac.length:Int) - 1))∧(i64.wrap ((ac.length:Int) - 1))≤(ab.1.1.length:Int)) (Zz ((([]:List Int).length+(ab.1.1.take (Int.toNat (i64.wrap ((ac.length:Int) - 1)))).length) * 8≤140737488355328∧([]:List Int).length+(ab.1.1.take (Int.toNat (i64.wrap ((ac.length:Int) - 1)))).length≤maxLen) ((S4 N (aa.1,aa.2.1,aa.2.2.1,aa.2.2.2.1,aa.2.2.2.2) (([]:List Int)++(ab.1.1.take (Int.toNat (i64.wrap ((ac.length:Int) - 1))))) ad).bind fun ae=>(Zq ab.1.2.1 (i64.wrap ((ac.length:Int) - 1))).bind fun af=>if (!decide (ae.2=0))=true then (Zfb N aa ag ad ah ai ab ae af true) else (if (decide (af<1))=true then (Zfb N aa ag ad ah ai ab ae af true) else (Zfb N aa ag ad ah ai ab ae af (!decide ((i64.wrap ((ae.1.2.2.length:Int) * af))=(ab.1.2.2.length:Int)))))))) else (Zc6 N aa ag ad ah ai)
def Zbv (N:Nat) (ac:R0) (ad:R9) (ae:R9) (aa:List Int) (af:Bool) (ag:(R1×Int)) (ab:R7) (ah:Bool):Option Bool:=
  if ah=true then (some false) else (if (decide (0<(aa.length:Int)))=true then (Zfa N ac ad ae aa af ag ab (decide ((ab.1.1.length:Int)=(aa.length:Int)))) else (Zfa N ac ad ae aa af ag ab false))
def Zc7 (N:Nat) (ad:R0) (ae:R9) (af:R9) (ac:List Int) (ag:Bool) (ab:(R1×Int)) (aa:R7):Nat→Bool→R2→R2→Int→Option Bool
  | 0,_,_,_,_=>none
  | an+1,ak,al,am,ah=>if (decide (ah<(aa.1.2.2.length:Int)))=true then ((Zq aa.1.2.2 ah).bind fun ai=>(Vs N ((ak,al),am) ((ai.1.1,ai.1.2),ai.2)).bind fun aj=>(Zc7 N ad ae af ac ag ab aa an) aj.1.1 aj.1.2 aj.2 (i64.wrap (ah+1))) else ((S1 N ((ak,al),am) ((ab.1.1.1,ab.1.1.2),ab.1.2)).bind fun ao=>if (!decide (ao=0))=true then (Zbv N ad ae af ac ag ab aa true) else (if (!decide ((aa.1.1.length:Int)=(ac.length:Int)))=true then (Zbv N ad ae af ac ag ab aa true) else (Zbv N ad ae af ac ag ab aa (!decide ((aa.1.2.1.length:Int)=(ac.length:Int))))))
termination_by structural x=>x
def Zc5 (N:Nat) (ac:R0) (ad:R9) (ae:R9) (af:List Int) (ab:Bool) (ag:(R1×Int)) (ah:R7) (ai:Bool):Option Bool:=
  if ai=true then (some ab) else ((Ti N ([]:List R1)).bind fun aa=>Zc7 N ac ad ae af ab ag ah N aa.1.1 aa.1.2 aa.2 0)
def Ze8 (N:Nat) (aa:R0) (ag:R9) (ab:R9) (ac:List Int) (ad:Bool) (ah:Bool):Option Bool:=
  if ah=true then (some ad) else ((Zan N (aa.1,aa.2.1,aa.2.2.1,aa.2.2.2.1,aa.2.2.2.2) ab).bind fun ae=>(S4 N (aa.1,aa.2.1,aa.2.2.1,aa.2.2.2.1,aa.2.2.2.2) ac ab).bind fun af=>if (!decide (ae.2=0))=true then (Zc5 N aa ag ab ac ad ae af true) else (Zc5 N aa ag ab ac ad ae af (!decide (af.2=0))))
def Zkc (N:Nat) (aa:R0) (ab:R9) (ac:R9) (ad:List Int):Option Bool:=
  (Zo1).bind fun ae=>(U2 N (aa.1,aa.2.1,aa.2.2.1,aa.2.2.2.1,aa.2.2.2.2)).bind fun af=>if (!decide (af=0))=true then (Ze8 N aa ab ac ad ae true) else ((Zke N (aa.1,aa.2.1,aa.2.2.1,aa.2.2.2.1,aa.2.2.2.2)).bind fun ag=>Ze8 N aa ab ac ad ae ag)
theorem Zw2 (N:Nat) (col:Zd) (w0:World) (a7:Option Addr) (a8:Nat) (a9:Option Addr) (ba:Nat) (bb:Option Addr) (bc:Nat) (bd:Option Addr) (be:Nat) (ac:R0) (a1:Option Addr) (dm:Nat) (bm:R9) (a2:Option Addr) (c2:Nat) (am:R9) (a3:Option Addr) (dx:Nat) (ax:List Int) (cq:Sl Za.str col w0 a7 a8 ac.2.1) (b5:Sl (Za.slice Za.str) col w0 a9 ba ac.2.2.1) (cr:Sl (Za.slice (Za.int .i64)) col w0 bb bc ac.2.2.2.1) (ct:Sl (Za.slice (Za.pair (Za.pair Za.bool (Za.slice (Za.int .u32))) (Za.slice (Za.int .u32)))) col w0 bd be ac.2.2.2.2) (h1:Sl (Za.pair (Za.int .i64) (Za.int .i64)) col w0 a1 dm bm) (h2:Sl (Za.pair (Za.int .i64) (Za.int .i64)) col w0 a2 c2 am) (h3:Sl (Za.int .i64) col w0 a3 dx ax) (r:Bool) (hm:Zkc N ac bm am ax=some r):
    Calls prog 14 #[(.agg #[.string ac.1,.slice a7 ac.2.1.length a8,.slice a9 ac.2.2.1.length ba,.slice bb ac.2.2.2.1.length bc,.slice bd ac.2.2.2.2.length be]),.slice a1 bm.length dm,.slice a2 am.length c2,.slice a3 ax.length dx] w0 (fun e w'=>e= .returned ((.bool r))∧Below w0.heap.size w0 w'):=by
 refine Xk 8 (m:=265) func14 rfl rfl rfl rfl rfl ?_;rw [Zkc.eq_1] at hm;have aa:=St.start col w0;refine go ?_;refine Ye (col:=(Zj col)) 1 rfl ?_;intro ar ic dn id ab;refine go ?_;obtain ⟨ao,ie,hm⟩:=bZ hm;refine lc rfl rfl (Zch call66) (Zz7 dn _ ao ie) ?_;rintro _ hx ⟨rfl,ey⟩;refine ⟨_,rfl,?_⟩;replace ey:Zi dn ic dn hx:=.of_below ey;refine lAB rfl<|Zm<|Zw<|Zw ?_;replace cq:=cq.keep (Zl.start col w0);replace b5:=b5.keep (Zl.start col w0);replace cr:=cr.keep (Zl.start col w0);replace ct:=ct.keep (Zl.start col w0);replace h1:=h1.keep (Zl.start col w0);replace h2:=h2.keep (Zl.start col w0);replace h3:=h3.keep (Zl.start col w0);replace aa:=(aa.grow id).grow ey;replace ab:=ab.gr ey;refine Wp.cutK [] (fun f fq=>∃ fr ft,Ze8 N ac bm am ax ao ft=some r∧St w0 (Zj col) fr fq∧Zk 27 1 fr fq ar #[.string ac.1,.slice a7 ac.2.1.length a8,.slice a9 ac.2.2.1.length ba,.slice bb ac.2.2.2.1.length bc,.slice bd ac.2.2.2.2.length be]∧[1,2,3,4,40,9,1000000].map f=[.slice a1 bm.length dm,.slice a2 am.length c2,.slice a3 ax.length dx,.pointer (some ⟨ar,0,none⟩),.bool ft,.bool ao,enc []]) ?_ ?_
 ·intro f fq hJ;obtain ⟨fr,ft,hm,aa,ab,hs⟩:=hJ;rw [Ze8.eq_1] at hm;refine .lL [1,2,3,4,40,9,1000000] hs ?_;refine Zr hm (fun hb hm=>go ?_) fun hb hm=>go ?_
  ·cases hm;exact ⟨rfl,rfl,aa.below⟩
  refine lV _ (Xh isAgg27 sizeOf27 ab)<|Y0 rfl ?_;obtain ⟨ah,ig,hm⟩:=bZ hm;refine Zh (Zma 2 3 ig (cq.ks aa) (b5.ks aa) (cr.ks aa) (ct.ks aa) (h2.ks aa)) ?_;rintro _ li ⟨ih,bf,bg,bh,bi,rfl,hy,ae,af⟩;refine ⟨_,rfl,?_⟩;refine lM (.tuple #[(.agg #[.bool ah.1.1.1,.slice bf ah.1.1.2.length bg,.slice bh ah.1.2.length bi]),.int .i64 ah.2])<|lV (.agg #[.bool ah.1.1.1,.slice bf ah.1.1.2.length bg,.slice bh ah.1.2.length bi]) (Xe rfl rfl)<|lV (.int .i64 ah.2) (Xe rfl rfl)<|Xr (col:=ih) #[.bool false,.slice none (([]:List Int).length) 0,.slice none (([]:List Int).length) 0] 4 zeroValue47 ?_;intro cd lj lk ez ii;refine Z5 ii ?_;intro ll e0 ij ag;refine go ?_;replace ab:=((ab.gr hy).gr ez).kp e0;refine lV _ (Xh isAgg27 sizeOf27 ab)<|go ?_;obtain ⟨ad,ik,hm⟩:=bZ hm;replace aa:=((aa.grow hy).grow ez).kp e0 ij;refine Zh (Zmb 5 6 7 ik (cq.ks aa) (b5.ks aa) (cr.ks aa) (ct.ks aa) (h3.ks aa) (h2.ks aa)) ?_;rintro _ lm ⟨il,bj,bk,br,bs,a5,ay,rfl,ej,ak,al,aj⟩;refine ⟨_,rfl,?_⟩;refine lM (.tuple #[(.agg #[.slice bj ad.1.1.length bk,.slice br ad.1.2.1.length bs,.slice a5 ad.1.2.2.length ay]),.int .i64 ad.2])<|lV (.agg #[.slice bj ad.1.1.length bk,.slice br ad.1.2.1.length bs,.slice a5 ad.1.2.2.length ay]) (Xe rfl rfl)<|lV (.int .i64 ad.2) (Xe rfl rfl)<|Xr (col:=il) #[.slice none (([]:List Int).length) 0,.slice none (([]:List Int).length) 0,(.slice none (([]:List R1).length) 0)] 8 zeroValue91 ?_;intro c3 ln lo dd im;refine Z5 im ?_;intro lq de io ai;refine Yr rfl<|Zm<|Zw<|Zw ?_;replace ae:=((((ae.gr ez).kp e0).gr ej).gr dd).kp de;replace af:=((((af.gr ez).kp e0).gr ej).gr dd).kp de;replace ab:=((ab.gr ej).gr dd).kp de;replace ag:=((ag.gr ej).gr dd).kp de;replace aa:=((aa.grow ej).grow dd).kp de io;replace ak:=(ak.gr dd).kp de;replace al:=(al.gr dd).kp de;replace aj:=(aj.gr dd).kp de
  refine Wp.cutK [] (fun f cu=>∃ ce fu,Zc5 N ac bm am ax ao ah ad fu=some r∧St w0 (Zj col) ce cu∧Zc (Za.int .u32) 79 2 ce cu bf bg ah.1.1.2∧Zc (Za.int .u32) 79 3 ce cu bh bi ah.1.2∧Zk 47 4 ce cu cd #[.bool ah.1.1.1,.slice bf ah.1.1.2.length bg,.slice bh ah.1.2.length bi]∧Zc (Za.int .i64) 3 5 ce cu bj bk ad.1.1∧Zc (Za.int .i64) 3 6 ce cu br bs ad.1.2.1∧Zc (Za.pair (Za.pair Za.bool (Za.row 79 (Za.int .u32))) (Za.row 79 (Za.int .u32))) 47 7 ce cu a5 ay ad.1.2.2∧Zk 91 8 ce cu c3 #[.slice bj ad.1.1.length bk,.slice br ad.1.2.1.length bs,.slice a5 ad.1.2.2.length ay]∧Zk 27 1 ce cu ar #[.string ac.1,.slice a7 ac.2.1.length a8,.slice a9 ac.2.2.1.length ba,.slice bb ac.2.2.2.1.length bc,.slice bd ac.2.2.2.2.length be]∧[1,10,12,2,3,4,60,9,1000000].map f=[.slice a1 bm.length dm,.pointer (some ⟨cd,0,none⟩),.pointer (some ⟨c3,0,none⟩),.slice a2 am.length c2,.slice a3 ax.length dx,.pointer (some ⟨ar,0,none⟩),.bool fu,.bool ao,enc []]) ?_ ?_
  ·intro f cu hJ;obtain ⟨ce,fu,hm,aa,ae,af,ag,ak,al,aj,ai,ab,hs⟩:=hJ;rw [Zc5.eq_1] at hm;refine .lL [1,10,12,2,3,4,60,9,1000000] hs ?_;refine Zr hm (fun hb hm=>go ?_) fun hb hm=>go ?_
   ·cases hm;exact ⟨rfl,rfl,aa.below⟩
   obtain ⟨lr,ip,hm⟩:=bZ hm;refine Zh (Zel (col:=ce) 9 10 ip Sl.nil) ?_;rintro _ lw ⟨iq,lx,ly,lz,l0,rfl,c4,fv,fw⟩;refine ⟨_,rfl,?_⟩;refine Xr (col:=iq) #[.bool false,.slice none (([]:List Int).length) 0,.slice none (([]:List Int).length) 0] 11 zeroValue47 ?_;intro hz l1 l2 cf ir;refine Z5 ir ?_;intro l3 cg it c5;refine go ?_;replace ae:=((ae.gr c4).gr cf).kp cg;replace af:=((af.gr c4).gr cf).kp cg;replace ak:=((ak.gr c4).gr cf).kp cg;replace al:=((al.gr c4).gr cf).kp cg;replace aj:=((aj.gr c4).gr cf).kp cg;replace ag:=((ag.gr c4).gr cf).kp cg;replace ai:=((ai.gr c4).gr cf).kp cg;replace ab:=((ab.gr c4).gr cf).kp cg;replace aa:=((aa.grow c4).grow cf).kp cg it;replace fv:=(fv.gr cf).kp cg;replace fw:=(fw.gr cf).kp cg;refine Z8 [] (fun n f bt=>∃ an fx fy fz e1 f0 f1 e2 f2 dy,dy=n∧Zc7 N ac bm am ax ao ah ad dy fx e1 e2 f2=some r∧St w0 (Zj col) an bt∧Zc (Za.int .u32) 79 2 an bt bf bg ah.1.1.2∧Zc (Za.int .u32) 79 3 an bt bh bi ah.1.2∧Zk 47 4 an bt cd #[.bool ah.1.1.1,.slice bf ah.1.1.2.length bg,.slice bh ah.1.2.length bi]∧Zc (Za.int .i64) 3 5 an bt bj bk ad.1.1∧Zc (Za.int .i64) 3 6 an bt br bs ad.1.2.1∧Zc (Za.pair (Za.pair Za.bool (Za.row 79 (Za.int .u32))) (Za.row 79 (Za.int .u32))) 47 7 an bt a5 ay ad.1.2.2∧Zk 91 8 an bt c3 #[.slice bj ad.1.1.length bk,.slice br ad.1.2.1.length bs,.slice a5 ad.1.2.2.length ay]∧Zc (Za.int .u32) 79 9 an bt fy fz e1∧Zc (Za.int .u32) 79 10 an bt f0 f1 e2∧Zk 47 11 an bt hz #[.bool fx,.slice fy e1.length fz,.slice f0 e2.length f1]∧Zk 27 1 an bt ar #[.string ac.1,.slice a7 ac.2.1.length a8,.slice a9 ac.2.2.1.length ba,.slice bb ac.2.2.2.1.length bc,.slice bd ac.2.2.2.2.length be]∧[1,10,12,14,15,2,3,4,9,1000000].map f=[.slice a1 bm.length dm,.pointer (some ⟨cd,0,none⟩),.pointer (some ⟨c3,0,none⟩),.pointer (some ⟨hz,0,none⟩),.int .i64 f2,.slice a2 am.length c2,.slice a3 ax.length dx,.pointer (some ⟨ar,0,none⟩),.bool ao,enc []]) N ⟨_,_,_,_,_,_,_,_,0,_,rfl,hm,aa,ae,af,ag,ak,al,aj,ai,fv,fw,c5,ab,rfl⟩ ?_;clear hm;intro n f bt hI
   obtain ⟨an,fx,fy,fz,e1,f0,f1,e2,f2,dy,hn,hm,aa,ae,af,ag,ak,al,aj,ai,e3,e4,c5,ab,hs⟩:=hI;subst hn;refine .lL [1,10,12,14,15,2,3,4,9,1000000] hs ?_
   cases dy with
   | zero=>rw [Zc7.eq_1] at hm;cases hm
   | succ dy=>
    rw [Zc7.eq_2] at hm;refine go ?_;refine Xu ai ?_;refine go ?_;refine Zr hm (fun hb hm=>go ?_) fun hb hm=>?_
    ·refine Wk (col:=an) [(0,0),(1,1),(2,0),(3,1),(4,1),(5,0),(6,3),(7,2)] (by kernel_rfl) (by kernel_rfl)<|xv rfl rfl (fun _ hC=>Xh isAgg47 sizeOf47 (c5.gr (hC.bl an))) ?_;refine xF ⟨_,_,rfl⟩ ?_;refine xW (fun _ hC=>((ai.atN).nth (q:=2) rfl).gr (hC.bl an)) ?_;refine xu rfl rfl (fun _=>Yw rfl) ?_;obtain ⟨f3,e5,hm⟩:=bZ hm;refine xu rfl rfl (fun _=>Y9 underlying56 sizeOf47 rfl rfl (Xj e5).1 (Xj e5).2.1 (aj.addr e5)) ?_;obtain ⟨_,iu,iv⟩:=aj.atN e5;obtain ⟨_,_,rfl,iw,ix⟩:=iu.parts;obtain ⟨_,_,rfl,iy,iz⟩:=iw.parts;obtain rfl:=iy.bool;obtain ⟨i0,i1,rfl,f4⟩:=iz.row;obtain ⟨i2,i3,rfl,f5⟩:=ix.row;refine xv (v:=(.agg #[.bool f3.1.1,.slice i0 f3.1.2.length i1,.slice i2 f3.2.length i3])) rfl rfl (fun _ hC=>Wj isAgg47 sizeOf47 rfl rfl (iv.gr (hC.bl an))) ?_;refine xe rfl rfl ?_;intro i4 hC0;have hC:=hC0.bl an;obtain ⟨l4,i5,hm⟩:=bZ hm;replace e3:=e3.gr hC;replace e4:=e4.gr hC;replace f4:=f4.gr hC;replace f5:=f5.gr hC;refine Zh (Zej 12 13 i5 (((e3.toSlF (Zg.int .u32)).froz 10).froz 7) (((e4.froz 9 (by decide)).toSlF (Zg.int .u32)).froz 7) (((f4.froz 9 (by decide)).froz 10 (by decide)).toSlF (Zg.int .u32)) (((f5.froz 9 (by decide)).froz 10 (by decide)).toSlF (Zg.int .u32))) ?_;rintro _ l5 ⟨i6,l6,l7,l8,l9,rfl,bp,ch,ci⟩;refine ⟨_,rfl,?_⟩;replace ch:=ch.thaw (Z0 .u32) bp ((((Fz.refl (col:=an)).froz 9).froz 10).froz 7) (by decide);replace ci:=ci.thaw (Z0 .u32) bp ((((Fz.refl (col:=an)).froz 9).froz 10).froz 7) (by decide);replace bp:=bp.thawR (col:=an);generalize Xc i4.heap.size an i6=e6 at *;refine Zm<|X0 e6 hC0 bp<|xe rfl rfl ?_;intro ma hC0;replace ae:=(ae.gr hC).gr bp;replace af:=(af.gr hC).gr bp;replace ak:=(ak.gr hC).gr bp;replace al:=(al.gr hC).gr bp;replace aj:=(aj.gr hC).gr bp;replace ag:=(ag.gr hC).gr bp;replace ai:=(ai.gr hC).gr bp;replace c5:=(c5.gr hC).gr bp;replace ab:=(ab.gr hC).gr bp;replace aa:=(aa.grow hC).grow bp;have hC:=hC0.bl e6;replace c5:=c5.gr hC;refine Z5 c5 ?_;intro mb cj i7 dp;refine Zm<|xk e6<|Y7 ?_;replace ae:=(ae.gr hC).kp cj;replace af:=(af.gr hC).kp cj;replace ak:=(ak.gr hC).kp cj;replace al:=(al.gr hC).kp cj
     replace aj:=(aj.gr hC).kp cj;replace ch:=(ch.gr hC).kp cj;replace ci:=(ci.gr hC).kp cj;replace ag:=(ag.gr hC).kp cj;replace ai:=(ai.gr hC).kp cj;replace ab:=(ab.gr hC).kp cj;replace aa:=(aa.grow hC).kp cj i7;intro mc hC;replace hC:=hC.bl e6;refine go ?_;replace ae:=ae.gr hC;replace ae:=ae.recol 12 9 (by decide);replace af:=af.gr hC;replace af:=af.recol 12 9 (by decide);replace ak:=ak.gr hC;replace ak:=ak.recol 12 9 (by decide);replace al:=al.gr hC;replace al:=al.recol 12 9 (by decide);replace aj:=aj.gr hC;replace aj:=aj.recol 12 9 (by decide);replace ch:=ch.gr hC;replace ch:=ch.recolSelf 9 (by decide);replace ci:=ci.gr hC;replace ci:=ci.recol 12 9 (by decide);replace ag:=ag.gr hC;replace ag:=ag.recol 12 9 (by decide);replace ai:=ai.gr hC;replace ai:=ai.recol 12 9 (by decide);replace dp:=dp.gr hC;replace dp:=dp.recol 12 9 (by decide);replace ab:=ab.gr hC;replace ab:=ab.recol 12 9 (by decide);replace aa:=aa.grow hC;replace aa:=aa.recol 12 9 (by decide) (by decide);replace ae:=ae.recol 13 10 (by decide);replace af:=af.recol 13 10 (by decide);replace ak:=ak.recol 13 10 (by decide);replace al:=al.recol 13 10 (by decide);replace aj:=aj.recol 13 10 (by decide);replace ch:=ch.recol 13 10 (by decide);replace ci:=ci.recolSelf 10 (by decide);replace ag:=ag.recol 13 10 (by decide);replace ai:=ai.recol 13 10 (by decide);replace dp:=dp.recol 13 10 (by decide);replace ab:=ab.recol 13 10 (by decide);replace aa:=aa.recol 13 10 (by decide) (by decide);exact ⟨dy,by omega,rfl,⟨_,_,_,_,_,_,_,_,_,_,rfl,hm,aa,ae,af,ag,ak,al,aj,ai,ch,ci,dp,ab,rfl⟩⟩
    refine Zeb (Zcv ?_);refine Zw<|Zw ?_;refine Wp.cutK [] (fun f cv=>∃ cw f6,Zbv N ac bm am ax ao ah ad f6=some r∧St w0 (Zj col) cw cv∧Zc (Za.int .u32) 79 2 cw cv bf bg ah.1.1.2∧Zc (Za.int .u32) 79 3 cw cv bh bi ah.1.2∧Zk 47 4 cw cv cd #[.bool ah.1.1.1,.slice bf ah.1.1.2.length bg,.slice bh ah.1.2.length bi]∧Zc (Za.int .i64) 3 5 cw cv bj bk ad.1.1∧Zc (Za.int .i64) 3 6 cw cv br bs ad.1.2.1∧Zc (Za.pair (Za.pair Za.bool (Za.row 79 (Za.int .u32))) (Za.row 79 (Za.int .u32))) 47 7 cw cv a5 ay ad.1.2.2∧Zk 91 8 cw cv c3 #[.slice bj ad.1.1.length bk,.slice br ad.1.2.1.length bs,.slice a5 ad.1.2.2.length ay]∧Zk 27 1 cw cv ar #[.string ac.1,.slice a7 ac.2.1.length a8,.slice a9 ac.2.2.1.length ba,.slice bb ac.2.2.2.1.length bc,.slice bd ac.2.2.2.2.length be]∧[1,10,12,2,3,4,9,96,1000000].map f=[.slice a1 bm.length dm,.pointer (some ⟨cd,0,none⟩),.pointer (some ⟨c3,0,none⟩),.slice a2 am.length c2,.slice a3 ax.length dx,.pointer (some ⟨ar,0,none⟩),.bool ao,.bool f6,enc []]) ?_ ?_
    ·intro f cv hJ;obtain ⟨cw,f6,hm,aa,ae,af,ag,ak,al,aj,ai,ab,hs⟩:=hJ;rw [Zbv.eq_1] at hm;refine .lL [1,10,12,2,3,4,9,96,1000000] hs ?_;refine Zr hm (fun hb hm=>go ?_) fun hb hm=>?_
     ·cases hm;exact ⟨rfl,rfl,aa.below⟩
     refine X8<|Zw ?_;refine Wp.cutK [] (fun f dz=>∃ d0,Zc6 N ac bm am ao ah=some r∧St w0 (Zj col) d0 dz∧Zc (Za.int .u32) 79 2 d0 dz bf bg ah.1.1.2∧Zc (Za.int .u32) 79 3 d0 dz bh bi ah.1.2∧Zk 47 4 d0 dz cd #[.bool ah.1.1.1,.slice bf ah.1.1.2.length bg,.slice bh ah.1.2.length bi]∧Zk 27 1 d0 dz ar #[.string ac.1,.slice a7 ac.2.1.length a8,.slice a9 ac.2.2.1.length ba,.slice bb ac.2.2.2.1.length bc,.slice bd ac.2.2.2.2.length be]∧[1,10,2,4,9,1000000].map f=[.slice a1 bm.length dm,.pointer (some ⟨cd,0,none⟩),.slice a2 am.length c2,.pointer (some ⟨ar,0,none⟩),.bool ao,enc []]) ?_ ?_
     ·intro f dz hJ;obtain ⟨d0,hm,aa,ae,af,ag,ab,hs⟩:=hJ;rw [Zc6.eq_1] at hm;refine .lL [1,10,2,4,9,1000000] hs<|go ?_;refine lV _ (Xh isAgg27 sizeOf27 ab)<|go ?_;obtain ⟨ap,i8,hm⟩:=bZ hm;refine Zh (Zl9 14 15 i8 (cq.ks aa) (b5.ks aa) (cr.ks aa) (ct.ks aa) (h1.ks aa) (h2.ks aa)) ?_;rintro _ md ⟨i9,f7,f8,f9,ga,rfl,ek,dq,dr⟩;refine ⟨_,rfl,?_⟩;refine lM (.tuple #[(.agg #[.bool ap.1.1.1,.slice f7 ap.1.1.2.length f8,.slice f9 ap.1.2.length ga]),.int .i64 ap.2])<|lV (.agg #[.bool ap.1.1.1,.slice f7 ap.1.1.2.length f8,.slice f9 ap.1.2.length ga]) (Xe rfl rfl)<|lV (.int .i64 ap.2) (Xe rfl rfl)<|Xr (col:=i9) #[.bool false,.slice none (([]:List Int).length) 0,.slice none (([]:List Int).length) 0] 16 zeroValue47 ?_;intro me mf mg ds ja;refine Z5 ja ?_;intro mh dt jb el;refine go ?_;obtain ⟨jc,hm⟩:=Z3 hm;replace aa:=((aa.grow ek).grow ds).kp dt jb;refine Vq (c:=17) Zc.nil (h1.ks aa).srcC jc ?_;intro mi mj mk ml df jd;refine go ?_;obtain ⟨je,hm⟩:=Z3 hm;replace aa:=aa.kpp df;refine Vq jd (h2.ks aa).srcC je ?_;intro mm mn jf e7 dg jg;refine go ?_;replace ab:=((((ab.gr ek).gr ds).kp dt).kpp df).kpp dg;refine lV _ (Xh isAgg27 sizeOf27 ab)<|Y0 rfl ?_;obtain ⟨b6,jh,hm⟩:=bZ hm;replace aa:=aa.kpp dg;refine Zh (Zma 18 19 jh ((cq.ks aa).froz 17) ((b5.ks aa).froz 17) ((cr.ks aa).froz 17) ((ct.ks aa).froz 17) (jg.toSlF (Zg.pair (Zg.int .i64) (Zg.int .i64)))) ?_;rintro _ mo ⟨ji,gb,gc,gd,ge,rfl,b7,b8,b9⟩;refine ⟨_,rfl,?_⟩;replace b8:=b8.thaw (Z0 .u32) b7 ((Fz.refl (col:=e7)).froz 17) (by decide);replace b9:=b9.thaw (Z0 .u32) b7 ((Fz.refl (col:=e7)).froz 17) (by decide);replace b7:=b7.thawR (col:=e7);generalize Xc jf.heap.size e7 ji=jj at *
      refine lM (.tuple #[(.agg #[.bool b6.1.1.1,.slice gb b6.1.1.2.length gc,.slice gd b6.1.2.length ge]),.int .i64 b6.2])<|lV (.agg #[.bool b6.1.1.1,.slice gb b6.1.1.2.length gc,.slice gd b6.1.2.length ge]) (Xe rfl rfl)<|lV (.int .i64 b6.2) (Xe rfl rfl)<|Xr (col:=jj) #[.bool false,.slice none (([]:List Int).length) 0,.slice none (([]:List Int).length) 0] 20 zeroValue47 ?_;intro mp mq bu cx jk;refine Z5 jk ?_;intro jl cy jm e8;refine go ?_;replace ae:=(((((((ae.gr ek).gr ds).kp dt).kpp df).kpp dg).gr b7).gr cx).kp cy;replace af:=(((((((af.gr ek).gr ds).kp dt).kpp df).kpp dg).gr b7).gr cx).kp cy;replace ag:=(((((((ag.gr ek).gr ds).kp dt).kpp df).kpp dg).gr b7).gr cx).kp cy;replace dq:=((((((dq.gr ds).kp dt).kpp df).kpp dg).gr b7).gr cx).kp cy;replace dr:=((((((dr.gr ds).kp dt).kpp df).kpp dg).gr b7).gr cx).kp cy;replace el:=((((el.kpp df).kpp dg).gr b7).gr cx).kp cy;replace ab:=((ab.gr b7).gr cx).kp cy;replace aa:=((aa.grow b7).grow cx).kp cy jm;replace b8:=(b8.gr cx).kp cy;replace b9:=(b9.gr cx).kp cy;refine Zr hm (fun hb hm=>?_) fun hb hm=>go ?_
      ·refine Zw ?_;refine Wp.cutK [] (fun f h0=>∃ h4 gf,Zkd gf=some r∧St w0 (Zj col) h4 h0∧[8,1000000].map f=[.bool gf,enc []]) ?_ ?_
       ·intro f h0 hJ;obtain ⟨h4,gf,hm,aa,hs⟩:=hJ;rw [Zkd.eq_1] at hm;refine .lL [8,1000000] hs<|W7 ?_;cases hm;exact ⟨rfl,rfl,aa.below⟩
       refine go ?_;refine X1 hm (fun gg hm=>go ?_) fun gg hm=>go ?_
       ·refine lV (.bool (decide (ap.2=b6.2))) (Xs (congrArg Value.bool gg) rfl)<|go ?_;exact ⟨rfl,_,_,hm,aa,rfl⟩
       refine lV (.bool false) (Xl (congrArg Value.bool gg) rfl)<|go ?_;exact ⟨rfl,_,_,hm,aa,rfl⟩
      refine lV _ (Xh isAgg47 sizeOf47 ag) ?_;obtain ⟨mr,jn,hm⟩:=bZ hm;refine Zh (Zjj jn ((ae.toSlF (Zg.int .u32)).froz 3) ((af.froz 2 (by decide)).toSlF (Zg.int .u32))) ?_;rintro _ h5 ⟨rfl,b2⟩;refine ⟨_,rfl,?_⟩;replace b2:Zi bu jl bu h5:=.of_below b2;refine go ?_;replace ae:=ae.gr b2;replace af:=af.gr b2;replace dq:=dq.gr b2;replace dr:=dr.gr b2;replace b8:=b8.gr b2;replace b9:=b9.gr b2;replace ag:=ag.gr b2;replace ab:=ab.gr b2;replace el:=el.gr b2;replace e8:=e8.gr b2;replace aa:=aa.grow b2;refine Zr hm (fun hb hm=>?_) fun hb hm=>?_
      ·refine Zw ?_;refine Wp.cutK [] (fun f h6=>∃ h7 gh,Zg9 gh=some r∧St w0 (Zj col) h7 h6∧[8,1000000].map f=[.bool gh,enc []]) ?_ ?_
       ·intro f h6 hJ;obtain ⟨h7,gh,hm,aa,hs⟩:=hJ;rw [Zg9.eq_1] at hm;refine .lL [8,1000000] hs<|W7 ?_;cases hm;exact ⟨rfl,rfl,aa.below⟩
       refine go ?_;refine X1 hm (fun gi hm=>go ?_) fun gi hm=>go ?_
       ·refine lV (.bool (decide (ap.2=52))) (Xs (congrArg Value.bool gi) rfl)<|Y6 rfl ?_;refine X1 hm (fun gj hm=>go ?_) fun gj hm=>go ?_
        ·refine lV _ (Xh isAgg47 sizeOf47 e8)<|go ?_;obtain ⟨jo,jp,hm⟩:=bZ hm;refine Zh (Zjj jp ((b8.toSlF (Zg.int .u32)).froz 19) ((b9.froz 18 (by decide)).toSlF (Zg.int .u32))) ?_;rintro _ jq ⟨rfl,gk⟩;refine ⟨_,rfl,?_⟩;replace gk:Zi bu h5 bu jq:=.of_below gk;refine go ?_;refine lV (.bool (decide (jo=0))) (Xs (congrArg Value.bool gj) rfl)<|go ?_;replace aa:=aa.grow gk;exact ⟨rfl,_,_,hm,aa,rfl⟩
        refine lV (.bool false) (Xl (congrArg Value.bool gj) rfl)<|go ?_;exact ⟨rfl,_,_,hm,aa,rfl⟩
       refine lV (.bool false) (Xl (congrArg Value.bool gi) rfl)<|Y6 rfl<|lP 206 rfl rfl<|lP 206 rfl rfl<|lP 206 rfl rfl<|lV (.bool false) (Xl rfl rfl)<|go ?_;exact ⟨rfl,_,_,hm,aa,rfl⟩
      refine X8<|Zw<|Zw ?_;refine Wp.cutK [] (fun f gl=>∃ gm gp,Zha N ac am ao gp=some r∧St w0 (Zj col) gm gl∧Zk 27 1 gm gl ar #[.string ac.1,.slice a7 ac.2.1.length a8,.slice a9 ac.2.2.1.length ba,.slice bb ac.2.2.2.1.length bc,.slice bd ac.2.2.2.2.length be]∧[2,220,4,9,1000000].map f=[.slice a2 am.length c2,.bool gp,.pointer (some ⟨ar,0,none⟩),.bool ao,enc []]) ?_ ?_
      ·intro f gl hJ;obtain ⟨gm,gp,hm,aa,ab,hs⟩:=hJ;rw [Zha.eq_1] at hm;refine .lL [2,220,4,9,1000000] hs ?_;refine Zr hm (fun hb hm=>go ?_) fun hb hm=>go ?_
       ·cases hm;exact ⟨rfl,rfl,aa.below⟩
       refine Z8 [] (fun n f gs=>∃ e9 bv ck,ck=n∧Tk N ac am ao ck bv=some r∧St w0 (Zj col) e9 gs∧Zk 27 1 e9 gs ar #[.string ac.1,.slice a7 ac.2.1.length a8,.slice a9 ac.2.2.1.length ba,.slice bb ac.2.2.2.1.length bc,.slice bd ac.2.2.2.2.length be]∧[2,27,4,9,1000000].map f=[.slice a2 am.length c2,.int .i64 bv,.pointer (some ⟨ar,0,none⟩),.bool ao,enc []]) N ⟨_,0,_,rfl,hm,aa,ab,rfl⟩ ?_;clear hm;intro n f gs hI;obtain ⟨e9,bv,ck,hn,hm,aa,ab,hs⟩:=hI;subst hn;refine .lL [2,27,4,9,1000000] hs ?_
       cases ck with
       | zero=>rw [Tk.eq_1] at hm;cases hm
       | succ ck=>
        rw [Tk.eq_2] at hm;refine go ?_;refine Xu ab ?_;refine go ?_;refine Zr hm (fun hb hm=>?_) fun hb hm=>go ?_
        ·refine X8<|Zw ?_;refine Wp.cutK [2,27,4,9,1000000] (fun f gt=>∃ gu,Zhb bv (Tk N ac am ao ck)=some r∧St w0 (Zj col) gu gt∧Zk 27 1 gu gt ar #[.string ac.1,.slice a7 ac.2.1.length a8,.slice a9 ac.2.2.1.length ba,.slice bb ac.2.2.2.1.length bc,.slice bd ac.2.2.2.2.length be]) ?_ ?_
         ·intro f gt hJ;obtain ⟨gu,hm,aa,ab⟩:=hJ;rw [Zhb.eq_1] at hm;refine go ?_;exact ⟨ck,by omega,rfl,⟨_,_,_,rfl,hm,aa,ab,rfl⟩⟩
         refine go ?_;obtain ⟨ms,jr,hm⟩:=bZ hm;refine Zh (Zel (col:=e9) 25 26 jr Sl.nil) ?_;rintro _ mt ⟨js,mu,mv,mw,mx,rfl,h8,gv,gw⟩;refine ⟨_,rfl,?_⟩;refine Xr (col:=js) #[.bool false,.slice none (([]:List Int).length) 0,.slice none (([]:List Int).length) 0] 27 zeroValue47 ?_;intro gx my mz fa jt;refine Z5 jt ?_;intro m0 fb ju bw;refine go ?_;replace ab:=((ab.gr h8).gr fa).kp fb;replace aa:=((aa.grow h8).grow fa).kp fb ju;replace gv:=(gv.gr fa).kp fb;replace gw:=(gw.gr fa).kp fb;refine Z8 [2,27,28,4,9,1000000] (fun n f d1=>∃ ca d2 d3 d4 dh d5 d6 di c6 cl dj,dj=n∧Qy N ac am bv (Tk N ac am ao ck) dj d2 dh di c6 cl=some r∧St w0 (Zj col) ca d1∧Zc (Za.int .u32) 79 25 ca d1 d3 d4 dh∧Zc (Za.int .u32) 79 26 ca d1 d5 d6 di∧Zk 47 27 ca d1 gx #[.bool d2,.slice d3 dh.length d4,.slice d5 di.length d6]∧Zk 27 1 ca d1 ar #[.string ac.1,.slice a7 ac.2.1.length a8,.slice a9 ac.2.2.1.length ba,.slice bb ac.2.2.2.1.length bc,.slice bd ac.2.2.2.2.length be]∧[29,30].map f=[.bool c6,.int .i64 cl]) N ⟨_,_,_,_,_,_,_,_,_,0,_,rfl,hm,aa,gv,gw,bw,ab,rfl⟩ ?_;clear hm;intro n f d1 hI;obtain ⟨ca,d2,d3,d4,dh,d5,d6,di,c6,cl,dj,hn,hm,aa,cn,co,bw,ab,hs⟩:=hI;subst hn;refine .lL [29,30] hs ?_
         cases dj with
         | zero=>rw [Qy.eq_1] at hm;cases hm
         | succ dj=>
          rw [Qy.eq_2] at hm;refine go ?_;refine Xu ab<|Yd rfl ?_;obtain ⟨m1,gy,hm⟩:=bZ hm;refine lI gy ((b5.ks aa).addr gy) ?_;obtain ⟨_,jv,jw⟩:=(b5.ks aa).atN gy;obtain ⟨⟨m2,m3,rfl,m4⟩,_⟩:=jv;refine lW jw.one<|go ?_;refine Zr hm (fun hb hm=>?_) fun hb hm=>?_
          ·refine X8<|Zw ?_;refine Wp.cutK [2,27,28,30,4,9,1000000] (fun f d7=>∃ d8 gz g0 g1 fc g2 g3 fd g4,Zfc cl (Qy N ac am bv (Tk N ac am ao ck) dj) gz fc fd g4=some r∧St w0 (Zj col) d8 d7∧Zc (Za.int .u32) 79 25 d8 d7 g0 g1 fc∧Zc (Za.int .u32) 79 26 d8 d7 g2 g3 fd∧Zk 47 27 d8 d7 gx #[.bool gz,.slice g0 fc.length g1,.slice g2 fd.length g3]∧Zk 27 1 d8 d7 ar #[.string ac.1,.slice a7 ac.2.1.length a8,.slice a9 ac.2.2.1.length ba,.slice bb ac.2.2.2.1.length bc,.slice bd ac.2.2.2.2.length be]∧[29].map f=[.bool g4]) ?_ ?_
           ·intro f d7 hJ;obtain ⟨d8,gz,g0,g1,fc,g2,g3,fd,g4,hm,aa,jx,jy,bw,ab,hs⟩:=hJ;rw [Zfc.eq_1] at hm;refine .lL [29] hs<|go ?_;exact ⟨dj,by omega,rfl,⟨_,_,_,_,_,_,_,_,_,_,_,rfl,hm,aa,jx,jy,bw,ab,rfl⟩⟩
           refine go ?_;refine lV _ (Xh isAgg27 sizeOf27 ab)<|go ?_;refine lV (.agg #[.int .i64 bv,.int .i64 cl]) (Wg (l:=[_,_]) (qs:=[(0,1),(1,1)]) underlying97 zeroValue97 ⟨rfl,sizeOf3,rfl,sizeOf3,trivial⟩ rfl)<|Uh (col:=ca) (r:=(Za.pair (Za.int .i64) (Za.int .i64))) (xs:=[(bv,cl)]) [(.agg #[.int .i64 bv,.int .i64 cl])] 34 (Yt.ofF (Rows.consF (r:=(Za.pair (Za.int .i64) (Za.int .i64))) (x:=(bv,cl)) (cs:=[.int .i64 bv,.int .i64 cl]) (Zd7 (V3 .i64 bv) (V3 .i64 cl)) Rows.nil0)) ?_;intro m5 jz fe em j0;refine Y0 rfl ?_;obtain ⟨bq,j1,hm⟩:=bZ hm;replace aa:=aa.grow em;refine Zh (Zl9 35 36 j1 ((cq.ks aa).froz 34) ((b5.ks aa).froz 34) ((cr.ks aa).froz 34) ((ct.ks aa).froz 34) (j0.toSlF (Zg.pair (Zg.int .i64) (Zg.int .i64))) ((h2.ks aa).froz 34)) ?_;rintro _ m6 ⟨j2,ff,fg,fh,fi,rfl,c7,dk,dl⟩;refine ⟨_,rfl,?_⟩;replace dk:=dk.thaw (Z0 .u32) c7 ((Fz.refl (col:=fe)).froz 34) (by decide);replace dl:=dl.thaw (Z0 .u32) c7 ((Fz.refl (col:=fe)).froz 34) (by decide);replace c7:=c7.thawR (col:=fe);generalize Xc jz.heap.size fe j2=j3 at *;refine lM (.tuple #[(.agg #[.bool bq.1.1.1,.slice ff bq.1.1.2.length fg,.slice fh bq.1.2.length fi]),.int .i64 bq.2])<|lV (.agg #[.bool bq.1.1.1,.slice ff bq.1.1.2.length fg,.slice fh bq.1.2.length fi]) (Xe rfl rfl)<|lV (.int .i64 bq.2) (Xe rfl rfl)<|Xr (col:=j3) #[.bool false,.slice none (([]:List Int).length) 0,.slice none (([]:List Int).length) 0] 37 zeroValue47 ?_;intro j4 m7 m8 du j5;refine Z5 j5 ?_;intro m9 dv j6 fj;refine Yr rfl<|Zm<|Zw ?_;replace cn:=(((cn.gr em).gr c7).gr du).kp dv;replace co:=(((co.gr em).gr c7).gr du).kp dv;replace bw:=(((bw.gr em).gr c7).gr du).kp dv;replace ab:=(((ab.gr em).gr c7).gr du).kp dv;replace aa:=((aa.grow c7).grow du).kp dv j6;replace dk:=(dk.gr du).kp dv;replace dl:=(dl.gr du).kp dv
           refine Wp.cutK [2,27,28,30,31,4,9,1000000] (fun f cz=>∃ b3 g5,Zc4 N d2 dh di cl (Qy N ac am bv (Tk N ac am ao ck) dj) bq g5=some r∧St w0 (Zj col) b3 cz∧Zc (Za.int .u32) 79 25 b3 cz d3 d4 dh∧Zc (Za.int .u32) 79 26 b3 cz d5 d6 di∧Zk 47 27 b3 cz gx #[.bool d2,.slice d3 dh.length d4,.slice d5 di.length d6]∧Zc (Za.int .u32) 79 35 b3 cz ff fg bq.1.1.2∧Zc (Za.int .u32) 79 36 b3 cz fh fi bq.1.2∧Zk 47 37 b3 cz j4 #[.bool bq.1.1.1,.slice ff bq.1.1.2.length fg,.slice fh bq.1.2.length fi]∧Zk 27 1 b3 cz ar #[.string ac.1,.slice a7 ac.2.1.length a8,.slice a9 ac.2.2.1.length ba,.slice bb ac.2.2.2.1.length bc,.slice bd ac.2.2.2.2.length be]∧[29].map f=[.bool g5]) ?_ ?_
           ·intro f cz hJ;obtain ⟨b3,g5,hm,aa,cn,co,bw,dk,dl,fj,ab,hs⟩:=hJ;rw [Zc4.eq_1] at hm;refine .lL [29] hs<|Wr<|lV _ (Xh isAgg47 sizeOf47 bw)<|lV _ (Xh isAgg47 sizeOf47 fj) ?_;obtain ⟨na,j7,hm⟩:=bZ hm;refine Zh (Zej 38 39 j7 ((((cn.toSlF (Zg.int .u32)).froz 26).froz 35).froz 36) ((((co.froz 25 (by decide)).toSlF (Zg.int .u32)).froz 35).froz 36) ((((dk.froz 25 (by decide)).froz 26 (by decide)).toSlF (Zg.int .u32)).froz 36) ((((dl.froz 25 (by decide)).froz 26 (by decide)).froz 35 (by decide)).toSlF (Zg.int .u32))) ?_;rintro _ nc ⟨j8,nd,ne,nf,ng,rfl,dw,c8,c9⟩;refine ⟨_,rfl,?_⟩;replace c8:=c8.thaw (Z0 .u32) dw (((((Fz.refl (col:=b3)).froz 25).froz 26).froz 35).froz 36) (by decide);replace c9:=c9.thaw (Z0 .u32) dw (((((Fz.refl (col:=b3)).froz 25).froz 26).froz 35).froz 36) (by decide);replace dw:=dw.thawR (col:=b3);generalize Xc cz.heap.size b3 j8=nh at *;replace bw:=bw.gr dw;refine Z5 bw ?_;intro ni fk j9 en;refine Zm ?_;replace c8:=c8.kp fk;replace c8:=c8.recolSelf 25 (by decide);replace c9:=c9.kp fk;replace c9:=c9.recol 38 25 (by decide);replace en:=en.recol 38 25 (by decide);replace ab:=(ab.gr dw).kp fk;replace ab:=ab.recol 38 25 (by decide);replace aa:=(aa.grow dw).kp fk j9;replace aa:=aa.recol 38 25 (by decide) (by decide);replace c8:=c8.recol 39 26 (by decide);replace c9:=c9.recolSelf 26 (by decide);replace en:=en.recol 39 26 (by decide);replace ab:=ab.recol 39 26 (by decide);replace aa:=aa.recol 39 26 (by decide) (by decide);exact ⟨rfl,_,_,_,_,_,_,_,_,_,hm,aa,c8,c9,en,ab,rfl⟩
           refine go ?_;refine X1 hm (fun g6 hm=>go ?_) fun g6 hm=>go ?_
           ·refine lV (.bool (decide (bq.2=0))) (Xs (congrArg Value.bool g6) rfl)<|go ?_;exact ⟨rfl,_,_,hm,aa,cn,co,bw,dk,dl,fj,ab,rfl⟩
           refine lV (.bool false) (Xl (congrArg Value.bool g6) rfl)<|go ?_;exact ⟨rfl,_,_,hm,aa,cn,co,bw,dk,dl,fj,ab,rfl⟩
          refine Zeb (Zcv ?_);refine Zw ?_;refine Wp.cutK [2,27,4,9,1000000] (fun f g7=>∃ g8 g9,Ze9 bv (Tk N ac am ao ck) g9=some r∧St w0 (Zj col) g8 g7∧Zk 27 1 g8 g7 ar #[.string ac.1,.slice a7 ac.2.1.length a8,.slice a9 ac.2.2.1.length ba,.slice bb ac.2.2.2.1.length bc,.slice bd ac.2.2.2.2.length be]∧[263].map f=[.bool g9]) ?_ ?_
          ·intro f g7 hJ;obtain ⟨g8,g9,hm,aa,ab,hs⟩:=hJ;rw [Ze9.eq_1] at hm;refine .lL [263] hs ?_;refine Zr hm (fun hb hm=>go ?_) fun hb hm=>?_
           ·cases hm;exact ⟨rfl,rfl,aa.below⟩
           refine X8 ?_;exact ⟨rfl,_,hm,aa,ab⟩
          refine Wk (col:=ca) [(0,1),(1,1),(2,0),(3,3),(4,3),(5,1),(6,1)] (by kernel_rfl) (by kernel_rfl)<|xu rfl rfl (fun _=>Zlo rfl) ?_;refine xu rfl rfl (fun _=>Zlo rfl) ?_;refine X1 hm (fun da hm=>?_) fun da hm=>?_
          ·refine Zi2 (v:=(.agg #[.bool d2,.slice d3 dh.length d4,.slice d5 di.length d6])) (b:=c6) 258 rfl rfl rfl rfl rfl (by rw [da];rfl) (fun _ hC=>Wj isAgg47 sizeOf47 rfl rfl (bw.atN.gr (hC.bl ca))) ?_;refine xe rfl rfl ?_;intro nj hC0;have hC:=hC0.bl ca;refine go ?_;obtain ⟨nk,ka,hm⟩:=bZ hm;refine Zh (Zw5 (col:=ca) 44 45 ka) ?_;rintro _ nl ⟨d9,nm,nn,no,np,rfl,eo,ha,hc⟩;refine ⟨_,rfl,?_⟩;refine Zm<|X0 d9 hC0 eo<|xe rfl rfl ?_;intro kb hC0;replace cn:=(cn.gr hC).gr eo;replace co:=(co.gr hC).gr eo;replace ab:=(ab.gr hC).gr eo;replace aa:=(aa.grow hC).grow eo;have hC:=hC0.bl d9;refine go ?_;obtain ⟨hd,kc,hm⟩:=bZ hm;replace cn:=cn.gr hC;replace co:=co.gr hC;replace ha:=ha.gr hC;replace hc:=hc.gr hC;refine Zh (Zek kc ((((cn.toSlF (Zg.int .u32)).froz 26).froz 44).froz 45) ((((co.froz 25 (by decide)).toSlF (Zg.int .u32)).froz 44).froz 45) ((((ha.froz 25 (by decide)).froz 26 (by decide)).toSlF (Zg.int .u32)).froz 45) ((((hc.froz 25 (by decide)).froz 26 (by decide)).froz 44 (by decide)).toSlF (Zg.int .u32))) ?_;rintro _ kd ⟨rfl,ep⟩;refine ⟨_,rfl,?_⟩;replace ep:Zi d9 kb d9 kd:=.of_below ep;refine Zm<|X0 d9 hC0 ep<|Zo4 (v:=(.bool (!decide (hd=0)))) (b:=c6) 258 rfl rfl rfl rfl rfl (by rw [da];rfl) (fun _=>Zd5 hd 0 rfl rfl) ?_;refine xu (v:=(.bool (!decide (hd=0)))) rfl rfl (fun _=>Xs (congrArg Value.bool da) rfl) ?_;refine Y7 ?_;replace ab:=(ab.gr hC).gr ep;replace aa:=(aa.grow hC).grow ep;intro nq hC;replace hC:=hC.bl d9;replace ab:=ab.gr hC;replace aa:=aa.grow hC;exact ⟨rfl,_,_,hm,aa,ab,rfl⟩
          refine U7 (b:=c6) 258 rfl rfl rfl rfl rfl (by rw [da];rfl)<|U7 (b:=c6) 258 rfl rfl rfl rfl rfl (by rw [da];rfl)<|U7 (b:=c6) 258 rfl rfl rfl rfl rfl (by rw [da];rfl)<|U7 (b:=c6) 258 rfl rfl rfl rfl rfl (by rw [da];rfl)<|xu (v:=(.bool false)) rfl rfl (fun _=>Xl (congrArg Value.bool da) rfl) ?_;refine Y7 ?_;intro nr hC;replace hC:=hC.bl ca;replace ab:=ab.gr hC;replace aa:=aa.grow hC;exact ⟨rfl,_,_,hm,aa,ab,rfl⟩
        cases hm;exact ⟨rfl,rfl,aa.below⟩
      refine Wk (col:=bu) [(0,1),(1,1),(2,1),(3,0),(4,0),(6,0),(5,3),(7,3),(8,1),(9,1)] (by kernel_rfl) (by kernel_rfl)<|xu rfl rfl (fun _=>Yw rfl) ?_;refine xu rfl rfl (fun _=>Zd5 _ _ rfl rfl) ?_;refine xu rfl rfl (fun _=>Zlo rfl) ?_;refine X1 hm (fun b4 hm=>?_) fun b4 hm=>?_
      ·refine U7 (b:=!decide (ap.2=0)) 213 rfl rfl rfl rfl rfl (by rw [b4];rfl)<|U7 (b:=!decide (ap.2=0)) 213 rfl rfl rfl rfl rfl (by rw [b4];rfl)<|U7 (b:=!decide (ap.2=0)) 213 rfl rfl rfl rfl rfl (by rw [b4];rfl)<|U7 (b:=!decide (ap.2=0)) 213 rfl rfl rfl rfl rfl (by rw [b4];rfl)<|U7 (b:=!decide (ap.2=0)) 213 rfl rfl rfl rfl rfl (by rw [b4];rfl)<|U7 (b:=!decide (ap.2=0)) 213 rfl rfl rfl rfl rfl (by rw [b4];rfl)<|xu (v:=(.bool true)) rfl rfl (fun _=>Xs (congrArg Value.bool b4) rfl) ?_;refine Y7 ?_;intro ns hC;replace hC:=hC.bl bu;replace ab:=ab.gr hC;replace aa:=aa.grow hC;exact ⟨rfl,_,_,hm,aa,ab,rfl⟩
      refine Zi2 (v:=(.agg #[.bool ap.1.1.1,.slice f7 ap.1.1.2.length f8,.slice f9 ap.1.2.length ga])) (b:=!decide (ap.2=0)) 213 rfl rfl rfl rfl rfl (by rw [b4];rfl) (fun _ hC=>Wj isAgg47 sizeOf47 rfl rfl (el.atN.gr (hC.bl bu))) ?_;refine Zi2 (v:=(.agg #[.bool ah.1.1.1,.slice bf ah.1.1.2.length bg,.slice bh ah.1.2.length bi])) (b:=!decide (ap.2=0)) 213 rfl rfl rfl rfl rfl (by rw [b4];rfl) (fun _ hC=>Wj isAgg47 sizeOf47 rfl rfl (ag.atN.gr (hC.bl bu))) ?_;refine Zi2 (v:=(.agg #[.bool b6.1.1.1,.slice gb b6.1.1.2.length gc,.slice gd b6.1.2.length ge])) (b:=!decide (ap.2=0)) 213 rfl rfl rfl rfl rfl (by rw [b4];rfl) (fun _ hC=>Wj isAgg47 sizeOf47 rfl rfl (e8.atN.gr (hC.bl bu))) ?_;refine xe rfl rfl ?_;intro ke hC0;have hC:=hC0.bl bu;refine go ?_;obtain ⟨nt,kg,hm⟩:=bZ hm;replace dq:=dq.gr hC;replace dr:=dr.gr hC;replace ae:=ae.gr hC;replace af:=af.gr hC;refine Zh (Zpi 46 47 kg ((((dq.toSlF (Zg.int .u32)).froz 15).froz 2).froz 3) ((((dr.froz 14 (by decide)).toSlF (Zg.int .u32)).froz 2).froz 3) ((((ae.froz 14 (by decide)).froz 15 (by decide)).toSlF (Zg.int .u32)).froz 3) ((((af.froz 14 (by decide)).froz 15 (by decide)).froz 2 (by decide)).toSlF (Zg.int .u32))) ?_;rintro _ nu ⟨kh,nv,nw,nx,ny,rfl,db,eq,er⟩;refine ⟨_,rfl,?_⟩;replace eq:=eq.thaw (Z0 .u32) db (((((Fz.refl (col:=bu)).froz 14).froz 15).froz 2).froz 3) (by decide);replace er:=er.thaw (Z0 .u32) db (((((Fz.refl (col:=bu)).froz 14).froz 15).froz 2).froz 3) (by decide);replace db:=db.thawR (col:=bu);generalize Xc ke.heap.size bu kh=ea at *;refine Zm<|X0 ea hC0 db<|xe rfl rfl ?_;intro ki hC0;replace b8:=(b8.gr hC).gr db;replace b9:=(b9.gr hC).gr db;replace ab:=(ab.gr hC).gr db;replace aa:=(aa.grow hC).grow db;have hC:=hC0.bl ea;refine go ?_;obtain ⟨he,kj,hm⟩:=bZ hm;replace b8:=b8.gr hC;replace b9:=b9.gr hC;replace eq:=eq.gr hC;replace er:=er.gr hC
      refine Zh (Zek kj ((((eq.toSlF (Zg.int .u32)).froz 47).froz 18).froz 19) ((((er.froz 46 (by decide)).toSlF (Zg.int .u32)).froz 18).froz 19) ((((b8.froz 46 (by decide)).froz 47 (by decide)).toSlF (Zg.int .u32)).froz 19) ((((b9.froz 46 (by decide)).froz 47 (by decide)).froz 18 (by decide)).toSlF (Zg.int .u32))) ?_;rintro _ kk ⟨rfl,es⟩;refine ⟨_,rfl,?_⟩;replace es:Zi ea ki ea kk:=.of_below es;refine Zm<|X0 ea hC0 es<|Zo4 (v:=(.bool (!decide (he=0)))) (b:=!decide (ap.2=0)) 213 rfl rfl rfl rfl rfl (by rw [b4];rfl) (fun _=>Zd5 he 0 rfl rfl) ?_;refine xu (v:=(.bool (!decide (he=0)))) rfl rfl (fun _=>Xl (congrArg Value.bool b4) rfl) ?_;refine Y7 ?_;replace ab:=(ab.gr hC).gr es;replace aa:=(aa.grow hC).grow es;intro nz hC;replace hC:=hC.bl ea;replace ab:=ab.gr hC;replace aa:=aa.grow hC;exact ⟨rfl,_,_,hm,aa,ab,rfl⟩
     refine Zw ?_;refine Wp.cutK [1,10,12,2,3,4,9,1000000] (fun f c0=>∃ c1 hf,Zfa N ac bm am ax ao ah ad hf=some r∧St w0 (Zj col) c1 c0∧Zc (Za.int .u32) 79 2 c1 c0 bf bg ah.1.1.2∧Zc (Za.int .u32) 79 3 c1 c0 bh bi ah.1.2∧Zk 47 4 c1 c0 cd #[.bool ah.1.1.1,.slice bf ah.1.1.2.length bg,.slice bh ah.1.2.length bi]∧Zc (Za.int .i64) 3 5 c1 c0 bj bk ad.1.1∧Zc (Za.int .i64) 3 6 c1 c0 br bs ad.1.2.1∧Zc (Za.pair (Za.pair Za.bool (Za.row 79 (Za.int .u32))) (Za.row 79 (Za.int .u32))) 47 7 c1 c0 a5 ay ad.1.2.2∧Zk 91 8 c1 c0 c3 #[.slice bj ad.1.1.length bk,.slice br ad.1.2.1.length bs,.slice a5 ad.1.2.2.length ay]∧Zk 27 1 c1 c0 ar #[.string ac.1,.slice a7 ac.2.1.length a8,.slice a9 ac.2.2.1.length ba,.slice bb ac.2.2.2.1.length bc,.slice bd ac.2.2.2.2.length be]∧[107].map f=[.bool hf]) ?_ ?_
     ·intro f c0 hJ;obtain ⟨c1,hf,hm,aa,ae,af,ag,ak,al,aj,ai,ab,hs⟩:=hJ;rw [Zfa.eq_1] at hm;refine .lL [107] hs ?_;refine Zr hm (fun hb hm=>go ?_) fun hb hm=>?_
      ·refine Xu ai<|Yd rfl ?_;obtain ⟨hg,hm⟩:=Z3 hm;refine lv (v:=.slice bj (Int.toNat (i64.wrap ((ax.length:Int) - 1))) bk) rfl rfl (Zgk underlying40 sizeOf3 rfl rfl hg.1 (by have:=ak.lecap;have:=hg.2;omega))<|.ld (d:=115) (v:=(.slice bj ((ad.1.1.take (Int.toNat (i64.wrap ((ax.length:Int) - 1)))).length) bk)) (congrArg (fun n=>Value.slice bj n bk) (List.length_take_of_le (show (Int.toNat (i64.wrap ((ax.length:Int) - 1)))≤ad.1.1.length by have:=hg.2;omega)).symm) ?_;obtain ⟨kl,hm⟩:=Z3 hm;refine Vq (c:=48) Zc.nil ((ak.take (Int.toNat (i64.wrap ((ax.length:Int) - 1)))).srcN (NB.int (k:=.i64))) kl ?_;intro n0 n1 km et dc kn;refine go ?_;replace ab:=ab.kpp dc;refine lV _ (Xh isAgg27 sizeOf27 ab)<|go ?_;obtain ⟨aq,ko,hm⟩:=bZ hm;replace aa:=aa.kpp dc;refine Zh (Zmb 49 50 51 ko ((cq.ks aa).froz 48) ((b5.ks aa).froz 48) ((cr.ks aa).froz 48) ((ct.ks aa).froz 48) (kn.toSlF (Zg.int .i64)) ((h2.ks aa).froz 48)) ?_;rintro _ n2 ⟨kq,eb,ec,ed,ee,ef,eg,rfl,bx,az,a0,au⟩;refine ⟨_,rfl,?_⟩;replace az:=az.thaw (Z0 .i64) bx ((Fz.refl (col:=et)).froz 48) (by decide);replace a0:=a0.thaw (Z0 .i64) bx ((Fz.refl (col:=et)).froz 48) (by decide);replace au:=au.thaw (Zjv (Zjv Zq4 (Zjw (Z0 .u32))) (Zjw (Z0 .u32))) bx ((Fz.refl (col:=et)).froz 48) (by decide);replace bx:=bx.thawR (col:=et);generalize Xc km.heap.size et kq=kr at *;refine lM (.tuple #[(.agg #[.slice eb aq.1.1.length ec,.slice ed aq.1.2.1.length ee,.slice ef aq.1.2.2.length eg]),.int .i64 aq.2])<|lV (.agg #[.slice eb aq.1.1.length ec,.slice ed aq.1.2.1.length ee,.slice ef aq.1.2.2.length eg]) (Xe rfl rfl)<|lV (.int .i64 aq.2) (Xe rfl rfl)<|Xr (col:=kr) #[.slice none (([]:List Int).length) 0,.slice none (([]:List Int).length) 0,(.slice none (([]:List R1).length) 0)] 52 zeroValue91 ?_;intro h9 n3 n4 cb kt;refine Z5 kt ?_;intro n5 cc ku a6;refine go ?_;refine Y5 ⟨_,_,rfl⟩ ?_;replace ai:=(((ai.kpp dc).gr bx).gr cb).kp cc;refine lW ((ai.atN).nth (q:=1) rfl)<|Yd rfl ?_;obtain ⟨av,hh,hm⟩:=bZ hm
       replace al:=(((al.kpp dc).gr bx).gr cb).kp cc;refine lI hh (al.addr hh)<|lW (al.atInt hh)<|Yr rfl<|Zm<|Zw<|Zw ?_;replace ae:=(((ae.kpp dc).gr bx).gr cb).kp cc;replace af:=(((af.kpp dc).gr bx).gr cb).kp cc;replace ak:=(((ak.kpp dc).gr bx).gr cb).kp cc;replace aj:=(((aj.kpp dc).gr bx).gr cb).kp cc;replace ag:=(((ag.kpp dc).gr bx).gr cb).kp cc;replace ab:=((ab.gr bx).gr cb).kp cc;replace aa:=((aa.grow bx).grow cb).kp cc ku;replace az:=(az.gr cb).kp cc;replace a0:=(a0.gr cb).kp cc;replace au:=(au.gr cb).kp cc;refine Wp.cutK [1,10,12,18,2,20,4,9,1000000] (fun f bz=>∃ b0 hi,Zfb N ac bm am ao ah ad aq av hi=some r∧St w0 (Zj col) b0 bz∧Zc (Za.int .u32) 79 2 b0 bz bf bg ah.1.1.2∧Zc (Za.int .u32) 79 3 b0 bz bh bi ah.1.2∧Zk 47 4 b0 bz cd #[.bool ah.1.1.1,.slice bf ah.1.1.2.length bg,.slice bh ah.1.2.length bi]∧Zc (Za.int .i64) 3 5 b0 bz bj bk ad.1.1∧Zc (Za.int .i64) 3 6 b0 bz br bs ad.1.2.1∧Zc (Za.pair (Za.pair Za.bool (Za.row 79 (Za.int .u32))) (Za.row 79 (Za.int .u32))) 47 7 b0 bz a5 ay ad.1.2.2∧Zk 91 8 b0 bz c3 #[.slice bj ad.1.1.length bk,.slice br ad.1.2.1.length bs,.slice a5 ad.1.2.2.length ay]∧Zc (Za.int .i64) 3 49 b0 bz eb ec aq.1.1∧Zc (Za.int .i64) 3 50 b0 bz ed ee aq.1.2.1∧Zc (Za.pair (Za.pair Za.bool (Za.row 79 (Za.int .u32))) (Za.row 79 (Za.int .u32))) 47 51 b0 bz ef eg aq.1.2.2∧Zk 91 52 b0 bz h9 #[.slice eb aq.1.1.length ec,.slice ed aq.1.2.1.length ee,.slice ef aq.1.2.2.length eg]∧Zk 27 1 b0 bz ar #[.string ac.1,.slice a7 ac.2.1.length a8,.slice a9 ac.2.2.1.length ba,.slice bb ac.2.2.2.1.length bc,.slice bd ac.2.2.2.2.length be]∧[145].map f=[.bool hi]) ?_ ?_
       ·intro f bz hJ;obtain ⟨b0,hi,hm,aa,ae,af,ag,ak,al,aj,ai,az,a0,au,a6,ab,hs⟩:=hJ;rw [Zfb.eq_1] at hm;refine .lL [145] hs ?_;refine Zr hm (fun hb hm=>go ?_) fun hb hm=>go ?_
        ·cases hm;exact ⟨rfl,rfl,aa.below⟩
        replace ae:=ae.froz 7 (by decide);replace af:=af.froz 7 (by decide);replace ak:=ak.froz 7 (by decide);replace al:=al.froz 7 (by decide);replace aj:=(aj).toSlF (Zg.pair (Zg.pair Zg.bool (Zg.row (Zg.int .u32))) (Zg.row (Zg.int .u32)));replace az:=az.froz 7 (by decide);replace a0:=a0.froz 7 (by decide);replace au:=au.froz 7 (by decide);replace ag:=ag.froz 7 (by decide);replace ai:=ai.froz 7 (by decide);replace a6:=a6.froz 7 (by decide);replace ab:=ab.froz 7 (by decide);replace aa:=aa.froz 7 (by decide) (by decide);refine Z8 [1,10,12,18,2,20,4,9,1000000] (fun n f b1=>∃ a4 aw eh,eh=n∧Zc8 N ac bm am ao ah ad aq av eh aw=some r∧St w0 (Zj col) a4 b1∧Zc (Za.int .u32) 79 2 a4 b1 bf bg ah.1.1.2∧Zc (Za.int .u32) 79 3 a4 b1 bh bi ah.1.2∧Zk 47 4 a4 b1 cd #[.bool ah.1.1.1,.slice bf ah.1.1.2.length bg,.slice bh ah.1.2.length bi]∧Zc (Za.int .i64) 3 5 a4 b1 bj bk ad.1.1∧Zc (Za.int .i64) 3 6 a4 b1 br bs ad.1.2.1∧Sl (Za.pair (Za.pair Za.bool (Za.slice (Za.int .u32))) (Za.slice (Za.int .u32))) a4 b1 a5 ay ad.1.2.2∧Zk 91 8 a4 b1 c3 #[.slice bj ad.1.1.length bk,.slice br ad.1.2.1.length bs,.slice a5 ad.1.2.2.length ay]∧Zc (Za.int .i64) 3 49 a4 b1 eb ec aq.1.1∧Zc (Za.int .i64) 3 50 a4 b1 ed ee aq.1.2.1∧Zc (Za.pair (Za.pair Za.bool (Za.row 79 (Za.int .u32))) (Za.row 79 (Za.int .u32))) 47 51 a4 b1 ef eg aq.1.2.2∧Zk 91 52 a4 b1 h9 #[.slice eb aq.1.1.length ec,.slice ed aq.1.2.1.length ee,.slice ef aq.1.2.2.length eg]∧Zk 27 1 a4 b1 ar #[.string ac.1,.slice a7 ac.2.1.length a8,.slice a9 ac.2.2.1.length ba,.slice bb ac.2.2.2.1.length bc,.slice bd ac.2.2.2.2.length be]∧[21].map f=[.int .i64 aw]) N ⟨_,0,_,rfl,hm,aa,ae,af,ag,ak,al,aj,ai,az,a0,au,a6,ab,rfl⟩ ?_;clear hm;intro n f b1 hI;obtain ⟨a4,aw,eh,hn,hm,aa,ae,af,ag,ak,al,aj,ai,az,a0,au,a6,ab,hs⟩:=hI;subst hn;refine .lL [21] hs ?_
        cases eh with
        | zero=>rw [Zc8.eq_1] at hm;cases hm
        | succ eh=>
         rw [Zc8.eq_2] at hm;refine go ?_;refine Xu a6 ?_;refine go ?_;refine Zr hm (fun hb hm=>go ?_) fun hb hm=>go ?_
         ·refine Wk (col:=a4) [(0,1),(1,0),(2,1),(3,1),(4,0),(5,1),(6,0),(7,1),(8,1),(9,1),(10,1),(11,1),(12,1),(13,1),(14,1),(15,3),(16,3),(17,1)] (by kernel_rfl) (by kernel_rfl)<|xF ⟨_,_,rfl⟩ ?_;refine xW (fun _ hC=>((a6.atN).nth (q:=2) rfl).gr (hC.bl a4)) ?_;refine xu rfl rfl (fun _=>Yw rfl) ?_;obtain ⟨hj,fl,hm⟩:=bZ hm;refine xu rfl rfl (fun _=>Y9 underlying56 sizeOf47 rfl rfl (Xj fl).1 (Xj fl).2.1 (au.addr fl)) ?_;obtain ⟨_,kv,kw⟩:=au.atN fl;obtain ⟨_,_,rfl,kx,ky⟩:=kv.parts;obtain ⟨_,_,rfl,kz,k0⟩:=kx.parts;obtain rfl:=kz.bool;obtain ⟨k1,k2,rfl,eu⟩:=k0.row;obtain ⟨k3,k4,rfl,ew⟩:=ky.row;refine xv (v:=(.agg #[.bool hj.1.1,.slice k1 hj.1.2.length k2,.slice k3 hj.2.length k4])) rfl rfl (fun _ hC=>Wj isAgg47 sizeOf47 rfl rfl (kw.gr (hC.bl a4))) ?_;refine xF ⟨_,_,rfl⟩ ?_;refine xW (fun _ hC=>((ai.atN).nth (q:=2) rfl).gr (hC.bl a4)) ?_;refine xu rfl rfl (fun _=>Yw rfl) ?_;refine xu rfl rfl (fun _=>Yw rfl) ?_;refine xu rfl rfl (fun _=>Zd4 _ _ rfl rfl) ?_;refine xu rfl rfl (fun _=>Yw rfl) ?_;refine xu rfl rfl (fun _=>Qf _ _ rfl rfl) ?_;refine xu rfl rfl (fun _=>Yw rfl) ?_;refine xu rfl rfl (fun _=>Zd4 _ _ rfl rfl) ?_;obtain ⟨fm,hm⟩:=Z3 hm;have hk:=(aj.take (Int.toNat (i64.wrap ((i64.wrap (aw+1)) * av)))).drop (sz:=3) rfl (Int.toNat (i64.wrap (aw * av)));refine xu (v:=.slice (if ay=(Int.toNat (i64.wrap (aw * av))) then a5 else a5.map (·.add ((Int.toNat (i64.wrap (aw * av))) * 3))) ((Int.toNat (i64.wrap ((i64.wrap (aw+1)) * av))) - (Int.toNat (i64.wrap (aw * av)))) (ay - (Int.toNat (i64.wrap (aw * av))))) rfl rfl (fun _=>Zui underlying56 sizeOf47 rfl rfl rfl fm.1 fm.2.1 (by have:=aj.1.2;have:=fm.2.2;omega)) ?_;generalize (if ay=(Int.toNat (i64.wrap (aw * av))) then a5 else a5.map (·.add ((Int.toNat (i64.wrap (aw * av))) * 3)))=ia at *
          refine .ld (d:=167) (v:=(.slice ia (((ad.1.2.2.take (Int.toNat (i64.wrap ((i64.wrap (aw+1)) * av)))).drop (Int.toNat (i64.wrap (aw * av)))).length) (ay - (Int.toNat (i64.wrap (aw * av)))))) (congrArg (fun n=>Value.slice ia n (ay - (Int.toNat (i64.wrap (aw * av))))) (show (Int.toNat (i64.wrap ((i64.wrap (aw+1)) * av))) - (Int.toNat (i64.wrap (aw * av)))=((ad.1.2.2.take (Int.toNat (i64.wrap ((i64.wrap (aw+1)) * av)))).drop (Int.toNat (i64.wrap (aw * av)))).length by rw [List.length_drop,nK];have:=fm.2;omega)) ?_;refine xe rfl rfl ?_;intro n6 hC0;have hC:=hC0.bl a4;obtain ⟨n7,k5,hm⟩:=bZ hm;replace hk:=hk.gr hC;refine Zh (Zel 53 54 k5 hk) ?_;rintro _ n8 ⟨ei,n9,oa,ob,oc,rfl,bn,hl,ho⟩;refine ⟨_,rfl,?_⟩;refine Zm<|X0 ei hC0 bn<|xe rfl rfl ?_;intro k6 hC0;replace ae:=(ae.gr hC).gr bn;replace af:=(af.gr hC).gr bn;replace ak:=(ak.gr hC).gr bn;replace al:=(al.gr hC).gr bn;replace aj:=(aj.gr hC).gr bn;replace az:=(az.gr hC).gr bn;replace a0:=(a0.gr hC).gr bn;replace au:=(au.gr hC).gr bn;replace eu:=(eu.gr hC).gr bn;replace ew:=(ew.gr hC).gr bn;replace ag:=(ag.gr hC).gr bn;replace ai:=(ai.gr hC).gr bn;replace a6:=(a6.gr hC).gr bn;replace ab:=(ab.gr hC).gr bn;replace aa:=(aa.grow hC).grow bn;have hC:=hC0.bl ei;obtain ⟨od,k7,hm⟩:=bZ hm;replace eu:=eu.gr hC;replace ew:=ew.gr hC;replace hl:=hl.gr hC;replace ho:=ho.gr hC;refine Zh (Zek k7 (((eu.toSlF (Zg.int .u32)).froz 53).froz 54) (((ew.toSlF (Zg.int .u32)).froz 53).froz 54) (((hl.froz 51 (by decide)).toSlF (Zg.int .u32)).froz 54) (((ho.froz 51 (by decide)).froz 53 (by decide)).toSlF (Zg.int .u32))) ?_;rintro _ k8 ⟨rfl,bo⟩;refine ⟨_,rfl,?_⟩;replace bo:Zi ei k6 ei k8:=.of_below bo;refine Zm<|X0 ei hC0 bo<|xu rfl rfl (fun _=>Zd5 _ _ rfl rfl) ?_;refine Y7 ?_;replace ae:=(ae.gr hC).gr bo;replace af:=(af.gr hC).gr bo;replace ak:=(ak.gr hC).gr bo;replace al:=(al.gr hC).gr bo;replace aj:=(aj.gr hC).gr bo
          replace az:=(az.gr hC).gr bo;replace a0:=(a0.gr hC).gr bo;replace au:=(au.gr hC).gr bo;replace ag:=(ag.gr hC).gr bo;replace ai:=(ai.gr hC).gr bo;replace a6:=(a6.gr hC).gr bo;replace ab:=(ab.gr hC).gr bo;replace aa:=(aa.grow hC).grow bo;intro oe hC;replace hC:=hC.bl ei;replace ae:=ae.gr hC;replace af:=af.gr hC;replace ak:=ak.gr hC;replace al:=al.gr hC;replace aj:=aj.gr hC;replace az:=az.gr hC;replace a0:=a0.gr hC;replace au:=au.gr hC;replace ag:=ag.gr hC;replace ai:=ai.gr hC;replace a6:=a6.gr hC;replace ab:=ab.gr hC;replace aa:=aa.grow hC;refine Zr hm (fun hb hm=>go ?_) fun hb hm=>go ?_
          ·cases hm;exact ⟨rfl,rfl,aa.below⟩
          exact ⟨eh,by omega,rfl,⟨_,_,_,rfl,hm,aa,ae,af,ag,ak,al,aj,ai,az,a0,au,a6,ab,rfl⟩⟩
         exact ⟨rfl,_,hm,aa,ae,af,ag,ab,rfl⟩
       refine go ?_;refine X1 hm (fun hp hm=>go ?_) fun hp hm=>go ?_
       ·refine lV (.bool true) (Xs (congrArg Value.bool hp) rfl)<|Y6 rfl<|lP 135 rfl rfl<|lP 135 rfl rfl<|lP 135 rfl rfl<|lP 135 rfl rfl<|lP 135 rfl rfl<|lP 135 rfl rfl<|lP 135 rfl rfl<|lP 135 rfl rfl<|lP 135 rfl rfl<|lV (.bool true) (Xs rfl rfl)<|Zm ?_;exact ⟨rfl,_,_,hm,aa,ae,af,ag,ak,al,aj,ai,az,a0,au,a6,ab,rfl⟩
       refine lV (.bool (decide (av<1))) (Xl (congrArg Value.bool hp) rfl)<|Y6 rfl ?_;refine X1 hm (fun hq hm=>go ?_) fun hq hm=>go ?_
       ·refine lV (.bool true) (Xs (congrArg Value.bool hq) rfl)<|Zm ?_;exact ⟨rfl,_,_,hm,aa,ae,af,ag,ak,al,aj,ai,az,a0,au,a6,ab,rfl⟩
       refine Y5 ⟨_,_,rfl⟩ ?_;refine go ?_;refine lW ((a6.atN).nth (q:=2) rfl)<|go ?_;refine Y5 ⟨_,_,rfl⟩ ?_;refine go ?_;refine lW ((ai.atN).nth (q:=2) rfl)<|go ?_;refine lV (.bool (!decide ((i64.wrap ((aq.1.2.2.length:Int) * av))=(ad.1.2.2.length:Int)))) (Xl (congrArg Value.bool hq) rfl)<|Zm ?_;exact ⟨rfl,_,_,hm,aa,ae,af,ag,ak,al,aj,ai,az,a0,au,a6,ab,rfl⟩
      refine X8 ?_;exact ⟨rfl,_,hm,aa,ae,af,ag,ab,rfl⟩
     refine go ?_;refine X1 hm (fun hr hm=>go ?_) fun hr hm=>go ?_
     ·refine Y5 ⟨_,_,rfl⟩ ?_;refine go ?_;refine lW ((ai.atN).nth (q:=0) rfl)<|go ?_;refine lV (.bool (decide ((ad.1.1.length:Int)=(ax.length:Int)))) (Xs (congrArg Value.bool hr) rfl)<|Zm ?_;exact ⟨rfl,_,_,hm,aa,ae,af,ag,ak,al,aj,ai,ab,rfl⟩
     refine lV (.bool false) (Xl (congrArg Value.bool hr) rfl)<|Zm ?_;exact ⟨rfl,_,_,hm,aa,ae,af,ag,ak,al,aj,ai,ab,rfl⟩
    refine Wr<|lV _ (Xh isAgg47 sizeOf47 c5)<|lV _ (Xh isAgg47 sizeOf47 ag) ?_;obtain ⟨of,k9,hm⟩:=bZ hm;refine Zh (Zek k9 ((((e3.toSlF (Zg.int .u32)).froz 10).froz 2).froz 3) ((((e4.froz 9 (by decide)).toSlF (Zg.int .u32)).froz 2).froz 3) ((((ae.froz 9 (by decide)).froz 10 (by decide)).toSlF (Zg.int .u32)).froz 3) ((((af.froz 9 (by decide)).froz 10 (by decide)).froz 2 (by decide)).toSlF (Zg.int .u32))) ?_;rintro _ la ⟨rfl,cp⟩;refine ⟨_,rfl,?_⟩;replace cp:Zi an bt an la:=.of_below cp;refine go ?_;replace ae:=ae.gr cp;replace af:=af.gr cp;replace ak:=ak.gr cp;replace al:=al.gr cp;replace aj:=aj.gr cp;replace ag:=ag.gr cp;replace ai:=ai.gr cp;replace ab:=ab.gr cp;replace aa:=aa.grow cp;refine X1 hm (fun ht hm=>go ?_) fun ht hm=>go ?_
    ·refine lV (.bool true) (Xs (congrArg Value.bool ht) rfl)<|Y6 rfl<|lP 89 rfl rfl<|lP 89 rfl rfl<|lP 89 rfl rfl<|lP 89 rfl rfl<|lP 89 rfl rfl<|lP 89 rfl rfl<|lV (.bool true) (Xs rfl rfl)<|Zm ?_;exact ⟨rfl,_,_,hm,aa,ae,af,ag,ak,al,aj,ai,ab,rfl⟩
    refine Y5 ⟨_,_,rfl⟩ ?_;refine go ?_;refine lW ((ai.atN).nth (q:=0) rfl)<|go ?_;refine lV (.bool (!decide ((ad.1.1.length:Int)=(ax.length:Int)))) (Xl (congrArg Value.bool ht) rfl)<|Y6 rfl ?_;refine X1 hm (fun hu hm=>go ?_) fun hu hm=>go ?_
    ·refine lV (.bool true) (Xs (congrArg Value.bool hu) rfl)<|Zm ?_;exact ⟨rfl,_,_,hm,aa,ae,af,ag,ak,al,aj,ai,ab,rfl⟩
    refine Y5 ⟨_,_,rfl⟩ ?_;refine go ?_;refine lW ((ai.atN).nth (q:=1) rfl)<|go ?_;refine lV (.bool (!decide ((ad.1.2.1.length:Int)=(ax.length:Int)))) (Xl (congrArg Value.bool hu) rfl)<|Zm ?_;exact ⟨rfl,_,_,hm,aa,ae,af,ag,ak,al,aj,ai,ab,rfl⟩
  refine go ?_;refine X1 hm (fun hv hm=>go ?_) fun hv hm=>go ?_
  ·refine lV (.bool true) (Xs (congrArg Value.bool hv) rfl)<|Zm ?_;exact ⟨rfl,_,_,hm,aa,ae,af,ag,ak,al,aj,ai,ab,rfl⟩
  refine lV (.bool (!decide (ad.2=0))) (Xl (congrArg Value.bool hv) rfl)<|Zm ?_;exact ⟨rfl,_,_,hm,aa,ae,af,ag,ak,al,aj,ai,ab,rfl⟩
 refine Wr<|lV _ (Xh isAgg27 sizeOf27 ab) ?_;obtain ⟨og,lb,hm⟩:=bZ hm;refine Zh (Zmd lb (cq.ks aa) (b5.ks aa) (cr.ks aa) (ct.ks aa)) ?_;rintro _ ib ⟨rfl,fn⟩;refine ⟨_,rfl,?_⟩;replace fn:Zi dn hx dn ib:=.of_below fn;refine go ?_;replace ab:=ab.gr fn;replace aa:=aa.grow fn;refine X1 hm (fun hw hm=>go ?_) fun hw hm=>go ?_
 ·refine lV (.bool true) (Xs (congrArg Value.bool hw) rfl)<|Zm ?_;exact ⟨rfl,_,_,hm,aa,ab,rfl⟩
 refine lV _ (Xh isAgg27 sizeOf27 ab)<|go ?_;obtain ⟨le,lf,hm⟩:=bZ hm;refine Zh (Zw4 lf (cq.ks aa) (b5.ks aa) (cr.ks aa) (ct.ks aa)) ?_;rintro _ lh ⟨rfl,fp⟩;refine ⟨_,rfl,?_⟩;replace fp:Zi dn ib dn lh:=.of_below fp;refine lV (.bool le) (Xl (congrArg Value.bool hw) rfl)<|Zm ?_;replace ab:=ab.gr fp;replace aa:=aa.grow fp;exact ⟨rfl,_,_,hm,aa,ab,rfl⟩
theorem Zgp {n:Zy} {F:List R3} {V:List Int}:Y2 n F V=0↔F.all (Vy n)=true∧V.all (Sj n)=true∧(F.map (·.1)++V).Nodup∧Zo (Zf n)≤65536:=by
 rw [Y2]
 by_cases h1:F.all (Vy n)=true
 ·by_cases h2:V.all (Sj n)=true
  ·by_cases h3:(F.map (·.1)++V).Nodup
   ·by_cases h4:65536<Zo (Zf n)
    ·rw [if_pos h1,if_pos h2,if_pos h3,if_pos h4]
     exact ⟨fun h=>absurd h (by decide),fun h=>by omega⟩
    ·rw [if_pos h1,if_pos h2,if_pos h3,if_neg h4]
     exact ⟨fun _=>⟨h1,h2,h3,by omega⟩,fun _=>rfl⟩
   ·rw [if_pos h1,if_pos h2,if_neg h3]
    exact ⟨fun h=>absurd h (by decide),fun h=>absurd h.2.2.1 h3⟩
  ·rw [if_pos h1,if_neg h2]
   exact ⟨fun h=>absurd h (by decide),fun h=>absurd h.2.1 h2⟩
 ·rw [if_neg h1]
  exact ⟨fun h=>absurd h (by decide),fun h=>absurd h.1 h1⟩
/-! sums of pieces of a row -/
theorem Zzt {N:Nat} (l:List QV) (hr:Xm N 16):Ti N l=T8 N l (Zp 0).1.1 (Zp 0).1.2 (Zp 0).2:=by
 obtain ⟨r1,r2⟩:=hr
 have e:Zp 0=((false,[]),[1]):=by
  rw [Zp,X5]
  simp only [Rat.zero_num,Rat.zero_den,Int.natAbs_zero,Wt,Th]
  rfl
 rw [e,Ti,Zgh (by decide) (by omega),oB]
 rw [show (1:Int).toNat=1 from rfl,Th]
theorem Zox (f:Nat→Rat) (lo k:Nat):Z1 f lo (k+1)=Z1 f lo k+f (lo+k):=by
 rw [Zow,Z1,Z1,Rat.add_zero]
theorem Zrb {N K:Nat} (hr:Xm N (8 * K+40)) (f:Nat→Rat) (lo:Nat):∀ (m k:Nat),(∀ j,j≤k+m→qs (Z1 f lo j)≤K)→(∀ i,lo≤i→i<lo+(k+m)→qs (f i)≤K)→
  T8 N ((List.range' (lo+k) m).map fun c=>Zp (f c)) (Zp (Z1 f lo k)).1.1 (Zp (Z1 f lo k)).1.2 (Zp (Z1 f lo k)).2=some (Zp (Z1 f lo (k+m)))
 | 0,k,_,_=>rfl
 | m+1,k,h1,h2=>by
  have q1:=h1 k (by omega)
  have q2:=h2 (lo+k) (by omega) (by omega)
  have ad:Vs N (((Zp (Z1 f lo k)).1.1,(Zp (Z1 f lo k)).1.2),(Zp (Z1 f lo k)).2) (((Zp (f (lo+k))).1.1,(Zp (f (lo+k))).1.2),(Zp (f (lo+k))).2)=some (Zp (Z1 f lo (k+1))):=by
   have:=Zbi (W5 q1) (W5 q2) (hr.mono (by omega))
   rw [Wx,Wx,← Zox] at this
   exact this
  have ih:=Zrb hr f lo m (k+1) (fun j hj=>h1 j (by omega)) fun i a b=>h2 i a (by omega)
  rw [List.range'_succ,List.map_cons,T8.eq_2,ad,oB]
  rw [show k+1+m=k+(m+1) by omega] at ih
  exact ih
theorem Zjq {N K:Nat} {q:Rat} (h:qs q≤K) (hr:Xm N (8 * K+40)):S1 N (((Zp q).1.1,(Zp q).1.2),(Zp q).2) (((Zp q).1.1,(Zp q).1.2),(Zp q).2)=some 0:=by
 have:=Zm3 (W5 h) (W5 h) (hr.mono (by omega))
 have z:Sm q q=0:=by rw [Sm,if_neg Rat.lt_irrefl,if_neg Rat.lt_irrefl]
 rw [Wx,z] at this
 exact this
theorem Z09 {N:Nat} (hr:Xm N 4):Zhc N 1 1=some (Zp 1):=by
 have:=Zq6 (N:=N) (a:=1) (b:=1) (by omega) (by omega) hr
 rw [if_neg (by decide)] at this
 rw [Zhc,this,oB]
 have e:(((1:Int):Rat) / ((1:Int):Rat))=1:=div_one _
 rw [e]
/-! places in a table with one variable more -/
theorem Zn3 (s:Nat):∀ ss:List Nat,Zo (ss++[s])=Zo ss * s
 | []=>by show s * 1=1 * s;omega
 | x :: ss=>by rw [List.cons_append,Zo,Zo,Zn3 s ss,Nat.mul_assoc]
theorem Ztk (s:Nat) (x:Int):∀ (ss:List Nat) (d:List Int),ss.length=d.length→Vz (ss++[s]) (d++[x])=Vz ss d * s+x.toNat
 | [],[],_=>by
  show x.toNat * 1+0=0 * s+x.toNat
  omega
 | y :: ss,z :: d,h=>by
  have ih:=Ztk s x ss d (by simpa using h)
  rw [List.cons_append,List.cons_append,Vz,Vz,ih,Zn3,Nat.add_mul,← Nat.mul_assoc,Nat.add_assoc]
 | [],_ :: _,h=>by simp at h
 | _ :: _,[],h=>by simp at h
theorem Zz2 {i w q r:Nat} (hr:r<w):(i * w≤q * w+r∧q * w+r<i * w+w)↔q=i:=by
 constructor
 ·rintro ⟨h1,h2⟩
  rcases Nat.lt_trichotomy q i with h | h | h
  ·have:=Nat.mul_le_mul_right w (show q+1≤i from h)
   rw [Nat.add_mul,Nat.one_mul] at this;omega
  ·exact h
  ·have:=Nat.mul_le_mul_right w (show i+1≤q from h)
   rw [Nat.add_mul,Nat.one_mul] at this;omega
 ·rintro rfl;omega
def Wo (n:Zy) (G:List R3) (S:List Int) (c:Nat):Rat:=Z1 (Tg (Ub n S) (W3 n G) c) 0 (Zo (Zf n))
theorem Zbe (n:Zy) (G:List R3) (S:List Int):Y8 n G S (Zo (Zf n))=(List.range (Zo (Z6 (Zf n) S))).map fun c=>Zp (Wo n G S c):=
 List.map_congr_left fun c _=>by rw [Zyi,Wo]
section
variable {N W K:Nat} {n:Zy} (hf:Ya N n) (hs:Ws n W) (hr:Xm N (8 * K+40)) (hWK:1025 * (W+2)+15≤K) (h6:Zo (Zf n)≤600)
include hf hs hWK h6
theorem Zm8 (p:Nat→Nat) (G:List R3) (m k:Nat):qs (Z1 (fun c=>Z1 (Tg p (W3 n G) c) 0 (Zo (Zf n))) k m)≤K:=by
 rw [Zj2]
 exact Zn0 hf hs hWK h6 fun a ha=>Zrf (Zm9 hf G ha)
theorem Zzz (p:Nat→Nat) (G:List R3) (c:Nat):qs (Z1 (Tg p (W3 n G) c) 0 (Zo (Zf n)))≤K:=
 Zn0 hf hs hWK h6 fun a ha=>by rw [Tg];exact Zrf (Zm9 hf G ha)
theorem Zmq (G:List R3) (S:List Int) (c:Nat):qs (Wo n G S c)≤K:=Zzz hf hs hWK h6 _ G c
variable (hq:∀ t ∈ n.2.2.2.2,Xz (t.map Wc)≤W) (hN:4611686018427387903<N)
include hr hq hN
theorem Zor {G:List R3} (hG:Y2 n G []=0) (hGl:G.length≤1048575) (hs0:Xa n G≠0) {v:Nat} (hv:v<n.2.1.length) (kk:Int→Option Bool):
  ∀ (f k:Nat),k≤cnt n v→cnt n v<f+k→∀ c:Rat,(if (v:Int) ∈ G.map (·.1) then c=0 else c=Z1 (fun j=>Xa n (((v:Int),(j:Int)) :: G)) 0 k / Xa n G)→
   Qy N n G (v:Int) kk f (Zp c).1.1 (Zp c).1.2 (Zp c).2 (if (v:Int) ∈ G.map (·.1) then decide (k=0) else true) (k:Int)=kk ((v:Int)+1)
 | 0,k,h1,h2,_,_=>by omega
 | f+1,k,h1,h2,c,hc=>by
  have hle:=hf.le
  have hvl:=hf.ev.v
  have hk1:v<n.2.2.1.length:=by omega
  have hcl:cnt n v=n.2.2.1[v].length:=by rw [cnt,Yu hk1]
  have hl:=hs.vl _ (List.getElem_mem hk1)
  obtain ⟨okG,_,ndG,P5⟩:=Zgp.1 hG
  rw [List.append_nil] at ndG
  -- a value's sum
  have hot_eq:∀ j:Nat,Xa n (((v:Int),(j:Int)) :: G)=Z1 (Tg (fun a=>((Xq (Zf n) a).getD v 0).toNat) (W3 n G) j) 0 (Zo (Zf n)):=fun j=>
   Zgm _ _ fun a _ ha=>by
    have hd:=Zac hf (Tz (Zf n) a (W6 hf) (by omega))
    have hdv:=hd.ok v (by rw [hd.len];exact hv)
    have e:Wz (Xq (Zf n) a) (((v:Int),(j:Int)) :: G)=(decide ((Xq (Zf n) a).getD v 0=(j:Int))&&Wz (Xq (Zf n) a) G):=by
     rw [Wz,List.all_cons,Wz,Int.toNat_natCast]
    rw [Tg,W3,W3,e]
    by_cases h:(Xq (Zf n) a).getD v 0=(j:Int)
    ·rw [decide_eq_true h,Bool.true_and,if_pos (show ((Xq (Zf n) a).getD v 0).toNat=j by omega)]
    ·rw [decide_eq_false h,Bool.false_and,if_neg (by decide),if_neg (show ¬ ((Xq (Zf n) a).getD v 0).toNat=j by omega)]
  have hfun:(fun j:Nat=>Xa n (((v:Int),(j:Int)) :: G))=fun j=>Z1 (Tg (fun a=>((Xq (Zf n) a).getD v 0).toNat) (W3 n G) j) 0 (Zo (Zf n)):=funext hot_eq
  have hT:∀ m,qs (Z1 (fun j=>Xa n (((v:Int),(j:Int)) :: G)) 0 m)≤K:=fun m=>by rw [hfun];exact Zm8 hf hs hWK h6 _ G m 0
  have hS:=Zd9 hf hs hWK h6 G
  have qc:qs c≤2 * K:=by
   split at hc
   ·rw [hc,Zlk];omega
   ·have h3:=Zoa (Z1 (fun j=>Xa n (((v:Int),(j:Int)) :: G)) 0 k) (Xa n G)
    have h4:=hT k
    rw [hc];omega
  rw [Qy.eq_2,Xg hk1,oB]
  by_cases hk:k<n.2.2.1[v].length
  ·have hok:Vy n ((v:Int),(k:Int))=true:=by
    simp only [Vy,Bool.and_eq_true,decide_eq_true_eq,Int.toNat_natCast]
    omega
   have ask:=Zs8 hf hs hr hWK h6 hq hN (A:=[((v:Int),(k:Int))]) (G:=G) (by simp) (by omega)
   have ask':Zam N (n.1,n.2.1,n.2.2.1,n.2.2.2.1,n.2.2.2.2) [((v:Int),(k:Int))] G=_:=ask
   have wq:Y2 n ([((v:Int),(k:Int))]++G) []=if (v:Int) ∈ G.map (·.1) then 40 else 0:=by
    rw [Y2,List.singleton_append,List.all_cons,hok,okG,Bool.true_and,if_pos rfl,List.all_nil,if_pos rfl,List.append_nil,List.map_cons]
    by_cases hm:(v:Int) ∈ G.map (·.1)
    ·rw [if_pos hm,if_neg fun h=>(List.nodup_cons.1 h).1 hm]
    ·rw [if_neg hm,if_pos (List.nodup_cons.2 ⟨hm,ndG⟩),if_neg (by omega)]
   by_cases hm:(v:Int) ∈ G.map (·.1)
   ·rw [if_pos hm] at hc wq
    subst hc
    rw [wq,if_neg (show ¬ (40:Int)=0 by decide)] at ask'
    have ad:Vs N (((Zp 0).1.1,(Zp 0).1.2),(Zp 0).2) ((zQ.1.1,zQ.1.2),zQ.2)=some (Zp 0):=by
     have:=Zbi (N:=N) (k:=1) (l:=1) (a:=Zp 0) (b:=zQ) (W5 (Nat.le_of_eq Zlk)) ⟨by simp [Zn],by simp [Zn],by simp,by simp⟩ (hr.mono (by omega))
     have e:Xn (Zp 0)+Xn zQ=0:=by rw [Wx,Rat.zero_add,Zt6];rfl
     rw [e] at this
     exact this
    have ih:=Zor hG hGl hs0 hv kk f (k+1) (by omega) (by omega) 0 (by rw [if_pos hm])
    rw [if_pos hm,decide_eq_false (by omega)] at ih
    rw [if_pos (dT (by omega)),ask',oB,if_pos hm]
    have d40:decide ((40:Int)=0)=false:=by decide
    have ad':Vs N (((Zp 0).1.1,(Zp 0).1.2),(Zp 0).2) (((false,([]:List Int)),([]:List Int)))=some (Zp 0):=ad
    by_cases hk0:k=0
    ·rw [decide_eq_true hk0,if_pos rfl]
     rw [Zc4]
     dsimp only
     rw [ad',oB,Zfc,wS (by omega),d40]
     exact ih
    ·rw [decide_eq_false hk0,if_neg (by decide)]
     rw [Zc4]
     dsimp only
     rw [ad',oB,Zfc,wS (by omega)]
     exact ih
   ·rw [if_neg hm] at hc wq
    rw [wq,if_pos rfl,if_neg hs0] at ask'
    have d0:decide ((0:Int)=0)=true:=by decide
    rw [if_pos (dT (by omega)),ask',oB,if_neg hm,if_pos rfl]
    have q2:qs (Xa n ([((v:Int),(k:Int))]++G) / Xa n G)≤2 * K:=by
     have h3:=Zoa (Xa n ([((v:Int),(k:Int))]++G)) (Xa n G)
     have h4:=Zd9 hf hs hWK h6 ([((v:Int),(k:Int))]++G)
     omega
    have e:c+Xa n ([((v:Int),(k:Int))]++G) / Xa n G=Z1 (fun j=>Xa n (((v:Int),(j:Int)) :: G)) 0 (k+1) / Xa n G:=by
     rw [hc,Zox,Nat.zero_add,Rat.div_def,Rat.div_def,Rat.div_def,← Rat.add_mul];rfl
    have ad:=Zbi (W5 qc) (W5 q2) (hr.mono (by omega))
    rw [Wx,Wx,e] at ad
    have ad':Vs N (((Zp c).1.1,(Zp c).1.2),(Zp c).2) (((Zp (Xa n ([((v:Int),(k:Int))]++G) / Xa n G)).1.1,(Zp (Xa n ([((v:Int),(k:Int))]++G) / Xa n G)).1.2),(Zp (Xa n ([((v:Int),(k:Int))]++G) / Xa n G)).2)=_:=ad
    have ih:=Zor hG hGl hs0 hv kk f (k+1) (by omega) (by omega) _ (by rw [if_neg hm])
    rw [if_neg hm] at ih
    rw [Zc4]
    dsimp only
    rw [ad',oB,Zfc,wS (by omega)]
    exact ih
  ·have hk:k=cnt n v:=by omega
   have cpos:=Zmv hf.ev hv
   rw [if_neg (dF (by omega))]
   by_cases hm:(v:Int) ∈ G.map (·.1)
   ·rw [if_pos hm,decide_eq_false (by omega),if_neg (by decide),Ze9,if_neg (by decide),Zhb,wS (by omega)];rfl
   ·rw [if_neg hm] at hc
    have hsum:Z1 (fun j=>Xa n (((v:Int),(j:Int)) :: G)) 0 k=Xa n G:=by
     rw [hfun,Zj2,Xa]
     refine Zgm _ _ fun a _ ha=>?_
     have hd:=Zac hf (Tz (Zf n) a (W6 hf) (by omega))
     have hdv:=hd.ok v (by rw [hd.len];exact hv)
     rw [if_pos (by omega)]
    have c1:c=1:=by rw [hc,hsum,Rat.div_def,Rat.mul_inv_cancel _ hs0]
    subst c1
    have cm:=Zjq (N:=N) (K:=K) (q:=1) (by rw [Zob];omega) hr
    rw [if_neg hm,if_pos rfl,Z09 (hr.mono (by omega)),oB,cm,oB,show (!decide ((0:Int)=0))=false by decide,Ze9,if_neg (by decide),Zhb,wS (by omega)];rfl
theorem Zvl {G:List R3} (hG:Y2 n G []=0) (hGl:G.length≤1048575) (hs0:Xa n G≠0):∀ (f v:Nat),v≤n.2.1.length→n.2.1.length<f+v→Tk N n G true f (v:Int)=some true
 | 0,v,h1,h2=>by omega
 | f+1,v,h1,h2=>by
  have hle:=hf.le
  rw [Tk.eq_2]
  by_cases hk:v<n.2.1.length
  ·have hk1:v<n.2.2.1.length:=by have:=hf.ev.v;omega
   have hcl:cnt n v=n.2.2.1[v].length:=by rw [cnt,Yu hk1]
   have hl:=hs.vl _ (List.getElem_mem hk1)
   have h3:=Zor hf hs hr hWK h6 hq hN hG hGl hs0 hk (Tk N n G true f) N 0 (Nat.zero_le _) (by omega) 0 (by
    split
    ·rfl
    ·rw [Z1,Rat.div_def,Rat.zero_mul])
   have h4:(if (v:Int) ∈ G.map (·.1) then decide ((0:Nat)=0) else true)=true:=by split <;> rfl
   rw [h4] at h3
   rw [if_pos (dT (by omega)),Zjz (hr.mono (by omega)),oB]
   refine h3.trans ?_
   exact Zvl hG hGl hs0 f (v+1) (by omega) (by omega)
  ·rw [if_neg (dF (by omega))]
theorem Z2n {A G:List R3} (hG:Y2 n G []=0) (hAl:A.length≤1048575) (hGl:G.length≤1048575):Zc6 N n A G true (Zp (Xa n G),0)=some true:=by
 have ask:=Zs8 hf hs hr hWK h6 hq hN (A:=A) (G:=G) (by omega) (by omega)
 have ask':Zam N (n.1,n.2.1,n.2.2.1,n.2.2.2.1,n.2.2.2.2) A G=_:=ask
 have sm:=Ztd hf hs hr hWK h6 hq hN (G:=A++G) (by rw [nA];omega)
 have sm':Zan N (n.1,n.2.1,n.2.2.1,n.2.2.2.1,n.2.2.2.2) (A++G)=_:=sm
 have q1:=Zd9 hf hs hWK h6 G
 have q2:=Zd9 hf hs hWK h6 (A++G)
 rw [Zc6,ask',oB,Z7 (by simp only [nN,maxLen];omega),List.nil_append,Z7 (by simp only [maxLen];omega),sm',oB]
 by_cases hw:Y2 n (A++G) []=0
 ·rw [if_pos hw,if_pos hw]
  dsimp only
  have sg:S3 N (((Zp (Xa n G)).1.1,(Zp (Xa n G)).1.2),(Zp (Xa n G)).2)=some (Q9 (Xa n G)):=by
   have:=Zjy (N:=N) (W5 q1) (hr.mono (by omega))
   rwa [Wx] at this
  rw [if_neg (show ¬ (!decide ((0:Int)=0))=true by decide),sg,oB]
  by_cases h0:Xa n G=0
  ·have t0:Xa n (A++G)=0:=by
    have h1:=Z2v hf (A++G)
    have h2:=Z2u hf A G
    rw [h0] at h2
    exact Rat.le_antisymm h2 h1
   have sg2:S3 N (((Zp (Xa n (A++G))).1.1,(Zp (Xa n (A++G))).1.2),(Zp (Xa n (A++G))).2)=some (Q9 (Xa n (A++G))):=by
    have:=Zjy (N:=N) (W5 q2) (hr.mono (by omega))
    rwa [Wx] at this
   rw [if_pos (dT (Zll.2 h0)),if_pos rfl,if_pos h0]
   dsimp only
   rw [if_pos (show decide ((52:Int)=52)=true by decide),sg2,oB,decide_eq_true (Zll.2 t0)];rfl
  ·have q3:qs (Xa n (A++G) / Xa n G)≤2 * K:=by
    have:=Zoa (Xa n (A++G)) (Xa n G)
    omega
   have ml:Zbp N (((Zp (Xa n (A++G) / Xa n G)).1.1,(Zp (Xa n (A++G) / Xa n G)).1.2),(Zp (Xa n (A++G) / Xa n G)).2) (((Zp (Xa n G)).1.1,(Zp (Xa n G)).1.2),(Zp (Xa n G)).2)=some (Zp (Xa n (A++G))):=by
    have:=Zq5 (W5 q3) (W5 q1) (hr.mono (by omega))
    rw [Wx,Wx,Rat.div_def,Rat.mul_assoc,Rat.inv_mul_cancel _ h0,Rat.mul_one] at this
    exact this
   have cm:=Zjq (N:=N) q2 hr
   rw [if_neg (by rw [decide_eq_false fun h=>h0 (Zll.1 h)];decide),if_neg h0]
   dsimp only
   rw [if_neg (show ¬ (!decide ((0:Int)=0))=true by decide),ml,oB,cm,oB,Zha,if_neg (by decide)]
   exact Zvl hf hs hr hWK h6 hq hN hG hGl h0 N 0 (Nat.zero_le _) (by have:=hf.le;omega)
 ·rw [if_neg hw,if_neg hw]
  dsimp only
  rw [if_pos (by rw [decide_eq_false hw];rfl),if_pos rfl,decide_eq_true rfl];rfl
omit hq hN in
theorem Zvm {A G:List R3} (hG:Y2 n G []=0) (hAl:A.length≤1048575) (hGl:G.length≤1048575) {S T:List Int} {w:Nat} (e1 e2:Int) (hw:0<w) (hw2:Zo (Z6 (Zf n) S)=Zo (Z6 (Zf n) T) * w) (hQ:Zo (Z6 (Zf n) S)≤600)
  (hpl:∀ a,a<Zo (Zf n)→∃ r,r<w∧Ub n S a=Ub n T a * w+r) (fin:Zc6 N n A G true (Zp (Xa n G),0)=some true):∀ (f i:Nat),i≤Zo (Z6 (Zf n) T)→Zo (Z6 (Zf n) T)<f+i→
  Zc8 N n A G true (Zp (Xa n G),0) ((S,Xb (Z6 (Zf n) S),Y8 n G S (Zo (Zf n))),e1) ((T,Xb (Z6 (Zf n) T),Y8 n G T (Zo (Zf n))),e2) (w:Int) f (i:Int)=some true
 | 0,i,h1,h2=>by omega
 | f+1,i,h1,h2=>by
  have hle:Zo (Z6 (Zf n) T)≤Zo (Z6 (Zf n) T) * w:=Nat.le_mul_of_pos_right _ hw
  have lT:(Y8 n G T (Zo (Zf n))).length=Zo (Z6 (Zf n) T):=by rw [Zbe,List.length_map,List.length_range]
  have lS:(Y8 n G S (Zo (Zf n))).length=Zo (Z6 (Zf n) S):=by rw [Zbe,List.length_map,List.length_range]
  rw [Zc8.eq_2]
  dsimp only
  rw [lT,lS]
  by_cases hi:i<Zo (Z6 (Zf n) T)
  ·have a1:Zq (Y8 n G T (Zo (Zf n))) (i:Int)=some (Zp (Wo n G T i)):=by
    rw [Xg (by omega)]
    simp only [Zbe,List.getElem_map,List.getElem_range]
   have m1:(i+1) * w≤Zo (Z6 (Zf n) T) * w:=Nat.mul_le_mul_right w hi
   have m2:(i+1) * w=i * w+w:=by rw [Nat.add_mul,Nat.one_mul]
   have c1:(i:Int) * (w:Int)=((i * w:Nat):Int):=(Int.natCast_mul _ _).symm
   have c2:((i+1:Nat):Int) * (w:Int)=(((i+1) * w:Nat):Int):=(Int.natCast_mul _ _).symm
   have pc:((Y8 n G S (Zo (Zf n))).take ((i+1) * w)).drop (i * w)=(List.range' (i * w+0) w).map fun c=>Zp (Wo n G S c):=by
    refine List.ext_getElem (by simp only [List.length_drop,nK,lS,List.length_map,List.length_range'];omega) fun j g1 g2=>?_
    simp only [List.getElem_drop,List.getElem_take,Zbe,List.getElem_map,List.getElem_range,List.getElem_range',Nat.add_zero,Nat.one_mul]
   have sm:=Zrb hr (Wo n G S) (i * w) w 0 (fun j _=>Zm8 hf hs hWK h6 _ G j (i * w)) fun c _ _=>Zmq hf hs hWK h6 G S c
   have ssum:Z1 (Wo n G S) (i * w) (0+w)=Wo n G T i:=by
    have:=Zj2 (Ub n S) (W3 n G) (Zo (Zf n)) (0+w) (i * w)
    rw [show (Wo n G S)=fun c=>Z1 (Tg (Ub n S) (W3 n G) c) 0 (Zo (Zf n)) from rfl,this]
    refine Zgm _ _ fun a _ ha=>?_
    obtain ⟨r,r1,r2⟩:=hpl a (by omega)
    have:=Zz2 (i:=i) (q:=Ub n T a) r1
    rw [← r2] at this
    simp only [Tg,Nat.zero_add,this]
   rw [ssum] at sm
   have st:=Zzt (N:=N) ((List.range' (i * w+0) w).map fun c=>Zp (Wo n G S c)) (hr.mono (by omega))
   have cm:=Zjq (N:=N) (Zmq hf hs hWK h6 G T i) hr
   have ih:=Zvm hG hAl hGl e1 e2 hw hw2 hQ hpl fin f (i+1) (by omega) (by omega)
   have sm':T8 N ((List.range' (i * w+0) w).map fun c=>Zp (Wo n G S c)) (Zp 0).1.1 (Zp 0).1.2 (Zp 0).2=some (Zp (Wo n G T i)):=sm
   rw [if_pos (dT (by omega)),a1,oB,c1,Z2 (x:=((i * w:Nat):Int)) (by omega),wS (by omega),c2,Z2 (by omega),Z7 (by omega),Int.toNat_natCast,Int.toNat_natCast,pc,st,sm',oB,cm,oB,if_neg (show ¬ (!decide ((0:Int)=0))=true by decide)]
   exact ih
  ·rw [if_neg (dF (by omega))]
   exact fin
omit hq hN in
theorem Zvk {A G:List R3} {V S:List Int} (e1:Int) (hl:S.length=V.length) (hQ:Zo (Z6 (Zf n) S)≤600) (hp:∀ a,a<Zo (Zf n)→Ub n S a<Zo (Z6 (Zf n) S)):∀ (f i:Nat),i≤Zo (Z6 (Zf n) S)→Zo (Z6 (Zf n) S)<f+i→
  Zc7 N n A G V true (Zp (Xa n G),0) ((S,Xb (Z6 (Zf n) S),Y8 n G S (Zo (Zf n))),e1) f (Zp (Z1 (Wo n G S) 0 i)).1.1 (Zp (Z1 (Wo n G S) 0 i)).1.2 (Zp (Z1 (Wo n G S) 0 i)).2 (i:Int)=Zbv N n A G V true (Zp (Xa n G),0) ((S,Xb (Z6 (Zf n) S),Y8 n G S (Zo (Zf n))),e1) false
 | 0,i,h1,h2=>by omega
 | f+1,i,h1,h2=>by
  have lS:(Y8 n G S (Zo (Zf n))).length=Zo (Z6 (Zf n) S):=by rw [Zbe,List.length_map,List.length_range]
  rw [Zc7.eq_2]
  dsimp only
  rw [lS]
  by_cases hi:i<Zo (Z6 (Zf n) S)
  ·have a1:Zq (Y8 n G S (Zo (Zf n))) (i:Int)=some (Zp (Wo n G S i)):=by
    rw [Xg (by omega)]
    simp only [Zbe,List.getElem_map,List.getElem_range]
   have q1:qs (Z1 (Wo n G S) 0 i)≤K:=Zm8 hf hs hWK h6 (Ub n S) G i 0
   have q2:=Zmq hf hs hWK h6 G S i
   have ad:Vs N (((Zp (Z1 (Wo n G S) 0 i)).1.1,(Zp (Z1 (Wo n G S) 0 i)).1.2),(Zp (Z1 (Wo n G S) 0 i)).2) (((Zp (Wo n G S i)).1.1,(Zp (Wo n G S i)).1.2),(Zp (Wo n G S i)).2)=some (Zp (Z1 (Wo n G S) 0 (i+1))):=by
    have:=Zbi (W5 q1) (W5 q2) (hr.mono (by omega))
    rw [Wx,Wx] at this
    rw [Zox,Nat.zero_add]
    exact this
   rw [if_pos (dT (by omega)),a1,oB,ad,oB,wS (by omega)]
   exact Zvk e1 hl hQ hp f (i+1) (by omega) (by omega)
  ·have hi:i=Zo (Z6 (Zf n) S):=by omega
   have hsum:Z1 (Wo n G S) 0 i=Xa n G:=by
    have:=Zj2 (Ub n S) (W3 n G) (Zo (Zf n)) i 0
    rw [show (Wo n G S)=fun c=>Z1 (Tg (Ub n S) (W3 n G) c) 0 (Zo (Zf n)) from rfl,this,Xa]
    refine Zgm _ _ fun a _ ha=>?_
    have:=hp a (by omega)
    rw [if_pos (by omega)]
   have lZ:(Xb (Z6 (Zf n) S)).length=V.length:=by rw [Xb,Z6,List.length_map,List.length_map,hl]
   have cm:=Zjq (N:=N) (Zd9 hf hs hWK h6 G) hr
   rw [if_neg (dF (by omega)),hsum,cm,oB,if_neg (show ¬ (!decide ((0:Int)=0))=true by decide),hl,if_neg (by rw [decide_eq_true rfl];decide),lZ,decide_eq_true rfl];rfl
theorem Z2m {A G:List R3} {V:List Int} (e1:Int) (hV:Y2 n G V=0) (hAl:A.length≤1048575) (hGl:G.length≤1048575) (hVl:V.length≤1048575):
  Zbv N n A G V true (Zp (Xa n G),0) ((X9 V,Xb (Z6 (Zf n) (X9 V)),Y8 n G (X9 V) (Zo (Zf n))),e1) false=some true:=by
 have hvl:=hf.ev.v
 have hszl:(Zf n).length=n.2.1.length:=by rw [Zf,List.length_map,hvl]
 obtain ⟨okG,okV,nd,P5⟩:=Zgp.1 hV
 have hG:Y2 n G []=0:=Zgp.2 ⟨okG,rfl,by rw [List.append_nil];exact (List.nodup_append.1 nd).1,P5⟩
 have fin:=Z2n hf hs hr hWK h6 hq hN hG hAl hGl (A:=A)
 have hp:=Zg3 V
 have hlen:=hp.length_eq
 rw [Zbv,if_neg (by decide)]
 by_cases hV0:0<V.length
 ·-- the last variable
  have hS:∀ v ∈ X9 V,0≤v∧v<((Zf n).length:Int):=fun v hv=>by
   have:=List.all_eq_true.1 okV v (hp.mem_iff.1 hv)
   simp only [Sj,Bool.and_eq_true,decide_eq_true_eq] at this
   omega
  have hnd:(X9 V).Nodup:=hp.nodup_iff.2 (List.nodup_append.1 nd).2.1
  have hris:=Znb V
  have hsplit:∃ T x,X9 V=T++[x]∧T.length+1=V.length:=by
   refine ⟨(X9 V).take (V.length - 1),(X9 V)[V.length - 1]'(by omega),?_,by rw [nK];omega⟩
   rw [← List.take_succ_eq_append_getElem,List.take_of_length_le (by omega)]
  obtain ⟨T,x,hTx,hTl⟩:=hsplit
  have hpT:T.Pairwise (· ≤·):=by rw [hTx] at hris;exact (List.pairwise_append.1 hris).1
  have sT:X9 T=T:=Zrn (.refl _) hpT
  have wT:Y2 n G T=0:=by
   refine Zgp.2 ⟨okG,List.all_eq_true.2 fun v hv=>List.all_eq_true.1 okV v (hp.mem_iff.1 (by rw [hTx];exact List.mem_append_left _ hv)),?_,P5⟩
   have h1:(G.map (·.1)++X9 V).Nodup:=(List.Perm.nodup_iff (hp.append_left _)).2 nd
   rw [hTx,← List.append_assoc] at h1
   exact (List.nodup_append.1 h1).1
  have tb:=Ztt hf hs hr hWK h6 hN hq (G:=G) (V:=T) (by omega) (by omega) wT
  rw [sT] at tb
  have tb':S4 N (n.1,n.2.1,n.2.2.1,n.2.2.2.1,n.2.2.2.2) T G=_:=tb
  have hx:=hS x (by rw [hTx];simp)
  have szE:Z6 (Zf n) (X9 V)=Z6 (Zf n) T++[(Zf n).getD x.toNat 0]:=by rw [hTx,Z6,Z6,List.map_append];rfl
  have wpos:0<(Zf n).getD x.toNat 0:=by
   rw [Yu (show x.toNat<(Zf n).length by omega)]
   exact W6 hf _ (List.getElem_mem _)
  have hPS:Zo (Z6 (Zf n) (X9 V))=Zo (Z6 (Zf n) T) * (Zf n).getD x.toNat 0:=by rw [szE,Zn3]
  have hQ:Zo (Z6 (Zf n) (X9 V))≤600:=Nat.le_trans (Zn4 (W6 hf) hnd hS) h6
  have hpl:∀ a,a<Zo (Zf n)→∃ r,r<(Zf n).getD x.toNat 0∧Ub n (X9 V) a=Ub n T a * (Zf n).getD x.toNat 0+r:=fun a ha=>by
   have hd:=Tz (Zf n) a (W6 hf) ha
   have hdl:=Zg1 (Zf n) a
   have hg:=(Zm0 hd).2 x.toNat (by omega)
   refine ⟨((Xq (Zf n) a).getD x.toNat 0).toNat,by omega,?_⟩
   have e:Uy (Xq (Zf n) a) (X9 V)=Uy (Xq (Zf n) a) T++[(Xq (Zf n) a).getD x.toNat 0]:=by rw [hTx,Uy,Uy,List.map_append];rfl
   rw [Ub,szE,e,Ztk _ _ _ _ (by rw [Z6,Uy,List.length_map,List.length_map]),Ub]
  have hT6:Zo (Z6 (Zf n) T)≤600:=by
   have:=Nat.le_mul_of_pos_right (Zo (Z6 (Zf n) T)) wpos
   omega
  have L4:=Zvm hf hs hr hWK h6 hG hAl hGl (A:=A) (S:=X9 V) (T:=T) e1 0 wpos hPS hQ hpl fin N 0 (Nat.zero_le _) (by omega)
  have tkT:(X9 V).take T.length=T:=by rw [hTx,List.take_left]
  have atw:Zq (Xb (Z6 (Zf n) (X9 V))) ((T.length:Nat):Int)=some (((Zf n).getD x.toNat 0:Nat):Int):=by
   have hl2:(Z6 (Zf n) T).length=T.length:=by rw [Z6,List.length_map]
   have h3:=Ziy (ss:=Z6 (Zf n) (X9 V)) (k:=T.length) (by rw [szE,nA,hl2,List.length_singleton];omega)
   rw [h3,szE,List.getD_eq_getElem?_getD,List.getElem?_append_right (by omega),hl2,Nat.sub_self];rfl
  generalize (Zf n).getD x.toNat 0=wd at *
  have wle:wd≤Zo (Z6 (Zf n) T) * wd:=Nat.le_mul_of_pos_left _ (by
   rcases Nat.eq_zero_or_pos (Zo (Z6 (Zf n) T)) with h | h
   ·have hpos:=Zgi (Z6 (Zf n) (X9 V)) fun s hs=>by
     obtain ⟨v,hv,rfl⟩:=List.mem_map.1 hs
     have:=hS v hv
     rw [Yu (show v.toNat<(Zf n).length by omega)]
     exact W6 hf _ (List.getElem_mem _)
    rw [hPS,h,Nat.zero_mul] at hpos;omega
   ·exact h)
  have lT:(Y8 n G T (Zo (Zf n))).length=Zo (Z6 (Zf n) T):=by rw [Zbe,List.length_map,List.length_range]
  have lS:(Y8 n G (X9 V) (Zo (Zf n))).length=Zo (Z6 (Zf n) (X9 V)):=by rw [Zbe,List.length_map,List.length_range]
  have w1:i64.wrap ((V.length:Int) - 1)=((T.length:Nat):Int):=by rw [Z2 (by omega)];omega
  rw [if_pos (dT (by omega))]
  dsimp only
  rw [hlen,decide_eq_true rfl,Zfa,if_pos rfl,w1]
  dsimp only
  rw [Z7 (by omega),Int.toNat_natCast,tkT,Z7 (by simp only [nN,maxLen];omega),List.nil_append,tb',oB,atw,oB,if_neg (show ¬ (!decide ((0:Int)=0))=true by decide),if_neg (dF (by omega))]
  dsimp only
  rw [lT,lS,← Int.natCast_mul,Z2 (by omega),hPS,decide_eq_true rfl,Zfb,if_neg (by decide)]
  exact L4
 ·rw [if_neg (dF (by omega)),Zfa,if_neg (by decide)]
  exact fin
end
theorem Zwi {N W K:Nat} {n:Zy} {A G:List R3} {V:List Int} (hs:Ws n W) (hb:Zi7 n) (hq:∀ t ∈ n.2.2.2.2,Xz (t.map Wc)≤W) (hAl:A.length≤1048575) (hGl:G.length≤1048575) (hVl:V.length≤1048575) (hr:Xm N (8 * K+40)) (hWK:1025 * (W+2)+15≤K) (hN:4611686018427387903<N):Zkc N n A G V=some true:=by
 obtain ⟨e,m1,fine⟩:=Zyk hs (hr.mono (s:=8 * W+40) (by omega)) (by omega)
 have m1':U2 N (n.1,n.2.1,n.2.2.1,n.2.2.2.1,n.2.2.2.2)=some e:=m1
 rw [Zkc,Zo1,oB,m1',oB]
 by_cases h0:e=0
 ·have hf:=fine h0
  subst h0
  obtain ⟨r,r1,r2⟩:=Zsc (N:=N) hf hs (fun t ht=>⟨hb.tl t ht,hb.tm t ht⟩) (by omega) N 0 1 (Nat.zero_le _) (by decide) (by have:=hf.le;omega)
  have mn:Zke N (n.1,n.2.1,n.2.2.1,n.2.2.2.1,n.2.2.2.2)=some r:=r1
  rw [if_neg (by decide),mn,oB,Ze8]
  cases r with
  | true=>rw [if_pos rfl]
  | false=>
   have h6:=r2 rfl
   rw [List.drop_zero,Nat.one_mul] at h6
   have hvl:=hf.ev.v
   have hszl:(Zf n).length=n.2.1.length:=by rw [Zf,List.length_map,hvl]
   have sm:=Ztd hf hs hr hWK h6 hq hN (G:=G) (by omega)
   have sm':Zan N (n.1,n.2.1,n.2.2.1,n.2.2.2.1,n.2.2.2.2) G=_:=sm
   by_cases hV:Y2 n G V=0
   ·obtain ⟨okG,okV,nd,P5⟩:=Zgp.1 hV
    have hG:Y2 n G []=0:=Zgp.2 ⟨okG,rfl,by rw [List.append_nil];exact (List.nodup_append.1 nd).1,P5⟩
    have tb:=Ztt hf hs hr hWK h6 hN hq (G:=G) (V:=V) (by omega) (by omega) hV
    have tb':S4 N (n.1,n.2.1,n.2.2.1,n.2.2.2.1,n.2.2.2.2) V G=_:=tb
    have hp:=Zg3 V
    have hlen:=hp.length_eq
    have hS:∀ v ∈ X9 V,0≤v∧v<((Zf n).length:Int):=fun v hv=>by
     have:=List.all_eq_true.1 okV v (hp.mem_iff.1 hv)
     simp only [Sj,Bool.and_eq_true,decide_eq_true_eq] at this
     omega
    have hnd:(X9 V).Nodup:=hp.nodup_iff.2 (List.nodup_append.1 nd).2.1
    have hQ:Zo (Z6 (Zf n) (X9 V))≤600:=Nat.le_trans (Zn4 (W6 hf) hnd hS) h6
    have hpl:∀ a,a<Zo (Zf n)→Ub n (X9 V) a<Zo (Z6 (Zf n) (X9 V)):=fun a ha=>
     Zir _ _ (Zmy (Tz (Zf n) a (W6 hf) ha) (X9 V) (by rw [Zg1];exact hS))
    have L1:=Zvk hf hs hr hWK h6 (A:=A) (G:=G) (V:=V) 0 hlen hQ hpl N 0 (Nat.zero_le _) (by omega)
    have J3:=Z2m hf hs hr hWK h6 hq hN (A:=A) 0 hV hAl hGl hVl
    rw [if_pos hG] at sm'
    rw [if_neg (by decide),sm',oB,tb',oB,if_neg (show ¬ (!decide ((0:Int)=0))=true by decide),show (!decide ((0:Int)=0))=false by decide,Zc5,if_neg (by decide),Zjz (hr.mono (by omega)),oB]
    exact L1.trans J3
   ·obtain ⟨ga,g2,_⟩:=Zj3 hf hs (hr.mono (by omega)) (by omega) G V (by omega) (by omega)
    have g2':Up N (n.1,n.2.1,n.2.2.1,n.2.2.2.1,n.2.2.2.2) G V=some (ga,Y2 n G V):=g2
    have tb:S4 N (n.1,n.2.1,n.2.2.1,n.2.2.2.1,n.2.2.2.2) V G=some ((([]:List Int),([]:List Int),([]:List QV)),Y2 n G V):=by
     rw [S4,g2',oB]
     dsimp only
     rw [if_pos (by rw [decide_eq_false hV];rfl)]
    have J2:∀ r31 r51,Zc5 N n A G V true r31 r51 true=some true:=fun r31 r51=>by rw [Zc5,if_pos rfl]
    rw [if_neg (by decide),sm',oB,tb,oB,decide_eq_false (show ¬ ((([]:List Int),([]:List Int),([]:List QV)),Y2 n G V).2=0 from hV),Bool.not_false,J2,ite_self]
 ·rw [if_pos (by rw [decide_eq_false h0];rfl),Ze8,if_pos rfl]
theorem T4 {α:Type} {b:α→Nat} (hb:∀ x,1≤b x):∀ (l:List α),l.length+1≤Xi b l
 | []=>by simp [Xi]
 | x :: l=>by
  have h:=T4 hb l
  have:=hb x
  simp only [Xi,List.map_cons,List.sum_cons,nC] at h ⊢
  omega
theorem Zik {α:Type} {b:α→Nat} {x:α}:∀ {l:List α},x ∈ l→b x+1≤Xi b l
 | y :: l,h=>by
  simp only [Xi,List.map_cons,List.sum_cons]
  rcases List.mem_cons.1 h with rfl | h
  ·omega
  ·have:=Zik (b:=b) h
   simp only [Xi] at this
   omega
theorem Zl7 {α:Type} {b:α→Nat} (l:List α):1≤Xi b l:=by simp only [Xi];omega
theorem Zje (s:ByteArray):1≤Vd s:=by simp only [Vd];omega
theorem Zjc {α:Type} (s:α):1≤Yc s:=by simp only [Yc];omega
theorem Zjd {α:Type} {b:α→Nat} (s:α):1≤Wv b s:=by simp only [Wv];omega
abbrev Ss:QV→Nat:=Wv (Yy (Wv (Yy Yc (Xi Yc))) (Xi Yc))
abbrev qQ:QV→Prop:=Uu (Uu (fun _=>True) (Wm (Vu .u32))) (Wm (Vu .u32))
abbrev Zee:Zy→Nat:=Wv (Yy Vd (Yy (Xi Vd) (Yy (Xi (Xi Vd)) (Yy (Xi (Xi Yc)) (Xi (Xi Ss))))))
abbrev Zn7:Zy→Prop:=Uu (fun _=>True) (Uu (Wm (fun _=>True)) (Uu (Wm (Wm (fun _=>True))) (Uu (Wm (Wm (Vu .i64))) (Wm (Wm qQ)))))
theorem Zr4 {l:List Int} (h:Wm (Vu .u32) l):Zn l:=by
 intro d hd
 have h1:=h d hd
 simp [Vu,Lit.wf,IntKind.min,IntKind.max,IntKind.signed,IntKind.bits] at h1
 omega
theorem Zr3 {x:QV} (h:qQ x):Vc x:=⟨Zr4 h.1.2,Zr4 h.2⟩
theorem Zl6 (x:QV):x.1.2.length+x.2.length+4≤Ss x:=by
 have h1:=T4 (b:=Yc) Zjc x.1.2
 have h2:=T4 (b:=Yc) Zjc x.2
 simp only [Wv,Yy]
 have h3:Yc x.1.1=1:=rfl
 omega
theorem Zt0:∀ t:List QV,Xz t≤Xi Ss t
 | []=>by rw [Xz];omega
 | x :: t=>by
  have h1:=Zt0 t
  have h2:=Zl6 x
  rw [Xz]
  simp only [Xi,List.map_cons,List.sum_cons] at h1 ⊢
  omega
theorem Zv3:∀ P:List R2,Uw P+P.length≤Xi (Xi Yc) P
 | []=>by simp [Uw,Xi]
 | l :: P=>by
  have h1:=Zv3 P
  have h2:=T4 (b:=Yc) Zjc l
  rw [Ziz,nC]
  simp only [Xi,List.map_cons,List.sum_cons] at h1 h2 ⊢
  omega
theorem Z01 {n:Zy} (hb:Zee n≤1048576) (hq:Zn7 n):Ws n 1048576∧Zi7 n:=by
 have a1:=Zje n.1
 have a2:=T4 (b:=Vd) Zje n.2.1
 have a3:=T4 (b:=Xi Vd) Zl7 n.2.2.1
 have a4:=Zv3 n.2.2.2.1
 have a5:=T4 (b:=Xi Ss) Zl7 n.2.2.2.2
 have a6:=Zl7 (b:=Xi Yc) n.2.2.2.1
 simp only [Zee,Wv,Yy] at hb
 have b3:∀ l ∈ n.2.2.1,l.length≤1048576:=fun l hl=>by
  have h1:=Zik (b:=Xi Vd) hl
  have h2:=T4 (b:=Vd) Zje l
  omega
 have b4:∀ l ∈ n.2.2.2.1,l.length≤1048576:=fun l hl=>by
  have h1:=Zlv hl
  omega
 have b5:∀ t ∈ n.2.2.2.2,Xi Ss t≤1048576:=fun t ht=>by
  have h1:=Zik (b:=Xi Ss) ht
  omega
 have b6:∀ t ∈ n.2.2.2.2,t.length≤1048576:=fun t ht=>by
  have h1:=b5 t ht
  have h2:=T4 (b:=Ss) Zjd t
  omega
 refine ⟨⟨by omega,b3,⟨by omega,by omega⟩,b6,fun t ht=>Nat.le_trans (Zt0 t) (b5 t ht),fun t ht x hx=>Zr3 (hq.2.2.2.2 t ht x hx)⟩,⟨by omega,by omega,b3,by omega,b4,by omega,b6,fun t ht x hx=>?_⟩⟩
 have h1:=b5 t ht
 have h2:=Zik (b:=Ss) hx
 have h3:=Zl6 x
 omega
theorem Zqg:∀ t:List QV,(∀ x ∈ t,Vc x)→Xz (t.map Wc)≤Xi Ss t
 | [],_=>by rw [List.map_nil,Xz];omega
 | x :: t,h=>by
  have h1:=Zqg t fun y hy=>h y (List.mem_cons_of_mem _ hy)
  have h2:=Zl6 x
  have hx:=h x List.mem_cons_self
  have h3:=Zt4 (Zgl hx.1 hx.2)
  have h4:max (Wc x).1.2.length (Wc x).2.length=qs (Xn x):=rfl
  rw [List.map_cons,Xz,h4]
  simp only [Xi,List.map_cons,List.sum_cons] at h1 ⊢
  omega
theorem Z00 {n:Zy} (hb:Zee n≤1048576) (hq:Zn7 n):∀ t ∈ n.2.2.2.2,Xz (t.map Wc)≤1048576:=fun t ht=>by
 have h1:=Zqg t fun x hx=>Zr3 (hq.2.2.2.2 t ht x hx)
 have h2:=Zik (b:=Xi Ss) ht
 have a1:=Zje n.1
 simp only [Zee,Wv,Yy] at hb
 omega

end Go.Proofs.YtbmjpjhbankpoaaGreat
