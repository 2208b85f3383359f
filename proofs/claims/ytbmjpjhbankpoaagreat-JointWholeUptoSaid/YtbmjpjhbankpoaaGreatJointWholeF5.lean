/-
  What functions of the program compute, as plain Lean functions (m_..), and proofs that they compute it (c_..). Printed by a program of the author; no conditions.
-/
import Derived.Test.YtbmjpjhbankpoaaGreatJointWholeBFloat
import Derived.Test.YtbmjpjhbankpoaaGreatProg
import Derived.Test.YtbmjpjhbankpoaaGreatJointWholeBBrief
import Derived.Test.YtbmjpjhbankpoaaGreatJointWholeBBulk
import Derived.Test.YtbmjpjhbankpoaaGreatJointWholeF4
set_option linter.unusedVariables false
set_option maxRecDepth 100000
set_option maxHeartbeats 2000000
namespace Go.Proofs.YtbmjpjhbankpoaaGreat
open Go Go.RowKit
open Go.IntKind (i8 i16 i32 i64 u8 u16 u32 u64)
open Go.Proofs.Tryz

def Zf6 (aa:Bool):Option Bool:=
  some aa
def Zf9 (aa:Bool) (ab:Bool) (ac:List Int) (ad:List Int) (ae:Int):Option Bool:=
  some aa
def Zf8 (ab:R0) (ac:Bool) (ad:List Int) (ae:List Int) (af:Int) (ag:List Int×R1) (ah:Int) (aa:Int) (ai:Bool) (kk_L3:(Int→Int→Bool→Option Bool)) (aj:Bool):Option Bool:=
  if aj=true then (Zf9 false ac ad ae af) else ((Zn ab.2.2.1 aa).bind fun ak=>(Zn ag.1 aa).bind fun al=>kk_L3 (i64.wrap ((i64.wrap (ah * (ak.length:Int)))+al)) (i64.wrap (aa+1)) ai)
def Zb7 (N:Nat) (ac:Bool) (ad:List Int) (ae:List Int) (af:Int) (kk_L2:(Bool→Bool→R2→R2→Int→Option Bool)) (aa:List Int×R1) (ag:Bool) (ah:Bool):Option Bool:=
  if ah=true then (Zf9 false ac ad ae af) else ((Sa N ((ac,ad),ae) ((aa.2.1.1,aa.2.1.2),aa.2.2)).bind fun ab=>kk_L2 ag ab.1.1 ab.1.2 ab.2 (i64.wrap (af+1)))
def U0 (N:Nat) (ab:R0) (ad:Bool) (ae:List Int) (af:List Int) (ac:Int) (kk_L2:(Bool→Bool→R2→R2→Int→Option Bool)) (aa:List Int×R1):Nat→Int→Int→Bool→Option Bool
  | 0,_,_,_=>none
  | ak+1,aj,ah,ag=>if (decide (ah<(aa.1.length:Int)))=true then ((Zn aa.1 ah).bind fun al=>if (decide (al<0))=true then (Zf8 ab ad ae af ac aa aj ah ag (U0 N ab ad ae af ac kk_L2 aa ak) true) else ((Zn ab.2.2.1 ah).bind fun am=>Zf8 ab ad ae af ac aa aj ah ag (U0 N ab ad ae af ac kk_L2 aa ak) (decide ((am.length:Int)≤al)))) else ((Za2 N (ab.1,ab.2.1,ab.2.2.1,ab.2.2.2.1,ab.2.2.2.2) aa.1).bind fun ai=>if (!decide (ai.2=0))=true then (Zb7 N ad ae af ac kk_L2 aa ag true) else (if (!decide (aj=ac))=true then (Zb7 N ad ae af ac kk_L2 aa ag true) else ((S7 N ((ai.1.1.1,ai.1.1.2),ai.1.2) ((aa.2.1.1,aa.2.1.2),aa.2.2)).bind fun an=>if (!decide (an=0))=true then (Zb7 N ad ae af ac kk_L2 aa ag true) else ((Qv N ((aa.2.1.1,aa.2.1.2),aa.2.2)).bind fun ao=>Zb7 N ad ae af ac kk_L2 aa ag (decide (ao<0))))))
termination_by structural x=>x
def Zf7 (N:Nat) (ae:R0) (af:Bool) (aa:Bool) (ab:List Int) (ac:List Int) (ad:Int) (kk_L2:(Bool→Bool→R2→R2→Int→Option Bool)) (ag:List Int×R1) (ah:Bool):Option Bool:=
  if ah=true then (Zf9 false aa ab ac ad) else (U0 N ae aa ab ac ad kk_L2 ag N 0 0 af)
def Uc (N:Nat) (aa:R0) (ag:Bool) (ac:Int):List Re→Bool→Bool→R2→R2→Int→Option Bool
  | [],ah,ad,ae,af,ab=>if ag=true then (if (decide (ab=ac))=true then ((Zga N 1 1).bind fun ai=>(S7 N ((ad,ae),af) ((ai.1.1,ai.1.2),ai.2)).bind fun al=>Zf6 (decide (al=0))) else (Zf6 false)) else (Zf6 false)
  | aj :: ak,ah,ad,ae,af,ab=>if (!decide ((aj.1.length:Int)=(aa.2.1.length:Int)))=true then (Zf7 N aa ah ad ae af ab (Uc N aa ag ac ak) aj true) else (Zf7 N aa ah ad ae af ab (Uc N aa ag ac ak) aj (decide (ac≤ab)))
termination_by structural x=>x
def Zb8 (N:Nat) (aa:R0) (ad:Bool):Nat→Int→Int→Option Bool
  | 0,_,_=>none
  | af+1,ae,ab=>if (decide (ab<(aa.2.1.length:Int)))=true then ((Zn aa.2.2.1 ab).bind fun ag=>(Zb8 N aa ad af) (i64.wrap (ae * (ag.length:Int))) (i64.wrap (ab+1))) else ((S8 N ([]:List R1)).bind fun ac=>(Qx N (aa.1,aa.2.1,aa.2.2.1,aa.2.2.2.1,aa.2.2.2.2)).bind fun ah=>Uc N aa ad ae ah false ac.1.1 ac.1.2 ac.2 0)
termination_by structural x=>x
def Zd5 (N:Nat) (ab:R0) (aa:Bool) (ac:Bool):Option Bool:=
  if ac=true then (some aa) else (Zb8 N ab aa N 1 0)
def Zi1 (N:Nat) (aa:R0):Option Bool:=
  (Zne).bind fun ab=>(Ur N (aa.1,aa.2.1,aa.2.2.1,aa.2.2.2.1,aa.2.2.2.2)).bind fun ac=>if (!decide (ac=0))=true then (Zd5 N aa ab true) else ((Zi2 N (aa.1,aa.2.1,aa.2.2.1,aa.2.2.2.1,aa.2.2.2.2)).bind fun ad=>Zd5 N aa ab ad)
theorem Zvh (N:Nat) (col:Zd) (w0:World) (bj:Option Addr) (bk:Nat) (bm:Option Addr) (bn:Nat) (bo:Option Addr) (bp:Nat) (bq:Option Addr) (br:Nat) (ab:R0) (af:Sl Za.str col w0 bj bk ab.2.1) (ad:Sl (Za.slice Za.str) col w0 bm bn ab.2.2.1) (ag:Sl (Za.slice (Za.int .i64)) col w0 bo bp ab.2.2.2.1) (ah:Sl (Za.slice (Za.pair (Za.pair Za.bool (Za.slice (Za.int .u32))) (Za.slice (Za.int .u32)))) col w0 bq br ab.2.2.2.2) (r:Bool) (hm:Zi1 N ab=some r):
    Calls Tryz.prog 13 #[(.agg #[.string ab.1,.slice bj ab.2.1.length bk,.slice bm ab.2.2.1.length bn,.slice bo ab.2.2.2.1.length bp,.slice bq ab.2.2.2.2.length br])] w0 (fun e w'=>e= .returned ((.bool r))∧Below w0.heap.size w0 w'):=by
 refine Zik (m:=136) (args:=[(.agg #[.string ab.1,.slice bj ab.2.1.length bk,.slice bm ab.2.2.1.length bn,.slice bo ab.2.2.2.1.length bp,.slice bq ab.2.2.2.2.length br])]) func13 rfl rfl rfl ?_;rw [Zi1.eq_1] at hm;have aa:=St.start col w0;replace af:=af.keep (Zk.start col w0);replace ad:=ad.keep (Zk.start col w0);replace ag:=ag.keep (Zk.start col w0);replace ah:=ah.keep (Zk.start col w0);have hmk:Xw 499 (Zi col) w0 []:=.nil;refine go ?_;refine X6 (col:=(Zi col)) 1 rfl ?_;intro cq hy fl c5 ae;refine Su (col:=fl) (v:=(.bool false)) 2 rfl zeroValue4 ?_;intro bw eo cr c1 ac;replace ac:Zh 4 2 cr eo bw #[.bool false]:=ac;refine go ?_;obtain ⟨bz,fm,hm⟩:=bZ hm;refine lc rfl rfl (Zbp call66) (Zyi cr _ bz fm) ?_;rintro _ ep ⟨rfl,cc⟩;refine ⟨_,rfl,?_⟩;replace cc:Zf cr eo cr ep:=.of_below cc;refine lAB rfl<|Zl<|Zu<|Zu ?_;replace af:=((af.gr c5).gr c1).gr cc;replace ad:=((ad.gr c5).gr c1).gr cc;replace ag:=((ag.gr c5).gr c1).gr cc;replace ah:=((ah.gr c5).gr c1).gr cc;replace hmk:=((hmk.gr c5).gr c1).gr cc;replace aa:=((aa.grow c5).grow c1).grow cc;replace ae:=(ae.gr c1).gr cc;replace ac:=ac.gr cc;refine Wp.cutK [1,2,3,1000000] (fun f ch=>∃ b9 dv,Zd5 N ab bz dv=some r∧St w0 (Zi col) b9 ch∧Sl Za.str b9 ch bj bk ab.2.1∧Sl (Za.slice Za.str) b9 ch bm bn ab.2.2.1∧Sl (Za.slice (Za.int .i64)) b9 ch bo bp ab.2.2.2.1∧Sl (Za.slice (Za.pair (Za.pair Za.bool (Za.slice (Za.int .u32))) (Za.slice (Za.int .u32)))) b9 ch bq br ab.2.2.2.2∧Zh 27 1 b9 ch cq #[.string ab.1,.slice bj ab.2.1.length bk,.slice bm ab.2.2.1.length bn,.slice bo ab.2.2.2.1.length bp,.slice bq ab.2.2.2.2.length br]∧Zh 4 2 b9 ch bw #[.bool false]∧Xw 499 b9 ch []∧[22].map f=[.bool dv]) ?_ ?_
 ·intro f ch hJ;obtain ⟨b9,dv,hm,aa,af,ad,ag,ah,ae,ac,hmk,hs⟩:=hJ;rw [Zd5.eq_1] at hm;refine .lL [22] hs ?_;refine Zo hm (fun hb hm=>go ?_) fun hb hm=>go ?_
  ·refine Wy (v:=(.bool bz)) ac sizeOf4 rfl rfl (by intro u hu;simp only [Value.cells,List.mem_cons,List.not_mem_nil,or_false] at hu;subst hu;rfl) rfl rfl ?_;intro fn eq fp db;replace db:Zh 4 2 b9 fn bw #[.bool bz]:=db;refine go ?_;cases hm;replace hmk:=hmk.kp eq;refine ⟨_,[],rfl,hmk,?_⟩;intro hz er fq;replace aa:=(aa.kp eq fp).kp er fq;replace db:=db.kp er;exact ⟨_,Zhr rfl rfl isAgg4 rfl db.at1,rfl,aa.below⟩
  refine Su (col:=b9) (v:=(.int .i64 0)) 3 rfl zeroValue3 ?_;intro cd fr es cs dw;replace dw:Zh 3 3 es fr cd #[.int .i64 0]:=dw;refine Wy (v:=(.int .i64 1)) dw sizeOf3 rfl rfl (by intro u hu;simp only [Value.cells,List.mem_cons,List.not_mem_nil,or_false] at hu;subst hu;rfl) rfl rfl ?_;intro ft ct fu ai;replace ai:Zh 3 3 es ft cd #[.int .i64 1]:=ai;refine go ?_;replace af:=(af.gr cs).kp ct;replace ad:=(ad.gr cs).kp ct;replace ag:=(ag.gr cs).kp ct;replace ah:=(ah.gr cs).kp ct;replace ae:=(ae.gr cs).kp ct;replace ac:=(ac.gr cs).kp ct;replace hmk:=(hmk.gr cs).kp ct;replace aa:=(aa.grow cs).kp ct fu;refine Z2 [1,2,3,4,1000000] (fun n f ce=>∃ bs az dx c6,c6=n∧Zb8 N ab bz c6 az dx=some r∧St w0 (Zi col) bs ce∧Sl Za.str bs ce bj bk ab.2.1∧Sl (Za.slice Za.str) bs ce bm bn ab.2.2.1∧Sl (Za.slice (Za.int .i64)) bs ce bo bp ab.2.2.2.1∧Sl (Za.slice (Za.pair (Za.pair Za.bool (Za.slice (Za.int .u32))) (Za.slice (Za.int .u32)))) bs ce bq br ab.2.2.2.2∧Zh 27 1 bs ce cq #[.string ab.1,.slice bj ab.2.1.length bk,.slice bm ab.2.2.1.length bn,.slice bo ab.2.2.2.1.length bp,.slice bq ab.2.2.2.2.length br]∧Zh 4 2 bs ce bw #[.bool false]∧Zh 3 3 bs ce cd #[.int .i64 az]∧Xw 499 bs ce []∧[5].map f=[.int .i64 dx]) N ⟨_,1,0,_,rfl,hm,aa,af,ad,ag,ah,ae,ac,ai,hmk,rfl⟩ ?_;clear hm;intro n f ce hI;obtain ⟨bs,az,dx,c6,hn,hm,aa,af,ad,ag,ah,ae,ac,ai,hmk,hs⟩:=hI;subst hn;refine .lL [5] hs ?_
  cases c6 with
  | zero=>rw [Zb8.eq_1] at hm;cases hm
  | succ c6=>
   rw [Zb8.eq_2] at hm;refine go ?_;refine Xu ae ?_;refine go ?_;refine Zo hm (fun hb hm=>go ?_) fun hb hm=>go ?_
   ·refine Wi (col:=bs) [(0,0),(1,1),(2,0),(3,1),(4,1),(5,0),(6,1),(7,1),(8,2)] (by kernel_rfl) (by kernel_rfl)<|xW (fun _ hC=>ai.at1.gr (hC.bl bs)) ?_;refine xF ⟨_,_,rfl⟩ ?_;refine xW (fun _ hC=>((ae.atN).nth (q:=2) rfl).gr (hC.bl bs)) ?_;refine xu rfl rfl (fun _=>Y4 rfl) ?_;obtain ⟨et,dk,hm⟩:=bZ hm;refine xu rfl rfl (fun _=>Y3 underlying23 sizeOf22 rfl rfl (Xg dk).1 (Xg dk).2.1 (ad.addr dk)) ?_;obtain ⟨_,fv,fw⟩:=ad.atN dk;obtain ⟨⟨h0,h1,rfl,h2⟩,_⟩:=fv;refine xW (fun _ hC=>fw.one.gr (hC.bl bs)) ?_;refine xu rfl rfl (fun _=>Zaj underlying22 rfl) ?_;refine xu rfl rfl (fun _=>Zfb _ _ rfl rfl) ?_;refine xe rfl rfl ?_;intro h3 hC0;have hC:=hC0.bl bs;replace ai:=ai.gr hC;refine Wy (v:=(.int .i64 (i64.wrap (az * (et.length:Int))))) ai sizeOf3 rfl rfl (by intro u hu;simp only [Value.cells,List.mem_cons,List.not_mem_nil,or_false] at hu;subst hu;rfl) rfl rfl ?_;intro fx cu fy dc;replace dc:Zh 3 3 bs fx cd #[.int .i64 (i64.wrap (az * (et.length:Int)))]:=dc;refine Zl<|xk bs<|Y5 ?_;replace af:=(af.gr hC).kp cu;replace ad:=(ad.gr hC).kp cu;replace ag:=(ag.gr hC).kp cu;replace ah:=(ah.gr hC).kp cu;replace ae:=(ae.gr hC).kp cu;replace ac:=(ac.gr hC).kp cu;replace hmk:=(hmk.gr hC).kp cu;replace aa:=(aa.grow hC).kp cu fy;intro h4 hC;replace hC:=hC.bl bs;refine go ?_;replace af:=af.gr hC;replace ad:=ad.gr hC;replace ag:=ag.gr hC;replace ah:=ah.gr hC;replace ae:=ae.gr hC;replace ac:=ac.gr hC;replace dc:=dc.gr hC;replace hmk:=hmk.gr hC;replace aa:=aa.grow hC;exact ⟨c6,by omega,rfl,⟨_,_,_,_,rfl,hm,aa,af,ad,ag,ah,ae,ac,dc,hmk,rfl⟩⟩
   obtain ⟨dy,fz,hm⟩:=bZ hm;refine Zg (Zid (col:=bs) 4 5 fz Sl.nil) ?_;rintro _ h5 ⟨f0,f1,f2,f3,f4,rfl,ci,dz,d0⟩;refine ⟨_,rfl,?_⟩;refine Xo (col:=f0) #[.bool false,.slice none (([]:List Int).length) 0,.slice none (([]:List Int).length) 0] 6 zeroValue47 ?_;intro c7 h6 f5 ca f6;refine Z4 f6 ?_;intro h7 cb f7 ak;refine go ?_;refine Su (col:=f5) (v:=(.int .i64 0)) 7 rfl zeroValue3 ?_;intro cj f8 eu b7 d1;replace d1:Zh 3 7 eu f8 cj #[.int .i64 0]:=d1;refine Wy (v:=(.int .i64 0)) d1 sizeOf3 rfl rfl (by intro u hu;simp only [Value.cells,List.mem_cons,List.not_mem_nil,or_false] at hu;subst hu;rfl) rfl rfl ?_;intro f9 b8 ga aj;replace aj:Zh 3 7 eu f9 cj #[.int .i64 0]:=aj;refine go ?_;replace ae:=((((ae.gr ci).gr ca).kp cb).gr b7).kp b8;refine lV _ (Xi isAgg27 sizeOf27 ae) ?_;obtain ⟨gb,gc,hm⟩:=bZ hm;replace af:=((((af.gr ci).gr ca).kp cb).gr b7).kp b8;replace ad:=((((ad.gr ci).gr ca).kp cb).gr b7).kp b8;replace ag:=((((ag.gr ci).gr ca).kp cb).gr b7).kp b8;replace ah:=((((ah.gr ci).gr ca).kp cb).gr b7).kp b8;refine Zg (Zku 8 gc af ad ag ah) ?_;rintro _ h8 ⟨gd,d2,rfl,b6,ew⟩;refine ⟨_,rfl,?_⟩;refine lv (v:=d2) rfl rfl (Vu rfl)<|go ?_;refine lv (v:=d2) rfl rfl (Vf rfl)<|lV (.bool false) (Z0e ew ⟨_,_,_,underlying77⟩ rfl)<|Zl<|Xv rfl<|go ?_;refine lv (v:=d2) rfl rfl (Vf rfl)<|go ?_;replace ac:=(((((ac.gr ci).gr ca).kp cb).gr b7).kp b8).gr b6;replace ai:=(((((ai.gr ci).gr ca).kp cb).gr b7).kp b8).gr b6;replace hmk:=(((((hmk.gr ci).gr ca).kp cb).gr b7).kp b8).gr b6;replace aa:=(((((aa.grow ci).grow ca).kp cb f7).grow b7).kp b8 ga).grow b6;replace dz:=((((dz.gr ca).kp cb).gr b7).kp b8).gr b6;replace d0:=((((d0.gr ca).kp cb).gr b7).kp b8).gr b6;replace ak:=((ak.gr b7).kp b8).gr b6;replace af:=af.gr b6;replace ad:=ad.gr b6;replace ag:=ag.gr b6;replace ah:=ah.gr b6;replace ae:=ae.gr b6;replace aj:=aj.gr b6
   refine Zc8 (psl:=[45,46]) (arr:=(fun (y:List Int×R1) (col:Zd) (w:World) (args:List Value)=>∃ (a0:Option Addr) (ey:Nat) (a1_0_1:Option Addr) (c1_0_1:Nat) (ez:Option Addr) (e0:Nat),args=[.slice a0 y.1.length ey,.agg #[.bool y.2.1.1,.slice a1_0_1 y.2.1.2.length c1_0_1,.slice ez y.2.2.length e0]]∧Zc (Za.int .i64) 3 8 col w a0 ey y.1∧Sl (Za.int .u32) col w a1_0_1 c1_0_1 y.2.1.2∧Sl (Za.int .u32) col w ez e0 y.2.2)) (ys:=gb) (col:=gd) 498 rfl ew rfl hmk rfl rfl (by rintro _ _ _ _ ⟨_,_,_,_,_,_,rfl,_⟩;rfl) (fun ys_ al ap=>∃ (b0:Bool) (a2:Bool) (a3:Option Addr) (a4:Nat) (aq:List Int) (a5:Option Addr) (a6:Nat) (ar:List Int) (ao:Int),Uc N ab bz az ys_ b0 a2 aq ar ao=some r∧St w0 (Zi col) al ap∧Sl Za.str al ap bj bk ab.2.1∧Sl (Za.slice Za.str) al ap bm bn ab.2.2.1∧Sl (Za.slice (Za.int .i64)) al ap bo bp ab.2.2.2.1∧Sl (Za.slice (Za.pair (Za.pair Za.bool (Za.slice (Za.int .u32))) (Za.slice (Za.int .u32)))) al ap bq br ab.2.2.2.2∧Zh 27 1 al ap cq #[.string ab.1,.slice bj ab.2.1.length bk,.slice bm ab.2.2.1.length bn,.slice bo ab.2.2.2.1.length bp,.slice bq ab.2.2.2.2.length br]∧Zh 4 2 al ap bw #[.bool b0]∧Zh 3 3 al ap cd #[.int .i64 az]∧Zc (Za.int .u32) 79 4 al ap a3 a4 aq∧Zc (Za.int .u32) 79 5 al ap a5 a6 ar∧Zh 47 6 al ap c7 #[.bool a2,.slice a3 aq.length a4,.slice a5 ar.length a6]∧Zh 3 7 al ap cj #[.int .i64 ao]) (fun c_ al ap=>(c_= .ret∧∃ (b0:Bool) (a2:Bool) (a3:Option Addr) (a4:Nat) (aq:List Int) (a5:Option Addr) (a6:Nat) (ar:List Int) (ao:Int),Zf9 b0 a2 aq ar ao=some r∧St w0 (Zi col) al ap∧Sl Za.str al ap bj bk ab.2.1∧Sl (Za.slice Za.str) al ap bm bn ab.2.2.1∧Sl (Za.slice (Za.int .i64)) al ap bo bp ab.2.2.2.1∧Sl (Za.slice (Za.pair (Za.pair Za.bool (Za.slice (Za.int .u32))) (Za.slice (Za.int .u32)))) al ap bq br ab.2.2.2.2∧Zh 27 1 al ap cq #[.string ab.1,.slice bj ab.2.1.length bk,.slice bm ab.2.2.1.length bn,.slice bo ab.2.2.2.1.length bp,.slice bq ab.2.2.2.2.length br]∧Zh 4 2 al ap bw #[.bool b0]∧Zh 3 3 al ap cd #[.int .i64 az]∧Zc (Za.int .u32) 79 4 al ap a3 a4 aq∧Zc (Za.int .u32) 79 5 al ap a5 a6 ar∧Zh 47 6 al ap c7 #[.bool a2,.slice a3 aq.length a4,.slice a5 ar.length a6]∧Zh 3 7 al ap cj #[.int .i64 ao])) ?_ ?_ ⟨false,dy.1.1,f1,f2,dy.1.2,f3,f4,dy.2,0,hm,aa,af,ad,ag,ah,ae,ac,ai,dz,d0,ak,aj⟩ ?_ ?_ ?_
   ·intro ys_ al ap col2_ w2_ hJ hk;obtain ⟨b0,a2,a3,a4,aq,a5,a6,ar,ao,hm,aa,af,ad,ag,ah,ae,ac,ai,am,an,ak,aj⟩:=hJ;exact ⟨b0,a2,a3,a4,aq,a5,a6,ar,ao,hm,aa.kpp hk rfl rfl,af.kpp hk rfl,ad.kpp hk rfl,ag.kpp hk rfl,ah.kpp hk rfl,ae.kpp hk rfl,ac.kpp hk rfl,ai.kpp hk rfl,am.kpp hk rfl rfl,an.kpp hk rfl rfl,ak.kpp hk rfl,aj.kpp hk rfl⟩
   ·intro c_ al ap col2_ w2_ hX hk;obtain ⟨rfl,hX⟩:=hX;obtain ⟨b0,a2,a3,a4,aq,a5,a6,ar,ao,hm,aa,af,ad,ag,ah,ae,ac,ai,am,an,ak,aj⟩:=hX;exact ⟨rfl,⟨b0,a2,a3,a4,aq,a5,a6,ar,ao,hm,aa.kpp hk rfl rfl,af.kpp hk rfl,ad.kpp hk rfl,ag.kpp hk rfl,ah.kpp hk rfl,ae.kpp hk rfl,ac.kpp hk rfl,ai.kpp hk rfl,am.kpp hk rfl rfl,an.kpp hk rfl rfl,ak.kpp hk rfl,aj.kpp hk rfl⟩⟩
   ·intro dl h9 dm ay dn al ap args hJ hrec hmk harr;obtain ⟨b0,a2,a3,a4,aq,a5,a6,ar,ao,hm,aa,af,ad,ag,ah,ae,ac,ai,am,an,ak,aj⟩:=hJ;rw [Uc.eq_2] at hm;have hki:=Zt.refl (pC 2) al ap;obtain ⟨d3,d4,cv,cw,cx,cy,rfl,a7,au,av⟩:=harr;refine go ?_;refine Xo (col:=al) #[.bool false,.slice none (([]:List Int).length) 0,.slice none (([]:List Int).length) 0] 11 zeroValue47 ?_;intro dp ia ib bt ge;refine Z4 ge ?_;intro ic bu e1 aw;refine Zl ?_;replace hrec:=(hrec.gr bt).kp bu;refine ⟨_,hrec,?_⟩;intro id dq bv e2 hrec2;have hrec:=hrec2;refine Zfg<|Zu<|Zu ?_;replace af:=((af.gr bt).kp bu).kp bv;replace ad:=((ad.gr bt).kp bu).kp bv;replace ag:=((ag.gr bt).kp bu).kp bv;replace ah:=((ah.gr bt).kp bu).kp bv;replace am:=((am.gr bt).kp bu).kp bv;replace an:=((an.gr bt).kp bu).kp bv;replace au:=((au.gr bt).kp bu).kp bv;replace av:=((av.gr bt).kp bu).kp bv;replace a7:=((a7.gr bt).kp bu).kp bv;replace ae:=((ae.gr bt).kp bu).kp bv;replace ac:=((ac.gr bt).kp bu).kp bv;replace ai:=((ai.gr bt).kp bu).kp bv;replace ak:=((ak.gr bt).kp bu).kp bv;replace aj:=((aj.gr bt).kp bu).kp bv;replace hmk:=((hmk.gr bt).kp bu).kp bv;replace hki:=((hki.gr bt).kp bu e1 rfl).kp bv e2 rfl;replace aa:=((aa.grow bt).kp bu e1).kp bv e2;replace aw:=aw.kp bv
    refine Wp.cutK [1,10,2,3,4,6,7,9,1000000] (fun f bc=>∃ ba d5,Zf7 N ab b0 a2 aq ar ao (Uc N ab bz az dn) ay d5=some r∧St w0 (Zi col) ba bc∧Sl Za.str ba bc bj bk ab.2.1∧Sl (Za.slice Za.str) ba bc bm bn ab.2.2.1∧Sl (Za.slice (Za.int .i64)) ba bc bo bp ab.2.2.2.1∧Sl (Za.slice (Za.pair (Za.pair Za.bool (Za.slice (Za.int .u32))) (Za.slice (Za.int .u32)))) ba bc bq br ab.2.2.2.2∧Zh 27 1 ba bc cq #[.string ab.1,.slice bj ab.2.1.length bk,.slice bm ab.2.2.1.length bn,.slice bo ab.2.2.2.1.length bp,.slice bq ab.2.2.2.2.length br]∧Sl (Za.int .u32) ba bc cv cw ay.2.1.2∧Sl (Za.int .u32) ba bc cx cy ay.2.2∧Zh 47 11 ba bc dp #[.bool ay.2.1.1,.slice cv ay.2.1.2.length cw,.slice cx ay.2.2.length cy]∧Zh 4 2 ba bc bw #[.bool b0]∧Zh 3 3 ba bc cd #[.int .i64 az]∧Zc (Za.int .u32) 79 4 ba bc a3 a4 aq∧Zc (Za.int .u32) 79 5 ba bc a5 a6 ar∧Zh 47 6 ba bc c7 #[.bool a2,.slice a3 aq.length a4,.slice a5 ar.length a6]∧Zh 3 7 ba bc cj #[.int .i64 ao]∧Zc (Za.int .i64) 3 8 ba bc d3 d4 ay.1∧Yq 498 ba bc dl dq∧Xw 499 ba bc dm∧Zt (pC 2) al ap ba bc∧[57].map f=[.bool d5]) ?_ ?_
    ·intro f bc hJ;obtain ⟨ba,d5,hm,aa,af,ad,ag,ah,ae,au,av,aw,ac,ai,am,an,ak,aj,a7,hrec,hmk,hki,hs⟩:=hJ;rw [Zf7.eq_1] at hm;refine .lL [57] hs ?_;refine Zo hm (fun hb hm=>go ?_) fun hb hm=>go ?_
     ·refine Wy (v:=(.bool false)) ac sizeOf4 rfl rfl (by intro u hu;simp only [Value.cells,List.mem_cons,List.not_mem_nil,or_false] at hu;subst hu;rfl) rfl rfl ?_;intro gf b1 e3 d6;replace d6:Zh 4 2 ba gf bw #[.bool false]:=d6;refine go ?_;replace af:=af.kp b1;replace ad:=ad.kp b1;replace ag:=ag.kp b1;replace ah:=ah.kp b1;replace am:=am.kp b1;replace an:=an.kp b1;replace ae:=ae.kp b1;replace ai:=ai.kp b1;replace ak:=ak.kp b1;replace aj:=aj.kp b1;replace hrec:=hrec.kp b1;replace hmk:=hmk.kp b1;replace hki:=hki.kp b1 e3 rfl;replace aa:=aa.kp b1 e3;exact ⟨_,hki,⟨rfl,⟨false,a2,a3,a4,aq,a5,a6,ar,ao,hm,aa,af,ad,ag,ah,ae,d6,ai,am,an,ak,aj⟩⟩,hrec,hmk⟩
     refine Z2 [1,10,2,3,4,6,7,9,1000000] (fun n f bb=>∃ ax dd dr cz c2,c2=n∧U0 N ab a2 aq ar ao (Uc N ab bz az dn) ay c2 dd dr cz=some r∧St w0 (Zi col) ax bb∧Sl Za.str ax bb bj bk ab.2.1∧Sl (Za.slice Za.str) ax bb bm bn ab.2.2.1∧Sl (Za.slice (Za.int .i64)) ax bb bo bp ab.2.2.2.1∧Sl (Za.slice (Za.pair (Za.pair Za.bool (Za.slice (Za.int .u32))) (Za.slice (Za.int .u32)))) ax bb bq br ab.2.2.2.2∧Zh 27 1 ax bb cq #[.string ab.1,.slice bj ab.2.1.length bk,.slice bm ab.2.2.1.length bn,.slice bo ab.2.2.2.1.length bp,.slice bq ab.2.2.2.2.length br]∧Sl (Za.int .u32) ax bb cv cw ay.2.1.2∧Sl (Za.int .u32) ax bb cx cy ay.2.2∧Zh 47 11 ax bb dp #[.bool ay.2.1.1,.slice cv ay.2.1.2.length cw,.slice cx ay.2.2.length cy]∧Zh 4 2 ax bb bw #[.bool cz]∧Zh 3 3 ax bb cd #[.int .i64 az]∧Zc (Za.int .u32) 79 4 ax bb a3 a4 aq∧Zc (Za.int .u32) 79 5 ax bb a5 a6 ar∧Zh 47 6 ax bb c7 #[.bool a2,.slice a3 aq.length a4,.slice a5 ar.length a6]∧Zh 3 7 ax bb cj #[.int .i64 ao]∧Zc (Za.int .i64) 3 8 ax bb d3 d4 ay.1∧Yq 498 ax bb dl dq∧Xw 499 ax bb dm∧Zt (pC 2) al ap ax bb∧[11,12].map f=[.int .i64 dd,.int .i64 dr]) N ⟨_,0,0,_,_,rfl,hm,aa,af,ad,ag,ah,ae,au,av,aw,ac,ai,am,an,ak,aj,a7,hrec,hmk,hki,rfl⟩ ?_;clear hm;intro n f bb hI;obtain ⟨ax,dd,dr,cz,c2,hn,hm,aa,af,ad,ag,ah,ae,au,av,aw,ac,ai,am,an,ak,aj,a7,hrec,hmk,hki,hs⟩:=hI;subst hn;refine .lL [11,12] hs ?_
     cases c2 with
     | zero=>rw [U0.eq_1] at hm;cases hm
     | succ c2=>
      rw [U0.eq_2] at hm;refine go ?_;refine Zo hm (fun hb hm=>?_) fun hb hm=>go ?_
      ·refine X7<|Zu<|Zfg<|Zu<|Zu ?_;refine Wp.cutK [1,10,11,12,2,3,4,6,7,9,1000000] (fun f bd=>∃ a1 d7,Zf8 ab a2 aq ar ao ay dd dr cz (U0 N ab a2 aq ar ao (Uc N ab bz az dn) ay c2) d7=some r∧St w0 (Zi col) a1 bd∧Sl Za.str a1 bd bj bk ab.2.1∧Sl (Za.slice Za.str) a1 bd bm bn ab.2.2.1∧Sl (Za.slice (Za.int .i64)) a1 bd bo bp ab.2.2.2.1∧Sl (Za.slice (Za.pair (Za.pair Za.bool (Za.slice (Za.int .u32))) (Za.slice (Za.int .u32)))) a1 bd bq br ab.2.2.2.2∧Zh 27 1 a1 bd cq #[.string ab.1,.slice bj ab.2.1.length bk,.slice bm ab.2.2.1.length bn,.slice bo ab.2.2.2.1.length bp,.slice bq ab.2.2.2.2.length br]∧Sl (Za.int .u32) a1 bd cv cw ay.2.1.2∧Sl (Za.int .u32) a1 bd cx cy ay.2.2∧Zh 47 11 a1 bd dp #[.bool ay.2.1.1,.slice cv ay.2.1.2.length cw,.slice cx ay.2.2.length cy]∧Zh 4 2 a1 bd bw #[.bool cz]∧Zh 3 3 a1 bd cd #[.int .i64 az]∧Zc (Za.int .u32) 79 4 a1 bd a3 a4 aq∧Zc (Za.int .u32) 79 5 a1 bd a5 a6 ar∧Zh 47 6 a1 bd c7 #[.bool a2,.slice a3 aq.length a4,.slice a5 ar.length a6]∧Zh 3 7 a1 bd cj #[.int .i64 ao]∧Zc (Za.int .i64) 3 8 a1 bd d3 d4 ay.1∧Yq 498 a1 bd dl dq∧Xw 499 a1 bd dm∧Zt (pC 2) al ap a1 bd∧[81].map f=[.bool d7]) ?_ ?_
       ·intro f bd hJ;obtain ⟨a1,d7,hm,aa,af,ad,ag,ah,ae,au,av,aw,ac,ai,am,an,ak,aj,a7,hrec,hmk,hki,hs⟩:=hJ;rw [Zf8.eq_1] at hm;refine .lL [81] hs ?_;refine Zo hm (fun hb hm=>go ?_) fun hb hm=>?_
        ·refine Wy (v:=(.bool false)) ac sizeOf4 rfl rfl (by intro u hu;simp only [Value.cells,List.mem_cons,List.not_mem_nil,or_false] at hu;subst hu;rfl) rfl rfl ?_;intro gg b2 e4 d8;replace d8:Zh 4 2 a1 gg bw #[.bool false]:=d8;refine go ?_;replace af:=af.kp b2;replace ad:=ad.kp b2;replace ag:=ag.kp b2;replace ah:=ah.kp b2;replace am:=am.kp b2;replace an:=an.kp b2;replace ae:=ae.kp b2;replace ai:=ai.kp b2;replace ak:=ak.kp b2;replace aj:=aj.kp b2;replace hrec:=hrec.kp b2;replace hmk:=hmk.kp b2;replace hki:=hki.kp b2 e4 rfl;replace aa:=aa.kp b2 e4;exact ⟨_,hki,⟨rfl,⟨false,a2,a3,a4,aq,a5,a6,ar,ao,hm,aa,af,ad,ag,ah,ae,d8,ai,am,an,ak,aj⟩⟩,hrec,hmk⟩
        refine X7<|Uk (col:=a1) (by kernel_rfl) (by kernel_rfl)<|go ?_;refine qF ⟨_,_,rfl⟩ ?_;refine qW (fun _ hC=>((ae.atN).nth (q:=2) rfl).gr (hC.bl a1)) ?_;refine go ?_;obtain ⟨ie,d9,hm⟩:=bZ hm;refine qI d9 (ad.addr d9) ?_;obtain ⟨_,gh,gi⟩:=ad.atN d9;obtain ⟨⟨ig,ih,rfl,ii⟩,_⟩:=gh;refine qW (fun _ hC=>gi.one.gr (hC.bl a1)) ?_;refine go ?_;obtain ⟨ij,ea,hm⟩:=bZ hm;refine qI ea (a7.addr ea)<|qW (fun _ hC=>(a7.gr (hC.bl a1)).atInt ea) ?_;refine go ?_;refine Wt ?_;intro ik hC;replace hC:=hC.bl a1;refine go ?_;replace af:=af.gr hC;replace ad:=ad.gr hC;replace ag:=ag.gr hC;replace ah:=ah.gr hC;replace au:=au.gr hC;replace av:=av.gr hC;replace am:=am.gr hC;replace an:=an.gr hC;replace a7:=a7.gr hC;replace ae:=ae.gr hC;replace aw:=aw.gr hC;replace ac:=ac.gr hC;replace ai:=ai.gr hC;replace ak:=ak.gr hC;replace aj:=aj.gr hC;replace hrec:=hrec.gr hC;replace hmk:=hmk.gr hC;replace hki:=hki.gr hC;replace aa:=aa.grow hC;exact ⟨c2,by omega,rfl,⟨_,_,_,_,_,rfl,hm,aa,af,ad,ag,ah,ae,au,av,aw,ac,ai,am,an,ak,aj,a7,hrec,hmk,hki,rfl⟩⟩
       refine Uk (col:=ax) (by kernel_rfl) (by kernel_rfl)<|go ?_;obtain ⟨gj,c8,hm⟩:=bZ hm;refine qI c8 (a7.addr c8)<|qW (fun _ hC=>(a7.gr (hC.bl ax)).atInt c8) ?_;refine go ?_;refine X5 hm (fun eb hm=>go ?_) fun eb hm=>go ?_
       ·refine qv (v:=(.bool true)) rfl (fun _ hC=>Xq (congrArg Value.bool eb) rfl) ?_;refine Wt ?_;intro il hC;replace hC:=hC.bl ax;replace af:=af.gr hC;replace ad:=ad.gr hC;replace ag:=ag.gr hC;replace ah:=ah.gr hC;replace au:=au.gr hC;replace av:=av.gr hC;replace am:=am.gr hC;replace an:=an.gr hC;replace a7:=a7.gr hC;replace ae:=ae.gr hC;replace aw:=aw.gr hC;replace ac:=ac.gr hC;replace ai:=ai.gr hC;replace ak:=ak.gr hC;replace aj:=aj.gr hC;replace hrec:=hrec.gr hC;replace hmk:=hmk.gr hC;replace hki:=hki.gr hC;replace aa:=aa.grow hC;exact ⟨rfl,_,_,hm,aa,af,ad,ag,ah,ae,au,av,aw,ac,ai,am,an,ak,aj,a7,hrec,hmk,hki,rfl⟩
       refine qI c8 (a7.addr c8) ?_;refine go ?_;refine qW (fun _ hC=>(a7.gr (hC.bl ax)).atInt c8) ?_;refine go ?_;refine qF ⟨_,_,rfl⟩ ?_;refine go ?_;refine qW (fun _ hC=>((ae.atN).nth (q:=2) rfl).gr (hC.bl ax)) ?_;refine go ?_;obtain ⟨gk,ec,hm⟩:=bZ hm;refine qI ec (ad.addr ec) ?_;refine go ?_;obtain ⟨_,gl,gm⟩:=ad.atN ec;obtain ⟨⟨im,io,rfl,ip⟩,_⟩:=gl;refine qW (fun _ hC=>gm.one.gr (hC.bl ax)) ?_;refine go ?_;refine qv (v:=(.bool (decide ((gk.length:Int)≤gj)))) rfl (fun _ hC=>Xk (congrArg Value.bool eb) rfl) ?_;refine Wt ?_;intro iq hC;replace hC:=hC.bl ax;replace af:=af.gr hC;replace ad:=ad.gr hC;replace ag:=ag.gr hC;replace ah:=ah.gr hC;replace au:=au.gr hC;replace av:=av.gr hC;replace am:=am.gr hC;replace an:=an.gr hC;replace a7:=a7.gr hC;replace ae:=ae.gr hC;replace aw:=aw.gr hC;replace ac:=ac.gr hC;replace ai:=ai.gr hC;replace ak:=ak.gr hC;replace aj:=aj.gr hC;replace hrec:=hrec.gr hC;replace hmk:=hmk.gr hC;replace hki:=hki.gr hC;replace aa:=aa.grow hC;exact ⟨rfl,_,_,hm,aa,af,ad,ag,ah,ae,au,av,aw,ac,ai,am,an,ak,aj,a7,hrec,hmk,hki,rfl⟩
      refine lV _ (Xi isAgg27 sizeOf27 ae)<|Yu rfl ?_;obtain ⟨c0,gp,hm⟩:=bZ hm;refine Zg (Zny 12 13 gp (af.froz 8) (ad.froz 8) (ag.froz 8) (ah.froz 8) (a7.toSlF (Zj.int .i64))) ?_;rintro _ ir ⟨gs,e5,e6,e7,e8,rfl,a9,de,df⟩;refine ⟨_,rfl,?_⟩;replace de:=de.thaw (Zx .u32) a9 ((Fz.refl (col:=ax)).froz 8) (by decide);replace df:=df.thaw (Zx .u32) a9 ((Fz.refl (col:=ax)).froz 8) (by decide);replace a9:=a9.thawR (col:=ax);generalize Z6 bb.heap.size ax gs=gt at *;refine lM (.tuple #[(.agg #[.bool c0.1.1.1,.slice e5 c0.1.1.2.length e6,.slice e7 c0.1.2.length e8]),.int .i64 c0.2])<|lV (.agg #[.bool c0.1.1.1,.slice e5 c0.1.1.2.length e6,.slice e7 c0.1.2.length e8]) (Xh rfl rfl)<|lV (.int .i64 c0.2) (Xh rfl rfl)<|Xo (col:=gt) #[.bool false,.slice none (([]:List Int).length) 0,.slice none (([]:List Int).length) 0] 14 zeroValue47 ?_;intro it iu ds be gu;refine Z4 gu ?_;intro gv bf e9 gw;refine Yk rfl<|Zl<|Zu<|Zu ?_;replace af:=((af.gr a9).gr be).kp bf;replace ad:=((ad.gr a9).gr be).kp bf;replace ag:=((ag.gr a9).gr be).kp bf;replace ah:=((ah.gr a9).gr be).kp bf;replace au:=((au.gr a9).gr be).kp bf;replace av:=((av.gr a9).gr be).kp bf;replace am:=((am.gr a9).gr be).kp bf;replace an:=((an.gr a9).gr be).kp bf;replace ae:=((ae.gr a9).gr be).kp bf;replace aw:=((aw.gr a9).gr be).kp bf;replace ac:=((ac.gr a9).gr be).kp bf;replace ai:=((ai.gr a9).gr be).kp bf;replace ak:=((ak.gr a9).gr be).kp bf;replace aj:=((aj.gr a9).gr be).kp bf;replace hrec:=((hrec.gr a9).gr be).kp bf;replace hmk:=((hmk.gr a9).gr be).kp bf;replace hki:=((hki.gr a9).gr be).kp bf e9 rfl;replace aa:=((aa.grow a9).grow be).kp bf e9;replace de:=(de.gr be).kp bf;replace df:=(df.gr be).kp bf
      refine Wp.cutK [1,10,2,3,4,6,7,1000000] (fun f bg=>∃ a8 ed,Zb7 N a2 aq ar ao (Uc N ab bz az dn) ay cz ed=some r∧St w0 (Zi col) a8 bg∧Sl Za.str a8 bg bj bk ab.2.1∧Sl (Za.slice Za.str) a8 bg bm bn ab.2.2.1∧Sl (Za.slice (Za.int .i64)) a8 bg bo bp ab.2.2.2.1∧Sl (Za.slice (Za.pair (Za.pair Za.bool (Za.slice (Za.int .u32))) (Za.slice (Za.int .u32)))) a8 bg bq br ab.2.2.2.2∧Zh 27 1 a8 bg cq #[.string ab.1,.slice bj ab.2.1.length bk,.slice bm ab.2.2.1.length bn,.slice bo ab.2.2.2.1.length bp,.slice bq ab.2.2.2.2.length br]∧Sl (Za.int .u32) a8 bg cv cw ay.2.1.2∧Sl (Za.int .u32) a8 bg cx cy ay.2.2∧Zh 47 11 a8 bg dp #[.bool ay.2.1.1,.slice cv ay.2.1.2.length cw,.slice cx ay.2.2.length cy]∧Zh 4 2 a8 bg bw #[.bool cz]∧Zh 3 3 a8 bg cd #[.int .i64 az]∧Zc (Za.int .u32) 79 4 a8 bg a3 a4 aq∧Zc (Za.int .u32) 79 5 a8 bg a5 a6 ar∧Zh 47 6 a8 bg c7 #[.bool a2,.slice a3 aq.length a4,.slice a5 ar.length a6]∧Zh 3 7 a8 bg cj #[.int .i64 ao]∧Yq 498 a8 bg dl dq∧Xw 499 a8 bg dm∧Zt (pC 2) al ap a8 bg∧[118].map f=[.bool ed]) ?_ ?_
      ·intro f bg hJ;obtain ⟨a8,ed,hm,aa,af,ad,ag,ah,ae,au,av,aw,ac,ai,am,an,ak,aj,hrec,hmk,hki,hs⟩:=hJ;rw [Zb7.eq_1] at hm;refine .lL [118] hs ?_;refine Zo hm (fun hb hm=>go ?_) fun hb hm=>go ?_
       ·refine Wy (v:=(.bool false)) ac sizeOf4 rfl rfl (by intro u hu;simp only [Value.cells,List.mem_cons,List.not_mem_nil,or_false] at hu;subst hu;rfl) rfl rfl ?_;intro gx b3 fa ee;replace ee:Zh 4 2 a8 gx bw #[.bool false]:=ee;refine go ?_;replace af:=af.kp b3;replace ad:=ad.kp b3;replace ag:=ag.kp b3;replace ah:=ah.kp b3;replace am:=am.kp b3;replace an:=an.kp b3;replace ae:=ae.kp b3;replace ai:=ai.kp b3;replace ak:=ak.kp b3;replace aj:=aj.kp b3;replace hrec:=hrec.kp b3;replace hmk:=hmk.kp b3;replace hki:=hki.kp b3 fa rfl;replace aa:=aa.kp b3 fa;exact ⟨_,hki,⟨rfl,⟨false,a2,a3,a4,aq,a5,a6,ar,ao,hm,aa,af,ad,ag,ah,ae,ee,ai,am,an,ak,aj⟩⟩,hrec,hmk⟩
       refine lV _ (Xi isAgg47 sizeOf47 ak)<|lV _ (Xi isAgg47 sizeOf47 aw) ?_;obtain ⟨ef,gy,hm⟩:=bZ hm;refine Zg (Zfp 15 16 gy ((am.toSlF (Zj.int .u32)).froz 5) ((an.froz 4 (by decide)).toSlF (Zj.int .u32)) ((au.froz 4).froz 5) ((av.froz 4).froz 5)) ?_;rintro _ iv ⟨gz,g0,g1,g2,g3,rfl,bx,ck,cl⟩;refine ⟨_,rfl,?_⟩;replace ck:=ck.thaw (Zx .u32) bx (((Fz.refl (col:=a8)).froz 4).froz 5) (by decide);replace cl:=cl.thaw (Zx .u32) bx (((Fz.refl (col:=a8)).froz 4).froz 5) (by decide);replace bx:=bx.thawR (col:=a8);generalize Z6 bg.heap.size a8 gz=g4 at *;replace ak:=ak.gr bx;refine Z4 ak ?_;intro iw b4 fb c3;refine go ?_;replace aj:=(aj.gr bx).kp b4;refine lW aj.at1<|go ?_;refine Wy (v:=(.int .i64 (i64.wrap (ao+1)))) aj sizeOf3 rfl rfl (by intro u hu;simp only [Value.cells,List.mem_cons,List.not_mem_nil,or_false] at hu;subst hu;rfl) rfl rfl ?_;intro g5 b5 fc c4;replace c4:Zh 3 7 g4 g5 cj #[.int .i64 (i64.wrap (ao+1))]:=c4;refine Zl ?_;replace af:=((af.gr bx).kp b4).kp b5;replace af:=af.recol 15 4 (by decide);replace ad:=((ad.gr bx).kp b4).kp b5;replace ad:=ad.recol 15 4 (by decide);replace ag:=((ag.gr bx).kp b4).kp b5;replace ag:=ag.recol 15 4 (by decide);replace ah:=((ah.gr bx).kp b4).kp b5;replace ah:=ah.recol 15 4 (by decide);replace ck:=(ck.kp b4).kp b5;replace ck:=ck.recolSelf 4 (by decide);replace cl:=(cl.kp b4).kp b5;replace cl:=cl.recol 15 4 (by decide);replace ae:=((ae.gr bx).kp b4).kp b5;replace ae:=ae.recol 15 4 (by decide);replace ac:=((ac.gr bx).kp b4).kp b5;replace ac:=ac.recol 15 4 (by decide);replace ai:=((ai.gr bx).kp b4).kp b5;replace ai:=ai.recol 15 4 (by decide);replace c3:=c3.kp b5;replace c3:=c3.recol 15 4 (by decide);replace c4:=c4.recol 15 4 (by decide);replace hrec:=((hrec.gr bx).kp b4).kp b5;replace hrec:=hrec.recol 15 4 (by decide);replace hmk:=((hmk.gr bx).kp b4).kp b5;replace hmk:=hmk.recol 15 4 (by decide);replace hki:=((hki.gr bx).kp b4 fb rfl).kp b5 fc rfl;replace hki:=hki.recol 15 4 rfl;replace aa:=((aa.grow bx).kp b4 fb).kp b5 fc;replace aa:=aa.recol 15 4 (by decide) (by decide);replace af:=af.recol 16 5 (by decide)
       replace ad:=ad.recol 16 5 (by decide);replace ag:=ag.recol 16 5 (by decide);replace ah:=ah.recol 16 5 (by decide);replace ck:=ck.recol 16 5 (by decide);replace cl:=cl.recolSelf 5 (by decide);replace ae:=ae.recol 16 5 (by decide);replace ac:=ac.recol 16 5 (by decide);replace ai:=ai.recol 16 5 (by decide);replace c3:=c3.recol 16 5 (by decide);replace c4:=c4.recol 16 5 (by decide);replace hrec:=hrec.recol 16 5 (by decide);replace hmk:=hmk.recol 16 5 (by decide);replace hki:=hki.recol 16 5 rfl;replace aa:=aa.recol 16 5 (by decide) (by decide);exact ⟨_,hki,⟨cz,ef.1.1,g0,g1,ef.1.2,g2,g3,ef.2,(i64.wrap (ao+1)),hm,aa,af,ad,ag,ah,ae,ac,ai,ck,cl,c3,c4⟩,hrec,hmk⟩
      refine go ?_;refine X5 hm (fun eg hm=>go ?_) fun eg hm=>go ?_
      ·refine lV (.bool true) (Xq (congrArg Value.bool eg) rfl)<|Y0 rfl<|lP 108 rfl rfl<|lP 108 rfl rfl<|lP 108 rfl rfl<|lP 108 rfl rfl<|lV (.bool true) (Xq rfl rfl)<|Y0 rfl<|lP 114 rfl rfl<|lP 114 rfl rfl<|lP 114 rfl rfl<|lV (.bool true) (Xq rfl rfl)<|Zl ?_;exact ⟨rfl,_,_,hm,aa,af,ad,ag,ah,ae,au,av,aw,ac,ai,am,an,ak,aj,hrec,hmk,hki,rfl⟩
      refine lW aj.at1<|go ?_;refine lV (.bool (!decide (dd=ao))) (Xk (congrArg Value.bool eg) rfl)<|Y0 rfl ?_;refine X5 hm (fun eh hm=>go ?_) fun eh hm=>go ?_
      ·refine lV (.bool true) (Xq (congrArg Value.bool eh) rfl)<|Y0 rfl<|lP 114 rfl rfl<|lP 114 rfl rfl<|lP 114 rfl rfl<|lV (.bool true) (Xq rfl rfl)<|Zl ?_;exact ⟨rfl,_,_,hm,aa,af,ad,ag,ah,ae,au,av,aw,ac,ai,am,an,ak,aj,hrec,hmk,hki,rfl⟩
      refine lV _ (Xi isAgg47 sizeOf47 gw)<|go ?_;refine lV _ (Xi isAgg47 sizeOf47 aw)<|go ?_;obtain ⟨g6,g7,hm⟩:=bZ hm;refine Zg (Zic g7 ((de.toSlF (Zj.int .u32)).froz 13) ((df.froz 12 (by decide)).toSlF (Zj.int .u32)) ((au.froz 12).froz 13) ((av.froz 12).froz 13)) ?_;rintro _ fd ⟨rfl,bh⟩;refine ⟨_,rfl,?_⟩;replace bh:Zf ds gv ds fd:=.of_below bh;refine go ?_;refine lV (.bool (!decide (g6=0))) (Xk (congrArg Value.bool eh) rfl)<|Y0 rfl ?_;replace af:=af.gr bh;replace ad:=ad.gr bh;replace ag:=ag.gr bh;replace ah:=ah.gr bh;replace au:=au.gr bh;replace av:=av.gr bh;replace am:=am.gr bh;replace an:=an.gr bh;replace ae:=ae.gr bh;replace aw:=aw.gr bh;replace ac:=ac.gr bh;replace ai:=ai.gr bh;replace ak:=ak.gr bh;replace aj:=aj.gr bh;replace hrec:=hrec.gr bh;replace hmk:=hmk.gr bh;replace hki:=hki.gr bh;replace aa:=aa.grow bh;refine X5 hm (fun ei hm=>go ?_) fun ei hm=>go ?_
      ·refine lV (.bool true) (Xq (congrArg Value.bool ei) rfl)<|Zl ?_;exact ⟨rfl,_,_,hm,aa,af,ad,ag,ah,ae,au,av,aw,ac,ai,am,an,ak,aj,hrec,hmk,hki,rfl⟩
      refine lV _ (Xi isAgg47 sizeOf47 aw)<|go ?_;obtain ⟨g8,g9,hm⟩:=bZ hm;refine Zg (Zks g9 au av) ?_;rintro _ ha ⟨rfl,bi⟩;refine ⟨_,rfl,?_⟩;replace bi:Zf ds fd ds ha:=.of_below bi;refine go ?_;refine lV (.bool (decide (g8<0))) (Xk (congrArg Value.bool ei) rfl)<|Zl ?_;replace af:=af.gr bi;replace ad:=ad.gr bi;replace ag:=ag.gr bi;replace ah:=ah.gr bi;replace au:=au.gr bi;replace av:=av.gr bi;replace am:=am.gr bi;replace an:=an.gr bi;replace ae:=ae.gr bi;replace aw:=aw.gr bi;replace ac:=ac.gr bi;replace ai:=ai.gr bi;replace ak:=ak.gr bi;replace aj:=aj.gr bi;replace hrec:=hrec.gr bi;replace hmk:=hmk.gr bi;replace hki:=hki.gr bi;replace aa:=aa.grow bi;exact ⟨rfl,_,_,hm,aa,af,ad,ag,ah,ae,au,av,aw,ac,ai,am,an,ak,aj,hrec,hmk,hki,rfl⟩
    refine go ?_;refine Xu ae ?_;refine go ?_;refine X5 hm (fun ej hm=>go ?_) fun ej hm=>go ?_
    ·refine lV (.bool true) (Xq (congrArg Value.bool ej) rfl)<|Zl ?_;exact ⟨rfl,_,_,hm,aa,af,ad,ag,ah,ae,au,av,aw,ac,ai,am,an,ak,aj,a7,hrec,hmk,hki,rfl⟩
    refine lW aj.at1<|go ?_;refine lW ai.at1<|go ?_;refine lV (.bool (decide (az≤ao))) (Xk (congrArg Value.bool ej) rfl)<|Zl ?_;exact ⟨rfl,_,_,hm,aa,af,ad,ag,ah,ae,au,av,aw,ac,ai,am,an,ak,aj,a7,hrec,hmk,hki,rfl⟩
   ·intro fe al ap hJ hmk;obtain ⟨b0,a2,a3,a4,aq,a5,a6,ar,ao,hm,aa,af,ad,ag,ah,ae,ac,ai,am,an,ak,aj⟩:=hJ;rw [Uc.eq_1] at hm;refine Zu ?_;refine Wp.cutK [2,1000000] (fun f dt=>∃ du ek,Zf6 ek=some r∧St w0 (Zi col) du dt∧Zh 4 2 du dt bw #[.bool ek]∧Xw 499 du dt (fe :: [])) ?_ ?_
    ·intro f dt hJ;obtain ⟨du,ek,hm,aa,ac,hmk⟩:=hJ;rw [Zf6.eq_1] at hm;refine W0 ?_;cases hm;refine ⟨_,(fe :: []),rfl,hmk,?_⟩;intro ix ff hc;replace ac:=ac.kp ff;replace aa:=aa.kp ff hc;exact ⟨_,Zhr rfl rfl isAgg4 rfl ac.at1,rfl,aa.below⟩
    refine Wi (col:=al) [(0,1),(1,1),(2,0),(3,0),(4,1),(5,1),(6,1),(7,0),(8,3),(9,3),(10,1),(11,1),(12,2)] (by kernel_rfl) (by kernel_rfl)<|xu rfl rfl (fun _=>Zhm rfl) ?_;refine xu rfl rfl (fun _=>Zhm rfl) ?_;refine X5 hm (fun cn hm=>?_) fun cn hm=>?_
    ·refine Zkj (v:=(.int .i64 ao)) (b:=bz) 125 rfl rfl rfl rfl rfl (by rw [cn];rfl) (fun _ hC=>Zfa isAgg3 rfl (aj.at1.gr (hC.bl al))) ?_;refine Zkj (v:=(.int .i64 az)) (b:=bz) 125 rfl rfl rfl rfl rfl (by rw [cn];rfl) (fun _ hC=>Zfa isAgg3 rfl (ai.at1.gr (hC.bl al))) ?_;refine Znh (v:=(.bool (decide (ao=az)))) (b:=bz) 125 rfl rfl rfl rfl rfl (by rw [cn];rfl) (fun _=>Zj7 ao az rfl rfl) ?_;refine xu (v:=(.bool (decide (ao=az)))) rfl rfl (fun _=>Xq (congrArg Value.bool cn) rfl) ?_;refine xu rfl rfl (fun _=>Zhm rfl) ?_;refine X5 hm (fun co hm=>?_) fun co hm=>?_
     ·refine Zkj (v:=(.agg #[.bool a2,.slice a3 aq.length a4,.slice a5 ar.length a6])) (b:=decide (ao=az)) 130 rfl rfl rfl rfl rfl (by rw [co];rfl) (fun _ hC=>Wv isAgg47 sizeOf47 rfl rfl (ak.atN.gr (hC.bl al))) ?_;refine xe rfl rfl ?_;intro iy hC0;have hC:=hC0.bl al;refine go ?_;obtain ⟨iz,hd,hm⟩:=bZ hm;refine Zg (Zvk (col:=al) 9 10 hd) ?_;rintro _ i0 ⟨cp,i1,i2,i3,i4,rfl,c9,el,em⟩;refine ⟨_,rfl,?_⟩;refine Zl<|X3 cp hC0 c9<|xe rfl rfl ?_;intro he hC0;replace am:=(am.gr hC).gr c9;replace an:=(an.gr hC).gr c9;replace ac:=(ac.gr hC).gr c9;replace hmk:=(hmk.gr hC).gr c9;replace aa:=(aa.grow hC).grow c9;have hC:=hC0.bl cp;refine go ?_;obtain ⟨dg,hf,hm⟩:=bZ hm;replace am:=am.gr hC;replace an:=an.gr hC;replace el:=el.gr hC;replace em:=em.gr hC;refine Zg (Zic hf ((((am.toSlF (Zj.int .u32)).froz 5).froz 9).froz 10) ((((an.froz 4 (by decide)).toSlF (Zj.int .u32)).froz 9).froz 10) ((((el.froz 4 (by decide)).froz 5 (by decide)).toSlF (Zj.int .u32)).froz 10) ((((em.froz 4 (by decide)).froz 5 (by decide)).froz 9 (by decide)).toSlF (Zj.int .u32))) ?_;rintro _ hg ⟨rfl,da⟩;refine ⟨_,rfl,?_⟩;replace da:Zf cp he cp hg:=.of_below da;refine Zl<|X3 cp hC0 da<|Znh (v:=(.bool (decide (dg=0)))) (b:=decide (ao=az)) 130 rfl rfl rfl rfl rfl (by rw [co];rfl) (fun _=>Zj7 dg 0 rfl rfl) ?_;refine xu (v:=(.bool (decide (dg=0)))) rfl rfl (fun _=>Xq (congrArg Value.bool co) rfl) ?_;refine xe rfl rfl ?_;intro i5 hC0;replace ac:=(ac.gr hC).gr da;replace hmk:=(hmk.gr hC).gr da;replace aa:=(aa.grow hC).grow da;have hC:=hC0.bl cp;replace ac:=ac.gr hC;refine Wy (v:=(.bool (decide (dg=0)))) ac sizeOf4 rfl rfl (by intro u hu;simp only [Value.cells,List.mem_cons,List.not_mem_nil,or_false] at hu;subst hu;rfl) rfl rfl ?_;intro hh fg hi dh;replace dh:Zh 4 2 cp hh bw #[.bool (decide (dg=0))]:=dh;refine Zl<|xk cp<|Y5 ?_;replace hmk:=(hmk.gr hC).kp fg;replace aa:=(aa.grow hC).kp fg hi;intro i6 hC;replace hC:=hC.bl cp;replace dh:=dh.gr hC;replace hmk:=hmk.gr hC;replace aa:=aa.grow hC;exact ⟨rfl,_,_,hm,aa,dh,hmk⟩
     refine Ul (b:=decide (ao=az)) 130 rfl rfl rfl rfl rfl (by rw [co];rfl)<|Ul (b:=decide (ao=az)) 130 rfl rfl rfl rfl rfl (by rw [co];rfl)<|Ul (b:=decide (ao=az)) 130 rfl rfl rfl rfl rfl (by rw [co];rfl)<|Ul (b:=decide (ao=az)) 130 rfl rfl rfl rfl rfl (by rw [co];rfl)<|xu (v:=(.bool false)) rfl rfl (fun _=>Xk (congrArg Value.bool co) rfl) ?_;refine xe rfl rfl ?_;intro i7 hC0;have hC:=hC0.bl al;replace ac:=ac.gr hC;refine Wy (v:=(.bool false)) ac sizeOf4 rfl rfl (by intro u hu;simp only [Value.cells,List.mem_cons,List.not_mem_nil,or_false] at hu;subst hu;rfl) rfl rfl ?_;intro hj fh hl di;replace di:Zh 4 2 al hj bw #[.bool false]:=di;refine Zl<|xk al<|Y5 ?_;replace hmk:=(hmk.gr hC).kp fh;replace aa:=(aa.grow hC).kp fh hl;intro i8 hC;replace hC:=hC.bl al;replace di:=di.gr hC;replace hmk:=hmk.gr hC;replace aa:=aa.grow hC;exact ⟨rfl,_,_,hm,aa,di,hmk⟩
    refine Ul (b:=bz) 125 rfl rfl rfl rfl rfl (by rw [cn];rfl)<|Ul (b:=bz) 125 rfl rfl rfl rfl rfl (by rw [cn];rfl)<|Ul (b:=bz) 125 rfl rfl rfl rfl rfl (by rw [cn];rfl)<|xu (v:=(.bool false)) rfl rfl (fun _=>Xk (congrArg Value.bool cn) rfl) ?_;refine xu rfl rfl (fun _=>Zhm rfl) ?_;refine Ul (b:=false) 130 rfl rfl rfl rfl rfl rfl<|Ul (b:=false) 130 rfl rfl rfl rfl rfl rfl<|Ul (b:=false) 130 rfl rfl rfl rfl rfl rfl<|Ul (b:=false) 130 rfl rfl rfl rfl rfl rfl<|xu (v:=(.bool false)) rfl rfl (fun _=>Xk rfl rfl) ?_;refine xe rfl rfl ?_;intro i9 hC0;have hC:=hC0.bl al;replace ac:=ac.gr hC;refine Wy (v:=(.bool false)) ac sizeOf4 rfl rfl (by intro u hu;simp only [Value.cells,List.mem_cons,List.not_mem_nil,or_false] at hu;subst hu;rfl) rfl rfl ?_;intro ho fi hp dj;replace dj:Zh 4 2 al ho bw #[.bool false]:=dj;refine Zl<|xk al<|Y5 ?_;replace hmk:=(hmk.gr hC).kp fi;replace aa:=(aa.grow hC).kp fi hp;intro ja hC;replace hC:=hC.bl al;replace dj:=dj.gr hC;replace hmk:=hmk.gr hC;replace aa:=aa.grow hC;exact ⟨rfl,_,_,hm,aa,dj,hmk⟩
   intro c_ hq al ap hX hmk;obtain ⟨rfl,hX⟩:=hX;obtain ⟨b0,a2,a3,a4,aq,a5,a6,ar,ao,hm,aa,af,ad,ag,ah,ae,ac,ai,am,an,ak,aj⟩:=hX;rw [Zf9.eq_1] at hm;refine W0 ?_;cases hm;refine ⟨_,(hq :: []),rfl,hmk,?_⟩;intro jb fj hr;replace ac:=ac.kp fj;replace aa:=aa.kp fj hr;exact ⟨_,Zhr rfl rfl isAgg4 rfl ac.at1,rfl,aa.below⟩
 refine Wn<|lV _ (Xi isAgg27 sizeOf27 ae) ?_;obtain ⟨jc,ht,hm⟩:=bZ hm;refine Zg (Zkw ht af ad ag ah) ?_;rintro _ fk ⟨rfl,cf⟩;refine ⟨_,rfl,?_⟩;replace cf:Zf cr ep cr fk:=.of_below cf;refine go ?_;replace af:=af.gr cf;replace ad:=ad.gr cf;replace ag:=ag.gr cf;replace ah:=ah.gr cf;replace ae:=ae.gr cf;replace ac:=ac.gr cf;replace hmk:=hmk.gr cf;replace aa:=aa.grow cf;refine X5 hm (fun en hm=>go ?_) fun en hm=>go ?_
 ·refine lV (.bool true) (Xq (congrArg Value.bool en) rfl)<|Zl ?_;exact ⟨rfl,_,_,hm,aa,af,ad,ag,ah,ae,ac,hmk,rfl⟩
 refine lV _ (Xi isAgg27 sizeOf27 ae)<|go ?_;obtain ⟨hv,hw,hm⟩:=bZ hm;refine Zg (Zvj hw af ad ag ah) ?_;rintro _ hx ⟨rfl,cg⟩;refine ⟨_,rfl,?_⟩;replace cg:Zf cr fk cr hx:=.of_below cg;refine lV (.bool hv) (Xk (congrArg Value.bool en) rfl)<|Zl ?_;replace af:=af.gr cg;replace ad:=ad.gr cg;replace ag:=ag.gr cg;replace ah:=ah.gr cg;replace ae:=ae.gr cg;replace ac:=ac.gr cg;replace hmk:=hmk.gr cg;replace aa:=aa.grow cg;exact ⟨rfl,_,_,hm,aa,af,ad,ag,ah,ae,ac,hmk,rfl⟩
/-! a common denominator -/
def Th:List (List QV)→Nat
 | []=>1
 | t :: T=>Uy t * Th T
theorem Zox:∀ T:List (List QV),Th T≠0
 | []=>by simp [Th]
 | t :: T=>Nat.mul_ne_zero (Zio t) (Zox T)
theorem Zow {W:Nat}:∀ T:List (List QV),(∀ t ∈ T,Xx t≤W∧∀ x ∈ t,W5 x)→(Ze (Th T)).length≤T.length * (W+1)+1
 | [],_=>by rw [Th,Sz];simp
 | t :: T,h=>by
  obtain ⟨h1,h2⟩:=h t List.mem_cons_self
  have h3:=Zo8 t h2
  have h4:=Zow T fun u hu=>h u (List.mem_cons_of_mem _ hu)
  have h5:=Tj (Uy t) (Th T)
  rw [Th,List.length_cons,Nat.add_mul,Nat.one_mul];omega
theorem Zo7 {x:QV}:∀ t:List QV,x ∈ t→∃ E,E≠0∧Uy t=Yr x.2 * E
 | y :: t,h=>by
  rcases List.mem_cons.1 h with rfl | h
  ·exact ⟨Uy t,Zio t,rfl⟩
  ·obtain ⟨E,h1,h2⟩:=Zo7 t h
   exact ⟨Yr y.2 * E,Nat.mul_ne_zero (T6 _) h1,by rw [Uy,h2,Nat.mul_left_comm]⟩
section
variable {N:Nat} {n:Zz} (hf:Ys N n)
include hf
theorem Zr2 {w:List Int} (hw:Wd n w):∀ (T:List (List QV)) (k:Nat) (q:Rat) (D:Nat),n.2.2.2.2.drop k=T→D≠0→Bd D 1 q→Bd (D * Th T) 1 (Yo n w T.length k q)
 | [],k,q,D,_,_,h=>by rw [Th,Nat.mul_one];exact h
 | t :: T,k,q,D,hd,hD,h=>by
  have hk:k<n.2.2.2.2.length:=by
   rcases Nat.lt_or_ge k n.2.2.2.2.length with h | h
   ·exact h
   ·rw [List.drop_eq_nil_of_le h] at hd;cases hd
  have hv:k<n.2.1.length:=by have:=hf.ev.t;omega
  rw [List.drop_eq_getElem_cons hk] at hd
  obtain ⟨e1,e2⟩:=List.cons.inj hd
  have hwk:=hw.ok k (by rw [hw.len];exact hv)
  have hq:(w.getD k 0).toNat<(Yp n w k).length:=by rw [hf.rowT_len hw hv];omega
  have hmem:=Zju (List.getElem_mem hq)
  have hent:=hf.ent hv _ hmem
  rw [Yl hk,e1] at hmem
  obtain ⟨E,h1,h2⟩:=Zo7 t hmem
  have hb:=(Zuz hent.1 hent.2).lift E (T6 _) h1
  rw [← h2] at hb
  have he:ent n w k=Xa (Yp n w k)[(w.getD k 0).toNat]:=by rw [ent,Yl hq]
  have hm:=h.mul hb
  rw [Nat.one_mul,← he] at hm
  have:=Zr2 hw T (k+1) (q * ent n w k) (D * Uy t) e2 (Nat.mul_ne_zero hD (Zio t)) hm
  rw [List.length_cons,Yo,Th,← Nat.mul_assoc]
  exact this
theorem Zzv {w:List Int} (hw:Wd n w):Bd (Th n.2.2.2.2) 1 (Yo n w n.2.1.length 0 1):=by
 have:=Zr2 hf hw n.2.2.2.2 0 1 1 (by rw [List.drop_zero]) (by decide) Bd.one
 rw [hf.ev.t,Nat.one_mul] at this
 exact this
omit hf in
theorem Zty {f:Nat→Rat} {D:Nat} (hD:D≠0):∀ (m k:Nat),(∀ i,k≤i→i<k+m→Bd D 1 (f i))→Bd D m (Xj f k m)
 | 0,k,_=>Bd.zero D 0
 | m+1,k,h=>by
  have h1:=(h k (Nat.le_refl _) (by omega)).add (Zty hD m (k+1) fun i a b=>h i (by omega) (by omega)) hD
  rw [Nat.add_comm] at h1
  exact h1
end
/-! which networks are gone through -/
theorem Zqr {N:Nat} {n:Zz} (hb:∀ t ∈ n.2.2.2.2,t.length≤1048576∧∀ x ∈ t,x.1.2.length≤1048576∧x.2.length≤1048576) (hl:n.2.2.2.2.length≤1048576) (hN:1048577<N):∀ (f i:Nat) (s:Int),0≤s→s≤1048576 * (i:Int)→i≤n.2.2.2.2.length→n.2.2.2.2.length<f+i→∃ r,Zca N n f s (i:Int)=some r
 | 0,i,s,_,_,h1,h2=>by omega
 | f+1,i,s,s1,s2,h1,h2=>by
  rw [Zca.eq_2]
  by_cases hi:i<n.2.2.2.2.length
  ·have ht:=hb _ (List.getElem_mem hi)
   rw [if_pos (decide_eq_true (by omega)),Xb hi,Option.bind_some,Zy (x:=s+_) (by omega),wS (by omega)]
   exact Zqr hb hl hN f (i+1) _ (by omega) (by omega) (by omega) (by omega)
  ·rw [if_neg (by rw [decide_eq_false (by omega)];decide)]
   by_cases h3:3000<s
   ·rw [if_pos (decide_eq_true h3)];exact ⟨_,rfl⟩
   ·rw [if_neg (by rw [decide_eq_false h3];decide)]
    obtain ⟨r,hr⟩:=Zqk (N:=N) hb hl hN N 0 0 (by omega) (by omega) (Nat.zero_le _) (by omega)
    have hr':Zjj N (n.1,n.2.1,n.2.2.1,n.2.2.2.1,n.2.2.2.2)=some r:=hr
    rw [hr',Option.bind_some];exact ⟨_,rfl⟩
theorem Zqq {N W:Nat} {n:Zz} (hf:Ys N n) (hs:W6 n W) (hb:∀ t ∈ n.2.2.2.2,t.length≤1048576∧∀ x ∈ t,x.1.2.length≤1048576∧x.2.length≤1048576) (hN:1048577<N):∀ (f v c:Nat),v≤n.2.1.length→c≤600→n.2.1.length<f+v→∃ r,Zb9 N n f (c:Int) (v:Int)=some r∧(r=false→c * Z7 ((Zv n).drop v)≤600)
 | 0,v,c,h1,h2,h3=>by omega
 | f+1,v,c,h1,h2,h3=>by
  have hv:=hf.ev.v;have hle:=hf.le;have ht:=hf.ev.t
  have hsz:(Zv n).length=n.2.1.length:=by rw [Zv,List.length_map,hv]
  rw [Zb9.eq_2]
  by_cases hk:v<n.2.1.length
  ·have hk1:v<n.2.2.1.length:=by omega
   have hl:=hs.vl _ (List.getElem_mem hk1)
   have hne:=List.length_pos_iff.2 (hf.ev.ne _ (List.getElem_mem hk1))
   have hm:c * n.2.2.1[v].length≤600 * 1048576:=Nat.mul_le_mul h2 hl
   have e0:(if (n.2.2.1[v].length:Int)>1 then (n.2.2.1[v].length:Int) else 1)=(n.2.2.1[v].length:Int):=by
    split <;> omega
   have e:(c:Int) * (n.2.2.1[v].length:Int)=((c * n.2.2.1[v].length:Nat):Int):=(Int.natCast_mul _ _).symm
   have hdr:(Zv n).drop v=n.2.2.1[v].length :: (Zv n).drop (v+1):=by
    rw [List.drop_eq_getElem_cons (by omega)]
    simp only [Zv,List.getElem_map]
   rw [if_pos (decide_eq_true (by omega)),Xb hk1,Option.bind_some,e0,e,Zy (by omega)]
   by_cases h4:600<((c * n.2.2.1[v].length:Nat):Int)
   ·rw [if_pos (decide_eq_true h4)];exact ⟨_,rfl,fun h=>Bool.noConfusion h⟩
   ·rw [if_neg (by rw [decide_eq_false h4];decide),wS (by omega)]
    obtain ⟨r,r1,r2⟩:=Zqq hf hs hb hN f (v+1) (c * n.2.2.1[v].length) (by omega) (by omega) (by omega)
    exact ⟨r,r1,fun h=>by rw [hdr,Z7,← Nat.mul_assoc];exact r2 h⟩
  ·rw [if_neg (by rw [decide_eq_false (by omega)];decide)]
   obtain ⟨r,hr⟩:=Zqr (N:=N) hb (by omega) hN N 0 0 (by omega) (by omega) (Nat.zero_le _) (by omega)
   exact ⟨r,hr,fun _=>by rw [List.drop_eq_nil_of_le (by omega),Z7,Nat.mul_one];exact h2⟩
section
variable {N W K:Nat} {n:Zz} (hf:Ys N n) (hs:W6 n W) (hr:Xm N (8 * K+40)) (hWK:1025 * (W+2)+15≤K) (hN:2199023255552<N) {ord:List Int} (ho:Tb n.2.2.2.1 ord) (hol:ord.length≤1024)
variable (hall:∀ i,i<n.2.1.length→(i:Int) ∈ ord) (hC:Ur N n=some 0) (hP:Z7 (Zv n)≤600)
include hf hs hr hWK hN ho hol hall hC hP
omit hs hr hWK hN ho hol hall hC in
theorem Zp4 (t:QV) (seen:Int) (kk:Bool→Bool→List Int→List Int→Int→Option Bool) (y:List Int×QV) (hy:Zc9 (Zv n) y.1):∀ (f v a:Nat),v≤y.1.length→y.1.length<f+v→a * Z7 ((Zv n).drop v)+Uh ((Zv n).drop v) (y.1.drop v)=Uh (Zv n) y.1→
  U0 N n t.1.1 t.1.2 t.2 seen kk y f (a:Int) (v:Int) false=U0 N n t.1.1 t.1.2 t.2 seen kk y 1 ((Uh (Zv n) y.1:Nat):Int) (y.1.length:Int) false
 | 0,v,a,h1,h2,_=>by omega
 | f+1,v,a,h1,h2,h3=>by
  have hv:=hf.ev.v;have hle:=hf.le
  have hsz:(Zv n).length=n.2.1.length:=by rw [Zv,List.length_map,hv]
  have hiv:=Zim hf hy
  have hlt:=Zr0 _ _ hy
  by_cases hk:v<y.1.length
  ·have hkn:v<n.2.1.length:=by have:=hiv.len;omega
   have hk1:v<n.2.2.1.length:=by omega
   have hok:=hiv.ok v hk
   rw [Yl hk] at hok
   have hdr:(Zv n).drop v=n.2.2.1[v].length :: (Zv n).drop (v+1):=by
    rw [List.drop_eq_getElem_cons (by omega)]
    simp only [Zv,List.getElem_map]
   have hc:cnt n v=n.2.2.1[v].length:=by rw [cnt,Yl hk1]
   rw [hc] at hok
   have hpp:=Zc3 ((Zv n).drop (v+1)) fun s h=>Zbs hf s (List.mem_of_mem_drop h)
   obtain ⟨d,hd⟩:∃ d:Nat,y.1[v]=(d:Int):=⟨(y.1[v]).toNat,by omega⟩
   have h4:(a * n.2.2.1[v].length+d) * Z7 ((Zv n).drop (v+1))+Uh ((Zv n).drop (v+1)) (y.1.drop (v+1))=Uh (Zv n) y.1:=by
    rw [← h3,hdr,List.drop_eq_getElem_cons hk,Z7,Uh,hd,Int.toNat_natCast,Nat.add_mul,Nat.mul_assoc,Nat.add_assoc]
   have h5:a * n.2.2.1[v].length+d≤(a * n.2.2.1[v].length+d) * Z7 ((Zv n).drop (v+1)):=Nat.le_mul_of_pos_right _ hpp
   have e:(a:Int) * (n.2.2.1[v].length:Int)=((a * n.2.2.1[v].length:Nat):Int):=(Int.natCast_mul _ _).symm
   have ih:=Zp4 t seen kk y hy f (v+1) (a * n.2.2.1[v].length+d) (by omega) (by omega) h4
   rw [U0.eq_2,if_pos (decide_eq_true (by omega)),Xb hk,Option.bind_some,if_neg (by rw [decide_eq_false (by omega)];decide),Xb hk1,Option.bind_some,decide_eq_false (by omega),Zf8,if_neg (by decide),Xb hk1,Option.bind_some,Xb hk,Option.bind_some,hd,e,Zy (x:=((a * n.2.2.1[v].length:Nat):Int)) (by omega),Zy (by omega),wS (by omega),← Int.natCast_add]
   exact ih
  ·have hve:v=y.1.length:=by omega
   have ha:a=Uh (Zv n) y.1:=by
    rw [hve,List.drop_length,List.drop_eq_nil_of_le (by have:=hiv.len;omega),Z7,Nat.mul_one] at h3
    have:Uh [] []=0:=rfl
    omega
   rw [hve,ha,U0.eq_2,U0.eq_2,if_neg (by rw [decide_eq_false (by omega)];decide),if_neg (by rw [decide_eq_false (by omega)];decide)]
omit hr hN ho hol hall hC in
theorem Zr4 (m k:Nat) (hmk:k+m≤Z7 (Zv n)):qs (Xj (fun a=>Yo n (X1 (Zv n) a) n.2.1.length 0 1) k m)≤K:=by
 have ht:=hf.ev.t;have hle:=hf.le
 have hD:=Zox n.2.2.2.2
 have h1:=Zty hD m k (f:=fun a=>Yo n (X1 (Zv n) a) n.2.1.length 0 1) fun i _ hi=>Zzv hf (Zim hf (Zil _ _ (Zbs hf) (by omega)))
 have h2:=(h1.up (K:=600) (by omega)).qs hD (by decide)
 have h3:=Tj 600 (Th n.2.2.2.2)
 have h4:=Zow (W:=W) n.2.2.2.2 fun t h=>⟨hs.tq t h,hs.lim t h⟩
 have h5:(Ze 600).length≤1:=Wh.2 (by decide)
 have h6:n.2.2.2.2.length * (W+1)≤1024 * (W+1):=Nat.mul_le_mul_right _ (by omega)
 omega
omit hol in
theorem Zp3:∀ (m k:Nat),k+m=Z7 (Zv n)→Uc N n true (Z7 (Zv n):Int) (Zan n k m) false (Z9 (Xj (fun a=>Yo n (X1 (Zv n) a) n.2.1.length 0 1) 0 k)).1.1 (Z9 (Xj (fun a=>Yo n (X1 (Zv n) a) n.2.1.length 0 1) 0 k)).1.2 (Z9 (Xj (fun a=>Yo n (X1 (Zv n) a) n.2.1.length 0 1) 0 k)).2 (k:Int)=some true
 | 0,k,hk=>by
  have hs1:=Z1b hf ho hall
  rw [Nat.add_zero] at hk
  rw [hk,hs1]
  have fo:Zga N 1 1=some (Z9 1):=by
   have:=Zpk (N:=N) (a:=1) (b:=1) (by omega) (by omega) (hr.mono (by omega))
   rw [if_neg (by decide)] at this
   rw [Zga,this,Option.bind_some]
   have e:(((1:Int):Rat) / ((1:Int):Rat))=1:=div_one _
   rw [e]
  have cm:S7 N (((Z9 1).1.1,(Z9 1).1.2),(Z9 1).2) (((Z9 1).1.1,(Z9 1).1.2),(Z9 1).2)=some 0:=by
   have:=Ziq (N:=N) (Qj (Nat.le_of_eq Zj5)) (Qj (Nat.le_of_eq Zj5)) (hr.mono (by omega))
   rw [Sk] at this
   exact this
  rw [Zan,Uc.eq_1,if_pos rfl,if_pos (decide_eq_true rfl),fo,Option.bind_some,cm,Option.bind_some];rfl
 | m+1,k,hk=>by
  have hle:=hf.le
  have hd:=Zil (Zv n) k (Zbs hf) (by omega)
  have hv:=Zim hf hd
  obtain ⟨p,e,ch,cs⟩:=Zoh hf hs hr (by omega) (by omega) hC (X1 (Zv n) k)
  have hin:(decide ((X1 (Zv n) k).length=n.2.1.length)&&V1 n (X1 (Zv n) k) 0)=true:=Zyd hv
  have hwl:=hv.len
  have hpk:=Zrz (Zv n) k (Zbs hf) (by omega)
  rcases cs with ⟨_,h0⟩ | ⟨he,_,hp⟩
  ·rw [hin] at h0;cases h0
  ·subst he hp
   have ch':Za2 N (n.1,n.2.1,n.2.2.1,n.2.2.2.1,n.2.2.2.2) (X1 (Zv n) k)=some (Z9 (Yo n (X1 (Zv n) k) n.2.1.length 0 1),0):=ch
   have ih:=Zp3 m (k+1) (by omega)
   have q0:=Zr4 hf hs hWK hP k 0 (by omega)
   have q1:=Zr4 hf hs hWK hP 1 k (by omega)
   rw [Xj,Xj,Rat.add_zero] at q1
   have hsum:Xj (fun a=>Yo n (X1 (Zv n) a) n.2.1.length 0 1) 0 (k+1)=Xj (fun a=>Yo n (X1 (Zv n) a) n.2.1.length 0 1) 0 k+Yo n (X1 (Zv n) k) n.2.1.length 0 1:=by
    rw [Zkd,Nat.zero_add,Xj,Xj,Rat.add_zero]
   have h0:0≤Yo n (X1 (Zv n) k) n.2.1.length 0 1:=by
    rw [← Z1a hf ho hv hall]
    have:=(Ztu hf ho hv ord (0,1) (fun _ h=>h) (show (0:Rat)≤1 by decide)).2.1
    rwa [Rat.le_iff_sub_nonneg] at this
   rw [hsum] at ih
   generalize Xj (fun a=>Yo n (X1 (Zv n) a) n.2.1.length 0 1) 0 k=T at *
   have hL3:=Zp4 hf hP (Z9 T) (k:Int) (Uc N n true (Z7 (Zv n):Int) (Zan n (k+1) m)) (X1 (Zv n) k,Z9 (Yo n (X1 (Zv n) k) n.2.1.length 0 1)) hd N 0 0 (Nat.zero_le _) (by simp only;omega) (by rw [List.drop_zero,List.drop_zero,Nat.zero_mul,Nat.zero_add])
   rw [Zan,Uc.eq_2]
   generalize Yo n (X1 (Zv n) k) n.2.1.length 0 1=p at *
   have cm:S7 N (((Z9 p).1.1,(Z9 p).1.2),(Z9 p).2) (((Z9 p).1.1,(Z9 p).1.2),(Z9 p).2)=some 0:=by
    have:=Ziq (N:=N) (Qj q1) (Qj q1) (hr.mono (by omega))
    have z:U6 p p=0:=by rw [U6,if_neg Rat.lt_irrefl,if_neg Rat.lt_irrefl]
    rw [Sk,z] at this
    exact this
   have sn:Qv N (((Z9 p).1.1,(Z9 p).1.2),(Z9 p).2)=some (Zbo p):=by
    have:=Zpn (Qj q1) (N:=N) (hr.mono (by omega))
    rwa [Sk] at this
   have ad:Sa N (((Z9 T).1.1,(Z9 T).1.2),(Z9 T).2) (((Z9 p).1.1,(Z9 p).1.2),(Z9 p).2)=some (Z9 (T+p)):=by
    have:=Zlh (Qj q0) (Qj q1) (hr.mono (by omega))
    rwa [Sk,Sk] at this
   have sg:¬ Zbo p<0:=fun h=>absurd h0 (Rat.not_le.2 (Zzx.1 h))
   dsimp only
   rw [if_neg (show ¬ (!decide (((X1 (Zv n) k).length:Int)=(n.2.1.length:Int)))=true by rw [decide_eq_true (by omega)];decide),decide_eq_false (show ¬ ((Z7 (Zv n):Nat):Int)≤(k:Int) by omega),Zf7,if_neg (by decide)]
   refine Eq.trans hL3 ?_
   rw [U0.eq_2]
   dsimp only
   rw [if_neg (by rw [decide_eq_false (by omega)];decide),ch',Option.bind_some]
   dsimp only
   rw [if_neg (show ¬ (!decide ((0:Int)=0))=true by decide),hpk,if_neg (show ¬ (!decide ((k:Int)=(k:Int)))=true by rw [decide_eq_true rfl];decide),cm,Option.bind_some,if_neg (show ¬ (!decide ((0:Int)=0))=true by decide),sn,Option.bind_some,decide_eq_false sg,Zb7,if_neg (by decide)]
   dsimp only
   rw [ad,Option.bind_some,wS (by omega)]
   exact ih
omit hs hr hWK hN ho hol hall hC in
theorem Zp2 (fin:Option Bool) (hfin:((S8 N ([]:List QV)).bind fun r_70=>(Qx N (n.1,n.2.1,n.2.2.1,n.2.2.2.1,n.2.2.2.2)).bind fun r_99=>Uc N n true ((Z7 (Zv n):Nat):Int) r_99 false r_70.1.1 r_70.1.2 r_70.2 0)=fin):∀ (f v c:Nat),v≤n.2.1.length→n.2.1.length<f+v→c * Z7 ((Zv n).drop v)=Z7 (Zv n)→Zb8 N n true f (c:Int) (v:Int)=fin
 | 0,v,c,h1,h2,_=>by omega
 | f+1,v,c,h1,h2,h3=>by
  have hv:=hf.ev.v;have hle:=hf.le
  have hsz:(Zv n).length=n.2.1.length:=by rw [Zv,List.length_map,hv]
  rw [Zb8.eq_2]
  by_cases hk:v<n.2.1.length
  ·have hk1:v<n.2.2.1.length:=by omega
   have hdr:(Zv n).drop v=n.2.2.1[v].length :: (Zv n).drop (v+1):=by
    rw [List.drop_eq_getElem_cons (by omega)]
    simp only [Zv,List.getElem_map]
   have hpp:=Zc3 ((Zv n).drop (v+1)) fun s h=>Zbs hf s (List.mem_of_mem_drop h)
   rw [hdr,Z7,← Nat.mul_assoc] at h3
   have h5:c * n.2.2.1[v].length≤c * n.2.2.1[v].length * Z7 ((Zv n).drop (v+1)):=Nat.le_mul_of_pos_right _ hpp
   have e:(c:Int) * (n.2.2.1[v].length:Int)=((c * n.2.2.1[v].length:Nat):Int):=(Int.natCast_mul _ _).symm
   rw [if_pos (decide_eq_true (by omega)),Xb hk1,Option.bind_some,e,Zy (by omega),wS (by omega)]
   exact Zp2 fin hfin f (v+1) _ (by omega) (by omega) h3
  ·have hc:c=Z7 (Zv n):=by
    rw [List.drop_eq_nil_of_le (by omega),Z7,Nat.mul_one] at h3
    exact h3
   rw [if_neg (by rw [decide_eq_false (by omega)];decide),hc]
   exact hfin
end
theorem Zut {N W K:Nat} {n:Zz} (hs:W6 n W) (hb:Zh2 n) (hq:∀ t ∈ n.2.2.2.2,Xx (t.map We)≤W) (hr:Xm N (8 * K+40)) (hWK:1025 * (W+2)+15≤K) (hN:2199023255552<N):Zi1 N n=some true:=by
 obtain ⟨e,m1,fine⟩:=Zww hs (hr.mono (s:=8 * W+40) (by omega)) (by omega)
 have m1':Ur N (n.1,n.2.1,n.2.2.1,n.2.2.2.1,n.2.2.2.2)=some e:=m1
 rw [Zi1,Zne,Option.bind_some,m1',Option.bind_some]
 by_cases h0:e=0
 ·have hf:=fine h0
  subst h0
  obtain ⟨r,r1,r2⟩:=Zqq (N:=N) hf hs (fun t ht=>⟨hb.tl t ht,hb.tm t ht⟩) (by omega) N 0 1 (Nat.zero_le _) (by decide) (by have:=hf.le;omega)
  have mn:Zi2 N (n.1,n.2.1,n.2.2.1,n.2.2.2.1,n.2.2.2.2)=some r:=r1
  rw [if_neg (by decide),mn,Option.bind_some,Zd5]
  cases r with
  | true=>rw [if_pos rfl]
  | false=>
   have hP:=r2 rfl
   rw [List.drop_zero,Nat.one_mul] at hP
   obtain ⟨l,o1,o2,o3,o4,o5⟩:=hf.or
   have hp:=hf.ev.p;have hle:=hf.le
   have ho:Tb n.2.2.2.1 l:=Zzo (by omega) hs.pn.ls (by omega) o2 o4
   have hall:∀ i,i<n.2.1.length→(i:Int) ∈ l:=Zzn o4 o5 hp
   have ja:Qx N (n.1,n.2.1,n.2.2.1,n.2.2.2.1,n.2.2.2.2)=some (Zan n 0 (Z7 (Zv n))):=Zyg hf hs hr (by omega) (by omega) hq (show Z7 (Zv n)≤65536 by omega)
   have h2:=Zp3 hf hs hr hWK hN ho hall m1 hP (Z7 (Zv n)) 0 (by omega)
   rw [if_neg (by decide)]
   refine Zp2 hf hP (some true) ?_ N 0 1 (Nat.zero_le _) (by omega) (by rw [List.drop_zero,Nat.one_mul])
   rw [Zx5 (hr.mono (by omega)),Option.bind_some,ja,Option.bind_some]
   exact h2
 ·rw [if_pos (by rw [decide_eq_false h0];rfl),Zd5,if_pos rfl]
theorem Qs {α:Type} {b:α→Nat} (hb:∀ x,1≤b x):∀ (l:List α),l.length+1≤Xs b l
 | []=>by simp [Xs]
 | x :: l=>by
  have h:=Qs hb l
  have:=hb x
  simp only [Xs,List.map_cons,List.sum_cons,List.length_cons] at h ⊢
  omega
theorem Zhf {α:Type} {b:α→Nat} {x:α}:∀ {l:List α},x ∈ l→b x+1≤Xs b l
 | y :: l,h=>by
  simp only [Xs,List.map_cons,List.sum_cons]
  rcases List.mem_cons.1 h with rfl | h
  ·omega
  ·have:=Zhf (b:=b) h
   simp only [Xs] at this
   omega
theorem Zkr {α:Type} {b:α→Nat} (l:List α):1≤Xs b l:=by simp only [Xs];omega
theorem Zh7 (s:ByteArray):1≤Vp s:=by simp only [Vp];omega
theorem Zkp {α:Type} (s:α):1≤Wk s:=by simp only [Wk];omega
theorem Zu2 {α:Type} {b:α→Nat} (s:α):1≤V0 b s:=by simp only [V0];omega
abbrev Ss:QV→Nat:=V0 (Wq (V0 (Wq Wk (Xs Wk))) (Xs Wk))
abbrev qQ:QV→Prop:=U5 (U5 (fun _=>True) (W3 (Zam .u32))) (W3 (Zam .u32))
abbrev Zfl:Zz→Nat:=V0 (Wq Vp (Wq (Xs Vp) (Wq (Xs (Xs Vp)) (Wq (Xs (Xs Wk)) (Xs (Xs Ss))))))
abbrev Zmq:Zz→Prop:=U5 (fun _=>True) (U5 (W3 (fun _=>True)) (U5 (W3 (W3 (fun _=>True))) (U5 (W3 (W3 (Zam .i64))) (W3 (W3 qQ)))))
theorem Zqj {l:List Int} (h:W3 (Zam .u32) l):Zm l:=by
 intro d hd
 have h1:=h d hd
 simp [Zam,Lit.wf,IntKind.min,IntKind.max,IntKind.signed,IntKind.bits] at h1
 omega
theorem Zqi {x:QV} (h:qQ x):W5 x:=⟨Zqj h.1.2,Zqj h.2⟩
theorem Zkq (x:QV):x.1.2.length+x.2.length+4≤Ss x:=by
 have h1:=Qs (b:=Wk) Zkp x.1.2
 have h2:=Qs (b:=Wk) Zkp x.2
 simp only [V0,Wq]
 have h3:Wk x.1.1=1:=rfl
 omega
theorem Zsb:∀ t:List QV,Xx t≤Xs Ss t
 | []=>by rw [Xx];omega
 | x :: t=>by
  have h1:=Zsb t
  have h2:=Zkq x
  rw [Xx]
  simp only [Xs,List.map_cons,List.sum_cons] at h1 ⊢
  omega
theorem Zue:∀ P:List R2,Ui P+P.length≤Xs (Xs Wk) P
 | []=>by simp [Ui,Xs]
 | l :: P=>by
  have h1:=Zue P
  have h2:=Qs (b:=Wk) Zkp l
  rw [Zht,List.length_cons]
  simp only [Xs,List.map_cons,List.sum_cons] at h1 h2 ⊢
  omega
theorem Zze {n:Zz} (hb:Zfl n≤1048576) (hq:Zmq n):W6 n 1048576∧Zh2 n:=by
 have a1:=Zh7 n.1
 have a2:=Qs (b:=Vp) Zh7 n.2.1
 have a3:=Qs (b:=Xs Vp) Zkr n.2.2.1
 have a4:=Zue n.2.2.2.1
 have a5:=Qs (b:=Xs Ss) Zkr n.2.2.2.2
 have a6:=Zkr (b:=Xs Wk) n.2.2.2.1
 simp only [Zfl,V0,Wq] at hb
 have b3:∀ l ∈ n.2.2.1,l.length≤1048576:=fun l hl=>by
  have h1:=Zhf (b:=Xs Vp) hl
  have h2:=Qs (b:=Vp) Zh7 l
  omega
 have b4:∀ l ∈ n.2.2.2.1,l.length≤1048576:=fun l hl=>by
  have h1:=Zke hl
  omega
 have b5:∀ t ∈ n.2.2.2.2,Xs Ss t≤1048576:=fun t ht=>by
  have h1:=Zhf (b:=Xs Ss) ht
  omega
 have b6:∀ t ∈ n.2.2.2.2,t.length≤1048576:=fun t ht=>by
  have h1:=b5 t ht
  have h2:=Qs (b:=Ss) Zu2 t
  omega
 refine ⟨⟨by omega,b3,⟨by omega,by omega⟩,b6,fun t ht=>Nat.le_trans (Zsb t) (b5 t ht),fun t ht x hx=>Zqi (hq.2.2.2.2 t ht x hx)⟩,⟨by omega,by omega,b3,by omega,b4,by omega,b6,fun t ht x hx=>?_⟩⟩
 have h1:=b5 t ht
 have h2:=Zhf (b:=Ss) hx
 have h3:=Zkq x
 omega
theorem Zot:∀ t:List QV,(∀ x ∈ t,W5 x)→Xx (t.map We)≤Xs Ss t
 | [],_=>by rw [List.map_nil,Xx];omega
 | x :: t,h=>by
  have h1:=Zot t fun y hy=>h y (List.mem_cons_of_mem _ hy)
  have h2:=Zkq x
  have hx:=h x List.mem_cons_self
  have h3:=Zsd (Zfd hx.1 hx.2)
  have h4:max (We x).1.2.length (We x).2.length=qs (Xa x):=rfl
  rw [List.map_cons,Xx,h4]
  simp only [Xs,List.map_cons,List.sum_cons] at h1 ⊢
  omega
theorem Zzd {n:Zz} (hb:Zfl n≤1048576) (hq:Zmq n):∀ t ∈ n.2.2.2.2,Xx (t.map We)≤1048576:=fun t ht=>by
 have h1:=Zot t fun x hx=>Zqi (hq.2.2.2.2 t ht x hx)
 have h2:=Zhf (b:=Xs Ss) ht
 have a1:=Zh7 n.1
 simp only [Zfl,V0,Wq] at hb
 omega

end Go.Proofs.YtbmjpjhbankpoaaGreat
