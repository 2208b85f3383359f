/-
  What functions of the program compute, as plain Lean functions (m_..), and proofs that they compute it (c_..). Printed by a program of the author; no conditions.
-/
import Derived.Test.YtlchacnggnhhbaaGreatCodeSideBFloat
import Derived.Test.YtlchacnggnhhbaaGreatProg
import Derived.Test.YtlchacnggnhhbaaGreatCodeSideBBrief
import Derived.Test.YtlchacnggnhhbaaGreatCodeSideBBulk
import Derived.Test.YtlchacnggnhhbaaGreatCodeSideF5
set_option linter.unusedVariables false
set_option maxRecDepth 100000
set_option maxHeartbeats 2000000
namespace Go.Proofs.YtlchacnggnhhbaaGreat
open Go Go.RowKit
open Go.IntKind (i8 i16 i32 i64 u8 u16 u32 u64)
open Go.Proofs.Tryz

def Zdp (N:Nat) (ab:List (R0×R0)):Nat→Bool→R2→R2→Bool→Int→Option Bool
  | 0,_,_,_,_,_=>none
  | ah+1,ae,af,ag,ai,ac=>if (decide (ac<(ab.length:Int)))=true then ((Zn ab ac).bind fun aa=>(Vi N ((aa.1.1.1,aa.1.1.2),aa.1.2) ((ae,af),ag)).bind fun aj=>if (!decide (aj=0))=true then (some false) else ((Zdp N ab ah) aa.2.1.1 aa.2.1.2 aa.2.2 ai (i64.wrap (ac+1)))) else ((Za0 N 1 1).bind fun ad=>(Vi N ((ae,af),ag) ((ad.1.1.1,ad.1.1.2),ad.1.2)).bind fun ak=>some (decide (ak=0)))
termination_by structural x=>x
def Zk2 (aa:Bool) (ab:List (R0×R0)):Option Bool:=
  some aa
def Zdo (ad:Bool) (ac:List (R0×R0)) (kk_L1:(Bool→Rc→Option Bool)) (aa:Re) (ab:Int) (kk_L3:(Int→Option Bool)) (ae:Bool):Option Bool:=
  if ae=true then (kk_L3 (i64.wrap (ab+1))) else (Z0 ((0:Int)≤ab∧ab≤(ac.length:Int)) (Z0 ((([]:List (R0×R0)).length+(ac.take (Int.toNat ab)).length) * 112≤140737488355328∧([]:List (R0×R0)).length+(ac.take (Int.toNat ab)).length≤maxLen) (Z0 (((([]:List (R0×R0))++(ac.take (Int.toNat ab))).length+[(((aa.1.1.1.1,aa.1.1.1.2),aa.1.1.2),((aa.1.2.1.1,aa.1.2.1.2),aa.1.2.2))].length) * 112≤140737488355328∧(([]:List (R0×R0))++(ac.take (Int.toNat ab))).length+[(((aa.1.1.1.1,aa.1.1.1.2),aa.1.1.2),((aa.1.2.1.1,aa.1.2.1.2),aa.1.2.2))].length≤maxLen) (Z0 ((0:Int)≤ab∧ab≤(ac.length:Int)) (Z0 ((((([]:List (R0×R0))++(ac.take (Int.toNat ab)))++[(((aa.1.1.1.1,aa.1.1.1.2),aa.1.1.2),((aa.1.2.1.1,aa.1.2.1.2),aa.1.2.2))]).length+(ac.drop (Int.toNat ab)).length) * 112≤140737488355328∧((([]:List (R0×R0))++(ac.take (Int.toNat ab)))++[(((aa.1.1.1.1,aa.1.1.1.2),aa.1.1.2),((aa.1.2.1.1,aa.1.2.1.2),aa.1.2.2))]).length+(ac.drop (Int.toNat ab)).length≤maxLen) (kk_L1 ad (((([]:List (R0×R0))++(ac.take (Int.toNat ab)))++[(((aa.1.1.1.1,aa.1.1.1.2),aa.1.1.2),((aa.1.2.1.1,aa.1.2.1.2),aa.1.2.2))])++(ac.drop (Int.toNat ab)))))))))
def Za2 (N:Nat) (ac:Bool) (ab:List (R0×R0)) (kk_L1:(Bool→Rc→Option Bool)) (aa:Re):Nat→Int→Option Bool
  | 0,_=>none
  | af+1,ad=>if (decide (ad<(ab.length:Int)))=true then ((Zn ab ad).bind fun ae=>(Vi N ((ae.1.1.1,ae.1.1.2),ae.1.2) ((aa.1.1.1.1,aa.1.1.1.2),aa.1.1.2)).bind fun ag=>Zdo ac ab kk_L1 aa ad (Za2 N ac ab kk_L1 aa af) (decide (ag<0))) else (Zdo ac ab kk_L1 aa ad (Za2 N ac ab kk_L1 aa af) false)
termination_by structural x=>x
def Zdn (N:Nat) (ab:Bool) (aa:List (R0×R0)) (kk_L1:(Bool→Rc→Option Bool)) (ac:Re) (ad:Bool):Option Bool:=
  if ad=true then (Zk2 false aa) else (Za2 N ab aa kk_L1 ac N 0)
def Zh8 (N:Nat) (ab:R1) (af:(R0×Int)) (ad:Bool) (ac:List (R0×R0)) (kk_L1:(Bool→Rc→Option Bool)) (ae:List Int×R0) (aa:Re) (ak:Bool):Option Bool:=
  if ak=true then (Zk2 false ac) else ((Qe N ((ae.2.1.1,ae.2.1.2),ae.2.2)).bind fun al=>if (decide (al=0))=true then (kk_L1 ad ac) else ((Zb3 N (ab.1,ab.2.1,ab.2.2.1,ab.2.2.2.1,ab.2.2.2.2) ((aa.1.1.1.1,aa.1.1.1.2),aa.1.1.2)).bind fun ai=>(V3 N ((aa.1.1.1.1,aa.1.1.1.2),aa.1.1.2) ((aa.1.2.1.1,aa.1.2.1.2),aa.1.2.2)).bind fun ag=>(Ul N ((af.1.1.1,af.1.1.2),af.1.2) ((ag.1.1,ag.1.2),ag.2)).bind fun ah=>(Zb3 N (ab.1,ab.2.1,ab.2.2.1,ab.2.2.2.1,ab.2.2.2.2) ((ah.1.1,ah.1.2),ah.2)).bind fun aj=>if (!decide (ai.2=0))=true then (Zdn N ad ac kk_L1 aa true) else (if (!decide (aj.2=0))=true then (Zdn N ad ac kk_L1 aa true) else ((Zed N ai.1 ae.1).bind fun am=>if (!am)=true then (Zdn N ad ac kk_L1 aa true) else ((Zed N aj.1 ae.1).bind fun an=>Zdn N ad ac kk_L1 aa (!an))))))
def Ta (N:Nat) (aa:R1) (ad:(R0×Int)):List Rg→Bool→Rc→Option Bool
  | [],ae,af=>(Qf N ([]:List R0)).bind fun ag=>Zdp N af N ag.1.1 ag.1.2 ag.2 ae 0
  | ac :: ai,ae,af=>(Zaw N (aa.1,aa.2.1,aa.2.2.1,aa.2.2.2.1,aa.2.2.2.2) ac.1).bind fun ab=>if (!decide (ab.2=0))=true then (Zh8 N aa ad ae af (Ta N aa ad ai) ac ab true) else ((T6 N ((ab.1.2.1.1,ab.1.2.1.2),ab.1.2.2) ((ab.1.1.1.1,ab.1.1.1.2),ab.1.1.2)).bind fun ah=>(Vi N ((ah.1.1,ah.1.2),ah.2) ((ac.2.1.1,ac.2.1.2),ac.2.2)).bind fun aj=>Zh8 N aa ad ae af (Ta N aa ad ai) ac ab (!decide (aj=0)))
termination_by structural x=>x
def Zh7 (N:Nat) (aa:R1) (ab:Bool) (ac:Bool):Option Bool:=
  if ac=true then (some ab) else ((Zfu N (aa.1,aa.2.1,aa.2.2.1,aa.2.2.2.1,aa.2.2.2.2)).bind fun ad=>(Za0 N 1 2).bind fun ae=>Ta N aa ae ad false ([]:List (R0×R0)))
def Zk1 (N:Nat) (aa:R1):Option Bool:=
  (Zqb).bind fun ab=>(Zcd N (aa.1,aa.2.1,aa.2.2.1,aa.2.2.2.1,aa.2.2.2.2)).bind fun ac=>if (!ab)=true then (Zh7 N aa ab true) else (Zh7 N aa ab (!ac))
theorem Zyj (N:Nat) (col:Zd) (w0:World) (bv:Option Addr) (bw:Nat) (bx:Option Addr) (bz:Nat) (b0:Option Addr) (b1:Nat) (b2:Option Addr) (b3:Nat) (ak:R1) (ad:Sl Za.str col w0 bv bw ak.2.1) (ae:Sl (Za.slice Za.str) col w0 bx bz ak.2.2.1) (af:Sl (Za.slice (Za.int .i64)) col w0 b0 b1 ak.2.2.2.1) (ag:Sl (Za.slice (Za.pair (Za.pair Za.bool (Za.slice (Za.int .u32))) (Za.slice (Za.int .u32)))) col w0 b2 b3 ak.2.2.2.2) (r:Bool) (hm:Zk1 N ak=some r):
    Calls Tryz.prog 5 #[(.agg #[.string ak.1,.slice bv ak.2.1.length bw,.slice bx ak.2.2.1.length bz,.slice b0 ak.2.2.2.1.length b1,.slice b2 ak.2.2.2.2.length b3])] w0 (fun e w'=>e= .returned ((.bool r))∧Below w0.heap.size w0 w'):=by
 refine Zra (m:=161) (args:=[(.agg #[.string ak.1,.slice bv ak.2.1.length bw,.slice bx ak.2.2.1.length bz,.slice b0 ak.2.2.2.1.length b1,.slice b2 ak.2.2.2.2.length b3])]) func5 rfl rfl rfl ?_;rw [Zk1.eq_1] at hm;have ab:=St.start col w0;replace ad:=ad.keep (Zl.start col w0);replace ae:=ae.keep (Zl.start col w0);replace af:=af.keep (Zl.start col w0);replace ag:=ag.keep (Zl.start col w0);have hmk:Yp 499 (Zk col) w0 []:=.nil;refine go ?_;refine Xp (col:=(Zk col)) 1 rfl ?_;intro de k0 gu dp ah;refine Zat (col:=gu) (v:=(.bool false)) 2 rfl zeroValue4 ?_;intro ce fu dq df ac;replace ac:Zj 4 2 dq fu ce #[.bool false]:=ac;refine go ?_;obtain ⟨eg,gv,hm⟩:=bZ hm;refine lc rfl rfl (S4 call8) (Z1f dq _ eg gv) ?_;rintro _ fv ⟨rfl,cz⟩;refine ⟨_,rfl,?_⟩;replace cz:Zg dq fu dq fv:=.of_below cz;refine go ?_;replace ah:=(ah.gr df).gr cz;refine lV _ (Z3 isAgg27 sizeOf27 ah) ?_;obtain ⟨gw,gx,hm⟩:=bZ hm;replace ad:=((ad.gr dp).gr df).gr cz;replace ae:=((ae.gr dp).gr df).gr cz;replace af:=((af.gr dp).gr df).gr cz;replace ag:=((ag.gr dp).gr df).gr cz;refine Zi (Zym gx ad ae af ag) ?_;rintro _ gy ⟨rfl,c0⟩;refine ⟨_,rfl,?_⟩;replace c0:Zg dq fv dq gy:=.of_below c0;refine Zkn rfl<|Zm<|Zw<|Zw ?_;replace hmk:=(((hmk.gr dp).gr df).gr cz).gr c0;replace ab:=(((ab.grow dp).grow df).grow cz).grow c0;replace ac:=(ac.gr cz).gr c0;replace ad:=ad.gr c0;replace ae:=ae.gr c0;replace af:=af.gr c0;replace ag:=ag.gr c0;replace ah:=ah.gr c0;refine Wp.cutK [1,2,3,1000000] (fun f c5=>∃ cw er,Zh7 N ak eg er=some r∧St w0 (Zk col) cw c5∧Sl Za.str cw c5 bv bw ak.2.1∧Sl (Za.slice Za.str) cw c5 bx bz ak.2.2.1∧Sl (Za.slice (Za.int .i64)) cw c5 b0 b1 ak.2.2.2.1∧Sl (Za.slice (Za.pair (Za.pair Za.bool (Za.slice (Za.int .u32))) (Za.slice (Za.int .u32)))) cw c5 b2 b3 ak.2.2.2.2∧Zj 27 1 cw c5 de #[.string ak.1,.slice bv ak.2.1.length bw,.slice bx ak.2.2.1.length bz,.slice b0 ak.2.2.2.1.length b1,.slice b2 ak.2.2.2.2.length b3]∧Zj 4 2 cw c5 ce #[.bool false]∧Yp 499 cw c5 []∧[31].map f=[.bool er]) ?_ ?_
 ·intro f c5 hJ;obtain ⟨cw,er,hm,ab,ad,ae,af,ag,ah,ac,hmk,hs⟩:=hJ;rw [Zh7.eq_1] at hm;refine .lL [31] hs ?_;refine Zp hm (fun hb hm=>go ?_) fun hb hm=>go ?_
  ·refine Ux (v:=(.bool eg)) ac sizeOf4 rfl rfl (by intro u hu;simp only [Value.cells,List.mem_cons,List.not_mem_nil,or_false] at hu;subst hu;rfl) rfl rfl ?_;intro gz fw g0 d0;replace d0:Zj 4 2 cw gz ce #[.bool eg]:=d0;refine go ?_;cases hm;replace hmk:=hmk.kp fw;refine ⟨_,[],rfl,hmk,?_⟩;intro k1 fx g1;replace ab:=(ab.kp fw g0).kp fx g1;replace d0:=d0.kp fx;exact ⟨_,Zha rfl rfl isAgg4 rfl d0.at1,rfl,ab.below⟩
  refine Zat (col:=cw) (v:=(.slice none (([]:List (R0×R0)).length) 0)) 3 rfl zeroValue53 ?_;intro c6 g2 g3 c9 ai;replace ai:Zj 53 3 g3 g2 c6 #[(.slice none (([]:List (R0×R0)).length) 0)]:=ai;refine go ?_;replace ah:=ah.gr c9;refine lV _ (Z3 isAgg27 sizeOf27 ah) ?_;obtain ⟨g4,g5,hm⟩:=bZ hm;replace ad:=ad.gr c9;replace ae:=ae.gr c9;replace af:=af.gr c9;replace ag:=ag.gr c9;refine Zi (Zyf 4 g5 ad ae af ag) ?_;rintro _ k2 ⟨g6,es,rfl,c7,eh⟩;refine ⟨_,rfl,?_⟩;refine lv (v:=es) rfl rfl (Vx rfl)<|go ?_;refine lv (v:=es) rfl rfl (Wg rfl)<|lV (.bool false) (Z26 eh ⟨_,_,_,underlying48⟩ rfl)<|Zm<|X4 rfl<|go ?_;obtain ⟨av,g7,hm⟩:=bZ hm;refine Zi (Zm4 (col:=g6) 5 6 g7) ?_;rintro _ k3 ⟨g8,cf,cg,ch,ci,rfl,c1,al,am⟩;refine ⟨_,rfl,?_⟩;refine lM (.tuple #[(.agg #[.bool av.1.1.1,.slice cf av.1.1.2.length cg,.slice ch av.1.2.length ci]),.int .i64 av.2])<|lV (.agg #[.bool av.1.1.1,.slice cf av.1.1.2.length cg,.slice ch av.1.2.length ci]) (Z8 rfl rfl)<|lV (.int .i64 av.2) (Z8 rfl rfl)<|Xa (col:=g8) #[.bool false,.slice none (([]:List Int).length) 0,.slice none (([]:List Int).length) 0] 7 zeroValue35 ?_;intro dr k4 g9 cu ha;refine Zu ha ?_;intro k5 cv hc an;refine go ?_;refine lv (v:=es) rfl rfl (Wg rfl)<|go ?_;replace ac:=((((ac.gr c9).gr c7).gr c1).gr cu).kp cv;replace hmk:=((((hmk.gr c9).gr c7).gr c1).gr cu).kp cv;replace ab:=((((ab.grow c9).grow c7).grow c1).grow cu).kp cv hc;replace ad:=(((ad.gr c7).gr c1).gr cu).kp cv;replace ae:=(((ae.gr c7).gr c1).gr cu).kp cv;replace af:=(((af.gr c7).gr c1).gr cu).kp cv;replace ag:=(((ag.gr c7).gr c1).gr cu).kp cv;replace ah:=(((ah.gr c7).gr c1).gr cu).kp cv;replace ai:=(((ai.gr c7).gr c1).gr cu).kp cv;replace eh:=((eh.gr c1).gr cu).kp cv rfl;replace al:=(al.gr cu).kp cv;replace am:=(am.gr cu).kp cv
  refine Zms (psl:=[42,43]) (arr:=(fun (y:List Int×R0) (col:Zd) (w:World) (args:List Value)=>∃ (a0:Option Addr) (fy:Nat) (a1_0_1:Option Addr) (c1_0_1:Nat) (fz:Option Addr) (f0:Nat),args=[.slice a0 y.1.length fy,.agg #[.bool y.2.1.1,.slice a1_0_1 y.2.1.2.length c1_0_1,.slice fz y.2.2.length f0]]∧Zb (Za.int .i64) 3 4 col w a0 fy y.1∧Sl (Za.int .u32) col w a1_0_1 c1_0_1 y.2.1.2∧Sl (Za.int .u32) col w fz f0 y.2.2)) (ys:=g4) (col:=g9) 498 rfl eh rfl hmk rfl rfl (by rintro _ _ _ _ ⟨_,_,_,_,_,_,rfl,_⟩;rfl) (fun ys_ ax ay=>∃ (bf:Bool) (a1:Option Addr) (az:Nat) (aw:List (R0×R0)),Ta N ak av ys_ bf aw=some r∧St w0 (Zk col) ax ay∧Sl Za.str ax ay bv bw ak.2.1∧Sl (Za.slice Za.str) ax ay bx bz ak.2.2.1∧Sl (Za.slice (Za.int .i64)) ax ay b0 b1 ak.2.2.2.1∧Sl (Za.slice (Za.pair (Za.pair Za.bool (Za.slice (Za.int .u32))) (Za.slice (Za.int .u32)))) ax ay b2 b3 ak.2.2.2.2∧Zj 27 1 ax ay de #[.string ak.1,.slice bv ak.2.1.length bw,.slice bx ak.2.2.1.length bz,.slice b0 ak.2.2.2.1.length b1,.slice b2 ak.2.2.2.2.length b3]∧Zj 4 2 ax ay ce #[.bool bf]∧Zb (Za.pair (Za.pair (Za.pair Za.bool (Za.slice (Za.int .u32))) (Za.slice (Za.int .u32))) (Za.pair (Za.pair Za.bool (Za.slice (Za.int .u32))) (Za.slice (Za.int .u32)))) 55 8 ax ay a1 az aw∧Zj 53 3 ax ay c6 #[.slice a1 aw.length az]∧Zb (Za.int .u32) 77 5 ax ay cf cg av.1.1.2∧Zb (Za.int .u32) 77 6 ax ay ch ci av.1.2∧Zj 35 7 ax ay dr #[.bool av.1.1.1,.slice cf av.1.1.2.length cg,.slice ch av.1.2.length ci]) (fun c_ ax ay=>(c_= .ret∧∃ (bf:Bool) (a1:Option Addr) (az:Nat) (aw:List (R0×R0)),Zk2 bf aw=some r∧St w0 (Zk col) ax ay∧Sl Za.str ax ay bv bw ak.2.1∧Sl (Za.slice Za.str) ax ay bx bz ak.2.2.1∧Sl (Za.slice (Za.int .i64)) ax ay b0 b1 ak.2.2.2.1∧Sl (Za.slice (Za.pair (Za.pair Za.bool (Za.slice (Za.int .u32))) (Za.slice (Za.int .u32)))) ax ay b2 b3 ak.2.2.2.2∧Zj 27 1 ax ay de #[.string ak.1,.slice bv ak.2.1.length bw,.slice bx ak.2.2.1.length bz,.slice b0 ak.2.2.2.1.length b1,.slice b2 ak.2.2.2.2.length b3]∧Zj 4 2 ax ay ce #[.bool bf]∧Zb (Za.pair (Za.pair (Za.pair Za.bool (Za.slice (Za.int .u32))) (Za.slice (Za.int .u32))) (Za.pair (Za.pair Za.bool (Za.slice (Za.int .u32))) (Za.slice (Za.int .u32)))) 55 8 ax ay a1 az aw∧Zj 53 3 ax ay c6 #[.slice a1 aw.length az]∧Zb (Za.int .u32) 77 5 ax ay cf cg av.1.1.2∧Zb (Za.int .u32) 77 6 ax ay ch ci av.1.2∧Zj 35 7 ax ay dr #[.bool av.1.1.1,.slice cf av.1.1.2.length cg,.slice ch av.1.2.length ci])) ?_ ?_ ⟨false,none,0,([]:List (R0×R0)),hm,ab,ad,ae,af,ag,ah,ac,Zb.nil,ai,al,am,an⟩ ?_ ?_ ?_
  ·intro ys_ ax ay col2_ w2_ hJ hk;obtain ⟨bf,a1,az,aw,hm,ab,ad,ae,af,ag,ah,ac,aj,ai,al,am,an⟩:=hJ;exact ⟨bf,a1,az,aw,hm,ab.kpp hk rfl rfl,ad.kpp hk rfl,ae.kpp hk rfl,af.kpp hk rfl,ag.kpp hk rfl,ah.kpp hk rfl,ac.kpp hk rfl,aj.kpp hk rfl rfl,ai.kpp hk rfl,al.kpp hk rfl rfl,am.kpp hk rfl rfl,an.kpp hk rfl⟩
  ·intro c_ ax ay col2_ w2_ hX hk;obtain ⟨rfl,hX⟩:=hX;obtain ⟨bf,a1,az,aw,hm,ab,ad,ae,af,ag,ah,ac,aj,ai,al,am,an⟩:=hX;exact ⟨rfl,⟨bf,a1,az,aw,hm,ab.kpp hk rfl rfl,ad.kpp hk rfl,ae.kpp hk rfl,af.kpp hk rfl,ag.kpp hk rfl,ah.kpp hk rfl,ac.kpp hk rfl,aj.kpp hk rfl rfl,ai.kpp hk rfl,al.kpp hk rfl rfl,am.kpp hk rfl rfl,an.kpp hk rfl⟩⟩
  ·intro ei k6 ej c2 d1 ax ay args hJ hrec hmk harr;obtain ⟨bf,a1,az,aw,hm,ab,ad,ae,af,ag,ah,ac,aj,ai,al,am,an⟩:=hJ;rw [Ta.eq_2] at hm;have hki:=Zt.refl (pC 2) ax ay;obtain ⟨hd,he,et,eu,ew,ey,rfl,a4,ca,cb⟩:=harr;refine go ?_;refine Xa (col:=ax) #[.bool false,.slice none (([]:List Int).length) 0,.slice none (([]:List Int).length) 0] 15 zeroValue35 ?_;intro hf k7 ds bs hg;refine Zu hg ?_;intro k8 bt f1 cc;refine Zm ?_;replace hrec:=(hrec.gr bs).kp bt;refine ⟨_,hrec,?_⟩;intro hh ek bu f2 hrec2;have hrec:=hrec2;refine go ?_;replace ah:=((ah.gr bs).kp bt).kp bu;refine lV _ (Z3 isAgg27 sizeOf27 ah)<|Wk rfl ?_;obtain ⟨aa,hi,hm⟩:=bZ hm;replace ad:=((ad.gr bs).kp bt).kp bu;replace ae:=((ae.gr bs).kp bt).kp bu;replace af:=((af.gr bs).kp bt).kp bu;replace ag:=((ag.gr bs).kp bt).kp bu;replace a4:=((a4.gr bs).kp bt).kp bu;refine Zi (Zm3 16 17 18 19 hi (ad.froz 4) (ae.froz 4) (af.froz 4) (ag.froz 4) (a4.toSlF (Ze.int .i64))) ?_;rintro _ k9 ⟨hj,b5,b6,b7,b8,cj,ck,cl,cn,rfl,bb,ao,ap,aq,ar⟩;refine ⟨_,rfl,?_⟩;replace ao:=ao.thaw (Zs .u32) bb ((Fz.refl (col:=ds)).froz 4) (by decide);replace ap:=ap.thaw (Zs .u32) bb ((Fz.refl (col:=ds)).froz 4) (by decide);replace aq:=aq.thaw (Zs .u32) bb ((Fz.refl (col:=ds)).froz 4) (by decide);replace ar:=ar.thaw (Zs .u32) bb ((Fz.refl (col:=ds)).froz 4) (by decide);replace bb:=bb.thawR (col:=ds);generalize Z1 hh.heap.size ds hj=hl at *
   refine lM (.tuple #[(.agg #[.bool aa.1.1.1.1,.slice b5 aa.1.1.1.2.length b6,.slice b7 aa.1.1.2.length b8,.bool aa.1.2.1.1,.slice cj aa.1.2.1.2.length ck,.slice cl aa.1.2.2.length cn]),.int .i64 aa.2])<|lV (.agg #[.bool aa.1.1.1.1,.slice b5 aa.1.1.1.2.length b6,.slice b7 aa.1.1.2.length b8,.bool aa.1.2.1.1,.slice cj aa.1.2.1.2.length ck,.slice cl aa.1.2.2.length cn]) (Z8 rfl rfl)<|lV (.int .i64 aa.2) (Z8 rfl rfl)<|Xa (col:=hl) #[.bool false,.slice none (([]:List Int).length) 0,.slice none (([]:List Int).length) 0,.bool false,.slice none (([]:List Int).length) 0,.slice none (([]:List Int).length) 0] 20 zeroValue55 ?_;intro dt la c3 bg ho;refine Zu ho ?_;intro lb bh f3 au;refine Yq rfl<|Zm<|Zw<|Zw ?_;replace aj:=(((((aj.gr bs).kp bt).kp bu).gr bb).gr bg).kp bh;replace al:=(((((al.gr bs).kp bt).kp bu).gr bb).gr bg).kp bh;replace am:=(((((am.gr bs).kp bt).kp bu).gr bb).gr bg).kp bh;replace ca:=(((((ca.gr bs).kp bt).kp bu).gr bb).gr bg).kp bh;replace cb:=(((((cb.gr bs).kp bt).kp bu).gr bb).gr bg).kp bh;replace ac:=(((((ac.gr bs).kp bt).kp bu).gr bb).gr bg).kp bh;replace ai:=(((((ai.gr bs).kp bt).kp bu).gr bb).gr bg).kp bh;replace an:=(((((an.gr bs).kp bt).kp bu).gr bb).gr bg).kp bh;replace hmk:=(((((hmk.gr bs).kp bt).kp bu).gr bb).gr bg).kp bh;replace hki:=(((((hki.gr bs).kp bt f1 rfl).kp bu f2 rfl).gr bb).gr bg).kp bh f3 rfl;replace ab:=(((((ab.grow bs).kp bt f1).kp bu f2).grow bb).grow bg).kp bh f3;replace cc:=(((cc.kp bu).gr bb).gr bg).kp bh;replace ad:=((ad.gr bb).gr bg).kp bh;replace ae:=((ae.gr bb).gr bg).kp bh;replace af:=((af.gr bb).gr bg).kp bh;replace ag:=((ag.gr bb).gr bg).kp bh;replace a4:=((a4.gr bb).gr bg).kp bh;replace ah:=((ah.gr bb).gr bg).kp bh;replace hrec:=((hrec.gr bb).gr bg).kp bh;replace ao:=(ao.gr bg).kp bh;replace ap:=(ap.gr bg).kp bh;replace aq:=(aq.gr bg).kp bh;replace ar:=(ar.gr bg).kp bh
   refine Wp.cutK [1,10,11,2,5,7,9,1000000] (fun f a9=>∃ a3 ez,Zh8 N ak av bf aw (Ta N ak av d1) c2 aa ez=some r∧St w0 (Zk col) a3 a9∧Sl Za.str a3 a9 bv bw ak.2.1∧Sl (Za.slice Za.str) a3 a9 bx bz ak.2.2.1∧Sl (Za.slice (Za.int .i64)) a3 a9 b0 b1 ak.2.2.2.1∧Sl (Za.slice (Za.pair (Za.pair Za.bool (Za.slice (Za.int .u32))) (Za.slice (Za.int .u32)))) a3 a9 b2 b3 ak.2.2.2.2∧Zj 27 1 a3 a9 de #[.string ak.1,.slice bv ak.2.1.length bw,.slice bx ak.2.2.1.length bz,.slice b0 ak.2.2.2.1.length b1,.slice b2 ak.2.2.2.2.length b3]∧Sl (Za.int .u32) a3 a9 et eu c2.2.1.2∧Sl (Za.int .u32) a3 a9 ew ey c2.2.2∧Zj 35 15 a3 a9 hf #[.bool c2.2.1.1,.slice et c2.2.1.2.length eu,.slice ew c2.2.2.length ey]∧Zb (Za.int .u32) 77 16 a3 a9 b5 b6 aa.1.1.1.2∧Zb (Za.int .u32) 77 17 a3 a9 b7 b8 aa.1.1.2∧Zb (Za.int .u32) 77 18 a3 a9 cj ck aa.1.2.1.2∧Zb (Za.int .u32) 77 19 a3 a9 cl cn aa.1.2.2∧Zj 55 20 a3 a9 dt #[.bool aa.1.1.1.1,.slice b5 aa.1.1.1.2.length b6,.slice b7 aa.1.1.2.length b8,.bool aa.1.2.1.1,.slice cj aa.1.2.1.2.length ck,.slice cl aa.1.2.2.length cn]∧Zj 4 2 a3 a9 ce #[.bool bf]∧Zb (Za.pair (Za.pair (Za.pair Za.bool (Za.slice (Za.int .u32))) (Za.slice (Za.int .u32))) (Za.pair (Za.pair Za.bool (Za.slice (Za.int .u32))) (Za.slice (Za.int .u32)))) 55 8 a3 a9 a1 az aw∧Zj 53 3 a3 a9 c6 #[.slice a1 aw.length az]∧Zb (Za.int .u32) 77 5 a3 a9 cf cg av.1.1.2∧Zb (Za.int .u32) 77 6 a3 a9 ch ci av.1.2∧Zj 35 7 a3 a9 dr #[.bool av.1.1.1,.slice cf av.1.1.2.length cg,.slice ch av.1.2.length ci]∧Zb (Za.int .i64) 3 4 a3 a9 hd he c2.1∧Y7 498 a3 a9 ei ek∧Yp 499 a3 a9 ej∧Zt (pC 2) ax ay a3 a9∧[61].map f=[.bool ez]) ?_ ?_
   ·intro f a9 hJ;obtain ⟨a3,ez,hm,ab,ad,ae,af,ag,ah,ca,cb,cc,ao,ap,aq,ar,au,ac,aj,ai,al,am,an,a4,hrec,hmk,hki,hs⟩:=hJ;rw [Zh8.eq_1] at hm;refine .lL [61] hs ?_;refine Zp hm (fun hb hm=>go ?_) fun hb hm=>go ?_
    ·refine Ux (v:=(.bool false)) ac sizeOf4 rfl rfl (by intro u hu;simp only [Value.cells,List.mem_cons,List.not_mem_nil,or_false] at hu;subst hu;rfl) rfl rfl ?_;intro hp co f4 e0;replace e0:Zj 4 2 a3 hp ce #[.bool false]:=e0;refine go ?_;replace ad:=ad.kp co;replace ae:=ae.kp co;replace af:=af.kp co;replace ag:=ag.kp co;replace aj:=aj.kp co;replace al:=al.kp co;replace am:=am.kp co;replace ah:=ah.kp co;replace ai:=ai.kp co;replace an:=an.kp co;replace hrec:=hrec.kp co;replace hmk:=hmk.kp co;replace hki:=hki.kp co f4 rfl;replace ab:=ab.kp co f4;exact ⟨_,hki,⟨rfl,⟨false,a1,az,aw,hm,ab,ad,ae,af,ag,ah,e0,aj,ai,al,am,an⟩⟩,hrec,hmk⟩
    refine lV _ (Z3 isAgg35 sizeOf35 cc) ?_;obtain ⟨le,hq,hm⟩:=bZ hm;refine Zi (Zj9 hq ca cb) ?_;rintro _ f5 ⟨rfl,bi⟩;refine ⟨_,rfl,?_⟩;replace bi:Zg a3 a9 a3 f5:=.of_below bi;refine go ?_;replace ad:=ad.gr bi;replace ae:=ae.gr bi;replace af:=af.gr bi;replace ag:=ag.gr bi;replace ao:=ao.gr bi;replace ap:=ap.gr bi;replace aq:=aq.gr bi;replace ar:=ar.gr bi;replace aj:=aj.gr bi;replace al:=al.gr bi;replace am:=am.gr bi;replace a4:=a4.gr bi;replace ah:=ah.gr bi;replace au:=au.gr bi;replace ac:=ac.gr bi;replace ai:=ai.gr bi;replace an:=an.gr bi;replace hrec:=hrec.gr bi;replace hmk:=hmk.gr bi;replace hki:=hki.gr bi;replace ab:=ab.grow bi;refine Zp hm (fun hb hm=>go ?_) fun hb hm=>go ?_
    ·exact ⟨_,hki,⟨bf,a1,az,aw,hm,ab,ad,ae,af,ag,ah,ac,aj,ai,al,am,an⟩,hrec,hmk⟩
    refine lV _ (Z3 isAgg27 sizeOf27 ah)<|Xo ⟨_,_,rfl⟩ ?_;refine lV (.agg #[.bool aa.1.1.1.1,.slice b5 aa.1.1.1.2.length b6,.slice b7 aa.1.1.2.length b8]) (Xc isAgg35 sizeOf35 rfl rfl ((au.atN).part 0 3 _ rfl)) ?_;obtain ⟨el,hr,hm⟩:=bZ hm;refine Zi (Zqs 25 hr ((ad.froz 16).froz 17) ((ae.froz 16).froz 17) ((af.froz 16).froz 17) ((ag.froz 16).froz 17) ((ao.toSlF (Ze.int .u32)).froz 17) ((ap.froz 16 (by decide)).toSlF (Ze.int .u32))) ?_;rintro _ lf ⟨ht,f6,f7,rfl,bd,cx⟩;refine ⟨_,rfl,?_⟩;replace cx:=cx.thaw (Zs .i64) bd (((Fz.refl (col:=a3)).froz 16).froz 17) (by decide);replace bd:=bd.thawR (col:=a3);generalize Z1 f5.heap.size a3 ht=c4 at *;refine lM (.tuple #[.slice f6 el.1.length f7,.int .i64 el.2])<|lV (.slice f6 el.1.length f7) (Z8 rfl rfl)<|lV (.int .i64 el.2) (Z8 rfl rfl)<|go ?_;refine Wb (col:=c4) [(0,0),(1,0),(2,1),(3,0),(4,1),(5,0),(6,3),(7,3),(8,3),(9,1),(10,1),(11,1),(12,1),(13,1)] (by kernel_rfl) (by kernel_rfl) ?_;replace ah:=ah.gr bd;refine xv rfl rfl (fun _ hC=>Z3 isAgg27 sizeOf27 (ah.gr (hC.bl c4))) ?_;replace an:=an.gr bd;refine xv rfl rfl (fun _ hC=>Z3 isAgg35 sizeOf35 (an.gr (hC.bl c4))) ?_;refine xF ⟨_,_,rfl⟩ ?_;replace au:=au.gr bd;refine xv (v:=(.agg #[.bool aa.1.1.1.1,.slice b5 aa.1.1.1.2.length b6,.slice b7 aa.1.1.2.length b8])) rfl rfl (fun _ hC=>Xc isAgg35 sizeOf35 rfl rfl (((au.atN).part 0 3 _ rfl).gr (hC.bl c4))) ?_;refine xF ⟨_,_,rfl⟩ ?_;refine xv (v:=(.agg #[.bool aa.1.2.1.1,.slice cj aa.1.2.1.2.length ck,.slice cl aa.1.2.2.length cn])) rfl rfl (fun _ hC=>Xc isAgg35 sizeOf35 rfl rfl (((au.atN).part 3 3 _ rfl).gr (hC.bl c4))) ?_;refine xe rfl rfl ?_;intro hv hC0;have hC:=hC0.bl c4;obtain ⟨lh,hw,hm⟩:=bZ hm;replace ao:=(ao.gr bd).gr hC;replace ap:=(ap.gr bd).gr hC;replace aq:=(aq.gr bd).gr hC;replace ar:=(ar.gr bd).gr hC
    refine Zi (Zam 26 27 hw ((((ao.toSlF (Ze.int .u32)).froz 17).froz 18).froz 19) ((((ap.froz 16 (by decide)).toSlF (Ze.int .u32)).froz 18).froz 19) ((((aq.froz 16 (by decide)).froz 17 (by decide)).toSlF (Ze.int .u32)).froz 19) ((((ar.froz 16 (by decide)).froz 17 (by decide)).froz 18 (by decide)).toSlF (Ze.int .u32))) ?_;rintro _ li ⟨hx,lj,lk,ll,lm,rfl,a6,d2,d3⟩;refine ⟨_,rfl,?_⟩;replace d2:=d2.thaw (Zs .u32) a6 (((((Fz.refl (col:=c4)).froz 16).froz 17).froz 18).froz 19) (by decide);replace d3:=d3.thaw (Zs .u32) a6 (((((Fz.refl (col:=c4)).froz 16).froz 17).froz 18).froz 19) (by decide);replace a6:=a6.thawR (col:=c4);generalize Z1 hv.heap.size c4 hx=du at *;refine Zm<|Xr du hC0 a6<|xe rfl rfl ?_;intro hy hC0;replace ad:=((ad.gr bd).gr hC).gr a6;replace ae:=((ae.gr bd).gr hC).gr a6;replace af:=((af.gr bd).gr hC).gr a6;replace ag:=((ag.gr bd).gr hC).gr a6;replace aj:=((aj.gr bd).gr hC).gr a6;replace al:=((al.gr bd).gr hC).gr a6;replace am:=((am.gr bd).gr hC).gr a6;replace a4:=((a4.gr bd).gr hC).gr a6;replace ac:=((ac.gr bd).gr hC).gr a6;replace ai:=((ai.gr bd).gr hC).gr a6;replace hrec:=((hrec.gr bd).gr hC).gr a6;replace hmk:=((hmk.gr bd).gr hC).gr a6;replace hki:=((hki.gr bd).gr hC).gr a6;replace ab:=((ab.grow bd).grow hC).grow a6;replace cx:=(cx.gr hC).gr a6;replace ah:=(ah.gr hC).gr a6;replace au:=(au.gr hC).gr a6;replace an:=(an.gr hC).gr a6;have hC:=hC0.bl du;obtain ⟨ln,hz,hm⟩:=bZ hm;replace al:=al.gr hC;replace am:=am.gr hC;replace d2:=d2.gr hC;replace d3:=d3.gr hC;refine Zi (Zbt 28 29 hz ((((al.toSlF (Ze.int .u32)).froz 6).froz 26).froz 27) ((((am.froz 5 (by decide)).toSlF (Ze.int .u32)).froz 26).froz 27) ((((d2.froz 5 (by decide)).froz 6 (by decide)).toSlF (Ze.int .u32)).froz 27) ((((d3.froz 5 (by decide)).froz 6 (by decide)).froz 26 (by decide)).toSlF (Ze.int .u32))) ?_;rintro _ lo ⟨h0,lq,lr,lw,lx,rfl,a7,d4,d5⟩;refine ⟨_,rfl,?_⟩;replace d4:=d4.thaw (Zs .u32) a7 (((((Fz.refl (col:=du)).froz 5).froz 6).froz 26).froz 27) (by decide)
    replace d5:=d5.thaw (Zs .u32) a7 (((((Fz.refl (col:=du)).froz 5).froz 6).froz 26).froz 27) (by decide);replace a7:=a7.thawR (col:=du);generalize Z1 hy.heap.size du h0=d6 at *;refine Zm<|Xr d6 hC0 a7<|xe rfl rfl ?_;intro h1 hC0;replace ao:=((ao.gr a6).gr hC).gr a7;replace ap:=((ap.gr a6).gr hC).gr a7;replace aq:=((aq.gr a6).gr hC).gr a7;replace ar:=((ar.gr a6).gr hC).gr a7;replace ad:=(ad.gr hC).gr a7;replace ae:=(ae.gr hC).gr a7;replace af:=(af.gr hC).gr a7;replace ag:=(ag.gr hC).gr a7;replace aj:=(aj.gr hC).gr a7;replace a4:=(a4.gr hC).gr a7;replace cx:=(cx.gr hC).gr a7;replace ah:=(ah.gr hC).gr a7;replace au:=(au.gr hC).gr a7;replace ac:=(ac.gr hC).gr a7;replace ai:=(ai.gr hC).gr a7;replace an:=(an.gr hC).gr a7;replace hrec:=(hrec.gr hC).gr a7;replace hmk:=(hmk.gr hC).gr a7;replace hki:=(hki.gr hC).gr a7;replace ab:=(ab.grow hC).grow a7;have hC:=hC0.bl d6;obtain ⟨d7,h2,hm⟩:=bZ hm;replace ad:=ad.gr hC;replace ae:=ae.gr hC;replace af:=af.gr hC;replace ag:=ag.gr hC;replace d4:=d4.gr hC;replace d5:=d5.gr hC;refine Zi (Zqs 30 h2 ((ad.froz 28).froz 29) ((ae.froz 28).froz 29) ((af.froz 28).froz 29) ((ag.froz 28).froz 29) ((d4.toSlF (Ze.int .u32)).froz 29) ((d5.froz 28 (by decide)).toSlF (Ze.int .u32))) ?_;rintro _ ly ⟨h3,f8,f9,rfl,ba,dg⟩;refine ⟨_,rfl,?_⟩;replace dg:=dg.thaw (Zs .i64) ba (((Fz.refl (col:=d6)).froz 28).froz 29) (by decide);replace ba:=ba.thawR (col:=d6);generalize Z1 h1.heap.size d6 h3=dv at *;refine Zm<|Xr dv hC0 ba<|xu (v:=(.tuple #[.slice f8 d7.1.length f9,.int .i64 d7.2])) rfl rfl (fun _=>Wg rfl) ?_;refine xu (v:=(.slice f8 d7.1.length f9)) rfl rfl (fun _=>Z8 rfl rfl) ?_;refine xu (v:=(.int .i64 d7.2)) rfl rfl (fun _=>Z8 rfl rfl) ?_;refine xu rfl rfl (fun _=>Zjj rfl) ?_;refine xu rfl rfl (fun _=>Zji rfl) ?_;refine Yz ?_;replace al:=((al.gr a7).gr hC).gr ba;replace am:=((am.gr a7).gr hC).gr ba;replace ao:=(ao.gr hC).gr ba;replace ap:=(ap.gr hC).gr ba;replace aq:=(aq.gr hC).gr ba;replace ar:=(ar.gr hC).gr ba;replace aj:=(aj.gr hC).gr ba;replace a4:=(a4.gr hC).gr ba;replace cx:=(cx.gr hC).gr ba
    replace ah:=(ah.gr hC).gr ba;replace au:=(au.gr hC).gr ba;replace ac:=(ac.gr hC).gr ba;replace ai:=(ai.gr hC).gr ba;replace an:=(an.gr hC).gr ba;replace hrec:=(hrec.gr hC).gr ba;replace hmk:=(hmk.gr hC).gr ba;replace hki:=(hki.gr hC).gr ba;replace ab:=(ab.grow hC).grow ba;intro h4 hC;replace hC:=hC.bl dv;refine Zw<|Zw ?_;replace ad:=(ad.gr ba).gr hC;replace ae:=(ae.gr ba).gr hC;replace af:=(af.gr ba).gr hC;replace ag:=(ag.gr ba).gr hC;replace ao:=ao.gr hC;replace ap:=ap.gr hC;replace aq:=aq.gr hC;replace ar:=ar.gr hC;replace aj:=aj.gr hC;replace al:=al.gr hC;replace am:=am.gr hC;replace a4:=a4.gr hC;replace cx:=cx.gr hC;replace dg:=dg.gr hC;replace ah:=ah.gr hC;replace au:=au.gr hC;replace ac:=ac.gr hC;replace ai:=ai.gr hC;replace an:=an.gr hC;replace hrec:=hrec.gr hC;replace hmk:=hmk.gr hC;replace hki:=hki.gr hC;replace ab:=ab.grow hC
    refine Wp.cutK [1,11,2,5,7,1000000] (fun f bm=>∃ bj e1,Zdn N bf aw (Ta N ak av d1) aa e1=some r∧St w0 (Zk col) bj bm∧Sl Za.str bj bm bv bw ak.2.1∧Sl (Za.slice Za.str) bj bm bx bz ak.2.2.1∧Sl (Za.slice (Za.int .i64)) bj bm b0 b1 ak.2.2.2.1∧Sl (Za.slice (Za.pair (Za.pair Za.bool (Za.slice (Za.int .u32))) (Za.slice (Za.int .u32)))) bj bm b2 b3 ak.2.2.2.2∧Zj 27 1 bj bm de #[.string ak.1,.slice bv ak.2.1.length bw,.slice bx ak.2.2.1.length bz,.slice b0 ak.2.2.2.1.length b1,.slice b2 ak.2.2.2.2.length b3]∧Zb (Za.int .u32) 77 16 bj bm b5 b6 aa.1.1.1.2∧Zb (Za.int .u32) 77 17 bj bm b7 b8 aa.1.1.2∧Zb (Za.int .u32) 77 18 bj bm cj ck aa.1.2.1.2∧Zb (Za.int .u32) 77 19 bj bm cl cn aa.1.2.2∧Zj 55 20 bj bm dt #[.bool aa.1.1.1.1,.slice b5 aa.1.1.1.2.length b6,.slice b7 aa.1.1.2.length b8,.bool aa.1.2.1.1,.slice cj aa.1.2.1.2.length ck,.slice cl aa.1.2.2.length cn]∧Zj 4 2 bj bm ce #[.bool bf]∧Zb (Za.pair (Za.pair (Za.pair Za.bool (Za.slice (Za.int .u32))) (Za.slice (Za.int .u32))) (Za.pair (Za.pair Za.bool (Za.slice (Za.int .u32))) (Za.slice (Za.int .u32)))) 55 8 bj bm a1 az aw∧Zj 53 3 bj bm c6 #[.slice a1 aw.length az]∧Zb (Za.int .u32) 77 5 bj bm cf cg av.1.1.2∧Zb (Za.int .u32) 77 6 bj bm ch ci av.1.2∧Zj 35 7 bj bm dr #[.bool av.1.1.1,.slice cf av.1.1.2.length cg,.slice ch av.1.2.length ci]∧Y7 498 bj bm ei ek∧Yp 499 bj bm ej∧Zt (pC 2) ax ay bj bm∧[101].map f=[.bool e1]) ?_ ?_
    ·intro f bm hJ;obtain ⟨bj,e1,hm,ab,ad,ae,af,ag,ah,ao,ap,aq,ar,au,ac,aj,ai,al,am,an,hrec,hmk,hki,hs⟩:=hJ;rw [Zdn.eq_1] at hm;refine .lL [101] hs ?_;refine Zp hm (fun hb hm=>go ?_) fun hb hm=>go ?_
     ·refine Ux (v:=(.bool false)) ac sizeOf4 rfl rfl (by intro u hu;simp only [Value.cells,List.mem_cons,List.not_mem_nil,or_false] at hu;subst hu;rfl) rfl rfl ?_;intro h5 cp ga e2;replace e2:Zj 4 2 bj h5 ce #[.bool false]:=e2;refine go ?_;replace ad:=ad.kp cp;replace ae:=ae.kp cp;replace af:=af.kp cp;replace ag:=ag.kp cp;replace aj:=aj.kp cp;replace al:=al.kp cp;replace am:=am.kp cp;replace ah:=ah.kp cp;replace ai:=ai.kp cp;replace an:=an.kp cp;replace hrec:=hrec.kp cp;replace hmk:=hmk.kp cp;replace hki:=hki.kp cp ga rfl;replace ab:=ab.kp cp ga;exact ⟨_,hki,⟨rfl,⟨false,a1,az,aw,hm,ab,ad,ae,af,ag,ah,e2,aj,ai,al,am,an⟩⟩,hrec,hmk⟩
     refine Z5 [1,11,2,5,7,1000000] (fun n f bn=>∃ a2 bc dh,dh=n∧Za2 N bf aw (Ta N ak av d1) aa dh bc=some r∧St w0 (Zk col) a2 bn∧Sl Za.str a2 bn bv bw ak.2.1∧Sl (Za.slice Za.str) a2 bn bx bz ak.2.2.1∧Sl (Za.slice (Za.int .i64)) a2 bn b0 b1 ak.2.2.2.1∧Sl (Za.slice (Za.pair (Za.pair Za.bool (Za.slice (Za.int .u32))) (Za.slice (Za.int .u32)))) a2 bn b2 b3 ak.2.2.2.2∧Zj 27 1 a2 bn de #[.string ak.1,.slice bv ak.2.1.length bw,.slice bx ak.2.2.1.length bz,.slice b0 ak.2.2.2.1.length b1,.slice b2 ak.2.2.2.2.length b3]∧Zb (Za.int .u32) 77 16 a2 bn b5 b6 aa.1.1.1.2∧Zb (Za.int .u32) 77 17 a2 bn b7 b8 aa.1.1.2∧Zb (Za.int .u32) 77 18 a2 bn cj ck aa.1.2.1.2∧Zb (Za.int .u32) 77 19 a2 bn cl cn aa.1.2.2∧Zj 55 20 a2 bn dt #[.bool aa.1.1.1.1,.slice b5 aa.1.1.1.2.length b6,.slice b7 aa.1.1.2.length b8,.bool aa.1.2.1.1,.slice cj aa.1.2.1.2.length ck,.slice cl aa.1.2.2.length cn]∧Zj 4 2 a2 bn ce #[.bool bf]∧Zb (Za.pair (Za.pair (Za.pair Za.bool (Za.slice (Za.int .u32))) (Za.slice (Za.int .u32))) (Za.pair (Za.pair Za.bool (Za.slice (Za.int .u32))) (Za.slice (Za.int .u32)))) 55 8 a2 bn a1 az aw∧Zj 53 3 a2 bn c6 #[.slice a1 aw.length az]∧Zb (Za.int .u32) 77 5 a2 bn cf cg av.1.1.2∧Zb (Za.int .u32) 77 6 a2 bn ch ci av.1.2∧Zj 35 7 a2 bn dr #[.bool av.1.1.1,.slice cf av.1.1.2.length cg,.slice ch av.1.2.length ci]∧Y7 498 a2 bn ei ek∧Yp 499 a2 bn ej∧Zt (pC 2) ax ay a2 bn∧[17].map f=[.int .i64 bc]) N ⟨_,0,_,rfl,hm,ab,ad,ae,af,ag,ah,ao,ap,aq,ar,au,ac,aj,ai,al,am,an,hrec,hmk,hki,rfl⟩ ?_;clear hm;intro n f bn hI;obtain ⟨a2,bc,dh,hn,hm,ab,ad,ae,af,ag,ah,ao,ap,aq,ar,au,ac,aj,ai,al,am,an,hrec,hmk,hki,hs⟩:=hI;subst hn;refine .lL [17] hs ?_
     cases dh with
     | zero=>rw [Za2.eq_1] at hm;cases hm
     | succ dh=>
      rw [Za2.eq_2] at hm;refine Zw<|Zw ?_;refine Wp.cutK [1,11,17,2,5,7,1000000] (fun f bo=>∃ bp e3,Zdo bf aw (Ta N ak av d1) aa bc (Za2 N bf aw (Ta N ak av d1) aa dh) e3=some r∧St w0 (Zk col) bp bo∧Sl Za.str bp bo bv bw ak.2.1∧Sl (Za.slice Za.str) bp bo bx bz ak.2.2.1∧Sl (Za.slice (Za.int .i64)) bp bo b0 b1 ak.2.2.2.1∧Sl (Za.slice (Za.pair (Za.pair Za.bool (Za.slice (Za.int .u32))) (Za.slice (Za.int .u32)))) bp bo b2 b3 ak.2.2.2.2∧Zj 27 1 bp bo de #[.string ak.1,.slice bv ak.2.1.length bw,.slice bx ak.2.2.1.length bz,.slice b0 ak.2.2.2.1.length b1,.slice b2 ak.2.2.2.2.length b3]∧Zb (Za.int .u32) 77 16 bp bo b5 b6 aa.1.1.1.2∧Zb (Za.int .u32) 77 17 bp bo b7 b8 aa.1.1.2∧Zb (Za.int .u32) 77 18 bp bo cj ck aa.1.2.1.2∧Zb (Za.int .u32) 77 19 bp bo cl cn aa.1.2.2∧Zj 55 20 bp bo dt #[.bool aa.1.1.1.1,.slice b5 aa.1.1.1.2.length b6,.slice b7 aa.1.1.2.length b8,.bool aa.1.2.1.1,.slice cj aa.1.2.1.2.length ck,.slice cl aa.1.2.2.length cn]∧Zj 4 2 bp bo ce #[.bool bf]∧Zb (Za.pair (Za.pair (Za.pair Za.bool (Za.slice (Za.int .u32))) (Za.slice (Za.int .u32))) (Za.pair (Za.pair Za.bool (Za.slice (Za.int .u32))) (Za.slice (Za.int .u32)))) 55 8 bp bo a1 az aw∧Zj 53 3 bp bo c6 #[.slice a1 aw.length az]∧Zb (Za.int .u32) 77 5 bp bo cf cg av.1.1.2∧Zb (Za.int .u32) 77 6 bp bo ch ci av.1.2∧Zj 35 7 bp bo dr #[.bool av.1.1.1,.slice cf av.1.1.2.length cg,.slice ch av.1.2.length ci]∧Y7 498 bp bo ei ek∧Yp 499 bp bo ej∧Zt (pC 2) ax ay bp bo∧[116].map f=[.bool e3]) ?_ ?_
      ·intro f bo hJ;obtain ⟨bp,e3,hm,ab,ad,ae,af,ag,ah,ao,ap,aq,ar,au,ac,aj,ai,al,am,an,hrec,hmk,hki,hs⟩:=hJ;rw [Zdo.eq_1] at hm;refine .lL [116] hs ?_;refine Zp hm (fun hb hm=>go ?_) fun hb hm=>go ?_
       ·exact ⟨dh,by omega,rfl,⟨_,_,_,rfl,hm,ab,ad,ae,af,ag,ah,ao,ap,aq,ar,au,ac,aj,ai,al,am,an,hrec,hmk,hki,rfl⟩⟩
       refine lW ai.at1<|Ya rfl ?_;obtain ⟨e4,hm⟩:=Z2 hm;refine lv (v:=.slice a1 (Int.toNat bc) az) rfl rfl (Zg9 underlying53 sizeOf55 rfl rfl e4.1 (by have:=aj.lecap;have:=e4.2;omega))<|.ld (d:=122) (v:=(.slice a1 ((aw.take (Int.toNat bc)).length) az)) (congrArg (fun n=>Value.slice a1 n az) (List.length_take_of_le (show (Int.toNat bc)≤aw.length by have:=e4.2;omega)).symm) ?_;obtain ⟨h6,hm⟩:=Z2 hm;refine Vv (c:=31) Zb.nil ((aj.take (Int.toNat bc)).srcN (NB.pair (NB.pair (NB.pair NB.bool NB.slice) NB.slice) (NB.pair (NB.pair NB.bool NB.slice) NB.slice))) h6 ?_;intro lz l0 l1 h7 bq cy;replace ad:=ad.kpp bq;replace ae:=ae.kpp bq;replace af:=af.kpp bq;replace ag:=ag.kpp bq;replace ao:=ao.kpp bq;replace ap:=ap.kpp bq;replace aq:=aq.kpp bq;replace ar:=ar.kpp bq;replace aj:=aj.kpp bq;replace al:=al.kpp bq;replace am:=am.kpp bq;replace ah:=ah.kpp bq;replace au:=au.kpp bq;replace ac:=ac.kpp bq;replace ai:=ai.kpp bq;replace an:=an.kpp bq;replace hrec:=hrec.kpp bq;replace hmk:=hmk.kpp bq;replace hki:=hki.trans (bq.mono (by first | exact Zjd rfl | exact pCo_p1 rfl | exact pCo_pS rfl | exact fun _=>Zjc | exact fun _ h=>h | exact fun _ _=>rfl));refine go ?_;refine lV _ (Z3 isAgg55 sizeOf55 au) ?_;replace ad:=ad.froz 19;replace ae:=ae.froz 19;replace af:=af.froz 19;replace ag:=ag.froz 19;replace aj:=aj.froz 19 (by decide);replace al:=al.froz 19 (by decide);replace am:=am.froz 19 (by decide);replace cy:=cy.froz 19 (by decide);replace ao:=ao.froz 19 (by decide);replace ap:=ap.froz 19 (by decide);replace aq:=aq.froz 19 (by decide);replace ar:=(ar).toSlF (Ze.int .u32);replace ah:=ah.froz 19 (by decide);replace ac:=ac.froz 19 (by decide);replace ai:=ai.froz 19 (by decide);replace an:=an.froz 19 (by decide);replace hrec:=hrec.froz 19 (by decide);replace hmk:=hmk.froz 19 (by decide);replace hki:=hki.froz 19 rfl;replace ab:=ab.kpp bq;replace ab:=ab.froz 19 (by decide) (by decide);replace ad:=ad.froz 18;replace ae:=ae.froz 18;replace af:=af.froz 18;replace ag:=ag.froz 18;replace aj:=aj.froz 18 (by decide);replace al:=al.froz 18 (by decide);replace am:=am.froz 18 (by decide);replace cy:=cy.froz 18 (by decide);replace ao:=ao.froz 18 (by decide);replace ap:=ap.froz 18 (by decide);replace aq:=(aq).toSlF (Ze.int .u32);replace ar:=ar.froz 18;replace ah:=ah.froz 18 (by decide);replace ac:=ac.froz 18 (by decide)
       replace ai:=ai.froz 18 (by decide);replace an:=an.froz 18 (by decide);replace hrec:=hrec.froz 18 (by decide);replace hmk:=hmk.froz 18 (by decide);replace hki:=hki.froz 18 rfl;replace ab:=ab.froz 18 (by decide) (by decide);replace ad:=ad.froz 17;replace ae:=ae.froz 17;replace af:=af.froz 17;replace ag:=ag.froz 17;replace aj:=aj.froz 17 (by decide);replace al:=al.froz 17 (by decide);replace am:=am.froz 17 (by decide);replace cy:=cy.froz 17 (by decide);replace ao:=ao.froz 17 (by decide);replace ap:=(ap).toSlF (Ze.int .u32);replace aq:=aq.froz 17;replace ar:=ar.froz 17;replace ah:=ah.froz 17 (by decide);replace ac:=ac.froz 17 (by decide);replace ai:=ai.froz 17 (by decide);replace an:=an.froz 17 (by decide);replace hrec:=hrec.froz 17 (by decide);replace hmk:=hmk.froz 17 (by decide);replace hki:=hki.froz 17 rfl;replace ab:=ab.froz 17 (by decide) (by decide);replace ad:=ad.froz 16;replace ae:=ae.froz 16;replace af:=af.froz 16;replace ag:=ag.froz 16;replace aj:=aj.froz 16 (by decide);replace al:=al.froz 16 (by decide);replace am:=am.froz 16 (by decide);replace cy:=cy.froz 16 (by decide);replace ao:=(ao).toSlF (Ze.int .u32);replace ap:=ap.froz 16;replace aq:=aq.froz 16;replace ar:=ar.froz 16;replace ah:=ah.froz 16 (by decide);replace ac:=ac.froz 16 (by decide);replace ai:=ai.froz 16 (by decide);replace an:=an.froz 16 (by decide);replace hrec:=hrec.froz 16 (by decide);replace hmk:=hmk.froz 16 (by decide);replace hki:=hki.froz 16 rfl;replace ab:=ab.froz 16 (by decide) (by decide)
       refine Tn (col:=(Xf 16 (Xf 17 (Xf 18 (Xf 19 h7))))) (r:=(Za.pair (Za.pair (Za.pair Za.bool (Za.slice (Za.int .u32))) (Za.slice (Za.int .u32))) (Za.pair (Za.pair Za.bool (Za.slice (Za.int .u32))) (Za.slice (Za.int .u32))))) (xs:=[(((aa.1.1.1.1,aa.1.1.1.2),aa.1.1.2),((aa.1.2.1.1,aa.1.2.1.2),aa.1.2.2))]) [(.agg #[.bool aa.1.1.1.1,.slice b5 aa.1.1.1.2.length b6,.slice b7 aa.1.1.2.length b8,.bool aa.1.2.1.1,.slice cj aa.1.2.1.2.length ck,.slice cl aa.1.2.2.length cn])] 32 (Y3.ofF (Rows.consF (r:=(Za.pair (Za.pair (Za.pair Za.bool (Za.slice (Za.int .u32))) (Za.slice (Za.int .u32))) (Za.pair (Za.pair Za.bool (Za.slice (Za.int .u32))) (Za.slice (Za.int .u32))))) (x:=(((aa.1.1.1.1,aa.1.1.1.2),aa.1.1.2),((aa.1.2.1.1,aa.1.2.1.2),aa.1.2.2))) (cs:=[.bool aa.1.1.1.1,.slice b5 aa.1.1.1.2.length b6,.slice b7 aa.1.1.2.length b8,.bool aa.1.2.1.1,.slice cj aa.1.2.1.2.length ck,.slice cl aa.1.2.2.length cn]) (Vk (Vk (Vk (Ue aa.1.1.1.1) (Uf ao)) (Uf ap)) (Vk (Vk (Ue aa.1.2.1.1) (Uf aq)) (Uf ar))) Rows.nil0)) ?_;intro l2 l3 l4 b9 h8;obtain ⟨h9,hm⟩:=Z2 hm;replace cy:=cy.gr b9;refine Vv cy (h8.srcN (NB.pair (NB.pair (NB.pair NB.bool NB.slice) NB.slice) (NB.pair (NB.pair NB.bool NB.slice) NB.slice))) h9 ?_;intro l5 l6 l7 l8 cd e5;replace ad:=(ad.gr b9).kpp cd;replace ae:=(ae.gr b9).kpp cd;replace af:=(af.gr b9).kpp cd;replace ag:=(ag.gr b9).kpp cd;replace aj:=(aj.gr b9).kpp cd;replace al:=(al.gr b9).kpp cd;replace am:=(am.gr b9).kpp cd;replace ah:=(ah.gr b9).kpp cd;replace ac:=(ac.gr b9).kpp cd;replace ai:=(ai.gr b9).kpp cd;replace an:=(an.gr b9).kpp cd;replace hrec:=(hrec.gr b9).kpp cd;replace hmk:=(hmk.gr b9).kpp cd;replace hki:=hki.gr b9;replace hki:=hki.trans (cd.mono (by first | exact Zjd rfl | exact pCo_p1 rfl | exact pCo_pS rfl | exact fun _=>Zjc | exact fun _ h=>h | exact fun _ _=>rfl));refine go ?_;refine lW ai.at1<|Ya rfl ?_;obtain ⟨gb,hm⟩:=Z2 hm;replace ad:=ad.froz 8;replace ae:=ae.froz 8;replace af:=af.froz 8;replace ag:=ag.froz 8;replace aj:=(aj).toSlF (Ze.pair (Ze.pair (Ze.pair Ze.bool Ze.slice) Ze.slice) (Ze.pair (Ze.pair Ze.bool Ze.slice) Ze.slice));replace al:=al.froz 8 (by decide);replace am:=am.froz 8 (by decide);replace e5:=e5.froz 8 (by decide);replace ah:=ah.froz 8 (by decide);replace ac:=ac.froz 8 (by decide);replace ai:=ai.froz 8 (by decide)
       replace an:=an.froz 8 (by decide);replace hrec:=hrec.froz 8 (by decide);replace hmk:=hmk.froz 8 (by decide);replace hki:=hki.froz 8 rfl;replace ab:=(ab.grow b9).kpp cd;replace ab:=ab.froz 8 (by decide) (by decide);have ia:=aj.drop (sz:=6) rfl (Int.toNat bc);refine lv (v:=.slice (if az=(Int.toNat bc) then a1 else a1.map (·.add ((Int.toNat bc) * 6))) (aw.length - (Int.toNat bc)) (az - (Int.toNat bc))) rfl rfl (Zpu underlying53 sizeOf55 rfl rfl gb.1 gb.2) ?_;generalize (if az=(Int.toNat bc) then a1 else a1.map (·.add ((Int.toNat bc) * 6)))=gc at *;refine .ld (d:=131) (v:=(.slice gc ((aw.drop (Int.toNat bc)).length) (az - (Int.toNat bc)))) (congrArg (fun n=>Value.slice gc n (az - (Int.toNat bc))) (List.length_drop (i:=(Int.toNat bc)) (l:=aw)).symm) ?_;obtain ⟨ib,hm⟩:=Z2 hm;refine Vv e5 ia.srcC ib ?_;intro e6 e7 l9 ic cq d8;replace ad:=ad.kpp cq;replace ae:=ae.kpp cq;replace af:=af.kpp cq;replace ag:=ag.kpp cq;replace al:=al.kpp cq;replace am:=am.kpp cq;replace ah:=ah.kpp cq;replace ac:=ac.kpp cq;replace ai:=ai.kpp cq;replace an:=an.kpp cq;replace hrec:=hrec.kpp cq;replace hmk:=hmk.kpp cq;replace hki:=hki.trans (cq.mono (by first | exact Zjd rfl | exact pCo_p1 rfl | exact pCo_pS rfl | exact fun _=>Zjc | exact fun _ h=>h | exact fun _ _=>rfl));refine Ux (v:=(.slice e6 ((((([]:List (R0×R0))++(aw.take (Int.toNat bc)))++[(((aa.1.1.1.1,aa.1.1.1.2),aa.1.1.2),((aa.1.2.1.1,aa.1.2.1.2),aa.1.2.2))])++(aw.drop (Int.toNat bc))).length) e7)) ai sizeOf53 rfl rfl (by intro u hu;simp only [Value.cells,List.mem_cons,List.not_mem_nil,or_false] at hu;subst hu;rfl) rfl rfl ?_;intro id cr gd d9;replace d9:Zj 53 3 ic id c6 #[(.slice e6 ((((([]:List (R0×R0))++(aw.take (Int.toNat bc)))++[(((aa.1.1.1.1,aa.1.1.1.2),aa.1.1.2),((aa.1.2.1.1,aa.1.2.1.2),aa.1.2.2))])++(aw.drop (Int.toNat bc))).length) e7)]:=d9;refine Zm ?_;replace ad:=ad.kp cr;replace ad:=ad.recol 31 8 (by decide);replace ae:=ae.kp cr;replace ae:=ae.recol 31 8 (by decide);replace af:=af.kp cr;replace af:=af.recol 31 8 (by decide);replace ag:=ag.kp cr;replace ag:=ag.recol 31 8 (by decide);replace d8:=d8.kp cr;replace d8:=d8.recolSelf 8 (by decide);replace al:=al.kp cr;replace al:=al.recol 31 8 (by decide);replace am:=am.kp cr
       replace am:=am.recol 31 8 (by decide);replace ah:=ah.kp cr;replace ah:=ah.recol 31 8 (by decide);replace ac:=ac.kp cr;replace ac:=ac.recol 31 8 (by decide);replace d9:=d9.recol 31 8 (by decide);replace an:=an.kp cr;replace an:=an.recol 31 8 (by decide);replace hrec:=hrec.kp cr;replace hrec:=hrec.recol 31 8 (by decide);replace hmk:=hmk.kp cr;replace hmk:=hmk.recol 31 8 (by decide);replace hki:=hki.kp cr gd rfl;replace hki:=hki.recol 31 8 rfl;replace ab:=(ab.kpp cq).kp cr gd;replace ab:=ab.recol 31 8 (by decide) (by decide);exact ⟨_,hki,⟨bf,e6,e7,(((([]:List (R0×R0))++(aw.take (Int.toNat bc)))++[(((aa.1.1.1.1,aa.1.1.1.2),aa.1.1.2),((aa.1.2.1.1,aa.1.2.1.2),aa.1.2.2))])++(aw.drop (Int.toNat bc))),hm,ab,ad,ae,af,ag,ah,ac,d8,d9,al,am,an⟩,hrec,hmk⟩
      refine Vy (col:=a2) (by kernel_rfl) (by kernel_rfl)<|go ?_;refine qW (fun _ hC=>ai.at1.gr (hC.bl a2)) ?_;refine go ?_;refine Xz hm (fun e8 hm=>go ?_) fun e8 hm=>go ?_
      ·refine qW (fun _ hC=>ai.at1.gr (hC.bl a2)) ?_;refine go ?_;obtain ⟨e9,em,hm⟩:=bZ hm;refine qI em (aj.addr em) ?_;refine go ?_;refine qF (Ur (aj.addr em)) ?_;refine go ?_;obtain ⟨_,ie,ig⟩:=aj.atN em;obtain ⟨_,_,rfl,ih,ii⟩:=ie.parts;obtain ⟨_,_,rfl,ij,ik⟩:=ih.parts;obtain ⟨_,_,rfl,il,im⟩:=ij.parts;obtain rfl:=il.bool;obtain ⟨io,ip,rfl,iq⟩:=im.slice;obtain ⟨ir,it,rfl,iu⟩:=ik.slice;obtain ⟨_,_,rfl,iv,iw⟩:=ii.parts;obtain ⟨_,_,rfl,ix,iy⟩:=iv.parts;obtain rfl:=ix.bool;obtain ⟨ma,mb,rfl,mc⟩:=iy.slice;obtain ⟨md,me,rfl,mf⟩:=iw.slice;refine qv (v:=(.agg #[.bool e9.1.1.1,.slice io e9.1.1.2.length ip,.slice ir e9.1.2.length it])) rfl (fun _ hC=>Xc isAgg35 sizeOf35 rfl rfl (((ig).part 0 3 _ rfl).gr (hC.bl a2))) ?_;refine go ?_;refine qF ⟨_,_,rfl⟩ ?_;refine go ?_;refine qv (v:=(.agg #[.bool aa.1.1.1.1,.slice b5 aa.1.1.1.2.length b6,.slice b7 aa.1.1.2.length b8])) rfl (fun _ hC=>Xc isAgg35 sizeOf35 rfl rfl (((au.atN).part 0 3 _ rfl).gr (hC.bl a2))) ?_;refine go ?_;obtain ⟨ge,iz,hm⟩:=bZ hm;refine qc (v:=(.int .i64 ge)) rfl (fun _ hC=>⟨_,_,Zl9 call17 rfl rfl,(Sm iz (((iq.gr (hC.bl a2)).froz 16).froz 17) (((iu.gr (hC.bl a2)).froz 16).froz 17) (((ao.gr (hC.bl a2)).toSlF (Ze.int .u32)).froz 17) (((ap.gr (hC.bl a2)).froz 16 (by decide)).toSlF (Ze.int .u32)):).mono fun _ _ h=>⟨h.1,hC.trans (.of_below h.2)⟩⟩) ?_;refine go ?_;refine qv (v:=(.bool (decide (ge<0)))) rfl (fun _ hC=>Xm (congrArg Value.bool e8) rfl) ?_;refine Wn ?_;intro mg hC;replace hC:=hC.bl a2;replace ad:=ad.gr hC;replace ae:=ae.gr hC;replace af:=af.gr hC;replace ag:=ag.gr hC;replace ao:=ao.gr hC;replace ap:=ap.gr hC;replace aq:=aq.gr hC;replace ar:=ar.gr hC;replace aj:=aj.gr hC;replace al:=al.gr hC;replace am:=am.gr hC;replace ah:=ah.gr hC;replace au:=au.gr hC;replace ac:=ac.gr hC;replace ai:=ai.gr hC;replace an:=an.gr hC;replace hrec:=hrec.gr hC;replace hmk:=hmk.gr hC;replace hki:=hki.gr hC;replace ab:=ab.grow hC;exact ⟨rfl,_,_,hm,ab,ad,ae,af,ag,ah,ao,ap,aq,ar,au,ac,aj,ai,al,am,an,hrec,hmk,hki,rfl⟩
      refine qv (v:=(.bool false)) rfl (fun _ hC=>Xd (congrArg Value.bool e8) rfl) ?_;refine Wn ?_;intro mh hC;replace hC:=hC.bl a2;replace ad:=ad.gr hC;replace ae:=ae.gr hC;replace af:=af.gr hC;replace ag:=ag.gr hC;replace ao:=ao.gr hC;replace ap:=ap.gr hC;replace aq:=aq.gr hC;replace ar:=ar.gr hC;replace aj:=aj.gr hC;replace al:=al.gr hC;replace am:=am.gr hC;replace ah:=ah.gr hC;replace au:=au.gr hC;replace ac:=ac.gr hC;replace ai:=ai.gr hC;replace an:=an.gr hC;replace hrec:=hrec.gr hC;replace hmk:=hmk.gr hC;replace hki:=hki.gr hC;replace ab:=ab.grow hC;exact ⟨rfl,_,_,hm,ab,ad,ae,af,ag,ah,ao,ap,aq,ar,au,ac,aj,ai,al,am,an,hrec,hmk,hki,rfl⟩
    refine go ?_;refine Xz hm (fun fa hm=>go ?_) fun fa hm=>go ?_
    ·refine lV (.bool true) (Xm (congrArg Value.bool fa) rfl)<|Yh rfl<|lP 90 rfl rfl<|lP 90 rfl rfl<|lP 90 rfl rfl<|lP 90 rfl rfl<|lV (.bool true) (Xm rfl rfl)<|Yh rfl<|lP 96 rfl rfl<|lP 96 rfl rfl<|lP 96 rfl rfl<|lP 96 rfl rfl<|lV (.bool true) (Xm rfl rfl)<|Zm ?_;exact ⟨rfl,_,_,hm,ab,ad,ae,af,ag,ah,ao,ap,aq,ar,au,ac,aj,ai,al,am,an,hrec,hmk,hki,rfl⟩
    refine lV (.bool (!decide (d7.2=0))) (Xd (congrArg Value.bool fa) rfl)<|Yh rfl ?_;refine Xz hm (fun fb hm=>go ?_) fun fb hm=>go ?_
    ·refine lV (.bool true) (Xm (congrArg Value.bool fb) rfl)<|Yh rfl<|lP 96 rfl rfl<|lP 96 rfl rfl<|lP 96 rfl rfl<|lP 96 rfl rfl<|lV (.bool true) (Xm rfl rfl)<|Zm ?_;exact ⟨rfl,_,_,hm,ab,ad,ae,af,ag,ah,ao,ap,aq,ar,au,ac,aj,ai,al,am,an,hrec,hmk,hki,rfl⟩
    obtain ⟨i0,i1,hm⟩:=bZ hm;refine Zi (Znd i1 ((cx.toSlF (Ze.int .i64)).froz 4) ((a4.froz 25 (by decide)).toSlF (Ze.int .i64))) ?_;rintro _ gf ⟨rfl,be⟩;refine ⟨_,rfl,?_⟩;replace be:Zg dv h4 dv gf:=.of_below be;refine go ?_;refine lV (.bool (!i0)) (Xd (congrArg Value.bool fb) rfl)<|Yh rfl ?_;replace ad:=ad.gr be;replace ae:=ae.gr be;replace af:=af.gr be;replace ag:=ag.gr be;replace ao:=ao.gr be;replace ap:=ap.gr be;replace aq:=aq.gr be;replace ar:=ar.gr be;replace aj:=aj.gr be;replace al:=al.gr be;replace am:=am.gr be;replace a4:=a4.gr be;replace dg:=dg.gr be;replace ah:=ah.gr be;replace au:=au.gr be;replace ac:=ac.gr be;replace ai:=ai.gr be;replace an:=an.gr be;replace hrec:=hrec.gr be;replace hmk:=hmk.gr be;replace hki:=hki.gr be;replace ab:=ab.grow be;refine Xz hm (fun fc hm=>go ?_) fun fc hm=>go ?_
    ·refine lV (.bool true) (Xm (congrArg Value.bool fc) rfl)<|Zm ?_;exact ⟨rfl,_,_,hm,ab,ad,ae,af,ag,ah,ao,ap,aq,ar,au,ac,aj,ai,al,am,an,hrec,hmk,hki,rfl⟩
    obtain ⟨i2,i3,hm⟩:=bZ hm;refine Zi (Znd i3 ((dg.toSlF (Ze.int .i64)).froz 4) ((a4.froz 30 (by decide)).toSlF (Ze.int .i64))) ?_;rintro _ i4 ⟨rfl,bk⟩;refine ⟨_,rfl,?_⟩;replace bk:Zg dv gf dv i4:=.of_below bk;refine go ?_;refine lV (.bool (!i2)) (Xd (congrArg Value.bool fc) rfl)<|Zm ?_;replace ad:=ad.gr bk;replace ae:=ae.gr bk;replace af:=af.gr bk;replace ag:=ag.gr bk;replace ao:=ao.gr bk;replace ap:=ap.gr bk;replace aq:=aq.gr bk;replace ar:=ar.gr bk;replace aj:=aj.gr bk;replace al:=al.gr bk;replace am:=am.gr bk;replace ah:=ah.gr bk;replace au:=au.gr bk;replace ac:=ac.gr bk;replace ai:=ai.gr bk;replace an:=an.gr bk;replace hrec:=hrec.gr bk;replace hmk:=hmk.gr bk;replace hki:=hki.gr bk;replace ab:=ab.grow bk;exact ⟨rfl,_,_,hm,ab,ad,ae,af,ag,ah,ao,ap,aq,ar,au,ac,aj,ai,al,am,an,hrec,hmk,hki,rfl⟩
   refine Wb (col:=c3) [(0,1),(1,1),(2,1),(3,1),(4,0),(5,1),(6,0),(8,0),(7,3),(9,3),(10,1),(11,1)] (by kernel_rfl) (by kernel_rfl)<|xu rfl rfl (fun _=>Wv rfl) ?_;refine xu rfl rfl (fun _=>Zjl _ _ rfl rfl) ?_;refine xu rfl rfl (fun _=>Zps rfl) ?_;refine Xz hm (fun b4 hm=>?_) fun b4 hm=>?_
   ·refine U0 (b:=!decide (aa.2=0)) 52 rfl rfl rfl rfl rfl (by rw [b4];rfl)<|U0 (b:=!decide (aa.2=0)) 52 rfl rfl rfl rfl rfl (by rw [b4];rfl)<|U0 (b:=!decide (aa.2=0)) 52 rfl rfl rfl rfl rfl (by rw [b4];rfl)<|U0 (b:=!decide (aa.2=0)) 52 rfl rfl rfl rfl rfl (by rw [b4];rfl)<|U0 (b:=!decide (aa.2=0)) 52 rfl rfl rfl rfl rfl (by rw [b4];rfl)<|U0 (b:=!decide (aa.2=0)) 52 rfl rfl rfl rfl rfl (by rw [b4];rfl)<|U0 (b:=!decide (aa.2=0)) 52 rfl rfl rfl rfl rfl (by rw [b4];rfl)<|U0 (b:=!decide (aa.2=0)) 52 rfl rfl rfl rfl rfl (by rw [b4];rfl)<|xu (v:=(.bool true)) rfl rfl (fun _=>Xm (congrArg Value.bool b4) rfl) ?_;refine Yz ?_;intro mi hC;replace hC:=hC.bl c3;replace ad:=ad.gr hC;replace ae:=ae.gr hC;replace af:=af.gr hC;replace ag:=ag.gr hC;replace aj:=aj.gr hC;replace al:=al.gr hC;replace am:=am.gr hC;replace a4:=a4.gr hC;replace ca:=ca.gr hC;replace cb:=cb.gr hC;replace ao:=ao.gr hC;replace ap:=ap.gr hC;replace aq:=aq.gr hC;replace ar:=ar.gr hC;replace ah:=ah.gr hC;replace ac:=ac.gr hC;replace ai:=ai.gr hC;replace an:=an.gr hC;replace cc:=cc.gr hC;replace au:=au.gr hC;replace hrec:=hrec.gr hC;replace hmk:=hmk.gr hC;replace hki:=hki.gr hC;replace ab:=ab.grow hC;exact ⟨rfl,_,_,hm,ab,ad,ae,af,ag,ah,ca,cb,cc,ao,ap,aq,ar,au,ac,aj,ai,al,am,an,a4,hrec,hmk,hki,rfl⟩
   refine Zjt (v:=(.pointer ((some (⟨dt,0,none⟩:Addr)).map (·.add 3)))) (b:=!decide (aa.2=0)) 52 rfl rfl rfl rfl rfl (by rw [b4];rfl) (fun _=>Uq (sz:=3) (off:=3) underlying55 rfl sizeOf35 (by decide) rfl rfl ⟨_,_,rfl⟩) ?_;refine Zju (v:=(.agg #[.bool aa.1.2.1.1,.slice cj aa.1.2.1.2.length ck,.slice cl aa.1.2.2.length cn])) (b:=!decide (aa.2=0)) 52 rfl rfl rfl rfl rfl (by rw [b4];rfl) (fun _ hC=>Xc isAgg35 sizeOf35 rfl rfl (((au.atN).part 3 3 _ rfl).gr (hC.bl c3))) ?_;refine Zjt (v:=(.pointer ((some (⟨dt,0,none⟩:Addr)).map (·.add 0)))) (b:=!decide (aa.2=0)) 52 rfl rfl rfl rfl rfl (by rw [b4];rfl) (fun _=>Uq (sz:=3) (off:=0) underlying55 rfl sizeOf35 (by decide) rfl rfl ⟨_,_,rfl⟩) ?_;refine Zju (v:=(.agg #[.bool aa.1.1.1.1,.slice b5 aa.1.1.1.2.length b6,.slice b7 aa.1.1.2.length b8])) (b:=!decide (aa.2=0)) 52 rfl rfl rfl rfl rfl (by rw [b4];rfl) (fun _ hC=>Xc isAgg35 sizeOf35 rfl rfl (((au.atN).part 0 3 _ rfl).gr (hC.bl c3))) ?_;refine Zju (v:=(.agg #[.bool c2.2.1.1,.slice et c2.2.1.2.length eu,.slice ew c2.2.2.length ey])) (b:=!decide (aa.2=0)) 52 rfl rfl rfl rfl rfl (by rw [b4];rfl) (fun _ hC=>Xc isAgg35 sizeOf35 rfl rfl (cc.atN.gr (hC.bl c3))) ?_;refine xe rfl rfl ?_;intro i5 hC0;have hC:=hC0.bl c3;refine go ?_;obtain ⟨mj,i6,hm⟩:=bZ hm;replace ao:=ao.gr hC;replace ap:=ap.gr hC;replace aq:=aq.gr hC;replace ar:=ar.gr hC;refine Zi (Zho 33 34 i6 ((((aq.toSlF (Ze.int .u32)).froz 19).froz 16).froz 17) ((((ar.froz 18 (by decide)).toSlF (Ze.int .u32)).froz 16).froz 17) ((((ao.froz 18 (by decide)).froz 19 (by decide)).toSlF (Ze.int .u32)).froz 17) ((((ap.froz 18 (by decide)).froz 19 (by decide)).froz 16 (by decide)).toSlF (Ze.int .u32))) ?_;rintro _ mk ⟨i7,ml,mm,mn,mo,rfl,a5,ea,eb⟩;refine ⟨_,rfl,?_⟩;replace ea:=ea.thaw (Zs .u32) a5 (((((Fz.refl (col:=c3)).froz 18).froz 19).froz 16).froz 17) (by decide);replace eb:=eb.thaw (Zs .u32) a5 (((((Fz.refl (col:=c3)).froz 18).froz 19).froz 16).froz 17) (by decide);replace a5:=a5.thawR (col:=c3);generalize Z1 i5.heap.size c3 i7=dw at *;refine Zm<|Xr dw hC0 a5<|xe rfl rfl ?_;intro i8 hC0;replace ad:=(ad.gr hC).gr a5;replace ae:=(ae.gr hC).gr a5;replace af:=(af.gr hC).gr a5;replace ag:=(ag.gr hC).gr a5
   replace aj:=(aj.gr hC).gr a5;replace al:=(al.gr hC).gr a5;replace am:=(am.gr hC).gr a5;replace a4:=(a4.gr hC).gr a5;replace ca:=(ca.gr hC).gr a5;replace cb:=(cb.gr hC).gr a5;replace ah:=(ah.gr hC).gr a5;replace ac:=(ac.gr hC).gr a5;replace ai:=(ai.gr hC).gr a5;replace an:=(an.gr hC).gr a5;replace cc:=(cc.gr hC).gr a5;replace au:=(au.gr hC).gr a5;replace hrec:=(hrec.gr hC).gr a5;replace hmk:=(hmk.gr hC).gr a5;replace hki:=(hki.gr hC).gr a5;replace ab:=(ab.grow hC).grow a5;have hC:=hC0.bl dw;refine go ?_;obtain ⟨fd,i9,hm⟩:=bZ hm;replace ca:=ca.gr hC;replace cb:=cb.gr hC;replace ea:=ea.gr hC;replace eb:=eb.gr hC;refine Zi (Sm i9 ((ea.toSlF (Ze.int .u32)).froz 34) ((eb.froz 33 (by decide)).toSlF (Ze.int .u32)) ((ca.froz 33).froz 34) ((cb.froz 33).froz 34)) ?_;rintro _ ja ⟨rfl,a8⟩;refine ⟨_,rfl,?_⟩;replace a8:Zg dw i8 dw ja:=.of_below a8;refine Zm<|Xr dw hC0 a8<|Zjt (v:=(.bool (!decide (fd=0)))) (b:=!decide (aa.2=0)) 52 rfl rfl rfl rfl rfl (by rw [b4];rfl) (fun _=>Zjl fd 0 rfl rfl) ?_;refine xu (v:=(.bool (!decide (fd=0)))) rfl rfl (fun _=>Xd (congrArg Value.bool b4) rfl) ?_;refine Yz ?_;replace ao:=((ao.gr a5).gr hC).gr a8;replace ap:=((ap.gr a5).gr hC).gr a8;replace aq:=((aq.gr a5).gr hC).gr a8;replace ar:=((ar.gr a5).gr hC).gr a8;replace ad:=(ad.gr hC).gr a8;replace ae:=(ae.gr hC).gr a8;replace af:=(af.gr hC).gr a8;replace ag:=(ag.gr hC).gr a8;replace aj:=(aj.gr hC).gr a8;replace al:=(al.gr hC).gr a8;replace am:=(am.gr hC).gr a8;replace a4:=(a4.gr hC).gr a8;replace ah:=(ah.gr hC).gr a8;replace ac:=(ac.gr hC).gr a8;replace ai:=(ai.gr hC).gr a8;replace an:=(an.gr hC).gr a8;replace cc:=(cc.gr hC).gr a8;replace au:=(au.gr hC).gr a8;replace hrec:=(hrec.gr hC).gr a8;replace hmk:=(hmk.gr hC).gr a8;replace hki:=(hki.gr hC).gr a8;replace ab:=(ab.grow hC).grow a8;intro mp hC;replace hC:=hC.bl dw;replace ca:=(ca.gr a8).gr hC;replace cb:=(cb.gr a8).gr hC;replace ad:=ad.gr hC;replace ae:=ae.gr hC;replace af:=af.gr hC;replace ag:=ag.gr hC;replace aj:=aj.gr hC;replace al:=al.gr hC;replace am:=am.gr hC;replace a4:=a4.gr hC;replace ao:=ao.gr hC;replace ap:=ap.gr hC
   replace aq:=aq.gr hC;replace ar:=ar.gr hC;replace ah:=ah.gr hC;replace ac:=ac.gr hC;replace ai:=ai.gr hC;replace an:=an.gr hC;replace cc:=cc.gr hC;replace au:=au.gr hC;replace hrec:=hrec.gr hC;replace hmk:=hmk.gr hC;replace hki:=hki.gr hC;replace ab:=ab.grow hC;exact ⟨rfl,_,_,hm,ab,ad,ae,af,ag,ah,ca,cb,cc,ao,ap,aq,ar,au,ac,aj,ai,al,am,an,a4,hrec,hmk,hki,rfl⟩
  ·intro fe ax ay hJ hmk;obtain ⟨bf,a1,az,aw,hm,ab,ad,ae,af,ag,ah,ac,aj,ai,al,am,an⟩:=hJ;rw [Ta.eq_1] at hm;refine go ?_;obtain ⟨mq,jb,hm⟩:=bZ hm;refine Zi (Ze0 (col:=ax) 9 10 jb Sl.nil) ?_;rintro _ mr ⟨jc,ms,mt,mu,mv,rfl,ec,di,dj⟩;refine ⟨_,rfl,?_⟩;refine Xa (col:=jc) #[.bool false,.slice none (([]:List Int).length) 0,.slice none (([]:List Int).length) 0] 11 zeroValue35 ?_;intro jd mw mx dl je;refine Zu je ?_;intro my dm jf ct;refine go ?_;replace aj:=((aj.gr ec).gr dl).kp dm;replace aj:=aj.froz 9 (by decide);replace di:=(di.gr dl).kp dm;replace di:=(di).toSlF (Ze.int .u32);replace dj:=(dj.gr dl).kp dm;replace dj:=dj.froz 9 (by decide);replace ac:=((ac.gr ec).gr dl).kp dm;replace ac:=ac.froz 9 (by decide);replace ai:=((ai.gr ec).gr dl).kp dm;replace ai:=ai.froz 9 (by decide);replace ct:=ct.froz 9 (by decide);replace hmk:=((hmk.gr ec).gr dl).kp dm;replace hmk:=hmk.froz 9 (by decide);replace ab:=((ab.grow ec).grow dl).kp dm jf;replace ab:=ab.froz 9 (by decide) (by decide);replace aj:=aj.froz 10 (by decide);replace di:=di.froz 10;replace dj:=(dj).toSlF (Ze.int .u32);replace ac:=ac.froz 10 (by decide);replace ai:=ai.froz 10 (by decide);replace ct:=ct.froz 10 (by decide);replace hmk:=hmk.froz 10 (by decide);replace ab:=ab.froz 10 (by decide) (by decide);refine Z5 [19,2,5,1000000] (fun n f c8=>∃ br ff fg fh en fi fj eo fk fl dx,dx=n∧Zdp N aw dx ff en eo fk fl=some r∧St w0 (Zk col) br c8∧Sl (Za.int .u32) br c8 fg fh en∧Sl (Za.int .u32) br c8 fi fj eo∧Zj 35 11 br c8 jd #[.bool ff,.slice fg en.length fh,.slice fi eo.length fj]∧Zj 4 2 br c8 ce #[.bool fk]∧Zb (Za.pair (Za.pair (Za.pair Za.bool (Za.slice (Za.int .u32))) (Za.slice (Za.int .u32))) (Za.pair (Za.pair Za.bool (Za.slice (Za.int .u32))) (Za.slice (Za.int .u32)))) 55 8 br c8 a1 az aw∧Zj 53 3 br c8 c6 #[.slice a1 aw.length az]∧Yp 499 br c8 (fe :: [])∧[20].map f=[.int .i64 fl]) N ⟨_,_,_,_,_,_,_,_,_,0,_,rfl,hm,ab,di,dj,ct,ac,aj,ai,hmk,rfl⟩ ?_;clear hm;intro n f c8 hI;obtain ⟨br,ff,fg,fh,en,fi,fj,eo,fk,fl,dx,hn,hm,ab,ep,eq,ct,ac,aj,ai,hmk,hs⟩:=hI;subst hn;refine .lL [20] hs ?_
   cases dx with
   | zero=>rw [Zdp.eq_1] at hm;cases hm
   | succ dx=>
    rw [Zdp.eq_2] at hm;refine go ?_;refine lW ai.at1<|go ?_;refine Zp hm (fun hb hm=>go ?_) fun hb hm=>go ?_
    ·refine Vy (col:=br) (by kernel_rfl) (by kernel_rfl)<|qW (fun _ hC=>ai.at1.gr (hC.bl br)) ?_;refine go ?_;obtain ⟨dy,da,hm⟩:=bZ hm;refine qI da (aj.addr da)<|qF (Ur (aj.addr da)) ?_;obtain ⟨_,jg,jh⟩:=aj.atN da;obtain ⟨_,_,rfl,ji,jj⟩:=jg.parts;obtain ⟨_,_,rfl,jk,jl⟩:=ji.parts;obtain ⟨_,_,rfl,jm,jn⟩:=jk.parts;obtain rfl:=jm.bool;obtain ⟨jo,jp,rfl,jq⟩:=jn.slice;obtain ⟨jr,js,rfl,jt⟩:=jl.slice;obtain ⟨_,_,rfl,ju,jv⟩:=jj.parts;obtain ⟨_,_,rfl,jw,jx⟩:=ju.parts;obtain rfl:=jw.bool;obtain ⟨mz,m0,rfl,m1⟩:=jx.slice;obtain ⟨m2,m3,rfl,m4⟩:=jv.slice;refine qv (v:=(.agg #[.bool dy.1.1.1,.slice jo dy.1.1.2.length jp,.slice jr dy.1.2.length js])) rfl (fun _ hC=>Xc isAgg35 sizeOf35 rfl rfl (((jh).part 0 3 _ rfl).gr (hC.bl br))) ?_;refine qv rfl (fun _ hC=>Z3 isAgg35 sizeOf35 (ct.gr (hC.bl br))) ?_;obtain ⟨jy,jz,hm⟩:=bZ hm;refine qc (v:=(.int .i64 jy)) rfl (fun _ hC=>⟨_,_,Zl9 call17 rfl rfl,(Sm jz (jq.gr (hC.bl br)) (jt.gr (hC.bl br)) (ep.gr (hC.bl br)) (eq.gr (hC.bl br)):).mono fun _ _ h=>⟨h.1,hC.trans (.of_below h.2)⟩⟩) ?_;refine go ?_;refine Wn ?_;intro m5 hC;replace hC:=hC.bl br;replace aj:=aj.gr hC;replace ct:=ct.gr hC;replace ac:=ac.gr hC;replace ai:=ai.gr hC;replace hmk:=hmk.gr hC;replace ab:=ab.grow hC;refine Zp hm (fun hb hm=>go ?_) fun hb hm=>go ?_
     ·refine Ux (v:=(.bool false)) ac sizeOf4 rfl rfl (by intro u hu;simp only [Value.cells,List.mem_cons,List.not_mem_nil,or_false] at hu;subst hu;rfl) rfl rfl ?_;intro j0 gg j1 ed;replace ed:Zj 4 2 br j0 ce #[.bool false]:=ed;refine go ?_;cases hm;replace hmk:=hmk.kp gg;refine ⟨_,(fe :: []),rfl,hmk,?_⟩;intro m6 gh j2;replace ab:=(ab.kp gg j1).kp gh j2;replace ed:=ed.kp gh;exact ⟨_,Zha rfl rfl isAgg4 rfl ed.at1,rfl,ab.below⟩
     refine lW ai.at1<|Ya rfl<|lI da (aj.addr da)<|Xo (Ur (aj.addr da)) ?_;obtain ⟨_,j3,j4⟩:=aj.atN da;obtain ⟨_,_,rfl,j5,j6⟩:=j3.parts;obtain ⟨_,_,rfl,j7,j8⟩:=j5.parts;obtain ⟨_,_,rfl,j9,ka⟩:=j7.parts;obtain rfl:=j9.bool;obtain ⟨m7,m8,rfl,m9⟩:=ka.slice;obtain ⟨na,nc,rfl,nd⟩:=j8.slice;obtain ⟨_,_,rfl,kb,kc⟩:=j6.parts;obtain ⟨_,_,rfl,kd,ke⟩:=kb.parts;obtain rfl:=kd.bool;obtain ⟨kf,kg,rfl,fm⟩:=ke.slice;obtain ⟨kh,ki,rfl,fn⟩:=kc.slice;refine lV (.agg #[.bool dy.2.1.1,.slice kf dy.2.1.2.length kg,.slice kh dy.2.2.length ki]) (Xc isAgg35 sizeOf35 rfl rfl ((j4).part 3 3 _ rfl))<|Zu ct ?_;intro ne dn kj kk;refine go ?_;replace aj:=aj.kp dn;replace fm:=fm.kp dn;replace fn:=fn.kp dn;replace ac:=ac.kp dn;replace ai:=ai.kp dn;replace hmk:=hmk.kp dn;replace ab:=ab.kp dn kj;exact ⟨dx,by omega,rfl,⟨_,_,_,_,_,_,_,_,_,_,_,rfl,hm,ab,fm,fn,kk,ac,aj,ai,hmk,rfl⟩⟩
    obtain ⟨db,kl,hm⟩:=bZ hm;refine Zi (Zm4 (col:=br) 12 13 kl) ?_;rintro _ nf ⟨km,gi,gj,gk,gl,rfl,dz,fp,fq⟩;refine ⟨_,rfl,?_⟩;refine lM (.tuple #[(.agg #[.bool db.1.1.1,.slice gi db.1.1.2.length gj,.slice gk db.1.2.length gl]),.int .i64 db.2])<|lV (.agg #[.bool db.1.1.1,.slice gi db.1.1.2.length gj,.slice gk db.1.2.length gl]) (Z8 rfl rfl)<|lV (.int .i64 db.2) (Z8 rfl rfl)<|Xa (col:=km) #[.bool false,.slice none (([]:List Int).length) 0,.slice none (([]:List Int).length) 0] 14 zeroValue35 ?_;intro ng nh fr dc kn;refine Zu kn ?_;intro ko dd kq kr;refine go ?_;replace ct:=((ct.gr dz).gr dc).kp dd;refine lV _ (Z3 isAgg35 sizeOf35 ct)<|lV _ (Z3 isAgg35 sizeOf35 kr) ?_;obtain ⟨gm,kt,hm⟩:=bZ hm;replace ep:=((ep.gr dz).gr dc).kp dd;replace eq:=((eq.gr dz).gr dc).kp dd;replace fp:=(fp.gr dc).kp dd;replace fq:=(fq.gr dc).kp dd;refine Zi (Sm kt ((ep.froz 12).froz 13) ((eq.froz 12).froz 13) ((fp.toSlF (Ze.int .u32)).froz 13) ((fq.froz 12 (by decide)).toSlF (Ze.int .u32))) ?_;rintro _ ku ⟨rfl,ee⟩;refine ⟨_,rfl,?_⟩;replace ee:Zg fr ko fr ku:=.of_below ee;refine go ?_;replace ac:=(((ac.gr dz).gr dc).kp dd).gr ee;refine Ux (v:=(.bool (decide (gm=0)))) ac sizeOf4 rfl rfl (by intro u hu;simp only [Value.cells,List.mem_cons,List.not_mem_nil,or_false] at hu;subst hu;rfl) rfl rfl ?_;intro kv gp kw ef;replace ef:Zj 4 2 fr kv ce #[.bool (decide (gm=0))]:=ef;refine go ?_;cases hm;replace hmk:=((((hmk.gr dz).gr dc).kp dd).gr ee).kp gp;refine ⟨_,(fe :: []),rfl,hmk,?_⟩;intro ni gs kx;replace ab:=(((((ab.grow dz).grow dc).kp dd kq).grow ee).kp gp kw).kp gs kx;replace ef:=ef.kp gs;exact ⟨_,Zha rfl rfl isAgg4 rfl ef.at1,rfl,ab.below⟩
  intro c_ ky ax ay hX hmk;obtain ⟨rfl,hX⟩:=hX;obtain ⟨bf,a1,az,aw,hm,ab,ad,ae,af,ag,ah,ac,aj,ai,al,am,an⟩:=hX;rw [Zk2.eq_1] at hm;refine Wx ?_;cases hm;refine ⟨_,(ky :: []),rfl,hmk,?_⟩;intro nj gt kz;replace ac:=ac.kp gt;replace ab:=ab.kp gt kz;exact ⟨_,Zha rfl rfl isAgg4 rfl ac.at1,rfl,ab.below⟩
 refine go ?_;refine Xz hm (fun ft hm=>go ?_) fun ft hm=>go ?_
 ·refine lV (.bool true) (Xm (congrArg Value.bool ft) rfl)<|Zm ?_;exact ⟨rfl,_,_,hm,ab,ad,ae,af,ag,ah,ac,hmk,rfl⟩
 refine lV (.bool (!gw)) (Xd (congrArg Value.bool ft) rfl)<|Zm ?_;exact ⟨rfl,_,_,hm,ab,ad,ae,af,ag,ah,ac,hmk,rfl⟩
/-! so few assignments -/
theorem Zws {N W:Nat} {n:Zz} (hf:Yt N n) (hs:Wh n W):∀ (f v c:Nat),v≤n.2.1.length→c≤300→Zab N n f (c:Int) (v:Int)=some true→c * Xu ((Yj n).drop v)≤300
 | 0,v,c,_,_,h=>by rw [Zab.eq_1] at h;cases h
 | f+1,v,c,h1,h2,h=>by
  have hv:=hf.ev.v;have hle:=hf.le
  have hsz:(Yj n).length=n.2.1.length:=by rw [Yj,List.length_map,hv]
  rw [Zab.eq_2] at h
  by_cases hk:v<n.2.1.length
  ·have hk1:v<n.2.2.1.length:=by omega
   have hl:=hs.vl _ (List.getElem_mem hk1)
   have hm:c * n.2.2.1[v].length≤300 * 1048576:=Nat.mul_le_mul h2 hl
   have e:(c:Int) * (n.2.2.1[v].length:Int)=((c * n.2.2.1[v].length:Nat):Int):=(Int.natCast_mul _ _).symm
   rw [if_pos (decide_eq_true (by omega)),Xk hk1,Option.bind_some,e,Z4 (by omega)] at h
   have hdr:(Yj n).drop v=n.2.2.1[v].length :: (Yj n).drop (v+1):=by
    rw [List.drop_eq_getElem_cons (by omega)]
    simp only [Yj,List.getElem_map]
   by_cases h3:300<((c * n.2.2.1[v].length:Nat):Int)
   ·rw [if_pos (decide_eq_true h3)] at h;cases h
   ·rw [if_neg (by rw [decide_eq_false h3];decide),wS (by omega)] at h
    have ih:=Zws hf hs f (v+1) (c * n.2.2.1[v].length) (by omega) (by omega) h
    rw [hdr,Xu,← Nat.mul_assoc]
    exact ih
  ·rw [List.drop_eq_nil_of_le (by omega),Xu,Nat.mul_one];exact h2
theorem Z32 {N W:Nat} {n:Zz} (hf:Yt N n) (hs:Wh n W) (h:Zcd N n=some true):Xu (Yj n)≤300:=by
 rw [Zcd] at h
 have J:∀ b,Zce N n b=some true→Xu (Yj n)≤300:=fun b hb=>by
  rw [Zce] at hb
  cases b with
  | true=>rw [if_pos rfl] at hb;cases hb
  | false=>
   rw [if_neg (by decide)] at hb
   have:=Zws hf hs N 0 1 (Nat.zero_le _) (by decide) hb
   rwa [List.drop_zero,Nat.one_mul] at this
 cases hm:Zdq N (n.1,n.2.1,n.2.2.1,n.2.2.2.1,n.2.2.2.2) with
 | none=>rw [hm] at h;cases h
 | some r=>
  rw [hm,Option.bind_some] at h
  cases r with
  | true=>rw [if_pos rfl] at h;exact J _ h
  | false=>
   rw [if_neg (by decide)] at h
   cases hc:W5 N (n.1,n.2.1,n.2.2.1,n.2.2.2.1,n.2.2.2.2) with
   | none=>rw [hc] at h;cases h
   | some e=>rw [hc,Option.bind_some] at h;exact J _ h
/-! the list that is put in order -/
abbrev sp (n:Zz) (ord w:List Int):Rat×Rat:=Ye n w ord (0,1)
def V8 (n:Zz) (ord w:List Int):List R2→List R2
 | []=>[w]
 | u :: M=>if (sp n ord u).1<(sp n ord w).1 then u :: V8 n ord w M else w :: u :: M
theorem Zkm {n:Zz} {ord w:List Int}:∀ (M:List R2) (x:List Int),x ∈ V8 n ord w M↔x=w∨x ∈ M
 | [],x=>by rw [V8];simp
 | u :: M,x=>by
  rw [V8]
  split
  ·rw [List.mem_cons,Zkm M x,List.mem_cons]
   constructor
   ·rintro (h | h | h)
    ·exact .inr (.inl h)
    ·exact .inl h
    ·exact .inr (.inr h)
   ·rintro (h | h | h)
    ·exact .inr (.inl h)
    ·exact .inl h
    ·exact .inr (.inr h)
  ·rw [List.mem_cons]
theorem Zs1 {n:Zz} {ord w:List Int}:∀ M:List R2,(V8 n ord w M).length=M.length+1
 | []=>rfl
 | u :: M=>by
  rw [V8];split
  ·rw [List.length_cons,Zs1 M,List.length_cons]
  ·rfl
theorem Zs2 {n:Zz} {ord w:List Int}:∀ M:List R2,M.Nodup→w ∉ M→(V8 n ord w M).Nodup
 | [],_,_=>by rw [V8];simp
 | u :: M,h,hw=>by
  obtain ⟨h1,h2⟩:=List.nodup_cons.1 h
  rw [List.mem_cons,not_or] at hw
  rw [V8];split
  ·refine List.nodup_cons.2 ⟨fun hm=>?_,Zs2 M h2 hw.2⟩
   rcases (Zkm M u).1 hm with e | e
   ·exact hw.1 e.symm
   ·exact h1 e
  ·exact List.nodup_cons.2 ⟨by rw [List.mem_cons,not_or];exact hw,h⟩
def Zj1 (n:Zz) (ord:List Int) (M:List R2):Prop:=M.Pairwise fun a b=>(sp n ord a).1≤(sp n ord b).1
theorem Zs3 {n:Zz} {ord w:List Int}:∀ M:List R2,Zj1 n ord M→Zj1 n ord (V8 n ord w M)
 | [],_=>by rw [V8];exact List.pairwise_singleton _ _
 | u :: M,h=>by
  obtain ⟨h1,h2⟩:=List.pairwise_cons.1 h
  rw [V8];split
  ·rename_i hlt
   refine List.pairwise_cons.2 ⟨fun x hx=>?_,Zs3 M h2⟩
   rcases (Zkm M x).1 hx with rfl | hx
   ·exact Rat.le_of_lt hlt
   ·exact h1 x hx
  ·rename_i hlt
   refine List.pairwise_cons.2 ⟨fun x hx=>?_,h⟩
   rcases List.mem_cons.1 hx with rfl | hx
   ·exact Rat.not_lt.1 hlt
   ·exact Rat.le_trans (Rat.not_lt.1 hlt) (h1 x hx)
section
variable {N W K:Nat} {n:Zz} (hf:Yt N n) (hs:Wh n W) (hr:Xj N (8 * K+40)) (hWK:1025 * (W+2)+15≤K) (hN:2199023255552<N) {ord:List Int} (ho:Vs n.2.2.2.1 ord) (hol:ord.length≤12)
variable (hC:W5 N n=some 0) (o1:Ua N n.2.2.2.1=some (ord,0)) (hall:∀ i,i<n.2.1.length→(i:Int) ∈ ord)
include hf hs hr hWK hN ho hol
omit hr hN in
theorem Zmn {w:List Int} (hw:X3 n w):qs (sp n ord w).1≤K∧qs (sp n ord w).2≤K:=by
 obtain ⟨a,b⟩:=Zp8 hf hs hw ho
 have hmul:ord.length * (W+2)≤12 * (W+2):=Nat.mul_le_mul_right _ hol
 have a':qs (sp n ord w).1≤ord.length * (W+2)+2:=a
 have b':qs (sp n ord w).2≤ord.length * (W+2)+2:=b
 exact ⟨by omega,by omega⟩
omit hN in
theorem Zwp {w:List Int} (hw:X3 n w) (e:Int) (v:Bool) (kk:Bool→List (QV×QV)→Option Bool):∀ (M pre:List R2) (f:Nat),(∀ u ∈ M,X3 n u)→pre.length+M.length≤1048576→M.length<f→
  Za2 N v ((pre++M).map fun u=>Xs (sp n ord u)) kk (Xs (sp n ord w),e) f (pre.length:Int)=kk v ((pre++V8 n ord w M).map fun u=>Xs (sp n ord u))
 | M,pre,0,_,_,h=>by omega
 | M,pre,f+1,hM,hl,hfu=>by
  obtain ⟨qw,_⟩:=Zmn hf hs hWK ho hol hw
  have hlen:((pre++M).map fun u=>Xs (sp n ord u)).length=pre.length+M.length:=by rw [List.length_map,List.length_append]
  have stop:∀ kk3,V8 n ord w M=w :: M→Zdo v ((pre++M).map fun u=>Xs (sp n ord u)) kk (Xs (sp n ord w),e) (pre.length:Int) kk3 false=kk v ((pre++V8 n ord w M).map fun u=>Xs (sp n ord u)):=fun kk3 hi=>by
   have t1:((pre++M).map fun u=>Xs (sp n ord u)).take pre.length=pre.map fun u=>Xs (sp n ord u):=by
    rw [List.map_append];exact List.take_left' (List.length_map _)
   have t2:((pre++M).map fun u=>Xs (sp n ord u)).drop pre.length=M.map fun u=>Xs (sp n ord u):=by
    rw [List.map_append];exact List.drop_left' (List.length_map _)
   rw [Zdo,if_neg (by decide),Int.toNat_natCast,t1,t2,hlen]
   simp only [List.nil_append,List.length_nil,List.length_append,List.length_map,List.length_singleton]
   rw [Xi (by omega),Xi (by simp only [maxLen];omega),Xi (by simp only [maxLen];omega),Xi (by omega),Xi (by simp only [maxLen];omega),hi,List.append_assoc,List.map_append,List.map_cons]
   rfl
  rw [Za2.eq_2,hlen]
  cases M with
  | nil=>
   rw [if_neg (by rw [decide_eq_false (by simp)];decide)]
   exact stop _ rfl
  | cons u M=>
   obtain ⟨qu,_⟩:=Zmn hf hs hWK ho hol (hM u List.mem_cons_self)
   have hat:Zn ((pre++u :: M).map fun u=>Xs (sp n ord u)) (pre.length:Int)=some (Xs (sp n ord u)):=by
    rw [Xk (by rw [hlen,List.length_cons];omega),List.getElem_map]
    congr 2
    rw [List.getElem_append_right (Nat.le_refl _)]
    simp
   have cm:Vi N (((Xs (sp n ord u)).1.1.1,(Xs (sp n ord u)).1.1.2),(Xs (sp n ord u)).1.2) (((Xs (sp n ord w)).1.1.1,(Xs (sp n ord w)).1.1.2),(Xs (sp n ord w)).1.2)=some (Vj (sp n ord u).1 (sp n ord w).1):=by
    have:=Zbz (Wa qu) (Wa qw) (hr.mono (by omega))
    rwa [Yx,Yx] at this
   rw [if_pos (decide_eq_true (by rw [List.length_cons];omega)),hat,Option.bind_some]
   dsimp only
   rw [cm,Option.bind_some]
   by_cases hlt:(sp n ord u).1<(sp n ord w).1
   ·have ih:=Zwp hw e v kk M (pre++[u]) f (fun x hx=>hM x (List.mem_cons_of_mem _ hx)) (by rw [List.length_append,List.length_singleton];rw [List.length_cons] at hl;omega) (by rw [List.length_cons] at hfu;omega)
    rw [List.append_assoc,List.append_assoc,List.singleton_append,List.singleton_append,List.length_append,List.length_singleton] at ih
    rw [List.length_cons] at hl
    rw [decide_eq_true (Zjf.2 hlt),Zdo,if_pos rfl,V8,if_pos hlt,wS (by omega)]
    exact ih
   ·rw [decide_eq_false (fun h=>hlt (Zjf.1 h))]
    exact stop _ (by rw [V8,if_neg hlt])
include hall
theorem Zqn {w:List Int} (hw:X3 n w) {X:QV} (q1:RV K X) (h0:0≤Zv X) (h1:(sp n ord w).1≤Zv X) (h2:Zv X<(sp n ord w).2) (hC:W5 N n=some 0) (o1:Ua N n.2.2.2.1=some (ord,0)):Zb3 N n X=some (w,0):=by
 have hC':W5 N (n.1,n.2.1,n.2.2.1,n.2.2.2.1,n.2.2.2.2)=some 0:=hC
 obtain ⟨i1,i2,i3⟩:=Zhc hf ho hw ord (0,1) (fun _ h=>h) (show (0:Rat)≤1 by decide)
 have i3':(sp n ord w).2≤1:=i3
 have g1:Qe N ((X.1.1,X.1.2),X.2)=some (Qo (Zv X)):=Zny q1 (hr.mono (by omega))
 have k1:Vi N ((X.1.1,X.1.2),X.2) (((Zq 1).1.1,(Zq 1).1.2),(Zq 1).2)=some (Vj (Zv X) 1):=by
  have:=Zbz q1 (Wa (Nat.le_of_eq Zpj)) (hr.mono (by omega))
  rwa [Yx] at this
 have c1:¬ Qo (Zv X)<0:=fun h=>absurd h0 (Rat.not_le.2 (Zjf.1 h))
 have c2:¬ 0≤Vj (Zv X) 1:=fun h=>absurd (Std.lt_of_lt_of_le h2 i3') (Rat.not_lt.2 (Z2s.1 h))
 have hc:Zfk N (n.1,n.2.1,n.2.2.1,n.2.2.2.1,n.2.2.2.2) ord ((X.1.1,X.1.2),X.2)=Znq (So n (fun P=>Tl (Zas (Zv X)) P 0) ord (List.replicate n.2.1.length 0) (0,1)):=
  Z0a hf hs hr (by omega) (by omega) ho (by omega) q1 rfl
 rw [Zr0 hf ho (Zxn (Zv X)) ord _ (0,1) (fun _ h=>h) h0 (show (0:Rat)≤1 by decide),Znr hf ho hall (x:=(Zv X,Zv X)) hw h1 h2 (Rat.le_of_lt h2)] at hc
 rw [Zb3,hC',Option.bind_some,if_neg (by decide),g1,Option.bind_some,if_neg (by rw [decide_eq_false c1];decide),Znw,Option.bind_some,k1,Option.bind_some,decide_eq_false c2,Zhx,if_neg (by decide),o1,Option.bind_some,hc]
 rfl
omit hN in
theorem Zwo (all:List R2) (hnd:all.Nodup) (hV:∀ u ∈ all,X3 n u∧(sp n ord u).1<(sp n ord u).2) (hfull:∀ u,X3 n u→(sp n ord u).1<(sp n ord u).2→u ∈ all) (v:Bool) (hl:all.length≤1048576):∀ (M pre:List R2) (e:Rat) (f:Nat),all=pre++M→Zj1 n ord M→0≤e→e≤1→qs e≤K→(∀ u ∈ pre,(sp n ord u).2≤e)→(∀ u ∈ M,e≤(sp n ord u).1)→M.length<f→
  Zdp N (all.map fun u=>Xs (sp n ord u)) f (Zq e).1.1 (Zq e).1.2 (Zq e).2 v (pre.length:Int)=some true
 | M,pre,e,0,_,_,_,_,_,_,_,h=>by omega
 | M,pre,e,f+1,he,hst,e0,e1,qe,hp,hm,hfu=>by
  have hlen:(all.map fun u=>Xs (sp n ord u)).length=pre.length+M.length:=by rw [List.length_map,he,List.length_append]
  have hone:∀ x:Rat,0≤x→x<1→e≤x→∃ u ∈ M,(sp n ord u).1≤x∧x<(sp n ord u).2:=fun x x0 x1 hex=>by
   obtain ⟨u,u1,u2,u3⟩:=Zz4 hf ho x0 x1
   have hmem:=hfull u u1 (Std.lt_of_le_of_lt u2 u3)
   rw [he] at hmem
   rcases List.mem_append.1 hmem with h | h
   ·exact absurd (Std.lt_of_lt_of_le u3 (hp u h)) (Rat.not_lt.2 hex)
   ·exact ⟨u,h,u2,u3⟩
  rw [Zdp.eq_2,hlen]
  cases M with
  | nil=>
   have e1':e=1:=by
    refine Rat.le_antisymm e1 (Rat.not_lt.1 fun h=>?_)
    obtain ⟨u,hu,_⟩:=hone e e0 h Rat.le_refl
    cases hu
   subst e1'
   have fo:Za0 N 1 1=some (Zq 1,0):=by
    have:=Znv (N:=N) (a:=1) (b:=1) (by omega) (by omega) (hr.mono (by omega))
    rw [if_neg (by decide)] at this
    rw [this];congr 3;exact div_one _
   have cm:Vi N (((Zq 1).1.1,(Zq 1).1.2),(Zq 1).2) (((Zq 1).1.1,(Zq 1).1.2),(Zq 1).2)=some 0:=by
    have:=Zbz (N:=N) (Wa qe) (Wa qe) (hr.mono (by omega))
    rw [Yx] at this
    exact this
   rw [if_neg (by rw [decide_eq_false (by simp)];decide),fo,Option.bind_some]
   dsimp only
   rw [cm,Option.bind_some];rfl
  | cons u M=>
   obtain ⟨hu,hu2⟩:=hV u (by rw [he];simp)
   obtain ⟨s1,s2⟩:=List.pairwise_cons.1 hst
   obtain ⟨q1,q2⟩:=Zmn hf hs hWK ho hol hu
   obtain ⟨i1,i2,i3⟩:=Zhc hf ho hu ord (0,1) (fun _ h=>h) (show (0:Rat)≤1 by decide)
   have i3':(sp n ord u).2≤1:=i3
   have heq:(sp n ord u).1=e:=by
    refine Rat.le_antisymm (Rat.not_lt.1 fun h=>?_) (hm u List.mem_cons_self)
    obtain ⟨x,hx,x1,x2⟩:=hone e e0 (Std.lt_of_lt_of_le h (Rat.le_trans (Rat.le_of_lt hu2) i3')) Rat.le_refl
    rcases List.mem_cons.1 hx with rfl | hx
    ·exact absurd h (Rat.not_lt.2 x1)
    ·exact absurd h (Rat.not_lt.2 (Rat.le_trans (s1 x hx) x1))
   have hat:Zn (all.map fun u=>Xs (sp n ord u)) (pre.length:Int)=some (Xs (sp n ord u)):=by
    rw [he,Xk (by rw [List.length_map,List.length_append,List.length_cons];omega),List.getElem_map]
    congr 2
    rw [List.getElem_append_right (Nat.le_refl _)]
    simp
   have cm:Vi N (((Xs (sp n ord u)).1.1.1,(Xs (sp n ord u)).1.1.2),(Xs (sp n ord u)).1.2) (((Zq e).1.1,(Zq e).1.2),(Zq e).2)=some 0:=by
    have:=Zbz (N:=N) (Wa q1) (Wa qe) (hr.mono (by omega))
    have z:Vj (sp n ord u).1 e=0:=by rw [heq,Vj,if_neg Rat.lt_irrefl,if_neg Rat.lt_irrefl]
    rw [Yx,Yx,z] at this
    exact this
   have hsep:∀ x ∈ M,(sp n ord u).2≤(sp n ord x).1:=fun x hx=>Rat.not_lt.1 fun h=>by
    obtain ⟨hx1,hx2⟩:=hV x (by rw [he];simp [hx])
    have:=Z35 hf ho hall hu hx1 (s1 x hx) h Rat.le_refl hx2
    subst this
    rw [he,List.nodup_append] at hnd
    exact (List.nodup_cons.1 hnd.2.1).1 hx
   have hl2:pre.length≤1048576:=by rw [he,List.length_append] at hl;omega
   have ih:=Zwo all hnd hV hfull v hl M (pre++[u]) (sp n ord u).2 f (by rw [he,List.append_assoc];rfl) s2 (Rat.le_trans e0 (by rw [← heq];exact Rat.le_of_lt hu2)) i3' q2 (fun x hx=>by
    rcases List.mem_append.1 hx with h | h
    ·exact Rat.le_trans (hp x h) (by rw [← heq];exact Rat.le_of_lt hu2)
    ·rw [List.mem_singleton] at h;rw [h];exact Rat.le_refl) hsep (by rw [List.length_cons] at hfu;omega)
   rw [List.length_append,List.length_singleton] at ih
   rw [if_pos (decide_eq_true (by rw [List.length_cons];omega)),hat,Option.bind_some,cm,Option.bind_some,if_neg (by decide),wS (by omega)]
   exact ih
theorem Zp5 (hC:W5 N n=some 0) (o1:Ua N n.2.2.2.1=some (ord,0)) (hb:Xu (Yj n)≤300):∀ (m k:Nat) (M:List R2),k+m=Xu (Yj n)→(∀ u,u ∈ M↔∃ j,j<k∧u=Ws (Yj n) j∧(sp n ord u).1<(sp n ord u).2)→M.Nodup→Zj1 n ord M→M.length≤k→
  Ta N n (Zq (mkRat 1 2),0) (Zbq n k m) false (M.map fun u=>Xs (sp n ord u))=some true
 | 0,k,M,hk,hM,hnd,hst,hl=>by
  have hpos:=Zjo hf
  have hV:∀ u ∈ M,X3 n u∧(sp n ord u).1<(sp n ord u).2:=fun u hu=>by
   obtain ⟨j,j1,rfl,j3⟩:=(hM u).1 hu
   exact ⟨Zkg hf (Zhs _ _ hpos (by omega)),j3⟩
  have hfull:∀ u,X3 n u→(sp n ord u).1<(sp n ord u).2→u ∈ M:=fun u hu h=>by
   have hd:=Zxk hf hu
   exact (hM u).2 ⟨Sb (Yj n) u,by have:=Zpe _ _ hd;omega,(Zr8 _ _ hd).symm,h⟩
  have h:=Zwo hf hs hr hWK ho hol hall M hnd hV hfull false (by omega) M [] 0 N rfl hst Rat.le_refl (by decide) (by rw [Zpk];omega) (fun u hu=>by cases hu) (fun u hu=>(Zhc hf ho (hV u hu).1 ord (0,1) (fun _ h=>h) (show (0:Rat)≤1 by decide)).1) (by omega)
  rw [Zbq,Ta.eq_1,Zn0 (hr.mono (by omega)),Option.bind_some]
  exact h
 | m+1,k,M,hk,hM,hnd,hst,hl=>by
  have hpos:=Zjo hf
  obtain ⟨w,hw⟩:∃ w,w=Ws (Yj n) k:=⟨_,rfl⟩
  have hv:X3 n w:=by rw [hw];exact Zkg hf (Zhs _ _ hpos (by omega))
  have hin:=Z1b hv
  have sg:=(Z37 hf hs hr (by omega) (by omega) hC o1 ho (by omega) w).2 hv hin
  have sg':Zaw N (n.1,n.2.1,n.2.2.1,n.2.2.2.1,n.2.2.2.2) w=some (Xs (sp n ord w),0):=sg
  obtain ⟨q1,q2⟩:=Zmn hf hs hWK ho hol hv
  obtain ⟨a1,a2⟩:=Zp8 hf hs hv ho
  have hmul:ord.length * (W+2)≤12 * (W+2):=Nat.mul_le_mul_right _ hol
  have a1':qs (sp n ord w).1≤ord.length * (W+2)+2:=a1
  have a2':qs (sp n ord w).2≤ord.length * (W+2)+2:=a2
  obtain ⟨i1,i2,i3⟩:=Zhc hf ho hv ord (0,1) (fun _ h=>h) (show (0:Rat)≤1 by decide)
  have i1':0≤(sp n ord w).1:=i1
  have i2':(sp n ord w).1≤(sp n ord w).2:=i2
  have hp:=Z36 hf ho hv hall
  have hp':(sp n ord w).2 - (sp n ord w).1=Wm n w n.2.1.length 0 1:=hp
  have su:T6 N (((Xs (sp n ord w)).2.1.1,(Xs (sp n ord w)).2.1.2),(Xs (sp n ord w)).2.2) (((Xs (sp n ord w)).1.1.1,(Xs (sp n ord w)).1.1.2),(Xs (sp n ord w)).1.2)=some (Zq (Wm n w n.2.1.length 0 1)):=by
   have:=Znz (Wa q2) (Wa q1) (hr.mono (by omega))
   rwa [Yx,Yx,hp'] at this
  have qp:qs (Wm n w n.2.1.length 0 1)≤2 * K+1:=by
   have:=Z2x (sp n ord w).2 (sp n ord w).1
   rw [hp'] at this;omega
  have cm:Vi N (((Zq (Wm n w n.2.1.length 0 1)).1.1,(Zq (Wm n w n.2.1.length 0 1)).1.2),(Zq (Wm n w n.2.1.length 0 1)).2) (((Zq (Wm n w n.2.1.length 0 1)).1.1,(Zq (Wm n w n.2.1.length 0 1)).1.2),(Zq (Wm n w n.2.1.length 0 1)).2)=some 0:=by
   have:=Zbz (N:=N) (Wa qp) (Wa qp) (hr.mono (by omega))
   have z:Vj (Wm n w n.2.1.length 0 1) (Wm n w n.2.1.length 0 1)=0:=by rw [Vj,if_neg Rat.lt_irrefl,if_neg Rat.lt_irrefl]
   rw [Yx,z] at this
   exact this
  have sn:Qe N (((Zq (Wm n w n.2.1.length 0 1)).1.1,(Zq (Wm n w n.2.1.length 0 1)).1.2),(Zq (Wm n w n.2.1.length 0 1)).2)=some (Qo (Wm n w n.2.1.length 0 1)):=by
   have:=Zny (Wa qp) (N:=N) (hr.mono (by omega))
   rwa [Yx] at this
  have hnew:w ∉ M:=fun h=>by
   obtain ⟨j,j1,j2,_⟩:=(hM w).1 h
   have e1:=Zpd (Yj n) j hpos (by omega)
   have e2:=Zpd (Yj n) k hpos (by omega)
   rw [← j2] at e1
   rw [← hw] at e2
   omega
  rw [Zbq,← hw,Ta.eq_2]
  dsimp only
  rw [sg',Option.bind_some]
  dsimp only
  rw [if_neg (show ¬ (!decide ((0:Int)=0))=true by decide),su,Option.bind_some,cm,Option.bind_some,Zh8,if_neg (by decide)]
  dsimp only
  rw [sn,Option.bind_some]
  by_cases hz:Wm n w n.2.1.length 0 1=0
  ·rw [if_pos (decide_eq_true (Zvj.2 hz))]
   refine Zp5 hC o1 hb m (k+1) M (by omega) (fun u=>?_) hnd hst (by omega)
   rw [hM u]
   constructor
   ·rintro ⟨j,j1,j2,j3⟩;exact ⟨j,by omega,j2,j3⟩
   ·rintro ⟨j,j1,j2,j3⟩
    by_cases hj:j=k
    ·subst hj
     rw [← hw] at j2
     subst j2
     rw [hz] at hp'
     exact absurd j3 (Rat.not_lt.2 (by grind))
    ·exact ⟨j,by omega,j2,j3⟩
  ·have hlt:(sp n ord w).1<(sp n ord w).2:=Rat.not_le.1 fun h=>hz (by rw [← hp'];have:=Rat.le_antisymm i2' h;grind)
   have at1:Zb3 N (n.1,n.2.1,n.2.2.1,n.2.2.2.1,n.2.2.2.2) (((Xs (sp n ord w)).1.1.1,(Xs (sp n ord w)).1.1.2),(Xs (sp n ord w)).1.2)=some (w,0):=
    Zqn hf hs hr hWK hN ho hol hall hv (X:=Zq (sp n ord w).1) (Wa q1) (by rw [Yx];exact i1') (by rw [Yx];exact Rat.le_refl) (by rw [Yx];exact hlt) hC o1
   have ad:V3 N (((Xs (sp n ord w)).1.1.1,(Xs (sp n ord w)).1.1.2),(Xs (sp n ord w)).1.2) (((Xs (sp n ord w)).2.1.1,(Xs (sp n ord w)).2.1.2),(Xs (sp n ord w)).2.2)=some (Zq ((sp n ord w).1+(sp n ord w).2)):=by
    have:=Ze8 (Wa q1) (Wa q2) (hr.mono (by omega))
    rwa [Yx,Yx] at this
   have qh:qs (mkRat 1 2)≤1:=Zjg (Wt.2 (by decide)) (Wt.2 (by decide)) (by decide)
   have qa:=Zpi (sp n ord w).1 (sp n ord w).2
   have mu:Ul N (((Zq (mkRat 1 2)).1.1,(Zq (mkRat 1 2)).1.2),(Zq (mkRat 1 2)).2) (((Zq ((sp n ord w).1+(sp n ord w).2)).1.1,(Zq ((sp n ord w).1+(sp n ord w).2)).1.2),(Zq ((sp n ord w).1+(sp n ord w).2)).2)=some (Zq (mkRat 1 2 * ((sp n ord w).1+(sp n ord w).2))):=by
    have:=Zkk (Wa qh) (Wa (k:=2 * K+1) (q:=(sp n ord w).1+(sp n ord w).2) (by omega)) (hr.mono (by omega))
    rwa [Yx,Yx] at this
   have hh:mkRat 1 2+mkRat 1 2=1:=by
    rw [Zt6 1 1 (by decide),show (1:Rat)=mkRat 1 1 from rfl,Zoz (by decide) (by decide)];rfl
   have hmid:mkRat 1 2 * ((sp n ord w).1+(sp n ord w).2)+mkRat 1 2 * ((sp n ord w).1+(sp n ord w).2)=(sp n ord w).1+(sp n ord w).2:=by
    rw [← Rat.add_mul,hh,Rat.one_mul]
   have qm:=Zl6 (mkRat 1 2) ((sp n ord w).1+(sp n ord w).2)
   generalize mkRat 1 2 * ((sp n ord w).1+(sp n ord w).2)=mid at *
   have m1:(sp n ord w).1≤mid:=by
    generalize (sp n ord w).1=x at *
    generalize (sp n ord w).2=y at *
    grind
   have m2:mid<(sp n ord w).2:=by
    generalize (sp n ord w).1=x at *
    generalize (sp n ord w).2=y at *
    grind
   have at2:Zb3 N (n.1,n.2.1,n.2.2.1,n.2.2.2.1,n.2.2.2.2) (((Zq mid).1.1,(Zq mid).1.2),(Zq mid).2)=some (w,0):=
    Zqn hf hs hr hWK hN ho hol hall hv (X:=Zq mid) (Wa (by omega)) (by rw [Yx];exact Rat.le_trans i1' m1) (by rw [Yx];exact m1) (by rw [Yx];exact m2) hC o1
   have hwl:=hv.len
   have hle:=hf.le
   have sa:=Z3x (N:=N) (l:=w) (by omega) (by omega)
   have l3:=Zwp hf hs hr hWK ho hol hv 0 false (Ta N n (Zq (mkRat 1 2),0) (Zbq n (k+1) m)) M [] N (fun u hu=>by
    obtain ⟨j,j1,rfl,j3⟩:=(hM u).1 hu
    exact Zkg hf (Zhs _ _ hpos (by omega))) (by simp only [List.length_nil];omega) (by omega)
   rw [List.nil_append,List.nil_append] at l3
   rw [if_neg (by rw [decide_eq_false fun h=>hz (Zvj.1 h)];decide),at1,Option.bind_some,ad,Option.bind_some,mu,Option.bind_some,at2,Option.bind_some]
   dsimp only
   rw [if_neg (show ¬ (!decide ((0:Int)=0))=true by decide),if_neg (show ¬ (!decide ((0:Int)=0))=true by decide),sa,Option.bind_some,if_neg (by decide),Option.bind_some,Zdn,if_neg (by decide)]
   refine Eq.trans l3 (Zp5 hC o1 hb m (k+1) (V8 n ord w M) (by omega) (fun u=>?_) (Zs2 M hnd hnew) (Zs3 M hst) (by rw [Zs1];omega))
   rw [Zkm,hM u]
   constructor
   ·rintro (rfl | ⟨j,j1,j2,j3⟩)
    ·exact ⟨k,by omega,hw,hlt⟩
    ·exact ⟨j,by omega,j2,j3⟩
   ·rintro ⟨j,j1,j2,j3⟩
    by_cases hj:j=k
    ·subst hj;exact .inl (j2.trans hw.symm)
    ·exact .inr ⟨j,by omega,j2,j3⟩
end
theorem Zxj {N W K:Nat} {n:Zz} (hs:Wh n W) (hb:Zhi n) (hq:∀ t ∈ n.2.2.2.2,Yb (t.map W1)≤W) (hr:Xj N (8 * K+40)) (hWK:1025 * (W+2)+15≤K) (hN:2199023255552<N):Zk1 N n=some true:=by
 obtain ⟨b,sm,hb2⟩:=Z31 (N:=N) hs hb (hr.mono (by omega)) (by omega)
 have sm':Zcd N (n.1,n.2.1,n.2.2.1,n.2.2.2.1,n.2.2.2.2)=some b:=sm
 rw [Zk1,Zqb,Option.bind_some,sm',Option.bind_some,if_neg (by decide),Zh7]
 cases b with
 | false=>rw [if_pos (by decide)]
 | true=>
  obtain ⟨hC,hf,h12⟩:=hb2 rfl
  have few:=Z32 hf hs sm
  obtain ⟨l,o1,o2,o3,o4,o5⟩:=hf.or
  have hp:=hf.ev.p
  have ho:Vs n.2.2.2.1 l:=Z2k (by omega) hs.pn.ls (by omega) o2 o4
  have ja:Zfu N (n.1,n.2.1,n.2.2.1,n.2.2.2.1,n.2.2.2.2)=some (Zbq n 0 (Xu (Yj n))):=Z1d hf hs hr (by omega) (by omega) hq (show Xu (Yj n)≤65536 by omega)
  have fo:Za0 N 1 2=some (Zq (mkRat 1 2),0):=by
   have:=Znv (N:=N) (a:=1) (b:=2) (by omega) (by omega) (hr.mono (by omega))
   rw [if_neg (by decide)] at this
   rw [this,Rat.mkRat_eq_div];rfl
  rw [if_neg (by decide),ja,Option.bind_some,fo,Option.bind_some]
  have h:=Zp5 hf hs hr hWK hN ho (by omega) (Z2j o4 o5 hp) hC o1 few (Xu (Yj n)) 0 [] (by omega) (fun u=>⟨fun h=>(by cases h),fun ⟨j,h,_⟩=>(by omega)⟩) List.nodup_nil List.Pairwise.nil (Nat.le_refl _)
  exact h
theorem Zau {α:Type} {b:α→Nat} (hb:∀ x,1≤b x):∀ (l:List α),l.length+1≤X8 b l
 | []=>by simp [X8]
 | x :: l=>by
  have h:=Zau hb l
  have:=hb x
  simp only [X8,List.map_cons,List.sum_cons,List.length_cons] at h ⊢
  omega
theorem Zi8 {α:Type} {b:α→Nat} {x:α}:∀ {l:List α},x ∈ l→b x+1≤X8 b l
 | y :: l,h=>by
  simp only [X8,List.map_cons,List.sum_cons]
  rcases List.mem_cons.1 h with rfl | h
  ·omega
  ·have:=Zi8 (b:=b) h
   simp only [X8] at this
   omega
theorem Zm2 {α:Type} {b:α→Nat} (l:List α):1≤X8 b l:=by simp only [X8];omega
theorem Zj3 (s:ByteArray):1≤Ui s:=by simp only [Ui];omega
theorem Zm0 {α:Type} (s:α):1≤W7 s:=by simp only [W7];omega
theorem Zxu {α:Type} {b:α→Nat} (s:α):1≤Uu b s:=by simp only [Uu];omega
abbrev Qv:QV→Nat:=Uu (Vb (Uu (Vb W7 (X8 W7))) (X8 W7))
abbrev qQ:QV→Prop:=Sc (Sc (fun _=>True) (Vo (Zbo .u32))) (Vo (Zbo .u32))
abbrev Zhk:Zz→Nat:=Uu (Vb Ui (Vb (X8 Ui) (Vb (X8 (X8 Ui)) (Vb (X8 (X8 W7)) (X8 (X8 Qv))))))
abbrev Zpf:Zz→Prop:=Sc (fun _=>True) (Sc (Vo (fun _=>True)) (Sc (Vo (Vo (fun _=>True))) (Sc (Vo (Vo (Zbo .i64))) (Vo (Vo qQ)))))
theorem Ztp {l:List Int} (h:Vo (Zbo .u32) l):Zo l:=by
 intro d hd
 have h1:=h d hd
 simp [Zbo,Lit.wf,IntKind.min,IntKind.max,IntKind.signed,IntKind.bits] at h1
 omega
theorem Zto {x:QV} (h:qQ x):Vg x:=⟨Ztp h.1.2,Ztp h.2⟩
theorem Zm1 (x:QV):x.1.2.length+x.2.length+4≤Qv x:=by
 have h1:=Zau (b:=W7) Zm0 x.1.2
 have h2:=Zau (b:=W7) Zm0 x.2
 simp only [Uu,Vb]
 have h3:W7 x.1.1=1:=rfl
 omega
theorem Zvf:∀ t:List QV,Yb t≤X8 Qv t
 | []=>by rw [Yb];omega
 | x :: t=>by
  have h1:=Zvf t
  have h2:=Zm1 x
  rw [Yb]
  simp only [X8,List.map_cons,List.sum_cons] at h1 ⊢
  omega
theorem Zw7:∀ P:List R2,Th P+P.length≤X8 (X8 W7) P
 | []=>by simp [Th,X8]
 | l :: P=>by
  have h1:=Zw7 P
  have h2:=Zau (b:=W7) Zm0 l
  rw [Zjp,List.length_cons]
  simp only [X8,List.map_cons,List.sum_cons] at h1 h2 ⊢
  omega
theorem Z2b {n:Zz} (hb:Zhk n≤1048576) (hq:Zpf n):Wh n 1048576∧Zhi n:=by
 have a1:=Zj3 n.1
 have a2:=Zau (b:=Ui) Zj3 n.2.1
 have a3:=Zau (b:=X8 Ui) Zm2 n.2.2.1
 have a4:=Zw7 n.2.2.2.1
 have a5:=Zau (b:=X8 Qv) Zm2 n.2.2.2.2
 have a6:=Zm2 (b:=X8 W7) n.2.2.2.1
 simp only [Zhk,Uu,Vb] at hb
 have b3:∀ l ∈ n.2.2.1,l.length≤1048576:=fun l hl=>by
  have h1:=Zi8 (b:=X8 Ui) hl
  have h2:=Zau (b:=Ui) Zj3 l
  omega
 have b4:∀ l ∈ n.2.2.2.1,l.length≤1048576:=fun l hl=>by
  have h1:=Zmo hl
  omega
 have b5:∀ t ∈ n.2.2.2.2,X8 Qv t≤1048576:=fun t ht=>by
  have h1:=Zi8 (b:=X8 Qv) ht
  omega
 have b6:∀ t ∈ n.2.2.2.2,t.length≤1048576:=fun t ht=>by
  have h1:=b5 t ht
  have h2:=Zau (b:=Qv) Zxu t
  omega
 refine ⟨⟨by omega,b3,⟨by omega,by omega⟩,b6,fun t ht=>Nat.le_trans (Zvf t) (b5 t ht),fun t ht x hx=>Zto (hq.2.2.2.2 t ht x hx)⟩,⟨by omega,by omega,b3,by omega,b4,by omega,b6,fun t ht x hx=>?_⟩⟩
 have h1:=b5 t ht
 have h2:=Zi8 (b:=Qv) hx
 have h3:=Zm1 x
 omega
theorem Zrr:∀ t:List QV,(∀ x ∈ t,Vg x)→Yb (t.map W1)≤X8 Qv t
 | [],_=>by rw [List.map_nil,Yb];omega
 | x :: t,h=>by
  have h1:=Zrr t fun y hy=>h y (List.mem_cons_of_mem _ hy)
  have h2:=Zm1 x
  have hx:=h x List.mem_cons_self
  have h3:=Zvh (Zc4 hx.1 hx.2)
  have h4:max (W1 x).1.2.length (W1 x).2.length=qs (Zv x):=rfl
  rw [List.map_cons,Yb,h4]
  simp only [X8,List.map_cons,List.sum_cons] at h1 ⊢
  omega
theorem Z2a {n:Zz} (hb:Zhk n≤1048576) (hq:Zpf n):∀ t ∈ n.2.2.2.2,Yb (t.map W1)≤1048576:=fun t ht=>by
 have h1:=Zrr t fun x hx=>Zto (hq.2.2.2.2 t ht x hx)
 have h2:=Zi8 (b:=X8 Qv) ht
 have a1:=Zj3 n.1
 simp only [Zhk,Uu,Vb] at hb
 omega

end Go.Proofs.YtlchacnggnhhbaaGreat
