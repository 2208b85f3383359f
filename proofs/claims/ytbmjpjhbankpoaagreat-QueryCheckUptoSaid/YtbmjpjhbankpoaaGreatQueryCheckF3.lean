/-
  What functions of the program compute, as plain Lean functions (m_..), and proofs that they compute it (c_..). Printed by a program of the author; no conditions.
-/
import Derived.Test.YtbmjpjhbankpoaaGreatQueryCheckBFloat
import Derived.Test.YtbmjpjhbankpoaaGreatProg
import Derived.Test.YtbmjpjhbankpoaaGreatQueryCheckBPiece
import Derived.Test.YtbmjpjhbankpoaaGreatQueryCheckF2
set_option linter.unusedVariables false
set_option maxRecDepth 100000
set_option maxHeartbeats 2000000
namespace Go.Proofs.YtbmjpjhbankpoaaGreat
open Go Go.RowKit
open Go.IntKind (i8 i16 i32 i64 u8 u16 u32 u64)
open Go.Proofs.Tryz

def Zhi (aa:Int) (ab:List Int):Option (Int×List Int):=
  some (u32.wrap aa,ab)
def Za6 (j0:Nat) (n0:Nat) (ab:List Int) (ae:Int):List Int→Nat→(List Int)→Int→Option (Int×List Int)
  | [],aa,ac,ad=>Xb (0≤(ab.length:Int)∧(ab.length:Int)<(n0:Int)) ((Zv ac ((j0:Int)+(ab.length:Int))).bind fun ah=>Xb (0≤(ab.length:Int)∧(ab.length:Int)<(n0:Int)) ((Zv ac ((j0:Int)+(ab.length:Int))).bind fun al=>(some (ac.set (Int.toNat ((j0:Int)+(ab.length:Int))) (u32.wrap (ah+(u32.wrap ad))))).bind fun ai=>Zhi (u64.wrap ((u64.wrap (ae - 1)) - 1)) ai))
  | af :: aj,aa,ac,ad=>Xb (0≤(aa:Int)∧(aa:Int)<(n0:Int)) ((Zv ac ((j0:Int)+(aa:Int))).bind fun ag=>Xb (0≤(aa:Int)∧(aa:Int)<(n0:Int)) ((Zv ac ((j0:Int)+(aa:Int))).bind fun am=>(some (ac.set (Int.toNat ((j0:Int)+(aa:Int))) (u32.wrap (u64.wrap (ad+(u64.wrap ((u64.wrap ag)+(u64.wrap af)))))))).bind fun ak=>(Za6 j0 n0 ab ae aj) (aa+1) ak (X0 .u64 (u64.wrap (ad+(u64.wrap ((u64.wrap ag)+(u64.wrap af))))) 32)))
termination_by structural x=>x
def Zjm (aa:Nat) (kk_L2:(Nat→(List Int)→Int→Int→Option (Int×List Int))) (ab:List Int) (ac:Int) (ad:Int):Option (Int×List Int):=
  kk_L2 (aa+1) ab ac ad
def Zhj (j0:Nat) (n0:Nat) (ac:Int) (ab:List Int) (af:Int) (aa:Nat) (ad:Int) (kk_L2:(Nat→(List Int)→Int→Int→Option (Int×List Int))) (ae:Int) (ag:Int):Option (Int×List Int):=
  Xb (0≤(aa:Int)∧(aa:Int)<(n0:Int)) ((Zv ab ((j0:Int)+(aa:Int))).bind fun ah=>Xb (0≤(aa:Int)∧(aa:Int)<(n0:Int)) ((Zv ab ((j0:Int)+(aa:Int))).bind fun aj=>(some (ab.set (Int.toNat ((j0:Int)+(aa:Int))) (u32.wrap (ah - (u32.wrap (u64.wrap ((Vc .u64 (u64.wrap (ad+(u64.wrap ((u64.wrap (ac - 1)) * (u64.wrap ae))))) 4294967295)+af))))))).bind fun ai=>Zjm aa kk_L2 ai ag (X0 .u64 (u64.wrap (ad+(u64.wrap ((u64.wrap (ac - 1)) * (u64.wrap ae))))) 32)))
def Sj (j0:Nat) (n0:Nat) (aa:List Int) (ac:Int):List Int→Nat→(List Int)→Int→Int→Option (Int×List Int)
  | [],ad,ab,ae,af=>Xb (0≤(aa.length:Int)∧(aa.length:Int)<(n0:Int)) ((Zv ab ((j0:Int)+(aa.length:Int))).bind fun aj=>Xb (0≤(aa.length:Int)∧(aa.length:Int)<(n0:Int)) ((Zv ab ((j0:Int)+(aa.length:Int))).bind fun ak=>Xb (0≤(aa.length:Int)∧(aa.length:Int)<(n0:Int)) ((Zv ab ((j0:Int)+(aa.length:Int))).bind fun am=>(some (ab.set (Int.toNat ((j0:Int)+(aa.length:Int))) (u32.wrap (ak - (u32.wrap (u64.wrap (af+ae))))))).bind fun ah=>if (decide ((u64.wrap aj)<(u64.wrap (af+ae))))=true then (Za6 j0 n0 aa ac aa 0 ah 0) else (Zhi (u64.wrap (ac - 1)) ah))))
  | ag :: ai,ad,ab,ae,af=>Xb (0≤(ad:Int)∧(ad:Int)<(n0:Int)) ((Zv ab ((j0:Int)+(ad:Int))).bind fun al=>if (decide ((u64.wrap al)<(u64.wrap ((Vc .u64 (u64.wrap (af+(u64.wrap ((u64.wrap (ac - 1)) * (u64.wrap ag))))) 4294967295)+ae))))=true then (Zhj j0 n0 ac ab ae ad af (Sj j0 n0 aa ac ai) ag 1) else (Zhj j0 n0 ac ab ae ad af (Sj j0 n0 aa ac ai) ag 0))
termination_by structural x=>x
def Zhh (j0:Nat) (n0:Nat) (ae:List Int) (aa:List Int) (ab:Int) (ac:Int) (kk_L1:(Int→Int→Option (Int×List Int))):Option (Int×List Int):=
  (Zv aa (i64.wrap ((aa.length:Int) - 1))).bind fun ad=>if (decide (4294967295<(u64.wrap (ac+(u64.wrap ad)))))=true then (Sj j0 n0 aa ab aa 0 ae 0 0) else (kk_L1 (u64.wrap (ab - 1)) (u64.wrap (ac+(u64.wrap ad))))
def Q1 (aa:Int) (ab:List Int):Option (Int×List Int):=
  some (u32.wrap aa,ab)
def Te (j0:Nat) (n0:Nat) (ab:List Int) (ae:Int):List Int→Nat→(List Int)→Int→Option (Int×List Int)
  | [],aa,ac,ad=>Xb (0≤(ab.length:Int)∧(ab.length:Int)<(n0:Int)) ((Zv ac ((j0:Int)+(ab.length:Int))).bind fun ah=>Xb (0≤(ab.length:Int)∧(ab.length:Int)<(n0:Int)) ((Zv ac ((j0:Int)+(ab.length:Int))).bind fun al=>(some (ac.set (Int.toNat ((j0:Int)+(ab.length:Int))) (u32.wrap (ah+(u32.wrap ad))))).bind fun ai=>Q1 (u64.wrap (ae - 1)) ai))
  | af :: aj,aa,ac,ad=>Xb (0≤(aa:Int)∧(aa:Int)<(n0:Int)) ((Zv ac ((j0:Int)+(aa:Int))).bind fun ag=>Xb (0≤(aa:Int)∧(aa:Int)<(n0:Int)) ((Zv ac ((j0:Int)+(aa:Int))).bind fun am=>(some (ac.set (Int.toNat ((j0:Int)+(aa:Int))) (u32.wrap (u64.wrap (ad+(u64.wrap ((u64.wrap ag)+(u64.wrap af)))))))).bind fun ak=>(Te j0 n0 ab ae aj) (aa+1) ak (X0 .u64 (u64.wrap (ad+(u64.wrap ((u64.wrap ag)+(u64.wrap af))))) 32)))
termination_by structural x=>x
def Zhk (aa:Nat) (kk_L4:(Nat→(List Int)→Int→Int→Option (Int×List Int))) (ab:List Int) (ac:Int) (ad:Int):Option (Int×List Int):=
  kk_L4 (aa+1) ab ac ad
def Zcj (j0:Nat) (n0:Nat) (ac:Int) (ab:List Int) (af:Int) (aa:Nat) (ad:Int) (kk_L4:(Nat→(List Int)→Int→Int→Option (Int×List Int))) (ae:Int) (ag:Int):Option (Int×List Int):=
  Xb (0≤(aa:Int)∧(aa:Int)<(n0:Int)) ((Zv ab ((j0:Int)+(aa:Int))).bind fun ah=>Xb (0≤(aa:Int)∧(aa:Int)<(n0:Int)) ((Zv ab ((j0:Int)+(aa:Int))).bind fun aj=>(some (ab.set (Int.toNat ((j0:Int)+(aa:Int))) (u32.wrap (ah - (u32.wrap (u64.wrap ((Vc .u64 (u64.wrap (ad+(u64.wrap (ac * (u64.wrap ae))))) 4294967295)+af))))))).bind fun ai=>Zhk aa kk_L4 ai ag (X0 .u64 (u64.wrap (ad+(u64.wrap (ac * (u64.wrap ae))))) 32)))
def V8 (j0:Nat) (n0:Nat) (aa:List Int) (ac:Int):List Int→Nat→(List Int)→Int→Int→Option (Int×List Int)
  | [],ad,ab,ae,af=>Xb (0≤(aa.length:Int)∧(aa.length:Int)<(n0:Int)) ((Zv ab ((j0:Int)+(aa.length:Int))).bind fun aj=>Xb (0≤(aa.length:Int)∧(aa.length:Int)<(n0:Int)) ((Zv ab ((j0:Int)+(aa.length:Int))).bind fun ak=>Xb (0≤(aa.length:Int)∧(aa.length:Int)<(n0:Int)) ((Zv ab ((j0:Int)+(aa.length:Int))).bind fun am=>(some (ab.set (Int.toNat ((j0:Int)+(aa.length:Int))) (u32.wrap (ak - (u32.wrap (u64.wrap (af+ae))))))).bind fun ah=>if (decide ((u64.wrap aj)<(u64.wrap (af+ae))))=true then (Te j0 n0 aa ac aa 0 ah 0) else (Q1 ac ah))))
  | ag :: ai,ad,ab,ae,af=>Xb (0≤(ad:Int)∧(ad:Int)<(n0:Int)) ((Zv ab ((j0:Int)+(ad:Int))).bind fun al=>if (decide ((u64.wrap al)<(u64.wrap ((Vc .u64 (u64.wrap (af+(u64.wrap (ac * (u64.wrap ag))))) 4294967295)+ae))))=true then (Zcj j0 n0 ac ab ae ad af (V8 j0 n0 aa ac ai) ag 1) else (Zcj j0 n0 ac ab ae ad af (V8 j0 n0 aa ac ai) ag 0))
termination_by structural x=>x
def Zci (j0:Nat) (n0:Nat) (ab:List Int) (aa:List Int) (ac:Int) (ad:Int) (kk_L1:(Int→Int→Option (Int×List Int))) (ae:Bool):Option (Int×List Int):=
  if ae=true then (Zhh j0 n0 ab aa ac ad kk_L1) else (V8 j0 n0 aa ac aa 0 ab 0 0)
def Tv (N:Nat) (j0:Nat) (n0:Nat) (ab:List Int) (aa:List Int):Nat→Int→Int→Option (Int×List Int)
  | 0,_,_=>none
  | ae+1,ac,ad=>if (decide (4294967295<ac))=true then (Zci j0 n0 ab aa ac ad (Tv N j0 n0 ab aa ae) true) else (if (decide (ad≤4294967295))=true then ((Zv aa (i64.wrap ((aa.length:Int) - 2))).bind fun af=>Xb (0≤(i64.wrap ((aa.length:Int) - 2))∧(i64.wrap ((aa.length:Int) - 2))<(n0:Int)) ((Zv ab ((j0:Int)+(i64.wrap ((aa.length:Int) - 2)))).bind fun ag=>Zci j0 n0 ab aa ac ad (Tv N j0 n0 ab aa ae) (decide ((Yi .u64 (Xt .u64 ad 32) (u64.wrap ag))<(u64.wrap (ac * (u64.wrap af))))))) else (Zci j0 n0 ab aa ac ad (Tv N j0 n0 ab aa ae) false))
termination_by structural x=>x
def Ze9 (N:Nat) (j0:Nat) (n0:Nat) (ac:List Int) (aa:List Int):Option (Int×List Int):=
  Xb (0≤(aa.length:Int)∧(aa.length:Int)<(n0:Int)) ((Zv ac ((j0:Int)+(aa.length:Int))).bind fun ad=>Xb (0≤(i64.wrap ((aa.length:Int) - 1))∧(i64.wrap ((aa.length:Int) - 1))<(n0:Int)) ((Zv ac ((j0:Int)+(i64.wrap ((aa.length:Int) - 1)))).bind fun ae=>(Zv aa (i64.wrap ((aa.length:Int) - 1))).bind fun ab=>Xb ((u64.wrap ab)≠0) (Xb ((u64.wrap ab)≠0) (Tv N j0 n0 ac aa N (u64.wrap (Int.tdiv (Yi .u64 (Xt .u64 (u64.wrap ad) 32) (u64.wrap ae)) (u64.wrap ab))) (Int.tmod (Yi .u64 (Xt .u64 (u64.wrap ad) 32) (u64.wrap ae)) (u64.wrap ab))))))
theorem Zux (N:Nat) (col:Zh) (w0:World) (qc0:Nat) (hd:S4 [qc0]=true) (a0:Option Addr) (a2:Nat) (j0:Nat) (n0:Nat) (cp0:Nat) (ae:List Int) (a1:Option Addr) (al:Nat) (aa:List Int) (h0:Zl (Za.int .u32) 79 qc0 col w0 a0 a2 ae) (h1:Sl (Za.int .u32) col w0 a1 al aa) (r:(Int×List Int)) (hm:Ze9 N j0 n0 ae aa=some r):
    Calls Tryz.prog 288 #[.slice (a0.map (·.add (j0 * 1))) n0 cp0,.slice a1 aa.length al] w0 (fun e w'=>∃ (col':Zh),e= .returned ((.int .u32 r.1))∧Xu (pS [qc0]) col w0 col' w'∧Zl (Za.int .u32) 79 qc0 col' w' a0 a2 r.2∧r.2.length=ae.length):=by
 refine Xv 4 (m:=178) func288 rfl rfl rfl rfl rfl ?_;rw [Ze9.eq_1] at hm;have ab:=St.startL (l:=[qc0]) rfl col w0;replace h0:=h0.startL (Zas hd 0 rfl) (Zar hd 0 rfl);refine Zb<|Zd<|Zj rfl<|Zc<|Zb<|Zd<|Zk rfl<|lV _ (Zs underlying43 rfl)<|Zj rfl<|Zc<|Zb<|W5 (col:=(X6 [qc0] col)) (by kernel_rfl) (by kernel_rfl)<|qv rfl (fun _ hC=>Yr rfl) ?_;refine qv rfl (fun _ hC=>Xp rfl) ?_;obtain ⟨d4,hm⟩:=Xd hm;obtain ⟨a7,d5,hm⟩:=bZ hm;refine qv (v:=(Yv a0 (Int.toNat ((j0:Int)+(aa.length:Int)) * 1))) rfl (fun _ hC=>Vj underlying43 sizeOf79 rfl rfl d4.1 d4.2 (h0.addr d5)) ?_;refine qv rfl (fun _ hC=>Zn isAgg79 rfl ((h0.gr (hC.bl (X6 [qc0] col))).atInt d5)) ?_;refine qv (v:=(.int .u64 (u64.wrap a7))) rfl (fun _ hC=>Xx a7 ⟨_,underlying79⟩ underlying193 rfl) ?_;refine qv (v:=(.int .u64 (Xt .u64 (u64.wrap a7) 32))) rfl (fun _ hC=>Zdr (u64.wrap a7) 32 rfl rfl (by decide)) ?_;refine qv rfl (fun _ hC=>Yr rfl) ?_;refine qv rfl (fun _ hC=>Xp rfl) ?_;refine qv rfl (fun _ hC=>Yb _ _ rfl rfl) ?_;obtain ⟨d6,hm⟩:=Xd hm;obtain ⟨bi,d7,hm⟩:=bZ hm;refine qv (v:=(Yv a0 (Int.toNat ((j0:Int)+(i64.wrap ((aa.length:Int) - 1))) * 1))) rfl (fun _ hC=>Vj underlying43 sizeOf79 rfl rfl d6.1 d6.2 (h0.addr d7)) ?_;refine qv rfl (fun _ hC=>Zn isAgg79 rfl ((h0.gr (hC.bl (X6 [qc0] col))).atInt d7)) ?_;refine qv (v:=(.int .u64 (u64.wrap bi))) rfl (fun _ hC=>Xx bi ⟨_,underlying79⟩ underlying193 rfl) ?_;refine qv (v:=(.int .u64 (Yi .u64 (Xt .u64 (u64.wrap a7) 32) (u64.wrap bi)))) rfl (fun _ hC=>Zig (Xt .u64 (u64.wrap a7) 32) (u64.wrap bi) rfl rfl) ?_;refine qv rfl (fun _ hC=>Zah rfl) ?_;refine Y1 ?_;intro fw hC;replace h1:=h1.keep (Zp.startL [qc0] col w0);replace hC:Zf (X6 [qc0] col) w0 (X6 [qc0] col) fw:=.of_below hC.below;refine Zb<|Zd<|Zg rfl<|Zk rfl<|Zg rfl<|lV _ (Yb _ _ rfl rfl) ?_;obtain ⟨bj,bq,hm⟩:=bZ hm;replace ab:=ab.grow hC;refine lV _ (Zx underlying43 sizeOf79 rfl rfl (Zi bq).1 (Zi bq).2.1 ((h1.ks ab).addr bq)) ?_;refine lV _ (Zn isAgg79 rfl ((h1.ks ab).atInt bq))<|lV (.int .u64 (u64.wrap bj)) (Xx bj ⟨_,underlying79⟩ underlying193 rfl) ?_;obtain ⟨fx,hm⟩:=Xd hm;refine lV (.int .u64 (u64.wrap (Int.tdiv (Yi .u64 (Xt .u64 (u64.wrap a7) 32) (u64.wrap bi)) (u64.wrap bj)))) (Ub (Yi .u64 (Xt .u64 (u64.wrap a7) 32) (u64.wrap bi)) (u64.wrap bj) rfl rfl fx)<|Zj rfl<|Zc<|Zb<|Zd<|Zg rfl<|Zk rfl<|Zg rfl<|lV _ (Yb _ _ rfl rfl) ?_
 refine lV _ (Zx underlying43 sizeOf79 rfl rfl (Zi bq).1 (Zi bq).2.1 ((h1.ks ab).addr bq)) ?_;refine lV _ (Zn isAgg79 rfl ((h1.ks ab).atInt bq))<|lV (.int .u64 (u64.wrap bj)) (Xx bj ⟨_,underlying79⟩ underlying193 rfl) ?_;obtain ⟨fy,hm⟩:=Xd hm;refine lV (.int .u64 (Int.tmod (Yi .u64 (Xt .u64 (u64.wrap a7) 32) (u64.wrap bi)) (u64.wrap bj))) (Sw (Yi .u64 (Xt .u64 (u64.wrap a7) 32) (u64.wrap bi)) (u64.wrap bj) rfl rfl fy)<|Zj rfl<|Zc<|Zb<|Z0 ?_;replace h0:=h0.gr hC;refine Xi (fun n f bw=>∃ (a3:Zh) (ac:Int) (au:Int) (bn:Nat),bn=n∧Tv N j0 n0 ae aa bn ac au=some r∧St w0 (X6 [qc0] col) a3 bw∧Zl (Za.int .u32) 79 440 a3 bw a0 a2 ae∧f 0=(.slice (a0.map (·.add (j0 * 1))) n0 cp0)∧f 1=(.slice a1 aa.length al)∧f 5=(.int .i64 aa.length)∧f 7=(.int .u64 ac)∧f 8=(.int .u64 au)∧f 1000000=(enc [])) N ⟨(X6 [qc0] col),(u64.wrap (Int.tdiv (Yi .u64 (Xt .u64 (u64.wrap a7) 32) (u64.wrap bi)) (u64.wrap bj))),(Int.tmod (Yi .u64 (Xt .u64 (u64.wrap a7) 32) (u64.wrap bi)) (u64.wrap bj)),N,rfl,hm,ab,h0,rfl,rfl,rfl,rfl,rfl,rfl⟩ ?_;clear hm;intro n f bw hI;obtain ⟨a3,ac,au,bn,hn,hm,ab,h0,aj,ap,ak,af,b0,ag⟩:=hI;subst hn;refine .lD 0 aj<|.lD 1 ap<|.lD 5 ak<|.lD 7 af<|.lD 8 b0<|.lD 1000000 ag ?_
 cases bn with
 | zero=>rw [Tv.eq_1] at hm;cases hm
 | succ bn=>
  rw [Tv.eq_2] at hm;refine Zb ?_;refine Wp.cut (fun f dg=>∃ (b1:Zh),Zhh j0 n0 ae aa ac au (Tv N j0 n0 ae aa bn)=some r∧St w0 (X6 [qc0] col) b1 dg∧Zl (Za.int .u32) 79 440 b1 dg a0 a2 ae∧f 0=(.slice (a0.map (·.add (j0 * 1))) n0 cp0)∧f 1=(.slice a1 aa.length al)∧f 5=(.int .i64 aa.length)∧f 7=(.int .u64 ac)∧f 8=(.int .u64 au)∧f 1000000=(enc [])) ?_ ?_
  ·intro f dg hJ;obtain ⟨b1,hm,ab,h0,aj,ap,ak,af,b0,ag⟩:=hJ;rw [Zhh.eq_1] at hm;refine .lD 0 aj<|.lD 1 ap<|.lD 5 ak<|.lD 7 af<|.lD 8 b0<|.lD 1000000 ag<|Z0<|Zb<|Zd<|Zg rfl<|lV _ (Yb _ _ rfl rfl)<|Zj rfl<|Zc<|Zb<|Zd<|Zg rfl<|Zk rfl<|Zg rfl<|lV _ (Yb _ _ rfl rfl) ?_;obtain ⟨dh,ce,hm⟩:=bZ hm;refine lV _ (Zx underlying43 sizeOf79 rfl rfl (Zi ce).1 (Zi ce).2.1 ((h1.ks ab).addr ce)) ?_;refine lV _ (Zn isAgg79 rfl ((h1.ks ab).atInt ce))<|lV (.int .u64 (u64.wrap dh)) (Xx dh ⟨_,underlying79⟩ underlying193 rfl)<|lV _ (Z5 _ _ rfl rfl)<|Zj rfl<|Zc<|Zb<|Zd<|Zg rfl<|lV _ (Wa _ _ rfl rfl)<|Zc ?_;refine Zy _ rfl (fun hb=>?_) (fun hb=>?_)
   ·rw [if_pos hb] at hm;refine Xl (Zw7 rfl (Xk ?_));refine Zb<|Zd<|Zj rfl<|Zj rfl<|Zc<|Zb<|Zb<|Zd<|Zk rfl<|lV _ (Zs underlying43 rfl)<|Zg rfl<|Zc<|Z0<|Xi (fun n f di=>∃ (bt:Zh) (a8:List Int) (aq:Int) (av:Nat) (ah:Int) (b2:List Int),n=b2.length∧aa.drop av=b2∧Sj j0 n0 aa ac b2 av a8 aq ah=some r∧St w0 (X6 [qc0] col) bt di∧Zl (Za.int .u32) 79 440 bt di a0 a2 a8∧a8.length=ae.length∧a8.length=ae.length∧f 89=(.int .i64 av)∧f 0=(.slice (a0.map (·.add (j0 * 1))) n0 cp0)∧f 1=(.slice a1 aa.length al)∧f 10=(.int .u64 aq)∧f 5=(.int .i64 aa.length)∧f 7=(.int .u64 (u64.wrap (ac - 1)))∧f 87=(.slice a1 aa.length al)∧f 88=(.int .i64 aa.length)∧f 9=(.int .u64 ah)∧f 1000000=(enc [])) aa.length ⟨b1,ae,0,0,0,aa,rfl,rfl,hm,ab,h0,rfl,rfl,rfl,rfl,rfl,rfl,rfl,rfl,rfl,rfl,rfl,rfl⟩ ?_;clear hm;intro n f di hI;obtain ⟨bt,a8,aq,av,ah,b2,hn,hl,hm,ab,a4,d8,g9,a9,aj,ap,ba,ak,af,bb,bc,a5,ag⟩:=hI;subst hn;refine .lD 89 a9<|.lD 0 aj<|.lD 1 ap<|.lD 10 ba<|.lD 5 ak<|.lD 7 af<|.lD 87 bb<|.lD 88 bc<|.lD 9 a5<|.lD 1000000 ag ?_
    cases b2 with
    | nil=>
     have hk:¬ ((av:Int)<(aa.length:Int)):=by have:=List.drop_eq_nil_iff.1 hl;omega
     have hkb:=decide_eq_false hk;rw [Sj.eq_1] at hm;refine Zb<|Zd<|lV _ (Z4 _ _ rfl rfl)<|Zc<|Zb<|Wn (congrArg Value.bool hkb) ?_;refine Xl (Xk ?_);refine Zb<|Zd<|Zg rfl<|Zg rfl<|lV _ (Z5 _ _ rfl rfl)<|Zj rfl<|Zc<|Zb<|Zd<|Zk rfl<|Zg rfl ?_;obtain ⟨d9,hm⟩:=Xd hm;obtain ⟨ea,eb,hm⟩:=bZ hm;refine lV (Yv a0 (Int.toNat ((j0:Int)+(aa.length:Int)) * 1)) (Vj underlying43 sizeOf79 rfl rfl d9.1 d9.2 (a4.addr eb))<|lV _ (Zn isAgg79 rfl (a4.atInt eb))<|lV (.int .u64 (u64.wrap ea)) (Xx ea ⟨_,underlying79⟩ underlying193 rfl)<|Zg rfl<|lV _ (Z4 _ _ rfl rfl)<|Xc rfl<|Zc<|Zb<|Zd<|Zk rfl<|Zg rfl ?_;obtain ⟨ec,hm⟩:=Xd hm;obtain ⟨cf,ed,hm⟩:=bZ hm;refine lV (Yv a0 (Int.toNat ((j0:Int)+(aa.length:Int)) * 1)) (Vj underlying43 sizeOf79 rfl rfl ec.1 ec.2 (a4.addr ed))<|lV _ (Zn isAgg79 rfl (a4.atInt ed))<|Zg rfl<|lV (.int .u32 (u32.wrap (u64.wrap (ah+aq)))) (Xx (u64.wrap (ah+aq)) ⟨_,underlying193⟩ underlying79 rfl)<|lV _ (Yb _ _ rfl rfl) ?_;obtain ⟨ee,hm⟩:=Xd hm;obtain ⟨ha,ef,hm⟩:=bZ hm;refine lV (Yv a0 (Int.toNat ((j0:Int)+(aa.length:Int)) * 1)) (Vj underlying43 sizeOf79 rfl rfl ee.1 ee.2 (a4.addr ef)) ?_;obtain ⟨b3,cg,hm⟩:=bZ hm;have cg:b3=a8.set (Int.toNat ((j0:Int)+(aa.length:Int))) (u32.wrap (cf - (u32.wrap (u64.wrap (ah+aq))))):=(Option.some.inj cg).symm;refine Ww (x1:=u32.wrap (cf - (u32.wrap (u64.wrap (ah+aq))))) (v:=(.int .u32 (u32.wrap (cf - (u32.wrap (u64.wrap (ah+aq))))))) a4 ef rfl sizeOf79 (X8 .u32 (u32.wrap (cf - (u32.wrap (u64.wrap (ah+aq)))))) rfl rfl (by decide) ?_;intro hc fz f0 dj;rw [← cg] at dj;have dk:b3.length=ae.length:=(show a8.length=b3.length by rw [cg,List.length_set]).symm.trans d8;refine Zc<|Zb ?_;replace ab:=ab.kp fz f0;refine Wp.cut (fun f dl=>∃ (ch:Zh) (b4:Int) (ci:List Int),Zhi b4 ci=some r∧St w0 (X6 [qc0] col) ch dl∧Zl (Za.int .u32) 79 440 ch dl a0 a2 ci∧ci.length=ae.length∧f 7=(.int .u64 b4)∧f 1000000=(enc [])) ?_ ?_
     ·intro f dl hJ;obtain ⟨ch,b4,ci,hm,ab,f1,f2,af,ag⟩:=hJ;rw [Zhi.eq_1] at hm;refine .lD 7 af<|.lD 1000000 ag<|Zb<|Zd<|Zg rfl<|lV (.int .u32 (u32.wrap b4)) (Xx b4 ⟨_,underlying193⟩ underlying79 rfl)<|Zj rfl<|Zc<|Zq ?_;cases hm;exact ⟨rfl,Uv w0.heap.size [qc0] col ch (fun n=>bif Nat.beq n 440 then qc0 else 0),rfl,ab.finL rfl (fun n=>bif Nat.beq n 440 then qc0 else 0),ab.finOwnL (g:=(fun n=>bif Nat.beq n 440 then qc0 else 0)) rfl f1 (by decide) (by decide) rfl,f2⟩
     refine Zb<|Zd<|Xf rfl<|Zc ?_;refine Zy _ rfl (fun hb=>?_) (fun hb=>?_)
     ·rw [if_pos hb] at hm;refine Zb<|Zd<|Zg rfl<|lV _ (Yb _ _ rfl rfl)<|Zj rfl<|Zc<|Zb<|Zd<|Zj rfl<|Zc<|Zb<|Zb<|Zd<|Zk rfl<|lV _ (Zs underlying43 rfl)<|Zg rfl<|Zc<|Z0<|Xi (fun n f dm=>∃ (b5:Zh) (bo:List Int) (bk:Nat) (an:Int) (b6:List Int),n=b6.length∧aa.drop bk=b6∧Za6 j0 n0 aa ac b6 bk bo an=some r∧St w0 (X6 [qc0] col) b5 dm∧Zl (Za.int .u32) 79 440 b5 dm a0 a2 bo∧bo.length=ae.length∧bo.length=ae.length∧f 145=(.int .i64 bk)∧f 0=(.slice (a0.map (·.add (j0 * 1))) n0 cp0)∧f 143=(.slice a1 aa.length al)∧f 144=(.int .i64 aa.length)∧f 5=(.int .i64 aa.length)∧f 7=(.int .u64 (u64.wrap ((u64.wrap (ac - 1)) - 1)))∧f 9=(.int .u64 an)∧f 1000000=(enc [])) aa.length ⟨bt,b3,0,0,aa,rfl,rfl,hm,ab,dj,dk,dk,rfl,rfl,rfl,rfl,rfl,rfl,rfl,rfl⟩ ?_;clear hm;intro n f dm hI;obtain ⟨b5,bo,bk,an,b6,hn,hl,hm,ab,br,f3,f4,dn,aj,dp,dq,ak,af,a5,ag⟩:=hI;subst hn;refine .lD 145 dn<|.lD 0 aj<|.lD 143 dp<|.lD 144 dq<|.lD 5 ak<|.lD 7 af<|.lD 9 a5<|.lD 1000000 ag ?_
      cases b6 with
      | nil=>
       have hk:¬ ((bk:Int)<(aa.length:Int)):=by have:=List.drop_eq_nil_iff.1 hl;omega
       have hkb:=decide_eq_false hk;rw [Za6.eq_1] at hm;refine Zb<|Zd<|lV _ (Z4 _ _ rfl rfl)<|Zc<|Zb<|Wn (congrArg Value.bool hkb) ?_;refine Xl (Xk ?_);refine Zd<|Zk rfl<|Zg rfl ?_;obtain ⟨eg,hm⟩:=Xd hm;obtain ⟨cj,eh,hm⟩:=bZ hm;refine lV (Yv a0 (Int.toNat ((j0:Int)+(aa.length:Int)) * 1)) (Vj underlying43 sizeOf79 rfl rfl eg.1 eg.2 (br.addr eh))<|lV _ (Zn isAgg79 rfl (br.atInt eh))<|Zg rfl<|lV (.int .u32 (u32.wrap an)) (Xx an ⟨_,underlying193⟩ underlying79 rfl)<|lV _ (Z5 _ _ rfl rfl) ?_;obtain ⟨ei,hm⟩:=Xd hm;obtain ⟨he,ej,hm⟩:=bZ hm;refine lV (Yv a0 (Int.toNat ((j0:Int)+(aa.length:Int)) * 1)) (Vj underlying43 sizeOf79 rfl rfl ei.1 ei.2 (br.addr ej)) ?_;obtain ⟨ck,cl,hm⟩:=bZ hm;have cl:ck=bo.set (Int.toNat ((j0:Int)+(aa.length:Int))) (u32.wrap (cj+(u32.wrap an))):=(Option.some.inj cl).symm;refine Ww (x1:=u32.wrap (cj+(u32.wrap an))) (v:=(.int .u32 (u32.wrap (cj+(u32.wrap an))))) br ej rfl sizeOf79 (X8 .u32 (u32.wrap (cj+(u32.wrap an)))) rfl rfl (by decide) ?_;intro hf f5 f6 ek;rw [← cl] at ek;have f7:ck.length=ae.length:=(show bo.length=ck.length by rw [cl,List.length_set]).symm.trans f4;refine Zc ?_;replace ab:=ab.kp f5 f6;exact ⟨b5,(u64.wrap ((u64.wrap (ac - 1)) - 1)),ck,hm,ab,ek,f7,rfl,rfl⟩
      | cons bd el=>
       obtain ⟨am,f8,f9⟩:=Wv hl;have hk:(bk:Int)<(aa.length:Int):=by omega
       have hkb:=decide_eq_true hk;rw [Za6.eq_2] at hm;refine Zb<|Zd<|lV _ (Z4 _ _ rfl rfl)<|Zc<|Zb<|Wo (congrArg Value.bool hkb)<|Zr<|Zb<|Z0<|Zb<|Zd<|Zg rfl ?_;refine lV _ (Zx underlying43 sizeOf79 rfl rfl (Zi am).1 (Zi am).2.1 ((h1.ks ab).addr am)) ?_;refine lV _ (Zn isAgg79 rfl ((h1.ks ab).atInt am))<|Zj rfl<|Zj rfl<|Zc<|Zb<|Zd<|Zg rfl<|Zk rfl<|Zg rfl ?_;obtain ⟨em,hm⟩:=Xd hm;obtain ⟨be,en,hm⟩:=bZ hm;refine lV (Yv a0 (Int.toNat ((j0:Int)+(bk:Int)) * 1)) (Vj underlying43 sizeOf79 rfl rfl em.1 em.2 (br.addr en))<|lV _ (Zn isAgg79 rfl (br.atInt en))<|lV (.int .u64 (u64.wrap be)) (Xx be ⟨_,underlying79⟩ underlying193 rfl)<|Zg rfl<|lV (.int .u64 (u64.wrap bd)) (Xx bd ⟨_,underlying79⟩ underlying193 rfl)<|lV _ (Z5 _ _ rfl rfl)<|lV _ (Z5 _ _ rfl rfl)<|Zj rfl<|Zc<|Zb<|Zd<|Zk rfl<|Zg rfl<|Zg rfl<|lV (.int .u32 (u32.wrap (u64.wrap (an+(u64.wrap ((u64.wrap be)+(u64.wrap bd))))))) (Xx (u64.wrap (an+(u64.wrap ((u64.wrap be)+(u64.wrap bd))))) ⟨_,underlying193⟩ underlying79 rfl) ?_;obtain ⟨eo,hm⟩:=Xd hm;obtain ⟨hg,ep,hm⟩:=bZ hm;refine lV (Yv a0 (Int.toNat ((j0:Int)+(bk:Int)) * 1)) (Vj underlying43 sizeOf79 rfl rfl eo.1 eo.2 (br.addr ep)) ?_;obtain ⟨cm,cn,hm⟩:=bZ hm;have cn:cm=bo.set (Int.toNat ((j0:Int)+(bk:Int))) (u32.wrap (u64.wrap (an+(u64.wrap ((u64.wrap be)+(u64.wrap bd)))))):=(Option.some.inj cn).symm;refine Ww (x1:=u32.wrap (u64.wrap (an+(u64.wrap ((u64.wrap be)+(u64.wrap bd)))))) (v:=(.int .u32 (u32.wrap (u64.wrap (an+(u64.wrap ((u64.wrap be)+(u64.wrap bd)))))))) br ep rfl sizeOf79 (X8 .u32 (u32.wrap (u64.wrap (an+(u64.wrap ((u64.wrap be)+(u64.wrap bd))))))) rfl rfl (by decide) ?_;intro hh ga gb eq;rw [← cn] at eq;have er:cm.length=ae.length:=(show bo.length=cm.length by rw [cn,List.length_set]).symm.trans f3;refine Zc<|Zd<|Zg rfl<|lV (.int .u64 (X0 .u64 (u64.wrap (an+(u64.wrap ((u64.wrap be)+(u64.wrap bd))))) 32)) (T8 (u64.wrap (an+(u64.wrap ((u64.wrap be)+(u64.wrap bd))))) 32 rfl rfl (by decide))<|Zj rfl<|Zc<|Zd<|lV _ (Z5 _ _ rfl rfl)<|Zg rfl<|Zc ?_;replace ab:=ab.kp ga gb
       exact ⟨el.length,by simp,⟨b5,cm,(bk+1),(X0 .u64 (u64.wrap (an+(u64.wrap ((u64.wrap be)+(u64.wrap bd))))) 32),el,rfl,f8,hm,ab,eq,er,er,(congrArg (Value.int .i64) (Wy (Nat.lt_of_lt_of_le f9 (h1.ks ab).1.1))),rfl,rfl,rfl,rfl,rfl,rfl,rfl⟩⟩
     rw [if_neg (Zz hb)] at hm;refine Zr ?_;exact ⟨bt,(u64.wrap (ac - 1)),b3,hm,ab,dj,dk,rfl,rfl⟩
    | cons aw co=>
     obtain ⟨am,gc,gd⟩:=Wv hl;have hk:(av:Int)<(aa.length:Int):=by omega
     have hkb:=decide_eq_true hk;rw [Sj.eq_2] at hm;refine Zb<|Zd<|lV _ (Z4 _ _ rfl rfl)<|Zc<|Zb<|Wo (congrArg Value.bool hkb)<|Zr<|Zb ?_;refine Wp.cut (fun f dr=>∃ (cp:Zh) (bx:List Int) (cq:Int) (cr:Int),Zjm av (Sj j0 n0 aa ac co) bx cq cr=some r∧St w0 (X6 [qc0] col) cp dr∧Zl (Za.int .u32) 79 440 cp dr a0 a2 bx∧bx.length=ae.length∧bx.length=ae.length∧f 0=(.slice (a0.map (·.add (j0 * 1))) n0 cp0)∧f 1=(.slice a1 aa.length al)∧f 10=(.int .u64 cq)∧f 5=(.int .i64 aa.length)∧f 7=(.int .u64 (u64.wrap (ac - 1)))∧f 87=(.slice a1 aa.length al)∧f 88=(.int .i64 aa.length)∧f 89=(.int .i64 av)∧f 9=(.int .u64 cr)∧f 1000000=(enc [])) ?_ ?_
     ·intro f dr hJ;obtain ⟨cp,bx,cq,cr,hm,ab,ge,gf,gg,aj,ap,ba,ak,af,bb,bc,a9,a5,ag⟩:=hJ;rw [Zjm.eq_1] at hm;refine .lD 0 aj<|.lD 1 ap<|.lD 10 ba<|.lD 5 ak<|.lD 7 af<|.lD 87 bb<|.lD 88 bc<|.lD 89 a9<|.lD 9 a5<|.lD 1000000 ag<|Zd<|lV _ (Z5 _ _ rfl rfl)<|Zg rfl<|Zc ?_;exact ⟨co.length,by simp,⟨cp,bx,cq,(av+1),cr,co,rfl,gc,hm,ab,ge,gf,gg,(congrArg (Value.int .i64) (Wy (Nat.lt_of_lt_of_le gd (h1.ks ab).1.1))),rfl,rfl,rfl,rfl,rfl,rfl,rfl,rfl,rfl⟩⟩
     refine Z0<|Zb<|Zd<|Zg rfl ?_;refine lV _ (Zx underlying43 sizeOf79 rfl rfl (Zi am).1 (Zi am).2.1 ((h1.ks ab).addr am)) ?_;refine lV _ (Zn isAgg79 rfl ((h1.ks ab).atInt am))<|Zj rfl<|Zj rfl<|Zc<|Zb<|Zd<|Zg rfl<|Zg rfl<|Zg rfl<|lV (.int .u64 (u64.wrap aw)) (Xx aw ⟨_,underlying79⟩ underlying193 rfl)<|lV _ (Ur _ _ rfl rfl)<|lV _ (Z5 _ _ rfl rfl)<|Zj rfl<|Zc<|Zb<|Zd<|Zg rfl<|lV (.int .u64 (Vc .u64 (u64.wrap (ah+(u64.wrap ((u64.wrap (ac - 1)) * (u64.wrap aw))))) 4294967295)) (Zrt (u64.wrap (ah+(u64.wrap ((u64.wrap (ac - 1)) * (u64.wrap aw))))) 4294967295 rfl rfl)<|Zg rfl<|lV _ (Z5 _ _ rfl rfl)<|Zj rfl<|Zc<|Zb<|Zd<|Zj rfl<|Zc<|Zb ?_;refine Wp.cut (fun f ds=>∃ (cs:Zh) (ct:Int),Zhj j0 n0 ac a8 aq av ah (Sj j0 n0 aa ac co) aw ct=some r∧St w0 (X6 [qc0] col) cs ds∧Zl (Za.int .u32) 79 440 cs ds a0 a2 a8∧f 0=(.slice (a0.map (·.add (j0 * 1))) n0 cp0)∧f 1=(.slice a1 aa.length al)∧f 10=(.int .u64 ct)∧f 11=(.int .i64 av)∧f 13=(.int .u64 (u64.wrap ((Vc .u64 (u64.wrap (ah+(u64.wrap ((u64.wrap (ac - 1)) * (u64.wrap aw))))) 4294967295)+aq)))∧f 5=(.int .i64 aa.length)∧f 7=(.int .u64 (u64.wrap (ac - 1)))∧f 87=(.slice a1 aa.length al)∧f 88=(.int .i64 aa.length)∧f 89=(.int .i64 av)∧f 9=(.int .u64 (u64.wrap (ah+(u64.wrap ((u64.wrap (ac - 1)) * (u64.wrap aw))))))∧f 1000000=(enc [])) ?_ ?_
     ·intro f ds hJ;obtain ⟨cs,ct,hm,ab,a4,aj,ap,ba,dt,du,ak,af,bb,bc,a9,a5,ag⟩:=hJ;rw [Zhj.eq_1] at hm;refine .lD 0 aj<|.lD 1 ap<|.lD 10 ba<|.lD 11 dt<|.lD 13 du<|.lD 5 ak<|.lD 7 af<|.lD 87 bb<|.lD 88 bc<|.lD 89 a9<|.lD 9 a5<|.lD 1000000 ag<|Zb<|Zd<|Zk rfl<|Zg rfl ?_;obtain ⟨es,hm⟩:=Xd hm;obtain ⟨cu,et,hm⟩:=bZ hm;refine lV (Yv a0 (Int.toNat ((j0:Int)+(av:Int)) * 1)) (Vj underlying43 sizeOf79 rfl rfl es.1 es.2 (a4.addr et))<|lV _ (Zn isAgg79 rfl (a4.atInt et))<|Zg rfl<|lV (.int .u32 (u32.wrap (u64.wrap ((Vc .u64 (u64.wrap (ah+(u64.wrap ((u64.wrap (ac - 1)) * (u64.wrap aw))))) 4294967295)+aq)))) (Xx (u64.wrap ((Vc .u64 (u64.wrap (ah+(u64.wrap ((u64.wrap (ac - 1)) * (u64.wrap aw))))) 4294967295)+aq)) ⟨_,underlying193⟩ underlying79 rfl)<|lV _ (Yb _ _ rfl rfl) ?_;obtain ⟨eu,hm⟩:=Xd hm;obtain ⟨hi,ev,hm⟩:=bZ hm;refine lV (Yv a0 (Int.toNat ((j0:Int)+(av:Int)) * 1)) (Vj underlying43 sizeOf79 rfl rfl eu.1 eu.2 (a4.addr ev)) ?_;obtain ⟨cv,cw,hm⟩:=bZ hm;have cw:cv=a8.set (Int.toNat ((j0:Int)+(av:Int))) (u32.wrap (cu - (u32.wrap (u64.wrap ((Vc .u64 (u64.wrap (ah+(u64.wrap ((u64.wrap (ac - 1)) * (u64.wrap aw))))) 4294967295)+aq))))):=(Option.some.inj cw).symm;refine Ww (x1:=u32.wrap (cu - (u32.wrap (u64.wrap ((Vc .u64 (u64.wrap (ah+(u64.wrap ((u64.wrap (ac - 1)) * (u64.wrap aw))))) 4294967295)+aq))))) (v:=(.int .u32 (u32.wrap (cu - (u32.wrap (u64.wrap ((Vc .u64 (u64.wrap (ah+(u64.wrap ((u64.wrap (ac - 1)) * (u64.wrap aw))))) 4294967295)+aq))))))) a4 ev rfl sizeOf79 (X8 .u32 (u32.wrap (cu - (u32.wrap (u64.wrap ((Vc .u64 (u64.wrap (ah+(u64.wrap ((u64.wrap (ac - 1)) * (u64.wrap aw))))) 4294967295)+aq)))))) rfl rfl (by decide) ?_;intro hj gh gi ew;rw [← cw] at ew;have ex:cv.length=ae.length:=(show a8.length=cv.length by rw [cw,List.length_set]).symm.trans d8
      refine Zc<|Zd<|Zg rfl<|lV (.int .u64 (X0 .u64 (u64.wrap (ah+(u64.wrap ((u64.wrap (ac - 1)) * (u64.wrap aw))))) 32)) (T8 (u64.wrap (ah+(u64.wrap ((u64.wrap (ac - 1)) * (u64.wrap aw))))) 32 rfl rfl (by decide))<|Zj rfl<|Zc ?_;replace ab:=ab.kp gh gi;exact ⟨cs,cv,ct,(X0 .u64 (u64.wrap (ah+(u64.wrap ((u64.wrap (ac - 1)) * (u64.wrap aw))))) 32),hm,ab,ew,ex,ex,rfl,rfl,rfl,rfl,rfl,rfl,rfl,rfl,rfl,rfl⟩
     refine Zb<|Zd<|Zk rfl<|Zg rfl ?_;obtain ⟨ey,hm⟩:=Xd hm;obtain ⟨ez,e0,hm⟩:=bZ hm;refine lV (Yv a0 (Int.toNat ((j0:Int)+(av:Int)) * 1)) (Vj underlying43 sizeOf79 rfl rfl ey.1 ey.2 (a4.addr e0))<|lV _ (Zn isAgg79 rfl (a4.atInt e0))<|lV (.int .u64 (u64.wrap ez)) (Xx ez ⟨_,underlying79⟩ underlying193 rfl)<|Zg rfl<|lV _ (Z4 _ _ rfl rfl)<|Zc ?_;refine Zy _ rfl (fun hb=>?_) (fun hb=>?_)
     ·rw [if_pos hb] at hm;refine Zd<|Zj rfl<|Zc ?_;exact ⟨bt,1,hm,ab,a4,rfl,rfl,rfl,rfl,rfl,rfl,rfl,rfl,rfl,rfl,rfl,rfl⟩
     rw [if_neg (Zz hb)] at hm;refine Zr ?_;exact ⟨bt,0,hm,ab,a4,rfl,rfl,rfl,rfl,rfl,rfl,rfl,rfl,rfl,rfl,rfl,rfl⟩
   rw [if_neg (Zz hb)] at hm;refine Zr ?_;exact ⟨bn,by omega,⟨b1,(u64.wrap (ac - 1)),(u64.wrap (au+(u64.wrap dh))),bn,rfl,hm,ab,h0,rfl,rfl,rfl,rfl,rfl,rfl⟩⟩
  refine Zb ?_;refine Wp.cut (fun f dv=>∃ (b7:Zh) (dw:Bool),Zci j0 n0 ae aa ac au (Tv N j0 n0 ae aa bn) dw=some r∧St w0 (X6 [qc0] col) b7 dv∧Zl (Za.int .u32) 79 440 b7 dv a0 a2 ae∧f 0=(.slice (a0.map (·.add (j0 * 1))) n0 cp0)∧f 1=(.slice a1 aa.length al)∧f 5=(.int .i64 aa.length)∧f 7=(.int .u64 ac)∧f 74=(.bool dw)∧f 8=(.int .u64 au)∧f 1000000=(enc [])) ?_ ?_
  ·intro f dv hJ;obtain ⟨b7,dw,hm,ab,h0,aj,ap,ak,af,gj,b0,ag⟩:=hJ;rw [Zci.eq_1] at hm;refine .lD 0 aj<|.lD 1 ap<|.lD 5 ak<|.lD 7 af<|.lD 74 gj<|.lD 8 b0<|.lD 1000000 ag ?_;refine Zy _ rfl (fun hb=>?_) (fun hb=>?_)
   ·rw [if_pos hb] at hm;refine Zr ?_;exact ⟨b7,hm,ab,h0,rfl,rfl,rfl,rfl,rfl,rfl⟩
   rw [if_neg (Zz hb)] at hm;refine Xl (Xk ?_);refine Zb<|Zd<|Zj rfl<|Zj rfl<|Zc<|Zb<|Zb<|Zd<|Zk rfl<|lV _ (Zs underlying43 rfl)<|Zg rfl<|Zc<|Z0<|Xi (fun n f dx=>∃ (bu:Zh) (bf:List Int) (ar:Int) (ax:Nat) (ai:Int) (b8:List Int),n=b8.length∧aa.drop ax=b8∧V8 j0 n0 aa ac b8 ax bf ar ai=some r∧St w0 (X6 [qc0] col) bu dx∧Zl (Za.int .u32) 79 440 bu dx a0 a2 bf∧bf.length=ae.length∧bf.length=ae.length∧f 89=(.int .i64 ax)∧f 0=(.slice (a0.map (·.add (j0 * 1))) n0 cp0)∧f 1=(.slice a1 aa.length al)∧f 10=(.int .u64 ar)∧f 5=(.int .i64 aa.length)∧f 7=(.int .u64 ac)∧f 87=(.slice a1 aa.length al)∧f 88=(.int .i64 aa.length)∧f 9=(.int .u64 ai)∧f 1000000=(enc [])) aa.length ⟨b7,ae,0,0,0,aa,rfl,rfl,hm,ab,h0,rfl,rfl,rfl,rfl,rfl,rfl,rfl,rfl,rfl,rfl,rfl,rfl⟩ ?_;clear hm;intro n f dx hI;obtain ⟨bu,bf,ar,ax,ai,b8,hn,hl,hm,ab,a6,e1,ho,a9,aj,ap,ba,ak,af,bb,bc,a5,ag⟩:=hI;subst hn;refine .lD 89 a9<|.lD 0 aj<|.lD 1 ap<|.lD 10 ba<|.lD 5 ak<|.lD 7 af<|.lD 87 bb<|.lD 88 bc<|.lD 9 a5<|.lD 1000000 ag ?_
   cases b8 with
   | nil=>
    have hk:¬ ((ax:Int)<(aa.length:Int)):=by have:=List.drop_eq_nil_iff.1 hl;omega
    have hkb:=decide_eq_false hk;rw [V8.eq_1] at hm;refine Zb<|Zd<|lV _ (Z4 _ _ rfl rfl)<|Zc<|Zb<|Wn (congrArg Value.bool hkb) ?_;refine Xl (Xk ?_);refine Zb<|Zd<|Zg rfl<|Zg rfl<|lV _ (Z5 _ _ rfl rfl)<|Zj rfl<|Zc<|Zb<|Zd<|Zk rfl<|Zg rfl ?_;obtain ⟨e2,hm⟩:=Xd hm;obtain ⟨e3,e4,hm⟩:=bZ hm;refine lV (Yv a0 (Int.toNat ((j0:Int)+(aa.length:Int)) * 1)) (Vj underlying43 sizeOf79 rfl rfl e2.1 e2.2 (a6.addr e4))<|lV _ (Zn isAgg79 rfl (a6.atInt e4))<|lV (.int .u64 (u64.wrap e3)) (Xx e3 ⟨_,underlying79⟩ underlying193 rfl)<|Zg rfl<|lV _ (Z4 _ _ rfl rfl)<|Xc rfl<|Zc<|Zb<|Zd<|Zk rfl<|Zg rfl ?_;obtain ⟨e5,hm⟩:=Xd hm;obtain ⟨cx,e6,hm⟩:=bZ hm;refine lV (Yv a0 (Int.toNat ((j0:Int)+(aa.length:Int)) * 1)) (Vj underlying43 sizeOf79 rfl rfl e5.1 e5.2 (a6.addr e6))<|lV _ (Zn isAgg79 rfl (a6.atInt e6))<|Zg rfl<|lV (.int .u32 (u32.wrap (u64.wrap (ai+ar)))) (Xx (u64.wrap (ai+ar)) ⟨_,underlying193⟩ underlying79 rfl)<|lV _ (Yb _ _ rfl rfl) ?_;obtain ⟨e7,hm⟩:=Xd hm;obtain ⟨hp,e8,hm⟩:=bZ hm;refine lV (Yv a0 (Int.toNat ((j0:Int)+(aa.length:Int)) * 1)) (Vj underlying43 sizeOf79 rfl rfl e7.1 e7.2 (a6.addr e8)) ?_;obtain ⟨b9,cy,hm⟩:=bZ hm;have cy:b9=bf.set (Int.toNat ((j0:Int)+(aa.length:Int))) (u32.wrap (cx - (u32.wrap (u64.wrap (ai+ar))))):=(Option.some.inj cy).symm;refine Ww (x1:=u32.wrap (cx - (u32.wrap (u64.wrap (ai+ar))))) (v:=(.int .u32 (u32.wrap (cx - (u32.wrap (u64.wrap (ai+ar))))))) a6 e8 rfl sizeOf79 (X8 .u32 (u32.wrap (cx - (u32.wrap (u64.wrap (ai+ar)))))) rfl rfl (by decide) ?_;intro hq gk gl dy;rw [← cy] at dy;have dz:b9.length=ae.length:=(show bf.length=b9.length by rw [cy,List.length_set]).symm.trans e1;refine Zc<|Zb ?_;replace ab:=ab.kp gk gl;refine Wp.cut (fun f d0=>∃ (cz:Zh) (ca:Int) (c0:List Int),Q1 ca c0=some r∧St w0 (X6 [qc0] col) cz d0∧Zl (Za.int .u32) 79 440 cz d0 a0 a2 c0∧c0.length=ae.length∧f 7=(.int .u64 ca)∧f 1000000=(enc [])) ?_ ?_
    ·intro f d0 hJ;obtain ⟨cz,ca,c0,hm,ab,gm,gn,af,ag⟩:=hJ;rw [Q1.eq_1] at hm;refine .lD 7 af<|.lD 1000000 ag<|Zb<|Zd<|Zg rfl<|lV (.int .u32 (u32.wrap ca)) (Xx ca ⟨_,underlying193⟩ underlying79 rfl)<|Zj rfl<|Zc<|Zq ?_;cases hm;exact ⟨rfl,Uv w0.heap.size [qc0] col cz (fun n=>bif Nat.beq n 440 then qc0 else 0),rfl,ab.finL rfl (fun n=>bif Nat.beq n 440 then qc0 else 0),ab.finOwnL (g:=(fun n=>bif Nat.beq n 440 then qc0 else 0)) rfl gm (by decide) (by decide) rfl,gn⟩
    refine Zb<|Zd<|Xf rfl<|Zc ?_;refine Zy _ rfl (fun hb=>?_) (fun hb=>?_)
    ·rw [if_pos hb] at hm;refine Zb<|Zd<|Zg rfl<|lV _ (Yb _ _ rfl rfl)<|Zj rfl<|Zc<|Zb<|Zd<|Zj rfl<|Zc<|Zb<|Zb<|Zd<|Zk rfl<|lV _ (Zs underlying43 rfl)<|Zg rfl<|Zc<|Z0<|Xi (fun n f d1=>∃ (cb:Zh) (bp:List Int) (bm:Nat) (ao:Int) (cc:List Int),n=cc.length∧aa.drop bm=cc∧Te j0 n0 aa ac cc bm bp ao=some r∧St w0 (X6 [qc0] col) cb d1∧Zl (Za.int .u32) 79 440 cb d1 a0 a2 bp∧bp.length=ae.length∧bp.length=ae.length∧f 145=(.int .i64 bm)∧f 0=(.slice (a0.map (·.add (j0 * 1))) n0 cp0)∧f 143=(.slice a1 aa.length al)∧f 144=(.int .i64 aa.length)∧f 5=(.int .i64 aa.length)∧f 7=(.int .u64 (u64.wrap (ac - 1)))∧f 9=(.int .u64 ao)∧f 1000000=(enc [])) aa.length ⟨bu,b9,0,0,aa,rfl,rfl,hm,ab,dy,dz,dz,rfl,rfl,rfl,rfl,rfl,rfl,rfl,rfl⟩ ?_;clear hm;intro n f d1 hI;obtain ⟨cb,bp,bm,ao,cc,hn,hl,hm,ab,bs,go,gp,dn,aj,dp,dq,ak,af,a5,ag⟩:=hI;subst hn;refine .lD 145 dn<|.lD 0 aj<|.lD 143 dp<|.lD 144 dq<|.lD 5 ak<|.lD 7 af<|.lD 9 a5<|.lD 1000000 ag ?_
     cases cc with
     | nil=>
      have hk:¬ ((bm:Int)<(aa.length:Int)):=by have:=List.drop_eq_nil_iff.1 hl;omega
      have hkb:=decide_eq_false hk;rw [Te.eq_1] at hm;refine Zb<|Zd<|lV _ (Z4 _ _ rfl rfl)<|Zc<|Zb<|Wn (congrArg Value.bool hkb) ?_;refine Xl (Xk ?_);refine Zd<|Zk rfl<|Zg rfl ?_;obtain ⟨e9,hm⟩:=Xd hm;obtain ⟨c1,fa,hm⟩:=bZ hm;refine lV (Yv a0 (Int.toNat ((j0:Int)+(aa.length:Int)) * 1)) (Vj underlying43 sizeOf79 rfl rfl e9.1 e9.2 (bs.addr fa))<|lV _ (Zn isAgg79 rfl (bs.atInt fa))<|Zg rfl<|lV (.int .u32 (u32.wrap ao)) (Xx ao ⟨_,underlying193⟩ underlying79 rfl)<|lV _ (Z5 _ _ rfl rfl) ?_;obtain ⟨fb,hm⟩:=Xd hm;obtain ⟨hr,fc,hm⟩:=bZ hm;refine lV (Yv a0 (Int.toNat ((j0:Int)+(aa.length:Int)) * 1)) (Vj underlying43 sizeOf79 rfl rfl fb.1 fb.2 (bs.addr fc)) ?_;obtain ⟨c2,c3,hm⟩:=bZ hm;have c3:c2=bp.set (Int.toNat ((j0:Int)+(aa.length:Int))) (u32.wrap (c1+(u32.wrap ao))):=(Option.some.inj c3).symm;refine Ww (x1:=u32.wrap (c1+(u32.wrap ao))) (v:=(.int .u32 (u32.wrap (c1+(u32.wrap ao))))) bs fc rfl sizeOf79 (X8 .u32 (u32.wrap (c1+(u32.wrap ao)))) rfl rfl (by decide) ?_;intro hs gs gt fd;rw [← c3] at fd;have gu:c2.length=ae.length:=(show bp.length=c2.length by rw [c3,List.length_set]).symm.trans gp;refine Zc ?_;replace ab:=ab.kp gs gt;exact ⟨cb,(u64.wrap (ac - 1)),c2,hm,ab,fd,gu,rfl,rfl⟩
     | cons bg fe=>
      obtain ⟨am,gv,gw⟩:=Wv hl;have hk:(bm:Int)<(aa.length:Int):=by omega
      have hkb:=decide_eq_true hk;rw [Te.eq_2] at hm;refine Zb<|Zd<|lV _ (Z4 _ _ rfl rfl)<|Zc<|Zb<|Wo (congrArg Value.bool hkb)<|Zr<|Zb<|Z0<|Zb<|Zd<|Zg rfl ?_;refine lV _ (Zx underlying43 sizeOf79 rfl rfl (Zi am).1 (Zi am).2.1 ((h1.ks ab).addr am)) ?_;refine lV _ (Zn isAgg79 rfl ((h1.ks ab).atInt am))<|Zj rfl<|Zj rfl<|Zc<|Zb<|Zd<|Zg rfl<|Zk rfl<|Zg rfl ?_;obtain ⟨ff,hm⟩:=Xd hm;obtain ⟨bh,fg,hm⟩:=bZ hm;refine lV (Yv a0 (Int.toNat ((j0:Int)+(bm:Int)) * 1)) (Vj underlying43 sizeOf79 rfl rfl ff.1 ff.2 (bs.addr fg))<|lV _ (Zn isAgg79 rfl (bs.atInt fg))<|lV (.int .u64 (u64.wrap bh)) (Xx bh ⟨_,underlying79⟩ underlying193 rfl)<|Zg rfl<|lV (.int .u64 (u64.wrap bg)) (Xx bg ⟨_,underlying79⟩ underlying193 rfl)<|lV _ (Z5 _ _ rfl rfl)<|lV _ (Z5 _ _ rfl rfl)<|Zj rfl<|Zc<|Zb<|Zd<|Zk rfl<|Zg rfl<|Zg rfl<|lV (.int .u32 (u32.wrap (u64.wrap (ao+(u64.wrap ((u64.wrap bh)+(u64.wrap bg))))))) (Xx (u64.wrap (ao+(u64.wrap ((u64.wrap bh)+(u64.wrap bg))))) ⟨_,underlying193⟩ underlying79 rfl) ?_;obtain ⟨fh,hm⟩:=Xd hm;obtain ⟨ht,fi,hm⟩:=bZ hm;refine lV (Yv a0 (Int.toNat ((j0:Int)+(bm:Int)) * 1)) (Vj underlying43 sizeOf79 rfl rfl fh.1 fh.2 (bs.addr fi)) ?_;obtain ⟨c4,c5,hm⟩:=bZ hm;have c5:c4=bp.set (Int.toNat ((j0:Int)+(bm:Int))) (u32.wrap (u64.wrap (ao+(u64.wrap ((u64.wrap bh)+(u64.wrap bg)))))):=(Option.some.inj c5).symm;refine Ww (x1:=u32.wrap (u64.wrap (ao+(u64.wrap ((u64.wrap bh)+(u64.wrap bg)))))) (v:=(.int .u32 (u32.wrap (u64.wrap (ao+(u64.wrap ((u64.wrap bh)+(u64.wrap bg)))))))) bs fi rfl sizeOf79 (X8 .u32 (u32.wrap (u64.wrap (ao+(u64.wrap ((u64.wrap bh)+(u64.wrap bg))))))) rfl rfl (by decide) ?_;intro hu gx gy fj;rw [← c5] at fj;have fk:c4.length=ae.length:=(show bp.length=c4.length by rw [c5,List.length_set]).symm.trans go;refine Zc<|Zd<|Zg rfl<|lV (.int .u64 (X0 .u64 (u64.wrap (ao+(u64.wrap ((u64.wrap bh)+(u64.wrap bg))))) 32)) (T8 (u64.wrap (ao+(u64.wrap ((u64.wrap bh)+(u64.wrap bg))))) 32 rfl rfl (by decide))<|Zj rfl<|Zc<|Zd<|lV _ (Z5 _ _ rfl rfl)<|Zg rfl<|Zc ?_
      replace ab:=ab.kp gx gy;exact ⟨fe.length,by simp,⟨cb,c4,(bm+1),(X0 .u64 (u64.wrap (ao+(u64.wrap ((u64.wrap bh)+(u64.wrap bg))))) 32),fe,rfl,gv,hm,ab,fj,fk,fk,(congrArg (Value.int .i64) (Wy (Nat.lt_of_lt_of_le gw (h1.ks ab).1.1))),rfl,rfl,rfl,rfl,rfl,rfl,rfl⟩⟩
    rw [if_neg (Zz hb)] at hm;refine Zr ?_;exact ⟨bu,ac,b9,hm,ab,dy,dz,rfl,rfl⟩
   | cons ay c6=>
    obtain ⟨am,gz,g0⟩:=Wv hl;have hk:(ax:Int)<(aa.length:Int):=by omega
    have hkb:=decide_eq_true hk;rw [V8.eq_2] at hm;refine Zb<|Zd<|lV _ (Z4 _ _ rfl rfl)<|Zc<|Zb<|Wo (congrArg Value.bool hkb)<|Zr<|Zb ?_;refine Wp.cut (fun f d2=>∃ (c7:Zh) (bz:List Int) (c8:Int) (c9:Int),Zhk ax (V8 j0 n0 aa ac c6) bz c8 c9=some r∧St w0 (X6 [qc0] col) c7 d2∧Zl (Za.int .u32) 79 440 c7 d2 a0 a2 bz∧bz.length=ae.length∧bz.length=ae.length∧f 0=(.slice (a0.map (·.add (j0 * 1))) n0 cp0)∧f 1=(.slice a1 aa.length al)∧f 10=(.int .u64 c8)∧f 5=(.int .i64 aa.length)∧f 7=(.int .u64 ac)∧f 87=(.slice a1 aa.length al)∧f 88=(.int .i64 aa.length)∧f 89=(.int .i64 ax)∧f 9=(.int .u64 c9)∧f 1000000=(enc [])) ?_ ?_
    ·intro f d2 hJ;obtain ⟨c7,bz,c8,c9,hm,ab,g1,g2,g3,aj,ap,ba,ak,af,bb,bc,a9,a5,ag⟩:=hJ;rw [Zhk.eq_1] at hm;refine .lD 0 aj<|.lD 1 ap<|.lD 10 ba<|.lD 5 ak<|.lD 7 af<|.lD 87 bb<|.lD 88 bc<|.lD 89 a9<|.lD 9 a5<|.lD 1000000 ag<|Zd<|lV _ (Z5 _ _ rfl rfl)<|Zg rfl<|Zc ?_;exact ⟨c6.length,by simp,⟨c7,bz,c8,(ax+1),c9,c6,rfl,gz,hm,ab,g1,g2,g3,(congrArg (Value.int .i64) (Wy (Nat.lt_of_lt_of_le g0 (h1.ks ab).1.1))),rfl,rfl,rfl,rfl,rfl,rfl,rfl,rfl,rfl⟩⟩
    refine Z0<|Zb<|Zd<|Zg rfl ?_;refine lV _ (Zx underlying43 sizeOf79 rfl rfl (Zi am).1 (Zi am).2.1 ((h1.ks ab).addr am)) ?_;refine lV _ (Zn isAgg79 rfl ((h1.ks ab).atInt am))<|Zj rfl<|Zj rfl<|Zc<|Zb<|Zd<|Zg rfl<|Zg rfl<|Zg rfl<|lV (.int .u64 (u64.wrap ay)) (Xx ay ⟨_,underlying79⟩ underlying193 rfl)<|lV _ (Ur _ _ rfl rfl)<|lV _ (Z5 _ _ rfl rfl)<|Zj rfl<|Zc<|Zb<|Zd<|Zg rfl<|lV (.int .u64 (Vc .u64 (u64.wrap (ai+(u64.wrap (ac * (u64.wrap ay))))) 4294967295)) (Zrt (u64.wrap (ai+(u64.wrap (ac * (u64.wrap ay))))) 4294967295 rfl rfl)<|Zg rfl<|lV _ (Z5 _ _ rfl rfl)<|Zj rfl<|Zc<|Zb<|Zd<|Zj rfl<|Zc<|Zb ?_;refine Wp.cut (fun f d3=>∃ (da:Zh) (db:Int),Zcj j0 n0 ac bf ar ax ai (V8 j0 n0 aa ac c6) ay db=some r∧St w0 (X6 [qc0] col) da d3∧Zl (Za.int .u32) 79 440 da d3 a0 a2 bf∧f 0=(.slice (a0.map (·.add (j0 * 1))) n0 cp0)∧f 1=(.slice a1 aa.length al)∧f 10=(.int .u64 db)∧f 11=(.int .i64 ax)∧f 13=(.int .u64 (u64.wrap ((Vc .u64 (u64.wrap (ai+(u64.wrap (ac * (u64.wrap ay))))) 4294967295)+ar)))∧f 5=(.int .i64 aa.length)∧f 7=(.int .u64 ac)∧f 87=(.slice a1 aa.length al)∧f 88=(.int .i64 aa.length)∧f 89=(.int .i64 ax)∧f 9=(.int .u64 (u64.wrap (ai+(u64.wrap (ac * (u64.wrap ay))))))∧f 1000000=(enc [])) ?_ ?_
    ·intro f d3 hJ;obtain ⟨da,db,hm,ab,a6,aj,ap,ba,dt,du,ak,af,bb,bc,a9,a5,ag⟩:=hJ;rw [Zcj.eq_1] at hm;refine .lD 0 aj<|.lD 1 ap<|.lD 10 ba<|.lD 11 dt<|.lD 13 du<|.lD 5 ak<|.lD 7 af<|.lD 87 bb<|.lD 88 bc<|.lD 89 a9<|.lD 9 a5<|.lD 1000000 ag<|Zb<|Zd<|Zk rfl<|Zg rfl ?_;obtain ⟨fl,hm⟩:=Xd hm;obtain ⟨dc,fm,hm⟩:=bZ hm;refine lV (Yv a0 (Int.toNat ((j0:Int)+(ax:Int)) * 1)) (Vj underlying43 sizeOf79 rfl rfl fl.1 fl.2 (a6.addr fm))<|lV _ (Zn isAgg79 rfl (a6.atInt fm))<|Zg rfl<|lV (.int .u32 (u32.wrap (u64.wrap ((Vc .u64 (u64.wrap (ai+(u64.wrap (ac * (u64.wrap ay))))) 4294967295)+ar)))) (Xx (u64.wrap ((Vc .u64 (u64.wrap (ai+(u64.wrap (ac * (u64.wrap ay))))) 4294967295)+ar)) ⟨_,underlying193⟩ underlying79 rfl)<|lV _ (Yb _ _ rfl rfl) ?_;obtain ⟨fn,hm⟩:=Xd hm;obtain ⟨hv,fo,hm⟩:=bZ hm;refine lV (Yv a0 (Int.toNat ((j0:Int)+(ax:Int)) * 1)) (Vj underlying43 sizeOf79 rfl rfl fn.1 fn.2 (a6.addr fo)) ?_;obtain ⟨dd,de,hm⟩:=bZ hm;have de:dd=bf.set (Int.toNat ((j0:Int)+(ax:Int))) (u32.wrap (dc - (u32.wrap (u64.wrap ((Vc .u64 (u64.wrap (ai+(u64.wrap (ac * (u64.wrap ay))))) 4294967295)+ar))))):=(Option.some.inj de).symm;refine Ww (x1:=u32.wrap (dc - (u32.wrap (u64.wrap ((Vc .u64 (u64.wrap (ai+(u64.wrap (ac * (u64.wrap ay))))) 4294967295)+ar))))) (v:=(.int .u32 (u32.wrap (dc - (u32.wrap (u64.wrap ((Vc .u64 (u64.wrap (ai+(u64.wrap (ac * (u64.wrap ay))))) 4294967295)+ar))))))) a6 fo rfl sizeOf79 (X8 .u32 (u32.wrap (dc - (u32.wrap (u64.wrap ((Vc .u64 (u64.wrap (ai+(u64.wrap (ac * (u64.wrap ay))))) 4294967295)+ar)))))) rfl rfl (by decide) ?_;intro hw g4 g5 fp;rw [← de] at fp;have fq:dd.length=ae.length:=(show bf.length=dd.length by rw [de,List.length_set]).symm.trans e1;refine Zc<|Zd<|Zg rfl<|lV (.int .u64 (X0 .u64 (u64.wrap (ai+(u64.wrap (ac * (u64.wrap ay))))) 32)) (T8 (u64.wrap (ai+(u64.wrap (ac * (u64.wrap ay))))) 32 rfl rfl (by decide))<|Zj rfl<|Zc ?_;replace ab:=ab.kp g4 g5
     exact ⟨da,dd,db,(X0 .u64 (u64.wrap (ai+(u64.wrap (ac * (u64.wrap ay))))) 32),hm,ab,fp,fq,fq,rfl,rfl,rfl,rfl,rfl,rfl,rfl,rfl,rfl,rfl⟩
    refine Zb<|Zd<|Zk rfl<|Zg rfl ?_;obtain ⟨fr,hm⟩:=Xd hm;obtain ⟨fs,ft,hm⟩:=bZ hm;refine lV (Yv a0 (Int.toNat ((j0:Int)+(ax:Int)) * 1)) (Vj underlying43 sizeOf79 rfl rfl fr.1 fr.2 (a6.addr ft))<|lV _ (Zn isAgg79 rfl (a6.atInt ft))<|lV (.int .u64 (u64.wrap fs)) (Xx fs ⟨_,underlying79⟩ underlying193 rfl)<|Zg rfl<|lV _ (Z4 _ _ rfl rfl)<|Zc ?_;refine Zy _ rfl (fun hb=>?_) (fun hb=>?_)
    ·rw [if_pos hb] at hm;refine Zd<|Zj rfl<|Zc ?_;exact ⟨bu,1,hm,ab,a6,rfl,rfl,rfl,rfl,rfl,rfl,rfl,rfl,rfl,rfl,rfl,rfl⟩
    rw [if_neg (Zz hb)] at hm;refine Zr ?_;exact ⟨bu,0,hm,ab,a6,rfl,rfl,rfl,rfl,rfl,rfl,rfl,rfl,rfl,rfl,rfl,rfl⟩
  refine W5 (col:=a3) (by kernel_rfl) (by kernel_rfl)<|qv rfl (fun _ hC=>Xp rfl) ?_;refine qv rfl (fun _ hC=>Wa _ _ rfl rfl) ?_;refine qv rfl (fun _ hC=>W4 rfl) ?_;by_cases az:(decide (4294967295<ac))=true
  ·rw [if_pos az] at hm;refine qP 51 rfl (gq az)<|qP 51 rfl (gq az)<|qP 51 rfl (gq az)<|Y8 54 rfl rfl rfl rfl<|Y8 54 rfl rfl rfl rfl<|Y8 54 rfl rfl rfl rfl<|Y8 54 rfl rfl rfl rfl<|Y8 54 rfl rfl rfl rfl<|Y8 54 rfl rfl rfl rfl<|Y8 54 rfl rfl rfl rfl<|Y8 54 rfl rfl rfl rfl<|Y8 54 rfl rfl rfl rfl<|Y8 54 rfl rfl rfl rfl<|Y8 54 rfl rfl rfl rfl<|Y8 54 rfl rfl rfl rfl<|Y8 54 rfl rfl rfl rfl<|Y8 54 rfl rfl rfl rfl<|Y8 54 rfl rfl rfl rfl<|Y8 54 rfl rfl rfl rfl<|Y8 54 rfl rfl rfl rfl<|Y8 54 rfl rfl rfl rfl<|qP 51 rfl (gq az)<|qv (v:=(.bool true)) rfl (fun _ hC=>Xm (congrArg Value.bool az) rfl) ?_;refine Y1 ?_;intro g6 hC;replace hC:Zf a3 bw a3 g6:=.of_below hC.below;replace h0:=h0.gr hC;replace ab:=ab.grow hC;exact ⟨a3,true,hm,ab,h0,rfl,rfl,rfl,rfl,rfl,rfl,rfl⟩
  rw [if_neg az] at hm;replace az:=Bool.eq_false_iff.2 az;refine qG 51 rfl (gq az)<|qv rfl (fun _ hC=>Xp rfl) ?_;refine qG 51 rfl (gq az)<|qv rfl (fun _ hC=>Zyw _ _ rfl rfl) ?_;refine qG 51 rfl (gq az)<|qv rfl (fun _ hC=>W4 rfl) ?_;by_cases ad:(decide (au≤4294967295))=true
  ·rw [if_pos ad] at hm;refine qG 54 rfl (gq ad)<|qv rfl (fun _ hC=>Xp rfl) ?_;refine qG 54 rfl (gq ad)<|qv rfl (fun _ hC=>Yr rfl) ?_;refine qG 54 rfl (gq ad)<|qv rfl (fun _ hC=>Xp rfl) ?_;refine qG 54 rfl (gq ad)<|qv rfl (fun _ hC=>Yb _ _ rfl rfl) ?_;refine qG 54 rfl (gq ad) ?_;obtain ⟨cd,df,hm⟩:=bZ hm;refine qv rfl (fun _ hC=>Zx underlying43 sizeOf79 rfl rfl (Zi df).1 (Zi df).2.1 ((h1.ks ab).addr df)) ?_;refine qG 54 rfl (gq ad)<|qv rfl (fun _ hC=>Zn isAgg79 rfl (((h1.ks ab).gr (hC.bl a3)).atInt df)) ?_;refine qG 54 rfl (gq ad)<|qv (v:=(.int .u64 (u64.wrap cd))) rfl (fun _ hC=>Xx cd ⟨_,underlying79⟩ underlying193 rfl) ?_;refine qG 54 rfl (gq ad)<|qv rfl (fun _ hC=>Ur _ _ rfl rfl) ?_;refine qG 54 rfl (gq ad)<|qv rfl (fun _ hC=>Xp rfl) ?_;refine qG 54 rfl (gq ad)<|qv (v:=(.int .u64 (Xt .u64 au 32))) rfl (fun _ hC=>Zdr au 32 rfl rfl (by decide)) ?_;refine qG 54 rfl (gq ad)<|qv rfl (fun _ hC=>Yr rfl) ?_;refine qG 54 rfl (gq ad)<|qv rfl (fun _ hC=>Xp rfl) ?_;refine qG 54 rfl (gq ad)<|qv rfl (fun _ hC=>Yb _ _ rfl rfl) ?_;refine qG 54 rfl (gq ad) ?_;obtain ⟨fu,hm⟩:=Xd hm;obtain ⟨bv,fv,hm⟩:=bZ hm;refine qv (v:=(Yv a0 (Int.toNat ((j0:Int)+(i64.wrap ((aa.length:Int) - 2))) * 1))) rfl (fun _ hC=>Vj underlying43 sizeOf79 rfl rfl fu.1 fu.2 (h0.addr fv)) ?_;refine qG 54 rfl (gq ad)<|qv rfl (fun _ hC=>Zn isAgg79 rfl ((h0.gr (hC.bl a3)).atInt fv)) ?_;refine qG 54 rfl (gq ad)<|qv (v:=(.int .u64 (u64.wrap bv))) rfl (fun _ hC=>Xx bv ⟨_,underlying79⟩ underlying193 rfl) ?_;refine qG 54 rfl (gq ad)<|qv (v:=(.int .u64 (Yi .u64 (Xt .u64 au 32) (u64.wrap bv)))) rfl (fun _ hC=>Zig (Xt .u64 au 32) (u64.wrap bv) rfl rfl) ?_;refine qG 54 rfl (gq ad)<|qv rfl (fun _ hC=>Wa _ _ rfl rfl) ?_;refine qG 51 rfl (gq az)<|qv (v:=(.bool (decide ((Yi .u64 (Xt .u64 au 32) (u64.wrap bv))<(u64.wrap (ac * (u64.wrap cd))))))) rfl (fun _ hC=>Xm (congrArg Value.bool ad) rfl) ?_;refine qv (v:=(.bool (decide ((Yi .u64 (Xt .u64 au 32) (u64.wrap bv))<(u64.wrap (ac * (u64.wrap cd))))))) rfl (fun _ hC=>Xr (congrArg Value.bool az) rfl) ?_;refine Y1 ?_;intro g7 hC;replace hC:Zf a3 bw a3 g7:=.of_below hC.below;replace h0:=h0.gr hC;replace ab:=ab.grow hC;exact ⟨a3,(decide ((Yi .u64 (Xt .u64 au 32) (u64.wrap bv))<(u64.wrap (ac * (u64.wrap cd))))),hm,ab,h0,rfl,rfl,rfl,rfl,rfl,rfl,rfl⟩
  rw [if_neg ad] at hm;replace ad:=Bool.eq_false_iff.2 ad;refine qP 54 rfl (gq ad)<|qP 54 rfl (gq ad)<|qP 54 rfl (gq ad)<|qP 54 rfl (gq ad)<|qP 54 rfl (gq ad)<|qP 54 rfl (gq ad)<|qP 54 rfl (gq ad)<|qP 54 rfl (gq ad)<|qP 54 rfl (gq ad)<|qP 54 rfl (gq ad)<|qP 54 rfl (gq ad)<|qP 54 rfl (gq ad)<|qP 54 rfl (gq ad)<|qP 54 rfl (gq ad)<|qP 54 rfl (gq ad)<|qP 54 rfl (gq ad)<|qP 54 rfl (gq ad)<|qP 54 rfl (gq ad)<|qG 51 rfl (gq az)<|qv (v:=(.bool false)) rfl (fun _ hC=>Xr (congrArg Value.bool ad) rfl) ?_;refine qv (v:=(.bool false)) rfl (fun _ hC=>Xr (congrArg Value.bool az) rfl) ?_;refine Y1 ?_;intro g8 hC;replace hC:Zf a3 bw a3 g8:=.of_below hC.below;replace h0:=h0.gr hC;replace ab:=ab.grow hC;exact ⟨a3,false,hm,ab,h0,rfl,rfl,rfl,rfl,rfl,rfl,rfl⟩
theorem Zwn:Y2 Tryz.prog 79 1 4:=⟨Tryz.t79,_,rfl,rfl,rfl,rfl,rfl⟩
def Zjl (aa:Int) (kk_L2:(List Int→Int→Option (List Int×List Int×Int))) (ab:List Int):Option (List Int×List Int×Int):=
  kk_L2 ab (i64.wrap (aa+1))
def Ze7 (ab:Int) (ac:List Int) (aa:Int) (kk_L2:(List Int→Int→Option (List Int×List Int×Int))) (ad:Int):Option (List Int×List Int×Int):=
  (Zv ac aa).bind fun ae=>Xb (0≤ab) ((some (ac.set (Int.toNat aa) (u32.wrap (X0 .u64 (Yi .u64 (Xt .u64 (u64.wrap ad) 32) (u64.wrap ae)) ab)))).bind fun af=>Zjl aa kk_L2 af)
def Tu (N:Nat) (ac:Int) (ad:List Int) (ae:List Int):Nat→(List Int)→Int→Option (List Int×List Int×Int)
  | 0,_,_=>none
  | af+1,aa,ab=>if (decide (ab<(ae.length:Int)))=true then (if (decide ((i64.wrap (ab+1))<(aa.length:Int)))=true then ((Zv aa (i64.wrap (ab+1))).bind fun ag=>Ze7 ac aa ab (Tu N ac ad ae af) ag) else (Ze7 ac aa ab (Tu N ac ad ae af) 0)) else ((Um N ad).bind fun ah=>(Um N aa).bind fun ai=>some (ah,ai,0))
termination_by structural x=>x
def Zcf (N:Nat) (ae:Int) (ab:List Int):Nat→(List Int)→(List Int)→Int→Option (List Int×List Int×Int)
  | 0,_,_,_=>none
  | ah+1,ac,ad,aa=>if (decide (0≤aa))=true then (Xb ((0:Int)≤aa∧aa<(i64.wrap ((i64.wrap (aa+(ab.length:Int)))+1))∧(i64.wrap ((i64.wrap (aa+(ab.length:Int)))+1))≤(ac.length:Int)) ((Ze9 N (Int.toNat aa) ((Int.toNat (i64.wrap ((i64.wrap (aa+(ab.length:Int)))+1))) - (Int.toNat aa)) ac ab).bind fun af=>(Zv ad aa).bind fun aj=>(some (ad.set (Int.toNat aa) af.1)).bind fun ai=>(Zcf N ae ab ah) af.2 ai (i64.wrap (aa - 1)))) else ((Zcl N ac).bind fun ag=>Tu N ae ad ag N ag 0)
termination_by structural x=>x
def Zce (N:Nat) (ae:List Int) (af:List Int):Option (List Int×List Int×Int):=
  (Un N ae).bind fun ab=>(Un N af).bind fun aa=>if (decide ((aa.length:Int)=0))=true then (some (([]:List Int),([]:List Int),11)) else ((Zcc N ab aa).bind fun ag=>if (decide (ag<0))=true then ((Um N ab).bind fun ah=>some (([]:List Int),ah,0)) else (if (decide ((aa.length:Int)=1))=true then ((Zdm ab).bind fun ai=>(Zv aa 0).bind fun aj=>(Zhl N ai aj).bind fun ad=>(Um N ad.2).bind fun ak=>(Um N [ad.1]).bind fun al=>some (ak,al,0)) else ((Zv aa (i64.wrap ((aa.length:Int) - 1))).bind fun am=>(Zhb am).bind fun ac=>(Zfa ab ac).bind fun an=>(Zfa aa ac).bind fun ao=>(Zcl N ao).bind fun ap=>Xb ((Int.toNat (i64.wrap ((i64.wrap ((ab.length:Int) - (aa.length:Int)))+1))) * 4≤281474976710656∧(Int.toNat (i64.wrap ((i64.wrap ((ab.length:Int) - (aa.length:Int)))+1)))≤maxLen∧0≤(i64.wrap ((i64.wrap ((ab.length:Int) - (aa.length:Int)))+1))) (Zcf N ac ap N an (List.replicate (Int.toNat (i64.wrap ((i64.wrap ((ab.length:Int) - (aa.length:Int)))+1))) (0:Int)) (i64.wrap (((List.replicate (Int.toNat (i64.wrap ((i64.wrap ((ab.length:Int) - (aa.length:Int)))+1))) (0:Int)).length:Int) - 1))))))
theorem Zla (N:Nat) (c1:Nat) (c2:Nat) (col:Zh) (w0:World) (a0:Option Addr) (bx:Nat) (bg:List Int) (a1:Option Addr) (bz:Nat) (bh:List Int) (h0:Sl (Za.int .u32) col w0 a0 bx bg) (h1:Sl (Za.int .u32) col w0 a1 bz bh) (r:(List Int×List Int×Int)) (hm:Zce N bg bh=some r):
    Calls Tryz.prog 260 #[.slice a0 bg.length bx,.slice a1 bh.length bz] w0 (fun e w'=>∃ (col':Zh) (ra1:Option Addr) (rc2:Nat) (ra4:Option Addr) (rc5:Nat),e= .returned (.tuple #[.slice ra1 r.1.length rc2,.slice ra4 r.2.1.length rc5,.int .i64 r.2.2])∧Zf col w0 col' w'∧Zl (Za.int .u32) 79 c1 col' w' ra1 rc2 r.1∧Zl (Za.int .u32) 79 c2 col' w' ra4 rc5 r.2.1):=by
 refine Znv 4 5 6 (m:=122) (args:=[.slice a0 bg.length bx,.slice a1 bh.length bz]) func260 rfl rfl rfl rfl rfl ?_;rw [Zce.eq_1] at hm;have aa:=St.start col w0;refine Zb<|Zd<|Zu rfl<|Zu rfl<|Zj rfl<|Zc<|Zb<|Zd<|Zk rfl ?_;obtain ⟨av,de,hm⟩:=bZ hm;replace h0:=h0.keep (Zp.start col w0);refine lc rfl rfl (Z7 call217 rfl) (Tm N (Zo col) _ a0 bx bg (h0.ks aa) av de) ?_;rintro _ fq ⟨df,b0,b1,rfl,dg,am⟩;refine ⟨_,rfl,?_⟩;refine Zk rfl ?_;obtain ⟨a5,dh,hm⟩:=bZ hm;replace h1:=h1.keep (Zp.start col w0);replace aa:=aa.grow dg;refine lc rfl rfl (Z7 call217 rfl) (Tm N df _ a1 bz bh (h1.ks aa) a5 dh) ?_;rintro _ di ⟨an,cw,cx,rfl,cy,ai⟩;refine ⟨_,rfl,?_⟩;refine Zu rfl<|Zu rfl<|Zc<|Zb<|Zb<|Zd<|Zk rfl<|lV _ (Zs underlying43 rfl)<|lV _ (Y9 _ _ rfl rfl)<|Zc ?_;replace am:=am.gr cy;replace aa:=aa.grow cy;refine Zy _ rfl (fun hb=>?_) (fun hb=>?_)
 ·rw [if_pos hb] at hm;refine Zb<|Zd<|Zu rfl<|Zu rfl<|Zj rfl<|Zc<|Zq ?_;cases hm;exact ⟨rfl,Xh w0.heap.size col an (fun n=>0),none,0,none,0,rfl,aa.fin (fun n=>0),Zl.nil,Zl.nil⟩
 rw [if_neg (Zz hb)] at hm;refine Zr<|Zb<|Zb<|Zd<|Zk rfl<|Zk rfl ?_;obtain ⟨dj,dk,hm⟩:=bZ hm;refine lc rfl rfl (Xa call250 rfl rfl) (Zk9 N an _ b0 b1 av cw cx a5 am ai dj dk) ?_;rintro _ cz ⟨rfl,bi⟩;refine ⟨_,rfl,?_⟩;replace bi:Zf an di an cz:=.of_below bi;refine lV _ (Z4 _ _ rfl rfl)<|Zc ?_;replace am:=am.gr bi;replace ai:=ai.gr bi;replace aa:=aa.grow bi;refine Zy _ rfl (fun hb=>?_) (fun hb=>?_)
 ·rw [if_pos hb] at hm;refine Zb<|Zd<|Zk rfl ?_;obtain ⟨dl,dm,hm⟩:=bZ hm;refine lc rfl rfl (Z7 call218 rfl) (Tl N 1 an _ b0 b1 av am dl dm) ?_;rintro _ fr ⟨dn,dp,dq,rfl,dr,ds⟩;refine ⟨_,rfl,?_⟩;refine Zu rfl<|Zu rfl<|Zj rfl<|Zc<|Zq ?_;cases hm;replace aa:=aa.grow dr;exact ⟨rfl,Xh w0.heap.size col dn (fun n=>bif Nat.beq n 1 then c2 else 0),none,0,dp,dq,rfl,aa.fin (fun n=>bif Nat.beq n 1 then c2 else 0),Zl.nil,aa.finOwn (g:=(fun n=>bif Nat.beq n 1 then c2 else 0)) rfl ds (by decide) (by decide) rfl⟩
 rw [if_neg (Zz hb)] at hm;refine Zr<|Zb<|Zb<|Zd<|Zk rfl<|lV _ (Zs underlying43 rfl)<|lV _ (Y9 _ _ rfl rfl)<|Zc ?_;refine Zy _ rfl (fun hb=>?_) (fun hb=>?_)
 ·rw [if_pos hb] at hm;refine Zb<|Zd<|Zk rfl ?_;obtain ⟨b2,dt,hm⟩:=bZ hm;refine lc rfl rfl (Z7 call273 rfl) (Zlg 2 an _ b0 b1 av am b2 dt) ?_;rintro _ fs ⟨du,be,bf,rfl,c0,dv⟩;refine ⟨_,rfl,?_⟩;refine Zu rfl<|Zc<|Zb<|Zd<|Zk rfl<|Zk rfl ?_;obtain ⟨dw,b3,hm⟩:=bZ hm;replace ai:=ai.gr c0;refine lV _ (Zx underlying43 sizeOf79 rfl rfl (Zi b3).1 (Zi b3).2.1 (ai.addr b3)) ?_;refine lV _ (Zn isAgg79 rfl (ai.atInt b3)) ?_;obtain ⟨aj,dx,hm⟩:=bZ hm;refine lc rfl rfl (Xa call283 rfl rfl) (Zuz N du _ 2 rfl be bf b2 dw dv aj dx) ?_;rintro _ dy ⟨b4,rfl,dz,d0,c3⟩;refine ⟨_,rfl,?_⟩;refine .ld (d:=7) (v:=(.slice be aj.2.length bf)) (congrArg (fun n=>Value.slice be n bf) (show b2.length=aj.2.length from c3.symm)) ?_;refine .ld (d:=34) (v:=(.slice be aj.2.length bf)) (congrArg (fun n=>Value.slice be n bf) (show b2.length=aj.2.length from c3.symm)) ?_;refine Zj rfl<|Zc<|Zb<|Zd<|Zk rfl ?_;obtain ⟨d1,d2,hm⟩:=bZ hm;refine lc rfl rfl (Z7 call218 rfl) (Tl N 3 (Z3 2 b4) _ be bf aj.2 (d0.toSlF (Z2.int .u32)) d1 d2) ?_;rintro _ ft ⟨d3,d4,d5,rfl,b5,bj⟩;refine ⟨_,rfl,?_⟩;replace bj:=bj.thaw (Xz .u32) b5 ((Fz.refl (col:=b4)).froz 2) (by decide);replace b5:=b5.thawR (col:=b4);generalize X1 dy.heap.size b4 d3=d6 at *;refine Zg rfl<|Wk (col:=d6) (r:=(Za.int .u32)) (xs:=[aj.1]) [.int .u32 aj.1] 4 rfl underlying43 Zwn rfl rfl rfl rfl rfl rfl (by intro v hv;simp only [List.mem_cons,List.not_mem_nil,or_false] at hv;subst hv;rfl) (Y6.ofF (Rows.consF (r:=(Za.int .u32)) (x:=aj.1) (cs:=[.int .u32 aj.1]) (X8 .u32 aj.1) Rows.nil0)) ?_;intro d7 d8 b6 c4 d9;obtain ⟨ea,eb,hm⟩:=bZ hm;refine lc rfl rfl (Z7 call218 rfl) (Tl N 5 (Z3 4 b6) _ d7 1 [aj.1] (d9.toSlF (Z2.int .u32)) ea eb) ?_;rintro _ fu ⟨ec,ed,ee,rfl,bk,ck⟩;refine ⟨_,rfl,?_⟩;replace ck:=ck.thaw (Xz .u32) bk ((Fz.refl (col:=b6)).froz 4) (by decide);replace bk:=bk.thawR (col:=b6);generalize X1 d8.heap.size b6 ec=ef at *;refine Zu rfl<|Zu rfl<|Zj rfl<|Zc<|Zq ?_;cases hm;replace aa:=((((aa.grow c0).kpp dz).grow b5).grow c4).grow bk;replace bj:=(bj.gr c4).gr bk
  exact ⟨rfl,Xh w0.heap.size col ef (fun n=>bif Nat.beq n 3 then c1 else bif Nat.beq n 5 then c2 else 0),d4,d5,ed,ee,rfl,aa.fin (fun n=>bif Nat.beq n 3 then c1 else bif Nat.beq n 5 then c2 else 0),aa.finOwn (g:=(fun n=>bif Nat.beq n 3 then c1 else bif Nat.beq n 5 then c2 else 0)) rfl bj (by decide) (by decide) rfl,aa.finOwn (g:=(fun n=>bif Nat.beq n 3 then c1 else bif Nat.beq n 5 then c2 else 0)) rfl ck (by decide) (by decide) rfl⟩
 rw [if_neg (Zz hb)] at hm;refine Zr<|Zb<|Zd<|Zk rfl<|Zk rfl<|lV _ (Zs underlying43 rfl)<|lV _ (Yb _ _ rfl rfl) ?_;obtain ⟨eg,b7,hm⟩:=bZ hm;refine lV _ (Zx underlying43 sizeOf79 rfl rfl (Zi b7).1 (Zi b7).2.1 (ai.addr b7)) ?_;refine lV _ (Zn isAgg79 rfl (ai.atInt b7)) ?_;obtain ⟨ab,eh,hm⟩:=bZ hm;refine lc rfl rfl (Z7 call287 rfl) (Zum an _ eg ab eh) ?_;rintro _ ei ⟨rfl,bl⟩;refine ⟨_,rfl,?_⟩;replace bl:Zf an cz an ei:=.of_below bl;refine Zj rfl<|Zc<|Zb<|Zd<|Zk rfl<|Zg rfl ?_;obtain ⟨c5,ej,hm⟩:=bZ hm;replace am:=am.gr bl;refine lc rfl rfl (Xa call277 rfl rfl) (Znc 6 an _ b0 b1 av ab am c5 ej) ?_;rintro _ fv ⟨ek,el,em,rfl,c6,bm⟩;refine ⟨_,rfl,?_⟩;refine Zk rfl<|Zg rfl ?_;obtain ⟨c7,en,hm⟩:=bZ hm;replace ai:=(ai.gr bl).gr c6;refine lc rfl rfl (Xa call277 rfl rfl) (Znc 7 ek _ cw cx a5 ab ai c7 en) ?_;rintro _ fw ⟨eo,ep,eq,rfl,c8,er⟩;refine ⟨_,rfl,?_⟩;obtain ⟨a6,es,hm⟩:=bZ hm;refine lc rfl rfl (Z7 call217 rfl) (Znd N eo _ 7 rfl ep eq c7 er a6 es) ?_;rintro _ et ⟨eu,cl,cm,rfl,c9,ao⟩;refine ⟨_,rfl,?_⟩;refine Zu rfl<|Zu rfl<|Zc<|Zb<|Zd<|Zk rfl<|lV _ (Zs underlying43 rfl)<|Zk rfl<|lV _ (Zs underlying43 rfl)<|lV _ (Yb _ _ rfl rfl)<|lV _ (Z5 _ _ rfl rfl) ?_;obtain ⟨b8,hm⟩:=Xd hm;refine Qr (col:=eu) (w:=et) (r:=(Za.int .u32)) (n:=(Int.toNat (i64.wrap ((i64.wrap ((av.length:Int) - (a5.length:Int)))+1)))) (x0:=0) 8 rfl underlying43 Tryz.t79 rfl rfl rfl rfl rfl (congrArg (Value.int _) (Int.toNat_of_nonneg b8.2.2).symm) (congrArg (Value.int _) (Int.toNat_of_nonneg b8.2.2).symm) b8.1 b8.2.1 (X8 .u32 0) ?_;intro ev fx ew cn co;refine Zu rfl<|Zc<|Zb<|Zb<|Zd<|Zk rfl<|lV _ (Zs underlying43 rfl)<|lV _ (Yb _ _ rfl rfl)<|Zj rfl<|Zc<|Z0 ?_;replace bm:=((bm.gr c8).kpp c9).gr cn;replace bm:=bm.froz 7 (by decide);replace ao:=ao.gr cn;replace ao:=(ao).toSlF (Z2.int .u32);replace co:=co.froz 7 (by decide);replace aa:=((((aa.grow bl).grow c6).grow c8).kpp c9).grow cn;replace aa:=aa.froz 7 (by decide) (by decide)
 refine Xi (fun n f bn=>∃ (a7:Zh) (aw:Option Addr) (ap:Nat) (a8:List Int) (af:Option Addr) (ag:Nat) (ae:List Int) (ah:Int) (a9:Nat),a9=n∧Zcf N ab a6 a9 a8 ae ah=some r∧St w0 (Zo col) a7 bn∧Zl (Za.int .u32) 79 6 a7 bn aw ap a8∧Sl (Za.int .u32) a7 bn cl cm a6∧Zl (Za.int .u32) 79 8 a7 bn af ag ae∧f 10=(.slice aw a8.length ap)∧f 11=(.slice cl a6.length cm)∧f 12=(.slice af ae.length ag)∧f 13=(.int .i64 ah)∧f 9=(.int .i64 ab)∧f 1000000=(enc [])) N ⟨(Z3 7 ew),el,em,c5,ev,(Int.toNat (i64.wrap ((i64.wrap ((av.length:Int) - (a5.length:Int)))+1))),(List.replicate (Int.toNat (i64.wrap ((i64.wrap ((av.length:Int) - (a5.length:Int)))+1))) (0:Int)),(i64.wrap (((List.replicate (Int.toNat (i64.wrap ((i64.wrap ((av.length:Int) - (a5.length:Int)))+1))) (0:Int)).length:Int) - 1)),N,rfl,hm,aa,bm,ao,co,rfl,rfl,rfl,rfl,rfl,rfl⟩ ?_;clear hm;intro n f bn hI;obtain ⟨a7,aw,ap,a8,af,ag,ae,ah,a9,hn,hm,aa,cp,ao,ac,ba,ex,bb,ey,bc,bd⟩:=hI;subst hn;refine .lD 10 ba<|.lD 11 ex<|.lD 12 bb<|.lD 13 ey<|.lD 9 bc<|.lD 1000000 bd ?_
 cases a9 with
 | zero=>rw [Zcf.eq_1] at hm;cases hm
 | succ a9=>
  rw [Zcf.eq_2] at hm;refine Zb<|Zb<|Zd<|Zg rfl<|lV _ (Uq _ _ rfl rfl)<|Zc ?_;refine Zy _ rfl (fun hb=>?_) (fun hb=>?_)
  ·rw [if_pos hb] at hm;refine Zr<|Zb<|Z0<|Zd<|Zk rfl<|Zg rfl<|Zk rfl<|Zg rfl<|Zg rfl<|Zk rfl<|lV _ (Zs underlying43 rfl)<|lV _ (Z5 _ _ rfl rfl)<|lV _ (Z5 _ _ rfl rfl) ?_;obtain ⟨cq,hm⟩:=Xd hm;refine lV (.slice (aw.map (·.add ((Int.toNat ah) * 1))) ((Int.toNat (i64.wrap ((i64.wrap (ah+(a6.length:Int)))+1))) - (Int.toNat ah)) (ap - (Int.toNat ah))) (Zy2 underlying43 sizeOf79 rfl rfl rfl cq.1 cq.2.1 (by have:=cp.lecap;have:=cq.2.2;omega))<|Zk rfl ?_;obtain ⟨a2,ez,hm⟩:=bZ hm;refine lc rfl rfl (Xa call288 rfl rfl) (Zux N a7 _ 6 rfl aw ap (Int.toNat ah) ((Int.toNat (i64.wrap ((i64.wrap (ah+(a6.length:Int)))+1))) - (Int.toNat ah)) (ap - (Int.toNat ah)) a8 cl cm a6 cp ao a2 ez) ?_;rintro _ fy ⟨e0,rfl,cr,ct,e1⟩;refine ⟨_,rfl,?_⟩;refine .ld (d:=10) (v:=(.slice aw a2.2.length ap)) (congrArg (fun n=>Value.slice aw n ap) (show a8.length=a2.2.length from e1.symm)) ?_;obtain ⟨fz,b9,hm⟩:=bZ hm;replace ac:=ac.kpp cr;refine lV _ (Zx underlying43 sizeOf79 rfl rfl (Zi b9).1 (Zi b9).2.1 (ac.addr b9)) ?_;obtain ⟨ca,cb,hm⟩:=bZ hm;have cb:ca=ae.set (Int.toNat ah) a2.1:=(Option.some.inj cb).symm;refine Ww (x1:=a2.1) (v:=(.int .u32 a2.1)) ac b9 rfl sizeOf79 (X8 .u32 a2.1) rfl rfl (by decide) ?_;intro f0 cu e2 da;rw [← cb] at da;refine .ld (d:=12) (v:=(.slice af ca.length ag)) (congrArg (fun n=>Value.slice af n ag) (show ae.length=ca.length by rw [cb,List.length_set])) ?_;refine Zc<|Zd<|Zg rfl<|lV _ (Yb _ _ rfl rfl)<|Zj rfl<|Zc ?_;replace ao:=(ao.kpp cr).kp cu;replace aa:=(aa.kpp cr).kp cu e2;replace ct:=ct.kp cu;exact ⟨a9,by omega,⟨e0,aw,ap,a2.2,af,ag,ca,(i64.wrap (ah - 1)),a9,rfl,hm,aa,ct,ao,da,rfl,rfl,rfl,rfl,rfl,rfl⟩⟩
  rw [if_neg (Zz hb)] at hm;refine Xl (Xk ?_);refine Zb<|Zd<|Zk rfl ?_;obtain ⟨a3,e3,hm⟩:=bZ hm;refine lc rfl rfl (Z7 call217 rfl) (Znd N a7 _ 6 rfl aw ap a8 cp a3 e3) ?_;rintro _ f1 ⟨e4,e5,e6,rfl,db,e7⟩;refine ⟨_,rfl,?_⟩;refine Zu rfl<|Zc<|Zb<|Zb<|Zd<|Zk rfl<|lV _ (Zs underlying43 rfl)<|Zg rfl<|Zc<|Z0 ?_;replace ac:=ac.kpp db;replace aa:=aa.kpp db;refine Xi (fun n f bo=>∃ (aq:Zh) (ax:Option Addr) (ay:Nat) (ar:List Int) (au:Int) (az:Nat),az=n∧Tu N ab ae a3 az ar au=some r∧St w0 (Zo col) aq bo∧Zl (Za.int .u32) 79 6 aq bo ax ay ar∧Zl (Za.int .u32) 79 8 aq bo af ag ae∧f 10=(.slice ax ar.length ay)∧f 12=(.slice af ae.length ag)∧f 88=(.int .i64 a3.length)∧f 89=(.int .i64 au)∧f 9=(.int .i64 ab)∧f 1000000=(enc [])) N ⟨e4,e5,e6,a3,0,N,rfl,hm,aa,e7,ac,rfl,rfl,rfl,rfl,rfl,rfl⟩ ?_;clear hm;intro n f bo hI;obtain ⟨aq,ax,ay,ar,au,az,hn,hm,aa,ak,ac,ba,bb,bp,bq,bc,bd⟩:=hI;subst hn;refine .lD 10 ba<|.lD 12 bb<|.lD 88 bp<|.lD 89 bq<|.lD 9 bc<|.lD 1000000 bd ?_
  cases az with
  | zero=>rw [Tu.eq_1] at hm;cases hm
  | succ az=>
   rw [Tu.eq_2] at hm;refine Zb<|Zd<|lV _ (Z4 _ _ rfl rfl)<|Zc<|Zb ?_;refine Zy _ rfl (fun hb=>?_) (fun hb=>?_)
   ·rw [if_pos hb] at hm;refine Zr<|Zb ?_;refine Wp.cut (fun f cc=>∃ (br:Zh) (cd:Option Addr) (ce:Nat) (bs:List Int),Zjl au (Tu N ab ae a3 az) bs=some r∧St w0 (Zo col) br cc∧Zl (Za.int .u32) 79 6 br cc cd ce bs∧Zl (Za.int .u32) 79 8 br cc af ag ae∧f 10=(.slice cd bs.length ce)∧f 12=(.slice af ae.length ag)∧f 88=(.int .i64 a3.length)∧f 89=(.int .i64 au)∧f 9=(.int .i64 ab)∧f 1000000=(enc [])) ?_ ?_
    ·intro f cc hJ;obtain ⟨br,cd,ce,bs,hm,aa,e8,ac,ba,bb,bp,bq,bc,bd⟩:=hJ;rw [Zjl.eq_1] at hm;refine .lD 10 ba<|.lD 12 bb<|.lD 88 bp<|.lD 89 bq<|.lD 9 bc<|.lD 1000000 bd<|Zd<|lV _ (Z5 _ _ rfl rfl)<|Zg rfl<|Zc ?_;exact ⟨az,by omega,⟨br,cd,ce,bs,(i64.wrap (au+1)),az,rfl,hm,aa,e8,ac,rfl,rfl,rfl,rfl,rfl,rfl⟩⟩
    refine Z0<|Zb<|Zd<|Zg rfl<|Zj rfl<|Zc<|Zb<|Zd<|Zj rfl<|Zc<|Zb ?_;refine Wp.cut (fun f cf=>∃ (bt:Zh) (ad:Int),Ze7 ab ar au (Tu N ab ae a3 az) ad=some r∧St w0 (Zo col) bt cf∧Zl (Za.int .u32) 79 6 bt cf ax ay ar∧Zl (Za.int .u32) 79 8 bt cf af ag ae∧f 10=(.slice ax ar.length ay)∧f 12=(.slice af ae.length ag)∧f 14=(.int .i64 au)∧f 15=(.int .u32 ad)∧f 88=(.int .i64 a3.length)∧f 89=(.int .i64 au)∧f 9=(.int .i64 ab)∧f 1000000=(enc [])) ?_ ?_
    ·intro f cf hJ;obtain ⟨bt,ad,hm,aa,ak,ac,ba,bb,e9,fa,bp,bq,bc,bd⟩:=hJ;rw [Ze7.eq_1] at hm;refine .lD 10 ba<|.lD 12 bb<|.lD 14 e9<|.lD 15 fa<|.lD 88 bp<|.lD 89 bq<|.lD 9 bc<|.lD 1000000 bd<|Zd<|Zk rfl<|Zg rfl<|Zg rfl<|lV (.int .u64 (u64.wrap ad)) (Xx ad ⟨_,underlying79⟩ underlying193 rfl)<|lV (.int .u64 (Xt .u64 (u64.wrap ad) 32)) (Zdr (u64.wrap ad) 32 rfl rfl (by decide))<|Zk rfl<|Zg rfl ?_;obtain ⟨al,a4,hm⟩:=bZ hm;refine lV _ (Zx underlying43 sizeOf79 rfl rfl (Zi a4).1 (Zi a4).2.1 (ak.addr a4)) ?_;refine lV _ (Zn isAgg79 rfl (ak.atInt a4))<|lV (.int .u64 (u64.wrap al)) (Xx al ⟨_,underlying79⟩ underlying193 rfl)<|lV (.int .u64 (Yi .u64 (Xt .u64 (u64.wrap ad) 32) (u64.wrap al))) (Zig (Xt .u64 (u64.wrap ad) 32) (u64.wrap al) rfl rfl)<|Zg rfl ?_;obtain ⟨fb,hm⟩:=Xd hm;refine lV (.int .u64 (X0 .u64 (Yi .u64 (Xt .u64 (u64.wrap ad) 32) (u64.wrap al)) ab)) (T8 (Yi .u64 (Xt .u64 (u64.wrap ad) 32) (u64.wrap al)) ab rfl rfl fb)<|lV (.int .u32 (u32.wrap (X0 .u64 (Yi .u64 (Xt .u64 (u64.wrap ad) 32) (u64.wrap al)) ab))) (Xx (X0 .u64 (Yi .u64 (Xt .u64 (u64.wrap ad) 32) (u64.wrap al)) ab) ⟨_,underlying193⟩ underlying79 rfl) ?_;refine lV _ (Zx underlying43 sizeOf79 rfl rfl (Zi a4).1 (Zi a4).2.1 (ak.addr a4)) ?_;obtain ⟨cg,ch,hm⟩:=bZ hm;have ch:cg=ar.set (Int.toNat au) (u32.wrap (X0 .u64 (Yi .u64 (Xt .u64 (u64.wrap ad) 32) (u64.wrap al)) ab)):=(Option.some.inj ch).symm;refine Ww (x1:=u32.wrap (X0 .u64 (Yi .u64 (Xt .u64 (u64.wrap ad) 32) (u64.wrap al)) ab)) (v:=(.int .u32 (u32.wrap (X0 .u64 (Yi .u64 (Xt .u64 (u64.wrap ad) 32) (u64.wrap al)) ab)))) ak a4 rfl sizeOf79 (X8 .u32 (u32.wrap (X0 .u64 (Yi .u64 (Xt .u64 (u64.wrap ad) 32) (u64.wrap al)) ab))) rfl rfl (by decide) ?_;intro f2 dc fc dd;rw [← ch] at dd;refine .ld (d:=10) (v:=(.slice ax cg.length ay)) (congrArg (fun n=>Value.slice ax n ay) (show ar.length=cg.length by rw [ch,List.length_set])) ?_;refine Zc ?_;replace ac:=ac.kp dc;replace aa:=aa.kp dc fc;exact ⟨bt,ax,ay,cg,hm,aa,dd,ac,rfl,rfl,rfl,rfl,rfl,rfl⟩
    refine Zb<|Zd<|Zg rfl<|lV _ (Z5 _ _ rfl rfl)<|Zk rfl<|lV _ (Zs underlying43 rfl)<|lV _ (Z4 _ _ rfl rfl)<|Zc ?_;refine Zy _ rfl (fun hb=>?_) (fun hb=>?_)
    ·rw [if_pos hb] at hm;refine Zd<|Zk rfl<|Zg rfl<|lV _ (Z5 _ _ rfl rfl) ?_;obtain ⟨fd,ci,hm⟩:=bZ hm;refine lV _ (Zx underlying43 sizeOf79 rfl rfl (Zi ci).1 (Zi ci).2.1 (ak.addr ci)) ?_;refine lV _ (Zn isAgg79 rfl (ak.atInt ci))<|Zj rfl<|Zc ?_;exact ⟨aq,fd,hm,aa,ak,ac,rfl,rfl,rfl,rfl,rfl,rfl,rfl,rfl⟩
    rw [if_neg (Zz hb)] at hm;refine Zr ?_;exact ⟨aq,0,hm,aa,ak,ac,rfl,rfl,rfl,rfl,rfl,rfl,rfl,rfl⟩
   rw [if_neg (Zz hb)] at hm;refine Xl (Xk ?_);refine Zb<|Zd<|Zk rfl ?_;obtain ⟨fe,ff,hm⟩:=bZ hm;refine lc rfl rfl (Z7 call218 rfl) (Tl N 9 (Z3 8 aq) _ af ag ae (ac.toSlF (Z2.int .u32)) fe ff) ?_;rintro _ fg ⟨fh,fi,fj,rfl,bu,bv⟩;refine ⟨_,rfl,?_⟩;replace bv:=bv.thaw (Xz .u32) bu ((Fz.refl (col:=aq)).froz 8) (by decide);replace bu:=bu.thawR (col:=aq);generalize X1 bo.heap.size aq fh=cj at *;refine Zk rfl ?_;obtain ⟨fk,fl,hm⟩:=bZ hm;replace ak:=ak.gr bu;refine lc rfl rfl (Z7 call218 rfl) (Tl N 10 (Z3 6 cj) _ ax ay ar (ak.toSlF (Z2.int .u32)) fk fl) ?_;rintro _ f3 ⟨fm,fn,fo,rfl,bw,cv⟩;refine ⟨_,rfl,?_⟩;replace cv:=cv.thaw (Xz .u32) bw ((Fz.refl (col:=cj)).froz 6) (by decide);replace bw:=bw.thawR (col:=cj);generalize X1 fg.heap.size cj fm=fp at *;refine Zu rfl<|Zu rfl<|Zj rfl<|Zc<|Zq ?_;cases hm;replace aa:=(aa.grow bu).grow bw;replace bv:=bv.gr bw;exact ⟨rfl,Xh w0.heap.size col fp (fun n=>bif Nat.beq n 9 then c1 else bif Nat.beq n 10 then c2 else 0),fi,fj,fn,fo,rfl,aa.fin (fun n=>bif Nat.beq n 9 then c1 else bif Nat.beq n 10 then c2 else 0),aa.finOwn (g:=(fun n=>bif Nat.beq n 9 then c1 else bif Nat.beq n 10 then c2 else 0)) rfl bv (by decide) (by decide) rfl,aa.finOwn (g:=(fun n=>bif Nat.beq n 9 then c1 else bif Nat.beq n 10 then c2 else 0)) rfl cv (by decide) (by decide) rfl⟩
def Zhf (N:Nat) (ab:List Int):Option Int:=
  (Un N ab).bind fun aa=>if (decide ((aa.length:Int)=0))=true then (some 0) else ((Zv aa (i64.wrap ((aa.length:Int) - 1))).bind fun ac=>(Zet ac).bind fun ad=>some (i64.wrap ((i64.wrap (32 * (i64.wrap ((aa.length:Int) - 1))))+ad)))
theorem Zuv (N:Nat) (col:Zh) (w0:World) (a0:Option Addr) (ad:Nat) (ab:List Int) (h0:Sl (Za.int .u32) col w0 a0 ad ab) (r:Int) (hm:Zhf N ab=some r):
    Calls Tryz.prog 128 #[.slice a0 ab.length ad] w0 (fun e w'=>e= .returned ((.int .i64 r))∧Below w0.heap.size w0 w'):=by
 refine Xv 2 (m:=20) func128 rfl rfl rfl rfl rfl ?_;rw [Zhf.eq_1] at hm;have aa:=St.start col w0;refine Zb<|Zd<|Zj rfl<|Zc<|Zb<|Zd<|Zk rfl ?_;obtain ⟨ah,ai,hm⟩:=bZ hm;replace h0:=h0.keep (Zp.start col w0);refine lc rfl rfl (Z7 call217 rfl) (Tm N (Zo col) _ a0 ad ab (h0.ks aa) ah ai) ?_;rintro _ aj ⟨ae,ap,aq,rfl,ak,ag⟩;refine ⟨_,rfl,?_⟩;refine Zu rfl<|Zc<|Zb<|Zb<|Zd<|Zk rfl<|lV _ (Zs underlying43 rfl)<|lV _ (Y9 _ _ rfl rfl)<|Zc ?_;replace aa:=aa.grow ak;refine Zy _ rfl (fun hb=>?_) (fun hb=>?_)
 ·rw [if_pos hb] at hm;refine Zb<|Zd<|Zj rfl<|Zc<|Zq ?_;cases hm;exact ⟨rfl,rfl,aa.below⟩
 rw [if_neg (Zz hb)] at hm;refine Zr<|Zb<|Zd<|Zk rfl<|lV _ (Zs underlying43 rfl)<|lV _ (Yb _ _ rfl rfl)<|lV _ (Ur _ _ rfl rfl)<|Zk rfl<|Zk rfl<|lV _ (Zs underlying43 rfl)<|lV _ (Yb _ _ rfl rfl) ?_;obtain ⟨al,ac,hm⟩:=bZ hm;refine lV _ (Zx underlying43 sizeOf79 rfl rfl (Zi ac).1 (Zi ac).2.1 (ag.addr ac)) ?_;refine lV _ (Zn isAgg79 rfl (ag.atInt ac)) ?_;obtain ⟨am,an,hm⟩:=bZ hm;refine lc rfl rfl (Z7 call232 rfl) (Zm7 ae _ al am an) ?_;rintro _ ao ⟨rfl,af⟩;refine ⟨_,rfl,?_⟩;replace af:Zf ae aj ae ao:=.of_below af;refine lV _ (Z5 _ _ rfl rfl)<|Zj rfl<|Zc<|Zq ?_;cases hm;replace aa:=aa.grow af;exact ⟨rfl,rfl,aa.below⟩
def Xw (n:Nat):Nat:=if n=0 then 0 else n.log2+1
theorem Zd0:Xw 0=0:=rfl
theorem Zm0 {n k:Nat} (h:2 ^ k≤n) (h2:n<2 ^ (k+1)):Xw n=k+1:=by
 have h0:n≠0:=by have:=Nat.two_pow_pos k;omega
 rw [Xw,if_neg h0,(Nat.log2_eq_iff h0).2 ⟨h,h2⟩]
theorem Zi1 {n:Nat} (h:n≠0):∃ k,Xw n=k+1∧2 ^ k≤n∧n<2 ^ (k+1):=by
 refine ⟨n.log2,by rw [Xw,if_neg h],?_⟩
 exact (Nat.log2_eq_iff h).1 rfl
theorem V0 {n k:Nat}:Xw n≤k↔n<2 ^ k:=by
 by_cases h:n=0
 ·subst h;simp [Zd0,Nat.two_pow_pos]
 ·obtain ⟨j,e,h1,h2⟩:=Zi1 h
  rw [e]
  constructor
  ·intro hk;exact Nat.lt_of_lt_of_le h2 (Nat.pow_le_pow_right (by decide) hk)
  ·intro hk
   have:=(Nat.pow_lt_pow_iff_right (a:=2) (by decide)).1 (Nat.lt_of_le_of_lt h1 hk)
   omega
theorem Zgx (n k:Nat):Xw (n / 2 ^ k)=Xw n - k:=by
 by_cases h:n / 2 ^ k=0
 ·have h1:n<2 ^ k:=by
   have:=Nat.two_pow_pos k
   rcases Nat.div_eq_zero_iff.1 h with h | h
   ·omega
   ·exact h
  have:=V0.2 h1
  rw [h,Zd0];omega
 ·obtain ⟨j,e,h1,h2⟩:=Zi1 h
  have hp:=Nat.two_pow_pos k
  have h3:2 ^ (j+k)≤n:=by
   rw [Nat.pow_add]
   exact (Nat.le_div_iff_mul_le hp).1 h1
  have h4:n<2 ^ (j+k+1):=by
   have:=(Nat.div_lt_iff_lt_mul hp).1 h2
   rw [show j+k+1=(j+1)+k by omega,Nat.pow_add];exact this
  rw [e,Zm0 h3 h4];omega
theorem Zxg:∀ x:Fin 256,Zb9 (x.val:Int) 0=some ((Xw x.val:Nat):Int):=by decide+kernel
theorem Zpy {x:Nat} (h:x<256) {n:Int} (hn:0≤n∧n≤24):Zb9 (x:Int) n=some (n+(Xw x:Int)):=by
 have h0:=Zxg ⟨x,h⟩
 have hb:Xw x≤8:=V0.2 h
 rw [Zb9] at h0 ⊢
 revert h0
 generalize Ziw _ _=o
 intro h0
 cases o with
 | none=>cases h0
 | some e=>
  rw [Option.bind_some] at h0 ⊢
  have h1:=Option.some.inj h0
  rw [IntKind.wrap_i64,IntKind.wrap_i64] at h1 ⊢
  congr 1
  simp only at h1
  omega
theorem Zkr (i:IntKind) (x k:Nat) (hk:k≤i.bits):X0 i (x:Int) (k:Int)=((x / 2 ^ k:Nat):Int):=by
 rw [X0,Int.toNat_natCast,Nat.min_eq_left hk,Int.fdiv_eq_ediv_of_nonneg _ (Int.le_of_lt (Int.pow_pos (by decide)))]
 norm_cast
theorem Zps {x:Nat} (h:x<4294967296):Zet (x:Int)=some ((Xw x:Nat):Int):=by
 have j1:∀ (y:Nat) (n:Int),y<65536→0≤n∧n≤16→Zeu (y:Int) n=some (n+(Xw y:Int)):=fun y n hy hn=>by
  rw [Zeu]
  by_cases h1:256≤y
  ·have e:=Zkr .u32 y 8 (by decide)
   have hb:=Zgx y 8
   have hb8:8≤Xw y:=by
    have:¬ Xw y≤7:=fun h=>by have:=V0.1 h;omega
    omega
   rw [if_pos (by simp;omega),show (8:Int)=((8:Nat):Int) from rfl,e,Zpy (by omega) (by rw [Z6 (by omega)];omega),Z6 (by omega),hb]
   congr 1;omega
  ·rw [if_neg (by simp;omega),Zpy (by omega) (by omega)]
 rw [Zet]
 by_cases h1:65536≤x
 ·have e:=Zkr .u32 x 16 (by decide)
  have hb:=Zgx x 16
  have hb8:16≤Xw x:=by
   have:¬ Xw x≤15:=fun h=>by have:=V0.1 h;omega
   omega
  rw [if_pos (by simp;omega),show (16:Int)=((16:Nat):Int) from rfl,e,j1 _ _ (by omega) (by omega),hb]
  congr 1;omega
 ·rw [if_neg (by simp;omega),j1 _ _ (by omega) (by omega)]
  congr 1;omega
theorem Zm2 {a:List Int} {x:Int} (ha:Zw a) (hx:0<x∧x<4294967296):Xw (Ze (a++[x]))=32 * a.length+Xw x.toNat:=by
 obtain ⟨k,e,h1,h2⟩:=Zi1 (show x.toNat≠0 by omega)
 have hl:=T5 ha
 have e1:Ze (a++[x])=Ze a+4294967296 ^ a.length * x.toNat:=by rw [T4,Wh,Yx];simp
 have e2:(4294967296:Nat) ^ a.length=2 ^ (32 * a.length):=by rw [show (4294967296:Nat)=2 ^ 32 by decide,← Nat.pow_mul]
 rw [e]
 have:=Zm0 (n:=Ze (a++[x])) (k:=32 * a.length+k) (by
   rw [e1,e2,Nat.pow_add]
   have:=Nat.mul_le_mul_left (2 ^ (32 * a.length)) h1
   omega) (by
   rw [e1,show 32 * a.length+k+1=32 * a.length+(k+1) by omega,Nat.pow_add,e2]
   have:=Nat.mul_le_mul_left (2 ^ (32 * a.length)) (show x.toNat+1≤2 ^ (k+1) by omega)
   rw [Nat.mul_add] at this
   rw [e2] at hl
   omega)
 rw [this];omega
theorem Ziz (n:Nat):32 * ((Zm n).length - 1)≤Xw n∧Xw n≤32 * (Zm n).length:=by
 have e:∀ k,(4294967296:Nat) ^ k=2 ^ (32 * k):=fun k=>by rw [show (4294967296:Nat)=2 ^ 32 by decide,← Nat.pow_mul]
 constructor
 ·by_cases h:32 * ((Zm n).length - 1)≤Xw n
  ·exact h
  ·exfalso
   have h1:=V0.1 (show Xw n≤32 * ((Zm n).length - 1) by omega)
   rw [← e] at h1
   have:=W9.2 h1
   omega
 ·have:=W9.1 (Nat.le_refl (Zm n).length)
  rw [e] at this
  exact V0.2 this
theorem Zt7 {N:Nat} {a:List Int} (h:Zw a) (hn:a.length<N) (hb:a.length≤1099511627776):Zhf N a=some ((Xw (Ze a):Nat):Int):=by
 have hl:=Yz h
 rw [Zhf,Sa h hn hb,Option.bind_some]
 by_cases h0:(Zm (Ze a)).length=0
 ·have:Ze a=0:=Zed.1 (List.eq_nil_of_length_eq_zero h0)
  rw [if_pos (by simp [h0]),this,Zd0];rfl
 ·have hp:0<(Zm (Ze a)).length:=by omega
  have e:((Zm (Ze a)).length:Int) - 1=(((Zm (Ze a)).length - 1:Nat):Int):=by omega
  have hx:=(Xq (Ze a)).get (k:=(Zm (Ze a)).length - 1) (by omega)
  have hne:=Zji hp
  have hs:=Zeb hp
  have e2:(Zm (Ze a))[(Zm (Ze a)).length - 1]=(((Zm (Ze a))[(Zm (Ze a)).length - 1]).toNat:Int):=by omega
  rw [if_neg (by simpa using h0),Z6 (by omega),e,Xg (by omega),Option.bind_some,e2,Zps (by omega),Option.bind_some]
  have hb:=Zm2 (a:=(Zm (Ze a)).take ((Zm (Ze a)).length - 1)) (x:=(Zm (Ze a))[(Zm (Ze a)).length - 1]) ((Xq _).take _) (by omega)
  rw [hs,Xo,List.length_take,Nat.min_eq_left (by omega)] at hb
  have hb2:Xw ((Zm (Ze a))[(Zm (Ze a)).length - 1]).toNat≤32:=V0.2 (by omega)
  rw [Z6 (x:=32 * _) (by omega),Z6 (by omega),hb]
  congr 1
theorem Zd1 (w x:Nat) (h:x<2 ^ w):(BitVec.ofInt w (x:Int)).toNat=x:=by
 rw [BitVec.toNat_ofInt]
 have:((2 ^ w:Nat):Int)=(2:Int) ^ w:=by norm_cast
 rw [← Int.natCast_emod,Int.toNat_natCast,Nat.mod_eq_of_lt h]
theorem or64 (k a b:Nat) (h:b<2 ^ k) (hs:2 ^ k * a+b<18446744073709551616):Yi .u64 ((2 ^ k * a:Nat):Int) (b:Int)=((2 ^ k * a+b:Nat):Int):=by
 rw [Yi,BitVec.toNat_or,Zd1 _ _ (by simp only [IntKind.bits];omega),Zd1 _ _ (by simp only [IntKind.bits];omega),← Nat.two_pow_add_eq_or_of_lt h,IntKind.wrap_u64]
 omega
theorem or32 (k a b:Nat) (h:b<2 ^ k) (hs:2 ^ k * a+b<4294967296):Yi .u32 (b:Int) ((2 ^ k * a:Nat):Int)=((2 ^ k * a+b:Nat):Int):=by
 rw [Yi,BitVec.toNat_or,Zd1 _ _ (by simp only [IntKind.bits];omega),Zd1 _ _ (by simp only [IntKind.bits];omega),Nat.or_comm,← Nat.two_pow_add_eq_or_of_lt h,IntKind.wrap_u32]
 omega
theorem Zzm {x:Int} (h:0≤x∧x<4294967296):Xt .u64 x 32=x * 4294967296:=by
 have:(min (32:Int).toNat u64.bits)=32:=by decide
 rw [Xt,this,IntKind.wrap_u64]
 omega
theorem Zkv {r e:Int} (hr:0≤r∧r<4294967296) (he:0≤e∧e<4294967296):Yi .u64 (Xt .u64 r 32) e=r * 4294967296+e:=by
 rw [Zzm hr]
 have:=or64 32 r.toNat e.toNat (by omega) (by omega)
 rw [show ((2 ^ 32 * r.toNat:Nat):Int)=r * 4294967296 by omega,show ((e.toNat:Nat):Int)=e by omega] at this
 rw [this];omega
theorem Zbw {l:List Int} {k j:Nat} (v:Int) (h:j≤k):(l.set k v).take j=l.take j:=by
 rw [List.take_set,List.set_eq_of_length_le]
 rw [List.length_take];omega
theorem Ztc (N:Nat) (d:Int) (hd:0<d∧d<4294967296):∀ (n j:Nat) (r:List Int) (c:Int),j≤r.length→j<n→r.length<4611686018427387904→Zw r→0≤c∧c<d→
  ∃ c' r',Zck N d n r c ((j:Int) - 1)=some (c',r')∧r'.length=r.length∧Zw r'∧0≤c'∧c'<d∧d.toNat * Ze r'+c'.toNat=Ze (r.take j)+4294967296 ^ j * (c.toNat+d.toNat * Ze (r.drop j))
 | 0,j,r,c,_,h,_,_,_=>by omega
 | n+1,j,r,c,hj,hn,hs,hr,hc=>by
  rw [Zck.eq_2]
  by_cases h0:j=0
  ·subst h0
   rw [if_neg (by decide),V4 (by omega)]
   refine ⟨c,r,rfl,rfl,hr,hc.1,hc.2,?_⟩
   rw [List.take_zero,List.drop_zero,Yx];omega
  ·have e:(j:Int) - 1=((j - 1:Nat):Int):=by omega
   have hk:j - 1<r.length:=by omega
   have g:=hr.get hk
   rw [if_pos (by simp;omega),e,Xg hk,Option.bind_some,Xy (x:=d) (by omega),Xj (by omega),Option.bind_some,Xj (by omega),Int.toNat_natCast,Xy (x:=r[j - 1]) (by omega),Zkv (by omega) (by omega)]
   generalize hcur:c * 4294967296+r[j - 1]=cur
   have hcd:(c+1) * 4294967296≤d * 4294967296:=by omega
   have hq:0≤cur / d∧cur / d<4294967296:=⟨Int.ediv_nonneg (by omega) (by omega),Int.ediv_lt_of_lt_mul hd.1 (by rw [Int.mul_comm];omega)⟩
   have hm:=Int.emod_nonneg cur (show d≠0 by omega)
   have hm2:=Int.emod_lt_of_pos cur hd.1
   have hdm:=Int.mul_ediv_add_emod cur d
   rw [Int.tdiv_eq_ediv_of_nonneg (by omega),Int.tmod_eq_emod_of_nonneg (by omega),Xy (by omega),V4 hq,Z6 (by omega)]
   obtain ⟨c',r',q1,q2,q3,q4,q5,q6⟩:=Ztc N d hd n (j - 1) (r.set (j - 1) (cur / d)) (cur % d) (by rw [List.length_set];omega) (by omega) (by rw [List.length_set];exact hs) (hr.set _ hq) ⟨hm,hm2⟩
   refine ⟨c',r',q1,by rw [q2,List.length_set],q3,q4,q5,?_⟩
   rw [q6,Zbw _ (Nat.le_refl _)]
   have t1:=Zl4 hk
   have t2:Ze ((r.set (j - 1) (cur / d)).drop (j - 1))=(cur / d).toNat+4294967296 * Ze (r.drop (j - 1+1)):=by
    rw [Ua (by rw [List.length_set];exact hk),List.getElem_set_self,Sd _ (by omega)]
   rw [show j - 1+1=j by omega] at t1 t2
   rw [t1,t2]
   have hp:(4294967296:Nat) ^ j=4294967296 ^ (j - 1) * 4294967296:=by rw [← Nat.pow_succ,show (j - 1).succ=j by omega]
   rw [hp]
   have hn1:d.toNat * (cur / d).toNat+(cur % d).toNat=c.toNat * 4294967296+(r[j - 1]).toNat:=by
    have:((d.toNat * (cur / d).toNat:Nat):Int)=d * (cur / d):=by rw [Int.natCast_mul,Int.toNat_of_nonneg (by omega),Int.toNat_of_nonneg hq.1]
    omega
   generalize hQ:4294967296 ^ (j - 1)=Q
   have hn2:Q * (d.toNat * (cur / d).toNat+(cur % d).toNat)=Q * (c.toNat * 4294967296+(r[j - 1]).toNat):=by rw [hn1]
   grind
theorem Zzp {N:Nat} {a:List Int} {d:Int} (hd:0<d∧d<4294967296) (ha:Zw a) (hn:a.length<N) (hs:a.length≤1099511627776):
  ∃ q,Zhl N a d=some (((Ze a % d.toNat:Nat):Int),q)∧q.length=a.length∧Zw q∧Ze q=Ze a / d.toNat:=by
 obtain ⟨c',r',q1,q2,q3,q4,q5,q6⟩:=Ztc N d hd N a.length a 0 (Nat.le_refl _) hn (by omega) ha (by omega)
 have hd':0<d.toNat:=by omega
 rw [List.take_length,List.drop_length,Yx] at q6
 have h1:Ze a=c'.toNat+d.toNat * Ze r':=by simp at q6;omega
 have h2:Ze a % d.toNat=c'.toNat:=by rw [h1,Nat.add_mul_mod_self_left,Nat.mod_eq_of_lt (by omega)]
 have h3:Ze a / d.toNat=Ze r':=by rw [h1,Nat.add_mul_div_left _ _ hd',Nat.div_eq_of_lt (by omega),Nat.zero_add]
 refine ⟨r',?_,q2,q3,h3.symm⟩
 rw [Zhl,Z6 (by omega),q1,h2]
 congr 2;omega
theorem Zmm {i:IntKind} {x s:Nat} (hs:s<32) (hi:i= .u32∨i= .u64):Xt i (x:Int) (s:Int)=i.wrap ((x * 2 ^ s:Nat):Int):=by
 rw [Xt,Int.toNat_natCast,Nat.min_eq_left (by rcases hi with rfl | rfl <;> simp only [IntKind.bits] <;> omega)]
 norm_cast
theorem Ztv (n:Nat):u32.wrap (n:Int)=((n % 4294967296:Nat):Int):=by rw [IntKind.wrap_u32];omega
theorem Zpq (s:Nat) (hs:s<32):∀ (l:List Int) (k:Nat) (out:List Int),Zw l→out.length=k+l.length+1→out.length<4611686018427387904→Zw out→Ze (out.drop (k+1))=0→(∀ h:k<out.length,(out[k]).toNat<2 ^ s)→
  ∃ out',Za7 (s:Int) l k out=some out'∧out'.length=out.length∧Zw out'∧Ze out'=Ze out+4294967296 ^ k * (2 ^ s * Ze l)∧(∀ h:out'.length - 1<out'.length,(out'[out'.length - 1]).toNat<2 ^ s)
 | [],k,out,_,hl,_,ho,_,hk=>by
  rw [Za7.eq_1]
  rw [List.length_nil] at hl
  refine ⟨out,rfl,rfl,ho,by rw [Yx];omega,fun h=>?_⟩
  have:=hk (by omega)
  simpa [hl] using this
 | x :: l,k,out,hx,hl,hz,ho,hd,hk=>by
  rw [List.length_cons] at hl
  have h0:k<out.length:=by omega
  have h1:k+1<out.length:=by omega
  have gx:=hx.head
  have gk:=ho.get h0
  have gs:=hk h0
  have hz1:=drop_zero ho h1 hd
  have e1:i64.wrap ((k:Int)+1)=((k+1:Nat):Int):=by rw [Z6 (by omega)];omega
  have ex:x=(x.toNat:Int):=by omega
  have ek:out[k]=((out[k]).toNat:Int):=by omega
  have pw:(2:Nat) ^ s * 2 ^ (32 - s)=4294967296:=by rw [← Nat.pow_add,show s+(32 - s)=32 by omega]
  have hps:=Nat.two_pow_pos s
  have hp2:=Nat.two_pow_pos (32 - s)
  -- the lower and the upper limb
  have hxs:x.toNat * 2 ^ s<4294967296 * 2 ^ s:=Nat.mul_lt_mul_of_pos_right (by omega) hps
  have hs31:2 ^ s≤2147483648:=by
   have:=Nat.pow_le_pow_right (n:=2) (by decide) (show s≤31 by omega)
   omega
  have hlow:(x.toNat * 2 ^ s) % 4294967296=2 ^ s * (x.toNat % 2 ^ (32 - s)):=by
   rw [← pw,Nat.mul_comm x.toNat,Nat.mul_mod_mul_left]
  have hlo:Yi .u32 out[k] (Xt .u32 x (s:Int))=(((x.toNat * 2 ^ s) % 4294967296+(out[k]).toNat:Nat):Int):=by
   rw [ex,Zmm hs (.inl rfl),Ztv,ek]
   simp only [Int.toNat_natCast]
   rw [hlow]
   refine or32 s _ _ gs ?_
   have:2 ^ s * (x.toNat % 2 ^ (32 - s)+1)≤2 ^ s * 2 ^ (32 - s):=Nat.mul_le_mul_left _ (Nat.mod_lt _ hp2)
   rw [pw,Nat.mul_add] at this
   omega
  have hhi:u32.wrap (X0 .u64 (Xt .u64 (u64.wrap x) (s:Int)) 32)=((x.toNat * 2 ^ s / 4294967296:Nat):Int):=by
   rw [Xy (x:=x) (by omega),ex,Zmm hs (.inr rfl),Zdt,Xy (by omega)]
   simp only [Int.toNat_natCast]
   rw [V4 (by omega)]
   omega
  have hhs:x.toNat * 2 ^ s / 4294967296<2 ^ s:=(Nat.div_lt_iff_lt_mul (by decide)).2 (by rw [Nat.mul_comm (2 ^ s)];exact hxs)
  have hlow2:(x.toNat * 2 ^ s) % 4294967296+(out[k]).toNat<4294967296:=by
   rw [hlow]
   have:2 ^ s * (x.toNat % 2 ^ (32 - s)+1)≤2 ^ s * 2 ^ (32 - s):=Nat.mul_le_mul_left _ (Nat.mod_lt _ hp2)
   rw [pw,Nat.mul_add] at this
   omega
  rw [Za7.eq_2,Xg h0,Option.bind_some,Xj (by omega),Option.bind_some,Xj (by omega),e1,Int.toNat_natCast,Int.toNat_natCast,
   Xg (by rw [List.length_set];exact h1),Option.bind_some,Option.bind_some,hlo,hhi]
  generalize hA:(x.toNat * 2 ^ s) % 4294967296+(out[k]).toNat=A at hlow2
  generalize hB:x.toNat * 2 ^ s / 4294967296=B at hhs
  have o1:Zw (out.set k (A:Int)):=ho.set _ (by omega)
  have o2:Zw ((out.set k (A:Int)).set (k+1) (B:Int)):=o1.set _ (by omega)
  obtain ⟨out',q1,q2,q3,q4,q5⟩:=Zpq s hs l (k+1) ((out.set k (A:Int)).set (k+1) (B:Int)) hx.tail (by rw [List.length_set,List.length_set];omega) (by rw [List.length_set,List.length_set];exact hz) o2 (by
   rw [Sd _ (by omega),Sd _ (by omega)];exact hz1.2) (fun h=>by rw [List.getElem_set_self];simpa using hhs)
  refine ⟨out',q1,by rw [q2,List.length_set,List.length_set],q3,?_,q5⟩
  have v1:=U0 h0 (A:Int)
  have v2:=U0 (l:=out.set k (A:Int)) (k:=k+1) (by rw [List.length_set];exact h1) (B:Int)
  rw [List.getElem_set_ne (by omega),hz1.1] at v2
  rw [Int.toNat_natCast] at v1 v2
  rw [Int.toNat_zero,Nat.mul_zero,Nat.add_zero] at v2
  rw [q4,Wh]
  rw [Nat.pow_succ] at v2 ⊢
  have key:A+4294967296 * B=(out[k]).toNat+x.toNat * 2 ^ s:=by omega
  generalize 4294967296 ^ k=Q at *
  have key2:Q * (A+4294967296 * B)=Q * ((out[k]).toNat+x.toNat * 2 ^ s):=by rw [key]
  grind
theorem Zpr {a:List Int} {s:Nat} (hs:s<32) (ha:Zw a) (hb:a.length<1099511627776):
  ∃ o,Zfa a (s:Int)=some o∧o.length=a.length+1∧Zw o∧Ze o=2 ^ s * Ze a∧∀ h:o.length - 1<o.length,(o[o.length - 1]).toNat<2 ^ s:=by
 rw [Zfa,Z6 (by omega),Xj (by simp only [maxLen];omega)]
 have e:Int.toNat ((a.length:Int)+1)=a.length+1:=by omega
 rw [e]
 obtain ⟨o,q1,q2,q3,q4,q5⟩:=Zpq s hs a 0 (List.replicate (a.length+1) 0) ha (by rw [List.length_replicate];omega) (by rw [List.length_replicate];omega) (.zeros _) (by rw [List.drop_replicate];exact U5 _) (fun h=>by
  rw [List.getElem_replicate];exact Nat.two_pow_pos s)
 refine ⟨o,q1,by rw [q2,List.length_replicate],q3,?_,q5⟩
 rw [q4,U5,Nat.pow_zero];omega
theorem Zwl:Y2 Tryz.prog 79 1 4:=⟨Tryz.t79,_,rfl,rfl,rfl,rfl,rfl⟩
def Zfl (ab:List Int) (aa:Int) (kk_L1:(Int→Option (List Int))) (ac:Bool):Option (List Int):=
  if ac=true then (kk_L1 (i64.wrap (aa - 1))) else (Xb ((0:Int)≤aa∧aa≤(ab.length:Int)) (Xb ((([]:List Int).length+(ab.take (Int.toNat aa)).length) * 4≤140737488355328∧([]:List Int).length+(ab.take (Int.toNat aa)).length≤maxLen) (some (([]:List Int)++(ab.take (Int.toNat aa))))))
def Q7 (N:Nat) (aa:List Int):Nat→Int→Option (List Int)
  | 0,_=>none
  | ac+1,ab=>if (decide (0<ab))=true then ((Zv aa (i64.wrap (ab - 1))).bind fun ad=>Zfl aa ab (Q7 N aa ac) (decide (ad=0))) else (Zfl aa ab (Q7 N aa ac) false)
termination_by structural x=>x
def Vw (N:Nat) (aa:List Int):Option (List Int):=
  Q7 N aa N (aa.length:Int)
theorem Ul (N:Nat) (c1:Nat) (col:Zh) (w0:World) (a0:Option Addr) (af:Nat) (ac:List Int) (h0:Sl (Za.int .u32) col w0 a0 af ac) (r:List Int) (hm:Vw N ac=some r):
    Calls Tryz.prog 212 #[.slice a0 ac.length af] w0 (fun e w'=>∃ (col':Zh) (ra1:Option Addr) (rc2:Nat),e= .returned ((.slice ra1 r.length rc2))∧Zf col w0 col' w'∧Zl (Za.int .u32) 79 c1 col' w' ra1 rc2 r):=by
 refine Xv 2 (m:=24) func212 rfl rfl rfl rfl rfl ?_;rw [Vw.eq_1] at hm;have ab:=St.start col w0;refine Zb<|Zd<|Zu rfl<|Zc<|Zb<|Zd<|Zk rfl<|lV _ (Zs underlying43 rfl)<|Zj rfl<|Zc<|Zb<|Z0<|Xi (fun n f ap=>∃ (ag:Zh) (ad:Int) (ae:Nat),ae=n∧Q7 N ac ae ad=some r∧St w0 (Zo col) ag ap∧f 0=(.slice a0 ac.length af)∧f 3=(.int .i64 ad)∧f 1000000=(enc [])) N ⟨(Zo col),(ac.length:Int),N,rfl,hm,ab,rfl,rfl,rfl⟩ ?_;clear hm;intro n f ap hI;obtain ⟨ag,ad,ae,hn,hm,ab,aj,ak,al⟩:=hI;subst hn;refine .lD 0 aj<|.lD 3 ak<|.lD 1000000 al ?_;replace h0:=h0.keep (Zp.start col w0)
 cases ae with
 | zero=>rw [Q7.eq_1] at hm;cases hm
 | succ ae=>
  rw [Q7.eq_2] at hm;refine Zb<|Zb ?_;refine Wp.cut (fun f am=>∃ (ah:Zh) (an:Bool),Zfl ac ad (Q7 N ac ae) an=some r∧St w0 (Zo col) ah am∧f 0=(.slice a0 ac.length af)∧f 16=(.bool an)∧f 3=(.int .i64 ad)∧f 1000000=(enc [])) ?_ ?_
  ·intro f am hJ;obtain ⟨ah,an,hm,ab,aj,au,ak,al⟩:=hJ;rw [Zfl.eq_1] at hm;refine .lD 0 aj<|.lD 16 au<|.lD 3 ak<|.lD 1000000 al ?_;refine Zy _ rfl (fun hb=>?_) (fun hb=>?_)
   ·rw [if_pos hb] at hm;refine Zr<|Z0<|Zd<|Zg rfl<|lV _ (Yb _ _ rfl rfl)<|Zj rfl<|Zc ?_;exact ⟨ae,by omega,⟨ah,(i64.wrap (ad - 1)),ae,rfl,hm,ab,rfl,rfl,rfl⟩⟩
   rw [if_neg (Zz hb)] at hm;refine Xl (Xk ?_);refine Zb<|Zd<|Zu rfl<|Zc<|Zb<|Zd<|Zk rfl<|Zk rfl<|Zg rfl ?_;obtain ⟨ao,hm⟩:=Xd hm;refine lv (v:=.slice a0 (Int.toNat ad) af) rfl rfl (Vk underlying43 sizeOf79 rfl rfl ao.1 (by have:=(h0.ks ab).1.2;have:=ao.2;omega))<|.ld (d:=22) (v:=(.slice a0 ((ac.take (Int.toNat ad)).length) af)) (congrArg (fun n=>Value.slice a0 n af) (List.length_take_of_le (show (Int.toNat ad)≤ac.length by have:=ao.2;omega)).symm) ?_;obtain ⟨aq,hm⟩:=Xd hm;refine Wr (col:=ah) (w:=am) (r:=(Za.int .u32)) (c:=1) (c2:=1) (xs:=([]:List Int)) (ys:=ac.take (Int.toNat ad)) Zl.nil ((h0.ks ab).take (Int.toNat ad)).srcC rfl underlying43 Zwl rfl rfl rfl aq.1 aq.2 (by decide) ?_;intro av aw a1 ax ay az;refine Zu rfl<|Zc<|Zq ?_;cases hm;replace ab:=ab.kpp ay;exact ⟨rfl,Xh w0.heap.size col ax (fun n=>bif Nat.beq n 1 then c1 else 0),av,aw,rfl,ab.fin (fun n=>bif Nat.beq n 1 then c1 else 0),ab.finOwn (g:=(fun n=>bif Nat.beq n 1 then c1 else 0)) rfl az (by decide) (by decide) rfl⟩
  refine Zd<|Zg rfl<|lV _ (Wa _ _ rfl rfl)<|Xf rfl ?_;by_cases aa:(decide (0<ad))=true
  ·rw [if_pos aa] at hm;refine lG 9 rfl (gq aa)<|Zk rfl<|lG 9 rfl (gq aa)<|Zg rfl<|lG 9 rfl (gq aa)<|lV _ (Yb _ _ rfl rfl)<|lG 9 rfl (gq aa) ?_;obtain ⟨ar,ai,hm⟩:=bZ hm;refine lV _ (Zx underlying43 sizeOf79 rfl rfl (Zi ai).1 (Zi ai).2.1 ((h0.ks ab).addr ai)) ?_;refine lG 9 rfl (gq aa)<|lV _ (Zn isAgg79 rfl ((h0.ks ab).atInt ai))<|lG 9 rfl (gq aa)<|lV _ (Y9 _ _ rfl rfl)<|lV (.bool (decide (ar=0))) (Xm (congrArg Value.bool aa) rfl)<|Zc ?_;exact ⟨ag,(decide (ar=0)),hm,ab,rfl,rfl,rfl,rfl⟩
  rw [if_neg aa] at hm;replace aa:=Bool.eq_false_iff.2 aa;refine lP 9 rfl (gq aa)<|lP 9 rfl (gq aa)<|lP 9 rfl (gq aa)<|lP 9 rfl (gq aa)<|lP 9 rfl (gq aa)<|lP 9 rfl (gq aa)<|lV (.bool false) (Xr (congrArg Value.bool aa) rfl)<|Zc ?_;exact ⟨ag,false,hm,ab,rfl,rfl,rfl,rfl⟩
def Zcn (N:Nat):Nat→Int→Int→Option Int
  | 0,_,_=>none
  | ac+1,aa,ab=>if (decide (0<ab))=true then ((Zcn N ac) (i64.wrap (aa+1)) (u32.wrap (Int.tdiv ab 2))) else (some aa)
termination_by structural x=>x
def Zhp (N:Nat) (ab:List Int):Option Int:=
  (Vw N ab).bind fun aa=>if (decide ((aa.length:Int)=0))=true then (some 0) else ((Zv aa (i64.wrap ((aa.length:Int) - 1))).bind fun ac=>Zcn N N (i64.wrap (32 * (i64.wrap ((aa.length:Int) - 1)))) ac)
theorem Zu2 (N:Nat) (col:Zh) (w0:World) (a0:Option Addr) (ag:Nat) (ad:List Int) (h0:Sl (Za.int .u32) col w0 a0 ag ad) (r:Int) (hm:Zhp N ad=some r):
    Calls Tryz.prog 121 #[.slice a0 ad.length ag] w0 (fun e w'=>e= .returned ((.int .i64 r))∧Below w0.heap.size w0 w'):=by
 refine Xv 2 (m:=28) func121 rfl rfl rfl rfl rfl ?_;rw [Zhp.eq_1] at hm;have aa:=St.start col w0;refine Zb<|Zd<|Zj rfl<|Zc<|Zb<|Zd<|Zk rfl ?_;obtain ⟨ai,al,hm⟩:=bZ hm;replace h0:=h0.keep (Zp.start col w0);refine lc rfl rfl (Z7 call212 rfl) (Ul N 1 (Zo col) _ a0 ag ad (h0.ks aa) ai al) ?_;rintro _ au ⟨am,av,aw,rfl,an,aj⟩;refine ⟨_,rfl,?_⟩;refine Zu rfl<|Zc<|Zb<|Zb<|Zd<|Zk rfl<|lV _ (Zs underlying43 rfl)<|lV _ (Y9 _ _ rfl rfl)<|Zc ?_;replace aa:=aa.grow an;refine Zy _ rfl (fun hb=>?_) (fun hb=>?_)
 ·rw [if_pos hb] at hm;refine Zb<|Zd<|Zj rfl<|Zc<|Zq ?_;cases hm;exact ⟨rfl,rfl,aa.below⟩
 rw [if_neg (Zz hb)] at hm;refine Zr<|Zb<|Zd<|Zk rfl<|lV _ (Zs underlying43 rfl)<|lV _ (Yb _ _ rfl rfl)<|lV _ (Ur _ _ rfl rfl)<|Zj rfl<|Zc<|Zb<|Zb<|Zd<|Zk rfl<|Zk rfl<|lV _ (Zs underlying43 rfl)<|lV _ (Yb _ _ rfl rfl) ?_;obtain ⟨ao,ae,hm⟩:=bZ hm;refine lV _ (Zx underlying43 sizeOf79 rfl rfl (Zi ae).1 (Zi ae).2.1 (aj.addr ae)) ?_;refine lV _ (Zn isAgg79 rfl (aj.atInt ae))<|Zj rfl<|Zc<|Z0<|Xi (fun n f ak=>∃ (ah:Zh) (af:Int) (ac:Int) (ab:Nat),ab=n∧Zcn N ab af ac=some r∧St w0 (Zo col) ah ak∧f 4=(.int .i64 af)∧f 5=(.int .u32 ac)∧f 1000000=(enc [])) N ⟨am,(i64.wrap (32 * (i64.wrap ((ai.length:Int) - 1)))),ao,N,rfl,hm,aa,rfl,rfl,rfl⟩ ?_;clear hm;intro n f ak hI;obtain ⟨ah,af,ac,ab,hn,hm,aa,ap,aq,ar⟩:=hI;subst hn;refine .lD 4 ap<|.lD 5 aq<|.lD 1000000 ar ?_
 cases ab with
 | zero=>rw [Zcn.eq_1] at hm;cases hm
 | succ ab=>
  rw [Zcn.eq_2] at hm;refine Zb<|Zb<|Zd<|Zg rfl<|lV _ (Wa _ _ rfl rfl)<|Zc ?_;refine Zy _ rfl (fun hb=>?_) (fun hb=>?_)
  ·rw [if_pos hb] at hm;refine Zr<|Zb<|Z0<|Zd<|Zg rfl<|lV _ (Z5 _ _ rfl rfl)<|Zj rfl<|Zc<|Zd<|Zg rfl<|lV (.int .u32 (u32.wrap (Int.tdiv ac 2))) (Ub ac 2 rfl rfl (by decide))<|Zj rfl<|Zc ?_;exact ⟨ab,by omega,⟨ah,(i64.wrap (af+1)),(u32.wrap (Int.tdiv ac 2)),ab,rfl,hm,aa,rfl,rfl,rfl⟩⟩
  rw [if_neg (Zz hb)] at hm;refine Xl (Xk ?_);refine Zb<|Zd<|Zg rfl<|Zj rfl<|Zc<|Zq ?_;cases hm;exact ⟨rfl,rfl,aa.below⟩
def Sn (aa:List Int) (ab:Int):Option Int:=
  if (decide (ab<(aa.length:Int)))=true then ((Zv aa ab).bind fun ac=>some (u64.wrap ac)) else (some 0)
theorem Zb2 (col:Zh) (w0:World) (a0:Option Addr) (ad:Nat) (ac:List Int) (ae:Int) (h0:Sl (Za.int .u32) col w0 a0 ad ac) (r:Int) (hm:Sn ac ae=some r):
    Calls Tryz.prog 275 #[.slice a0 ac.length ad,.int .i64 ae] w0 (fun e w'=>e= .returned ((.int .u64 r))∧Below w0.heap.size w0 w'):=by
 refine Xv 4 (m:=14) func275 rfl rfl rfl rfl rfl ?_;rw [Sn.eq_1] at hm;have aa:=St.start col w0;refine Zb<|Zd<|Zj rfl<|Zc<|Zb<|Zb<|Zd<|Zg rfl<|Zk rfl<|lV _ (Zs underlying43 rfl)<|lV _ (Z4 _ _ rfl rfl)<|Zc ?_;replace h0:=h0.keep (Zp.start col w0);refine Zy _ rfl (fun hb=>?_) (fun hb=>?_)
 ·rw [if_pos hb] at hm;refine Zb<|Zd<|Zk rfl<|Zg rfl ?_;obtain ⟨af,ab,hm⟩:=bZ hm;refine lV _ (Zx underlying43 sizeOf79 rfl rfl (Zi ab).1 (Zi ab).2.1 ((h0.ks aa).addr ab)) ?_;refine lV _ (Zn isAgg79 rfl ((h0.ks aa).atInt ab))<|lV (.int .u64 (u64.wrap af)) (Xx af ⟨_,underlying79⟩ underlying193 rfl)<|Zj rfl<|Zc<|Zq ?_;cases hm;exact ⟨rfl,rfl,aa.below⟩
 rw [if_neg (Zz hb)] at hm;refine Zr<|Zb<|Zd<|Zj rfl<|Zc<|Zq ?_;cases hm;exact ⟨rfl,rfl,aa.below⟩
def Zho (ab:List Int) (aa:Int):Option Int:=
  (Sn ab (i64.wrap (Int.tdiv aa 32))).bind fun ac=>Xb (0≤(Int.tmod aa 32)) (some (Int.tmod (u32.wrap (X0 .u64 ac (Int.tmod aa 32))) 2))
theorem Zu1 (col:Zh) (w0:World) (a0:Option Addr) (ae:Nat) (ac:List Int) (aa:Int) (h0:Sl (Za.int .u32) col w0 a0 ae ac) (r:Int) (hm:Zho ac aa=some r):
    Calls Tryz.prog 230 #[.slice a0 ac.length ae,.int .i64 aa] w0 (fun e w'=>e= .returned ((.int .u32 r))∧Below w0.heap.size w0 w'):=by
 refine Xv 4 (m:=14) func230 rfl rfl rfl rfl rfl ?_;rw [Zho.eq_1] at hm;have ad:=St.start col w0;refine Zb<|Zd<|Zj rfl<|Zc<|Zb<|Zd<|Zk rfl<|Zg rfl<|lV (.int .i64 (i64.wrap (Int.tdiv aa 32))) (Ub aa 32 rfl rfl (by decide)) ?_;obtain ⟨ab,ag,hm⟩:=bZ hm;replace h0:=h0.keep (Zp.start col w0);refine lc rfl rfl (Xa call275 rfl rfl) (Zb2 (Zo col) _ a0 ae ac (i64.wrap (Int.tdiv aa 32)) (h0.ks ad) ab ag) ?_;rintro _ ah ⟨rfl,af⟩;refine ⟨_,rfl,?_⟩;replace af:Zf (Zo col) w0 (Zo col) ah:=.of_below af;refine Zg rfl<|lV (.int .i64 (Int.tmod aa 32)) (Sw aa 32 rfl rfl (by decide)) ?_;obtain ⟨ai,hm⟩:=Xd hm;refine lV (.int .u64 (X0 .u64 ab (Int.tmod aa 32))) (T8 ab (Int.tmod aa 32) rfl rfl ai)<|lV (.int .u32 (u32.wrap (X0 .u64 ab (Int.tmod aa 32)))) (Xx (X0 .u64 ab (Int.tmod aa 32)) ⟨_,underlying193⟩ underlying79 rfl)<|lV (.int .u32 (Int.tmod (u32.wrap (X0 .u64 ab (Int.tmod aa 32))) 2)) (Sw (u32.wrap (X0 .u64 ab (Int.tmod aa 32))) 2 rfl rfl (by decide))<|Zj rfl<|Zc<|Zq ?_;cases hm;replace ad:=ad.grow af;exact ⟨rfl,rfl,ad.below⟩
theorem Zjb:Y2 Tryz.prog 79 1 4:=⟨Tryz.t79,_,rfl,rfl,rfl,rfl,rfl⟩
def Zfp (aa:List Int):Option (List Int):=
  some aa
def Zcu (N:Nat) (ad:List Int):Nat→(List Int)→Int→Int→Option (List Int)
  | 0,_,_,_=>none
  | af+1,ab,aa,ae=>if (decide (ae<(ad.length:Int)))=true then ((Zv ad ae).bind fun ac=>Xb ((ab.length+[u32.wrap (Int.tmod (u64.wrap (aa+(u64.wrap (2 * (u64.wrap ac))))) 4294967296)].length) * 4≤140737488355328∧ab.length+[u32.wrap (Int.tmod (u64.wrap (aa+(u64.wrap (2 * (u64.wrap ac))))) 4294967296)].length≤maxLen) ((Zcu N ad af) (ab++[u32.wrap (Int.tmod (u64.wrap (aa+(u64.wrap (2 * (u64.wrap ac))))) 4294967296)]) (u64.wrap (Int.tdiv (u64.wrap (aa+(u64.wrap (2 * (u64.wrap ac))))) 4294967296)) (i64.wrap (ae+1)))) else (if (decide (0<aa))=true then (Xb ((ab.length+[u32.wrap aa].length) * 4≤140737488355328∧ab.length+[u32.wrap aa].length≤maxLen) (Zfp (ab++[u32.wrap aa]))) else (Zfp ab))
termination_by structural x=>x
def Zfo (N:Nat) (aa:List Int) (ab:Int):Option (List Int):=
  Zcu N aa N ([]:List Int) (u64.wrap ab) 0
theorem Zni (N:Nat) (c1:Nat) (col:Zh) (w0:World) (a0:Option Addr) (ar:Nat) (ah:List Int) (ai:Int) (h0:Sl (Za.int .u32) col w0 a0 ar ah) (r:List Int) (hm:Zfo N ah ai=some r):
    Calls Tryz.prog 291 #[.slice a0 ah.length ar,.int .u32 ai] w0 (fun e w'=>∃ (col':Zh) (ra1:Option Addr) (rc2:Nat),e= .returned ((.slice ra1 r.length rc2))∧Zf col w0 col' w'∧Zl (Za.int .u32) 79 c1 col' w' ra1 rc2 r):=by
 refine Xv 4 (m:=40) func291 rfl rfl rfl rfl rfl ?_;rw [Zfo.eq_1] at hm;have ac:=St.start col w0;refine Zb<|Zd<|Zu rfl<|Zc<|Zb<|Zd<|Zu rfl<|Zc<|Zb<|Zd<|Zg rfl<|lV (.int .u64 (u64.wrap ai)) (Xx ai ⟨_,underlying79⟩ underlying193 rfl)<|Zj rfl<|Zc<|Zb<|Zb<|Zd<|Zj rfl<|Zc<|Z0<|Xi (fun n f au=>∃ (ag:Zh) (aj:Option Addr) (ak:Nat) (ad:List Int) (aa:Int) (al:Int) (ae:Nat),ae=n∧Zcu N ah ae ad aa al=some r∧St w0 (Zo col) ag au∧Zl (Za.int .u32) 79 1 ag au aj ak ad∧f 0=(.slice a0 ah.length ar)∧f 5=(.slice aj ad.length ak)∧f 6=(.int .u64 aa)∧f 7=(.int .i64 al)∧f 1000000=(enc [])) N ⟨(Zo col),none,0,([]:List Int),(u64.wrap ai),0,N,rfl,hm,ac,Zl.nil,rfl,rfl,rfl,rfl,rfl⟩ ?_;clear hm;intro n f au hI;obtain ⟨ag,aj,ak,ad,aa,al,ae,hn,hm,ac,af,a3,av,a4,a5,aw⟩:=hI;subst hn;refine .lD 0 a3<|.lD 5 av<|.lD 6 a4<|.lD 7 a5<|.lD 1000000 aw ?_;replace h0:=h0.keep (Zp.start col w0)
 cases ae with
 | zero=>rw [Zcu.eq_1] at hm;cases hm
 | succ ae=>
  rw [Zcu.eq_2] at hm;refine Zb<|Zb<|Zd<|Zg rfl<|Zk rfl<|lV _ (Zs underlying43 rfl)<|lV _ (Z4 _ _ rfl rfl)<|Zc ?_;refine Zy _ rfl (fun hb=>?_) (fun hb=>?_)
  ·rw [if_pos hb] at hm;refine Zr<|Zb<|Z0<|Zb<|Zd<|Zg rfl<|Zk rfl<|Zg rfl ?_;obtain ⟨ab,am,hm⟩:=bZ hm;refine lV _ (Zx underlying43 sizeOf79 rfl rfl (Zi am).1 (Zi am).2.1 ((h0.ks ac).addr am)) ?_;refine lV _ (Zn isAgg79 rfl ((h0.ks ac).atInt am))<|lV (.int .u64 (u64.wrap ab)) (Xx ab ⟨_,underlying79⟩ underlying193 rfl)<|lV _ (Ur _ _ rfl rfl)<|lV _ (Z5 _ _ rfl rfl)<|Zj rfl<|Zc<|Zb<|Zd<|Zk rfl<|Zg rfl<|lV (.int .u64 (Int.tmod (u64.wrap (aa+(u64.wrap (2 * (u64.wrap ab))))) 4294967296)) (Sw (u64.wrap (aa+(u64.wrap (2 * (u64.wrap ab))))) 4294967296 rfl rfl (by decide))<|lV (.int .u32 (u32.wrap (Int.tmod (u64.wrap (aa+(u64.wrap (2 * (u64.wrap ab))))) 4294967296))) (Xx (Int.tmod (u64.wrap (aa+(u64.wrap (2 * (u64.wrap ab))))) 4294967296) ⟨_,underlying193⟩ underlying79 rfl)<|Wk (col:=ag) (r:=(Za.int .u32)) (xs:=[u32.wrap (Int.tmod (u64.wrap (aa+(u64.wrap (2 * (u64.wrap ab))))) 4294967296)]) [(.int .u32 (u32.wrap (Int.tmod (u64.wrap (aa+(u64.wrap (2 * (u64.wrap ab))))) 4294967296)))] 2 rfl underlying43 Zjb rfl rfl rfl rfl rfl rfl (by intro v hv;simp only [List.mem_cons,List.not_mem_nil,or_false] at hv;subst hv;rfl) (Y6.ofF (Rows.consF (r:=(Za.int .u32)) (x:=u32.wrap (Int.tmod (u64.wrap (aa+(u64.wrap (2 * (u64.wrap ab))))) 4294967296)) (cs:=[(.int .u32 (u32.wrap (Int.tmod (u64.wrap (aa+(u64.wrap (2 * (u64.wrap ab))))) 4294967296)))]) (X8 .u32 (u32.wrap (Int.tmod (u64.wrap (aa+(u64.wrap (2 * (u64.wrap ab))))) 4294967296))) Rows.nil0)) ?_;intro bn a6 a7 ay a8;obtain ⟨az,hm⟩:=Xd hm;replace af:=af.gr ay;refine Wr (col:=a7) (w:=a6) (r:=(Za.int .u32)) (c:=1) (c2:=1) (xs:=ad) (ys:=[u32.wrap (Int.tmod (u64.wrap (aa+(u64.wrap (2 * (u64.wrap ab))))) 4294967296)]) af (a8.srcN (NB.int (k:=.u32))) rfl underlying43 Zjb rfl rfl rfl az.1 az.2 (by decide) ?_;intro a9 ba bo bb bc bd;refine Zu rfl<|Zc<|Zd<|Zg rfl<|lV (.int .u64 (u64.wrap (Int.tdiv (u64.wrap (aa+(u64.wrap (2 * (u64.wrap ab))))) 4294967296))) (Ub (u64.wrap (aa+(u64.wrap (2 * (u64.wrap ab))))) 4294967296 rfl rfl (by decide))<|Zj rfl<|Zc<|Zd<|Zg rfl<|lV _ (Z5 _ _ rfl rfl)<|Zj rfl<|Zc ?_;replace ac:=(ac.grow ay).kpp bc
   exact ⟨ae,by omega,⟨bb,a9,ba,(ad++[u32.wrap (Int.tmod (u64.wrap (aa+(u64.wrap (2 * (u64.wrap ab))))) 4294967296)]),(u64.wrap (Int.tdiv (u64.wrap (aa+(u64.wrap (2 * (u64.wrap ab))))) 4294967296)),(i64.wrap (al+1)),ae,rfl,hm,ac,bd,rfl,rfl,rfl,rfl,rfl⟩⟩
  rw [if_neg (Zz hb)] at hm;refine Xl (Xk ?_);refine Zb ?_;refine Wp.cut (fun f ax=>∃ (an:Zh) (ao:Option Addr) (ap:Nat) (aq:List Int),Zfp aq=some r∧St w0 (Zo col) an ax∧Zl (Za.int .u32) 79 1 an ax ao ap aq∧f 5=(.slice ao aq.length ap)∧f 1000000=(enc [])) ?_ ?_
  ·intro f ax hJ;obtain ⟨an,ao,ap,aq,hm,ac,be,av,aw⟩:=hJ;rw [Zfp.eq_1] at hm;refine .lD 5 av<|.lD 1000000 aw<|Zb<|Zd<|Zk rfl<|Zu rfl<|Zc<|Zq ?_;cases hm;exact ⟨rfl,Xh w0.heap.size col an (fun n=>bif Nat.beq n 1 then c1 else 0),ao,ap,rfl,ac.fin (fun n=>bif Nat.beq n 1 then c1 else 0),ac.finOwn (g:=(fun n=>bif Nat.beq n 1 then c1 else 0)) rfl be (by decide) (by decide) rfl⟩
  refine Zb<|Zd<|Zg rfl<|lV _ (Wa _ _ rfl rfl)<|Zc ?_;refine Zy _ rfl (fun hb=>?_) (fun hb=>?_)
  ·rw [if_pos hb] at hm;refine Zd<|Zk rfl<|Zg rfl<|lV (.int .u32 (u32.wrap aa)) (Xx aa ⟨_,underlying193⟩ underlying79 rfl)<|Wk (col:=ag) (r:=(Za.int .u32)) (xs:=[u32.wrap aa]) [.int .u32 (u32.wrap aa)] 3 rfl underlying43 Zjb rfl rfl rfl rfl rfl rfl (by intro v hv;simp only [List.mem_cons,List.not_mem_nil,or_false] at hv;subst hv;rfl) (Y6.ofF (Rows.consF (r:=(Za.int .u32)) (x:=u32.wrap aa) (cs:=[.int .u32 (u32.wrap aa)]) (X8 .u32 (u32.wrap aa)) Rows.nil0)) ?_;intro bp bf bg a1 bh;obtain ⟨a2,hm⟩:=Xd hm;replace af:=af.gr a1;refine Wr (col:=bg) (w:=bf) (r:=(Za.int .u32)) (c:=1) (c2:=1) (xs:=ad) (ys:=[u32.wrap aa]) af (bh.srcN (NB.int (k:=.u32))) rfl underlying43 Zjb rfl rfl rfl a2.1 a2.2 (by decide) ?_;intro bi bj bq bk bl bm;refine Zu rfl<|Zc ?_;replace ac:=(ac.grow a1).kpp bl;exact ⟨bk,bi,bj,(ad++[u32.wrap aa]),hm,ac,bm,rfl,rfl⟩
  rw [if_neg (Zz hb)] at hm;refine Zr ?_;exact ⟨ag,aj,ak,ad,hm,ac,af,rfl,rfl⟩
def Zcp (N:Nat) (ab:List Int) (ac:List Int):Nat→Int→Option Int
  | 0,_=>none
  | af+1,aa=>if (decide (0≤aa))=true then ((Sn ab aa).bind fun ad=>(Sn ac aa).bind fun ae=>if (decide (ad<ae))=true then (some (-1)) else (if (decide (ae<ad))=true then (some 1) else ((Zcp N ab ac af) (i64.wrap (aa - 1))))) else (some 0)
termination_by structural x=>x
def Zfg (N:Nat) (aa:List Int) (ab:List Int) (ac:Int):Option Int:=
  Zcp N aa ab N (i64.wrap (ac - 1))
def Zco (N:Nat) (aa:List Int) (ab:List Int):Option Int:=
  if (decide ((aa.length:Int)<(ab.length:Int)))=true then (Zfg N aa ab (ab.length:Int)) else (Zfg N aa ab (aa.length:Int))
theorem Zld (N:Nat) (col:Zh) (w0:World) (a0:Option Addr) (ag:Nat) (ab:List Int) (a1:Option Addr) (ah:Nat) (ac:List Int) (h0:Sl (Za.int .u32) col w0 a0 ag ab) (h1:Sl (Za.int .u32) col w0 a1 ah ac) (r:Int) (hm:Zco N ab ac=some r):
    Calls Tryz.prog 276 #[.slice a0 ab.length ag,.slice a1 ac.length ah] w0 (fun e w'=>e= .returned ((.int .i64 r))∧Below w0.heap.size w0 w'):=by
 refine Xv 4 (m:=35) func276 rfl rfl rfl rfl rfl ?_;rw [Zco.eq_1] at hm;have aa:=St.start col w0;refine Zb<|Zd<|Zj rfl<|Zc<|Zb<|Zd<|Zk rfl<|lV _ (Zs underlying43 rfl)<|Zj rfl<|Zc<|Zb ?_;replace h0:=h0.keep (Zp.start col w0);replace h1:=h1.keep (Zp.start col w0);refine Wp.cut (fun f aq=>∃ (aj:Zh) (ai:Int),Zfg N ab ac ai=some r∧St w0 (Zo col) aj aq∧f 0=(.slice a0 ab.length ag)∧f 1=(.slice a1 ac.length ah)∧f 5=(.int .i64 ai)∧f 1000000=(enc [])) ?_ ?_
 ·intro f aq hJ;obtain ⟨aj,ai,hm,aa,ak,al,au,am⟩:=hJ;rw [Zfg.eq_1] at hm;refine .lD 0 ak<|.lD 1 al<|.lD 5 au<|.lD 1000000 am<|Zb<|Zb<|Zd<|Zg rfl<|lV _ (Yb _ _ rfl rfl)<|Zj rfl<|Zc<|Z0<|Xi (fun n f an=>∃ (ad:Zh) (af:Int) (ae:Nat),ae=n∧Zcp N ab ac ae af=some r∧St w0 (Zo col) ad an∧f 0=(.slice a0 ab.length ag)∧f 1=(.slice a1 ac.length ah)∧f 6=(.int .i64 af)∧f 1000000=(enc [])) N ⟨aj,(i64.wrap (ai - 1)),N,rfl,hm,aa,rfl,rfl,rfl,rfl⟩ ?_;clear hm;intro n f an hI;obtain ⟨ad,af,ae,hn,hm,aa,ak,al,av,am⟩:=hI;subst hn;refine .lD 0 ak<|.lD 1 al<|.lD 6 av<|.lD 1000000 am ?_
  cases ae with
  | zero=>rw [Zcp.eq_1] at hm;cases hm
  | succ ae=>
   rw [Zcp.eq_2] at hm;refine Zb<|Zb<|Zd<|Zg rfl<|lV _ (Uq _ _ rfl rfl)<|Zc ?_;refine Zy _ rfl (fun hb=>?_) (fun hb=>?_)
   ·rw [if_pos hb] at hm;refine Zr<|Zb<|Z0<|Zb<|Zd<|Zk rfl<|Zg rfl ?_;obtain ⟨aw,ax,hm⟩:=bZ hm;refine lc rfl rfl (Xa call275 rfl rfl) (Zb2 ad _ a0 ag ab af (h0.ks aa) aw ax) ?_;rintro _ ar ⟨rfl,ao⟩;refine ⟨_,rfl,?_⟩;replace ao:Zf ad an ad ar:=.of_below ao;refine Zj rfl<|Zc<|Zb<|Zd<|Zk rfl<|Zg rfl ?_;obtain ⟨ay,az,hm⟩:=bZ hm;replace aa:=aa.grow ao;refine lc rfl rfl (Xa call275 rfl rfl) (Zb2 ad _ a1 ah ac af (h1.ks aa) ay az) ?_;rintro _ a2 ⟨rfl,ap⟩;refine ⟨_,rfl,?_⟩;replace ap:Zf ad ar ad a2:=.of_below ap;refine Zj rfl<|Zc<|Zb<|Zb<|Zd<|Zg rfl<|Zg rfl<|lV _ (Z4 _ _ rfl rfl)<|Zc ?_;replace aa:=aa.grow ap;refine Zy _ rfl (fun hb=>?_) (fun hb=>?_)
    ·rw [if_pos hb] at hm;refine Zb<|Zd<|Zj rfl<|Zc<|Zq ?_;cases hm;exact ⟨rfl,rfl,aa.below⟩
    rw [if_neg (Zz hb)] at hm;refine Zr<|Zb<|Zd<|Zg rfl<|Zg rfl<|lV _ (Wa _ _ rfl rfl)<|Zc ?_;refine Zy _ rfl (fun hb=>?_) (fun hb=>?_)
    ·rw [if_pos hb] at hm;refine Zb<|Zd<|Zj rfl<|Zc<|Zq ?_;cases hm;exact ⟨rfl,rfl,aa.below⟩
    rw [if_neg (Zz hb)] at hm;refine Zr<|Zd<|Zg rfl<|lV _ (Yb _ _ rfl rfl)<|Zj rfl<|Zc ?_;exact ⟨ae,by omega,⟨ad,(i64.wrap (af - 1)),ae,rfl,hm,aa,rfl,rfl,rfl,rfl⟩⟩
   rw [if_neg (Zz hb)] at hm;refine Xl (Xk ?_);refine Zb<|Zd<|Zj rfl<|Zc<|Zq ?_;cases hm;exact ⟨rfl,rfl,aa.below⟩
 refine Zb<|Zd<|Zk rfl<|lV _ (Zs underlying43 rfl)<|Zg rfl<|lV _ (Wa _ _ rfl rfl)<|Zc ?_;refine Zy _ rfl (fun hb=>?_) (fun hb=>?_)
 ·rw [if_pos hb] at hm;refine Zd<|Zk rfl<|lV _ (Zs underlying43 rfl)<|Zj rfl<|Zc ?_;exact ⟨(Zo col),(ac.length:Int),hm,aa,rfl,rfl,rfl,rfl⟩
 rw [if_neg (Zz hb)] at hm;refine Zr ?_;exact ⟨(Zo col),(ab.length:Int),hm,aa,rfl,rfl,rfl,rfl⟩
theorem Zop:Y2 Tryz.prog 79 1 4:=⟨Tryz.t79,_,rfl,rfl,rfl,rfl,rfl⟩
def Zjs (aa:Int) (kk_L1:(List Int→Int→Int→Option (List Int×Bool))) (ab:List Int) (ac:Int):Option (List Int×Bool):=
  kk_L1 ab ac (i64.wrap (aa+1))
def Zfn (aa:List Int) (ab:Int) (ae:Int) (kk_L1:(List Int→Int→Int→Option (List Int×Bool))) (ac:Int) (af:Int) (ad:Int):Option (List Int×Bool):=
  Xb ((aa.length+[u32.wrap (u64.wrap (ad - (u64.wrap (ac+ab))))].length) * 4≤140737488355328∧aa.length+[u32.wrap (u64.wrap (ad - (u64.wrap (ac+ab))))].length≤maxLen) (Zjs ae kk_L1 (aa++[u32.wrap (u64.wrap (ad - (u64.wrap (ac+ab))))]) af)
def Sm (N:Nat) (ab:List Int) (ac:List Int):Nat→(List Int)→Int→Int→Option (List Int×Bool)
  | 0,_,_,_=>none
  | ah+1,ad,ae,aa=>if (decide (aa<(ab.length:Int)))=true then ((Sn ab aa).bind fun af=>(Sn ac aa).bind fun ag=>if (decide (af<(u64.wrap (ag+ae))))=true then (Zfn ad ae aa (Sm N ab ac ah) ag 1 (u64.wrap (af+4294967296))) else (Zfn ad ae aa (Sm N ab ac ah) ag 0 af)) else ((Vw N ad).bind fun ai=>some (ai,true))
termination_by structural x=>x
def Zba (N:Nat) (aa:List Int) (ab:List Int):Option (List Int×Bool):=
  (Zco N aa ab).bind fun ac=>if (decide (ac<0))=true then (some (([]:List Int),false)) else (Sm N aa ab N ([]:List Int) 0 0)
theorem Zi3 (N:Nat) (c1:Nat) (col:Zh) (w0:World) (a0:Option Addr) (al:Nat) (ad:List Int) (a1:Option Addr) (am:Nat) (ae:List Int) (h0:Sl (Za.int .u32) col w0 a0 al ad) (h1:Sl (Za.int .u32) col w0 a1 am ae) (r:(List Int×Bool)) (hm:Zba N ad ae=some r):
    Calls Tryz.prog 228 #[.slice a0 ad.length al,.slice a1 ae.length am] w0 (fun e w'=>∃ (col':Zh) (ra1:Option Addr) (rc2:Nat),e= .returned (.tuple #[.slice ra1 r.1.length rc2,.bool r.2])∧Zf col w0 col' w'∧Zl (Za.int .u32) 79 c1 col' w' ra1 rc2 r.1):=by
 refine Zlj 4 5 (m:=43) (args:=[.slice a0 ad.length al,.slice a1 ae.length am]) func228 rfl rfl rfl rfl rfl ?_;rw [Zba.eq_1] at hm;have aa:=St.start col w0;refine Zb<|Zd<|Zu rfl<|Xc rfl<|Zc<|Zb<|Zb<|Zd<|Zk rfl<|Zk rfl ?_;obtain ⟨bi,bj,hm⟩:=bZ hm;replace h0:=h0.keep (Zp.start col w0);replace h1:=h1.keep (Zp.start col w0);refine lc rfl rfl (Xa call276 rfl rfl) (Zld N (Zo col) _ a0 al ad a1 am ae (h0.ks aa) (h1.ks aa) bi bj) ?_;rintro _ bk ⟨rfl,ba⟩;refine ⟨_,rfl,?_⟩;replace ba:Zf (Zo col) w0 (Zo col) bk:=.of_below ba;refine lV _ (Z4 _ _ rfl rfl)<|Zc ?_;replace aa:=aa.grow ba;refine Zy _ rfl (fun hb=>?_) (fun hb=>?_)
 ·rw [if_pos hb] at hm;refine Zb<|Zd<|Zu rfl<|Xc rfl<|Zc<|Zq ?_;cases hm;exact ⟨rfl,Xh w0.heap.size col (Zo col) (fun n=>0),none,0,rfl,aa.fin (fun n=>0),Zl.nil⟩
 rw [if_neg (Zz hb)] at hm;refine Zr<|Zb<|Zd<|Zu rfl<|Zc<|Zb<|Zd<|Zj rfl<|Zc<|Zb<|Zb<|Zd<|Zj rfl<|Zc<|Z0<|Xi (fun n f ap=>∃ (ab:Zh) (an:Option Addr) (ao:Nat) (ah:List Int) (ac:Int) (ai:Int) (aj:Nat),aj=n∧Sm N ad ae aj ah ac ai=some r∧St w0 (Zo col) ab ap∧Zl (Za.int .u32) 79 1 ab ap an ao ah∧f 0=(.slice a0 ad.length al)∧f 1=(.slice a1 ae.length am)∧f 6=(.slice an ah.length ao)∧f 7=(.int .u64 ac)∧f 8=(.int .i64 ai)∧f 1000000=(enc [])) N ⟨(Zo col),none,0,([]:List Int),0,0,N,rfl,hm,aa,Zl.nil,rfl,rfl,rfl,rfl,rfl,rfl⟩ ?_;clear hm;intro n f ap hI;obtain ⟨ab,an,ao,ah,ac,ai,aj,hn,hm,aa,ak,aq,ar,au,av,aw,ax⟩:=hI;subst hn;refine .lD 0 aq<|.lD 1 ar<|.lD 6 au<|.lD 7 av<|.lD 8 aw<|.lD 1000000 ax ?_
 cases aj with
 | zero=>rw [Sm.eq_1] at hm;cases hm
 | succ aj=>
  rw [Sm.eq_2] at hm;refine Zb<|Zb<|Zd<|Zg rfl<|Zk rfl<|lV _ (Zs underlying43 rfl)<|lV _ (Z4 _ _ rfl rfl)<|Zc ?_;refine Zy _ rfl (fun hb=>?_) (fun hb=>?_)
  ·rw [if_pos hb] at hm;refine Zr<|Zb ?_;refine Wp.cut (fun f bb=>∃ (az:Zh) (a2:Option Addr) (a3:Nat) (ay:List Int) (a4:Int),Zjs ai (Sm N ad ae aj) ay a4=some r∧St w0 (Zo col) az bb∧Zl (Za.int .u32) 79 1 az bb a2 a3 ay∧f 0=(.slice a0 ad.length al)∧f 1=(.slice a1 ae.length am)∧f 6=(.slice a2 ay.length a3)∧f 7=(.int .u64 a4)∧f 8=(.int .i64 ai)∧f 1000000=(enc [])) ?_ ?_
   ·intro f bb hJ;obtain ⟨az,a2,a3,ay,a4,hm,aa,bl,aq,ar,au,av,aw,ax⟩:=hJ;rw [Zjs.eq_1] at hm;refine .lD 0 aq<|.lD 1 ar<|.lD 6 au<|.lD 7 av<|.lD 8 aw<|.lD 1000000 ax<|Zd<|Zg rfl<|lV _ (Z5 _ _ rfl rfl)<|Zj rfl<|Zc ?_;exact ⟨aj,by omega,⟨az,a2,a3,ay,a4,(i64.wrap (ai+1)),aj,rfl,hm,aa,bl,rfl,rfl,rfl,rfl,rfl,rfl⟩⟩
   refine Z0<|Zb<|Zd<|Zk rfl<|Zg rfl ?_;obtain ⟨bc,bm,hm⟩:=bZ hm;refine lc rfl rfl (Xa call275 rfl rfl) (Zb2 ab _ a0 al ad ai (h0.ks aa) bc bm) ?_;rintro _ bf ⟨rfl,a5⟩;refine ⟨_,rfl,?_⟩;replace a5:Zf ab ap ab bf:=.of_below a5;refine Zj rfl<|Zc<|Zb<|Zd<|Zk rfl<|Zg rfl ?_;obtain ⟨af,bn,hm⟩:=bZ hm;replace aa:=aa.grow a5;refine lc rfl rfl (Xa call275 rfl rfl) (Zb2 ab _ a1 am ae ai (h1.ks aa) af bn) ?_;rintro _ bo ⟨rfl,a6⟩;refine ⟨_,rfl,?_⟩;replace a6:Zf ab bf ab bo:=.of_below a6;refine Zg rfl<|lV _ (Z5 _ _ rfl rfl)<|Zj rfl<|Zc<|Zb<|Zd<|Zj rfl<|Zc<|Zb ?_;replace ak:=(ak.gr a5).gr a6;replace aa:=aa.grow a6;refine Wp.cut (fun f bd=>∃ (a7:Zh) (a8:Int) (ag:Int),Zfn ah ac ai (Sm N ad ae aj) af a8 ag=some r∧St w0 (Zo col) a7 bd∧Zl (Za.int .u32) 79 1 a7 bd an ao ah∧f 0=(.slice a0 ad.length al)∧f 1=(.slice a1 ae.length am)∧f 10=(.int .u64 (u64.wrap (af+ac)))∧f 6=(.slice an ah.length ao)∧f 7=(.int .u64 a8)∧f 8=(.int .i64 ai)∧f 9=(.int .u64 ag)∧f 1000000=(enc [])) ?_ ?_
   ·intro f bd hJ;obtain ⟨a7,a8,ag,hm,aa,ak,aq,ar,bp,au,av,aw,bq,ax⟩:=hJ;rw [Zfn.eq_1] at hm;refine .lD 0 aq<|.lD 1 ar<|.lD 10 bp<|.lD 6 au<|.lD 7 av<|.lD 8 aw<|.lD 9 bq<|.lD 1000000 ax<|Zd<|Zk rfl<|Zg rfl<|Zg rfl<|lV _ (Yb _ _ rfl rfl)<|lV (.int .u32 (u32.wrap (u64.wrap (ag - (u64.wrap (af+ac)))))) (Xx (u64.wrap (ag - (u64.wrap (af+ac)))) ⟨_,underlying193⟩ underlying79 rfl)<|Wk (col:=a7) (r:=(Za.int .u32)) (xs:=[u32.wrap (u64.wrap (ag - (u64.wrap (af+ac))))]) [(.int .u32 (u32.wrap (u64.wrap (ag - (u64.wrap (af+ac))))))] 2 rfl underlying43 Zop rfl rfl rfl rfl rfl rfl (by intro v hv;simp only [List.mem_cons,List.not_mem_nil,or_false] at hv;subst hv;rfl) (Y6.ofF (Rows.consF (r:=(Za.int .u32)) (x:=u32.wrap (u64.wrap (ag - (u64.wrap (af+ac))))) (cs:=[(.int .u32 (u32.wrap (u64.wrap (ag - (u64.wrap (af+ac))))))]) (X8 .u32 (u32.wrap (u64.wrap (ag - (u64.wrap (af+ac)))))) Rows.nil0)) ?_;intro b6 br bs bg bt;obtain ⟨bh,hm⟩:=Xd hm;replace ak:=ak.gr bg;refine Wr (col:=bs) (w:=br) (r:=(Za.int .u32)) (c:=1) (c2:=1) (xs:=ah) (ys:=[u32.wrap (u64.wrap (ag - (u64.wrap (af+ac))))]) ak (bt.srcN (NB.int (k:=.u32))) rfl underlying43 Zop rfl rfl rfl bh.1 bh.2 (by decide) ?_;intro bu bv b7 bw bx bz;refine Zu rfl<|Zc ?_;replace aa:=(aa.grow bg).kpp bx;exact ⟨bw,bu,bv,(ah++[u32.wrap (u64.wrap (ag - (u64.wrap (af+ac))))]),a8,hm,aa,bz,rfl,rfl,rfl,rfl,rfl,rfl⟩
   refine Zb<|Zd<|Zg rfl<|Zg rfl<|lV _ (Z4 _ _ rfl rfl)<|Zc ?_;refine Zy _ rfl (fun hb=>?_) (fun hb=>?_)
   ·rw [if_pos hb] at hm;refine Zb<|Zd<|Zg rfl<|lV _ (Z5 _ _ rfl rfl)<|Zj rfl<|Zc<|Zd<|Zj rfl<|Zc ?_;exact ⟨ab,1,(u64.wrap (bc+4294967296)),hm,aa,ak,rfl,rfl,rfl,rfl,rfl,rfl,rfl,rfl⟩
   rw [if_neg (Zz hb)] at hm;refine Zr ?_;exact ⟨ab,0,bc,hm,aa,ak,rfl,rfl,rfl,rfl,rfl,rfl,rfl,rfl⟩
  rw [if_neg (Zz hb)] at hm;refine Xl (Xk ?_);refine Zb<|Zd<|Zk rfl ?_;obtain ⟨b0,b1,hm⟩:=bZ hm;refine lc rfl rfl (Z7 call212 rfl) (Ul N 3 (Z3 1 ab) _ an ao ah (ak.toSlF (Z2.int .u32)) b0 b1) ?_;rintro _ b8 ⟨b2,b3,b4,rfl,a9,be⟩;refine ⟨_,rfl,?_⟩;replace be:=be.thaw (Xz .u32) a9 ((Fz.refl (col:=ab)).froz 1) (by decide);replace a9:=a9.thawR (col:=ab);generalize X1 ap.heap.size ab b2=b5 at *;refine Zu rfl<|Xc rfl<|Zc<|Zq ?_;cases hm;replace aa:=aa.grow a9;exact ⟨rfl,Xh w0.heap.size col b5 (fun n=>bif Nat.beq n 3 then c1 else 0),b3,b4,rfl,aa.fin (fun n=>bif Nat.beq n 3 then c1 else 0),aa.finOwn (g:=(fun n=>bif Nat.beq n 3 then c1 else 0)) rfl be (by decide) (by decide) rfl⟩
def Zfi (aa:Int) (kk_L1:(List Int→Int→(List Int)→Option (List Int×List Int×Int))) (ab:List Int) (ac:List Int):Option (List Int×List Int×Int):=
  kk_L1 ab (i64.wrap (aa - 1)) ac
def Q4 (N:Nat) (ad:List Int) (ab:List Int):Nat→(List Int)→Int→(List Int)→Option (List Int×List Int×Int)
  | 0,_,_,_=>none
  | af+1,ag,aa,ac=>if (decide (0≤aa))=true then ((Zho ad aa).bind fun ah=>(Zfo N ag ah).bind fun ai=>(Vw N ai).bind fun ae=>(Zco N ae ab).bind fun aj=>if (decide (0≤aj))=true then ((Zba N ae ab).bind fun ak=>(Zv ac (i64.wrap (Int.tdiv aa 32))).bind fun al=>Xb (0≤(Int.tmod aa 32)) ((some (ac.set (Int.toNat (i64.wrap (Int.tdiv aa 32))) (u32.wrap (al+(Xt .u32 1 (Int.tmod aa 32)))))).bind fun am=>Zfi aa (Q4 N ad ab af) ak.1 am)) else (Zfi aa (Q4 N ad ab af) ae ac)) else ((Vw N ac).bind fun an=>some (an,ag,0))
termination_by structural x=>x
def Zfh (N:Nat) (ab:List Int) (ad:List Int):Option (List Int×List Int×Int):=
  (Vw N ad).bind fun ac=>if (decide ((ac.length:Int)=0))=true then (some (([]:List Int),([]:List Int),11)) else ((Zhp N ab).bind fun aa=>Xb ((Int.toNat (i64.wrap (Int.tdiv (i64.wrap (aa+31)) 32))) * 4≤281474976710656∧(Int.toNat (i64.wrap (Int.tdiv (i64.wrap (aa+31)) 32)))≤maxLen∧0≤(i64.wrap (Int.tdiv (i64.wrap (aa+31)) 32))) (Q4 N ab ac N ([]:List Int) (i64.wrap (aa - 1)) (List.replicate (Int.toNat (i64.wrap (Int.tdiv (i64.wrap (aa+31)) 32))) (0:Int))))
theorem Znf (N:Nat) (c1:Nat) (c2:Nat) (col:Zh) (w0:World) (a0:Option Addr) (aq:Nat) (af:List Int) (a1:Option Addr) (bh:Nat) (a8:List Int) (h0:Sl (Za.int .u32) col w0 a0 aq af) (h1:Sl (Za.int .u32) col w0 a1 bh a8) (r:(List Int×List Int×Int)) (hm:Zfh N af a8=some r):
    Calls Tryz.prog 272 #[.slice a0 af.length aq,.slice a1 a8.length bh] w0 (fun e w'=>∃ (col':Zh) (ra1:Option Addr) (rc2:Nat) (ra4:Option Addr) (rc5:Nat),e= .returned (.tuple #[.slice ra1 r.1.length rc2,.slice ra4 r.2.1.length rc5,.int .i64 r.2.2])∧Zf col w0 col' w'∧Zl (Za.int .u32) 79 c1 col' w' ra1 rc2 r.1∧Zl (Za.int .u32) 79 c2 col' w' ra4 rc5 r.2.1):=by
 refine Znv 4 5 6 (m:=61) (args:=[.slice a0 af.length aq,.slice a1 a8.length bh]) func272 rfl rfl rfl rfl rfl ?_;rw [Zfh.eq_1] at hm;have aa:=St.start col w0;refine Zb<|Zd<|Zu rfl<|Zu rfl<|Zj rfl<|Zc<|Zb<|Zd<|Zk rfl ?_;obtain ⟨ag,cf,hm⟩:=bZ hm;replace h1:=h1.keep (Zp.start col w0);refine lc rfl rfl (Z7 call212 rfl) (Ul N 1 (Zo col) _ a1 bh a8 (h1.ks aa) ag cf) ?_;rintro _ cg ⟨a9,av,aw,rfl,ch,ab⟩;refine ⟨_,rfl,?_⟩;refine Zu rfl<|Zc<|Zb<|Zb<|Zd<|Zk rfl<|lV _ (Zs underlying43 rfl)<|lV _ (Y9 _ _ rfl rfl)<|Zc ?_;replace h0:=h0.keep (Zp.start col w0);replace aa:=aa.grow ch;refine Zy _ rfl (fun hb=>?_) (fun hb=>?_)
 ·rw [if_pos hb] at hm;refine Zb<|Zd<|Zu rfl<|Zu rfl<|Zj rfl<|Zc<|Zq ?_;cases hm;exact ⟨rfl,Xh w0.heap.size col a9 (fun n=>0),none,0,none,0,rfl,aa.fin (fun n=>0),Zl.nil,Zl.nil⟩
 rw [if_neg (Zz hb)] at hm;refine Zr<|Zb<|Zd<|Zk rfl ?_;obtain ⟨ar,ci,hm⟩:=bZ hm;refine lc rfl rfl (Z7 call121 rfl) (Zu2 N a9 _ a0 aq af (h0.ks aa) ar ci) ?_;rintro _ b8 ⟨rfl,bi⟩;refine ⟨_,rfl,?_⟩;replace bi:Zf a9 cg a9 b8:=.of_below bi;refine Zj rfl<|Zc<|Zb<|Zd<|Zg rfl<|lV _ (Z5 _ _ rfl rfl)<|lV (.int .i64 (i64.wrap (Int.tdiv (i64.wrap (ar+31)) 32))) (Ub (i64.wrap (ar+31)) 32 rfl rfl (by decide)) ?_;obtain ⟨bj,hm⟩:=Xd hm;refine Qr (col:=a9) (w:=b8) (r:=(Za.int .u32)) (n:=(Int.toNat (i64.wrap (Int.tdiv (i64.wrap (ar+31)) 32)))) (x0:=0) 2 rfl underlying43 Tryz.t79 rfl rfl rfl rfl rfl (congrArg (Value.int _) (Int.toNat_of_nonneg bj.2.2).symm) (congrArg (Value.int _) (Int.toNat_of_nonneg bj.2.2).symm) bj.1 bj.2.1 (X8 .u32 0) ?_;intro cj de ck b9 cl;refine Zu rfl<|Zc<|Zb<|Zd<|Zu rfl<|Zc<|Zb<|Zb<|Zd<|Zg rfl<|lV _ (Yb _ _ rfl rfl)<|Zj rfl<|Zc<|Z0 ?_;replace ab:=(ab.gr bi).gr b9;replace aa:=(aa.grow bi).grow b9;refine Xi (fun n f au=>∃ (ad:Zh) (ba:Option Addr) (bb:Nat) (bc:List Int) (ac:Int) (ak:Option Addr) (al:Nat) (am:List Int) (an:Nat),an=n∧Q4 N af ag an bc ac am=some r∧St w0 (Zo col) ad au∧Zl (Za.int .u32) 79 3 ad au ba bb bc∧Zl (Za.int .u32) 79 1 ad au av aw ag∧Zl (Za.int .u32) 79 2 ad au ak al am∧f 0=(.slice a0 af.length aq)∧f 10=(.slice ba bc.length bb)∧f 11=(.int .i64 ac)∧f 7=(.slice av ag.length aw)∧f 9=(.slice ak am.length al)∧f 1000000=(enc [])) N ⟨ck,none,0,([]:List Int),(i64.wrap (ar - 1)),cj,(Int.toNat (i64.wrap (Int.tdiv (i64.wrap (ar+31)) 32))),(List.replicate (Int.toNat (i64.wrap (Int.tdiv (i64.wrap (ar+31)) 32))) (0:Int)),N,rfl,hm,aa,Zl.nil,ab,cl,rfl,rfl,rfl,rfl,rfl,rfl⟩ ?_;clear hm;intro n f au hI;obtain ⟨ad,ba,bb,bc,ac,ak,al,am,an,hn,hm,aa,ax,ab,ae,bu,bv,bw,bx,bz,b0⟩:=hI;subst hn;refine .lD 0 bu<|.lD 10 bv<|.lD 11 bw<|.lD 7 bx<|.lD 9 bz<|.lD 1000000 b0 ?_
 cases an with
 | zero=>rw [Q4.eq_1] at hm;cases hm
 | succ an=>
  rw [Q4.eq_2] at hm;refine Zb<|Zb<|Zd<|Zg rfl<|lV _ (Uq _ _ rfl rfl)<|Zc ?_;refine Zy _ rfl (fun hb=>?_) (fun hb=>?_)
  ·rw [if_pos hb] at hm;refine Zr<|Zb ?_;refine Wp.cut (fun f bd=>∃ (ay:Zh) (bk:Option Addr) (bm:Nat) (be:List Int) (bn:Option Addr) (bo:Nat) (bf:List Int),Zfi ac (Q4 N af ag an) be bf=some r∧St w0 (Zo col) ay bd∧Zl (Za.int .u32) 79 3 ay bd bk bm be∧Zl (Za.int .u32) 79 1 ay bd av aw ag∧Zl (Za.int .u32) 79 2 ay bd bn bo bf∧f 0=(.slice a0 af.length aq)∧f 10=(.slice bk be.length bm)∧f 11=(.int .i64 ac)∧f 7=(.slice av ag.length aw)∧f 9=(.slice bn bf.length bo)∧f 1000000=(enc [])) ?_ ?_
   ·intro f bd hJ;obtain ⟨ay,bk,bm,be,bn,bo,bf,hm,aa,cm,ab,cn,bu,bv,bw,bx,bz,b0⟩:=hJ;rw [Zfi.eq_1] at hm;refine .lD 0 bu<|.lD 10 bv<|.lD 11 bw<|.lD 7 bx<|.lD 9 bz<|.lD 1000000 b0<|Zd<|Zg rfl<|lV _ (Yb _ _ rfl rfl)<|Zj rfl<|Zc ?_;exact ⟨an,by omega,⟨ay,bk,bm,be,(i64.wrap (ac - 1)),bn,bo,bf,an,rfl,hm,aa,cm,ab,cn,rfl,rfl,rfl,rfl,rfl,rfl⟩⟩
   refine Z0<|Zb<|Zd<|Zk rfl<|Zk rfl<|Zg rfl ?_;obtain ⟨ca,co,hm⟩:=bZ hm;refine lc rfl rfl (Xa call230 rfl rfl) (Zu1 ad _ a0 aq af ac (h0.ks aa) ca co) ?_;rintro _ cb ⟨rfl,az⟩;refine ⟨_,rfl,?_⟩;replace az:Zf ad au ad cb:=.of_below az;obtain ⟨cc,cp,hm⟩:=bZ hm;replace ax:=ax.gr az;refine lc rfl rfl (Xa call291 rfl rfl) (Zni N 4 (Z3 3 ad) _ ba bb bc ca (ax.toSlF (Z2.int .u32)) cc cp) ?_;rintro _ cq ⟨cr,cs,ct,rfl,a2,b1⟩;refine ⟨_,rfl,?_⟩;replace b1:=b1.thaw (Xz .u32) a2 ((Fz.refl (col:=ad)).froz 3) (by decide);replace a2:=a2.thawR (col:=ad);generalize X1 cb.heap.size ad cr=bp at *;obtain ⟨bq,cu,hm⟩:=bZ hm;refine lc rfl rfl (Z7 call212 rfl) (Ul N 5 (Z3 4 bp) _ cs ct cc (b1.toSlF (Z2.int .u32)) bq cu) ?_;rintro _ cv ⟨cw,b2,b3,rfl,a3,ah⟩;refine ⟨_,rfl,?_⟩;replace ah:=ah.thaw (Xz .u32) a3 ((Fz.refl (col:=bp)).froz 4) (by decide);replace a3:=a3.thawR (col:=bp);generalize X1 cq.heap.size bp cw=ao at *;refine Zu rfl<|Zc<|Zb<|Zd<|Zk rfl<|Zk rfl ?_;obtain ⟨cx,cy,hm⟩:=bZ hm;replace ab:=((ab.gr az).gr a2).gr a3;refine lc rfl rfl (Xa call276 rfl rfl) (Zld N (Z3 1 (Z3 5 ao)) _ b2 b3 bq av aw ag ((ah.toSlF (Z2.int .u32)).froz 1) ((ab.froz 5 (by decide)).toSlF (Z2.int .u32)) cx cy) ?_;rintro _ cd ⟨rfl,a4⟩;refine ⟨_,rfl,?_⟩;replace a4:Zf ao cv ao cd:=.of_below a4;refine lV _ (Uq _ _ rfl rfl)<|Zc ?_;replace ae:=(((ae.gr az).gr a2).gr a3).gr a4;replace aa:=(((aa.grow az).grow a2).grow a3).grow a4;replace ab:=ab.gr a4;replace ah:=ah.gr a4;refine Zy _ rfl (fun hb=>?_) (fun hb=>?_)
   ·rw [if_pos hb] at hm;refine Zb<|Zd<|Zk rfl<|Zk rfl ?_;obtain ⟨a5,cz,hm⟩:=bZ hm;refine lc rfl rfl (Xa call228 rfl rfl) (Zi3 N 6 (Z3 1 (Z3 5 ao)) _ b2 b3 bq av aw ag ((ah.toSlF (Z2.int .u32)).froz 1) ((ab.froz 5 (by decide)).toSlF (Z2.int .u32)) a5 cz) ?_;rintro _ c0 ⟨c3,b4,b5,rfl,a6,ai⟩;refine ⟨_,rfl,?_⟩;replace ai:=ai.thaw (Xz .u32) a6 (((Fz.refl (col:=ao)).froz 5).froz 1) (by decide);replace a6:=a6.thawR (col:=ao);generalize X1 cd.heap.size ao c3=aj at *;refine lM (.tuple #[.slice b4 a5.1.length b5,.bool a5.2])<|lV (.slice b4 a5.1.length b5) (Y4 rfl rfl)<|lV (.bool a5.2) (Y4 rfl rfl)<|Zu rfl<|Zc<|Vn (col:=aj) [(0,1),(1,1),(2,1),(3,1),(4,1),(5,1),(6,1),(7,0),(8,1),(9,1),(10,1),(11,1),(12,1),(13,2)] (by kernel_rfl) (by kernel_rfl)<|xu rfl rfl (fun _=>Yr rfl) ?_;refine xu rfl rfl (fun _=>Xp rfl) ?_;refine xu (v:=(.int .i64 (i64.wrap (Int.tdiv ac 32)))) rfl rfl (fun _=>Ub ac 32 rfl rfl (by decide)) ?_;refine xu rfl rfl (fun _=>Yr rfl) ?_;refine xu rfl rfl (fun _=>Xp rfl) ?_;refine xu (v:=(.int .i64 (i64.wrap (Int.tdiv ac 32)))) rfl rfl (fun _=>Ub ac 32 rfl rfl (by decide)) ?_;obtain ⟨br,ap,hm⟩:=bZ hm;replace ae:=ae.gr a6;refine xu rfl rfl (fun _=>Zx underlying43 sizeOf79 rfl rfl (Zi ap).1 (Zi ap).2.1 (ae.addr ap)) ?_;refine xv rfl rfl (fun _ hC=>Zn isAgg79 rfl ((ae.gr (hC.bl aj)).atInt ap)) ?_;refine xu rfl rfl (fun _=>Xp rfl) ?_;refine xu (v:=(.int .i64 (Int.tmod ac 32))) rfl rfl (fun _=>Sw ac 32 rfl rfl (by decide)) ?_;obtain ⟨c4,hm⟩:=Xd hm;refine xu (v:=(.int .u32 (Xt .u32 1 (Int.tmod ac 32)))) rfl rfl (fun _=>Zdr 1 (Int.tmod ac 32) rfl rfl c4) ?_;refine xu rfl rfl (fun _=>Z5 _ _ rfl rfl) ?_;refine xu rfl rfl (fun _=>Zx underlying43 sizeOf79 rfl rfl (Zi ap).1 (Zi ap).2.1 (ae.addr ap)) ?_;refine xe rfl rfl ?_;intro c5 hC0;have hC:Zf aj c0 aj c5:=.of_below hC0.below;obtain ⟨bs,bt,hm⟩:=bZ hm;have bt:bs=am.set (Int.toNat (i64.wrap (Int.tdiv ac 32))) (u32.wrap (br+(Xt .u32 1 (Int.tmod ac 32)))):=(Option.some.inj bt).symm;replace ae:=ae.gr hC;refine Ww (x1:=u32.wrap (br+(Xt .u32 1 (Int.tmod ac 32)))) (v:=(.int .u32 (u32.wrap (br+(Xt .u32 1 (Int.tmod ac 32)))))) ae ap rfl sizeOf79 (X8 .u32 (u32.wrap (br+(Xt .u32 1 (Int.tmod ac 32))))) rfl rfl (by decide) ?_;intro ce b6 c6 a7;rw [← bt] at a7
    refine .ld (d:=9) (v:=(.slice ak bs.length al)) (congrArg (fun n=>Value.slice ak n al) (show am.length=bs.length by rw [bt,List.length_set])) ?_;refine Zc ⟨fun w'=>Zf aj ce aj w',Zf.refl _ _,fun h=>absurd h (by decide),?_⟩;refine Ve ?_;replace ab:=((ab.gr a6).gr hC).kp b6;replace aa:=((aa.grow a6).grow hC).kp b6 c6;replace ai:=(ai.gr hC).kp b6;intro c7 hC;replace hC:Zf aj ce aj c7:=.of_below hC.below;replace ab:=ab.gr hC;replace ab:=ab.recol 6 3 (by decide);replace a7:=a7.gr hC;replace a7:=a7.recol 6 3 (by decide);replace ai:=ai.gr hC;replace ai:=ai.recolSelf 3 (by decide);replace aa:=aa.grow hC;replace aa:=aa.recol 6 3 (by decide) (by decide);exact ⟨(X7 6 3 aj),b4,b5,a5.1,ak,al,bs,hm,aa,ai,ab,a7,rfl,rfl,rfl,rfl,rfl,rfl⟩
   rw [if_neg (Zz hb)] at hm;refine Zr ?_;replace ab:=ab.recol 5 3 (by decide);replace ae:=ae.recol 5 3 (by decide);replace ah:=ah.recolSelf 3 (by decide);replace aa:=aa.recol 5 3 (by decide) (by decide);exact ⟨(X7 5 3 ao),b2,b3,bq,ak,al,am,hm,aa,ah,ab,ae,rfl,rfl,rfl,rfl,rfl,rfl⟩
  rw [if_neg (Zz hb)] at hm;refine Xl (Xk ?_);refine Zb<|Zd<|Zk rfl ?_;obtain ⟨c8,c9,hm⟩:=bZ hm;refine lc rfl rfl (Z7 call212 rfl) (Ul N 7 (Z3 2 ad) _ ak al am (ae.toSlF (Z2.int .u32)) c8 c9) ?_;rintro _ df ⟨da,db,dc,rfl,bg,b7⟩;refine ⟨_,rfl,?_⟩;replace b7:=b7.thaw (Xz .u32) bg ((Fz.refl (col:=ad)).froz 2) (by decide);replace bg:=bg.thawR (col:=ad);generalize X1 au.heap.size ad da=dd at *;refine Zk rfl<|Zu rfl<|Zu rfl<|Zj rfl<|Zc<|Zq ?_;cases hm;replace ax:=ax.gr bg;replace aa:=aa.grow bg;exact ⟨rfl,Xh w0.heap.size col dd (fun n=>bif Nat.beq n 7 then c1 else bif Nat.beq n 3 then c2 else 0),db,dc,ba,bb,rfl,aa.fin (fun n=>bif Nat.beq n 7 then c1 else bif Nat.beq n 3 then c2 else 0),aa.finOwn (g:=(fun n=>bif Nat.beq n 7 then c1 else bif Nat.beq n 3 then c2 else 0)) rfl b7 (by decide) (by decide) rfl,aa.finOwn (g:=(fun n=>bif Nat.beq n 7 then c1 else bif Nat.beq n 3 then c2 else 0)) rfl ax (by decide) (by decide) rfl⟩
def Zhs (aa:Bool):Option Bool:=
  some aa
def Zbb (aa:List Int):Option Bool:=
  if (decide ((aa.length:Int)=0))=true then (Zhs true) else ((Zv aa 0).bind fun ab=>Zhs (decide ((Int.tmod ab 2)=0)))
theorem Zi4 (col:Zh) (w0:World) (a0:Option Addr) (ag:Nat) (ac:List Int) (h0:Sl (Za.int .u32) col w0 a0 ag ac) (r:Bool) (hm:Zbb ac=some r):
    Calls Tryz.prog 289 #[.slice a0 ac.length ag] w0 (fun e w'=>e= .returned ((.bool r))∧Below w0.heap.size w0 w'):=by
 refine Xv 2 (m:=13) func289 rfl rfl rfl rfl rfl ?_;rw [Zbb.eq_1] at hm;have ab:=St.start col w0;refine Zb<|Zd<|Xc rfl<|Zc<|Zb ?_;replace h0:=h0.keep (Zp.start col w0);refine Wp.cut (fun f ah=>∃ (ai:Zh) (af:Bool),Zhs af=some r∧St w0 (Zo col) ai ah∧f 2=(.bool af)∧f 1000000=(enc [])) ?_ ?_
 ·intro f ah hJ;obtain ⟨ai,af,hm,ab,aj,ak⟩:=hJ;rw [Zhs.eq_1] at hm;refine .lD 2 aj<|.lD 1000000 ak<|Zq ?_;cases hm;exact ⟨rfl,rfl,ab.below⟩
 refine Zd<|Zk rfl<|lV _ (Zs underlying43 rfl)<|lV _ (Y9 _ _ rfl rfl)<|Xf rfl ?_;by_cases aa:(decide ((ac.length:Int)=0))=true
 ·rw [if_pos aa] at hm;refine lP 6 rfl (gq aa)<|lP 6 rfl (gq aa)<|lP 6 rfl (gq aa)<|lP 6 rfl (gq aa)<|lP 6 rfl (gq aa)<|lV (.bool true) (Xm (congrArg Value.bool aa) rfl)<|Xc rfl<|Zc ?_;exact ⟨(Zo col),true,hm,ab,rfl,rfl⟩
 rw [if_neg aa] at hm;replace aa:=Bool.eq_false_iff.2 aa;refine lG 6 rfl (gq aa)<|Zk rfl<|lG 6 rfl (gq aa) ?_;obtain ⟨ad,ae,hm⟩:=bZ hm;refine lV _ (Zx underlying43 sizeOf79 rfl rfl (Zi ae).1 (Zi ae).2.1 ((h0.ks ab).addr ae)) ?_;refine lG 6 rfl (gq aa)<|lV _ (Zn isAgg79 rfl ((h0.ks ab).atInt ae))<|lG 6 rfl (gq aa)<|lV (.int .u32 (Int.tmod ad 2)) (Sw ad 2 rfl rfl (by decide))<|lG 6 rfl (gq aa)<|lV _ (Y9 _ _ rfl rfl)<|lV (.bool (decide ((Int.tmod ad 2)=0))) (Xr (congrArg Value.bool aa) rfl)<|Xc rfl<|Zc ?_;exact ⟨(Zo col),(decide ((Int.tmod ad 2)=0)),hm,ab,rfl,rfl⟩
def Zcv (N:Nat) (ac:List Int):Nat→(List Int)→Int→Int→Option (List Int)
  | 0,_,_,_=>none
  | af+1,ab,ad,aa=>if (decide (0≤aa))=true then ((Zv ac aa).bind fun ae=>(Zv ab aa).bind fun ai=>(some (ab.set (Int.toNat aa) (u32.wrap (u64.wrap (Int.tdiv (u64.wrap ((u64.wrap (ad * 4294967296))+(u64.wrap ae))) 2))))).bind fun ag=>(Zcv N ac af) ag (Int.tmod (u64.wrap ((u64.wrap (ad * 4294967296))+(u64.wrap ae))) 2) (i64.wrap (aa - 1))) else ((Vw N ab).bind fun ah=>some ah)
termination_by structural x=>x
def Zbc (N:Nat) (aa:List Int):Option (List Int):=
  Xb (aa.length * 4≤281474976710656∧aa.length≤maxLen) (Zcv N aa N (List.replicate aa.length (0:Int)) 0 (i64.wrap ((aa.length:Int) - 1)))
theorem Zi5 (N:Nat) (c1:Nat) (col:Zh) (w0:World) (a0:Option Addr) (aq:Nat) (ad:List Int) (h0:Sl (Za.int .u32) col w0 a0 aq ad) (r:List Int) (hm:Zbc N ad=some r):
    Calls Tryz.prog 290 #[.slice a0 ad.length aq] w0 (fun e w'=>∃ (col':Zh) (ra1:Option Addr) (rc2:Nat),e= .returned ((.slice ra1 r.length rc2))∧Zf col w0 col' w'∧Zl (Za.int .u32) 79 c1 col' w' ra1 rc2 r):=by
 refine Xv 2 (m:=34) func290 rfl rfl rfl rfl rfl ?_;rw [Zbc.eq_1] at hm;have ab:=St.start col w0;refine Zb<|Zd<|Zu rfl<|Zc<|Zb<|Zd<|Zk rfl<|lV _ (Zs underlying43 rfl) ?_;obtain ⟨av,hm⟩:=Xd hm;refine Qr (col:=(Zo col)) (w:=w0) (r:=(Za.int .u32)) (n:=ad.length) (x0:=0) 1 rfl underlying43 Tryz.t79 rfl rfl rfl rfl rfl rfl rfl av.1 av.2 (X8 .u32 0) ?_;intro ax bf ay az a1;refine Zu rfl<|Zc<|Zb<|Zd<|Zj rfl<|Zc<|Zb<|Zb<|Zd<|Zk rfl<|lV _ (Zs underlying43 rfl)<|lV _ (Yb _ _ rfl rfl)<|Zj rfl<|Zc<|Z0 ?_;replace ab:=ab.grow az;refine Xi (fun n f ak=>∃ (ae:Zh) (af:Option Addr) (ag:Nat) (ah:List Int) (aa:Int) (aj:Int) (ai:Nat),ai=n∧Zcv N ad ai ah aa aj=some r∧St w0 (Zo col) ae ak∧Zl (Za.int .u32) 79 1 ae ak af ag ah∧f 0=(.slice a0 ad.length aq)∧f 3=(.slice af ah.length ag)∧f 4=(.int .u64 aa)∧f 5=(.int .i64 aj)∧f 1000000=(enc [])) N ⟨ay,ax,ad.length,(List.replicate ad.length (0:Int)),0,(i64.wrap ((ad.length:Int) - 1)),N,rfl,hm,ab,a1,rfl,rfl,rfl,rfl,rfl⟩ ?_;clear hm;intro n f ak hI;obtain ⟨ae,af,ag,ah,aa,aj,ai,hn,hm,ab,ar,a2,a3,a4,a5,a6⟩:=hI;subst hn;refine .lD 0 a2<|.lD 3 a3<|.lD 4 a4<|.lD 5 a5<|.lD 1000000 a6 ?_;replace h0:=h0.keep (Zp.start col w0)
 cases ai with
 | zero=>rw [Zcv.eq_1] at hm;cases hm
 | succ ai=>
  rw [Zcv.eq_2] at hm;refine Zb<|Zb<|Zd<|Zg rfl<|lV _ (Uq _ _ rfl rfl)<|Zc ?_;refine Zy _ rfl (fun hb=>?_) (fun hb=>?_)
  ·rw [if_pos hb] at hm;refine Zr<|Zb<|Z0<|Zb<|Zd<|Zg rfl<|lV _ (Ur _ _ rfl rfl)<|Zk rfl<|Zg rfl ?_;obtain ⟨ac,al,hm⟩:=bZ hm;refine lV _ (Zx underlying43 sizeOf79 rfl rfl (Zi al).1 (Zi al).2.1 ((h0.ks ab).addr al)) ?_;refine lV _ (Zn isAgg79 rfl ((h0.ks ab).atInt al))<|lV (.int .u64 (u64.wrap ac)) (Xx ac ⟨_,underlying79⟩ underlying193 rfl)<|lV _ (Z5 _ _ rfl rfl)<|Zj rfl<|Zc<|Zb<|Zd<|Zk rfl<|Zg rfl<|Zg rfl<|lV (.int .u64 (u64.wrap (Int.tdiv (u64.wrap ((u64.wrap (aa * 4294967296))+(u64.wrap ac))) 2))) (Ub (u64.wrap ((u64.wrap (aa * 4294967296))+(u64.wrap ac))) 2 rfl rfl (by decide))<|lV (.int .u32 (u32.wrap (u64.wrap (Int.tdiv (u64.wrap ((u64.wrap (aa * 4294967296))+(u64.wrap ac))) 2)))) (Xx (u64.wrap (Int.tdiv (u64.wrap ((u64.wrap (aa * 4294967296))+(u64.wrap ac))) 2)) ⟨_,underlying193⟩ underlying79 rfl) ?_;obtain ⟨bg,am,hm⟩:=bZ hm;refine lV _ (Zx underlying43 sizeOf79 rfl rfl (Zi am).1 (Zi am).2.1 (ar.addr am)) ?_;obtain ⟨an,ao,hm⟩:=bZ hm;have ao:an=ah.set (Int.toNat aj) (u32.wrap (u64.wrap (Int.tdiv (u64.wrap ((u64.wrap (aa * 4294967296))+(u64.wrap ac))) 2))):=(Option.some.inj ao).symm;refine Ww (x1:=u32.wrap (u64.wrap (Int.tdiv (u64.wrap ((u64.wrap (aa * 4294967296))+(u64.wrap ac))) 2))) (v:=(.int .u32 (u32.wrap (u64.wrap (Int.tdiv (u64.wrap ((u64.wrap (aa * 4294967296))+(u64.wrap ac))) 2))))) ar am rfl sizeOf79 (X8 .u32 (u32.wrap (u64.wrap (Int.tdiv (u64.wrap ((u64.wrap (aa * 4294967296))+(u64.wrap ac))) 2)))) rfl rfl (by decide) ?_;intro bh a7 a8 aw;rw [← ao] at aw;refine .ld (d:=3) (v:=(.slice af an.length ag)) (congrArg (fun n=>Value.slice af n ag) (show ah.length=an.length by rw [ao,List.length_set])) ?_;refine Zc<|Zd<|Zg rfl<|lV (.int .u64 (Int.tmod (u64.wrap ((u64.wrap (aa * 4294967296))+(u64.wrap ac))) 2)) (Sw (u64.wrap ((u64.wrap (aa * 4294967296))+(u64.wrap ac))) 2 rfl rfl (by decide))<|Zj rfl<|Zc<|Zd<|Zg rfl<|lV _ (Yb _ _ rfl rfl)<|Zj rfl<|Zc ?_;replace ab:=ab.kp a7 a8;exact ⟨ai,by omega,⟨ae,af,ag,an,(Int.tmod (u64.wrap ((u64.wrap (aa * 4294967296))+(u64.wrap ac))) 2),(i64.wrap (aj - 1)),ai,rfl,hm,ab,aw,rfl,rfl,rfl,rfl,rfl⟩⟩
  rw [if_neg (Zz hb)] at hm;refine Xl (Xk ?_);refine Zb<|Zd<|Zk rfl ?_;obtain ⟨a9,ba,hm⟩:=bZ hm;refine lc rfl rfl (Z7 call212 rfl) (Ul N 2 (Z3 1 ae) _ af ag ah (ar.toSlF (Z2.int .u32)) a9 ba) ?_;rintro _ bi ⟨bb,bc,bd,rfl,ap,au⟩;refine ⟨_,rfl,?_⟩;replace au:=au.thaw (Xz .u32) ap ((Fz.refl (col:=ae)).froz 1) (by decide);replace ap:=ap.thawR (col:=ae);generalize X1 ak.heap.size ae bb=be at *;refine Zu rfl<|Zc<|Zq ?_;cases hm;replace ab:=ab.grow ap;exact ⟨rfl,Xh w0.heap.size col be (fun n=>bif Nat.beq n 2 then c1 else 0),bc,bd,rfl,ab.fin (fun n=>bif Nat.beq n 2 then c1 else 0),ab.finOwn (g:=(fun n=>bif Nat.beq n 2 then c1 else 0)) rfl au (by decide) (by decide) rfl⟩
def Zfk (N:Nat) (kk_L2:(List Int→(List Int)→Option (List Int))) (aa:List Int) (ab:List Int):Option (List Int):=
  (Zba N ab aa).bind fun ac=>kk_L2 aa ac.1
def Zhr (N:Nat) (kk_L2:(List Int→(List Int)→Option (List Int))) (ab:List Int) (aa:List Int) (kk_L4:(List Int→Option (List Int))) (ac:Bool):Option (List Int):=
  if ac=true then ((Zbc N aa).bind fun ad=>kk_L4 ad) else ((Zco N ab aa).bind fun ae=>if (decide (0<ae))=true then (Zfk N kk_L2 aa ab) else (Zfk N kk_L2 ab aa))
def Qg (N:Nat) (kk_L2:(List Int→(List Int)→Option (List Int))) (aa:List Int):Nat→(List Int)→Option (List Int)
  | 0,_=>none
  | ac+1,ab=>if (decide (0<(ab.length:Int)))=true then ((Zbb ab).bind fun ad=>Zhr N kk_L2 aa ab (Qg N kk_L2 aa ac) ad) else (Zhr N kk_L2 aa ab (Qg N kk_L2 aa ac) false)
termination_by structural x=>x
def Zcq (N:Nat) (ab:List Int) (kk_L2:(List Int→(List Int)→Option (List Int))):Nat→(List Int)→Option (List Int)
  | 0,_=>none
  | ac+1,aa=>(Zbb aa).bind fun ad=>if ad=true then ((Zbc N aa).bind fun ae=>(Zcq N ab kk_L2 ac) ae) else (Qg N kk_L2 aa N ab)
termination_by structural x=>x
def Zcr (N:Nat) (aa:Int):Nat→(List Int)→Int→Option (List Int)
  | 0,_,_=>none
  | ad+1,ab,ac=>if (decide (ac<aa))=true then ((Zfo N ab 0).bind fun ae=>(Zcr N aa ad) ae (i64.wrap (ac+1))) else (some ab)
termination_by structural x=>x
def V9 (N:Nat) (aa:Int):Nat→(List Int)→(List Int)→Option (List Int)
  | 0,_,_=>none
  | ad+1,ab,ac=>if (decide (0<(ac.length:Int)))=true then (Zcq N ac (V9 N aa ad) N ab) else (Zcr N aa N ab 0)
termination_by structural x=>x
def Zfj (N:Nat) (aa:List Int) (ab:List Int) (ac:Int) (kk_L1:(List Int→(List Int)→Int→Option (List Int))) (ad:Bool):Option (List Int):=
  if ad=true then ((Zbc N aa).bind fun ae=>(Zbc N ab).bind fun af=>kk_L1 ae af (i64.wrap (ac+1))) else (V9 N ac N aa ab)
def Q5 (N:Nat):Nat→(List Int)→(List Int)→Int→Option (List Int)
  | 0,_,_,_=>none
  | ac+1,aa,ab,ad=>(Zbb aa).bind fun ae=>if ae=true then ((Zbb ab).bind fun af=>Zfj N aa ab ad (Q5 N ac) af) else (Zfj N aa ab ad (Q5 N ac) false)
termination_by structural x=>x
def Zhq (N:Nat) (ac:List Int) (ad:List Int):Option (List Int):=
  (Vw N ac).bind fun aa=>(Vw N ad).bind fun ab=>if (decide ((aa.length:Int)=0))=true then (some ab) else (if (decide ((ab.length:Int)=0))=true then (some aa) else (Q5 N N aa ab 0))
theorem Zu3 (N:Nat) (c1:Nat) (col:Zh) (w0:World) (a0:Option Addr) (cs:Nat) (ci:List Int) (a1:Option Addr) (ct:Nat) (cj:List Int) (h0:Sl (Za.int .u32) col w0 a0 cs ci) (h1:Sl (Za.int .u32) col w0 a1 ct cj) (r:List Int) (hm:Zhq N ci cj=some r):
    Calls Tryz.prog 271 #[.slice a0 ci.length cs,.slice a1 cj.length ct] w0 (fun e w'=>∃ (col':Zh) (ra1:Option Addr) (rc2:Nat),e= .returned ((.slice ra1 r.length rc2))∧Zf col w0 col' w'∧Zl (Za.int .u32) 79 c1 col' w' ra1 rc2 r):=by
 refine Xv 4 (m:=69) func271 rfl rfl rfl rfl rfl ?_;rw [Zhq.eq_1] at hm;have aa:=St.start col w0;refine Zb<|Zd<|Zu rfl<|Zc<|Zb<|Zd<|Zk rfl ?_;obtain ⟨c2,dk,hm⟩:=bZ hm;replace h0:=h0.keep (Zp.start col w0);refine lc rfl rfl (Z7 call212 rfl) (Ul N 1 (Zo col) _ a0 cs ci (h0.ks aa) c2 dk) ?_;rintro _ ev ⟨dl,c3,c4,rfl,dm,ck⟩;refine ⟨_,rfl,?_⟩;refine Zu rfl<|Zc<|Zb<|Zd<|Zk rfl ?_;obtain ⟨c5,dn,hm⟩:=bZ hm;replace h1:=h1.keep (Zp.start col w0);replace aa:=aa.grow dm;refine lc rfl rfl (Z7 call212 rfl) (Ul N 2 dl _ a1 ct cj (h1.ks aa) c5 dn) ?_;rintro _ ew ⟨cu,c6,c7,rfl,c8,c9⟩;refine ⟨_,rfl,?_⟩;refine Zu rfl<|Zc<|Zb<|Zb<|Zd<|Zk rfl<|lV _ (Zs underlying43 rfl)<|lV _ (Y9 _ _ rfl rfl)<|Zc ?_;replace ck:=ck.gr c8;replace aa:=aa.grow c8;refine Zy _ rfl (fun hb=>?_) (fun hb=>?_)
 ·rw [if_pos hb] at hm;refine Zb<|Zd<|Zk rfl<|Zu rfl<|Zc<|Zq ?_;cases hm;exact ⟨rfl,Xh w0.heap.size col cu (fun n=>bif Nat.beq n 2 then c1 else 0),c6,c7,rfl,aa.fin (fun n=>bif Nat.beq n 2 then c1 else 0),aa.finOwn (g:=(fun n=>bif Nat.beq n 2 then c1 else 0)) rfl c9 (by decide) (by decide) rfl⟩
 rw [if_neg (Zz hb)] at hm;refine Zr<|Zb<|Zb<|Zd<|Zk rfl<|lV _ (Zs underlying43 rfl)<|lV _ (Y9 _ _ rfl rfl)<|Zc ?_;refine Zy _ rfl (fun hb=>?_) (fun hb=>?_)
 ·rw [if_pos hb] at hm;refine Zb<|Zd<|Zk rfl<|Zu rfl<|Zc<|Zq ?_;cases hm;exact ⟨rfl,Xh w0.heap.size col cu (fun n=>bif Nat.beq n 1 then c1 else 0),c3,c4,rfl,aa.fin (fun n=>bif Nat.beq n 1 then c1 else 0),aa.finOwn (g:=(fun n=>bif Nat.beq n 1 then c1 else 0)) rfl ck (by decide) (by decide) rfl⟩
 rw [if_neg (Zz hb)] at hm;refine Zr<|Zb<|Zd<|Zj rfl<|Zc<|Zb<|Z0<|Xi (fun n f bq=>∃ (al:Zh) (a6:Option Addr) (a7:Nat) (ar:List Int) (a8:Option Addr) (a9:Nat) (au:List Int) (ac:Int) (ba:Nat),ba=n∧Q5 N ba ar au ac=some r∧St w0 (Zo col) al bq∧Zl (Za.int .u32) 79 1 al bq a6 a7 ar∧Zl (Za.int .u32) 79 2 al bq a8 a9 au∧f 5=(.slice a6 ar.length a7)∧f 6=(.slice a8 au.length a9)∧f 7=(.int .i64 ac)∧f 1000000=(enc [])) N ⟨cu,c3,c4,c2,c6,c7,c5,0,N,rfl,hm,aa,ck,c9,rfl,rfl,rfl,rfl⟩ ?_;clear hm;intro n f bq hI;obtain ⟨al,a6,a7,ar,a8,a9,au,ac,ba,hn,hm,aa,av,am,af,ai,ag,ah⟩:=hI;subst hn;refine .lD 5 af<|.lD 6 ai<|.lD 7 ag<|.lD 1000000 ah ?_
 cases ba with
 | zero=>rw [Q5.eq_1] at hm;cases hm
 | succ ba=>
  rw [Q5.eq_2] at hm;refine Zb<|Zb ?_;refine Wp.cut (fun f br=>∃ (a3:Zh) (cv:Bool),Zfj N ar au ac (Q5 N ba) cv=some r∧St w0 (Zo col) a3 br∧Zl (Za.int .u32) 79 1 a3 br a6 a7 ar∧Zl (Za.int .u32) 79 2 a3 br a8 a9 au∧f 26=(.bool cv)∧f 5=(.slice a6 ar.length a7)∧f 6=(.slice a8 au.length a9)∧f 7=(.int .i64 ac)∧f 1000000=(enc [])) ?_ ?_
  ·intro f br hJ;obtain ⟨a3,cv,hm,aa,av,am,dp,af,ai,ag,ah⟩:=hJ;rw [Zfj.eq_1] at hm;refine .lD 26 dp<|.lD 5 af<|.lD 6 ai<|.lD 7 ag<|.lD 1000000 ah ?_;refine Zy _ rfl (fun hb=>?_) (fun hb=>?_)
   ·rw [if_pos hb] at hm;refine Zr<|Z0<|Zb<|Zd<|Zk rfl ?_;obtain ⟨da,dq,hm⟩:=bZ hm;refine lc rfl rfl (Z7 call290 rfl) (Zi5 N 3 (Z3 1 a3) _ a6 a7 ar (av.toSlF (Z2.int .u32)) da dq) ?_;rintro _ dr ⟨ds,dt,du,rfl,bs,a4⟩;refine ⟨_,rfl,?_⟩;replace a4:=a4.thaw (Xz .u32) bs ((Fz.refl (col:=a3)).froz 1) (by decide);replace bs:=bs.thawR (col:=a3);generalize X1 br.heap.size a3 ds=cl at *;refine Zu rfl<|Zc<|Zb<|Zd<|Zk rfl ?_;obtain ⟨db,dv,hm⟩:=bZ hm;replace am:=am.gr bs;refine lc rfl rfl (Z7 call290 rfl) (Zi5 N 4 (Z3 2 cl) _ a8 a9 au (am.toSlF (Z2.int .u32)) db dv) ?_;rintro _ ex ⟨dw,dx,dy,rfl,bt,bf⟩;refine ⟨_,rfl,?_⟩;replace bf:=bf.thaw (Xz .u32) bt ((Fz.refl (col:=cl)).froz 2) (by decide);replace bt:=bt.thawR (col:=cl);generalize X1 dr.heap.size cl dw=dz at *;refine Zu rfl<|Zc<|Zd<|Zg rfl<|lV _ (Z5 _ _ rfl rfl)<|Zj rfl<|Zc ?_;replace a4:=a4.gr bt;replace a4:=a4.recolSelf 1 (by decide);replace bf:=bf.recol 3 1 (by decide);replace aa:=(aa.grow bs).grow bt;replace aa:=aa.recol 3 1 (by decide) (by decide);replace a4:=a4.recol 4 2 (by decide);replace bf:=bf.recolSelf 2 (by decide);replace aa:=aa.recol 4 2 (by decide) (by decide);exact ⟨ba,by omega,⟨(X7 4 2 (X7 3 1 dz)),dt,du,da,dx,dy,db,(i64.wrap (ac+1)),ba,rfl,hm,aa,a4,bf,rfl,rfl,rfl,rfl⟩⟩
   rw [if_neg (Zz hb)] at hm;refine Xl (Xk ?_);refine Zb<|Z0<|Xi (fun n f cm=>∃ (bi:Zh) (bu:Option Addr) (bv:Nat) (bj:List Int) (bk:Option Addr) (bl:Nat) (bb:List Int) (an:Nat),an=n∧V9 N ac an bj bb=some r∧St w0 (Zo col) bi cm∧Zl (Za.int .u32) 79 1 bi cm bu bv bj∧Zl (Za.int .u32) 79 2 bi cm bk bl bb∧f 5=(.slice bu bj.length bv)∧f 6=(.slice bk bb.length bl)∧f 7=(.int .i64 ac)∧f 1000000=(enc [])) N ⟨a3,a6,a7,ar,a8,a9,au,N,rfl,hm,aa,av,am,rfl,rfl,rfl,rfl⟩ ?_;clear hm;intro n f cm hI;obtain ⟨bi,bu,bv,bj,bk,bl,bb,an,hn,hm,aa,dc,aw,af,ai,ag,ah⟩:=hI;subst hn;refine .lD 5 af<|.lD 6 ai<|.lD 7 ag<|.lD 1000000 ah ?_
   cases an with
   | zero=>rw [V9.eq_1] at hm;cases hm
   | succ an=>
    rw [V9.eq_2] at hm;refine Zb<|Zb<|Zd<|Zk rfl<|lV _ (Zs underlying43 rfl)<|lV _ (Wa _ _ rfl rfl)<|Zc ?_;refine Zy _ rfl (fun hb=>?_) (fun hb=>?_)
    ·rw [if_pos hb] at hm;refine Zr<|Z0<|Zb<|Z0<|Xi (fun n f bw=>∃ (ao:Zh) (ap:Option Addr) (aq:Nat) (ae:List Int) (bg:Nat),bg=n∧Zcq N bb (V9 N ac an) bg ae=some r∧St w0 (Zo col) ao bw∧Zl (Za.int .u32) 79 1 ao bw ap aq ae∧Zl (Za.int .u32) 79 2 ao bw bk bl bb∧f 5=(.slice ap ae.length aq)∧f 6=(.slice bk bb.length bl)∧f 7=(.int .i64 ac)∧f 1000000=(enc [])) N ⟨bi,bu,bv,bj,N,rfl,hm,aa,dc,aw,rfl,rfl,rfl,rfl⟩ ?_;clear hm;intro n f bw hI;obtain ⟨ao,ap,aq,ae,bg,hn,hm,aa,ab,aw,af,ai,ag,ah⟩:=hI;subst hn;refine .lD 5 af<|.lD 6 ai<|.lD 7 ag<|.lD 1000000 ah ?_
     cases bg with
     | zero=>rw [Zcq.eq_1] at hm;cases hm
     | succ bg=>
      rw [Zcq.eq_2] at hm;refine Zb<|Zb<|Zd<|Zk rfl ?_;obtain ⟨d0,d1,hm⟩:=bZ hm;refine lc rfl rfl (Z7 call289 rfl) (Zi4 (Z3 1 ao) _ ap aq ae (ab.toSlF (Z2.int .u32)) d0 d1) ?_;rintro _ dd ⟨rfl,bx⟩;refine ⟨_,rfl,?_⟩;replace bx:Zf ao bw ao dd:=.of_below bx;refine Zc ?_;replace ab:=ab.gr bx;replace aw:=aw.gr bx;replace aa:=aa.grow bx;refine Zy _ rfl (fun hb=>?_) (fun hb=>?_)
      ·rw [if_pos hb] at hm;refine Zr<|Z0<|Zd<|Zk rfl ?_;obtain ⟨de,d2,hm⟩:=bZ hm;refine lc rfl rfl (Z7 call290 rfl) (Zi5 N 5 (Z3 1 ao) _ ap aq ae (ab.toSlF (Z2.int .u32)) de d2) ?_;rintro _ ey ⟨d3,d4,d5,rfl,bz,b0⟩;refine ⟨_,rfl,?_⟩;replace b0:=b0.thaw (Xz .u32) bz ((Fz.refl (col:=ao)).froz 1) (by decide);replace bz:=bz.thawR (col:=ao);generalize X1 dd.heap.size ao d3=d6 at *;refine Zu rfl<|Zc ?_;replace aw:=aw.gr bz;replace aw:=aw.recol 5 1 (by decide);replace b0:=b0.recolSelf 1 (by decide);replace aa:=aa.grow bz;replace aa:=aa.recol 5 1 (by decide) (by decide);exact ⟨bg,by omega,⟨(X7 5 1 d6),d4,d5,de,bg,rfl,hm,aa,b0,aw,rfl,rfl,rfl,rfl⟩⟩
      rw [if_neg (Zz hb)] at hm;refine Xl (Xk ?_);refine Zb<|Z0<|Xi (fun n f b1=>∃ (a5:Zh) (ax:Option Addr) (ay:Nat) (aj:List Int) (bc:Nat),bc=n∧Qg N (V9 N ac an) ae bc aj=some r∧St w0 (Zo col) a5 b1∧Zl (Za.int .u32) 79 1 a5 b1 ap aq ae∧Zl (Za.int .u32) 79 2 a5 b1 ax ay aj∧f 5=(.slice ap ae.length aq)∧f 6=(.slice ax aj.length ay)∧f 7=(.int .i64 ac)∧f 1000000=(enc [])) N ⟨ao,bk,bl,bb,N,rfl,hm,aa,ab,aw,rfl,rfl,rfl,rfl⟩ ?_;clear hm;intro n f b1 hI;obtain ⟨a5,ax,ay,aj,bc,hn,hm,aa,ab,ad,af,ai,ag,ah⟩:=hI;subst hn;refine .lD 5 af<|.lD 6 ai<|.lD 7 ag<|.lD 1000000 ah ?_
      cases bc with
      | zero=>rw [Qg.eq_1] at hm;cases hm
      | succ bc=>
       rw [Qg.eq_2] at hm;refine Zb<|Zb ?_;refine Wp.cut (fun f bm=>∃ (ak:Zh) (cw:Bool),Zhr N (V9 N ac an) ae aj (Qg N (V9 N ac an) ae bc) cw=some r∧St w0 (Zo col) ak bm∧Zl (Za.int .u32) 79 1 ak bm ap aq ae∧Zl (Za.int .u32) 79 2 ak bm ax ay aj∧f 46=(.bool cw)∧f 5=(.slice ap ae.length aq)∧f 6=(.slice ax aj.length ay)∧f 7=(.int .i64 ac)∧f 1000000=(enc [])) ?_ ?_
       ·intro f bm hJ;obtain ⟨ak,cw,hm,aa,ab,ad,d7,af,ai,ag,ah⟩:=hJ;rw [Zhr.eq_1] at hm;refine .lD 46 d7<|.lD 5 af<|.lD 6 ai<|.lD 7 ag<|.lD 1000000 ah ?_;refine Zy _ rfl (fun hb=>?_) (fun hb=>?_)
        ·rw [if_pos hb] at hm;refine Zr<|Z0<|Zd<|Zk rfl ?_;obtain ⟨df,d8,hm⟩:=bZ hm;refine lc rfl rfl (Z7 call290 rfl) (Zi5 N 6 (Z3 2 ak) _ ax ay aj (ad.toSlF (Z2.int .u32)) df d8) ?_;rintro _ ez ⟨d9,ea,eb,rfl,b2,b3⟩;refine ⟨_,rfl,?_⟩;replace b3:=b3.thaw (Xz .u32) b2 ((Fz.refl (col:=ak)).froz 2) (by decide);replace b2:=b2.thawR (col:=ak);generalize X1 bm.heap.size ak d9=ec at *;refine Zu rfl<|Zc ?_;replace ab:=ab.gr b2;replace ab:=ab.recol 6 2 (by decide);replace b3:=b3.recolSelf 2 (by decide);replace aa:=aa.grow b2;replace aa:=aa.recol 6 2 (by decide) (by decide);exact ⟨bc,by omega,⟨(X7 6 2 ec),ea,eb,df,bc,rfl,hm,aa,ab,b3,rfl,rfl,rfl,rfl⟩⟩
        rw [if_neg (Zz hb)] at hm;refine Xl (Xk ?_);refine Zb ?_;refine Wp.cut (fun f b4=>∃ (bd:Zh) (b5:Option Addr) (b6:Nat) (bn:List Int) (cn:Option Addr) (co:Nat) (b7:List Int),Zfk N (V9 N ac an) bn b7=some r∧St w0 (Zo col) bd b4∧Zl (Za.int .u32) 79 1 bd b4 b5 b6 bn∧Zl (Za.int .u32) 79 2 bd b4 cn co b7∧f 5=(.slice b5 bn.length b6)∧f 6=(.slice cn b7.length co)∧f 7=(.int .i64 ac)∧f 1000000=(enc [])) ?_ ?_
        ·intro f b4 hJ;obtain ⟨bd,b5,b6,bn,cn,co,b7,hm,aa,bo,ed,af,ai,ag,ah⟩:=hJ;rw [Zfk.eq_1] at hm;refine .lD 5 af<|.lD 6 ai<|.lD 7 ag<|.lD 1000000 ah<|Zd<|Zk rfl<|Zk rfl ?_;obtain ⟨bp,ee,hm⟩:=bZ hm;refine lc rfl rfl (Xa call228 rfl rfl) (Zi3 N 7 (Z3 1 (Z3 2 bd)) _ cn co b7 b5 b6 bn ((ed.toSlF (Z2.int .u32)).froz 1) ((bo.froz 2 (by decide)).toSlF (Z2.int .u32)) bp ee) ?_;rintro _ e0 ⟨ef,cx,cy,rfl,b8,b9⟩;refine ⟨_,rfl,?_⟩;replace b9:=b9.thaw (Xz .u32) b8 (((Fz.refl (col:=bd)).froz 2).froz 1) (by decide);replace b8:=b8.thawR (col:=bd);generalize X1 b4.heap.size bd ef=eg at *;refine lM (.tuple #[.slice cx bp.1.length cy,.bool bp.2])<|lV (.slice cx bp.1.length cy) (Y4 rfl rfl)<|lV (.bool bp.2) (Y4 rfl rfl)<|Zu rfl<|Zc ?_;replace bo:=bo.gr b8;replace bo:=bo.recol 7 2 (by decide);replace b9:=b9.recolSelf 2 (by decide);replace aa:=aa.grow b8;replace aa:=aa.recol 7 2 (by decide) (by decide);exact ⟨an,by omega,⟨(X7 7 2 eg),b5,b6,bn,cx,cy,bp.1,an,rfl,hm,aa,bo,b9,rfl,rfl,rfl,rfl⟩⟩
        refine Zb<|Zd<|Zk rfl<|Zk rfl ?_;obtain ⟨eh,ei,hm⟩:=bZ hm;refine lc rfl rfl (Xa call276 rfl rfl) (Zld N (Z3 2 (Z3 1 ak)) _ ap aq ae ax ay aj ((ab.toSlF (Z2.int .u32)).froz 2) ((ad.froz 1 (by decide)).toSlF (Z2.int .u32)) eh ei) ?_;rintro _ ej ⟨rfl,ca⟩;refine ⟨_,rfl,?_⟩;replace ca:Zf ak bm ak ej:=.of_below ca;refine lV _ (Wa _ _ rfl rfl)<|Zc ?_;replace ab:=ab.gr ca;replace ad:=ad.gr ca;replace aa:=aa.grow ca;refine Zy _ rfl (fun hb=>?_) (fun hb=>?_)
        ·rw [if_pos hb] at hm;refine Zd<|Zk rfl<|Zk rfl<|Zu rfl<|Zu rfl<|Zc ?_;replace ad:=ad.recol 1 8 (by decide);replace ab:=ab.recolSelf 8 (by decide);replace aa:=aa.recol 1 8 (by decide) (by decide);replace ad:=ad.recolSelf 1 (by decide);replace ab:=ab.recol 2 1 (by decide);replace aa:=aa.recol 2 1 (by decide) (by decide);replace ad:=ad.recol 8 2 (by decide);replace ab:=ab.recolSelf 2 (by decide);replace aa:=aa.recol 8 2 (by decide) (by decide);exact ⟨(X7 8 2 (X7 2 1 (X7 1 8 ak))),ax,ay,aj,ap,aq,ae,hm,aa,ad,ab,rfl,rfl,rfl,rfl⟩
        rw [if_neg (Zz hb)] at hm;refine Zr ?_;exact ⟨ak,ap,aq,ae,ax,ay,aj,hm,aa,ab,ad,rfl,rfl,rfl,rfl⟩
       refine Zd<|Zk rfl<|lV _ (Zs underlying43 rfl)<|lV _ (Wa _ _ rfl rfl)<|Xf rfl ?_;by_cases az:(decide (0<(aj.length:Int)))=true
       ·rw [if_pos az] at hm;refine lG 43 rfl (gq az)<|Zk rfl<|lG 43 rfl (gq az) ?_;obtain ⟨cz,ek,hm⟩:=bZ hm;refine lc rfl rfl (Z7 call289 rfl) (Zi4 (Z3 2 a5) _ ax ay aj (ad.toSlF (Z2.int .u32)) cz ek) ?_;rintro _ el ⟨rfl,cb⟩;refine ⟨_,rfl,?_⟩;replace cb:Zf a5 b1 a5 el:=.of_below cb;refine lV (.bool cz) (Xm (congrArg Value.bool az) rfl)<|Zc ?_;replace ab:=ab.gr cb;replace ad:=ad.gr cb;replace aa:=aa.grow cb;exact ⟨a5,cz,hm,aa,ab,ad,rfl,rfl,rfl,rfl,rfl⟩
       rw [if_neg az] at hm;replace az:=Bool.eq_false_iff.2 az;refine lP 43 rfl (gq az)<|lP 43 rfl (gq az)<|lV (.bool false) (Xr (congrArg Value.bool az) rfl)<|Zc ?_;exact ⟨a5,false,hm,aa,ab,ad,rfl,rfl,rfl,rfl,rfl⟩
    rw [if_neg (Zz hb)] at hm;refine Xl (Xk ?_);refine Zb<|Zb<|Zd<|Zj rfl<|Zc<|Z0<|Xi (fun n f cp=>∃ (be:Zh) (cc:Option Addr) (cd:Nat) (ce:List Int) (cq:Int) (bh:Nat),bh=n∧Zcr N ac bh ce cq=some r∧St w0 (Zo col) be cp∧Zl (Za.int .u32) 79 1 be cp cc cd ce∧f 5=(.slice cc ce.length cd)∧f 7=(.int .i64 ac)∧f 8=(.int .i64 cq)∧f 1000000=(enc [])) N ⟨bi,bu,bv,bj,0,N,rfl,hm,aa,dc,rfl,rfl,rfl,rfl⟩ ?_;clear hm;intro n f cp hI;obtain ⟨be,cc,cd,ce,cq,bh,hn,hm,aa,dg,af,ag,em,ah⟩:=hI;subst hn;refine .lD 5 af<|.lD 7 ag<|.lD 8 em<|.lD 1000000 ah ?_
    cases bh with
    | zero=>rw [Zcr.eq_1] at hm;cases hm
    | succ bh=>
     rw [Zcr.eq_2] at hm;refine Zb<|Zb<|Zd<|Zg rfl<|Zg rfl<|lV _ (Z4 _ _ rfl rfl)<|Zc ?_;refine Zy _ rfl (fun hb=>?_) (fun hb=>?_)
     ·rw [if_pos hb] at hm;refine Zr<|Zb<|Z0<|Zd<|Zk rfl ?_;obtain ⟨dh,en,hm⟩:=bZ hm;refine lc rfl rfl (Xa call291 rfl rfl) (Zni N 9 (Z3 1 be) _ cc cd ce 0 (dg.toSlF (Z2.int .u32)) dh en) ?_;rintro _ e1 ⟨eo,ep,eq,rfl,cr,cf⟩;refine ⟨_,rfl,?_⟩;replace cf:=cf.thaw (Xz .u32) cr ((Fz.refl (col:=be)).froz 1) (by decide);replace cr:=cr.thawR (col:=be);generalize X1 cp.heap.size be eo=er at *;refine Zu rfl<|Zc<|Zd<|Zg rfl<|lV _ (Z5 _ _ rfl rfl)<|Zj rfl<|Zc ?_;replace cf:=cf.recolSelf 1 (by decide);replace aa:=aa.grow cr;replace aa:=aa.recol 9 1 (by decide) (by decide);exact ⟨bh,by omega,⟨(X7 9 1 er),ep,eq,dh,(i64.wrap (cq+1)),bh,rfl,hm,aa,cf,rfl,rfl,rfl,rfl⟩⟩
     rw [if_neg (Zz hb)] at hm;refine Xl (Xk ?_);refine Zb<|Zd<|Zk rfl<|Zu rfl<|Zc<|Zq ?_;cases hm;exact ⟨rfl,Xh w0.heap.size col be (fun n=>bif Nat.beq n 1 then c1 else 0),cc,cd,rfl,aa.fin (fun n=>bif Nat.beq n 1 then c1 else 0),aa.finOwn (g:=(fun n=>bif Nat.beq n 1 then c1 else 0)) rfl dg (by decide) (by decide) rfl⟩
  refine Zd<|Zk rfl ?_;obtain ⟨di,es,hm⟩:=bZ hm;refine lc rfl rfl (Z7 call289 rfl) (Zi4 (Z3 1 al) _ a6 a7 ar (av.toSlF (Z2.int .u32)) di es) ?_;rintro _ dj ⟨rfl,cg⟩;refine ⟨_,rfl,?_⟩;replace cg:Zf al bq al dj:=.of_below cg;refine Xf rfl ?_;replace av:=av.gr cg;replace am:=am.gr cg;replace aa:=aa.grow cg;by_cases a2:di=true
  ·rw [if_pos a2] at hm;refine lG 23 rfl (gq a2)<|Zk rfl<|lG 23 rfl (gq a2) ?_;obtain ⟨c0,et,hm⟩:=bZ hm;refine lc rfl rfl (Z7 call289 rfl) (Zi4 (Z3 2 al) _ a8 a9 au (am.toSlF (Z2.int .u32)) c0 et) ?_;rintro _ eu ⟨rfl,ch⟩;refine ⟨_,rfl,?_⟩;replace ch:Zf al dj al eu:=.of_below ch;refine lV (.bool c0) (Xm (congrArg Value.bool a2) rfl)<|Zc ?_;replace av:=av.gr ch;replace am:=am.gr ch;replace aa:=aa.grow ch;exact ⟨al,c0,hm,aa,av,am,rfl,rfl,rfl,rfl,rfl⟩
  rw [if_neg a2] at hm;replace a2:=Bool.eq_false_iff.2 a2;refine lP 23 rfl (gq a2)<|lP 23 rfl (gq a2)<|lV (.bool false) (Xr (congrArg Value.bool a2) rfl)<|Zc ?_;exact ⟨al,false,hm,aa,av,am,rfl,rfl,rfl,rfl,rfl⟩
def Zct (N:Nat) (af:List Int) (ab:List Int) (aa:Int) (kk_L1:(List Int→Int→Option (List Int))):Nat→Int→(List Int)→Int→Option (List Int)
  | 0,_,_,_=>none
  | aj+1,ac,ad,ae=>if (decide (ac<(ab.length:Int)))=true then ((Zv af aa).bind fun ag=>(Zv ab ac).bind fun ah=>(Zv ad (i64.wrap (aa+ac))).bind fun ai=>(some (ad.set (Int.toNat (i64.wrap (aa+ac))) (u32.wrap (Int.tmod (u64.wrap ((u64.wrap (ae+(u64.wrap ((u64.wrap ag) * (u64.wrap ah)))))+(u64.wrap ai))) 4294967296)))).bind fun ak=>(Zct N af ab aa kk_L1 aj) (i64.wrap (ac+1)) ak (u64.wrap (Int.tdiv (u64.wrap ((u64.wrap (ae+(u64.wrap ((u64.wrap ag) * (u64.wrap ah)))))+(u64.wrap ai))) 4294967296))) else ((Zv ad (i64.wrap (aa+(ab.length:Int)))).bind fun am=>(some (ad.set (Int.toNat (i64.wrap (aa+(ab.length:Int)))) (u32.wrap ae))).bind fun al=>kk_L1 al (i64.wrap (aa+1)))
termination_by structural x=>x
def Q6 (N:Nat) (aa:List Int) (ab:List Int):Nat→(List Int)→Int→Option (List Int)
  | 0,_,_=>none
  | ae+1,ac,ad=>if (decide (ad<(aa.length:Int)))=true then (Zct N aa ab ad (Q6 N aa ab ae) N 0 ac 0) else ((Vw N ac).bind fun af=>some af)
termination_by structural x=>x
def Zcs (N:Nat) (ac:List Int) (ad:List Int):Option (List Int):=
  (Vw N ac).bind fun aa=>(Vw N ad).bind fun ab=>Xb ((Int.toNat (i64.wrap ((aa.length:Int)+(ab.length:Int)))) * 4≤281474976710656∧(Int.toNat (i64.wrap ((aa.length:Int)+(ab.length:Int))))≤maxLen∧0≤(i64.wrap ((aa.length:Int)+(ab.length:Int)))) (Q6 N aa ab N (List.replicate (Int.toNat (i64.wrap ((aa.length:Int)+(ab.length:Int)))) (0:Int)) 0)
theorem Zng (N:Nat) (c1:Nat) (col:Zh) (w0:World) (a0:Option Addr) (bi:Nat) (a3:List Int) (a1:Option Addr) (bj:Nat) (a4:List Int) (h0:Sl (Za.int .u32) col w0 a0 bi a3) (h1:Sl (Za.int .u32) col w0 a1 bj a4) (r:List Int) (hm:Zcs N a3 a4=some r):
    Calls Tryz.prog 104 #[.slice a0 a3.length bi,.slice a1 a4.length bj] w0 (fun e w'=>∃ (col':Zh) (ra1:Option Addr) (rc2:Nat),e= .returned ((.slice ra1 r.length rc2))∧Zf col w0 col' w'∧Zl (Za.int .u32) 79 c1 col' w' ra1 rc2 r):=by
 refine Xv 4 (m:=74) func104 rfl rfl rfl rfl rfl ?_;rw [Zcs.eq_1] at hm;have aa:=St.start col w0;refine Zb<|Zd<|Zu rfl<|Zc<|Zb<|Zd<|Zk rfl ?_;obtain ⟨aj,bz,hm⟩:=bZ hm;replace h0:=h0.keep (Zp.start col w0);refine lc rfl rfl (Z7 call212 rfl) (Ul N 1 (Zo col) _ a0 bi a3 (h0.ks aa) aj bz) ?_;rintro _ cj ⟨b0,a5,a6,rfl,b1,ac⟩;refine ⟨_,rfl,?_⟩;refine Zu rfl<|Zc<|Zb<|Zd<|Zk rfl ?_;obtain ⟨ai,b2,hm⟩:=bZ hm;replace h1:=h1.keep (Zp.start col w0);replace aa:=aa.grow b1;refine lc rfl rfl (Z7 call212 rfl) (Ul N 2 b0 _ a1 bj a4 (h1.ks aa) ai b2) ?_;rintro _ b3 ⟨b4,a7,a8,rfl,bu,ad⟩;refine ⟨_,rfl,?_⟩;refine Zu rfl<|Zc<|Zb<|Zd<|Zk rfl<|lV _ (Zs underlying43 rfl)<|Zk rfl<|lV _ (Zs underlying43 rfl)<|lV _ (Z5 _ _ rfl rfl) ?_;obtain ⟨a9,hm⟩:=Xd hm;refine Qr (col:=b4) (w:=b3) (r:=(Za.int .u32)) (n:=(Int.toNat (i64.wrap ((aj.length:Int)+(ai.length:Int))))) (x0:=0) 3 rfl underlying43 Tryz.t79 rfl rfl rfl rfl rfl (congrArg (Value.int _) (Int.toNat_of_nonneg a9.2.2).symm) (congrArg (Value.int _) (Int.toNat_of_nonneg a9.2.2).symm) a9.1 a9.2.1 (X8 .u32 0) ?_;intro b5 ck b6 bk b7;refine Zu rfl<|Zc<|Zb<|Zb<|Zd<|Zj rfl<|Zc<|Z0 ?_;replace ac:=(ac.gr bu).gr bk;replace aa:=(aa.grow bu).grow bk;replace ad:=ad.gr bk;refine Xi (fun n f av=>∃ (ak:Zh) (ay:Option Addr) (az:Nat) (aw:List Int) (an:Int) (ao:Nat),ao=n∧Q6 N aj ai ao aw an=some r∧St w0 (Zo col) ak av∧Zl (Za.int .u32) 79 1 ak av a5 a6 aj∧Zl (Za.int .u32) 79 2 ak av a7 a8 ai∧Zl (Za.int .u32) 79 3 ak av ay az aw∧f 5=(.slice a5 aj.length a6)∧f 6=(.slice a7 ai.length a8)∧f 7=(.slice ay aw.length az)∧f 8=(.int .i64 an)∧f 1000000=(enc [])) N ⟨b6,b5,(Int.toNat (i64.wrap ((aj.length:Int)+(ai.length:Int)))),(List.replicate (Int.toNat (i64.wrap ((aj.length:Int)+(ai.length:Int)))) (0:Int)),0,N,rfl,hm,aa,ac,ad,b7,rfl,rfl,rfl,rfl,rfl⟩ ?_;clear hm;intro n f av hI;obtain ⟨ak,ay,az,aw,an,ao,hn,hm,aa,ac,ad,bv,bm,bn,bo,bp,bq⟩:=hI;subst hn;refine .lD 5 bm<|.lD 6 bn<|.lD 7 bo<|.lD 8 bp<|.lD 1000000 bq ?_
 cases ao with
 | zero=>rw [Q6.eq_1] at hm;cases hm
 | succ ao=>
  rw [Q6.eq_2] at hm;refine Zb<|Zb<|Zd<|Zg rfl<|Zk rfl<|lV _ (Zs underlying43 rfl)<|lV _ (Z4 _ _ rfl rfl)<|Zc ?_;refine Zy _ rfl (fun hb=>?_) (fun hb=>?_)
  ·rw [if_pos hb] at hm;refine Zr<|Zb<|Z0<|Zb<|Zd<|Zj rfl<|Zc<|Zb<|Zb<|Zd<|Zj rfl<|Zc<|Z0<|Xi (fun n f ax=>∃ (ae:Zh) (a2:Int) (al:Option Addr) (am:Nat) (ap:List Int) (ab:Int) (au:Nat),au=n∧Zct N aj ai an (Q6 N aj ai ao) au a2 ap ab=some r∧St w0 (Zo col) ae ax∧Zl (Za.int .u32) 79 1 ae ax a5 a6 aj∧Zl (Za.int .u32) 79 2 ae ax a7 a8 ai∧Zl (Za.int .u32) 79 3 ae ax al am ap∧f 10=(.int .i64 a2)∧f 5=(.slice a5 aj.length a6)∧f 6=(.slice a7 ai.length a8)∧f 7=(.slice al ap.length am)∧f 8=(.int .i64 an)∧f 9=(.int .u64 ab)∧f 1000000=(enc [])) N ⟨ak,0,ay,az,aw,0,N,rfl,hm,aa,ac,ad,bv,rfl,rfl,rfl,rfl,rfl,rfl,rfl⟩ ?_;clear hm;intro n f ax hI;obtain ⟨ae,a2,al,am,ap,ab,au,hn,hm,aa,ac,ad,aq,b8,bm,bn,bo,bp,b9,bq⟩:=hI;subst hn;refine .lD 10 b8<|.lD 5 bm<|.lD 6 bn<|.lD 7 bo<|.lD 8 bp<|.lD 9 b9<|.lD 1000000 bq ?_
   cases au with
   | zero=>rw [Zct.eq_1] at hm;cases hm
   | succ au=>
    rw [Zct.eq_2] at hm;refine Zb<|Zb<|Zd<|Zg rfl<|Zk rfl<|lV _ (Zs underlying43 rfl)<|lV _ (Z4 _ _ rfl rfl)<|Zc ?_;refine Zy _ rfl (fun hb=>?_) (fun hb=>?_)
    ·rw [if_pos hb] at hm;refine Zr<|Zb<|Z0<|Zb<|W5 (col:=ae) (by kernel_rfl) (by kernel_rfl)<|qv rfl (fun _ hC=>Xp rfl) ?_;refine qv rfl (fun _ hC=>Yr rfl) ?_;refine qv rfl (fun _ hC=>Xp rfl) ?_;obtain ⟨af,ba,hm⟩:=bZ hm;refine qv rfl (fun _ hC=>Zx underlying43 sizeOf79 rfl rfl (Zi ba).1 (Zi ba).2.1 (ac.addr ba)) ?_;refine qv rfl (fun _ hC=>Zn isAgg79 rfl ((ac.gr (hC.bl ae)).atInt ba)) ?_;refine qv (v:=(.int .u64 (u64.wrap af))) rfl (fun _ hC=>Xx af ⟨_,underlying79⟩ underlying193 rfl) ?_;refine qv rfl (fun _ hC=>Yr rfl) ?_;refine qv rfl (fun _ hC=>Xp rfl) ?_;obtain ⟨ag,bb,hm⟩:=bZ hm;refine qv rfl (fun _ hC=>Zx underlying43 sizeOf79 rfl rfl (Zi bb).1 (Zi bb).2.1 (ad.addr bb)) ?_;refine qv rfl (fun _ hC=>Zn isAgg79 rfl ((ad.gr (hC.bl ae)).atInt bb)) ?_;refine qv (v:=(.int .u64 (u64.wrap ag))) rfl (fun _ hC=>Xx ag ⟨_,underlying79⟩ underlying193 rfl) ?_;refine qv rfl (fun _ hC=>Ur _ _ rfl rfl) ?_;refine qv rfl (fun _ hC=>Z5 _ _ rfl rfl) ?_;refine qv rfl (fun _ hC=>Yr rfl) ?_;refine qv rfl (fun _ hC=>Xp rfl) ?_;refine qv rfl (fun _ hC=>Xp rfl) ?_;refine qv rfl (fun _ hC=>Z5 _ _ rfl rfl) ?_;obtain ⟨ah,ar,hm⟩:=bZ hm;refine qv rfl (fun _ hC=>Zx underlying43 sizeOf79 rfl rfl (Zi ar).1 (Zi ar).2.1 (aq.addr ar)) ?_;refine qv rfl (fun _ hC=>Zn isAgg79 rfl ((aq.gr (hC.bl ae)).atInt ar)) ?_;refine qv (v:=(.int .u64 (u64.wrap ah))) rfl (fun _ hC=>Xx ah ⟨_,underlying79⟩ underlying193 rfl) ?_;refine qv rfl (fun _ hC=>Z5 _ _ rfl rfl) ?_;refine qv rfl (fun _ hC=>Zah rfl) ?_;refine Y1 ?_;intro ca hC;replace hC:Zf ae ax ae ca:=.of_below hC.below;refine Zb<|Zd<|Zk rfl<|Zg rfl<|Zg rfl<|lV _ (Z5 _ _ rfl rfl)<|Zg rfl<|lV (.int .u64 (Int.tmod (u64.wrap ((u64.wrap (ab+(u64.wrap ((u64.wrap af) * (u64.wrap ag)))))+(u64.wrap ah))) 4294967296)) (Sw (u64.wrap ((u64.wrap (ab+(u64.wrap ((u64.wrap af) * (u64.wrap ag)))))+(u64.wrap ah))) 4294967296 rfl rfl (by decide))<|lV (.int .u32 (u32.wrap (Int.tmod (u64.wrap ((u64.wrap (ab+(u64.wrap ((u64.wrap af) * (u64.wrap ag)))))+(u64.wrap ah))) 4294967296))) (Xx (Int.tmod (u64.wrap ((u64.wrap (ab+(u64.wrap ((u64.wrap af) * (u64.wrap ag)))))+(u64.wrap ah))) 4294967296) ⟨_,underlying193⟩ underlying79 rfl) ?_;replace aq:=aq.gr hC
     refine lV _ (Zx underlying43 sizeOf79 rfl rfl (Zi ar).1 (Zi ar).2.1 (aq.addr ar)) ?_;obtain ⟨bc,bd,hm⟩:=bZ hm;have bd:bc=ap.set (Int.toNat (i64.wrap (an+a2))) (u32.wrap (Int.tmod (u64.wrap ((u64.wrap (ab+(u64.wrap ((u64.wrap af) * (u64.wrap ag)))))+(u64.wrap ah))) 4294967296)):=(Option.some.inj bd).symm;refine Ww (x1:=u32.wrap (Int.tmod (u64.wrap ((u64.wrap (ab+(u64.wrap ((u64.wrap af) * (u64.wrap ag)))))+(u64.wrap ah))) 4294967296)) (v:=(.int .u32 (u32.wrap (Int.tmod (u64.wrap ((u64.wrap (ab+(u64.wrap ((u64.wrap af) * (u64.wrap ag)))))+(u64.wrap ah))) 4294967296)))) aq ar rfl sizeOf79 (X8 .u32 (u32.wrap (Int.tmod (u64.wrap ((u64.wrap (ab+(u64.wrap ((u64.wrap af) * (u64.wrap ag)))))+(u64.wrap ah))) 4294967296))) rfl rfl (by decide) ?_;intro cl br cb bw;rw [← bd] at bw;refine .ld (d:=7) (v:=(.slice al bc.length am)) (congrArg (fun n=>Value.slice al n am) (show ap.length=bc.length by rw [bd,List.length_set])) ?_;refine Zc<|Zd<|Zg rfl<|lV (.int .u64 (u64.wrap (Int.tdiv (u64.wrap ((u64.wrap (ab+(u64.wrap ((u64.wrap af) * (u64.wrap ag)))))+(u64.wrap ah))) 4294967296))) (Ub (u64.wrap ((u64.wrap (ab+(u64.wrap ((u64.wrap af) * (u64.wrap ag)))))+(u64.wrap ah))) 4294967296 rfl rfl (by decide))<|Zj rfl<|Zc<|Zd<|Zg rfl<|lV _ (Z5 _ _ rfl rfl)<|Zj rfl<|Zc ?_;replace ac:=(ac.gr hC).kp br;replace ad:=(ad.gr hC).kp br;replace aa:=(aa.grow hC).kp br cb;exact ⟨au,by omega,⟨ae,(i64.wrap (a2+1)),al,am,bc,(u64.wrap (Int.tdiv (u64.wrap ((u64.wrap (ab+(u64.wrap ((u64.wrap af) * (u64.wrap ag)))))+(u64.wrap ah))) 4294967296)),au,rfl,hm,aa,ac,ad,bw,rfl,rfl,rfl,rfl,rfl,rfl,rfl⟩⟩
    rw [if_neg (Zz hb)] at hm;refine Xl (Xk ?_);refine Zd<|Zk rfl<|Zg rfl<|Zk rfl<|lV _ (Zs underlying43 rfl)<|lV _ (Z5 _ _ rfl rfl)<|Zg rfl<|lV (.int .u32 (u32.wrap ab)) (Xx ab ⟨_,underlying193⟩ underlying79 rfl) ?_;obtain ⟨cm,be,hm⟩:=bZ hm;refine lV _ (Zx underlying43 sizeOf79 rfl rfl (Zi be).1 (Zi be).2.1 (aq.addr be)) ?_;obtain ⟨bf,bg,hm⟩:=bZ hm;have bg:bf=ap.set (Int.toNat (i64.wrap (an+(ai.length:Int)))) (u32.wrap ab):=(Option.some.inj bg).symm;refine Ww (x1:=u32.wrap ab) (v:=(.int .u32 (u32.wrap ab))) aq be rfl sizeOf79 (X8 .u32 (u32.wrap ab)) rfl rfl (by decide) ?_;intro cn bs cc bx;rw [← bg] at bx;refine .ld (d:=7) (v:=(.slice al bf.length am)) (congrArg (fun n=>Value.slice al n am) (show ap.length=bf.length by rw [bg,List.length_set])) ?_;refine Zc<|Zd<|Zg rfl<|lV _ (Z5 _ _ rfl rfl)<|Zj rfl<|Zc ?_;replace ac:=ac.kp bs;replace ad:=ad.kp bs;replace aa:=aa.kp bs cc;exact ⟨ao,by omega,⟨ae,al,am,bf,(i64.wrap (an+1)),ao,rfl,hm,aa,ac,ad,bx,rfl,rfl,rfl,rfl,rfl⟩⟩
  rw [if_neg (Zz hb)] at hm;refine Xl (Xk ?_);refine Zb<|Zd<|Zk rfl ?_;obtain ⟨cd,ce,hm⟩:=bZ hm;refine lc rfl rfl (Z7 call212 rfl) (Ul N 4 (Z3 3 ak) _ ay az aw (bv.toSlF (Z2.int .u32)) cd ce) ?_;rintro _ co ⟨cf,cg,ch,rfl,bh,bt⟩;refine ⟨_,rfl,?_⟩;replace bt:=bt.thaw (Xz .u32) bh ((Fz.refl (col:=ak)).froz 3) (by decide);replace bh:=bh.thawR (col:=ak);generalize X1 av.heap.size ak cf=ci at *;refine Zu rfl<|Zc<|Zq ?_;cases hm;replace aa:=aa.grow bh;exact ⟨rfl,Xh w0.heap.size col ci (fun n=>bif Nat.beq n 4 then c1 else 0),cg,ch,rfl,aa.fin (fun n=>bif Nat.beq n 4 then c1 else 0),aa.finOwn (g:=(fun n=>bif Nat.beq n 4 then c1 else 0)) rfl bt (by decide) (by decide) rfl⟩
theorem Zoo:Y2 Tryz.prog 79 1 4:=⟨Tryz.t79,_,rfl,rfl,rfl,rfl,rfl⟩
def Zhn (af:List Int) (ag:List Int) (ad:List Int) (aa:Int) (ae:Int) (kk_L1:(List Int→Int→Int→Option (List Int))):Option (List Int):=
  (Sn af ae).bind fun ab=>(Sn ag ae).bind fun ac=>Xb ((ad.length+[u32.wrap (Int.tmod (u64.wrap ((u64.wrap (aa+ab))+ac)) 4294967296)].length) * 4≤140737488355328∧ad.length+[u32.wrap (Int.tmod (u64.wrap ((u64.wrap (aa+ab))+ac)) 4294967296)].length≤maxLen) (kk_L1 (ad++[u32.wrap (Int.tmod (u64.wrap ((u64.wrap (aa+ab))+ac)) 4294967296)]) (u64.wrap (Int.tdiv (u64.wrap ((u64.wrap (aa+ab))+ac)) 4294967296)) (i64.wrap (ae+1)))
def Za9 (N:Nat) (ab:List Int) (ac:List Int) (aa:List Int) (ad:Int) (ae:Int) (kk_L1:(List Int→Int→Int→Option (List Int))) (af:Bool):Option (List Int):=
  if af=true then (Zhn ab ac aa ad ae kk_L1) else ((Vw N aa).bind fun ag=>some ag)
def Tx (N:Nat) (aa:List Int) (ab:List Int):Nat→(List Int)→Int→Int→Option (List Int)
  | 0,_,_,_=>none
  | ae+1,af,ad,ac=>if (decide (ac<(aa.length:Int)))=true then (Za9 N aa ab af ad ac (Tx N aa ab ae) true) else (if (decide (ac<(ab.length:Int)))=true then (Za9 N aa ab af ad ac (Tx N aa ab ae) true) else (Za9 N aa ab af ad ac (Tx N aa ab ae) (decide (0<ad))))
termination_by structural x=>x
def Zff (N:Nat) (aa:List Int) (ab:List Int):Option (List Int):=
  Tx N aa ab N ([]:List Int) 0 0
theorem Zne (N:Nat) (c1:Nat) (col:Zh) (w0:World) (a0:Option Addr) (aq:Nat) (ag:List Int) (a1:Option Addr) (ar:Nat) (ae:List Int) (h0:Sl (Za.int .u32) col w0 a0 aq ag) (h1:Sl (Za.int .u32) col w0 a1 ar ae) (r:List Int) (hm:Zff N ag ae=some r):
    Calls Tryz.prog 227 #[.slice a0 ag.length aq,.slice a1 ae.length ar] w0 (fun e w'=>∃ (col':Zh) (ra1:Option Addr) (rc2:Nat),e= .returned ((.slice ra1 r.length rc2))∧Zf col w0 col' w'∧Zl (Za.int .u32) 79 c1 col' w' ra1 rc2 r):=by
 refine Xv 4 (m:=43) func227 rfl rfl rfl rfl rfl ?_;rw [Zff.eq_1] at hm;have ab:=St.start col w0;refine Zb<|Zd<|Zu rfl<|Zc<|Zb<|Zd<|Zu rfl<|Zc<|Zb<|Zd<|Zj rfl<|Zc<|Zb<|Zb<|Zd<|Zj rfl<|Zc<|Z0<|Xi (fun n f a8=>∃ (au:Zh) (an:Option Addr) (ao:Nat) (ah:List Int) (aa:Int) (ai:Int) (am:Nat),am=n∧Tx N ag ae am ah aa ai=some r∧St w0 (Zo col) au a8∧Zl (Za.int .u32) 79 1 au a8 an ao ah∧f 0=(.slice a0 ag.length aq)∧f 1=(.slice a1 ae.length ar)∧f 5=(.slice an ah.length ao)∧f 6=(.int .u64 aa)∧f 7=(.int .i64 ai)∧f 1000000=(enc [])) N ⟨(Zo col),none,0,([]:List Int),0,0,N,rfl,hm,ab,Zl.nil,rfl,rfl,rfl,rfl,rfl,rfl⟩ ?_;clear hm;intro n f a8 hI;obtain ⟨au,an,ao,ah,aa,ai,am,hn,hm,ab,aj,av,aw,ax,ay,az,a2⟩:=hI;subst hn;refine .lD 0 av<|.lD 1 aw<|.lD 5 ax<|.lD 6 ay<|.lD 7 az<|.lD 1000000 a2 ?_;replace h0:=h0.keep (Zp.start col w0);replace h1:=h1.keep (Zp.start col w0)
 cases am with
 | zero=>rw [Tx.eq_1] at hm;cases hm
 | succ am=>
  rw [Tx.eq_2] at hm;refine Zb ?_;refine Wp.cut (fun f a3=>∃ (ak:Zh),Zhn ag ae ah aa ai (Tx N ag ae am)=some r∧St w0 (Zo col) ak a3∧Zl (Za.int .u32) 79 1 ak a3 an ao ah∧f 0=(.slice a0 ag.length aq)∧f 1=(.slice a1 ae.length ar)∧f 5=(.slice an ah.length ao)∧f 6=(.int .u64 aa)∧f 7=(.int .i64 ai)∧f 1000000=(enc [])) ?_ ?_
  ·intro f a3 hJ;obtain ⟨ak,hm,ab,aj,av,aw,ax,ay,az,a2⟩:=hJ;rw [Zhn.eq_1] at hm;refine .lD 0 av<|.lD 1 aw<|.lD 5 ax<|.lD 6 ay<|.lD 7 az<|.lD 1000000 a2<|Zb<|Z0<|Zb<|Zd<|Zg rfl<|Zk rfl<|Zg rfl ?_;obtain ⟨ac,be,hm⟩:=bZ hm;refine lc rfl rfl (Xa call275 rfl rfl) (Zb2 ak _ a0 aq ag ai (h0.ks ab) ac be) ?_;rintro _ bb ⟨rfl,a4⟩;refine ⟨_,rfl,?_⟩;replace a4:Zf ak a3 ak bb:=.of_below a4;refine lV _ (Z5 _ _ rfl rfl)<|Zk rfl<|Zg rfl ?_;obtain ⟨ad,bf,hm⟩:=bZ hm;replace ab:=ab.grow a4;refine lc rfl rfl (Xa call275 rfl rfl) (Zb2 ak _ a1 ar ae ai (h1.ks ab) ad bf) ?_;rintro _ bg ⟨rfl,a5⟩;refine ⟨_,rfl,?_⟩;replace a5:Zf ak bb ak bg:=.of_below a5;refine lV _ (Z5 _ _ rfl rfl)<|Zj rfl<|Zc<|Zb<|Zd<|Zk rfl<|Zg rfl<|lV (.int .u64 (Int.tmod (u64.wrap ((u64.wrap (aa+ac))+ad)) 4294967296)) (Sw (u64.wrap ((u64.wrap (aa+ac))+ad)) 4294967296 rfl rfl (by decide))<|lV (.int .u32 (u32.wrap (Int.tmod (u64.wrap ((u64.wrap (aa+ac))+ad)) 4294967296))) (Xx (Int.tmod (u64.wrap ((u64.wrap (aa+ac))+ad)) 4294967296) ⟨_,underlying193⟩ underlying79 rfl)<|Wk (col:=ak) (r:=(Za.int .u32)) (xs:=[u32.wrap (Int.tmod (u64.wrap ((u64.wrap (aa+ac))+ad)) 4294967296)]) [(.int .u32 (u32.wrap (Int.tmod (u64.wrap ((u64.wrap (aa+ac))+ad)) 4294967296)))] 2 rfl underlying43 Zoo rfl rfl rfl rfl rfl rfl (by intro v hv;simp only [List.mem_cons,List.not_mem_nil,or_false] at hv;subst hv;rfl) (Y6.ofF (Rows.consF (r:=(Za.int .u32)) (x:=u32.wrap (Int.tmod (u64.wrap ((u64.wrap (aa+ac))+ad)) 4294967296)) (cs:=[(.int .u32 (u32.wrap (Int.tmod (u64.wrap ((u64.wrap (aa+ac))+ad)) 4294967296)))]) (X8 .u32 (u32.wrap (Int.tmod (u64.wrap ((u64.wrap (aa+ac))+ad)) 4294967296))) Rows.nil0)) ?_;intro bw bh bi bc bj;obtain ⟨bd,hm⟩:=Xd hm;replace aj:=((aj.gr a4).gr a5).gr bc;refine Wr (col:=bi) (w:=bh) (r:=(Za.int .u32)) (c:=1) (c2:=1) (xs:=ah) (ys:=[u32.wrap (Int.tmod (u64.wrap ((u64.wrap (aa+ac))+ad)) 4294967296)]) aj (bj.srcN (NB.int (k:=.u32))) rfl underlying43 Zoo rfl rfl rfl bd.1 bd.2 (by decide) ?_;intro bk bl bx bm bn bo
   refine Zu rfl<|Zc<|Zd<|Zg rfl<|lV (.int .u64 (u64.wrap (Int.tdiv (u64.wrap ((u64.wrap (aa+ac))+ad)) 4294967296))) (Ub (u64.wrap ((u64.wrap (aa+ac))+ad)) 4294967296 rfl rfl (by decide))<|Zj rfl<|Zc<|Zd<|Zg rfl<|lV _ (Z5 _ _ rfl rfl)<|Zj rfl<|Zc ?_;replace ab:=((ab.grow a5).grow bc).kpp bn;exact ⟨am,by omega,⟨bm,bk,bl,(ah++[u32.wrap (Int.tmod (u64.wrap ((u64.wrap (aa+ac))+ad)) 4294967296)]),(u64.wrap (Int.tdiv (u64.wrap ((u64.wrap (aa+ac))+ad)) 4294967296)),(i64.wrap (ai+1)),am,rfl,hm,ab,bo,rfl,rfl,rfl,rfl,rfl,rfl⟩⟩
  refine Zb ?_;refine Wp.cut (fun f a6=>∃ (ap:Zh) (a9:Bool),Za9 N ag ae ah aa ai (Tx N ag ae am) a9=some r∧St w0 (Zo col) ap a6∧Zl (Za.int .u32) 79 1 ap a6 an ao ah∧f 0=(.slice a0 ag.length aq)∧f 1=(.slice a1 ae.length ar)∧f 21=(.bool a9)∧f 5=(.slice an ah.length ao)∧f 6=(.int .u64 aa)∧f 7=(.int .i64 ai)∧f 1000000=(enc [])) ?_ ?_
  ·intro f a6 hJ;obtain ⟨ap,a9,hm,ab,aj,av,aw,bp,ax,ay,az,a2⟩:=hJ;rw [Za9.eq_1] at hm;refine .lD 0 av<|.lD 1 aw<|.lD 21 bp<|.lD 5 ax<|.lD 6 ay<|.lD 7 az<|.lD 1000000 a2 ?_;refine Zy _ rfl (fun hb=>?_) (fun hb=>?_)
   ·rw [if_pos hb] at hm;refine Zr ?_;exact ⟨ap,hm,ab,aj,rfl,rfl,rfl,rfl,rfl,rfl⟩
   rw [if_neg (Zz hb)] at hm;refine Xl (Xk ?_);refine Zb<|Zd<|Zk rfl ?_;obtain ⟨bq,br,hm⟩:=bZ hm;refine lc rfl rfl (Z7 call212 rfl) (Ul N 3 (Z3 1 ap) _ an ao ah (aj.toSlF (Z2.int .u32)) bq br) ?_;rintro _ bz ⟨bs,bt,bu,rfl,a7,ba⟩;refine ⟨_,rfl,?_⟩;replace ba:=ba.thaw (Xz .u32) a7 ((Fz.refl (col:=ap)).froz 1) (by decide);replace a7:=a7.thawR (col:=ap);generalize X1 a6.heap.size ap bs=bv at *;refine Zu rfl<|Zc<|Zq ?_;cases hm;replace ab:=ab.grow a7;exact ⟨rfl,Xh w0.heap.size col bv (fun n=>bif Nat.beq n 3 then c1 else 0),bt,bu,rfl,ab.fin (fun n=>bif Nat.beq n 3 then c1 else 0),ab.finOwn (g:=(fun n=>bif Nat.beq n 3 then c1 else 0)) rfl ba (by decide) (by decide) rfl⟩
  refine Zd<|Zg rfl<|Zk rfl<|lV _ (Zs underlying43 rfl)<|lV _ (Z4 _ _ rfl rfl)<|Xf rfl ?_;by_cases af:(decide (ai<(ag.length:Int)))=true
  ·rw [if_pos af] at hm;refine lP 12 rfl (gq af)<|lP 12 rfl (gq af)<|lP 12 rfl (gq af)<|lP 12 rfl (gq af)<|lV (.bool true) (Xm (congrArg Value.bool af) rfl)<|Xf rfl<|lP 18 rfl rfl<|lP 18 rfl rfl<|lV (.bool true) (Xm rfl rfl)<|Zc ?_;exact ⟨au,true,hm,ab,aj,rfl,rfl,rfl,rfl,rfl,rfl,rfl⟩
  rw [if_neg af] at hm;replace af:=Bool.eq_false_iff.2 af;refine lG 12 rfl (gq af)<|Zg rfl<|lG 12 rfl (gq af)<|Zk rfl<|lG 12 rfl (gq af)<|lV _ (Zs underlying43 rfl)<|lG 12 rfl (gq af)<|lV _ (Z4 _ _ rfl rfl)<|lV (.bool (decide (ai<(ae.length:Int)))) (Xr (congrArg Value.bool af) rfl)<|Xf rfl ?_;by_cases al:(decide (ai<(ae.length:Int)))=true
  ·rw [if_pos al] at hm;refine lP 18 rfl (gq al)<|lP 18 rfl (gq al)<|lV (.bool true) (Xm (congrArg Value.bool al) rfl)<|Zc ?_;exact ⟨au,true,hm,ab,aj,rfl,rfl,rfl,rfl,rfl,rfl,rfl⟩
  rw [if_neg al] at hm;replace al:=Bool.eq_false_iff.2 al;refine lG 18 rfl (gq al)<|Zg rfl<|lG 18 rfl (gq al)<|lV _ (Wa _ _ rfl rfl)<|lV (.bool (decide (0<aa))) (Xr (congrArg Value.bool al) rfl)<|Zc ?_;exact ⟨au,(decide (0<aa)),hm,ab,aj,rfl,rfl,rfl,rfl,rfl,rfl,rfl⟩
theorem Zwm:Y2 Tryz.prog 79 1 4:=⟨Tryz.t79,_,rfl,rfl,rfl,rfl,rfl⟩
def Zfm (N:Nat) (aa:Int):Option (List Int):=
  (Vw N [u32.wrap (Int.tmod aa 4294967296),u32.wrap (u64.wrap (Int.tdiv aa 4294967296))]).bind fun ab=>some ab
theorem Znh (N:Nat) (c1:Nat) (col:Zh) (w0:World) (aa:Int) (r:List Int) (hm:Zfm N aa=some r):
    Calls Tryz.prog 229 #[.int .u64 aa] w0 (fun e w'=>∃ (col':Zh) (ra1:Option Addr) (rc2:Nat),e= .returned ((.slice ra1 r.length rc2))∧Zf col w0 col' w'∧Zl (Za.int .u32) 79 c1 col' w' ra1 rc2 r):=by
 refine Xv 2 (m:=11) func229 rfl rfl rfl rfl rfl ?_;rw [Zfm.eq_1] at hm;have ab:=St.start col w0;refine Zb<|Zd<|Zu rfl<|Zc<|Zb<|Zd<|Zg rfl<|lV (.int .u64 (Int.tmod aa 4294967296)) (Sw aa 4294967296 rfl rfl (by decide))<|lV (.int .u32 (u32.wrap (Int.tmod aa 4294967296))) (Xx (Int.tmod aa 4294967296) ⟨_,underlying193⟩ underlying79 rfl)<|Zg rfl<|lV (.int .u64 (u64.wrap (Int.tdiv aa 4294967296))) (Ub aa 4294967296 rfl rfl (by decide))<|lV (.int .u32 (u32.wrap (u64.wrap (Int.tdiv aa 4294967296)))) (Xx (u64.wrap (Int.tdiv aa 4294967296)) ⟨_,underlying193⟩ underlying79 rfl)<|Wk (col:=(Zo col)) (r:=(Za.int .u32)) (xs:=[u32.wrap (Int.tmod aa 4294967296),u32.wrap (u64.wrap (Int.tdiv aa 4294967296))]) [.int .u32 (u32.wrap (Int.tmod aa 4294967296)),.int .u32 (u32.wrap (u64.wrap (Int.tdiv aa 4294967296)))] 1 rfl underlying43 Zwm rfl rfl rfl rfl rfl rfl (by intro v hv;simp only [List.mem_cons,List.not_mem_nil,or_false] at hv;rcases hv with rfl | rfl <;> rfl) (Y6.ofF (Rows.consF (r:=(Za.int .u32)) (x:=u32.wrap (Int.tmod aa 4294967296)) (cs:=[.int .u32 (u32.wrap (Int.tmod aa 4294967296))]) (X8 .u32 (u32.wrap (Int.tmod aa 4294967296))) (Rows.consF (r:=(Za.int .u32)) (x:=u32.wrap (u64.wrap (Int.tdiv aa 4294967296))) (cs:=[.int .u32 (u32.wrap (u64.wrap (Int.tdiv aa 4294967296)))]) (X8 .u32 (u32.wrap (u64.wrap (Int.tdiv aa 4294967296)))) Rows.nil0))) ?_;intro af ag ac ah ai;obtain ⟨aj,ak,hm⟩:=bZ hm;refine lc rfl rfl (Z7 call212 rfl) (Ul N 2 (Z3 1 ac) _ af 2 [u32.wrap (Int.tmod aa 4294967296),u32.wrap (u64.wrap (Int.tdiv aa 4294967296))] (ai.toSlF (Z2.int .u32)) aj ak) ?_;rintro _ ap ⟨al,am,an,rfl,ad,ae⟩;refine ⟨_,rfl,?_⟩;replace ae:=ae.thaw (Xz .u32) ad ((Fz.refl (col:=ac)).froz 1) (by decide);replace ad:=ad.thawR (col:=ac);generalize X1 ag.heap.size ac al=ao at *;refine Zu rfl<|Zc<|Zq ?_;cases hm;replace ab:=(ab.grow ah).grow ad;exact ⟨rfl,Xh w0.heap.size col ao (fun n=>bif Nat.beq n 2 then c1 else 0),am,an,rfl,ab.fin (fun n=>bif Nat.beq n 2 then c1 else 0),ab.finOwn (g:=(fun n=>bif Nat.beq n 2 then c1 else 0)) rfl ae (by decide) (by decide) rfl⟩
theorem Zsw (N:Nat) (a:List Int) (hb:a.length≤1099511627776):∀ (n j:Nat),j≤a.length→Q7 N a n (j:Int)=Tg N n (a.take j)
 | 0,j,_=>rfl
 | n+1,j,hj=>by
  have hl:(a.take j).length=j:=by rw [List.length_take];omega
  have ht:0<j→Zv (a.take j) ((j - 1:Nat):Int)=Zv a ((j - 1:Nat):Int):=fun h=>by rw [Uk,Uk,List.getElem?_take,if_pos (by omega)]
  rw [Q7.eq_2,Tg.eq_2,hl]
  by_cases h0:0<j
  ·have e:(j:Int) - 1=((j - 1:Nat):Int):=by omega
   rw [if_pos (decide_eq_true (by omega)),if_pos (decide_eq_true (by omega)),Z6 (by omega),e,ht h0,Xg (by omega),Option.bind_some,Option.bind_some,Zfl,Q2,hl,Z6 (by omega),e,Int.toNat_natCast,Int.toNat_natCast]
   by_cases hx:a[j - 1]=0
   ·rw [if_pos (decide_eq_true hx),if_pos (decide_eq_true hx),Xj (by omega),Zsw N a hb n (j - 1) (by omega),List.take_take,Nat.min_eq_left (by omega)]
   ·rw [if_neg (by rw [decide_eq_false hx];decide),if_neg (by rw [decide_eq_false hx];decide),Xj (by omega),Xj (by rw [hl];simp only [List.length_nil,maxLen];omega),List.nil_append]
  ·have:j=0:=by omega
   subst this
   rw [if_neg (by decide),if_neg (by decide),Zfl,Q2,if_neg (by decide),if_neg (by decide),Xj (by omega)]
   exact Xj (by simp [maxLen])
theorem Ut {N:Nat} {a:List Int} (h:Zw a) (hn:a.length<N) (hb:a.length≤1099511627776):Vw N a=some (Zm (Ze a)):=by
 rw [Vw,Zsw N a hb N a.length (Nat.le_refl _),List.take_length]
 exact Zku N N a h hn (by omega)
theorem Zsy {N:Nat} {u:Int} (h:0≤u∧u<18446744073709551616) (hn:2<N):Zfm N u=some (Zm u.toNat):=by
 have e1:u32.wrap (Int.tmod u 4294967296)=u % 4294967296:=by rw [Int.tmod_eq_emod_of_nonneg h.1,V4 (by omega)]
 have e2:u32.wrap (u64.wrap (Int.tdiv u 4294967296))=u / 4294967296:=by rw [Int.tdiv_eq_ediv_of_nonneg h.1,Xy (by omega),V4 (by omega)]
 have hl:Zw [u % 4294967296,u / 4294967296]:=.cons (by omega) (.cons (by omega) .nil)
 have e:Ze [u % 4294967296,u / 4294967296]=u.toNat:=by rw [Wh,Wh,Yx];omega
 rw [Zfm,e1,e2,Ut hl (by simpa using hn) (by simp),Option.bind_some,e]
theorem Zb7 {a:List Int} (h:Zw a) (k:Nat):Sn a (k:Int)=some ((Yc a k:Nat):Int):=by
 rw [Sn]
 by_cases hk:k<a.length
 ·have:=h.get hk
  rw [if_pos (decide_eq_true (by omega)),Xg hk,Option.bind_some,Xy (by omega),Yc,List.getD_eq_getElem?_getD,List.getElem?_eq_getElem hk,Option.getD_some]
  congr 1;omega
 ·rw [if_neg (by rw [decide_eq_false (by omega)];decide),Yc,List.getD_eq_getElem?_getD,List.getElem?_eq_none (by omega)];rfl
theorem Zj9 {a:List Int} (h:Zw a) (k:Nat):Ze (a.take k)<4294967296 ^ k:=by
 have h1:=T5 (h.take k)
 refine Nat.lt_of_lt_of_le h1 (Nat.pow_le_pow_right (by decide) ?_)
 rw [List.length_take];omega
theorem Zmd (N:Nat) (a b:List Int) (ha:Zw a) (hb:Zw b):∀ (n i:Nat),i<4611686018427387904→i<n→Ze (a.drop i)=Ze (b.drop i)→Zcp N a b n ((i:Int) - 1)=some (if Ze a<Ze b then -1 else if Ze b<Ze a then 1 else 0)
 | 0,i,_,h,_=>by omega
 | n+1,i,hi,hn,he=>by
  rw [Zcp.eq_2]
  by_cases h0:i=0
  ·subst h0
   rw [if_neg (by decide)]
   rw [List.drop_zero,List.drop_zero] at he
   rw [if_neg (by omega),if_neg (by omega)]
  ·have e:(i:Int) - 1=((i - 1:Nat):Int):=by omega
   have e1:i - 1+1=i:=by omega
   rw [if_pos (decide_eq_true (by omega)),e,Zb7 ha,Zb7 hb,Option.bind_some,Option.bind_some]
   have va:=U1 a (i - 1)
   have vb:=U1 b (i - 1)
   rw [Up a,e1] at va
   rw [Up b,e1,← he] at vb
   have la:=Zj9 ha (i - 1)
   have lb:=Zj9 hb (i - 1)
   have key:∀ x y:Nat,x<y→4294967296 ^ (i - 1) * (x+4294967296 * Ze (a.drop i))+4294967296 ^ (i - 1)≤4294967296 ^ (i - 1) * (y+4294967296 * Ze (a.drop i)):=fun x y hxy=>by
    rw [← Nat.mul_succ];exact Nat.mul_le_mul_left _ (by omega)
   generalize 4294967296 ^ (i - 1)=Q at *
   by_cases hlt:Yc a (i - 1)<Yc b (i - 1)
   ·have:=key _ _ hlt
    rw [if_pos (decide_eq_true (by omega)),if_pos (by omega)]
   ·rw [if_neg (by rw [decide_eq_false (by omega)];decide)]
    by_cases hgt:Yc b (i - 1)<Yc a (i - 1)
    ·have:=key _ _ hgt
     rw [if_pos (decide_eq_true (by omega)),if_neg (by omega),if_pos (by omega)]
    ·rw [if_neg (by rw [decide_eq_false (by omega)];decide),Z6 (by omega)]
     exact Zmd N a b ha hb n (i - 1) (by omega) (by omega) (by rw [Up a,Up b,e1,he];omega)
theorem Zme {N:Nat} {a b:List Int} (ha:Zw a) (hb:Zw b) (h1:a.length<N) (h2:b.length<N) (h3:a.length≤1099511627776) (h4:b.length≤1099511627776):
  Zco N a b=some (if Ze a<Ze b then -1 else if Ze b<Ze a then 1 else 0):=by
 have dz:∀ (l:List Int) (k:Nat),l.length≤k→Ze (l.drop k)=0:=fun l k h=>by rw [List.drop_eq_nil_of_le h];rfl
 rw [Zco]
 by_cases h:a.length<b.length
 ·rw [if_pos (decide_eq_true (by omega)),Zfg,Z6 (by omega)]
  exact Zmd N a b ha hb N b.length (by omega) h2 (by rw [dz a _ (by omega),dz b _ (by omega)])
 ·rw [if_neg (by rw [decide_eq_false (by omega)];decide),Zfg,Z6 (by omega)]
  exact Zmd N a b ha hb N a.length (by omega) h1 (by rw [dz a _ (by omega),dz b _ (by omega)])
theorem Zmr {s:Int} (h:0≤s∧s<18446744073709551616):u32.wrap (Int.tmod s 4294967296)=((s.toNat % 4294967296:Nat):Int):=by
 rw [Int.tmod_eq_emod_of_nonneg h.1,V4 (by omega)];omega
theorem Zmq {s:Int} (h:0≤s∧s<18446744073709551616):u64.wrap (Int.tdiv s 4294967296)=((s.toNat / 4294967296:Nat):Int):=by
 rw [Int.tdiv_eq_ediv_of_nonneg h.1,Xy (by omega)];omega
theorem Zl7 {S Q A B C:Nat} (h:A=B+4294967296 * C):S+Q * B+Q * 4294967296 * C=S+Q * A:=by
 subst h;grind
theorem Zr3 (N:Nat) (a b:List Int) (ha:Zw a) (hb:Zw b) (hN:a.length+b.length+2<N) (hs:a.length+b.length<1099511627000):∀ (n i:Nat) (out:List Int) (c:Nat),out.length=i→Zw out→c≤1→i≤a.length+b.length+2→(i≤a.length+b.length+1∨c=0)→a.length+b.length+3≤n+i→
  Tx N a b n out (c:Int) (i:Int)=some (Zm (Ze out+4294967296 ^ i * (c+Ze (a.drop i)+Ze (b.drop i))))
 | 0,i,out,c,_,_,_,h1,_,h2=>by omega
 | n+1,i,out,c,ho,hO,hc,h1,h2,h3=>by
  have go:(i<a.length∨i<b.length∨0<c)→Zhn a b out (c:Int) (i:Int) (Tx N a b n)=some (Zm (Ze out+4294967296 ^ i * (c+Ze (a.drop i)+Ze (b.drop i)))):=fun hgo=>by
   have la:=Zb6 ha i
   have lb:=Zb6 hb i
   have es:u64.wrap (u64.wrap ((c:Int)+((Yc a i:Nat):Int))+((Yc b i:Nat):Int))=((c+Yc a i+Yc b i:Nat):Int):=by
    rw [Xy (x:=(c:Int)+_) (by omega),Xy (by omega)];omega
   rw [Zhn,Zb7 ha,Zb7 hb,Option.bind_some,Option.bind_some,es,Zmr (by omega),Zmq (by omega),Int.toNat_natCast]
   generalize hsum:c+Yc a i+Yc b i=s
   rw [Xj (by simp only [List.length_singleton,maxLen];omega),Z6 (by omega)]
   have ih:=Zr3 N a b ha hb hN hs n (i+1) (out++[((s % 4294967296:Nat):Int)]) (s / 4294967296) (by simp [ho]) (hO.app (.cons (by omega) .nil)) (by omega) (by omega) (by
    by_cases hi:i<a.length∨i<b.length
    ·omega
    ·right
     have za:Yc a i=0:=by rw [Yc,List.getD_eq_getElem?_getD,List.getElem?_eq_none (by omega)];rfl
     have zb:Yc b i=0:=by rw [Yc,List.getD_eq_getElem?_getD,List.getElem?_eq_none (by omega)];rfl
     omega) (by omega)
   rw [show ((i+1:Nat):Int)=(i:Int)+1 by omega] at ih
   rw [ih,T4,ho,Wh,Yx,Int.toNat_natCast,Up a i,Up b i,Nat.pow_succ]
   congr 2
   rw [Nat.mul_zero,Nat.add_zero]
   refine Zl7 ?_
   omega
  rw [Tx.eq_2]
  by_cases hia:i<a.length
  ·rw [if_pos (decide_eq_true (by omega)),Za9,if_pos rfl];exact go (.inl hia)
  ·rw [if_neg (by rw [decide_eq_false (by omega)];decide)]
   by_cases hib:i<b.length
   ·rw [if_pos (decide_eq_true (by omega)),Za9,if_pos rfl];exact go (.inr (.inl hib))
   ·rw [if_neg (by rw [decide_eq_false (by omega)];decide),Za9]
    by_cases hcp:0<c
    ·rw [if_pos (decide_eq_true (by omega))];exact go (.inr (.inr hcp))
    ·have:c=0:=by omega
     subst this
     rw [if_neg (by decide),Ut hO (by omega) (by omega),Option.bind_some,List.drop_eq_nil_of_le (by omega),List.drop_eq_nil_of_le (by omega),Yx]
     simp
theorem Zr4 {N:Nat} {a b:List Int} (ha:Zw a) (hb:Zw b) (hN:a.length+b.length+3<N) (hs:a.length+b.length<1099511627000):Zff N a b=some (Zm (Ze a+Ze b)):=by
 have:=Zr3 N a b ha hb (by omega) hs N 0 [] 0 rfl .nil (by omega) (by omega) (by omega) (by omega)
 rw [List.drop_zero,List.drop_zero,Yx,Nat.pow_zero] at this
 rw [Zff,show (0:Int)=((0:Nat):Int) from rfl,this]
 simp
theorem Zs2 (N:Nat) (a b:List Int) (ha:Zw a) (hb:Zw b) (hN:a.length<N) (hs:a.length<1099511627776):∀ (n i:Nat) (out:List Int) (c:Nat),out.length=i→Zw out→c≤1→i≤a.length→a.length<n+i→c+Ze (b.drop i)≤Ze (a.drop i)→
  Sm N a b n out (c:Int) (i:Int)=some (Zm (Ze out+4294967296 ^ i * (Ze (a.drop i) - (c+Ze (b.drop i)))),true)
 | 0,i,out,c,_,_,_,h1,h2,_=>by omega
 | n+1,i,out,c,ho,hO,hc,h1,h2,h3=>by
  rw [Sm.eq_2]
  by_cases hi:i<a.length
  ·have la:=Zb6 ha i
   have lb:=Zb6 hb i
   rw [Up a i,Up b i] at h3
   have go:∀ (c':Nat) (x:Int),c'≤1→x=((Yc a i+4294967296 * c':Nat):Int)→Yc b i+c≤Yc a i+4294967296 * c'→Yc a i+4294967296 * c'<Yc b i+c+4294967296→Zfn out (c:Int) (i:Int) (Sm N a b n) ((Yc b i:Nat):Int) (c':Int) x=some (Zm (Ze out+4294967296 ^ i * (Ze (a.drop i) - (c+Ze (b.drop i)))),true):=fun c' x hc' hx h5 h6=>by
    have ev:u32.wrap (u64.wrap (x - u64.wrap (((Yc b i:Nat):Int)+(c:Int))))=((Yc a i+4294967296 * c' - (Yc b i+c):Nat):Int):=by
     rw [Xy (x:=((Yc b i:Nat):Int)+(c:Int)) (by omega),Xy (by omega),V4 (by omega)];omega
    rw [Zfn,ev,Xj (by simp only [List.length_singleton,maxLen];omega),Zjs,Z6 (by omega)]
    generalize hv:Yc a i+4294967296 * c' - (Yc b i+c)=v
    have ih:=Zs2 N a b ha hb hN hs n (i+1) (out++[(v:Int)]) c' (by simp [ho]) (hO.app (.cons (by omega) .nil)) hc' (by omega) (by omega) (by omega)
    rw [show ((i+1:Nat):Int)=(i:Int)+1 by omega] at ih
    rw [ih,T4,ho,Wh,Yx,Int.toNat_natCast,Up a i,Up b i,Nat.pow_succ,Nat.mul_zero,Nat.add_zero]
    congr 3
    refine Zl7 ?_
    omega
   rw [if_pos (decide_eq_true (by omega)),Zb7 ha,Zb7 hb,Option.bind_some,Option.bind_some,Xy (x:=((Yc b i:Nat):Int)+(c:Int)) (by omega)]
   by_cases hlt:Yc a i<Yc b i+c
   ·rw [if_pos (decide_eq_true (by omega))]
    exact go 1 _ (by omega) (by rw [Xy (by omega)];omega) (by omega) (by omega)
   ·rw [if_neg (by rw [decide_eq_false (by omega)];decide)]
    exact go 0 _ (by omega) (by omega) (by omega) (by omega)
  ·rw [if_neg (by rw [decide_eq_false (by omega)];decide),Ut hO (by omega) (by omega),Option.bind_some]
   rw [List.drop_eq_nil_of_le (show a.length≤i by omega),Yx] at h3 ⊢
   rw [show 0 - (c+Ze (b.drop i))=0 by omega]
   simp
theorem Zii {N:Nat} {a b:List Int} (ha:Zw a) (hb:Zw b) (h1:a.length<N) (h2:b.length<N) (h3:a.length<1099511627776) (h4:b.length<1099511627776):
  Zba N a b=some (if Ze a<Ze b then ([],false) else (Zm (Ze a - Ze b),true)):=by
 rw [Zba,Zme ha hb h1 h2 (by omega) (by omega),Option.bind_some]
 by_cases h:Ze a<Ze b
 ·rw [if_pos h,if_pos (by decide),if_pos h]
 ·have:=Zs2 N a b ha hb h1 h3 N 0 [] 0 rfl .nil (by omega) (by omega) (by omega) (by simpa using Nat.le_of_not_lt h)
  rw [if_neg h,if_neg (by split <;> decide),if_neg h,show (0:Int)=((0:Nat):Int) from rfl,this]
  simp [Yx]
theorem Zss (N:Nat) (a b:List Int) (ha:Zw a) (hb:Zw b) (i:Nat) (hi:i<a.length) (kk:List Int→Int→Option (List Int)):∀ (n j:Nat) (p:List Int) (c:Nat),j≤b.length→b.length<n+j→i+b.length<p.length→p.length<4611686018427387904→Zw p→c<4294967296→Ze (p.drop (i+b.length))=0→
  ∃ p',Zct N a b (i:Int) kk n (j:Int) p (c:Int)=kk p' ((i:Int)+1)∧p'.length=p.length∧Zw p'∧Ze p'=Ze p+4294967296 ^ (i+j) * (c+Yc a i * Ze (b.drop j))∧Ze (p'.drop (i+b.length+1))=0
 | 0,j,p,c,h1,h2,_,_,_,_,_=>by omega
 | n+1,j,p,c,h1,h2,hp,hs,hL,hc,hz=>by
  rw [Zct.eq_2]
  by_cases hj:j<b.length
  ·have hij:i+j<p.length:=by omega
   have gp:=hL.get hij
   have ga:=ha.get hi
   have gb:=hb.get hj
   have ea:Yc a i=(a[i]).toNat:=by rw [Yc,List.getD_eq_getElem?_getD,List.getElem?_eq_getElem hi,Option.getD_some]
   have hm:a[i] * b[j]≤4294967295 * 4294967295:=Int.mul_le_mul (by omega) (by omega) (by omega) (by omega)
   have hm0:0≤a[i] * b[j]:=Int.mul_nonneg ga.1 gb.1
   have em:(((a[i]).toNat * (b[j]).toNat:Nat):Int)=a[i] * b[j]:=by rw [Int.natCast_mul,Int.toNat_of_nonneg ga.1,Int.toNat_of_nonneg gb.1]
   have es:u64.wrap (u64.wrap ((c:Int)+u64.wrap (u64.wrap a[i] * u64.wrap b[j]))+u64.wrap p[i+j])=((c+((a[i]).toNat * (b[j]).toNat+(p[i+j]).toNat):Nat):Int):=by
    rw [Xy (x:=a[i]) (by omega),Xy (x:=b[j]) (by omega),Xy (x:=a[i] * b[j]) (by omega),Xy (x:=p[i+j]) (by omega),Xy (x:=(c:Int)+_) (by omega),Xy (by omega)]
    omega
   rw [if_pos (decide_eq_true (by omega)),Xg hi,Option.bind_some,Xg hj,Option.bind_some,Z6 (x:=(i:Int)+(j:Int)) (by omega),show (i:Int)+(j:Int)=((i+j:Nat):Int) by omega,Xg hij,Option.bind_some,Option.bind_some,Int.toNat_natCast,es]
   have hsb:c+((a[i]).toNat * (b[j]).toNat+(p[i+j]).toNat)<18446744073709551616:=by omega
   rw [Zmr (by omega),Zmq (by omega),Int.toNat_natCast,Z6 (x:=(j:Int)+1) (by omega),show (j:Int)+1=((j+1:Nat):Int) by omega]
   generalize hS:c+((a[i]).toNat * (b[j]).toNat+(p[i+j]).toNat)=S at *
   obtain ⟨p',q1,q2,q3,q4,q5⟩:=Zss N a b ha hb i hi kk n (j+1) (p.set (i+j) ((S % 4294967296:Nat):Int)) (S / 4294967296) (by omega) (by omega) (by rw [List.length_set];exact hp) (by rw [List.length_set];exact hs) (hL.set _ (by omega)) (by omega) (by rw [Sd _ (by omega)];exact hz)
   refine ⟨p',q1,by rw [q2,List.length_set],q3,?_,q5⟩
   rw [q4,← Nat.add_assoc i j 1,Nat.pow_succ,Ua hj,ea]
   exact Zqo _ _ _ _ _ _ (p[i+j]).toNat (S % 4294967296) _ _ (by have:=U0 hij ((S % 4294967296:Nat):Int);rw [Int.toNat_natCast] at this;exact this) (by omega)
  ·have:j=b.length:=by omega
   subst this
   have hz':=drop_zero hL hp hz
   rw [if_neg (by rw [decide_eq_false (by omega)];decide),Z6 (x:=(i:Int)+(b.length:Int)) (by omega),show (i:Int)+(b.length:Int)=((i+b.length:Nat):Int) by omega,Xg hp,Option.bind_some,Option.bind_some,Int.toNat_natCast,V4 (by omega),Z6 (by omega)]
   refine ⟨_,rfl,by rw [List.length_set],hL.set _ (by omega),?_,?_⟩
   ·have h1:=U0 hp (c:Int)
    rw [hz'.1,Int.toNat_natCast] at h1
    rw [List.drop_length,Yx,Nat.mul_zero,Nat.add_zero]
    simpa using h1
   ·rw [Sd _ (by omega)];exact hz'.2
theorem Zsr (N:Nat) (a b:List Int) (ha:Zw a) (hb:Zw b) (hN:a.length+b.length<N) (hs:a.length+b.length<1099511627776):∀ (n i:Nat) (p:List Int),i≤a.length→a.length<n+i→p.length=a.length+b.length→Zw p→Ze (p.drop (i+b.length))=0→
  Q6 N a b n p (i:Int)=some (Zm (Ze p+4294967296 ^ i * (Ze (a.drop i) * Ze b)))
 | 0,i,p,h1,h2,_,_,_=>by omega
 | n+1,i,p,h1,h2,hp,hL,hz=>by
  rw [Q6.eq_2]
  by_cases hi:i<a.length
  ·obtain ⟨p',q1,q2,q3,q4,q5⟩:=Zss N a b ha hb i hi (Q6 N a b n) N 0 p 0 (by omega) (by omega) (by omega) (by omega) hL (by omega) hz
   rw [show ((0:Nat):Int)=0 from rfl] at q1
   have ih:=Zsr N a b ha hb hN hs n (i+1) p' (by omega) (by omega) (by omega) q3 (by rw [show i+1+b.length=i+b.length+1 by omega];exact q5)
   rw [show ((i+1:Nat):Int)=(i:Int)+1 by omega] at ih
   rw [if_pos (decide_eq_true (by omega)),q1,ih,q4,Up a i,Nat.pow_succ,List.drop_zero]
   congr 2
   simp only [Nat.add_zero,Nat.zero_add]
   grind
  ·rw [if_neg (by rw [decide_eq_false (by omega)];decide),Ut hL (by omega) (by omega),Option.bind_some,List.drop_eq_nil_of_le (by omega),Yx];simp
theorem Zst {N:Nat} {a b:List Int} (ha:Zw a) (hb:Zw b) (h1:a.length+b.length<N) (h3:a.length+b.length<1099511627776):Zcs N a b=some (Zm (Ze a * Ze b)):=by
 have la:=Yz ha
 have lb:=Yz hb
 rw [Zcs,Ut ha (by omega) (by omega),Option.bind_some,Ut hb (by omega) (by omega),Option.bind_some,Z6 (by omega),Xj (by simp only [maxLen];omega)]
 have:=Zsr N (Zm (Ze a)) (Zm (Ze b)) (Xq _) (Xq _) (by omega) (by omega) N 0 (List.replicate (Int.toNat (((Zm (Ze a)).length:Int)+((Zm (Ze b)).length:Int))) 0) (by omega) (by omega) (by rw [List.length_replicate];omega) (.zeros _) (by rw [List.drop_replicate];exact U5 _)
 rw [show ((0:Nat):Int)=0 from rfl] at this
 rw [this,U5,List.drop_zero,Xo,Xo]
 simp
theorem Zr5 (N:Nat):∀ (n:Nat) (c:Int) (t:Nat),Xw t<n→t<4294967296→0≤c∧c+(Xw t:Int)≤4611686018427387904→Zcn N n c (t:Int)=some (c+(Xw t:Int))
 | 0,c,t,h,_,_=>by omega
 | n+1,c,t,h,ht,hc=>by
  rw [Zcn.eq_2]
  have hb:Xw t≤32:=V0.2 (by omega)
  by_cases h0:0<t
  ·have e:u32.wrap (Int.tdiv (t:Int) 2)=((t / 2:Nat):Int):=by rw [Int.tdiv_eq_ediv_of_nonneg (by omega),V4 (by omega)];omega
   have hs:=Zgx t 1
   rw [Nat.pow_one] at hs
   have h1:1≤Xw t:=by rw [Xw,if_neg (by omega)];omega
   rw [if_pos (decide_eq_true (by omega)),e,Z6 (by omega),Zr5 N n (c+1) (t / 2) (by omega) (by omega) (by omega)]
   congr 1;omega
  ·have:t=0:=by omega
   subst this
   rw [if_neg (by decide),Zd0];simp
theorem Zy4 {N:Nat} {a:List Int} (h:Zw a) (hn:a.length+32<N) (hb:a.length≤1099511627776):Zhp N a=some ((Xw (Ze a):Nat):Int):=by
 have hl:=Yz h
 rw [Zhp,Ut h (by omega) hb,Option.bind_some]
 by_cases h0:(Zm (Ze a)).length=0
 ·have:Ze a=0:=Zed.1 (List.eq_nil_of_length_eq_zero h0)
  rw [if_pos (decide_eq_true (by omega)),this,Zd0];rfl
 ·have hp:0<(Zm (Ze a)).length:=by omega
  have e:((Zm (Ze a)).length:Int) - 1=(((Zm (Ze a)).length - 1:Nat):Int):=by omega
  have hx:=(Xq (Ze a)).get (k:=(Zm (Ze a)).length - 1) (by omega)
  have hne:=Zji hp
  have hs:=Zeb hp
  have e2:(Zm (Ze a))[(Zm (Ze a)).length - 1]=(((Zm (Ze a))[(Zm (Ze a)).length - 1]).toNat:Int):=by omega
  have hb2:Xw ((Zm (Ze a))[(Zm (Ze a)).length - 1]).toNat≤32:=V0.2 (by omega)
  rw [if_neg (by rw [decide_eq_false (by omega)];decide),Z6 (by omega),e,Xg (by omega),Option.bind_some,e2,Z6 (by omega),Zr5 N N _ _ (by omega) (by omega) (by omega)]
  have hb:=Zm2 (a:=(Zm (Ze a)).take ((Zm (Ze a)).length - 1)) (x:=(Zm (Ze a))[(Zm (Ze a)).length - 1]) ((Xq _).take _) (by omega)
  rw [hs,Xo,List.length_take,Nat.min_eq_left (by omega)] at hb
  rw [hb]
  congr 1
theorem Zt6 (T l R k s:Nat) (hT:T<4294967296 ^ k) (hs:s<32):(T+4294967296 ^ k * (l+4294967296 * R)) / 2 ^ (32 * k+s) % 2=l / 2 ^ s % 2:=by
 have e:(4294967296:Nat) ^ k=2 ^ (32 * k):=by rw [show (4294967296:Nat)=2 ^ 32 by decide,← Nat.pow_mul]
 have hp:0<4294967296 ^ k:=Nat.pow_pos (by decide)
 rw [Nat.pow_add,← e,← Nat.div_div_eq_div_mul,Nat.add_mul_div_left _ _ hp,Nat.div_eq_of_lt hT,Nat.zero_add]
 have pw:(4294967296:Nat)=2 ^ s * (2 * 2 ^ (31 - s)):=by
  rw [Nat.mul_left_comm,← Nat.pow_add,show s+(31 - s)=31 by omega]
 have e2:l+4294967296 * R=l+2 ^ s * (2 * (2 ^ (31 - s) * R)):=by
  conv=>lhs;rw [pw]
  rw [Nat.mul_assoc,Nat.mul_assoc]
 rw [e2,Nat.add_mul_div_left _ _ (Nat.two_pow_pos s),Nat.add_mul_mod_self_left]
theorem Zy3 {a:List Int} (h:Zw a) {i:Nat} (hi:i<4611686018427387904):Zho a (i:Int)=some ((Ze a / 2 ^ i % 2:Nat):Int):=by
 have hl:=Zb6 h (i / 32)
 have e1:i64.wrap (Int.tdiv (i:Int) 32)=((i / 32:Nat):Int):=by rw [Int.tdiv_eq_ediv_of_nonneg (by omega),Z6 (by omega)];omega
 have e2:Int.tmod (i:Int) 32=((i % 32:Nat):Int):=by rw [Int.tmod_eq_emod_of_nonneg (by omega)];omega
 rw [Zho,e1,Zb7 h,Option.bind_some,e2,Xj (by omega),Zkr _ _ _ (by simp only [IntKind.bits];omega)]
 have hd:=Nat.div_le_self (Yc a (i / 32)) (2 ^ (i % 32))
 have e3:=Zt6 (Ze (a.take (i / 32))) (Yc a (i / 32)) (Ze (a.drop (i / 32+1))) (i / 32) (i % 32) (Zj9 h _) (by omega)
 rw [← Up a,← U1,show 32 * (i / 32)+i % 32=i by omega] at e3
 rw [e3]
 generalize Yc a (i / 32) / 2 ^ (i % 32)=x at *
 rw [V4 (by omega),Int.tmod_eq_emod_of_nonneg (by omega)]
 congr 1
theorem Zsb (N:Nat) (a:List Int) (ha:Zw a) (hs:a.length<1099511627776):∀ (n i:Nat) (out:List Int) (c:Nat),out.length=i→Zw out→c≤1→i≤a.length→a.length<n+i→
  ∃ o,Zcu N a n out (c:Int) (i:Int)=some o∧o.length≤a.length+1∧Zw o∧Ze o=Ze out+4294967296 ^ i * (c+2 * Ze (a.drop i))
 | 0,i,out,c,_,_,_,h1,h2=>by omega
 | n+1,i,out,c,ho,hO,hc,h1,h2=>by
  rw [Zcu.eq_2]
  by_cases hi:i<a.length
  ·have ga:=ha.get hi
   have es:u64.wrap ((c:Int)+u64.wrap (2 * u64.wrap a[i]))=((c+2 * (a[i]).toNat:Nat):Int):=by
    rw [Xy (x:=a[i]) (by omega),Xy (x:=2 * _) (by omega),Xy (by omega)];omega
   rw [if_pos (decide_eq_true (by omega)),Xg hi,Option.bind_some,es,Zmr (by omega),Zmq (by omega),Int.toNat_natCast]
   generalize hS:c+2 * (a[i]).toNat=S
   rw [Xj (by simp only [List.length_singleton,maxLen];omega),Z6 (by omega)]
   obtain ⟨o,q1,q2,q3,q4⟩:=Zsb N a ha hs n (i+1) (out++[((S % 4294967296:Nat):Int)]) (S / 4294967296) (by simp [ho]) (hO.app (.cons (by omega) .nil)) (by omega) (by omega) (by omega)
   rw [show ((i+1:Nat):Int)=(i:Int)+1 by omega] at q1
   refine ⟨o,q1,q2,q3,?_⟩
   rw [q4,T4,ho,Wh,Yx,Int.toNat_natCast,Ua hi,Nat.pow_succ,Nat.mul_zero,Nat.add_zero]
   refine Zl7 ?_
   omega
  ·have hia:i=a.length:=by omega
   rw [if_neg (by rw [decide_eq_false (by omega)];decide)]
   by_cases hcp:0<c
   ·rw [if_pos (decide_eq_true (by omega)),Xj (by simp only [List.length_singleton,maxLen];omega),Zfp,V4 (by omega)]
    refine ⟨_,rfl,by simp;omega,hO.app (.cons (by omega) .nil),?_⟩
    rw [T4,ho,Wh,Yx,Int.toNat_natCast,List.drop_eq_nil_of_le (by omega),Yx]
   ·have:c=0:=by omega
    subst this
    rw [if_neg (by decide),Zfp]
    refine ⟨_,rfl,by omega,hO,?_⟩
    rw [List.drop_eq_nil_of_le (by omega),Yx];simp
theorem Zsc {N:Nat} {a:List Int} {c:Nat} (ha:Zw a) (hc:c≤1) (hN:a.length<N) (hs:a.length<1099511627776):∃ o,Zfo N a (c:Int)=some o∧o.length≤a.length+1∧Zw o∧Ze o=2 * Ze a+c:=by
 obtain ⟨o,q1,q2,q3,q4⟩:=Zsb N a ha hs N 0 [] c rfl .nil hc (by omega) (by omega)
 refine ⟨o,?_,q2,q3,?_⟩
 ·rw [Zfo,Xy (by omega)];exact q1
 ·rw [q4,Yx,Nat.pow_zero,List.drop_zero];omega
theorem Zw6 (Q e o2 r S v L:Nat) (h:r * 4294967296+e=2 * v+o2) (hS:S=Q * (o2+2 * (v+4294967296 * L))):S=Q * e+Q * 4294967296 * (r+2 * L):=by
 subst hS
 have:Q * (r * 4294967296+e)=Q * (2 * v+o2):=by rw [h]
 grind
theorem Zsp (N:Nat) (a:List Int) (ha:Zw a) (hN:a.length<N) (hs:a.length<1099511627776):∀ (n j:Nat) (out:List Int) (r:Nat),out.length=a.length→Zw out→r≤1→j≤a.length→j<n→Ze (out.take j)=0→
  ∃ v,Zcv N a n out (r:Int) ((j:Int) - 1)=some (Zm v)∧∃ ρ,ρ≤1∧2 * v+ρ=Ze (a.take j)+4294967296 ^ j * (r+2 * Ze (out.drop j))
 | 0,j,out,r,_,_,_,_,h,_=>by omega
 | n+1,j,out,r,ho,hO,hr,hj,hn,hz=>by
  rw [Zcv.eq_2]
  by_cases h0:j=0
  ·subst h0
   rw [if_neg (by decide),Ut hO (by omega) (by omega),Option.bind_some]
   refine ⟨_,rfl,r,hr,?_⟩
   rw [List.take_zero,Yx,List.drop_zero,Nat.pow_zero];omega
  ·have e:(j:Int) - 1=((j - 1:Nat):Int):=by omega
   have e1:j - 1+1=j:=by omega
   have hk:j - 1<a.length:=by omega
   have g:=ha.get hk
   have es:u64.wrap (u64.wrap ((r:Int) * 4294967296)+u64.wrap a[j - 1])=((r * 4294967296+(a[j - 1]).toNat:Nat):Int):=by
    rw [Xy (x:=a[j - 1]) (by omega),Xy (x:=(r:Int) * 4294967296) (by omega),Xy (by omega)];omega
   rw [if_pos (decide_eq_true (by omega)),e,Xg hk,Option.bind_some,Xg (by omega),Option.bind_some,Option.bind_some,Int.toNat_natCast,es,Z6 (by omega)]
   generalize hS:r * 4294967296+(a[j - 1]).toNat=S
   have e2:u32.wrap (u64.wrap (Int.tdiv (S:Int) 2))=((S / 2:Nat):Int):=by rw [Int.tdiv_eq_ediv_of_nonneg (by omega),Xy (by omega),V4 (by omega)];omega
   have e3:Int.tmod (S:Int) 2=((S % 2:Nat):Int):=by rw [Int.tmod_eq_emod_of_nonneg (by omega)];omega
   have zt:Ze (out.take (j - 1))=0:=by
    have:=U1 (out.take j) (j - 1)
    rw [List.take_take,Nat.min_eq_left (by omega),hz] at this
    omega
   rw [e2,e3]
   obtain ⟨v,q1,ρ,q2,q3⟩:=Zsp N a ha hN hs n (j - 1) (out.set (j - 1) ((S / 2:Nat):Int)) (S % 2) (by rw [List.length_set];exact ho) (hO.set _ (by omega)) (by omega) (by omega) (by omega) (by rw [Zbw _ (Nat.le_refl _)];exact zt)
   refine ⟨v,q1,ρ,q2,?_⟩
   rw [q3]
   have t1:=Zl4 hk
   have t2:Ze ((out.set (j - 1) ((S / 2:Nat):Int)).drop (j - 1))=S / 2+4294967296 * Ze (out.drop (j - 1+1)):=by
    rw [Ua (by rw [List.length_set];omega),List.getElem_set_self,Sd _ (by omega),Int.toNat_natCast]
   rw [e1] at t1 t2
   have hp:(4294967296:Nat) ^ j=4294967296 ^ (j - 1) * 4294967296:=by rw [← Nat.pow_succ,show (j - 1).succ=j by omega]
   rw [t1,t2,hp,Nat.add_assoc]
   congr 1
   exact Zw6 _ _ (S % 2) _ _ (S / 2) _ (by omega) rfl
theorem Zko {N:Nat} {a:List Int} (ha:Zw a) (hN:a.length<N) (hs:a.length<1099511627776):Zbc N a=some (Zm (Ze a / 2)):=by
 obtain ⟨v,q1,ρ,q2,q3⟩:=Zsp N a ha hN hs N a.length (List.replicate a.length 0) 0 (by rw [List.length_replicate]) (.zeros _) (by omega) (Nat.le_refl _) hN (by rw [List.take_replicate];exact U5 _)
 rw [Zbc,Xj (by simp only [maxLen];omega),Z6 (by omega)]
 rw [List.take_length,List.drop_replicate,U5] at q3
 refine Eq.trans q1 ?_
 rw [show v=Ze a / 2 by omega]
theorem Zx8 {a:List Int} (h:Zw a):Ze a % 2=Yc a 0 % 2:=by
 have:=Up a 0
 rw [List.drop_zero] at this
 omega
theorem Zkn {a:List Int} (h:Zw a):Zbb a=some (decide (Ze a % 2=0)):=by
 rw [Zbb,Zx8 h]
 by_cases h0:a.length=0
 ·have:a=[]:=List.eq_nil_of_length_eq_zero h0
  subst this
  rfl
 ·have g:=h.get (k:=0) (by omega)
  have ea:Yc a 0=(a[0]).toNat:=by rw [Yc,List.getD_eq_getElem?_getD,List.getElem?_eq_getElem (by omega),Option.getD_some]
  rw [if_neg (by rw [decide_eq_false (by omega)];decide),show (0:Int)=((0:Nat):Int) from rfl,Xg (by omega),Option.bind_some,Zhs,Int.tmod_eq_emod_of_nonneg (by omega),ea]
  congr 1
  exact decide_eq_decide.2 (by omega)
theorem Zyg {q:List Int} (hq:Zw q) {i:Nat} (hi:i<32 * q.length) (hd:2 ^ (i+1) ∣ Ze q):
  ∃ x:Nat,Zv q ((i / 32:Nat):Int)=some (x:Int)∧u32.wrap ((x:Int)+Xt .u32 1 ((i % 32:Nat):Int))=((x+2 ^ (i % 32):Nat):Int)∧x+2 ^ (i % 32)<4294967296∧Ze (q.set (i / 32) ((x+2 ^ (i % 32):Nat):Int))=Ze q+2 ^ i:=by
 have hk:i / 32<q.length:=by omega
 have g:=hq.get hk
 have hs:i % 32<32:=Nat.mod_lt _ (by decide)
 have hp:=Nat.two_pow_pos (i % 32)
 have e32:(4294967296:Nat) ^ (i / 32)=2 ^ (32 * (i / 32)):=by rw [show (4294967296:Nat)=2 ^ 32 by decide,← Nat.pow_mul]
 have eb:(4294967296:Nat)=2 ^ (i % 32+1) * 2 ^ (31 - i % 32):=by rw [← Nat.pow_add,show i % 32+1+(31 - i % 32)=32 by omega]
 have pi:(2:Nat) ^ (i+1)=4294967296 ^ (i / 32) * 2 ^ (i % 32+1):=by rw [e32,← Nat.pow_add];congr 1;omega
 have pi0:(2:Nat) ^ i=4294967296 ^ (i / 32) * 2 ^ (i % 32):=by rw [e32,← Nat.pow_add];congr 1;omega
 have sp:=U1 q (i / 32)
 rw [Ua hk] at sp
 have tl:=Zj9 hq (i / 32)
 have hQ:0<4294967296 ^ (i / 32):=Nat.pow_pos (by decide)
 rw [pi] at hd
 -- the limb's lower bits are none
 have hx:2 ^ (i % 32+1) ∣ (q[i / 32]).toNat:=by
  have d1:4294967296 ^ (i / 32) ∣ Ze q:=Nat.dvd_trans ⟨_,rfl⟩ hd
  have d2:4294967296 ^ (i / 32) ∣ Ze (q.take (i / 32)):=by
   rw [sp] at d1
   exact (Nat.dvd_add_left ⟨_,rfl⟩).1 d1
  have z:Ze (q.take (i / 32))=0:=Nat.eq_zero_of_dvd_of_lt d2 tl
  rw [z,Nat.zero_add] at sp
  rw [sp] at hd
  have d3:=Nat.dvd_of_mul_dvd_mul_left hQ hd
  have d4:2 ^ (i % 32+1) ∣ 4294967296 * Ze (q.drop (i / 32+1)):=by
   conv=>rhs;rw [eb]
   exact ⟨2 ^ (31 - i % 32) * Ze (q.drop (i / 32+1)),by rw [Nat.mul_assoc]⟩
  exact (Nat.dvd_add_left d4).1 d3
 obtain ⟨y,hy⟩:=hx
 have hlt:(q[i / 32]).toNat+2 ^ (i % 32)<4294967296:=by
  have h1:2 ^ (i % 32+1) * y<2 ^ (i % 32+1) * 2 ^ (31 - i % 32):=by rw [← hy,← eb];omega
  have h2:=Nat.lt_of_mul_lt_mul_left h1
  have h3:=Nat.mul_le_mul_left (2 ^ (i % 32+1)) (show y+1≤2 ^ (31 - i % 32) from h2)
  rw [← eb,Nat.mul_add,← hy,Nat.pow_succ] at h3
  omega
 refine ⟨(q[i / 32]).toNat,by rw [Xg hk];congr 1;omega,?_,hlt,?_⟩
 ·rw [show (1:Int)=((1:Nat):Int) from rfl,Zmm hs (.inl rfl),Nat.one_mul,V4 (x:=((2 ^ (i % 32):Nat):Int)) (by omega),V4 (by omega)]
  omega
 ·have h1:=U0 hk (((q[i / 32]).toNat+2 ^ (i % 32):Nat):Int)
  rw [Int.toNat_natCast,Nat.mul_add,← pi0] at h1
  omega
theorem Zmf (N:Nat) (a y:List Int) (ha:Zw a) (hy:Zw y) (hy0:0<Ze y) (hly:y.length+8<N) (hs:y.length<549755813888) (hla:a.length<549755813888) (hyc:(Zm (Ze y)).length=y.length) (hNa:a.length+y.length+8<N):∀ (n j:Nat) (r q:List Int),j<n→j<4611686018427387904→j≤32 * q.length→q.length≤a.length→Zw q→r=Zm (Ze r)→Ze r<Ze y→2 ^ j ∣ Ze q→Ze a / 2 ^ j=Ze q / 2 ^ j * Ze y+Ze r→
  Q4 N a y n r ((j:Int) - 1) q=some (Zm (Ze a / Ze y),Zm (Ze a % Ze y),0)
 | 0,j,r,q,h,_,_,_,_,_,_,_,_=>by omega
 | n+1,j,r,q,hjn,hj,hjq,hqa,hq,hr,hlt,hd,he=>by
  rw [Q4.eq_2]
  by_cases h0:j=0
  ·subst h0
   rw [Nat.pow_zero,Nat.div_one,Nat.div_one] at he
   rw [if_neg (by decide),Ut hq (by omega) (by omega),Option.bind_some]
   have h1:Ze a / Ze y=Ze q:=by rw [he,Nat.mul_comm,Nat.mul_add_div hy0,Nat.div_eq_of_lt hlt,Nat.add_zero]
   have h2:Ze a % Ze y=Ze r:=by rw [he,Nat.mul_comm,Nat.mul_add_mod,Nat.mod_eq_of_lt hlt]
   rw [h1,h2,← hr]
  ·have e:(j:Int) - 1=((j - 1:Nat):Int):=by omega
   obtain ⟨i,rfl⟩:∃ i,j=i+1:=⟨j - 1,by omega⟩
   have ei:i+1 - 1=i:=by omega
   rw [e,ei]
   have hrl:r.length≤y.length:=by
    rw [hr,← hyc];exact Vp (Nat.le_of_lt hlt)
   have hlr:Zw r:=by rw [hr];exact Xq _
   have hb:=Nat.mod_lt (Ze a / 2 ^ i) (show 0<2 by decide)
   obtain ⟨d,d1,d2,d3,d4⟩:=Zsc (N:=N) (a:=r) (c:=Ze a / 2 ^ i % 2) hlr (by omega) (by omega) (by omega)
   have h2:Ze a / 2 ^ i=2 * (Ze a / 2 ^ (i+1))+Ze a / 2 ^ i % 2:=by
    rw [Nat.pow_succ,← Nat.div_div_eq_div_mul];omega
   obtain ⟨qq,hqq⟩:=hd
   have hq1:Ze q / 2 ^ (i+1)=qq:=by rw [hqq,Nat.mul_div_cancel_left _ (Nat.two_pow_pos _)]
   have hq2:Ze q / 2 ^ i=2 * qq:=by rw [hqq,Nat.pow_succ,Nat.mul_assoc,Nat.mul_div_cancel_left _ (Nat.two_pow_pos _)]
   rw [hq1] at he
   rw [if_pos (decide_eq_true (by omega)),Zy3 ha (by omega),Option.bind_some,d1,Option.bind_some,Ut d3 (by omega) (by omega),Option.bind_some,Zme (Xq _) hy (by have:=Yz d3;omega) (by omega) (by have:=Yz d3;omega) (by omega),Option.bind_some,Xo,d4]
   rw [he] at h2
   have hkey:Ze a / 2 ^ i=2 * qq * Ze y+(2 * Ze r+Ze a / 2 ^ i % 2):=by
    have:2 * qq * Ze y=2 * (qq * Ze y):=Nat.mul_assoc _ _ _
    omega
   generalize hbit:Ze a / 2 ^ i % 2=b at *
   by_cases hge:Ze y≤2 * Ze r+b
   ·rw [if_pos (by rw [if_neg (by omega)];split <;> decide)]
    obtain ⟨x,x1,x2,x3,x4⟩:=Zyg hq (i:=i) (by omega) ⟨qq,hqq⟩
    have e1:i64.wrap (Int.tdiv (i:Int) 32)=((i / 32:Nat):Int):=by rw [Int.tdiv_eq_ediv_of_nonneg (by omega),Z6 (by omega)];omega
    have e2:Int.tmod (i:Int) 32=((i % 32:Nat):Int):=by rw [Int.tmod_eq_emod_of_nonneg (by omega)];omega
    have ll:(Zm (2 * Ze r+b)).length≤y.length+1:=by rw [← d4];exact Nat.le_trans (Yz d3) (by omega)
    rw [Zii (Xq _) hy (by omega) (by omega) (by omega) (by omega),Option.bind_some,Xo,if_neg (by omega),e1,e2,x1,Option.bind_some,Xj (by omega),x2,Option.bind_some,Int.toNat_natCast,Zfi,Z6 (by omega)]
    have ih:=Zmf N a y ha hy hy0 hly hs hla hyc hNa n i (Zm (2 * Ze r+b - Ze y)) (q.set (i / 32) ((x+2 ^ (i % 32):Nat):Int)) (by omega) (by omega) (by rw [List.length_set];omega) (by rw [List.length_set];exact hqa) (hq.set _ ⟨Int.natCast_nonneg _,Int.ofNat_lt.2 x3⟩) (by rw [Xo]) (by rw [Xo];omega) (by
     rw [x4,hqq];exact Nat.dvd_add ⟨2 * qq,by rw [Nat.pow_succ,Nat.mul_assoc]⟩ (Nat.dvd_refl _)) (by
     have:Ze (q.set (i / 32) ((x+2 ^ (i % 32):Nat):Int)) / 2 ^ i=2 * qq+1:=by
      rw [x4,Nat.add_div_right _ (Nat.two_pow_pos _),hq2]
     rw [this,Xo,hkey,Nat.add_mul,Nat.one_mul];omega)
    exact ih
   ·rw [if_neg (by rw [if_pos (by omega)];decide),Zfi,Z6 (by omega)]
    exact Zmf N a y ha hy hy0 hly hs hla hyc hNa n i (Zm (2 * Ze r+b)) q (by omega) (by omega) (by omega) hqa hq (by rw [Xo]) (by rw [Xo];omega) (by rw [hqq];exact ⟨2 * qq,by rw [Nat.pow_succ,Nat.mul_assoc]⟩) (by rw [hq2,Xo,hkey])
theorem Zsa {N:Nat} {a b:List Int} (ha:Zw a) (hb:Zw b) (hN:32 * a.length+(Zm (Ze b)).length+48<N) (hbN:b.length<N) (hs:a.length+(Zm (Ze b)).length<274877906944) (hbs:b.length≤1099511627776):
  Zfh N a b=some (if Ze b=0 then ([],[],11) else (Zm (Ze a / Ze b),Zm (Ze a % Ze b),0)):=by
 have la:=Yz ha
 rw [Zfh,Ut hb (by omega) (by omega),Option.bind_some]
 by_cases h0:Ze b=0
 ·rw [h0,Va,if_pos (by decide),if_pos rfl]
 ·have hbp:=Si h0
  have hbl:=(Ziz (Ze a)).2
  rw [if_neg (by rw [decide_eq_false (by omega)];decide),if_neg h0,Zy4 ha (by omega) (by omega),Option.bind_some]
  have e1:i64.wrap (Int.tdiv (i64.wrap (((Xw (Ze a):Nat):Int)+31)) 32)=(((Xw (Ze a)+31) / 32:Nat):Int):=by
   rw [Z6 (x:=((Xw (Ze a):Nat):Int)+31) (by omega),Int.tdiv_eq_ediv_of_nonneg (by omega),Z6 (by omega)];omega
  rw [e1,Xj (by simp only [maxLen,Int.toNat_natCast];omega),Int.toNat_natCast,Z6 (by omega)]
  have:=Zmf N a (Zm (Ze b)) ha (Xq _) (by rw [Xo];omega) (by omega) (by omega) (by omega) (by rw [Xo]) (by omega) N (Xw (Ze a)) [] (List.replicate ((Xw (Ze a)+31) / 32) 0) (by omega) (by omega) (by rw [List.length_replicate];omega) (by rw [List.length_replicate];omega) (.zeros _) (by rw [Yx,Va]) (by rw [Xo,Yx];omega) (by rw [U5];exact ⟨0,rfl⟩) (by
   rw [U5,Yx,Nat.zero_div,Nat.zero_mul]
   exact Nat.div_eq_of_lt (V0.1 (Nat.le_refl _)))
  rw [Xo] at this
  exact this
theorem Zwa {x:Nat} (h:x % 2=1):Nat.Coprime 2 x:=by
 rw [Nat.coprime_iff_gcd_eq_one,Nat.gcd_rec,h,Nat.gcd_one_left]
theorem Zo7 {x y k:Nat} (h:y % 2=1):Nat.gcd (2 ^ k * x) y=Nat.gcd x y:=by
 induction k with
 | zero=>rw [Nat.pow_zero,Nat.one_mul]
 | succ k ih=>rw [Nat.pow_succ,Nat.mul_comm (2 ^ k),Nat.mul_assoc,(Zwa h).gcd_mul_left_cancel,ih]
theorem Zw5 {x y k:Nat} (h:x % 2=1):Nat.gcd x (2 ^ k * y)=Nat.gcd x y:=by
 rw [Nat.gcd_comm,Zo7 h,Nat.gcd_comm]
theorem Zi0 {x:Nat} (h:x≠0):1≤Xw x:=by rw [Xw,if_neg h];omega
theorem Ziy (x:Nat):Xw (x / 2)=Xw x - 1:=by
 have:=Zgx x 1
 rwa [Nat.pow_one] at this
theorem Zgw {x y:Nat} (h:x≤y):Xw x≤Xw y:=V0.2 (Nat.lt_of_le_of_lt h (V0.1 (Nat.le_refl _)))
theorem Zgv {M x:Nat} (h:(Zm x).length≤M):Xw x≤32 * M:=by have:=(Ziz x).2;omega
theorem Zpo {x xo k:Nat} (h:x=2 ^ k * xo):xo≤x:=by
 rw [h]
 have:=Nat.mul_le_mul_right xo (Nat.two_pow_pos k)
 omega
section
variable {N M:Nat} (hN:100 * M+64<N) (hM:M<17179869200)
include hN hM
theorem Zsn (t:Nat):∀ (n i:Nat) (x:List Int),i≤t→t - i<n→t≤32 * M→Zw x→x.length+(t - i)≤33 * M→
  ∃ g,Zcr N (t:Int) n x (i:Int)=some g∧Zw g∧Ze g=2 ^ (t - i) * Ze x∧g.length≤x.length+(t - i)
 | 0,i,x,_,h,_,_,_=>by omega
 | n+1,i,x,hi,hn,ht,hx,hl=>by
  rw [Zcr.eq_2]
  by_cases h0:i<t
  ·obtain ⟨d,d1,d2,d3,d4⟩:=Zsc (N:=N) (a:=x) (c:=0) hx (by omega) (by omega) (by omega)
   rw [show ((0:Nat):Int)=0 from rfl] at d1
   obtain ⟨g,g1,g2,g3,g4⟩:=Zsn t n (i+1) d (by omega) (by omega) ht d3 (by omega)
   rw [show ((i+1:Nat):Int)=(i:Int)+1 by omega] at g1
   rw [if_pos (decide_eq_true (by omega)),d1,Option.bind_some,Z6 (by omega)]
   refine ⟨g,g1,g2,?_,by omega⟩
   rw [g3,d4,Nat.add_zero (2 * Ze x),← Nat.mul_assoc,← Nat.pow_succ]
   congr 2;omega
  ·have:i=t:=by omega
   subst this
   rw [if_neg (by rw [decide_eq_false (by omega)];decide)]
   exact ⟨x,rfl,hx,by simp,by omega⟩
theorem Zsm (kk:List Int→List Int→Option (List Int)) {x:Nat} (hx:(Zm x).length≤M):∀ (n y:Nat),y≠0→Xw y<n→(Zm y).length≤M→
  ∃ yo k,y=2 ^ k * yo∧yo % 2=1∧Qg N kk (Zm x) n (Zm y)=kk (Zm (min x yo)) (Zm (max x yo - min x yo))
 | 0,y,_,h,_=>by omega
 | n+1,y,h0,hn,hy=>by
  have hp:=Si h0
  rw [Qg.eq_2,if_pos (decide_eq_true (by omega)),Zkn (Xq _),Xo,Option.bind_some,Zhr]
  by_cases he:y % 2=0
  ·rw [if_pos (decide_eq_true he),Zko (Xq _) (by omega) (by omega),Option.bind_some,Xo]
   have hb:=Ziy y
   have h1:=Zi0 h0
   obtain ⟨yo,k,e1,e2,e3⟩:=Zsm kk hx n (y / 2) (by omega) (by omega) (Nat.le_trans (Vp (Nat.div_le_self _ _)) hy)
   refine ⟨yo,k+1,?_,e2,e3⟩
   rw [Nat.pow_succ,Nat.mul_comm (2 ^ k),Nat.mul_assoc,← e1];omega
  ·rw [if_neg (by rw [decide_eq_false he];decide),Zme (Xq _) (Xq _) (by omega) (by omega) (by omega) (by omega),Option.bind_some,Xo,Xo]
   refine ⟨y,0,by simp,by omega,?_⟩
   by_cases hxy:y<x
   ·rw [if_pos (by rw [if_neg (by omega),if_pos hxy];decide),Zfk,Zii (Xq _) (Xq _) (by omega) (by omega) (by omega) (by omega),Option.bind_some,Xo,Xo,if_neg (by omega),Nat.min_eq_right (by omega),Nat.max_eq_left (by omega)]
   ·rw [if_neg (by split <;> (try split) <;> simp_all <;> omega),Zfk,Zii (Xq _) (Xq _) (by omega) (by omega) (by omega) (by omega),Option.bind_some,Xo,Xo,if_neg (by omega),Nat.min_eq_left (by omega),Nat.max_eq_right (by omega)]
theorem Zsl (kk:List Int→List Int→Option (List Int)) {y:Nat}:∀ (n x:Nat),x≠0→Xw x<n→(Zm x).length≤M→
  ∃ xo k,x=2 ^ k * xo∧xo % 2=1∧Zcq N (Zm y) kk n (Zm x)=Qg N kk (Zm xo) N (Zm y)
 | 0,x,_,h,_=>by omega
 | n+1,x,h0,hn,hx=>by
  rw [Zcq.eq_2,Zkn (Xq _),Xo,Option.bind_some]
  by_cases he:x % 2=0
  ·rw [if_pos (decide_eq_true he),Zko (Xq _) (by omega) (by omega),Option.bind_some,Xo]
   have hb:=Ziy x
   have h1:=Zi0 h0
   obtain ⟨xo,k,e1,e2,e3⟩:=Zsl kk n (x / 2) (by omega) (by omega) (Nat.le_trans (Vp (Nat.div_le_self _ _)) hx)
   refine ⟨xo,k+1,?_,e2,e3⟩
   rw [Nat.pow_succ,Nat.mul_comm (2 ^ k),Nat.mul_assoc,← e1];omega
  ·rw [if_neg (by rw [decide_eq_false he];decide)]
   exact ⟨x,0,by simp,by omega,rfl⟩
theorem Zso (t:Nat) {n x y:Nat} (hx:x≠0) (hy:y≠0) (h:x % 2=1∨y % 2=1) (lx:(Zm x).length≤M) (ly:(Zm y).length≤M):
  ∃ x' y',V9 N (t:Int) (n+1) (Zm x) (Zm y)=V9 N (t:Int) n (Zm x') (Zm y')∧x' % 2=1∧y' % 2=0∧Nat.gcd x' y'=Nat.gcd x y∧(Zm x').length≤M∧(Zm y').length≤M∧(Xw x'+Xw y'≤Xw x+Xw y)∧(y % 2=0→Xw x'+Xw y'+1≤Xw x+Xw y):=by
 have hp:=Si hy
 have bx:=Zgv lx
 have by_:=Zgv ly
 obtain ⟨xo,k,x1,x2,x3⟩:=Zsl hN hM (V9 N (t:Int) n) (y:=y) N x hx (by omega) lx
 have lxo:=Zpo x1
 obtain ⟨yo,l,y1,y2,y3⟩:=Zsm hN hM (V9 N (t:Int) n) (x:=xo) (Nat.le_trans (Vp lxo) lx) N y hy (by omega) ly
 have lyo:=Zpo y1
 rw [V9.eq_2,if_pos (decide_eq_true (by omega)),x3,y3]
 have mM:max xo yo≤max x y:=by omega
 have lM:(Zm (max x y)).length≤M:=by
  rcases Nat.le_total x y with h | h
  ·rw [Nat.max_eq_right h];exact ly
  ·rw [Nat.max_eq_left h];exact lx
 have bmm:Xw (min xo yo)+Xw (max xo yo - min xo yo)≤Xw xo+Xw yo:=by
  rcases Nat.le_total xo yo with h | h
  ·rw [Nat.min_eq_left h,Nat.max_eq_right h]
   have:=Zgw (Nat.sub_le yo xo);omega
  ·rw [Nat.min_eq_right h,Nat.max_eq_left h]
   have:=Zgw (Nat.sub_le xo yo);omega
 have b1:=Zgw lxo
 have b2:=Zgw lyo
 refine ⟨_,_,rfl,by omega,by omega,?_,Nat.le_trans (Vp (by omega)) lM,Nat.le_trans (Vp (by omega)) lM,by omega,fun hev=>?_⟩
 ·have g1:Nat.gcd (min xo yo) (max xo yo - min xo yo)=Nat.gcd xo yo:=by
   rcases Nat.le_total xo yo with h | h
   ·rw [Nat.min_eq_left h,Nat.max_eq_right h,Nat.gcd_sub_self_right h]
   ·rw [Nat.min_eq_right h,Nat.max_eq_left h,Nat.gcd_sub_self_right h,Nat.gcd_comm]
  rw [g1,x1,y1]
  rcases h with h | h
  ·have hk:k=0:=by
    rcases Nat.eq_zero_or_pos k with hk | hk
    ·exact hk
    ·obtain ⟨k',rfl⟩:∃ k',k=k'+1:=⟨k - 1,by omega⟩
     rw [x1,Nat.pow_succ,Nat.mul_comm (2 ^ k'),Nat.mul_assoc] at h;omega
   subst hk
   rw [Nat.pow_zero,Nat.one_mul,Zw5 x2]
  ·have hl:l=0:=by
    rcases Nat.eq_zero_or_pos l with hk | hk
    ·exact hk
    ·obtain ⟨k',rfl⟩:∃ k',l=k'+1:=⟨l - 1,by omega⟩
     rw [y1,Nat.pow_succ,Nat.mul_comm (2 ^ k'),Nat.mul_assoc] at h;omega
   subst hl
   rw [Nat.pow_zero,Nat.one_mul,Zo7 y2]
 ·have:yo≤y / 2:=by
   rcases Nat.eq_zero_or_pos l with hl | hl
   ·subst hl;rw [Nat.pow_zero,Nat.one_mul] at y1;omega
   ·obtain ⟨k',rfl⟩:∃ k',l=k'+1:=⟨l - 1,by omega⟩
    rw [y1,Nat.pow_succ,Nat.mul_comm (2 ^ k'),Nat.mul_assoc,Nat.mul_div_cancel_left _ (by decide)]
    have:=Nat.mul_le_mul_right yo (Nat.two_pow_pos k')
    omega
  have h3:=Zgw this
  rw [Ziy] at h3
  have h4:=Zi0 hy
  omega
theorem Zsk (t:Nat) (ht:t≤32 * M):∀ (n x y:Nat),x % 2=1→y % 2=0→Xw x+Xw y<n→(Zm x).length≤M→(Zm y).length≤M→
  ∃ g,V9 N (t:Int) n (Zm x) (Zm y)=some g∧Zw g∧Ze g=2 ^ t * Nat.gcd x y∧g.length≤33 * M
 | 0,x,y,_,_,h,_,_=>by omega
 | n+1,x,y,hx,hy,hn,lx,ly=>by
  by_cases h0:y=0
  ·subst h0
   rw [V9.eq_2,Va,if_neg (by decide)]
   obtain ⟨g,g1,g2,g3,g4⟩:=Zsn hN hM t N 0 (Zm x) (by omega) (by omega) ht (Xq _) (by omega)
   rw [Xo,Nat.sub_zero] at g3
   exact ⟨g,g1,g2,by rw [g3,Nat.gcd_zero_right],by omega⟩
  ·obtain ⟨x',y',e1,e2,e3,e4,e5,e6,_,e7⟩:=Zso hN hM t (n:=n) (by omega) h0 (.inl hx) lx ly
   have:=e7 hy
   obtain ⟨g,g1,g2,g3,g4⟩:=Zsk t ht n x' y' e2 e3 (by omega) e5 e6
   exact ⟨g,by rw [e1,g1],g2,by rw [g3,e4],g4⟩
theorem Zsj:∀ (n x y t:Nat),x≠0→y≠0→Xw x<n→t+Xw x≤32 * M→(Zm x).length≤M→(Zm y).length≤M→
  ∃ g,Q5 N n (Zm x) (Zm y) (t:Int)=some g∧Zw g∧Ze g=2 ^ t * Nat.gcd x y∧g.length≤33 * M
 | 0,x,y,t,_,_,h,_,_,_=>by omega
 | n+1,x,y,t,hx,hy,hn,ht,lx,ly=>by
  have bx:=Zgv lx
  have by_:=Zgv ly
  have last:(x % 2=1∨y % 2=1)→∃ g,V9 N (t:Int) N (Zm x) (Zm y)=some g∧Zw g∧Ze g=2 ^ t * Nat.gcd x y∧g.length≤33 * M:=fun h=>by
   obtain ⟨N',hN'⟩:∃ N',N=N'+1:=⟨N - 1,by omega⟩
   obtain ⟨x',y',e1,e2,e3,e4,e5,e6,e7,_⟩:=Zso hN hM t (n:=N') hx hy h lx ly
   obtain ⟨g,g1,g2,g3,g4⟩:=Zsk hN hM t (by omega) N' x' y' e2 e3 (by omega) e5 e6
   refine ⟨g,?_,g2,by rw [g3,e4],g4⟩
   rw [← g1,← e1]
   congr 1
  rw [Q5.eq_2,Zkn (Xq _),Xo,Option.bind_some]
  by_cases hxe:x % 2=0
  ·rw [if_pos (decide_eq_true hxe),Zkn (Xq _),Xo,Option.bind_some,Zfj]
   by_cases hye:y % 2=0
   ·rw [if_pos (decide_eq_true hye),Zko (Xq _) (by omega) (by omega),Option.bind_some,Zko (Xq _) (by omega) (by omega),Option.bind_some,Xo,Xo,Z6 (by omega)]
    have hb:=Ziy x
    have h1:=Zi0 hx
    obtain ⟨g,g1,g2,g3,g4⟩:=Zsj n (x / 2) (y / 2) (t+1) (by omega) (by omega) (by omega) (by omega) (Nat.le_trans (Vp (Nat.div_le_self _ _)) lx) (Nat.le_trans (Vp (Nat.div_le_self _ _)) ly)
    rw [show ((t+1:Nat):Int)=(t:Int)+1 by omega] at g1
    refine ⟨g,g1,g2,?_,g4⟩
    rw [g3,Nat.pow_succ,Nat.mul_assoc,← Nat.gcd_mul_left]
    congr 2 <;> omega
   ·rw [if_neg (by rw [decide_eq_false hye];decide)]
    exact last (.inr (by omega))
  ·rw [if_neg (by rw [decide_eq_false hxe];decide),Zfj,if_neg (by decide)]
   exact last (.inl (by omega))
end
theorem Zzf {N M:Nat} {a b:List Int} (ha:Zw a) (hb:Zw b) (hla:a.length≤M) (hlb:b.length≤M) (hN:100 * M+64<N) (hM:M<17179869200):∃ g,Zhq N a b=some g∧Zw g∧Ze g=Nat.gcd (Ze a) (Ze b)∧g.length≤33 * M:=by
 have la:=Yz ha
 have lb:=Yz hb
 rw [Zhq,Ut ha (by omega) (by omega),Option.bind_some,Ut hb (by omega) (by omega),Option.bind_some]
 by_cases h1:Ze a=0
 ·rw [h1,Va,if_pos (by decide),Nat.gcd_zero_left]
  exact ⟨_,rfl,Xq _,Xo _,by omega⟩
 ·have p1:=Si h1
  rw [if_neg (by rw [decide_eq_false (by omega)];decide)]
  by_cases h2:Ze b=0
  ·rw [h2,Va,if_pos (by decide),Nat.gcd_zero_right]
   exact ⟨_,rfl,Xq _,Xo _,by omega⟩
  ·have p2:=Si h2
   have bx:=Zgv (x:=Ze a) (by omega)
   rw [if_neg (by rw [decide_eq_false (by omega)];decide)]
   obtain ⟨g,g1,g2,g3,g4⟩:=Zsj hN hM N (Ze a) (Ze b) 0 h1 h2 (by omega) (by omega) (by omega) (by omega)
   exact ⟨g,g1,g2,by rw [g3];simp,g4⟩

end Go.Proofs.YtbmjpjhbankpoaaGreat
