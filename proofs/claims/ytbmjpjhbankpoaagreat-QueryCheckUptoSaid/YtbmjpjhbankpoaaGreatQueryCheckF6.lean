/-
  What functions of the program compute, as plain Lean functions (m_..), and proofs that they compute it (c_..). Printed by a program of the author; no conditions.
-/
import Derived.Test.YtbmjpjhbankpoaaGreatQueryCheckBFloat
import Derived.Test.YtbmjpjhbankpoaaGreatProg
import Derived.Test.YtbmjpjhbankpoaaGreatQueryCheckBBulk
import Derived.Test.YtbmjpjhbankpoaaGreatQueryCheckBEqs
import Derived.Test.YtbmjpjhbankpoaaGreatQueryCheckBView
import Derived.Test.YtbmjpjhbankpoaaGreatQueryCheckF5
set_option linter.unusedVariables false
set_option maxRecDepth 100000
set_option maxHeartbeats 2000000
namespace Go.Proofs.YtbmjpjhbankpoaaGreat
open Go Go.RowKit
open Go.IntKind (i8 i16 i32 i64 u8 u16 u32 u64)
open Go.Proofs.Tryz

theorem Zwi:Y2 Tryz.prog 109 2 32:=⟨Tryz.t109,_,rfl,rfl,rfl,rfl,rfl⟩
def Zcm (aa:Int) (ab:List (ByteArray×Int)) (kk_L3:(Int→(List (ByteArray×Int))→Option Int)) (ac:ByteArray) (ad:Bool):Option Int:=
  if ad=true then (some 51) else ((some (Vm ab ac 1)).bind fun ae=>kk_L3 (i64.wrap (aa - 1)) ae)
def Qf (ad:List (ByteArray×Int)):List ByteArray→Int→(List (ByteArray×Int))→Option Int
  | [],aa,ab=>if (!decide (aa=0))=true then (some 51) else (some 0)
  | ac :: ae,aa,ab=>if (!((X4 ad ac).isSome))=true then (Zcm aa ab (Qf ad ae) ac true) else (Zcm aa ab (Qf ad ae) ac (decide (0<((X4 ab ac).getD 0))))
termination_by structural x=>x
def Zjq (aa:Nat) (kk_L2:(Nat→(List (ByteArray×Int))→Option Int)) (ab:List (ByteArray×Int)):Option Int:=
  kk_L2 (aa+1) ab
def Zjr (aa:Nat) (ab:List (ByteArray×Int)) (kk_L2:(Nat→(List (ByteArray×Int))→Option Int)) (ac:(ByteArray×ByteArray)):Option Int:=
  (some (Vm ab ac.1 1)).bind fun ad=>Zjq aa kk_L2 ad
def Tw (aa:Nat) (ab:List (ByteArray×Int)) (kk_L2:(Nat→(List (ByteArray×Int))→Option Int)) (ac:(ByteArray×ByteArray)) (ad:Bool):Option Int:=
  if ad=true then (some 50) else (Zjr aa ab kk_L2 ac)
def Zfe (ae:(ByteArray×List ByteArray×(List (List ByteArray))×(List (List Int))×(List (List ((Bool×List Int)×List Int))))) (ad:List (ByteArray×Int)) (ac:Nat) (ab:List (ByteArray×Int)) (kk_L2:(Nat→(List (ByteArray×Int))→Option Int)) (aa:(ByteArray×ByteArray)) (af:Bool):Option Int:=
  if (!((X4 ad aa.1).isSome))=true then (Tw ac ab kk_L2 aa true) else (if (decide (0<((X4 ab aa.1).getD 0)))=true then (Tw ac ab kk_L2 aa true) else (if (!af)=true then ((Zv ae.2.2.1 ((X4 ad aa.1).getD 0)).bind fun ag=>(Zgg ag aa.2).bind fun ah=>Tw ac ab kk_L2 aa (!ah)) else (Tw ac ab kk_L2 aa false)))
def Uj (aa:(ByteArray×List ByteArray×(List (List ByteArray))×(List (List Int))×(List (List ((Bool×List Int)×List Int))))) (ab:(Int×(List (ByteArray×ByteArray))×(List (ByteArray×ByteArray))×Int×List ByteArray×(Bool×Bool))) (ac:List (ByteArray×Int)):List (ByteArray×ByteArray)→Nat→(List (ByteArray×Int))→Option Int
  | [],ae,ad=>if (!decide (ab.2.2.2.1=3))=true then (some 0) else (Qf ac ab.2.2.2.2.1 (i64.wrap ((aa.2.1.length:Int) - (ad.length:Int))) ad)
  | af :: ag,ae,ad=>if (decide (ab.1=3))=true then (Zfe aa ac ae ad (Uj aa ab ac ag) af (decide ((ae:Int)=0))) else (Zfe aa ac ae ad (Uj aa ab ac ag) af false)
termination_by structural x=>x
def Qe (ae:(ByteArray×List ByteArray×(List (List ByteArray))×(List (List Int))×(List (List ((Bool×List Int)×List Int))))) (aa:(Int×(List (ByteArray×ByteArray))×(List (ByteArray×ByteArray))×Int×List ByteArray×(Bool×Bool))):List ByteArray→Nat→(List (ByteArray×Int))→Option Int
  | [],ab,ac=>(Zj3 aa.2.1).bind fun ad=>Xb ((ad.length+aa.2.2.1.length) * 32≤140737488355328∧ad.length+aa.2.2.1.length≤maxLen) (Uj ae aa ac (ad++aa.2.2.1) 0 ([]:List (ByteArray×Int)))
  | af :: ag,ab,ac=>(some (Vm ac af (ab:Int))).bind fun ah=>(Qe ae aa ag) (ab+1) ah
termination_by structural x=>x
def Zjp (aa:(ByteArray×List ByteArray×(List (List ByteArray))×(List (List Int))×(List (List ((Bool×List Int)×List Int))))) (ab:(Int×(List (ByteArray×ByteArray))×(List (ByteArray×ByteArray))×Int×List ByteArray×(Bool×Bool))):Option Int:=
  Qe aa ab aa.2.1 0 ([]:List (ByteArray×Int))
def Sk (aa:(ByteArray×List ByteArray×(List (List ByteArray))×(List (List Int))×(List (List ((Bool×List Int)×List Int))))) (ab:(Int×(List (ByteArray×ByteArray))×(List (ByteArray×ByteArray))×Int×List ByteArray×(Bool×Bool))) (ac:Bool):Option Int:=
  if ac=true then (some 50) else (Zjp aa ab)
def Zfd (N:Nat) (ab:(ByteArray×List ByteArray×(List (List ByteArray))×(List (List Int))×(List (List ((Bool×List Int)×List Int))))) (aa:(Int×(List (ByteArray×ByteArray))×(List (ByteArray×ByteArray))×Int×List ByteArray×(Bool×Bool))):Option Int:=
  (Zev N (ab.1,ab.2.1,ab.2.2.1,ab.2.2.2.1,ab.2.2.2.2)).bind fun ac=>if (!decide (ac=0))=true then (some ac) else (if (!decide (aa.2.2.2.1=1))=true then (if (!decide (aa.2.2.2.1=2))=true then (if (!decide (aa.2.2.2.1=3))=true then (Sk ab aa true) else ((Za8 (aa.1,aa.2.1,aa.2.2.1,aa.2.2.2.1,aa.2.2.2.2.1,(aa.2.2.2.2.2.1,aa.2.2.2.2.2.2))).bind fun ad=>Sk ab aa (!ad))) else ((Za8 (aa.1,aa.2.1,aa.2.2.1,aa.2.2.2.1,aa.2.2.2.2.1,(aa.2.2.2.2.2.1,aa.2.2.2.2.2.2))).bind fun ae=>Sk ab aa (!ae))) else ((Za8 (aa.1,aa.2.1,aa.2.2.1,aa.2.2.2.1,aa.2.2.2.2.1,(aa.2.2.2.2.2.1,aa.2.2.2.2.2.2))).bind fun af=>Sk ab aa (!af)))
theorem Zu0 (N:Nat) (col:Zh) (w0:World) (bc:Option Addr) (bd:Nat) (bi:Option Addr) (bj:Nat) (bk:Option Addr) (bm:Nat) (bn:Option Addr) (bo:Nat) (ac:(ByteArray×List ByteArray×(List (List ByteArray))×(List (List Int))×(List (List ((Bool×List Int)×List Int))))) (a4:Option Addr) (a5:Nat) (a9:Option Addr) (ba:Nat) (az:Option Addr) (a0:Nat) (aa:(Int×(List (ByteArray×ByteArray))×(List (ByteArray×ByteArray))×Int×List ByteArray×(Bool×Bool))) (cc:Sl Za.str col w0 bc bd ac.2.1) (cn:Sl (Za.slice Za.str) col w0 bi bj ac.2.2.1) (dh:Sl (Za.slice (Za.int .i64)) col w0 bk bm ac.2.2.2.1) (di:Sl (Za.slice (Za.pair (Za.pair Za.bool (Za.slice (Za.int .u32))) (Za.slice (Za.int .u32)))) col w0 bn bo ac.2.2.2.2) (cd:Sl (Za.pair Za.str Za.str) col w0 a4 a5 aa.2.1) (ce:Sl (Za.pair Za.str Za.str) col w0 a9 ba aa.2.2.1) (b3:Sl Za.str col w0 az a0 aa.2.2.2.2.1) (r:Int) (hm:Zfd N ac aa=some r):
    Calls Tryz.prog 17 #[(.agg #[.string ac.1,.slice bc ac.2.1.length bd,.slice bi ac.2.2.1.length bj,.slice bk ac.2.2.2.1.length bm,.slice bn ac.2.2.2.2.length bo]),(.agg #[.int .i8 aa.1,.slice a4 aa.2.1.length a5,.slice a9 aa.2.2.1.length ba,.int .i8 aa.2.2.2.1,.slice az aa.2.2.2.2.1.length a0,.bool aa.2.2.2.2.2.1,.bool aa.2.2.2.2.2.2])] w0 (fun e w'=>e= .returned ((.int .i64 r))∧Below w0.heap.size w0 w'):=by
 refine Xv 4 (m:=151) func17 rfl rfl rfl rfl rfl ?_;rw [Zfd.eq_1] at hm;have ab:=St.start col w0;refine Zb<|Zd<|X3 (col:=(Zo col)) 1 rfl ?_;intro ap f2 eg eh ae;refine X3 (col:=eg) 2 rfl ?_;intro ak ei av d1 ad;refine Zj rfl<|Zc<|Zb<|Zb<|Zd ?_;replace ae:=ae.gr d1;refine lV _ (Ye isAgg27 sizeOf27 ae) ?_;obtain ⟨ej,ek,hm⟩:=bZ hm;replace cc:=cc.keep (Zp.start col w0);replace cn:=cn.keep (Zp.start col w0);replace dh:=dh.keep (Zp.start col w0);replace di:=di.keep (Zp.start col w0);replace ab:=(ab.grow eh).grow d1;refine lc rfl rfl (Z7 call67 rfl) (Zun N av _ bc bd bi bj bk bm bn bo (ac.1,ac.2.1,ac.2.2.1,ac.2.2.2.1,ac.2.2.2.2) (cc.ks ab) (cn.ks ab) (dh.ks ab) (di.ks ab) ej ek) ?_;rintro _ c7 ⟨rfl,co⟩;refine ⟨_,rfl,?_⟩;replace co:Zf av ei av c7:=.of_below co;refine Zj rfl<|Zc<|Zb<|Zd<|Zg rfl<|lV _ (Yk _ _ rfl rfl)<|Zc ?_;replace cd:=cd.keep (Zp.start col w0);replace ce:=ce.keep (Zp.start col w0);replace b3:=b3.keep (Zp.start col w0);replace ae:=ae.gr co;replace ad:=ad.gr co;replace ab:=ab.grow co;refine Zy _ rfl (fun hb=>?_) (fun hb=>?_)
 ·rw [if_pos hb] at hm;refine Zb<|Zd<|Zg rfl<|Zj rfl<|Zc<|Zq ?_;cases hm;exact ⟨rfl,rfl,ab.below⟩
 rw [if_neg (Zz hb)] at hm;refine Zr<|Zb ?_;refine Wp.cut (fun f c8=>∃ (cp:Zh),Zjp ac aa=some r∧St w0 (Zo col) cp c8∧Zt 27 1 cp c8 ap #[.string ac.1,.slice bc ac.2.1.length bd,.slice bi ac.2.2.1.length bj,.slice bk ac.2.2.2.1.length bm,.slice bn ac.2.2.2.2.length bo]∧Zt 32 2 cp c8 ak #[.int .i8 aa.1,.slice a4 aa.2.1.length a5,.slice a9 aa.2.2.1.length ba,.int .i8 aa.2.2.2.1,.slice az aa.2.2.2.2.1.length a0,.bool aa.2.2.2.2.2.1,.bool aa.2.2.2.2.2.2]∧f 2=(.pointer (some ⟨ap,0,none⟩))∧f 3=(.pointer (some ⟨ak,0,none⟩))∧f 1000000=(enc [])) ?_ ?_
 ·intro f c8 hJ;obtain ⟨cp,hm,ab,ae,ad,a1,a2,aq⟩:=hJ;rw [Zjp.eq_1] at hm;refine .lD 2 a1<|.lD 3 a2<|.lD 1000000 aq<|Zb<|Zd<|Z9 ap 1 underlying27 rfl sizeOf22 isAgg22 ae rfl<|lV _ (Zs underlying22 rfl)<|Zpm (col:=cp) (fk:=Value.string) (fv:=(Value.int .i64)) 3 rfl underlying111 rfl ?_;intro el f3 em dj en;refine Zjf rfl<|Zc<|Zb<|Zb<|Zd<|lF ap 1 underlying27 rfl sizeOf22 ?_;replace ae:=ae.gr dj;refine lV _ (Zn isAgg22 rfl ((ae.atN).nth (q:=1) rfl))<|lV _ (Zs underlying22 rfl)<|Zg rfl<|Zc<|Z0 ?_;replace ad:=ad.gr dj;replace ab:=ab.grow dj;refine Xi (fun n f cq=>∃ (b7:Zh) (bu:Nat) (ar:Nat) (ag:List (ByteArray×Int)) (cr:List ByteArray),n=cr.length∧ac.2.1.drop bu=cr∧Qe ac aa cr bu ag=some r∧St w0 (Zo col) b7 cq∧Zt 27 1 b7 cq ap #[.string ac.1,.slice bc ac.2.1.length bd,.slice bi ac.2.2.1.length bj,.slice bk ac.2.2.2.1.length bm,.slice bn ac.2.2.2.2.length bo]∧Zt 32 2 b7 cq ak #[.int .i8 aa.1,.slice a4 aa.2.1.length a5,.slice a9 aa.2.2.1.length ba,.int .i8 aa.2.2.2.1,.slice az aa.2.2.2.2.1.length a0,.bool aa.2.2.2.2.2.1,.bool aa.2.2.2.2.2.2]∧Ym Value.string (Value.int .i64) 3 b7 cq ar ag∧f 50=(.int .i64 bu)∧f 2=(.pointer (some ⟨ap,0,none⟩))∧f 3=(.pointer (some ⟨ak,0,none⟩))∧f 48=(.slice bc ac.2.1.length bd)∧f 49=(.int .i64 ac.2.1.length)∧f 6=(.map (some ar))∧f 1000000=(enc [])) ac.2.1.length ⟨em,0,el,([]:List (ByteArray×Int)),ac.2.1,rfl,rfl,hm,ab,ae,ad,en,rfl,rfl,rfl,rfl,rfl,rfl,rfl⟩ ?_;clear hm;intro n f cq hI;obtain ⟨b7,bu,ar,ag,cr,hn,hl,hm,ab,ae,ad,af,eo,a1,a2,ep,eq,a3,aq⟩:=hI;subst hn;refine .lD 50 eo<|.lD 2 a1<|.lD 3 a2<|.lD 48 ep<|.lD 49 eq<|.lD 6 a3<|.lD 1000000 aq ?_
  cases cr with
  | nil=>
   have hk:¬ ((bu:Int)<(ac.2.1.length:Int)):=by have:=List.drop_eq_nil_iff.1 hl;omega
   have hkb:=decide_eq_false hk;rw [Qe.eq_1] at hm;refine Zb<|Zd<|lV _ (Z4 _ _ rfl rfl)<|Zc<|Zb<|Wn (congrArg Value.bool hkb) ?_;refine Xl (Xk ?_);refine Zb<|Zd<|Zpl (col:=b7) (fk:=Value.string) (fv:=(Value.int .i64)) 4 rfl ?_;intro er es cf c9 b8;refine Zjf rfl<|Zc<|Zb<|Zb<|Vn (col:=cf) [(0,1),(1,0),(3,1),(4,0),(7,1),(2,3),(5,2),(6,1)] (by kernel_rfl) (by kernel_rfl)<|xu (v:=(.pointer ((some (⟨ak,0,none⟩:Addr)).map (·.add 1)))) rfl rfl (fun _=>Xn (sz:=1) (off:=1) underlying32 rfl sizeOf29 (by decide) rfl rfl ⟨_,_,rfl⟩) ?_;replace ad:=ad.gr c9;refine xv rfl rfl (fun _ hC=>Zn isAgg29 rfl (((ad.atN).nth (q:=1) rfl).gr (hC.bl cf))) ?_;refine xu (v:=(.pointer ((some (⟨ak,0,none⟩:Addr)).map (·.add 2)))) rfl rfl (fun _=>Xn (sz:=1) (off:=2) underlying32 rfl sizeOf29 (by decide) rfl rfl ⟨_,_,rfl⟩) ?_;refine xv rfl rfl (fun _ hC=>Zn isAgg29 rfl (((ad.atN).nth (q:=2) rfl).gr (hC.bl cf))) ?_;refine xu rfl rfl (fun _=>Xp rfl) ?_;refine xe rfl rfl ?_;intro et hC0;have hC:Zf cf es cf et:=.of_below hC0.below;obtain ⟨an,eu,hm⟩:=bZ hm;replace ab:=(ab.grow c9).grow hC;refine lc rfl rfl (Z7 call77 rfl) (Zvw 5 cf _ a4 a5 aa.2.1 (cd.ks ab) an eu) ?_;rintro _ d2 ⟨cs,f4,f5,rfl,cg,dk⟩;refine ⟨_,rfl,?_⟩;refine Zc ⟨fun w'=>Zf cs d2 cs w',Zf.refl _ _,fun _ _ h=>Yh hC0 cg h,?_⟩;refine xe rfl rfl ?_;intro d3 hC0;replace af:=((af.gr c9).gr hC).gr cg;replace ae:=((ae.gr c9).gr hC).gr cg;replace b8:=(b8.gr hC).gr cg;replace ad:=(ad.gr hC).gr cg;have hC:Zf cs d2 cs d3:=.of_below hC0.below;obtain ⟨d4,hm⟩:=Xd hm;replace ab:=(ab.grow cg).grow hC;replace dk:=dk.gr hC;refine Wr (col:=cs) (w:=d3) (r:=(Za.pair Za.str Za.str)) (c:=5) (c2:=5) (xs:=an) (ys:=aa.2.2.1) dk (ce.ks ab).srcC rfl underlying29 Zwi rfl rfl rfl d4.1 d4.2 (by decide) ?_;intro bq br d5 ct cu ah;refine Zc ⟨fun w'=>Zf ct d5 ct w',Zf.refl _ _,fun h=>absurd h (by decide),?_⟩;refine xu rfl rfl (fun _=>Zs underlying29 rfl) ?_;refine Ve ?_;replace af:=(af.gr hC).kpp cu;replace b8:=(b8.gr hC).kpp cu;replace ae:=(ae.gr hC).kpp cu;replace ad:=(ad.gr hC).kpp cu;intro ev hC;replace hC:Zf ct d5 ct ev:=.of_below hC.below;refine Z0 ?_;replace ab:=(ab.kpp cu).grow hC;replace af:=af.gr hC;replace b8:=b8.gr hC;replace ah:=ah.gr hC;replace ae:=ae.gr hC;replace ad:=ad.gr hC
   refine Xi (fun n f b9=>∃ (bv:Zh) (au:Nat) (bp:Nat) (aw:List (ByteArray×Int)) (cv:List (ByteArray×ByteArray)),n=cv.length∧(an++aa.2.2.1).drop au=cv∧Uj ac aa ag cv au aw=some r∧St w0 (Zo col) bv b9∧Zt 27 1 bv b9 ap #[.string ac.1,.slice bc ac.2.1.length bd,.slice bi ac.2.2.1.length bj,.slice bk ac.2.2.2.1.length bm,.slice bn ac.2.2.2.2.length bo]∧Zt 32 2 bv b9 ak #[.int .i8 aa.1,.slice a4 aa.2.1.length a5,.slice a9 aa.2.2.1.length ba,.int .i8 aa.2.2.2.1,.slice az aa.2.2.2.2.1.length a0,.bool aa.2.2.2.2.2.1,.bool aa.2.2.2.2.2.2]∧Ym Value.string (Value.int .i64) 3 bv b9 ar ag∧Zl (Za.pair Za.str Za.str) 109 5 bv b9 bq br (an++aa.2.2.1)∧Ym Value.string (Value.int .i64) 4 bv b9 bp aw∧f 67=(.int .i64 au)∧f 2=(.pointer (some ⟨ap,0,none⟩))∧f 3=(.pointer (some ⟨ak,0,none⟩))∧f 6=(.map (some ar))∧f 65=(.slice bq ((an++aa.2.2.1).length) br)∧f 66=(.int .i64 ((an++aa.2.2.1).length:Int))∧f 9=(.map (some bp))∧f 1000000=(enc [])) (an++aa.2.2.1).length ⟨ct,0,er,([]:List (ByteArray×Int)),(an++aa.2.2.1),rfl,rfl,hm,ab,ae,ad,af,ah,b8,rfl,rfl,rfl,rfl,rfl,rfl,rfl,rfl⟩ ?_;clear hm;intro n f b9 hI;obtain ⟨bv,au,bp,aw,cv,hn,hl,hm,ab,ae,ad,af,ah,al,bw,a1,a2,a3,bx,bz,bb,aq⟩:=hI;subst hn;refine .lD 67 bw<|.lD 2 a1<|.lD 3 a2<|.lD 6 a3<|.lD 65 bx<|.lD 66 bz<|.lD 9 bb<|.lD 1000000 aq ?_
   cases cv with
   | nil=>
    have hk:¬ ((au:Int)<((an++aa.2.2.1).length:Int)):=by have:=List.drop_eq_nil_iff.1 hl;omega
    have hkb:=decide_eq_false hk;rw [Uj.eq_1] at hm;refine Zb<|Zd<|lV _ (Z4 _ _ rfl rfl)<|Zc<|Zb<|Wn (congrArg Value.bool hkb) ?_;refine Xl (Xk ?_);refine Zb<|Zb<|Zd<|Z9 ak 3 underlying32 rfl sizeOf28 isAgg28 ad rfl<|lV _ (Yk _ _ rfl rfl)<|Zc ?_;refine Zy _ rfl (fun hb=>?_) (fun hb=>?_)
    ·rw [if_pos hb] at hm;refine Zb<|Zd<|Zj rfl<|Zc<|Zq ?_;cases hm;exact ⟨rfl,rfl,ab.below⟩
    rw [if_neg (Zz hb)] at hm;refine Zr<|Zb<|Zd<|Z9 ap 1 underlying27 rfl sizeOf22 isAgg22 ae rfl<|lV _ (Zs underlying22 rfl)<|Sh rfl<|lV (.int .i64 aw.length) (Zyv al underlying111 rfl)<|lV _ (Yb _ _ rfl rfl)<|Zj rfl<|Zc<|Zb<|Zb<|Zd<|Z9 ak 4 underlying32 rfl sizeOf22 isAgg22 ad rfl<|lV _ (Zs underlying22 rfl)<|Zg rfl<|Zc<|Z0<|Xi (fun n f da=>∃ (ch:Zh) (ca:Nat) (ci:Int) (cj:Nat) (b0:List (ByteArray×Int)) (cw:List ByteArray),n=cw.length∧aa.2.2.2.2.1.drop ca=cw∧Qf ag cw ci b0=some r∧St w0 (Zo col) ch da∧Ym Value.string (Value.int .i64) 3 ch da ar ag∧Ym Value.string (Value.int .i64) 4 ch da cj b0∧f 126=(.int .i64 ca)∧f 124=(.slice az aa.2.2.2.2.1.length a0)∧f 125=(.int .i64 aa.2.2.2.2.1.length)∧f 15=(.int .i64 ci)∧f 6=(.map (some ar))∧f 9=(.map (some cj))∧f 1000000=(enc [])) aa.2.2.2.2.1.length ⟨bv,0,(i64.wrap ((ac.2.1.length:Int) - (aw.length:Int))),bp,aw,aa.2.2.2.2.1,rfl,rfl,hm,ab,af,al,rfl,rfl,rfl,rfl,rfl,rfl,rfl⟩ ?_;clear hm;intro n f da hI;obtain ⟨ch,ca,ci,cj,b0,cw,hn,hl,hm,ab,af,cx,dl,dm,dn,dp,a3,bb,aq⟩:=hI;subst hn;refine .lD 126 dl<|.lD 124 dm<|.lD 125 dn<|.lD 15 dp<|.lD 6 a3<|.lD 9 bb<|.lD 1000000 aq ?_
    cases cw with
    | nil=>
     have hk:¬ ((ca:Int)<(aa.2.2.2.2.1.length:Int)):=by have:=List.drop_eq_nil_iff.1 hl;omega
     have hkb:=decide_eq_false hk;rw [Qf.eq_1] at hm;refine Zb<|Zd<|lV _ (Z4 _ _ rfl rfl)<|Zc<|Zb<|Wn (congrArg Value.bool hkb) ?_;refine Xl (Xk ?_);refine Zb<|Zb<|Zd<|Zg rfl<|lV _ (Yk _ _ rfl rfl)<|Zc ?_;refine Zy _ rfl (fun hb=>?_) (fun hb=>?_)
     ·rw [if_pos hb] at hm;refine Zb<|Zd<|Zj rfl<|Zc<|Zq ?_;cases hm;exact ⟨rfl,rfl,ab.below⟩
     rw [if_neg (Zz hb)] at hm;refine Zr<|Zb<|Zd<|Zj rfl<|Zc<|Zq ?_;cases hm;exact ⟨rfl,rfl,ab.below⟩
    | cons a6 dq=>
     obtain ⟨a7,ew,ex⟩:=Wv hl;have hk:(ca:Int)<(aa.2.2.2.2.1.length:Int):=by omega
     have hkb:=decide_eq_true hk;rw [Qf.eq_2] at hm;refine Zb<|Zd<|lV _ (Z4 _ _ rfl rfl)<|Zc<|Zb<|Wo (congrArg Value.bool hkb)<|Zr<|Zb<|Z0<|Zb<|Zd ?_;refine lV _ (Zx underlying22 sizeOf9 rfl rfl (Zi a7).1 (Zi a7).2.1 ((b3.ks ab).addr a7)) ?_;refine lV _ (Zn isAgg9 rfl ((b3.ks ab).atStr a7))<|Zjg rfl<|Zc<|Zb<|Zb<|Zd<|Sh rfl<|Td rfl<|lV (.tuple #[.int .i64 ((X4 ag a6).getD 0),.bool ((X4 ag a6).isSome)]) (Zrx Vt.str af underlying111 underlying9 zeroValue3 rfl rfl)<|lM (.tuple #[.int .i64 ((X4 ag a6).getD 0),.bool ((X4 ag a6).isSome)])<|lV (.int .i64 ((X4 ag a6).getD 0)) (Y4 rfl rfl)<|lV (.bool ((X4 ag a6).isSome)) (Y4 rfl rfl)<|Zj rfl<|Xc rfl<|Zc<|Zb ?_;refine Wp.cut (fun f db=>∃ (cy:Zh) (dr:Bool),Zcm ci b0 (Qf ag dq) a6 dr=some r∧St w0 (Zo col) cy db∧Ym Value.string (Value.int .i64) 3 cy db ar ag∧Ym Value.string (Value.int .i64) 4 cy db cj b0∧f 124=(.slice az aa.2.2.2.2.1.length a0)∧f 125=(.int .i64 aa.2.2.2.2.1.length)∧f 126=(.int .i64 ca)∧f 143=(.bool dr)∧f 15=(.int .i64 ci)∧f 17=(.string a6)∧f 6=(.map (some ar))∧f 9=(.map (some cj))∧f 1000000=(enc [])) ?_ ?_
     ·intro f db hJ;obtain ⟨cy,dr,hm,ab,af,cx,dm,dn,dl,ey,dp,ez,a3,bb,aq⟩:=hJ;rw [Zcm.eq_1] at hm;refine .lD 124 dm<|.lD 125 dn<|.lD 126 dl<|.lD 143 ey<|.lD 15 dp<|.lD 17 ez<|.lD 6 a3<|.lD 9 bb<|.lD 1000000 aq ?_;refine Zy _ rfl (fun hb=>?_) (fun hb=>?_)
      ·rw [if_pos hb] at hm;refine Zb<|Zd<|Zj rfl<|Zc<|Zq ?_;cases hm;exact ⟨rfl,rfl,ab.below⟩
      rw [if_neg (Zz hb)] at hm;refine Zr<|Zb<|Zd<|Sh rfl<|Td rfl ?_;obtain ⟨d6,ds,hm⟩:=bZ hm;have ds:d6=Vm b0 a6 1:=(Option.some.inj ds).symm;refine Zg4 (k:=a6) (v:=1) Vt.str cx underlying111 underlying9 rfl rfl rfl ?_;intro f6 d7 e0 d8;rw [← ds] at d8;refine Zc<|Zd<|Zg rfl<|lV _ (Yb _ _ rfl rfl)<|Zj rfl<|Zc<|Zd<|lV _ (Z5 _ _ rfl rfl)<|Zg rfl<|Zc ?_;replace af:=af.kp d7;replace ab:=ab.kp d7 e0;exact ⟨dq.length,by simp,⟨cy,(ca+1),(i64.wrap (ci - 1)),cj,d6,dq,rfl,ew,hm,ab,af,d8,(congrArg (Value.int .i64) (Wy (Nat.lt_of_lt_of_le ex (b3.ks ab).1.1))),rfl,rfl,rfl,rfl,rfl,rfl⟩⟩
     refine Zd<|Xf rfl<|lV _ (V3 _ rfl)<|Xf rfl ?_;by_cases a8:(!((X4 ag a6).isSome))=true
     ·rw [if_pos a8] at hm;refine lP 138 rfl (by rw [a8];rfl)<|lP 138 rfl (by rw [a8];rfl)<|lP 138 rfl (by rw [a8];rfl)<|lP 138 rfl (by rw [a8];rfl)<|lV (.bool true) (Xm (congrArg Value.bool a8) rfl)<|Zc ?_;exact ⟨ch,true,hm,ab,af,cx,rfl,rfl,rfl,rfl,rfl,rfl,rfl,rfl,rfl⟩
     rw [if_neg a8] at hm;replace a8:=Bool.eq_false_iff.2 a8;refine lG 138 rfl (by rw [a8];rfl)<|Sh rfl<|lG 138 rfl (by rw [a8];rfl)<|Td rfl<|lG 138 rfl (by rw [a8];rfl)<|lV (.int .i64 ((X4 b0 a6).getD 0)) (Zkj Vt.str cx underlying111 underlying9 zeroValue3 rfl rfl)<|lG 138 rfl (by rw [a8];rfl)<|lV _ (Wa _ _ rfl rfl)<|lV (.bool (decide (0<((X4 b0 a6).getD 0)))) (Xr (congrArg Value.bool a8) rfl)<|Zc ?_;exact ⟨ch,(decide (0<((X4 b0 a6).getD 0))),hm,ab,af,cx,rfl,rfl,rfl,rfl,rfl,rfl,rfl,rfl,rfl⟩
   | cons ai ck=>
    obtain ⟨a7,e1,e2⟩:=Wv hl;have hk:(au:Int)<((an++aa.2.2.1).length:Int):=by omega
    have hkb:=decide_eq_true hk;rw [Uj.eq_2] at hm;refine Zb<|Zd<|lV _ (Z4 _ _ rfl rfl)<|Zc<|Zb<|Wo (congrArg Value.bool hkb)<|Zr<|Zb ?_;refine Wp.cut (fun f cb=>∃ (b4:Zh) (dc:Nat) (dd:List (ByteArray×Int)),Zjq au (Uj ac aa ag ck) dd=some r∧St w0 (Zo col) b4 cb∧Zt 27 1 b4 cb ap #[.string ac.1,.slice bc ac.2.1.length bd,.slice bi ac.2.2.1.length bj,.slice bk ac.2.2.2.1.length bm,.slice bn ac.2.2.2.2.length bo]∧Zt 32 2 b4 cb ak #[.int .i8 aa.1,.slice a4 aa.2.1.length a5,.slice a9 aa.2.2.1.length ba,.int .i8 aa.2.2.2.1,.slice az aa.2.2.2.2.1.length a0,.bool aa.2.2.2.2.2.1,.bool aa.2.2.2.2.2.2]∧Ym Value.string (Value.int .i64) 3 b4 cb ar ag∧Zl (Za.pair Za.str Za.str) 109 5 b4 cb bq br (an++aa.2.2.1)∧Ym Value.string (Value.int .i64) 4 b4 cb dc dd∧f 2=(.pointer (some ⟨ap,0,none⟩))∧f 3=(.pointer (some ⟨ak,0,none⟩))∧f 6=(.map (some ar))∧f 65=(.slice bq ((an++aa.2.2.1).length) br)∧f 66=(.int .i64 ((an++aa.2.2.1).length:Int))∧f 67=(.int .i64 au)∧f 9=(.map (some dc))∧f 1000000=(enc [])) ?_ ?_
    ·intro f cb hJ;obtain ⟨b4,dc,dd,hm,ab,ae,ad,af,ah,e3,a1,a2,a3,bx,bz,bw,bb,aq⟩:=hJ;rw [Zjq.eq_1] at hm;refine .lD 2 a1<|.lD 3 a2<|.lD 6 a3<|.lD 65 bx<|.lD 66 bz<|.lD 67 bw<|.lD 9 bb<|.lD 1000000 aq<|Zd<|lV _ (Z5 _ _ rfl rfl)<|Zg rfl<|Zc ?_;exact ⟨ck.length,by simp,⟨b4,(au+1),dc,dd,ck,rfl,e1,hm,ab,ae,ad,af,ah,e3,(congrArg (Value.int .i64) (Wy (Nat.lt_of_lt_of_le e2 ah.len))),rfl,rfl,rfl,rfl,rfl,rfl,rfl⟩⟩
    refine Z0<|Zb<|Zd<|Zg rfl ?_;refine lV _ (Zx underlying29 sizeOf109 rfl rfl (Zi a7).1 (Zi a7).2.1 (ah.addr a7)) ?_;obtain ⟨_,e4,e5⟩:=ah.atN a7;obtain ⟨_,_,rfl,e6,e7⟩:=e4.parts;obtain rfl:=e6.str;obtain rfl:=e7.str;refine lV (.agg #[.string ai.1,.string ai.2]) (Wt isAgg109 sizeOf109 rfl rfl e5)<|Yt (col:=bv) #[.string (⟨#[]⟩),.string (⟨#[]⟩)] 6 zeroValue109 ?_;intro bs f7 d9 cl e8;refine Zj rfl<|Ya #[.string ai.1,.string ai.2] e8 sizeOf109 ?_;intro f8 cm e9 ao;refine Zc<|Zb<|Zd<|Sh rfl<|Z9 bs 0 underlying109 rfl sizeOf9 isAgg9 ao rfl ?_;replace af:=(af.gr cl).kp cm;refine lV (.tuple #[.int .i64 ((X4 ag ai.1).getD 0),.bool ((X4 ag ai.1).isSome)]) (Zrx Vt.str af underlying111 underlying9 zeroValue3 rfl rfl)<|lM (.tuple #[.int .i64 ((X4 ag ai.1).getD 0),.bool ((X4 ag ai.1).isSome)])<|lV (.int .i64 ((X4 ag ai.1).getD 0)) (Y4 rfl rfl)<|lV (.bool ((X4 ag ai.1).isSome)) (Y4 rfl rfl)<|Zj rfl<|Xc rfl<|Zc<|Zb ?_;replace ah:=(ah.gr cl).kp cm;replace al:=(al.gr cl).kp cm;replace ae:=(ae.gr cl).kp cm;replace ad:=(ad.gr cl).kp cm;replace ab:=(ab.grow cl).kp cm e9;refine Wp.cut (fun f be=>∃ (aj:Zh) (de:Bool),Zfe ac ag au aw (Uj ac aa ag ck) ai de=some r∧St w0 (Zo col) aj be∧Zt 109 6 aj be bs #[.string ai.1,.string ai.2]∧Zt 27 1 aj be ap #[.string ac.1,.slice bc ac.2.1.length bd,.slice bi ac.2.2.1.length bj,.slice bk ac.2.2.2.1.length bm,.slice bn ac.2.2.2.2.length bo]∧Zt 32 2 aj be ak #[.int .i8 aa.1,.slice a4 aa.2.1.length a5,.slice a9 aa.2.2.1.length ba,.int .i8 aa.2.2.2.1,.slice az aa.2.2.2.2.1.length a0,.bool aa.2.2.2.2.2.1,.bool aa.2.2.2.2.2.2]∧Ym Value.string (Value.int .i64) 3 aj be ar ag∧Zl (Za.pair Za.str Za.str) 109 5 aj be bq br (an++aa.2.2.1)∧Ym Value.string (Value.int .i64) 4 aj be bp aw∧f 11=(.pointer (some ⟨bs,0,none⟩))∧f 12=(.int .i64 ((X4 ag ai.1).getD 0))∧f 13=(.bool ((X4 ag ai.1).isSome))∧f 14=(.bool de)∧f 2=(.pointer (some ⟨ap,0,none⟩))∧f 3=(.pointer (some ⟨ak,0,none⟩))∧f 6=(.map (some ar))∧f 65=(.slice bq ((an++aa.2.2.1).length) br)∧f 66=(.int .i64 ((an++aa.2.2.1).length:Int))∧f 67=(.int .i64 au)∧f 9=(.map (some bp))∧f 1000000=(enc [])) ?_ ?_
    ·intro f be hJ;obtain ⟨aj,de,hm,ab,ao,ae,ad,af,ah,al,cz,fa,fb,fc,a1,a2,a3,bx,bz,bw,bb,aq⟩:=hJ;rw [Zfe.eq_1] at hm;refine .lD 11 cz<|.lD 12 fa<|.lD 13 fb<|.lD 14 fc<|.lD 2 a1<|.lD 3 a2<|.lD 6 a3<|.lD 65 bx<|.lD 66 bz<|.lD 67 bw<|.lD 9 bb<|.lD 1000000 aq<|Zb ?_;refine Wp.cut (fun f b5=>∃ (b1:Zh),Zjr au aw (Uj ac aa ag ck) ai=some r∧St w0 (Zo col) b1 b5∧Zt 109 6 b1 b5 bs #[.string ai.1,.string ai.2]∧Zt 27 1 b1 b5 ap #[.string ac.1,.slice bc ac.2.1.length bd,.slice bi ac.2.2.1.length bj,.slice bk ac.2.2.2.1.length bm,.slice bn ac.2.2.2.2.length bo]∧Zt 32 2 b1 b5 ak #[.int .i8 aa.1,.slice a4 aa.2.1.length a5,.slice a9 aa.2.2.1.length ba,.int .i8 aa.2.2.2.1,.slice az aa.2.2.2.2.1.length a0,.bool aa.2.2.2.2.2.1,.bool aa.2.2.2.2.2.2]∧Ym Value.string (Value.int .i64) 3 b1 b5 ar ag∧Zl (Za.pair Za.str Za.str) 109 5 b1 b5 bq br (an++aa.2.2.1)∧Ym Value.string (Value.int .i64) 4 b1 b5 bp aw∧f 11=(.pointer (some ⟨bs,0,none⟩))∧f 2=(.pointer (some ⟨ap,0,none⟩))∧f 3=(.pointer (some ⟨ak,0,none⟩))∧f 6=(.map (some ar))∧f 65=(.slice bq ((an++aa.2.2.1).length) br)∧f 66=(.int .i64 ((an++aa.2.2.1).length:Int))∧f 67=(.int .i64 au)∧f 9=(.map (some bp))∧f 1000000=(enc [])) ?_ ?_
     ·intro f b5 hJ;obtain ⟨b1,hm,ab,ao,ae,ad,af,ah,al,cz,a1,a2,a3,bx,bz,bw,bb,aq⟩:=hJ;rw [Zjr.eq_1] at hm;refine .lD 11 cz<|.lD 2 a1<|.lD 3 a2<|.lD 6 a3<|.lD 65 bx<|.lD 66 bz<|.lD 67 bw<|.lD 9 bb<|.lD 1000000 aq<|Zd<|Sh rfl<|Z9 bs 0 underlying109 rfl sizeOf9 isAgg9 ao rfl ?_;obtain ⟨ea,dt,hm⟩:=bZ hm;have dt:ea=Vm aw ai.1 1:=(Option.some.inj dt).symm;refine Zg4 (k:=ai.1) (v:=1) Vt.str al underlying111 underlying9 rfl rfl rfl ?_;intro f9 c0 fd eb;rw [← dt] at eb;refine Zc ?_;replace af:=af.kp c0;replace ah:=ah.kp c0;replace ae:=ae.kp c0;replace ad:=ad.kp c0;replace ab:=ab.kp c0 fd;exact ⟨b1,bp,ea,hm,ab,ae,ad,af,ah,eb,rfl,rfl,rfl,rfl,rfl,rfl,rfl,rfl⟩
     refine Zb ?_;refine Wp.cut (fun f b6=>∃ (b2:Zh) (du:Bool),Tw au aw (Uj ac aa ag ck) ai du=some r∧St w0 (Zo col) b2 b6∧Zt 109 6 b2 b6 bs #[.string ai.1,.string ai.2]∧Zt 27 1 b2 b6 ap #[.string ac.1,.slice bc ac.2.1.length bd,.slice bi ac.2.2.1.length bj,.slice bk ac.2.2.2.1.length bm,.slice bn ac.2.2.2.2.length bo]∧Zt 32 2 b2 b6 ak #[.int .i8 aa.1,.slice a4 aa.2.1.length a5,.slice a9 aa.2.2.1.length ba,.int .i8 aa.2.2.2.1,.slice az aa.2.2.2.2.1.length a0,.bool aa.2.2.2.2.2.1,.bool aa.2.2.2.2.2.2]∧Ym Value.string (Value.int .i64) 3 b2 b6 ar ag∧Zl (Za.pair Za.str Za.str) 109 5 b2 b6 bq br (an++aa.2.2.1)∧Ym Value.string (Value.int .i64) 4 b2 b6 bp aw∧f 109=(.bool du)∧f 11=(.pointer (some ⟨bs,0,none⟩))∧f 2=(.pointer (some ⟨ap,0,none⟩))∧f 3=(.pointer (some ⟨ak,0,none⟩))∧f 6=(.map (some ar))∧f 65=(.slice bq ((an++aa.2.2.1).length) br)∧f 66=(.int .i64 ((an++aa.2.2.1).length:Int))∧f 67=(.int .i64 au)∧f 9=(.map (some bp))∧f 1000000=(enc [])) ?_ ?_
     ·intro f b6 hJ;obtain ⟨b2,du,hm,ab,ao,ae,ad,af,ah,al,fe,cz,a1,a2,a3,bx,bz,bw,bb,aq⟩:=hJ;rw [Tw.eq_1] at hm;refine .lD 109 fe<|.lD 11 cz<|.lD 2 a1<|.lD 3 a2<|.lD 6 a3<|.lD 65 bx<|.lD 66 bz<|.lD 67 bw<|.lD 9 bb<|.lD 1000000 aq ?_;refine Zy _ rfl (fun hb=>?_) (fun hb=>?_)
      ·rw [if_pos hb] at hm;refine Zb<|Zd<|Zj rfl<|Zc<|Zq ?_;cases hm;exact ⟨rfl,rfl,ab.below⟩
      rw [if_neg (Zz hb)] at hm;refine Zr ?_;exact ⟨b2,hm,ab,ao,ae,ad,af,ah,al,rfl,rfl,rfl,rfl,rfl,rfl,rfl,rfl,rfl⟩
     refine W5 (col:=aj) (by kernel_rfl) (by kernel_rfl)<|qv rfl (fun _ hC=>W4 rfl) ?_;refine qv rfl (fun _ hC=>V3 _ rfl) ?_;refine qv rfl (fun _ hC=>W4 rfl) ?_;by_cases ax:(!((X4 ag ai.1).isSome))=true
     ·rw [if_pos ax] at hm;refine qP 88 rfl (by rw [ax];rfl)<|qP 88 rfl (by rw [ax];rfl)<|qP 88 rfl (by rw [ax];rfl)<|qP 88 rfl (by rw [ax];rfl)<|qP 88 rfl (by rw [ax];rfl)<|qv (v:=(.bool true)) rfl (fun _ hC=>Xm (congrArg Value.bool ax) rfl) ?_;refine qv rfl (fun _ hC=>W4 rfl) ?_;refine qP 95 rfl rfl<|qP 95 rfl rfl<|qP 95 rfl rfl<|Y8 98 rfl rfl rfl rfl<|Y8 98 rfl rfl rfl rfl<|Y8 98 rfl rfl rfl rfl<|Y8 98 rfl rfl rfl rfl<|Y8 98 rfl rfl rfl rfl<|Y8 98 rfl rfl rfl rfl<|Y8 98 rfl rfl rfl rfl<|Y8 98 rfl rfl rfl rfl<|Y8 98 rfl rfl rfl rfl<|qP 95 rfl rfl<|qv (v:=(.bool true)) rfl (fun _ hC=>Xm rfl rfl) ?_;refine Y1 ?_;intro ff hC;replace hC:Zf aj be aj ff:=.of_below hC.below;replace af:=af.gr hC;replace ah:=ah.gr hC;replace al:=al.gr hC;replace ao:=ao.gr hC;replace ae:=ae.gr hC;replace ad:=ad.gr hC;replace ab:=ab.grow hC;exact ⟨aj,true,hm,ab,ao,ae,ad,af,ah,al,rfl,rfl,rfl,rfl,rfl,rfl,rfl,rfl,rfl,rfl⟩
     rw [if_neg ax] at hm;replace ax:=Bool.eq_false_iff.2 ax;refine qG 88 rfl (by rw [ax];rfl)<|qv rfl (fun _ hC=>r_mM rfl) ?_;refine qG 88 rfl (by rw [ax];rfl)<|qv (v:=(.pointer ((some (⟨bs,0,none⟩:Addr)).map (·.add 0)))) rfl (fun _ hC=>Xn (sz:=1) (off:=0) underlying109 rfl sizeOf9 (by decide) rfl rfl ⟨_,_,rfl⟩) ?_;refine qG 88 rfl (by rw [ax];rfl)<|qv rfl (fun _ hC=>Zn isAgg9 rfl (((ao.atN).nth (q:=0) rfl).gr (hC.bl aj))) ?_;refine qG 88 rfl (by rw [ax];rfl)<|qv (v:=(.int .i64 ((X4 aw ai.1).getD 0))) rfl (fun _ hC=>Zkj Vt.str (al.gr (hC.bl aj)) underlying111 underlying9 zeroValue3 rfl rfl) ?_;refine qG 88 rfl (by rw [ax];rfl)<|qv rfl (fun _ hC=>Wa _ _ rfl rfl) ?_;refine qv (v:=(.bool (decide (0<((X4 aw ai.1).getD 0))))) rfl (fun _ hC=>Xr (congrArg Value.bool ax) rfl) ?_;refine qv rfl (fun _ hC=>W4 rfl) ?_;by_cases ay:(decide (0<((X4 aw ai.1).getD 0)))=true
     ·rw [if_pos ay] at hm;refine qP 95 rfl (gq ay)<|qP 95 rfl (gq ay)<|qP 95 rfl (gq ay)<|Y8 98 rfl rfl rfl rfl<|Y8 98 rfl rfl rfl rfl<|Y8 98 rfl rfl rfl rfl<|Y8 98 rfl rfl rfl rfl<|Y8 98 rfl rfl rfl rfl<|Y8 98 rfl rfl rfl rfl<|Y8 98 rfl rfl rfl rfl<|Y8 98 rfl rfl rfl rfl<|Y8 98 rfl rfl rfl rfl<|qP 95 rfl (gq ay)<|qv (v:=(.bool true)) rfl (fun _ hC=>Xm (congrArg Value.bool ay) rfl) ?_;refine Y1 ?_;intro fg hC;replace hC:Zf aj be aj fg:=.of_below hC.below;replace af:=af.gr hC;replace ah:=ah.gr hC;replace al:=al.gr hC;replace ao:=ao.gr hC;replace ae:=ae.gr hC;replace ad:=ad.gr hC;replace ab:=ab.grow hC;exact ⟨aj,true,hm,ab,ao,ae,ad,af,ah,al,rfl,rfl,rfl,rfl,rfl,rfl,rfl,rfl,rfl,rfl⟩
     rw [if_neg ay] at hm;replace ay:=Bool.eq_false_iff.2 ay;refine qG 95 rfl (gq ay)<|qv rfl (fun _ hC=>W4 rfl) ?_;refine qG 95 rfl (gq ay)<|qv rfl (fun _ hC=>V3 _ rfl) ?_;refine qG 95 rfl (gq ay)<|qv rfl (fun _ hC=>W4 rfl) ?_;by_cases am:(!de)=true
     ·rw [if_pos am] at hm;refine qG 98 rfl (by rw [am];rfl)<|qv (v:=(.pointer ((some (⟨ap,0,none⟩:Addr)).map (·.add 2)))) rfl (fun _ hC=>Xn (sz:=1) (off:=2) underlying27 rfl sizeOf23 (by decide) rfl rfl ⟨_,_,rfl⟩) ?_;refine qG 98 rfl (by rw [am];rfl)<|qv rfl (fun _ hC=>Zn isAgg23 rfl (((ae.atN).nth (q:=2) rfl).gr (hC.bl aj))) ?_;refine qG 98 rfl (by rw [am];rfl)<|qv rfl (fun _ hC=>Xp rfl) ?_;refine qG 98 rfl (by rw [am];rfl) ?_;obtain ⟨fh,df,hm⟩:=bZ hm;refine qv rfl (fun _ hC=>Zx underlying23 sizeOf22 rfl rfl (Zi df).1 (Zi df).2.1 ((cn.ks ab).addr df)) ?_;refine qG 98 rfl (by rw [am];rfl) ?_;obtain ⟨_,fi,fj⟩:=(cn.ks ab).atN df;obtain ⟨⟨fl,fm,rfl,fn⟩,_⟩:=fi;refine qv rfl (fun _ hC=>Zn isAgg22 rfl (fj.one.gr (hC.bl aj))) ?_;refine qG 98 rfl (by rw [am];rfl)<|qv (v:=(.pointer ((some (⟨bs,0,none⟩:Addr)).map (·.add 1)))) rfl (fun _ hC=>Xn (sz:=1) (off:=1) underlying109 rfl sizeOf9 (by decide) rfl rfl ⟨_,_,rfl⟩) ?_;refine qG 98 rfl (by rw [am];rfl)<|qv rfl (fun _ hC=>Zn isAgg9 rfl (((ao.atN).nth (q:=1) rfl).gr (hC.bl aj))) ?_;refine qG 98 rfl (by rw [am];rfl) ?_;obtain ⟨c1,fo,hm⟩:=bZ hm;refine qc (v:=(.bool c1)) rfl (fun _ hC=>⟨_,_,Xa call78 rfl rfl,(Znt aj _ fl fm fh ai.2 (fn.gr (hC.bl aj)) c1 fo).mono fun _ _ h=>⟨h.1,hC.trans (.of_below h.2)⟩⟩) ?_;refine qG 98 rfl (by rw [am];rfl)<|qv rfl (fun _ hC=>V3 _ rfl) ?_;refine qG 95 rfl (gq ay)<|qv (v:=(.bool (!c1))) rfl (fun _ hC=>Xm (congrArg Value.bool am) rfl) ?_;refine qv (v:=(.bool (!c1))) rfl (fun _ hC=>Xr (congrArg Value.bool ay) rfl) ?_;refine Y1 ?_;intro fp hC;replace hC:Zf aj be aj fp:=.of_below hC.below;replace af:=af.gr hC;replace ah:=ah.gr hC;replace al:=al.gr hC;replace ao:=ao.gr hC;replace ae:=ae.gr hC;replace ad:=ad.gr hC;replace ab:=ab.grow hC;exact ⟨aj,(!c1),hm,ab,ao,ae,ad,af,ah,al,rfl,rfl,rfl,rfl,rfl,rfl,rfl,rfl,rfl,rfl⟩
     rw [if_neg am] at hm;replace am:=Bool.eq_false_iff.2 am;refine qP 98 rfl (by rw [am];rfl)<|qP 98 rfl (by rw [am];rfl)<|qP 98 rfl (by rw [am];rfl)<|qP 98 rfl (by rw [am];rfl)<|qP 98 rfl (by rw [am];rfl)<|qP 98 rfl (by rw [am];rfl)<|qP 98 rfl (by rw [am];rfl)<|qP 98 rfl (by rw [am];rfl)<|qP 98 rfl (by rw [am];rfl)<|qG 95 rfl (gq ay)<|qv (v:=(.bool false)) rfl (fun _ hC=>Xr (congrArg Value.bool am) rfl) ?_;refine qv (v:=(.bool false)) rfl (fun _ hC=>Xr (congrArg Value.bool ay) rfl) ?_;refine Y1 ?_;intro fq hC;replace hC:Zf aj be aj fq:=.of_below hC.below;replace af:=af.gr hC;replace ah:=ah.gr hC;replace al:=al.gr hC;replace ao:=ao.gr hC;replace ae:=ae.gr hC;replace ad:=ad.gr hC;replace ab:=ab.grow hC;exact ⟨aj,false,hm,ab,ao,ae,ad,af,ah,al,rfl,rfl,rfl,rfl,rfl,rfl,rfl,rfl,rfl,rfl⟩
    refine Zd<|Z9 ak 0 underlying32 rfl sizeOf28 isAgg28 ad rfl<|lV _ (Y9 _ _ rfl rfl)<|Xf rfl ?_;by_cases bt:(decide (aa.1=3))=true
    ·rw [if_pos bt] at hm;refine lG 82 rfl (gq bt)<|Zg rfl<|lG 82 rfl (gq bt)<|lV _ (Y9 _ _ rfl rfl)<|lV (.bool (decide ((au:Int)=0))) (Xm (congrArg Value.bool bt) rfl)<|Xc rfl<|Zc ?_;exact ⟨d9,(decide ((au:Int)=0)),hm,ab,ao,ae,ad,af,ah,al,rfl,rfl,rfl,rfl,rfl,rfl,rfl,rfl,rfl,rfl,rfl,rfl⟩
    rw [if_neg bt] at hm;replace bt:=Bool.eq_false_iff.2 bt;refine lP 82 rfl (gq bt)<|lP 82 rfl (gq bt)<|lV (.bool false) (Xr (congrArg Value.bool bt) rfl)<|Xc rfl<|Zc ?_;exact ⟨d9,false,hm,ab,ao,ae,ad,af,ah,al,rfl,rfl,rfl,rfl,rfl,rfl,rfl,rfl,rfl,rfl,rfl,rfl⟩
  | cons ec ed=>
   obtain ⟨a7,fr,fs⟩:=Wv hl;have hk:(bu:Int)<(ac.2.1.length:Int):=by omega
   have hkb:=decide_eq_true hk;rw [Qe.eq_2] at hm;refine Zb<|Zd<|lV _ (Z4 _ _ rfl rfl)<|Zc<|Zb<|Wo (congrArg Value.bool hkb)<|Zr<|Zb<|Z0<|Zb<|Zd<|Zg rfl ?_;refine lV _ (Zx underlying22 sizeOf9 rfl rfl (Zi a7).1 (Zi a7).2.1 ((cc.ks ab).addr a7)) ?_;refine lV _ (Zn isAgg9 rfl ((cc.ks ab).atStr a7))<|Zj rfl<|Zjg rfl<|Zc<|Zd<|Sh rfl<|Td rfl<|Zg rfl ?_;obtain ⟨ee,dv,hm⟩:=bZ hm;have dv:ee=Vm ag ec (bu:Int):=(Option.some.inj dv).symm;refine Zg4 (k:=ec) (v:=(bu:Int)) Vt.str af underlying111 underlying9 rfl rfl rfl ?_;intro ga dw ft ef;rw [← dv] at ef;refine Zc<|Zd<|lV _ (Z5 _ _ rfl rfl)<|Zg rfl<|Zc ?_;replace ae:=ae.kp dw;replace ad:=ad.kp dw;replace ab:=ab.kp dw ft;exact ⟨ed.length,by simp,⟨b7,(bu+1),ar,ee,ed,rfl,fr,hm,ab,ae,ad,ef,(congrArg (Value.int .i64) (Wy (Nat.lt_of_lt_of_le fs (cc.ks ab).1.1))),rfl,rfl,rfl,rfl,rfl,rfl⟩⟩
 refine Zb ?_;refine Wp.cut (fun f dg=>∃ (c3:Zh) (dx:Bool),Sk ac aa dx=some r∧St w0 (Zo col) c3 dg∧Zt 27 1 c3 dg ap #[.string ac.1,.slice bc ac.2.1.length bd,.slice bi ac.2.2.1.length bj,.slice bk ac.2.2.2.1.length bm,.slice bn ac.2.2.2.2.length bo]∧Zt 32 2 c3 dg ak #[.int .i8 aa.1,.slice a4 aa.2.1.length a5,.slice a9 aa.2.2.1.length ba,.int .i8 aa.2.2.2.1,.slice az aa.2.2.2.2.1.length a0,.bool aa.2.2.2.2.2.1,.bool aa.2.2.2.2.2.2]∧f 2=(.pointer (some ⟨ap,0,none⟩))∧f 3=(.pointer (some ⟨ak,0,none⟩))∧f 42=(.bool dx)∧f 1000000=(enc [])) ?_ ?_
 ·intro f dg hJ;obtain ⟨c3,dx,hm,ab,ae,ad,a1,a2,fu,aq⟩:=hJ;rw [Sk.eq_1] at hm;refine .lD 2 a1<|.lD 3 a2<|.lD 42 fu<|.lD 1000000 aq ?_;refine Zy _ rfl (fun hb=>?_) (fun hb=>?_)
  ·rw [if_pos hb] at hm;refine Zb<|Zd<|Zj rfl<|Zc<|Zq ?_;cases hm;exact ⟨rfl,rfl,ab.below⟩
  rw [if_neg (Zz hb)] at hm;refine Zr ?_;exact ⟨c3,hm,ab,ae,ad,rfl,rfl,rfl⟩
 refine Zd<|Z9 ak 3 underlying32 rfl sizeOf28 isAgg28 ad rfl<|lV _ (Yk _ _ rfl rfl)<|Xf rfl ?_;by_cases bf:(!decide (aa.2.2.2.1=1))=true
 ·rw [if_pos bf] at hm;refine lG 28 rfl (by rw [bf];rfl)<|lF ak 3 underlying32 rfl sizeOf28<|lG 28 rfl (by rw [bf];rfl)<|lV _ (Zn isAgg28 rfl ((ad.atN).nth (q:=3) rfl))<|lG 28 rfl (by rw [bf];rfl)<|lV _ (Yk _ _ rfl rfl)<|lV (.bool (!decide (aa.2.2.2.1=2))) (Xm (congrArg Value.bool bf) rfl)<|Xf rfl ?_;by_cases bg:(!decide (aa.2.2.2.1=2))=true
  ·rw [if_pos bg] at hm;refine lG 33 rfl (by rw [bg];rfl)<|lF ak 3 underlying32 rfl sizeOf28<|lG 33 rfl (by rw [bg];rfl)<|lV _ (Zn isAgg28 rfl ((ad.atN).nth (q:=3) rfl))<|lG 33 rfl (by rw [bg];rfl)<|lV _ (Yk _ _ rfl rfl)<|lV (.bool (!decide (aa.2.2.2.1=3))) (Xm (congrArg Value.bool bg) rfl)<|Xf rfl ?_;by_cases bh:(!decide (aa.2.2.2.1=3))=true
   ·rw [if_pos bh] at hm;refine lP 38 rfl (by rw [bh];rfl)<|lP 38 rfl (by rw [bh];rfl)<|lP 38 rfl (by rw [bh];rfl)<|lV (.bool true) (Xm (congrArg Value.bool bh) rfl)<|Zc ?_;exact ⟨av,true,hm,ab,ae,ad,rfl,rfl,rfl,rfl⟩
   rw [if_neg bh] at hm;replace bh:=Bool.eq_false_iff.2 bh;refine lG 38 rfl (by rw [bh];rfl)<|lV _ (Ye isAgg32 sizeOf32 ad)<|lG 38 rfl (by rw [bh];rfl) ?_;obtain ⟨dy,fw,hm⟩:=bZ hm;refine lc rfl rfl (Z7 call76 rfl) (Zlc av _ a4 a5 a9 ba az a0 (aa.1,aa.2.1,aa.2.2.1,aa.2.2.2.1,aa.2.2.2.2.1,(aa.2.2.2.2.2.1,aa.2.2.2.2.2.2)) (cd.ks ab) (ce.ks ab) (b3.ks ab) dy fw) ?_;rintro _ fx ⟨rfl,c4⟩;refine ⟨_,rfl,?_⟩;replace c4:Zf av c7 av fx:=.of_below c4;refine lG 38 rfl (by rw [bh];rfl)<|lV _ (V3 _ rfl)<|lV (.bool (!dy)) (Xr (congrArg Value.bool bh) rfl)<|Zc ?_;replace ae:=ae.gr c4;replace ad:=ad.gr c4;replace ab:=ab.grow c4;exact ⟨av,(!dy),hm,ab,ae,ad,rfl,rfl,rfl,rfl⟩
  rw [if_neg bg] at hm;replace bg:=Bool.eq_false_iff.2 bg;refine lP 33 rfl (by rw [bg];rfl)<|lP 33 rfl (by rw [bg];rfl)<|lP 33 rfl (by rw [bg];rfl)<|lV (.bool false) (Xr (congrArg Value.bool bg) rfl)<|Xf rfl<|lG 38 rfl rfl<|lV _ (Ye isAgg32 sizeOf32 ad)<|lG 38 rfl rfl ?_;obtain ⟨dz,fy,hm⟩:=bZ hm;refine lc rfl rfl (Z7 call76 rfl) (Zlc av _ a4 a5 a9 ba az a0 (aa.1,aa.2.1,aa.2.2.1,aa.2.2.2.1,aa.2.2.2.2.1,(aa.2.2.2.2.2.1,aa.2.2.2.2.2.2)) (cd.ks ab) (ce.ks ab) (b3.ks ab) dz fy) ?_;rintro _ fz ⟨rfl,c5⟩;refine ⟨_,rfl,?_⟩;replace c5:Zf av c7 av fz:=.of_below c5;refine lG 38 rfl rfl<|lV _ (V3 _ rfl)<|lV (.bool (!dz)) (Xr rfl rfl)<|Zc ?_;replace ae:=ae.gr c5;replace ad:=ad.gr c5;replace ab:=ab.grow c5;exact ⟨av,(!dz),hm,ab,ae,ad,rfl,rfl,rfl,rfl⟩
 rw [if_neg bf] at hm;replace bf:=Bool.eq_false_iff.2 bf;refine lP 28 rfl (by rw [bf];rfl)<|lP 28 rfl (by rw [bf];rfl)<|lP 28 rfl (by rw [bf];rfl)<|lV (.bool false) (Xr (congrArg Value.bool bf) rfl)<|Xf rfl<|lP 33 rfl rfl<|lP 33 rfl rfl<|lP 33 rfl rfl<|lV (.bool false) (Xr rfl rfl)<|Xf rfl<|lG 38 rfl rfl<|lV _ (Ye isAgg32 sizeOf32 ad)<|lG 38 rfl rfl ?_;obtain ⟨d0,f0,hm⟩:=bZ hm;refine lc rfl rfl (Z7 call76 rfl) (Zlc av _ a4 a5 a9 ba az a0 (aa.1,aa.2.1,aa.2.2.1,aa.2.2.2.1,aa.2.2.2.2.1,(aa.2.2.2.2.2.1,aa.2.2.2.2.2.2)) (cd.ks ab) (ce.ks ab) (b3.ks ab) d0 f0) ?_;rintro _ f1 ⟨rfl,c6⟩;refine ⟨_,rfl,?_⟩;replace c6:Zf av c7 av f1:=.of_below c6;refine lG 38 rfl rfl<|lV _ (V3 _ rfl)<|lV (.bool (!d0)) (Xr rfl rfl)<|Zc ?_;replace ae:=ae.gr c6;replace ad:=ad.gr c6;replace ab:=ab.grow c6;exact ⟨av,(!d0),hm,ab,ae,ad,rfl,rfl,rfl,rfl⟩
def Zh4 (aa:(Int×(List (ByteArray×ByteArray))×(List (ByteArray×ByteArray))×Int×List ByteArray×(Bool×Bool))):Option Bool:=
  if (decide (aa.1=1))=true then (some (decide ((aa.2.2.1.length:Int)=0))) else (if (decide (aa.1=2))=true then (some (decide (0<(aa.2.1.length:Int)))) else (if (decide (aa.1=3))=true then (some (decide ((aa.2.1.length:Int)=1))) else (some false)))
theorem Zvt (col:Zh) (w0:World) (ae:Option Addr) (af:Nat) (ag:Option Addr) (ah:Nat) (ai:Option Addr) (aj:Nat) (aa:(Int×(List (ByteArray×ByteArray))×(List (ByteArray×ByteArray))×Int×List ByteArray×(Bool×Bool))) (al:Sl (Za.pair Za.str Za.str) col w0 ae af aa.2.1) (am:Sl (Za.pair Za.str Za.str) col w0 ag ah aa.2.2.1) (an:Sl Za.str col w0 ai aj aa.2.2.2.2.1) (r:Bool) (hm:Zh4 aa=some r):
    Calls Tryz.prog 80 #[(.agg #[.int .i8 aa.1,.slice ae aa.2.1.length af,.slice ag aa.2.2.1.length ah,.int .i8 aa.2.2.2.1,.slice ai aa.2.2.2.2.1.length aj,.bool aa.2.2.2.2.2.1,.bool aa.2.2.2.2.2.2])] w0 (fun e w'=>e= .returned ((.bool r))∧Below w0.heap.size w0 w'):=by
 refine Xv 2 (m:=23) func80 rfl rfl rfl rfl rfl ?_;rw [Zh4.eq_1] at hm;have ab:=St.start col w0;refine Zb<|Zd<|X3 (col:=(Zo col)) 1 rfl ?_;intro ac ao ap ak ad;refine Xc rfl<|Zc<|Zb<|Zb<|Zd<|Z9 ac 0 underlying32 rfl sizeOf28 isAgg28 ad rfl<|Zc<|Z0<|Zb<|Zd<|lV _ (Y9 _ _ rfl rfl)<|Xc rfl<|Zc ?_;replace ab:=ab.grow ak;refine Zy _ rfl (fun hb=>?_) (fun hb=>?_)
 ·rw [if_pos hb] at hm;refine Zb<|Zd<|Z9 ac 2 underlying32 rfl sizeOf29 isAgg29 ad rfl<|lV _ (Zs underlying29 rfl)<|lV _ (Y9 _ _ rfl rfl)<|Xc rfl<|Zc<|Zq ?_;cases hm;exact ⟨rfl,rfl,ab.below⟩
 rw [if_neg (Zz hb)] at hm;refine Zb<|Zd<|lV _ (Y9 _ _ rfl rfl)<|Xc rfl<|Zc ?_;refine Zy _ rfl (fun hb=>?_) (fun hb=>?_)
 ·rw [if_pos hb] at hm;refine Zb<|Zd<|Z9 ac 1 underlying32 rfl sizeOf29 isAgg29 ad rfl<|lV _ (Zs underlying29 rfl)<|lV _ (Wa _ _ rfl rfl)<|Xc rfl<|Zc<|Zq ?_;cases hm;exact ⟨rfl,rfl,ab.below⟩
 rw [if_neg (Zz hb)] at hm;refine Zb<|Zd<|lV _ (Y9 _ _ rfl rfl)<|Xc rfl<|Zc ?_;refine Zy _ rfl (fun hb=>?_) (fun hb=>?_)
 ·rw [if_pos hb] at hm;refine Zb<|Zd<|Z9 ac 1 underlying32 rfl sizeOf29 isAgg29 ad rfl<|lV _ (Zs underlying29 rfl)<|lV _ (Y9 _ _ rfl rfl)<|Xc rfl<|Zc<|Zq ?_;cases hm;exact ⟨rfl,rfl,ab.below⟩
 rw [if_neg (Zz hb)] at hm;refine Zr<|Zb<|Zd<|Xc rfl<|Zc<|Zq ?_;cases hm;exact ⟨rfl,rfl,ab.below⟩
def Zdk (N:Nat) (ab:List ByteArray) (ac:ByteArray):Nat→Int→Option Int
  | 0,_=>none
  | ad+1,aa=>if (decide (aa<(ab.length:Int)))=true then ((Zv ab aa).bind fun ae=>if (decide (ae=ac))=true then (some aa) else ((Zdk N ab ac ad) (i64.wrap (aa+1)))) else (some (-1))
termination_by structural x=>x
def Zag (N:Nat) (aa:List ByteArray) (ab:ByteArray):Option Int:=
  Zdk N aa ab N 0
theorem Zgz (N:Nat) (col:Zh) (w0:World) (a0:Option Addr) (ag:Nat) (ac:List ByteArray) (ad:ByteArray) (h0:Sl Za.str col w0 a0 ag ac) (r:Int) (hm:Zag N ac ad=some r):
    Calls Tryz.prog 81 #[.slice a0 ac.length ag,.string ad] w0 (fun e w'=>e= .returned ((.int .i64 r))∧Below w0.heap.size w0 w'):=by
 refine Xv 4 (m:=19) func81 rfl rfl rfl rfl rfl ?_;rw [Zag.eq_1] at hm;have aa:=St.start col w0;refine Zb<|Zd<|Zj rfl<|Zc<|Zb<|Zb<|Zd<|Zj rfl<|Zc<|Z0<|Xi (fun n f ai=>∃ (ah:Zh) (ae:Int) (ab:Nat),ab=n∧Zdk N ac ad ab ae=some r∧St w0 (Zo col) ah ai∧f 0=(.slice a0 ac.length ag)∧f 1=(.string ad)∧f 5=(.int .i64 ae)∧f 1000000=(enc [])) N ⟨(Zo col),0,N,rfl,hm,aa,rfl,rfl,rfl,rfl⟩ ?_;clear hm;intro n f ai hI;obtain ⟨ah,ae,ab,hn,hm,aa,aj,ak,al,am⟩:=hI;subst hn;refine .lD 0 aj<|.lD 1 ak<|.lD 5 al<|.lD 1000000 am ?_;replace h0:=h0.keep (Zp.start col w0)
 cases ab with
 | zero=>rw [Zdk.eq_1] at hm;cases hm
 | succ ab=>
  rw [Zdk.eq_2] at hm;refine Zb<|Zb<|Zd<|Zg rfl<|Zk rfl<|lV _ (Zs underlying22 rfl)<|lV _ (Z4 _ _ rfl rfl)<|Zc ?_;refine Zy _ rfl (fun hb=>?_) (fun hb=>?_)
  ·rw [if_pos hb] at hm;refine Zr<|Zb<|Z0<|Zb<|Zd<|Zk rfl<|Zg rfl ?_;obtain ⟨an,af,hm⟩:=bZ hm;refine lV _ (Zx underlying22 sizeOf9 rfl rfl (Zi af).1 (Zi af).2.1 ((h0.ks aa).addr af)) ?_;refine lV _ (Zn isAgg9 rfl ((h0.ks aa).atStr af))<|Td rfl<|lV _ (Su _ _ underlying9 rfl rfl)<|Zc ?_;refine Zy _ rfl (fun hb=>?_) (fun hb=>?_)
   ·rw [if_pos hb] at hm;refine Zb<|Zd<|Zg rfl<|Zj rfl<|Zc<|Zq ?_;cases hm;exact ⟨rfl,rfl,aa.below⟩
   rw [if_neg (Zz hb)] at hm;refine Zr<|Zd<|Zg rfl<|lV _ (Z5 _ _ rfl rfl)<|Zj rfl<|Zc ?_;exact ⟨ab,by omega,⟨ah,(i64.wrap (ae+1)),ab,rfl,hm,aa,rfl,rfl,rfl,rfl⟩⟩
  rw [if_neg (Zz hb)] at hm;refine Xl (Xk ?_);refine Zb<|Zd<|Zj rfl<|Zc<|Zq ?_;cases hm;exact ⟨rfl,rfl,aa.below⟩
theorem Zjc:Y2 Tryz.prog 9 1 16:=⟨Tryz.t9,_,rfl,rfl,rfl,rfl,rfl⟩
theorem Zod:Y2 Tryz.prog 109 2 32:=⟨Tryz.t109,_,rfl,rfl,rfl,rfl,rfl⟩
def Zjx (aa:Int) (kk_L1:(List ByteArray→Int→Option Int)) (ab:List ByteArray):Option Int:=
  kk_L1 ab (i64.wrap (aa+1))
def Zjy (ac:(Int×(List (ByteArray×ByteArray))×(List (ByteArray×ByteArray))×Int×List ByteArray×(Bool×Bool))) (aa:List ByteArray) (ad:Int) (kk_L1:(List ByteArray→Int→Option Int)):Option Int:=
  (Zv ((([]:List (ByteArray×ByteArray))++ac.2.1)++ac.2.2.1) ad).bind fun ab=>Xb ((aa.length+([ab.1]:List ByteArray).length) * 16≤140737488355328∧aa.length+([ab.1]:List ByteArray).length≤maxLen) (Zjx ad kk_L1 (aa++([ab.1]:List ByteArray)))
def Zaf (aa:(Int×(List (ByteArray×ByteArray))×(List (ByteArray×ByteArray))×Int×List ByteArray×(Bool×Bool))) (ab:List ByteArray) (ac:Int) (kk_L1:(List ByteArray→Int→Option Int)) (ad:Bool):Option Int:=
  if ad=true then (some 50) else (Zjy aa ab ac kk_L1)
def Zdg (N:Nat) (ad:(ByteArray×List ByteArray×(List (List ByteArray))×(List (List Int))×(List (List ((Bool×List Int)×List Int))))) (aa:(Int×(List (ByteArray×ByteArray))×(List (ByteArray×ByteArray))×Int×List ByteArray×(Bool×Bool))) (ac:List ByteArray) (ab:Int) (kk_L1:(List ByteArray→Int→Option Int)) (ae:Int) (af:Bool):Option Int:=
  if af=true then (some 50) else ((Zv ad.2.2.1 ae).bind fun ag=>(Zv ((([]:List (ByteArray×ByteArray))++aa.2.1)++aa.2.2.1) ab).bind fun ah=>(Zag N ag ah.2).bind fun ai=>if (decide (ai<0))=true then (if (!decide (aa.1=3))=true then (Zaf aa ac ab kk_L1 true) else (Zaf aa ac ab kk_L1 (decide (0<ab)))) else (Zaf aa ac ab kk_L1 false))
def Zdh (ad:(Int×(List (ByteArray×ByteArray))×(List (ByteArray×ByteArray))×Int×List ByteArray×(Bool×Bool))) (ac:Int) (aa:List ByteArray) (kk_L2:(Int→(List ByteArray)→Option Int)) (ae:Bool):Option Int:=
  if ae=true then (some 51) else ((Zv ad.2.2.2.2.1 ac).bind fun ab=>Xb ((aa.length+([ab]:List ByteArray).length) * 16≤140737488355328∧aa.length+([ab]:List ByteArray).length≤maxLen) (kk_L2 (i64.wrap (ac+1)) (aa++([ab]:List ByteArray))))
def Qn (N:Nat) (ab:(ByteArray×List ByteArray×(List (List ByteArray))×(List (List Int))×(List (List ((Bool×List Int)×List Int))))) (aa:(Int×(List (ByteArray×ByteArray))×(List (ByteArray×ByteArray))×Int×List ByteArray×(Bool×Bool))):Nat→Int→(List ByteArray)→Option Int
  | 0,_,_=>none
  | ae+1,ac,ad=>if (decide (ac<(aa.2.2.2.2.1.length:Int)))=true then ((Zv aa.2.2.2.2.1 ac).bind fun af=>(Zag N ab.2.1 af).bind fun ag=>if (decide (ag<0))=true then (Zdh aa ac ad (Qn N ab aa ae) true) else ((Zag N ad af).bind fun ah=>Zdh aa ac ad (Qn N ab aa ae) (decide (0≤ah)))) else (if (!decide ((ad.length:Int)=(ab.2.1.length:Int)))=true then (some 51) else (some 0))
termination_by structural x=>x
def Uy (N:Nat) (ab:(ByteArray×List ByteArray×(List (List ByteArray))×(List (List Int))×(List (List ((Bool×List Int)×List Int))))) (aa:(Int×(List (ByteArray×ByteArray))×(List (ByteArray×ByteArray))×Int×List ByteArray×(Bool×Bool))):Nat→(List ByteArray)→Int→Option Int
  | 0,_,_=>none
  | af+1,ac,ad=>if (decide (ad<(((([]:List (ByteArray×ByteArray))++aa.2.1)++aa.2.2.1).length:Int)))=true then ((Zv ((([]:List (ByteArray×ByteArray))++aa.2.1)++aa.2.2.1) ad).bind fun ag=>(Zag N ab.2.1 ag.1).bind fun ae=>if (decide (ae<0))=true then (Zdg N ab aa ac ad (Uy N ab aa af) ae true) else ((Zag N ac ag.1).bind fun ah=>Zdg N ab aa ac ad (Uy N ab aa af) ae (decide (0≤ah)))) else (if (!decide (aa.2.2.2.1=3))=true then (some 0) else (Qn N ab aa N 0 ac))
termination_by structural x=>x
def Qm (N:Nat) (ab:(ByteArray×List ByteArray×(List (List ByteArray))×(List (List Int))×(List (List ((Bool×List Int)×List Int))))) (aa:(Int×(List (ByteArray×ByteArray))×(List (ByteArray×ByteArray))×Int×List ByteArray×(Bool×Bool))) (ac:Bool):Option Int:=
  if ac=true then (some 50) else (Xb ((([]:List (ByteArray×ByteArray)).length+aa.2.1.length) * 32≤140737488355328∧([]:List (ByteArray×ByteArray)).length+aa.2.1.length≤maxLen) (Xb (((([]:List (ByteArray×ByteArray))++aa.2.1).length+aa.2.2.1.length) * 32≤140737488355328∧(([]:List (ByteArray×ByteArray))++aa.2.1).length+aa.2.2.1.length≤maxLen) (Uy N ab aa N ([]:List ByteArray) 0)))
def Zgd (N:Nat) (ab:(ByteArray×List ByteArray×(List (List ByteArray))×(List (List Int))×(List (List ((Bool×List Int)×List Int))))) (aa:(Int×(List (ByteArray×ByteArray))×(List (ByteArray×ByteArray))×Int×List ByteArray×(Bool×Bool))):Option Int:=
  (Zf2 N (ab.1,ab.2.1,ab.2.2.1,ab.2.2.2.1,ab.2.2.2.2)).bind fun ac=>if (!decide (ac=0))=true then (some ac) else ((Zh4 (aa.1,aa.2.1,aa.2.2.1,aa.2.2.2.1,aa.2.2.2.2.1,(aa.2.2.2.2.2.1,aa.2.2.2.2.2.2))).bind fun ad=>if (!ad)=true then (Qm N ab aa true) else (if (decide (aa.2.2.2.1<1))=true then (Qm N ab aa true) else (Qm N ab aa (decide (3<aa.2.2.2.1)))))
theorem Zvr (N:Nat) (col:Zh) (w0:World) (ax:Option Addr) (ay:Nat) (a2:Option Addr) (a3:Nat) (a4:Option Addr) (a5:Nat) (a6:Option Addr) (a7:Nat) (ac:(ByteArray×List ByteArray×(List (List ByteArray))×(List (List Int))×(List (List ((Bool×List Int)×List Int))))) (a8:Option Addr) (a9:Nat) (ba:Option Addr) (bb:Nat) (bc:Option Addr) (bd:Nat) (aa:(Int×(List (ByteArray×ByteArray))×(List (ByteArray×ByteArray))×Int×List ByteArray×(Bool×Bool))) (ca:Sl Za.str col w0 ax ay ac.2.1) (cb:Sl (Za.slice Za.str) col w0 a2 a3 ac.2.2.1) (cw:Sl (Za.slice (Za.int .i64)) col w0 a4 a5 ac.2.2.2.1) (cx:Sl (Za.slice (Za.pair (Za.pair Za.bool (Za.slice (Za.int .u32))) (Za.slice (Za.int .u32)))) col w0 a6 a7 ac.2.2.2.2) (cm:Sl (Za.pair Za.str Za.str) col w0 a8 a9 aa.2.1) (cn:Sl (Za.pair Za.str Za.str) col w0 ba bb aa.2.2.1) (bn:Sl Za.str col w0 bc bd aa.2.2.2.2.1) (r:Int) (hm:Zgd N ac aa=some r):
    Calls Tryz.prog 18 #[(.agg #[.string ac.1,.slice ax ac.2.1.length ay,.slice a2 ac.2.2.1.length a3,.slice a4 ac.2.2.2.1.length a5,.slice a6 ac.2.2.2.2.length a7]),(.agg #[.int .i8 aa.1,.slice a8 aa.2.1.length a9,.slice ba aa.2.2.1.length bb,.int .i8 aa.2.2.2.1,.slice bc aa.2.2.2.2.1.length bd,.bool aa.2.2.2.2.2.1,.bool aa.2.2.2.2.2.2])] w0 (fun e w'=>e= .returned ((.int .i64 r))∧Below w0.heap.size w0 w'):=by
 refine Xv 4 (m:=137) func18 rfl rfl rfl rfl rfl ?_;rw [Zgd.eq_1] at hm;have ab:=St.start col w0;refine Zb<|Zd<|X3 (col:=(Zo col)) 1 rfl ?_;intro am fe dk dl ae;refine X3 (col:=dk) 2 rfl ?_;intro ag dm bo da ad;refine Zj rfl<|Zc<|Zb<|Zd ?_;replace ae:=ae.gr da;refine lV _ (Ye isAgg27 sizeOf27 ae) ?_;obtain ⟨dn,dp,hm⟩:=bZ hm;replace ca:=ca.keep (Zp.start col w0);replace cb:=cb.keep (Zp.start col w0);replace cw:=cw.keep (Zp.start col w0);replace cx:=cx.keep (Zp.start col w0);replace ab:=(ab.grow dl).grow da;refine lc rfl rfl (Z7 call79 rfl) (Zvh N bo _ ax ay a2 a3 a4 a5 a6 a7 (ac.1,ac.2.1,ac.2.2.1,ac.2.2.2.1,ac.2.2.2.2) (ca.ks ab) (cb.ks ab) (cw.ks ab) (cx.ks ab) dn dp) ?_;rintro _ db ⟨rfl,cc⟩;refine ⟨_,rfl,?_⟩;replace cc:Zf bo dm bo db:=.of_below cc;refine Zj rfl<|Zc<|Zb<|Zb<|Zd<|Zg rfl<|lV _ (Yk _ _ rfl rfl)<|Zc ?_;replace cm:=cm.keep (Zp.start col w0);replace cn:=cn.keep (Zp.start col w0);replace bn:=bn.keep (Zp.start col w0);replace ae:=ae.gr cc;replace ad:=ad.gr cc;replace ab:=ab.grow cc;refine Zy _ rfl (fun hb=>?_) (fun hb=>?_)
 ·rw [if_pos hb] at hm;refine Zb<|Zd<|Zg rfl<|Zj rfl<|Zc<|Zq ?_;cases hm;exact ⟨rfl,rfl,ab.below⟩
 rw [if_neg (Zz hb)] at hm;refine Zr<|Zb<|Zd<|lV _ (Ye isAgg32 sizeOf32 ad) ?_;obtain ⟨dc,dq,hm⟩:=bZ hm;refine lc rfl rfl (Z7 call80 rfl) (Zvt bo _ a8 a9 ba bb bc bd (aa.1,aa.2.1,aa.2.2.1,aa.2.2.2.1,aa.2.2.2.2.1,(aa.2.2.2.2.2.1,aa.2.2.2.2.2.2)) (cm.ks ab) (cn.ks ab) (bn.ks ab) dc dq) ?_;rintro _ dr ⟨rfl,cd⟩;refine ⟨_,rfl,?_⟩;replace cd:Zf bo db bo dr:=.of_below cd;refine Xc rfl<|Zc<|Zb<|Zb ?_;replace ae:=ae.gr cd;replace ad:=ad.gr cd;replace ab:=ab.grow cd;refine Wp.cut (fun f ce=>∃ (cf:Zh) (cy:Bool),Qm N ac aa cy=some r∧St w0 (Zo col) cf ce∧Zt 27 1 cf ce am #[.string ac.1,.slice ax ac.2.1.length ay,.slice a2 ac.2.2.1.length a3,.slice a4 ac.2.2.2.1.length a5,.slice a6 ac.2.2.2.2.length a7]∧Zt 32 2 cf ce ag #[.int .i8 aa.1,.slice a8 aa.2.1.length a9,.slice ba aa.2.2.1.length bb,.int .i8 aa.2.2.2.1,.slice bc aa.2.2.2.2.1.length bd,.bool aa.2.2.2.2.2.1,.bool aa.2.2.2.2.2.2]∧f 2=(.pointer (some ⟨am,0,none⟩))∧f 3=(.pointer (some ⟨ag,0,none⟩))∧f 30=(.bool cy)∧f 1000000=(enc [])) ?_ ?_
 ·intro f ce hJ;obtain ⟨cf,cy,hm,ab,ae,ad,ar,au,ds,av⟩:=hJ;rw [Qm.eq_1] at hm;refine .lD 2 ar<|.lD 3 au<|.lD 30 ds<|.lD 1000000 av ?_;refine Zy _ rfl (fun hb=>?_) (fun hb=>?_)
  ·rw [if_pos hb] at hm;refine Zb<|Zd<|Zj rfl<|Zc<|Zq ?_;cases hm;exact ⟨rfl,rfl,ab.below⟩
  rw [if_neg (Zz hb)] at hm;refine Zr<|Zb<|Zd<|Zu rfl<|Zc<|Zb<|Zd<|Zk rfl<|Z9 ag 1 underlying32 rfl sizeOf29 isAgg29 ad rfl ?_;obtain ⟨dd,hm⟩:=Xd hm;refine Wr (col:=cf) (w:=ce) (r:=(Za.pair Za.str Za.str)) (c:=3) (c2:=3) (xs:=([]:List (ByteArray×ByteArray))) (ys:=aa.2.1) Zl.nil (cm.ks ab).srcC rfl underlying29 Zod rfl rfl rfl dd.1 dd.2 (by decide) ?_;intro ff fg dt du cz dv;refine Zu rfl<|Zc<|Zb<|Zd<|Zk rfl<|lF ag 2 underlying32 rfl sizeOf29 ?_;replace ad:=ad.kpp cz;refine lV _ (Zn isAgg29 rfl ((ad.atN).nth (q:=2) rfl)) ?_;obtain ⟨de,hm⟩:=Xd hm;replace ab:=ab.kpp cz;refine Wr (col:=du) (w:=dt) (r:=(Za.pair Za.str Za.str)) (c:=3) (c2:=3) (xs:=([]:List (ByteArray×ByteArray))++aa.2.1) (ys:=aa.2.2.1) dv (cn.ks ab).srcC rfl underlying29 Zod rfl rfl rfl de.1 de.2 (by decide) ?_;intro aw bi fh dw c0 af;refine Zu rfl<|Zc<|Zb<|Zd<|Zu rfl<|Zc<|Zb<|Zb<|Zd<|Zj rfl<|Zc<|Z0 ?_;replace ae:=(ae.kpp cz).kpp c0;replace ad:=ad.kpp c0;replace ab:=ab.kpp c0;refine Xi (fun n f bu=>∃ (an:Zh) (be:Option Addr) (bf:Nat) (aq:List ByteArray) (ao:Int) (bg:Nat),bg=n∧Uy N ac aa bg aq ao=some r∧St w0 (Zo col) an bu∧Zt 27 1 an bu am #[.string ac.1,.slice ax ac.2.1.length ay,.slice a2 ac.2.2.1.length a3,.slice a4 ac.2.2.2.1.length a5,.slice a6 ac.2.2.2.2.length a7]∧Zt 32 2 an bu ag #[.int .i8 aa.1,.slice a8 aa.2.1.length a9,.slice ba aa.2.2.1.length bb,.int .i8 aa.2.2.2.1,.slice bc aa.2.2.2.2.1.length bd,.bool aa.2.2.2.2.2.1,.bool aa.2.2.2.2.2.2]∧Zl (Za.pair Za.str Za.str) 109 3 an bu aw bi ((([]:List (ByteArray×ByteArray))++aa.2.1)++aa.2.2.1)∧Zl Za.str 9 4 an bu be bf aq∧f 2=(.pointer (some ⟨am,0,none⟩))∧f 3=(.pointer (some ⟨ag,0,none⟩))∧f 7=(.slice aw (((([]:List (ByteArray×ByteArray))++aa.2.1)++aa.2.2.1).length) bi)∧f 8=(.slice be aq.length bf)∧f 9=(.int .i64 ao)∧f 1000000=(enc [])) N ⟨dw,none,0,([]:List ByteArray),0,N,rfl,hm,ab,ae,ad,af,Zl.nil,rfl,rfl,rfl,rfl,rfl,rfl⟩ ?_;clear hm;intro n f bu hI;obtain ⟨an,be,bf,aq,ao,bg,hn,hm,ab,ae,ad,af,ah,ar,au,bp,az,bq,av⟩:=hI;subst hn;refine .lD 2 ar<|.lD 3 au<|.lD 7 bp<|.lD 8 az<|.lD 9 bq<|.lD 1000000 av ?_
  cases bg with
  | zero=>rw [Uy.eq_1] at hm;cases hm
  | succ bg=>
   rw [Uy.eq_2] at hm;refine Zb<|Zb<|Zd<|Zg rfl<|Zk rfl<|lV _ (Zs underlying29 rfl)<|lV _ (Z4 _ _ rfl rfl)<|Zc ?_;refine Zy _ rfl (fun hb=>?_) (fun hb=>?_)
   ·rw [if_pos hb] at hm;refine Zr<|Zb ?_;refine Wp.cut (fun f b3=>∃ (bv:Zh) (co:Option Addr) (cp:Nat) (cg:List ByteArray),Zjx ao (Uy N ac aa bg) cg=some r∧St w0 (Zo col) bv b3∧Zt 27 1 bv b3 am #[.string ac.1,.slice ax ac.2.1.length ay,.slice a2 ac.2.2.1.length a3,.slice a4 ac.2.2.2.1.length a5,.slice a6 ac.2.2.2.2.length a7]∧Zt 32 2 bv b3 ag #[.int .i8 aa.1,.slice a8 aa.2.1.length a9,.slice ba aa.2.2.1.length bb,.int .i8 aa.2.2.2.1,.slice bc aa.2.2.2.2.1.length bd,.bool aa.2.2.2.2.2.1,.bool aa.2.2.2.2.2.2]∧Zl (Za.pair Za.str Za.str) 109 3 bv b3 aw bi ((([]:List (ByteArray×ByteArray))++aa.2.1)++aa.2.2.1)∧Zl Za.str 9 4 bv b3 co cp cg∧f 2=(.pointer (some ⟨am,0,none⟩))∧f 3=(.pointer (some ⟨ag,0,none⟩))∧f 7=(.slice aw (((([]:List (ByteArray×ByteArray))++aa.2.1)++aa.2.2.1).length) bi)∧f 8=(.slice co cg.length cp)∧f 9=(.int .i64 ao)∧f 1000000=(enc [])) ?_ ?_
    ·intro f b3 hJ;obtain ⟨bv,co,cp,cg,hm,ab,ae,ad,af,dx,ar,au,bp,az,bq,av⟩:=hJ;rw [Zjx.eq_1] at hm;refine .lD 2 ar<|.lD 3 au<|.lD 7 bp<|.lD 8 az<|.lD 9 bq<|.lD 1000000 av<|Zd<|Zg rfl<|lV _ (Z5 _ _ rfl rfl)<|Zj rfl<|Zc ?_;exact ⟨bg,by omega,⟨bv,co,cp,cg,(i64.wrap (ao+1)),bg,rfl,hm,ab,ae,ad,af,dx,rfl,rfl,rfl,rfl,rfl,rfl⟩⟩
    refine Z0<|Zb<|W5 (col:=an) (by kernel_rfl) (by kernel_rfl)<|qv (v:=(.pointer ((some (⟨am,0,none⟩:Addr)).map (·.add 1)))) rfl (fun _ hC=>Xn (sz:=1) (off:=1) underlying27 rfl sizeOf22 (by decide) rfl rfl ⟨_,_,rfl⟩) ?_;refine qv rfl (fun _ hC=>Zn isAgg22 rfl (((ae.atN).nth (q:=1) rfl).gr (hC.bl an))) ?_;refine qv rfl (fun _ hC=>Yr rfl) ?_;refine qv rfl (fun _ hC=>Xp rfl) ?_;obtain ⟨df,bj,hm⟩:=bZ hm;refine qv rfl (fun _ hC=>Zx underlying29 sizeOf109 rfl rfl (Zi bj).1 (Zi bj).2.1 (af.addr bj)) ?_;refine qv (v:=(.pointer ((aw.map (·.add (Int.toNat ao * 2))).map (·.add 0)))) rfl (fun _ hC=>Xn (sz:=1) (off:=0) underlying109 rfl sizeOf9 (by decide) rfl rfl (Vd (af.addr bj))) ?_;obtain ⟨_,dy,dz⟩:=af.atN bj;obtain ⟨_,_,rfl,d0,d1⟩:=dy.parts;obtain rfl:=d0.str;obtain rfl:=d1.str;refine qv rfl (fun _ hC=>Zn isAgg9 rfl (((dz).nth (q:=0) rfl).gr (hC.bl an))) ?_;obtain ⟨ch,d2,hm⟩:=bZ hm;refine qc (v:=(.int .i64 ch)) rfl (fun _ hC=>⟨_,_,Xa call81 rfl rfl,(Zgz N an _ ax ay ac.2.1 df.1 ((ca.ks ab).gr (hC.bl an)) ch d2).mono fun _ _ h=>⟨h.1,hC.trans (.of_below h.2)⟩⟩) ?_;refine qv rfl (fun _ hC=>Zah rfl) ?_;refine Y1 ?_;intro dg hC;replace hC:Zf an bu an dg:=.of_below hC.below;refine Zb<|Zb ?_;replace af:=af.gr hC;replace ah:=ah.gr hC;replace ae:=ae.gr hC;replace ad:=ad.gr hC;replace ab:=ab.grow hC;refine Wp.cut (fun f br=>∃ (ai:Zh) (c1:Bool),Zdg N ac aa aq ao (Uy N ac aa bg) ch c1=some r∧St w0 (Zo col) ai br∧Zt 27 1 ai br am #[.string ac.1,.slice ax ac.2.1.length ay,.slice a2 ac.2.2.1.length a3,.slice a4 ac.2.2.2.1.length a5,.slice a6 ac.2.2.2.2.length a7]∧Zt 32 2 ai br ag #[.int .i8 aa.1,.slice a8 aa.2.1.length a9,.slice ba aa.2.2.1.length bb,.int .i8 aa.2.2.2.1,.slice bc aa.2.2.2.2.1.length bd,.bool aa.2.2.2.2.2.1,.bool aa.2.2.2.2.2.2]∧Zl (Za.pair Za.str Za.str) 109 3 ai br aw bi ((([]:List (ByteArray×ByteArray))++aa.2.1)++aa.2.2.1)∧Zl Za.str 9 4 ai br be bf aq∧f 10=(.int .i64 ch)∧f 2=(.pointer (some ⟨am,0,none⟩))∧f 3=(.pointer (some ⟨ag,0,none⟩))∧f 64=(.bool c1)∧f 7=(.slice aw (((([]:List (ByteArray×ByteArray))++aa.2.1)++aa.2.2.1).length) bi)∧f 8=(.slice be aq.length bf)∧f 9=(.int .i64 ao)∧f 1000000=(enc [])) ?_ ?_
    ·intro f br hJ;obtain ⟨ai,c1,hm,ab,ae,ad,af,ah,d3,ar,au,d4,bp,az,bq,av⟩:=hJ;rw [Zdg.eq_1] at hm;refine .lD 10 d3<|.lD 2 ar<|.lD 3 au<|.lD 64 d4<|.lD 7 bp<|.lD 8 az<|.lD 9 bq<|.lD 1000000 av ?_;refine Zy _ rfl (fun hb=>?_) (fun hb=>?_)
     ·rw [if_pos hb] at hm;refine Zb<|Zd<|Zj rfl<|Zc<|Zq ?_;cases hm;exact ⟨rfl,rfl,ab.below⟩
     rw [if_neg (Zz hb)] at hm;refine Zr<|Zb ?_;refine Wp.cut (fun f b4=>∃ (bw:Zh),Zjy aa aq ao (Uy N ac aa bg)=some r∧St w0 (Zo col) bw b4∧Zt 27 1 bw b4 am #[.string ac.1,.slice ax ac.2.1.length ay,.slice a2 ac.2.2.1.length a3,.slice a4 ac.2.2.2.1.length a5,.slice a6 ac.2.2.2.2.length a7]∧Zt 32 2 bw b4 ag #[.int .i8 aa.1,.slice a8 aa.2.1.length a9,.slice ba aa.2.2.1.length bb,.int .i8 aa.2.2.2.1,.slice bc aa.2.2.2.2.1.length bd,.bool aa.2.2.2.2.2.1,.bool aa.2.2.2.2.2.2]∧Zl (Za.pair Za.str Za.str) 109 3 bw b4 aw bi ((([]:List (ByteArray×ByteArray))++aa.2.1)++aa.2.2.1)∧Zl Za.str 9 4 bw b4 be bf aq∧f 2=(.pointer (some ⟨am,0,none⟩))∧f 3=(.pointer (some ⟨ag,0,none⟩))∧f 7=(.slice aw (((([]:List (ByteArray×ByteArray))++aa.2.1)++aa.2.2.1).length) bi)∧f 8=(.slice be aq.length bf)∧f 9=(.int .i64 ao)∧f 1000000=(enc [])) ?_ ?_
     ·intro f b4 hJ;obtain ⟨bw,hm,ab,ae,ad,af,ah,ar,au,bp,az,bq,av⟩:=hJ;rw [Zjy.eq_1] at hm;refine .lD 2 ar<|.lD 3 au<|.lD 7 bp<|.lD 8 az<|.lD 9 bq<|.lD 1000000 av<|Zd<|Zk rfl<|Zk rfl<|Zg rfl ?_;obtain ⟨bx,ci,hm⟩:=bZ hm;refine lV _ (Zx underlying29 sizeOf109 rfl rfl (Zi ci).1 (Zi ci).2.1 (af.addr ci)) ?_;refine lv (v:=(.pointer ((aw.map (·.add (Int.toNat ao * 2))).map (·.add 0)))) rfl rfl (Xn (sz:=1) (off:=0) underlying109 rfl sizeOf9 (by decide) rfl rfl (Vd (af.addr ci))) ?_;obtain ⟨_,d5,d6⟩:=af.atN ci;obtain ⟨_,_,rfl,d7,d8⟩:=d5.parts;obtain rfl:=d7.str;obtain rfl:=d8.str;refine lV _ (Zn isAgg9 rfl ((d6).nth (q:=0) rfl))<|Wk (col:=bw) (r:=Za.str) (xs:=([bx.1]:List ByteArray)) [.string bx.1] 5 rfl underlying22 Zjc rfl rfl rfl rfl rfl rfl (by intro v hv;simp only [List.mem_cons,List.not_mem_nil,or_false] at hv;subst hv;rfl) (Y6.ofF (Rows.consF (r:=Za.str) (x:=bx.1) (cs:=[.string bx.1]) (Us bx.1) Rows.nil0)) ?_;intro fi d9 ea cj eb;obtain ⟨dh,hm⟩:=Xd hm;replace ah:=ah.gr cj;refine Wr (col:=ea) (w:=d9) (r:=Za.str) (c:=4) (c2:=4) (xs:=aq) (ys:=([bx.1]:List ByteArray)) ah (eb.srcN NB.str) rfl underlying22 Zjc rfl rfl rfl dh.1 dh.2 (by decide) ?_;intro ec ed fj ee cq ef;refine Zu rfl<|Zc ?_;replace af:=(af.gr cj).kpp cq;replace ae:=(ae.gr cj).kpp cq;replace ad:=(ad.gr cj).kpp cq;replace ab:=(ab.grow cj).kpp cq;exact ⟨ee,ec,ed,(aq++([bx.1]:List ByteArray)),hm,ab,ae,ad,af,ef,rfl,rfl,rfl,rfl,rfl,rfl⟩
     refine Zb ?_;refine Wp.cut (fun f b5=>∃ (bz:Zh) (c3:Bool),Zaf aa aq ao (Uy N ac aa bg) c3=some r∧St w0 (Zo col) bz b5∧Zt 27 1 bz b5 am #[.string ac.1,.slice ax ac.2.1.length ay,.slice a2 ac.2.2.1.length a3,.slice a4 ac.2.2.2.1.length a5,.slice a6 ac.2.2.2.2.length a7]∧Zt 32 2 bz b5 ag #[.int .i8 aa.1,.slice a8 aa.2.1.length a9,.slice ba aa.2.2.1.length bb,.int .i8 aa.2.2.2.1,.slice bc aa.2.2.2.2.1.length bd,.bool aa.2.2.2.2.2.1,.bool aa.2.2.2.2.2.2]∧Zl (Za.pair Za.str Za.str) 109 3 bz b5 aw bi ((([]:List (ByteArray×ByteArray))++aa.2.1)++aa.2.2.1)∧Zl Za.str 9 4 bz b5 be bf aq∧f 2=(.pointer (some ⟨am,0,none⟩))∧f 3=(.pointer (some ⟨ag,0,none⟩))∧f 7=(.slice aw (((([]:List (ByteArray×ByteArray))++aa.2.1)++aa.2.2.1).length) bi)∧f 8=(.slice be aq.length bf)∧f 85=(.bool c3)∧f 9=(.int .i64 ao)∧f 1000000=(enc [])) ?_ ?_
     ·intro f b5 hJ;obtain ⟨bz,c3,hm,ab,ae,ad,af,ah,ar,au,bp,az,eg,bq,av⟩:=hJ;rw [Zaf.eq_1] at hm;refine .lD 2 ar<|.lD 3 au<|.lD 7 bp<|.lD 8 az<|.lD 85 eg<|.lD 9 bq<|.lD 1000000 av ?_;refine Zy _ rfl (fun hb=>?_) (fun hb=>?_)
      ·rw [if_pos hb] at hm;refine Zb<|Zd<|Zj rfl<|Zc<|Zq ?_;cases hm;exact ⟨rfl,rfl,ab.below⟩
      rw [if_neg (Zz hb)] at hm;refine Zr ?_;exact ⟨bz,hm,ab,ae,ad,af,ah,rfl,rfl,rfl,rfl,rfl,rfl⟩
     refine W5 (col:=ai) (by kernel_rfl) (by kernel_rfl)<|qv (v:=(.pointer ((some (⟨am,0,none⟩:Addr)).map (·.add 2)))) rfl (fun _ hC=>Xn (sz:=1) (off:=2) underlying27 rfl sizeOf23 (by decide) rfl rfl ⟨_,_,rfl⟩) ?_;refine qv rfl (fun _ hC=>Zn isAgg23 rfl (((ae.atN).nth (q:=2) rfl).gr (hC.bl ai))) ?_;refine qv rfl (fun _ hC=>Xp rfl) ?_;obtain ⟨eh,cr,hm⟩:=bZ hm;refine qv rfl (fun _ hC=>Zx underlying23 sizeOf22 rfl rfl (Zi cr).1 (Zi cr).2.1 ((cb.ks ab).addr cr)) ?_;obtain ⟨_,ei,ej⟩:=(cb.ks ab).atN cr;obtain ⟨⟨ek,el,rfl,em⟩,_⟩:=ei;refine qv rfl (fun _ hC=>Zn isAgg22 rfl (ej.one.gr (hC.bl ai))) ?_;refine qv rfl (fun _ hC=>Yr rfl) ?_;refine qv rfl (fun _ hC=>Xp rfl) ?_;obtain ⟨en,ck,hm⟩:=bZ hm;refine qv rfl (fun _ hC=>Zx underlying29 sizeOf109 rfl rfl (Zi ck).1 (Zi ck).2.1 (af.addr ck)) ?_;refine qv (v:=(.pointer ((aw.map (·.add (Int.toNat ao * 2))).map (·.add 1)))) rfl (fun _ hC=>Xn (sz:=1) (off:=1) underlying109 rfl sizeOf9 (by decide) rfl rfl (Vd (af.addr ck))) ?_;obtain ⟨_,eo,ep⟩:=af.atN ck;obtain ⟨_,_,rfl,eq,er⟩:=eo.parts;obtain rfl:=eq.str;obtain rfl:=er.str;refine qv rfl (fun _ hC=>Zn isAgg9 rfl (((ep).nth (q:=1) rfl).gr (hC.bl ai))) ?_;obtain ⟨c4,es,hm⟩:=bZ hm;refine qc (v:=(.int .i64 c4)) rfl (fun _ hC=>⟨_,_,Xa call81 rfl rfl,(Zgz N ai _ ek el eh en.2 (em.gr (hC.bl ai)) c4 es).mono fun _ _ h=>⟨h.1,hC.trans (.of_below h.2)⟩⟩) ?_;refine qv rfl (fun _ hC=>Z4 _ _ rfl rfl) ?_;refine qv rfl (fun _ hC=>W4 rfl) ?_;by_cases ap:(decide (c4<0))=true
     ·rw [if_pos ap] at hm;refine qG 77 rfl (gq ap)<|qv (v:=(.pointer ((some (⟨ag,0,none⟩:Addr)).map (·.add 0)))) rfl (fun _ hC=>Xn (sz:=1) (off:=0) underlying32 rfl sizeOf28 (by decide) rfl rfl ⟨_,_,rfl⟩) ?_;refine qG 77 rfl (gq ap)<|qv rfl (fun _ hC=>Zn isAgg28 rfl (((ad.atN).nth (q:=0) rfl).gr (hC.bl ai))) ?_;refine qG 77 rfl (gq ap)<|qv rfl (fun _ hC=>Yk _ _ rfl rfl) ?_;refine qG 77 rfl (gq ap)<|qv rfl (fun _ hC=>W4 rfl) ?_;by_cases bk:(!decide (aa.1=3))=true
      ·rw [if_pos bk] at hm;refine qP 81 rfl (by rw [bk];rfl)<|qP 81 rfl (by rw [bk];rfl)<|qG 77 rfl (gq ap)<|qv (v:=(.bool true)) rfl (fun _ hC=>Xm (congrArg Value.bool bk) rfl) ?_;refine qv (v:=(.bool true)) rfl (fun _ hC=>Xm (congrArg Value.bool ap) rfl) ?_;refine Y1 ?_;intro et hC;replace hC:Zf ai br ai et:=.of_below hC.below;replace af:=af.gr hC;replace ah:=ah.gr hC;replace ae:=ae.gr hC;replace ad:=ad.gr hC;replace ab:=ab.grow hC;exact ⟨ai,true,hm,ab,ae,ad,af,ah,rfl,rfl,rfl,rfl,rfl,rfl,rfl⟩
      rw [if_neg bk] at hm;replace bk:=Bool.eq_false_iff.2 bk;refine qG 81 rfl (by rw [bk];rfl)<|qv rfl (fun _ hC=>Xp rfl) ?_;refine qG 81 rfl (by rw [bk];rfl)<|qv rfl (fun _ hC=>Wa _ _ rfl rfl) ?_;refine qG 77 rfl (gq ap)<|qv (v:=(.bool (decide (0<ao)))) rfl (fun _ hC=>Xr (congrArg Value.bool bk) rfl) ?_;refine qv (v:=(.bool (decide (0<ao)))) rfl (fun _ hC=>Xm (congrArg Value.bool ap) rfl) ?_;refine Y1 ?_;intro eu hC;replace hC:Zf ai br ai eu:=.of_below hC.below;replace af:=af.gr hC;replace ah:=ah.gr hC;replace ae:=ae.gr hC;replace ad:=ad.gr hC;replace ab:=ab.grow hC;exact ⟨ai,(decide (0<ao)),hm,ab,ae,ad,af,ah,rfl,rfl,rfl,rfl,rfl,rfl,rfl⟩
     rw [if_neg ap] at hm;replace ap:=Bool.eq_false_iff.2 ap;refine qP 77 rfl (gq ap)<|qP 77 rfl (gq ap)<|qP 77 rfl (gq ap)<|qP 77 rfl (gq ap)<|Y8 81 rfl rfl rfl rfl<|Y8 81 rfl rfl rfl rfl<|qP 77 rfl (gq ap)<|qv (v:=(.bool false)) rfl (fun _ hC=>Xr (congrArg Value.bool ap) rfl) ?_;refine Y1 ?_;intro ev hC;replace hC:Zf ai br ai ev:=.of_below hC.below;replace af:=af.gr hC;replace ah:=ah.gr hC;replace ae:=ae.gr hC;replace ad:=ad.gr hC;replace ab:=ab.grow hC;exact ⟨ai,false,hm,ab,ae,ad,af,ah,rfl,rfl,rfl,rfl,rfl,rfl,rfl⟩
    refine Zd<|Zg rfl<|lV _ (Z4 _ _ rfl rfl)<|Xf rfl ?_;by_cases aj:(decide (ch<0))=true
    ·rw [if_pos aj] at hm;refine lP 55 rfl (gq aj)<|lP 55 rfl (gq aj)<|lP 55 rfl (gq aj)<|lP 55 rfl (gq aj)<|lP 55 rfl (gq aj)<|lP 55 rfl (gq aj)<|lP 55 rfl (gq aj)<|lP 55 rfl (gq aj)<|lV (.bool true) (Xm (congrArg Value.bool aj) rfl)<|Zc ?_;exact ⟨an,true,hm,ab,ae,ad,af,ah,rfl,rfl,rfl,rfl,rfl,rfl,rfl,rfl⟩
    rw [if_neg aj] at hm;replace aj:=Bool.eq_false_iff.2 aj;refine lG 55 rfl (gq aj)<|Zk rfl<|lG 55 rfl (gq aj)<|Zk rfl<|lG 55 rfl (gq aj)<|Zg rfl<|lG 55 rfl (gq aj) ?_;refine lV _ (Zx underlying29 sizeOf109 rfl rfl (Zi bj).1 (Zi bj).2.1 (af.addr bj)) ?_;refine lG 55 rfl (gq aj)<|lv (v:=(.pointer ((aw.map (·.add (Int.toNat ao * 2))).map (·.add 0)))) rfl rfl (Xn (sz:=1) (off:=0) underlying109 rfl sizeOf9 (by decide) rfl rfl (Vd (af.addr bj)))<|lG 55 rfl (gq aj) ?_;obtain ⟨_,ew,ex⟩:=af.atN bj;obtain ⟨_,_,rfl,ey,ez⟩:=ew.parts;obtain rfl:=ey.str;obtain rfl:=ez.str;refine lV _ (Zn isAgg9 rfl ((ex).nth (q:=0) rfl))<|lG 55 rfl (gq aj) ?_;obtain ⟨c5,e0,hm⟩:=bZ hm;refine lc rfl rfl (Xa call81 rfl rfl) (Zgz N (Z3 4 an) _ be bf aq df.1 (ah.toSlF Z2.str) c5 e0) ?_;rintro _ e1 ⟨rfl,b0⟩;refine ⟨_,rfl,?_⟩;replace b0:Zf an dg an e1:=.of_below b0;refine lG 55 rfl (gq aj)<|lV _ (Uq _ _ rfl rfl)<|lV (.bool (decide (0≤c5))) (Xr (congrArg Value.bool aj) rfl)<|Zc ?_;replace af:=af.gr b0;replace ah:=ah.gr b0;replace ae:=ae.gr b0;replace ad:=ad.gr b0;replace ab:=ab.grow b0;exact ⟨an,(decide (0≤c5)),hm,ab,ae,ad,af,ah,rfl,rfl,rfl,rfl,rfl,rfl,rfl,rfl⟩
   rw [if_neg (Zz hb)] at hm;refine Xl (Xk ?_);refine Zb<|Zb<|Zd<|Z9 ag 3 underlying32 rfl sizeOf28 isAgg28 ad rfl<|lV _ (Yk _ _ rfl rfl)<|Zc ?_;refine Zy _ rfl (fun hb=>?_) (fun hb=>?_)
   ·rw [if_pos hb] at hm;refine Zb<|Zd<|Zj rfl<|Zc<|Zq ?_;cases hm;exact ⟨rfl,rfl,ab.below⟩
   rw [if_neg (Zz hb)] at hm;refine Zr<|Zb<|Zb<|Zd<|Zj rfl<|Zc<|Z0<|Xi (fun n f b1=>∃ (al:Zh) (b6:Int) (b7:Option Addr) (b8:Nat) (bm:List ByteArray) (bs:Nat),bs=n∧Qn N ac aa bs b6 bm=some r∧St w0 (Zo col) al b1∧Zt 27 1 al b1 am #[.string ac.1,.slice ax ac.2.1.length ay,.slice a2 ac.2.2.1.length a3,.slice a4 ac.2.2.2.1.length a5,.slice a6 ac.2.2.2.2.length a7]∧Zt 32 2 al b1 ag #[.int .i8 aa.1,.slice a8 aa.2.1.length a9,.slice ba aa.2.2.1.length bb,.int .i8 aa.2.2.2.1,.slice bc aa.2.2.2.2.1.length bd,.bool aa.2.2.2.2.2.1,.bool aa.2.2.2.2.2.2]∧Zl Za.str 9 4 al b1 b7 b8 bm∧f 11=(.int .i64 b6)∧f 2=(.pointer (some ⟨am,0,none⟩))∧f 3=(.pointer (some ⟨ag,0,none⟩))∧f 8=(.slice b7 bm.length b8)∧f 1000000=(enc [])) N ⟨an,0,be,bf,aq,N,rfl,hm,ab,ae,ad,ah,rfl,rfl,rfl,rfl,rfl⟩ ?_;clear hm;intro n f b1 hI;obtain ⟨al,b6,b7,b8,bm,bs,hn,hm,ab,ae,ad,bh,c6,ar,au,az,av⟩:=hI;subst hn;refine .lD 11 c6<|.lD 2 ar<|.lD 3 au<|.lD 8 az<|.lD 1000000 av ?_
   cases bs with
   | zero=>rw [Qn.eq_1] at hm;cases hm
   | succ bs=>
    rw [Qn.eq_2] at hm;refine Zb<|Zb<|Zd<|Zg rfl<|Z9 ag 4 underlying32 rfl sizeOf22 isAgg22 ad rfl<|lV _ (Zs underlying22 rfl)<|lV _ (Z4 _ _ rfl rfl)<|Zc ?_;refine Zy _ rfl (fun hb=>?_) (fun hb=>?_)
    ·rw [if_pos hb] at hm;refine Zr<|Zb<|Z0<|Zb<|Zb ?_;refine Wp.cut (fun f cl=>∃ (b9:Zh) (c7:Bool),Zdh aa b6 bm (Qn N ac aa bs) c7=some r∧St w0 (Zo col) b9 cl∧Zt 27 1 b9 cl am #[.string ac.1,.slice ax ac.2.1.length ay,.slice a2 ac.2.2.1.length a3,.slice a4 ac.2.2.2.1.length a5,.slice a6 ac.2.2.2.2.length a7]∧Zt 32 2 b9 cl ag #[.int .i8 aa.1,.slice a8 aa.2.1.length a9,.slice ba aa.2.2.1.length bb,.int .i8 aa.2.2.2.1,.slice bc aa.2.2.2.2.1.length bd,.bool aa.2.2.2.2.2.1,.bool aa.2.2.2.2.2.2]∧Zl Za.str 9 4 b9 cl b7 b8 bm∧f 11=(.int .i64 b6)∧f 122=(.bool c7)∧f 2=(.pointer (some ⟨am,0,none⟩))∧f 3=(.pointer (some ⟨ag,0,none⟩))∧f 8=(.slice b7 bm.length b8)∧f 1000000=(enc [])) ?_ ?_
     ·intro f cl hJ;obtain ⟨b9,c7,hm,ab,ae,ad,bh,c6,e2,ar,au,az,av⟩:=hJ;rw [Zdh.eq_1] at hm;refine .lD 11 c6<|.lD 122 e2<|.lD 2 ar<|.lD 3 au<|.lD 8 az<|.lD 1000000 av ?_;refine Zy _ rfl (fun hb=>?_) (fun hb=>?_)
      ·rw [if_pos hb] at hm;refine Zb<|Zd<|Zj rfl<|Zc<|Zq ?_;cases hm;exact ⟨rfl,rfl,ab.below⟩
      rw [if_neg (Zz hb)] at hm;refine Zr<|Zd<|Zk rfl<|Z9 ag 4 underlying32 rfl sizeOf22 isAgg22 ad rfl<|Zg rfl ?_;obtain ⟨b2,ct,hm⟩:=bZ hm;refine lV _ (Zx underlying22 sizeOf9 rfl rfl (Zi ct).1 (Zi ct).2.1 ((bn.ks ab).addr ct)) ?_;refine lV _ (Zn isAgg9 rfl ((bn.ks ab).atStr ct))<|Wk (col:=b9) (r:=Za.str) (xs:=([b2]:List ByteArray)) [.string b2] 6 rfl underlying22 Zjc rfl rfl rfl rfl rfl rfl (by intro v hv;simp only [List.mem_cons,List.not_mem_nil,or_false] at hv;subst hv;rfl) (Y6.ofF (Rows.consF (r:=Za.str) (x:=b2) (cs:=[.string b2]) (Us b2) Rows.nil0)) ?_;intro fk e3 e4 cu e5;obtain ⟨di,hm⟩:=Xd hm;replace bh:=bh.gr cu;refine Wr (col:=e4) (w:=e3) (r:=Za.str) (c:=4) (c2:=4) (xs:=bm) (ys:=([b2]:List ByteArray)) bh (e5.srcN NB.str) rfl underlying22 Zjc rfl rfl rfl di.1 di.2 (by decide) ?_;intro e6 e7 fl e8 c8 e9;refine Zu rfl<|Zc<|Zd<|Zg rfl<|lV _ (Z5 _ _ rfl rfl)<|Zj rfl<|Zc ?_;replace ae:=(ae.gr cu).kpp c8;replace ad:=(ad.gr cu).kpp c8;replace ab:=(ab.grow cu).kpp c8;exact ⟨bs,by omega,⟨e8,(i64.wrap (b6+1)),e6,e7,(bm++([b2]:List ByteArray)),bs,rfl,hm,ab,ae,ad,e9,rfl,rfl,rfl,rfl,rfl⟩⟩
     refine W5 (col:=al) (by kernel_rfl) (by kernel_rfl)<|qv (v:=(.pointer ((some (⟨am,0,none⟩:Addr)).map (·.add 1)))) rfl (fun _ hC=>Xn (sz:=1) (off:=1) underlying27 rfl sizeOf22 (by decide) rfl rfl ⟨_,_,rfl⟩) ?_;refine qv rfl (fun _ hC=>Zn isAgg22 rfl (((ae.atN).nth (q:=1) rfl).gr (hC.bl al))) ?_;refine qv (v:=(.pointer ((some (⟨ag,0,none⟩:Addr)).map (·.add 4)))) rfl (fun _ hC=>Xn (sz:=1) (off:=4) underlying32 rfl sizeOf22 (by decide) rfl rfl ⟨_,_,rfl⟩) ?_;refine qv rfl (fun _ hC=>Zn isAgg22 rfl (((ad.atN).nth (q:=4) rfl).gr (hC.bl al))) ?_;refine qv rfl (fun _ hC=>Xp rfl) ?_;obtain ⟨dj,bt,hm⟩:=bZ hm;refine qv rfl (fun _ hC=>Zx underlying22 sizeOf9 rfl rfl (Zi bt).1 (Zi bt).2.1 ((bn.ks ab).addr bt)) ?_;refine qv rfl (fun _ hC=>Zn isAgg9 rfl (((bn.ks ab).gr (hC.bl al)).atStr bt)) ?_;obtain ⟨c9,fa,hm⟩:=bZ hm;refine qc (v:=(.int .i64 c9)) rfl (fun _ hC=>⟨_,_,Xa call81 rfl rfl,(Zgz N al _ ax ay ac.2.1 dj ((ca.ks ab).gr (hC.bl al)) c9 fa).mono fun _ _ h=>⟨h.1,hC.trans (.of_below h.2)⟩⟩) ?_;refine qv rfl (fun _ hC=>Z4 _ _ rfl rfl) ?_;refine qv rfl (fun _ hC=>W4 rfl) ?_;by_cases ak:(decide (c9<0))=true
     ·rw [if_pos ak] at hm;refine qP 113 rfl (gq ak)<|qP 113 rfl (gq ak)<|qP 113 rfl (gq ak)<|qP 113 rfl (gq ak)<|qP 113 rfl (gq ak)<|qP 113 rfl (gq ak)<|qP 113 rfl (gq ak)<|qP 113 rfl (gq ak)<|qv (v:=(.bool true)) rfl (fun _ hC=>Xm (congrArg Value.bool ak) rfl) ?_;refine Y1 ?_;intro fb hC;replace hC:Zf al b1 al fb:=.of_below hC.below;replace bh:=bh.gr hC;replace ae:=ae.gr hC;replace ad:=ad.gr hC;replace ab:=ab.grow hC;exact ⟨al,true,hm,ab,ae,ad,bh,rfl,rfl,rfl,rfl,rfl,rfl⟩
     rw [if_neg ak] at hm;replace ak:=Bool.eq_false_iff.2 ak;refine qG 113 rfl (gq ak)<|qv rfl (fun _ hC=>Yr rfl) ?_;refine qG 113 rfl (gq ak)<|qv (v:=(.pointer ((some (⟨ag,0,none⟩:Addr)).map (·.add 4)))) rfl (fun _ hC=>Xn (sz:=1) (off:=4) underlying32 rfl sizeOf22 (by decide) rfl rfl ⟨_,_,rfl⟩) ?_;refine qG 113 rfl (gq ak)<|qv rfl (fun _ hC=>Zn isAgg22 rfl (((ad.atN).nth (q:=4) rfl).gr (hC.bl al))) ?_;refine qG 113 rfl (gq ak)<|qv rfl (fun _ hC=>Xp rfl) ?_;refine qG 113 rfl (gq ak) ?_;refine qv rfl (fun _ hC=>Zx underlying22 sizeOf9 rfl rfl (Zi bt).1 (Zi bt).2.1 ((bn.ks ab).addr bt)) ?_;refine qG 113 rfl (gq ak)<|qv rfl (fun _ hC=>Zn isAgg9 rfl (((bn.ks ab).gr (hC.bl al)).atStr bt)) ?_;refine qG 113 rfl (gq ak) ?_;obtain ⟨cv,fc,hm⟩:=bZ hm;refine qc (v:=(.int .i64 cv)) rfl (fun _ hC=>⟨_,_,Xa call81 rfl rfl,(Zgz N (Z3 4 al) _ b7 b8 bm dj ((bh.gr (hC.bl al)).toSlF Z2.str) cv fc).mono fun _ _ h=>⟨h.1,hC.trans (.of_below h.2)⟩⟩) ?_;refine qG 113 rfl (gq ak)<|qv rfl (fun _ hC=>Uq _ _ rfl rfl) ?_;refine qv (v:=(.bool (decide (0≤cv)))) rfl (fun _ hC=>Xr (congrArg Value.bool ak) rfl) ?_;refine Y1 ?_;intro fd hC;replace hC:Zf al b1 al fd:=.of_below hC.below;replace bh:=bh.gr hC;replace ae:=ae.gr hC;replace ad:=ad.gr hC;replace ab:=ab.grow hC;exact ⟨al,(decide (0≤cv)),hm,ab,ae,ad,bh,rfl,rfl,rfl,rfl,rfl,rfl⟩
    rw [if_neg (Zz hb)] at hm;refine Xl (Xk ?_);refine Zb<|Zb<|Zd<|Zk rfl<|lV _ (Zs underlying22 rfl)<|Z9 am 1 underlying27 rfl sizeOf22 isAgg22 ae rfl<|lV _ (Zs underlying22 rfl)<|lV _ (Yk _ _ rfl rfl)<|Zc ?_;refine Zy _ rfl (fun hb=>?_) (fun hb=>?_)
    ·rw [if_pos hb] at hm;refine Zb<|Zd<|Zj rfl<|Zc<|Zq ?_;cases hm;exact ⟨rfl,rfl,ab.below⟩
    rw [if_neg (Zz hb)] at hm;refine Zr<|Zb<|Zd<|Zj rfl<|Zc<|Zq ?_;cases hm;exact ⟨rfl,rfl,ab.below⟩
 refine Zd<|Xf rfl<|lV _ (V3 _ rfl)<|Xf rfl ?_;by_cases a0:(!dc)=true
 ·rw [if_pos a0] at hm;refine lP 21 rfl (by rw [a0];rfl)<|lP 21 rfl (by rw [a0];rfl)<|lP 21 rfl (by rw [a0];rfl)<|lV (.bool true) (Xm (congrArg Value.bool a0) rfl)<|Xf rfl<|lP 26 rfl rfl<|lP 26 rfl rfl<|lP 26 rfl rfl<|lV (.bool true) (Xm rfl rfl)<|Zc ?_;exact ⟨bo,true,hm,ab,ae,ad,rfl,rfl,rfl,rfl⟩
 rw [if_neg a0] at hm;replace a0:=Bool.eq_false_iff.2 a0;refine lG 21 rfl (by rw [a0];rfl)<|lF ag 3 underlying32 rfl sizeOf28<|lG 21 rfl (by rw [a0];rfl)<|lV _ (Zn isAgg28 rfl ((ad.atN).nth (q:=3) rfl))<|lG 21 rfl (by rw [a0];rfl)<|lV _ (Z4 _ _ rfl rfl)<|lV (.bool (decide (aa.2.2.2.1<1))) (Xr (congrArg Value.bool a0) rfl)<|Xf rfl ?_;by_cases a1:(decide (aa.2.2.2.1<1))=true
 ·rw [if_pos a1] at hm;refine lP 26 rfl (gq a1)<|lP 26 rfl (gq a1)<|lP 26 rfl (gq a1)<|lV (.bool true) (Xm (congrArg Value.bool a1) rfl)<|Zc ?_;exact ⟨bo,true,hm,ab,ae,ad,rfl,rfl,rfl,rfl⟩
 rw [if_neg a1] at hm;replace a1:=Bool.eq_false_iff.2 a1;refine lG 26 rfl (gq a1)<|lF ag 3 underlying32 rfl sizeOf28<|lG 26 rfl (gq a1)<|lV _ (Zn isAgg28 rfl ((ad.atN).nth (q:=3) rfl))<|lG 26 rfl (gq a1)<|lV _ (Wa _ _ rfl rfl)<|lV (.bool (decide (3<aa.2.2.2.1))) (Xr (congrArg Value.bool a1) rfl)<|Zc ?_;exact ⟨bo,(decide (3<aa.2.2.2.1)),hm,ab,ae,ad,rfl,rfl,rfl,rfl⟩
def Zdl (N:Nat) (ab:(List (ByteArray×ByteArray))) (ac:(List (ByteArray×ByteArray))):Nat→Int→Option Bool
  | 0,_=>none
  | af+1,aa=>if (decide (aa<(ab.length:Int)))=true then ((Zv ab aa).bind fun ad=>(Zv ac aa).bind fun ae=>if (!(decide (ad.1=ae.1)&&decide (ad.2=ae.2)))=true then (some false) else ((Zdl N ab ac af) (i64.wrap (aa+1)))) else (some true)
termination_by structural x=>x
def Zgf (N:Nat) (aa:(List (ByteArray×ByteArray))) (ab:(List (ByteArray×ByteArray))):Option Bool:=
  if (!decide ((aa.length:Int)=(ab.length:Int)))=true then (some false) else (Zdl N aa ab N 0)
theorem Zns (N:Nat) (col:Zh) (w0:World) (a0:Option Addr) (ak:Nat) (af:(List (ByteArray×ByteArray))) (a1:Option Addr) (al:Nat) (ag:(List (ByteArray×ByteArray))) (h0:Sl (Za.pair Za.str Za.str) col w0 a0 ak af) (h1:Sl (Za.pair Za.str Za.str) col w0 a1 al ag) (r:Bool) (hm:Zgf N af ag=some r):
    Calls Tryz.prog 198 #[.slice a0 af.length ak,.slice a1 ag.length al] w0 (fun e w'=>e= .returned ((.bool r))∧Below w0.heap.size w0 w'):=by
 refine Xv 4 (m:=26) func198 rfl rfl rfl rfl rfl ?_;rw [Zgf.eq_1] at hm;have aa:=St.start col w0;refine Zb<|Zd<|Xc rfl<|Zc<|Zb<|Zb<|Zd<|Zk rfl<|lV _ (Zs underlying29 rfl)<|Zk rfl<|lV _ (Zs underlying29 rfl)<|lV _ (Yk _ _ rfl rfl)<|Zc ?_;replace h0:=h0.keep (Zp.start col w0);replace h1:=h1.keep (Zp.start col w0);refine Zy _ rfl (fun hb=>?_) (fun hb=>?_)
 ·rw [if_pos hb] at hm;refine Zb<|Zd<|Xc rfl<|Zc<|Zq ?_;cases hm;exact ⟨rfl,rfl,aa.below⟩
 rw [if_neg (Zz hb)] at hm;refine Zr<|Zb<|Zb<|Zd<|Zj rfl<|Zc<|Z0<|Xi (fun n f am=>∃ (ab:Zh) (ah:Int) (ac:Nat),ac=n∧Zdl N af ag ac ah=some r∧St w0 (Zo col) ab am∧f 0=(.slice a0 af.length ak)∧f 1=(.slice a1 ag.length al)∧f 5=(.int .i64 ah)∧f 1000000=(enc [])) N ⟨(Zo col),0,N,rfl,hm,aa,rfl,rfl,rfl,rfl⟩ ?_;clear hm;intro n f am hI;obtain ⟨ab,ah,ac,hn,hm,aa,an,ao,ap,aq⟩:=hI;subst hn;refine .lD 0 an<|.lD 1 ao<|.lD 5 ap<|.lD 1000000 aq ?_
 cases ac with
 | zero=>rw [Zdl.eq_1] at hm;cases hm
 | succ ac=>
  rw [Zdl.eq_2] at hm;refine Zb<|Zb<|Zd<|Zg rfl<|Zk rfl<|lV _ (Zs underlying29 rfl)<|lV _ (Z4 _ _ rfl rfl)<|Zc ?_;refine Zy _ rfl (fun hb=>?_) (fun hb=>?_)
  ·rw [if_pos hb] at hm;refine Zr<|Zb<|Z0<|Zb<|W5 (col:=ab) (by kernel_rfl) (by kernel_rfl)<|qv rfl (fun _ hC=>Yr rfl) ?_;refine qv rfl (fun _ hC=>Xp rfl) ?_;obtain ⟨ad,ai,hm⟩:=bZ hm;refine qv rfl (fun _ hC=>Zx underlying29 sizeOf109 rfl rfl (Zi ai).1 (Zi ai).2.1 ((h0.ks aa).addr ai)) ?_;obtain ⟨_,ar,au⟩:=(h0.ks aa).atN ai;obtain ⟨_,_,rfl,av,aw⟩:=Wu ar;obtain ⟨rfl,_⟩:=av;obtain ⟨rfl,_⟩:=aw;refine qv (v:=(.agg #[.string ad.1,.string ad.2])) rfl (fun _ hC=>Wt isAgg109 sizeOf109 rfl rfl (au.gr (hC.bl ab))) ?_;refine qv rfl (fun _ hC=>Yr rfl) ?_;refine qv rfl (fun _ hC=>Xp rfl) ?_;obtain ⟨ae,aj,hm⟩:=bZ hm;refine qv rfl (fun _ hC=>Zx underlying29 sizeOf109 rfl rfl (Zi aj).1 (Zi aj).2.1 ((h1.ks aa).addr aj)) ?_;obtain ⟨_,ax,ay⟩:=(h1.ks aa).atN aj;obtain ⟨_,_,rfl,az,a2⟩:=Wu ax;obtain ⟨rfl,_⟩:=az;obtain ⟨rfl,_⟩:=a2;refine qv (v:=(.agg #[.string ae.1,.string ae.2])) rfl (fun _ hC=>Wt isAgg109 sizeOf109 rfl rfl (ay.gr (hC.bl ab))) ?_;refine qv (v:=(.bool (!(decide (ad.1=ae.1)&&decide (ad.2=ae.2))))) rfl (fun _ hC=>Zr0 rfl rfl (by decide+kernel) (Zwq underlying109 (by decide+kernel) (by decide) (by decide) (Zbt isAgg9 rfl) (Zbt isAgg9 rfl) (Zbt isAgg9 rfl) (Zbt isAgg9 rfl) (Zra ad.1 ae.1 underlying9) (Zra ad.2 ae.2 underlying9))) ?_;refine Y1 ?_;intro a3 hC;replace hC:Zf ab am ab a3:=.of_below hC.below;replace aa:=aa.grow hC;refine Zy _ rfl (fun hb=>?_) (fun hb=>?_)
   ·rw [if_pos hb] at hm;refine Zb<|Zd<|Xc rfl<|Zc<|Zq ?_;cases hm;exact ⟨rfl,rfl,aa.below⟩
   rw [if_neg (Zz hb)] at hm;refine Zr<|Zd<|Zg rfl<|lV _ (Z5 _ _ rfl rfl)<|Zj rfl<|Zc ?_;exact ⟨ac,by omega,⟨ab,(i64.wrap (ah+1)),ac,rfl,hm,aa,rfl,rfl,rfl,rfl⟩⟩
  rw [if_neg (Zz hb)] at hm;refine Xl (Xk ?_);refine Zb<|Zd<|Xc rfl<|Zc<|Zq ?_;cases hm;exact ⟨rfl,rfl,aa.below⟩
def Zjz (aa:Bool):Option Bool:=
  some aa
def Zdj (N:Nat) (aa:(Int×(List (ByteArray×ByteArray))×(List (ByteArray×ByteArray))×Int×List ByteArray×(Bool×Bool))) (ab:(Int×(List (ByteArray×ByteArray))×(List (ByteArray×ByteArray))×Int×List ByteArray×(Bool×Bool))):Nat→Int→Option Bool
  | 0,_=>none
  | ad+1,ac=>if (decide (ac<(aa.2.2.2.2.1.length:Int)))=true then ((Zv aa.2.2.2.2.1 ac).bind fun ae=>(Zv ab.2.2.2.2.1 ac).bind fun af=>if (!decide (ae=af))=true then (some false) else ((Zdj N aa ab ad) (i64.wrap (ac+1)))) else ((Zgf N aa.2.1 ab.2.1).bind fun ag=>if ag=true then ((Zgf N aa.2.2.1 ab.2.2.1).bind fun ah=>Zjz ah) else (Zjz false))
termination_by structural x=>x
def Zdi (N:Nat) (aa:(Int×(List (ByteArray×ByteArray))×(List (ByteArray×ByteArray))×Int×List ByteArray×(Bool×Bool))) (ab:(Int×(List (ByteArray×ByteArray))×(List (ByteArray×ByteArray))×Int×List ByteArray×(Bool×Bool))) (ac:Bool):Option Bool:=
  if ac=true then (some false) else (Zdj N aa ab N 0)
def Zge (N:Nat) (aa:(Int×(List (ByteArray×ByteArray))×(List (ByteArray×ByteArray))×Int×List ByteArray×(Bool×Bool))) (ab:(Int×(List (ByteArray×ByteArray))×(List (ByteArray×ByteArray))×Int×List ByteArray×(Bool×Bool))):Option Bool:=
  if (!decide (aa.1=ab.1))=true then (Zdi N aa ab true) else (if (!decide (aa.2.2.2.1=ab.2.2.2.1))=true then (Zdi N aa ab true) else (if (!(decide (aa.2.2.2.2.2.1=ab.2.2.2.2.2.1)&&decide (aa.2.2.2.2.2.2=ab.2.2.2.2.2.2)))=true then (Zdi N aa ab true) else (Zdi N aa ab (!decide ((aa.2.2.2.2.1.length:Int)=(ab.2.2.2.2.1.length:Int))))))
theorem Zvs (N:Nat) (col:Zh) (w0:World) (ao:Option Addr) (ap:Nat) (aq:Option Addr) (ar:Nat) (a1:Option Addr) (a2:Nat) (aa:(Int×(List (ByteArray×ByteArray))×(List (ByteArray×ByteArray))×Int×List ByteArray×(Bool×Bool))) (au:Option Addr) (av:Nat) (aw:Option Addr) (ax:Nat) (a3:Option Addr) (a4:Nat) (ab:(Int×(List (ByteArray×ByteArray))×(List (ByteArray×ByteArray))×Int×List ByteArray×(Bool×Bool))) (bc:Sl (Za.pair Za.str Za.str) col w0 ao ap aa.2.1) (bd:Sl (Za.pair Za.str Za.str) col w0 aq ar aa.2.2.1) (a5:Sl Za.str col w0 a1 a2 aa.2.2.2.2.1) (be:Sl (Za.pair Za.str Za.str) col w0 au av ab.2.1) (bf:Sl (Za.pair Za.str Za.str) col w0 aw ax ab.2.2.1) (a6:Sl Za.str col w0 a3 a4 ab.2.2.2.2.1) (r:Bool) (hm:Zge N aa ab=some r):
    Calls Tryz.prog 83 #[(.agg #[.int .i8 aa.1,.slice ao aa.2.1.length ap,.slice aq aa.2.2.1.length ar,.int .i8 aa.2.2.2.1,.slice a1 aa.2.2.2.2.1.length a2,.bool aa.2.2.2.2.2.1,.bool aa.2.2.2.2.2.2]),(.agg #[.int .i8 ab.1,.slice au ab.2.1.length av,.slice aw ab.2.2.1.length ax,.int .i8 ab.2.2.2.1,.slice a3 ab.2.2.2.2.1.length a4,.bool ab.2.2.2.2.2.1,.bool ab.2.2.2.2.2.2])] w0 (fun e w'=>e= .returned ((.bool r))∧Below w0.heap.size w0 w'):=by
 refine Xv 4 (m:=64) func83 rfl rfl rfl rfl rfl ?_;rw [Zge.eq_1] at hm;have ac:=St.start col w0;refine Zb<|Zd<|X3 (col:=(Zo col)) 1 rfl ?_;intro ak b2 bs bt ad;refine X3 (col:=bs) 2 rfl ?_;intro al b3 a7 bn ag;refine Xc rfl<|Zc<|Zb<|Zb ?_;replace bc:=bc.keep (Zp.start col w0);replace bd:=bd.keep (Zp.start col w0);replace a5:=a5.keep (Zp.start col w0);replace be:=be.keep (Zp.start col w0);replace bf:=bf.keep (Zp.start col w0);replace a6:=a6.keep (Zp.start col w0);replace ac:=(ac.grow bt).grow bn;replace ad:=ad.gr bn;refine Wp.cut (fun f a8=>∃ (ay:Zh) (bg:Bool),Zdi N aa ab bg=some r∧St w0 (Zo col) ay a8∧Zt 32 1 ay a8 ak #[.int .i8 aa.1,.slice ao aa.2.1.length ap,.slice aq aa.2.2.1.length ar,.int .i8 aa.2.2.2.1,.slice a1 aa.2.2.2.2.1.length a2,.bool aa.2.2.2.2.2.1,.bool aa.2.2.2.2.2.2]∧Zt 32 2 ay a8 al #[.int .i8 ab.1,.slice au ab.2.1.length av,.slice aw ab.2.2.1.length ax,.int .i8 ab.2.2.2.1,.slice a3 ab.2.2.2.2.1.length a4,.bool ab.2.2.2.2.2.1,.bool ab.2.2.2.2.2.2]∧f 2=(.pointer (some ⟨ak,0,none⟩))∧f 3=(.pointer (some ⟨al,0,none⟩))∧f 33=(.bool bg)∧f 1000000=(enc [])) ?_ ?_
 ·intro f a8 hJ;obtain ⟨ay,bg,hm,ac,ad,ag,bh,bi,bu,az⟩:=hJ;rw [Zdi.eq_1] at hm;refine .lD 2 bh<|.lD 3 bi<|.lD 33 bu<|.lD 1000000 az ?_;refine Zy _ rfl (fun hb=>?_) (fun hb=>?_)
  ·rw [if_pos hb] at hm;refine Zb<|Zd<|Xc rfl<|Zc<|Zq ?_;cases hm;exact ⟨rfl,rfl,ac.below⟩
  rw [if_neg (Zz hb)] at hm;refine Zr<|Zb<|Zb<|Zd<|Zj rfl<|Zc<|Z0<|Xi (fun n f an=>∃ (ae:Zh) (a9:Int) (am:Nat),am=n∧Zdj N aa ab am a9=some r∧St w0 (Zo col) ae an∧Zt 32 1 ae an ak #[.int .i8 aa.1,.slice ao aa.2.1.length ap,.slice aq aa.2.2.1.length ar,.int .i8 aa.2.2.2.1,.slice a1 aa.2.2.2.2.1.length a2,.bool aa.2.2.2.2.2.1,.bool aa.2.2.2.2.2.2]∧Zt 32 2 ae an al #[.int .i8 ab.1,.slice au ab.2.1.length av,.slice aw ab.2.2.1.length ax,.int .i8 ab.2.2.2.1,.slice a3 ab.2.2.2.2.1.length a4,.bool ab.2.2.2.2.2.1,.bool ab.2.2.2.2.2.2]∧f 2=(.pointer (some ⟨ak,0,none⟩))∧f 3=(.pointer (some ⟨al,0,none⟩))∧f 5=(.int .i64 a9)∧f 1000000=(enc [])) N ⟨ay,0,N,rfl,hm,ac,ad,ag,rfl,rfl,rfl,rfl⟩ ?_;clear hm;intro n f an hI;obtain ⟨ae,a9,am,hn,hm,ac,ad,ag,bh,bi,bv,az⟩:=hI;subst hn;refine .lD 2 bh<|.lD 3 bi<|.lD 5 bv<|.lD 1000000 az ?_
  cases am with
  | zero=>rw [Zdj.eq_1] at hm;cases hm
  | succ am=>
   rw [Zdj.eq_2] at hm;refine Zb<|Zb<|Zd<|Zg rfl<|Z9 ak 4 underlying32 rfl sizeOf22 isAgg22 ad rfl<|lV _ (Zs underlying22 rfl)<|lV _ (Z4 _ _ rfl rfl)<|Zc ?_;refine Zy _ rfl (fun hb=>?_) (fun hb=>?_)
   ·rw [if_pos hb] at hm;refine Zr<|Zb<|Z0<|Zb<|W5 (col:=ae) (by kernel_rfl) (by kernel_rfl)<|qv (v:=(.pointer ((some (⟨ak,0,none⟩:Addr)).map (·.add 4)))) rfl (fun _ hC=>Xn (sz:=1) (off:=4) underlying32 rfl sizeOf22 (by decide) rfl rfl ⟨_,_,rfl⟩) ?_;refine qv rfl (fun _ hC=>Zn isAgg22 rfl (((ad.atN).nth (q:=4) rfl).gr (hC.bl ae))) ?_;refine qv rfl (fun _ hC=>Xp rfl) ?_;obtain ⟨b4,ba,hm⟩:=bZ hm;refine qv rfl (fun _ hC=>Zx underlying22 sizeOf9 rfl rfl (Zi ba).1 (Zi ba).2.1 ((a5.ks ac).addr ba)) ?_;refine qv rfl (fun _ hC=>Zn isAgg9 rfl (((a5.ks ac).gr (hC.bl ae)).atStr ba)) ?_;refine qv (v:=(.pointer ((some (⟨al,0,none⟩:Addr)).map (·.add 4)))) rfl (fun _ hC=>Xn (sz:=1) (off:=4) underlying32 rfl sizeOf22 (by decide) rfl rfl ⟨_,_,rfl⟩) ?_;refine qv rfl (fun _ hC=>Zn isAgg22 rfl (((ag.atN).nth (q:=4) rfl).gr (hC.bl ae))) ?_;refine qv rfl (fun _ hC=>Xp rfl) ?_;obtain ⟨b5,bb,hm⟩:=bZ hm;refine qv rfl (fun _ hC=>Zx underlying22 sizeOf9 rfl rfl (Zi bb).1 (Zi bb).2.1 ((a6.ks ac).addr bb)) ?_;refine qv rfl (fun _ hC=>Zn isAgg9 rfl (((a6.ks ac).gr (hC.bl ae)).atStr bb)) ?_;refine qv rfl (fun _ hC=>Zmc _ _ underlying9 rfl rfl) ?_;refine Y1 ?_;intro bw hC;replace hC:Zf ae an ae bw:=.of_below hC.below;replace ad:=ad.gr hC;replace ag:=ag.gr hC;replace ac:=ac.grow hC;refine Zy _ rfl (fun hb=>?_) (fun hb=>?_)
    ·rw [if_pos hb] at hm;refine Zb<|Zd<|Xc rfl<|Zc<|Zq ?_;cases hm;exact ⟨rfl,rfl,ac.below⟩
    rw [if_neg (Zz hb)] at hm;refine Zr<|Zd<|Zg rfl<|lV _ (Z5 _ _ rfl rfl)<|Zj rfl<|Zc ?_;exact ⟨am,by omega,⟨ae,(i64.wrap (a9+1)),am,rfl,hm,ac,ad,ag,rfl,rfl,rfl,rfl⟩⟩
   rw [if_neg (Zz hb)] at hm;refine Xl (Xk ?_);refine Zb ?_;refine Wp.cut (fun f bo=>∃ (bp:Zh) (bj:Bool),Zjz bj=some r∧St w0 (Zo col) bp bo∧f 4=(.bool bj)∧f 1000000=(enc [])) ?_ ?_
   ·intro f bo hJ;obtain ⟨bp,bj,hm,ac,bx,az⟩:=hJ;rw [Zjz.eq_1] at hm;refine .lD 4 bx<|.lD 1000000 az<|Zq ?_;cases hm;exact ⟨rfl,rfl,ac.below⟩
   refine Zd<|Z9 ak 1 underlying32 rfl sizeOf29 isAgg29 ad rfl<|Z9 al 1 underlying32 rfl sizeOf29 isAgg29 ag rfl ?_;obtain ⟨bq,bz,hm⟩:=bZ hm;refine lc rfl rfl (Xa call198 rfl rfl) (Zns N ae _ ao ap aa.2.1 au av ab.2.1 (bc.ks ac) (be.ks ac) bq bz) ?_;rintro _ br ⟨rfl,a0⟩;refine ⟨_,rfl,?_⟩;replace a0:Zf ae an ae br:=.of_below a0;refine Xf rfl ?_;replace ad:=ad.gr a0;replace ag:=ag.gr a0;replace ac:=ac.grow a0;by_cases ah:bq=true
   ·rw [if_pos ah] at hm;refine lG 57 rfl (gq ah)<|lF ak 2 underlying32 rfl sizeOf29<|lG 57 rfl (gq ah)<|lV _ (Zn isAgg29 rfl ((ad.atN).nth (q:=2) rfl))<|lG 57 rfl (gq ah)<|lF al 2 underlying32 rfl sizeOf29<|lG 57 rfl (gq ah)<|lV _ (Zn isAgg29 rfl ((ag.atN).nth (q:=2) rfl))<|lG 57 rfl (gq ah) ?_;obtain ⟨bk,b0,hm⟩:=bZ hm;refine lc rfl rfl (Xa call198 rfl rfl) (Zns N ae _ aq ar aa.2.2.1 aw ax ab.2.2.1 (bd.ks ac) (bf.ks ac) bk b0) ?_;rintro _ b1 ⟨rfl,bm⟩;refine ⟨_,rfl,?_⟩;replace bm:Zf ae br ae b1:=.of_below bm;refine lV (.bool bk) (Xm (congrArg Value.bool ah) rfl)<|Xc rfl<|Zc ?_;replace ac:=ac.grow bm;exact ⟨ae,bk,hm,ac,rfl,rfl⟩
   rw [if_neg ah] at hm;replace ah:=Bool.eq_false_iff.2 ah;refine lP 57 rfl (gq ah)<|lP 57 rfl (gq ah)<|lP 57 rfl (gq ah)<|lP 57 rfl (gq ah)<|lP 57 rfl (gq ah)<|lV (.bool false) (Xr (congrArg Value.bool ah) rfl)<|Xc rfl<|Zc ?_;exact ⟨ae,false,hm,ac,rfl,rfl⟩
 refine Zd<|Z9 ak 0 underlying32 rfl sizeOf28 isAgg28 ad rfl<|Z9 al 0 underlying32 rfl sizeOf28 isAgg28 ag rfl<|lV _ (Yk _ _ rfl rfl)<|Xf rfl ?_;by_cases ai:(!decide (aa.1=ab.1))=true
 ·rw [if_pos ai] at hm;refine lP 11 rfl (by rw [ai];rfl)<|lP 11 rfl (by rw [ai];rfl)<|lP 11 rfl (by rw [ai];rfl)<|lP 11 rfl (by rw [ai];rfl)<|lP 11 rfl (by rw [ai];rfl)<|lV (.bool true) (Xm (congrArg Value.bool ai) rfl)<|Xf rfl<|lP 18 rfl rfl<|lP 18 rfl rfl<|lP 18 rfl rfl<|lP 18 rfl rfl<|lP 18 rfl rfl<|lV (.bool true) (Xm rfl rfl)<|Xf rfl<|lP 25 rfl rfl<|lP 25 rfl rfl<|lP 25 rfl rfl<|lP 25 rfl rfl<|lP 25 rfl rfl<|lP 25 rfl rfl<|lP 25 rfl rfl<|lV (.bool true) (Xm rfl rfl)<|Zc ?_;exact ⟨a7,true,hm,ac,ad,ag,rfl,rfl,rfl,rfl⟩
 rw [if_neg ai] at hm;replace ai:=Bool.eq_false_iff.2 ai;refine lG 11 rfl (by rw [ai];rfl)<|lF ak 3 underlying32 rfl sizeOf28<|lG 11 rfl (by rw [ai];rfl)<|lV _ (Zn isAgg28 rfl ((ad.atN).nth (q:=3) rfl))<|lG 11 rfl (by rw [ai];rfl)<|lF al 3 underlying32 rfl sizeOf28<|lG 11 rfl (by rw [ai];rfl)<|lV _ (Zn isAgg28 rfl ((ag.atN).nth (q:=3) rfl))<|lG 11 rfl (by rw [ai];rfl)<|lV _ (Yk _ _ rfl rfl)<|lV (.bool (!decide (aa.2.2.2.1=ab.2.2.2.1))) (Xr (congrArg Value.bool ai) rfl)<|Xf rfl ?_;by_cases aj:(!decide (aa.2.2.2.1=ab.2.2.2.1))=true
 ·rw [if_pos aj] at hm;refine lP 18 rfl (by rw [aj];rfl)<|lP 18 rfl (by rw [aj];rfl)<|lP 18 rfl (by rw [aj];rfl)<|lP 18 rfl (by rw [aj];rfl)<|lP 18 rfl (by rw [aj];rfl)<|lV (.bool true) (Xm (congrArg Value.bool aj) rfl)<|Xf rfl<|lP 25 rfl rfl<|lP 25 rfl rfl<|lP 25 rfl rfl<|lP 25 rfl rfl<|lP 25 rfl rfl<|lP 25 rfl rfl<|lP 25 rfl rfl<|lV (.bool true) (Xm rfl rfl)<|Zc ?_;exact ⟨a7,true,hm,ac,ad,ag,rfl,rfl,rfl,rfl⟩
 rw [if_neg aj] at hm;replace aj:=Bool.eq_false_iff.2 aj;refine lG 18 rfl (by rw [aj];rfl)<|lF ak 5 underlying32 rfl sizeOf30<|lG 18 rfl (by rw [aj];rfl)<|lV (.agg #[.bool aa.2.2.2.2.2.1,.bool aa.2.2.2.2.2.2]) (Wt isAgg30 sizeOf30 rfl rfl ((ad.atN).part 5 2 _ rfl))<|lG 18 rfl (by rw [aj];rfl)<|lF al 5 underlying32 rfl sizeOf30<|lG 18 rfl (by rw [aj];rfl)<|lV (.agg #[.bool ab.2.2.2.2.2.1,.bool ab.2.2.2.2.2.2]) (Wt isAgg30 sizeOf30 rfl rfl ((ag.atN).part 5 2 _ rfl))<|lG 18 rfl (by rw [aj];rfl)<|lV (.bool (!(decide (aa.2.2.2.2.2.1=ab.2.2.2.2.2.1)&&decide (aa.2.2.2.2.2.2=ab.2.2.2.2.2.2)))) (Zr0 rfl rfl (by decide+kernel) (Zwp underlying30 sizeOf4 (Zbt isAgg4 rfl) (Zbt isAgg4 rfl) (Zbt isAgg4 rfl) (Zbt isAgg4 rfl) (Zq9 aa.2.2.2.2.2.1 ab.2.2.2.2.2.1 underlying4) (Zq9 aa.2.2.2.2.2.2 ab.2.2.2.2.2.2 underlying4)))<|lV (.bool (!(decide (aa.2.2.2.2.2.1=ab.2.2.2.2.2.1)&&decide (aa.2.2.2.2.2.2=ab.2.2.2.2.2.2)))) (Xr (congrArg Value.bool aj) rfl)<|Xf rfl ?_;by_cases af:(!(decide (aa.2.2.2.2.2.1=ab.2.2.2.2.2.1)&&decide (aa.2.2.2.2.2.2=ab.2.2.2.2.2.2)))=true
 ·rw [if_pos af] at hm;refine lP 25 rfl (by rw [af];rfl)<|lP 25 rfl (by rw [af];rfl)<|lP 25 rfl (by rw [af];rfl)<|lP 25 rfl (by rw [af];rfl)<|lP 25 rfl (by rw [af];rfl)<|lP 25 rfl (by rw [af];rfl)<|lP 25 rfl (by rw [af];rfl)<|lV (.bool true) (Xm (congrArg Value.bool af) rfl)<|Zc ?_;exact ⟨a7,true,hm,ac,ad,ag,rfl,rfl,rfl,rfl⟩
 rw [if_neg af] at hm;replace af:=Bool.eq_false_iff.2 af;refine lG 25 rfl (by rw [af];rfl)<|lF ak 4 underlying32 rfl sizeOf22<|lG 25 rfl (by rw [af];rfl)<|lV _ (Zn isAgg22 rfl ((ad.atN).nth (q:=4) rfl))<|lG 25 rfl (by rw [af];rfl)<|lV _ (Zs underlying22 rfl)<|lG 25 rfl (by rw [af];rfl)<|lF al 4 underlying32 rfl sizeOf22<|lG 25 rfl (by rw [af];rfl)<|lV _ (Zn isAgg22 rfl ((ag.atN).nth (q:=4) rfl))<|lG 25 rfl (by rw [af];rfl)<|lV _ (Zs underlying22 rfl)<|lG 25 rfl (by rw [af];rfl)<|lV _ (Yk _ _ rfl rfl)<|lV (.bool (!decide ((aa.2.2.2.2.1.length:Int)=(ab.2.2.2.2.1.length:Int)))) (Xr (congrArg Value.bool af) rfl)<|Zc ?_;exact ⟨a7,(!decide ((aa.2.2.2.2.1.length:Int)=(ab.2.2.2.2.1.length:Int))),hm,ac,ad,ag,rfl,rfl,rfl,rfl⟩
def Qw (aa:Bool):Option Bool:=
  some aa
def Zer (N:Nat) (aa:(Int×(Nat×(List (ByteArray×ByteArray)))×(Nat×(List (ByteArray×ByteArray)))×Int×(Nat×List ByteArray)×(Bool×Bool))) (ab:(Int×(List (ByteArray×ByteArray))×(List (ByteArray×ByteArray))×Int×List ByteArray×(Bool×Bool))):Option Bool:=
  (Zge N (aa.1,aa.2.1.2.take aa.2.1.1,aa.2.2.1.2.take aa.2.2.1.1,aa.2.2.2.1,aa.2.2.2.2.1.2.take aa.2.2.2.2.1.1,(aa.2.2.2.2.2.1,aa.2.2.2.2.2.2)) (ab.1,ab.2.1,ab.2.2.1,ab.2.2.2.1,ab.2.2.2.2.1,(ab.2.2.2.2.2.1,ab.2.2.2.2.2.2))).bind fun ac=>if (!ac)=true then (some false) else (Xb ((0:Int)≤(i64.wrap (((aa.2.1.2.take aa.2.1.1).length:Int)+2))∧(i64.wrap (((aa.2.1.2.take aa.2.1.1).length:Int)+2))≤(aa.2.1.2.length:Int)) (Xb ((0:Int)≤(i64.wrap (((aa.2.2.1.2.take aa.2.2.1.1).length:Int)+2))∧(i64.wrap (((aa.2.2.1.2.take aa.2.2.1.1).length:Int)+2))≤(aa.2.2.1.2.length:Int)) (Xb ((0:Int)≤(i64.wrap (((aa.2.2.2.2.1.2.take aa.2.2.2.2.1.1).length:Int)+2))∧(i64.wrap (((aa.2.2.2.2.1.2.take aa.2.2.2.2.1.1).length:Int)+2))≤(aa.2.2.2.2.1.2.length:Int)) ((Zv (aa.2.1.2.take (Int.toNat (i64.wrap (((aa.2.1.2.take aa.2.1.1).length:Int)+2)))) (i64.wrap (((aa.2.1.2.take (Int.toNat (i64.wrap (((aa.2.1.2.take aa.2.1.1).length:Int)+2)))).length:Int) - 2))).bind fun ad=>if (decide (ad.1=(⟨#[35,49]⟩)))=true then ((Zv (aa.2.1.2.take (Int.toNat (i64.wrap (((aa.2.1.2.take aa.2.1.1).length:Int)+2)))) (i64.wrap (((aa.2.1.2.take (Int.toNat (i64.wrap (((aa.2.1.2.take aa.2.1.1).length:Int)+2)))).length:Int) - 1))).bind fun ae=>if (decide (ae.1=(⟨#[35,50]⟩)))=true then ((Zv (aa.2.2.1.2.take (Int.toNat (i64.wrap (((aa.2.2.1.2.take aa.2.2.1.1).length:Int)+2)))) (i64.wrap (((aa.2.2.1.2.take (Int.toNat (i64.wrap (((aa.2.2.1.2.take aa.2.2.1.1).length:Int)+2)))).length:Int) - 2))).bind fun af=>if (decide (af.1=(⟨#[35,51]⟩)))=true then ((Zv (aa.2.2.1.2.take (Int.toNat (i64.wrap (((aa.2.2.1.2.take aa.2.2.1.1).length:Int)+2)))) (i64.wrap (((aa.2.2.1.2.take (Int.toNat (i64.wrap (((aa.2.2.1.2.take aa.2.2.1.1).length:Int)+2)))).length:Int) - 1))).bind fun ag=>if (decide (ag.1=(⟨#[35,52]⟩)))=true then ((Zv (aa.2.2.2.2.1.2.take (Int.toNat (i64.wrap (((aa.2.2.2.2.1.2.take aa.2.2.2.2.1.1).length:Int)+2)))) (i64.wrap (((aa.2.2.2.2.1.2.take (Int.toNat (i64.wrap (((aa.2.2.2.2.1.2.take aa.2.2.2.2.1.1).length:Int)+2)))).length:Int) - 2))).bind fun ah=>if (decide (ah=(⟨#[35,53]⟩)))=true then ((Zv (aa.2.2.2.2.1.2.take (Int.toNat (i64.wrap (((aa.2.2.2.2.1.2.take aa.2.2.2.2.1.1).length:Int)+2)))) (i64.wrap (((aa.2.2.2.2.1.2.take (Int.toNat (i64.wrap (((aa.2.2.2.2.1.2.take aa.2.2.2.2.1.1).length:Int)+2)))).length:Int) - 1))).bind fun ai=>Qw (decide (ai=(⟨#[35,54]⟩)))) else (Qw false)) else (Qw false)) else (Qw false)) else (Qw false)) else (Qw false)))))
theorem Zuk (N:Nat) (col:Zh) (w0:World) (am:Option Addr) (ap:Nat) (an:Option Addr) (aq:Nat) (ar:Option Addr) (au:Nat) (aa:(Int×(Nat×(List (ByteArray×ByteArray)))×(Nat×(List (ByteArray×ByteArray)))×Int×(Nat×List ByteArray)×(Bool×Bool))) (a3:Option Addr) (a4:Nat) (a5:Option Addr) (a6:Nat) (a7:Option Addr) (a8:Nat) (ah:(Int×(List (ByteArray×ByteArray))×(List (ByteArray×ByteArray))×Int×List ByteArray×(Bool×Bool))) (aj:Sl (Za.pair Za.str Za.str) col w0 am ap aa.2.1.2) (ak:Sl (Za.pair Za.str Za.str) col w0 an aq aa.2.2.1.2) (ao:Sl Za.str col w0 ar au aa.2.2.2.2.1.2) (a9:Sl (Za.pair Za.str Za.str) col w0 a3 a4 ah.2.1) (ba:Sl (Za.pair Za.str Za.str) col w0 a5 a6 ah.2.2.1) (bb:Sl Za.str col w0 a7 a8 ah.2.2.2.2.1) (r:Bool) (hm:Zer N aa ah=some r):
    Calls Tryz.prog 20 #[(.agg #[.int .i8 aa.1,.slice am ((aa.2.1.2.take aa.2.1.1).length) ap,.slice an ((aa.2.2.1.2.take aa.2.2.1.1).length) aq,.int .i8 aa.2.2.2.1,.slice ar ((aa.2.2.2.2.1.2.take aa.2.2.2.2.1.1).length) au,.bool aa.2.2.2.2.2.1,.bool aa.2.2.2.2.2.2]),(.agg #[.int .i8 ah.1,.slice a3 ah.2.1.length a4,.slice a5 ah.2.2.1.length a6,.int .i8 ah.2.2.2.1,.slice a7 ah.2.2.2.2.1.length a8,.bool ah.2.2.2.2.2.1,.bool ah.2.2.2.2.2.2])] w0 (fun e w'=>e= .returned ((.bool r))∧Below w0.heap.size w0 w'):=by
 refine Xv 4 (m:=89) func20 rfl rfl rfl rfl rfl ?_;rw [Zer.eq_1] at hm;have ab:=St.start col w0;refine Zb<|Zd<|X3 (col:=(Zo col)) 1 rfl ?_;intro av cf bo bp ai;refine X3 (col:=bo) 2 rfl ?_;intro cg bq al bg br;refine Xc rfl<|Zc<|Zb<|Zb<|Zd ?_;replace ai:=ai.gr bg;refine lV _ (Ye isAgg32 sizeOf32 ai)<|lV _ (Ye isAgg32 sizeOf32 br) ?_;obtain ⟨bs,bt,hm⟩:=bZ hm;replace aj:=aj.keep (Zp.start col w0);replace ak:=ak.keep (Zp.start col w0);replace ao:=ao.keep (Zp.start col w0);replace a9:=a9.keep (Zp.start col w0);replace ba:=ba.keep (Zp.start col w0);replace bb:=bb.keep (Zp.start col w0);replace ab:=(ab.grow bp).grow bg;refine lc rfl rfl (Xa call83 rfl rfl) (Zvs N al _ am ap an aq ar au (aa.1,aa.2.1.2.take aa.2.1.1,aa.2.2.1.2.take aa.2.2.1.1,aa.2.2.2.1,aa.2.2.2.2.1.2.take aa.2.2.2.2.1.1,(aa.2.2.2.2.2.1,aa.2.2.2.2.2.2)) a3 a4 a5 a6 a7 a8 (ah.1,ah.2.1,ah.2.2.1,ah.2.2.2.1,ah.2.2.2.2.1,(ah.2.2.2.2.2.1,ah.2.2.2.2.2.2)) ((aj.ks ab).take aa.2.1.1) ((ak.ks ab).take aa.2.2.1.1) ((ao.ks ab).take aa.2.2.2.2.1.1) (a9.ks ab) (ba.ks ab) (bb.ks ab) bs bt) ?_;rintro _ bu ⟨rfl,a0⟩;refine ⟨_,rfl,?_⟩;replace a0:Zf al bq al bu:=.of_below a0;refine lV _ (V3 _ rfl)<|Zc ?_;replace ai:=ai.gr a0;replace ab:=ab.grow a0;refine Zy _ rfl (fun hb=>?_) (fun hb=>?_)
 ·rw [if_pos hb] at hm;refine Zb<|Zd<|Xc rfl<|Zc<|Zq ?_;cases hm;exact ⟨rfl,rfl,ab.below⟩
 rw [if_neg (Zz hb)] at hm;refine Zr<|Zb<|Zd<|Z9 av 1 underlying32 rfl sizeOf29 isAgg29 ai rfl<|Z9 av 1 underlying32 rfl sizeOf29 isAgg29 ai rfl<|lV _ (Zs underlying29 rfl)<|lV _ (Z5 _ _ rfl rfl) ?_;obtain ⟨bc,hm⟩:=Xd hm;refine lv (v:=.slice am (Int.toNat (i64.wrap (((aa.2.1.2.take aa.2.1.1).length:Int)+2))) ap) rfl rfl (Vk underlying29 sizeOf109 rfl rfl bc.1 (by have:=(aj.ks ab).1.2;have:=bc.2;omega))<|.ld (d:=18) (v:=(.slice am ((aa.2.1.2.take (Int.toNat (i64.wrap (((aa.2.1.2.take aa.2.1.1).length:Int)+2)))).length) ap)) (congrArg (fun n=>Value.slice am n ap) (List.length_take_of_le (show (Int.toNat (i64.wrap (((aa.2.1.2.take aa.2.1.1).length:Int)+2)))≤aa.2.1.2.length by have:=bc.2;omega)).symm) ?_;refine Zu rfl<|Zc<|Zb<|Zd<|Z9 av 2 underlying32 rfl sizeOf29 isAgg29 ai rfl<|Z9 av 2 underlying32 rfl sizeOf29 isAgg29 ai rfl<|lV _ (Zs underlying29 rfl)<|lV _ (Z5 _ _ rfl rfl) ?_;obtain ⟨bd,hm⟩:=Xd hm;refine lv (v:=.slice an (Int.toNat (i64.wrap (((aa.2.2.1.2.take aa.2.2.1.1).length:Int)+2))) aq) rfl rfl (Vk underlying29 sizeOf109 rfl rfl bd.1 (by have:=(ak.ks ab).1.2;have:=bd.2;omega))<|.ld (d:=25) (v:=(.slice an ((aa.2.2.1.2.take (Int.toNat (i64.wrap (((aa.2.2.1.2.take aa.2.2.1.1).length:Int)+2)))).length) aq)) (congrArg (fun n=>Value.slice an n aq) (List.length_take_of_le (show (Int.toNat (i64.wrap (((aa.2.2.1.2.take aa.2.2.1.1).length:Int)+2)))≤aa.2.2.1.2.length by have:=bd.2;omega)).symm) ?_;refine Zu rfl<|Zc<|Zb<|Zd<|Z9 av 4 underlying32 rfl sizeOf22 isAgg22 ai rfl<|Z9 av 4 underlying32 rfl sizeOf22 isAgg22 ai rfl<|lV _ (Zs underlying22 rfl)<|lV _ (Z5 _ _ rfl rfl) ?_;obtain ⟨be,hm⟩:=Xd hm;refine lv (v:=.slice ar (Int.toNat (i64.wrap (((aa.2.2.2.2.1.2.take aa.2.2.2.2.1.1).length:Int)+2))) au) rfl rfl (Vk underlying22 sizeOf9 rfl rfl be.1 (by have:=(ao.ks ab).1.2;have:=be.2;omega))<|.ld (d:=32) (v:=(.slice ar ((aa.2.2.2.2.1.2.take (Int.toNat (i64.wrap (((aa.2.2.2.2.1.2.take aa.2.2.2.2.1.1).length:Int)+2)))).length) au)) (congrArg (fun n=>Value.slice ar n au) (List.length_take_of_le (show (Int.toNat (i64.wrap (((aa.2.2.2.2.1.2.take aa.2.2.2.2.1.1).length:Int)+2)))≤aa.2.2.2.2.1.2.length by have:=be.2;omega)).symm) ?_;refine Zu rfl<|Zc<|Zb ?_;refine Wp.cut (fun f bh=>∃ (bi:Zh) (bf:Bool),Qw bf=some r∧St w0 (Zo col) bi bh∧f 4=(.bool bf)∧f 1000000=(enc [])) ?_ ?_
 ·intro f bh hJ;obtain ⟨bi,bf,hm,ab,bv,bw⟩:=hJ;rw [Qw.eq_1] at hm;refine .lD 4 bv<|.lD 1000000 bw<|Zq ?_;cases hm;exact ⟨rfl,rfl,ab.below⟩
 refine Zd<|Zk rfl<|Zk rfl<|lV _ (Zs underlying29 rfl)<|lV _ (Yb _ _ rfl rfl) ?_;obtain ⟨bx,aw,hm⟩:=bZ hm;refine lV _ (Zx underlying29 sizeOf109 rfl rfl (Zi aw).1 (Zi aw).2.1 (((aj.ks ab).take (Int.toNat (i64.wrap (((aa.2.1.2.take aa.2.1.1).length:Int)+2)))).addr aw)) ?_;refine lv (v:=(.pointer ((am.map (·.add (Int.toNat (i64.wrap (((aa.2.1.2.take (Int.toNat (i64.wrap (((aa.2.1.2.take aa.2.1.1).length:Int)+2)))).length:Int) - 2)) * 2))).map (·.add 0)))) rfl rfl (Xn (sz:=1) (off:=0) underlying109 rfl sizeOf9 (by decide) rfl rfl (Vd (((aj.ks ab).take (Int.toNat (i64.wrap (((aa.2.1.2.take aa.2.1.1).length:Int)+2)))).addr aw))) ?_;obtain ⟨_,bz,b0⟩:=((aj.ks ab).take (Int.toNat (i64.wrap (((aa.2.1.2.take aa.2.1.1).length:Int)+2)))).atN aw;obtain ⟨_,_,rfl,b1,b2⟩:=Wu bz;obtain ⟨rfl,_⟩:=b1;obtain ⟨rfl,_⟩:=b2;refine lV _ (Zn isAgg9 rfl ((b0).nth (q:=0) rfl))<|lV _ (Su _ _ underlying9 rfl rfl)<|Xf rfl ?_;by_cases ac:(decide (bx.1=(⟨#[35,49]⟩)))=true
 ·rw [if_pos ac] at hm;refine lG 41 rfl (gq ac)<|Zk rfl<|lG 41 rfl (gq ac)<|Zk rfl<|lG 41 rfl (gq ac)<|lV _ (Zs underlying29 rfl)<|lG 41 rfl (gq ac)<|lV _ (Yb _ _ rfl rfl)<|lG 41 rfl (gq ac) ?_;obtain ⟨bj,ax,hm⟩:=bZ hm;refine lV _ (Zx underlying29 sizeOf109 rfl rfl (Zi ax).1 (Zi ax).2.1 (((aj.ks ab).take (Int.toNat (i64.wrap (((aa.2.1.2.take aa.2.1.1).length:Int)+2)))).addr ax)) ?_;refine lG 41 rfl (gq ac)<|lv (v:=(.pointer ((am.map (·.add (Int.toNat (i64.wrap (((aa.2.1.2.take (Int.toNat (i64.wrap (((aa.2.1.2.take aa.2.1.1).length:Int)+2)))).length:Int) - 1)) * 2))).map (·.add 0)))) rfl rfl (Xn (sz:=1) (off:=0) underlying109 rfl sizeOf9 (by decide) rfl rfl (Vd (((aj.ks ab).take (Int.toNat (i64.wrap (((aa.2.1.2.take aa.2.1.1).length:Int)+2)))).addr ax)))<|lG 41 rfl (gq ac) ?_;obtain ⟨_,b3,b4⟩:=((aj.ks ab).take (Int.toNat (i64.wrap (((aa.2.1.2.take aa.2.1.1).length:Int)+2)))).atN ax;obtain ⟨_,_,rfl,b5,b6⟩:=Wu b3;obtain ⟨rfl,_⟩:=b5;obtain ⟨rfl,_⟩:=b6;refine lV _ (Zn isAgg9 rfl ((b4).nth (q:=0) rfl))<|lG 41 rfl (gq ac)<|lV _ (Su _ _ underlying9 rfl rfl)<|lV (.bool (decide (bj.1=(⟨#[35,50]⟩)))) (Xm (congrArg Value.bool ac) rfl)<|Xf rfl ?_;by_cases ad:(decide (bj.1=(⟨#[35,50]⟩)))=true
  ·rw [if_pos ad] at hm;refine lG 51 rfl (gq ad)<|Zk rfl<|lG 51 rfl (gq ad)<|Zk rfl<|lG 51 rfl (gq ad)<|lV _ (Zs underlying29 rfl)<|lG 51 rfl (gq ad)<|lV _ (Yb _ _ rfl rfl)<|lG 51 rfl (gq ad) ?_;obtain ⟨bk,ay,hm⟩:=bZ hm;refine lV _ (Zx underlying29 sizeOf109 rfl rfl (Zi ay).1 (Zi ay).2.1 (((ak.ks ab).take (Int.toNat (i64.wrap (((aa.2.2.1.2.take aa.2.2.1.1).length:Int)+2)))).addr ay)) ?_;refine lG 51 rfl (gq ad)<|lv (v:=(.pointer ((an.map (·.add (Int.toNat (i64.wrap (((aa.2.2.1.2.take (Int.toNat (i64.wrap (((aa.2.2.1.2.take aa.2.2.1.1).length:Int)+2)))).length:Int) - 2)) * 2))).map (·.add 0)))) rfl rfl (Xn (sz:=1) (off:=0) underlying109 rfl sizeOf9 (by decide) rfl rfl (Vd (((ak.ks ab).take (Int.toNat (i64.wrap (((aa.2.2.1.2.take aa.2.2.1.1).length:Int)+2)))).addr ay)))<|lG 51 rfl (gq ad) ?_;obtain ⟨_,b7,b8⟩:=((ak.ks ab).take (Int.toNat (i64.wrap (((aa.2.2.1.2.take aa.2.2.1.1).length:Int)+2)))).atN ay;obtain ⟨_,_,rfl,b9,ca⟩:=Wu b7;obtain ⟨rfl,_⟩:=b9;obtain ⟨rfl,_⟩:=ca;refine lV _ (Zn isAgg9 rfl ((b8).nth (q:=0) rfl))<|lG 51 rfl (gq ad)<|lV _ (Su _ _ underlying9 rfl rfl)<|lV (.bool (decide (bk.1=(⟨#[35,51]⟩)))) (Xm (congrArg Value.bool ad) rfl)<|Xf rfl ?_;by_cases ae:(decide (bk.1=(⟨#[35,51]⟩)))=true
   ·rw [if_pos ae] at hm;refine lG 61 rfl (gq ae)<|Zk rfl<|lG 61 rfl (gq ae)<|Zk rfl<|lG 61 rfl (gq ae)<|lV _ (Zs underlying29 rfl)<|lG 61 rfl (gq ae)<|lV _ (Yb _ _ rfl rfl)<|lG 61 rfl (gq ae) ?_;obtain ⟨bl,az,hm⟩:=bZ hm;refine lV _ (Zx underlying29 sizeOf109 rfl rfl (Zi az).1 (Zi az).2.1 (((ak.ks ab).take (Int.toNat (i64.wrap (((aa.2.2.1.2.take aa.2.2.1.1).length:Int)+2)))).addr az)) ?_;refine lG 61 rfl (gq ae)<|lv (v:=(.pointer ((an.map (·.add (Int.toNat (i64.wrap (((aa.2.2.1.2.take (Int.toNat (i64.wrap (((aa.2.2.1.2.take aa.2.2.1.1).length:Int)+2)))).length:Int) - 1)) * 2))).map (·.add 0)))) rfl rfl (Xn (sz:=1) (off:=0) underlying109 rfl sizeOf9 (by decide) rfl rfl (Vd (((ak.ks ab).take (Int.toNat (i64.wrap (((aa.2.2.1.2.take aa.2.2.1.1).length:Int)+2)))).addr az)))<|lG 61 rfl (gq ae) ?_;obtain ⟨_,cb,cc⟩:=((ak.ks ab).take (Int.toNat (i64.wrap (((aa.2.2.1.2.take aa.2.2.1.1).length:Int)+2)))).atN az;obtain ⟨_,_,rfl,cd,ce⟩:=Wu cb;obtain ⟨rfl,_⟩:=cd;obtain ⟨rfl,_⟩:=ce;refine lV _ (Zn isAgg9 rfl ((cc).nth (q:=0) rfl))<|lG 61 rfl (gq ae)<|lV _ (Su _ _ underlying9 rfl rfl)<|lV (.bool (decide (bl.1=(⟨#[35,52]⟩)))) (Xm (congrArg Value.bool ae) rfl)<|Xf rfl ?_;by_cases af:(decide (bl.1=(⟨#[35,52]⟩)))=true
    ·rw [if_pos af] at hm;refine lG 71 rfl (gq af)<|Zk rfl<|lG 71 rfl (gq af)<|Zk rfl<|lG 71 rfl (gq af)<|lV _ (Zs underlying22 rfl)<|lG 71 rfl (gq af)<|lV _ (Yb _ _ rfl rfl)<|lG 71 rfl (gq af) ?_;obtain ⟨bm,a1,hm⟩:=bZ hm;refine lV _ (Zx underlying22 sizeOf9 rfl rfl (Zi a1).1 (Zi a1).2.1 (((ao.ks ab).take (Int.toNat (i64.wrap (((aa.2.2.2.2.1.2.take aa.2.2.2.2.1.1).length:Int)+2)))).addr a1)) ?_;refine lG 71 rfl (gq af)<|lV _ (Zn isAgg9 rfl (((ao.ks ab).take (Int.toNat (i64.wrap (((aa.2.2.2.2.1.2.take aa.2.2.2.2.1.1).length:Int)+2)))).atStr a1))<|lG 71 rfl (gq af)<|lV _ (Su _ _ underlying9 rfl rfl)<|lV (.bool (decide (bm=(⟨#[35,53]⟩)))) (Xm (congrArg Value.bool af) rfl)<|Xf rfl ?_;by_cases ag:(decide (bm=(⟨#[35,53]⟩)))=true
     ·rw [if_pos ag] at hm;refine lG 80 rfl (gq ag)<|Zk rfl<|lG 80 rfl (gq ag)<|Zk rfl<|lG 80 rfl (gq ag)<|lV _ (Zs underlying22 rfl)<|lG 80 rfl (gq ag)<|lV _ (Yb _ _ rfl rfl)<|lG 80 rfl (gq ag) ?_;obtain ⟨bn,a2,hm⟩:=bZ hm;refine lV _ (Zx underlying22 sizeOf9 rfl rfl (Zi a2).1 (Zi a2).2.1 (((ao.ks ab).take (Int.toNat (i64.wrap (((aa.2.2.2.2.1.2.take aa.2.2.2.2.1.1).length:Int)+2)))).addr a2)) ?_;refine lG 80 rfl (gq ag)<|lV _ (Zn isAgg9 rfl (((ao.ks ab).take (Int.toNat (i64.wrap (((aa.2.2.2.2.1.2.take aa.2.2.2.2.1.1).length:Int)+2)))).atStr a2))<|lG 80 rfl (gq ag)<|lV _ (Su _ _ underlying9 rfl rfl)<|lV (.bool (decide (bn=(⟨#[35,54]⟩)))) (Xm (congrArg Value.bool ag) rfl)<|Xc rfl<|Zc ?_;exact ⟨al,(decide (bn=(⟨#[35,54]⟩))),hm,ab,rfl,rfl⟩
     rw [if_neg ag] at hm;replace ag:=Bool.eq_false_iff.2 ag;refine lP 80 rfl (gq ag)<|lP 80 rfl (gq ag)<|lP 80 rfl (gq ag)<|lP 80 rfl (gq ag)<|lP 80 rfl (gq ag)<|lP 80 rfl (gq ag)<|lP 80 rfl (gq ag)<|lV (.bool false) (Xr (congrArg Value.bool ag) rfl)<|Xc rfl<|Zc ?_;exact ⟨al,false,hm,ab,rfl,rfl⟩
    rw [if_neg af] at hm;replace af:=Bool.eq_false_iff.2 af;refine lP 71 rfl (gq af)<|lP 71 rfl (gq af)<|lP 71 rfl (gq af)<|lP 71 rfl (gq af)<|lP 71 rfl (gq af)<|lP 71 rfl (gq af)<|lP 71 rfl (gq af)<|lV (.bool false) (Xr (congrArg Value.bool af) rfl)<|Xf rfl<|lP 80 rfl rfl<|lP 80 rfl rfl<|lP 80 rfl rfl<|lP 80 rfl rfl<|lP 80 rfl rfl<|lP 80 rfl rfl<|lP 80 rfl rfl<|lV (.bool false) (Xr rfl rfl)<|Xc rfl<|Zc ?_;exact ⟨al,false,hm,ab,rfl,rfl⟩
   rw [if_neg ae] at hm;replace ae:=Bool.eq_false_iff.2 ae;refine lP 61 rfl (gq ae)<|lP 61 rfl (gq ae)<|lP 61 rfl (gq ae)<|lP 61 rfl (gq ae)<|lP 61 rfl (gq ae)<|lP 61 rfl (gq ae)<|lP 61 rfl (gq ae)<|lP 61 rfl (gq ae)<|lV (.bool false) (Xr (congrArg Value.bool ae) rfl)<|Xf rfl<|lP 71 rfl rfl<|lP 71 rfl rfl<|lP 71 rfl rfl<|lP 71 rfl rfl<|lP 71 rfl rfl<|lP 71 rfl rfl<|lP 71 rfl rfl<|lV (.bool false) (Xr rfl rfl)<|Xf rfl<|lP 80 rfl rfl<|lP 80 rfl rfl<|lP 80 rfl rfl<|lP 80 rfl rfl<|lP 80 rfl rfl<|lP 80 rfl rfl<|lP 80 rfl rfl<|lV (.bool false) (Xr rfl rfl)<|Xc rfl<|Zc ?_;exact ⟨al,false,hm,ab,rfl,rfl⟩
  rw [if_neg ad] at hm;replace ad:=Bool.eq_false_iff.2 ad;refine lP 51 rfl (gq ad)<|lP 51 rfl (gq ad)<|lP 51 rfl (gq ad)<|lP 51 rfl (gq ad)<|lP 51 rfl (gq ad)<|lP 51 rfl (gq ad)<|lP 51 rfl (gq ad)<|lP 51 rfl (gq ad)<|lV (.bool false) (Xr (congrArg Value.bool ad) rfl)<|Xf rfl<|lP 61 rfl rfl<|lP 61 rfl rfl<|lP 61 rfl rfl<|lP 61 rfl rfl<|lP 61 rfl rfl<|lP 61 rfl rfl<|lP 61 rfl rfl<|lP 61 rfl rfl<|lV (.bool false) (Xr rfl rfl)<|Xf rfl<|lP 71 rfl rfl<|lP 71 rfl rfl<|lP 71 rfl rfl<|lP 71 rfl rfl<|lP 71 rfl rfl<|lP 71 rfl rfl<|lP 71 rfl rfl<|lV (.bool false) (Xr rfl rfl)<|Xf rfl<|lP 80 rfl rfl ?_;refine lP 80 rfl rfl<|lP 80 rfl rfl<|lP 80 rfl rfl<|lP 80 rfl rfl<|lP 80 rfl rfl<|lP 80 rfl rfl<|lV (.bool false) (Xr rfl rfl)<|Xc rfl<|Zc ?_;exact ⟨al,false,hm,ab,rfl,rfl⟩
 rw [if_neg ac] at hm;replace ac:=Bool.eq_false_iff.2 ac;refine lP 41 rfl (gq ac)<|lP 41 rfl (gq ac)<|lP 41 rfl (gq ac)<|lP 41 rfl (gq ac)<|lP 41 rfl (gq ac)<|lP 41 rfl (gq ac)<|lP 41 rfl (gq ac)<|lP 41 rfl (gq ac)<|lV (.bool false) (Xr (congrArg Value.bool ac) rfl)<|Xf rfl<|lP 51 rfl rfl<|lP 51 rfl rfl<|lP 51 rfl rfl<|lP 51 rfl rfl<|lP 51 rfl rfl<|lP 51 rfl rfl<|lP 51 rfl rfl<|lP 51 rfl rfl<|lV (.bool false) (Xr rfl rfl)<|Xf rfl<|lP 61 rfl rfl<|lP 61 rfl rfl<|lP 61 rfl rfl<|lP 61 rfl rfl<|lP 61 rfl rfl<|lP 61 rfl rfl<|lP 61 rfl rfl<|lP 61 rfl rfl<|lV (.bool false) (Xr rfl rfl)<|Xf rfl ?_;refine lP 71 rfl rfl<|lP 71 rfl rfl<|lP 71 rfl rfl<|lP 71 rfl rfl<|lP 71 rfl rfl<|lP 71 rfl rfl<|lP 71 rfl rfl<|lV (.bool false) (Xr rfl rfl)<|Xf rfl<|lP 80 rfl rfl<|lP 80 rfl rfl<|lP 80 rfl rfl<|lP 80 rfl rfl<|lP 80 rfl rfl<|lP 80 rfl rfl<|lP 80 rfl rfl<|lV (.bool false) (Xr rfl rfl)<|Xc rfl<|Zc ?_;exact ⟨al,false,hm,ab,rfl,rfl⟩
def Zeq (aa:Bool):Option Bool:=
  some aa
def Zjj (N:Nat) (ac:(ByteArray×List ByteArray×(List (List ByteArray))×(List (List Int))×(List (List ((Bool×List Int)×List Int))))) (aa:(Int×(List (ByteArray×ByteArray))×(List (ByteArray×ByteArray))×Int×List ByteArray×(Bool×Bool))):Option Bool:=
  (Zga N (ac.1,ac.2.1,ac.2.2.1,ac.2.2.2.1,ac.2.2.2.2)).bind fun ad=>(Zes (aa.1,aa.2.1,aa.2.2.1,aa.2.2.2.1,aa.2.2.2.2.1,(aa.2.2.2.2.2.1,aa.2.2.2.2.2.2))).bind fun ab=>(Zfd N (ad.1,ad.2.1.2.take ad.2.1.1,ad.2.2.1.map Y7,ad.2.2.2.1.map Y7,ad.2.2.2.2.map (Sb (Prod.map (Prod.map id Y7) Y7))) (ab.1,ab.2.1.2.take ab.2.1.1,ab.2.2.1.2.take ab.2.2.1.1,ab.2.2.2.1,ab.2.2.2.2.1.2.take ab.2.2.2.2.1.1,(ab.2.2.2.2.2.1,ab.2.2.2.2.2.2))).bind fun ae=>(Zgd N (ac.1,ac.2.1,ac.2.2.1,ac.2.2.2.1,ac.2.2.2.2) (aa.1,aa.2.1,aa.2.2.1,aa.2.2.2.1,aa.2.2.2.2.1,(aa.2.2.2.2.2.1,aa.2.2.2.2.2.2))).bind fun af=>if (decide (ae=af))=true then ((Zf9 N (ad.1,(ad.2.1.1,ad.2.1.2),ad.2.2.1,ad.2.2.2.1,ad.2.2.2.2) (ac.1,ac.2.1,ac.2.2.1,ac.2.2.2.1,ac.2.2.2.2)).bind fun ag=>if ag=true then ((Zer N (ab.1,(ab.2.1.1,ab.2.1.2),(ab.2.2.1.1,ab.2.2.1.2),ab.2.2.2.1,(ab.2.2.2.2.1.1,ab.2.2.2.2.1.2),(ab.2.2.2.2.2.1,ab.2.2.2.2.2.2)) (aa.1,aa.2.1,aa.2.2.1,aa.2.2.2.1,aa.2.2.2.2.1,(aa.2.2.2.2.2.1,aa.2.2.2.2.2.2))).bind fun ah=>Zeq ah) else (Zeq false)) else (Zeq false)
theorem Zuj (N:Nat) (col:Zh) (w0:World) (a3:Option Addr) (a4:Nat) (a5:Option Addr) (a6:Nat) (a7:Option Addr) (a8:Nat) (a9:Option Addr) (ba:Nat) (ae:(ByteArray×List ByteArray×(List (List ByteArray))×(List (List Int))×(List (List ((Bool×List Int)×List Int))))) (bb:Option Addr) (bc:Nat) (bd:Option Addr) (be:Nat) (bf:Option Addr) (bg:Nat) (ad:(Int×(List (ByteArray×ByteArray))×(List (ByteArray×ByteArray))×Int×List ByteArray×(Bool×Bool))) (bh:Sl Za.str col w0 a3 a4 ae.2.1) (bi:Sl (Za.slice Za.str) col w0 a5 a6 ae.2.2.1) (bj:Sl (Za.slice (Za.int .i64)) col w0 a7 a8 ae.2.2.2.1) (bk:Sl (Za.slice (Za.pair (Za.pair Za.bool (Za.slice (Za.int .u32))) (Za.slice (Za.int .u32)))) col w0 a9 ba ae.2.2.2.2) (bl:Sl (Za.pair Za.str Za.str) col w0 bb bc ad.2.1) (bm:Sl (Za.pair Za.str Za.str) col w0 bd be ad.2.2.1) (bn:Sl Za.str col w0 bf bg ad.2.2.2.2.1) (r:Bool) (hm:Zjj N ae ad=some r):
    Calls Tryz.prog 3 #[(.agg #[.string ae.1,.slice a3 ae.2.1.length a4,.slice a5 ae.2.2.1.length a6,.slice a7 ae.2.2.2.1.length a8,.slice a9 ae.2.2.2.2.length ba]),(.agg #[.int .i8 ad.1,.slice bb ad.2.1.length bc,.slice bd ad.2.2.1.length be,.int .i8 ad.2.2.2.1,.slice bf ad.2.2.2.2.1.length bg,.bool ad.2.2.2.2.2.1,.bool ad.2.2.2.2.2.2])] w0 (fun e w'=>e= .returned ((.bool r))∧Below w0.heap.size w0 w'):=by
 refine Xv 4 (m:=30) func3 rfl rfl rfl rfl rfl ?_;rw [Zjj.eq_1] at hm;have ab:=St.start col w0;refine Zb<|Zd<|X3 (col:=(Zo col)) 1 rfl ?_;intro c1 c2 cg ch aq;refine X3 (col:=cg) 2 rfl ?_;intro c3 c4 ci b8 ak;refine Xc rfl<|Zc<|Zb<|Zd ?_;replace aq:=aq.gr b8;refine lV _ (Ye isAgg27 sizeOf27 aq) ?_;obtain ⟨aa,cj,hm⟩:=bZ hm;replace bh:=bh.keep (Zp.start col w0);replace bi:=bi.keep (Zp.start col w0);replace bj:=bj.keep (Zp.start col w0);replace bk:=bk.keep (Zp.start col w0);replace ab:=(ab.grow ch).grow b8;refine lc rfl rfl (Z7 call15 rfl) (Zvp N ci _ a3 a4 a5 a6 a7 a8 a9 ba (ae.1,ae.2.1,ae.2.2.1,ae.2.2.2.1,ae.2.2.2.2) (bh.ks ab) (bi.ks ab) (bj.ks ab) (bk.ks ab) aa cj) ?_;rintro _ c5 ⟨ck,bo,bp,bq,br,bs,bt,bu,bv,rfl,bw,ar,au,av,aw⟩;refine ⟨_,rfl,?_⟩;refine Yt (col:=ck) #[.string (⟨#[]⟩),.slice none (([]:List ByteArray).length) 0,.slice none (([]:List (List ByteArray)).length) 0,.slice none (([]:List (List Int)).length) 0,(.slice none (([]:List (List ((Bool×List Int)×List Int))).length) 0)] 3 zeroValue27 ?_;intro c6 c7 cl a1 cm;refine Ya #[.string aa.1,.slice bo ((aa.2.1.2.take aa.2.1.1).length) bp,.slice bq aa.2.2.1.length br,.slice bs aa.2.2.2.1.length bt,.slice bu aa.2.2.2.2.length bv] cm sizeOf27 ?_;intro c8 a2 cn ax;refine Zc<|Zb<|Zd ?_;replace ak:=((ak.gr bw).gr a1).kp a2;refine lV _ (Ye isAgg32 sizeOf32 ak) ?_;obtain ⟨ac,co,hm⟩:=bZ hm;replace bl:=bl.keep (Zp.start col w0);replace bm:=bm.keep (Zp.start col w0);replace bn:=bn.keep (Zp.start col w0);replace ab:=((ab.grow bw).grow a1).kp a2 cn;refine lc rfl rfl (Z7 call16 rfl) (Zul cl _ bb bc bd be bf bg (ad.1,ad.2.1,ad.2.2.1,ad.2.2.2.1,ad.2.2.2.2.1,(ad.2.2.2.2.2.1,ad.2.2.2.2.2.2)) (bl.ks ab) (bm.ks ab) (bn.ks ab) ac co) ?_;rintro _ c9 ⟨cp,bx,bz,b0,b1,b2,b3,rfl,ay,an,ao,ap⟩;refine ⟨_,rfl,?_⟩;refine Yt (col:=cp) #[.int .i8 0,.slice none (([]:List (ByteArray×ByteArray)).length) 0,.slice none (([]:List (ByteArray×ByteArray)).length) 0,.int .i8 0,.slice none (([]:List ByteArray).length) 0,.bool false,.bool false] 4 zeroValue32 ?_;intro da db af al cq
 refine Ya #[.int .i8 ac.1,.slice bx ((ac.2.1.2.take ac.2.1.1).length) bz,.slice b0 ((ac.2.2.1.2.take ac.2.2.1.1).length) b1,.int .i8 ac.2.2.2.1,.slice b2 ((ac.2.2.2.2.1.2.take ac.2.2.2.2.1.1).length) b3,.bool ac.2.2.2.2.2.1,.bool ac.2.2.2.2.2.2] cq sizeOf32 ?_;intro cr am cs az;refine Zc<|Zb<|Zd ?_;replace ax:=((ax.gr ay).gr al).kp am;refine lV _ (Ye isAgg27 sizeOf27 ax)<|lV _ (Ye isAgg32 sizeOf32 az) ?_;have ct:((.agg #[.string aa.1,.slice bo ((aa.2.1.2.take aa.2.1.1).length) bp,.slice bq aa.2.2.1.length br,.slice bs aa.2.2.2.1.length bt,.slice bu aa.2.2.2.2.length bv]):Value)=(.agg #[.string aa.1,(.slice bo (aa.1,aa.2.1.2.take aa.2.1.1,aa.2.2.1.map Y7,aa.2.2.2.1.map Y7,aa.2.2.2.2.map (Sb (Prod.map (Prod.map id Y7) Y7))).2.1.length bp),(.slice bq (aa.1,aa.2.1.2.take aa.2.1.1,aa.2.2.1.map Y7,aa.2.2.2.1.map Y7,aa.2.2.2.2.map (Sb (Prod.map (Prod.map id Y7) Y7))).2.2.1.length br),(.slice bs (aa.1,aa.2.1.2.take aa.2.1.1,aa.2.2.1.map Y7,aa.2.2.2.1.map Y7,aa.2.2.2.2.map (Sb (Prod.map (Prod.map id Y7) Y7))).2.2.2.1.length bt),(.slice bu (aa.1,aa.2.1.2.take aa.2.1.1,aa.2.2.1.map Y7,aa.2.2.2.1.map Y7,aa.2.2.2.2.map (Sb (Prod.map (Prod.map id Y7) Y7))).2.2.2.2.length bv)]):=by simp only [List.length_map]
 obtain ⟨b9,cu,hm⟩:=bZ hm;replace ar:=((((ar.gr a1).kp a2).gr ay).gr al).kp am;replace au:=((((au.gr a1).kp a2).gr ay).gr al).kp am;replace av:=((((av.gr a1).kp a2).gr ay).gr al).kp am;replace aw:=((((aw.gr a1).kp a2).gr ay).gr al).kp am;replace an:=(an.gr al).kp am;replace ao:=(ao.gr al).kp am;replace ap:=(ap.gr al).kp am;refine lc rfl rfl (Xa call17 ct rfl) (Zu0 N af _ bo bp bq br bs bt bu bv (aa.1,aa.2.1.2.take aa.2.1.1,aa.2.2.1.map Y7,aa.2.2.2.1.map Y7,aa.2.2.2.2.map (Sb (Prod.map (Prod.map id Y7) Y7))) bx bz b0 b1 b2 b3 (ac.1,ac.2.1.2.take ac.2.1.1,ac.2.2.1.2.take ac.2.2.1.1,ac.2.2.2.1,ac.2.2.2.2.1.2.take ac.2.2.2.2.1.1,(ac.2.2.2.2.2.1,ac.2.2.2.2.2.2)) (ar.take aa.2.1.1) (au.weak Vo.view0) (av.weak Vo.view0) (aw.weak (Vo.view (Vo.pair (Vo.pair Vo.rfl Vo.view0) Vo.view0))) (an.take ac.2.1.1) (ao.take ac.2.2.1.1) (ap.take ac.2.2.2.2.1.1) b9 cu) ?_;rintro _ ca ⟨rfl,ag⟩;refine ⟨_,rfl,?_⟩;replace ag:Zf af cr af ca:=.of_below ag;refine Zj rfl<|Zc<|Zb ?_;replace aq:=((((((aq.gr bw).gr a1).kp a2).gr ay).gr al).kp am).gr ag;replace ak:=(((ak.gr ay).gr al).kp am).gr ag;replace ab:=(((ab.grow ay).grow al).kp am cs).grow ag;replace ar:=ar.gr ag;replace au:=au.gr ag;replace av:=av.gr ag;replace aw:=aw.gr ag;replace an:=an.gr ag;replace ao:=ao.gr ag;replace ap:=ap.gr ag;replace ax:=ax.gr ag;replace az:=az.gr ag;refine Wp.cut (fun f cb=>∃ (cc:Zh) (b4:Bool),Zeq b4=some r∧St w0 (Zo col) cc cb∧f 4=(.bool b4)∧f 1000000=(enc [])) ?_ ?_
 ·intro f cb hJ;obtain ⟨cc,b4,hm,ab,cv,cw⟩:=hJ;rw [Zeq.eq_1] at hm;refine .lD 4 cv<|.lD 1000000 cw<|Zq ?_;cases hm;exact ⟨rfl,rfl,ab.below⟩
 refine Zd<|Zg rfl<|lV _ (Ye isAgg27 sizeOf27 aq)<|lV _ (Ye isAgg32 sizeOf32 ak) ?_;obtain ⟨cd,cx,hm⟩:=bZ hm;refine lc rfl rfl (Xa call18 rfl rfl) (Zvr N af _ a3 a4 a5 a6 a7 a8 a9 ba (ae.1,ae.2.1,ae.2.2.1,ae.2.2.2.1,ae.2.2.2.2) bb bc bd be bf bg (ad.1,ad.2.1,ad.2.2.1,ad.2.2.2.1,ad.2.2.2.2.1,(ad.2.2.2.2.2.1,ad.2.2.2.2.2.2)) (bh.ks ab) (bi.ks ab) (bj.ks ab) (bk.ks ab) (bl.ks ab) (bm.ks ab) (bn.ks ab) cd cx) ?_;rintro _ ce ⟨rfl,ah⟩;refine ⟨_,rfl,?_⟩;replace ah:Zf af ca af ce:=.of_below ah;refine lV _ (Y9 _ _ rfl rfl)<|Xf rfl ?_;replace ar:=ar.gr ah;replace au:=au.gr ah;replace av:=av.gr ah;replace aw:=aw.gr ah;replace an:=an.gr ah;replace ao:=ao.gr ah;replace ap:=ap.gr ah;replace aq:=aq.gr ah;replace ak:=ak.gr ah;replace ax:=ax.gr ah;replace az:=az.gr ah;replace ab:=ab.grow ah;by_cases ai:(decide (b9=cd))=true
 ·rw [if_pos ai] at hm;refine lG 20 rfl (gq ai)<|lV _ (Ye isAgg27 sizeOf27 ax)<|lG 20 rfl (gq ai)<|lV _ (Ye isAgg27 sizeOf27 aq)<|lG 20 rfl (gq ai) ?_;obtain ⟨b5,cy,hm⟩:=bZ hm;refine lc rfl rfl (Xa call19 rfl rfl) (Zvo N af _ bo bp bq br bs bt bu bv (aa.1,(aa.2.1.1,aa.2.1.2),aa.2.2.1,aa.2.2.2.1,aa.2.2.2.2) a3 a4 a5 a6 a7 a8 a9 ba (ae.1,ae.2.1,ae.2.2.1,ae.2.2.2.1,ae.2.2.2.2) ar au av aw (bh.ks ab) (bi.ks ab) (bj.ks ab) (bk.ks ab) b5 cy) ?_;rintro _ cf ⟨rfl,a0⟩;refine ⟨_,rfl,?_⟩;replace a0:Zf af ce af cf:=.of_below a0;refine lV (.bool b5) (Xm (congrArg Value.bool ai) rfl)<|Xf rfl ?_;replace an:=an.gr a0;replace ao:=ao.gr a0;replace ap:=ap.gr a0;replace ak:=ak.gr a0;replace az:=az.gr a0;replace ab:=ab.grow a0;by_cases aj:b5=true
  ·rw [if_pos aj] at hm;refine lG 25 rfl (gq aj)<|lV _ (Ye isAgg32 sizeOf32 az)<|lG 25 rfl (gq aj)<|lV _ (Ye isAgg32 sizeOf32 ak)<|lG 25 rfl (gq aj) ?_;obtain ⟨b6,cz,hm⟩:=bZ hm;refine lc rfl rfl (Xa call20 rfl rfl) (Zuk N af _ bx bz b0 b1 b2 b3 (ac.1,(ac.2.1.1,ac.2.1.2),(ac.2.2.1.1,ac.2.2.1.2),ac.2.2.2.1,(ac.2.2.2.2.1.1,ac.2.2.2.2.1.2),(ac.2.2.2.2.2.1,ac.2.2.2.2.2.2)) bb bc bd be bf bg (ad.1,ad.2.1,ad.2.2.1,ad.2.2.2.1,ad.2.2.2.2.1,(ad.2.2.2.2.2.1,ad.2.2.2.2.2.2)) an ao ap (bl.ks ab) (bm.ks ab) (bn.ks ab) b6 cz) ?_;rintro _ c0 ⟨rfl,b7⟩;refine ⟨_,rfl,?_⟩;replace b7:Zf af cf af c0:=.of_below b7;refine lV (.bool b6) (Xm (congrArg Value.bool aj) rfl)<|Xc rfl<|Zc ?_;replace ab:=ab.grow b7;exact ⟨af,b6,hm,ab,rfl,rfl⟩
  rw [if_neg aj] at hm;replace aj:=Bool.eq_false_iff.2 aj;refine lP 25 rfl (gq aj)<|lP 25 rfl (gq aj)<|lP 25 rfl (gq aj)<|lV (.bool false) (Xr (congrArg Value.bool aj) rfl)<|Xc rfl<|Zc ?_;exact ⟨af,false,hm,ab,rfl,rfl⟩
 rw [if_neg ai] at hm;replace ai:=Bool.eq_false_iff.2 ai;refine lP 20 rfl (gq ai)<|lP 20 rfl (gq ai)<|lP 20 rfl (gq ai)<|lV (.bool false) (Xr (congrArg Value.bool ai) rfl)<|Xf rfl<|lP 25 rfl rfl<|lP 25 rfl rfl<|lP 25 rfl rfl<|lV (.bool false) (Xr rfl rfl)<|Xc rfl<|Zc ?_;exact ⟨af,false,hm,ab,rfl,rfl⟩
abbrev Sz:=Int×List (ByteArray×ByteArray)×List (ByteArray×ByteArray)×Int×List ByteArray×(Bool×Bool)
structure Zan (q:Sz):Prop where
 a:q.2.1.length≤1048576
 g:q.2.2.1.length≤1048576
 o:q.2.2.2.2.1.length≤1048576
 k:-128≤q.2.2.2.1∧q.2.2.2.1≤127
theorem Zrb (N:Nat) (l:List ByteArray) (s:ByteArray) (hl:l.length<4611686018427387904):∀ (f k:Nat),k≤l.length→l.length<f+k→∃ j:Int,Zdk N l s f (k:Int)=some j∧(s ∈ l.drop k→∃ i:Nat,j=(i:Int)∧∃ h:i<l.length,l[i]=s)∧(s ∉ l.drop k→j= -1)
 | 0,k,h1,h2=>by omega
 | f+1,k,h1,h2=>by
  rw [Zdk.eq_2]
  by_cases hk:k<l.length
  ·rw [if_pos (decide_eq_true (by omega)),Xg hk,Option.bind_some,List.drop_eq_getElem_cons hk]
   by_cases he:l[k]=s
   ·rw [if_pos (decide_eq_true he)]
    exact ⟨_,rfl,fun _=>⟨k,rfl,hk,he⟩,fun h=>absurd (by rw [he];exact List.mem_cons_self) h⟩
   ·rw [if_neg (by rw [decide_eq_false he];decide),Z6 (by omega)]
    obtain ⟨j,j1,j2,j3⟩:=Zrb N l s hl f (k+1) (by omega) (by omega)
    refine ⟨j,j1,fun h=>?_,fun h=>j3 fun h2=>h (List.mem_cons_of_mem _ h2)⟩
    rcases List.mem_cons.1 h with h | h
    ·exact absurd h.symm he
    ·exact j2 h
  ·rw [if_neg (by rw [decide_eq_false (by omega)];decide),List.drop_eq_nil_of_le (by omega)]
   exact ⟨_,rfl,fun h=>by simp at h,fun _=>rfl⟩
theorem Zrc {N:Nat} {l:List ByteArray} (s:ByteArray) (hl:l.length<4611686018427387904) (hN:l.length<N):∃ j:Int,Zag N l s=some j∧(s ∈ l→∃ i:Nat,j=(i:Int)∧∃ h:i<l.length,l[i]=s)∧(s ∉ l→j= -1):=by
 have:=Zrb N l s hl N 0 (by omega) (by omega)
 rw [List.drop_zero] at this
 exact this
theorem Zkf {N:Nat} {l:List ByteArray} (s:ByteArray) (hl:l.length<4611686018427387904) (hN:l.length<N):∃ j:Int,Zag N l s=some j∧(j<0↔s ∉ l):=by
 obtain ⟨j,j1,j2,j3⟩:=Zrc s hl hN
 refine ⟨j,j1,fun h hm=>?_,fun h=>by rw [j3 h];decide⟩
 obtain ⟨i,rfl,_⟩:=j2 hm
 omega
structure Zin (names:List ByteArray) (es:List (ByteArray×Int)) (k:Nat):Prop where
 i:∀ (i:Nat) (h:i<names.length),i<k→X4 es names[i]=some (i:Int)
 o:∀ x,x ∉ names.take k→X4 es x=none
structure Zb1 (S:List ByteArray) (es:List (ByteArray×Int)):Prop where
 g:∀ x,X4 es x=if x ∈ S then some 1 else none
 l:es.length=S.length
theorem Zb1.nil:Zb1 [] []:=⟨fun x=>by simp [X4],rfl⟩
theorem Zb1.put {S:List ByteArray} {es:List (ByteArray×Int)} (h:Zb1 S es) {x:ByteArray} (hx:x ∉ S):Zb1 (S++[x]) (Vm es x 1):=by
 refine ⟨fun y=>?_,?_⟩
 ·rw [Zh9,h.g y]
  by_cases hy:y=x
  ·subst hy;rw [if_pos rfl,if_pos (by simp)]
  ·rw [if_neg hy]
   by_cases hs:y ∈ S
   ·rw [if_pos hs,if_pos (by simp [hs])]
   ·rw [if_neg hs,if_neg (by simp [hs,hy])]
 ·have:¬ (X4 es x).isSome=true:=by rw [h.g x,if_neg hx];decide
  rw [Vm,if_neg this,List.length_append,h.l];simp
theorem Zx7 {l:List ByteArray} (h:∀ i,(hi:i<l.length)→l[i] ∉ l.take i):l.Nodup:=by
 have:∀ k,k≤l.length→(l.take k).Nodup:=fun k=>by
  induction k with
  | zero=>intro _;simp
  | succ k ih=>intro hk;exact (Zqv l k (by omega)).2 ⟨ih (by omega),h k (by omega)⟩
 have h2:=this l.length (Nat.le_refl _)
 rwa [List.take_length] at h2
theorem Zgq.nodup {N:Nat} {n:W2} (h:Zgq N n):n.2.1.Nodup:=by
 refine Zx7 fun i hi=>?_
 have:=(Zl1 _ 0 h.nm i (by omega) (by omega)).2.2
 rwa [Wx hi] at this
theorem Zx6 {l:List ByteArray} (h:l.Nodup) {i j:Nat} (hi:i<l.length) (hj:j<l.length) (e:l[i]=l[j]):i=j:=by
 have hp:=List.pairwise_iff_getElem.1 h
 rcases Nat.lt_trichotomy i j with h1 | h1 | h1
 ·exact absurd e (hp i j hi hj h1)
 ·exact h1
 ·exact absurd e.symm (hp j i hj hi h1)
section
variable {N W:Nat} {n:W2} {q:Sz} (hf:Zgq N n) (hs:S0 n W) (hq:Zan q) (hN:8000000<N)
include hf hs hq hN
omit hf in
theorem Zrn {at_:List (ByteArray×Int)} (ha:Zin n.2.1 at_ n.2.1.length):∀ (l:List ByteArray) (f i:Nat) (S:List ByteArray) (es:List (ByteArray×Int)),q.2.2.2.2.1.drop i=l→i≤q.2.2.2.2.1.length→q.2.2.2.2.1.length<f+i→Zb1 S es→S.length≤2097152+i→
  ∃ e,Qf at_ l ((n.2.1.length:Int) - (S.length:Int)) es=some e∧Qn N n q f (i:Int) S=some e
 | [],f,i,S,es,hd,hi,hn,ht,hS=>by
  have hnm:=hs.nm;have hqo:=hq.o
  have hil:q.2.2.2.2.1.length≤i:=by
   rcases Nat.lt_or_ge i q.2.2.2.2.1.length with h | h
   ·rw [List.drop_eq_getElem_cons h] at hd;cases hd
   ·exact h
  obtain ⟨f',rfl⟩:∃ f',f=f'+1:=⟨f - 1,by omega⟩
  rw [Qf.eq_1,Qn.eq_2,if_neg (show ¬ decide ((i:Int)<(q.2.2.2.2.1.length:Int))=true by rw [decide_eq_false (by omega)];decide)]
  by_cases h:S.length=n.2.1.length
  ·rw [if_neg (by rw [decide_eq_true (by omega)];decide),if_neg (by rw [decide_eq_true (by omega)];decide)]
   exact ⟨0,rfl,rfl⟩
  ·rw [if_pos (by rw [decide_eq_false (by omega)];decide),if_pos (by rw [decide_eq_false (by omega)];decide)]
   exact ⟨51,rfl,rfl⟩
 | x :: l,f,i,S,es,hd,hi,hn,ht,hS=>by
  have hnm:=hs.nm;have hqo:=hq.o
  have hk1:i<q.2.2.2.2.1.length:=by
   rcases Nat.lt_or_ge i q.2.2.2.2.1.length with h | h
   ·exact h
   ·rw [List.drop_eq_nil_of_le h] at hd;cases hd
  have hd2:=List.drop_eq_getElem_cons hk1
  rw [hd] at hd2
  obtain ⟨hx,hl2⟩:=List.cons.inj hd2
  obtain ⟨f',rfl⟩:∃ f',f=f'+1:=⟨f - 1,by omega⟩
  obtain ⟨j,j1,j2⟩:=Zkf (N:=N) (l:=n.2.1) x (by omega) (by omega)
  rw [Qf.eq_2,Qn.eq_2,if_pos (show decide ((i:Int)<(q.2.2.2.2.1.length:Int))=true from decide_eq_true (by omega)),Xg hk1,Option.bind_some,← hx,j1,Option.bind_some]
  by_cases hm:x ∈ n.2.1
  ·obtain ⟨v,hv,hvx⟩:=List.mem_iff_getElem.1 hm
   have hg:=ha.i v hv (by omega)
   rw [hvx] at hg
   obtain ⟨k,k1,k2⟩:=Zkf (N:=N) (l:=S) x (by omega) (by omega)
   rw [hg,if_neg (show ¬ (!(some (v:Int)).isSome)=true by simp),if_neg (show ¬ decide (j<0)=true by rw [decide_eq_false (fun h=>(j2.1 h) hm)];decide),k1,Option.bind_some,ht.g x]
   by_cases hS2:x ∈ S
   ·rw [if_pos hS2,Zcm,if_pos (by decide),Zdh,if_pos (decide_eq_true (by have:=mt k2.1 (fun h=>h hS2);omega))]
    exact ⟨51,rfl,rfl⟩
   ·have hk0:=k2.2 hS2
    rw [if_neg hS2,Zcm,if_neg (by decide),Zdh,if_neg (show ¬ decide (0≤k)=true by rw [decide_eq_false (by omega)];decide),Option.bind_some,Xg hk1,Option.bind_some,← hx,Xj (by simp only [List.length_singleton,maxLen];omega),Z6 (x:=(i:Int)+1) (by omega),Z6 (by omega)]
    have ih:=Zrn ha l f' (i+1) (S++[x]) (Vm es x 1) hl2.symm (by omega) (by omega) (ht.put hS2) (by simp only [List.length_append,List.length_singleton];omega)
    rw [List.length_append,List.length_singleton] at ih
    rw [show (n.2.1.length:Int) - (S.length:Int) - 1=(n.2.1.length:Int) - ((S.length+1:Nat):Int) by omega]
    exact ih
  ·have hg:=ha.o x (by rw [List.take_length];exact hm)
   rw [hg,if_pos (by decide),if_pos (decide_eq_true (j2.2 hm)),Zcm,if_pos rfl,Zdh,if_pos rfl]
   exact ⟨51,rfl,rfl⟩
theorem Zro {at_:List (ByteArray×Int)} (ha:Zin n.2.1 at_ n.2.1.length):∀ (l:List (ByteArray×ByteArray)) (f i:Nat) (S:List ByteArray) (es:List (ByteArray×Int)),(q.2.1++q.2.2.1).drop i=l→i≤(q.2.1++q.2.2.1).length→(q.2.1++q.2.2.1).length<f+i→Zb1 S es→S.length≤i→
  ∃ e,Uj n q at_ l i es=some e∧Uy N n q f S (i:Int)=some e
 | [],f,i,S,es,hd,hi,hn,ht,hS=>by
  have hnm:=hs.nm;have hqa:=hq.a;have hqg:=hq.g;have hqo:=hq.o
  have hlen:(q.2.1++q.2.2.1).length≤2097152:=by rw [List.length_append];omega
  have hil:(q.2.1++q.2.2.1).length≤i:=by
   rcases Nat.lt_or_ge i (q.2.1++q.2.2.1).length with h | h
   ·rw [List.drop_eq_getElem_cons h] at hd;cases hd
   ·exact h
  obtain ⟨f',rfl⟩:∃ f',f=f'+1:=⟨f - 1,by omega⟩
  rw [Uj.eq_1,Uy.eq_2,List.nil_append,if_neg (show ¬ decide ((i:Int)<((q.2.1++q.2.2.1).length:Int))=true by rw [decide_eq_false (by omega)];decide)]
  by_cases h:q.2.2.2.1=3
  ·rw [if_neg (by rw [decide_eq_true h];decide),if_neg (by rw [decide_eq_true h];decide),ht.l,Z6 (by omega)]
   exact Zrn hs hq hN ha q.2.2.2.2.1 N 0 S es (by simp) (by omega) (by omega) ht (by omega)
  ·rw [if_pos (by rw [decide_eq_false h];decide),if_pos (by rw [decide_eq_false h];decide)]
   exact ⟨0,rfl,rfl⟩
 | x :: l,f,i,S,es,hd,hi,hn,ht,hS=>by
  have hnm:=hs.nm;have hqa:=hq.a;have hqg:=hq.g;have hqo:=hq.o
  have hlen:(q.2.1++q.2.2.1).length≤2097152:=by rw [List.length_append];omega
  have hk1:i<(q.2.1++q.2.2.1).length:=by
   rcases Nat.lt_or_ge i (q.2.1++q.2.2.1).length with h | h
   ·exact h
   ·rw [List.drop_eq_nil_of_le h] at hd;cases hd
  have hd2:=List.drop_eq_getElem_cons hk1
  rw [hd] at hd2
  obtain ⟨hx,hl2⟩:=List.cons.inj hd2
  obtain ⟨f',rfl⟩:∃ f',f=f'+1:=⟨f - 1,by omega⟩
  obtain ⟨j,j1,j2,j3⟩:=Zrc (N:=N) (l:=n.2.1) x.1 (by omega) (by omega)
  have hat:Zv (q.2.1++q.2.2.1) (i:Int)=some x:=by rw [Xg hk1,hx]
  -- the program's step, whichever way
  have step:Uj n q at_ (x :: l) i es=Zfe n at_ i es (Uj n q at_ l) x (decide (q.1=3∧i=0)):=by
   rw [Uj.eq_2]
   by_cases h3:q.1=3
   ·rw [if_pos (decide_eq_true h3)]
    congr 1
    exact decide_eq_decide.2 ⟨fun h=>⟨h3,by omega⟩,fun h=>by omega⟩
   ·rw [if_neg (by rw [decide_eq_false h3];decide)]
    congr 1
    exact (decide_eq_false fun h=>h3 h.1).symm
  rw [step,Uy.eq_2,List.nil_append,if_pos (show decide ((i:Int)<((q.2.1++q.2.2.1).length:Int))=true from decide_eq_true (by omega)),hat,Option.bind_some,j1,Option.bind_some,Zfe]
  by_cases hm:x.1 ∈ n.2.1
  ·obtain ⟨v,rfl,hv,hvx⟩:=j2 hm
   have hg:=ha.i v hv (by omega)
   rw [hvx] at hg
   obtain ⟨k,k1,k2⟩:=Zkf (N:=N) (l:=S) x.1 (by omega) (by omega)
   have hv2:v<n.2.2.1.length:=by rw [hf.ev.v];exact hv
   have hvl:=hs.vl _ (List.getElem_mem hv2)
   obtain ⟨m,m1,m2⟩:=Zkf (N:=N) (l:=n.2.2.1[v]) x.2 (by omega) (by omega)
   rw [hg,if_neg (show ¬ (!(some (v:Int)).isSome)=true by simp),if_neg (show ¬ decide ((v:Int)<0)=true by rw [decide_eq_false (by omega)];decide),k1,Option.bind_some,ht.g x.1]
   by_cases hS2:x.1 ∈ S
   ·rw [if_pos hS2,if_pos (by decide),Tw,if_pos rfl,Zdg,if_pos (decide_eq_true (by have:=mt k2.1 (fun h=>h hS2);omega))]
    exact ⟨50,rfl,rfl⟩
   ·have hk0:=k2.2 hS2
    have more:∃ e,Tw i es (Uj n q at_ l) x false=some e∧Zaf q S (i:Int) (Uy N n q f') false=some e:=by
     rw [Tw,if_neg (by decide),Zjr,Option.bind_some,Zjq,Zaf,if_neg (by decide),Zjy,List.nil_append,hat,Option.bind_some,Xj (by simp only [List.length_singleton,maxLen];omega),Zjx,Z6 (by omega)]
     exact Zro ha l f' (i+1) (S++[x.1]) (Vm es x.1 1) hl2.symm (by omega) (by omega) (ht.put hS2) (by simp only [List.length_append,List.length_singleton];omega)
    have bad:∃ e,Tw i es (Uj n q at_ l) x true=some e∧Zaf q S (i:Int) (Uy N n q f') true=some e:=by
     rw [Tw,if_pos rfl,Zaf,if_pos rfl]
     exact ⟨50,rfl,rfl⟩
    rw [if_neg hS2,if_neg (by decide),Zdg,if_neg (show ¬ decide (0≤k)=true by rw [decide_eq_false (by omega)];decide),Xg hv2,Option.bind_some,List.nil_append,hat,Option.bind_some,m1,Option.bind_some,Option.getD_some,Xg hv2,Option.bind_some,Zn2,Option.bind_some]
    by_cases hin:x.2 ∈ n.2.2.1[v]
    ·rw [if_neg (show ¬ decide (m<0)=true by rw [decide_eq_false (fun h=>(m2.1 h) hin)];decide),decide_eq_true hin]
     split <;> exact more
    ·rw [if_pos (show decide (m<0)=true from decide_eq_true (m2.2 hin)),decide_eq_false hin]
     by_cases h3:q.1=3
     ·rw [if_neg (show ¬ (!decide (q.1=3))=true by rw [decide_eq_true h3];decide)]
      by_cases hi0:i=0
      ·rw [if_neg (by rw [decide_eq_true ⟨h3,hi0⟩];decide),decide_eq_false (by omega)]
       exact more
      ·rw [if_pos (by rw [decide_eq_false (fun h=>hi0 h.2)];decide),decide_eq_true (by omega)]
       exact bad
     ·rw [if_pos (show (!decide (q.1=3))=true by rw [decide_eq_false h3];decide),if_pos (by rw [decide_eq_false (fun h=>h3 h.1)];decide)]
      exact bad
  ·have hg:=ha.o x.1 (by rw [List.take_length];exact hm)
   rw [hg,if_pos (by decide),if_pos (decide_eq_true (by rw [j3 hm];decide)),Tw,if_pos rfl,Zdg,if_pos rfl]
   exact ⟨50,rfl,rfl⟩
omit hs hq hN in
theorem qat (kk:List (ByteArray×Int)→Option Int) (hkk:∀ es,Qe n q [] n.2.1.length es=kk es):∀ (l:List ByteArray) (k:Nat) (es:List (ByteArray×Int)),n.2.1.drop k=l→k≤n.2.1.length→Zin n.2.1 es k→∃ es',Zin n.2.1 es' n.2.1.length∧Qe n q l k es=kk es'
 | [],k,es,hd,hk,ha=>by
  have hkl:k=n.2.1.length:=by
   rcases Nat.lt_or_ge k n.2.1.length with h | h
   ·rw [List.drop_eq_getElem_cons h] at hd;cases hd
   ·omega
  subst hkl
  exact ⟨es,ha,hkk es⟩
 | x :: l,k,es,hd,hk,ha=>by
  have hk1:k<n.2.1.length:=by
   rcases Nat.lt_or_ge k n.2.1.length with h | h
   ·exact h
   ·rw [List.drop_eq_nil_of_le h] at hd;cases hd
  have hd2:=List.drop_eq_getElem_cons hk1
  rw [hd] at hd2
  obtain ⟨hx,hl2⟩:=List.cons.inj hd2
  rw [Qe.eq_2,Option.bind_some]
  refine qat kk hkk l (k+1) _ hl2.symm (by omega) ⟨fun i h hik=>?_,fun y hy=>?_⟩
  ·rw [Zh9]
   by_cases he:n.2.1[i]=x
   ·have:i=k:=Zx6 hf.nodup h hk1 (by rw [he,hx])
    rw [if_pos he,this]
   ·have:i≠k:=fun h2=>he (by subst h2;exact hx.symm)
    rw [if_neg he]
    exact ha.i i h (by omega)
  ·rw [List.take_add_one,List.getElem?_eq_getElem hk1,Option.toList_some,List.mem_append,List.mem_singleton,← hx] at hy
   rw [Zh9,if_neg (fun h=>hy (.inr h))]
   exact ha.o y fun h=>hy (.inl h)
end
theorem Zyl {N W:Nat} {n:W2} {q:Sz} (hs:S0 n W) (hq:Zan q) (hr:X5 N (8 * W+40)) (hN:8000000<N):∃ e,Zfd N n q=some e∧Zgd N n q=some e:=by
 obtain ⟨e,e1,e2,e3⟩:=Zv5 hs hr (by omega)
 have hqa:=hq.a;have hqg:=hq.g
 have e1':Zev N (n.1,n.2.1,n.2.2.1,n.2.2.2.1,n.2.2.2.2)=some e:=e1
 have e2':Zf2 N (n.1,n.2.1,n.2.2.1,n.2.2.2.1,n.2.2.2.2)=some e:=e2
 rw [Zfd,Zgd,e1',e2',Option.bind_some,Option.bind_some]
 by_cases he:e=0
 ·have hf:=e3 he
  rw [if_neg (show ¬ (!decide (e=0))=true by rw [decide_eq_true he];decide),if_neg (show ¬ (!decide (e=0))=true by rw [decide_eq_true he];decide)]
  -- the kinds
  obtain ⟨b,b1⟩:∃ b,Za8 q=some b:=by
   rw [Za8];(repeat' split) <;> exact ⟨_,rfl⟩
  have b2:Zh4 q=some b:=by rw [← b1];rfl
  have b1':Za8 (q.1,q.2.1,q.2.2.1,q.2.2.2.1,q.2.2.2.2.1,(q.2.2.2.2.2.1,q.2.2.2.2.2.2))=some b:=b1
  have b2':Zh4 (q.1,q.2.1,q.2.2.1,q.2.2.2.1,q.2.2.2.2.1,(q.2.2.2.2.2.1,q.2.2.2.2.2.2))=some b:=b2
  have bad:∃ e,Sk n q true=some e∧Qm N n q true=some e:=⟨50,by rw [Sk,if_pos rfl],by rw [Qm,if_pos rfl]⟩
  have good:∃ e,Sk n q false=some e∧Qm N n q false=some e:=by
   rw [Sk,if_neg (by decide),Qm,if_neg (by decide),Zjp,Xj (by simp only [List.length_nil,maxLen];omega),Xj (by simp only [List.length_append,List.length_nil,maxLen];omega)]
   obtain ⟨es,h1,h2⟩:=qat hf (q:=q) (fun es=>Qe n q [] n.2.1.length es) (fun _=>rfl) n.2.1 0 [] (by simp) (by omega) ⟨fun i h h2=>by omega,fun x _=>by simp [X4]⟩
   rw [h2,Qe.eq_1,Zj3,Xj (by simp only [List.length_nil,maxLen];omega),Option.bind_some,List.nil_append,Xj (by simp only [maxLen];omega)]
   exact Zro hf hs hq hN h1 (q.2.1++q.2.2.1) N 0 [] [] (by simp) (by omega) (by rw [List.length_append];omega) .nil (by simp)
  rw [b1',b2',Option.bind_some]
  cases b with
  | false=>
   simp only [Option.bind_some,Bool.not_false,if_true]
   split
   ·split
    ·split
     ·exact bad
     ·exact bad
    ·exact bad
   ·exact bad
  | true=>
   simp only [Option.bind_some,Bool.not_true,Bool.not_eq_true',decide_eq_false_iff_not,decide_eq_true_eq]
   by_cases h0:q.2.2.2.1=1∨q.2.2.2.1=2∨q.2.2.2.1=3
   ·have hm:∃ e,Sk n q false=some e∧Qm N n q (decide (3<q.2.2.2.1))=some e:=by
     rw [show decide (3<q.2.2.2.1)=false from decide_eq_false (by omega)];exact good
    rw [if_neg (show ¬ q.2.2.2.1<1 by omega)]
    split
    ·split
     ·split
      ·omega
      ·exact hm
     ·exact hm
    ·exact hm
   ·rw [if_pos (show ¬ q.2.2.2.1=1 by omega),if_pos (show ¬ q.2.2.2.1=2 by omega),if_pos (show ¬ q.2.2.2.1=3 by omega)]
    by_cases h4:q.2.2.2.1<1
    ·rw [if_pos h4];exact bad
    ·rw [if_neg h4,show decide (3<q.2.2.2.1)=true from decide_eq_true (by omega)]
     exact bad
 ·rw [if_pos (show (!decide (e=0))=true by rw [decide_eq_false he];decide),if_pos (show (!decide (e=0))=true by rw [decide_eq_false he];decide)]
  exact ⟨e,rfl,rfl⟩
def We (q:Sz):Int×(Nat×List (ByteArray×ByteArray))×(Nat×List (ByteArray×ByteArray))×Int×(Nat×List ByteArray)×(Bool×Bool):=
 (q.1,Wl [(⟨#[35,49]⟩,⟨#[]⟩),(⟨#[35,50]⟩,⟨#[]⟩)] q.2.1,Wl [(⟨#[35,51]⟩,⟨#[]⟩),(⟨#[35,52]⟩,⟨#[]⟩)] q.2.2.1,q.2.2.2.1,Wl [⟨#[35,53]⟩,⟨#[35,54]⟩] q.2.2.2.2.1,q.2.2.2.2.2)
theorem Zzy {q:Sz} (hq:Zan q):Zes q=some (We q):=by
 have h1:=hq.a;have h2:=hq.g;have h3:=hq.o
 rw [Zes]
 repeat rw [Xj (by simp only [List.length_append,List.length_cons,List.length_nil,maxLen];omega)]
 simp only [Int.toNat_natCast,List.nil_append]
 rfl
theorem Zs7 {N:Nat} {a:List (ByteArray×ByteArray)} (h:a.length≤1048576):∀ (f i:Nat),i≤a.length→a.length<f+i→Zdl N a a f (i:Int)=some true
 | 0,i,h1,h2=>by omega
 | f+1,i,h1,h2=>by
  rw [Zdl.eq_2]
  by_cases hi:i<a.length
  ·rw [if_pos (decide_eq_true (by omega)),Xg hi,Option.bind_some,Option.bind_some,if_neg (by simp),Z6 (by omega)]
   exact Zs7 h f (i+1) (by omega) (by omega)
  ·rw [if_neg (by rw [decide_eq_false (by omega)];decide)]
theorem Zs8 {N:Nat} {a:List (ByteArray×ByteArray)} (h:a.length≤1048576) (hN:1048577<N):Zgf N a a=some true:=by
 rw [Zgf,if_neg (by rw [decide_eq_true rfl];decide)]
 exact Zs7 h N 0 (by omega) (by omega)
theorem Zs9 {N:Nat} {q:Sz} (hq:Zan q) (hN:1048577<N):∀ (f i:Nat),i≤q.2.2.2.2.1.length→q.2.2.2.2.1.length<f+i→Zdj N q q f (i:Int)=some true
 | 0,i,h1,h2=>by omega
 | f+1,i,h1,h2=>by
  have h3:=hq.o
  rw [Zdj.eq_2]
  by_cases hi:i<q.2.2.2.2.1.length
  ·rw [if_pos (decide_eq_true (by omega)),Xg hi,Option.bind_some,Option.bind_some,if_neg (by rw [decide_eq_true rfl];decide),Z6 (by omega)]
   exact Zs9 hq hN f (i+1) (by omega) (by omega)
  ·rw [if_neg (by rw [decide_eq_false (by omega)];decide),Zs8 hq.a hN,Option.bind_some,if_pos rfl,Zs8 hq.g hN];rfl
theorem Zzl {N:Nat} {q:Sz} (hq:Zan q) (hN:1048577<N):Zge N q q=some true:=by
 rw [Zge,if_neg (by rw [decide_eq_true rfl];decide),if_neg (by rw [decide_eq_true rfl];decide),if_neg (by simp),Zdi,if_neg (by rw [decide_eq_true rfl];decide)]
 have h3:=hq.o
 exact Zs9 hq hN N 0 (by omega) (by omega)
theorem Zdz {α:Type} (l:List α) (a b:α):Zv (l++[a,b]) ((l.length:Int)+2 - 1)=some b∧Zv (l++[a,b]) ((l.length:Int)+2 - 2)=some a:=by
 constructor
 ·rw [show (l.length:Int)+2 - 1=((l.length+1:Nat):Int) by omega,Uk,List.getElem?_append_right (by omega),show l.length+1 - l.length=1 by omega];rfl
 ·rw [show (l.length:Int)+2 - 2=((l.length:Nat):Int) by omega,Uk,List.getElem?_append_right (by omega),show l.length - l.length=0 by omega];rfl
theorem Zxa {N:Nat} {q:Sz} (hq:Zan q) (hN:1048577<N):Zer N (We q) q=some true:=by
 have h1:=hq.a;have h2:=hq.g;have h3:=hq.o
 have v1:(We q).2.1.2.take (We q).2.1.1=q.2.1:=Zbv _ _
 have v2:(We q).2.2.1.2.take (We q).2.2.1.1=q.2.2.1:=Zbv _ _
 have v3:(We q).2.2.2.2.1.2.take (We q).2.2.2.2.1.1=q.2.2.2.2.1:=Zbv _ _
 have w1:(We q).2.1.2=q.2.1++[(⟨#[35,49]⟩,⟨#[]⟩),(⟨#[35,50]⟩,⟨#[]⟩)]:=rfl
 have w2:(We q).2.2.1.2=q.2.2.1++[(⟨#[35,51]⟩,⟨#[]⟩),(⟨#[35,52]⟩,⟨#[]⟩)]:=rfl
 have w3:(We q).2.2.2.2.1.2=q.2.2.2.2.1++[⟨#[35,53]⟩,⟨#[35,54]⟩]:=rfl
 have s:Zge N ((We q).1,q.2.1,q.2.2.1,(We q).2.2.2.1,q.2.2.2.2.1,((We q).2.2.2.2.2.1,(We q).2.2.2.2.2.2)) (q.1,q.2.1,q.2.2.1,q.2.2.2.1,q.2.2.2.2.1,(q.2.2.2.2.2.1,q.2.2.2.2.2.2))=some true:=Zzl hq hN
 have ql:∀ {α:Type} (l:List α) (a b:α),((l++[a,b]).length:Int)=(l.length:Int)+2:=fun l a b=>by simp
 have tk:∀ {α:Type} (l:List α) (a b:α),(l++[a,b]).take (l.length+2)=l++[a,b]:=fun l a b=>List.take_of_length_le (by simp)
 have tn:∀ k:Nat,Int.toNat ((k:Int)+2)=k+2:=fun k=>by omega
 rw [Zer,v1,v2,v3,s,Option.bind_some,if_neg (by decide),Z6 (x:=(q.2.1.length:Int)+2) (by omega),Z6 (x:=(q.2.2.1.length:Int)+2) (by omega),Z6 (x:=(q.2.2.2.2.1.length:Int)+2) (by omega),w1,w2,w3,
  Xj (by rw [ql];omega),Xj (by rw [ql];omega),Xj (by rw [ql];omega),tn,tn,tn,tk,tk,tk,ql,ql,ql,
  Z6 (x:=(q.2.1.length:Int)+2 - 2) (by omega),Z6 (x:=(q.2.1.length:Int)+2 - 1) (by omega),Z6 (x:=(q.2.2.1.length:Int)+2 - 2) (by omega),Z6 (x:=(q.2.2.1.length:Int)+2 - 1) (by omega),Z6 (x:=(q.2.2.2.2.1.length:Int)+2 - 2) (by omega),Z6 (x:=(q.2.2.2.2.1.length:Int)+2 - 1) (by omega),
  (Zdz q.2.1 _ _).2,Option.bind_some,if_pos (decide_eq_true rfl),(Zdz q.2.1 _ _).1,Option.bind_some,if_pos (decide_eq_true rfl),(Zdz q.2.2.1 _ _).2,Option.bind_some,if_pos (decide_eq_true rfl),(Zdz q.2.2.1 _ _).1,Option.bind_some,if_pos (decide_eq_true rfl),(Zdz q.2.2.2.2.1 _ _).2,Option.bind_some,if_pos (decide_eq_true rfl),(Zdz q.2.2.2.2.1 _ _).1,Option.bind_some,Qw,decide_eq_true rfl]
theorem Ztz {N W:Nat} {n:W2} {q:Sz} (hs:S0 n W) (hb:Zis n) (hq:Zan q) (hr:X5 N (8 * W+40)) (hN:8000000<N):Zjj N n q=some true:=by
 obtain ⟨e,e1,e2⟩:=Zyl hs hq hr hN
 have l:Zga N (n.1,n.2.1,n.2.2.1,n.2.2.2.1,n.2.2.2.2)=some (Wf n):=Zxf hb (by omega)
 have t:Zes (q.1,q.2.1,q.2.2.1,q.2.2.2.1,q.2.2.2.2.1,(q.2.2.2.2.2.1,q.2.2.2.2.2.2))=some (We q):=Zzy hq
 have v1:(We q).2.1.2.take (We q).2.1.1=q.2.1:=Zbv _ _
 have v2:(We q).2.2.1.2.take (We q).2.2.1.1=q.2.2.1:=Zbv _ _
 have v3:(We q).2.2.2.2.1.2.take (We q).2.2.2.2.1.1=q.2.2.2.2.1:=Zbv _ _
 have e1':Zfd N n ((We q).1,q.2.1,q.2.2.1,(We q).2.2.2.1,q.2.2.2.2.1,((We q).2.2.2.2.2.1,(We q).2.2.2.2.2.2))=some e:=e1
 have e2':Zgd N (n.1,n.2.1,n.2.2.1,n.2.2.2.1,n.2.2.2.2) (q.1,q.2.1,q.2.2.1,q.2.2.2.1,q.2.2.2.2.1,(q.2.2.2.2.2.1,q.2.2.2.2.2.2))=some e:=e2
 have k1:Zf9 N ((Wf n).1,((Wf n).2.1.1,(Wf n).2.1.2),(Wf n).2.2.1,(Wf n).2.2.2.1,(Wf n).2.2.2.2) (n.1,n.2.1,n.2.2.1,n.2.2.2.1,n.2.2.2.2)=some true:=Zw9 hb (by omega)
 have k2:Zer N ((We q).1,((We q).2.1.1,(We q).2.1.2),((We q).2.2.1.1,(We q).2.2.1.2),(We q).2.2.2.1,((We q).2.2.2.2.1.1,(We q).2.2.2.2.1.2),((We q).2.2.2.2.2.1,(We q).2.2.2.2.2.2)) (q.1,q.2.1,q.2.2.1,q.2.2.2.1,q.2.2.2.2.1,(q.2.2.2.2.2.1,q.2.2.2.2.2.2))=some true:=Zxa hq (by omega)
 rw [Zjj,l,Option.bind_some,t,Option.bind_some,Zzz,v1,v2,v3,e1',Option.bind_some,e2',Option.bind_some,if_pos (decide_eq_true rfl),k1,Option.bind_some,if_pos rfl,k2,Option.bind_some,Zeq]
theorem Tp {α:Type} {b:α→Nat} (hb:∀ x,1≤b x):∀ (l:List α),l.length+1≤X9 b l
 | []=>by simp [X9]
 | x :: l=>by
  have h:=Tp hb l
  have:=hb x
  simp only [X9,List.map_cons,List.sum_cons,List.length_cons] at h ⊢
  omega
theorem Zj7 {α:Type} {b:α→Nat} {x:α}:∀ {l:List α},x ∈ l→b x+1≤X9 b l
 | y :: l,h=>by
  simp only [X9,List.map_cons,List.sum_cons]
  rcases List.mem_cons.1 h with rfl | h
  ·omega
  ·have:=Zj7 (b:=b) h
   simp only [X9] at this
   omega
theorem Zk7 {α:Type} {b:α→Nat} (l:List α):1≤X9 b l:=by simp only [X9];omega
theorem Zix (s:ByteArray):1≤Wb s:=by simp only [Wb];omega
theorem Zk5 {α:Type} (s:α):1≤Wc s:=by simp only [Wc];omega
theorem Zk6 {α:Type} {b:α→Nat} (s:α):1≤Wj b s:=by simp only [Wj];omega
abbrev Zao:QV→Nat:=Wj (Yg (Wj (Yg Wc (X9 Wc))) (X9 Wc))
abbrev qQ:QV→Prop:=Ws (Ws (fun _=>True) (W3 (U8 .u32))) (W3 (U8 .u32))
abbrev Zgu:W2→Nat:=Wj (Yg Wb (Yg (X9 Wb) (Yg (X9 (X9 Wb)) (Yg (X9 (X9 Wc)) (X9 (X9 Zao))))))
abbrev Zrh:W2→Prop:=Ws (fun _=>True) (Ws (W3 (fun _=>True)) (Ws (W3 (W3 (fun _=>True))) (Ws (W3 (W3 (U8 .i64))) (W3 (W3 qQ)))))
theorem Zp0 {l:List Int} (h:W3 (U8 .u32) l):Zw l:=by
 intro d hd
 have h1:=h d hd
 simp [U8,Lit.wf,IntKind.min,IntKind.max,IntKind.signed,IntKind.bits] at h1
 omega
theorem Zxj {x:QV} (h:qQ x):Vy x:=⟨Zp0 h.1.2,Zp0 h.2⟩
theorem Zmz (x:QV):x.1.2.length+x.2.length+4≤Zao x:=by
 have h1:=Tp (b:=Wc) Zk5 x.1.2
 have h2:=Tp (b:=Wc) Zk5 x.2
 simp only [Wj,Yg]
 have h3:Wc x.1.1=1:=rfl
 omega
theorem Zrl:∀ t:List QV,Yu t≤X9 Zao t
 | []=>by rw [Yu];omega
 | x :: t=>by
  have h1:=Zrl t
  have h2:=Zmz x
  rw [Yu]
  simp only [X9,List.map_cons,List.sum_cons] at h1 ⊢
  omega
theorem Ztm:∀ P:List (List Int),U2 P+P.length≤X9 (X9 Wc) P
 | []=>by simp [U2,X9]
 | l :: P=>by
  have h1:=Ztm P
  have h2:=Tp (b:=Wc) Zk5 l
  rw [Zil,List.length_cons]
  simp only [X9,List.map_cons,List.sum_cons] at h1 h2 ⊢
  omega
theorem Zx2 {n:W2} (hb:Zgu n≤1048576) (hq:Zrh n):S0 n 1048576∧Zis n:=by
 have a1:=Zix n.1
 have a2:=Tp (b:=Wb) Zix n.2.1
 have a3:=Tp (b:=X9 Wb) Zk7 n.2.2.1
 have a4:=Ztm n.2.2.2.1
 have a5:=Tp (b:=X9 Zao) Zk7 n.2.2.2.2
 have a6:=Zk7 (b:=X9 Wc) n.2.2.2.1
 simp only [Zgu,Wj,Yg] at hb
 have b3:∀ l ∈ n.2.2.1,l.length≤1048576:=fun l hl=>by
  have h1:=Zj7 (b:=X9 Wb) hl
  have h2:=Tp (b:=Wb) Zix l
  omega
 have b4:∀ l ∈ n.2.2.2.1,l.length≤1048576:=fun l hl=>by
  have h1:=Zkt hl
  omega
 have b5:∀ t ∈ n.2.2.2.2,X9 Zao t≤1048576:=fun t ht=>by
  have h1:=Zj7 (b:=X9 Zao) ht
  omega
 have b6:∀ t ∈ n.2.2.2.2,t.length≤1048576:=fun t ht=>by
  have h1:=b5 t ht
  have h2:=Tp (b:=Zao) Zk6 t
  omega
 refine ⟨⟨by omega,b3,⟨by omega,by omega⟩,b6,fun t ht=>Nat.le_trans (Zrl t) (b5 t ht),fun t ht x hx=>Zxj (hq.2.2.2.2 t ht x hx)⟩,⟨by omega,by omega,b3,by omega,b4,by omega,b6,fun t ht x hx=>?_⟩⟩
 have h1:=b5 t ht
 have h2:=Zj7 (b:=Zao) hx
 have h3:=Zmz x
 omega
theorem Zx1:X5 4611686018427387904 (8 * 1048576+40):=by rw [X5];decide

end Go.Proofs.YtbmjpjhbankpoaaGreat
