/-
  What functions of the program compute, as plain Lean functions (m_..), and proofs that they compute it (c_..). Printed by a program of the author; no conditions.
-/
import Derived.Test.YtbmjpjhbankpoaaGreatQueryCheckBFloat
import Derived.Test.YtbmjpjhbankpoaaGreatProg
import Derived.Test.YtbmjpjhbankpoaaGreatQueryCheckBThree
import Derived.Test.YtbmjpjhbankpoaaGreatQueryCheckBView
import Derived.Test.YtbmjpjhbankpoaaGreatQueryCheckF4
set_option linter.unusedVariables false
set_option maxRecDepth 100000
set_option maxHeartbeats 2000000
namespace Go.Proofs.YtbmjpjhbankpoaaGreat
open Go Go.RowKit
open Go.IntKind (i8 i16 i32 i64 u8 u16 u32 u64)
open Go.Proofs.Tryz

def Zgg (aa:List ByteArray) (ab:ByteArray):Option Bool:=
  (Zj6 aa ab).bind fun ac=>some (decide (0≤ac))
theorem Znt (col:Zh) (w0:World) (a0:Option Addr) (ac:Nat) (aa:List ByteArray) (ad:ByteArray) (h0:Sl Za.str col w0 a0 ac aa) (r:Bool) (hm:Zgg aa ad=some r):
    Calls Tryz.prog 78 #[.slice a0 aa.length ac,.string ad] w0 (fun e w'=>e= .returned ((.bool r))∧Below w0.heap.size w0 w'):=by
 refine Xv 4 (m:=9) func78 rfl rfl rfl rfl rfl ?_;rw [Zgg.eq_1] at hm;have ab:=St.start col w0;refine Zb<|Zd<|Xc rfl<|Zc<|Zb<|Zd<|Zk rfl<|Td rfl ?_;obtain ⟨af,ag,hm⟩:=bZ hm;replace h0:=h0.keep (Zp.start col w0);refine lc rfl rfl (Xa call191 rfl rfl) (Zvz (Zo col) _ a0 ac aa ad (h0.ks ab) af ag) ?_;rintro _ ah ⟨rfl,ae⟩;refine ⟨_,rfl,?_⟩;replace ae:Zf (Zo col) w0 (Zo col) ah:=.of_below ae;refine lV _ (Uq _ _ rfl rfl)<|Xc rfl<|Zc<|Zq ?_;cases hm;replace ab:=ab.grow ae;exact ⟨rfl,rfl,ab.below⟩
def Za3:List ByteArray→(List (ByteArray×Int))→Option Bool
  | [],aa=>some false
  | ab :: ac,aa=>if (decide (0<((X4 aa ab).getD 0)))=true then (some true) else ((some (Vm aa ab 1)).bind fun ad=>(Za3 ac) ad)
termination_by structural x=>x
def Zhc (aa:List ByteArray):Option Bool:=
  Za3 aa ([]:List (ByteArray×Int))
theorem Zus (col:Zh) (w0:World) (a0:Option Addr) (ai:Nat) (ab:List ByteArray) (h0:Sl Za.str col w0 a0 ai ab) (r:Bool) (hm:Zhc ab=some r):
    Calls Tryz.prog 252 #[.slice a0 ab.length ai] w0 (fun e w'=>e= .returned ((.bool r))∧Below w0.heap.size w0 w'):=by
 refine Xv 2 (m:=20) func252 rfl rfl rfl rfl rfl ?_;rw [Zhc.eq_1] at hm;have aa:=St.start col w0;refine Zb<|Zd<|Xc rfl<|Zc<|Zb<|Zd<|Zpl (col:=(Zo col)) (fk:=Value.string) (fv:=(Value.int .i64)) 1 rfl ?_;intro aq a6 ar au av;refine Zjf rfl<|Zc<|Zb<|Zb<|Zd<|Zk rfl<|lV _ (Zs underlying22 rfl)<|Zg rfl<|Zc<|Z0 ?_;replace aa:=aa.grow au;refine Xi (fun n f aj=>∃ (af:Zh) (ag:Nat) (ad:List (ByteArray×Int)) (ac:Nat) (ae:List ByteArray),n=ae.length∧ab.drop ac=ae∧Za3 ae ad=some r∧St w0 (Zo col) af aj∧Ym Value.string (Value.int .i64) 1 af aj ag ad∧f 9=(.int .i64 ac)∧f 3=(.map (some ag))∧f 7=(.slice a0 ab.length ai)∧f 8=(.int .i64 ab.length)∧f 1000000=(enc [])) ab.length ⟨ar,aq,([]:List (ByteArray×Int)),0,ab,rfl,rfl,hm,aa,av,rfl,rfl,rfl,rfl,rfl⟩ ?_;clear hm;intro n f aj hI;obtain ⟨af,ag,ad,ac,ae,hn,hl,hm,aa,am,aw,ax,ay,az,a1⟩:=hI;subst hn;refine .lD 9 aw<|.lD 3 ax<|.lD 7 ay<|.lD 8 az<|.lD 1000000 a1 ?_;replace h0:=h0.keep (Zp.start col w0)
 cases ae with
 | nil=>
  have hk:¬ ((ac:Int)<(ab.length:Int)):=by have:=List.drop_eq_nil_iff.1 hl;omega
  have hkb:=decide_eq_false hk;rw [Za3.eq_1] at hm;refine Zb<|Zd<|lV _ (Z4 _ _ rfl rfl)<|Zc<|Zb<|Wn (congrArg Value.bool hkb) ?_;refine Xl (Xk ?_);refine Zb<|Zd<|Xc rfl<|Zc<|Zq ?_;cases hm;exact ⟨rfl,rfl,aa.below⟩
 | cons ak an=>
  obtain ⟨ah,a2,a3⟩:=Wv hl;have hk:(ac:Int)<(ab.length:Int):=by omega
  have hkb:=decide_eq_true hk;rw [Za3.eq_2] at hm;refine Zb<|Zd<|lV _ (Z4 _ _ rfl rfl)<|Zc<|Zb<|Wo (congrArg Value.bool hkb)<|Zr<|Zb<|Z0<|Zb<|Zd ?_;refine lV _ (Zx underlying22 sizeOf9 rfl rfl (Zi ah).1 (Zi ah).2.1 ((h0.ks aa).addr ah)) ?_;refine lV _ (Zn isAgg9 rfl ((h0.ks aa).atStr ah))<|Zjg rfl<|Zc<|Zb<|Zb<|Zd<|Sh rfl<|Td rfl<|lV (.int .i64 ((X4 ad ak).getD 0)) (Zkj Vt.str am underlying111 underlying9 zeroValue3 rfl rfl)<|lV _ (Wa _ _ rfl rfl)<|Zc ?_;refine Zy _ rfl (fun hb=>?_) (fun hb=>?_)
  ·rw [if_pos hb] at hm;refine Zb<|Zd<|Xc rfl<|Zc<|Zq ?_;cases hm;exact ⟨rfl,rfl,aa.below⟩
  rw [if_neg (Zz hb)] at hm;refine Zr<|Zd<|Sh rfl<|Td rfl ?_;obtain ⟨ao,al,hm⟩:=bZ hm;have al:ao=Vm ad ak 1:=(Option.some.inj al).symm;refine Zg4 (k:=ak) (v:=1) Vt.str am underlying111 underlying9 rfl rfl rfl ?_;intro a7 a4 a5 ap;rw [← al] at ap;refine Zc<|Zd<|lV _ (Z5 _ _ rfl rfl)<|Zg rfl<|Zc ?_;replace aa:=aa.kp a4 a5;exact ⟨an.length,by simp,⟨af,ag,ao,(ac+1),an,rfl,a2,hm,aa,ap,(congrArg (Value.int .i64) (Wy (Nat.lt_of_lt_of_le a3 (h0.ks aa).1.1))),rfl,rfl,rfl,rfl⟩⟩
def Ze0 (ab:(ByteArray×List ByteArray×(List (List ByteArray))×(List (List Int))×(List (List ((Bool×List Int)×List Int))))) (aa:Nat) (kk_L1:(Nat→Option Int)) (ac:Bool):Option Int:=
  if ac=true then (some 40) else ((Zv ab.2.2.1 (aa:Int)).bind fun ad=>if (decide ((ad.length:Int)=0))=true then (some 43) else (kk_L1 (aa+1)))
def Qz (aa:(ByteArray×List ByteArray×(List (List ByteArray))×(List (List Int))×(List (List ((Bool×List Int)×List Int))))):List ByteArray→Nat→Option Int
  | [],ab=>some 0
  | ad :: ac,ab=>Xb ((0:Int)≤(ab:Int)∧(ab:Int)≤(aa.2.1.length:Int)) ((Zgg (aa.2.1.take (Int.toNat (ab:Int))) ad).bind fun ae=>if ae=true then (Ze0 aa ab (Qz aa ac) true) else ((Zv aa.2.2.1 (ab:Int)).bind fun af=>(Zhc af).bind fun ag=>Ze0 aa ab (Qz aa ac) ag))
termination_by structural x=>x
def Zez (aa:(ByteArray×List ByteArray×(List (List ByteArray))×(List (List Int))×(List (List ((Bool×List Int)×List Int))))):Option Int:=
  Qz aa aa.2.1 0
theorem Zup (col:Zh) (w0:World) (ag:Option Addr) (ah:Nat) (am:Option Addr) (an:Nat) (ao:Option Addr) (ap:Nat) (aq:Option Addr) (ar:Nat) (aa:(ByteArray×List ByteArray×(List (List ByteArray))×(List (List Int))×(List (List ((Bool×List Int)×List Int))))) (aj:Sl Za.str col w0 ag ah aa.2.1) (ak:Sl (Za.slice Za.str) col w0 am an aa.2.2.1) (bv:Sl (Za.slice (Za.int .i64)) col w0 ao ap aa.2.2.2.1) (bw:Sl (Za.slice (Za.pair (Za.pair Za.bool (Za.slice (Za.int .u32))) (Za.slice (Za.int .u32)))) col w0 aq ar aa.2.2.2.2) (r:Int) (hm:Zez aa=some r):
    Calls Tryz.prog 174 #[(.agg #[.string aa.1,.slice ag aa.2.1.length ah,.slice am aa.2.2.1.length an,.slice ao aa.2.2.2.1.length ap,.slice aq aa.2.2.2.2.length ar])] w0 (fun e w'=>e= .returned ((.int .i64 r))∧Below w0.heap.size w0 w'):=by
 refine Xv 2 (m:=37) func174 rfl rfl rfl rfl rfl ?_;rw [Zez.eq_1] at hm;have ab:=St.start col w0;refine Zb<|Zd<|X3 (col:=(Zo col)) 1 rfl ?_;intro ai bx bd be ae;refine Zj rfl<|Zc<|Zb<|Zb<|Zd<|Z9 ai 1 underlying27 rfl sizeOf22 isAgg22 ae rfl<|lV _ (Zs underlying22 rfl)<|Zg rfl<|Zc<|Z0 ?_;replace ab:=ab.grow be;refine Xi (fun n f au=>∃ (af:Zh) (ad:Nat) (al:List ByteArray),n=al.length∧aa.2.1.drop ad=al∧Qz aa al ad=some r∧St w0 (Zo col) af au∧Zt 27 1 af au ai #[.string aa.1,.slice ag aa.2.1.length ah,.slice am aa.2.2.1.length an,.slice ao aa.2.2.2.1.length ap,.slice aq aa.2.2.2.2.length ar]∧f 8=(.int .i64 ad)∧f 1=(.pointer (some ⟨ai,0,none⟩))∧f 6=(.slice ag aa.2.1.length ah)∧f 7=(.int .i64 aa.2.1.length)∧f 1000000=(enc [])) aa.2.1.length ⟨bd,0,aa.2.1,rfl,rfl,hm,ab,ae,rfl,rfl,rfl,rfl,rfl⟩ ?_;clear hm;intro n f au hI;obtain ⟨af,ad,al,hn,hl,hm,ab,ae,a1,a2,a3,a4,a5⟩:=hI;subst hn;refine .lD 8 a1<|.lD 1 a2<|.lD 6 a3<|.lD 7 a4<|.lD 1000000 a5 ?_;replace aj:=aj.keep (Zp.start col w0);replace ak:=ak.keep (Zp.start col w0)
 cases al with
 | nil=>
  have hk:¬ ((ad:Int)<(aa.2.1.length:Int)):=by have:=List.drop_eq_nil_iff.1 hl;omega
  have hkb:=decide_eq_false hk;rw [Qz.eq_1] at hm;refine Zb<|Zd<|lV _ (Z4 _ _ rfl rfl)<|Zc<|Zb<|Wn (congrArg Value.bool hkb) ?_;refine Xl (Xk ?_);refine Zb<|Zd<|Zj rfl<|Zc<|Zq ?_;cases hm;exact ⟨rfl,rfl,ab.below⟩
 | cons bf a6=>
  obtain ⟨av,bg,bh⟩:=Wv hl;have hk:(ad:Int)<(aa.2.1.length:Int):=by omega
  have hkb:=decide_eq_true hk;rw [Qz.eq_2] at hm;refine Zb<|Zd<|lV _ (Z4 _ _ rfl rfl)<|Zc<|Zb<|Wo (congrArg Value.bool hkb)<|Zr<|Zb<|Z0<|Zb<|Zd<|Zg rfl ?_;refine lV _ (Zx underlying22 sizeOf9 rfl rfl (Zi av).1 (Zi av).2.1 ((aj.ks ab).addr av)) ?_;refine lV _ (Zn isAgg9 rfl ((aj.ks ab).atStr av))<|Zj rfl<|Zjg rfl<|Zc<|Z0<|Zb ?_;refine Wp.cut (fun f a7=>∃ (aw:Zh) (a8:Bool),Ze0 aa ad (Qz aa a6) a8=some r∧St w0 (Zo col) aw a7∧Zt 27 1 aw a7 ai #[.string aa.1,.slice ag aa.2.1.length ah,.slice am aa.2.2.1.length an,.slice ao aa.2.2.2.1.length ap,.slice aq aa.2.2.2.2.length ar]∧f 1=(.pointer (some ⟨ai,0,none⟩))∧f 13=(.bool a8)∧f 3=(.int .i64 ad)∧f 6=(.slice ag aa.2.1.length ah)∧f 7=(.int .i64 aa.2.1.length)∧f 8=(.int .i64 ad)∧f 1000000=(enc [])) ?_ ?_
  ·intro f a7 hJ;obtain ⟨aw,a8,hm,ab,ae,a2,bi,bj,a3,a4,a1,a5⟩:=hJ;rw [Ze0.eq_1] at hm;refine .lD 1 a2<|.lD 13 bi<|.lD 3 bj<|.lD 6 a3<|.lD 7 a4<|.lD 8 a1<|.lD 1000000 a5 ?_;refine Zy _ rfl (fun hb=>?_) (fun hb=>?_)
   ·rw [if_pos hb] at hm;refine Zb<|Zd<|Zj rfl<|Zc<|Zq ?_;cases hm;exact ⟨rfl,rfl,ab.below⟩
   rw [if_neg (Zz hb)] at hm;refine Zb<|Zd<|Z9 ai 2 underlying27 rfl sizeOf23 isAgg23 ae rfl<|Zg rfl ?_;obtain ⟨bz,ax,hm⟩:=bZ hm;refine lV _ (Zx underlying23 sizeOf22 rfl rfl (Zi ax).1 (Zi ax).2.1 ((ak.ks ab).addr ax)) ?_;obtain ⟨_,bk,bl⟩:=(ak.ks ab).atN ax;obtain ⟨⟨b0,b1,rfl,b2⟩,_⟩:=bk;refine lV _ (Zn isAgg22 rfl bl.one)<|lV _ (Zs underlying22 rfl)<|lV _ (Y9 _ _ rfl rfl)<|Xc rfl<|Zc ?_;refine Zy _ rfl (fun hb=>?_) (fun hb=>?_)
   ·rw [if_pos hb] at hm;refine Zb<|Zd<|Zj rfl<|Zc<|Zq ?_;cases hm;exact ⟨rfl,rfl,ab.below⟩
   rw [if_neg (Zz hb)] at hm;refine Zr<|Zd<|lV _ (Z5 _ _ rfl rfl)<|Zg rfl<|Zc ?_;exact ⟨a6.length,by simp,⟨aw,(ad+1),a6,rfl,bg,hm,ab,ae,(congrArg (Value.int .i64) (Wy (Nat.lt_of_lt_of_le bh (aj.ks ab).1.1))),rfl,rfl,rfl,rfl⟩⟩
  refine Zd<|Z9 ai 1 underlying27 rfl sizeOf22 isAgg22 ae rfl<|Zg rfl ?_;obtain ⟨a9,hm⟩:=Xd hm;refine lv (v:=.slice ag (Int.toNat (ad:Int)) ah) rfl rfl (Vk underlying22 sizeOf9 rfl rfl a9.1 (by have:=(aj.ks ab).1.2;have:=a9.2;omega))<|.ld (d:=17) (v:=(.slice ag ((aa.2.1.take (Int.toNat (ad:Int))).length) ah)) (congrArg (fun n=>Value.slice ag n ah) (List.length_take_of_le (show (Int.toNat (ad:Int))≤aa.2.1.length by have:=a9.2;omega)).symm) ?_;refine Td rfl ?_;obtain ⟨bb,bm,hm⟩:=bZ hm;refine lc rfl rfl (Xa call78 rfl rfl) (Znt af _ ag ah (aa.2.1.take (Int.toNat (ad:Int))) bf ((aj.ks ab).take (Int.toNat (ad:Int))) bb bm) ?_;rintro _ bc ⟨rfl,ay⟩;refine ⟨_,rfl,?_⟩;replace ay:Zf af au af bc:=.of_below ay;refine Xf rfl ?_;replace ae:=ae.gr ay;replace ab:=ab.grow ay;by_cases ac:bb=true
  ·rw [if_pos ac] at hm;refine lP 20 rfl (gq ac)<|lP 20 rfl (gq ac)<|lP 20 rfl (gq ac)<|lP 20 rfl (gq ac)<|lP 20 rfl (gq ac)<|lP 20 rfl (gq ac)<|lV (.bool true) (Xm (congrArg Value.bool ac) rfl)<|Xc rfl<|Zc ?_;exact ⟨af,true,hm,ab,ae,rfl,rfl,rfl,rfl,rfl,rfl,rfl⟩
  rw [if_neg ac] at hm;replace ac:=Bool.eq_false_iff.2 ac;refine lG 20 rfl (gq ac)<|lF ai 2 underlying27 rfl sizeOf23<|lG 20 rfl (gq ac)<|lV _ (Zn isAgg23 rfl ((ae.atN).nth (q:=2) rfl))<|lG 20 rfl (gq ac)<|Zg rfl<|lG 20 rfl (gq ac) ?_;obtain ⟨bn,az,hm⟩:=bZ hm;refine lV _ (Zx underlying23 sizeOf22 rfl rfl (Zi az).1 (Zi az).2.1 ((ak.ks ab).addr az)) ?_;refine lG 20 rfl (gq ac) ?_;obtain ⟨_,bo,bp⟩:=(ak.ks ab).atN az;obtain ⟨⟨bq,br,rfl,bs⟩,_⟩:=bo;refine lV _ (Zn isAgg22 rfl bp.one)<|lG 20 rfl (gq ac) ?_;obtain ⟨ba,bt,hm⟩:=bZ hm;refine lc rfl rfl (Z7 call252 rfl) (Zus af _ bq br bn bs ba bt) ?_;rintro _ bu ⟨rfl,a0⟩;refine ⟨_,rfl,?_⟩;replace a0:Zf af bc af bu:=.of_below a0;refine lV (.bool ba) (Xr (congrArg Value.bool ac) rfl)<|Xc rfl<|Zc ?_;replace ae:=ae.gr a0;replace ab:=ab.grow a0;exact ⟨af,ba,hm,ab,ae,rfl,rfl,rfl,rfl,rfl,rfl,rfl⟩
def Zex (aa:Bool) (ab:List Int) (ac:List Int):Option ((Bool×List Int)×List Int):=
  some ((aa,ab),ac)
def Zew (N:Nat) (aa:((Bool×List Int)×List Int)):Option ((Bool×List Int)×List Int):=
  (Zch N aa.2).bind fun ab=>if (decide ((ab.length:Int)=0))=true then ((Q0 N 1).bind fun ac=>Zex aa.1.1 aa.1.2 ac) else (Zex aa.1.1 aa.1.2 aa.2)
theorem Zuo (N:Nat) (col:Zh) (w0:World) (af:Option Addr) (ag:Nat) (ai:Option Addr) (aj:Nat) (ab:((Bool×List Int)×List Int)) (av:Sl (Za.int .u32) col w0 af ag ab.1.2) (aw:Sl (Za.int .u32) col w0 ai aj ab.2) (r:((Bool×List Int)×List Int)) (hm:Zew N ab=some r):
    Calls Tryz.prog 183 #[(.agg #[.bool ab.1.1,.slice af ab.1.2.length ag,.slice ai ab.2.length aj])] w0 (fun e w'=>∃ (col':Zh) (ra1:Option Addr) (rc2:Nat) (ra4:Option Addr) (rc5:Nat),e= .returned ((.agg #[.bool r.1.1,.slice ra1 r.1.2.length rc2,.slice ra4 r.2.length rc5]))∧Zf col w0 col' w'∧Sl (Za.int .u32) col' w' ra1 rc2 r.1.2∧Sl (Za.int .u32) col' w' ra4 rc5 r.2):=by
 refine Wq (m:=11) (args:=[(.agg #[.bool ab.1.1,.slice af ab.1.2.length ag,.slice ai ab.2.length aj])]) func183 rfl rfl rfl ?_;rw [Zew.eq_1] at hm;have aa:=St.start col w0;refine Zb<|Zd<|X3 (col:=(Zo col)) 1 rfl ?_;intro ak bo bb bc ac;refine Yt (col:=bb) #[.bool false,.slice none (([]:List Int).length) 0,.slice none (([]:List Int).length) 0] 2 zeroValue47 ?_;intro a7 bp bd a8 ad;refine Zc<|Zb ?_;replace av:=av.keep (Zp.start col w0);replace aw:=aw.keep (Zp.start col w0);replace aa:=(aa.grow bc).grow a8;replace ac:=ac.gr a8;refine Wp.cut (fun f ah=>∃ (ae:Zh) (ax:Bool) (al:Option Addr) (am:Nat) (an:List Int) (ao:Option Addr) (ap:Nat) (aq:List Int),Zex ax an aq=some r∧St w0 (Zo col) ae ah∧Sl (Za.int .u32) ae ah al am an∧Sl (Za.int .u32) ae ah ao ap aq∧Zt 47 1 ae ah ak #[.bool ax,.slice al an.length am,.slice ao aq.length ap]∧Zt 47 2 ae ah a7 #[.bool false,.slice none (([]:List Int).length) 0,.slice none (([]:List Int).length) 0]∧f 1=(.pointer (some ⟨ak,0,none⟩))∧f 2=(.pointer (some ⟨a7,0,none⟩))∧f 1000000=(enc [])) ?_ ?_
 ·intro f ah hJ;obtain ⟨ae,ax,al,am,an,ao,ap,aq,hm,aa,az,a0,ac,ad,be,bf,bg⟩:=hJ;rw [Zex.eq_1] at hm;refine .lD 1 be<|.lD 2 bf<|.lD 1000000 bg<|Zb<|Zd<|lV _ (Ye isAgg47 sizeOf47 ac)<|Ya #[.bool ax,.slice al an.length am,.slice ao aq.length ap] ad sizeOf47 ?_;intro bq a1 bh bi;refine Zc<|Zq ?_;cases hm;replace az:=az.kp a1;replace a0:=a0.kp a1;replace aa:=aa.kp a1 bh;exact ⟨rfl,_,Wi rfl rfl isAgg47 sizeOf47 rfl rfl bi.atN,Xh w0.heap.size col ae (fun n=>0),al,am,ao,ap,rfl,aa.fin (fun n=>0),aa.finSl (g:=(fun n=>0)) rfl az,aa.finSl (g:=(fun n=>0)) rfl a0⟩
 refine Zb<|Zd<|Z9 ak 2 underlying47 rfl sizeOf43 isAgg43 ac rfl ?_;obtain ⟨bj,bk,hm⟩:=bZ hm;refine lc rfl rfl (Z7 call255 rfl) (Zlb N 3 bd _ ai aj ab.2 (aw.ks aa) bj bk) ?_;rintro _ br ⟨a9,bs,bt,rfl,a2,bu⟩;refine ⟨_,rfl,?_⟩;refine lV _ (Zs underlying43 rfl)<|lV _ (Y9 _ _ rfl rfl)<|Zc ?_;replace ac:=ac.gr a2;replace ad:=ad.gr a2;replace aa:=aa.grow a2;refine Zy _ rfl (fun hb=>?_) (fun hb=>?_)
 ·rw [if_pos hb] at hm;refine Zd ?_;obtain ⟨ay,bl,hm⟩:=bZ hm;refine lc rfl rfl (Z7 call181 rfl) (Zgy N 4 a9 _ 1 ay bl) ?_;rintro _ bv ⟨ba,a3,a4,rfl,a5,ar⟩;refine ⟨_,rfl,?_⟩;refine lF ak 2 underlying47 rfl sizeOf43 ?_;replace ac:=ac.gr a5;refine V1 (off:=2) (v:=(.slice a3 ay.length a4)) ac sizeOf43 rfl rfl (by intro u hu;simp only [Value.cells,List.mem_cons,List.not_mem_nil,or_false] at hu;subst hu;rfl) rfl rfl ?_;intro bm a6 bn au;replace au:Zt 47 1 ba bm ak #[.bool ab.1.1,.slice af ab.1.2.length ag,.slice a3 ay.length a4]:=au;refine Zc ?_;replace ar:=ar.kp a6;replace ar:=(ar).toSlF (Z2.int .u32);replace au:=au.froz 4 (by decide);replace ad:=(ad.gr a5).kp a6;replace ad:=ad.froz 4 (by decide);replace aa:=(aa.grow a5).kp a6 bn;replace aa:=aa.froz 4 (by decide) (by decide);exact ⟨(Z3 4 ba),ab.1.1,af,ag,ab.1.2,a3,a4,ay,hm,aa,(av.ks aa),ar,au,ad,rfl,rfl,rfl⟩
 rw [if_neg (Zz hb)] at hm;refine Zr ?_;exact ⟨a9,ab.1.1,af,ag,ab.1.2,ai,aj,ab.2,hm,aa,(av.ks aa),(aw.ks aa),ac,ad,rfl,rfl,rfl⟩
theorem Zlq:Y2 Tryz.prog 47 3 56:=⟨Tryz.t47,_,rfl,rfl,rfl,rfl,rfl⟩
def Za2 (N:Nat):List ((Bool×List Int)×List Int)→(List ((Bool×List Int)×List Int))→Option (List ((Bool×List Int)×List Int))
  | [],ab=>some ab
  | ac :: ad,ab=>(Zew N ((ac.1.1,ac.1.2),ac.2)).bind fun aa=>Xb ((ab.length+[((aa.1.1,aa.1.2),aa.2)].length) * 56≤140737488355328∧ab.length+[((aa.1.1,aa.1.2),aa.2)].length≤maxLen) ((Za2 N ad) (ab++[((aa.1.1,aa.1.2),aa.2)]))
termination_by structural x=>x
def Zey (N:Nat) (aa:(List ((Bool×List Int)×List Int))):Option (List ((Bool×List Int)×List Int)):=
  Xb (aa.length * 56≤281474976710656∧aa.length≤maxLen) (Za2 N aa ([]:List ((Bool×List Int)×List Int)))
theorem Zm8 (N:Nat) (c1:Nat) (col:Zh) (w0:World) (a0:Option Addr) (ao:Nat) (ab:(List ((Bool×List Int)×List Int))) (h0:Sl (Za.pair (Za.pair Za.bool (Za.slice (Za.int .u32))) (Za.slice (Za.int .u32))) col w0 a0 ao ab) (r:(List ((Bool×List Int)×List Int))) (hm:Zey N ab=some r):
    Calls Tryz.prog 178 #[.slice a0 ab.length ao] w0 (fun e w'=>∃ (col':Zh) (ra1:Option Addr) (rc2:Nat),e= .returned ((.slice ra1 r.length rc2))∧Zf col w0 col' w'∧Zl (Za.pair (Za.pair Za.bool (Za.slice (Za.int .u32))) (Za.slice (Za.int .u32))) 47 c1 col' w' ra1 rc2 r):=by
 refine Xv 2 (m:=22) func178 rfl rfl rfl rfl rfl ?_;rw [Zey.eq_1] at hm;have ac:=St.start col w0;refine Zb<|Zd<|Zu rfl<|Zc<|Zb<|Zd<|Zk rfl<|lV _ (Zs underlying56 rfl) ?_;obtain ⟨ay,hm⟩:=Xd hm;refine Zxb (col:=(Zo col)) (w:=w0) (r:=(Za.pair (Za.pair Za.bool (Za.slice (Za.int .u32))) (Za.slice (Za.int .u32)))) (n:=ab.length) 1 rfl underlying56 Zlq rfl rfl rfl ay.1 ay.2 ?_;intro a8 b6 a9 ba bb;refine Zu rfl<|Zc<|Zb<|Zb<|Zd<|Zk rfl<|lV _ (Zs underlying56 rfl)<|Zg rfl<|Zc<|Z0 ?_;replace ac:=ac.grow ba;refine Xi (fun n f ap=>∃ (ag:Zh) (ae:Nat) (ai:Option Addr) (aj:Nat) (af:List ((Bool×List Int)×List Int)) (ah:List ((Bool×List Int)×List Int)),n=ah.length∧ab.drop ae=ah∧Za2 N ah af=some r∧St w0 (Zo col) ag ap∧Zl (Za.pair (Za.pair Za.bool (Za.slice (Za.int .u32))) (Za.slice (Za.int .u32))) 47 1 ag ap ai aj af∧f 11=(.int .i64 ae)∧f 10=(.int .i64 ab.length)∧f 3=(.slice ai af.length aj)∧f 9=(.slice a0 ab.length ao)∧f 1000000=(enc [])) ab.length ⟨a9,0,a8,ab.length,([]:List ((Bool×List Int)×List Int)),ab,rfl,rfl,hm,ac,bb,rfl,rfl,rfl,rfl,rfl⟩ ?_;clear hm;intro n f ap hI;obtain ⟨ag,ae,ai,aj,af,ah,hn,hl,hm,ac,ak,bc,bd,be,bf,bg⟩:=hI;subst hn;refine .lD 11 bc<|.lD 10 bd<|.lD 3 be<|.lD 9 bf<|.lD 1000000 bg ?_;replace h0:=h0.keep (Zp.start col w0)
 cases ah with
 | nil=>
  have hk:¬ ((ae:Int)<(ab.length:Int)):=by have:=List.drop_eq_nil_iff.1 hl;omega
  have hkb:=decide_eq_false hk;rw [Za2.eq_1] at hm;refine Zb<|Zd<|lV _ (Z4 _ _ rfl rfl)<|Zc<|Zb<|Wn (congrArg Value.bool hkb) ?_;refine Xl (Xk ?_);refine Zb<|Zd<|Zk rfl<|Zu rfl<|Zc<|Zq ?_;cases hm;exact ⟨rfl,Xh w0.heap.size col ag (fun n=>bif Nat.beq n 1 then c1 else 0),ai,aj,rfl,ac.fin (fun n=>bif Nat.beq n 1 then c1 else 0),ac.finOwn (g:=(fun n=>bif Nat.beq n 1 then c1 else 0)) rfl ak (by decide) (by decide) rfl⟩
 | cons ad az=>
  obtain ⟨al,bh,bi⟩:=Wv hl;have hk:(ae:Int)<(ab.length:Int):=by omega
  have hkb:=decide_eq_true hk;rw [Za2.eq_2] at hm;refine Zb<|Zd<|lV _ (Z4 _ _ rfl rfl)<|Zc<|Zb<|Wo (congrArg Value.bool hkb)<|Zr<|Zb<|Z0<|Zb<|Zd ?_;refine lV _ (Zx underlying56 sizeOf47 rfl rfl (Zi al).1 (Zi al).2.1 ((h0.ks ac).addr al)) ?_;obtain ⟨_,bj,bk⟩:=(h0.ks ac).atN al;obtain ⟨_,_,rfl,bl,bm⟩:=Wu bj;obtain ⟨_,_,rfl,bn,bo⟩:=Wu bl;obtain ⟨rfl,_⟩:=bn;obtain ⟨⟨aq,ar,rfl,au⟩,_⟩:=bo;obtain ⟨⟨av,aw,rfl,ax⟩,_⟩:=bm;refine lV (.agg #[.bool ad.1.1,.slice aq ad.1.2.length ar,.slice av ad.2.length aw]) (Wt isAgg47 sizeOf47 rfl rfl bk)<|Yt (col:=ag) #[.bool false,.slice none (([]:List Int).length) 0,.slice none (([]:List Int).length) 0] 2 zeroValue47 ?_;intro b7 b8 bp am bq;refine Ya #[.bool ad.1.1,.slice aq ad.1.2.length ar,.slice av ad.2.length aw] bq sizeOf47 ?_;intro b9 an br bs;refine Zc<|Zd<|Zk rfl<|lV _ (Ye isAgg47 sizeOf47 bs) ?_;obtain ⟨aa,bt,hm⟩:=bZ hm;replace au:=(au.gr am).kp an;replace ax:=(ax.gr am).kp an;refine lc rfl rfl (Z7 call183 rfl) (Zuo N bp _ aq ar av aw ((ad.1.1,ad.1.2),ad.2) au ax aa bt) ?_;rintro _ ca ⟨bu,a1,a2,a3,a4,rfl,a5,bv,bw⟩;refine ⟨_,rfl,?_⟩;refine Wk (col:=bu) (r:=(Za.pair (Za.pair Za.bool (Za.slice (Za.int .u32))) (Za.slice (Za.int .u32)))) (xs:=[((aa.1.1,aa.1.2),aa.2)]) [(.agg #[.bool aa.1.1,.slice a1 aa.1.2.length a2,.slice a3 aa.2.length a4])] 3 rfl underlying56 Zlq rfl rfl rfl rfl rfl rfl (by intro v hv;simp only [List.mem_cons,List.not_mem_nil,or_false] at hv;subst hv;rfl) (Y6.ofF (Rows.consF (r:=(Za.pair (Za.pair Za.bool (Za.slice (Za.int .u32))) (Za.slice (Za.int .u32)))) (x:=((aa.1.1,aa.1.2),aa.2)) (cs:=[.bool aa.1.1,.slice a1 aa.1.2.length a2,.slice a3 aa.2.length a4]) (T9 (T9 (Zkk aa.1.1) (Zr8 bv)) (Zr8 bw)) Rows.nil0)) ?_;intro cb bx bz a6 b0;obtain ⟨a7,hm⟩:=Xd hm;replace ak:=(((ak.gr am).kp an).gr a5).gr a6;refine Wr (col:=bz) (w:=bx) (r:=(Za.pair (Za.pair Za.bool (Za.slice (Za.int .u32))) (Za.slice (Za.int .u32)))) (c:=1) (c2:=1) (xs:=af) (ys:=[((aa.1.1,aa.1.2),aa.2)]) ak (b0.srcN (NB.pair (NB.pair NB.bool NB.slice) NB.slice)) rfl underlying56 Zlq rfl rfl rfl a7.1 a7.2 (by decide) ?_;intro b1 b2 cc b3 b4 b5;refine Zu rfl<|Zc<|Zd<|lV _ (Z5 _ _ rfl rfl)<|Zg rfl<|Zc ?_
  replace ac:=((((ac.grow am).kp an br).grow a5).grow a6).kpp b4;exact ⟨az.length,by simp,⟨b3,(ae+1),b1,b2,(af++[((aa.1.1,aa.1.2),aa.2)]),az,rfl,bh,hm,ac,b5,(congrArg (Value.int .i64) (Wy (Nat.lt_of_lt_of_le bi (h0.ks ac).1.1))),rfl,rfl,rfl,rfl⟩⟩
def Zbl (N:Nat) (ab:List ((Bool×List Int)×List Int)) (ac:Int):Nat→Int→Option (List (List ((Bool×List Int)×List Int)))
  | 0,_=>none
  | ad+1,aa=>if (decide (aa<(ab.length:Int)))=true then (Xb ((0:Int)≤aa∧aa≤(ab.length:Int)) (Xb ((0:Int)≤aa∧aa≤(i64.wrap (aa+(if ((ab.drop (Int.toNat aa)).length:Int)<ac then ((ab.drop (Int.toNat aa)).length:Int) else ac)))∧(i64.wrap (aa+(if ((ab.drop (Int.toNat aa)).length:Int)<ac then ((ab.drop (Int.toNat aa)).length:Int) else ac)))≤(i64.wrap (aa+(if ((ab.drop (Int.toNat aa)).length:Int)<ac then ((ab.drop (Int.toNat aa)).length:Int) else ac)))∧(i64.wrap (aa+(if ((ab.drop (Int.toNat aa)).length:Int)<ac then ((ab.drop (Int.toNat aa)).length:Int) else ac)))≤(ab.length:Int)) (((Zbl N ab ac ad) (i64.wrap (aa+ac))).bind fun ae=>some ((ab.take (Int.toNat (i64.wrap (aa+(if ((ab.drop (Int.toNat aa)).length:Int)<ac then ((ab.drop (Int.toNat aa)).length:Int) else ac))))).drop (Int.toNat aa) :: ae)))) else (some [])
termination_by structural x=>x
def Zj1 (N:Nat) (aa:List ((Bool×List Int)×List Int)) (ab:Int):Option (List (List ((Bool×List Int)×List Int))):=
  Zbl N aa ab N 0
theorem Zvv (N:Nat) (col:Zh) (w0:World) (g0:Nat) (af0:Option Addr) (capf0:Nat) (ab:List ((Bool×List Int)×List Int)) (hf0:Sl (Za.pair (Za.pair Za.bool (Za.slice (Za.int .u32))) (Za.slice (Za.int .u32))) col w0 af0 capf0 ab) (hb0:Zt 56 450 col w0 g0 #[.slice af0 ab.length capf0]) (g1:Nat) (ac:Int) (hb1:Zt 3 450 col w0 g1 #[.int .i64 ac]) (r:List (List ((Bool×List Int)×List Int))) (hm:Zj1 N ab ac=some r):
    Zmu Tryz.prog 1 285 [.pointer (some ⟨g0,0,none⟩),.pointer (some ⟨g1,0,none⟩)] (fun (y:List ((Bool×List Int)×List Int)) (col:Zh) (w:World) (args:List Value)=>∃ (a0:Option Addr) (ak:Nat),args=[.slice a0 y.length ak]∧Sl (Za.pair (Za.pair Za.bool (Za.slice (Za.int .u32))) (Za.slice (Za.int .u32))) col w a0 ak y) r col w0:=by
 intro l J X hjs hxs hy ad;refine Zli (m:=31) (args:=[.func (.yield l) #[] #[],.pointer (some ⟨g0,0,none⟩),.pointer (some ⟨g1,0,none⟩)]) func285 rfl rfl rfl rfl ?_;rw [Zj1.eq_1] at hm;refine Zb<|Zd<|Zj rfl<|Zc<|Z0<|Xi (fun n f ag=>∃ (ae:Zh) (r:List (List ((Bool×List Int)×List Int))) (aa:Int) (af:Nat),af=n∧Zbl N ab ac af aa=some r∧J r ae ag∧Sl (Za.pair (Za.pair Za.bool (Za.slice (Za.int .u32))) (Za.slice (Za.int .u32))) ae ag af0 capf0 ab∧Zt 56 450 ae ag g0 #[.slice af0 ab.length capf0]∧Zt 3 450 ae ag g1 #[.int .i64 ac]∧f 0=(.func (.yield l) #[] #[])∧f 1=(.pointer (some ⟨g0,0,none⟩))∧f 2=(.pointer (some ⟨g1,0,none⟩))∧f 4=(.int .i64 aa)∧f 1000000=(enc [])) N ⟨col,r,0,N,rfl,hm,ad,hf0,hb0,hb1,rfl,rfl,rfl,rfl,rfl⟩ ?_;clear hm;intro n f ag hI;obtain ⟨ae,r,aa,af,hn,hm,ad,hf0,hb0,hb1,an,ao,ap,aq,ar⟩:=hI;subst hn;refine .lD 0 an<|.lD 1 ao<|.lD 2 ap<|.lD 4 aq<|.lD 1000000 ar ?_
 cases af with
 | zero=>rw [Zbl.eq_1] at hm;cases hm
 | succ af=>
  rw [Zbl.eq_2] at hm;refine Zb<|Zb<|Zd<|Zg rfl<|lV _ (Zn isAgg56 rfl hb0.at1)<|lV _ (Zs underlying56 rfl)<|lV _ (Z4 _ _ rfl rfl)<|Zc ?_;refine Zy _ rfl (fun hb=>?_) (fun hb=>?_)
  ·rw [if_pos hb] at hm;refine Zr<|Zb<|Z0<|Zb<|W5 (col:=ae) (by kernel_rfl) (by kernel_rfl)<|qv rfl (fun _ hC=>Zn isAgg3 rfl (hb1.at1.gr (hC.bl ae))) ?_;refine qv rfl (fun _ hC=>Zn isAgg56 rfl (hb0.at1.gr (hC.bl ae))) ?_;refine qv rfl (fun _ hC=>Xp rfl) ?_;obtain ⟨al,hm⟩:=Xd hm;have az:=hf0.drop (sz:=3) rfl (Int.toNat aa);refine qv (v:=.slice (if capf0=(Int.toNat aa) then af0 else af0.map (·.add ((Int.toNat aa) * 3))) (ab.length - (Int.toNat aa)) (capf0 - (Int.toNat aa))) rfl (fun _ hC=>Zy0 underlying56 sizeOf47 rfl rfl al.1 al.2) ?_;generalize (if capf0=(Int.toNat aa) then af0 else af0.map (·.add ((Int.toNat aa) * 3)))=am at *;refine .ld (d:=16) (v:=(.slice am ((ab.drop (Int.toNat aa)).length) (capf0 - (Int.toNat aa)))) (congrArg (fun n=>Value.slice am n (capf0 - (Int.toNat aa))) (List.length_drop (i:=(Int.toNat aa)) (l:=ab)).symm) ?_;refine qv rfl (fun _ hC=>Zs underlying56 rfl) ?_;refine qv (v:=(.int .i64 (if ((ab.drop (Int.toNat aa)).length:Int)<ac then ((ab.drop (Int.toNat aa)).length:Int) else ac))) rfl (fun _ hC=>Zry ac ((ab.drop (Int.toNat aa)).length:Int) rfl rfl) ?_;refine qv rfl (fun _ hC=>Zah rfl) ?_;refine Y1 ?_;intro au hC;replace hC:Zf ae ag ae au:=.of_below hC.below;replace hf0:=hf0.gr hC;replace hb0:=hb0.gr hC;replace hb1:=hb1.gr hC;replace ad:=hjs _ _ _ _ _ ad hC.toP;refine Zb<|Zd<|lM (.func (.yield l) #[] #[])<|lV _ (Zn isAgg56 rfl hb0.at1)<|Zg rfl<|Zg rfl<|Zg rfl<|lV _ (Z5 _ _ rfl rfl)<|Zg rfl<|Zg rfl<|lV _ (Z5 _ _ rfl rfl) ?_;obtain ⟨ah,hm⟩:=Xd hm;have av:=((hf0.take (Int.toNat (i64.wrap (aa+(if ((ab.drop (Int.toNat aa)).length:Int)<ac then ((ab.drop (Int.toNat aa)).length:Int) else ac))))).recap (show (ab.take (Int.toNat (i64.wrap (aa+(if ((ab.drop (Int.toNat aa)).length:Int)<ac then ((ab.drop (Int.toNat aa)).length:Int) else ac))))).length≤(Int.toNat (i64.wrap (aa+(if ((ab.drop (Int.toNat aa)).length:Int)<ac then ((ab.drop (Int.toNat aa)).length:Int) else ac)))) by rw [List.length_take (i:=(Int.toNat (i64.wrap (aa+(if ((ab.drop (Int.toNat aa)).length:Int)<ac then ((ab.drop (Int.toNat aa)).length:Int) else ac))))) (l:=ab)];have:=ah.2;omega)).drop (sz:=3) rfl (Int.toNat aa)
   refine lv (v:=.slice (if (Int.toNat (i64.wrap (aa+(if ((ab.drop (Int.toNat aa)).length:Int)<ac then ((ab.drop (Int.toNat aa)).length:Int) else ac))))=(Int.toNat aa) then af0 else af0.map (·.add ((Int.toNat aa) * 3))) ((Int.toNat (i64.wrap (aa+(if ((ab.drop (Int.toNat aa)).length:Int)<ac then ((ab.drop (Int.toNat aa)).length:Int) else ac)))) - (Int.toNat aa)) ((Int.toNat (i64.wrap (aa+(if ((ab.drop (Int.toNat aa)).length:Int)<ac then ((ab.drop (Int.toNat aa)).length:Int) else ac)))) - (Int.toNat aa))) rfl rfl (Zy1 underlying56 sizeOf47 rfl rfl rfl rfl ah.1 ah.2.1 ah.2.2.1 (by have:=hf0.1.2;have:=ah.2.2.2;omega)) ?_;generalize (if (Int.toNat (i64.wrap (aa+(if ((ab.drop (Int.toNat aa)).length:Int)<ac then ((ab.drop (Int.toNat aa)).length:Int) else ac))))=(Int.toNat aa) then af0 else af0.map (·.add ((Int.toNat aa) * 3)))=ai at *;refine .ld (d:=28) (v:=(.slice ai (((ab.take (Int.toNat (i64.wrap (aa+(if ((ab.drop (Int.toNat aa)).length:Int)<ac then ((ab.drop (Int.toNat aa)).length:Int) else ac))))).drop (Int.toNat aa)).length) ((Int.toNat (i64.wrap (aa+(if ((ab.drop (Int.toNat aa)).length:Int)<ac then ((ab.drop (Int.toNat aa)).length:Int) else ac)))) - (Int.toNat aa)))) (congrArg (fun n=>Value.slice ai n ((Int.toNat (i64.wrap (aa+(if ((ab.drop (Int.toNat aa)).length:Int)<ac then ((ab.drop (Int.toNat aa)).length:Int) else ac)))) - (Int.toNat aa))) (show (Int.toNat (i64.wrap (aa+(if ((ab.drop (Int.toNat aa)).length:Int)<ac then ((ab.drop (Int.toNat aa)).length:Int) else ac)))) - (Int.toNat aa)=((ab.take (Int.toNat (i64.wrap (aa+(if ((ab.drop (Int.toNat aa)).length:Int)<ac then ((ab.drop (Int.toNat aa)).length:Int) else ac))))).drop (Int.toNat aa)).length by rw [List.length_drop (i:=(Int.toNat aa)) (l:=ab.take (Int.toNat (i64.wrap (aa+(if ((ab.drop (Int.toNat aa)).length:Int)<ac then ((ab.drop (Int.toNat aa)).length:Int) else ac))))),List.length_take (i:=(Int.toNat (i64.wrap (aa+(if ((ab.drop (Int.toNat aa)).length:Int)<ac then ((ab.drop (Int.toNat aa)).length:Int) else ac))))) (l:=ab)];have:=ah.2;omega)) ?_;obtain ⟨aw,hc_14m,ax⟩:=bZ hm;cases ax;have hm:=hc_14m
   refine ly1 rfl rfl rfl (hy _ _ _ _ [(.slice ai (((ab.take (Int.toNat (i64.wrap (aa+(if ((ab.drop (Int.toNat aa)).length:Int)<ac then ((ab.drop (Int.toNat aa)).length:Int) else ac))))).drop (Int.toNat aa)).length) ((Int.toNat (i64.wrap (aa+(if ((ab.drop (Int.toNat aa)).length:Int)<ac then ((ab.drop (Int.toNat aa)).length:Int) else ac)))) - (Int.toNat aa)))] ad ⟨ai,((Int.toNat (i64.wrap (aa+(if ((ab.drop (Int.toNat aa)).length:Int)<ac then ((ab.drop (Int.toNat aa)).length:Int) else ac)))) - (Int.toNat aa)),rfl,av⟩) ?_;rintro _ a1 ⟨ay,aj,⟨rfl,hJ⟩ | ⟨rfl,hX⟩⟩
   ·refine ⟨_,rfl,?_⟩;have ad:=hJ;refine lV _ (V3 _ rfl)<|Zc<|Wn rfl<|Zr<|Zd<|Zg rfl ?_;replace hb1:=hb1.kpp aj;refine lV _ (Zn isAgg3 rfl hb1.at1)<|lV _ (Z5 _ _ rfl rfl)<|Zj rfl<|Zc ?_;replace hf0:=hf0.kpp aj;replace hb0:=hb0.kpp aj;exact ⟨af,by omega,⟨ay,aw,(i64.wrap (aa+ac)),af,rfl,hm,ad,hf0,hb0,hb1,rfl,rfl,rfl,rfl,rfl⟩⟩
   refine ⟨_,rfl,?_⟩;have ad:=hX;refine lV _ (V3 _ rfl)<|Zc<|Wo rfl<|Zq ?_;exact ⟨rfl,⟨_,rfl⟩,_,.inr ad⟩
  rw [if_neg (Zz hb)] at hm;refine Xl (Xk ?_);cases hm;exact ⟨rfl,⟨_,rfl⟩,_,.inl ad⟩
def Zj2 (N:Nat) (aa:(List ((Bool×List Int)×List Int))) (ab:Int):Option (List (List ((Bool×List Int)×List Int))):=
  Zj1 N aa ab
def Zj0 (N:Nat) (ab:(List ((Bool×List Int)×List Int))) (aa:Int):Option (List (List ((Bool×List Int)×List Int))):=
  if (decide (aa<1))=true then none else (Zj2 N ab aa)
theorem Zvu (N:Nat) (col:Zh) (w0:World) (a0:Option Addr) (aa:Nat) (ac:(List ((Bool×List Int)×List Int))) (ad:Int) (h0:Sl (Za.pair (Za.pair Za.bool (Za.slice (Za.int .u32))) (Za.slice (Za.int .u32))) col w0 a0 aa ac) (r:(List (List ((Bool×List Int)×List Int)))) (hm:Zj0 N ac ad=some r):
    Calls Tryz.prog 254 #[.slice a0 ac.length aa,.int .i64 ad] w0 (fun e w'=>∃ (col':Zh) (rv1:Value),e= .returned (rv1)∧Zf col w0 col' w'∧It Tryz.prog 1 rv1 (fun (y:List ((Bool×List Int)×List Int)) (col:Zh) (w:World) (args:List Value)=>∃ (a0:Option Addr) (aa:Nat),args=[.slice a0 y.length aa]∧Sl (Za.pair (Za.pair Za.bool (Za.slice (Za.int .u32))) (Za.slice (Za.int .u32))) col w a0 aa y) r q0 col' w'):=by
 refine Xv 4 (m:=9) func254 rfl rfl rfl rfl rfl ?_;rw [Zj0.eq_1] at hm;have ab:=St.start col w0;refine Zb<|Zd<|Zlx (col:=(Zo col)) (v:=(.slice a0 ac.length aa)) 1 rfl rfl ?_;intro ae aq an ar af;replace af:Zt 56 1 an aq ae #[.slice a0 ac.length aa]:=af;refine Zlx (col:=an) (v:=(.int .i64 ad)) 2 rfl rfl ?_;intro ag au ao ap ah;replace ah:Zt 3 2 ao au ag #[.int .i64 ad]:=ah;refine lv (v:=_) rfl rfl (Zai rfl)<|Zc<|Zb ?_;replace h0:=h0.keep (Zp.start col w0);replace ab:=(ab.grow ar).grow ap;replace af:=af.gr ap;refine Wp.cut (fun f aj=>∃ (ai:Zh),Zj2 N ac ad=some r∧St w0 (Zo col) ai aj∧Zt 56 1 ai aj ae #[.slice a0 ac.length aa]∧Zt 3 2 ai aj ag #[.int .i64 ad]∧f 2=(.pointer (some ⟨ae,0,none⟩))∧f 3=(.pointer (some ⟨ag,0,none⟩))∧f 1000000=(enc [])) ?_ ?_
 ·intro f aj hJ;obtain ⟨ai,hm,ab,af,ah,av,aw,ax⟩:=hJ;rw [Zj2.eq_1] at hm;refine .lD 2 av<|.lD 3 aw<|.lD 1000000 ax<|Zb<|Zd<|lV (.func (.func 285) #[] #[.pointer (some ⟨ae,0,none⟩),.pointer (some ⟨ag,0,none⟩)]) (Zyr rfl rfl)<|lA (.func (.func 285) #[] #[.pointer (some ⟨ae,0,none⟩),.pointer (some ⟨ag,0,none⟩)])<|Zc<|Zq ?_;have ak:=ab.finBox (G:=(fun n=>bif Nat.beq n 1 then 450 else bif Nat.beq n 2 then 450 else 0)) af (by decide) (by decide) (show (fun n=>bif Nat.beq n 1 then 450 else bif Nat.beq n 2 then 450 else 0) 1=450 from rfl);have h0f:=ab.finSl (g:=(fun n=>bif Nat.beq n 1 then 450 else bif Nat.beq n 2 then 450 else 0)) rfl (h0.ks ab);have al:=ab.finBox (G:=(fun n=>bif Nat.beq n 1 then 450 else bif Nat.beq n 2 then 450 else 0)) ah (by decide) (by decide) (show (fun n=>bif Nat.beq n 1 then 450 else bif Nat.beq n 2 then 450 else 0) 2=450 from rfl);refine ⟨rfl,Xh w0.heap.size col ai (fun n=>bif Nat.beq n 1 then 450 else bif Nat.beq n 2 then 450 else 0),_,rfl,ab.fin (fun n=>bif Nat.beq n 1 then 450 else bif Nat.beq n 2 then 450 else 0),285,[.pointer (some ⟨ae,0,none⟩),.pointer (some ⟨ag,0,none⟩)],rfl,call285,?_⟩;intro col9 w9 am hk9;replace ak:=ak.itk am hk9 rfl;replace h0f:=h0f.itk am hk9 rfl;replace al:=al.itk am hk9 rfl;exact Zvv N col9 w9 ae a0 aa ac h0f ak ag ad al r hm
 refine Zb<|Zd<|lV _ (Zn isAgg3 rfl ah.at1)<|lV _ (Z4 _ _ rfl rfl)<|Zc ?_;refine Zy _ rfl (fun hb=>?_) (fun hb=>?_)
 ·rw [if_pos hb] at hm;cases hm
 rw [if_neg (Zz hb)] at hm;refine Zr ?_;exact ⟨ao,hm,ab,af,ah,rfl,rfl,rfl⟩
def Ze1 (N:Nat):Option ((Bool×List Int)×List Int):=
  (Zg9 N 1 1).bind fun aa=>some ((aa.1.1.1,aa.1.1.2),aa.1.2)
theorem Zm9 (N:Nat) (c1:Nat) (c2:Nat) (col:Zh) (w0:World) (r:((Bool×List Int)×List Int)) (hm:Ze1 N=some r):
    Calls Tryz.prog 182 #[] w0 (fun e w'=>∃ (col':Zh) (ra1:Option Addr) (rc2:Nat) (ra4:Option Addr) (rc5:Nat),e= .returned ((.agg #[.bool r.1.1,.slice ra1 r.1.2.length rc2,.slice ra4 r.2.length rc5]))∧Zf col w0 col' w'∧Zl (Za.int .u32) 79 c1 col' w' ra1 rc2 r.1.2∧Zl (Za.int .u32) 79 c2 col' w' ra4 rc5 r.2):=by
 refine Wq (m:=8) (args:=[]) func182 rfl rfl rfl ?_;rw [Ze1.eq_1] at hm;have ab:=St.start col w0;refine Zb<|Zd<|Yt (col:=(Zo col)) #[.bool false,.slice none (([]:List Int).length) 0,.slice none (([]:List Int).length) 0] 1 zeroValue47 ?_;intro az a0 an ao ai;refine Zc<|Zb<|Zd ?_;obtain ⟨aa,ap,hm⟩:=bZ hm;refine lc rfl rfl (Xa call190 rfl rfl) (Zug N 2 3 an _ 1 1 aa ap) ?_;rintro _ a1 ⟨aq,ac,ad,ae,af,rfl,am,aj,ak⟩;refine ⟨_,rfl,?_⟩;refine lM (.tuple #[(.agg #[.bool aa.1.1.1,.slice ac aa.1.1.2.length ad,.slice ae aa.1.2.length af]),.int .i64 aa.2])<|lV (.agg #[.bool aa.1.1.1,.slice ac aa.1.1.2.length ad,.slice ae aa.1.2.length af]) (Y4 rfl rfl)<|lV (.int .i64 aa.2) (Y4 rfl rfl)<|Yt (col:=aq) #[.bool false,.slice none (([]:List Int).length) 0,.slice none (([]:List Int).length) 0] 4 zeroValue47 ?_;intro a2 a3 ar ag au;refine Ya #[.bool aa.1.1.1,.slice ac aa.1.1.2.length ad,.slice ae aa.1.2.length af] au sizeOf47 ?_;intro a4 ah av aw;refine Zj rfl<|Zc<|Zb<|Zd<|lV _ (Ye isAgg47 sizeOf47 aw) ?_;replace ai:=((ai.gr am).gr ag).kp ah;refine Ya #[.bool aa.1.1.1,.slice ac aa.1.1.2.length ad,.slice ae aa.1.2.length af] ai sizeOf47 ?_;intro a5 al ax ay;refine Zc<|Zq ?_;cases hm;replace ab:=((((ab.grow ao).grow am).grow ag).kp ah av).kp al ax;replace aj:=((aj.gr ag).kp ah).kp al;replace ak:=((ak.gr ag).kp ah).kp al;exact ⟨rfl,_,Wi rfl rfl isAgg47 sizeOf47 rfl rfl ay.atN,Xh w0.heap.size col ar (fun n=>bif Nat.beq n 2 then c1 else bif Nat.beq n 3 then c2 else 0),ac,ad,ae,af,rfl,ab.fin (fun n=>bif Nat.beq n 2 then c1 else bif Nat.beq n 3 then c2 else 0),ab.finOwn (g:=(fun n=>bif Nat.beq n 2 then c1 else bif Nat.beq n 3 then c2 else 0)) rfl aj (by decide) (by decide) rfl,ab.finOwn (g:=(fun n=>bif Nat.beq n 2 then c1 else bif Nat.beq n 3 then c2 else 0)) rfl ak (by decide) (by decide) rfl⟩
def Zlz (aa:Bool):Option Bool:=
  some aa
def Zcb (N:Nat):List (List ((Bool×List Int)×List Int))→Bool→Option Bool
  | [],ac=>some true
  | ad :: ae,ac=>(Zha N ad).bind fun aa=>(Ze1 N).bind fun ab=>(Zen N ((aa.1.1,aa.1.2),aa.2) ((ab.1.1,ab.1.2),ab.2)).bind fun af=>if (!decide (af=0))=true then (Zlz false) else ((Zcb N ae) ac)
termination_by structural x=>x
def Zhd (N:Nat) (aa:(List ((Bool×List Int)×List Int))) (ab:Int):Option Bool:=
  (Zj0 N aa ab).bind fun ac=>Zcb N ac false
theorem Zut (N:Nat) (col:Zh) (w0:World) (a0:Option Addr) (af:Nat) (ai:(List ((Bool×List Int)×List Int))) (an:Int) (h0:Sl (Za.pair (Za.pair Za.bool (Za.slice (Za.int .u32))) (Za.slice (Za.int .u32))) col w0 a0 af ai) (r:Bool) (hm:Zhd N ai an=some r):
    Calls Tryz.prog 180 #[.slice a0 ai.length af,.int .i64 an] w0 (fun e w'=>e= .returned ((.bool r))∧Below w0.heap.size w0 w'):=by
 refine Zv4 (m:=15) (args:=[.slice a0 ai.length af,.int .i64 an]) func180 rfl rfl rfl ?_;rw [Zhd.eq_1] at hm;have aa:=St.start col w0;replace h0:=h0.keep (Zp.start col w0);have hmk:W6 499 (Zo col) w0 []:=.nil;refine Zb<|Zd<|Zlw (col:=(Zo col)) (v:=(.bool false)) 1 rfl zeroValue4 ?_;intro aj a8 az a1 ab;replace ab:Zt 4 1 az a8 aj #[.bool false]:=ab;refine Zc<|Zb<|Zb<|Zd<|Zk rfl<|Zg rfl ?_;obtain ⟨a2,a9,hm⟩:=bZ hm;replace aa:=aa.grow a1;refine lc rfl rfl (Xa call254 rfl rfl) (Zvu N az _ a0 af ai an (h0.ks aa) a2 a9) ?_;rintro _ b4 ⟨ba,b5,rfl,au,bb⟩;refine ⟨_,rfl,?_⟩;refine Zc<|Z0 ?_;replace hmk:=(hmk.gr a1).gr au;replace ab:=ab.gr au;replace aa:=aa.grow au;refine Zz9 (psl:=[9]) (arr:=(fun (y:List ((Bool×List Int)×List Int)) (col:Zh) (w:World) (args:List Value)=>∃ (a0:Option Addr) (af:Nat),args=[.slice a0 y.length af]∧Sl (Za.pair (Za.pair Za.bool (Za.slice (Za.int .u32))) (Za.slice (Za.int .u32))) col w a0 af y)) (ys:=a2) (col:=ba) 498 rfl bb rfl hmk rfl rfl (by rintro _ _ _ _ ⟨_,_,rfl,_⟩;rfl) (fun ys_ ac ae=>∃ (ad:Bool),Zcb N ys_ ad=some r∧St w0 (Zo col) ac ae∧Zt 4 1 ac ae aj #[.bool ad]) (fun c_ ac ae=>(c_= .ret∧∃ (ad:Bool),Zlz ad=some r∧St w0 (Zo col) ac ae∧Zt 4 1 ac ae aj #[.bool ad])) ?_ ?_ ⟨false,hm,aa,ab⟩ ?_ ?_ ?_
 ·intro ys_ ac ae col2_ w2_ hJ hk;obtain ⟨ad,hm,aa,ab⟩:=hJ;exact ⟨ad,hm,aa.kpp hk rfl rfl,ab.kpp hk rfl⟩
 ·intro c_ ac ae col2_ w2_ hX hk;obtain ⟨rfl,hX⟩:=hX;obtain ⟨ad,hm,aa,ab⟩:=hX;exact ⟨rfl,⟨ad,hm,aa.kpp hk rfl rfl,ab.kpp hk rfl⟩⟩
 ·intro b6 b7 b8 bc b9 ac ae args hJ hrec hmk harr;obtain ⟨ad,hm,aa,ab⟩:=hJ;rw [Zcb.eq_2] at hm;have hki:=Xu.refl (pC 1) ac ae;obtain ⟨bd,be,rfl,av⟩:=harr;refine Zd<|Zu rfl<|Zc ?_;refine ⟨_,hrec,?_⟩;intro ca cb ak a3 hrec2;have hrec:=hrec2;refine Z0<|Zb<|Zd<|Zk rfl ?_;obtain ⟨ao,bf,hm⟩:=bZ hm;replace av:=av.kp ak;refine lc rfl rfl (Z7 call69 rfl) (Zui N 2 3 ac _ bd be bc av ao bf) ?_;rintro _ cc ⟨bg,bh,bi,bj,bk,rfl,al,aw,ax⟩;refine ⟨_,rfl,?_⟩;obtain ⟨ap,bl,hm⟩:=bZ hm;refine lc rfl rfl (Zie call182) (Zm9 N 4 5 bg _ ap bl) ?_;rintro _ bm ⟨aq,bn,bo,bp,bq,rfl,ag,br,bs⟩;refine ⟨_,rfl,?_⟩;obtain ⟨bt,bu,hm⟩:=bZ hm;replace aw:=aw.gr ag;replace ax:=ax.gr ag;refine lc rfl rfl (Xa call71 rfl rfl) (Zm5 N (Z3 5 (Z3 4 (Z3 3 (Z3 2 aq)))) _ bh bi bj bk ((ao.1.1,ao.1.2),ao.2) bn bo bp bq ((ap.1.1,ap.1.2),ap.2) ((((aw.toSlF (Z2.int .u32)).froz 3).froz 4).froz 5) ((((ax.froz 2 (by decide)).toSlF (Z2.int .u32)).froz 4).froz 5) ((((br.froz 2 (by decide)).froz 3 (by decide)).toSlF (Z2.int .u32)).froz 5) ((((bs.froz 2 (by decide)).froz 3 (by decide)).froz 4 (by decide)).toSlF (Z2.int .u32)) bt bu) ?_;rintro _ bv ⟨rfl,ah⟩;refine ⟨_,rfl,?_⟩;replace ah:Zf aq bm aq bv:=.of_below ah;refine lV _ (Yk _ _ rfl rfl)<|Zc ?_;replace ab:=(((ab.kp ak).gr al).gr ag).gr ah;replace hmk:=(((hmk.kp ak).gr al).gr ag).gr ah;replace hki:=(((hki.kp ak a3 rfl).gr al).gr ag).gr ah;replace aa:=(((aa.kp ak a3).grow al).grow ag).grow ah;replace hrec:=((hrec.gr al).gr ag).gr ah;refine Zy _ rfl (fun hb=>?_) (fun hb=>?_)
  ·rw [if_pos hb] at hm;refine Zb<|Zd<|Zg3 (v:=(.bool false)) ab sizeOf4 rfl rfl (by intro u hu;simp only [Value.cells,List.mem_cons,List.not_mem_nil,or_false] at hu;subst hu;rfl) rfl rfl ?_;intro bw ar a4 ay;replace ay:Zt 4 1 aq bw aj #[.bool false]:=ay;refine Zc<|Zq ?_;replace hrec:=hrec.kp ar;replace hmk:=hmk.kp ar;replace hki:=hki.kp ar a4 rfl;replace aa:=aa.kp ar a4;exact ⟨_,hki,⟨rfl,⟨false,hm,aa,ay⟩⟩,hrec,hmk⟩
  rw [if_neg (Zz hb)] at hm;refine Zr ?_;exact ⟨_,hki,⟨ad,hm,aa,ab⟩,hrec,hmk⟩
 ·intro bx ac ae hJ hmk;obtain ⟨ad,hm,aa,ab⟩:=hJ;rw [Zcb.eq_1] at hm;refine Zb<|Zd<|Zg3 (v:=(.bool true)) ab sizeOf4 rfl rfl (by intro u hu;simp only [Value.cells,List.mem_cons,List.not_mem_nil,or_false] at hu;subst hu;rfl) rfl rfl ?_;intro bz a5 b0 am;replace am:Zt 4 1 ac bz aj #[.bool true]:=am;refine Zc<|Zq ?_;cases hm;replace hmk:=hmk.kp a5;refine ⟨_,(bx :: []),rfl,hmk,?_⟩;intro cd a6 b1;replace aa:=(aa.kp a5 b0).kp a6 b1;replace am:=am.kp a6;exact ⟨_,Zsg rfl rfl isAgg4 rfl am.at1,rfl,aa.below⟩
 intro c_ b2 ac ae hX hmk;obtain ⟨rfl,hX⟩:=hX;obtain ⟨ad,hm,aa,ab⟩:=hX;rw [Zlz.eq_1] at hm;refine Zq ?_;cases hm;refine ⟨_,(b2 :: []),rfl,hmk,?_⟩;intro ce a7 b3;replace ab:=ab.kp a7;replace aa:=aa.kp a7 b3;exact ⟨_,Zsg rfl rfl isAgg4 rfl ab.at1,rfl,aa.below⟩
def Ze3 (aa:Bool):Option Bool:=
  some aa
def Ze2 (N:Nat) (aa:((Bool×List Int)×List Int)):Option Bool:=
  (Zeo N ((aa.1.1,aa.1.2),aa.2)).bind fun ac=>if (decide (ac<0))=true then (Ze3 true) else ((Ze1 N).bind fun ab=>(Zen N ((aa.1.1,aa.1.2),aa.2) ((ab.1.1,ab.1.2),ab.2)).bind fun ad=>Ze3 (decide (0<ad)))
theorem Zuq (N:Nat) (col:Zh) (w0:World) (ag:Option Addr) (ah:Nat) (ai:Option Addr) (aj:Nat) (ac:((Bool×List Int)×List Int)) (am:Sl (Za.int .u32) col w0 ag ah ac.1.2) (an:Sl (Za.int .u32) col w0 ai aj ac.2) (r:Bool) (hm:Ze2 N ac=some r):
    Calls Tryz.prog 179 #[(.agg #[.bool ac.1.1,.slice ag ac.1.2.length ah,.slice ai ac.2.length aj])] w0 (fun e w'=>e= .returned ((.bool r))∧Below w0.heap.size w0 w'):=by
 refine Xv 2 (m:=12) func179 rfl rfl rfl rfl rfl ?_;rw [Ze2.eq_1] at hm;have aa:=St.start col w0;refine Zb<|Zd<|X3 (col:=(Zo col)) 1 rfl ?_;intro bi a4 ab a5 ao;refine Xc rfl<|Zc<|Zb ?_;replace am:=am.keep (Zp.start col w0);replace an:=an.keep (Zp.start col w0);replace aa:=aa.grow a5;refine Wp.cut (fun f ay=>∃ (az:Zh) (au:Bool),Ze3 au=some r∧St w0 (Zo col) az ay∧f 2=(.bool au)∧f 1000000=(enc [])) ?_ ?_
 ·intro f ay hJ;obtain ⟨az,au,hm,aa,a6,a7⟩:=hJ;rw [Ze3.eq_1] at hm;refine .lD 2 a6<|.lD 1000000 a7<|Zq ?_;cases hm;exact ⟨rfl,rfl,aa.below⟩
 refine Vn (col:=ab) [(0,0),(1,3),(2,1),(3,1),(4,0),(5,3),(6,3),(7,1),(8,1),(9,1)] (by kernel_rfl) (by kernel_rfl)<|xv rfl rfl (fun _ hC=>Ye isAgg47 sizeOf47 (ao.gr (hC.bl ab))) ?_;refine xe rfl rfl ?_;intro a0 hC0;have hC:Zf ab a4 ab a0:=.of_below hC0.below;obtain ⟨af,a8,hm⟩:=bZ hm;replace aa:=aa.grow hC;refine lc rfl rfl (Z7 call72 rfl) (Zuh N ab _ ag ah ai aj ((ac.1.1,ac.1.2),ac.2) (am.ks aa) (an.ks aa) af a8) ?_;rintro _ ap ⟨rfl,ak⟩;refine ⟨_,rfl,?_⟩;replace ak:Zf ab a0 ab ap:=.of_below ak;refine Zc ⟨fun w'=>Zf ab ap ab w',Zf.refl _ _,fun _ _ h=>Yh hC0 ak h,?_⟩;refine xu rfl rfl (fun _=>Z4 _ _ rfl rfl) ?_;refine xu rfl rfl (fun _=>W4 rfl) ?_;replace ao:=(ao.gr hC).gr ak;replace aa:=aa.grow ak;by_cases ad:(decide (af<0))=true
 ·rw [if_pos ad] at hm;refine Zbx (b:=decide (af<0)) 6 rfl rfl rfl rfl rfl (by rw [ad];rfl)<|Zbx (b:=decide (af<0)) 6 rfl rfl rfl rfl rfl (by rw [ad];rfl)<|Zbx (b:=decide (af<0)) 6 rfl rfl rfl rfl rfl (by rw [ad];rfl)<|Zbx (b:=decide (af<0)) 6 rfl rfl rfl rfl rfl (by rw [ad];rfl)<|xu (v:=(.bool true)) rfl rfl (fun _=>Xm (congrArg Value.bool ad) rfl) ?_;refine xu rfl rfl (fun _=>Zbs rfl) ?_;refine Ve ?_;intro a9 hC;replace hC:Zf ab ap ab a9:=.of_below hC.below;replace aa:=aa.grow hC;exact ⟨ab,true,hm,aa,rfl,rfl⟩
 rw [if_neg ad] at hm;replace ad:=Bool.eq_false_iff.2 ad;refine Ztx (v:=(.agg #[.bool ac.1.1,.slice ag ac.1.2.length ah,.slice ai ac.2.length aj])) (b:=decide (af<0)) 6 rfl rfl rfl rfl rfl (by rw [ad];rfl) (fun _ hC=>Wt isAgg47 sizeOf47 rfl rfl (ao.atN.gr (hC.bl ab))) ?_;refine xe rfl rfl ?_;intro ba hC0;have hC:Zf ab ap ab ba:=.of_below hC0.below;refine lG 6 rfl (gq ad) ?_;obtain ⟨aq,bb,hm⟩:=bZ hm;refine lc rfl rfl (Zie call182) (Zm9 N 6 7 ab _ aq bb) ?_;rintro _ a1 ⟨ae,bc,bd,be,bf,rfl,a2,av,aw⟩;refine ⟨_,rfl,?_⟩;refine Zc ⟨fun w'=>Zf ae a1 ae w',Zf.refl _ _,fun _ _ h=>Yh hC0 a2 h,?_⟩;refine xe rfl rfl ?_;intro a3 hC0;replace aa:=(aa.grow hC).grow a2;have hC:Zf ae a1 ae a3:=.of_below hC0.below;refine lG 6 rfl (gq ad) ?_;obtain ⟨al,bg,hm⟩:=bZ hm;replace av:=av.gr hC;replace aw:=aw.gr hC;replace aa:=aa.grow hC;refine lc rfl rfl (Xa call71 rfl rfl) (Zm5 N (Z3 7 (Z3 6 ae)) _ ag ah ai aj ((ac.1.1,ac.1.2),ac.2) bc bd be bf ((aq.1.1,aq.1.2),aq.2) (((am.ks aa).froz 6).froz 7) (((an.ks aa).froz 6).froz 7) ((av.toSlF (Z2.int .u32)).froz 7) ((aw.froz 6 (by decide)).toSlF (Z2.int .u32)) al bg) ?_;rintro _ ax ⟨rfl,ar⟩;refine ⟨_,rfl,?_⟩;replace ar:Zf ae a3 ae ax:=.of_below ar;refine Zc ⟨fun w'=>Zf ae ax ae w',Zf.refl _ _,fun _ _ h=>Yh hC0 ar h,?_⟩;refine Ztw (v:=(.bool (decide (0<al)))) (b:=decide (af<0)) 6 rfl rfl rfl rfl rfl (by rw [ad];rfl) (fun _=>Wa al 0 rfl rfl) ?_;refine xu (v:=(.bool (decide (0<al)))) rfl rfl (fun _=>Xr (congrArg Value.bool ad) rfl) ?_;refine xu rfl rfl (fun _=>Zbs rfl) ?_;refine Ve ?_;intro bh hC;replace hC:Zf ae ax ae bh:=.of_below hC.below;replace aa:=(aa.grow ar).grow hC;exact ⟨ae,(decide (0<al)),hm,aa,rfl,rfl⟩
def Zdn (N:Nat):List ((Bool×List Int)×List Int)→Nat→Option Int
  | [],aa=>some (-1)
  | ab :: ac,aa=>(Ze2 N ((ab.1.1,ab.1.2),ab.2)).bind fun ad=>if ad=true then (some (aa:Int)) else ((Zdn N ac) (aa+1))
termination_by structural x=>x
def Zj5 (N:Nat) (aa:(List ((Bool×List Int)×List Int))):Option Int:=
  Zdn N aa 0
theorem Zvy (N:Nat) (col:Zh) (w0:World) (a0:Option Addr) (ah:Nat) (aa:(List ((Bool×List Int)×List Int))) (h0:Sl (Za.pair (Za.pair Za.bool (Za.slice (Za.int .u32))) (Za.slice (Za.int .u32))) col w0 a0 ah aa) (r:Int) (hm:Zj5 N aa=some r):
    Calls Tryz.prog 253 #[.slice a0 aa.length ah,(.func (.func 179) #[] #[])] w0 (fun e w'=>e= .returned ((.int .i64 r))∧Below w0.heap.size w0 w'):=by
 refine Xv 4 (m:=19) func253 rfl rfl rfl rfl rfl ?_;rw [Zj5.eq_1] at hm;have ab:=St.start col w0;refine Zb<|Zd<|Zj rfl<|Zc<|Zb<|Zb<|Zd<|Zk rfl<|lV _ (Zs underlying56 rfl)<|Zg rfl<|Zc<|Z0<|Xi (fun n f ai=>∃ (ad:Zh) (ac:Nat) (af:List ((Bool×List Int)×List Int)),n=af.length∧aa.drop ac=af∧Zdn N af ac=some r∧St w0 (Zo col) ad ai∧f 8=(.int .i64 ac)∧f 0=(.slice a0 aa.length ah)∧f 1=(.func (.func 179) #[] #[])∧f 7=(.int .i64 aa.length)∧f 1000000=(enc [])) aa.length ⟨(Zo col),0,aa,rfl,rfl,hm,ab,rfl,rfl,rfl,rfl,rfl⟩ ?_;clear hm;intro n f ai hI;obtain ⟨ad,ac,af,hn,hl,hm,ab,ap,aq,ar,au,av⟩:=hI;subst hn;refine .lD 8 ap<|.lD 0 aq<|.lD 1 ar<|.lD 7 au<|.lD 1000000 av ?_;replace h0:=h0.keep (Zp.start col w0)
 cases af with
 | nil=>
  have hk:¬ ((ac:Int)<(aa.length:Int)):=by have:=List.drop_eq_nil_iff.1 hl;omega
  have hkb:=decide_eq_false hk;rw [Zdn.eq_1] at hm;refine Zb<|Zd<|lV _ (Z4 _ _ rfl rfl)<|Zc<|Zb<|Wn (congrArg Value.bool hkb) ?_;refine Xl (Xk ?_);refine Zb<|Zd<|Zj rfl<|Zc<|Zq ?_;cases hm;exact ⟨rfl,rfl,ab.below⟩
 | cons ae ak=>
  obtain ⟨ag,aw,ax⟩:=Wv hl;have hk:(ac:Int)<(aa.length:Int):=by omega
  have hkb:=decide_eq_true hk;rw [Zdn.eq_2] at hm;refine Zb<|Zd<|lV _ (Z4 _ _ rfl rfl)<|Zc<|Zb<|Wo (congrArg Value.bool hkb)<|Zr<|Zb<|Z0<|Zb<|Zd<|Zg rfl<|Zj rfl<|Zc<|Zb<|Zd<|lM (.func (.func 179) #[] #[])<|Zk rfl<|Zg rfl ?_;refine lV _ (Zx underlying56 sizeOf47 rfl rfl (Zi ag).1 (Zi ag).2.1 ((h0.ks ab).addr ag)) ?_;obtain ⟨_,ay,az⟩:=(h0.ks ab).atN ag;obtain ⟨_,_,rfl,a1,a2⟩:=Wu ay;obtain ⟨_,_,rfl,a3,a4⟩:=Wu a1;obtain ⟨rfl,_⟩:=a3;obtain ⟨⟨al,am,rfl,a5⟩,_⟩:=a4;obtain ⟨⟨an,ao,rfl,a6⟩,_⟩:=a2;refine lV (.agg #[.bool ae.1.1,.slice al ae.1.2.length am,.slice an ae.2.length ao]) (Wt isAgg47 sizeOf47 rfl rfl az) ?_;obtain ⟨a7,a8,hm⟩:=bZ hm;refine lc rfl rfl (Zyp call179 rfl rfl) (Zuq N ad _ al am an ao ((ae.1.1,ae.1.2),ae.2) a5 a6 a7 a8) ?_;rintro _ a9 ⟨rfl,aj⟩;refine ⟨_,rfl,?_⟩;replace aj:Zf ad ai ad a9:=.of_below aj;refine Zc ?_;replace ab:=ab.grow aj;refine Zy _ rfl (fun hb=>?_) (fun hb=>?_)
  ·rw [if_pos hb] at hm;refine Zb<|Zd<|Zg rfl<|Zj rfl<|Zc<|Zq ?_;cases hm;exact ⟨rfl,rfl,ab.below⟩
  rw [if_neg (Zz hb)] at hm;refine Zr<|Zd<|lV _ (Z5 _ _ rfl rfl)<|Zg rfl<|Zc ?_;exact ⟨ak.length,by simp,⟨ad,(ac+1),ak,rfl,aw,hm,ab,(congrArg (Value.int .i64) (Wy (Nat.lt_of_lt_of_le ax (h0.ks ab).1.1))),rfl,rfl,rfl,rfl⟩⟩
def Zj4 (N:Nat) (aa:(List ((Bool×List Int)×List Int))):Option Bool:=
  (Zj5 N aa).bind fun ab=>some (decide (0≤ab))
theorem Zvx (N:Nat) (col:Zh) (w0:World) (a0:Option Addr) (ac:Nat) (aa:(List ((Bool×List Int)×List Int))) (h0:Sl (Za.pair (Za.pair Za.bool (Za.slice (Za.int .u32))) (Za.slice (Za.int .u32))) col w0 a0 ac aa) (r:Bool) (hm:Zj4 N aa=some r):
    Calls Tryz.prog 177 #[.slice a0 aa.length ac,(.func (.func 179) #[] #[])] w0 (fun e w'=>e= .returned ((.bool r))∧Below w0.heap.size w0 w'):=by
 refine Xv 4 (m:=9) func177 rfl rfl rfl rfl rfl ?_;rw [Zj4.eq_1] at hm;have ab:=St.start col w0;refine Zb<|Zd<|Xc rfl<|Zc<|Zb<|Zd<|Zk rfl<|lM (.func (.func 179) #[] #[]) ?_;obtain ⟨ae,af,hm⟩:=bZ hm;replace h0:=h0.keep (Zp.start col w0);refine lc rfl rfl (Xa call253 rfl rfl) (Zvy N (Zo col) _ a0 ac aa (h0.ks ab) ae af) ?_;rintro _ ag ⟨rfl,ad⟩;refine ⟨_,rfl,?_⟩;replace ad:Zf (Zo col) w0 (Zo col) ag:=.of_below ad;refine lV _ (Uq _ _ rfl rfl)<|Xc rfl<|Zc<|Zq ?_;cases hm;replace ab:=ab.grow ad;exact ⟨rfl,rfl,ab.below⟩
def Zca (ab:(ByteArray×List ByteArray×(List (List ByteArray))×(List (List Int))×(List (List ((Bool×List Int)×List Int))))):List Int→Int→Option Int
  | [],aa=>some aa
  | ad :: ae,aa=>(Zv ab.2.2.1 ad).bind fun ac=>(Zca ab ae) (if 1099511627776<(i64.wrap (aa * (ac.length:Int))) then 1099511627776 else (i64.wrap (aa * (ac.length:Int))))
termination_by structural x=>x
def Ze4 (aa:(ByteArray×List ByteArray×(List (List ByteArray))×(List (List Int))×(List (List ((Bool×List Int)×List Int))))) (ab:Int):Option Int:=
  (Zv aa.2.2.2.1 ab).bind fun ac=>Zca aa ac 1
theorem Zur (col:Zh) (w0:World) (ar:Option Addr) (au:Nat) (av:Option Addr) (aw:Nat) (ax:Option Addr) (ay:Nat) (az:Option Addr) (a0:Nat) (aa:(ByteArray×List ByteArray×(List (List ByteArray))×(List (List Int))×(List (List ((Bool×List Int)×List Int))))) (a1:Int) (bj:Sl Za.str col w0 ar au aa.2.1) (ak:Sl (Za.slice Za.str) col w0 av aw aa.2.2.1) (al:Sl (Za.slice (Za.int .i64)) col w0 ax ay aa.2.2.2.1) (bk:Sl (Za.slice (Za.pair (Za.pair Za.bool (Za.slice (Za.int .u32))) (Za.slice (Za.int .u32)))) col w0 az a0 aa.2.2.2.2) (r:Int) (hm:Ze4 aa a1=some r):
    Calls Tryz.prog 176 #[(.agg #[.string aa.1,.slice ar aa.2.1.length au,.slice av aa.2.2.1.length aw,.slice ax aa.2.2.2.1.length ay,.slice az aa.2.2.2.2.length a0]),.int .i64 a1] w0 (fun e w'=>e= .returned ((.int .i64 r))∧Below w0.heap.size w0 w'):=by
 refine Xv 4 (m:=29) func176 rfl rfl rfl rfl rfl ?_;rw [Ze4.eq_1] at hm;have ab:=St.start col w0;refine Zb<|Zd<|X3 (col:=(Zo col)) 1 rfl ?_;intro am bl a5 a6 ag;refine Zj rfl<|Zc<|Zb<|Zd<|Zj rfl<|Zc<|Zb<|Zb<|Zd<|Z9 am 3 underlying27 rfl sizeOf24 isAgg24 ag rfl<|Zg rfl ?_;obtain ⟨ac,an,hm⟩:=bZ hm;replace al:=al.keep (Zp.start col w0);replace ab:=ab.grow a6;refine lV _ (Zx underlying24 sizeOf40 rfl rfl (Zi an).1 (Zi an).2.1 ((al.ks ab).addr an)) ?_;obtain ⟨_,a7,a8⟩:=(al.ks ab).atN an;obtain ⟨⟨a2,a3,rfl,ae⟩,_⟩:=a7;refine lV _ (Zn isAgg40 rfl a8.one)<|lV _ (Zs underlying40 rfl)<|Zg rfl<|Zc<|Z0<|Xi (fun n f ao=>∃ (ah:Zh) (af:Nat) (ad:Int) (ai:List Int),n=ai.length∧ac.drop af=ai∧Zca aa ai ad=some r∧St w0 (Zo col) ah ao∧Sl (Za.int .i64) ah ao a2 a3 ac∧Zt 27 1 ah ao am #[.string aa.1,.slice ar aa.2.1.length au,.slice av aa.2.2.1.length aw,.slice ax aa.2.2.2.1.length ay,.slice az aa.2.2.2.2.length a0]∧f 14=(.int .i64 af)∧f 12=(.slice a2 ac.length a3)∧f 13=(.int .i64 ac.length)∧f 2=(.pointer (some ⟨am,0,none⟩))∧f 5=(.int .i64 ad)∧f 1000000=(enc [])) ac.length ⟨a5,0,1,ac,rfl,rfl,hm,ab,ae,ag,rfl,rfl,rfl,rfl,rfl,rfl⟩ ?_;clear hm;intro n f ao hI;obtain ⟨ah,af,ad,ai,hn,hl,hm,ab,ae,ag,a9,ba,bb,bc,bd,be⟩:=hI;subst hn;refine .lD 14 a9<|.lD 12 ba<|.lD 13 bb<|.lD 2 bc<|.lD 5 bd<|.lD 1000000 be ?_;replace ak:=ak.keep (Zp.start col w0)
 cases ai with
 | nil=>
  have hk:¬ ((af:Int)<(ac.length:Int)):=by have:=List.drop_eq_nil_iff.1 hl;omega
  have hkb:=decide_eq_false hk;rw [Zca.eq_1] at hm;refine Zb<|Zd<|lV _ (Z4 _ _ rfl rfl)<|Zc<|Zb<|Wn (congrArg Value.bool hkb) ?_;refine Xl (Xk ?_);refine Zb<|Zd<|Zg rfl<|Zj rfl<|Zc<|Zq ?_;cases hm;exact ⟨rfl,rfl,ab.below⟩
 | cons bm a4=>
  obtain ⟨ap,bf,bg⟩:=Wv hl;have hk:(af:Int)<(ac.length:Int):=by omega
  have hkb:=decide_eq_true hk;rw [Zca.eq_2] at hm;refine Zb<|Zd<|lV _ (Z4 _ _ rfl rfl)<|Zc<|Zb<|Wo (congrArg Value.bool hkb)<|Zr<|Zb<|Z0<|Zb<|Zd ?_;refine lV _ (Zx underlying40 sizeOf3 rfl rfl (Zi ap).1 (Zi ap).2.1 (ae.addr ap)) ?_;refine lV _ (Zn isAgg3 rfl (ae.atInt ap))<|Zj rfl<|Zc<|Zd<|Zg rfl<|Z9 am 2 underlying27 rfl sizeOf23 isAgg23 ag rfl<|Zg rfl ?_;obtain ⟨aj,aq,hm⟩:=bZ hm;refine lV _ (Zx underlying23 sizeOf22 rfl rfl (Zi aq).1 (Zi aq).2.1 ((ak.ks ab).addr aq)) ?_;obtain ⟨_,bh,bi⟩:=(ak.ks ab).atN aq;obtain ⟨⟨bn,bo,rfl,bp⟩,_⟩:=bh;refine lV _ (Zn isAgg22 rfl bi.one)<|lV _ (Zs underlying22 rfl)<|lV _ (Ur _ _ rfl rfl)<|lV (.int .i64 (if 1099511627776<(i64.wrap (ad * (aj.length:Int))) then 1099511627776 else (i64.wrap (ad * (aj.length:Int))))) (Zry (i64.wrap (ad * (aj.length:Int))) 1099511627776 rfl rfl)<|Zj rfl<|Zc<|Zd<|lV _ (Z5 _ _ rfl rfl)<|Zg rfl<|Zc ?_;exact ⟨a4.length,by simp,⟨ah,(af+1),(if 1099511627776<(i64.wrap (ad * (aj.length:Int))) then 1099511627776 else (i64.wrap (ad * (aj.length:Int)))),a4,rfl,bf,hm,ab,ae,ag,(congrArg (Value.int .i64) (Wy (Nat.lt_of_lt_of_le bg ae.1.1))),rfl,rfl,rfl,rfl,rfl⟩⟩
def Za1 (N:Nat) (ab:(ByteArray×List ByteArray×(List (List ByteArray))×(List (List Int))×(List (List ((Bool×List Int)×List Int))))):List (List ((Bool×List Int)×List Int))→Nat→Option Int
  | [],aa=>some 0
  | ac :: ad,aa=>(Zv ab.2.2.1 (aa:Int)).bind fun ae=>(Zey N ac).bind fun af=>(Zhd N af (ae.length:Int)).bind fun ag=>if (!ag)=true then (some 46) else ((Za1 N ab ad) (aa+1))
termination_by structural x=>x
def Qy (N:Nat) (aa:(ByteArray×List ByteArray×(List (List ByteArray))×(List (List Int))×(List (List ((Bool×List Int)×List Int))))):List (List ((Bool×List Int)×List Int))→Option Int
  | []=>Za1 N aa aa.2.2.2.2 0
  | ab :: ac=>(Zey N ab).bind fun ad=>(Zj4 N ad).bind fun ae=>if ae=true then (some 45) else (Qy N aa ac)
termination_by structural x=>x
def Qx (N:Nat) (aa:(ByteArray×List ByteArray×(List (List ByteArray))×(List (List Int))×(List (List ((Bool×List Int)×List Int))))):List (List ((Bool×List Int)×List Int))→Nat→Option Int
  | [],ab=>Qy N aa aa.2.2.2.2
  | ae :: af,ab=>(Ze4 (aa.1,aa.2.1,aa.2.2.1,aa.2.2.2.1,aa.2.2.2.2) (ab:Int)).bind fun ac=>(Zv aa.2.2.1 (ab:Int)).bind fun ad=>if (decide (65536<(i64.wrap (ac * (ad.length:Int)))))=true then (some 4) else (if (!decide ((i64.wrap (ac * (ad.length:Int)))=(ae.length:Int)))=true then (some 60) else ((Qx N aa af) (ab+1)))
termination_by structural x=>x
def Za0 (N:Nat) (aa:(ByteArray×List ByteArray×(List (List ByteArray))×(List (List Int))×(List (List ((Bool×List Int)×List Int))))) (ad:Bool):Option Int:=
  if ad=true then (some 60) else (if (decide (1024<(aa.2.1.length:Int)))=true then (some 4) else ((Zez (aa.1,aa.2.1,aa.2.2.1,aa.2.2.2.1,aa.2.2.2.2)).bind fun ab=>if (!decide (ab=0))=true then (some ab) else ((Qt N aa.2.2.2.1).bind fun ac=>if (!decide (ac=0))=true then (some ac) else (Qx N aa aa.2.2.2.2 0))))
def Zev (N:Nat) (aa:(ByteArray×List ByteArray×(List (List ByteArray))×(List (List Int))×(List (List ((Bool×List Int)×List Int))))):Option Int:=
  if (!decide ((aa.2.2.1.length:Int)=(aa.2.1.length:Int)))=true then (Za0 N aa true) else (if (!decide ((aa.2.2.2.1.length:Int)=(aa.2.1.length:Int)))=true then (Za0 N aa true) else (Za0 N aa (!decide ((aa.2.2.2.2.length:Int)=(aa.2.1.length:Int)))))
theorem Zun (N:Nat) (col:Zh) (w0:World) (aq:Option Addr) (ar:Nat) (au:Option Addr) (av:Nat) (an:Option Addr) (ao:Nat) (ak:Option Addr) (al:Nat) (aa:(ByteArray×List ByteArray×(List (List ByteArray))×(List (List Int))×(List (List ((Bool×List Int)×List Int))))) (a8:Sl Za.str col w0 aq ar aa.2.1) (aw:Sl (Za.slice Za.str) col w0 au av aa.2.2.1) (a2:Sl (Za.slice (Za.int .i64)) col w0 an ao aa.2.2.2.1) (ai:Sl (Za.slice (Za.pair (Za.pair Za.bool (Za.slice (Za.int .u32))) (Za.slice (Za.int .u32)))) col w0 ak al aa.2.2.2.2) (r:Int) (hm:Zev N aa=some r):
    Calls Tryz.prog 67 #[(.agg #[.string aa.1,.slice aq aa.2.1.length ar,.slice au aa.2.2.1.length av,.slice an aa.2.2.2.1.length ao,.slice ak aa.2.2.2.2.length al])] w0 (fun e w'=>e= .returned ((.int .i64 r))∧Below w0.heap.size w0 w'):=by
 refine Xv 2 (m:=103) func67 rfl rfl rfl rfl rfl ?_;rw [Zev.eq_1] at hm;have ab:=St.start col w0;refine Zb<|Zd<|X3 (col:=(Zo col)) 1 rfl ?_;intro ad dn bi b1 ac;refine Zj rfl<|Zc<|Zb<|Zd<|Z9 ad 1 underlying27 rfl sizeOf22 isAgg22 ac rfl<|lV _ (Zs underlying22 rfl)<|Zj rfl<|Zc<|Zb<|Zb ?_;replace a8:=a8.keep (Zp.start col w0);replace aw:=aw.keep (Zp.start col w0);replace a2:=a2.keep (Zp.start col w0);replace ai:=ai.keep (Zp.start col w0);replace ab:=ab.grow b1;refine Wp.cut (fun f a9=>∃ (am:Zh) (bj:Bool),Za0 N aa bj=some r∧St w0 (Zo col) am a9∧Zt 27 1 am a9 ad #[.string aa.1,.slice aq aa.2.1.length ar,.slice au aa.2.2.1.length av,.slice an aa.2.2.2.1.length ao,.slice ak aa.2.2.2.2.length al]∧f 1=(.pointer (some ⟨ad,0,none⟩))∧f 3=(.int .i64 aa.2.1.length)∧f 34=(.bool bj)∧f 1000000=(enc [])) ?_ ?_
 ·intro f a9 hJ;obtain ⟨am,bj,hm,ab,ac,ay,b2,b3,az⟩:=hJ;rw [Za0.eq_1] at hm;refine .lD 1 ay<|.lD 3 b2<|.lD 34 b3<|.lD 1000000 az ?_;refine Zy _ rfl (fun hb=>?_) (fun hb=>?_)
  ·rw [if_pos hb] at hm;refine Zb<|Zd<|Zj rfl<|Zc<|Zq ?_;cases hm;exact ⟨rfl,rfl,ab.below⟩
  rw [if_neg (Zz hb)] at hm;refine Zr<|Zb<|Zb<|Zd<|Zg rfl<|lV _ (Wa _ _ rfl rfl)<|Zc ?_;refine Zy _ rfl (fun hb=>?_) (fun hb=>?_)
  ·rw [if_pos hb] at hm;refine Zb<|Zd<|Zj rfl<|Zc<|Zq ?_;cases hm;exact ⟨rfl,rfl,ab.below⟩
  rw [if_neg (Zz hb)] at hm;refine Zr<|Zb<|Zb<|Zd<|lV _ (Ye isAgg27 sizeOf27 ac) ?_;obtain ⟨b4,b5,hm⟩:=bZ hm;refine lc rfl rfl (Z7 call174 rfl) (Zup am _ aq ar au av an ao ak al (aa.1,aa.2.1,aa.2.2.1,aa.2.2.2.1,aa.2.2.2.2) (a8.ks ab) (aw.ks ab) (a2.ks ab) (ai.ks ab) b4 b5) ?_;rintro _ bq ⟨rfl,ba⟩;refine ⟨_,rfl,?_⟩;replace ba:Zf am a9 am bq:=.of_below ba;refine Zj rfl<|Zc<|Zb<|Zd<|Zg rfl<|lV _ (Yk _ _ rfl rfl)<|Zc ?_;replace ac:=ac.gr ba;replace ab:=ab.grow ba;refine Zy _ rfl (fun hb=>?_) (fun hb=>?_)
  ·rw [if_pos hb] at hm;refine Zb<|Zd<|Zg rfl<|Zj rfl<|Zc<|Zq ?_;cases hm;exact ⟨rfl,rfl,ab.below⟩
  rw [if_neg (Zz hb)] at hm;refine Zr<|Zb<|Zb<|Zd<|Z9 ad 3 underlying27 rfl sizeOf24 isAgg24 ac rfl ?_;obtain ⟨b6,b7,hm⟩:=bZ hm;refine lc rfl rfl (Z7 call175 rfl) (Zt8 N am _ an ao aa.2.2.2.1 (a2.ks ab) b6 b7) ?_;rintro _ b8 ⟨rfl,bb⟩;refine ⟨_,rfl,?_⟩;replace bb:Zf am bq am b8:=.of_below bb;refine Zj rfl<|Zc<|Zb<|Zd<|Zg rfl<|lV _ (Yk _ _ rfl rfl)<|Zc ?_;replace ac:=ac.gr bb;replace ab:=ab.grow bb;refine Zy _ rfl (fun hb=>?_) (fun hb=>?_)
  ·rw [if_pos hb] at hm;refine Zb<|Zd<|Zg rfl<|Zj rfl<|Zc<|Zq ?_;cases hm;exact ⟨rfl,rfl,ab.below⟩
  rw [if_neg (Zz hb)] at hm;refine Zr<|Zb<|Zb<|Zd<|Z9 ad 4 underlying27 rfl sizeOf25 isAgg25 ac rfl<|lV _ (Zs underlying25 rfl)<|Zg rfl<|Zc<|Z0<|Xi (fun n f bc=>∃ (ae:Zh) (ax:Nat) (a3:List (List ((Bool×List Int)×List Int))),n=a3.length∧aa.2.2.2.2.drop ax=a3∧Qx N aa a3 ax=some r∧St w0 (Zo col) ae bc∧Zt 27 1 ae bc ad #[.string aa.1,.slice aq aa.2.1.length ar,.slice au aa.2.2.1.length av,.slice an aa.2.2.2.1.length ao,.slice ak aa.2.2.2.2.length al]∧f 51=(.int .i64 ax)∧f 1=(.pointer (some ⟨ad,0,none⟩))∧f 49=(.slice ak aa.2.2.2.2.length al)∧f 50=(.int .i64 aa.2.2.2.2.length)∧f 1000000=(enc [])) aa.2.2.2.2.length ⟨am,0,aa.2.2.2.2,rfl,rfl,hm,ab,ac,rfl,rfl,rfl,rfl,rfl⟩ ?_;clear hm;intro n f bc hI;obtain ⟨ae,ax,a3,hn,hl,hm,ab,ac,b9,ay,ca,cb,az⟩:=hI;subst hn;refine .lD 51 b9<|.lD 1 ay<|.lD 49 ca<|.lD 50 cb<|.lD 1000000 az ?_
  cases a3 with
  | nil=>
   have hk:¬ ((ax:Int)<(aa.2.2.2.2.length:Int)):=by have:=List.drop_eq_nil_iff.1 hl;omega
   have hkb:=decide_eq_false hk;rw [Qx.eq_1] at hm;refine Zb<|Zd<|lV _ (Z4 _ _ rfl rfl)<|Zc<|Zb<|Wn (congrArg Value.bool hkb) ?_;refine Xl (Xk ?_);refine Zb<|Zb<|Zd<|Z9 ad 4 underlying27 rfl sizeOf25 isAgg25 ac rfl<|lV _ (Zs underlying25 rfl)<|Zg rfl<|Zc<|Z0<|Xi (fun n f bk=>∃ (a4:Zh) (a1:Nat) (a5:List (List ((Bool×List Int)×List Int))),n=a5.length∧aa.2.2.2.2.drop a1=a5∧Qy N aa a5=some r∧St w0 (Zo col) a4 bk∧Zt 27 1 a4 bk ad #[.string aa.1,.slice aq aa.2.1.length ar,.slice au aa.2.2.1.length av,.slice an aa.2.2.2.1.length ao,.slice ak aa.2.2.2.2.length al]∧f 76=(.int .i64 a1)∧f 1=(.pointer (some ⟨ad,0,none⟩))∧f 74=(.slice ak aa.2.2.2.2.length al)∧f 75=(.int .i64 aa.2.2.2.2.length)∧f 1000000=(enc [])) aa.2.2.2.2.length ⟨ae,0,aa.2.2.2.2,rfl,rfl,hm,ab,ac,rfl,rfl,rfl,rfl,rfl⟩ ?_;clear hm;intro n f bk hI;obtain ⟨a4,a1,a5,hn,hl,hm,ab,ac,cc,ay,cd,ce,az⟩:=hI;subst hn;refine .lD 76 cc<|.lD 1 ay<|.lD 74 cd<|.lD 75 ce<|.lD 1000000 az ?_
   cases a5 with
   | nil=>
    have hk:¬ ((a1:Int)<(aa.2.2.2.2.length:Int)):=by have:=List.drop_eq_nil_iff.1 hl;omega
    have hkb:=decide_eq_false hk;rw [Qy.eq_1] at hm;refine Zb<|Zd<|lV _ (Z4 _ _ rfl rfl)<|Zc<|Zb<|Wn (congrArg Value.bool hkb) ?_;refine Xl (Xk ?_);refine Zb<|Zb<|Zd<|Z9 ad 4 underlying27 rfl sizeOf25 isAgg25 ac rfl<|lV _ (Zs underlying25 rfl)<|Zg rfl<|Zc<|Z0<|Xi (fun n f bd=>∃ (ap:Zh) (a0:Nat) (a6:List (List ((Bool×List Int)×List Int))),n=a6.length∧aa.2.2.2.2.drop a0=a6∧Za1 N aa a6 a0=some r∧St w0 (Zo col) ap bd∧Zt 27 1 ap bd ad #[.string aa.1,.slice aq aa.2.1.length ar,.slice au aa.2.2.1.length av,.slice an aa.2.2.2.1.length ao,.slice ak aa.2.2.2.2.length al]∧f 87=(.int .i64 a0)∧f 1=(.pointer (some ⟨ad,0,none⟩))∧f 85=(.slice ak aa.2.2.2.2.length al)∧f 86=(.int .i64 aa.2.2.2.2.length)∧f 1000000=(enc [])) aa.2.2.2.2.length ⟨a4,0,aa.2.2.2.2,rfl,rfl,hm,ab,ac,rfl,rfl,rfl,rfl,rfl⟩ ?_;clear hm;intro n f bd hI;obtain ⟨ap,a0,a6,hn,hl,hm,ab,ac,cf,ay,cg,ch,az⟩:=hI;subst hn;refine .lD 87 cf<|.lD 1 ay<|.lD 85 cg<|.lD 86 ch<|.lD 1000000 az ?_
    cases a6 with
    | nil=>
     have hk:¬ ((a0:Int)<(aa.2.2.2.2.length:Int)):=by have:=List.drop_eq_nil_iff.1 hl;omega
     have hkb:=decide_eq_false hk;rw [Za1.eq_1] at hm;refine Zb<|Zd<|lV _ (Z4 _ _ rfl rfl)<|Zc<|Zb<|Wn (congrArg Value.bool hkb) ?_;refine Xl (Xk ?_);refine Zb<|Zd<|Zj rfl<|Zc<|Zq ?_;cases hm;exact ⟨rfl,rfl,ab.below⟩
    | cons ci br=>
     obtain ⟨ah,cj,ck⟩:=Wv hl;have hk:(a0:Int)<(aa.2.2.2.2.length:Int):=by omega
     have hkb:=decide_eq_true hk;rw [Za1.eq_2] at hm;refine Zb<|Zd<|lV _ (Z4 _ _ rfl rfl)<|Zc<|Zb<|Wo (congrArg Value.bool hkb)<|Zr<|Zb<|Z0<|Zb<|Zd<|Zg rfl ?_;refine lV _ (Zx underlying25 sizeOf56 rfl rfl (Zi ah).1 (Zi ah).2.1 ((ai.ks ab).addr ah)) ?_;obtain ⟨_,cl,cm⟩:=(ai.ks ab).atN ah;obtain ⟨⟨cn,co,rfl,bm⟩,_⟩:=cl;refine lV _ (Zn isAgg56 rfl cm.one)<|Zj rfl<|Zu rfl<|Zc<|Zb<|Vn (col:=ap) [(0,1),(2,1),(3,0),(4,1),(5,1),(6,0),(7,1),(1,3),(8,3),(9,1)] (by kernel_rfl) (by kernel_rfl)<|xu rfl rfl (fun _=>Yr rfl) ?_;refine xu (v:=(.pointer ((some (⟨ad,0,none⟩:Addr)).map (·.add 2)))) rfl rfl (fun _=>Xn (sz:=1) (off:=2) underlying27 rfl sizeOf23 (by decide) rfl rfl ⟨_,_,rfl⟩) ?_;refine xv rfl rfl (fun _ hC=>Zn isAgg23 rfl (((ac.atN).nth (q:=2) rfl).gr (hC.bl ap))) ?_;refine xu rfl rfl (fun _=>Xp rfl) ?_;obtain ⟨cp,be,hm⟩:=bZ hm;refine xu rfl rfl (fun _=>Zx underlying23 sizeOf22 rfl rfl (Zi be).1 (Zi be).2.1 ((aw.ks ab).addr be)) ?_;obtain ⟨_,cq,cr⟩:=(aw.ks ab).atN be;obtain ⟨⟨dp,dq,rfl,dr⟩,_⟩:=cq;refine xv rfl rfl (fun _ hC=>Zn isAgg22 rfl (cr.one.gr (hC.bl ap))) ?_;refine xu rfl rfl (fun _=>Zs underlying22 rfl) ?_;refine xe rfl rfl ?_;intro cs hC0;have hC:Zf ap bd ap cs:=.of_below hC0.below;obtain ⟨bs,ct,hm⟩:=bZ hm;replace bm:=bm.gr hC;refine lc rfl rfl (Z7 call178 rfl) (Zm8 N 2 ap _ cn co ci bm bs ct) ?_;rintro _ bt ⟨aj,cu,cv,rfl,bn,bo⟩;refine ⟨_,rfl,?_⟩;refine Zc ⟨fun w'=>Zf aj bt aj w',Zf.refl _ _,fun _ _ h=>Yh hC0 bn h,?_⟩;refine xe rfl rfl ?_;intro bu hC0;replace ac:=(ac.gr hC).gr bn;replace ab:=(ab.grow hC).grow bn;have hC:Zf aj bt aj bu:=.of_below hC0.below;obtain ⟨cw,cx,hm⟩:=bZ hm;replace bo:=bo.gr hC;refine lc rfl rfl (Xa call180 rfl rfl) (Zut N (Z3 2 aj) _ cu cv bs (cp.length:Int) (bo.toSlF (Z2.pair (Z2.pair Z2.bool Z2.slice) Z2.slice)) cw cx) ?_;rintro _ bp ⟨rfl,a7⟩;refine ⟨_,rfl,?_⟩;replace a7:Zf aj bu aj bp:=.of_below a7;refine Zc ⟨fun w'=>Zf aj bp aj w',Zf.refl _ _,fun _ _ h=>Yh hC0 a7 h,?_⟩;refine xu rfl rfl (fun _=>V3 _ rfl) ?_;refine Ve ?_;replace ac:=(ac.gr hC).gr a7;replace ab:=(ab.grow hC).grow a7;intro cy hC;replace hC:Zf aj bp aj cy:=.of_below hC.below;replace ac:=ac.gr hC;replace ab:=ab.grow hC;refine Zy _ rfl (fun hb=>?_) (fun hb=>?_)
     ·rw [if_pos hb] at hm;refine Zb<|Zd<|Zj rfl<|Zc<|Zq ?_;cases hm;exact ⟨rfl,rfl,ab.below⟩
     rw [if_neg (Zz hb)] at hm;refine Zr<|Zd<|lV _ (Z5 _ _ rfl rfl)<|Zg rfl<|Zc ?_;exact ⟨br.length,by simp,⟨aj,(a0+1),br,rfl,cj,hm,ab,ac,(congrArg (Value.int .i64) (Wy (Nat.lt_of_lt_of_le ck (ai.ks ab).1.1))),rfl,rfl,rfl,rfl⟩⟩
   | cons cz bv=>
    obtain ⟨ah,c0,c1⟩:=Wv hl;have hk:(a1:Int)<(aa.2.2.2.2.length:Int):=by omega
    have hkb:=decide_eq_true hk;rw [Qy.eq_2] at hm;refine Zb<|Zd<|lV _ (Z4 _ _ rfl rfl)<|Zc<|Zb<|Wo (congrArg Value.bool hkb)<|Zr<|Zb<|Z0<|Zb<|Zd ?_;refine lV _ (Zx underlying25 sizeOf56 rfl rfl (Zi ah).1 (Zi ah).2.1 ((ai.ks ab).addr ah)) ?_;obtain ⟨_,c2,c3⟩:=(ai.ks ab).atN ah;obtain ⟨⟨c4,c5,rfl,c6⟩,_⟩:=c2;refine lV _ (Zn isAgg56 rfl c3.one)<|Zu rfl<|Zc<|Zb<|Zd<|Zk rfl ?_;obtain ⟨bw,c7,hm⟩:=bZ hm;refine lc rfl rfl (Z7 call178 rfl) (Zm8 N 3 a4 _ c4 c5 cz c6 bw c7) ?_;rintro _ c8 ⟨bf,c9,da,rfl,bx,db⟩;refine ⟨_,rfl,?_⟩;obtain ⟨dc,dd,hm⟩:=bZ hm;refine lc rfl rfl (Xa call177 rfl rfl) (Zvx N (Z3 3 bf) _ c9 da bw (db.toSlF (Z2.pair (Z2.pair Z2.bool Z2.slice) Z2.slice)) dc dd) ?_;rintro _ de ⟨rfl,bg⟩;refine ⟨_,rfl,?_⟩;replace bg:Zf bf c8 bf de:=.of_below bg;refine Zc ?_;replace ac:=(ac.gr bx).gr bg;replace ab:=(ab.grow bx).grow bg;refine Zy _ rfl (fun hb=>?_) (fun hb=>?_)
    ·rw [if_pos hb] at hm;refine Zb<|Zd<|Zj rfl<|Zc<|Zq ?_;cases hm;exact ⟨rfl,rfl,ab.below⟩
    rw [if_neg (Zz hb)] at hm;refine Zr<|Zd<|lV _ (Z5 _ _ rfl rfl)<|Zg rfl<|Zc ?_;exact ⟨bv.length,by simp,⟨bf,(a1+1),bv,rfl,c0,hm,ab,ac,(congrArg (Value.int .i64) (Wy (Nat.lt_of_lt_of_le c1 (ai.ks ab).1.1))),rfl,rfl,rfl,rfl⟩⟩
  | cons ds bz=>
   obtain ⟨ah,df,dg⟩:=Wv hl;have hk:(ax:Int)<(aa.2.2.2.2.length:Int):=by omega
   have hkb:=decide_eq_true hk;rw [Qx.eq_2] at hm;refine Zb<|Zd<|lV _ (Z4 _ _ rfl rfl)<|Zc<|Zb<|Wo (congrArg Value.bool hkb)<|Zr<|Zb<|Z0<|Zb<|Zd<|Zg rfl ?_;refine lV _ (Zx underlying25 sizeOf56 rfl rfl (Zi ah).1 (Zi ah).2.1 ((ai.ks ab).addr ah)) ?_;obtain ⟨_,dh,di⟩:=(ai.ks ab).atN ah;obtain ⟨⟨dt,du,rfl,dv⟩,_⟩:=dh;refine lV _ (Zn isAgg56 rfl di.one)<|Zj rfl<|Zu rfl<|Zc<|Zb<|W5 (col:=ae) (by kernel_rfl) (by kernel_rfl)<|qv rfl (fun _ hC=>Ye isAgg27 sizeOf27 (ac.gr (hC.bl ae))) ?_;refine qv rfl (fun _ hC=>Xp rfl) ?_;obtain ⟨b0,dj,hm⟩:=bZ hm;refine qc (v:=(.int .i64 b0)) rfl (fun _ hC=>⟨_,_,Xa call176 rfl rfl,(Zur ae _ aq ar au av an ao ak al (aa.1,aa.2.1,aa.2.2.1,aa.2.2.2.1,aa.2.2.2.2) (ax:Int) ((a8.ks ab).gr (hC.bl ae)) ((aw.ks ab).gr (hC.bl ae)) ((a2.ks ab).gr (hC.bl ae)) ((ai.ks ab).gr (hC.bl ae)) b0 dj).mono fun _ _ h=>⟨h.1,hC.trans (.of_below h.2)⟩⟩) ?_;refine qv (v:=(.pointer ((some (⟨ad,0,none⟩:Addr)).map (·.add 2)))) rfl (fun _ hC=>Xn (sz:=1) (off:=2) underlying27 rfl sizeOf23 (by decide) rfl rfl ⟨_,_,rfl⟩) ?_;refine qv rfl (fun _ hC=>Zn isAgg23 rfl (((ac.atN).nth (q:=2) rfl).gr (hC.bl ae))) ?_;refine qv rfl (fun _ hC=>Xp rfl) ?_;obtain ⟨dw,bh,hm⟩:=bZ hm;refine qv rfl (fun _ hC=>Zx underlying23 sizeOf22 rfl rfl (Zi bh).1 (Zi bh).2.1 ((aw.ks ab).addr bh)) ?_;obtain ⟨_,dk,dl⟩:=(aw.ks ab).atN bh;obtain ⟨⟨dx,dy,rfl,dz⟩,_⟩:=dk;refine qv rfl (fun _ hC=>Zn isAgg22 rfl (dl.one.gr (hC.bl ae))) ?_;refine qv rfl (fun _ hC=>Zs underlying22 rfl) ?_;refine qv rfl (fun _ hC=>Ur _ _ rfl rfl) ?_;refine qv rfl (fun _ hC=>Zah rfl) ?_;refine Y1 ?_;intro dm hC;replace hC:Zf ae bc ae dm:=.of_below hC.below;refine Zb<|Zb<|Zd<|Zg rfl<|lV _ (Wa _ _ rfl rfl)<|Zc ?_;replace ac:=ac.gr hC;replace ab:=ab.grow hC;refine Zy _ rfl (fun hb=>?_) (fun hb=>?_)
   ·rw [if_pos hb] at hm;refine Zb<|Zd<|Zj rfl<|Zc<|Zq ?_;cases hm;exact ⟨rfl,rfl,ab.below⟩
   rw [if_neg (Zz hb)] at hm;refine Zr<|Zb<|Zd<|Zg rfl<|Zk rfl<|lV _ (Zs underlying56 rfl)<|lV _ (Yk _ _ rfl rfl)<|Zc ?_;refine Zy _ rfl (fun hb=>?_) (fun hb=>?_)
   ·rw [if_pos hb] at hm;refine Zb<|Zd<|Zj rfl<|Zc<|Zq ?_;cases hm;exact ⟨rfl,rfl,ab.below⟩
   rw [if_neg (Zz hb)] at hm;refine Zr<|Zd<|lV _ (Z5 _ _ rfl rfl)<|Zg rfl<|Zc ?_;exact ⟨bz.length,by simp,⟨ae,(ax+1),bz,rfl,df,hm,ab,ac,(congrArg (Value.int .i64) (Wy (Nat.lt_of_lt_of_le dg (ai.ks ab).1.1))),rfl,rfl,rfl,rfl⟩⟩
 refine Zd<|Z9 ad 2 underlying27 rfl sizeOf23 isAgg23 ac rfl<|lV _ (Zs underlying23 rfl)<|Zg rfl<|lV _ (Yk _ _ rfl rfl)<|Xf rfl ?_;by_cases af:(!decide ((aa.2.2.1.length:Int)=(aa.2.1.length:Int)))=true
 ·rw [if_pos af] at hm;refine lP 21 rfl (by rw [af];rfl)<|lP 21 rfl (by rw [af];rfl)<|lP 21 rfl (by rw [af];rfl)<|lP 21 rfl (by rw [af];rfl)<|lP 21 rfl (by rw [af];rfl)<|lV (.bool true) (Xm (congrArg Value.bool af) rfl)<|Xf rfl<|lP 28 rfl rfl<|lP 28 rfl rfl<|lP 28 rfl rfl<|lP 28 rfl rfl<|lP 28 rfl rfl<|lV (.bool true) (Xm rfl rfl)<|Zc ?_;exact ⟨bi,true,hm,ab,ac,rfl,rfl,rfl,rfl⟩
 rw [if_neg af] at hm;replace af:=Bool.eq_false_iff.2 af;refine lG 21 rfl (by rw [af];rfl)<|lF ad 3 underlying27 rfl sizeOf24<|lG 21 rfl (by rw [af];rfl)<|lV _ (Zn isAgg24 rfl ((ac.atN).nth (q:=3) rfl))<|lG 21 rfl (by rw [af];rfl)<|lV _ (Zs underlying24 rfl)<|lG 21 rfl (by rw [af];rfl)<|Zg rfl<|lG 21 rfl (by rw [af];rfl)<|lV _ (Yk _ _ rfl rfl)<|lV (.bool (!decide ((aa.2.2.2.1.length:Int)=(aa.2.1.length:Int)))) (Xr (congrArg Value.bool af) rfl)<|Xf rfl ?_;by_cases ag:(!decide ((aa.2.2.2.1.length:Int)=(aa.2.1.length:Int)))=true
 ·rw [if_pos ag] at hm;refine lP 28 rfl (by rw [ag];rfl)<|lP 28 rfl (by rw [ag];rfl)<|lP 28 rfl (by rw [ag];rfl)<|lP 28 rfl (by rw [ag];rfl)<|lP 28 rfl (by rw [ag];rfl)<|lV (.bool true) (Xm (congrArg Value.bool ag) rfl)<|Zc ?_;exact ⟨bi,true,hm,ab,ac,rfl,rfl,rfl,rfl⟩
 rw [if_neg ag] at hm;replace ag:=Bool.eq_false_iff.2 ag;refine lG 28 rfl (by rw [ag];rfl)<|lF ad 4 underlying27 rfl sizeOf25<|lG 28 rfl (by rw [ag];rfl)<|lV _ (Zn isAgg25 rfl ((ac.atN).nth (q:=4) rfl))<|lG 28 rfl (by rw [ag];rfl)<|lV _ (Zs underlying25 rfl)<|lG 28 rfl (by rw [ag];rfl)<|Zg rfl<|lG 28 rfl (by rw [ag];rfl)<|lV _ (Yk _ _ rfl rfl)<|lV (.bool (!decide ((aa.2.2.2.2.length:Int)=(aa.2.1.length:Int)))) (Xr (congrArg Value.bool ag) rfl)<|Zc ?_;exact ⟨bi,(!decide ((aa.2.2.2.2.length:Int)=(aa.2.1.length:Int))),hm,ab,ac,rfl,rfl,rfl,rfl⟩
def Zc3 (N:Nat) (ab:List ByteArray) (ac:ByteArray):Nat→Int→Option Int
  | 0,_=>none
  | ad+1,aa=>if (decide (aa<(ab.length:Int)))=true then ((Zv ab aa).bind fun ae=>if (decide (ae=ac))=true then (some aa) else ((Zc3 N ab ac ad) (i64.wrap (aa+1)))) else (some (-1))
termination_by structural x=>x
def Zhz (N:Nat) (aa:List ByteArray) (ab:ByteArray):Option Int:=
  Zc3 N aa ab N 0
theorem Znp (N:Nat) (col:Zh) (w0:World) (a0:Option Addr) (ag:Nat) (ac:List ByteArray) (ad:ByteArray) (h0:Sl Za.str col w0 a0 ag ac) (r:Int) (hm:Zhz N ac ad=some r):
    Calls Tryz.prog 192 #[.slice a0 ac.length ag,.string ad] w0 (fun e w'=>e= .returned ((.int .i64 r))∧Below w0.heap.size w0 w'):=by
 refine Xv 4 (m:=19) func192 rfl rfl rfl rfl rfl ?_;rw [Zhz.eq_1] at hm;have aa:=St.start col w0;refine Zb<|Zd<|Zj rfl<|Zc<|Zb<|Zb<|Zd<|Zj rfl<|Zc<|Z0<|Xi (fun n f ai=>∃ (ah:Zh) (ae:Int) (ab:Nat),ab=n∧Zc3 N ac ad ab ae=some r∧St w0 (Zo col) ah ai∧f 0=(.slice a0 ac.length ag)∧f 1=(.string ad)∧f 5=(.int .i64 ae)∧f 1000000=(enc [])) N ⟨(Zo col),0,N,rfl,hm,aa,rfl,rfl,rfl,rfl⟩ ?_;clear hm;intro n f ai hI;obtain ⟨ah,ae,ab,hn,hm,aa,aj,ak,al,am⟩:=hI;subst hn;refine .lD 0 aj<|.lD 1 ak<|.lD 5 al<|.lD 1000000 am ?_;replace h0:=h0.keep (Zp.start col w0)
 cases ab with
 | zero=>rw [Zc3.eq_1] at hm;cases hm
 | succ ab=>
  rw [Zc3.eq_2] at hm;refine Zb<|Zb<|Zd<|Zg rfl<|Zk rfl<|lV _ (Zs underlying22 rfl)<|lV _ (Z4 _ _ rfl rfl)<|Zc ?_;refine Zy _ rfl (fun hb=>?_) (fun hb=>?_)
  ·rw [if_pos hb] at hm;refine Zr<|Zb<|Z0<|Zb<|Zd<|Zk rfl<|Zg rfl ?_;obtain ⟨an,af,hm⟩:=bZ hm;refine lV _ (Zx underlying22 sizeOf9 rfl rfl (Zi af).1 (Zi af).2.1 ((h0.ks aa).addr af)) ?_;refine lV _ (Zn isAgg9 rfl ((h0.ks aa).atStr af))<|Td rfl<|lV _ (Su _ _ underlying9 rfl rfl)<|Zc ?_;refine Zy _ rfl (fun hb=>?_) (fun hb=>?_)
   ·rw [if_pos hb] at hm;refine Zb<|Zd<|Zg rfl<|Zj rfl<|Zc<|Zq ?_;cases hm;exact ⟨rfl,rfl,aa.below⟩
   rw [if_neg (Zz hb)] at hm;refine Zr<|Zd<|Zg rfl<|lV _ (Z5 _ _ rfl rfl)<|Zj rfl<|Zc ?_;exact ⟨ab,by omega,⟨ah,(i64.wrap (ae+1)),ab,rfl,hm,aa,rfl,rfl,rfl,rfl⟩⟩
  rw [if_neg (Zz hb)] at hm;refine Xl (Xk ?_);refine Zb<|Zd<|Zj rfl<|Zc<|Zq ?_;cases hm;exact ⟨rfl,rfl,aa.below⟩
theorem Zog:Y2 Tryz.prog 3 1 8:=⟨Tryz.t3,_,rfl,rfl,rfl,rfl,rfl⟩
def Zc5 (N:Nat) (ab:(ByteArray×List ByteArray×(List (List ByteArray))×(List (List Int))×(List (List ((Bool×List Int)×List Int))))):Nat→(List Int)→Int→Option (List Int)
  | 0,_,_=>none
  | ae+1,aa,ac=>if (decide (ac<(ab.2.2.1.length:Int)))=true then ((Zv ab.2.2.1 ac).bind fun ad=>Xb ((aa.length+[(ad.length:Int)].length) * 8≤140737488355328∧aa.length+[(ad.length:Int)].length≤maxLen) ((Zc5 N ab ae) (aa++[(ad.length:Int)]) (i64.wrap (ac+1)))) else (some aa)
termination_by structural x=>x
def Zc4 (N:Nat) (aa:(ByteArray×List ByteArray×(List (List ByteArray))×(List (List Int))×(List (List ((Bool×List Int)×List Int))))):Option (List Int):=
  Zc5 N aa N ([]:List Int) 0
theorem Zvl (N:Nat) (c1:Nat) (col:Zh) (w0:World) (ap:Option Addr) (aq:Nat) (ar:Option Addr) (au:Nat) (av:Option Addr) (aw:Nat) (ax:Option Addr) (ay:Nat) (aa:(ByteArray×List ByteArray×(List (List ByteArray))×(List (List Int))×(List (List ((Bool×List Int)×List Int))))) (bh:Sl Za.str col w0 ap aq aa.2.1) (ah:Sl (Za.slice Za.str) col w0 ar au aa.2.2.1) (bi:Sl (Za.slice (Za.int .i64)) col w0 av aw aa.2.2.2.1) (bj:Sl (Za.slice (Za.pair (Za.pair Za.bool (Za.slice (Za.int .u32))) (Za.slice (Za.int .u32)))) col w0 ax ay aa.2.2.2.2) (r:List Int) (hm:Zc4 N aa=some r):
    Calls Tryz.prog 150 #[(.agg #[.string aa.1,.slice ap aa.2.1.length aq,.slice ar aa.2.2.1.length au,.slice av aa.2.2.2.1.length aw,.slice ax aa.2.2.2.2.length ay])] w0 (fun e w'=>∃ (col':Zh) (ra1:Option Addr) (rc2:Nat),e= .returned ((.slice ra1 r.length rc2))∧Zf col w0 col' w'∧Zl (Za.int .i64) 3 c1 col' w' ra1 rc2 r):=by
 refine Xv 2 (m:=22) func150 rfl rfl rfl rfl rfl ?_;rw [Zc4.eq_1] at hm;have ab:=St.start col w0;refine Zb<|Zd<|X3 (col:=(Zo col)) 1 rfl ?_;intro ai bk a2 a3 ac;refine Zu rfl<|Zc<|Zb<|Zd<|Zu rfl<|Zc<|Zb<|Zb<|Zd<|Zj rfl<|Zc<|Z0 ?_;replace ab:=ab.grow a3;refine Xi (fun n f aj=>∃ (af:Zh) (ak:Option Addr) (al:Nat) (ag:List Int) (am:Int) (ad:Nat),ad=n∧Zc5 N aa ad ag am=some r∧St w0 (Zo col) af aj∧Zt 27 1 af aj ai #[.string aa.1,.slice ap aa.2.1.length aq,.slice ar aa.2.2.1.length au,.slice av aa.2.2.2.1.length aw,.slice ax aa.2.2.2.2.length ay]∧Zl (Za.int .i64) 3 2 af aj ak al ag∧f 1=(.pointer (some ⟨ai,0,none⟩))∧f 3=(.slice ak ag.length al)∧f 4=(.int .i64 am)∧f 1000000=(enc [])) N ⟨a2,none,0,([]:List Int),0,N,rfl,hm,ab,ac,Zl.nil,rfl,rfl,rfl,rfl⟩ ?_;clear hm;intro n f aj hI;obtain ⟨af,ak,al,ag,am,ad,hn,hm,ab,ac,an,a4,a5,a6,a7⟩:=hI;subst hn;refine .lD 1 a4<|.lD 3 a5<|.lD 4 a6<|.lD 1000000 a7 ?_;replace ah:=ah.keep (Zp.start col w0)
 cases ad with
 | zero=>rw [Zc5.eq_1] at hm;cases hm
 | succ ad=>
  rw [Zc5.eq_2] at hm;refine Zb<|Zb<|Zd<|Zg rfl<|Z9 ai 2 underlying27 rfl sizeOf23 isAgg23 ac rfl<|lV _ (Zs underlying23 rfl)<|lV _ (Z4 _ _ rfl rfl)<|Zc ?_;refine Zy _ rfl (fun hb=>?_) (fun hb=>?_)
  ·rw [if_pos hb] at hm;refine Zr<|Zb<|Z0<|Zd<|Zk rfl<|Z9 ai 2 underlying27 rfl sizeOf23 isAgg23 ac rfl<|Zg rfl ?_;obtain ⟨ae,ao,hm⟩:=bZ hm;refine lV _ (Zx underlying23 sizeOf22 rfl rfl (Zi ao).1 (Zi ao).2.1 ((ah.ks ab).addr ao)) ?_;obtain ⟨_,a8,a9⟩:=(ah.ks ab).atN ao;obtain ⟨⟨bl,bm,rfl,bn⟩,_⟩:=a8;refine lV _ (Zn isAgg22 rfl a9.one)<|lV _ (Zs underlying22 rfl)<|Wk (col:=af) (r:=(Za.int .i64)) (xs:=[(ae.length:Int)]) [.int .i64 ae.length] 3 rfl underlying40 Zog rfl rfl rfl rfl rfl rfl (by intro v hv;simp only [List.mem_cons,List.not_mem_nil,or_false] at hv;subst hv;rfl) (Y6.ofF (Rows.consF (r:=(Za.int .i64)) (x:=(ae.length:Int)) (cs:=[.int .i64 ae.length]) (X8 .i64 (ae.length:Int)) Rows.nil0)) ?_;intro bo ba bb az bc;obtain ⟨a0,hm⟩:=Xd hm;replace an:=an.gr az;refine Wr (col:=bb) (w:=ba) (r:=(Za.int .i64)) (c:=2) (c2:=2) (xs:=ag) (ys:=[(ae.length:Int)]) an (bc.srcN (NB.int (k:=.i64))) rfl underlying40 Zog rfl rfl rfl a0.1 a0.2 (by decide) ?_;intro bd be bp bf a1 bg;refine Zu rfl<|Zc<|Zd<|Zg rfl<|lV _ (Z5 _ _ rfl rfl)<|Zj rfl<|Zc ?_;replace ac:=(ac.gr az).kpp a1;replace ab:=(ab.grow az).kpp a1;exact ⟨ad,by omega,⟨bf,bd,be,(ag++[(ae.length:Int)]),(i64.wrap (am+1)),ad,rfl,hm,ab,ac,bg,rfl,rfl,rfl,rfl⟩⟩
  rw [if_neg (Zz hb)] at hm;refine Xl (Xk ?_);refine Zb<|Zd<|Zk rfl<|Zu rfl<|Zc<|Zq ?_;cases hm;exact ⟨rfl,Xh w0.heap.size col af (fun n=>bif Nat.beq n 2 then c1 else 0),ak,al,rfl,ab.fin (fun n=>bif Nat.beq n 2 then c1 else 0),ab.finOwn (g:=(fun n=>bif Nat.beq n 2 then c1 else 0)) rfl an (by decide) (by decide) rfl⟩
def Zf4 (aa:Int) (kk_L2:(Int→Int→Option Int)) (ab:Int):Option Int:=
  kk_L2 ab (i64.wrap (aa+1))
def Zae (N:Nat) (aa:List Int) (ac:List Int):Nat→Int→Int→Option Int
  | 0,_,_=>none
  | af+1,ad,ab=>if (decide (ab<(aa.length:Int)))=true then ((Zv aa ab).bind fun ag=>(Zv ac ag).bind fun ae=>Xb (ae≠0) (if (decide ((i64.wrap (Int.tdiv 1099511627776 ae))<ad))=true then (Zf4 ab (Zae N aa ac af) 1099511627776) else (Zf4 ab (Zae N aa ac af) (i64.wrap (ad * ae))))) else (some ad)
termination_by structural x=>x
def Zc2 (N:Nat) (aa:List Int) (ab:List Int):Nat→Int→Option Int
  | 0,_=>none
  | ad+1,ac=>if (decide (ac<(aa.length:Int)))=true then ((Zv aa ac).bind fun ae=>(Zv ab ae).bind fun af=>if (decide (af<1))=true then (some 0) else ((Zc2 N aa ab ad) (i64.wrap (ac+1)))) else (Zae N aa ab N 1 0)
termination_by structural x=>x
def Zhy (N:Nat) (aa:List Int) (ab:List Int):Option Int:=
  Zc2 N aa ab N 0
theorem Zvi (N:Nat) (col:Zh) (w0:World) (a0:Option Addr) (ai:Nat) (ab:List Int) (a1:Option Addr) (aj:Nat) (ac:List Int) (h0:Sl (Za.int .i64) col w0 a0 ai ab) (h1:Sl (Za.int .i64) col w0 a1 aj ac) (r:Int) (hm:Zhy N ab ac=some r):
    Calls Tryz.prog 194 #[.slice a0 ab.length ai,.slice a1 ac.length aj] w0 (fun e w'=>e= .returned ((.int .i64 r))∧Below w0.heap.size w0 w'):=by
 refine Xv 4 (m:=48) func194 rfl rfl rfl rfl rfl ?_;rw [Zhy.eq_1] at hm;have aa:=St.start col w0;refine Zb<|Zd<|Zj rfl<|Zc<|Zb<|Zb<|Zd<|Zj rfl<|Zc<|Z0<|Xi (fun n f a2=>∃ (an:Zh) (ao:Int) (ag:Nat),ag=n∧Zc2 N ab ac ag ao=some r∧St w0 (Zo col) an a2∧f 0=(.slice a0 ab.length ai)∧f 1=(.slice a1 ac.length aj)∧f 5=(.int .i64 ao)∧f 1000000=(enc [])) N ⟨(Zo col),0,N,rfl,hm,aa,rfl,rfl,rfl,rfl⟩ ?_;clear hm;intro n f a2 hI;obtain ⟨an,ao,ag,hn,hm,aa,ak,al,a5,am⟩:=hI;subst hn;refine .lD 0 ak<|.lD 1 al<|.lD 5 a5<|.lD 1000000 am ?_;replace h0:=h0.keep (Zp.start col w0);replace h1:=h1.keep (Zp.start col w0)
 cases ag with
 | zero=>rw [Zc2.eq_1] at hm;cases hm
 | succ ag=>
  rw [Zc2.eq_2] at hm;refine Zb<|Zb<|Zd<|Zg rfl<|Zk rfl<|lV _ (Zs underlying40 rfl)<|lV _ (Z4 _ _ rfl rfl)<|Zc ?_;refine Zy _ rfl (fun hb=>?_) (fun hb=>?_)
  ·rw [if_pos hb] at hm;refine Zr<|Zb<|Z0<|Zb<|Zd<|Zk rfl<|Zk rfl<|Zg rfl ?_;obtain ⟨a7,ap,hm⟩:=bZ hm;refine lV _ (Zx underlying40 sizeOf3 rfl rfl (Zi ap).1 (Zi ap).2.1 ((h0.ks aa).addr ap)) ?_;refine lV _ (Zn isAgg3 rfl ((h0.ks aa).atInt ap)) ?_;obtain ⟨a8,aq,hm⟩:=bZ hm;refine lV _ (Zx underlying40 sizeOf3 rfl rfl (Zi aq).1 (Zi aq).2.1 ((h1.ks aa).addr aq)) ?_;refine lV _ (Zn isAgg3 rfl ((h1.ks aa).atInt aq))<|lV _ (Z4 _ _ rfl rfl)<|Zc ?_;refine Zy _ rfl (fun hb=>?_) (fun hb=>?_)
   ·rw [if_pos hb] at hm;refine Zb<|Zd<|Zj rfl<|Zc<|Zq ?_;cases hm;exact ⟨rfl,rfl,aa.below⟩
   rw [if_neg (Zz hb)] at hm;refine Zr<|Zd<|Zg rfl<|lV _ (Z5 _ _ rfl rfl)<|Zj rfl<|Zc ?_;exact ⟨ag,by omega,⟨an,(i64.wrap (ao+1)),ag,rfl,hm,aa,rfl,rfl,rfl,rfl⟩⟩
  rw [if_neg (Zz hb)] at hm;refine Xl (Xk ?_);refine Zb<|Zd<|Zj rfl<|Zc<|Zb<|Zb<|Zd<|Zj rfl<|Zc<|Z0<|Xi (fun n f a3=>∃ (ar:Zh) (au:Int) (ah:Int) (ad:Nat),ad=n∧Zae N ab ac ad au ah=some r∧St w0 (Zo col) ar a3∧f 0=(.slice a0 ab.length ai)∧f 1=(.slice a1 ac.length aj)∧f 6=(.int .i64 au)∧f 7=(.int .i64 ah)∧f 1000000=(enc [])) N ⟨an,1,0,N,rfl,hm,aa,rfl,rfl,rfl,rfl,rfl⟩ ?_;clear hm;intro n f a3 hI;obtain ⟨ar,au,ah,ad,hn,hm,aa,ak,al,aw,ax,am⟩:=hI;subst hn;refine .lD 0 ak<|.lD 1 al<|.lD 6 aw<|.lD 7 ax<|.lD 1000000 am ?_
  cases ad with
  | zero=>rw [Zae.eq_1] at hm;cases hm
  | succ ad=>
   rw [Zae.eq_2] at hm;refine Zb<|Zb<|Zd<|Zg rfl<|Zk rfl<|lV _ (Zs underlying40 rfl)<|lV _ (Z4 _ _ rfl rfl)<|Zc ?_;refine Zy _ rfl (fun hb=>?_) (fun hb=>?_)
   ·rw [if_pos hb] at hm;refine Zr<|Zb ?_;refine Wp.cut (fun f a4=>∃ (ay:Zh) (av:Int),Zf4 ah (Zae N ab ac ad) av=some r∧St w0 (Zo col) ay a4∧f 0=(.slice a0 ab.length ai)∧f 1=(.slice a1 ac.length aj)∧f 6=(.int .i64 av)∧f 7=(.int .i64 ah)∧f 1000000=(enc [])) ?_ ?_
    ·intro f a4 hJ;obtain ⟨ay,av,hm,aa,ak,al,aw,ax,am⟩:=hJ;rw [Zf4.eq_1] at hm;refine .lD 0 ak<|.lD 1 al<|.lD 6 aw<|.lD 7 ax<|.lD 1000000 am<|Zd<|Zg rfl<|lV _ (Z5 _ _ rfl rfl)<|Zj rfl<|Zc ?_;exact ⟨ad,by omega,⟨ay,av,(i64.wrap (ah+1)),ad,rfl,hm,aa,rfl,rfl,rfl,rfl,rfl⟩⟩
    refine Z0<|Zb<|Zd<|Zg rfl<|Zk rfl<|Zk rfl<|Zg rfl ?_;obtain ⟨a9,ae,hm⟩:=bZ hm;refine lV _ (Zx underlying40 sizeOf3 rfl rfl (Zi ae).1 (Zi ae).2.1 ((h0.ks aa).addr ae)) ?_;refine lV _ (Zn isAgg3 rfl ((h0.ks aa).atInt ae)) ?_;obtain ⟨az,af,hm⟩:=bZ hm;refine lV _ (Zx underlying40 sizeOf3 rfl rfl (Zi af).1 (Zi af).2.1 ((h1.ks aa).addr af)) ?_;refine lV _ (Zn isAgg3 rfl ((h1.ks aa).atInt af)) ?_;obtain ⟨a6,hm⟩:=Xd hm;refine lV (.int .i64 (i64.wrap (Int.tdiv 1099511627776 az))) (Ub 1099511627776 az rfl rfl a6)<|lV _ (Wa _ _ rfl rfl)<|Zc ?_;refine Zy _ rfl (fun hb=>?_) (fun hb=>?_)
    ·rw [if_pos hb] at hm;refine Zd<|Zj rfl<|Zc ?_;exact ⟨ar,1099511627776,hm,aa,rfl,rfl,rfl,rfl,rfl⟩
    rw [if_neg (Zz hb)] at hm;refine Zd<|Zg rfl<|Zk rfl<|Zk rfl<|Zg rfl ?_;refine lV _ (Zx underlying40 sizeOf3 rfl rfl (Zi ae).1 (Zi ae).2.1 ((h0.ks aa).addr ae)) ?_;refine lV _ (Zn isAgg3 rfl ((h0.ks aa).atInt ae)) ?_;refine lV _ (Zx underlying40 sizeOf3 rfl rfl (Zi af).1 (Zi af).2.1 ((h1.ks aa).addr af)) ?_;refine lV _ (Zn isAgg3 rfl ((h1.ks aa).atInt af))<|lV _ (Ur _ _ rfl rfl)<|Zj rfl<|Zc ?_;exact ⟨ar,(i64.wrap (au * az)),hm,aa,rfl,rfl,rfl,rfl,rfl⟩
   rw [if_neg (Zz hb)] at hm;refine Xl (Xk ?_);refine Zb<|Zd<|Zg rfl<|Zj rfl<|Zc<|Zq ?_;cases hm;exact ⟨rfl,rfl,aa.below⟩
def Zh1 (aa:Bool):Option Bool:=
  some aa
def Zh0 (ab:Int) (aa:Int):Option Bool:=
  if (decide (0<aa))=true then (Xb (aa≠0) (Zh1 (decide ((i64.wrap (Int.tdiv 65536 aa))<ab)))) else (Zh1 false)
theorem Zvk (col:Zh) (w0:World) (ac:Int) (ab:Int) (r:Bool) (hm:Zh0 ac ab=some r):
    Calls Tryz.prog 195 #[.int .i64 ac,.int .i64 ab] w0 (fun e w'=>e= .returned ((.bool r))∧Below w0.heap.size w0 w'):=by
 refine Xv 4 (m:=13) func195 rfl rfl rfl rfl rfl ?_;rw [Zh0.eq_1] at hm;have ad:=St.start col w0;refine Zb<|Zd<|Xc rfl<|Zc<|Zb ?_;refine Wp.cut (fun f af=>∃ (ag:Zh) (ae:Bool),Zh1 ae=some r∧St w0 (Zo col) ag af∧f 4=(.bool ae)∧f 1000000=(enc [])) ?_ ?_
 ·intro f af hJ;obtain ⟨ag,ae,hm,ad,ah,ai⟩:=hJ;rw [Zh1.eq_1] at hm;refine .lD 4 ah<|.lD 1000000 ai<|Zq ?_;cases hm;exact ⟨rfl,rfl,ad.below⟩
 refine Zd<|Zg rfl<|lV _ (Wa _ _ rfl rfl)<|Xf rfl ?_;by_cases aa:(decide (0<ab))=true
 ·rw [if_pos aa] at hm;refine lG 7 rfl (gq aa)<|Zg rfl<|lG 7 rfl (gq aa)<|Zg rfl<|lG 7 rfl (gq aa) ?_;obtain ⟨aj,hm⟩:=Xd hm;refine lV (.int .i64 (i64.wrap (Int.tdiv 65536 ab))) (Ub 65536 ab rfl rfl aj)<|lG 7 rfl (gq aa)<|lV _ (Wa _ _ rfl rfl)<|lV (.bool (decide ((i64.wrap (Int.tdiv 65536 ab))<ac))) (Xm (congrArg Value.bool aa) rfl)<|Xc rfl<|Zc ?_;exact ⟨(Zo col),(decide ((i64.wrap (Int.tdiv 65536 ab))<ac)),hm,ad,rfl,rfl⟩
 rw [if_neg aa] at hm;replace aa:=Bool.eq_false_iff.2 aa;refine lP 7 rfl (gq aa)<|lP 7 rfl (gq aa)<|lP 7 rfl (gq aa)<|lP 7 rfl (gq aa)<|lV (.bool false) (Xr (congrArg Value.bool aa) rfl)<|Xc rfl<|Zc ?_;exact ⟨(Zo col),false,hm,ad,rfl,rfl⟩
def Zf5 (N:Nat):Option ((Bool×List Int)×List Int):=
  (Zbe N 1 1).bind fun aa=>some ((aa.1.1,aa.1.2),aa.2)
theorem Znq (N:Nat) (c1:Nat) (c2:Nat) (col:Zh) (w0:World) (r:((Bool×List Int)×List Int)) (hm:Zf5 N=some r):
    Calls Tryz.prog 242 #[] w0 (fun e w'=>∃ (col':Zh) (ra1:Option Addr) (rc2:Nat) (ra4:Option Addr) (rc5:Nat),e= .returned ((.agg #[.bool r.1.1,.slice ra1 r.1.2.length rc2,.slice ra4 r.2.length rc5]))∧Zf col w0 col' w'∧Zl (Za.int .u32) 79 c1 col' w' ra1 rc2 r.1.2∧Zl (Za.int .u32) 79 c2 col' w' ra4 rc5 r.2):=by
 refine Wq (m:=2) (args:=[]) func242 rfl rfl rfl ?_;rw [Zf5.eq_1] at hm;have aa:=St.start col w0;refine Zb<|Zd<|Yt (col:=(Zo col)) #[.bool false,.slice none (([]:List Int).length) 0,.slice none (([]:List Int).length) 0] 1 zeroValue47 ?_;intro ar au al am ac;refine Zc<|Zb<|Zd ?_;obtain ⟨ab,an,hm⟩:=bZ hm;refine lc rfl rfl (Xa call95 rfl rfl) (Znn N 2 3 al _ 1 1 ab an) ?_;rintro _ av ⟨ao,ag,ah,ai,aj,rfl,ak,ad,ae⟩;refine ⟨_,rfl,?_⟩;replace ac:=ac.gr ak;refine Ya #[.bool ab.1.1,.slice ag ab.1.2.length ah,.slice ai ab.2.length aj] ac sizeOf47 ?_;intro aw af ap aq;refine Zc<|Zq ?_;cases hm;replace aa:=((aa.grow am).grow ak).kp af ap;replace ad:=ad.kp af;replace ae:=ae.kp af;exact ⟨rfl,_,Wi rfl rfl isAgg47 sizeOf47 rfl rfl aq.atN,Xh w0.heap.size col ao (fun n=>bif Nat.beq n 2 then c1 else bif Nat.beq n 3 then c2 else 0),ag,ah,ai,aj,rfl,aa.fin (fun n=>bif Nat.beq n 2 then c1 else bif Nat.beq n 3 then c2 else 0),aa.finOwn (g:=(fun n=>bif Nat.beq n 2 then c1 else bif Nat.beq n 3 then c2 else 0)) rfl ad (by decide) (by decide) rfl,aa.finOwn (g:=(fun n=>bif Nat.beq n 2 then c1 else bif Nat.beq n 3 then c2 else 0)) rfl ae (by decide) (by decide) rfl⟩
def Zf7 (aa:Bool):Option Bool:=
  some aa
def Zf6 (N:Nat) (aa:((Bool×List Int)×List Int)):Option Bool:=
  (Zfv N ((aa.1.1,aa.1.2),aa.2)).bind fun ac=>if (decide (ac<0))=true then (Zf7 true) else ((Zf5 N).bind fun ab=>(Zfu N ((aa.1.1,aa.1.2),aa.2) ((ab.1.1,ab.1.2),ab.2)).bind fun ad=>Zf7 (decide (0<ad)))
theorem Zvj (N:Nat) (col:Zh) (w0:World) (ag:Option Addr) (ah:Nat) (ai:Option Addr) (aj:Nat) (ac:((Bool×List Int)×List Int)) (am:Sl (Za.int .u32) col w0 ag ah ac.1.2) (an:Sl (Za.int .u32) col w0 ai aj ac.2) (r:Bool) (hm:Zf6 N ac=some r):
    Calls Tryz.prog 196 #[(.agg #[.bool ac.1.1,.slice ag ac.1.2.length ah,.slice ai ac.2.length aj])] w0 (fun e w'=>e= .returned ((.bool r))∧Below w0.heap.size w0 w'):=by
 refine Xv 2 (m:=12) func196 rfl rfl rfl rfl rfl ?_;rw [Zf6.eq_1] at hm;have aa:=St.start col w0;refine Zb<|Zd<|X3 (col:=(Zo col)) 1 rfl ?_;intro bi a4 ab a5 ao;refine Xc rfl<|Zc<|Zb ?_;replace am:=am.keep (Zp.start col w0);replace an:=an.keep (Zp.start col w0);replace aa:=aa.grow a5;refine Wp.cut (fun f ay=>∃ (az:Zh) (au:Bool),Zf7 au=some r∧St w0 (Zo col) az ay∧f 2=(.bool au)∧f 1000000=(enc [])) ?_ ?_
 ·intro f ay hJ;obtain ⟨az,au,hm,aa,a6,a7⟩:=hJ;rw [Zf7.eq_1] at hm;refine .lD 2 a6<|.lD 1000000 a7<|Zq ?_;cases hm;exact ⟨rfl,rfl,aa.below⟩
 refine Vn (col:=ab) [(0,0),(1,3),(2,1),(3,1),(4,0),(5,3),(6,3),(7,1),(8,1),(9,1)] (by kernel_rfl) (by kernel_rfl)<|xv rfl rfl (fun _ hC=>Ye isAgg47 sizeOf47 (ao.gr (hC.bl ab))) ?_;refine xe rfl rfl ?_;intro a0 hC0;have hC:Zf ab a4 ab a0:=.of_below hC0.below;obtain ⟨af,a8,hm⟩:=bZ hm;replace aa:=aa.grow hC;refine lc rfl rfl (Z7 call93 rfl) (Zva N ab _ ag ah ai aj ((ac.1.1,ac.1.2),ac.2) (am.ks aa) (an.ks aa) af a8) ?_;rintro _ ap ⟨rfl,ak⟩;refine ⟨_,rfl,?_⟩;replace ak:Zf ab a0 ab ap:=.of_below ak;refine Zc ⟨fun w'=>Zf ab ap ab w',Zf.refl _ _,fun _ _ h=>Yh hC0 ak h,?_⟩;refine xu rfl rfl (fun _=>Z4 _ _ rfl rfl) ?_;refine xu rfl rfl (fun _=>W4 rfl) ?_;replace ao:=(ao.gr hC).gr ak;replace aa:=aa.grow ak;by_cases ad:(decide (af<0))=true
 ·rw [if_pos ad] at hm;refine Zbx (b:=decide (af<0)) 6 rfl rfl rfl rfl rfl (by rw [ad];rfl)<|Zbx (b:=decide (af<0)) 6 rfl rfl rfl rfl rfl (by rw [ad];rfl)<|Zbx (b:=decide (af<0)) 6 rfl rfl rfl rfl rfl (by rw [ad];rfl)<|Zbx (b:=decide (af<0)) 6 rfl rfl rfl rfl rfl (by rw [ad];rfl)<|xu (v:=(.bool true)) rfl rfl (fun _=>Xm (congrArg Value.bool ad) rfl) ?_;refine xu rfl rfl (fun _=>Zbs rfl) ?_;refine Ve ?_;intro a9 hC;replace hC:Zf ab ap ab a9:=.of_below hC.below;replace aa:=aa.grow hC;exact ⟨ab,true,hm,aa,rfl,rfl⟩
 rw [if_neg ad] at hm;replace ad:=Bool.eq_false_iff.2 ad;refine Ztx (v:=(.agg #[.bool ac.1.1,.slice ag ac.1.2.length ah,.slice ai ac.2.length aj])) (b:=decide (af<0)) 6 rfl rfl rfl rfl rfl (by rw [ad];rfl) (fun _ hC=>Wt isAgg47 sizeOf47 rfl rfl (ao.atN.gr (hC.bl ab))) ?_;refine xe rfl rfl ?_;intro ba hC0;have hC:Zf ab ap ab ba:=.of_below hC0.below;refine lG 6 rfl (gq ad) ?_;obtain ⟨aq,bb,hm⟩:=bZ hm;refine lc rfl rfl (Zie call242) (Znq N 6 7 ab _ aq bb) ?_;rintro _ a1 ⟨ae,bc,bd,be,bf,rfl,a2,av,aw⟩;refine ⟨_,rfl,?_⟩;refine Zc ⟨fun w'=>Zf ae a1 ae w',Zf.refl _ _,fun _ _ h=>Yh hC0 a2 h,?_⟩;refine xe rfl rfl ?_;intro a3 hC0;replace aa:=(aa.grow hC).grow a2;have hC:Zf ae a1 ae a3:=.of_below hC0.below;refine lG 6 rfl (gq ad) ?_;obtain ⟨al,bg,hm⟩:=bZ hm;replace av:=av.gr hC;replace aw:=aw.gr hC;replace aa:=aa.grow hC;refine lc rfl rfl (Xa call94 rfl rfl) (Znm N (Z3 7 (Z3 6 ae)) _ ag ah ai aj ((ac.1.1,ac.1.2),ac.2) bc bd be bf ((aq.1.1,aq.1.2),aq.2) (((am.ks aa).froz 6).froz 7) (((an.ks aa).froz 6).froz 7) ((av.toSlF (Z2.int .u32)).froz 7) ((aw.froz 6 (by decide)).toSlF (Z2.int .u32)) al bg) ?_;rintro _ ax ⟨rfl,ar⟩;refine ⟨_,rfl,?_⟩;replace ar:Zf ae a3 ae ax:=.of_below ar;refine Zc ⟨fun w'=>Zf ae ax ae w',Zf.refl _ _,fun _ _ h=>Yh hC0 ar h,?_⟩;refine Ztw (v:=(.bool (decide (0<al)))) (b:=decide (af<0)) 6 rfl rfl rfl rfl rfl (by rw [ad];rfl) (fun _=>Wa al 0 rfl rfl) ?_;refine xu (v:=(.bool (decide (0<al)))) rfl rfl (fun _=>Xr (congrArg Value.bool ad) rfl) ?_;refine xu rfl rfl (fun _=>Zbs rfl) ?_;refine Ve ?_;intro bh hC;replace hC:Zf ae ax ae bh:=.of_below hC.below;replace aa:=(aa.grow ar).grow hC;exact ⟨ae,(decide (0<al)),hm,aa,rfl,rfl⟩
def Zbh (N:Nat) (ac:(List ((Bool×List Int)×List Int))) (ab:Int):Nat→Int→Option Bool
  | 0,_=>none
  | af+1,aa=>if (decide (aa<(ac.length:Int)))=true then (Xb ((0:Int)≤aa∧aa≤(i64.wrap (aa+ab))∧(i64.wrap (aa+ab))≤(ac.length:Int)) ((Zhx N ((ac.take (Int.toNat (i64.wrap (aa+ab)))).drop (Int.toNat aa))).bind fun ad=>(Zf5 N).bind fun ae=>(Zfu N ((ad.1.1,ad.1.2),ad.2) ((ae.1.1,ae.1.2),ae.2)).bind fun ag=>if (!decide (ag=0))=true then (some false) else ((Zbh N ac ab af) (i64.wrap (aa+ab))))) else (some true)
termination_by structural x=>x
def Zjw (N:Nat) (aa:(List ((Bool×List Int)×List Int))) (ab:Int):Option Bool:=
  Zbh N aa ab N 0
theorem Zvm (N:Nat) (col:Zh) (w0:World) (a0:Option Addr) (ac:Nat) (ae:(List ((Bool×List Int)×List Int))) (ab:Int) (h0:Sl (Za.pair (Za.pair Za.bool (Za.slice (Za.int .u32))) (Za.slice (Za.int .u32))) col w0 a0 ac ae) (r:Bool) (hm:Zjw N ae ab=some r):
    Calls Tryz.prog 197 #[.slice a0 ae.length ac,.int .i64 ab] w0 (fun e w'=>e= .returned ((.bool r))∧Below w0.heap.size w0 w'):=by
 refine Xv 4 (m:=23) func197 rfl rfl rfl rfl rfl ?_;rw [Zjw.eq_1] at hm;have ad:=St.start col w0;refine Zb<|Zd<|Xc rfl<|Zc<|Zb<|Zb<|Zd<|Zj rfl<|Zc<|Z0<|Xi (fun n f aq=>∃ (ak:Zh) (aa:Int) (af:Nat),af=n∧Zbh N ae ab af aa=some r∧St w0 (Zo col) ak aq∧f 0=(.slice a0 ae.length ac)∧f 1=(.int .i64 ab)∧f 5=(.int .i64 aa)∧f 1000000=(enc [])) N ⟨(Zo col),0,N,rfl,hm,ad,rfl,rfl,rfl,rfl⟩ ?_;clear hm;intro n f aq hI;obtain ⟨ak,aa,af,hn,hm,ad,ar,au,av,aw⟩:=hI;subst hn;refine .lD 0 ar<|.lD 1 au<|.lD 5 av<|.lD 1000000 aw ?_;replace h0:=h0.keep (Zp.start col w0)
 cases af with
 | zero=>rw [Zbh.eq_1] at hm;cases hm
 | succ af=>
  rw [Zbh.eq_2] at hm;refine Zb<|Zb<|Zd<|Zg rfl<|Zk rfl<|lV _ (Zs underlying56 rfl)<|lV _ (Z4 _ _ rfl rfl)<|Zc ?_;refine Zy _ rfl (fun hb=>?_) (fun hb=>?_)
  ·rw [if_pos hb] at hm;refine Zr<|Zb<|Z0<|Zb<|Zd<|Zk rfl<|Zg rfl<|Zg rfl<|Zg rfl<|lV _ (Z5 _ _ rfl rfl) ?_;obtain ⟨ag,hm⟩:=Xd hm;have ax:=((h0.ks ad).take (Int.toNat (i64.wrap (aa+ab)))).drop (sz:=3) rfl (Int.toNat aa);refine lv (v:=.slice (if ac=(Int.toNat aa) then a0 else a0.map (·.add ((Int.toNat aa) * 3))) ((Int.toNat (i64.wrap (aa+ab))) - (Int.toNat aa)) (ac - (Int.toNat aa))) rfl rfl (Zr1 underlying56 sizeOf47 rfl rfl rfl ag.1 ag.2.1 (by have:=(h0.ks ad).1.2;have:=ag.2.2;omega)) ?_;generalize (if ac=(Int.toNat aa) then a0 else a0.map (·.add ((Int.toNat aa) * 3)))=al at *;refine .ld (d:=18) (v:=(.slice al (((ae.take (Int.toNat (i64.wrap (aa+ab)))).drop (Int.toNat aa)).length) (ac - (Int.toNat aa)))) (congrArg (fun n=>Value.slice al n (ac - (Int.toNat aa))) (show (Int.toNat (i64.wrap (aa+ab))) - (Int.toNat aa)=((ae.take (Int.toNat (i64.wrap (aa+ab)))).drop (Int.toNat aa)).length by rw [List.length_drop,List.length_take];have:=ag.2;omega)) ?_;obtain ⟨ah,ay,hm⟩:=bZ hm;refine lc rfl rfl (Z7 call154 rfl) (Zvb N 1 2 ak _ al (ac - (Int.toNat aa)) ((ae.take (Int.toNat (i64.wrap (aa+ab)))).drop (Int.toNat aa)) ax ah ay) ?_;rintro _ bh ⟨az,a1,a2,a3,a4,rfl,a5,am,an⟩;refine ⟨_,rfl,?_⟩;obtain ⟨ai,a6,hm⟩:=bZ hm;refine lc rfl rfl (Zie call242) (Znq N 3 4 az _ ai a6) ?_;rintro _ a7 ⟨aj,a8,a9,ba,bb,rfl,ao,bc,bd⟩;refine ⟨_,rfl,?_⟩;obtain ⟨be,bf,hm⟩:=bZ hm;replace am:=am.gr ao;replace an:=an.gr ao;refine lc rfl rfl (Xa call94 rfl rfl) (Znm N (Z3 4 (Z3 3 (Z3 2 (Z3 1 aj)))) _ a1 a2 a3 a4 ((ah.1.1,ah.1.2),ah.2) a8 a9 ba bb ((ai.1.1,ai.1.2),ai.2) ((((am.toSlF (Z2.int .u32)).froz 2).froz 3).froz 4) ((((an.froz 1 (by decide)).toSlF (Z2.int .u32)).froz 3).froz 4) ((((bc.froz 1 (by decide)).froz 2 (by decide)).toSlF (Z2.int .u32)).froz 4) ((((bd.froz 1 (by decide)).froz 2 (by decide)).froz 3 (by decide)).toSlF (Z2.int .u32)) be bf) ?_;rintro _ bg ⟨rfl,ap⟩;refine ⟨_,rfl,?_⟩;replace ap:Zf aj a7 aj bg:=.of_below ap;refine lV _ (Yk _ _ rfl rfl)<|Zc ?_;replace ad:=((ad.grow a5).grow ao).grow ap;refine Zy _ rfl (fun hb=>?_) (fun hb=>?_)
   ·rw [if_pos hb] at hm;refine Zb<|Zd<|Xc rfl<|Zc<|Zq ?_;cases hm;exact ⟨rfl,rfl,ad.below⟩
   rw [if_neg (Zz hb)] at hm;refine Zr<|Zd<|Zg rfl<|Zg rfl<|lV _ (Z5 _ _ rfl rfl)<|Zj rfl<|Zc ?_;exact ⟨af,by omega,⟨aj,(i64.wrap (aa+ab)),af,rfl,hm,ad,rfl,rfl,rfl,rfl⟩⟩
  rw [if_neg (Zz hb)] at hm;refine Xl (Xk ?_);refine Zb<|Zd<|Xc rfl<|Zc<|Zq ?_;cases hm;exact ⟨rfl,rfl,ad.below⟩
def Zf3 (aa:Int) (kk_L2:(Bool→Int→Option Int)) (ab:Bool):Option Int:=
  kk_L2 ab (i64.wrap (aa+1))
def Zab (N:Nat) (ad:(ByteArray×List ByteArray×(List (List ByteArray))×(List (List Int))×(List (List ((Bool×List Int)×List Int))))) (ab:Int) (kk_L1:(Int→Option Int)):Nat→Bool→Int→Option Int
  | 0,_,_=>none
  | ae+1,af,aa=>(Zv ad.2.2.1 ab).bind fun ac=>if (decide (aa<(ac.length:Int)))=true then (if af=true then (Zf3 aa (Zab N ad ab kk_L1 ae) true) else ((Zv ac aa).bind fun ag=>(Zhz N ac ag).bind fun ah=>Zf3 aa (Zab N ad ab kk_L1 ae) (decide (ah<aa)))) else (if af=true then (some 40) else (if (decide ((ac.length:Int)=0))=true then (some 43) else (kk_L1 (i64.wrap (ab+1)))))
termination_by structural x=>x
def Zc1 (N:Nat) (ad:(ByteArray×List ByteArray×(List (List ByteArray))×(List (List Int))×(List (List ((Bool×List Int)×List Int))))) (aa:Int) (kk_L4:(Int→Option Int)):Nat→Int→Option Int
  | 0,_=>none
  | af+1,ab=>(Zv ad.2.2.2.2 aa).bind fun ae=>if (decide (ab<(ae.length:Int)))=true then ((Zv ae ab).bind fun ac=>(Zf6 N ((ac.1.1,ac.1.2),ac.2)).bind fun ag=>if ag=true then (some 45) else ((Zc1 N ad aa kk_L4 af) (i64.wrap (ab+1)))) else (kk_L4 (i64.wrap (aa+1)))
termination_by structural x=>x
def Zad (N:Nat) (ab:(ByteArray×List ByteArray×(List (List ByteArray))×(List (List Int))×(List (List ((Bool×List Int)×List Int))))) (ac:List Int):Nat→Int→Option Int
  | 0,_=>none
  | ad+1,aa=>if (decide (aa<(ab.2.1.length:Int)))=true then ((Zv ab.2.2.2.2 aa).bind fun ae=>(Zv ac aa).bind fun af=>(Zjw N ae af).bind fun ag=>if (!ag)=true then (some 46) else ((Zad N ab ac ad) (i64.wrap (aa+1)))) else (some 0)
termination_by structural x=>x
def Qk (N:Nat) (aa:(ByteArray×List ByteArray×(List (List ByteArray))×(List (List Int))×(List (List ((Bool×List Int)×List Int))))) (ab:List Int):Nat→Int→Option Int
  | 0,_=>none
  | ad+1,ac=>if (decide (ac<(aa.2.1.length:Int)))=true then (Zc1 N aa ac (Qk N aa ab ad) N 0) else (Zad N aa ab N 0)
termination_by structural x=>x
def Zac (N:Nat) (aa:(ByteArray×List ByteArray×(List (List ByteArray))×(List (List Int))×(List (List ((Bool×List Int)×List Int))))) (ac:List Int):Nat→Int→Option Int
  | 0,_=>none
  | af+1,ab=>if (decide (ab<(aa.2.1.length:Int)))=true then ((Zv aa.2.2.2.1 ab).bind fun ag=>(Zhy N ag ac).bind fun ad=>(Zv ac ab).bind fun ae=>(Zh0 ad ae).bind fun ah=>if ah=true then (some 4) else ((Zv aa.2.2.2.2 ab).bind fun ai=>if (!decide ((ai.length:Int)=(i64.wrap (ad * ae))))=true then (some 60) else ((Zac N aa ac af) (i64.wrap (ab+1))))) else (Qk N aa ac N 0)
termination_by structural x=>x
def Tz (N:Nat) (aa:(ByteArray×List ByteArray×(List (List ByteArray))×(List (List Int))×(List (List ((Bool×List Int)×List Int))))):Nat→Int→Option Int
  | 0,_=>none
  | ad+1,ab=>if (decide (ab<(aa.2.1.length:Int)))=true then ((Zv aa.2.1 ab).bind fun ae=>(Zhz N aa.2.1 ae).bind fun af=>Zab N aa ab (Tz N aa ad) N (decide (af<ab)) 0) else ((So N aa.2.2.2.1).bind fun ac=>if (!decide (ac=0))=true then (some ac) else ((Zc4 N (aa.1,aa.2.1,aa.2.2.1,aa.2.2.2.1,aa.2.2.2.2)).bind fun ag=>Zac N aa ag N 0))
termination_by structural x=>x
def Zbg (N:Nat) (aa:(ByteArray×List ByteArray×(List (List ByteArray))×(List (List Int))×(List (List ((Bool×List Int)×List Int))))) (ab:Bool):Option Int:=
  if ab=true then (some 60) else (if (decide (1024<(aa.2.1.length:Int)))=true then (some 4) else (Tz N aa N 0))
def Zf2 (N:Nat) (aa:(ByteArray×List ByteArray×(List (List ByteArray))×(List (List Int))×(List (List ((Bool×List Int)×List Int))))):Option Int:=
  if (!decide ((aa.2.2.1.length:Int)=(aa.2.1.length:Int)))=true then (Zbg N aa true) else (if (!decide ((aa.2.2.2.1.length:Int)=(aa.2.1.length:Int)))=true then (Zbg N aa true) else (Zbg N aa (!decide ((aa.2.2.2.2.length:Int)=(aa.2.1.length:Int)))))
theorem Zvh (N:Nat) (col:Zh) (w0:World) (ar:Option Addr) (au:Nat) (ax:Option Addr) (ay:Nat) (av:Option Addr) (aw:Nat) (az:Option Addr) (a0:Nat) (aa:(ByteArray×List ByteArray×(List (List ByteArray))×(List (List Int))×(List (List ((Bool×List Int)×List Int))))) (bh:Sl Za.str col w0 ar au aa.2.1) (a1:Sl (Za.slice Za.str) col w0 ax ay aa.2.2.1) (bi:Sl (Za.slice (Za.int .i64)) col w0 av aw aa.2.2.2.1) (a2:Sl (Za.slice (Za.pair (Za.pair Za.bool (Za.slice (Za.int .u32))) (Za.slice (Za.int .u32)))) col w0 az a0 aa.2.2.2.2) (r:Int) (hm:Zf2 N aa=some r):
    Calls Tryz.prog 79 #[(.agg #[.string aa.1,.slice ar aa.2.1.length au,.slice ax aa.2.2.1.length ay,.slice av aa.2.2.2.1.length aw,.slice az aa.2.2.2.2.length a0])] w0 (fun e w'=>e= .returned ((.int .i64 r))∧Below w0.heap.size w0 w'):=by
 refine Xv 2 (m:=175) func79 rfl rfl rfl rfl rfl ?_;rw [Zf2.eq_1] at hm;have ab:=St.start col w0;refine Zb<|Zd<|X3 (col:=(Zo col)) 1 rfl ?_;intro ae es ce cx ac;refine Zj rfl<|Zc<|Zb<|Zd<|Z9 ae 1 underlying27 rfl sizeOf22 isAgg22 ac rfl<|lV _ (Zs underlying22 rfl)<|Zj rfl<|Zc<|Zb<|Zb ?_;replace bh:=bh.keep (Zp.start col w0);replace a1:=a1.keep (Zp.start col w0);replace bi:=bi.keep (Zp.start col w0);replace a2:=a2.keep (Zp.start col w0);replace ab:=ab.grow cx;refine Wp.cut (fun f cf=>∃ (bw:Zh) (cg:Bool),Zbg N aa cg=some r∧St w0 (Zo col) bw cf∧Zt 27 1 bw cf ae #[.string aa.1,.slice ar aa.2.1.length au,.slice ax aa.2.2.1.length ay,.slice av aa.2.2.2.1.length aw,.slice az aa.2.2.2.2.length a0]∧f 1=(.pointer (some ⟨ae,0,none⟩))∧f 3=(.int .i64 aa.2.1.length)∧f 38=(.bool cg)∧f 1000000=(enc [])) ?_ ?_
 ·intro f cf hJ;obtain ⟨bw,cg,hm,ab,ac,am,an,cy,ao⟩:=hJ;rw [Zbg.eq_1] at hm;refine .lD 1 am<|.lD 3 an<|.lD 38 cy<|.lD 1000000 ao ?_;refine Zy _ rfl (fun hb=>?_) (fun hb=>?_)
  ·rw [if_pos hb] at hm;refine Zb<|Zd<|Zj rfl<|Zc<|Zq ?_;cases hm;exact ⟨rfl,rfl,ab.below⟩
  rw [if_neg (Zz hb)] at hm;refine Zr<|Zb<|Zb<|Zd<|Zg rfl<|lV _ (Wa _ _ rfl rfl)<|Zc ?_;refine Zy _ rfl (fun hb=>?_) (fun hb=>?_)
  ·rw [if_pos hb] at hm;refine Zb<|Zd<|Zj rfl<|Zc<|Zq ?_;cases hm;exact ⟨rfl,rfl,ab.below⟩
  rw [if_neg (Zz hb)] at hm;refine Zr<|Zb<|Zb<|Zd<|Zj rfl<|Zc<|Z0<|Xi (fun n f bn=>∃ (ai:Zh) (a3:Int) (a4:Nat),a4=n∧Tz N aa a4 a3=some r∧St w0 (Zo col) ai bn∧Zt 27 1 ai bn ae #[.string aa.1,.slice ar aa.2.1.length au,.slice ax aa.2.2.1.length ay,.slice av aa.2.2.2.1.length aw,.slice az aa.2.2.2.2.length a0]∧f 1=(.pointer (some ⟨ae,0,none⟩))∧f 3=(.int .i64 aa.2.1.length)∧f 4=(.int .i64 a3)∧f 1000000=(enc [])) N ⟨bw,0,N,rfl,hm,ab,ac,rfl,rfl,rfl,rfl⟩ ?_;clear hm;intro n f bn hI;obtain ⟨ai,a3,a4,hn,hm,ab,ac,am,an,bo,ao⟩:=hI;subst hn;refine .lD 1 am<|.lD 3 an<|.lD 4 bo<|.lD 1000000 ao ?_
  cases a4 with
  | zero=>rw [Tz.eq_1] at hm;cases hm
  | succ a4=>
   rw [Tz.eq_2] at hm;refine Zb<|Zb<|Zd<|Zg rfl<|Zg rfl<|lV _ (Z4 _ _ rfl rfl)<|Zc ?_;refine Zy _ rfl (fun hb=>?_) (fun hb=>?_)
   ·rw [if_pos hb] at hm;refine Zr<|Zb<|Z0<|Zb<|W5 (col:=ai) (by kernel_rfl) (by kernel_rfl)<|qv (v:=(.pointer ((some (⟨ae,0,none⟩:Addr)).map (·.add 1)))) rfl (fun _ hC=>Xn (sz:=1) (off:=1) underlying27 rfl sizeOf22 (by decide) rfl rfl ⟨_,_,rfl⟩) ?_;refine qv rfl (fun _ hC=>Zn isAgg22 rfl (((ac.atN).nth (q:=1) rfl).gr (hC.bl ai))) ?_;refine qv (v:=(.pointer ((some (⟨ae,0,none⟩:Addr)).map (·.add 1)))) rfl (fun _ hC=>Xn (sz:=1) (off:=1) underlying27 rfl sizeOf22 (by decide) rfl rfl ⟨_,_,rfl⟩) ?_;refine qv rfl (fun _ hC=>Zn isAgg22 rfl (((ac.atN).nth (q:=1) rfl).gr (hC.bl ai))) ?_;refine qv rfl (fun _ hC=>Xp rfl) ?_;obtain ⟨cz,bx,hm⟩:=bZ hm;refine qv rfl (fun _ hC=>Zx underlying22 sizeOf9 rfl rfl (Zi bx).1 (Zi bx).2.1 ((bh.ks ab).addr bx)) ?_;refine qv rfl (fun _ hC=>Zn isAgg9 rfl (((bh.ks ab).gr (hC.bl ai)).atStr bx)) ?_;obtain ⟨ch,c0,hm⟩:=bZ hm;refine qc (v:=(.int .i64 ch)) rfl (fun _ hC=>⟨_,_,Xa call192 rfl rfl,(Znp N ai _ ar au aa.2.1 cz ((bh.ks ab).gr (hC.bl ai)) ch c0).mono fun _ _ h=>⟨h.1,hC.trans (.of_below h.2)⟩⟩) ?_;refine qv rfl (fun _ hC=>Xp rfl) ?_;refine qv rfl (fun _ hC=>Z4 _ _ rfl rfl) ?_;refine qv rfl (fun _ hC=>Zbs rfl) ?_;refine Y1 ?_;intro c1 hC;replace hC:Zf ai bn ai c1:=.of_below hC.below;refine Zb<|Zb<|Zd<|Zj rfl<|Zc<|Z0 ?_;replace ac:=ac.gr hC;replace ab:=ab.grow hC;refine Xi (fun n f bp=>∃ (ag:Zh) (bz:Bool) (a8:Int) (a9:Nat),a9=n∧Zab N aa a3 (Tz N aa a4) a9 bz a8=some r∧St w0 (Zo col) ag bp∧Zt 27 1 ag bp ae #[.string aa.1,.slice ar aa.2.1.length au,.slice ax aa.2.2.1.length ay,.slice av aa.2.2.2.1.length aw,.slice az aa.2.2.2.2.length a0]∧f 1=(.pointer (some ⟨ae,0,none⟩))∧f 3=(.int .i64 aa.2.1.length)∧f 4=(.int .i64 a3)∧f 5=(.bool bz)∧f 6=(.int .i64 a8)∧f 1000000=(enc [])) N ⟨ai,(decide (ch<a3)),0,N,rfl,hm,ab,ac,rfl,rfl,rfl,rfl,rfl,rfl⟩ ?_;clear hm;intro n f bp hI;obtain ⟨ag,bz,a8,a9,hn,hm,ab,ac,am,an,bo,ci,cj,ao⟩:=hI;subst hn;refine .lD 1 am<|.lD 3 an<|.lD 4 bo<|.lD 5 ci<|.lD 6 cj<|.lD 1000000 ao ?_
    cases a9 with
    | zero=>rw [Zab.eq_1] at hm;cases hm
    | succ a9=>
     rw [Zab.eq_2] at hm;refine Zb<|Zb<|Zd<|Zg rfl<|Z9 ae 2 underlying27 rfl sizeOf23 isAgg23 ac rfl<|Zg rfl ?_;obtain ⟨c2,aj,hm⟩:=bZ hm;refine lV _ (Zx underlying23 sizeOf22 rfl rfl (Zi aj).1 (Zi aj).2.1 ((a1.ks ab).addr aj)) ?_;obtain ⟨_,c3,c4⟩:=(a1.ks ab).atN aj;obtain ⟨⟨et,eu,rfl,ev⟩,_⟩:=c3;refine lV _ (Zn isAgg22 rfl c4.one)<|lV _ (Zs underlying22 rfl)<|lV _ (Z4 _ _ rfl rfl)<|Zc ?_;refine Zy _ rfl (fun hb=>?_) (fun hb=>?_)
     ·rw [if_pos hb] at hm;refine Zr<|Zb ?_;refine Wp.cut (fun f ck=>∃ (b0:Zh) (b1:Bool),Zf3 a8 (Zab N aa a3 (Tz N aa a4) a9) b1=some r∧St w0 (Zo col) b0 ck∧Zt 27 1 b0 ck ae #[.string aa.1,.slice ar aa.2.1.length au,.slice ax aa.2.2.1.length ay,.slice av aa.2.2.2.1.length aw,.slice az aa.2.2.2.2.length a0]∧f 1=(.pointer (some ⟨ae,0,none⟩))∧f 3=(.int .i64 aa.2.1.length)∧f 4=(.int .i64 a3)∧f 5=(.bool b1)∧f 6=(.int .i64 a8)∧f 1000000=(enc [])) ?_ ?_
      ·intro f ck hJ;obtain ⟨b0,b1,hm,ab,ac,am,an,bo,ci,cj,ao⟩:=hJ;rw [Zf3.eq_1] at hm;refine .lD 1 am<|.lD 3 an<|.lD 4 bo<|.lD 5 ci<|.lD 6 cj<|.lD 1000000 ao<|Zd<|Zg rfl<|lV _ (Z5 _ _ rfl rfl)<|Zj rfl<|Zc ?_;exact ⟨a9,by omega,⟨b0,b1,(i64.wrap (a8+1)),a9,rfl,hm,ab,ac,rfl,rfl,rfl,rfl,rfl,rfl⟩⟩
      refine Z0<|W5 (col:=ag) (by kernel_rfl) (by kernel_rfl)<|qv rfl (fun _ hC=>W4 rfl) ?_;refine qv rfl (fun _ hC=>W4 rfl) ?_;by_cases ad:bz=true
      ·rw [if_pos ad] at hm;refine qP 67 rfl (gq ad)<|qP 67 rfl (gq ad)<|qP 67 rfl (gq ad)<|qP 67 rfl (gq ad)<|qP 67 rfl (gq ad)<|qP 67 rfl (gq ad)<|qP 67 rfl (gq ad)<|qP 67 rfl (gq ad)<|qP 67 rfl (gq ad)<|qP 67 rfl (gq ad)<|qP 67 rfl (gq ad)<|qP 67 rfl (gq ad)<|qP 67 rfl (gq ad)<|qP 67 rfl (gq ad)<|qP 67 rfl (gq ad)<|qP 67 rfl (gq ad)<|qv (v:=(.bool true)) rfl (fun _ hC=>Xm (congrArg Value.bool ad) rfl) ?_;refine qv rfl (fun _ hC=>Zbs rfl) ?_;refine Y1 ?_;intro c5 hC;replace hC:Zf ag bp ag c5:=.of_below hC.below;replace ac:=ac.gr hC;replace ab:=ab.grow hC;exact ⟨ag,true,hm,ab,ac,rfl,rfl,rfl,rfl,rfl,rfl⟩
      rw [if_neg ad] at hm;replace ad:=Bool.eq_false_iff.2 ad;refine qG 67 rfl (gq ad)<|qv (v:=(.pointer ((some (⟨ae,0,none⟩:Addr)).map (·.add 2)))) rfl (fun _ hC=>Xn (sz:=1) (off:=2) underlying27 rfl sizeOf23 (by decide) rfl rfl ⟨_,_,rfl⟩) ?_;refine qG 67 rfl (gq ad)<|qv rfl (fun _ hC=>Zn isAgg23 rfl (((ac.atN).nth (q:=2) rfl).gr (hC.bl ag))) ?_;refine qG 67 rfl (gq ad)<|qv rfl (fun _ hC=>Xp rfl) ?_;refine qG 67 rfl (gq ad) ?_;refine qv rfl (fun _ hC=>Zx underlying23 sizeOf22 rfl rfl (Zi aj).1 (Zi aj).2.1 ((a1.ks ab).addr aj)) ?_;refine qG 67 rfl (gq ad) ?_;obtain ⟨_,c6,c7⟩:=(a1.ks ab).atN aj;obtain ⟨⟨c8,c9,rfl,da⟩,_⟩:=c6;refine qv rfl (fun _ hC=>Zn isAgg22 rfl (c7.one.gr (hC.bl ag))) ?_;refine qG 67 rfl (gq ad)<|qv (v:=(.pointer ((some (⟨ae,0,none⟩:Addr)).map (·.add 2)))) rfl (fun _ hC=>Xn (sz:=1) (off:=2) underlying27 rfl sizeOf23 (by decide) rfl rfl ⟨_,_,rfl⟩) ?_;refine qG 67 rfl (gq ad)<|qv rfl (fun _ hC=>Zn isAgg23 rfl (((ac.atN).nth (q:=2) rfl).gr (hC.bl ag))) ?_;refine qG 67 rfl (gq ad)<|qv rfl (fun _ hC=>Xp rfl) ?_;refine qG 67 rfl (gq ad) ?_;refine qv rfl (fun _ hC=>Zx underlying23 sizeOf22 rfl rfl (Zi aj).1 (Zi aj).2.1 ((a1.ks ab).addr aj)) ?_;refine qG 67 rfl (gq ad) ?_;obtain ⟨_,db,dc⟩:=(a1.ks ab).atN aj;obtain ⟨⟨ew,ex,rfl,cm⟩,_⟩:=db;refine qv rfl (fun _ hC=>Zn isAgg22 rfl (dc.one.gr (hC.bl ag))) ?_;refine qG 67 rfl (gq ad)<|qv rfl (fun _ hC=>Xp rfl) ?_;refine qG 67 rfl (gq ad) ?_;obtain ⟨dd,b2,hm⟩:=bZ hm;refine qv rfl (fun _ hC=>Zx underlying22 sizeOf9 rfl rfl (Zi b2).1 (Zi b2).2.1 (cm.addr b2)) ?_;refine qG 67 rfl (gq ad)<|qv rfl (fun _ hC=>Zn isAgg9 rfl ((cm.gr (hC.bl ag)).atStr b2)) ?_;refine qG 67 rfl (gq ad) ?_;obtain ⟨b3,de,hm⟩:=bZ hm;refine qc (v:=(.int .i64 b3)) rfl (fun _ hC=>⟨_,_,Xa call192 rfl rfl,(Znp N ag _ c8 c9 c2 dd (da.gr (hC.bl ag)) b3 de).mono fun _ _ h=>⟨h.1,hC.trans (.of_below h.2)⟩⟩) ?_;refine qG 67 rfl (gq ad)<|qv rfl (fun _ hC=>Xp rfl) ?_;refine qG 67 rfl (gq ad)<|qv rfl (fun _ hC=>Z4 _ _ rfl rfl) ?_;refine qv (v:=(.bool (decide (b3<a8)))) rfl (fun _ hC=>Xr (congrArg Value.bool ad) rfl) ?_;refine qv rfl (fun _ hC=>Zbs rfl) ?_;refine Y1 ?_;intro df hC;replace hC:Zf ag bp ag df:=.of_below hC.below;replace ac:=ac.gr hC;replace ab:=ab.grow hC;exact ⟨ag,(decide (b3<a8)),hm,ab,ac,rfl,rfl,rfl,rfl,rfl,rfl⟩
     rw [if_neg (Zz hb)] at hm;refine Xl (Xk ?_);refine Zb<|Zb<|Zd<|Xf rfl<|Zc ?_;refine Zy _ rfl (fun hb=>?_) (fun hb=>?_)
     ·rw [if_pos hb] at hm;refine Zb<|Zd<|Zj rfl<|Zc<|Zq ?_;cases hm;exact ⟨rfl,rfl,ab.below⟩
     rw [if_neg (Zz hb)] at hm;refine Zr<|Zb<|Zd<|Z9 ae 2 underlying27 rfl sizeOf23 isAgg23 ac rfl<|Zg rfl ?_;refine lV _ (Zx underlying23 sizeOf22 rfl rfl (Zi aj).1 (Zi aj).2.1 ((a1.ks ab).addr aj)) ?_;obtain ⟨_,dg,dh⟩:=(a1.ks ab).atN aj;obtain ⟨⟨ey,ez,rfl,e0⟩,_⟩:=dg;refine lV _ (Zn isAgg22 rfl dh.one)<|lV _ (Zs underlying22 rfl)<|lV _ (Y9 _ _ rfl rfl)<|Zc ?_;refine Zy _ rfl (fun hb=>?_) (fun hb=>?_)
     ·rw [if_pos hb] at hm;refine Zb<|Zd<|Zj rfl<|Zc<|Zq ?_;cases hm;exact ⟨rfl,rfl,ab.below⟩
     rw [if_neg (Zz hb)] at hm;refine Zr<|Zd<|Zg rfl<|lV _ (Z5 _ _ rfl rfl)<|Zj rfl<|Zc ?_;exact ⟨a4,by omega,⟨ag,(i64.wrap (a3+1)),a4,rfl,hm,ab,ac,rfl,rfl,rfl,rfl⟩⟩
   rw [if_neg (Zz hb)] at hm;refine Xl (Xk ?_);refine Zb<|Zd<|Z9 ae 3 underlying27 rfl sizeOf24 isAgg24 ac rfl ?_;obtain ⟨di,dj,hm⟩:=bZ hm;refine lc rfl rfl (Z7 call193 rfl) (Zvd N ai _ av aw aa.2.2.2.1 (bi.ks ab) di dj) ?_;rintro _ dk ⟨rfl,b4⟩;refine ⟨_,rfl,?_⟩;replace b4:Zf ai bn ai dk:=.of_below b4;refine Zj rfl<|Zc<|Zb<|Zb<|Zd<|Zg rfl<|lV _ (Yk _ _ rfl rfl)<|Zc ?_;replace ac:=ac.gr b4;replace ab:=ab.grow b4;refine Zy _ rfl (fun hb=>?_) (fun hb=>?_)
   ·rw [if_pos hb] at hm;refine Zb<|Zd<|Zg rfl<|Zj rfl<|Zc<|Zq ?_;cases hm;exact ⟨rfl,rfl,ab.below⟩
   rw [if_neg (Zz hb)] at hm;refine Zr<|Zb<|Zd<|lV _ (Ye isAgg27 sizeOf27 ac) ?_;obtain ⟨ap,dl,hm⟩:=bZ hm;refine lc rfl rfl (Z7 call150 rfl) (Zvl N 2 ai _ ar au ax ay av aw az a0 (aa.1,aa.2.1,aa.2.2.1,aa.2.2.2.1,aa.2.2.2.2) (bh.ks ab) (a1.ks ab) (bi.ks ab) (a2.ks ab) ap dl) ?_;rintro _ e1 ⟨dm,a5,a6,rfl,cn,af⟩;refine ⟨_,rfl,?_⟩;refine Zu rfl<|Zc<|Zb<|Zb<|Zd<|Zj rfl<|Zc<|Z0 ?_;replace ac:=ac.gr cn;replace ab:=ab.grow cn;refine Xi (fun n f bq=>∃ (ah:Zh) (b5:Int) (bd:Nat),bd=n∧Zac N aa ap bd b5=some r∧St w0 (Zo col) ah bq∧Zt 27 1 ah bq ae #[.string aa.1,.slice ar aa.2.1.length au,.slice ax aa.2.2.1.length ay,.slice av aa.2.2.2.1.length aw,.slice az aa.2.2.2.2.length a0]∧Zl (Za.int .i64) 3 2 ah bq a5 a6 ap∧f 1=(.pointer (some ⟨ae,0,none⟩))∧f 3=(.int .i64 aa.2.1.length)∧f 8=(.slice a5 ap.length a6)∧f 9=(.int .i64 b5)∧f 1000000=(enc [])) N ⟨dm,0,N,rfl,hm,ab,ac,af,rfl,rfl,rfl,rfl,rfl⟩ ?_;clear hm;intro n f bq hI;obtain ⟨ah,b5,bd,hn,hm,ab,ac,af,am,an,be,dn,ao⟩:=hI;subst hn;refine .lD 1 am<|.lD 3 an<|.lD 8 be<|.lD 9 dn<|.lD 1000000 ao ?_
   cases bd with
   | zero=>rw [Zac.eq_1] at hm;cases hm
   | succ bd=>
    rw [Zac.eq_2] at hm;refine Zb<|Zb<|Zd<|Zg rfl<|Zg rfl<|lV _ (Z4 _ _ rfl rfl)<|Zc ?_;refine Zy _ rfl (fun hb=>?_) (fun hb=>?_)
    ·rw [if_pos hb] at hm;refine Zr<|Zb<|Z0<|Zb<|Zd<|Z9 ae 3 underlying27 rfl sizeOf24 isAgg24 ac rfl<|Zg rfl ?_;obtain ⟨dp,b6,hm⟩:=bZ hm;refine lV _ (Zx underlying24 sizeOf40 rfl rfl (Zi b6).1 (Zi b6).2.1 ((bi.ks ab).addr b6)) ?_;obtain ⟨_,dq,dr⟩:=(bi.ks ab).atN b6;obtain ⟨⟨ds,dt,rfl,du⟩,_⟩:=dq;refine lV _ (Zn isAgg40 rfl dr.one)<|Zk rfl ?_;obtain ⟨co,dv,hm⟩:=bZ hm;refine lc rfl rfl (Xa call194 rfl rfl) (Zvi N (Z3 2 ah) _ ds dt dp a5 a6 ap (du.froz 2) (af.toSlF (Z2.int .i64)) co dv) ?_;rintro _ cp ⟨rfl,br⟩;refine ⟨_,rfl,?_⟩;replace br:Zf ah bq ah cp:=.of_below br;refine Zj rfl<|Zc<|Zb<|Zd<|Zg rfl<|Zk rfl<|Zg rfl ?_;obtain ⟨dw,ba,hm⟩:=bZ hm;replace af:=af.gr br;refine lV _ (Zx underlying40 sizeOf3 rfl rfl (Zi ba).1 (Zi ba).2.1 (af.addr ba)) ?_;refine lV _ (Zn isAgg3 rfl (af.atInt ba)) ?_;obtain ⟨dx,dy,hm⟩:=bZ hm;refine lc rfl rfl (Xa call195 rfl rfl) (Zvk ah _ co dw dx dy) ?_;rintro _ cq ⟨rfl,bs⟩;refine ⟨_,rfl,?_⟩;replace bs:Zf ah cp ah cq:=.of_below bs;refine Xc rfl<|Zc<|Zb<|Zb<|Zd<|Xf rfl<|Zc ?_;replace ac:=(ac.gr br).gr bs;replace ab:=(ab.grow br).grow bs;replace af:=af.gr bs;refine Zy _ rfl (fun hb=>?_) (fun hb=>?_)
     ·rw [if_pos hb] at hm;refine Zb<|Zd<|Zj rfl<|Zc<|Zq ?_;cases hm;exact ⟨rfl,rfl,ab.below⟩
     rw [if_neg (Zz hb)] at hm;refine Zr<|Zb<|W5 (col:=ah) (by kernel_rfl) (by kernel_rfl)<|qv (v:=(.pointer ((some (⟨ae,0,none⟩:Addr)).map (·.add 4)))) rfl (fun _ hC=>Xn (sz:=1) (off:=4) underlying27 rfl sizeOf25 (by decide) rfl rfl ⟨_,_,rfl⟩) ?_;refine qv rfl (fun _ hC=>Zn isAgg25 rfl (((ac.atN).nth (q:=4) rfl).gr (hC.bl ah))) ?_;refine qv rfl (fun _ hC=>Xp rfl) ?_;obtain ⟨e2,b7,hm⟩:=bZ hm;refine qv rfl (fun _ hC=>Zx underlying25 sizeOf56 rfl rfl (Zi b7).1 (Zi b7).2.1 ((a2.ks ab).addr b7)) ?_;obtain ⟨_,dz,d0⟩:=(a2.ks ab).atN b7;obtain ⟨⟨e3,e4,rfl,e5⟩,_⟩:=dz;refine qv rfl (fun _ hC=>Zn isAgg56 rfl (d0.one.gr (hC.bl ah))) ?_;refine qv rfl (fun _ hC=>Zs underlying56 rfl) ?_;refine qv rfl (fun _ hC=>Xp rfl) ?_;refine qv rfl (fun _ hC=>Yr rfl) ?_;refine qv rfl (fun _ hC=>Xp rfl) ?_;refine qv rfl (fun _ hC=>Zx underlying40 sizeOf3 rfl rfl (Zi ba).1 (Zi ba).2.1 (af.addr ba)) ?_;refine qv rfl (fun _ hC=>Zn isAgg3 rfl ((af.gr (hC.bl ah)).atInt ba)) ?_;refine qv rfl (fun _ hC=>Ur _ _ rfl rfl) ?_;refine qv rfl (fun _ hC=>Yk _ _ rfl rfl) ?_;refine Y1 ?_;intro d1 hC;replace hC:Zf ah cq ah d1:=.of_below hC.below;replace af:=af.gr hC;replace ac:=ac.gr hC;replace ab:=ab.grow hC;refine Zy _ rfl (fun hb=>?_) (fun hb=>?_)
     ·rw [if_pos hb] at hm;refine Zb<|Zd<|Zj rfl<|Zc<|Zq ?_;cases hm;exact ⟨rfl,rfl,ab.below⟩
     rw [if_neg (Zz hb)] at hm;refine Zr<|Zd<|Zg rfl<|lV _ (Z5 _ _ rfl rfl)<|Zj rfl<|Zc ?_;exact ⟨bd,by omega,⟨ah,(i64.wrap (b5+1)),bd,rfl,hm,ab,ac,af,rfl,rfl,rfl,rfl,rfl⟩⟩
    rw [if_neg (Zz hb)] at hm;refine Xl (Xk ?_);refine Zb<|Zb<|Zd<|Zj rfl<|Zc<|Z0<|Xi (fun n f b8=>∃ (bj:Zh) (bk:Int) (bb:Nat),bb=n∧Qk N aa ap bb bk=some r∧St w0 (Zo col) bj b8∧Zt 27 1 bj b8 ae #[.string aa.1,.slice ar aa.2.1.length au,.slice ax aa.2.2.1.length ay,.slice av aa.2.2.2.1.length aw,.slice az aa.2.2.2.2.length a0]∧Zl (Za.int .i64) 3 2 bj b8 a5 a6 ap∧f 1=(.pointer (some ⟨ae,0,none⟩))∧f 12=(.int .i64 bk)∧f 3=(.int .i64 aa.2.1.length)∧f 8=(.slice a5 ap.length a6)∧f 1000000=(enc [])) N ⟨ah,0,N,rfl,hm,ab,ac,af,rfl,rfl,rfl,rfl,rfl⟩ ?_;clear hm;intro n f b8 hI;obtain ⟨bj,bk,bb,hn,hm,ab,ac,af,am,cl,an,be,ao⟩:=hI;subst hn;refine .lD 1 am<|.lD 12 cl<|.lD 3 an<|.lD 8 be<|.lD 1000000 ao ?_
    cases bb with
    | zero=>rw [Qk.eq_1] at hm;cases hm
    | succ bb=>
     rw [Qk.eq_2] at hm;refine Zb<|Zb<|Zd<|Zg rfl<|Zg rfl<|lV _ (Z4 _ _ rfl rfl)<|Zc ?_;refine Zy _ rfl (fun hb=>?_) (fun hb=>?_)
     ·rw [if_pos hb] at hm;refine Zr<|Zb<|Z0<|Zb<|Zd<|Zj rfl<|Zc<|Z0<|Xi (fun n f bt=>∃ (a7:Zh) (b9:Int) (bf:Nat),bf=n∧Zc1 N aa bk (Qk N aa ap bb) bf b9=some r∧St w0 (Zo col) a7 bt∧Zt 27 1 a7 bt ae #[.string aa.1,.slice ar aa.2.1.length au,.slice ax aa.2.2.1.length ay,.slice av aa.2.2.2.1.length aw,.slice az aa.2.2.2.2.length a0]∧Zl (Za.int .i64) 3 2 a7 bt a5 a6 ap∧f 1=(.pointer (some ⟨ae,0,none⟩))∧f 12=(.int .i64 bk)∧f 13=(.int .i64 b9)∧f 3=(.int .i64 aa.2.1.length)∧f 8=(.slice a5 ap.length a6)∧f 1000000=(enc [])) N ⟨bj,0,N,rfl,hm,ab,ac,af,rfl,rfl,rfl,rfl,rfl,rfl⟩ ?_;clear hm;intro n f bt hI;obtain ⟨a7,b9,bf,hn,hm,ab,ac,af,am,cl,d2,an,be,ao⟩:=hI;subst hn;refine .lD 1 am<|.lD 12 cl<|.lD 13 d2<|.lD 3 an<|.lD 8 be<|.lD 1000000 ao ?_
      cases bf with
      | zero=>rw [Zc1.eq_1] at hm;cases hm
      | succ bf=>
       rw [Zc1.eq_2] at hm;refine Zb<|Zb<|Zd<|Zg rfl<|Z9 ae 4 underlying27 rfl sizeOf25 isAgg25 ac rfl<|Zg rfl ?_;obtain ⟨e6,bc,hm⟩:=bZ hm;refine lV _ (Zx underlying25 sizeOf56 rfl rfl (Zi bc).1 (Zi bc).2.1 ((a2.ks ab).addr bc)) ?_;obtain ⟨_,d3,d4⟩:=(a2.ks ab).atN bc;obtain ⟨⟨e7,e8,rfl,e9⟩,_⟩:=d3;refine lV _ (Zn isAgg56 rfl d4.one)<|lV _ (Zs underlying56 rfl)<|lV _ (Z4 _ _ rfl rfl)<|Zc ?_;refine Zy _ rfl (fun hb=>?_) (fun hb=>?_)
       ·rw [if_pos hb] at hm;refine Zr<|Zb<|Z0<|Zb<|Zd<|Z9 ae 4 underlying27 rfl sizeOf25 isAgg25 ac rfl<|Zg rfl ?_;refine lV _ (Zx underlying25 sizeOf56 rfl rfl (Zi bc).1 (Zi bc).2.1 ((a2.ks ab).addr bc)) ?_;obtain ⟨_,d5,d6⟩:=(a2.ks ab).atN bc;obtain ⟨⟨fa,fb,rfl,cr⟩,_⟩:=d5;refine lV _ (Zn isAgg56 rfl d6.one)<|Zg rfl ?_;obtain ⟨bm,ca,hm⟩:=bZ hm;refine lV _ (Zx underlying56 sizeOf47 rfl rfl (Zi ca).1 (Zi ca).2.1 (cr.addr ca)) ?_;obtain ⟨_,d7,d8⟩:=cr.atN ca;obtain ⟨_,_,rfl,d9,ea⟩:=Wu d7;obtain ⟨_,_,rfl,eb,ec⟩:=Wu d9;obtain ⟨rfl,_⟩:=eb;obtain ⟨⟨cs,ct,rfl,ed⟩,_⟩:=ec;obtain ⟨⟨cu,cv,rfl,ee⟩,_⟩:=ea;refine lV (.agg #[.bool bm.1.1,.slice cs bm.1.2.length ct,.slice cu bm.2.length cv]) (Wt isAgg47 sizeOf47 rfl rfl d8) ?_;obtain ⟨ef,eg,hm⟩:=bZ hm;refine lc rfl rfl (Z7 call196 rfl) (Zvj N a7 _ cs ct cu cv ((bm.1.1,bm.1.2),bm.2) ed ee ef eg) ?_;rintro _ eh ⟨rfl,bu⟩;refine ⟨_,rfl,?_⟩;replace bu:Zf a7 bt a7 eh:=.of_below bu;refine Xc rfl<|Zc<|Zb<|Zd<|Xf rfl<|Zc ?_;replace af:=af.gr bu;replace ac:=ac.gr bu;replace ab:=ab.grow bu;refine Zy _ rfl (fun hb=>?_) (fun hb=>?_)
        ·rw [if_pos hb] at hm;refine Zb<|Zd<|Zj rfl<|Zc<|Zq ?_;cases hm;exact ⟨rfl,rfl,ab.below⟩
        rw [if_neg (Zz hb)] at hm;refine Zr<|Zd<|Zg rfl<|lV _ (Z5 _ _ rfl rfl)<|Zj rfl<|Zc ?_;exact ⟨bf,by omega,⟨a7,(i64.wrap (b9+1)),bf,rfl,hm,ab,ac,af,rfl,rfl,rfl,rfl,rfl,rfl⟩⟩
       rw [if_neg (Zz hb)] at hm;refine Xl (Xk ?_);refine Zd<|Zg rfl<|lV _ (Z5 _ _ rfl rfl)<|Zj rfl<|Zc ?_;exact ⟨bb,by omega,⟨a7,(i64.wrap (bk+1)),bb,rfl,hm,ab,ac,af,rfl,rfl,rfl,rfl,rfl⟩⟩
     rw [if_neg (Zz hb)] at hm;refine Xl (Xk ?_);refine Zb<|Zb<|Zd<|Zj rfl<|Zc<|Z0<|Xi (fun n f bv=>∃ (aq:Zh) (cb:Int) (bg:Nat),bg=n∧Zad N aa ap bg cb=some r∧St w0 (Zo col) aq bv∧Zt 27 1 aq bv ae #[.string aa.1,.slice ar aa.2.1.length au,.slice ax aa.2.2.1.length ay,.slice av aa.2.2.2.1.length aw,.slice az aa.2.2.2.2.length a0]∧Zl (Za.int .i64) 3 2 aq bv a5 a6 ap∧f 1=(.pointer (some ⟨ae,0,none⟩))∧f 15=(.int .i64 cb)∧f 3=(.int .i64 aa.2.1.length)∧f 8=(.slice a5 ap.length a6)∧f 1000000=(enc [])) N ⟨bj,0,N,rfl,hm,ab,ac,af,rfl,rfl,rfl,rfl,rfl⟩ ?_;clear hm;intro n f bv hI;obtain ⟨aq,cb,bg,hn,hm,ab,ac,af,am,ei,an,be,ao⟩:=hI;subst hn;refine .lD 1 am<|.lD 15 ei<|.lD 3 an<|.lD 8 be<|.lD 1000000 ao ?_
     cases bg with
     | zero=>rw [Zad.eq_1] at hm;cases hm
     | succ bg=>
      rw [Zad.eq_2] at hm;refine Zb<|Zb<|Zd<|Zg rfl<|Zg rfl<|lV _ (Z4 _ _ rfl rfl)<|Zc ?_;refine Zy _ rfl (fun hb=>?_) (fun hb=>?_)
      ·rw [if_pos hb] at hm;refine Zr<|Zb<|Z0<|Zb<|W5 (col:=aq) (by kernel_rfl) (by kernel_rfl)<|qv (v:=(.pointer ((some (⟨ae,0,none⟩:Addr)).map (·.add 4)))) rfl (fun _ hC=>Xn (sz:=1) (off:=4) underlying27 rfl sizeOf25 (by decide) rfl rfl ⟨_,_,rfl⟩) ?_;refine qv rfl (fun _ hC=>Zn isAgg25 rfl (((ac.atN).nth (q:=4) rfl).gr (hC.bl aq))) ?_;refine qv rfl (fun _ hC=>Xp rfl) ?_;obtain ⟨ej,cc,hm⟩:=bZ hm;refine qv rfl (fun _ hC=>Zx underlying25 sizeOf56 rfl rfl (Zi cc).1 (Zi cc).2.1 ((a2.ks ab).addr cc)) ?_;obtain ⟨_,ek,el⟩:=(a2.ks ab).atN cc;obtain ⟨⟨em,en,rfl,eo⟩,_⟩:=ek;refine qv rfl (fun _ hC=>Zn isAgg56 rfl (el.one.gr (hC.bl aq))) ?_;refine qv rfl (fun _ hC=>Yr rfl) ?_;refine qv rfl (fun _ hC=>Xp rfl) ?_;obtain ⟨ep,cd,hm⟩:=bZ hm;refine qv rfl (fun _ hC=>Zx underlying40 sizeOf3 rfl rfl (Zi cd).1 (Zi cd).2.1 (af.addr cd)) ?_;refine qv rfl (fun _ hC=>Zn isAgg3 rfl ((af.gr (hC.bl aq)).atInt cd)) ?_;obtain ⟨cw,eq,hm⟩:=bZ hm;refine qc (v:=(.bool cw)) rfl (fun _ hC=>⟨_,_,Xa call197 rfl rfl,(Zvm N aq _ em en ej ep (eo.gr (hC.bl aq)) cw eq).mono fun _ _ h=>⟨h.1,hC.trans (.of_below h.2)⟩⟩) ?_;refine qv rfl (fun _ hC=>Zbs rfl) ?_;refine Y1 ?_;intro er hC;replace hC:Zf aq bv aq er:=.of_below hC.below;refine Zb<|Zd<|Xf rfl<|lV _ (V3 _ rfl)<|Zc ?_;replace af:=af.gr hC;replace ac:=ac.gr hC;replace ab:=ab.grow hC;refine Zy _ rfl (fun hb=>?_) (fun hb=>?_)
       ·rw [if_pos hb] at hm;refine Zb<|Zd<|Zj rfl<|Zc<|Zq ?_;cases hm;exact ⟨rfl,rfl,ab.below⟩
       rw [if_neg (Zz hb)] at hm;refine Zr<|Zd<|Zg rfl<|lV _ (Z5 _ _ rfl rfl)<|Zj rfl<|Zc ?_;exact ⟨bg,by omega,⟨aq,(i64.wrap (cb+1)),bg,rfl,hm,ab,ac,af,rfl,rfl,rfl,rfl,rfl⟩⟩
      rw [if_neg (Zz hb)] at hm;refine Xl (Xk ?_);refine Zb<|Zd<|Zj rfl<|Zc<|Zq ?_;cases hm;exact ⟨rfl,rfl,ab.below⟩
 refine Zd<|Z9 ae 2 underlying27 rfl sizeOf23 isAgg23 ac rfl<|lV _ (Zs underlying23 rfl)<|Zg rfl<|lV _ (Yk _ _ rfl rfl)<|Xf rfl ?_;by_cases ak:(!decide ((aa.2.2.1.length:Int)=(aa.2.1.length:Int)))=true
 ·rw [if_pos ak] at hm;refine lP 25 rfl (by rw [ak];rfl)<|lP 25 rfl (by rw [ak];rfl)<|lP 25 rfl (by rw [ak];rfl)<|lP 25 rfl (by rw [ak];rfl)<|lP 25 rfl (by rw [ak];rfl)<|lV (.bool true) (Xm (congrArg Value.bool ak) rfl)<|Xf rfl<|lP 32 rfl rfl<|lP 32 rfl rfl<|lP 32 rfl rfl<|lP 32 rfl rfl<|lP 32 rfl rfl<|lV (.bool true) (Xm rfl rfl)<|Zc ?_;exact ⟨ce,true,hm,ab,ac,rfl,rfl,rfl,rfl⟩
 rw [if_neg ak] at hm;replace ak:=Bool.eq_false_iff.2 ak;refine lG 25 rfl (by rw [ak];rfl)<|lF ae 3 underlying27 rfl sizeOf24<|lG 25 rfl (by rw [ak];rfl)<|lV _ (Zn isAgg24 rfl ((ac.atN).nth (q:=3) rfl))<|lG 25 rfl (by rw [ak];rfl)<|lV _ (Zs underlying24 rfl)<|lG 25 rfl (by rw [ak];rfl)<|Zg rfl<|lG 25 rfl (by rw [ak];rfl)<|lV _ (Yk _ _ rfl rfl)<|lV (.bool (!decide ((aa.2.2.2.1.length:Int)=(aa.2.1.length:Int)))) (Xr (congrArg Value.bool ak) rfl)<|Xf rfl ?_;by_cases al:(!decide ((aa.2.2.2.1.length:Int)=(aa.2.1.length:Int)))=true
 ·rw [if_pos al] at hm;refine lP 32 rfl (by rw [al];rfl)<|lP 32 rfl (by rw [al];rfl)<|lP 32 rfl (by rw [al];rfl)<|lP 32 rfl (by rw [al];rfl)<|lP 32 rfl (by rw [al];rfl)<|lV (.bool true) (Xm (congrArg Value.bool al) rfl)<|Zc ?_;exact ⟨ce,true,hm,ab,ac,rfl,rfl,rfl,rfl⟩
 rw [if_neg al] at hm;replace al:=Bool.eq_false_iff.2 al;refine lG 32 rfl (by rw [al];rfl)<|lF ae 4 underlying27 rfl sizeOf25<|lG 32 rfl (by rw [al];rfl)<|lV _ (Zn isAgg25 rfl ((ac.atN).nth (q:=4) rfl))<|lG 32 rfl (by rw [al];rfl)<|lV _ (Zs underlying25 rfl)<|lG 32 rfl (by rw [al];rfl)<|Zg rfl<|lG 32 rfl (by rw [al];rfl)<|lV _ (Yk _ _ rfl rfl)<|lV (.bool (!decide ((aa.2.2.2.2.length:Int)=(aa.2.1.length:Int)))) (Xr (congrArg Value.bool al) rfl)<|Zc ?_;exact ⟨ce,(!decide ((aa.2.2.2.2.length:Int)=(aa.2.1.length:Int))),hm,ab,ac,rfl,rfl,rfl,rfl⟩
abbrev W2:=ByteArray×List ByteArray×List (List ByteArray)×List (List Int)×List (List QV)
instance decMemB:∀ (s:ByteArray) (l:List ByteArray),Decidable (s ∈ l)
 | _,[]=>isFalse (by simp)
 | s,x :: l=>if h:s=x then isTrue (by rw [h];exact List.mem_cons_self) else match decMemB s l with
  | isTrue h2=>isTrue (List.mem_cons_of_mem _ h2)
  | isFalse h2=>isFalse (by rw [List.mem_cons];rintro (h3 | h3) <;> contradiction)
theorem Zqv {α:Type} (l:List α) (k:Nat) (hk:k<l.length):(l.take (k+1)).Nodup↔(l.take k).Nodup∧l[k] ∉ l.take k:=by
 rw [List.take_add_one,List.getElem?_eq_getElem hk,Option.toList_some,List.nodup_append]
 constructor
 ·rintro ⟨h1,_,h3⟩
  exact ⟨h1,fun hm=>h3 _ hm _ (by simp) rfl⟩
 ·rintro ⟨h1,h2⟩
  refine ⟨h1,by simp,fun a ha b hb e=>?_⟩
  rw [List.mem_singleton] at hb
  subst hb;subst e
  exact h2 ha
theorem Zos (N:Nat) (l:List ByteArray) (hl:l.length<4611686018427387904) (v:Nat) (hv:v<l.length):∀ (n k:Nat),k≤v→v<n+k→l[v] ∉ l.take k→∃ j:Nat,Zc3 N l l[v] n (k:Int)=some (j:Int)∧j≤v∧(j<v↔l[v] ∈ l.take v)
 | 0,k,h1,h2,_=>by omega
 | n+1,k,h1,h2,h3=>by
  have hk:k<l.length:=by omega
  rw [Zc3.eq_2,if_pos (decide_eq_true (by omega)),Xg hk,Option.bind_some]
  by_cases he:l[k]=l[v]
  ·rw [if_pos (decide_eq_true he)]
   refine ⟨k,rfl,h1,fun h=>?_,fun h=>?_⟩
   ·rw [← he]
    exact List.mem_iff_getElem.2 ⟨k,by rw [List.length_take];omega,by rw [List.getElem_take]⟩
   ·rcases Nat.lt_or_ge k v with h4 | h4
    ·exact h4
    ·have:k=v:=by omega
     subst this;exact absurd h h3
  ·have hkv:k<v:=by
    rcases Nat.lt_or_ge k v with h4 | h4
    ·exact h4
    ·have:k=v:=by omega
     subst this;exact absurd rfl he
   rw [if_neg (by rw [decide_eq_false he];decide),Z6 (by omega)]
   have:=Zos N l hl v hv n (k+1) (by omega) (by omega) (by
    rw [List.take_add_one,List.getElem?_eq_getElem hk,Option.toList_some,List.mem_append,List.mem_singleton]
    rintro (h | h)
    ·exact h3 h
    ·exact he h.symm)
   exact this
theorem Zot {N:Nat} {l:List ByteArray} (hl:l.length<4611686018427387904) {v:Nat} (hv:v<l.length) (hN:l.length<N):∃ j:Nat,Zhz N l l[v]=some (j:Int)∧(j<v↔l[v] ∈ l.take v):=by
 obtain ⟨j,h1,_,h2⟩:=Zos N l hl v hv N 0 (by omega) (by omega) (by simp)
 exact ⟨j,h1,h2⟩
theorem Zo9 (s:ByteArray):∀ (l:List ByteArray) (k:Nat),∃ j:Int,Zdo s l k=some j∧(0≤j↔s ∈ l)
 | [],k=>⟨-1,rfl,by simp⟩
 | x :: l,k=>by
  rw [Zdo.eq_2]
  by_cases h:s=x
  ·rw [if_pos (decide_eq_true h)];exact ⟨_,rfl,by simp [h]⟩
  ·rw [if_neg (by rw [decide_eq_false h];decide)]
   obtain ⟨j,h1,h2⟩:=Zo9 s l (k+1)
   exact ⟨j,h1,by rw [h2,List.mem_cons];simp [h]⟩
theorem Zn2 (s:ByteArray) (l:List ByteArray):Zgg l s=some (decide (s ∈ l)):=by
 obtain ⟨j,h1,h2⟩:=Zo9 s l 0
 rw [Zgg,Zj6,h1,Option.bind_some]
 congr 1
 exact decide_eq_decide.2 h2
theorem Zql:∀ (l:List ByteArray) (seen:List (ByteArray×Int)) (S:List ByteArray),S.Nodup→(∀ k,X4 seen k=if k ∈ S then some 1 else none)→Za3 l seen=some (!decide (S++l).Nodup)
 | [],seen,S,h1,h2=>by rw [Za3.eq_1,List.append_nil,decide_eq_true h1];rfl
 | x :: l,seen,S,h1,h2=>by
  rw [Za3.eq_2,h2 x]
  by_cases hx:x ∈ S
  ·rw [if_pos hx,if_pos (by decide),decide_eq_false]
   ·rfl
   intro h
   exact (List.nodup_append.1 h).2.2 x hx x List.mem_cons_self rfl
  ·rw [if_neg hx,if_neg (by decide),Option.bind_some,Zql l _ (S++[x]) (by
    rw [List.nodup_append]
    refine ⟨h1,by simp,fun a ha b hb e=>?_⟩
    rw [List.mem_singleton] at hb;subst hb;subst e;exact hx ha) (fun k=>by
    rw [Zh9,h2 k]
    by_cases hk:k=x
    ·subst hk;rw [if_pos rfl,if_pos (by simp)]
    ·rw [if_neg hk]
     by_cases hs:k ∈ S
     ·rw [if_pos hs,if_pos (by simp [hs])]
     ·rw [if_neg hs,if_neg (by simp [hs,hk])])]
   rw [List.append_assoc];rfl
theorem Zxx (l:List ByteArray):Zhc l=some (!decide l.Nodup):=by
 rw [Zhc,Zql l [] [] .nil (fun k=>by simp [X4]),List.nil_append]
def Th (names:List ByteArray) (vals:List (List ByteArray)):Nat→Nat→Int
 | 0,_=>0
 | m+1,v=>if names.getD v ⟨#[]⟩ ∈ names.take v∨¬ (vals.getD v []).Nodup then 40 else if vals.getD v []=[] then 43 else Th names vals m (v+1)
theorem Zqr (n:W2) (hl:n.2.2.1.length=n.2.1.length):∀ (l:List ByteArray) (k:Nat),n.2.1.drop k=l→k≤n.2.1.length→Qz n l k=some (Th n.2.1 n.2.2.1 l.length k)
 | [],k,_,_=>rfl
 | x :: l,k,hd,hk=>by
  have hk1:k<n.2.1.length:=by
   rcases Nat.lt_or_ge k n.2.1.length with h | h
   ·exact h
   ·rw [List.drop_eq_nil_of_le h] at hd;cases hd
  have hd2:=List.drop_eq_getElem_cons hk1
  rw [hd] at hd2
  obtain ⟨hx,hl2⟩:=List.cons.inj hd2
  rw [Qz.eq_2,Xj (by omega),Int.toNat_natCast,Zn2,Option.bind_some,List.length_cons,Th,Wx hk1,← hx,Wx (by omega)]
  by_cases h1:x ∈ n.2.1.take k
  ·rw [if_pos (decide_eq_true h1),Ze0,if_pos rfl,if_pos (.inl h1)]
  ·rw [if_neg (by rw [decide_eq_false h1];decide),Xg (by omega),Option.bind_some,Zxx,Option.bind_some,Ze0]
   by_cases h2:(n.2.2.1[k]'(by omega)).Nodup
   ·rw [decide_eq_true h2,if_neg (by decide),if_neg (by simp [h1,h2]),Xg (by omega),Option.bind_some]
    by_cases h3:n.2.2.1[k]'(by omega)=[]
    ·rw [if_pos (by rw [h3];decide),if_pos h3]
    ·rw [if_neg (by simpa using h3),if_neg h3]
     exact Zqr n hl l (k+1) hl2.symm (by omega)
   ·rw [decide_eq_false h2,if_pos (by decide),if_pos (.inr h2)]
theorem Zx0 (n:W2) (hl:n.2.2.1.length=n.2.1.length):Zez n=some (Th n.2.1 n.2.2.1 n.2.1.length 0):=by
 rw [Zez];exact Zqr n hl n.2.1 0 (by simp) (by omega)
theorem Zmg (N:Nat) (n:W2) (v:Nat) (hv:v<n.2.2.1.length) (hb:n.2.2.1[v].length≤1048576) (hN:1048577<N) (hvb:v<4611686018427387904) (kk:Int→Option Int) (A:Prop) [Decidable A]:∀ (m i:Nat) (a:Bool),i≤n.2.2.1[v].length→n.2.2.1[v].length<m+i→(a=true→A∨¬ (n.2.2.1[v]).Nodup)→(a=false→¬ A∧((n.2.2.1[v]).take i).Nodup)→
  Zab N n (v:Int) kk m a (i:Int)=if A∨¬ (n.2.2.1[v]).Nodup then some 40 else if n.2.2.1[v]=[] then some 43 else kk ((v:Int)+1)
 | 0,i,a,h1,h2,_,_=>by omega
 | m+1,i,a,h1,h2,h3,h4=>by
  rw [Zab.eq_2,Xg hv,Option.bind_some]
  by_cases hi:i<n.2.2.1[v].length
  ·rw [if_pos (decide_eq_true (by omega))]
   cases a with
   | true=>
    rw [if_pos rfl,Zf3,Z6 (by omega)]
    exact Zmg N n v hv hb hN hvb kk A m (i+1) true (by omega) (by omega) h3 (fun h=>by cases h)
   | false=>
    obtain ⟨j,j1,j2⟩:=Zot (N:=N) (l:=n.2.2.1[v]) (by omega) hi (by omega)
    have st:=Zqv n.2.2.1[v] i hi
    have h5:=h4 rfl
    rw [if_neg (by decide),Xg hi,Option.bind_some,j1,Option.bind_some,Zf3,Z6 (by omega)]
    have:=Zmg N n v hv hb hN hvb kk A m (i+1) (decide ((j:Int)<(i:Int))) (by omega) (by omega) (fun h=>.inr fun hn=>by
     have h6:=of_decide_eq_true h
     have h7:=(hn.sublist (List.take_sublist (i+1) _))
     exact (st.1 h7).2 (j2.1 (by omega))) (fun h=>⟨h5.1,st.2 ⟨h5.2,fun hm=>by
     have h6:=of_decide_eq_false h
     have:=j2.2 hm
     omega⟩⟩)
    exact this
  ·have hil:i=n.2.2.1[v].length:=by omega
   rw [if_neg (by rw [decide_eq_false (by omega)];decide)]
   cases a with
   | true=>rw [if_pos rfl,if_pos (h3 rfl)]
   | false=>
    obtain ⟨h5,h6⟩:=h4 rfl
    rw [hil,List.take_length] at h6
    have hA:¬ (A∨¬ (n.2.2.1[v]).Nodup):=fun h=>h.elim h5 (fun h=>h h6)
    rw [if_neg (by decide),if_neg hA,Z6 (by omega)]
    by_cases h7:n.2.2.1[v]=[]
    ·rw [if_pos (by rw [h7];decide),if_pos h7]
    ·rw [if_neg (by simpa using h7),if_neg h7]
theorem Zsu (N:Nat) (n:W2) (hl:n.2.2.1.length=n.2.1.length) (hn:n.2.1.length≤1048576) (hb:∀ l ∈ n.2.2.1,l.length≤1048576) (hN:1048577<N):∀ (m fuel v:Nat),m+v=n.2.1.length→m<fuel→
  Tz N n fuel (v:Int)=if Th n.2.1 n.2.2.1 m v=0 then Tz N n (fuel - m) (n.2.1.length:Int) else some (Th n.2.1 n.2.2.1 m v)
 | 0,fuel,v,h1,_=>by
  have:v=n.2.1.length:=by omega
  rw [Th,if_pos rfl,this,Nat.sub_zero]
 | m+1,0,v,h1,h2=>by omega
 | m+1,fuel+1,v,h1,h2=>by
  have hv:v<n.2.1.length:=by omega
  have hv2:v<n.2.2.1.length:=by omega
  obtain ⟨j,j1,j2⟩:=Zot (N:=N) (l:=n.2.1) (by omega) hv (by omega)
  rw [Tz.eq_2,if_pos (decide_eq_true (by omega)),Xg hv,Option.bind_some,j1,Option.bind_some,Th,Wx hv,Wx hv2,show (0:Int)=((0:Nat):Int) from rfl,
   Zmg N n v hv2 (hb _ (List.getElem_mem hv2)) hN (by omega) (Tz N n fuel) (n.2.1[v] ∈ n.2.1.take v) N 0 _ (by omega) (by have:=hb _ (List.getElem_mem hv2);omega) (fun h=>.inl (j2.1 (by have:=of_decide_eq_true h;omega))) (fun h=>⟨fun hm=>by have:=of_decide_eq_false h;have:=j2.2 hm;omega,by simp⟩)]
  by_cases h3:n.2.1[v] ∈ n.2.1.take v∨¬ (n.2.2.1[v]).Nodup
  ·rw [if_pos h3,if_pos h3,if_neg (by decide)]
  ·rw [if_neg h3,if_neg h3]
   by_cases h4:n.2.2.1[v]=[]
   ·rw [if_pos h4,if_pos h4,if_neg (by decide)]
   ·rw [if_neg h4,if_neg h4]
    have ih:=Zsu N n hl hn hb hN m fuel (v+1) (by omega) (by omega)
    rw [show ((v+1:Nat):Int)=(v:Int)+1 by omega] at ih
    rw [ih,show fuel+1 - (m+1)=fuel - m by omega]
    rfl
theorem Zl1 {names:List ByteArray} {vals:List (List ByteArray)}:∀ (m v:Nat),Th names vals m v=0→∀ i,v≤i→i<v+m→vals.getD i []≠[]∧(vals.getD i []).Nodup∧names.getD i ⟨#[]⟩ ∉ names.take i
 | 0,v,_,i,h1,h2=>by omega
 | m+1,v,h,i,h1,h2=>by
  rw [Th] at h
  by_cases h3:names.getD v ⟨#[]⟩ ∈ names.take v∨¬ (vals.getD v []).Nodup
  ·rw [if_pos h3] at h;cases h
  ·rw [if_neg h3] at h
   by_cases h4:vals.getD v []=[]
   ·rw [if_pos h4] at h;cases h
   ·rw [if_neg h4] at h
    rcases Nat.lt_or_ge v i with h5 | h5
    ·exact Zl1 m (v+1) h i (by omega) (by omega)
    ·have:i=v:=by omega
     subst this
     exact ⟨h4,by simpa using (not_or.1 h3).2,(not_or.1 h3).1⟩
def Vb (vals:List (List ByteArray)):List Int→Nat→Nat
 | [],k=>k
 | p :: ps,k=>Vb vals ps (min (k * (vals.getD p.toNat []).length) 1099511627776)
theorem Zmh (vals:List (List ByteArray)):∀ (ps:List Int) (k:Nat),k≤1099511627776→Vb vals ps k≤1099511627776
 | [],k,h=>h
 | p :: ps,k,h=>Zmh vals ps _ (by omega)
theorem Zj8 {a b:Nat} (h:a≤1099511627776) (g:b≤1048576):a * b≤1152921504606846976:=by
 have:=Nat.mul_le_mul h g
 simpa using this
theorem Zqi (n:W2) (hb:∀ l ∈ n.2.2.1,l.length≤1048576):∀ (ps:List Int) (k:Nat),k≤1099511627776→(∀ p ∈ ps,0≤p∧p<(n.2.2.1.length:Int))→Zca n ps (k:Int)=some (Vb n.2.2.1 ps k:Int)
 | [],k,_,_=>rfl
 | p :: ps,k,hk,hp=>by
  have h1:=hp p List.mem_cons_self
  have h2:p.toNat<n.2.2.1.length:=by omega
  have h3:=hb _ (List.getElem_mem h2)
  have h4:=Zj8 hk h3
  rw [Zca.eq_2,show p=((p.toNat:Nat):Int) by omega,Xg h2,Option.bind_some,Vb,Int.toNat_natCast,Wx h2,← Int.natCast_mul,Z6 (by omega)]
  have ih:=Zqi n hb ps (min (k * n.2.2.1[p.toNat].length) 1099511627776) (by omega) (fun q hq=>hp q (List.mem_cons_of_mem _ hq))
  rw [← ih]
  congr 1
  by_cases h5:1099511627776<k * n.2.2.1[p.toNat].length
  ·rw [if_pos (by omega),Nat.min_eq_right (by omega)];rfl
  ·rw [if_neg (by omega),Nat.min_eq_left (by omega)]
theorem Ztb (N:Nat) (n:W2) (hl:n.2.2.1.length≤1048576):∀ (m i:Nat) (out:List Int),i≤n.2.2.1.length→n.2.2.1.length<m+i→out=(n.2.2.1.take i).map (fun l=>(l.length:Int))→Zc5 N n m out (i:Int)=some (n.2.2.1.map fun l=>(l.length:Int))
 | 0,i,out,h1,h2,_=>by omega
 | m+1,i,out,h1,h2,h3=>by
  rw [Zc5.eq_2]
  have lo:out.length=i:=by rw [h3,List.length_map,List.length_take];omega
  by_cases hi:i<n.2.2.1.length
  ·rw [if_pos (decide_eq_true (by omega)),Xg hi,Option.bind_some,Xj (by simp only [List.length_singleton,maxLen];omega),Z6 (by omega)]
   exact Ztb N n hl m (i+1) _ (by omega) (by omega) (by rw [h3,List.take_add_one,List.getElem?_eq_getElem hi,Option.toList_some,List.map_append];rfl)
  ·rw [if_neg (by rw [decide_eq_false (by omega)];decide),h3,List.take_of_length_le (by omega)]
theorem Zzo {N:Nat} {n:W2} (hl:n.2.2.1.length≤1048576) (hN:1048576<N):Zc4 N n=some (n.2.2.1.map fun l=>(l.length:Int)):=by
 rw [Zc4]
 exact Ztb N n hl N 0 [] (by omega) (by omega) (by simp)
theorem Zks {vals:List (List ByteArray)} {i:Nat} (h:i<vals.length):Zv (vals.map fun l=>(l.length:Int)) (i:Int)=some (vals[i].length:Int):=by
 rw [Xg (by rw [List.length_map];exact h),List.getElem_map]
theorem Zlk (N:Nat) (ps:List Int) (vals:List (List ByteArray)) (hb:∀ l ∈ vals,l.length≤1048576) (hne:∀ l ∈ vals,l≠[]) (hp:∀ p ∈ ps,0≤p∧p<(vals.length:Int)) (hps:ps.length≤1048576):∀ (m i k:Nat),i≤ps.length→ps.length<m+i→k≤1099511627776→
  Zae N ps (vals.map fun l=>(l.length:Int)) m (k:Int) (i:Int)=some (Vb vals (ps.drop i) k:Int)
 | 0,i,k,h1,h2,_=>by omega
 | m+1,i,k,h1,h2,h3=>by
  rw [Zae.eq_2]
  by_cases hi:i<ps.length
  ·have h4:=hp _ (List.getElem_mem hi)
   have h5:(ps[i]).toNat<vals.length:=by omega
   have h6:=hb _ (List.getElem_mem h5)
   have h7:0<vals[(ps[i]).toNat].length:=List.length_pos_iff.2 (hne _ (List.getElem_mem h5))
   have h8:=Zj8 h3 h6
   rw [if_pos (decide_eq_true (by omega)),Xg hi,Option.bind_some]
   conv=>lhs;rw [show ps[i]=(((ps[i]).toNat:Nat):Int) by omega]
   rw [Zks h5,Option.bind_some,Xj (by omega),List.drop_eq_getElem_cons hi,Vb,Wx h5]
   have e:i64.wrap (Int.tdiv 1099511627776 (vals[(ps[i]).toNat].length:Int))=((1099511627776 / vals[(ps[i]).toNat].length:Nat):Int):=by
    rw [Int.tdiv_eq_ediv_of_nonneg (by decide),show (1099511627776:Int)=((1099511627776:Nat):Int) from rfl,← Int.natCast_ediv]
    refine Z6 ⟨by have:=Int.natCast_nonneg (1099511627776 / vals[(ps[i]).toNat].length);omega,?_⟩
    have:=Nat.div_le_self 1099511627776 vals[(ps[i]).toNat].length
    omega
   rw [e]
   have cmp:1099511627776 / vals[(ps[i]).toNat].length<k↔1099511627776<k * vals[(ps[i]).toNat].length:=Nat.div_lt_iff_lt_mul h7
   by_cases h9:1099511627776<k * vals[(ps[i]).toNat].length
   ·rw [if_pos (decide_eq_true (Int.ofNat_lt.2 (cmp.2 h9))),Zf4,Z6 (by omega),Nat.min_eq_right (by omega)]
    exact Zlk N ps vals hb hne hp hps m (i+1) 1099511627776 (by omega) (by omega) (by omega)
   ·rw [if_neg (by rw [decide_eq_false (fun h=>h9 (cmp.1 (Int.ofNat_lt.1 h)))];decide),Zf4,← Int.natCast_mul,Z6 (by omega),Z6 (by omega),Nat.min_eq_left (by omega)]
    exact Zlk N ps vals hb hne hp hps m (i+1) _ (by omega) (by omega) (by omega)
  ·rw [if_neg (by rw [decide_eq_false (by omega)];decide),List.drop_eq_nil_of_le (by omega),Vb]
theorem Zny (N:Nat) (ps:List Int) (vals:List (List ByteArray)) (hb:∀ l ∈ vals,l.length≤1048576) (hne:∀ l ∈ vals,l≠[]) (hp:∀ p ∈ ps,0≤p∧p<(vals.length:Int)) (hps:ps.length≤1048576) (hN:1048577<N):∀ (m i:Nat),i≤ps.length→ps.length<m+i→
  Zc2 N ps (vals.map fun l=>(l.length:Int)) m (i:Int)=some (Vb vals ps 1:Int)
 | 0,i,h1,h2=>by omega
 | m+1,i,h1,h2=>by
  rw [Zc2.eq_2]
  by_cases hi:i<ps.length
  ·have h4:=hp _ (List.getElem_mem hi)
   have h5:(ps[i]).toNat<vals.length:=by omega
   have h7:0<vals[(ps[i]).toNat].length:=List.length_pos_iff.2 (hne _ (List.getElem_mem h5))
   rw [if_pos (decide_eq_true (by omega)),Xg hi,Option.bind_some]
   conv=>lhs;rw [show ps[i]=(((ps[i]).toNat:Nat):Int) by omega]
   rw [Zks h5,Option.bind_some,if_neg (by rw [decide_eq_false (by omega)];decide),Z6 (by omega)]
   exact Zny N ps vals hb hne hp hps hN m (i+1) (by omega) (by omega)
  ·rw [if_neg (by rw [decide_eq_false (by omega)];decide)]
   exact Zlk N ps vals hb hne hp hps N 0 1 (by omega) (by omega) (by omega)
theorem Zv7 {N:Nat} {ps:List Int} {vals:List (List ByteArray)} (hb:∀ l ∈ vals,l.length≤1048576) (hne:∀ l ∈ vals,l≠[]) (hp:∀ p ∈ ps,0≤p∧p<(vals.length:Int)) (hps:ps.length≤1048576) (hN:1048577<N):Zhy N ps (vals.map fun l=>(l.length:Int))=some (Vb vals ps 1:Int):=by
 rw [Zhy]
 exact Zny N ps vals hb hne hp hps hN N 0 (by omega) (by omega)
theorem Zye {r c:Nat} (hc:0<c):Zh0 (r:Int) (c:Int)=some (decide (65536<r * c)):=by
 have e:i64.wrap (Int.tdiv 65536 (c:Int))=((65536 / c:Nat):Int):=by
  rw [Int.tdiv_eq_ediv_of_nonneg (by decide),show (65536:Int)=((65536:Nat):Int) from rfl,← Int.natCast_ediv]
  refine Z6 ⟨by have:=Int.natCast_nonneg (65536 / c);omega,?_⟩
  have:=Nat.div_le_self 65536 c
  omega
 rw [Zh0,if_pos (decide_eq_true (by omega)),Xj (by omega),e,Zh1]
 congr 1
 refine decide_eq_decide.2 ?_
 rw [Int.ofNat_lt]
 exact Nat.div_lt_iff_lt_mul hc
def Tj (vals:List (List ByteArray)) (P:List (List Int)) (T:List (List QV)):Nat→Nat→Int
 | 0,_=>0
 | m+1,v=>if 65536<Vb vals (P.getD v []) 1 * (vals.getD v []).length then 4 else if Vb vals (P.getD v []) 1 * (vals.getD v []).length≠(T.getD v []).length then 60 else Tj vals P T m (v+1)
structure S0 (n:W2) (W:Nat):Prop where
 nm:n.2.1.length≤1048575
 vl:∀ l ∈ n.2.2.1,l.length≤1048576
 pn:Zir n.2.2.2.1
 tl:∀ t ∈ n.2.2.2.2,t.length≤1048576
 tq:∀ t ∈ n.2.2.2.2,Yu t≤W
 lim:∀ t ∈ n.2.2.2.2,∀ x ∈ t,Vy x
structure Zal (n:W2):Prop where
 v:n.2.2.1.length=n.2.1.length
 p:n.2.2.2.1.length=n.2.1.length
 t:n.2.2.2.2.length=n.2.1.length
 i:Uh n.2.2.2.1.length n.2.2.2.1=true
 ne:∀ l ∈ n.2.2.1,l≠[]
theorem Zal.par {n:W2} (h:Zal n) {ps:List Int} (hp:ps ∈ n.2.2.2.1):∀ p ∈ ps,0≤p∧p<(n.2.2.1.length:Int):=by
 have:=Zpa h.i ps hp
 rw [h.p] at this
 rw [h.v];exact this
theorem Zqj {N W:Nat} {n:W2} (hs:S0 n W) (he:Zal n):∀ (l:List (List QV)) (k:Nat),n.2.2.2.2.drop k=l→k≤n.2.1.length→Qx N n l k=if Tj n.2.2.1 n.2.2.2.1 n.2.2.2.2 l.length k=0 then Qy N n n.2.2.2.2 else some (Tj n.2.2.1 n.2.2.2.1 n.2.2.2.2 l.length k)
 | [],k,_,_=>by rw [Qx.eq_1];rfl
 | t :: l,k,hd,hk=>by
  have ht:=he.t;have hv:=he.v;have hp:=he.p
  have hk1:k<n.2.2.2.2.length:=by
   rcases Nat.lt_or_ge k n.2.2.2.2.length with h | h
   ·exact h
   ·rw [List.drop_eq_nil_of_le h] at hd;cases hd
  have hd2:=List.drop_eq_getElem_cons hk1
  rw [hd] at hd2
  obtain ⟨hx,hl2⟩:=List.cons.inj hd2
  have kv:k<n.2.2.1.length:=by omega
  have kp:k<n.2.2.2.1.length:=by omega
  have r1:=Zmh n.2.2.1 (n.2.2.2.1[k]) 1 (by omega)
  have c1:=hs.vl _ (List.getElem_mem kv)
  have r2:=Zj8 r1 c1
  have hrow:Ze4 n (k:Int)=some (Vb n.2.2.1 n.2.2.2.1[k] 1:Int):=by
   rw [Ze4,Xg kp,Option.bind_some]
   exact Zqi n hs.vl _ 1 (by omega) (he.par (List.getElem_mem kp))
  rw [Qx.eq_2]
  have hrow':Ze4 (n.1,n.2.1,n.2.2.1,n.2.2.2.1,n.2.2.2.2) (k:Int)=some (Vb n.2.2.1 n.2.2.2.1[k] 1:Int):=hrow
  rw [hrow',Option.bind_some,Xg kv,Option.bind_some,← Int.natCast_mul,Z6 (by omega),List.length_cons,Tj,Wx kp,Wx kv,Wx hk1,← hx]
  generalize Vb n.2.2.1 n.2.2.2.1[k] 1 * n.2.2.1[k].length=rc at *
  by_cases h1:65536<rc
  ·rw [if_pos (decide_eq_true (by omega)),if_pos h1,if_neg (by decide)]
  ·rw [if_neg (by rw [decide_eq_false (by omega)];decide),if_neg h1]
   by_cases h2:rc=t.length
   ·rw [if_neg (by rw [decide_eq_true (by omega)];decide),if_neg (show ¬ rc≠t.length from fun h=>h h2)]
    exact Zqj hs he l (k+1) hl2.symm (by omega)
   ·rw [if_pos (by rw [decide_eq_false (by omega)];decide),if_pos h2,if_neg (by decide)]
theorem Zs0 {N W:Nat} {n:W2} (hN:1048577<N) (hs:S0 n W) (he:Zal n):∀ (m fuel v:Nat),m+v=n.2.1.length→m<fuel→
  Zac N n (n.2.2.1.map fun l=>(l.length:Int)) fuel (v:Int)=if Tj n.2.2.1 n.2.2.2.1 n.2.2.2.2 m v=0 then Qk N n (n.2.2.1.map fun l=>(l.length:Int)) N 0 else some (Tj n.2.2.1 n.2.2.2.1 n.2.2.2.2 m v)
 | 0,0,v,_,h=>by omega
 | 0,fuel+1,v,h1,_=>by
  rw [Zac.eq_2,if_neg (by rw [decide_eq_false (by omega)];decide)];rfl
 | m+1,0,v,_,h=>by omega
 | m+1,fuel+1,v,h1,h2=>by
  have ht:=he.t;have hv:=he.v;have hp:=he.p;have hnm:=hs.nm
  have kt:v<n.2.2.2.2.length:=by omega
  have kv:v<n.2.2.1.length:=by omega
  have kp:v<n.2.2.2.1.length:=by omega
  have r1:=Zmh n.2.2.1 (n.2.2.2.1[v]) 1 (by omega)
  have c1:=hs.vl _ (List.getElem_mem kv)
  have c0:0<n.2.2.1[v].length:=List.length_pos_iff.2 (he.ne _ (List.getElem_mem kv))
  have r2:=Zj8 r1 c1
  rw [Zac.eq_2,if_pos (decide_eq_true (by omega)),Xg kp,Option.bind_some,Zv7 hs.vl he.ne (he.par (List.getElem_mem kp)) (hs.pn.ls _ (List.getElem_mem kp)) hN,Option.bind_some,Zks kv,Option.bind_some,Zye c0,Option.bind_some,Tj,Wx kp,Wx kv,Wx kt,← Int.natCast_mul,Z6 (by omega)]
  generalize Vb n.2.2.1 n.2.2.2.1[v] 1 * n.2.2.1[v].length=rc at *
  by_cases h3:65536<rc
  ·rw [if_pos (decide_eq_true (by omega)),if_pos h3,if_neg (by decide)]
  ·rw [if_neg (by rw [decide_eq_false (by omega)];decide),if_neg h3,Xg kt,Option.bind_some]
   by_cases h4:rc=n.2.2.2.2[v].length
   ·rw [if_neg (by rw [decide_eq_true (by omega)];decide),if_neg (show ¬ rc≠n.2.2.2.2[v].length from fun h=>h h4),Z6 (by omega)]
    exact Zs0 hN hs he m fuel (v+1) (by omega) (by omega)
   ·rw [if_pos (by rw [decide_eq_false (by omega)];decide),if_pos h4,if_neg (by decide)]
def V2 (x:QV):Bool:=decide (Yq x<0)||decide (1<Yq x)
theorem Zri {a b:Rat}:0<Qp a b↔b<a:=by
 rw [Qp]
 by_cases h:a<b
 ·rw [if_pos h]
  constructor
  ·intro h2;omega
  ·intro h2;exact absurd (Rat.le_of_lt h2) (Rat.not_le.2 h)
 ·rw [if_neg h]
  by_cases h2:b<a
  ·simp [h2]
  ·simp [h2]
theorem Zkg {a b:Rat}:Qp a b=0↔a=b:=by
 rw [Qp]
 constructor
 ·intro h
  split at h
  ·cases h
  ·split at h
   ·cases h
   ·rename_i h1 h2
    exact Rat.le_antisymm (Rat.not_lt.1 h2) (Rat.not_lt.1 h1)
 ·rintro rfl
  rw [if_neg Rat.lt_irrefl,if_neg Rat.lt_irrefl]
theorem Zqg {N:Nat} (hr:X5 N 8):Ze1 N=some (Y0 1):=by
 rw [Ze1,Zwz (by omega) (by omega) (hr.mono (by omega)),Option.bind_some,if_neg (by decide)]
 have:((1:Int):Rat) / ((1:Int):Rat)=1:=div_one _
 rw [this]
theorem Zsz {N:Nat} (hr:X5 N 8):Zf5 N=some (Y0 1):=by
 rw [Zf5,Zzq hr];rfl
theorem Zkq:RV 1 (Y0 1):=Zmj (by rw [Zyi];omega)
theorem Zxw {N k:Nat} {x:QV} (hx:RV k x) (hr:X5 N (2 * k+16)):Ze2 N x=some (V2 x):=by
 have h2:Zeo N ((x.1.1,x.1.2),x.2)=some (Zbq (Yq x)):=Zw2 hx (hr.mono (by omega))
 rw [Ze2,h2,Option.bind_some,V2]
 by_cases h:Yq x<0
 ·rw [if_pos (decide_eq_true (Zkh.2 h)),Ze3,decide_eq_true h,Bool.true_or]
 ·rw [if_neg (by rw [decide_eq_false (fun h3=>h (Zkh.1 h3))];decide),decide_eq_false h,Bool.false_or,Zqg (hr.mono (by omega)),Option.bind_some,Zor (a:=((x.1.1,x.1.2),x.2)) (b:=Y0 1) hx Zkq (hr.mono (by omega)),Option.bind_some,Ze3,Zbr]
  congr 1
  exact decide_eq_decide.2 Zri
theorem Zzh {N k:Nat} {x:QV} (hx:RV k x) (hr:X5 N (2 * k+16)):Zf6 N x=some (V2 x):=by
 have h2:Zfv N ((x.1.1,x.1.2),x.2)=some (Zbq (Yq x)):=Zzd hx (hr.mono (by omega))
 rw [Zf6,h2,Option.bind_some,V2]
 by_cases h:Yq x<0
 ·rw [if_pos (decide_eq_true (Zkh.2 h)),Zf7,decide_eq_true h,Bool.true_or]
 ·rw [if_neg (by rw [decide_eq_false (fun h3=>h (Zkh.1 h3))];decide),decide_eq_false h,Bool.false_or,Zsz (hr.mono (by omega)),Option.bind_some,Zsh (a:=((x.1.1,x.1.2),x.2)) (b:=Y0 1) hx Zkq (hr.mono (by omega)),Option.bind_some,Zf7,Zbr]
  congr 1
  exact decide_eq_decide.2 Zri
def V6 (x:QV):QV:=if Ze x.2=0 then (x.1,[1]) else x
theorem Zou {x:QV} (h:Vy x):Vy (V6 x):=by
 rw [V6];split
 ·exact ⟨h.1,.cons (by decide) .nil⟩
 ·exact h
theorem Zov (x:QV):Yq (V6 x)=Yq x:=by
 rw [V6];split
 ·rename_i h
  rw [Yq,Yq]
  show mkRat (Z8 x.1) (Yy [1])=mkRat (Z8 x.1) (Yy x.2)
  rw [Yy,Yy,if_pos h]
  congr 1
 ·rfl
theorem Zwv (x:QV):V2 (V6 x)=V2 x:=by rw [V2,V2,Zov]
theorem Zwu (x:QV):max (V6 x).1.2.length (V6 x).2.length≤max x.1.2.length x.2.length+1:=by
 rw [V6];split
 ·show max x.1.2.length [(1:Int)].length≤_
  simp only [List.length_singleton];omega
 ·omega
theorem Zma:∀ l:List QV,2 * l.length≤Yu l
 | []=>by simp [Yu]
 | a :: l=>by rw [Yu,List.length_cons];have:=Zma l;omega
theorem Zl9:∀ l:List QV,Yu (l.map V6)≤Yu l+l.length
 | []=>by simp [Yu]
 | a :: l=>by
  rw [List.map_cons,Yu,Yu,List.length_cons]
  have:=Zl9 l;have:=Zwu a;omega
theorem Zrj (a b:List QV):Yu (a++b)=Yu a+Yu b:=by
 induction a with
 | nil=>simp [Yu]
 | cons x a ih=>rw [List.cons_append,Yu,Yu,ih];omega
theorem Zrm (l:List QV) (k:Nat):Yu (l.take k)≤Yu l:=by
 have:=Zrj (l.take k) (l.drop k)
 rw [List.take_append_drop] at this;omega
theorem Zrk (l:List QV) (k:Nat):Yu (l.drop k)≤Yu l:=by
 have:=Zrj (l.take k) (l.drop k)
 rw [List.take_append_drop] at this;omega
theorem Zyh {l:List QV} {x:QV} (h:x ∈ l):max x.1.2.length x.2.length≤Yu l:=by
 induction l with
 | nil=>simp at h
 | cons y l ih=>
  rw [Yu]
  rcases List.mem_cons.1 h with rfl | h
  ·omega
  ·have:=ih h;omega
theorem Zwx {N k:Nat} {x:QV} (h:Vy x) (hk:max x.1.2.length x.2.length≤k) (hr:X5 N k):Zew N x=some (V6 x):=by
 obtain ⟨r1,r2⟩:=hr
 rw [Zew,Zl3 h.2 (by omega) (by omega),Option.bind_some,V6]
 by_cases h0:Ze x.2=0
 ·rw [h0,Va,if_pos (by decide),if_pos rfl,Zic (by decide) (by omega),Option.bind_some,Zex,show (1:Int).toNat=1 from rfl,Qs]
 ·have:=Si h0
  rw [if_neg (by rw [decide_eq_false (by omega)];decide),if_neg h0,Zex]
theorem Zo0 {N W:Nat} (hr:X5 N W):∀ (l out:List QV),(∀ x ∈ l,Vy x)→Yu l≤W→out.length+l.length≤1048576→Za2 N l out=some (out++l.map V6)
 | [],out,_,_,_=>by rw [Za2.eq_1];simp
 | x :: l,out,hl,hq,hlen=>by
  rw [Yu] at hq
  rw [List.length_cons] at hlen
  have h1:Zew N ((x.1.1,x.1.2),x.2)=some (V6 x):=Zwx (x:=x) (hl x List.mem_cons_self) (k:=W) (by omega) hr
  rw [Za2.eq_2,h1,Option.bind_some,Xj (by simp only [List.length_singleton,maxLen];omega),Zo0 hr l _ (fun y hy=>hl y (List.mem_cons_of_mem _ hy)) (by omega) (by simp only [List.length_append,List.length_singleton];omega)]
  simp
theorem Zo1 {N W:Nat} {l:List QV} (hr:X5 N W) (hl:∀ x ∈ l,Vy x) (hq:Yu l≤W) (hlen:l.length≤1048576):Zey N l=some (l.map V6):=by
 rw [Zey,Xj (by simp only [maxLen];omega),Zo0 hr l [] hl hq (by simpa using hlen),List.nil_append]
theorem Zo8 {N W:Nat} (hr:X5 N (2 * W+16)):∀ (l:List QV) (k:Nat),(∀ x ∈ l,Vy x)→Yu l≤W→∃ j:Int,Zdn N l k=some j∧(0≤j↔l.any V2=true)
 | [],k,_,_=>⟨-1,rfl,by simp⟩
 | x :: l,k,hl,hq=>by
  rw [Yu] at hq
  have hx:=hl x List.mem_cons_self
  have h1:Ze2 N ((x.1.1,x.1.2),x.2)=some (V2 x):=Zxw (x:=x) (Zij hx.1 hx.2) (hr.mono (by omega))
  rw [Zdn.eq_2,h1,Option.bind_some,List.any_cons]
  cases V2 x with
  | true=>rw [if_pos rfl];exact ⟨_,rfl,by simp⟩
  | false=>
   rw [if_neg (by decide)]
   obtain ⟨j,h1,h2⟩:=Zo8 hr l (k+1) (fun y hy=>hl y (List.mem_cons_of_mem _ hy)) (by omega)
   exact ⟨j,h1,by rw [h2];simp⟩
def Zd8 (T:List (List QV)):Bool:=T.any fun t=>t.any V2
theorem Zt3 (l:List QV):(l.map V6).any V2=l.any V2:=by
 induction l with
 | nil=>rfl
 | cons x l ih=>rw [List.map_cons,List.any_cons,List.any_cons,ih,Zwv]
theorem Zp9 {N W:Nat} {n:W2} (hr:X5 N (4 * W+16)):∀ l:List (List QV),(∀ t ∈ l,t.length≤1048576∧Yu t≤W∧∀ x ∈ t,Vy x)→Qy N n l=if Zd8 l=true then some 45 else Za1 N n n.2.2.2.2 0
 | [],_=>by rw [Qy.eq_1];rfl
 | t :: l,h=>by
  obtain ⟨h1,h2,h3⟩:=h t List.mem_cons_self
  have hp:=Zma t
  have hf:=Zl9 t
  obtain ⟨j,j1,j2⟩:=Zo8 (N:=N) (W:=2 * W) (hr.mono (by omega)) (t.map V6) 0 (fun x hx=>by
   obtain ⟨y,hy,rfl⟩:=List.mem_map.1 hx
   exact Zou (h3 y hy)) (by omega)
  rw [Qy.eq_2,Zo1 (W:=W) (hr.mono (by omega)) h3 h2 h1,Option.bind_some,Zj4,Zj5,j1,Option.bind_some,Option.bind_some,Zd8,List.any_cons]
  rw [Zt3] at j2
  by_cases ho:t.any V2=true
  ·rw [if_pos (decide_eq_true (j2.2 ho)),ho,Bool.true_or,if_pos rfl]
  ·rw [if_neg (by rw [decide_eq_false (fun h=>ho (j2.1 h))];decide),Bool.eq_false_iff.2 ho,Bool.false_or]
   exact Zp9 hr l fun x hx=>h x (List.mem_cons_of_mem _ hx)
theorem Zsf {N W:Nat} {n:W2} (sz:List Int) (hr:X5 N (4 * W+16)) {v:Nat} (hv:v<n.2.2.2.2.length) (hvs:v<1048576) (h1:n.2.2.2.2[v].length≤1048576) (h2:Yu n.2.2.2.2[v]≤W) (h3:∀ x ∈ n.2.2.2.2[v],Vy x) (kk:Int→Option Int):∀ (m i:Nat),i≤n.2.2.2.2[v].length→n.2.2.2.2[v].length<m+i→
  Zc1 N n (v:Int) kk m (i:Int)=if ((n.2.2.2.2[v]).drop i).any V2=true then some 45 else kk ((v:Int)+1)
 | 0,i,g1,g2=>by omega
 | m+1,i,g1,g2=>by
  rw [Zc1.eq_2,Xg hv,Option.bind_some]
  by_cases hi:i<n.2.2.2.2[v].length
  ·have hx:=h3 _ (List.getElem_mem hi)
   have hm:=Zyh (List.getElem_mem hi)
   have e:Zf6 N (((n.2.2.2.2[v][i]).1.1,(n.2.2.2.2[v][i]).1.2),(n.2.2.2.2[v][i]).2)=some (V2 n.2.2.2.2[v][i]):=Zzh (x:=n.2.2.2.2[v][i]) (Zij hx.1 hx.2) (hr.mono (by omega))
   rw [if_pos (decide_eq_true (by omega)),Xg hi,Option.bind_some,e,Option.bind_some,List.drop_eq_getElem_cons hi,List.any_cons]
   cases V2 n.2.2.2.2[v][i] with
   | true=>rw [if_pos rfl,Bool.true_or,if_pos rfl]
   | false=>
    rw [if_neg (by decide),Bool.false_or,Z6 (by omega)]
    exact Zsf sz hr hv hvs h1 h2 h3 kk m (i+1) (by omega) (by omega)
  ·rw [if_neg (by rw [decide_eq_false (by omega)];decide),List.drop_eq_nil_of_le (by omega),List.any_nil,if_neg (by decide),Z6 (by omega)]
theorem Zse {N W:Nat} {n:W2} (sz:List Int) (hs:S0 n W) (he:n.2.2.2.2.length=n.2.1.length) (hr:X5 N (4 * W+16)) (hN:1048577<N):∀ (m fuel v:Nat),m+v=n.2.1.length→m<fuel→
  Qk N n sz fuel (v:Int)=if Zd8 (n.2.2.2.2.drop v)=true then some 45 else Zad N n sz N 0
 | 0,0,v,_,h=>by omega
 | 0,fuel+1,v,h1,_=>by
  rw [Qk.eq_2,if_neg (by rw [decide_eq_false (by omega)];decide),List.drop_eq_nil_of_le (by omega)];rfl
 | m+1,0,v,_,h=>by omega
 | m+1,fuel+1,v,h1,h2=>by
  have hv:v<n.2.2.2.2.length:=by omega
  have hnm:=hs.nm
  have hm:=List.getElem_mem hv
  rw [Qk.eq_2,if_pos (decide_eq_true (by omega)),show (0:Int)=((0:Nat):Int) from rfl,Zsf sz hr hv (by omega) (hs.tl _ hm) (hs.tq _ hm) (hs.lim _ hm) _ N 0 (by omega) (by have:=hs.tl _ hm;omega),List.drop_zero,List.drop_eq_getElem_cons hv,Zd8,List.any_cons]
  cases n.2.2.2.2[v].any V2 with
  | true=>rw [if_pos rfl,Bool.true_or,if_pos rfl]
  | false=>
   rw [if_neg (by decide),Bool.false_or]
   exact Zse sz hs he hr hN m fuel (v+1) (by omega) (by omega)
def Ti (c:Nat):Nat→List QV→Bool
 | 0,_=>true
 | m+1,l=>decide (Vs (l.take c)=1)&&Ti c m (l.drop c)
def Zg0 (c:Nat):Nat→List QV→List (List QV)
 | 0,_=>[]
 | m+1,l=>l.take c :: Zg0 c m (l.drop c)
theorem Znz (N:Nat) (l:List QV) (c:Nat) (hc:0<c) (hl:l.length≤1048576) (hcs:c≤1048576):∀ (m fuel i:Nat),i+m * c=l.length→m<fuel→Zbl N l (c:Int) fuel (i:Int)=some (Zg0 c m (l.drop i))
 | 0,0,i,_,h=>by omega
 | 0,fuel+1,i,h1,_=>by
  rw [Zbl.eq_2,if_neg (by rw [decide_eq_false (by omega)];decide)];rfl
 | m+1,0,i,_,h=>by omega
 | m+1,fuel+1,i,h1,h2=>by
  have h3:i+c+m * c=l.length:=by rw [Nat.add_mul,Nat.one_mul] at h1;omega
  have e:(if ((l.drop i).length:Int)<(c:Int) then ((l.drop i).length:Int) else (c:Int))=(c:Int):=by
   rw [List.length_drop]
   by_cases h:((l.length - i:Nat):Int)<(c:Int)
   ·omega
   ·rw [if_neg h]
  rw [Zbl.eq_2,if_pos (decide_eq_true (by omega)),Int.toNat_natCast,e,Z6 (by omega),Xj (by omega),Xj (by omega),show (i:Int)+(c:Int)=((i+c:Nat):Int) by omega,Znz N l c hc hl hcs m fuel (i+c) (by omega) (by omega),Option.bind_some,Int.toNat_natCast,Zg0,List.drop_take,show i+c - i=c by omega,List.drop_drop]
theorem Zyk (l:List QV):Vs (l.map V6)=Vs l:=by
 rw [Vs,Vs,List.map_map]
 congr 1
 exact List.map_congr_left fun x _=>Zov x
theorem Zq0 (c:Nat):∀ (m:Nat) (l:List QV),Ti c m (l.map V6)=Ti c m l
 | 0,l=>rfl
 | m+1,l=>by rw [Ti,Ti,← List.map_take,← List.map_drop,Zyk,Zq0 c m]
theorem Zqq {N W:Nat} (hr:X5 N (4 * W+40)) (c:Nat) (b:Bool):∀ (m:Nat) (l:List QV),(∀ x ∈ l,Vy x)→Yu l≤W→Zcb N (Zg0 c m l) b=some (Ti c m l)
 | 0,l,_,_=>rfl
 | m+1,l,hl,hq=>by
  have ht:=Zrm l c
  have hd:=Zrk l c
  obtain ⟨s1,s2⟩:=Zo5 (N:=N) (l:=l.take c) (fun x hx=>hl x (List.mem_of_mem_take hx)) (hr.mono (by omega))
  rw [Zg0,Zcb.eq_2,s1,Option.bind_some,Zqg (hr.mono (by omega)),Option.bind_some,Zor (a:=Y0 _) (b:=Y0 1) (Zmj s2) Zkq (hr.mono (by omega)),Option.bind_some,Zbr,Zbr,Ti]
  by_cases h:Vs (l.take c)=1
  ·rw [if_neg (by rw [Zkg.2 h];decide),decide_eq_true h,Bool.true_and]
   exact Zqq hr c b m _ (fun x hx=>hl x (List.mem_of_mem_drop hx)) (by omega)
  ·rw [if_pos (by rw [decide_eq_false (fun h2=>h (Zkg.1 h2))];decide),decide_eq_false h,Bool.false_and];rfl
theorem Zxy {N W c m:Nat} {l:List QV} (hr:X5 N (4 * W+40)) (hl:∀ x ∈ l,Vy x) (hq:Yu l≤W) (hc:0<c) (hcs:c≤1048576) (hll:l.length≤1048576) (hm:m * c=l.length) (hN:1048577<N):Zhd N l (c:Int)=some (Ti c m l):=by
 have hmc:m≤l.length:=by rw [← hm];exact Nat.le_mul_of_pos_right m hc
 rw [Zhd,Zj0,if_neg (by rw [decide_eq_false (by omega)];decide),Zj2,Zj1,show (0:Int)=((0:Nat):Int) from rfl,Znz N l c hc hll hcs m N 0 (by omega) (by omega),Option.bind_some,List.drop_zero]
 exact Zqq hr c false m l hl hq
theorem Zs4 {N W c:Nat} {l:List QV} (hr:X5 N (4 * W+40)) (hl:∀ x ∈ l,Vy x) (hq:Yu l≤W) (hc:0<c) (hcs:c≤1048576) (hll:l.length≤1048576) (hN:1048577<N):∀ (m fuel i:Nat),i+m * c=l.length→m<fuel→Zbh N l (c:Int) fuel (i:Int)=some (Ti c m (l.drop i))
 | 0,0,i,_,h=>by omega
 | 0,fuel+1,i,h1,_=>by
  rw [Zbh.eq_2,if_neg (by rw [decide_eq_false (by omega)];decide)];rfl
 | m+1,0,i,_,h=>by omega
 | m+1,fuel+1,i,h1,h2=>by
  have h3:i+c+m * c=l.length:=by rw [Nat.add_mul,Nat.one_mul] at h1;omega
  have ht:=Zrm (l.drop i) c
  have hd:=Zrk l i
  have hlim:∀ x ∈ (l.drop i).take c,Vy x:=fun x hx=>hl x (List.mem_of_mem_drop (List.mem_of_mem_take hx))
  obtain ⟨_,s2⟩:=Zo5 (N:=N) (l:=(l.drop i).take c) hlim (hr.mono (by omega))
  have hlen:((l.drop i).take c).length≤1048576:=by rw [List.length_take,List.length_drop];omega
  rw [Zbh.eq_2,if_pos (decide_eq_true (by omega)),Z6 (by omega),Xj (by omega),show (i:Int)+(c:Int)=((i+c:Nat):Int) by omega,Int.toNat_natCast,Int.toNat_natCast,List.drop_take,show i+c - i=c by omega,Zze hlim (by omega) (by omega) (hr.mono (by omega)),Option.bind_some,Zsz (hr.mono (by omega)),Option.bind_some,Zsh (a:=Y0 _) (b:=Y0 1) (Zmj s2) Zkq (hr.mono (by omega)),Option.bind_some,Zbr,Zbr,Ti]
  by_cases h:Vs ((l.drop i).take c)=1
  ·rw [if_neg (by rw [Zkg.2 h];decide),decide_eq_true h,Bool.true_and,List.drop_drop]
   exact Zs4 hr hl hq hc hcs hll hN m fuel (i+c) (by omega) (by omega)
  ·rw [if_pos (by rw [decide_eq_false (fun h2=>h (Zkg.1 h2))];decide),decide_eq_false h,Bool.false_and]
def Zgm (vals:List (List ByteArray)) (P:List (List Int)) (T:List (List QV)):Nat→Nat→Int
 | 0,_=>0
 | m+1,v=>if Ti (vals.getD v []).length (Vb vals (P.getD v []) 1) (T.getD v [])=true then Zgm vals P T m (v+1) else 46
theorem Zml {vals:List (List ByteArray)} {P:List (List Int)} {T:List (List QV)}:∀ (m v:Nat),Tj vals P T m v=0→∀ i,v≤i→i<v+m→Vb vals (P.getD i []) 1 * (vals.getD i []).length=(T.getD i []).length∧(T.getD i []).length≤65536
 | 0,v,_,i,h1,h2=>by omega
 | m+1,v,h,i,h1,h2=>by
  rw [Tj] at h
  by_cases h3:65536<Vb vals (P.getD v []) 1 * (vals.getD v []).length
  ·rw [if_pos h3] at h;cases h
  ·rw [if_neg h3] at h
   by_cases h4:Vb vals (P.getD v []) 1 * (vals.getD v []).length=(T.getD v []).length
   ·rw [if_neg (show ¬ Vb vals (P.getD v []) 1 * (vals.getD v []).length≠(T.getD v []).length from fun h=>h h4)] at h
    rcases Nat.lt_or_ge v i with h5 | h5
    ·exact Zml m (v+1) h i (by omega) (by omega)
    ·have:i=v:=by omega
     subst this
     exact ⟨h4,by omega⟩
   ·rw [if_pos h4] at h;cases h
theorem Zqk {N W:Nat} {n:W2} (hs:S0 n W) (he:Zal n) (hsh:Tj n.2.2.1 n.2.2.2.1 n.2.2.2.2 n.2.1.length 0=0) (hr:X5 N (8 * W+40)) (hN:1048577<N):∀ (l:List (List QV)) (k:Nat),n.2.2.2.2.drop k=l→k≤n.2.1.length→Za1 N n l k=some (Zgm n.2.2.1 n.2.2.2.1 n.2.2.2.2 l.length k)
 | [],k,_,_=>rfl
 | t :: l,k,hd,hk=>by
  have ht:=he.t;have hv:=he.v;have hp:=he.p
  have hk1:k<n.2.2.2.2.length:=by
   rcases Nat.lt_or_ge k n.2.2.2.2.length with h | h
   ·exact h
   ·rw [List.drop_eq_nil_of_le h] at hd;cases hd
  have hd2:=List.drop_eq_getElem_cons hk1
  rw [hd] at hd2
  obtain ⟨hx,hl2⟩:=List.cons.inj hd2
  have kv:k<n.2.2.1.length:=by omega
  have kp:k<n.2.2.2.1.length:=by omega
  have hm:t ∈ n.2.2.2.2:=by rw [hx];exact List.getElem_mem hk1
  have c1:=hs.vl _ (List.getElem_mem kv)
  have c0:0<n.2.2.1[k].length:=List.length_pos_iff.2 (he.ne _ (List.getElem_mem kv))
  obtain ⟨s1,s2⟩:=Zml _ 0 hsh k (by omega) (by omega)
  rw [Wx kv,Wx hk1,← hx] at s1
  rw [Wx hk1,← hx] at s2
  have hq:=hs.tq t hm
  have hp2:=Zma t
  have hf:=Zl9 t
  rw [Za1.eq_2,Xg kv,Option.bind_some,Zo1 (W:=W) (hr.mono (by omega)) (hs.lim t hm) hq (hs.tl t hm),Option.bind_some,
   Zxy (W:=2 * W) (m:=Vb n.2.2.1 (n.2.2.2.1.getD k []) 1) (hr.mono (by omega)) (fun x hx=>by
    obtain ⟨y,hy,rfl⟩:=List.mem_map.1 hx
    exact Zou (hs.lim t hm y hy)) (by omega) c0 c1 (by rw [List.length_map];omega) (by rw [List.length_map];exact s1) hN,Option.bind_some,Zq0,List.length_cons,Zgm,Wx kv,Wx hk1,← hx]
  cases Ti n.2.2.1[k].length (Vb n.2.2.1 (n.2.2.2.1.getD k []) 1) t with
  | true=>
   rw [if_neg (by decide),if_pos rfl]
   exact Zqk hs he hsh hr hN l (k+1) hl2.symm (by omega)
  | false=>rw [if_pos (by decide),if_neg (by decide)]
theorem Zs3 {N W:Nat} {n:W2} (hs:S0 n W) (he:Zal n) (hsh:Tj n.2.2.1 n.2.2.2.1 n.2.2.2.2 n.2.1.length 0=0) (hr:X5 N (8 * W+40)) (hN:1048577<N):∀ (m fuel v:Nat),m+v=n.2.1.length→m<fuel→
  Zad N n (n.2.2.1.map fun l=>(l.length:Int)) fuel (v:Int)=some (Zgm n.2.2.1 n.2.2.2.1 n.2.2.2.2 m v)
 | 0,0,v,_,h=>by omega
 | 0,fuel+1,v,h1,_=>by
  rw [Zad.eq_2,if_neg (by rw [decide_eq_false (by omega)];decide)];rfl
 | m+1,0,v,_,h=>by omega
 | m+1,fuel+1,v,h1,h2=>by
  have ht:=he.t;have hv:=he.v;have hp:=he.p;have hnm:=hs.nm
  have kt:v<n.2.2.2.2.length:=by omega
  have kv:v<n.2.2.1.length:=by omega
  have hm:=List.getElem_mem kt
  have c1:=hs.vl _ (List.getElem_mem kv)
  have c0:0<n.2.2.1[v].length:=List.length_pos_iff.2 (he.ne _ (List.getElem_mem kv))
  obtain ⟨s1,s2⟩:=Zml _ 0 hsh v (by omega) (by omega)
  rw [Wx kv,Wx kt] at s1
  rw [Wx kt] at s2
  have hmc:Vb n.2.2.1 (n.2.2.2.1.getD v []) 1≤n.2.2.2.2[v].length:=by rw [← s1];exact Nat.le_mul_of_pos_right _ c0
  have hw:=Zs4 (N:=N) (W:=W) (c:=n.2.2.1[v].length) (l:=n.2.2.2.2[v]) (hr.mono (by omega)) (hs.lim _ hm) (hs.tq _ hm) c0 c1 (hs.tl _ hm) hN (Vb n.2.2.1 (n.2.2.2.1.getD v []) 1) N 0 (by omega) (by omega)
  rw [List.drop_zero,show ((0:Nat):Int)=0 from rfl] at hw
  rw [Zad.eq_2,if_pos (decide_eq_true (by omega)),Xg kt,Option.bind_some,Zks kv,Option.bind_some,Zjw,hw,Option.bind_some,Zgm,Wx kv,Wx kt]
  cases Ti n.2.2.1[v].length (Vb n.2.2.1 (n.2.2.2.1.getD v []) 1) n.2.2.2.2[v] with
  | true=>
   rw [if_neg (by decide),if_pos rfl,Z6 (by omega)]
   exact Zs3 hs he hsh hr hN m fuel (v+1) (by omega) (by omega)
  | false=>rw [if_pos (by decide),if_neg (by decide)]
structure Zgq (N:Nat) (n:W2):Prop where
 ev:Zal n
 le:n.2.1.length≤1024
 nm:Th n.2.1 n.2.2.1 n.2.1.length 0=0
 sh:Tj n.2.2.1 n.2.2.2.1 n.2.2.2.2 n.2.1.length 0=0
 en:Zd8 n.2.2.2.2=false
 su:Zgm n.2.2.1 n.2.2.2.1 n.2.2.2.2 n.2.1.length 0=0
 tw:U3 n.2.2.2.1=false
 or:∃ l,Qu N n.2.2.2.1=some (l,0)∧Sp N n.2.2.2.1=some l∧So N n.2.2.2.1=some 0∧Tb n.2.2.2.1 l∧l.length=n.2.2.2.1.length
theorem Zv5 {N W:Nat} {n:W2} (hs:S0 n W) (hr:X5 N (8 * W+40)) (hN:2000000<N):∃ e,Zev N n=some e∧Zf2 N n=some e∧(e=0→Zgq N n):=by
 have hnm:=hs.nm
 -- shapes of the lists
 have J:∀ b:Bool,(b=true→Za0 N n b=some 60∧Zbg N n b=some 60):=fun b hb=>by
  subst hb
  exact ⟨by rw [Za0,if_pos rfl],by rw [Zbg,if_pos rfl]⟩
 have J1:=J true rfl
 rw [Zev,Zf2]
 by_cases hv:n.2.2.1.length=n.2.1.length
 ·by_cases hp:n.2.2.2.1.length=n.2.1.length
  ·by_cases ht:n.2.2.2.2.length=n.2.1.length
   ·rw [if_neg (by rw [decide_eq_true (by omega)];decide),if_neg (by rw [decide_eq_true (by omega)];decide),if_neg (by rw [decide_eq_true (by omega)];decide),if_neg (by rw [decide_eq_true (by omega)];decide),show (!decide ((n.2.2.2.2.length:Int)=(n.2.1.length:Int)))=false by rw [decide_eq_true (by omega)];rfl,Za0,Zbg,if_neg (show ¬ (false=true) by decide),if_neg (show ¬ (false=true) by decide)]
    by_cases hk:1024<n.2.1.length
    ·rw [if_pos (decide_eq_true (by omega)),if_pos (decide_eq_true (by omega))]
     exact ⟨4,rfl,rfl,fun h=>by cases h⟩
    ·rw [if_neg (by rw [decide_eq_false (by omega)];decide),if_neg (by rw [decide_eq_false (by omega)];decide)]
     have nn:Zez (n.1,n.2.1,n.2.2.1,n.2.2.2.1,n.2.2.2.2)=some (Th n.2.1 n.2.2.1 n.2.1.length 0):=Zx0 n hv
     have rn:=Zsu N n hv (by omega) hs.vl (by omega) n.2.1.length N 0 (by omega) (by omega)
     rw [show ((0:Nat):Int)=0 from rfl] at rn
     rw [nn,Option.bind_some,rn]
     by_cases hnms:Th n.2.1 n.2.2.1 n.2.1.length 0=0
     ·rw [if_neg (by rw [decide_eq_true hnms];decide),if_pos hnms]
      obtain ⟨f,hf⟩:∃ f,N - n.2.1.length=f+1:=⟨N - n.2.1.length - 1,by omega⟩
      rw [hf,Tz.eq_2,if_neg (by rw [decide_eq_false (by omega)];decide)]
      have hne:∀ l ∈ n.2.2.1,l≠[]:=fun l hl=>by
       obtain ⟨i,hi,rfl⟩:=List.mem_iff_getElem.1 hl
       have:=(Zl1 _ 0 hnms i (by omega) (by omega)).1
       rw [Wx hi] at this;exact this
      have fin:∀ e,Qt N n.2.2.2.1=some e→So N n.2.2.2.1=some e→e≠0→∃ e,((Qt N n.2.2.2.1).bind fun r_17=>if (!decide (r_17=0))=true then some r_17 else Qx N n n.2.2.2.2 0)=some e∧((So N n.2.2.2.1).bind fun r_76=>if (!decide (r_76=0))=true then some r_76 else (Zc4 N (n.1,n.2.1,n.2.2.1,n.2.2.2.1,n.2.2.2.2)).bind fun r_80=>Zac N n r_80 N 0)=some e∧(e=0→Zgq N n):=fun e h1 h2 h3=>by
       rw [h1,h2,Option.bind_some,Option.bind_some,if_pos (by rw [decide_eq_false h3];decide),if_pos (by rw [decide_eq_false h3];decide)]
       exact ⟨e,rfl,rfl,fun h=>absurd h h3⟩
      rcases Zta hs.pn hN with ⟨e,D,R,h3⟩ | ⟨_,_,l,_,_,_,_,D,R⟩ | ⟨hI,hT,l,ho,hok,hmx,hle,D,R⟩
      ·exact fin e (by rw [Qt,D];rfl) R (by rcases h3 with h | h <;> omega)
      ·exact fin 42 (by rw [Qt,D];rfl) R (by decide)
      ·have D':Qt N n.2.2.2.1=some 0:=by rw [Qt,D];rfl
       have he:Zal n:=⟨hv,hp,ht,hI,hne⟩
       have hsz:Zc4 N (n.1,n.2.1,n.2.2.1,n.2.2.2.1,n.2.2.2.2)=some (n.2.2.1.map fun l=>(l.length:Int)):=Zzo (n:=n) (by omega) (by omega)
       have ms:=Zqj (N:=N) hs he n.2.2.2.2 0 (by simp) (by omega)
       have rs:=Zs0 (N:=N) (by omega) hs he n.2.1.length N 0 (by omega) (by omega)
       rw [show ((0:Nat):Int)=0 from rfl] at rs
       rw [D',R,Option.bind_some,Option.bind_some,if_neg (by decide),if_neg (by decide),hsz,Option.bind_some,ms,rs,ht]
       by_cases hsh:Tj n.2.2.1 n.2.2.2.1 n.2.2.2.2 n.2.1.length 0=0
       ·have me:=Zp9 (N:=N) (n:=n) (W:=W) (hr.mono (by omega)) n.2.2.2.2 (fun t h=>⟨hs.tl t h,hs.tq t h,hs.lim t h⟩)
        have re:=Zse (N:=N) (n.2.2.1.map fun l=>(l.length:Int)) hs ht (hr.mono (by omega)) (by omega) n.2.1.length N 0 (by omega) (by omega)
        rw [show ((0:Nat):Int)=0 from rfl,List.drop_zero] at re
        rw [if_pos hsh,if_pos hsh,me,re]
        by_cases hen:Zd8 n.2.2.2.2=true
        ·rw [if_pos hen,if_pos hen]
         exact ⟨45,rfl,rfl,fun h=>by cases h⟩
        ·have m6:=Zqk (N:=N) hs he hsh hr (by omega) n.2.2.2.2 0 (by simp) (by omega)
         have r6:=Zs3 (N:=N) hs he hsh hr (by omega) n.2.1.length N 0 (by omega) (by omega)
         rw [show ((0:Nat):Int)=0 from rfl] at r6
         rw [if_neg hen,if_neg hen,m6,r6,ht]
         exact ⟨_,rfl,rfl,fun h=>⟨he,by omega,hnms,hsh,Bool.eq_false_iff.2 hen,h,hT,l,D,ho,R,hok,hle⟩⟩
       ·rw [if_neg hsh,if_neg hsh]
        exact ⟨_,rfl,rfl,fun h=>absurd h hsh⟩
     ·rw [if_pos (by rw [decide_eq_false hnms];decide),if_neg hnms]
      exact ⟨_,rfl,rfl,fun h=>absurd h hnms⟩
   ·rw [if_neg (by rw [decide_eq_true (by omega)];decide),if_neg (by rw [decide_eq_true (by omega)];decide),if_neg (by rw [decide_eq_true (by omega)];decide),if_neg (by rw [decide_eq_true (by omega)];decide),decide_eq_false (by omega)]
    exact ⟨60,J1.1,J1.2,fun h=>by cases h⟩
  ·rw [if_neg (by rw [decide_eq_true (by omega)];decide),if_pos (by rw [decide_eq_false (by omega)];decide),if_neg (by rw [decide_eq_true (by omega)];decide),if_pos (by rw [decide_eq_false (by omega)];decide)]
   exact ⟨60,J1.1,J1.2,fun h=>by cases h⟩
 ·rw [if_pos (by rw [decide_eq_false (by omega)];decide),if_pos (by rw [decide_eq_false (by omega)];decide)]
  exact ⟨60,J1.1,J1.2,fun h=>by cases h⟩
theorem Zlr:Y2 Tryz.prog 9 1 16:=⟨Tryz.t9,_,rfl,rfl,rfl,rfl,rfl⟩
theorem Zd5:Y2 Tryz.prog 109 2 32:=⟨Tryz.t109,_,rfl,rfl,rfl,rfl,rfl⟩
def Zes (aa:(Int×(List (ByteArray×ByteArray))×(List (ByteArray×ByteArray))×Int×List ByteArray×(Bool×Bool))):Option (Int×(Nat×(List (ByteArray×ByteArray)))×(Nat×(List (ByteArray×ByteArray)))×Int×(Nat×List ByteArray)×(Bool×Bool)):=
  Xb ((([]:List (ByteArray×ByteArray)).length+aa.2.1.length) * 32≤140737488355328∧([]:List (ByteArray×ByteArray)).length+aa.2.1.length≤maxLen) (Xb (((([]:List (ByteArray×ByteArray))++aa.2.1).length+([(⟨#[35,49]⟩,⟨#[]⟩),(⟨#[35,50]⟩,⟨#[]⟩)]:List (ByteArray×ByteArray)).length) * 32≤140737488355328∧(([]:List (ByteArray×ByteArray))++aa.2.1).length+([(⟨#[35,49]⟩,⟨#[]⟩),(⟨#[35,50]⟩,⟨#[]⟩)]:List (ByteArray×ByteArray)).length≤maxLen) (Xb ((0:Int)≤(aa.2.1.length:Int)∧(aa.2.1.length:Int)≤(((([]:List (ByteArray×ByteArray))++aa.2.1)++([(⟨#[35,49]⟩,⟨#[]⟩),(⟨#[35,50]⟩,⟨#[]⟩)]:List (ByteArray×ByteArray))).length:Int)) (Xb ((([]:List (ByteArray×ByteArray)).length+aa.2.2.1.length) * 32≤140737488355328∧([]:List (ByteArray×ByteArray)).length+aa.2.2.1.length≤maxLen) (Xb (((([]:List (ByteArray×ByteArray))++aa.2.2.1).length+([(⟨#[35,51]⟩,⟨#[]⟩),(⟨#[35,52]⟩,⟨#[]⟩)]:List (ByteArray×ByteArray)).length) * 32≤140737488355328∧(([]:List (ByteArray×ByteArray))++aa.2.2.1).length+([(⟨#[35,51]⟩,⟨#[]⟩),(⟨#[35,52]⟩,⟨#[]⟩)]:List (ByteArray×ByteArray)).length≤maxLen) (Xb ((0:Int)≤(aa.2.2.1.length:Int)∧(aa.2.2.1.length:Int)≤(((([]:List (ByteArray×ByteArray))++aa.2.2.1)++([(⟨#[35,51]⟩,⟨#[]⟩),(⟨#[35,52]⟩,⟨#[]⟩)]:List (ByteArray×ByteArray))).length:Int)) (Xb ((([]:List ByteArray).length+aa.2.2.2.2.1.length) * 16≤140737488355328∧([]:List ByteArray).length+aa.2.2.2.2.1.length≤maxLen) (Xb (((([]:List ByteArray)++aa.2.2.2.2.1).length+([⟨#[35,53]⟩,⟨#[35,54]⟩]:List ByteArray).length) * 16≤140737488355328∧(([]:List ByteArray)++aa.2.2.2.2.1).length+([⟨#[35,53]⟩,⟨#[35,54]⟩]:List ByteArray).length≤maxLen) (Xb ((0:Int)≤(aa.2.2.2.2.1.length:Int)∧(aa.2.2.2.2.1.length:Int)≤(((([]:List ByteArray)++aa.2.2.2.2.1)++([⟨#[35,53]⟩,⟨#[35,54]⟩]:List ByteArray)).length:Int)) (some (aa.1,((Int.toNat (aa.2.1.length:Int)),(([]:List (ByteArray×ByteArray))++aa.2.1)++([(⟨#[35,49]⟩,⟨#[]⟩),(⟨#[35,50]⟩,⟨#[]⟩)]:List (ByteArray×ByteArray))),((Int.toNat (aa.2.2.1.length:Int)),(([]:List (ByteArray×ByteArray))++aa.2.2.1)++([(⟨#[35,51]⟩,⟨#[]⟩),(⟨#[35,52]⟩,⟨#[]⟩)]:List (ByteArray×ByteArray))),aa.2.2.2.1,((Int.toNat (aa.2.2.2.2.1.length:Int)),(([]:List ByteArray)++aa.2.2.2.2.1)++([⟨#[35,53]⟩,⟨#[35,54]⟩]:List ByteArray)),(aa.2.2.2.2.2.1,aa.2.2.2.2.2.2)))))))))))
theorem Zul (col:Zh) (w0:World) (be:Option Addr) (bf:Nat) (a5:Option Addr) (a6:Nat) (ap:Option Addr) (aq:Nat) (aa:(Int×(List (ByteArray×ByteArray))×(List (ByteArray×ByteArray))×Int×List ByteArray×(Bool×Bool))) (bq:Sl (Za.pair Za.str Za.str) col w0 be bf aa.2.1) (br:Sl (Za.pair Za.str Za.str) col w0 a5 a6 aa.2.2.1) (bs:Sl Za.str col w0 ap aq aa.2.2.2.2.1) (r:(Int×(Nat×(List (ByteArray×ByteArray)))×(Nat×(List (ByteArray×ByteArray)))×Int×(Nat×List ByteArray)×(Bool×Bool))) (hm:Zes aa=some r):
    Calls Tryz.prog 16 #[(.agg #[.int .i8 aa.1,.slice be aa.2.1.length bf,.slice a5 aa.2.2.1.length a6,.int .i8 aa.2.2.2.1,.slice ap aa.2.2.2.2.1.length aq,.bool aa.2.2.2.2.2.1,.bool aa.2.2.2.2.2.2])] w0 (fun e w'=>∃ (col':Zh) (ra1:Option Addr) (rc2:Nat) (ra4:Option Addr) (rc5:Nat) (ra7:Option Addr) (rc8:Nat),e= .returned ((.agg #[.int .i8 r.1,.slice ra1 ((r.2.1.2.take r.2.1.1).length) rc2,.slice ra4 ((r.2.2.1.2.take r.2.2.1.1).length) rc5,.int .i8 r.2.2.2.1,.slice ra7 ((r.2.2.2.2.1.2.take r.2.2.2.2.1.1).length) rc8,.bool r.2.2.2.2.2.1,.bool r.2.2.2.2.2.2]))∧Zf col w0 col' w'∧Sl (Za.pair Za.str Za.str) col' w' ra1 rc2 r.2.1.2∧Sl (Za.pair Za.str Za.str) col' w' ra4 rc5 r.2.2.1.2∧Sl Za.str col' w' ra7 rc8 r.2.2.2.2.1.2):=by
 refine Wq (m:=67) (args:=[(.agg #[.int .i8 aa.1,.slice be aa.2.1.length bf,.slice a5 aa.2.2.1.length a6,.int .i8 aa.2.2.2.1,.slice ap aa.2.2.2.2.1.length aq,.bool aa.2.2.2.2.2.1,.bool aa.2.2.2.2.2.2])]) func16 rfl rfl rfl ?_;rw [Zes.eq_1] at hm;have ac:=St.start col w0;refine Zb<|Zd<|X3 (col:=(Zo col)) 1 rfl ?_;intro ar d2 cz c0 ad;refine Yt (col:=cz) #[.int .i8 0,.slice none (([]:List (ByteArray×ByteArray)).length) 0,.slice none (([]:List (ByteArray×ByteArray)).length) 0,.int .i8 0,.slice none (([]:List ByteArray).length) 0,.bool false,.bool false] 2 zeroValue32 ?_;intro d3 d4 c1 cf bt;refine Zc<|Zb<|Zd ?_;replace ad:=ad.gr cf;refine lV _ (Ye isAgg32 sizeOf32 ad)<|Yt (col:=c1) #[.int .i8 0,.slice none (([]:List (ByteArray×ByteArray)).length) 0,.slice none (([]:List (ByteArray×ByteArray)).length) 0,.int .i8 0,.slice none (([]:List ByteArray).length) 0,.bool false,.bool false] 3 zeroValue32 ?_;intro ab d5 bg bu c3;refine Ya #[.int .i8 aa.1,.slice be aa.2.1.length bf,.slice a5 aa.2.2.1.length a6,.int .i8 aa.2.2.2.1,.slice ap aa.2.2.2.2.1.length aq,.bool aa.2.2.2.2.2.1,.bool aa.2.2.2.2.2.2] c3 sizeOf32 ?_;intro d6 bv c4 c5;refine Zc<|Zb<|Zd<|lF ab 1 underlying32 rfl sizeOf29<|V1 (off:=1) (v:=(.slice none (([]:List (ByteArray×ByteArray)).length) 0)) c5 sizeOf29 rfl rfl (by intro u hu;simp only [Value.cells,List.mem_cons,List.not_mem_nil,or_false] at hu;subst hu;rfl) rfl rfl ?_;intro c6 bw c7 bx;replace bx:Zt 32 3 bg c6 ab #[.int .i8 aa.1,.slice none (([]:List (ByteArray×ByteArray)).length) 0,.slice a5 aa.2.2.1.length a6,.int .i8 aa.2.2.2.1,.slice ap aa.2.2.2.2.1.length aq,.bool aa.2.2.2.2.2.1,.bool aa.2.2.2.2.2.2]:=bx;refine Zc<|Zb<|Zd<|lF ab 2 underlying32 rfl sizeOf29<|V1 (off:=2) (v:=(.slice none (([]:List (ByteArray×ByteArray)).length) 0)) bx sizeOf29 rfl rfl (by intro u hu;simp only [Value.cells,List.mem_cons,List.not_mem_nil,or_false] at hu;subst hu;rfl) rfl rfl ?_;intro c8 bz c9 b0;replace b0:Zt 32 3 bg c8 ab #[.int .i8 aa.1,.slice none (([]:List (ByteArray×ByteArray)).length) 0,.slice none (([]:List (ByteArray×ByteArray)).length) 0,.int .i8 aa.2.2.2.1,.slice ap aa.2.2.2.2.1.length aq,.bool aa.2.2.2.2.2.1,.bool aa.2.2.2.2.2.2]:=b0
 refine Zc<|Zb<|Zd<|lF ab 4 underlying32 rfl sizeOf22<|V1 (off:=4) (v:=(.slice none (([]:List ByteArray).length) 0)) b0 sizeOf22 rfl rfl (by intro u hu;simp only [Value.cells,List.mem_cons,List.not_mem_nil,or_false] at hu;subst hu;rfl) rfl rfl ?_;intro cg b1 da au;replace au:Zt 32 3 bg cg ab #[.int .i8 aa.1,.slice none (([]:List (ByteArray×ByteArray)).length) 0,.slice none (([]:List (ByteArray×ByteArray)).length) 0,.int .i8 aa.2.2.2.1,.slice none (([]:List ByteArray).length) 0,.bool aa.2.2.2.2.2.1,.bool aa.2.2.2.2.2.2]:=au;refine Zc<|Zb<|Zd<|Z9 ab 1 underlying32 rfl sizeOf29 isAgg29 au rfl<|lF ar 1 underlying32 rfl sizeOf29 ?_;replace ad:=((((ad.gr bu).kp bv).kp bw).kp bz).kp b1;refine lV _ (Zn isAgg29 rfl ((ad.atN).nth (q:=1) rfl)) ?_;obtain ⟨ch,hm⟩:=Xd hm;replace bq:=bq.keep (Zp.start col w0);replace ac:=((((((ac.grow c0).grow cf).grow bu).kp bv c4).kp bw c7).kp bz c9).kp b1 da;refine Wr (col:=bg) (w:=cg) (r:=(Za.pair Za.str Za.str)) (c:=4) (c2:=4) (xs:=([]:List (ByteArray×ByteArray))) (ys:=aa.2.1) Zl.nil (bq.ks ac).srcC rfl underlying29 Zd5 rfl rfl rfl ch.1 ch.2 (by decide) ?_;intro ci cj d7 ck bh b2;refine lF ab 1 underlying32 rfl sizeOf29 ?_;replace au:=au.kpp bh;refine V1 (off:=1) (v:=(.slice ci ((([]:List (ByteArray×ByteArray))++aa.2.1).length) cj)) au sizeOf29 rfl rfl (by intro u hu;simp only [Value.cells,List.mem_cons,List.not_mem_nil,or_false] at hu;subst hu;rfl) rfl rfl ?_;intro db bi dc av;replace av:Zt 32 3 ck db ab #[.int .i8 aa.1,(.slice ci ((([]:List (ByteArray×ByteArray))++aa.2.1).length) cj),.slice none (([]:List (ByteArray×ByteArray)).length) 0,.int .i8 aa.2.2.2.1,.slice none (([]:List ByteArray).length) 0,.bool aa.2.2.2.2.2.1,.bool aa.2.2.2.2.2.2]:=av
 refine Zc<|Zb<|Zd<|Z9 ab 1 underlying32 rfl sizeOf29 isAgg29 av rfl<|lV (.agg #[.string (⟨#[35,49]⟩),.string (⟨#[]⟩)]) (Vi (l:=[_,_]) (qs:=[(0,1),(1,1)]) underlying109 zeroValue109 ⟨rfl,sizeOf9,rfl,sizeOf9,trivial⟩ rfl)<|lV (.agg #[.string (⟨#[35,50]⟩),.string (⟨#[]⟩)]) (Vi (l:=[_,_]) (qs:=[(0,1),(1,1)]) underlying109 zeroValue109 ⟨rfl,sizeOf9,rfl,sizeOf9,trivial⟩ rfl)<|Wk (col:=ck) (r:=(Za.pair Za.str Za.str)) (xs:=([(⟨#[35,49]⟩,⟨#[]⟩),(⟨#[35,50]⟩,⟨#[]⟩)]:List (ByteArray×ByteArray))) [(.agg #[.string (⟨#[35,49]⟩),.string (⟨#[]⟩)]),(.agg #[.string (⟨#[35,50]⟩),.string (⟨#[]⟩)])] 5 rfl underlying29 Zd5 rfl rfl rfl rfl rfl rfl (by intro v hv;simp only [List.mem_cons,List.not_mem_nil,or_false] at hv;rcases hv with rfl | rfl <;> rfl) (Y6.ofF (Rows.consF (r:=(Za.pair Za.str Za.str)) (x:=(⟨#[35,49]⟩,⟨#[]⟩)) (cs:=[.string (⟨#[35,49]⟩),.string (⟨#[]⟩)]) (T9 (Us (⟨#[35,49]⟩)) (Us (⟨#[]⟩))) (Rows.consF (r:=(Za.pair Za.str Za.str)) (x:=(⟨#[35,50]⟩,⟨#[]⟩)) (cs:=[.string (⟨#[35,50]⟩),.string (⟨#[]⟩)]) (T9 (Us (⟨#[35,50]⟩)) (Us (⟨#[]⟩))) Rows.nil0))) ?_;intro d8 dd de a7 df;obtain ⟨cl,hm⟩:=Xd hm;replace b2:=(b2.kp bi).gr a7;refine Qq (col:=de) (w:=dd) (r:=(Za.pair Za.str Za.str)) (c:=4) (c2:=4) (b2.ex) (df.srcN (NB.pair NB.str NB.str)) rfl underlying29 Zd5 rfl rfl rfl cl.1 cl.2 (by decide) ?_;intro ae af d9 b3 bj b4;refine lF ab 1 underlying32 rfl sizeOf29 ?_;replace av:=(av.gr a7).kpp bj;refine V1 (off:=1) (v:=(.slice ae (((([]:List (ByteArray×ByteArray))++aa.2.1)++([(⟨#[35,49]⟩,⟨#[]⟩),(⟨#[35,50]⟩,⟨#[]⟩)]:List (ByteArray×ByteArray))).length) af)) av sizeOf29 rfl rfl (by intro u hu;simp only [Value.cells,List.mem_cons,List.not_mem_nil,or_false] at hu;subst hu;rfl) rfl rfl ?_;intro dg bk dh bl;replace bl:Zt 32 3 b3 dg ab #[.int .i8 aa.1,(.slice ae (((([]:List (ByteArray×ByteArray))++aa.2.1)++([(⟨#[35,49]⟩,⟨#[]⟩),(⟨#[35,50]⟩,⟨#[]⟩)]:List (ByteArray×ByteArray))).length) af),.slice none (([]:List (ByteArray×ByteArray)).length) 0,.int .i8 aa.2.2.2.1,.slice none (([]:List ByteArray).length) 0,.bool aa.2.2.2.2.2.1,.bool aa.2.2.2.2.2.2]:=bl;replace b4:=b4.kp bk;have ai:=b4.new;refine Zc<|Zb<|Zd<|Z9 ab 1 underlying32 rfl sizeOf29 isAgg29 bl rfl<|lF ar 1 underlying32 rfl sizeOf29 ?_;replace ad:=((((ad.kpp bh).kp bi).gr a7).kpp bj).kp bk;refine lV _ (Zn isAgg29 rfl ((ad.atN).nth (q:=1) rfl))<|lV _ (Zs underlying29 rfl) ?_;obtain ⟨b5,hm⟩:=Xd hm
 refine lv (v:=.slice ae (Int.toNat (aa.2.1.length:Int)) af) rfl rfl (Vk underlying29 sizeOf109 rfl rfl b5.1 (by have:=ai.lecap;have:=b5.2;omega))<|.ld (d:=26) (v:=(.slice ae ((((([]:List (ByteArray×ByteArray))++aa.2.1)++([(⟨#[35,49]⟩,⟨#[]⟩),(⟨#[35,50]⟩,⟨#[]⟩)]:List (ByteArray×ByteArray))).take (Int.toNat (aa.2.1.length:Int))).length) af)) (congrArg (fun n=>Value.slice ae n af) (List.length_take_of_le (show (Int.toNat (aa.2.1.length:Int))≤((([]:List (ByteArray×ByteArray))++aa.2.1)++([(⟨#[35,49]⟩,⟨#[]⟩),(⟨#[35,50]⟩,⟨#[]⟩)]:List (ByteArray×ByteArray))).length by have:=b5.2;omega)).symm) ?_;refine lF ab 1 underlying32 rfl sizeOf29<|V1 (off:=1) (v:=(.slice ae ((((([]:List (ByteArray×ByteArray))++aa.2.1)++([(⟨#[35,49]⟩,⟨#[]⟩),(⟨#[35,50]⟩,⟨#[]⟩)]:List (ByteArray×ByteArray))).take (Int.toNat (aa.2.1.length:Int))).length) af)) bl sizeOf29 rfl rfl (by intro u hu;simp only [Value.cells,List.mem_cons,List.not_mem_nil,or_false] at hu;subst hu;rfl) rfl rfl ?_;intro cm bm di aw;replace aw:Zt 32 3 b3 cm ab #[.int .i8 aa.1,(.slice ae ((((([]:List (ByteArray×ByteArray))++aa.2.1)++([(⟨#[35,49]⟩,⟨#[]⟩),(⟨#[35,50]⟩,⟨#[]⟩)]:List (ByteArray×ByteArray))).take (Int.toNat (aa.2.1.length:Int))).length) af),.slice none (([]:List (ByteArray×ByteArray)).length) 0,.int .i8 aa.2.2.2.1,.slice none (([]:List ByteArray).length) 0,.bool aa.2.2.2.2.2.1,.bool aa.2.2.2.2.2.2]:=aw;refine Zc<|Zb<|Zd<|Z9 ab 2 underlying32 rfl sizeOf29 isAgg29 aw rfl<|lF ar 2 underlying32 rfl sizeOf29 ?_;replace ad:=ad.kp bm;refine lV _ (Zn isAgg29 rfl ((ad.atN).nth (q:=2) rfl)) ?_;obtain ⟨cn,hm⟩:=Xd hm;replace br:=br.keep (Zp.start col w0);replace ac:=(((((ac.kpp bh).kp bi dc).grow a7).kpp bj).kp bk dh).kp bm di;refine Wr (col:=b3) (w:=cm) (r:=(Za.pair Za.str Za.str)) (c:=6) (c2:=6) (xs:=([]:List (ByteArray×ByteArray))) (ys:=aa.2.2.1) Zl.nil (br.ks ac).srcC rfl underlying29 Zd5 rfl rfl rfl cn.1 cn.2 (by decide) ?_;intro co cp ea cq a8 b6;refine lF ab 2 underlying32 rfl sizeOf29 ?_;replace aw:=aw.kpp a8;refine V1 (off:=2) (v:=(.slice co ((([]:List (ByteArray×ByteArray))++aa.2.2.1).length) cp)) aw sizeOf29 rfl rfl (by intro u hu;simp only [Value.cells,List.mem_cons,List.not_mem_nil,or_false] at hu;subst hu;rfl) rfl rfl ?_;intro dj a9 dk ax
 replace ax:Zt 32 3 cq dj ab #[.int .i8 aa.1,(.slice ae ((((([]:List (ByteArray×ByteArray))++aa.2.1)++([(⟨#[35,49]⟩,⟨#[]⟩),(⟨#[35,50]⟩,⟨#[]⟩)]:List (ByteArray×ByteArray))).take (Int.toNat (aa.2.1.length:Int))).length) af),(.slice co ((([]:List (ByteArray×ByteArray))++aa.2.2.1).length) cp),.int .i8 aa.2.2.2.1,.slice none (([]:List ByteArray).length) 0,.bool aa.2.2.2.2.2.1,.bool aa.2.2.2.2.2.2]:=ax;refine Zc<|Zb<|Zd<|Z9 ab 2 underlying32 rfl sizeOf29 isAgg29 ax rfl<|lV (.agg #[.string (⟨#[35,51]⟩),.string (⟨#[]⟩)]) (Vi (l:=[_,_]) (qs:=[(0,1),(1,1)]) underlying109 zeroValue109 ⟨rfl,sizeOf9,rfl,sizeOf9,trivial⟩ rfl)<|lV (.agg #[.string (⟨#[35,52]⟩),.string (⟨#[]⟩)]) (Vi (l:=[_,_]) (qs:=[(0,1),(1,1)]) underlying109 zeroValue109 ⟨rfl,sizeOf9,rfl,sizeOf9,trivial⟩ rfl)<|Wk (col:=cq) (r:=(Za.pair Za.str Za.str)) (xs:=([(⟨#[35,51]⟩,⟨#[]⟩),(⟨#[35,52]⟩,⟨#[]⟩)]:List (ByteArray×ByteArray))) [(.agg #[.string (⟨#[35,51]⟩),.string (⟨#[]⟩)]),(.agg #[.string (⟨#[35,52]⟩),.string (⟨#[]⟩)])] 7 rfl underlying29 Zd5 rfl rfl rfl rfl rfl rfl (by intro v hv;simp only [List.mem_cons,List.not_mem_nil,or_false] at hv;rcases hv with rfl | rfl <;> rfl) (Y6.ofF (Rows.consF (r:=(Za.pair Za.str Za.str)) (x:=(⟨#[35,51]⟩,⟨#[]⟩)) (cs:=[.string (⟨#[35,51]⟩),.string (⟨#[]⟩)]) (T9 (Us (⟨#[35,51]⟩)) (Us (⟨#[]⟩))) (Rows.consF (r:=(Za.pair Za.str Za.str)) (x:=(⟨#[35,52]⟩,⟨#[]⟩)) (cs:=[.string (⟨#[35,52]⟩),.string (⟨#[]⟩)]) (T9 (Us (⟨#[35,52]⟩)) (Us (⟨#[]⟩))) Rows.nil0))) ?_;intro eb dl dm ay dn;obtain ⟨cr,hm⟩:=Xd hm;replace b6:=(b6.kp a9).gr ay;refine Qq (col:=dm) (w:=dl) (r:=(Za.pair Za.str Za.str)) (c:=6) (c2:=6) (b6.ex) (dn.srcN (NB.pair NB.str NB.str)) rfl underlying29 Zd5 rfl rfl rfl cr.1 cr.2 (by decide) ?_;intro ag ah ec b7 ba b8;refine lF ab 2 underlying32 rfl sizeOf29 ?_;replace ax:=(ax.gr ay).kpp ba;refine V1 (off:=2) (v:=(.slice ag (((([]:List (ByteArray×ByteArray))++aa.2.2.1)++([(⟨#[35,51]⟩,⟨#[]⟩),(⟨#[35,52]⟩,⟨#[]⟩)]:List (ByteArray×ByteArray))).length) ah)) ax sizeOf29 rfl rfl (by intro u hu;simp only [Value.cells,List.mem_cons,List.not_mem_nil,or_false] at hu;subst hu;rfl) rfl rfl ?_;intro dp bb dq bn
 replace bn:Zt 32 3 b7 dp ab #[.int .i8 aa.1,(.slice ae ((((([]:List (ByteArray×ByteArray))++aa.2.1)++([(⟨#[35,49]⟩,⟨#[]⟩),(⟨#[35,50]⟩,⟨#[]⟩)]:List (ByteArray×ByteArray))).take (Int.toNat (aa.2.1.length:Int))).length) af),(.slice ag (((([]:List (ByteArray×ByteArray))++aa.2.2.1)++([(⟨#[35,51]⟩,⟨#[]⟩),(⟨#[35,52]⟩,⟨#[]⟩)]:List (ByteArray×ByteArray))).length) ah),.int .i8 aa.2.2.2.1,.slice none (([]:List ByteArray).length) 0,.bool aa.2.2.2.2.2.1,.bool aa.2.2.2.2.2.2]:=bn;replace b8:=b8.kp bb;have aj:=b8.new;refine Zc<|Zb<|Zd<|Z9 ab 2 underlying32 rfl sizeOf29 isAgg29 bn rfl<|lF ar 2 underlying32 rfl sizeOf29 ?_;replace ad:=((((ad.kpp a8).kp a9).gr ay).kpp ba).kp bb;refine lV _ (Zn isAgg29 rfl ((ad.atN).nth (q:=2) rfl))<|lV _ (Zs underlying29 rfl) ?_;obtain ⟨b9,hm⟩:=Xd hm;refine lv (v:=.slice ag (Int.toNat (aa.2.2.1.length:Int)) ah) rfl rfl (Vk underlying29 sizeOf109 rfl rfl b9.1 (by have:=aj.lecap;have:=b9.2;omega))<|.ld (d:=46) (v:=(.slice ag ((((([]:List (ByteArray×ByteArray))++aa.2.2.1)++([(⟨#[35,51]⟩,⟨#[]⟩),(⟨#[35,52]⟩,⟨#[]⟩)]:List (ByteArray×ByteArray))).take (Int.toNat (aa.2.2.1.length:Int))).length) ah)) (congrArg (fun n=>Value.slice ag n ah) (List.length_take_of_le (show (Int.toNat (aa.2.2.1.length:Int))≤((([]:List (ByteArray×ByteArray))++aa.2.2.1)++([(⟨#[35,51]⟩,⟨#[]⟩),(⟨#[35,52]⟩,⟨#[]⟩)]:List (ByteArray×ByteArray))).length by have:=b9.2;omega)).symm) ?_;refine lF ab 2 underlying32 rfl sizeOf29<|V1 (off:=2) (v:=(.slice ag ((((([]:List (ByteArray×ByteArray))++aa.2.2.1)++([(⟨#[35,51]⟩,⟨#[]⟩),(⟨#[35,52]⟩,⟨#[]⟩)]:List (ByteArray×ByteArray))).take (Int.toNat (aa.2.2.1.length:Int))).length) ah)) bn sizeOf29 rfl rfl (by intro u hu;simp only [Value.cells,List.mem_cons,List.not_mem_nil,or_false] at hu;subst hu;rfl) rfl rfl ?_;intro ct bc dr az;replace az:Zt 32 3 b7 ct ab #[.int .i8 aa.1,(.slice ae ((((([]:List (ByteArray×ByteArray))++aa.2.1)++([(⟨#[35,49]⟩,⟨#[]⟩),(⟨#[35,50]⟩,⟨#[]⟩)]:List (ByteArray×ByteArray))).take (Int.toNat (aa.2.1.length:Int))).length) af),(.slice ag ((((([]:List (ByteArray×ByteArray))++aa.2.2.1)++([(⟨#[35,51]⟩,⟨#[]⟩),(⟨#[35,52]⟩,⟨#[]⟩)]:List (ByteArray×ByteArray))).take (Int.toNat (aa.2.2.1.length:Int))).length) ah),.int .i8 aa.2.2.2.1,.slice none (([]:List ByteArray).length) 0,.bool aa.2.2.2.2.2.1,.bool aa.2.2.2.2.2.2]:=az;refine Zc<|Zb<|Zd<|Z9 ab 4 underlying32 rfl sizeOf22 isAgg22 az rfl<|lF ar 4 underlying32 rfl sizeOf22 ?_;replace ad:=ad.kp bc
 refine lV _ (Zn isAgg22 rfl ((ad.atN).nth (q:=4) rfl)) ?_;obtain ⟨cu,hm⟩:=Xd hm;replace bs:=bs.keep (Zp.start col w0);replace ac:=(((((ac.kpp a8).kp a9 dk).grow ay).kpp ba).kp bb dq).kp bc dr;refine Wr (col:=b7) (w:=ct) (r:=Za.str) (c:=8) (c2:=8) (xs:=([]:List ByteArray)) (ys:=aa.2.2.2.2.1) Zl.nil (bs.ks ac).srcC rfl underlying22 Zlr rfl rfl rfl cu.1 cu.2 (by decide) ?_;intro cv cw ed cx a0 ca;refine lF ab 4 underlying32 rfl sizeOf22 ?_;replace az:=az.kpp a0;refine V1 (off:=4) (v:=(.slice cv ((([]:List ByteArray)++aa.2.2.2.2.1).length) cw)) az sizeOf22 rfl rfl (by intro u hu;simp only [Value.cells,List.mem_cons,List.not_mem_nil,or_false] at hu;subst hu;rfl) rfl rfl ?_;intro ds a1 dt a2;replace a2:Zt 32 3 cx ds ab #[.int .i8 aa.1,(.slice ae ((((([]:List (ByteArray×ByteArray))++aa.2.1)++([(⟨#[35,49]⟩,⟨#[]⟩),(⟨#[35,50]⟩,⟨#[]⟩)]:List (ByteArray×ByteArray))).take (Int.toNat (aa.2.1.length:Int))).length) af),(.slice ag ((((([]:List (ByteArray×ByteArray))++aa.2.2.1)++([(⟨#[35,51]⟩,⟨#[]⟩),(⟨#[35,52]⟩,⟨#[]⟩)]:List (ByteArray×ByteArray))).take (Int.toNat (aa.2.2.1.length:Int))).length) ah),.int .i8 aa.2.2.2.1,.slice cv ((([]:List ByteArray)++aa.2.2.2.2.1).length) cw,.bool aa.2.2.2.2.2.1,.bool aa.2.2.2.2.2.2]:=a2;refine Zc<|Zb<|Zd<|Z9 ab 4 underlying32 rfl sizeOf22 isAgg22 a2 rfl<|Wk (col:=cx) (r:=Za.str) (xs:=([⟨#[35,53]⟩,⟨#[35,54]⟩]:List ByteArray)) [.string (⟨#[35,53]⟩),.string (⟨#[35,54]⟩)] 9 rfl underlying22 Zlr rfl rfl rfl rfl rfl rfl (by intro v hv;simp only [List.mem_cons,List.not_mem_nil,or_false] at hv;rcases hv with rfl | rfl <;> rfl) (Y6.ofF (Rows.consF (r:=Za.str) (x:=⟨#[35,53]⟩) (cs:=[.string (⟨#[35,53]⟩)]) (Us (⟨#[35,53]⟩)) (Rows.consF (r:=Za.str) (x:=⟨#[35,54]⟩) (cs:=[.string (⟨#[35,54]⟩)]) (Us (⟨#[35,54]⟩)) Rows.nil0))) ?_;intro ee du dv an dw;obtain ⟨cy,hm⟩:=Xd hm;replace ca:=(ca.kp a1).gr an;refine Qq (col:=dv) (w:=du) (r:=Za.str) (c:=8) (c2:=8) (ca.ex) (dw.srcN NB.str) rfl underlying22 Zlr rfl rfl rfl cy.1 cy.2 (by decide) ?_;intro al am ef cb a3 cc;refine lF ab 4 underlying32 rfl sizeOf22 ?_;replace a2:=(a2.gr an).kpp a3;refine V1 (off:=4) (v:=(.slice al (((([]:List ByteArray)++aa.2.2.2.2.1)++([⟨#[35,53]⟩,⟨#[35,54]⟩]:List ByteArray)).length) am)) a2 sizeOf22 rfl rfl (by intro u hu;simp only [Value.cells,List.mem_cons,List.not_mem_nil,or_false] at hu;subst hu;rfl) rfl rfl ?_;intro dx a4 dy bo
 replace bo:Zt 32 3 cb dx ab #[.int .i8 aa.1,(.slice ae ((((([]:List (ByteArray×ByteArray))++aa.2.1)++([(⟨#[35,49]⟩,⟨#[]⟩),(⟨#[35,50]⟩,⟨#[]⟩)]:List (ByteArray×ByteArray))).take (Int.toNat (aa.2.1.length:Int))).length) af),(.slice ag ((((([]:List (ByteArray×ByteArray))++aa.2.2.1)++([(⟨#[35,51]⟩,⟨#[]⟩),(⟨#[35,52]⟩,⟨#[]⟩)]:List (ByteArray×ByteArray))).take (Int.toNat (aa.2.2.1.length:Int))).length) ah),.int .i8 aa.2.2.2.1,(.slice al (((([]:List ByteArray)++aa.2.2.2.2.1)++([⟨#[35,53]⟩,⟨#[35,54]⟩]:List ByteArray)).length) am),.bool aa.2.2.2.2.2.1,.bool aa.2.2.2.2.2.2]:=bo;replace cc:=cc.kp a4;have ak:=cc.new;refine Zc<|Zb<|Zd<|Z9 ab 4 underlying32 rfl sizeOf22 isAgg22 bo rfl<|lF ar 4 underlying32 rfl sizeOf22 ?_;replace ad:=((((ad.kpp a0).kp a1).gr an).kpp a3).kp a4;refine lV _ (Zn isAgg22 rfl ((ad.atN).nth (q:=4) rfl))<|lV _ (Zs underlying22 rfl) ?_;obtain ⟨cd,hm⟩:=Xd hm;refine lv (v:=.slice al (Int.toNat (aa.2.2.2.2.1.length:Int)) am) rfl rfl (Vk underlying22 sizeOf9 rfl rfl cd.1 (by have:=ak.lecap;have:=cd.2;omega))<|.ld (d:=64) (v:=(.slice al ((((([]:List ByteArray)++aa.2.2.2.2.1)++([⟨#[35,53]⟩,⟨#[35,54]⟩]:List ByteArray)).take (Int.toNat (aa.2.2.2.2.1.length:Int))).length) am)) (congrArg (fun n=>Value.slice al n am) (List.length_take_of_le (show (Int.toNat (aa.2.2.2.2.1.length:Int))≤((([]:List ByteArray)++aa.2.2.2.2.1)++([⟨#[35,53]⟩,⟨#[35,54]⟩]:List ByteArray)).length by have:=cd.2;omega)).symm) ?_;refine lF ab 4 underlying32 rfl sizeOf22<|V1 (off:=4) (v:=(.slice al ((((([]:List ByteArray)++aa.2.2.2.2.1)++([⟨#[35,53]⟩,⟨#[35,54]⟩]:List ByteArray)).take (Int.toNat (aa.2.2.2.2.1.length:Int))).length) am)) bo sizeOf22 rfl rfl (by intro u hu;simp only [Value.cells,List.mem_cons,List.not_mem_nil,or_false] at hu;subst hu;rfl) rfl rfl ?_;intro dz bd d0 ce;replace ce:Zt 32 3 cb dz ab #[.int .i8 aa.1,(.slice ae ((((([]:List (ByteArray×ByteArray))++aa.2.1)++([(⟨#[35,49]⟩,⟨#[]⟩),(⟨#[35,50]⟩,⟨#[]⟩)]:List (ByteArray×ByteArray))).take (Int.toNat (aa.2.1.length:Int))).length) af),(.slice ag ((((([]:List (ByteArray×ByteArray))++aa.2.2.1)++([(⟨#[35,51]⟩,⟨#[]⟩),(⟨#[35,52]⟩,⟨#[]⟩)]:List (ByteArray×ByteArray))).take (Int.toNat (aa.2.2.1.length:Int))).length) ah),.int .i8 aa.2.2.2.1,(.slice al ((((([]:List ByteArray)++aa.2.2.2.2.1)++([⟨#[35,53]⟩,⟨#[35,54]⟩]:List ByteArray)).take (Int.toNat (aa.2.2.2.2.1.length:Int))).length) am),.bool aa.2.2.2.2.2.1,.bool aa.2.2.2.2.2.2]:=ce
 refine Zc<|Zb<|Zd<|lV _ (Ye isAgg32 sizeOf32 ce) ?_;replace bt:=((((((((((((((((((((((bt.gr bu).kp bv).kp bw).kp bz).kp b1).kpp bh).kp bi).gr a7).kpp bj).kp bk).kp bm).kpp a8).kp a9).gr ay).kpp ba).kp bb).kp bc).kpp a0).kp a1).gr an).kpp a3).kp a4).kp bd;refine Ya #[.int .i8 aa.1,(.slice ae ((((([]:List (ByteArray×ByteArray))++aa.2.1)++([(⟨#[35,49]⟩,⟨#[]⟩),(⟨#[35,50]⟩,⟨#[]⟩)]:List (ByteArray×ByteArray))).take (Int.toNat (aa.2.1.length:Int))).length) af),(.slice ag ((((([]:List (ByteArray×ByteArray))++aa.2.2.1)++([(⟨#[35,51]⟩,⟨#[]⟩),(⟨#[35,52]⟩,⟨#[]⟩)]:List (ByteArray×ByteArray))).take (Int.toNat (aa.2.2.1.length:Int))).length) ah),.int .i8 aa.2.2.2.1,(.slice al ((((([]:List ByteArray)++aa.2.2.2.2.1)++([⟨#[35,53]⟩,⟨#[35,54]⟩]:List ByteArray)).take (Int.toNat (aa.2.2.2.2.1.length:Int))).length) am),.bool aa.2.2.2.2.2.1,.bool aa.2.2.2.2.2.2] bt sizeOf32 ?_;intro eg bp d1 ao;refine Zc<|Zq ?_;replace ai:=(((((((((((((ai.kp bm).kpp a8).kp a9).gr ay).kpp ba).kp bb).kp bc).kpp a0).kp a1).gr an).kpp a3).kp a4).kp bd).kp bp;replace ai:=(ai).toSlF (Z2.pair Z2.str Z2.str);replace aj:=(((((((aj.kp bc).kpp a0).kp a1).gr an).kpp a3).kp a4).kp bd).kp bp;replace aj:=aj.froz 4 (by decide);replace ak:=(ak.kp bd).kp bp;replace ak:=ak.froz 4 (by decide);replace ao:=ao.froz 4 (by decide);replace ac:=((((((ac.kpp a0).kp a1 dt).grow an).kpp a3).kp a4 dy).kp bd d0).kp bp d1;replace ac:=ac.froz 4 (by decide) (by decide);replace ai:=ai.froz 6;replace aj:=(aj).toSlF (Z2.pair Z2.str Z2.str);replace ak:=ak.froz 6 (by decide);replace ao:=ao.froz 6 (by decide);replace ac:=ac.froz 6 (by decide) (by decide);replace ai:=ai.froz 8;replace aj:=aj.froz 8;replace ak:=(ak).toSlF Z2.str;replace ao:=ao.froz 8 (by decide);replace ac:=ac.froz 8 (by decide) (by decide);cases hm;exact ⟨rfl,_,Wi rfl rfl isAgg32 sizeOf32 rfl rfl ao.atN,Xh w0.heap.size col (Z3 8 (Z3 6 (Z3 4 cb))) (fun n=>0),ae,af,ag,ah,al,am,rfl,ac.fin (fun n=>0),ac.finSl (g:=(fun n=>0)) rfl ai,ac.finSl (g:=(fun n=>0)) rfl aj,ac.finSl (g:=(fun n=>0)) rfl ak⟩
theorem Zoe:Y2 Tryz.prog 109 2 32:=⟨Tryz.t109,_,rfl,rfl,rfl,rfl,rfl⟩
def Zj3 (aa:(List (ByteArray×ByteArray))):Option (List (ByteArray×ByteArray)):=
  Xb ((([]:List (ByteArray×ByteArray)).length+aa.length) * 32≤140737488355328∧([]:List (ByteArray×ByteArray)).length+aa.length≤maxLen) (some (([]:List (ByteArray×ByteArray))++aa))
theorem Zvw (c1:Nat) (col:Zh) (w0:World) (a0:Option Addr) (ad:Nat) (ab:(List (ByteArray×ByteArray))) (h0:Sl (Za.pair Za.str Za.str) col w0 a0 ad ab) (r:(List (ByteArray×ByteArray))) (hm:Zj3 ab=some r):
    Calls Tryz.prog 77 #[.slice a0 ab.length ad] w0 (fun e w'=>∃ (col':Zh) (ra1:Option Addr) (rc2:Nat),e= .returned ((.slice ra1 r.length rc2))∧Zf col w0 col' w'∧Zl (Za.pair Za.str Za.str) 109 c1 col' w' ra1 rc2 r):=by
 refine Xv 2 (m:=8) func77 rfl rfl rfl rfl rfl ?_;rw [Zj3.eq_1] at hm;have aa:=St.start col w0;refine Zb<|Zd<|Zu rfl<|Zc<|Zb<|Zb<|Zd<|Zk rfl ?_;replace h0:=h0.keep (Zp.start col w0);rcases Zqt h0 with ac | ac
 ·replace hm:some ([]:List (ByteArray×ByteArray))=some r:=by have h0:=ac.2;subst h0;simpa [Xb,maxLen] using hm
  refine lv (v:=.bool a0.isNone) rfl rfl (Zki underlying29 rfl)<|.ld (d:=4) (v:=.bool true) (congrArg Value.bool ac.1)<|Zc<|Wo rfl<|Zb<|Zd<|Zu rfl<|Zc<|Zq ?_;cases hm;exact ⟨rfl,Xh w0.heap.size col (Zo col) (fun n=>0),none,0,rfl,aa.fin (fun n=>0),Zl.nil⟩
 refine lv (v:=.bool a0.isNone) rfl rfl (Zki underlying29 rfl)<|.ld (d:=4) (v:=.bool false) (congrArg Value.bool ac)<|Zc<|Wn rfl<|Zr<|Zb<|Zd<|Zpk (col:=(Zo col)) (r:=(Za.pair Za.str Za.str)) 1 rfl underlying29 Zoe rfl ?_;intro ao ag ah ae ai;refine Zk rfl ?_;obtain ⟨af,hm⟩:=Xd hm;replace h0:=h0.gr ae;refine Wr (col:=ah) (w:=ag) (r:=(Za.pair Za.str Za.str)) (c:=1) (c2:=1) (xs:=([]:List (ByteArray×ByteArray))) (ys:=ab) ai h0.srcC rfl underlying29 Zoe rfl rfl rfl af.1 af.2 (by decide) ?_;intro aj ak ap al am an;refine Zu rfl<|Zc<|Zq ?_;cases hm;replace aa:=(aa.grow ae).kpp am;exact ⟨rfl,Xh w0.heap.size col al (fun n=>bif Nat.beq n 1 then c1 else 0),aj,ak,rfl,aa.fin (fun n=>bif Nat.beq n 1 then c1 else 0),aa.finOwn (g:=(fun n=>bif Nat.beq n 1 then c1 else 0)) rfl an (by decide) (by decide) rfl⟩
def Za8 (aa:(Int×(List (ByteArray×ByteArray))×(List (ByteArray×ByteArray))×Int×List ByteArray×(Bool×Bool))):Option Bool:=
  if (decide (aa.1=1))=true then (some (decide ((aa.2.2.1.length:Int)=0))) else (if (decide (aa.1=2))=true then (some (decide (0<(aa.2.1.length:Int)))) else (if (decide (aa.1=3))=true then (some (decide ((aa.2.1.length:Int)=1))) else (some false)))
theorem Zlc (col:Zh) (w0:World) (ae:Option Addr) (af:Nat) (ag:Option Addr) (ah:Nat) (ai:Option Addr) (aj:Nat) (aa:(Int×(List (ByteArray×ByteArray))×(List (ByteArray×ByteArray))×Int×List ByteArray×(Bool×Bool))) (al:Sl (Za.pair Za.str Za.str) col w0 ae af aa.2.1) (am:Sl (Za.pair Za.str Za.str) col w0 ag ah aa.2.2.1) (an:Sl Za.str col w0 ai aj aa.2.2.2.2.1) (r:Bool) (hm:Za8 aa=some r):
    Calls Tryz.prog 76 #[(.agg #[.int .i8 aa.1,.slice ae aa.2.1.length af,.slice ag aa.2.2.1.length ah,.int .i8 aa.2.2.2.1,.slice ai aa.2.2.2.2.1.length aj,.bool aa.2.2.2.2.2.1,.bool aa.2.2.2.2.2.2])] w0 (fun e w'=>e= .returned ((.bool r))∧Below w0.heap.size w0 w'):=by
 refine Xv 2 (m:=23) func76 rfl rfl rfl rfl rfl ?_;rw [Za8.eq_1] at hm;have ab:=St.start col w0;refine Zb<|Zd<|X3 (col:=(Zo col)) 1 rfl ?_;intro ac ao ap ak ad;refine Xc rfl<|Zc<|Zb<|Zb<|Zd<|Z9 ac 0 underlying32 rfl sizeOf28 isAgg28 ad rfl<|Zc<|Z0<|Zb<|Zd<|lV _ (Y9 _ _ rfl rfl)<|Xc rfl<|Zc ?_;replace ab:=ab.grow ak;refine Zy _ rfl (fun hb=>?_) (fun hb=>?_)
 ·rw [if_pos hb] at hm;refine Zb<|Zd<|Z9 ac 2 underlying32 rfl sizeOf29 isAgg29 ad rfl<|lV _ (Zs underlying29 rfl)<|lV _ (Y9 _ _ rfl rfl)<|Xc rfl<|Zc<|Zq ?_;cases hm;exact ⟨rfl,rfl,ab.below⟩
 rw [if_neg (Zz hb)] at hm;refine Zb<|Zd<|lV _ (Y9 _ _ rfl rfl)<|Xc rfl<|Zc ?_;refine Zy _ rfl (fun hb=>?_) (fun hb=>?_)
 ·rw [if_pos hb] at hm;refine Zb<|Zd<|Z9 ac 1 underlying32 rfl sizeOf29 isAgg29 ad rfl<|lV _ (Zs underlying29 rfl)<|lV _ (Wa _ _ rfl rfl)<|Xc rfl<|Zc<|Zq ?_;cases hm;exact ⟨rfl,rfl,ab.below⟩
 rw [if_neg (Zz hb)] at hm;refine Zb<|Zd<|lV _ (Y9 _ _ rfl rfl)<|Xc rfl<|Zc ?_;refine Zy _ rfl (fun hb=>?_) (fun hb=>?_)
 ·rw [if_pos hb] at hm;refine Zb<|Zd<|Z9 ac 1 underlying32 rfl sizeOf29 isAgg29 ad rfl<|lV _ (Zs underlying29 rfl)<|lV _ (Y9 _ _ rfl rfl)<|Xc rfl<|Zc<|Zq ?_;cases hm;exact ⟨rfl,rfl,ab.below⟩
 rw [if_neg (Zz hb)] at hm;refine Zr<|Zb<|Zd<|Xc rfl<|Zc<|Zq ?_;cases hm;exact ⟨rfl,rfl,ab.below⟩

end Go.Proofs.YtbmjpjhbankpoaaGreat
