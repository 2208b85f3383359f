/-
  What functions of the program compute, as plain Lean functions (m_..), and proofs that they compute it (c_..). Printed by a program of the author; no conditions.
-/
import Derived.Test.YtdpdogdkolblnaaGreatDoorQueryAskBFloat
import Derived.Test.YtdpdogdkolblnaaGreatDoorProg
import Derived.Test.YtdpdogdkolblnaaGreatDoorQueryAskBBld
import Derived.Test.YtdpdogdkolblnaaGreatDoorQueryAskBBrief
import Derived.Test.YtdpdogdkolblnaaGreatDoorQueryAskBEqs
import Derived.Test.YtdpdogdkolblnaaGreatDoorQueryAskBErr
import Derived.Test.YtdpdogdkolblnaaGreatDoorQueryAskBLexP
import Derived.Test.YtdpdogdkolblnaaGreatDoorQueryAskBThree
import Derived.Test.YtdpdogdkolblnaaGreatDoorQueryAskBVrow
import Derived.Test.YtdpdogdkolblnaaGreatDoorQueryAskF2
set_option linter.unusedVariables false
set_option linter.unusedSectionVars false
set_option maxRecDepth 100000
set_option maxHeartbeats 2000000
namespace Go.Proofs.YtdpdogdkolblnaaGreatDoor
open Go Go.RowKit
open Go.IntKind (i8 i16 i32 i64 u8 u16 u32 u64)
open Go.Proofs.Tryz

def Zki (N:Nat) (c:(Bool×List Int)) (a:(Bool×List Int)):Option (((Bool×List Int)×List Int)×Int):=
  (Zhs N (a.1,a.2)).bind fun d=>if (decide (d=0))=true then (some (((false,([]:List Int)),([]:List Int)),11)) else ((Zht N (!decide (c.1=a.1),c.2) a.2).bind fun b=>some (((b.1.1,b.1.2),b.2),0))
theorem Zyd {N k u:Nat} {n v:Option Addr} {col:Zd} {w0:World} {c g:(Bool×List Int)} {r:(((Bool×List Int)×List Int)×Int)} (c1 c2:Nat) (hm:Zki N c g=some r) (o:Sl (Za.int .u32) col w0 n k c.2) (i:Sl (Za.int .u32) col w0 v u g.2):
    Calls prog 93 #[(.agg #[.bool c.1,.slice n c.2.length k]),(.agg #[.bool g.1,.slice v g.2.length u])] w0 (fun e w'=>∃ (col':Zd) (ra1:Option Addr) (rc2:Nat) (ra4:Option Addr) (rc5:Nat),e= .returned (.tuple #[(.agg #[.bool r.1.1.1,.slice ra1 r.1.1.2.length rc2,.slice ra4 r.1.2.length rc5]),.int .i64 r.2])∧Zg col w0 col' w'∧Zc (Za.int .u32) 200 c1 col' w' ra1 rc2 r.1.1.2∧Zc (Za.int .u32) 200 c2 col' w' ra4 rc5 r.1.2):=by
 refine Wx (m:=21) func93 rfl rfl rfl ?_;rw [Zki.eq_1] at hm;have a:=St.start col w0;refine go ?_;refine Yj (col:=(Zi col)) 1 rfl ?_;intro M O A B j;refine Yj (col:=A) 2 rfl ?_;intro P Q C w b;refine Xz (col:=C) #[.bool false,.slice none (([]:List Int).length) 0,.slice none (([]:List Int).length) 0] 3 zeroValue124 ?_;intro R D x p d;refine go ?_;replace b:=b.gr p;refine lV _ (Xx isAgg122 sizeOf122 b) ?_;obtain ⟨S,E,hm⟩:=bZ hm;replace i:=i.keep (Zl.start col w0);replace a:=((a.grow B).grow w).grow p;refine Zh (Zyc E (i.ks a)) ?_;rintro _ F ⟨rfl,f⟩;refine ⟨_,rfl,?_⟩;replace f:Zg x D x F:=.of_below f;refine go ?_;replace o:=o.keep (Zl.start col w0);replace j:=((j.gr w).gr p).gr f;replace b:=b.gr f;replace d:=d.gr f;replace a:=a.grow f;refine Zm hm (fun hb hm=>go ?_) fun hb hm=>go ?_
 ·refine lV (.agg #[.bool false,.slice none (([]:List Int).length) 0,.slice none (([]:List Int).length) 0]) (Y6 (l:=[_,_]) (qs:=[(0,2),(2,1)]) underlying124 zeroValue124 ⟨rfl,sizeOf122,rfl,sizeOf120,trivial⟩ rfl)<|Xf d ?_;intro T G H I;refine go ?_;cases hm;replace a:=a.kp G H;exact ⟨rfl,_,Zfl I.atN,_,none,0,none,0,rfl,a.fin (cm []),Zc.nil,Zc.nil⟩
 refine Zz j<|Zz b ?_;refine go ?_;refine Zz j<|lV (.agg #[.bool (!decide (c.1=g.1)),.slice n c.2.length k]) (Y6 (l:=[_,_]) (qs:=[(0,1),(1,1)]) underlying122 zeroValue122 ⟨rfl,sizeOf4,rfl,sizeOf120,trivial⟩ rfl)<|Zz b ?_;obtain ⟨U,J,hm⟩:=bZ hm;refine Zh (Zyf 4 5 J (o.ks a) (i.ks a)) ?_;rintro _ V ⟨W,X,Y,Z,aa,rfl,y,q,s⟩;refine ⟨_,rfl,?_⟩;replace d:=d.gr y;refine Xf d ?_;intro ab t K L;refine go ?_;cases hm;replace a:=(a.grow y).kp t K;replace q:=q.kp t;replace s:=s.kp t;exact ⟨rfl,_,Zfl L.atN,_,_,_,_,_,rfl,a.fin (cm [(4,c1),(5,c2)]),a.fo q,a.fo s⟩
def Zkj (N:Nat) (d:Int) (e:Int):Option (((Bool×List Int)×List Int)×Int):=
  (Zfa N d).bind fun b=>(Zfa N e).bind fun c=>(Zki N (b.1,b.2) (c.1,c.2)).bind fun a=>some (((a.1.1.1,a.1.1.2),a.1.2),a.2)
theorem Zye {N:Nat} {col:Zd} {w0:World} {n o:Int} {r:(((Bool×List Int)×List Int)×Int)} (c1 c2:Nat) (hm:Zkj N n o=some r):
    Calls prog 73 #[.int .i64 n,.int .i64 o] w0 (fun e w'=>∃ (col':Zd) (ra1:Option Addr) (rc2:Nat) (ra4:Option Addr) (rc5:Nat),e= .returned (.tuple #[(.agg #[.bool r.1.1.1,.slice ra1 r.1.1.2.length rc2,.slice ra4 r.1.2.length rc5]),.int .i64 r.2])∧Zg col w0 col' w'∧Zc (Za.int .u32) 200 c1 col' w' ra1 rc2 r.1.1.2∧Zc (Za.int .u32) 200 c2 col' w' ra4 rc5 r.1.2):=by
 refine Wx (m:=13) func73 rfl rfl rfl ?_;rw [Zkj.eq_1] at hm;have b:=St.start col w0;refine go ?_;refine Xz (col:=(Zi col)) #[.bool false,.slice none (([]:List Int).length) 0,.slice none (([]:List Int).length) 0] 1 zeroValue124 ?_;intro H I q s i;refine go ?_;obtain ⟨J,t,hm⟩:=bZ hm;refine Zh (Zp5 (col:=q) 2 t) ?_;rintro _ K ⟨u,L,M,rfl,p,j⟩;refine ⟨_,rfl,?_⟩;refine Y1 rfl ?_;obtain ⟨O,v,hm⟩:=bZ hm;refine Zh (Zp5 (col:=u) 3 v) ?_;rintro _ w ⟨f,P,Q,rfl,k,x⟩;refine ⟨_,rfl,?_⟩;obtain ⟨g,y,hm⟩:=bZ hm;replace j:=j.gr k;refine Zh (Zyd 4 5 y ((j.toSlF (Zk.int .u32)).froz 3) ((x.froz 2 (by decide)).toSlF (Zk.int .u32))) ?_;rintro _ R ⟨A,B,C,D,E,rfl,a,c,d⟩;refine ⟨_,rfl,?_⟩;replace c:=c.thaw (Xs .u32) a (((Fz.refl (col:=f)).froz 2).froz 3) (by decide);replace d:=d.thaw (Xs .u32) a (((Fz.refl (col:=f)).froz 2).froz 3) (by decide);replace a:=a.thawR (col:=f);generalize Xn w.heap.size f A=S at *;refine lV (.agg #[.bool g.1.1.1,.slice B g.1.1.2.length C,.slice D g.1.2.length E]) (Xl rfl rfl)<|lV (.int .i64 g.2) (Xl rfl rfl) ?_;replace i:=((i.gr p).gr k).gr a;refine Xf i ?_;intro T l F G;refine go ?_;cases hm;replace b:=((((b.grow s).grow p).grow k).grow a).kp l F;replace c:=c.kp l;replace d:=d.kp l;exact ⟨rfl,_,Zfl G.atN,_,_,_,_,_,rfl,b.fin (cm [(4,c1),(5,c2)]),b.fo c,b.fo d⟩
def S6 (N:Nat) (b:Int) (c:Int):Option ((Bool×List Int)×List Int):=
  (Zkj N b c).bind fun a=>some ((a.1.1.1,a.1.1.2),a.1.2)
theorem Zdb {N:Nat} {col:Zd} {w0:World} {k l:Int} {r:((Bool×List Int)×List Int)} (c1 c2:Nat) (hm:S6 N k l=some r):
    Calls prog 53 #[.int .i64 k,.int .i64 l] w0 (fun e w'=>∃ (col':Zd) (ra1:Option Addr) (rc2:Nat) (ra4:Option Addr) (rc5:Nat),e= .returned ((.agg #[.bool r.1.1,.slice ra1 r.1.2.length rc2,.slice ra4 r.2.length rc5]))∧Zg col w0 col' w'∧Zc (Za.int .u32) 200 c1 col' w' ra1 rc2 r.1.2∧Zc (Za.int .u32) 200 c2 col' w' ra4 rc5 r.2):=by
 refine Wx (m:=14) func53 O O O ?_;rw [S6.eq_1] at hm;have b:=St.start col w0;refine go ?_;refine Xz (col:=(Zi col)) #[.bool false,.slice none (([]:List Int).length) 0,.slice none (([]:List Int).length) 0] 1 zeroValue124 ?_;intro D E t u f;refine go ?_;obtain ⟨a,v,hm⟩:=bZ hm;refine Zh (Zye (col:=t) 2 3 v) ?_;rintro _ F ⟨w,n,o,p,q,rfl,s,g,i⟩;refine ⟨_,O,?_⟩;refine lM (.tuple #[(.agg #[.bool a.1.1.1,.slice n a.1.1.2.length o,.slice p a.1.2.length q]),.int .i64 a.2])<|lV (.agg #[.bool a.1.1.1,.slice n a.1.1.2.length o,.slice p a.1.2.length q]) (Xl O O)<|lV (.int .i64 a.2) (Xl O O)<|Xz (col:=w) #[.bool false,.slice none (([]:List Int).length) 0,.slice none (([]:List Int).length) 0] 4 zeroValue124 ?_;intro G H I c x;refine Xf x ?_;intro J d y A;refine go ?_;refine lV _ (Xx isAgg124 sizeOf124 A) ?_;replace f:=((f.gr s).gr c).kp d;refine Xf f ?_;intro K j B C;refine go ?_;cases hm;replace b:=((((b.grow u).grow s).grow c).kp d y).kp j B;replace g:=((g.gr c).kp d).kp j;replace i:=((i.gr c).kp d).kp j;exact ⟨O,_,ra C.atN,_,_,_,_,_,O,b.fin (cm [(2,c1),(3,c2)]),b.fo g,b.fo i⟩
theorem Zoz {N k:Nat} {neg:Bool} {m:List Int} (hm:Zn m) (hk:m.length≤k) (hr:Ya N k):Zck N neg m=some (X2 (Zw (neg,m))):=by
 obtain ⟨r1,r2⟩:=hr
 rw [Zck,T5 hm (by omega) (by omega),Option.bind_some,Zh6]
 have e:decide (0<((Zf (Zb m)).length:Int))=decide (Zb m≠0):=by
  by_cases h:Zb m=0
  ·rw [h,Wz];decide
  ·have:=Sm h
   rw [decide_eq_true (by omega),decide_eq_true h]
 cases neg
 ·rw [if_neg (by decide),Ze8,Bool.false_and]
 ·rw [if_pos rfl,Ze8,e,Bool.true_and]
theorem Zum {N k:Nat} {a:ZV} (hm:Zn a.2) (hk:a.2.length≤k) (hr:Ya N k):Ze9 N a=some (X2 (Zw a)):=by
 rw [Ze9,Zoz hm hk hr];rfl
theorem Z3g {N k:Nat} {a:ZV} (hm:Zn a.2) (hk:a.2.length≤k) (hr:Ya N k):Zhs N a=some (Zw a).sign:=by
 rw [Zhs,Zum hm hk hr,Option.bind_some,X2]
 generalize Zw a=z
 by_cases h:z=0
 ·subst h;rw [Int.natAbs_zero,Wz,if_pos (by decide)];rfl
 ·have:=Sm (n:=z.natAbs) (by omega)
  rw [if_neg (by rw [decide_eq_false (by simp only;omega)];decide)]
  by_cases h2:z<0
  ·rw [if_pos (decide_eq_true h2),Int.sign_eq_neg_one_of_neg h2]
  ·rw [if_neg (fun hc=>h2 (of_decide_eq_true hc)),Int.sign_eq_one_of_pos (by omega)]
theorem Zuo {N:Nat} {z:Int} (h:-9223372036854775808≤z∧z≤9223372036854775807) (hr:Ya N 4):Zfa N z=some (X2 z):=by
 have hr':=hr
 obtain ⟨r1,r2⟩:=hr'
 have l2:∀ n:Nat,n<18446744073709551616→(Zf n).length≤2:=fun n hn=>Wu.2 (by simpa using hn)
 have l1:Zn [1]:=.cons (by decide) .nil
 rw [Zfa]
 by_cases hz:0≤z
 ·rw [if_pos (decide_eq_true hz),Xi (by omega),Zup (by omega) (by omega),Option.bind_some,Zoz (Z8 _) (l2 _ (by omega)) (hr.mono (by omega)),Option.bind_some]
  have e2:Zw (false,Zf z.toNat)=z:=by simp only [Zw,Z3];simp;omega
  rw [e2]
 ·have hl3:=l2 (-z - 1).toNat (by omega)
  have e:u64.wrap (i64.wrap (-i64.wrap (z+1)))= -z - 1:=by rw [Z2 (x:=z+1) (by omega),Z2 (by omega),Xi (by omega)];omega
  rw [if_neg (by rw [decide_eq_false hz];decide),e,Zup (by omega) (by omega),Option.bind_some,Z23 (Z8 _) l1 (by simp only [List.length_singleton];omega) (by simp only [List.length_singleton];omega),Option.bind_some,Z3,Yy,Ye,Zoz (k:=4) (Z8 _) (by
   have:=l2 ((-z - 1).toNat+((1:Int).toNat+4294967296 * 0)) (by omega)
   omega) hr,Option.bind_some]
  have e2:Zw (true,Zf ((-z - 1).toNat+((1:Int).toNat+4294967296 * 0)))=z:=by simp only [Zw,Z3,if_true];omega
  rw [e2]
theorem Z3c {N k l:Nat} {num:ZV} {den:List Int} (hn:Zn num.2) (hd:Zn den) (h0:Zb den≠0) (hk:num.2.length≤k) (hl:den.length≤l) (hr:Ya N (k+l)):
  Zht N num den=some (Wl (mkRat (Zw num) (Zb den))):=by
 have hr':=hr
 obtain ⟨r1,r2⟩:=hr'
 have l1:=Yv hn
 have l2:=Yv hd
 have hg:Nat.gcd (Zb num.2) (Zb den)≠0:=fun h=>h0 (Nat.gcd_eq_zero_iff.1 h).2
 have lg:(Zf (Nat.gcd (Zb num.2) (Zb den))).length≤den.length:=Nat.le_trans (Vo (Nat.gcd_le_right _ (by omega))) l2
 have lq:=Vo (Nat.div_le_self (Zb num.2) (Nat.gcd (Zb num.2) (Zb den)))
 have ld:=Vo (Nat.div_le_self (Zb den) (Nat.gcd (Zb num.2) (Zb den)))
 obtain ⟨g,g1,g2,g3,g4⟩:=Z3b (N:=N) (M:=k+l) hn hd (by omega) (by omega) (by omega) (by omega)
 rw [Zht,g1,Option.bind_some,Zua hn g2 (by rw [g3];omega) (by omega) (by rw [g3];omega) (by omega),Option.bind_some,Zua hd g2 (by rw [g3];omega) (by omega) (by rw [g3];omega) (by omega),Option.bind_some,g3,if_neg hg,if_neg hg,
  Zum (k:=k) (a:=(num.1,Zf (Zb num.2 / Nat.gcd (Zb num.2) (Zb den)))) (Z8 _) (by simp only;omega) (hr.mono (by omega)),Option.bind_some,T5 (Z8 _) (by omega) (by omega),Option.bind_some,Zst (neg:=num.1) h0,Zh6,Z3,Z3]
theorem Z36 {N:Nat} {a b:Int} (h:-9223372036854775808≤a∧a≤9223372036854775807) (g:0<b∧b≤9223372036854775807) (hr:Ya N 8):S6 N a b=some (Wl ((a:Rat) / (b:Rat))):=by
 have l2:∀ z:Int,-9223372036854775808≤z∧z≤9223372036854775807→(X2 z).2.length≤2:=fun z hz=>Wu.2 (by simp;omega)
 have la:=l2 a h
 have lb:=l2 b (by omega)
 have hb0:Zb (X2 b).2≠0:=by rw [Znc,Z3];omega
 have e:=Zsb (Zw (X2 a)) 1 (X2 b) 1 (X2 a).1 (X2 a).2 rfl hb0
 rw [S6,Zkj,Zuo h (hr.mono (by omega)),Option.bind_some,Zuo (by omega) (hr.mono (by omega)),Option.bind_some,Zki,Z3g (a:=X2 b) (So _) lb (hr.mono (by omega)),Option.bind_some,Sf,Int.sign_eq_one_of_pos g.1,if_neg (by decide),Z3c (num:=(!decide ((X2 a).1=(X2 b).1),(X2 a).2)) (So _) (So _) hb0 la lb (hr.mono (by omega)),Option.bind_some,Option.bind_some,Option.bind_some]
 rw [Rat.mkRat_eq_div,Rat.mkRat_eq_div,Sf,Sf] at e
 have e1:(a:Rat) / ((1:Nat):Rat) / ((b:Rat) / ((1:Nat):Rat))=(a:Rat) / (b:Rat):=by
  have h1:((1:Nat):Rat)=1:=rfl
  have h2:(1:Rat)⁻¹=1:=Rat.inv_eq_of_mul_eq_one (by grind)
  simp only [h1,Rat.div_def,h2,Rat.mul_one]
 rw [e1,Nat.one_mul,Nat.mul_one] at e
 rw [e]
 have e2:Zw (!decide ((X2 a).1=(X2 b).1),Zf (Zb (X2 a).2))=Zw (!decide ((X2 a).1=(X2 b).1),(X2 a).2):=by simp only [Zw,Z3]
 rw [e2]
theorem div_one (a:Rat):a / 1=a:=by
 have h2:(1:Rat)⁻¹=1:=Rat.inv_eq_of_mul_eq_one (by grind)
 rw [Rat.div_def,h2,Rat.mul_one]
def Zcq (b:ByteArray):List ByteArray→Nat→Option Int
  | [],a=>some (-1)
  | c :: d,a=>if (decide (b=c))=true then (some (a:Int)) else ((Zcq b d) (a+1))
termination_by structural x=>x
def Zkw (a:List ByteArray) (b:ByteArray):Option Int:=
  Zcq b a 0
theorem Zyn {j:Nat} {a0:Option Addr} {col:Zd} {w0:World} {b:(List ByteArray)} {g:ByteArray} {r:Int} (hm:Zkw b g=some r) (h0:Sl Za.str col w0 a0 j b):
    Calls prog 62 #[.slice a0 b.length j,.string g] w0 (fun e w'=>e= .returned ((.int .i64 r))∧Below w0.heap.size w0 w'):=by
 refine Z5 4 (m:=19) func62 O O O O O ?_;rw [Zkw.eq_1] at hm;have a:=St.start col w0;refine go ?_;refine Z6 [0,1,7,1000000] (fun n f k=>∃ l c d,n=d.length∧b.drop c=d∧Zcq g d c=some r∧St w0 (Zi col) l k∧[8].map f=[.int .i64 c]) b.length ⟨_,0,_,O,O,hm,a,O⟩ ?_;clear hm;intro n f k o;obtain ⟨l,c,d,hn,hl,hm,a,hs⟩:=o;subst hn;refine .lL [8] hs ?_;replace h0:=h0.keep (Zl.start col w0)
 cases d with
 | nil=>
  have hk:¬ ((c:Int)<(b.length:Int)):=by have:=List.drop_eq_nil_iff.1 hl;omega
  have hkb:=decide_eq_false hk;rw [Zcq.eq_1] at hm;refine go ?_;refine Yh (congrArg Value.bool hkb)<|go ?_;cases hm;exact ⟨O,O,a.below⟩
 | cons t p=>
  obtain ⟨i,q,s⟩:=Yu hl;have hk:(c:Int)<(b.length:Int):=by omega
  have hkb:=decide_eq_true hk;rw [Zcq.eq_2] at hm;refine go ?_;refine X8 (congrArg Value.bool hkb)<|go ?_;refine lI i ((h0.ks a).addr i)<|lW ((h0.ks a).atStr i) ?_;refine go ?_;refine Zm hm (fun hb hm=>go ?_) fun hb hm=>go ?_
  ·cases hm;exact ⟨O,O,a.below⟩
  exact ⟨p.length,by simp,O,⟨_,_,_,O,q,hm,a,(Y0 (congrArg (Value.int .i64) (Yw (Nat.lt_of_lt_of_le s (h0.ks a).1.1))) O)⟩⟩
def Zco (a:List ByteArray) (b:ByteArray):Option Bool:=
  (Zkw a b).bind fun c=>some (decide (0≤c))
theorem Zmu {d:Nat} {a0:Option Addr} {col:Zd} {w0:World} {b:(List ByteArray)} {f:ByteArray} {r:Bool} (hm:Zco b f=some r) (h0:Sl Za.str col w0 a0 d b):
    Calls prog 42 #[.slice a0 b.length d,.string f] w0 (fun e w'=>e= .returned ((.bool r))∧Below w0.heap.size w0 w'):=by
 refine Z5 4 (m:=9) func42 O O O O O ?_;rw [Zco.eq_1] at hm;have a:=St.start col w0;refine go ?_;obtain ⟨j,g,hm⟩:=bZ hm;replace h0:=h0.keep (Zl.start col w0);refine Zh (Zyn g (h0.ks a)) ?_;rintro _ i ⟨rfl,c⟩;refine ⟨_,O,?_⟩;replace c:Zg (Zi col) w0 (Zi col) i:=.of_below c;refine go ?_;cases hm;replace a:=a.grow c;exact ⟨O,O,a.below⟩
def Zax:List ByteArray→(List (ByteArray×Int))→Option Bool
  | [],a=>some false
  | b :: c,a=>if (decide (0<((Xg a b).getD 0)))=true then (some true) else ((some (Yx a b 1)).bind fun d=>(Zax c) d)
termination_by structural x=>x
def Zgy (a:List ByteArray):Option Bool:=
  Zax a ([]:List (ByteArray×Int))
theorem Zxu {s:Nat} {a0:Option Addr} {col:Zd} {w0:World} {b:(List ByteArray)} {r:Bool} (hm:Zgy b=some r) (h0:Sl Za.str col w0 a0 s b):
    Calls prog 74 #[.slice a0 b.length s] w0 (fun e w'=>e= .returned ((.bool r))∧Below w0.heap.size w0 w'):=by
 refine Z5 2 (m:=20) func74 O O O O O ?_;rw [Zgy.eq_1] at hm;have a:=St.start col w0;refine go ?_;refine Zjg (col:=(Zi col)) (fk:=Value.string) (fv:=(Value.int .i64)) 1 O ?_;intro G H I w x;refine go ?_;replace a:=a.grow w;refine Z6 [7,8,1000000] (fun n f i=>∃ j l c d g,n=g.length∧b.drop d=g∧Zax g c=some r∧St w0 (Zi col) j i∧Xv Value.string (Value.int .i64) 1 j i l c∧[9,3].map f=[.int .i64 d,.map (some l)]) b.length ⟨_,_,_,0,_,O,O,hm,a,x,O⟩ ?_;clear hm;intro n f i y;obtain ⟨j,l,c,d,g,hn,hl,hm,a,t,hs⟩:=y;subst hn;refine .lL [9,3] hs ?_;replace h0:=h0.keep (Zl.start col w0)
 cases g with
 | nil=>
  have hk:¬ ((d:Int)<(b.length:Int)):=by have:=List.drop_eq_nil_iff.1 hl;omega
  have hkb:=decide_eq_false hk;rw [Zax.eq_1] at hm;refine go ?_;refine Yh (congrArg Value.bool hkb)<|go ?_;cases hm;exact ⟨O,O,a.below⟩
 | cons o A=>
  obtain ⟨p,B,C⟩:=Yu hl;have hk:(d:Int)<(b.length:Int):=by omega
  have hkb:=decide_eq_true hk;rw [Zax.eq_2] at hm;refine go ?_;refine X8 (congrArg Value.bool hkb)<|go ?_;refine lI p ((h0.ks a).addr p)<|lW ((h0.ks a).atStr p) ?_;refine go ?_;refine lV (.int .i64 ((Xg c o).getD 0)) (Zfj Y7.str t underlying95 underlying9 zeroValue3 O O)<|go ?_;refine Zm hm (fun hb hm=>go ?_) fun hb hm=>go ?_
  ·cases hm;exact ⟨O,O,a.below⟩
  obtain ⟨D,q,hm⟩:=bZ hm;have q:D=Yx c o 1:=(Option.some.inj q).symm;refine Zga (k:=o) (v:=1) Y7.str t underlying95 underlying9 O O O ?_;intro J E F u;rw [← q] at u;refine go ?_;replace a:=a.kp E F;exact ⟨A.length,by simp,O,⟨_,_,_,_,_,O,B,hm,a,u,(Y0 (congrArg (Value.int .i64) (Yw (Nat.lt_of_lt_of_le C (h0.ks a).1.1))) O)⟩⟩
def Zef (b:(ByteArray×List ByteArray×(List (List ByteArray))×(List (List Int))×(List (List ((Bool×List Int)×List Int))))) (a:Nat) (kk_L1:(Nat→Option Int)) (c:Bool):Option Int:=
  if c=true then (some 40) else ((Zq b.2.2.1 (a:Int)).bind fun d=>if (decide ((d.length:Int)=0))=true then (some 43) else (kk_L1 (a+1)))
def Qp (a:(ByteArray×List ByteArray×(List (List ByteArray))×(List (List Int))×(List (List ((Bool×List Int)×List Int))))):List ByteArray→Nat→Option Int
  | [],b=>some 0
  | d :: c,b=>Zr ((0:Int)≤(b:Int)∧(b:Int)≤(a.2.1.length:Int)) ((Zco (a.2.1.take (Int.toNat (b:Int))) d).bind fun e=>if e=true then (Zef a b (Qp a c) true) else ((Zq a.2.2.1 (b:Int)).bind fun f=>(Zgy f).bind fun g=>Zef a b (Qp a c) g))
termination_by structural x=>x
def Zee (a:(ByteArray×List ByteArray×(List (List ByteArray))×(List (List Int))×(List (List ((Bool×List Int)×List Int))))):Option Int:=
  Qp a a.2.1 0
theorem Zxr {i s t u:Nat} {j w x y:Option Addr} {col:Zd} {w0:World} {a:(ByteArray×List ByteArray×(List (List ByteArray))×(List (List Int))×(List (List ((Bool×List Int)×List Int))))} {r:Int} (hm:Zee a=some r) (k:Sl Za.str col w0 j i a.2.1) (o:Sl (Za.slice Za.str) col w0 w s a.2.2.1) (ac:Sl (Za.slice (Za.int .i64)) col w0 x t a.2.2.2.1) (ad:Sl (Za.slice (Za.pair (Za.pair Za.bool (Za.slice (Za.int .u32))) (Za.slice (Za.int .u32)))) col w0 y u a.2.2.2.2):
    Calls prog 55 #[(.agg #[.string a.1,.slice j a.2.1.length i,.slice w a.2.2.1.length s,.slice x a.2.2.2.1.length t,.slice y a.2.2.2.2.length u])] w0 (fun e w'=>e= .returned ((.int .i64 r))∧Below w0.heap.size w0 w'):=by
 refine Z5 2 (m:=37) func55 rfl rfl rfl rfl rfl ?_;rw [Zee.eq_1] at hm;have b:=St.start col w0;refine go ?_;refine Yj (col:=(Zi col)) 1 rfl ?_;intro L ae af O c;refine go ?_;refine Zz c ?_;refine go ?_;replace b:=b.grow O;refine Z6 [1,6,7,1000000] (fun n f A=>∃ l g p,n=p.length∧a.2.1.drop g=p∧Qp a p g=some r∧St w0 (Zi col) l A∧Ze 45 1 l A L #[.string a.1,.slice j a.2.1.length i,.slice w a.2.2.1.length s,.slice x a.2.2.2.1.length t,.slice y a.2.2.2.2.length u]∧[8].map f=[.int .i64 g]) a.2.1.length ⟨_,0,_,rfl,rfl,hm,b,c,rfl⟩ ?_;clear hm;intro n f A P;obtain ⟨l,g,p,hn,hl,hm,b,c,hs⟩:=P;subst hn;refine .lL [8] hs ?_;replace k:=k.keep (Zl.start col w0);replace o:=o.keep (Zl.start col w0)
 cases p with
 | nil=>
  have hk:¬ ((g:Int)<(a.2.1.length:Int)):=by have:=List.drop_eq_nil_iff.1 hl;omega
  have hkb:=decide_eq_false hk;rw [Qp.eq_1] at hm;refine go ?_;refine Yh (congrArg Value.bool hkb)<|go ?_;cases hm;exact ⟨rfl,rfl,b.below⟩
 | cons ag M=>
  obtain ⟨D,Q,R⟩:=Yu hl;have hk:(g:Int)<(a.2.1.length:Int):=by omega
  have hkb:=decide_eq_true hk;rw [Qp.eq_2] at hm;refine go ?_;refine X8 (congrArg Value.bool hkb)<|go ?_;refine lI D ((k.ks b).addr D)<|lW ((k.ks b).atStr D)<|Yq rfl<|Zjc rfl<|Zj<|S8<|Zo ?_;refine Wp.cutK [1,3,6,7,8,1000000] (fun f E=>∃ F G,Zef a g (Qp a M) G=some r∧St w0 (Zi col) F E∧Ze 45 1 F E L #[.string a.1,.slice j a.2.1.length i,.slice w a.2.2.1.length s,.slice x a.2.2.2.1.length t,.slice y a.2.2.2.2.length u]∧[13].map f=[.bool G]) ?_ ?_
  ·intro f E S;obtain ⟨F,G,hm,b,c,hs⟩:=S;rw [Zef.eq_1] at hm;refine .lL [13] hs ?_;refine Zm hm (fun hb hm=>go ?_) fun hb hm=>go ?_
   ·cases hm;exact ⟨rfl,rfl,b.below⟩
   refine Zz c<|Y1 rfl ?_;obtain ⟨ah,H,hm⟩:=bZ hm;refine lI H ((o.ks b).addr H) ?_;obtain ⟨_,T,U⟩:=(o.ks b).atN H;obtain ⟨⟨ai,aj,rfl,ak⟩,_⟩:=T;refine lW U.one<|go ?_;refine Zm hm (fun hb hm=>go ?_) fun hb hm=>go ?_
   ·cases hm;exact ⟨rfl,rfl,b.below⟩
   exact ⟨M.length,by simp,rfl,⟨_,_,_,rfl,Q,hm,b,c,(Y0 (congrArg (Value.int .i64) (Yw (Nat.lt_of_lt_of_le R (k.ks b).1.1))) rfl)⟩⟩
  refine Yo<|Zz c<|Y1 rfl ?_;obtain ⟨I,hm⟩:=Zt hm;refine lv (v:=.slice j (Int.toNat (g:Int)) i) rfl rfl (Zbc underlying40 sizeOf9 rfl rfl I.1 (by have:=(k.ks b).1.2;have:=I.2;omega))<|.ld (d:=17) (v:=(.slice j ((a.2.1.take (Int.toNat (g:Int))).length) i)) (congrArg (fun n=>Value.slice j n i) (List.length_take_of_le (show (Int.toNat (g:Int))≤a.2.1.length by have:=I.2;omega)).symm) ?_;refine Zf9 rfl ?_;obtain ⟨al,V,hm⟩:=bZ hm;refine Zh (Zmu V ((k.ks b).take (Int.toNat (g:Int)))) ?_;rintro _ N ⟨rfl,B⟩;refine ⟨_,rfl,?_⟩;replace B:Zg l A l N:=.of_below B;refine Yg rfl ?_;replace c:=c.gr B;replace b:=b.grow B;refine Z7 hm (fun J hm=>go ?_) fun J hm=>go ?_
  ·refine lV (.bool true) (Zx (congrArg Value.bool J) rfl)<|go ?_;exact ⟨rfl,_,_,hm,b,c,rfl⟩
  refine Zv ⟨_,_,rfl⟩ ?_;refine go ?_;refine lW ((c.atN).nth (q:=2) rfl)<|go ?_;obtain ⟨am,K,hm⟩:=bZ hm;refine lI K ((o.ks b).addr K) ?_;refine go ?_;obtain ⟨_,W,X⟩:=(o.ks b).atN K;obtain ⟨⟨an,ao,rfl,Y⟩,_⟩:=W;refine lW X.one<|go ?_;obtain ⟨Z,aa,hm⟩:=bZ hm;refine Zh (Zxu aa Y) ?_;rintro _ ab ⟨rfl,C⟩;refine ⟨_,rfl,?_⟩;replace C:Zg l N l ab:=.of_below C;refine lV (.bool Z) (Z0 (congrArg Value.bool J) rfl)<|go ?_;replace c:=c.gr C;replace b:=b.grow C;exact ⟨rfl,_,_,hm,b,c,rfl⟩
def Zec (a:Bool) (b:List Int) (c:List Int):Option ((Bool×List Int)×List Int):=
  some ((a,b),c)
def Zeb (N:Nat) (a:((Bool×List Int)×List Int)):Option ((Bool×List Int)×List Int):=
  (Zb6 N a.2).bind fun b=>if (decide ((b.length:Int)=0))=true then ((Qq N 1).bind fun c=>Zec a.1.1 a.1.2 c) else (Zec a.1.1 a.1.2 a.2)
theorem Zxq {N q H:Nat} {s I:Option Addr} {col:Zd} {w0:World} {d r:((Bool×List Int)×List Int)} (hm:Zeb N d=some r) (l:Sl (Za.int .u32) col w0 s q d.1.2) (n:Sl (Za.int .u32) col w0 I H d.2):
    Calls prog 77 #[(.agg #[.bool d.1.1,.slice s d.1.2.length q,.slice I d.2.length H])] w0 (fun e w'=>∃ (col':Zd) (ra1:Option Addr) (rc2:Nat) (ra4:Option Addr) (rc5:Nat),e= .returned ((.agg #[.bool r.1.1,.slice ra1 r.1.2.length rc2,.slice ra4 r.2.length rc5]))∧Zg col w0 col' w'∧Sl (Za.int .u32) col' w' ra1 rc2 r.1.2∧Sl (Za.int .u32) col' w' ra4 rc5 r.2):=by
 refine Wx (m:=11) func77 rfl rfl rfl ?_;rw [Zeb.eq_1] at hm;have a:=St.start col w0;refine go ?_;refine Yj (col:=(Zi col)) 1 rfl ?_;intro J ab P Q b;refine Xz (col:=P) #[.bool false,.slice none (([]:List Int).length) 0,.slice none (([]:List Int).length) 0] 2 zeroValue124 ?_;intro R ac ad K c;refine Zj<|Zo ?_;replace l:=l.keep (Zl.start col w0);replace n:=n.keep (Zl.start col w0);replace a:=(a.grow Q).grow K;replace b:=b.gr K;refine Wp.cutK [1,2,1000000] (fun f g=>∃ i t w x o y A p,Zec t o p=some r∧St w0 (Zi col) i g∧Sl (Za.int .u32) i g w x o∧Sl (Za.int .u32) i g y A p∧Ze 124 1 i g J #[.bool t,.slice w o.length x,.slice y p.length A]∧Ze 124 2 i g R #[.bool false,.slice none (([]:List Int).length) 0,.slice none (([]:List Int).length) 0]) ?_ ?_
 ·intro f g S;obtain ⟨i,t,w,x,o,y,A,p,hm,a,B,C,b,c⟩:=S;rw [Zec.eq_1] at hm;refine go ?_;refine lV _ (Xx isAgg124 sizeOf124 b)<|Xf c ?_;intro ae D T U;refine go ?_;cases hm;replace B:=B.kp D;replace C:=C.kp D;replace a:=a.kp D T;exact ⟨rfl,_,ra U.atN,_,_,_,_,_,rfl,a.fin (cm []),a.fs B,a.fs C⟩
 refine go ?_;refine Zz b ?_;obtain ⟨af,V,hm⟩:=bZ hm;refine Zh (Zmo 3 V (n.ks a)) ?_;rintro _ ag ⟨W,ah,ai,rfl,E,aj⟩;refine ⟨_,rfl,go ?_⟩;replace b:=b.gr E;replace c:=c.gr E;replace a:=a.grow E;refine Zm hm (fun hb hm=>?_) fun hb hm=>?_
 ·refine Yo ?_;obtain ⟨L,X,hm⟩:=bZ hm;refine Zh (Zf2 (col:=W) 4 X) ?_;rintro _ ak ⟨Y,M,O,rfl,F,j⟩;refine ⟨_,rfl,?_⟩;refine Zv ⟨_,_,rfl⟩ ?_;replace b:=b.gr F;refine Xj (off:=2) (v:=(.slice M L.length O)) b sizeOf120 rfl rfl (by intro u hu;simp only [Value.cells,List.mem_cons,List.not_mem_nil,or_false] at hu;subst hu;rfl) rfl rfl ?_;intro Z G aa k;replace k:Ze 124 1 Y Z J #[.bool d.1.1,.slice s d.1.2.length q,.slice M L.length O]:=k;refine Zj ?_;replace j:=j.kp G;replace j:=(j).toSlF (Zk.int .u32);replace k:=k.froz 4 (by decide);replace c:=(c.gr F).kp G;replace c:=c.froz 4 (by decide);replace a:=(a.grow F).kp G aa;replace a:=a.froz 4 (by decide) (by decide);exact ⟨rfl,_,_,_,_,_,_,_,_,hm,a,(l.ks a),j,k,c⟩
 refine Z1 ?_;exact ⟨rfl,_,_,_,_,_,_,_,_,hm,a,(l.ks a),(n.ks a),b,c⟩
theorem Zzq:Wa prog 124 3 56:=⟨Tryz.t124,_,rfl,rfl,rfl,rfl,rfl⟩
def Zaw (N:Nat):List ((Bool×List Int)×List Int)→(List ((Bool×List Int)×List Int))→Option (List ((Bool×List Int)×List Int))
  | [],b=>some b
  | c :: d,b=>(Zeb N ((c.1.1,c.1.2),c.2)).bind fun a=>Zr ((b.length+[((a.1.1,a.1.2),a.2)].length) * 56≤140737488355328∧b.length+[((a.1.1,a.1.2),a.2)].length≤maxLen) ((Zaw N d) (b++[((a.1.1,a.1.2),a.2)]))
termination_by structural x=>x
def Zed (N:Nat) (a:(List ((Bool×List Int)×List Int))):Option (List ((Bool×List Int)×List Int)):=
  Zr (a.length * 56≤281474976710656∧a.length≤maxLen) (Zaw N a ([]:List ((Bool×List Int)×List Int)))
theorem Zpt {N A:Nat} {a0:Option Addr} {col:Zd} {w0:World} {c r:(List ((Bool×List Int)×List Int))} (c1:Nat) (hm:Zed N c=some r) (h0:Sl (Za.pair (Za.pair Za.bool (Za.slice (Za.int .u32))) (Za.slice (Za.int .u32))) col w0 a0 A c):
    Calls prog 59 #[.slice a0 c.length A] w0 (fun e w'=>∃ (col':Zd) (ra1:Option Addr) (rc2:Nat),e= .returned ((.slice ra1 r.length rc2))∧Zg col w0 col' w'∧Zc (Za.pair (Za.pair Za.bool (Za.slice (Za.int .u32))) (Za.slice (Za.int .u32))) 124 c1 col' w' ra1 rc2 r):=by
 refine Z5 2 (m:=22) func59 rfl rfl rfl rfl rfl ?_;rw [Zed.eq_1] at hm;have b:=St.start col w0;refine go ?_;obtain ⟨B,hm⟩:=Zt hm;refine Z01 (col:=(Zi col)) (w:=w0) (r:=(Za.pair (Za.pair Za.bool (Za.slice (Za.int .u32))) (Za.slice (Za.int .u32)))) (n:=c.length) 1 rfl underlying126 Zzq rfl rfl rfl B.1 B.2 ?_;intro ak al am I J;refine go ?_;replace b:=b.grow I;refine Z6 [10,9,1000000] (fun n f p=>∃ i d q s j g,n=g.length∧c.drop d=g∧Zaw N g j=some r∧St w0 (Zi col) i p∧Zc (Za.pair (Za.pair Za.bool (Za.slice (Za.int .u32))) (Za.slice (Za.int .u32))) 124 1 i p q s j∧[11,3].map f=[.int .i64 d,.slice q j.length s]) c.length ⟨_,0,_,_,_,_,rfl,rfl,hm,b,J,rfl⟩ ?_;clear hm;intro n f p K;obtain ⟨i,d,q,s,j,g,hn,hl,hm,b,k,hs⟩:=K;subst hn;refine .lL [11,3] hs ?_;replace h0:=h0.keep (Zl.start col w0)
 cases g with
 | nil=>
  have hk:¬ ((d:Int)<(c.length:Int)):=by have:=List.drop_eq_nil_iff.1 hl;omega
  have hkb:=decide_eq_false hk;rw [Zaw.eq_1] at hm;refine go ?_;refine Yh (congrArg Value.bool hkb)<|go ?_;cases hm;exact ⟨rfl,_,_,_,rfl,b.fin (cm [(1,c1)]),b.fo k⟩
 | cons t L=>
  obtain ⟨u,M,O⟩:=Yu hl;have hk:(d:Int)<(c.length:Int):=by omega
  have hkb:=decide_eq_true hk;rw [Zaw.eq_2] at hm;refine go ?_;refine X8 (congrArg Value.bool hkb)<|go ?_;refine lI u ((h0.ks b).addr u) ?_;obtain ⟨_,P,Q⟩:=(h0.ks b).atN u;obtain ⟨_,_,rfl,R,S⟩:=W4 P;obtain ⟨_,_,rfl,T,U⟩:=W4 R;obtain ⟨rfl,_⟩:=T;obtain ⟨⟨V,W,rfl,v⟩,_⟩:=U;obtain ⟨⟨X,Y,rfl,y⟩,_⟩:=S;refine lV (.agg #[.bool t.1.1,.slice V t.1.2.length W,.slice X t.2.length Y]) (W9 isAgg124 sizeOf124 rfl rfl Q)<|Xz (col:=i) #[.bool false,.slice none (([]:List Int).length) 0,.slice none (([]:List Int).length) 0] 2 zeroValue124 ?_;intro an ao ap l Z;refine Xf Z ?_;intro aq o aa ab;refine go ?_;refine lV _ (Xx isAgg124 sizeOf124 ab) ?_;obtain ⟨a,ac,hm⟩:=bZ hm;replace v:=(v.gr l).kp o;replace y:=(y.gr l).kp o;refine Zh (Zxq ac v y) ?_;rintro _ ar ⟨ad,C,D,E,F,rfl,G,ae,af⟩;refine ⟨_,rfl,?_⟩;refine Ux (col:=ad) (r:=(Za.pair (Za.pair Za.bool (Za.slice (Za.int .u32))) (Za.slice (Za.int .u32)))) (xs:=[((a.1.1,a.1.2),a.2)]) [(.agg #[.bool a.1.1,.slice C a.1.2.length D,.slice E a.2.length F])] 3 (Yr.ofF (Rows.consF (r:=(Za.pair (Za.pair Za.bool (Za.slice (Za.int .u32))) (Za.slice (Za.int .u32)))) (x:=((a.1.1,a.1.2),a.2)) (cs:=[.bool a.1.1,.slice C a.1.2.length D,.slice E a.2.length F]) (W5 (W5 (Q4 a.1.1) (Zt9 ae)) (Zt9 af)) Rows.nil0)) ?_;intro au av aw H ag;obtain ⟨ah,hm⟩:=Zt hm;replace k:=(((k.gr l).kp o).gr G).gr H;refine Wy k (ag.srcN (NB.pair (NB.pair NB.bool NB.slice) NB.slice)) ah ?_;intro ax ay az a1 ai aj;refine go ?_;replace b:=((((b.grow l).kp o aa).grow G).grow H).kpp ai;exact ⟨L.length,by simp,rfl,⟨_,_,_,_,_,_,rfl,M,hm,b,aj,(Y0 (congrArg (Value.int .i64) (Yw (Nat.lt_of_lt_of_le O (h0.ks b).1.1))) rfl)⟩⟩
def Za6 (N:Nat) (b:List ((Bool×List Int)×List Int)) (c:Int):Nat→Int→Option (List (List ((Bool×List Int)×List Int)))
  | 0,_=>none
  | d+1,a=>if (decide (a<(b.length:Int)))=true then (Zr ((0:Int)≤a∧a≤(b.length:Int)) (Zr ((0:Int)≤a∧a≤(i64.wrap (a+(if ((b.drop (Int.toNat a)).length:Int)<c then ((b.drop (Int.toNat a)).length:Int) else c)))∧(i64.wrap (a+(if ((b.drop (Int.toNat a)).length:Int)<c then ((b.drop (Int.toNat a)).length:Int) else c)))≤(i64.wrap (a+(if ((b.drop (Int.toNat a)).length:Int)<c then ((b.drop (Int.toNat a)).length:Int) else c)))∧(i64.wrap (a+(if ((b.drop (Int.toNat a)).length:Int)<c then ((b.drop (Int.toNat a)).length:Int) else c)))≤(b.length:Int)) (((Za6 N b c d) (i64.wrap (a+c))).bind fun e=>some ((b.take (Int.toNat (i64.wrap (a+(if ((b.drop (Int.toNat a)).length:Int)<c then ((b.drop (Int.toNat a)).length:Int) else c))))).drop (Int.toNat a) :: e)))) else (some [])
termination_by structural x=>x
def Zks (N:Nat) (a:List ((Bool×List Int)×List Int)) (b:Int):Option (List (List ((Bool×List Int)×List Int))):=
  Za6 N a b N 0
theorem Zyi (N:Nat) (col:Zd) (w0:World) (g0:Nat) (af0:Option Addr) (capf0:Nat) (b:List ((Bool×List Int)×List Int)) (hf0:Sl (Za.pair (Za.pair Za.bool (Za.slice (Za.int .u32))) (Za.slice (Za.int .u32))) col w0 af0 capf0 b) (hb0:Ze 126 450 col w0 g0 #[.slice af0 b.length capf0]) (g1:Nat) (c:Int) (hb1:Ze 3 450 col w0 g1 #[.int .i64 c]) (r:List (List ((Bool×List Int)×List Int))) (hm:Zks N b c=some r):
    Zl8 prog 1 105 [.pointer (some ⟨g0,0,none⟩),.pointer (some ⟨g1,0,none⟩)] (fun (y:List ((Bool×List Int)×List Int)) (col:Zd) (w:World) (args:List Value)=>∃ (a0:Option Addr) (t:Nat),args=[.slice a0 y.length t]∧Sl (Za.pair (Za.pair Za.bool (Za.slice (Za.int .u32))) (Za.slice (Za.int .u32))) col w a0 t y) r col w0:=by
 intro l J X hjs hxs hy g;refine Zae (m:=31) (args:=[.func (.yield l) #[] #[],.pointer (some ⟨g0,0,none⟩),.pointer (some ⟨g1,0,none⟩)]) func105 O O O O ?_;rw [Zks.eq_1] at hm;refine go ?_;refine Z6 [0,1,2,1000000] (fun n f p=>∃ j r a k,k=n∧Za6 N b c k a=some r∧J r j p∧Sl (Za.pair (Za.pair Za.bool (Za.slice (Za.int .u32))) (Za.slice (Za.int .u32))) j p af0 capf0 b∧Ze 126 450 j p g0 #[.slice af0 b.length capf0]∧Ze 3 450 j p g1 #[.int .i64 c]∧[4].map f=[.int .i64 a]) N ⟨_,_,0,_,O,hm,g,hf0,hb0,hb1,O⟩ ?_;clear hm;intro n f p A;obtain ⟨j,r,a,k,hn,hm,g,hf0,hb0,hb1,hs⟩:=A;subst hn;refine .lL [4] hs ?_
 cases k with
 | zero=>rw [Za6.eq_1] at hm;cases hm
 | succ k=>
  rw [Za6.eq_2] at hm;refine go ?_;refine lW hb0.at1<|go ?_;refine Zm hm (fun hb hm=>go ?_) fun hb hm=>go ?_
  ·refine Vs (col:=j) (by kernel_rfl) (by kernel_rfl)<|qW (fun _ e=>hb1.at1.gr (e.bl j)) ?_;refine qW (fun _ e=>hb0.at1.gr (e.bl j)) ?_;refine go ?_;obtain ⟨u,hm⟩:=Zt hm;have E:=hf0.drop (sz:=3) O (Int.toNat a);refine qv (v:=.slice (if capf0=(Int.toNat a) then af0 else af0.map (·.add ((Int.toNat a) * 3))) (b.length - (Int.toNat a)) (capf0 - (Int.toNat a))) O (fun _ e=>Zt4 underlying126 sizeOf124 O O u.1 u.2) ?_;generalize (if capf0=(Int.toNat a) then af0 else af0.map (·.add ((Int.toNat a) * 3)))=x at *;refine .ld (d:=16) (v:=(.slice x ((b.drop (Int.toNat a)).length) (capf0 - (Int.toNat a)))) (congrArg (fun n=>Value.slice x n (capf0 - (Int.toNat a))) (List.length_drop (i:=(Int.toNat a)) (l:=b)).symm) ?_;refine go ?_;refine qv (v:=(.int .i64 (if ((b.drop (Int.toNat a)).length:Int)<c then ((b.drop (Int.toNat a)).length:Int) else c))) O (fun _ e=>Zty c ((b.drop (Int.toNat a)).length:Int) O O) ?_;refine go ?_;refine Y3 ?_;intro F e;replace e:=e.bl j;replace hf0:=hf0.gr e;replace hb0:=hb0.gr e;replace hb1:=hb1.gr e;replace g:=hjs _ _ _ _ _ g e.toP;refine go ?_;refine lM (.func (.yield l) #[] #[])<|lW hb0.at1<|go ?_;obtain ⟨o,hm⟩:=Zt hm;have B:=((hf0.take (Int.toNat (i64.wrap (a+(if ((b.drop (Int.toNat a)).length:Int)<c then ((b.drop (Int.toNat a)).length:Int) else c))))).recap (show (b.take (Int.toNat (i64.wrap (a+(if ((b.drop (Int.toNat a)).length:Int)<c then ((b.drop (Int.toNat a)).length:Int) else c))))).length≤(Int.toNat (i64.wrap (a+(if ((b.drop (Int.toNat a)).length:Int)<c then ((b.drop (Int.toNat a)).length:Int) else c)))) by rw [List.length_take (i:=(Int.toNat (i64.wrap (a+(if ((b.drop (Int.toNat a)).length:Int)<c then ((b.drop (Int.toNat a)).length:Int) else c))))) (l:=b)];have:=o.2;omega)).drop (sz:=3) O (Int.toNat a);refine lv (v:=.slice (if (Int.toNat (i64.wrap (a+(if ((b.drop (Int.toNat a)).length:Int)<c then ((b.drop (Int.toNat a)).length:Int) else c))))=(Int.toNat a) then af0 else af0.map (·.add ((Int.toNat a) * 3))) ((Int.toNat (i64.wrap (a+(if ((b.drop (Int.toNat a)).length:Int)<c then ((b.drop (Int.toNat a)).length:Int) else c)))) - (Int.toNat a)) ((Int.toNat (i64.wrap (a+(if ((b.drop (Int.toNat a)).length:Int)<c then ((b.drop (Int.toNat a)).length:Int) else c)))) - (Int.toNat a))) O O (Z21 underlying126 sizeOf124 O O O O o.1 o.2.1 o.2.2.1 (by have:=hf0.1.2;have:=o.2.2.2;omega)) ?_
   generalize (if (Int.toNat (i64.wrap (a+(if ((b.drop (Int.toNat a)).length:Int)<c then ((b.drop (Int.toNat a)).length:Int) else c))))=(Int.toNat a) then af0 else af0.map (·.add ((Int.toNat a) * 3)))=q at *;refine .ld (d:=28) (v:=(.slice q (((b.take (Int.toNat (i64.wrap (a+(if ((b.drop (Int.toNat a)).length:Int)<c then ((b.drop (Int.toNat a)).length:Int) else c))))).drop (Int.toNat a)).length) ((Int.toNat (i64.wrap (a+(if ((b.drop (Int.toNat a)).length:Int)<c then ((b.drop (Int.toNat a)).length:Int) else c)))) - (Int.toNat a)))) (congrArg (fun n=>Value.slice q n ((Int.toNat (i64.wrap (a+(if ((b.drop (Int.toNat a)).length:Int)<c then ((b.drop (Int.toNat a)).length:Int) else c)))) - (Int.toNat a))) (show (Int.toNat (i64.wrap (a+(if ((b.drop (Int.toNat a)).length:Int)<c then ((b.drop (Int.toNat a)).length:Int) else c)))) - (Int.toNat a)=((b.take (Int.toNat (i64.wrap (a+(if ((b.drop (Int.toNat a)).length:Int)<c then ((b.drop (Int.toNat a)).length:Int) else c))))).drop (Int.toNat a)).length by rw [List.length_drop (i:=(Int.toNat a)) (l:=b.take (Int.toNat (i64.wrap (a+(if ((b.drop (Int.toNat a)).length:Int)<c then ((b.drop (Int.toNat a)).length:Int) else c))))),List.length_take (i:=(Int.toNat (i64.wrap (a+(if ((b.drop (Int.toNat a)).length:Int)<c then ((b.drop (Int.toNat a)).length:Int) else c))))) (l:=b)];have:=o.2;omega)) ?_;obtain ⟨G,hc_14m,C⟩:=bZ hm;cases C;have hm:=hc_14m;refine ly1 O O O (hy _ _ _ _ [(.slice q (((b.take (Int.toNat (i64.wrap (a+(if ((b.drop (Int.toNat a)).length:Int)<c then ((b.drop (Int.toNat a)).length:Int) else c))))).drop (Int.toNat a)).length) ((Int.toNat (i64.wrap (a+(if ((b.drop (Int.toNat a)).length:Int)<c then ((b.drop (Int.toNat a)).length:Int) else c)))) - (Int.toNat a)))] g ⟨q,((Int.toNat (i64.wrap (a+(if ((b.drop (Int.toNat a)).length:Int)<c then ((b.drop (Int.toNat a)).length:Int) else c)))) - (Int.toNat a)),O,B⟩) ?_;rintro _ H ⟨I,s,⟨rfl,D⟩ | ⟨rfl,hX⟩⟩
   ·refine ⟨_,O,?_⟩;have g:=D;refine go ?_;refine Yh O<|go ?_;replace hb1:=hb1.kpp s;refine lW hb1.at1<|go ?_;replace hf0:=hf0.kpp s;replace hb0:=hb0.kpp s;exact ⟨k,by omega,O,⟨_,_,_,_,O,hm,g,hf0,hb0,hb1,O⟩⟩
   refine ⟨_,O,?_⟩;have g:=hX;refine go ?_;refine X8 O<|W0 ?_;exact ⟨O,⟨_,O⟩,_,.inr g⟩
  cases hm;exact ⟨O,⟨_,O⟩,_,.inl g⟩
def Zkt (N:Nat) (a:(List ((Bool×List Int)×List Int))) (b:Int):Option (List (List ((Bool×List Int)×List Int))):=
  Zks N a b
def Zkr (N:Nat) (b:(List ((Bool×List Int)×List Int))) (a:Int):Option (List (List ((Bool×List Int)×List Int))):=
  if (decide (a<1))=true then none else (Zkt N b a)
theorem Zyh {N a:Nat} {a0:Option Addr} {col:Zd} {w0:World} {c:(List ((Bool×List Int)×List Int))} {d:Int} {r:(List (List ((Bool×List Int)×List Int)))} (hm:Zkr N c d=some r) (h0:Sl (Za.pair (Za.pair Za.bool (Za.slice (Za.int .u32))) (Za.slice (Za.int .u32))) col w0 a0 a c):
    Calls prog 81 #[.slice a0 c.length a,.int .i64 d] w0 (fun e w'=>∃ (col':Zd) (rv1:Value),e= .returned (rv1)∧Zg col w0 col' w'∧It prog 1 rv1 (fun (y:List ((Bool×List Int)×List Int)) (col:Zd) (w:World) (args:List Value)=>∃ (a0:Option Addr) (a:Nat),args=[.slice a0 y.length a]∧Sl (Za.pair (Za.pair Za.bool (Za.slice (Za.int .u32))) (Za.slice (Za.int .u32))) col w a0 a y) r q0 col' w'):=by
 refine Z5 4 (m:=9) func81 O O O O O ?_;rw [Zkr.eq_1] at hm;have b:=St.start col w0;refine go ?_;refine Zje (col:=(Zi col)) (v:=(.slice a0 c.length a)) 1 O O ?_;intro j A u B i;replace i:Ze 126 1 u A j #[.slice a0 c.length a]:=i;refine Zje (col:=u) (v:=(.int .i64 d)) 2 O O ?_;intro k C D x l;replace l:Ze 3 2 D C k #[.int .i64 d]:=l;refine lv (v:=_) O O (Y5 O)<|Zj<|Zo ?_;replace h0:=h0.keep (Zl.start col w0);replace b:=(b.grow B).grow x;replace i:=i.gr x;refine Wp.cutK [2,3,1000000] (fun f p=>∃ o,Zkt N c d=some r∧St w0 (Zi col) o p∧Ze 126 1 o p j #[.slice a0 c.length a]∧Ze 3 2 o p k #[.int .i64 d]) ?_ ?_
 ·intro f p E;obtain ⟨o,hm,b,i,l⟩:=E;rw [Zkt.eq_1] at hm;refine go ?_;refine lV (.func (.func 105) #[] #[.pointer (some ⟨j,0,none⟩),.pointer (some ⟨k,0,none⟩)]) (Z2r O O)<|lA (.func (.func 105) #[] #[.pointer (some ⟨j,0,none⟩),.pointer (some ⟨k,0,none⟩)])<|go ?_;have q:=b.finBox (G:=(fun n=>bif Nat.beq n 1 then 450 else bif Nat.beq n 2 then 450 else 0)) i (by decide) (by decide) (show (fun n=>bif Nat.beq n 1 then 450 else bif Nat.beq n 2 then 450 else 0) 1=450 from O);have h0f:=b.finSl (g:=(fun n=>bif Nat.beq n 1 then 450 else bif Nat.beq n 2 then 450 else 0)) O (h0.ks b);have s:=b.finBox (G:=(fun n=>bif Nat.beq n 1 then 450 else bif Nat.beq n 2 then 450 else 0)) l (by decide) (by decide) (show (fun n=>bif Nat.beq n 1 then 450 else bif Nat.beq n 2 then 450 else 0) 2=450 from O);refine ⟨O,Vv w0.heap.size col o (fun n=>bif Nat.beq n 1 then 450 else bif Nat.beq n 2 then 450 else 0),_,O,b.fin (fun n=>bif Nat.beq n 1 then 450 else bif Nat.beq n 2 then 450 else 0),105,[.pointer (some ⟨j,0,none⟩),.pointer (some ⟨k,0,none⟩)],O,call105,?_⟩;intro col9 w9 t hk9;replace q:=q.itk t hk9 O;replace h0f:=h0f.itk t hk9 O;replace s:=s.itk t hk9 O;exact Zyi N col9 w9 j a0 a c h0f q k d s r hm
 refine go ?_;refine lW l.at1<|go ?_;refine Zm hm (fun hb hm=>?_) fun hb hm=>?_
 ·cases hm
 refine Z1 ?_;exact ⟨O,_,hm,b,i,l⟩
def Zeg (N:Nat):Option ((Bool×List Int)×List Int):=
  (Zgg N 1 1).bind fun a=>some ((a.1.1.1,a.1.1.2),a.1.2)
theorem Zpu {N:Nat} {col:Zd} {w0:World} {r:((Bool×List Int)×List Int)} (c1 c2:Nat) (hm:Zeg N=some r):
    Calls prog 80 #[] w0 (fun e w'=>∃ (col':Zd) (ra1:Option Addr) (rc2:Nat) (ra4:Option Addr) (rc5:Nat),e= .returned ((.agg #[.bool r.1.1,.slice ra1 r.1.2.length rc2,.slice ra4 r.2.length rc5]))∧Zg col w0 col' w'∧Zc (Za.int .u32) 200 c1 col' w' ra1 rc2 r.1.2∧Zc (Za.int .u32) 200 c2 col' w' ra4 rc5 r.2):=by
 refine Wx (m:=8) func80 O O O ?_;rw [Zeg.eq_1] at hm;have b:=St.start col w0;refine go ?_;refine Xz (col:=(Zi col)) #[.bool false,.slice none (([]:List Int).length) 0,.slice none (([]:List Int).length) 0] 1 zeroValue124 ?_;intro B C q s f;refine go ?_;obtain ⟨a,t,hm⟩:=bZ hm;refine Zh (Zw7 (col:=q) 2 3 t) ?_;rintro _ D ⟨u,k,l,n,o,rfl,p,g,i⟩;refine ⟨_,O,?_⟩;refine lM (.tuple #[(.agg #[.bool a.1.1.1,.slice k a.1.1.2.length l,.slice n a.1.2.length o]),.int .i64 a.2])<|lV (.agg #[.bool a.1.1.1,.slice k a.1.1.2.length l,.slice n a.1.2.length o]) (Xl O O)<|lV (.int .i64 a.2) (Xl O O)<|Xz (col:=u) #[.bool false,.slice none (([]:List Int).length) 0,.slice none (([]:List Int).length) 0] 4 zeroValue124 ?_;intro E F G c v;refine Xf v ?_;intro H d w x;refine go ?_;refine lV _ (Xx isAgg124 sizeOf124 x) ?_;replace f:=((f.gr p).gr c).kp d;refine Xf f ?_;intro I j y A;refine go ?_;cases hm;replace b:=((((b.grow s).grow p).grow c).kp d w).kp j y;replace g:=((g.gr c).kp d).kp j;replace i:=((i.gr c).kp d).kp j;exact ⟨O,_,ra A.atN,_,_,_,_,_,O,b.fin (cm [(2,c1),(3,c2)]),b.fo g,b.fo i⟩
def Znt (a:Bool):Option Bool:=
  some a
def Zb0 (N:Nat):List (List ((Bool×List Int)×List Int))→Bool→Option Bool
  | [],c=>some true
  | d :: e,c=>(Zgh N d).bind fun a=>(Zeg N).bind fun b=>(Zdu N ((a.1.1,a.1.2),a.2) ((b.1.1,b.1.2),b.2)).bind fun f=>if (!decide (f=0))=true then (Znt false) else ((Zb0 N e) c)
termination_by structural x=>x
def Zgz (N:Nat) (a:(List ((Bool×List Int)×List Int))) (b:Int):Option Bool:=
  (Zkr N a b).bind fun c=>Zb0 N c false
theorem Zxv {N j:Nat} {a0:Option Addr} {col:Zd} {w0:World} {q:(List ((Bool×List Int)×List Int))} {t:Int} {r:Bool} (hm:Zgz N q t=some r) (h0:Sl (Za.pair (Za.pair Za.bool (Za.slice (Za.int .u32))) (Za.slice (Za.int .u32))) col w0 a0 j q):
    Calls prog 61 #[.slice a0 q.length j,.int .i64 t] w0 (fun e w'=>e= .returned ((.bool r))∧Below w0.heap.size w0 w'):=by
 refine Zy0 (m:=15) (args:=[.slice a0 q.length j,.int .i64 t]) func61 rfl rfl rfl ?_;rw [Zgz.eq_1] at hm;have a:=St.start col w0;replace h0:=h0.keep (Zl.start col w0);have hmk:Y8 499 (Zi col) w0 []:=.nil;refine go ?_;refine Zjd (col:=(Zi col)) (v:=(.bool false)) 1 rfl zeroValue4 ?_;intro k L M F b;replace b:Ze 4 1 M L k #[.bool false]:=b;refine go ?_;obtain ⟨O,P,hm⟩:=bZ hm;replace a:=a.grow F;refine Zh (Zyh P (h0.ks a)) ?_;rintro _ ah ⟨Q,ai,rfl,x,R⟩;refine ⟨_,rfl,go ?_⟩;replace hmk:=(hmk.gr F).gr x;replace b:=b.gr x;replace a:=a.grow x;refine Zvo (psl:=[9]) (arr:=(fun (y:List ((Bool×List Int)×List Int)) (col:Zd) (w:World) (args:List Value)=>∃ (a0:Option Addr) (j:Nat),args=[.slice a0 y.length j]∧Sl (Za.pair (Za.pair Za.bool (Za.slice (Za.int .u32))) (Za.slice (Za.int .u32))) col w a0 j y)) (ys:=O) (col:=Q) 498 rfl R rfl hmk rfl rfl (by rintro _ _ _ _ ⟨_,_,rfl,_⟩;rfl) (fun ys_ d f=>∃ (c:Bool),Zb0 N ys_ c=some r∧St w0 (Zi col) d f∧Ze 4 1 d f k #[.bool c]) (fun c_ d f=>(c_= .ret∧∃ (c:Bool),Znt c=some r∧St w0 (Zi col) d f∧Ze 4 1 d f k #[.bool c])) ?_ ?_ ⟨false,hm,a,b⟩ ?_ ?_ ?_
 ·intro ys_ d f col2_ w2_ l hk;obtain ⟨c,hm,a,b⟩:=l;exact ⟨c,hm,a.kpp hk rfl rfl,b.kpp hk rfl⟩
 ·intro c_ d f col2_ w2_ hX hk;obtain ⟨rfl,hX⟩:=hX;obtain ⟨c,hm,a,b⟩:=hX;exact ⟨rfl,⟨c,hm,a.kpp hk rfl rfl,b.kpp hk rfl⟩⟩
 ·intro aj ak al am an d f args l hrec hmk harr;obtain ⟨c,hm,a,b⟩:=l;rw [Zb0.eq_2] at hm;have hki:=Zs.refl (pC 1) d f;obtain ⟨ao,ap,rfl,A⟩:=harr;refine go ?_;refine ⟨_,hrec,?_⟩;intro aq ar n G hrec2;have hrec:=hrec2;refine go ?_;obtain ⟨au,S,hm⟩:=bZ hm;replace A:=A.kp n;refine Zh (Zw9 2 3 S A) ?_;rintro _ av ⟨T,aw,ax,ay,az,rfl,o,B,C⟩;refine ⟨_,rfl,?_⟩;obtain ⟨a1,U,hm⟩:=bZ hm;refine lc rfl rfl (Zia call80) (Zpu (col:=T) 4 5 U:) ?_;rintro _ V ⟨D,a2,a3,a4,a5,rfl,g,W,X⟩;refine ⟨_,rfl,?_⟩;obtain ⟨a6,Y,hm⟩:=bZ hm;replace B:=B.gr g;replace C:=C.gr g;refine Zh (Zpq Y ((((B.toSlF (Zk.int .u32)).froz 3).froz 4).froz 5) ((((C.froz 2 (by decide)).toSlF (Zk.int .u32)).froz 4).froz 5) ((((W.froz 2 (by decide)).froz 3 (by decide)).toSlF (Zk.int .u32)).froz 5) ((((X.froz 2 (by decide)).froz 3 (by decide)).froz 4 (by decide)).toSlF (Zk.int .u32))) ?_;rintro _ Z ⟨rfl,i⟩;refine ⟨_,rfl,?_⟩;replace i:Zg D V D Z:=.of_below i;refine go ?_;replace b:=(((b.kp n).gr o).gr g).gr i;replace hmk:=(((hmk.kp n).gr o).gr g).gr i;replace hki:=(((hki.kp n G rfl).gr o).gr g).gr i;replace a:=(((a.kp n G).grow o).grow g).grow i;replace hrec:=((hrec.gr o).gr g).gr i;refine Zm hm (fun hb hm=>go ?_) fun hb hm=>?_
  ·refine Zdg (v:=(.bool false)) b sizeOf4 rfl rfl (by intro u hu;simp only [Value.cells,List.mem_cons,List.not_mem_nil,or_false] at hu;subst hu;rfl) rfl rfl ?_;intro aa s H E;replace E:Ze 4 1 D aa k #[.bool false]:=E;refine go ?_;replace hrec:=hrec.kp s;replace hmk:=hmk.kp s;replace hki:=hki.kp s H rfl;replace a:=a.kp s H;exact ⟨_,hki,⟨rfl,⟨false,hm,a,E⟩⟩,hrec,hmk⟩
  refine Z1 ?_;exact ⟨_,hki,⟨c,hm,a,b⟩,hrec,hmk⟩
 ·intro ab d f l hmk;obtain ⟨c,hm,a,b⟩:=l;rw [Zb0.eq_1] at hm;refine go ?_;refine Zdg (v:=(.bool true)) b sizeOf4 rfl rfl (by intro u hu;simp only [Value.cells,List.mem_cons,List.not_mem_nil,or_false] at hu;subst hu;rfl) rfl rfl ?_;intro ac I ad p;replace p:Ze 4 1 d ac k #[.bool true]:=p;refine go ?_;cases hm;replace hmk:=hmk.kp I;refine ⟨_,(ab :: []),rfl,hmk,?_⟩;intro a7 J ae;replace a:=(a.kp I ad).kp J ae;replace p:=p.kp J;exact ⟨_,Zue rfl rfl isAgg4 rfl p.at1,rfl,a.below⟩
 intro c_ af d f hX hmk;obtain ⟨rfl,hX⟩:=hX;obtain ⟨c,hm,a,b⟩:=hX;rw [Znt.eq_1] at hm;refine W0 ?_;cases hm;refine ⟨_,(af :: []),rfl,hmk,?_⟩;intro a8 K ag;replace b:=b.kp K;replace a:=a.kp K ag;exact ⟨_,Zue rfl rfl isAgg4 rfl b.at1,rfl,a.below⟩
def Zei (a:Bool):Option Bool:=
  some a
def Zeh (N:Nat) (a:((Bool×List Int)×List Int)):Option Bool:=
  (Zdv N ((a.1.1,a.1.2),a.2)).bind fun c=>if (decide (c<0))=true then (Zei true) else ((Zeg N).bind fun b=>(Zdu N ((a.1.1,a.1.2),a.2) ((b.1.1,b.1.2),b.2)).bind fun d=>Zei (decide (0<d)))
theorem Zxs {N s t:Nat} {u w:Option Addr} {col:Zd} {w0:World} {g:((Bool×List Int)×List Int)} {r:Bool} (hm:Zeh N g=some r) (n:Sl (Za.int .u32) col w0 u s g.1.2) (o:Sl (Za.int .u32) col w0 w t g.2):
    Calls prog 60 #[(.agg #[.bool g.1.1,.slice u g.1.2.length s,.slice w g.2.length t])] w0 (fun e w'=>e= .returned ((.bool r))∧Below w0.heap.size w0 w'):=by
 refine Z5 2 (m:=12) func60 rfl rfl rfl rfl rfl ?_;rw [Zeh.eq_1] at hm;have a:=St.start col w0;refine go ?_;refine Yj (col:=(Zi col)) 1 rfl ?_;intro P Q d F p;refine Qc rfl<|Zj<|Zo ?_;replace n:=n.keep (Zl.start col w0);replace o:=o.keep (Zl.start col w0);replace a:=a.grow F;refine Wp.cutK [1000000] (fun f C=>∃ D x,Zei x=some r∧St w0 (Zi col) D C∧[2].map f=[.bool x]) ?_ ?_
 ·intro f C G;obtain ⟨D,x,hm,a,hs⟩:=G;rw [Zei.eq_1] at hm;refine .lL [2] hs<|W0 ?_;cases hm;exact ⟨rfl,rfl,a.below⟩
 refine Vl (col:=d) [(0,0),(1,3),(2,1),(3,1),(4,0),(5,3),(6,3),(7,1),(8,1),(9,1)] (by kernel_rfl) (by kernel_rfl)<|xv rfl rfl (fun _ c=>Xx isAgg124 sizeOf124 (p.gr (c.bl d))) ?_;refine xe rfl rfl ?_;intro H hC0;have c:=hC0.bl d;obtain ⟨j,I,hm⟩:=bZ hm;replace a:=a.grow c;refine Zh (Zw8 I (n.ks a) (o.ks a)) ?_;rintro _ J ⟨rfl,l⟩;refine ⟨_,rfl,?_⟩;replace l:Zg d H d J:=.of_below l;refine Zj<|Ww d hC0 l<|xu rfl rfl (fun _=>Zoo _ _ rfl rfl) ?_;refine xu rfl rfl (fun _=>Zlk rfl) ?_;replace p:=(p.gr c).gr l;replace a:=a.grow l;refine Z7 hm (fun i hm=>?_) fun i hm=>?_
 ·refine U3 (b:=decide (j<0)) 6 rfl rfl rfl rfl rfl (by rw [i];rfl)<|U3 (b:=decide (j<0)) 6 rfl rfl rfl rfl rfl (by rw [i];rfl)<|U3 (b:=decide (j<0)) 6 rfl rfl rfl rfl rfl (by rw [i];rfl)<|U3 (b:=decide (j<0)) 6 rfl rfl rfl rfl rfl (by rw [i];rfl)<|xu (v:=(.bool true)) rfl rfl (fun _=>Zx (congrArg Value.bool i) rfl) ?_;refine xu rfl rfl (fun _=>Zh9 rfl) ?_;refine W6 ?_;intro R c;replace c:=c.bl d;replace a:=a.grow c;exact ⟨rfl,_,_,hm,a,rfl⟩
 refine Zvq (v:=(.agg #[.bool g.1.1,.slice u g.1.2.length s,.slice w g.2.length t])) (b:=decide (j<0)) 6 rfl rfl rfl rfl rfl (by rw [i];rfl) (fun _ c=>W9 isAgg124 sizeOf124 rfl rfl (p.atN.gr (c.bl d))) ?_;refine xe rfl rfl ?_;intro S hC0;have c:=hC0.bl d;refine go ?_;obtain ⟨T,K,hm⟩:=bZ hm;refine lc rfl rfl (Zia call80) (Zpu (col:=d) 6 7 K:) ?_;rintro _ U ⟨k,V,W,X,Y,rfl,E,y,A⟩;refine ⟨_,rfl,?_⟩;refine Zj<|Ww k hC0 E<|xe rfl rfl ?_;intro L hC0;replace a:=(a.grow c).grow E;have c:=hC0.bl k;refine go ?_;obtain ⟨B,M,hm⟩:=bZ hm;replace y:=y.gr c;replace A:=A.gr c;replace a:=a.grow c;refine Zh (Zpq M (((n.ks a).froz 6).froz 7) (((o.ks a).froz 6).froz 7) ((y.toSlF (Zk.int .u32)).froz 7) ((A.froz 6 (by decide)).toSlF (Zk.int .u32))) ?_;rintro _ O ⟨rfl,q⟩;refine ⟨_,rfl,?_⟩;replace q:Zg k L k O:=.of_below q;refine Zj<|Ww k hC0 q<|Zl4 (v:=(.bool (decide (0<B)))) (b:=decide (j<0)) 6 rfl rfl rfl rfl rfl (by rw [i];rfl) (fun _=>Zom B 0 rfl rfl) ?_;refine xu (v:=(.bool (decide (0<B)))) rfl rfl (fun _=>Z0 (congrArg Value.bool i) rfl) ?_;refine xu rfl rfl (fun _=>Zh9 rfl) ?_;refine W6 ?_;intro Z c;replace c:=c.bl k;replace a:=(a.grow q).grow c;exact ⟨rfl,_,_,hm,a,rfl⟩
def Zcp (N:Nat):List ((Bool×List Int)×List Int)→Nat→Option Int
  | [],a=>some (-1)
  | b :: c,a=>(Zeh N ((b.1.1,b.1.2),b.2)).bind fun d=>if d=true then (some (a:Int)) else ((Zcp N c) (a+1))
termination_by structural x=>x
def Zkv (N:Nat) (a:(List ((Bool×List Int)×List Int))):Option Int:=
  Zcp N a 0
theorem Zym {N o:Nat} {a0:Option Addr} {col:Zd} {w0:World} {b:(List ((Bool×List Int)×List Int))} {r:Int} (hm:Zkv N b=some r) (h0:Sl (Za.pair (Za.pair Za.bool (Za.slice (Za.int .u32))) (Za.slice (Za.int .u32))) col w0 a0 o b):
    Calls prog 76 #[.slice a0 b.length o,(.func (.func 60) #[] #[])] w0 (fun e w'=>e= .returned ((.int .i64 r))∧Below w0.heap.size w0 w'):=by
 refine Z5 4 (m:=19) func76 O O O O O ?_;rw [Zkv.eq_1] at hm;have a:=St.start col w0;refine go ?_;refine Z6 [0,1,7,1000000] (fun n f i=>∃ g c d,n=d.length∧b.drop c=d∧Zcp N d c=some r∧St w0 (Zi col) g i∧[8].map f=[.int .i64 c]) b.length ⟨_,0,_,O,O,hm,a,O⟩ ?_;clear hm;intro n f i p;obtain ⟨g,c,d,hn,hl,hm,a,hs⟩:=p;subst hn;refine .lL [8] hs ?_;replace h0:=h0.keep (Zl.start col w0)
 cases d with
 | nil=>
  have hk:¬ ((c:Int)<(b.length:Int)):=by have:=List.drop_eq_nil_iff.1 hl;omega
  have hkb:=decide_eq_false hk;rw [Zcp.eq_1] at hm;refine go ?_;refine Yh (congrArg Value.bool hkb)<|go ?_;cases hm;exact ⟨O,O,a.below⟩
 | cons j q=>
  obtain ⟨k,s,t⟩:=Yu hl;have hk:(c:Int)<(b.length:Int):=by omega
  have hkb:=decide_eq_true hk;rw [Zcp.eq_2] at hm;refine go ?_;refine X8 (congrArg Value.bool hkb)<|go ?_;refine lM (.func (.func 60) #[] #[])<|go ?_;refine lI k ((h0.ks a).addr k) ?_;obtain ⟨_,u,v⟩:=(h0.ks a).atN k;obtain ⟨_,_,rfl,w,x⟩:=W4 u;obtain ⟨_,_,rfl,y,A⟩:=W4 w;obtain ⟨rfl,_⟩:=y;obtain ⟨⟨B,C,rfl,D⟩,_⟩:=A;obtain ⟨⟨E,F,rfl,G⟩,_⟩:=x;refine lV (.agg #[.bool j.1.1,.slice B j.1.2.length C,.slice E j.2.length F]) (W9 isAgg124 sizeOf124 O O v) ?_;obtain ⟨J,H,hm⟩:=bZ hm;refine lc O O (Zok call60 O O) (Zxs H D G:) ?_;rintro _ I ⟨rfl,l⟩;refine ⟨_,O,?_⟩;replace l:Zg g i g I:=.of_below l;refine Zj ?_;replace a:=a.grow l;refine Zm hm (fun hb hm=>go ?_) fun hb hm=>go ?_
  ·cases hm;exact ⟨O,O,a.below⟩
  exact ⟨q.length,by simp,O,⟨_,_,_,O,s,hm,a,(Y0 (congrArg (Value.int .i64) (Yw (Nat.lt_of_lt_of_le t (h0.ks a).1.1))) O)⟩⟩
def Zku (N:Nat) (a:(List ((Bool×List Int)×List Int))):Option Bool:=
  (Zkv N a).bind fun b=>some (decide (0≤b))
theorem Zyl {N d:Nat} {a0:Option Addr} {col:Zd} {w0:World} {b:(List ((Bool×List Int)×List Int))} {r:Bool} (hm:Zku N b=some r) (h0:Sl (Za.pair (Za.pair Za.bool (Za.slice (Za.int .u32))) (Za.slice (Za.int .u32))) col w0 a0 d b):
    Calls prog 58 #[.slice a0 b.length d,(.func (.func 60) #[] #[])] w0 (fun e w'=>e= .returned ((.bool r))∧Below w0.heap.size w0 w'):=by
 refine Z5 4 (m:=9) func58 O O O O O ?_;rw [Zku.eq_1] at hm;have a:=St.start col w0;refine go ?_;refine lM (.func (.func 60) #[] #[]) ?_;obtain ⟨i,f,hm⟩:=bZ hm;replace h0:=h0.keep (Zl.start col w0);refine Zh (Zym f (h0.ks a)) ?_;rintro _ g ⟨rfl,c⟩;refine ⟨_,O,?_⟩;replace c:Zg (Zi col) w0 (Zi col) g:=.of_below c;refine go ?_;cases hm;replace a:=a.grow c;exact ⟨O,O,a.below⟩
def Zbz (b:(ByteArray×List ByteArray×(List (List ByteArray))×(List (List Int))×(List (List ((Bool×List Int)×List Int))))):List Int→Int→Option Int
  | [],a=>some a
  | d :: e,a=>(Zq b.2.2.1 d).bind fun c=>(Zbz b e) (if 1099511627776<(i64.wrap (a * (c.length:Int))) then 1099511627776 else (i64.wrap (a * (c.length:Int))))
termination_by structural x=>x
def Zej (a:(ByteArray×List ByteArray×(List (List ByteArray))×(List (List Int))×(List (List ((Bool×List Int)×List Int))))) (b:Int):Option Int:=
  (Zq a.2.2.2.1 b).bind fun c=>Zbz a c 1
theorem Zxt {s t u v:Nat} {w x y A:Option Addr} {col:Zd} {w0:World} {a:(ByteArray×List ByteArray×(List (List ByteArray))×(List (List Int))×(List (List ((Bool×List Int)×List Int))))} {F r:Int} (hm:Zej a F=some r) (S:Sl Za.str col w0 w s a.2.1) (l:Sl (Za.slice Za.str) col w0 x t a.2.2.1) (o:Sl (Za.slice (Za.int .i64)) col w0 y u a.2.2.2.1) (T:Sl (Za.slice (Za.pair (Za.pair Za.bool (Za.slice (Za.int .u32))) (Za.slice (Za.int .u32)))) col w0 A v a.2.2.2.2):
    Calls prog 57 #[(.agg #[.string a.1,.slice w a.2.1.length s,.slice x a.2.2.1.length t,.slice y a.2.2.2.1.length u,.slice A a.2.2.2.2.length v]),.int .i64 F] w0 (fun e w'=>e= .returned ((.int .i64 r))∧Below w0.heap.size w0 w'):=by
 refine Z5 4 (m:=29) func57 rfl rfl rfl rfl rfl ?_;rw [Zej.eq_1] at hm;have b:=St.start col w0;refine go ?_;refine Yj (col:=(Zi col)) 1 rfl ?_;intro G U V H g;refine go ?_;refine Zz g<|Y1 rfl ?_;obtain ⟨i,B,hm⟩:=bZ hm;replace o:=o.keep (Zl.start col w0);replace b:=b.grow H;refine lI B ((o.ks b).addr B) ?_;obtain ⟨_,I,J⟩:=(o.ks b).atN B;obtain ⟨⟨K,L,rfl,c⟩,_⟩:=I;refine lW J.one<|go ?_;refine Z6 [12,13,2,1000000] (fun n f p=>∃ q j d k,n=k.length∧i.drop j=k∧Zbz a k d=some r∧St w0 (Zi col) q p∧Sl (Za.int .i64) q p K L i∧Ze 45 1 q p G #[.string a.1,.slice w a.2.1.length s,.slice x a.2.2.1.length t,.slice y a.2.2.2.1.length u,.slice A a.2.2.2.2.length v]∧[14,5].map f=[.int .i64 j,.int .i64 d]) i.length ⟨_,0,1,_,rfl,rfl,hm,b,c,g,rfl⟩ ?_;clear hm;intro n f p M;obtain ⟨q,j,d,k,hn,hl,hm,b,c,g,hs⟩:=M;subst hn;refine .lL [14,5] hs ?_;replace l:=l.keep (Zl.start col w0)
 cases k with
 | nil=>
  have hk:¬ ((j:Int)<(i.length:Int)):=by have:=List.drop_eq_nil_iff.1 hl;omega
  have hkb:=decide_eq_false hk;rw [Zbz.eq_1] at hm;refine go ?_;refine Yh (congrArg Value.bool hkb)<|go ?_;cases hm;exact ⟨rfl,rfl,b.below⟩
 | cons W N=>
  obtain ⟨C,O,P⟩:=Yu hl;have hk:(j:Int)<(i.length:Int):=by omega
  have hkb:=decide_eq_true hk;rw [Zbz.eq_2] at hm;refine go ?_;refine X8 (congrArg Value.bool hkb)<|go ?_;refine lI C (c.addr C)<|lW (c.atInt C) ?_;refine go ?_;refine Zz g<|Y1 rfl ?_;obtain ⟨D,E,hm⟩:=bZ hm;refine lI E ((l.ks b).addr E) ?_;obtain ⟨_,Q,R⟩:=(l.ks b).atN E;obtain ⟨⟨X,Y,rfl,Z⟩,_⟩:=Q;refine lW R.one<|go ?_;refine lV (.int .i64 (if 1099511627776<(i64.wrap (d * (D.length:Int))) then 1099511627776 else (i64.wrap (d * (D.length:Int))))) (Zty (i64.wrap (d * (D.length:Int))) 1099511627776 rfl rfl)<|go ?_;exact ⟨N.length,by simp,rfl,⟨_,_,_,_,rfl,O,hm,b,c,g,(Y0 (congrArg (Value.int .i64) (Yw (Nat.lt_of_lt_of_le P c.1.1))) rfl)⟩⟩
def Zav (N:Nat) (b:(ByteArray×List ByteArray×(List (List ByteArray))×(List (List Int))×(List (List ((Bool×List Int)×List Int))))):List (List ((Bool×List Int)×List Int))→Nat→Option Int
  | [],a=>some 0
  | c :: d,a=>(Zq b.2.2.1 (a:Int)).bind fun e=>(Zed N c).bind fun f=>(Zgz N f (e.length:Int)).bind fun g=>if (!g)=true then (some 46) else ((Zav N b d) (a+1))
termination_by structural x=>x
def Qo (N:Nat) (a:(ByteArray×List ByteArray×(List (List ByteArray))×(List (List Int))×(List (List ((Bool×List Int)×List Int))))):List (List ((Bool×List Int)×List Int))→Option Int
  | []=>Zav N a a.2.2.2.2 0
  | b :: c=>(Zed N b).bind fun d=>(Zku N d).bind fun e=>if e=true then (some 45) else (Qo N a c)
termination_by structural x=>x
def Qn (N:Nat) (a:(ByteArray×List ByteArray×(List (List ByteArray))×(List (List Int))×(List (List ((Bool×List Int)×List Int))))):List (List ((Bool×List Int)×List Int))→Nat→Option Int
  | [],b=>Qo N a a.2.2.2.2
  | e :: f,b=>(Zej (a.1,a.2.1,a.2.2.1,a.2.2.2.1,a.2.2.2.2) (b:Int)).bind fun c=>(Zq a.2.2.1 (b:Int)).bind fun d=>if (decide (65536<(i64.wrap (c * (d.length:Int)))))=true then (some 4) else (if (!decide ((i64.wrap (c * (d.length:Int)))=(e.length:Int)))=true then (some 60) else ((Qn N a f) (b+1)))
termination_by structural x=>x
def Qm (N:Nat) (a:(ByteArray×List ByteArray×(List (List ByteArray))×(List (List Int))×(List (List ((Bool×List Int)×List Int))))) (d:Bool):Option Int:=
  if d=true then (some 60) else (if (decide (1024<(a.2.1.length:Int)))=true then (some 4) else ((Zee (a.1,a.2.1,a.2.2.1,a.2.2.2.1,a.2.2.2.2)).bind fun b=>if (!decide (b=0))=true then (some b) else ((Qe N a.2.2.2.1).bind fun c=>if (!decide (c=0))=true then (some c) else (Qn N a a.2.2.2.2 0))))
def Tp (N:Nat) (a:(ByteArray×List ByteArray×(List (List ByteArray))×(List (List Int))×(List (List ((Bool×List Int)×List Int))))):Option Int:=
  if (!decide ((a.2.2.1.length:Int)=(a.2.1.length:Int)))=true then (Qm N a true) else (if (!decide ((a.2.2.2.1.length:Int)=(a.2.1.length:Int)))=true then (Qm N a true) else (Qm N a (!decide ((a.2.2.2.2.length:Int)=(a.2.1.length:Int)))))
theorem Zxp {N p s t u:Nat} {w x y A:Option Addr} {col:Zd} {w0:World} {b:(ByteArray×List ByteArray×(List (List ByteArray))×(List (List Int))×(List (List ((Bool×List Int)×List Int))))} {r:Int} (hm:Tp N b=some r) (L:Sl Za.str col w0 w p b.2.1) (k:Sl (Za.slice Za.str) col w0 x s b.2.2.1) (E:Sl (Za.slice (Za.int .i64)) col w0 y t b.2.2.2.1) (g:Sl (Za.slice (Za.pair (Za.pair Za.bool (Za.slice (Za.int .u32))) (Za.slice (Za.int .u32)))) col w0 A u b.2.2.2.2):
    Calls prog 40 #[(.agg #[.string b.1,.slice w b.2.1.length p,.slice x b.2.2.1.length s,.slice y b.2.2.2.1.length t,.slice A b.2.2.2.2.length u])] w0 (fun e w'=>e= .returned ((.int .i64 r))∧Below w0.heap.size w0 w'):=by
 refine Z5 2 (m:=103) func40 rfl rfl rfl rfl rfl ?_;rw [Tp.eq_1] at hm;have a:=St.start col w0;refine go ?_;refine Yj (col:=(Zi col)) 1 rfl ?_;intro M bi bj ah c;refine go ?_;refine Zz c<|lV _ (Zcv underlying40 rfl)<|Yq rfl<|Zj<|Zo<|Zo ?_;replace L:=L.keep (Zl.start col w0);replace k:=k.keep (Zl.start col w0);replace E:=E.keep (Zl.start col w0);replace g:=g.keep (Zl.start col w0);replace a:=a.grow ah;refine Wp.cutK [1,3,1000000] (fun f O=>∃ l T,Qm N b T=some r∧St w0 (Zi col) l O∧Ze 45 1 l O M #[.string b.1,.slice w b.2.1.length p,.slice x b.2.2.1.length s,.slice y b.2.2.2.1.length t,.slice A b.2.2.2.2.length u]∧[34].map f=[.bool T]) ?_ ?_
 ·intro f O hJ;obtain ⟨l,T,hm,a,c,hs⟩:=hJ;rw [Qm.eq_1] at hm;refine .lL [34] hs ?_;refine Zm hm (fun hb hm=>go ?_) fun hb hm=>go ?_
  ·cases hm;exact ⟨rfl,rfl,a.below⟩
  refine Zm hm (fun hb hm=>go ?_) fun hb hm=>go ?_
  ·cases hm;exact ⟨rfl,rfl,a.below⟩
  refine lV _ (Xx isAgg45 sizeOf45 c) ?_;obtain ⟨bk,ai,hm⟩:=bZ hm;refine Zh (Zxr ai (L.ks a) (k.ks a) (E.ks a) (g.ks a)) ?_;rintro _ ae ⟨rfl,P⟩;refine ⟨_,rfl,?_⟩;replace P:Zg l O l ae:=.of_below P;refine go ?_;replace c:=c.gr P;replace a:=a.grow P;refine Zm hm (fun hb hm=>go ?_) fun hb hm=>go ?_
  ·cases hm;exact ⟨rfl,rfl,a.below⟩
  refine Zz c ?_;obtain ⟨bm,aj,hm⟩:=bZ hm;refine Zh (Zwz aj (E.ks a)) ?_;rintro _ ak ⟨rfl,Q⟩;refine ⟨_,rfl,?_⟩;replace Q:Zg l ae l ak:=.of_below Q;refine go ?_;replace c:=c.gr Q;replace a:=a.grow Q;refine Zm hm (fun hb hm=>go ?_) fun hb hm=>go ?_
  ·cases hm;exact ⟨rfl,rfl,a.below⟩
  refine Zz c ?_;refine go ?_;refine Z6 [1,49,50,1000000] (fun n f U=>∃ i B F,n=F.length∧b.2.2.2.2.drop B=F∧Qn N b F B=some r∧St w0 (Zi col) i U∧Ze 45 1 i U M #[.string b.1,.slice w b.2.1.length p,.slice x b.2.2.1.length s,.slice y b.2.2.2.1.length t,.slice A b.2.2.2.2.length u]∧[51].map f=[.int .i64 B]) b.2.2.2.2.length ⟨_,0,_,rfl,rfl,hm,a,c,rfl⟩ ?_;clear hm;intro n f U G;obtain ⟨i,B,F,hn,hl,hm,a,c,hs⟩:=G;subst hn;refine .lL [51] hs ?_
  cases F with
  | nil=>
   have hk:¬ ((B:Int)<(b.2.2.2.2.length:Int)):=by have:=List.drop_eq_nil_iff.1 hl;omega
   have hkb:=decide_eq_false hk;rw [Qn.eq_1] at hm;refine go ?_;refine Yh (congrArg Value.bool hkb)<|go ?_;refine Zz c ?_;refine go ?_;refine Z6 [1,74,75,1000000] (fun n f V=>∃ W H I,n=I.length∧b.2.2.2.2.drop H=I∧Qo N b I=some r∧St w0 (Zi col) W V∧Ze 45 1 W V M #[.string b.1,.slice w b.2.1.length p,.slice x b.2.2.1.length s,.slice y b.2.2.2.1.length t,.slice A b.2.2.2.2.length u]∧[76].map f=[.int .i64 H]) b.2.2.2.2.length ⟨_,0,_,rfl,rfl,hm,a,c,rfl⟩ ?_;clear hm;intro n f V G;obtain ⟨W,H,I,hn,hl,hm,a,c,hs⟩:=G;subst hn;refine .lL [76] hs ?_
   cases I with
   | nil=>
    have hk:¬ ((H:Int)<(b.2.2.2.2.length:Int)):=by have:=List.drop_eq_nil_iff.1 hl;omega
    have hkb:=decide_eq_false hk;rw [Qo.eq_1] at hm;refine go ?_;refine Yh (congrArg Value.bool hkb)<|go ?_;refine Zz c ?_;refine go ?_;refine Z6 [1,85,86,1000000] (fun n f X=>∃ o C J,n=J.length∧b.2.2.2.2.drop C=J∧Zav N b J C=some r∧St w0 (Zi col) o X∧Ze 45 1 o X M #[.string b.1,.slice w b.2.1.length p,.slice x b.2.2.1.length s,.slice y b.2.2.2.1.length t,.slice A b.2.2.2.2.length u]∧[87].map f=[.int .i64 C]) b.2.2.2.2.length ⟨_,0,_,rfl,rfl,hm,a,c,rfl⟩ ?_;clear hm;intro n f X G;obtain ⟨o,C,J,hn,hl,hm,a,c,hs⟩:=G;subst hn;refine .lL [87] hs ?_
    cases J with
    | nil=>
     have hk:¬ ((C:Int)<(b.2.2.2.2.length:Int)):=by have:=List.drop_eq_nil_iff.1 hl;omega
     have hkb:=decide_eq_false hk;rw [Zav.eq_1] at hm;refine go ?_;refine Yh (congrArg Value.bool hkb)<|go ?_;cases hm;exact ⟨rfl,rfl,a.below⟩
    | cons bn al=>
     obtain ⟨j,am,an⟩:=Yu hl;have hk:(C:Int)<(b.2.2.2.2.length:Int):=by omega
     have hkb:=decide_eq_true hk;rw [Zav.eq_2] at hm;refine go ?_;refine X8 (congrArg Value.bool hkb)<|go ?_;refine lI j ((g.ks a).addr j) ?_;obtain ⟨_,ao,ap⟩:=(g.ks a).atN j;obtain ⟨⟨bo,bp,rfl,Y⟩,_⟩:=ao;refine lW ap.one<|go ?_;refine Vl (col:=o) [(0,1),(2,1),(3,0),(4,1),(5,1),(6,0),(7,1),(1,3),(8,3),(9,1)] (by kernel_rfl) (by kernel_rfl)<|xu rfl rfl (fun _=>Zbb rfl) ?_;refine xF ⟨_,_,rfl⟩ ?_;refine xW (fun _ d=>((c.atN).nth (q:=2) rfl).gr (d.bl o)) ?_;refine xu rfl rfl (fun _=>Ve rfl) ?_;obtain ⟨bq,R,hm⟩:=bZ hm;refine xu rfl rfl (fun _=>V1 underlying41 sizeOf40 rfl rfl (Yb R).1 (Yb R).2.1 ((k.ks a).addr R)) ?_;obtain ⟨_,aq,ar⟩:=(k.ks a).atN R;obtain ⟨⟨br,bs,rfl,bt⟩,_⟩:=aq;refine xW (fun _ d=>ar.one.gr (d.bl o)) ?_;refine xu rfl rfl (fun _=>Zcv underlying40 rfl) ?_;refine xe rfl rfl ?_;intro bu hC0;have d:=hC0.bl o;obtain ⟨bv,au,hm⟩:=bZ hm;replace Y:=Y.gr d;refine Zh (Zpt 2 au Y) ?_;rintro _ bw ⟨D,bx,bz,rfl,Z,aa⟩;refine ⟨_,rfl,?_⟩;refine Zj<|Ww D hC0 Z<|xe rfl rfl ?_;intro av hC0;replace c:=(c.gr d).gr Z;replace a:=(a.grow d).grow Z;have d:=hC0.bl D;obtain ⟨b0,aw,hm⟩:=bZ hm;replace aa:=aa.gr d;refine Zh (Zxv aw (aa.toSlF (Zk.pair (Zk.pair Zk.bool Zk.slice) Zk.slice))) ?_;rintro _ ax ⟨rfl,K⟩;refine ⟨_,rfl,?_⟩;replace K:Zg D av D ax:=.of_below K;refine Zj<|Ww D hC0 K<|xu rfl rfl (fun _=>Zor _ rfl) ?_;refine W6 ?_;replace c:=(c.gr d).gr K;replace a:=(a.grow d).grow K;intro b1 d;replace d:=d.bl D;replace c:=c.gr d;replace a:=a.grow d;refine Zm hm (fun hb hm=>go ?_) fun hb hm=>go ?_
     ·cases hm;exact ⟨rfl,rfl,a.below⟩
     exact ⟨al.length,by simp,rfl,⟨_,_,_,rfl,am,hm,a,c,(Y0 (congrArg (Value.int .i64) (Yw (Nat.lt_of_lt_of_le an (g.ks a).1.1))) rfl)⟩⟩
   | cons b2 ay=>
    obtain ⟨j,az,a0⟩:=Yu hl;have hk:(H:Int)<(b.2.2.2.2.length:Int):=by omega
    have hkb:=decide_eq_true hk;rw [Qo.eq_2] at hm;refine go ?_;refine X8 (congrArg Value.bool hkb)<|go ?_;refine lI j ((g.ks a).addr j) ?_;obtain ⟨_,a1,a2⟩:=(g.ks a).atN j;obtain ⟨⟨b3,b4,rfl,a3⟩,_⟩:=a1;refine lW a2.one<|go ?_;obtain ⟨b5,a4,hm⟩:=bZ hm;refine Zh (Zpt 3 a4 a3) ?_;rintro _ a5 ⟨af,b6,b7,rfl,ag,a6⟩;refine ⟨_,rfl,?_⟩;obtain ⟨b8,a7,hm⟩:=bZ hm;refine Zh (Zyl a7 (a6.toSlF (Zk.pair (Zk.pair Zk.bool Zk.slice) Zk.slice))) ?_;rintro _ a8 ⟨rfl,S⟩;refine ⟨_,rfl,?_⟩;replace S:Zg af a5 af a8:=.of_below S;refine Zj ?_;replace c:=(c.gr ag).gr S;replace a:=(a.grow ag).grow S;refine Zm hm (fun hb hm=>go ?_) fun hb hm=>go ?_
    ·cases hm;exact ⟨rfl,rfl,a.below⟩
    exact ⟨ay.length,by simp,rfl,⟨_,_,_,rfl,az,hm,a,c,(Y0 (congrArg (Value.int .i64) (Yw (Nat.lt_of_lt_of_le a0 (g.ks a).1.1))) rfl)⟩⟩
  | cons b9 a9=>
   obtain ⟨j,ba,bb⟩:=Yu hl;have hk:(B:Int)<(b.2.2.2.2.length:Int):=by omega
   have hkb:=decide_eq_true hk;rw [Qn.eq_2] at hm;refine go ?_;refine X8 (congrArg Value.bool hkb)<|go ?_;refine lI j ((g.ks a).addr j) ?_;obtain ⟨_,bc,bd⟩:=(g.ks a).atN j;obtain ⟨⟨ca,cb,rfl,cc⟩,_⟩:=bc;refine lW bd.one<|go ?_;refine Vs (col:=i) (by kernel_rfl) (by kernel_rfl)<|qv rfl (fun _ d=>Xx isAgg45 sizeOf45 (c.gr (d.bl i))) ?_;refine go ?_;obtain ⟨be,bf,hm⟩:=bZ hm;refine qc (v:=(.int .i64 be)) rfl (fun _ d=>⟨_,_,Zib call57 rfl rfl,(Zxt bf ((L.ks a).gr (d.bl i)) ((k.ks a).gr (d.bl i)) ((E.ks a).gr (d.bl i)) ((g.ks a).gr (d.bl i)):).mono fun _ _ h=>⟨h.1,d.trans (.of_below h.2)⟩⟩) ?_;refine qF ⟨_,_,rfl⟩ ?_;refine qW (fun _ d=>((c.atN).nth (q:=2) rfl).gr (d.bl i)) ?_;refine go ?_;obtain ⟨cd,ab,hm⟩:=bZ hm;refine qI ab ((k.ks a).addr ab) ?_;obtain ⟨_,bg,bh⟩:=(k.ks a).atN ab;obtain ⟨⟨ce,cf,rfl,cg⟩,_⟩:=bg;refine qW (fun _ d=>bh.one.gr (d.bl i)) ?_;refine go ?_;refine Y3 ?_;intro ch d;replace d:=d.bl i;refine go ?_;replace c:=c.gr d;replace a:=a.grow d;refine Zm hm (fun hb hm=>go ?_) fun hb hm=>go ?_
   ·cases hm;exact ⟨rfl,rfl,a.below⟩
   refine Zm hm (fun hb hm=>go ?_) fun hb hm=>go ?_
   ·cases hm;exact ⟨rfl,rfl,a.below⟩
   exact ⟨a9.length,by simp,rfl,⟨_,_,_,rfl,ba,hm,a,c,(Y0 (congrArg (Value.int .i64) (Yw (Nat.lt_of_lt_of_le bb (g.ks a).1.1))) rfl)⟩⟩
 refine Yo<|Zz c ?_;refine go ?_;refine Z7 hm (fun ac hm=>go ?_) fun ac hm=>go ?_
 ·refine lV (.bool true) (Zx (congrArg Value.bool ac) rfl)<|Yg rfl<|lP 28 rfl rfl<|lP 28 rfl rfl<|lP 28 rfl rfl<|lP 28 rfl rfl<|lP 28 rfl rfl<|lV (.bool true) (Zx rfl rfl)<|Zj ?_;exact ⟨rfl,_,_,hm,a,c,rfl⟩
 refine Zv ⟨_,_,rfl⟩ ?_;refine go ?_;refine lW ((c.atN).nth (q:=3) rfl)<|go ?_;refine lV (.bool (!decide ((b.2.2.2.1.length:Int)=(b.2.1.length:Int)))) (Z0 (congrArg Value.bool ac) rfl)<|Yg rfl ?_;refine Z7 hm (fun ad hm=>go ?_) fun ad hm=>go ?_
 ·refine lV (.bool true) (Zx (congrArg Value.bool ad) rfl)<|Zj ?_;exact ⟨rfl,_,_,hm,a,c,rfl⟩
 refine Zv ⟨_,_,rfl⟩ ?_;refine go ?_;refine lW ((c.atN).nth (q:=4) rfl)<|go ?_;refine lV (.bool (!decide ((b.2.2.2.2.length:Int)=(b.2.1.length:Int)))) (Z0 (congrArg Value.bool ad) rfl)<|Zj ?_;exact ⟨rfl,_,_,hm,a,c,rfl⟩
abbrev Wn:=ByteArray×List ByteArray×List (List ByteArray)×List (List Int)×List (List QV)
instance decMemB:∀ (s:ByteArray) (l:List ByteArray),Decidable (s ∈ l)
 | _,[]=>isFalse (by simp)
 | s,x :: l=>if h:s=x then isTrue (by rw [h];exact List.mem_cons_self) else match decMemB s l with
  | isTrue h2=>isTrue (List.mem_cons_of_mem _ h2)
  | isFalse h2=>isFalse (by rw [List.mem_cons];rintro (h3 | h3) <;> contradiction)
theorem Z1y {α:Type} (l:List α) (k:Nat) (hk:k<l.length):(l.take (k+1)).Nodup↔(l.take k).Nodup∧l[k] ∉ l.take k:=by
 rw [List.take_add_one,List.getElem?_eq_getElem hk,Option.toList_some,List.nodup_append]
 constructor
 ·rintro ⟨h1,_,h3⟩
  exact ⟨h1,fun hm=>h3 _ hm _ (by simp) rfl⟩
 ·rintro ⟨h1,h2⟩
  refine ⟨h1,by simp,fun a ha b hb e=>?_⟩
  rw [List.mem_singleton] at hb
  subst hb;subst e
  exact h2 ha
theorem Zrf (s:ByteArray):∀ (l:List ByteArray) (k:Nat),∃ j:Int,Zcq s l k=some j∧(0≤j↔s ∈ l)
 | [],k=>⟨-1,rfl,by simp⟩
 | x :: l,k=>by
  rw [Zcq.eq_2]
  by_cases h:s=x
  ·rw [if_pos (decide_eq_true h)];exact ⟨_,rfl,by simp [h]⟩
  ·rw [if_neg (by rw [decide_eq_false h];decide)]
   obtain ⟨j,h1,h2⟩:=Zrf s l (k+1)
   exact ⟨j,h1,by rw [h2,List.mem_cons];simp [h]⟩
theorem Zm0 (s:ByteArray) (l:List ByteArray):Zco l s=some (decide (s ∈ l)):=by
 obtain ⟨j,h1,h2⟩:=Zrf s l 0
 rw [Zco,Zkw,h1,Option.bind_some]
 congr 1
 exact decide_eq_decide.2 h2
theorem Zsi:∀ (l:List ByteArray) (seen:List (ByteArray×Int)) (S:List ByteArray),S.Nodup→(∀ k,Xg seen k=if k ∈ S then some 1 else none)→Zax l seen=some (!decide (S++l).Nodup)
 | [],seen,S,h1,h2=>by rw [Zax.eq_1,List.append_nil,decide_eq_true h1];rfl
 | x :: l,seen,S,h1,h2=>by
  rw [Zax.eq_2,h2 x]
  by_cases hx:x ∈ S
  ·rw [if_pos hx,if_pos (by decide),decide_eq_false]
   ·rfl
   intro h
   exact (List.nodup_append.1 h).2.2 x hx x List.mem_cons_self rfl
  ·rw [if_neg hx,if_neg (by decide),Option.bind_some,Zsi l _ (S++[x]) (by
    rw [List.nodup_append]
    refine ⟨h1,by simp,fun a ha b hb e=>?_⟩
    rw [List.mem_singleton] at hb;subst hb;subst e;exact hx ha) (fun k=>by
    rw [Zh4,h2 k]
    by_cases hk:k=x
    ·subst hk;rw [if_pos rfl,if_pos (by simp)]
    ·rw [if_neg hk]
     by_cases hs:k ∈ S
     ·rw [if_pos hs,if_pos (by simp [hs])]
     ·rw [if_neg hs,if_neg (by simp [hs,hk])])]
   rw [List.append_assoc];rfl
theorem Z1m (l:List ByteArray):Zgy l=some (!decide l.Nodup):=by
 rw [Zgy,Zsi l [] [] .nil (fun k=>by simp [Xg]),List.nil_append]
def Q2 (names:List ByteArray) (vals:List (List ByteArray)):Nat→Nat→Int
 | 0,_=>0
 | m+1,v=>if names.getD v ⟨#[]⟩ ∈ names.take v∨¬ (vals.getD v []).Nodup then 40 else if vals.getD v []=[] then 43 else Q2 names vals m (v+1)
theorem Zso (n:Wn) (hl:n.2.2.1.length=n.2.1.length):∀ (l:List ByteArray) (k:Nat),n.2.1.drop k=l→k≤n.2.1.length→Qp n l k=some (Q2 n.2.1 n.2.2.1 l.length k)
 | [],k,_,_=>rfl
 | x :: l,k,hd,hk=>by
  have hk1:k<n.2.1.length:=by
   rcases Nat.lt_or_ge k n.2.1.length with h | h
   ·exact h
   ·rw [List.drop_eq_nil_of_le h] at hd;cases hd
  have hd2:=List.drop_eq_getElem_cons hk1
  rw [hd] at hd2
  obtain ⟨hx,hl2⟩:=List.cons.inj hd2
  rw [Qp.eq_2,Xd (by omega),Int.toNat_natCast,Zm0,Option.bind_some,List.length_cons,Q2,Vy hk1,← hx,Vy (by omega)]
  by_cases h1:x ∈ n.2.1.take k
  ·rw [if_pos (decide_eq_true h1),Zef,if_pos rfl,if_pos (.inl h1)]
  ·rw [if_neg (by rw [decide_eq_false h1];decide),Xa (by omega),Option.bind_some,Z1m,Option.bind_some,Zef]
   by_cases h2:(n.2.2.1[k]'(by omega)).Nodup
   ·rw [decide_eq_true h2,if_neg (by decide),if_neg (by simp [h1,h2]),Xa (by omega),Option.bind_some]
    by_cases h3:n.2.2.1[k]'(by omega)=[]
    ·rw [if_pos (by rw [h3];decide),if_pos h3]
    ·rw [if_neg (by simpa using h3),if_neg h3]
     exact Zso n hl l (k+1) hl2.symm (by omega)
   ·rw [decide_eq_false h2,if_pos (by decide),if_pos (.inr h2)]
theorem Z1r (n:Wn) (hl:n.2.2.1.length=n.2.1.length):Zee n=some (Q2 n.2.1 n.2.2.1 n.2.1.length 0):=by
 rw [Zee];exact Zso n hl n.2.1 0 (by simp) (by omega)
theorem Zn9 {names:List ByteArray} {vals:List (List ByteArray)}:∀ (m v:Nat),Q2 names vals m v=0→∀ i,v≤i→i<v+m→vals.getD i []≠[]∧(vals.getD i []).Nodup∧names.getD i ⟨#[]⟩ ∉ names.take i
 | 0,v,_,i,h1,h2=>by omega
 | m+1,v,h,i,h1,h2=>by
  rw [Q2] at h
  by_cases h3:names.getD v ⟨#[]⟩ ∈ names.take v∨¬ (vals.getD v []).Nodup
  ·rw [if_pos h3] at h;cases h
  ·rw [if_neg h3] at h
   by_cases h4:vals.getD v []=[]
   ·rw [if_pos h4] at h;cases h
   ·rw [if_neg h4] at h
    rcases Nat.lt_or_ge v i with h5 | h5
    ·exact Zn9 m (v+1) h i (by omega) (by omega)
    ·have:i=v:=by omega
     subst this
     exact ⟨h4,by simpa using (not_or.1 h3).2,(not_or.1 h3).1⟩
def Ue (vals:List (List ByteArray)):List Int→Nat→Nat
 | [],k=>k
 | p :: ps,k=>Ue vals ps (min (k * (vals.getD p.toNat []).length) 1099511627776)
theorem Zut (vals:List (List ByteArray)):∀ (ps:List Int) (k:Nat),k≤1099511627776→Ue vals ps k≤1099511627776
 | [],k,h=>h
 | p :: ps,k,h=>Zut vals ps _ (by omega)
theorem Zsm {a b:Nat} (h:a≤1099511627776) (g:b≤1048576):a * b≤1152921504606846976:=by
 have:=Nat.mul_le_mul h g
 simpa using this
theorem Zsf (n:Wn) (hb:∀ l ∈ n.2.2.1,l.length≤1048576):∀ (ps:List Int) (k:Nat),k≤1099511627776→(∀ p ∈ ps,0≤p∧p<(n.2.2.1.length:Int))→Zbz n ps (k:Int)=some (Ue n.2.2.1 ps k:Int)
 | [],k,_,_=>rfl
 | p :: ps,k,hk,hp=>by
  have h1:=hp p List.mem_cons_self
  have h2:p.toNat<n.2.2.1.length:=by omega
  have h3:=hb _ (List.getElem_mem h2)
  have h4:=Zsm hk h3
  rw [Zbz.eq_2,show p=((p.toNat:Nat):Int) by omega,Xa h2,Option.bind_some,Ue,Int.toNat_natCast,Vy h2,← Int.natCast_mul,Z2 (by omega)]
  have ih:=Zsf n hb ps (min (k * n.2.2.1[p.toNat].length) 1099511627776) (by omega) (fun q hq=>hp q (List.mem_cons_of_mem _ hq))
  rw [← ih]
  congr 1
  by_cases h5:1099511627776<k * n.2.2.1[p.toNat].length
  ·rw [if_pos (by omega),Nat.min_eq_right (by omega)];rfl
  ·rw [if_neg (by omega),Nat.min_eq_left (by omega)]
def Q6 (vals:List (List ByteArray)) (P:List (List Int)) (T:List (List QV)):Nat→Nat→Int
 | 0,_=>0
 | m+1,v=>if 65536<Ue vals (P.getD v []) 1 * (vals.getD v []).length then 4 else if Ue vals (P.getD v []) 1 * (vals.getD v []).length≠(T.getD v []).length then 60 else Q6 vals P T m (v+1)
structure Zc4 (n:Wn) (W:Nat):Prop where
 nm:n.2.1.length≤1048575
 vl:∀ l ∈ n.2.2.1,l.length≤1048576
 pn:Zio n.2.2.2.1
 tl:∀ t ∈ n.2.2.2.2,t.length≤1048576
 tq:∀ t ∈ n.2.2.2.2,Yn t≤W
 lim:∀ t ∈ n.2.2.2.2,∀ x ∈ t,Uu x
structure Zc3 (n:Wn):Prop where
 v:n.2.2.1.length=n.2.1.length
 p:n.2.2.2.1.length=n.2.1.length
 t:n.2.2.2.2.length=n.2.1.length
 i:V4 n.2.2.2.1.length n.2.2.2.1=true
 ne:∀ l ∈ n.2.2.1,l≠[]
theorem Zc3.par {n:Wn} (h:Zc3 n) {ps:List Int} (hp:ps ∈ n.2.2.2.1):∀ p ∈ ps,0≤p∧p<(n.2.2.1.length:Int):=by
 have:=Zrg h.i ps hp
 rw [h.p] at this
 rw [h.v];exact this
theorem Zsg {N W:Nat} {n:Wn} (hs:Zc4 n W) (he:Zc3 n):∀ (l:List (List QV)) (k:Nat),n.2.2.2.2.drop k=l→k≤n.2.1.length→Qn N n l k=if Q6 n.2.2.1 n.2.2.2.1 n.2.2.2.2 l.length k=0 then Qo N n n.2.2.2.2 else some (Q6 n.2.2.1 n.2.2.2.1 n.2.2.2.2 l.length k)
 | [],k,_,_=>by rw [Qn.eq_1];rfl
 | t :: l,k,hd,hk=>by
  have ht:=he.t;have hv:=he.v;have hp:=he.p
  have hk1:k<n.2.2.2.2.length:=by
   rcases Nat.lt_or_ge k n.2.2.2.2.length with h | h
   ·exact h
   ·rw [List.drop_eq_nil_of_le h] at hd;cases hd
  have hd2:=List.drop_eq_getElem_cons hk1
  rw [hd] at hd2
  obtain ⟨hx,hl2⟩:=List.cons.inj hd2
  have kv:k<n.2.2.1.length:=by omega
  have kp:k<n.2.2.2.1.length:=by omega
  have r1:=Zut n.2.2.1 (n.2.2.2.1[k]) 1 (by omega)
  have c1:=hs.vl _ (List.getElem_mem kv)
  have r2:=Zsm r1 c1
  have hrow:Zej n (k:Int)=some (Ue n.2.2.1 n.2.2.2.1[k] 1:Int):=by
   rw [Zej,Xa kp,Option.bind_some]
   exact Zsf n hs.vl _ 1 (by omega) (he.par (List.getElem_mem kp))
  rw [Qn.eq_2]
  have hrow':Zej (n.1,n.2.1,n.2.2.1,n.2.2.2.1,n.2.2.2.2) (k:Int)=some (Ue n.2.2.1 n.2.2.2.1[k] 1:Int):=hrow
  rw [hrow',Option.bind_some,Xa kv,Option.bind_some,← Int.natCast_mul,Z2 (by omega),List.length_cons,Q6,Vy kp,Vy kv,Vy hk1,← hx]
  generalize Ue n.2.2.1 n.2.2.2.1[k] 1 * n.2.2.1[k].length=rc at *
  by_cases h1:65536<rc
  ·rw [if_pos (decide_eq_true (by omega)),if_pos h1,if_neg (by decide)]
  ·rw [if_neg (by rw [decide_eq_false (by omega)];decide),if_neg h1]
   by_cases h2:rc=t.length
   ·rw [if_neg (by rw [decide_eq_true (by omega)];decide),if_neg (show ¬ rc≠t.length from fun h=>h h2)]
    exact Zsg hs he l (k+1) hl2.symm (by omega)
   ·rw [if_pos (by rw [decide_eq_false (by omega)];decide),if_pos h2,if_neg (by decide)]
def Te (x:QV):Bool:=decide (Y4 x<0)||decide (1<Y4 x)
theorem Z2d {a b:Rat}:0<Q3 a b↔b<a:=by
 rw [Q3]
 by_cases h:a<b
 ·rw [if_pos h]
  constructor
  ·intro h2;omega
  ·intro h2;exact absurd (Rat.le_of_lt h2) (Rat.not_le.2 h)
 ·rw [if_neg h]
  by_cases h2:b<a
  ·simp [h2]
  ·simp [h2]
theorem Ztl {a b:Rat}:Q3 a b=0↔a=b:=by
 rw [Q3]
 constructor
 ·intro h
  split at h
  ·cases h
  ·split at h
   ·cases h
   ·rename_i h1 h2
    exact Rat.le_antisymm (Rat.not_lt.1 h2) (Rat.not_lt.1 h1)
 ·rintro rfl
  rw [if_neg Rat.lt_irrefl,if_neg Rat.lt_irrefl]
theorem Zsd {N:Nat} (hr:Ya N 8):Zeg N=some (Wl 1):=by
 rw [Zeg,Z0f (by omega) (by omega) (hr.mono (by omega)),Option.bind_some,if_neg (by decide)]
 have:((1:Int):Rat) / ((1:Int):Rat)=1:=div_one _
 rw [this]
theorem Zuz:RV 1 (Wl 1):=Zux (by rw [Z2h];omega)
theorem Z1l {N k:Nat} {x:QV} (hx:RV k x) (hr:Ya N (2 * k+16)):Zeh N x=some (Te x):=by
 have h2:Zdv N ((x.1.1,x.1.2),x.2)=some (Zfg (Y4 x)):=Z0l hx (hr.mono (by omega))
 rw [Zeh,h2,Option.bind_some,Te]
 by_cases h:Y4 x<0
 ·rw [if_pos (decide_eq_true (Ztq.2 h)),Zei,decide_eq_true h,Bool.true_or]
 ·rw [if_neg (by rw [decide_eq_false (fun h3=>h (Ztq.1 h3))];decide),decide_eq_false h,Bool.false_or,Zsd (hr.mono (by omega)),Option.bind_some,Zqv (a:=((x.1.1,x.1.2),x.2)) (b:=Wl 1) hx Zuz (hr.mono (by omega)),Option.bind_some,Zei,Zlh]
  congr 1
  exact decide_eq_decide.2 Z2d
def Vw (x:QV):QV:=if Zb x.2=0 then (x.1,[1]) else x
theorem Zq0 {x:QV} (h:Uu x):Uu (Vw x):=by
 rw [Vw];split
 ·exact ⟨h.1,.cons (by decide) .nil⟩
 ·exact h
theorem Zq1 (x:QV):Y4 (Vw x)=Y4 x:=by
 rw [Vw];split
 ·rename_i h
  rw [Y4,Y4]
  show mkRat (Zw x.1) (We [1])=mkRat (Zw x.1) (We x.2)
  rw [We,We,if_pos h]
  congr 1
 ·rfl
theorem Z0a (x:QV):Te (Vw x)=Te x:=by rw [Te,Te,Zq1]
theorem Zz9 (x:QV):max (Vw x).1.2.length (Vw x).2.length≤max x.1.2.length x.2.length+1:=by
 rw [Vw];split
 ·show max x.1.2.length [(1:Int)].length≤_
  simp only [List.length_singleton];omega
 ·omega
theorem Zoh:∀ l:List QV,2 * l.length≤Yn l
 | []=>by simp [Yn]
 | a :: l=>by rw [Yn,List.length_cons];have:=Zoh l;omega
theorem Zog:∀ l:List QV,Yn (l.map Vw)≤Yn l+l.length
 | []=>by simp [Yn]
 | a :: l=>by
  rw [List.map_cons,Yn,Yn,List.length_cons]
  have:=Zog l;have:=Zz9 a;omega
theorem Ztm (a b:List QV):Yn (a++b)=Yn a+Yn b:=by
 induction a with
 | nil=>simp [Yn]
 | cons x a ih=>rw [List.cons_append,Yn,Yn,ih];omega
theorem Z2f (l:List QV) (k:Nat):Yn (l.take k)≤Yn l:=by
 have:=Ztm (l.take k) (l.drop k)
 rw [List.take_append_drop] at this;omega
theorem Z2e (l:List QV) (k:Nat):Yn (l.drop k)≤Yn l:=by
 have:=Ztm (l.take k) (l.drop k)
 rw [List.take_append_drop] at this;omega
theorem Z0c {N k:Nat} {x:QV} (h:Uu x) (hk:max x.1.2.length x.2.length≤k) (hr:Ya N k):Zeb N x=some (Vw x):=by
 obtain ⟨r1,r2⟩:=hr
 rw [Zeb,Zoa h.2 (by omega) (by omega),Option.bind_some,Vw]
 by_cases h0:Zb x.2=0
 ·rw [h0,Wz,if_pos (by decide),if_pos rfl,Zh7 (by decide) (by omega),Option.bind_some,Zec,show (1:Int).toNat=1 from rfl,Zam]
 ·have:=Sm h0
  rw [if_neg (by rw [decide_eq_false (by omega)];decide),if_neg h0,Zec]
theorem Zq6 {N W:Nat} (hr:Ya N W):∀ (l out:List QV),(∀ x ∈ l,Uu x)→Yn l≤W→out.length+l.length≤1048576→Zaw N l out=some (out++l.map Vw)
 | [],out,_,_,_=>by rw [Zaw.eq_1];simp
 | x :: l,out,hl,hq,hlen=>by
  rw [Yn] at hq
  rw [List.length_cons] at hlen
  have h1:Zeb N ((x.1.1,x.1.2),x.2)=some (Vw x):=Z0c (x:=x) (hl x List.mem_cons_self) (k:=W) (by omega) hr
  rw [Zaw.eq_2,h1,Option.bind_some,Xd (by simp only [List.length_singleton,maxLen];omega),Zq6 hr l _ (fun y hy=>hl y (List.mem_cons_of_mem _ hy)) (by omega) (by simp only [List.length_append,List.length_singleton];omega)]
  simp
theorem Zq7 {N W:Nat} {l:List QV} (hr:Ya N W) (hl:∀ x ∈ l,Uu x) (hq:Yn l≤W) (hlen:l.length≤1048576):Zed N l=some (l.map Vw):=by
 rw [Zed,Xd (by simp only [maxLen];omega),Zq6 hr l [] hl hq (by simpa using hlen),List.nil_append]
theorem Zre {N W:Nat} (hr:Ya N (2 * W+16)):∀ (l:List QV) (k:Nat),(∀ x ∈ l,Uu x)→Yn l≤W→∃ j:Int,Zcp N l k=some j∧(0≤j↔l.any Te=true)
 | [],k,_,_=>⟨-1,rfl,by simp⟩
 | x :: l,k,hl,hq=>by
  rw [Yn] at hq
  have hx:=hl x List.mem_cons_self
  have h1:Zeh N ((x.1.1,x.1.2),x.2)=some (Te x):=Z1l (x:=x) (Zo3 hx.1 hx.2) (hr.mono (by omega))
  rw [Zcp.eq_2,h1,Option.bind_some,List.any_cons]
  cases Te x with
  | true=>rw [if_pos rfl];exact ⟨_,rfl,by simp⟩
  | false=>
   rw [if_neg (by decide)]
   obtain ⟨j,h1,h2⟩:=Zre hr l (k+1) (fun y hy=>hl y (List.mem_cons_of_mem _ hy)) (by omega)
   exact ⟨j,h1,by rw [h2];simp⟩
def Zja (T:List (List QV)):Bool:=T.any fun t=>t.any Te
theorem Zvv (l:List QV):(l.map Vw).any Te=l.any Te:=by
 induction l with
 | nil=>rfl
 | cons x l ih=>rw [List.map_cons,List.any_cons,List.any_cons,ih,Z0a]
theorem Zr6 {N W:Nat} {n:Wn} (hr:Ya N (4 * W+16)):∀ l:List (List QV),(∀ t ∈ l,t.length≤1048576∧Yn t≤W∧∀ x ∈ t,Uu x)→Qo N n l=if Zja l=true then some 45 else Zav N n n.2.2.2.2 0
 | [],_=>by rw [Qo.eq_1];rfl
 | t :: l,h=>by
  obtain ⟨h1,h2,h3⟩:=h t List.mem_cons_self
  have hp:=Zoh t
  have hf:=Zog t
  obtain ⟨j,j1,j2⟩:=Zre (N:=N) (W:=2 * W) (hr.mono (by omega)) (t.map Vw) 0 (fun x hx=>by
   obtain ⟨y,hy,rfl⟩:=List.mem_map.1 hx
   exact Zq0 (h3 y hy)) (by omega)
  rw [Qo.eq_2,Zq7 (W:=W) (hr.mono (by omega)) h3 h2 h1,Option.bind_some,Zku,Zkv,j1,Option.bind_some,Option.bind_some,Zja,List.any_cons]
  rw [Zvv] at j2
  by_cases ho:t.any Te=true
  ·rw [if_pos (decide_eq_true (j2.2 ho)),ho,Bool.true_or,if_pos rfl]
  ·rw [if_neg (by rw [decide_eq_false (fun h=>ho (j2.1 h))];decide),Bool.eq_false_iff.2 ho,Bool.false_or]
   exact Zr6 hr l fun x hx=>h x (List.mem_cons_of_mem _ hx)
def S7 (c:Nat):Nat→List QV→Bool
 | 0,_=>true
 | m+1,l=>decide (Uo (l.take c)=1)&&S7 c m (l.drop c)
def Zf5 (c:Nat):Nat→List QV→List (List QV)
 | 0,_=>[]
 | m+1,l=>l.take c :: Zf5 c m (l.drop c)
theorem Zqe (N:Nat) (l:List QV) (c:Nat) (hc:0<c) (hl:l.length≤1048576) (hcs:c≤1048576):∀ (m fuel i:Nat),i+m * c=l.length→m<fuel→Za6 N l (c:Int) fuel (i:Int)=some (Zf5 c m (l.drop i))
 | 0,0,i,_,h=>by omega
 | 0,fuel+1,i,h1,_=>by
  rw [Za6.eq_2,if_neg (by rw [decide_eq_false (by omega)];decide)];rfl
 | m+1,0,i,_,h=>by omega
 | m+1,fuel+1,i,h1,h2=>by
  have h3:i+c+m * c=l.length:=by rw [Nat.add_mul,Nat.one_mul] at h1;omega
  have e:(if ((l.drop i).length:Int)<(c:Int) then ((l.drop i).length:Int) else (c:Int))=(c:Int):=by
   rw [List.length_drop]
   by_cases h:((l.length - i:Nat):Int)<(c:Int)
   ·omega
   ·rw [if_neg h]
  rw [Za6.eq_2,if_pos (decide_eq_true (by omega)),Int.toNat_natCast,e,Z2 (by omega),Xd (by omega),Xd (by omega),show (i:Int)+(c:Int)=((i+c:Nat):Int) by omega,Zqe N l c hc hl hcs m fuel (i+c) (by omega) (by omega),Option.bind_some,Int.toNat_natCast,Zf5,List.drop_take,show i+c - i=c by omega,List.drop_drop]
theorem Z2l (l:List QV):Uo (l.map Vw)=Uo l:=by
 rw [Uo,Uo,List.map_map]
 congr 1
 exact List.map_congr_left fun x _=>Zq1 x
theorem Zsx (c:Nat):∀ (m:Nat) (l:List QV),S7 c m (l.map Vw)=S7 c m l
 | 0,l=>rfl
 | m+1,l=>by rw [S7,S7,← List.map_take,← List.map_drop,Z2l,Zsx c m]
theorem Zsn {N W:Nat} (hr:Ya N (4 * W+40)) (c:Nat) (b:Bool):∀ (m:Nat) (l:List QV),(∀ x ∈ l,Uu x)→Yn l≤W→Zb0 N (Zf5 c m l) b=some (S7 c m l)
 | 0,l,_,_=>rfl
 | m+1,l,hl,hq=>by
  have ht:=Z2f l c
  have hd:=Z2e l c
  obtain ⟨s1,s2⟩:=Z0m (N:=N) (l:=l.take c) (fun x hx=>hl x (List.mem_of_mem_take hx)) (hr.mono (by omega))
  rw [Zf5,Zb0.eq_2,s1,Option.bind_some,Zsd (hr.mono (by omega)),Option.bind_some,Zqv (a:=Wl _) (b:=Wl 1) (Zux s2) Zuz (hr.mono (by omega)),Option.bind_some,Zlh,Zlh,S7]
  by_cases h:Uo (l.take c)=1
  ·rw [if_neg (by rw [Ztl.2 h];decide),decide_eq_true h,Bool.true_and]
   exact Zsn hr c b m _ (fun x hx=>hl x (List.mem_of_mem_drop hx)) (by omega)
  ·rw [if_pos (by rw [decide_eq_false (fun h2=>h (Ztl.1 h2))];decide),decide_eq_false h,Bool.false_and];rfl
theorem Z1o {N W c m:Nat} {l:List QV} (hr:Ya N (4 * W+40)) (hl:∀ x ∈ l,Uu x) (hq:Yn l≤W) (hc:0<c) (hcs:c≤1048576) (hll:l.length≤1048576) (hm:m * c=l.length) (hN:1048577<N):Zgz N l (c:Int)=some (S7 c m l):=by
 have hmc:m≤l.length:=by rw [← hm];exact Nat.le_mul_of_pos_right m hc
 rw [Zgz,Zkr,if_neg (by rw [decide_eq_false (by omega)];decide),Zkt,Zks,show (0:Int)=((0:Nat):Int) from rfl,Zqe N l c hc hll hcs m N 0 (by omega) (by omega),Option.bind_some,List.drop_zero]
 exact Zsn hr c false m l hl hq
def Zlu (vals:List (List ByteArray)) (P:List (List Int)) (T:List (List QV)):Nat→Nat→Int
 | 0,_=>0
 | m+1,v=>if S7 (vals.getD v []).length (Ue vals (P.getD v []) 1) (T.getD v [])=true then Zlu vals P T m (v+1) else 46
theorem Zu0 {vals:List (List ByteArray)} {P:List (List Int)} {T:List (List QV)}:∀ (m v:Nat),Q6 vals P T m v=0→∀ i,v≤i→i<v+m→Ue vals (P.getD i []) 1 * (vals.getD i []).length=(T.getD i []).length∧(T.getD i []).length≤65536
 | 0,v,_,i,h1,h2=>by omega
 | m+1,v,h,i,h1,h2=>by
  rw [Q6] at h
  by_cases h3:65536<Ue vals (P.getD v []) 1 * (vals.getD v []).length
  ·rw [if_pos h3] at h;cases h
  ·rw [if_neg h3] at h
   by_cases h4:Ue vals (P.getD v []) 1 * (vals.getD v []).length=(T.getD v []).length
   ·rw [if_neg (show ¬ Ue vals (P.getD v []) 1 * (vals.getD v []).length≠(T.getD v []).length from fun h=>h h4)] at h
    rcases Nat.lt_or_ge v i with h5 | h5
    ·exact Zu0 m (v+1) h i (by omega) (by omega)
    ·have:i=v:=by omega
     subst this
     exact ⟨h4,by omega⟩
   ·rw [if_pos h4] at h;cases h
theorem Zsh {N W:Nat} {n:Wn} (hs:Zc4 n W) (he:Zc3 n) (hsh:Q6 n.2.2.1 n.2.2.2.1 n.2.2.2.2 n.2.1.length 0=0) (hr:Ya N (8 * W+40)) (hN:1048577<N):∀ (l:List (List QV)) (k:Nat),n.2.2.2.2.drop k=l→k≤n.2.1.length→Zav N n l k=some (Zlu n.2.2.1 n.2.2.2.1 n.2.2.2.2 l.length k)
 | [],k,_,_=>rfl
 | t :: l,k,hd,hk=>by
  have ht:=he.t;have hv:=he.v;have hp:=he.p
  have hk1:k<n.2.2.2.2.length:=by
   rcases Nat.lt_or_ge k n.2.2.2.2.length with h | h
   ·exact h
   ·rw [List.drop_eq_nil_of_le h] at hd;cases hd
  have hd2:=List.drop_eq_getElem_cons hk1
  rw [hd] at hd2
  obtain ⟨hx,hl2⟩:=List.cons.inj hd2
  have kv:k<n.2.2.1.length:=by omega
  have kp:k<n.2.2.2.1.length:=by omega
  have hm:t ∈ n.2.2.2.2:=by rw [hx];exact List.getElem_mem hk1
  have c1:=hs.vl _ (List.getElem_mem kv)
  have c0:0<n.2.2.1[k].length:=List.length_pos_iff.2 (he.ne _ (List.getElem_mem kv))
  obtain ⟨s1,s2⟩:=Zu0 _ 0 hsh k (by omega) (by omega)
  rw [Vy kv,Vy hk1,← hx] at s1
  rw [Vy hk1,← hx] at s2
  have hq:=hs.tq t hm
  have hp2:=Zoh t
  have hf:=Zog t
  rw [Zav.eq_2,Xa kv,Option.bind_some,Zq7 (W:=W) (hr.mono (by omega)) (hs.lim t hm) hq (hs.tl t hm),Option.bind_some,
   Z1o (W:=2 * W) (m:=Ue n.2.2.1 (n.2.2.2.1.getD k []) 1) (hr.mono (by omega)) (fun x hx=>by
    obtain ⟨y,hy,rfl⟩:=List.mem_map.1 hx
    exact Zq0 (hs.lim t hm y hy)) (by omega) c0 c1 (by rw [List.length_map];omega) (by rw [List.length_map];exact s1) hN,Option.bind_some,Zsx,List.length_cons,Zlu,Vy kv,Vy hk1,← hx]
  cases S7 n.2.2.1[k].length (Ue n.2.2.1 (n.2.2.2.1.getD k []) 1) t with
  | true=>
   rw [if_neg (by decide),if_pos rfl]
   exact Zsh hs he hsh hr hN l (k+1) hl2.symm (by omega)
  | false=>rw [if_pos (by decide),if_neg (by decide)]
structure Zfq (N:Nat) (n:Wn):Prop where
 ev:Zc3 n
 le:n.2.1.length≤1024
 nm:Q2 n.2.1 n.2.2.1 n.2.1.length 0=0
 sh:Q6 n.2.2.1 n.2.2.2.1 n.2.2.2.2 n.2.1.length 0=0
 en:Zja n.2.2.2.2=false
 su:Zlu n.2.2.1 n.2.2.2.1 n.2.2.2.2 n.2.1.length 0=0
 tw:Us n.2.2.2.1=false
 or:∃ l,Qf N n.2.2.2.1=some (l,0)∧Q0 N n.2.2.2.1=some l∧Zfb N n.2.2.2.1=some 0∧U5 n.2.2.2.1 l∧l.length=n.2.2.2.1.length
theorem Zzz:Wa prog 9 1 16:=⟨Tryz.t9,_,rfl,rfl,rfl,rfl,rfl⟩
theorem Zqt:Wa prog 56 2 32:=⟨Tryz.t56,_,rfl,rfl,rfl,rfl,rfl⟩
def Zd4 (a:(Int×(List (ByteArray×ByteArray))×(List (ByteArray×ByteArray))×Int×List ByteArray×(Bool×Bool))):Option (Int×(Nat×(List (ByteArray×ByteArray)))×(Nat×(List (ByteArray×ByteArray)))×Int×(Nat×List ByteArray)×(Bool×Bool)):=
  Zr ((([]:List (ByteArray×ByteArray)).length+a.2.1.length) * 32≤140737488355328∧([]:List (ByteArray×ByteArray)).length+a.2.1.length≤maxLen) (Zr (((([]:List (ByteArray×ByteArray))++a.2.1).length+([(⟨#[35,49]⟩,⟨#[]⟩),(⟨#[35,50]⟩,⟨#[]⟩)]:List (ByteArray×ByteArray)).length) * 32≤140737488355328∧(([]:List (ByteArray×ByteArray))++a.2.1).length+([(⟨#[35,49]⟩,⟨#[]⟩),(⟨#[35,50]⟩,⟨#[]⟩)]:List (ByteArray×ByteArray)).length≤maxLen) (Zr ((0:Int)≤(a.2.1.length:Int)∧(a.2.1.length:Int)≤(((([]:List (ByteArray×ByteArray))++a.2.1)++([(⟨#[35,49]⟩,⟨#[]⟩),(⟨#[35,50]⟩,⟨#[]⟩)]:List (ByteArray×ByteArray))).length:Int)) (Zr ((([]:List (ByteArray×ByteArray)).length+a.2.2.1.length) * 32≤140737488355328∧([]:List (ByteArray×ByteArray)).length+a.2.2.1.length≤maxLen) (Zr (((([]:List (ByteArray×ByteArray))++a.2.2.1).length+([(⟨#[35,51]⟩,⟨#[]⟩),(⟨#[35,52]⟩,⟨#[]⟩)]:List (ByteArray×ByteArray)).length) * 32≤140737488355328∧(([]:List (ByteArray×ByteArray))++a.2.2.1).length+([(⟨#[35,51]⟩,⟨#[]⟩),(⟨#[35,52]⟩,⟨#[]⟩)]:List (ByteArray×ByteArray)).length≤maxLen) (Zr ((0:Int)≤(a.2.2.1.length:Int)∧(a.2.2.1.length:Int)≤(((([]:List (ByteArray×ByteArray))++a.2.2.1)++([(⟨#[35,51]⟩,⟨#[]⟩),(⟨#[35,52]⟩,⟨#[]⟩)]:List (ByteArray×ByteArray))).length:Int)) (Zr ((([]:List ByteArray).length+a.2.2.2.2.1.length) * 16≤140737488355328∧([]:List ByteArray).length+a.2.2.2.2.1.length≤maxLen) (Zr (((([]:List ByteArray)++a.2.2.2.2.1).length+([⟨#[35,53]⟩,⟨#[35,54]⟩]:List ByteArray).length) * 16≤140737488355328∧(([]:List ByteArray)++a.2.2.2.2.1).length+([⟨#[35,53]⟩,⟨#[35,54]⟩]:List ByteArray).length≤maxLen) (Zr ((0:Int)≤(a.2.2.2.2.1.length:Int)∧(a.2.2.2.2.1.length:Int)≤(((([]:List ByteArray)++a.2.2.2.2.1)++([⟨#[35,53]⟩,⟨#[35,54]⟩]:List ByteArray)).length:Int)) (some (a.1,((Int.toNat (a.2.1.length:Int)),(([]:List (ByteArray×ByteArray))++a.2.1)++([(⟨#[35,49]⟩,⟨#[]⟩),(⟨#[35,50]⟩,⟨#[]⟩)]:List (ByteArray×ByteArray))),((Int.toNat (a.2.2.1.length:Int)),(([]:List (ByteArray×ByteArray))++a.2.2.1)++([(⟨#[35,51]⟩,⟨#[]⟩),(⟨#[35,52]⟩,⟨#[]⟩)]:List (ByteArray×ByteArray))),a.2.2.2.1,((Int.toNat (a.2.2.2.2.1.length:Int)),(([]:List ByteArray)++a.2.2.2.2.1)++([⟨#[35,53]⟩,⟨#[35,54]⟩]:List ByteArray)),(a.2.2.2.2.2.1,a.2.2.2.2.2.2)))))))))))
theorem Zxe {a5 af R:Nat} {a6 ag S:Option Addr} {col:Zd} {w0:World} {a:(Int×(List (ByteArray×ByteArray))×(List (ByteArray×ByteArray))×Int×List ByteArray×(Bool×Bool))} {r:(Int×(Nat×(List (ByteArray×ByteArray)))×(Nat×(List (ByteArray×ByteArray)))×Int×(Nat×List ByteArray)×(Bool×Bool))} (c1 c2 c3:Nat) (hm:Zd4 a=some r) (ah:Sl (Za.pair Za.str Za.str) col w0 a6 a5 a.2.1) (ai:Sl (Za.pair Za.str Za.str) col w0 ag af a.2.2.1) (aj:Sl Za.str col w0 S R a.2.2.2.2.1):
    Calls prog 16 #[(.agg #[.int .i8 a.1,.slice a6 a.2.1.length a5,.slice ag a.2.2.1.length af,.int .i8 a.2.2.2.1,.slice S a.2.2.2.2.1.length R,.bool a.2.2.2.2.2.1,.bool a.2.2.2.2.2.2])] w0 (fun e w'=>∃ (col':Zd) (ra1:Option Addr) (rc2:Nat) (ra4:Option Addr) (rc5:Nat) (ra7:Option Addr) (rc8:Nat),e= .returned ((.agg #[.int .i8 r.1,.slice ra1 ((r.2.1.2.take r.2.1.1).length) rc2,.slice ra4 ((r.2.2.1.2.take r.2.2.1.1).length) rc5,.int .i8 r.2.2.2.1,.slice ra7 ((r.2.2.2.2.1.2.take r.2.2.2.2.1.1).length) rc8,.bool r.2.2.2.2.2.1,.bool r.2.2.2.2.2.2]))∧Zg col w0 col' w'∧Zc (Za.pair Za.str Za.str) 56 c1 col' w' ra1 rc2 r.2.1.2∧Zc (Za.pair Za.str Za.str) 56 c2 col' w' ra4 rc5 r.2.2.1.2∧Zc Za.str 9 c3 col' w' ra7 rc8 r.2.2.2.2.1.2):=by
 refine Wx (m:=67) func16 rfl rfl rfl ?_;rw [Zd4.eq_1] at hm;have f:=St.start col w0;refine go ?_;refine Yj (col:=(Zi col)) 1 rfl ?_;intro cz c0 bo bp b;refine Xz (col:=bo) #[.int .i8 0,.slice none (([]:List (ByteArray×ByteArray)).length) 0,.slice none (([]:List (ByteArray×ByteArray)).length) 0,.int .i8 0,.slice none (([]:List ByteArray).length) 0,.bool false,.bool false] 2 zeroValue50 ?_;intro c4 c5 bq a7 ak;refine go ?_;replace b:=b.gr a7;refine lV _ (Xx isAgg50 sizeOf50 b)<|Xz (col:=bq) #[.int .i8 0,.slice none (([]:List (ByteArray×ByteArray)).length) 0,.slice none (([]:List (ByteArray×ByteArray)).length) 0,.int .i8 0,.slice none (([]:List ByteArray).length) 0,.bool false,.bool false] 3 zeroValue50 ?_;intro j c6 al am br;refine Xf br ?_;intro c7 an bs bt;refine go ?_;refine Zv ⟨_,_,rfl⟩ ?_;refine Xj (off:=1) (v:=(.slice none (([]:List (ByteArray×ByteArray)).length) 0)) bt sizeOf47 rfl rfl (by intro u hu;simp only [Value.cells,List.mem_cons,List.not_mem_nil,or_false] at hu;subst hu;rfl) rfl rfl ?_;intro bu ao bv ap;replace ap:Ze 50 3 al bu j #[.int .i8 a.1,.slice none (([]:List (ByteArray×ByteArray)).length) 0,.slice ag a.2.2.1.length af,.int .i8 a.2.2.2.1,.slice S a.2.2.2.2.1.length R,.bool a.2.2.2.2.2.1,.bool a.2.2.2.2.2.2]:=ap;refine go ?_;refine Zv ⟨_,_,rfl⟩ ?_;refine Xj (off:=2) (v:=(.slice none (([]:List (ByteArray×ByteArray)).length) 0)) ap sizeOf47 rfl rfl (by intro u hu;simp only [Value.cells,List.mem_cons,List.not_mem_nil,or_false] at hu;subst hu;rfl) rfl rfl ?_;intro bw aq bx ar;replace ar:Ze 50 3 al bw j #[.int .i8 a.1,.slice none (([]:List (ByteArray×ByteArray)).length) 0,.slice none (([]:List (ByteArray×ByteArray)).length) 0,.int .i8 a.2.2.2.1,.slice S a.2.2.2.2.1.length R,.bool a.2.2.2.2.2.1,.bool a.2.2.2.2.2.2]:=ar;refine go ?_;refine Zv ⟨_,_,rfl⟩ ?_;refine Xj (off:=4) (v:=(.slice none (([]:List ByteArray).length) 0)) ar sizeOf40 rfl rfl (by intro u hu;simp only [Value.cells,List.mem_cons,List.not_mem_nil,or_false] at hu;subst hu;rfl) rfl rfl ?_;intro bz au b0 y;replace y:Ze 50 3 al bz j #[.int .i8 a.1,.slice none (([]:List (ByteArray×ByteArray)).length) 0,.slice none (([]:List (ByteArray×ByteArray)).length) 0,.int .i8 a.2.2.2.1,.slice none (([]:List ByteArray).length) 0,.bool a.2.2.2.2.2.1,.bool a.2.2.2.2.2.2]:=y;refine go ?_;refine Zz y<|Zv ⟨_,_,rfl⟩ ?_;replace b:=((((b.gr am).kp an).kp ao).kp aq).kp au;refine lW ((b.atN).nth (q:=1) rfl) ?_
 obtain ⟨b1,hm⟩:=Zt hm;replace ah:=ah.keep (Zl.start col w0);replace f:=((((((f.grow bp).grow a7).grow am).kp an bs).kp ao bv).kp aq bx).kp au b0;refine Wy (c:=4) Zc.nil (ah.ks f).srcC b1 ?_;intro a8 a9 c8 ba T av;refine Zv ⟨_,_,rfl⟩ ?_;replace y:=y.kpp T;refine Xj (off:=1) (v:=(.slice a8 ((([]:List (ByteArray×ByteArray))++a.2.1).length) a9)) y sizeOf47 rfl rfl (by intro u hu;simp only [Value.cells,List.mem_cons,List.not_mem_nil,or_false] at hu;subst hu;rfl) rfl rfl ?_;intro b2 U b3 A;replace A:Ze 50 3 ba b2 j #[.int .i8 a.1,(.slice a8 ((([]:List (ByteArray×ByteArray))++a.2.1).length) a9),.slice none (([]:List (ByteArray×ByteArray)).length) 0,.int .i8 a.2.2.2.1,.slice none (([]:List ByteArray).length) 0,.bool a.2.2.2.2.2.1,.bool a.2.2.2.2.2.2]:=A;refine go ?_;refine Zz A<|lV (.agg #[.string (⟨#[35,49]⟩),.string (⟨#[]⟩)]) (Y6 (l:=[_,_]) (qs:=[(0,1),(1,1)]) underlying56 zeroValue56 ⟨rfl,sizeOf9,rfl,sizeOf9,trivial⟩ rfl)<|lV (.agg #[.string (⟨#[35,50]⟩),.string (⟨#[]⟩)]) (Y6 (l:=[_,_]) (qs:=[(0,1),(1,1)]) underlying56 zeroValue56 ⟨rfl,sizeOf9,rfl,sizeOf9,trivial⟩ rfl)<|Ux (col:=ba) (r:=(Za.pair Za.str Za.str)) (xs:=([(⟨#[35,49]⟩,⟨#[]⟩),(⟨#[35,50]⟩,⟨#[]⟩)]:List (ByteArray×ByteArray))) [(.agg #[.string (⟨#[35,49]⟩),.string (⟨#[]⟩)]),(.agg #[.string (⟨#[35,50]⟩),.string (⟨#[]⟩)])] 5 (Yr.ofF (Rows.consF (r:=(Za.pair Za.str Za.str)) (x:=(⟨#[35,49]⟩,⟨#[]⟩)) (cs:=[.string (⟨#[35,49]⟩),.string (⟨#[]⟩)]) (W5 (Vj (⟨#[35,49]⟩)) (Vj (⟨#[]⟩))) (Rows.consF (r:=(Za.pair Za.str Za.str)) (x:=(⟨#[35,50]⟩,⟨#[]⟩)) (cs:=[.string (⟨#[35,50]⟩),.string (⟨#[]⟩)]) (W5 (Vj (⟨#[35,50]⟩)) (Vj (⟨#[]⟩))) Rows.nil0))) ?_;intro c9 b4 b5 K b6;obtain ⟨bb,hm⟩:=Zt hm;replace av:=(av.kp U).gr K;refine Qd (col:=b5) (w:=b4) (r:=(Za.pair Za.str Za.str)) (c:=4) (c2:=4) (av.ex) (b6.srcN (NB.pair NB.str NB.str)) rfl underlying47 Zqt rfl rfl rfl bb.1 bb.2 (by decide) ?_;intro g i da bc V aw;refine Zv ⟨_,_,rfl⟩ ?_;replace A:=(A.gr K).kpp V;refine Xj (off:=1) (v:=(.slice g (((([]:List (ByteArray×ByteArray))++a.2.1)++([(⟨#[35,49]⟩,⟨#[]⟩),(⟨#[35,50]⟩,⟨#[]⟩)]:List (ByteArray×ByteArray))).length) i)) A sizeOf47 rfl rfl (by intro u hu;simp only [Value.cells,List.mem_cons,List.not_mem_nil,or_false] at hu;subst hu;rfl) rfl rfl ?_;intro b7 W b8 X
 replace X:Ze 50 3 bc b7 j #[.int .i8 a.1,(.slice g (((([]:List (ByteArray×ByteArray))++a.2.1)++([(⟨#[35,49]⟩,⟨#[]⟩),(⟨#[35,50]⟩,⟨#[]⟩)]:List (ByteArray×ByteArray))).length) i),.slice none (([]:List (ByteArray×ByteArray)).length) 0,.int .i8 a.2.2.2.1,.slice none (([]:List ByteArray).length) 0,.bool a.2.2.2.2.2.1,.bool a.2.2.2.2.2.2]:=X;replace aw:=aw.kp W;have Y:=aw.new;refine go ?_;refine Zz X<|Zv ⟨_,_,rfl⟩ ?_;replace b:=((((b.kpp T).kp U).gr K).kpp V).kp W;refine lW ((b.atN).nth (q:=1) rfl)<|go ?_;obtain ⟨ax,hm⟩:=Zt hm;refine lv (v:=.slice g (Int.toNat (a.2.1.length:Int)) i) rfl rfl (Zbc underlying47 sizeOf56 rfl rfl ax.1 (by have:=Y.lecap;have:=ax.2;omega))<|.ld (d:=26) (v:=(.slice g ((((([]:List (ByteArray×ByteArray))++a.2.1)++([(⟨#[35,49]⟩,⟨#[]⟩),(⟨#[35,50]⟩,⟨#[]⟩)]:List (ByteArray×ByteArray))).take (Int.toNat (a.2.1.length:Int))).length) i)) (congrArg (fun n=>Value.slice g n i) (List.length_take_of_le (show (Int.toNat (a.2.1.length:Int))≤((([]:List (ByteArray×ByteArray))++a.2.1)++([(⟨#[35,49]⟩,⟨#[]⟩),(⟨#[35,50]⟩,⟨#[]⟩)]:List (ByteArray×ByteArray))).length by have:=ax.2;omega)).symm) ?_;refine Zv ⟨_,_,rfl⟩ ?_;refine Xj (off:=1) (v:=(.slice g ((((([]:List (ByteArray×ByteArray))++a.2.1)++([(⟨#[35,49]⟩,⟨#[]⟩),(⟨#[35,50]⟩,⟨#[]⟩)]:List (ByteArray×ByteArray))).take (Int.toNat (a.2.1.length:Int))).length) i)) X sizeOf47 rfl rfl (by intro u hu;simp only [Value.cells,List.mem_cons,List.not_mem_nil,or_false] at hu;subst hu;rfl) rfl rfl ?_;intro b9 Z ca B;replace B:Ze 50 3 bc b9 j #[.int .i8 a.1,(.slice g ((((([]:List (ByteArray×ByteArray))++a.2.1)++([(⟨#[35,49]⟩,⟨#[]⟩),(⟨#[35,50]⟩,⟨#[]⟩)]:List (ByteArray×ByteArray))).take (Int.toNat (a.2.1.length:Int))).length) i),.slice none (([]:List (ByteArray×ByteArray)).length) 0,.int .i8 a.2.2.2.1,.slice none (([]:List ByteArray).length) 0,.bool a.2.2.2.2.2.1,.bool a.2.2.2.2.2.2]:=B;refine go ?_;refine Zz B<|Zv ⟨_,_,rfl⟩ ?_;replace b:=b.kp Z;refine lW ((b.atN).nth (q:=2) rfl) ?_;obtain ⟨cb,hm⟩:=Zt hm;replace ai:=ai.keep (Zl.start col w0);replace f:=(((((f.kpp T).kp U b3).grow K).kpp V).kp W b8).kp Z ca;refine Wy (c:=6) Zc.nil (ai.ks f).srcC cb ?_;intro bd be db bf L ay;refine Zv ⟨_,_,rfl⟩ ?_;replace B:=B.kpp L
 refine Xj (off:=2) (v:=(.slice bd ((([]:List (ByteArray×ByteArray))++a.2.2.1).length) be)) B sizeOf47 rfl rfl (by intro u hu;simp only [Value.cells,List.mem_cons,List.not_mem_nil,or_false] at hu;subst hu;rfl) rfl rfl ?_;intro cc M cd C;replace C:Ze 50 3 bf cc j #[.int .i8 a.1,(.slice g ((((([]:List (ByteArray×ByteArray))++a.2.1)++([(⟨#[35,49]⟩,⟨#[]⟩),(⟨#[35,50]⟩,⟨#[]⟩)]:List (ByteArray×ByteArray))).take (Int.toNat (a.2.1.length:Int))).length) i),(.slice bd ((([]:List (ByteArray×ByteArray))++a.2.2.1).length) be),.int .i8 a.2.2.2.1,.slice none (([]:List ByteArray).length) 0,.bool a.2.2.2.2.2.1,.bool a.2.2.2.2.2.2]:=C;refine go ?_;refine Zz C<|lV (.agg #[.string (⟨#[35,51]⟩),.string (⟨#[]⟩)]) (Y6 (l:=[_,_]) (qs:=[(0,1),(1,1)]) underlying56 zeroValue56 ⟨rfl,sizeOf9,rfl,sizeOf9,trivial⟩ rfl)<|lV (.agg #[.string (⟨#[35,52]⟩),.string (⟨#[]⟩)]) (Y6 (l:=[_,_]) (qs:=[(0,1),(1,1)]) underlying56 zeroValue56 ⟨rfl,sizeOf9,rfl,sizeOf9,trivial⟩ rfl)<|Ux (col:=bf) (r:=(Za.pair Za.str Za.str)) (xs:=([(⟨#[35,51]⟩,⟨#[]⟩),(⟨#[35,52]⟩,⟨#[]⟩)]:List (ByteArray×ByteArray))) [(.agg #[.string (⟨#[35,51]⟩),.string (⟨#[]⟩)]),(.agg #[.string (⟨#[35,52]⟩),.string (⟨#[]⟩)])] 7 (Yr.ofF (Rows.consF (r:=(Za.pair Za.str Za.str)) (x:=(⟨#[35,51]⟩,⟨#[]⟩)) (cs:=[.string (⟨#[35,51]⟩),.string (⟨#[]⟩)]) (W5 (Vj (⟨#[35,51]⟩)) (Vj (⟨#[]⟩))) (Rows.consF (r:=(Za.pair Za.str Za.str)) (x:=(⟨#[35,52]⟩,⟨#[]⟩)) (cs:=[.string (⟨#[35,52]⟩),.string (⟨#[]⟩)]) (W5 (Vj (⟨#[35,52]⟩)) (Vj (⟨#[]⟩))) Rows.nil0))) ?_;intro dc ce cf D cg;obtain ⟨bg,hm⟩:=Zt hm;replace ay:=(ay.kp M).gr D;refine Qd (col:=cf) (w:=ce) (r:=(Za.pair Za.str Za.str)) (c:=6) (c2:=6) (ay.ex) (cg.srcN (NB.pair NB.str NB.str)) rfl underlying47 Zqt rfl rfl rfl bg.1 bg.2 (by decide) ?_;intro k o dd bh N az;refine Zv ⟨_,_,rfl⟩ ?_;replace C:=(C.gr D).kpp N;refine Xj (off:=2) (v:=(.slice k (((([]:List (ByteArray×ByteArray))++a.2.2.1)++([(⟨#[35,51]⟩,⟨#[]⟩),(⟨#[35,52]⟩,⟨#[]⟩)]:List (ByteArray×ByteArray))).length) o)) C sizeOf47 rfl rfl (by intro u hu;simp only [Value.cells,List.mem_cons,List.not_mem_nil,or_false] at hu;subst hu;rfl) rfl rfl ?_;intro ch O ci aa
 replace aa:Ze 50 3 bh ch j #[.int .i8 a.1,(.slice g ((((([]:List (ByteArray×ByteArray))++a.2.1)++([(⟨#[35,49]⟩,⟨#[]⟩),(⟨#[35,50]⟩,⟨#[]⟩)]:List (ByteArray×ByteArray))).take (Int.toNat (a.2.1.length:Int))).length) i),(.slice k (((([]:List (ByteArray×ByteArray))++a.2.2.1)++([(⟨#[35,51]⟩,⟨#[]⟩),(⟨#[35,52]⟩,⟨#[]⟩)]:List (ByteArray×ByteArray))).length) o),.int .i8 a.2.2.2.1,.slice none (([]:List ByteArray).length) 0,.bool a.2.2.2.2.2.1,.bool a.2.2.2.2.2.2]:=aa;replace az:=az.kp O;have ab:=az.new;refine go ?_;refine Zz aa<|Zv ⟨_,_,rfl⟩ ?_;replace b:=((((b.kpp L).kp M).gr D).kpp N).kp O;refine lW ((b.atN).nth (q:=2) rfl)<|go ?_;obtain ⟨a0,hm⟩:=Zt hm;refine lv (v:=.slice k (Int.toNat (a.2.2.1.length:Int)) o) rfl rfl (Zbc underlying47 sizeOf56 rfl rfl a0.1 (by have:=ab.lecap;have:=a0.2;omega))<|.ld (d:=46) (v:=(.slice k ((((([]:List (ByteArray×ByteArray))++a.2.2.1)++([(⟨#[35,51]⟩,⟨#[]⟩),(⟨#[35,52]⟩,⟨#[]⟩)]:List (ByteArray×ByteArray))).take (Int.toNat (a.2.2.1.length:Int))).length) o)) (congrArg (fun n=>Value.slice k n o) (List.length_take_of_le (show (Int.toNat (a.2.2.1.length:Int))≤((([]:List (ByteArray×ByteArray))++a.2.2.1)++([(⟨#[35,51]⟩,⟨#[]⟩),(⟨#[35,52]⟩,⟨#[]⟩)]:List (ByteArray×ByteArray))).length by have:=a0.2;omega)).symm) ?_;refine Zv ⟨_,_,rfl⟩ ?_;refine Xj (off:=2) (v:=(.slice k ((((([]:List (ByteArray×ByteArray))++a.2.2.1)++([(⟨#[35,51]⟩,⟨#[]⟩),(⟨#[35,52]⟩,⟨#[]⟩)]:List (ByteArray×ByteArray))).take (Int.toNat (a.2.2.1.length:Int))).length) o)) aa sizeOf47 rfl rfl (by intro u hu;simp only [Value.cells,List.mem_cons,List.not_mem_nil,or_false] at hu;subst hu;rfl) rfl rfl ?_;intro cj P ck E;replace E:Ze 50 3 bh cj j #[.int .i8 a.1,(.slice g ((((([]:List (ByteArray×ByteArray))++a.2.1)++([(⟨#[35,49]⟩,⟨#[]⟩),(⟨#[35,50]⟩,⟨#[]⟩)]:List (ByteArray×ByteArray))).take (Int.toNat (a.2.1.length:Int))).length) i),(.slice k ((((([]:List (ByteArray×ByteArray))++a.2.2.1)++([(⟨#[35,51]⟩,⟨#[]⟩),(⟨#[35,52]⟩,⟨#[]⟩)]:List (ByteArray×ByteArray))).take (Int.toNat (a.2.2.1.length:Int))).length) o),.int .i8 a.2.2.2.1,.slice none (([]:List ByteArray).length) 0,.bool a.2.2.2.2.2.1,.bool a.2.2.2.2.2.2]:=E;refine go ?_;refine Zz E<|Zv ⟨_,_,rfl⟩ ?_;replace b:=b.kp P;refine lW ((b.atN).nth (q:=4) rfl) ?_;obtain ⟨cl,hm⟩:=Zt hm;replace aj:=aj.keep (Zl.start col w0);replace f:=(((((f.kpp L).kp M cd).grow D).kpp N).kp O ci).kp P ck;refine Wy (c:=8) Zc.nil (aj.ks f).srcC cl ?_
 intro bi bj de bk F a1;refine Zv ⟨_,_,rfl⟩ ?_;replace E:=E.kpp F;refine Xj (off:=4) (v:=(.slice bi ((([]:List ByteArray)++a.2.2.2.2.1).length) bj)) E sizeOf40 rfl rfl (by intro u hu;simp only [Value.cells,List.mem_cons,List.not_mem_nil,or_false] at hu;subst hu;rfl) rfl rfl ?_;intro cn G co H;replace H:Ze 50 3 bk cn j #[.int .i8 a.1,(.slice g ((((([]:List (ByteArray×ByteArray))++a.2.1)++([(⟨#[35,49]⟩,⟨#[]⟩),(⟨#[35,50]⟩,⟨#[]⟩)]:List (ByteArray×ByteArray))).take (Int.toNat (a.2.1.length:Int))).length) i),(.slice k ((((([]:List (ByteArray×ByteArray))++a.2.2.1)++([(⟨#[35,51]⟩,⟨#[]⟩),(⟨#[35,52]⟩,⟨#[]⟩)]:List (ByteArray×ByteArray))).take (Int.toNat (a.2.2.1.length:Int))).length) o),.int .i8 a.2.2.2.1,.slice bi ((([]:List ByteArray)++a.2.2.2.2.1).length) bj,.bool a.2.2.2.2.2.1,.bool a.2.2.2.2.2.2]:=H;refine go ?_;refine Zz H<|Ui (col:=bk) ([⟨#[35,53]⟩,⟨#[35,54]⟩]:List ByteArray) 9 ?_;intro df cp cq p cr;obtain ⟨bm,hm⟩:=Zt hm;replace a1:=(a1.kp G).gr p;refine Qd (col:=cq) (w:=cp) (r:=Za.str) (c:=8) (c2:=8) (a1.ex) (cr.srcN NB.str) rfl underlying40 Zzz rfl rfl rfl bm.1 bm.2 (by decide) ?_;intro s t dg bn I a2;refine Zv ⟨_,_,rfl⟩ ?_;replace H:=(H.gr p).kpp I;refine Xj (off:=4) (v:=(.slice s (((([]:List ByteArray)++a.2.2.2.2.1)++([⟨#[35,53]⟩,⟨#[35,54]⟩]:List ByteArray)).length) t)) H sizeOf40 rfl rfl (by intro u hu;simp only [Value.cells,List.mem_cons,List.not_mem_nil,or_false] at hu;subst hu;rfl) rfl rfl ?_;intro ct J cu ac;replace ac:Ze 50 3 bn ct j #[.int .i8 a.1,(.slice g ((((([]:List (ByteArray×ByteArray))++a.2.1)++([(⟨#[35,49]⟩,⟨#[]⟩),(⟨#[35,50]⟩,⟨#[]⟩)]:List (ByteArray×ByteArray))).take (Int.toNat (a.2.1.length:Int))).length) i),(.slice k ((((([]:List (ByteArray×ByteArray))++a.2.2.1)++([(⟨#[35,51]⟩,⟨#[]⟩),(⟨#[35,52]⟩,⟨#[]⟩)]:List (ByteArray×ByteArray))).take (Int.toNat (a.2.2.1.length:Int))).length) o),.int .i8 a.2.2.2.1,(.slice s (((([]:List ByteArray)++a.2.2.2.2.1)++([⟨#[35,53]⟩,⟨#[35,54]⟩]:List ByteArray)).length) t),.bool a.2.2.2.2.2.1,.bool a.2.2.2.2.2.2]:=ac;replace a2:=a2.kp J;have ad:=a2.new;refine go ?_;refine Zz ac<|Zv ⟨_,_,rfl⟩ ?_;replace b:=((((b.kpp F).kp G).gr p).kpp I).kp J;refine lW ((b.atN).nth (q:=4) rfl)<|go ?_;obtain ⟨a3,hm⟩:=Zt hm
 refine lv (v:=.slice s (Int.toNat (a.2.2.2.2.1.length:Int)) t) rfl rfl (Zbc underlying40 sizeOf9 rfl rfl a3.1 (by have:=ad.lecap;have:=a3.2;omega))<|.ld (d:=64) (v:=(.slice s ((((([]:List ByteArray)++a.2.2.2.2.1)++([⟨#[35,53]⟩,⟨#[35,54]⟩]:List ByteArray)).take (Int.toNat (a.2.2.2.2.1.length:Int))).length) t)) (congrArg (fun n=>Value.slice s n t) (List.length_take_of_le (show (Int.toNat (a.2.2.2.2.1.length:Int))≤((([]:List ByteArray)++a.2.2.2.2.1)++([⟨#[35,53]⟩,⟨#[35,54]⟩]:List ByteArray)).length by have:=a3.2;omega)).symm) ?_;refine Zv ⟨_,_,rfl⟩ ?_;refine Xj (off:=4) (v:=(.slice s ((((([]:List ByteArray)++a.2.2.2.2.1)++([⟨#[35,53]⟩,⟨#[35,54]⟩]:List ByteArray)).take (Int.toNat (a.2.2.2.2.1.length:Int))).length) t)) ac sizeOf40 rfl rfl (by intro u hu;simp only [Value.cells,List.mem_cons,List.not_mem_nil,or_false] at hu;subst hu;rfl) rfl rfl ?_;intro cv Q cw a4;replace a4:Ze 50 3 bn cv j #[.int .i8 a.1,(.slice g ((((([]:List (ByteArray×ByteArray))++a.2.1)++([(⟨#[35,49]⟩,⟨#[]⟩),(⟨#[35,50]⟩,⟨#[]⟩)]:List (ByteArray×ByteArray))).take (Int.toNat (a.2.1.length:Int))).length) i),(.slice k ((((([]:List (ByteArray×ByteArray))++a.2.2.1)++([(⟨#[35,51]⟩,⟨#[]⟩),(⟨#[35,52]⟩,⟨#[]⟩)]:List (ByteArray×ByteArray))).take (Int.toNat (a.2.2.1.length:Int))).length) o),.int .i8 a.2.2.2.1,(.slice s ((((([]:List ByteArray)++a.2.2.2.2.1)++([⟨#[35,53]⟩,⟨#[35,54]⟩]:List ByteArray)).take (Int.toNat (a.2.2.2.2.1.length:Int))).length) t),.bool a.2.2.2.2.2.1,.bool a.2.2.2.2.2.2]:=a4;refine go ?_;refine lV _ (Xx isAgg50 sizeOf50 a4) ?_;replace ak:=((((((((((((((((((((((ak.gr am).kp an).kp ao).kp aq).kp au).kpp T).kp U).gr K).kpp V).kp W).kp Z).kpp L).kp M).gr D).kpp N).kp O).kp P).kpp F).kp G).gr p).kpp I).kp J).kp Q;refine Xf ak ?_;intro dh ae cx cy;refine go ?_;cases hm;replace Y:=(((((((((((((Y.kp Z).kpp L).kp M).gr D).kpp N).kp O).kp P).kpp F).kp G).gr p).kpp I).kp J).kp Q).kp ae;replace ab:=(((((((ab.kp P).kpp F).kp G).gr p).kpp I).kp J).kp Q).kp ae;replace f:=((((((f.kpp F).kp G co).grow p).kpp I).kp J cu).kp Q cw).kp ae cx;replace ad:=(ad.kp Q).kp ae;exact ⟨rfl,_,ra cy.atN,_,_,_,_,_,_,_,rfl,f.fin (cm [(4,c1),(6,c2),(8,c3)]),f.fo Y,f.fo ab,f.fo ad⟩
theorem Zzv:Wa prog 56 2 32:=⟨Tryz.t56,_,rfl,rfl,rfl,rfl,rfl⟩
def Zhz (a:(List (ByteArray×ByteArray))):Option (List (ByteArray×ByteArray)):=
  Zr ((([]:List (ByteArray×ByteArray)).length+a.length) * 32≤140737488355328∧([]:List (ByteArray×ByteArray)).length+a.length≤maxLen) (some (([]:List (ByteArray×ByteArray))++a))
theorem Zyj {f:Nat} {a0:Option Addr} {col:Zd} {w0:World} {c r:(List (ByteArray×ByteArray))} (c1:Nat) (hm:Zhz c=some r) (h0:Sl (Za.pair Za.str Za.str) col w0 a0 f c):
    Calls prog 41 #[.slice a0 c.length f] w0 (fun e w'=>∃ (col':Zd) (ra1:Option Addr) (rc2:Nat),e= .returned ((.slice ra1 r.length rc2))∧Zg col w0 col' w'∧Zc (Za.pair Za.str Za.str) 56 c1 col' w' ra1 rc2 r):=by
 refine Z5 2 (m:=8) func41 O O O O O ?_;rw [Zhz.eq_1] at hm;have a:=St.start col w0;refine go ?_;replace h0:=h0.keep (Zl.start col w0);rcases Zn8 h0 with b | b
 ·replace hm:some ([]:List (ByteArray×ByteArray))=some r:=by have h0:=b.2;subst h0;simpa [Zr,maxLen] using hm
  refine lv (v:=.bool a0.isNone) O O (Zfh underlying47 O)<|.ld (d:=4) (v:=.bool true) (congrArg Value.bool b.1)<|Zj<|X8 O<|go ?_;cases hm;exact ⟨O,_,none,0,O,a.fin (cm []),Zc.nil⟩
 refine lv (v:=.bool a0.isNone) O O (Zfh underlying47 O)<|.ld (d:=4) (v:=.bool false) (congrArg Value.bool b)<|Zj<|Yh O<|go ?_;refine Zjf (col:=(Zi col)) (r:=(Za.pair Za.str Za.str)) 1 O underlying47 Zzv O ?_;intro n o p g i;refine W2 O ?_;obtain ⟨j,hm⟩:=Zt hm;replace h0:=h0.gr g;refine Wy i h0.srcC j ?_;intro q s t u k l;refine go ?_;cases hm;replace a:=(a.grow g).kpp k;exact ⟨O,_,_,_,O,a.fin (cm [(1,c1)]),a.fo l⟩
def S4 (a:(Int×(List (ByteArray×ByteArray))×(List (ByteArray×ByteArray))×Int×List ByteArray×(Bool×Bool))):Option Bool:=
  if (decide (a.1=1))=true then (some (decide ((a.2.2.1.length:Int)=0))) else (if (decide (a.1=2))=true then (some (decide (0<(a.2.1.length:Int)))) else (if (decide (a.1=3))=true then (some (decide ((a.2.1.length:Int)=1))) else (some false)))
theorem Zi0 {d f g:Nat} {i j k:Option Addr} {col:Zd} {w0:World} {a:(Int×(List (ByteArray×ByteArray))×(List (ByteArray×ByteArray))×Int×List ByteArray×(Bool×Bool))} {r:Bool} (hm:S4 a=some r) (n:Sl (Za.pair Za.str Za.str) col w0 i d a.2.1) (o:Sl (Za.pair Za.str Za.str) col w0 j f a.2.2.1) (p:Sl Za.str col w0 k g a.2.2.2.2.1):
    Calls prog 31 #[(.agg #[.int .i8 a.1,.slice i a.2.1.length d,.slice j a.2.2.1.length f,.int .i8 a.2.2.2.1,.slice k a.2.2.2.2.1.length g,.bool a.2.2.2.2.2.1,.bool a.2.2.2.2.2.2])] w0 (fun e w'=>e= .returned ((.bool r))∧Below w0.heap.size w0 w'):=by
 refine Z5 2 (m:=23) func31 O O O O O ?_;rw [S4.eq_1] at hm;have b:=St.start col w0;refine go ?_;refine Yj (col:=(Zi col)) 1 O ?_;intro q s t l c;refine go ?_;refine Zz c ?_;refine go ?_;replace b:=b.grow l;refine Zm hm (fun hb hm=>go ?_) fun hb hm=>go ?_
 ·refine Zz c ?_;refine go ?_;cases hm;exact ⟨O,O,b.below⟩
 refine Zm hm (fun hb hm=>go ?_) fun hb hm=>go ?_
 ·refine Zz c ?_;refine go ?_;cases hm;exact ⟨O,O,b.below⟩
 refine Zm hm (fun hb hm=>go ?_) fun hb hm=>go ?_
 ·refine Zz c ?_;refine go ?_;cases hm;exact ⟨O,O,b.below⟩
 cases hm;exact ⟨O,O,b.below⟩
def Zes (a:Int) (b:List (ByteArray×Int)) (kk_L3:(Int→(List (ByteArray×Int))→Option Int)) (c:ByteArray) (d:Bool):Option Int:=
  if d=true then (some 51) else ((some (Yx b c 1)).bind fun e=>kk_L3 (i64.wrap (a - 1)) e)
def Uc (d:List (ByteArray×Int)):List ByteArray→Int→(List (ByteArray×Int))→Option Int
  | [],a,b=>if (!decide (a=0))=true then (some 51) else (some 0)
  | c :: e,a,b=>if (!((Xg d c).isSome))=true then (Zes a b (Uc d e) c true) else (Zes a b (Uc d e) c (decide (0<((Xg b c).getD 0))))
termination_by structural x=>x
def Zha (a:Nat) (kk_L2:(Nat→(List (ByteArray×Int))→Option Int)) (b:List (ByteArray×Int)):Option Int:=
  kk_L2 (a+1) b
def Zhb (a:Nat) (b:List (ByteArray×Int)) (kk_L2:(Nat→(List (ByteArray×Int))→Option Int)) (c:(ByteArray×ByteArray)):Option Int:=
  (some (Yx b c.1 1)).bind fun d=>Zha a kk_L2 d
def Uk (a:Nat) (b:List (ByteArray×Int)) (kk_L2:(Nat→(List (ByteArray×Int))→Option Int)) (c:(ByteArray×ByteArray)) (d:Bool):Option Int:=
  if d=true then (some 50) else (Zhb a b kk_L2 c)
def Qu (e:(ByteArray×List ByteArray×(List (List ByteArray))×(List (List Int))×(List (List ((Bool×List Int)×List Int))))) (d:List (ByteArray×Int)) (c:Nat) (b:List (ByteArray×Int)) (kk_L2:(Nat→(List (ByteArray×Int))→Option Int)) (a:(ByteArray×ByteArray)) (f:Bool):Option Int:=
  if (!((Xg d a.1).isSome))=true then (Uk c b kk_L2 a true) else (if (decide (0<((Xg b a.1).getD 0)))=true then (Uk c b kk_L2 a true) else (if (!f)=true then ((Zq e.2.2.1 ((Xg d a.1).getD 0)).bind fun g=>(Zco g a.2).bind fun i=>Uk c b kk_L2 a (!i)) else (Uk c b kk_L2 a false)))
def Yt (a:(ByteArray×List ByteArray×(List (List ByteArray))×(List (List Int))×(List (List ((Bool×List Int)×List Int))))) (b:(Int×(List (ByteArray×ByteArray))×(List (ByteArray×ByteArray))×Int×List ByteArray×(Bool×Bool))) (c:List (ByteArray×Int)):List (ByteArray×ByteArray)→Nat→(List (ByteArray×Int))→Option Int
  | [],e,d=>if (!decide (b.2.2.2.1=3))=true then (some 0) else (Uc c b.2.2.2.2.1 (i64.wrap ((a.2.1.length:Int) - (d.length:Int))) d)
  | f :: g,e,d=>if (decide (b.1=3))=true then (Qu a c e d (Yt a b c g) f (decide ((e:Int)=0))) else (Qu a c e d (Yt a b c g) f false)
termination_by structural x=>x
def S1 (e:(ByteArray×List ByteArray×(List (List ByteArray))×(List (List Int))×(List (List ((Bool×List Int)×List Int))))) (a:(Int×(List (ByteArray×ByteArray))×(List (ByteArray×ByteArray))×Int×List ByteArray×(Bool×Bool))):List ByteArray→Nat→(List (ByteArray×Int))→Option Int
  | [],b,c=>(Zhz a.2.1).bind fun d=>Zr ((d.length+a.2.2.1.length) * 32≤140737488355328∧d.length+a.2.2.1.length≤maxLen) (Yt e a c (d++a.2.2.1) 0 ([]:List (ByteArray×Int)))
  | f :: g,b,c=>(some (Yx c f (b:Int))).bind fun i=>(S1 e a g) (b+1) i
termination_by structural x=>x
def Zg9 (a:(ByteArray×List ByteArray×(List (List ByteArray))×(List (List Int))×(List (List ((Bool×List Int)×List Int))))) (b:(Int×(List (ByteArray×ByteArray))×(List (ByteArray×ByteArray))×Int×List ByteArray×(Bool×Bool))):Option Int:=
  S1 a b a.2.1 0 ([]:List (ByteArray×Int))
def S0 (a:(ByteArray×List ByteArray×(List (List ByteArray))×(List (List Int))×(List (List ((Bool×List Int)×List Int))))) (b:(Int×(List (ByteArray×ByteArray))×(List (ByteArray×ByteArray))×Int×List ByteArray×(Bool×Bool))) (c:Bool):Option Int:=
  if c=true then (some 50) else (Zg9 a b)
def Wk (N:Nat) (b:(ByteArray×List ByteArray×(List (List ByteArray))×(List (List Int))×(List (List ((Bool×List Int)×List Int))))) (a:(Int×(List (ByteArray×ByteArray))×(List (ByteArray×ByteArray))×Int×List ByteArray×(Bool×Bool))):Option Int:=
  (Tp N (b.1,b.2.1,b.2.2.1,b.2.2.2.1,b.2.2.2.2)).bind fun c=>if (!decide (c=0))=true then (some c) else (if (!decide (a.2.2.2.1=1))=true then (if (!decide (a.2.2.2.1=2))=true then (if (!decide (a.2.2.2.1=3))=true then (S0 b a true) else ((S4 (a.1,a.2.1,a.2.2.1,a.2.2.2.1,a.2.2.2.2.1,(a.2.2.2.2.2.1,a.2.2.2.2.2.2))).bind fun d=>S0 b a (!d))) else ((S4 (a.1,a.2.1,a.2.2.1,a.2.2.2.1,a.2.2.2.2.1,(a.2.2.2.2.2.1,a.2.2.2.2.2.2))).bind fun e=>S0 b a (!e))) else ((S4 (a.1,a.2.1,a.2.2.1,a.2.2.2.1,a.2.2.2.2.1,(a.2.2.2.2.2.1,a.2.2.2.2.2.2))).bind fun f=>S0 b a (!f)))
theorem Zad {N C D E F G H I:Nat} {J K L M O P Q:Option Addr} {col:Zd} {w0:World} {g:(ByteArray×List ByteArray×(List (List ByteArray))×(List (List Int))×(List (List ((Bool×List Int)×List Int))))} {b:(Int×(List (ByteArray×ByteArray))×(List (ByteArray×ByteArray))×Int×List ByteArray×(Bool×Bool))} {r:Int} (hm:Wk N g b=some r) (aj:Sl Za.str col w0 J C g.2.1) (ar:Sl (Za.slice Za.str) col w0 K D g.2.2.1) (bo:Sl (Za.slice (Za.int .i64)) col w0 L E g.2.2.2.1) (bp:Sl (Za.slice (Za.pair (Za.pair Za.bool (Za.slice (Za.int .u32))) (Za.slice (Za.int .u32)))) col w0 M F g.2.2.2.2) (ak:Sl (Za.pair Za.str Za.str) col w0 O G b.2.1) (al:Sl (Za.pair Za.str Za.str) col w0 P H b.2.2.1) (T:Sl Za.str col w0 Q I b.2.2.2.2.1):
    Calls prog 17 #[(.agg #[.string g.1,.slice J g.2.1.length C,.slice K g.2.2.1.length D,.slice L g.2.2.2.1.length E,.slice M g.2.2.2.2.length F]),(.agg #[.int .i8 b.1,.slice O b.2.1.length G,.slice P b.2.2.1.length H,.int .i8 b.2.2.2.1,.slice Q b.2.2.2.2.1.length I,.bool b.2.2.2.2.2.1,.bool b.2.2.2.2.2.2])] w0 (fun e w'=>e= .returned ((.int .i64 r))∧Below w0.heap.size w0 w'):=by
 refine Z5 4 (m:=151) func17 rfl rfl rfl rfl rfl ?_;rw [Wk.eq_1] at hm;have a:=St.start col w0;refine go ?_;refine Yj (col:=(Zi col)) 1 rfl ?_;intro U dt cn co i;refine Yj (col:=cn) 2 rfl ?_;intro V cp W cd d;refine go ?_;replace i:=i.gr cd;refine lV _ (Xx isAgg45 sizeOf45 i) ?_;obtain ⟨du,cq,hm⟩:=bZ hm;replace aj:=aj.keep (Zl.start col w0);replace ar:=ar.keep (Zl.start col w0);replace bo:=bo.keep (Zl.start col w0);replace bp:=bp.keep (Zl.start col w0);replace a:=(a.grow co).grow cd;refine Zh (Zxp cq (aj.ks a) (ar.ks a) (bo.ks a) (bp.ks a)) ?_;rintro _ ba ⟨rfl,au⟩;refine ⟨_,rfl,?_⟩;replace au:Zg W cp W ba:=.of_below au;refine go ?_;replace ak:=ak.keep (Zl.start col w0);replace al:=al.keep (Zl.start col w0);replace T:=T.keep (Zl.start col w0);replace i:=i.gr au;replace d:=d.gr au;replace a:=a.grow au;refine Zm hm (fun hb hm=>go ?_) fun hb hm=>?_
 ·cases hm;exact ⟨rfl,rfl,a.below⟩
 refine Z1<|Zo ?_;refine Wp.cutK [2,3,1000000] (fun f bb=>∃ av,Zg9 g b=some r∧St w0 (Zi col) av bb∧Ze 45 1 av bb U #[.string g.1,.slice J g.2.1.length C,.slice K g.2.2.1.length D,.slice L g.2.2.2.1.length E,.slice M g.2.2.2.2.length F]∧Ze 50 2 av bb V #[.int .i8 b.1,.slice O b.2.1.length G,.slice P b.2.2.1.length H,.int .i8 b.2.2.2.1,.slice Q b.2.2.2.2.1.length I,.bool b.2.2.2.2.2.1,.bool b.2.2.2.2.2.2]) ?_ ?_
 ·intro f bb w;obtain ⟨av,hm,a,i,d⟩:=w;rw [Zg9.eq_1] at hm;refine go ?_;refine Zz i ?_;refine go ?_;refine Zrn (col:=av) (fk:=Value.string) (fv:=(Value.int .i64)) 3 rfl underlying95 rfl ?_;intro dv dw dx bq cr;refine go ?_;refine Zv ⟨_,_,rfl⟩ ?_;replace i:=i.gr bq;refine lW ((i.atN).nth (q:=1) rfl)<|go ?_;replace d:=d.gr bq;replace a:=a.grow bq;refine Z6 [2,3,48,49,1000000] (fun n f aw=>∃ am X R o ax,n=ax.length∧g.2.1.drop X=ax∧S1 g b ax X o=some r∧St w0 (Zi col) am aw∧Ze 45 1 am aw U #[.string g.1,.slice J g.2.1.length C,.slice K g.2.2.1.length D,.slice L g.2.2.2.1.length E,.slice M g.2.2.2.2.length F]∧Ze 50 2 am aw V #[.int .i8 b.1,.slice O b.2.1.length G,.slice P b.2.2.1.length H,.int .i8 b.2.2.2.1,.slice Q b.2.2.2.2.1.length I,.bool b.2.2.2.2.2.1,.bool b.2.2.2.2.2.2]∧Xv Value.string (Value.int .i64) 3 am aw R o∧[50,6].map f=[.int .i64 X,.map (some R)]) g.2.1.length ⟨_,0,_,_,_,rfl,rfl,hm,a,i,d,cr,rfl⟩ ?_;clear hm;intro n f aw hI;obtain ⟨am,X,R,o,ax,hn,hl,hm,a,i,d,j,hs⟩:=hI;subst hn;refine .lL [50,6] hs ?_
  cases ax with
  | nil=>
   have hk:¬ ((X:Int)<(g.2.1.length:Int)):=by have:=List.drop_eq_nil_iff.1 hl;omega
   have hkb:=decide_eq_false hk;rw [S1.eq_1] at hm;refine go ?_;refine Yh (congrArg Value.bool hkb)<|go ?_;refine Zjg (col:=am) (fk:=Value.string) (fv:=(Value.int .i64)) 4 rfl ?_;intro dy dz bc bd af;refine go ?_;refine Vl (col:=bc) [(0,1),(1,0),(3,1),(4,0),(7,1),(2,3),(5,2),(6,1)] (by kernel_rfl) (by kernel_rfl)<|xF ⟨_,_,rfl⟩ ?_;replace d:=d.gr bd;refine xW (fun _ c=>((d.atN).nth (q:=1) rfl).gr (c.bl bc)) ?_;refine xF ⟨_,_,rfl⟩ ?_;refine xW (fun _ c=>((d.atN).nth (q:=2) rfl).gr (c.bl bc)) ?_;refine xu rfl rfl (fun _=>Ve rfl) ?_;refine xe rfl rfl ?_;intro d0 hC0;have c:=hC0.bl bc;obtain ⟨S,cs,hm⟩:=bZ hm;replace a:=(a.grow bd).grow c;refine Zh (Zyj 5 cs (ak.ks a)) ?_;rintro _ d1 ⟨ce,d2,d3,rfl,an,br⟩;refine ⟨_,rfl,?_⟩;refine Zj<|Ww ce hC0 an<|xe rfl rfl ?_;intro d4 hC0;replace j:=((j.gr bd).gr c).gr an;replace i:=((i.gr bd).gr c).gr an;replace af:=(af.gr c).gr an;replace d:=(d.gr c).gr an;have c:=hC0.bl ce;obtain ⟨ct,hm⟩:=Zt hm;replace a:=(a.grow an).grow c;replace br:=br.gr c;refine Wy br (al.ks a).srcC ct ?_;intro ay az d5 cf a0 l;refine Zj<|xk cf<|xu rfl rfl (fun _=>Zcv underlying47 rfl) ?_;refine W6 ?_;replace j:=(j.gr c).kpp a0;replace af:=(af.gr c).kpp a0;replace i:=(i.gr c).kpp a0;replace d:=(d.gr c).kpp a0;intro d6 c;replace c:=c.bl cf;refine S8 ?_;replace a:=(a.kpp a0).grow c;replace j:=j.gr c;replace af:=af.gr c;replace l:=l.gr c;replace i:=i.gr c;replace d:=d.gr c
   refine Z6 [2,3,6,65,66,1000000] (fun n f ag=>∃ Y y ao x a1,n=a1.length∧(S++b.2.2.1).drop y=a1∧Yt g b o a1 y x=some r∧St w0 (Zi col) Y ag∧Ze 45 1 Y ag U #[.string g.1,.slice J g.2.1.length C,.slice K g.2.2.1.length D,.slice L g.2.2.2.1.length E,.slice M g.2.2.2.2.length F]∧Ze 50 2 Y ag V #[.int .i8 b.1,.slice O b.2.1.length G,.slice P b.2.2.1.length H,.int .i8 b.2.2.2.1,.slice Q b.2.2.2.2.1.length I,.bool b.2.2.2.2.2.1,.bool b.2.2.2.2.2.2]∧Xv Value.string (Value.int .i64) 3 Y ag R o∧Zc (Za.pair Za.str Za.str) 56 5 Y ag ay az (S++b.2.2.1)∧Xv Value.string (Value.int .i64) 4 Y ag ao x∧[67,9].map f=[.int .i64 y,.map (some ao)]) (S++b.2.2.1).length ⟨_,0,_,_,_,rfl,rfl,hm,a,i,d,j,l,af,rfl⟩ ?_;clear hm;intro n f ag hI;obtain ⟨Y,y,ao,x,a1,hn,hl,hm,a,i,d,j,l,p,hs⟩:=hI;subst hn;refine .lL [67,9] hs ?_
   cases a1 with
   | nil=>
    have hk:¬ ((y:Int)<((S++b.2.2.1).length:Int)):=by have:=List.drop_eq_nil_iff.1 hl;omega
    have hkb:=decide_eq_false hk;rw [Yt.eq_1] at hm;refine go ?_;refine Yh (congrArg Value.bool hkb)<|go ?_;refine Zz d ?_;refine go ?_;refine Zm hm (fun hb hm=>go ?_) fun hb hm=>go ?_
    ·cases hm;exact ⟨rfl,rfl,a.below⟩
    refine Zz i ?_;refine go ?_;refine lV (.int .i64 x.length) (Z2u p underlying95 rfl)<|go ?_;refine Zz d ?_;refine go ?_;refine Z6 [124,125,6,1000000] (fun n f be=>∃ bf a2 bg bh Z a3,n=a3.length∧b.2.2.2.2.1.drop a2=a3∧Uc o a3 bg Z=some r∧St w0 (Zi col) bf be∧Xv Value.string (Value.int .i64) 3 bf be R o∧Xv Value.string (Value.int .i64) 4 bf be bh Z∧[126,15,9].map f=[.int .i64 a2,.int .i64 bg,.map (some bh)]) b.2.2.2.2.1.length ⟨_,0,_,_,_,_,rfl,rfl,hm,a,j,p,rfl⟩ ?_;clear hm;intro n f be hI;obtain ⟨bf,a2,bg,bh,Z,a3,hn,hl,hm,a,j,a4,hs⟩:=hI;subst hn;refine .lL [126,15,9] hs ?_
    cases a3 with
    | nil=>
     have hk:¬ ((a2:Int)<(b.2.2.2.2.1.length:Int)):=by have:=List.drop_eq_nil_iff.1 hl;omega
     have hkb:=decide_eq_false hk;rw [Uc.eq_1] at hm;refine go ?_;refine Yh (congrArg Value.bool hkb)<|go ?_;refine Zm hm (fun hb hm=>go ?_) fun hb hm=>go ?_
     ·cases hm;exact ⟨rfl,rfl,a.below⟩
     cases hm;exact ⟨rfl,rfl,a.below⟩
    | cons A cg=>
     obtain ⟨B,cu,cv⟩:=Yu hl;have hk:(a2:Int)<(b.2.2.2.2.1.length:Int):=by omega
     have hkb:=decide_eq_true hk;rw [Uc.eq_2] at hm;refine go ?_;refine X8 (congrArg Value.bool hkb)<|go ?_;refine lI B ((T.ks a).addr B)<|lW ((T.ks a).atStr B) ?_;refine go ?_;refine lV (.tuple #[.int .i64 ((Xg o A).getD 0),.bool ((Xg o A).isSome)]) (Ztx Y7.str j underlying95 underlying9 zeroValue3 rfl rfl)<|lM (.tuple #[.int .i64 ((Xg o A).getD 0),.bool ((Xg o A).isSome)])<|lV (.int .i64 ((Xg o A).getD 0)) (Xl rfl rfl)<|lV (.bool ((Xg o A).isSome)) (Xl rfl rfl)<|Yq rfl<|Qc rfl<|Zj<|Zo ?_;refine Wp.cutK [124,125,126,15,17,6,9,1000000] (fun f bi=>∃ bj bs,Zes bg Z (Uc o cg) A bs=some r∧St w0 (Zi col) bj bi∧Xv Value.string (Value.int .i64) 3 bj bi R o∧Xv Value.string (Value.int .i64) 4 bj bi bh Z∧[143].map f=[.bool bs]) ?_ ?_
     ·intro f bi w;obtain ⟨bj,bs,hm,a,j,a4,hs⟩:=w;rw [Zes.eq_1] at hm;refine .lL [143] hs ?_;refine Zm hm (fun hb hm=>go ?_) fun hb hm=>go ?_
      ·cases hm;exact ⟨rfl,rfl,a.below⟩
      obtain ⟨cw,bt,hm⟩:=bZ hm;have bt:cw=Yx Z A 1:=(Option.some.inj bt).symm;refine Zga (k:=A) (v:=1) Y7.str a4 underlying95 underlying9 rfl rfl rfl ?_;intro d7 ch cx ci;rw [← bt] at ci;refine go ?_;replace j:=j.kp ch;replace a:=a.kp ch cx;exact ⟨cg.length,by simp,rfl,⟨_,_,_,_,_,_,rfl,cu,hm,a,j,ci,(Y0 (congrArg (Value.int .i64) (Yw (Nat.lt_of_lt_of_le cv (T.ks a).1.1))) rfl)⟩⟩
     refine go ?_;refine Z7 hm (fun bu hm=>go ?_) fun bu hm=>go ?_
     ·refine lV (.bool true) (Zx (congrArg Value.bool bu) rfl)<|Zj ?_;exact ⟨rfl,_,_,hm,a,j,a4,rfl⟩
     refine lV (.int .i64 ((Xg Z A).getD 0)) (Zfj Y7.str a4 underlying95 underlying9 zeroValue3 rfl rfl)<|go ?_;refine lV (.bool (decide (0<((Xg Z A).getD 0)))) (Z0 (congrArg Value.bool bu) rfl)<|Zj ?_;exact ⟨rfl,_,_,hm,a,j,a4,rfl⟩
   | cons t a5=>
    obtain ⟨B,cy,cz⟩:=Yu hl;have hk:(y:Int)<((S++b.2.2.1).length:Int):=by omega
    have hkb:=decide_eq_true hk;rw [Yt.eq_2] at hm;refine go ?_;refine X8 (congrArg Value.bool hkb)<|Z1<|Zo ?_;refine Wp.cutK [2,3,6,65,66,67,1000000] (fun f ah=>∃ ai bv bw,Zha y (Yt g b o a5) bw=some r∧St w0 (Zi col) ai ah∧Ze 45 1 ai ah U #[.string g.1,.slice J g.2.1.length C,.slice K g.2.2.1.length D,.slice L g.2.2.2.1.length E,.slice M g.2.2.2.2.length F]∧Ze 50 2 ai ah V #[.int .i8 b.1,.slice O b.2.1.length G,.slice P b.2.2.1.length H,.int .i8 b.2.2.2.1,.slice Q b.2.2.2.2.1.length I,.bool b.2.2.2.2.2.1,.bool b.2.2.2.2.2.2]∧Xv Value.string (Value.int .i64) 3 ai ah R o∧Zc (Za.pair Za.str Za.str) 56 5 ai ah ay az (S++b.2.2.1)∧Xv Value.string (Value.int .i64) 4 ai ah bv bw∧[9].map f=[.map (some bv)]) ?_ ?_
    ·intro f ah w;obtain ⟨ai,bv,bw,hm,a,i,d,j,l,c0,hs⟩:=w;rw [Zha.eq_1] at hm;refine .lL [9] hs<|go ?_;exact ⟨a5.length,by simp,rfl,⟨_,_,_,_,_,rfl,cy,hm,a,i,d,j,l,c0,(Y0 (congrArg (Value.int .i64) (Yw (Nat.lt_of_lt_of_le cz l.len))) rfl)⟩⟩
    refine go ?_;refine lI B (l.addr B) ?_;obtain ⟨_,c1,c2⟩:=l.atN B;obtain ⟨_,_,rfl,c3,c4⟩:=c1.parts;obtain rfl:=c3.str;obtain rfl:=c4.str;refine lV (.agg #[.string t.1,.string t.2]) (W9 isAgg56 sizeOf56 rfl rfl c2)<|Xz (col:=Y) #[.string (⟨#[]⟩),.string (⟨#[]⟩)] 6 zeroValue56 ?_;intro bx d8 d9 ap c5;refine Yq rfl<|Xf c5 ?_;intro ea aq c6 s;refine go ?_;refine Zz s ?_;replace j:=(j.gr ap).kp aq;refine lV (.tuple #[.int .i64 ((Xg o t.1).getD 0),.bool ((Xg o t.1).isSome)]) (Ztx Y7.str j underlying95 underlying9 zeroValue3 rfl rfl)<|lM (.tuple #[.int .i64 ((Xg o t.1).getD 0),.bool ((Xg o t.1).isSome)])<|lV (.int .i64 ((Xg o t.1).getD 0)) (Xl rfl rfl)<|lV (.bool ((Xg o t.1).isSome)) (Xl rfl rfl)<|Yq rfl<|Qc rfl<|Zj<|Zo ?_;replace l:=(l.gr ap).kp aq;replace p:=(p.gr ap).kp aq;replace i:=(i.gr ap).kp aq;replace d:=(d.gr ap).kp aq;replace a:=(a.grow ap).kp aq c6;refine Wp.cutK [11,12,13,2,3,6,65,66,67,9,1000000] (fun f aa=>∃ u bz,Qu g o y x (Yt g b o a5) t bz=some r∧St w0 (Zi col) u aa∧Ze 56 6 u aa bx #[.string t.1,.string t.2]∧Ze 45 1 u aa U #[.string g.1,.slice J g.2.1.length C,.slice K g.2.2.1.length D,.slice L g.2.2.2.1.length E,.slice M g.2.2.2.2.length F]∧Ze 50 2 u aa V #[.int .i8 b.1,.slice O b.2.1.length G,.slice P b.2.2.1.length H,.int .i8 b.2.2.2.1,.slice Q b.2.2.2.2.1.length I,.bool b.2.2.2.2.2.1,.bool b.2.2.2.2.2.2]∧Xv Value.string (Value.int .i64) 3 u aa R o∧Zc (Za.pair Za.str Za.str) 56 5 u aa ay az (S++b.2.2.1)∧Xv Value.string (Value.int .i64) 4 u aa ao x∧[14].map f=[.bool bz]) ?_ ?_
    ·intro f aa w;obtain ⟨u,bz,hm,a,s,i,d,j,l,p,hs⟩:=w;rw [Qu.eq_1] at hm;refine .lL [14] hs<|Zo ?_;refine Wp.cutK [11,2,3,6,65,66,67,9,1000000] (fun f ab=>∃ ac,Zhb y x (Yt g b o a5) t=some r∧St w0 (Zi col) ac ab∧Ze 56 6 ac ab bx #[.string t.1,.string t.2]∧Ze 45 1 ac ab U #[.string g.1,.slice J g.2.1.length C,.slice K g.2.2.1.length D,.slice L g.2.2.2.1.length E,.slice M g.2.2.2.2.length F]∧Ze 50 2 ac ab V #[.int .i8 b.1,.slice O b.2.1.length G,.slice P b.2.2.1.length H,.int .i8 b.2.2.2.1,.slice Q b.2.2.2.2.1.length I,.bool b.2.2.2.2.2.1,.bool b.2.2.2.2.2.2]∧Xv Value.string (Value.int .i64) 3 ac ab R o∧Zc (Za.pair Za.str Za.str) 56 5 ac ab ay az (S++b.2.2.1)∧Xv Value.string (Value.int .i64) 4 ac ab ao x) ?_ ?_
     ·intro f ab w;obtain ⟨ac,hm,a,s,i,d,j,l,p⟩:=w;rw [Zhb.eq_1] at hm;refine go ?_;refine Zz s ?_;obtain ⟨c7,b0,hm⟩:=bZ hm;have b0:c7=Yx x t.1 1:=(Option.some.inj b0).symm;refine Zga (k:=t.1) (v:=1) Y7.str p underlying95 underlying9 rfl rfl rfl ?_;intro eb a6 c8 cj;rw [← b0] at cj;refine Zj ?_;replace j:=j.kp a6;replace l:=l.kp a6;replace i:=i.kp a6;replace d:=d.kp a6;replace a:=a.kp a6 c8;exact ⟨rfl,_,_,_,hm,a,i,d,j,l,cj,rfl⟩
     refine Zo ?_;refine Wp.cutK [11,2,3,6,65,66,67,9,1000000] (fun f ad=>∃ ae b1,Uk y x (Yt g b o a5) t b1=some r∧St w0 (Zi col) ae ad∧Ze 56 6 ae ad bx #[.string t.1,.string t.2]∧Ze 45 1 ae ad U #[.string g.1,.slice J g.2.1.length C,.slice K g.2.2.1.length D,.slice L g.2.2.2.1.length E,.slice M g.2.2.2.2.length F]∧Ze 50 2 ae ad V #[.int .i8 b.1,.slice O b.2.1.length G,.slice P b.2.2.1.length H,.int .i8 b.2.2.2.1,.slice Q b.2.2.2.2.1.length I,.bool b.2.2.2.2.2.1,.bool b.2.2.2.2.2.2]∧Xv Value.string (Value.int .i64) 3 ae ad R o∧Zc (Za.pair Za.str Za.str) 56 5 ae ad ay az (S++b.2.2.1)∧Xv Value.string (Value.int .i64) 4 ae ad ao x∧[109].map f=[.bool b1]) ?_ ?_
     ·intro f ad w;obtain ⟨ae,b1,hm,a,s,i,d,j,l,p,hs⟩:=w;rw [Uk.eq_1] at hm;refine .lL [109] hs ?_;refine Zm hm (fun hb hm=>go ?_) fun hb hm=>?_
      ·cases hm;exact ⟨rfl,rfl,a.below⟩
      refine Z1 ?_;exact ⟨rfl,_,hm,a,s,i,d,j,l,p⟩
     refine Vs (col:=u) (by kernel_rfl) (by kernel_rfl)<|go ?_;refine Z7 hm (fun b2 hm=>go ?_) fun b2 hm=>go ?_
     ·refine qv (v:=(.bool true)) rfl (fun _ c=>Zx (congrArg Value.bool b2) rfl) ?_;refine go ?_;refine qP 95 rfl rfl<|qP 95 rfl rfl<|qP 95 rfl rfl<|X0 98 rfl rfl rfl rfl<|X0 98 rfl rfl rfl rfl<|X0 98 rfl rfl rfl rfl<|X0 98 rfl rfl rfl rfl<|X0 98 rfl rfl rfl rfl<|X0 98 rfl rfl rfl rfl<|X0 98 rfl rfl rfl rfl<|X0 98 rfl rfl rfl rfl<|X0 98 rfl rfl rfl rfl<|qP 95 rfl rfl<|qv (v:=(.bool true)) rfl (fun _ c=>Zx rfl rfl) ?_;refine Y3 ?_;intro ec c;replace c:=c.bl u;replace j:=j.gr c;replace l:=l.gr c;replace p:=p.gr c;replace s:=s.gr c;replace i:=i.gr c;replace d:=d.gr c;replace a:=a.grow c;exact ⟨rfl,_,_,hm,a,s,i,d,j,l,p,rfl⟩
     refine qF ⟨_,_,rfl⟩ ?_;refine go ?_;refine qW (fun _ c=>((s.atN).nth (q:=0) rfl).gr (c.bl u)) ?_;refine go ?_;refine qv (v:=(.int .i64 ((Xg x t.1).getD 0))) rfl (fun _ c=>Zfj Y7.str (p.gr (c.bl u)) underlying95 underlying9 zeroValue3 rfl rfl) ?_;refine go ?_;refine qv (v:=(.bool (decide (0<((Xg x t.1).getD 0))))) rfl (fun _ c=>Z0 (congrArg Value.bool b2) rfl) ?_;refine go ?_;refine Z7 hm (fun bk hm=>go ?_) fun bk hm=>go ?_
     ·refine X0 98 rfl rfl rfl rfl<|X0 98 rfl rfl rfl rfl<|X0 98 rfl rfl rfl rfl<|X0 98 rfl rfl rfl rfl<|X0 98 rfl rfl rfl rfl<|X0 98 rfl rfl rfl rfl<|X0 98 rfl rfl rfl rfl<|X0 98 rfl rfl rfl rfl<|X0 98 rfl rfl rfl rfl<|go ?_;refine qv (v:=(.bool true)) rfl (fun _ c=>Zx (congrArg Value.bool bk) rfl) ?_;refine Y3 ?_;intro ed c;replace c:=c.bl u;replace j:=j.gr c;replace l:=l.gr c;replace p:=p.gr c;replace s:=s.gr c;replace i:=i.gr c;replace d:=d.gr c;replace a:=a.grow c;exact ⟨rfl,_,_,hm,a,s,i,d,j,l,p,rfl⟩
     refine Z7 hm (fun b3 hm=>go ?_) fun b3 hm=>go ?_
     ·refine qF ⟨_,_,rfl⟩ ?_;refine go ?_;refine qW (fun _ c=>((i.atN).nth (q:=2) rfl).gr (c.bl u)) ?_;refine go ?_;obtain ⟨ee,b4,hm⟩:=bZ hm;refine qI b4 ((ar.ks a).addr b4) ?_;refine go ?_;obtain ⟨_,c9,da⟩:=(ar.ks a).atN b4;obtain ⟨⟨ef,eg,rfl,db⟩,_⟩:=c9;refine qW (fun _ c=>da.one.gr (c.bl u)) ?_;refine go ?_;refine qF ⟨_,_,rfl⟩ ?_;refine go ?_;refine qW (fun _ c=>((s.atN).nth (q:=1) rfl).gr (c.bl u)) ?_;refine go ?_;obtain ⟨b5,dc,hm⟩:=bZ hm;refine qc (v:=(.bool b5)) rfl (fun _ c=>⟨_,_,Zib call42 rfl rfl,(Zmu dc (db.gr (c.bl u)):).mono fun _ _ h=>⟨h.1,c.trans (.of_below h.2)⟩⟩) ?_;refine go ?_;refine qv (v:=(.bool (!b5))) rfl (fun _ c=>Zx (congrArg Value.bool b3) rfl) ?_;refine qv (v:=(.bool (!b5))) rfl (fun _ c=>Z0 (congrArg Value.bool bk) rfl) ?_;refine Y3 ?_;intro eh c;replace c:=c.bl u;replace j:=j.gr c;replace l:=l.gr c;replace p:=p.gr c;replace s:=s.gr c;replace i:=i.gr c;replace d:=d.gr c;replace a:=a.grow c;exact ⟨rfl,_,_,hm,a,s,i,d,j,l,p,rfl⟩
     refine qv (v:=(.bool false)) rfl (fun _ c=>Z0 (congrArg Value.bool b3) rfl) ?_;refine qv (v:=(.bool false)) rfl (fun _ c=>Z0 (congrArg Value.bool bk) rfl) ?_;refine Y3 ?_;intro ei c;replace c:=c.bl u;replace j:=j.gr c;replace l:=l.gr c;replace p:=p.gr c;replace s:=s.gr c;replace i:=i.gr c;replace d:=d.gr c;replace a:=a.grow c;exact ⟨rfl,_,_,hm,a,s,i,d,j,l,p,rfl⟩
    refine Yo<|Zz d ?_;refine go ?_;refine Z7 hm (fun b6 hm=>go ?_) fun b6 hm=>go ?_
    ·refine lV (.bool (decide ((y:Int)=0))) (Zx (congrArg Value.bool b6) rfl)<|go ?_;exact ⟨rfl,_,_,hm,a,s,i,d,j,l,p,rfl⟩
    refine lV (.bool false) (Z0 (congrArg Value.bool b6) rfl)<|go ?_;exact ⟨rfl,_,_,hm,a,s,i,d,j,l,p,rfl⟩
  | cons ck dd=>
   obtain ⟨B,de,df⟩:=Yu hl;have hk:(X:Int)<(g.2.1.length:Int):=by omega
   have hkb:=decide_eq_true hk;rw [S1.eq_2] at hm;refine go ?_;refine X8 (congrArg Value.bool hkb)<|go ?_;refine lI B ((aj.ks a).addr B)<|lW ((aj.ks a).atStr B) ?_;refine go ?_;obtain ⟨dg,b7,hm⟩:=bZ hm;have b7:dg=Yx o ck (X:Int):=(Option.some.inj b7).symm;refine Zga (k:=ck) (v:=(X:Int)) Y7.str j underlying95 underlying9 rfl rfl rfl ?_;intro ej b8 dh cl;rw [← b7] at cl;refine go ?_;replace i:=i.kp b8;replace d:=d.kp b8;replace a:=a.kp b8 dh;exact ⟨dd.length,by simp,rfl,⟨_,_,_,_,_,rfl,de,hm,a,i,d,cl,(Y0 (congrArg (Value.int .i64) (Yw (Nat.lt_of_lt_of_le df (aj.ks a).1.1))) rfl)⟩⟩
 refine Zo ?_;refine Wp.cutK [2,3,1000000] (fun f bm=>∃ bn b9,S0 g b b9=some r∧St w0 (Zi col) bn bm∧Ze 45 1 bn bm U #[.string g.1,.slice J g.2.1.length C,.slice K g.2.2.1.length D,.slice L g.2.2.2.1.length E,.slice M g.2.2.2.2.length F]∧Ze 50 2 bn bm V #[.int .i8 b.1,.slice O b.2.1.length G,.slice P b.2.2.1.length H,.int .i8 b.2.2.2.1,.slice Q b.2.2.2.2.1.length I,.bool b.2.2.2.2.2.1,.bool b.2.2.2.2.2.2]∧[42].map f=[.bool b9]) ?_ ?_
 ·intro f bm w;obtain ⟨bn,b9,hm,a,i,d,hs⟩:=w;rw [S0.eq_1] at hm;refine .lL [42] hs ?_;refine Zm hm (fun hb hm=>go ?_) fun hb hm=>?_
  ·cases hm;exact ⟨rfl,rfl,a.below⟩
  refine Z1 ?_;exact ⟨rfl,_,hm,a,i,d⟩
 refine Yo<|Zz d ?_;refine go ?_;refine Z7 hm (fun ca hm=>go ?_) fun ca hm=>go ?_
 ·refine Zv ⟨_,_,rfl⟩ ?_;refine go ?_;refine lW ((d.atN).nth (q:=3) rfl)<|go ?_;refine lV (.bool (!decide (b.2.2.2.1=2))) (Zx (congrArg Value.bool ca) rfl)<|Yg rfl ?_;refine Z7 hm (fun cb hm=>go ?_) fun cb hm=>go ?_
  ·refine Zv ⟨_,_,rfl⟩ ?_;refine go ?_;refine lW ((d.atN).nth (q:=3) rfl)<|go ?_;refine lV (.bool (!decide (b.2.2.2.1=3))) (Zx (congrArg Value.bool cb) rfl)<|Yg rfl ?_;refine Z7 hm (fun cc hm=>go ?_) fun cc hm=>go ?_
   ·refine lV (.bool true) (Zx (congrArg Value.bool cc) rfl)<|Zj ?_;exact ⟨rfl,_,_,hm,a,i,d,rfl⟩
   refine lV _ (Xx isAgg50 sizeOf50 d)<|go ?_;obtain ⟨di,dj,hm⟩:=bZ hm;refine Zh (Zi0 dj (ak.ks a) (al.ks a) (T.ks a)) ?_;rintro _ dl ⟨rfl,a7⟩;refine ⟨_,rfl,?_⟩;replace a7:Zg W ba W dl:=.of_below a7;refine go ?_;refine lV (.bool (!di)) (Z0 (congrArg Value.bool cc) rfl)<|Zj ?_;replace i:=i.gr a7;replace d:=d.gr a7;replace a:=a.grow a7;exact ⟨rfl,_,_,hm,a,i,d,rfl⟩
  refine lV (.bool false) (Z0 (congrArg Value.bool cb) rfl)<|Yg rfl<|lG 38 rfl rfl<|lV _ (Xx isAgg50 sizeOf50 d)<|lG 38 rfl rfl ?_;obtain ⟨dm,dn,hm⟩:=bZ hm;refine Zh (Zi0 dn (ak.ks a) (al.ks a) (T.ks a)) ?_;rintro _ dp ⟨rfl,a8⟩;refine ⟨_,rfl,?_⟩;replace a8:Zg W ba W dp:=.of_below a8;refine lG 38 rfl rfl<|go ?_;refine lV (.bool (!dm)) (Z0 rfl rfl)<|Zj ?_;replace i:=i.gr a8;replace d:=d.gr a8;replace a:=a.grow a8;exact ⟨rfl,_,_,hm,a,i,d,rfl⟩
 refine lV (.bool false) (Z0 (congrArg Value.bool ca) rfl)<|Yg rfl<|lP 33 rfl rfl<|lP 33 rfl rfl<|lP 33 rfl rfl<|lV (.bool false) (Z0 rfl rfl)<|Yg rfl<|lG 38 rfl rfl<|lV _ (Xx isAgg50 sizeOf50 d)<|lG 38 rfl rfl ?_;obtain ⟨dq,dr,hm⟩:=bZ hm;refine Zh (Zi0 dr (ak.ks a) (al.ks a) (T.ks a)) ?_;rintro _ ds ⟨rfl,a9⟩;refine ⟨_,rfl,?_⟩;replace a9:Zg W ba W ds:=.of_below a9;refine lG 38 rfl rfl<|go ?_;refine lV (.bool (!dq)) (Z0 rfl rfl)<|Zj ?_;replace i:=i.gr a9;replace d:=d.gr a9;replace a:=a.grow a9;exact ⟨rfl,_,_,hm,a,i,d,rfl⟩
abbrev Vb:=Int×List (ByteArray×ByteArray)×List (ByteArray×ByteArray)×Int×List ByteArray×(Bool×Bool)
structure Zc5 (q:Vb):Prop where
 a:q.2.1.length≤1048576
 g:q.2.2.1.length≤1048576
 o:q.2.2.2.2.1.length≤1048576
 k:-128≤q.2.2.2.1∧q.2.2.2.1≤127
structure S9 (names:List ByteArray) (es:List (ByteArray×Int)) (k:Nat):Prop where
 i:∀ (i:Nat) (h:i<names.length),i<k→Xg es names[i]=some (i:Int)
 o:∀ x,x ∉ names.take k→Xg es x=none
structure V9 (S:List ByteArray) (es:List (ByteArray×Int)):Prop where
 g:∀ x,Xg es x=if x ∈ S then some 1 else none
 l:es.length=S.length
theorem V9.nil:V9 [] []:=⟨fun x=>by simp [Xg],rfl⟩
theorem V9.put {S:List ByteArray} {es:List (ByteArray×Int)} (h:V9 S es) {x:ByteArray} (hx:x ∉ S):V9 (S++[x]) (Yx es x 1):=by
 refine ⟨fun y=>?_,?_⟩
 ·rw [Zh4,h.g y]
  by_cases hy:y=x
  ·subst hy;rw [if_pos rfl,if_pos (by simp)]
  ·rw [if_neg hy]
   by_cases hs:y ∈ S
   ·rw [if_pos hs,if_pos (by simp [hs])]
   ·rw [if_neg hs,if_neg (by simp [hs,hy])]
 ·have:¬ (Xg es x).isSome=true:=by rw [h.g x,if_neg hx];decide
  rw [Yx,if_neg this,List.length_append,h.l];simp
theorem Z1x {l:List ByteArray} (h:∀ i,(hi:i<l.length)→l[i] ∉ l.take i):l.Nodup:=by
 have:∀ k,k≤l.length→(l.take k).Nodup:=fun k=>by
  induction k with
  | zero=>intro _;simp
  | succ k ih=>intro hk;exact (Z1y l k (by omega)).2 ⟨ih (by omega),h k (by omega)⟩
 have h2:=this l.length (Nat.le_refl _)
 rwa [List.take_length] at h2
theorem Zfq.nodup {N:Nat} {n:Wn} (h:Zfq N n):n.2.1.Nodup:=by
 refine Z1x fun i hi=>?_
 have:=(Zn9 _ 0 h.nm i (by omega) (by omega)).2.2
 rwa [Vy hi] at this
theorem Zsq {l:List ByteArray} (h:l.Nodup) {i j:Nat} (hi:i<l.length) (hj:j<l.length) (e:l[i]=l[j]):i=j:=by
 have hp:=List.pairwise_iff_getElem.1 h
 rcases Nat.lt_trichotomy i j with h1 | h1 | h1
 ·exact absurd e (hp i j hi hj h1)
 ·exact h1
 ·exact absurd e.symm (hp j i hj hi h1)
def Ug (q:Vb):Int×(Nat×List (ByteArray×ByteArray))×(Nat×List (ByteArray×ByteArray))×Int×(Nat×List ByteArray)×(Bool×Bool):=
 (q.1,lnd [(⟨#[35,49]⟩,⟨#[]⟩),(⟨#[35,50]⟩,⟨#[]⟩)] q.2.1,lnd [(⟨#[35,51]⟩,⟨#[]⟩),(⟨#[35,52]⟩,⟨#[]⟩)] q.2.2.1,q.2.2.2.1,lnd [⟨#[35,53]⟩,⟨#[35,54]⟩] q.2.2.2.2.1,q.2.2.2.2.2)
theorem Z3t {q:Vb} (hq:Zc5 q):Zd4 q=some (Ug q):=by
 have h1:=hq.a;have h2:=hq.g;have h3:=hq.o
 rw [Zd4]
 repeat rw [Xd (by simp only [List.length_append,List.length_cons,List.length_nil,maxLen];omega)]
 simp only [Int.toNat_natCast,List.nil_append]
 rfl
theorem Zy3 {N W:Nat} {n:Wn} (hs:Zc4 n W) (hr:Ya N (8 * W+40)) (hN:2000000<N):∃ e,Tp N n=some e∧(e=0→Zfq N n):=by
 have hnm:=hs.nm
 rw [Tp]
 by_cases hv:n.2.2.1.length=n.2.1.length
 ·by_cases hp:n.2.2.2.1.length=n.2.1.length
  ·by_cases ht:n.2.2.2.2.length=n.2.1.length
   ·rw [if_neg (by rw [decide_eq_true (by omega)];decide),if_neg (by rw [decide_eq_true (by omega)];decide),show (!decide ((n.2.2.2.2.length:Int)=(n.2.1.length:Int)))=false by rw [decide_eq_true (by omega)];rfl,Qm,if_neg (show ¬ (false=true) by decide)]
    by_cases hk:1024<n.2.1.length
    ·rw [if_pos (decide_eq_true (by omega))]
     exact ⟨4,rfl,fun h=>by cases h⟩
    ·rw [if_neg (by rw [decide_eq_false (by omega)];decide)]
     have nn:Zee (n.1,n.2.1,n.2.2.1,n.2.2.2.1,n.2.2.2.2)=some (Q2 n.2.1 n.2.2.1 n.2.1.length 0):=Z1r n hv
     rw [nn,Option.bind_some]
     by_cases hnms:Q2 n.2.1 n.2.2.1 n.2.1.length 0=0
     ·rw [if_neg (by rw [decide_eq_true hnms];decide)]
      have hne:∀ l ∈ n.2.2.1,l≠[]:=fun l hl=>by
       obtain ⟨i,hi,rfl⟩:=List.mem_iff_getElem.1 hl
       have:=(Zn9 _ 0 hnms i (by omega) (by omega)).1
       rw [Vy hi] at this;exact this
      have fin:∀ e,Qe N n.2.2.2.1=some e→e≠0→∃ e,((Qe N n.2.2.2.1).bind fun r_17=>if (!decide (r_17=0))=true then some r_17 else Qn N n n.2.2.2.2 0)=some e∧(e=0→Zfq N n):=fun e h1 h3=>by
       rw [h1,Option.bind_some,if_pos (by rw [decide_eq_false h3];decide)]
       exact ⟨e,rfl,fun h=>absurd h h3⟩
      rcases Zo4 hs.pn hN with ⟨e,D,R,h3⟩ | ⟨_,_,l,_,_,_,_,D,R⟩ | ⟨hI,hT,l,ho,hok,hmx,hle,D,R⟩
      ·exact fin e (by rw [Qe,D];rfl) (by rcases h3 with h | h <;> omega)
      ·exact fin 42 (by rw [Qe,D];rfl) (by decide)
      ·have D':Qe N n.2.2.2.1=some 0:=by rw [Qe,D];rfl
       have he:Zc3 n:=⟨hv,hp,ht,hI,hne⟩
       have ms:=Zsg (N:=N) hs he n.2.2.2.2 0 (by simp) (by omega)
       rw [D',Option.bind_some,if_neg (by decide),ms,ht]
       by_cases hsh:Q6 n.2.2.1 n.2.2.2.1 n.2.2.2.2 n.2.1.length 0=0
       ·have me:=Zr6 (N:=N) (n:=n) (W:=W) (hr.mono (by omega)) n.2.2.2.2 (fun t h=>⟨hs.tl t h,hs.tq t h,hs.lim t h⟩)
        rw [if_pos hsh,me]
        by_cases hen:Zja n.2.2.2.2=true
        ·rw [if_pos hen]
         exact ⟨45,rfl,fun h=>by cases h⟩
        ·have m6:=Zsh (N:=N) hs he hsh hr (by omega) n.2.2.2.2 0 (by simp) (by omega)
         rw [if_neg hen,m6,ht]
         exact ⟨_,rfl,fun h=>⟨he,by omega,hnms,hsh,Bool.eq_false_iff.2 hen,h,hT,l,D,ho,R,hok,hle⟩⟩
       ·rw [if_neg hsh]
        exact ⟨_,rfl,fun h=>absurd h hsh⟩
     ·rw [if_pos (by rw [decide_eq_false hnms];decide)]
      exact ⟨_,rfl,fun h=>absurd h hnms⟩
   ·rw [if_neg (by rw [decide_eq_true (by omega)];decide),if_neg (by rw [decide_eq_true (by omega)];decide),decide_eq_false (by omega),Qm,if_pos (by decide)]
    exact ⟨60,rfl,fun h=>by cases h⟩
  ·rw [if_neg (by rw [decide_eq_true (by omega)];decide),if_pos (by rw [decide_eq_false (by omega)];decide),Qm,if_pos rfl]
   exact ⟨60,rfl,fun h=>by cases h⟩
 ·rw [if_pos (by rw [decide_eq_false (by omega)];decide),Qm,if_pos rfl]
  exact ⟨60,rfl,fun h=>by cases h⟩
theorem Zp7 (col:Zd) (w0:World) (a:ByteArray) (b:ByteArray) (r:Bool) (hm:Zj4 a b=some r):
    Calls prog 107 #[.string a,.string b] w0 (fun e w'=>e= .returned ((.bool r))∧Below w0.heap.size w0 w'):=
  Z2b col w0 a b r hm
theorem Zmv (col:Zd) (w0:World) (a:ByteArray) (b:Int) (r:Int) (hm:Zgi a b=some r):
    Calls prog 89 #[.string a,.int .u8 b] w0 (fun e w'=>e= .returned ((.int .i64 r))∧Below w0.heap.size w0 w'):=
  Z0u col w0 a b r hm
def Zjw (kk_L1:(ByteArray→Int→Int→Int→Option (ByteArray×Int×Int×Int))) (a:ByteArray) (b:Int) (c:Int) (d:Int):Option (ByteArray×Int×Int×Int):=
  kk_L1 a b c d
def Zbv (d:Int):List Int→ByteArray→Int→Int→Int→Option (ByteArray×Int×Int×Int)
  | [],a,b,c,e=>some (a,i64.wrap (b+d),c,e)
  | g :: f,a,b,c,e=>if (decide (g=10))=true then (Zjw (Zbv d f) a b (i64.wrap (c+1)) 1) else (Zjw (Zbv d f) a b c (i64.wrap (e+1)))
termination_by structural x=>x
def Zd8 (a:(ByteArray×Int×Int×Int)) (b:Int):Option (ByteArray×Int×Int×Int):=
  Zr ((0:Int)≤a.2.1∧a.2.1≤(i64.wrap (a.2.1+b))∧(i64.wrap (a.2.1+b))≤(a.1.size:Int)) (Zr ((a.1.extract (Int.toNat a.2.1) (Int.toNat (i64.wrap (a.2.1+b)))).size≤maxLen) (Zbv b (Wg (a.1.extract (Int.toNat a.2.1) (Int.toNat (i64.wrap (a.2.1+b))))) a.1 a.2.1 a.2.2.1 a.2.2.2))
theorem Ziz {g0:Nat} {col:Zd} {w0:World} {a:(ByteArray×Int×Int×Int)} {c:Int} {r:(ByteArray×Int×Int×Int)} (qc0:Nat) (hm:Zd8 a c=some r) (hd:Yk [qc0]=true) (hb0:Ze 137 qc0 col w0 g0 #[.string a.1,.int .i64 a.2.1,.int .i64 a.2.2.1,.int .i64 a.2.2.2]):
    Calls prog 90 #[.pointer (some ⟨g0,0,none⟩),.int .i64 c] w0 (fun e w'=>∃ (col':Zd),e= .returned (.tuple #[])∧Zs (pS [qc0]) col w0 col' w'∧Ze 137 qc0 col' w' g0 #[.string r.1,.int .i64 r.2.1,.int .i64 r.2.2.1,.int .i64 r.2.2.2]):=by
 refine Zae (m:=56) (args:=[.pointer (some ⟨g0,0,none⟩),.int .i64 c]) func90 rfl rfl rfl rfl ?_;rw [Zd8.eq_1] at hm;have b:=St.startL (l:=[qc0]) rfl col w0;replace hb0:=hb0.startL (Yd hd 0 rfl) (Yc hd 0 rfl);refine go ?_;refine Vl (col:=(Zy [qc0] col)) [(0,1),(1,1),(2,1),(3,0),(4,1),(5,1),(6,1),(7,0),(8,1),(9,1),(10,1),(11,0),(12,1),(13,1),(14,1),(17,1),(15,3),(16,1)] (by kernel_rfl) (by kernel_rfl)<|xu rfl rfl (fun _=>Up rfl) ?_;refine xu (v:=(.pointer (some ⟨g0,0,none⟩))) rfl rfl (fun _=>Z9 rfl) ?_;refine xF ⟨_,_,rfl⟩ ?_;refine xW (fun _ i=>((hb0.atN).nth (q:=0) rfl).gr (i.bl (Zy [qc0] col))) ?_;refine xu rfl rfl (fun _=>Up rfl) ?_;refine xu (v:=(.pointer (some ⟨g0,0,none⟩))) rfl rfl (fun _=>Z9 rfl) ?_;refine xF ⟨_,_,rfl⟩ ?_;refine xW (fun _ i=>((hb0.atN).nth (q:=1) rfl).gr (i.bl (Zy [qc0] col))) ?_;refine xu rfl rfl (fun _=>Up rfl) ?_;refine xu (v:=(.pointer (some ⟨g0,0,none⟩))) rfl rfl (fun _=>Z9 rfl) ?_;refine xF ⟨_,_,rfl⟩ ?_;refine xW (fun _ i=>((hb0.atN).nth (q:=1) rfl).gr (i.bl (Zy [qc0] col))) ?_;refine xu rfl rfl (fun _=>Ve rfl) ?_;refine xu rfl rfl (fun _=>T0 _ _ rfl rfl) ?_;obtain ⟨T,hm⟩:=Zt hm;refine xu (v:=(.string (a.1.extract (Int.toNat a.2.1) (Int.toNat (i64.wrap (a.2.1+c)))))) rfl rfl (fun _=>Zt5 underlying9 rfl rfl rfl T) ?_;refine xu rfl rfl (fun _=>Ve rfl) ?_;refine xe rfl rfl ?_;intro ah hC0;have i:=hC0.bl (Zy [qc0] col);obtain ⟨U,hm⟩:=Zt hm;refine Z00 (col:=(Zy [qc0] col)) (s:=a.1.extract (Int.toNat a.2.1) (Int.toNat (i64.wrap (a.2.1+c)))) underlying9 underlying80 underlying5 rfl rfl U ?_;intro M N ai O D d;refine Zj<|Ww O hC0 D<|xu rfl rfl (fun _=>Zcv underlying80 rfl) ?_;refine W6 ?_;replace hb0:=(hb0.gr i).gr D;replace b:=(b.grow i).grow D;intro aj i;replace i:=i.bl O;refine S8 ?_;replace d:=d.gr i;replace hb0:=hb0.gr i;replace b:=b.grow i;refine Z6 [0,1,21,22,1000000] (fun n f A=>∃ j p k o t w x,n=x.length∧(Wg (a.1.extract (Int.toNat a.2.1) (Int.toNat (i64.wrap (a.2.1+c))))).drop w=x∧Zbv c x p k o t=some r∧St w0 (Zy [qc0] col) j A∧Ze 137 440 j A g0 #[.string p,.int .i64 k,.int .i64 o,.int .i64 t]∧Sl (Za.int .u8) j A M N (Wg (a.1.extract (Int.toNat a.2.1) (Int.toNat (i64.wrap (a.2.1+c)))))∧[23].map f=[.int .i64 w]) (Wg (a.1.extract (Int.toNat a.2.1) (Int.toNat (i64.wrap (a.2.1+c))))).length ⟨_,_,_,_,_,0,_,rfl,rfl,hm,b,hb0,d,rfl⟩ ?_;clear hm;intro n f A V
 obtain ⟨j,p,k,o,t,w,x,hn,hl,hm,b,hb0,d,hs⟩:=V;subst hn;refine .lL [23] hs ?_
 cases x with
 | nil=>
  have hk:¬ ((w:Int)<((Wg (a.1.extract (Int.toNat a.2.1) (Int.toNat (i64.wrap (a.2.1+c))))).length:Int)):=by have:=List.drop_eq_nil_iff.1 hl;omega
  have hkb:=decide_eq_false hk;rw [Zbv.eq_1] at hm;refine go ?_;refine Yh (congrArg Value.bool hkb)<|go ?_;refine lV (.pointer (some ⟨g0,0,none⟩)) (Z9 rfl)<|Zz hb0 ?_;refine go ?_;refine lV (.pointer (some ⟨g0,0,none⟩)) (Z9 rfl)<|Zv ⟨_,_,rfl⟩ ?_;refine Xj (off:=1) (v:=(.int .i64 (i64.wrap (k+c)))) hb0 sizeOf3 rfl rfl (by intro u hu;simp only [Value.cells,List.mem_cons,List.not_mem_nil,or_false] at hu;subst hu;rfl) rfl rfl ?_;intro W X Y E;replace E:Ze 137 440 j W g0 #[.string p,.int .i64 (i64.wrap (k+c)),.int .i64 o,.int .i64 t]:=E;refine Zj ?_;cases hm;replace b:=b.kp X Y;exact ⟨rfl,X1 w0.heap.size [qc0] col j (fun n=>bif Nat.beq n 440 then qc0 else 0),rfl,b.finL rfl (fun n=>bif Nat.beq n 440 then qc0 else 0),b.finBoxL (g:=(fun n=>bif Nat.beq n 440 then qc0 else 0)) E (by decide) (by decide) rfl⟩
 | cons ak P=>
  obtain ⟨F,Z,aa⟩:=Yu hl;have hk:(w:Int)<((Wg (a.1.extract (Int.toNat a.2.1) (Int.toNat (i64.wrap (a.2.1+c))))).length:Int):=by omega
  have hkb:=decide_eq_true hk;rw [Zbv.eq_2] at hm;refine go ?_;refine X8 (congrArg Value.bool hkb)<|Z1<|Zo ?_;refine Wp.cutK [0,1,21,22,23,1000000] (fun f B=>∃ C G H I J,Zjw (Zbv c P) G H I J=some r∧St w0 (Zy [qc0] col) C B∧Ze 137 440 C B g0 #[.string G,.int .i64 H,.int .i64 I,.int .i64 J]∧Sl (Za.int .u8) C B M N (Wg (a.1.extract (Int.toNat a.2.1) (Int.toNat (i64.wrap (a.2.1+c)))))) ?_ ?_
  ·intro f B hJ;obtain ⟨C,G,H,I,J,hm,b,hb0,d⟩:=hJ;rw [Zjw.eq_1] at hm;refine go ?_;exact ⟨P.length,by simp,rfl,⟨_,_,_,_,_,_,_,rfl,Z,hm,b,hb0,d,(Y0 (congrArg (Value.int .i64) (Yw (Nat.lt_of_lt_of_le aa d.1.1))) rfl)⟩⟩
  refine go ?_;refine lI F (d.addr F)<|lW (d.atInt F) ?_;refine go ?_;refine lV (.pointer (some ⟨g0,0,none⟩)) (Z9 rfl)<|Zz hb0 ?_;refine go ?_;refine lV (.pointer (some ⟨g0,0,none⟩)) (Z9 rfl)<|Zv ⟨_,_,rfl⟩ ?_;refine Xj (off:=3) (v:=(.int .i64 (i64.wrap (t+1)))) hb0 sizeOf3 rfl rfl (by intro u hu;simp only [Value.cells,List.mem_cons,List.not_mem_nil,or_false] at hu;subst hu;rfl) rfl rfl ?_;intro ab Q ac y;replace y:Ze 137 440 j ab g0 #[.string p,.int .i64 k,.int .i64 o,.int .i64 (i64.wrap (t+1))]:=y;refine go ?_;replace d:=d.kp Q;replace b:=b.kp Q ac;refine Zm hm (fun hb hm=>go ?_) fun hb hm=>?_
  ·refine lV (.pointer (some ⟨g0,0,none⟩)) (Z9 rfl)<|Zz y ?_;refine go ?_;refine lV (.pointer (some ⟨g0,0,none⟩)) (Z9 rfl)<|Zv ⟨_,_,rfl⟩ ?_;refine Xj (off:=2) (v:=(.int .i64 (i64.wrap (o+1)))) y sizeOf3 rfl rfl (by intro u hu;simp only [Value.cells,List.mem_cons,List.not_mem_nil,or_false] at hu;subst hu;rfl) rfl rfl ?_;intro ad R ae K;replace K:Ze 137 440 j ad g0 #[.string p,.int .i64 k,.int .i64 (i64.wrap (o+1)),.int .i64 (i64.wrap (t+1))]:=K;refine lV (.pointer (some ⟨g0,0,none⟩)) (Z9 rfl)<|Zv ⟨_,_,rfl⟩ ?_;refine Xj (off:=3) (v:=(.int .i64 1)) K sizeOf3 rfl rfl (by intro u hu;simp only [Value.cells,List.mem_cons,List.not_mem_nil,or_false] at hu;subst hu;rfl) rfl rfl ?_;intro af S ag L;replace L:Ze 137 440 j af g0 #[.string p,.int .i64 k,.int .i64 (i64.wrap (o+1)),.int .i64 1]:=L;refine Zj ?_;replace d:=(d.kp R).kp S;replace b:=(b.kp R ae).kp S ag;exact ⟨rfl,_,_,_,_,1,hm,b,L,d⟩
  refine Z1 ?_;exact ⟨rfl,_,_,_,_,_,hm,b,y,d⟩
theorem Zyt (col:Zd) (w0:World) (a:ByteArray) (b:ByteArray) (hgl:Gl (.iface 141 (.agg #[.pointer (some ⟨4,24,none⟩)])) col w0) (r:Int) (hm:Znh a b=some r):
    Calls prog 108 #[.string a,.string b] w0 (fun e w'=>e= .returned ((.int .i64 r))∧Below w0.heap.size w0 w'):=
  Z0t col w0 a b hgl r hm
def Zjv (b:ByteArray) (c:Int) (d:Int) (e:Int) (kk_L1:(ByteArray→Int→Int→Int→Option (Bool×(ByteArray×Int×Int×Int)))) (f:Int):Option (Bool×(ByteArray×Int×Int×Int)):=
  (Zd8 (b,c,d,e) f).bind fun a=>kk_L1 a.1 a.2.1 a.2.2.1 a.2.2.2
def Ql (N:Nat):Nat→ByteArray→Int→Int→Int→Option (Bool×(ByteArray×Int×Int×Int))
  | 0,_,_,_,_=>none
  | e+1,a,b,c,d=>Zr ((0:Int)≤b∧b≤(a.size:Int)∧(a.size:Int)≤(a.size:Int)) (if (decide ((a.extract (Int.toNat b) (Int.toNat (a.size:Int)))=(⟨#[]⟩)))=true then (some (true,(a,b,c,d))) else ((Zj4 (a.extract (Int.toNat b) (Int.toNat (a.size:Int))) (⟨#[47,47]⟩)).bind fun k=>if k=true then ((Zgi (a.extract (Int.toNat b) (Int.toNat (a.size:Int))) 10).bind fun i=>if (decide (i<0))=true then (Zjv a b c d (Ql N e) ((a.extract (Int.toNat b) (Int.toNat (a.size:Int))).size:Int)) else (Zjv a b c d (Ql N e) i)) else ((Zj4 (a.extract (Int.toNat b) (Int.toNat (a.size:Int))) (⟨#[47,42]⟩)).bind fun l=>if l=true then (Zr ((0:Int)≤2∧2≤((a.extract (Int.toNat b) (Int.toNat (a.size:Int))).size:Int)∧((a.extract (Int.toNat b) (Int.toNat (a.size:Int))).size:Int)≤((a.extract (Int.toNat b) (Int.toNat (a.size:Int))).size:Int)) ((Znh ((a.extract (Int.toNat b) (Int.toNat (a.size:Int))).extract (Int.toNat 2) (Int.toNat ((a.extract (Int.toNat b) (Int.toNat (a.size:Int))).size:Int))) (⟨#[42,47]⟩)).bind fun j=>if (decide (j<0))=true then (some (false,(a,b,c,d))) else ((Zd8 (a,b,c,d) (i64.wrap (j+4))).bind fun f=>(Ql N e) f.1 f.2.1 f.2.2.1 f.2.2.2))) else ((W8 (a.extract (Int.toNat b) (Int.toNat (a.size:Int))) 0).bind fun m=>(Zgi (⟨#[32,9,10,13]⟩) m).bind fun n=>if (decide (0≤n))=true then ((Zd8 (a,b,c,d) 1).bind fun g=>(Ql N e) g.1 g.2.1 g.2.2.1 g.2.2.2) else (some (true,(a,b,c,d)))))))
termination_by structural x=>x
def Znr (N:Nat) (a:(ByteArray×Int×Int×Int)):Option (Bool×(ByteArray×Int×Int×Int)):=
  Ql N N a.1 a.2.1 a.2.2.1 a.2.2.2
theorem Zxm {N g0:Nat} {col:Zd} {w0:World} {k:(ByteArray×Int×Int×Int)} {r:(Bool×(ByteArray×Int×Int×Int))} (qc0:Nat) (hm:Znr N k=some r) (hd:Yk [qc0]=true) (hb0:Ze 137 qc0 col w0 g0 #[.string k.1,.int .i64 k.2.1,.int .i64 k.2.2.1,.int .i64 k.2.2.2]) (hgl:Gl (.iface 141 (.agg #[.pointer (some ⟨4,24,none⟩)])) col w0):
    Calls prog 83 #[.pointer (some ⟨g0,0,none⟩)] w0 (fun e w'=>∃ (col':Zd),e= .returned ((.bool r.1))∧Zs (pS [qc0]) col w0 col' w'∧Ze 137 qc0 col' w' g0 #[.string r.2.1,.int .i64 r.2.2.1,.int .i64 r.2.2.2.1,.int .i64 r.2.2.2.2]):=by
 refine Z5 2 (m:=49) func83 rfl rfl rfl rfl rfl ?_;rw [Znr.eq_1] at hm;have a:=St.startL (l:=[qc0]) rfl col w0;replace hb0:=hb0.startL (Yd hd 0 rfl) (Yc hd 0 rfl);refine go ?_;replace hgl:=hgl.keep (Zl.startL [qc0] col w0);refine Z6 [0,1000000] (fun n f A=>∃ b c d o p j,j=n∧Ql N j c d o p=some r∧St w0 (Zy [qc0] col) b A∧Ze 137 440 b A g0 #[.string c,.int .i64 d,.int .i64 o,.int .i64 p]∧Gl (.iface 141 (.agg #[.pointer (some ⟨4,24,none⟩)])) b A) N ⟨_,_,_,_,_,_,rfl,hm,a,hb0,hgl⟩ ?_;clear hm;intro n f A K;obtain ⟨b,c,d,o,p,j,hn,hm,a,hb0,hgl⟩:=K;subst hn
 cases j with
 | zero=>rw [Ql.eq_1] at hm;cases hm
 | succ j=>
  rw [Ql.eq_2] at hm;refine go ?_;refine Vs (col:=b) (by kernel_rfl) (by kernel_rfl)<|go ?_;refine qv (v:=(.pointer (some ⟨g0,0,none⟩))) rfl (fun _ i=>Z9 rfl) ?_;refine qF ⟨_,_,rfl⟩ ?_;refine qW (fun _ i=>((hb0.atN).nth (q:=0) rfl).gr (i.bl b)) ?_;refine go ?_;refine qv (v:=(.pointer (some ⟨g0,0,none⟩))) rfl (fun _ i=>Z9 rfl) ?_;refine qF ⟨_,_,rfl⟩ ?_;refine qW (fun _ i=>((hb0.atN).nth (q:=1) rfl).gr (i.bl b)) ?_;obtain ⟨L,hm⟩:=Zt hm;refine qv (v:=(.string (c.extract (Int.toNat d) (Int.toNat (c.size:Int))))) rfl (fun _ i=>Zot underlying9 rfl rfl L) ?_;refine go ?_;refine Y3 ?_;intro M i;replace i:=i.bl b;refine go ?_;replace hgl:=hgl.gr i;replace hb0:=hb0.gr i;replace a:=a.grow i;refine Zm hm (fun hb hm=>go ?_) fun hb hm=>go ?_
  ·cases hm;exact ⟨rfl,X1 w0.heap.size [qc0] col b (fun n=>bif Nat.beq n 440 then qc0 else 0),rfl,a.finL rfl (fun n=>bif Nat.beq n 440 then qc0 else 0),a.finBoxL (g:=(fun n=>bif Nat.beq n 440 then qc0 else 0)) hb0 (by decide) (by decide) rfl⟩
  obtain ⟨O,P,hm⟩:=bZ hm;refine Zh (Zp7 b _ (c.extract (Int.toNat d) (Int.toNat (c.size:Int))) (⟨#[47,47]⟩) O P) ?_;rintro _ D ⟨rfl,t⟩;refine ⟨_,rfl,?_⟩;replace t:Zg b M b D:=.of_below t;refine go ?_;replace hgl:=hgl.gr t;replace hb0:=hb0.gr t;replace a:=a.grow t;refine Zm hm (fun hb hm=>go ?_) fun hb hm=>go ?_
  ·obtain ⟨Q,R,hm⟩:=bZ hm;refine Zh (Zmv b _ (c.extract (Int.toNat d) (Int.toNat (c.size:Int))) 10 Q R) ?_;rintro _ S ⟨rfl,u⟩;refine ⟨_,rfl,?_⟩;replace u:Zg b D b S:=.of_below u;refine Yq rfl<|Zj<|Zo ?_;replace hgl:=hgl.gr u;replace hb0:=hb0.gr u;replace a:=a.grow u;refine Wp.cutK [0,1000000] (fun f B=>∃ C E,Zjv c d o p (Ql N j) E=some r∧St w0 (Zy [qc0] col) C B∧Ze 137 440 C B g0 #[.string c,.int .i64 d,.int .i64 o,.int .i64 p]∧Gl (.iface 141 (.agg #[.pointer (some ⟨4,24,none⟩)])) C B∧[4].map f=[.int .i64 E]) ?_ ?_
   ·intro f B T;obtain ⟨C,E,hm,a,hb0,hgl,hs⟩:=T;rw [Zjv.eq_1] at hm;refine .lL [4] hs<|go ?_;obtain ⟨ak,U,hm⟩:=bZ hm;refine Zh (Ziz 440 U rfl hb0) ?_;rintro _ al ⟨am,rfl,G,V⟩;refine ⟨_,rfl,?_⟩;refine Zj ?_;replace hgl:=hgl.kpp G;replace a:=a.kpp G;exact ⟨j,by omega,rfl,⟨_,_,_,_,_,_,rfl,hm,a,V,hgl⟩⟩
   refine go ?_;refine Zm hm (fun hb hm=>go ?_) fun hb hm=>?_
   ·exact ⟨rfl,_,_,hm,a,hb0,hgl,rfl⟩
   refine Z1 ?_;exact ⟨rfl,_,_,hm,a,hb0,hgl,rfl⟩
  obtain ⟨W,X,hm⟩:=bZ hm;refine Zh (Zp7 b _ (c.extract (Int.toNat d) (Int.toNat (c.size:Int))) (⟨#[47,42]⟩) W X) ?_;rintro _ F ⟨rfl,w⟩;refine ⟨_,rfl,?_⟩;replace w:Zg b D b F:=.of_below w;refine go ?_;replace hgl:=hgl.gr w;replace hb0:=hb0.gr w;replace a:=a.grow w;refine Zm hm (fun hb hm=>go ?_) fun hb hm=>go ?_
  ·obtain ⟨Y,hm⟩:=Zt hm;refine lV (.string ((c.extract (Int.toNat d) (Int.toNat (c.size:Int))).extract (Int.toNat 2) (Int.toNat ((c.extract (Int.toNat d) (Int.toNat (c.size:Int))).size:Int)))) (Zot underlying9 rfl rfl Y) ?_;obtain ⟨Z,aa,hm⟩:=bZ hm;refine Zh (Zyt b _ ((c.extract (Int.toNat d) (Int.toNat (c.size:Int))).extract (Int.toNat 2) (Int.toNat ((c.extract (Int.toNat d) (Int.toNat (c.size:Int))).size:Int))) (⟨#[42,47]⟩) hgl Z aa) ?_;rintro _ ab ⟨rfl,x⟩;refine ⟨_,rfl,?_⟩;replace x:Zg b F b ab:=.of_below x;refine go ?_;replace hgl:=hgl.gr x;replace hb0:=hb0.gr x;replace a:=a.grow x;refine Zm hm (fun hb hm=>go ?_) fun hb hm=>go ?_
   ·cases hm;exact ⟨rfl,X1 w0.heap.size [qc0] col b (fun n=>bif Nat.beq n 440 then qc0 else 0),rfl,a.finL rfl (fun n=>bif Nat.beq n 440 then qc0 else 0),a.finBoxL (g:=(fun n=>bif Nat.beq n 440 then qc0 else 0)) hb0 (by decide) (by decide) rfl⟩
   obtain ⟨an,ac,hm⟩:=bZ hm;refine Zh (Ziz 440 ac rfl hb0) ?_;rintro _ ao ⟨ap,rfl,H,ad⟩;refine ⟨_,rfl,?_⟩;refine Zj ?_;replace hgl:=hgl.kpp H;replace a:=a.kpp H;exact ⟨j,by omega,rfl,⟨_,_,_,_,_,_,rfl,hm,a,ad,hgl⟩⟩
  obtain ⟨I,ae,hm⟩:=bZ hm;refine lV (.int .u8 I) (Vq (s:=(c.extract (Int.toNat d) (Int.toNat (c.size:Int)))) underlying9 rfl rfl ae) ?_;obtain ⟨af,ag,hm⟩:=bZ hm;refine Zh (Zmv b _ (⟨#[32,9,10,13]⟩) I af ag) ?_;rintro _ ah ⟨rfl,y⟩;refine ⟨_,rfl,?_⟩;replace y:Zg b F b ah:=.of_below y;refine go ?_;replace hgl:=hgl.gr y;replace hb0:=hb0.gr y;replace a:=a.grow y;refine Zm hm (fun hb hm=>go ?_) fun hb hm=>go ?_
  ·obtain ⟨aq,ai,hm⟩:=bZ hm;refine Zh (Ziz 440 ai rfl hb0) ?_;rintro _ ar ⟨au,rfl,J,aj⟩;refine ⟨_,rfl,?_⟩;refine Zj ?_;replace hgl:=hgl.kpp J;replace a:=a.kpp J;exact ⟨j,by omega,rfl,⟨_,_,_,_,_,_,rfl,hm,a,aj,hgl⟩⟩
  cases hm;exact ⟨rfl,X1 w0.heap.size [qc0] col b (fun n=>bif Nat.beq n 440 then qc0 else 0),rfl,a.finL rfl (fun n=>bif Nat.beq n 440 then qc0 else 0),a.finBoxL (g:=(fun n=>bif Nat.beq n 440 then qc0 else 0)) hb0 (by decide) (by decide) rfl⟩
theorem Zf1 (col:Zd) (w0:World) (qc2:Nat) (hqqc2:qc2≠0) (b:Int) (c:ByteArray) (g2:Nat) (a:(Int×ByteArray×Int×Int)) (hb2:Ze 63 qc2 col w0 g2 #[.int .i8 a.1,.string a.2.1,.int .i64 a.2.2.1,.int .i64 a.2.2.2]) (r:((Int×ByteArray×Int×Int)×(Option (Int×Int×Int×ByteArray)))) (hm:Zbs b c a=some r):
    Calls prog 84 #[.int .i64 b,.string c,.pointer (some ⟨g2,0,none⟩)] w0 (fun e w'=>∃ (col':Zd) (rv1:Value),e= .returned (.tuple #[(.agg #[.int .i8 r.1.1,.string r.1.2.1,.int .i64 r.1.2.2.1,.int .i64 r.1.2.2.2]),rv1])∧Zg col w0 col' w'∧Rd (Za.err 72 29 (Za.pair (Za.int .i64) (Za.pair (Za.int .i64) (Za.pair (Za.int .i64) Za.str)))) col' w' [rv1] r.2):=
  Zz5 col w0 qc2 hqqc2 b c g2 a hb2 r hm
def Znn:Option Bool:=
  some false
def Zgp (a:Bool):Option Bool:=
  if a=true then (some true) else Znn
def Zjq (b:Int) (a:Bool):Option Bool:=
  if a=true then (Zgp a) else (Zgp (decide (b=95)))
def Zjp (a:Int) (b:Bool):Option Bool:=
  if b=true then (Zgp b) else (if (decide (97≤a))=true then (Zjq a (decide (a≤122))) else (Zjq a false))
def Zd6 (a:Int):Option Bool:=
  if (decide (65≤a))=true then (Zjp a (decide (a≤90))) else (Zjp a false)
theorem Ziy {col:Zd} {w0:World} {c:Int} {r:Bool} (hm:Zd6 c=some r):
    Calls prog 70 #[.int .u8 c] w0 (fun e w'=>e= .returned ((.bool r))∧Below w0.heap.size w0 w'):=by
 refine Z5 2 (m:=18) func70 O O O O O ?_;rw [Zd6.eq_1] at hm;have a:=St.start col w0;refine Zo<|Yo<|Qc O<|Zj<|Zo ?_;refine Wp.cutK [1000000] (fun f l=>∃ n,Znn=some r∧St w0 (Zi col) n l) ?_ ?_
 ·intro f l b;obtain ⟨n,hm,a⟩:=b;rw [Znn.eq_1] at hm;refine go ?_;cases hm;exact ⟨O,O,a.below⟩
 refine S8<|Zo ?_;refine Wp.cutK [1000000] (fun f o=>∃ p d,Zgp d=some r∧St w0 (Zi col) p o∧[3].map f=[.bool d]) ?_ ?_
 ·intro f o b;obtain ⟨p,d,hm,a,hs⟩:=b;rw [Zgp.eq_1] at hm;refine .lL [3] hs ?_;refine Zm hm (fun hb hm=>go ?_) fun hb hm=>?_
  ·cases hm;exact ⟨O,O,a.below⟩
  refine Z1 ?_;exact ⟨O,_,hm,a⟩
 refine Zo ?_;refine Wp.cutK [0,1000000] (fun f q=>∃ s g,Zjp c g=some r∧St w0 (Zi col) s q∧[3].map f=[.bool g]) ?_ ?_
 ·intro f q b;obtain ⟨s,g,hm,a,hs⟩:=b;rw [Zjp.eq_1] at hm;refine .lL [3] hs ?_;refine Zm hm (fun hb hm=>?_) fun hb hm=>?_
  ·refine Z1 ?_;exact ⟨O,_,_,hm,a,O⟩
  refine Zo ?_;refine Wp.cutK [0,1000000] (fun f t=>∃ u i,Zjq c i=some r∧St w0 (Zi col) u t∧[3].map f=[.bool i]) ?_ ?_
  ·intro f t b;obtain ⟨u,i,hm,a,hs⟩:=b;rw [Zjq.eq_1] at hm;refine .lL [3] hs ?_;refine Zm hm (fun hb hm=>?_) fun hb hm=>go ?_
   ·refine Z1 ?_;exact ⟨O,_,_,hm,a,O⟩
   exact ⟨O,_,_,hm,a,O⟩
  refine go ?_;refine Z7 hm (fun j hm=>go ?_) fun j hm=>go ?_
  ·refine lV (.bool (decide (c≤122))) (Zx (congrArg Value.bool j) O)<|go ?_;exact ⟨O,_,_,hm,a,O⟩
  refine lV (.bool false) (Z0 (congrArg Value.bool j) O)<|go ?_;exact ⟨O,_,_,hm,a,O⟩
 refine go ?_;refine Z7 hm (fun k hm=>go ?_) fun k hm=>go ?_
 ·refine lV (.bool (decide (c≤90))) (Zx (congrArg Value.bool k) O)<|go ?_;exact ⟨O,_,_,hm,a,O⟩
 refine lV (.bool false) (Z0 (congrArg Value.bool k) O)<|go ?_;exact ⟨O,_,_,hm,a,O⟩
def Zjn (a:Bool):Option Bool:=
  some a
def Zgn (a:Int):Option Bool:=
  if (decide (48≤a))=true then (Zjn (decide (a≤57))) else (Zjn false)
theorem Zmj {col:Zd} {w0:World} {b:Int} {r:Bool} (hm:Zgn b=some r):
    Calls prog 85 #[.int .u8 b] w0 (fun e w'=>e= .returned ((.bool r))∧Below w0.heap.size w0 w'):=by
 refine Z5 2 (m:=9) func85 O O O O O ?_;rw [Zgn.eq_1] at hm;have a:=St.start col w0;refine Zo<|Yo<|Qc O<|Zj<|Zo ?_;refine Wp.cutK [1000000] (fun f g=>∃ i c,Zjn c=some r∧St w0 (Zi col) i g∧[2].map f=[.bool c]) ?_ ?_
 ·intro f g j;obtain ⟨i,c,hm,a,hs⟩:=j;rw [Zjn.eq_1] at hm;refine .lL [2] hs<|W0 ?_;cases hm;exact ⟨O,O,a.below⟩
 refine go ?_;refine Z7 hm (fun d hm=>go ?_) fun d hm=>go ?_
 ·refine lV (.bool (decide (b≤57))) (Zx (congrArg Value.bool d) O)<|go ?_;exact ⟨O,_,_,hm,a,O⟩
 refine lV (.bool false) (Z0 (congrArg Value.bool d) O)<|go ?_;exact ⟨O,_,_,hm,a,O⟩
def Zjo (a:Bool):Option Bool:=
  some a
def Znl (a:Int):Option Bool:=
  (Zd6 a).bind fun b=>if b=true then (Zjo true) else ((Zgn a).bind fun c=>Zjo c)
theorem Zxi {col:Zd} {w0:World} {i:Int} {r:Bool} (hm:Znl i=some r):
    Calls prog 72 #[.int .u8 i] w0 (fun e w'=>e= .returned ((.bool r))∧Below w0.heap.size w0 w'):=by
 refine Z5 2 (m:=9) func72 O O O O O ?_;rw [Znl.eq_1] at hm;have a:=St.start col w0;refine Zo<|Yo<|Qc O<|Zj<|Zo ?_;refine Wp.cutK [1000000] (fun f j=>∃ k b,Zjo b=some r∧St w0 (Zi col) k j∧[2].map f=[.bool b]) ?_ ?_
 ·intro f j n;obtain ⟨k,b,hm,a,hs⟩:=n;rw [Zjo.eq_1] at hm;refine .lL [2] hs<|W0 ?_;cases hm;exact ⟨O,O,a.below⟩
 refine go ?_;obtain ⟨t,o,hm⟩:=bZ hm;refine Zh (Ziy (col:=(Zi col)) o) ?_;rintro _ l ⟨rfl,c⟩;refine ⟨_,O,?_⟩;replace c:Zg (Zi col) w0 (Zi col) l:=.of_below c;refine Yg O ?_;replace a:=a.grow c;refine Z7 hm (fun d hm=>go ?_) fun d hm=>go ?_
 ·refine lV (.bool true) (Zx (congrArg Value.bool d) O)<|go ?_;exact ⟨O,_,_,hm,a,O⟩
 obtain ⟨p,q,hm⟩:=bZ hm;refine Zh (Zmj (col:=(Zi col)) q) ?_;rintro _ s ⟨rfl,g⟩;refine ⟨_,O,?_⟩;replace g:Zg (Zi col) l (Zi col) s:=.of_below g;refine lV (.bool p) (Z0 (congrArg Value.bool d) O)<|go ?_;replace a:=a.grow g;exact ⟨O,_,_,hm,a,O⟩
def Zjx (a:Int) (kk_L1:(Int→Option Int)) (b:Bool):Option Int:=
  if b=true then (kk_L1 (i64.wrap (a+1))) else (some a)
def Zbw (N:Nat) (a:ByteArray) (b:Int):Nat→Int→Option Int
  | 0,_=>none
  | d+1,c=>if (decide ((i64.wrap (b+c))<(a.size:Int)))=true then ((W8 a (i64.wrap (b+c))).bind fun e=>(Znl e).bind fun f=>Zjx c (Zbw N a b d) f) else (Zjx c (Zbw N a b d) false)
termination_by structural x=>x
def Zgv (N:Nat) (a:ByteArray) (b:Int):Option Int:=
  Zbw N a b N 0
theorem Zmk {N:Nat} {col:Zd} {w0:World} {c:ByteArray} {g r:Int} (hm:Zgv N c g=some r):
    Calls prog 71 #[.string c,.int .i64 g,(.func (.func 72) #[] #[])] w0 (fun e w'=>e= .returned ((.int .i64 r))∧Below w0.heap.size w0 w'):=by
 refine Z5 6 (m:=26) func71 O O O O O ?_;rw [Zgv.eq_1] at hm;have a:=St.start col w0;refine go ?_;refine Z6 [0,1,2,1000000] (fun n f j=>∃ d i b,b=n∧Zbw N c g b i=some r∧St w0 (Zi col) d j∧[7].map f=[.int .i64 i]) N ⟨_,0,_,O,hm,a,O⟩ ?_;clear hm;intro n f j t;obtain ⟨d,i,b,hn,hm,a,hs⟩:=t;subst hn;refine .lL [7] hs ?_
 cases b with
 | zero=>rw [Zbw.eq_1] at hm;cases hm
 | succ b=>
  rw [Zbw.eq_2] at hm;refine Zo<|Zo ?_;refine Wp.cutK [0,1,2,7,1000000] (fun f p=>∃ q k,Zjx i (Zbw N c g b) k=some r∧St w0 (Zi col) q p∧[22].map f=[.bool k]) ?_ ?_
  ·intro f p u;obtain ⟨q,k,hm,a,hs⟩:=u;rw [Zjx.eq_1] at hm;refine .lL [22] hs ?_;refine Zm hm (fun hb hm=>go ?_) fun hb hm=>go ?_
   ·exact ⟨b,by omega,O,⟨_,_,_,O,hm,a,O⟩⟩
   cases hm;exact ⟨O,O,a.below⟩
  refine go ?_;refine Z7 hm (fun l hm=>go ?_) fun l hm=>go ?_
  ·refine lM (.func (.func 72) #[] #[])<|go ?_;obtain ⟨v,w,hm⟩:=bZ hm;refine lV (.int .u8 v) (Vq (s:=c) underlying9 O O w)<|go ?_;obtain ⟨x,y,hm⟩:=bZ hm;refine lc O O (Zok call72 O O) (Zxi (col:=d) y:) ?_;rintro _ A ⟨rfl,o⟩;refine ⟨_,O,?_⟩;replace o:Zg d j d A:=.of_below o;refine lV (.bool x) (Zx (congrArg Value.bool l) O)<|Zj ?_;replace a:=a.grow o;exact ⟨O,_,_,hm,a,O⟩
  refine lV (.bool false) (Z0 (congrArg Value.bool l) O)<|Zj ?_;exact ⟨O,_,_,hm,a,O⟩
def Zjy (a:Int) (kk_L1:(Int→Option Int)) (b:Bool):Option Int:=
  if b=true then (kk_L1 (i64.wrap (a+1))) else (some a)
def Zbx (N:Nat) (a:ByteArray) (b:Int):Nat→Int→Option Int
  | 0,_=>none
  | d+1,c=>if (decide ((i64.wrap (b+c))<(a.size:Int)))=true then ((W8 a (i64.wrap (b+c))).bind fun e=>(Zgn e).bind fun f=>Zjy c (Zbx N a b d) f) else (Zjy c (Zbx N a b d) false)
termination_by structural x=>x
def Zgw (N:Nat) (a:ByteArray) (b:Int):Option Int:=
  Zbx N a b N 0
theorem Zml {N:Nat} {col:Zd} {w0:World} {c:ByteArray} {g r:Int} (hm:Zgw N c g=some r):
    Calls prog 71 #[.string c,.int .i64 g,(.func (.func 85) #[] #[])] w0 (fun e w'=>e= .returned ((.int .i64 r))∧Below w0.heap.size w0 w'):=by
 refine Z5 6 (m:=26) func71 O O O O O ?_;rw [Zgw.eq_1] at hm;have a:=St.start col w0;refine go ?_;refine Z6 [0,1,2,1000000] (fun n f j=>∃ d i b,b=n∧Zbx N c g b i=some r∧St w0 (Zi col) d j∧[7].map f=[.int .i64 i]) N ⟨_,0,_,O,hm,a,O⟩ ?_;clear hm;intro n f j t;obtain ⟨d,i,b,hn,hm,a,hs⟩:=t;subst hn;refine .lL [7] hs ?_
 cases b with
 | zero=>rw [Zbx.eq_1] at hm;cases hm
 | succ b=>
  rw [Zbx.eq_2] at hm;refine Zo<|Zo ?_;refine Wp.cutK [0,1,2,7,1000000] (fun f p=>∃ q k,Zjy i (Zbx N c g b) k=some r∧St w0 (Zi col) q p∧[22].map f=[.bool k]) ?_ ?_
  ·intro f p u;obtain ⟨q,k,hm,a,hs⟩:=u;rw [Zjy.eq_1] at hm;refine .lL [22] hs ?_;refine Zm hm (fun hb hm=>go ?_) fun hb hm=>go ?_
   ·exact ⟨b,by omega,O,⟨_,_,_,O,hm,a,O⟩⟩
   cases hm;exact ⟨O,O,a.below⟩
  refine go ?_;refine Z7 hm (fun l hm=>go ?_) fun l hm=>go ?_
  ·refine lM (.func (.func 85) #[] #[])<|go ?_;obtain ⟨v,w,hm⟩:=bZ hm;refine lV (.int .u8 v) (Vq (s:=c) underlying9 O O w)<|go ?_;obtain ⟨x,y,hm⟩:=bZ hm;refine lc O O (Zok call85 O O) (Zmj (col:=d) y:) ?_;rintro _ A ⟨rfl,o⟩;refine ⟨_,O,?_⟩;replace o:Zg d j d A:=.of_below o;refine lV (.bool x) (Zx (congrArg Value.bool l) O)<|Zj ?_;replace a:=a.grow o;exact ⟨O,_,_,hm,a,O⟩
  refine lV (.bool false) (Z0 (congrArg Value.bool l) O)<|Zj ?_;exact ⟨O,_,_,hm,a,O⟩
def Zjs (a:Int):Option (Int×ByteArray):=
  some (a,⟨#[]⟩)
def Zjt (N:Nat) (c:ByteArray) (d:Int) (a:Int):Option (Int×ByteArray):=
  (Zgw N c a).bind fun b=>if (decide (0<b))=true then (Zr ((0:Int)≤a∧a≤(i64.wrap (a+b))∧(i64.wrap (a+b))≤(c.size:Int)) (some (i64.wrap (a+b),c.extract (Int.toNat a) (Int.toNat (i64.wrap (a+b)))))) else (Zjs d)
def Zgt (N:Nat) (b:ByteArray) (a:Int) (c:Bool):Option (Int×ByteArray):=
  if c=true then (Zjt N b a (i64.wrap ((i64.wrap (a+1))+1))) else (Zjt N b a (i64.wrap (a+1)))
def Zgs (N:Nat) (b:ByteArray) (a:Int) (c:Bool):Option (Int×ByteArray):=
  if c=true then (if (decide ((i64.wrap (a+1))<(b.size:Int)))=true then ((W8 b (i64.wrap (a+1))).bind fun d=>if (decide (d=43))=true then (Zgt N b a true) else ((W8 b (i64.wrap (a+1))).bind fun e=>Zgt N b a (decide (e=45)))) else (Zgt N b a false)) else (Zjs a)
def Zgr (N:Nat) (a:ByteArray) (b:Int):Option (Int×ByteArray):=
  if (decide (b<(a.size:Int)))=true then ((W8 a b).bind fun c=>if (decide (c=101))=true then (Zgs N a b true) else ((W8 a b).bind fun d=>Zgs N a b (decide (d=69)))) else (Zgs N a b false)
def Zju (N:Nat) (a:ByteArray) (b:Int) (d:Bool):Option (Int×ByteArray):=
  if d=true then ((Zgw N a (i64.wrap (b+1))).bind fun c=>if (decide (0<c))=true then (Zgr N a (i64.wrap (b+(i64.wrap (1+c))))) else (Zgr N a b)) else (Zgr N a b)
def Znq (N:Nat) (a:ByteArray):Option (Int×ByteArray):=
  (Zgw N a 0).bind fun b=>if (decide (b<(a.size:Int)))=true then ((W8 a b).bind fun c=>Zju N a b (decide (c=46))) else (Zju N a b false)
theorem Zxl {N:Nat} {col:Zd} {w0:World} {b:ByteArray} {r:(Int×ByteArray)} (hm:Znq N b=some r):
    Calls prog 86 #[.string b] w0 (fun e w'=>e= .returned (.tuple #[.int .i64 r.1,.string r.2])∧Below w0.heap.size w0 w'):=by
 refine Zbm 2 3 (m:=81) (args:=[.string b]) func86 rfl rfl rfl rfl rfl ?_;rw [Znq.eq_1] at hm;have a:=St.start col w0;refine go ?_;obtain ⟨P,Q,hm⟩:=bZ hm;refine Zh (Zml (col:=(Zi col)) Q) ?_;rintro _ R ⟨rfl,o⟩;refine ⟨_,rfl,?_⟩;replace o:Zg (Zi col) w0 (Zi col) R:=.of_below o;refine Yq rfl<|Zj<|Zo ?_;replace a:=a.grow o;refine Wp.cutK [0,1000000] (fun f F=>∃ G d,Zgr N b d=some r∧St w0 (Zi col) G F∧[4].map f=[.int .i64 d]) ?_ ?_
 ·intro f F c;obtain ⟨G,d,hm,a,hs⟩:=c;rw [Zgr.eq_1] at hm;refine .lL [4] hs<|Zo ?_;refine Wp.cutK [4,1000000] (fun f H=>∃ I,Zjs d=some r∧St w0 (Zi col) I H) ?_ ?_
  ·intro f H c;obtain ⟨I,hm,a⟩:=c;rw [Zjs.eq_1] at hm;refine go ?_;cases hm;exact ⟨rfl,rfl,a.below⟩
  refine Zo ?_;refine Wp.cutK [0,4,1000000] (fun f J=>∃ K p,Zgs N b d p=some r∧St w0 (Zi col) K J∧[45].map f=[.bool p]) ?_ ?_
  ·intro f J c;obtain ⟨K,p,hm,a,hs⟩:=c;rw [Zgs.eq_1] at hm;refine .lL [45] hs ?_;refine Zm hm (fun hb hm=>?_) fun hb hm=>?_
   ·refine Zo<|Yo<|Y1 rfl<|lV _ (T0 _ _ rfl rfl)<|Yq rfl<|Zj<|Zo ?_;refine Wp.cutK [0,4,1000000] (fun f q=>∃ g i,Zjt N b d i=some r∧St w0 (Zi col) g q∧[6].map f=[.int .i64 i]) ?_ ?_
    ·intro f q c;obtain ⟨g,i,hm,a,hs⟩:=c;rw [Zjt.eq_1] at hm;refine .lL [6] hs<|go ?_;obtain ⟨S,T,hm⟩:=bZ hm;refine Zh (Zml (col:=g) T) ?_;rintro _ U ⟨rfl,t⟩;refine ⟨_,rfl,?_⟩;replace t:Zg g q g U:=.of_below t;refine go ?_;replace a:=a.grow t;refine Zm hm (fun hb hm=>?_) fun hb hm=>?_
     ·refine Zo<|Vs (col:=g) (by kernel_rfl) (by kernel_rfl)<|go ?_;obtain ⟨V,hm⟩:=Zt hm;refine qv (v:=(.string (b.extract (Int.toNat i) (Int.toNat (i64.wrap (i+S)))))) rfl (fun _ k=>Zt5 underlying9 rfl rfl rfl V) ?_;refine go ?_;refine Y3 ?_;intro af k;replace k:=k.bl g;refine W0 ?_;cases hm;replace a:=a.grow k;exact ⟨rfl,rfl,a.below⟩
     refine Z1 ?_;exact ⟨rfl,_,hm,a⟩
    refine Zo ?_;refine Wp.cutK [0,4,6,1000000] (fun f L=>∃ M u,Zgt N b d u=some r∧St w0 (Zi col) M L∧[63].map f=[.bool u]) ?_ ?_
    ·intro f L c;obtain ⟨M,u,hm,a,hs⟩:=c;rw [Zgt.eq_1] at hm;refine .lL [63] hs ?_;refine Zm hm (fun hb hm=>go ?_) fun hb hm=>?_
     ·exact ⟨rfl,_,_,hm,a,rfl⟩
     refine Z1 ?_;exact ⟨rfl,_,_,hm,a,rfl⟩
    refine go ?_;refine Z7 hm (fun l hm=>go ?_) fun l hm=>go ?_
    ·obtain ⟨W,X,hm⟩:=bZ hm;refine lV (.int .u8 W) (Vq (s:=b) underlying9 rfl rfl X)<|go ?_;refine Z7 hm (fun w hm=>go ?_) fun w hm=>go ?_
     ·refine lV (.bool true) (Zx (congrArg Value.bool w) rfl)<|lV (.bool true) (Zx (congrArg Value.bool l) rfl)<|Zj ?_;exact ⟨rfl,_,_,hm,a,rfl⟩
     obtain ⟨x,Y,hm⟩:=bZ hm;refine lV (.int .u8 x) (Vq (s:=b) underlying9 rfl rfl Y)<|go ?_;refine lV (.bool (decide (x=45))) (Z0 (congrArg Value.bool w) rfl)<|lV (.bool (decide (x=45))) (Zx (congrArg Value.bool l) rfl)<|Zj ?_;exact ⟨rfl,_,_,hm,a,rfl⟩
    refine Wv 57 rfl rfl rfl rfl<|Wv 57 rfl rfl rfl rfl<|Wv 57 rfl rfl rfl rfl<|Wv 57 rfl rfl rfl rfl<|go ?_;refine lV (.bool false) (Z0 (congrArg Value.bool l) rfl)<|Zj ?_;exact ⟨rfl,_,_,hm,a,rfl⟩
   refine Z1 ?_;exact ⟨rfl,_,hm,a⟩
  refine go ?_;refine Z7 hm (fun n hm=>go ?_) fun n hm=>go ?_
  ·obtain ⟨Z,aa,hm⟩:=bZ hm;refine lV (.int .u8 Z) (Vq (s:=b) underlying9 rfl rfl aa)<|go ?_;refine Z7 hm (fun y hm=>go ?_) fun y hm=>go ?_
   ·refine lV (.bool true) (Zx (congrArg Value.bool y) rfl)<|lV (.bool true) (Zx (congrArg Value.bool n) rfl)<|Zj ?_;exact ⟨rfl,_,_,hm,a,rfl⟩
   obtain ⟨A,ab,hm⟩:=bZ hm;refine lV (.int .u8 A) (Vq (s:=b) underlying9 rfl rfl ab)<|go ?_;refine lV (.bool (decide (A=69))) (Z0 (congrArg Value.bool y) rfl)<|lV (.bool (decide (A=69))) (Zx (congrArg Value.bool n) rfl)<|Zj ?_;exact ⟨rfl,_,_,hm,a,rfl⟩
  refine Wv 39 rfl rfl rfl rfl<|Wv 39 rfl rfl rfl rfl<|Wv 39 rfl rfl rfl rfl<|Wv 39 rfl rfl rfl rfl<|go ?_;refine lV (.bool false) (Z0 (congrArg Value.bool n) rfl)<|Zj ?_;exact ⟨rfl,_,_,hm,a,rfl⟩
 refine Zo ?_;refine Wp.cutK [0,4,1000000] (fun f B=>∃ j C,Zju N b P C=some r∧St w0 (Zi col) j B∧[19].map f=[.bool C]) ?_ ?_
 ·intro f B c;obtain ⟨j,C,hm,a,hs⟩:=c;rw [Zju.eq_1] at hm;refine .lL [19] hs ?_;refine Zm hm (fun hb hm=>go ?_) fun hb hm=>?_
  ·obtain ⟨ag,ac,hm⟩:=bZ hm;refine Zh (Zml (col:=j) ac) ?_;rintro _ ad ⟨rfl,D⟩;refine ⟨_,rfl,?_⟩;replace D:Zg j B j ad:=.of_below D;refine go ?_;replace a:=a.grow D;refine Zm hm (fun hb hm=>go ?_) fun hb hm=>?_
   ·exact ⟨rfl,_,_,hm,a,rfl⟩
   refine Z1 ?_;exact ⟨rfl,_,_,hm,a,rfl⟩
  refine Z1 ?_;exact ⟨rfl,_,_,hm,a,rfl⟩
 refine go ?_;refine Z7 hm (fun E hm=>go ?_) fun E hm=>go ?_
 ·obtain ⟨O,ae,hm⟩:=bZ hm;refine lV (.int .u8 O) (Vq (s:=b) underlying9 rfl rfl ae)<|go ?_;refine lV (.bool (decide (O=46))) (Zx (congrArg Value.bool E) rfl)<|Zj ?_;exact ⟨rfl,_,_,hm,a,rfl⟩
 refine lV (.bool false) (Z0 (congrArg Value.bool E) rfl)<|Zj ?_;exact ⟨rfl,_,_,hm,a,rfl⟩
theorem Zyu (col:Zd) (w0:World) (a:ByteArray) (b:ByteArray) (r:ByteArray) (hm:Zky a b=some r):
    Calls prog 109 #[.string a,.string b] w0 (fun e w'=>e= .returned ((.string r))∧Below w0.heap.size w0 w'):=
  Z3r col w0 a b r hm
def Zgo (a:Bool):Option Bool:=
  some a
def Znm (b:ByteArray):Option Bool:=
  (Zky b (⟨#[48]⟩)).bind fun a=>if (decide (4<(a.size:Int)))=true then (Zgo true) else (if (decide ((a.size:Int)=4))=true then (Zgo (Zdd a (⟨#[49,48,48,48]⟩))) else (Zgo false))
theorem Zxj {col:Zd} {w0:World} {d:ByteArray} {r:Bool} (hm:Znm d=some r):
    Calls prog 87 #[.string d] w0 (fun e w'=>e= .returned ((.bool r))∧Below w0.heap.size w0 w'):=by
 refine Z5 2 (m:=17) func87 O O O O O ?_;rw [Znm.eq_1] at hm;have a:=St.start col w0;refine go ?_;obtain ⟨b,n,hm⟩:=bZ hm;refine Zh (Zyu (Zi col) _ d (⟨#[48]⟩) b n) ?_;rintro _ o ⟨rfl,g⟩;refine ⟨_,O,?_⟩;replace g:Zg (Zi col) w0 (Zi col) o:=.of_below g;refine Zjc O<|Zj<|Zo ?_;replace a:=a.grow g;refine Wp.cutK [1000000] (fun f k=>∃ l i,Zgo i=some r∧St w0 (Zi col) l k∧[2].map f=[.bool i]) ?_ ?_
 ·intro f k p;obtain ⟨l,i,hm,a,hs⟩:=p;rw [Zgo.eq_1] at hm;refine .lL [2] hs<|W0 ?_;cases hm;exact ⟨O,O,a.below⟩
 refine go ?_;refine Z7 hm (fun c hm=>go ?_) fun c hm=>go ?_
 ·refine Wv 12 O O O O<|Wv 12 O O O O<|go ?_;refine lV (.bool true) (Zx (congrArg Value.bool c) O)<|go ?_;exact ⟨O,_,_,hm,a,O⟩
 refine Z7 hm (fun j hm=>go ?_) fun j hm=>go ?_
 ·refine lV (.bool (Zdd b (⟨#[49,48,48,48]⟩))) (Z2s O O)<|go ?_;refine lV (.bool (Zdd b (⟨#[49,48,48,48]⟩))) (Zx (congrArg Value.bool j) O)<|lV (.bool (Zdd b (⟨#[49,48,48,48]⟩))) (Z0 (congrArg Value.bool c) O)<|go ?_;exact ⟨O,_,_,hm,a,O⟩
 refine lV (.bool false) (Z0 (congrArg Value.bool j) O)<|lV (.bool false) (Z0 (congrArg Value.bool c) O)<|go ?_;exact ⟨O,_,_,hm,a,O⟩
theorem Zyo (col:Zd) (w0:World) (qc0:Nat) (b:Nat) (hd:Yk [qc0,b]=true) (g0:Nat) (a:(Bool×List Int)) (c:Option Addr) (d:Nat) (f:Zc (Za.int .u8) 5 b col w0 c d a.2) (hb0:Ze 82 qc0 col w0 g0 #[.pointer (bif a.1 then some ⟨g0,0,none⟩ else none),.slice c a.2.length d]) (r:ByteArray) (hm:Zng a=some r):
    Calls prog 36 #[.pointer (some ⟨g0,0,none⟩)] w0 (fun e w'=>∃ (col':Zd),e= .returned ((.string r))∧Zs (pS [qc0,b]) col w0 col' w'):=
  Zww col w0 qc0 b hd g0 a c d f hb0 r hm
theorem Zyr (col:Zd) (w0:World) (qc0:Nat) (a:Nat) (hd:Yk [qc0,a]=true) (g0:Nat) (b:(Bool×List Int)) (c:Option Addr) (d:Nat) (f:Zc (Za.int .u8) 5 a col w0 c d b.2) (hb0:Ze 82 qc0 col w0 g0 #[.pointer (bif b.1 then some ⟨g0,0,none⟩ else none),.slice c b.2.length d]) (r:(Bool×List Int)) (hm:Zne b=some r):
    Calls prog 68 #[.pointer (some ⟨g0,0,none⟩)] w0 (fun e w'=>∃ (col':Zd) (oa1:Option Addr) (oc2:Nat),e= .returned (.tuple #[])∧Zs (pS [qc0,a]) col w0 col' w'∧Zc (Za.int .u8) 5 a col' w' oa1 oc2 r.2∧Ze 82 qc0 col' w' g0 #[.pointer (bif r.1 then some ⟨g0,0,none⟩ else none),.slice oa1 r.2.length oc2]):=
  Zwq col w0 qc0 a hd g0 b c d f hb0 r hm
theorem Zzx:Wa prog 5 1 1:=⟨Tryz.t5,_,rfl,rfl,rfl,rfl,rfl⟩
def Zkx (c:(Bool×List Int)) (b:Int):Option ((Option (Int×Int×Int×ByteArray))×(Bool×List Int)):=
  (Zne (c.1,c.2)).bind fun a=>Zr ((a.2.length+[b].length) * 1≤140737488355328∧a.2.length+[b].length≤maxLen) (some ((none:(Option (Int×Int×Int×ByteArray))),(a.1,a.2++[b])))
theorem Zp6 {g0 o:Nat} {p:Option Addr} {col:Zd} {w0:World} {b:(Bool×List Int)} {d:Int} {r:((Option (Int×Int×Int×ByteArray))×(Bool×List Int))} (qc0 a:Nat) (hm:Zkx b d=some r) (hd:Yk [qc0,a]=true) (q:Zc (Za.int .u8) 5 a col w0 p o b.2) (hb0:Ze 82 qc0 col w0 g0 #[.pointer (bif b.1 then some ⟨g0,0,none⟩ else none),.slice p b.2.length o]):
    Calls prog 110 #[.pointer (some ⟨g0,0,none⟩),.int .u8 d] w0 (fun e w'=>∃ (col':Zd) (rv1:Value) (oa3:Option Addr) (oc4:Nat),e= .returned (rv1)∧Zs (pS [qc0,a]) col w0 col' w'∧Rd (Za.err 72 29 (Za.pair (Za.int .i64) (Za.pair (Za.int .i64) (Za.pair (Za.int .i64) Za.str)))) col' w' [rv1] r.1∧Zc (Za.int .u8) 5 a col' w' oa3 oc4 r.2.2∧Ze 82 qc0 col' w' g0 #[.pointer (bif r.2.1 then some ⟨g0,0,none⟩ else none),.slice oa3 r.2.2.length oc4]):=by
 refine Z5 4 (m:=17) func110 rfl rfl rfl rfl rfl ?_;rw [Zkx.eq_1] at hm;have f:=St.startL (l:=[qc0,a]) rfl col w0;replace hb0:=hb0.startL (Yd hd 0 rfl) (Yc hd 0 rfl);replace q:=q.startL (Yd hd 1 rfl) (Yc hd 1 rfl);refine go ?_;refine lv (v:=.nilIface) rfl rfl (Y5 rfl)<|go ?_;obtain ⟨i,G,hm⟩:=bZ hm;refine Zh (Zyr (Zy [qc0,a] col) _ 440 441 rfl g0 (b.1,b.2) p o q hb0 i G) ?_;rintro _ P ⟨H,Q,R,rfl,I,s,j⟩;refine ⟨_,rfl,go ?_⟩;refine lV (.pointer (some ⟨g0,0,none⟩)) (Z9 rfl)<|Zz j<|Y1 rfl<|U8 (col:=H) [d] 1 ?_;intro S J K t L;obtain ⟨C,hm⟩:=Zt hm;replace s:=s.gr t;refine Qd (col:=K) (w:=J) (r:=(Za.int .u8)) (c:=441) (c2:=441) (s.ex) (L.srcN (NB.int (k:=.u8))) rfl underlying80 Zzx rfl rfl rfl C.1 C.2 (by decide) ?_;intro x y T D E A;refine lV (.pointer (some ⟨g0,0,none⟩)) (Z9 rfl)<|Zv ⟨_,_,rfl⟩ ?_;replace j:=(j.gr t).kpp E;refine Xj (off:=1) (v:=(.slice x ((i.2++[d]).length) y)) j sizeOf80 rfl rfl (by intro u hu;simp only [Value.cells,List.mem_cons,List.not_mem_nil,or_false] at hu;subst hu;rfl) rfl rfl ?_;intro M F N B;replace B:Ze 82 440 D M g0 #[.pointer (bif i.1 then some ⟨g0,0,none⟩ else none),.slice x ((i.2++[d]).length) y]:=B;replace A:=A.kp F;have O:=A.new;refine go ?_;refine lv (v:=.nilIface) rfl rfl (Y5 rfl)<|go ?_;cases hm;replace f:=(((f.kpp I).grow t).kpp E).kp F N;exact ⟨rfl,X1 w0.heap.size [qc0,a] col D (fun n=>bif Nat.beq n 441 then a else bif Nat.beq n 440 then qc0 else 0),.nilIface,x,y,rfl,f.finL rfl (fun n=>bif Nat.beq n 441 then a else bif Nat.beq n 440 then qc0 else 0),Zie,f.finOwnL (g:=(fun n=>bif Nat.beq n 441 then a else bif Nat.beq n 440 then qc0 else 0)) rfl O (by decide) (by decide) rfl,f.finBoxL (g:=(fun n=>bif Nat.beq n 441 then a else bif Nat.beq n 440 then qc0 else 0)) B (by decide) (by decide) rfl⟩
def Zjr (kk_L1:(Bool→(List Int)→Int→Option (ByteArray×Int×Bool))) (a:Bool) (b:List Int) (c:Int):Option (ByteArray×Int×Bool):=
  kk_L1 a b (i64.wrap (c+1))
def Znp (c:ByteArray) (d:Bool) (e:List Int) (a:Int) (kk_L1:(Bool→(List Int)→Int→Option (ByteArray×Int×Bool))):Option (ByteArray×Int×Bool):=
  (W8 c (i64.wrap (a+1))).bind fun f=>(Zkx (d,e) f).bind fun b=>Zjr kk_L1 b.2.1 b.2.2 (i64.wrap (a+1))
def Zgq (a:ByteArray) (b:Bool) (c:List Int) (d:Int) (kk_L1:(Bool→(List Int)→Int→Option (ByteArray×Int×Bool))) (e:Bool):Option (ByteArray×Int×Bool):=
  if e=true then (some (⟨#[]⟩,0,false)) else (Znp a b c d kk_L1)
def T9 (N:Nat) (a:ByteArray):Nat→Bool→(List Int)→Int→Option (ByteArray×Int×Bool)
  | 0,_,_,_=>none
  | e+1,c,d,b=>if (decide (b<(a.size:Int)))=true then ((W8 a b).bind fun f=>if (decide (f=34))=true then ((Zng (c,d)).bind fun i=>some (i,i64.wrap (b+1),true)) else (if (decide (f=10))=true then (some (⟨#[]⟩,0,false)) else (if (decide (f=92))=true then (if (decide ((i64.wrap (b+1))=(a.size:Int)))=true then (Zgq a c d b (T9 N a e) true) else ((W8 a (i64.wrap (b+1))).bind fun j=>if (!decide (j=34))=true then ((W8 a (i64.wrap (b+1))).bind fun k=>Zgq a c d b (T9 N a e) (!decide (k=92))) else (Zgq a c d b (T9 N a e) false))) else ((Zkx (c,d) f).bind fun g=>Zjr (T9 N a e) g.2.1 g.2.2 b)))) else (some (⟨#[]⟩,0,false))
termination_by structural x=>x
def Zno (N:Nat) (a:ByteArray):Option (ByteArray×Int×Bool):=
  T9 N a N false ([]:List Int) 1
theorem Zxk {N:Nat} {col:Zd} {w0:World} {b:ByteArray} {r:(ByteArray×Int×Bool)} (hm:Zno N b=some r):
    Calls prog 88 #[.string b] w0 (fun e w'=>e= .returned (.tuple #[.string r.1,.int .i64 r.2.1,.bool r.2.2])∧Below w0.heap.size w0 w'):=by
 refine Zmx 2 3 4 (m:=51) (args:=[.string b]) func88 rfl rfl rfl rfl rfl ?_;rw [Zno.eq_1] at hm;have a:=St.start col w0;refine go ?_;refine Xz (col:=(Zi col)) #[.pointer none,.slice none (([]:List Int).length) 0] 1 zeroValue82 ?_;intro g ah ai L c;refine go ?_;replace a:=a.grow L;refine Z6 [0,5,1000000] (fun n f u=>∃ p k l o d q i,i=n∧T9 N b i k d q=some r∧St w0 (Zi col) p u∧Zc (Za.int .u8) 5 2 p u l o d∧Ze 82 1 p u g #[.pointer (bif k then some ⟨g,0,none⟩ else none),.slice l d.length o]∧[6].map f=[.int .i64 q]) N ⟨_,_,none,0,_,1,_,rfl,hm,a,Zc.nil,c,rfl⟩ ?_;clear hm;intro n f u M;obtain ⟨p,k,l,o,d,q,i,hn,hm,a,j,c,hs⟩:=M;subst hn;refine .lL [6] hs ?_
 cases i with
 | zero=>rw [T9.eq_1] at hm;cases hm
 | succ i=>
  rw [T9.eq_2] at hm;refine go ?_;refine Zm hm (fun hb hm=>?_) fun hb hm=>go ?_
  ·refine Z1<|Zo ?_;refine Wp.cutK [0,5,1000000] (fun f v=>∃ w E F G x H,Zjr (T9 N b i) E x H=some r∧St w0 (Zi col) w v∧Zc (Za.int .u8) 5 2 w v F G x∧Ze 82 1 w v g #[.pointer (bif E then some ⟨g,0,none⟩ else none),.slice F x.length G]∧[6].map f=[.int .i64 H]) ?_ ?_
   ·intro f v t;obtain ⟨w,E,F,G,x,H,hm,a,O,c,hs⟩:=t;rw [Zjr.eq_1] at hm;refine .lL [6] hs<|go ?_;exact ⟨i,by omega,rfl,⟨_,_,_,_,_,_,_,rfl,hm,a,O,c,rfl⟩⟩
   refine go ?_;obtain ⟨P,Q,hm⟩:=bZ hm;refine lV (.int .u8 P) (Vq (s:=b) underlying9 rfl rfl Q)<|go ?_;refine Zm hm (fun hb hm=>go ?_) fun hb hm=>go ?_
   ·obtain ⟨R,S,hm⟩:=bZ hm;refine Zh (Zyo p _ 1 2 rfl g (k,d) l o j c R S) ?_;rintro _ aj ⟨ak,rfl,T⟩;refine ⟨_,rfl,go ?_⟩;cases hm;replace a:=a.kpp T;exact ⟨rfl,rfl,a.below⟩
   refine Zm hm (fun hb hm=>go ?_) fun hb hm=>go ?_
   ·cases hm;exact ⟨rfl,rfl,a.below⟩
   refine Zm hm (fun hb hm=>?_) fun hb hm=>go ?_
   ·refine Zo<|Yo<|Y1 rfl<|lV _ (T0 _ _ rfl rfl)<|Yq rfl<|Zj<|Zo ?_;refine Wp.cutK [0,5,6,1000000] (fun f y=>∃ A,Znp b k d q (T9 N b i)=some r∧St w0 (Zi col) A y∧Zc (Za.int .u8) 5 2 A y l o d∧Ze 82 1 A y g #[.pointer (bif k then some ⟨g,0,none⟩ else none),.slice l d.length o]) ?_ ?_
    ·intro f y t;obtain ⟨A,hm,a,j,c⟩:=t;rw [Znp.eq_1] at hm;refine go ?_;obtain ⟨U,V,hm⟩:=bZ hm;refine lV (.int .u8 U) (Vq (s:=b) underlying9 rfl rfl V) ?_;obtain ⟨al,W,hm⟩:=bZ hm;refine Zh (Zp6 1 2 W rfl j c) ?_;rintro _ am ⟨an,ao,ap,aq,rfl,X,ar,Y,Z⟩;refine ⟨_,rfl,?_⟩;refine Zj ?_;replace a:=a.kpp X;exact ⟨rfl,_,_,_,_,_,_,hm,a,Y,Z,rfl⟩
    refine Zo ?_;refine Wp.cutK [0,5,6,1000000] (fun f B=>∃ C I,Zgq b k d q (T9 N b i) I=some r∧St w0 (Zi col) C B∧Zc (Za.int .u8) 5 2 C B l o d∧Ze 82 1 C B g #[.pointer (bif k then some ⟨g,0,none⟩ else none),.slice l d.length o]∧[46].map f=[.bool I]) ?_ ?_
    ·intro f B t;obtain ⟨C,I,hm,a,j,c,hs⟩:=t;rw [Zgq.eq_1] at hm;refine .lL [46] hs ?_;refine Zm hm (fun hb hm=>go ?_) fun hb hm=>?_
     ·cases hm;exact ⟨rfl,rfl,a.below⟩
     refine Z1 ?_;exact ⟨rfl,_,hm,a,j,c⟩
    refine go ?_;refine Z7 hm (fun D hm=>go ?_) fun D hm=>go ?_
    ·refine Wv 40 rfl rfl rfl rfl<|Wv 40 rfl rfl rfl rfl<|Wv 40 rfl rfl rfl rfl<|Wv 40 rfl rfl rfl rfl<|go ?_;refine lV (.bool true) (Zx (congrArg Value.bool D) rfl)<|Zj ?_;exact ⟨rfl,_,_,hm,a,j,c,rfl⟩
    obtain ⟨aa,ab,hm⟩:=bZ hm;refine lV (.int .u8 aa) (Vq (s:=b) underlying9 rfl rfl ab)<|go ?_;refine Z7 hm (fun J hm=>go ?_) fun J hm=>go ?_
    ·obtain ⟨K,ac,hm⟩:=bZ hm;refine lV (.int .u8 K) (Vq (s:=b) underlying9 rfl rfl ac)<|go ?_;refine lV (.bool (!decide (K=92))) (Zx (congrArg Value.bool J) rfl)<|lV (.bool (!decide (K=92))) (Z0 (congrArg Value.bool D) rfl)<|Zj ?_;exact ⟨rfl,_,_,hm,a,j,c,rfl⟩
    refine lV (.bool false) (Z0 (congrArg Value.bool J) rfl)<|lV (.bool false) (Z0 (congrArg Value.bool D) rfl)<|Zj ?_;exact ⟨rfl,_,_,hm,a,j,c,rfl⟩
   obtain ⟨au,ad,hm⟩:=bZ hm;refine Zh (Zp6 1 2 ad rfl j c) ?_;rintro _ av ⟨aw,ax,ay,az,rfl,ae,a0,af,ag⟩;refine ⟨_,rfl,?_⟩;refine Zj ?_;replace a:=a.kpp ae;exact ⟨rfl,_,_,_,_,_,_,hm,a,af,ag,rfl⟩
  cases hm;exact ⟨rfl,rfl,a.below⟩
def Zd7 (a:(Bool×(ByteArray×Int×Int×Int))) (i:Int) (j:ByteArray) (k:Int) (l:Int) (c:Int) (d:ByteArray) (e:Int) (f:Int) (g:Int):Option ((Int×ByteArray×Int×Int)×(Option (Int×Int×Int×ByteArray))×(ByteArray×Int×Int×Int)):=
  (Zd8 (a.2.1,a.2.2.1,a.2.2.2.1,a.2.2.2.2) g).bind fun b=>some ((c,d,e,f),(none:(Option (Int×Int×Int×ByteArray))),(b.1,b.2.1,b.2.2.1,b.2.2.2))
def Zgu (N:Nat) (a:(Bool×(ByteArray×Int×Int×Int))) (b:(Int×ByteArray)) (e:Bool):Option ((Int×ByteArray×Int×Int)×(Option (Int×Int×Int×ByteArray))×(ByteArray×Int×Int×Int)):=
  if e=true then ((Zgv N (a.2.1.extract (Int.toNat a.2.2.1) (Int.toNat (a.2.1.size:Int))) b.1).bind fun d=>Zr ((0:Int)≤0∧0≤(i64.wrap (b.1+d))∧(i64.wrap (b.1+d))≤((a.2.1.extract (Int.toNat a.2.2.1) (Int.toNat (a.2.1.size:Int))).size:Int)) ((Zbs 22 ((a.2.1.extract (Int.toNat a.2.2.1) (Int.toNat (a.2.1.size:Int))).extract (Int.toNat 0) (Int.toNat (i64.wrap (b.1+d)))) (2,(a.2.1.extract (Int.toNat a.2.2.1) (Int.toNat (a.2.1.size:Int))).extract (Int.toNat 0) (Int.toNat b.1),a.2.2.2.1,a.2.2.2.2)).bind fun c=>some ((c.1.1,c.1.2.1,c.1.2.2.1,c.1.2.2.2),c.2,(a.2.1,a.2.2.1,a.2.2.2.1,a.2.2.2.2)))) else (Zd7 a 0 (⟨#[]⟩) 0 0 2 ((a.2.1.extract (Int.toNat a.2.2.1) (Int.toNat (a.2.1.size:Int))).extract (Int.toNat 0) (Int.toNat b.1)) a.2.2.2.1 a.2.2.2.2 b.1)
def Zns (N:Nat) (i:(ByteArray×Int×Int×Int)):Option ((Int×ByteArray×Int×Int)×(Option (Int×Int×Int×ByteArray))×(ByteArray×Int×Int×Int)):=
  (Znr N (i.1,i.2.1,i.2.2.1,i.2.2.2)).bind fun a=>if (!a.1)=true then ((Zbs 21 (⟨#[47,42]⟩) (0,⟨#[]⟩,a.2.2.2.1,a.2.2.2.2)).bind fun d=>some ((d.1.1,d.1.2.1,d.1.2.2.1,d.1.2.2.2),d.2,(a.2.1,a.2.2.1,a.2.2.2.1,a.2.2.2.2))) else (Zr ((0:Int)≤a.2.2.1∧a.2.2.1≤(a.2.1.size:Int)∧(a.2.1.size:Int)≤(a.2.1.size:Int)) (if (decide ((a.2.1.extract (Int.toNat a.2.2.1) (Int.toNat (a.2.1.size:Int)))=(⟨#[]⟩)))=true then (some ((0,⟨#[]⟩,a.2.2.2.1,a.2.2.2.2),(none:(Option (Int×Int×Int×ByteArray))),(a.2.1,a.2.2.1,a.2.2.2.1,a.2.2.2.2))) else ((W8 (a.2.1.extract (Int.toNat a.2.2.1) (Int.toNat (a.2.1.size:Int))) 0).bind fun k=>(Zd6 k).bind fun l=>if l=true then ((Zgv N (a.2.1.extract (Int.toNat a.2.2.1) (Int.toNat (a.2.1.size:Int))) 0).bind fun b=>Zr ((0:Int)≤0∧0≤b∧b≤((a.2.1.extract (Int.toNat a.2.2.1) (Int.toNat (a.2.1.size:Int))).size:Int)) (if (decide (64<b))=true then (Zr ((0:Int)≤0∧0≤b∧b≤((a.2.1.extract (Int.toNat a.2.2.1) (Int.toNat (a.2.1.size:Int))).size:Int)) ((Zbs 20 ((a.2.1.extract (Int.toNat a.2.2.1) (Int.toNat (a.2.1.size:Int))).extract (Int.toNat 0) (Int.toNat b)) (1,(a.2.1.extract (Int.toNat a.2.2.1) (Int.toNat (a.2.1.size:Int))).extract (Int.toNat 0) (Int.toNat b),a.2.2.2.1,a.2.2.2.2)).bind fun e=>some ((e.1.1,e.1.2.1,e.1.2.2.1,e.1.2.2.2),e.2,(a.2.1,a.2.2.1,a.2.2.2.1,a.2.2.2.2)))) else (Zd7 a 0 (⟨#[]⟩) 0 0 1 ((a.2.1.extract (Int.toNat a.2.2.1) (Int.toNat (a.2.1.size:Int))).extract (Int.toNat 0) (Int.toNat b)) a.2.2.2.1 a.2.2.2.2 b))) else ((W8 (a.2.1.extract (Int.toNat a.2.2.1) (Int.toNat (a.2.1.size:Int))) 0).bind fun m=>(Zgn m).bind fun n=>if n=true then ((Znq N (a.2.1.extract (Int.toNat a.2.2.1) (Int.toNat (a.2.1.size:Int)))).bind fun c=>Zr ((0:Int)≤0∧0≤c.1∧c.1≤((a.2.1.extract (Int.toNat a.2.2.1) (Int.toNat (a.2.1.size:Int))).size:Int)) ((Znm c.2).bind fun o=>if o=true then (Zgu N a c true) else (if (decide (c.1<((a.2.1.extract (Int.toNat a.2.2.1) (Int.toNat (a.2.1.size:Int))).size:Int)))=true then ((W8 (a.2.1.extract (Int.toNat a.2.2.1) (Int.toNat (a.2.1.size:Int))) c.1).bind fun p=>(Zd6 p).bind fun q=>Zgu N a c q) else (Zgu N a c false)))) else ((W8 (a.2.1.extract (Int.toNat a.2.2.1) (Int.toNat (a.2.1.size:Int))) 0).bind fun r=>if (decide (r=34))=true then ((Zno N (a.2.1.extract (Int.toNat a.2.2.1) (Int.toNat (a.2.1.size:Int)))).bind fun j=>if (!j.2.2)=true then (Zr ((0:Int)≤0∧0≤(1:Int)∧1≤((a.2.1.extract (Int.toNat a.2.2.1) (Int.toNat (a.2.1.size:Int))).size:Int)) ((Zbs 21 ((a.2.1.extract (Int.toNat a.2.2.1) (Int.toNat (a.2.1.size:Int))).extract (Int.toNat 0) (Int.toNat 1)) (3,j.1,a.2.2.2.1,a.2.2.2.2)).bind fun f=>some ((f.1.1,f.1.2.1,f.1.2.2.1,f.1.2.2.2),f.2,(a.2.1,a.2.2.1,a.2.2.2.1,a.2.2.2.2)))) else (Zd7 a 0 (⟨#[]⟩) 0 0 3 j.1 a.2.2.2.1 a.2.2.2.2 j.2.1)) else ((W8 (a.2.1.extract (Int.toNat a.2.2.1) (Int.toNat (a.2.1.size:Int))) 0).bind fun s=>(Zgi (⟨#[123,125,40,41,91,93,44,59,124,61,43,45,42,47]⟩) s).bind fun t=>if (decide (0≤t))=true then (Zr ((0:Int)≤0∧0≤(1:Int)∧1≤((a.2.1.extract (Int.toNat a.2.2.1) (Int.toNat (a.2.1.size:Int))).size:Int)) (Zd7 a 0 (⟨#[]⟩) 0 0 4 ((a.2.1.extract (Int.toNat a.2.2.1) (Int.toNat (a.2.1.size:Int))).extract (Int.toNat 0) (Int.toNat 1)) a.2.2.2.1 a.2.2.2.2 1)) else (Zr ((0:Int)≤0∧0≤(1:Int)∧1≤((a.2.1.extract (Int.toNat a.2.2.1) (Int.toNat (a.2.1.size:Int))).size:Int)) ((Zbs 20 ((a.2.1.extract (Int.toNat a.2.2.1) (Int.toNat (a.2.1.size:Int))).extract (Int.toNat 0) (Int.toNat 1)) (0,⟨#[]⟩,a.2.2.2.1,a.2.2.2.2)).bind fun g=>some ((g.1.1,g.1.2.1,g.1.2.2.1,g.1.2.2.2),g.2,(a.2.1,a.2.2.1,a.2.2.2.1,a.2.2.2.2))))))))))
theorem Zxn {N g0:Nat} {col:Zd} {w0:World} {O:(ByteArray×Int×Int×Int)} {r:((Int×ByteArray×Int×Int)×(Option (Int×Int×Int×ByteArray))×(ByteArray×Int×Int×Int))} (qc0:Nat) (hm:Zns N O=some r) (hd:Yk [qc0]=true) (hb0:Ze 137 qc0 col w0 g0 #[.string O.1,.int .i64 O.2.1,.int .i64 O.2.2.1,.int .i64 O.2.2.2]) (hgl:Gl (.iface 141 (.agg #[.pointer (some ⟨4,24,none⟩)])) col w0):
    Calls prog 64 #[.pointer (some ⟨g0,0,none⟩)] w0 (fun e w'=>∃ (col':Zd) (rv1:Value),e= .returned (.tuple #[(.agg #[.int .i8 r.1.1,.string r.1.2.1,.int .i64 r.1.2.2.1,.int .i64 r.1.2.2.2]),rv1])∧Zs (pS [qc0]) col w0 col' w'∧Rd (Za.err 72 29 (Za.pair (Za.int .i64) (Za.pair (Za.int .i64) (Za.pair (Za.int .i64) Za.str)))) col' w' [rv1] r.2.1∧Ze 137 qc0 col' w' g0 #[.string r.2.2.1,.int .i64 r.2.2.2.1,.int .i64 r.2.2.2.2.1,.int .i64 r.2.2.2.2.2]):=by
 refine Wx (m:=140) func64 rfl rfl rfl ?_;rw [Zns.eq_1] at hm;have c:=St.startL (l:=[qc0]) rfl col w0;replace hb0:=hb0.startL (Yd hd 0 rfl) (Yc hd 0 rfl);refine go ?_;refine Xz (col:=(Zy [qc0] col)) #[.int .i8 0,.string (⟨#[]⟩),.int .i64 0,.int .i64 0] 1 zeroValue63 ?_;intro br d9 ea am i;refine lv (v:=.nilIface) rfl rfl (Y5 rfl)<|go ?_;obtain ⟨a,b0,hm⟩:=bZ hm;replace hgl:=(hgl.keep (Zl.startL [qc0] col w0)).gr am;replace hb0:=hb0.gr am;refine Zh (Zxm 440 b0 rfl hb0 hgl) ?_;rintro _ eb ⟨P,rfl,an,d⟩;refine ⟨_,rfl,go ?_⟩;refine Vl (col:=P) [(0,1),(1,1),(2,1),(3,0),(4,1),(5,1),(6,1),(7,0),(8,1),(9,3),(10,2)] (by kernel_rfl) (by kernel_rfl)<|xu rfl rfl (fun _=>Up rfl) ?_;refine xu (v:=(.pointer (some ⟨g0,0,none⟩))) rfl rfl (fun _=>Z9 rfl) ?_;refine xF ⟨_,_,rfl⟩ ?_;refine xW (fun _ b=>((d.atN).nth (q:=2) rfl).gr (b.bl P)) ?_;refine xu rfl rfl (fun _=>Up rfl) ?_;refine xu (v:=(.pointer (some ⟨g0,0,none⟩))) rfl rfl (fun _=>Z9 rfl) ?_;refine xF ⟨_,_,rfl⟩ ?_;refine xW (fun _ b=>((d.atN).nth (q:=3) rfl).gr (b.bl P)) ?_;refine xu (v:=(.agg #[.int .i8 0,.string (⟨#[]⟩),.int .i64 a.2.2.2.1,.int .i64 a.2.2.2.2])) rfl rfl (fun _=>Y6 (l:=[_,_,_,_]) (qs:=[(0,1),(1,1),(2,1),(3,1)]) underlying63 zeroValue63 ⟨rfl,sizeOf46,rfl,sizeOf9,rfl,sizeOf3,rfl,sizeOf3,trivial⟩ rfl) ?_;refine xe rfl rfl ?_;intro ec hC0;have b:=hC0.bl P;refine Xz (col:=P) #[.int .i8 0,.string (⟨#[]⟩),.int .i64 0,.int .i64 0] 2 zeroValue63 ?_;intro o ed j Q ao;refine Zj<|Ww j hC0 Q<|xe rfl rfl ?_;intro ee hC0;replace c:=(((c.grow am).kpp an).grow b).grow Q;replace hgl:=((hgl.kpp an).gr b).gr Q;replace i:=((i.kpp an).gr b).gr Q;replace d:=(d.gr b).gr Q;have b:=hC0.bl j;replace ao:=ao.gr b;refine Xf ao ?_;intro ef ab b1 k;refine Zj<|xk j<|W6 ?_;replace hgl:=(hgl.gr b).kp ab;replace d:=(d.gr b).kp ab;replace i:=(i.gr b).kp ab;replace c:=(c.grow b).kp ab b1;intro eg b;replace b:=b.bl j;refine go ?_;refine lV (.func (.func 84) #[] #[.pointer (some ⟨o,0,none⟩)]) (Ztt rfl)<|lA (.func (.func 84) #[] #[.pointer (some ⟨o,0,none⟩)])<|go ?_;replace hgl:=hgl.gr b;replace d:=d.gr b;replace i:=i.gr b;replace k:=k.gr b;replace c:=c.grow b;refine Zm hm (fun hb hm=>go ?_) fun hb hm=>go ?_
 ·refine lM (.func (.func 84) #[] #[.pointer (some ⟨o,0,none⟩)]) ?_;obtain ⟨R,b2,hm⟩:=bZ hm;refine lc rfl rfl (Zic call84 rfl rfl rfl) (Zf1 j _ 2 (by decide) 21 (⟨#[47,42]⟩) o (0,⟨#[]⟩,a.2.2.2.1,a.2.2.2.2) k R b2) ?_;rintro _ eh ⟨b3,ap,rfl,aq,ar⟩;refine ⟨_,rfl,?_⟩;refine lV (.agg #[.int .i8 R.1.1,.string R.1.2.1,.int .i64 R.1.2.2.1,.int .i64 R.1.2.2.2]) (Xl rfl rfl)<|lv (v:=ap) rfl rfl (Xl rfl rfl) ?_;replace i:=i.gr aq;refine Xf i ?_;intro ei au b4 b5;refine lv (v:=ap) rfl rfl (Y5 rfl)<|go ?_;cases hm;replace d:=(d.gr aq).kp au;replace c:=(c.grow aq).kp au b4;replace ar:=ar.kp au;exact ⟨rfl,_,Zbd rfl rfl isAgg63 sizeOf63 rfl rfl b5.atN rfl rfl,X1 w0.heap.size [qc0] col b3 (fun n=>bif Nat.beq n 440 then qc0 else 0),ap,rfl,c.finL rfl (fun n=>bif Nat.beq n 440 then qc0 else 0),c.finRdL (g:=(fun n=>bif Nat.beq n 440 then qc0 else 0)) rfl ar,c.finBoxL (g:=(fun n=>bif Nat.beq n 440 then qc0 else 0)) d (by decide) (by decide) rfl⟩
 refine Vs (col:=j) (by kernel_rfl) (by kernel_rfl)<|go ?_;refine qv (v:=(.pointer (some ⟨g0,0,none⟩))) rfl (fun _ b=>Z9 rfl) ?_;refine qF ⟨_,_,rfl⟩ ?_;refine qW (fun _ b=>((d.atN).nth (q:=0) rfl).gr (b.bl j)) ?_;refine go ?_;refine qv (v:=(.pointer (some ⟨g0,0,none⟩))) rfl (fun _ b=>Z9 rfl) ?_;refine qF ⟨_,_,rfl⟩ ?_;refine qW (fun _ b=>((d.atN).nth (q:=1) rfl).gr (b.bl j)) ?_;obtain ⟨b6,hm⟩:=Zt hm;refine qv (v:=(.string (a.2.1.extract (Int.toNat a.2.2.1) (Int.toNat (a.2.1.size:Int))))) rfl (fun _ b=>Zot underlying9 rfl rfl b6) ?_;refine go ?_;refine Y3 ?_;intro b7 b;replace b:=b.bl j;refine Zo<|Yo<|Yq rfl<|Zj<|Zo ?_;replace hgl:=hgl.gr b;replace d:=d.gr b;replace i:=i.gr b;replace k:=k.gr b;replace c:=c.grow b;refine Wp.cutK [0,2,5,1000000] (fun f I=>∃ J av aw ax ay az a0 a1 a2 a3,Zd7 a av aw ax ay az a0 a1 a2 a3=some r∧St w0 (Zy [qc0] col) J I∧Ze 137 440 J I g0 #[.string a.2.1,.int .i64 a.2.2.1,.int .i64 a.2.2.2.1,.int .i64 a.2.2.2.2]∧Ze 63 1 J I br #[.int .i8 av,.string aw,.int .i64 ax,.int .i64 ay]∧Ze 63 2 J I o #[.int .i8 az,.string a0,.int .i64 a1,.int .i64 a2]∧Gl (.iface 141 (.agg #[.pointer (some ⟨4,24,none⟩)])) J I∧[8].map f=[.int .i64 a3]) ?_ ?_
 ·intro f I hJ;obtain ⟨J,av,aw,ax,ay,az,a0,a1,a2,a3,hm,c,d,i,k,hgl,hs⟩:=hJ;rw [Zd7.eq_1] at hm;refine .lL [8] hs<|go ?_;obtain ⟨ej,b8,hm⟩:=bZ hm;refine Zh (Ziz 440 b8 rfl d) ?_;rintro _ ek ⟨b9,rfl,a4,a5⟩;refine ⟨_,rfl,go ?_⟩;replace k:=k.kpp a4;refine lV _ (Xx isAgg63 sizeOf63 k) ?_;replace i:=i.kpp a4;refine Xf i ?_;intro el bs ca cb;refine lv (v:=.nilIface) rfl rfl (Y5 rfl)<|go ?_;cases hm;replace c:=(c.kpp a4).kp bs ca;replace a5:=a5.kp bs;exact ⟨rfl,_,Zbd rfl rfl isAgg63 sizeOf63 rfl rfl cb.atN rfl rfl,X1 w0.heap.size [qc0] col b9 (fun n=>bif Nat.beq n 440 then qc0 else 0),.nilIface,rfl,c.finL rfl (fun n=>bif Nat.beq n 440 then qc0 else 0),Zie,c.finBoxL (g:=(fun n=>bif Nat.beq n 440 then qc0 else 0)) a5 (by decide) (by decide) rfl⟩
 refine go ?_;refine Zm hm (fun hb hm=>go ?_) fun hb hm=>go ?_
 ·refine lV _ (Xx isAgg63 sizeOf63 k)<|Xf i ?_;intro em bt cc cd;refine lv (v:=.nilIface) rfl rfl (Y5 rfl)<|go ?_;cases hm;replace d:=d.kp bt;replace c:=c.kp bt cc;exact ⟨rfl,_,Zbd rfl rfl isAgg63 sizeOf63 rfl rfl cd.atN rfl rfl,X1 w0.heap.size [qc0] col j (fun n=>bif Nat.beq n 440 then qc0 else 0),.nilIface,rfl,c.finL rfl (fun n=>bif Nat.beq n 440 then qc0 else 0),Zie,c.finBoxL (g:=(fun n=>bif Nat.beq n 440 then qc0 else 0)) d (by decide) (by decide) rfl⟩
 obtain ⟨ce,cf,hm⟩:=bZ hm;refine lV (.int .u8 ce) (Vq (s:=(a.2.1.extract (Int.toNat a.2.2.1) (Int.toNat (a.2.1.size:Int)))) underlying9 rfl rfl cf) ?_;obtain ⟨en,cg,hm⟩:=bZ hm;refine Zh (Ziy (col:=j) cg) ?_;rintro _ a6 ⟨rfl,y⟩;refine ⟨_,rfl,?_⟩;replace y:Zg j b7 j a6:=.of_below y;refine go ?_;replace hgl:=hgl.gr y;replace d:=d.gr y;replace i:=i.gr y;replace k:=k.gr y;replace c:=c.grow y;refine Zm hm (fun hb hm=>go ?_) fun hb hm=>go ?_
 ·obtain ⟨K,ch,hm⟩:=bZ hm;refine Zh (Zmk (col:=j) ch) ?_;rintro _ ci ⟨rfl,A⟩;refine ⟨_,rfl,?_⟩;replace A:Zg j a6 j ci:=.of_below A;refine go ?_;refine Vl (col:=j) [(0,1),(1,1),(2,1),(3,1),(4,2),(5,1),(6,2)] (by kernel_rfl) (by kernel_rfl)<|xu rfl rfl (fun _=>Zop rfl) ?_;refine xu rfl rfl (fun _=>Ve rfl) ?_;obtain ⟨cj,hm⟩:=Zt hm;refine xu (v:=(.string ((a.2.1.extract (Int.toNat a.2.2.1) (Int.toNat (a.2.1.size:Int))).extract (Int.toNat 0) (Int.toNat K)))) rfl rfl (fun _=>Zcx underlying9 rfl rfl cj) ?_;refine xF ⟨_,_,rfl⟩ ?_;refine xe rfl rfl ?_;intro eo hC0;have b:=hC0.bl j;replace k:=(k.gr A).gr b;refine Xj (off:=0) (v:=(.int .i8 1)) k sizeOf46 rfl rfl (by intro u hu;simp only [Value.cells,List.mem_cons,List.not_mem_nil,or_false] at hu;subst hu;rfl) rfl rfl ?_;intro ck ac cl S;replace S:Ze 63 2 j ck o #[.int .i8 1,.string (⟨#[]⟩),.int .i64 a.2.2.2.1,.int .i64 a.2.2.2.2]:=S;refine Zj<|xk j<|xF ⟨_,_,rfl⟩ ?_;refine xe rfl rfl ?_;intro ep hC0;replace hgl:=((hgl.gr A).gr b).kp ac;replace d:=((d.gr A).gr b).kp ac;replace i:=((i.gr A).gr b).kp ac;replace c:=((c.grow A).grow b).kp ac cl;have b:=hC0.bl j;replace S:=S.gr b;refine Xj (off:=1) (v:=(.string ((a.2.1.extract (Int.toNat a.2.2.1) (Int.toNat (a.2.1.size:Int))).extract (Int.toNat 0) (Int.toNat K)))) S sizeOf9 rfl rfl (by intro u hu;simp only [Value.cells,List.mem_cons,List.not_mem_nil,or_false] at hu;subst hu;rfl) rfl rfl ?_;intro cn ad co L;replace L:Ze 63 2 j cn o #[.int .i8 1,(.string ((a.2.1.extract (Int.toNat a.2.2.1) (Int.toNat (a.2.1.size:Int))).extract (Int.toNat 0) (Int.toNat K))),.int .i64 a.2.2.2.1,.int .i64 a.2.2.2.2]:=L;refine Zj<|xk j<|W6 ?_;replace hgl:=(hgl.gr b).kp ad;replace d:=(d.gr b).kp ad;replace i:=(i.gr b).kp ad;replace c:=(c.grow b).kp ad co;intro eq b;replace b:=b.bl j;refine go ?_;replace hgl:=hgl.gr b;replace d:=d.gr b;replace i:=i.gr b;replace L:=L.gr b;replace c:=c.grow b;refine Zm hm (fun hb hm=>go ?_) fun hb hm=>?_
  ·refine lM (.func (.func 84) #[] #[.pointer (some ⟨o,0,none⟩)])<|go ?_;obtain ⟨cp,hm⟩:=Zt hm;refine lV (.string ((a.2.1.extract (Int.toNat a.2.2.1) (Int.toNat (a.2.1.size:Int))).extract (Int.toNat 0) (Int.toNat K))) (Zcx underlying9 rfl rfl cp) ?_;obtain ⟨T,cq,hm⟩:=bZ hm;refine lc rfl rfl (Zic call84 rfl rfl rfl) (Zf1 j _ 2 (by decide) 20 ((a.2.1.extract (Int.toNat a.2.2.1) (Int.toNat (a.2.1.size:Int))).extract (Int.toNat 0) (Int.toNat K)) o (1,(a.2.1.extract (Int.toNat a.2.2.1) (Int.toNat (a.2.1.size:Int))).extract (Int.toNat 0) (Int.toNat K),a.2.2.2.1,a.2.2.2.2) L T cq) ?_;rintro _ er ⟨cr,a7,rfl,a8,a9⟩;refine ⟨_,rfl,?_⟩;refine lV (.agg #[.int .i8 T.1.1,.string T.1.2.1,.int .i64 T.1.2.2.1,.int .i64 T.1.2.2.2]) (Xl rfl rfl)<|lv (v:=a7) rfl rfl (Xl rfl rfl) ?_;replace i:=i.gr a8;refine Xf i ?_;intro es ba cs ct;refine lv (v:=a7) rfl rfl (Y5 rfl)<|go ?_;cases hm;replace d:=(d.gr a8).kp ba;replace c:=(c.grow a8).kp ba cs;replace a9:=a9.kp ba;exact ⟨rfl,_,Zbd rfl rfl isAgg63 sizeOf63 rfl rfl ct.atN rfl rfl,X1 w0.heap.size [qc0] col cr (fun n=>bif Nat.beq n 440 then qc0 else 0),a7,rfl,c.finL rfl (fun n=>bif Nat.beq n 440 then qc0 else 0),c.finRdL (g:=(fun n=>bif Nat.beq n 440 then qc0 else 0)) rfl a9,c.finBoxL (g:=(fun n=>bif Nat.beq n 440 then qc0 else 0)) d (by decide) (by decide) rfl⟩
  refine Z1 ?_;exact ⟨kf,_,0,_,0,0,1,_,_,_,_,hm,c,d,i,L,hgl,rfl⟩
 obtain ⟨cu,cv,hm⟩:=bZ hm;refine lV (.int .u8 cu) (Vq (s:=(a.2.1.extract (Int.toNat a.2.2.1) (Int.toNat (a.2.1.size:Int)))) underlying9 rfl rfl cv) ?_;obtain ⟨et,cw,hm⟩:=bZ hm;refine Zh (Zmj (col:=j) cw) ?_;rintro _ bb ⟨rfl,B⟩;refine ⟨_,rfl,?_⟩;replace B:Zg j a6 j bb:=.of_below B;refine go ?_;replace hgl:=hgl.gr B;replace d:=d.gr B;replace i:=i.gr B;replace k:=k.gr B;replace c:=c.grow B;refine Zm hm (fun hb hm=>go ?_) fun hb hm=>go ?_
 ·obtain ⟨t,cx,hm⟩:=bZ hm;refine Zh (Zxl (col:=j) cx) ?_;rintro _ cy ⟨rfl,C⟩;refine ⟨_,rfl,?_⟩;replace C:Zg j bb j cy:=.of_below C;refine lM (.tuple #[.int .i64 t.1,.string t.2])<|lV (.int .i64 t.1) (Xl rfl rfl)<|lV (.string t.2) (Xl rfl rfl)<|go ?_;refine Vl (col:=j) [(0,1),(1,1),(2,1),(3,1),(4,2),(5,1),(6,2)] (by kernel_rfl) (by kernel_rfl)<|xu rfl rfl (fun _=>Zop rfl) ?_;refine xu rfl rfl (fun _=>Ve rfl) ?_;obtain ⟨cz,hm⟩:=Zt hm;refine xu (v:=(.string ((a.2.1.extract (Int.toNat a.2.2.1) (Int.toNat (a.2.1.size:Int))).extract (Int.toNat 0) (Int.toNat t.1)))) rfl rfl (fun _=>Zcx underlying9 rfl rfl cz) ?_;refine xF ⟨_,_,rfl⟩ ?_;refine xe rfl rfl ?_;intro eu hC0;have b:=hC0.bl j;replace k:=(k.gr C).gr b;refine Xj (off:=0) (v:=(.int .i8 2)) k sizeOf46 rfl rfl (by intro u hu;simp only [Value.cells,List.mem_cons,List.not_mem_nil,or_false] at hu;subst hu;rfl) rfl rfl ?_;intro c0 ae c1 U;replace U:Ze 63 2 j c0 o #[.int .i8 2,.string (⟨#[]⟩),.int .i64 a.2.2.2.1,.int .i64 a.2.2.2.2]:=U;refine Zj<|xk j<|xF ⟨_,_,rfl⟩ ?_;refine xe rfl rfl ?_;intro ew hC0;replace hgl:=((hgl.gr C).gr b).kp ae;replace d:=((d.gr C).gr b).kp ae;replace i:=((i.gr C).gr b).kp ae;replace c:=((c.grow C).grow b).kp ae c1;have b:=hC0.bl j;replace U:=U.gr b;refine Xj (off:=1) (v:=(.string ((a.2.1.extract (Int.toNat a.2.2.1) (Int.toNat (a.2.1.size:Int))).extract (Int.toNat 0) (Int.toNat t.1)))) U sizeOf9 rfl rfl (by intro u hu;simp only [Value.cells,List.mem_cons,List.not_mem_nil,or_false] at hu;subst hu;rfl) rfl rfl ?_;intro c2 af c3 p;replace p:Ze 63 2 j c2 o #[.int .i8 2,(.string ((a.2.1.extract (Int.toNat a.2.2.1) (Int.toNat (a.2.1.size:Int))).extract (Int.toNat 0) (Int.toNat t.1))),.int .i64 a.2.2.2.1,.int .i64 a.2.2.2.2]:=p;refine Zj<|xk j<|W6 ?_;replace hgl:=(hgl.gr b).kp af;replace d:=(d.gr b).kp af;replace i:=(i.gr b).kp af;replace c:=(c.grow b).kp af c3;intro c4 b;replace b:=b.bl j;refine Zo ?_;replace hgl:=hgl.gr b;replace d:=d.gr b;replace i:=i.gr b;replace p:=p.gr b;replace c:=c.grow b
  refine Wp.cutK [0,2,5,6,7,8,1000000] (fun f D=>∃ w bc,Zgu N a t bc=some r∧St w0 (Zy [qc0] col) w D∧Ze 137 440 w D g0 #[.string a.2.1,.int .i64 a.2.2.1,.int .i64 a.2.2.2.1,.int .i64 a.2.2.2.2]∧Ze 63 1 w D br #[.int .i8 0,.string (⟨#[]⟩),.int .i64 0,.int .i64 0]∧Ze 63 2 w D o #[.int .i8 2,(.string ((a.2.1.extract (Int.toNat a.2.2.1) (Int.toNat (a.2.1.size:Int))).extract (Int.toNat 0) (Int.toNat t.1))),.int .i64 a.2.2.2.1,.int .i64 a.2.2.2.2]∧Gl (.iface 141 (.agg #[.pointer (some ⟨4,24,none⟩)])) w D∧[95].map f=[.bool bc]) ?_ ?_
  ·intro f D hJ;obtain ⟨w,bc,hm,c,d,i,p,hgl,hs⟩:=hJ;rw [Zgu.eq_1] at hm;refine .lL [95] hs ?_;refine Zm hm (fun hb hm=>go ?_) fun hb hm=>?_
   ·refine lM (.func (.func 84) #[] #[.pointer (some ⟨o,0,none⟩)])<|go ?_;obtain ⟨bu,c5,hm⟩:=bZ hm;refine Zh (Zmk (col:=w) c5) ?_;rintro _ c6 ⟨rfl,M⟩;refine ⟨_,rfl,?_⟩;replace M:Zg w D w c6:=.of_below M;refine go ?_;obtain ⟨c7,hm⟩:=Zt hm;refine lV (.string ((a.2.1.extract (Int.toNat a.2.2.1) (Int.toNat (a.2.1.size:Int))).extract (Int.toNat 0) (Int.toNat (i64.wrap (t.1+bu))))) (Zcx underlying9 rfl rfl c7) ?_;obtain ⟨V,c8,hm⟩:=bZ hm;replace p:=p.gr M;refine lc rfl rfl (Zic call84 rfl rfl rfl) (Zf1 w _ 2 (by decide) 22 ((a.2.1.extract (Int.toNat a.2.2.1) (Int.toNat (a.2.1.size:Int))).extract (Int.toNat 0) (Int.toNat (i64.wrap (t.1+bu)))) o (2,(a.2.1.extract (Int.toNat a.2.2.1) (Int.toNat (a.2.1.size:Int))).extract (Int.toNat 0) (Int.toNat t.1),a.2.2.2.1,a.2.2.2.2) p V c8) ?_;rintro _ ey ⟨c9,bd,rfl,be,bf⟩;refine ⟨_,rfl,?_⟩;refine lV (.agg #[.int .i8 V.1.1,.string V.1.2.1,.int .i64 V.1.2.2.1,.int .i64 V.1.2.2.2]) (Xl rfl rfl)<|lv (v:=bd) rfl rfl (Xl rfl rfl) ?_;replace i:=(i.gr M).gr be;refine Xf i ?_;intro ez bg da db;refine lv (v:=bd) rfl rfl (Y5 rfl)<|go ?_;cases hm;replace d:=((d.gr M).gr be).kp bg;replace c:=((c.grow M).grow be).kp bg da;replace bf:=bf.kp bg;exact ⟨rfl,_,Zbd rfl rfl isAgg63 sizeOf63 rfl rfl db.atN rfl rfl,X1 w0.heap.size [qc0] col c9 (fun n=>bif Nat.beq n 440 then qc0 else 0),bd,rfl,c.finL rfl (fun n=>bif Nat.beq n 440 then qc0 else 0),c.finRdL (g:=(fun n=>bif Nat.beq n 440 then qc0 else 0)) rfl bf,c.finBoxL (g:=(fun n=>bif Nat.beq n 440 then qc0 else 0)) d (by decide) (by decide) rfl⟩
   refine Z1 ?_;exact ⟨kf,_,0,_,0,0,2,_,_,_,_,hm,c,d,i,p,hgl,rfl⟩
  refine go ?_;obtain ⟨e0,dc,hm⟩:=bZ hm;refine Zh (Zxj (col:=j) dc) ?_;rintro _ bv ⟨rfl,E⟩;refine ⟨_,rfl,?_⟩;replace E:Zg j c4 j bv:=.of_below E;refine Yg rfl ?_;replace hgl:=hgl.gr E;replace d:=d.gr E;replace i:=i.gr E;replace p:=p.gr E;replace c:=c.grow E;refine Z7 hm (fun ag hm=>go ?_) fun ag hm=>go ?_
  ·refine Wv 89 rfl rfl rfl rfl<|Wv 89 rfl rfl rfl rfl<|Wv 89 rfl rfl rfl rfl<|Wv 89 rfl rfl rfl rfl<|go ?_;refine lV (.bool true) (Zx (congrArg Value.bool ag) rfl)<|Zj ?_;exact ⟨kf,_,_,hm,c,d,i,p,hgl,rfl⟩
  refine Z7 hm (fun bh hm=>go ?_) fun bh hm=>go ?_
  ·obtain ⟨dd,de,hm⟩:=bZ hm;refine lV (.int .u8 dd) (Vq (s:=(a.2.1.extract (Int.toNat a.2.2.1) (Int.toNat (a.2.1.size:Int)))) underlying9 rfl rfl de)<|go ?_;obtain ⟨bw,df,hm⟩:=bZ hm;refine Zh (Ziy (col:=j) df) ?_;rintro _ dg ⟨rfl,F⟩;refine ⟨_,rfl,?_⟩;replace F:Zg j bv j dg:=.of_below F;refine go ?_;refine lV (.bool bw) (Zx (congrArg Value.bool bh) rfl)<|lV (.bool bw) (Z0 (congrArg Value.bool ag) rfl)<|Zj ?_;replace hgl:=hgl.gr F;replace d:=d.gr F;replace i:=i.gr F;replace p:=p.gr F;replace c:=c.grow F;exact ⟨kf,_,_,hm,c,d,i,p,hgl,rfl⟩
  refine lV (.bool false) (Z0 (congrArg Value.bool bh) rfl)<|lV (.bool false) (Z0 (congrArg Value.bool ag) rfl)<|Zj ?_;exact ⟨kf,_,_,hm,c,d,i,p,hgl,rfl⟩
 obtain ⟨dh,di,hm⟩:=bZ hm;refine lV (.int .u8 dh) (Vq (s:=(a.2.1.extract (Int.toNat a.2.2.1) (Int.toNat (a.2.1.size:Int)))) underlying9 rfl rfl di)<|go ?_;refine Zm hm (fun hb hm=>go ?_) fun hb hm=>go ?_
 ·refine Zv ⟨_,_,rfl⟩ ?_;refine Xj (off:=0) (v:=(.int .i8 3)) k sizeOf46 rfl rfl (by intro u hu;simp only [Value.cells,List.mem_cons,List.not_mem_nil,or_false] at hu;subst hu;rfl) rfl rfl ?_;intro bx ah dj W;replace W:Ze 63 2 j bx o #[.int .i8 3,.string (⟨#[]⟩),.int .i64 a.2.2.2.1,.int .i64 a.2.2.2.2]:=W;refine go ?_;obtain ⟨x,dl,hm⟩:=bZ hm;refine Zh (Zxk (col:=j) dl) ?_;rintro _ dm ⟨rfl,G⟩;refine ⟨_,rfl,?_⟩;replace G:Zg j bx j dm:=.of_below G;refine lM (.tuple #[.string x.1,.int .i64 x.2.1,.bool x.2.2])<|lV (.string x.1) (Xl rfl rfl)<|lV (.int .i64 x.2.1) (Xl rfl rfl)<|lV (.bool x.2.2) (Xl rfl rfl)<|Zv ⟨_,_,rfl⟩ ?_;replace W:=W.gr G;refine Xj (off:=1) (v:=(.string x.1)) W sizeOf9 rfl rfl (by intro u hu;simp only [Value.cells,List.mem_cons,List.not_mem_nil,or_false] at hu;subst hu;rfl) rfl rfl ?_;intro dn ai dp aj;replace aj:Ze 63 2 j dn o #[.int .i8 3,.string x.1,.int .i64 a.2.2.2.1,.int .i64 a.2.2.2.2]:=aj;refine go ?_;replace hgl:=((hgl.kp ah).gr G).kp ai;replace d:=((d.kp ah).gr G).kp ai;replace i:=((i.kp ah).gr G).kp ai;replace c:=((c.kp ah dj).grow G).kp ai dp;refine Zm hm (fun hb hm=>go ?_) fun hb hm=>?_
  ·refine lM (.func (.func 84) #[] #[.pointer (some ⟨o,0,none⟩)])<|Zf9 rfl ?_;obtain ⟨dq,hm⟩:=Zt hm;refine lV (.string ((a.2.1.extract (Int.toNat a.2.2.1) (Int.toNat (a.2.1.size:Int))).extract (Int.toNat 0) (Int.toNat 1))) (Zcx underlying9 rfl rfl dq) ?_;obtain ⟨X,dr,hm⟩:=bZ hm;refine lc rfl rfl (Zic call84 rfl rfl rfl) (Zf1 j _ 2 (by decide) 21 ((a.2.1.extract (Int.toNat a.2.2.1) (Int.toNat (a.2.1.size:Int))).extract (Int.toNat 0) (Int.toNat 1)) o (3,x.1,a.2.2.2.1,a.2.2.2.2) aj X dr) ?_;rintro _ e1 ⟨ds,bi,rfl,bj,bk⟩;refine ⟨_,rfl,?_⟩;refine lV (.agg #[.int .i8 X.1.1,.string X.1.2.1,.int .i64 X.1.2.2.1,.int .i64 X.1.2.2.2]) (Xl rfl rfl)<|lv (v:=bi) rfl rfl (Xl rfl rfl) ?_;replace i:=i.gr bj;refine Xf i ?_;intro e2 bm dt du;refine lv (v:=bi) rfl rfl (Y5 rfl)<|go ?_;cases hm;replace d:=(d.gr bj).kp bm;replace c:=(c.grow bj).kp bm dt;replace bk:=bk.kp bm;exact ⟨rfl,_,Zbd rfl rfl isAgg63 sizeOf63 rfl rfl du.atN rfl rfl,X1 w0.heap.size [qc0] col ds (fun n=>bif Nat.beq n 440 then qc0 else 0),bi,rfl,c.finL rfl (fun n=>bif Nat.beq n 440 then qc0 else 0),c.finRdL (g:=(fun n=>bif Nat.beq n 440 then qc0 else 0)) rfl bk,c.finBoxL (g:=(fun n=>bif Nat.beq n 440 then qc0 else 0)) d (by decide) (by decide) rfl⟩
  refine Z1 ?_;exact ⟨kf,_,0,_,0,0,3,_,_,_,_,hm,c,d,i,aj,hgl,rfl⟩
 obtain ⟨bz,dv,hm⟩:=bZ hm;refine lV (.int .u8 bz) (Vq (s:=(a.2.1.extract (Int.toNat a.2.2.1) (Int.toNat (a.2.1.size:Int)))) underlying9 rfl rfl dv) ?_;obtain ⟨dw,dx,hm⟩:=bZ hm;refine Zh (Zmv j _ (⟨#[123,125,40,41,91,93,44,59,124,61,43,45,42,47]⟩) bz dw dx) ?_;rintro _ dy ⟨rfl,H⟩;refine ⟨_,rfl,?_⟩;replace H:Zg j bb j dy:=.of_below H;refine go ?_;replace hgl:=hgl.gr H;replace d:=d.gr H;replace i:=i.gr H;replace k:=k.gr H;replace c:=c.grow H;refine Zm hm (fun hb hm=>?_) fun hb hm=>go ?_
 ·refine Vl (col:=j) [(0,1),(1,1),(2,1),(3,2),(4,1),(5,2)] (by kernel_rfl) (by kernel_rfl)<|xu rfl rfl (fun _=>Zop rfl) ?_;obtain ⟨dz,hm⟩:=Zt hm;refine xu (v:=(.string ((a.2.1.extract (Int.toNat a.2.2.1) (Int.toNat (a.2.1.size:Int))).extract (Int.toNat 0) (Int.toNat 1)))) rfl rfl (fun _=>Zcx underlying9 rfl rfl dz) ?_;refine xF ⟨_,_,rfl⟩ ?_;refine xe rfl rfl ?_;intro e3 hC0;have b:=hC0.bl j;replace k:=k.gr b;refine Xj (off:=0) (v:=(.int .i8 4)) k sizeOf46 rfl rfl (by intro u hu;simp only [Value.cells,List.mem_cons,List.not_mem_nil,or_false] at hu;subst hu;rfl) rfl rfl ?_;intro d0 ak d1 Y;replace Y:Ze 63 2 j d0 o #[.int .i8 4,.string (⟨#[]⟩),.int .i64 a.2.2.2.1,.int .i64 a.2.2.2.2]:=Y;refine Zj<|xk j<|xF ⟨_,_,rfl⟩ ?_;refine xe rfl rfl ?_;intro e4 hC0;replace hgl:=(hgl.gr b).kp ak;replace d:=(d.gr b).kp ak;replace i:=(i.gr b).kp ak;replace c:=(c.grow b).kp ak d1;have b:=hC0.bl j;replace Y:=Y.gr b;refine Xj (off:=1) (v:=(.string ((a.2.1.extract (Int.toNat a.2.2.1) (Int.toNat (a.2.1.size:Int))).extract (Int.toNat 0) (Int.toNat 1)))) Y sizeOf9 rfl rfl (by intro u hu;simp only [Value.cells,List.mem_cons,List.not_mem_nil,or_false] at hu;subst hu;rfl) rfl rfl ?_;intro d2 al d3 Z;replace Z:Ze 63 2 j d2 o #[.int .i8 4,(.string ((a.2.1.extract (Int.toNat a.2.2.1) (Int.toNat (a.2.1.size:Int))).extract (Int.toNat 0) (Int.toNat 1))),.int .i64 a.2.2.2.1,.int .i64 a.2.2.2.2]:=Z;refine Zj<|xk j<|W6 ?_;replace hgl:=(hgl.gr b).kp al;replace d:=(d.gr b).kp al;replace i:=(i.gr b).kp al;replace c:=(c.grow b).kp al d3;intro e5 b;replace b:=b.bl j;replace hgl:=hgl.gr b;replace d:=d.gr b;replace i:=i.gr b;replace Z:=Z.gr b;replace c:=c.grow b;exact ⟨kf,_,0,_,0,0,4,_,_,_,1,hm,c,d,i,Z,hgl,rfl⟩
 refine lM (.func (.func 84) #[] #[.pointer (some ⟨o,0,none⟩)])<|Zf9 rfl ?_;obtain ⟨d4,hm⟩:=Zt hm;refine lV (.string ((a.2.1.extract (Int.toNat a.2.2.1) (Int.toNat (a.2.1.size:Int))).extract (Int.toNat 0) (Int.toNat 1))) (Zcx underlying9 rfl rfl d4) ?_;obtain ⟨aa,d5,hm⟩:=bZ hm;refine lc rfl rfl (Zic call84 rfl rfl rfl) (Zf1 j _ 2 (by decide) 20 ((a.2.1.extract (Int.toNat a.2.2.1) (Int.toNat (a.2.1.size:Int))).extract (Int.toNat 0) (Int.toNat 1)) o (0,⟨#[]⟩,a.2.2.2.1,a.2.2.2.2) k aa d5) ?_;rintro _ e6 ⟨d6,bn,rfl,bo,bp⟩;refine ⟨_,rfl,?_⟩;refine lV (.agg #[.int .i8 aa.1.1,.string aa.1.2.1,.int .i64 aa.1.2.2.1,.int .i64 aa.1.2.2.2]) (Xl rfl rfl)<|lv (v:=bn) rfl rfl (Xl rfl rfl) ?_;replace i:=i.gr bo;refine Xf i ?_;intro e7 bq d7 d8;refine lv (v:=bn) rfl rfl (Y5 rfl)<|go ?_;cases hm;replace d:=(d.gr bo).kp bq;replace c:=(c.grow bo).kp bq d7;replace bp:=bp.kp bq;exact ⟨rfl,_,Zbd rfl rfl isAgg63 sizeOf63 rfl rfl d8.atN rfl rfl,X1 w0.heap.size [qc0] col d6 (fun n=>bif Nat.beq n 440 then qc0 else 0),bn,rfl,c.finL rfl (fun n=>bif Nat.beq n 440 then qc0 else 0),c.finRdL (g:=(fun n=>bif Nat.beq n 440 then qc0 else 0)) rfl bp,c.finBoxL (g:=(fun n=>bif Nat.beq n 440 then qc0 else 0)) d (by decide) (by decide) rfl⟩
def Zgm (N:Nat):Nat→ByteArray→Int→Int→Int→Option (List ((Int×ByteArray×Int×Int)×(Option (Int×Int×Int×ByteArray))))
  | 0,_,_,_,_=>none
  | b+1,c,d,e,f=>(Zns N (c,d,e,f)).bind fun a=>(if a.2.1.isSome=true then (some []) else (if (decide (a.1.1=0))=true then (some []) else ((Zgm N b) a.2.2.1 a.2.2.2.1 a.2.2.2.2.1 a.2.2.2.2.2))).bind fun g=>some (((a.1.1,a.1.2.1,a.1.2.2.1,a.1.2.2.2),a.2.1) :: g)
termination_by structural x=>x
def Znj (N:Nat) (a:ByteArray):Option (List ((Int×ByteArray×Int×Int)×(Option (Int×Int×Int×ByteArray)))):=
  Zgm N N a 0 1 1
theorem Zxg (N:Nat) (col:Zd) (w0:World) (g0:Nat) (s:ByteArray) (hb0:Ze 9 0 col w0 g0 #[.string s]) (hgl:Gl (.iface 141 (.agg #[.pointer (some ⟨4,24,none⟩)])) col w0) (r:List ((Int×ByteArray×Int×Int)×(Option (Int×Int×Int×ByteArray)))) (hm:Znj N s=some r):
    Zl8 prog 1 63 [.pointer (some ⟨g0,0,none⟩)] (fun (y:(Int×ByteArray×Int×Int)×(Option (Int×Int×Int×ByteArray))) (col:Zd) (w:World) (args:List Value)=>∃ (v1:Value),args=[(.agg #[.int .i8 y.1.1,.string y.1.2.1,.int .i64 y.1.2.2.1,.int .i64 y.1.2.2.2]),v1]∧Rd (Za.err 72 29 (Za.pair (Za.int .i64) (Za.pair (Za.int .i64) (Za.pair (Za.int .i64) Za.str)))) col w [v1] y.2) r col w0:=by
 intro l J X hjs hxs hy a;refine Zae (m:=26) (args:=[.func (.yield l) #[] #[],.pointer (some ⟨g0,0,none⟩)]) func63 rfl rfl rfl rfl ?_;rw [Znj.eq_1] at hm;refine go ?_;refine lW hb0.at1<|lV (.agg #[.string s,.int .i64 0,.int .i64 1,.int .i64 1]) (Y6 (l:=[_,_,_,_]) (qs:=[(0,1),(1,1),(2,1),(3,1)]) underlying137 zeroValue137 ⟨rfl,sizeOf9,rfl,sizeOf3,rfl,sizeOf3,rfl,sizeOf3,trivial⟩ rfl)<|Xz (col:=col) #[.string (⟨#[]⟩),.int .i64 0,.int .i64 0,.int .i64 0] 501 zeroValue137 ?_;intro H T U u I;replace hgl:=hgl.gr u;replace hb0:=hb0.gr u;replace a:=hjs _ _ _ _ _ a u.toP;refine Xf I ?_;intro V x K A;replace hgl:=hgl.kp x;replace hb0:=hb0.kp x;replace a:=hjs _ _ _ _ _ a (x.toP K rfl);refine go ?_;refine Z6 [0,3,1000000] (fun n f i=>∃ j r B C D E g,g=n∧Zgm N g B C D E=some r∧J r j i∧Ze 137 501 j i H #[.string B,.int .i64 C,.int .i64 D,.int .i64 E]∧Gl (.iface 141 (.agg #[.pointer (some ⟨4,24,none⟩)])) j i∧Ze 9 0 j i g0 #[.string s]) N ⟨_,_,_,0,1,1,_,rfl,hm,a,A,hgl,hb0⟩ ?_;clear hm;intro n f i L;obtain ⟨j,r,B,C,D,E,g,hn,hm,a,A,hgl,hb0⟩:=L;subst hn
 cases g with
 | zero=>rw [Zgm.eq_1] at hm;cases hm
 | succ g=>
  rw [Zgm.eq_2] at hm;refine go ?_;obtain ⟨b,M,hm⟩:=bZ hm;refine Zh (Zxn 501 M rfl A hgl) ?_;rintro _ W ⟨O,d,rfl,F,c,e⟩;refine ⟨_,rfl,?_⟩;replace hgl:=hgl.kpp F;replace hb0:=hb0.kpp F;replace a:=hjs _ _ _ _ _ a (F.mono (by first | exact fun _ h=>h | exact Zs6 rfl | exact pCo_p1 rfl | exact Zs7 rfl | exact fun _ _=>rfl));refine lM (.tuple #[(.agg #[.int .i8 b.1.1,.string b.1.2.1,.int .i64 b.1.2.2.1,.int .i64 b.1.2.2.2]),d])<|lV (.agg #[.int .i8 b.1.1,.string b.1.2.1,.int .i64 b.1.2.2.1,.int .i64 b.1.2.2.2]) (Xl rfl rfl)<|lv (v:=d) rfl rfl (Xl rfl rfl)<|Xz (col:=O) #[.int .i8 0,.string (⟨#[]⟩),.int .i64 0,.int .i64 0] 502 zeroValue63 ?_;intro Y Z aa k P;replace hgl:=hgl.gr k;replace c:=c.gr k;replace e:=e.gr k;replace hb0:=hb0.gr k;replace a:=hjs _ _ _ _ _ a k.toP;refine Xf P ?_;intro ab o Q t;replace hgl:=hgl.kp o;replace c:=c.kp o;replace e:=e.kp o;replace hb0:=hb0.kp o;replace a:=hjs _ _ _ _ _ a (o.toP Q rfl);refine lv (v:=d) rfl rfl (Y5 rfl)<|go ?_;refine lM (.func (.yield l) #[] #[])<|lV _ (Xx isAgg63 sizeOf63 t)<|lv (v:=d) rfl rfl (Wo rfl) ?_;obtain ⟨ac,hc_35m,R⟩:=bZ hm;cases R;have hm:=hc_35m;refine ly2 rfl rfl rfl rfl (hy _ _ _ _ [(.agg #[.int .i8 b.1.1,.string b.1.2.1,.int .i64 b.1.2.2.1,.int .i64 b.1.2.2.2]),d] a ⟨d,rfl,c⟩) ?_;rintro _ ad ⟨ae,p,⟨rfl,S⟩ | ⟨rfl,hX⟩⟩
  ·refine ⟨_,rfl,?_⟩;have a:=S;refine go ?_;refine lG 17 rfl rfl<|lv (v:=d) rfl rfl (Wo rfl)<|lG 17 rfl rfl ?_;replace c:=c.kpp p;refine lV (.bool b.2.1.isSome) (Zt2 c underlying24 rfl)<|lV (.bool b.2.1.isSome) (Z0 rfl rfl)<|Yg rfl ?_;replace hgl:=hgl.kpp p;replace e:=e.kpp p;replace hb0:=hb0.kpp p;replace t:=t.kpp p;refine Z7 hm (fun G hm=>go ?_) fun G hm=>go ?_
   ·refine lV (.bool true) (Zx (congrArg Value.bool G) rfl)<|Zj<|X8 rfl<|W0 ?_;cases hm;exact ⟨rfl,⟨_,rfl⟩,_,.inl a⟩
   refine Zv ⟨_,_,rfl⟩ ?_;refine go ?_;refine lW ((t.atN).nth (q:=0) rfl)<|go ?_;refine lV (.bool (decide (b.1.1=0))) (Z0 (congrArg Value.bool G) rfl)<|Zj ?_;refine Zm hm (fun hb hm=>?_) fun hb hm=>?_
   ·refine W0 ?_;cases hm;exact ⟨rfl,⟨_,rfl⟩,_,.inl a⟩
   refine Z1 ?_;exact ⟨g,by omega,rfl,⟨_,_,_,_,_,_,_,rfl,hm,a,e,hgl,hb0⟩⟩
  refine ⟨_,rfl,?_⟩;have a:=hX;refine go ?_;refine lP 17 rfl rfl<|lP 17 rfl rfl<|lV (.bool true) (Zx rfl rfl)<|Yg rfl<|lP 21 rfl rfl<|lP 21 rfl rfl<|lP 21 rfl rfl<|lV (.bool true) (Zx rfl rfl)<|Zj<|X8 rfl<|W0 ?_;exact ⟨rfl,⟨_,rfl⟩,_,.inr a⟩
def Zni (N:Nat) (a:ByteArray):Option (List ((Int×ByteArray×Int×Int)×(Option (Int×Int×Int×ByteArray)))):=
  Znj N a
theorem Zxf {N:Nat} {col:Zd} {w0:World} {a:ByteArray} {r:(List ((Int×ByteArray×Int×Int)×(Option (Int×Int×Int×ByteArray))))} (hm:Zni N a=some r) (hgl:Gl (.iface 141 (.agg #[.pointer (some ⟨4,24,none⟩)])) col w0):
    Calls prog 43 #[.string a] w0 (fun e w'=>∃ (col':Zd) (rv1:Value),e= .returned (rv1)∧Zg col w0 col' w'∧It prog 1 rv1 (fun (y:(Int×ByteArray×Int×Int)×(Option (Int×Int×Int×ByteArray))) (col:Zd) (w:World) (args:List Value)=>∃ (v1:Value),args=[(.agg #[.int .i8 y.1.1,.string y.1.2.1,.int .i64 y.1.2.2.1,.int .i64 y.1.2.2.2]),v1]∧Rd (Za.err 72 29 (Za.pair (Za.int .i64) (Za.pair (Za.int .i64) (Za.pair (Za.int .i64) Za.str)))) col w [v1] y.2) r qz col' w'):=by
 refine Z5 2 (m:=4) func43 O O O O O ?_;rw [Zni.eq_1] at hm;have b:=St.start col w0;refine go ?_;refine Zje (col:=(Zi col)) (v:=(.string a)) 1 O O ?_;intro c l i j d;replace d:Ze 9 1 i l c #[.string a]:=d;refine lv (v:=_) O O (Y5 O)<|go ?_;refine lV (.func (.func 63) #[] #[.pointer (some ⟨c,0,none⟩)]) (Ztt O)<|lA (.func (.func 63) #[] #[.pointer (some ⟨c,0,none⟩)])<|go ?_;replace b:=b.grow j;have f:=b.finBox (G:=(fun n=>bif Nat.beq n 1 then 0 else 0)) d (by decide) (by decide) (show (fun n=>bif Nat.beq n 1 then 0 else 0) 1=0 from O);replace hgl:=(hgl.keep (Zl.start col w0)).gr j;have hglf:=b.finGl (g:=(fun n=>bif Nat.beq n 1 then 0 else 0)) O hgl;refine ⟨O,Vv w0.heap.size col i (fun n=>bif Nat.beq n 1 then 0 else 0),_,O,b.fin (fun n=>bif Nat.beq n 1 then 0 else 0),63,[.pointer (some ⟨c,0,none⟩)],O,call63,?_⟩;intro col9 w9 k hk9;replace f:=f.itk k hk9 O;replace hglf:=hglf.itk k hk9 O;exact Zxg N col9 w9 c a f hglf r hm

end Go.Proofs.YtdpdogdkolblnaaGreatDoor
