/-
  What functions of the program compute, as plain Lean functions (m_..), and proofs that they compute it (c_..). Printed by a program of the author; no conditions.
-/
import Derived.Test.YtbmjpjhbankpoaaGreatJointSharesBFloat
import Derived.Test.YtbmjpjhbankpoaaGreatProg
import Derived.Test.YtbmjpjhbankpoaaGreatJointSharesBBrief
import Derived.Test.YtbmjpjhbankpoaaGreatJointSharesBThree
import Derived.Test.YtbmjpjhbankpoaaGreatJointSharesF2
set_option linter.unusedVariables false
set_option maxRecDepth 100000
set_option maxHeartbeats 2000000
namespace Go.Proofs.YtbmjpjhbankpoaaGreat
open Go Go.RowKit
open Go.IntKind (i8 i16 i32 i64 u8 u16 u32 u64)
open Go.Proofs.Tryz

def Zf2 (N:Nat) (aa:Int):Option R2:=
  (Uj N [u32.wrap (Int.tmod aa 4294967296),u32.wrap (u64.wrap (Int.tdiv aa 4294967296))]).bind fun ab=>some ab
theorem Zpt {N:Nat} {col:Zd} {w0:World} {aa:Int} {r:R2} (c1:Nat) (hm:Zf2 N aa=some r):
    Calls prog 229 #[.int .u64 aa] w0 (fun e w'=>∃ (col':Zd) (ra1:Option Addr) (rc2:Nat),e= .returned ((.slice ra1 r.length rc2))∧Zi col w0 col' w'∧Zc (Za.int .u32) 79 c1 col' w' ra1 rc2 r):=by
 refine Xk 2 (m:=11) func229 rfl rfl rfl rfl rfl ?_;rw [Zf2.eq_1] at hm;have ab:=St.start col w0;refine go ?_;refine lV (.int .u64 (Int.tmod aa 4294967296)) (Sn aa 4294967296 rfl rfl (by decide))<|go ?_;refine lV (.int .u64 (u64.wrap (Int.tdiv aa 4294967296))) (V2 aa 4294967296 rfl rfl (by decide))<|go ?_;refine Vr (col:=(Zj col)) [u32.wrap (Int.tmod aa 4294967296),u32.wrap (u64.wrap (Int.tdiv aa 4294967296))] 1 ?_;intro ak af ad ag ah;obtain ⟨al,ai,hm⟩:=bZ hm;refine Zh (Ty 2 ai (ah.toSlF (Zg.int .u32))) ?_;rintro _ am ⟨aj,an,ao,rfl,ac,ae⟩;refine ⟨_,rfl,?_⟩;replace ae:=ae.thaw (Z0 .u32) ac ((Fz.refl (col:=ad)).froz 1) (by decide);replace ac:=ac.thawR (col:=ad);generalize Xc af.heap.size ad aj=ap at *;refine go ?_;cases hm;replace ab:=(ab.grow ag).grow ac;exact ⟨rfl,_,_,_,rfl,ab.fin (cm [(2,c1)]),ab.fo ae⟩
theorem Zu2 (N:Nat) (a:List Int) (hb:a.length≤1099511627776):∀ (n j:Nat),j≤a.length→Za4 N a n (j:Int)=Tn N n (a.take j)
 | 0,j,_=>rfl
 | n+1,j,hj=>by
  have hl:(a.take j).length=j:=by rw [nK];omega
  have ht:0<j→Zq (a.take j) ((j - 1:Nat):Int)=Zq a ((j - 1:Nat):Int):=fun h=>by rw [Zed,Zed,List.getElem?_take,if_pos (by omega)]
  rw [Za4.eq_2,Tn.eq_2,hl]
  by_cases h0:0<j
  ·have e:(j:Int) - 1=((j - 1:Nat):Int):=by omega
   rw [if_pos (dT (by omega)),if_pos (dT (by omega)),Z2 (by omega),e,ht h0,Xg (by omega),oB,oB,Zf1,Za0,hl,Z2 (by omega),e,Int.toNat_natCast,Int.toNat_natCast]
   by_cases hx:a[j - 1]=0
   ·rw [if_pos (dT hx),if_pos (dT hx),Z7 (by omega),Zu2 N a hb n (j - 1) (by omega),List.take_take,Nat.min_eq_left (by omega)]
   ·rw [if_neg (dF hx),if_neg (dF hx),Z7 (by omega),Z7 (by rw [hl];simp only [nN,maxLen];omega),List.nil_append]
  ·have:j=0:=by omega
   subst this
   rw [if_neg (by decide),if_neg (by decide),Zf1,Za0,if_neg (by decide),if_neg (by decide),Z7 (by omega)]
   exact Z7 (by simp [maxLen])
theorem Sq {N:Nat} {a:List Int} (h:Zn a) (hn:a.length<N) (hb:a.length≤1099511627776):Uj N a=some (Ze (Zb a)):=by
 rw [Uj,Zu2 N a hb N a.length (Nat.le_refl _),List.take_length]
 exact Zlw N N a h hn (by omega)
theorem Zu4 {N:Nat} {u:Int} (h:0≤u∧u<18446744073709551616) (hn:2<N):Zf2 N u=some (Ze u.toNat):=by
 have e1:u32.wrap (Int.tmod u 4294967296)=u % 4294967296:=by rw [Int.tmod_eq_emod_of_nonneg h.1,V4 (by omega)]
 have e2:u32.wrap (u64.wrap (Int.tdiv u 4294967296))=u / 4294967296:=by rw [Int.tdiv_eq_ediv_of_nonneg h.1,Xo (by omega),V4 (by omega)]
 have hl:Zn [u % 4294967296,u / 4294967296]:=.cons (by omega) (.cons (by omega) .nil)
 have e:Zb [u % 4294967296,u / 4294967296]=u.toNat:=by rw [Y3,Y3,Ym];omega
 rw [Zf2,e1,e2,Sq hl (by simpa using hn) (by simp),oB,e]
theorem Zcz {a:List Int} (h:Zn a) (k:Nat):Qb a (k:Int)=some ((Xw a k:Nat):Int):=by
 rw [Qb]
 by_cases hk:k<a.length
 ·have:=h.get hk
  rw [if_pos (dT (by omega)),Xg hk,oB,Xo (by omega),Xw,List.getD_eq_getElem?_getD,List.getElem?_eq_getElem hk,Option.getD_some]
  congr 1;omega
 ·rw [if_neg (dF (by omega)),Xw,List.getD_eq_getElem?_getD,List.getElem?_eq_none (by omega)];rfl
theorem Zlc {a:List Int} (h:Zn a) (k:Nat):Zb (a.take k)<4294967296 ^ k:=by
 have h1:=Sh (h.take k)
 refine Nat.lt_of_lt_of_le h1 (Nat.pow_le_pow_right (by decide) ?_)
 rw [nK];omega
theorem Zoj (N:Nat) (a b:List Int) (ha:Zn a) (hb:Zn b):∀ (n i:Nat),i<4611686018427387904→i<n→Zb (a.drop i)=Zb (b.drop i)→Zdq N a b n ((i:Int) - 1)=some (if Zb a<Zb b then -1 else if Zb b<Zb a then 1 else 0)
 | 0,i,_,h,_=>by omega
 | n+1,i,hi,hn,he=>by
  rw [Zdq.eq_2]
  by_cases h0:i=0
  ·subst h0
   rw [if_neg (by decide)]
   rw [List.drop_zero,List.drop_zero] at he
   rw [if_neg (by omega),if_neg (by omega)]
  ·have e:(i:Int) - 1=((i - 1:Nat):Int):=by omega
   have e1:i - 1+1=i:=by omega
   rw [if_pos (dT (by omega)),e,Zcz ha,Zcz hb,oB,oB]
   have va:=Ut a (i - 1)
   have vb:=Ut b (i - 1)
   rw [Us a,e1] at va
   rw [Us b,e1,← he] at vb
   have la:=Zlc ha (i - 1)
   have lb:=Zlc hb (i - 1)
   have key:∀ x y:Nat,x<y→4294967296 ^ (i - 1) * (x+4294967296 * Zb (a.drop i))+4294967296 ^ (i - 1)≤4294967296 ^ (i - 1) * (y+4294967296 * Zb (a.drop i)):=fun x y hxy=>by
    rw [← Nat.mul_succ];exact Nat.mul_le_mul_left _ (by omega)
   generalize 4294967296 ^ (i - 1)=Q at *
   by_cases hlt:Xw a (i - 1)<Xw b (i - 1)
   ·have:=key _ _ hlt
    rw [if_pos (dT (by omega)),if_pos (by omega)]
   ·rw [if_neg (dF (by omega))]
    by_cases hgt:Xw b (i - 1)<Xw a (i - 1)
    ·have:=key _ _ hgt
     rw [if_pos (dT (by omega)),if_neg (by omega),if_pos (by omega)]
    ·rw [if_neg (dF (by omega)),Z2 (by omega)]
     exact Zoj N a b ha hb n (i - 1) (by omega) (by omega) (by rw [Us a,Us b,e1,he];omega)
theorem Zok {N:Nat} {a b:List Int} (ha:Zn a) (hb:Zn b) (h1:a.length<N) (h2:b.length<N) (h3:a.length≤1099511627776) (h4:b.length≤1099511627776):
  Zdp N a b=some (if Zb a<Zb b then -1 else if Zb b<Zb a then 1 else 0):=by
 have dz:∀ (l:List Int) (k:Nat),l.length≤k→Zb (l.drop k)=0:=fun l k h=>by rw [List.drop_eq_nil_of_le h];rfl
 rw [Zdp]
 by_cases h:a.length<b.length
 ·rw [if_pos (dT (by omega)),Zfw,Z2 (by omega)]
  exact Zoj N a b ha hb N b.length (by omega) h2 (by rw [dz a _ (by omega),dz b _ (by omega)])
 ·rw [if_neg (dF (by omega)),Zfw,Z2 (by omega)]
  exact Zoj N a b ha hb N a.length (by omega) h1 (by rw [dz a _ (by omega),dz b _ (by omega)])
theorem Zv0 {s:Int} (h:0≤s∧s<18446744073709551616):u32.wrap (Int.tmod s 4294967296)=((s.toNat % 4294967296:Nat):Int):=by
 rw [Int.tmod_eq_emod_of_nonneg h.1,V4 (by omega)];omega
theorem Zvz {s:Int} (h:0≤s∧s<18446744073709551616):u64.wrap (Int.tdiv s 4294967296)=((s.toNat / 4294967296:Nat):Int):=by
 rw [Int.tdiv_eq_ediv_of_nonneg h.1,Xo (by omega)];omega
theorem Zn1 {S Q A B C:Nat} (h:A=B+4294967296 * C):S+Q * B+Q * 4294967296 * C=S+Q * A:=by
 subst h;grind
theorem Zuj (N:Nat) (a b:List Int) (ha:Zn a) (hb:Zn b) (hN:a.length+b.length+2<N) (hs:a.length+b.length<1099511627000):∀ (n i:Nat) (out:List Int) (c:Nat),out.length=i→Zn out→c≤1→i≤a.length+b.length+2→(i≤a.length+b.length+1∨c=0)→a.length+b.length+3≤n+i→
  Sd N a b n out (c:Int) (i:Int)=some (Ze (Zb out+4294967296 ^ i * (c+Zb (a.drop i)+Zb (b.drop i))))
 | 0,i,out,c,_,_,_,h1,_,h2=>by omega
 | n+1,i,out,c,ho,hO,hc,h1,h2,h3=>by
  have go:(i<a.length∨i<b.length∨0<c)→Zhr a b out (c:Int) (i:Int) (Sd N a b n)=some (Ze (Zb out+4294967296 ^ i * (c+Zb (a.drop i)+Zb (b.drop i)))):=fun hgo=>by
   have la:=Zcy ha i
   have lb:=Zcy hb i
   have es:u64.wrap (u64.wrap ((c:Int)+((Xw a i:Nat):Int))+((Xw b i:Nat):Int))=((c+Xw a i+Xw b i:Nat):Int):=by
    rw [Xo (x:=(c:Int)+_) (by omega),Xo (by omega)];omega
   rw [Zhr,Zcz ha,Zcz hb,oB,oB,es,Zv0 (by omega),Zvz (by omega),Int.toNat_natCast]
   generalize hsum:c+Xw a i+Xw b i=s
   rw [Z7 (by simp only [List.length_singleton,maxLen];omega),Z2 (by omega)]
   have ih:=Zuj N a b ha hb hN hs n (i+1) (out++[((s % 4294967296:Nat):Int)]) (s / 4294967296) (by simp [ho]) (hO.app (.cons (by omega) .nil)) (by omega) (by omega) (by
    by_cases hi:i<a.length∨i<b.length
    ·omega
    ·right
     have za:Xw a i=0:=by rw [Xw,List.getD_eq_getElem?_getD,List.getElem?_eq_none (by omega)];rfl
     have zb:Xw b i=0:=by rw [Xw,List.getD_eq_getElem?_getD,List.getElem?_eq_none (by omega)];rfl
     omega) (by omega)
   rw [show ((i+1:Nat):Int)=(i:Int)+1 by omega] at ih
   rw [ih,Sg,ho,Y3,Ym,Int.toNat_natCast,Us a i,Us b i,Nat.pow_succ]
   congr 2
   rw [Nat.mul_zero,Nat.add_zero]
   refine Zn1 ?_
   omega
  rw [Sd.eq_2]
  by_cases hia:i<a.length
  ·rw [if_pos (dT (by omega)),Zb7,if_pos rfl];exact go (.inl hia)
  ·rw [if_neg (dF (by omega))]
   by_cases hib:i<b.length
   ·rw [if_pos (dT (by omega)),Zb7,if_pos rfl];exact go (.inr (.inl hib))
   ·rw [if_neg (dF (by omega)),Zb7]
    by_cases hcp:0<c
    ·rw [if_pos (dT (by omega))];exact go (.inr (.inr hcp))
    ·have:c=0:=by omega
     subst this
     rw [if_neg (by decide),Sq hO (by omega) (by omega),oB,List.drop_eq_nil_of_le (by omega),List.drop_eq_nil_of_le (by omega),Ym]
     simp
theorem Z17 {N:Nat} {a b:List Int} (ha:Zn a) (hb:Zn b) (hN:a.length+b.length+3<N) (hs:a.length+b.length<1099511627000):Zhq N a b=some (Ze (Zb a+Zb b)):=by
 have:=Zuj N a b ha hb (by omega) hs N 0 [] 0 rfl .nil (by omega) (by omega) (by omega) (by omega)
 rw [List.drop_zero,List.drop_zero,Ym,Nat.pow_zero] at this
 rw [Zhq,show (0:Int)=((0:Nat):Int) from rfl,this]
 simp
theorem Zvc (N:Nat) (a b:List Int) (ha:Zn a) (hb:Zn b) (hN:a.length<N) (hs:a.length<1099511627776):∀ (n i:Nat) (out:List Int) (c:Nat),out.length=i→Zn out→c≤1→i≤a.length→a.length<n+i→c+Zb (b.drop i)≤Zb (a.drop i)→
  Qa N a b n out (c:Int) (i:Int)=some (Ze (Zb out+4294967296 ^ i * (Zb (a.drop i) - (c+Zb (b.drop i)))),true)
 | 0,i,out,c,_,_,_,h1,h2,_=>by omega
 | n+1,i,out,c,ho,hO,hc,h1,h2,h3=>by
  rw [Qa.eq_2]
  by_cases hi:i<a.length
  ·have la:=Zcy ha i
   have lb:=Zcy hb i
   rw [Us a i,Us b i] at h3
   have go:∀ (c':Nat) (x:Int),c'≤1→x=((Xw a i+4294967296 * c':Nat):Int)→Xw b i+c≤Xw a i+4294967296 * c'→Xw a i+4294967296 * c'<Xw b i+c+4294967296→Zf4 out (c:Int) (i:Int) (Qa N a b n) ((Xw b i:Nat):Int) (c':Int) x=some (Ze (Zb out+4294967296 ^ i * (Zb (a.drop i) - (c+Zb (b.drop i)))),true):=fun c' x hc' hx h5 h6=>by
    have ev:u32.wrap (u64.wrap (x - u64.wrap (((Xw b i:Nat):Int)+(c:Int))))=((Xw a i+4294967296 * c' - (Xw b i+c):Nat):Int):=by
     rw [Xo (x:=((Xw b i:Nat):Int)+(c:Int)) (by omega),Xo (by omega),V4 (by omega)];omega
    rw [Zf4,ev,Z7 (by simp only [List.length_singleton,maxLen];omega),Zkl,Z2 (by omega)]
    generalize hv:Xw a i+4294967296 * c' - (Xw b i+c)=v
    have ih:=Zvc N a b ha hb hN hs n (i+1) (out++[(v:Int)]) c' (by simp [ho]) (hO.app (.cons (by omega) .nil)) hc' (by omega) (by omega) (by omega)
    rw [show ((i+1:Nat):Int)=(i:Int)+1 by omega] at ih
    rw [ih,Sg,ho,Y3,Ym,Int.toNat_natCast,Us a i,Us b i,Nat.pow_succ,Nat.mul_zero,Nat.add_zero]
    congr 3
    refine Zn1 ?_
    omega
   rw [if_pos (dT (by omega)),Zcz ha,Zcz hb,oB,oB,Xo (x:=((Xw b i:Nat):Int)+(c:Int)) (by omega)]
   by_cases hlt:Xw a i<Xw b i+c
   ·rw [if_pos (dT (by omega))]
    exact go 1 _ (by omega) (by rw [Xo (by omega)];omega) (by omega) (by omega)
   ·rw [if_neg (dF (by omega))]
    exact go 0 _ (by omega) (by omega) (by omega) (by omega)
  ·rw [if_neg (dF (by omega)),Sq hO (by omega) (by omega),oB]
   rw [List.drop_eq_nil_of_le (show a.length≤i by omega),Ym] at h3 ⊢
   rw [show 0 - (c+Zb (b.drop i))=0 by omega]
   simp
theorem Zop {N:Nat} {a b:List Int} (ha:Zn a) (hb:Zn b) (h1:a.length<N) (h2:b.length<N) (h3:a.length<1099511627776) (h4:b.length<1099511627776):
  Zf3 N a b=some (if Zb a<Zb b then ([],false) else (Ze (Zb a - Zb b),true)):=by
 rw [Zf3,Zok ha hb h1 h2 (by omega) (by omega),oB]
 by_cases h:Zb a<Zb b
 ·rw [if_pos h,if_pos (by decide),if_pos h]
 ·have:=Zvc N a b ha hb h1 h3 N 0 [] 0 rfl .nil (by omega) (by omega) (by omega) (by simpa using Nat.le_of_not_lt h)
  rw [if_neg h,if_neg (by split <;> decide),if_neg h,show (0:Int)=((0:Nat):Int) from rfl,this]
  simp [Ym]
theorem Zul (N:Nat):∀ (n:Nat) (c:Int) (t:Nat),Xd t<n→t<4294967296→0≤c∧c+(Xd t:Int)≤4611686018427387904→Zdo N n c (t:Int)=some (c+(Xd t:Int))
 | 0,c,t,h,_,_=>by omega
 | n+1,c,t,h,ht,hc=>by
  rw [Zdo.eq_2]
  have hb:Xd t≤32:=Vo.2 (by omega)
  by_cases h0:0<t
  ·have e:u32.wrap (Int.tdiv (t:Int) 2)=((t / 2:Nat):Int):=by rw [Int.tdiv_eq_ediv_of_nonneg (by omega),V4 (by omega)];omega
   have hs:=Zgx t 1
   rw [Nat.pow_one] at hs
   have h1:1≤Xd t:=by rw [Xd,if_neg (by omega)];omega
   rw [if_pos (dT (by omega)),e,Z2 (by omega),Zul N n (c+1) (t / 2) (by omega) (by omega) (by omega)]
   congr 1;omega
  ·have:t=0:=by omega
   subst this
   rw [if_neg (by decide),Zef];simp
theorem Z2a {N:Nat} {a:List Int} (h:Zn a) (hn:a.length+32<N) (hb:a.length≤1099511627776):Zht N a=some ((Xd (Zb a):Nat):Int):=by
 have hl:=Ys h
 rw [Zht,Sq h (by omega) hb,oB]
 by_cases h0:(Ze (Zb a)).length=0
 ·have:Zb a=0:=Zet.1 (List.eq_nil_of_length_eq_zero h0)
  rw [if_pos (dT (by omega)),this,Zef];rfl
 ·have hp:0<(Ze (Zb a)).length:=by omega
  have e:((Ze (Zb a)).length:Int) - 1=(((Ze (Zb a)).length - 1:Nat):Int):=by omega
  have hx:=(Z9 (Zb a)).get (k:=(Ze (Zb a)).length - 1) (by omega)
  have hne:=Zj8 hp
  have hs:=Zes hp
  have e2:(Ze (Zb a))[(Ze (Zb a)).length - 1]=(((Ze (Zb a))[(Ze (Zb a)).length - 1]).toNat:Int):=by omega
  have hb2:Xd ((Ze (Zb a))[(Ze (Zb a)).length - 1]).toNat≤32:=Vo.2 (by omega)
  rw [if_neg (dF (by omega)),Z2 (by omega),e,Xg (by omega),oB,e2,Z2 (by omega),Zul N N _ _ (by omega) (by omega) (by omega)]
  have hb:=Zpe (a:=(Ze (Zb a)).take ((Ze (Zb a)).length - 1)) (x:=(Ze (Zb a))[(Ze (Zb a)).length - 1]) ((Z9 _).take _) (by omega)
  rw [hs,Z4,nK,Nat.min_eq_left (by omega)] at hb
  rw [hb]
  congr 1
theorem Zwp (T l R k s:Nat) (hT:T<4294967296 ^ k) (hs:s<32):(T+4294967296 ^ k * (l+4294967296 * R)) / 2 ^ (32 * k+s) % 2=l / 2 ^ s % 2:=by
 have e:(4294967296:Nat) ^ k=2 ^ (32 * k):=by rw [show (4294967296:Nat)=2 ^ 32 by decide,← Nat.pow_mul]
 have hp:0<4294967296 ^ k:=Nat.pow_pos (by decide)
 rw [Nat.pow_add,← e,← Nat.div_div_eq_div_mul,Nat.add_mul_div_left _ _ hp,Nat.div_eq_of_lt hT,Nat.zero_add]
 have pw:(4294967296:Nat)=2 ^ s * (2 * 2 ^ (31 - s)):=by
  rw [Nat.mul_left_comm,← Nat.pow_add,show s+(31 - s)=31 by omega]
 have e2:l+4294967296 * R=l+2 ^ s * (2 * (2 ^ (31 - s) * R)):=by
  conv=>lhs;rw [pw]
  rw [Nat.mul_assoc,Nat.mul_assoc]
 rw [e2,Nat.add_mul_div_left _ _ (Nat.two_pow_pos s),Nat.add_mul_mod_self_left]
theorem Z19 {a:List Int} (h:Zn a) {i:Nat} (hi:i<4611686018427387904):Zhs a (i:Int)=some ((Zb a / 2 ^ i % 2:Nat):Int):=by
 have hl:=Zcy h (i / 32)
 have e1:i64.wrap (Int.tdiv (i:Int) 32)=((i / 32:Nat):Int):=by rw [Int.tdiv_eq_ediv_of_nonneg (by omega),Z2 (by omega)];omega
 have e2:Int.tmod (i:Int) 32=((i % 32:Nat):Int):=by rw [Int.tmod_eq_emod_of_nonneg (by omega)];omega
 rw [Zhs,e1,Zcz h,oB,e2,Z7 (by omega),Zlu _ _ _ (by simp only [IntKind.bits];omega)]
 have hd:=Nat.div_le_self (Xw a (i / 32)) (2 ^ (i % 32))
 have e3:=Zwp (Zb (a.take (i / 32))) (Xw a (i / 32)) (Zb (a.drop (i / 32+1))) (i / 32) (i % 32) (Zlc h _) (by omega)
 rw [← Us a,← Ut,show 32 * (i / 32)+i % 32=i by omega] at e3
 rw [e3]
 generalize Xw a (i / 32) / 2 ^ (i % 32)=x at *
 rw [V4 (by omega),Int.tmod_eq_emod_of_nonneg (by omega)]
 congr 1
theorem Zup (N:Nat) (a:List Int) (ha:Zn a) (hs:a.length<1099511627776):∀ (n i:Nat) (out:List Int) (c:Nat),out.length=i→Zn out→c≤1→i≤a.length→a.length<n+i→
  ∃ o,Zdt N a n out (c:Int) (i:Int)=some o∧o.length≤a.length+1∧Zn o∧Zb o=Zb out+4294967296 ^ i * (c+2 * Zb (a.drop i))
 | 0,i,out,c,_,_,_,h1,h2=>by omega
 | n+1,i,out,c,ho,hO,hc,h1,h2=>by
  rw [Zdt.eq_2]
  by_cases hi:i<a.length
  ·have ga:=ha.get hi
   have es:u64.wrap ((c:Int)+u64.wrap (2 * u64.wrap a[i]))=((c+2 * (a[i]).toNat:Nat):Int):=by
    rw [Xo (x:=a[i]) (by omega),Xo (x:=2 * _) (by omega),Xo (by omega)];omega
   rw [if_pos (dT (by omega)),Xg hi,oB,es,Zv0 (by omega),Zvz (by omega),Int.toNat_natCast]
   generalize hS:c+2 * (a[i]).toNat=S
   rw [Z7 (by simp only [List.length_singleton,maxLen];omega),Z2 (by omega)]
   obtain ⟨o,q1,q2,q3,q4⟩:=Zup N a ha hs n (i+1) (out++[((S % 4294967296:Nat):Int)]) (S / 4294967296) (by simp [ho]) (hO.app (.cons (by omega) .nil)) (by omega) (by omega) (by omega)
   rw [show ((i+1:Nat):Int)=(i:Int)+1 by omega] at q1
   refine ⟨o,q1,q2,q3,?_⟩
   rw [q4,Sg,ho,Y3,Ym,Int.toNat_natCast,Ua hi,Nat.pow_succ,Nat.mul_zero,Nat.add_zero]
   refine Zn1 ?_
   omega
  ·have hia:i=a.length:=by omega
   rw [if_neg (dF (by omega))]
   by_cases hcp:0<c
   ·rw [if_pos (dT (by omega)),Z7 (by simp only [List.length_singleton,maxLen];omega),Zf6,V4 (by omega)]
    refine ⟨_,rfl,by simp;omega,hO.app (.cons (by omega) .nil),?_⟩
    rw [Sg,ho,Y3,Ym,Int.toNat_natCast,List.drop_eq_nil_of_le (by omega),Ym]
   ·have:c=0:=by omega
    subst this
    rw [if_neg (by decide),Zf6]
    refine ⟨_,rfl,by omega,hO,?_⟩
    rw [List.drop_eq_nil_of_le (by omega),Ym];simp
theorem Zuq {N:Nat} {a:List Int} {c:Nat} (ha:Zn a) (hc:c≤1) (hN:a.length<N) (hs:a.length<1099511627776):∃ o,Zf5 N a (c:Int)=some o∧o.length≤a.length+1∧Zn o∧Zb o=2 * Zb a+c:=by
 obtain ⟨o,q1,q2,q3,q4⟩:=Zup N a ha hs N 0 [] c rfl .nil hc (by omega) (by omega)
 refine ⟨o,?_,q2,q3,?_⟩
 ·rw [Zf5,Xo (by omega)];exact q1
 ·rw [q4,Ym,Nat.pow_zero,List.drop_zero];omega
theorem Zzx (Q e o2 r S v L:Nat) (h:r * 4294967296+e=2 * v+o2) (hS:S=Q * (o2+2 * (v+4294967296 * L))):S=Q * e+Q * 4294967296 * (r+2 * L):=by
 subst hS
 have:Q * (r * 4294967296+e)=Q * (2 * v+o2):=by rw [h]
 grind
theorem Zu0 (N:Nat) (a:List Int) (ha:Zn a) (hN:a.length<N) (hs:a.length<1099511627776):∀ (n j:Nat) (out:List Int) (r:Nat),out.length=a.length→Zn out→r≤1→j≤a.length→j<n→Zb (out.take j)=0→
  ∃ v,Zdu N a n out (r:Int) ((j:Int) - 1)=some (Ze v)∧∃ ρ,ρ≤1∧2 * v+ρ=Zb (a.take j)+4294967296 ^ j * (r+2 * Zb (out.drop j))
 | 0,j,out,r,_,_,_,_,h,_=>by omega
 | n+1,j,out,r,ho,hO,hr,hj,hn,hz=>by
  rw [Zdu.eq_2]
  by_cases h0:j=0
  ·subst h0
   rw [if_neg (by decide),Sq hO (by omega) (by omega),oB]
   refine ⟨_,rfl,r,hr,?_⟩
   rw [List.take_zero,Ym,List.drop_zero,Nat.pow_zero];omega
  ·have e:(j:Int) - 1=((j - 1:Nat):Int):=by omega
   have e1:j - 1+1=j:=by omega
   have hk:j - 1<a.length:=by omega
   have g:=ha.get hk
   have es:u64.wrap (u64.wrap ((r:Int) * 4294967296)+u64.wrap a[j - 1])=((r * 4294967296+(a[j - 1]).toNat:Nat):Int):=by
    rw [Xo (x:=a[j - 1]) (by omega),Xo (x:=(r:Int) * 4294967296) (by omega),Xo (by omega)];omega
   rw [if_pos (dT (by omega)),e,Xg hk,oB,Xg (by omega),oB,oB,Int.toNat_natCast,es,Z2 (by omega)]
   generalize hS:r * 4294967296+(a[j - 1]).toNat=S
   have e2:u32.wrap (u64.wrap (Int.tdiv (S:Int) 2))=((S / 2:Nat):Int):=by rw [Int.tdiv_eq_ediv_of_nonneg (by omega),Xo (by omega),V4 (by omega)];omega
   have e3:Int.tmod (S:Int) 2=((S % 2:Nat):Int):=by rw [Int.tmod_eq_emod_of_nonneg (by omega)];omega
   have zt:Zb (out.take (j - 1))=0:=by
    have:=Ut (out.take j) (j - 1)
    rw [List.take_take,Nat.min_eq_left (by omega),hz] at this
    omega
   rw [e2,e3]
   obtain ⟨v,q1,ρ,q2,q3⟩:=Zu0 N a ha hN hs n (j - 1) (out.set (j - 1) ((S / 2:Nat):Int)) (S % 2) (by rw [nS];exact ho) (hO.set _ (by omega)) (by omega) (by omega) (by omega) (by rw [Zcm _ (Nat.le_refl _)];exact zt)
   refine ⟨v,q1,ρ,q2,?_⟩
   rw [q3]
   have t1:=Znw hk
   have t2:Zb ((out.set (j - 1) ((S / 2:Nat):Int)).drop (j - 1))=S / 2+4294967296 * Zb (out.drop (j - 1+1)):=by
    rw [Ua (by rw [nS];omega),List.getElem_set_self,Zad _ (by omega),Int.toNat_natCast]
   rw [e1] at t1 t2
   have hp:(4294967296:Nat) ^ j=4294967296 ^ (j - 1) * 4294967296:=by rw [← Nat.pow_succ,show (j - 1).succ=j by omega]
   rw [t1,t2,hp,Nat.add_assoc]
   congr 1
   exact Zzx _ _ (S % 2) _ _ (S / 2) _ (by omega) rfl
theorem Zls {N:Nat} {a:List Int} (ha:Zn a) (hN:a.length<N) (hs:a.length<1099511627776):Zb9 N a=some (Ze (Zb a / 2)):=by
 obtain ⟨v,q1,ρ,q2,q3⟩:=Zu0 N a ha hN hs N a.length (List.replicate a.length 0) 0 (by rw [List.length_replicate]) (.zeros _) (by omega) (Nat.le_refl _) hN (by rw [List.take_replicate];exact Si _)
 rw [Zb9,Z7 (by simp only [maxLen];omega),Z2 (by omega)]
 rw [List.take_length,List.drop_replicate,Si] at q3
 refine Eq.trans q1 ?_
 rw [show v=Zb a / 2 by omega]
theorem Z06 {a:List Int} (h:Zn a):Zb a % 2=Xw a 0 % 2:=by
 have:=Us a 0
 rw [List.drop_zero] at this
 omega
theorem Zlr {a:List Int} (h:Zn a):Zb8 a=some (decide (Zb a % 2=0)):=by
 rw [Zb8,Z06 h]
 by_cases h0:a.length=0
 ·have:a=[]:=List.eq_nil_of_length_eq_zero h0
  subst this
  rfl
 ·have g:=h.get (k:=0) (by omega)
  have ea:Xw a 0=(a[0]).toNat:=by rw [Xw,List.getD_eq_getElem?_getD,List.getElem?_eq_getElem (by omega),Option.getD_some]
  rw [if_neg (dF (by omega)),show (0:Int)=((0:Nat):Int) from rfl,Xg (by omega),oB,Zhw,Int.tmod_eq_emod_of_nonneg (by omega),ea]
  congr 1
  exact decide_eq_decide.2 (by omega)
theorem Z1h {q:List Int} (hq:Zn q) {i:Nat} (hi:i<32 * q.length) (hd:2 ^ (i+1) ∣ Zb q):
  ∃ x:Nat,Zq q ((i / 32:Nat):Int)=some (x:Int)∧u32.wrap ((x:Int)+Xy .u32 1 ((i % 32:Nat):Int))=((x+2 ^ (i % 32):Nat):Int)∧x+2 ^ (i % 32)<4294967296∧Zb (q.set (i / 32) ((x+2 ^ (i % 32):Nat):Int))=Zb q+2 ^ i:=by
 have hk:i / 32<q.length:=by omega
 have g:=hq.get hk
 have hs:i % 32<32:=Nat.mod_lt _ (by decide)
 have hp:=Nat.two_pow_pos (i % 32)
 have e32:(4294967296:Nat) ^ (i / 32)=2 ^ (32 * (i / 32)):=by rw [show (4294967296:Nat)=2 ^ 32 by decide,← Nat.pow_mul]
 have eb:(4294967296:Nat)=2 ^ (i % 32+1) * 2 ^ (31 - i % 32):=by rw [← Nat.pow_add,show i % 32+1+(31 - i % 32)=32 by omega]
 have pi:(2:Nat) ^ (i+1)=4294967296 ^ (i / 32) * 2 ^ (i % 32+1):=by rw [e32,← Nat.pow_add];congr 1;omega
 have pi0:(2:Nat) ^ i=4294967296 ^ (i / 32) * 2 ^ (i % 32):=by rw [e32,← Nat.pow_add];congr 1;omega
 have sp:=Ut q (i / 32)
 rw [Ua hk] at sp
 have tl:=Zlc hq (i / 32)
 have hQ:0<4294967296 ^ (i / 32):=Nat.pow_pos (by decide)
 rw [pi] at hd
 -- the limb's lower bits are none
 have hx:2 ^ (i % 32+1) ∣ (q[i / 32]).toNat:=by
  have d1:4294967296 ^ (i / 32) ∣ Zb q:=Nat.dvd_trans ⟨_,rfl⟩ hd
  have d2:4294967296 ^ (i / 32) ∣ Zb (q.take (i / 32)):=by
   rw [sp] at d1
   exact (Nat.dvd_add_left ⟨_,rfl⟩).1 d1
  have z:Zb (q.take (i / 32))=0:=Nat.eq_zero_of_dvd_of_lt d2 tl
  rw [z,Nat.zero_add] at sp
  rw [sp] at hd
  have d3:=Nat.dvd_of_mul_dvd_mul_left hQ hd
  have d4:2 ^ (i % 32+1) ∣ 4294967296 * Zb (q.drop (i / 32+1)):=by
   conv=>rhs;rw [eb]
   exact ⟨2 ^ (31 - i % 32) * Zb (q.drop (i / 32+1)),by rw [Nat.mul_assoc]⟩
  exact (Nat.dvd_add_left d4).1 d3
 obtain ⟨y,hy⟩:=hx
 have hlt:(q[i / 32]).toNat+2 ^ (i % 32)<4294967296:=by
  have h1:2 ^ (i % 32+1) * y<2 ^ (i % 32+1) * 2 ^ (31 - i % 32):=by rw [← hy,← eb];omega
  have h2:=Nat.lt_of_mul_lt_mul_left h1
  have h3:=Nat.mul_le_mul_left (2 ^ (i % 32+1)) (show y+1≤2 ^ (31 - i % 32) from h2)
  rw [← eb,Nat.mul_add,← hy,Nat.pow_succ] at h3
  omega
 refine ⟨(q[i / 32]).toNat,by rw [Xg hk];congr 1;omega,?_,hlt,?_⟩
 ·rw [show (1:Int)=((1:Nat):Int) from rfl,Zot hs (.inl rfl),Nat.one_mul,V4 (x:=((2 ^ (i % 32):Nat):Int)) (by omega),V4 (by omega)]
  omega
 ·have h1:=To hk (((q[i / 32]).toNat+2 ^ (i % 32):Nat):Int)
  rw [Int.toNat_natCast,Nat.mul_add,← pi0] at h1
  omega
theorem Zol (N:Nat) (a y:List Int) (ha:Zn a) (hy:Zn y) (hy0:0<Zb y) (hly:y.length+8<N) (hs:y.length<549755813888) (hla:a.length<549755813888) (hyc:(Ze (Zb y)).length=y.length) (hNa:a.length+y.length+8<N):∀ (n j:Nat) (r q:List Int),j<n→j<4611686018427387904→j≤32 * q.length→q.length≤a.length→Zn q→r=Ze (Zb r)→Zb r<Zb y→2 ^ j ∣ Zb q→Zb a / 2 ^ j=Zb q / 2 ^ j * Zb y+Zb r→
  Za2 N a y n r ((j:Int) - 1) q=some (Ze (Zb a / Zb y),Ze (Zb a % Zb y),0)
 | 0,j,r,q,h,_,_,_,_,_,_,_,_=>by omega
 | n+1,j,r,q,hjn,hj,hjq,hqa,hq,hr,hlt,hd,he=>by
  rw [Za2.eq_2]
  by_cases h0:j=0
  ·subst h0
   rw [Nat.pow_zero,Nat.div_one,Nat.div_one] at he
   rw [if_neg (by decide),Sq hq (by omega) (by omega),oB]
   have h1:Zb a / Zb y=Zb q:=by rw [he,Nat.mul_comm,Nat.mul_add_div hy0,Nat.div_eq_of_lt hlt,Nat.add_zero]
   have h2:Zb a % Zb y=Zb r:=by rw [he,Nat.mul_comm,Nat.mul_add_mod,Nat.mod_eq_of_lt hlt]
   rw [h1,h2,← hr]
  ·have e:(j:Int) - 1=((j - 1:Nat):Int):=by omega
   obtain ⟨i,rfl⟩:∃ i,j=i+1:=⟨j - 1,by omega⟩
   have ei:i+1 - 1=i:=by omega
   rw [e,ei]
   have hrl:r.length≤y.length:=by
    rw [hr,← hyc];exact W4 (Nat.le_of_lt hlt)
   have hlr:Zn r:=by rw [hr];exact Z9 _
   have hb:=Nat.mod_lt (Zb a / 2 ^ i) (show 0<2 by decide)
   obtain ⟨d,d1,d2,d3,d4⟩:=Zuq (N:=N) (a:=r) (c:=Zb a / 2 ^ i % 2) hlr (by omega) (by omega) (by omega)
   have h2:Zb a / 2 ^ i=2 * (Zb a / 2 ^ (i+1))+Zb a / 2 ^ i % 2:=by
    rw [Nat.pow_succ,← Nat.div_div_eq_div_mul];omega
   obtain ⟨qq,hqq⟩:=hd
   have hq1:Zb q / 2 ^ (i+1)=qq:=by rw [hqq,Nat.mul_div_cancel_left _ (Nat.two_pow_pos _)]
   have hq2:Zb q / 2 ^ i=2 * qq:=by rw [hqq,Nat.pow_succ,Nat.mul_assoc,Nat.mul_div_cancel_left _ (Nat.two_pow_pos _)]
   rw [hq1] at he
   rw [if_pos (dT (by omega)),Z19 ha (by omega),oB,d1,oB,Sq d3 (by omega) (by omega),oB,Zok (Z9 _) hy (by have:=Ys d3;omega) (by omega) (by have:=Ys d3;omega) (by omega),oB,Z4,d4]
   rw [he] at h2
   have hkey:Zb a / 2 ^ i=2 * qq * Zb y+(2 * Zb r+Zb a / 2 ^ i % 2):=by
    have:2 * qq * Zb y=2 * (qq * Zb y):=Nat.mul_assoc _ _ _
    omega
   generalize hbit:Zb a / 2 ^ i % 2=b at *
   by_cases hge:Zb y≤2 * Zb r+b
   ·rw [if_pos (by rw [if_neg (by omega)];split <;> decide)]
    obtain ⟨x,x1,x2,x3,x4⟩:=Z1h hq (i:=i) (by omega) ⟨qq,hqq⟩
    have e1:i64.wrap (Int.tdiv (i:Int) 32)=((i / 32:Nat):Int):=by rw [Int.tdiv_eq_ediv_of_nonneg (by omega),Z2 (by omega)];omega
    have e2:Int.tmod (i:Int) 32=((i % 32:Nat):Int):=by rw [Int.tmod_eq_emod_of_nonneg (by omega)];omega
    have ll:(Ze (2 * Zb r+b)).length≤y.length+1:=by rw [← d4];exact Nat.le_trans (Ys d3) (by omega)
    rw [Zop (Z9 _) hy (by omega) (by omega) (by omega) (by omega),oB,Z4,if_neg (by omega),e1,e2,x1,oB,Z7 (by omega),x2,oB,Int.toNat_natCast,Zfy,Z2 (by omega)]
    have ih:=Zol N a y ha hy hy0 hly hs hla hyc hNa n i (Ze (2 * Zb r+b - Zb y)) (q.set (i / 32) ((x+2 ^ (i % 32):Nat):Int)) (by omega) (by omega) (by rw [nS];omega) (by rw [nS];exact hqa) (hq.set _ ⟨Int.natCast_nonneg _,Int.ofNat_lt.2 x3⟩) (by rw [Z4]) (by rw [Z4];omega) (by
     rw [x4,hqq];exact Nat.dvd_add ⟨2 * qq,by rw [Nat.pow_succ,Nat.mul_assoc]⟩ (Nat.dvd_refl _)) (by
     have:Zb (q.set (i / 32) ((x+2 ^ (i % 32):Nat):Int)) / 2 ^ i=2 * qq+1:=by
      rw [x4,Nat.add_div_right _ (Nat.two_pow_pos _),hq2]
     rw [this,Z4,hkey,Nat.add_mul,Nat.one_mul];omega)
    exact ih
   ·rw [if_neg (by rw [if_pos (by omega)];decide),Zfy,Z2 (by omega)]
    exact Zol N a y ha hy hy0 hly hs hla hyc hNa n i (Ze (2 * Zb r+b)) q (by omega) (by omega) (by omega) hqa hq (by rw [Z4]) (by rw [Z4];omega) (by rw [hqq];exact ⟨2 * qq,by rw [Nat.pow_succ,Nat.mul_assoc]⟩) (by rw [hq2,Z4,hkey])
theorem Zuo {N:Nat} {a b:List Int} (ha:Zn a) (hb:Zn b) (hN:32 * a.length+(Ze (Zb b)).length+48<N) (hbN:b.length<N) (hs:a.length+(Ze (Zb b)).length<274877906944) (hbs:b.length≤1099511627776):
  Zfx N a b=some (if Zb b=0 then ([],[],11) else (Ze (Zb a / Zb b),Ze (Zb a % Zb b),0)):=by
 have la:=Ys ha
 rw [Zfx,Sq hb (by omega) (by omega),oB]
 by_cases h0:Zb b=0
 ·rw [h0,Wt,if_pos (by decide),if_pos rfl]
 ·have hbp:=T5 h0
  have hbl:=(Zjg (Zb a)).2
  rw [if_neg (dF (by omega)),if_neg h0,Z2a ha (by omega) (by omega),oB]
  have e1:i64.wrap (Int.tdiv (i64.wrap (((Xd (Zb a):Nat):Int)+31)) 32)=(((Xd (Zb a)+31) / 32:Nat):Int):=by
   rw [Z2 (x:=((Xd (Zb a):Nat):Int)+31) (by omega),Int.tdiv_eq_ediv_of_nonneg (by omega),Z2 (by omega)];omega
  rw [e1,Z7 (by simp only [maxLen,Int.toNat_natCast];omega),Int.toNat_natCast,Z2 (by omega)]
  have:=Zol N a (Ze (Zb b)) ha (Z9 _) (by rw [Z4];omega) (by omega) (by omega) (by omega) (by rw [Z4]) (by omega) N (Xd (Zb a)) [] (List.replicate ((Xd (Zb a)+31) / 32) 0) (by omega) (by omega) (by rw [List.length_replicate];omega) (by rw [List.length_replicate];omega) (.zeros _) (by rw [Ym,Wt]) (by rw [Z4,Ym];omega) (by rw [Si];exact ⟨0,rfl⟩) (by
   rw [Si,Ym,Nat.zero_div,Nat.zero_mul]
   exact Nat.div_eq_of_lt (Vo.1 (Nat.le_refl _)))
  rw [Z4] at this
  exact this
theorem Zyp {x:Nat} (h:x % 2=1):Nat.Coprime 2 x:=by
 rw [Nat.coprime_iff_gcd_eq_one,Nat.gcd_rec,h,Nat.gcd_one_left]
theorem Zrd {x y k:Nat} (h:y % 2=1):Nat.gcd (2 ^ k * x) y=Nat.gcd x y:=by
 induction k with
 | zero=>rw [Nat.pow_zero,Nat.one_mul]
 | succ k ih=>rw [Nat.pow_succ,Nat.mul_comm (2 ^ k),Nat.mul_assoc,(Zyp h).gcd_mul_left_cancel,ih]
theorem Zzw {x y k:Nat} (h:x % 2=1):Nat.gcd x (2 ^ k * y)=Nat.gcd x y:=by
 rw [Nat.gcd_comm,Zrd h,Nat.gcd_comm]
theorem Zjh {x:Nat} (h:x≠0):1≤Xd x:=by rw [Xd,if_neg h];omega
theorem Zjf (x:Nat):Xd (x / 2)=Xd x - 1:=by
 have:=Zgx x 1
 rwa [Nat.pow_one] at this
theorem Zgw {x y:Nat} (h:x≤y):Xd x≤Xd y:=Vo.2 (Nat.lt_of_le_of_lt h (Vo.1 (Nat.le_refl _)))
theorem Zgv {M x:Nat} (h:(Ze x).length≤M):Xd x≤32 * M:=by have:=(Zjg x).2;omega
theorem Zru {x xo k:Nat} (h:x=2 ^ k * xo):xo≤x:=by
 rw [h]
 have:=Nat.mul_le_mul_right xo (Nat.two_pow_pos k)
 omega
section
variable {N M:Nat} (hN:100 * M+64<N) (hM:M<17179869200)
include hN hM
theorem Zuy (t:Nat):∀ (n i:Nat) (x:List Int),i≤t→t - i<n→t≤32 * M→Zn x→x.length+(t - i)≤33 * M→
  ∃ g,Zds N (t:Int) n x (i:Int)=some g∧Zn g∧Zb g=2 ^ (t - i) * Zb x∧g.length≤x.length+(t - i)
 | 0,i,x,_,h,_,_,_=>by omega
 | n+1,i,x,hi,hn,ht,hx,hl=>by
  rw [Zds.eq_2]
  by_cases h0:i<t
  ·obtain ⟨d,d1,d2,d3,d4⟩:=Zuq (N:=N) (a:=x) (c:=0) hx (by omega) (by omega) (by omega)
   rw [show ((0:Nat):Int)=0 from rfl] at d1
   obtain ⟨g,g1,g2,g3,g4⟩:=Zuy t n (i+1) d (by omega) (by omega) ht d3 (by omega)
   rw [show ((i+1:Nat):Int)=(i:Int)+1 by omega] at g1
   rw [if_pos (dT (by omega)),d1,oB,Z2 (by omega)]
   refine ⟨g,g1,g2,?_,by omega⟩
   rw [g3,d4,Nat.add_zero (2 * Zb x),← Nat.mul_assoc,← Nat.pow_succ]
   congr 2;omega
  ·have:i=t:=by omega
   subst this
   rw [if_neg (dF (by omega))]
   exact ⟨x,rfl,hx,by simp,by omega⟩
theorem Zux (kk:List Int→List Int→Option R2) {x:Nat} (hx:(Ze x).length≤M):∀ (n y:Nat),y≠0→Xd y<n→(Ze y).length≤M→
  ∃ yo k,y=2 ^ k * yo∧yo % 2=1∧Q2 N kk (Ze x) n (Ze y)=kk (Ze (min x yo)) (Ze (max x yo - min x yo))
 | 0,y,_,h,_=>by omega
 | n+1,y,h0,hn,hy=>by
  have hp:=T5 h0
  rw [Q2.eq_2,if_pos (dT (by omega)),Zlr (Z9 _),Z4,oB,Zhv]
  by_cases he:y % 2=0
  ·rw [if_pos (dT he),Zls (Z9 _) (by omega) (by omega),oB,Z4]
   have hb:=Zjf y
   have h1:=Zjh h0
   obtain ⟨yo,k,e1,e2,e3⟩:=Zux kk hx n (y / 2) (by omega) (by omega) (Nat.le_trans (W4 (Nat.div_le_self _ _)) hy)
   refine ⟨yo,k+1,?_,e2,e3⟩
   rw [Nat.pow_succ,Nat.mul_comm (2 ^ k),Nat.mul_assoc,← e1];omega
  ·rw [if_neg (dF he),Zok (Z9 _) (Z9 _) (by omega) (by omega) (by omega) (by omega),oB,Z4,Z4]
   refine ⟨y,0,by simp,by omega,?_⟩
   by_cases hxy:y<x
   ·rw [if_pos (by rw [if_neg (by omega),if_pos hxy];decide),Zf0,Zop (Z9 _) (Z9 _) (by omega) (by omega) (by omega) (by omega),oB,Z4,Z4,if_neg (by omega),Nat.min_eq_right (by omega),Nat.max_eq_left (by omega)]
   ·rw [if_neg (by split <;> (try split) <;> simp_all <;> omega),Zf0,Zop (Z9 _) (Z9 _) (by omega) (by omega) (by omega) (by omega),oB,Z4,Z4,if_neg (by omega),Nat.min_eq_left (by omega),Nat.max_eq_right (by omega)]
theorem Zuw (kk:List Int→List Int→Option R2) {y:Nat}:∀ (n x:Nat),x≠0→Xd x<n→(Ze x).length≤M→
  ∃ xo k,x=2 ^ k * xo∧xo % 2=1∧Zdr N (Ze y) kk n (Ze x)=Q2 N kk (Ze xo) N (Ze y)
 | 0,x,_,h,_=>by omega
 | n+1,x,h0,hn,hx=>by
  rw [Zdr.eq_2,Zlr (Z9 _),Z4,oB]
  by_cases he:x % 2=0
  ·rw [if_pos (dT he),Zls (Z9 _) (by omega) (by omega),oB,Z4]
   have hb:=Zjf x
   have h1:=Zjh h0
   obtain ⟨xo,k,e1,e2,e3⟩:=Zuw kk n (x / 2) (by omega) (by omega) (Nat.le_trans (W4 (Nat.div_le_self _ _)) hx)
   refine ⟨xo,k+1,?_,e2,e3⟩
   rw [Nat.pow_succ,Nat.mul_comm (2 ^ k),Nat.mul_assoc,← e1];omega
  ·rw [if_neg (dF he)]
   exact ⟨x,0,by simp,by omega,rfl⟩
theorem Zuz (t:Nat) {n x y:Nat} (hx:x≠0) (hy:y≠0) (h:x % 2=1∨y % 2=1) (lx:(Ze x).length≤M) (ly:(Ze y).length≤M):
  ∃ x' y',Vx N (t:Int) (n+1) (Ze x) (Ze y)=Vx N (t:Int) n (Ze x') (Ze y')∧x' % 2=1∧y' % 2=0∧Nat.gcd x' y'=Nat.gcd x y∧(Ze x').length≤M∧(Ze y').length≤M∧(Xd x'+Xd y'≤Xd x+Xd y)∧(y % 2=0→Xd x'+Xd y'+1≤Xd x+Xd y):=by
 have hp:=T5 hy
 have bx:=Zgv lx
 have by_:=Zgv ly
 obtain ⟨xo,k,x1,x2,x3⟩:=Zuw hN hM (Vx N (t:Int) n) (y:=y) N x hx (by omega) lx
 have lxo:=Zru x1
 obtain ⟨yo,l,y1,y2,y3⟩:=Zux hN hM (Vx N (t:Int) n) (x:=xo) (Nat.le_trans (W4 lxo) lx) N y hy (by omega) ly
 have lyo:=Zru y1
 rw [Vx.eq_2,if_pos (dT (by omega)),x3,y3]
 have mM:max xo yo≤max x y:=by omega
 have lM:(Ze (max x y)).length≤M:=by
  rcases Nat.le_total x y with h | h
  ·rw [Nat.max_eq_right h];exact ly
  ·rw [Nat.max_eq_left h];exact lx
 have bmm:Xd (min xo yo)+Xd (max xo yo - min xo yo)≤Xd xo+Xd yo:=by
  rcases Nat.le_total xo yo with h | h
  ·rw [Nat.min_eq_left h,Nat.max_eq_right h]
   have:=Zgw (Nat.sub_le yo xo);omega
  ·rw [Nat.min_eq_right h,Nat.max_eq_left h]
   have:=Zgw (Nat.sub_le xo yo);omega
 have b1:=Zgw lxo
 have b2:=Zgw lyo
 refine ⟨_,_,rfl,by omega,by omega,?_,Nat.le_trans (W4 (by omega)) lM,Nat.le_trans (W4 (by omega)) lM,by omega,fun hev=>?_⟩
 ·have g1:Nat.gcd (min xo yo) (max xo yo - min xo yo)=Nat.gcd xo yo:=by
   rcases Nat.le_total xo yo with h | h
   ·rw [Nat.min_eq_left h,Nat.max_eq_right h,Nat.gcd_sub_self_right h]
   ·rw [Nat.min_eq_right h,Nat.max_eq_left h,Nat.gcd_sub_self_right h,Nat.gcd_comm]
  rw [g1,x1,y1]
  rcases h with h | h
  ·have hk:k=0:=by
    rcases Nat.eq_zero_or_pos k with hk | hk
    ·exact hk
    ·obtain ⟨k',rfl⟩:∃ k',k=k'+1:=⟨k - 1,by omega⟩
     rw [x1,Nat.pow_succ,Nat.mul_comm (2 ^ k'),Nat.mul_assoc] at h;omega
   subst hk
   rw [Nat.pow_zero,Nat.one_mul,Zzw x2]
  ·have hl:l=0:=by
    rcases Nat.eq_zero_or_pos l with hk | hk
    ·exact hk
    ·obtain ⟨k',rfl⟩:∃ k',l=k'+1:=⟨l - 1,by omega⟩
     rw [y1,Nat.pow_succ,Nat.mul_comm (2 ^ k'),Nat.mul_assoc] at h;omega
   subst hl
   rw [Nat.pow_zero,Nat.one_mul,Zrd y2]
 ·have:yo≤y / 2:=by
   rcases Nat.eq_zero_or_pos l with hl | hl
   ·subst hl;rw [Nat.pow_zero,Nat.one_mul] at y1;omega
   ·obtain ⟨k',rfl⟩:∃ k',l=k'+1:=⟨l - 1,by omega⟩
    rw [y1,Nat.pow_succ,Nat.mul_comm (2 ^ k'),Nat.mul_assoc,Nat.mul_div_cancel_left _ (by decide)]
    have:=Nat.mul_le_mul_right yo (Nat.two_pow_pos k')
    omega
  have h3:=Zgw this
  rw [Zjf] at h3
  have h4:=Zjh hy
  omega
theorem Zuv (t:Nat) (ht:t≤32 * M):∀ (n x y:Nat),x % 2=1→y % 2=0→Xd x+Xd y<n→(Ze x).length≤M→(Ze y).length≤M→
  ∃ g,Vx N (t:Int) n (Ze x) (Ze y)=some g∧Zn g∧Zb g=2 ^ t * Nat.gcd x y∧g.length≤33 * M
 | 0,x,y,_,_,h,_,_=>by omega
 | n+1,x,y,hx,hy,hn,lx,ly=>by
  by_cases h0:y=0
  ·subst h0
   rw [Vx.eq_2,Wt,if_neg (by decide)]
   obtain ⟨g,g1,g2,g3,g4⟩:=Zuy hN hM t N 0 (Ze x) (by omega) (by omega) ht (Z9 _) (by omega)
   rw [Z4,Nat.sub_zero] at g3
   exact ⟨g,g1,g2,by rw [g3,Nat.gcd_zero_right],by omega⟩
  ·obtain ⟨x',y',e1,e2,e3,e4,e5,e6,_,e7⟩:=Zuz hN hM t (n:=n) (by omega) h0 (.inl hx) lx ly
   have:=e7 hy
   obtain ⟨g,g1,g2,g3,g4⟩:=Zuv t ht n x' y' e2 e3 (by omega) e5 e6
   exact ⟨g,by rw [e1,g1],g2,by rw [g3,e4],g4⟩
theorem Zuu:∀ (n x y t:Nat),x≠0→y≠0→Xd x<n→t+Xd x≤32 * M→(Ze x).length≤M→(Ze y).length≤M→
  ∃ g,Za3 N n (Ze x) (Ze y) (t:Int)=some g∧Zn g∧Zb g=2 ^ t * Nat.gcd x y∧g.length≤33 * M
 | 0,x,y,t,_,_,h,_,_,_=>by omega
 | n+1,x,y,t,hx,hy,hn,ht,lx,ly=>by
  have bx:=Zgv lx
  have by_:=Zgv ly
  have last:(x % 2=1∨y % 2=1)→∃ g,Vx N (t:Int) N (Ze x) (Ze y)=some g∧Zn g∧Zb g=2 ^ t * Nat.gcd x y∧g.length≤33 * M:=fun h=>by
   obtain ⟨N',hN'⟩:∃ N',N=N'+1:=⟨N - 1,by omega⟩
   obtain ⟨x',y',e1,e2,e3,e4,e5,e6,e7,_⟩:=Zuz hN hM t (n:=N') hx hy h lx ly
   obtain ⟨g,g1,g2,g3,g4⟩:=Zuv hN hM t (by omega) N' x' y' e2 e3 (by omega) e5 e6
   refine ⟨g,?_,g2,by rw [g3,e4],g4⟩
   rw [← g1,← e1]
   congr 1
  rw [Za3.eq_2,Zlr (Z9 _),Z4,oB]
  by_cases hxe:x % 2=0
  ·rw [if_pos (dT hxe),Zlr (Z9 _),Z4,oB,Zfz]
   by_cases hye:y % 2=0
   ·rw [if_pos (dT hye),Zls (Z9 _) (by omega) (by omega),oB,Zls (Z9 _) (by omega) (by omega),oB,Z4,Z4,Z2 (by omega)]
    have hb:=Zjf x
    have h1:=Zjh hx
    obtain ⟨g,g1,g2,g3,g4⟩:=Zuu n (x / 2) (y / 2) (t+1) (by omega) (by omega) (by omega) (by omega) (Nat.le_trans (W4 (Nat.div_le_self _ _)) lx) (Nat.le_trans (W4 (Nat.div_le_self _ _)) ly)
    rw [show ((t+1:Nat):Int)=(t:Int)+1 by omega] at g1
    refine ⟨g,g1,g2,?_,g4⟩
    rw [g3,Nat.pow_succ,Nat.mul_assoc,← Nat.gcd_mul_left]
    congr 2 <;> omega
   ·rw [if_neg (dF hye)]
    exact last (.inr (by omega))
  ·rw [if_neg (dF hxe),Zfz,if_neg (by decide)]
   exact last (.inl (by omega))
end
theorem Z2g {N M:Nat} {a b:List Int} (ha:Zn a) (hb:Zn b) (hla:a.length≤M) (hlb:b.length≤M) (hN:100 * M+64<N) (hM:M<17179869200):∃ g,Zhu N a b=some g∧Zn g∧Zb g=Nat.gcd (Zb a) (Zb b)∧g.length≤33 * M:=by
 have la:=Ys ha
 have lb:=Ys hb
 rw [Zhu,Sq ha (by omega) (by omega),oB,Sq hb (by omega) (by omega),oB]
 by_cases h1:Zb a=0
 ·rw [h1,Wt,if_pos (by decide),Nat.gcd_zero_left]
  exact ⟨_,rfl,Z9 _,Z4 _,by omega⟩
 ·have p1:=T5 h1
  rw [if_neg (dF (by omega))]
  by_cases h2:Zb b=0
  ·rw [h2,Wt,if_pos (by decide),Nat.gcd_zero_right]
   exact ⟨_,rfl,Z9 _,Z4 _,by omega⟩
  ·have p2:=T5 h2
   have bx:=Zgv (x:=Zb a) (by omega)
   rw [if_neg (dF (by omega))]
   obtain ⟨g,g1,g2,g3,g4⟩:=Zuu hN hM N (Zb a) (Zb b) 0 h1 h2 (by omega) (by omega) (by omega) (by omega)
   exact ⟨g,g1,g2,by rw [g3];simp,g4⟩
def Zf7 (aa:Bool) (ab:List Int):Option R4:=
  some (aa,ab)
def Zdv (N:Nat) (ab:Bool) (ac:List Int):Option R4:=
  (Uj N ac).bind fun aa=>if ab=true then (Zf7 (decide (0<(aa.length:Int))) aa) else (Zf7 false aa)
theorem Zmk {N ao:Nat} {a1:Option Addr} {col:Zd} {w0:World} {ap:Bool} {ah:R2} {r:R4} (c1:Nat) (hm:Zdv N ap ah=some r) (h1:Sl (Za.int .u32) col w0 a1 ao ah):
    Calls prog 226 #[.bool ap,.slice a1 ah.length ao] w0 (fun e w'=>∃ (col':Zd) (ra1:Option Addr) (rc2:Nat),e= .returned ((.agg #[.bool r.1,.slice ra1 r.2.length rc2]))∧Zi col w0 col' w'∧Zc (Za.int .u32) 79 c1 col' w' ra1 rc2 r.2):=by
 refine Wi (m:=16) func226 rfl rfl rfl ?_;rw [Zdv.eq_1] at hm;have aa:=St.start col w0;refine go ?_;refine Xr (col:=(Zj col)) #[.bool false,.slice none (([]:List Int).length) 0] 1 zeroValue45 ?_;intro ax a4 a5 ay ac;refine go ?_;obtain ⟨ad,az,hm⟩:=bZ hm;replace h1:=h1.keep (Zl.start col w0);replace aa:=aa.grow ay;refine Zh (Ty 2 az (h1.ks aa)) ?_;rintro _ a6 ⟨a7,aq,ar,rfl,au,ab⟩;refine ⟨_,rfl,?_⟩;refine Zj4 rfl<|Zm<|Zw ?_;replace ac:=ac.gr au;replace aa:=aa.grow au;refine Wp.cutK [4,1000000] (fun f ae=>∃ af ai aj ak ag,Zf7 ai ag=some r∧St w0 (Zj col) af ae∧Zc (Za.int .u32) 79 3 af ae aj ak ag∧Zk 45 1 af ae ax #[.bool ai,.slice aj ag.length ak]) ?_ ?_
 ·intro f ae hJ;obtain ⟨af,ai,aj,ak,ag,hm,aa,a0,ac⟩:=hJ;rw [Zf7.eq_1] at hm;refine W7 ?_;cases hm;exact ⟨rfl,_,ra ac.atN,_,_,_,rfl,aa.fin (cm [(3,c1)]),aa.fo a0⟩
 refine go ?_;refine X1 hm (fun al hm=>go ?_) fun al hm=>go ?_
 ·refine lV (.bool (decide (0<(ad.length:Int)))) (Xs (congrArg Value.bool al) rfl)<|Y0 rfl<|lV (.agg #[.bool (decide (0<(ad.length:Int))),.slice aq ad.length ar]) (Wg (l:=[_,_]) (qs:=[(0,1),(1,1)]) underlying45 zeroValue45 ⟨rfl,sizeOf4,rfl,sizeOf43,trivial⟩ rfl)<|Z5 ac ?_;intro a8 av a2 am;refine Zm ?_;replace ab:=ab.kp av;replace ab:=ab.recolSelf 3 (by decide);replace am:=am.recol 2 3 (by decide);replace aa:=aa.kp av a2;replace aa:=aa.recol 2 3 (by decide) (by decide);exact ⟨rfl,_,_,_,_,_,hm,aa,ab,am⟩
 refine lV (.bool false) (Xl (congrArg Value.bool al) rfl)<|Y0 rfl<|lV (.agg #[.bool false,.slice aq ad.length ar]) (Wg (l:=[_,_]) (qs:=[(0,1),(1,1)]) underlying45 zeroValue45 ⟨rfl,sizeOf4,rfl,sizeOf43,trivial⟩ rfl)<|Z5 ac ?_;intro a9 aw a3 an;refine Zm ?_;replace ab:=ab.kp aw;replace ab:=ab.recolSelf 3 (by decide);replace an:=an.recol 2 3 (by decide);replace aa:=aa.kp aw a3;replace aa:=aa.recol 2 3 (by decide) (by decide);exact ⟨rfl,_,_,_,_,_,hm,aa,ab,an⟩
def Zf8 (N:Nat) (aa:R4):Option R4:=
  (Zdv N aa.1 aa.2).bind fun ab=>some (ab.1,ab.2)
theorem Zpw {N ag:Nat} {ah:Option Addr} {col:Zd} {w0:World} {ab r:R4} (c1:Nat) (hm:Zf8 N ab=some r) (ad:Sl (Za.int .u32) col w0 ah ag ab.2):
    Calls prog 268 #[(.agg #[.bool ab.1,.slice ah ab.2.length ag])] w0 (fun e w'=>∃ (col':Zd) (ra1:Option Addr) (rc2:Nat),e= .returned ((.agg #[.bool r.1,.slice ra1 r.2.length rc2]))∧Zi col w0 col' w'∧Zc (Za.int .u32) 79 c1 col' w' ra1 rc2 r.2):=by
 refine Wi (m:=8) func268 rfl rfl rfl ?_;rw [Zf8.eq_1] at hm;have aa:=St.start col w0;refine go ?_;refine Ye (col:=(Zj col)) 1 rfl ?_;intro aq ar al am ac;refine Xr (col:=al) #[.bool false,.slice none (([]:List Int).length) 0] 2 zeroValue45 ?_;intro au av aw ai ae;refine go ?_;refine Y5 ⟨_,_,rfl⟩ ?_;replace ac:=ac.gr ai;refine lW ((ac.atN).nth (q:=0) rfl)<|Xu ac ?_;obtain ⟨ax,an,hm⟩:=bZ hm;replace ad:=ad.keep (Zl.start col w0);replace aa:=(aa.grow am).grow ai;refine Zh (Zmk 3 an (ad.ks aa)) ?_;rintro _ ay ⟨az,a0,a1,rfl,aj,af⟩;refine ⟨_,rfl,?_⟩;replace ae:=ae.gr aj;refine Z5 ae ?_;intro a2 ak ao ap;refine go ?_;cases hm;replace aa:=(aa.grow aj).kp ak ao;replace af:=af.kp ak;exact ⟨rfl,_,ra ap.atN,_,_,_,rfl,aa.fin (cm [(3,c1)]),aa.fo af⟩
def Zhy (N:Nat) (aa:R4) (ab:List Int):Option R1:=
  (Zhu N aa.2 ab).bind fun ac=>(Zfx N aa.2 ac).bind fun ae=>(Zfx N ab ac).bind fun af=>(Zf8 N (aa.1,ae.1)).bind fun ad=>(Uj N af.1).bind fun ag=>some ((ad.1,ad.2),ag)
theorem Zxq {N a2 a3:Nat} {a4 a1:Option Addr} {col:Zd} {w0:World} {ai:R4} {ap:R2} {r:R1} (c1 c2:Nat) (hm:Zhy N ai ap=some r) (an:Sl (Za.int .u32) col w0 a4 a2 ai.2) (h1:Sl (Za.int .u32) col w0 a1 a3 ap):
    Calls prog 213 #[(.agg #[.bool ai.1,.slice a4 ai.2.length a2]),.slice a1 ap.length a3] w0 (fun e w'=>∃ (col':Zd) (ra1:Option Addr) (rc2:Nat) (ra4:Option Addr) (rc5:Nat),e= .returned ((.agg #[.bool r.1.1,.slice ra1 r.1.2.length rc2,.slice ra4 r.2.length rc5]))∧Zi col w0 col' w'∧Zc (Za.int .u32) 79 c1 col' w' ra1 rc2 r.1.2∧Zc (Za.int .u32) 79 c2 col' w' ra4 rc5 r.2):=by
 refine Wi (m:=39) func213 rfl rfl rfl ?_;rw [Zhy.eq_1] at hm;have aa:=St.start col w0;refine go ?_;refine Ye (col:=(Zj col)) 1 rfl ?_;intro b1 b2 bd be ab;refine Xr (col:=bd) #[.bool false,.slice none (([]:List Int).length) 0,.slice none (([]:List Int).length) 0] 2 zeroValue47 ?_;intro b3 b4 b5 a5 aq;refine go ?_;refine Y5 ⟨_,_,rfl⟩ ?_;replace ab:=ab.gr a5;refine lW ((ab.atN).nth (q:=1) rfl)<|Y0 rfl ?_;obtain ⟨b6,bf,hm⟩:=bZ hm;replace an:=an.keep (Zl.start col w0);replace h1:=h1.keep (Zl.start col w0);replace aa:=(aa.grow be).grow a5;refine Zh (Zxm 3 bf (an.ks aa) (h1.ks aa)) ?_;rintro _ bg ⟨ar,b7,b8,rfl,au,ao⟩;refine ⟨_,rfl,go ?_⟩;refine Y5 ⟨_,_,rfl⟩ ?_;replace ab:=ab.gr au;refine lW ((ab.atN).nth (q:=1) rfl)<|Y0 rfl ?_;obtain ⟨ac,bh,hm⟩:=bZ hm;replace aa:=aa.grow au;refine Zh (Zps 4 5 bh ((an.ks aa).froz 3) (ao.toSlF (Zg.int .u32))) ?_;rintro _ bi ⟨bj,av,aw,a6,a7,rfl,ad,aj,b9⟩;refine ⟨_,rfl,?_⟩;replace aj:=aj.thaw (Z0 .u32) ad ((Fz.refl (col:=ar)).froz 3) (by decide);replace ad:=ad.thawR (col:=ar);generalize Xc bg.heap.size ar bj=ax at *;refine lM (.tuple #[.slice av ac.1.length aw,.slice a6 ac.2.1.length a7,.int .i64 ac.2.2])<|lV (.slice av ac.1.length aw) (Xe rfl rfl)<|lV (.slice a6 ac.2.1.length a7) (Xe rfl rfl)<|lV (.int .i64 ac.2.2) (Xe rfl rfl)<|go ?_;obtain ⟨af,bk,hm⟩:=bZ hm;replace ao:=ao.gr ad;replace aa:=aa.grow ad;refine Zh (Zps 6 7 bk ((h1.ks aa).froz 3) (ao.toSlF (Zg.int .u32))) ?_;rintro _ bm ⟨bn,a8,a9,ba,bb,rfl,ae,ak,ca⟩;refine ⟨_,rfl,?_⟩;replace ak:=ak.thaw (Z0 .u32) ae ((Fz.refl (col:=ax)).froz 3) (by decide);replace ae:=ae.thawR (col:=ax);generalize Xc bi.heap.size ax bn=ay at *;refine lM (.tuple #[.slice a8 af.1.length a9,.slice ba af.2.1.length bb,.int .i64 af.2.2])<|lV (.slice a8 af.1.length a9) (Xe rfl rfl)<|lV (.slice ba af.2.1.length bb) (Xe rfl rfl)<|lV (.int .i64 af.2.2) (Xe rfl rfl)<|go ?_;refine Y5 ⟨_,_,rfl⟩ ?_;replace ab:=(ab.gr ad).gr ae
 refine lW ((ab.atN).nth (q:=0) rfl)<|Y0 rfl<|lV (.agg #[.bool ai.1,.slice av ac.1.length aw]) (Wg (l:=[_,_]) (qs:=[(0,1),(1,1)]) underlying45 zeroValue45 ⟨rfl,sizeOf4,rfl,sizeOf43,trivial⟩ rfl) ?_;obtain ⟨bc,bo,hm⟩:=bZ hm;replace aj:=aj.gr ae;refine Zh (Zpw 8 bo (aj.toSlF (Zg.int .u32))) ?_;rintro _ bp ⟨bq,br,bs,rfl,ag,al⟩;refine ⟨_,rfl,?_⟩;replace al:=al.thaw (Z0 .u32) ag ((Fz.refl (col:=ay)).froz 4) (by decide);replace ag:=ag.thawR (col:=ay);generalize Xc bm.heap.size ay bq=az at *;refine Y0 rfl ?_;obtain ⟨bt,bu,hm⟩:=bZ hm;replace ak:=ak.gr ag;refine Zh (Ty 9 bu (ak.toSlF (Zg.int .u32))) ?_;rintro _ cb ⟨bv,bw,bx,rfl,ah,am⟩;refine ⟨_,rfl,?_⟩;replace am:=am.thaw (Z0 .u32) ah ((Fz.refl (col:=az)).froz 6) (by decide);replace ah:=ah.thawR (col:=az);generalize Xc bp.heap.size az bv=cc at *;refine lV (.agg #[.bool bc.1,.slice br bc.2.length bs,.slice bw bt.length bx]) (Wg (l:=[_,_]) (qs:=[(0,2),(2,1)]) underlying47 zeroValue47 ⟨rfl,sizeOf45,rfl,sizeOf43,trivial⟩ rfl) ?_;replace aq:=((((aq.gr au).gr ad).gr ae).gr ag).gr ah;refine Z5 aq ?_;intro cd a0 bz b0;refine go ?_;cases hm;replace aa:=(((aa.grow ae).grow ag).grow ah).kp a0 bz;replace al:=(al.gr ah).kp a0;replace am:=am.kp a0;exact ⟨rfl,_,ra b0.atN,_,_,_,_,_,rfl,aa.fin (cm [(8,c1),(9,c2)]),aa.fo al,aa.fo am⟩
def Zhx (N:Nat) (aa:R4):Option Int:=
  (Zf8 N (aa.1,aa.2)).bind fun ab=>if (decide ((ab.2.length:Int)=0))=true then (some 0) else (if ab.1=true then (some (-1)) else (some 1))
theorem Zxn {N ad:Nat} {ae:Option Addr} {col:Zd} {w0:World} {ab:R4} {r:Int} (hm:Zhx N ab=some r) (ac:Sl (Za.int .u32) col w0 ae ad ab.2):
    Calls prog 204 #[(.agg #[.bool ab.1,.slice ae ab.2.length ad])] w0 (fun e w'=>e= .returned ((.int .i64 r))∧Below w0.heap.size w0 w'):=by
 refine Xk 2 (m:=12) func204 rfl rfl rfl rfl rfl ?_;rw [Zhx.eq_1] at hm;have aa:=St.start col w0;refine go ?_;refine Ye (col:=(Zj col)) 1 rfl ?_;intro ap aq ar ag ah;refine go ?_;refine lV _ (Xh isAgg45 sizeOf45 ah) ?_;obtain ⟨au,ai,hm⟩:=bZ hm;replace ac:=ac.keep (Zl.start col w0);replace aa:=aa.grow ag;refine Zh (Zpw 2 ai (ac.ks aa)) ?_;rintro _ av ⟨aj,aw,ax,rfl,ak,ay⟩;refine ⟨_,rfl,?_⟩;refine Xr (col:=aj) #[.bool false,.slice none (([]:List Int).length) 0] 3 zeroValue45 ?_;intro az a0 a1 al am;refine Z5 am ?_;intro a2 an ao af;refine go ?_;refine Xu af ?_;refine go ?_;replace aa:=((aa.grow ak).grow al).kp an ao;refine Zr hm (fun hb hm=>go ?_) fun hb hm=>go ?_
 ·cases hm;exact ⟨rfl,rfl,aa.below⟩
 refine Xu af<|Zm ?_;refine Zr hm (fun hb hm=>go ?_) fun hb hm=>go ?_
 ·cases hm;exact ⟨rfl,rfl,aa.below⟩
 cases hm;exact ⟨rfl,rfl,aa.below⟩
def Zf9 (N:Nat) (aa:Int):Option R4:=
  if (decide (0≤aa))=true then ((Zf2 N (u64.wrap aa)).bind fun ad=>(Zdv N false ad).bind fun ab=>some (ab.1,ab.2)) else ((Zf2 N (u64.wrap (i64.wrap (-(i64.wrap (aa+1)))))).bind fun ae=>(Zhq N ae [1]).bind fun af=>(Zdv N true af).bind fun ac=>some (ac.1,ac.2))
theorem Zpx {N:Nat} {col:Zd} {w0:World} {an:Int} {r:R4} (c1:Nat) (hm:Zf9 N an=some r):
    Calls prog 125 #[.int .i64 an] w0 (fun e w'=>∃ (col':Zd) (ra1:Option Addr) (rc2:Nat),e= .returned ((.agg #[.bool r.1,.slice ra1 r.2.length rc2]))∧Zi col w0 col' w'∧Zc (Za.int .u32) 79 c1 col' w' ra1 rc2 r.2):=by
 refine Wi (m:=17) func125 rfl rfl rfl ?_;rw [Zf9.eq_1] at hm;have aa:=St.start col w0;refine go ?_;refine Xr (col:=(Zj col)) #[.bool false,.slice none (([]:List Int).length) 0] 1 zeroValue45 ?_;intro be bf ao av ab;refine go ?_;replace aa:=aa.grow av;refine Zr hm (fun hb hm=>go ?_) fun hb hm=>go ?_
 ·obtain ⟨bg,aw,hm⟩:=bZ hm;refine Zh (Zpt (col:=ao) 2 aw) ?_;rintro _ ax ⟨ah,bh,bi,rfl,ap,ay⟩;refine ⟨_,rfl,?_⟩;obtain ⟨bj,az,hm⟩:=bZ hm;refine Zh (Zmk 3 az (ay.toSlF (Zg.int .u32))) ?_;rintro _ bk ⟨a0,bm,bn,rfl,ac,ad⟩;refine ⟨_,rfl,?_⟩;replace ad:=ad.thaw (Z0 .u32) ac ((Fz.refl (col:=ah)).froz 2) (by decide);replace ac:=ac.thawR (col:=ah);generalize Xc ax.heap.size ah a0=bo at *;replace ab:=(ab.gr ap).gr ac;refine Z5 ab ?_;intro bp aq a1 a2;refine go ?_;cases hm;replace aa:=((aa.grow ap).grow ac).kp aq a1;replace ad:=ad.kp aq;exact ⟨rfl,_,ra a2.atN,_,_,_,rfl,aa.fin (cm [(3,c1)]),aa.fo ad⟩
 obtain ⟨bq,a3,hm⟩:=bZ hm;refine Zh (Zpt (col:=ao) 4 a3) ?_;rintro _ br ⟨a4,bs,bt,rfl,ar,ai⟩;refine ⟨_,rfl,?_⟩;refine Vr (col:=a4) [1] 5 ?_;intro bu a5 aj ak a6;obtain ⟨bv,a7,hm⟩:=bZ hm;replace ai:=ai.gr ak;refine Zh (Zxj 6 a7 ((ai.toSlF (Zg.int .u32)).froz 5) ((a6.froz 4 (by decide)).toSlF (Zg.int .u32))) ?_;rintro _ a8 ⟨a9,bw,bx,rfl,ae,al⟩;refine ⟨_,rfl,?_⟩;replace al:=al.thaw (Z0 .u32) ae (((Fz.refl (col:=aj)).froz 4).froz 5) (by decide);replace ae:=ae.thawR (col:=aj);generalize Xc a5.heap.size aj a9=am at *;obtain ⟨bz,ba,hm⟩:=bZ hm;refine Zh (Zmk 7 ba (al.toSlF (Zg.int .u32))) ?_;rintro _ b0 ⟨bb,b1,b2,rfl,af,ag⟩;refine ⟨_,rfl,?_⟩;replace ag:=ag.thaw (Z0 .u32) af ((Fz.refl (col:=am)).froz 6) (by decide);replace af:=af.thawR (col:=am);generalize Xc a8.heap.size am bb=b3 at *;replace ab:=(((ab.gr ar).gr ak).gr ae).gr af;refine Z5 ab ?_;intro b4 au bc bd;refine go ?_;cases hm;replace aa:=((((aa.grow ar).grow ak).grow ae).grow af).kp au bc;replace ag:=ag.kp au;exact ⟨rfl,_,ra bd.atN,_,_,_,rfl,aa.fin (cm [(7,c1)]),aa.fo ag⟩
def Zkm (N:Nat) (ac:R4) (aa:R4):Option (R1×Int):=
  (Zhx N (aa.1,aa.2)).bind fun ad=>if (decide (ad=0))=true then (some (((false,([]:List Int)),([]:List Int)),11)) else ((Zhy N (!decide (ac.1=aa.1),ac.2) aa.2).bind fun ab=>some (((ab.1.1,ab.1.2),ab.2),0))
theorem Zxo {N ai ap:Nat} {aj aq:Option Addr} {col:Zd} {w0:World} {ac af:R4} {r:(R1×Int)} (c1 c2:Nat) (hm:Zkm N ac af=some r) (ak:Sl (Za.int .u32) col w0 aj ai ac.2) (ag:Sl (Za.int .u32) col w0 aq ap af.2):
    Calls prog 222 #[(.agg #[.bool ac.1,.slice aj ac.2.length ai]),(.agg #[.bool af.1,.slice aq af.2.length ap])] w0 (fun e w'=>∃ (col':Zd) (ra1:Option Addr) (rc2:Nat) (ra4:Option Addr) (rc5:Nat),e= .returned (.tuple #[(.agg #[.bool r.1.1.1,.slice ra1 r.1.1.2.length rc2,.slice ra4 r.1.2.length rc5]),.int .i64 r.2])∧Zi col w0 col' w'∧Zc (Za.int .u32) 79 c1 col' w' ra1 rc2 r.1.1.2∧Zc (Za.int .u32) 79 c2 col' w' ra4 rc5 r.1.2):=by
 refine Wi (m:=21) func222 rfl rfl rfl ?_;rw [Zkm.eq_1] at hm;have aa:=St.start col w0;refine go ?_;refine Ye (col:=(Zj col)) 1 rfl ?_;intro a8 a9 aw ax ah;refine Ye (col:=aw) 2 rfl ?_;intro ba bb ay ar ab;refine Xr (col:=ay) #[.bool false,.slice none (([]:List Int).length) 0,.slice none (([]:List Int).length) 0] 3 zeroValue47 ?_;intro bc az au al ad;refine go ?_;replace ab:=ab.gr al;refine lV _ (Xh isAgg45 sizeOf45 ab) ?_;obtain ⟨bd,a0,hm⟩:=bZ hm;replace ag:=ag.keep (Zl.start col w0);replace aa:=((aa.grow ax).grow ar).grow al;refine Zh (Zxn a0 (ag.ks aa)) ?_;rintro _ a1 ⟨rfl,ae⟩;refine ⟨_,rfl,?_⟩;replace ae:Zi au az au a1:=.of_below ae;refine go ?_;replace ak:=ak.keep (Zl.start col w0);replace ah:=((ah.gr ar).gr al).gr ae;replace ab:=ab.gr ae;replace ad:=ad.gr ae;replace aa:=aa.grow ae;refine Zr hm (fun hb hm=>go ?_) fun hb hm=>go ?_
 ·refine lV (.agg #[.bool false,.slice none (([]:List Int).length) 0,.slice none (([]:List Int).length) 0]) (Wg (l:=[_,_]) (qs:=[(0,2),(2,1)]) underlying47 zeroValue47 ⟨rfl,sizeOf45,rfl,sizeOf43,trivial⟩ rfl)<|Z5 ad ?_;intro be a2 a3 a4;refine go ?_;cases hm;replace aa:=aa.kp a2 a3;exact ⟨rfl,_,Ue a4.atN,_,none,0,none,0,rfl,aa.fin (cm []),Zc.nil,Zc.nil⟩
 refine Xu ah<|Xu ab ?_;refine go ?_;refine Xu ah<|lV (.agg #[.bool (!decide (ac.1=af.1)),.slice aj ac.2.length ai]) (Wg (l:=[_,_]) (qs:=[(0,1),(1,1)]) underlying45 zeroValue45 ⟨rfl,sizeOf4,rfl,sizeOf43,trivial⟩ rfl)<|Xu ab ?_;obtain ⟨bf,a5,hm⟩:=bZ hm;refine Zh (Zxq 4 5 a5 (ak.ks aa) (ag.ks aa)) ?_;rintro _ bg ⟨bh,bi,bj,bk,bm,rfl,av,am,an⟩;refine ⟨_,rfl,?_⟩;replace ad:=ad.gr av;refine Z5 ad ?_;intro bn ao a6 a7;refine go ?_;cases hm;replace aa:=(aa.grow av).kp ao a6;replace am:=am.kp ao;replace an:=an.kp ao;exact ⟨rfl,_,Ue a7.atN,_,_,_,_,_,rfl,aa.fin (cm [(4,c1),(5,c2)]),aa.fo am,aa.fo an⟩
def Zkn (N:Nat) (ad:Int) (ae:Int):Option (R1×Int):=
  (Zf9 N ad).bind fun ab=>(Zf9 N ae).bind fun ac=>(Zkm N (ab.1,ab.2) (ac.1,ac.2)).bind fun aa=>some (((aa.1.1.1,aa.1.1.2),aa.1.2),aa.2)
theorem Zxp {N:Nat} {col:Zd} {w0:World} {ak al:Int} {r:(R1×Int)} (c1 c2:Nat) (hm:Zkn N ak al=some r):
    Calls prog 209 #[.int .i64 ak,.int .i64 al] w0 (fun e w'=>∃ (col':Zd) (ra1:Option Addr) (rc2:Nat) (ra4:Option Addr) (rc5:Nat),e= .returned (.tuple #[(.agg #[.bool r.1.1.1,.slice ra1 r.1.1.2.length rc2,.slice ra4 r.1.2.length rc5]),.int .i64 r.2])∧Zi col w0 col' w'∧Zc (Za.int .u32) 79 c1 col' w' ra1 rc2 r.1.1.2∧Zc (Za.int .u32) 79 c2 col' w' ra4 rc5 r.1.2):=by
 refine Wi (m:=13) func209 rfl rfl rfl ?_;rw [Zkn.eq_1] at hm;have ab:=St.start col w0;refine go ?_;refine Xr (col:=(Zj col)) #[.bool false,.slice none (([]:List Int).length) 0,.slice none (([]:List Int).length) 0] 1 zeroValue47 ?_;intro a4 a5 an ao ag;refine go ?_;obtain ⟨a6,ap,hm⟩:=bZ hm;refine Zh (Zpx (col:=an) 2 ap) ?_;rintro _ a7 ⟨aq,a8,a9,rfl,am,ah⟩;refine ⟨_,rfl,?_⟩;refine Yd rfl ?_;obtain ⟨ba,ar,hm⟩:=bZ hm;refine Zh (Zpx (col:=aq) 3 ar) ?_;rintro _ au ⟨ae,bb,bc,rfl,ai,av⟩;refine ⟨_,rfl,?_⟩;obtain ⟨af,aw,hm⟩:=bZ hm;replace ah:=ah.gr ai;refine Zh (Zxo 4 5 aw ((ah.toSlF (Zg.int .u32)).froz 3) ((av.froz 2 (by decide)).toSlF (Zg.int .u32))) ?_;rintro _ bd ⟨ax,ay,az,a0,a1,rfl,aa,ac,ad⟩;refine ⟨_,rfl,?_⟩;replace ac:=ac.thaw (Z0 .u32) aa (((Fz.refl (col:=ae)).froz 2).froz 3) (by decide);replace ad:=ad.thaw (Z0 .u32) aa (((Fz.refl (col:=ae)).froz 2).froz 3) (by decide);replace aa:=aa.thawR (col:=ae);generalize Xc au.heap.size ae ax=be at *;refine lV (.agg #[.bool af.1.1.1,.slice ay af.1.1.2.length az,.slice a0 af.1.2.length a1]) (Xe rfl rfl)<|lV (.int .i64 af.2) (Xe rfl rfl) ?_;replace ag:=((ag.gr am).gr ai).gr aa;refine Z5 ag ?_;intro bf aj a2 a3;refine go ?_;cases hm;replace ab:=((((ab.grow ao).grow am).grow ai).grow aa).kp aj a2;replace ac:=ac.kp aj;replace ad:=ad.kp aj;exact ⟨rfl,_,Ue a3.atN,_,_,_,_,_,rfl,ab.fin (cm [(4,c1),(5,c2)]),ab.fo ac,ab.fo ad⟩
def Q3 (N:Nat) (ab:Int) (ac:Int):Option R1:=
  (Zkn N ab ac).bind fun aa=>some ((aa.1.1.1,aa.1.1.2),aa.1.2)
theorem Zeo {N:Nat} {col:Zd} {w0:World} {ai aj:Int} {r:R1} (c1 c2:Nat) (hm:Q3 N ai aj=some r):
    Calls prog 95 #[.int .i64 ai,.int .i64 aj] w0 (fun e w'=>∃ (col':Zd) (ra1:Option Addr) (rc2:Nat) (ra4:Option Addr) (rc5:Nat),e= .returned ((.agg #[.bool r.1.1,.slice ra1 r.1.2.length rc2,.slice ra4 r.2.length rc5]))∧Zi col w0 col' w'∧Zc (Za.int .u32) 79 c1 col' w' ra1 rc2 r.1.2∧Zc (Za.int .u32) 79 c2 col' w' ra4 rc5 r.2):=by
 refine Wi (m:=14) func95 rfl rfl rfl ?_;rw [Q3.eq_1] at hm;have ab:=St.start col w0;refine go ?_;refine Xr (col:=(Zj col)) #[.bool false,.slice none (([]:List Int).length) 0,.slice none (([]:List Int).length) 0] 1 zeroValue47 ?_;intro a0 a1 ap aq ae;refine go ?_;obtain ⟨aa,ar,hm⟩:=bZ hm;refine Zh (Zxp (col:=ap) 2 3 ar) ?_;rintro _ a2 ⟨au,ak,al,am,an,rfl,ao,af,ag⟩;refine ⟨_,rfl,?_⟩;refine lM (.tuple #[(.agg #[.bool aa.1.1.1,.slice ak aa.1.1.2.length al,.slice am aa.1.2.length an]),.int .i64 aa.2])<|lV (.agg #[.bool aa.1.1.1,.slice ak aa.1.1.2.length al,.slice am aa.1.2.length an]) (Xe rfl rfl)<|lV (.int .i64 aa.2) (Xe rfl rfl)<|Xr (col:=au) #[.bool false,.slice none (([]:List Int).length) 0,.slice none (([]:List Int).length) 0] 4 zeroValue47 ?_;intro a3 a4 a5 ac av;refine Z5 av ?_;intro a6 ad aw ax;refine go ?_;refine lV _ (Xh isAgg47 sizeOf47 ax) ?_;replace ae:=((ae.gr ao).gr ac).kp ad;refine Z5 ae ?_;intro a7 ah ay az;refine go ?_;cases hm;replace ab:=((((ab.grow aq).grow ao).grow ac).kp ad aw).kp ah ay;replace af:=((af.gr ac).kp ad).kp ah;replace ag:=((ag.gr ac).kp ad).kp ah;exact ⟨rfl,_,ra az.atN,_,_,_,_,_,rfl,ab.fin (cm [(2,c1),(3,c2)]),ab.fo af,ab.fo ag⟩
theorem Zon {N k:Nat} {neg:Bool} {m:List Int} (hm:Zn m) (hk:m.length≤k) (hr:Xm N k):Zdv N neg m=some (X5 (Zt (neg,m))):=by
 obtain ⟨r1,r2⟩:=hr
 rw [Zdv,Sq hm (by omega) (by omega),oB,Zin]
 have e:decide (0<((Ze (Zb m)).length:Int))=decide (Zb m≠0):=by
  by_cases h:Zb m=0
  ·rw [h,Wt];decide
  ·have:=T5 h
   rw [decide_eq_true (by omega),decide_eq_true h]
 cases neg
 ·rw [if_neg (by decide),Zf7,Bool.false_and]
 ·rw [if_pos rfl,Zf7,e,Bool.true_and]
theorem Zu1 {N k:Nat} {a:ZV} (hm:Zn a.2) (hk:a.2.length≤k) (hr:Xm N k):Zf8 N a=some (X5 (Zt a)):=by
 rw [Zf8,Zon hm hk hr];rfl
theorem Z2k {N k:Nat} {a:ZV} (hm:Zn a.2) (hk:a.2.length≤k) (hr:Xm N k):Zhx N a=some (Zt a).sign:=by
 rw [Zhx,Zu1 hm hk hr,oB,X5]
 generalize Zt a=z
 by_cases h:z=0
 ·subst h;rw [Int.natAbs_zero,Wt,if_pos (by decide)];rfl
 ·have:=T5 (n:=z.natAbs) (by omega)
  rw [if_neg (dF (by simp only;omega))]
  by_cases h2:z<0
  ·rw [if_pos (dT h2),Int.sign_eq_neg_one_of_neg h2]
  ·rw [if_neg (fun hc=>h2 (of_decide_eq_true hc)),Int.sign_eq_one_of_pos (by omega)]
theorem Zu3 {N:Nat} {z:Int} (h:-9223372036854775808≤z∧z≤9223372036854775807) (hr:Xm N 4):Zf9 N z=some (X5 z):=by
 have hr':=hr
 obtain ⟨r1,r2⟩:=hr'
 have l2:∀ n:Nat,n<18446744073709551616→(Ze n).length≤2:=fun n hn=>Wq.2 (by simpa using hn)
 have l1:Zn [1]:=.cons (by decide) .nil
 rw [Zf9]
 by_cases hz:0≤z
 ·rw [if_pos (dT hz),Xo (by omega),Zu4 (by omega) (by omega),oB,Zon (Z9 _) (l2 _ (by omega)) (hr.mono (by omega)),oB]
  have e2:Zt (false,Ze z.toNat)=z:=by simp only [Zt,Z4];simp;omega
  rw [e2]
 ·have hl3:=l2 (-z - 1).toNat (by omega)
  have e:u64.wrap (i64.wrap (-i64.wrap (z+1)))= -z - 1:=by rw [Z2 (x:=z+1) (by omega),Z2 (by omega),Xo (by omega)];omega
  rw [if_neg (dF hz),e,Zu4 (by omega) (by omega),oB,Z17 (Z9 _) l1 (by simp only [List.length_singleton];omega) (by simp only [List.length_singleton];omega),oB,Z4,Y3,Ym,Zon (k:=4) (Z9 _) (by
   have:=l2 ((-z - 1).toNat+((1:Int).toNat+4294967296 * 0)) (by omega)
   omega) hr,oB]
  have e2:Zt (true,Ze ((-z - 1).toNat+((1:Int).toNat+4294967296 * 0)))=z:=by simp only [Zt,Z4,if_true];omega
  rw [e2]
theorem Z2h {N k l:Nat} {num:ZV} {den:List Int} (hn:Zn num.2) (hd:Zn den) (h0:Zb den≠0) (hk:num.2.length≤k) (hl:den.length≤l) (hr:Xm N (k+l)):
  Zhy N num den=some (Zp (mkRat (Zt num) (Zb den))):=by
 have hr':=hr
 obtain ⟨r1,r2⟩:=hr'
 have l1:=Ys hn
 have l2:=Ys hd
 have hg:Nat.gcd (Zb num.2) (Zb den)≠0:=fun h=>h0 (Nat.gcd_eq_zero_iff.1 h).2
 have lg:(Ze (Nat.gcd (Zb num.2) (Zb den))).length≤den.length:=Nat.le_trans (W4 (Nat.gcd_le_right _ (by omega))) l2
 have lq:=W4 (Nat.div_le_self (Zb num.2) (Nat.gcd (Zb num.2) (Zb den)))
 have ld:=W4 (Nat.div_le_self (Zb den) (Nat.gcd (Zb num.2) (Zb den)))
 obtain ⟨g,g1,g2,g3,g4⟩:=Z2g (N:=N) (M:=k+l) hn hd (by omega) (by omega) (by omega) (by omega)
 rw [Zhy,g1,oB,Zuo hn g2 (by rw [g3];omega) (by omega) (by rw [g3];omega) (by omega),oB,Zuo hd g2 (by rw [g3];omega) (by omega) (by rw [g3];omega) (by omega),oB,g3,if_neg hg,if_neg hg,
  Zu1 (k:=k) (a:=(num.1,Ze (Zb num.2 / Nat.gcd (Zb num.2) (Zb den)))) (Z9 _) (by simp only;omega) (hr.mono (by omega)),oB,Sq (Z9 _) (by omega) (by omega),oB,Zs0 (neg:=num.1) h0,Zin,Z4,Z4]
theorem Z3b {N:Nat} {a b:Int} (h:-9223372036854775808≤a∧a≤9223372036854775807) (g:0<b∧b≤9223372036854775807) (hr:Xm N 8):Q3 N a b=some (Zp ((a:Rat) / (b:Rat))):=by
 have l2:∀ z:Int,-9223372036854775808≤z∧z≤9223372036854775807→(X5 z).2.length≤2:=fun z hz=>Wq.2 (by simp;omega)
 have la:=l2 a h
 have lb:=l2 b (by omega)
 have hb0:Zb (X5 b).2≠0:=by rw [Znh,Z4];omega
 have e:=Znq (Zt (X5 a)) 1 (X5 b) 1 (X5 a).1 (X5 a).2 rfl hb0
 rw [Q3,Zkn,Zu3 h (hr.mono (by omega)),oB,Zu3 (by omega) (hr.mono (by omega)),oB,Zkm,Z2k (a:=X5 b) (Qp _) lb (hr.mono (by omega)),oB,Qh,Int.sign_eq_one_of_pos g.1,if_neg (by decide),Z2h (num:=(!decide ((X5 a).1=(X5 b).1),(X5 a).2)) (Qp _) (Qp _) hb0 la lb (hr.mono (by omega)),oB,oB,oB]
 rw [Rat.mkRat_eq_div,Rat.mkRat_eq_div,Qh,Qh] at e
 have e1:(a:Rat) / ((1:Nat):Rat) / ((b:Rat) / ((1:Nat):Rat))=(a:Rat) / (b:Rat):=by
  have h1:((1:Nat):Rat)=1:=rfl
  have h2:(1:Rat)⁻¹=1:=Rat.inv_eq_of_mul_eq_one (by grind)
  simp only [h1,Rat.div_def,h2,Rat.mul_one]
 rw [e1,Nat.one_mul,Nat.mul_one] at e
 rw [e]
 have e2:Zt (!decide ((X5 a).1=(X5 b).1),Ze (Zb (X5 a).2))=Zt (!decide ((X5 a).1=(X5 b).1),(X5 a).2):=by simp only [Zt,Z4]
 rw [e2]
theorem div_one (a:Rat):a / 1=a:=by
 have h2:(1:Rat)⁻¹=1:=Rat.inv_eq_of_mul_eq_one (by grind)
 rw [Rat.div_def,h2,Rat.mul_one]
def Zd1 (ab:ByteArray):List ByteArray→Nat→Option Int
  | [],aa=>some (-1)
  | ac :: ad,aa=>if (decide (ab=ac))=true then (some (aa:Int)) else ((Zd1 ab ad) (aa+1))
termination_by structural x=>x
def Zk6 (aa:List ByteArray) (ab:ByteArray):Option Int:=
  Zd1 ab aa 0
theorem Zx6 {ag:Nat} {a0:Option Addr} {col:Zd} {w0:World} {ab:R5} {ae:ByteArray} {r:Int} (hm:Zk6 ab ae=some r) (h0:Sl Za.str col w0 a0 ag ab):
    Calls prog 191 #[.slice a0 ab.length ag,.string ae] w0 (fun e w'=>e= .returned ((.int .i64 r))∧Below w0.heap.size w0 w'):=by
 refine Xk 4 (m:=19) func191 rfl rfl rfl rfl rfl ?_;rw [Zk6.eq_1] at hm;have aa:=St.start col w0;refine go ?_;refine Z8 [0,1,7,1000000] (fun n f ah=>∃ ai ac ad,n=ad.length∧ab.drop ac=ad∧Zd1 ae ad ac=some r∧St w0 (Zj col) ai ah∧[8].map f=[.int .i64 ac]) ab.length ⟨_,0,_,rfl,rfl,hm,aa,rfl⟩ ?_;clear hm;intro n f ah hI;obtain ⟨ai,ac,ad,hn,hl,hm,aa,hs⟩:=hI;subst hn;refine .lL [8] hs ?_;replace h0:=h0.keep (Zl.start col w0)
 cases ad with
 | nil=>
  have hk:¬ ((ac:Int)<(ab.length:Int)):=by have:=List.drop_eq_nil_iff.1 hl;omega
  have hkb:=decide_eq_false hk;rw [Zd1.eq_1] at hm;refine go ?_;refine X3 (congrArg Value.bool hkb)<|go ?_;cases hm;exact ⟨rfl,rfl,aa.below⟩
 | cons am aj=>
  obtain ⟨af,ak,al⟩:=Yk hl;have hk:(ac:Int)<(ab.length:Int):=by omega
  have hkb:=decide_eq_true hk;rw [Zd1.eq_2] at hm;refine go ?_;refine X4 (congrArg Value.bool hkb)<|go ?_;refine lI af ((h0.ks aa).addr af)<|lW ((h0.ks aa).atStr af) ?_;refine go ?_;refine Zr hm (fun hb hm=>go ?_) fun hb hm=>go ?_
  ·cases hm;exact ⟨rfl,rfl,aa.below⟩
  exact ⟨aj.length,by simp,rfl,⟨_,_,_,rfl,ak,hm,aa,(Yo (congrArg (Value.int .i64) (Yn (Nat.lt_of_lt_of_le al (h0.ks aa).1.1))) rfl)⟩⟩
def Zic (aa:List ByteArray) (ab:ByteArray):Option Bool:=
  (Zk6 aa ab).bind fun ac=>some (decide (0≤ac))
theorem Zx4 {ad:Nat} {a0:Option Addr} {col:Zd} {w0:World} {ab:R5} {ae:ByteArray} {r:Bool} (hm:Zic ab ae=some r) (h0:Sl Za.str col w0 a0 ad ab):
    Calls prog 78 #[.slice a0 ab.length ad,.string ae] w0 (fun e w'=>e= .returned ((.bool r))∧Below w0.heap.size w0 w'):=by
 refine Xk 4 (m:=9) func78 rfl rfl rfl rfl rfl ?_;rw [Zic.eq_1] at hm;have aa:=St.start col w0;refine go ?_;obtain ⟨ah,af,hm⟩:=bZ hm;replace h0:=h0.keep (Zl.start col w0);refine Zh (Zx6 af (h0.ks aa)) ?_;rintro _ ag ⟨rfl,ac⟩;refine ⟨_,rfl,?_⟩;replace ac:Zi (Zj col) w0 (Zj col) ag:=.of_below ac;refine go ?_;cases hm;replace aa:=aa.grow ac;exact ⟨rfl,rfl,aa.below⟩
def Zb0:List ByteArray→(List (ByteArray×Int))→Option Bool
  | [],aa=>some false
  | ab :: ac,aa=>if (decide (0<((Wf aa ab).getD 0)))=true then (some true) else ((some (Sf aa ab 1)).bind fun ad=>(Zb0 ac) ad)
termination_by structural x=>x
def Zhe (aa:List ByteArray):Option Bool:=
  Zb0 aa ([]:List (ByteArray×Int))
theorem Zxc {al:Nat} {a0:Option Addr} {col:Zd} {w0:World} {ab:R5} {r:Bool} (hm:Zhe ab=some r) (h0:Sl Za.str col w0 a0 al ab):
    Calls prog 252 #[.slice a0 ab.length al] w0 (fun e w'=>e= .returned ((.bool r))∧Below w0.heap.size w0 w'):=by
 refine Xk 2 (m:=20) func252 rfl rfl rfl rfl rfl ?_;rw [Zhe.eq_1] at hm;have aa:=St.start col w0;refine go ?_;refine Z0c (col:=(Zj col)) (fk:=Value.string) (fv:=(Value.int .i64)) 1 rfl ?_;intro ay az a1 ao ap;refine go ?_;replace aa:=aa.grow ao;refine Z8 [7,8,1000000] (fun n f af=>∃ ag ah ac ad ae,n=ae.length∧ab.drop ad=ae∧Zb0 ae ac=some r∧St w0 (Zj col) ag af∧W8 Value.string (Value.int .i64) 1 ag af ah ac∧[9,3].map f=[.int .i64 ad,.map (some ah)]) ab.length ⟨_,_,_,0,_,rfl,rfl,hm,aa,ap,rfl⟩ ?_;clear hm;intro n f af hI;obtain ⟨ag,ah,ac,ad,ae,hn,hl,hm,aa,am,hs⟩:=hI;subst hn;refine .lL [9,3] hs ?_;replace h0:=h0.keep (Zl.start col w0)
 cases ae with
 | nil=>
  have hk:¬ ((ad:Int)<(ab.length:Int)):=by have:=List.drop_eq_nil_iff.1 hl;omega
  have hkb:=decide_eq_false hk;rw [Zb0.eq_1] at hm;refine go ?_;refine X3 (congrArg Value.bool hkb)<|go ?_;cases hm;exact ⟨rfl,rfl,aa.below⟩
 | cons ai aq=>
  obtain ⟨aj,ar,au⟩:=Yk hl;have hk:(ad:Int)<(ab.length:Int):=by omega
  have hkb:=decide_eq_true hk;rw [Zb0.eq_2] at hm;refine go ?_;refine X4 (congrArg Value.bool hkb)<|go ?_;refine lI aj ((h0.ks aa).addr aj)<|lW ((h0.ks aa).atStr aj) ?_;refine go ?_;refine lV (.int .i64 ((Wf ac ai).getD 0)) (Zug Tt.str am underlying111 underlying9 zeroValue3 rfl rfl)<|go ?_;refine Zr hm (fun hb hm=>go ?_) fun hb hm=>go ?_
  ·cases hm;exact ⟨rfl,rfl,aa.below⟩
  obtain ⟨av,ak,hm⟩:=bZ hm;have ak:av=Sf ac ai 1:=(Option.some.inj ak).symm;refine Zrs (k:=ai) (v:=1) Tt.str am underlying111 underlying9 rfl rfl rfl ?_;intro a2 aw ax an;rw [← ak] at an;refine go ?_;replace aa:=aa.kp aw ax;exact ⟨aq.length,by simp,rfl,⟨_,_,_,_,_,rfl,ar,hm,aa,an,(Yo (congrArg (Value.int .i64) (Yn (Nat.lt_of_lt_of_le au (h0.ks aa).1.1))) rfl)⟩⟩
def Zfj (ab:R0) (aa:Nat) (kk_L1:(Nat→Option Int)) (ac:Bool):Option Int:=
  if ac=true then (some 40) else ((Zq ab.2.2.1 (aa:Int)).bind fun ad=>if (decide ((ad.length:Int)=0))=true then (some 43) else (kk_L1 (aa+1)))
def Zaw (aa:R0):List ByteArray→Nat→Option Int
  | [],ab=>some 0
  | ad :: ac,ab=>Zz ((0:Int)≤(ab:Int)∧(ab:Int)≤(aa.2.1.length:Int)) ((Zic (aa.2.1.take (Int.toNat (ab:Int))) ad).bind fun ae=>if ae=true then (Zfj aa ab (Zaw aa ac) true) else ((Zq aa.2.2.1 (ab:Int)).bind fun af=>(Zhe af).bind fun ag=>Zfj aa ab (Zaw aa ac) ag))
termination_by structural x=>x
def Zdd (aa:R0):Option Int:=
  Zaw aa aa.2.1 0
theorem Zw9 {ae ak al am:Nat} {af an ao ap:Option Addr} {col:Zd} {w0:World} {aa:R0} {r:Int} (hm:Zdd aa=some r) (ag:Sl Za.str col w0 af ae aa.2.1) (ai:Sl (Za.slice Za.str) col w0 an ak aa.2.2.1) (bi:Sl (Za.slice (Za.int .i64)) col w0 ao al aa.2.2.2.1) (bj:Sl (Za.slice (Za.pair (Za.pair Za.bool (Za.slice (Za.int .u32))) (Za.slice (Za.int .u32)))) col w0 ap am aa.2.2.2.2):
    Calls prog 174 #[(.agg #[.string aa.1,.slice af aa.2.1.length ae,.slice an aa.2.2.1.length ak,.slice ao aa.2.2.2.1.length al,.slice ap aa.2.2.2.2.length am])] w0 (fun e w'=>e= .returned ((.int .i64 r))∧Below w0.heap.size w0 w'):=by
 refine Xk 2 (m:=37) func174 rfl rfl rfl rfl rfl ?_;rw [Zdd.eq_1] at hm;have ab:=St.start col w0;refine go ?_;refine Ye (col:=(Zj col)) 1 rfl ?_;intro a3 bk bm a6 ac;refine go ?_;refine Xu ac ?_;refine go ?_;replace ab:=ab.grow a6;refine Z8 [1,6,7,1000000] (fun n f aq=>∃ ah ad aj,n=aj.length∧aa.2.1.drop ad=aj∧Zaw aa aj ad=some r∧St w0 (Zj col) ah aq∧Zk 27 1 ah aq a3 #[.string aa.1,.slice af aa.2.1.length ae,.slice an aa.2.2.1.length ak,.slice ao aa.2.2.2.1.length al,.slice ap aa.2.2.2.2.length am]∧[8].map f=[.int .i64 ad]) aa.2.1.length ⟨_,0,_,rfl,rfl,hm,ab,ac,rfl⟩ ?_;clear hm;intro n f aq hI;obtain ⟨ah,ad,aj,hn,hl,hm,ab,ac,hs⟩:=hI;subst hn;refine .lL [8] hs ?_;replace ag:=ag.keep (Zl.start col w0);replace ai:=ai.keep (Zl.start col w0)
 cases aj with
 | nil=>
  have hk:¬ ((ad:Int)<(aa.2.1.length:Int)):=by have:=List.drop_eq_nil_iff.1 hl;omega
  have hkb:=decide_eq_false hk;rw [Zaw.eq_1] at hm;refine go ?_;refine X3 (congrArg Value.bool hkb)<|go ?_;cases hm;exact ⟨rfl,rfl,ab.below⟩
 | cons bn a4=>
  obtain ⟨av,a7,a8⟩:=Yk hl;have hk:(ad:Int)<(aa.2.1.length:Int):=by omega
  have hkb:=decide_eq_true hk;rw [Zaw.eq_2] at hm;refine go ?_;refine X4 (congrArg Value.bool hkb)<|go ?_;refine lI av ((ag.ks ab).addr av)<|lW ((ag.ks ab).atStr av)<|Yr rfl<|lAT rfl<|Zm<|Zlz<|Zw ?_;refine Wp.cutK [1,3,6,7,8,1000000] (fun f aw=>∃ ax ay,Zfj aa ad (Zaw aa a4) ay=some r∧St w0 (Zj col) ax aw∧Zk 27 1 ax aw a3 #[.string aa.1,.slice af aa.2.1.length ae,.slice an aa.2.2.1.length ak,.slice ao aa.2.2.2.1.length al,.slice ap aa.2.2.2.2.length am]∧[13].map f=[.bool ay]) ?_ ?_
  ·intro f aw hJ;obtain ⟨ax,ay,hm,ab,ac,hs⟩:=hJ;rw [Zfj.eq_1] at hm;refine .lL [13] hs ?_;refine Zr hm (fun hb hm=>go ?_) fun hb hm=>go ?_
   ·cases hm;exact ⟨rfl,rfl,ab.below⟩
   refine Xu ac<|Yd rfl ?_;obtain ⟨bo,az,hm⟩:=bZ hm;refine lI az ((ai.ks ab).addr az) ?_;obtain ⟨_,a9,ba⟩:=(ai.ks ab).atN az;obtain ⟨⟨bp,bq,rfl,br⟩,_⟩:=a9;refine lW ba.one<|go ?_;refine Zr hm (fun hb hm=>go ?_) fun hb hm=>go ?_
   ·cases hm;exact ⟨rfl,rfl,ab.below⟩
   exact ⟨a4.length,by simp,rfl,⟨_,_,_,rfl,a7,hm,ab,ac,(Yo (congrArg (Value.int .i64) (Yn (Nat.lt_of_lt_of_le a8 (ag.ks ab).1.1))) rfl)⟩⟩
  refine Wr<|Xu ac<|Yd rfl ?_;obtain ⟨a0,hm⟩:=Z3 hm;refine lv (v:=.slice af (Int.toNat (ad:Int)) ae) rfl rfl (Zgk underlying22 sizeOf9 rfl rfl a0.1 (by have:=(ag.ks ab).1.2;have:=a0.2;omega))<|.ld (d:=17) (v:=(.slice af ((aa.2.1.take (Int.toNat (ad:Int))).length) ae)) (congrArg (fun n=>Value.slice af n ae) (List.length_take_of_le (show (Int.toNat (ad:Int))≤aa.2.1.length by have:=a0.2;omega)).symm) ?_;refine lMT rfl ?_;obtain ⟨bs,bb,hm⟩:=bZ hm;refine Zh (Zx4 bb ((ag.ks ab).take (Int.toNat (ad:Int)))) ?_;rintro _ a5 ⟨rfl,ar⟩;refine ⟨_,rfl,?_⟩;replace ar:Zi ah aq ah a5:=.of_below ar;refine Y6 rfl ?_;replace ac:=ac.gr ar;replace ab:=ab.grow ar;refine X1 hm (fun a1 hm=>go ?_) fun a1 hm=>go ?_
  ·refine lV (.bool true) (Xs (congrArg Value.bool a1) rfl)<|go ?_;exact ⟨rfl,_,_,hm,ab,ac,rfl⟩
  refine Y5 ⟨_,_,rfl⟩ ?_;refine go ?_;refine lW ((ac.atN).nth (q:=2) rfl)<|go ?_;obtain ⟨bt,a2,hm⟩:=bZ hm;refine lI a2 ((ai.ks ab).addr a2) ?_;refine go ?_;obtain ⟨_,bc,bd⟩:=(ai.ks ab).atN a2;obtain ⟨⟨bu,bv,rfl,be⟩,_⟩:=bc;refine lW bd.one<|go ?_;obtain ⟨bf,bg,hm⟩:=bZ hm;refine Zh (Zxc bg be) ?_;rintro _ bh ⟨rfl,au⟩;refine ⟨_,rfl,?_⟩;replace au:Zi ah a5 ah bh:=.of_below au;refine lV (.bool bf) (Xl (congrArg Value.bool a1) rfl)<|go ?_;replace ac:=ac.gr au;replace ab:=ab.grow au;exact ⟨rfl,_,_,hm,ab,ac,rfl⟩
def Zfh (aa:Bool) (ab:List Int) (ac:List Int):Option R1:=
  some ((aa,ab),ac)
def Zby (N:Nat) (aa:R1):Option R1:=
  (Zdk N aa.2).bind fun ab=>if (decide ((ab.length:Int)=0))=true then ((Q1 N 1).bind fun ac=>Zfh aa.1.1 aa.1.2 ac) else (Zfh aa.1.1 aa.1.2 aa.2)
theorem Zpn {N am a1:Nat} {an a2:Option Addr} {col:Zd} {w0:World} {ad r:R1} (hm:Zby N ad=some r) (ai:Sl (Za.int .u32) col w0 an am ad.1.2) (aj:Sl (Za.int .u32) col w0 a2 a1 ad.2):
    Calls prog 183 #[(.agg #[.bool ad.1.1,.slice an ad.1.2.length am,.slice a2 ad.2.length a1])] w0 (fun e w'=>∃ (col':Zd) (ra1:Option Addr) (rc2:Nat) (ra4:Option Addr) (rc5:Nat),e= .returned ((.agg #[.bool r.1.1,.slice ra1 r.1.2.length rc2,.slice ra4 r.2.length rc5]))∧Zi col w0 col' w'∧Sl (Za.int .u32) col' w' ra1 rc2 r.1.2∧Sl (Za.int .u32) col' w' ra4 rc5 r.2):=by
 refine Wi (m:=11) func183 rfl rfl rfl ?_;rw [Zby.eq_1] at hm;have aa:=St.start col w0;refine go ?_;refine Ye (col:=(Zj col)) 1 rfl ?_;intro a3 bj a8 a9 ab;refine Xr (col:=a8) #[.bool false,.slice none (([]:List Int).length) 0,.slice none (([]:List Int).length) 0] 2 zeroValue47 ?_;intro ba bk bm a4 ac;refine Zm<|Zw ?_;replace ai:=ai.keep (Zl.start col w0);replace aj:=aj.keep (Zl.start col w0);replace aa:=(aa.grow a9).grow a4;replace ab:=ab.gr a4;refine Wp.cutK [1,2,1000000] (fun f ae=>∃ af ao ap aq ak ar au al,Zfh ao ak al=some r∧St w0 (Zj col) af ae∧Sl (Za.int .u32) af ae ap aq ak∧Sl (Za.int .u32) af ae ar au al∧Zk 47 1 af ae a3 #[.bool ao,.slice ap ak.length aq,.slice ar al.length au]∧Zk 47 2 af ae ba #[.bool false,.slice none (([]:List Int).length) 0,.slice none (([]:List Int).length) 0]) ?_ ?_
 ·intro f ae hJ;obtain ⟨af,ao,ap,aq,ak,ar,au,al,hm,aa,av,aw,ab,ac⟩:=hJ;rw [Zfh.eq_1] at hm;refine go ?_;refine lV _ (Xh isAgg47 sizeOf47 ab)<|Z5 ac ?_;intro bn ax bb bc;refine go ?_;cases hm;replace av:=av.kp ax;replace aw:=aw.kp ax;replace aa:=aa.kp ax bb;exact ⟨rfl,_,ra bc.atN,_,_,_,_,_,rfl,aa.fin (cm []),aa.fs av,aa.fs aw⟩
 refine go ?_;refine Xu ab ?_;obtain ⟨bo,bd,hm⟩:=bZ hm;refine Zh (Zmg 3 bd (aj.ks aa)) ?_;rintro _ bp ⟨be,bq,br,rfl,ay,bs⟩;refine ⟨_,rfl,go ?_⟩;replace ab:=ab.gr ay;replace ac:=ac.gr ay;replace aa:=aa.grow ay;refine Zr hm (fun hb hm=>?_) fun hb hm=>?_
 ·refine Wr ?_;obtain ⟨a5,bf,hm⟩:=bZ hm;refine Zh (Zen (col:=be) 4 bf) ?_;rintro _ bt ⟨bg,a6,a7,rfl,az,ag⟩;refine ⟨_,rfl,?_⟩;refine Y5 ⟨_,_,rfl⟩ ?_;replace ab:=ab.gr az;refine Qn (off:=2) (v:=(.slice a6 a5.length a7)) ab sizeOf43 rfl rfl (by intro u hu;simp only [Value.cells,List.mem_cons,List.not_mem_nil,or_false] at hu;subst hu;rfl) rfl rfl ?_;intro bh a0 bi ah;replace ah:Zk 47 1 bg bh a3 #[.bool ad.1.1,.slice an ad.1.2.length am,.slice a6 a5.length a7]:=ah;refine Zm ?_;replace ag:=ag.kp a0;replace ag:=(ag).toSlF (Zg.int .u32);replace ah:=ah.froz 4 (by decide);replace ac:=(ac.gr az).kp a0;replace ac:=ac.froz 4 (by decide);replace aa:=(aa.grow az).kp a0 bi;replace aa:=aa.froz 4 (by decide) (by decide);exact ⟨rfl,_,_,_,_,_,_,_,_,hm,aa,(ai.ks aa),ag,ah,ac⟩
 refine X8 ?_;exact ⟨rfl,_,_,_,_,_,_,_,_,hm,aa,(ai.ks aa),(aj.ks aa),ab,ac⟩
theorem Zzc:Y4 prog 47 3 56:=⟨Tryz.t47,_,rfl,rfl,rfl,rfl,rfl⟩
def Zbz (N:Nat):List R1→R8→Option R8
  | [],ab=>some ab
  | ac :: ad,ab=>(Zby N ((ac.1.1,ac.1.2),ac.2)).bind fun aa=>Zz ((ab.length+[((aa.1.1,aa.1.2),aa.2)].length) * 56≤140737488355328∧ab.length+[((aa.1.1,aa.1.2),aa.2)].length≤maxLen) ((Zbz N ad) (ab++[((aa.1.1,aa.1.2),aa.2)]))
termination_by structural x=>x
def Zfi (N:Nat) (aa:R8):Option R8:=
  Zz (aa.length * 56≤281474976710656∧aa.length≤maxLen) (Zbz N aa ([]:List R1))
theorem Zpo {N ar:Nat} {a0:Option Addr} {col:Zd} {w0:World} {ac r:R8} (c1:Nat) (hm:Zfi N ac=some r) (h0:Sl (Za.pair (Za.pair Za.bool (Za.slice (Za.int .u32))) (Za.slice (Za.int .u32))) col w0 a0 ar ac):
    Calls prog 178 #[.slice a0 ac.length ar] w0 (fun e w'=>∃ (col':Zd) (ra1:Option Addr) (rc2:Nat),e= .returned ((.slice ra1 r.length rc2))∧Zi col w0 col' w'∧Zc (Za.pair (Za.pair Za.bool (Za.slice (Za.int .u32))) (Za.slice (Za.int .u32))) 47 c1 col' w' ra1 rc2 r):=by
 refine Xk 2 (m:=22) func178 rfl rfl rfl rfl rfl ?_;rw [Zfi.eq_1] at hm;have ab:=St.start col w0;refine go ?_;obtain ⟨au,hm⟩:=Z3 hm;refine Z0b (col:=(Zj col)) (w:=w0) (r:=(Za.pair (Za.pair Za.bool (Za.slice (Za.int .u32))) (Za.slice (Za.int .u32)))) (n:=ac.length) 1 rfl underlying56 Zzc rfl rfl rfl au.1 au.2 ?_;intro bt bu bv a2 a3;refine go ?_;replace ab:=ab.grow a2;refine Z8 [10,9,1000000] (fun n f ak=>∃ af ad al am ag ae,n=ae.length∧ac.drop ad=ae∧Zbz N ae ag=some r∧St w0 (Zj col) af ak∧Zc (Za.pair (Za.pair Za.bool (Za.slice (Za.int .u32))) (Za.slice (Za.int .u32))) 47 1 af ak al am ag∧[11,3].map f=[.int .i64 ad,.slice al ag.length am]) ac.length ⟨_,0,_,_,_,_,rfl,rfl,hm,ab,a3,rfl⟩ ?_;clear hm;intro n f ak hI;obtain ⟨af,ad,al,am,ag,ae,hn,hl,hm,ab,ah,hs⟩:=hI;subst hn;refine .lL [11,3] hs ?_;replace h0:=h0.keep (Zl.start col w0)
 cases ae with
 | nil=>
  have hk:¬ ((ad:Int)<(ac.length:Int)):=by have:=List.drop_eq_nil_iff.1 hl;omega
  have hkb:=decide_eq_false hk;rw [Zbz.eq_1] at hm;refine go ?_;refine X3 (congrArg Value.bool hkb)<|go ?_;cases hm;exact ⟨rfl,_,_,_,rfl,ab.fin (cm [(1,c1)]),ab.fo ah⟩
 | cons an a4=>
  obtain ⟨ao,a5,a6⟩:=Yk hl;have hk:(ad:Int)<(ac.length:Int):=by omega
  have hkb:=decide_eq_true hk;rw [Zbz.eq_2] at hm;refine go ?_;refine X4 (congrArg Value.bool hkb)<|go ?_;refine lI ao ((h0.ks ab).addr ao) ?_;obtain ⟨_,a7,a8⟩:=(h0.ks ab).atN ao;obtain ⟨_,_,rfl,a9,ba⟩:=Uf a7;obtain ⟨_,_,rfl,bb,bc⟩:=Uf a9;obtain ⟨rfl,_⟩:=bb;obtain ⟨⟨bd,be,rfl,ap⟩,_⟩:=bc;obtain ⟨⟨bf,bg,rfl,aq⟩,_⟩:=ba;refine lV (.agg #[.bool an.1.1,.slice bd an.1.2.length be,.slice bf an.2.length bg]) (Wj isAgg47 sizeOf47 rfl rfl a8)<|Xr (col:=af) #[.bool false,.slice none (([]:List Int).length) 0,.slice none (([]:List Int).length) 0] 2 zeroValue47 ?_;intro bw bx bz ai bh;refine Z5 bh ?_;intro b0 aj bi bj;refine go ?_;refine lV _ (Xh isAgg47 sizeOf47 bj) ?_;obtain ⟨aa,bk,hm⟩:=bZ hm;replace ap:=(ap.gr ai).kp aj;replace aq:=(aq.gr ai).kp aj;refine Zh (Zpn bk ap aq) ?_;rintro _ b1 ⟨bm,av,aw,ax,ay,rfl,az,bn,bo⟩;refine ⟨_,rfl,?_⟩;refine Uh (col:=bm) (r:=(Za.pair (Za.pair Za.bool (Za.slice (Za.int .u32))) (Za.slice (Za.int .u32)))) (xs:=[((aa.1.1,aa.1.2),aa.2)]) [(.agg #[.bool aa.1.1,.slice av aa.1.2.length aw,.slice ax aa.2.length ay])] 3 (Yt.ofF (Rows.consF (r:=(Za.pair (Za.pair Za.bool (Za.slice (Za.int .u32))) (Za.slice (Za.int .u32)))) (x:=((aa.1.1,aa.1.2),aa.2)) (cs:=[.bool aa.1.1,.slice av aa.1.2.length aw,.slice ax aa.2.length ay]) (Zd7 (Zd7 (Sp aa.1.1) (Zun bn)) (Zun bo)) Rows.nil0)) ?_;intro b2 b3 b4 a1 bp;obtain ⟨bq,hm⟩:=Z3 hm;replace ah:=(((ah.gr ai).kp aj).gr az).gr a1;refine Vq ah (bp.srcN (NB.pair (NB.pair NB.bool NB.slice) NB.slice)) bq ?_;intro b5 b6 b7 b8 br bs;refine go ?_;replace ab:=((((ab.grow ai).kp aj bi).grow az).grow a1).kpp br;exact ⟨a4.length,by simp,rfl,⟨_,_,_,_,_,_,rfl,a5,hm,ab,bs,(Yo (congrArg (Value.int .i64) (Yn (Nat.lt_of_lt_of_le a6 (h0.ks ab).1.1))) rfl)⟩⟩
def Zce (N:Nat) (ab:List R1) (ac:Int):Nat→Int→Option (List R8)
  | 0,_=>none
  | ad+1,aa=>if (decide (aa<(ab.length:Int)))=true then (Zz ((0:Int)≤aa∧aa≤(ab.length:Int)) (Zz ((0:Int)≤aa∧aa≤(i64.wrap (aa+(if ((ab.drop (Int.toNat aa)).length:Int)<ac then ((ab.drop (Int.toNat aa)).length:Int) else ac)))∧(i64.wrap (aa+(if ((ab.drop (Int.toNat aa)).length:Int)<ac then ((ab.drop (Int.toNat aa)).length:Int) else ac)))≤(i64.wrap (aa+(if ((ab.drop (Int.toNat aa)).length:Int)<ac then ((ab.drop (Int.toNat aa)).length:Int) else ac)))∧(i64.wrap (aa+(if ((ab.drop (Int.toNat aa)).length:Int)<ac then ((ab.drop (Int.toNat aa)).length:Int) else ac)))≤(ab.length:Int)) (((Zce N ab ac ad) (i64.wrap (aa+ac))).bind fun ae=>some ((ab.take (Int.toNat (i64.wrap (aa+(if ((ab.drop (Int.toNat aa)).length:Int)<ac then ((ab.drop (Int.toNat aa)).length:Int) else ac))))).drop (Int.toNat aa) :: ae)))) else (some [])
termination_by structural x=>x
def Zk1 (N:Nat) (aa:List R1) (ab:Int):Option (List R8):=
  Zce N aa ab N 0
theorem Zx0 (N:Nat) (col:Zd) (w0:World) (g0:Nat) (af0:Option Addr) (capf0:Nat) (ab:List R1) (hf0:Sl (Za.pair (Za.pair Za.bool (Za.slice (Za.int .u32))) (Za.slice (Za.int .u32))) col w0 af0 capf0 ab) (hb0:Zk 56 450 col w0 g0 #[.slice af0 ab.length capf0]) (g1:Nat) (ac:Int) (hb1:Zk 3 450 col w0 g1 #[.int .i64 ac]) (r:List R8) (hm:Zk1 N ab ac=some r):
    Zcr prog 1 285 [.pointer (some ⟨g0,0,none⟩),.pointer (some ⟨g1,0,none⟩)] (fun (y:List R1) (col:Zd) (w:World) (args:List Value)=>∃ (a0:Option Addr) (ak:Nat),args=[.slice a0 y.length ak]∧Sl (Za.pair (Za.pair Za.bool (Za.slice (Za.int .u32))) (Za.slice (Za.int .u32))) col w a0 ak y) r col w0:=by
 intro l J X hjs hxs hy ad;refine Zcu (m:=31) (args:=[.func (.yield l) #[] #[],.pointer (some ⟨g0,0,none⟩),.pointer (some ⟨g1,0,none⟩)]) func285 rfl rfl rfl rfl ?_;rw [Zk1.eq_1] at hm;refine go ?_;refine Z8 [0,1,2,1000000] (fun n f ah=>∃ ae r aa af,af=n∧Zce N ab ac af aa=some r∧J r ae ah∧Sl (Za.pair (Za.pair Za.bool (Za.slice (Za.int .u32))) (Za.slice (Za.int .u32))) ae ah af0 capf0 ab∧Zk 56 450 ae ah g0 #[.slice af0 ab.length capf0]∧Zk 3 450 ae ah g1 #[.int .i64 ac]∧[4].map f=[.int .i64 aa]) N ⟨_,_,0,_,rfl,hm,ad,hf0,hb0,hb1,rfl⟩ ?_;clear hm;intro n f ah hI;obtain ⟨ae,r,aa,af,hn,hm,ad,hf0,hb0,hb1,hs⟩:=hI;subst hn;refine .lL [4] hs ?_
 cases af with
 | zero=>rw [Zce.eq_1] at hm;cases hm
 | succ af=>
  rw [Zce.eq_2] at hm;refine go ?_;refine lW hb0.at1<|go ?_;refine Zr hm (fun hb hm=>go ?_) fun hb hm=>go ?_
  ·refine Tq (col:=ae) (by kernel_rfl) (by kernel_rfl)<|qW (fun _ hC=>hb1.at1.gr (hC.bl ae)) ?_;refine qW (fun _ hC=>hb0.at1.gr (hC.bl ae)) ?_;refine go ?_;obtain ⟨al,hm⟩:=Z3 hm;have ap:=hf0.drop (sz:=3) rfl (Int.toNat aa);refine qv (v:=.slice (if capf0=(Int.toNat aa) then af0 else af0.map (·.add ((Int.toNat aa) * 3))) (ab.length - (Int.toNat aa)) (capf0 - (Int.toNat aa))) rfl (fun _ hC=>Z14 underlying56 sizeOf47 rfl rfl al.1 al.2) ?_;generalize (if capf0=(Int.toNat aa) then af0 else af0.map (·.add ((Int.toNat aa) * 3)))=am at *;refine .ld (d:=16) (v:=(.slice am ((ab.drop (Int.toNat aa)).length) (capf0 - (Int.toNat aa)))) (congrArg (fun n=>Value.slice am n (capf0 - (Int.toNat aa))) (List.length_drop (i:=(Int.toNat aa)) (l:=ab)).symm) ?_;refine go ?_;refine qv (v:=(.int .i64 (if ((ab.drop (Int.toNat aa)).length:Int)<ac then ((ab.drop (Int.toNat aa)).length:Int) else ac))) rfl (fun _ hC=>Zoh ac ((ab.drop (Int.toNat aa)).length:Int) rfl rfl) ?_;refine go ?_;refine Vh ?_;intro aq hC;replace hC:=hC.bl ae;replace hf0:=hf0.gr hC;replace hb0:=hb0.gr hC;replace hb1:=hb1.gr hC;replace ad:=hjs _ _ _ _ _ ad hC.toP;refine go ?_;refine lM (.func (.yield l) #[] #[])<|lW hb0.at1<|go ?_;obtain ⟨ag,hm⟩:=Z3 hm;have an:=((hf0.take (Int.toNat (i64.wrap (aa+(if ((ab.drop (Int.toNat aa)).length:Int)<ac then ((ab.drop (Int.toNat aa)).length:Int) else ac))))).recap (show (ab.take (Int.toNat (i64.wrap (aa+(if ((ab.drop (Int.toNat aa)).length:Int)<ac then ((ab.drop (Int.toNat aa)).length:Int) else ac))))).length≤(Int.toNat (i64.wrap (aa+(if ((ab.drop (Int.toNat aa)).length:Int)<ac then ((ab.drop (Int.toNat aa)).length:Int) else ac)))) by rw [List.length_take (i:=(Int.toNat (i64.wrap (aa+(if ((ab.drop (Int.toNat aa)).length:Int)<ac then ((ab.drop (Int.toNat aa)).length:Int) else ac))))) (l:=ab)];have:=ag.2;omega)).drop (sz:=3) rfl (Int.toNat aa);refine lv (v:=.slice (if (Int.toNat (i64.wrap (aa+(if ((ab.drop (Int.toNat aa)).length:Int)<ac then ((ab.drop (Int.toNat aa)).length:Int) else ac))))=(Int.toNat aa) then af0 else af0.map (·.add ((Int.toNat aa) * 3))) ((Int.toNat (i64.wrap (aa+(if ((ab.drop (Int.toNat aa)).length:Int)<ac then ((ab.drop (Int.toNat aa)).length:Int) else ac)))) - (Int.toNat aa)) ((Int.toNat (i64.wrap (aa+(if ((ab.drop (Int.toNat aa)).length:Int)<ac then ((ab.drop (Int.toNat aa)).length:Int) else ac)))) - (Int.toNat aa))) rfl rfl (Z15 underlying56 sizeOf47 rfl rfl rfl rfl ag.1 ag.2.1 ag.2.2.1 (by have:=hf0.1.2;have:=ag.2.2.2;omega)) ?_
   generalize (if (Int.toNat (i64.wrap (aa+(if ((ab.drop (Int.toNat aa)).length:Int)<ac then ((ab.drop (Int.toNat aa)).length:Int) else ac))))=(Int.toNat aa) then af0 else af0.map (·.add ((Int.toNat aa) * 3)))=ai at *;refine .ld (d:=28) (v:=(.slice ai (((ab.take (Int.toNat (i64.wrap (aa+(if ((ab.drop (Int.toNat aa)).length:Int)<ac then ((ab.drop (Int.toNat aa)).length:Int) else ac))))).drop (Int.toNat aa)).length) ((Int.toNat (i64.wrap (aa+(if ((ab.drop (Int.toNat aa)).length:Int)<ac then ((ab.drop (Int.toNat aa)).length:Int) else ac)))) - (Int.toNat aa)))) (congrArg (fun n=>Value.slice ai n ((Int.toNat (i64.wrap (aa+(if ((ab.drop (Int.toNat aa)).length:Int)<ac then ((ab.drop (Int.toNat aa)).length:Int) else ac)))) - (Int.toNat aa))) (show (Int.toNat (i64.wrap (aa+(if ((ab.drop (Int.toNat aa)).length:Int)<ac then ((ab.drop (Int.toNat aa)).length:Int) else ac)))) - (Int.toNat aa)=((ab.take (Int.toNat (i64.wrap (aa+(if ((ab.drop (Int.toNat aa)).length:Int)<ac then ((ab.drop (Int.toNat aa)).length:Int) else ac))))).drop (Int.toNat aa)).length by rw [List.length_drop (i:=(Int.toNat aa)) (l:=ab.take (Int.toNat (i64.wrap (aa+(if ((ab.drop (Int.toNat aa)).length:Int)<ac then ((ab.drop (Int.toNat aa)).length:Int) else ac))))),List.length_take (i:=(Int.toNat (i64.wrap (aa+(if ((ab.drop (Int.toNat aa)).length:Int)<ac then ((ab.drop (Int.toNat aa)).length:Int) else ac))))) (l:=ab)];have:=ag.2;omega)) ?_;obtain ⟨ar,hc_14m,ao⟩:=bZ hm;cases ao;have hm:=hc_14m;refine ly1 rfl rfl rfl (hy _ _ _ _ [(.slice ai (((ab.take (Int.toNat (i64.wrap (aa+(if ((ab.drop (Int.toNat aa)).length:Int)<ac then ((ab.drop (Int.toNat aa)).length:Int) else ac))))).drop (Int.toNat aa)).length) ((Int.toNat (i64.wrap (aa+(if ((ab.drop (Int.toNat aa)).length:Int)<ac then ((ab.drop (Int.toNat aa)).length:Int) else ac)))) - (Int.toNat aa)))] ad ⟨ai,((Int.toNat (i64.wrap (aa+(if ((ab.drop (Int.toNat aa)).length:Int)<ac then ((ab.drop (Int.toNat aa)).length:Int) else ac)))) - (Int.toNat aa)),rfl,an⟩) ?_;rintro _ au ⟨av,aj,⟨rfl,hJ⟩ | ⟨rfl,hX⟩⟩
   ·refine ⟨_,rfl,?_⟩;have ad:=hJ;refine go ?_;refine X3 rfl<|go ?_;replace hb1:=hb1.kpp aj;refine lW hb1.at1<|go ?_;replace hf0:=hf0.kpp aj;replace hb0:=hb0.kpp aj;exact ⟨af,by omega,rfl,⟨_,_,_,_,rfl,hm,ad,hf0,hb0,hb1,rfl⟩⟩
   refine ⟨_,rfl,?_⟩;have ad:=hX;refine go ?_;refine X4 rfl<|W7 ?_;exact ⟨rfl,⟨_,rfl⟩,_,.inr ad⟩
  cases hm;exact ⟨rfl,⟨_,rfl⟩,_,.inl ad⟩
def Zk2 (N:Nat) (aa:R8) (ab:Int):Option (List R8):=
  Zk1 N aa ab
def Zk0 (N:Nat) (ab:R8) (aa:Int):Option (List R8):=
  if (decide (aa<1))=true then none else (Zk2 N ab aa)
theorem Zxz {N aa:Nat} {a0:Option Addr} {col:Zd} {w0:World} {ac:R8} {ad:Int} {r:(List R8)} (hm:Zk0 N ac ad=some r) (h0:Sl (Za.pair (Za.pair Za.bool (Za.slice (Za.int .u32))) (Za.slice (Za.int .u32))) col w0 a0 aa ac):
    Calls prog 254 #[.slice a0 ac.length aa,.int .i64 ad] w0 (fun e w'=>∃ (col':Zd) (rv1:Value),e= .returned (rv1)∧Zi col w0 col' w'∧It prog 1 rv1 (fun (y:List R1) (col:Zd) (w:World) (args:List Value)=>∃ (a0:Option Addr) (aa:Nat),args=[.slice a0 y.length aa]∧Sl (Za.pair (Za.pair Za.bool (Za.slice (Za.int .u32))) (Za.slice (Za.int .u32))) col w a0 aa y) r q0 col' w'):=by
 refine Xk 4 (m:=9) func254 rfl rfl rfl rfl rfl ?_;rw [Zk0.eq_1] at hm;have ab:=St.start col w0;refine go ?_;refine Qm (col:=(Zj col)) (v:=(.slice a0 ac.length aa)) 1 rfl rfl ?_;intro af ap an aq ae;replace ae:Zk 56 1 an ap af #[.slice a0 ac.length aa]:=ae;refine Qm (col:=an) (v:=(.int .i64 ad)) 2 rfl rfl ?_;intro ag ar au ao ah;replace ah:Zk 3 2 au ar ag #[.int .i64 ad]:=ah;refine lv (v:=_) rfl rfl (Uk rfl)<|Zm<|Zw ?_;replace h0:=h0.keep (Zl.start col w0);replace ab:=(ab.grow aq).grow ao;replace ae:=ae.gr ao;refine Wp.cutK [2,3,1000000] (fun f aj=>∃ ai,Zk2 N ac ad=some r∧St w0 (Zj col) ai aj∧Zk 56 1 ai aj af #[.slice a0 ac.length aa]∧Zk 3 2 ai aj ag #[.int .i64 ad]) ?_ ?_
 ·intro f aj hJ;obtain ⟨ai,hm,ab,ae,ah⟩:=hJ;rw [Zk2.eq_1] at hm;refine go ?_;refine lV (.func (.func 285) #[] #[.pointer (some ⟨af,0,none⟩),.pointer (some ⟨ag,0,none⟩)]) (Zoe rfl rfl)<|lA (.func (.func 285) #[] #[.pointer (some ⟨af,0,none⟩),.pointer (some ⟨ag,0,none⟩)])<|go ?_;have ak:=ab.finBox (G:=(fun n=>bif Nat.beq n 1 then 450 else bif Nat.beq n 2 then 450 else 0)) ae (by decide) (by decide) (show (fun n=>bif Nat.beq n 1 then 450 else bif Nat.beq n 2 then 450 else 0) 1=450 from rfl);have h0f:=ab.finSl (g:=(fun n=>bif Nat.beq n 1 then 450 else bif Nat.beq n 2 then 450 else 0)) rfl (h0.ks ab);have al:=ab.finBox (G:=(fun n=>bif Nat.beq n 1 then 450 else bif Nat.beq n 2 then 450 else 0)) ah (by decide) (by decide) (show (fun n=>bif Nat.beq n 1 then 450 else bif Nat.beq n 2 then 450 else 0) 2=450 from rfl);refine ⟨rfl,Ww w0.heap.size col ai (fun n=>bif Nat.beq n 1 then 450 else bif Nat.beq n 2 then 450 else 0),_,rfl,ab.fin (fun n=>bif Nat.beq n 1 then 450 else bif Nat.beq n 2 then 450 else 0),285,[.pointer (some ⟨af,0,none⟩),.pointer (some ⟨ag,0,none⟩)],rfl,call285,?_⟩;intro col9 w9 am hk9;replace ak:=ak.itk am hk9 rfl;replace h0f:=h0f.itk am hk9 rfl;replace al:=al.itk am hk9 rfl;exact Zx0 N col9 w9 af a0 aa ac h0f ak ag ad al r hm
 refine go ?_;refine lW ah.at1<|go ?_;refine Zr hm (fun hb hm=>?_) fun hb hm=>?_
 ·cases hm
 refine X8 ?_;exact ⟨rfl,_,hm,ab,ae,ah⟩
def Zde (N:Nat):Option R1:=
  (Ze4 N 1 1).bind fun aa=>some ((aa.1.1.1,aa.1.1.2),aa.1.2)
theorem Zme {N:Nat} {col:Zd} {w0:World} {r:R1} (c1 c2:Nat) (hm:Zde N=some r):
    Calls prog 182 #[] w0 (fun e w'=>∃ (col':Zd) (ra1:Option Addr) (rc2:Nat) (ra4:Option Addr) (rc5:Nat),e= .returned ((.agg #[.bool r.1.1,.slice ra1 r.1.2.length rc2,.slice ra4 r.2.length rc5]))∧Zi col w0 col' w'∧Zc (Za.int .u32) 79 c1 col' w' ra1 rc2 r.1.2∧Zc (Za.int .u32) 79 c2 col' w' ra4 rc5 r.2):=by
 refine Wi (m:=8) func182 rfl rfl rfl ?_;rw [Zde.eq_1] at hm;have ab:=St.start col w0;refine go ?_;refine Xr (col:=(Zj col)) #[.bool false,.slice none (([]:List Int).length) 0,.slice none (([]:List Int).length) 0] 1 zeroValue47 ?_;intro ay az an ao ae;refine go ?_;obtain ⟨aa,ap,hm⟩:=bZ hm;refine Zh (Zpj (col:=an) 2 3 ap) ?_;rintro _ a0 ⟨aq,ai,aj,ak,al,rfl,am,af,ag⟩;refine ⟨_,rfl,?_⟩;refine lM (.tuple #[(.agg #[.bool aa.1.1.1,.slice ai aa.1.1.2.length aj,.slice ak aa.1.2.length al]),.int .i64 aa.2])<|lV (.agg #[.bool aa.1.1.1,.slice ai aa.1.1.2.length aj,.slice ak aa.1.2.length al]) (Xe rfl rfl)<|lV (.int .i64 aa.2) (Xe rfl rfl)<|Xr (col:=aq) #[.bool false,.slice none (([]:List Int).length) 0,.slice none (([]:List Int).length) 0] 4 zeroValue47 ?_;intro a1 a2 a3 ac ar;refine Z5 ar ?_;intro a4 ad au av;refine go ?_;refine lV _ (Xh isAgg47 sizeOf47 av) ?_;replace ae:=((ae.gr am).gr ac).kp ad;refine Z5 ae ?_;intro a5 ah aw ax;refine go ?_;cases hm;replace ab:=((((ab.grow ao).grow am).grow ac).kp ad au).kp ah aw;replace af:=((af.gr ac).kp ad).kp ah;replace ag:=((ag.gr ac).kp ad).kp ah;exact ⟨rfl,_,ra ax.atN,_,_,_,_,_,rfl,ab.fin (cm [(2,c1),(3,c2)]),ab.fo af,ab.fo ag⟩
def Znk (aa:Bool):Option Bool:=
  some aa
def Zdg (N:Nat):List R8→Bool→Option Bool
  | [],ac=>some true
  | ad :: ae,ac=>(Ti N ad).bind fun aa=>(Zde N).bind fun ab=>(S1 N ((aa.1.1,aa.1.2),aa.2) ((ab.1.1,ab.1.2),ab.2)).bind fun af=>if (!decide (af=0))=true then (Znk false) else ((Zdg N ae) ac)
termination_by structural x=>x
def Zhf (N:Nat) (aa:R8) (ab:Int):Option Bool:=
  (Zk0 N aa ab).bind fun ac=>Zdg N ac false
theorem Zxd {N ah:Nat} {a0:Option Addr} {col:Zd} {w0:World} {am:R8} {ao:Int} {r:Bool} (hm:Zhf N am ao=some r) (h0:Sl (Za.pair (Za.pair Za.bool (Za.slice (Za.int .u32))) (Za.slice (Za.int .u32))) col w0 a0 ah am):
    Calls prog 180 #[.slice a0 am.length ah,.int .i64 ao] w0 (fun e w'=>e= .returned ((.bool r))∧Below w0.heap.size w0 w'):=by
 refine Zmp (m:=15) (args:=[.slice a0 am.length ah,.int .i64 ao]) func180 rfl rfl rfl ?_;rw [Zhf.eq_1] at hm;have aa:=St.start col w0;replace h0:=h0.keep (Zl.start col w0);have hmk:Yf 499 (Zj col) w0 []:=.nil;refine go ?_;refine Zcx (col:=(Zj col)) (v:=(.bool false)) 1 rfl zeroValue4 ?_;intro ai a4 a5 ax ab;replace ab:Zk 4 1 a5 a4 ai #[.bool false]:=ab;refine go ?_;obtain ⟨a6,a7,hm⟩:=bZ hm;replace aa:=aa.grow ax;refine Zh (Zxz a7 (h0.ks aa)) ?_;rintro _ bq ⟨a8,br,rfl,ap,a9⟩;refine ⟨_,rfl,go ?_⟩;replace hmk:=(hmk.gr ax).gr ap;replace ab:=ab.gr ap;replace aa:=aa.grow ap;refine Zgo (psl:=[9]) (arr:=(fun (y:List R1) (col:Zd) (w:World) (args:List Value)=>∃ (a0:Option Addr) (ah:Nat),args=[.slice a0 y.length ah]∧Sl (Za.pair (Za.pair Za.bool (Za.slice (Za.int .u32))) (Za.slice (Za.int .u32))) col w a0 ah y)) (ys:=a6) (col:=a8) 498 rfl a9 rfl hmk rfl rfl (by rintro _ _ _ _ ⟨_,_,rfl,_⟩;rfl) (fun ys_ ad ae=>∃ (ac:Bool),Zdg N ys_ ac=some r∧St w0 (Zj col) ad ae∧Zk 4 1 ad ae ai #[.bool ac]) (fun c_ ad ae=>(c_= .ret∧∃ (ac:Bool),Znk ac=some r∧St w0 (Zj col) ad ae∧Zk 4 1 ad ae ai #[.bool ac])) ?_ ?_ ⟨false,hm,aa,ab⟩ ?_ ?_ ?_
 ·intro ys_ ad ae col2_ w2_ hJ hk;obtain ⟨ac,hm,aa,ab⟩:=hJ;exact ⟨ac,hm,aa.kpp hk rfl rfl,ab.kpp hk rfl⟩
 ·intro c_ ad ae col2_ w2_ hX hk;obtain ⟨rfl,hX⟩:=hX;obtain ⟨ac,hm,aa,ab⟩:=hX;exact ⟨rfl,⟨ac,hm,aa.kpp hk rfl rfl,ab.kpp hk rfl⟩⟩
 ·intro bs bt bu bv bw ad ae args hJ hrec hmk harr;obtain ⟨ac,hm,aa,ab⟩:=hJ;rw [Zdg.eq_2] at hm;have hki:=Zx.refl (pC 1) ad ae;obtain ⟨bx,bz,rfl,aq⟩:=harr;refine go ?_;refine ⟨_,hrec,?_⟩;intro b0 b1 aj ay hrec2;have hrec:=hrec2;refine go ?_;obtain ⟨b2,ba,hm⟩:=bZ hm;replace aq:=aq.kp aj;refine Zh (Zel 2 3 ba aq) ?_;rintro _ b3 ⟨bb,b4,b5,b6,b7,rfl,ak,ar,au⟩;refine ⟨_,rfl,?_⟩;obtain ⟨b8,bc,hm⟩:=bZ hm;refine lc rfl rfl (Zch call182) (Zme (col:=bb) 4 5 bc:) ?_;rintro _ bd ⟨av,b9,ca,cb,cc,rfl,af,be,bf⟩;refine ⟨_,rfl,?_⟩;obtain ⟨cd,bg,hm⟩:=bZ hm;replace ar:=ar.gr af;replace au:=au.gr af;refine Zh (Zek bg ((((ar.toSlF (Zg.int .u32)).froz 3).froz 4).froz 5) ((((au.froz 2 (by decide)).toSlF (Zg.int .u32)).froz 4).froz 5) ((((be.froz 2 (by decide)).froz 3 (by decide)).toSlF (Zg.int .u32)).froz 5) ((((bf.froz 2 (by decide)).froz 3 (by decide)).froz 4 (by decide)).toSlF (Zg.int .u32))) ?_;rintro _ bh ⟨rfl,ag⟩;refine ⟨_,rfl,?_⟩;replace ag:Zi av bd av bh:=.of_below ag;refine go ?_;replace ab:=(((ab.kp aj).gr ak).gr af).gr ag;replace hmk:=(((hmk.kp aj).gr ak).gr af).gr ag;replace hki:=(((hki.kp aj ay rfl).gr ak).gr af).gr ag;replace aa:=(((aa.kp aj ay).grow ak).grow af).grow ag;replace hrec:=((hrec.gr ak).gr af).gr ag;refine Zr hm (fun hb hm=>go ?_) fun hb hm=>?_
  ·refine Sy (v:=(.bool false)) ab sizeOf4 rfl rfl (by intro u hu;simp only [Value.cells,List.mem_cons,List.not_mem_nil,or_false] at hu;subst hu;rfl) rfl rfl ?_;intro bi an az aw;replace aw:Zk 4 1 av bi ai #[.bool false]:=aw;refine go ?_;replace hrec:=hrec.kp an;replace hmk:=hmk.kp an;replace hki:=hki.kp an az rfl;replace aa:=aa.kp an az;exact ⟨_,hki,⟨rfl,⟨false,hm,aa,aw⟩⟩,hrec,hmk⟩
  refine X8 ?_;exact ⟨_,hki,⟨ac,hm,aa,ab⟩,hrec,hmk⟩
 ·intro bj ad ae hJ hmk;obtain ⟨ac,hm,aa,ab⟩:=hJ;rw [Zdg.eq_1] at hm;refine go ?_;refine Sy (v:=(.bool true)) ab sizeOf4 rfl rfl (by intro u hu;simp only [Value.cells,List.mem_cons,List.not_mem_nil,or_false] at hu;subst hu;rfl) rfl rfl ?_;intro bk a1 bm al;replace al:Zk 4 1 ad bk ai #[.bool true]:=al;refine go ?_;cases hm;replace hmk:=hmk.kp a1;refine ⟨_,(bj :: []),rfl,hmk,?_⟩;intro ce a2 bn;replace aa:=(aa.kp a1 bm).kp a2 bn;replace al:=al.kp a2;exact ⟨_,Zut rfl rfl isAgg4 rfl al.at1,rfl,aa.below⟩
 intro c_ bo ad ae hX hmk;obtain ⟨rfl,hX⟩:=hX;obtain ⟨ac,hm,aa,ab⟩:=hX;rw [Znk.eq_1] at hm;refine W7 ?_;cases hm;refine ⟨_,(bo :: []),rfl,hmk,?_⟩;intro cf a3 bp;replace ab:=ab.kp a3;replace aa:=aa.kp a3 bp;exact ⟨_,Zut rfl rfl isAgg4 rfl ab.at1,rfl,aa.below⟩
def Zfl (aa:Bool):Option Bool:=
  some aa
def Zfk (N:Nat) (aa:R1):Option Bool:=
  (S3 N ((aa.1.1,aa.1.2),aa.2)).bind fun ac=>if (decide (ac<0))=true then (Zfl true) else ((Zde N).bind fun ab=>(S1 N ((aa.1.1,aa.1.2),aa.2) ((ab.1.1,ab.1.2),ab.2)).bind fun ad=>Zfl (decide (0<ad)))
theorem Zxa {N al am:Nat} {an ao:Option Addr} {col:Zd} {w0:World} {ac:R1} {r:Bool} (hm:Zfk N ac=some r) (ah:Sl (Za.int .u32) col w0 an al ac.1.2) (ai:Sl (Za.int .u32) col w0 ao am ac.2):
    Calls prog 179 #[(.agg #[.bool ac.1.1,.slice an ac.1.2.length al,.slice ao ac.2.length am])] w0 (fun e w'=>e= .returned ((.bool r))∧Below w0.heap.size w0 w'):=by
 refine Xk 2 (m:=12) func179 rfl rfl rfl rfl rfl ?_;rw [Zfk.eq_1] at hm;have aa:=St.start col w0;refine go ?_;refine Ye (col:=(Zj col)) 1 rfl ?_;intro a6 a7 ab ay aj;refine lAB rfl<|Zm<|Zw ?_;replace ah:=ah.keep (Zl.start col w0);replace ai:=ai.keep (Zl.start col w0);replace aa:=aa.grow ay;refine Wp.cutK [1000000] (fun f av=>∃ aw ap,Zfl ap=some r∧St w0 (Zj col) aw av∧[2].map f=[.bool ap]) ?_ ?_
 ·intro f av hJ;obtain ⟨aw,ap,hm,aa,hs⟩:=hJ;rw [Zfl.eq_1] at hm;refine .lL [2] hs<|W7 ?_;cases hm;exact ⟨rfl,rfl,aa.below⟩
 refine Wk (col:=ab) [(0,0),(1,3),(2,1),(3,1),(4,0),(5,3),(6,3),(7,1),(8,1),(9,1)] (by kernel_rfl) (by kernel_rfl)<|xv rfl rfl (fun _ hC=>Xh isAgg47 sizeOf47 (aj.gr (hC.bl ab))) ?_;refine xe rfl rfl ?_;intro az hC0;have hC:=hC0.bl ab;obtain ⟨ae,a0,hm⟩:=bZ hm;replace aa:=aa.grow hC;refine Zh (Zjj a0 (ah.ks aa) (ai.ks aa)) ?_;rintro _ a1 ⟨rfl,ag⟩;refine ⟨_,rfl,?_⟩;replace ag:Zi ab az ab a1:=.of_below ag;refine Zm<|X0 ab hC0 ag<|xu rfl rfl (fun _=>Zog _ _ rfl rfl) ?_;refine xu rfl rfl (fun _=>Zlo rfl) ?_;replace aj:=(aj.gr hC).gr ag;replace aa:=aa.grow ag;refine X1 hm (fun ad hm=>?_) fun ad hm=>?_
 ·refine U7 (b:=decide (ae<0)) 6 rfl rfl rfl rfl rfl (by rw [ad];rfl)<|U7 (b:=decide (ae<0)) 6 rfl rfl rfl rfl rfl (by rw [ad];rfl)<|U7 (b:=decide (ae<0)) 6 rfl rfl rfl rfl rfl (by rw [ad];rfl)<|U7 (b:=decide (ae<0)) 6 rfl rfl rfl rfl rfl (by rw [ad];rfl)<|xu (v:=(.bool true)) rfl rfl (fun _=>Xs (congrArg Value.bool ad) rfl) ?_;refine xu rfl rfl (fun _=>Zt7 rfl) ?_;refine Y7 ?_;intro a8 hC;replace hC:=hC.bl ab;replace aa:=aa.grow hC;exact ⟨rfl,_,_,hm,aa,rfl⟩
 refine Zi2 (v:=(.agg #[.bool ac.1.1,.slice an ac.1.2.length al,.slice ao ac.2.length am])) (b:=decide (ae<0)) 6 rfl rfl rfl rfl rfl (by rw [ad];rfl) (fun _ hC=>Wj isAgg47 sizeOf47 rfl rfl (aj.atN.gr (hC.bl ab))) ?_;refine xe rfl rfl ?_;intro a9 hC0;have hC:=hC0.bl ab;refine go ?_;obtain ⟨ba,a2,hm⟩:=bZ hm;refine lc rfl rfl (Zch call182) (Zme (col:=ab) 6 7 a2:) ?_;rintro _ bb ⟨af,bc,bd,be,bf,rfl,ax,aq,ar⟩;refine ⟨_,rfl,?_⟩;refine Zm<|X0 af hC0 ax<|xe rfl rfl ?_;intro a3 hC0;replace aa:=(aa.grow hC).grow ax;have hC:=hC0.bl af;refine go ?_;obtain ⟨au,a4,hm⟩:=bZ hm;replace aq:=aq.gr hC;replace ar:=ar.gr hC;replace aa:=aa.grow hC;refine Zh (Zek a4 (((ah.ks aa).froz 6).froz 7) (((ai.ks aa).froz 6).froz 7) ((aq.toSlF (Zg.int .u32)).froz 7) ((ar.froz 6 (by decide)).toSlF (Zg.int .u32))) ?_;rintro _ a5 ⟨rfl,ak⟩;refine ⟨_,rfl,?_⟩;replace ak:Zi af a3 af a5:=.of_below ak;refine Zm<|X0 af hC0 ak<|Zo4 (v:=(.bool (decide (0<au)))) (b:=decide (ae<0)) 6 rfl rfl rfl rfl rfl (by rw [ad];rfl) (fun _=>Zof au 0 rfl rfl) ?_;refine xu (v:=(.bool (decide (0<au)))) rfl rfl (fun _=>Xl (congrArg Value.bool ad) rfl) ?_;refine xu rfl rfl (fun _=>Zt7 rfl) ?_;refine Y7 ?_;intro bg hC;replace hC:=hC.bl af;replace aa:=(aa.grow ak).grow hC;exact ⟨rfl,_,_,hm,aa,rfl⟩
def Zd0 (N:Nat):List R1→Nat→Option Int
  | [],aa=>some (-1)
  | ab :: ac,aa=>(Zfk N ((ab.1.1,ab.1.2),ab.2)).bind fun ad=>if ad=true then (some (aa:Int)) else ((Zd0 N ac) (aa+1))
termination_by structural x=>x
def Zk5 (N:Nat) (aa:R8):Option Int:=
  Zd0 N aa 0
theorem Zx5 {N aj:Nat} {a0:Option Addr} {col:Zd} {w0:World} {ab:R8} {r:Int} (hm:Zk5 N ab=some r) (h0:Sl (Za.pair (Za.pair Za.bool (Za.slice (Za.int .u32))) (Za.slice (Za.int .u32))) col w0 a0 aj ab):
    Calls prog 253 #[.slice a0 ab.length aj,(.func (.func 179) #[] #[])] w0 (fun e w'=>e= .returned ((.int .i64 r))∧Below w0.heap.size w0 w'):=by
 refine Xk 4 (m:=19) func253 rfl rfl rfl rfl rfl ?_;rw [Zk5.eq_1] at hm;have aa:=St.start col w0;refine go ?_;refine Z8 [0,1,7,1000000] (fun n f af=>∃ ae ac ad,n=ad.length∧ab.drop ac=ad∧Zd0 N ad ac=some r∧St w0 (Zj col) ae af∧[8].map f=[.int .i64 ac]) ab.length ⟨_,0,_,rfl,rfl,hm,aa,rfl⟩ ?_;clear hm;intro n f af hI;obtain ⟨ae,ac,ad,hn,hl,hm,aa,hs⟩:=hI;subst hn;refine .lL [8] hs ?_;replace h0:=h0.keep (Zl.start col w0)
 cases ad with
 | nil=>
  have hk:¬ ((ac:Int)<(ab.length:Int)):=by have:=List.drop_eq_nil_iff.1 hl;omega
  have hkb:=decide_eq_false hk;rw [Zd0.eq_1] at hm;refine go ?_;refine X3 (congrArg Value.bool hkb)<|go ?_;cases hm;exact ⟨rfl,rfl,aa.below⟩
 | cons ag ak=>
  obtain ⟨ah,al,am⟩:=Yk hl;have hk:(ac:Int)<(ab.length:Int):=by omega
  have hkb:=decide_eq_true hk;rw [Zd0.eq_2] at hm;refine go ?_;refine X4 (congrArg Value.bool hkb)<|go ?_;refine lM (.func (.func 179) #[] #[])<|go ?_;refine lI ah ((h0.ks aa).addr ah) ?_;obtain ⟨_,an,ao⟩:=(h0.ks aa).atN ah;obtain ⟨_,_,rfl,ap,aq⟩:=Uf an;obtain ⟨_,_,rfl,ar,au⟩:=Uf ap;obtain ⟨rfl,_⟩:=ar;obtain ⟨⟨av,aw,rfl,ax⟩,_⟩:=au;obtain ⟨⟨ay,az,rfl,a1⟩,_⟩:=aq;refine lV (.agg #[.bool ag.1.1,.slice av ag.1.2.length aw,.slice ay ag.2.length az]) (Wj isAgg47 sizeOf47 rfl rfl ao) ?_;obtain ⟨a4,a2,hm⟩:=bZ hm;refine lc rfl rfl (Z1u call179 rfl rfl) (Zxa a2 ax a1:) ?_;rintro _ a3 ⟨rfl,ai⟩;refine ⟨_,rfl,?_⟩;replace ai:Zi ae af ae a3:=.of_below ai;refine Zm ?_;replace aa:=aa.grow ai;refine Zr hm (fun hb hm=>go ?_) fun hb hm=>go ?_
  ·cases hm;exact ⟨rfl,rfl,aa.below⟩
  exact ⟨ak.length,by simp,rfl,⟨_,_,_,rfl,al,hm,aa,(Yo (congrArg (Value.int .i64) (Yn (Nat.lt_of_lt_of_le am (h0.ks aa).1.1))) rfl)⟩⟩
def Zk4 (N:Nat) (aa:R8):Option Bool:=
  (Zk5 N aa).bind fun ab=>some (decide (0≤ab))
theorem Zx3 {N ad:Nat} {a0:Option Addr} {col:Zd} {w0:World} {ab:R8} {r:Bool} (hm:Zk4 N ab=some r) (h0:Sl (Za.pair (Za.pair Za.bool (Za.slice (Za.int .u32))) (Za.slice (Za.int .u32))) col w0 a0 ad ab):
    Calls prog 177 #[.slice a0 ab.length ad,(.func (.func 179) #[] #[])] w0 (fun e w'=>e= .returned ((.bool r))∧Below w0.heap.size w0 w'):=by
 refine Xk 4 (m:=9) func177 rfl rfl rfl rfl rfl ?_;rw [Zk4.eq_1] at hm;have aa:=St.start col w0;refine go ?_;refine lM (.func (.func 179) #[] #[]) ?_;obtain ⟨ag,ae,hm⟩:=bZ hm;replace h0:=h0.keep (Zl.start col w0);refine Zh (Zx5 ae (h0.ks aa)) ?_;rintro _ af ⟨rfl,ac⟩;refine ⟨_,rfl,?_⟩;replace ac:Zi (Zj col) w0 (Zj col) af:=.of_below ac;refine go ?_;cases hm;replace aa:=aa.grow ac;exact ⟨rfl,rfl,aa.below⟩
def Zdf (ab:R0):List Int→Int→Option Int
  | [],aa=>some aa
  | ad :: ae,aa=>(Zq ab.2.2.1 ad).bind fun ac=>(Zdf ab ae) (if 1099511627776<(i64.wrap (aa * (ac.length:Int))) then 1099511627776 else (i64.wrap (aa * (ac.length:Int))))
termination_by structural x=>x
def Zfm (aa:R0) (ab:Int):Option Int:=
  (Zq aa.2.2.2.1 ab).bind fun ac=>Zdf aa ac 1
theorem Zxb {am an ao ap:Nat} {aq ar au av:Option Addr} {col:Zd} {w0:World} {aa:R0} {a0 r:Int} (hm:Zfm aa a0=some r) (bc:Sl Za.str col w0 aq am aa.2.1) (ai:Sl (Za.slice Za.str) col w0 ar an aa.2.2.1) (aj:Sl (Za.slice (Za.int .i64)) col w0 au ao aa.2.2.2.1) (bd:Sl (Za.slice (Za.pair (Za.pair Za.bool (Za.slice (Za.int .u32))) (Za.slice (Za.int .u32)))) col w0 av ap aa.2.2.2.2):
    Calls prog 176 #[(.agg #[.string aa.1,.slice aq aa.2.1.length am,.slice ar aa.2.2.1.length an,.slice au aa.2.2.2.1.length ao,.slice av aa.2.2.2.2.length ap]),.int .i64 a0] w0 (fun e w'=>e= .returned ((.int .i64 r))∧Below w0.heap.size w0 w'):=by
 refine Xk 4 (m:=29) func176 rfl rfl rfl rfl rfl ?_;rw [Zfm.eq_1] at hm;have ab:=St.start col w0;refine go ?_;refine Ye (col:=(Zj col)) 1 rfl ?_;intro a1 be bf a2 ae;refine go ?_;refine Xu ae<|Yd rfl ?_;obtain ⟨af,aw,hm⟩:=bZ hm;replace aj:=aj.keep (Zl.start col w0);replace ab:=ab.grow a2;refine lI aw ((aj.ks ab).addr aw) ?_;obtain ⟨_,a3,a4⟩:=(aj.ks ab).atN aw;obtain ⟨⟨a5,a6,rfl,ac⟩,_⟩:=a3;refine lW a4.one<|go ?_;refine Z8 [12,13,2,1000000] (fun n f ak=>∃ al ag ad ah,n=ah.length∧af.drop ag=ah∧Zdf aa ah ad=some r∧St w0 (Zj col) al ak∧Sl (Za.int .i64) al ak a5 a6 af∧Zk 27 1 al ak a1 #[.string aa.1,.slice aq aa.2.1.length am,.slice ar aa.2.2.1.length an,.slice au aa.2.2.2.1.length ao,.slice av aa.2.2.2.2.length ap]∧[14,5].map f=[.int .i64 ag,.int .i64 ad]) af.length ⟨_,0,1,_,rfl,rfl,hm,ab,ac,ae,rfl⟩ ?_;clear hm;intro n f ak hI;obtain ⟨al,ag,ad,ah,hn,hl,hm,ab,ac,ae,hs⟩:=hI;subst hn;refine .lL [14,5] hs ?_;replace ai:=ai.keep (Zl.start col w0)
 cases ah with
 | nil=>
  have hk:¬ ((ag:Int)<(af.length:Int)):=by have:=List.drop_eq_nil_iff.1 hl;omega
  have hkb:=decide_eq_false hk;rw [Zdf.eq_1] at hm;refine go ?_;refine X3 (congrArg Value.bool hkb)<|go ?_;cases hm;exact ⟨rfl,rfl,ab.below⟩
 | cons bg a7=>
  obtain ⟨ax,a8,a9⟩:=Yk hl;have hk:(ag:Int)<(af.length:Int):=by omega
  have hkb:=decide_eq_true hk;rw [Zdf.eq_2] at hm;refine go ?_;refine X4 (congrArg Value.bool hkb)<|go ?_;refine lI ax (ac.addr ax)<|lW (ac.atInt ax) ?_;refine go ?_;refine Xu ae<|Yd rfl ?_;obtain ⟨ay,az,hm⟩:=bZ hm;refine lI az ((ai.ks ab).addr az) ?_;obtain ⟨_,ba,bb⟩:=(ai.ks ab).atN az;obtain ⟨⟨bh,bi,rfl,bj⟩,_⟩:=ba;refine lW bb.one<|go ?_;refine lV (.int .i64 (if 1099511627776<(i64.wrap (ad * (ay.length:Int))) then 1099511627776 else (i64.wrap (ad * (ay.length:Int))))) (Zoh (i64.wrap (ad * (ay.length:Int))) 1099511627776 rfl rfl)<|go ?_;exact ⟨a7.length,by simp,rfl,⟨_,_,_,_,rfl,a8,hm,ab,ac,ae,(Yo (congrArg (Value.int .i64) (Yn (Nat.lt_of_lt_of_le a9 ac.1.1))) rfl)⟩⟩
def Zbw (N:Nat) (ab:R0):List R8→Nat→Option Int
  | [],aa=>some 0
  | ac :: ad,aa=>(Zq ab.2.2.1 (aa:Int)).bind fun ae=>(Zfi N ac).bind fun af=>(Zhf N af (ae.length:Int)).bind fun ag=>if (!ag)=true then (some 46) else ((Zbw N ab ad) (aa+1))
termination_by structural x=>x
def Zav (N:Nat) (aa:R0):List R8→Option Int
  | []=>Zbw N aa aa.2.2.2.2 0
  | ab :: ac=>(Zfi N ab).bind fun ad=>(Zk4 N ad).bind fun ae=>if ae=true then (some 45) else (Zav N aa ac)
termination_by structural x=>x
def Zau (N:Nat) (aa:R0):List R8→Nat→Option Int
  | [],ab=>Zav N aa aa.2.2.2.2
  | ae :: af,ab=>(Zfm (aa.1,aa.2.1,aa.2.2.1,aa.2.2.2.1,aa.2.2.2.2) (ab:Int)).bind fun ac=>(Zq aa.2.2.1 (ab:Int)).bind fun ad=>if (decide (65536<(i64.wrap (ac * (ad.length:Int)))))=true then (some 4) else (if (!decide ((i64.wrap (ac * (ad.length:Int)))=(ae.length:Int)))=true then (some 60) else ((Zau N aa af) (ab+1)))
termination_by structural x=>x
def Qz (N:Nat) (aa:R0) (ad:Bool):Option Int:=
  if ad=true then (some 60) else (if (decide (1024<(aa.2.1.length:Int)))=true then (some 4) else ((Zdd (aa.1,aa.2.1,aa.2.2.1,aa.2.2.2.1,aa.2.2.2.2)).bind fun ab=>if (!decide (ab=0))=true then (some ab) else ((S0 N aa.2.2.2.1).bind fun ac=>if (!decide (ac=0))=true then (some ac) else (Zau N aa aa.2.2.2.2 0))))
def U2 (N:Nat) (aa:R0):Option Int:=
  if (!decide ((aa.2.2.1.length:Int)=(aa.2.1.length:Int)))=true then (Qz N aa true) else (if (!decide ((aa.2.2.2.1.length:Int)=(aa.2.1.length:Int)))=true then (Qz N aa true) else (Qz N aa (!decide ((aa.2.2.2.2.length:Int)=(aa.2.1.length:Int)))))
theorem Zmd {N aj ak al am:Nat} {an ao ap aq:Option Addr} {col:Zd} {w0:World} {ab:R0} {r:Int} (hm:U2 N ab=some r) (a2:Sl Za.str col w0 an aj ab.2.1) (ag:Sl (Za.slice Za.str) col w0 ao ak ab.2.2.1) (aw:Sl (Za.slice (Za.int .i64)) col w0 ap al ab.2.2.2.1) (ad:Sl (Za.slice (Za.pair (Za.pair Za.bool (Za.slice (Za.int .u32))) (Za.slice (Za.int .u32)))) col w0 aq am ab.2.2.2.2):
    Calls prog 67 #[(.agg #[.string ab.1,.slice an ab.2.1.length aj,.slice ao ab.2.2.1.length ak,.slice ap ab.2.2.2.1.length al,.slice aq ab.2.2.2.2.length am])] w0 (fun e w'=>e= .returned ((.int .i64 r))∧Below w0.heap.size w0 w'):=by
 refine Xk 2 (m:=103) func67 rfl rfl rfl rfl rfl ?_;rw [U2.eq_1] at hm;have aa:=St.start col w0;refine go ?_;refine Ye (col:=(Zj col)) 1 rfl ?_;intro a3 cp cq bo ac;refine go ?_;refine Xu ac<|lV _ (Zcj underlying22 rfl)<|Yr rfl<|Zm<|Zw<|Zw ?_;replace a2:=a2.keep (Zl.start col w0);replace ag:=ag.keep (Zl.start col w0);replace aw:=aw.keep (Zl.start col w0);replace ad:=ad.keep (Zl.start col w0);replace aa:=aa.grow bo;refine Wp.cutK [1,3,1000000] (fun f a4=>∃ ah a9,Qz N ab a9=some r∧St w0 (Zj col) ah a4∧Zk 27 1 ah a4 a3 #[.string ab.1,.slice an ab.2.1.length aj,.slice ao ab.2.2.1.length ak,.slice ap ab.2.2.2.1.length al,.slice aq ab.2.2.2.2.length am]∧[34].map f=[.bool a9]) ?_ ?_
 ·intro f a4 hJ;obtain ⟨ah,a9,hm,aa,ac,hs⟩:=hJ;rw [Qz.eq_1] at hm;refine .lL [34] hs ?_;refine Zr hm (fun hb hm=>go ?_) fun hb hm=>go ?_
  ·cases hm;exact ⟨rfl,rfl,aa.below⟩
  refine Zr hm (fun hb hm=>go ?_) fun hb hm=>go ?_
  ·cases hm;exact ⟨rfl,rfl,aa.below⟩
  refine lV _ (Xh isAgg27 sizeOf27 ac) ?_;obtain ⟨cr,bp,hm⟩:=bZ hm;refine Zh (Zw9 bp (a2.ks aa) (ag.ks aa) (aw.ks aa) (ad.ks aa)) ?_;rintro _ bk ⟨rfl,a5⟩;refine ⟨_,rfl,?_⟩;replace a5:Zi ah a4 ah bk:=.of_below a5;refine go ?_;replace ac:=ac.gr a5;replace aa:=aa.grow a5;refine Zr hm (fun hb hm=>go ?_) fun hb hm=>go ?_
  ·cases hm;exact ⟨rfl,rfl,aa.below⟩
  refine Xu ac ?_;obtain ⟨cs,bq,hm⟩:=bZ hm;refine Zh (Zwr bq (aw.ks aa)) ?_;rintro _ br ⟨rfl,a6⟩;refine ⟨_,rfl,?_⟩;replace a6:Zi ah bk ah br:=.of_below a6;refine go ?_;replace ac:=ac.gr a6;replace aa:=aa.grow a6;refine Zr hm (fun hb hm=>go ?_) fun hb hm=>go ?_
  ·cases hm;exact ⟨rfl,rfl,aa.below⟩
  refine Xu ac ?_;refine go ?_;refine Z8 [1,49,50,1000000] (fun n f ba=>∃ ae ar ax,n=ax.length∧ab.2.2.2.2.drop ar=ax∧Zau N ab ax ar=some r∧St w0 (Zj col) ae ba∧Zk 27 1 ae ba a3 #[.string ab.1,.slice an ab.2.1.length aj,.slice ao ab.2.2.1.length ak,.slice ap ab.2.2.2.1.length al,.slice aq ab.2.2.2.2.length am]∧[51].map f=[.int .i64 ar]) ab.2.2.2.2.length ⟨_,0,_,rfl,rfl,hm,aa,ac,rfl⟩ ?_;clear hm;intro n f ba hI;obtain ⟨ae,ar,ax,hn,hl,hm,aa,ac,hs⟩:=hI;subst hn;refine .lL [51] hs ?_
  cases ax with
  | nil=>
   have hk:¬ ((ar:Int)<(ab.2.2.2.2.length:Int)):=by have:=List.drop_eq_nil_iff.1 hl;omega
   have hkb:=decide_eq_false hk;rw [Zau.eq_1] at hm;refine go ?_;refine X3 (congrArg Value.bool hkb)<|go ?_;refine Xu ac ?_;refine go ?_;refine Z8 [1,74,75,1000000] (fun n f bb=>∃ bc ay az,n=az.length∧ab.2.2.2.2.drop ay=az∧Zav N ab az=some r∧St w0 (Zj col) bc bb∧Zk 27 1 bc bb a3 #[.string ab.1,.slice an ab.2.1.length aj,.slice ao ab.2.2.1.length ak,.slice ap ab.2.2.2.1.length al,.slice aq ab.2.2.2.2.length am]∧[76].map f=[.int .i64 ay]) ab.2.2.2.2.length ⟨_,0,_,rfl,rfl,hm,aa,ac,rfl⟩ ?_;clear hm;intro n f bb hI;obtain ⟨bc,ay,az,hn,hl,hm,aa,ac,hs⟩:=hI;subst hn;refine .lL [76] hs ?_
   cases az with
   | nil=>
    have hk:¬ ((ay:Int)<(ab.2.2.2.2.length:Int)):=by have:=List.drop_eq_nil_iff.1 hl;omega
    have hkb:=decide_eq_false hk;rw [Zav.eq_1] at hm;refine go ?_;refine X3 (congrArg Value.bool hkb)<|go ?_;refine Xu ac ?_;refine go ?_;refine Z8 [1,85,86,1000000] (fun n f bd=>∃ ai au a0,n=a0.length∧ab.2.2.2.2.drop au=a0∧Zbw N ab a0 au=some r∧St w0 (Zj col) ai bd∧Zk 27 1 ai bd a3 #[.string ab.1,.slice an ab.2.1.length aj,.slice ao ab.2.2.1.length ak,.slice ap ab.2.2.2.1.length al,.slice aq ab.2.2.2.2.length am]∧[87].map f=[.int .i64 au]) ab.2.2.2.2.length ⟨_,0,_,rfl,rfl,hm,aa,ac,rfl⟩ ?_;clear hm;intro n f bd hI;obtain ⟨ai,au,a0,hn,hl,hm,aa,ac,hs⟩:=hI;subst hn;refine .lL [87] hs ?_
    cases a0 with
    | nil=>
     have hk:¬ ((au:Int)<(ab.2.2.2.2.length:Int)):=by have:=List.drop_eq_nil_iff.1 hl;omega
     have hkb:=decide_eq_false hk;rw [Zbw.eq_1] at hm;refine go ?_;refine X3 (congrArg Value.bool hkb)<|go ?_;cases hm;exact ⟨rfl,rfl,aa.below⟩
    | cons ct bs=>
     obtain ⟨af,bt,bu⟩:=Yk hl;have hk:(au:Int)<(ab.2.2.2.2.length:Int):=by omega
     have hkb:=decide_eq_true hk;rw [Zbw.eq_2] at hm;refine go ?_;refine X4 (congrArg Value.bool hkb)<|go ?_;refine lI af ((ad.ks aa).addr af) ?_;obtain ⟨_,bv,bw⟩:=(ad.ks aa).atN af;obtain ⟨⟨cu,cv,rfl,be⟩,_⟩:=bv;refine lW bw.one<|go ?_;refine Wk (col:=ai) [(0,1),(2,1),(3,0),(4,1),(5,1),(6,0),(7,1),(1,3),(8,3),(9,1)] (by kernel_rfl) (by kernel_rfl)<|xu rfl rfl (fun _=>Vt rfl) ?_;refine xF ⟨_,_,rfl⟩ ?_;refine xW (fun _ hC=>((ac.atN).nth (q:=2) rfl).gr (hC.bl ai)) ?_;refine xu rfl rfl (fun _=>Yw rfl) ?_;obtain ⟨cw,a7,hm⟩:=bZ hm;refine xu rfl rfl (fun _=>Y9 underlying23 sizeOf22 rfl rfl (Xj a7).1 (Xj a7).2.1 ((ag.ks aa).addr a7)) ?_;obtain ⟨_,bx,bz⟩:=(ag.ks aa).atN a7;obtain ⟨⟨cx,cy,rfl,cz⟩,_⟩:=bx;refine xW (fun _ hC=>bz.one.gr (hC.bl ai)) ?_;refine xu rfl rfl (fun _=>Zcj underlying22 rfl) ?_;refine xe rfl rfl ?_;intro c0 hC0;have hC:=hC0.bl ai;obtain ⟨c1,b0,hm⟩:=bZ hm;replace be:=be.gr hC;refine Zh (Zpo 2 b0 be) ?_;rintro _ c2 ⟨av,c3,c4,rfl,bf,bg⟩;refine ⟨_,rfl,?_⟩;refine Zm<|X0 av hC0 bf<|xe rfl rfl ?_;intro b1 hC0;replace ac:=(ac.gr hC).gr bf;replace aa:=(aa.grow hC).grow bf;have hC:=hC0.bl av;obtain ⟨c5,b2,hm⟩:=bZ hm;replace bg:=bg.gr hC;refine Zh (Zxd b2 (bg.toSlF (Zg.pair (Zg.pair Zg.bool Zg.slice) Zg.slice))) ?_;rintro _ b3 ⟨rfl,a1⟩;refine ⟨_,rfl,?_⟩;replace a1:Zi av b1 av b3:=.of_below a1;refine Zm<|X0 av hC0 a1<|xu rfl rfl (fun _=>Ziu _ rfl) ?_;refine Y7 ?_;replace ac:=(ac.gr hC).gr a1;replace aa:=(aa.grow hC).grow a1;intro c6 hC;replace hC:=hC.bl av;replace ac:=ac.gr hC;replace aa:=aa.grow hC;refine Zr hm (fun hb hm=>go ?_) fun hb hm=>go ?_
     ·cases hm;exact ⟨rfl,rfl,aa.below⟩
     exact ⟨bs.length,by simp,rfl,⟨_,_,_,rfl,bt,hm,aa,ac,(Yo (congrArg (Value.int .i64) (Yn (Nat.lt_of_lt_of_le bu (ad.ks aa).1.1))) rfl)⟩⟩
   | cons c7 b4=>
    obtain ⟨af,b5,b6⟩:=Yk hl;have hk:(ay:Int)<(ab.2.2.2.2.length:Int):=by omega
    have hkb:=decide_eq_true hk;rw [Zav.eq_2] at hm;refine go ?_;refine X4 (congrArg Value.bool hkb)<|go ?_;refine lI af ((ad.ks aa).addr af) ?_;obtain ⟨_,b7,b8⟩:=(ad.ks aa).atN af;obtain ⟨⟨c8,c9,rfl,b9⟩,_⟩:=b7;refine lW b8.one<|go ?_;obtain ⟨da,ca,hm⟩:=bZ hm;refine Zh (Zpo 3 ca b9) ?_;rintro _ cb ⟨bm,db,dc,rfl,bn,cc⟩;refine ⟨_,rfl,?_⟩;obtain ⟨dd,cd,hm⟩:=bZ hm;refine Zh (Zx3 cd (cc.toSlF (Zg.pair (Zg.pair Zg.bool Zg.slice) Zg.slice))) ?_;rintro _ ce ⟨rfl,a8⟩;refine ⟨_,rfl,?_⟩;replace a8:Zi bm cb bm ce:=.of_below a8;refine Zm ?_;replace ac:=(ac.gr bn).gr a8;replace aa:=(aa.grow bn).grow a8;refine Zr hm (fun hb hm=>go ?_) fun hb hm=>go ?_
    ·cases hm;exact ⟨rfl,rfl,aa.below⟩
    exact ⟨b4.length,by simp,rfl,⟨_,_,_,rfl,b5,hm,aa,ac,(Yo (congrArg (Value.int .i64) (Yn (Nat.lt_of_lt_of_le b6 (ad.ks aa).1.1))) rfl)⟩⟩
  | cons de cf=>
   obtain ⟨af,cg,ch⟩:=Yk hl;have hk:(ar:Int)<(ab.2.2.2.2.length:Int):=by omega
   have hkb:=decide_eq_true hk;rw [Zau.eq_2] at hm;refine go ?_;refine X4 (congrArg Value.bool hkb)<|go ?_;refine lI af ((ad.ks aa).addr af) ?_;obtain ⟨_,ci,cj⟩:=(ad.ks aa).atN af;obtain ⟨⟨df,dg,rfl,dh⟩,_⟩:=ci;refine lW cj.one<|go ?_;refine Tq (col:=ae) (by kernel_rfl) (by kernel_rfl)<|qv rfl (fun _ hC=>Xh isAgg27 sizeOf27 (ac.gr (hC.bl ae))) ?_;refine go ?_;obtain ⟨ck,cl,hm⟩:=bZ hm;refine qc (v:=(.int .i64 ck)) rfl (fun _ hC=>⟨_,_,Zt9 call176 rfl rfl,(Zxb cl ((a2.ks aa).gr (hC.bl ae)) ((ag.ks aa).gr (hC.bl ae)) ((aw.ks aa).gr (hC.bl ae)) ((ad.ks aa).gr (hC.bl ae)):).mono fun _ _ h=>⟨h.1,hC.trans (.of_below h.2)⟩⟩) ?_;refine qF ⟨_,_,rfl⟩ ?_;refine qW (fun _ hC=>((ac.atN).nth (q:=2) rfl).gr (hC.bl ae)) ?_;refine go ?_;obtain ⟨di,bh,hm⟩:=bZ hm;refine qI bh ((ag.ks aa).addr bh) ?_;obtain ⟨_,cn,co⟩:=(ag.ks aa).atN bh;obtain ⟨⟨dj,dk,rfl,dl⟩,_⟩:=cn;refine qW (fun _ hC=>co.one.gr (hC.bl ae)) ?_;refine go ?_;refine Vh ?_;intro dm hC;replace hC:=hC.bl ae;refine go ?_;replace ac:=ac.gr hC;replace aa:=aa.grow hC;refine Zr hm (fun hb hm=>go ?_) fun hb hm=>go ?_
   ·cases hm;exact ⟨rfl,rfl,aa.below⟩
   refine Zr hm (fun hb hm=>go ?_) fun hb hm=>go ?_
   ·cases hm;exact ⟨rfl,rfl,aa.below⟩
   exact ⟨cf.length,by simp,rfl,⟨_,_,_,rfl,cg,hm,aa,ac,(Yo (congrArg (Value.int .i64) (Yn (Nat.lt_of_lt_of_le ch (ad.ks aa).1.1))) rfl)⟩⟩
 refine Wr<|Xu ac ?_;refine go ?_;refine X1 hm (fun bi hm=>go ?_) fun bi hm=>go ?_
 ·refine lV (.bool true) (Xs (congrArg Value.bool bi) rfl)<|Y6 rfl<|lP 28 rfl rfl<|lP 28 rfl rfl<|lP 28 rfl rfl<|lP 28 rfl rfl<|lP 28 rfl rfl<|lV (.bool true) (Xs rfl rfl)<|Zm ?_;exact ⟨rfl,_,_,hm,aa,ac,rfl⟩
 refine Y5 ⟨_,_,rfl⟩ ?_;refine go ?_;refine lW ((ac.atN).nth (q:=3) rfl)<|go ?_;refine lV (.bool (!decide ((ab.2.2.2.1.length:Int)=(ab.2.1.length:Int)))) (Xl (congrArg Value.bool bi) rfl)<|Y6 rfl ?_;refine X1 hm (fun bj hm=>go ?_) fun bj hm=>go ?_
 ·refine lV (.bool true) (Xs (congrArg Value.bool bj) rfl)<|Zm ?_;exact ⟨rfl,_,_,hm,aa,ac,rfl⟩
 refine Y5 ⟨_,_,rfl⟩ ?_;refine go ?_;refine lW ((ac.atN).nth (q:=4) rfl)<|go ?_;refine lV (.bool (!decide ((ab.2.2.2.2.length:Int)=(ab.2.1.length:Int)))) (Xl (congrArg Value.bool bj) rfl)<|Zm ?_;exact ⟨rfl,_,_,hm,aa,ac,rfl⟩
abbrev Zy:=ByteArray×List ByteArray×List R5×List R2×List (List QV)
instance decMemB:∀ (s:ByteArray) (l:List ByteArray),Decidable (s ∈ l)
 | _,[]=>isFalse (by simp)
 | s,x :: l=>if h:s=x then isTrue (by rw [h];exact List.mem_cons_self) else match decMemB s l with
  | isTrue h2=>isTrue (List.mem_cons_of_mem _ h2)
  | isFalse h2=>isFalse (by rw [List.mem_cons];rintro (h3 | h3) <;> contradiction)
theorem Zri (s:ByteArray):∀ (l:List ByteArray) (k:Nat),∃ j:Int,Zd1 s l k=some j∧(0≤j↔s ∈ l)
 | [],k=>⟨-1,rfl,by simp⟩
 | x :: l,k=>by
  rw [Zd1.eq_2]
  by_cases h:s=x
  ·rw [if_pos (dT h)];exact ⟨_,rfl,by simp [h]⟩
  ·rw [if_neg (dF h)]
   obtain ⟨j,h1,h2⟩:=Zri s l (k+1)
   exact ⟨j,h1,by rw [h2,List.mem_cons];simp [h]⟩
theorem Zyo (s:ByteArray) (l:List ByteArray):Zic l s=some (decide (s ∈ l)):=by
 obtain ⟨j,h1,h2⟩:=Zri s l 0
 rw [Zic,Zk6,h1,oB]
 congr 1
 exact decide_eq_decide.2 h2
theorem Zsp:∀ (l:List ByteArray) (seen:List (ByteArray×Int)) (S:List ByteArray),S.Nodup→(∀ k,Wf seen k=if k ∈ S then some 1 else none)→Zb0 l seen=some (!decide (S++l).Nodup)
 | [],seen,S,h1,h2=>by rw [Zb0.eq_1,List.append_nil,decide_eq_true h1];rfl
 | x :: l,seen,S,h1,h2=>by
  rw [Zb0.eq_2,h2 x]
  by_cases hx:x ∈ S
  ·rw [if_pos hx,if_pos (by decide),decide_eq_false]
   ·rfl
   intro h
   exact (List.nodup_append.1 h).2.2 x hx x List.mem_cons_self rfl
  ·rw [if_neg hx,if_neg (by decide),oB,Zsp l _ (S++[x]) (by
    rw [List.nodup_append]
    refine ⟨h1,by simp,fun a ha b hb e=>?_⟩
    rw [List.mem_singleton] at hb;subst hb;subst e;exact hx ha) (fun k=>by
    rw [Zsj,h2 k]
    by_cases hk:k=x
    ·subst hk;rw [if_pos rfl,if_pos (by simp)]
    ·rw [if_neg hk]
     by_cases hs:k ∈ S
     ·rw [if_pos hs,if_pos (by simp [hs])]
     ·rw [if_neg hs,if_neg (by simp [hs,hk])])]
   rw [List.append_assoc];rfl
theorem Z0w (l:List ByteArray):Zhe l=some (!decide l.Nodup):=by
 rw [Zhe,Zsp l [] [] .nil (fun k=>by simp [Wf]),List.nil_append]
def Q7 (names:List ByteArray) (vals:List R5):Nat→Nat→Int
 | 0,_=>0
 | m+1,v=>if names.getD v ⟨#[]⟩ ∈ names.take v∨¬ (vals.getD v []).Nodup then 40 else if vals.getD v []=[] then 43 else Q7 names vals m (v+1)
theorem Zsu (n:Zy) (hl:n.2.2.1.length=n.2.1.length):∀ (l:List ByteArray) (k:Nat),n.2.1.drop k=l→k≤n.2.1.length→Zaw n l k=some (Q7 n.2.1 n.2.2.1 l.length k)
 | [],k,_,_=>rfl
 | x :: l,k,hd,hk=>by
  have hk1:k<n.2.1.length:=by
   rcases Nat.lt_or_ge k n.2.1.length with h | h
   ·exact h
   ·rw [List.drop_eq_nil_of_le h] at hd;cases hd
  have hd2:=List.drop_eq_getElem_cons hk1
  rw [hd] at hd2
  obtain ⟨hx,hl2⟩:=List.cons.inj hd2
  rw [Zaw.eq_2,Z7 (by omega),Int.toNat_natCast,Zyo,oB,nC,Q7,Yu hk1,← hx,Yu (by omega)]
  by_cases h1:x ∈ n.2.1.take k
  ·rw [if_pos (dT h1),Zfj,if_pos rfl,if_pos (.inl h1)]
  ·rw [if_neg (dF h1),Xg (by omega),oB,Z0w,oB,Zfj]
   by_cases h2:(n.2.2.1[k]'(by omega)).Nodup
   ·rw [decide_eq_true h2,if_neg (by decide),if_neg (by simp [h1,h2]),Xg (by omega),oB]
    by_cases h3:n.2.2.1[k]'(by omega)=[]
    ·rw [if_pos (by rw [h3];decide),if_pos h3]
    ·rw [if_neg (by simpa using h3),if_neg h3]
     exact Zsu n hl l (k+1) hl2.symm (by omega)
   ·rw [decide_eq_false h2,if_pos (by decide),if_pos (.inr h2)]
theorem Zsv (n:Zy) (hl:n.2.2.1.length=n.2.1.length):Zdd n=some (Q7 n.2.1 n.2.2.1 n.2.1.length 0):=by
 rw [Zdd];exact Zsu n hl n.2.1 0 (by simp) (by omega)
theorem Zsx {names:List ByteArray} {vals:List R5}:∀ (m v:Nat),Q7 names vals m v=0→∀ i,v≤i→i<v+m→vals.getD i []≠[]∧(vals.getD i []).Nodup∧names.getD i ⟨#[]⟩ ∉ names.take i
 | 0,v,_,i,h1,h2=>by omega
 | m+1,v,h,i,h1,h2=>by
  rw [Q7] at h
  by_cases h3:names.getD v ⟨#[]⟩ ∈ names.take v∨¬ (vals.getD v []).Nodup
  ·rw [if_pos h3] at h;cases h
  ·rw [if_neg h3] at h
   by_cases h4:vals.getD v []=[]
   ·rw [if_pos h4] at h;cases h
   ·rw [if_neg h4] at h
    rcases Nat.lt_or_ge v i with h5 | h5
    ·exact Zsx m (v+1) h i (by omega) (by omega)
    ·have:i=v:=by omega
     subst this
     exact ⟨h4,by simpa using (not_or.1 h3).2,(not_or.1 h3).1⟩
def Wa (vals:List R5):List Int→Nat→Nat
 | [],k=>k
 | p :: ps,k=>Wa vals ps (min (k * (vals.getD p.toNat []).length) 1099511627776)
theorem Zu8 (vals:List R5):∀ (ps:List Int) (k:Nat),k≤1099511627776→Wa vals ps k≤1099511627776
 | [],k,h=>h
 | p :: ps,k,h=>Zu8 vals ps _ (by omega)
theorem Zss {a b:Nat} (h:a≤1099511627776) (g:b≤1048576):a * b≤1152921504606846976:=by
 have:=Nat.mul_le_mul h g
 simpa using this
theorem Zso (n:Zy) (hb:∀ l ∈ n.2.2.1,l.length≤1048576):∀ (ps:List Int) (k:Nat),k≤1099511627776→(∀ p ∈ ps,0≤p∧p<(n.2.2.1.length:Int))→Zdf n ps (k:Int)=some (Wa n.2.2.1 ps k:Int)
 | [],k,_,_=>rfl
 | p :: ps,k,hk,hp=>by
  have h1:=hp p List.mem_cons_self
  have h2:p.toNat<n.2.2.1.length:=by omega
  have h3:=hb _ (List.getElem_mem h2)
  have h4:=Zss hk h3
  rw [Zdf.eq_2,show p=((p.toNat:Nat):Int) by omega,Xg h2,oB,Wa,Int.toNat_natCast,Yu h2,← Int.natCast_mul,Z2 (by omega)]
  have ih:=Zso n hb ps (min (k * n.2.2.1[p.toNat].length) 1099511627776) (by omega) (fun q hq=>hp q (List.mem_cons_of_mem _ hq))
  rw [← ih]
  congr 1
  by_cases h5:1099511627776<k * n.2.2.1[p.toNat].length
  ·rw [if_pos (by omega),Nat.min_eq_right (by omega)];rfl
  ·rw [if_neg (by omega),Nat.min_eq_left (by omega)]
def Tp (vals:List R5) (P:List R2) (T:List (List QV)):Nat→Nat→Int
 | 0,_=>0
 | m+1,v=>if 65536<Wa vals (P.getD v []) 1 * (vals.getD v []).length then 4 else if Wa vals (P.getD v []) 1 * (vals.getD v []).length≠(T.getD v []).length then 60 else Tp vals P T m (v+1)
structure Ws (n:Zy) (W:Nat):Prop where
 nm:n.2.1.length≤1048575
 vl:∀ l ∈ n.2.2.1,l.length≤1048576
 pn:Zi6 n.2.2.2.1
 tl:∀ t ∈ n.2.2.2.2,t.length≤1048576
 tq:∀ t ∈ n.2.2.2.2,Xz t≤W
 lim:∀ t ∈ n.2.2.2.2,∀ x ∈ t,Vc x
structure Tr (n:Zy):Prop where
 v:n.2.2.1.length=n.2.1.length
 p:n.2.2.2.1.length=n.2.1.length
 t:n.2.2.2.2.length=n.2.1.length
 i:V8 n.2.2.2.1.length n.2.2.2.1=true
 ne:∀ l ∈ n.2.2.1,l≠[]
theorem Tr.par {n:Zy} (h:Tr n) {ps:List Int} (hp:ps ∈ n.2.2.2.1):∀ p ∈ ps,0≤p∧p<(n.2.2.1.length:Int):=by
 have:=Zrk h.i ps hp
 rw [h.p] at this
 rw [h.v];exact this
theorem Zns {N W:Nat} {n:Zy} (hs:Ws n W) (he:Tr n):∀ (l:List (List QV)) (k:Nat),n.2.2.2.2.drop k=l→k≤n.2.1.length→Zau N n l k=if Tp n.2.2.1 n.2.2.2.1 n.2.2.2.2 l.length k=0 then Zav N n n.2.2.2.2 else some (Tp n.2.2.1 n.2.2.2.1 n.2.2.2.2 l.length k)
 | [],k,_,_=>by rw [Zau.eq_1];rfl
 | t :: l,k,hd,hk=>by
  have ht:=he.t;have hv:=he.v;have hp:=he.p
  have hk1:k<n.2.2.2.2.length:=by
   rcases Nat.lt_or_ge k n.2.2.2.2.length with h | h
   ·exact h
   ·rw [List.drop_eq_nil_of_le h] at hd;cases hd
  have hd2:=List.drop_eq_getElem_cons hk1
  rw [hd] at hd2
  obtain ⟨hx,hl2⟩:=List.cons.inj hd2
  have kv:k<n.2.2.1.length:=by omega
  have kp:k<n.2.2.2.1.length:=by omega
  have r1:=Zu8 n.2.2.1 (n.2.2.2.1[k]) 1 (by omega)
  have c1:=hs.vl _ (List.getElem_mem kv)
  have r2:=Zss r1 c1
  have hrow:Zfm n (k:Int)=some (Wa n.2.2.1 n.2.2.2.1[k] 1:Int):=by
   rw [Zfm,Xg kp,oB]
   exact Zso n hs.vl _ 1 (by omega) (he.par (List.getElem_mem kp))
  rw [Zau.eq_2]
  have hrow':Zfm (n.1,n.2.1,n.2.2.1,n.2.2.2.1,n.2.2.2.2) (k:Int)=some (Wa n.2.2.1 n.2.2.2.1[k] 1:Int):=hrow
  rw [hrow',oB,Xg kv,oB,← Int.natCast_mul,Z2 (by omega),nC,Tp,Yu kp,Yu kv,Yu hk1,← hx]
  generalize Wa n.2.2.1 n.2.2.2.1[k] 1 * n.2.2.1[k].length=rc at *
  by_cases h1:65536<rc
  ·rw [if_pos (dT (by omega)),if_pos h1,if_neg (by decide)]
  ·rw [if_neg (dF (by omega)),if_neg h1]
   by_cases h2:rc=t.length
   ·rw [if_neg (by rw [decide_eq_true (by omega)];decide),if_neg (show ¬ rc≠t.length from fun h=>h h2)]
    exact Zns hs he l (k+1) hl2.symm (by omega)
   ·rw [if_pos (by rw [decide_eq_false (by omega)];decide),if_pos h2,if_neg (by decide)]
def Vg (x:QV):Bool:=decide (Xn x<0)||decide (1<Xn x)
theorem Z1i {a b:Rat}:0<Sm a b↔b<a:=by
 rw [Sm]
 by_cases h:a<b
 ·rw [if_pos h]
  constructor
  ·intro h2;omega
  ·intro h2;exact absurd (Rat.le_of_lt h2) (Rat.not_le.2 h)
 ·rw [if_neg h]
  by_cases h2:b<a
  ·simp [h2]
  ·simp [h2]
theorem Zty {a b:Rat}:Sm a b=0↔a=b:=by
 rw [Sm]
 constructor
 ·intro h
  split at h
  ·cases h
  ·split at h
   ·cases h
   ·rename_i h1 h2
    exact Rat.le_antisymm (Rat.not_lt.1 h2) (Rat.not_lt.1 h1)
 ·rintro rfl
  rw [if_neg Rat.lt_irrefl,if_neg Rat.lt_irrefl]
theorem Znr {N:Nat} (hr:Xm N 8):Zde N=some (Zp 1):=by
 rw [Zde,Zq6 (by omega) (by omega) (hr.mono (by omega)),oB,if_neg (by decide)]
 have:((1:Int):Rat) / ((1:Int):Rat)=1:=div_one _
 rw [this]
theorem Zve:RV 1 (Zp 1):=W5 (by rw [Zob];omega)
theorem Z0v {N k:Nat} {x:QV} (hx:RV k x) (hr:Xm N (2 * k+16)):Zfk N x=some (Vg x):=by
 have h2:S3 N ((x.1.1,x.1.2),x.2)=some (Q9 (Xn x)):=Zjy hx (hr.mono (by omega))
 rw [Zfk,h2,oB,Vg]
 by_cases h:Xn x<0
 ·rw [if_pos (dT (Zt5.2 h)),Zfl,decide_eq_true h,Bool.true_or]
 ·rw [if_neg (dF (fun h3=>h (Zt5.1 h3))),decide_eq_false h,Bool.false_or,Znr (hr.mono (by omega)),oB,Zm3 (a:=((x.1.1,x.1.2),x.2)) (b:=Zp 1) hx Zve (hr.mono (by omega)),oB,Zfl,Wx]
  congr 1
  exact decide_eq_decide.2 Z1i
def Wn (x:QV):QV:=if Zb x.2=0 then (x.1,[1]) else x
theorem Zqw {x:QV} (h:Vc x):Vc (Wn x):=by
 rw [Wn];split
 ·exact ⟨h.1,.cons (by decide) .nil⟩
 ·exact h
theorem Zm4 (x:QV):Xn (Wn x)=Xn x:=by
 rw [Wn];split
 ·rename_i h
  rw [Xn,Xn]
  show mkRat (Zt x.1) (Yq [1])=mkRat (Zt x.1) (Yq x.2)
  rw [Yq,Yq,if_pos h]
  congr 1
 ·rfl
theorem Zzo (x:QV):Vg (Wn x)=Vg x:=by rw [Vg,Vg,Zm4]
theorem Zzn (x:QV):max (Wn x).1.2.length (Wn x).2.length≤max x.1.2.length x.2.length+1:=by
 rw [Wn];split
 ·show max x.1.2.length [(1:Int)].length≤_
  simp only [List.length_singleton];omega
 ·omega
theorem Zn9:∀ l:List QV,2 * l.length≤Xz l
 | []=>by simp [Xz]
 | a :: l=>by rw [Xz,nC];have:=Zn9 l;omega
theorem Zn8:∀ l:List QV,Xz (l.map Wn)≤Xz l+l.length
 | []=>by simp [Xz]
 | a :: l=>by
  rw [List.map_cons,Xz,Xz,nC]
  have:=Zn8 l;have:=Zzn a;omega
theorem Ztz (a b:List QV):Xz (a++b)=Xz a+Xz b:=by
 induction a with
 | nil=>simp [Xz]
 | cons x a ih=>rw [List.cons_append,Xz,Xz,ih];omega
theorem Z1l (l:List QV) (k:Nat):Xz (l.take k)≤Xz l:=by
 have:=Ztz (l.take k) (l.drop k)
 rw [List.take_append_drop] at this;omega
theorem Z1j (l:List QV) (k:Nat):Xz (l.drop k)≤Xz l:=by
 have:=Ztz (l.take k) (l.drop k)
 rw [List.take_append_drop] at this;omega
theorem Z1k {l:List QV} {x:QV} (h:x ∈ l):max x.1.2.length x.2.length≤Xz l:=by
 induction l with
 | nil=>simp at h
 | cons y l ih=>
  rw [Xz]
  rcases List.mem_cons.1 h with rfl | h
  ·omega
  ·have:=ih h;omega
theorem Zq1 {N k:Nat} {x:QV} (h:Vc x) (hk:max x.1.2.length x.2.length≤k) (hr:Xm N k):Zby N x=some (Wn x):=by
 obtain ⟨r1,r2⟩:=hr
 rw [Zby,Znv h.2 (by omega) (by omega),oB,Wn]
 by_cases h0:Zb x.2=0
 ·rw [h0,Wt,if_pos (by decide),if_pos rfl,Zgh (by decide) (by omega),oB,Zfh,show (1:Int).toNat=1 from rfl,Th]
 ·have:=T5 h0
  rw [if_neg (dF (by omega)),if_neg h0,Zfh]
theorem Zq2 {N W:Nat} (hr:Xm N W):∀ (l out:List QV),(∀ x ∈ l,Vc x)→Xz l≤W→out.length+l.length≤1048576→Zbz N l out=some (out++l.map Wn)
 | [],out,_,_,_=>by rw [Zbz.eq_1];simp
 | x :: l,out,hl,hq,hlen=>by
  rw [Xz] at hq
  rw [nC] at hlen
  have h1:Zby N ((x.1.1,x.1.2),x.2)=some (Wn x):=Zq1 (x:=x) (hl x List.mem_cons_self) (k:=W) (by omega) hr
  rw [Zbz.eq_2,h1,oB,Z7 (by simp only [List.length_singleton,maxLen];omega),Zq2 hr l _ (fun y hy=>hl y (List.mem_cons_of_mem _ hy)) (by omega) (by simp only [nA,List.length_singleton];omega)]
  simp
theorem Zq3 {N W:Nat} {l:List QV} (hr:Xm N W) (hl:∀ x ∈ l,Vc x) (hq:Xz l≤W) (hlen:l.length≤1048576):Zfi N l=some (l.map Wn):=by
 rw [Zfi,Z7 (by simp only [maxLen];omega),Zq2 hr l [] hl hq (by simpa using hlen),List.nil_append]
theorem Zre {N W:Nat} (hr:Xm N (2 * W+16)):∀ (l:List QV) (k:Nat),(∀ x ∈ l,Vc x)→Xz l≤W→∃ j:Int,Zd0 N l k=some j∧(0≤j↔l.any Vg=true)
 | [],k,_,_=>⟨-1,rfl,by simp⟩
 | x :: l,k,hl,hq=>by
  rw [Xz] at hq
  have hx:=hl x List.mem_cons_self
  have h1:Zfk N ((x.1.1,x.1.2),x.2)=some (Vg x):=Z0v (x:=x) (Zgl hx.1 hx.2) (hr.mono (by omega))
  rw [Zd0.eq_2,h1,oB,List.any_cons]
  cases Vg x with
  | true=>rw [if_pos rfl];exact ⟨_,rfl,by simp⟩
  | false=>
   rw [if_neg (by decide)]
   obtain ⟨j,h1,h2⟩:=Zre hr l (k+1) (fun y hy=>hl y (List.mem_cons_of_mem _ hy)) (by omega)
   exact ⟨j,h1,by rw [h2];simp⟩
def Zag (T:List (List QV)):Bool:=T.any fun t=>t.any Vg
theorem Zwm (l:List QV):(l.map Wn).any Vg=l.any Vg:=by
 induction l with
 | nil=>rfl
 | cons x l ih=>rw [List.map_cons,List.any_cons,List.any_cons,ih,Zzo]
theorem Znp {N W:Nat} {n:Zy} (hr:Xm N (4 * W+16)):∀ l:List (List QV),(∀ t ∈ l,t.length≤1048576∧Xz t≤W∧∀ x ∈ t,Vc x)→Zav N n l=if Zag l=true then some 45 else Zbw N n n.2.2.2.2 0
 | [],_=>by rw [Zav.eq_1];rfl
 | t :: l,h=>by
  obtain ⟨h1,h2,h3⟩:=h t List.mem_cons_self
  have hp:=Zn9 t
  have hf:=Zn8 t
  obtain ⟨j,j1,j2⟩:=Zre (N:=N) (W:=2 * W) (hr.mono (by omega)) (t.map Wn) 0 (fun x hx=>by
   obtain ⟨y,hy,rfl⟩:=List.mem_map.1 hx
   exact Zqw (h3 y hy)) (by omega)
  rw [Zav.eq_2,Zq3 (W:=W) (hr.mono (by omega)) h3 h2 h1,oB,Zk4,Zk5,j1,oB,oB,Zag,List.any_cons]
  rw [Zwm] at j2
  by_cases ho:t.any Vg=true
  ·rw [if_pos (dT (j2.2 ho)),ho,Bool.true_or,if_pos rfl]
  ·rw [if_neg (dF (fun h=>ho (j2.1 h))),Bool.eq_false_iff.2 ho,Bool.false_or]
   exact Znp hr l fun x hx=>h x (List.mem_cons_of_mem _ hx)
def U3 (c:Nat):Nat→List QV→Bool
 | 0,_=>true
 | m+1,l=>decide (Vi (l.take c)=1)&&U3 c m (l.drop c)
def Zg0 (c:Nat):Nat→List QV→List (List QV)
 | 0,_=>[]
 | m+1,l=>l.take c :: Zg0 c m (l.drop c)
theorem Zp8 (N:Nat) (l:List QV) (c:Nat) (hc:0<c) (hl:l.length≤1048576) (hcs:c≤1048576):∀ (m fuel i:Nat),i+m * c=l.length→m<fuel→Zce N l (c:Int) fuel (i:Int)=some (Zg0 c m (l.drop i))
 | 0,0,i,_,h=>by omega
 | 0,fuel+1,i,h1,_=>by
  rw [Zce.eq_2,if_neg (dF (by omega))];rfl
 | m+1,0,i,_,h=>by omega
 | m+1,fuel+1,i,h1,h2=>by
  have h3:i+c+m * c=l.length:=by rw [Nat.add_mul,Nat.one_mul] at h1;omega
  have e:(if ((l.drop i).length:Int)<(c:Int) then ((l.drop i).length:Int) else (c:Int))=(c:Int):=by
   rw [List.length_drop]
   by_cases h:((l.length - i:Nat):Int)<(c:Int)
   ·omega
   ·rw [if_neg h]
  rw [Zce.eq_2,if_pos (dT (by omega)),Int.toNat_natCast,e,Z2 (by omega),Z7 (by omega),Z7 (by omega),show (i:Int)+(c:Int)=((i+c:Nat):Int) by omega,Zp8 N l c hc hl hcs m fuel (i+c) (by omega) (by omega),oB,Int.toNat_natCast,Zg0,List.drop_take,show i+c - i=c by omega,List.drop_drop]
theorem Z1o (l:List QV):Vi (l.map Wn)=Vi l:=by
 rw [Vi,Vi,List.map_map]
 congr 1
 exact List.map_congr_left fun x _=>Zm4 x
theorem Zs3 (c:Nat):∀ (m:Nat) (l:List QV),U3 c m (l.map Wn)=U3 c m l
 | 0,l=>rfl
 | m+1,l=>by rw [U3,U3,← List.map_take,← List.map_drop,Z1o,Zs3 c m]
theorem Zst {N W:Nat} (hr:Xm N (4 * W+40)) (c:Nat) (b:Bool):∀ (m:Nat) (l:List QV),(∀ x ∈ l,Vc x)→Xz l≤W→Zdg N (Zg0 c m l) b=some (U3 c m l)
 | 0,l,_,_=>rfl
 | m+1,l,hl,hq=>by
  have ht:=Z1l l c
  have hd:=Z1j l c
  obtain ⟨s1,s2⟩:=Zra (N:=N) (l:=l.take c) (fun x hx=>hl x (List.mem_of_mem_take hx)) (hr.mono (by omega))
  rw [Zg0,Zdg.eq_2,s1,oB,Znr (hr.mono (by omega)),oB,Zm3 (a:=Zp _) (b:=Zp 1) (W5 s2) Zve (hr.mono (by omega)),oB,Wx,Wx,U3]
  by_cases h:Vi (l.take c)=1
  ·rw [if_neg (by rw [Zty.2 h];decide),decide_eq_true h,Bool.true_and]
   exact Zst hr c b m _ (fun x hx=>hl x (List.mem_of_mem_drop hx)) (by omega)
  ·rw [if_pos (by rw [decide_eq_false (fun h2=>h (Zty.1 h2))];decide),decide_eq_false h,Bool.false_and];rfl
theorem Z0y {N W c m:Nat} {l:List QV} (hr:Xm N (4 * W+40)) (hl:∀ x ∈ l,Vc x) (hq:Xz l≤W) (hc:0<c) (hcs:c≤1048576) (hll:l.length≤1048576) (hm:m * c=l.length) (hN:1048577<N):Zhf N l (c:Int)=some (U3 c m l):=by
 have hmc:m≤l.length:=by rw [← hm];exact Nat.le_mul_of_pos_right m hc
 rw [Zhf,Zk0,if_neg (dF (by omega)),Zk2,Zk1,show (0:Int)=((0:Nat):Int) from rfl,Zp8 N l c hc hll hcs m N 0 (by omega) (by omega),oB,List.drop_zero]
 exact Zst hr c false m l hl hq
def Zcl (vals:List R5) (P:List R2) (T:List (List QV)):Nat→Nat→Int
 | 0,_=>0
 | m+1,v=>if U3 (vals.getD v []).length (Wa vals (P.getD v []) 1) (T.getD v [])=true then Zcl vals P T m (v+1) else 46
theorem Zos {vals:List R5} {P:List R2} {T:List (List QV)}:∀ (m v:Nat),Tp vals P T m v=0→∀ i,v≤i→i<v+m→Wa vals (P.getD i []) 1 * (vals.getD i []).length=(T.getD i []).length∧(T.getD i []).length≤65536
 | 0,v,_,i,h1,h2=>by omega
 | m+1,v,h,i,h1,h2=>by
  rw [Tp] at h
  by_cases h3:65536<Wa vals (P.getD v []) 1 * (vals.getD v []).length
  ·rw [if_pos h3] at h;cases h
  ·rw [if_neg h3] at h
   by_cases h4:Wa vals (P.getD v []) 1 * (vals.getD v []).length=(T.getD v []).length
   ·rw [if_neg (show ¬ Wa vals (P.getD v []) 1 * (vals.getD v []).length≠(T.getD v []).length from fun h=>h h4)] at h
    rcases Nat.lt_or_ge v i with h5 | h5
    ·exact Zos m (v+1) h i (by omega) (by omega)
    ·have:i=v:=by omega
     subst this
     exact ⟨h4,by omega⟩
   ·rw [if_pos h4] at h;cases h
theorem Znt {N W:Nat} {n:Zy} (hs:Ws n W) (he:Tr n) (hsh:Tp n.2.2.1 n.2.2.2.1 n.2.2.2.2 n.2.1.length 0=0) (hr:Xm N (8 * W+40)) (hN:1048577<N):∀ (l:List (List QV)) (k:Nat),n.2.2.2.2.drop k=l→k≤n.2.1.length→Zbw N n l k=some (Zcl n.2.2.1 n.2.2.2.1 n.2.2.2.2 l.length k)
 | [],k,_,_=>rfl
 | t :: l,k,hd,hk=>by
  have ht:=he.t;have hv:=he.v;have hp:=he.p
  have hk1:k<n.2.2.2.2.length:=by
   rcases Nat.lt_or_ge k n.2.2.2.2.length with h | h
   ·exact h
   ·rw [List.drop_eq_nil_of_le h] at hd;cases hd
  have hd2:=List.drop_eq_getElem_cons hk1
  rw [hd] at hd2
  obtain ⟨hx,hl2⟩:=List.cons.inj hd2
  have kv:k<n.2.2.1.length:=by omega
  have kp:k<n.2.2.2.1.length:=by omega
  have hm:t ∈ n.2.2.2.2:=by rw [hx];exact List.getElem_mem hk1
  have c1:=hs.vl _ (List.getElem_mem kv)
  have c0:0<n.2.2.1[k].length:=List.length_pos_iff.2 (he.ne _ (List.getElem_mem kv))
  obtain ⟨s1,s2⟩:=Zos _ 0 hsh k (by omega) (by omega)
  rw [Yu kv,Yu hk1,← hx] at s1
  rw [Yu hk1,← hx] at s2
  have hq:=hs.tq t hm
  have hp2:=Zn9 t
  have hf:=Zn8 t
  rw [Zbw.eq_2,Xg kv,oB,Zq3 (W:=W) (hr.mono (by omega)) (hs.lim t hm) hq (hs.tl t hm),oB,
   Z0y (W:=2 * W) (m:=Wa n.2.2.1 (n.2.2.2.1.getD k []) 1) (hr.mono (by omega)) (fun x hx=>by
    obtain ⟨y,hy,rfl⟩:=List.mem_map.1 hx
    exact Zqw (hs.lim t hm y hy)) (by omega) c0 c1 (by rw [List.length_map];omega) (by rw [List.length_map];exact s1) hN,oB,Zs3,nC,Zcl,Yu kv,Yu hk1,← hx]
  cases U3 n.2.2.1[k].length (Wa n.2.2.1 (n.2.2.2.1.getD k []) 1) t with
  | true=>
   rw [if_neg (by decide),if_pos rfl]
   exact Znt hs he hsh hr hN l (k+1) hl2.symm (by omega)
  | false=>rw [if_pos (by decide),if_neg (by decide)]
structure Ya (N:Nat) (n:Zy):Prop where
 ev:Tr n
 le:n.2.1.length≤1024
 nm:Q7 n.2.1 n.2.2.1 n.2.1.length 0=0
 sh:Tp n.2.2.1 n.2.2.2.1 n.2.2.2.2 n.2.1.length 0=0
 en:Zag n.2.2.2.2=false
 su:Zcl n.2.2.1 n.2.2.2.1 n.2.2.2.2 n.2.1.length 0=0
 tw:Ux n.2.2.2.1=false
 or:∃ l,Zai N n.2.2.2.1=some (l,0)∧Za5 N n.2.2.2.1=some l∧Zga N n.2.2.2.1=some 0∧U9 n.2.2.2.1 l∧l.length=n.2.2.2.1.length
def cnt (n:Zy) (v:Nat):Nat:=(n.2.2.1.getD v []).length
def Za9 (n:Zy) (w:List Int):List Int→Nat→Nat
 | [],r=>r
 | p :: ps,r=>Za9 n w ps (r * cnt n p.toNat+(w.getD p.toNat 0).toNat)
def Uv (n:Zy) (w:List Int) (v:Nat):Nat:=Za9 n w (n.2.2.2.1.getD v []) 0
def Vk (n:Zy) (w:List Int) (v:Nat):List QV:=((n.2.2.2.2.getD v []).drop (Uv n w v * cnt n v)).take (cnt n v)
structure V6 (n:Zy) (w:List Int):Prop where
 len:w.length=n.2.1.length
 ok:∀ i,i<w.length→0≤w.getD i 0∧w.getD i 0<(cnt n i:Int)
theorem Zmv {n:Zy} (he:Tr n) {v:Nat} (hv:v<n.2.1.length):0<cnt n v:=by
 have h1:v<n.2.2.1.length:=by rw [he.v];exact hv
 rw [cnt,Yu h1]
 exact List.length_pos_iff.2 (he.ne _ (List.getElem_mem h1))
theorem Zva {n:Zy} (he:Tr n):∀ (ps:List Int) (k:Nat),(∀ p ∈ ps,0≤p∧p<(n.2.1.length:Int))→k≤1099511627776→k≤Wa n.2.2.1 ps k
 | [],k,_,_=>Nat.le_refl _
 | p :: ps,k,hp,hk=>by
  have h1:=hp p List.mem_cons_self
  have h2:0<(n.2.2.1.getD p.toNat []).length:=Zmv he (by omega)
  rw [Wa]
  have h3:k≤min (k * (n.2.2.1.getD p.toNat []).length) 1099511627776:=Nat.le_min.2 ⟨Nat.le_mul_of_pos_right k h2,hk⟩
  exact Nat.le_trans h3 (Zva he ps _ (fun q hq=>hp q (List.mem_cons_of_mem _ hq)) (Nat.min_le_right _ _))
theorem Zu6 {n:Zy} (he:Tr n) {w:List Int} (hw:V6 n w) {p:Int} {ps:List Int} {r k:Nat} (hp:∀ q ∈ p :: ps,0≤q∧q<(n.2.1.length:Int)) (hr:r<k) (hk:k≤65536) (hb:Wa n.2.2.1 (p :: ps) k≤65536):
  r * cnt n p.toNat+(w.getD p.toNat 0).toNat<k * cnt n p.toNat∧k * cnt n p.toNat≤65536∧Wa n.2.2.1 ps (k * cnt n p.toNat)≤65536:=by
 have h1:=hp p List.mem_cons_self
 have h2:=hw.ok p.toNat (by rw [hw.len];omega)
 have h3:r * cnt n p.toNat+cnt n p.toNat≤k * cnt n p.toNat:=by
  have:=Nat.mul_le_mul_right (cnt n p.toNat) (show r+1≤k by omega)
  rwa [Nat.add_mul,Nat.one_mul] at this
 rw [Wa] at hb
 have h4:=Zva he ps (min (k * (n.2.2.1.getD p.toNat []).length) 1099511627776) (fun q hq=>hp q (List.mem_cons_of_mem _ hq)) (Nat.min_le_right _ _)
 have h5:k * (n.2.2.1.getD p.toNat []).length≤1099511627776:=by
  rcases Nat.le_total (k * (n.2.2.1.getD p.toNat []).length) 1099511627776 with h | h
  ·exact h
  ·rw [Nat.min_eq_right h] at h4 hb;omega
 rw [Nat.min_eq_left h5] at h4 hb
 exact ⟨by omega,Nat.le_trans h4 hb,hb⟩
theorem Zu5 {n:Zy} (he:Tr n) {w:List Int} (hw:V6 n w):∀ (ps:List Int) (r k:Nat),(∀ q ∈ ps,0≤q∧q<(n.2.1.length:Int))→r<k→k≤65536→Wa n.2.2.1 ps k≤65536→Za9 n w ps r<Wa n.2.2.1 ps k
 | [],r,k,_,hr,_,_=>hr
 | p :: ps,r,k,hp,hr,hk,hb=>by
  obtain ⟨h1,h2,h3⟩:=Zu6 he hw hp hr hk hb
  have:=Zu5 he hw ps _ _ (fun q hq=>hp q (List.mem_cons_of_mem _ hq)) h1 h2 h3
  rw [Za9,Wa,Nat.min_eq_left (by rw [cnt] at h2;omega)]
  exact this
section
variable {N:Nat} {n:Zy} (hf:Ya N n)
include hf
theorem Ya.pars {v:Nat} (hv:v<n.2.1.length):∀ p ∈ n.2.2.2.1.getD v [],0≤p∧p<(n.2.1.length:Int):=fun p hp=>by
 have h1:v<n.2.2.2.1.length:=by rw [hf.ev.p];exact hv
 rw [Yu h1] at hp
 have:=hf.ev.par (List.getElem_mem h1) p hp
 rwa [hf.ev.v] at this
theorem Ya.rows {v:Nat} (hv:v<n.2.1.length):Wa n.2.2.1 (n.2.2.2.1.getD v []) 1 * cnt n v=(n.2.2.2.2.getD v []).length∧(n.2.2.2.2.getD v []).length≤65536∧Wa n.2.2.1 (n.2.2.2.1.getD v []) 1≤65536:=by
 have h1:=Zos _ 0 hf.sh v (Nat.zero_le _) (by omega)
 have h2:=Zmv hf.ev hv
 refine ⟨h1.1,h1.2,?_⟩
 have h3:Wa n.2.2.1 (n.2.2.2.1.getD v []) 1≤Wa n.2.2.1 (n.2.2.2.1.getD v []) 1 * cnt n v:=Nat.le_mul_of_pos_right _ h2
 have h4:Wa n.2.2.1 (n.2.2.2.1.getD v []) 1 * cnt n v≤65536:=by
  have:=h1.1;rw [cnt,this];exact h1.2
 omega
theorem Ya.row {w:List Int} (hw:V6 n w) {v:Nat} (hv:v<n.2.1.length):Uv n w v * cnt n v+cnt n v≤(n.2.2.2.2.getD v []).length∧Uv n w v<65536:=by
 obtain ⟨h1,h2,h3⟩:=hf.rows hv
 have h4:=Zu5 hf.ev hw _ 0 1 (hf.pars hv) (by omega) (by omega) h3
 have h5:=Nat.mul_le_mul_right (cnt n v) (show Uv n w v+1≤Wa n.2.2.1 (n.2.2.2.1.getD v []) 1 from h4)
 rw [Nat.add_mul,Nat.one_mul,h1] at h5
 exact ⟨h5,Nat.lt_of_lt_of_le h4 h3⟩
theorem Ya.rowT_len {w:List Int} (hw:V6 n w) {v:Nat} (hv:v<n.2.1.length):(Vk n w v).length=cnt n v:=by
 have:=(hf.row hw hv).1
 rw [Vk,nK,List.length_drop];omega
theorem Ya.ent {v:Nat} (hv:v<n.2.1.length):∀ x ∈ n.2.2.2.2.getD v [],0≤Xn x∧Xn x≤1:=fun x hx=>by
 have h1:v<n.2.2.2.2.length:=by rw [hf.ev.t];exact hv
 rw [Yu h1] at hx
 have h2:=hf.en
 rw [Zag,List.any_eq_false] at h2
 have h3:=h2 _ (List.getElem_mem h1)
 rw [Bool.not_eq_true,List.any_eq_false] at h3
 have h4:=h3 x hx
 simp only [Vg,Bool.or_eq_true,decide_eq_true_eq,not_or] at h4
 exact ⟨Rat.not_lt.1 h4.1,Rat.not_lt.1 h4.2⟩
end
theorem Zk8 {n:Zy} {w:List Int} {v:Nat} {x:QV} (h:x ∈ Vk n w v):x ∈ n.2.2.2.2.getD v []:=List.mem_of_mem_drop (List.mem_of_mem_take h)
theorem Z2i {n:Zy} {w:List Int} {v j:Nat} (hj:j<(Vk n w v).length):Zq (n.2.2.2.2.getD v []) ((Uv n w v * cnt n v+j:Nat):Int)=some (Vk n w v)[j]:=by
 have h1:Uv n w v * cnt n v+j<(n.2.2.2.2.getD v []).length:=by
  rw [Vk,nK,List.length_drop] at hj;omega
 rw [Xg h1]
 simp only [Vk,List.getElem_take,List.getElem_drop]
section
variable {N W:Nat} {n:Zy} (hf:Ya N n) (hs:Ws n W)
include hf hs
theorem Zm2 {v:Nat} (hv:v<n.2.1.length):∀ x ∈ n.2.2.2.2.getD v [],Vc x∧max x.1.2.length x.2.length≤W:=fun x hx=>by
 have h1:v<n.2.2.2.2.length:=by rw [hf.ev.t];exact hv
 rw [Yu h1] at hx
 have h2:=hs.tq _ (List.getElem_mem h1)
 exact ⟨hs.lim _ (List.getElem_mem h1) x hx,Nat.le_trans (Z1k hx) h2⟩
end
theorem Zmr {N W:Nat} {n:Zy} (hf:Ya N n) (hs:Ws n W) (hr:Xm N (8 * W+40)) (hN:2000000<N):U2 N n=some 0:=by
 obtain ⟨l,o1,o2,o3,o4,o5⟩:=hf.or
 have hv:=hf.ev.v;have hp:=hf.ev.p;have ht:=hf.ev.t;have hle:=hf.le
 have nn:Zdd (n.1,n.2.1,n.2.2.1,n.2.2.2.1,n.2.2.2.2)=some (Q7 n.2.1 n.2.2.1 n.2.1.length 0):=Zsv n hv
 have D':S0 N n.2.2.2.1=some 0:=by rw [S0,o1];rfl
 have ms:=Zns (N:=N) hs hf.ev n.2.2.2.2 0 (by simp) (by omega)
 have me:=Znp (N:=N) (n:=n) (W:=W) (hr.mono (by omega)) n.2.2.2.2 (fun t h=>⟨hs.tl t h,hs.tq t h,hs.lim t h⟩)
 have m6:=Znt (N:=N) hs hf.ev hf.sh hr (by omega) n.2.2.2.2 0 (by simp) (by omega)
 rw [U2,if_neg (by rw [decide_eq_true (by omega)];decide),if_neg (by rw [decide_eq_true (by omega)];decide),show (!decide ((n.2.2.2.2.length:Int)=(n.2.1.length:Int)))=false by rw [decide_eq_true (by omega)];rfl,Qz,if_neg (show ¬ (false=true) by decide),if_neg (dF (by omega)),
  nn,oB,hf.nm,if_neg (by decide),D',oB,if_neg (by decide),ms,ht,if_pos hf.sh,me,hf.en,if_neg (by decide),m6,ht,hf.su]
theorem Zjz {N:Nat} (hr:Xm N 16):Ti N ([]:List QV)=some (Zp 0):=by
 have:=(Zra (N:=N) (l:=[]) (by simp) hr).1
 rwa [Vi,List.map_nil,List.sum_nil] at this
/-! the document's loops -/
/-! a row's entries are 1 together -/
/-! parts side by side -/
def T3 (n:Zy):List Int→Nat→Bool
 | [],_=>true
 | x :: l,k=>!decide (x<0)&&(!decide ((cnt n k:Int)≤x)&&T3 n l (k+1))
theorem Zrg {n:Zy}:∀ (l:List Int) (k:Nat),T3 n l k=true→∀ i,i<l.length→0≤l.getD i 0∧l.getD i 0<(cnt n (k+i):Int)
 | [],_,_,i,hi=>by simp at hi
 | x :: l,k,h,i,hi=>by
  simp only [T3,Bool.and_eq_true,Bool.not_eq_true',decide_eq_false_iff_not] at h
  cases i with
  | zero=>rw [List.getD_cons_zero,Nat.add_zero];omega
  | succ i=>
   rw [List.getD_cons_succ,show k+(i+1)=k+1+i by omega]
   exact Zrg l (k+1) h.2.2 i (by simpa using hi)
theorem Zz1 {n:Zy} {w:List Int} (hl:w.length=n.2.1.length) (h:T3 n w 0=true):V6 n w:=⟨hl,fun i hi=>by have:=Zrg w 0 h i hi;rwa [Nat.zero_add] at this⟩
def Zat (N:Nat) (ab:R0) (ac:List Int) (aa:Nat) (ah:Bool) (ai:List Int) (aj:List Int) (kk_L2:(Nat→Bool→R2→R2→Option (R1×Int))) (ak:R8):List Int→Int→Option (R1×Int)
  | [],ad=>(Zq ab.2.2.1 (aa:Int)).bind fun am=>(Zq ac (aa:Int)).bind fun an=>(Zq ak (i64.wrap ((i64.wrap (ad * (am.length:Int)))+an))).bind fun ae=>(Zby N ((ae.1.1,ae.1.2),ae.2)).bind fun af=>(Zbp N ((ah,ai),aj) ((af.1.1,af.1.2),af.2)).bind fun ag=>kk_L2 (aa+1) ag.1.1 ag.1.2 ag.2
  | al :: ao,ad=>(Zq ab.2.2.1 al).bind fun ap=>(Zq ac al).bind fun aq=>(Zat N ab ac aa ah ai aj kk_L2 ak ao) (i64.wrap ((i64.wrap (ad * (ap.length:Int)))+aq))
termination_by structural x=>x
def Zas (N:Nat) (aa:R0) (af:List Int):List R8→Nat→Bool→R2→R2→Option (R1×Int)
  | [],ab,ac,ad,ae=>some (((ac,ad),ae),0)
  | ag :: ah,ab,ac,ad,ae=>(Zq aa.2.2.2.1 (ab:Int)).bind fun ai=>Zat N aa af ab ac ad ae (Zas N aa af ah) ag ai 0
termination_by structural x=>x
def Zfg (aa:Nat) (ab:Bool) (ac:List Int) (ad:List Int) (kk_L1:(Nat→Bool→R2→R2→Option (R1×Int))) (ae:Bool):Option (R1×Int):=
  if ae=true then (some (((false,([]:List Int)),([]:List Int)),3)) else (kk_L1 (aa+1) ab ac ad)
def S7 (N:Nat) (aa:R0) (ac:List Int):List Int→Nat→Bool→R2→R2→Option (R1×Int)
  | [],ab,ad,ae,af=>(Zde N).bind fun ag=>Zas N aa ac aa.2.2.2.2 0 ag.1.1 ag.1.2 ag.2
  | ah :: ai,ab,ad,ae,af=>if (decide (ah<0))=true then (Zfg ab ad ae af (S7 N aa ac ai) true) else ((Zq aa.2.2.1 (ab:Int)).bind fun aj=>Zfg ab ad ae af (S7 N aa ac ai) (decide ((aj.length:Int)≤ah)))
termination_by structural x=>x
def Zff (N:Nat) (aa:R0) (ab:List Int):Option (R1×Int):=
  (U2 N (aa.1,aa.2.1,aa.2.2.1,aa.2.2.2.1,aa.2.2.2.2)).bind fun ac=>if (!decide (ac=0))=true then (some (((false,([]:List Int)),([]:List Int)),ac)) else (if (!decide ((ab.length:Int)=(aa.2.1.length:Int)))=true then (some (((false,([]:List Int)),([]:List Int)),60)) else (S7 N aa ab ab 0 false ([]:List Int) ([]:List Int)))
theorem Zw7 {N bf bg bh bi cu:Nat} {bj bk bm bn a1:Option Addr} {col:Zd} {w0:World} {ab:R0} {ak:R2} {r:(R1×Int)} (c1 c2:Nat) (hm:Zff N ab ak=some r) (cd:Sl Za.str col w0 bj bf ab.2.1) (au:Sl (Za.slice Za.str) col w0 bk bg ab.2.2.1) (bt:Sl (Za.slice (Za.int .i64)) col w0 bm bh ab.2.2.2.1) (bo:Sl (Za.slice (Za.pair (Za.pair Za.bool (Za.slice (Za.int .u32))) (Za.slice (Za.int .u32)))) col w0 bn bi ab.2.2.2.2) (h1:Sl (Za.int .i64) col w0 a1 cu ak):
    Calls prog 70 #[(.agg #[.string ab.1,.slice bj ab.2.1.length bf,.slice bk ab.2.2.1.length bg,.slice bm ab.2.2.2.1.length bh,.slice bn ab.2.2.2.2.length bi]),.slice a1 ak.length cu] w0 (fun e w'=>∃ (col':Zd) (ra1:Option Addr) (rc2:Nat) (ra4:Option Addr) (rc5:Nat),e= .returned (.tuple #[(.agg #[.bool r.1.1.1,.slice ra1 r.1.1.2.length rc2,.slice ra4 r.1.2.length rc5]),.int .i64 r.2])∧Zi col w0 col' w'∧Zc (Za.int .u32) 79 c1 col' w' ra1 rc2 r.1.1.2∧Zc (Za.int .u32) 79 c2 col' w' ra4 rc5 r.1.2):=by
 refine Wi (m:=103) func70 rfl rfl rfl ?_;rw [Zff.eq_1] at hm;have aa:=St.start col w0;refine go ?_;refine Ye (col:=(Zj col)) 1 rfl ?_;intro b7 eq c3 c4 ac;refine Xr (col:=c3) #[.bool false,.slice none (([]:List Int).length) 0,.slice none (([]:List Int).length) 0] 2 zeroValue47 ?_;intro b8 c5 cv cw ad;refine go ?_;replace ac:=ac.gr cw;refine lV _ (Xh isAgg27 sizeOf27 ac) ?_;obtain ⟨er,c6,hm⟩:=bZ hm;replace cd:=cd.keep (Zl.start col w0);replace au:=au.keep (Zl.start col w0);replace bt:=bt.keep (Zl.start col w0);replace bo:=bo.keep (Zl.start col w0);replace aa:=(aa.grow c4).grow cw;refine Zh (Zmd c6 (cd.ks aa) (au.ks aa) (bt.ks aa) (bo.ks aa)) ?_;rintro _ c7 ⟨rfl,bu⟩;refine ⟨_,rfl,?_⟩;replace bu:Zi cv c5 cv c7:=.of_below bu;refine go ?_;replace h1:=h1.keep (Zl.start col w0);replace ac:=ac.gr bu;replace ad:=ad.gr bu;replace aa:=aa.grow bu;refine Zr hm (fun hb hm=>go ?_) fun hb hm=>go ?_
 ·refine lV (.agg #[.bool false,.slice none (([]:List Int).length) 0,.slice none (([]:List Int).length) 0]) (Wg (l:=[_,_]) (qs:=[(0,2),(2,1)]) underlying47 zeroValue47 ⟨rfl,sizeOf45,rfl,sizeOf43,trivial⟩ rfl)<|Yd rfl<|Z5 ad ?_;intro es c8 c9 da;refine go ?_;cases hm;replace aa:=aa.kp c8 c9;exact ⟨rfl,_,Ue da.atN,_,none,0,none,0,rfl,aa.fin (cm []),Zc.nil,Zc.nil⟩
 refine Xu ac ?_;refine go ?_;refine Zr hm (fun hb hm=>go ?_) fun hb hm=>go ?_
 ·refine lV (.agg #[.bool false,.slice none (([]:List Int).length) 0,.slice none (([]:List Int).length) 0]) (Wg (l:=[_,_]) (qs:=[(0,2),(2,1)]) underlying47 zeroValue47 ⟨rfl,sizeOf45,rfl,sizeOf43,trivial⟩ rfl)<|Z5 ad ?_;intro et db dc dd;refine go ?_;cases hm;replace aa:=aa.kp db dc;exact ⟨rfl,_,Ue dd.atN,_,none,0,none,0,rfl,aa.fin (cm []),Zc.nil,Zc.nil⟩
 refine Z8 [1,2,28,29,4,1000000] (fun n f bp=>∃ a4 a5 a6 av aw al ax ay am bv,n=bv.length∧ak.drop a5=bv∧S7 N ab ak bv a5 a6 al am=some r∧St w0 (Zj col) a4 bp∧Zk 27 1 a4 bp b7 #[.string ab.1,.slice bj ab.2.1.length bf,.slice bk ab.2.2.1.length bg,.slice bm ab.2.2.2.1.length bh,.slice bn ab.2.2.2.2.length bi]∧Zc (Za.int .u32) 79 3 a4 bp av aw al∧Zc (Za.int .u32) 79 4 a4 bp ax ay am∧Zk 47 2 a4 bp b8 #[.bool a6,.slice av al.length aw,.slice ax am.length ay]∧[30].map f=[.int .i64 a5]) ak.length ⟨_,0,_,none,0,_,none,0,_,_,rfl,rfl,hm,aa,ac,Zc.nil,Zc.nil,ad,rfl⟩ ?_;clear hm;intro n f bp hI;obtain ⟨a4,a5,a6,av,aw,al,ax,ay,am,bv,hn,hl,hm,aa,ac,ae,af,ad,hs⟩:=hI;subst hn;refine .lL [30] hs ?_
 cases bv with
 | nil=>
  have hk:¬ ((a5:Int)<(ak.length:Int)):=by have:=List.drop_eq_nil_iff.1 hl;omega
  have hkb:=decide_eq_false hk;rw [S7.eq_1] at hm;refine go ?_;refine X3 (congrArg Value.bool hkb)<|go ?_;obtain ⟨eu,de,hm⟩:=bZ hm;refine lc rfl rfl (Zch call182) (Zme (col:=a4) 5 6 de:) ?_;rintro _ ew ⟨df,ey,ez,e0,e1,rfl,bw,ce,cf⟩;refine ⟨_,rfl,?_⟩;refine Xr (col:=df) #[.bool false,.slice none (([]:List Int).length) 0,.slice none (([]:List Int).length) 0] 7 zeroValue47 ?_;intro cx e2 e3 a7 dg;refine Z5 dg ?_;intro e4 a8 dh ah;refine go ?_;refine Y5 ⟨_,_,rfl⟩ ?_;replace ac:=((ac.gr bw).gr a7).kp a8;refine lW ((ac.atN).nth (q:=4) rfl)<|go ?_;replace ae:=((ae.gr bw).gr a7).kp a8;replace af:=((af.gr bw).gr a7).kp a8;replace ad:=((ad.gr bw).gr a7).kp a8;replace aa:=((aa.grow bw).grow a7).kp a8 dh;replace ce:=(ce.gr a7).kp a8;replace cf:=(cf.gr a7).kp a8;refine Z8 [1,2,4,51,52,9,1000000] (fun n f az=>∃ a0 a9 bx bz b0 ba b1 b2 bb b3,n=b3.length∧ab.2.2.2.2.drop a9=b3∧Zas N ab ak b3 a9 bx ba bb=some r∧St w0 (Zj col) a0 az∧Zk 27 1 a0 az b7 #[.string ab.1,.slice bj ab.2.1.length bf,.slice bk ab.2.2.1.length bg,.slice bm ab.2.2.2.1.length bh,.slice bn ab.2.2.2.2.length bi]∧Zc (Za.int .u32) 79 3 a0 az av aw al∧Zc (Za.int .u32) 79 4 a0 az ax ay am∧Zk 47 2 a0 az b8 #[.bool a6,.slice av al.length aw,.slice ax am.length ay]∧Zc (Za.int .u32) 79 5 a0 az bz b0 ba∧Zc (Za.int .u32) 79 6 a0 az b1 b2 bb∧Zk 47 7 a0 az cx #[.bool bx,.slice bz ba.length b0,.slice b1 bb.length b2]∧[53].map f=[.int .i64 a9]) ab.2.2.2.2.length ⟨_,0,_,_,_,_,_,_,_,_,rfl,rfl,hm,aa,ac,ae,af,ad,ce,cf,ah,rfl⟩ ?_;clear hm;intro n f az hI;obtain ⟨a0,a9,bx,bz,b0,ba,b1,b2,bb,b3,hn,hl,hm,aa,ac,ae,af,ad,ai,aj,ah,hs⟩:=hI;subst hn;refine .lL [53] hs ?_
  cases b3 with
  | nil=>
   have hk:¬ ((a9:Int)<(ab.2.2.2.2.length:Int)):=by have:=List.drop_eq_nil_iff.1 hl;omega
   have hkb:=decide_eq_false hk;rw [Zas.eq_1] at hm;refine go ?_;refine X3 (congrArg Value.bool hkb)<|go ?_;refine lV _ (Xh isAgg47 sizeOf47 ah)<|Z5 ad ?_;intro e5 cg di dj;refine go ?_;cases hm;replace ai:=ai.kp cg;replace aj:=aj.kp cg;replace aa:=aa.kp cg di;exact ⟨rfl,_,Ue dj.atN,_,_,_,_,_,rfl,aa.fin (cm [(5,c1),(6,c2)]),aa.fo ai,aa.fo aj⟩
  | cons cy cz=>
   obtain ⟨an,dk,dl⟩:=Yk hl;have hk:(a9:Int)<(ab.2.2.2.2.length:Int):=by omega
   have hkb:=decide_eq_true hk;rw [Zas.eq_2] at hm;refine go ?_;refine X4 (congrArg Value.bool hkb)<|go ?_;refine lI an ((bo.ks aa).addr an) ?_;obtain ⟨_,dm,dn⟩:=(bo.ks aa).atN an;obtain ⟨⟨dp,dq,rfl,bc⟩,_⟩:=dm;refine lW dn.one<|go ?_;refine Xu ac<|Yd rfl ?_;obtain ⟨b4,ch,hm⟩:=bZ hm;refine lI ch ((bt.ks aa).addr ch) ?_;obtain ⟨_,dr,ds⟩:=(bt.ks aa).atN ch;obtain ⟨⟨dt,du,rfl,a3⟩,_⟩:=dr;refine lW ds.one<|go ?_;refine Z8 [1,10,11,2,4,51,52,53,62,63,9,1000000] (fun n f ao=>∃ ag ci b5 b6,n=b6.length∧b4.drop b5=b6∧Zat N ab ak a9 bx ba bb (Zas N ab ak cz) cy b6 ci=some r∧St w0 (Zj col) ag ao∧Sl (Za.pair (Za.pair Za.bool (Za.slice (Za.int .u32))) (Za.slice (Za.int .u32))) ag ao dp dq cy∧Zk 27 1 ag ao b7 #[.string ab.1,.slice bj ab.2.1.length bf,.slice bk ab.2.2.1.length bg,.slice bm ab.2.2.2.1.length bh,.slice bn ab.2.2.2.2.length bi]∧Zc (Za.int .u32) 79 3 ag ao av aw al∧Zc (Za.int .u32) 79 4 ag ao ax ay am∧Zk 47 2 ag ao b8 #[.bool a6,.slice av al.length aw,.slice ax am.length ay]∧Sl (Za.int .i64) ag ao dt du b4∧Zc (Za.int .u32) 79 5 ag ao bz b0 ba∧Zc (Za.int .u32) 79 6 ag ao b1 b2 bb∧Zk 47 7 ag ao cx #[.bool bx,.slice bz ba.length b0,.slice b1 bb.length b2]∧[64,12].map f=[.int .i64 b5,.int .i64 ci]) b4.length ⟨_,0,0,_,rfl,rfl,hm,aa,bc,ac,ae,af,ad,a3,ai,aj,ah,rfl⟩ ?_;clear hm;intro n f ao hI;obtain ⟨ag,ci,b5,b6,hn,hl,hm,aa,bc,ac,ae,af,ad,a3,ai,aj,ah,hs⟩:=hI;subst hn;refine .lL [64,12] hs ?_
   cases b6 with
   | nil=>
    have hk:¬ ((b5:Int)<(b4.length:Int)):=by have:=List.drop_eq_nil_iff.1 hl;omega
    have hkb:=decide_eq_false hk;rw [Zat.eq_1] at hm;refine go ?_;refine X3 (congrArg Value.bool hkb)<|go ?_;refine Wk (col:=ag) [(0,0),(1,1),(2,1),(3,1),(4,0),(5,1),(6,1),(7,0),(8,1),(9,1),(10,1),(11,1),(12,1),(13,0),(14,1),(15,1),(16,0),(17,3),(18,3),(19,2)] (by kernel_rfl) (by kernel_rfl)<|xv rfl rfl (fun _ hC=>Xh isAgg47 sizeOf47 (ah.gr (hC.bl ag))) ?_;refine xu rfl rfl (fun _=>Vt rfl) ?_;refine xu rfl rfl (fun _=>Yw rfl) ?_;refine xF ⟨_,_,rfl⟩ ?_;refine xW (fun _ hC=>((ac.atN).nth (q:=2) rfl).gr (hC.bl ag)) ?_;refine xu rfl rfl (fun _=>Yw rfl) ?_;obtain ⟨e6,b9,hm⟩:=bZ hm;refine xu rfl rfl (fun _=>Y9 underlying23 sizeOf22 rfl rfl (Xj b9).1 (Xj b9).2.1 ((au.ks aa).addr b9)) ?_;obtain ⟨_,dv,dw⟩:=(au.ks aa).atN b9;obtain ⟨⟨e7,e8,rfl,e9⟩,_⟩:=dv;refine xW (fun _ hC=>dw.one.gr (hC.bl ag)) ?_;refine xu rfl rfl (fun _=>Zcj underlying22 rfl) ?_;refine xu rfl rfl (fun _=>Zd4 _ _ rfl rfl) ?_;refine xu rfl rfl (fun _=>Vt rfl) ?_;refine xu rfl rfl (fun _=>Yw rfl) ?_;obtain ⟨fa,ca,hm⟩:=bZ hm;refine xu rfl rfl (fun _=>Y9 underlying40 sizeOf3 rfl rfl (Xj ca).1 (Xj ca).2.1 ((h1.ks aa).addr ca)) ?_;refine xW (fun _ hC=>((h1.ks aa).gr (hC.bl ag)).atInt ca) ?_;refine xu rfl rfl (fun _=>Qf _ _ rfl rfl) ?_;obtain ⟨cj,cb,hm⟩:=bZ hm;refine xu rfl rfl (fun _=>Y9 underlying56 sizeOf47 rfl rfl (Xj cb).1 (Xj cb).2.1 (bc.addr cb)) ?_;obtain ⟨_,dx,dy⟩:=bc.atN cb;obtain ⟨_,_,rfl,dz,d0⟩:=Uf dx;obtain ⟨_,_,rfl,d1,d2⟩:=Uf dz;obtain ⟨rfl,_⟩:=d1;obtain ⟨⟨d3,d4,rfl,ck⟩,_⟩:=d2;obtain ⟨⟨d5,d6,rfl,cl⟩,_⟩:=d0;refine xv (v:=(.agg #[.bool cj.1.1,.slice d3 cj.1.2.length d4,.slice d5 cj.2.length d6])) rfl rfl (fun _ hC=>Wj isAgg47 sizeOf47 rfl rfl (dy.gr (hC.bl ag))) ?_;refine xe rfl rfl ?_;intro fb hC0;have hC:=hC0.bl ag;obtain ⟨fc,d7,hm⟩:=bZ hm;replace ck:=ck.gr hC;replace cl:=cl.gr hC;refine Zh (Zpn d7 ck cl) ?_;rintro _ fd ⟨bq,fe,ff,fg,fh,rfl,a2,cn,co⟩;refine ⟨_,rfl,?_⟩;refine Zm<|X0 bq hC0 a2<|xe rfl rfl ?_;intro d8 hC0;replace ae:=(ae.gr hC).gr a2;replace af:=(af.gr hC).gr a2;replace ai:=(ai.gr hC).gr a2;replace aj:=(aj.gr hC).gr a2;replace ac:=(ac.gr hC).gr a2;replace ad:=(ad.gr hC).gr a2;replace ah:=(ah.gr hC).gr a2;replace aa:=(aa.grow hC).grow a2
    have hC:=hC0.bl bq;obtain ⟨fi,d9,hm⟩:=bZ hm;replace ai:=ai.gr hC;replace aj:=aj.gr hC;replace cn:=cn.gr hC;replace co:=co.gr hC;refine Zh (Zpi 8 9 d9 ((ai.toSlF (Zg.int .u32)).froz 6) ((aj.froz 5 (by decide)).toSlF (Zg.int .u32)) ((cn.froz 5).froz 6) ((co.froz 5).froz 6)) ?_;rintro _ fj ⟨ea,fk,fl,fm,fn,rfl,ap,aq,ar⟩;refine ⟨_,rfl,?_⟩;replace aq:=aq.thaw (Z0 .u32) ap (((Fz.refl (col:=bq)).froz 5).froz 6) (by decide);replace ar:=ar.thaw (Z0 .u32) ap (((Fz.refl (col:=bq)).froz 5).froz 6) (by decide);replace ap:=ap.thawR (col:=bq);generalize Xc d8.heap.size bq ea=cc at *;refine Zm<|X0 cc hC0 ap<|xe rfl rfl ?_;intro fp hC0;replace ae:=(ae.gr hC).gr ap;replace af:=(af.gr hC).gr ap;replace ac:=(ac.gr hC).gr ap;replace ad:=(ad.gr hC).gr ap;replace ah:=(ah.gr hC).gr ap;replace aa:=(aa.grow hC).grow ap;have hC:=hC0.bl cc;replace ah:=ah.gr hC;refine Z5 ah ?_;intro fq bd eb be;refine Zm<|xk cc<|Y7 ?_;replace ae:=(ae.gr hC).kp bd;replace af:=(af.gr hC).kp bd;replace aq:=(aq.gr hC).kp bd;replace ar:=(ar.gr hC).kp bd;replace ac:=(ac.gr hC).kp bd;replace ad:=(ad.gr hC).kp bd;replace aa:=(aa.grow hC).kp bd eb;intro fr hC;replace hC:=hC.bl cc;refine go ?_;replace ae:=ae.gr hC;replace ae:=ae.recol 8 5 (by decide);replace af:=af.gr hC;replace af:=af.recol 8 5 (by decide);replace aq:=aq.gr hC;replace aq:=aq.recolSelf 5 (by decide);replace ar:=ar.gr hC;replace ar:=ar.recol 8 5 (by decide);replace ac:=ac.gr hC;replace ac:=ac.recol 8 5 (by decide);replace ad:=ad.gr hC;replace ad:=ad.recol 8 5 (by decide);replace be:=be.gr hC;replace be:=be.recol 8 5 (by decide);replace aa:=aa.grow hC;replace aa:=aa.recol 8 5 (by decide) (by decide);replace ae:=ae.recol 9 6 (by decide);replace af:=af.recol 9 6 (by decide);replace aq:=aq.recol 9 6 (by decide);replace ar:=ar.recolSelf 6 (by decide);replace ac:=ac.recol 9 6 (by decide);replace ad:=ad.recol 9 6 (by decide);replace be:=be.recol 9 6 (by decide);replace aa:=aa.recol 9 6 (by decide) (by decide);exact ⟨cz.length,by simp,rfl,⟨_,_,_,_,_,_,_,_,_,_,rfl,dk,hm,aa,ac,ae,af,ad,aq,ar,be,(Yo (congrArg (Value.int .i64) (Yn (Nat.lt_of_lt_of_le dl (bo.ks aa).1.1))) rfl)⟩⟩
   | cons ft ec=>
    obtain ⟨an,ed,ee⟩:=Yk hl;have hk:(b5:Int)<(b4.length:Int):=by omega
    have hkb:=decide_eq_true hk;rw [Zat.eq_2] at hm;refine go ?_;refine X4 (congrArg Value.bool hkb)<|go ?_;refine lI an (a3.addr an)<|lW (a3.atInt an) ?_;refine go ?_;refine Tq (col:=ag) (by kernel_rfl) (by kernel_rfl)<|go ?_;refine qF ⟨_,_,rfl⟩ ?_;refine qW (fun _ hC=>((ac.atN).nth (q:=2) rfl).gr (hC.bl ag)) ?_;refine go ?_;obtain ⟨fu,cp,hm⟩:=bZ hm;refine qI cp ((au.ks aa).addr cp) ?_;obtain ⟨_,ef,eg⟩:=(au.ks aa).atN cp;obtain ⟨⟨fv,fw,rfl,fx⟩,_⟩:=ef;refine qW (fun _ hC=>eg.one.gr (hC.bl ag)) ?_;refine go ?_;obtain ⟨fy,cq,hm⟩:=bZ hm;refine qI cq ((h1.ks aa).addr cq)<|qW (fun _ hC=>((h1.ks aa).gr (hC.bl ag)).atInt cq) ?_;refine go ?_;refine Vh ?_;intro fz hC;replace hC:=hC.bl ag;refine go ?_;replace bc:=bc.gr hC;replace ae:=ae.gr hC;replace af:=af.gr hC;replace a3:=a3.gr hC;replace ai:=ai.gr hC;replace aj:=aj.gr hC;replace ac:=ac.gr hC;replace ad:=ad.gr hC;replace ah:=ah.gr hC;replace aa:=aa.grow hC;exact ⟨ec.length,by simp,rfl,⟨_,_,_,_,rfl,ed,hm,aa,bc,ac,ae,af,ad,a3,ai,aj,ah,(Yo (congrArg (Value.int .i64) (Yn (Nat.lt_of_lt_of_le ee a3.1.1))) rfl)⟩⟩
 | cons eh c0=>
  obtain ⟨an,ei,ej⟩:=Yk hl;have hk:(a5:Int)<(ak.length:Int):=by omega
  have hkb:=decide_eq_true hk;rw [S7.eq_2] at hm;refine go ?_;refine X4 (congrArg Value.bool hkb)<|go ?_;refine lI an ((h1.ks aa).addr an)<|lW ((h1.ks aa).atInt an)<|Yr rfl<|Yr rfl<|Zm<|Zw ?_;refine Wp.cutK [1,2,28,29,30,4,1000000] (fun f br=>∃ bs cr,Zfg a5 a6 al am (S7 N ab ak c0) cr=some r∧St w0 (Zj col) bs br∧Zk 27 1 bs br b7 #[.string ab.1,.slice bj ab.2.1.length bf,.slice bk ab.2.2.1.length bg,.slice bm ab.2.2.2.1.length bh,.slice bn ab.2.2.2.2.length bi]∧Zc (Za.int .u32) 79 3 bs br av aw al∧Zc (Za.int .u32) 79 4 bs br ax ay am∧Zk 47 2 bs br b8 #[.bool a6,.slice av al.length aw,.slice ax am.length ay]∧[46].map f=[.bool cr]) ?_ ?_
  ·intro f br hJ;obtain ⟨bs,cr,hm,aa,ac,ae,af,ad,hs⟩:=hJ;rw [Zfg.eq_1] at hm;refine .lL [46] hs ?_;refine Zr hm (fun hb hm=>go ?_) fun hb hm=>go ?_
   ·refine lV (.agg #[.bool false,.slice none (([]:List Int).length) 0,.slice none (([]:List Int).length) 0]) (Wg (l:=[_,_]) (qs:=[(0,2),(2,1)]) underlying47 zeroValue47 ⟨rfl,sizeOf45,rfl,sizeOf43,trivial⟩ rfl)<|Z5 ad ?_;intro f0 ek el em;refine go ?_;cases hm;replace aa:=aa.kp ek el;exact ⟨rfl,_,Ue em.atN,_,none,0,none,0,rfl,aa.fin (cm []),Zc.nil,Zc.nil⟩
   exact ⟨c0.length,by simp,rfl,⟨_,_,_,_,_,_,_,_,_,_,rfl,ei,hm,aa,ac,ae,af,ad,(Yo (congrArg (Value.int .i64) (Yn (Nat.lt_of_lt_of_le ej (h1.ks aa).1.1))) rfl)⟩⟩
  refine go ?_;refine X1 hm (fun cs hm=>go ?_) fun cs hm=>go ?_
  ·refine lV (.bool true) (Xs (congrArg Value.bool cs) rfl)<|Zm ?_;exact ⟨rfl,_,_,hm,aa,ac,ae,af,ad,rfl⟩
  refine Y5 ⟨_,_,rfl⟩ ?_;refine go ?_;refine lW ((ac.atN).nth (q:=2) rfl)<|go ?_;obtain ⟨en,ct,hm⟩:=bZ hm;refine lI ct ((au.ks aa).addr ct) ?_;refine go ?_;obtain ⟨_,eo,ep⟩:=(au.ks aa).atN ct;obtain ⟨⟨f1,f2,rfl,f3⟩,_⟩:=eo;refine lW ep.one<|go ?_;refine lV (.bool (decide ((en.length:Int)≤eh))) (Xl (congrArg Value.bool cs) rfl)<|Zm ?_;exact ⟨rfl,_,_,hm,aa,ac,ae,af,ad,rfl⟩
def ent (n:Zy) (w:List Int) (v:Nat):Rat:=Xn ((Vk n w v).getD (w.getD v 0).toNat ((false,[]),[]))
def V0 (n:Zy) (w:List Int):Nat→Nat→Rat→Rat
 | 0,_,q=>q
 | m+1,k,q=>V0 n w m (k+1) (q * ent n w k)
section
variable {N:Nat} {n:Zy} (hf:Ya N n) {w:List Int} (hw:V6 n w)
include hf hw
variable {W K:Nat} (hs:Ws n W) (hr:Xm N (8 * K+40)) (hWK:1025 * (W+2)+4≤K)
include hs hr hWK
omit hr hWK in
theorem Zzj {k:Nat} (hk:k<n.2.1.length):qs (ent n w k)≤W+1:=by
 have hwv:=hw.ok k (by rw [hw.len];exact hk)
 have hq:(w.getD k 0).toNat<(Vk n w k).length:=by rw [hf.rowT_len hw hk];omega
 rw [ent,Yu hq]
 obtain ⟨h1,h2⟩:=Zm2 hf hs hk _ (Zk8 (List.getElem_mem hq))
 have:=Zt3 h1
 omega
omit hs hr hWK in
theorem Zp5 {k:Nat} (hk:k<n.2.1.length) (a:Bool) (b c:List Int) (kk:Nat→Bool→List Int→List Int→Option (QV×Int)) (t:List QV):∀ (ps:List Int) (r kb:Nat),(∀ q ∈ ps,0≤q∧q<(n.2.1.length:Int))→r<kb→kb≤65536→Wa n.2.2.1 ps kb≤65536→
  Zat N n w k a b c kk t ps (r:Int)=Zat N n w k a b c kk t [] (Za9 n w ps r:Int)
 | [],r,kb,_,_,_,_=>rfl
 | p :: ps,r,kb,hp,h1,h2,h3=>by
  obtain ⟨g1,g2,g3⟩:=Zu6 hf.ev hw hp h1 h2 h3
  have hpp:=hp p List.mem_cons_self
  have hwp:=hw.ok p.toNat (by rw [hw.len];omega)
  have g4:r * cnt n p.toNat≤kb * cnt n p.toNat:=Nat.mul_le_mul_right _ (by omega)
  have q1:Zq n.2.2.1 p=some (n.2.2.1.getD p.toNat []):=by
   have:=Um (l:=n.2.2.1) [] (j:=p.toNat) (by rw [hf.ev.v];omega)
   rwa [show ((p.toNat:Nat):Int)=p by omega] at this
  have q2:Zq w p=some (w.getD p.toNat 0):=by
   have:=Um (l:=w) 0 (j:=p.toNat) (by rw [hw.len];omega)
   rwa [show ((p.toNat:Nat):Int)=p by omega] at this
  have e1:i64.wrap ((r:Int) * ((n.2.2.1.getD p.toNat []).length:Int))=((r * cnt n p.toNat:Nat):Int):=by
   rw [show ((n.2.2.1.getD p.toNat []).length:Int)=((cnt n p.toNat:Nat):Int) from rfl,← Int.natCast_mul]
   exact Z2 (by omega)
  have e2:i64.wrap (((r * cnt n p.toNat:Nat):Int)+w.getD p.toNat 0)=((r * cnt n p.toNat+(w.getD p.toNat 0).toNat:Nat):Int):=by
   rw [Int.natCast_add,show (((w.getD p.toNat 0).toNat:Nat):Int)=w.getD p.toNat 0 by omega]
   exact Z2 (by omega)
  rw [Zat.eq_2,q1,oB,q2,oB,e1,e2]
  exact Zp5 hk a b c kk t ps _ _ (fun q hq=>hp q (List.mem_cons_of_mem _ hq)) g1 g2 g3
theorem Zp4:∀ (l:List (List QV)) (k:Nat) (q:Rat),n.2.2.2.2.drop k=l→k≤n.2.1.length→qs q≤k * (W+1)+1→Zas N n w l k (Zp q).1.1 (Zp q).1.2 (Zp q).2=some (Zp (V0 n w l.length k q),0)
 | [],k,q,_,_,_=>rfl
 | t :: l,k,q,hd,hk,hq=>by
  have ht:=hf.ev.t
  have hle:=hf.le
  have hk1:k<n.2.2.2.2.length:=by
   rcases Nat.lt_or_ge k n.2.2.2.2.length with h | h
   ·exact h
   ·rw [List.drop_eq_nil_of_le h] at hd;cases hd
  have hv:k<n.2.1.length:=by omega
  rw [List.drop_eq_getElem_cons hk1] at hd
  obtain ⟨e1,e2⟩:=List.cons.inj hd
  have htd:n.2.2.2.2.getD k []=t:=by rw [Yu hk1];exact e1
  have hrows:=hf.rows hv
  have hrow:=hf.row hw hv
  have hwk:=hw.ok k (by rw [hw.len];exact hv)
  have h2:=Zp5 hf hw hv (Zp q).1.1 (Zp q).1.2 (Zp q).2 (Zas N n w l) t (n.2.2.2.1.getD k []) 0 1 (hf.pars hv) (by omega) (by omega) hrows.2.2
  rw [show ((0:Nat):Int)=0 from rfl] at h2
  have hj:(w.getD k 0).toNat<(Vk n w k).length:=by rw [hf.rowT_len hw hv];omega
  have e3:i64.wrap ((Uv n w k:Int) * ((n.2.2.1.getD k []).length:Int))=((Uv n w k * cnt n k:Nat):Int):=by
   rw [show ((n.2.2.1.getD k []).length:Int)=((cnt n k:Nat):Int) from rfl,← Int.natCast_mul]
   exact Z2 (by omega)
  have e4:i64.wrap (((Uv n w k * cnt n k:Nat):Int)+w.getD k 0)=((Uv n w k * cnt n k+(w.getD k 0).toNat:Nat):Int):=by
   rw [Int.natCast_add,show (((w.getD k 0).toNat:Nat):Int)=w.getD k 0 by omega]
   exact Z2 (by omega)
  have hat:Zq t ((Uv n w k * cnt n k+(w.getD k 0).toNat:Nat):Int)=some (Vk n w k)[(w.getD k 0).toNat]:=by
   rw [← htd];exact Z2i hj
  obtain ⟨y,hy⟩:∃ y,y=(Vk n w k)[(w.getD k 0).toNat]:=⟨_,rfl⟩
  obtain ⟨y1,y2⟩:=Zm2 hf hs hv y (Zk8 (hy ▸ List.getElem_mem hj))
  have he:ent n w k=Xn y:=by rw [ent,Yu hj,hy]
  have hmul:k * (W+1)≤1024 * (W+1):=Nat.mul_le_mul_right _ (by omega)
  have hfit:Vc (Wn y):=by
   rw [Wn];split
   ·exact ⟨y1.1,by simp [Zn]⟩
   ·exact y1
  have hfk:RV (W+1) (Wn y):=by
   refine ⟨hfit.1,hfit.2,?_,?_⟩
   ·rw [Wn];split
    ·simp only;omega
    ·omega
   ·rw [Wn];split
    ·simp
    ·omega
  have f1:Zby N ((y.1.1,y.1.2),y.2)=some (Wn y):=Zq1 y1 y2 (hr.mono (by omega))
  have m1:Zbp N (((Zp q).1.1,(Zp q).1.2),(Zp q).2) (((Wn y).1.1,(Wn y).1.2),(Wn y).2)=some (Zp (q * ent n w k)):=by
   have:=Zq5 (W5 hq) hfk (hr.mono (by omega))
   rwa [Wx,Zm4,← he] at this
  have hqs:=Zt1 q (ent n w k)
  have hqe:=Zzj hf hw hs hv
  have ih:=Zp4 l (k+1) (q * ent n w k) e2 (by omega) (by rw [Nat.add_mul,Nat.one_mul];omega)
  rw [Zas.eq_2,Um [] (by rw [hf.ev.p];exact hv),oB,h2,← Uv,Zat.eq_1,Um [] (by rw [hf.ev.v];exact hv),oB,Um 0 (by rw [hw.len];exact hv),oB,e3,e4,hat,← hy,oB,f1,oB,m1,oB,nC,V0]
  exact ih
end
theorem Zp3 {N:Nat} {n:Zy} (he:Tr n) (hl:n.2.1.length≤1048576) (w:List Int) (hw:w.length=n.2.1.length):∀ (l:List Int) (k:Nat) (b:Bool) (l1 l2:List Int),w.drop k=l→k≤w.length→S7 N n w l k b l1 l2=if T3 n l k=true then S7 N n w [] w.length b l1 l2 else some (((false,([]:List Int)),([]:List Int)),3)
 | [],k,b,l1,l2,hd,h1=>by
  have:=List.drop_eq_nil_iff.1 hd
  rw [T3,if_pos rfl,show k=w.length by omega]
 | x :: l,k,b,l1,l2,hd,h1=>by
  have hk:k<w.length:=by
   rcases Nat.lt_or_ge k w.length with h | h
   ·exact h
   ·rw [List.drop_eq_nil_of_le h] at hd;cases hd
  rw [List.drop_eq_getElem_cons hk] at hd
  obtain ⟨e1,e2⟩:=List.cons.inj hd
  rw [S7.eq_2,T3]
  by_cases hx:x<0
  ·rw [if_pos (dT hx),Zfg,if_pos rfl,decide_eq_true hx];rfl
  ·rw [if_neg (dF hx),Um [] (by rw [he.v];omega),oB,Zfg,decide_eq_false hx]
   by_cases hc:(cnt n k:Int)≤x
   ·rw [show ((n.2.2.1.getD k []).length:Int)=(cnt n k:Int) from rfl,decide_eq_true hc,if_pos rfl];rfl
   ·rw [show ((n.2.2.1.getD k []).length:Int)=(cnt n k:Int) from rfl,decide_eq_false hc,if_neg (by decide),Zp3 he hl w hw l (k+1) b l1 l2 e2 (by omega)];rfl
theorem Zyj {N W K:Nat} {n:Zy} (hf:Ya N n) (hs:Ws n W) (hr:Xm N (8 * K+40)) (hWK:1025 * (W+2)+4≤K) (hN:2000000<N) (hC:U2 N n=some 0) (w:List Int):
  ∃ p e,Zff N n w=some (p,e)∧((e≠0∧(decide (w.length=n.2.1.length)&&T3 n w 0)=false)∨(e=0∧V6 n w∧p=Zp (V0 n w n.2.1.length 0 1))):=by
 have hC':U2 N (n.1,n.2.1,n.2.2.1,n.2.2.2.1,n.2.2.2.2)=some 0:=hC
 have hle:=hf.le
 rw [Zff,hC',oB,if_neg (by decide)]
 by_cases hlen:w.length=n.2.1.length
 ·rw [if_neg (show ¬ (!decide ((w.length:Int)=(n.2.1.length:Int)))=true by rw [decide_eq_true (by omega)];decide),Zp3 hf.ev (by omega) w hlen w 0 false [] [] rfl (Nat.zero_le _)]
  cases hin:T3 n w 0 with
  | false=>rw [if_neg (show ¬ false=true by decide)];exact ⟨_,3,rfl,.inl ⟨by decide,by simp⟩⟩
  | true=>
   have hw:=Zz1 hlen hin
   have h2:=Zp4 hf hw hs hr hWK n.2.2.2.2 0 1 rfl (Nat.zero_le _) (by rw [Zob];omega)
   rw [if_pos rfl,S7.eq_1,Znr (hr.mono (by omega)),oB,h2,hf.ev.t]
   exact ⟨_,0,rfl,.inr ⟨rfl,hw,rfl⟩⟩
 ·rw [if_pos (show (!decide ((w.length:Int)=(n.2.1.length:Int)))=true by rw [decide_eq_false (by omega)];rfl)]
  exact ⟨_,60,rfl,.inl ⟨by decide,by rw [decide_eq_false hlen];rfl⟩⟩
def Zbx:List R5→R2→Option R2
  | [],aa=>some aa
  | ab :: ac,aa=>Zz ((aa.length+[(ab.length:Int)].length) * 8≤140737488355328∧aa.length+[(ab.length:Int)].length≤maxLen) ((Zbx ac) (aa++[(ab.length:Int)]))
termination_by structural x=>x
def Zdc (aa:R0):Option R2:=
  Zbx aa.2.2.1 ([]:List Int)
theorem Zw8 {am an ao ap:Nat} {aq ar au av:Option Addr} {col:Zd} {w0:World} {aa:R0} {r:R2} (c1:Nat) (hm:Zdc aa=some r) (a9:Sl Za.str col w0 aq am aa.2.1) (ac:Sl (Za.slice Za.str) col w0 ar an aa.2.2.1) (ba:Sl (Za.slice (Za.int .i64)) col w0 au ao aa.2.2.2.1) (bb:Sl (Za.slice (Za.pair (Za.pair Za.bool (Za.slice (Za.int .u32))) (Za.slice (Za.int .u32)))) col w0 av ap aa.2.2.2.2):
    Calls prog 237 #[(.agg #[.string aa.1,.slice aq aa.2.1.length am,.slice ar aa.2.2.1.length an,.slice au aa.2.2.2.1.length ao,.slice av aa.2.2.2.2.length ap])] w0 (fun e w'=>∃ (col':Zd) (ra1:Option Addr) (rc2:Nat),e= .returned ((.slice ra1 r.length rc2))∧Zi col w0 col' w'∧Zc (Za.int .i64) 3 c1 col' w' ra1 rc2 r):=by
 refine Xk 2 (m:=20) func237 rfl rfl rfl rfl rfl ?_;rw [Zdc.eq_1] at hm;have ab:=St.start col w0;refine go ?_;refine Ye (col:=(Zj col)) 1 rfl ?_;intro bc bd be ax ay;refine go ?_;refine Xu ay ?_;refine go ?_;replace ab:=ab.grow ax;refine Z8 [7,8,1000000] (fun n f ai=>∃ af aj ak ag ad ae,n=ae.length∧aa.2.2.1.drop ad=ae∧Zbx ae ag=some r∧St w0 (Zj col) af ai∧Zc (Za.int .i64) 3 2 af ai aj ak ag∧[9,3].map f=[.int .i64 ad,.slice aj ag.length ak]) aa.2.2.1.length ⟨_,none,0,_,0,_,rfl,rfl,hm,ab,Zc.nil,rfl⟩ ?_;clear hm;intro n f ai hI;obtain ⟨af,aj,ak,ag,ad,ae,hn,hl,hm,ab,ah,hs⟩:=hI;subst hn;refine .lL [9,3] hs ?_;replace ac:=ac.keep (Zl.start col w0)
 cases ae with
 | nil=>
  have hk:¬ ((ad:Int)<(aa.2.2.1.length:Int)):=by have:=List.drop_eq_nil_iff.1 hl;omega
  have hkb:=decide_eq_false hk;rw [Zbx.eq_1] at hm;refine go ?_;refine X3 (congrArg Value.bool hkb)<|go ?_;cases hm;exact ⟨rfl,_,_,_,rfl,ab.fin (cm [(2,c1)]),ab.fo ah⟩
 | cons az a0=>
  obtain ⟨al,a1,a2⟩:=Yk hl;have hk:(ad:Int)<(aa.2.2.1.length:Int):=by omega
  have hkb:=decide_eq_true hk;rw [Zbx.eq_2] at hm;refine go ?_;refine X4 (congrArg Value.bool hkb)<|go ?_;refine lI al ((ac.ks ab).addr al) ?_;obtain ⟨_,a3,a4⟩:=(ac.ks ab).atN al;obtain ⟨⟨bf,bg,rfl,bh⟩,_⟩:=a3;refine lW a4.one<|go ?_;refine Vr (col:=af) [(az.length:Int)] 3 ?_;intro bi bj bk aw a5;obtain ⟨a6,hm⟩:=Z3 hm;replace ah:=ah.gr aw;refine Vq ah (a5.srcN (NB.int (k:=.i64))) a6 ?_;intro bm bn bo bp a7 a8;refine go ?_;replace ab:=(ab.grow aw).kpp a7;exact ⟨a0.length,by simp,rfl,⟨_,_,_,_,_,_,rfl,a1,hm,ab,a8,(Yo (congrArg (Value.int .i64) (Yn (Nat.lt_of_lt_of_le a2 (ac.ks ab).1.1))) rfl)⟩⟩
theorem Zy4:Y4 prog 3 1 8:=⟨Tryz.t3,_,rfl,rfl,rfl,rfl,rfl⟩
def Zbt (aa:List Int) (ab:Bool):Option Rc:=
  if ab=true then (some (([]:List Int),4)) else (some (aa,0))
def S6 (aa:List Int):List Int→(List Bool)→Option Rc
  | [],ab=>(Q5 aa).bind fun ac=>if (!decide (ac.2=0))=true then (Zbt aa true) else (Zbt aa (decide (65536<ac.1)))
  | ad :: ae,ab=>(Zq ab ad).bind fun af=>if af=true then (some (([]:List Int),40)) else ((some (ab.set (Int.toNat ad) true)).bind fun ag=>(S6 aa ae) ag)
termination_by structural x=>x
def Zao (ab:List Int):List R3→R2→Option Rc
  | [],aa=>S6 ab aa (List.replicate ab.length (false:Bool))
  | ac :: ad,aa=>Zz ((0:Int)≤0∧0≤(aa.length:Int)∧(aa.length:Int)≤(aa.length:Int)∧(aa.length:Int)≤(aa.length:Int)) (Zz (((aa.take (Int.toNat (aa.length:Int))).length+[ac.1].length) * 8≤140737488355328∧(aa.take (Int.toNat (aa.length:Int))).length+[ac.1].length≤maxLen) ((Zao ab ad) ((aa.take (Int.toNat (aa.length:Int)))++[ac.1])))
termination_by structural x=>x
def Ze5 (kk_L2:(Option Rc)) (aa:Bool):Option Rc:=
  if aa=true then (some (([]:List Int),3)) else kk_L2
def T9 (ab:R9) (ac:List Int) (aa:List Int):List Int→Option Rc
  | []=>Zz (aa.length * 1≤281474976710656∧aa.length≤maxLen) (Zao aa ab ac)
  | ad :: ae=>if (decide (ad<0))=true then (Ze5 (T9 ab ac aa ae) true) else (Ze5 (T9 ab ac aa ae) (decide ((aa.length:Int)≤ad)))
termination_by structural x=>x
def Qw (kk_L1:(Option Rc)) (aa:Bool):Option Rc:=
  if aa=true then (some (([]:List Int),3)) else kk_L1
def Tj (ac:R9) (ab:List Int) (aa:List Int):List R3→Option Rc
  | []=>T9 ac ab aa ab
  | ad :: ae=>if (decide (ad.1<0))=true then (Qw (Tj ac ab aa ae) true) else (if (decide ((aa.length:Int)≤ad.1))=true then (Qw (Tj ac ab aa ae) true) else (if (decide (ad.2<0))=true then (Qw (Tj ac ab aa ae) true) else ((Zq aa ad.1).bind fun af=>Qw (Tj ac ab aa ae) (decide (af≤ad.2)))))
termination_by structural x=>x
def Up (N:Nat) (aa:R0) (ab:R9) (ad:List Int):Option Rc:=
  (U2 N (aa.1,aa.2.1,aa.2.2.1,aa.2.2.2.1,aa.2.2.2.2)).bind fun ac=>if (!decide (ac=0))=true then (some (([]:List Int),ac)) else ((Zdc (aa.1,aa.2.1,aa.2.2.1,aa.2.2.2.1,aa.2.2.2.2)).bind fun ae=>Tj ab ad ae ab)
theorem Zjl {N bx bz b0 b1 b2 b3:Nat} {b4 b5 b6 b7 a1 a2:Option Addr} {col:Zd} {w0:World} {af:R0} {ae:R9} {ah:R2} {r:Rc} (c1:Nat) (hm:Up N af ae ah=some r) (bf:Sl Za.str col w0 b4 bx af.2.1) (bg:Sl (Za.slice Za.str) col w0 b5 bz af.2.2.1) (bh:Sl (Za.slice (Za.int .i64)) col w0 b6 b0 af.2.2.2.1) (bi:Sl (Za.slice (Za.pair (Za.pair Za.bool (Za.slice (Za.int .u32))) (Za.slice (Za.int .u32)))) col w0 b7 b1 af.2.2.2.2) (h1:Sl (Za.pair (Za.int .i64) (Za.int .i64)) col w0 a1 b2 ae) (h2:Sl (Za.int .i64) col w0 a2 b3 ah):
    Calls prog 138 #[(.agg #[.string af.1,.slice b4 af.2.1.length bx,.slice b5 af.2.2.1.length bz,.slice b6 af.2.2.2.1.length b0,.slice b7 af.2.2.2.2.length b1]),.slice a1 ae.length b2,.slice a2 ah.length b3] w0 (fun e w'=>∃ (col':Zd) (ra1:Option Addr) (rc2:Nat),e= .returned (.tuple #[.slice ra1 r.1.length rc2,.int .i64 r.2])∧Zi col w0 col' w'∧Zc (Za.int .i64) 3 c1 col' w' ra1 rc2 r.1):=by
 refine Zep 6 7 (m:=121) (args:=[(.agg #[.string af.1,.slice b4 af.2.1.length bx,.slice b5 af.2.2.1.length bz,.slice b6 af.2.2.2.1.length b0,.slice b7 af.2.2.2.2.length b1]),.slice a1 ae.length b2,.slice a2 ah.length b3]) func138 rfl rfl rfl rfl rfl ?_;rw [Up.eq_1] at hm;have aa:=St.start col w0;refine go ?_;refine Ye (col:=(Zj col)) 1 rfl ?_;intro d9 c6 cu c7 bj;refine go ?_;refine lV _ (Xh isAgg27 sizeOf27 bj) ?_;obtain ⟨ea,c8,hm⟩:=bZ hm;replace bf:=bf.keep (Zl.start col w0);replace bg:=bg.keep (Zl.start col w0);replace bh:=bh.keep (Zl.start col w0);replace bi:=bi.keep (Zl.start col w0);replace aa:=aa.grow c7;refine Zh (Zmd c8 (bf.ks aa) (bg.ks aa) (bh.ks aa) (bi.ks aa)) ?_;rintro _ c9 ⟨rfl,bk⟩;refine ⟨_,rfl,?_⟩;replace bk:Zi cu c6 cu c9:=.of_below bk;refine go ?_;replace h1:=h1.keep (Zl.start col w0);replace h2:=h2.keep (Zl.start col w0);replace bj:=bj.gr bk;replace aa:=aa.grow bk;refine Zr hm (fun hb hm=>go ?_) fun hb hm=>go ?_
 ·cases hm;exact ⟨rfl,_,none,0,rfl,aa.fin (cm []),Zc.nil⟩
 refine lV _ (Xh isAgg27 sizeOf27 bj) ?_;obtain ⟨ad,da,hm⟩:=bZ hm;refine Zh (Zw8 2 da (bf.ks aa) (bg.ks aa) (bh.ks aa) (bi.ks aa)) ?_;rintro _ eb ⟨ec,al,am,rfl,db,ab⟩;refine ⟨_,rfl,go ?_⟩;replace aa:=aa.grow db;refine Z8 [1,2,28,29,9,1000000] (fun n f b8=>∃ bm aw ax,n=ax.length∧ae.drop aw=ax∧Tj ae ah ad ax=some r∧St w0 (Zj col) bm b8∧Zc (Za.int .i64) 3 2 bm b8 al am ad∧[30].map f=[.int .i64 aw]) ae.length ⟨_,0,_,rfl,rfl,hm,aa,ab,rfl⟩ ?_;clear hm;intro n f b8 hI;obtain ⟨bm,aw,ax,hn,hl,hm,aa,ab,hs⟩:=hI;subst hn;refine .lL [30] hs ?_
 cases ax with
 | nil=>
  have hk:¬ ((aw:Int)<(ae.length:Int)):=by have:=List.drop_eq_nil_iff.1 hl;omega
  have hkb:=decide_eq_false hk;rw [Tj.eq_1] at hm;refine go ?_;refine X3 (congrArg Value.bool hkb)<|go ?_;refine Z8 [1,2,60,61,9,1000000] (fun n f bn=>∃ bo ay az,n=az.length∧ah.drop ay=az∧T9 ae ah ad az=some r∧St w0 (Zj col) bo bn∧Zc (Za.int .i64) 3 2 bo bn al am ad∧[62].map f=[.int .i64 ay]) ah.length ⟨_,0,_,rfl,rfl,hm,aa,ab,rfl⟩ ?_;clear hm;intro n f bn hI;obtain ⟨bo,ay,az,hn,hl,hm,aa,ab,hs⟩:=hI;subst hn;refine .lL [62] hs ?_
  cases az with
  | nil=>
   have hk:¬ ((ay:Int)<(ah.length:Int)):=by have:=List.drop_eq_nil_iff.1 hl;omega
   have hkb:=decide_eq_false hk;rw [T9.eq_1] at hm;refine go ?_;refine X3 (congrArg Value.bool hkb)<|go ?_;obtain ⟨cv,hm⟩:=Z3 hm;refine Qo (col:=bo) (w:=bn) (r:=Za.bool) (n:=ad.length) (x0:=false) 3 rfl underlying225 Tryz.t4 rfl rfl rfl rfl rfl rfl rfl cv.1 cv.2 (Sp false) ?_;intro dc ed ee cw ai;refine go ?_;replace ab:=ab.gr cw;replace aa:=aa.grow cw;refine Z8 [14,78,79,9,1000000] (fun n f a0=>∃ ap an bp ac a3 a4,n=a4.length∧ae.drop a3=a4∧Zao ad a4 ac=some r∧St w0 (Zj col) ap a0∧Zc Za.bool 4 3 ap a0 dc ad.length (List.replicate ad.length (false:Bool))∧Sl (Za.int .i64) ap a0 an bp ac∧Zc (Za.int .i64) 3 2 ap a0 al am ad∧[80,2].map f=[.int .i64 a3,.slice an ac.length bp]) ae.length ⟨_,_,_,_,0,_,rfl,rfl,hm,aa,ai,(h2.ks aa),ab,rfl⟩ ?_;clear hm;intro n f a0 hI;obtain ⟨ap,an,bp,ac,a3,a4,hn,hl,hm,aa,ai,aj,ab,hs⟩:=hI;subst hn;refine .lL [80,2] hs ?_
   cases a4 with
   | nil=>
    have hk:¬ ((a3:Int)<(ae.length:Int)):=by have:=List.drop_eq_nil_iff.1 hl;omega
    have hkb:=decide_eq_false hk;rw [Zao.eq_1] at hm;refine go ?_;refine X3 (congrArg Value.bool hkb)<|go ?_;refine Z8 [9,95,96,1000000] (fun n f aq=>∃ ao a5 a6 ar a7 a8,n=a8.length∧ac.drop a7=a8∧S6 ad a8 ar=some r∧St w0 (Zj col) ao aq∧Zc Za.bool 4 3 ao aq a5 a6 ar∧Zc (Za.int .i64) 3 2 ao aq al am ad∧Sl (Za.int .i64) ao aq an bp ac∧[97,14].map f=[.int .i64 a7,.slice a5 ar.length a6]) ac.length ⟨_,_,_,_,0,_,rfl,rfl,hm,aa,ai,ab,aj,rfl⟩ ?_;clear hm;intro n f aq hI;obtain ⟨ao,a5,a6,ar,a7,a8,hn,hl,hm,aa,bq,ab,aj,hs⟩:=hI;subst hn;refine .lL [97,14] hs ?_
    cases a8 with
    | nil=>
     have hk:¬ ((a7:Int)<(ac.length:Int)):=by have:=List.drop_eq_nil_iff.1 hl;omega
     have hkb:=decide_eq_false hk;rw [S6.eq_1] at hm;refine go ?_;refine X3 (congrArg Value.bool hkb)<|go ?_;obtain ⟨a9,dd,hm⟩:=bZ hm;refine Zh (Zjp dd (ab.toSlF (Zg.int .i64))) ?_;rintro _ de ⟨rfl,br⟩;refine ⟨_,rfl,?_⟩;replace br:Zi ao aq ao de:=.of_below br;refine lM (.tuple #[.int .i64 a9.1,.int .i64 a9.2])<|lV (.int .i64 a9.1) (Xe rfl rfl)<|lV (.int .i64 a9.2) (Xe rfl rfl)<|Yr rfl<|Yr rfl<|Zm<|Zw ?_;replace ab:=ab.gr br;replace aa:=aa.grow br;refine Wp.cutK [9,1000000] (fun f b9=>∃ ca cb,Zbt ad cb=some r∧St w0 (Zj col) ca b9∧Zc (Za.int .i64) 3 2 ca b9 al am ad∧[119].map f=[.bool cb]) ?_ ?_
     ·intro f b9 hJ;obtain ⟨ca,cb,hm,aa,ab,hs⟩:=hJ;rw [Zbt.eq_1] at hm;refine .lL [119] hs ?_;refine Zr hm (fun hb hm=>go ?_) fun hb hm=>go ?_
      ·cases hm;exact ⟨rfl,_,none,0,rfl,aa.fin (cm []),Zc.nil⟩
      cases hm;exact ⟨rfl,_,_,_,rfl,aa.fin (cm [(2,c1)]),aa.fo ab⟩
     refine go ?_;refine X1 hm (fun cc hm=>go ?_) fun cc hm=>go ?_
     ·refine lV (.bool true) (Xs (congrArg Value.bool cc) rfl)<|Zm ?_;exact ⟨rfl,_,_,hm,aa,ab,rfl⟩
     refine lV (.bool (decide (65536<a9.1))) (Xl (congrArg Value.bool cc) rfl)<|Zm ?_;exact ⟨rfl,_,_,hm,aa,ab,rfl⟩
    | cons df dg=>
     obtain ⟨ag,dh,di⟩:=Yk hl;have hk:(a7:Int)<(ac.length:Int):=by omega
     have hkb:=decide_eq_true hk;rw [S6.eq_2] at hm;refine go ?_;refine X4 (congrArg Value.bool hkb)<|go ?_;refine lI ag (aj.addr ag)<|lW (aj.atInt ag) ?_;refine go ?_;obtain ⟨ef,au,hm⟩:=bZ hm;refine lI au (bq.addr au)<|lW (bq.atBool au)<|Zm ?_;refine Zr hm (fun hb hm=>go ?_) fun hb hm=>go ?_
     ·cases hm;exact ⟨rfl,_,none,0,rfl,aa.fin (cm []),Zc.nil⟩
     refine lI au (bq.addr au) ?_;obtain ⟨cd,bs,hm⟩:=bZ hm;have bs:cd=ar.set (Int.toNat df) true:=(Option.some.inj bs).symm;refine Zrt (x1:=true) (v:=(.bool true)) bq au rfl sizeOf4 (Sp true) rfl rfl (by decide) ?_;intro eg ce dj cx;rw [← bs] at cx;refine .ld (d:=14) (v:=(.slice a5 cd.length a6)) (congrArg (fun n=>Value.slice a5 n a6) (show ar.length=cd.length by rw [bs,nS])) ?_;refine go ?_;replace ab:=ab.kp ce;replace aj:=aj.kp ce;replace aa:=aa.kp ce dj;exact ⟨dg.length,by simp,rfl,⟨_,_,_,_,_,_,rfl,dh,hm,aa,cx,ab,aj,(Yo (congrArg (Value.int .i64) (Yn (Nat.lt_of_lt_of_le di aj.1.1))) rfl)⟩⟩
   | cons bt dk=>
    obtain ⟨ag,dl,dm⟩:=Yk hl;have hk:(a3:Int)<(ae.length:Int):=by omega
    have hkb:=decide_eq_true hk;rw [Zao.eq_2] at hm;refine go ?_;refine X4 (congrArg Value.bool hkb)<|go ?_;refine lI ag ((h1.ks aa).addr ag) ?_;obtain ⟨_,dn,dp⟩:=(h1.ks aa).atN ag;obtain ⟨_,_,rfl,dq,dr⟩:=Uf dn;obtain ⟨rfl,_⟩:=dq;obtain ⟨rfl,_⟩:=dr;refine lV (.agg #[.int .i64 bt.1,.int .i64 bt.2]) (Wj isAgg97 sizeOf97 rfl rfl dp)<|Xr (col:=ap) #[.int .i64 0,.int .i64 0] 4 zeroValue97 ?_;intro eh ei bu bv ds;refine Z5 ds ?_;intro ej bw dt du;refine Zm<|Wk (col:=bu) [(0,1),(1,1),(2,1),(3,1),(4,1),(5,1),(6,1),(7,0),(8,3),(9,2),(10,1)] (by kernel_rfl) (by kernel_rfl)<|xu rfl rfl (fun _=>Vt rfl) ?_;refine xu rfl rfl (fun _=>Vt rfl) ?_;refine xu rfl rfl (fun _=>Zcj underlying40 rfl) ?_;refine xu rfl rfl (fun _=>Vt rfl) ?_;refine xu rfl rfl (fun _=>Zcj underlying40 rfl) ?_;obtain ⟨ba,hm⟩:=Z3 hm;replace aj:=(aj.gr bv).kp bw;have av:=(aj.take (Int.toNat (ac.length:Int))).recap (show (ac.take (Int.toNat (ac.length:Int))).length≤(Int.toNat (ac.length:Int)) by rw [List.length_take (i:=(Int.toNat (ac.length:Int))) (l:=ac)];have:=ba.2;omega);refine xu (v:=.slice an (Int.toNat (ac.length:Int)) (Int.toNat (ac.length:Int))) rfl rfl (fun _=>Z13 underlying40 sizeOf3 rfl rfl rfl ba.2.1 ba.2.2.1 (by have:=aj.1.2;have:=ba.2.2.2;omega)) ?_;refine .ld (d:=89) (v:=(.slice an ((ac.take (Int.toNat (ac.length:Int))).length) (Int.toNat (ac.length:Int)))) (congrArg (fun n=>Value.slice an n (Int.toNat (ac.length:Int))) (show (Int.toNat (ac.length:Int))=(ac.take (Int.toNat (ac.length:Int))).length by rw [List.length_take (i:=(Int.toNat (ac.length:Int))) (l:=ac)];have:=ba.2;omega)) ?_;refine xF ⟨_,_,rfl⟩ ?_;refine xW (fun _ hC=>((du.atN).nth (q:=0) rfl).gr (hC.bl bu)) ?_;refine xe rfl rfl ?_;intro ek hC0;have hC:=hC0.bl bu;refine Vr (col:=bu) [bt.1] 5 ?_;intro el em cf bb cg;refine Zm<|X0 cf hC0 bb<|xe rfl rfl ?_;intro dv hC0;replace ai:=(((ai.gr bv).kp bw).gr hC).gr bb;replace ab:=(((ab.gr bv).kp bw).gr hC).gr bb;replace aa:=(((aa.grow bv).kp bw dt).grow hC).grow bb;replace av:=(av.gr hC).gr bb;have hC:=hC0.bl cf;obtain ⟨cy,hm⟩:=Z3 hm;replace av:=av.gr hC;have dw:(Int.toNat (ac.length:Int))=(ac.take (Int.toNat (ac.length:Int))).length:=by have:=av.1.2;rw [List.length_take (i:=(Int.toNat (ac.length:Int))) (l:=ac)] at this ⊢;omega
    replace cg:=cg.gr hC;refine Zz8 (col:=cf) (w:=dv) (r:=(Za.int .i64)) (c:=6) (c2:=6) 6 (xs:=ac.take (Int.toNat (ac.length:Int))) (ys:=[bt.1]) av dw (NB.int (k:=.i64)) (by simp) (cg.srcN (NB.int (k:=.i64))) rfl underlying40 Zy4 rfl rfl rfl cy.1 cy.2 ?_;intro en eo ep cz ch bc;refine Zm<|xk cz<|xu rfl rfl (fun _=>r_aS rfl) ?_;refine Y7 ?_;replace ai:=(ai.gr hC).gr ch;replace ab:=(ab.gr hC).gr ch;replace aa:=(aa.grow hC).grow ch;intro eq hC;replace hC:=hC.bl cz;refine go ?_;replace ai:=ai.gr hC;replace ai:=ai.froz 6 (by decide);replace bc:=bc.gr hC;replace bc:=(bc).toSlF (Zg.int .i64);replace ab:=ab.gr hC;replace ab:=ab.froz 6 (by decide);replace aa:=aa.grow hC;replace aa:=aa.froz 6 (by decide) (by decide);exact ⟨dk.length,by simp,rfl,⟨_,_,_,_,_,_,rfl,dl,hm,aa,ai,bc,ab,(Yo (congrArg (Value.int .i64) (Yn (Nat.lt_of_lt_of_le dm (h1.ks aa).1.1))) rfl)⟩⟩
  | cons dx c0=>
   obtain ⟨ag,dy,dz⟩:=Yk hl;have hk:(ay:Int)<(ah.length:Int):=by omega
   have hkb:=decide_eq_true hk;rw [T9.eq_2] at hm;refine go ?_;refine X4 (congrArg Value.bool hkb)<|go ?_;refine lI ag ((h2.ks aa).addr ag)<|lW ((h2.ks aa).atInt ag)<|Yr rfl<|Zm<|Zw ?_;refine Wp.cutK [1,2,60,61,62,9,1000000] (fun f ci=>∃ cj ck,Ze5 (T9 ae ah ad c0) ck=some r∧St w0 (Zj col) cj ci∧Zc (Za.int .i64) 3 2 cj ci al am ad∧[73].map f=[.bool ck]) ?_ ?_
   ·intro f ci hJ;obtain ⟨cj,ck,hm,aa,ab,hs⟩:=hJ;rw [Ze5.eq_1] at hm;refine .lL [73] hs ?_;refine Zr hm (fun hb hm=>go ?_) fun hb hm=>go ?_
    ·cases hm;exact ⟨rfl,_,none,0,rfl,aa.fin (cm []),Zc.nil⟩
    exact ⟨c0.length,by simp,rfl,⟨_,_,_,rfl,dy,hm,aa,ab,(Yo (congrArg (Value.int .i64) (Yn (Nat.lt_of_lt_of_le dz (h2.ks aa).1.1))) rfl)⟩⟩
   refine go ?_;refine X1 hm (fun cl hm=>go ?_) fun cl hm=>go ?_
   ·refine lV (.bool true) (Xs (congrArg Value.bool cl) rfl)<|Zm ?_;exact ⟨rfl,_,_,hm,aa,ab,rfl⟩
   refine lV (.bool (decide ((ad.length:Int)≤dx))) (Xl (congrArg Value.bool cl) rfl)<|Zm ?_;exact ⟨rfl,_,_,hm,aa,ab,rfl⟩
 | cons bd c3=>
  obtain ⟨ag,d0,d1⟩:=Yk hl;have hk:(aw:Int)<(ae.length:Int):=by omega
  have hkb:=decide_eq_true hk;rw [Tj.eq_2] at hm;refine go ?_;refine X4 (congrArg Value.bool hkb)<|go ?_;refine lI ag ((h1.ks aa).addr ag) ?_;obtain ⟨_,d2,d3⟩:=(h1.ks aa).atN ag;obtain ⟨_,_,rfl,d4,d5⟩:=Uf d2;obtain ⟨rfl,_⟩:=d4;obtain ⟨rfl,_⟩:=d5;refine lV (.agg #[.int .i64 bd.1,.int .i64 bd.2]) (Wj isAgg97 sizeOf97 rfl rfl d3)<|Xr (col:=bm) #[.int .i64 0,.int .i64 0] 7 zeroValue97 ?_;intro er es ak c4 d6;refine Z5 d6 ?_;intro et c5 d7 be;refine Zm<|Zw ?_;replace ab:=(ab.gr c4).kp c5;replace aa:=(aa.grow c4).kp c5 d7;refine Wp.cutK [1,2,28,29,30,9,1000000] (fun f cn=>∃ co cp,Qw (Tj ae ah ad c3) cp=some r∧St w0 (Zj col) co cn∧Zc (Za.int .i64) 3 2 co cn al am ad∧[58].map f=[.bool cp]) ?_ ?_
  ·intro f cn hJ;obtain ⟨co,cp,hm,aa,ab,hs⟩:=hJ;rw [Qw.eq_1] at hm;refine .lL [58] hs ?_;refine Zr hm (fun hb hm=>go ?_) fun hb hm=>go ?_
   ·cases hm;exact ⟨rfl,_,none,0,rfl,aa.fin (cm []),Zc.nil⟩
   exact ⟨c3.length,by simp,rfl,⟨_,_,_,rfl,d0,hm,aa,ab,(Yo (congrArg (Value.int .i64) (Yn (Nat.lt_of_lt_of_le d1 (h1.ks aa).1.1))) rfl)⟩⟩
  refine Tq (col:=ak) (by kernel_rfl) (by kernel_rfl)<|qF ⟨_,_,rfl⟩ ?_;refine qW (fun _ hC=>((be.atN).nth (q:=0) rfl).gr (hC.bl ak)) ?_;refine go ?_;refine X1 hm (fun cq hm=>go ?_) fun cq hm=>go ?_
  ·refine qv (v:=(.bool true)) rfl (fun _ hC=>Xs (congrArg Value.bool cq) rfl) ?_;refine go ?_;refine qP 44 rfl rfl<|qP 44 rfl rfl<|qP 44 rfl rfl<|qv (v:=(.bool true)) rfl (fun _ hC=>Xs rfl rfl) ?_;refine go ?_;refine qP 49 rfl rfl<|qP 49 rfl rfl<|qP 49 rfl rfl<|qP 49 rfl rfl<|qP 49 rfl rfl<|qP 49 rfl rfl<|qP 49 rfl rfl<|qP 49 rfl rfl<|qv (v:=(.bool true)) rfl (fun _ hC=>Xs rfl rfl) ?_;refine Vh ?_;intro eu hC;replace hC:=hC.bl ak;replace ab:=ab.gr hC;replace aa:=aa.grow hC;exact ⟨rfl,_,_,hm,aa,ab,rfl⟩
  refine qF ⟨_,_,rfl⟩ ?_;refine go ?_;refine qW (fun _ hC=>((be.atN).nth (q:=0) rfl).gr (hC.bl ak)) ?_;refine go ?_;refine qv (v:=(.bool (decide ((ad.length:Int)≤bd.1)))) rfl (fun _ hC=>Xl (congrArg Value.bool cq) rfl) ?_;refine go ?_;refine X1 hm (fun cr hm=>go ?_) fun cr hm=>go ?_
  ·refine qv (v:=(.bool true)) rfl (fun _ hC=>Xs (congrArg Value.bool cr) rfl) ?_;refine go ?_;refine qP 49 rfl rfl<|qP 49 rfl rfl<|qP 49 rfl rfl<|qP 49 rfl rfl<|qP 49 rfl rfl<|qP 49 rfl rfl<|qP 49 rfl rfl<|qP 49 rfl rfl<|qv (v:=(.bool true)) rfl (fun _ hC=>Xs rfl rfl) ?_;refine Vh ?_;intro ew hC;replace hC:=hC.bl ak;replace ab:=ab.gr hC;replace aa:=aa.grow hC;exact ⟨rfl,_,_,hm,aa,ab,rfl⟩
  refine qF ⟨_,_,rfl⟩ ?_;refine go ?_;refine qW (fun _ hC=>((be.atN).nth (q:=1) rfl).gr (hC.bl ak)) ?_;refine go ?_;refine qv (v:=(.bool (decide (bd.2<0)))) rfl (fun _ hC=>Xl (congrArg Value.bool cr) rfl) ?_;refine go ?_;refine X1 hm (fun cs hm=>go ?_) fun cs hm=>go ?_
  ·refine qv (v:=(.bool true)) rfl (fun _ hC=>Xs (congrArg Value.bool cs) rfl) ?_;refine Vh ?_;intro ey hC;replace hC:=hC.bl ak;replace ab:=ab.gr hC;replace aa:=aa.grow hC;exact ⟨rfl,_,_,hm,aa,ab,rfl⟩
  refine qF ⟨_,_,rfl⟩ ?_;refine go ?_;refine qW (fun _ hC=>((be.atN).nth (q:=1) rfl).gr (hC.bl ak)) ?_;refine go ?_;refine qF ⟨_,_,rfl⟩ ?_;refine go ?_;refine qW (fun _ hC=>((be.atN).nth (q:=0) rfl).gr (hC.bl ak)) ?_;refine go ?_;obtain ⟨d8,ct,hm⟩:=bZ hm;refine qI ct (ab.addr ct) ?_;refine go ?_;refine qW (fun _ hC=>(ab.gr (hC.bl ak)).atInt ct) ?_;refine go ?_;refine qv (v:=(.bool (decide (d8≤bd.2)))) rfl (fun _ hC=>Xl (congrArg Value.bool cs) rfl) ?_;refine Vh ?_;intro ez hC;replace hC:=hC.bl ak;replace ab:=ab.gr hC;replace aa:=aa.grow hC;exact ⟨rfl,_,_,hm,aa,ab,rfl⟩
def Zni:Option (List Re):=
  some []
theorem Zwz (cy:Nat) (col:Zd) (w0:World) (r:List Re) (hm:Zni=some r):
    Zcr prog 2 139 [] (fun (y:List Int×R1) (col:Zd) (w:World) (args:List Value)=>∃ (a0:Option Addr) (ab:Nat) (a1_0_1:Option Addr) (c1_0_1:Nat) (ac:Option Addr) (ad:Nat),args=[.slice a0 y.1.length ab,.agg #[.bool y.2.1.1,.slice a1_0_1 y.2.1.2.length c1_0_1,.slice ac y.2.2.length ad]]∧Zc (Za.int .i64) 3 cy col w a0 ab y.1∧Sl (Za.int .u32) col w a1_0_1 c1_0_1 y.2.1.2∧Sl (Za.int .u32) col w ac ad y.2.2) r col w0:=by
 intro l J X hjs hxs hy aa;refine Zp1 (mc:=1998) (m:=2) (args:=[.func (.yield l) #[] #[]]) func139 rfl rfl rfl rfl ?_;rw [Zni.eq_1] at hm;have hmk:Yf 1998 col w0 []:=.nil;refine X8 ?_;cases hm;refine ⟨_,[],rfl,hmk,?_⟩;intro ag ae af;replace aa:=hjs _ _ _ _ _ aa (ae.toP af rfl);exact ⟨⟨_,rfl⟩,_,.inl aa⟩
theorem Zzh:Y4 prog 9 1 16:=⟨Tryz.t9,_,rfl,rfl,rfl,rfl,rfl⟩
def Zdz (aa:List ByteArray):Option R5:=
  Zz ((([]:List ByteArray).length+aa.length) * 16≤140737488355328∧([]:List ByteArray).length+aa.length≤maxLen) (some (([]:List ByteArray)++aa))
theorem Zpy {ad:Nat} {a0:Option Addr} {col:Zd} {w0:World} {ac r:R5} (c1:Nat) (hm:Zdz ac=some r) (h0:Sl Za.str col w0 a0 ad ac):
    Calls prog 238 #[.slice a0 ac.length ad] w0 (fun e w'=>∃ (col':Zd) (ra1:Option Addr) (rc2:Nat),e= .returned ((.slice ra1 r.length rc2))∧Zi col w0 col' w'∧Zc Za.str 9 c1 col' w' ra1 rc2 r):=by
 refine Xk 2 (m:=8) func238 rfl rfl rfl rfl rfl ?_;rw [Zdz.eq_1] at hm;have aa:=St.start col w0;refine go ?_;replace h0:=h0.keep (Zl.start col w0);rcases Zlb h0 with ab | ab
 ·replace hm:some ([]:List ByteArray)=some r:=by have h0:=ab.2;subst h0;simpa [Zz,maxLen] using hm
  refine lv (v:=.bool a0.isNone) rfl rfl (Zci underlying22 rfl)<|.ld (d:=4) (v:=.bool true) (congrArg Value.bool ab.1)<|Zm<|X4 rfl<|go ?_;cases hm;exact ⟨rfl,_,none,0,rfl,aa.fin (cm []),Zc.nil⟩
 refine lv (v:=.bool a0.isNone) rfl rfl (Zci underlying22 rfl)<|.ld (d:=4) (v:=.bool false) (congrArg Value.bool ab)<|Zm<|X3 rfl<|go ?_;refine Zg4 (col:=(Zj col)) (r:=Za.str) 1 rfl underlying22 Zzh rfl ?_;intro aj ak al ae af;refine Y0 rfl ?_;obtain ⟨ag,hm⟩:=Z3 hm;replace h0:=h0.gr ae;refine Vq af h0.srcC ag ?_;intro am an ao ap ah ai;refine go ?_;cases hm;replace aa:=(aa.grow ae).kpp ah;exact ⟨rfl,_,_,_,rfl,aa.fin (cm [(1,c1)]),aa.fo ai⟩
theorem Zy3:Y4 prog 22 1 24:=⟨Tryz.t22,_,rfl,rfl,rfl,rfl,rfl⟩
theorem Zzb:Y4 prog 40 1 24:=⟨Tryz.t40,_,rfl,rfl,rfl,rfl,rfl⟩
theorem Zze:Y4 prog 56 1 24:=⟨Tryz.t56,_,rfl,rfl,rfl,rfl,rfl⟩
def Zbu (N:Nat) (ae:Int) (af:ByteArray) (ag:List ByteArray) (ah:List R5) (ai:List R2) (ac:List R8) (kk_L1:(Int→ByteArray→R5→(List R5)→Rb→(List R8)→Option R0)) (aj:List ByteArray) (ak:List Int):List R1→R8→Option R0
  | [],ab=>Zz ((ac.length+[ab].length) * 24≤140737488355328∧ac.length+[ab].length≤maxLen) (kk_L1 (i64.wrap (ae+1)) af ag (ah++[aj]) (ai++[ak]) (ac++[ab]))
  | ad :: al,ab=>(Vs N ((ad.1.1,ad.1.2),ad.2) ((false,([]:List Int)),([]:List Int))).bind fun aa=>Zz ((ab.length+[((aa.1.1,aa.1.2),aa.2)].length) * 56≤140737488355328∧ab.length+[((aa.1.1,aa.1.2),aa.2)].length≤maxLen) ((Zbu N ae af ag ah ai ac kk_L1 aj ak al) (ab++[((aa.1.1,aa.1.2),aa.2)]))
termination_by structural x=>x
def Zap (N:Nat) (aa:R0):Nat→Int→ByteArray→R5→(List R5)→Rb→(List R8)→Option R0
  | 0,_,_,_,_,_,_=>none
  | aj+1,ab,ag,ah,ac,ad,ai=>if (decide (ab<(aa.2.1.length:Int)))=true then ((Zq aa.2.2.1 ab).bind fun ak=>(Zdz ak).bind fun ae=>Zz ((ac.length+[ae].length) * 24≤140737488355328∧ac.length+[ae].length≤maxLen) ((Zq aa.2.2.2.1 ab).bind fun al=>(Zcf al).bind fun af=>Zz ((ad.length+[af].length) * 24≤140737488355328∧ad.length+[af].length≤maxLen) ((Zq aa.2.2.2.2 ab).bind fun am=>Zbu N ab ag ah ac ad ai (Zap N aa aj) ae af am ([]:List R1)))) else (some (ag,ah,ac,ad,ai))
termination_by structural x=>x
def Ze6 (N:Nat) (aa:R0):Option R0:=
  (Zdz aa.2.1).bind fun ab=>Zap N aa N 0 aa.1 ab ([]:List R5) ([]:List R2) ([]:List R8)
theorem Zw1 {N cd bz bu bi:Nat} {ce b0 bv bj:Option Addr} {col:Zd} {w0:World} {af r:R0} (c1 c2 c3 c4:Nat) (hm:Ze6 N af=some r) (cv:Sl Za.str col w0 ce cd af.2.1) (cf:Sl (Za.slice Za.str) col w0 b0 bz af.2.2.1) (cg:Sl (Za.slice (Za.int .i64)) col w0 bv bu af.2.2.2.1) (ch:Sl (Za.slice (Za.pair (Za.pair Za.bool (Za.slice (Za.int .u32))) (Za.slice (Za.int .u32)))) col w0 bj bi af.2.2.2.2):
    Calls prog 140 #[(.agg #[.string af.1,.slice ce af.2.1.length cd,.slice b0 af.2.2.1.length bz,.slice bv af.2.2.2.1.length bu,.slice bj af.2.2.2.2.length bi])] w0 (fun e w'=>∃ (col':Zd) (ra1:Option Addr) (rc2:Nat) (ra4:Option Addr) (rc5:Nat) (ra7:Option Addr) (rc8:Nat) (ra10:Option Addr) (rc11:Nat),e= .returned ((.agg #[.string r.1,.slice ra1 r.2.1.length rc2,.slice ra4 r.2.2.1.length rc5,.slice ra7 r.2.2.2.1.length rc8,.slice ra10 r.2.2.2.2.length rc11]))∧Zi col w0 col' w'∧Zc Za.str 9 c1 col' w' ra1 rc2 r.2.1∧Zc (Za.row 9 Za.str) 22 c2 col' w' ra4 rc5 r.2.2.1∧Zc (Za.row 3 (Za.int .i64)) 40 c3 col' w' ra7 rc8 r.2.2.2.1∧Zc (Za.row 47 (Za.pair (Za.pair Za.bool (Za.row 79 (Za.int .u32))) (Za.row 79 (Za.int .u32)))) 56 c4 col' w' ra10 rc11 r.2.2.2.2):=by
 refine Wi (m:=69) func140 rfl rfl rfl ?_;rw [Ze6.eq_1] at hm;have aa:=St.start col w0;refine go ?_;refine Ye (col:=(Zj col)) 1 rfl ?_;intro dt f4 d9 ea ab;refine Xr (col:=d9) #[.string (⟨#[]⟩),.slice none (([]:List ByteArray).length) 0,.slice none (([]:List R5).length) 0,.slice none (([]:List R2).length) 0,(.slice none (([]:List R8).length) 0)] 2 zeroValue27 ?_;intro du f5 eb dv ac;refine go ?_;replace ab:=ab.gr dv;refine lV _ (Xh isAgg27 sizeOf27 ab)<|Xr (col:=eb) #[.string (⟨#[]⟩),.slice none (([]:List ByteArray).length) 0,.slice none (([]:List R5).length) 0,.slice none (([]:List R2).length) 0,(.slice none (([]:List R8).length) 0)] 3 zeroValue27 ?_;intro a4 f6 f7 cw ec;refine Z5 ec ?_;intro f8 cx ed cy;refine go ?_;refine Y5 ⟨_,_,rfl⟩ ?_;replace ab:=(ab.gr cw).kp cx;refine lW ((ab.atN).nth (q:=1) rfl) ?_;obtain ⟨b1,ee,hm⟩:=bZ hm;replace cv:=cv.keep (Zl.start col w0);replace aa:=(((aa.grow ea).grow dv).grow cw).kp cx ed;refine Zh (Zpy 4 ee (cv.ks aa)) ?_;rintro _ f9 ⟨ci,b2,b3,rfl,cj,cz⟩;refine ⟨_,rfl,?_⟩;refine Y5 ⟨_,_,rfl⟩ ?_;replace cy:=cy.gr cj;refine Qn (off:=1) (v:=(.slice b2 b1.length b3)) cy sizeOf22 rfl rfl (by intro u hu;simp only [Value.cells,List.mem_cons,List.not_mem_nil,or_false] at hu;subst hu;rfl) rfl rfl ?_;intro ef ck eg c0;replace c0:Zk 27 3 ci ef a4 #[.string af.1,.slice b2 b1.length b3,.slice b0 af.2.2.1.length bz,.slice bv af.2.2.2.1.length bu,.slice bj af.2.2.2.2.length bi]:=c0;refine go ?_;refine Y5 ⟨_,_,rfl⟩ ?_;refine Qn (off:=2) (v:=(.slice none (([]:List R5).length) 0)) c0 sizeOf23 rfl rfl (by intro u hu;simp only [Value.cells,List.mem_cons,List.not_mem_nil,or_false] at hu;subst hu;rfl) rfl rfl ?_;intro eh cl ei c5;replace c5:Zk 27 3 ci eh a4 #[.string af.1,.slice b2 b1.length b3,.slice none (([]:List R5).length) 0,.slice bv af.2.2.2.1.length bu,.slice bj af.2.2.2.2.length bi]:=c5;refine Y5 ⟨_,_,rfl⟩ ?_;refine Qn (off:=3) (v:=(.slice none (([]:List R2).length) 0)) c5 sizeOf24 rfl rfl (by intro u hu;simp only [Value.cells,List.mem_cons,List.not_mem_nil,or_false] at hu;subst hu;rfl) rfl rfl ?_;intro ej cn ek c6
 replace c6:Zk 27 3 ci ej a4 #[.string af.1,.slice b2 b1.length b3,.slice none (([]:List R5).length) 0,.slice none (([]:List R2).length) 0,.slice bj af.2.2.2.2.length bi]:=c6;refine Y5 ⟨_,_,rfl⟩ ?_;refine Qn (off:=4) (v:=(.slice none (([]:List R8).length) 0)) c6 sizeOf25 rfl rfl (by intro u hu;simp only [Value.cells,List.mem_cons,List.not_mem_nil,or_false] at hu;subst hu;rfl) rfl rfl ?_;intro el co em aj;replace aj:Zk 27 3 ci el a4 #[.string af.1,.slice b2 b1.length b3,.slice none (([]:List R5).length) 0,.slice none (([]:List R2).length) 0,(.slice none (([]:List R8).length) 0)]:=aj;refine go ?_;refine Y5 ⟨_,_,rfl⟩ ?_;replace ab:=((((ab.gr cj).kp ck).kp cl).kp cn).kp co;refine lW ((ab.atN).nth (q:=1) rfl)<|go ?_;replace ac:=((((((ac.gr cw).kp cx).gr cj).kp ck).kp cl).kp cn).kp co;replace aa:=((((aa.grow cj).kp ck eg).kp cl ei).kp cn ek).kp co em;replace cz:=(((cz.kp ck).kp cl).kp cn).kp co;refine Z8 [1,18,2,3,1000000] (fun n f a5=>∃ ak cp bd be bf ax c7 c8 ar cq cr au bk bm av bn,bn=n∧Zap N af bn cp bd ax ar au av=some r∧St w0 (Zj col) ak a5∧Zk 27 1 ak a5 dt #[.string af.1,.slice ce af.2.1.length cd,.slice b0 af.2.2.1.length bz,.slice bv af.2.2.2.1.length bu,.slice bj af.2.2.2.2.length bi]∧Zk 27 2 ak a5 du #[.string (⟨#[]⟩),.slice none (([]:List ByteArray).length) 0,.slice none (([]:List R5).length) 0,.slice none (([]:List R2).length) 0,(.slice none (([]:List R8).length) 0)]∧Zc Za.str 9 4 ak a5 be bf ax∧Zc (Za.row 9 Za.str) 22 5 ak a5 c7 c8 ar∧Zc (Za.row 3 (Za.int .i64)) 40 6 ak a5 cq cr au∧Zc (Za.row 47 (Za.pair (Za.pair Za.bool (Za.row 79 (Za.int .u32))) (Za.row 79 (Za.int .u32)))) 56 7 ak a5 bk bm av∧Zk 27 3 ak a5 a4 #[.string bd,.slice be ax.length bf,.slice c7 ar.length c8,.slice cq au.length cr,.slice bk av.length bm]∧[19].map f=[.int .i64 cp]) N ⟨_,0,_,_,_,_,none,0,_,none,0,_,none,0,_,_,rfl,hm,aa,ab,ac,cz,Zc.nil,Zc.nil,Zc.nil,aj,rfl⟩ ?_;clear hm;intro n f a5 hI;obtain ⟨ak,cp,bd,be,bf,ax,c7,c8,ar,cq,cr,au,bk,bm,av,bn,hn,hm,aa,ab,ac,ad,ay,ah,ae,aj,hs⟩:=hI;subst hn;refine .lL [19] hs ?_;replace cf:=cf.keep (Zl.start col w0)
 replace cg:=cg.keep (Zl.start col w0);replace ch:=ch.keep (Zl.start col w0)
 cases bn with
 | zero=>rw [Zap.eq_1] at hm;cases hm
 | succ bn=>
  rw [Zap.eq_2] at hm;refine go ?_;refine Zr hm (fun hb hm=>go ?_) fun hb hm=>go ?_
  ·refine Wk (col:=ak) [(0,1),(1,0),(2,1),(3,0),(4,1),(5,1),(6,0),(7,3),(8,3),(9,2),(10,1),(11,2)] (by kernel_rfl) (by kernel_rfl)<|xF ⟨_,_,rfl⟩ ?_;refine xW (fun _ hC=>((aj.atN).nth (q:=2) rfl).gr (hC.bl ak)) ?_;refine xF ⟨_,_,rfl⟩ ?_;refine xW (fun _ hC=>((ab.atN).nth (q:=2) rfl).gr (hC.bl ak)) ?_;refine xu rfl rfl (fun _=>Yw rfl) ?_;obtain ⟨ga,ct,hm⟩:=bZ hm;refine xu rfl rfl (fun _=>Y9 underlying23 sizeOf22 rfl rfl (Xj ct).1 (Xj ct).2.1 ((cf.ks aa).addr ct)) ?_;obtain ⟨_,en,eo⟩:=(cf.ks aa).atN ct;obtain ⟨⟨gb,gc,rfl,c9⟩,_⟩:=en;refine xW (fun _ hC=>eo.one.gr (hC.bl ak)) ?_;refine xe rfl rfl ?_;intro gd hC0;have hC:=hC0.bl ak;obtain ⟨az,ep,hm⟩:=bZ hm;replace c9:=c9.gr hC;refine Zh (Zpy 8 ep c9) ?_;rintro _ ge ⟨da,dw,dx,rfl,a6,db⟩;refine ⟨_,rfl,?_⟩;refine Zm<|X0 da hC0 a6<|xe rfl rfl ?_;intro gf hC0;replace ad:=(ad.gr hC).gr a6;replace ay:=(ay.gr hC).gr a6;replace ah:=(ah.gr hC).gr a6;replace ae:=(ae.gr hC).gr a6;replace ab:=(ab.gr hC).gr a6;replace ac:=(ac.gr hC).gr a6;replace aj:=(aj.gr hC).gr a6;replace aa:=(aa.grow hC).grow a6;have hC:=hC0.bl da;replace db:=db.gr hC;refine Uh (col:=da) (r:=(Za.row 9 Za.str)) (xs:=[az]) [.slice dw az.length dx] 8 (Yt.cons1 (cs:=[.slice dw az.length dx]) db.has Rows.nil0) ?_;intro gg gh dc a7 dd;refine Zm<|X0 dc hC0 a7<|xe rfl rfl ?_;intro eq hC0;replace ad:=(ad.gr hC).gr a7;replace ay:=(ay.gr hC).gr a7;replace ah:=(ah.gr hC).gr a7;replace ae:=(ae.gr hC).gr a7;replace ab:=(ab.gr hC).gr a7;replace ac:=(ac.gr hC).gr a7;replace aj:=(aj.gr hC).gr a7;replace aa:=(aa.grow hC).grow a7;have hC:=hC0.bl dc;obtain ⟨dy,hm⟩:=Z3 hm;replace ay:=ay.gr hC;replace dd:=dd.gr hC;refine Zbl (col:=dc) (w:=eq) (r:=(Za.row 9 Za.str)) (c:=5) (c2:=8) (ay.ex) (dd.srcC (by decide)) rfl underlying23 Zy3 rfl rfl rfl dy.1 dy.2 (by decide) ?_;intro bw bx gi a0 bo de;refine Zm<|xk a0<|xF ⟨_,_,rfl⟩ ?_;refine xe rfl rfl ?_;intro gj hC0;replace ad:=(ad.gr hC).kpp bo;replace ah:=(ah.gr hC).kpp bo;replace ae:=(ae.gr hC).kpp bo;replace ab:=(ab.gr hC).kpp bo;replace ac:=(ac.gr hC).kpp bo;replace aj:=(aj.gr hC).kpp bo;replace aa:=(aa.grow hC).kpp bo;have hC:=hC0.bl a0;replace aj:=aj.gr hC
   refine Qn (off:=2) (v:=(.slice bw ((ar++[az]).length) bx)) aj sizeOf23 rfl rfl (by intro u hu;simp only [Value.cells,List.mem_cons,List.not_mem_nil,or_false] at hu;subst hu;rfl) rfl rfl ?_;intro er bp es al;replace al:Zk 27 3 a0 er a4 #[.string bd,.slice be ax.length bf,.slice bw ((ar++[az]).length) bx,.slice cq au.length cr,.slice bk av.length bm]:=al;refine Zm<|xk a0 ?_;replace de:=(de.gr hC).kp bp;have ag:=de.new;refine Y7 ?_;replace ad:=(ad.gr hC).kp bp;replace ah:=(ah.gr hC).kp bp;replace ae:=(ae.gr hC).kp bp;replace ab:=(ab.gr hC).kp bp;replace ac:=(ac.gr hC).kp bp;replace aa:=(aa.grow hC).kp bp es;intro gk hC;replace hC:=hC.bl a0;refine Zw<|Wk (col:=a0) [(0,1),(1,0),(2,1),(3,0),(4,1),(5,1),(6,0),(7,3),(8,3),(9,2),(10,1),(11,2)] (by kernel_rfl) (by kernel_rfl)<|xF ⟨_,_,rfl⟩ ?_;replace al:=al.gr hC;refine xW (fun _ hC=>((al.atN).nth (q:=3) rfl).gr (hC.bl a0)) ?_;refine xF ⟨_,_,rfl⟩ ?_;replace ab:=ab.gr hC;refine xW (fun _ hC=>((ab.atN).nth (q:=3) rfl).gr (hC.bl a0)) ?_;refine xu rfl rfl (fun _=>Yw rfl) ?_;obtain ⟨gl,cu,hm⟩:=bZ hm;replace aa:=aa.grow hC;refine xu rfl rfl (fun _=>Y9 underlying24 sizeOf40 rfl rfl (Xj cu).1 (Xj cu).2.1 ((cg.ks aa).addr cu)) ?_;obtain ⟨_,et,eu⟩:=(cg.ks aa).atN cu;obtain ⟨⟨gm,gp,rfl,df⟩,_⟩:=et;refine xW (fun _ hC=>eu.one.gr (hC.bl a0)) ?_;refine xe rfl rfl ?_;intro gs hC0;replace ad:=ad.gr hC;replace ag:=ag.gr hC;replace ah:=ah.gr hC;replace ae:=ae.gr hC;replace ac:=ac.gr hC;have hC:=hC0.bl a0;obtain ⟨a8,ew,hm⟩:=bZ hm;replace df:=df.gr hC;refine Zh (Zmn 9 ew df) ?_;rintro _ gt ⟨dg,dz,d0,rfl,a9,dh⟩;refine ⟨_,rfl,?_⟩;refine Zm<|X0 dg hC0 a9<|xe rfl rfl ?_;intro gu hC0;replace ad:=(ad.gr hC).gr a9;replace ag:=(ag.gr hC).gr a9;replace ah:=(ah.gr hC).gr a9;replace ae:=(ae.gr hC).gr a9;replace ab:=(ab.gr hC).gr a9;replace ac:=(ac.gr hC).gr a9;replace al:=(al.gr hC).gr a9;replace aa:=(aa.grow hC).grow a9;have hC:=hC0.bl dg;replace dh:=dh.gr hC;refine Uh (col:=dg) (r:=(Za.row 3 (Za.int .i64))) (xs:=[a8]) [.slice dz a8.length d0] 9 (Yt.cons1 (cs:=[.slice dz a8.length d0]) dh.has Rows.nil0) ?_;intro gv gw di ba dj;refine Zm<|X0 di hC0 ba<|xe rfl rfl ?_;intro ey hC0;replace ad:=(ad.gr hC).gr ba;replace ag:=(ag.gr hC).gr ba
   replace ah:=(ah.gr hC).gr ba;replace ae:=(ae.gr hC).gr ba;replace ab:=(ab.gr hC).gr ba;replace ac:=(ac.gr hC).gr ba;replace al:=(al.gr hC).gr ba;replace aa:=(aa.grow hC).grow ba;have hC:=hC0.bl di;obtain ⟨d1,hm⟩:=Z3 hm;replace ah:=ah.gr hC;replace dj:=dj.gr hC;refine Zbl (col:=di) (w:=ey) (r:=(Za.row 3 (Za.int .i64))) (c:=6) (c2:=9) (ah.ex) (dj.srcC (by decide)) rfl underlying24 Zzb rfl rfl rfl d1.1 d1.2 (by decide) ?_;intro b4 b5 gx b6 bq dk;refine Zm<|xk b6<|xF ⟨_,_,rfl⟩ ?_;refine xe rfl rfl ?_;intro gy hC0;replace ad:=(ad.gr hC).kpp bq;replace ag:=(ag.gr hC).kpp bq;replace ae:=(ae.gr hC).kpp bq;replace ab:=(ab.gr hC).kpp bq;replace ac:=(ac.gr hC).kpp bq;replace al:=(al.gr hC).kpp bq;replace aa:=(aa.grow hC).kpp bq;have hC:=hC0.bl b6;replace al:=al.gr hC;refine Qn (off:=3) (v:=(.slice b4 ((au++[a8]).length) b5)) al sizeOf24 rfl rfl (by intro u hu;simp only [Value.cells,List.mem_cons,List.not_mem_nil,or_false] at hu;subst hu;rfl) rfl rfl ?_;intro ez br e0 ai;replace ai:Zk 27 3 b6 ez a4 #[.string bd,.slice be ax.length bf,.slice bw ((ar++[az]).length) bx,.slice b4 ((au++[a8]).length) b5,.slice bk av.length bm]:=ai;refine Zm<|xk b6 ?_;replace dk:=(dk.gr hC).kp br;have am:=dk.new;refine Y7 ?_;replace ad:=(ad.gr hC).kp br;replace ag:=(ag.gr hC).kp br;replace ae:=(ae.gr hC).kp br;replace ab:=(ab.gr hC).kp br;replace ac:=(ac.gr hC).kp br;replace aa:=(aa.grow hC).kp br e0;intro gz hC;replace hC:=hC.bl b6;refine go ?_;refine Y5 ⟨_,_,rfl⟩ ?_;replace ab:=ab.gr hC;refine lW ((ab.atN).nth (q:=4) rfl)<|Yd rfl ?_;obtain ⟨b7,dl,hm⟩:=bZ hm;replace aa:=aa.grow hC;refine lI dl ((ch.ks aa).addr dl) ?_;obtain ⟨_,e1,e2⟩:=(ch.ks aa).atN dl;obtain ⟨⟨e3,e4,rfl,ao⟩,_⟩:=e1;refine lW e2.one<|go ?_;replace ad:=ad.gr hC;replace ag:=ag.gr hC;replace am:=am.gr hC;replace ae:=ae.gr hC;replace ac:=ac.gr hC;replace ai:=ai.gr hC
   refine Z8 [1,18,19,2,3,48,49,1000000] (fun n f aw=>∃ an b8 b9 bb ca cb,n=cb.length∧b7.drop ca=cb∧Zbu N cp bd ax ar au av (Zap N af bn) az a8 cb bb=some r∧St w0 (Zj col) an aw∧Zk 27 1 an aw dt #[.string af.1,.slice ce af.2.1.length cd,.slice b0 af.2.2.1.length bz,.slice bv af.2.2.2.1.length bu,.slice bj af.2.2.2.2.length bi]∧Zk 27 2 an aw du #[.string (⟨#[]⟩),.slice none (([]:List ByteArray).length) 0,.slice none (([]:List R5).length) 0,.slice none (([]:List R2).length) 0,(.slice none (([]:List R8).length) 0)]∧Zc Za.str 9 4 an aw be bf ax∧Zc (Za.row 9 Za.str) 22 5 an aw bw bx (ar++[az])∧Zc (Za.row 3 (Za.int .i64)) 40 6 an aw b4 b5 (au++[a8])∧Zc (Za.row 47 (Za.pair (Za.pair Za.bool (Za.row 79 (Za.int .u32))) (Za.row 79 (Za.int .u32)))) 56 7 an aw bk bm av∧Zk 27 3 an aw a4 #[.string bd,.slice be ax.length bf,.slice bw ((ar++[az]).length) bx,.slice b4 ((au++[a8]).length) b5,.slice bk av.length bm]∧Sl (Za.pair (Za.pair Za.bool (Za.slice (Za.int .u32))) (Za.slice (Za.int .u32))) an aw e3 e4 b7∧Zc (Za.pair (Za.pair Za.bool (Za.row 79 (Za.int .u32))) (Za.row 79 (Za.int .u32))) 47 10 an aw b8 b9 bb∧[50,5].map f=[.int .i64 ca,.slice b8 bb.length b9]) b7.length ⟨_,none,0,_,0,_,rfl,rfl,hm,aa,ab,ac,ad,ag,am,ae,ai,ao,Zc.nil,rfl⟩ ?_;clear hm;intro n f aw hI;obtain ⟨an,b8,b9,bb,ca,cb,hn,hl,hm,aa,ab,ac,ad,ag,am,ae,ai,ao,bg,hs⟩:=hI;subst hn;refine .lL [50,5] hs ?_
   cases cb with
   | nil=>
    have hk:¬ ((ca:Int)<(b7.length:Int)):=by have:=List.drop_eq_nil_iff.1 hl;omega
    have hkb:=decide_eq_false hk;rw [Zbu.eq_1] at hm;refine go ?_;refine X3 (congrArg Value.bool hkb)<|go ?_;refine Xu ai<|Y0 rfl<|Uh (col:=an) (r:=(Za.row 47 (Za.pair (Za.pair Za.bool (Za.row 79 (Za.int .u32))) (Za.row 79 (Za.int .u32))))) (xs:=[bb]) [.slice b8 bb.length b9] 10 (Yt.cons1 (cs:=[.slice b8 bb.length b9]) bg.has Rows.nil0) ?_;intro g0 e5 e6 bh e7;obtain ⟨d2,hm⟩:=Z3 hm;replace ae:=ae.gr bh;refine Zbl (col:=e6) (w:=e5) (r:=(Za.row 47 (Za.pair (Za.pair Za.bool (Za.row 79 (Za.int .u32))) (Za.row 79 (Za.int .u32))))) (c:=7) (c2:=10) (ae.ex) (e7.srcC (by decide)) rfl underlying25 Zze rfl rfl rfl d2.1 d2.2 (by decide) ?_;intro d3 d4 g1 e8 bs dm;refine Y5 ⟨_,_,rfl⟩ ?_;replace ai:=(ai.gr bh).kpp bs;refine Qn (off:=4) (v:=(.slice d3 ((av++[bb]).length) d4)) ai sizeOf25 rfl rfl (by intro u hu;simp only [Value.cells,List.mem_cons,List.not_mem_nil,or_false] at hu;subst hu;rfl) rfl rfl ?_;intro e9 bt fa dn;replace dn:Zk 27 3 e8 e9 a4 #[.string bd,.slice be ax.length bf,.slice bw ((ar++[az]).length) bx,.slice b4 ((au++[a8]).length) b5,.slice d3 ((av++[bb]).length) d4]:=dn;replace dm:=dm.kp bt;have fb:=dm.new;refine go ?_;replace ad:=((ad.gr bh).kpp bs).kp bt;replace ag:=((ag.gr bh).kpp bs).kp bt;replace am:=((am.gr bh).kpp bs).kp bt;replace ab:=((ab.gr bh).kpp bs).kp bt;replace ac:=((ac.gr bh).kpp bs).kp bt;replace aa:=((aa.grow bh).kpp bs).kp bt fa;exact ⟨bn,by omega,rfl,⟨_,_,_,_,_,_,_,_,_,_,_,_,_,_,_,_,rfl,hm,aa,ab,ac,ad,ag,am,fb,dn,rfl⟩⟩
   | cons dp fc=>
    obtain ⟨dq,fd,fe⟩:=Yk hl;have hk:(ca:Int)<(b7.length:Int):=by omega
    have hkb:=decide_eq_true hk;rw [Zbu.eq_2] at hm;refine go ?_;refine X4 (congrArg Value.bool hkb)<|go ?_;refine lI dq (ao.addr dq) ?_;obtain ⟨_,ff,fg⟩:=ao.atN dq;obtain ⟨_,_,rfl,fh,fi⟩:=Uf ff;obtain ⟨_,_,rfl,fj,fk⟩:=Uf fh;obtain ⟨rfl,_⟩:=fj;obtain ⟨⟨fl,fm,rfl,dr⟩,_⟩:=fk;obtain ⟨⟨fn,fp,rfl,ds⟩,_⟩:=fi;refine lV (.agg #[.bool dp.1.1,.slice fl dp.1.2.length fm,.slice fn dp.2.length fp]) (Wj isAgg47 sizeOf47 rfl rfl fg)<|Xr (col:=an) #[.bool false,.slice none (([]:List Int).length) 0,.slice none (([]:List Int).length) 0] 11 zeroValue47 ?_;intro g2 g3 g4 ap fq;refine Z5 fq ?_;intro g5 aq fr ft;refine go ?_;refine lV _ (Xh isAgg47 sizeOf47 ft)<|lV (.agg #[.bool false,.slice none (([]:List Int).length) 0,.slice none (([]:List Int).length) 0]) (Wg (l:=[_,_]) (qs:=[(0,2),(2,1)]) underlying47 zeroValue47 ⟨rfl,sizeOf45,rfl,sizeOf43,trivial⟩ rfl) ?_;obtain ⟨a1,fu,hm⟩:=bZ hm;replace dr:=(dr.gr ap).kp aq;replace ds:=(ds.gr ap).kp aq;refine Zh (Zej 12 13 fu dr ds Sl.nil Sl.nil) ?_;rintro _ g6 ⟨fv,d5,d6,d7,d8,rfl,a2,fw,fx⟩;refine ⟨_,rfl,?_⟩;have fy:=Xp.join (Xp.joinL (Sp a1.1.1) fw.has) fx.has (by decide) (by decide);replace ad:=((ad.gr ap).kp aq).gr a2;replace ad:=ad.recol 13 12 (by decide);replace ag:=((ag.gr ap).kp aq).gr a2;replace ag:=ag.recol 13 12 (by decide);replace am:=((am.gr ap).kp aq).gr a2;replace am:=am.recol 13 12 (by decide);replace ae:=((ae.gr ap).kp aq).gr a2;replace ae:=ae.recol 13 12 (by decide);replace ao:=((ao.gr ap).kp aq).gr a2;replace ao:=ao.recol 13 12 (by decide);replace bg:=((bg.gr ap).kp aq).gr a2;replace bg:=bg.recol 13 12 (by decide);replace ab:=((ab.gr ap).kp aq).gr a2;replace ab:=ab.recol 13 12 (by decide);replace ac:=((ac.gr ap).kp aq).gr a2;replace ac:=ac.recol 13 12 (by decide);replace ai:=((ai.gr ap).kp aq).gr a2;replace ai:=ai.recol 13 12 (by decide);replace aa:=((aa.grow ap).kp aq fr).grow a2;replace aa:=aa.recol 13 12 (by decide) (by decide)
    refine Uh (col:=(Xf 13 12 fv)) (r:=(Za.pair (Za.pair Za.bool (Za.row 79 (Za.int .u32))) (Za.row 79 (Za.int .u32)))) (xs:=[((a1.1.1,a1.1.2),a1.2)]) [(.agg #[.bool a1.1.1,.slice d5 a1.1.2.length d6,.slice d7 a1.2.length d8])] 12 (Yt.cons1 (cs:=[.bool a1.1.1,.slice d5 a1.1.2.length d6,.slice d7 a1.2.length d8]) fy Rows.nil0) ?_;intro g7 g8 g9 a3 fz;obtain ⟨f0,hm⟩:=Z3 hm;replace bg:=bg.gr a3;refine Vq (c:=10) (c2:=12) bg (fz.srcC (by decide)) f0 ?_;intro ha hc hd he bc f1;refine go ?_;replace ad:=(ad.gr a3).kpp bc;replace ag:=(ag.gr a3).kpp bc;replace am:=(am.gr a3).kpp bc;replace ae:=(ae.gr a3).kpp bc;replace ao:=(ao.gr a3).kpp bc;replace ab:=(ab.gr a3).kpp bc;replace ac:=(ac.gr a3).kpp bc;replace ai:=(ai.gr a3).kpp bc;replace aa:=(aa.grow a3).kpp bc;exact ⟨fc.length,by simp,rfl,⟨_,_,_,_,_,_,rfl,fd,hm,aa,ab,ac,ad,ag,am,ae,ai,ao,f1,(Yo (congrArg (Value.int .i64) (Yn (Nat.lt_of_lt_of_le fe ao.1.1))) rfl)⟩⟩
  refine lV _ (Xh isAgg27 sizeOf27 aj)<|Z5 ac ?_;intro hf cc f2 f3;refine go ?_;cases hm;replace ad:=ad.kp cc;replace ay:=ay.kp cc;replace ah:=ah.kp cc;replace ae:=ae.kp cc;replace aa:=aa.kp cc f2;exact ⟨rfl,_,ra f3.atN,_,_,_,_,_,_,_,_,_,rfl,aa.fin (cm [(4,c1),(5,c2),(6,c3),(7,c4)]),aa.fo ad,aa.fo ay,aa.fo ah,aa.fo ae⟩

end Go.Proofs.YtbmjpjhbankpoaaGreat
