/-
  What functions of the program compute, as plain Lean functions (m_..), and proofs that they compute it (c_..). Printed by a program of the author; no conditions.
-/
import Derived.Test.YtlchacnggnhhbaaGreatCodeSideBFloat
import Derived.Test.YtlchacnggnhhbaaGreatProg
import Derived.Test.YtlchacnggnhhbaaGreatCodeSideBBrief
import Derived.Test.YtlchacnggnhhbaaGreatCodeSideBThree
import Derived.Test.YtlchacnggnhhbaaGreatCodeSideF2
set_option linter.unusedVariables false
set_option maxRecDepth 100000
set_option maxHeartbeats 2000000
namespace Go.Proofs.YtlchacnggnhhbaaGreat
open Go Go.RowKit
open Go.IntKind (i8 i16 i32 i64 u8 u16 u32 u64)
open Go.Proofs.Tryz

theorem Zv6 (N:Nat) (a:List Int) (hb:a.length≤1099511627776):∀ (n j:Nat),j≤a.length→Zbf N a n (j:Int)=T9 N n (a.take j)
 | 0,j,_=>rfl
 | n+1,j,hj=>by
  have hl:(a.take j).length=j:=by rw [List.length_take];omega
  have ht:0<j→Zn (a.take j) ((j - 1:Nat):Int)=Zn a ((j - 1:Nat):Int):=fun h=>by rw [Zeu,Zeu,List.getElem?_take,if_pos (by omega)]
  rw [Zbf.eq_2,T9.eq_2,hl]
  by_cases h0:0<j
  ·have e:(j:Int) - 1=((j - 1:Nat):Int):=by omega
   rw [if_pos (decide_eq_true (by omega)),if_pos (decide_eq_true (by omega)),Z4 (by omega),e,ht h0,Xk (by omega),Option.bind_some,Option.bind_some,Zgo,Zbb,hl,Z4 (by omega),e,Int.toNat_natCast,Int.toNat_natCast]
   by_cases hx:a[j - 1]=0
   ·rw [if_pos (decide_eq_true hx),if_pos (decide_eq_true hx),Xi (by omega),Zv6 N a hb n (j - 1) (by omega),List.take_take,Nat.min_eq_left (by omega)]
   ·rw [if_neg (by rw [decide_eq_false hx];decide),if_neg (by rw [decide_eq_false hx];decide),Xi (by omega),Xi (by rw [hl];simp only [List.length_nil,maxLen];omega),List.nil_append]
  ·have:j=0:=by omega
   subst this
   rw [if_neg (by decide),if_neg (by decide),Zgo,Zbb,if_neg (by decide),if_neg (by decide),Xi (by omega)]
   exact Xi (by simp [maxLen])
theorem S5 {N:Nat} {a:List Int} (h:Zo a) (hn:a.length<N) (hb:a.length≤1099511627776):Uy N a=some (Zf (Zc a)):=by
 rw [Uy,Zv6 N a hb N a.length (Nat.le_refl _),List.take_length]
 exact Zmp N N a h hn (by omega)
theorem Zv8 {N:Nat} {u:Int} (h:0≤u∧u<18446744073709551616) (hn:2<N):Zgp N u=some (Zf u.toNat):=by
 have e1:u32.wrap (Int.tmod u 4294967296)=u % 4294967296:=by rw [Int.tmod_eq_emod_of_nonneg h.1,Ug (by omega)]
 have e2:u32.wrap (u64.wrap (Int.tdiv u 4294967296))=u / 4294967296:=by rw [Int.tdiv_eq_ediv_of_nonneg h.1,Xn (by omega),Ug (by omega)]
 have hl:Zo [u % 4294967296,u / 4294967296]:=.cons (by omega) (.cons (by omega) .nil)
 have e:Zc [u % 4294967296,u / 4294967296]=u.toNat:=by rw [Y9,Y9,Ys];omega
 rw [Zgp,e1,e2,S5 hl (by simpa using hn) (by simp),Option.bind_some,e]
theorem Zdg {a:List Int} (h:Zo a) (k:Nat):Qj a (k:Int)=some ((X1 a k:Nat):Int):=by
 rw [Qj]
 by_cases hk:k<a.length
 ·have:=h.get hk
  rw [if_pos (decide_eq_true (by omega)),Xk hk,Option.bind_some,Xn (by omega),X1,List.getD_eq_getElem?_getD,List.getElem?_eq_getElem hk,Option.getD_some]
  congr 1;omega
 ·rw [if_neg (by rw [decide_eq_false (by omega)];decide),X1,List.getD_eq_getElem?_getD,List.getElem?_eq_none (by omega)];rfl
theorem Zly {a:List Int} (h:Zo a) (k:Nat):Zc (a.take k)<4294967296 ^ k:=by
 have h1:=S0 (h.take k)
 refine Nat.lt_of_lt_of_le h1 (Nat.pow_le_pow_right (by decide) ?_)
 rw [List.length_take];omega
theorem Zpv (N:Nat) (a b:List Int) (ha:Zo a) (hb:Zo b):∀ (n i:Nat),i<4611686018427387904→i<n→Zc (a.drop i)=Zc (b.drop i)→Zd6 N a b n ((i:Int) - 1)=some (if Zc a<Zc b then -1 else if Zc b<Zc a then 1 else 0)
 | 0,i,_,h,_=>by omega
 | n+1,i,hi,hn,he=>by
  rw [Zd6.eq_2]
  by_cases h0:i=0
  ·subst h0
   rw [if_neg (by decide)]
   rw [List.drop_zero,List.drop_zero] at he
   rw [if_neg (by omega),if_neg (by omega)]
  ·have e:(i:Int) - 1=((i - 1:Nat):Int):=by omega
   have e1:i - 1+1=i:=by omega
   rw [if_pos (decide_eq_true (by omega)),e,Zdg ha,Zdg hb,Option.bind_some,Option.bind_some]
   have va:=Td a (i - 1)
   have vb:=Td b (i - 1)
   rw [Tc a,e1] at va
   rw [Tc b,e1,← he] at vb
   have la:=Zly ha (i - 1)
   have lb:=Zly hb (i - 1)
   have key:∀ x y:Nat,x<y→4294967296 ^ (i - 1) * (x+4294967296 * Zc (a.drop i))+4294967296 ^ (i - 1)≤4294967296 ^ (i - 1) * (y+4294967296 * Zc (a.drop i)):=fun x y hxy=>by
    rw [← Nat.mul_succ];exact Nat.mul_le_mul_left _ (by omega)
   generalize 4294967296 ^ (i - 1)=Q at *
   by_cases hlt:X1 a (i - 1)<X1 b (i - 1)
   ·have:=key _ _ hlt
    rw [if_pos (decide_eq_true (by omega)),if_pos (by omega)]
   ·rw [if_neg (by rw [decide_eq_false (by omega)];decide)]
    by_cases hgt:X1 b (i - 1)<X1 a (i - 1)
    ·have:=key _ _ hgt
     rw [if_pos (decide_eq_true (by omega)),if_neg (by omega),if_pos (by omega)]
    ·rw [if_neg (by rw [decide_eq_false (by omega)];decide),Z4 (by omega)]
     exact Zpv N a b ha hb n (i - 1) (by omega) (by omega) (by rw [Tc a,Tc b,e1,he];omega)
theorem Zpw {N:Nat} {a b:List Int} (ha:Zo a) (hb:Zo b) (h1:a.length<N) (h2:b.length<N) (h3:a.length≤1099511627776) (h4:b.length≤1099511627776):
  Zd5 N a b=some (if Zc a<Zc b then -1 else if Zc b<Zc a then 1 else 0):=by
 have dz:∀ (l:List Int) (k:Nat),l.length≤k→Zc (l.drop k)=0:=fun l k h=>by rw [List.drop_eq_nil_of_le h];rfl
 rw [Zd5]
 by_cases h:a.length<b.length
 ·rw [if_pos (decide_eq_true (by omega)),Zgj,Z4 (by omega)]
  exact Zpv N a b ha hb N b.length (by omega) h2 (by rw [dz a _ (by omega),dz b _ (by omega)])
 ·rw [if_neg (by rw [decide_eq_false (by omega)];decide),Zgj,Z4 (by omega)]
  exact Zpv N a b ha hb N a.length (by omega) h1 (by rw [dz a _ (by omega),dz b _ (by omega)])
theorem Zw3 {s:Int} (h:0≤s∧s<18446744073709551616):u32.wrap (Int.tmod s 4294967296)=((s.toNat % 4294967296:Nat):Int):=by
 rw [Int.tmod_eq_emod_of_nonneg h.1,Ug (by omega)];omega
theorem Zw2 {s:Int} (h:0≤s∧s<18446744073709551616):u64.wrap (Int.tdiv s 4294967296)=((s.toNat / 4294967296:Nat):Int):=by
 rw [Int.tdiv_eq_ediv_of_nonneg h.1,Xn (by omega)];omega
theorem Zpc {S Q A B C:Nat} (h:A=B+4294967296 * C):S+Q * B+Q * 4294967296 * C=S+Q * A:=by
 subst h;grind
theorem Zvq (N:Nat) (a b:List Int) (ha:Zo a) (hb:Zo b) (hN:a.length+b.length+2<N) (hs:a.length+b.length<1099511627000):∀ (n i:Nat) (out:List Int) (c:Nat),out.length=i→Zo out→c≤1→i≤a.length+b.length+2→(i≤a.length+b.length+1∨c=0)→a.length+b.length+3≤n+i→
  Sx N a b n out (c:Int) (i:Int)=some (Zf (Zc out+4294967296 ^ i * (c+Zc (a.drop i)+Zc (b.drop i))))
 | 0,i,out,c,_,_,_,h1,_,h2=>by omega
 | n+1,i,out,c,ho,hO,hc,h1,h2,h3=>by
  have go:(i<a.length∨i<b.length∨0<c)→Zin a b out (c:Int) (i:Int) (Sx N a b n)=some (Zf (Zc out+4294967296 ^ i * (c+Zc (a.drop i)+Zc (b.drop i)))):=fun hgo=>by
   have la:=Zdf ha i
   have lb:=Zdf hb i
   have es:u64.wrap (u64.wrap ((c:Int)+((X1 a i:Nat):Int))+((X1 b i:Nat):Int))=((c+X1 a i+X1 b i:Nat):Int):=by
    rw [Xn (x:=(c:Int)+_) (by omega),Xn (by omega)];omega
   rw [Zin,Zdg ha,Zdg hb,Option.bind_some,Option.bind_some,es,Zw3 (by omega),Zw2 (by omega),Int.toNat_natCast]
   generalize hsum:c+X1 a i+X1 b i=s
   rw [Xi (by simp only [List.length_singleton,maxLen];omega),Z4 (by omega)]
   have ih:=Zvq N a b ha hb hN hs n (i+1) (out++[((s % 4294967296:Nat):Int)]) (s / 4294967296) (by simp [ho]) (hO.app (.cons (by omega) .nil)) (by omega) (by omega) (by
    by_cases hi:i<a.length∨i<b.length
    ·omega
    ·right
     have za:X1 a i=0:=by rw [X1,List.getD_eq_getElem?_getD,List.getElem?_eq_none (by omega)];rfl
     have zb:X1 b i=0:=by rw [X1,List.getD_eq_getElem?_getD,List.getElem?_eq_none (by omega)];rfl
     omega) (by omega)
   rw [show ((i+1:Nat):Int)=(i:Int)+1 by omega] at ih
   rw [ih,Sz,ho,Y9,Ys,Int.toNat_natCast,Tc a i,Tc b i,Nat.pow_succ]
   congr 2
   rw [Nat.mul_zero,Nat.add_zero]
   refine Zpc ?_
   omega
  rw [Sx.eq_2]
  by_cases hia:i<a.length
  ·rw [if_pos (decide_eq_true (by omega)),Zcs,if_pos rfl];exact go (.inl hia)
  ·rw [if_neg (by rw [decide_eq_false (by omega)];decide)]
   by_cases hib:i<b.length
   ·rw [if_pos (decide_eq_true (by omega)),Zcs,if_pos rfl];exact go (.inr (.inl hib))
   ·rw [if_neg (by rw [decide_eq_false (by omega)];decide),Zcs]
    by_cases hcp:0<c
    ·rw [if_pos (decide_eq_true (by omega))];exact go (.inr (.inr hcp))
    ·have:c=0:=by omega
     subst this
     rw [if_neg (by decide),S5 hO (by omega) (by omega),Option.bind_some,List.drop_eq_nil_of_le (by omega),List.drop_eq_nil_of_le (by omega),Ys]
     simp
theorem Z3i {N:Nat} {a b:List Int} (ha:Zo a) (hb:Zo b) (hN:a.length+b.length+3<N) (hs:a.length+b.length<1099511627000):Zim N a b=some (Zf (Zc a+Zc b)):=by
 have:=Zvq N a b ha hb (by omega) hs N 0 [] 0 rfl .nil (by omega) (by omega) (by omega) (by omega)
 rw [List.drop_zero,List.drop_zero,Ys,Nat.pow_zero] at this
 rw [Zim,show (0:Int)=((0:Nat):Int) from rfl,this]
 simp
theorem Zwe (N:Nat) (a b:List Int) (ha:Zo a) (hb:Zo b) (hN:a.length<N) (hs:a.length<1099511627776):∀ (n i:Nat) (out:List Int) (c:Nat),out.length=i→Zo out→c≤1→i≤a.length→a.length<n+i→c+Zc (b.drop i)≤Zc (a.drop i)→
  Qi N a b n out (c:Int) (i:Int)=some (Zf (Zc out+4294967296 ^ i * (Zc (a.drop i) - (c+Zc (b.drop i)))),true)
 | 0,i,out,c,_,_,_,h1,h2,_=>by omega
 | n+1,i,out,c,ho,hO,hc,h1,h2,h3=>by
  rw [Qi.eq_2]
  by_cases hi:i<a.length
  ·have la:=Zdf ha i
   have lb:=Zdf hb i
   rw [Tc a i,Tc b i] at h3
   have go:∀ (c':Nat) (x:Int),c'≤1→x=((X1 a i+4294967296 * c':Nat):Int)→X1 b i+c≤X1 a i+4294967296 * c'→X1 a i+4294967296 * c'<X1 b i+c+4294967296→Zgr out (c:Int) (i:Int) (Qi N a b n) ((X1 b i:Nat):Int) (c':Int) x=some (Zf (Zc out+4294967296 ^ i * (Zc (a.drop i) - (c+Zc (b.drop i)))),true):=fun c' x hc' hx h5 h6=>by
    have ev:u32.wrap (u64.wrap (x - u64.wrap (((X1 b i:Nat):Int)+(c:Int))))=((X1 a i+4294967296 * c' - (X1 b i+c):Nat):Int):=by
     rw [Xn (x:=((X1 b i:Nat):Int)+(c:Int)) (by omega),Xn (by omega),Ug (by omega)];omega
    rw [Zgr,ev,Xi (by simp only [List.length_singleton,maxLen];omega),Zla,Z4 (by omega)]
    generalize hv:X1 a i+4294967296 * c' - (X1 b i+c)=v
    have ih:=Zwe N a b ha hb hN hs n (i+1) (out++[(v:Int)]) c' (by simp [ho]) (hO.app (.cons (by omega) .nil)) hc' (by omega) (by omega) (by omega)
    rw [show ((i+1:Nat):Int)=(i:Int)+1 by omega] at ih
    rw [ih,Sz,ho,Y9,Ys,Int.toNat_natCast,Tc a i,Tc b i,Nat.pow_succ,Nat.mul_zero,Nat.add_zero]
    congr 3
    refine Zpc ?_
    omega
   rw [if_pos (decide_eq_true (by omega)),Zdg ha,Zdg hb,Option.bind_some,Option.bind_some,Xn (x:=((X1 b i:Nat):Int)+(c:Int)) (by omega)]
   by_cases hlt:X1 a i<X1 b i+c
   ·rw [if_pos (decide_eq_true (by omega))]
    exact go 1 _ (by omega) (by rw [Xn (by omega)];omega) (by omega) (by omega)
   ·rw [if_neg (by rw [decide_eq_false (by omega)];decide)]
    exact go 0 _ (by omega) (by omega) (by omega) (by omega)
  ·rw [if_neg (by rw [decide_eq_false (by omega)];decide),S5 hO (by omega) (by omega),Option.bind_some]
   rw [List.drop_eq_nil_of_le (show a.length≤i by omega),Ys] at h3 ⊢
   rw [show 0 - (c+Zc (b.drop i))=0 by omega]
   simp
theorem Zp2 {N:Nat} {a b:List Int} (ha:Zo a) (hb:Zo b) (h1:a.length<N) (h2:b.length<N) (h3:a.length<1099511627776) (h4:b.length<1099511627776):
  Zgq N a b=some (if Zc a<Zc b then ([],false) else (Zf (Zc a - Zc b),true)):=by
 rw [Zgq,Zpw ha hb h1 h2 (by omega) (by omega),Option.bind_some]
 by_cases h:Zc a<Zc b
 ·rw [if_pos h,if_pos (by decide),if_pos h]
 ·have:=Zwe N a b ha hb h1 h3 N 0 [] 0 rfl .nil (by omega) (by omega) (by omega) (by simpa using Nat.le_of_not_lt h)
  rw [if_neg h,if_neg (by split <;> decide),if_neg h,show (0:Int)=((0:Nat):Int) from rfl,this]
  simp [Ys]
theorem Zvs (N:Nat):∀ (n:Nat) (c:Int) (t:Nat),Xe t<n→t<4294967296→0≤c∧c+(Xe t:Int)≤4611686018427387904→Zd4 N n c (t:Int)=some (c+(Xe t:Int))
 | 0,c,t,h,_,_=>by omega
 | n+1,c,t,h,ht,hc=>by
  rw [Zd4.eq_2]
  have hb:Xe t≤32:=V1.2 (by omega)
  by_cases h0:0<t
  ·have e:u32.wrap (Int.tdiv (t:Int) 2)=((t / 2:Nat):Int):=by rw [Int.tdiv_eq_ediv_of_nonneg (by omega),Ug (by omega)];omega
   have hs:=Zhn t 1
   rw [Nat.pow_one] at hs
   have h1:1≤Xe t:=by rw [Xe,if_neg (by omega)];omega
   rw [if_pos (decide_eq_true (by omega)),e,Z4 (by omega),Zvs N n (c+1) (t / 2) (by omega) (by omega) (by omega)]
   congr 1;omega
  ·have:t=0:=by omega
   subst this
   rw [if_neg (by decide),Zew];simp
theorem Z3l {N:Nat} {a:List Int} (h:Zo a) (hn:a.length+32<N) (hb:a.length≤1099511627776):Zip N a=some ((Xe (Zc a):Nat):Int):=by
 have hl:=Y2 h
 rw [Zip,S5 h (by omega) hb,Option.bind_some]
 by_cases h0:(Zf (Zc a)).length=0
 ·have:Zc a=0:=Zff.1 (List.eq_nil_of_length_eq_zero h0)
  rw [if_pos (decide_eq_true (by omega)),this,Zew];rfl
 ·have hp:0<(Zf (Zc a)).length:=by omega
  have e:((Zf (Zc a)).length:Int) - 1=(((Zf (Zc a)).length - 1:Nat):Int):=by omega
  have hx:=(Xg (Zc a)).get (k:=(Zf (Zc a)).length - 1) (by omega)
  have hne:=Zks hp
  have hs:=Zfd hp
  have e2:(Zf (Zc a))[(Zf (Zc a)).length - 1]=(((Zf (Zc a))[(Zf (Zc a)).length - 1]).toNat:Int):=by omega
  have hb2:Xe ((Zf (Zc a))[(Zf (Zc a)).length - 1]).toNat≤32:=V1.2 (by omega)
  rw [if_neg (by rw [decide_eq_false (by omega)];decide),Z4 (by omega),e,Xk (by omega),Option.bind_some,e2,Z4 (by omega),Zvs N N _ _ (by omega) (by omega) (by omega)]
  have hb:=Zqq (a:=(Zf (Zc a)).take ((Zf (Zc a)).length - 1)) (x:=(Zf (Zc a))[(Zf (Zc a)).length - 1]) ((Xg _).take _) (by omega)
  rw [hs,Z9,List.length_take,Nat.min_eq_left (by omega)] at hb
  rw [hb]
  congr 1
theorem Zxs (T l R k s:Nat) (hT:T<4294967296 ^ k) (hs:s<32):(T+4294967296 ^ k * (l+4294967296 * R)) / 2 ^ (32 * k+s) % 2=l / 2 ^ s % 2:=by
 have e:(4294967296:Nat) ^ k=2 ^ (32 * k):=by rw [show (4294967296:Nat)=2 ^ 32 by decide,← Nat.pow_mul]
 have hp:0<4294967296 ^ k:=Nat.pow_pos (by decide)
 rw [Nat.pow_add,← e,← Nat.div_div_eq_div_mul,Nat.add_mul_div_left _ _ hp,Nat.div_eq_of_lt hT,Nat.zero_add]
 have pw:(4294967296:Nat)=2 ^ s * (2 * 2 ^ (31 - s)):=by
  rw [Nat.mul_left_comm,← Nat.pow_add,show s+(31 - s)=31 by omega]
 have e2:l+4294967296 * R=l+2 ^ s * (2 * (2 ^ (31 - s) * R)):=by
  conv=>lhs;rw [pw]
  rw [Nat.mul_assoc,Nat.mul_assoc]
 rw [e2,Nat.add_mul_div_left _ _ (Nat.two_pow_pos s),Nat.add_mul_mod_self_left]
theorem Z3k {a:List Int} (h:Zo a) {i:Nat} (hi:i<4611686018427387904):Zio a (i:Int)=some ((Zc a / 2 ^ i % 2:Nat):Int):=by
 have hl:=Zdf h (i / 32)
 have e1:i64.wrap (Int.tdiv (i:Int) 32)=((i / 32:Nat):Int):=by rw [Int.tdiv_eq_ediv_of_nonneg (by omega),Z4 (by omega)];omega
 have e2:Int.tmod (i:Int) 32=((i % 32:Nat):Int):=by rw [Int.tmod_eq_emod_of_nonneg (by omega)];omega
 rw [Zio,e1,Zdg h,Option.bind_some,e2,Xi (by omega),Zmm _ _ _ (by simp only [IntKind.bits];omega)]
 have hd:=Nat.div_le_self (X1 a (i / 32)) (2 ^ (i % 32))
 have e3:=Zxs (Zc (a.take (i / 32))) (X1 a (i / 32)) (Zc (a.drop (i / 32+1))) (i / 32) (i % 32) (Zly h _) (by omega)
 rw [← Tc a,← Td,show 32 * (i / 32)+i % 32=i by omega] at e3
 rw [e3]
 generalize X1 a (i / 32) / 2 ^ (i % 32)=x at *
 rw [Ug (by omega),Int.tmod_eq_emod_of_nonneg (by omega)]
 congr 1
theorem Zvu (N:Nat) (a:List Int) (ha:Zo a) (hs:a.length<1099511627776):∀ (n i:Nat) (out:List Int) (c:Nat),out.length=i→Zo out→c≤1→i≤a.length→a.length<n+i→
  ∃ o,Zd9 N a n out (c:Int) (i:Int)=some o∧o.length≤a.length+1∧Zo o∧Zc o=Zc out+4294967296 ^ i * (c+2 * Zc (a.drop i))
 | 0,i,out,c,_,_,_,h1,h2=>by omega
 | n+1,i,out,c,ho,hO,hc,h1,h2=>by
  rw [Zd9.eq_2]
  by_cases hi:i<a.length
  ·have ga:=ha.get hi
   have es:u64.wrap ((c:Int)+u64.wrap (2 * u64.wrap a[i]))=((c+2 * (a[i]).toNat:Nat):Int):=by
    rw [Xn (x:=a[i]) (by omega),Xn (x:=2 * _) (by omega),Xn (by omega)];omega
   rw [if_pos (decide_eq_true (by omega)),Xk hi,Option.bind_some,es,Zw3 (by omega),Zw2 (by omega),Int.toNat_natCast]
   generalize hS:c+2 * (a[i]).toNat=S
   rw [Xi (by simp only [List.length_singleton,maxLen];omega),Z4 (by omega)]
   obtain ⟨o,q1,q2,q3,q4⟩:=Zvu N a ha hs n (i+1) (out++[((S % 4294967296:Nat):Int)]) (S / 4294967296) (by simp [ho]) (hO.app (.cons (by omega) .nil)) (by omega) (by omega) (by omega)
   rw [show ((i+1:Nat):Int)=(i:Int)+1 by omega] at q1
   refine ⟨o,q1,q2,q3,?_⟩
   rw [q4,Sz,ho,Y9,Ys,Int.toNat_natCast,Un hi,Nat.pow_succ,Nat.mul_zero,Nat.add_zero]
   refine Zpc ?_
   omega
  ·have hia:i=a.length:=by omega
   rw [if_neg (by rw [decide_eq_false (by omega)];decide)]
   by_cases hcp:0<c
   ·rw [if_pos (decide_eq_true (by omega)),Xi (by simp only [List.length_singleton,maxLen];omega),Zgt,Ug (by omega)]
    refine ⟨_,rfl,by simp;omega,hO.app (.cons (by omega) .nil),?_⟩
    rw [Sz,ho,Y9,Ys,Int.toNat_natCast,List.drop_eq_nil_of_le (by omega),Ys]
   ·have:c=0:=by omega
    subst this
    rw [if_neg (by decide),Zgt]
    refine ⟨_,rfl,by omega,hO,?_⟩
    rw [List.drop_eq_nil_of_le (by omega),Ys];simp
theorem Zvv {N:Nat} {a:List Int} {c:Nat} (ha:Zo a) (hc:c≤1) (hN:a.length<N) (hs:a.length<1099511627776):∃ o,Zgs N a (c:Int)=some o∧o.length≤a.length+1∧Zo o∧Zc o=2 * Zc a+c:=by
 obtain ⟨o,q1,q2,q3,q4⟩:=Zvu N a ha hs N 0 [] c rfl .nil hc (by omega) (by omega)
 refine ⟨o,?_,q2,q3,?_⟩
 ·rw [Zgs,Xn (by omega)];exact q1
 ·rw [q4,Ys,Nat.pow_zero,List.drop_zero];omega
theorem Z08 (Q e o2 r S v L:Nat) (h:r * 4294967296+e=2 * v+o2) (hS:S=Q * (o2+2 * (v+4294967296 * L))):S=Q * e+Q * 4294967296 * (r+2 * L):=by
 subst hS
 have:Q * (r * 4294967296+e)=Q * (2 * v+o2):=by rw [h]
 grind
theorem Zv4 (N:Nat) (a:List Int) (ha:Zo a) (hN:a.length<N) (hs:a.length<1099511627776):∀ (n j:Nat) (out:List Int) (r:Nat),out.length=a.length→Zo out→r≤1→j≤a.length→j<n→Zc (out.take j)=0→
  ∃ v,Zea N a n out (r:Int) ((j:Int) - 1)=some (Zf v)∧∃ ρ,ρ≤1∧2 * v+ρ=Zc (a.take j)+4294967296 ^ j * (r+2 * Zc (out.drop j))
 | 0,j,out,r,_,_,_,_,h,_=>by omega
 | n+1,j,out,r,ho,hO,hr,hj,hn,hz=>by
  rw [Zea.eq_2]
  by_cases h0:j=0
  ·subst h0
   rw [if_neg (by decide),S5 hO (by omega) (by omega),Option.bind_some]
   refine ⟨_,rfl,r,hr,?_⟩
   rw [List.take_zero,Ys,List.drop_zero,Nat.pow_zero];omega
  ·have e:(j:Int) - 1=((j - 1:Nat):Int):=by omega
   have e1:j - 1+1=j:=by omega
   have hk:j - 1<a.length:=by omega
   have g:=ha.get hk
   have es:u64.wrap (u64.wrap ((r:Int) * 4294967296)+u64.wrap a[j - 1])=((r * 4294967296+(a[j - 1]).toNat:Nat):Int):=by
    rw [Xn (x:=a[j - 1]) (by omega),Xn (x:=(r:Int) * 4294967296) (by omega),Xn (by omega)];omega
   rw [if_pos (decide_eq_true (by omega)),e,Xk hk,Option.bind_some,Xk (by omega),Option.bind_some,Option.bind_some,Int.toNat_natCast,es,Z4 (by omega)]
   generalize hS:r * 4294967296+(a[j - 1]).toNat=S
   have e2:u32.wrap (u64.wrap (Int.tdiv (S:Int) 2))=((S / 2:Nat):Int):=by rw [Int.tdiv_eq_ediv_of_nonneg (by omega),Xn (by omega),Ug (by omega)];omega
   have e3:Int.tmod (S:Int) 2=((S % 2:Nat):Int):=by rw [Int.tmod_eq_emod_of_nonneg (by omega)];omega
   have zt:Zc (out.take (j - 1))=0:=by
    have:=Td (out.take j) (j - 1)
    rw [List.take_take,Nat.min_eq_left (by omega),hz] at this
    omega
   rw [e2,e3]
   obtain ⟨v,q1,ρ,q2,q3⟩:=Zv4 N a ha hN hs n (j - 1) (out.set (j - 1) ((S / 2:Nat):Int)) (S % 2) (by rw [List.length_set];exact ho) (hO.set _ (by omega)) (by omega) (by omega) (by omega) (by rw [Zc5 _ (Nat.le_refl _)];exact zt)
   refine ⟨v,q1,ρ,q2,?_⟩
   rw [q3]
   have t1:=Zo8 hk
   have t2:Zc ((out.set (j - 1) ((S / 2:Nat):Int)).drop (j - 1))=S / 2+4294967296 * Zc (out.drop (j - 1+1)):=by
    rw [Un (by rw [List.length_set];omega),List.getElem_set_self,Zan _ (by omega),Int.toNat_natCast]
   rw [e1] at t1 t2
   have hp:(4294967296:Nat) ^ j=4294967296 ^ (j - 1) * 4294967296:=by rw [← Nat.pow_succ,show (j - 1).succ=j by omega]
   rw [t1,t2,hp,Nat.add_assoc]
   congr 1
   exact Z08 _ _ (S % 2) _ _ (S / 2) _ (by omega) rfl
theorem Zmj {N:Nat} {a:List Int} (ha:Zo a) (hN:a.length<N) (hs:a.length<1099511627776):Zcu N a=some (Zf (Zc a / 2)):=by
 obtain ⟨v,q1,ρ,q2,q3⟩:=Zv4 N a ha hN hs N a.length (List.replicate a.length 0) 0 (by rw [List.length_replicate]) (.zeros _) (by omega) (Nat.le_refl _) hN (by rw [List.take_replicate];exact S1 _)
 rw [Zcu,Xi (by simp only [maxLen];omega),Z4 (by omega)]
 rw [List.take_length,List.drop_replicate,S1] at q3
 refine Eq.trans q1 ?_
 rw [show v=Zc a / 2 by omega]
theorem Z2g {a:List Int} (h:Zo a):Zc a % 2=X1 a 0 % 2:=by
 have:=Tc a 0
 rw [List.drop_zero] at this
 omega
theorem Zmi {a:List Int} (h:Zo a):Zct a=some (decide (Zc a % 2=0)):=by
 rw [Zct,Z2g h]
 by_cases h0:a.length=0
 ·have:a=[]:=List.eq_nil_of_length_eq_zero h0
  subst this
  rfl
 ·have g:=h.get (k:=0) (by omega)
  have ea:X1 a 0=(a[0]).toNat:=by rw [X1,List.getD_eq_getElem?_getD,List.getElem?_eq_getElem (by omega),Option.getD_some]
  rw [if_neg (by rw [decide_eq_false (by omega)];decide),show (0:Int)=((0:Nat):Int) from rfl,Xk (by omega),Option.bind_some,Zis,Int.tmod_eq_emod_of_nonneg (by omega),ea]
  congr 1
  exact decide_eq_decide.2 (by omega)
theorem Z2r {q:List Int} (hq:Zo q) {i:Nat} (hi:i<32 * q.length) (hd:2 ^ (i+1) ∣ Zc q):
  ∃ x:Nat,Zn q ((i / 32:Nat):Int)=some (x:Int)∧u32.wrap ((x:Int)+Xt .u32 1 ((i % 32:Nat):Int))=((x+2 ^ (i % 32):Nat):Int)∧x+2 ^ (i % 32)<4294967296∧Zc (q.set (i / 32) ((x+2 ^ (i % 32):Nat):Int))=Zc q+2 ^ i:=by
 have hk:i / 32<q.length:=by omega
 have g:=hq.get hk
 have hs:i % 32<32:=Nat.mod_lt _ (by decide)
 have hp:=Nat.two_pow_pos (i % 32)
 have e32:(4294967296:Nat) ^ (i / 32)=2 ^ (32 * (i / 32)):=by rw [show (4294967296:Nat)=2 ^ 32 by decide,← Nat.pow_mul]
 have eb:(4294967296:Nat)=2 ^ (i % 32+1) * 2 ^ (31 - i % 32):=by rw [← Nat.pow_add,show i % 32+1+(31 - i % 32)=32 by omega]
 have pi:(2:Nat) ^ (i+1)=4294967296 ^ (i / 32) * 2 ^ (i % 32+1):=by rw [e32,← Nat.pow_add];congr 1;omega
 have pi0:(2:Nat) ^ i=4294967296 ^ (i / 32) * 2 ^ (i % 32):=by rw [e32,← Nat.pow_add];congr 1;omega
 have sp:=Td q (i / 32)
 rw [Un hk] at sp
 have tl:=Zly hq (i / 32)
 have hQ:0<4294967296 ^ (i / 32):=Nat.pow_pos (by decide)
 rw [pi] at hd
 -- the limb's lower bits are none
 have hx:2 ^ (i % 32+1) ∣ (q[i / 32]).toNat:=by
  have d1:4294967296 ^ (i / 32) ∣ Zc q:=Nat.dvd_trans ⟨_,rfl⟩ hd
  have d2:4294967296 ^ (i / 32) ∣ Zc (q.take (i / 32)):=by
   rw [sp] at d1
   exact (Nat.dvd_add_left ⟨_,rfl⟩).1 d1
  have z:Zc (q.take (i / 32))=0:=Nat.eq_zero_of_dvd_of_lt d2 tl
  rw [z,Nat.zero_add] at sp
  rw [sp] at hd
  have d3:=Nat.dvd_of_mul_dvd_mul_left hQ hd
  have d4:2 ^ (i % 32+1) ∣ 4294967296 * Zc (q.drop (i / 32+1)):=by
   conv=>rhs;rw [eb]
   exact ⟨2 ^ (31 - i % 32) * Zc (q.drop (i / 32+1)),by rw [Nat.mul_assoc]⟩
  exact (Nat.dvd_add_left d4).1 d3
 obtain ⟨y,hy⟩:=hx
 have hlt:(q[i / 32]).toNat+2 ^ (i % 32)<4294967296:=by
  have h1:2 ^ (i % 32+1) * y<2 ^ (i % 32+1) * 2 ^ (31 - i % 32):=by rw [← hy,← eb];omega
  have h2:=Nat.lt_of_mul_lt_mul_left h1
  have h3:=Nat.mul_le_mul_left (2 ^ (i % 32+1)) (show y+1≤2 ^ (31 - i % 32) from h2)
  rw [← eb,Nat.mul_add,← hy,Nat.pow_succ] at h3
  omega
 refine ⟨(q[i / 32]).toNat,by rw [Xk hk];congr 1;omega,?_,hlt,?_⟩
 ·rw [show (1:Int)=((1:Nat):Int) from rfl,Zp4 hs (.inl rfl),Nat.one_mul,Ug (x:=((2 ^ (i % 32):Nat):Int)) (by omega),Ug (by omega)]
  omega
 ·have h1:=Sa hk (((q[i / 32]).toNat+2 ^ (i % 32):Nat):Int)
  rw [Int.toNat_natCast,Nat.mul_add,← pi0] at h1
  omega
theorem Zpy (N:Nat) (a y:List Int) (ha:Zo a) (hy:Zo y) (hy0:0<Zc y) (hly:y.length+8<N) (hs:y.length<549755813888) (hla:a.length<549755813888) (hyc:(Zf (Zc y)).length=y.length) (hNa:a.length+y.length+8<N):∀ (n j:Nat) (r q:List Int),j<n→j<4611686018427387904→j≤32 * q.length→q.length≤a.length→Zo q→r=Zf (Zc r)→Zc r<Zc y→2 ^ j ∣ Zc q→Zc a / 2 ^ j=Zc q / 2 ^ j * Zc y+Zc r→
  Zbd N a y n r ((j:Int) - 1) q=some (Zf (Zc a / Zc y),Zf (Zc a % Zc y),0)
 | 0,j,r,q,h,_,_,_,_,_,_,_,_=>by omega
 | n+1,j,r,q,hjn,hj,hjq,hqa,hq,hr,hlt,hd,he=>by
  rw [Zbd.eq_2]
  by_cases h0:j=0
  ·subst h0
   rw [Nat.pow_zero,Nat.div_one,Nat.div_one] at he
   rw [if_neg (by decide),S5 hq (by omega) (by omega),Option.bind_some]
   have h1:Zc a / Zc y=Zc q:=by rw [he,Nat.mul_comm,Nat.mul_add_div hy0,Nat.div_eq_of_lt hlt,Nat.add_zero]
   have h2:Zc a % Zc y=Zc r:=by rw [he,Nat.mul_comm,Nat.mul_add_mod,Nat.mod_eq_of_lt hlt]
   rw [h1,h2,← hr]
  ·have e:(j:Int) - 1=((j - 1:Nat):Int):=by omega
   obtain ⟨i,rfl⟩:∃ i,j=i+1:=⟨j - 1,by omega⟩
   have ei:i+1 - 1=i:=by omega
   rw [e,ei]
   have hrl:r.length≤y.length:=by
    rw [hr,← hyc];exact Vr (Nat.le_of_lt hlt)
   have hlr:Zo r:=by rw [hr];exact Xg _
   have hb:=Nat.mod_lt (Zc a / 2 ^ i) (show 0<2 by decide)
   obtain ⟨d,d1,d2,d3,d4⟩:=Zvv (N:=N) (a:=r) (c:=Zc a / 2 ^ i % 2) hlr (by omega) (by omega) (by omega)
   have h2:Zc a / 2 ^ i=2 * (Zc a / 2 ^ (i+1))+Zc a / 2 ^ i % 2:=by
    rw [Nat.pow_succ,← Nat.div_div_eq_div_mul];omega
   obtain ⟨qq,hqq⟩:=hd
   have hq1:Zc q / 2 ^ (i+1)=qq:=by rw [hqq,Nat.mul_div_cancel_left _ (Nat.two_pow_pos _)]
   have hq2:Zc q / 2 ^ i=2 * qq:=by rw [hqq,Nat.pow_succ,Nat.mul_assoc,Nat.mul_div_cancel_left _ (Nat.two_pow_pos _)]
   rw [hq1] at he
   rw [if_pos (decide_eq_true (by omega)),Z3k ha (by omega),Option.bind_some,d1,Option.bind_some,S5 d3 (by omega) (by omega),Option.bind_some,Zpw (Xg _) hy (by have:=Y2 d3;omega) (by omega) (by have:=Y2 d3;omega) (by omega),Option.bind_some,Z9,d4]
   rw [he] at h2
   have hkey:Zc a / 2 ^ i=2 * qq * Zc y+(2 * Zc r+Zc a / 2 ^ i % 2):=by
    have:2 * qq * Zc y=2 * (qq * Zc y):=Nat.mul_assoc _ _ _
    omega
   generalize hbit:Zc a / 2 ^ i % 2=b at *
   by_cases hge:Zc y≤2 * Zc r+b
   ·rw [if_pos (by rw [if_neg (by omega)];split <;> decide)]
    obtain ⟨x,x1,x2,x3,x4⟩:=Z2r hq (i:=i) (by omega) ⟨qq,hqq⟩
    have e1:i64.wrap (Int.tdiv (i:Int) 32)=((i / 32:Nat):Int):=by rw [Int.tdiv_eq_ediv_of_nonneg (by omega),Z4 (by omega)];omega
    have e2:Int.tmod (i:Int) 32=((i % 32:Nat):Int):=by rw [Int.tmod_eq_emod_of_nonneg (by omega)];omega
    have ll:(Zf (2 * Zc r+b)).length≤y.length+1:=by rw [← d4];exact Nat.le_trans (Y2 d3) (by omega)
    rw [Zp2 (Xg _) hy (by omega) (by omega) (by omega) (by omega),Option.bind_some,Z9,if_neg (by omega),e1,e2,x1,Option.bind_some,Xi (by omega),x2,Option.bind_some,Int.toNat_natCast,Zgl,Z4 (by omega)]
    have ih:=Zpy N a y ha hy hy0 hly hs hla hyc hNa n i (Zf (2 * Zc r+b - Zc y)) (q.set (i / 32) ((x+2 ^ (i % 32):Nat):Int)) (by omega) (by omega) (by rw [List.length_set];omega) (by rw [List.length_set];exact hqa) (hq.set _ ⟨Int.natCast_nonneg _,Int.ofNat_lt.2 x3⟩) (by rw [Z9]) (by rw [Z9];omega) (by
     rw [x4,hqq];exact Nat.dvd_add ⟨2 * qq,by rw [Nat.pow_succ,Nat.mul_assoc]⟩ (Nat.dvd_refl _)) (by
     have:Zc (q.set (i / 32) ((x+2 ^ (i % 32):Nat):Int)) / 2 ^ i=2 * qq+1:=by
      rw [x4,Nat.add_div_right _ (Nat.two_pow_pos _),hq2]
     rw [this,Z9,hkey,Nat.add_mul,Nat.one_mul];omega)
    exact ih
   ·rw [if_neg (by rw [if_pos (by omega)];decide),Zgl,Z4 (by omega)]
    exact Zpy N a y ha hy hy0 hly hs hla hyc hNa n i (Zf (2 * Zc r+b)) q (by omega) (by omega) (by omega) hqa hq (by rw [Z9]) (by rw [Z9];omega) (by rw [hqq];exact ⟨2 * qq,by rw [Nat.pow_succ,Nat.mul_assoc]⟩) (by rw [hq2,Z9,hkey])
theorem Zvt {N:Nat} {a b:List Int} (ha:Zo a) (hb:Zo b) (hN:32 * a.length+(Zf (Zc b)).length+48<N) (hbN:b.length<N) (hs:a.length+(Zf (Zc b)).length<274877906944) (hbs:b.length≤1099511627776):
  Zgk N a b=some (if Zc b=0 then ([],[],11) else (Zf (Zc a / Zc b),Zf (Zc a % Zc b),0)):=by
 have la:=Y2 ha
 rw [Zgk,S5 hb (by omega) (by omega),Option.bind_some]
 by_cases h0:Zc b=0
 ·rw [h0,W8,if_pos (by decide),if_pos rfl]
 ·have hbp:=Sq h0
  have hbl:=(Zj5 (Zc a)).2
  rw [if_neg (by rw [decide_eq_false (by omega)];decide),if_neg h0,Z3l ha (by omega) (by omega),Option.bind_some]
  have e1:i64.wrap (Int.tdiv (i64.wrap (((Xe (Zc a):Nat):Int)+31)) 32)=(((Xe (Zc a)+31) / 32:Nat):Int):=by
   rw [Z4 (x:=((Xe (Zc a):Nat):Int)+31) (by omega),Int.tdiv_eq_ediv_of_nonneg (by omega),Z4 (by omega)];omega
  rw [e1,Xi (by simp only [maxLen,Int.toNat_natCast];omega),Int.toNat_natCast,Z4 (by omega)]
  have:=Zpy N a (Zf (Zc b)) ha (Xg _) (by rw [Z9];omega) (by omega) (by omega) (by omega) (by rw [Z9]) (by omega) N (Xe (Zc a)) [] (List.replicate ((Xe (Zc a)+31) / 32) 0) (by omega) (by omega) (by rw [List.length_replicate];omega) (by rw [List.length_replicate];omega) (.zeros _) (by rw [Ys,W8]) (by rw [Z9,Ys];omega) (by rw [S1];exact ⟨0,rfl⟩) (by
   rw [S1,Ys,Nat.zero_div,Nat.zero_mul]
   exact Nat.div_eq_of_lt (V1.1 (Nat.le_refl _)))
  rw [Z9] at this
  exact this
theorem Zz2 {x:Nat} (h:x % 2=1):Nat.Coprime 2 x:=by
 rw [Nat.coprime_iff_gcd_eq_one,Nat.gcd_rec,h,Nat.gcd_one_left]
theorem Zsx {x y k:Nat} (h:y % 2=1):Nat.gcd (2 ^ k * x) y=Nat.gcd x y:=by
 induction k with
 | zero=>rw [Nat.pow_zero,Nat.one_mul]
 | succ k ih=>rw [Nat.pow_succ,Nat.mul_comm (2 ^ k),Nat.mul_assoc,(Zz2 h).gcd_mul_left_cancel,ih]
theorem Z06 {x y k:Nat} (h:x % 2=1):Nat.gcd x (2 ^ k * y)=Nat.gcd x y:=by
 rw [Nat.gcd_comm,Zsx h,Nat.gcd_comm]
theorem Zj6 {x:Nat} (h:x≠0):1≤Xe x:=by rw [Xe,if_neg h];omega
theorem Zj4 (x:Nat):Xe (x / 2)=Xe x - 1:=by
 have:=Zhn x 1
 rwa [Nat.pow_one] at this
theorem Zhm {x y:Nat} (h:x≤y):Xe x≤Xe y:=V1.2 (Nat.lt_of_le_of_lt h (V1.1 (Nat.le_refl _)))
theorem Zhl {M x:Nat} (h:(Zf x).length≤M):Xe x≤32 * M:=by have:=(Zj5 x).2;omega
theorem Zte {x xo k:Nat} (h:x=2 ^ k * xo):xo≤x:=by
 rw [h]
 have:=Nat.mul_le_mul_right xo (Nat.two_pow_pos k)
 omega
section
variable {N M:Nat} (hN:100 * M+64<N) (hM:M<17179869200)
include hN hM
theorem Zv2 (t:Nat):∀ (n i:Nat) (x:List Int),i≤t→t - i<n→t≤32 * M→Zo x→x.length+(t - i)≤33 * M→
  ∃ g,Zd8 N (t:Int) n x (i:Int)=some g∧Zo g∧Zc g=2 ^ (t - i) * Zc x∧g.length≤x.length+(t - i)
 | 0,i,x,_,h,_,_,_=>by omega
 | n+1,i,x,hi,hn,ht,hx,hl=>by
  rw [Zd8.eq_2]
  by_cases h0:i<t
  ·obtain ⟨d,d1,d2,d3,d4⟩:=Zvv (N:=N) (a:=x) (c:=0) hx (by omega) (by omega) (by omega)
   rw [show ((0:Nat):Int)=0 from rfl] at d1
   obtain ⟨g,g1,g2,g3,g4⟩:=Zv2 t n (i+1) d (by omega) (by omega) ht d3 (by omega)
   rw [show ((i+1:Nat):Int)=(i:Int)+1 by omega] at g1
   rw [if_pos (decide_eq_true (by omega)),d1,Option.bind_some,Z4 (by omega)]
   refine ⟨g,g1,g2,?_,by omega⟩
   rw [g3,d4,Nat.add_zero (2 * Zc x),← Nat.mul_assoc,← Nat.pow_succ]
   congr 2;omega
  ·have:i=t:=by omega
   subst this
   rw [if_neg (by rw [decide_eq_false (by omega)];decide)]
   exact ⟨x,rfl,hx,by simp,by omega⟩
theorem Zv1 (kk:List Int→List Int→Option R2) {x:Nat} (hx:(Zf x).length≤M):∀ (n y:Nat),y≠0→Xe y<n→(Zf y).length≤M→
  ∃ yo k,y=2 ^ k * yo∧yo % 2=1∧Zag N kk (Zf x) n (Zf y)=kk (Zf (min x yo)) (Zf (max x yo - min x yo))
 | 0,y,_,h,_=>by omega
 | n+1,y,h0,hn,hy=>by
  have hp:=Sq h0
  rw [Zag.eq_2,if_pos (decide_eq_true (by omega)),Zmi (Xg _),Z9,Option.bind_some,Zir]
  by_cases he:y % 2=0
  ·rw [if_pos (decide_eq_true he),Zmj (Xg _) (by omega) (by omega),Option.bind_some,Z9]
   have hb:=Zj4 y
   have h1:=Zj6 h0
   obtain ⟨yo,k,e1,e2,e3⟩:=Zv1 kk hx n (y / 2) (by omega) (by omega) (Nat.le_trans (Vr (Nat.div_le_self _ _)) hy)
   refine ⟨yo,k+1,?_,e2,e3⟩
   rw [Nat.pow_succ,Nat.mul_comm (2 ^ k),Nat.mul_assoc,← e1];omega
  ·rw [if_neg (by rw [decide_eq_false he];decide),Zpw (Xg _) (Xg _) (by omega) (by omega) (by omega) (by omega),Option.bind_some,Z9,Z9]
   refine ⟨y,0,by simp,by omega,?_⟩
   by_cases hxy:y<x
   ·rw [if_pos (by rw [if_neg (by omega),if_pos hxy];decide),Zgn,Zp2 (Xg _) (Xg _) (by omega) (by omega) (by omega) (by omega),Option.bind_some,Z9,Z9,if_neg (by omega),Nat.min_eq_right (by omega),Nat.max_eq_left (by omega)]
   ·rw [if_neg (by split <;> (try split) <;> simp_all <;> omega),Zgn,Zp2 (Xg _) (Xg _) (by omega) (by omega) (by omega) (by omega),Option.bind_some,Z9,Z9,if_neg (by omega),Nat.min_eq_left (by omega),Nat.max_eq_right (by omega)]
theorem Zv0 (kk:List Int→List Int→Option R2) {y:Nat}:∀ (n x:Nat),x≠0→Xe x<n→(Zf x).length≤M→
  ∃ xo k,x=2 ^ k * xo∧xo % 2=1∧Zd7 N (Zf y) kk n (Zf x)=Zag N kk (Zf xo) N (Zf y)
 | 0,x,_,h,_=>by omega
 | n+1,x,h0,hn,hx=>by
  rw [Zd7.eq_2,Zmi (Xg _),Z9,Option.bind_some]
  by_cases he:x % 2=0
  ·rw [if_pos (decide_eq_true he),Zmj (Xg _) (by omega) (by omega),Option.bind_some,Z9]
   have hb:=Zj4 x
   have h1:=Zj6 h0
   obtain ⟨xo,k,e1,e2,e3⟩:=Zv0 kk n (x / 2) (by omega) (by omega) (Nat.le_trans (Vr (Nat.div_le_self _ _)) hx)
   refine ⟨xo,k+1,?_,e2,e3⟩
   rw [Nat.pow_succ,Nat.mul_comm (2 ^ k),Nat.mul_assoc,← e1];omega
  ·rw [if_neg (by rw [decide_eq_false he];decide)]
   exact ⟨x,0,by simp,by omega,rfl⟩
theorem Zv3 (t:Nat) {n x y:Nat} (hx:x≠0) (hy:y≠0) (h:x % 2=1∨y % 2=1) (lx:(Zf x).length≤M) (ly:(Zf y).length≤M):
  ∃ x' y',Uc N (t:Int) (n+1) (Zf x) (Zf y)=Uc N (t:Int) n (Zf x') (Zf y')∧x' % 2=1∧y' % 2=0∧Nat.gcd x' y'=Nat.gcd x y∧(Zf x').length≤M∧(Zf y').length≤M∧(Xe x'+Xe y'≤Xe x+Xe y)∧(y % 2=0→Xe x'+Xe y'+1≤Xe x+Xe y):=by
 have hp:=Sq hy
 have bx:=Zhl lx
 have by_:=Zhl ly
 obtain ⟨xo,k,x1,x2,x3⟩:=Zv0 hN hM (Uc N (t:Int) n) (y:=y) N x hx (by omega) lx
 have lxo:=Zte x1
 obtain ⟨yo,l,y1,y2,y3⟩:=Zv1 hN hM (Uc N (t:Int) n) (x:=xo) (Nat.le_trans (Vr lxo) lx) N y hy (by omega) ly
 have lyo:=Zte y1
 rw [Uc.eq_2,if_pos (decide_eq_true (by omega)),x3,y3]
 have mM:max xo yo≤max x y:=by omega
 have lM:(Zf (max x y)).length≤M:=by
  rcases Nat.le_total x y with h | h
  ·rw [Nat.max_eq_right h];exact ly
  ·rw [Nat.max_eq_left h];exact lx
 have bmm:Xe (min xo yo)+Xe (max xo yo - min xo yo)≤Xe xo+Xe yo:=by
  rcases Nat.le_total xo yo with h | h
  ·rw [Nat.min_eq_left h,Nat.max_eq_right h]
   have:=Zhm (Nat.sub_le yo xo);omega
  ·rw [Nat.min_eq_right h,Nat.max_eq_left h]
   have:=Zhm (Nat.sub_le xo yo);omega
 have b1:=Zhm lxo
 have b2:=Zhm lyo
 refine ⟨_,_,rfl,by omega,by omega,?_,Nat.le_trans (Vr (by omega)) lM,Nat.le_trans (Vr (by omega)) lM,by omega,fun hev=>?_⟩
 ·have g1:Nat.gcd (min xo yo) (max xo yo - min xo yo)=Nat.gcd xo yo:=by
   rcases Nat.le_total xo yo with h | h
   ·rw [Nat.min_eq_left h,Nat.max_eq_right h,Nat.gcd_sub_self_right h]
   ·rw [Nat.min_eq_right h,Nat.max_eq_left h,Nat.gcd_sub_self_right h,Nat.gcd_comm]
  rw [g1,x1,y1]
  rcases h with h | h
  ·have hk:k=0:=by
    rcases Nat.eq_zero_or_pos k with hk | hk
    ·exact hk
    ·obtain ⟨k',rfl⟩:∃ k',k=k'+1:=⟨k - 1,by omega⟩
     rw [x1,Nat.pow_succ,Nat.mul_comm (2 ^ k'),Nat.mul_assoc] at h;omega
   subst hk
   rw [Nat.pow_zero,Nat.one_mul,Z06 x2]
  ·have hl:l=0:=by
    rcases Nat.eq_zero_or_pos l with hk | hk
    ·exact hk
    ·obtain ⟨k',rfl⟩:∃ k',l=k'+1:=⟨l - 1,by omega⟩
     rw [y1,Nat.pow_succ,Nat.mul_comm (2 ^ k'),Nat.mul_assoc] at h;omega
   subst hl
   rw [Nat.pow_zero,Nat.one_mul,Zsx y2]
 ·have:yo≤y / 2:=by
   rcases Nat.eq_zero_or_pos l with hl | hl
   ·subst hl;rw [Nat.pow_zero,Nat.one_mul] at y1;omega
   ·obtain ⟨k',rfl⟩:∃ k',l=k'+1:=⟨l - 1,by omega⟩
    rw [y1,Nat.pow_succ,Nat.mul_comm (2 ^ k'),Nat.mul_assoc,Nat.mul_div_cancel_left _ (by decide)]
    have:=Nat.mul_le_mul_right yo (Nat.two_pow_pos k')
    omega
  have h3:=Zhm this
  rw [Zj4] at h3
  have h4:=Zj6 hy
  omega
theorem Zvz (t:Nat) (ht:t≤32 * M):∀ (n x y:Nat),x % 2=1→y % 2=0→Xe x+Xe y<n→(Zf x).length≤M→(Zf y).length≤M→
  ∃ g,Uc N (t:Int) n (Zf x) (Zf y)=some g∧Zo g∧Zc g=2 ^ t * Nat.gcd x y∧g.length≤33 * M
 | 0,x,y,_,_,h,_,_=>by omega
 | n+1,x,y,hx,hy,hn,lx,ly=>by
  by_cases h0:y=0
  ·subst h0
   rw [Uc.eq_2,W8,if_neg (by decide)]
   obtain ⟨g,g1,g2,g3,g4⟩:=Zv2 hN hM t N 0 (Zf x) (by omega) (by omega) ht (Xg _) (by omega)
   rw [Z9,Nat.sub_zero] at g3
   exact ⟨g,g1,g2,by rw [g3,Nat.gcd_zero_right],by omega⟩
  ·obtain ⟨x',y',e1,e2,e3,e4,e5,e6,_,e7⟩:=Zv3 hN hM t (n:=n) (by omega) h0 (.inl hx) lx ly
   have:=e7 hy
   obtain ⟨g,g1,g2,g3,g4⟩:=Zvz t ht n x' y' e2 e3 (by omega) e5 e6
   exact ⟨g,by rw [e1,g1],g2,by rw [g3,e4],g4⟩
theorem Zvy:∀ (n x y t:Nat),x≠0→y≠0→Xe x<n→t+Xe x≤32 * M→(Zf x).length≤M→(Zf y).length≤M→
  ∃ g,Zbe N n (Zf x) (Zf y) (t:Int)=some g∧Zo g∧Zc g=2 ^ t * Nat.gcd x y∧g.length≤33 * M
 | 0,x,y,t,_,_,h,_,_,_=>by omega
 | n+1,x,y,t,hx,hy,hn,ht,lx,ly=>by
  have bx:=Zhl lx
  have by_:=Zhl ly
  have last:(x % 2=1∨y % 2=1)→∃ g,Uc N (t:Int) N (Zf x) (Zf y)=some g∧Zo g∧Zc g=2 ^ t * Nat.gcd x y∧g.length≤33 * M:=fun h=>by
   obtain ⟨N',hN'⟩:∃ N',N=N'+1:=⟨N - 1,by omega⟩
   obtain ⟨x',y',e1,e2,e3,e4,e5,e6,e7,_⟩:=Zv3 hN hM t (n:=N') hx hy h lx ly
   obtain ⟨g,g1,g2,g3,g4⟩:=Zvz hN hM t (by omega) N' x' y' e2 e3 (by omega) e5 e6
   refine ⟨g,?_,g2,by rw [g3,e4],g4⟩
   rw [← g1,← e1]
   congr 1
  rw [Zbe.eq_2,Zmi (Xg _),Z9,Option.bind_some]
  by_cases hxe:x % 2=0
  ·rw [if_pos (decide_eq_true hxe),Zmi (Xg _),Z9,Option.bind_some,Zgm]
   by_cases hye:y % 2=0
   ·rw [if_pos (decide_eq_true hye),Zmj (Xg _) (by omega) (by omega),Option.bind_some,Zmj (Xg _) (by omega) (by omega),Option.bind_some,Z9,Z9,Z4 (by omega)]
    have hb:=Zj4 x
    have h1:=Zj6 hx
    obtain ⟨g,g1,g2,g3,g4⟩:=Zvy n (x / 2) (y / 2) (t+1) (by omega) (by omega) (by omega) (by omega) (Nat.le_trans (Vr (Nat.div_le_self _ _)) lx) (Nat.le_trans (Vr (Nat.div_le_self _ _)) ly)
    rw [show ((t+1:Nat):Int)=(t:Int)+1 by omega] at g1
    refine ⟨g,g1,g2,?_,g4⟩
    rw [g3,Nat.pow_succ,Nat.mul_assoc,← Nat.gcd_mul_left]
    congr 2 <;> omega
   ·rw [if_neg (by rw [decide_eq_false hye];decide)]
    exact last (.inr (by omega))
  ·rw [if_neg (by rw [decide_eq_false hxe];decide),Zgm,if_neg (by decide)]
   exact last (.inl (by omega))
end
theorem Z3s {N M:Nat} {a b:List Int} (ha:Zo a) (hb:Zo b) (hla:a.length≤M) (hlb:b.length≤M) (hN:100 * M+64<N) (hM:M<17179869200):∃ g,Ziq N a b=some g∧Zo g∧Zc g=Nat.gcd (Zc a) (Zc b)∧g.length≤33 * M:=by
 have la:=Y2 ha
 have lb:=Y2 hb
 rw [Ziq,S5 ha (by omega) (by omega),Option.bind_some,S5 hb (by omega) (by omega),Option.bind_some]
 by_cases h1:Zc a=0
 ·rw [h1,W8,if_pos (by decide),Nat.gcd_zero_left]
  exact ⟨_,rfl,Xg _,Z9 _,by omega⟩
 ·have p1:=Sq h1
  rw [if_neg (by rw [decide_eq_false (by omega)];decide)]
  by_cases h2:Zc b=0
  ·rw [h2,W8,if_pos (by decide),Nat.gcd_zero_right]
   exact ⟨_,rfl,Xg _,Z9 _,by omega⟩
  ·have p2:=Sq h2
   have bx:=Zhl (x:=Zc a) (by omega)
   rw [if_neg (by rw [decide_eq_false (by omega)];decide)]
   obtain ⟨g,g1,g2,g3,g4⟩:=Zvy hN hM N (Zc a) (Zc b) 0 h1 h2 (by omega) (by omega) (by omega) (by omega)
   exact ⟨g,g1,g2,by rw [g3];simp,g4⟩
def Zgu (aa:Bool) (ab:List Int):Option R3:=
  some (aa,ab)
def Zeb (N:Nat) (ab:Bool) (ac:List Int):Option R3:=
  (Uy N ac).bind fun aa=>if ab=true then (Zgu (decide (0<(aa.length:Int))) aa) else (Zgu false aa)
theorem Znc {N ao:Nat} {a1:Option Addr} {col:Zd} {w0:World} {ap:Bool} {ah:R2} {r:R3} (c1:Nat) (hm:Zeb N ap ah=some r) (h1:Sl (Za.int .u32) col w0 a1 ao ah):
    Calls Tryz.prog 140 #[.bool ap,.slice a1 ah.length ao] w0 (fun e w'=>∃ (col':Zd) (ra1:Option Addr) (rc2:Nat),e= .returned ((.agg #[.bool r.1,.slice ra1 r.2.length rc2]))∧Zg col w0 col' w'∧Zb (Za.int .u32) 77 c1 col' w' ra1 rc2 r.2):=by
 refine Yw (m:=16) func140 rfl rfl rfl ?_;rw [Zeb.eq_1] at hm;have aa:=St.start col w0;refine go ?_;refine Xa (col:=(Zk col)) #[.bool false,.slice none (([]:List Int).length) 0] 1 zeroValue33 ?_;intro ax a4 a5 ay ac;refine go ?_;obtain ⟨ad,az,hm⟩:=bZ hm;replace h1:=h1.keep (Zl.start col w0);replace aa:=aa.grow ay;refine Zi (Sn 2 az (h1.ks aa)) ?_;rintro _ a6 ⟨a7,aq,ar,rfl,au,ab⟩;refine ⟨_,rfl,?_⟩;refine T0 rfl<|Zm<|Zw ?_;replace ac:=ac.gr au;replace aa:=aa.grow au;refine Wp.cutK [4,1000000] (fun f ae=>∃ af ai aj ak ag,Zgu ai ag=some r∧St w0 (Zk col) af ae∧Zb (Za.int .u32) 77 3 af ae aj ak ag∧Zj 33 1 af ae ax #[.bool ai,.slice aj ag.length ak]) ?_ ?_
 ·intro f ae hJ;obtain ⟨af,ai,aj,ak,ag,hm,aa,a0,ac⟩:=hJ;rw [Zgu.eq_1] at hm;refine Wx ?_;cases hm;exact ⟨rfl,_,ra ac.atN,_,_,_,rfl,aa.fin (cm [(3,c1)]),aa.fo a0⟩
 refine go ?_;refine Xz hm (fun al hm=>go ?_) fun al hm=>go ?_
 ·refine lV (.bool (decide (0<(ad.length:Int)))) (Xm (congrArg Value.bool al) rfl)<|Wk rfl<|lV (.agg #[.bool (decide (0<(ad.length:Int))),.slice aq ad.length ar]) (Yi (l:=[_,_]) (qs:=[(0,1),(1,1)]) underlying33 zeroValue33 ⟨rfl,sizeOf4,rfl,sizeOf31,trivial⟩ rfl)<|Zu ac ?_;intro a8 av a2 am;refine Zm ?_;replace ab:=ab.kp av;replace ab:=ab.recolSelf 3 (by decide);replace am:=am.recol 2 3 (by decide);replace aa:=aa.kp av a2;replace aa:=aa.recol 2 3 (by decide) (by decide);exact ⟨rfl,_,_,_,_,_,hm,aa,ab,am⟩
 refine lV (.bool false) (Xd (congrArg Value.bool al) rfl)<|Wk rfl<|lV (.agg #[.bool false,.slice aq ad.length ar]) (Yi (l:=[_,_]) (qs:=[(0,1),(1,1)]) underlying33 zeroValue33 ⟨rfl,sizeOf4,rfl,sizeOf31,trivial⟩ rfl)<|Zu ac ?_;intro a9 aw a3 an;refine Zm ?_;replace ab:=ab.kp aw;replace ab:=ab.recolSelf 3 (by decide);replace an:=an.recol 2 3 (by decide);replace aa:=aa.kp aw a3;replace aa:=aa.recol 2 3 (by decide) (by decide);exact ⟨rfl,_,_,_,_,_,hm,aa,ab,an⟩
def Zgv (N:Nat) (aa:R3):Option R3:=
  (Zeb N aa.1 aa.2).bind fun ab=>some (ab.1,ab.2)
theorem Zq5 {N ag:Nat} {ah:Option Addr} {col:Zd} {w0:World} {ab r:R3} (c1:Nat) (hm:Zgv N ab=some r) (ad:Sl (Za.int .u32) col w0 ah ag ab.2):
    Calls Tryz.prog 179 #[(.agg #[.bool ab.1,.slice ah ab.2.length ag])] w0 (fun e w'=>∃ (col':Zd) (ra1:Option Addr) (rc2:Nat),e= .returned ((.agg #[.bool r.1,.slice ra1 r.2.length rc2]))∧Zg col w0 col' w'∧Zb (Za.int .u32) 77 c1 col' w' ra1 rc2 r.2):=by
 refine Yw (m:=8) func179 rfl rfl rfl ?_;rw [Zgv.eq_1] at hm;have aa:=St.start col w0;refine go ?_;refine Xp (col:=(Zk col)) 1 rfl ?_;intro aq ar al am ac;refine Xa (col:=al) #[.bool false,.slice none (([]:List Int).length) 0] 2 zeroValue33 ?_;intro au av aw ai ae;refine go ?_;refine Xo ⟨_,_,rfl⟩ ?_;replace ac:=ac.gr ai;refine lW ((ac.atN).nth (q:=0) rfl)<|Xw ac ?_;obtain ⟨ax,an,hm⟩:=bZ hm;replace ad:=ad.keep (Zl.start col w0);replace aa:=(aa.grow am).grow ai;refine Zi (Znc 3 an (ad.ks aa)) ?_;rintro _ ay ⟨az,a0,a1,rfl,aj,af⟩;refine ⟨_,rfl,?_⟩;replace ae:=ae.gr aj;refine Zu ae ?_;intro a2 ak ao ap;refine go ?_;cases hm;replace aa:=(aa.grow aj).kp ak ao;replace af:=af.kp ak;exact ⟨rfl,_,ra ap.atN,_,_,_,rfl,aa.fin (cm [(3,c1)]),aa.fo af⟩
def Ziu (N:Nat) (aa:R3) (ab:List Int):Option R0:=
  (Ziq N aa.2 ab).bind fun ac=>(Zgk N aa.2 ac).bind fun ae=>(Zgk N ab ac).bind fun af=>(Zgv N (aa.1,ae.1)).bind fun ad=>(Uy N af.1).bind fun ag=>some ((ad.1,ad.2),ag)
theorem Zy7 {N a2 a3:Nat} {a4 a1:Option Addr} {col:Zd} {w0:World} {ai:R3} {ap:R2} {r:R0} (c1 c2:Nat) (hm:Ziu N ai ap=some r) (an:Sl (Za.int .u32) col w0 a4 a2 ai.2) (h1:Sl (Za.int .u32) col w0 a1 a3 ap):
    Calls Tryz.prog 171 #[(.agg #[.bool ai.1,.slice a4 ai.2.length a2]),.slice a1 ap.length a3] w0 (fun e w'=>∃ (col':Zd) (ra1:Option Addr) (rc2:Nat) (ra4:Option Addr) (rc5:Nat),e= .returned ((.agg #[.bool r.1.1,.slice ra1 r.1.2.length rc2,.slice ra4 r.2.length rc5]))∧Zg col w0 col' w'∧Zb (Za.int .u32) 77 c1 col' w' ra1 rc2 r.1.2∧Zb (Za.int .u32) 77 c2 col' w' ra4 rc5 r.2):=by
 refine Yw (m:=39) func171 rfl rfl rfl ?_;rw [Ziu.eq_1] at hm;have aa:=St.start col w0;refine go ?_;refine Xp (col:=(Zk col)) 1 rfl ?_;intro b1 b2 bd be ab;refine Xa (col:=bd) #[.bool false,.slice none (([]:List Int).length) 0,.slice none (([]:List Int).length) 0] 2 zeroValue35 ?_;intro b3 b4 b5 a5 aq;refine go ?_;refine Xo ⟨_,_,rfl⟩ ?_;replace ab:=ab.gr a5;refine lW ((ab.atN).nth (q:=1) rfl)<|Wk rfl ?_;obtain ⟨b6,bf,hm⟩:=bZ hm;replace an:=an.keep (Zl.start col w0);replace h1:=h1.keep (Zl.start col w0);replace aa:=(aa.grow be).grow a5;refine Zi (Zy3 3 bf (an.ks aa) (h1.ks aa)) ?_;rintro _ bg ⟨ar,b7,b8,rfl,au,ao⟩;refine ⟨_,rfl,go ?_⟩;refine Xo ⟨_,_,rfl⟩ ?_;replace ab:=ab.gr au;refine lW ((ab.atN).nth (q:=1) rfl)<|Wk rfl ?_;obtain ⟨ac,bh,hm⟩:=bZ hm;replace aa:=aa.grow au;refine Zi (Zq1 4 5 bh ((an.ks aa).froz 3) (ao.toSlF (Ze.int .u32))) ?_;rintro _ bi ⟨bj,av,aw,a6,a7,rfl,ad,aj,b9⟩;refine ⟨_,rfl,?_⟩;replace aj:=aj.thaw (Zs .u32) ad ((Fz.refl (col:=ar)).froz 3) (by decide);replace ad:=ad.thawR (col:=ar);generalize Z1 bg.heap.size ar bj=ax at *;refine lM (.tuple #[.slice av ac.1.length aw,.slice a6 ac.2.1.length a7,.int .i64 ac.2.2])<|lV (.slice av ac.1.length aw) (Z8 rfl rfl)<|lV (.slice a6 ac.2.1.length a7) (Z8 rfl rfl)<|lV (.int .i64 ac.2.2) (Z8 rfl rfl)<|go ?_;obtain ⟨af,bk,hm⟩:=bZ hm;replace ao:=ao.gr ad;replace aa:=aa.grow ad;refine Zi (Zq1 6 7 bk ((h1.ks aa).froz 3) (ao.toSlF (Ze.int .u32))) ?_;rintro _ bm ⟨bn,a8,a9,ba,bb,rfl,ae,ak,ca⟩;refine ⟨_,rfl,?_⟩;replace ak:=ak.thaw (Zs .u32) ae ((Fz.refl (col:=ax)).froz 3) (by decide);replace ae:=ae.thawR (col:=ax);generalize Z1 bi.heap.size ax bn=ay at *;refine lM (.tuple #[.slice a8 af.1.length a9,.slice ba af.2.1.length bb,.int .i64 af.2.2])<|lV (.slice a8 af.1.length a9) (Z8 rfl rfl)<|lV (.slice ba af.2.1.length bb) (Z8 rfl rfl)<|lV (.int .i64 af.2.2) (Z8 rfl rfl)<|go ?_;refine Xo ⟨_,_,rfl⟩ ?_;replace ab:=(ab.gr ad).gr ae
 refine lW ((ab.atN).nth (q:=0) rfl)<|Wk rfl<|lV (.agg #[.bool ai.1,.slice av ac.1.length aw]) (Yi (l:=[_,_]) (qs:=[(0,1),(1,1)]) underlying33 zeroValue33 ⟨rfl,sizeOf4,rfl,sizeOf31,trivial⟩ rfl) ?_;obtain ⟨bc,bo,hm⟩:=bZ hm;replace aj:=aj.gr ae;refine Zi (Zq5 8 bo (aj.toSlF (Ze.int .u32))) ?_;rintro _ bp ⟨bq,br,bs,rfl,ag,al⟩;refine ⟨_,rfl,?_⟩;replace al:=al.thaw (Zs .u32) ag ((Fz.refl (col:=ay)).froz 4) (by decide);replace ag:=ag.thawR (col:=ay);generalize Z1 bm.heap.size ay bq=az at *;refine Wk rfl ?_;obtain ⟨bt,bu,hm⟩:=bZ hm;replace ak:=ak.gr ag;refine Zi (Sn 9 bu (ak.toSlF (Ze.int .u32))) ?_;rintro _ cb ⟨bv,bw,bx,rfl,ah,am⟩;refine ⟨_,rfl,?_⟩;replace am:=am.thaw (Zs .u32) ah ((Fz.refl (col:=az)).froz 6) (by decide);replace ah:=ah.thawR (col:=az);generalize Z1 bp.heap.size az bv=cc at *;refine lV (.agg #[.bool bc.1,.slice br bc.2.length bs,.slice bw bt.length bx]) (Yi (l:=[_,_]) (qs:=[(0,2),(2,1)]) underlying35 zeroValue35 ⟨rfl,sizeOf33,rfl,sizeOf31,trivial⟩ rfl) ?_;replace aq:=((((aq.gr au).gr ad).gr ae).gr ag).gr ah;refine Zu aq ?_;intro cd a0 bz b0;refine go ?_;cases hm;replace aa:=(((aa.grow ae).grow ag).grow ah).kp a0 bz;replace al:=(al.gr ah).kp a0;replace am:=am.kp a0;exact ⟨rfl,_,ra b0.atN,_,_,_,_,_,rfl,aa.fin (cm [(8,c1),(9,c2)]),aa.fo al,aa.fo am⟩
def Zit (N:Nat) (aa:R3):Option Int:=
  (Zgv N (aa.1,aa.2)).bind fun ab=>if (decide ((ab.2.length:Int)=0))=true then (some 0) else (if ab.1=true then (some (-1)) else (some 1))
theorem Zy4 {N ad:Nat} {ae:Option Addr} {col:Zd} {w0:World} {ab:R3} {r:Int} (hm:Zit N ab=some r) (ac:Sl (Za.int .u32) col w0 ae ad ab.2):
    Calls Tryz.prog 167 #[(.agg #[.bool ab.1,.slice ae ab.2.length ad])] w0 (fun e w'=>e= .returned ((.int .i64 r))∧Below w0.heap.size w0 w'):=by
 refine Xl 2 (m:=12) func167 rfl rfl rfl rfl rfl ?_;rw [Zit.eq_1] at hm;have aa:=St.start col w0;refine go ?_;refine Xp (col:=(Zk col)) 1 rfl ?_;intro ap aq ar ag ah;refine go ?_;refine lV _ (Z3 isAgg33 sizeOf33 ah) ?_;obtain ⟨au,ai,hm⟩:=bZ hm;replace ac:=ac.keep (Zl.start col w0);replace aa:=aa.grow ag;refine Zi (Zq5 2 ai (ac.ks aa)) ?_;rintro _ av ⟨aj,aw,ax,rfl,ak,ay⟩;refine ⟨_,rfl,?_⟩;refine Xa (col:=aj) #[.bool false,.slice none (([]:List Int).length) 0] 3 zeroValue33 ?_;intro az a0 a1 al am;refine Zu am ?_;intro a2 an ao af;refine go ?_;refine Xw af ?_;refine go ?_;replace aa:=((aa.grow ak).grow al).kp an ao;refine Zp hm (fun hb hm=>go ?_) fun hb hm=>go ?_
 ·cases hm;exact ⟨rfl,rfl,aa.below⟩
 refine Xw af<|Zm ?_;refine Zp hm (fun hb hm=>go ?_) fun hb hm=>go ?_
 ·cases hm;exact ⟨rfl,rfl,aa.below⟩
 cases hm;exact ⟨rfl,rfl,aa.below⟩
def Zgw (N:Nat) (aa:Int):Option R3:=
  if (decide (0≤aa))=true then ((Zgp N (u64.wrap aa)).bind fun ad=>(Zeb N false ad).bind fun ab=>some (ab.1,ab.2)) else ((Zgp N (u64.wrap (i64.wrap (-(i64.wrap (aa+1)))))).bind fun ae=>(Zim N ae [1]).bind fun af=>(Zeb N true af).bind fun ac=>some (ac.1,ac.2))
theorem Zq6 {N:Nat} {col:Zd} {w0:World} {an:Int} {r:R3} (c1:Nat) (hm:Zgw N an=some r):
    Calls Tryz.prog 82 #[.int .i64 an] w0 (fun e w'=>∃ (col':Zd) (ra1:Option Addr) (rc2:Nat),e= .returned ((.agg #[.bool r.1,.slice ra1 r.2.length rc2]))∧Zg col w0 col' w'∧Zb (Za.int .u32) 77 c1 col' w' ra1 rc2 r.2):=by
 refine Yw (m:=17) func82 rfl rfl rfl ?_;rw [Zgw.eq_1] at hm;have aa:=St.start col w0;refine go ?_;refine Xa (col:=(Zk col)) #[.bool false,.slice none (([]:List Int).length) 0] 1 zeroValue33 ?_;intro be bf ao av ab;refine go ?_;replace aa:=aa.grow av;refine Zp hm (fun hb hm=>go ?_) fun hb hm=>go ?_
 ·obtain ⟨bg,aw,hm⟩:=bZ hm;refine Zi (Zq2 (col:=ao) 2 aw) ?_;rintro _ ax ⟨ah,bh,bi,rfl,ap,ay⟩;refine ⟨_,rfl,?_⟩;obtain ⟨bj,az,hm⟩:=bZ hm;refine Zi (Znc 3 az (ay.toSlF (Ze.int .u32))) ?_;rintro _ bk ⟨a0,bm,bn,rfl,ac,ad⟩;refine ⟨_,rfl,?_⟩;replace ad:=ad.thaw (Zs .u32) ac ((Fz.refl (col:=ah)).froz 2) (by decide);replace ac:=ac.thawR (col:=ah);generalize Z1 ax.heap.size ah a0=bo at *;replace ab:=(ab.gr ap).gr ac;refine Zu ab ?_;intro bp aq a1 a2;refine go ?_;cases hm;replace aa:=((aa.grow ap).grow ac).kp aq a1;replace ad:=ad.kp aq;exact ⟨rfl,_,ra a2.atN,_,_,_,rfl,aa.fin (cm [(3,c1)]),aa.fo ad⟩
 obtain ⟨bq,a3,hm⟩:=bZ hm;refine Zi (Zq2 (col:=ao) 4 a3) ?_;rintro _ br ⟨a4,bs,bt,rfl,ar,ai⟩;refine ⟨_,rfl,?_⟩;refine W6 (col:=a4) [1] 5 ?_;intro bu a5 aj ak a6;obtain ⟨bv,a7,hm⟩:=bZ hm;replace ai:=ai.gr ak;refine Zi (Zy0 6 a7 ((ai.toSlF (Ze.int .u32)).froz 5) ((a6.froz 4 (by decide)).toSlF (Ze.int .u32))) ?_;rintro _ a8 ⟨a9,bw,bx,rfl,ae,al⟩;refine ⟨_,rfl,?_⟩;replace al:=al.thaw (Zs .u32) ae (((Fz.refl (col:=aj)).froz 4).froz 5) (by decide);replace ae:=ae.thawR (col:=aj);generalize Z1 a5.heap.size aj a9=am at *;obtain ⟨bz,ba,hm⟩:=bZ hm;refine Zi (Znc 7 ba (al.toSlF (Ze.int .u32))) ?_;rintro _ b0 ⟨bb,b1,b2,rfl,af,ag⟩;refine ⟨_,rfl,?_⟩;replace ag:=ag.thaw (Zs .u32) af ((Fz.refl (col:=am)).froz 6) (by decide);replace af:=af.thawR (col:=am);generalize Z1 a8.heap.size am bb=b3 at *;replace ab:=(((ab.gr ar).gr ak).gr ae).gr af;refine Zu ab ?_;intro b4 au bc bd;refine go ?_;cases hm;replace aa:=((((aa.grow ar).grow ak).grow ae).grow af).kp au bc;replace ag:=ag.kp au;exact ⟨rfl,_,ra bd.atN,_,_,_,rfl,aa.fin (cm [(7,c1)]),aa.fo ag⟩
def Zlb (N:Nat) (ac:R3) (aa:R3):Option (R0×Int):=
  (Zit N (aa.1,aa.2)).bind fun ad=>if (decide (ad=0))=true then (some (((false,([]:List Int)),([]:List Int)),11)) else ((Ziu N (!decide (ac.1=aa.1),ac.2) aa.2).bind fun ab=>some (((ab.1.1,ab.1.2),ab.2),0))
theorem Zy5 {N ai ap:Nat} {aj aq:Option Addr} {col:Zd} {w0:World} {ac af:R3} {r:(R0×Int)} (c1 c2:Nat) (hm:Zlb N ac af=some r) (ak:Sl (Za.int .u32) col w0 aj ai ac.2) (ag:Sl (Za.int .u32) col w0 aq ap af.2):
    Calls Tryz.prog 135 #[(.agg #[.bool ac.1,.slice aj ac.2.length ai]),(.agg #[.bool af.1,.slice aq af.2.length ap])] w0 (fun e w'=>∃ (col':Zd) (ra1:Option Addr) (rc2:Nat) (ra4:Option Addr) (rc5:Nat),e= .returned (.tuple #[(.agg #[.bool r.1.1.1,.slice ra1 r.1.1.2.length rc2,.slice ra4 r.1.2.length rc5]),.int .i64 r.2])∧Zg col w0 col' w'∧Zb (Za.int .u32) 77 c1 col' w' ra1 rc2 r.1.1.2∧Zb (Za.int .u32) 77 c2 col' w' ra4 rc5 r.1.2):=by
 refine Yw (m:=21) func135 rfl rfl rfl ?_;rw [Zlb.eq_1] at hm;have aa:=St.start col w0;refine go ?_;refine Xp (col:=(Zk col)) 1 rfl ?_;intro a8 a9 aw ax ah;refine Xp (col:=aw) 2 rfl ?_;intro ba bb ay ar ab;refine Xa (col:=ay) #[.bool false,.slice none (([]:List Int).length) 0,.slice none (([]:List Int).length) 0] 3 zeroValue35 ?_;intro bc az au al ad;refine go ?_;replace ab:=ab.gr al;refine lV _ (Z3 isAgg33 sizeOf33 ab) ?_;obtain ⟨bd,a0,hm⟩:=bZ hm;replace ag:=ag.keep (Zl.start col w0);replace aa:=((aa.grow ax).grow ar).grow al;refine Zi (Zy4 a0 (ag.ks aa)) ?_;rintro _ a1 ⟨rfl,ae⟩;refine ⟨_,rfl,?_⟩;replace ae:Zg au az au a1:=.of_below ae;refine go ?_;replace ak:=ak.keep (Zl.start col w0);replace ah:=((ah.gr ar).gr al).gr ae;replace ab:=ab.gr ae;replace ad:=ad.gr ae;replace aa:=aa.grow ae;refine Zp hm (fun hb hm=>go ?_) fun hb hm=>go ?_
 ·refine lV (.agg #[.bool false,.slice none (([]:List Int).length) 0,.slice none (([]:List Int).length) 0]) (Yi (l:=[_,_]) (qs:=[(0,2),(2,1)]) underlying35 zeroValue35 ⟨rfl,sizeOf33,rfl,sizeOf31,trivial⟩ rfl)<|Zu ad ?_;intro be a2 a3 a4;refine go ?_;cases hm;replace aa:=aa.kp a2 a3;exact ⟨rfl,_,Ts a4.atN,_,none,0,none,0,rfl,aa.fin (cm []),Zb.nil,Zb.nil⟩
 refine Xw ah<|Xw ab ?_;refine go ?_;refine Xw ah<|lV (.agg #[.bool (!decide (ac.1=af.1)),.slice aj ac.2.length ai]) (Yi (l:=[_,_]) (qs:=[(0,1),(1,1)]) underlying33 zeroValue33 ⟨rfl,sizeOf4,rfl,sizeOf31,trivial⟩ rfl)<|Xw ab ?_;obtain ⟨bf,a5,hm⟩:=bZ hm;refine Zi (Zy7 4 5 a5 (ak.ks aa) (ag.ks aa)) ?_;rintro _ bg ⟨bh,bi,bj,bk,bm,rfl,av,am,an⟩;refine ⟨_,rfl,?_⟩;replace ad:=ad.gr av;refine Zu ad ?_;intro bn ao a6 a7;refine go ?_;cases hm;replace aa:=(aa.grow av).kp ao a6;replace am:=am.kp ao;replace an:=an.kp ao;exact ⟨rfl,_,Ts a7.atN,_,_,_,_,_,rfl,aa.fin (cm [(4,c1),(5,c2)]),aa.fo am,aa.fo an⟩
def Zlc (N:Nat) (ad:Int) (ae:Int):Option (R0×Int):=
  (Zgw N ad).bind fun ab=>(Zgw N ae).bind fun ac=>(Zlb N (ab.1,ab.2) (ac.1,ac.2)).bind fun aa=>some (((aa.1.1.1,aa.1.1.2),aa.1.2),aa.2)
theorem Zy6 {N:Nat} {col:Zd} {w0:World} {ak al:Int} {r:(R0×Int)} (c1 c2:Nat) (hm:Zlc N ak al=some r):
    Calls Tryz.prog 145 #[.int .i64 ak,.int .i64 al] w0 (fun e w'=>∃ (col':Zd) (ra1:Option Addr) (rc2:Nat) (ra4:Option Addr) (rc5:Nat),e= .returned (.tuple #[(.agg #[.bool r.1.1.1,.slice ra1 r.1.1.2.length rc2,.slice ra4 r.1.2.length rc5]),.int .i64 r.2])∧Zg col w0 col' w'∧Zb (Za.int .u32) 77 c1 col' w' ra1 rc2 r.1.1.2∧Zb (Za.int .u32) 77 c2 col' w' ra4 rc5 r.1.2):=by
 refine Yw (m:=13) func145 rfl rfl rfl ?_;rw [Zlc.eq_1] at hm;have ab:=St.start col w0;refine go ?_;refine Xa (col:=(Zk col)) #[.bool false,.slice none (([]:List Int).length) 0,.slice none (([]:List Int).length) 0] 1 zeroValue35 ?_;intro a4 a5 an ao ag;refine go ?_;obtain ⟨a6,ap,hm⟩:=bZ hm;refine Zi (Zq6 (col:=an) 2 ap) ?_;rintro _ a7 ⟨aq,a8,a9,rfl,am,ah⟩;refine ⟨_,rfl,?_⟩;refine Ya rfl ?_;obtain ⟨ba,ar,hm⟩:=bZ hm;refine Zi (Zq6 (col:=aq) 3 ar) ?_;rintro _ au ⟨ae,bb,bc,rfl,ai,av⟩;refine ⟨_,rfl,?_⟩;obtain ⟨af,aw,hm⟩:=bZ hm;replace ah:=ah.gr ai;refine Zi (Zy5 4 5 aw ((ah.toSlF (Ze.int .u32)).froz 3) ((av.froz 2 (by decide)).toSlF (Ze.int .u32))) ?_;rintro _ bd ⟨ax,ay,az,a0,a1,rfl,aa,ac,ad⟩;refine ⟨_,rfl,?_⟩;replace ac:=ac.thaw (Zs .u32) aa (((Fz.refl (col:=ae)).froz 2).froz 3) (by decide);replace ad:=ad.thaw (Zs .u32) aa (((Fz.refl (col:=ae)).froz 2).froz 3) (by decide);replace aa:=aa.thawR (col:=ae);generalize Z1 au.heap.size ae ax=be at *;refine lV (.agg #[.bool af.1.1.1,.slice ay af.1.1.2.length az,.slice a0 af.1.2.length a1]) (Z8 rfl rfl)<|lV (.int .i64 af.2) (Z8 rfl rfl) ?_;replace ag:=((ag.gr am).gr ai).gr aa;refine Zu ag ?_;intro bf aj a2 a3;refine go ?_;cases hm;replace ab:=((((ab.grow ao).grow am).grow ai).grow aa).kp aj a2;replace ac:=ac.kp aj;replace ad:=ad.kp aj;exact ⟨rfl,_,Ts a3.atN,_,_,_,_,_,rfl,ab.fin (cm [(4,c1),(5,c2)]),ab.fo ac,ab.fo ad⟩
def Zah (N:Nat) (ab:Int) (ac:Int):Option R0:=
  (Zlc N ab ac).bind fun aa=>some ((aa.1.1.1,aa.1.1.2),aa.1.2)
theorem Ze5 {N:Nat} {col:Zd} {w0:World} {ai aj:Int} {r:R0} (c1 c2:Nat) (hm:Zah N ai aj=some r):
    Calls Tryz.prog 84 #[.int .i64 ai,.int .i64 aj] w0 (fun e w'=>∃ (col':Zd) (ra1:Option Addr) (rc2:Nat) (ra4:Option Addr) (rc5:Nat),e= .returned ((.agg #[.bool r.1.1,.slice ra1 r.1.2.length rc2,.slice ra4 r.2.length rc5]))∧Zg col w0 col' w'∧Zb (Za.int .u32) 77 c1 col' w' ra1 rc2 r.1.2∧Zb (Za.int .u32) 77 c2 col' w' ra4 rc5 r.2):=by
 refine Yw (m:=14) func84 rfl rfl rfl ?_;rw [Zah.eq_1] at hm;have ab:=St.start col w0;refine go ?_;refine Xa (col:=(Zk col)) #[.bool false,.slice none (([]:List Int).length) 0,.slice none (([]:List Int).length) 0] 1 zeroValue35 ?_;intro a0 a1 ap aq ae;refine go ?_;obtain ⟨aa,ar,hm⟩:=bZ hm;refine Zi (Zy6 (col:=ap) 2 3 ar) ?_;rintro _ a2 ⟨au,ak,al,am,an,rfl,ao,af,ag⟩;refine ⟨_,rfl,?_⟩;refine lM (.tuple #[(.agg #[.bool aa.1.1.1,.slice ak aa.1.1.2.length al,.slice am aa.1.2.length an]),.int .i64 aa.2])<|lV (.agg #[.bool aa.1.1.1,.slice ak aa.1.1.2.length al,.slice am aa.1.2.length an]) (Z8 rfl rfl)<|lV (.int .i64 aa.2) (Z8 rfl rfl)<|Xa (col:=au) #[.bool false,.slice none (([]:List Int).length) 0,.slice none (([]:List Int).length) 0] 4 zeroValue35 ?_;intro a3 a4 a5 ac av;refine Zu av ?_;intro a6 ad aw ax;refine go ?_;refine lV _ (Z3 isAgg35 sizeOf35 ax) ?_;replace ae:=((ae.gr ao).gr ac).kp ad;refine Zu ae ?_;intro a7 ah ay az;refine go ?_;cases hm;replace ab:=((((ab.grow aq).grow ao).grow ac).kp ad aw).kp ah ay;replace af:=((af.gr ac).kp ad).kp ah;replace ag:=((ag.gr ac).kp ad).kp ah;exact ⟨rfl,_,ra az.atN,_,_,_,_,_,rfl,ab.fin (cm [(2,c1),(3,c2)]),ab.fo af,ab.fo ag⟩
theorem Zpz {N k:Nat} {neg:Bool} {m:List Int} (hm:Zo m) (hk:m.length≤k) (hr:Xj N k):Zeb N neg m=some (X2 (Zx (neg,m))):=by
 obtain ⟨r1,r2⟩:=hr
 rw [Zeb,S5 hm (by omega) (by omega),Option.bind_some,Zi9]
 have e:decide (0<((Zf (Zc m)).length:Int))=decide (Zc m≠0):=by
  by_cases h:Zc m=0
  ·rw [h,W8];decide
  ·have:=Sq h
   rw [decide_eq_true (by omega),decide_eq_true h]
 cases neg
 ·rw [if_neg (by decide),Zgu,Bool.false_and]
 ·rw [if_pos rfl,Zgu,e,Bool.true_and]
theorem Zv5 {N k:Nat} {a:ZV} (hm:Zo a.2) (hk:a.2.length≤k) (hr:Xj N k):Zgv N a=some (X2 (Zx a)):=by
 rw [Zgv,Zpz hm hk hr];rfl
theorem Z3w {N k:Nat} {a:ZV} (hm:Zo a.2) (hk:a.2.length≤k) (hr:Xj N k):Zit N a=some (Zx a).sign:=by
 rw [Zit,Zv5 hm hk hr,Option.bind_some,X2]
 generalize Zx a=z
 by_cases h:z=0
 ·subst h;rw [Int.natAbs_zero,W8,if_pos (by decide)];rfl
 ·have:=Sq (n:=z.natAbs) (by omega)
  rw [if_neg (by rw [decide_eq_false (by simp only;omega)];decide)]
  by_cases h2:z<0
  ·rw [if_pos (decide_eq_true h2),Int.sign_eq_neg_one_of_neg h2]
  ·rw [if_neg (fun hc=>h2 (of_decide_eq_true hc)),Int.sign_eq_one_of_pos (by omega)]
theorem Zv7 {N:Nat} {z:Int} (h:-9223372036854775808≤z∧z≤9223372036854775807) (hr:Xj N 4):Zgw N z=some (X2 z):=by
 have hr':=hr
 obtain ⟨r1,r2⟩:=hr'
 have l2:∀ n:Nat,n<18446744073709551616→(Zf n).length≤2:=fun n hn=>Wt.2 (by simpa using hn)
 have l1:Zo [1]:=.cons (by decide) .nil
 rw [Zgw]
 by_cases hz:0≤z
 ·rw [if_pos (decide_eq_true hz),Xn (by omega),Zv8 (by omega) (by omega),Option.bind_some,Zpz (Xg _) (l2 _ (by omega)) (hr.mono (by omega)),Option.bind_some]
  have e2:Zx (false,Zf z.toNat)=z:=by simp only [Zx,Z9];simp;omega
  rw [e2]
 ·have hl3:=l2 (-z - 1).toNat (by omega)
  have e:u64.wrap (i64.wrap (-i64.wrap (z+1)))= -z - 1:=by rw [Z4 (x:=z+1) (by omega),Z4 (by omega),Xn (by omega)];omega
  rw [if_neg (by rw [decide_eq_false hz];decide),e,Zv8 (by omega) (by omega),Option.bind_some,Z3i (Xg _) l1 (by simp only [List.length_singleton];omega) (by simp only [List.length_singleton];omega),Option.bind_some,Z9,Y9,Ys,Zpz (k:=4) (Xg _) (by
   have:=l2 ((-z - 1).toNat+((1:Int).toNat+4294967296 * 0)) (by omega)
   omega) hr,Option.bind_some]
  have e2:Zx (true,Zf ((-z - 1).toNat+((1:Int).toNat+4294967296 * 0)))=z:=by simp only [Zx,Z9,if_true];omega
  rw [e2]
theorem Z3t {N k l:Nat} {num:ZV} {den:List Int} (hn:Zo num.2) (hd:Zo den) (h0:Zc den≠0) (hk:num.2.length≤k) (hl:den.length≤l) (hr:Xj N (k+l)):
  Ziu N num den=some (Zq (mkRat (Zx num) (Zc den))):=by
 have hr':=hr
 obtain ⟨r1,r2⟩:=hr'
 have l1:=Y2 hn
 have l2:=Y2 hd
 have hg:Nat.gcd (Zc num.2) (Zc den)≠0:=fun h=>h0 (Nat.gcd_eq_zero_iff.1 h).2
 have lg:(Zf (Nat.gcd (Zc num.2) (Zc den))).length≤den.length:=Nat.le_trans (Vr (Nat.gcd_le_right _ (by omega))) l2
 have lq:=Vr (Nat.div_le_self (Zc num.2) (Nat.gcd (Zc num.2) (Zc den)))
 have ld:=Vr (Nat.div_le_self (Zc den) (Nat.gcd (Zc num.2) (Zc den)))
 obtain ⟨g,g1,g2,g3,g4⟩:=Z3s (N:=N) (M:=k+l) hn hd (by omega) (by omega) (by omega) (by omega)
 rw [Ziu,g1,Option.bind_some,Zvt hn g2 (by rw [g3];omega) (by omega) (by rw [g3];omega) (by omega),Option.bind_some,Zvt hd g2 (by rw [g3];omega) (by omega) (by rw [g3];omega) (by omega),Option.bind_some,g3,if_neg hg,if_neg hg,
  Zv5 (k:=k) (a:=(num.1,Zf (Zc num.2 / Nat.gcd (Zc num.2) (Zc den)))) (Xg _) (by simp only;omega) (hr.mono (by omega)),Option.bind_some,S5 (Xg _) (by omega) (by omega),Option.bind_some,Zuk (neg:=num.1) h0,Zi9,Z9,Z9]
theorem Z4o {N:Nat} {a b:Int} (h:-9223372036854775808≤a∧a≤9223372036854775807) (g:0<b∧b≤9223372036854775807) (hr:Xj N 8):Zah N a b=some (Zq ((a:Rat) / (b:Rat))):=by
 have l2:∀ z:Int,-9223372036854775808≤z∧z≤9223372036854775807→(X2 z).2.length≤2:=fun z hz=>Wt.2 (by simp;omega)
 have la:=l2 a h
 have lb:=l2 b (by omega)
 have hb0:Zc (X2 b).2≠0:=by rw [Zkr,Z9];omega
 have e:=Zt7 (Zx (X2 a)) 1 (X2 b) 1 (X2 a).1 (X2 a).2 rfl hb0
 rw [Zah,Zlc,Zv7 h (hr.mono (by omega)),Option.bind_some,Zv7 (by omega) (hr.mono (by omega)),Option.bind_some,Zlb,Z3w (a:=X2 b) (T4 _) lb (hr.mono (by omega)),Option.bind_some,Tv,Int.sign_eq_one_of_pos g.1,if_neg (by decide),Z3t (num:=(!decide ((X2 a).1=(X2 b).1),(X2 a).2)) (T4 _) (T4 _) hb0 la lb (hr.mono (by omega)),Option.bind_some,Option.bind_some,Option.bind_some]
 rw [Rat.mkRat_eq_div,Rat.mkRat_eq_div,Tv,Tv] at e
 have e1:(a:Rat) / ((1:Nat):Rat) / ((b:Rat) / ((1:Nat):Rat))=(a:Rat) / (b:Rat):=by
  have h1:((1:Nat):Rat)=1:=rfl
  have h2:(1:Rat)⁻¹=1:=Rat.inv_eq_of_mul_eq_one (by grind)
  simp only [h1,Rat.div_def,h2,Rat.mul_one]
 rw [e1,Nat.one_mul,Nat.mul_one] at e
 rw [e]
 have e2:Zx (!decide ((X2 a).1=(X2 b).1),Zf (Zc (X2 a).2))=Zx (!decide ((X2 a).1=(X2 b).1),(X2 a).2):=by simp only [Zx,Z9]
 rw [e2]
theorem div_one (a:Rat):a / 1=a:=by
 have h2:(1:Rat)⁻¹=1:=Rat.inv_eq_of_mul_eq_one (by grind)
 rw [Rat.div_def,h2,Rat.mul_one]
def Zeh (ab:ByteArray):List ByteArray→Nat→Option Int
  | [],aa=>some (-1)
  | ac :: ad,aa=>if (decide (ab=ac))=true then (some (aa:Int)) else ((Zeh ab ad) (aa+1))
termination_by structural x=>x
def Zlt (aa:List ByteArray) (ab:ByteArray):Option Int:=
  Zeh ab aa 0
theorem Zzk {ag:Nat} {a0:Option Addr} {col:Zd} {w0:World} {ab:R4} {ae:ByteArray} {r:Int} (hm:Zlt ab ae=some r) (h0:Sl Za.str col w0 a0 ag ab):
    Calls Tryz.prog 175 #[.slice a0 ab.length ag,.string ae] w0 (fun e w'=>e= .returned ((.int .i64 r))∧Below w0.heap.size w0 w'):=by
 refine Xl 4 (m:=19) func175 rfl rfl rfl rfl rfl ?_;rw [Zlt.eq_1] at hm;have aa:=St.start col w0;refine go ?_;refine Z5 [0,1,7,1000000] (fun n f ah=>∃ ai ac ad,n=ad.length∧ab.drop ac=ad∧Zeh ae ad ac=some r∧St w0 (Zk col) ai ah∧[8].map f=[.int .i64 ac]) ab.length ⟨_,0,_,rfl,rfl,hm,aa,rfl⟩ ?_;clear hm;intro n f ah hI;obtain ⟨ai,ac,ad,hn,hl,hm,aa,hs⟩:=hI;subst hn;refine .lL [8] hs ?_;replace h0:=h0.keep (Zl.start col w0)
 cases ad with
 | nil=>
  have hk:¬ ((ac:Int)<(ab.length:Int)):=by have:=List.drop_eq_nil_iff.1 hl;omega
  have hkb:=decide_eq_false hk;rw [Zeh.eq_1] at hm;refine go ?_;refine X4 (congrArg Value.bool hkb)<|go ?_;cases hm;exact ⟨rfl,rfl,aa.below⟩
 | cons am aj=>
  obtain ⟨af,ak,al⟩:=Yg hl;have hk:(ac:Int)<(ab.length:Int):=by omega
  have hkb:=decide_eq_true hk;rw [Zeh.eq_2] at hm;refine go ?_;refine X9 (congrArg Value.bool hkb)<|go ?_;refine lI af ((h0.ks aa).addr af)<|lW ((h0.ks aa).atStr af) ?_;refine go ?_;refine Zp hm (fun hb hm=>go ?_) fun hb hm=>go ?_
  ·cases hm;exact ⟨rfl,rfl,aa.below⟩
  exact ⟨aj.length,by simp,rfl,⟨_,_,_,rfl,ak,hm,aa,(Ym (congrArg (Value.int .i64) (Yk (Nat.lt_of_lt_of_le al (h0.ks aa).1.1))) rfl)⟩⟩
def Zi3 (aa:List ByteArray) (ab:ByteArray):Option Bool:=
  (Zlt aa ab).bind fun ac=>some (decide (0≤ac))
theorem Zzi {ad:Nat} {a0:Option Addr} {col:Zd} {w0:World} {ab:R4} {ae:ByteArray} {r:Bool} (hm:Zi3 ab ae=some r) (h0:Sl Za.str col w0 a0 ad ab):
    Calls Tryz.prog 148 #[.slice a0 ab.length ad,.string ae] w0 (fun e w'=>e= .returned ((.bool r))∧Below w0.heap.size w0 w'):=by
 refine Xl 4 (m:=9) func148 rfl rfl rfl rfl rfl ?_;rw [Zi3.eq_1] at hm;have aa:=St.start col w0;refine go ?_;obtain ⟨ah,af,hm⟩:=bZ hm;replace h0:=h0.keep (Zl.start col w0);refine Zi (Zzk af (h0.ks aa)) ?_;rintro _ ag ⟨rfl,ac⟩;refine ⟨_,rfl,?_⟩;replace ac:Zg (Zk col) w0 (Zk col) ag:=.of_below ac;refine go ?_;cases hm;replace aa:=aa.grow ac;exact ⟨rfl,rfl,aa.below⟩
def Zcj:List ByteArray→(List Rh)→Option Bool
  | [],aa=>some false
  | ab :: ac,aa=>if (decide (0<((Wl aa ab).getD 0)))=true then (some true) else ((some (Sy aa ab 1)).bind fun ad=>(Zcj ac) ad)
termination_by structural x=>x
def Zib (aa:List ByteArray):Option Bool:=
  Zcj aa ([]:List Rh)
theorem Zyt {al:Nat} {a0:Option Addr} {col:Zd} {w0:World} {ab:R4} {r:Bool} (hm:Zib ab=some r) (h0:Sl Za.str col w0 a0 al ab):
    Calls Tryz.prog 149 #[.slice a0 ab.length al] w0 (fun e w'=>e= .returned ((.bool r))∧Below w0.heap.size w0 w'):=by
 refine Xl 2 (m:=20) func149 rfl rfl rfl rfl rfl ?_;rw [Zib.eq_1] at hm;have aa:=St.start col w0;refine go ?_;refine Z1k (col:=(Zk col)) (fk:=Value.string) (fv:=(Value.int .i64)) 1 rfl ?_;intro ay az a1 ao ap;refine go ?_;replace aa:=aa.grow ao;refine Z5 [7,8,1000000] (fun n f af=>∃ ag ah ac ad ae,n=ae.length∧ab.drop ad=ae∧Zcj ae ac=some r∧St w0 (Zk col) ag af∧Vm Value.string (Value.int .i64) 1 ag af ah ac∧[9,3].map f=[.int .i64 ad,.map (some ah)]) ab.length ⟨_,_,_,0,_,rfl,rfl,hm,aa,ap,rfl⟩ ?_;clear hm;intro n f af hI;obtain ⟨ag,ah,ac,ad,ae,hn,hl,hm,aa,am,hs⟩:=hI;subst hn;refine .lL [9,3] hs ?_;replace h0:=h0.keep (Zl.start col w0)
 cases ae with
 | nil=>
  have hk:¬ ((ad:Int)<(ab.length:Int)):=by have:=List.drop_eq_nil_iff.1 hl;omega
  have hkb:=decide_eq_false hk;rw [Zcj.eq_1] at hm;refine go ?_;refine X4 (congrArg Value.bool hkb)<|go ?_;cases hm;exact ⟨rfl,rfl,aa.below⟩
 | cons ai aq=>
  obtain ⟨aj,ar,au⟩:=Yg hl;have hk:(ad:Int)<(ab.length:Int):=by omega
  have hkb:=decide_eq_true hk;rw [Zcj.eq_2] at hm;refine go ?_;refine X9 (congrArg Value.bool hkb)<|go ?_;refine lI aj ((h0.ks aa).addr aj)<|lW ((h0.ks aa).atStr aj) ?_;refine go ?_;refine lV (.int .i64 ((Wl ac ai).getD 0)) (Zvo Sh.str am underlying177 underlying9 zeroValue3 rfl rfl)<|go ?_;refine Zp hm (fun hb hm=>go ?_) fun hb hm=>go ?_
  ·cases hm;exact ⟨rfl,rfl,aa.below⟩
  obtain ⟨av,ak,hm⟩:=bZ hm;have ak:av=Sy ac ai 1:=(Option.some.inj ak).symm;refine Zta (k:=ai) (v:=1) Sh.str am underlying177 underlying9 rfl rfl rfl ?_;intro a2 aw ax an;rw [← ak] at an;refine go ?_;replace aa:=aa.kp aw ax;exact ⟨aq.length,by simp,rfl,⟨_,_,_,_,_,rfl,ar,hm,aa,an,(Ym (congrArg (Value.int .i64) (Yk (Nat.lt_of_lt_of_le au (h0.ks aa).1.1))) rfl)⟩⟩
def Zf7 (ab:R1) (aa:Nat) (kk_L1:(Nat→Option Int)) (ac:Bool):Option Int:=
  if ac=true then (some 40) else ((Zn ab.2.2.1 (aa:Int)).bind fun ad=>if (decide ((ad.length:Int)=0))=true then (some 43) else (kk_L1 (aa+1)))
def Za7 (aa:R1):List ByteArray→Nat→Option Int
  | [],ab=>some 0
  | ad :: ac,ab=>Z0 ((0:Int)≤(ab:Int)∧(ab:Int)≤(aa.2.1.length:Int)) ((Zi3 (aa.2.1.take (Int.toNat (ab:Int))) ad).bind fun ae=>if ae=true then (Zf7 aa ab (Za7 aa ac) true) else ((Zn aa.2.2.1 (ab:Int)).bind fun af=>(Zib af).bind fun ag=>Zf7 aa ab (Za7 aa ac) ag))
termination_by structural x=>x
def Zds (aa:R1):Option Int:=
  Za7 aa aa.2.1 0
theorem Zyq {ae ak al am:Nat} {af an ao ap:Option Addr} {col:Zd} {w0:World} {aa:R1} {r:Int} (hm:Zds aa=some r) (ag:Sl Za.str col w0 af ae aa.2.1) (ai:Sl (Za.slice Za.str) col w0 an ak aa.2.2.1) (bi:Sl (Za.slice (Za.int .i64)) col w0 ao al aa.2.2.2.1) (bj:Sl (Za.slice (Za.pair (Za.pair Za.bool (Za.slice (Za.int .u32))) (Za.slice (Za.int .u32)))) col w0 ap am aa.2.2.2.2):
    Calls Tryz.prog 88 #[(.agg #[.string aa.1,.slice af aa.2.1.length ae,.slice an aa.2.2.1.length ak,.slice ao aa.2.2.2.1.length al,.slice ap aa.2.2.2.2.length am])] w0 (fun e w'=>e= .returned ((.int .i64 r))∧Below w0.heap.size w0 w'):=by
 refine Xl 2 (m:=37) func88 rfl rfl rfl rfl rfl ?_;rw [Zds.eq_1] at hm;have ab:=St.start col w0;refine go ?_;refine Xp (col:=(Zk col)) 1 rfl ?_;intro a3 bk bm a6 ac;refine go ?_;refine Xw ac ?_;refine go ?_;replace ab:=ab.grow a6;refine Z5 [1,6,7,1000000] (fun n f aq=>∃ ah ad aj,n=aj.length∧aa.2.1.drop ad=aj∧Za7 aa aj ad=some r∧St w0 (Zk col) ah aq∧Zj 27 1 ah aq a3 #[.string aa.1,.slice af aa.2.1.length ae,.slice an aa.2.2.1.length ak,.slice ao aa.2.2.2.1.length al,.slice ap aa.2.2.2.2.length am]∧[8].map f=[.int .i64 ad]) aa.2.1.length ⟨_,0,_,rfl,rfl,hm,ab,ac,rfl⟩ ?_;clear hm;intro n f aq hI;obtain ⟨ah,ad,aj,hn,hl,hm,ab,ac,hs⟩:=hI;subst hn;refine .lL [8] hs ?_;replace ag:=ag.keep (Zl.start col w0);replace ai:=ai.keep (Zl.start col w0)
 cases aj with
 | nil=>
  have hk:¬ ((ad:Int)<(aa.2.1.length:Int)):=by have:=List.drop_eq_nil_iff.1 hl;omega
  have hkb:=decide_eq_false hk;rw [Za7.eq_1] at hm;refine go ?_;refine X4 (congrArg Value.bool hkb)<|go ?_;cases hm;exact ⟨rfl,rfl,ab.below⟩
 | cons bn a4=>
  obtain ⟨av,a7,a8⟩:=Yg hl;have hk:(ad:Int)<(aa.2.1.length:Int):=by omega
  have hkb:=decide_eq_true hk;rw [Za7.eq_2] at hm;refine go ?_;refine X9 (congrArg Value.bool hkb)<|go ?_;refine lI av ((ag.ks ab).addr av)<|lW ((ag.ks ab).atStr av)<|Yq rfl<|lAT rfl<|Zm<|Zhe<|Zw ?_;refine Wp.cutK [1,3,6,7,8,1000000] (fun f aw=>∃ ax ay,Zf7 aa ad (Za7 aa a4) ay=some r∧St w0 (Zk col) ax aw∧Zj 27 1 ax aw a3 #[.string aa.1,.slice af aa.2.1.length ae,.slice an aa.2.2.1.length ak,.slice ao aa.2.2.2.1.length al,.slice ap aa.2.2.2.2.length am]∧[13].map f=[.bool ay]) ?_ ?_
  ·intro f aw hJ;obtain ⟨ax,ay,hm,ab,ac,hs⟩:=hJ;rw [Zf7.eq_1] at hm;refine .lL [13] hs ?_;refine Zp hm (fun hb hm=>go ?_) fun hb hm=>go ?_
   ·cases hm;exact ⟨rfl,rfl,ab.below⟩
   refine Xw ac<|Ya rfl ?_;obtain ⟨bo,az,hm⟩:=bZ hm;refine lI az ((ai.ks ab).addr az) ?_;obtain ⟨_,a9,ba⟩:=(ai.ks ab).atN az;obtain ⟨⟨bp,bq,rfl,br⟩,_⟩:=a9;refine lW ba.one<|go ?_;refine Zp hm (fun hb hm=>go ?_) fun hb hm=>go ?_
   ·cases hm;exact ⟨rfl,rfl,ab.below⟩
   exact ⟨a4.length,by simp,rfl,⟨_,_,_,rfl,a7,hm,ab,ac,(Ym (congrArg (Value.int .i64) (Yk (Nat.lt_of_lt_of_le a8 (ag.ks ab).1.1))) rfl)⟩⟩
  refine Ww<|Xw ac<|Ya rfl ?_;obtain ⟨a0,hm⟩:=Z2 hm;refine lv (v:=.slice af (Int.toNat (ad:Int)) ae) rfl rfl (Zg9 underlying22 sizeOf9 rfl rfl a0.1 (by have:=(ag.ks ab).1.2;have:=a0.2;omega))<|.ld (d:=17) (v:=(.slice af ((aa.2.1.take (Int.toNat (ad:Int))).length) ae)) (congrArg (fun n=>Value.slice af n ae) (List.length_take_of_le (show (Int.toNat (ad:Int))≤aa.2.1.length by have:=a0.2;omega)).symm) ?_;refine lMT rfl ?_;obtain ⟨bs,bb,hm⟩:=bZ hm;refine Zi (Zzi bb ((ag.ks ab).take (Int.toNat (ad:Int)))) ?_;rintro _ a5 ⟨rfl,ar⟩;refine ⟨_,rfl,?_⟩;replace ar:Zg ah aq ah a5:=.of_below ar;refine Yh rfl ?_;replace ac:=ac.gr ar;replace ab:=ab.grow ar;refine Xz hm (fun a1 hm=>go ?_) fun a1 hm=>go ?_
  ·refine lV (.bool true) (Xm (congrArg Value.bool a1) rfl)<|go ?_;exact ⟨rfl,_,_,hm,ab,ac,rfl⟩
  refine Xo ⟨_,_,rfl⟩ ?_;refine go ?_;refine lW ((ac.atN).nth (q:=2) rfl)<|go ?_;obtain ⟨bt,a2,hm⟩:=bZ hm;refine lI a2 ((ai.ks ab).addr a2) ?_;refine go ?_;obtain ⟨_,bc,bd⟩:=(ai.ks ab).atN a2;obtain ⟨⟨bu,bv,rfl,be⟩,_⟩:=bc;refine lW bd.one<|go ?_;obtain ⟨bf,bg,hm⟩:=bZ hm;refine Zi (Zyt bg be) ?_;rintro _ bh ⟨rfl,au⟩;refine ⟨_,rfl,?_⟩;replace au:Zg ah a5 ah bh:=.of_below au;refine lV (.bool bf) (Xd (congrArg Value.bool a1) rfl)<|go ?_;replace ac:=ac.gr au;replace ab:=ab.grow au;exact ⟨rfl,_,_,hm,ab,ac,rfl⟩
def Zf5 (aa:Bool) (ab:List Int) (ac:List Int):Option R0:=
  some ((aa,ab),ac)
def Zch (N:Nat) (aa:R0):Option R0:=
  (Zdz N aa.2).bind fun ab=>if (decide ((ab.length:Int)=0))=true then ((Zaf N 1).bind fun ac=>Zf5 aa.1.1 aa.1.2 ac) else (Zf5 aa.1.1 aa.1.2 aa.2)
theorem Zqx {N am a1:Nat} {an a2:Option Addr} {col:Zd} {w0:World} {ad r:R0} (hm:Zch N ad=some r) (ai:Sl (Za.int .u32) col w0 an am ad.1.2) (aj:Sl (Za.int .u32) col w0 a2 a1 ad.2):
    Calls Tryz.prog 36 #[(.agg #[.bool ad.1.1,.slice an ad.1.2.length am,.slice a2 ad.2.length a1])] w0 (fun e w'=>∃ (col':Zd) (ra1:Option Addr) (rc2:Nat) (ra4:Option Addr) (rc5:Nat),e= .returned ((.agg #[.bool r.1.1,.slice ra1 r.1.2.length rc2,.slice ra4 r.2.length rc5]))∧Zg col w0 col' w'∧Sl (Za.int .u32) col' w' ra1 rc2 r.1.2∧Sl (Za.int .u32) col' w' ra4 rc5 r.2):=by
 refine Yw (m:=11) func36 rfl rfl rfl ?_;rw [Zch.eq_1] at hm;have aa:=St.start col w0;refine go ?_;refine Xp (col:=(Zk col)) 1 rfl ?_;intro a3 bj a8 a9 ab;refine Xa (col:=a8) #[.bool false,.slice none (([]:List Int).length) 0,.slice none (([]:List Int).length) 0] 2 zeroValue35 ?_;intro ba bk bm a4 ac;refine Zm<|Zw ?_;replace ai:=ai.keep (Zl.start col w0);replace aj:=aj.keep (Zl.start col w0);replace aa:=(aa.grow a9).grow a4;replace ab:=ab.gr a4;refine Wp.cutK [1,2,1000000] (fun f ae=>∃ af ao ap aq ak ar au al,Zf5 ao ak al=some r∧St w0 (Zk col) af ae∧Sl (Za.int .u32) af ae ap aq ak∧Sl (Za.int .u32) af ae ar au al∧Zj 35 1 af ae a3 #[.bool ao,.slice ap ak.length aq,.slice ar al.length au]∧Zj 35 2 af ae ba #[.bool false,.slice none (([]:List Int).length) 0,.slice none (([]:List Int).length) 0]) ?_ ?_
 ·intro f ae hJ;obtain ⟨af,ao,ap,aq,ak,ar,au,al,hm,aa,av,aw,ab,ac⟩:=hJ;rw [Zf5.eq_1] at hm;refine go ?_;refine lV _ (Z3 isAgg35 sizeOf35 ab)<|Zu ac ?_;intro bn ax bb bc;refine go ?_;cases hm;replace av:=av.kp ax;replace aw:=aw.kp ax;replace aa:=aa.kp ax bb;exact ⟨rfl,_,ra bc.atN,_,_,_,_,_,rfl,aa.fin (cm []),aa.fs av,aa.fs aw⟩
 refine go ?_;refine Xw ab ?_;obtain ⟨bo,bd,hm⟩:=bZ hm;refine Zi (Zm7 3 bd (aj.ks aa)) ?_;rintro _ bp ⟨be,bq,br,rfl,ay,bs⟩;refine ⟨_,rfl,go ?_⟩;replace ab:=ab.gr ay;replace ac:=ac.gr ay;replace aa:=aa.grow ay;refine Zp hm (fun hb hm=>?_) fun hb hm=>?_
 ·refine Ww ?_;obtain ⟨a5,bf,hm⟩:=bZ hm;refine Zi (Ze4 (col:=be) 4 bf) ?_;rintro _ bt ⟨bg,a6,a7,rfl,az,ag⟩;refine ⟨_,rfl,?_⟩;refine Xo ⟨_,_,rfl⟩ ?_;replace ab:=ab.gr az;refine Zb2 (off:=2) (v:=(.slice a6 a5.length a7)) ab sizeOf31 rfl rfl (by intro u hu;simp only [Value.cells,List.mem_cons,List.not_mem_nil,or_false] at hu;subst hu;rfl) rfl rfl ?_;intro bh a0 bi ah;replace ah:Zj 35 1 bg bh a3 #[.bool ad.1.1,.slice an ad.1.2.length am,.slice a6 a5.length a7]:=ah;refine Zm ?_;replace ag:=ag.kp a0;replace ag:=(ag).toSlF (Ze.int .u32);replace ah:=ah.froz 4 (by decide);replace ac:=(ac.gr az).kp a0;replace ac:=ac.froz 4 (by decide);replace aa:=(aa.grow az).kp a0 bi;replace aa:=aa.froz 4 (by decide) (by decide);exact ⟨rfl,_,_,_,_,_,_,_,_,hm,aa,(ai.ks aa),ag,ah,ac⟩
 refine Yd ?_;exact ⟨rfl,_,_,_,_,_,_,_,_,hm,aa,(ai.ks aa),(aj.ks aa),ab,ac⟩
theorem Z0k:Wo Tryz.prog 35 3 56:=⟨Tryz.t35,_,rfl,rfl,rfl,rfl,rfl⟩
def Zci (N:Nat):List R0→R7→Option R7
  | [],ab=>some ab
  | ac :: ad,ab=>(Zch N ((ac.1.1,ac.1.2),ac.2)).bind fun aa=>Z0 ((ab.length+[((aa.1.1,aa.1.2),aa.2)].length) * 56≤140737488355328∧ab.length+[((aa.1.1,aa.1.2),aa.2)].length≤maxLen) ((Zci N ad) (ab++[((aa.1.1,aa.1.2),aa.2)]))
termination_by structural x=>x
def Zf6 (N:Nat) (aa:R7):Option R7:=
  Z0 (aa.length * 56≤281474976710656∧aa.length≤maxLen) (Zci N aa ([]:List R0))
theorem Zqy {N ar:Nat} {a0:Option Addr} {col:Zd} {w0:World} {ac r:R7} (c1:Nat) (hm:Zf6 N ac=some r) (h0:Sl (Za.pair (Za.pair Za.bool (Za.slice (Za.int .u32))) (Za.slice (Za.int .u32))) col w0 a0 ar ac):
    Calls Tryz.prog 92 #[.slice a0 ac.length ar] w0 (fun e w'=>∃ (col':Zd) (ra1:Option Addr) (rc2:Nat),e= .returned ((.slice ra1 r.length rc2))∧Zg col w0 col' w'∧Zb (Za.pair (Za.pair Za.bool (Za.slice (Za.int .u32))) (Za.slice (Za.int .u32))) 35 c1 col' w' ra1 rc2 r):=by
 refine Xl 2 (m:=22) func92 rfl rfl rfl rfl rfl ?_;rw [Zf6.eq_1] at hm;have ab:=St.start col w0;refine go ?_;obtain ⟨au,hm⟩:=Z2 hm;refine Z1j (col:=(Zk col)) (w:=w0) (r:=(Za.pair (Za.pair Za.bool (Za.slice (Za.int .u32))) (Za.slice (Za.int .u32)))) (n:=ac.length) 1 rfl underlying71 Z0k rfl rfl rfl au.1 au.2 ?_;intro bt bu bv a2 a3;refine go ?_;replace ab:=ab.grow a2;refine Z5 [10,9,1000000] (fun n f ak=>∃ af ad al am ag ae,n=ae.length∧ac.drop ad=ae∧Zci N ae ag=some r∧St w0 (Zk col) af ak∧Zb (Za.pair (Za.pair Za.bool (Za.slice (Za.int .u32))) (Za.slice (Za.int .u32))) 35 1 af ak al am ag∧[11,3].map f=[.int .i64 ad,.slice al ag.length am]) ac.length ⟨_,0,_,_,_,_,rfl,rfl,hm,ab,a3,rfl⟩ ?_;clear hm;intro n f ak hI;obtain ⟨af,ad,al,am,ag,ae,hn,hl,hm,ab,ah,hs⟩:=hI;subst hn;refine .lL [11,3] hs ?_;replace h0:=h0.keep (Zl.start col w0)
 cases ae with
 | nil=>
  have hk:¬ ((ad:Int)<(ac.length:Int)):=by have:=List.drop_eq_nil_iff.1 hl;omega
  have hkb:=decide_eq_false hk;rw [Zci.eq_1] at hm;refine go ?_;refine X4 (congrArg Value.bool hkb)<|go ?_;cases hm;exact ⟨rfl,_,_,_,rfl,ab.fin (cm [(1,c1)]),ab.fo ah⟩
 | cons an a4=>
  obtain ⟨ao,a5,a6⟩:=Yg hl;have hk:(ad:Int)<(ac.length:Int):=by omega
  have hkb:=decide_eq_true hk;rw [Zci.eq_2] at hm;refine go ?_;refine X9 (congrArg Value.bool hkb)<|go ?_;refine lI ao ((h0.ks ab).addr ao) ?_;obtain ⟨_,a7,a8⟩:=(h0.ks ab).atN ao;obtain ⟨_,_,rfl,a9,ba⟩:=We a7;obtain ⟨_,_,rfl,bb,bc⟩:=We a9;obtain ⟨rfl,_⟩:=bb;obtain ⟨⟨bd,be,rfl,ap⟩,_⟩:=bc;obtain ⟨⟨bf,bg,rfl,aq⟩,_⟩:=ba;refine lV (.agg #[.bool an.1.1,.slice bd an.1.2.length be,.slice bf an.2.length bg]) (Xc isAgg35 sizeOf35 rfl rfl a8)<|Xa (col:=af) #[.bool false,.slice none (([]:List Int).length) 0,.slice none (([]:List Int).length) 0] 2 zeroValue35 ?_;intro bw bx bz ai bh;refine Zu bh ?_;intro b0 aj bi bj;refine go ?_;refine lV _ (Z3 isAgg35 sizeOf35 bj) ?_;obtain ⟨aa,bk,hm⟩:=bZ hm;replace ap:=(ap.gr ai).kp aj;replace aq:=(aq.gr ai).kp aj;refine Zi (Zqx bk ap aq) ?_;rintro _ b1 ⟨bm,av,aw,ax,ay,rfl,az,bn,bo⟩;refine ⟨_,rfl,?_⟩;refine Tn (col:=bm) (r:=(Za.pair (Za.pair Za.bool (Za.slice (Za.int .u32))) (Za.slice (Za.int .u32)))) (xs:=[((aa.1.1,aa.1.2),aa.2)]) [(.agg #[.bool aa.1.1,.slice av aa.1.2.length aw,.slice ax aa.2.length ay])] 3 (Y3.ofF (Rows.consF (r:=(Za.pair (Za.pair Za.bool (Za.slice (Za.int .u32))) (Za.slice (Za.int .u32)))) (x:=((aa.1.1,aa.1.2),aa.2)) (cs:=[.bool aa.1.1,.slice av aa.1.2.length aw,.slice ax aa.2.length ay]) (Vk (Vk (Ue aa.1.1) (Uf bn)) (Uf bo)) Rows.nil0)) ?_;intro b2 b3 b4 a1 bp;obtain ⟨bq,hm⟩:=Z2 hm;replace ah:=(((ah.gr ai).kp aj).gr az).gr a1;refine Vv ah (bp.srcN (NB.pair (NB.pair NB.bool NB.slice) NB.slice)) bq ?_;intro b5 b6 b7 b8 br bs;refine go ?_;replace ab:=((((ab.grow ai).kp aj bi).grow az).grow a1).kpp br;exact ⟨a4.length,by simp,rfl,⟨_,_,_,_,_,_,rfl,a5,hm,ab,bs,(Ym (congrArg (Value.int .i64) (Yk (Nat.lt_of_lt_of_le a6 (h0.ks ab).1.1))) rfl)⟩⟩
def Zcy (N:Nat) (ab:List R0) (ac:Int):Nat→Int→Option (List R7)
  | 0,_=>none
  | ad+1,aa=>if (decide (aa<(ab.length:Int)))=true then (Z0 ((0:Int)≤aa∧aa≤(ab.length:Int)) (Z0 ((0:Int)≤aa∧aa≤(i64.wrap (aa+(if ((ab.drop (Int.toNat aa)).length:Int)<ac then ((ab.drop (Int.toNat aa)).length:Int) else ac)))∧(i64.wrap (aa+(if ((ab.drop (Int.toNat aa)).length:Int)<ac then ((ab.drop (Int.toNat aa)).length:Int) else ac)))≤(i64.wrap (aa+(if ((ab.drop (Int.toNat aa)).length:Int)<ac then ((ab.drop (Int.toNat aa)).length:Int) else ac)))∧(i64.wrap (aa+(if ((ab.drop (Int.toNat aa)).length:Int)<ac then ((ab.drop (Int.toNat aa)).length:Int) else ac)))≤(ab.length:Int)) (((Zcy N ab ac ad) (i64.wrap (aa+ac))).bind fun ae=>some ((ab.take (Int.toNat (i64.wrap (aa+(if ((ab.drop (Int.toNat aa)).length:Int)<ac then ((ab.drop (Int.toNat aa)).length:Int) else ac))))).drop (Int.toNat aa) :: ae)))) else (some [])
termination_by structural x=>x
def Zlp (N:Nat) (aa:List R0) (ab:Int):Option (List R7):=
  Zcy N aa ab N 0
theorem Zzg (N:Nat) (col:Zd) (w0:World) (g0:Nat) (af0:Option Addr) (capf0:Nat) (ab:List R0) (hf0:Sl (Za.pair (Za.pair Za.bool (Za.slice (Za.int .u32))) (Za.slice (Za.int .u32))) col w0 af0 capf0 ab) (hb0:Zj 71 450 col w0 g0 #[.slice af0 ab.length capf0]) (g1:Nat) (ac:Int) (hb1:Zj 3 450 col w0 g1 #[.int .i64 ac]) (r:List R7) (hm:Zlp N ab ac=some r):
    Zhh Tryz.prog 1 176 [.pointer (some ⟨g0,0,none⟩),.pointer (some ⟨g1,0,none⟩)] (fun (y:List R0) (col:Zd) (w:World) (args:List Value)=>∃ (a0:Option Addr) (ak:Nat),args=[.slice a0 y.length ak]∧Sl (Za.pair (Za.pair Za.bool (Za.slice (Za.int .u32))) (Za.slice (Za.int .u32))) col w a0 ak y) r col w0:=by
 intro l J X hjs hxs hy ad;refine Ze6 (m:=31) (args:=[.func (.yield l) #[] #[],.pointer (some ⟨g0,0,none⟩),.pointer (some ⟨g1,0,none⟩)]) func176 rfl rfl rfl rfl ?_;rw [Zlp.eq_1] at hm;refine go ?_;refine Z5 [0,1,2,1000000] (fun n f ah=>∃ ae r aa af,af=n∧Zcy N ab ac af aa=some r∧J r ae ah∧Sl (Za.pair (Za.pair Za.bool (Za.slice (Za.int .u32))) (Za.slice (Za.int .u32))) ae ah af0 capf0 ab∧Zj 71 450 ae ah g0 #[.slice af0 ab.length capf0]∧Zj 3 450 ae ah g1 #[.int .i64 ac]∧[4].map f=[.int .i64 aa]) N ⟨_,_,0,_,rfl,hm,ad,hf0,hb0,hb1,rfl⟩ ?_;clear hm;intro n f ah hI;obtain ⟨ae,r,aa,af,hn,hm,ad,hf0,hb0,hb1,hs⟩:=hI;subst hn;refine .lL [4] hs ?_
 cases af with
 | zero=>rw [Zcy.eq_1] at hm;cases hm
 | succ af=>
  rw [Zcy.eq_2] at hm;refine go ?_;refine lW hb0.at1<|go ?_;refine Zp hm (fun hb hm=>go ?_) fun hb hm=>go ?_
  ·refine Vy (col:=ae) (by kernel_rfl) (by kernel_rfl)<|qW (fun _ hC=>hb1.at1.gr (hC.bl ae)) ?_;refine qW (fun _ hC=>hb0.at1.gr (hC.bl ae)) ?_;refine go ?_;obtain ⟨al,hm⟩:=Z2 hm;have ap:=hf0.drop (sz:=3) rfl (Int.toNat aa);refine qv (v:=.slice (if capf0=(Int.toNat aa) then af0 else af0.map (·.add ((Int.toNat aa) * 3))) (ab.length - (Int.toNat aa)) (capf0 - (Int.toNat aa))) rfl (fun _ hC=>Zpu underlying71 sizeOf35 rfl rfl al.1 al.2) ?_;generalize (if capf0=(Int.toNat aa) then af0 else af0.map (·.add ((Int.toNat aa) * 3)))=am at *;refine .ld (d:=16) (v:=(.slice am ((ab.drop (Int.toNat aa)).length) (capf0 - (Int.toNat aa)))) (congrArg (fun n=>Value.slice am n (capf0 - (Int.toNat aa))) (List.length_drop (i:=(Int.toNat aa)) (l:=ab)).symm) ?_;refine go ?_;refine qv (v:=(.int .i64 (if ((ab.drop (Int.toNat aa)).length:Int)<ac then ((ab.drop (Int.toNat aa)).length:Int) else ac))) rfl (fun _ hC=>Zme ac ((ab.drop (Int.toNat aa)).length:Int) rfl rfl) ?_;refine go ?_;refine Wn ?_;intro aq hC;replace hC:=hC.bl ae;replace hf0:=hf0.gr hC;replace hb0:=hb0.gr hC;replace hb1:=hb1.gr hC;replace ad:=hjs _ _ _ _ _ ad hC.toP;refine go ?_;refine lM (.func (.yield l) #[] #[])<|lW hb0.at1<|go ?_;obtain ⟨ag,hm⟩:=Z2 hm;have an:=((hf0.take (Int.toNat (i64.wrap (aa+(if ((ab.drop (Int.toNat aa)).length:Int)<ac then ((ab.drop (Int.toNat aa)).length:Int) else ac))))).recap (show (ab.take (Int.toNat (i64.wrap (aa+(if ((ab.drop (Int.toNat aa)).length:Int)<ac then ((ab.drop (Int.toNat aa)).length:Int) else ac))))).length≤(Int.toNat (i64.wrap (aa+(if ((ab.drop (Int.toNat aa)).length:Int)<ac then ((ab.drop (Int.toNat aa)).length:Int) else ac)))) by rw [List.length_take (i:=(Int.toNat (i64.wrap (aa+(if ((ab.drop (Int.toNat aa)).length:Int)<ac then ((ab.drop (Int.toNat aa)).length:Int) else ac))))) (l:=ab)];have:=ag.2;omega)).drop (sz:=3) rfl (Int.toNat aa);refine lv (v:=.slice (if (Int.toNat (i64.wrap (aa+(if ((ab.drop (Int.toNat aa)).length:Int)<ac then ((ab.drop (Int.toNat aa)).length:Int) else ac))))=(Int.toNat aa) then af0 else af0.map (·.add ((Int.toNat aa) * 3))) ((Int.toNat (i64.wrap (aa+(if ((ab.drop (Int.toNat aa)).length:Int)<ac then ((ab.drop (Int.toNat aa)).length:Int) else ac)))) - (Int.toNat aa)) ((Int.toNat (i64.wrap (aa+(if ((ab.drop (Int.toNat aa)).length:Int)<ac then ((ab.drop (Int.toNat aa)).length:Int) else ac)))) - (Int.toNat aa))) rfl rfl (Z3g underlying71 sizeOf35 rfl rfl rfl rfl ag.1 ag.2.1 ag.2.2.1 (by have:=hf0.1.2;have:=ag.2.2.2;omega)) ?_
   generalize (if (Int.toNat (i64.wrap (aa+(if ((ab.drop (Int.toNat aa)).length:Int)<ac then ((ab.drop (Int.toNat aa)).length:Int) else ac))))=(Int.toNat aa) then af0 else af0.map (·.add ((Int.toNat aa) * 3)))=ai at *;refine .ld (d:=28) (v:=(.slice ai (((ab.take (Int.toNat (i64.wrap (aa+(if ((ab.drop (Int.toNat aa)).length:Int)<ac then ((ab.drop (Int.toNat aa)).length:Int) else ac))))).drop (Int.toNat aa)).length) ((Int.toNat (i64.wrap (aa+(if ((ab.drop (Int.toNat aa)).length:Int)<ac then ((ab.drop (Int.toNat aa)).length:Int) else ac)))) - (Int.toNat aa)))) (congrArg (fun n=>Value.slice ai n ((Int.toNat (i64.wrap (aa+(if ((ab.drop (Int.toNat aa)).length:Int)<ac then ((ab.drop (Int.toNat aa)).length:Int) else ac)))) - (Int.toNat aa))) (show (Int.toNat (i64.wrap (aa+(if ((ab.drop (Int.toNat aa)).length:Int)<ac then ((ab.drop (Int.toNat aa)).length:Int) else ac)))) - (Int.toNat aa)=((ab.take (Int.toNat (i64.wrap (aa+(if ((ab.drop (Int.toNat aa)).length:Int)<ac then ((ab.drop (Int.toNat aa)).length:Int) else ac))))).drop (Int.toNat aa)).length by rw [List.length_drop (i:=(Int.toNat aa)) (l:=ab.take (Int.toNat (i64.wrap (aa+(if ((ab.drop (Int.toNat aa)).length:Int)<ac then ((ab.drop (Int.toNat aa)).length:Int) else ac))))),List.length_take (i:=(Int.toNat (i64.wrap (aa+(if ((ab.drop (Int.toNat aa)).length:Int)<ac then ((ab.drop (Int.toNat aa)).length:Int) else ac))))) (l:=ab)];have:=ag.2;omega)) ?_;obtain ⟨ar,hc_14m,ao⟩:=bZ hm;cases ao;have hm:=hc_14m;refine ly1 rfl rfl rfl (hy _ _ _ _ [(.slice ai (((ab.take (Int.toNat (i64.wrap (aa+(if ((ab.drop (Int.toNat aa)).length:Int)<ac then ((ab.drop (Int.toNat aa)).length:Int) else ac))))).drop (Int.toNat aa)).length) ((Int.toNat (i64.wrap (aa+(if ((ab.drop (Int.toNat aa)).length:Int)<ac then ((ab.drop (Int.toNat aa)).length:Int) else ac)))) - (Int.toNat aa)))] ad ⟨ai,((Int.toNat (i64.wrap (aa+(if ((ab.drop (Int.toNat aa)).length:Int)<ac then ((ab.drop (Int.toNat aa)).length:Int) else ac)))) - (Int.toNat aa)),rfl,an⟩) ?_;rintro _ au ⟨av,aj,⟨rfl,hJ⟩ | ⟨rfl,hX⟩⟩
   ·refine ⟨_,rfl,?_⟩;have ad:=hJ;refine go ?_;refine X4 rfl<|go ?_;replace hb1:=hb1.kpp aj;refine lW hb1.at1<|go ?_;replace hf0:=hf0.kpp aj;replace hb0:=hb0.kpp aj;exact ⟨af,by omega,rfl,⟨_,_,_,_,rfl,hm,ad,hf0,hb0,hb1,rfl⟩⟩
   refine ⟨_,rfl,?_⟩;have ad:=hX;refine go ?_;refine X9 rfl<|Wx ?_;exact ⟨rfl,⟨_,rfl⟩,_,.inr ad⟩
  cases hm;exact ⟨rfl,⟨_,rfl⟩,_,.inl ad⟩
def Zlq (N:Nat) (aa:R7) (ab:Int):Option (List R7):=
  Zlp N aa ab
def Zlo (N:Nat) (ab:R7) (aa:Int):Option (List R7):=
  if (decide (aa<1))=true then none else (Zlq N ab aa)
theorem Zzf {N aa:Nat} {a0:Option Addr} {col:Zd} {w0:World} {ac:R7} {ad:Int} {r:(List R7)} (hm:Zlo N ac ad=some r) (h0:Sl (Za.pair (Za.pair Za.bool (Za.slice (Za.int .u32))) (Za.slice (Za.int .u32))) col w0 a0 aa ac):
    Calls Tryz.prog 151 #[.slice a0 ac.length aa,.int .i64 ad] w0 (fun e w'=>∃ (col':Zd) (rv1:Value),e= .returned (rv1)∧Zg col w0 col' w'∧It Tryz.prog 1 rv1 (fun (y:List R0) (col:Zd) (w:World) (args:List Value)=>∃ (a0:Option Addr) (aa:Nat),args=[.slice a0 y.length aa]∧Sl (Za.pair (Za.pair Za.bool (Za.slice (Za.int .u32))) (Za.slice (Za.int .u32))) col w a0 aa y) r q0 col' w'):=by
 refine Xl 4 (m:=9) func151 rfl rfl rfl rfl rfl ?_;rw [Zlo.eq_1] at hm;have ab:=St.start col w0;refine go ?_;refine Zde (col:=(Zk col)) (v:=(.slice a0 ac.length aa)) 1 rfl rfl ?_;intro af ap an aq ae;replace ae:Zj 71 1 an ap af #[.slice a0 ac.length aa]:=ae;refine Zde (col:=an) (v:=(.int .i64 ad)) 2 rfl rfl ?_;intro ag ar au ao ah;replace ah:Zj 3 2 au ar ag #[.int .i64 ad]:=ah;refine lv (v:=_) rfl rfl (Vx rfl)<|Zm<|Zw ?_;replace h0:=h0.keep (Zl.start col w0);replace ab:=(ab.grow aq).grow ao;replace ae:=ae.gr ao;refine Wp.cutK [2,3,1000000] (fun f aj=>∃ ai,Zlq N ac ad=some r∧St w0 (Zk col) ai aj∧Zj 71 1 ai aj af #[.slice a0 ac.length aa]∧Zj 3 2 ai aj ag #[.int .i64 ad]) ?_ ?_
 ·intro f aj hJ;obtain ⟨ai,hm,ab,ae,ah⟩:=hJ;rw [Zlq.eq_1] at hm;refine go ?_;refine lV (.func (.func 176) #[] #[.pointer (some ⟨af,0,none⟩),.pointer (some ⟨ag,0,none⟩)]) (Zpo rfl rfl)<|lA (.func (.func 176) #[] #[.pointer (some ⟨af,0,none⟩),.pointer (some ⟨ag,0,none⟩)])<|go ?_;have ak:=ab.finBox (G:=(fun n=>bif Nat.beq n 1 then 450 else bif Nat.beq n 2 then 450 else 0)) ae (by decide) (by decide) (show (fun n=>bif Nat.beq n 1 then 450 else bif Nat.beq n 2 then 450 else 0) 1=450 from rfl);have h0f:=ab.finSl (g:=(fun n=>bif Nat.beq n 1 then 450 else bif Nat.beq n 2 then 450 else 0)) rfl (h0.ks ab);have al:=ab.finBox (G:=(fun n=>bif Nat.beq n 1 then 450 else bif Nat.beq n 2 then 450 else 0)) ah (by decide) (by decide) (show (fun n=>bif Nat.beq n 1 then 450 else bif Nat.beq n 2 then 450 else 0) 2=450 from rfl);refine ⟨rfl,V2 w0.heap.size col ai (fun n=>bif Nat.beq n 1 then 450 else bif Nat.beq n 2 then 450 else 0),_,rfl,ab.fin (fun n=>bif Nat.beq n 1 then 450 else bif Nat.beq n 2 then 450 else 0),176,[.pointer (some ⟨af,0,none⟩),.pointer (some ⟨ag,0,none⟩)],rfl,call176,?_⟩;intro col9 w9 am hk9;replace ak:=ak.itk am hk9 rfl;replace h0f:=h0f.itk am hk9 rfl;replace al:=al.itk am hk9 rfl;exact Zzg N col9 w9 af a0 aa ac h0f ak ag ad al r hm
 refine go ?_;refine lW ah.at1<|go ?_;refine Zp hm (fun hb hm=>?_) fun hb hm=>?_
 ·cases hm
 refine Yd ?_;exact ⟨rfl,_,hm,ab,ae,ah⟩
def Zdt (N:Nat):Option R0:=
  (Za0 N 1 1).bind fun aa=>some ((aa.1.1.1,aa.1.1.2),aa.1.2)
theorem Zm5 {N:Nat} {col:Zd} {w0:World} {r:R0} (c1 c2:Nat) (hm:Zdt N=some r):
    Calls Tryz.prog 35 #[] w0 (fun e w'=>∃ (col':Zd) (ra1:Option Addr) (rc2:Nat) (ra4:Option Addr) (rc5:Nat),e= .returned ((.agg #[.bool r.1.1,.slice ra1 r.1.2.length rc2,.slice ra4 r.2.length rc5]))∧Zg col w0 col' w'∧Zb (Za.int .u32) 77 c1 col' w' ra1 rc2 r.1.2∧Zb (Za.int .u32) 77 c2 col' w' ra4 rc5 r.2):=by
 refine Yw (m:=8) func35 rfl rfl rfl ?_;rw [Zdt.eq_1] at hm;have ab:=St.start col w0;refine go ?_;refine Xa (col:=(Zk col)) #[.bool false,.slice none (([]:List Int).length) 0,.slice none (([]:List Int).length) 0] 1 zeroValue35 ?_;intro ay az an ao ae;refine go ?_;obtain ⟨aa,ap,hm⟩:=bZ hm;refine Zi (Zm4 (col:=an) 2 3 ap) ?_;rintro _ a0 ⟨aq,ai,aj,ak,al,rfl,am,af,ag⟩;refine ⟨_,rfl,?_⟩;refine lM (.tuple #[(.agg #[.bool aa.1.1.1,.slice ai aa.1.1.2.length aj,.slice ak aa.1.2.length al]),.int .i64 aa.2])<|lV (.agg #[.bool aa.1.1.1,.slice ai aa.1.1.2.length aj,.slice ak aa.1.2.length al]) (Z8 rfl rfl)<|lV (.int .i64 aa.2) (Z8 rfl rfl)<|Xa (col:=aq) #[.bool false,.slice none (([]:List Int).length) 0,.slice none (([]:List Int).length) 0] 4 zeroValue35 ?_;intro a1 a2 a3 ac ar;refine Zu ar ?_;intro a4 ad au av;refine go ?_;refine lV _ (Z3 isAgg35 sizeOf35 av) ?_;replace ae:=((ae.gr am).gr ac).kp ad;refine Zu ae ?_;intro a5 ah aw ax;refine go ?_;cases hm;replace ab:=((((ab.grow ao).grow am).grow ac).kp ad au).kp ah aw;replace af:=((af.gr ac).kp ad).kp ah;replace ag:=((ag.gr ac).kp ad).kp ah;exact ⟨rfl,_,ra ax.atN,_,_,_,_,_,rfl,ab.fin (cm [(2,c1),(3,c2)]),ab.fo af,ab.fo ag⟩
def Zom (aa:Bool):Option Bool:=
  some aa
def Zdv (N:Nat):List R7→Bool→Option Bool
  | [],ac=>some true
  | ad :: ae,ac=>(Qf N ad).bind fun aa=>(Zdt N).bind fun ab=>(Vi N ((aa.1.1,aa.1.2),aa.2) ((ab.1.1,ab.1.2),ab.2)).bind fun af=>if (!decide (af=0))=true then (Zom false) else ((Zdv N ae) ac)
termination_by structural x=>x
def Zic (N:Nat) (aa:R7) (ab:Int):Option Bool:=
  (Zlo N aa ab).bind fun ac=>Zdv N ac false
theorem Zyu {N ah:Nat} {a0:Option Addr} {col:Zd} {w0:World} {am:R7} {ao:Int} {r:Bool} (hm:Zic N am ao=some r) (h0:Sl (Za.pair (Za.pair Za.bool (Za.slice (Za.int .u32))) (Za.slice (Za.int .u32))) col w0 a0 ah am):
    Calls Tryz.prog 94 #[.slice a0 am.length ah,.int .i64 ao] w0 (fun e w'=>e= .returned ((.bool r))∧Below w0.heap.size w0 w'):=by
 refine Zra (m:=15) (args:=[.slice a0 am.length ah,.int .i64 ao]) func94 rfl rfl rfl ?_;rw [Zic.eq_1] at hm;have aa:=St.start col w0;replace h0:=h0.keep (Zl.start col w0);have hmk:Yp 499 (Zk col) w0 []:=.nil;refine go ?_;refine Zat (col:=(Zk col)) (v:=(.bool false)) 1 rfl zeroValue4 ?_;intro ai a4 a5 ax ab;replace ab:Zj 4 1 a5 a4 ai #[.bool false]:=ab;refine go ?_;obtain ⟨a6,a7,hm⟩:=bZ hm;replace aa:=aa.grow ax;refine Zi (Zzf a7 (h0.ks aa)) ?_;rintro _ bq ⟨a8,br,rfl,ap,a9⟩;refine ⟨_,rfl,go ?_⟩;replace hmk:=(hmk.gr ax).gr ap;replace ab:=ab.gr ap;replace aa:=aa.grow ap;refine Zms (psl:=[9]) (arr:=(fun (y:List R0) (col:Zd) (w:World) (args:List Value)=>∃ (a0:Option Addr) (ah:Nat),args=[.slice a0 y.length ah]∧Sl (Za.pair (Za.pair Za.bool (Za.slice (Za.int .u32))) (Za.slice (Za.int .u32))) col w a0 ah y)) (ys:=a6) (col:=a8) 498 rfl a9 rfl hmk rfl rfl (by rintro _ _ _ _ ⟨_,_,rfl,_⟩;rfl) (fun ys_ ad ae=>∃ (ac:Bool),Zdv N ys_ ac=some r∧St w0 (Zk col) ad ae∧Zj 4 1 ad ae ai #[.bool ac]) (fun c_ ad ae=>(c_= .ret∧∃ (ac:Bool),Zom ac=some r∧St w0 (Zk col) ad ae∧Zj 4 1 ad ae ai #[.bool ac])) ?_ ?_ ⟨false,hm,aa,ab⟩ ?_ ?_ ?_
 ·intro ys_ ad ae col2_ w2_ hJ hk;obtain ⟨ac,hm,aa,ab⟩:=hJ;exact ⟨ac,hm,aa.kpp hk rfl rfl,ab.kpp hk rfl⟩
 ·intro c_ ad ae col2_ w2_ hX hk;obtain ⟨rfl,hX⟩:=hX;obtain ⟨ac,hm,aa,ab⟩:=hX;exact ⟨rfl,⟨ac,hm,aa.kpp hk rfl rfl,ab.kpp hk rfl⟩⟩
 ·intro bs bt bu bv bw ad ae args hJ hrec hmk harr;obtain ⟨ac,hm,aa,ab⟩:=hJ;rw [Zdv.eq_2] at hm;have hki:=Zt.refl (pC 1) ad ae;obtain ⟨bx,bz,rfl,aq⟩:=harr;refine go ?_;refine ⟨_,hrec,?_⟩;intro b0 b1 aj ay hrec2;have hrec:=hrec2;refine go ?_;obtain ⟨b2,ba,hm⟩:=bZ hm;replace aq:=aq.kp aj;refine Zi (Ze0 2 3 ba aq) ?_;rintro _ b3 ⟨bb,b4,b5,b6,b7,rfl,ak,ar,au⟩;refine ⟨_,rfl,?_⟩;obtain ⟨b8,bc,hm⟩:=bZ hm;refine lc rfl rfl (S4 call35) (Zm5 (col:=bb) 4 5 bc:) ?_;rintro _ bd ⟨av,b9,ca,cb,cc,rfl,af,be,bf⟩;refine ⟨_,rfl,?_⟩;obtain ⟨cd,bg,hm⟩:=bZ hm;replace ar:=ar.gr af;replace au:=au.gr af;refine Zi (Sm bg ((((ar.toSlF (Ze.int .u32)).froz 3).froz 4).froz 5) ((((au.froz 2 (by decide)).toSlF (Ze.int .u32)).froz 4).froz 5) ((((be.froz 2 (by decide)).froz 3 (by decide)).toSlF (Ze.int .u32)).froz 5) ((((bf.froz 2 (by decide)).froz 3 (by decide)).froz 4 (by decide)).toSlF (Ze.int .u32))) ?_;rintro _ bh ⟨rfl,ag⟩;refine ⟨_,rfl,?_⟩;replace ag:Zg av bd av bh:=.of_below ag;refine go ?_;replace ab:=(((ab.kp aj).gr ak).gr af).gr ag;replace hmk:=(((hmk.kp aj).gr ak).gr af).gr ag;replace hki:=(((hki.kp aj ay rfl).gr ak).gr af).gr ag;replace aa:=(((aa.kp aj ay).grow ak).grow af).grow ag;replace hrec:=((hrec.gr ak).gr af).gr ag;refine Zp hm (fun hb hm=>go ?_) fun hb hm=>?_
  ·refine Ux (v:=(.bool false)) ab sizeOf4 rfl rfl (by intro u hu;simp only [Value.cells,List.mem_cons,List.not_mem_nil,or_false] at hu;subst hu;rfl) rfl rfl ?_;intro bi an az aw;replace aw:Zj 4 1 av bi ai #[.bool false]:=aw;refine go ?_;replace hrec:=hrec.kp an;replace hmk:=hmk.kp an;replace hki:=hki.kp an az rfl;replace aa:=aa.kp an az;exact ⟨_,hki,⟨rfl,⟨false,hm,aa,aw⟩⟩,hrec,hmk⟩
  refine Yd ?_;exact ⟨_,hki,⟨ac,hm,aa,ab⟩,hrec,hmk⟩
 ·intro bj ad ae hJ hmk;obtain ⟨ac,hm,aa,ab⟩:=hJ;rw [Zdv.eq_1] at hm;refine go ?_;refine Ux (v:=(.bool true)) ab sizeOf4 rfl rfl (by intro u hu;simp only [Value.cells,List.mem_cons,List.not_mem_nil,or_false] at hu;subst hu;rfl) rfl rfl ?_;intro bk a1 bm al;replace al:Zj 4 1 ad bk ai #[.bool true]:=al;refine go ?_;cases hm;replace hmk:=hmk.kp a1;refine ⟨_,(bj :: []),rfl,hmk,?_⟩;intro ce a2 bn;replace aa:=(aa.kp a1 bm).kp a2 bn;replace al:=al.kp a2;exact ⟨_,Zha rfl rfl isAgg4 rfl al.at1,rfl,aa.below⟩
 intro c_ bo ad ae hX hmk;obtain ⟨rfl,hX⟩:=hX;obtain ⟨ac,hm,aa,ab⟩:=hX;rw [Zom.eq_1] at hm;refine Wx ?_;cases hm;refine ⟨_,(bo :: []),rfl,hmk,?_⟩;intro cf a3 bp;replace ab:=ab.kp a3;replace aa:=aa.kp a3 bp;exact ⟨_,Zha rfl rfl isAgg4 rfl ab.at1,rfl,aa.below⟩
def Zf9 (aa:Bool):Option Bool:=
  some aa
def Zf8 (N:Nat) (aa:R0):Option Bool:=
  (Qe N ((aa.1.1,aa.1.2),aa.2)).bind fun ac=>if (decide (ac<0))=true then (Zf9 true) else ((Zdt N).bind fun ab=>(Vi N ((aa.1.1,aa.1.2),aa.2) ((ab.1.1,ab.1.2),ab.2)).bind fun ad=>Zf9 (decide (0<ad)))
theorem Zyr {N al am:Nat} {an ao:Option Addr} {col:Zd} {w0:World} {ac:R0} {r:Bool} (hm:Zf8 N ac=some r) (ah:Sl (Za.int .u32) col w0 an al ac.1.2) (ai:Sl (Za.int .u32) col w0 ao am ac.2):
    Calls Tryz.prog 93 #[(.agg #[.bool ac.1.1,.slice an ac.1.2.length al,.slice ao ac.2.length am])] w0 (fun e w'=>e= .returned ((.bool r))∧Below w0.heap.size w0 w'):=by
 refine Xl 2 (m:=12) func93 rfl rfl rfl rfl rfl ?_;rw [Zf8.eq_1] at hm;have aa:=St.start col w0;refine go ?_;refine Xp (col:=(Zk col)) 1 rfl ?_;intro a6 a7 ab ay aj;refine Zkn rfl<|Zm<|Zw ?_;replace ah:=ah.keep (Zl.start col w0);replace ai:=ai.keep (Zl.start col w0);replace aa:=aa.grow ay;refine Wp.cutK [1000000] (fun f av=>∃ aw ap,Zf9 ap=some r∧St w0 (Zk col) aw av∧[2].map f=[.bool ap]) ?_ ?_
 ·intro f av hJ;obtain ⟨aw,ap,hm,aa,hs⟩:=hJ;rw [Zf9.eq_1] at hm;refine .lL [2] hs<|Wx ?_;cases hm;exact ⟨rfl,rfl,aa.below⟩
 refine Wb (col:=ab) [(0,0),(1,3),(2,1),(3,1),(4,0),(5,3),(6,3),(7,1),(8,1),(9,1)] (by kernel_rfl) (by kernel_rfl)<|xv rfl rfl (fun _ hC=>Z3 isAgg35 sizeOf35 (aj.gr (hC.bl ab))) ?_;refine xe rfl rfl ?_;intro az hC0;have hC:=hC0.bl ab;obtain ⟨ae,a0,hm⟩:=bZ hm;replace aa:=aa.grow hC;refine Zi (Zj9 a0 (ah.ks aa) (ai.ks aa)) ?_;rintro _ a1 ⟨rfl,ag⟩;refine ⟨_,rfl,?_⟩;replace ag:Zg ab az ab a1:=.of_below ag;refine Zm<|Xr ab hC0 ag<|xu rfl rfl (fun _=>Zmc _ _ rfl rfl) ?_;refine xu rfl rfl (fun _=>Zps rfl) ?_;replace aj:=(aj.gr hC).gr ag;replace aa:=aa.grow ag;refine Xz hm (fun ad hm=>?_) fun ad hm=>?_
 ·refine U0 (b:=decide (ae<0)) 6 rfl rfl rfl rfl rfl (by rw [ad];rfl)<|U0 (b:=decide (ae<0)) 6 rfl rfl rfl rfl rfl (by rw [ad];rfl)<|U0 (b:=decide (ae<0)) 6 rfl rfl rfl rfl rfl (by rw [ad];rfl)<|U0 (b:=decide (ae<0)) 6 rfl rfl rfl rfl rfl (by rw [ad];rfl)<|xu (v:=(.bool true)) rfl rfl (fun _=>Xm (congrArg Value.bool ad) rfl) ?_;refine xu rfl rfl (fun _=>Zjh rfl) ?_;refine Yz ?_;intro a8 hC;replace hC:=hC.bl ab;replace aa:=aa.grow hC;exact ⟨rfl,_,_,hm,aa,rfl⟩
 refine Zju (v:=(.agg #[.bool ac.1.1,.slice an ac.1.2.length al,.slice ao ac.2.length am])) (b:=decide (ae<0)) 6 rfl rfl rfl rfl rfl (by rw [ad];rfl) (fun _ hC=>Xc isAgg35 sizeOf35 rfl rfl (aj.atN.gr (hC.bl ab))) ?_;refine xe rfl rfl ?_;intro a9 hC0;have hC:=hC0.bl ab;refine go ?_;obtain ⟨ba,a2,hm⟩:=bZ hm;refine lc rfl rfl (S4 call35) (Zm5 (col:=ab) 6 7 a2:) ?_;rintro _ bb ⟨af,bc,bd,be,bf,rfl,ax,aq,ar⟩;refine ⟨_,rfl,?_⟩;refine Zm<|Xr af hC0 ax<|xe rfl rfl ?_;intro a3 hC0;replace aa:=(aa.grow hC).grow ax;have hC:=hC0.bl af;refine go ?_;obtain ⟨au,a4,hm⟩:=bZ hm;replace aq:=aq.gr hC;replace ar:=ar.gr hC;replace aa:=aa.grow hC;refine Zi (Sm a4 (((ah.ks aa).froz 6).froz 7) (((ai.ks aa).froz 6).froz 7) ((aq.toSlF (Ze.int .u32)).froz 7) ((ar.froz 6 (by decide)).toSlF (Ze.int .u32))) ?_;rintro _ a5 ⟨rfl,ak⟩;refine ⟨_,rfl,?_⟩;replace ak:Zg af a3 af a5:=.of_below ak;refine Zm<|Xr af hC0 ak<|Zjt (v:=(.bool (decide (0<au)))) (b:=decide (ae<0)) 6 rfl rfl rfl rfl rfl (by rw [ad];rfl) (fun _=>Zpq au 0 rfl rfl) ?_;refine xu (v:=(.bool (decide (0<au)))) rfl rfl (fun _=>Xd (congrArg Value.bool ad) rfl) ?_;refine xu rfl rfl (fun _=>Zjh rfl) ?_;refine Yz ?_;intro bg hC;replace hC:=hC.bl af;replace aa:=(aa.grow ak).grow hC;exact ⟨rfl,_,_,hm,aa,rfl⟩
def Zeg (N:Nat):List R0→Nat→Option Int
  | [],aa=>some (-1)
  | ab :: ac,aa=>(Zf8 N ((ab.1.1,ab.1.2),ab.2)).bind fun ad=>if ad=true then (some (aa:Int)) else ((Zeg N ac) (aa+1))
termination_by structural x=>x
def Zls (N:Nat) (aa:R7):Option Int:=
  Zeg N aa 0
theorem Zzj {N aj:Nat} {a0:Option Addr} {col:Zd} {w0:World} {ab:R7} {r:Int} (hm:Zls N ab=some r) (h0:Sl (Za.pair (Za.pair Za.bool (Za.slice (Za.int .u32))) (Za.slice (Za.int .u32))) col w0 a0 aj ab):
    Calls Tryz.prog 150 #[.slice a0 ab.length aj,(.func (.func 93) #[] #[])] w0 (fun e w'=>e= .returned ((.int .i64 r))∧Below w0.heap.size w0 w'):=by
 refine Xl 4 (m:=19) func150 rfl rfl rfl rfl rfl ?_;rw [Zls.eq_1] at hm;have aa:=St.start col w0;refine go ?_;refine Z5 [0,1,7,1000000] (fun n f af=>∃ ae ac ad,n=ad.length∧ab.drop ac=ad∧Zeg N ad ac=some r∧St w0 (Zk col) ae af∧[8].map f=[.int .i64 ac]) ab.length ⟨_,0,_,rfl,rfl,hm,aa,rfl⟩ ?_;clear hm;intro n f af hI;obtain ⟨ae,ac,ad,hn,hl,hm,aa,hs⟩:=hI;subst hn;refine .lL [8] hs ?_;replace h0:=h0.keep (Zl.start col w0)
 cases ad with
 | nil=>
  have hk:¬ ((ac:Int)<(ab.length:Int)):=by have:=List.drop_eq_nil_iff.1 hl;omega
  have hkb:=decide_eq_false hk;rw [Zeg.eq_1] at hm;refine go ?_;refine X4 (congrArg Value.bool hkb)<|go ?_;cases hm;exact ⟨rfl,rfl,aa.below⟩
 | cons ag ak=>
  obtain ⟨ah,al,am⟩:=Yg hl;have hk:(ac:Int)<(ab.length:Int):=by omega
  have hkb:=decide_eq_true hk;rw [Zeg.eq_2] at hm;refine go ?_;refine X9 (congrArg Value.bool hkb)<|go ?_;refine lM (.func (.func 93) #[] #[])<|go ?_;refine lI ah ((h0.ks aa).addr ah) ?_;obtain ⟨_,an,ao⟩:=(h0.ks aa).atN ah;obtain ⟨_,_,rfl,ap,aq⟩:=We an;obtain ⟨_,_,rfl,ar,au⟩:=We ap;obtain ⟨rfl,_⟩:=ar;obtain ⟨⟨av,aw,rfl,ax⟩,_⟩:=au;obtain ⟨⟨ay,az,rfl,a1⟩,_⟩:=aq;refine lV (.agg #[.bool ag.1.1,.slice av ag.1.2.length aw,.slice ay ag.2.length az]) (Xc isAgg35 sizeOf35 rfl rfl ao) ?_;obtain ⟨a4,a2,hm⟩:=bZ hm;refine lc rfl rfl (Z24 call93 rfl rfl) (Zyr a2 ax a1:) ?_;rintro _ a3 ⟨rfl,ai⟩;refine ⟨_,rfl,?_⟩;replace ai:Zg ae af ae a3:=.of_below ai;refine Zm ?_;replace aa:=aa.grow ai;refine Zp hm (fun hb hm=>go ?_) fun hb hm=>go ?_
  ·cases hm;exact ⟨rfl,rfl,aa.below⟩
  exact ⟨ak.length,by simp,rfl,⟨_,_,_,rfl,al,hm,aa,(Ym (congrArg (Value.int .i64) (Yk (Nat.lt_of_lt_of_le am (h0.ks aa).1.1))) rfl)⟩⟩
def Zlr (N:Nat) (aa:R7):Option Bool:=
  (Zls N aa).bind fun ab=>some (decide (0≤ab))
theorem Zzh {N ad:Nat} {a0:Option Addr} {col:Zd} {w0:World} {ab:R7} {r:Bool} (hm:Zlr N ab=some r) (h0:Sl (Za.pair (Za.pair Za.bool (Za.slice (Za.int .u32))) (Za.slice (Za.int .u32))) col w0 a0 ad ab):
    Calls Tryz.prog 91 #[.slice a0 ab.length ad,(.func (.func 93) #[] #[])] w0 (fun e w'=>e= .returned ((.bool r))∧Below w0.heap.size w0 w'):=by
 refine Xl 4 (m:=9) func91 rfl rfl rfl rfl rfl ?_;rw [Zlr.eq_1] at hm;have aa:=St.start col w0;refine go ?_;refine lM (.func (.func 93) #[] #[]) ?_;obtain ⟨ag,ae,hm⟩:=bZ hm;replace h0:=h0.keep (Zl.start col w0);refine Zi (Zzj ae (h0.ks aa)) ?_;rintro _ af ⟨rfl,ac⟩;refine ⟨_,rfl,?_⟩;replace ac:Zg (Zk col) w0 (Zk col) af:=.of_below ac;refine go ?_;cases hm;replace aa:=aa.grow ac;exact ⟨rfl,rfl,aa.below⟩
def Zdu (ab:R1):List Int→Int→Option Int
  | [],aa=>some aa
  | ad :: ae,aa=>(Zn ab.2.2.1 ad).bind fun ac=>(Zdu ab ae) (if 1099511627776<(i64.wrap (aa * (ac.length:Int))) then 1099511627776 else (i64.wrap (aa * (ac.length:Int))))
termination_by structural x=>x
def Zga (aa:R1) (ab:Int):Option Int:=
  (Zn aa.2.2.2.1 ab).bind fun ac=>Zdu aa ac 1
theorem Zys {am an ao ap:Nat} {aq ar au av:Option Addr} {col:Zd} {w0:World} {aa:R1} {a0 r:Int} (hm:Zga aa a0=some r) (bc:Sl Za.str col w0 aq am aa.2.1) (ai:Sl (Za.slice Za.str) col w0 ar an aa.2.2.1) (aj:Sl (Za.slice (Za.int .i64)) col w0 au ao aa.2.2.2.1) (bd:Sl (Za.slice (Za.pair (Za.pair Za.bool (Za.slice (Za.int .u32))) (Za.slice (Za.int .u32)))) col w0 av ap aa.2.2.2.2):
    Calls Tryz.prog 90 #[(.agg #[.string aa.1,.slice aq aa.2.1.length am,.slice ar aa.2.2.1.length an,.slice au aa.2.2.2.1.length ao,.slice av aa.2.2.2.2.length ap]),.int .i64 a0] w0 (fun e w'=>e= .returned ((.int .i64 r))∧Below w0.heap.size w0 w'):=by
 refine Xl 4 (m:=29) func90 rfl rfl rfl rfl rfl ?_;rw [Zga.eq_1] at hm;have ab:=St.start col w0;refine go ?_;refine Xp (col:=(Zk col)) 1 rfl ?_;intro a1 be bf a2 ae;refine go ?_;refine Xw ae<|Ya rfl ?_;obtain ⟨af,aw,hm⟩:=bZ hm;replace aj:=aj.keep (Zl.start col w0);replace ab:=ab.grow a2;refine lI aw ((aj.ks ab).addr aw) ?_;obtain ⟨_,a3,a4⟩:=(aj.ks ab).atN aw;obtain ⟨⟨a5,a6,rfl,ac⟩,_⟩:=a3;refine lW a4.one<|go ?_;refine Z5 [12,13,2,1000000] (fun n f ak=>∃ al ag ad ah,n=ah.length∧af.drop ag=ah∧Zdu aa ah ad=some r∧St w0 (Zk col) al ak∧Sl (Za.int .i64) al ak a5 a6 af∧Zj 27 1 al ak a1 #[.string aa.1,.slice aq aa.2.1.length am,.slice ar aa.2.2.1.length an,.slice au aa.2.2.2.1.length ao,.slice av aa.2.2.2.2.length ap]∧[14,5].map f=[.int .i64 ag,.int .i64 ad]) af.length ⟨_,0,1,_,rfl,rfl,hm,ab,ac,ae,rfl⟩ ?_;clear hm;intro n f ak hI;obtain ⟨al,ag,ad,ah,hn,hl,hm,ab,ac,ae,hs⟩:=hI;subst hn;refine .lL [14,5] hs ?_;replace ai:=ai.keep (Zl.start col w0)
 cases ah with
 | nil=>
  have hk:¬ ((ag:Int)<(af.length:Int)):=by have:=List.drop_eq_nil_iff.1 hl;omega
  have hkb:=decide_eq_false hk;rw [Zdu.eq_1] at hm;refine go ?_;refine X4 (congrArg Value.bool hkb)<|go ?_;cases hm;exact ⟨rfl,rfl,ab.below⟩
 | cons bg a7=>
  obtain ⟨ax,a8,a9⟩:=Yg hl;have hk:(ag:Int)<(af.length:Int):=by omega
  have hkb:=decide_eq_true hk;rw [Zdu.eq_2] at hm;refine go ?_;refine X9 (congrArg Value.bool hkb)<|go ?_;refine lI ax (ac.addr ax)<|lW (ac.atInt ax) ?_;refine go ?_;refine Xw ae<|Ya rfl ?_;obtain ⟨ay,az,hm⟩:=bZ hm;refine lI az ((ai.ks ab).addr az) ?_;obtain ⟨_,ba,bb⟩:=(ai.ks ab).atN az;obtain ⟨⟨bh,bi,rfl,bj⟩,_⟩:=ba;refine lW bb.one<|go ?_;refine lV (.int .i64 (if 1099511627776<(i64.wrap (ad * (ay.length:Int))) then 1099511627776 else (i64.wrap (ad * (ay.length:Int))))) (Zme (i64.wrap (ad * (ay.length:Int))) 1099511627776 rfl rfl)<|go ?_;exact ⟨a7.length,by simp,rfl,⟨_,_,_,_,rfl,a8,hm,ab,ac,ae,(Ym (congrArg (Value.int .i64) (Yk (Nat.lt_of_lt_of_le a9 ac.1.1))) rfl)⟩⟩
def Zcf (N:Nat) (ab:R1):List R7→Nat→Option Int
  | [],aa=>some 0
  | ac :: ad,aa=>(Zn ab.2.2.1 (aa:Int)).bind fun ae=>(Zf6 N ac).bind fun af=>(Zic N af (ae.length:Int)).bind fun ag=>if (!ag)=true then (some 46) else ((Zcf N ab ad) (aa+1))
termination_by structural x=>x
def Za6 (N:Nat) (aa:R1):List R7→Option Int
  | []=>Zcf N aa aa.2.2.2.2 0
  | ab :: ac=>(Zf6 N ab).bind fun ad=>(Zlr N ad).bind fun ae=>if ae=true then (some 45) else (Za6 N aa ac)
termination_by structural x=>x
def Za5 (N:Nat) (aa:R1):List R7→Nat→Option Int
  | [],ab=>Za6 N aa aa.2.2.2.2
  | ae :: af,ab=>(Zga (aa.1,aa.2.1,aa.2.2.1,aa.2.2.2.1,aa.2.2.2.2) (ab:Int)).bind fun ac=>(Zn aa.2.2.1 (ab:Int)).bind fun ad=>if (decide (65536<(i64.wrap (ac * (ad.length:Int)))))=true then (some 4) else (if (!decide ((i64.wrap (ac * (ad.length:Int)))=(ae.length:Int)))=true then (some 60) else ((Za5 N aa af) (ab+1)))
termination_by structural x=>x
def Zac (N:Nat) (aa:R1) (ad:Bool):Option Int:=
  if ad=true then (some 60) else (if (decide (1024<(aa.2.1.length:Int)))=true then (some 4) else ((Zds (aa.1,aa.2.1,aa.2.2.1,aa.2.2.2.1,aa.2.2.2.2)).bind fun ab=>if (!decide (ab=0))=true then (some ab) else ((Qd N aa.2.2.2.1).bind fun ac=>if (!decide (ac=0))=true then (some ac) else (Za5 N aa aa.2.2.2.2 0))))
def W5 (N:Nat) (aa:R1):Option Int:=
  if (!decide ((aa.2.2.1.length:Int)=(aa.2.1.length:Int)))=true then (Zac N aa true) else (if (!decide ((aa.2.2.2.1.length:Int)=(aa.2.1.length:Int)))=true then (Zac N aa true) else (Zac N aa (!decide ((aa.2.2.2.2.length:Int)=(aa.2.1.length:Int)))))
theorem Ze3 {N aj ak al am:Nat} {an ao ap aq:Option Addr} {col:Zd} {w0:World} {ab:R1} {r:Int} (hm:W5 N ab=some r) (a2:Sl Za.str col w0 an aj ab.2.1) (ag:Sl (Za.slice Za.str) col w0 ao ak ab.2.2.1) (aw:Sl (Za.slice (Za.int .i64)) col w0 ap al ab.2.2.2.1) (ad:Sl (Za.slice (Za.pair (Za.pair Za.bool (Za.slice (Za.int .u32))) (Za.slice (Za.int .u32)))) col w0 aq am ab.2.2.2.2):
    Calls Tryz.prog 34 #[(.agg #[.string ab.1,.slice an ab.2.1.length aj,.slice ao ab.2.2.1.length ak,.slice ap ab.2.2.2.1.length al,.slice aq ab.2.2.2.2.length am])] w0 (fun e w'=>e= .returned ((.int .i64 r))∧Below w0.heap.size w0 w'):=by
 refine Xl 2 (m:=103) func34 rfl rfl rfl rfl rfl ?_;rw [W5.eq_1] at hm;have aa:=St.start col w0;refine go ?_;refine Xp (col:=(Zk col)) 1 rfl ?_;intro a3 cp cq bo ac;refine go ?_;refine Xw ac<|lV _ (Qp underlying22 rfl)<|Yq rfl<|Zm<|Zw<|Zw ?_;replace a2:=a2.keep (Zl.start col w0);replace ag:=ag.keep (Zl.start col w0);replace aw:=aw.keep (Zl.start col w0);replace ad:=ad.keep (Zl.start col w0);replace aa:=aa.grow bo;refine Wp.cutK [1,3,1000000] (fun f a4=>∃ ah a9,Zac N ab a9=some r∧St w0 (Zk col) ah a4∧Zj 27 1 ah a4 a3 #[.string ab.1,.slice an ab.2.1.length aj,.slice ao ab.2.2.1.length ak,.slice ap ab.2.2.2.1.length al,.slice aq ab.2.2.2.2.length am]∧[34].map f=[.bool a9]) ?_ ?_
 ·intro f a4 hJ;obtain ⟨ah,a9,hm,aa,ac,hs⟩:=hJ;rw [Zac.eq_1] at hm;refine .lL [34] hs ?_;refine Zp hm (fun hb hm=>go ?_) fun hb hm=>go ?_
  ·cases hm;exact ⟨rfl,rfl,aa.below⟩
  refine Zp hm (fun hb hm=>go ?_) fun hb hm=>go ?_
  ·cases hm;exact ⟨rfl,rfl,aa.below⟩
  refine lV _ (Z3 isAgg27 sizeOf27 ac) ?_;obtain ⟨cr,bp,hm⟩:=bZ hm;refine Zi (Zyq bp (a2.ks aa) (ag.ks aa) (aw.ks aa) (ad.ks aa)) ?_;rintro _ bk ⟨rfl,a5⟩;refine ⟨_,rfl,?_⟩;replace a5:Zg ah a4 ah bk:=.of_below a5;refine go ?_;replace ac:=ac.gr a5;replace aa:=aa.grow a5;refine Zp hm (fun hb hm=>go ?_) fun hb hm=>go ?_
  ·cases hm;exact ⟨rfl,rfl,aa.below⟩
  refine Xw ac ?_;obtain ⟨cs,bq,hm⟩:=bZ hm;refine Zi (Zx7 bq (aw.ks aa)) ?_;rintro _ br ⟨rfl,a6⟩;refine ⟨_,rfl,?_⟩;replace a6:Zg ah bk ah br:=.of_below a6;refine go ?_;replace ac:=ac.gr a6;replace aa:=aa.grow a6;refine Zp hm (fun hb hm=>go ?_) fun hb hm=>go ?_
  ·cases hm;exact ⟨rfl,rfl,aa.below⟩
  refine Xw ac ?_;refine go ?_;refine Z5 [1,49,50,1000000] (fun n f ba=>∃ ae ar ax,n=ax.length∧ab.2.2.2.2.drop ar=ax∧Za5 N ab ax ar=some r∧St w0 (Zk col) ae ba∧Zj 27 1 ae ba a3 #[.string ab.1,.slice an ab.2.1.length aj,.slice ao ab.2.2.1.length ak,.slice ap ab.2.2.2.1.length al,.slice aq ab.2.2.2.2.length am]∧[51].map f=[.int .i64 ar]) ab.2.2.2.2.length ⟨_,0,_,rfl,rfl,hm,aa,ac,rfl⟩ ?_;clear hm;intro n f ba hI;obtain ⟨ae,ar,ax,hn,hl,hm,aa,ac,hs⟩:=hI;subst hn;refine .lL [51] hs ?_
  cases ax with
  | nil=>
   have hk:¬ ((ar:Int)<(ab.2.2.2.2.length:Int)):=by have:=List.drop_eq_nil_iff.1 hl;omega
   have hkb:=decide_eq_false hk;rw [Za5.eq_1] at hm;refine go ?_;refine X4 (congrArg Value.bool hkb)<|go ?_;refine Xw ac ?_;refine go ?_;refine Z5 [1,74,75,1000000] (fun n f bb=>∃ bc ay az,n=az.length∧ab.2.2.2.2.drop ay=az∧Za6 N ab az=some r∧St w0 (Zk col) bc bb∧Zj 27 1 bc bb a3 #[.string ab.1,.slice an ab.2.1.length aj,.slice ao ab.2.2.1.length ak,.slice ap ab.2.2.2.1.length al,.slice aq ab.2.2.2.2.length am]∧[76].map f=[.int .i64 ay]) ab.2.2.2.2.length ⟨_,0,_,rfl,rfl,hm,aa,ac,rfl⟩ ?_;clear hm;intro n f bb hI;obtain ⟨bc,ay,az,hn,hl,hm,aa,ac,hs⟩:=hI;subst hn;refine .lL [76] hs ?_
   cases az with
   | nil=>
    have hk:¬ ((ay:Int)<(ab.2.2.2.2.length:Int)):=by have:=List.drop_eq_nil_iff.1 hl;omega
    have hkb:=decide_eq_false hk;rw [Za6.eq_1] at hm;refine go ?_;refine X4 (congrArg Value.bool hkb)<|go ?_;refine Xw ac ?_;refine go ?_;refine Z5 [1,85,86,1000000] (fun n f bd=>∃ ai au a0,n=a0.length∧ab.2.2.2.2.drop au=a0∧Zcf N ab a0 au=some r∧St w0 (Zk col) ai bd∧Zj 27 1 ai bd a3 #[.string ab.1,.slice an ab.2.1.length aj,.slice ao ab.2.2.1.length ak,.slice ap ab.2.2.2.1.length al,.slice aq ab.2.2.2.2.length am]∧[87].map f=[.int .i64 au]) ab.2.2.2.2.length ⟨_,0,_,rfl,rfl,hm,aa,ac,rfl⟩ ?_;clear hm;intro n f bd hI;obtain ⟨ai,au,a0,hn,hl,hm,aa,ac,hs⟩:=hI;subst hn;refine .lL [87] hs ?_
    cases a0 with
    | nil=>
     have hk:¬ ((au:Int)<(ab.2.2.2.2.length:Int)):=by have:=List.drop_eq_nil_iff.1 hl;omega
     have hkb:=decide_eq_false hk;rw [Zcf.eq_1] at hm;refine go ?_;refine X4 (congrArg Value.bool hkb)<|go ?_;cases hm;exact ⟨rfl,rfl,aa.below⟩
    | cons ct bs=>
     obtain ⟨af,bt,bu⟩:=Yg hl;have hk:(au:Int)<(ab.2.2.2.2.length:Int):=by omega
     have hkb:=decide_eq_true hk;rw [Zcf.eq_2] at hm;refine go ?_;refine X9 (congrArg Value.bool hkb)<|go ?_;refine lI af ((ad.ks aa).addr af) ?_;obtain ⟨_,bv,bw⟩:=(ad.ks aa).atN af;obtain ⟨⟨cu,cv,rfl,be⟩,_⟩:=bv;refine lW bw.one<|go ?_;refine Wb (col:=ai) [(0,1),(2,1),(3,0),(4,1),(5,1),(6,0),(7,1),(1,3),(8,3),(9,1)] (by kernel_rfl) (by kernel_rfl)<|xu rfl rfl (fun _=>Ve rfl) ?_;refine xF ⟨_,_,rfl⟩ ?_;refine xW (fun _ hC=>((ac.atN).nth (q:=2) rfl).gr (hC.bl ai)) ?_;refine xu rfl rfl (fun _=>Wv rfl) ?_;obtain ⟨cw,a7,hm⟩:=bZ hm;refine xu rfl rfl (fun _=>Y4 underlying23 sizeOf22 rfl rfl (Xh a7).1 (Xh a7).2.1 ((ag.ks aa).addr a7)) ?_;obtain ⟨_,bx,bz⟩:=(ag.ks aa).atN a7;obtain ⟨⟨cx,cy,rfl,cz⟩,_⟩:=bx;refine xW (fun _ hC=>bz.one.gr (hC.bl ai)) ?_;refine xu rfl rfl (fun _=>Qp underlying22 rfl) ?_;refine xe rfl rfl ?_;intro c0 hC0;have hC:=hC0.bl ai;obtain ⟨c1,b0,hm⟩:=bZ hm;replace be:=be.gr hC;refine Zi (Zqy 2 b0 be) ?_;rintro _ c2 ⟨av,c3,c4,rfl,bf,bg⟩;refine ⟨_,rfl,?_⟩;refine Zm<|Xr av hC0 bf<|xe rfl rfl ?_;intro b1 hC0;replace ac:=(ac.gr hC).gr bf;replace aa:=(aa.grow hC).grow bf;have hC:=hC0.bl av;obtain ⟨c5,b2,hm⟩:=bZ hm;replace bg:=bg.gr hC;refine Zi (Zyu b2 (bg.toSlF (Ze.pair (Ze.pair Ze.bool Ze.slice) Ze.slice))) ?_;rintro _ b3 ⟨rfl,a1⟩;refine ⟨_,rfl,?_⟩;replace a1:Zg av b1 av b3:=.of_below a1;refine Zm<|Xr av hC0 a1<|xu rfl rfl (fun _=>Zg8 _ rfl) ?_;refine Yz ?_;replace ac:=(ac.gr hC).gr a1;replace aa:=(aa.grow hC).grow a1;intro c6 hC;replace hC:=hC.bl av;replace ac:=ac.gr hC;replace aa:=aa.grow hC;refine Zp hm (fun hb hm=>go ?_) fun hb hm=>go ?_
     ·cases hm;exact ⟨rfl,rfl,aa.below⟩
     exact ⟨bs.length,by simp,rfl,⟨_,_,_,rfl,bt,hm,aa,ac,(Ym (congrArg (Value.int .i64) (Yk (Nat.lt_of_lt_of_le bu (ad.ks aa).1.1))) rfl)⟩⟩
   | cons c7 b4=>
    obtain ⟨af,b5,b6⟩:=Yg hl;have hk:(ay:Int)<(ab.2.2.2.2.length:Int):=by omega
    have hkb:=decide_eq_true hk;rw [Za6.eq_2] at hm;refine go ?_;refine X9 (congrArg Value.bool hkb)<|go ?_;refine lI af ((ad.ks aa).addr af) ?_;obtain ⟨_,b7,b8⟩:=(ad.ks aa).atN af;obtain ⟨⟨c8,c9,rfl,b9⟩,_⟩:=b7;refine lW b8.one<|go ?_;obtain ⟨da,ca,hm⟩:=bZ hm;refine Zi (Zqy 3 ca b9) ?_;rintro _ cb ⟨bm,db,dc,rfl,bn,cc⟩;refine ⟨_,rfl,?_⟩;obtain ⟨dd,cd,hm⟩:=bZ hm;refine Zi (Zzh cd (cc.toSlF (Ze.pair (Ze.pair Ze.bool Ze.slice) Ze.slice))) ?_;rintro _ ce ⟨rfl,a8⟩;refine ⟨_,rfl,?_⟩;replace a8:Zg bm cb bm ce:=.of_below a8;refine Zm ?_;replace ac:=(ac.gr bn).gr a8;replace aa:=(aa.grow bn).grow a8;refine Zp hm (fun hb hm=>go ?_) fun hb hm=>go ?_
    ·cases hm;exact ⟨rfl,rfl,aa.below⟩
    exact ⟨b4.length,by simp,rfl,⟨_,_,_,rfl,b5,hm,aa,ac,(Ym (congrArg (Value.int .i64) (Yk (Nat.lt_of_lt_of_le b6 (ad.ks aa).1.1))) rfl)⟩⟩
  | cons de cf=>
   obtain ⟨af,cg,ch⟩:=Yg hl;have hk:(ar:Int)<(ab.2.2.2.2.length:Int):=by omega
   have hkb:=decide_eq_true hk;rw [Za5.eq_2] at hm;refine go ?_;refine X9 (congrArg Value.bool hkb)<|go ?_;refine lI af ((ad.ks aa).addr af) ?_;obtain ⟨_,ci,cj⟩:=(ad.ks aa).atN af;obtain ⟨⟨df,dg,rfl,dh⟩,_⟩:=ci;refine lW cj.one<|go ?_;refine Vy (col:=ae) (by kernel_rfl) (by kernel_rfl)<|qv rfl (fun _ hC=>Z3 isAgg27 sizeOf27 (ac.gr (hC.bl ae))) ?_;refine go ?_;obtain ⟨ck,cl,hm⟩:=bZ hm;refine qc (v:=(.int .i64 ck)) rfl (fun _ hC=>⟨_,_,Zl9 call90 rfl rfl,(Zys cl ((a2.ks aa).gr (hC.bl ae)) ((ag.ks aa).gr (hC.bl ae)) ((aw.ks aa).gr (hC.bl ae)) ((ad.ks aa).gr (hC.bl ae)):).mono fun _ _ h=>⟨h.1,hC.trans (.of_below h.2)⟩⟩) ?_;refine qF ⟨_,_,rfl⟩ ?_;refine qW (fun _ hC=>((ac.atN).nth (q:=2) rfl).gr (hC.bl ae)) ?_;refine go ?_;obtain ⟨di,bh,hm⟩:=bZ hm;refine qI bh ((ag.ks aa).addr bh) ?_;obtain ⟨_,cn,co⟩:=(ag.ks aa).atN bh;obtain ⟨⟨dj,dl,rfl,dm⟩,_⟩:=cn;refine qW (fun _ hC=>co.one.gr (hC.bl ae)) ?_;refine go ?_;refine Wn ?_;intro dn hC;replace hC:=hC.bl ae;refine go ?_;replace ac:=ac.gr hC;replace aa:=aa.grow hC;refine Zp hm (fun hb hm=>go ?_) fun hb hm=>go ?_
   ·cases hm;exact ⟨rfl,rfl,aa.below⟩
   refine Zp hm (fun hb hm=>go ?_) fun hb hm=>go ?_
   ·cases hm;exact ⟨rfl,rfl,aa.below⟩
   exact ⟨cf.length,by simp,rfl,⟨_,_,_,rfl,cg,hm,aa,ac,(Ym (congrArg (Value.int .i64) (Yk (Nat.lt_of_lt_of_le ch (ad.ks aa).1.1))) rfl)⟩⟩
 refine Ww<|Xw ac ?_;refine go ?_;refine Xz hm (fun bi hm=>go ?_) fun bi hm=>go ?_
 ·refine lV (.bool true) (Xm (congrArg Value.bool bi) rfl)<|Yh rfl<|lP 28 rfl rfl<|lP 28 rfl rfl<|lP 28 rfl rfl<|lP 28 rfl rfl<|lP 28 rfl rfl<|lV (.bool true) (Xm rfl rfl)<|Zm ?_;exact ⟨rfl,_,_,hm,aa,ac,rfl⟩
 refine Xo ⟨_,_,rfl⟩ ?_;refine go ?_;refine lW ((ac.atN).nth (q:=3) rfl)<|go ?_;refine lV (.bool (!decide ((ab.2.2.2.1.length:Int)=(ab.2.1.length:Int)))) (Xd (congrArg Value.bool bi) rfl)<|Yh rfl ?_;refine Xz hm (fun bj hm=>go ?_) fun bj hm=>go ?_
 ·refine lV (.bool true) (Xm (congrArg Value.bool bj) rfl)<|Zm ?_;exact ⟨rfl,_,_,hm,aa,ac,rfl⟩
 refine Xo ⟨_,_,rfl⟩ ?_;refine go ?_;refine lW ((ac.atN).nth (q:=4) rfl)<|go ?_;refine lV (.bool (!decide ((ab.2.2.2.2.length:Int)=(ab.2.1.length:Int)))) (Xd (congrArg Value.bool bj) rfl)<|Zm ?_;exact ⟨rfl,_,_,hm,aa,ac,rfl⟩
abbrev Zz:=ByteArray×List ByteArray×List R4×List R2×List (List QV)
instance decMemB:∀ (s:ByteArray) (l:List ByteArray),Decidable (s ∈ l)
 | _,[]=>isFalse (by simp)
 | s,x :: l=>if h:s=x then isTrue (by rw [h];exact List.mem_cons_self) else match decMemB s l with
  | isTrue h2=>isTrue (List.mem_cons_of_mem _ h2)
  | isFalse h2=>isFalse (by rw [List.mem_cons];rintro (h3 | h3) <;> contradiction)
theorem Zs0 (s:ByteArray):∀ (l:List ByteArray) (k:Nat),∃ j:Int,Zeh s l k=some j∧(0≤j↔s ∈ l)
 | [],k=>⟨-1,rfl,by simp⟩
 | x :: l,k=>by
  rw [Zeh.eq_2]
  by_cases h:s=x
  ·rw [if_pos (decide_eq_true h)];exact ⟨_,rfl,by simp [h]⟩
  ·rw [if_neg (by rw [decide_eq_false h];decide)]
   obtain ⟨j,h1,h2⟩:=Zs0 s l (k+1)
   exact ⟨j,h1,by rw [h2,List.mem_cons];simp [h]⟩
theorem Zz1 (s:ByteArray) (l:List ByteArray):Zi3 l s=some (decide (s ∈ l)):=by
 obtain ⟨j,h1,h2⟩:=Zs0 s l 0
 rw [Zi3,Zlt,h1,Option.bind_some]
 congr 1
 exact decide_eq_decide.2 h2
theorem Zua:∀ (l:List ByteArray) (seen:List Rh) (S:List ByteArray),S.Nodup→(∀ k,Wl seen k=if k ∈ S then some 1 else none)→Zcj l seen=some (!decide (S++l).Nodup)
 | [],seen,S,h1,h2=>by rw [Zcj.eq_1,List.append_nil,decide_eq_true h1];rfl
 | x :: l,seen,S,h1,h2=>by
  rw [Zcj.eq_2,h2 x]
  by_cases hx:x ∈ S
  ·rw [if_pos hx,if_pos (by decide),decide_eq_false]
   ·rfl
   intro h
   exact (List.nodup_append.1 h).2.2 x hx x List.mem_cons_self rfl
  ·rw [if_neg hx,if_neg (by decide),Option.bind_some,Zua l _ (S++[x]) (by
    rw [List.nodup_append]
    refine ⟨h1,by simp,fun a ha b hb e=>?_⟩
    rw [List.mem_singleton] at hb;subst hb;subst e;exact hx ha) (fun k=>by
    rw [Zt2,h2 k]
    by_cases hk:k=x
    ·subst hk;rw [if_pos rfl,if_pos (by simp)]
    ·rw [if_neg hk]
     by_cases hs:k ∈ S
     ·rw [if_pos hs,if_pos (by simp [hs])]
     ·rw [if_neg hs,if_neg (by simp [hs,hk])])]
   rw [List.append_assoc];rfl
theorem Z16 (l:List ByteArray):Zib l=some (!decide l.Nodup):=by
 rw [Zib,Zua l [] [] .nil (fun k=>by simp [Wl]),List.nil_append]
def Zaj (names:List ByteArray) (vals:List R4):Nat→Nat→Int
 | 0,_=>0
 | m+1,v=>if names.getD v ⟨#[]⟩ ∈ names.take v∨¬ (vals.getD v []).Nodup then 40 else if vals.getD v []=[] then 43 else Zaj names vals m (v+1)
theorem Zuf (n:Zz) (hl:n.2.2.1.length=n.2.1.length):∀ (l:List ByteArray) (k:Nat),n.2.1.drop k=l→k≤n.2.1.length→Za7 n l k=some (Zaj n.2.1 n.2.2.1 l.length k)
 | [],k,_,_=>rfl
 | x :: l,k,hd,hk=>by
  have hk1:k<n.2.1.length:=by
   rcases Nat.lt_or_ge k n.2.1.length with h | h
   ·exact h
   ·rw [List.drop_eq_nil_of_le h] at hd;cases hd
  have hd2:=List.drop_eq_getElem_cons hk1
  rw [hd] at hd2
  obtain ⟨hx,hl2⟩:=List.cons.inj hd2
  rw [Za7.eq_2,Xi (by omega),Int.toNat_natCast,Zz1,Option.bind_some,List.length_cons,Zaj,Y1 hk1,← hx,Y1 (by omega)]
  by_cases h1:x ∈ n.2.1.take k
  ·rw [if_pos (decide_eq_true h1),Zf7,if_pos rfl,if_pos (.inl h1)]
  ·rw [if_neg (by rw [decide_eq_false h1];decide),Xk (by omega),Option.bind_some,Z16,Option.bind_some,Zf7]
   by_cases h2:(n.2.2.1[k]'(by omega)).Nodup
   ·rw [decide_eq_true h2,if_neg (by decide),if_neg (by simp [h1,h2]),Xk (by omega),Option.bind_some]
    by_cases h3:n.2.2.1[k]'(by omega)=[]
    ·rw [if_pos (by rw [h3];decide),if_pos h3]
    ·rw [if_neg (by simpa using h3),if_neg h3]
     exact Zuf n hl l (k+1) hl2.symm (by omega)
   ·rw [decide_eq_false h2,if_pos (by decide),if_pos (.inr h2)]
theorem Zug (n:Zz) (hl:n.2.2.1.length=n.2.1.length):Zds n=some (Zaj n.2.1 n.2.2.1 n.2.1.length 0):=by
 rw [Zds];exact Zuf n hl n.2.1 0 (by simp) (by omega)
theorem Zuh {names:List ByteArray} {vals:List R4}:∀ (m v:Nat),Zaj names vals m v=0→∀ i,v≤i→i<v+m→vals.getD i []≠[]∧(vals.getD i []).Nodup∧names.getD i ⟨#[]⟩ ∉ names.take i
 | 0,v,_,i,h1,h2=>by omega
 | m+1,v,h,i,h1,h2=>by
  rw [Zaj] at h
  by_cases h3:names.getD v ⟨#[]⟩ ∈ names.take v∨¬ (vals.getD v []).Nodup
  ·rw [if_pos h3] at h;cases h
  ·rw [if_neg h3] at h
   by_cases h4:vals.getD v []=[]
   ·rw [if_pos h4] at h;cases h
   ·rw [if_neg h4] at h
    rcases Nat.lt_or_ge v i with h5 | h5
    ·exact Zuh m (v+1) h i (by omega) (by omega)
    ·have:i=v:=by omega
     subst this
     exact ⟨h4,by simpa using (not_or.1 h3).2,(not_or.1 h3).1⟩
def Y6 (vals:List R4):List Int→Nat→Nat
 | [],k=>k
 | p :: ps,k=>Y6 vals ps (min (k * (vals.getD p.toNat []).length) 1099511627776)
theorem Zwa (vals:List R4):∀ (ps:List Int) (k:Nat),k≤1099511627776→Y6 vals ps k≤1099511627776
 | [],k,h=>h
 | p :: ps,k,h=>Zwa vals ps _ (by omega)
theorem Zud {a b:Nat} (h:a≤1099511627776) (g:b≤1048576):a * b≤1152921504606846976:=by
 have:=Nat.mul_le_mul h g
 simpa using this
theorem Zt9 (n:Zz) (hb:∀ l ∈ n.2.2.1,l.length≤1048576):∀ (ps:List Int) (k:Nat),k≤1099511627776→(∀ p ∈ ps,0≤p∧p<(n.2.2.1.length:Int))→Zdu n ps (k:Int)=some (Y6 n.2.2.1 ps k:Int)
 | [],k,_,_=>rfl
 | p :: ps,k,hk,hp=>by
  have h1:=hp p List.mem_cons_self
  have h2:p.toNat<n.2.2.1.length:=by omega
  have h3:=hb _ (List.getElem_mem h2)
  have h4:=Zud hk h3
  rw [Zdu.eq_2,show p=((p.toNat:Nat):Int) by omega,Xk h2,Option.bind_some,Y6,Int.toNat_natCast,Y1 h2,← Int.natCast_mul,Z4 (by omega)]
  have ih:=Zt9 n hb ps (min (k * n.2.2.1[p.toNat].length) 1099511627776) (by omega) (fun q hq=>hp q (List.mem_cons_of_mem _ hq))
  rw [← ih]
  congr 1
  by_cases h5:1099511627776<k * n.2.2.1[p.toNat].length
  ·rw [if_pos (by omega),Nat.min_eq_right (by omega)];rfl
  ·rw [if_neg (by omega),Nat.min_eq_left (by omega)]
def Sf (vals:List R4) (P:List R2) (T:List (List QV)):Nat→Nat→Int
 | 0,_=>0
 | m+1,v=>if 65536<Y6 vals (P.getD v []) 1 * (vals.getD v []).length then 4 else if Y6 vals (P.getD v []) 1 * (vals.getD v []).length≠(T.getD v []).length then 60 else Sf vals P T m (v+1)
structure Wh (n:Zz) (W:Nat):Prop where
 nm:n.2.1.length≤1048575
 vl:∀ l ∈ n.2.2.1,l.length≤1048576
 pn:Zjz n.2.2.2.1
 tl:∀ t ∈ n.2.2.2.2,t.length≤1048576
 tq:∀ t ∈ n.2.2.2.2,Yb t≤W
 lim:∀ t ∈ n.2.2.2.2,∀ x ∈ t,Vg x
structure Tj (n:Zz):Prop where
 v:n.2.2.1.length=n.2.1.length
 p:n.2.2.2.1.length=n.2.1.length
 t:n.2.2.2.2.length=n.2.1.length
 i:Uj n.2.2.2.1.length n.2.2.2.1=true
 ne:∀ l ∈ n.2.2.1,l≠[]
theorem Tj.par {n:Zz} (h:Tj n) {ps:List Int} (hp:ps ∈ n.2.2.2.1):∀ p ∈ ps,0≤p∧p<(n.2.2.1.length:Int):=by
 have:=Zs4 h.i ps hp
 rw [h.p] at this
 rw [h.v];exact this
theorem Zo1 {N W:Nat} {n:Zz} (hs:Wh n W) (he:Tj n):∀ (l:List (List QV)) (k:Nat),n.2.2.2.2.drop k=l→k≤n.2.1.length→Za5 N n l k=if Sf n.2.2.1 n.2.2.2.1 n.2.2.2.2 l.length k=0 then Za6 N n n.2.2.2.2 else some (Sf n.2.2.1 n.2.2.2.1 n.2.2.2.2 l.length k)
 | [],k,_,_=>by rw [Za5.eq_1];rfl
 | t :: l,k,hd,hk=>by
  have ht:=he.t;have hv:=he.v;have hp:=he.p
  have hk1:k<n.2.2.2.2.length:=by
   rcases Nat.lt_or_ge k n.2.2.2.2.length with h | h
   ·exact h
   ·rw [List.drop_eq_nil_of_le h] at hd;cases hd
  have hd2:=List.drop_eq_getElem_cons hk1
  rw [hd] at hd2
  obtain ⟨hx,hl2⟩:=List.cons.inj hd2
  have kv:k<n.2.2.1.length:=by omega
  have kp:k<n.2.2.2.1.length:=by omega
  have r1:=Zwa n.2.2.1 (n.2.2.2.1[k]) 1 (by omega)
  have c1:=hs.vl _ (List.getElem_mem kv)
  have r2:=Zud r1 c1
  have hrow:Zga n (k:Int)=some (Y6 n.2.2.1 n.2.2.2.1[k] 1:Int):=by
   rw [Zga,Xk kp,Option.bind_some]
   exact Zt9 n hs.vl _ 1 (by omega) (he.par (List.getElem_mem kp))
  rw [Za5.eq_2]
  have hrow':Zga (n.1,n.2.1,n.2.2.1,n.2.2.2.1,n.2.2.2.2) (k:Int)=some (Y6 n.2.2.1 n.2.2.2.1[k] 1:Int):=hrow
  rw [hrow',Option.bind_some,Xk kv,Option.bind_some,← Int.natCast_mul,Z4 (by omega),List.length_cons,Sf,Y1 kp,Y1 kv,Y1 hk1,← hx]
  generalize Y6 n.2.2.1 n.2.2.2.1[k] 1 * n.2.2.1[k].length=rc at *
  by_cases h1:65536<rc
  ·rw [if_pos (decide_eq_true (by omega)),if_pos h1,if_neg (by decide)]
  ·rw [if_neg (by rw [decide_eq_false (by omega)];decide),if_neg h1]
   by_cases h2:rc=t.length
   ·rw [if_neg (by rw [decide_eq_true (by omega)];decide),if_neg (show ¬ rc≠t.length from fun h=>h h2)]
    exact Zo1 hs he l (k+1) hl2.symm (by omega)
   ·rw [if_pos (by rw [decide_eq_false (by omega)];decide),if_pos h2,if_neg (by decide)]
def Vw (x:QV):Bool:=decide (Zv x<0)||decide (1<Zv x)
theorem Z2t {a b:Rat}:0<Vj a b↔b<a:=by
 rw [Vj]
 by_cases h:a<b
 ·rw [if_pos h]
  constructor
  ·intro h2;omega
  ·intro h2;exact absurd (Rat.le_of_lt h2) (Rat.not_le.2 h)
 ·rw [if_neg h]
  by_cases h2:b<a
  ·simp [h2]
  ·simp [h2]
theorem Zvc {a b:Rat}:Vj a b=0↔a=b:=by
 rw [Vj]
 constructor
 ·intro h
  split at h
  ·cases h
  ·split at h
   ·cases h
   ·rename_i h1 h2
    exact Rat.le_antisymm (Rat.not_lt.1 h2) (Rat.not_lt.1 h1)
 ·rintro rfl
  rw [if_neg Rat.lt_irrefl,if_neg Rat.lt_irrefl]
theorem Zo0 {N:Nat} (hr:Xj N 8):Zdt N=some (Zq 1):=by
 rw [Zdt,Znv (by omega) (by omega) (hr.mono (by omega)),Option.bind_some,if_neg (by decide)]
 have:((1:Int):Rat) / ((1:Int):Rat)=1:=div_one _
 rw [this]
theorem Zwg:RV 1 (Zq 1):=Wa (by rw [Zpj];omega)
theorem Z15 {N k:Nat} {x:QV} (hx:RV k x) (hr:Xj N (2 * k+16)):Zf8 N x=some (Vw x):=by
 have h2:Qe N ((x.1.1,x.1.2),x.2)=some (Qo (Zv x)):=Zny hx (hr.mono (by omega))
 rw [Zf8,h2,Option.bind_some,Vw]
 by_cases h:Zv x<0
 ·rw [if_pos (decide_eq_true (Zvi.2 h)),Zf9,decide_eq_true h,Bool.true_or]
 ·rw [if_neg (by rw [decide_eq_false (fun h3=>h (Zvi.1 h3))];decide),decide_eq_false h,Bool.false_or,Zo0 (hr.mono (by omega)),Option.bind_some,Zbz (a:=((x.1.1,x.1.2),x.2)) (b:=Zq 1) hx Zwg (hr.mono (by omega)),Option.bind_some,Zf9,Yx]
  congr 1
  exact decide_eq_decide.2 Z2t
def W2 (x:QV):QV:=if Zc x.2=0 then (x.1,[1]) else x
theorem Zsg {x:QV} (h:Vg x):Vg (W2 x):=by
 rw [W2];split
 ·exact ⟨h.1,.cons (by decide) .nil⟩
 ·exact h
theorem Znu (x:QV):Zv (W2 x)=Zv x:=by
 rw [W2];split
 ·rename_i h
  rw [Zv,Zv]
  show mkRat (Zx x.1) (Yr [1])=mkRat (Zx x.1) (Yr x.2)
  rw [Yr,Yr,if_pos h]
  congr 1
 ·rfl
theorem Z0z (x:QV):Vw (W2 x)=Vw x:=by rw [Vw,Vw,Znu]
theorem Z0y (x:QV):max (W2 x).1.2.length (W2 x).2.length≤max x.1.2.length x.2.length+1:=by
 rw [W2];split
 ·show max x.1.2.length [(1:Int)].length≤_
  simp only [List.length_singleton];omega
 ·omega
theorem Zph:∀ l:List QV,2 * l.length≤Yb l
 | []=>by simp [Yb]
 | a :: l=>by rw [Yb,List.length_cons];have:=Zph l;omega
theorem Zpg:∀ l:List QV,Yb (l.map W2)≤Yb l+l.length
 | []=>by simp [Yb]
 | a :: l=>by
  rw [List.map_cons,Yb,Yb,List.length_cons]
  have:=Zpg l;have:=Z0y a;omega
theorem Zvd (a b:List QV):Yb (a++b)=Yb a+Yb b:=by
 induction a with
 | nil=>simp [Yb]
 | cons x a ih=>rw [List.cons_append,Yb,Yb,ih];omega
theorem Zvg (l:List QV) (k:Nat):Yb (l.take k)≤Yb l:=by
 have:=Zvd (l.take k) (l.drop k)
 rw [List.take_append_drop] at this;omega
theorem Zve (l:List QV) (k:Nat):Yb (l.drop k)≤Yb l:=by
 have:=Zvd (l.take k) (l.drop k)
 rw [List.take_append_drop] at this;omega
theorem Z2u {l:List QV} {x:QV} (h:x ∈ l):max x.1.2.length x.2.length≤Yb l:=by
 induction l with
 | nil=>simp at h
 | cons y l ih=>
  rw [Yb]
  rcases List.mem_cons.1 h with rfl | h
  ·omega
  ·have:=ih h;omega
theorem Zsl {N k:Nat} {x:QV} (h:Vg x) (hk:max x.1.2.length x.2.length≤k) (hr:Xj N k):Zch N x=some (W2 x):=by
 obtain ⟨r1,r2⟩:=hr
 rw [Zch,Zo7 h.2 (by omega) (by omega),Option.bind_some,W2]
 by_cases h0:Zc x.2=0
 ·rw [h0,W8,if_pos (by decide),if_pos rfl,Zja (by decide) (by omega),Option.bind_some,Zf5,show (1:Int).toNat=1 from rfl,T5]
 ·have:=Sq h0
  rw [if_neg (by rw [decide_eq_false (by omega)];decide),if_neg h0,Zf5]
theorem Zsm {N W:Nat} (hr:Xj N W):∀ (l out:List QV),(∀ x ∈ l,Vg x)→Yb l≤W→out.length+l.length≤1048576→Zci N l out=some (out++l.map W2)
 | [],out,_,_,_=>by rw [Zci.eq_1];simp
 | x :: l,out,hl,hq,hlen=>by
  rw [Yb] at hq
  rw [List.length_cons] at hlen
  have h1:Zch N ((x.1.1,x.1.2),x.2)=some (W2 x):=Zsl (x:=x) (hl x List.mem_cons_self) (k:=W) (by omega) hr
  rw [Zci.eq_2,h1,Option.bind_some,Xi (by simp only [List.length_singleton,maxLen];omega),Zsm hr l _ (fun y hy=>hl y (List.mem_cons_of_mem _ hy)) (by omega) (by simp only [List.length_append,List.length_singleton];omega)]
  simp
theorem Zsn {N W:Nat} {l:List QV} (hr:Xj N W) (hl:∀ x ∈ l,Vg x) (hq:Yb l≤W) (hlen:l.length≤1048576):Zf6 N l=some (l.map W2):=by
 rw [Zf6,Xi (by simp only [maxLen];omega),Zsm hr l [] hl hq (by simpa using hlen),List.nil_append]
theorem Zsy {N W:Nat} (hr:Xj N (2 * W+16)):∀ (l:List QV) (k:Nat),(∀ x ∈ l,Vg x)→Yb l≤W→∃ j:Int,Zeg N l k=some j∧(0≤j↔l.any Vw=true)
 | [],k,_,_=>⟨-1,rfl,by simp⟩
 | x :: l,k,hl,hq=>by
  rw [Yb] at hq
  have hx:=hl x List.mem_cons_self
  have h1:Zf8 N ((x.1.1,x.1.2),x.2)=some (Vw x):=Z15 (x:=x) (Zc4 hx.1 hx.2) (hr.mono (by omega))
  rw [Zeg.eq_2,h1,Option.bind_some,List.any_cons]
  cases Vw x with
  | true=>rw [if_pos rfl];exact ⟨_,rfl,by simp⟩
  | false=>
   rw [if_neg (by decide)]
   obtain ⟨j,h1,h2⟩:=Zsy hr l (k+1) (fun y hy=>hl y (List.mem_cons_of_mem _ hy)) (by omega)
   exact ⟨j,h1,by rw [h2];simp⟩
def Zaq (T:List (List QV)):Bool:=T.any fun t=>t.any Vw
theorem Zxp (l:List QV):(l.map W2).any Vw=l.any Vw:=by
 induction l with
 | nil=>rfl
 | cons x l ih=>rw [List.map_cons,List.any_cons,List.any_cons,ih,Z0z]
theorem Zoy {N W:Nat} {n:Zz} (hr:Xj N (4 * W+16)):∀ l:List (List QV),(∀ t ∈ l,t.length≤1048576∧Yb t≤W∧∀ x ∈ t,Vg x)→Za6 N n l=if Zaq l=true then some 45 else Zcf N n n.2.2.2.2 0
 | [],_=>by rw [Za6.eq_1];rfl
 | t :: l,h=>by
  obtain ⟨h1,h2,h3⟩:=h t List.mem_cons_self
  have hp:=Zph t
  have hf:=Zpg t
  obtain ⟨j,j1,j2⟩:=Zsy (N:=N) (W:=2 * W) (hr.mono (by omega)) (t.map W2) 0 (fun x hx=>by
   obtain ⟨y,hy,rfl⟩:=List.mem_map.1 hx
   exact Zsg (h3 y hy)) (by omega)
  rw [Za6.eq_2,Zsn (W:=W) (hr.mono (by omega)) h3 h2 h1,Option.bind_some,Zlr,Zls,j1,Option.bind_some,Option.bind_some,Zaq,List.any_cons]
  rw [Zxp] at j2
  by_cases ho:t.any Vw=true
  ·rw [if_pos (decide_eq_true (j2.2 ho)),ho,Bool.true_or,if_pos rfl]
  ·rw [if_neg (by rw [decide_eq_false (fun h=>ho (j2.1 h))];decide),Bool.eq_false_iff.2 ho,Bool.false_or]
   exact Zoy hr l fun x hx=>h x (List.mem_cons_of_mem _ hx)
def Uo (c:Nat):Nat→List QV→Bool
 | 0,_=>true
 | m+1,l=>decide (Yy (l.take c)=1)&&Uo c m (l.drop c)
def Zhr (c:Nat):Nat→List QV→List (List QV)
 | 0,_=>[]
 | m+1,l=>l.take c :: Zhr c m (l.drop c)
theorem Zri (N:Nat) (l:List QV) (c:Nat) (hc:0<c) (hl:l.length≤1048576) (hcs:c≤1048576):∀ (m fuel i:Nat),i+m * c=l.length→m<fuel→Zcy N l (c:Int) fuel (i:Int)=some (Zhr c m (l.drop i))
 | 0,0,i,_,h=>by omega
 | 0,fuel+1,i,h1,_=>by
  rw [Zcy.eq_2,if_neg (by rw [decide_eq_false (by omega)];decide)];rfl
 | m+1,0,i,_,h=>by omega
 | m+1,fuel+1,i,h1,h2=>by
  have h3:i+c+m * c=l.length:=by rw [Nat.add_mul,Nat.one_mul] at h1;omega
  have e:(if ((l.drop i).length:Int)<(c:Int) then ((l.drop i).length:Int) else (c:Int))=(c:Int):=by
   rw [List.length_drop]
   by_cases h:((l.length - i:Nat):Int)<(c:Int)
   ·omega
   ·rw [if_neg h]
  rw [Zcy.eq_2,if_pos (decide_eq_true (by omega)),Int.toNat_natCast,e,Z4 (by omega),Xi (by omega),Xi (by omega),show (i:Int)+(c:Int)=((i+c:Nat):Int) by omega,Zri N l c hc hl hcs m fuel (i+c) (by omega) (by omega),Option.bind_some,Int.toNat_natCast,Zhr,List.drop_take,show i+c - i=c by omega,List.drop_drop]
theorem Z2z (l:List QV):Yy (l.map W2)=Yy l:=by
 rw [Yy,Yy,List.map_map]
 congr 1
 exact List.map_congr_left fun x _=>Znu x
theorem Zuq (c:Nat):∀ (m:Nat) (l:List QV),Uo c m (l.map W2)=Uo c m l
 | 0,l=>rfl
 | m+1,l=>by rw [Uo,Uo,← List.map_take,← List.map_drop,Z2z,Zuq c m]
theorem Zue {N W:Nat} (hr:Xj N (4 * W+40)) (c:Nat) (b:Bool):∀ (m:Nat) (l:List QV),(∀ x ∈ l,Vg x)→Yb l≤W→Zdv N (Zhr c m l) b=some (Uo c m l)
 | 0,l,_,_=>rfl
 | m+1,l,hl,hq=>by
  have ht:=Zvg l c
  have hd:=Zve l c
  obtain ⟨s1,s2⟩:=Zss (N:=N) (l:=l.take c) (fun x hx=>hl x (List.mem_of_mem_take hx)) (hr.mono (by omega))
  rw [Zhr,Zdv.eq_2,s1,Option.bind_some,Zo0 (hr.mono (by omega)),Option.bind_some,Zbz (a:=Zq _) (b:=Zq 1) (Wa s2) Zwg (hr.mono (by omega)),Option.bind_some,Yx,Yx,Uo]
  by_cases h:Yy (l.take c)=1
  ·rw [if_neg (by rw [Zvc.2 h];decide),decide_eq_true h,Bool.true_and]
   exact Zue hr c b m _ (fun x hx=>hl x (List.mem_of_mem_drop hx)) (by omega)
  ·rw [if_pos (by rw [decide_eq_false (fun h2=>h (Zvc.1 h2))];decide),decide_eq_false h,Bool.false_and];rfl
theorem Z18 {N W c m:Nat} {l:List QV} (hr:Xj N (4 * W+40)) (hl:∀ x ∈ l,Vg x) (hq:Yb l≤W) (hc:0<c) (hcs:c≤1048576) (hll:l.length≤1048576) (hm:m * c=l.length) (hN:1048577<N):Zic N l (c:Int)=some (Uo c m l):=by
 have hmc:m≤l.length:=by rw [← hm];exact Nat.le_mul_of_pos_right m hc
 rw [Zic,Zlo,if_neg (by rw [decide_eq_false (by omega)];decide),Zlq,Zlp,show (0:Int)=((0:Nat):Int) from rfl,Zri N l c hc hll hcs m N 0 (by omega) (by omega),Option.bind_some,List.drop_zero]
 exact Zue hr c false m l hl hq
def Zal (vals:List R4) (P:List R2) (T:List (List QV)):Nat→Nat→Int
 | 0,_=>0
 | m+1,v=>if Uo (vals.getD v []).length (Y6 vals (P.getD v []) 1) (T.getD v [])=true then Zal vals P T m (v+1) else 46
theorem Zp3 {vals:List R4} {P:List R2} {T:List (List QV)}:∀ (m v:Nat),Sf vals P T m v=0→∀ i,v≤i→i<v+m→Y6 vals (P.getD i []) 1 * (vals.getD i []).length=(T.getD i []).length∧(T.getD i []).length≤65536
 | 0,v,_,i,h1,h2=>by omega
 | m+1,v,h,i,h1,h2=>by
  rw [Sf] at h
  by_cases h3:65536<Y6 vals (P.getD v []) 1 * (vals.getD v []).length
  ·rw [if_pos h3] at h;cases h
  ·rw [if_neg h3] at h
   by_cases h4:Y6 vals (P.getD v []) 1 * (vals.getD v []).length=(T.getD v []).length
   ·rw [if_neg (show ¬ Y6 vals (P.getD v []) 1 * (vals.getD v []).length≠(T.getD v []).length from fun h=>h h4)] at h
    rcases Nat.lt_or_ge v i with h5 | h5
    ·exact Zp3 m (v+1) h i (by omega) (by omega)
    ·have:i=v:=by omega
     subst this
     exact ⟨h4,by omega⟩
   ·rw [if_pos h4] at h;cases h
theorem Zo2 {N W:Nat} {n:Zz} (hs:Wh n W) (he:Tj n) (hsh:Sf n.2.2.1 n.2.2.2.1 n.2.2.2.2 n.2.1.length 0=0) (hr:Xj N (8 * W+40)) (hN:1048577<N):∀ (l:List (List QV)) (k:Nat),n.2.2.2.2.drop k=l→k≤n.2.1.length→Zcf N n l k=some (Zal n.2.2.1 n.2.2.2.1 n.2.2.2.2 l.length k)
 | [],k,_,_=>rfl
 | t :: l,k,hd,hk=>by
  have ht:=he.t;have hv:=he.v;have hp:=he.p
  have hk1:k<n.2.2.2.2.length:=by
   rcases Nat.lt_or_ge k n.2.2.2.2.length with h | h
   ·exact h
   ·rw [List.drop_eq_nil_of_le h] at hd;cases hd
  have hd2:=List.drop_eq_getElem_cons hk1
  rw [hd] at hd2
  obtain ⟨hx,hl2⟩:=List.cons.inj hd2
  have kv:k<n.2.2.1.length:=by omega
  have kp:k<n.2.2.2.1.length:=by omega
  have hm:t ∈ n.2.2.2.2:=by rw [hx];exact List.getElem_mem hk1
  have c1:=hs.vl _ (List.getElem_mem kv)
  have c0:0<n.2.2.1[k].length:=List.length_pos_iff.2 (he.ne _ (List.getElem_mem kv))
  obtain ⟨s1,s2⟩:=Zp3 _ 0 hsh k (by omega) (by omega)
  rw [Y1 kv,Y1 hk1,← hx] at s1
  rw [Y1 hk1,← hx] at s2
  have hq:=hs.tq t hm
  have hp2:=Zph t
  have hf:=Zpg t
  rw [Zcf.eq_2,Xk kv,Option.bind_some,Zsn (W:=W) (hr.mono (by omega)) (hs.lim t hm) hq (hs.tl t hm),Option.bind_some,
   Z18 (W:=2 * W) (m:=Y6 n.2.2.1 (n.2.2.2.1.getD k []) 1) (hr.mono (by omega)) (fun x hx=>by
    obtain ⟨y,hy,rfl⟩:=List.mem_map.1 hx
    exact Zsg (hs.lim t hm y hy)) (by omega) c0 c1 (by rw [List.length_map];omega) (by rw [List.length_map];exact s1) hN,Option.bind_some,Zuq,List.length_cons,Zal,Y1 kv,Y1 hk1,← hx]
  cases Uo n.2.2.1[k].length (Y6 n.2.2.1 (n.2.2.2.1.getD k []) 1) t with
  | true=>
   rw [if_neg (by decide),if_pos rfl]
   exact Zo2 hs he hsh hr hN l (k+1) hl2.symm (by omega)
  | false=>rw [if_pos (by decide),if_neg (by decide)]
structure Yt (N:Nat) (n:Zz):Prop where
 ev:Tj n
 le:n.2.1.length≤1024
 nm:Zaj n.2.1 n.2.2.1 n.2.1.length 0=0
 sh:Sf n.2.2.1 n.2.2.2.1 n.2.2.2.2 n.2.1.length 0=0
 en:Zaq n.2.2.2.2=false
 su:Zal n.2.2.1 n.2.2.2.1 n.2.2.2.2 n.2.1.length 0=0
 tw:Ti n.2.2.2.1=false
 or:∃ l,Ua N n.2.2.2.1=some (l,0)∧Qk N n.2.2.2.1=some l∧Zgx N n.2.2.2.1=some 0∧Ut n.2.2.2.1 l∧l.length=n.2.2.2.1.length
def Xs (p:Rat×Rat):QV×QV:=(Zq p.1,Zq p.2)
def cnt (n:Zz) (v:Nat):Nat:=(n.2.2.1.getD v []).length
def Tg (n:Zz) (w:List Int):List Int→Nat→Nat
 | [],r=>r
 | p :: ps,r=>Tg n w ps (r * cnt n p.toNat+(w.getD p.toNat 0).toNat)
def Y5 (n:Zz) (w:List Int) (v:Nat):Nat:=Tg n w (n.2.2.2.1.getD v []) 0
def Z6 (n:Zz) (w:List Int) (v:Nat):List QV:=((n.2.2.2.2.getD v []).drop (Y5 n w v * cnt n v)).take (cnt n v)
structure X3 (n:Zz) (w:List Int):Prop where
 len:w.length=n.2.1.length
 ok:∀ i,i<w.length→0≤w.getD i 0∧w.getD i 0<(cnt n i:Int)
theorem Znm {n:Zz} (he:Tj n) {v:Nat} (hv:v<n.2.1.length):0<cnt n v:=by
 have h1:v<n.2.2.1.length:=by rw [he.v];exact hv
 rw [cnt,Y1 h1]
 exact List.length_pos_iff.2 (he.ne _ (List.getElem_mem h1))
theorem Zwc {n:Zz} (he:Tj n):∀ (ps:List Int) (k:Nat),(∀ p ∈ ps,0≤p∧p<(n.2.1.length:Int))→k≤1099511627776→k≤Y6 n.2.2.1 ps k
 | [],k,_,_=>Nat.le_refl _
 | p :: ps,k,hp,hk=>by
  have h1:=hp p List.mem_cons_self
  have h2:0<(n.2.2.1.getD p.toNat []).length:=Znm he (by omega)
  rw [Y6]
  have h3:k≤min (k * (n.2.2.1.getD p.toNat []).length) 1099511627776:=Nat.le_min.2 ⟨Nat.le_mul_of_pos_right k h2,hk⟩
  exact Nat.le_trans h3 (Zwc he ps _ (fun q hq=>hp q (List.mem_cons_of_mem _ hq)) (Nat.min_le_right _ _))
theorem Zml {n:Zz} (he:Tj n) {w:List Int} (hw:X3 n w) {p:Int} {ps:List Int} {r k:Nat} (hp:∀ q ∈ p :: ps,0≤q∧q<(n.2.1.length:Int)) (hr:r<k) (hk:k≤65536) (hb:Y6 n.2.2.1 (p :: ps) k≤65536):
  r * cnt n p.toNat+(w.getD p.toNat 0).toNat<k * cnt n p.toNat∧k * cnt n p.toNat≤65536∧Y6 n.2.2.1 ps (k * cnt n p.toNat)≤65536:=by
 have h1:=hp p List.mem_cons_self
 have h2:=hw.ok p.toNat (by rw [hw.len];omega)
 have h3:r * cnt n p.toNat+cnt n p.toNat≤k * cnt n p.toNat:=by
  have:=Nat.mul_le_mul_right (cnt n p.toNat) (show r+1≤k by omega)
  rwa [Nat.add_mul,Nat.one_mul] at this
 rw [Y6] at hb
 have h4:=Zwc he ps (min (k * (n.2.2.1.getD p.toNat []).length) 1099511627776) (fun q hq=>hp q (List.mem_cons_of_mem _ hq)) (Nat.min_le_right _ _)
 have h5:k * (n.2.2.1.getD p.toNat []).length≤1099511627776:=by
  rcases Nat.le_total (k * (n.2.2.1.getD p.toNat []).length) 1099511627776 with h | h
  ·exact h
  ·rw [Nat.min_eq_right h] at h4 hb;omega
 rw [Nat.min_eq_left h5] at h4 hb
 exact ⟨by omega,Nat.le_trans h4 hb,hb⟩
theorem Zp1 {n:Zz} (he:Tj n) {w:List Int} (hw:X3 n w):∀ (ps:List Int) (r k:Nat),(∀ q ∈ ps,0≤q∧q<(n.2.1.length:Int))→r<k→k≤65536→Y6 n.2.2.1 ps k≤65536→Tg n w ps r<Y6 n.2.2.1 ps k
 | [],r,k,_,hr,_,_=>hr
 | p :: ps,r,k,hp,hr,hk,hb=>by
  obtain ⟨h1,h2,h3⟩:=Zml he hw hp hr hk hb
  have:=Zp1 he hw ps _ _ (fun q hq=>hp q (List.mem_cons_of_mem _ hq)) h1 h2 h3
  rw [Tg,Y6,Nat.min_eq_left (by rw [cnt] at h2;omega)]
  exact this
theorem Zmk {n:Zz} {w u:List Int}:∀ (ps:List Int) (r:Nat),(∀ p ∈ ps,w.getD p.toNat 0=u.getD p.toNat 0)→Tg n w ps r=Tg n u ps r
 | [],_,_=>rfl
 | p :: ps,r,h=>by rw [Tg,Tg,h p List.mem_cons_self];exact Zmk ps _ fun q hq=>h q (List.mem_cons_of_mem _ hq)
section
variable {N:Nat} {n:Zz} (hf:Yt N n)
include hf
theorem Yt.pars {v:Nat} (hv:v<n.2.1.length):∀ p ∈ n.2.2.2.1.getD v [],0≤p∧p<(n.2.1.length:Int):=fun p hp=>by
 have h1:v<n.2.2.2.1.length:=by rw [hf.ev.p];exact hv
 rw [Y1 h1] at hp
 have:=hf.ev.par (List.getElem_mem h1) p hp
 rwa [hf.ev.v] at this
theorem Yt.rows {v:Nat} (hv:v<n.2.1.length):Y6 n.2.2.1 (n.2.2.2.1.getD v []) 1 * cnt n v=(n.2.2.2.2.getD v []).length∧(n.2.2.2.2.getD v []).length≤65536∧Y6 n.2.2.1 (n.2.2.2.1.getD v []) 1≤65536:=by
 have h1:=Zp3 _ 0 hf.sh v (Nat.zero_le _) (by omega)
 have h2:=Znm hf.ev hv
 refine ⟨h1.1,h1.2,?_⟩
 have h3:Y6 n.2.2.1 (n.2.2.2.1.getD v []) 1≤Y6 n.2.2.1 (n.2.2.2.1.getD v []) 1 * cnt n v:=Nat.le_mul_of_pos_right _ h2
 have h4:Y6 n.2.2.1 (n.2.2.2.1.getD v []) 1 * cnt n v≤65536:=by
  have:=h1.1;rw [cnt,this];exact h1.2
 omega
theorem Yt.row {w:List Int} (hw:X3 n w) {v:Nat} (hv:v<n.2.1.length):Y5 n w v * cnt n v+cnt n v≤(n.2.2.2.2.getD v []).length∧Y5 n w v<65536:=by
 obtain ⟨h1,h2,h3⟩:=hf.rows hv
 have h4:=Zp1 hf.ev hw _ 0 1 (hf.pars hv) (by omega) (by omega) h3
 have h5:=Nat.mul_le_mul_right (cnt n v) (show Y5 n w v+1≤Y6 n.2.2.1 (n.2.2.2.1.getD v []) 1 from h4)
 rw [Nat.add_mul,Nat.one_mul,h1] at h5
 exact ⟨h5,Nat.lt_of_lt_of_le h4 h3⟩
theorem Yt.rowT_len {w:List Int} (hw:X3 n w) {v:Nat} (hv:v<n.2.1.length):(Z6 n w v).length=cnt n v:=by
 have:=(hf.row hw hv).1
 rw [Z6,List.length_take,List.length_drop];omega
theorem Yt.ent {v:Nat} (hv:v<n.2.1.length):∀ x ∈ n.2.2.2.2.getD v [],0≤Zv x∧Zv x≤1:=fun x hx=>by
 have h1:v<n.2.2.2.2.length:=by rw [hf.ev.t];exact hv
 rw [Y1 h1] at hx
 have h2:=hf.en
 rw [Zaq,List.any_eq_false] at h2
 have h3:=h2 _ (List.getElem_mem h1)
 rw [Bool.not_eq_true,List.any_eq_false] at h3
 have h4:=h3 x hx
 simp only [Vw,Bool.or_eq_true,decide_eq_true_eq,not_or] at h4
 exact ⟨Rat.not_lt.1 h4.1,Rat.not_lt.1 h4.2⟩
end
theorem Zbk {n:Zz} {w:List Int} {v:Nat} {x:QV} (h:x ∈ Z6 n w v):x ∈ n.2.2.2.2.getD v []:=List.mem_of_mem_drop (List.mem_of_mem_take h)
theorem Zp0 {n:Zz} {w:List Int} {v j:Nat} (hj:j<(Z6 n w v).length):Zn (n.2.2.2.2.getD v []) ((Y5 n w v * cnt n v+j:Nat):Int)=some (Z6 n w v)[j]:=by
 have h1:Y5 n w v * cnt n v+j<(n.2.2.2.2.getD v []).length:=by
  rw [Z6,List.length_take,List.length_drop] at hj;omega
 rw [Xk h1]
 simp only [Z6,List.getElem_take,List.getElem_drop]
def Up (P:List R2) (l:List Int):Prop:=∀ (a:List Int) (v:Int) (b:List Int),l=a++v :: b→∀ p ∈ P.getD v.toNat [],p ∈ a
theorem Up.step {P:List R2} {l:List Int} {j:Nat} (h:Up P l) (hn:Vc P l 0=some j):Up P (l++[(j:Int)]):=by
 obtain ⟨_,h2,h3,_⟩:=Zo4 hn
 obtain ⟨h4,h5⟩:=(Zvx h2).1 h3
 intro a v b e p hp
 rcases List.eq_nil_or_concat b with rfl | ⟨b',c,rfl⟩
 ·obtain ⟨e1,e2⟩:=List.append_inj' e rfl
  rw [List.cons.injEq] at e2
  obtain ⟨rfl,-⟩:=e2
  subst e1
  rw [Int.toNat_natCast,Y1 h2] at hp
  exact h5 p hp
 ·rw [List.concat_eq_append,← List.cons_append,← List.append_assoc] at e
  exact h a v b' (List.append_inj' e rfl).1 p hp
theorem Zuu {N:Nat} {P:List R2} (hP:P.length<1048576) (hls:∀ x ∈ P,x.length≤1048576) (hN:1048576<N):∀ (n:Nat) (l r:List Int),Ut P l→Up P l→Zbg N P n l=some r→Up P r
 | 0,l,r,_,_,h=>by rw [Zbg.eq_1] at h;cases h
 | n+1,l,r,h0,hk,h=>by
  have hl:=h0.len
  rw [Zpa (by omega) hls (by omega) hN] at h
  cases hnx:Vc P l 0 with
  | none=>rw [hnx] at h;cases h;exact hk
  | some j=>
   rw [hnx] at h
   exact Zuu hP hls hN n (l++[(j:Int)]) r (h0.step hnx).1 (hk.step hnx) h
structure Vs (P:List R2) (l:List Int):Prop where
 rg:∀ x ∈ l,0≤x∧x<(P.length:Int)
 nd:l.Nodup
 up:Up P l
theorem Z2k {N:Nat} {P:List R2} {l:List Int} (hP:P.length<1048576) (hls:∀ x ∈ P,x.length≤1048576) (hN:1048576<N) (h:Qk N P=some l) (ho:Ut P l):Vs P l:=
 ⟨ho.2.1,ho.1,Zuu hP hls hN N [] l ⟨.nil,by simp,by simp⟩ (fun a v b e=>by cases a <;> simp at e) (by rwa [Qk] at h)⟩
def Ye (n:Zz) (w:List Int):List Int→Rat×Rat→Rat×Rat
 | [],s=>s
 | v :: l,s=>Ye n w l ((Xx (s.2 - s.1) (Z6 n w v.toNat) s.1).getD (w.getD v.toNat 0).toNat (0,0))
structure U3 (D M:Nat) (s:Rat×Rat):Prop where
 d:D≠0
 m:1≤M
 a:Bd D M s.1
 b:Bd D M s.2
theorem U3.zero:U3 1 1 (0,1):=⟨by decide,by decide,.zero 1 1,.one⟩
theorem Zn6 (M D:Nat):(Zf (M * D)).length≤(Zf M).length+(Zf D).length:=T3 M D
section
variable {N W:Nat} {n:Zz} (hf:Yt N n) (hs:Wh n W)
include hf hs
theorem Ze7 {v:Nat} (hv:v<n.2.1.length):∀ x ∈ n.2.2.2.2.getD v [],Vg x∧max x.1.2.length x.2.length≤W:=fun x hx=>by
 have h1:v<n.2.2.2.2.length:=by rw [hf.ev.t];exact hv
 rw [Y1 h1] at hx
 have h2:=hs.tq _ (List.getElem_mem h1)
 exact ⟨hs.lim _ (List.getElem_mem h1) x hx,Nat.le_trans (Z2u hx) h2⟩
theorem Z3u {v:Nat} (hv:v<n.2.1.length) (w:List Int):Yb (Z6 n w v)≤W:=by
 have h1:v<n.2.2.2.2.length:=by rw [hf.ev.t];exact hv
 have h2:=hs.tq _ (List.getElem_mem h1)
 rw [Z6,Y1 h1]
 exact Nat.le_trans (Zvg _ _) (Nat.le_trans (Zve _ _) h2)
theorem Zn7 {w:List Int} (hw:X3 n w) {v:Nat} (hv:v<n.2.1.length) {D M:Nat} {s:Rat×Rat} (h:U3 D M s):∃ D' M',(Zf M').length+(Zf D').length≤(Zf M).length+(Zf D).length+(W+2)∧
  (∀ p ∈ Xx (s.2 - s.1) (Z6 n w v) s.1,U3 D' M' p)∧qs (s.2 - s.1)≤(Zf M).length+(Zf D).length+1:=by
 have hl:Bd D (M+M) (s.2 - s.1):=h.b.sub h.a h.d
 have hE:=Zki (Z6 n w v)
 have hlim:∀ x ∈ Z6 n w v,Vg x:=fun x hx=>(Ze7 hf hs hv x (Zbk hx)).1
 have hEl:=Zsb (Z6 n w v) hlim
 have hq:=Z3u hf hs hv w
 have hc:(Z6 n w v).length≤65536:=by
  have h1:=(hf.rows hv).2.1
  have h2:=(hf.row hw hv).1
  rw [hf.rowT_len hw hv];omega
 have hP:=Zu2 (M:=M) h.d hl (Z6 n w v) 1 s.1 M (by decide) (fun x hx=>hf.ent hv x (Zbk hx)) (by rw [Nat.mul_one];exact h.a)
 rw [Nat.one_mul] at hP
 have hM:M+(M+M) * (Z6 n w v).length≤M * 262144:=by
  have h1:(M+M) * (Z6 n w v).length≤(M+M) * 65536:=Nat.mul_le_mul_left _ hc
  omega
 refine ⟨D * Tk (Z6 n w v),M * 262144,?_,fun p hp=>?_,?_⟩
 ·have h1:=T3 D (Tk (Z6 n w v))
  have h2:=T3 M 262144
  have h3:(Zf 262144).length≤1:=Wt.2 (by decide)
  omega
 ·obtain ⟨h1,h2⟩:=hP p hp
  have:=h.m
  exact ⟨Nat.mul_ne_zero h.d hE,by omega,h1.up hM,h2.up hM⟩
 ·have h1:=hl.qs h.d (by have:=h.m;omega)
  have h2:=Zn6 (M+M) D
  have h3:(Zf (M+M)).length≤(Zf M).length+1:=Zkq (Nat.le_refl _) (Nat.le_refl _)
  omega
end
theorem U3.qa {D M:Nat} {s:Rat×Rat} (h:U3 D M s):qs s.1≤(Zf M).length+(Zf D).length:=Nat.le_trans (h.a.qs h.d h.m) (Zn6 M D)
theorem U3.qb {D M:Nat} {s:Rat×Rat} (h:U3 D M s):qs s.2≤(Zf M).length+(Zf D).length:=Nat.le_trans (h.b.qs h.d h.m) (Zn6 M D)
theorem X3.set {n:Zz} {w:List Int} (h:X3 n w) {v:Nat} {k:Int} (hk:0≤k∧k<(cnt n v:Int)):X3 n (w.set v k):=by
 refine ⟨by rw [List.length_set];exact h.len,fun i hi=>?_⟩
 rw [List.length_set] at hi
 by_cases hv:v<w.length
 ·rw [Uk w 0 v i k hv]
  split
  ·rename_i e;rw [e];exact hk
  ·exact h.ok i hi
 ·rw [List.set_eq_of_length_le (by omega)];exact h.ok i hi
theorem Zty {l:List (Rat×Rat)} {j:Nat} (hj:j<l.length):Zn (l.map Xs) (j:Int)=some (Xs (l.getD j (0,0))):=by
 rw [Xk (by rw [List.length_map];exact hj),List.getElem_map,Y1 hj]
theorem Zg4 {l:List (Rat×Rat)} {j:Nat} (hj:j<l.length):l.getD j (0,0) ∈ l:=by rw [Y1 hj];exact List.getElem_mem hj
def Qz:Option R0:=
  some ((false,[1]),[1])
theorem Zez {col:Zd} {w0:World} {r:R0} (c1 c2:Nat) (hm:Qz=some r):
    Calls Tryz.prog 42 #[] w0 (fun e w'=>∃ (col':Zd) (ra1:Option Addr) (rc2:Nat) (ra4:Option Addr) (rc5:Nat),e= .returned ((.agg #[.bool r.1.1,.slice ra1 r.1.2.length rc2,.slice ra4 r.2.length rc5]))∧Zg col w0 col' w'∧Zb (Za.int .u32) 77 c1 col' w' ra1 rc2 r.1.2∧Zb (Za.int .u32) 77 c2 col' w' ra4 rc5 r.2):=by
 refine Yw (m:=5) func42 rfl rfl rfl ?_;rw [Qz.eq_1] at hm;have aa:=St.start col w0;refine go ?_;refine Xa (col:=(Zk col)) #[.bool false,.slice none (([]:List Int).length) 0,.slice none (([]:List Int).length) 0] 1 zeroValue35 ?_;intro ao ap ai aj ab;refine go ?_;refine W6 (col:=ai) [1] 2 ?_;intro ag aq ak ah ac;refine lV (.agg #[.bool false,.slice ag ([1].length) 1]) (Yi (l:=[_,_]) (qs:=[(0,1),(1,1)]) underlying33 zeroValue33 ⟨rfl,sizeOf4,rfl,sizeOf31,trivial⟩ rfl)<|W6 (col:=ak) [1] 3 ?_;intro al ar au ad ae;refine lV (.agg #[.bool false,.slice ag ([1].length) 1,.slice al ([1].length) 1]) (Yi (l:=[_,_]) (qs:=[(0,2),(2,1)]) underlying35 zeroValue35 ⟨rfl,sizeOf33,rfl,sizeOf31,trivial⟩ rfl) ?_;replace ab:=(ab.gr ah).gr ad;refine Zu ab ?_;intro av af am an;refine go ?_;cases hm;replace aa:=(((aa.grow aj).grow ah).grow ad).kp af am;replace ac:=(ac.gr ad).kp af;replace ae:=ae.kp af;exact ⟨rfl,_,ra an.atN,_,_,1,_,1,rfl,aa.fin (cm [(2,c1),(3,c2)]),aa.fo ac,aa.fo ae⟩
abbrev Tw:=Option (List Int×(QV×QV)×Bool)
theorem Znw:Qz=some (Zq 1):=by
 rw [Qz,show Zq 1=((false,[1]),[1]) by rw [Zq,X2];simp [T5]]
theorem X3.zero {n:Zz} (he:Tj n):X3 n (List.replicate n.2.1.length 0):=by
 refine ⟨List.length_replicate,fun i hi=>?_⟩
 rw [List.length_replicate] at hi
 have:=Znm he hi
 rw [List.getD_eq_getElem?_getD,List.getElem?_replicate,if_pos hi]
 simp;exact this
theorem Zn0 {N:Nat} (hr:Xj N 16):Qf N ([]:List QV)=some (Zq 0):=by
 have:=(Zss (N:=N) (l:=[]) (by simp) hr).1
 rwa [Yy,List.map_nil,List.sum_nil] at this
abbrev noS:QV×QV:=(((false,([]:List Int)),([]:List Int)),((false,([]:List Int)),([]:List Int)))
def So (n:Zz) (ch:List (Rat×Rat)→Int):List Int→List Int→Rat×Rat→Option (List Int×(Rat×Rat))
 | [],w,s=>some (w,s)
 | v :: l,w,s=>if ch (Xx (s.2 - s.1) (Z6 n w v.toNat) s.1)<0 then none else
   So n ch l (w.set v.toNat (ch (Xx (s.2 - s.1) (Z6 n w v.toNat) s.1))) ((Xx (s.2 - s.1) (Z6 n w v.toNat) s.1).getD (ch (Xx (s.2 - s.1) (Z6 n w v.toNat) s.1)).toNat (0,0))
def Znq:Option (List Int×(Rat×Rat))→Tw
 | none=>some ([],noS,false)
 | some (w,s)=>some (w,Xs s,true)
def Zqh (ch:List (Rat×Rat)→Int):Prop:=∀ P,ch P<(P.length:Int)
/-! the program's loops,the chooser left open -/
def Ze9 (N:Nat) (n:Zz) (ch:Int→List (QV×QV)→Option Int) (w:List Int) (kk:QV→QV→List Int→Tw) (x row:Int) (d:QV) (e:List ByteArray):Nat→QV→List (QV×QV)→Int→Tw
 | 0,_,_,_=>none
 | f+1,a,ps,k=>if decide (k<(e.length:Int))=true then (Zn n.2.2.2.2 x).bind fun t=>(Zn n.2.2.1 x).bind fun e2=>(Zn t (i64.wrap (i64.wrap (row * (e2.length:Int))+k))).bind fun y=>(Ul N d y).bind fun z=>(V3 N a z).bind fun b=>
   Z0 ((ps.length+[(a,b)].length) * 112≤140737488355328∧ps.length+[(a,b)].length≤maxLen) (Ze9 N n ch w kk x row d e f b (ps++[(a,b)]) (i64.wrap (k+1)))
  else (ch x ps).bind fun r=>if decide (r<0)=true then some ([],noS,false) else (Zn ps r).bind fun p=>(Zn w x).bind fun _=>(some (w.set (Int.toNat x) r)).bind fun xs=>kk p.1 p.2 xs
def Zar (N:Nat) (n:Zz) (ch:Int→List (QV×QV)→Option Int) (s:QV×QV) (w:List Int) (kk:QV→QV→List Int→Tw) (x:Int):List Int→Int→Tw
 | [],row=>(T6 N s.2 s.1).bind fun d=>(Zn n.2.2.1 x).bind fun e=>Ze9 N n ch w kk x row d e N s.1 [] 0
 | p :: l,row=>(Zn n.2.2.1 p).bind fun e=>(Zn w p).bind fun y=>Zar N n ch s w kk x l (i64.wrap (i64.wrap (row * (e.length:Int))+y))
def Zb1 (N:Nat) (n:Zz) (ch:Int→List (QV×QV)→Option Int):List Int→QV→QV→List Int→Tw
 | [],a,b,w=>some (w,(a,b),true)
 | x :: l,a,b,w=>(Zn n.2.2.2.1 x).bind fun ps=>Zar N n ch (a,b) w (Zb1 N n ch l) x ps 0
section
variable {N K:Nat} {n:Zz} (hf:Yt N n) (hr:Xj N (8 * K+40))
include hf hr
theorem Zsw (ch:Int→List (QV×QV)→Option Int) (w:List Int) (hw:X3 n w) (kk:QV→QV→List Int→Tw) {v:Nat} (hv:v<n.2.1.length) (hl:∀ x ∈ Z6 n w v,Vg x∧max x.1.2.length x.2.length≤K) {long:Rat} (hlong:qs long≤K) (F:List (QV×QV)→Tw)
  (hF:∀ P:List (QV×QV),((ch (v:Int) P).bind fun r=>if decide (r<0)=true then some ([],noS,false) else (Zn P r).bind fun p=>(Zn w (v:Int)).bind fun _=>(some (w.set (Int.toNat (v:Int)) r)).bind fun xs=>kk p.1 p.2 xs)=F P):
  ∀ (l:List QV) (f j:Nat) (a:Rat) (parts:List (QV×QV)),(Z6 n w v).drop j=l→j≤cnt n v→cnt n v<f+j→qs a≤K→(∀ p ∈ Xx long l a,qs p.1≤K∧qs p.2≤K)→parts.length=j→
   Ze9 N n ch w kk (v:Int) (Y5 n w v:Int) (Zq long) (n.2.2.1.getD v []) f (Zq a) parts (j:Int)=F (parts++(Xx long l a).map Xs)
 | l,0,j,a,parts,_,h1,h2,_,_,_=>by omega
 | l,f+1,j,a,parts,hd,h1,h2,ha,hp,hpl=>by
  have hlen:=hf.rowT_len hw hv
  have hrow:=hf.row hw hv
  have hrows:=hf.rows hv
  rw [Ze9]
  cases l with
  | nil=>
   have h3:=List.drop_eq_nil_iff.1 hd
   rw [if_neg (by rw [decide_eq_false (by rw [cnt] at h1 hlen;omega)];decide),hF,Xx,List.map_nil,List.append_nil]
  | cons y l=>
   have hj:j<(Z6 n w v).length:=by
    rcases Nat.lt_or_ge j (Z6 n w v).length with h | h
    ·exact h
    ·rw [List.drop_eq_nil_of_le h] at hd;cases hd
   have hy:(Z6 n w v)[j]=y∧(Z6 n w v).drop (j+1)=l:=by
    rw [List.drop_eq_getElem_cons hj] at hd
    exact List.cons.inj hd
   have hyK:=hl y (hy.1 ▸ List.getElem_mem hj)
   have hjc:j<cnt n v:=by omega
   have hq:=hp _ List.mem_cons_self
   have e0:(0:Int)≤((Y5 n w v * cnt n v:Nat):Int):=Int.natCast_nonneg _
   have e1:i64.wrap ((Y5 n w v:Int) * ((n.2.2.1.getD v []).length:Int))=((Y5 n w v * cnt n v:Nat):Int):=by
    rw [show ((n.2.2.1.getD v []).length:Int)=((cnt n v:Nat):Int) from rfl,← Int.natCast_mul]
    exact Z4 (by omega)
   have e2:i64.wrap (((Y5 n w v * cnt n v:Nat):Int)+(j:Int))=((Y5 n w v * cnt n v+j:Nat):Int):=by
    rw [← Int.natCast_add]
    exact Z4 (by omega)
   have r1:=Zc4 hyK.1.1 hyK.1.2
   have m1:Ul N (Zq long) y=some (Zq (long * Zv y)):=by
    have:=Zkk (Wa hlong) (r1.mono hyK.2) (hr.mono (by omega))
    rwa [Yx] at this
   have s1:qs (long * Zv y)≤K+(K+1):=by
    have h4:=Zl6 long (Zv y)
    have h5:=Zl7 hyK.1
    omega
   have a1:V3 N (Zq a) (Zq (long * Zv y))=some (Zq (a+long * Zv y)):=by
    have:=Ze8 (Wa ha) (Wa s1) (hr.mono (by omega))
    rwa [Yx,Yx] at this
   rw [if_pos (decide_eq_true (by rw [cnt] at hjc;omega)),W0 [] (by rw [hf.ev.t];exact hv),Option.bind_some,W0 [] (by rw [hf.ev.v];exact hv),Option.bind_some,e1,e2,Zp0 hj,hy.1,Option.bind_some,m1,Option.bind_some,a1,Option.bind_some,
    Xi (by simp only [List.length_singleton,maxLen];omega),Z4 (x:=(j:Int)+1) (by omega)]
   have ih:=Zsw ch w hw kk hv hl hlong F hF l f (j+1) (a+long * Zv y) (parts++[Xs (a,a+long * Zv y)]) hy.2 (by omega) (by omega) hq.2 (fun p h=>hp p (List.mem_cons_of_mem _ h)) (by rw [List.length_append,List.length_singleton];omega)
   rw [List.append_assoc] at ih
   exact ih
omit hr in
theorem Zsv (ch:Int→List (QV×QV)→Option Int) (s:QV×QV) (w:List Int) (hw:X3 n w) (kk:QV→QV→List Int→Tw) (x:Int):∀ (ps:List Int) (r k:Nat),(∀ q ∈ ps,0≤q∧q<(n.2.1.length:Int))→r<k→k≤65536→Y6 n.2.2.1 ps k≤65536→
  Zar N n ch s w kk x ps (r:Int)=Zar N n ch s w kk x [] (Tg n w ps r:Int)
 | [],r,k,_,_,_,_=>rfl
 | p :: ps,r,k,hp,h1,h2,h3=>by
  obtain ⟨g1,g2,g3⟩:=Zml hf.ev hw hp h1 h2 h3
  have hpp:=hp p List.mem_cons_self
  have hwp:=hw.ok p.toNat (by rw [hw.len];omega)
  have g4:r * cnt n p.toNat≤k * cnt n p.toNat:=Nat.mul_le_mul_right _ (by omega)
  have q1:Zn n.2.2.1 p=some (n.2.2.1.getD p.toNat []):=by
   have:=W0 (l:=n.2.2.1) [] (j:=p.toNat) (by rw [hf.ev.v];omega)
   rwa [show ((p.toNat:Nat):Int)=p by omega] at this
  have q2:Zn w p=some (w.getD p.toNat 0):=by
   have:=W0 (l:=w) 0 (j:=p.toNat) (by rw [hw.len];omega)
   rwa [show ((p.toNat:Nat):Int)=p by omega] at this
  have e1:i64.wrap ((r:Int) * ((n.2.2.1.getD p.toNat []).length:Int))=((r * cnt n p.toNat:Nat):Int):=by
   rw [show ((n.2.2.1.getD p.toNat []).length:Int)=((cnt n p.toNat:Nat):Int) from rfl,← Int.natCast_mul]
   exact Z4 (by omega)
  have e2:i64.wrap (((r * cnt n p.toNat:Nat):Int)+w.getD p.toNat 0)=((r * cnt n p.toNat+(w.getD p.toNat 0).toNat:Nat):Int):=by
   rw [Int.natCast_add,show (((w.getD p.toNat 0).toNat:Nat):Int)=w.getD p.toNat 0 by omega]
   exact Z4 (by omega)
  rw [Zar.eq_2,q1,Option.bind_some,q2,Option.bind_some,e1,e2]
  exact Zsv ch s w hw kk x ps _ _ (fun q hq=>hp q (List.mem_cons_of_mem _ hq)) g1 g2 g3
end
section
variable {N W K:Nat} {n:Zz} (hf:Yt N n) (hs:Wh n W) (hr:Xj N (8 * K+40)) (hWK:W≤K) {ord:List Int} (ho:Vs n.2.2.2.1 ord) {cF:List (Rat×Rat)→Int} (hF:Zqh cF)
include hf hs hr hWK ho hF
theorem Zsu {ch:Int→List (QV×QV)→Option Int} (hN:65536<N) (hch:∀ (v:Nat) (P:List (Rat×Rat)),(∀ p ∈ P,qs p.1≤K∧qs p.2≤K)→P.length≤65536→ch (v:Int) (P.map Xs)=some (cF P)):
  ∀ (l:List Int) (w:List Int) (s:Rat×Rat) (D M:Nat),(∀ x ∈ l,x ∈ ord)→X3 n w→U3 D M s→(Zf M).length+(Zf D).length+l.length * (W+2)+2≤K→
  Zb1 N n ch l (Zq s.1) (Zq s.2) w=Znq (So n cF l w s)
 | [],w,s,D,M,_,_,_,_=>rfl
 | v :: l,w,s,D,M,he,hw,hL,hK=>by
  have hvr:=ho.rg v (he v List.mem_cons_self)
  rw [hf.ev.p] at hvr
  obtain ⟨k,rfl⟩:∃ k:Nat,v=(k:Int):=⟨v.toNat,by omega⟩
  have hv:k<n.2.1.length:=by omega
  obtain ⟨D',M',c1,c2,c3⟩:=Zn7 hf hs hw hv hL
  have hKs:(l.length+1) * (W+2)=l.length * (W+2)+(W+2):=by rw [Nat.add_mul,Nat.one_mul]
  rw [List.length_cons,hKs] at hK
  have hrows:=hf.rows hv
  have hcl:cnt n k≤65536:=by have:=(hf.row hw hv).1;omega
  have hsub:T6 N (Zq s.2) (Zq s.1)=some (Zq (s.2 - s.1)):=by
   have:=Znz (Wa hL.qb) (Wa hL.qa) (hr.mono (s:=2 * ((Zf M).length+(Zf D).length+((Zf M).length+(Zf D).length)+3)) (by omega))
   rwa [Yx,Yx] at this
  rw [Zb1,W0 [] (by rw [hf.ev.p];exact hv),Option.bind_some]
  have h2:=Zsv (N:=N) hf ch (Zq s.1,Zq s.2) w hw (Zb1 N n ch l) (k:Int) (n.2.2.2.1.getD k []) 0 1 (hf.pars hv) (by omega) (by omega) hrows.2.2
  rw [show ((0:Nat):Int)=0 from rfl] at h2
  rw [h2,Zar,hsub,Option.bind_some,W0 [] (by rw [hf.ev.v];exact hv),Option.bind_some]
  have h3:=Zsw hf hr ch w hw (Zb1 N n ch l) hv (fun x hx=>by have:=Ze7 hf hs hv x (Zbk hx);exact ⟨this.1,by omega⟩) (long:=s.2 - s.1) (by omega) _ (fun _=>rfl) (Z6 n w k) N 0 s.1 [] rfl (Nat.zero_le _) (by omega) (by have:=hL.qa;omega) (fun p hp=>⟨by have:=(c2 p hp).qa;omega,by have:=(c2 p hp).qb;omega⟩) rfl
  rw [show ((0:Nat):Int)=0 from rfl] at h3
  have h3':=h3
  rw [Y5] at h3'
  rw [h3',List.nil_append]
  have hlen:(Xx (s.2 - s.1) (Z6 n w k) s.1).length=cnt n k:=by rw [Zbl,hf.rowT_len hw hv]
  have hfit:=hF (Xx (s.2 - s.1) (Z6 n w k) s.1)
  rw [hch k _ (fun p hp=>⟨by have:=(c2 p hp).qa;omega,by have:=(c2 p hp).qb;omega⟩) (by omega),Option.bind_some,So,Int.toNat_natCast]
  by_cases hneg:cF (Xx (s.2 - s.1) (Z6 n w k) s.1)<0
  ·rw [if_pos (decide_eq_true hneg),if_pos hneg];rfl
  ·obtain ⟨q,hq⟩:∃ q:Nat,cF (Xx (s.2 - s.1) (Z6 n w k) s.1)=(q:Int):=⟨(cF (Xx (s.2 - s.1) (Z6 n w k) s.1)).toNat,by omega⟩
   rw [hq] at hfit
   have hql:q<(Xx (s.2 - s.1) (Z6 n w k) s.1).length:=by omega
   rw [hq,if_neg (by rw [decide_eq_false (by omega)];decide),if_neg (by omega),Zty hql,Option.bind_some,W0 0 (by rw [hw.len];exact hv),Option.bind_some,Option.bind_some,Int.toNat_natCast]
   exact Zsu hN hch l (w.set k q) _ D' M' (fun x hx=>he x (List.mem_cons_of_mem _ hx)) (hw.set (by omega)) (c2 _ (Zg4 hql)) (by omega)
end
theorem Zjf {a b:Rat}:Vj a b<0↔a<b:=by
 rw [Vj]
 by_cases h:a<b
 ·rw [if_pos h];exact ⟨fun _=>h,fun _=>by decide⟩
 ·rw [if_neg h]
  by_cases g:b<a
  ·rw [if_pos g];exact ⟨fun e=>absurd e (by decide),fun e=>absurd e h⟩
  ·rw [if_neg g];exact ⟨fun e=>absurd e (by decide),fun e=>absurd e h⟩
def Tl (c:Rat×Rat→Bool):List (Rat×Rat)→Nat→Int
 | [],_=> -1
 | p :: l,k=>if c p=true then (k:Int) else Tl c l (k+1)
def U8 (c:Rat×Rat→Bool):List (Rat×Rat)→Nat→Int→Int
 | [],_,f=>f
 | p :: l,k,f=>U8 c l (k+1) (if c p=true then (k:Int) else f)
theorem Zsd (c:Rat×Rat→Bool):∀ (l:List (Rat×Rat)) (k:Nat),Tl c l k<((k+l.length:Nat):Int)
 | [],k=>by rw [Tl];omega
 | p :: l,k=>by
  have:=Zsd c l (k+1)
  rw [Tl,List.length_cons]
  split
  ·omega
  ·omega
theorem Z0x (c:Rat×Rat→Bool):Zqh fun P=>Tl c P 0:=fun P=>by have:=Zsd c P 0;rwa [Nat.zero_add] at this
theorem Zkp {c:Rat×Rat→Bool}:∀ (l:List (Rat×Rat)) (k:Nat) (f:Int),(∀ p ∈ l,c p=false)→U8 c l k f=f
 | [],k,f,_=>rfl
 | p :: l,k,f,h=>by rw [U8,h p List.mem_cons_self,if_neg (by decide)];exact Zkp l _ _ fun q hq=>h q (List.mem_cons_of_mem _ hq)
theorem Zsf {c:Rat×Rat→Bool}:∀ (l:List (Rat×Rat)) (k:Nat),(∀ p ∈ l,c p=false)→Tl c l k= -1
 | [],k,_=>rfl
 | p :: l,k,h=>by rw [Tl,h p List.mem_cons_self,if_neg (by decide)];exact Zsf l _ fun q hq=>h q (List.mem_cons_of_mem _ hq)
theorem Z07 {long a:Rat} {x:QV} (hl:0≤long) (hx:0≤Zv x):a≤a+long * Zv x:=by
 have h1:=Rat.add_le_add_left (c:=a) |>.2 (Rat.mul_nonneg hl hx)
 rwa [Rat.add_zero] at h1
theorem Zje {long:Rat} (hl:0≤long):∀ (t:List QV) (a:Rat),(∀ x ∈ t,0≤Zv x)→∀ p ∈ Xx long t a,a≤p.1∧p.1≤p.2
 | [],a,_,p,hp=>by rw [Xx] at hp;cases hp
 | x :: t,a,ht,p,hp=>by
  have h1:=Z07 (a:=a) hl (ht x List.mem_cons_self)
  rw [Xx] at hp
  rcases List.mem_cons.1 hp with rfl | hp
  ·exact ⟨Rat.le_refl,h1⟩
  ·obtain ⟨h2,h3⟩:=Zje hl t _ (fun y hy=>ht y (List.mem_cons_of_mem _ hy)) p hp
   exact ⟨Rat.le_trans h1 h2,h3⟩
def Qx (x:Rat×Rat) (p:Rat×Rat):Bool:=decide (p.1≤x.1)&&decide (x.1<p.2)&&decide (x.2≤p.2)
theorem Zdd {x p:Rat×Rat}:Qx x p=true↔p.1≤x.1∧x.1<p.2∧x.2≤p.2:=by simp [Qx,and_assoc]
structure Zmu (x:Rat×Rat) (c:Rat×Rat→Bool):Prop where
 same:∀ p,p.1≤x.1→c p=Qx x p
 far:∀ p,x.1<p.2→c p=false→∀ q,x.1<q.1→c q=false
theorem Zse {x:Rat×Rat} {c:Rat×Rat→Bool} (h:Zmu x c) {long:Rat} (hl:0≤long):∀ (t:List QV) (a:Rat) (k:Nat),(∀ y ∈ t,0≤Zv y)→a≤x.1→Tl c (Xx long t a) k=U8 (Qx x) (Xx long t a) k (-1)
 | [],a,k,_,_=>rfl
 | y :: t,a,k,ht,ha=>by
  have ht':∀ z ∈ t,0≤Zv z:=fun z hz=>ht z (List.mem_cons_of_mem _ hz)
  have hge:=Zje hl t (a+long * Zv y) ht'
  rw [Xx,Tl,U8]
  have hs:=h.same (a,a+long * Zv y) ha
  by_cases hc:c (a,a+long * Zv y)=true
  ·rw [if_pos hc,if_pos (hs ▸ hc),Zkp]
   intro p hp
   have h1:=(Zdd.1 (hs ▸ hc)).2.1
   rw [Bool.eq_false_iff]
   intro g
   exact absurd (Zdd.1 g).1 (Rat.not_le.2 (Std.lt_of_lt_of_le h1 (hge p hp).1))
  ·rw [if_neg hc,if_neg (hs ▸ hc)]
   by_cases hx:a+long * Zv y≤x.1
   ·exact Zse h hl t _ (k+1) ht' hx
   ·have hx:=Rat.not_le.1 hx
    rw [Zsf,Zkp]
    ·intro p hp
     rw [Bool.eq_false_iff]
     intro g
     exact absurd (Zdd.1 g).1 (Rat.not_le.2 (Std.lt_of_lt_of_le hx (hge p hp).1))
    ·intro p hp
     exact h.far _ hx (by simpa using hc) p (Std.lt_of_lt_of_le hx (hge p hp).1)
theorem Ztc {c:Rat×Rat→Bool}:∀ (l:List (Rat×Rat)) (k:Nat) (f:Int),U8 c l k f=f∨∃ j,∃ h:j<l.length,U8 c l k f=((k+j:Nat):Int)∧c l[j]=true
 | [],k,f=>.inl rfl
 | p :: l,k,f=>by
  rw [U8]
  rcases Ztc (c:=c) l (k+1) (if c p=true then (k:Int) else f) with h | ⟨j,hj,h1,h2⟩
  ·rw [h]
   by_cases hc:c p=true
   ·rw [if_pos hc];exact .inr ⟨0,by simp,by omega,hc⟩
   ·rw [if_neg hc];exact .inl rfl
  ·exact .inr ⟨j+1,by simpa using hj,by rw [h1];omega,h2⟩
section
variable {N W K:Nat} {n:Zz} (hf:Yt N n) {ord:List Int} (ho:Vs n.2.2.2.1 ord)
include hf ho
theorem Zr0 {x:Rat×Rat} {c:Rat×Rat→Bool} (h:Zmu x c):∀ (l w:List Int) (s:Rat×Rat),(∀ y ∈ l,y ∈ ord)→s.1≤x.1→s.1≤s.2→
  So n (fun P=>Tl c P 0) l w s=So n (fun P=>U8 (Qx x) P 0 (-1)) l w s
 | [],w,s,_,_,_=>rfl
 | v :: l,w,s,he,h1,h2=>by
  have hvr:=ho.rg v (he v List.mem_cons_self)
  rw [hf.ev.p] at hvr
  have hent:∀ y ∈ Z6 n w v.toNat,0≤Zv y:=fun y hy=>(hf.ent (v:=v.toNat) (by omega) y (Zbk hy)).1
  have hlong:0≤s.2 - s.1:=by rw [Rat.le_iff_sub_nonneg] at h2;exact h2
  have hfl:=Zse h hlong (Z6 n w v.toNat) s.1 0 hent h1
  rw [So,So,hfl]
  split
  ·rfl
  ·rename_i hneg
   rcases Ztc (c:=Qx x) (Xx (s.2 - s.1) (Z6 n w v.toNat) s.1) 0 (-1) with e | ⟨j,hj,e1,e2⟩
   ·rw [e] at hneg;exact absurd (by decide) hneg
   ·have hm:(Xx (s.2 - s.1) (Z6 n w v.toNat) s.1)[j] ∈ Xx (s.2 - s.1) (Z6 n w v.toNat) s.1:=List.getElem_mem hj
    rw [e1,Nat.zero_add,Int.toNat_natCast,Y1 hj]
    exact Zr0 h l _ _ (fun y hy=>he y (List.mem_cons_of_mem _ hy)) (Zdd.1 e2).1 (Zje hlong _ _ hent _ hm).2
end
/-! the document's loops -/
/-! a row's entries are 1 together -/
theorem Zup {c:Nat}:∀ (m:Nat) (l:List QV),Uo c m l=true→∀ r,r<m→Yy ((l.drop (r * c)).take c)=1
 | 0,l,_,r,h=>by omega
 | m+1,l,h,r,hr=>by
  rw [Uo,Bool.and_eq_true,decide_eq_true_iff] at h
  cases r with
  | zero=>rw [Nat.zero_mul,List.drop_zero];exact h.1
  | succ r=>
   have:=Zup m (l.drop c) h.2 r (by omega)
   rw [List.drop_drop] at this
   rw [Nat.add_mul,Nat.one_mul,Nat.add_comm]
   exact this
theorem Zwx {vals:List R4} {P:List R2} {T:List (List QV)}:∀ (m v:Nat),Zal vals P T m v=0→∀ i,v≤i→i<v+m→Uo (vals.getD i []).length (Y6 vals (P.getD i []) 1) (T.getD i [])=true
 | 0,v,_,i,h1,h2=>by omega
 | m+1,v,h,i,h1,h2=>by
  rw [Zal] at h
  split at h
  ·rename_i h3
   rcases Nat.lt_or_ge v i with h5 | h5
   ·exact Zwx m (v+1) h i (by omega) (by omega)
   ·have:i=v:=by omega
    subst this
    exact h3
  ·cases h
section
variable {N:Nat} {n:Zz} (hf:Yt N n)
include hf
theorem Zwz {w:List Int} (hw:X3 n w) {v:Nat} (hv:v<n.2.1.length):Yy (Z6 n w v)=1:=by
 have h1:=Zwx _ 0 hf.su v (Nat.zero_le _) (by omega)
 have h2:=Zp1 hf.ev hw (n.2.2.2.1.getD v []) 0 1 (hf.pars hv) (by omega) (by omega) (hf.rows hv).2.2
 exact Zup _ _ h1 _ h2
end
/-! parts side by side -/
theorem Zu4 (long:Rat):∀ (t:List QV) (a:Rat) (j:Nat) (hj:j<t.length),((Xx long t a).getD j (0,0)).2=((Xx long t a).getD j (0,0)).1+long * Zv t[j]
 | [],a,j,hj=>by simp at hj
 | x :: t,a,0,hj=>by rw [Xx,List.getD_cons_zero];rfl
 | x :: t,a,j+1,hj=>by
  rw [Xx,List.getD_cons_succ]
  exact Zu4 long t _ j (by simpa using hj)
theorem Zu3 {long:Rat} (hl:0≤long):∀ (t:List QV) (a:Rat),(∀ x ∈ t,0≤Zv x)→∀ p ∈ Xx long t a,p.2≤a+long * Yy t
 | [],a,_,p,hp=>by rw [Xx] at hp;cases hp
 | x :: t,a,ht,p,hp=>by
  have ht':∀ y ∈ t,0≤Zv y:=fun y hy=>ht y (List.mem_cons_of_mem _ hy)
  have hs:0≤Yy t:=by
   rw [Yy]
   clear hp ht
   induction t with
   | nil=>simp
   | cons y t ih=>
    rw [List.map_cons,List.sum_cons]
    exact Rat.add_nonneg (ht' y List.mem_cons_self) (ih fun z hz=>ht' z (List.mem_cons_of_mem _ hz))
  have e:a+long * Yy (x :: t)=a+long * Zv x+long * Yy t:=by
   rw [Yy,List.map_cons,List.sum_cons,← Yy,Rat.mul_add,Rat.add_assoc]
  rw [Xx] at hp
  rw [e]
  rcases List.mem_cons.1 hp with rfl | hp
  ·have:=Rat.mul_nonneg hl hs
   show a+long * Zv x≤_
   grind
  ·exact Zu3 hl t _ ht' p hp
theorem Zu5 {long:Rat} (hl:0≤long):∀ (t:List QV) (a:Rat) (i j:Nat),(∀ x ∈ t,0≤Zv x)→i<j→j<t.length→((Xx long t a).getD i (0,0)).2≤((Xx long t a).getD j (0,0)).1
 | [],a,i,j,_,_,h=>by simp at h
 | x :: t,a,i,0,_,h,_=>by omega
 | x :: t,a,i,j+1,ht,h1,h2=>by
  have ht':∀ y ∈ t,0≤Zv y:=fun y hy=>ht y (List.mem_cons_of_mem _ hy)
  have h2':j<t.length:=by simpa using h2
  rw [Xx,List.getD_cons_succ]
  cases i with
  | zero=>
   rw [List.getD_cons_zero]
   exact (Zje hl t _ ht' _ (Zg4 (by rw [Zbl];exact h2'))).1
  | succ i=>
   rw [List.getD_cons_succ]
   exact Zu5 hl t _ i j ht' (by omega) h2'
theorem Ztd {c:Rat×Rat→Bool}:∀ (l:List (Rat×Rat)) (k:Nat) (f:Int) (j:Nat),j<l.length→c (l.getD j (0,0))=true→(∀ i,j<i→i<l.length→c (l.getD i (0,0))=false)→U8 c l k f=((k+j:Nat):Int)
 | [],k,f,j,h,_,_=>by simp at h
 | p :: l,k,f,0,h,h1,h2=>by
  rw [List.getD_cons_zero] at h1
  rw [U8,if_pos h1,Zkp l (k+1) _ fun q hq=>?_]
  ·omega
  ·obtain ⟨i,hi,e⟩:=List.getElem_of_mem hq
   have:=h2 (i+1) (by omega) (by simpa using hi)
   rw [List.getD_cons_succ,Y1 hi,e] at this
   exact this
 | p :: l,k,f,j+1,h,h1,h2=>by
  rw [List.getD_cons_succ] at h1
  rw [U8,Ztd l (k+1) _ j (by simpa using h) h1 fun i hi hil=>by
   have:=h2 (i+1) (by omega) (by simpa using hil)
   rwa [List.getD_cons_succ] at this]
  omega
section
variable {N:Nat} {n:Zz} (hf:Yt N n)
include hf
theorem Zu0 {w:List Int} (hw:X3 n w) {v:Nat} (hv:v<n.2.1.length) {s:Rat×Rat} (hs:s.1≤s.2) {p:Rat×Rat} (hp:p ∈ Xx (s.2 - s.1) (Z6 n w v) s.1):s.1≤p.1∧p.1≤p.2∧p.2≤s.2:=by
 have hent:∀ y ∈ Z6 n w v,0≤Zv y:=fun y hy=>(hf.ent hv y (Zbk hy)).1
 have hlong:0≤s.2 - s.1:=by rw [Rat.le_iff_sub_nonneg] at hs;exact hs
 obtain ⟨h1,h2⟩:=Zje hlong _ _ hent _ hp
 have h3:=Zu3 hlong _ _ hent _ hp
 rw [Zwz hf hw hv] at h3
 exact ⟨h1,h2,by grind⟩
variable {ord:List Int} (ho:Vs n.2.2.2.1 ord)
include ho
theorem Zhc {w:List Int} (hw:X3 n w):∀ (l:List Int) (s:Rat×Rat),(∀ y ∈ l,y ∈ ord)→s.1≤s.2→s.1≤(Ye n w l s).1∧(Ye n w l s).1≤(Ye n w l s).2∧(Ye n w l s).2≤s.2
 | [],s,_,h=>⟨Rat.le_refl,h,Rat.le_refl⟩
 | v :: l,s,he,h=>by
  have hvr:=ho.rg v (he v List.mem_cons_self)
  rw [hf.ev.p] at hvr
  have hv:v.toNat<n.2.1.length:=by omega
  have hwv:=hw.ok v.toNat (by rw [hw.len];exact hv)
  have hm:(Xx (s.2 - s.1) (Z6 n w v.toNat) s.1).getD (w.getD v.toNat 0).toNat (0,0) ∈ Xx (s.2 - s.1) (Z6 n w v.toNat) s.1:=Zg4 (by rw [Zbl,hf.rowT_len hw hv];omega)
  obtain ⟨h1,h2,h3⟩:=Zu0 hf hw hv h hm
  obtain ⟨g1,g2,g3⟩:=Zhc hw l _ (fun y hy=>he y (List.mem_cons_of_mem _ hy)) h2
  rw [Ye]
  exact ⟨Rat.le_trans h1 g1,g2,Rat.le_trans g3 h3⟩
variable (hall:∀ i,i<n.2.1.length→(i:Int) ∈ ord)
include hall
end
def Zfh (aa:Int) (ad:Rc) (ab:List Int):Option Int:=
  (Zn ab aa).bind fun ac=>some ac
theorem Zxy (col:Zd) (w0:World) (qc2:Nat) (hqqc2:qc2≠0) (af:Int) (a1:Option Addr) (ag:Nat) (ab:Rc) (g2:Nat) (ac:List Int) (ah:Option Addr) (ai:Nat) (h1:Sl (Za.pair (Za.pair (Za.pair Za.bool (Za.slice (Za.int .u32))) (Za.slice (Za.int .u32))) (Za.pair (Za.pair Za.bool (Za.slice (Za.int .u32))) (Za.slice (Za.int .u32)))) col w0 a1 ag ab) (aa:Sl (Za.int .i64) col w0 ah ai ac) (hb2:Zj 39 qc2 col w0 g2 #[.slice ah ac.length ai]) (r:Int) (hm:Zfh af ab ac=some r):
    Calls Tryz.prog 63 #[.int .i64 af,.slice a1 ab.length ag,.pointer (some ⟨g2,0,none⟩)] w0 (fun e w'=>e= .returned ((.int .i64 r))∧Below w0.heap.size w0 w'):=by
 refine Xl 5 (m:=10) func63 rfl rfl rfl rfl rfl ?_;rw [Zfh.eq_1] at hm;have ad:=St.start col w0;replace hb2:=hb2.start0 hqqc2;refine go ?_;refine lW hb2.at1<|Ya rfl ?_;obtain ⟨aj,ae,hm⟩:=bZ hm;replace aa:=aa.keep (Zl.start col w0);refine lI ae ((aa.ks ad).addr ae)<|lW ((aa.ks ad).atInt ae) ?_;refine go ?_;cases hm;exact ⟨rfl,rfl,ad.below⟩
def Zdk (N:Nat) (ai:R1) (aj:List Int) (ap:Bool) (aq:List Int) (ar:List Int) (au:Bool) (av:List Int) (aw:List Int) (ak:List Int) (kk_L1:(Bool→R2→R2→Bool→R2→R2→R2→Bool→R2→R2→Bool→R2→R2→R2→Option R6)) (ab:Int) (ax:Int) (ae:R0) (ay:List ByteArray):Nat→Bool→R2→R2→Rc→Int→Option R6
  | 0,_,_,_,_,_=>none
  | az+1,af,ag,ah,ad,al=>if (decide (al<(ay.length:Int)))=true then ((Zn ai.2.2.2.2 ab).bind fun a0=>(Zn ai.2.2.1 ab).bind fun a1=>(Zn a0 (i64.wrap ((i64.wrap (ax * (a1.length:Int)))+al))).bind fun am=>(Ul N ((ae.1.1,ae.1.2),ae.2) ((am.1.1,am.1.2),am.2)).bind fun an=>(V3 N ((af,ag),ah) ((an.1.1,an.1.2),an.2)).bind fun aa=>Z0 ((ad.length+[(((af,ag),ah),((aa.1.1,aa.1.2),aa.2))].length) * 112≤140737488355328∧ad.length+[(((af,ag),ah),((aa.1.1,aa.1.2),aa.2))].length≤maxLen) ((Zdk N ai aj ap aq ar au av aw ak kk_L1 ab ax ae ay az) aa.1.1 aa.1.2 aa.2 (ad++[(((af,ag),ah),((aa.1.1,aa.1.2),aa.2))]) (i64.wrap (al+1)))) else ((Zfh ab ad aj).bind fun ao=>if (decide (ao<0))=true then (some (([]:List Int),(((false,([]:List Int)),([]:List Int)),((false,([]:List Int)),([]:List Int))),false)) else ((Zn ad ao).bind fun ac=>(Zn ak ab).bind fun a3=>(some (ak.set (Int.toNat ab) ao)).bind fun a2=>kk_L1 ac.1.1.1 ac.1.1.2 ac.1.2 ac.2.1.1 ac.2.1.2 ac.2.2 aj ap aq ar au av aw a2))
termination_by structural x=>x
def Zax (N:Nat) (aa:R1) (ab:Bool) (ac:List Int) (ad:List Int) (ah:Bool) (ai:List Int) (aj:List Int) (ak:List Int) (al:Bool) (am:List Int) (an:List Int) (ao:Bool) (ap:List Int) (aq:List Int) (ae:List Int) (kk_L1:(Bool→R2→R2→Bool→R2→R2→R2→Bool→R2→R2→Bool→R2→R2→R2→Option R6)) (af:Int):List Int→Int→Option R6
  | [],ag=>(T6 N ((ah,ai),aj) ((ab,ac),ad)).bind fun au=>(Zn aa.2.2.1 af).bind fun av=>Zdk N aa ak al am an ao ap aq ae kk_L1 af ag au av N ab ac ad ([]:List (R0×R0)) 0
  | ar :: aw,ag=>(Zn aa.2.2.1 ar).bind fun ax=>(Zn ae ar).bind fun ay=>(Zax N aa ab ac ad ah ai aj ak al am an ao ap aq ae kk_L1 af aw) (i64.wrap ((i64.wrap (ag * (ax.length:Int)))+ay))
termination_by structural x=>x
def Qb (N:Nat) (aa:R1):List Int→Bool→R2→R2→Bool→R2→R2→R2→Bool→R2→R2→Bool→R2→R2→R2→Option R6
  | [],ab,ac,ad,ae,af,ag,ai,aj,ak,al,am,an,ao,ah=>some (ah,(((ab,ac),ad),((ae,af),ag)),true)
  | ap :: aq,ab,ac,ad,ae,af,ag,ai,aj,ak,al,am,an,ao,ah=>(Zn aa.2.2.2.1 ap).bind fun ar=>Zax N aa ab ac ad ae af ag ai aj ak al am an ao ah (Qb N aa aq) ap ar 0
termination_by structural x=>x
def Zfj (N:Nat) (aa:R1) (ad:List Int) (ae:List Int):Option R6:=
  Z0 (aa.2.1.length * 8≤281474976710656∧aa.2.1.length≤maxLen) ((Qf N ([]:List R0)).bind fun ab=>(Qz).bind fun ac=>Qb N aa ad ab.1.1 ab.1.2 ab.2 ac.1.1 ac.1.2 ac.2 ae false ([]:List Int) ([]:List Int) false ([]:List Int) ([]:List Int) (List.replicate aa.2.1.length (0:Int)))
theorem Zx0 {N dy c5 dz c6 fm g3 fn:Nat} {d0 cr d1 ct a1 fp:Option Addr} {col:Zd} {w0:World} {ag:R1} {c7 em:R2} {r:R6} (c1 qc3:Nat) (hm:Zfj N ag c7 em=some r) (hqqc3:qc3≠0) (i4:Sl Za.str col w0 d0 dy ag.2.1) (cu:Sl (Za.slice Za.str) col w0 cr c5 ag.2.2.1) (ec:Sl (Za.slice (Za.int .i64)) col w0 d1 dz ag.2.2.2.1) (ed:Sl (Za.slice (Za.pair (Za.pair Za.bool (Za.slice (Za.int .u32))) (Za.slice (Za.int .u32)))) col w0 ct c6 ag.2.2.2.2) (h1:Sl (Za.int .i64) col w0 a1 fm c7) (en:Sl (Za.int .i64) col w0 fp fn em) (hb3:Zj 39 qc3 col w0 g3 #[.slice fp em.length fn]):
    Calls Tryz.prog 46 #[(.agg #[.string ag.1,.slice d0 ag.2.1.length dy,.slice cr ag.2.2.1.length c5,.slice d1 ag.2.2.2.1.length dz,.slice ct ag.2.2.2.2.length c6]),.slice a1 c7.length fm,(.func (.func 63) #[] #[.pointer (some ⟨g3,0,none⟩)])] w0 (fun e w'=>∃ (col':Zd) (ra1:Option Addr) (rc2:Nat) (ra4:Option Addr) (rc5:Nat) (ra7:Option Addr) (rc8:Nat) (ra10:Option Addr) (rc11:Nat) (ra13:Option Addr) (rc14:Nat),e= .returned (.tuple #[.slice ra1 r.1.length rc2,(.agg #[.bool r.2.1.1.1.1,.slice ra4 r.2.1.1.1.2.length rc5,.slice ra7 r.2.1.1.2.length rc8,.bool r.2.1.2.1.1,.slice ra10 r.2.1.2.1.2.length rc11,.slice ra13 r.2.1.2.2.length rc14]),.bool r.2.2])∧Zg col w0 col' w'∧Zb (Za.int .i64) 3 c1 col' w' ra1 rc2 r.1∧Sl (Za.int .u32) col' w' ra4 rc5 r.2.1.1.1.2∧Sl (Za.int .u32) col' w' ra7 rc8 r.2.1.1.2∧Sl (Za.int .u32) col' w' ra10 rc11 r.2.1.2.1.2∧Sl (Za.int .u32) col' w' ra13 rc14 r.2.1.2.2):=by
 refine Yw (m:=122) func46 rfl rfl rfl ?_;rw [Zfj.eq_1] at hm;have aa:=St.start col w0;replace hb3:=hb3.start0 hqqc3;refine go ?_;refine Xp (col:=(Zk col)) 1 rfl ?_;intro d2 i5 fv fq ab;refine T0 rfl<|Xa (col:=fv) #[.bool false,.slice none (([]:List Int).length) 0,.slice none (([]:List Int).length) 0,.bool false,.slice none (([]:List Int).length) 0,.slice none (([]:List Int).length) 0] 2 zeroValue55 ?_;intro eo fw fx ep ac;refine go ?_;refine Xo ⟨_,_,rfl⟩ ?_;replace ab:=ab.gr ep;refine lW ((ab.atN).nth (q:=1) rfl)<|go ?_;obtain ⟨fr,hm⟩:=Z2 hm;refine To (col:=fx) (w:=fw) (r:=(Za.int .i64)) (n:=ag.2.1.length) (x0:=0) 3 rfl underlying39 Tryz.t3 rfl rfl rfl rfl rfl rfl rfl fr.1 fr.2 (Se .i64 0) ?_;intro i6 i7 fy ee bu;refine go ?_;obtain ⟨eq,fz,hm⟩:=bZ hm;refine Zi (Ze0 (col:=fy) 4 5 fz Sl.nil) ?_;rintro _ i8 ⟨f0,f1,f2,f3,f4,rfl,d3,bv,bw⟩;refine ⟨_,rfl,?_⟩;obtain ⟨er,f5,hm⟩:=bZ hm;refine lc rfl rfl (S4 call42) (Zez (col:=f0) 6 7 f5:) ?_;rintro _ i9 ⟨f6,f7,f8,f9,ga,rfl,c8,bx,bz⟩;refine ⟨_,rfl,?_⟩;refine lV (.agg #[.bool eq.1.1,.slice f1 eq.1.2.length f2,.slice f3 eq.2.length f4,.bool er.1.1,.slice f7 er.1.2.length f8,.slice f9 er.2.length ga]) (Yi (l:=[_,_]) (qs:=[(0,3),(3,3)]) underlying55 zeroValue55 ⟨rfl,sizeOf35,rfl,sizeOf35,trivial⟩ rfl)<|Xa (col:=f6) #[.bool false,.slice none (([]:List Int).length) 0,.slice none (([]:List Int).length) 0,.bool false,.slice none (([]:List Int).length) 0,.slice none (([]:List Int).length) 0] 8 zeroValue55 ?_;intro es ja jb cg gb;refine Zu gb ?_;intro jc ch gc ad;refine go ?_;replace bu:=(((bu.gr d3).gr c8).gr cg).kp ch;replace bu:=bu.froz 4 (by decide);replace bv:=((bv.gr c8).gr cg).kp ch;replace bv:=(bv).toSlF (Ze.int .u32);replace bw:=((bw.gr c8).gr cg).kp ch;replace bw:=bw.froz 4 (by decide);replace bx:=(bx.gr cg).kp ch;replace bx:=bx.froz 4 (by decide);replace bz:=(bz.gr cg).kp ch;replace bz:=bz.froz 4 (by decide);replace hb3:=((((((hb3.gr fq).gr ep).gr ee).gr d3).gr c8).gr cg).kp ch;replace hb3:=hb3.froz 4 (by decide);replace ab:=((((ab.gr ee).gr d3).gr c8).gr cg).kp ch;replace ab:=ab.froz 4 (by decide);replace ac:=((((ac.gr ee).gr d3).gr c8).gr cg).kp ch;replace ac:=ac.froz 4 (by decide);replace ad:=ad.froz 4 (by decide)
 replace aa:=((((((aa.grow fq).grow ep).grow ee).grow d3).grow c8).grow cg).kp ch gc;replace aa:=aa.froz 4 (by decide) (by decide);replace bu:=bu.froz 5 (by decide);replace bv:=bv.froz 5;replace bw:=(bw).toSlF (Ze.int .u32);replace bx:=bx.froz 5 (by decide);replace bz:=bz.froz 5 (by decide);replace hb3:=hb3.froz 5 (by decide);replace ab:=ab.froz 5 (by decide);replace ac:=ac.froz 5 (by decide);replace ad:=ad.froz 5 (by decide);replace aa:=aa.froz 5 (by decide) (by decide);replace bu:=bu.froz 6 (by decide);replace bv:=bv.froz 6;replace bw:=bw.froz 6;replace bx:=(bx).toSlF (Ze.int .u32);replace bz:=bz.froz 6 (by decide);replace hb3:=hb3.froz 6 (by decide);replace ab:=ab.froz 6 (by decide);replace ac:=ac.froz 6 (by decide);replace ad:=ad.froz 6 (by decide);replace aa:=aa.froz 6 (by decide) (by decide);replace bu:=bu.froz 7 (by decide);replace bv:=bv.froz 7;replace bw:=bw.froz 7;replace bx:=bx.froz 7;replace bz:=(bz).toSlF (Ze.int .u32);replace hb3:=hb3.froz 7 (by decide);replace ab:=ab.froz 7 (by decide);replace ac:=ac.froz 7 (by decide);replace ad:=ad.froz 7 (by decide);replace aa:=aa.froz 7 (by decide) (by decide);replace en:=en.keep (Zl.start col w0)
 refine Z5 [10,2,29,3,30,7,1000000] (fun n f bh=>∃ a6 cv ci cj b0 ck cl b1 c9 cw cx b3 cy cz b4 c0 c2 b2 d4 da db dc b5 dd de b6 df dg dh b7 di dj b8 dl dm b9 d5,n=d5.length∧c7.drop d4=d5∧Qb N ag d5 cv b0 b1 c9 b3 b4 b2 da b5 b6 df b7 b8 b9=some r∧St w0 (Zk col) a6 bh∧Sl (Za.int .u32) a6 bh ci cj b0∧Sl (Za.int .u32) a6 bh ck cl b1∧Sl (Za.int .u32) a6 bh cw cx b3∧Sl (Za.int .u32) a6 bh cy cz b4∧Zj 55 8 a6 bh es #[.bool cv,.slice ci b0.length cj,.slice ck b1.length cl,.bool c9,.slice cw b3.length cx,.slice cy b4.length cz]∧Sl (Za.int .i64) a6 bh c0 c2 b2∧Zj 39 999 a6 bh g3 #[.slice c0 b2.length c2]∧Zj 27 1 a6 bh d2 #[.string ag.1,.slice d0 ag.2.1.length dy,.slice cr ag.2.2.1.length c5,.slice d1 ag.2.2.2.1.length dz,.slice ct ag.2.2.2.2.length c6]∧Zb (Za.int .u32) 77 9 a6 bh db dc b5∧Zb (Za.int .u32) 77 10 a6 bh dd de b6∧Zb (Za.int .u32) 77 11 a6 bh dg dh b7∧Zb (Za.int .u32) 77 12 a6 bh di dj b8∧Zj 55 2 a6 bh eo #[.bool da,.slice db b5.length dc,.slice dd b6.length de,.bool df,.slice dg b7.length dh,.slice di b8.length dj]∧Zb (Za.int .i64) 3 3 a6 bh dl dm b9∧[31,9].map f=[.int .i64 d4,.slice dl b9.length dm]) c7.length ⟨_,_,_,_,_,_,_,_,_,_,_,_,_,_,_,_,_,_,0,_,none,0,_,none,0,_,_,none,0,_,none,0,_,_,_,_,_,rfl,rfl,hm,aa,bv,bw,bx,bz,ad,(en.ks aa),hb3,ab,Zb.nil,Zb.nil,Zb.nil,Zb.nil,ac,bu,rfl⟩ ?_;clear hm;intro n f bh hI;obtain ⟨a6,cv,ci,cj,b0,ck,cl,b1,c9,cw,cx,b3,cy,cz,b4,c0,c2,b2,d4,da,db,dc,b5,dd,de,b6,df,dg,dh,b7,di,dj,b8,dl,dm,b9,d5,hn,hl,hm,aa,ai,aj,ak,al,ad,am,hb3,ab,an,ao,ap,aq,ac,ah,hs⟩:=hI;subst hn;refine .lL [31,9] hs ?_;replace cu:=cu.keep (Zl.start col w0);replace ec:=ec.keep (Zl.start col w0);replace ed:=ed.keep (Zl.start col w0);replace h1:=h1.keep (Zl.start col w0)
 cases d5 with
 | nil=>
  have hk:¬ ((d4:Int)<(c7.length:Int)):=by have:=List.drop_eq_nil_iff.1 hl;omega
  have hkb:=decide_eq_false hk;rw [Qb.eq_1] at hm;refine go ?_;refine X4 (congrArg Value.bool hkb)<|go ?_;refine Wb (col:=a6) [(0,1),(1,0),(2,1),(3,2),(4,1)] (by kernel_rfl) (by kernel_rfl)<|xu rfl rfl (fun _=>Ve rfl) ?_;refine xv rfl rfl (fun _ hC=>Z3 isAgg55 sizeOf55 (ad.gr (hC.bl a6))) ?_;refine xu rfl rfl (fun _=>Zjj rfl) ?_;refine xe rfl rfl ?_;intro jd hC0;have hC:=hC0.bl a6;replace ac:=ac.gr hC;refine Zu ac ?_;intro je dv gd et;refine Zm<|xk a6<|xu rfl rfl (fun _=>Zjh rfl) ?_;refine Yz ?_;replace ai:=(ai.gr hC).kp dv;replace aj:=(aj.gr hC).kp dv;replace ak:=(ak.gr hC).kp dv;replace al:=(al.gr hC).kp dv;replace ah:=(ah.gr hC).kp dv;replace aa:=(aa.grow hC).kp dv gd;intro jf hC;replace hC:=hC.bl a6;refine Wx ?_;cases hm;replace ai:=ai.gr hC;replace aj:=aj.gr hC;replace ak:=ak.gr hC;replace al:=al.gr hC;replace ah:=ah.gr hC;replace et:=et.gr hC;replace aa:=aa.grow hC;exact ⟨rfl,_,Zhb rfl rfl rfl rfl isAgg55 sizeOf55 rfl rfl et.atN rfl rfl,_,_,_,_,_,_,_,_,_,_,_,rfl,aa.fin (cm [(3,c1)]),aa.fo ah,aa.fs ai,aa.fs aj,aa.fs ak,aa.fs al⟩
 | cons c3 eu=>
  obtain ⟨dn,ge,gf⟩:=Yg hl;have hk:(d4:Int)<(c7.length:Int):=by omega
  have hkb:=decide_eq_true hk;rw [Qb.eq_2] at hm;refine go ?_;refine X9 (congrArg Value.bool hkb)<|go ?_;refine lI dn ((h1.ks aa).addr dn)<|lW ((h1.ks aa).atInt dn) ?_;refine go ?_;refine Xw ab<|Ya rfl ?_;obtain ⟨d6,ew,hm⟩:=bZ hm;refine lI ew ((ec.ks aa).addr ew) ?_;obtain ⟨_,gg,gh⟩:=(ec.ks aa).atN ew;obtain ⟨⟨gi,gj,rfl,c4⟩,_⟩:=gg;refine lW gh.one<|go ?_;refine Z5 [10,12,2,29,3,30,31,39,40,7,9,1000000] (fun n f be=>∃ a2 ca d7 d8,n=d8.length∧d6.drop d7=d8∧Zax N ag cv b0 b1 c9 b3 b4 b2 da b5 b6 df b7 b8 b9 (Qb N ag eu) c3 d8 ca=some r∧St w0 (Zk col) a2 be∧Sl (Za.int .u32) a2 be ci cj b0∧Sl (Za.int .u32) a2 be ck cl b1∧Sl (Za.int .u32) a2 be cw cx b3∧Sl (Za.int .u32) a2 be cy cz b4∧Zj 55 8 a2 be es #[.bool cv,.slice ci b0.length cj,.slice ck b1.length cl,.bool c9,.slice cw b3.length cx,.slice cy b4.length cz]∧Sl (Za.int .i64) a2 be c0 c2 b2∧Zj 39 999 a2 be g3 #[.slice c0 b2.length c2]∧Zj 27 1 a2 be d2 #[.string ag.1,.slice d0 ag.2.1.length dy,.slice cr ag.2.2.1.length c5,.slice d1 ag.2.2.2.1.length dz,.slice ct ag.2.2.2.2.length c6]∧Sl (Za.int .i64) a2 be gi gj d6∧Zb (Za.int .u32) 77 9 a2 be db dc b5∧Zb (Za.int .u32) 77 10 a2 be dd de b6∧Zb (Za.int .u32) 77 11 a2 be dg dh b7∧Zb (Za.int .u32) 77 12 a2 be di dj b8∧Zj 55 2 a2 be eo #[.bool da,.slice db b5.length dc,.slice dd b6.length de,.bool df,.slice dg b7.length dh,.slice di b8.length dj]∧Zb (Za.int .i64) 3 3 a2 be dl dm b9∧[41,13].map f=[.int .i64 d7,.int .i64 ca]) d6.length ⟨_,0,0,_,rfl,rfl,hm,aa,ai,aj,ak,al,ad,am,hb3,ab,c4,an,ao,ap,aq,ac,ah,rfl⟩ ?_;clear hm;intro n f be hI;obtain ⟨a2,ca,d7,d8,hn,hl,hm,aa,ai,aj,ak,al,ad,am,hb3,ab,c4,an,ao,ap,aq,ac,ah,hs⟩:=hI;subst hn;refine .lL [41,13] hs ?_
  cases d8 with
  | nil=>
   have hk:¬ ((d7:Int)<(d6.length:Int)):=by have:=List.drop_eq_nil_iff.1 hl;omega
   have hkb:=decide_eq_false hk;rw [Zax.eq_1] at hm;refine go ?_;refine X4 (congrArg Value.bool hkb)<|go ?_;refine Xo ⟨_,_,rfl⟩ ?_;refine lV (.agg #[.bool c9,.slice cw b3.length cx,.slice cy b4.length cz]) (Xc isAgg35 sizeOf35 rfl rfl ((ad.atN).part 3 3 _ rfl))<|Xo ⟨_,_,rfl⟩ ?_;refine lV (.agg #[.bool cv,.slice ci b0.length cj,.slice ck b1.length cl]) (Xc isAgg35 sizeOf35 rfl rfl ((ad.atN).part 0 3 _ rfl)) ?_;obtain ⟨cn,gk,hm⟩:=bZ hm;refine Zi (Zho 13 14 gk ak al ai aj) ?_;rintro _ jg ⟨gl,ey,ez,e0,e1,rfl,bj,a9,ba⟩;refine ⟨_,rfl,?_⟩;refine Xa (col:=gl) #[.bool false,.slice none (([]:List Int).length) 0,.slice none (([]:List Int).length) 0] 15 zeroValue35 ?_;intro gm jh gp bf gs;refine Zu gs ?_;intro ji bg gt a3;refine go ?_;refine Xo ⟨_,_,rfl⟩ ?_;replace ad:=((ad.gr bj).gr bf).kp bg;refine lV (.agg #[.bool cv,.slice ci b0.length cj,.slice ck b1.length cl]) (Xc isAgg35 sizeOf35 rfl rfl ((ad.atN).part 0 3 _ rfl))<|Xa (col:=gp) #[.bool false,.slice none (([]:List Int).length) 0,.slice none (([]:List Int).length) 0] 16 zeroValue35 ?_;intro gu jj jk bc gv;refine Zu gv ?_;intro jl bd gw a7;refine go ?_;refine Xo ⟨_,_,rfl⟩ ?_;replace ab:=((((ab.gr bj).gr bf).kp bg).gr bc).kp bd;refine lW ((ab.atN).nth (q:=2) rfl)<|Ya rfl ?_;obtain ⟨gx,e2,hm⟩:=bZ hm;replace aa:=((((aa.grow bj).grow bf).kp bg gt).grow bc).kp bd gw;refine lI e2 ((cu.ks aa).addr e2) ?_;obtain ⟨_,gy,gz⟩:=(cu.ks aa).atN e2;obtain ⟨⟨jm,jn,rfl,jo⟩,_⟩:=gy;refine lW gz.one<|go ?_;replace ai:=((((ai.gr bj).gr bf).kp bg).gr bc).kp bd;replace aj:=((((aj.gr bj).gr bf).kp bg).gr bc).kp bd;replace ak:=((((ak.gr bj).gr bf).kp bg).gr bc).kp bd;replace al:=((((al.gr bj).gr bf).kp bg).gr bc).kp bd;replace am:=((((am.gr bj).gr bf).kp bg).gr bc).kp bd;replace an:=((((an.gr bj).gr bf).kp bg).gr bc).kp bd;replace ao:=((((ao.gr bj).gr bf).kp bg).gr bc).kp bd;replace ap:=((((ap.gr bj).gr bf).kp bg).gr bc).kp bd;replace aq:=((((aq.gr bj).gr bf).kp bg).gr bc).kp bd;replace ah:=((((ah.gr bj).gr bf).kp bg).gr bc).kp bd;replace hb3:=((((hb3.gr bj).gr bf).kp bg).gr bc).kp bd
   replace ac:=((((ac.gr bj).gr bf).kp bg).gr bc).kp bd;replace a9:=(((a9.gr bf).kp bg).gr bc).kp bd;replace ba:=(((ba.gr bf).kp bg).gr bc).kp bd;replace ad:=(ad.gr bc).kp bd;replace a3:=(a3.gr bc).kp bd;refine Z5 [10,12,13,16,17,2,29,3,30,31,7,71,9,1000000] (fun n f af=>∃ ae cb dp dq cc dr ds cd ef eg d9 dt dw,dw=n∧Zdk N ag b2 da b5 b6 df b7 b8 b9 (Qb N ag eu) c3 ca cn gx dw cb cc cd d9 dt=some r∧St w0 (Zk col) ae af∧Sl (Za.int .u32) ae af ci cj b0∧Sl (Za.int .u32) ae af ck cl b1∧Sl (Za.int .u32) ae af cw cx b3∧Sl (Za.int .u32) ae af cy cz b4∧Zj 55 8 ae af es #[.bool cv,.slice ci b0.length cj,.slice ck b1.length cl,.bool c9,.slice cw b3.length cx,.slice cy b4.length cz]∧Zb (Za.int .u32) 77 13 ae af ey ez cn.1.2∧Zb (Za.int .u32) 77 14 ae af e0 e1 cn.2∧Zj 35 15 ae af gm #[.bool cn.1.1,.slice ey cn.1.2.length ez,.slice e0 cn.2.length e1]∧Sl (Za.int .u32) ae af dp dq cc∧Sl (Za.int .u32) ae af dr ds cd∧Zj 35 16 ae af gu #[.bool cb,.slice dp cc.length dq,.slice dr cd.length ds]∧Zb (Za.pair (Za.pair (Za.pair Za.bool (Za.slice (Za.int .u32))) (Za.slice (Za.int .u32))) (Za.pair (Za.pair Za.bool (Za.slice (Za.int .u32))) (Za.slice (Za.int .u32)))) 55 17 ae af ef eg d9∧Sl (Za.int .i64) ae af c0 c2 b2∧Zj 39 999 ae af g3 #[.slice c0 b2.length c2]∧Zj 27 1 ae af d2 #[.string ag.1,.slice d0 ag.2.1.length dy,.slice cr ag.2.2.1.length c5,.slice d1 ag.2.2.2.1.length dz,.slice ct ag.2.2.2.2.length c6]∧Zb (Za.int .u32) 77 9 ae af db dc b5∧Zb (Za.int .u32) 77 10 ae af dd de b6∧Zb (Za.int .u32) 77 11 ae af dg dh b7∧Zb (Za.int .u32) 77 12 ae af di dj b8∧Zj 55 2 ae af eo #[.bool da,.slice db b5.length dc,.slice dd b6.length de,.bool df,.slice dg b7.length dh,.slice di b8.length dj]∧Zb (Za.int .i64) 3 3 ae af dl dm b9∧[18,72].map f=[.slice ef d9.length eg,.int .i64 dt]) N ⟨_,_,_,_,_,_,_,_,none,0,_,0,_,rfl,hm,aa,ai,aj,ak,al,ad,a9,ba,a3,ai,aj,a7,Zb.nil,am,hb3,ab,an,ao,ap,aq,ac,ah,rfl⟩ ?_;clear hm;intro n f af hI
   obtain ⟨ae,cb,dp,dq,cc,dr,ds,cd,ef,eg,d9,dt,dw,hn,hm,aa,ai,aj,ak,al,ad,a9,ba,a3,bm,bn,a7,bb,am,hb3,ab,an,ao,ap,aq,ac,ah,hs⟩:=hI;subst hn;refine .lL [18,72] hs ?_
   cases dw with
   | zero=>rw [Zdk.eq_1] at hm;cases hm
   | succ dw=>
    rw [Zdk.eq_2] at hm;refine go ?_;refine Zp hm (fun hb hm=>go ?_) fun hb hm=>go ?_
    ·have a4:=Zt.clip (fun _=>false) ae af;refine Zer (col:=ae) [(0,0),(1,0),(2,1),(3,0),(4,1),(5,1),(6,0),(7,1),(8,1),(9,0),(10,1),(11,1),(12,0),(13,1),(14,1),(15,1),(16,1),(17,1),(18,0),(19,3),(20,3),(21,4),(22,2)] (by kernel_rfl) (by kernel_rfl) ⟨fun h=>absurd h (by decide),fun h=>absurd h (by decide),fun h=>absurd h (by decide),fun h=>absurd h (by decide),fun h=>absurd h (by decide),fun h=>absurd h (by decide),fun h=>absurd h (by decide),fun h=>absurd h (by decide),fun h=>absurd h (by decide),fun h=>absurd h (by decide),fun h=>absurd h (by decide),fun h=>absurd h (by decide),fun h=>absurd h (by decide),fun h=>absurd h (by decide),fun h=>absurd h (by decide),fun h=>absurd h (by decide),fun h=>absurd h (by decide),fun h=>absurd h (by decide),fun h=>absurd h (by decide),fun h=>absurd h (by decide),fun h=>absurd h (by decide),fun _=>⟨_,_,_,rfl,Uv zeroValue35⟩,fun h=>absurd h (by decide),trivial⟩ ?_;replace a7:=a7.kpp a4;refine Wc (v:=(.agg #[.bool cb,.slice dp cc.length dq,.slice dr cd.length ds])) rfl rfl (fun _ hC=>Xc isAgg35 sizeOf35 rfl rfl (a7.atN.gr (hC.bl (Zh af ae)))) ?_;replace a3:=a3.kpp a4;refine Wc (v:=(.agg #[.bool cn.1.1,.slice ey cn.1.2.length ez,.slice e0 cn.2.length e1])) rfl rfl (fun _ hC=>Xc isAgg35 sizeOf35 rfl rfl (a3.atN.gr (hC.bl (Zh af ae)))) ?_;refine X5 (v:=(.pointer ((some (⟨d2,0,none⟩:Addr)).map (·.add 4)))) rfl rfl (fun _=>Uq (sz:=1) (off:=4) underlying27 rfl sizeOf25 (by decide) rfl rfl ⟨_,_,rfl⟩) ?_;replace ab:=ab.kpp a4;refine Wc (v:=(.slice ct ag.2.2.2.2.length c6)) rfl rfl (fun _ hC=>Uz isAgg25 rfl (((ab.atN).nth (q:=4) (v:=(.slice ct ag.2.2.2.2.length c6)) rfl).gr (hC.bl (Zh af ae)))) ?_;refine X5 (v:=(.int .i64 c3)) rfl rfl (fun _=>Wg rfl) ?_;obtain ⟨g0,eh,hm⟩:=bZ hm;replace aa:=aa.kpp a4;refine X5 (v:=(Xy ct (Int.toNat c3 * 1))) rfl rfl (fun _=>Y4 underlying25 sizeOf71 rfl rfl (Xh eh).1 (Xh eh).2.1 ((ed.ks aa).addr eh)) ?_;obtain ⟨_,g1,g2⟩:=(ed.ks aa).atN eh;obtain ⟨⟨ft,g4,rfl,fu⟩,_⟩:=g1;refine Wc (v:=(.slice ft g0.length g4)) rfl rfl (fun _ hC=>Uz isAgg71 rfl (g2.one.gr (hC.bl (Zh af ae)))) ?_;refine X5 (v:=(.int .i64 ca)) rfl rfl (fun _=>Wg rfl) ?_;refine X5 (v:=(.pointer ((some (⟨d2,0,none⟩:Addr)).map (·.add 2)))) rfl rfl (fun _=>Uq (sz:=1) (off:=2) underlying27 rfl sizeOf23 (by decide) rfl rfl ⟨_,_,rfl⟩) ?_
     refine Wc (v:=(.slice cr ag.2.2.1.length c5)) rfl rfl (fun _ hC=>Uz isAgg23 rfl (((ab.atN).nth (q:=2) (v:=(.slice cr ag.2.2.1.length c5)) rfl).gr (hC.bl (Zh af ae)))) ?_;refine X5 (v:=(.int .i64 c3)) rfl rfl (fun _=>Wg rfl) ?_;obtain ⟨du,ei,hm⟩:=bZ hm;refine X5 (v:=(Xy cr (Int.toNat c3 * 1))) rfl rfl (fun _=>Y4 underlying23 sizeOf22 rfl rfl (Xh ei).1 (Xh ei).2.1 ((cu.ks aa).addr ei)) ?_;obtain ⟨_,g5,g6⟩:=(cu.ks aa).atN ei;obtain ⟨⟨g7,g8,rfl,jp⟩,_⟩:=g5;refine Wc (v:=(.slice g7 du.length g8)) rfl rfl (fun _ hC=>Uz isAgg22 rfl (g6.one.gr (hC.bl (Zh af ae)))) ?_;refine X5 (v:=(.int .i64 du.length)) rfl rfl (fun _=>Qp underlying22 rfl) ?_;refine X5 (v:=(.int .i64 (i64.wrap (ca * (du.length:Int))))) rfl rfl (fun _=>Zc2 ca (du.length:Int) rfl rfl) ?_;refine X5 (v:=(.int .i64 dt)) rfl rfl (fun _=>Wg rfl) ?_;refine X5 (v:=(.int .i64 (i64.wrap ((i64.wrap (ca * (du.length:Int)))+dt)))) rfl rfl (fun _=>Sd (i64.wrap (ca * (du.length:Int))) dt rfl rfl) ?_;obtain ⟨e3,ej,hm⟩:=bZ hm;refine X5 (v:=(Xy ft (Int.toNat (i64.wrap ((i64.wrap (ca * (du.length:Int)))+dt)) * 3))) rfl rfl (fun _=>Y4 underlying71 sizeOf35 rfl rfl (Xh ej).1 (Xh ej).2.1 (fu.addr ej)) ?_;obtain ⟨_,g9,ha⟩:=fu.atN ej;obtain ⟨_,_,rfl,hc,hd⟩:=We g9;obtain ⟨_,_,rfl,he,hf⟩:=We hc;obtain ⟨rfl,_⟩:=he;obtain ⟨⟨hg,hh,rfl,e4⟩,_⟩:=hf;obtain ⟨⟨hi,hj,rfl,e5⟩,_⟩:=hd;refine Wc (v:=(.agg #[.bool e3.1.1,.slice hg e3.1.2.length hh,.slice hi e3.2.length hj])) rfl rfl (fun _ hC=>Xc isAgg35 sizeOf35 rfl rfl (ha.gr (hC.bl (Zh af ae)))) ?_;refine Wy rfl rfl ?_;intro ho hC0;have hC:=hC0.bl (Zh af ae);obtain ⟨jq,hp,hm⟩:=bZ hm;replace a9:=(a9.kpp a4).gr hC;replace ba:=(ba.kpp a4).gr hC;replace e4:=e4.gr hC;replace e5:=e5.gr hC;refine Zi (Zbt 18 19 hp ((a9.toSlF (Ze.int .u32)).froz 14) ((ba.froz 13 (by decide)).toSlF (Ze.int .u32)) ((e4.froz 13).froz 14) ((e5.froz 13).froz 14)) ?_;rintro _ ce ⟨hq,jr,js,jt,ju,rfl,ar,ea,eb⟩;refine ⟨_,rfl,?_⟩;replace ea:=ea.thaw (Zs .u32) ar (((Fz.refl (col:=(Zh af ae))).froz 13).froz 14) (by decide)
     replace eb:=eb.thaw (Zs .u32) ar (((Fz.refl (col:=(Zh af ae))).froz 13).froz 14) (by decide);replace ar:=ar.thawR (col:=(Zh af ae));generalize Z1 ho.heap.size (Zh af ae) hq=co at *;refine Zm ?_;refine ⟨fun w'=>Zg (Zh ce co) ce (Zh ce co) w',fun g=>(Zh ce co) g=497,Zg.refl _ _,Wj,fun _=>⟨fun _ h=>Vp hC0 ar h,fun b hb=>ar.below.block b hb,fun g x1 x2=>Vu ar g x1 (by first | exact x2 | (simp only [Xf,x2];rfl) | (simp only [Xf,Xb,x2];rfl))⟩,?_⟩;have aw:=Zt.clip (fun _=>false) co ce;refine Wy rfl rfl ?_;intro hr hC0;replace ai:=(((ai.kpp a4).gr hC).gr ar).kpp aw;replace aj:=(((aj.kpp a4).gr hC).gr ar).kpp aw;replace ak:=(((ak.kpp a4).gr hC).gr ar).kpp aw;replace al:=(((al.kpp a4).gr hC).gr ar).kpp aw;replace bm:=(((bm.kpp a4).gr hC).gr ar).kpp aw;replace bn:=(((bn.kpp a4).gr hC).gr ar).kpp aw;replace bb:=(((bb.kpp a4).gr hC).gr ar).kpp aw;replace am:=(((am.kpp a4).gr hC).gr ar).kpp aw;replace an:=(((an.kpp a4).gr hC).gr ar).kpp aw;replace ao:=(((ao.kpp a4).gr hC).gr ar).kpp aw;replace ap:=(((ap.kpp a4).gr hC).gr ar).kpp aw;replace aq:=(((aq.kpp a4).gr hC).gr ar).kpp aw;replace ah:=(((ah.kpp a4).gr hC).gr ar).kpp aw;replace ad:=(((ad.kpp a4).gr hC).gr ar).kpp aw;replace hb3:=(((hb3.kpp a4).gr hC).gr ar).kpp aw;replace ac:=(((ac.kpp a4).gr hC).gr ar).kpp aw;replace a3:=((a3.gr hC).gr ar).kpp aw;replace a7:=((a7.gr hC).gr ar).kpp aw;replace ab:=((ab.gr hC).gr ar).kpp aw;replace aa:=((aa.grow hC).grow ar).kpp aw;have hC:=hC0.bl (Zh ce co);obtain ⟨bi,ht,hm⟩:=bZ hm;replace ea:=(ea.kpp aw).gr hC;replace eb:=(eb.kpp aw).gr hC;replace bm:=bm.gr hC;replace bn:=bn.gr hC;refine Zi (Zam 20 21 ht ((bm.froz 18).froz 19) ((bn.froz 18).froz 19) ((ea.toSlF (Ze.int .u32)).froz 19) ((eb.froz 18 (by decide)).toSlF (Ze.int .u32))) ?_;rintro _ bk ⟨hu,e6,e7,e8,e9,rfl,au,bo,bp⟩;refine ⟨_,rfl,?_⟩;replace bo:=bo.thaw (Zs .u32) au (((Fz.refl (col:=(Zh ce co))).froz 18).froz 19) (by decide);replace bp:=bp.thaw (Zs .u32) au (((Fz.refl (col:=(Zh ce co))).froz 18).froz 19) (by decide);replace au:=au.thawR (col:=(Zh ce co))
     generalize Z1 hr.heap.size (Zh ce co) hu=bq at *;refine Zm ?_;refine ⟨fun w'=>Zg (Zh bk bq) bk (Zh bk bq) w',fun g=>(Zh bk bq) g=497,Zg.refl _ _,Wj,fun _=>⟨fun _ h=>Vp hC0 au h,fun b hb=>au.below.block b hb,fun g x1 x2=>Vu au g x1 (by first | exact x2 | (simp only [Xf,x2];rfl) | (simp only [Xf,Xb,x2];rfl))⟩,?_⟩;have ax:=Zt.clip (fun _=>false) bq bk;refine Zc7 rfl rfl (Uv zeroValue35) ?_;intro cp hv;refine Wy rfl rfl ?_;intro hw ⟨hC0,hZ0⟩;replace a9:=((((a9.gr ar).kpp aw).gr hC).gr au).kpp ax;replace ba:=((((ba.gr ar).kpp aw).gr hC).gr au).kpp ax;replace ai:=((ai.gr hC).gr au).kpp ax;replace aj:=((aj.gr hC).gr au).kpp ax;replace ak:=((ak.gr hC).gr au).kpp ax;replace al:=((al.gr hC).gr au).kpp ax;replace bb:=((bb.gr hC).gr au).kpp ax;replace am:=((am.gr hC).gr au).kpp ax;replace an:=((an.gr hC).gr au).kpp ax;replace ao:=((ao.gr hC).gr au).kpp ax;replace ap:=((ap.gr hC).gr au).kpp ax;replace aq:=((aq.gr hC).gr au).kpp ax;replace ah:=((ah.gr hC).gr au).kpp ax;replace ad:=((ad.gr hC).gr au).kpp ax;replace a3:=((a3.gr hC).gr au).kpp ax;replace a7:=((a7.gr hC).gr au).kpp ax;replace hb3:=((hb3.gr hC).gr au).kpp ax;replace ab:=((ab.gr hC).gr au).kpp ax;replace ac:=((ac.gr hC).gr au).kpp ax;replace aa:=((aa.grow hC).grow au).kpp ax;have hC:=hC0.bl (Zh bk bq);obtain ⟨ay,fa⟩:=Zbr (col:=(Zh bk bq)) 22 hZ0 hv;replace fa:Zj 35 22 (Z7 cp 22 (Zh bk bq)) hw cp #[.bool false,.slice none (([]:List Int).length) 0,.slice none (([]:List Int).length) 0]:=fa;refine Zu fa ?_;intro cq az hx cf;refine Zm ?_;refine ⟨fun w'=>Zg (Zh cq (Z7 cp 22 (Zh bk bq))) cq (Zh cq (Z7 cp 22 (Zh bk bq))) w',fun g=>(Zh cq (Z7 cp 22 (Zh bk bq))) g=497,Zg.refl _ _,Wj,fun h=>absurd h (by decide),?_⟩;have av:=Zt.clip (fun _=>false) (Z7 cp 22 (Zh bk bq)) cq;refine Zet ?_;replace bm:=(((((bm.gr au).kpp ax).gr hC).kpp ay).kp az).kpp av;replace bn:=(((((bn.gr au).kpp ax).gr hC).kpp ay).kp az).kpp av;replace bo:=((((bo.kpp ax).gr hC).kpp ay).kp az).kpp av;replace bp:=((((bp.kpp ax).gr hC).kpp ay).kp az).kpp av;replace ai:=(((ai.gr hC).kpp ay).kp az).kpp av;replace aj:=(((aj.gr hC).kpp ay).kp az).kpp av
     replace ak:=(((ak.gr hC).kpp ay).kp az).kpp av;replace al:=(((al.gr hC).kpp ay).kp az).kpp av;replace a9:=(((a9.gr hC).kpp ay).kp az).kpp av;replace ba:=(((ba.gr hC).kpp ay).kp az).kpp av;replace bb:=(((bb.gr hC).kpp ay).kp az).kpp av;replace am:=(((am.gr hC).kpp ay).kp az).kpp av;replace an:=(((an.gr hC).kpp ay).kp az).kpp av;replace ao:=(((ao.gr hC).kpp ay).kp az).kpp av;replace ap:=(((ap.gr hC).kpp ay).kp az).kpp av;replace aq:=(((aq.gr hC).kpp ay).kp az).kpp av;replace ah:=(((ah.gr hC).kpp ay).kp az).kpp av;replace ad:=(((ad.gr hC).kpp ay).kp az).kpp av;replace a3:=(((a3.gr hC).kpp ay).kp az).kpp av;replace a7:=(((a7.gr hC).kpp ay).kp az).kpp av;replace hb3:=(((hb3.gr hC).kpp ay).kp az).kpp av;replace ab:=(((ab.gr hC).kpp ay).kp az).kpp av;replace ac:=(((ac.gr hC).kpp ay).kp az).kpp av;replace aa:=(((aa.grow hC).kpp ay).kp az hx).kpp av;intro hy hC;replace hC:Zg (Zh cq (Z7 cp 22 (Zh bk bq))) cq (Zh cq (Z7 cp 22 (Zh bk bq))) hy:=.of_below hC.below;refine go ?_;replace a7:=a7.gr hC;refine lV _ (Z3 isAgg35 sizeOf35 a7) ?_;replace cf:=(cf.kpp av).gr hC;refine lV _ (Z3 isAgg35 sizeOf35 cf)<|lV (.agg #[.bool cb,.slice dp cc.length dq,.slice dr cd.length ds,.bool bi.1.1,.slice e6 bi.1.2.length e7,.slice e8 bi.2.length e9]) (Yi (l:=[_,_]) (qs:=[(0,3),(3,3)]) underlying55 zeroValue55 ⟨rfl,sizeOf35,rfl,sizeOf35,trivial⟩ rfl) ?_;replace ai:=ai.gr hC;replace ai:=ai.froz 21;replace aj:=aj.gr hC;replace aj:=aj.froz 21;replace ak:=ak.gr hC;replace ak:=ak.froz 21;replace al:=al.gr hC;replace al:=al.froz 21;replace a9:=a9.gr hC;replace a9:=a9.froz 21 (by decide);replace ba:=ba.gr hC;replace ba:=ba.froz 21 (by decide);replace bm:=bm.gr hC;replace bm:=bm.froz 21;replace bn:=bn.gr hC;replace bn:=bn.froz 21;replace am:=am.gr hC;replace am:=am.froz 21;replace an:=an.gr hC;replace an:=an.froz 21 (by decide);replace ao:=ao.gr hC;replace ao:=ao.froz 21 (by decide);replace ap:=ap.gr hC;replace ap:=ap.froz 21 (by decide);replace aq:=aq.gr hC;replace aq:=aq.froz 21 (by decide);replace ah:=ah.gr hC;replace ah:=ah.froz 21 (by decide);replace bo:=bo.gr hC;replace bo:=bo.froz 21 (by decide);replace bp:=bp.gr hC;replace bp:=(bp).toSlF (Ze.int .u32);replace bb:=bb.gr hC
     replace bb:=bb.froz 21 (by decide);replace ad:=ad.gr hC;replace ad:=ad.froz 21 (by decide);replace a3:=a3.gr hC;replace a3:=a3.froz 21 (by decide);replace a7:=a7.froz 21 (by decide);replace hb3:=hb3.gr hC;replace hb3:=hb3.froz 21 (by decide);replace ab:=ab.gr hC;replace ab:=ab.froz 21 (by decide);replace ac:=ac.gr hC;replace ac:=ac.froz 21 (by decide);replace cf:=cf.froz 21 (by decide);replace aa:=aa.grow hC;replace aa:=aa.froz 21 (by decide) (by decide);replace ai:=ai.froz 20;replace aj:=aj.froz 20;replace ak:=ak.froz 20;replace al:=al.froz 20;replace a9:=a9.froz 20 (by decide);replace ba:=ba.froz 20 (by decide);replace bm:=bm.froz 20;replace bn:=bn.froz 20;replace am:=am.froz 20;replace an:=an.froz 20 (by decide);replace ao:=ao.froz 20 (by decide);replace ap:=ap.froz 20 (by decide);replace aq:=aq.froz 20 (by decide);replace ah:=ah.froz 20 (by decide);replace bo:=(bo).toSlF (Ze.int .u32);replace bp:=bp.froz 20;replace bb:=bb.froz 20 (by decide);replace ad:=ad.froz 20 (by decide);replace a3:=a3.froz 20 (by decide);replace a7:=a7.froz 20 (by decide);replace hb3:=hb3.froz 20 (by decide);replace ab:=ab.froz 20 (by decide);replace ac:=ac.froz 20 (by decide);replace cf:=cf.froz 20 (by decide);replace aa:=aa.froz 20 (by decide) (by decide);refine Tn (col:=(Xf 20 (Xf 21 (Zh cq (Z7 cp 22 (Zh bk bq)))))) (r:=(Za.pair (Za.pair (Za.pair Za.bool (Za.slice (Za.int .u32))) (Za.slice (Za.int .u32))) (Za.pair (Za.pair Za.bool (Za.slice (Za.int .u32))) (Za.slice (Za.int .u32))))) (xs:=[(((cb,cc),cd),((bi.1.1,bi.1.2),bi.2))]) [(.agg #[.bool cb,.slice dp cc.length dq,.slice dr cd.length ds,.bool bi.1.1,.slice e6 bi.1.2.length e7,.slice e8 bi.2.length e9])] 23 (Y3.ofF (Rows.consF (r:=(Za.pair (Za.pair (Za.pair Za.bool (Za.slice (Za.int .u32))) (Za.slice (Za.int .u32))) (Za.pair (Za.pair Za.bool (Za.slice (Za.int .u32))) (Za.slice (Za.int .u32))))) (x:=(((cb,cc),cd),((bi.1.1,bi.1.2),bi.2))) (cs:=[.bool cb,.slice dp cc.length dq,.slice dr cd.length ds,.bool bi.1.1,.slice e6 bi.1.2.length e7,.slice e8 bi.2.length e9]) (Vk (Vk (Vk (Ue cb) (Uf bm)) (Uf bn)) (Vk (Vk (Ue bi.1.1) (Uf bo)) (Uf bp))) Rows.nil0)) ?_;intro jv jw jx a0 hz;obtain ⟨h0,hm⟩:=Z2 hm;replace bb:=bb.gr a0
     refine Vv bb (hz.srcN (NB.pair (NB.pair (NB.pair NB.bool NB.slice) NB.slice) (NB.pair (NB.pair NB.bool NB.slice) NB.slice))) h0 ?_;intro jy jz j0 j1 a5 fb;refine go ?_;replace cf:=(cf.gr a0).kpp a5;refine lV _ (Z3 isAgg35 sizeOf35 cf) ?_;replace a7:=(a7.gr a0).kpp a5;refine Zu a7 ?_;intro j2 a8 h2 h3;refine go ?_;replace ai:=((ai.gr a0).kpp a5).kp a8;replace aj:=((aj.gr a0).kpp a5).kp a8;replace ak:=((ak.gr a0).kpp a5).kp a8;replace al:=((al.gr a0).kpp a5).kp a8;replace a9:=((a9.gr a0).kpp a5).kp a8;replace ba:=((ba.gr a0).kpp a5).kp a8;replace am:=((am.gr a0).kpp a5).kp a8;replace an:=((an.gr a0).kpp a5).kp a8;replace ao:=((ao.gr a0).kpp a5).kp a8;replace ap:=((ap.gr a0).kpp a5).kp a8;replace aq:=((aq.gr a0).kpp a5).kp a8;replace ah:=((ah.gr a0).kpp a5).kp a8;replace bo:=((bo.gr a0).kpp a5).kp a8;replace bp:=((bp.gr a0).kpp a5).kp a8;replace ad:=((ad.gr a0).kpp a5).kp a8;replace a3:=((a3.gr a0).kpp a5).kp a8;replace hb3:=((hb3.gr a0).kpp a5).kp a8;replace ab:=((ab.gr a0).kpp a5).kp a8;replace ac:=((ac.gr a0).kpp a5).kp a8;replace aa:=((aa.grow a0).kpp a5).kp a8 h2;replace fb:=fb.kp a8;exact ⟨dw,by omega,rfl,⟨_,_,_,_,_,_,_,_,_,_,_,_,_,rfl,hm,aa,ai,aj,ak,al,ad,a9,ba,a3,bo,bp,h3,fb,am,hb3,ab,an,ao,ap,aq,ac,ah,rfl⟩⟩
    refine lM (.func (.func 63) #[] #[.pointer (some ⟨g3,0,none⟩)])<|go ?_;obtain ⟨fc,h4,hm⟩:=bZ hm;refine lc rfl rfl (Zpm call63 rfl rfl rfl) (Zxy (Xf 17 ae) _ 999 (by decide) c3 ef eg d9 g3 b2 c0 c2 (bb.toSlF (Ze.pair (Ze.pair (Ze.pair Ze.bool Ze.slice) Ze.slice) (Ze.pair (Ze.pair Ze.bool Ze.slice) Ze.slice))) (am.froz 17) (hb3.froz 17 (by decide)) fc h4) ?_;rintro _ h5 ⟨rfl,br⟩;refine ⟨_,rfl,?_⟩;replace br:Zg ae af ae h5:=.of_below br;refine go ?_;replace bb:=bb.gr br;replace am:=am.gr br;replace an:=an.gr br;replace ao:=ao.gr br;replace ap:=ap.gr br;replace aq:=aq.gr br;replace ah:=ah.gr br;replace ad:=ad.gr br;replace hb3:=hb3.gr br;replace ab:=ab.gr br;replace ac:=ac.gr br;replace aa:=aa.grow br;refine Zp hm (fun hb hm=>go ?_) fun hb hm=>go ?_
    ·refine lV (.agg #[.bool false,.slice none (([]:List Int).length) 0,.slice none (([]:List Int).length) 0,.bool false,.slice none (([]:List Int).length) 0,.slice none (([]:List Int).length) 0]) (Yi (l:=[_,_]) (qs:=[(0,3),(3,3)]) underlying55 zeroValue55 ⟨rfl,sizeOf35,rfl,sizeOf35,trivial⟩ rfl)<|T0 rfl<|Zu ac ?_;intro j3 h6 h7 h8;refine go ?_;cases hm;replace aa:=aa.kp h6 h7;exact ⟨rfl,_,Zhb rfl rfl rfl rfl isAgg55 sizeOf55 rfl rfl h8.atN rfl rfl,_,none,0,none,0,none,0,none,0,none,0,rfl,aa.fin (cm []),Zb.nil,Sl.nil,Sl.nil,Sl.nil,Sl.nil⟩
    obtain ⟨dx,fd,hm⟩:=bZ hm;refine lI fd (bb.addr fd) ?_;obtain ⟨_,h9,ia⟩:=bb.atN fd;obtain ⟨_,_,rfl,ib,ic⟩:=h9.parts;obtain ⟨_,_,rfl,id,ie⟩:=ib.parts;obtain ⟨_,_,rfl,ig,ih⟩:=id.parts;obtain rfl:=ig.bool;obtain ⟨ii,ij,rfl,fe⟩:=ih.slice;obtain ⟨ik,il,rfl,ff⟩:=ie.slice;obtain ⟨_,_,rfl,im,io⟩:=ic.parts;obtain ⟨_,_,rfl,ip,iq⟩:=im.parts;obtain rfl:=ip.bool;obtain ⟨ir,it,rfl,fg⟩:=iq.slice;obtain ⟨iu,iv,rfl,fh⟩:=io.slice;refine lV (.agg #[.bool dx.1.1.1,.slice ii dx.1.1.2.length ij,.slice ik dx.1.2.length il,.bool dx.2.1.1,.slice ir dx.2.1.2.length it,.slice iu dx.2.2.length iv]) (Xc isAgg55 sizeOf55 rfl rfl ia) ?_;obtain ⟨j4,fi,hm⟩:=bZ hm;refine lI fi (ah.addr fi) ?_;obtain ⟨fj,ek,hm⟩:=bZ hm;have ek:fj=b9.set (Int.toNat c3) fc:=(Option.some.inj ek).symm;refine Y0 (x1:=fc) ah fi ?_;intro j5 bs iw el;rw [← ek] at el;refine .ld (d:=9) (v:=(.slice dl fj.length dm)) (congrArg (fun n=>Value.slice dl n dm) (show b9.length=fj.length by rw [ek,List.length_set])) ?_;replace ad:=ad.kp bs;refine Zu ad ?_;intro j6 bt ix iy;refine go ?_;replace am:=(am.kp bs).kp bt;replace an:=(an.kp bs).kp bt;replace ao:=(ao.kp bs).kp bt;replace ap:=(ap.kp bs).kp bt;replace aq:=(aq.kp bs).kp bt;replace fe:=(fe.kp bs).kp bt;replace ff:=(ff.kp bs).kp bt;replace fg:=(fg.kp bs).kp bt;replace fh:=(fh.kp bs).kp bt;replace hb3:=(hb3.kp bs).kp bt;replace ab:=(ab.kp bs).kp bt;replace ac:=(ac.kp bs).kp bt;replace aa:=(aa.kp bs iw).kp bt ix;replace el:=el.kp bt;exact ⟨eu.length,by simp,rfl,⟨_,_,_,_,_,_,_,_,_,_,_,_,_,_,_,_,_,_,_,_,_,_,_,_,_,_,_,_,_,_,_,_,_,_,_,_,_,rfl,ge,hm,aa,fe,ff,fg,fh,iy,am,hb3,ab,an,ao,ap,aq,ac,el,(Ym (congrArg (Value.int .i64) (Yk (Nat.lt_of_lt_of_le gf (h1.ks aa).1.1))) rfl)⟩⟩
  | cons j7 iz=>
   obtain ⟨dn,i0,i1⟩:=Yg hl;have hk:(d7:Int)<(d6.length:Int):=by omega
   have hkb:=decide_eq_true hk;rw [Zax.eq_2] at hm;refine go ?_;refine X9 (congrArg Value.bool hkb)<|go ?_;refine lI dn (c4.addr dn)<|lW (c4.atInt dn) ?_;refine go ?_;refine Vy (col:=a2) (by kernel_rfl) (by kernel_rfl)<|go ?_;refine qF ⟨_,_,rfl⟩ ?_;refine qW (fun _ hC=>((ab.atN).nth (q:=2) rfl).gr (hC.bl a2)) ?_;refine go ?_;obtain ⟨j8,fk,hm⟩:=bZ hm;refine qI fk ((cu.ks aa).addr fk) ?_;obtain ⟨_,i2,i3⟩:=(cu.ks aa).atN fk;obtain ⟨⟨j9,ka,rfl,kb⟩,_⟩:=i2;refine qW (fun _ hC=>i3.one.gr (hC.bl a2)) ?_;refine go ?_;obtain ⟨kc,fl,hm⟩:=bZ hm;refine qI fl (ah.addr fl)<|qW (fun _ hC=>(ah.gr (hC.bl a2)).atInt fl) ?_;refine go ?_;refine Wn ?_;intro kd hC;replace hC:=hC.bl a2;refine go ?_;replace ai:=ai.gr hC;replace aj:=aj.gr hC;replace ak:=ak.gr hC;replace al:=al.gr hC;replace am:=am.gr hC;replace c4:=c4.gr hC;replace an:=an.gr hC;replace ao:=ao.gr hC;replace ap:=ap.gr hC;replace aq:=aq.gr hC;replace ah:=ah.gr hC;replace ad:=ad.gr hC;replace hb3:=hb3.gr hC;replace ab:=ab.gr hC;replace ac:=ac.gr hC;replace aa:=aa.grow hC;exact ⟨iz.length,by simp,rfl,⟨_,_,_,_,rfl,i0,hm,aa,ai,aj,ak,al,ad,am,hb3,ab,c4,an,ao,ap,aq,ac,ah,(Ym (congrArg (Value.int .i64) (Yk (Nat.lt_of_lt_of_le i1 c4.1.1))) rfl)⟩⟩
def Zb6 (N:Nat) (aa:R0):Option R0:=
  (V3 N ((aa.1.1,aa.1.2),aa.2) ((false,([]:List Int)),([]:List Int))).bind fun ab=>some ((ab.1.1,ab.1.2),ab.2)
theorem Zqt {N aj ak:Nat} {al am:Option Addr} {col:Zd} {w0:World} {ab r:R0} (c1 c2:Nat) (hm:Zb6 N ab=some r) (ac:Sl (Za.int .u32) col w0 al aj ab.1.2) (ad:Sl (Za.int .u32) col w0 am ak ab.2):
    Calls Tryz.prog 64 #[(.agg #[.bool ab.1.1,.slice al ab.1.2.length aj,.slice am ab.2.length ak])] w0 (fun e w'=>∃ (col':Zd) (ra1:Option Addr) (rc2:Nat) (ra4:Option Addr) (rc5:Nat),e= .returned ((.agg #[.bool r.1.1,.slice ra1 r.1.2.length rc2,.slice ra4 r.2.length rc5]))∧Zg col w0 col' w'∧Zb (Za.int .u32) 77 c1 col' w' ra1 rc2 r.1.2∧Zb (Za.int .u32) 77 c2 col' w' ra4 rc5 r.2):=by
 refine Yw (m:=6) func64 rfl rfl rfl ?_;rw [Zb6.eq_1] at hm;have aa:=St.start col w0;refine go ?_;refine Xp (col:=(Zk col)) 1 rfl ?_;intro aw ax ap aq ae;refine Xa (col:=ap) #[.bool false,.slice none (([]:List Int).length) 0,.slice none (([]:List Int).length) 0] 2 zeroValue35 ?_;intro ay az a0 an af;refine go ?_;replace ae:=ae.gr an;refine lV _ (Z3 isAgg35 sizeOf35 ae)<|lV (.agg #[.bool false,.slice none (([]:List Int).length) 0,.slice none (([]:List Int).length) 0]) (Yi (l:=[_,_]) (qs:=[(0,2),(2,1)]) underlying35 zeroValue35 ⟨rfl,sizeOf33,rfl,sizeOf31,trivial⟩ rfl) ?_;obtain ⟨a1,ar,hm⟩:=bZ hm;replace ac:=ac.keep (Zl.start col w0);replace ad:=ad.keep (Zl.start col w0);replace aa:=(aa.grow aq).grow an;refine Zi (Zam 3 4 ar (ac.ks aa) (ad.ks aa) Sl.nil Sl.nil) ?_;rintro _ a2 ⟨a3,a4,a5,a6,a7,rfl,ao,ag,ah⟩;refine ⟨_,rfl,?_⟩;replace af:=af.gr ao;refine Zu af ?_;intro a8 ai au av;refine go ?_;cases hm;replace aa:=(aa.grow ao).kp ai au;replace ag:=ag.kp ai;replace ah:=ah.kp ai;exact ⟨rfl,_,ra av.atN,_,_,_,_,_,rfl,aa.fin (cm [(3,c1),(4,c2)]),aa.fo ag,aa.fo ah⟩

end Go.Proofs.YtlchacnggnhhbaaGreat
