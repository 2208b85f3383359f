/-
  What functions of the program compute, as plain Lean functions (m_..), and proofs that they compute it (c_..). Printed by a program of the author; no conditions.
-/
import Derived.Test.YtkhnlgdenkikoaaGreatCodeShortBFloat
import Derived.Test.YtkhnlgdenkikoaaGreatProg
import Derived.Test.YtkhnlgdenkikoaaGreatCodeShortBBrief
import Derived.Test.YtkhnlgdenkikoaaGreatCodeShortBThree
import Derived.Test.YtkhnlgdenkikoaaGreatCodeShortF2
set_option linter.unusedVariables false
set_option maxRecDepth 100000
set_option maxHeartbeats 2000000
namespace Go.Proofs.YtkhnlgdenkikoaaGreat
open Go Go.RowKit
open Go.IntKind (i8 i16 i32 i64 u8 u16 u32 u64)
open Go.Proofs.Tryz

theorem Zw9 (N:Nat) (a:List Int) (hb:a.length≤1099511627776):∀ (n j:Nat),j≤a.length→Zbt N a n (j:Int)=Se N n (a.take j)
 | 0,j,_=>rfl
 | n+1,j,hj=>by
  have hl:(a.take j).length=j:=by rw [nK];omega
  have ht:0<j→Zp (a.take j) ((j - 1:Nat):Int)=Zp a ((j - 1:Nat):Int):=fun h=>by rw [Ze9,Ze9,List.getElem?_take,if_pos (by omega)]
  rw [Zbt.eq_2,Se.eq_2,hl]
  by_cases h0:0<j
  ·have e:(j:Int) - 1=((j - 1:Nat):Int):=by omega
   rw [if_pos (dT (by omega)),if_pos (dT (by omega)),Zz (by omega),e,ht h0,Xk (by omega),oB,oB,Zg7,Zbp,hl,Zz (by omega),e,Int.toNat_natCast,Int.toNat_natCast]
   by_cases hx:a[j - 1]=0
   ·rw [if_pos (dT hx),if_pos (dT hx),Xg (by omega),Zw9 N a hb n (j - 1) (by omega),List.take_take,Nat.min_eq_left (by omega)]
   ·rw [if_neg (dF hx),if_neg (dF hx),Xg (by omega),Xg (by rw [hl];simp only [nN,maxLen];omega),List.nil_append]
  ·have:j=0:=by omega
   subst this
   rw [if_neg (by decide),if_neg (by decide),Zg7,Zbp,if_neg (by decide),if_neg (by decide),Xg (by omega)]
   exact Xg (by simp [maxLen])
theorem Qg {N:Nat} {a:List Int} (h:Zo a) (hn:a.length<N) (hb:a.length≤1099511627776):U5 N a=some (Zd (Zb a)):=by
 rw [U5,Zw9 N a hb N a.length (Nat.le_refl _),List.take_length]
 exact Zm8 N N a h hn (by omega)
theorem Zxb {N:Nat} {u:Int} (h:0≤u∧u<18446744073709551616) (hn:2<N):Zg8 N u=some (Zd u.toNat):=by
 have e1:u32.wrap (Int.tmod u 4294967296)=u % 4294967296:=by rw [Int.tmod_eq_emod_of_nonneg h.1,Uo (by omega)]
 have e2:u32.wrap (u64.wrap (Int.tdiv u 4294967296))=u / 4294967296:=by rw [Int.tdiv_eq_ediv_of_nonneg h.1,Xo (by omega),Uo (by omega)]
 have hl:Zo [u % 4294967296,u / 4294967296]:=.cons (by omega) (.cons (by omega) .nil)
 have e:Zb [u % 4294967296,u / 4294967296]=u.toNat:=by rw [Wc,Wc,Yv];omega
 rw [Zg8,e1,e2,Qg hl (by simpa using hn) (by simp),oB,e]
theorem Zdy {a:List Int} (h:Zo a) (k:Nat):Qu a (k:Int)=some ((Xq a k:Nat):Int):=by
 rw [Qu]
 by_cases hk:k<a.length
 ·have:=h.get hk
  rw [if_pos (dT (by omega)),Xk hk,oB,Xo (by omega),Xq,List.getD_eq_getElem?_getD,List.getElem?_eq_getElem hk,Option.getD_some]
  congr 1;omega
 ·rw [if_neg (dF (by omega)),Xq,List.getD_eq_getElem?_getD,List.getElem?_eq_none (by omega)];rfl
theorem Zj0 {a:List Int} (h:Zo a) (k:Nat):Zb (a.take k)<4294967296 ^ k:=by
 have h1:=Qa (h.take k)
 refine Nat.lt_of_lt_of_le h1 (Nat.pow_le_pow_right (by decide) ?_)
 rw [nK];omega
theorem Zp1 (N:Nat) (a b:List Int) (ha:Zo a) (hb:Zo b):∀ (n i:Nat),i<4611686018427387904→i<n→Zb (a.drop i)=Zb (b.drop i)→Zen N a b n ((i:Int) - 1)=some (if Zb a<Zb b then -1 else if Zb b<Zb a then 1 else 0)
 | 0,i,_,h,_=>by omega
 | n+1,i,hi,hn,he=>by
  rw [Zen.eq_2]
  by_cases h0:i=0
  ·subst h0
   rw [if_neg (by decide)]
   rw [List.drop_zero,List.drop_zero] at he
   rw [if_neg (by omega),if_neg (by omega)]
  ·have e:(i:Int) - 1=((i - 1:Nat):Int):=by omega
   have e1:i - 1+1=i:=by omega
   rw [if_pos (dT (by omega)),e,Zdy ha,Zdy hb,oB,oB]
   have va:=U7 a (i - 1)
   have vb:=U7 b (i - 1)
   rw [U6 a,e1] at va
   rw [U6 b,e1,← he] at vb
   have la:=Zj0 ha (i - 1)
   have lb:=Zj0 hb (i - 1)
   have key:∀ x y:Nat,x<y→4294967296 ^ (i - 1) * (x+4294967296 * Zb (a.drop i))+4294967296 ^ (i - 1)≤4294967296 ^ (i - 1) * (y+4294967296 * Zb (a.drop i)):=fun x y hxy=>by
    rw [← Nat.mul_succ];exact Nat.mul_le_mul_left _ (by omega)
   generalize 4294967296 ^ (i - 1)=Q at *
   by_cases hlt:Xq a (i - 1)<Xq b (i - 1)
   ·have:=key _ _ hlt
    rw [if_pos (dT (by omega)),if_pos (by omega)]
   ·rw [if_neg (dF (by omega))]
    by_cases hgt:Xq b (i - 1)<Xq a (i - 1)
    ·have:=key _ _ hgt
     rw [if_pos (dT (by omega)),if_neg (by omega),if_pos (by omega)]
    ·rw [if_neg (dF (by omega)),Zz (by omega)]
     exact Zp1 N a b ha hb n (i - 1) (by omega) (by omega) (by rw [U6 a,U6 b,e1,he];omega)
theorem Zp2 {N:Nat} {a b:List Int} (ha:Zo a) (hb:Zo b) (h1:a.length<N) (h2:b.length<N) (h3:a.length≤1099511627776) (h4:b.length≤1099511627776):
  Zem N a b=some (if Zb a<Zb b then -1 else if Zb b<Zb a then 1 else 0):=by
 have dz:∀ (l:List Int) (k:Nat),l.length≤k→Zb (l.drop k)=0:=fun l k h=>by rw [List.drop_eq_nil_of_le h];rfl
 rw [Zem]
 by_cases h:a.length<b.length
 ·rw [if_pos (dT (by omega)),Zg2,Zz (by omega)]
  exact Zp1 N a b ha hb N b.length (by omega) h2 (by rw [dz a _ (by omega),dz b _ (by omega)])
 ·rw [if_neg (dF (by omega)),Zg2,Zz (by omega)]
  exact Zp1 N a b ha hb N a.length (by omega) h1 (by rw [dz a _ (by omega),dz b _ (by omega)])
theorem Zx3 {s:Int} (h:0≤s∧s<18446744073709551616):u32.wrap (Int.tmod s 4294967296)=((s.toNat % 4294967296:Nat):Int):=by
 rw [Int.tmod_eq_emod_of_nonneg h.1,Uo (by omega)];omega
theorem Zx2 {s:Int} (h:0≤s∧s<18446744073709551616):u64.wrap (Int.tdiv s 4294967296)=((s.toNat / 4294967296:Nat):Int):=by
 rw [Int.tdiv_eq_ediv_of_nonneg h.1,Xo (by omega)];omega
theorem Zpk {S Q A B C:Nat} (h:A=B+4294967296 * C):S+Q * B+Q * 4294967296 * C=S+Q * A:=by
 subst h;grind
theorem Zwt (N:Nat) (a b:List Int) (ha:Zo a) (hb:Zo b) (hN:a.length+b.length+2<N) (hs:a.length+b.length<1099511627000):∀ (n i:Nat) (out:List Int) (c:Nat),out.length=i→Zo out→c≤1→i≤a.length+b.length+2→(i≤a.length+b.length+1∨c=0)→a.length+b.length+3≤n+i→
  S8 N a b n out (c:Int) (i:Int)=some (Zd (Zb out+4294967296 ^ i * (c+Zb (a.drop i)+Zb (b.drop i))))
 | 0,i,out,c,_,_,_,h1,_,h2=>by omega
 | n+1,i,out,c,ho,hO,hc,h1,h2,h3=>by
  have go:(i<a.length∨i<b.length∨0<c)→Zja a b out (c:Int) (i:Int) (S8 N a b n)=some (Zd (Zb out+4294967296 ^ i * (c+Zb (a.drop i)+Zb (b.drop i)))):=fun hgo=>by
   have la:=Zdx ha i
   have lb:=Zdx hb i
   have es:u64.wrap (u64.wrap ((c:Int)+((Xq a i:Nat):Int))+((Xq b i:Nat):Int))=((c+Xq a i+Xq b i:Nat):Int):=by
    rw [Xo (x:=(c:Int)+_) (by omega),Xo (by omega)];omega
   rw [Zja,Zdy ha,Zdy hb,oB,oB,es,Zx3 (by omega),Zx2 (by omega),Int.toNat_natCast]
   generalize hsum:c+Xq a i+Xq b i=s
   rw [Xg (by simp only [List.length_singleton,maxLen];omega),Zz (by omega)]
   have ih:=Zwt N a b ha hb hN hs n (i+1) (out++[((s % 4294967296:Nat):Int)]) (s / 4294967296) (by simp [ho]) (hO.app (.cons (by omega) .nil)) (by omega) (by omega) (by
    by_cases hi:i<a.length∨i<b.length
    ·omega
    ·right
     have za:Xq a i=0:=by rw [Xq,List.getD_eq_getElem?_getD,List.getElem?_eq_none (by omega)];rfl
     have zb:Xq b i=0:=by rw [Xq,List.getD_eq_getElem?_getD,List.getElem?_eq_none (by omega)];rfl
     omega) (by omega)
   rw [show ((i+1:Nat):Int)=(i:Int)+1 by omega] at ih
   rw [ih,Sg,ho,Wc,Yv,Int.toNat_natCast,U6 a i,U6 b i,Nat.pow_succ]
   congr 2
   rw [Nat.mul_zero,Nat.add_zero]
   refine Zpk ?_
   omega
  rw [S8.eq_2]
  by_cases hia:i<a.length
  ·rw [if_pos (dT (by omega)),Zc4,if_pos rfl];exact go (.inl hia)
  ·rw [if_neg (dF (by omega))]
   by_cases hib:i<b.length
   ·rw [if_pos (dT (by omega)),Zc4,if_pos rfl];exact go (.inr (.inl hib))
   ·rw [if_neg (dF (by omega)),Zc4]
    by_cases hcp:0<c
    ·rw [if_pos (dT (by omega))];exact go (.inr (.inr hcp))
    ·have:c=0:=by omega
     subst this
     rw [if_neg (by decide),Qg hO (by omega) (by omega),oB,List.drop_eq_nil_of_le (by omega),List.drop_eq_nil_of_le (by omega),Yv]
     simp
theorem Z41 {N:Nat} {a b:List Int} (ha:Zo a) (hb:Zo b) (hN:a.length+b.length+3<N) (hs:a.length+b.length<1099511627000):Zi9 N a b=some (Zd (Zb a+Zb b)):=by
 have:=Zwt N a b ha hb (by omega) hs N 0 [] 0 rfl .nil (by omega) (by omega) (by omega) (by omega)
 rw [List.drop_zero,List.drop_zero,Yv,Nat.pow_zero] at this
 rw [Zi9,show (0:Int)=((0:Nat):Int) from rfl,this]
 simp
theorem Zxh (N:Nat) (a b:List Int) (ha:Zo a) (hb:Zo b) (hN:a.length<N) (hs:a.length<1099511627776):∀ (n i:Nat) (out:List Int) (c:Nat),out.length=i→Zo out→c≤1→i≤a.length→a.length<n+i→c+Zb (b.drop i)≤Zb (a.drop i)→
  Qt N a b n out (c:Int) (i:Int)=some (Zd (Zb out+4294967296 ^ i * (Zb (a.drop i) - (c+Zb (b.drop i)))),true)
 | 0,i,out,c,_,_,_,h1,h2,_=>by omega
 | n+1,i,out,c,ho,hO,hc,h1,h2,h3=>by
  rw [Qt.eq_2]
  by_cases hi:i<a.length
  ·have la:=Zdx ha i
   have lb:=Zdx hb i
   rw [U6 a i,U6 b i] at h3
   have go:∀ (c':Nat) (x:Int),c'≤1→x=((Xq a i+4294967296 * c':Nat):Int)→Xq b i+c≤Xq a i+4294967296 * c'→Xq a i+4294967296 * c'<Xq b i+c+4294967296→Zha out (c:Int) (i:Int) (Qt N a b n) ((Xq b i:Nat):Int) (c':Int) x=some (Zd (Zb out+4294967296 ^ i * (Zb (a.drop i) - (c+Zb (b.drop i)))),true):=fun c' x hc' hx h5 h6=>by
    have ev:u32.wrap (u64.wrap (x - u64.wrap (((Xq b i:Nat):Int)+(c:Int))))=((Xq a i+4294967296 * c' - (Xq b i+c):Nat):Int):=by
     rw [Xo (x:=((Xq b i:Nat):Int)+(c:Int)) (by omega),Xo (by omega),Uo (by omega)];omega
    rw [Zha,ev,Xg (by simp only [List.length_singleton,maxLen];omega),Zls,Zz (by omega)]
    generalize hv:Xq a i+4294967296 * c' - (Xq b i+c)=v
    have ih:=Zxh N a b ha hb hN hs n (i+1) (out++[(v:Int)]) c' (by simp [ho]) (hO.app (.cons (by omega) .nil)) hc' (by omega) (by omega) (by omega)
    rw [show ((i+1:Nat):Int)=(i:Int)+1 by omega] at ih
    rw [ih,Sg,ho,Wc,Yv,Int.toNat_natCast,U6 a i,U6 b i,Nat.pow_succ,Nat.mul_zero,Nat.add_zero]
    congr 3
    refine Zpk ?_
    omega
   rw [if_pos (dT (by omega)),Zdy ha,Zdy hb,oB,oB,Xo (x:=((Xq b i:Nat):Int)+(c:Int)) (by omega)]
   by_cases hlt:Xq a i<Xq b i+c
   ·rw [if_pos (dT (by omega))]
    exact go 1 _ (by omega) (by rw [Xo (by omega)];omega) (by omega) (by omega)
   ·rw [if_neg (dF (by omega))]
    exact go 0 _ (by omega) (by omega) (by omega) (by omega)
  ·rw [if_neg (dF (by omega)),Qg hO (by omega) (by omega),oB]
   rw [List.drop_eq_nil_of_le (show a.length≤i by omega),Yv] at h3 ⊢
   rw [show 0 - (c+Zb (b.drop i))=0 by omega]
   simp
theorem Zp8 {N:Nat} {a b:List Int} (ha:Zo a) (hb:Zo b) (h1:a.length<N) (h2:b.length<N) (h3:a.length<1099511627776) (h4:b.length<1099511627776):
  Zg9 N a b=some (if Zb a<Zb b then ([],false) else (Zd (Zb a - Zb b),true)):=by
 rw [Zg9,Zp2 ha hb h1 h2 (by omega) (by omega),oB]
 by_cases h:Zb a<Zb b
 ·rw [if_pos h,if_pos (by decide),if_pos h]
 ·have:=Zxh N a b ha hb h1 h3 N 0 [] 0 rfl .nil (by omega) (by omega) (by omega) (by simpa using Nat.le_of_not_lt h)
  rw [if_neg h,if_neg (by split <;> decide),if_neg h,show (0:Int)=((0:Nat):Int) from rfl,this]
  simp [Yv]
theorem Zwv (N:Nat):∀ (n:Nat) (c:Int) (t:Nat),Z0 t<n→t<4294967296→0≤c∧c+(Z0 t:Int)≤4611686018427387904→Zel N n c (t:Int)=some (c+(Z0 t:Int))
 | 0,c,t,h,_,_=>by omega
 | n+1,c,t,h,ht,hc=>by
  rw [Zel.eq_2]
  have hb:Z0 t≤32:=Vi.2 (by omega)
  by_cases h0:0<t
  ·have e:u32.wrap (Int.tdiv (t:Int) 2)=((t / 2:Nat):Int):=by rw [Int.tdiv_eq_ediv_of_nonneg (by omega),Uo (by omega)];omega
   have hs:=Zh8 t 1
   rw [Nat.pow_one] at hs
   have h1:1≤Z0 t:=by rw [Z0,if_neg (by omega)];omega
   rw [if_pos (dT (by omega)),e,Zz (by omega),Zwv N n (c+1) (t / 2) (by omega) (by omega) (by omega)]
   congr 1;omega
  ·have:t=0:=by omega
   subst this
   rw [if_neg (by decide),Zfb];simp
theorem Z44 {N:Nat} {a:List Int} (h:Zo a) (hn:a.length+32<N) (hb:a.length≤1099511627776):Zjc N a=some ((Z0 (Zb a):Nat):Int):=by
 have hl:=Yu h
 rw [Zjc,Qg h (by omega) hb,oB]
 by_cases h0:(Zd (Zb a)).length=0
 ·have:Zb a=0:=Zft.1 (List.eq_nil_of_length_eq_zero h0)
  rw [if_pos (dT (by omega)),this,Zfb];rfl
 ·have hp:0<(Zd (Zb a)).length:=by omega
  have e:((Zd (Zb a)).length:Int) - 1=(((Zd (Zb a)).length - 1:Nat):Int):=by omega
  have hx:=(Z8 (Zb a)).get (k:=(Zd (Zb a)).length - 1) (by omega)
  have hne:=Zlc hp
  have hs:=Zfr hp
  have e2:(Zd (Zb a))[(Zd (Zb a)).length - 1]=(((Zd (Zb a))[(Zd (Zb a)).length - 1]).toNat:Int):=by omega
  have hb2:Z0 ((Zd (Zb a))[(Zd (Zb a)).length - 1]).toNat≤32:=Vi.2 (by omega)
  rw [if_neg (dF (by omega)),Zz (by omega),e,Xk (by omega),oB,e2,Zz (by omega),Zwv N N _ _ (by omega) (by omega) (by omega)]
  have hb:=Zq4 (a:=(Zd (Zb a)).take ((Zd (Zb a)).length - 1)) (x:=(Zd (Zb a))[(Zd (Zb a)).length - 1]) ((Z8 _).take _) (by omega)
  rw [hs,Z5,nK,Nat.min_eq_left (by omega)] at hb
  rw [hb]
  congr 1
theorem Zqy (T l R k s:Nat) (hT:T<4294967296 ^ k) (hs:s<32):(T+4294967296 ^ k * (l+4294967296 * R)) / 2 ^ (32 * k+s) % 2=l / 2 ^ s % 2:=by
 have e:(4294967296:Nat) ^ k=2 ^ (32 * k):=by rw [show (4294967296:Nat)=2 ^ 32 by decide,← Nat.pow_mul]
 have hp:0<4294967296 ^ k:=Nat.pow_pos (by decide)
 rw [Nat.pow_add,← e,← Nat.div_div_eq_div_mul,Nat.add_mul_div_left _ _ hp,Nat.div_eq_of_lt hT,Nat.zero_add]
 have pw:(4294967296:Nat)=2 ^ s * (2 * 2 ^ (31 - s)):=by
  rw [Nat.mul_left_comm,← Nat.pow_add,show s+(31 - s)=31 by omega]
 have e2:l+4294967296 * R=l+2 ^ s * (2 * (2 ^ (31 - s) * R)):=by
  conv=>lhs;rw [pw]
  rw [Nat.mul_assoc,Nat.mul_assoc]
 rw [e2,Nat.add_mul_div_left _ _ (Nat.two_pow_pos s),Nat.add_mul_mod_self_left]
theorem Z43 {a:List Int} (h:Zo a) {i:Nat} (hi:i<4611686018427387904):Zjb a (i:Int)=some ((Zb a / 2 ^ i % 2:Nat):Int):=by
 have hl:=Zdx h (i / 32)
 have e1:i64.wrap (Int.tdiv (i:Int) 32)=((i / 32:Nat):Int):=by rw [Int.tdiv_eq_ediv_of_nonneg (by omega),Zz (by omega)];omega
 have e2:Int.tmod (i:Int) 32=((i % 32:Nat):Int):=by rw [Int.tmod_eq_emod_of_nonneg (by omega)];omega
 rw [Zjb,e1,Zdy h,oB,e2,Xg (by omega),Zkb _ _ _ (by simp only [IntKind.bits];omega)]
 have hd:=Nat.div_le_self (Xq a (i / 32)) (2 ^ (i % 32))
 have e3:=Zqy (Zb (a.take (i / 32))) (Xq a (i / 32)) (Zb (a.drop (i / 32+1))) (i / 32) (i % 32) (Zj0 h _) (by omega)
 rw [← U6 a,← U7,show 32 * (i / 32)+i % 32=i by omega] at e3
 rw [e3]
 generalize Xq a (i / 32) / 2 ^ (i % 32)=x at *
 rw [Uo (by omega),Int.tmod_eq_emod_of_nonneg (by omega)]
 congr 1
theorem Zwx (N:Nat) (a:List Int) (ha:Zo a) (hs:a.length<1099511627776):∀ (n i:Nat) (out:List Int) (c:Nat),out.length=i→Zo out→c≤1→i≤a.length→a.length<n+i→
  ∃ o,Zeq N a n out (c:Int) (i:Int)=some o∧o.length≤a.length+1∧Zo o∧Zb o=Zb out+4294967296 ^ i * (c+2 * Zb (a.drop i))
 | 0,i,out,c,_,_,_,h1,h2=>by omega
 | n+1,i,out,c,ho,hO,hc,h1,h2=>by
  rw [Zeq.eq_2]
  by_cases hi:i<a.length
  ·have ga:=ha.get hi
   have es:u64.wrap ((c:Int)+u64.wrap (2 * u64.wrap a[i]))=((c+2 * (a[i]).toNat:Nat):Int):=by
    rw [Xo (x:=a[i]) (by omega),Xo (x:=2 * _) (by omega),Xo (by omega)];omega
   rw [if_pos (dT (by omega)),Xk hi,oB,es,Zx3 (by omega),Zx2 (by omega),Int.toNat_natCast]
   generalize hS:c+2 * (a[i]).toNat=S
   rw [Xg (by simp only [List.length_singleton,maxLen];omega),Zz (by omega)]
   obtain ⟨o,q1,q2,q3,q4⟩:=Zwx N a ha hs n (i+1) (out++[((S % 4294967296:Nat):Int)]) (S / 4294967296) (by simp [ho]) (hO.app (.cons (by omega) .nil)) (by omega) (by omega) (by omega)
   rw [show ((i+1:Nat):Int)=(i:Int)+1 by omega] at q1
   refine ⟨o,q1,q2,q3,?_⟩
   rw [q4,Sg,ho,Wc,Yv,Int.toNat_natCast,Ux hi,Nat.pow_succ,Nat.mul_zero,Nat.add_zero]
   refine Zpk ?_
   omega
  ·have hia:i=a.length:=by omega
   rw [if_neg (dF (by omega))]
   by_cases hcp:0<c
   ·rw [if_pos (dT (by omega)),Xg (by simp only [List.length_singleton,maxLen];omega),Zhc,Uo (by omega)]
    refine ⟨_,rfl,by simp;omega,hO.app (.cons (by omega) .nil),?_⟩
    rw [Sg,ho,Wc,Yv,Int.toNat_natCast,List.drop_eq_nil_of_le (by omega),Yv]
   ·have:c=0:=by omega
    subst this
    rw [if_neg (by decide),Zhc]
    refine ⟨_,rfl,by omega,hO,?_⟩
    rw [List.drop_eq_nil_of_le (by omega),Yv];simp
theorem Zwy {N:Nat} {a:List Int} {c:Nat} (ha:Zo a) (hc:c≤1) (hN:a.length<N) (hs:a.length<1099511627776):∃ o,Zhb N a (c:Int)=some o∧o.length≤a.length+1∧Zo o∧Zb o=2 * Zb a+c:=by
 obtain ⟨o,q1,q2,q3,q4⟩:=Zwx N a ha hs N 0 [] c rfl .nil hc (by omega) (by omega)
 refine ⟨o,?_,q2,q3,?_⟩
 ·rw [Zhb,Xo (by omega)];exact q1
 ·rw [q4,Yv,Nat.pow_zero,List.drop_zero];omega
theorem Z2j (Q e o2 r S v L:Nat) (h:r * 4294967296+e=2 * v+o2) (hS:S=Q * (o2+2 * (v+4294967296 * L))):S=Q * e+Q * 4294967296 * (r+2 * L):=by
 subst hS
 have:Q * (r * 4294967296+e)=Q * (2 * v+o2):=by rw [h]
 grind
theorem Zw7 (N:Nat) (a:List Int) (ha:Zo a) (hN:a.length<N) (hs:a.length<1099511627776):∀ (n j:Nat) (out:List Int) (r:Nat),out.length=a.length→Zo out→r≤1→j≤a.length→j<n→Zb (out.take j)=0→
  ∃ v,Zer N a n out (r:Int) ((j:Int) - 1)=some (Zd v)∧∃ ρ,ρ≤1∧2 * v+ρ=Zb (a.take j)+4294967296 ^ j * (r+2 * Zb (out.drop j))
 | 0,j,out,r,_,_,_,_,h,_=>by omega
 | n+1,j,out,r,ho,hO,hr,hj,hn,hz=>by
  rw [Zer.eq_2]
  by_cases h0:j=0
  ·subst h0
   rw [if_neg (by decide),Qg hO (by omega) (by omega),oB]
   refine ⟨_,rfl,r,hr,?_⟩
   rw [List.take_zero,Yv,List.drop_zero,Nat.pow_zero];omega
  ·have e:(j:Int) - 1=((j - 1:Nat):Int):=by omega
   have e1:j - 1+1=j:=by omega
   have hk:j - 1<a.length:=by omega
   have g:=ha.get hk
   have es:u64.wrap (u64.wrap ((r:Int) * 4294967296)+u64.wrap a[j - 1])=((r * 4294967296+(a[j - 1]).toNat:Nat):Int):=by
    rw [Xo (x:=a[j - 1]) (by omega),Xo (x:=(r:Int) * 4294967296) (by omega),Xo (by omega)];omega
   rw [if_pos (dT (by omega)),e,Xk hk,oB,Xk (by omega),oB,oB,Int.toNat_natCast,es,Zz (by omega)]
   generalize hS:r * 4294967296+(a[j - 1]).toNat=S
   have e2:u32.wrap (u64.wrap (Int.tdiv (S:Int) 2))=((S / 2:Nat):Int):=by rw [Int.tdiv_eq_ediv_of_nonneg (by omega),Xo (by omega),Uo (by omega)];omega
   have e3:Int.tmod (S:Int) 2=((S % 2:Nat):Int):=by rw [Int.tmod_eq_emod_of_nonneg (by omega)];omega
   have zt:Zb (out.take (j - 1))=0:=by
    have:=U7 (out.take j) (j - 1)
    rw [List.take_take,Nat.min_eq_left (by omega),hz] at this
    omega
   rw [e2,e3]
   obtain ⟨v,q1,ρ,q2,q3⟩:=Zw7 N a ha hN hs n (j - 1) (out.set (j - 1) ((S / 2:Nat):Int)) (S % 2) (by rw [nS];exact ho) (hO.set _ (by omega)) (by omega) (by omega) (by omega) (by rw [Zdl _ (Nat.le_refl _)];exact zt)
   refine ⟨v,q1,ρ,q2,?_⟩
   rw [q3]
   have t1:=Zpe hk
   have t2:Zb ((out.set (j - 1) ((S / 2:Nat):Int)).drop (j - 1))=S / 2+4294967296 * Zb (out.drop (j - 1+1)):=by
    rw [Ux (by rw [nS];omega),List.getElem_set_self,Za4 _ (by omega),Int.toNat_natCast]
   rw [e1] at t1 t2
   have hp:(4294967296:Nat) ^ j=4294967296 ^ (j - 1) * 4294967296:=by rw [← Nat.pow_succ,show (j - 1).succ=j by omega]
   rw [t1,t2,hp,Nat.add_assoc]
   congr 1
   exact Z2j _ _ (S % 2) _ _ (S / 2) _ (by omega) rfl
theorem Zm3 {N:Nat} {a:List Int} (ha:Zo a) (hN:a.length<N) (hs:a.length<1099511627776):Zc6 N a=some (Zd (Zb a / 2)):=by
 obtain ⟨v,q1,ρ,q2,q3⟩:=Zw7 N a ha hN hs N a.length (List.replicate a.length 0) 0 (by rw [List.length_replicate]) (.zeros _) (by omega) (Nat.le_refl _) hN (by rw [List.take_replicate];exact Si _)
 rw [Zc6,Xg (by simp only [maxLen];omega),Zz (by omega)]
 rw [List.take_length,List.drop_replicate,Si] at q3
 refine Eq.trans q1 ?_
 rw [show v=Zb a / 2 by omega]
theorem Z3y {a:List Int} (h:Zo a):Zb a % 2=Xq a 0 % 2:=by
 have:=U6 a 0
 rw [List.drop_zero] at this
 omega
theorem Zm2 {a:List Int} (h:Zo a):Zc5 a=some (decide (Zb a % 2=0)):=by
 rw [Zc5,Z3y h]
 by_cases h0:a.length=0
 ·have:a=[]:=List.eq_nil_of_length_eq_zero h0
  subst this
  rfl
 ·have g:=h.get (k:=0) (by omega)
  have ea:Xq a 0=(a[0]).toNat:=by rw [Xq,List.getD_eq_getElem?_getD,List.getElem?_eq_getElem (by omega),Option.getD_some]
  rw [if_neg (dF (by omega)),show (0:Int)=((0:Nat):Int) from rfl,Xk (by omega),oB,Zjf,Int.tmod_eq_emod_of_nonneg (by omega),ea]
  congr 1
  exact decide_eq_decide.2 (by omega)
theorem Z4c {q:List Int} (hq:Zo q) {i:Nat} (hi:i<32 * q.length) (hd:2 ^ (i+1) ∣ Zb q):
  ∃ x:Nat,Zp q ((i / 32:Nat):Int)=some (x:Int)∧u32.wrap ((x:Int)+Xu .u32 1 ((i % 32:Nat):Int))=((x+2 ^ (i % 32):Nat):Int)∧x+2 ^ (i % 32)<4294967296∧Zb (q.set (i / 32) ((x+2 ^ (i % 32):Nat):Int))=Zb q+2 ^ i:=by
 have hk:i / 32<q.length:=by omega
 have g:=hq.get hk
 have hs:i % 32<32:=Nat.mod_lt _ (by decide)
 have hp:=Nat.two_pow_pos (i % 32)
 have e32:(4294967296:Nat) ^ (i / 32)=2 ^ (32 * (i / 32)):=by rw [show (4294967296:Nat)=2 ^ 32 by decide,← Nat.pow_mul]
 have eb:(4294967296:Nat)=2 ^ (i % 32+1) * 2 ^ (31 - i % 32):=by rw [← Nat.pow_add,show i % 32+1+(31 - i % 32)=32 by omega]
 have pi:(2:Nat) ^ (i+1)=4294967296 ^ (i / 32) * 2 ^ (i % 32+1):=by rw [e32,← Nat.pow_add];congr 1;omega
 have pi0:(2:Nat) ^ i=4294967296 ^ (i / 32) * 2 ^ (i % 32):=by rw [e32,← Nat.pow_add];congr 1;omega
 have sp:=U7 q (i / 32)
 rw [Ux hk] at sp
 have tl:=Zj0 hq (i / 32)
 have hQ:0<4294967296 ^ (i / 32):=Nat.pow_pos (by decide)
 rw [pi] at hd
 -- the limb's lower bits are none
 have hx:2 ^ (i % 32+1) ∣ (q[i / 32]).toNat:=by
  have d1:4294967296 ^ (i / 32) ∣ Zb q:=Nat.dvd_trans ⟨_,rfl⟩ hd
  have d2:4294967296 ^ (i / 32) ∣ Zb (q.take (i / 32)):=by
   rw [sp] at d1
   exact (Nat.dvd_add_left ⟨_,rfl⟩).1 d1
  have z:Zb (q.take (i / 32))=0:=Nat.eq_zero_of_dvd_of_lt d2 tl
  rw [z,Nat.zero_add] at sp
  rw [sp] at hd
  have d3:=Nat.dvd_of_mul_dvd_mul_left hQ hd
  have d4:2 ^ (i % 32+1) ∣ 4294967296 * Zb (q.drop (i / 32+1)):=by
   conv=>rhs;rw [eb]
   exact ⟨2 ^ (31 - i % 32) * Zb (q.drop (i / 32+1)),by rw [Nat.mul_assoc]⟩
  exact (Nat.dvd_add_left d4).1 d3
 obtain ⟨y,hy⟩:=hx
 have hlt:(q[i / 32]).toNat+2 ^ (i % 32)<4294967296:=by
  have h1:2 ^ (i % 32+1) * y<2 ^ (i % 32+1) * 2 ^ (31 - i % 32):=by rw [← hy,← eb];omega
  have h2:=Nat.lt_of_mul_lt_mul_left h1
  have h3:=Nat.mul_le_mul_left (2 ^ (i % 32+1)) (show y+1≤2 ^ (31 - i % 32) from h2)
  rw [← eb,Nat.mul_add,← hy,Nat.pow_succ] at h3
  omega
 refine ⟨(q[i / 32]).toNat,by rw [Xk hk];congr 1;omega,?_,hlt,?_⟩
 ·rw [show (1:Int)=((1:Nat):Int) from rfl,Zqa hs (.inl rfl),Nat.one_mul,Uo (x:=((2 ^ (i % 32):Nat):Int)) (by omega),Uo (by omega)]
  omega
 ·have h1:=Sh hk (((q[i / 32]).toNat+2 ^ (i % 32):Nat):Int)
  rw [Int.toNat_natCast,Nat.mul_add,← pi0] at h1
  omega
theorem Zp4 (N:Nat) (a y:List Int) (ha:Zo a) (hy:Zo y) (hy0:0<Zb y) (hly:y.length+8<N) (hs:y.length<549755813888) (hla:a.length<549755813888) (hyc:(Zd (Zb y)).length=y.length) (hNa:a.length+y.length+8<N):∀ (n j:Nat) (r q:List Int),j<n→j<4611686018427387904→j≤32 * q.length→q.length≤a.length→Zo q→r=Zd (Zb r)→Zb r<Zb y→2 ^ j ∣ Zb q→Zb a / 2 ^ j=Zb q / 2 ^ j * Zb y+Zb r→
  Zbr N a y n r ((j:Int) - 1) q=some (Zd (Zb a / Zb y),Zd (Zb a % Zb y),0)
 | 0,j,r,q,h,_,_,_,_,_,_,_,_=>by omega
 | n+1,j,r,q,hjn,hj,hjq,hqa,hq,hr,hlt,hd,he=>by
  rw [Zbr.eq_2]
  by_cases h0:j=0
  ·subst h0
   rw [Nat.pow_zero,Nat.div_one,Nat.div_one] at he
   rw [if_neg (by decide),Qg hq (by omega) (by omega),oB]
   have h1:Zb a / Zb y=Zb q:=by rw [he,Nat.mul_comm,Nat.mul_add_div hy0,Nat.div_eq_of_lt hlt,Nat.add_zero]
   have h2:Zb a % Zb y=Zb r:=by rw [he,Nat.mul_comm,Nat.mul_add_mod,Nat.mod_eq_of_lt hlt]
   rw [h1,h2,← hr]
  ·have e:(j:Int) - 1=((j - 1:Nat):Int):=by omega
   obtain ⟨i,rfl⟩:∃ i,j=i+1:=⟨j - 1,by omega⟩
   have ei:i+1 - 1=i:=by omega
   rw [e,ei]
   have hrl:r.length≤y.length:=by
    rw [hr,← hyc];exact Wm (Nat.le_of_lt hlt)
   have hlr:Zo r:=by rw [hr];exact Z8 _
   have hb:=Nat.mod_lt (Zb a / 2 ^ i) (show 0<2 by decide)
   obtain ⟨d,d1,d2,d3,d4⟩:=Zwy (N:=N) (a:=r) (c:=Zb a / 2 ^ i % 2) hlr (by omega) (by omega) (by omega)
   have h2:Zb a / 2 ^ i=2 * (Zb a / 2 ^ (i+1))+Zb a / 2 ^ i % 2:=by
    rw [Nat.pow_succ,← Nat.div_div_eq_div_mul];omega
   obtain ⟨qq,hqq⟩:=hd
   have hq1:Zb q / 2 ^ (i+1)=qq:=by rw [hqq,Nat.mul_div_cancel_left _ (Nat.two_pow_pos _)]
   have hq2:Zb q / 2 ^ i=2 * qq:=by rw [hqq,Nat.pow_succ,Nat.mul_assoc,Nat.mul_div_cancel_left _ (Nat.two_pow_pos _)]
   rw [hq1] at he
   rw [if_pos (dT (by omega)),Z43 ha (by omega),oB,d1,oB,Qg d3 (by omega) (by omega),oB,Zp2 (Z8 _) hy (by have:=Yu d3;omega) (by omega) (by have:=Yu d3;omega) (by omega),oB,Z5,d4]
   rw [he] at h2
   have hkey:Zb a / 2 ^ i=2 * qq * Zb y+(2 * Zb r+Zb a / 2 ^ i % 2):=by
    have:2 * qq * Zb y=2 * (qq * Zb y):=Nat.mul_assoc _ _ _
    omega
   generalize hbit:Zb a / 2 ^ i % 2=b at *
   by_cases hge:Zb y≤2 * Zb r+b
   ·rw [if_pos (by rw [if_neg (by omega)];split <;> decide)]
    obtain ⟨x,x1,x2,x3,x4⟩:=Z4c hq (i:=i) (by omega) ⟨qq,hqq⟩
    have e1:i64.wrap (Int.tdiv (i:Int) 32)=((i / 32:Nat):Int):=by rw [Int.tdiv_eq_ediv_of_nonneg (by omega),Zz (by omega)];omega
    have e2:Int.tmod (i:Int) 32=((i % 32:Nat):Int):=by rw [Int.tmod_eq_emod_of_nonneg (by omega)];omega
    have ll:(Zd (2 * Zb r+b)).length≤y.length+1:=by rw [← d4];exact Nat.le_trans (Yu d3) (by omega)
    rw [Zp8 (Z8 _) hy (by omega) (by omega) (by omega) (by omega),oB,Z5,if_neg (by omega),e1,e2,x1,oB,Xg (by omega),x2,oB,Int.toNat_natCast,Zg4,Zz (by omega)]
    have ih:=Zp4 N a y ha hy hy0 hly hs hla hyc hNa n i (Zd (2 * Zb r+b - Zb y)) (q.set (i / 32) ((x+2 ^ (i % 32):Nat):Int)) (by omega) (by omega) (by rw [nS];omega) (by rw [nS];exact hqa) (hq.set _ ⟨Int.natCast_nonneg _,Int.ofNat_lt.2 x3⟩) (by rw [Z5]) (by rw [Z5];omega) (by
     rw [x4,hqq];exact Nat.dvd_add ⟨2 * qq,by rw [Nat.pow_succ,Nat.mul_assoc]⟩ (Nat.dvd_refl _)) (by
     have:Zb (q.set (i / 32) ((x+2 ^ (i % 32):Nat):Int)) / 2 ^ i=2 * qq+1:=by
      rw [x4,Nat.add_div_right _ (Nat.two_pow_pos _),hq2]
     rw [this,Z5,hkey,Nat.add_mul,Nat.one_mul];omega)
    exact ih
   ·rw [if_neg (by rw [if_pos (by omega)];decide),Zg4,Zz (by omega)]
    exact Zp4 N a y ha hy hy0 hly hs hla hyc hNa n i (Zd (2 * Zb r+b)) q (by omega) (by omega) (by omega) hqa hq (by rw [Z5]) (by rw [Z5];omega) (by rw [hqq];exact ⟨2 * qq,by rw [Nat.pow_succ,Nat.mul_assoc]⟩) (by rw [hq2,Z5,hkey])
theorem Zww {N:Nat} {a b:List Int} (ha:Zo a) (hb:Zo b) (hN:32 * a.length+(Zd (Zb b)).length+48<N) (hbN:b.length<N) (hs:a.length+(Zd (Zb b)).length<274877906944) (hbs:b.length≤1099511627776):
  Zg3 N a b=some (if Zb b=0 then ([],[],11) else (Zd (Zb a / Zb b),Zd (Zb a % Zb b),0)):=by
 have la:=Yu ha
 rw [Zg3,Qg hb (by omega) (by omega),oB]
 by_cases h0:Zb b=0
 ·rw [h0,Vd,if_pos (by decide),if_pos rfl]
 ·have hbp:=Sz h0
  have hbl:=(Zdp (Zb a)).2
  rw [if_neg (dF (by omega)),if_neg h0,Z44 ha (by omega) (by omega),oB]
  have e1:i64.wrap (Int.tdiv (i64.wrap (((Z0 (Zb a):Nat):Int)+31)) 32)=(((Z0 (Zb a)+31) / 32:Nat):Int):=by
   rw [Zz (x:=((Z0 (Zb a):Nat):Int)+31) (by omega),Int.tdiv_eq_ediv_of_nonneg (by omega),Zz (by omega)];omega
  rw [e1,Xg (by simp only [maxLen,Int.toNat_natCast];omega),Int.toNat_natCast,Zz (by omega)]
  have:=Zp4 N a (Zd (Zb b)) ha (Z8 _) (by rw [Z5];omega) (by omega) (by omega) (by omega) (by rw [Z5]) (by omega) N (Z0 (Zb a)) [] (List.replicate ((Z0 (Zb a)+31) / 32) 0) (by omega) (by omega) (by rw [List.length_replicate];omega) (by rw [List.length_replicate];omega) (.zeros _) (by rw [Yv,Vd]) (by rw [Z5,Yv];omega) (by rw [Si];exact ⟨0,rfl⟩) (by
   rw [Si,Yv,Nat.zero_div,Nat.zero_mul]
   exact Nat.div_eq_of_lt (Vi.1 (Nat.le_refl _)))
  rw [Z5] at this
  exact this
theorem Z0y {x:Nat} (h:x % 2=1):Nat.Coprime 2 x:=by
 rw [Nat.coprime_iff_gcd_eq_one,Nat.gcd_rec,h,Nat.gcd_one_left]
theorem Ztz {x y k:Nat} (h:y % 2=1):Nat.gcd (2 ^ k * x) y=Nat.gcd x y:=by
 induction k with
 | zero=>rw [Nat.pow_zero,Nat.one_mul]
 | succ k ih=>rw [Nat.pow_succ,Nat.mul_comm (2 ^ k),Nat.mul_assoc,(Z0y h).gcd_mul_left_cancel,ih]
theorem Z2h {x y k:Nat} (h:x % 2=1):Nat.gcd x (2 ^ k * y)=Nat.gcd x y:=by
 rw [Nat.gcd_comm,Ztz h,Nat.gcd_comm]
theorem Zkr {x:Nat} (h:x≠0):1≤Z0 x:=by rw [Z0,if_neg h];omega
theorem Zkq (x:Nat):Z0 (x / 2)=Z0 x - 1:=by
 have:=Zh8 x 1
 rwa [Nat.pow_one] at this
theorem Zh7 {x y:Nat} (h:x≤y):Z0 x≤Z0 y:=Vi.2 (Nat.lt_of_le_of_lt h (Vi.1 (Nat.le_refl _)))
theorem Zh6 {M x:Nat} (h:(Zd x).length≤M):Z0 x≤32 * M:=by have:=(Zdp x).2;omega
theorem Zuc {x xo k:Nat} (h:x=2 ^ k * xo):xo≤x:=by
 rw [h]
 have:=Nat.mul_le_mul_right xo (Nat.two_pow_pos k)
 omega
section
variable {N M:Nat} (hN:100 * M+64<N) (hM:M<17179869200)
include hN hM
theorem Zw5 (t:Nat):∀ (n i:Nat) (x:List Int),i≤t→t - i<n→t≤32 * M→Zo x→x.length+(t - i)≤33 * M→
  ∃ g,Zep N (t:Int) n x (i:Int)=some g∧Zo g∧Zb g=2 ^ (t - i) * Zb x∧g.length≤x.length+(t - i)
 | 0,i,x,_,h,_,_,_=>by omega
 | n+1,i,x,hi,hn,ht,hx,hl=>by
  rw [Zep.eq_2]
  by_cases h0:i<t
  ·obtain ⟨d,d1,d2,d3,d4⟩:=Zwy (N:=N) (a:=x) (c:=0) hx (by omega) (by omega) (by omega)
   rw [show ((0:Nat):Int)=0 from rfl] at d1
   obtain ⟨g,g1,g2,g3,g4⟩:=Zw5 t n (i+1) d (by omega) (by omega) ht d3 (by omega)
   rw [show ((i+1:Nat):Int)=(i:Int)+1 by omega] at g1
   rw [if_pos (dT (by omega)),d1,oB,Zz (by omega)]
   refine ⟨g,g1,g2,?_,by omega⟩
   rw [g3,d4,Nat.add_zero (2 * Zb x),← Nat.mul_assoc,← Nat.pow_succ]
   congr 2;omega
  ·have:i=t:=by omega
   subst this
   rw [if_neg (dF (by omega))]
   exact ⟨x,rfl,hx,by simp,by omega⟩
theorem Zw4 (kk:List Int→List Int→Option R2) {x:Nat} (hx:(Zd x).length≤M):∀ (n y:Nat),y≠0→Z0 y<n→(Zd y).length≤M→
  ∃ yo k,y=2 ^ k * yo∧yo % 2=1∧Zas N kk (Zd x) n (Zd y)=kk (Zd (min x yo)) (Zd (max x yo - min x yo))
 | 0,y,_,h,_=>by omega
 | n+1,y,h0,hn,hy=>by
  have hp:=Sz h0
  rw [Zas.eq_2,if_pos (dT (by omega)),Zm2 (Z8 _),Z5,oB,Zje]
  by_cases he:y % 2=0
  ·rw [if_pos (dT he),Zm3 (Z8 _) (by omega) (by omega),oB,Z5]
   have hb:=Zkq y
   have h1:=Zkr h0
   obtain ⟨yo,k,e1,e2,e3⟩:=Zw4 kk hx n (y / 2) (by omega) (by omega) (Nat.le_trans (Wm (Nat.div_le_self _ _)) hy)
   refine ⟨yo,k+1,?_,e2,e3⟩
   rw [Nat.pow_succ,Nat.mul_comm (2 ^ k),Nat.mul_assoc,← e1];omega
  ·rw [if_neg (dF he),Zp2 (Z8 _) (Z8 _) (by omega) (by omega) (by omega) (by omega),oB,Z5,Z5]
   refine ⟨y,0,by simp,by omega,?_⟩
   by_cases hxy:y<x
   ·rw [if_pos (by rw [if_neg (by omega),if_pos hxy];decide),Zg6,Zp8 (Z8 _) (Z8 _) (by omega) (by omega) (by omega) (by omega),oB,Z5,Z5,if_neg (by omega),Nat.min_eq_right (by omega),Nat.max_eq_left (by omega)]
   ·rw [if_neg (by split <;> (try split) <;> simp_all <;> omega),Zg6,Zp8 (Z8 _) (Z8 _) (by omega) (by omega) (by omega) (by omega),oB,Z5,Z5,if_neg (by omega),Nat.min_eq_left (by omega),Nat.max_eq_right (by omega)]
theorem Zw3 (kk:List Int→List Int→Option R2) {y:Nat}:∀ (n x:Nat),x≠0→Z0 x<n→(Zd x).length≤M→
  ∃ xo k,x=2 ^ k * xo∧xo % 2=1∧Zeo N (Zd y) kk n (Zd x)=Zas N kk (Zd xo) N (Zd y)
 | 0,x,_,h,_=>by omega
 | n+1,x,h0,hn,hx=>by
  rw [Zeo.eq_2,Zm2 (Z8 _),Z5,oB]
  by_cases he:x % 2=0
  ·rw [if_pos (dT he),Zm3 (Z8 _) (by omega) (by omega),oB,Z5]
   have hb:=Zkq x
   have h1:=Zkr h0
   obtain ⟨xo,k,e1,e2,e3⟩:=Zw3 kk n (x / 2) (by omega) (by omega) (Nat.le_trans (Wm (Nat.div_le_self _ _)) hx)
   refine ⟨xo,k+1,?_,e2,e3⟩
   rw [Nat.pow_succ,Nat.mul_comm (2 ^ k),Nat.mul_assoc,← e1];omega
  ·rw [if_neg (dF he)]
   exact ⟨x,0,by simp,by omega,rfl⟩
theorem Zw6 (t:Nat) {n x y:Nat} (hx:x≠0) (hy:y≠0) (h:x % 2=1∨y % 2=1) (lx:(Zd x).length≤M) (ly:(Zd y).length≤M):
  ∃ x' y',Ul N (t:Int) (n+1) (Zd x) (Zd y)=Ul N (t:Int) n (Zd x') (Zd y')∧x' % 2=1∧y' % 2=0∧Nat.gcd x' y'=Nat.gcd x y∧(Zd x').length≤M∧(Zd y').length≤M∧(Z0 x'+Z0 y'≤Z0 x+Z0 y)∧(y % 2=0→Z0 x'+Z0 y'+1≤Z0 x+Z0 y):=by
 have hp:=Sz hy
 have bx:=Zh6 lx
 have by_:=Zh6 ly
 obtain ⟨xo,k,x1,x2,x3⟩:=Zw3 hN hM (Ul N (t:Int) n) (y:=y) N x hx (by omega) lx
 have lxo:=Zuc x1
 obtain ⟨yo,l,y1,y2,y3⟩:=Zw4 hN hM (Ul N (t:Int) n) (x:=xo) (Nat.le_trans (Wm lxo) lx) N y hy (by omega) ly
 have lyo:=Zuc y1
 rw [Ul.eq_2,if_pos (dT (by omega)),x3,y3]
 have mM:max xo yo≤max x y:=by omega
 have lM:(Zd (max x y)).length≤M:=by
  rcases Nat.le_total x y with h | h
  ·rw [Nat.max_eq_right h];exact ly
  ·rw [Nat.max_eq_left h];exact lx
 have bmm:Z0 (min xo yo)+Z0 (max xo yo - min xo yo)≤Z0 xo+Z0 yo:=by
  rcases Nat.le_total xo yo with h | h
  ·rw [Nat.min_eq_left h,Nat.max_eq_right h]
   have:=Zh7 (Nat.sub_le yo xo);omega
  ·rw [Nat.min_eq_right h,Nat.max_eq_left h]
   have:=Zh7 (Nat.sub_le xo yo);omega
 have b1:=Zh7 lxo
 have b2:=Zh7 lyo
 refine ⟨_,_,rfl,by omega,by omega,?_,Nat.le_trans (Wm (by omega)) lM,Nat.le_trans (Wm (by omega)) lM,by omega,fun hev=>?_⟩
 ·have g1:Nat.gcd (min xo yo) (max xo yo - min xo yo)=Nat.gcd xo yo:=by
   rcases Nat.le_total xo yo with h | h
   ·rw [Nat.min_eq_left h,Nat.max_eq_right h,Nat.gcd_sub_self_right h]
   ·rw [Nat.min_eq_right h,Nat.max_eq_left h,Nat.gcd_sub_self_right h,Nat.gcd_comm]
  rw [g1,x1,y1]
  rcases h with h | h
  ·have hk:k=0:=by
    rcases Nat.eq_zero_or_pos k with hk | hk
    ·exact hk
    ·obtain ⟨k',rfl⟩:∃ k',k=k'+1:=⟨k - 1,by omega⟩
     rw [x1,Nat.pow_succ,Nat.mul_comm (2 ^ k'),Nat.mul_assoc] at h;omega
   subst hk
   rw [Nat.pow_zero,Nat.one_mul,Z2h x2]
  ·have hl:l=0:=by
    rcases Nat.eq_zero_or_pos l with hk | hk
    ·exact hk
    ·obtain ⟨k',rfl⟩:∃ k',l=k'+1:=⟨l - 1,by omega⟩
     rw [y1,Nat.pow_succ,Nat.mul_comm (2 ^ k'),Nat.mul_assoc] at h;omega
   subst hl
   rw [Nat.pow_zero,Nat.one_mul,Ztz y2]
 ·have:yo≤y / 2:=by
   rcases Nat.eq_zero_or_pos l with hl | hl
   ·subst hl;rw [Nat.pow_zero,Nat.one_mul] at y1;omega
   ·obtain ⟨k',rfl⟩:∃ k',l=k'+1:=⟨l - 1,by omega⟩
    rw [y1,Nat.pow_succ,Nat.mul_comm (2 ^ k'),Nat.mul_assoc,Nat.mul_div_cancel_left _ (by decide)]
    have:=Nat.mul_le_mul_right yo (Nat.two_pow_pos k')
    omega
  have h3:=Zh7 this
  rw [Zkq] at h3
  have h4:=Zkr hy
  omega
theorem Zw2 (t:Nat) (ht:t≤32 * M):∀ (n x y:Nat),x % 2=1→y % 2=0→Z0 x+Z0 y<n→(Zd x).length≤M→(Zd y).length≤M→
  ∃ g,Ul N (t:Int) n (Zd x) (Zd y)=some g∧Zo g∧Zb g=2 ^ t * Nat.gcd x y∧g.length≤33 * M
 | 0,x,y,_,_,h,_,_=>by omega
 | n+1,x,y,hx,hy,hn,lx,ly=>by
  by_cases h0:y=0
  ·subst h0
   rw [Ul.eq_2,Vd,if_neg (by decide)]
   obtain ⟨g,g1,g2,g3,g4⟩:=Zw5 hN hM t N 0 (Zd x) (by omega) (by omega) ht (Z8 _) (by omega)
   rw [Z5,Nat.sub_zero] at g3
   exact ⟨g,g1,g2,by rw [g3,Nat.gcd_zero_right],by omega⟩
  ·obtain ⟨x',y',e1,e2,e3,e4,e5,e6,_,e7⟩:=Zw6 hN hM t (n:=n) (by omega) h0 (.inl hx) lx ly
   have:=e7 hy
   obtain ⟨g,g1,g2,g3,g4⟩:=Zw2 t ht n x' y' e2 e3 (by omega) e5 e6
   exact ⟨g,by rw [e1,g1],g2,by rw [g3,e4],g4⟩
theorem Zw1:∀ (n x y t:Nat),x≠0→y≠0→Z0 x<n→t+Z0 x≤32 * M→(Zd x).length≤M→(Zd y).length≤M→
  ∃ g,Zbs N n (Zd x) (Zd y) (t:Int)=some g∧Zo g∧Zb g=2 ^ t * Nat.gcd x y∧g.length≤33 * M
 | 0,x,y,t,_,_,h,_,_,_=>by omega
 | n+1,x,y,t,hx,hy,hn,ht,lx,ly=>by
  have bx:=Zh6 lx
  have by_:=Zh6 ly
  have last:(x % 2=1∨y % 2=1)→∃ g,Ul N (t:Int) N (Zd x) (Zd y)=some g∧Zo g∧Zb g=2 ^ t * Nat.gcd x y∧g.length≤33 * M:=fun h=>by
   obtain ⟨N',hN'⟩:∃ N',N=N'+1:=⟨N - 1,by omega⟩
   obtain ⟨x',y',e1,e2,e3,e4,e5,e6,e7,_⟩:=Zw6 hN hM t (n:=N') hx hy h lx ly
   obtain ⟨g,g1,g2,g3,g4⟩:=Zw2 hN hM t (by omega) N' x' y' e2 e3 (by omega) e5 e6
   refine ⟨g,?_,g2,by rw [g3,e4],g4⟩
   rw [← g1,← e1]
   congr 1
  rw [Zbs.eq_2,Zm2 (Z8 _),Z5,oB]
  by_cases hxe:x % 2=0
  ·rw [if_pos (dT hxe),Zm2 (Z8 _),Z5,oB,Zg5]
   by_cases hye:y % 2=0
   ·rw [if_pos (dT hye),Zm3 (Z8 _) (by omega) (by omega),oB,Zm3 (Z8 _) (by omega) (by omega),oB,Z5,Z5,Zz (by omega)]
    have hb:=Zkq x
    have h1:=Zkr hx
    obtain ⟨g,g1,g2,g3,g4⟩:=Zw1 n (x / 2) (y / 2) (t+1) (by omega) (by omega) (by omega) (by omega) (Nat.le_trans (Wm (Nat.div_le_self _ _)) lx) (Nat.le_trans (Wm (Nat.div_le_self _ _)) ly)
    rw [show ((t+1:Nat):Int)=(t:Int)+1 by omega] at g1
    refine ⟨g,g1,g2,?_,g4⟩
    rw [g3,Nat.pow_succ,Nat.mul_assoc,← Nat.gcd_mul_left]
    congr 2 <;> omega
   ·rw [if_neg (dF hye)]
    exact last (.inr (by omega))
  ·rw [if_neg (dF hxe),Zg5,if_neg (by decide)]
   exact last (.inl (by omega))
end
theorem Z5b {N M:Nat} {a b:List Int} (ha:Zo a) (hb:Zo b) (hla:a.length≤M) (hlb:b.length≤M) (hN:100 * M+64<N) (hM:M<17179869200):∃ g,Zjd N a b=some g∧Zo g∧Zb g=Nat.gcd (Zb a) (Zb b)∧g.length≤33 * M:=by
 have la:=Yu ha
 have lb:=Yu hb
 rw [Zjd,Qg ha (by omega) (by omega),oB,Qg hb (by omega) (by omega),oB]
 by_cases h1:Zb a=0
 ·rw [h1,Vd,if_pos (by decide),Nat.gcd_zero_left]
  exact ⟨_,rfl,Z8 _,Z5 _,by omega⟩
 ·have p1:=Sz h1
  rw [if_neg (dF (by omega))]
  by_cases h2:Zb b=0
  ·rw [h2,Vd,if_pos (by decide),Nat.gcd_zero_right]
   exact ⟨_,rfl,Z8 _,Z5 _,by omega⟩
  ·have p2:=Sz h2
   have bx:=Zh6 (x:=Zb a) (by omega)
   rw [if_neg (dF (by omega))]
   obtain ⟨g,g1,g2,g3,g4⟩:=Zw1 hN hM N (Zb a) (Zb b) 0 h1 h2 (by omega) (by omega) (by omega) (by omega)
   exact ⟨g,g1,g2,by rw [g3];simp,g4⟩
def Zhd (aa:Bool) (ab:List Int):Option R3:=
  some (aa,ab)
def Zes (N:Nat) (ab:Bool) (ac:List Int):Option R3:=
  (U5 N ac).bind fun aa=>if ab=true then (Zhd (decide (0<(aa.length:Int))) aa) else (Zhd false aa)
theorem Znz {N ao:Nat} {a1:Option Addr} {col:Ze} {w0:World} {ap:Bool} {ah:R2} {r:R3} (c1:Nat) (hm:Zes N ap ah=some r) (h1:Sl (Za.int .u32) col w0 a1 ao ah):
    Calls prog 174 #[.bool ap,.slice a1 ah.length ao] w0 (fun e w'=>∃ (col':Ze) (ra1:Option Addr) (rc2:Nat),e= .returned ((.agg #[.bool r.1,.slice ra1 r.2.length rc2]))∧Zf col w0 col' w'∧Zc (Za.int .u32) 95 c1 col' w' ra1 rc2 r.2):=by
 refine Y2 (m:=16) func174 rfl rfl rfl ?_;rw [Zes.eq_1] at hm;have aa:=St.start col w0;refine go ?_;refine Xj (col:=(Zk col)) #[.bool false,.slice none (([]:List Int).length) 0] 1 zeroValue37 ?_;intro ax a4 a5 ay ac;refine go ?_;obtain ⟨ad,az,hm⟩:=bZ hm;replace h1:=h1.keep (Zl.start col w0);replace aa:=aa.grow ay;refine Zh (Sw 2 az (h1.ks aa)) ?_;rintro _ a6 ⟨a7,aq,ar,rfl,au,ab⟩;refine ⟨_,rfl,?_⟩;refine Q6 rfl<|Zm<|Zv ?_;replace ac:=ac.gr au;replace aa:=aa.grow au;refine Wp.cutK [4,1000000] (fun f ae=>∃ af ai aj ak ag,Zhd ai ag=some r∧St w0 (Zk col) af ae∧Zc (Za.int .u32) 95 3 af ae aj ak ag∧Zj 37 1 af ae ax #[.bool ai,.slice aj ag.length ak]) ?_ ?_
 ·intro f ae hJ;obtain ⟨af,ai,aj,ak,ag,hm,aa,a0,ac⟩:=hJ;rw [Zhd.eq_1] at hm;refine W4 ?_;cases hm;exact ⟨rfl,_,ra ac.atN,_,_,_,rfl,aa.fin (cm [(3,c1)]),aa.fo a0⟩
 refine go ?_;refine X8 hm (fun al hm=>go ?_) fun al hm=>go ?_
 ·refine lV (.bool (decide (0<(ad.length:Int)))) (Xr (congrArg Value.bool al) rfl)<|Wt rfl<|lV (.agg #[.bool (decide (0<(ad.length:Int))),.slice aq ad.length ar]) (Yo (l:=[_,_]) (qs:=[(0,1),(1,1)]) underlying37 zeroValue37 ⟨rfl,sizeOf4,rfl,sizeOf35,trivial⟩ rfl)<|Zw ac ?_;intro a8 av a2 am;refine Zm ?_;replace ab:=ab.kp av;replace ab:=ab.recolSelf 3 (by decide);replace am:=am.recol 2 3 (by decide);replace aa:=aa.kp av a2;replace aa:=aa.recol 2 3 (by decide) (by decide);exact ⟨rfl,_,_,_,_,_,hm,aa,ab,am⟩
 refine lV (.bool false) (Xh (congrArg Value.bool al) rfl)<|Wt rfl<|lV (.agg #[.bool false,.slice aq ad.length ar]) (Yo (l:=[_,_]) (qs:=[(0,1),(1,1)]) underlying37 zeroValue37 ⟨rfl,sizeOf4,rfl,sizeOf35,trivial⟩ rfl)<|Zw ac ?_;intro a9 aw a3 an;refine Zm ?_;replace ab:=ab.kp aw;replace ab:=ab.recolSelf 3 (by decide);replace an:=an.recol 2 3 (by decide);replace aa:=aa.kp aw a3;replace aa:=aa.recol 2 3 (by decide) (by decide);exact ⟨rfl,_,_,_,_,_,hm,aa,ab,an⟩
def Zhe (N:Nat) (aa:R3):Option R3:=
  (Zes N aa.1 aa.2).bind fun ab=>some (ab.1,ab.2)
theorem Zrm {N ag:Nat} {ah:Option Addr} {col:Ze} {w0:World} {ab r:R3} (c1:Nat) (hm:Zhe N ab=some r) (ad:Sl (Za.int .u32) col w0 ah ag ab.2):
    Calls prog 179 #[(.agg #[.bool ab.1,.slice ah ab.2.length ag])] w0 (fun e w'=>∃ (col':Ze) (ra1:Option Addr) (rc2:Nat),e= .returned ((.agg #[.bool r.1,.slice ra1 r.2.length rc2]))∧Zf col w0 col' w'∧Zc (Za.int .u32) 95 c1 col' w' ra1 rc2 r.2):=by
 refine Y2 (m:=8) func179 rfl rfl rfl ?_;rw [Zhe.eq_1] at hm;have aa:=St.start col w0;refine go ?_;refine Xv (col:=(Zk col)) 1 rfl ?_;intro aq ar al am ac;refine Xj (col:=al) #[.bool false,.slice none (([]:List Int).length) 0] 2 zeroValue37 ?_;intro au av aw ai ae;refine go ?_;refine Xx ⟨_,_,rfl⟩ ?_;replace ac:=ac.gr ai;refine lW ((ac.atN).nth (q:=0) rfl)<|Xz ac ?_;obtain ⟨ax,an,hm⟩:=bZ hm;replace ad:=ad.keep (Zl.start col w0);replace aa:=(aa.grow am).grow ai;refine Zh (Znz 3 an (ad.ks aa)) ?_;rintro _ ay ⟨az,a0,a1,rfl,aj,af⟩;refine ⟨_,rfl,?_⟩;replace ae:=ae.gr aj;refine Zw ae ?_;intro a2 ak ao ap;refine go ?_;cases hm;replace aa:=(aa.grow aj).kp ak ao;replace af:=af.kp ak;exact ⟨rfl,_,ra ap.atN,_,_,_,rfl,aa.fin (cm [(3,c1)]),aa.fo af⟩
def Zjh (N:Nat) (aa:R3) (ab:List Int):Option R1:=
  (Zjd N aa.2 ab).bind fun ac=>(Zg3 N aa.2 ac).bind fun ae=>(Zg3 N ab ac).bind fun af=>(Zhe N (aa.1,ae.1)).bind fun ad=>(U5 N af.1).bind fun ag=>some ((ad.1,ad.2),ag)
theorem Zz3 {N a2 a3:Nat} {a4 a1:Option Addr} {col:Ze} {w0:World} {ai:R3} {ap:R2} {r:R1} (c1 c2:Nat) (hm:Zjh N ai ap=some r) (an:Sl (Za.int .u32) col w0 a4 a2 ai.2) (h1:Sl (Za.int .u32) col w0 a1 a3 ap):
    Calls prog 125 #[(.agg #[.bool ai.1,.slice a4 ai.2.length a2]),.slice a1 ap.length a3] w0 (fun e w'=>∃ (col':Ze) (ra1:Option Addr) (rc2:Nat) (ra4:Option Addr) (rc5:Nat),e= .returned ((.agg #[.bool r.1.1,.slice ra1 r.1.2.length rc2,.slice ra4 r.2.length rc5]))∧Zf col w0 col' w'∧Zc (Za.int .u32) 95 c1 col' w' ra1 rc2 r.1.2∧Zc (Za.int .u32) 95 c2 col' w' ra4 rc5 r.2):=by
 refine Y2 (m:=39) func125 rfl rfl rfl ?_;rw [Zjh.eq_1] at hm;have aa:=St.start col w0;refine go ?_;refine Xv (col:=(Zk col)) 1 rfl ?_;intro b1 b2 bd be ab;refine Xj (col:=bd) #[.bool false,.slice none (([]:List Int).length) 0,.slice none (([]:List Int).length) 0] 2 zeroValue39 ?_;intro b3 b4 b5 a5 aq;refine go ?_;refine Xx ⟨_,_,rfl⟩ ?_;replace ab:=ab.gr a5;refine lW ((ab.atN).nth (q:=1) rfl)<|Wt rfl ?_;obtain ⟨b6,bf,hm⟩:=bZ hm;replace an:=an.keep (Zl.start col w0);replace h1:=h1.keep (Zl.start col w0);replace aa:=(aa.grow be).grow a5;refine Zh (Zzz 3 bf (an.ks aa) (h1.ks aa)) ?_;rintro _ bg ⟨ar,b7,b8,rfl,au,ao⟩;refine ⟨_,rfl,go ?_⟩;refine Xx ⟨_,_,rfl⟩ ?_;replace ab:=ab.gr au;refine lW ((ab.atN).nth (q:=1) rfl)<|Wt rfl ?_;obtain ⟨ac,bh,hm⟩:=bZ hm;replace aa:=aa.grow au;refine Zh (Zri 4 5 bh ((an.ks aa).froz 3) (ao.toSlF (Zg.int .u32))) ?_;rintro _ bi ⟨bj,av,aw,a6,a7,rfl,ad,aj,b9⟩;refine ⟨_,rfl,?_⟩;replace aj:=aj.thaw (Zy .u32) ad ((Fz.refl (col:=ar)).froz 3) (by decide);replace ad:=ad.thawR (col:=ar);generalize Z7 bg.heap.size ar bj=ax at *;refine lM (.tuple #[.slice av ac.1.length aw,.slice a6 ac.2.1.length a7,.int .i64 ac.2.2])<|lV (.slice av ac.1.length aw) (Xf rfl rfl)<|lV (.slice a6 ac.2.1.length a7) (Xf rfl rfl)<|lV (.int .i64 ac.2.2) (Xf rfl rfl)<|go ?_;obtain ⟨af,bk,hm⟩:=bZ hm;replace ao:=ao.gr ad;replace aa:=aa.grow ad;refine Zh (Zri 6 7 bk ((h1.ks aa).froz 3) (ao.toSlF (Zg.int .u32))) ?_;rintro _ bm ⟨bn,a8,a9,ba,bb,rfl,ae,ak,ca⟩;refine ⟨_,rfl,?_⟩;replace ak:=ak.thaw (Zy .u32) ae ((Fz.refl (col:=ax)).froz 3) (by decide);replace ae:=ae.thawR (col:=ax);generalize Z7 bi.heap.size ax bn=ay at *;refine lM (.tuple #[.slice a8 af.1.length a9,.slice ba af.2.1.length bb,.int .i64 af.2.2])<|lV (.slice a8 af.1.length a9) (Xf rfl rfl)<|lV (.slice ba af.2.1.length bb) (Xf rfl rfl)<|lV (.int .i64 af.2.2) (Xf rfl rfl)<|go ?_;refine Xx ⟨_,_,rfl⟩ ?_;replace ab:=(ab.gr ad).gr ae
 refine lW ((ab.atN).nth (q:=0) rfl)<|Wt rfl<|lV (.agg #[.bool ai.1,.slice av ac.1.length aw]) (Yo (l:=[_,_]) (qs:=[(0,1),(1,1)]) underlying37 zeroValue37 ⟨rfl,sizeOf4,rfl,sizeOf35,trivial⟩ rfl) ?_;obtain ⟨bc,bo,hm⟩:=bZ hm;replace aj:=aj.gr ae;refine Zh (Zrm 8 bo (aj.toSlF (Zg.int .u32))) ?_;rintro _ bp ⟨bq,br,bs,rfl,ag,al⟩;refine ⟨_,rfl,?_⟩;replace al:=al.thaw (Zy .u32) ag ((Fz.refl (col:=ay)).froz 4) (by decide);replace ag:=ag.thawR (col:=ay);generalize Z7 bm.heap.size ay bq=az at *;refine Wt rfl ?_;obtain ⟨bt,bu,hm⟩:=bZ hm;replace ak:=ak.gr ag;refine Zh (Sw 9 bu (ak.toSlF (Zg.int .u32))) ?_;rintro _ cb ⟨bv,bw,bx,rfl,ah,am⟩;refine ⟨_,rfl,?_⟩;replace am:=am.thaw (Zy .u32) ah ((Fz.refl (col:=az)).froz 6) (by decide);replace ah:=ah.thawR (col:=az);generalize Z7 bp.heap.size az bv=cc at *;refine lV (.agg #[.bool bc.1,.slice br bc.2.length bs,.slice bw bt.length bx]) (Yo (l:=[_,_]) (qs:=[(0,2),(2,1)]) underlying39 zeroValue39 ⟨rfl,sizeOf37,rfl,sizeOf35,trivial⟩ rfl) ?_;replace aq:=((((aq.gr au).gr ad).gr ae).gr ag).gr ah;refine Zw aq ?_;intro cd a0 bz b0;refine go ?_;cases hm;replace aa:=(((aa.grow ae).grow ag).grow ah).kp a0 bz;replace al:=(al.gr ah).kp a0;replace am:=am.kp a0;exact ⟨rfl,_,ra b0.atN,_,_,_,_,_,rfl,aa.fin (cm [(8,c1),(9,c2)]),aa.fo al,aa.fo am⟩
def Zjg (N:Nat) (aa:R3):Option Int:=
  (Zhe N (aa.1,aa.2)).bind fun ab=>if (decide ((ab.2.length:Int)=0))=true then (some 0) else (if ab.1=true then (some (-1)) else (some 1))
theorem Zz0 {N ad:Nat} {ae:Option Addr} {col:Ze} {w0:World} {ab:R3} {r:Int} (hm:Zjg N ab=some r) (ac:Sl (Za.int .u32) col w0 ae ad ab.2):
    Calls prog 197 #[(.agg #[.bool ab.1,.slice ae ab.2.length ad])] w0 (fun e w'=>e= .returned ((.int .i64 r))∧Below w0.heap.size w0 w'):=by
 refine Xm 2 (m:=12) func197 rfl rfl rfl rfl rfl ?_;rw [Zjg.eq_1] at hm;have aa:=St.start col w0;refine go ?_;refine Xv (col:=(Zk col)) 1 rfl ?_;intro ap aq ar ag ah;refine go ?_;refine lV _ (Xb isAgg37 sizeOf37 ah) ?_;obtain ⟨au,ai,hm⟩:=bZ hm;replace ac:=ac.keep (Zl.start col w0);replace aa:=aa.grow ag;refine Zh (Zrm 2 ai (ac.ks aa)) ?_;rintro _ av ⟨aj,aw,ax,rfl,ak,ay⟩;refine ⟨_,rfl,?_⟩;refine Xj (col:=aj) #[.bool false,.slice none (([]:List Int).length) 0] 3 zeroValue37 ?_;intro az a0 a1 al am;refine Zw am ?_;intro a2 an ao af;refine go ?_;refine Xz af ?_;refine go ?_;replace aa:=((aa.grow ak).grow al).kp an ao;refine Zq hm (fun hb hm=>go ?_) fun hb hm=>go ?_
 ·cases hm;exact ⟨rfl,rfl,aa.below⟩
 refine Xz af<|Zm ?_;refine Zq hm (fun hb hm=>go ?_) fun hb hm=>go ?_
 ·cases hm;exact ⟨rfl,rfl,aa.below⟩
 cases hm;exact ⟨rfl,rfl,aa.below⟩
def Zhf (N:Nat) (aa:Int):Option R3:=
  if (decide (0≤aa))=true then ((Zg8 N (u64.wrap aa)).bind fun ad=>(Zes N false ad).bind fun ab=>some (ab.1,ab.2)) else ((Zg8 N (u64.wrap (i64.wrap (-(i64.wrap (aa+1)))))).bind fun ae=>(Zi9 N ae [1]).bind fun af=>(Zes N true af).bind fun ac=>some (ac.1,ac.2))
theorem Zrn {N:Nat} {col:Ze} {w0:World} {an:Int} {r:R3} (c1:Nat) (hm:Zhf N an=some r):
    Calls prog 183 #[.int .i64 an] w0 (fun e w'=>∃ (col':Ze) (ra1:Option Addr) (rc2:Nat),e= .returned ((.agg #[.bool r.1,.slice ra1 r.2.length rc2]))∧Zf col w0 col' w'∧Zc (Za.int .u32) 95 c1 col' w' ra1 rc2 r.2):=by
 refine Y2 (m:=17) func183 rfl rfl rfl ?_;rw [Zhf.eq_1] at hm;have aa:=St.start col w0;refine go ?_;refine Xj (col:=(Zk col)) #[.bool false,.slice none (([]:List Int).length) 0] 1 zeroValue37 ?_;intro be bf ao av ab;refine go ?_;replace aa:=aa.grow av;refine Zq hm (fun hb hm=>go ?_) fun hb hm=>go ?_
 ·obtain ⟨bg,aw,hm⟩:=bZ hm;refine Zh (Zrj (col:=ao) 2 aw) ?_;rintro _ ax ⟨ah,bh,bi,rfl,ap,ay⟩;refine ⟨_,rfl,?_⟩;obtain ⟨bj,az,hm⟩:=bZ hm;refine Zh (Znz 3 az (ay.toSlF (Zg.int .u32))) ?_;rintro _ bk ⟨a0,bm,bn,rfl,ac,ad⟩;refine ⟨_,rfl,?_⟩;replace ad:=ad.thaw (Zy .u32) ac ((Fz.refl (col:=ah)).froz 2) (by decide);replace ac:=ac.thawR (col:=ah);generalize Z7 ax.heap.size ah a0=bo at *;replace ab:=(ab.gr ap).gr ac;refine Zw ab ?_;intro bp aq a1 a2;refine go ?_;cases hm;replace aa:=((aa.grow ap).grow ac).kp aq a1;replace ad:=ad.kp aq;exact ⟨rfl,_,ra a2.atN,_,_,_,rfl,aa.fin (cm [(3,c1)]),aa.fo ad⟩
 obtain ⟨bq,a3,hm⟩:=bZ hm;refine Zh (Zrj (col:=ao) 4 a3) ?_;rintro _ br ⟨a4,bs,bt,rfl,ar,ai⟩;refine ⟨_,rfl,?_⟩;refine W8 (col:=a4) [1] 5 ?_;intro bu a5 aj ak a6;obtain ⟨bv,a7,hm⟩:=bZ hm;replace ai:=ai.gr ak;refine Zh (Zzw 6 a7 ((ai.toSlF (Zg.int .u32)).froz 5) ((a6.froz 4 (by decide)).toSlF (Zg.int .u32))) ?_;rintro _ a8 ⟨a9,bw,bx,rfl,ae,al⟩;refine ⟨_,rfl,?_⟩;replace al:=al.thaw (Zy .u32) ae (((Fz.refl (col:=aj)).froz 4).froz 5) (by decide);replace ae:=ae.thawR (col:=aj);generalize Z7 a5.heap.size aj a9=am at *;obtain ⟨bz,ba,hm⟩:=bZ hm;refine Zh (Znz 7 ba (al.toSlF (Zg.int .u32))) ?_;rintro _ b0 ⟨bb,b1,b2,rfl,af,ag⟩;refine ⟨_,rfl,?_⟩;replace ag:=ag.thaw (Zy .u32) af ((Fz.refl (col:=am)).froz 6) (by decide);replace af:=af.thawR (col:=am);generalize Z7 a8.heap.size am bb=b3 at *;replace ab:=(((ab.gr ar).gr ak).gr ae).gr af;refine Zw ab ?_;intro b4 au bc bd;refine go ?_;cases hm;replace aa:=((((aa.grow ar).grow ak).grow ae).grow af).kp au bc;replace ag:=ag.kp au;exact ⟨rfl,_,ra bd.atN,_,_,_,rfl,aa.fin (cm [(7,c1)]),aa.fo ag⟩
def Zlt (N:Nat) (ac:R3) (aa:R3):Option (R1×Int):=
  (Zjg N (aa.1,aa.2)).bind fun ad=>if (decide (ad=0))=true then (some (((false,([]:List Int)),([]:List Int)),11)) else ((Zjh N (!decide (ac.1=aa.1),ac.2) aa.2).bind fun ab=>some (((ab.1.1,ab.1.2),ab.2),0))
theorem Zz1 {N ai ap:Nat} {aj aq:Option Addr} {col:Ze} {w0:World} {ac af:R3} {r:(R1×Int)} (c1 c2:Nat) (hm:Zlt N ac af=some r) (ak:Sl (Za.int .u32) col w0 aj ai ac.2) (ag:Sl (Za.int .u32) col w0 aq ap af.2):
    Calls prog 182 #[(.agg #[.bool ac.1,.slice aj ac.2.length ai]),(.agg #[.bool af.1,.slice aq af.2.length ap])] w0 (fun e w'=>∃ (col':Ze) (ra1:Option Addr) (rc2:Nat) (ra4:Option Addr) (rc5:Nat),e= .returned (.tuple #[(.agg #[.bool r.1.1.1,.slice ra1 r.1.1.2.length rc2,.slice ra4 r.1.2.length rc5]),.int .i64 r.2])∧Zf col w0 col' w'∧Zc (Za.int .u32) 95 c1 col' w' ra1 rc2 r.1.1.2∧Zc (Za.int .u32) 95 c2 col' w' ra4 rc5 r.1.2):=by
 refine Y2 (m:=21) func182 rfl rfl rfl ?_;rw [Zlt.eq_1] at hm;have aa:=St.start col w0;refine go ?_;refine Xv (col:=(Zk col)) 1 rfl ?_;intro a8 a9 aw ax ah;refine Xv (col:=aw) 2 rfl ?_;intro ba bb ay ar ab;refine Xj (col:=ay) #[.bool false,.slice none (([]:List Int).length) 0,.slice none (([]:List Int).length) 0] 3 zeroValue39 ?_;intro bc az au al ad;refine go ?_;replace ab:=ab.gr al;refine lV _ (Xb isAgg37 sizeOf37 ab) ?_;obtain ⟨bd,a0,hm⟩:=bZ hm;replace ag:=ag.keep (Zl.start col w0);replace aa:=((aa.grow ax).grow ar).grow al;refine Zh (Zz0 a0 (ag.ks aa)) ?_;rintro _ a1 ⟨rfl,ae⟩;refine ⟨_,rfl,?_⟩;replace ae:Zf au az au a1:=.of_below ae;refine go ?_;replace ak:=ak.keep (Zl.start col w0);replace ah:=((ah.gr ar).gr al).gr ae;replace ab:=ab.gr ae;replace ad:=ad.gr ae;replace aa:=aa.grow ae;refine Zq hm (fun hb hm=>go ?_) fun hb hm=>go ?_
 ·refine lV (.agg #[.bool false,.slice none (([]:List Int).length) 0,.slice none (([]:List Int).length) 0]) (Yo (l:=[_,_]) (qs:=[(0,2),(2,1)]) underlying39 zeroValue39 ⟨rfl,sizeOf37,rfl,sizeOf35,trivial⟩ rfl)<|Zw ad ?_;intro be a2 a3 a4;refine go ?_;cases hm;replace aa:=aa.kp a2 a3;exact ⟨rfl,_,Tw a4.atN,_,none,0,none,0,rfl,aa.fin (cm []),Zc.nil,Zc.nil⟩
 refine Xz ah<|Xz ab ?_;refine go ?_;refine Xz ah<|lV (.agg #[.bool (!decide (ac.1=af.1)),.slice aj ac.2.length ai]) (Yo (l:=[_,_]) (qs:=[(0,1),(1,1)]) underlying37 zeroValue37 ⟨rfl,sizeOf4,rfl,sizeOf35,trivial⟩ rfl)<|Xz ab ?_;obtain ⟨bf,a5,hm⟩:=bZ hm;refine Zh (Zz3 4 5 a5 (ak.ks aa) (ag.ks aa)) ?_;rintro _ bg ⟨bh,bi,bj,bk,bm,rfl,av,am,an⟩;refine ⟨_,rfl,?_⟩;replace ad:=ad.gr av;refine Zw ad ?_;intro bn ao a6 a7;refine go ?_;cases hm;replace aa:=(aa.grow av).kp ao a6;replace am:=am.kp ao;replace an:=an.kp ao;exact ⟨rfl,_,Tw a7.atN,_,_,_,_,_,rfl,aa.fin (cm [(4,c1),(5,c2)]),aa.fo am,aa.fo an⟩
def Zlu (N:Nat) (ad:Int) (ae:Int):Option (R1×Int):=
  (Zhf N ad).bind fun ab=>(Zhf N ae).bind fun ac=>(Zlt N (ab.1,ab.2) (ac.1,ac.2)).bind fun aa=>some (((aa.1.1.1,aa.1.1.2),aa.1.2),aa.2)
theorem Zz2 {N:Nat} {col:Ze} {w0:World} {ak al:Int} {r:(R1×Int)} (c1 c2:Nat) (hm:Zlu N ak al=some r):
    Calls prog 129 #[.int .i64 ak,.int .i64 al] w0 (fun e w'=>∃ (col':Ze) (ra1:Option Addr) (rc2:Nat) (ra4:Option Addr) (rc5:Nat),e= .returned (.tuple #[(.agg #[.bool r.1.1.1,.slice ra1 r.1.1.2.length rc2,.slice ra4 r.1.2.length rc5]),.int .i64 r.2])∧Zf col w0 col' w'∧Zc (Za.int .u32) 95 c1 col' w' ra1 rc2 r.1.1.2∧Zc (Za.int .u32) 95 c2 col' w' ra4 rc5 r.1.2):=by
 refine Y2 (m:=13) func129 rfl rfl rfl ?_;rw [Zlu.eq_1] at hm;have ab:=St.start col w0;refine go ?_;refine Xj (col:=(Zk col)) #[.bool false,.slice none (([]:List Int).length) 0,.slice none (([]:List Int).length) 0] 1 zeroValue39 ?_;intro a4 a5 an ao ag;refine go ?_;obtain ⟨a6,ap,hm⟩:=bZ hm;refine Zh (Zrn (col:=an) 2 ap) ?_;rintro _ a7 ⟨aq,a8,a9,rfl,am,ah⟩;refine ⟨_,rfl,?_⟩;refine Yf rfl ?_;obtain ⟨ba,ar,hm⟩:=bZ hm;refine Zh (Zrn (col:=aq) 3 ar) ?_;rintro _ au ⟨ae,bb,bc,rfl,ai,av⟩;refine ⟨_,rfl,?_⟩;obtain ⟨af,aw,hm⟩:=bZ hm;replace ah:=ah.gr ai;refine Zh (Zz1 4 5 aw ((ah.toSlF (Zg.int .u32)).froz 3) ((av.froz 2 (by decide)).toSlF (Zg.int .u32))) ?_;rintro _ bd ⟨ax,ay,az,a0,a1,rfl,aa,ac,ad⟩;refine ⟨_,rfl,?_⟩;replace ac:=ac.thaw (Zy .u32) aa (((Fz.refl (col:=ae)).froz 2).froz 3) (by decide);replace ad:=ad.thaw (Zy .u32) aa (((Fz.refl (col:=ae)).froz 2).froz 3) (by decide);replace aa:=aa.thawR (col:=ae);generalize Z7 au.heap.size ae ax=be at *;refine lV (.agg #[.bool af.1.1.1,.slice ay af.1.1.2.length az,.slice a0 af.1.2.length a1]) (Xf rfl rfl)<|lV (.int .i64 af.2) (Xf rfl rfl) ?_;replace ag:=((ag.gr am).gr ai).gr aa;refine Zw ag ?_;intro bf aj a2 a3;refine go ?_;cases hm;replace ab:=((((ab.grow ao).grow am).grow ai).grow aa).kp aj a2;replace ac:=ac.kp aj;replace ad:=ad.kp aj;exact ⟨rfl,_,Tw a3.atN,_,_,_,_,_,rfl,ab.fin (cm [(4,c1),(5,c2)]),ab.fo ac,ab.fo ad⟩
def Zat (N:Nat) (ab:Int) (ac:Int):Option R1:=
  (Zlu N ab ac).bind fun aa=>some ((aa.1.1.1,aa.1.1.2),aa.1.2)
theorem Zfh {N:Nat} {col:Ze} {w0:World} {ai aj:Int} {r:R1} (c1 c2:Nat) (hm:Zat N ai aj=some r):
    Calls prog 131 #[.int .i64 ai,.int .i64 aj] w0 (fun e w'=>∃ (col':Ze) (ra1:Option Addr) (rc2:Nat) (ra4:Option Addr) (rc5:Nat),e= .returned ((.agg #[.bool r.1.1,.slice ra1 r.1.2.length rc2,.slice ra4 r.2.length rc5]))∧Zf col w0 col' w'∧Zc (Za.int .u32) 95 c1 col' w' ra1 rc2 r.1.2∧Zc (Za.int .u32) 95 c2 col' w' ra4 rc5 r.2):=by
 refine Y2 (m:=14) func131 rfl rfl rfl ?_;rw [Zat.eq_1] at hm;have ab:=St.start col w0;refine go ?_;refine Xj (col:=(Zk col)) #[.bool false,.slice none (([]:List Int).length) 0,.slice none (([]:List Int).length) 0] 1 zeroValue39 ?_;intro a0 a1 ap aq ae;refine go ?_;obtain ⟨aa,ar,hm⟩:=bZ hm;refine Zh (Zz2 (col:=ap) 2 3 ar) ?_;rintro _ a2 ⟨au,ak,al,am,an,rfl,ao,af,ag⟩;refine ⟨_,rfl,?_⟩;refine lM (.tuple #[(.agg #[.bool aa.1.1.1,.slice ak aa.1.1.2.length al,.slice am aa.1.2.length an]),.int .i64 aa.2])<|lV (.agg #[.bool aa.1.1.1,.slice ak aa.1.1.2.length al,.slice am aa.1.2.length an]) (Xf rfl rfl)<|lV (.int .i64 aa.2) (Xf rfl rfl)<|Xj (col:=au) #[.bool false,.slice none (([]:List Int).length) 0,.slice none (([]:List Int).length) 0] 4 zeroValue39 ?_;intro a3 a4 a5 ac av;refine Zw av ?_;intro a6 ad aw ax;refine go ?_;refine lV _ (Xb isAgg39 sizeOf39 ax) ?_;replace ae:=((ae.gr ao).gr ac).kp ad;refine Zw ae ?_;intro a7 ah ay az;refine go ?_;cases hm;replace ab:=((((ab.grow aq).grow ao).grow ac).kp ad aw).kp ah ay;replace af:=((af.gr ac).kp ad).kp ah;replace ag:=((ag.gr ac).kp ad).kp ah;exact ⟨rfl,_,ra az.atN,_,_,_,_,_,rfl,ab.fin (cm [(2,c1),(3,c2)]),ab.fo af,ab.fo ag⟩
theorem Zp5 {N k:Nat} {neg:Bool} {m:List Int} (hm:Zo m) (hk:m.length≤k) (hr:Xi N k):Zes N neg m=some (Xa (Zr (neg,m))):=by
 obtain ⟨r1,r2⟩:=hr
 rw [Zes,Qg hm (by omega) (by omega),oB,Zj1]
 have e:decide (0<((Zd (Zb m)).length:Int))=decide (Zb m≠0):=by
  by_cases h:Zb m=0
  ·rw [h,Vd];decide
  ·have:=Sz h
   rw [decide_eq_true (by omega),decide_eq_true h]
 cases neg
 ·rw [if_neg (by decide),Zhd,Bool.false_and]
 ·rw [if_pos rfl,Zhd,e,Bool.true_and]
theorem Zw8 {N k:Nat} {a:ZV} (hm:Zo a.2) (hk:a.2.length≤k) (hr:Xi N k):Zhe N a=some (Xa (Zr a)):=by
 rw [Zhe,Zp5 hm hk hr];rfl
theorem Z5f {N k:Nat} {a:ZV} (hm:Zo a.2) (hk:a.2.length≤k) (hr:Xi N k):Zjg N a=some (Zr a).sign:=by
 rw [Zjg,Zw8 hm hk hr,oB,Xa]
 generalize Zr a=z
 by_cases h:z=0
 ·subst h;rw [Int.natAbs_zero,Vd,if_pos (by decide)];rfl
 ·have:=Sz (n:=z.natAbs) (by omega)
  rw [if_neg (dF (by simp only;omega))]
  by_cases h2:z<0
  ·rw [if_pos (dT h2),Int.sign_eq_neg_one_of_neg h2]
  ·rw [if_neg (fun hc=>h2 (of_decide_eq_true hc)),Int.sign_eq_one_of_pos (by omega)]
theorem Z24 {a:ZV} (hm:Zo a.2):(Xa (Zr a)).2.length≤a.2.length:=by
 rw [Q8,Zh0];exact Yu hm
theorem Zxa {N:Nat} {z:Int} (h:-9223372036854775808≤z∧z≤9223372036854775807) (hr:Xi N 4):Zhf N z=some (Xa z):=by
 have hr':=hr
 obtain ⟨r1,r2⟩:=hr'
 have l2:∀ n:Nat,n<18446744073709551616→(Zd n).length≤2:=fun n hn=>W0.2 (by simpa using hn)
 have l1:Zo [1]:=.cons (by decide) .nil
 rw [Zhf]
 by_cases hz:0≤z
 ·rw [if_pos (dT hz),Xo (by omega),Zxb (by omega) (by omega),oB,Zp5 (Z8 _) (l2 _ (by omega)) (hr.mono (by omega)),oB]
  have e2:Zr (false,Zd z.toNat)=z:=by simp only [Zr,Z5];simp;omega
  rw [e2]
 ·have hl3:=l2 (-z - 1).toNat (by omega)
  have e:u64.wrap (i64.wrap (-i64.wrap (z+1)))= -z - 1:=by rw [Zz (x:=z+1) (by omega),Zz (by omega),Xo (by omega)];omega
  rw [if_neg (dF hz),e,Zxb (by omega) (by omega),oB,Z41 (Z8 _) l1 (by simp only [List.length_singleton];omega) (by simp only [List.length_singleton];omega),oB,Z5,Wc,Yv,Zp5 (k:=4) (Z8 _) (by
   have:=l2 ((-z - 1).toNat+((1:Int).toNat+4294967296 * 0)) (by omega)
   omega) hr,oB]
  have e2:Zr (true,Zd ((-z - 1).toNat+((1:Int).toNat+4294967296 * 0)))=z:=by simp only [Zr,Z5,if_true];omega
  rw [e2]
theorem Z5c {N k l:Nat} {num:ZV} {den:List Int} (hn:Zo num.2) (hd:Zo den) (h0:Zb den≠0) (hk:num.2.length≤k) (hl:den.length≤l) (hr:Xi N (k+l)):
  Zjh N num den=some (Zn (mkRat (Zr num) (Zb den))):=by
 have hr':=hr
 obtain ⟨r1,r2⟩:=hr'
 have l1:=Yu hn
 have l2:=Yu hd
 have hg:Nat.gcd (Zb num.2) (Zb den)≠0:=fun h=>h0 (Nat.gcd_eq_zero_iff.1 h).2
 have lg:(Zd (Nat.gcd (Zb num.2) (Zb den))).length≤den.length:=Nat.le_trans (Wm (Nat.gcd_le_right _ (by omega))) l2
 have lq:=Wm (Nat.div_le_self (Zb num.2) (Nat.gcd (Zb num.2) (Zb den)))
 have ld:=Wm (Nat.div_le_self (Zb den) (Nat.gcd (Zb num.2) (Zb den)))
 obtain ⟨g,g1,g2,g3,g4⟩:=Z5b (N:=N) (M:=k+l) hn hd (by omega) (by omega) (by omega) (by omega)
 rw [Zjh,g1,oB,Zww hn g2 (by rw [g3];omega) (by omega) (by rw [g3];omega) (by omega),oB,Zww hd g2 (by rw [g3];omega) (by omega) (by rw [g3];omega) (by omega),oB,g3,if_neg hg,if_neg hg,
  Zw8 (k:=k) (a:=(num.1,Zd (Zb num.2 / Nat.gcd (Zb num.2) (Zb den)))) (Z8 _) (by simp only;omega) (hr.mono (by omega)),oB,Qg (Z8 _) (by omega) (by omega),oB,Zvh (neg:=num.1) h0,Zj1,Z5,Z5]
theorem Z6c (n:Nat):Zr (false,Zd n)=n:=by simp [Zr,Z5]
theorem Z6e {N:Nat} {a b:Int} (h:-9223372036854775808≤a∧a≤9223372036854775807) (g:0<b∧b≤9223372036854775807) (hr:Xi N 8):Zat N a b=some (Zn ((a:Rat) / (b:Rat))):=by
 have l2:∀ z:Int,-9223372036854775808≤z∧z≤9223372036854775807→(Xa z).2.length≤2:=fun z hz=>W0.2 (by simp;omega)
 have la:=l2 a h
 have lb:=l2 b (by omega)
 have hb0:Zb (Xa b).2≠0:=by rw [Q8,Z5];omega
 have e:=Zu4 (Zr (Xa a)) 1 (Xa b) 1 (Xa a).1 (Xa a).2 rfl hb0
 rw [Zat,Zlu,Zxa h (hr.mono (by omega)),oB,Zxa (by omega) (hr.mono (by omega)),oB,Zlt,Z5f (a:=Xa b) (V3 _) lb (hr.mono (by omega)),oB,V8,Int.sign_eq_one_of_pos g.1,if_neg (by decide),Z5c (num:=(!decide ((Xa a).1=(Xa b).1),(Xa a).2)) (V3 _) (V3 _) hb0 la lb (hr.mono (by omega)),oB,oB,oB]
 rw [Rat.mkRat_eq_div,Rat.mkRat_eq_div,V8,V8] at e
 have e1:(a:Rat) / ((1:Nat):Rat) / ((b:Rat) / ((1:Nat):Rat))=(a:Rat) / (b:Rat):=by
  have h1:((1:Nat):Rat)=1:=rfl
  have h2:(1:Rat)⁻¹=1:=Rat.inv_eq_of_mul_eq_one (by grind)
  simp only [h1,Rat.div_def,h2,Rat.mul_one]
 rw [e1,Nat.one_mul,Nat.mul_one] at e
 rw [e]
 have e2:Zr (!decide ((Xa a).1=(Xa b).1),Zd (Zb (Xa a).2))=Zr (!decide ((Xa a).1=(Xa b).1),(Xa a).2):=by simp only [Zr,Z5]
 rw [e2]
theorem div_one (a:Rat):a / 1=a:=by
 have h2:(1:Rat)⁻¹=1:=Rat.inv_eq_of_mul_eq_one (by grind)
 rw [Rat.div_def,h2,Rat.mul_one]
def Zew (ab:ByteArray):List ByteArray→Nat→Option Int
  | [],aa=>some (-1)
  | ac :: ad,aa=>if (decide (ab=ac))=true then (some (aa:Int)) else ((Zew ab ad) (aa+1))
termination_by structural x=>x
def Zmb (aa:List ByteArray) (ab:ByteArray):Option Int:=
  Zew ab aa 0
theorem Z0h {ag:Nat} {a0:Option Addr} {col:Ze} {w0:World} {ab:R4} {ae:ByteArray} {r:Int} (hm:Zmb ab ae=some r) (h0:Sl Za.str col w0 a0 ag ab):
    Calls prog 195 #[.slice a0 ab.length ag,.string ae] w0 (fun e w'=>e= .returned ((.int .i64 r))∧Below w0.heap.size w0 w'):=by
 refine Xm 4 (m:=19) func195 rfl rfl rfl rfl rfl ?_;rw [Zmb.eq_1] at hm;have aa:=St.start col w0;refine go ?_;refine Z9 [0,1,7,1000000] (fun n f ah=>∃ ai ac ad,n=ad.length∧ab.drop ac=ad∧Zew ae ad ac=some r∧St w0 (Zk col) ai ah∧[8].map f=[.int .i64 ac]) ab.length ⟨_,0,_,rfl,rfl,hm,aa,rfl⟩ ?_;clear hm;intro n f ah hI;obtain ⟨ai,ac,ad,hn,hl,hm,aa,hs⟩:=hI;subst hn;refine .lL [8] hs ?_;replace h0:=h0.keep (Zl.start col w0)
 cases ad with
 | nil=>
  have hk:¬ ((ac:Int)<(ab.length:Int)):=by have:=List.drop_eq_nil_iff.1 hl;omega
  have hkb:=decide_eq_false hk;rw [Zew.eq_1] at hm;refine go ?_;refine X9 (congrArg Value.bool hkb)<|go ?_;cases hm;exact ⟨rfl,rfl,aa.below⟩
 | cons am aj=>
  obtain ⟨af,ak,al⟩:=Ym hl;have hk:(ac:Int)<(ab.length:Int):=by omega
  have hkb:=decide_eq_true hk;rw [Zew.eq_2] at hm;refine go ?_;refine Yc (congrArg Value.bool hkb)<|go ?_;refine lI af ((h0.ks aa).addr af)<|lW ((h0.ks aa).atStr af) ?_;refine go ?_;refine Zq hm (fun hb hm=>go ?_) fun hb hm=>go ?_
  ·cases hm;exact ⟨rfl,rfl,aa.below⟩
  exact ⟨aj.length,by simp,rfl,⟨_,_,_,rfl,ak,hm,aa,(Ys (congrArg (Value.int .i64) (Yp (Nat.lt_of_lt_of_le al (h0.ks aa).1.1))) rfl)⟩⟩
def Zjr (aa:List ByteArray) (ab:ByteArray):Option Bool:=
  (Zmb aa ab).bind fun ac=>some (decide (0≤ac))
theorem Z0f {ad:Nat} {a0:Option Addr} {col:Ze} {w0:World} {ab:R4} {ae:ByteArray} {r:Bool} (hm:Zjr ab ae=some r) (h0:Sl Za.str col w0 a0 ad ab):
    Calls prog 159 #[.slice a0 ab.length ad,.string ae] w0 (fun e w'=>e= .returned ((.bool r))∧Below w0.heap.size w0 w'):=by
 refine Xm 4 (m:=9) func159 rfl rfl rfl rfl rfl ?_;rw [Zjr.eq_1] at hm;have aa:=St.start col w0;refine go ?_;obtain ⟨ah,af,hm⟩:=bZ hm;replace h0:=h0.keep (Zl.start col w0);refine Zh (Z0h af (h0.ks aa)) ?_;rintro _ ag ⟨rfl,ac⟩;refine ⟨_,rfl,?_⟩;replace ac:Zf (Zk col) w0 (Zk col) ag:=.of_below ac;refine go ?_;cases hm;replace aa:=aa.grow ac;exact ⟨rfl,rfl,aa.below⟩
def Zcv:List ByteArray→(List Re)→Option Bool
  | [],aa=>some false
  | ab :: ac,aa=>if (decide (0<((Wn aa ab).getD 0)))=true then (some true) else ((some (S9 aa ab 1)).bind fun ad=>(Zcv ac) ad)
termination_by structural x=>x
def Ziw (aa:List ByteArray):Option Bool:=
  Zcv aa ([]:List Re)
theorem Zzp {al:Nat} {a0:Option Addr} {col:Ze} {w0:World} {ab:R4} {r:Bool} (hm:Ziw ab=some r) (h0:Sl Za.str col w0 a0 al ab):
    Calls prog 160 #[.slice a0 ab.length al] w0 (fun e w'=>e= .returned ((.bool r))∧Below w0.heap.size w0 w'):=by
 refine Xm 2 (m:=20) func160 rfl rfl rfl rfl rfl ?_;rw [Ziw.eq_1] at hm;have aa:=St.start col w0;refine go ?_;refine Z2x (col:=(Zk col)) (fk:=Value.string) (fv:=(Value.int .i64)) 1 rfl ?_;intro ay az a1 ao ap;refine go ?_;replace aa:=aa.grow ao;refine Z9 [7,8,1000000] (fun n f af=>∃ ag ah ac ad ae,n=ae.length∧ab.drop ad=ae∧Zcv ae ac=some r∧St w0 (Zk col) ag af∧Vw Value.string (Value.int .i64) 1 ag af ah ac∧[9,3].map f=[.int .i64 ad,.map (some ah)]) ab.length ⟨_,_,_,0,_,rfl,rfl,hm,aa,ap,rfl⟩ ?_;clear hm;intro n f af hI;obtain ⟨ag,ah,ac,ad,ae,hn,hl,hm,aa,am,hs⟩:=hI;subst hn;refine .lL [9,3] hs ?_;replace h0:=h0.keep (Zl.start col w0)
 cases ae with
 | nil=>
  have hk:¬ ((ad:Int)<(ab.length:Int)):=by have:=List.drop_eq_nil_iff.1 hl;omega
  have hkb:=decide_eq_false hk;rw [Zcv.eq_1] at hm;refine go ?_;refine X9 (congrArg Value.bool hkb)<|go ?_;cases hm;exact ⟨rfl,rfl,aa.below⟩
 | cons ai aq=>
  obtain ⟨aj,ar,au⟩:=Ym hl;have hk:(ad:Int)<(ab.length:Int):=by omega
  have hkb:=decide_eq_true hk;rw [Zcv.eq_2] at hm;refine go ?_;refine Yc (congrArg Value.bool hkb)<|go ?_;refine lI aj ((h0.ks aa).addr aj)<|lW ((h0.ks aa).atStr aj) ?_;refine go ?_;refine lV (.int .i64 ((Wn ac ai).getD 0)) (Zwp Sr.str am underlying195 underlying9 zeroValue3 rfl rfl)<|go ?_;refine Zq hm (fun hb hm=>go ?_) fun hb hm=>go ?_
  ·cases hm;exact ⟨rfl,rfl,aa.below⟩
  obtain ⟨av,ak,hm⟩:=bZ hm;have ak:av=S9 ac ai 1:=(Option.some.inj ak).symm;refine Zua (k:=ai) (v:=1) Sr.str am underlying195 underlying9 rfl rfl rfl ?_;intro a2 aw ax an;rw [← ak] at an;refine go ?_;replace aa:=aa.kp aw ax;exact ⟨aq.length,by simp,rfl,⟨_,_,_,_,_,rfl,ar,hm,aa,an,(Ys (congrArg (Value.int .i64) (Yp (Nat.lt_of_lt_of_le au (h0.ks aa).1.1))) rfl)⟩⟩
def Zgq (ab:R0) (aa:Nat) (kk_L1:(Nat→Option Int)) (ac:Bool):Option Int:=
  if ac=true then (some 40) else ((Zp ab.2.2.1 (aa:Int)).bind fun ad=>if (decide ((ad.length:Int)=0))=true then (some 43) else (kk_L1 (aa+1)))
def Zbk (aa:R0):List ByteArray→Nat→Option Int
  | [],ab=>some 0
  | ad :: ac,ab=>Z3 ((0:Int)≤(ab:Int)∧(ab:Int)≤(aa.2.1.length:Int)) ((Zjr (aa.2.1.take (Int.toNat (ab:Int))) ad).bind fun ae=>if ae=true then (Zgq aa ab (Zbk aa ac) true) else ((Zp aa.2.2.1 (ab:Int)).bind fun af=>(Ziw af).bind fun ag=>Zgq aa ab (Zbk aa ac) ag))
termination_by structural x=>x
def Zea (aa:R0):Option Int:=
  Zbk aa aa.2.1 0
theorem Zzm {ae ak al am:Nat} {af an ao ap:Option Addr} {col:Ze} {w0:World} {aa:R0} {r:Int} (hm:Zea aa=some r) (ag:Sl Za.str col w0 af ae aa.2.1) (ai:Sl (Za.slice Za.str) col w0 an ak aa.2.2.1) (bi:Sl (Za.slice (Za.int .i64)) col w0 ao al aa.2.2.2.1) (bj:Sl (Za.slice (Za.pair (Za.pair Za.bool (Za.slice (Za.int .u32))) (Za.slice (Za.int .u32)))) col w0 ap am aa.2.2.2.2):
    Calls prog 85 #[(.agg #[.string aa.1,.slice af aa.2.1.length ae,.slice an aa.2.2.1.length ak,.slice ao aa.2.2.2.1.length al,.slice ap aa.2.2.2.2.length am])] w0 (fun e w'=>e= .returned ((.int .i64 r))∧Below w0.heap.size w0 w'):=by
 refine Xm 2 (m:=37) func85 rfl rfl rfl rfl rfl ?_;rw [Zea.eq_1] at hm;have ab:=St.start col w0;refine go ?_;refine Xv (col:=(Zk col)) 1 rfl ?_;intro a3 bk bm a6 ac;refine go ?_;refine Xz ac ?_;refine go ?_;replace ab:=ab.grow a6;refine Z9 [1,6,7,1000000] (fun n f aq=>∃ ah ad aj,n=aj.length∧aa.2.1.drop ad=aj∧Zbk aa aj ad=some r∧St w0 (Zk col) ah aq∧Zj 27 1 ah aq a3 #[.string aa.1,.slice af aa.2.1.length ae,.slice an aa.2.2.1.length ak,.slice ao aa.2.2.2.1.length al,.slice ap aa.2.2.2.2.length am]∧[8].map f=[.int .i64 ad]) aa.2.1.length ⟨_,0,_,rfl,rfl,hm,ab,ac,rfl⟩ ?_;clear hm;intro n f aq hI;obtain ⟨ah,ad,aj,hn,hl,hm,ab,ac,hs⟩:=hI;subst hn;refine .lL [8] hs ?_;replace ag:=ag.keep (Zl.start col w0);replace ai:=ai.keep (Zl.start col w0)
 cases aj with
 | nil=>
  have hk:¬ ((ad:Int)<(aa.2.1.length:Int)):=by have:=List.drop_eq_nil_iff.1 hl;omega
  have hkb:=decide_eq_false hk;rw [Zbk.eq_1] at hm;refine go ?_;refine X9 (congrArg Value.bool hkb)<|go ?_;cases hm;exact ⟨rfl,rfl,ab.below⟩
 | cons bn a4=>
  obtain ⟨av,a7,a8⟩:=Ym hl;have hk:(ad:Int)<(aa.2.1.length:Int):=by omega
  have hkb:=decide_eq_true hk;rw [Zbk.eq_2] at hm;refine go ?_;refine Yc (congrArg Value.bool hkb)<|go ?_;refine lI av ((ag.ks ab).addr av)<|lW ((ag.ks ab).atStr av)<|Yx rfl<|lAT rfl<|Zm<|Ze6<|Zv ?_;refine Wp.cutK [1,3,6,7,8,1000000] (fun f aw=>∃ ax ay,Zgq aa ad (Zbk aa a4) ay=some r∧St w0 (Zk col) ax aw∧Zj 27 1 ax aw a3 #[.string aa.1,.slice af aa.2.1.length ae,.slice an aa.2.2.1.length ak,.slice ao aa.2.2.2.1.length al,.slice ap aa.2.2.2.2.length am]∧[13].map f=[.bool ay]) ?_ ?_
  ·intro f aw hJ;obtain ⟨ax,ay,hm,ab,ac,hs⟩:=hJ;rw [Zgq.eq_1] at hm;refine .lL [13] hs ?_;refine Zq hm (fun hb hm=>go ?_) fun hb hm=>go ?_
   ·cases hm;exact ⟨rfl,rfl,ab.below⟩
   refine Xz ac<|Yf rfl ?_;obtain ⟨bo,az,hm⟩:=bZ hm;refine lI az ((ai.ks ab).addr az) ?_;obtain ⟨_,a9,ba⟩:=(ai.ks ab).atN az;obtain ⟨⟨bp,bq,rfl,br⟩,_⟩:=a9;refine lW ba.one<|go ?_;refine Zq hm (fun hb hm=>go ?_) fun hb hm=>go ?_
   ·cases hm;exact ⟨rfl,rfl,ab.below⟩
   exact ⟨a4.length,by simp,rfl,⟨_,_,_,rfl,a7,hm,ab,ac,(Ys (congrArg (Value.int .i64) (Yp (Nat.lt_of_lt_of_le a8 (ag.ks ab).1.1))) rfl)⟩⟩
  refine Wq<|Xz ac<|Yf rfl ?_;obtain ⟨a0,hm⟩:=Z6 hm;refine lv (v:=.slice af (Int.toNat (ad:Int)) ae) rfl rfl (Zj8 underlying22 sizeOf9 rfl rfl a0.1 (by have:=(ag.ks ab).1.2;have:=a0.2;omega))<|.ld (d:=17) (v:=(.slice af ((aa.2.1.take (Int.toNat (ad:Int))).length) ae)) (congrArg (fun n=>Value.slice af n ae) (List.length_take_of_le (show (Int.toNat (ad:Int))≤aa.2.1.length by have:=a0.2;omega)).symm) ?_;refine lMT rfl ?_;obtain ⟨bs,bb,hm⟩:=bZ hm;refine Zh (Z0f bb ((ag.ks ab).take (Int.toNat (ad:Int)))) ?_;rintro _ a5 ⟨rfl,ar⟩;refine ⟨_,rfl,?_⟩;replace ar:Zf ah aq ah a5:=.of_below ar;refine Yt rfl ?_;replace ac:=ac.gr ar;replace ab:=ab.grow ar;refine X8 hm (fun a1 hm=>go ?_) fun a1 hm=>go ?_
  ·refine lV (.bool true) (Xr (congrArg Value.bool a1) rfl)<|go ?_;exact ⟨rfl,_,_,hm,ab,ac,rfl⟩
  refine Xx ⟨_,_,rfl⟩ ?_;refine go ?_;refine lW ((ac.atN).nth (q:=2) rfl)<|go ?_;obtain ⟨bt,a2,hm⟩:=bZ hm;refine lI a2 ((ai.ks ab).addr a2) ?_;refine go ?_;obtain ⟨_,bc,bd⟩:=(ai.ks ab).atN a2;obtain ⟨⟨bu,bv,rfl,be⟩,_⟩:=bc;refine lW bd.one<|go ?_;obtain ⟨bf,bg,hm⟩:=bZ hm;refine Zh (Zzp bg be) ?_;rintro _ bh ⟨rfl,au⟩;refine ⟨_,rfl,?_⟩;replace au:Zf ah a5 ah bh:=.of_below au;refine lV (.bool bf) (Xh (congrArg Value.bool a1) rfl)<|go ?_;replace ac:=ac.gr au;replace ab:=ab.grow au;exact ⟨rfl,_,_,hm,ab,ac,rfl⟩
def Zgo (aa:Bool) (ab:List Int) (ac:List Int):Option R1:=
  some ((aa,ab),ac)
def Zct (N:Nat) (aa:R1):Option R1:=
  (Zeg N aa.2).bind fun ab=>if (decide ((ab.length:Int)=0))=true then ((Zar N 1).bind fun ac=>Zgo aa.1.1 aa.1.2 ac) else (Zgo aa.1.1 aa.1.2 aa.2)
theorem Zre {N am a1:Nat} {an a2:Option Addr} {col:Ze} {w0:World} {ad r:R1} (hm:Zct N ad=some r) (ai:Sl (Za.int .u32) col w0 an am ad.1.2) (aj:Sl (Za.int .u32) col w0 a2 a1 ad.2):
    Calls prog 104 #[(.agg #[.bool ad.1.1,.slice an ad.1.2.length am,.slice a2 ad.2.length a1])] w0 (fun e w'=>∃ (col':Ze) (ra1:Option Addr) (rc2:Nat) (ra4:Option Addr) (rc5:Nat),e= .returned ((.agg #[.bool r.1.1,.slice ra1 r.1.2.length rc2,.slice ra4 r.2.length rc5]))∧Zf col w0 col' w'∧Sl (Za.int .u32) col' w' ra1 rc2 r.1.2∧Sl (Za.int .u32) col' w' ra4 rc5 r.2):=by
 refine Y2 (m:=11) func104 rfl rfl rfl ?_;rw [Zct.eq_1] at hm;have aa:=St.start col w0;refine go ?_;refine Xv (col:=(Zk col)) 1 rfl ?_;intro a3 bj a8 a9 ab;refine Xj (col:=a8) #[.bool false,.slice none (([]:List Int).length) 0,.slice none (([]:List Int).length) 0] 2 zeroValue39 ?_;intro ba bk bm a4 ac;refine Zm<|Zv ?_;replace ai:=ai.keep (Zl.start col w0);replace aj:=aj.keep (Zl.start col w0);replace aa:=(aa.grow a9).grow a4;replace ab:=ab.gr a4;refine Wp.cutK [1,2,1000000] (fun f ae=>∃ af ao ap aq ak ar au al,Zgo ao ak al=some r∧St w0 (Zk col) af ae∧Sl (Za.int .u32) af ae ap aq ak∧Sl (Za.int .u32) af ae ar au al∧Zj 39 1 af ae a3 #[.bool ao,.slice ap ak.length aq,.slice ar al.length au]∧Zj 39 2 af ae ba #[.bool false,.slice none (([]:List Int).length) 0,.slice none (([]:List Int).length) 0]) ?_ ?_
 ·intro f ae hJ;obtain ⟨af,ao,ap,aq,ak,ar,au,al,hm,aa,av,aw,ab,ac⟩:=hJ;rw [Zgo.eq_1] at hm;refine go ?_;refine lV _ (Xb isAgg39 sizeOf39 ab)<|Zw ac ?_;intro bn ax bb bc;refine go ?_;cases hm;replace av:=av.kp ax;replace aw:=aw.kp ax;replace aa:=aa.kp ax bb;exact ⟨rfl,_,ra bc.atN,_,_,_,_,_,rfl,aa.fin (cm []),aa.fs av,aa.fs aw⟩
 refine go ?_;refine Xz ab ?_;obtain ⟨bo,bd,hm⟩:=bZ hm;refine Zh (Znu 3 bd (aj.ks aa)) ?_;rintro _ bp ⟨be,bq,br,rfl,ay,bs⟩;refine ⟨_,rfl,go ?_⟩;replace ab:=ab.gr ay;replace ac:=ac.gr ay;replace aa:=aa.grow ay;refine Zq hm (fun hb hm=>?_) fun hb hm=>?_
 ·refine Wq ?_;obtain ⟨a5,bf,hm⟩:=bZ hm;refine Zh (Zfg (col:=be) 4 bf) ?_;rintro _ bt ⟨bg,a6,a7,rfl,az,ag⟩;refine ⟨_,rfl,?_⟩;refine Xx ⟨_,_,rfl⟩ ?_;replace ab:=ab.gr az;refine Zca (off:=2) (v:=(.slice a6 a5.length a7)) ab sizeOf35 rfl rfl (by intro u hu;simp only [Value.cells,List.mem_cons,List.not_mem_nil,or_false] at hu;subst hu;rfl) rfl rfl ?_;intro bh a0 bi ah;replace ah:Zj 39 1 bg bh a3 #[.bool ad.1.1,.slice an ad.1.2.length am,.slice a6 a5.length a7]:=ah;refine Zm ?_;replace ag:=ag.kp a0;replace ag:=(ag).toSlF (Zg.int .u32);replace ah:=ah.froz 4 (by decide);replace ac:=(ac.gr az).kp a0;replace ac:=ac.froz 4 (by decide);replace aa:=(aa.grow az).kp a0 bi;replace aa:=aa.froz 4 (by decide) (by decide);exact ⟨rfl,_,_,_,_,_,_,_,_,hm,aa,(ai.ks aa),ag,ah,ac⟩
 refine X3 ?_;exact ⟨rfl,_,_,_,_,_,_,_,_,hm,aa,(ai.ks aa),(aj.ks aa),ab,ac⟩
theorem Z1o:Wj prog 39 3 56:=⟨Tryz.t39,_,rfl,rfl,rfl,rfl,rfl⟩
def Zcu (N:Nat):List R1→R6→Option R6
  | [],ab=>some ab
  | ac :: ad,ab=>(Zct N ((ac.1.1,ac.1.2),ac.2)).bind fun aa=>Z3 ((ab.length+[((aa.1.1,aa.1.2),aa.2)].length) * 56≤140737488355328∧ab.length+[((aa.1.1,aa.1.2),aa.2)].length≤maxLen) ((Zcu N ad) (ab++[((aa.1.1,aa.1.2),aa.2)]))
termination_by structural x=>x
def Zgp (N:Nat) (aa:R6):Option R6:=
  Z3 (aa.length * 56≤281474976710656∧aa.length≤maxLen) (Zcu N aa ([]:List R1))
theorem Zrf {N ar:Nat} {a0:Option Addr} {col:Ze} {w0:World} {ac r:R6} (c1:Nat) (hm:Zgp N ac=some r) (h0:Sl (Za.pair (Za.pair Za.bool (Za.slice (Za.int .u32))) (Za.slice (Za.int .u32))) col w0 a0 ar ac):
    Calls prog 89 #[.slice a0 ac.length ar] w0 (fun e w'=>∃ (col':Ze) (ra1:Option Addr) (rc2:Nat),e= .returned ((.slice ra1 r.length rc2))∧Zf col w0 col' w'∧Zc (Za.pair (Za.pair Za.bool (Za.slice (Za.int .u32))) (Za.slice (Za.int .u32))) 39 c1 col' w' ra1 rc2 r):=by
 refine Xm 2 (m:=22) func89 rfl rfl rfl rfl rfl ?_;rw [Zgp.eq_1] at hm;have ab:=St.start col w0;refine go ?_;obtain ⟨au,hm⟩:=Z6 hm;refine Z2w (col:=(Zk col)) (w:=w0) (r:=(Za.pair (Za.pair Za.bool (Za.slice (Za.int .u32))) (Za.slice (Za.int .u32)))) (n:=ac.length) 1 rfl underlying114 Z1o rfl rfl rfl au.1 au.2 ?_;intro bt bu bv a2 a3;refine go ?_;replace ab:=ab.grow a2;refine Z9 [10,9,1000000] (fun n f ak=>∃ af ad al am ag ae,n=ae.length∧ac.drop ad=ae∧Zcu N ae ag=some r∧St w0 (Zk col) af ak∧Zc (Za.pair (Za.pair Za.bool (Za.slice (Za.int .u32))) (Za.slice (Za.int .u32))) 39 1 af ak al am ag∧[11,3].map f=[.int .i64 ad,.slice al ag.length am]) ac.length ⟨_,0,_,_,_,_,rfl,rfl,hm,ab,a3,rfl⟩ ?_;clear hm;intro n f ak hI;obtain ⟨af,ad,al,am,ag,ae,hn,hl,hm,ab,ah,hs⟩:=hI;subst hn;refine .lL [11,3] hs ?_;replace h0:=h0.keep (Zl.start col w0)
 cases ae with
 | nil=>
  have hk:¬ ((ad:Int)<(ac.length:Int)):=by have:=List.drop_eq_nil_iff.1 hl;omega
  have hkb:=decide_eq_false hk;rw [Zcu.eq_1] at hm;refine go ?_;refine X9 (congrArg Value.bool hkb)<|go ?_;cases hm;exact ⟨rfl,_,_,_,rfl,ab.fin (cm [(1,c1)]),ab.fo ah⟩
 | cons an a4=>
  obtain ⟨ao,a5,a6⟩:=Ym hl;have hk:(ad:Int)<(ac.length:Int):=by omega
  have hkb:=decide_eq_true hk;rw [Zcu.eq_2] at hm;refine go ?_;refine Yc (congrArg Value.bool hkb)<|go ?_;refine lI ao ((h0.ks ab).addr ao) ?_;obtain ⟨_,a7,a8⟩:=(h0.ks ab).atN ao;obtain ⟨_,_,rfl,a9,ba⟩:=Va a7;obtain ⟨_,_,rfl,bb,bc⟩:=Va a9;obtain ⟨rfl,_⟩:=bb;obtain ⟨⟨bd,be,rfl,ap⟩,_⟩:=bc;obtain ⟨⟨bf,bg,rfl,aq⟩,_⟩:=ba;refine lV (.agg #[.bool an.1.1,.slice bd an.1.2.length be,.slice bf an.2.length bg]) (Xt isAgg39 sizeOf39 rfl rfl a8)<|Xj (col:=af) #[.bool false,.slice none (([]:List Int).length) 0,.slice none (([]:List Int).length) 0] 2 zeroValue39 ?_;intro bw bx bz ai bh;refine Zw bh ?_;intro b0 aj bi bj;refine go ?_;refine lV _ (Xb isAgg39 sizeOf39 bj) ?_;obtain ⟨aa,bk,hm⟩:=bZ hm;replace ap:=(ap.gr ai).kp aj;replace aq:=(aq.gr ai).kp aj;refine Zh (Zre bk ap aq) ?_;rintro _ b1 ⟨bm,av,aw,ax,ay,rfl,az,bn,bo⟩;refine ⟨_,rfl,?_⟩;refine Sy (col:=bm) (r:=(Za.pair (Za.pair Za.bool (Za.slice (Za.int .u32))) (Za.slice (Za.int .u32)))) (xs:=[((aa.1.1,aa.1.2),aa.2)]) [(.agg #[.bool aa.1.1,.slice av aa.1.2.length aw,.slice ax aa.2.length ay])] 3 (Wb.ofF (Rows.consF (r:=(Za.pair (Za.pair Za.bool (Za.slice (Za.int .u32))) (Za.slice (Za.int .u32)))) (x:=((aa.1.1,aa.1.2),aa.2)) (cs:=[.bool aa.1.1,.slice av aa.1.2.length aw,.slice ax aa.2.length ay]) (Qf (Qf (Tx aa.1.1) (Zaz bn)) (Zaz bo)) Rows.nil0)) ?_;intro b2 b3 b4 a1 bp;obtain ⟨bq,hm⟩:=Z6 hm;replace ah:=(((ah.gr ai).kp aj).gr az).gr a1;refine U3 ah (bp.srcN (NB.pair (NB.pair NB.bool NB.slice) NB.slice)) bq ?_;intro b5 b6 b7 b8 br bs;refine go ?_;replace ab:=((((ab.grow ai).kp aj bi).grow az).grow a1).kpp br;exact ⟨a4.length,by simp,rfl,⟨_,_,_,_,_,_,rfl,a5,hm,ab,bs,(Ys (congrArg (Value.int .i64) (Yp (Nat.lt_of_lt_of_le a6 (h0.ks ab).1.1))) rfl)⟩⟩
def Zda (N:Nat) (ab:List R1) (ac:Int):Nat→Int→Option (List R6)
  | 0,_=>none
  | ad+1,aa=>if (decide (aa<(ab.length:Int)))=true then (Z3 ((0:Int)≤aa∧aa≤(ab.length:Int)) (Z3 ((0:Int)≤aa∧aa≤(i64.wrap (aa+(if ((ab.drop (Int.toNat aa)).length:Int)<ac then ((ab.drop (Int.toNat aa)).length:Int) else ac)))∧(i64.wrap (aa+(if ((ab.drop (Int.toNat aa)).length:Int)<ac then ((ab.drop (Int.toNat aa)).length:Int) else ac)))≤(i64.wrap (aa+(if ((ab.drop (Int.toNat aa)).length:Int)<ac then ((ab.drop (Int.toNat aa)).length:Int) else ac)))∧(i64.wrap (aa+(if ((ab.drop (Int.toNat aa)).length:Int)<ac then ((ab.drop (Int.toNat aa)).length:Int) else ac)))≤(ab.length:Int)) (((Zda N ab ac ad) (i64.wrap (aa+ac))).bind fun ae=>some ((ab.take (Int.toNat (i64.wrap (aa+(if ((ab.drop (Int.toNat aa)).length:Int)<ac then ((ab.drop (Int.toNat aa)).length:Int) else ac))))).drop (Int.toNat aa) :: ae)))) else (some [])
termination_by structural x=>x
def Zl7 (N:Nat) (aa:List R1) (ab:Int):Option (List R6):=
  Zda N aa ab N 0
theorem Z0d (N:Nat) (col:Ze) (w0:World) (g0:Nat) (af0:Option Addr) (capf0:Nat) (ab:List R1) (hf0:Sl (Za.pair (Za.pair Za.bool (Za.slice (Za.int .u32))) (Za.slice (Za.int .u32))) col w0 af0 capf0 ab) (hb0:Zj 114 450 col w0 g0 #[.slice af0 ab.length capf0]) (g1:Nat) (ac:Int) (hb1:Zj 3 450 col w0 g1 #[.int .i64 ac]) (r:List R6) (hm:Zl7 N ab ac=some r):
    Ze8 prog 1 196 [.pointer (some ⟨g0,0,none⟩),.pointer (some ⟨g1,0,none⟩)] (fun (y:List R1) (col:Ze) (w:World) (args:List Value)=>∃ (a0:Option Addr) (ak:Nat),args=[.slice a0 y.length ak]∧Sl (Za.pair (Za.pair Za.bool (Za.slice (Za.int .u32))) (Za.slice (Za.int .u32))) col w a0 ak y) r col w0:=by
 intro l J X hjs hxs hy ad;refine Zfi (m:=31) (args:=[.func (.yield l) #[] #[],.pointer (some ⟨g0,0,none⟩),.pointer (some ⟨g1,0,none⟩)]) func196 rfl rfl rfl rfl ?_;rw [Zl7.eq_1] at hm;refine go ?_;refine Z9 [0,1,2,1000000] (fun n f ah=>∃ ae r aa af,af=n∧Zda N ab ac af aa=some r∧J r ae ah∧Sl (Za.pair (Za.pair Za.bool (Za.slice (Za.int .u32))) (Za.slice (Za.int .u32))) ae ah af0 capf0 ab∧Zj 114 450 ae ah g0 #[.slice af0 ab.length capf0]∧Zj 3 450 ae ah g1 #[.int .i64 ac]∧[4].map f=[.int .i64 aa]) N ⟨_,_,0,_,rfl,hm,ad,hf0,hb0,hb1,rfl⟩ ?_;clear hm;intro n f ah hI;obtain ⟨ae,r,aa,af,hn,hm,ad,hf0,hb0,hb1,hs⟩:=hI;subst hn;refine .lL [4] hs ?_
 cases af with
 | zero=>rw [Zda.eq_1] at hm;cases hm
 | succ af=>
  rw [Zda.eq_2] at hm;refine go ?_;refine lW hb0.at1<|go ?_;refine Zq hm (fun hb hm=>go ?_) fun hb hm=>go ?_
  ·refine Un (col:=ae) (by kernel_rfl) (by kernel_rfl)<|qW (fun _ hC=>hb1.at1.gr (hC.bl ae)) ?_;refine qW (fun _ hC=>hb0.at1.gr (hC.bl ae)) ?_;refine go ?_;obtain ⟨al,hm⟩:=Z6 hm;have ap:=hf0.drop (sz:=3) rfl (Int.toNat aa);refine qv (v:=.slice (if capf0=(Int.toNat aa) then af0 else af0.map (·.add ((Int.toNat aa) * 3))) (ab.length - (Int.toNat aa)) (capf0 - (Int.toNat aa))) rfl (fun _ hC=>Zwr underlying114 sizeOf39 rfl rfl al.1 al.2) ?_;generalize (if capf0=(Int.toNat aa) then af0 else af0.map (·.add ((Int.toNat aa) * 3)))=am at *;refine .ld (d:=16) (v:=(.slice am ((ab.drop (Int.toNat aa)).length) (capf0 - (Int.toNat aa)))) (congrArg (fun n=>Value.slice am n (capf0 - (Int.toNat aa))) (List.length_drop (i:=(Int.toNat aa)) (l:=ab)).symm) ?_;refine go ?_;refine qv (v:=(.int .i64 (if ((ab.drop (Int.toNat aa)).length:Int)<ac then ((ab.drop (Int.toNat aa)).length:Int) else ac))) rfl (fun _ hC=>Zmz ac ((ab.drop (Int.toNat aa)).length:Int) rfl rfl) ?_;refine go ?_;refine Wv ?_;intro aq hC;replace hC:=hC.bl ae;replace hf0:=hf0.gr hC;replace hb0:=hb0.gr hC;replace hb1:=hb1.gr hC;replace ad:=hjs _ _ _ _ _ ad hC.toP;refine go ?_;refine lM (.func (.yield l) #[] #[])<|lW hb0.at1<|go ?_;obtain ⟨ag,hm⟩:=Z6 hm;have an:=((hf0.take (Int.toNat (i64.wrap (aa+(if ((ab.drop (Int.toNat aa)).length:Int)<ac then ((ab.drop (Int.toNat aa)).length:Int) else ac))))).recap (show (ab.take (Int.toNat (i64.wrap (aa+(if ((ab.drop (Int.toNat aa)).length:Int)<ac then ((ab.drop (Int.toNat aa)).length:Int) else ac))))).length≤(Int.toNat (i64.wrap (aa+(if ((ab.drop (Int.toNat aa)).length:Int)<ac then ((ab.drop (Int.toNat aa)).length:Int) else ac)))) by rw [List.length_take (i:=(Int.toNat (i64.wrap (aa+(if ((ab.drop (Int.toNat aa)).length:Int)<ac then ((ab.drop (Int.toNat aa)).length:Int) else ac))))) (l:=ab)];have:=ag.2;omega)).drop (sz:=3) rfl (Int.toNat aa);refine lv (v:=.slice (if (Int.toNat (i64.wrap (aa+(if ((ab.drop (Int.toNat aa)).length:Int)<ac then ((ab.drop (Int.toNat aa)).length:Int) else ac))))=(Int.toNat aa) then af0 else af0.map (·.add ((Int.toNat aa) * 3))) ((Int.toNat (i64.wrap (aa+(if ((ab.drop (Int.toNat aa)).length:Int)<ac then ((ab.drop (Int.toNat aa)).length:Int) else ac)))) - (Int.toNat aa)) ((Int.toNat (i64.wrap (aa+(if ((ab.drop (Int.toNat aa)).length:Int)<ac then ((ab.drop (Int.toNat aa)).length:Int) else ac)))) - (Int.toNat aa))) rfl rfl (Z4z underlying114 sizeOf39 rfl rfl rfl rfl ag.1 ag.2.1 ag.2.2.1 (by have:=hf0.1.2;have:=ag.2.2.2;omega)) ?_
   generalize (if (Int.toNat (i64.wrap (aa+(if ((ab.drop (Int.toNat aa)).length:Int)<ac then ((ab.drop (Int.toNat aa)).length:Int) else ac))))=(Int.toNat aa) then af0 else af0.map (·.add ((Int.toNat aa) * 3)))=ai at *;refine .ld (d:=28) (v:=(.slice ai (((ab.take (Int.toNat (i64.wrap (aa+(if ((ab.drop (Int.toNat aa)).length:Int)<ac then ((ab.drop (Int.toNat aa)).length:Int) else ac))))).drop (Int.toNat aa)).length) ((Int.toNat (i64.wrap (aa+(if ((ab.drop (Int.toNat aa)).length:Int)<ac then ((ab.drop (Int.toNat aa)).length:Int) else ac)))) - (Int.toNat aa)))) (congrArg (fun n=>Value.slice ai n ((Int.toNat (i64.wrap (aa+(if ((ab.drop (Int.toNat aa)).length:Int)<ac then ((ab.drop (Int.toNat aa)).length:Int) else ac)))) - (Int.toNat aa))) (show (Int.toNat (i64.wrap (aa+(if ((ab.drop (Int.toNat aa)).length:Int)<ac then ((ab.drop (Int.toNat aa)).length:Int) else ac)))) - (Int.toNat aa)=((ab.take (Int.toNat (i64.wrap (aa+(if ((ab.drop (Int.toNat aa)).length:Int)<ac then ((ab.drop (Int.toNat aa)).length:Int) else ac))))).drop (Int.toNat aa)).length by rw [List.length_drop (i:=(Int.toNat aa)) (l:=ab.take (Int.toNat (i64.wrap (aa+(if ((ab.drop (Int.toNat aa)).length:Int)<ac then ((ab.drop (Int.toNat aa)).length:Int) else ac))))),List.length_take (i:=(Int.toNat (i64.wrap (aa+(if ((ab.drop (Int.toNat aa)).length:Int)<ac then ((ab.drop (Int.toNat aa)).length:Int) else ac))))) (l:=ab)];have:=ag.2;omega)) ?_;obtain ⟨ar,hc_14m,ao⟩:=bZ hm;cases ao;have hm:=hc_14m;refine ly1 rfl rfl rfl (hy _ _ _ _ [(.slice ai (((ab.take (Int.toNat (i64.wrap (aa+(if ((ab.drop (Int.toNat aa)).length:Int)<ac then ((ab.drop (Int.toNat aa)).length:Int) else ac))))).drop (Int.toNat aa)).length) ((Int.toNat (i64.wrap (aa+(if ((ab.drop (Int.toNat aa)).length:Int)<ac then ((ab.drop (Int.toNat aa)).length:Int) else ac)))) - (Int.toNat aa)))] ad ⟨ai,((Int.toNat (i64.wrap (aa+(if ((ab.drop (Int.toNat aa)).length:Int)<ac then ((ab.drop (Int.toNat aa)).length:Int) else ac)))) - (Int.toNat aa)),rfl,an⟩) ?_;rintro _ au ⟨av,aj,⟨rfl,hJ⟩ | ⟨rfl,hX⟩⟩
   ·refine ⟨_,rfl,?_⟩;have ad:=hJ;refine go ?_;refine X9 rfl<|go ?_;replace hb1:=hb1.kpp aj;refine lW hb1.at1<|go ?_;replace hf0:=hf0.kpp aj;replace hb0:=hb0.kpp aj;exact ⟨af,by omega,rfl,⟨_,_,_,_,rfl,hm,ad,hf0,hb0,hb1,rfl⟩⟩
   refine ⟨_,rfl,?_⟩;have ad:=hX;refine go ?_;refine Yc rfl<|W4 ?_;exact ⟨rfl,⟨_,rfl⟩,_,.inr ad⟩
  cases hm;exact ⟨rfl,⟨_,rfl⟩,_,.inl ad⟩
def Zl8 (N:Nat) (aa:R6) (ab:Int):Option (List R6):=
  Zl7 N aa ab
def Zl6 (N:Nat) (ab:R6) (aa:Int):Option (List R6):=
  if (decide (aa<1))=true then none else (Zl8 N ab aa)
theorem Z0c {N aa:Nat} {a0:Option Addr} {col:Ze} {w0:World} {ac:R6} {ad:Int} {r:(List R6)} (hm:Zl6 N ac ad=some r) (h0:Sl (Za.pair (Za.pair Za.bool (Za.slice (Za.int .u32))) (Za.slice (Za.int .u32))) col w0 a0 aa ac):
    Calls prog 162 #[.slice a0 ac.length aa,.int .i64 ad] w0 (fun e w'=>∃ (col':Ze) (rv1:Value),e= .returned (rv1)∧Zf col w0 col' w'∧It prog 1 rv1 (fun (y:List R1) (col:Ze) (w:World) (args:List Value)=>∃ (a0:Option Addr) (aa:Nat),args=[.slice a0 y.length aa]∧Sl (Za.pair (Za.pair Za.bool (Za.slice (Za.int .u32))) (Za.slice (Za.int .u32))) col w a0 aa y) r q0 col' w'):=by
 refine Xm 4 (m:=9) func162 rfl rfl rfl rfl rfl ?_;rw [Zl6.eq_1] at hm;have ab:=St.start col w0;refine go ?_;refine Zdw (col:=(Zk col)) (v:=(.slice a0 ac.length aa)) 1 rfl rfl ?_;intro af ap an aq ae;replace ae:Zj 114 1 an ap af #[.slice a0 ac.length aa]:=ae;refine Zdw (col:=an) (v:=(.int .i64 ad)) 2 rfl rfl ?_;intro ag ar au ao ah;replace ah:Zj 3 2 au ar ag #[.int .i64 ad]:=ah;refine lv (v:=_) rfl rfl (V7 rfl)<|Zm<|Zv ?_;replace h0:=h0.keep (Zl.start col w0);replace ab:=(ab.grow aq).grow ao;replace ae:=ae.gr ao;refine Wp.cutK [2,3,1000000] (fun f aj=>∃ ai,Zl8 N ac ad=some r∧St w0 (Zk col) ai aj∧Zj 114 1 ai aj af #[.slice a0 ac.length aa]∧Zj 3 2 ai aj ag #[.int .i64 ad]) ?_ ?_
 ·intro f aj hJ;obtain ⟨ai,hm,ab,ae,ah⟩:=hJ;rw [Zl8.eq_1] at hm;refine go ?_;refine lV (.func (.func 196) #[] #[.pointer (some ⟨af,0,none⟩),.pointer (some ⟨ag,0,none⟩)]) (Zpt rfl rfl)<|lA (.func (.func 196) #[] #[.pointer (some ⟨af,0,none⟩),.pointer (some ⟨ag,0,none⟩)])<|go ?_;have ak:=ab.finBox (G:=(fun n=>bif Nat.beq n 1 then 450 else bif Nat.beq n 2 then 450 else 0)) ae (by decide) (by decide) (show (fun n=>bif Nat.beq n 1 then 450 else bif Nat.beq n 2 then 450 else 0) 1=450 from rfl);have h0f:=ab.finSl (g:=(fun n=>bif Nat.beq n 1 then 450 else bif Nat.beq n 2 then 450 else 0)) rfl (h0.ks ab);have al:=ab.finBox (G:=(fun n=>bif Nat.beq n 1 then 450 else bif Nat.beq n 2 then 450 else 0)) ah (by decide) (by decide) (show (fun n=>bif Nat.beq n 1 then 450 else bif Nat.beq n 2 then 450 else 0) 2=450 from rfl);refine ⟨rfl,V1 w0.heap.size col ai (fun n=>bif Nat.beq n 1 then 450 else bif Nat.beq n 2 then 450 else 0),_,rfl,ab.fin (fun n=>bif Nat.beq n 1 then 450 else bif Nat.beq n 2 then 450 else 0),196,[.pointer (some ⟨af,0,none⟩),.pointer (some ⟨ag,0,none⟩)],rfl,call196,?_⟩;intro col9 w9 am hk9;replace ak:=ak.itk am hk9 rfl;replace h0f:=h0f.itk am hk9 rfl;replace al:=al.itk am hk9 rfl;exact Z0d N col9 w9 af a0 aa ac h0f ak ag ad al r hm
 refine go ?_;refine lW ah.at1<|go ?_;refine Zq hm (fun hb hm=>?_) fun hb hm=>?_
 ·cases hm
 refine X3 ?_;exact ⟨rfl,_,hm,ab,ae,ah⟩
def Zeb (N:Nat):Option R1:=
  (Zd3 N 1 1).bind fun aa=>some ((aa.1.1.1,aa.1.1.2),aa.1.2)
theorem Zns {N:Nat} {col:Ze} {w0:World} {r:R1} (c1 c2:Nat) (hm:Zeb N=some r):
    Calls prog 103 #[] w0 (fun e w'=>∃ (col':Ze) (ra1:Option Addr) (rc2:Nat) (ra4:Option Addr) (rc5:Nat),e= .returned ((.agg #[.bool r.1.1,.slice ra1 r.1.2.length rc2,.slice ra4 r.2.length rc5]))∧Zf col w0 col' w'∧Zc (Za.int .u32) 95 c1 col' w' ra1 rc2 r.1.2∧Zc (Za.int .u32) 95 c2 col' w' ra4 rc5 r.2):=by
 refine Y2 (m:=8) func103 rfl rfl rfl ?_;rw [Zeb.eq_1] at hm;have ab:=St.start col w0;refine go ?_;refine Xj (col:=(Zk col)) #[.bool false,.slice none (([]:List Int).length) 0,.slice none (([]:List Int).length) 0] 1 zeroValue39 ?_;intro ay az an ao ae;refine go ?_;obtain ⟨aa,ap,hm⟩:=bZ hm;refine Zh (Zrb (col:=an) 2 3 ap) ?_;rintro _ a0 ⟨aq,ai,aj,ak,al,rfl,am,af,ag⟩;refine ⟨_,rfl,?_⟩;refine lM (.tuple #[(.agg #[.bool aa.1.1.1,.slice ai aa.1.1.2.length aj,.slice ak aa.1.2.length al]),.int .i64 aa.2])<|lV (.agg #[.bool aa.1.1.1,.slice ai aa.1.1.2.length aj,.slice ak aa.1.2.length al]) (Xf rfl rfl)<|lV (.int .i64 aa.2) (Xf rfl rfl)<|Xj (col:=aq) #[.bool false,.slice none (([]:List Int).length) 0,.slice none (([]:List Int).length) 0] 4 zeroValue39 ?_;intro a1 a2 a3 ac ar;refine Zw ar ?_;intro a4 ad au av;refine go ?_;refine lV _ (Xb isAgg39 sizeOf39 av) ?_;replace ae:=((ae.gr am).gr ac).kp ad;refine Zw ae ?_;intro a5 ah aw ax;refine go ?_;cases hm;replace ab:=((((ab.grow ao).grow am).grow ac).kp ad au).kp ah aw;replace af:=((af.gr ac).kp ad).kp ah;replace ag:=((ag.gr ac).kp ad).kp ah;exact ⟨rfl,_,ra ax.atN,_,_,_,_,_,rfl,ab.fin (cm [(2,c1),(3,c2)]),ab.fo af,ab.fo ag⟩
def Zow (aa:Bool):Option Bool:=
  some aa
def Zed (N:Nat):List R6→Bool→Option Bool
  | [],ac=>some true
  | ad :: ae,ac=>(Zbe N ad).bind fun aa=>(Zeb N).bind fun ab=>(U4 N ((aa.1.1,aa.1.2),aa.2) ((ab.1.1,ab.1.2),ab.2)).bind fun af=>if (!decide (af=0))=true then (Zow false) else ((Zed N ae) ac)
termination_by structural x=>x
def Zix (N:Nat) (aa:R6) (ab:Int):Option Bool:=
  (Zl6 N aa ab).bind fun ac=>Zed N ac false
theorem Zzq {N ah:Nat} {a0:Option Addr} {col:Ze} {w0:World} {am:R6} {ao:Int} {r:Bool} (hm:Zix N am ao=some r) (h0:Sl (Za.pair (Za.pair Za.bool (Za.slice (Za.int .u32))) (Za.slice (Za.int .u32))) col w0 a0 ah am):
    Calls prog 91 #[.slice a0 am.length ah,.int .i64 ao] w0 (fun e w'=>e= .returned ((.bool r))∧Below w0.heap.size w0 w'):=by
 refine Zrs (m:=15) (args:=[.slice a0 am.length ah,.int .i64 ao]) func91 rfl rfl rfl ?_;rw [Zix.eq_1] at hm;have aa:=St.start col w0;replace h0:=h0.keep (Zl.start col w0);have hmk:Yg 499 (Zk col) w0 []:=.nil;refine go ?_;refine Za9 (col:=(Zk col)) (v:=(.bool false)) 1 rfl zeroValue4 ?_;intro ai a4 a5 ax ab;replace ab:Zj 4 1 a5 a4 ai #[.bool false]:=ab;refine go ?_;obtain ⟨a6,a7,hm⟩:=bZ hm;replace aa:=aa.grow ax;refine Zh (Z0c a7 (h0.ks aa)) ?_;rintro _ bq ⟨a8,br,rfl,ap,a9⟩;refine ⟨_,rfl,go ?_⟩;replace hmk:=(hmk.gr ax).gr ap;replace ab:=ab.gr ap;replace aa:=aa.grow ap;refine Znb (psl:=[9]) (arr:=(fun (y:List R1) (col:Ze) (w:World) (args:List Value)=>∃ (a0:Option Addr) (ah:Nat),args=[.slice a0 y.length ah]∧Sl (Za.pair (Za.pair Za.bool (Za.slice (Za.int .u32))) (Za.slice (Za.int .u32))) col w a0 ah y)) (ys:=a6) (col:=a8) 498 rfl a9 rfl hmk rfl rfl (by rintro _ _ _ _ ⟨_,_,rfl,_⟩;rfl) (fun ys_ ad ae=>∃ (ac:Bool),Zed N ys_ ac=some r∧St w0 (Zk col) ad ae∧Zj 4 1 ad ae ai #[.bool ac]) (fun c_ ad ae=>(c_= .ret∧∃ (ac:Bool),Zow ac=some r∧St w0 (Zk col) ad ae∧Zj 4 1 ad ae ai #[.bool ac])) ?_ ?_ ⟨false,hm,aa,ab⟩ ?_ ?_ ?_
 ·intro ys_ ad ae col2_ w2_ hJ hk;obtain ⟨ac,hm,aa,ab⟩:=hJ;exact ⟨ac,hm,aa.kpp hk rfl rfl,ab.kpp hk rfl⟩
 ·intro c_ ad ae col2_ w2_ hX hk;obtain ⟨rfl,hX⟩:=hX;obtain ⟨ac,hm,aa,ab⟩:=hX;exact ⟨rfl,⟨ac,hm,aa.kpp hk rfl rfl,ab.kpp hk rfl⟩⟩
 ·intro bs bt bu bv bw ad ae args hJ hrec hmk harr;obtain ⟨ac,hm,aa,ab⟩:=hJ;rw [Zed.eq_2] at hm;have hki:=Zt.refl (pC 1) ad ae;obtain ⟨bx,bz,rfl,aq⟩:=harr;refine go ?_;refine ⟨_,hrec,?_⟩;intro b0 b1 aj ay hrec2;have hrec:=hrec2;refine go ?_;obtain ⟨b2,ba,hm⟩:=bZ hm;replace aq:=aq.kp aj;refine Zh (Zku 2 3 ba aq) ?_;rintro _ b3 ⟨bb,b4,b5,b6,b7,rfl,ak,ar,au⟩;refine ⟨_,rfl,?_⟩;obtain ⟨b8,bc,hm⟩:=bZ hm;refine lc rfl rfl (Zax call103) (Zns (col:=bb) 4 5 bc:) ?_;rintro _ bd ⟨av,b9,ca,cb,cc,rfl,af,be,bf⟩;refine ⟨_,rfl,?_⟩;obtain ⟨cd,bg,hm⟩:=bZ hm;replace ar:=ar.gr af;replace au:=au.gr af;refine Zh (Zdr bg ((((ar.toSlF (Zg.int .u32)).froz 3).froz 4).froz 5) ((((au.froz 2 (by decide)).toSlF (Zg.int .u32)).froz 4).froz 5) ((((be.froz 2 (by decide)).froz 3 (by decide)).toSlF (Zg.int .u32)).froz 5) ((((bf.froz 2 (by decide)).froz 3 (by decide)).froz 4 (by decide)).toSlF (Zg.int .u32))) ?_;rintro _ bh ⟨rfl,ag⟩;refine ⟨_,rfl,?_⟩;replace ag:Zf av bd av bh:=.of_below ag;refine go ?_;replace ab:=(((ab.kp aj).gr ak).gr af).gr ag;replace hmk:=(((hmk.kp aj).gr ak).gr af).gr ag;replace hki:=(((hki.kp aj ay rfl).gr ak).gr af).gr ag;replace aa:=(((aa.kp aj ay).grow ak).grow af).grow ag;replace hrec:=((hrec.gr ak).gr af).gr ag;refine Zq hm (fun hb hm=>go ?_) fun hb hm=>?_
  ·refine Ut (v:=(.bool false)) ab sizeOf4 rfl rfl (by intro u hu;simp only [Value.cells,List.mem_cons,List.not_mem_nil,or_false] at hu;subst hu;rfl) rfl rfl ?_;intro bi an az aw;replace aw:Zj 4 1 av bi ai #[.bool false]:=aw;refine go ?_;replace hrec:=hrec.kp an;replace hmk:=hmk.kp an;replace hki:=hki.kp an az rfl;replace aa:=aa.kp an az;exact ⟨_,hki,⟨rfl,⟨false,hm,aa,aw⟩⟩,hrec,hmk⟩
  refine X3 ?_;exact ⟨_,hki,⟨ac,hm,aa,ab⟩,hrec,hmk⟩
 ·intro bj ad ae hJ hmk;obtain ⟨ac,hm,aa,ab⟩:=hJ;rw [Zed.eq_1] at hm;refine go ?_;refine Ut (v:=(.bool true)) ab sizeOf4 rfl rfl (by intro u hu;simp only [Value.cells,List.mem_cons,List.not_mem_nil,or_false] at hu;subst hu;rfl) rfl rfl ?_;intro bk a1 bm al;replace al:Zj 4 1 ad bk ai #[.bool true]:=al;refine go ?_;cases hm;replace hmk:=hmk.kp a1;refine ⟨_,(bj :: []),rfl,hmk,?_⟩;intro ce a2 bn;replace aa:=(aa.kp a1 bm).kp a2 bn;replace al:=al.kp a2;exact ⟨_,Zhv rfl rfl isAgg4 rfl al.at1,rfl,aa.below⟩
 intro c_ bo ad ae hX hmk;obtain ⟨rfl,hX⟩:=hX;obtain ⟨ac,hm,aa,ab⟩:=hX;rw [Zow.eq_1] at hm;refine W4 ?_;cases hm;refine ⟨_,(bo :: []),rfl,hmk,?_⟩;intro cf a3 bp;replace ab:=ab.kp a3;replace aa:=aa.kp a3 bp;exact ⟨_,Zhv rfl rfl isAgg4 rfl ab.at1,rfl,aa.below⟩
def Zgs (aa:Bool):Option Bool:=
  some aa
def Zgr (N:Nat) (aa:R1):Option Bool:=
  (Zag N ((aa.1.1,aa.1.2),aa.2)).bind fun ac=>if (decide (ac<0))=true then (Zgs true) else ((Zeb N).bind fun ab=>(U4 N ((aa.1.1,aa.1.2),aa.2) ((ab.1.1,ab.1.2),ab.2)).bind fun ad=>Zgs (decide (0<ad)))
theorem Zzn {N al am:Nat} {an ao:Option Addr} {col:Ze} {w0:World} {ac:R1} {r:Bool} (hm:Zgr N ac=some r) (ah:Sl (Za.int .u32) col w0 an al ac.1.2) (ai:Sl (Za.int .u32) col w0 ao am ac.2):
    Calls prog 90 #[(.agg #[.bool ac.1.1,.slice an ac.1.2.length al,.slice ao ac.2.length am])] w0 (fun e w'=>e= .returned ((.bool r))∧Below w0.heap.size w0 w'):=by
 refine Xm 2 (m:=12) func90 rfl rfl rfl rfl rfl ?_;rw [Zgr.eq_1] at hm;have aa:=St.start col w0;refine go ?_;refine Xv (col:=(Zk col)) 1 rfl ?_;intro a6 a7 ab ay aj;refine Zk7 rfl<|Zm<|Zv ?_;replace ah:=ah.keep (Zl.start col w0);replace ai:=ai.keep (Zl.start col w0);replace aa:=aa.grow ay;refine Wp.cutK [1000000] (fun f av=>∃ aw ap,Zgs ap=some r∧St w0 (Zk col) aw av∧[2].map f=[.bool ap]) ?_ ?_
 ·intro f av hJ;obtain ⟨aw,ap,hm,aa,hs⟩:=hJ;rw [Zgs.eq_1] at hm;refine .lL [2] hs<|W4 ?_;cases hm;exact ⟨rfl,rfl,aa.below⟩
 refine Wi (col:=ab) [(0,0),(1,3),(2,1),(3,1),(4,0),(5,3),(6,3),(7,1),(8,1),(9,1)] (by kernel_rfl) (by kernel_rfl)<|xv rfl rfl (fun _ hC=>Xb isAgg39 sizeOf39 (aj.gr (hC.bl ab))) ?_;refine xe rfl rfl ?_;intro az hC0;have hC:=hC0.bl ab;obtain ⟨ae,a0,hm⟩:=bZ hm;replace aa:=aa.grow hC;refine Zh (Znq a0 (ah.ks aa) (ai.ks aa)) ?_;rintro _ a1 ⟨rfl,ag⟩;refine ⟨_,rfl,?_⟩;replace ag:Zf ab az ab a1:=.of_below ag;refine Zm<|X4 ab hC0 ag<|xu rfl rfl (fun _=>Zpx _ _ rfl rfl) ?_;refine xu rfl rfl (fun _=>r_mB rfl) ?_;replace aj:=(aj.gr hC).gr ag;replace aa:=aa.grow ag;refine X8 hm (fun ad hm=>?_) fun ad hm=>?_
 ·refine Znc (b:=decide (ae<0)) 6 rfl rfl rfl rfl rfl (by rw [ad];rfl)<|Znc (b:=decide (ae<0)) 6 rfl rfl rfl rfl rfl (by rw [ad];rfl)<|Znc (b:=decide (ae<0)) 6 rfl rfl rfl rfl rfl (by rw [ad];rfl)<|Znc (b:=decide (ae<0)) 6 rfl rfl rfl rfl rfl (by rw [ad];rfl)<|xu (v:=(.bool true)) rfl rfl (fun _=>Xr (congrArg Value.bool ad) rfl) ?_;refine xu rfl rfl (fun _=>Zmu rfl) ?_;refine Wf ?_;intro a8 hC;replace hC:=hC.bl ab;replace aa:=aa.grow hC;exact ⟨rfl,_,_,hm,aa,rfl⟩
 refine xv_g (v:=(.agg #[.bool ac.1.1,.slice an ac.1.2.length al,.slice ao ac.2.length am])) (b:=decide (ae<0)) 6 rfl rfl rfl rfl rfl (by rw [ad];rfl) (fun _ hC=>Xt isAgg39 sizeOf39 rfl rfl (aj.atN.gr (hC.bl ab))) ?_;refine xe rfl rfl ?_;intro a9 hC0;have hC:=hC0.bl ab;refine go ?_;obtain ⟨ba,a2,hm⟩:=bZ hm;refine lc rfl rfl (Zax call103) (Zns (col:=ab) 6 7 a2:) ?_;rintro _ bb ⟨af,bc,bd,be,bf,rfl,ax,aq,ar⟩;refine ⟨_,rfl,?_⟩;refine Zm<|X4 af hC0 ax<|xe rfl rfl ?_;intro a3 hC0;replace aa:=(aa.grow hC).grow ax;have hC:=hC0.bl af;refine go ?_;obtain ⟨au,a4,hm⟩:=bZ hm;replace aq:=aq.gr hC;replace ar:=ar.gr hC;replace aa:=aa.grow hC;refine Zh (Zdr a4 (((ah.ks aa).froz 6).froz 7) (((ai.ks aa).froz 6).froz 7) ((aq.toSlF (Zg.int .u32)).froz 7) ((ar.froz 6 (by decide)).toSlF (Zg.int .u32))) ?_;rintro _ a5 ⟨rfl,ak⟩;refine ⟨_,rfl,?_⟩;replace ak:Zf af a3 af a5:=.of_below ak;refine Zm<|X4 af hC0 ak<|xu_g (v:=(.bool (decide (0<au)))) (b:=decide (ae<0)) 6 rfl rfl rfl rfl rfl (by rw [ad];rfl) (fun _=>Zpu au 0 rfl rfl) ?_;refine xu (v:=(.bool (decide (0<au)))) rfl rfl (fun _=>Xh (congrArg Value.bool ad) rfl) ?_;refine xu rfl rfl (fun _=>Zmu rfl) ?_;refine Wf ?_;intro bg hC;replace hC:=hC.bl af;replace aa:=(aa.grow ak).grow hC;exact ⟨rfl,_,_,hm,aa,rfl⟩
def Zev (N:Nat):List R1→Nat→Option Int
  | [],aa=>some (-1)
  | ab :: ac,aa=>(Zgr N ((ab.1.1,ab.1.2),ab.2)).bind fun ad=>if ad=true then (some (aa:Int)) else ((Zev N ac) (aa+1))
termination_by structural x=>x
def Zma (N:Nat) (aa:R6):Option Int:=
  Zev N aa 0
theorem Z0g {N aj:Nat} {a0:Option Addr} {col:Ze} {w0:World} {ab:R6} {r:Int} (hm:Zma N ab=some r) (h0:Sl (Za.pair (Za.pair Za.bool (Za.slice (Za.int .u32))) (Za.slice (Za.int .u32))) col w0 a0 aj ab):
    Calls prog 161 #[.slice a0 ab.length aj,(.func (.func 90) #[] #[])] w0 (fun e w'=>e= .returned ((.int .i64 r))∧Below w0.heap.size w0 w'):=by
 refine Xm 4 (m:=19) func161 rfl rfl rfl rfl rfl ?_;rw [Zma.eq_1] at hm;have aa:=St.start col w0;refine go ?_;refine Z9 [0,1,7,1000000] (fun n f af=>∃ ae ac ad,n=ad.length∧ab.drop ac=ad∧Zev N ad ac=some r∧St w0 (Zk col) ae af∧[8].map f=[.int .i64 ac]) ab.length ⟨_,0,_,rfl,rfl,hm,aa,rfl⟩ ?_;clear hm;intro n f af hI;obtain ⟨ae,ac,ad,hn,hl,hm,aa,hs⟩:=hI;subst hn;refine .lL [8] hs ?_;replace h0:=h0.keep (Zl.start col w0)
 cases ad with
 | nil=>
  have hk:¬ ((ac:Int)<(ab.length:Int)):=by have:=List.drop_eq_nil_iff.1 hl;omega
  have hkb:=decide_eq_false hk;rw [Zev.eq_1] at hm;refine go ?_;refine X9 (congrArg Value.bool hkb)<|go ?_;cases hm;exact ⟨rfl,rfl,aa.below⟩
 | cons ag ak=>
  obtain ⟨ah,al,am⟩:=Ym hl;have hk:(ac:Int)<(ab.length:Int):=by omega
  have hkb:=decide_eq_true hk;rw [Zev.eq_2] at hm;refine go ?_;refine Yc (congrArg Value.bool hkb)<|go ?_;refine lM (.func (.func 90) #[] #[])<|go ?_;refine lI ah ((h0.ks aa).addr ah) ?_;obtain ⟨_,an,ao⟩:=(h0.ks aa).atN ah;obtain ⟨_,_,rfl,ap,aq⟩:=Va an;obtain ⟨_,_,rfl,ar,au⟩:=Va ap;obtain ⟨rfl,_⟩:=ar;obtain ⟨⟨av,aw,rfl,ax⟩,_⟩:=au;obtain ⟨⟨ay,az,rfl,a1⟩,_⟩:=aq;refine lV (.agg #[.bool ag.1.1,.slice av ag.1.2.length aw,.slice ay ag.2.length az]) (Xt isAgg39 sizeOf39 rfl rfl ao) ?_;obtain ⟨a4,a2,hm⟩:=bZ hm;refine lc rfl rfl (Z4n call90 rfl rfl) (Zzn a2 ax a1:) ?_;rintro _ a3 ⟨rfl,ai⟩;refine ⟨_,rfl,?_⟩;replace ai:Zf ae af ae a3:=.of_below ai;refine Zm ?_;replace aa:=aa.grow ai;refine Zq hm (fun hb hm=>go ?_) fun hb hm=>go ?_
  ·cases hm;exact ⟨rfl,rfl,aa.below⟩
  exact ⟨ak.length,by simp,rfl,⟨_,_,_,rfl,al,hm,aa,(Ys (congrArg (Value.int .i64) (Yp (Nat.lt_of_lt_of_le am (h0.ks aa).1.1))) rfl)⟩⟩
def Zl9 (N:Nat) (aa:R6):Option Bool:=
  (Zma N aa).bind fun ab=>some (decide (0≤ab))
theorem Z0e {N ad:Nat} {a0:Option Addr} {col:Ze} {w0:World} {ab:R6} {r:Bool} (hm:Zl9 N ab=some r) (h0:Sl (Za.pair (Za.pair Za.bool (Za.slice (Za.int .u32))) (Za.slice (Za.int .u32))) col w0 a0 ad ab):
    Calls prog 88 #[.slice a0 ab.length ad,(.func (.func 90) #[] #[])] w0 (fun e w'=>e= .returned ((.bool r))∧Below w0.heap.size w0 w'):=by
 refine Xm 4 (m:=9) func88 rfl rfl rfl rfl rfl ?_;rw [Zl9.eq_1] at hm;have aa:=St.start col w0;refine go ?_;refine lM (.func (.func 90) #[] #[]) ?_;obtain ⟨ag,ae,hm⟩:=bZ hm;replace h0:=h0.keep (Zl.start col w0);refine Zh (Z0g ae (h0.ks aa)) ?_;rintro _ af ⟨rfl,ac⟩;refine ⟨_,rfl,?_⟩;replace ac:Zf (Zk col) w0 (Zk col) af:=.of_below ac;refine go ?_;cases hm;replace aa:=aa.grow ac;exact ⟨rfl,rfl,aa.below⟩
def Zec (ab:R0):List Int→Int→Option Int
  | [],aa=>some aa
  | ad :: ae,aa=>(Zp ab.2.2.1 ad).bind fun ac=>(Zec ab ae) (if 1099511627776<(i64.wrap (aa * (ac.length:Int))) then 1099511627776 else (i64.wrap (aa * (ac.length:Int))))
termination_by structural x=>x
def Zgt (aa:R0) (ab:Int):Option Int:=
  (Zp aa.2.2.2.1 ab).bind fun ac=>Zec aa ac 1
theorem Zzo {am an ao ap:Nat} {aq ar au av:Option Addr} {col:Ze} {w0:World} {aa:R0} {a0 r:Int} (hm:Zgt aa a0=some r) (bc:Sl Za.str col w0 aq am aa.2.1) (ai:Sl (Za.slice Za.str) col w0 ar an aa.2.2.1) (aj:Sl (Za.slice (Za.int .i64)) col w0 au ao aa.2.2.2.1) (bd:Sl (Za.slice (Za.pair (Za.pair Za.bool (Za.slice (Za.int .u32))) (Za.slice (Za.int .u32)))) col w0 av ap aa.2.2.2.2):
    Calls prog 87 #[(.agg #[.string aa.1,.slice aq aa.2.1.length am,.slice ar aa.2.2.1.length an,.slice au aa.2.2.2.1.length ao,.slice av aa.2.2.2.2.length ap]),.int .i64 a0] w0 (fun e w'=>e= .returned ((.int .i64 r))∧Below w0.heap.size w0 w'):=by
 refine Xm 4 (m:=29) func87 rfl rfl rfl rfl rfl ?_;rw [Zgt.eq_1] at hm;have ab:=St.start col w0;refine go ?_;refine Xv (col:=(Zk col)) 1 rfl ?_;intro a1 be bf a2 ae;refine go ?_;refine Xz ae<|Yf rfl ?_;obtain ⟨af,aw,hm⟩:=bZ hm;replace aj:=aj.keep (Zl.start col w0);replace ab:=ab.grow a2;refine lI aw ((aj.ks ab).addr aw) ?_;obtain ⟨_,a3,a4⟩:=(aj.ks ab).atN aw;obtain ⟨⟨a5,a6,rfl,ac⟩,_⟩:=a3;refine lW a4.one<|go ?_;refine Z9 [12,13,2,1000000] (fun n f ak=>∃ al ag ad ah,n=ah.length∧af.drop ag=ah∧Zec aa ah ad=some r∧St w0 (Zk col) al ak∧Sl (Za.int .i64) al ak a5 a6 af∧Zj 27 1 al ak a1 #[.string aa.1,.slice aq aa.2.1.length am,.slice ar aa.2.2.1.length an,.slice au aa.2.2.2.1.length ao,.slice av aa.2.2.2.2.length ap]∧[14,5].map f=[.int .i64 ag,.int .i64 ad]) af.length ⟨_,0,1,_,rfl,rfl,hm,ab,ac,ae,rfl⟩ ?_;clear hm;intro n f ak hI;obtain ⟨al,ag,ad,ah,hn,hl,hm,ab,ac,ae,hs⟩:=hI;subst hn;refine .lL [14,5] hs ?_;replace ai:=ai.keep (Zl.start col w0)
 cases ah with
 | nil=>
  have hk:¬ ((ag:Int)<(af.length:Int)):=by have:=List.drop_eq_nil_iff.1 hl;omega
  have hkb:=decide_eq_false hk;rw [Zec.eq_1] at hm;refine go ?_;refine X9 (congrArg Value.bool hkb)<|go ?_;cases hm;exact ⟨rfl,rfl,ab.below⟩
 | cons bg a7=>
  obtain ⟨ax,a8,a9⟩:=Ym hl;have hk:(ag:Int)<(af.length:Int):=by omega
  have hkb:=decide_eq_true hk;rw [Zec.eq_2] at hm;refine go ?_;refine Yc (congrArg Value.bool hkb)<|go ?_;refine lI ax (ac.addr ax)<|lW (ac.atInt ax) ?_;refine go ?_;refine Xz ae<|Yf rfl ?_;obtain ⟨ay,az,hm⟩:=bZ hm;refine lI az ((ai.ks ab).addr az) ?_;obtain ⟨_,ba,bb⟩:=(ai.ks ab).atN az;obtain ⟨⟨bh,bi,rfl,bj⟩,_⟩:=ba;refine lW bb.one<|go ?_;refine lV (.int .i64 (if 1099511627776<(i64.wrap (ad * (ay.length:Int))) then 1099511627776 else (i64.wrap (ad * (ay.length:Int))))) (Zmz (i64.wrap (ad * (ay.length:Int))) 1099511627776 rfl rfl)<|go ?_;exact ⟨a7.length,by simp,rfl,⟨_,_,_,_,rfl,a8,hm,ab,ac,ae,(Ys (congrArg (Value.int .i64) (Yp (Nat.lt_of_lt_of_le a9 ac.1.1))) rfl)⟩⟩
def Zcr (N:Nat) (ab:R0):List R6→Nat→Option Int
  | [],aa=>some 0
  | ac :: ad,aa=>(Zp ab.2.2.1 (aa:Int)).bind fun ae=>(Zgp N ac).bind fun af=>(Zix N af (ae.length:Int)).bind fun ag=>if (!ag)=true then (some 46) else ((Zcr N ab ad) (aa+1))
termination_by structural x=>x
def Zbj (N:Nat) (aa:R0):List R6→Option Int
  | []=>Zcr N aa aa.2.2.2.2 0
  | ab :: ac=>(Zgp N ab).bind fun ad=>(Zl9 N ad).bind fun ae=>if ae=true then (some 45) else (Zbj N aa ac)
termination_by structural x=>x
def Zbi (N:Nat) (aa:R0):List R6→Nat→Option Int
  | [],ab=>Zbj N aa aa.2.2.2.2
  | ae :: af,ab=>(Zgt (aa.1,aa.2.1,aa.2.2.1,aa.2.2.2.1,aa.2.2.2.2) (ab:Int)).bind fun ac=>(Zp aa.2.2.1 (ab:Int)).bind fun ad=>if (decide (65536<(i64.wrap (ac * (ad.length:Int)))))=true then (some 4) else (if (!decide ((i64.wrap (ac * (ad.length:Int)))=(ae.length:Int)))=true then (some 60) else ((Zbi N aa af) (ab+1)))
termination_by structural x=>x
def Zao (N:Nat) (aa:R0) (ad:Bool):Option Int:=
  if ad=true then (some 60) else (if (decide (1024<(aa.2.1.length:Int)))=true then (some 4) else ((Zea (aa.1,aa.2.1,aa.2.2.1,aa.2.2.2.1,aa.2.2.2.2)).bind fun ab=>if (!decide (ab=0))=true then (some ab) else ((Qp N aa.2.2.2.1).bind fun ac=>if (!decide (ac=0))=true then (some ac) else (Zbi N aa aa.2.2.2.2 0))))
def Vn (N:Nat) (aa:R0):Option Int:=
  if (!decide ((aa.2.2.1.length:Int)=(aa.2.1.length:Int)))=true then (Zao N aa true) else (if (!decide ((aa.2.2.2.1.length:Int)=(aa.2.1.length:Int)))=true then (Zao N aa true) else (Zao N aa (!decide ((aa.2.2.2.2.length:Int)=(aa.2.1.length:Int)))))
theorem Zia {N aj ak al am:Nat} {an ao ap aq:Option Addr} {col:Ze} {w0:World} {ab:R0} {r:Int} (hm:Vn N ab=some r) (a2:Sl Za.str col w0 an aj ab.2.1) (ag:Sl (Za.slice Za.str) col w0 ao ak ab.2.2.1) (aw:Sl (Za.slice (Za.int .i64)) col w0 ap al ab.2.2.2.1) (ad:Sl (Za.slice (Za.pair (Za.pair Za.bool (Za.slice (Za.int .u32))) (Za.slice (Za.int .u32)))) col w0 aq am ab.2.2.2.2):
    Calls prog 20 #[(.agg #[.string ab.1,.slice an ab.2.1.length aj,.slice ao ab.2.2.1.length ak,.slice ap ab.2.2.2.1.length al,.slice aq ab.2.2.2.2.length am])] w0 (fun e w'=>e= .returned ((.int .i64 r))∧Below w0.heap.size w0 w'):=by
 refine Xm 2 (m:=103) func20 rfl rfl rfl rfl rfl ?_;rw [Vn.eq_1] at hm;have aa:=St.start col w0;refine go ?_;refine Xv (col:=(Zk col)) 1 rfl ?_;intro a3 cp cq bo ac;refine go ?_;refine Xz ac<|lV _ (Zay underlying22 rfl)<|Yx rfl<|Zm<|Zv<|Zv ?_;replace a2:=a2.keep (Zl.start col w0);replace ag:=ag.keep (Zl.start col w0);replace aw:=aw.keep (Zl.start col w0);replace ad:=ad.keep (Zl.start col w0);replace aa:=aa.grow bo;refine Wp.cutK [1,3,1000000] (fun f a4=>∃ ah a9,Zao N ab a9=some r∧St w0 (Zk col) ah a4∧Zj 27 1 ah a4 a3 #[.string ab.1,.slice an ab.2.1.length aj,.slice ao ab.2.2.1.length ak,.slice ap ab.2.2.2.1.length al,.slice aq ab.2.2.2.2.length am]∧[34].map f=[.bool a9]) ?_ ?_
 ·intro f a4 hJ;obtain ⟨ah,a9,hm,aa,ac,hs⟩:=hJ;rw [Zao.eq_1] at hm;refine .lL [34] hs ?_;refine Zq hm (fun hb hm=>go ?_) fun hb hm=>go ?_
  ·cases hm;exact ⟨rfl,rfl,aa.below⟩
  refine Zq hm (fun hb hm=>go ?_) fun hb hm=>go ?_
  ·cases hm;exact ⟨rfl,rfl,aa.below⟩
  refine lV _ (Xb isAgg27 sizeOf27 ac) ?_;obtain ⟨cr,bp,hm⟩:=bZ hm;refine Zh (Zzm bp (a2.ks aa) (ag.ks aa) (aw.ks aa) (ad.ks aa)) ?_;rintro _ bk ⟨rfl,a5⟩;refine ⟨_,rfl,?_⟩;replace a5:Zf ah a4 ah bk:=.of_below a5;refine go ?_;replace ac:=ac.gr a5;replace aa:=aa.grow a5;refine Zq hm (fun hb hm=>go ?_) fun hb hm=>go ?_
  ·cases hm;exact ⟨rfl,rfl,aa.below⟩
  refine Xz ac ?_;obtain ⟨cs,bq,hm⟩:=bZ hm;refine Zh (Zy2 bq (aw.ks aa)) ?_;rintro _ br ⟨rfl,a6⟩;refine ⟨_,rfl,?_⟩;replace a6:Zf ah bk ah br:=.of_below a6;refine go ?_;replace ac:=ac.gr a6;replace aa:=aa.grow a6;refine Zq hm (fun hb hm=>go ?_) fun hb hm=>go ?_
  ·cases hm;exact ⟨rfl,rfl,aa.below⟩
  refine Xz ac ?_;refine go ?_;refine Z9 [1,49,50,1000000] (fun n f ba=>∃ ae ar ax,n=ax.length∧ab.2.2.2.2.drop ar=ax∧Zbi N ab ax ar=some r∧St w0 (Zk col) ae ba∧Zj 27 1 ae ba a3 #[.string ab.1,.slice an ab.2.1.length aj,.slice ao ab.2.2.1.length ak,.slice ap ab.2.2.2.1.length al,.slice aq ab.2.2.2.2.length am]∧[51].map f=[.int .i64 ar]) ab.2.2.2.2.length ⟨_,0,_,rfl,rfl,hm,aa,ac,rfl⟩ ?_;clear hm;intro n f ba hI;obtain ⟨ae,ar,ax,hn,hl,hm,aa,ac,hs⟩:=hI;subst hn;refine .lL [51] hs ?_
  cases ax with
  | nil=>
   have hk:¬ ((ar:Int)<(ab.2.2.2.2.length:Int)):=by have:=List.drop_eq_nil_iff.1 hl;omega
   have hkb:=decide_eq_false hk;rw [Zbi.eq_1] at hm;refine go ?_;refine X9 (congrArg Value.bool hkb)<|go ?_;refine Xz ac ?_;refine go ?_;refine Z9 [1,74,75,1000000] (fun n f bb=>∃ bc ay az,n=az.length∧ab.2.2.2.2.drop ay=az∧Zbj N ab az=some r∧St w0 (Zk col) bc bb∧Zj 27 1 bc bb a3 #[.string ab.1,.slice an ab.2.1.length aj,.slice ao ab.2.2.1.length ak,.slice ap ab.2.2.2.1.length al,.slice aq ab.2.2.2.2.length am]∧[76].map f=[.int .i64 ay]) ab.2.2.2.2.length ⟨_,0,_,rfl,rfl,hm,aa,ac,rfl⟩ ?_;clear hm;intro n f bb hI;obtain ⟨bc,ay,az,hn,hl,hm,aa,ac,hs⟩:=hI;subst hn;refine .lL [76] hs ?_
   cases az with
   | nil=>
    have hk:¬ ((ay:Int)<(ab.2.2.2.2.length:Int)):=by have:=List.drop_eq_nil_iff.1 hl;omega
    have hkb:=decide_eq_false hk;rw [Zbj.eq_1] at hm;refine go ?_;refine X9 (congrArg Value.bool hkb)<|go ?_;refine Xz ac ?_;refine go ?_;refine Z9 [1,85,86,1000000] (fun n f bd=>∃ ai au a0,n=a0.length∧ab.2.2.2.2.drop au=a0∧Zcr N ab a0 au=some r∧St w0 (Zk col) ai bd∧Zj 27 1 ai bd a3 #[.string ab.1,.slice an ab.2.1.length aj,.slice ao ab.2.2.1.length ak,.slice ap ab.2.2.2.1.length al,.slice aq ab.2.2.2.2.length am]∧[87].map f=[.int .i64 au]) ab.2.2.2.2.length ⟨_,0,_,rfl,rfl,hm,aa,ac,rfl⟩ ?_;clear hm;intro n f bd hI;obtain ⟨ai,au,a0,hn,hl,hm,aa,ac,hs⟩:=hI;subst hn;refine .lL [87] hs ?_
    cases a0 with
    | nil=>
     have hk:¬ ((au:Int)<(ab.2.2.2.2.length:Int)):=by have:=List.drop_eq_nil_iff.1 hl;omega
     have hkb:=decide_eq_false hk;rw [Zcr.eq_1] at hm;refine go ?_;refine X9 (congrArg Value.bool hkb)<|go ?_;cases hm;exact ⟨rfl,rfl,aa.below⟩
    | cons ct bs=>
     obtain ⟨af,bt,bu⟩:=Ym hl;have hk:(au:Int)<(ab.2.2.2.2.length:Int):=by omega
     have hkb:=decide_eq_true hk;rw [Zcr.eq_2] at hm;refine go ?_;refine Yc (congrArg Value.bool hkb)<|go ?_;refine lI af ((ad.ks aa).addr af) ?_;obtain ⟨_,bv,bw⟩:=(ad.ks aa).atN af;obtain ⟨⟨cu,cv,rfl,be⟩,_⟩:=bv;refine lW bw.one<|go ?_;refine Wi (col:=ai) [(0,1),(2,1),(3,0),(4,1),(5,1),(6,0),(7,1),(1,3),(8,3),(9,1)] (by kernel_rfl) (by kernel_rfl)<|xu rfl rfl (fun _=>Vu rfl) ?_;refine xF ⟨_,_,rfl⟩ ?_;refine xW (fun _ hC=>((ac.atN).nth (q:=2) rfl).gr (hC.bl ai)) ?_;refine xu rfl rfl (fun _=>W1 rfl) ?_;obtain ⟨cw,a7,hm⟩:=bZ hm;refine xu rfl rfl (fun _=>We underlying23 sizeOf22 rfl rfl (Xl a7).1 (Xl a7).2.1 ((ag.ks aa).addr a7)) ?_;obtain ⟨_,bx,bz⟩:=(ag.ks aa).atN a7;obtain ⟨⟨cx,cy,rfl,cz⟩,_⟩:=bx;refine xW (fun _ hC=>bz.one.gr (hC.bl ai)) ?_;refine xu rfl rfl (fun _=>Zay underlying22 rfl) ?_;refine xe rfl rfl ?_;intro c0 hC0;have hC:=hC0.bl ai;obtain ⟨c1,b0,hm⟩:=bZ hm;replace be:=be.gr hC;refine Zh (Zrf 2 b0 be) ?_;rintro _ c2 ⟨av,c3,c4,rfl,bf,bg⟩;refine ⟨_,rfl,?_⟩;refine Zm<|X4 av hC0 bf<|xe rfl rfl ?_;intro b1 hC0;replace ac:=(ac.gr hC).gr bf;replace aa:=(aa.grow hC).grow bf;have hC:=hC0.bl av;obtain ⟨c5,b2,hm⟩:=bZ hm;replace bg:=bg.gr hC;refine Zh (Zzq b2 (bg.toSlF (Zg.pair (Zg.pair Zg.bool Zg.slice) Zg.slice))) ?_;rintro _ b3 ⟨rfl,a1⟩;refine ⟨_,rfl,?_⟩;replace a1:Zf av b1 av b3:=.of_below a1;refine Zm<|X4 av hC0 a1<|xu rfl rfl (fun _=>Zhu _ rfl) ?_;refine Wf ?_;replace ac:=(ac.gr hC).gr a1;replace aa:=(aa.grow hC).grow a1;intro c6 hC;replace hC:=hC.bl av;replace ac:=ac.gr hC;replace aa:=aa.grow hC;refine Zq hm (fun hb hm=>go ?_) fun hb hm=>go ?_
     ·cases hm;exact ⟨rfl,rfl,aa.below⟩
     exact ⟨bs.length,by simp,rfl,⟨_,_,_,rfl,bt,hm,aa,ac,(Ys (congrArg (Value.int .i64) (Yp (Nat.lt_of_lt_of_le bu (ad.ks aa).1.1))) rfl)⟩⟩
   | cons c7 b4=>
    obtain ⟨af,b5,b6⟩:=Ym hl;have hk:(ay:Int)<(ab.2.2.2.2.length:Int):=by omega
    have hkb:=decide_eq_true hk;rw [Zbj.eq_2] at hm;refine go ?_;refine Yc (congrArg Value.bool hkb)<|go ?_;refine lI af ((ad.ks aa).addr af) ?_;obtain ⟨_,b7,b8⟩:=(ad.ks aa).atN af;obtain ⟨⟨c8,c9,rfl,b9⟩,_⟩:=b7;refine lW b8.one<|go ?_;obtain ⟨da,ca,hm⟩:=bZ hm;refine Zh (Zrf 3 ca b9) ?_;rintro _ cb ⟨bm,db,dc,rfl,bn,cc⟩;refine ⟨_,rfl,?_⟩;obtain ⟨dd,cd,hm⟩:=bZ hm;refine Zh (Z0e cd (cc.toSlF (Zg.pair (Zg.pair Zg.bool Zg.slice) Zg.slice))) ?_;rintro _ ce ⟨rfl,a8⟩;refine ⟨_,rfl,?_⟩;replace a8:Zf bm cb bm ce:=.of_below a8;refine Zm ?_;replace ac:=(ac.gr bn).gr a8;replace aa:=(aa.grow bn).grow a8;refine Zq hm (fun hb hm=>go ?_) fun hb hm=>go ?_
    ·cases hm;exact ⟨rfl,rfl,aa.below⟩
    exact ⟨b4.length,by simp,rfl,⟨_,_,_,rfl,b5,hm,aa,ac,(Ys (congrArg (Value.int .i64) (Yp (Nat.lt_of_lt_of_le b6 (ad.ks aa).1.1))) rfl)⟩⟩
  | cons de cf=>
   obtain ⟨af,cg,ch⟩:=Ym hl;have hk:(ar:Int)<(ab.2.2.2.2.length:Int):=by omega
   have hkb:=decide_eq_true hk;rw [Zbi.eq_2] at hm;refine go ?_;refine Yc (congrArg Value.bool hkb)<|go ?_;refine lI af ((ad.ks aa).addr af) ?_;obtain ⟨_,ci,cj⟩:=(ad.ks aa).atN af;obtain ⟨⟨df,dg,rfl,dh⟩,_⟩:=ci;refine lW cj.one<|go ?_;refine Un (col:=ae) (by kernel_rfl) (by kernel_rfl)<|qv rfl (fun _ hC=>Xb isAgg27 sizeOf27 (ac.gr (hC.bl ae))) ?_;refine go ?_;obtain ⟨ck,cl,hm⟩:=bZ hm;refine qc (v:=(.int .i64 ck)) rfl (fun _ hC=>⟨_,_,Zwk call87 rfl rfl,(Zzo cl ((a2.ks aa).gr (hC.bl ae)) ((ag.ks aa).gr (hC.bl ae)) ((aw.ks aa).gr (hC.bl ae)) ((ad.ks aa).gr (hC.bl ae)):).mono fun _ _ h=>⟨h.1,hC.trans (.of_below h.2)⟩⟩) ?_;refine qF ⟨_,_,rfl⟩ ?_;refine qW (fun _ hC=>((ac.atN).nth (q:=2) rfl).gr (hC.bl ae)) ?_;refine go ?_;obtain ⟨di,bh,hm⟩:=bZ hm;refine qI bh ((ag.ks aa).addr bh) ?_;obtain ⟨_,cn,co⟩:=(ag.ks aa).atN bh;obtain ⟨⟨dj,dl,rfl,dm⟩,_⟩:=cn;refine qW (fun _ hC=>co.one.gr (hC.bl ae)) ?_;refine go ?_;refine Wv ?_;intro dn hC;replace hC:=hC.bl ae;refine go ?_;replace ac:=ac.gr hC;replace aa:=aa.grow hC;refine Zq hm (fun hb hm=>go ?_) fun hb hm=>go ?_
   ·cases hm;exact ⟨rfl,rfl,aa.below⟩
   refine Zq hm (fun hb hm=>go ?_) fun hb hm=>go ?_
   ·cases hm;exact ⟨rfl,rfl,aa.below⟩
   exact ⟨cf.length,by simp,rfl,⟨_,_,_,rfl,cg,hm,aa,ac,(Ys (congrArg (Value.int .i64) (Yp (Nat.lt_of_lt_of_le ch (ad.ks aa).1.1))) rfl)⟩⟩
 refine Wq<|Xz ac ?_;refine go ?_;refine X8 hm (fun bi hm=>go ?_) fun bi hm=>go ?_
 ·refine lV (.bool true) (Xr (congrArg Value.bool bi) rfl)<|Yt rfl<|lP 28 rfl rfl<|lP 28 rfl rfl<|lP 28 rfl rfl<|lP 28 rfl rfl<|lP 28 rfl rfl<|lV (.bool true) (Xr rfl rfl)<|Zm ?_;exact ⟨rfl,_,_,hm,aa,ac,rfl⟩
 refine Xx ⟨_,_,rfl⟩ ?_;refine go ?_;refine lW ((ac.atN).nth (q:=3) rfl)<|go ?_;refine lV (.bool (!decide ((ab.2.2.2.1.length:Int)=(ab.2.1.length:Int)))) (Xh (congrArg Value.bool bi) rfl)<|Yt rfl ?_;refine X8 hm (fun bj hm=>go ?_) fun bj hm=>go ?_
 ·refine lV (.bool true) (Xr (congrArg Value.bool bj) rfl)<|Zm ?_;exact ⟨rfl,_,_,hm,aa,ac,rfl⟩
 refine Xx ⟨_,_,rfl⟩ ?_;refine go ?_;refine lW ((ac.atN).nth (q:=4) rfl)<|go ?_;refine lV (.bool (!decide ((ab.2.2.2.2.length:Int)=(ab.2.1.length:Int)))) (Xh (congrArg Value.bool bj) rfl)<|Zm ?_;exact ⟨rfl,_,_,hm,aa,ac,rfl⟩
abbrev Z2:=ByteArray×List ByteArray×List R4×List R2×List (List QV)
instance decMemB:∀ (s:ByteArray) (l:List ByteArray),Decidable (s ∈ l)
 | _,[]=>isFalse (by simp)
 | s,x :: l=>if h:s=x then isTrue (by rw [h];exact List.mem_cons_self) else match decMemB s l with
  | isTrue h2=>isTrue (List.mem_cons_of_mem _ h2)
  | isFalse h2=>isFalse (by rw [List.mem_cons];rintro (h3 | h3) <;> contradiction)
theorem Zt3 (s:ByteArray):∀ (l:List ByteArray) (k:Nat),∃ j:Int,Zew s l k=some j∧(0≤j↔s ∈ l)
 | [],k=>⟨-1,rfl,by simp⟩
 | x :: l,k=>by
  rw [Zew.eq_2]
  by_cases h:s=x
  ·rw [if_pos (dT h)];exact ⟨_,rfl,by simp [h]⟩
  ·rw [if_neg (dF h)]
   obtain ⟨j,h1,h2⟩:=Zt3 s l (k+1)
   exact ⟨j,h1,by rw [h2,List.mem_cons];simp [h]⟩
theorem Z0x (s:ByteArray) (l:List ByteArray):Zjr l s=some (decide (s ∈ l)):=by
 obtain ⟨j,h1,h2⟩:=Zt3 s l 0
 rw [Zjr,Zmb,h1,oB]
 congr 1
 exact decide_eq_decide.2 h2
theorem Zu7:∀ (l:List ByteArray) (seen:List Re) (S:List ByteArray),S.Nodup→(∀ k,Wn seen k=if k ∈ S then some 1 else none)→Zcv l seen=some (!decide (S++l).Nodup)
 | [],seen,S,h1,h2=>by rw [Zcv.eq_1,List.append_nil,decide_eq_true h1];rfl
 | x :: l,seen,S,h1,h2=>by
  rw [Zcv.eq_2,h2 x]
  by_cases hx:x ∈ S
  ·rw [if_pos hx,if_pos (by decide),decide_eq_false]
   ·rfl
   intro h
   exact (List.nodup_append.1 h).2.2 x hx x List.mem_cons_self rfl
  ·rw [if_neg hx,if_neg (by decide),oB,Zu7 l _ (S++[x]) (by
    rw [List.nodup_append]
    refine ⟨h1,by simp,fun a ha b hb e=>?_⟩
    rw [List.mem_singleton] at hb;subst hb;subst e;exact hx ha) (fun k=>by
    rw [Zu0,h2 k]
    by_cases hk:k=x
    ·subst hk;rw [if_pos rfl,if_pos (by simp)]
    ·rw [if_neg hk]
     by_cases hs:k ∈ S
     ·rw [if_pos hs,if_pos (by simp [hs])]
     ·rw [if_neg hs,if_neg (by simp [hs,hk])])]
   rw [List.append_assoc];rfl
theorem Z3m (l:List ByteArray):Ziw l=some (!decide l.Nodup):=by
 rw [Ziw,Zu7 l [] [] .nil (fun k=>by simp [Wn]),List.nil_append]
def Zav (names:List ByteArray) (vals:List R4):Nat→Nat→Int
 | 0,_=>0
 | m+1,v=>if names.getD v ⟨#[]⟩ ∈ names.take v∨¬ (vals.getD v []).Nodup then 40 else if vals.getD v []=[] then 43 else Zav names vals m (v+1)
theorem Zvc (n:Z2) (hl:n.2.2.1.length=n.2.1.length):∀ (l:List ByteArray) (k:Nat),n.2.1.drop k=l→k≤n.2.1.length→Zbk n l k=some (Zav n.2.1 n.2.2.1 l.length k)
 | [],k,_,_=>rfl
 | x :: l,k,hd,hk=>by
  have hk1:k<n.2.1.length:=by
   rcases Nat.lt_or_ge k n.2.1.length with h | h
   ·exact h
   ·rw [List.drop_eq_nil_of_le h] at hd;cases hd
  have hd2:=List.drop_eq_getElem_cons hk1
  rw [hd] at hd2
  obtain ⟨hx,hl2⟩:=List.cons.inj hd2
  rw [Zbk.eq_2,Xg (by omega),Int.toNat_natCast,Z0x,oB,nC,Zav,Yz hk1,← hx,Yz (by omega)]
  by_cases h1:x ∈ n.2.1.take k
  ·rw [if_pos (dT h1),Zgq,if_pos rfl,if_pos (.inl h1)]
  ·rw [if_neg (dF h1),Xk (by omega),oB,Z3m,oB,Zgq]
   by_cases h2:(n.2.2.1[k]'(by omega)).Nodup
   ·rw [decide_eq_true h2,if_neg (by decide),if_neg (by simp [h1,h2]),Xk (by omega),oB]
    by_cases h3:n.2.2.1[k]'(by omega)=[]
    ·rw [if_pos (by rw [h3];decide),if_pos h3]
    ·rw [if_neg (by simpa using h3),if_neg h3]
     exact Zvc n hl l (k+1) hl2.symm (by omega)
   ·rw [decide_eq_false h2,if_pos (by decide),if_pos (.inr h2)]
theorem Zvd (n:Z2) (hl:n.2.2.1.length=n.2.1.length):Zea n=some (Zav n.2.1 n.2.2.1 n.2.1.length 0):=by
 rw [Zea];exact Zvc n hl n.2.1 0 (by simp) (by omega)
theorem Zve {names:List ByteArray} {vals:List R4}:∀ (m v:Nat),Zav names vals m v=0→∀ i,v≤i→i<v+m→vals.getD i []≠[]∧(vals.getD i []).Nodup∧names.getD i ⟨#[]⟩ ∉ names.take i
 | 0,v,_,i,h1,h2=>by omega
 | m+1,v,h,i,h1,h2=>by
  rw [Zav] at h
  by_cases h3:names.getD v ⟨#[]⟩ ∈ names.take v∨¬ (vals.getD v []).Nodup
  ·rw [if_pos h3] at h;cases h
  ·rw [if_neg h3] at h
   by_cases h4:vals.getD v []=[]
   ·rw [if_pos h4] at h;cases h
   ·rw [if_neg h4] at h
    rcases Nat.lt_or_ge v i with h5 | h5
    ·exact Zve m (v+1) h i (by omega) (by omega)
    ·have:i=v:=by omega
     subst this
     exact ⟨h4,by simpa using (not_or.1 h3).2,(not_or.1 h3).1⟩
def Y9 (vals:List R4):List Int→Nat→Nat
 | [],k=>k
 | p :: ps,k=>Y9 vals ps (min (k * (vals.getD p.toNat []).length) 1099511627776)
theorem Zxd (vals:List R4):∀ (ps:List Int) (k:Nat),k≤1099511627776→Y9 vals ps k≤1099511627776
 | [],k,h=>h
 | p :: ps,k,h=>Zxd vals ps _ (by omega)
theorem Zva {a b:Nat} (h:a≤1099511627776) (g:b≤1048576):a * b≤1152921504606846976:=by
 have:=Nat.mul_le_mul h g
 simpa using this
theorem Zu6 (n:Z2) (hb:∀ l ∈ n.2.2.1,l.length≤1048576):∀ (ps:List Int) (k:Nat),k≤1099511627776→(∀ p ∈ ps,0≤p∧p<(n.2.2.1.length:Int))→Zec n ps (k:Int)=some (Y9 n.2.2.1 ps k:Int)
 | [],k,_,_=>rfl
 | p :: ps,k,hk,hp=>by
  have h1:=hp p List.mem_cons_self
  have h2:p.toNat<n.2.2.1.length:=by omega
  have h3:=hb _ (List.getElem_mem h2)
  have h4:=Zva hk h3
  rw [Zec.eq_2,show p=((p.toNat:Nat):Int) by omega,Xk h2,oB,Y9,Int.toNat_natCast,Yz h2,← Int.natCast_mul,Zz (by omega)]
  have ih:=Zu6 n hb ps (min (k * n.2.2.1[p.toNat].length) 1099511627776) (by omega) (fun q hq=>hp q (List.mem_cons_of_mem _ hq))
  rw [← ih]
  congr 1
  by_cases h5:1099511627776<k * n.2.2.1[p.toNat].length
  ·rw [if_pos (by omega),Nat.min_eq_right (by omega)];rfl
  ·rw [if_neg (by omega),Nat.min_eq_left (by omega)]
def So (vals:List R4) (P:List R2) (T:List (List QV)):Nat→Nat→Int
 | 0,_=>0
 | m+1,v=>if 65536<Y9 vals (P.getD v []) 1 * (vals.getD v []).length then 4 else if Y9 vals (P.getD v []) 1 * (vals.getD v []).length≠(T.getD v []).length then 60 else So vals P T m (v+1)
structure Wk (n:Z2) (W:Nat):Prop where
 nm:n.2.1.length≤1048575
 vl:∀ l ∈ n.2.2.1,l.length≤1048576
 pn:Zkm n.2.2.2.1
 tl:∀ t ∈ n.2.2.2.2,t.length≤1048576
 tq:∀ t ∈ n.2.2.2.2,Yb t≤W
 lim:∀ t ∈ n.2.2.2.2,∀ x ∈ t,Vr x
structure Tm (n:Z2):Prop where
 v:n.2.2.1.length=n.2.1.length
 p:n.2.2.2.1.length=n.2.1.length
 t:n.2.2.2.2.length=n.2.1.length
 i:Us n.2.2.2.1.length n.2.2.2.1=true
 ne:∀ l ∈ n.2.2.1,l≠[]
theorem Tm.par {n:Z2} (h:Tm n) {ps:List Int} (hp:ps ∈ n.2.2.2.1):∀ p ∈ ps,0≤p∧p<(n.2.2.1.length:Int):=by
 have:=Zt4 h.i ps hp
 rw [h.p] at this
 rw [h.v];exact this
theorem Zo7 {N W:Nat} {n:Z2} (hs:Wk n W) (he:Tm n):∀ (l:List (List QV)) (k:Nat),n.2.2.2.2.drop k=l→k≤n.2.1.length→Zbi N n l k=if So n.2.2.1 n.2.2.2.1 n.2.2.2.2 l.length k=0 then Zbj N n n.2.2.2.2 else some (So n.2.2.1 n.2.2.2.1 n.2.2.2.2 l.length k)
 | [],k,_,_=>by rw [Zbi.eq_1];rfl
 | t :: l,k,hd,hk=>by
  have ht:=he.t;have hv:=he.v;have hp:=he.p
  have hk1:k<n.2.2.2.2.length:=by
   rcases Nat.lt_or_ge k n.2.2.2.2.length with h | h
   ·exact h
   ·rw [List.drop_eq_nil_of_le h] at hd;cases hd
  have hd2:=List.drop_eq_getElem_cons hk1
  rw [hd] at hd2
  obtain ⟨hx,hl2⟩:=List.cons.inj hd2
  have kv:k<n.2.2.1.length:=by omega
  have kp:k<n.2.2.2.1.length:=by omega
  have r1:=Zxd n.2.2.1 (n.2.2.2.1[k]) 1 (by omega)
  have c1:=hs.vl _ (List.getElem_mem kv)
  have r2:=Zva r1 c1
  have hrow:Zgt n (k:Int)=some (Y9 n.2.2.1 n.2.2.2.1[k] 1:Int):=by
   rw [Zgt,Xk kp,oB]
   exact Zu6 n hs.vl _ 1 (by omega) (he.par (List.getElem_mem kp))
  rw [Zbi.eq_2]
  have hrow':Zgt (n.1,n.2.1,n.2.2.1,n.2.2.2.1,n.2.2.2.2) (k:Int)=some (Y9 n.2.2.1 n.2.2.2.1[k] 1:Int):=hrow
  rw [hrow',oB,Xk kv,oB,← Int.natCast_mul,Zz (by omega),nC,So,Yz kp,Yz kv,Yz hk1,← hx]
  generalize Y9 n.2.2.1 n.2.2.2.1[k] 1 * n.2.2.1[k].length=rc at *
  by_cases h1:65536<rc
  ·rw [if_pos (dT (by omega)),if_pos h1,if_neg (by decide)]
  ·rw [if_neg (dF (by omega)),if_neg h1]
   by_cases h2:rc=t.length
   ·rw [if_neg (by rw [decide_eq_true (by omega)];decide),if_neg (show ¬ rc≠t.length from fun h=>h h2)]
    exact Zo7 hs he l (k+1) hl2.symm (by omega)
   ·rw [if_pos (by rw [decide_eq_false (by omega)];decide),if_pos h2,if_neg (by decide)]
def V6 (x:QV):Bool:=decide (Zu x<0)||decide (1<Zu x)
theorem Z4d {a b:Rat}:0<Vt a b↔b<a:=by
 rw [Vt]
 by_cases h:a<b
 ·rw [if_pos h]
  constructor
  ·intro h2;omega
  ·intro h2;exact absurd (Rat.le_of_lt h2) (Rat.not_le.2 h)
 ·rw [if_neg h]
  by_cases h2:b<a
  ·simp [h2]
  ·simp [h2]
theorem Zv9 {a b:Rat}:Vt a b=0↔a=b:=by
 rw [Vt]
 constructor
 ·intro h
  split at h
  ·cases h
  ·split at h
   ·cases h
   ·rename_i h1 h2
    exact Rat.le_antisymm (Rat.not_lt.1 h2) (Rat.not_lt.1 h1)
 ·rintro rfl
  rw [if_neg Rat.lt_irrefl,if_neg Rat.lt_irrefl]
theorem Zo6 {N:Nat} (hr:Xi N 8):Zeb N=some (Zn 1):=by
 rw [Zeb,Ztp (by omega) (by omega) (hr.mono (by omega)),oB,if_neg (by decide)]
 have:((1:Int):Rat) / ((1:Int):Rat)=1:=div_one _
 rw [this]
theorem Zxj:RV 1 (Zn 1):=Y4 (by rw [Zhr];omega)
theorem Z3l {N k:Nat} {x:QV} (hx:RV k x) (hr:Xi N (2 * k+16)):Zgr N x=some (V6 x):=by
 have h2:Zag N ((x.1.1,x.1.2),x.2)=some (Qb (Zu x)):=Zoj hx (hr.mono (by omega))
 rw [Zgr,h2,oB,V6]
 by_cases h:Zu x<0
 ·rw [if_pos (dT (Zwh.2 h)),Zgs,decide_eq_true h,Bool.true_or]
 ·rw [if_neg (dF (fun h3=>h (Zwh.1 h3))),decide_eq_false h,Bool.false_or,Zo6 (hr.mono (by omega)),oB,Zdv (a:=((x.1.1,x.1.2),x.2)) (b:=Zn 1) hx Zxj (hr.mono (by omega)),oB,Zgs,Y3]
  congr 1
  exact decide_eq_decide.2 Z4d
def Wz (x:QV):QV:=if Zb x.2=0 then (x.1,[1]) else x
theorem Ztf {x:QV} (h:Vr x):Vr (Wz x):=by
 rw [Wz];split
 ·exact ⟨h.1,.cons (by decide) .nil⟩
 ·exact h
theorem Zoh (x:QV):Zu (Wz x)=Zu x:=by
 rw [Wz];split
 ·rename_i h
  rw [Zu,Zu]
  show mkRat (Zr x.1) (Yn [1])=mkRat (Zr x.1) (Yn x.2)
  rw [Yn,Yn,if_pos h]
  congr 1
 ·rfl
theorem Z17 (x:QV):V6 (Wz x)=V6 x:=by rw [V6,V6,Zoh]
theorem Z14 (x:QV):max (Wz x).1.2.length (Wz x).2.length≤max x.1.2.length x.2.length+1:=by
 rw [Wz];split
 ·show max x.1.2.length [(1:Int)].length≤_
  simp only [List.length_singleton];omega
 ·omega
theorem Zpo:∀ l:List QV,2 * l.length≤Yb l
 | []=>by simp [Yb]
 | a :: l=>by rw [Yb,nC];have:=Zpo l;omega
theorem Zpn:∀ l:List QV,Yb (l.map Wz)≤Yb l+l.length
 | []=>by simp [Yb]
 | a :: l=>by
  rw [List.map_cons,Yb,Yb,nC]
  have:=Zpn l;have:=Z14 a;omega
theorem Zwa (a b:List QV):Yb (a++b)=Yb a+Yb b:=by
 induction a with
 | nil=>simp [Yb]
 | cons x a ih=>rw [List.cons_append,Yb,Yb,ih];omega
theorem Zwd (l:List QV) (k:Nat):Yb (l.take k)≤Yb l:=by
 have:=Zwa (l.take k) (l.drop k)
 rw [List.take_append_drop] at this;omega
theorem Zwb (l:List QV) (k:Nat):Yb (l.drop k)≤Yb l:=by
 have:=Zwa (l.take k) (l.drop k)
 rw [List.take_append_drop] at this;omega
theorem Z4e {l:List QV} {x:QV} (h:x ∈ l):max x.1.2.length x.2.length≤Yb l:=by
 induction l with
 | nil=>simp at h
 | cons y l ih=>
  rw [Yb]
  rcases List.mem_cons.1 h with rfl | h
  ·omega
  ·have:=ih h;omega
theorem Ztk {N k:Nat} {x:QV} (h:Vr x) (hk:max x.1.2.length x.2.length≤k) (hr:Xi N k):Zct N x=some (Wz x):=by
 obtain ⟨r1,r2⟩:=hr
 rw [Zct,Zpd h.2 (by omega) (by omega),oB,Wz]
 by_cases h0:Zb x.2=0
 ·rw [h0,Vd,if_pos (by decide),if_pos rfl,Zj2 (by decide) (by omega),oB,Zgo,show (1:Int).toNat=1 from rfl,Uj]
 ·have:=Sz h0
  rw [if_neg (dF (by omega)),if_neg h0,Zgo]
theorem Ztl {N W:Nat} (hr:Xi N W):∀ (l out:List QV),(∀ x ∈ l,Vr x)→Yb l≤W→out.length+l.length≤1048576→Zcu N l out=some (out++l.map Wz)
 | [],out,_,_,_=>by rw [Zcu.eq_1];simp
 | x :: l,out,hl,hq,hlen=>by
  rw [Yb] at hq
  rw [nC] at hlen
  have h1:Zct N ((x.1.1,x.1.2),x.2)=some (Wz x):=Ztk (x:=x) (hl x List.mem_cons_self) (k:=W) (by omega) hr
  rw [Zcu.eq_2,h1,oB,Xg (by simp only [List.length_singleton,maxLen];omega),Ztl hr l _ (fun y hy=>hl y (List.mem_cons_of_mem _ hy)) (by omega) (by simp only [nA,List.length_singleton];omega)]
  simp
theorem Ztm {N W:Nat} {l:List QV} (hr:Xi N W) (hl:∀ x ∈ l,Vr x) (hq:Yb l≤W) (hlen:l.length≤1048576):Zgp N l=some (l.map Wz):=by
 rw [Zgp,Xg (by simp only [maxLen];omega),Ztl hr l [] hl hq (by simpa using hlen),List.nil_append]
theorem Zt1 {N W:Nat} (hr:Xi N (2 * W+16)):∀ (l:List QV) (k:Nat),(∀ x ∈ l,Vr x)→Yb l≤W→∃ j:Int,Zev N l k=some j∧(0≤j↔l.any V6=true)
 | [],k,_,_=>⟨-1,rfl,by simp⟩
 | x :: l,k,hl,hq=>by
  rw [Yb] at hq
  have hx:=hl x List.mem_cons_self
  have h1:Zgr N ((x.1.1,x.1.2),x.2)=some (V6 x):=Z3l (x:=x) (Zdk hx.1 hx.2) (hr.mono (by omega))
  rw [Zev.eq_2,h1,oB,List.any_cons]
  cases V6 x with
  | true=>rw [if_pos rfl];exact ⟨_,rfl,by simp⟩
  | false=>
   rw [if_neg (by decide)]
   obtain ⟨j,h1,h2⟩:=Zt1 hr l (k+1) (fun y hy=>hl y (List.mem_cons_of_mem _ hy)) (by omega)
   exact ⟨j,h1,by rw [h2];simp⟩
def Za7 (T:List (List QV)):Bool:=T.any fun t=>t.any V6
theorem Zyn (l:List QV):(l.map Wz).any V6=l.any V6:=by
 induction l with
 | nil=>rfl
 | cons x l ih=>rw [List.map_cons,List.any_cons,List.any_cons,ih,Z17]
theorem Zo5 {N W:Nat} {n:Z2} (hr:Xi N (4 * W+16)):∀ l:List (List QV),(∀ t ∈ l,t.length≤1048576∧Yb t≤W∧∀ x ∈ t,Vr x)→Zbj N n l=if Za7 l=true then some 45 else Zcr N n n.2.2.2.2 0
 | [],_=>by rw [Zbj.eq_1];rfl
 | t :: l,h=>by
  obtain ⟨h1,h2,h3⟩:=h t List.mem_cons_self
  have hp:=Zpo t
  have hf:=Zpn t
  obtain ⟨j,j1,j2⟩:=Zt1 (N:=N) (W:=2 * W) (hr.mono (by omega)) (t.map Wz) 0 (fun x hx=>by
   obtain ⟨y,hy,rfl⟩:=List.mem_map.1 hx
   exact Ztf (h3 y hy)) (by omega)
  rw [Zbj.eq_2,Ztm (W:=W) (hr.mono (by omega)) h3 h2 h1,oB,Zl9,Zma,j1,oB,oB,Za7,List.any_cons]
  rw [Zyn] at j2
  by_cases ho:t.any V6=true
  ·rw [if_pos (dT (j2.2 ho)),ho,Bool.true_or,if_pos rfl]
  ·rw [if_neg (dF (fun h=>ho (j2.1 h))),Bool.eq_false_iff.2 ho,Bool.false_or]
   exact Zo5 hr l fun x hx=>h x (List.mem_cons_of_mem _ hx)
def Uy (c:Nat):Nat→List QV→Bool
 | 0,_=>true
 | m+1,l=>decide (Wo (l.take c)=1)&&Uy c m (l.drop c)
def Zid (c:Nat):Nat→List QV→List (List QV)
 | 0,_=>[]
 | m+1,l=>l.take c :: Zid c m (l.drop c)
theorem Zr0 (N:Nat) (l:List QV) (c:Nat) (hc:0<c) (hl:l.length≤1048576) (hcs:c≤1048576):∀ (m fuel i:Nat),i+m * c=l.length→m<fuel→Zda N l (c:Int) fuel (i:Int)=some (Zid c m (l.drop i))
 | 0,0,i,_,h=>by omega
 | 0,fuel+1,i,h1,_=>by
  rw [Zda.eq_2,if_neg (dF (by omega))];rfl
 | m+1,0,i,_,h=>by omega
 | m+1,fuel+1,i,h1,h2=>by
  have h3:i+c+m * c=l.length:=by rw [Nat.add_mul,Nat.one_mul] at h1;omega
  have e:(if ((l.drop i).length:Int)<(c:Int) then ((l.drop i).length:Int) else (c:Int))=(c:Int):=by
   rw [List.length_drop]
   by_cases h:((l.length - i:Nat):Int)<(c:Int)
   ·omega
   ·rw [if_neg h]
  rw [Zda.eq_2,if_pos (dT (by omega)),Int.toNat_natCast,e,Zz (by omega),Xg (by omega),Xg (by omega),show (i:Int)+(c:Int)=((i+c:Nat):Int) by omega,Zr0 N l c hc hl hcs m fuel (i+c) (by omega) (by omega),oB,Int.toNat_natCast,Zid,List.drop_take,show i+c - i=c by omega,List.drop_drop]
theorem Z4h (l:List QV):Wo (l.map Wz)=Wo l:=by
 rw [Wo,Wo,List.map_map]
 congr 1
 exact List.map_congr_left fun x _=>Zoh x
theorem Zvn (c:Nat):∀ (m:Nat) (l:List QV),Uy c m (l.map Wz)=Uy c m l
 | 0,l=>rfl
 | m+1,l=>by rw [Uy,Uy,← List.map_take,← List.map_drop,Z4h,Zvn c m]
theorem Zvb {N W:Nat} (hr:Xi N (4 * W+40)) (c:Nat) (b:Bool):∀ (m:Nat) (l:List QV),(∀ x ∈ l,Vr x)→Yb l≤W→Zed N (Zid c m l) b=some (Uy c m l)
 | 0,l,_,_=>rfl
 | m+1,l,hl,hq=>by
  have ht:=Zwd l c
  have hd:=Zwb l c
  obtain ⟨s1,s2⟩:=Ztu (N:=N) (l:=l.take c) (fun x hx=>hl x (List.mem_of_mem_take hx)) (hr.mono (by omega))
  rw [Zid,Zed.eq_2,s1,oB,Zo6 (hr.mono (by omega)),oB,Zdv (a:=Zn _) (b:=Zn 1) (Y4 s2) Zxj (hr.mono (by omega)),oB,Y3,Y3,Uy]
  by_cases h:Wo (l.take c)=1
  ·rw [if_neg (by rw [Zv9.2 h];decide),decide_eq_true h,Bool.true_and]
   exact Zvb hr c b m _ (fun x hx=>hl x (List.mem_of_mem_drop hx)) (by omega)
  ·rw [if_pos (by rw [decide_eq_false (fun h2=>h (Zv9.1 h2))];decide),decide_eq_false h,Bool.false_and];rfl
theorem Z3o {N W c m:Nat} {l:List QV} (hr:Xi N (4 * W+40)) (hl:∀ x ∈ l,Vr x) (hq:Yb l≤W) (hc:0<c) (hcs:c≤1048576) (hll:l.length≤1048576) (hm:m * c=l.length) (hN:1048577<N):Zix N l (c:Int)=some (Uy c m l):=by
 have hmc:m≤l.length:=by rw [← hm];exact Nat.le_mul_of_pos_right m hc
 rw [Zix,Zl6,if_neg (dF (by omega)),Zl8,Zl7,show (0:Int)=((0:Nat):Int) from rfl,Zr0 N l c hc hll hcs m N 0 (by omega) (by omega),oB,List.drop_zero]
 exact Zvb hr c false m l hl hq
def Za0 (vals:List R4) (P:List R2) (T:List (List QV)):Nat→Nat→Int
 | 0,_=>0
 | m+1,v=>if Uy (vals.getD v []).length (Y9 vals (P.getD v []) 1) (T.getD v [])=true then Za0 vals P T m (v+1) else 46
theorem Zp9 {vals:List R4} {P:List R2} {T:List (List QV)}:∀ (m v:Nat),So vals P T m v=0→∀ i,v≤i→i<v+m→Y9 vals (P.getD i []) 1 * (vals.getD i []).length=(T.getD i []).length∧(T.getD i []).length≤65536
 | 0,v,_,i,h1,h2=>by omega
 | m+1,v,h,i,h1,h2=>by
  rw [So] at h
  by_cases h3:65536<Y9 vals (P.getD v []) 1 * (vals.getD v []).length
  ·rw [if_pos h3] at h;cases h
  ·rw [if_neg h3] at h
   by_cases h4:Y9 vals (P.getD v []) 1 * (vals.getD v []).length=(T.getD v []).length
   ·rw [if_neg (show ¬ Y9 vals (P.getD v []) 1 * (vals.getD v []).length≠(T.getD v []).length from fun h=>h h4)] at h
    rcases Nat.lt_or_ge v i with h5 | h5
    ·exact Zp9 m (v+1) h i (by omega) (by omega)
    ·have:i=v:=by omega
     subst this
     exact ⟨h4,by omega⟩
   ·rw [if_pos h4] at h;cases h
theorem Zo8 {N W:Nat} {n:Z2} (hs:Wk n W) (he:Tm n) (hsh:So n.2.2.1 n.2.2.2.1 n.2.2.2.2 n.2.1.length 0=0) (hr:Xi N (8 * W+40)) (hN:1048577<N):∀ (l:List (List QV)) (k:Nat),n.2.2.2.2.drop k=l→k≤n.2.1.length→Zcr N n l k=some (Za0 n.2.2.1 n.2.2.2.1 n.2.2.2.2 l.length k)
 | [],k,_,_=>rfl
 | t :: l,k,hd,hk=>by
  have ht:=he.t;have hv:=he.v;have hp:=he.p
  have hk1:k<n.2.2.2.2.length:=by
   rcases Nat.lt_or_ge k n.2.2.2.2.length with h | h
   ·exact h
   ·rw [List.drop_eq_nil_of_le h] at hd;cases hd
  have hd2:=List.drop_eq_getElem_cons hk1
  rw [hd] at hd2
  obtain ⟨hx,hl2⟩:=List.cons.inj hd2
  have kv:k<n.2.2.1.length:=by omega
  have kp:k<n.2.2.2.1.length:=by omega
  have hm:t ∈ n.2.2.2.2:=by rw [hx];exact List.getElem_mem hk1
  have c1:=hs.vl _ (List.getElem_mem kv)
  have c0:0<n.2.2.1[k].length:=List.length_pos_iff.2 (he.ne _ (List.getElem_mem kv))
  obtain ⟨s1,s2⟩:=Zp9 _ 0 hsh k (by omega) (by omega)
  rw [Yz kv,Yz hk1,← hx] at s1
  rw [Yz hk1,← hx] at s2
  have hq:=hs.tq t hm
  have hp2:=Zpo t
  have hf:=Zpn t
  rw [Zcr.eq_2,Xk kv,oB,Ztm (W:=W) (hr.mono (by omega)) (hs.lim t hm) hq (hs.tl t hm),oB,
   Z3o (W:=2 * W) (m:=Y9 n.2.2.1 (n.2.2.2.1.getD k []) 1) (hr.mono (by omega)) (fun x hx=>by
    obtain ⟨y,hy,rfl⟩:=List.mem_map.1 hx
    exact Ztf (hs.lim t hm y hy)) (by omega) c0 c1 (by rw [List.length_map];omega) (by rw [List.length_map];exact s1) hN,oB,Zvn,nC,Za0,Yz kv,Yz hk1,← hx]
  cases Uy n.2.2.1[k].length (Y9 n.2.2.1 (n.2.2.2.1.getD k []) 1) t with
  | true=>
   rw [if_neg (by decide),if_pos rfl]
   exact Zo8 hs he hsh hr hN l (k+1) hl2.symm (by omega)
  | false=>rw [if_pos (by decide),if_neg (by decide)]
structure Yq (N:Nat) (n:Z2):Prop where
 ev:Tm n
 le:n.2.1.length≤1024
 nm:Zav n.2.1 n.2.2.1 n.2.1.length 0=0
 sh:So n.2.2.1 n.2.2.2.1 n.2.2.2.2 n.2.1.length 0=0
 en:Za7 n.2.2.2.2=false
 su:Za0 n.2.2.1 n.2.2.2.1 n.2.2.2.2 n.2.1.length 0=0
 tw:Tl n.2.2.2.1=false
 or:∃ l,Te N n.2.2.2.1=some (l,0)∧Qv N n.2.2.2.1=some l∧Zhg N n.2.2.2.1=some 0∧U1 n.2.2.2.1 l∧l.length=n.2.2.2.1.length
def Y0 (p:Rat×Rat):QV×QV:=(Zn p.1,Zn p.2)
def cnt (n:Z2) (v:Nat):Nat:=(n.2.2.1.getD v []).length
def Tj (n:Z2) (w:List Int):List Int→Nat→Nat
 | [],r=>r
 | p :: ps,r=>Tj n w ps (r * cnt n p.toNat+(w.getD p.toNat 0).toNat)
def Y8 (n:Z2) (w:List Int) (v:Nat):Nat:=Tj n w (n.2.2.2.1.getD v []) 0
def Z1 (n:Z2) (w:List Int) (v:Nat):List QV:=((n.2.2.2.2.getD v []).drop (Y8 n w v * cnt n v)).take (cnt n v)
structure X2 (n:Z2) (w:List Int):Prop where
 len:w.length=n.2.1.length
 ok:∀ i,i<w.length→0≤w.getD i 0∧w.getD i 0<(cnt n i:Int)
theorem Zn8 {n:Z2} (he:Tm n) {v:Nat} (hv:v<n.2.1.length):0<cnt n v:=by
 have h1:v<n.2.2.1.length:=by rw [he.v];exact hv
 rw [cnt,Yz h1]
 exact List.length_pos_iff.2 (he.ne _ (List.getElem_mem h1))
theorem Zxf {n:Z2} (he:Tm n):∀ (ps:List Int) (k:Nat),(∀ p ∈ ps,0≤p∧p<(n.2.1.length:Int))→k≤1099511627776→k≤Y9 n.2.2.1 ps k
 | [],k,_,_=>Nat.le_refl _
 | p :: ps,k,hp,hk=>by
  have h1:=hp p List.mem_cons_self
  have h2:0<(n.2.2.1.getD p.toNat []).length:=Zn8 he (by omega)
  rw [Y9]
  have h3:k≤min (k * (n.2.2.1.getD p.toNat []).length) 1099511627776:=Nat.le_min.2 ⟨Nat.le_mul_of_pos_right k h2,hk⟩
  exact Nat.le_trans h3 (Zxf he ps _ (fun q hq=>hp q (List.mem_cons_of_mem _ hq)) (Nat.min_le_right _ _))
theorem Zm5 {n:Z2} (he:Tm n) {w:List Int} (hw:X2 n w) {p:Int} {ps:List Int} {r k:Nat} (hp:∀ q ∈ p :: ps,0≤q∧q<(n.2.1.length:Int)) (hr:r<k) (hk:k≤65536) (hb:Y9 n.2.2.1 (p :: ps) k≤65536):
  r * cnt n p.toNat+(w.getD p.toNat 0).toNat<k * cnt n p.toNat∧k * cnt n p.toNat≤65536∧Y9 n.2.2.1 ps (k * cnt n p.toNat)≤65536:=by
 have h1:=hp p List.mem_cons_self
 have h2:=hw.ok p.toNat (by rw [hw.len];omega)
 have h3:r * cnt n p.toNat+cnt n p.toNat≤k * cnt n p.toNat:=by
  have:=Nat.mul_le_mul_right (cnt n p.toNat) (show r+1≤k by omega)
  rwa [Nat.add_mul,Nat.one_mul] at this
 rw [Y9] at hb
 have h4:=Zxf he ps (min (k * (n.2.2.1.getD p.toNat []).length) 1099511627776) (fun q hq=>hp q (List.mem_cons_of_mem _ hq)) (Nat.min_le_right _ _)
 have h5:k * (n.2.2.1.getD p.toNat []).length≤1099511627776:=by
  rcases Nat.le_total (k * (n.2.2.1.getD p.toNat []).length) 1099511627776 with h | h
  ·exact h
  ·rw [Nat.min_eq_right h] at h4 hb;omega
 rw [Nat.min_eq_left h5] at h4 hb
 exact ⟨by omega,Nat.le_trans h4 hb,hb⟩
theorem Zp7 {n:Z2} (he:Tm n) {w:List Int} (hw:X2 n w):∀ (ps:List Int) (r k:Nat),(∀ q ∈ ps,0≤q∧q<(n.2.1.length:Int))→r<k→k≤65536→Y9 n.2.2.1 ps k≤65536→Tj n w ps r<Y9 n.2.2.1 ps k
 | [],r,k,_,hr,_,_=>hr
 | p :: ps,r,k,hp,hr,hk,hb=>by
  obtain ⟨h1,h2,h3⟩:=Zm5 he hw hp hr hk hb
  have:=Zp7 he hw ps _ _ (fun q hq=>hp q (List.mem_cons_of_mem _ hq)) h1 h2 h3
  rw [Tj,Y9,Nat.min_eq_left (by rw [cnt] at h2;omega)]
  exact this
theorem Zm4 {n:Z2} {w u:List Int}:∀ (ps:List Int) (r:Nat),(∀ p ∈ ps,w.getD p.toNat 0=u.getD p.toNat 0)→Tj n w ps r=Tj n u ps r
 | [],_,_=>rfl
 | p :: ps,r,h=>by rw [Tj,Tj,h p List.mem_cons_self];exact Zm4 ps _ fun q hq=>h q (List.mem_cons_of_mem _ hq)
section
variable {N:Nat} {n:Z2} (hf:Yq N n)
include hf
theorem Yq.pars {v:Nat} (hv:v<n.2.1.length):∀ p ∈ n.2.2.2.1.getD v [],0≤p∧p<(n.2.1.length:Int):=fun p hp=>by
 have h1:v<n.2.2.2.1.length:=by rw [hf.ev.p];exact hv
 rw [Yz h1] at hp
 have:=hf.ev.par (List.getElem_mem h1) p hp
 rwa [hf.ev.v] at this
theorem Yq.rows {v:Nat} (hv:v<n.2.1.length):Y9 n.2.2.1 (n.2.2.2.1.getD v []) 1 * cnt n v=(n.2.2.2.2.getD v []).length∧(n.2.2.2.2.getD v []).length≤65536∧Y9 n.2.2.1 (n.2.2.2.1.getD v []) 1≤65536:=by
 have h1:=Zp9 _ 0 hf.sh v (Nat.zero_le _) (by omega)
 have h2:=Zn8 hf.ev hv
 refine ⟨h1.1,h1.2,?_⟩
 have h3:Y9 n.2.2.1 (n.2.2.2.1.getD v []) 1≤Y9 n.2.2.1 (n.2.2.2.1.getD v []) 1 * cnt n v:=Nat.le_mul_of_pos_right _ h2
 have h4:Y9 n.2.2.1 (n.2.2.2.1.getD v []) 1 * cnt n v≤65536:=by
  have:=h1.1;rw [cnt,this];exact h1.2
 omega
theorem Yq.row {w:List Int} (hw:X2 n w) {v:Nat} (hv:v<n.2.1.length):Y8 n w v * cnt n v+cnt n v≤(n.2.2.2.2.getD v []).length∧Y8 n w v<65536:=by
 obtain ⟨h1,h2,h3⟩:=hf.rows hv
 have h4:=Zp7 hf.ev hw _ 0 1 (hf.pars hv) (by omega) (by omega) h3
 have h5:=Nat.mul_le_mul_right (cnt n v) (show Y8 n w v+1≤Y9 n.2.2.1 (n.2.2.2.1.getD v []) 1 from h4)
 rw [Nat.add_mul,Nat.one_mul,h1] at h5
 exact ⟨h5,Nat.lt_of_lt_of_le h4 h3⟩
theorem Yq.rowT_len {w:List Int} (hw:X2 n w) {v:Nat} (hv:v<n.2.1.length):(Z1 n w v).length=cnt n v:=by
 have:=(hf.row hw hv).1
 rw [Z1,nK,List.length_drop];omega
theorem Yq.ent {v:Nat} (hv:v<n.2.1.length):∀ x ∈ n.2.2.2.2.getD v [],0≤Zu x∧Zu x≤1:=fun x hx=>by
 have h1:v<n.2.2.2.2.length:=by rw [hf.ev.t];exact hv
 rw [Yz h1] at hx
 have h2:=hf.en
 rw [Za7,List.any_eq_false] at h2
 have h3:=h2 _ (List.getElem_mem h1)
 rw [Bool.not_eq_true,List.any_eq_false] at h3
 have h4:=h3 x hx
 simp only [V6,Bool.or_eq_true,decide_eq_true_eq,not_or] at h4
 exact ⟨Rat.not_lt.1 h4.1,Rat.not_lt.1 h4.2⟩
end
theorem Qx {n:Z2} {w:List Int} {v:Nat} {x:QV} (h:x ∈ Z1 n w v):x ∈ n.2.2.2.2.getD v []:=List.mem_of_mem_drop (List.mem_of_mem_take h)
theorem Zp6 {n:Z2} {w:List Int} {v j:Nat} (hj:j<(Z1 n w v).length):Zp (n.2.2.2.2.getD v []) ((Y8 n w v * cnt n v+j:Nat):Int)=some (Z1 n w v)[j]:=by
 have h1:Y8 n w v * cnt n v+j<(n.2.2.2.2.getD v []).length:=by
  rw [Z1,nK,List.length_drop] at hj;omega
 rw [Xk h1]
 simp only [Z1,List.getElem_take,List.getElem_drop]
def Up (P:List R2) (l:List Int):Prop:=∀ (a:List Int) (v:Int) (b:List Int),l=a++v :: b→∀ p ∈ P.getD v.toNat [],p ∈ a
theorem Up.step {P:List R2} {l:List Int} {j:Nat} (h:Up P l) (hn:Vo P l 0=some j):Up P (l++[(j:Int)]):=by
 obtain ⟨_,h2,h3,_⟩:=Zpa hn
 obtain ⟨h4,h5⟩:=(Zw0 h2).1 h3
 intro a v b e p hp
 rcases List.eq_nil_or_concat b with rfl | ⟨b',c,rfl⟩
 ·obtain ⟨e1,e2⟩:=List.append_inj' e rfl
  rw [List.cons.injEq] at e2
  obtain ⟨rfl,-⟩:=e2
  subst e1
  rw [Int.toNat_natCast,Yz h2] at hp
  exact h5 p hp
 ·rw [List.concat_eq_append,← List.cons_append,← List.append_assoc] at e
  exact h a v b' (List.append_inj' e rfl).1 p hp
theorem Zvr {N:Nat} {P:List R2} (hP:P.length<1048576) (hls:∀ x ∈ P,x.length≤1048576) (hN:1048576<N):∀ (n:Nat) (l r:List Int),U1 P l→Up P l→Zbu N P n l=some r→Up P r
 | 0,l,r,_,_,h=>by rw [Zbu.eq_1] at h;cases h
 | n+1,l,r,h0,hk,h=>by
  have hl:=h0.len
  rw [Zpg (by omega) hls (by omega) hN] at h
  cases hnx:Vo P l 0 with
  | none=>rw [hnx] at h;cases h;exact hk
  | some j=>
   rw [hnx] at h
   exact Zvr hP hls hN n (l++[(j:Int)]) r (h0.step hnx).1 (hk.step hnx) h
structure V0 (P:List R2) (l:List Int):Prop where
 rg:∀ x ∈ l,0≤x∧x<(P.length:Int)
 nd:l.Nodup
 up:Up P l
theorem Z34 {N:Nat} {P:List R2} {l:List Int} (hP:P.length<1048576) (hls:∀ x ∈ P,x.length≤1048576) (hN:1048576<N) (h:Qv N P=some l) (ho:U1 P l):V0 P l:=
 ⟨ho.2.1,ho.1,Zvr hP hls hN N [] l ⟨.nil,by simp,by simp⟩ (fun a v b e=>by cases a <;> simp at e) (by rwa [Qv] at h)⟩
def Xe (n:Z2) (w:List Int):List Int→Rat×Rat→Rat×Rat
 | [],s=>s
 | v :: l,s=>Xe n w l ((Xs (s.2 - s.1) (Z1 n w v.toNat) s.1).getD (w.getD v.toNat 0).toNat (0,0))
structure U9 (D M:Nat) (s:Rat×Rat):Prop where
 d:D≠0
 m:1≤M
 a:Bd D M s.1
 b:Bd D M s.2
theorem U9.zero:U9 1 1 (0,1):=⟨by decide,by decide,.zero 1 1,.one⟩
theorem Zos (M D:Nat):(Zd (M * D)).length≤(Zd M).length+(Zd D).length:=Sa M D
section
variable {N W:Nat} {n:Z2} (hf:Yq N n) (hs:Wk n W)
include hf hs
theorem Zfj {v:Nat} (hv:v<n.2.1.length):∀ x ∈ n.2.2.2.2.getD v [],Vr x∧max x.1.2.length x.2.length≤W:=fun x hx=>by
 have h1:v<n.2.2.2.2.length:=by rw [hf.ev.t];exact hv
 rw [Yz h1] at hx
 have h2:=hs.tq _ (List.getElem_mem h1)
 exact ⟨hs.lim _ (List.getElem_mem h1) x hx,Nat.le_trans (Z4e hx) h2⟩
theorem Z5d {v:Nat} (hv:v<n.2.1.length) (w:List Int):Yb (Z1 n w v)≤W:=by
 have h1:v<n.2.2.2.2.length:=by rw [hf.ev.t];exact hv
 have h2:=hs.tq _ (List.getElem_mem h1)
 rw [Z1,Yz h1]
 exact Nat.le_trans (Zwd _ _) (Nat.le_trans (Zwb _ _) h2)
theorem Zot {w:List Int} (hw:X2 n w) {v:Nat} (hv:v<n.2.1.length) {D M:Nat} {s:Rat×Rat} (h:U9 D M s):∃ D' M',(Zd M').length+(Zd D').length≤(Zd M).length+(Zd D).length+(W+2)∧
  (∀ p ∈ Xs (s.2 - s.1) (Z1 n w v) s.1,U9 D' M' p)∧qs (s.2 - s.1)≤(Zd M).length+(Zd D).length+1:=by
 have hl:Bd D (M+M) (s.2 - s.1):=h.b.sub h.a h.d
 have hE:=Zk1 (Z1 n w v)
 have hlim:∀ x ∈ Z1 n w v,Vr x:=fun x hx=>(Zfj hf hs hv x (Qx hx)).1
 have hEl:=Zs0 (Z1 n w v) hlim
 have hq:=Z5d hf hs hv w
 have hc:(Z1 n w v).length≤65536:=by
  have h1:=(hf.rows hv).2.1
  have h2:=(hf.row hw hv).1
  rw [hf.rowT_len hw hv];omega
 have hP:=Zvy (M:=M) h.d hl (Z1 n w v) 1 s.1 M (by decide) (fun x hx=>hf.ent hv x (Qx hx)) (by rw [Nat.mul_one];exact h.a)
 rw [Nat.one_mul] at hP
 have hM:M+(M+M) * (Z1 n w v).length≤M * 262144:=by
  have h1:(M+M) * (Z1 n w v).length≤(M+M) * 65536:=Nat.mul_le_mul_left _ hc
  omega
 refine ⟨D * To (Z1 n w v),M * 262144,?_,fun p hp=>?_,?_⟩
 ·have h1:=Sa D (To (Z1 n w v))
  have h2:=Sa M 262144
  have h3:(Zd 262144).length≤1:=W0.2 (by decide)
  omega
 ·obtain ⟨h1,h2⟩:=hP p hp
  have:=h.m
  exact ⟨Nat.mul_ne_zero h.d hE,by omega,h1.up hM,h2.up hM⟩
 ·have h1:=hl.qs h.d (by have:=h.m;omega)
  have h2:=Zos (M+M) D
  have h3:(Zd (M+M)).length≤(Zd M).length+1:=Zik (Nat.le_refl _) (Nat.le_refl _)
  omega
end
theorem U9.qa {D M:Nat} {s:Rat×Rat} (h:U9 D M s):qs s.1≤(Zd M).length+(Zd D).length:=Nat.le_trans (h.a.qs h.d h.m) (Zos M D)
theorem U9.qb {D M:Nat} {s:Rat×Rat} (h:U9 D M s):qs s.2≤(Zd M).length+(Zd D).length:=Nat.le_trans (h.b.qs h.d h.m) (Zos M D)
theorem X2.set {n:Z2} {w:List Int} (h:X2 n w) {v:Nat} {k:Int} (hk:0≤k∧k<(cnt n v:Int)):X2 n (w.set v k):=by
 refine ⟨by rw [nS];exact h.len,fun i hi=>?_⟩
 rw [nS] at hi
 by_cases hv:v<w.length
 ·rw [Uu w 0 v i k hv]
  split
  ·rename_i e;rw [e];exact hk
  ·exact h.ok i hi
 ·rw [List.set_eq_of_length_le (by omega)];exact h.ok i hi
theorem Zuw {l:List (Rat×Rat)} {j:Nat} (hj:j<l.length):Zp (l.map Y0) (j:Int)=some (Y0 (l.getD j (0,0))):=by
 rw [Xk (by rw [List.length_map];exact hj),List.getElem_map,Yz hj]
theorem Zdf {l:List (Rat×Rat)} {j:Nat} (hj:j<l.length):l.getD j (0,0) ∈ l:=by rw [Yz hj];exact List.getElem_mem hj
def Zch:Option R1:=
  some ((false,[1]),[1])
theorem Zkt {col:Ze} {w0:World} {r:R1} (c1 c2:Nat) (hm:Zch=some r):
    Calls prog 69 #[] w0 (fun e w'=>∃ (col':Ze) (ra1:Option Addr) (rc2:Nat) (ra4:Option Addr) (rc5:Nat),e= .returned ((.agg #[.bool r.1.1,.slice ra1 r.1.2.length rc2,.slice ra4 r.2.length rc5]))∧Zf col w0 col' w'∧Zc (Za.int .u32) 95 c1 col' w' ra1 rc2 r.1.2∧Zc (Za.int .u32) 95 c2 col' w' ra4 rc5 r.2):=by
 refine Y2 (m:=5) func69 rfl rfl rfl ?_;rw [Zch.eq_1] at hm;have aa:=St.start col w0;refine go ?_;refine Xj (col:=(Zk col)) #[.bool false,.slice none (([]:List Int).length) 0,.slice none (([]:List Int).length) 0] 1 zeroValue39 ?_;intro ao ap ai aj ab;refine go ?_;refine W8 (col:=ai) [1] 2 ?_;intro ag aq ak ah ac;refine lV (.agg #[.bool false,.slice ag ([1].length) 1]) (Yo (l:=[_,_]) (qs:=[(0,1),(1,1)]) underlying37 zeroValue37 ⟨rfl,sizeOf4,rfl,sizeOf35,trivial⟩ rfl)<|W8 (col:=ak) [1] 3 ?_;intro al ar au ad ae;refine lV (.agg #[.bool false,.slice ag ([1].length) 1,.slice al ([1].length) 1]) (Yo (l:=[_,_]) (qs:=[(0,2),(2,1)]) underlying39 zeroValue39 ⟨rfl,sizeOf37,rfl,sizeOf35,trivial⟩ rfl) ?_;replace ab:=(ab.gr ah).gr ad;refine Zw ab ?_;intro av af am an;refine go ?_;cases hm;replace aa:=(((aa.grow aj).grow ah).grow ad).kp af am;replace ac:=(ac.gr ad).kp af;replace ae:=ae.kp af;exact ⟨rfl,_,ra an.atN,_,_,1,_,1,rfl,aa.fin (cm [(2,c1),(3,c2)]),aa.fo ac,aa.fo ae⟩
abbrev T3:=Option (List Int×(QV×QV)×Bool)
theorem Zk5:Zch=some (Zn 1):=by
 rw [Zch,show Zn 1=((false,[1]),[1]) by rw [Zn,Xa];simp [Uj]]
theorem X2.zero {n:Z2} (he:Tm n):X2 n (List.replicate n.2.1.length 0):=by
 refine ⟨List.length_replicate,fun i hi=>?_⟩
 rw [List.length_replicate] at hi
 have:=Zn8 he hi
 rw [List.getD_eq_getElem?_getD,List.getElem?_replicate,if_pos hi]
 simp;exact this
theorem Zol {N:Nat} (hr:Xi N 16):Zbe N ([]:List QV)=some (Zn 0):=by
 have:=(Ztu (N:=N) (l:=[]) (by simp) hr).1
 rwa [Wo,List.map_nil,List.sum_nil] at this
abbrev noS:QV×QV:=(((false,([]:List Int)),([]:List Int)),((false,([]:List Int)),([]:List Int)))
def Vj (n:Z2) (ch:List (Rat×Rat)→Int):List Int→List Int→Rat×Rat→Option (List Int×(Rat×Rat))
 | [],w,s=>some (w,s)
 | v :: l,w,s=>if ch (Xs (s.2 - s.1) (Z1 n w v.toNat) s.1)<0 then none else
   Vj n ch l (w.set v.toNat (ch (Xs (s.2 - s.1) (Z1 n w v.toNat) s.1))) ((Xs (s.2 - s.1) (Z1 n w v.toNat) s.1).getD (ch (Xs (s.2 - s.1) (Z1 n w v.toNat) s.1)).toNat (0,0))
def Zie:Option (List Int×(Rat×Rat))→T3
 | none=>some ([],noS,false)
 | some (w,s)=>some (w,Y0 s,true)
def Zqp (ch:List (Rat×Rat)→Int):Prop:=∀ P,ch P<(P.length:Int)
/-! the program's loops,the chooser left open -/
def Zfk (N:Nat) (n:Z2) (ch:Int→List (QV×QV)→Option Int) (w:List Int) (kk:QV→QV→List Int→T3) (x row:Int) (d:QV) (e:List ByteArray):Nat→QV→List (QV×QV)→Int→T3
 | 0,_,_,_=>none
 | f+1,a,ps,k=>if decide (k<(e.length:Int))=true then (Zp n.2.2.2.2 x).bind fun t=>(Zp n.2.2.1 x).bind fun e2=>(Zp t (i64.wrap (i64.wrap (row * (e2.length:Int))+k))).bind fun y=>(Uv N d y).bind fun z=>(V4 N a z).bind fun b=>
   Z3 ((ps.length+[(a,b)].length) * 112≤140737488355328∧ps.length+[(a,b)].length≤maxLen) (Zfk N n ch w kk x row d e f b (ps++[(a,b)]) (i64.wrap (k+1)))
  else (ch x ps).bind fun r=>if decide (r<0)=true then some ([],noS,false) else (Zp ps r).bind fun p=>(Zp w x).bind fun _=>(some (w.set (Int.toNat x) r)).bind fun xs=>kk p.1 p.2 xs
def Za8 (N:Nat) (n:Z2) (ch:Int→List (QV×QV)→Option Int) (s:QV×QV) (w:List Int) (kk:QV→QV→List Int→T3) (x:Int):List Int→Int→T3
 | [],row=>(Qq N s.2 s.1).bind fun d=>(Zp n.2.2.1 x).bind fun e=>Zfk N n ch w kk x row d e N s.1 [] 0
 | p :: l,row=>(Zp n.2.2.1 p).bind fun e=>(Zp w p).bind fun y=>Za8 N n ch s w kk x l (i64.wrap (i64.wrap (row * (e.length:Int))+y))
def Zb9 (N:Nat) (n:Z2) (ch:Int→List (QV×QV)→Option Int):List Int→QV→QV→List Int→T3
 | [],a,b,w=>some (w,(a,b),true)
 | x :: l,a,b,w=>(Zp n.2.2.2.1 x).bind fun ps=>Za8 N n ch (a,b) w (Zb9 N n ch l) x ps 0
section
variable {N K:Nat} {n:Z2} (hf:Yq N n) (hr:Xi N (8 * K+40))
include hf hr
theorem Zty (ch:Int→List (QV×QV)→Option Int) (w:List Int) (hw:X2 n w) (kk:QV→QV→List Int→T3) {v:Nat} (hv:v<n.2.1.length) (hl:∀ x ∈ Z1 n w v,Vr x∧max x.1.2.length x.2.length≤K) {long:Rat} (hlong:qs long≤K) (F:List (QV×QV)→T3)
  (hF:∀ P:List (QV×QV),((ch (v:Int) P).bind fun r=>if decide (r<0)=true then some ([],noS,false) else (Zp P r).bind fun p=>(Zp w (v:Int)).bind fun _=>(some (w.set (Int.toNat (v:Int)) r)).bind fun xs=>kk p.1 p.2 xs)=F P):
  ∀ (l:List QV) (f j:Nat) (a:Rat) (parts:List (QV×QV)),(Z1 n w v).drop j=l→j≤cnt n v→cnt n v<f+j→qs a≤K→(∀ p ∈ Xs long l a,qs p.1≤K∧qs p.2≤K)→parts.length=j→
   Zfk N n ch w kk (v:Int) (Y8 n w v:Int) (Zn long) (n.2.2.1.getD v []) f (Zn a) parts (j:Int)=F (parts++(Xs long l a).map Y0)
 | l,0,j,a,parts,_,h1,h2,_,_,_=>by omega
 | l,f+1,j,a,parts,hd,h1,h2,ha,hp,hpl=>by
  have hlen:=hf.rowT_len hw hv
  have hrow:=hf.row hw hv
  have hrows:=hf.rows hv
  rw [Zfk]
  cases l with
  | nil=>
   have h3:=List.drop_eq_nil_iff.1 hd
   rw [if_neg (dF (by rw [cnt] at h1 hlen;omega)),hF,Xs,List.map_nil,List.append_nil]
  | cons y l=>
   have hj:j<(Z1 n w v).length:=by
    rcases Nat.lt_or_ge j (Z1 n w v).length with h | h
    ·exact h
    ·rw [List.drop_eq_nil_of_le h] at hd;cases hd
   have hy:(Z1 n w v)[j]=y∧(Z1 n w v).drop (j+1)=l:=by
    rw [List.drop_eq_getElem_cons hj] at hd
    exact List.cons.inj hd
   have hyK:=hl y (hy.1 ▸ List.getElem_mem hj)
   have hjc:j<cnt n v:=by omega
   have hq:=hp _ List.mem_cons_self
   have e0:(0:Int)≤((Y8 n w v * cnt n v:Nat):Int):=Int.natCast_nonneg _
   have e1:i64.wrap ((Y8 n w v:Int) * ((n.2.2.1.getD v []).length:Int))=((Y8 n w v * cnt n v:Nat):Int):=by
    rw [show ((n.2.2.1.getD v []).length:Int)=((cnt n v:Nat):Int) from rfl,← Int.natCast_mul]
    exact Zz (by omega)
   have e2:i64.wrap (((Y8 n w v * cnt n v:Nat):Int)+(j:Int))=((Y8 n w v * cnt n v+j:Nat):Int):=by
    rw [← Int.natCast_add]
    exact Zz (by omega)
   have r1:=Zdk hyK.1.1 hyK.1.2
   have m1:Uv N (Zn long) y=some (Zn (long * Zu y)):=by
    have:=Zih (Y4 hlong) (r1.mono hyK.2) (hr.mono (by omega))
    rwa [Y3] at this
   have s1:qs (long * Zu y)≤K+(K+1):=by
    have h4:=Zdi long (Zu y)
    have h5:=Zmt hyK.1
    omega
   have a1:V4 N (Zn a) (Zn (long * Zu y))=some (Zn (a+long * Zu y)):=by
    have:=Zb7 (Y4 ha) (Y4 s1) (hr.mono (by omega))
    rwa [Y3,Y3] at this
   rw [if_pos (dT (by rw [cnt] at hjc;omega)),Wx [] (by rw [hf.ev.t];exact hv),oB,Wx [] (by rw [hf.ev.v];exact hv),oB,e1,e2,Zp6 hj,hy.1,oB,m1,oB,a1,oB,
    Xg (by simp only [List.length_singleton,maxLen];omega),Zz (x:=(j:Int)+1) (by omega)]
   have ih:=Zty ch w hw kk hv hl hlong F hF l f (j+1) (a+long * Zu y) (parts++[Y0 (a,a+long * Zu y)]) hy.2 (by omega) (by omega) hq.2 (fun p h=>hp p (List.mem_cons_of_mem _ h)) (by rw [nA,List.length_singleton];omega)
   rw [List.append_assoc] at ih
   exact ih
omit hr in
theorem Ztx (ch:Int→List (QV×QV)→Option Int) (s:QV×QV) (w:List Int) (hw:X2 n w) (kk:QV→QV→List Int→T3) (x:Int):∀ (ps:List Int) (r k:Nat),(∀ q ∈ ps,0≤q∧q<(n.2.1.length:Int))→r<k→k≤65536→Y9 n.2.2.1 ps k≤65536→
  Za8 N n ch s w kk x ps (r:Int)=Za8 N n ch s w kk x [] (Tj n w ps r:Int)
 | [],r,k,_,_,_,_=>rfl
 | p :: ps,r,k,hp,h1,h2,h3=>by
  obtain ⟨g1,g2,g3⟩:=Zm5 hf.ev hw hp h1 h2 h3
  have hpp:=hp p List.mem_cons_self
  have hwp:=hw.ok p.toNat (by rw [hw.len];omega)
  have g4:r * cnt n p.toNat≤k * cnt n p.toNat:=Nat.mul_le_mul_right _ (by omega)
  have q1:Zp n.2.2.1 p=some (n.2.2.1.getD p.toNat []):=by
   have:=Wx (l:=n.2.2.1) [] (j:=p.toNat) (by rw [hf.ev.v];omega)
   rwa [show ((p.toNat:Nat):Int)=p by omega] at this
  have q2:Zp w p=some (w.getD p.toNat 0):=by
   have:=Wx (l:=w) 0 (j:=p.toNat) (by rw [hw.len];omega)
   rwa [show ((p.toNat:Nat):Int)=p by omega] at this
  have e1:i64.wrap ((r:Int) * ((n.2.2.1.getD p.toNat []).length:Int))=((r * cnt n p.toNat:Nat):Int):=by
   rw [show ((n.2.2.1.getD p.toNat []).length:Int)=((cnt n p.toNat:Nat):Int) from rfl,← Int.natCast_mul]
   exact Zz (by omega)
  have e2:i64.wrap (((r * cnt n p.toNat:Nat):Int)+w.getD p.toNat 0)=((r * cnt n p.toNat+(w.getD p.toNat 0).toNat:Nat):Int):=by
   rw [Int.natCast_add,show (((w.getD p.toNat 0).toNat:Nat):Int)=w.getD p.toNat 0 by omega]
   exact Zz (by omega)
  rw [Za8.eq_2,q1,oB,q2,oB,e1,e2]
  exact Ztx ch s w hw kk x ps _ _ (fun q hq=>hp q (List.mem_cons_of_mem _ hq)) g1 g2 g3
end
section
variable {N W K:Nat} {n:Z2} (hf:Yq N n) (hs:Wk n W) (hr:Xi N (8 * K+40)) (hWK:W≤K) {ord:List Int} (ho:V0 n.2.2.2.1 ord) {cF:List (Rat×Rat)→Int} (hF:Zqp cF)
include hf hs hr hWK ho hF
theorem Ztw {ch:Int→List (QV×QV)→Option Int} (hN:65536<N) (hch:∀ (v:Nat) (P:List (Rat×Rat)),(∀ p ∈ P,qs p.1≤K∧qs p.2≤K)→P.length≤65536→ch (v:Int) (P.map Y0)=some (cF P)):
  ∀ (l:List Int) (w:List Int) (s:Rat×Rat) (D M:Nat),(∀ x ∈ l,x ∈ ord)→X2 n w→U9 D M s→(Zd M).length+(Zd D).length+l.length * (W+2)+2≤K→
  Zb9 N n ch l (Zn s.1) (Zn s.2) w=Zie (Vj n cF l w s)
 | [],w,s,D,M,_,_,_,_=>rfl
 | v :: l,w,s,D,M,he,hw,hL,hK=>by
  have hvr:=ho.rg v (he v List.mem_cons_self)
  rw [hf.ev.p] at hvr
  obtain ⟨k,rfl⟩:∃ k:Nat,v=(k:Int):=⟨v.toNat,by omega⟩
  have hv:k<n.2.1.length:=by omega
  obtain ⟨D',M',c1,c2,c3⟩:=Zot hf hs hw hv hL
  have hKs:(l.length+1) * (W+2)=l.length * (W+2)+(W+2):=by rw [Nat.add_mul,Nat.one_mul]
  rw [nC,hKs] at hK
  have hrows:=hf.rows hv
  have hcl:cnt n k≤65536:=by have:=(hf.row hw hv).1;omega
  have hsub:Qq N (Zn s.2) (Zn s.1)=some (Zn (s.2 - s.1)):=by
   have:=Zok (Y4 hL.qb) (Y4 hL.qa) (hr.mono (s:=2 * ((Zd M).length+(Zd D).length+((Zd M).length+(Zd D).length)+3)) (by omega))
   rwa [Y3,Y3] at this
  rw [Zb9,Wx [] (by rw [hf.ev.p];exact hv),oB]
  have h2:=Ztx (N:=N) hf ch (Zn s.1,Zn s.2) w hw (Zb9 N n ch l) (k:Int) (n.2.2.2.1.getD k []) 0 1 (hf.pars hv) (by omega) (by omega) hrows.2.2
  rw [show ((0:Nat):Int)=0 from rfl] at h2
  rw [h2,Za8,hsub,oB,Wx [] (by rw [hf.ev.v];exact hv),oB]
  have h3:=Zty hf hr ch w hw (Zb9 N n ch l) hv (fun x hx=>by have:=Zfj hf hs hv x (Qx hx);exact ⟨this.1,by omega⟩) (long:=s.2 - s.1) (by omega) _ (fun _=>rfl) (Z1 n w k) N 0 s.1 [] rfl (Nat.zero_le _) (by omega) (by have:=hL.qa;omega) (fun p hp=>⟨by have:=(c2 p hp).qa;omega,by have:=(c2 p hp).qb;omega⟩) rfl
  rw [show ((0:Nat):Int)=0 from rfl] at h3
  have h3':=h3
  rw [Y8] at h3'
  rw [h3',List.nil_append]
  have hlen:(Xs (s.2 - s.1) (Z1 n w k) s.1).length=cnt n k:=by rw [Tu,hf.rowT_len hw hv]
  have hfit:=hF (Xs (s.2 - s.1) (Z1 n w k) s.1)
  rw [hch k _ (fun p hp=>⟨by have:=(c2 p hp).qa;omega,by have:=(c2 p hp).qb;omega⟩) (by omega),oB,Vj,Int.toNat_natCast]
  by_cases hneg:cF (Xs (s.2 - s.1) (Z1 n w k) s.1)<0
  ·rw [if_pos (dT hneg),if_pos hneg];rfl
  ·obtain ⟨q,hq⟩:∃ q:Nat,cF (Xs (s.2 - s.1) (Z1 n w k) s.1)=(q:Int):=⟨(cF (Xs (s.2 - s.1) (Z1 n w k) s.1)).toNat,by omega⟩
   rw [hq] at hfit
   have hql:q<(Xs (s.2 - s.1) (Z1 n w k) s.1).length:=by omega
   rw [hq,if_neg (dF (by omega)),if_neg (by omega),Zuw hql,oB,Wx 0 (by rw [hw.len];exact hv),oB,oB,Int.toNat_natCast]
   exact Ztw hN hch l (w.set k q) _ D' M' (fun x hx=>he x (List.mem_cons_of_mem _ hx)) (hw.set (by omega)) (c2 _ (Zdf hql)) (by omega)
end
theorem Zmp {a b:Rat}:Vt a b≤0↔a≤b:=by
 rw [Vt,← Rat.not_lt]
 by_cases h:a<b
 ·rw [if_pos h];exact ⟨fun _ g=>absurd (Rat.le_of_lt h) (Rat.not_le.2 g),fun _=>by decide⟩
 ·rw [if_neg h]
  by_cases g:b<a
  ·rw [if_pos g];exact ⟨fun e=>absurd e (by decide),fun e=>absurd g e⟩
  ·rw [if_neg g];exact ⟨fun _=>g,fun _=>by decide⟩
theorem Zmq {a b:Rat}:Vt a b<0↔a<b:=by
 rw [Vt]
 by_cases h:a<b
 ·rw [if_pos h];exact ⟨fun _=>h,fun _=>by decide⟩
 ·rw [if_neg h]
  by_cases g:b<a
  ·rw [if_pos g];exact ⟨fun e=>absurd e (by decide),fun e=>absurd e h⟩
  ·rw [if_neg g];exact ⟨fun e=>absurd e (by decide),fun e=>absurd e h⟩
def T8 (c:Rat×Rat→Bool):List (Rat×Rat)→Nat→Int
 | [],_=> -1
 | p :: l,k=>if c p=true then (k:Int) else T8 c l (k+1)
def W9 (c:Rat×Rat→Bool):List (Rat×Rat)→Nat→Int→Int
 | [],_,f=>f
 | p :: l,k,f=>W9 c l (k+1) (if c p=true then (k:Int) else f)
theorem Ztc (c:Rat×Rat→Bool):∀ (l:List (Rat×Rat)) (k:Nat),T8 c l k<((k+l.length:Nat):Int)
 | [],k=>by rw [T8];omega
 | p :: l,k=>by
  have:=Ztc c l (k+1)
  rw [T8,nC]
  split
  ·omega
  ·omega
theorem Z12 (c:Rat×Rat→Bool):Zqp fun P=>T8 c P 0:=fun P=>by have:=Ztc c P 0;rwa [Nat.zero_add] at this
theorem Zla {c:Rat×Rat→Bool}:∀ (l:List (Rat×Rat)) (k:Nat) (f:Int),(∀ p ∈ l,c p=false)→W9 c l k f=f
 | [],k,f,_=>rfl
 | p :: l,k,f,h=>by rw [W9,h p List.mem_cons_self,if_neg (by decide)];exact Zla l _ _ fun q hq=>h q (List.mem_cons_of_mem _ hq)
theorem Zte {c:Rat×Rat→Bool}:∀ (l:List (Rat×Rat)) (k:Nat),(∀ p ∈ l,c p=false)→T8 c l k= -1
 | [],k,_=>rfl
 | p :: l,k,h=>by rw [T8,h p List.mem_cons_self,if_neg (by decide)];exact Zte l _ fun q hq=>h q (List.mem_cons_of_mem _ hq)
theorem Z2i {long a:Rat} {x:QV} (hl:0≤long) (hx:0≤Zu x):a≤a+long * Zu x:=by
 have h1:=Rat.add_le_add_left (c:=a) |>.2 (Rat.mul_nonneg hl hx)
 rwa [Rat.add_zero] at h1
theorem Zj4 {long:Rat} (hl:0≤long):∀ (t:List QV) (a:Rat),(∀ x ∈ t,0≤Zu x)→∀ p ∈ Xs long t a,a≤p.1∧p.1≤p.2
 | [],a,_,p,hp=>by rw [Xs] at hp;cases hp
 | x :: t,a,ht,p,hp=>by
  have h1:=Z2i (a:=a) hl (ht x List.mem_cons_self)
  rw [Xs] at hp
  rcases List.mem_cons.1 hp with rfl | hp
  ·exact ⟨Rat.le_refl,h1⟩
  ·obtain ⟨h2,h3⟩:=Zj4 hl t _ (fun y hy=>ht y (List.mem_cons_of_mem _ hy)) p hp
   exact ⟨Rat.le_trans h1 h2,h3⟩
def Vl (x:Rat×Rat) (p:Rat×Rat):Bool:=decide (p.1≤x.1)&&decide (x.1<p.2)&&decide (x.2≤p.2)
theorem Sx {x p:Rat×Rat}:Vl x p=true↔p.1≤x.1∧x.1<p.2∧x.2≤p.2:=by simp [Vl,and_assoc]
structure Znd (x:Rat×Rat) (c:Rat×Rat→Bool):Prop where
 same:∀ p,p.1≤x.1→c p=Vl x p
 far:∀ p,x.1<p.2→c p=false→∀ q,x.1<q.1→c q=false
theorem Ztd {x:Rat×Rat} {c:Rat×Rat→Bool} (h:Znd x c) {long:Rat} (hl:0≤long):∀ (t:List QV) (a:Rat) (k:Nat),(∀ y ∈ t,0≤Zu y)→a≤x.1→T8 c (Xs long t a) k=W9 (Vl x) (Xs long t a) k (-1)
 | [],a,k,_,_=>rfl
 | y :: t,a,k,ht,ha=>by
  have ht':∀ z ∈ t,0≤Zu z:=fun z hz=>ht z (List.mem_cons_of_mem _ hz)
  have hge:=Zj4 hl t (a+long * Zu y) ht'
  rw [Xs,T8,W9]
  have hs:=h.same (a,a+long * Zu y) ha
  by_cases hc:c (a,a+long * Zu y)=true
  ·rw [if_pos hc,if_pos (hs ▸ hc),Zla]
   intro p hp
   have h1:=(Sx.1 (hs ▸ hc)).2.1
   rw [Bool.eq_false_iff]
   intro g
   exact absurd (Sx.1 g).1 (Rat.not_le.2 (Std.lt_of_lt_of_le h1 (hge p hp).1))
  ·rw [if_neg hc,if_neg (hs ▸ hc)]
   by_cases hx:a+long * Zu y≤x.1
   ·exact Ztd h hl t _ (k+1) ht' hx
   ·have hx:=Rat.not_le.1 hx
    rw [Zte,Zla]
    ·intro p hp
     rw [Bool.eq_false_iff]
     intro g
     exact absurd (Sx.1 g).1 (Rat.not_le.2 (Std.lt_of_lt_of_le hx (hge p hp).1))
    ·intro p hp
     exact h.far _ hx (by simpa using hc) p (Std.lt_of_lt_of_le hx (hge p hp).1)
theorem Zoq {c:Rat×Rat→Bool}:∀ (l:List (Rat×Rat)) (k:Nat) (f:Int),W9 c l k f=f∨∃ j,∃ h:j<l.length,W9 c l k f=((k+j:Nat):Int)∧c l[j]=true
 | [],k,f=>.inl rfl
 | p :: l,k,f=>by
  rw [W9]
  rcases Zoq (c:=c) l (k+1) (if c p=true then (k:Int) else f) with h | ⟨j,hj,h1,h2⟩
  ·rw [h]
   by_cases hc:c p=true
   ·rw [if_pos hc];exact .inr ⟨0,by simp,by omega,hc⟩
   ·rw [if_neg hc];exact .inl rfl
  ·exact .inr ⟨j+1,by simpa using hj,by rw [h1];omega,h2⟩
section
variable {N W K:Nat} {n:Z2} (hf:Yq N n) {ord:List Int} (ho:V0 n.2.2.2.1 ord)
include hf ho
theorem Zso {x:Rat×Rat} {c:Rat×Rat→Bool} (h:Znd x c):∀ (l w:List Int) (s:Rat×Rat),(∀ y ∈ l,y ∈ ord)→s.1≤x.1→s.1≤s.2→
  Vj n (fun P=>T8 c P 0) l w s=Vj n (fun P=>W9 (Vl x) P 0 (-1)) l w s
 | [],w,s,_,_,_=>rfl
 | v :: l,w,s,he,h1,h2=>by
  have hvr:=ho.rg v (he v List.mem_cons_self)
  rw [hf.ev.p] at hvr
  have hent:∀ y ∈ Z1 n w v.toNat,0≤Zu y:=fun y hy=>(hf.ent (v:=v.toNat) (by omega) y (Qx hy)).1
  have hlong:0≤s.2 - s.1:=by rw [Rat.le_iff_sub_nonneg] at h2;exact h2
  have hfl:=Ztd h hlong (Z1 n w v.toNat) s.1 0 hent h1
  rw [Vj,Vj,hfl]
  split
  ·rfl
  ·rename_i hneg
   rcases Zoq (c:=Vl x) (Xs (s.2 - s.1) (Z1 n w v.toNat) s.1) 0 (-1) with e | ⟨j,hj,e1,e2⟩
   ·rw [e] at hneg;exact absurd (by decide) hneg
   ·have hm:(Xs (s.2 - s.1) (Z1 n w v.toNat) s.1)[j] ∈ Xs (s.2 - s.1) (Z1 n w v.toNat) s.1:=List.getElem_mem hj
    rw [e1,Nat.zero_add,Int.toNat_natCast,Yz hj]
    exact Zso h l _ _ (fun y hy=>he y (List.mem_cons_of_mem _ hy)) (Sx.1 e2).1 (Zj4 hlong _ _ hent _ hm).2
end
/-! the document's loops -/
/-! a row's entries are 1 together -/
theorem Zvm {c:Nat}:∀ (m:Nat) (l:List QV),Uy c m l=true→∀ r,r<m→Wo ((l.drop (r * c)).take c)=1
 | 0,l,_,r,h=>by omega
 | m+1,l,h,r,hr=>by
  rw [Uy,Bool.and_eq_true,decide_eq_true_iff] at h
  cases r with
  | zero=>rw [Nat.zero_mul,List.drop_zero];exact h.1
  | succ r=>
   have:=Zvm m (l.drop c) h.2 r (by omega)
   rw [List.drop_drop] at this
   rw [Nat.add_mul,Nat.one_mul,Nat.add_comm]
   exact this
theorem Zxy {vals:List R4} {P:List R2} {T:List (List QV)}:∀ (m v:Nat),Za0 vals P T m v=0→∀ i,v≤i→i<v+m→Uy (vals.getD i []).length (Y9 vals (P.getD i []) 1) (T.getD i [])=true
 | 0,v,_,i,h1,h2=>by omega
 | m+1,v,h,i,h1,h2=>by
  rw [Za0] at h
  split at h
  ·rename_i h3
   rcases Nat.lt_or_ge v i with h5 | h5
   ·exact Zxy m (v+1) h i (by omega) (by omega)
   ·have:i=v:=by omega
    subst this
    exact h3
  ·cases h
section
variable {N:Nat} {n:Z2} (hf:Yq N n)
include hf
theorem Z5t {w:List Int} (hw:X2 n w) {v:Nat} (hv:v<n.2.1.length):Wo (Z1 n w v)=1:=by
 have h1:=Zxy _ 0 hf.su v (Nat.zero_le _) (by omega)
 have h2:=Zp7 hf.ev hw (n.2.2.2.1.getD v []) 0 1 (hf.pars hv) (by omega) (by omega) (hf.rows hv).2.2
 exact Zvm _ _ h1 _ h2
end
/-! parts side by side -/
theorem Zv0 (long:Rat):∀ (t:List QV) (a:Rat) (j:Nat) (hj:j<t.length),((Xs long t a).getD j (0,0)).2=((Xs long t a).getD j (0,0)).1+long * Zu t[j]
 | [],a,j,hj=>by simp at hj
 | x :: t,a,0,hj=>by rw [Xs,List.getD_cons_zero];rfl
 | x :: t,a,j+1,hj=>by
  rw [Xs,List.getD_cons_succ]
  exact Zv0 long t _ j (by simpa using hj)
theorem Zvz {long:Rat} (hl:0≤long):∀ (t:List QV) (a:Rat),(∀ x ∈ t,0≤Zu x)→∀ p ∈ Xs long t a,p.2≤a+long * Wo t
 | [],a,_,p,hp=>by rw [Xs] at hp;cases hp
 | x :: t,a,ht,p,hp=>by
  have ht':∀ y ∈ t,0≤Zu y:=fun y hy=>ht y (List.mem_cons_of_mem _ hy)
  have hs:0≤Wo t:=by
   rw [Wo]
   clear hp ht
   induction t with
   | nil=>simp
   | cons y t ih=>
    rw [List.map_cons,List.sum_cons]
    exact Rat.add_nonneg (ht' y List.mem_cons_self) (ih fun z hz=>ht' z (List.mem_cons_of_mem _ hz))
  have e:a+long * Wo (x :: t)=a+long * Zu x+long * Wo t:=by
   rw [Wo,List.map_cons,List.sum_cons,← Wo,Rat.mul_add,Rat.add_assoc]
  rw [Xs] at hp
  rw [e]
  rcases List.mem_cons.1 hp with rfl | hp
  ·have:=Rat.mul_nonneg hl hs
   show a+long * Zu x≤_
   grind
  ·exact Zvz hl t _ ht' p hp
theorem Zml {long:Rat} (hl:0≤long):∀ (t:List QV) (a:Rat) (i j:Nat),(∀ x ∈ t,0≤Zu x)→i<j→j<t.length→((Xs long t a).getD i (0,0)).2≤((Xs long t a).getD j (0,0)).1
 | [],a,i,j,_,_,h=>by simp at h
 | x :: t,a,i,0,_,h,_=>by omega
 | x :: t,a,i,j+1,ht,h1,h2=>by
  have ht':∀ y ∈ t,0≤Zu y:=fun y hy=>ht y (List.mem_cons_of_mem _ hy)
  have h2':j<t.length:=by simpa using h2
  rw [Xs,List.getD_cons_succ]
  cases i with
  | zero=>
   rw [List.getD_cons_zero]
   exact (Zj4 hl t _ ht' _ (Zdf (by rw [Tu];exact h2'))).1
  | succ i=>
   rw [List.getD_cons_succ]
   exact Zml hl t _ i j ht' (by omega) h2'
theorem Zlb {c:Rat×Rat→Bool}:∀ (l:List (Rat×Rat)) (k:Nat) (f:Int) (j:Nat),j<l.length→c (l.getD j (0,0))=true→(∀ i,j<i→i<l.length→c (l.getD i (0,0))=false)→W9 c l k f=((k+j:Nat):Int)
 | [],k,f,j,h,_,_=>by simp at h
 | p :: l,k,f,0,h,h1,h2=>by
  rw [List.getD_cons_zero] at h1
  rw [W9,if_pos h1,Zla l (k+1) _ fun q hq=>?_]
  ·omega
  ·obtain ⟨i,hi,e⟩:=List.getElem_of_mem hq
   have:=h2 (i+1) (by omega) (by simpa using hi)
   rw [List.getD_cons_succ,Yz hi,e] at this
   exact this
 | p :: l,k,f,j+1,h,h1,h2=>by
  rw [List.getD_cons_succ] at h1
  rw [W9,Zlb l (k+1) _ j (by simpa using h) h1 fun i hi hil=>by
   have:=h2 (i+1) (by omega) (by simpa using hil)
   rwa [List.getD_cons_succ] at this]
  omega
section
variable {N:Nat} {n:Z2} (hf:Yq N n)
include hf
theorem Zmk {w:List Int} (hw:X2 n w) {v:Nat} (hv:v<n.2.1.length) {s:Rat×Rat} (hs:s.1≤s.2) {p:Rat×Rat} (hp:p ∈ Xs (s.2 - s.1) (Z1 n w v) s.1):s.1≤p.1∧p.1≤p.2∧p.2≤s.2:=by
 have hent:∀ y ∈ Z1 n w v,0≤Zu y:=fun y hy=>(hf.ent hv y (Qx hy)).1
 have hlong:0≤s.2 - s.1:=by rw [Rat.le_iff_sub_nonneg] at hs;exact hs
 obtain ⟨h1,h2⟩:=Zj4 hlong _ _ hent _ hp
 have h3:=Zvz hlong _ _ hent _ hp
 rw [Z5t hf hw hv] at h3
 exact ⟨h1,h2,by grind⟩
variable {ord:List Int} (ho:V0 n.2.2.2.1 ord)
include ho
theorem Zkc {w:List Int} (hw:X2 n w):∀ (l:List Int) (s:Rat×Rat),(∀ y ∈ l,y ∈ ord)→s.1≤s.2→s.1≤(Xe n w l s).1∧(Xe n w l s).1≤(Xe n w l s).2∧(Xe n w l s).2≤s.2
 | [],s,_,h=>⟨Rat.le_refl,h,Rat.le_refl⟩
 | v :: l,s,he,h=>by
  have hvr:=ho.rg v (he v List.mem_cons_self)
  rw [hf.ev.p] at hvr
  have hv:v.toNat<n.2.1.length:=by omega
  have hwv:=hw.ok v.toNat (by rw [hw.len];exact hv)
  have hm:(Xs (s.2 - s.1) (Z1 n w v.toNat) s.1).getD (w.getD v.toNat 0).toNat (0,0) ∈ Xs (s.2 - s.1) (Z1 n w v.toNat) s.1:=Zdf (by rw [Tu,hf.rowT_len hw hv];omega)
  obtain ⟨h1,h2,h3⟩:=Zmk hf hw hv h hm
  obtain ⟨g1,g2,g3⟩:=Zkc hw l _ (fun y hy=>he y (List.mem_cons_of_mem _ hy)) h2
  rw [Xe]
  exact ⟨Rat.le_trans h1 g1,g2,Rat.le_trans g3 h3⟩
theorem Zsm {x:Rat×Rat} (hx:x.1<x.2) {w:List Int} (hw:X2 n w):∀ (l pre u:List Int) (s:Rat×Rat),ord=pre++l→X2 n u→(∀ p ∈ pre,u.getD p.toNat 0=w.getD p.toNat 0)→s.1≤s.2→(Xe n w l s).1≤x.1→x.2≤(Xe n w l s).2→
  ∃ u',Vj n (fun P=>W9 (Vl x) P 0 (-1)) l u s=some (u',Xe n w l s)∧X2 n u'∧∀ p ∈ ord,u'.getD p.toNat 0=w.getD p.toNat 0
 | [],pre,u,s,he,hu,hag,hs,h1,h2=>⟨u,rfl,hu,by rw [he,List.append_nil];exact hag⟩
 | v :: l,pre,u,s,he,hu,hag,hs,h1,h2=>by
  have hsub:∀ y ∈ l,y ∈ ord:=fun y hy=>by rw [he];simp [hy]
  have hvr:=ho.rg v (by rw [he];simp)
  rw [hf.ev.p] at hvr
  obtain ⟨k,rfl⟩:∃ k:Nat,v=(k:Int):=⟨v.toNat,by omega⟩
  have hv:k<n.2.1.length:=by omega
  have hpar:∀ p ∈ n.2.2.2.1.getD k [],u.getD p.toNat 0=w.getD p.toNat 0:=fun p hp=>hag p (ho.up pre k l he p (by rw [Int.toNat_natCast];exact hp))
  have hrow:Y8 n u k=Y8 n w k:=Zm4 _ _ hpar
  have hrT:Z1 n u k=Z1 n w k:=by rw [Z1,Z1,hrow]
  have hwk:=hw.ok k (by rw [hw.len];exact hv)
  obtain ⟨q,hq⟩:∃ q:Nat,w.getD k 0=(q:Int):=⟨(w.getD k 0).toNat,by omega⟩
  have hql:q<(Z1 n w k).length:=by rw [hf.rowT_len hw hv];omega
  have hlong:0≤s.2 - s.1:=by rw [Rat.le_iff_sub_nonneg] at hs;exact hs
  have hent:∀ y ∈ Z1 n w k,0≤Zu y:=fun y hy=>(hf.ent hv y (Qx hy)).1
  rw [Xe,Int.toNat_natCast,hq,Int.toNat_natCast] at h1 h2
  obtain ⟨p1,p2,p3⟩:=Zmk hf hw hv hs (Zdf (by rw [Tu];exact hql))
  obtain ⟨g1,g2,g3⟩:=Zkc hf ho hw l _ hsub p2
  have hpick:W9 (Vl x) (Xs (s.2 - s.1) (Z1 n w k) s.1) 0 (-1)=(q:Int):=by
   have:=Zlb (c:=Vl x) (Xs (s.2 - s.1) (Z1 n w k) s.1) 0 (-1) q (by rw [Tu];exact hql) (Sx.2 ⟨Rat.le_trans g1 h1,Std.lt_of_lt_of_le hx (Rat.le_trans h2 g3),Rat.le_trans h2 g3⟩) fun i hi hil=>?_
   ·rw [this,Nat.zero_add]
   ·rw [Bool.eq_false_iff]
    intro g
    have hsep:=Zml hlong (Z1 n w k) s.1 q i hent hi (by rwa [Tu] at hil)
    have:=(Sx.1 g).1
    exact absurd (Std.lt_of_lt_of_le hx (Rat.le_trans h2 (Rat.le_trans g3 hsep))) (Rat.not_lt.2 this)
  have ih:=Zsm hx hw l (pre++[(k:Int)]) (u.set k q) _ (by rw [he,List.append_assoc];rfl) (hu.set (v:=k) (by omega)) (fun p hp=>?_) p2 h1 h2
  ·obtain ⟨u',e1,e2,e3⟩:=ih
   refine ⟨u',?_,e2,e3⟩
   rw [Vj,Xe,Int.toNat_natCast,hrT]
   simp only [hpick]
   rw [if_neg (by omega),Int.toNat_natCast,hq,Int.toNat_natCast]
   exact e1
  ·rcases List.mem_append.1 hp with hp | hp
   ·rw [Uu u 0 k _ _ (by rw [hu.len];exact hv)]
    split
    ·rename_i e;rw [e,hq]
    ·exact hag p hp
   ·rw [List.mem_singleton] at hp
    rw [hp,Int.toNat_natCast,Uu u 0 k _ _ (by rw [hu.len];exact hv),if_pos rfl,hq]
theorem Zsn {x y:Rat×Rat} (hx:x.1<x.2) (h1:y.1≤x.1) (h2:x.2≤y.2):∀ (l u:List Int) (s:Rat×Rat) (r:List Int×(Rat×Rat)),(∀ z ∈ l,z ∈ ord)→X2 n u→s.1≤s.2→s.1≤y.1→y.2≤s.2→Vj n (fun P=>W9 (Vl y) P 0 (-1)) l u s=some r→
  Vj n (fun P=>W9 (Vl x) P 0 (-1)) l u s=some r∧r.2.1≤y.1∧y.2≤r.2.2
 | [],u,s,r,_,_,_,g1,g2,h=>by
  rw [Vj,Option.some.injEq] at h
  subst h
  exact ⟨rfl,g1,g2⟩
 | v :: l,u,s,r,he,hu,hs,g1,g2,h=>by
  have hvr:=ho.rg v (he v List.mem_cons_self)
  rw [hf.ev.p] at hvr
  have hv:v.toNat<n.2.1.length:=by omega
  have hlong:0≤s.2 - s.1:=by rw [Rat.le_iff_sub_nonneg] at hs;exact hs
  have hent:∀ y ∈ Z1 n u v.toNat,0≤Zu y:=fun y hy=>(hf.ent hv y (Qx hy)).1
  rw [Vj] at h
  split at h
  ·cases h
  ·rename_i hneg
   rcases Zoq (c:=Vl y) (Xs (s.2 - s.1) (Z1 n u v.toNat) s.1) 0 (-1) with e | ⟨j,hj,e1,e2⟩
   ·rw [e] at hneg;exact absurd (by decide) hneg
   ·rw [e1,Nat.zero_add,Int.toNat_natCast] at h
    rw [← Yz (d:=((0:Rat),(0:Rat))) hj] at e2
    have hm:(Xs (s.2 - s.1) (Z1 n u v.toNat) s.1).getD j (0,0) ∈ Xs (s.2 - s.1) (Z1 n u v.toNat) s.1:=Zdf hj
    obtain ⟨p1,p2,p3⟩:=Zmk hf hu hv hs hm
    obtain ⟨d1,d2,d3⟩:=Sx.1 e2
    have hjr:j<cnt n v.toNat:=by rwa [Tu,hf.rowT_len hu hv] at hj
    have hpick:W9 (Vl x) (Xs (s.2 - s.1) (Z1 n u v.toNat) s.1) 0 (-1)=(j:Int):=by
     have:=Zlb (c:=Vl x) (Xs (s.2 - s.1) (Z1 n u v.toNat) s.1) 0 (-1) j hj (Sx.2 ⟨Rat.le_trans d1 h1,Std.lt_of_lt_of_le hx (Rat.le_trans h2 d3),Rat.le_trans h2 d3⟩) fun i hi hil=>?_
     ·rw [this,Nat.zero_add]
     ·rw [Bool.eq_false_iff]
      intro g
      have hsep:=Zml hlong (Z1 n u v.toNat) s.1 j i hent hi (by rwa [Tu] at hil)
      have:=(Sx.1 g).1
      exact absurd (Std.lt_of_lt_of_le hx (Rat.le_trans h2 (Rat.le_trans d3 hsep))) (Rat.not_lt.2 this)
    obtain ⟨r1,r2,r3⟩:=Zsn hx h1 h2 l (u.set v.toNat j) _ r (fun z hz=>he z (List.mem_cons_of_mem _ hz)) (hu.set (by omega)) p2 d1 d3 h
    refine ⟨?_,r2,r3⟩
    rw [Vj]
    simp only [hpick]
    rw [if_neg (by omega),Int.toNat_natCast]
    exact r1
variable (hall:∀ i,i<n.2.1.length→(i:Int) ∈ ord)
include hall
theorem Z09 {x:Rat×Rat} (hx:x.1<x.2) {w:List Int} (hw:X2 n w) (h1:(Xe n w ord (0,1)).1≤x.1) (h2:x.2≤(Xe n w ord (0,1)).2):Vj n (fun P=>W9 (Vl x) P 0 (-1)) ord (List.replicate n.2.1.length 0) (0,1)=some (w,Xe n w ord (0,1)):=by
 obtain ⟨u,e1,e2,e3⟩:=Zsm hf ho hx hw ord [] (List.replicate n.2.1.length 0) (0,1) rfl (X2.zero hf.ev) (by simp) (show (0:Rat)≤1 by decide) h1 h2
 have:u=w:=by
  refine List.ext_getElem (by rw [e2.len,hw.len]) fun i g1 g2=>?_
  have:=e3 (i:Int) (hall i (by rw [← e2.len];exact g1))
  rwa [Int.toNat_natCast,Yz g1,Yz g2] at this
 rw [e1,this]
theorem Z1a {x y:Rat×Rat} (hx:x.1<x.2) {w:List Int} (hw:X2 n w) (h1:(Xe n w ord (0,1)).1≤x.1) (h2:x.2≤(Xe n w ord (0,1)).2) (g1:y.1≤x.1) (g2:x.2≤y.2) (g0:0≤y.1) (g3:y.2≤1)
  (hn:¬ ((Xe n w ord (0,1)).1≤y.1∧y.2≤(Xe n w ord (0,1)).2)):Vj n (fun P=>W9 (Vl y) P 0 (-1)) ord (List.replicate n.2.1.length 0) (0,1)=none:=by
 cases hd:Vj n (fun P=>W9 (Vl y) P 0 (-1)) ord (List.replicate n.2.1.length 0) (0,1) with
 | none=>rfl
 | some r=>
  obtain ⟨e1,e2,e3⟩:=Zsn hf ho hx g1 g2 ord _ _ r (fun _ h=>h) (X2.zero hf.ev) (show (0:Rat)≤1 by decide) g0 g3 hd
  rw [Z09 hf ho hall hx hw h1 h2,Option.some.injEq] at e1
  subst e1
  exact absurd ⟨e2,e3⟩ hn
end
def Zfv (aa:Int) (ad:Rg) (ab:List Int):Option Int:=
  (Zp ab aa).bind fun ac=>some ac
theorem Zyu (col:Ze) (w0:World) (qc2:Nat) (hqqc2:qc2≠0) (af:Int) (a1:Option Addr) (ag:Nat) (ab:Rg) (g2:Nat) (ac:List Int) (ah:Option Addr) (ai:Nat) (h1:Sl (Za.pair (Za.pair (Za.pair Za.bool (Za.slice (Za.int .u32))) (Za.slice (Za.int .u32))) (Za.pair (Za.pair Za.bool (Za.slice (Za.int .u32))) (Za.slice (Za.int .u32)))) col w0 a1 ag ab) (aa:Sl (Za.int .i64) col w0 ah ai ac) (hb2:Zj 33 qc2 col w0 g2 #[.slice ah ac.length ai]) (r:Int) (hm:Zfv af ab ac=some r):
    Calls prog 119 #[.int .i64 af,.slice a1 ab.length ag,.pointer (some ⟨g2,0,none⟩)] w0 (fun e w'=>e= .returned ((.int .i64 r))∧Below w0.heap.size w0 w'):=by
 refine Xm 5 (m:=10) func119 rfl rfl rfl rfl rfl ?_;rw [Zfv.eq_1] at hm;have ad:=St.start col w0;replace hb2:=hb2.start0 hqqc2;refine go ?_;refine lW hb2.at1<|Yf rfl ?_;obtain ⟨aj,ae,hm⟩:=bZ hm;replace aa:=aa.keep (Zl.start col w0);refine lI ae ((aa.ks ad).addr ae)<|lW ((aa.ks ad).atInt ae) ?_;refine go ?_;cases hm;exact ⟨rfl,rfl,ad.below⟩
def Zd0 (N:Nat) (ai:R0) (aj:List Int) (ap:Bool) (aq:List Int) (ar:List Int) (au:Bool) (av:List Int) (aw:List Int) (ak:List Int) (kk_L1:(Bool→R2→R2→Bool→R2→R2→R2→Bool→R2→R2→Bool→R2→R2→R2→Option R7)) (ab:Int) (ax:Int) (ae:R1) (ay:List ByteArray):Nat→Bool→R2→R2→Rg→Int→Option R7
  | 0,_,_,_,_,_=>none
  | az+1,af,ag,ah,ad,al=>if (decide (al<(ay.length:Int)))=true then ((Zp ai.2.2.2.2 ab).bind fun a0=>(Zp ai.2.2.1 ab).bind fun a1=>(Zp a0 (i64.wrap ((i64.wrap (ax * (a1.length:Int)))+al))).bind fun am=>(Uv N ((ae.1.1,ae.1.2),ae.2) ((am.1.1,am.1.2),am.2)).bind fun an=>(V4 N ((af,ag),ah) ((an.1.1,an.1.2),an.2)).bind fun aa=>Z3 ((ad.length+[(((af,ag),ah),((aa.1.1,aa.1.2),aa.2))].length) * 112≤140737488355328∧ad.length+[(((af,ag),ah),((aa.1.1,aa.1.2),aa.2))].length≤maxLen) ((Zd0 N ai aj ap aq ar au av aw ak kk_L1 ab ax ae ay az) aa.1.1 aa.1.2 aa.2 (ad++[(((af,ag),ah),((aa.1.1,aa.1.2),aa.2))]) (i64.wrap (al+1)))) else ((Zfv ab ad aj).bind fun ao=>if (decide (ao<0))=true then (some (([]:List Int),(((false,([]:List Int)),([]:List Int)),((false,([]:List Int)),([]:List Int))),false)) else ((Zp ad ao).bind fun ac=>(Zp ak ab).bind fun a3=>(some (ak.set (Int.toNat ab) ao)).bind fun a2=>kk_L1 ac.1.1.1 ac.1.1.2 ac.1.2 ac.2.1.1 ac.2.1.2 ac.2.2 aj ap aq ar au av aw a2))
termination_by structural x=>x
def Zbc (N:Nat) (aa:R0) (ab:Bool) (ac:List Int) (ad:List Int) (ah:Bool) (ai:List Int) (aj:List Int) (ak:List Int) (al:Bool) (am:List Int) (an:List Int) (ao:Bool) (ap:List Int) (aq:List Int) (ae:List Int) (kk_L1:(Bool→R2→R2→Bool→R2→R2→R2→Bool→R2→R2→Bool→R2→R2→R2→Option R7)) (af:Int):List Int→Int→Option R7
  | [],ag=>(Qq N ((ah,ai),aj) ((ab,ac),ad)).bind fun au=>(Zp aa.2.2.1 af).bind fun av=>Zd0 N aa ak al am an ao ap aq ae kk_L1 af ag au av N ab ac ad ([]:List (R1×R1)) 0
  | ar :: aw,ag=>(Zp aa.2.2.1 ar).bind fun ax=>(Zp ae ar).bind fun ay=>(Zbc N aa ab ac ad ah ai aj ak al am an ao ap aq ae kk_L1 af aw) (i64.wrap ((i64.wrap (ag * (ax.length:Int)))+ay))
termination_by structural x=>x
def Qm (N:Nat) (aa:R0):List Int→Bool→R2→R2→Bool→R2→R2→R2→Bool→R2→R2→Bool→R2→R2→R2→Option R7
  | [],ab,ac,ad,ae,af,ag,ai,aj,ak,al,am,an,ao,ah=>some (ah,(((ab,ac),ad),((ae,af),ag)),true)
  | ap :: aq,ab,ac,ad,ae,af,ag,ai,aj,ak,al,am,an,ao,ah=>(Zp aa.2.2.2.1 ap).bind fun ar=>Zbc N aa ab ac ad ae af ag ai aj ak al am an ao ah (Qm N aa aq) ap ar 0
termination_by structural x=>x
def Zfx (N:Nat) (aa:R0) (ad:List Int) (ae:List Int):Option R7:=
  Z3 (aa.2.1.length * 8≤281474976710656∧aa.2.1.length≤maxLen) ((Zbe N ([]:List R1)).bind fun ab=>(Zch).bind fun ac=>Qm N aa ad ab.1.1 ab.1.2 ab.2 ac.1.1 ac.1.2 ac.2 ae false ([]:List Int) ([]:List Int) false ([]:List Int) ([]:List Int) (List.replicate aa.2.1.length (0:Int)))
theorem Zyv {N dy c5 dz c6 fm g3 fn:Nat} {d0 cr d1 ct a1 fp:Option Addr} {col:Ze} {w0:World} {ag:R0} {c7 em:R2} {r:R7} (c1 qc3:Nat) (hm:Zfx N ag c7 em=some r) (hqqc3:qc3≠0) (i4:Sl Za.str col w0 d0 dy ag.2.1) (cu:Sl (Za.slice Za.str) col w0 cr c5 ag.2.2.1) (ec:Sl (Za.slice (Za.int .i64)) col w0 d1 dz ag.2.2.2.1) (ed:Sl (Za.slice (Za.pair (Za.pair Za.bool (Za.slice (Za.int .u32))) (Za.slice (Za.int .u32)))) col w0 ct c6 ag.2.2.2.2) (h1:Sl (Za.int .i64) col w0 a1 fm c7) (en:Sl (Za.int .i64) col w0 fp fn em) (hb3:Zj 33 qc3 col w0 g3 #[.slice fp em.length fn]):
    Calls prog 81 #[(.agg #[.string ag.1,.slice d0 ag.2.1.length dy,.slice cr ag.2.2.1.length c5,.slice d1 ag.2.2.2.1.length dz,.slice ct ag.2.2.2.2.length c6]),.slice a1 c7.length fm,(.func (.func 119) #[] #[.pointer (some ⟨g3,0,none⟩)])] w0 (fun e w'=>∃ (col':Ze) (ra1:Option Addr) (rc2:Nat) (ra4:Option Addr) (rc5:Nat) (ra7:Option Addr) (rc8:Nat) (ra10:Option Addr) (rc11:Nat) (ra13:Option Addr) (rc14:Nat),e= .returned (.tuple #[.slice ra1 r.1.length rc2,(.agg #[.bool r.2.1.1.1.1,.slice ra4 r.2.1.1.1.2.length rc5,.slice ra7 r.2.1.1.2.length rc8,.bool r.2.1.2.1.1,.slice ra10 r.2.1.2.1.2.length rc11,.slice ra13 r.2.1.2.2.length rc14]),.bool r.2.2])∧Zf col w0 col' w'∧Zc (Za.int .i64) 3 c1 col' w' ra1 rc2 r.1∧Sl (Za.int .u32) col' w' ra4 rc5 r.2.1.1.1.2∧Sl (Za.int .u32) col' w' ra7 rc8 r.2.1.1.2∧Sl (Za.int .u32) col' w' ra10 rc11 r.2.1.2.1.2∧Sl (Za.int .u32) col' w' ra13 rc14 r.2.1.2.2):=by
 refine Y2 (m:=122) func81 rfl rfl rfl ?_;rw [Zfx.eq_1] at hm;have aa:=St.start col w0;replace hb3:=hb3.start0 hqqc3;refine go ?_;refine Xv (col:=(Zk col)) 1 rfl ?_;intro d2 i5 fv fq ab;refine Q6 rfl<|Xj (col:=fv) #[.bool false,.slice none (([]:List Int).length) 0,.slice none (([]:List Int).length) 0,.bool false,.slice none (([]:List Int).length) 0,.slice none (([]:List Int).length) 0] 2 zeroValue68 ?_;intro eo fw fx ep ac;refine go ?_;refine Xx ⟨_,_,rfl⟩ ?_;replace ab:=ab.gr ep;refine lW ((ab.atN).nth (q:=1) rfl)<|go ?_;obtain ⟨fr,hm⟩:=Z6 hm;refine T9 (col:=fx) (w:=fw) (r:=(Za.int .i64)) (n:=ag.2.1.length) (x0:=0) 3 rfl underlying33 Tryz.t3 rfl rfl rfl rfl rfl rfl rfl fr.1 fr.2 (Qe .i64 0) ?_;intro i6 i7 fy ee bu;refine go ?_;obtain ⟨eq,fz,hm⟩:=bZ hm;refine Zh (Zku (col:=fy) 4 5 fz Sl.nil) ?_;rintro _ i8 ⟨f0,f1,f2,f3,f4,rfl,d3,bv,bw⟩;refine ⟨_,rfl,?_⟩;obtain ⟨er,f5,hm⟩:=bZ hm;refine lc rfl rfl (Zax call69) (Zkt (col:=f0) 6 7 f5:) ?_;rintro _ i9 ⟨f6,f7,f8,f9,ga,rfl,c8,bx,bz⟩;refine ⟨_,rfl,?_⟩;refine lV (.agg #[.bool eq.1.1,.slice f1 eq.1.2.length f2,.slice f3 eq.2.length f4,.bool er.1.1,.slice f7 er.1.2.length f8,.slice f9 er.2.length ga]) (Yo (l:=[_,_]) (qs:=[(0,3),(3,3)]) underlying68 zeroValue68 ⟨rfl,sizeOf39,rfl,sizeOf39,trivial⟩ rfl)<|Xj (col:=f6) #[.bool false,.slice none (([]:List Int).length) 0,.slice none (([]:List Int).length) 0,.bool false,.slice none (([]:List Int).length) 0,.slice none (([]:List Int).length) 0] 8 zeroValue68 ?_;intro es ja jb cg gb;refine Zw gb ?_;intro jc ch gc ad;refine go ?_;replace bu:=(((bu.gr d3).gr c8).gr cg).kp ch;replace bu:=bu.froz 4 (by decide);replace bv:=((bv.gr c8).gr cg).kp ch;replace bv:=(bv).toSlF (Zg.int .u32);replace bw:=((bw.gr c8).gr cg).kp ch;replace bw:=bw.froz 4 (by decide);replace bx:=(bx.gr cg).kp ch;replace bx:=bx.froz 4 (by decide);replace bz:=(bz.gr cg).kp ch;replace bz:=bz.froz 4 (by decide);replace hb3:=((((((hb3.gr fq).gr ep).gr ee).gr d3).gr c8).gr cg).kp ch;replace hb3:=hb3.froz 4 (by decide);replace ab:=((((ab.gr ee).gr d3).gr c8).gr cg).kp ch;replace ab:=ab.froz 4 (by decide);replace ac:=((((ac.gr ee).gr d3).gr c8).gr cg).kp ch;replace ac:=ac.froz 4 (by decide);replace ad:=ad.froz 4 (by decide)
 replace aa:=((((((aa.grow fq).grow ep).grow ee).grow d3).grow c8).grow cg).kp ch gc;replace aa:=aa.froz 4 (by decide) (by decide);replace bu:=bu.froz 5 (by decide);replace bv:=bv.froz 5;replace bw:=(bw).toSlF (Zg.int .u32);replace bx:=bx.froz 5 (by decide);replace bz:=bz.froz 5 (by decide);replace hb3:=hb3.froz 5 (by decide);replace ab:=ab.froz 5 (by decide);replace ac:=ac.froz 5 (by decide);replace ad:=ad.froz 5 (by decide);replace aa:=aa.froz 5 (by decide) (by decide);replace bu:=bu.froz 6 (by decide);replace bv:=bv.froz 6;replace bw:=bw.froz 6;replace bx:=(bx).toSlF (Zg.int .u32);replace bz:=bz.froz 6 (by decide);replace hb3:=hb3.froz 6 (by decide);replace ab:=ab.froz 6 (by decide);replace ac:=ac.froz 6 (by decide);replace ad:=ad.froz 6 (by decide);replace aa:=aa.froz 6 (by decide) (by decide);replace bu:=bu.froz 7 (by decide);replace bv:=bv.froz 7;replace bw:=bw.froz 7;replace bx:=bx.froz 7;replace bz:=(bz).toSlF (Zg.int .u32);replace hb3:=hb3.froz 7 (by decide);replace ab:=ab.froz 7 (by decide);replace ac:=ac.froz 7 (by decide);replace ad:=ad.froz 7 (by decide);replace aa:=aa.froz 7 (by decide) (by decide);replace en:=en.keep (Zl.start col w0)
 refine Z9 [10,2,29,3,30,7,1000000] (fun n f bh=>∃ a6 cv ci cj b0 ck cl b1 c9 cw cx b3 cy cz b4 c0 c2 b2 d4 da db dc b5 dd de b6 df dg dh b7 di dj b8 dl dm b9 d5,n=d5.length∧c7.drop d4=d5∧Qm N ag d5 cv b0 b1 c9 b3 b4 b2 da b5 b6 df b7 b8 b9=some r∧St w0 (Zk col) a6 bh∧Sl (Za.int .u32) a6 bh ci cj b0∧Sl (Za.int .u32) a6 bh ck cl b1∧Sl (Za.int .u32) a6 bh cw cx b3∧Sl (Za.int .u32) a6 bh cy cz b4∧Zj 68 8 a6 bh es #[.bool cv,.slice ci b0.length cj,.slice ck b1.length cl,.bool c9,.slice cw b3.length cx,.slice cy b4.length cz]∧Sl (Za.int .i64) a6 bh c0 c2 b2∧Zj 33 999 a6 bh g3 #[.slice c0 b2.length c2]∧Zj 27 1 a6 bh d2 #[.string ag.1,.slice d0 ag.2.1.length dy,.slice cr ag.2.2.1.length c5,.slice d1 ag.2.2.2.1.length dz,.slice ct ag.2.2.2.2.length c6]∧Zc (Za.int .u32) 95 9 a6 bh db dc b5∧Zc (Za.int .u32) 95 10 a6 bh dd de b6∧Zc (Za.int .u32) 95 11 a6 bh dg dh b7∧Zc (Za.int .u32) 95 12 a6 bh di dj b8∧Zj 68 2 a6 bh eo #[.bool da,.slice db b5.length dc,.slice dd b6.length de,.bool df,.slice dg b7.length dh,.slice di b8.length dj]∧Zc (Za.int .i64) 3 3 a6 bh dl dm b9∧[31,9].map f=[.int .i64 d4,.slice dl b9.length dm]) c7.length ⟨_,_,_,_,_,_,_,_,_,_,_,_,_,_,_,_,_,_,0,_,none,0,_,none,0,_,_,none,0,_,none,0,_,_,_,_,_,rfl,rfl,hm,aa,bv,bw,bx,bz,ad,(en.ks aa),hb3,ab,Zc.nil,Zc.nil,Zc.nil,Zc.nil,ac,bu,rfl⟩ ?_;clear hm;intro n f bh hI;obtain ⟨a6,cv,ci,cj,b0,ck,cl,b1,c9,cw,cx,b3,cy,cz,b4,c0,c2,b2,d4,da,db,dc,b5,dd,de,b6,df,dg,dh,b7,di,dj,b8,dl,dm,b9,d5,hn,hl,hm,aa,ai,aj,ak,al,ad,am,hb3,ab,an,ao,ap,aq,ac,ah,hs⟩:=hI;subst hn;refine .lL [31,9] hs ?_;replace cu:=cu.keep (Zl.start col w0);replace ec:=ec.keep (Zl.start col w0);replace ed:=ed.keep (Zl.start col w0);replace h1:=h1.keep (Zl.start col w0)
 cases d5 with
 | nil=>
  have hk:¬ ((d4:Int)<(c7.length:Int)):=by have:=List.drop_eq_nil_iff.1 hl;omega
  have hkb:=decide_eq_false hk;rw [Qm.eq_1] at hm;refine go ?_;refine X9 (congrArg Value.bool hkb)<|go ?_;refine Wi (col:=a6) [(0,1),(1,0),(2,1),(3,2),(4,1)] (by kernel_rfl) (by kernel_rfl)<|xu rfl rfl (fun _=>Vu rfl) ?_;refine xv rfl rfl (fun _ hC=>Xb isAgg68 sizeOf68 (ad.gr (hC.bl a6))) ?_;refine xu rfl rfl (fun _=>Zmv rfl) ?_;refine xe rfl rfl ?_;intro jd hC0;have hC:=hC0.bl a6;replace ac:=ac.gr hC;refine Zw ac ?_;intro je dv gd et;refine Zm<|xk a6<|xu rfl rfl (fun _=>Zmu rfl) ?_;refine Wf ?_;replace ai:=(ai.gr hC).kp dv;replace aj:=(aj.gr hC).kp dv;replace ak:=(ak.gr hC).kp dv;replace al:=(al.gr hC).kp dv;replace ah:=(ah.gr hC).kp dv;replace aa:=(aa.grow hC).kp dv gd;intro jf hC;replace hC:=hC.bl a6;refine W4 ?_;cases hm;replace ai:=ai.gr hC;replace aj:=aj.gr hC;replace ak:=ak.gr hC;replace al:=al.gr hC;replace ah:=ah.gr hC;replace et:=et.gr hC;replace aa:=aa.grow hC;exact ⟨rfl,_,Zm1 rfl rfl rfl rfl isAgg68 sizeOf68 rfl rfl et.atN rfl rfl,_,_,_,_,_,_,_,_,_,_,_,rfl,aa.fin (cm [(3,c1)]),aa.fo ah,aa.fs ai,aa.fs aj,aa.fs ak,aa.fs al⟩
 | cons c3 eu=>
  obtain ⟨dn,ge,gf⟩:=Ym hl;have hk:(d4:Int)<(c7.length:Int):=by omega
  have hkb:=decide_eq_true hk;rw [Qm.eq_2] at hm;refine go ?_;refine Yc (congrArg Value.bool hkb)<|go ?_;refine lI dn ((h1.ks aa).addr dn)<|lW ((h1.ks aa).atInt dn) ?_;refine go ?_;refine Xz ab<|Yf rfl ?_;obtain ⟨d6,ew,hm⟩:=bZ hm;refine lI ew ((ec.ks aa).addr ew) ?_;obtain ⟨_,gg,gh⟩:=(ec.ks aa).atN ew;obtain ⟨⟨gi,gj,rfl,c4⟩,_⟩:=gg;refine lW gh.one<|go ?_;refine Z9 [10,12,2,29,3,30,31,39,40,7,9,1000000] (fun n f be=>∃ a2 ca d7 d8,n=d8.length∧d6.drop d7=d8∧Zbc N ag cv b0 b1 c9 b3 b4 b2 da b5 b6 df b7 b8 b9 (Qm N ag eu) c3 d8 ca=some r∧St w0 (Zk col) a2 be∧Sl (Za.int .u32) a2 be ci cj b0∧Sl (Za.int .u32) a2 be ck cl b1∧Sl (Za.int .u32) a2 be cw cx b3∧Sl (Za.int .u32) a2 be cy cz b4∧Zj 68 8 a2 be es #[.bool cv,.slice ci b0.length cj,.slice ck b1.length cl,.bool c9,.slice cw b3.length cx,.slice cy b4.length cz]∧Sl (Za.int .i64) a2 be c0 c2 b2∧Zj 33 999 a2 be g3 #[.slice c0 b2.length c2]∧Zj 27 1 a2 be d2 #[.string ag.1,.slice d0 ag.2.1.length dy,.slice cr ag.2.2.1.length c5,.slice d1 ag.2.2.2.1.length dz,.slice ct ag.2.2.2.2.length c6]∧Sl (Za.int .i64) a2 be gi gj d6∧Zc (Za.int .u32) 95 9 a2 be db dc b5∧Zc (Za.int .u32) 95 10 a2 be dd de b6∧Zc (Za.int .u32) 95 11 a2 be dg dh b7∧Zc (Za.int .u32) 95 12 a2 be di dj b8∧Zj 68 2 a2 be eo #[.bool da,.slice db b5.length dc,.slice dd b6.length de,.bool df,.slice dg b7.length dh,.slice di b8.length dj]∧Zc (Za.int .i64) 3 3 a2 be dl dm b9∧[41,13].map f=[.int .i64 d7,.int .i64 ca]) d6.length ⟨_,0,0,_,rfl,rfl,hm,aa,ai,aj,ak,al,ad,am,hb3,ab,c4,an,ao,ap,aq,ac,ah,rfl⟩ ?_;clear hm;intro n f be hI;obtain ⟨a2,ca,d7,d8,hn,hl,hm,aa,ai,aj,ak,al,ad,am,hb3,ab,c4,an,ao,ap,aq,ac,ah,hs⟩:=hI;subst hn;refine .lL [41,13] hs ?_
  cases d8 with
  | nil=>
   have hk:¬ ((d7:Int)<(d6.length:Int)):=by have:=List.drop_eq_nil_iff.1 hl;omega
   have hkb:=decide_eq_false hk;rw [Zbc.eq_1] at hm;refine go ?_;refine X9 (congrArg Value.bool hkb)<|go ?_;refine Xx ⟨_,_,rfl⟩ ?_;refine lV (.agg #[.bool c9,.slice cw b3.length cx,.slice cy b4.length cz]) (Xt isAgg39 sizeOf39 rfl rfl ((ad.atN).part 3 3 _ rfl))<|Xx ⟨_,_,rfl⟩ ?_;refine lV (.agg #[.bool cv,.slice ci b0.length cj,.slice ck b1.length cl]) (Xt isAgg39 sizeOf39 rfl rfl ((ad.atN).part 0 3 _ rfl)) ?_;obtain ⟨cn,gk,hm⟩:=bZ hm;refine Zh (Znr 13 14 gk ak al ai aj) ?_;rintro _ jg ⟨gl,ey,ez,e0,e1,rfl,bj,a9,ba⟩;refine ⟨_,rfl,?_⟩;refine Xj (col:=gl) #[.bool false,.slice none (([]:List Int).length) 0,.slice none (([]:List Int).length) 0] 15 zeroValue39 ?_;intro gm jh gp bf gs;refine Zw gs ?_;intro ji bg gt a3;refine go ?_;refine Xx ⟨_,_,rfl⟩ ?_;replace ad:=((ad.gr bj).gr bf).kp bg;refine lV (.agg #[.bool cv,.slice ci b0.length cj,.slice ck b1.length cl]) (Xt isAgg39 sizeOf39 rfl rfl ((ad.atN).part 0 3 _ rfl))<|Xj (col:=gp) #[.bool false,.slice none (([]:List Int).length) 0,.slice none (([]:List Int).length) 0] 16 zeroValue39 ?_;intro gu jj jk bc gv;refine Zw gv ?_;intro jl bd gw a7;refine go ?_;refine Xx ⟨_,_,rfl⟩ ?_;replace ab:=((((ab.gr bj).gr bf).kp bg).gr bc).kp bd;refine lW ((ab.atN).nth (q:=2) rfl)<|Yf rfl ?_;obtain ⟨gx,e2,hm⟩:=bZ hm;replace aa:=((((aa.grow bj).grow bf).kp bg gt).grow bc).kp bd gw;refine lI e2 ((cu.ks aa).addr e2) ?_;obtain ⟨_,gy,gz⟩:=(cu.ks aa).atN e2;obtain ⟨⟨jm,jn,rfl,jo⟩,_⟩:=gy;refine lW gz.one<|go ?_;replace ai:=((((ai.gr bj).gr bf).kp bg).gr bc).kp bd;replace aj:=((((aj.gr bj).gr bf).kp bg).gr bc).kp bd;replace ak:=((((ak.gr bj).gr bf).kp bg).gr bc).kp bd;replace al:=((((al.gr bj).gr bf).kp bg).gr bc).kp bd;replace am:=((((am.gr bj).gr bf).kp bg).gr bc).kp bd;replace an:=((((an.gr bj).gr bf).kp bg).gr bc).kp bd;replace ao:=((((ao.gr bj).gr bf).kp bg).gr bc).kp bd;replace ap:=((((ap.gr bj).gr bf).kp bg).gr bc).kp bd;replace aq:=((((aq.gr bj).gr bf).kp bg).gr bc).kp bd;replace ah:=((((ah.gr bj).gr bf).kp bg).gr bc).kp bd;replace hb3:=((((hb3.gr bj).gr bf).kp bg).gr bc).kp bd
   replace ac:=((((ac.gr bj).gr bf).kp bg).gr bc).kp bd;replace a9:=(((a9.gr bf).kp bg).gr bc).kp bd;replace ba:=(((ba.gr bf).kp bg).gr bc).kp bd;replace ad:=(ad.gr bc).kp bd;replace a3:=(a3.gr bc).kp bd;refine Z9 [10,12,13,16,17,2,29,3,30,31,7,71,9,1000000] (fun n f af=>∃ ae cb dp dq cc dr ds cd ef eg d9 dt dw,dw=n∧Zd0 N ag b2 da b5 b6 df b7 b8 b9 (Qm N ag eu) c3 ca cn gx dw cb cc cd d9 dt=some r∧St w0 (Zk col) ae af∧Sl (Za.int .u32) ae af ci cj b0∧Sl (Za.int .u32) ae af ck cl b1∧Sl (Za.int .u32) ae af cw cx b3∧Sl (Za.int .u32) ae af cy cz b4∧Zj 68 8 ae af es #[.bool cv,.slice ci b0.length cj,.slice ck b1.length cl,.bool c9,.slice cw b3.length cx,.slice cy b4.length cz]∧Zc (Za.int .u32) 95 13 ae af ey ez cn.1.2∧Zc (Za.int .u32) 95 14 ae af e0 e1 cn.2∧Zj 39 15 ae af gm #[.bool cn.1.1,.slice ey cn.1.2.length ez,.slice e0 cn.2.length e1]∧Sl (Za.int .u32) ae af dp dq cc∧Sl (Za.int .u32) ae af dr ds cd∧Zj 39 16 ae af gu #[.bool cb,.slice dp cc.length dq,.slice dr cd.length ds]∧Zc (Za.pair (Za.pair (Za.pair Za.bool (Za.slice (Za.int .u32))) (Za.slice (Za.int .u32))) (Za.pair (Za.pair Za.bool (Za.slice (Za.int .u32))) (Za.slice (Za.int .u32)))) 68 17 ae af ef eg d9∧Sl (Za.int .i64) ae af c0 c2 b2∧Zj 33 999 ae af g3 #[.slice c0 b2.length c2]∧Zj 27 1 ae af d2 #[.string ag.1,.slice d0 ag.2.1.length dy,.slice cr ag.2.2.1.length c5,.slice d1 ag.2.2.2.1.length dz,.slice ct ag.2.2.2.2.length c6]∧Zc (Za.int .u32) 95 9 ae af db dc b5∧Zc (Za.int .u32) 95 10 ae af dd de b6∧Zc (Za.int .u32) 95 11 ae af dg dh b7∧Zc (Za.int .u32) 95 12 ae af di dj b8∧Zj 68 2 ae af eo #[.bool da,.slice db b5.length dc,.slice dd b6.length de,.bool df,.slice dg b7.length dh,.slice di b8.length dj]∧Zc (Za.int .i64) 3 3 ae af dl dm b9∧[18,72].map f=[.slice ef d9.length eg,.int .i64 dt]) N ⟨_,_,_,_,_,_,_,_,none,0,_,0,_,rfl,hm,aa,ai,aj,ak,al,ad,a9,ba,a3,ai,aj,a7,Zc.nil,am,hb3,ab,an,ao,ap,aq,ac,ah,rfl⟩ ?_;clear hm;intro n f af hI
   obtain ⟨ae,cb,dp,dq,cc,dr,ds,cd,ef,eg,d9,dt,dw,hn,hm,aa,ai,aj,ak,al,ad,a9,ba,a3,bm,bn,a7,bb,am,hb3,ab,an,ao,ap,aq,ac,ah,hs⟩:=hI;subst hn;refine .lL [18,72] hs ?_
   cases dw with
   | zero=>rw [Zd0.eq_1] at hm;cases hm
   | succ dw=>
    rw [Zd0.eq_2] at hm;refine go ?_;refine Zq hm (fun hb hm=>go ?_) fun hb hm=>go ?_
    ·have a4:=Zt.clip (fun _=>false) ae af;refine Zhx (col:=ae) [(0,0),(1,0),(2,1),(3,0),(4,1),(5,1),(6,0),(7,1),(8,1),(9,0),(10,1),(11,1),(12,0),(13,1),(14,1),(15,1),(16,1),(17,1),(18,0),(19,3),(20,3),(21,4),(22,2)] (by kernel_rfl) (by kernel_rfl) ⟨fun h=>absurd h (by decide),fun h=>absurd h (by decide),fun h=>absurd h (by decide),fun h=>absurd h (by decide),fun h=>absurd h (by decide),fun h=>absurd h (by decide),fun h=>absurd h (by decide),fun h=>absurd h (by decide),fun h=>absurd h (by decide),fun h=>absurd h (by decide),fun h=>absurd h (by decide),fun h=>absurd h (by decide),fun h=>absurd h (by decide),fun h=>absurd h (by decide),fun h=>absurd h (by decide),fun h=>absurd h (by decide),fun h=>absurd h (by decide),fun h=>absurd h (by decide),fun h=>absurd h (by decide),fun h=>absurd h (by decide),fun h=>absurd h (by decide),fun _=>⟨_,_,_,rfl,Tq zeroValue39⟩,fun h=>absurd h (by decide),trivial⟩ ?_;replace a7:=a7.kpp a4;refine W7 (v:=(.agg #[.bool cb,.slice dp cc.length dq,.slice dr cd.length ds])) rfl rfl (fun _ hC=>Xt isAgg39 sizeOf39 rfl rfl (a7.atN.gr (hC.bl (Zi af ae)))) ?_;replace a3:=a3.kpp a4;refine W7 (v:=(.agg #[.bool cn.1.1,.slice ey cn.1.2.length ez,.slice e0 cn.2.length e1])) rfl rfl (fun _ hC=>Xt isAgg39 sizeOf39 rfl rfl (a3.atN.gr (hC.bl (Zi af ae)))) ?_;refine Yr (v:=(.pointer ((some (⟨d2,0,none⟩:Addr)).map (·.add 4)))) rfl rfl (fun _=>Sn (sz:=1) (off:=4) underlying27 rfl sizeOf25 (by decide) rfl rfl ⟨_,_,rfl⟩) ?_;replace ab:=ab.kpp a4;refine W7 (v:=(.slice ct ag.2.2.2.2.length c6)) rfl rfl (fun _ hC=>Qd isAgg25 rfl (((ab.atN).nth (q:=4) (v:=(.slice ct ag.2.2.2.2.length c6)) rfl).gr (hC.bl (Zi af ae)))) ?_;refine Yr (v:=(.int .i64 c3)) rfl rfl (fun _=>W2 rfl) ?_;obtain ⟨g0,eh,hm⟩:=bZ hm;replace aa:=aa.kpp a4;refine Yr (v:=(X0 ct (Int.toNat c3 * 1))) rfl rfl (fun _=>We underlying25 sizeOf114 rfl rfl (Xl eh).1 (Xl eh).2.1 ((ed.ks aa).addr eh)) ?_;obtain ⟨_,g1,g2⟩:=(ed.ks aa).atN eh;obtain ⟨⟨ft,g4,rfl,fu⟩,_⟩:=g1;refine W7 (v:=(.slice ft g0.length g4)) rfl rfl (fun _ hC=>Qd isAgg114 rfl (g2.one.gr (hC.bl (Zi af ae)))) ?_;refine Yr (v:=(.int .i64 ca)) rfl rfl (fun _=>W2 rfl) ?_;refine Yr (v:=(.pointer ((some (⟨d2,0,none⟩:Addr)).map (·.add 2)))) rfl rfl (fun _=>Sn (sz:=1) (off:=2) underlying27 rfl sizeOf23 (by decide) rfl rfl ⟨_,_,rfl⟩) ?_
     refine W7 (v:=(.slice cr ag.2.2.1.length c5)) rfl rfl (fun _ hC=>Qd isAgg23 rfl (((ab.atN).nth (q:=2) (v:=(.slice cr ag.2.2.1.length c5)) rfl).gr (hC.bl (Zi af ae)))) ?_;refine Yr (v:=(.int .i64 c3)) rfl rfl (fun _=>W2 rfl) ?_;obtain ⟨du,ei,hm⟩:=bZ hm;refine Yr (v:=(X0 cr (Int.toNat c3 * 1))) rfl rfl (fun _=>We underlying23 sizeOf22 rfl rfl (Xl ei).1 (Xl ei).2.1 ((cu.ks aa).addr ei)) ?_;obtain ⟨_,g5,g6⟩:=(cu.ks aa).atN ei;obtain ⟨⟨g7,g8,rfl,jp⟩,_⟩:=g5;refine W7 (v:=(.slice g7 du.length g8)) rfl rfl (fun _ hC=>Qd isAgg22 rfl (g6.one.gr (hC.bl (Zi af ae)))) ?_;refine Yr (v:=(.int .i64 du.length)) rfl rfl (fun _=>Zay underlying22 rfl) ?_;refine Yr (v:=(.int .i64 (i64.wrap (ca * (du.length:Int))))) rfl rfl (fun _=>Ze2 ca (du.length:Int) rfl rfl) ?_;refine Yr (v:=(.int .i64 dt)) rfl rfl (fun _=>W2 rfl) ?_;refine Yr (v:=(.int .i64 (i64.wrap ((i64.wrap (ca * (du.length:Int)))+dt)))) rfl rfl (fun _=>Qc (i64.wrap (ca * (du.length:Int))) dt rfl rfl) ?_;obtain ⟨e3,ej,hm⟩:=bZ hm;refine Yr (v:=(X0 ft (Int.toNat (i64.wrap ((i64.wrap (ca * (du.length:Int)))+dt)) * 3))) rfl rfl (fun _=>We underlying114 sizeOf39 rfl rfl (Xl ej).1 (Xl ej).2.1 (fu.addr ej)) ?_;obtain ⟨_,g9,ha⟩:=fu.atN ej;obtain ⟨_,_,rfl,hc,hd⟩:=Va g9;obtain ⟨_,_,rfl,he,hf⟩:=Va hc;obtain ⟨rfl,_⟩:=he;obtain ⟨⟨hg,hh,rfl,e4⟩,_⟩:=hf;obtain ⟨⟨hi,hj,rfl,e5⟩,_⟩:=hd;refine W7 (v:=(.agg #[.bool e3.1.1,.slice hg e3.1.2.length hh,.slice hi e3.2.length hj])) rfl rfl (fun _ hC=>Xt isAgg39 sizeOf39 rfl rfl (ha.gr (hC.bl (Zi af ae)))) ?_;refine Vb rfl rfl ?_;intro ho hC0;have hC:=hC0.bl (Zi af ae);obtain ⟨jq,hp,hm⟩:=bZ hm;replace a9:=(a9.kpp a4).gr hC;replace ba:=(ba.kpp a4).gr hC;replace e4:=e4.gr hC;replace e5:=e5.gr hC;refine Zh (Zfd 18 19 hp ((a9.toSlF (Zg.int .u32)).froz 14) ((ba.froz 13 (by decide)).toSlF (Zg.int .u32)) ((e4.froz 13).froz 14) ((e5.froz 13).froz 14)) ?_;rintro _ ce ⟨hq,jr,js,jt,ju,rfl,ar,ea,eb⟩;refine ⟨_,rfl,?_⟩;replace ea:=ea.thaw (Zy .u32) ar (((Fz.refl (col:=(Zi af ae))).froz 13).froz 14) (by decide)
     replace eb:=eb.thaw (Zy .u32) ar (((Fz.refl (col:=(Zi af ae))).froz 13).froz 14) (by decide);replace ar:=ar.thawR (col:=(Zi af ae));generalize Z7 ho.heap.size (Zi af ae) hq=co at *;refine Zm ?_;refine ⟨fun w'=>Zf (Zi ce co) ce (Zi ce co) w',fun g=>(Zi ce co) g=497,Zf.refl _ _,W6,fun _=>⟨fun _ h=>Uc hC0 ar h,fun b hb=>ar.below.block b hb,fun g x1 x2=>Ug ar g x1 (by first | exact x2 | (simp only [Xn,x2];rfl) | (simp only [Xn,Xc,x2];rfl))⟩,?_⟩;have aw:=Zt.clip (fun _=>false) co ce;refine Vb rfl rfl ?_;intro hr hC0;replace ai:=(((ai.kpp a4).gr hC).gr ar).kpp aw;replace aj:=(((aj.kpp a4).gr hC).gr ar).kpp aw;replace ak:=(((ak.kpp a4).gr hC).gr ar).kpp aw;replace al:=(((al.kpp a4).gr hC).gr ar).kpp aw;replace bm:=(((bm.kpp a4).gr hC).gr ar).kpp aw;replace bn:=(((bn.kpp a4).gr hC).gr ar).kpp aw;replace bb:=(((bb.kpp a4).gr hC).gr ar).kpp aw;replace am:=(((am.kpp a4).gr hC).gr ar).kpp aw;replace an:=(((an.kpp a4).gr hC).gr ar).kpp aw;replace ao:=(((ao.kpp a4).gr hC).gr ar).kpp aw;replace ap:=(((ap.kpp a4).gr hC).gr ar).kpp aw;replace aq:=(((aq.kpp a4).gr hC).gr ar).kpp aw;replace ah:=(((ah.kpp a4).gr hC).gr ar).kpp aw;replace ad:=(((ad.kpp a4).gr hC).gr ar).kpp aw;replace hb3:=(((hb3.kpp a4).gr hC).gr ar).kpp aw;replace ac:=(((ac.kpp a4).gr hC).gr ar).kpp aw;replace a3:=((a3.gr hC).gr ar).kpp aw;replace a7:=((a7.gr hC).gr ar).kpp aw;replace ab:=((ab.gr hC).gr ar).kpp aw;replace aa:=((aa.grow hC).grow ar).kpp aw;have hC:=hC0.bl (Zi ce co);obtain ⟨bi,ht,hm⟩:=bZ hm;replace ea:=(ea.kpp aw).gr hC;replace eb:=(eb.kpp aw).gr hC;replace bm:=bm.gr hC;replace bn:=bn.gr hC;refine Zh (Zb2 20 21 ht ((bm.froz 18).froz 19) ((bn.froz 18).froz 19) ((ea.toSlF (Zg.int .u32)).froz 19) ((eb.froz 18 (by decide)).toSlF (Zg.int .u32))) ?_;rintro _ bk ⟨hu,e6,e7,e8,e9,rfl,au,bo,bp⟩;refine ⟨_,rfl,?_⟩;replace bo:=bo.thaw (Zy .u32) au (((Fz.refl (col:=(Zi ce co))).froz 18).froz 19) (by decide);replace bp:=bp.thaw (Zy .u32) au (((Fz.refl (col:=(Zi ce co))).froz 18).froz 19) (by decide);replace au:=au.thawR (col:=(Zi ce co))
     generalize Z7 hr.heap.size (Zi ce co) hu=bq at *;refine Zm ?_;refine ⟨fun w'=>Zf (Zi bk bq) bk (Zi bk bq) w',fun g=>(Zi bk bq) g=497,Zf.refl _ _,W6,fun _=>⟨fun _ h=>Uc hC0 au h,fun b hb=>au.below.block b hb,fun g x1 x2=>Ug au g x1 (by first | exact x2 | (simp only [Xn,x2];rfl) | (simp only [Xn,Xc,x2];rfl))⟩,?_⟩;have ax:=Zt.clip (fun _=>false) bq bk;refine Ze7 rfl rfl (Tq zeroValue39) ?_;intro cp hv;refine Vb rfl rfl ?_;intro hw ⟨hC0,hZ0⟩;replace a9:=((((a9.gr ar).kpp aw).gr hC).gr au).kpp ax;replace ba:=((((ba.gr ar).kpp aw).gr hC).gr au).kpp ax;replace ai:=((ai.gr hC).gr au).kpp ax;replace aj:=((aj.gr hC).gr au).kpp ax;replace ak:=((ak.gr hC).gr au).kpp ax;replace al:=((al.gr hC).gr au).kpp ax;replace bb:=((bb.gr hC).gr au).kpp ax;replace am:=((am.gr hC).gr au).kpp ax;replace an:=((an.gr hC).gr au).kpp ax;replace ao:=((ao.gr hC).gr au).kpp ax;replace ap:=((ap.gr hC).gr au).kpp ax;replace aq:=((aq.gr hC).gr au).kpp ax;replace ah:=((ah.gr hC).gr au).kpp ax;replace ad:=((ad.gr hC).gr au).kpp ax;replace a3:=((a3.gr hC).gr au).kpp ax;replace a7:=((a7.gr hC).gr au).kpp ax;replace hb3:=((hb3.gr hC).gr au).kpp ax;replace ab:=((ab.gr hC).gr au).kpp ax;replace ac:=((ac.gr hC).gr au).kpp ax;replace aa:=((aa.grow hC).grow au).kpp ax;have hC:=hC0.bl (Zi bk bq);obtain ⟨ay,fa⟩:=Zdq (col:=(Zi bk bq)) 22 hZ0 hv;replace fa:Zj 39 22 (Xd cp 22 (Zi bk bq)) hw cp #[.bool false,.slice none (([]:List Int).length) 0,.slice none (([]:List Int).length) 0]:=fa;refine Zw fa ?_;intro cq az hx cf;refine Zm ?_;refine ⟨fun w'=>Zf (Zi cq (Xd cp 22 (Zi bk bq))) cq (Zi cq (Xd cp 22 (Zi bk bq))) w',fun g=>(Zi cq (Xd cp 22 (Zi bk bq))) g=497,Zf.refl _ _,W6,fun h=>absurd h (by decide),?_⟩;have av:=Zt.clip (fun _=>false) (Xd cp 22 (Zi bk bq)) cq;refine Zhz ?_;replace bm:=(((((bm.gr au).kpp ax).gr hC).kpp ay).kp az).kpp av;replace bn:=(((((bn.gr au).kpp ax).gr hC).kpp ay).kp az).kpp av;replace bo:=((((bo.kpp ax).gr hC).kpp ay).kp az).kpp av;replace bp:=((((bp.kpp ax).gr hC).kpp ay).kp az).kpp av;replace ai:=(((ai.gr hC).kpp ay).kp az).kpp av;replace aj:=(((aj.gr hC).kpp ay).kp az).kpp av
     replace ak:=(((ak.gr hC).kpp ay).kp az).kpp av;replace al:=(((al.gr hC).kpp ay).kp az).kpp av;replace a9:=(((a9.gr hC).kpp ay).kp az).kpp av;replace ba:=(((ba.gr hC).kpp ay).kp az).kpp av;replace bb:=(((bb.gr hC).kpp ay).kp az).kpp av;replace am:=(((am.gr hC).kpp ay).kp az).kpp av;replace an:=(((an.gr hC).kpp ay).kp az).kpp av;replace ao:=(((ao.gr hC).kpp ay).kp az).kpp av;replace ap:=(((ap.gr hC).kpp ay).kp az).kpp av;replace aq:=(((aq.gr hC).kpp ay).kp az).kpp av;replace ah:=(((ah.gr hC).kpp ay).kp az).kpp av;replace ad:=(((ad.gr hC).kpp ay).kp az).kpp av;replace a3:=(((a3.gr hC).kpp ay).kp az).kpp av;replace a7:=(((a7.gr hC).kpp ay).kp az).kpp av;replace hb3:=(((hb3.gr hC).kpp ay).kp az).kpp av;replace ab:=(((ab.gr hC).kpp ay).kp az).kpp av;replace ac:=(((ac.gr hC).kpp ay).kp az).kpp av;replace aa:=(((aa.grow hC).kpp ay).kp az hx).kpp av;intro hy hC;replace hC:Zf (Zi cq (Xd cp 22 (Zi bk bq))) cq (Zi cq (Xd cp 22 (Zi bk bq))) hy:=.of_below hC.below;refine go ?_;replace a7:=a7.gr hC;refine lV _ (Xb isAgg39 sizeOf39 a7) ?_;replace cf:=(cf.kpp av).gr hC;refine lV _ (Xb isAgg39 sizeOf39 cf)<|lV (.agg #[.bool cb,.slice dp cc.length dq,.slice dr cd.length ds,.bool bi.1.1,.slice e6 bi.1.2.length e7,.slice e8 bi.2.length e9]) (Yo (l:=[_,_]) (qs:=[(0,3),(3,3)]) underlying68 zeroValue68 ⟨rfl,sizeOf39,rfl,sizeOf39,trivial⟩ rfl) ?_;replace ai:=ai.gr hC;replace ai:=ai.froz 21;replace aj:=aj.gr hC;replace aj:=aj.froz 21;replace ak:=ak.gr hC;replace ak:=ak.froz 21;replace al:=al.gr hC;replace al:=al.froz 21;replace a9:=a9.gr hC;replace a9:=a9.froz 21 (by decide);replace ba:=ba.gr hC;replace ba:=ba.froz 21 (by decide);replace bm:=bm.gr hC;replace bm:=bm.froz 21;replace bn:=bn.gr hC;replace bn:=bn.froz 21;replace am:=am.gr hC;replace am:=am.froz 21;replace an:=an.gr hC;replace an:=an.froz 21 (by decide);replace ao:=ao.gr hC;replace ao:=ao.froz 21 (by decide);replace ap:=ap.gr hC;replace ap:=ap.froz 21 (by decide);replace aq:=aq.gr hC;replace aq:=aq.froz 21 (by decide);replace ah:=ah.gr hC;replace ah:=ah.froz 21 (by decide);replace bo:=bo.gr hC;replace bo:=bo.froz 21 (by decide);replace bp:=bp.gr hC;replace bp:=(bp).toSlF (Zg.int .u32);replace bb:=bb.gr hC
     replace bb:=bb.froz 21 (by decide);replace ad:=ad.gr hC;replace ad:=ad.froz 21 (by decide);replace a3:=a3.gr hC;replace a3:=a3.froz 21 (by decide);replace a7:=a7.froz 21 (by decide);replace hb3:=hb3.gr hC;replace hb3:=hb3.froz 21 (by decide);replace ab:=ab.gr hC;replace ab:=ab.froz 21 (by decide);replace ac:=ac.gr hC;replace ac:=ac.froz 21 (by decide);replace cf:=cf.froz 21 (by decide);replace aa:=aa.grow hC;replace aa:=aa.froz 21 (by decide) (by decide);replace ai:=ai.froz 20;replace aj:=aj.froz 20;replace ak:=ak.froz 20;replace al:=al.froz 20;replace a9:=a9.froz 20 (by decide);replace ba:=ba.froz 20 (by decide);replace bm:=bm.froz 20;replace bn:=bn.froz 20;replace am:=am.froz 20;replace an:=an.froz 20 (by decide);replace ao:=ao.froz 20 (by decide);replace ap:=ap.froz 20 (by decide);replace aq:=aq.froz 20 (by decide);replace ah:=ah.froz 20 (by decide);replace bo:=(bo).toSlF (Zg.int .u32);replace bp:=bp.froz 20;replace bb:=bb.froz 20 (by decide);replace ad:=ad.froz 20 (by decide);replace a3:=a3.froz 20 (by decide);replace a7:=a7.froz 20 (by decide);replace hb3:=hb3.froz 20 (by decide);replace ab:=ab.froz 20 (by decide);replace ac:=ac.froz 20 (by decide);replace cf:=cf.froz 20 (by decide);replace aa:=aa.froz 20 (by decide) (by decide);refine Sy (col:=(Xn 20 (Xn 21 (Zi cq (Xd cp 22 (Zi bk bq)))))) (r:=(Za.pair (Za.pair (Za.pair Za.bool (Za.slice (Za.int .u32))) (Za.slice (Za.int .u32))) (Za.pair (Za.pair Za.bool (Za.slice (Za.int .u32))) (Za.slice (Za.int .u32))))) (xs:=[(((cb,cc),cd),((bi.1.1,bi.1.2),bi.2))]) [(.agg #[.bool cb,.slice dp cc.length dq,.slice dr cd.length ds,.bool bi.1.1,.slice e6 bi.1.2.length e7,.slice e8 bi.2.length e9])] 23 (Wb.ofF (Rows.consF (r:=(Za.pair (Za.pair (Za.pair Za.bool (Za.slice (Za.int .u32))) (Za.slice (Za.int .u32))) (Za.pair (Za.pair Za.bool (Za.slice (Za.int .u32))) (Za.slice (Za.int .u32))))) (x:=(((cb,cc),cd),((bi.1.1,bi.1.2),bi.2))) (cs:=[.bool cb,.slice dp cc.length dq,.slice dr cd.length ds,.bool bi.1.1,.slice e6 bi.1.2.length e7,.slice e8 bi.2.length e9]) (Qf (Qf (Qf (Tx cb) (Zaz bm)) (Zaz bn)) (Qf (Qf (Tx bi.1.1) (Zaz bo)) (Zaz bp))) Rows.nil0)) ?_;intro jv jw jx a0 hz;obtain ⟨h0,hm⟩:=Z6 hm;replace bb:=bb.gr a0
     refine U3 bb (hz.srcN (NB.pair (NB.pair (NB.pair NB.bool NB.slice) NB.slice) (NB.pair (NB.pair NB.bool NB.slice) NB.slice))) h0 ?_;intro jy jz j0 j1 a5 fb;refine go ?_;replace cf:=(cf.gr a0).kpp a5;refine lV _ (Xb isAgg39 sizeOf39 cf) ?_;replace a7:=(a7.gr a0).kpp a5;refine Zw a7 ?_;intro j2 a8 h2 h3;refine go ?_;replace ai:=((ai.gr a0).kpp a5).kp a8;replace aj:=((aj.gr a0).kpp a5).kp a8;replace ak:=((ak.gr a0).kpp a5).kp a8;replace al:=((al.gr a0).kpp a5).kp a8;replace a9:=((a9.gr a0).kpp a5).kp a8;replace ba:=((ba.gr a0).kpp a5).kp a8;replace am:=((am.gr a0).kpp a5).kp a8;replace an:=((an.gr a0).kpp a5).kp a8;replace ao:=((ao.gr a0).kpp a5).kp a8;replace ap:=((ap.gr a0).kpp a5).kp a8;replace aq:=((aq.gr a0).kpp a5).kp a8;replace ah:=((ah.gr a0).kpp a5).kp a8;replace bo:=((bo.gr a0).kpp a5).kp a8;replace bp:=((bp.gr a0).kpp a5).kp a8;replace ad:=((ad.gr a0).kpp a5).kp a8;replace a3:=((a3.gr a0).kpp a5).kp a8;replace hb3:=((hb3.gr a0).kpp a5).kp a8;replace ab:=((ab.gr a0).kpp a5).kp a8;replace ac:=((ac.gr a0).kpp a5).kp a8;replace aa:=((aa.grow a0).kpp a5).kp a8 h2;replace fb:=fb.kp a8;exact ⟨dw,by omega,rfl,⟨_,_,_,_,_,_,_,_,_,_,_,_,_,rfl,hm,aa,ai,aj,ak,al,ad,a9,ba,a3,bo,bp,h3,fb,am,hb3,ab,an,ao,ap,aq,ac,ah,rfl⟩⟩
    refine lM (.func (.func 119) #[] #[.pointer (some ⟨g3,0,none⟩)])<|go ?_;obtain ⟨fc,h4,hm⟩:=bZ hm;refine lc rfl rfl (Zwl call119 rfl rfl rfl) (Zyu (Xn 17 ae) _ 999 (by decide) c3 ef eg d9 g3 b2 c0 c2 (bb.toSlF (Zg.pair (Zg.pair (Zg.pair Zg.bool Zg.slice) Zg.slice) (Zg.pair (Zg.pair Zg.bool Zg.slice) Zg.slice))) (am.froz 17) (hb3.froz 17 (by decide)) fc h4) ?_;rintro _ h5 ⟨rfl,br⟩;refine ⟨_,rfl,?_⟩;replace br:Zf ae af ae h5:=.of_below br;refine go ?_;replace bb:=bb.gr br;replace am:=am.gr br;replace an:=an.gr br;replace ao:=ao.gr br;replace ap:=ap.gr br;replace aq:=aq.gr br;replace ah:=ah.gr br;replace ad:=ad.gr br;replace hb3:=hb3.gr br;replace ab:=ab.gr br;replace ac:=ac.gr br;replace aa:=aa.grow br;refine Zq hm (fun hb hm=>go ?_) fun hb hm=>go ?_
    ·refine lV (.agg #[.bool false,.slice none (([]:List Int).length) 0,.slice none (([]:List Int).length) 0,.bool false,.slice none (([]:List Int).length) 0,.slice none (([]:List Int).length) 0]) (Yo (l:=[_,_]) (qs:=[(0,3),(3,3)]) underlying68 zeroValue68 ⟨rfl,sizeOf39,rfl,sizeOf39,trivial⟩ rfl)<|Q6 rfl<|Zw ac ?_;intro j3 h6 h7 h8;refine go ?_;cases hm;replace aa:=aa.kp h6 h7;exact ⟨rfl,_,Zm1 rfl rfl rfl rfl isAgg68 sizeOf68 rfl rfl h8.atN rfl rfl,_,none,0,none,0,none,0,none,0,none,0,rfl,aa.fin (cm []),Zc.nil,Sl.nil,Sl.nil,Sl.nil,Sl.nil⟩
    obtain ⟨dx,fd,hm⟩:=bZ hm;refine lI fd (bb.addr fd) ?_;obtain ⟨_,h9,ia⟩:=bb.atN fd;obtain ⟨_,_,rfl,ib,ic⟩:=h9.parts;obtain ⟨_,_,rfl,id,ie⟩:=ib.parts;obtain ⟨_,_,rfl,ig,ih⟩:=id.parts;obtain rfl:=ig.bool;obtain ⟨ii,ij,rfl,fe⟩:=ih.slice;obtain ⟨ik,il,rfl,ff⟩:=ie.slice;obtain ⟨_,_,rfl,im,io⟩:=ic.parts;obtain ⟨_,_,rfl,ip,iq⟩:=im.parts;obtain rfl:=ip.bool;obtain ⟨ir,it,rfl,fg⟩:=iq.slice;obtain ⟨iu,iv,rfl,fh⟩:=io.slice;refine lV (.agg #[.bool dx.1.1.1,.slice ii dx.1.1.2.length ij,.slice ik dx.1.2.length il,.bool dx.2.1.1,.slice ir dx.2.1.2.length it,.slice iu dx.2.2.length iv]) (Xt isAgg68 sizeOf68 rfl rfl ia) ?_;obtain ⟨j4,fi,hm⟩:=bZ hm;refine lI fi (ah.addr fi) ?_;obtain ⟨fj,ek,hm⟩:=bZ hm;have ek:fj=b9.set (Int.toNat c3) fc:=(Option.some.inj ek).symm;refine Y7 (x1:=fc) ah fi ?_;intro j5 bs iw el;rw [← ek] at el;refine .ld (d:=9) (v:=(.slice dl fj.length dm)) (congrArg (fun n=>Value.slice dl n dm) (show b9.length=fj.length by rw [ek,nS])) ?_;replace ad:=ad.kp bs;refine Zw ad ?_;intro j6 bt ix iy;refine go ?_;replace am:=(am.kp bs).kp bt;replace an:=(an.kp bs).kp bt;replace ao:=(ao.kp bs).kp bt;replace ap:=(ap.kp bs).kp bt;replace aq:=(aq.kp bs).kp bt;replace fe:=(fe.kp bs).kp bt;replace ff:=(ff.kp bs).kp bt;replace fg:=(fg.kp bs).kp bt;replace fh:=(fh.kp bs).kp bt;replace hb3:=(hb3.kp bs).kp bt;replace ab:=(ab.kp bs).kp bt;replace ac:=(ac.kp bs).kp bt;replace aa:=(aa.kp bs iw).kp bt ix;replace el:=el.kp bt;exact ⟨eu.length,by simp,rfl,⟨_,_,_,_,_,_,_,_,_,_,_,_,_,_,_,_,_,_,_,_,_,_,_,_,_,_,_,_,_,_,_,_,_,_,_,_,_,rfl,ge,hm,aa,fe,ff,fg,fh,iy,am,hb3,ab,an,ao,ap,aq,ac,el,(Ys (congrArg (Value.int .i64) (Yp (Nat.lt_of_lt_of_le gf (h1.ks aa).1.1))) rfl)⟩⟩
  | cons j7 iz=>
   obtain ⟨dn,i0,i1⟩:=Ym hl;have hk:(d7:Int)<(d6.length:Int):=by omega
   have hkb:=decide_eq_true hk;rw [Zbc.eq_2] at hm;refine go ?_;refine Yc (congrArg Value.bool hkb)<|go ?_;refine lI dn (c4.addr dn)<|lW (c4.atInt dn) ?_;refine go ?_;refine Un (col:=a2) (by kernel_rfl) (by kernel_rfl)<|go ?_;refine qF ⟨_,_,rfl⟩ ?_;refine qW (fun _ hC=>((ab.atN).nth (q:=2) rfl).gr (hC.bl a2)) ?_;refine go ?_;obtain ⟨j8,fk,hm⟩:=bZ hm;refine qI fk ((cu.ks aa).addr fk) ?_;obtain ⟨_,i2,i3⟩:=(cu.ks aa).atN fk;obtain ⟨⟨j9,ka,rfl,kb⟩,_⟩:=i2;refine qW (fun _ hC=>i3.one.gr (hC.bl a2)) ?_;refine go ?_;obtain ⟨kc,fl,hm⟩:=bZ hm;refine qI fl (ah.addr fl)<|qW (fun _ hC=>(ah.gr (hC.bl a2)).atInt fl) ?_;refine go ?_;refine Wv ?_;intro kd hC;replace hC:=hC.bl a2;refine go ?_;replace ai:=ai.gr hC;replace aj:=aj.gr hC;replace ak:=ak.gr hC;replace al:=al.gr hC;replace am:=am.gr hC;replace c4:=c4.gr hC;replace an:=an.gr hC;replace ao:=ao.gr hC;replace ap:=ap.gr hC;replace aq:=aq.gr hC;replace ah:=ah.gr hC;replace ad:=ad.gr hC;replace hb3:=hb3.gr hC;replace ab:=ab.gr hC;replace ac:=ac.gr hC;replace aa:=aa.grow hC;exact ⟨iz.length,by simp,rfl,⟨_,_,_,_,rfl,i0,hm,aa,ai,aj,ak,al,ad,am,hb3,ab,c4,an,ao,ap,aq,ac,ah,(Ys (congrArg (Value.int .i64) (Yp (Nat.lt_of_lt_of_le i1 c4.1.1))) rfl)⟩⟩
def Zcg (N:Nat) (aa:R1):Option R1:=
  (V4 N ((aa.1.1,aa.1.2),aa.2) ((false,([]:List Int)),([]:List Int))).bind fun ab=>some ((ab.1.1,ab.1.2),ab.2)
theorem Zq9 {N aj ak:Nat} {al am:Option Addr} {col:Ze} {w0:World} {ab r:R1} (c1 c2:Nat) (hm:Zcg N ab=some r) (ac:Sl (Za.int .u32) col w0 al aj ab.1.2) (ad:Sl (Za.int .u32) col w0 am ak ab.2):
    Calls prog 120 #[(.agg #[.bool ab.1.1,.slice al ab.1.2.length aj,.slice am ab.2.length ak])] w0 (fun e w'=>∃ (col':Ze) (ra1:Option Addr) (rc2:Nat) (ra4:Option Addr) (rc5:Nat),e= .returned ((.agg #[.bool r.1.1,.slice ra1 r.1.2.length rc2,.slice ra4 r.2.length rc5]))∧Zf col w0 col' w'∧Zc (Za.int .u32) 95 c1 col' w' ra1 rc2 r.1.2∧Zc (Za.int .u32) 95 c2 col' w' ra4 rc5 r.2):=by
 refine Y2 (m:=6) func120 rfl rfl rfl ?_;rw [Zcg.eq_1] at hm;have aa:=St.start col w0;refine go ?_;refine Xv (col:=(Zk col)) 1 rfl ?_;intro aw ax ap aq ae;refine Xj (col:=ap) #[.bool false,.slice none (([]:List Int).length) 0,.slice none (([]:List Int).length) 0] 2 zeroValue39 ?_;intro ay az a0 an af;refine go ?_;replace ae:=ae.gr an;refine lV _ (Xb isAgg39 sizeOf39 ae)<|lV (.agg #[.bool false,.slice none (([]:List Int).length) 0,.slice none (([]:List Int).length) 0]) (Yo (l:=[_,_]) (qs:=[(0,2),(2,1)]) underlying39 zeroValue39 ⟨rfl,sizeOf37,rfl,sizeOf35,trivial⟩ rfl) ?_;obtain ⟨a1,ar,hm⟩:=bZ hm;replace ac:=ac.keep (Zl.start col w0);replace ad:=ad.keep (Zl.start col w0);replace aa:=(aa.grow aq).grow an;refine Zh (Zb2 3 4 ar (ac.ks aa) (ad.ks aa) Sl.nil Sl.nil) ?_;rintro _ a2 ⟨a3,a4,a5,a6,a7,rfl,ao,ag,ah⟩;refine ⟨_,rfl,?_⟩;replace af:=af.gr ao;refine Zw af ?_;intro a8 ai au av;refine go ?_;cases hm;replace aa:=(aa.grow ao).kp ai au;replace ag:=ag.kp ai;replace ah:=ah.kp ai;exact ⟨rfl,_,ra av.atN,_,_,_,_,_,rfl,aa.fin (cm [(3,c1),(4,c2)]),aa.fo ag,aa.fo ah⟩

end Go.Proofs.YtkhnlgdenkikoaaGreat
