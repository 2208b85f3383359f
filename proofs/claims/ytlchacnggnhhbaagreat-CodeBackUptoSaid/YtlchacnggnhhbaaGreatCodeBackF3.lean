/-
  What functions of the program compute, as plain Lean functions (m_..), and proofs that they compute it (c_..). Printed by a program of the author; no conditions.
-/
import Derived.Test.YtlchacnggnhhbaaGreatCodeBackBFloat
import Derived.Test.YtlchacnggnhhbaaGreatProg
import Derived.Test.YtlchacnggnhhbaaGreatCodeBackBBrief
import Derived.Test.YtlchacnggnhhbaaGreatCodeBackBThree
import Derived.Test.YtlchacnggnhhbaaGreatCodeBackF2
set_option linter.unusedVariables false
set_option maxRecDepth 100000
set_option maxHeartbeats 20000000
namespace Go.Proofs.YtlchacnggnhhbaaGreat
open Go Go.RowKit
open Go.IntKind (i8 i16 i32 i64 u8 u16 u32 u64)
open Go.Proofs.Tryz

theorem Zxi (N:Nat) (a:List Int) (hb:a.length≤1099511627776):∀ (n j:Nat),j≤a.length→Zbi N a n (j:Int)=Sb N n (a.take j)
 | 0,j,_=>rfl
 | n+1,j,hj=>by
  have hl:(a.take j).length=j:=by rw [List.length_take];omega
  have ht:0<j→Zp (a.take j) ((j - 1:Nat):Int)=Zp a ((j - 1:Nat):Int):=fun h=>by rw [Zhn,Zhn,List.getElem?_take,if_pos (by omega)]
  rw [Zbi.eq_2,Sb.eq_2,hl]
  by_cases h0:0<j
  ·have e:(j:Int) - 1=((j - 1:Nat):Int):=by omega
   rw [if_pos (decide_eq_true (by omega)),if_pos (decide_eq_true (by omega)),Zv (by omega),e,ht h0,Z9 (by omega),Option.bind_some,Option.bind_some,Zgq,Zbe,hl,Zv (by omega),e,Int.toNat_natCast,Int.toNat_natCast]
   by_cases hx:a[j - 1]=0
   ·rw [if_pos (decide_eq_true hx),if_pos (decide_eq_true hx),Xg (by omega),Zxi N a hb n (j - 1) (by omega),List.take_take,Nat.min_eq_left (by omega)]
   ·rw [if_neg (by rw [decide_eq_false hx];decide),if_neg (by rw [decide_eq_false hx];decide),Xg (by omega),Xg (by rw [hl];simp only [List.length_nil,maxLen];omega),List.nil_append]
  ·have:j=0:=by omega
   subst this
   rw [if_neg (by decide),if_neg (by decide),Zgq,Zbe,if_neg (by decide),if_neg (by decide),Xg (by omega)]
   exact Xg (by simp [maxLen])
theorem U1 {N:Nat} {a:List Int} (h:Zn a) (hn:a.length<N) (hb:a.length≤1099511627776):Vz N a=some (Zd (Zb a)):=by
 rw [Vz,Zxi N a hb N a.length (Nat.le_refl _),List.take_length]
 exact Zm7 N N a h hn (by omega)
theorem Zxj {N:Nat} {u:Int} (h:0≤u∧u<18446744073709551616) (hn:2<N):Zgr N u=some (Zd u.toNat):=by
 have e1:u32.wrap (Int.tmod u 4294967296)=u % 4294967296:=by rw [Int.tmod_eq_emod_of_nonneg h.1,V7 (by omega)]
 have e2:u32.wrap (u64.wrap (Int.tdiv u 4294967296))=u / 4294967296:=by rw [Int.tdiv_eq_ediv_of_nonneg h.1,Xi (by omega),V7 (by omega)]
 have hl:Zn [u % 4294967296,u / 4294967296]:=.cons (by omega) (.cons (by omega) .nil)
 have e:Zb [u % 4294967296,u / 4294967296]=u.toNat:=by rw [Y8,Y8,Yh];omega
 rw [Zgr,e1,e2,U1 hl (by simpa using hn) (by simp),Option.bind_some,e]
theorem Zde {a:List Int} (h:Zn a) (k:Nat):Qn a (k:Int)=some ((Xn a k:Nat):Int):=by
 rw [Qn]
 by_cases hk:k<a.length
 ·have:=h.get hk
  rw [if_pos (decide_eq_true (by omega)),Z9 hk,Option.bind_some,Xi (by omega),Xn,List.getD_eq_getElem?_getD,List.getElem?_eq_getElem hk,Option.getD_some]
  congr 1;omega
 ·rw [if_neg (by rw [decide_eq_false (by omega)];decide),Xn,List.getD_eq_getElem?_getD,List.getElem?_eq_none (by omega)];rfl
theorem Zjh {a:List Int} (h:Zn a) (k:Nat):Zb (a.take k)<4294967296 ^ k:=by
 have h1:=S7 (h.take k)
 refine Nat.lt_of_lt_of_le h1 (Nat.pow_le_pow_right (by decide) ?_)
 rw [List.length_take];omega
theorem Zp9 (N:Nat) (a b:List Int) (ha:Zn a) (hb:Zn b):∀ (n i:Nat),i<4611686018427387904→i<n→Zb (a.drop i)=Zb (b.drop i)→Zd1 N a b n ((i:Int) - 1)=some (if Zb a<Zb b then -1 else if Zb b<Zb a then 1 else 0)
 | 0,i,_,h,_=>by omega
 | n+1,i,hi,hn,he=>by
  rw [Zd1.eq_2]
  by_cases h0:i=0
  ·subst h0
   rw [if_neg (by decide)]
   rw [List.drop_zero,List.drop_zero] at he
   rw [if_neg (by omega),if_neg (by omega)]
  ·have e:(i:Int) - 1=((i - 1:Nat):Int):=by omega
   have e1:i - 1+1=i:=by omega
   rw [if_pos (decide_eq_true (by omega)),e,Zde ha,Zde hb,Option.bind_some,Option.bind_some]
   have va:=Ux a (i - 1)
   have vb:=Ux b (i - 1)
   rw [Uo a,e1] at va
   rw [Uo b,e1,← he] at vb
   have la:=Zjh ha (i - 1)
   have lb:=Zjh hb (i - 1)
   have key:∀ x y:Nat,x<y→4294967296 ^ (i - 1) * (x+4294967296 * Zb (a.drop i))+4294967296 ^ (i - 1)≤4294967296 ^ (i - 1) * (y+4294967296 * Zb (a.drop i)):=fun x y hxy=>by
    rw [← Nat.mul_succ];exact Nat.mul_le_mul_left _ (by omega)
   generalize 4294967296 ^ (i - 1)=Q at *
   by_cases hlt:Xn a (i - 1)<Xn b (i - 1)
   ·have:=key _ _ hlt
    rw [if_pos (decide_eq_true (by omega)),if_pos (by omega)]
   ·rw [if_neg (by rw [decide_eq_false (by omega)];decide)]
    by_cases hgt:Xn b (i - 1)<Xn a (i - 1)
    ·have:=key _ _ hgt
     rw [if_pos (decide_eq_true (by omega)),if_neg (by omega),if_pos (by omega)]
    ·rw [if_neg (by rw [decide_eq_false (by omega)];decide),Zv (by omega)]
     exact Zp9 N a b ha hb n (i - 1) (by omega) (by omega) (by rw [Uo a,Uo b,e1,he];omega)
theorem Zqa {N:Nat} {a b:List Int} (ha:Zn a) (hb:Zn b) (h1:a.length<N) (h2:b.length<N) (h3:a.length≤1099511627776) (h4:b.length≤1099511627776):
  Zd0 N a b=some (if Zb a<Zb b then -1 else if Zb b<Zb a then 1 else 0):=by
 have dz:∀ (l:List Int) (k:Nat),l.length≤k→Zb (l.drop k)=0:=fun l k h=>by rw [List.drop_eq_nil_of_le h];rfl
 rw [Zd0]
 by_cases h:a.length<b.length
 ·rw [if_pos (decide_eq_true (by omega)),Zgl,Zv (by omega)]
  exact Zp9 N a b ha hb N b.length (by omega) h2 (by rw [dz a _ (by omega),dz b _ (by omega)])
 ·rw [if_neg (by rw [decide_eq_false (by omega)];decide),Zgl,Zv (by omega)]
  exact Zp9 N a b ha hb N a.length (by omega) h1 (by rw [dz a _ (by omega),dz b _ (by omega)])
theorem Zqr {s:Int} (h:0≤s∧s<18446744073709551616):u32.wrap (Int.tmod s 4294967296)=((s.toNat % 4294967296:Nat):Int):=by
 rw [Int.tmod_eq_emod_of_nonneg h.1,V7 (by omega)];omega
theorem Zqq {s:Int} (h:0≤s∧s<18446744073709551616):u64.wrap (Int.tdiv s 4294967296)=((s.toNat / 4294967296:Nat):Int):=by
 rw [Int.tdiv_eq_ediv_of_nonneg h.1,Xi (by omega)];omega
theorem Zpt {S Q A B C:Nat} (h:A=B+4294967296 * C):S+Q * B+Q * 4294967296 * C=S+Q * A:=by
 subst h;grind
theorem Zws (N:Nat) (a b:List Int) (ha:Zn a) (hb:Zn b) (hN:a.length+b.length+2<N) (hs:a.length+b.length<1099511627000):∀ (n i:Nat) (out:List Int) (c:Nat),out.length=i→Zn out→c≤1→i≤a.length+b.length+2→(i≤a.length+b.length+1∨c=0)→a.length+b.length+3≤n+i→
  S4 N a b n out (c:Int) (i:Int)=some (Zd (Zb out+4294967296 ^ i * (c+Zb (a.drop i)+Zb (b.drop i))))
 | 0,i,out,c,_,_,_,h1,_,h2=>by omega
 | n+1,i,out,c,ho,hO,hc,h1,h2,h3=>by
  have go:(i<a.length∨i<b.length∨0<c)→Zis a b out (c:Int) (i:Int) (S4 N a b n)=some (Zd (Zb out+4294967296 ^ i * (c+Zb (a.drop i)+Zb (b.drop i)))):=fun hgo=>by
   have la:=Zdd ha i
   have lb:=Zdd hb i
   have es:u64.wrap (u64.wrap ((c:Int)+((Xn a i:Nat):Int))+((Xn b i:Nat):Int))=((c+Xn a i+Xn b i:Nat):Int):=by
    rw [Xi (x:=(c:Int)+_) (by omega),Xi (by omega)];omega
   rw [Zis,Zde ha,Zde hb,Option.bind_some,Option.bind_some,es,Zqr (by omega),Zqq (by omega),Int.toNat_natCast]
   generalize hsum:c+Xn a i+Xn b i=s
   rw [Xg (by simp only [List.length_singleton,maxLen];omega),Zv (by omega)]
   have ih:=Zws N a b ha hb hN hs n (i+1) (out++[((s % 4294967296:Nat):Int)]) (s / 4294967296) (by simp [ho]) (hO.app (.cons (by omega) .nil)) (by omega) (by omega) (by
    by_cases hi:i<a.length∨i<b.length
    ·omega
    ·right
     have za:Xn a i=0:=by rw [Xn,List.getD_eq_getElem?_getD,List.getElem?_eq_none (by omega)];rfl
     have zb:Xn b i=0:=by rw [Xn,List.getD_eq_getElem?_getD,List.getElem?_eq_none (by omega)];rfl
     omega) (by omega)
   rw [show ((i+1:Nat):Int)=(i:Int)+1 by omega] at ih
   rw [ih,Sg,ho,Y8,Yh,Int.toNat_natCast,Uo a i,Uo b i,Nat.pow_succ]
   congr 2
   rw [Nat.mul_zero,Nat.add_zero]
   refine Zpt ?_
   omega
  rw [S4.eq_2]
  by_cases hia:i<a.length
  ·rw [if_pos (decide_eq_true (by omega)),Zcn,if_pos rfl];exact go (.inl hia)
  ·rw [if_neg (by rw [decide_eq_false (by omega)];decide)]
   by_cases hib:i<b.length
   ·rw [if_pos (decide_eq_true (by omega)),Zcn,if_pos rfl];exact go (.inr (.inl hib))
   ·rw [if_neg (by rw [decide_eq_false (by omega)];decide),Zcn]
    by_cases hcp:0<c
    ·rw [if_pos (decide_eq_true (by omega))];exact go (.inr (.inr hcp))
    ·have:c=0:=by omega
     subst this
     rw [if_neg (by decide),U1 hO (by omega) (by omega),Option.bind_some,List.drop_eq_nil_of_le (by omega),List.drop_eq_nil_of_le (by omega),Yh]
     simp
theorem Zwt {N:Nat} {a b:List Int} (ha:Zn a) (hb:Zn b) (hN:a.length+b.length+3<N) (hs:a.length+b.length<1099511627000):Zgj N a b=some (Zd (Zb a+Zb b)):=by
 have:=Zws N a b ha hb (by omega) hs N 0 [] 0 rfl .nil (by omega) (by omega) (by omega) (by omega)
 rw [List.drop_zero,List.drop_zero,Yh,Nat.pow_zero] at this
 rw [Zgj,show (0:Int)=((0:Nat):Int) from rfl,this]
 simp
theorem Zxs (N:Nat) (a b:List Int) (ha:Zn a) (hb:Zn b) (hN:a.length<N) (hs:a.length<1099511627776):∀ (n i:Nat) (out:List Int) (c:Nat),out.length=i→Zn out→c≤1→i≤a.length→a.length<n+i→c+Zb (b.drop i)≤Zb (a.drop i)→
  Qm N a b n out (c:Int) (i:Int)=some (Zd (Zb out+4294967296 ^ i * (Zb (a.drop i) - (c+Zb (b.drop i)))),true)
 | 0,i,out,c,_,_,_,h1,h2,_=>by omega
 | n+1,i,out,c,ho,hO,hc,h1,h2,h3=>by
  rw [Qm.eq_2]
  by_cases hi:i<a.length
  ·have la:=Zdd ha i
   have lb:=Zdd hb i
   rw [Uo a i,Uo b i] at h3
   have go:∀ (c':Nat) (x:Int),c'≤1→x=((Xn a i+4294967296 * c':Nat):Int)→Xn b i+c≤Xn a i+4294967296 * c'→Xn a i+4294967296 * c'<Xn b i+c+4294967296→Zgs out (c:Int) (i:Int) (Qm N a b n) ((Xn b i:Nat):Int) (c':Int) x=some (Zd (Zb out+4294967296 ^ i * (Zb (a.drop i) - (c+Zb (b.drop i)))),true):=fun c' x hc' hx h5 h6=>by
    have ev:u32.wrap (u64.wrap (x - u64.wrap (((Xn b i:Nat):Int)+(c:Int))))=((Xn a i+4294967296 * c' - (Xn b i+c):Nat):Int):=by
     rw [Xi (x:=((Xn b i:Nat):Int)+(c:Int)) (by omega),Xi (by omega),V7 (by omega)];omega
    rw [Zgs,ev,Xg (by simp only [List.length_singleton,maxLen];omega),Zlb,Zv (by omega)]
    generalize hv:Xn a i+4294967296 * c' - (Xn b i+c)=v
    have ih:=Zxs N a b ha hb hN hs n (i+1) (out++[(v:Int)]) c' (by simp [ho]) (hO.app (.cons (by omega) .nil)) hc' (by omega) (by omega) (by omega)
    rw [show ((i+1:Nat):Int)=(i:Int)+1 by omega] at ih
    rw [ih,Sg,ho,Y8,Yh,Int.toNat_natCast,Uo a i,Uo b i,Nat.pow_succ,Nat.mul_zero,Nat.add_zero]
    congr 3
    refine Zpt ?_
    omega
   rw [if_pos (decide_eq_true (by omega)),Zde ha,Zde hb,Option.bind_some,Option.bind_some,Xi (x:=((Xn b i:Nat):Int)+(c:Int)) (by omega)]
   by_cases hlt:Xn a i<Xn b i+c
   ·rw [if_pos (decide_eq_true (by omega))]
    exact go 1 _ (by omega) (by rw [Xi (by omega)];omega) (by omega) (by omega)
   ·rw [if_neg (by rw [decide_eq_false (by omega)];decide)]
    exact go 0 _ (by omega) (by omega) (by omega) (by omega)
  ·rw [if_neg (by rw [decide_eq_false (by omega)];decide),U1 hO (by omega) (by omega),Option.bind_some]
   rw [List.drop_eq_nil_of_le (show a.length≤i by omega),Yh] at h3 ⊢
   rw [show 0 - (c+Zb (b.drop i))=0 by omega]
   simp
theorem Zjv {N:Nat} {a b:List Int} (ha:Zn a) (hb:Zn b) (h1:a.length<N) (h2:b.length<N) (h3:a.length<1099511627776) (h4:b.length<1099511627776):
  Zco N a b=some (if Zb a<Zb b then ([],false) else (Zd (Zb a - Zb b),true)):=by
 rw [Zco,Zqa ha hb h1 h2 (by omega) (by omega),Option.bind_some]
 by_cases h:Zb a<Zb b
 ·rw [if_pos h,if_pos (by decide),if_pos h]
 ·have:=Zxs N a b ha hb h1 h3 N 0 [] 0 rfl .nil (by omega) (by omega) (by omega) (by simpa using Nat.le_of_not_lt h)
  rw [if_neg h,if_neg (by split <;> decide),if_neg h,show (0:Int)=((0:Nat):Int) from rfl,this]
  simp [Yh]
theorem Zxe (N:Nat) (a b:List Int) (ha:Zn a) (hb:Zn b) (i:Nat) (hi:i<a.length) (kk:List Int→Int→Option R2):∀ (n j:Nat) (p:List Int) (c:Nat),j≤b.length→b.length<n+j→i+b.length<p.length→p.length<4611686018427387904→Zn p→c<4294967296→Zb (p.drop (i+b.length))=0→
  ∃ p',Zla N a b (i:Int) kk n (j:Int) p (c:Int)=kk p' ((i:Int)+1)∧p'.length=p.length∧Zn p'∧Zb p'=Zb p+4294967296 ^ (i+j) * (c+Xn a i * Zb (b.drop j))∧Zb (p'.drop (i+b.length+1))=0
 | 0,j,p,c,h1,h2,_,_,_,_,_=>by omega
 | n+1,j,p,c,h1,h2,hp,hs,hL,hc,hz=>by
  rw [Zla.eq_2]
  by_cases hj:j<b.length
  ·have hij:i+j<p.length:=by omega
   have gp:=hL.get hij
   have ga:=ha.get hi
   have gb:=hb.get hj
   have ea:Xn a i=(a[i]).toNat:=by rw [Xn,List.getD_eq_getElem?_getD,List.getElem?_eq_getElem hi,Option.getD_some]
   have hm:a[i] * b[j]≤4294967295 * 4294967295:=Int.mul_le_mul (by omega) (by omega) (by omega) (by omega)
   have hm0:0≤a[i] * b[j]:=Int.mul_nonneg ga.1 gb.1
   have em:(((a[i]).toNat * (b[j]).toNat:Nat):Int)=a[i] * b[j]:=by rw [Int.natCast_mul,Int.toNat_of_nonneg ga.1,Int.toNat_of_nonneg gb.1]
   have es:u64.wrap (u64.wrap ((c:Int)+u64.wrap (u64.wrap a[i] * u64.wrap b[j]))+u64.wrap p[i+j])=((c+((a[i]).toNat * (b[j]).toNat+(p[i+j]).toNat):Nat):Int):=by
    rw [Xi (x:=a[i]) (by omega),Xi (x:=b[j]) (by omega),Xi (x:=a[i] * b[j]) (by omega),Xi (x:=p[i+j]) (by omega),Xi (x:=(c:Int)+_) (by omega),Xi (by omega)]
    omega
   rw [if_pos (decide_eq_true (by omega)),Z9 hi,Option.bind_some,Z9 hj,Option.bind_some,Zv (x:=(i:Int)+(j:Int)) (by omega),show (i:Int)+(j:Int)=((i+j:Nat):Int) by omega,Z9 hij,Option.bind_some,Option.bind_some,Int.toNat_natCast,es]
   have hsb:c+((a[i]).toNat * (b[j]).toNat+(p[i+j]).toNat)<18446744073709551616:=by omega
   rw [Zqr (by omega),Zqq (by omega),Int.toNat_natCast,Zv (x:=(j:Int)+1) (by omega),show (j:Int)+1=((j+1:Nat):Int) by omega]
   generalize hS:c+((a[i]).toNat * (b[j]).toNat+(p[i+j]).toNat)=S at *
   obtain ⟨p',q1,q2,q3,q4,q5⟩:=Zxe N a b ha hb i hi kk n (j+1) (p.set (i+j) ((S % 4294967296:Nat):Int)) (S / 4294967296) (by omega) (by omega) (by rw [List.length_set];exact hp) (by rw [List.length_set];exact hs) (hL.set _ (by omega)) (by omega) (by rw [Qb _ (by omega)];exact hz)
   refine ⟨p',q1,by rw [q2,List.length_set],q3,?_,q5⟩
   rw [q4,← Nat.add_assoc i j 1,Nat.pow_succ,Ue hj,ea]
   exact Zu7 _ _ _ _ _ _ (p[i+j]).toNat (S % 4294967296) _ _ (by have:=Uw hij ((S % 4294967296:Nat):Int);rw [Int.toNat_natCast] at this;exact this) (by omega)
  ·have:j=b.length:=by omega
   subst this
   have hz':=drop_zero hL hp hz
   rw [if_neg (by rw [decide_eq_false (by omega)];decide),Zv (x:=(i:Int)+(b.length:Int)) (by omega),show (i:Int)+(b.length:Int)=((i+b.length:Nat):Int) by omega,Z9 hp,Option.bind_some,Option.bind_some,Int.toNat_natCast,V7 (by omega),Zv (by omega)]
   refine ⟨_,rfl,by rw [List.length_set],hL.set _ (by omega),?_,?_⟩
   ·have h1:=Uw hp (c:Int)
    rw [hz'.1,Int.toNat_natCast] at h1
    rw [List.drop_length,Yh,Nat.mul_zero,Nat.add_zero]
    simpa using h1
   ·rw [Qb _ (by omega)];exact hz'.2
theorem Zxd (N:Nat) (a b:List Int) (ha:Zn a) (hb:Zn b) (hN:a.length+b.length<N) (hs:a.length+b.length<1099511627776):∀ (n i:Nat) (p:List Int),i≤a.length→a.length<n+i→p.length=a.length+b.length→Zn p→Zb (p.drop (i+b.length))=0→
  Ziw N a b n p (i:Int)=some (Zd (Zb p+4294967296 ^ i * (Zb (a.drop i) * Zb b)))
 | 0,i,p,h1,h2,_,_,_=>by omega
 | n+1,i,p,h1,h2,hp,hL,hz=>by
  rw [Ziw.eq_2]
  by_cases hi:i<a.length
  ·obtain ⟨p',q1,q2,q3,q4,q5⟩:=Zxe N a b ha hb i hi (Ziw N a b n) N 0 p 0 (by omega) (by omega) (by omega) (by omega) hL (by omega) hz
   rw [show ((0:Nat):Int)=0 from rfl] at q1
   have ih:=Zxd N a b ha hb hN hs n (i+1) p' (by omega) (by omega) (by omega) q3 (by rw [show i+1+b.length=i+b.length+1 by omega];exact q5)
   rw [show ((i+1:Nat):Int)=(i:Int)+1 by omega] at ih
   rw [if_pos (decide_eq_true (by omega)),q1,ih,q4,Uo a i,Nat.pow_succ,List.drop_zero]
   congr 2
   simp only [Nat.add_zero,Nat.zero_add]
   grind
  ·rw [if_neg (by rw [decide_eq_false (by omega)];decide),U1 hL (by omega) (by omega),Option.bind_some,List.drop_eq_nil_of_le (by omega),Yh];simp
theorem Zxf {N:Nat} {a b:List Int} (ha:Zn a) (hb:Zn b) (h1:a.length+b.length<N) (h3:a.length+b.length<1099511627776):Zgp N a b=some (Zd (Zb a * Zb b)):=by
 have la:=Xz ha
 have lb:=Xz hb
 rw [Zgp,U1 ha (by omega) (by omega),Option.bind_some,U1 hb (by omega) (by omega),Option.bind_some,Zv (by omega),Xg (by simp only [maxLen];omega)]
 have:=Zxd N (Zd (Zb a)) (Zd (Zb b)) (Zy _) (Zy _) (by omega) (by omega) N 0 (List.replicate (Int.toNat (((Zd (Zb a)).length:Int)+((Zd (Zb b)).length:Int))) 0) (by omega) (by omega) (by rw [List.length_replicate];omega) (.zeros _) (by rw [List.drop_replicate];exact Uy _)
 rw [show ((0:Nat):Int)=0 from rfl] at this
 rw [this,Uy,List.drop_zero,Zx,Zx]
 simp
theorem Zww (N:Nat):∀ (n:Nat) (c:Int) (t:Nat),Z6 t<n→t<4294967296→0≤c∧c+(Z6 t:Int)≤4611686018427387904→Zdz N n c (t:Int)=some (c+(Z6 t:Int))
 | 0,c,t,h,_,_=>by omega
 | n+1,c,t,h,ht,hc=>by
  rw [Zdz.eq_2]
  have hb:Z6 t≤32:=Vk.2 (by omega)
  by_cases h0:0<t
  ·have e:u32.wrap (Int.tdiv (t:Int) 2)=((t / 2:Nat):Int):=by rw [Int.tdiv_eq_ediv_of_nonneg (by omega),V7 (by omega)];omega
   have hs:=Zhq t 1
   rw [Nat.pow_one] at hs
   have h1:1≤Z6 t:=by rw [Z6,if_neg (by omega)];omega
   rw [if_pos (decide_eq_true (by omega)),e,Zv (by omega),Zww N n (c+1) (t / 2) (by omega) (by omega) (by omega)]
   congr 1;omega
  ·have:t=0:=by omega
   subst this
   rw [if_neg (by decide),Zeu];simp
theorem Z4f {N:Nat} {a:List Int} (h:Zn a) (hn:a.length+32<N) (hb:a.length≤1099511627776):Zit N a=some ((Z6 (Zb a):Nat):Int):=by
 have hl:=Xz h
 rw [Zit,U1 h (by omega) hb,Option.bind_some]
 by_cases h0:(Zd (Zb a)).length=0
 ·have:Zb a=0:=Zfc.1 (List.eq_nil_of_length_eq_zero h0)
  rw [if_pos (decide_eq_true (by omega)),this,Zeu];rfl
 ·have hp:0<(Zd (Zb a)).length:=by omega
  have e:((Zd (Zb a)).length:Int) - 1=(((Zd (Zb a)).length - 1:Nat):Int):=by omega
  have hx:=(Zy (Zb a)).get (k:=(Zd (Zb a)).length - 1) (by omega)
  have hne:=Zkx hp
  have hs:=Zfa hp
  have e2:(Zd (Zb a))[(Zd (Zb a)).length - 1]=(((Zd (Zb a))[(Zd (Zb a)).length - 1]).toNat:Int):=by omega
  have hb2:Z6 ((Zd (Zb a))[(Zd (Zb a)).length - 1]).toNat≤32:=Vk.2 (by omega)
  rw [if_neg (by rw [decide_eq_false (by omega)];decide),Zv (by omega),e,Z9 (by omega),Option.bind_some,e2,Zv (by omega),Zww N N _ _ (by omega) (by omega) (by omega)]
  have hb:=Zrg (a:=(Zd (Zb a)).take ((Zd (Zb a)).length - 1)) (x:=(Zd (Zb a))[(Zd (Zb a)).length - 1]) ((Zy _).take _) (by omega)
  rw [hs,Zx,List.length_take,Nat.min_eq_left (by omega)] at hb
  rw [hb]
  congr 1
theorem Zrb (T l R k s:Nat) (hT:T<4294967296 ^ k) (hs:s<32):(T+4294967296 ^ k * (l+4294967296 * R)) / 2 ^ (32 * k+s) % 2=l / 2 ^ s % 2:=by
 have e:(4294967296:Nat) ^ k=2 ^ (32 * k):=by rw [show (4294967296:Nat)=2 ^ 32 by decide,← Nat.pow_mul]
 have hp:0<4294967296 ^ k:=Nat.pow_pos (by decide)
 rw [Nat.pow_add,← e,← Nat.div_div_eq_div_mul,Nat.add_mul_div_left _ _ hp,Nat.div_eq_of_lt hT,Nat.zero_add]
 have pw:(4294967296:Nat)=2 ^ s * (2 * 2 ^ (31 - s)):=by
  rw [Nat.mul_left_comm,← Nat.pow_add,show s+(31 - s)=31 by omega]
 have e2:l+4294967296 * R=l+2 ^ s * (2 * (2 ^ (31 - s) * R)):=by
  conv=>lhs;rw [pw]
  rw [Nat.mul_assoc,Nat.mul_assoc]
 rw [e2,Nat.add_mul_div_left _ _ (Nat.two_pow_pos s),Nat.add_mul_mod_self_left]
theorem Zwu {a:List Int} (h:Zn a) {i:Nat} (hi:i<4611686018427387904):Zgk a (i:Int)=some ((Zb a / 2 ^ i % 2:Nat):Int):=by
 have hl:=Zdd h (i / 32)
 have e1:i64.wrap (Int.tdiv (i:Int) 32)=((i / 32:Nat):Int):=by rw [Int.tdiv_eq_ediv_of_nonneg (by omega),Zv (by omega)];omega
 have e2:Int.tmod (i:Int) 32=((i % 32:Nat):Int):=by rw [Int.tmod_eq_emod_of_nonneg (by omega)];omega
 rw [Zgk,e1,Zde h,Option.bind_some,e2,Xg (by omega),Zjw _ _ _ (by simp only [IntKind.bits];omega)]
 have hd:=Nat.div_le_self (Xn a (i / 32)) (2 ^ (i % 32))
 have e3:=Zrb (Zb (a.take (i / 32))) (Xn a (i / 32)) (Zb (a.drop (i / 32+1))) (i / 32) (i % 32) (Zjh h _) (by omega)
 rw [← Uo a,← Ux,show 32 * (i / 32)+i % 32=i by omega] at e3
 rw [e3]
 generalize Xn a (i / 32) / 2 ^ (i % 32)=x at *
 rw [V7 (by omega),Int.tmod_eq_emod_of_nonneg (by omega)]
 congr 1
theorem Zwy (N:Nat) (a:List Int) (ha:Zn a) (hs:a.length<1099511627776):∀ (n i:Nat) (out:List Int) (c:Nat),out.length=i→Zn out→c≤1→i≤a.length→a.length<n+i→
  ∃ o,Zd5 N a n out (c:Int) (i:Int)=some o∧o.length≤a.length+1∧Zn o∧Zb o=Zb out+4294967296 ^ i * (c+2 * Zb (a.drop i))
 | 0,i,out,c,_,_,_,h1,h2=>by omega
 | n+1,i,out,c,ho,hO,hc,h1,h2=>by
  rw [Zd5.eq_2]
  by_cases hi:i<a.length
  ·have ga:=ha.get hi
   have es:u64.wrap ((c:Int)+u64.wrap (2 * u64.wrap a[i]))=((c+2 * (a[i]).toNat:Nat):Int):=by
    rw [Xi (x:=a[i]) (by omega),Xi (x:=2 * _) (by omega),Xi (by omega)];omega
   rw [if_pos (decide_eq_true (by omega)),Z9 hi,Option.bind_some,es,Zqr (by omega),Zqq (by omega),Int.toNat_natCast]
   generalize hS:c+2 * (a[i]).toNat=S
   rw [Xg (by simp only [List.length_singleton,maxLen];omega),Zv (by omega)]
   obtain ⟨o,q1,q2,q3,q4⟩:=Zwy N a ha hs n (i+1) (out++[((S % 4294967296:Nat):Int)]) (S / 4294967296) (by simp [ho]) (hO.app (.cons (by omega) .nil)) (by omega) (by omega) (by omega)
   rw [show ((i+1:Nat):Int)=(i:Int)+1 by omega] at q1
   refine ⟨o,q1,q2,q3,?_⟩
   rw [q4,Sg,ho,Y8,Yh,Int.toNat_natCast,Ue hi,Nat.pow_succ,Nat.mul_zero,Nat.add_zero]
   refine Zpt ?_
   omega
  ·have hia:i=a.length:=by omega
   rw [if_neg (by rw [decide_eq_false (by omega)];decide)]
   by_cases hcp:0<c
   ·rw [if_pos (decide_eq_true (by omega)),Xg (by simp only [List.length_singleton,maxLen];omega),Zgu,V7 (by omega)]
    refine ⟨_,rfl,by simp;omega,hO.app (.cons (by omega) .nil),?_⟩
    rw [Sg,ho,Y8,Yh,Int.toNat_natCast,List.drop_eq_nil_of_le (by omega),Yh]
   ·have:c=0:=by omega
    subst this
    rw [if_neg (by decide),Zgu]
    refine ⟨_,rfl,by omega,hO,?_⟩
    rw [List.drop_eq_nil_of_le (by omega),Yh];simp
theorem Zwz {N:Nat} {a:List Int} {c:Nat} (ha:Zn a) (hc:c≤1) (hN:a.length<N) (hs:a.length<1099511627776):∃ o,Zgt N a (c:Int)=some o∧o.length≤a.length+1∧Zn o∧Zb o=2 * Zb a+c:=by
 obtain ⟨o,q1,q2,q3,q4⟩:=Zwy N a ha hs N 0 [] c rfl .nil hc (by omega) (by omega)
 refine ⟨o,?_,q2,q3,?_⟩
 ·rw [Zgt,Xi (by omega)];exact q1
 ·rw [q4,Yh,Nat.pow_zero,List.drop_zero];omega
theorem Z13 (Q e o2 r S v L:Nat) (h:r * 4294967296+e=2 * v+o2) (hS:S=Q * (o2+2 * (v+4294967296 * L))):S=Q * e+Q * 4294967296 * (r+2 * L):=by
 subst hS
 have:Q * (r * 4294967296+e)=Q * (2 * v+o2):=by rw [h]
 grind
theorem Zxc (N:Nat) (a:List Int) (ha:Zn a) (hN:a.length<N) (hs:a.length<1099511627776):∀ (n j:Nat) (out:List Int) (r:Nat),out.length=a.length→Zn out→r≤1→j≤a.length→j<n→Zb (out.take j)=0→
  ∃ v,Zd6 N a n out (r:Int) ((j:Int) - 1)=some (Zd v)∧∃ ρ,ρ≤1∧2 * v+ρ=Zb (a.take j)+4294967296 ^ j * (r+2 * Zb (out.drop j))
 | 0,j,out,r,_,_,_,_,h,_=>by omega
 | n+1,j,out,r,ho,hO,hr,hj,hn,hz=>by
  rw [Zd6.eq_2]
  by_cases h0:j=0
  ·subst h0
   rw [if_neg (by decide),U1 hO (by omega) (by omega),Option.bind_some]
   refine ⟨_,rfl,r,hr,?_⟩
   rw [List.take_zero,Yh,List.drop_zero,Nat.pow_zero];omega
  ·have e:(j:Int) - 1=((j - 1:Nat):Int):=by omega
   have e1:j - 1+1=j:=by omega
   have hk:j - 1<a.length:=by omega
   have g:=ha.get hk
   have es:u64.wrap (u64.wrap ((r:Int) * 4294967296)+u64.wrap a[j - 1])=((r * 4294967296+(a[j - 1]).toNat:Nat):Int):=by
    rw [Xi (x:=a[j - 1]) (by omega),Xi (x:=(r:Int) * 4294967296) (by omega),Xi (by omega)];omega
   rw [if_pos (decide_eq_true (by omega)),e,Z9 hk,Option.bind_some,Z9 (by omega),Option.bind_some,Option.bind_some,Int.toNat_natCast,es,Zv (by omega)]
   generalize hS:r * 4294967296+(a[j - 1]).toNat=S
   have e2:u32.wrap (u64.wrap (Int.tdiv (S:Int) 2))=((S / 2:Nat):Int):=by rw [Int.tdiv_eq_ediv_of_nonneg (by omega),Xi (by omega),V7 (by omega)];omega
   have e3:Int.tmod (S:Int) 2=((S % 2:Nat):Int):=by rw [Int.tmod_eq_emod_of_nonneg (by omega)];omega
   have zt:Zb (out.take (j - 1))=0:=by
    have:=Ux (out.take j) (j - 1)
    rw [List.take_take,Nat.min_eq_left (by omega),hz] at this
    omega
   rw [e2,e3]
   obtain ⟨v,q1,ρ,q2,q3⟩:=Zxc N a ha hN hs n (j - 1) (out.set (j - 1) ((S / 2:Nat):Int)) (S % 2) (by rw [List.length_set];exact ho) (hO.set _ (by omega)) (by omega) (by omega) (by omega) (by rw [Zc5 _ (Nat.le_refl _)];exact zt)
   refine ⟨v,q1,ρ,q2,?_⟩
   rw [q3]
   have t1:=Zpn hk
   have t2:Zb ((out.set (j - 1) ((S / 2:Nat):Int)).drop (j - 1))=S / 2+4294967296 * Zb (out.drop (j - 1+1)):=by
    rw [Ue (by rw [List.length_set];omega),List.getElem_set_self,Qb _ (by omega),Int.toNat_natCast]
   rw [e1] at t1 t2
   have hp:(4294967296:Nat) ^ j=4294967296 ^ (j - 1) * 4294967296:=by rw [← Nat.pow_succ,show (j - 1).succ=j by omega]
   rw [t1,t2,hp,Nat.add_assoc]
   congr 1
   exact Z13 _ _ (S % 2) _ _ (S / 2) _ (by omega) rfl
theorem Zm0 {N:Nat} {a:List Int} (ha:Zn a) (hN:a.length<N) (hs:a.length<1099511627776):Zcq N a=some (Zd (Zb a / 2)):=by
 obtain ⟨v,q1,ρ,q2,q3⟩:=Zxc N a ha hN hs N a.length (List.replicate a.length 0) 0 (by rw [List.length_replicate]) (.zeros _) (by omega) (Nat.le_refl _) hN (by rw [List.take_replicate];exact Uy _)
 rw [Zcq,Xg (by simp only [maxLen];omega),Zv (by omega)]
 rw [List.take_length,List.drop_replicate,Uy] at q3
 refine Eq.trans q1 ?_
 rw [show v=Zb a / 2 by omega]
theorem Z3h {a:List Int} (h:Zn a):Zb a % 2=Xn a 0 % 2:=by
 have:=Uo a 0
 rw [List.drop_zero] at this
 omega
theorem Zmz {a:List Int} (h:Zn a):Zcp a=some (decide (Zb a % 2=0)):=by
 rw [Zcp,Z3h h]
 by_cases h0:a.length=0
 ·have:a=[]:=List.eq_nil_of_length_eq_zero h0
  subst this
  rfl
 ·have g:=h.get (k:=0) (by omega)
  have ea:Xn a 0=(a[0]).toNat:=by rw [Xn,List.getD_eq_getElem?_getD,List.getElem?_eq_getElem (by omega),Option.getD_some]
  rw [if_neg (by rw [decide_eq_false (by omega)];decide),show (0:Int)=((0:Nat):Int) from rfl,Z9 (by omega),Option.bind_some,Zix,Int.tmod_eq_emod_of_nonneg (by omega),ea]
  congr 1
  exact decide_eq_decide.2 (by omega)
theorem Z3r {q:List Int} (hq:Zn q) {i:Nat} (hi:i<32 * q.length) (hd:2 ^ (i+1) ∣ Zb q):
  ∃ x:Nat,Zp q ((i / 32:Nat):Int)=some (x:Int)∧u32.wrap ((x:Int)+Xp .u32 1 ((i % 32:Nat):Int))=((x+2 ^ (i % 32):Nat):Int)∧x+2 ^ (i % 32)<4294967296∧Zb (q.set (i / 32) ((x+2 ^ (i % 32):Nat):Int))=Zb q+2 ^ i:=by
 have hk:i / 32<q.length:=by omega
 have g:=hq.get hk
 have hs:i % 32<32:=Nat.mod_lt _ (by decide)
 have hp:=Nat.two_pow_pos (i % 32)
 have e32:(4294967296:Nat) ^ (i / 32)=2 ^ (32 * (i / 32)):=by rw [show (4294967296:Nat)=2 ^ 32 by decide,← Nat.pow_mul]
 have eb:(4294967296:Nat)=2 ^ (i % 32+1) * 2 ^ (31 - i % 32):=by rw [← Nat.pow_add,show i % 32+1+(31 - i % 32)=32 by omega]
 have pi:(2:Nat) ^ (i+1)=4294967296 ^ (i / 32) * 2 ^ (i % 32+1):=by rw [e32,← Nat.pow_add];congr 1;omega
 have pi0:(2:Nat) ^ i=4294967296 ^ (i / 32) * 2 ^ (i % 32):=by rw [e32,← Nat.pow_add];congr 1;omega
 have sp:=Ux q (i / 32)
 rw [Ue hk] at sp
 have tl:=Zjh hq (i / 32)
 have hQ:0<4294967296 ^ (i / 32):=Nat.pow_pos (by decide)
 rw [pi] at hd
 -- the limb's lower bits are none
 have hx:2 ^ (i % 32+1) ∣ (q[i / 32]).toNat:=by
  have d1:4294967296 ^ (i / 32) ∣ Zb q:=Nat.dvd_trans ⟨_,rfl⟩ hd
  have d2:4294967296 ^ (i / 32) ∣ Zb (q.take (i / 32)):=by
   rw [sp] at d1
   exact (Nat.dvd_add_left ⟨_,rfl⟩).1 d1
  have z:Zb (q.take (i / 32))=0:=Nat.eq_zero_of_dvd_of_lt d2 tl
  rw [z,Nat.zero_add] at sp
  rw [sp] at hd
  have d3:=Nat.dvd_of_mul_dvd_mul_left hQ hd
  have d4:2 ^ (i % 32+1) ∣ 4294967296 * Zb (q.drop (i / 32+1)):=by
   conv=>rhs;rw [eb]
   exact ⟨2 ^ (31 - i % 32) * Zb (q.drop (i / 32+1)),by rw [Nat.mul_assoc]⟩
  exact (Nat.dvd_add_left d4).1 d3
 obtain ⟨y,hy⟩:=hx
 have hlt:(q[i / 32]).toNat+2 ^ (i % 32)<4294967296:=by
  have h1:2 ^ (i % 32+1) * y<2 ^ (i % 32+1) * 2 ^ (31 - i % 32):=by rw [← hy,← eb];omega
  have h2:=Nat.lt_of_mul_lt_mul_left h1
  have h3:=Nat.mul_le_mul_left (2 ^ (i % 32+1)) (show y+1≤2 ^ (31 - i % 32) from h2)
  rw [← eb,Nat.mul_add,← hy,Nat.pow_succ] at h3
  omega
 refine ⟨(q[i / 32]).toNat,by rw [Z9 hk];congr 1;omega,?_,hlt,?_⟩
 ·rw [show (1:Int)=((1:Nat):Int) from rfl,Zqm hs (.inl rfl),Nat.one_mul,V7 (x:=((2 ^ (i % 32):Nat):Int)) (by omega),V7 (by omega)]
  omega
 ·have h1:=Uw hk (((q[i / 32]).toNat+2 ^ (i % 32):Nat):Int)
  rw [Int.toNat_natCast,Nat.mul_add,← pi0] at h1
  omega
theorem Zqc (N:Nat) (a y:List Int) (ha:Zn a) (hy:Zn y) (hy0:0<Zb y) (hly:y.length+8<N) (hs:y.length<549755813888) (hla:a.length<549755813888) (hyc:(Zd (Zb y)).length=y.length) (hNa:a.length+y.length+8<N):∀ (n j:Nat) (r q:List Int),j<n→j<4611686018427387904→j≤32 * q.length→q.length≤a.length→Zn q→r=Zd (Zb r)→Zb r<Zb y→2 ^ j ∣ Zb q→Zb a / 2 ^ j=Zb q / 2 ^ j * Zb y+Zb r→
  Zbg N a y n r ((j:Int) - 1) q=some (Zd (Zb a / Zb y),Zd (Zb a % Zb y),0)
 | 0,j,r,q,h,_,_,_,_,_,_,_,_=>by omega
 | n+1,j,r,q,hjn,hj,hjq,hqa,hq,hr,hlt,hd,he=>by
  rw [Zbg.eq_2]
  by_cases h0:j=0
  ·subst h0
   rw [Nat.pow_zero,Nat.div_one,Nat.div_one] at he
   rw [if_neg (by decide),U1 hq (by omega) (by omega),Option.bind_some]
   have h1:Zb a / Zb y=Zb q:=by rw [he,Nat.mul_comm,Nat.mul_add_div hy0,Nat.div_eq_of_lt hlt,Nat.add_zero]
   have h2:Zb a % Zb y=Zb r:=by rw [he,Nat.mul_comm,Nat.mul_add_mod,Nat.mod_eq_of_lt hlt]
   rw [h1,h2,← hr]
  ·have e:(j:Int) - 1=((j - 1:Nat):Int):=by omega
   obtain ⟨i,rfl⟩:∃ i,j=i+1:=⟨j - 1,by omega⟩
   have ei:i+1 - 1=i:=by omega
   rw [e,ei]
   have hrl:r.length≤y.length:=by
    rw [hr,← hyc];exact Y2 (Nat.le_of_lt hlt)
   have hlr:Zn r:=by rw [hr];exact Zy _
   have hb:=Nat.mod_lt (Zb a / 2 ^ i) (show 0<2 by decide)
   obtain ⟨d,d1,d2,d3,d4⟩:=Zwz (N:=N) (a:=r) (c:=Zb a / 2 ^ i % 2) hlr (by omega) (by omega) (by omega)
   have h2:Zb a / 2 ^ i=2 * (Zb a / 2 ^ (i+1))+Zb a / 2 ^ i % 2:=by
    rw [Nat.pow_succ,← Nat.div_div_eq_div_mul];omega
   obtain ⟨qq,hqq⟩:=hd
   have hq1:Zb q / 2 ^ (i+1)=qq:=by rw [hqq,Nat.mul_div_cancel_left _ (Nat.two_pow_pos _)]
   have hq2:Zb q / 2 ^ i=2 * qq:=by rw [hqq,Nat.pow_succ,Nat.mul_assoc,Nat.mul_div_cancel_left _ (Nat.two_pow_pos _)]
   rw [hq1] at he
   rw [if_pos (decide_eq_true (by omega)),Zwu ha (by omega),Option.bind_some,d1,Option.bind_some,U1 d3 (by omega) (by omega),Option.bind_some,Zqa (Zy _) hy (by have:=Xz d3;omega) (by omega) (by have:=Xz d3;omega) (by omega),Option.bind_some,Zx,d4]
   rw [he] at h2
   have hkey:Zb a / 2 ^ i=2 * qq * Zb y+(2 * Zb r+Zb a / 2 ^ i % 2):=by
    have:2 * qq * Zb y=2 * (qq * Zb y):=Nat.mul_assoc _ _ _
    omega
   generalize hbit:Zb a / 2 ^ i % 2=b at *
   by_cases hge:Zb y≤2 * Zb r+b
   ·rw [if_pos (by rw [if_neg (by omega)];split <;> decide)]
    obtain ⟨x,x1,x2,x3,x4⟩:=Z3r hq (i:=i) (by omega) ⟨qq,hqq⟩
    have e1:i64.wrap (Int.tdiv (i:Int) 32)=((i / 32:Nat):Int):=by rw [Int.tdiv_eq_ediv_of_nonneg (by omega),Zv (by omega)];omega
    have e2:Int.tmod (i:Int) 32=((i % 32:Nat):Int):=by rw [Int.tmod_eq_emod_of_nonneg (by omega)];omega
    have ll:(Zd (2 * Zb r+b)).length≤y.length+1:=by rw [← d4];exact Nat.le_trans (Xz d3) (by omega)
    rw [Zjv (Zy _) hy (by omega) (by omega) (by omega) (by omega),Option.bind_some,Zx,if_neg (by omega),e1,e2,x1,Option.bind_some,Xg (by omega),x2,Option.bind_some,Int.toNat_natCast,Zgm,Zv (by omega)]
    have ih:=Zqc N a y ha hy hy0 hly hs hla hyc hNa n i (Zd (2 * Zb r+b - Zb y)) (q.set (i / 32) ((x+2 ^ (i % 32):Nat):Int)) (by omega) (by omega) (by rw [List.length_set];omega) (by rw [List.length_set];exact hqa) (hq.set _ ⟨Int.natCast_nonneg _,Int.ofNat_lt.2 x3⟩) (by rw [Zx]) (by rw [Zx];omega) (by
     rw [x4,hqq];exact Nat.dvd_add ⟨2 * qq,by rw [Nat.pow_succ,Nat.mul_assoc]⟩ (Nat.dvd_refl _)) (by
     have:Zb (q.set (i / 32) ((x+2 ^ (i % 32):Nat):Int)) / 2 ^ i=2 * qq+1:=by
      rw [x4,Nat.add_div_right _ (Nat.two_pow_pos _),hq2]
     rw [this,Zx,hkey,Nat.add_mul,Nat.one_mul];omega)
    exact ih
   ·rw [if_neg (by rw [if_pos (by omega)];decide),Zgm,Zv (by omega)]
    exact Zqc N a y ha hy hy0 hly hs hla hyc hNa n i (Zd (2 * Zb r+b)) q (by omega) (by omega) (by omega) hqa hq (by rw [Zx]) (by rw [Zx];omega) (by rw [hqq];exact ⟨2 * qq,by rw [Nat.pow_succ,Nat.mul_assoc]⟩) (by rw [hq2,Zx,hkey])
theorem Zqd {N:Nat} {a b:List Int} (ha:Zn a) (hb:Zn b) (hN:32 * a.length+(Zd (Zb b)).length+48<N) (hbN:b.length<N) (hs:a.length+(Zd (Zb b)).length<274877906944) (hbs:b.length≤1099511627776):
  Zd2 N a b=some (if Zb b=0 then ([],[],11) else (Zd (Zb a / Zb b),Zd (Zb a % Zb b),0)):=by
 have la:=Xz ha
 rw [Zd2,U1 hb (by omega) (by omega),Option.bind_some]
 by_cases h0:Zb b=0
 ·rw [h0,W2,if_pos (by decide),if_pos rfl]
 ·have hbp:=T8 h0
  have hbl:=(Zet (Zb a)).2
  rw [if_neg (by rw [decide_eq_false (by omega)];decide),if_neg h0,Z4f ha (by omega) (by omega),Option.bind_some]
  have e1:i64.wrap (Int.tdiv (i64.wrap (((Z6 (Zb a):Nat):Int)+31)) 32)=(((Z6 (Zb a)+31) / 32:Nat):Int):=by
   rw [Zv (x:=((Z6 (Zb a):Nat):Int)+31) (by omega),Int.tdiv_eq_ediv_of_nonneg (by omega),Zv (by omega)];omega
  rw [e1,Xg (by simp only [maxLen,Int.toNat_natCast];omega),Int.toNat_natCast,Zv (by omega)]
  have:=Zqc N a (Zd (Zb b)) ha (Zy _) (by rw [Zx];omega) (by omega) (by omega) (by omega) (by rw [Zx]) (by omega) N (Z6 (Zb a)) [] (List.replicate ((Z6 (Zb a)+31) / 32) 0) (by omega) (by omega) (by rw [List.length_replicate];omega) (by rw [List.length_replicate];omega) (.zeros _) (by rw [Yh,W2]) (by rw [Zx,Yh];omega) (by rw [Uy];exact ⟨0,rfl⟩) (by
   rw [Uy,Yh,Nat.zero_div,Nat.zero_mul]
   exact Nat.div_eq_of_lt (Vk.1 (Nat.le_refl _)))
  rw [Zx] at this
  exact this
theorem Z0z {x:Nat} (h:x % 2=1):Nat.Coprime 2 x:=by
 rw [Nat.coprime_iff_gcd_eq_one,Nat.gcd_rec,h,Nat.gcd_one_left]
theorem Ztt {x y k:Nat} (h:y % 2=1):Nat.gcd (2 ^ k * x) y=Nat.gcd x y:=by
 induction k with
 | zero=>rw [Nat.pow_zero,Nat.one_mul]
 | succ k ih=>rw [Nat.pow_succ,Nat.mul_comm (2 ^ k),Nat.mul_assoc,(Z0z h).gcd_mul_left_cancel,ih]
theorem Z11 {x y k:Nat} (h:x % 2=1):Nat.gcd x (2 ^ k * y)=Nat.gcd x y:=by
 rw [Nat.gcd_comm,Ztt h,Nat.gcd_comm]
theorem Zkd {x:Nat} (h:x≠0):1≤Z6 x:=by rw [Z6,if_neg h];omega
theorem Zkc (x:Nat):Z6 (x / 2)=Z6 x - 1:=by
 have:=Zhq x 1
 rwa [Nat.pow_one] at this
theorem Zhp {x y:Nat} (h:x≤y):Z6 x≤Z6 y:=Vk.2 (Nat.lt_of_le_of_lt h (Vk.1 (Nat.le_refl _)))
theorem Zho {M x:Nat} (h:(Zd x).length≤M):Z6 x≤32 * M:=by have:=(Zet x).2;omega
theorem Zt7 {x xo k:Nat} (h:x=2 ^ k * xo):xo≤x:=by
 rw [h]
 have:=Nat.mul_le_mul_right xo (Nat.two_pow_pos k)
 omega
section
variable {N M:Nat} (hN:100 * M+64<N) (hM:M<17179869200)
include hN hM
theorem Zxa (t:Nat):∀ (n i:Nat) (x:List Int),i≤t→t - i<n→t≤32 * M→Zn x→x.length+(t - i)≤33 * M→
  ∃ g,Zd4 N (t:Int) n x (i:Int)=some g∧Zn g∧Zb g=2 ^ (t - i) * Zb x∧g.length≤x.length+(t - i)
 | 0,i,x,_,h,_,_,_=>by omega
 | n+1,i,x,hi,hn,ht,hx,hl=>by
  rw [Zd4.eq_2]
  by_cases h0:i<t
  ·obtain ⟨d,d1,d2,d3,d4⟩:=Zwz (N:=N) (a:=x) (c:=0) hx (by omega) (by omega) (by omega)
   rw [show ((0:Nat):Int)=0 from rfl] at d1
   obtain ⟨g,g1,g2,g3,g4⟩:=Zxa t n (i+1) d (by omega) (by omega) ht d3 (by omega)
   rw [show ((i+1:Nat):Int)=(i:Int)+1 by omega] at g1
   rw [if_pos (decide_eq_true (by omega)),d1,Option.bind_some,Zv (by omega)]
   refine ⟨g,g1,g2,?_,by omega⟩
   rw [g3,d4,Nat.add_zero (2 * Zb x),← Nat.mul_assoc,← Nat.pow_succ]
   congr 2;omega
  ·have:i=t:=by omega
   subst this
   rw [if_neg (by rw [decide_eq_false (by omega)];decide)]
   exact ⟨x,rfl,hx,by simp,by omega⟩
theorem Zw9 (kk:List Int→List Int→Option R2) {x:Nat} (hx:(Zd x).length≤M):∀ (n y:Nat),y≠0→Z6 y<n→(Zd y).length≤M→
  ∃ yo k,y=2 ^ k * yo∧yo % 2=1∧Zam N kk (Zd x) n (Zd y)=kk (Zd (min x yo)) (Zd (max x yo - min x yo))
 | 0,y,_,h,_=>by omega
 | n+1,y,h0,hn,hy=>by
  have hp:=T8 h0
  rw [Zam.eq_2,if_pos (decide_eq_true (by omega)),Zmz (Zy _),Zx,Option.bind_some,Ziv]
  by_cases he:y % 2=0
  ·rw [if_pos (decide_eq_true he),Zm0 (Zy _) (by omega) (by omega),Option.bind_some,Zx]
   have hb:=Zkc y
   have h1:=Zkd h0
   obtain ⟨yo,k,e1,e2,e3⟩:=Zw9 kk hx n (y / 2) (by omega) (by omega) (Nat.le_trans (Y2 (Nat.div_le_self _ _)) hy)
   refine ⟨yo,k+1,?_,e2,e3⟩
   rw [Nat.pow_succ,Nat.mul_comm (2 ^ k),Nat.mul_assoc,← e1];omega
  ·rw [if_neg (by rw [decide_eq_false he];decide),Zqa (Zy _) (Zy _) (by omega) (by omega) (by omega) (by omega),Option.bind_some,Zx,Zx]
   refine ⟨y,0,by simp,by omega,?_⟩
   by_cases hxy:y<x
   ·rw [if_pos (by rw [if_neg (by omega),if_pos hxy];decide),Zgo,Zjv (Zy _) (Zy _) (by omega) (by omega) (by omega) (by omega),Option.bind_some,Zx,Zx,if_neg (by omega),Nat.min_eq_right (by omega),Nat.max_eq_left (by omega)]
   ·rw [if_neg (by split <;> (try split) <;> simp_all <;> omega),Zgo,Zjv (Zy _) (Zy _) (by omega) (by omega) (by omega) (by omega),Option.bind_some,Zx,Zx,if_neg (by omega),Nat.min_eq_left (by omega),Nat.max_eq_right (by omega)]
theorem Zw8 (kk:List Int→List Int→Option R2) {y:Nat}:∀ (n x:Nat),x≠0→Z6 x<n→(Zd x).length≤M→
  ∃ xo k,x=2 ^ k * xo∧xo % 2=1∧Zd3 N (Zd y) kk n (Zd x)=Zam N kk (Zd xo) N (Zd y)
 | 0,x,_,h,_=>by omega
 | n+1,x,h0,hn,hx=>by
  rw [Zd3.eq_2,Zmz (Zy _),Zx,Option.bind_some]
  by_cases he:x % 2=0
  ·rw [if_pos (decide_eq_true he),Zm0 (Zy _) (by omega) (by omega),Option.bind_some,Zx]
   have hb:=Zkc x
   have h1:=Zkd h0
   obtain ⟨xo,k,e1,e2,e3⟩:=Zw8 kk n (x / 2) (by omega) (by omega) (Nat.le_trans (Y2 (Nat.div_le_self _ _)) hx)
   refine ⟨xo,k+1,?_,e2,e3⟩
   rw [Nat.pow_succ,Nat.mul_comm (2 ^ k),Nat.mul_assoc,← e1];omega
  ·rw [if_neg (by rw [decide_eq_false he];decide)]
   exact ⟨x,0,by simp,by omega,rfl⟩
theorem Zxb (t:Nat) {n x y:Nat} (hx:x≠0) (hy:y≠0) (h:x % 2=1∨y % 2=1) (lx:(Zd x).length≤M) (ly:(Zd y).length≤M):
  ∃ x' y',Ud N (t:Int) (n+1) (Zd x) (Zd y)=Ud N (t:Int) n (Zd x') (Zd y')∧x' % 2=1∧y' % 2=0∧Nat.gcd x' y'=Nat.gcd x y∧(Zd x').length≤M∧(Zd y').length≤M∧(Z6 x'+Z6 y'≤Z6 x+Z6 y)∧(y % 2=0→Z6 x'+Z6 y'+1≤Z6 x+Z6 y):=by
 have hp:=T8 hy
 have bx:=Zho lx
 have by_:=Zho ly
 obtain ⟨xo,k,x1,x2,x3⟩:=Zw8 hN hM (Ud N (t:Int) n) (y:=y) N x hx (by omega) lx
 have lxo:=Zt7 x1
 obtain ⟨yo,l,y1,y2,y3⟩:=Zw9 hN hM (Ud N (t:Int) n) (x:=xo) (Nat.le_trans (Y2 lxo) lx) N y hy (by omega) ly
 have lyo:=Zt7 y1
 rw [Ud.eq_2,if_pos (decide_eq_true (by omega)),x3,y3]
 have mM:max xo yo≤max x y:=by omega
 have lM:(Zd (max x y)).length≤M:=by
  rcases Nat.le_total x y with h | h
  ·rw [Nat.max_eq_right h];exact ly
  ·rw [Nat.max_eq_left h];exact lx
 have bmm:Z6 (min xo yo)+Z6 (max xo yo - min xo yo)≤Z6 xo+Z6 yo:=by
  rcases Nat.le_total xo yo with h | h
  ·rw [Nat.min_eq_left h,Nat.max_eq_right h]
   have:=Zhp (Nat.sub_le yo xo);omega
  ·rw [Nat.min_eq_right h,Nat.max_eq_left h]
   have:=Zhp (Nat.sub_le xo yo);omega
 have b1:=Zhp lxo
 have b2:=Zhp lyo
 refine ⟨_,_,rfl,by omega,by omega,?_,Nat.le_trans (Y2 (by omega)) lM,Nat.le_trans (Y2 (by omega)) lM,by omega,fun hev=>?_⟩
 ·have g1:Nat.gcd (min xo yo) (max xo yo - min xo yo)=Nat.gcd xo yo:=by
   rcases Nat.le_total xo yo with h | h
   ·rw [Nat.min_eq_left h,Nat.max_eq_right h,Nat.gcd_sub_self_right h]
   ·rw [Nat.min_eq_right h,Nat.max_eq_left h,Nat.gcd_sub_self_right h,Nat.gcd_comm]
  rw [g1,x1,y1]
  rcases h with h | h
  ·have hk:k=0:=by
    rcases Nat.eq_zero_or_pos k with hk | hk
    ·exact hk
    ·obtain ⟨k',rfl⟩:∃ k',k=k'+1:=⟨k - 1,by omega⟩
     rw [x1,Nat.pow_succ,Nat.mul_comm (2 ^ k'),Nat.mul_assoc] at h;omega
   subst hk
   rw [Nat.pow_zero,Nat.one_mul,Z11 x2]
  ·have hl:l=0:=by
    rcases Nat.eq_zero_or_pos l with hk | hk
    ·exact hk
    ·obtain ⟨k',rfl⟩:∃ k',l=k'+1:=⟨l - 1,by omega⟩
     rw [y1,Nat.pow_succ,Nat.mul_comm (2 ^ k'),Nat.mul_assoc] at h;omega
   subst hl
   rw [Nat.pow_zero,Nat.one_mul,Ztt y2]
 ·have:yo≤y / 2:=by
   rcases Nat.eq_zero_or_pos l with hl | hl
   ·subst hl;rw [Nat.pow_zero,Nat.one_mul] at y1;omega
   ·obtain ⟨k',rfl⟩:∃ k',l=k'+1:=⟨l - 1,by omega⟩
    rw [y1,Nat.pow_succ,Nat.mul_comm (2 ^ k'),Nat.mul_assoc,Nat.mul_div_cancel_left _ (by decide)]
    have:=Nat.mul_le_mul_right yo (Nat.two_pow_pos k')
    omega
  have h3:=Zhp this
  rw [Zkc] at h3
  have h4:=Zkd hy
  omega
theorem Zw7 (t:Nat) (ht:t≤32 * M):∀ (n x y:Nat),x % 2=1→y % 2=0→Z6 x+Z6 y<n→(Zd x).length≤M→(Zd y).length≤M→
  ∃ g,Ud N (t:Int) n (Zd x) (Zd y)=some g∧Zn g∧Zb g=2 ^ t * Nat.gcd x y∧g.length≤33 * M
 | 0,x,y,_,_,h,_,_=>by omega
 | n+1,x,y,hx,hy,hn,lx,ly=>by
  by_cases h0:y=0
  ·subst h0
   rw [Ud.eq_2,W2,if_neg (by decide)]
   obtain ⟨g,g1,g2,g3,g4⟩:=Zxa hN hM t N 0 (Zd x) (by omega) (by omega) ht (Zy _) (by omega)
   rw [Zx,Nat.sub_zero] at g3
   exact ⟨g,g1,g2,by rw [g3,Nat.gcd_zero_right],by omega⟩
  ·obtain ⟨x',y',e1,e2,e3,e4,e5,e6,_,e7⟩:=Zxb hN hM t (n:=n) (by omega) h0 (.inl hx) lx ly
   have:=e7 hy
   obtain ⟨g,g1,g2,g3,g4⟩:=Zw7 t ht n x' y' e2 e3 (by omega) e5 e6
   exact ⟨g,by rw [e1,g1],g2,by rw [g3,e4],g4⟩
theorem Zw6:∀ (n x y t:Nat),x≠0→y≠0→Z6 x<n→t+Z6 x≤32 * M→(Zd x).length≤M→(Zd y).length≤M→
  ∃ g,Zbh N n (Zd x) (Zd y) (t:Int)=some g∧Zn g∧Zb g=2 ^ t * Nat.gcd x y∧g.length≤33 * M
 | 0,x,y,t,_,_,h,_,_,_=>by omega
 | n+1,x,y,t,hx,hy,hn,ht,lx,ly=>by
  have bx:=Zho lx
  have by_:=Zho ly
  have last:(x % 2=1∨y % 2=1)→∃ g,Ud N (t:Int) N (Zd x) (Zd y)=some g∧Zn g∧Zb g=2 ^ t * Nat.gcd x y∧g.length≤33 * M:=fun h=>by
   obtain ⟨N',hN'⟩:∃ N',N=N'+1:=⟨N - 1,by omega⟩
   obtain ⟨x',y',e1,e2,e3,e4,e5,e6,e7,_⟩:=Zxb hN hM t (n:=N') hx hy h lx ly
   obtain ⟨g,g1,g2,g3,g4⟩:=Zw7 hN hM t (by omega) N' x' y' e2 e3 (by omega) e5 e6
   refine ⟨g,?_,g2,by rw [g3,e4],g4⟩
   rw [← g1,← e1]
   congr 1
  rw [Zbh.eq_2,Zmz (Zy _),Zx,Option.bind_some]
  by_cases hxe:x % 2=0
  ·rw [if_pos (decide_eq_true hxe),Zmz (Zy _),Zx,Option.bind_some,Zgn]
   by_cases hye:y % 2=0
   ·rw [if_pos (decide_eq_true hye),Zm0 (Zy _) (by omega) (by omega),Option.bind_some,Zm0 (Zy _) (by omega) (by omega),Option.bind_some,Zx,Zx,Zv (by omega)]
    have hb:=Zkc x
    have h1:=Zkd hx
    obtain ⟨g,g1,g2,g3,g4⟩:=Zw6 n (x / 2) (y / 2) (t+1) (by omega) (by omega) (by omega) (by omega) (Nat.le_trans (Y2 (Nat.div_le_self _ _)) lx) (Nat.le_trans (Y2 (Nat.div_le_self _ _)) ly)
    rw [show ((t+1:Nat):Int)=(t:Int)+1 by omega] at g1
    refine ⟨g,g1,g2,?_,g4⟩
    rw [g3,Nat.pow_succ,Nat.mul_assoc,← Nat.gcd_mul_left]
    congr 2 <;> omega
   ·rw [if_neg (by rw [decide_eq_false hye];decide)]
    exact last (.inr (by omega))
  ·rw [if_neg (by rw [decide_eq_false hxe];decide),Zgn,if_neg (by decide)]
   exact last (.inl (by omega))
end
theorem Z4u {N M:Nat} {a b:List Int} (ha:Zn a) (hb:Zn b) (hla:a.length≤M) (hlb:b.length≤M) (hN:100 * M+64<N) (hM:M<17179869200):∃ g,Ziu N a b=some g∧Zn g∧Zb g=Nat.gcd (Zb a) (Zb b)∧g.length≤33 * M:=by
 have la:=Xz ha
 have lb:=Xz hb
 rw [Ziu,U1 ha (by omega) (by omega),Option.bind_some,U1 hb (by omega) (by omega),Option.bind_some]
 by_cases h1:Zb a=0
 ·rw [h1,W2,if_pos (by decide),Nat.gcd_zero_left]
  exact ⟨_,rfl,Zy _,Zx _,by omega⟩
 ·have p1:=T8 h1
  rw [if_neg (by rw [decide_eq_false (by omega)];decide)]
  by_cases h2:Zb b=0
  ·rw [h2,W2,if_pos (by decide),Nat.gcd_zero_right]
   exact ⟨_,rfl,Zy _,Zx _,by omega⟩
  ·have p2:=T8 h2
   have bx:=Zho (x:=Zb a) (by omega)
   rw [if_neg (by rw [decide_eq_false (by omega)];decide)]
   obtain ⟨g,g1,g2,g3,g4⟩:=Zw6 hN hM N (Zb a) (Zb b) 0 h1 h2 (by omega) (by omega) (by omega) (by omega)
   exact ⟨g,g1,g2,by rw [g3];simp,g4⟩
def Zul:Option R2:=
  some [1]
def Sd (N:Nat) (ab:R0):Option R2:=
  (Vz N ab.2).bind fun aa=>if (decide ((aa.length:Int)=0))=true then ((Zul).bind fun ac=>some ac) else (some aa)
def Zan (aa:List Int):Option R3:=
  some (false,aa)
def Zgv (aa:Bool) (ab:List Int):Option R3:=
  some (aa,ab)
def Tp (N:Nat) (ab:Bool) (ac:List Int):Option R3:=
  (Vz N ac).bind fun aa=>if ab=true then (Zgv (decide (0<(aa.length:Int))) aa) else (Zgv false aa)
theorem Zny {N ao:Nat} {a1:Option Addr} {col:Ze} {w0:World} {ap:Bool} {ah:R2} {r:R3} (c1:Nat) (hm:Tp N ap ah=some r) (h1:Sl (Za.int .u32) col w0 a1 ao ah):
    Calls Tryz.prog 140 #[.bool ap,.slice a1 ah.length ao] w0 (fun e w'=>∃ (col':Ze) (ra1:Option Addr) (rc2:Nat),e= .returned ((.agg #[.bool r.1,.slice ra1 r.2.length rc2]))∧Zg col w0 col' w'∧Zc (Za.int .u32) 77 c1 col' w' ra1 rc2 r.2):=by
 refine Yu (m:=16) func140 rfl rfl rfl ?_;rw [Tp.eq_1] at hm;have aa:=St.start col w0;refine go ?_;refine Xl (col:=(Zk col)) #[.bool false,.slice none (([]:List Int).length) 0] 1 zeroValue33 ?_;intro ax a4 a5 ay ac;refine go ?_;obtain ⟨ad,az,hm⟩:=bZ hm;replace h1:=h1.keep (Zl.start col w0);replace aa:=aa.grow ay;refine Zi (Ss 2 az (h1.ks aa)) ?_;rintro _ a6 ⟨a7,aq,ar,rfl,au,ab⟩;refine ⟨_,rfl,?_⟩;refine Sv rfl<|Zm<|Zw ?_;replace ac:=ac.gr au;replace aa:=aa.grow au;refine Wp.cutK [4,1000000] (fun f ae=>∃ af ai aj ak ag,Zgv ai ag=some r∧St w0 (Zk col) af ae∧Zc (Za.int .u32) 77 3 af ae aj ak ag∧Zo 33 1 af ae ax #[.bool ai,.slice aj ag.length ak]) ?_ ?_
 ·intro f ae hJ;obtain ⟨af,ai,aj,ak,ag,hm,aa,a0,ac⟩:=hJ;rw [Zgv.eq_1] at hm;refine Vp ?_;cases hm;exact ⟨rfl,_,ra ac.atN,_,_,_,rfl,aa.fin (cm [(3,c1)]),aa.fo a0⟩
 refine go ?_;refine X1 hm (fun al hm=>go ?_) fun al hm=>go ?_
 ·refine lV (.bool (decide (0<(ad.length:Int)))) (Xm (congrArg Value.bool al) rfl)<|Va rfl<|lV (.agg #[.bool (decide (0<(ad.length:Int))),.slice aq ad.length ar]) (Yk (l:=[_,_]) (qs:=[(0,1),(1,1)]) underlying33 zeroValue33 ⟨rfl,sizeOf4,rfl,sizeOf31,trivial⟩ rfl)<|Z2 ac ?_;intro a8 av a2 am;refine Zm ?_;replace ab:=ab.kp av;replace ab:=ab.recolSelf 3 (by decide);replace am:=am.recol 2 3 (by decide);replace aa:=aa.kp av a2;replace aa:=aa.recol 2 3 (by decide) (by decide);exact ⟨rfl,_,_,_,_,_,hm,aa,ab,am⟩
 refine lV (.bool false) (Xd (congrArg Value.bool al) rfl)<|Va rfl<|lV (.agg #[.bool false,.slice aq ad.length ar]) (Yk (l:=[_,_]) (qs:=[(0,1),(1,1)]) underlying33 zeroValue33 ⟨rfl,sizeOf4,rfl,sizeOf31,trivial⟩ rfl)<|Z2 ac ?_;intro a9 aw a3 an;refine Zm ?_;replace ab:=ab.kp aw;replace ab:=ab.recolSelf 3 (by decide);replace an:=an.recol 2 3 (by decide);replace aa:=aa.kp aw a3;replace aa:=aa.recol 2 3 (by decide) (by decide);exact ⟨rfl,_,_,_,_,_,hm,aa,ab,an⟩
def Zd7 (N:Nat) (aa:R3) (ab:R3):Option R3:=
  (Zgp N aa.2 ab.2).bind fun ad=>(Tp N (!decide (aa.1=ab.1)) ad).bind fun ac=>some (ac.1,ac.2)
def Zcr (N:Nat) (aa:R3) (ab:R3):Option R3:=
  if (decide (aa.1=ab.1))=true then ((Zgj N aa.2 ab.2).bind fun ag=>(Tp N aa.1 ag).bind fun ac=>some (ac.1,ac.2)) else ((Zco N aa.2 ab.2).bind fun ad=>if ad.2=true then ((Tp N aa.1 ad.1).bind fun ae=>some (ae.1,ae.2)) else ((Zco N ab.2 aa.2).bind fun ah=>(Tp N ab.1 ah.1).bind fun af=>some (af.1,af.2)))
def Zgx (N:Nat) (aa:R3):Option R3:=
  (Tp N aa.1 aa.2).bind fun ab=>some (ab.1,ab.2)
theorem Zrx {N ag:Nat} {ah:Option Addr} {col:Ze} {w0:World} {ab r:R3} (c1:Nat) (hm:Zgx N ab=some r) (ad:Sl (Za.int .u32) col w0 ah ag ab.2):
    Calls Tryz.prog 179 #[(.agg #[.bool ab.1,.slice ah ab.2.length ag])] w0 (fun e w'=>∃ (col':Ze) (ra1:Option Addr) (rc2:Nat),e= .returned ((.agg #[.bool r.1,.slice ra1 r.2.length rc2]))∧Zg col w0 col' w'∧Zc (Za.int .u32) 77 c1 col' w' ra1 rc2 r.2):=by
 refine Yu (m:=8) func179 rfl rfl rfl ?_;rw [Zgx.eq_1] at hm;have aa:=St.start col w0;refine go ?_;refine Xy (col:=(Zk col)) 1 rfl ?_;intro aq ar al am ac;refine Xl (col:=al) #[.bool false,.slice none (([]:List Int).length) 0] 2 zeroValue33 ?_;intro au av aw ai ae;refine go ?_;refine X8 ⟨_,_,rfl⟩ ?_;replace ac:=ac.gr ai;refine lW ((ac.atN).nth (q:=0) rfl)<|X3 ac ?_;obtain ⟨ax,an,hm⟩:=bZ hm;replace ad:=ad.keep (Zl.start col w0);replace aa:=(aa.grow am).grow ai;refine Zi (Zny 3 an (ad.ks aa)) ?_;rintro _ ay ⟨az,a0,a1,rfl,aj,af⟩;refine ⟨_,rfl,?_⟩;replace ae:=ae.gr aj;refine Z2 ae ?_;intro a2 ak ao ap;refine go ?_;cases hm;replace aa:=(aa.grow aj).kp ak ao;replace af:=af.kp ak;exact ⟨rfl,_,ra ap.atN,_,_,_,rfl,aa.fin (cm [(3,c1)]),aa.fo af⟩
def Zbk (N:Nat) (aa:R3) (ab:List Int):Option R0:=
  (Ziu N aa.2 ab).bind fun ac=>(Zd2 N aa.2 ac).bind fun ae=>(Zd2 N ab ac).bind fun af=>(Zgx N (aa.1,ae.1)).bind fun ad=>(Vz N af.1).bind fun ag=>some ((ad.1,ad.2),ag)
theorem Z0a {N a2 a3:Nat} {a4 a1:Option Addr} {col:Ze} {w0:World} {ai:R3} {ap:R2} {r:R0} (c1 c2:Nat) (hm:Zbk N ai ap=some r) (an:Sl (Za.int .u32) col w0 a4 a2 ai.2) (h1:Sl (Za.int .u32) col w0 a1 a3 ap):
    Calls Tryz.prog 171 #[(.agg #[.bool ai.1,.slice a4 ai.2.length a2]),.slice a1 ap.length a3] w0 (fun e w'=>∃ (col':Ze) (ra1:Option Addr) (rc2:Nat) (ra4:Option Addr) (rc5:Nat),e= .returned ((.agg #[.bool r.1.1,.slice ra1 r.1.2.length rc2,.slice ra4 r.2.length rc5]))∧Zg col w0 col' w'∧Zc (Za.int .u32) 77 c1 col' w' ra1 rc2 r.1.2∧Zc (Za.int .u32) 77 c2 col' w' ra4 rc5 r.2):=by
 refine Yu (m:=39) func171 rfl rfl rfl ?_;rw [Zbk.eq_1] at hm;have aa:=St.start col w0;refine go ?_;refine Xy (col:=(Zk col)) 1 rfl ?_;intro b1 b2 bd be ab;refine Xl (col:=bd) #[.bool false,.slice none (([]:List Int).length) 0,.slice none (([]:List Int).length) 0] 2 zeroValue35 ?_;intro b3 b4 b5 a5 aq;refine go ?_;refine X8 ⟨_,_,rfl⟩ ?_;replace ab:=ab.gr a5;refine lW ((ab.atN).nth (q:=1) rfl)<|Va rfl ?_;obtain ⟨b6,bf,hm⟩:=bZ hm;replace an:=an.keep (Zl.start col w0);replace h1:=h1.keep (Zl.start col w0);replace aa:=(aa.grow be).grow a5;refine Zi (Zz6 3 bf (an.ks aa) (h1.ks aa)) ?_;rintro _ bg ⟨ar,b7,b8,rfl,au,ao⟩;refine ⟨_,rfl,go ?_⟩;refine X8 ⟨_,_,rfl⟩ ?_;replace ab:=ab.gr au;refine lW ((ab.atN).nth (q:=1) rfl)<|Va rfl ?_;obtain ⟨ac,bh,hm⟩:=bZ hm;replace aa:=aa.grow au;refine Zi (Zrt 4 5 bh ((an.ks aa).froz 3) (ao.toSlF (Zh.int .u32))) ?_;rintro _ bi ⟨bj,av,aw,a6,a7,rfl,ad,aj,b9⟩;refine ⟨_,rfl,?_⟩;replace aj:=aj.thaw (Z0 .u32) ad ((Fz.refl (col:=ar)).froz 3) (by decide);replace ad:=ad.thawR (col:=ar);generalize Xa bg.heap.size ar bj=ax at *;refine lM (.tuple #[.slice av ac.1.length aw,.slice a6 ac.2.1.length a7,.int .i64 ac.2.2])<|lV (.slice av ac.1.length aw) (Xh rfl rfl)<|lV (.slice a6 ac.2.1.length a7) (Xh rfl rfl)<|lV (.int .i64 ac.2.2) (Xh rfl rfl)<|go ?_;obtain ⟨af,bk,hm⟩:=bZ hm;replace ao:=ao.gr ad;replace aa:=aa.grow ad;refine Zi (Zrt 6 7 bk ((h1.ks aa).froz 3) (ao.toSlF (Zh.int .u32))) ?_;rintro _ bm ⟨bn,a8,a9,ba,bb,rfl,ae,ak,ca⟩;refine ⟨_,rfl,?_⟩;replace ak:=ak.thaw (Z0 .u32) ae ((Fz.refl (col:=ax)).froz 3) (by decide);replace ae:=ae.thawR (col:=ax);generalize Xa bi.heap.size ax bn=ay at *;refine lM (.tuple #[.slice a8 af.1.length a9,.slice ba af.2.1.length bb,.int .i64 af.2.2])<|lV (.slice a8 af.1.length a9) (Xh rfl rfl)<|lV (.slice ba af.2.1.length bb) (Xh rfl rfl)<|lV (.int .i64 af.2.2) (Xh rfl rfl)<|go ?_;refine X8 ⟨_,_,rfl⟩ ?_;replace ab:=(ab.gr ad).gr ae
 refine lW ((ab.atN).nth (q:=0) rfl)<|Va rfl<|lV (.agg #[.bool ai.1,.slice av ac.1.length aw]) (Yk (l:=[_,_]) (qs:=[(0,1),(1,1)]) underlying33 zeroValue33 ⟨rfl,sizeOf4,rfl,sizeOf31,trivial⟩ rfl) ?_;obtain ⟨bc,bo,hm⟩:=bZ hm;replace aj:=aj.gr ae;refine Zi (Zrx 8 bo (aj.toSlF (Zh.int .u32))) ?_;rintro _ bp ⟨bq,br,bs,rfl,ag,al⟩;refine ⟨_,rfl,?_⟩;replace al:=al.thaw (Z0 .u32) ag ((Fz.refl (col:=ay)).froz 4) (by decide);replace ag:=ag.thawR (col:=ay);generalize Xa bm.heap.size ay bq=az at *;refine Va rfl ?_;obtain ⟨bt,bu,hm⟩:=bZ hm;replace ak:=ak.gr ag;refine Zi (Ss 9 bu (ak.toSlF (Zh.int .u32))) ?_;rintro _ cb ⟨bv,bw,bx,rfl,ah,am⟩;refine ⟨_,rfl,?_⟩;replace am:=am.thaw (Z0 .u32) ah ((Fz.refl (col:=az)).froz 6) (by decide);replace ah:=ah.thawR (col:=az);generalize Xa bp.heap.size az bv=cc at *;refine lV (.agg #[.bool bc.1,.slice br bc.2.length bs,.slice bw bt.length bx]) (Yk (l:=[_,_]) (qs:=[(0,2),(2,1)]) underlying35 zeroValue35 ⟨rfl,sizeOf33,rfl,sizeOf31,trivial⟩ rfl) ?_;replace aq:=((((aq.gr au).gr ad).gr ae).gr ag).gr ah;refine Z2 aq ?_;intro cd a0 bz b0;refine go ?_;cases hm;replace aa:=(((aa.grow ae).grow ag).grow ah).kp a0 bz;replace al:=(al.gr ah).kp a0;replace am:=am.kp a0;exact ⟨rfl,_,ra b0.atN,_,_,_,_,_,rfl,aa.fin (cm [(8,c1),(9,c2)]),aa.fo al,aa.fo am⟩
def Zo4 (N:Nat) (aa:R0) (ab:R0):Option R0:=
  (Sd N ((ab.1.1,ab.1.2),ab.2)).bind fun ai=>(Zan ai).bind fun ad=>(Zd7 N (aa.1.1,aa.1.2) (ad.1,ad.2)).bind fun ae=>(Sd N ((aa.1.1,aa.1.2),aa.2)).bind fun aj=>(Zan aj).bind fun af=>(Zd7 N (ab.1.1,ab.1.2) (af.1,af.2)).bind fun ag=>(Zcr N (ae.1,ae.2) (ag.1,ag.2)).bind fun ah=>(Sd N ((aa.1.1,aa.1.2),aa.2)).bind fun ak=>(Sd N ((ab.1.1,ab.1.2),ab.2)).bind fun al=>(Zgp N ak al).bind fun am=>(Zbk N (ah.1,ah.2) am).bind fun ac=>some ((ac.1.1,ac.1.2),ac.2)
def Zgw (N:Nat) (aa:R3):Option R3:=
  (Tp N (!aa.1) aa.2).bind fun ab=>some (ab.1,ab.2)
def Zle (N:Nat) (aa:R0):Option R0:=
  (Zgw N (aa.1.1,aa.1.2)).bind fun ac=>(Sd N ((aa.1.1,aa.1.2),aa.2)).bind fun ad=>(Zbk N (ac.1,ac.2) ad).bind fun ab=>some ((ab.1.1,ab.1.2),ab.2)
def Zld (N:Nat) (aa:R0) (ab:R0):Option R0:=
  (Zd7 N (aa.1.1,aa.1.2) (ab.1.1,ab.1.2)).bind fun ad=>(Sd N ((aa.1.1,aa.1.2),aa.2)).bind fun ae=>(Sd N ((ab.1.1,ab.1.2),ab.2)).bind fun af=>(Zgp N ae af).bind fun ag=>(Zbk N (ad.1,ad.2) ag).bind fun ac=>some ((ac.1.1,ac.1.2),ac.2)
def Zi0 (N:Nat) (aa:R3) (ab:R3):Option R3:=
  (Zgw N (ab.1,ab.2)).bind fun ac=>(Zcr N (aa.1,aa.2) (ac.1,ac.2)).bind fun ad=>some (ad.1,ad.2)
def Sc (N:Nat) (aa:R3):Option Int:=
  (Zgx N (aa.1,aa.2)).bind fun ab=>if (decide ((ab.2.length:Int)=0))=true then (some 0) else (if ab.1=true then (some (-1)) else (some 1))
theorem Zz7 {N ad:Nat} {ae:Option Addr} {col:Ze} {w0:World} {ab:R3} {r:Int} (hm:Sc N ab=some r) (ac:Sl (Za.int .u32) col w0 ae ad ab.2):
    Calls Tryz.prog 167 #[(.agg #[.bool ab.1,.slice ae ab.2.length ad])] w0 (fun e w'=>e= .returned ((.int .i64 r))∧Below w0.heap.size w0 w'):=by
 refine Xo 2 (m:=12) func167 rfl rfl rfl rfl rfl ?_;rw [Sc.eq_1] at hm;have aa:=St.start col w0;refine go ?_;refine Xy (col:=(Zk col)) 1 rfl ?_;intro ap aq ar ag ah;refine go ?_;refine lV _ (Xj isAgg33 sizeOf33 ah) ?_;obtain ⟨au,ai,hm⟩:=bZ hm;replace ac:=ac.keep (Zl.start col w0);replace aa:=aa.grow ag;refine Zi (Zrx 2 ai (ac.ks aa)) ?_;rintro _ av ⟨aj,aw,ax,rfl,ak,ay⟩;refine ⟨_,rfl,?_⟩;refine Xl (col:=aj) #[.bool false,.slice none (([]:List Int).length) 0] 3 zeroValue33 ?_;intro az a0 a1 al am;refine Z2 am ?_;intro a2 an ao af;refine go ?_;refine X3 af ?_;refine go ?_;replace aa:=((aa.grow ak).grow al).kp an ao;refine Zs hm (fun hb hm=>go ?_) fun hb hm=>go ?_
 ·cases hm;exact ⟨rfl,rfl,aa.below⟩
 refine X3 af<|Zm ?_;refine Zs hm (fun hb hm=>go ?_) fun hb hm=>go ?_
 ·cases hm;exact ⟨rfl,rfl,aa.below⟩
 cases hm;exact ⟨rfl,rfl,aa.below⟩
def Zo2 (N:Nat) (aa:R3) (ab:R3):Option Int:=
  (Zi0 N (aa.1,aa.2) (ab.1,ab.2)).bind fun ac=>(Sc N (ac.1,ac.2)).bind fun ad=>some ad
def Zgy (N:Nat) (aa:R0) (ab:R0):Option Int:=
  (Sd N ((ab.1.1,ab.1.2),ab.2)).bind fun ag=>(Zan ag).bind fun ac=>(Zd7 N (aa.1.1,aa.1.2) (ac.1,ac.2)).bind fun ad=>(Sd N ((aa.1.1,aa.1.2),aa.2)).bind fun ah=>(Zan ah).bind fun ae=>(Zd7 N (ab.1.1,ab.1.2) (ae.1,ae.2)).bind fun af=>(Zo2 N (ad.1,ad.2) (af.1,af.2)).bind fun ai=>some ai
def S5 (N:Nat) (aa:Int):Option R3:=
  if (decide (0≤aa))=true then ((Zgr N (u64.wrap aa)).bind fun ad=>(Tp N false ad).bind fun ab=>some (ab.1,ab.2)) else ((Zgr N (u64.wrap (i64.wrap (-(i64.wrap (aa+1)))))).bind fun ae=>(Zgj N ae [1]).bind fun af=>(Tp N true af).bind fun ac=>some (ac.1,ac.2))
theorem Zry {N:Nat} {col:Ze} {w0:World} {an:Int} {r:R3} (c1:Nat) (hm:S5 N an=some r):
    Calls Tryz.prog 82 #[.int .i64 an] w0 (fun e w'=>∃ (col':Ze) (ra1:Option Addr) (rc2:Nat),e= .returned ((.agg #[.bool r.1,.slice ra1 r.2.length rc2]))∧Zg col w0 col' w'∧Zc (Za.int .u32) 77 c1 col' w' ra1 rc2 r.2):=by
 refine Yu (m:=17) func82 rfl rfl rfl ?_;rw [S5.eq_1] at hm;have aa:=St.start col w0;refine go ?_;refine Xl (col:=(Zk col)) #[.bool false,.slice none (([]:List Int).length) 0] 1 zeroValue33 ?_;intro be bf ao av ab;refine go ?_;replace aa:=aa.grow av;refine Zs hm (fun hb hm=>go ?_) fun hb hm=>go ?_
 ·obtain ⟨bg,aw,hm⟩:=bZ hm;refine Zi (Zru (col:=ao) 2 aw) ?_;rintro _ ax ⟨ah,bh,bi,rfl,ap,ay⟩;refine ⟨_,rfl,?_⟩;obtain ⟨bj,az,hm⟩:=bZ hm;refine Zi (Zny 3 az (ay.toSlF (Zh.int .u32))) ?_;rintro _ bk ⟨a0,bm,bn,rfl,ac,ad⟩;refine ⟨_,rfl,?_⟩;replace ad:=ad.thaw (Z0 .u32) ac ((Fz.refl (col:=ah)).froz 2) (by decide);replace ac:=ac.thawR (col:=ah);generalize Xa ax.heap.size ah a0=bo at *;replace ab:=(ab.gr ap).gr ac;refine Z2 ab ?_;intro bp aq a1 a2;refine go ?_;cases hm;replace aa:=((aa.grow ap).grow ac).kp aq a1;replace ad:=ad.kp aq;exact ⟨rfl,_,ra a2.atN,_,_,_,rfl,aa.fin (cm [(3,c1)]),aa.fo ad⟩
 obtain ⟨bq,a3,hm⟩:=bZ hm;refine Zi (Zru (col:=ao) 4 a3) ?_;rintro _ br ⟨a4,bs,bt,rfl,ar,ai⟩;refine ⟨_,rfl,?_⟩;refine Vb (col:=a4) [1] 5 ?_;intro bu a5 aj ak a6;obtain ⟨bv,a7,hm⟩:=bZ hm;replace ai:=ai.gr ak;refine Zi (Zz3 6 a7 ((ai.toSlF (Zh.int .u32)).froz 5) ((a6.froz 4 (by decide)).toSlF (Zh.int .u32))) ?_;rintro _ a8 ⟨a9,bw,bx,rfl,ae,al⟩;refine ⟨_,rfl,?_⟩;replace al:=al.thaw (Z0 .u32) ae (((Fz.refl (col:=aj)).froz 4).froz 5) (by decide);replace ae:=ae.thawR (col:=aj);generalize Xa a5.heap.size aj a9=am at *;obtain ⟨bz,ba,hm⟩:=bZ hm;refine Zi (Zny 7 ba (al.toSlF (Zh.int .u32))) ?_;rintro _ b0 ⟨bb,b1,b2,rfl,af,ag⟩;refine ⟨_,rfl,?_⟩;replace ag:=ag.thaw (Z0 .u32) af ((Fz.refl (col:=am)).froz 6) (by decide);replace af:=af.thawR (col:=am);generalize Xa a8.heap.size am bb=b3 at *;replace ab:=(((ab.gr ar).gr ak).gr ae).gr af;refine Z2 ab ?_;intro b4 au bc bd;refine go ?_;cases hm;replace aa:=((((aa.grow ar).grow ak).grow ae).grow af).kp au bc;replace ag:=ag.kp au;exact ⟨rfl,_,ra bd.atN,_,_,_,rfl,aa.fin (cm [(7,c1)]),aa.fo ag⟩
def Zbj (N:Nat) (ac:R3) (aa:R3):Option (R0×Int):=
  (Sc N (aa.1,aa.2)).bind fun ad=>if (decide (ad=0))=true then (some (((false,([]:List Int)),([]:List Int)),11)) else ((Zbk N (!decide (ac.1=aa.1),ac.2) aa.2).bind fun ab=>some (((ab.1.1,ab.1.2),ab.2),0))
theorem Zz8 {N ai ap:Nat} {aj aq:Option Addr} {col:Ze} {w0:World} {ac af:R3} {r:(R0×Int)} (c1 c2:Nat) (hm:Zbj N ac af=some r) (ak:Sl (Za.int .u32) col w0 aj ai ac.2) (ag:Sl (Za.int .u32) col w0 aq ap af.2):
    Calls Tryz.prog 135 #[(.agg #[.bool ac.1,.slice aj ac.2.length ai]),(.agg #[.bool af.1,.slice aq af.2.length ap])] w0 (fun e w'=>∃ (col':Ze) (ra1:Option Addr) (rc2:Nat) (ra4:Option Addr) (rc5:Nat),e= .returned (.tuple #[(.agg #[.bool r.1.1.1,.slice ra1 r.1.1.2.length rc2,.slice ra4 r.1.2.length rc5]),.int .i64 r.2])∧Zg col w0 col' w'∧Zc (Za.int .u32) 77 c1 col' w' ra1 rc2 r.1.1.2∧Zc (Za.int .u32) 77 c2 col' w' ra4 rc5 r.1.2):=by
 refine Yu (m:=21) func135 rfl rfl rfl ?_;rw [Zbj.eq_1] at hm;have aa:=St.start col w0;refine go ?_;refine Xy (col:=(Zk col)) 1 rfl ?_;intro a8 a9 aw ax ah;refine Xy (col:=aw) 2 rfl ?_;intro ba bb ay ar ab;refine Xl (col:=ay) #[.bool false,.slice none (([]:List Int).length) 0,.slice none (([]:List Int).length) 0] 3 zeroValue35 ?_;intro bc az au al ad;refine go ?_;replace ab:=ab.gr al;refine lV _ (Xj isAgg33 sizeOf33 ab) ?_;obtain ⟨bd,a0,hm⟩:=bZ hm;replace ag:=ag.keep (Zl.start col w0);replace aa:=((aa.grow ax).grow ar).grow al;refine Zi (Zz7 a0 (ag.ks aa)) ?_;rintro _ a1 ⟨rfl,ae⟩;refine ⟨_,rfl,?_⟩;replace ae:Zg au az au a1:=.of_below ae;refine go ?_;replace ak:=ak.keep (Zl.start col w0);replace ah:=((ah.gr ar).gr al).gr ae;replace ab:=ab.gr ae;replace ad:=ad.gr ae;replace aa:=aa.grow ae;refine Zs hm (fun hb hm=>go ?_) fun hb hm=>go ?_
 ·refine lV (.agg #[.bool false,.slice none (([]:List Int).length) 0,.slice none (([]:List Int).length) 0]) (Yk (l:=[_,_]) (qs:=[(0,2),(2,1)]) underlying35 zeroValue35 ⟨rfl,sizeOf33,rfl,sizeOf31,trivial⟩ rfl)<|Z2 ad ?_;intro be a2 a3 a4;refine go ?_;cases hm;replace aa:=aa.kp a2 a3;exact ⟨rfl,_,Tw a4.atN,_,none,0,none,0,rfl,aa.fin (cm []),Zc.nil,Zc.nil⟩
 refine X3 ah<|X3 ab ?_;refine go ?_;refine X3 ah<|lV (.agg #[.bool (!decide (ac.1=af.1)),.slice aj ac.2.length ai]) (Yk (l:=[_,_]) (qs:=[(0,1),(1,1)]) underlying33 zeroValue33 ⟨rfl,sizeOf4,rfl,sizeOf31,trivial⟩ rfl)<|X3 ab ?_;obtain ⟨bf,a5,hm⟩:=bZ hm;refine Zi (Z0a 4 5 a5 (ak.ks aa) (ag.ks aa)) ?_;rintro _ bg ⟨bh,bi,bj,bk,bm,rfl,av,am,an⟩;refine ⟨_,rfl,?_⟩;replace ad:=ad.gr av;refine Z2 ad ?_;intro bn ao a6 a7;refine go ?_;cases hm;replace aa:=(aa.grow av).kp ao a6;replace am:=am.kp ao;replace an:=an.kp ao;exact ⟨rfl,_,Tw a7.atN,_,_,_,_,_,rfl,aa.fin (cm [(4,c1),(5,c2)]),aa.fo am,aa.fo an⟩
def Zlf (N:Nat) (ad:Int) (ae:Int):Option (R0×Int):=
  (S5 N ad).bind fun ab=>(S5 N ae).bind fun ac=>(Zbj N (ab.1,ab.2) (ac.1,ac.2)).bind fun aa=>some (((aa.1.1.1,aa.1.1.2),aa.1.2),aa.2)
theorem Zz9 {N:Nat} {col:Ze} {w0:World} {ak al:Int} {r:(R0×Int)} (c1 c2:Nat) (hm:Zlf N ak al=some r):
    Calls Tryz.prog 145 #[.int .i64 ak,.int .i64 al] w0 (fun e w'=>∃ (col':Ze) (ra1:Option Addr) (rc2:Nat) (ra4:Option Addr) (rc5:Nat),e= .returned (.tuple #[(.agg #[.bool r.1.1.1,.slice ra1 r.1.1.2.length rc2,.slice ra4 r.1.2.length rc5]),.int .i64 r.2])∧Zg col w0 col' w'∧Zc (Za.int .u32) 77 c1 col' w' ra1 rc2 r.1.1.2∧Zc (Za.int .u32) 77 c2 col' w' ra4 rc5 r.1.2):=by
 refine Yu (m:=13) func145 rfl rfl rfl ?_;rw [Zlf.eq_1] at hm;have ab:=St.start col w0;refine go ?_;refine Xl (col:=(Zk col)) #[.bool false,.slice none (([]:List Int).length) 0,.slice none (([]:List Int).length) 0] 1 zeroValue35 ?_;intro a4 a5 an ao ag;refine go ?_;obtain ⟨a6,ap,hm⟩:=bZ hm;refine Zi (Zry (col:=an) 2 ap) ?_;rintro _ a7 ⟨aq,a8,a9,rfl,am,ah⟩;refine ⟨_,rfl,?_⟩;refine Yn rfl ?_;obtain ⟨ba,ar,hm⟩:=bZ hm;refine Zi (Zry (col:=aq) 3 ar) ?_;rintro _ au ⟨ae,bb,bc,rfl,ai,av⟩;refine ⟨_,rfl,?_⟩;obtain ⟨af,aw,hm⟩:=bZ hm;replace ah:=ah.gr ai;refine Zi (Zz8 4 5 aw ((ah.toSlF (Zh.int .u32)).froz 3) ((av.froz 2 (by decide)).toSlF (Zh.int .u32))) ?_;rintro _ bd ⟨ax,ay,az,a0,a1,rfl,aa,ac,ad⟩;refine ⟨_,rfl,?_⟩;replace ac:=ac.thaw (Z0 .u32) aa (((Fz.refl (col:=ae)).froz 2).froz 3) (by decide);replace ad:=ad.thaw (Z0 .u32) aa (((Fz.refl (col:=ae)).froz 2).froz 3) (by decide);replace aa:=aa.thawR (col:=ae);generalize Xa au.heap.size ae ax=be at *;refine lV (.agg #[.bool af.1.1.1,.slice ay af.1.1.2.length az,.slice a0 af.1.2.length a1]) (Xh rfl rfl)<|lV (.int .i64 af.2) (Xh rfl rfl) ?_;replace ag:=((ag.gr am).gr ai).gr aa;refine Z2 ag ?_;intro bf aj a2 a3;refine go ?_;cases hm;replace ab:=((((ab.grow ao).grow am).grow ai).grow aa).kp aj a2;replace ac:=ac.kp aj;replace ad:=ad.kp aj;exact ⟨rfl,_,Tw a3.atN,_,_,_,_,_,rfl,ab.fin (cm [(4,c1),(5,c2)]),ab.fo ac,ab.fo ad⟩
def Tq (N:Nat) (ab:Int) (ac:Int):Option R0:=
  (Zlf N ab ac).bind fun aa=>some ((aa.1.1.1,aa.1.1.2),aa.1.2)
theorem Ze1 {N:Nat} {col:Ze} {w0:World} {ai aj:Int} {r:R0} (c1 c2:Nat) (hm:Tq N ai aj=some r):
    Calls Tryz.prog 84 #[.int .i64 ai,.int .i64 aj] w0 (fun e w'=>∃ (col':Ze) (ra1:Option Addr) (rc2:Nat) (ra4:Option Addr) (rc5:Nat),e= .returned ((.agg #[.bool r.1.1,.slice ra1 r.1.2.length rc2,.slice ra4 r.2.length rc5]))∧Zg col w0 col' w'∧Zc (Za.int .u32) 77 c1 col' w' ra1 rc2 r.1.2∧Zc (Za.int .u32) 77 c2 col' w' ra4 rc5 r.2):=by
 refine Yu (m:=14) func84 rfl rfl rfl ?_;rw [Tq.eq_1] at hm;have ab:=St.start col w0;refine go ?_;refine Xl (col:=(Zk col)) #[.bool false,.slice none (([]:List Int).length) 0,.slice none (([]:List Int).length) 0] 1 zeroValue35 ?_;intro a0 a1 ap aq ae;refine go ?_;obtain ⟨aa,ar,hm⟩:=bZ hm;refine Zi (Zz9 (col:=ap) 2 3 ar) ?_;rintro _ a2 ⟨au,ak,al,am,an,rfl,ao,af,ag⟩;refine ⟨_,rfl,?_⟩;refine lM (.tuple #[(.agg #[.bool aa.1.1.1,.slice ak aa.1.1.2.length al,.slice am aa.1.2.length an]),.int .i64 aa.2])<|lV (.agg #[.bool aa.1.1.1,.slice ak aa.1.1.2.length al,.slice am aa.1.2.length an]) (Xh rfl rfl)<|lV (.int .i64 aa.2) (Xh rfl rfl)<|Xl (col:=au) #[.bool false,.slice none (([]:List Int).length) 0,.slice none (([]:List Int).length) 0] 4 zeroValue35 ?_;intro a3 a4 a5 ac av;refine Z2 av ?_;intro a6 ad aw ax;refine go ?_;refine lV _ (Xj isAgg35 sizeOf35 ax) ?_;replace ae:=((ae.gr ao).gr ac).kp ad;refine Z2 ae ?_;intro a7 ah ay az;refine go ?_;cases hm;replace ab:=((((ab.grow aq).grow ao).grow ac).kp ad aw).kp ah ay;replace af:=((af.gr ac).kp ad).kp ah;replace ag:=((ag.gr ac).kp ad).kp ah;exact ⟨rfl,_,ra az.atN,_,_,_,_,_,rfl,ab.fin (cm [(2,c1),(3,c2)]),ab.fo af,ab.fo ag⟩
def Zlh (N:Nat) (aa:R9):Nat→Bool→R2→R2→Int→Option R0
  | 0,_,_,_,_=>none
  | ah+1,ae,af,ag,ab=>if (decide (ab<(aa.length:Int)))=true then ((Zp aa ab).bind fun ac=>(Zo4 N ((ae,af),ag) ((ac.1.1,ac.1.2),ac.2)).bind fun ad=>(Zlh N aa ah) ad.1.1 ad.1.2 ad.2 (i64.wrap (ab+1))) else (some ((ae,af),ag))
termination_by structural x=>x
def Zo6 (N:Nat) (ab:R9):Option R0:=
  (Tq N 0 1).bind fun aa=>Zlh N ab N aa.1.1 aa.1.2 aa.2 0
def Zlg (N:Nat) (aa:R0):Option Int:=
  (Sc N (aa.1.1,aa.1.2)).bind fun ab=>some ab
theorem Zaq {N k:Nat} {neg:Bool} {m:List Int} (hm:Zn m) (hk:m.length≤k) (hr:Z4 N k):Tp N neg m=some (Zr (Zq (neg,m))):=by
 obtain ⟨r1,r2⟩:=hr
 rw [Tp,U1 hm (by omega) (by omega),Option.bind_some,Zji]
 have e:decide (0<((Zd (Zb m)).length:Int))=decide (Zb m≠0):=by
  by_cases h:Zb m=0
  ·rw [h,W2];decide
  ·have:=T8 h
   rw [decide_eq_true (by omega),decide_eq_true h]
 cases neg
 ·rw [if_neg (by decide),Zgv,Bool.false_and]
 ·rw [if_pos rfl,Zgv,e,Bool.true_and]
theorem Zxh {N k:Nat} {a:ZV} (hm:Zn a.2) (hk:a.2.length≤k) (hr:Z4 N k):Zgx N a=some (Zr (Zq a)):=by
 rw [Zgx,Zaq hm hk hr];rfl
theorem Zen {N k:Nat} {a:ZV} (hm:Zn a.2) (hk:a.2.length≤k) (hr:Z4 N k):Sc N a=some (Zq a).sign:=by
 rw [Sc,Zxh hm hk hr,Option.bind_some,Zr]
 generalize Zq a=z
 by_cases h:z=0
 ·subst h;rw [Int.natAbs_zero,W2,if_pos (by decide)];rfl
 ·have:=T8 (n:=z.natAbs) (by omega)
  rw [if_neg (by rw [decide_eq_false (by simp only;omega)];decide)]
  by_cases h2:z<0
  ·rw [if_pos (decide_eq_true h2),Int.sign_eq_neg_one_of_neg h2]
  ·rw [if_neg (fun hc=>h2 (of_decide_eq_true hc)),Int.sign_eq_one_of_pos (by omega)]
theorem Zmv {N k l:Nat} {a b:ZV} (ha:Zn a.2) (hb:Zn b.2) (hk:a.2.length≤k) (hl:b.2.length≤l) (hr:Z4 N (k+l+1)):Zcr N a b=some (Zr (Zq a+Zq b)):=by
 have hr':=hr
 obtain ⟨r1,r2⟩:=hr'
 have la:=Xz ha
 have lb:=Xz hb
 have lsum:(Zd (Zb a.2+Zb b.2)).length≤k+l+1:=Zfb (by omega) (by omega)
 have ls1:(Zd (Zb a.2 - Zb b.2)).length≤k+l+1:=by have:=Y2 (Nat.sub_le (Zb a.2) (Zb b.2));omega
 have ls2:(Zd (Zb b.2 - Zb a.2)).length≤k+l+1:=by have:=Y2 (Nat.sub_le (Zb b.2) (Zb a.2));omega
 rw [Zcr]
 by_cases h:a.1=b.1
 ·rw [if_pos (decide_eq_true h),Zwt ha hb (by omega) (by omega),Option.bind_some,Zaq (Zy _) lsum hr,Option.bind_some,Zhi.1 h]
 ·rw [if_neg (by rw [decide_eq_false h];decide),Zjv ha hb (by omega) (by omega) (by omega) (by omega),Option.bind_some]
  by_cases hlt:Zb a.2<Zb b.2
  ·rw [if_pos hlt,if_neg (by decide),Zjv hb ha (by omega) (by omega) (by omega) (by omega),Option.bind_some,if_neg (by omega),Zaq (Zy _) ls2 hr,Option.bind_some,(Zhi.2 h).2 hlt]
  ·rw [if_neg hlt,if_pos rfl,Zaq (Zy _) ls1 hr,Option.bind_some,(Zhi.2 h).1 (by omega)]
theorem Zqg {N k:Nat} {a:ZV} (hm:Zn a.2) (hk:a.2.length≤k) (hr:Z4 N k):Zgw N a=some (Zr (-Zq a)):=by
 rw [Zgw,Zaq hm hk hr,Option.bind_some,Znc]
theorem Zow {a:ZV} (hm:Zn a.2):(Zr (Zq a)).2.length≤a.2.length:=by
 rw [Vt,Zbs];exact Xz hm
theorem Zub {a:ZV} (hm:Zn a.2):(Zr (-Zq a)).2.length≤a.2.length:=by
 rw [Vt,Int.natAbs_neg,Zbs];exact Xz hm
theorem Zxr {N k l:Nat} {a b:ZV} (ha:Zn a.2) (hb:Zn b.2) (hk:a.2.length≤k) (hl:b.2.length≤l) (hr:Z4 N (k+l+1)):Zi0 N a b=some (Zr (Zq a - Zq b)):=by
 rw [Zi0,Zqg (a:=(b.1,b.2)) hb hl (hr.mono (by omega)),Option.bind_some,Zmv (a:=(a.1,a.2)) (b:=Zr _) ha (Yq _) hk (Nat.le_trans (Zub hb) hl) hr,Option.bind_some,Yx,Int.sub_eq_add_neg]
theorem Zjt {N k l:Nat} {a b:ZV} (ha:Zn a.2) (hb:Zn b.2) (hk:a.2.length≤k) (hl:b.2.length≤l) (hr:Z4 N (k+l)):Zd7 N a b=some (Zr (Zq a * Zq b)):=by
 have hr':=hr
 obtain ⟨r1,r2⟩:=hr'
 have la:=Xz ha
 have lb:=Xz hb
 have:=Ta (Zb a.2) (Zb b.2)
 rw [Zd7,Zxf ha hb (by omega) (by omega),Option.bind_some,Zaq (k:=k+l) (Zy _) (by omega) hr,Option.bind_some,Zq1]
theorem Z5u (a b:Int):(a - b).sign=Qy a b:=by
 rw [← Znb];unfold Qy
 (repeat' split) <;> omega
theorem Z4g {N k l:Nat} {a b:ZV} (ha:Zn a.2) (hb:Zn b.2) (hk:a.2.length≤k) (hl:b.2.length≤l) (hr:Z4 N (k+l+1)):Zo2 N a b=some (Qy (Zq a) (Zq b)):=by
 have sl:(Zr (Zq a - Zq b)).2.length≤k+l+1:=Zx6 (k:=k+l) (Nat.le_trans (Zow ha) (by omega)) (Nat.le_trans (Zow hb) (by omega))
 rw [Zo2,Zxr (a:=(a.1,a.2)) (b:=(b.1,b.2)) ha hb hk hl hr,Option.bind_some,Zen (a:=Zr _) (Yq _) sl hr,Option.bind_some,Yx,Z5u]
theorem Zju {N:Nat} {z:Int} (h:-9223372036854775808≤z∧z≤9223372036854775807) (hr:Z4 N 4):S5 N z=some (Zr z):=by
 have hr':=hr
 obtain ⟨r1,r2⟩:=hr'
 have l2:∀ n:Nat,n<18446744073709551616→(Zd n).length≤2:=fun n hn=>Wt.2 (by simpa using hn)
 have l1:Zn [1]:=.cons (by decide) .nil
 rw [S5]
 by_cases hz:0≤z
 ·rw [if_pos (decide_eq_true hz),Xi (by omega),Zxj (by omega) (by omega),Option.bind_some,Zaq (Zy _) (l2 _ (by omega)) (hr.mono (by omega)),Option.bind_some]
  have e2:Zq (false,Zd z.toNat)=z:=by simp only [Zq,Zx];simp;omega
  rw [e2]
 ·have hl3:=l2 (-z - 1).toNat (by omega)
  have e:u64.wrap (i64.wrap (-i64.wrap (z+1)))= -z - 1:=by rw [Zv (x:=z+1) (by omega),Zv (by omega),Xi (by omega)];omega
  rw [if_neg (by rw [decide_eq_false hz];decide),e,Zxj (by omega) (by omega),Option.bind_some,Zwt (Zy _) l1 (by simp only [List.length_singleton];omega) (by simp only [List.length_singleton];omega),Option.bind_some,Zx,Y8,Yh,Zaq (k:=4) (Zy _) (by
   have:=l2 ((-z - 1).toNat+((1:Int).toNat+4294967296 * 0)) (by omega)
   omega) hr,Option.bind_some]
  have e2:Zq (true,Zd ((-z - 1).toNat+((1:Int).toNat+4294967296 * 0)))=z:=by simp only [Zq,Zx,if_true];omega
  rw [e2]
theorem Zc2 {N k:Nat} {a:QV} (ha:RV k a) (hr:Z4 N k):Sd N a=some (Zd (Xw a.2)):=by
 obtain ⟨r1,r2⟩:=hr
 have:=ha.ld
 rw [Sd,U1 ha.d (by omega) (by omega),Option.bind_some,Xw]
 by_cases h:Zb a.2=0
 ·rw [h,W2,if_pos (by decide),if_pos rfl,Zul,Option.bind_some,W5]
 ·have:=T8 h
  rw [if_neg (by rw [decide_eq_false (by omega)];decide),if_neg h]
theorem Zhf {N k l:Nat} {num:ZV} {den:List Int} (hn:Zn num.2) (hd:Zn den) (h0:Zb den≠0) (hk:num.2.length≤k) (hl:den.length≤l) (hr:Z4 N (k+l)):
  Zbk N num den=some (Zj (mkRat (Zq num) (Zb den))):=by
 have hr':=hr
 obtain ⟨r1,r2⟩:=hr'
 have l1:=Xz hn
 have l2:=Xz hd
 have hg:Nat.gcd (Zb num.2) (Zb den)≠0:=fun h=>h0 (Nat.gcd_eq_zero_iff.1 h).2
 have lg:(Zd (Nat.gcd (Zb num.2) (Zb den))).length≤den.length:=Nat.le_trans (Y2 (Nat.gcd_le_right _ (by omega))) l2
 have lq:=Y2 (Nat.div_le_self (Zb num.2) (Nat.gcd (Zb num.2) (Zb den)))
 have ld:=Y2 (Nat.div_le_self (Zb den) (Nat.gcd (Zb num.2) (Zb den)))
 obtain ⟨g,g1,g2,g3,g4⟩:=Z4u (N:=N) (M:=k+l) hn hd (by omega) (by omega) (by omega) (by omega)
 rw [Zbk,g1,Option.bind_some,Zqd hn g2 (by rw [g3];omega) (by omega) (by rw [g3];omega) (by omega),Option.bind_some,Zqd hd g2 (by rw [g3];omega) (by omega) (by rw [g3];omega) (by omega),Option.bind_some,g3,if_neg hg,if_neg hg,
  Zxh (k:=k) (a:=(num.1,Zd (Zb num.2 / Nat.gcd (Zb num.2) (Zb den)))) (Zy _) (by simp only;omega) (hr.mono (by omega)),Option.bind_some,U1 (Zy _) (by omega) (by omega),Option.bind_some,Zvf (neg:=num.1) h0,Zji,Zx,Zx]
theorem Z4r {N k:Nat} {a:QV} (ha:RV k a) (hr:Z4 N (2 * k+1)):Zle N a=some (Zj (-Zt a)):=by
 have ld:=Uk ha
 rw [Zle,Zqg (a:=(a.1.1,a.1.2)) ha.m ha.lm (hr.mono (by omega)),Option.bind_some,Zc2 ha (hr.mono (by omega)),Option.bind_some,Zhf (num:=Zr _) (k:=k) (l:=k+1) (Yq _) (Zy _) (by rw [Zx];exact V9 _) (Nat.le_trans (Zub (a:=(a.1.1,a.1.2)) ha.m) ha.lm) ld (hr.mono (by omega)),Option.bind_some,Zx,Yx,Zt,Rat.neg_mkRat]
theorem Z4s {N k:Nat} {a:QV} (ha:RV k a) (hr:Z4 N k):Zlg N a=some (Tt (Zt a)):=by
 rw [Zlg,Zen (a:=(a.1.1,a.1.2)) ha.m ha.lm hr,Option.bind_some,Zwd]
theorem Zhj (n:Nat):Zq (false,Zd n)=n:=by simp [Zq,Zx]
theorem Zqe {N k l:Nat} {a b:QV} (ha:RV k a) (hb:RV l b) (hr:Z4 N (2 * (k+l+3))):Zgy N a b=some (Ve (Zt a) (Zt b)):=by
 have da:=Uk ha
 have db:=Uk hb
 have o1:=Q6 (n:=Xw b.2) ha.m ha.lm db
 have o2:=Q6 (n:=Xw a.2) hb.m hb.lm da
 rw [Zgy,Zc2 hb (hr.mono (by omega)),Option.bind_some,Zan,Option.bind_some,Zjt (a:=(a.1.1,a.1.2)) (b:=(false,Zd (Xw b.2))) (k:=k) (l:=l+1) ha.m (Zy _) ha.lm db (hr.mono (by omega)),Option.bind_some,Zc2 ha (hr.mono (by omega)),Option.bind_some,Zan,Option.bind_some,Zjt (a:=(b.1.1,b.1.2)) (b:=(false,Zd (Xw a.2))) (k:=l) (l:=k+1) hb.m (Zy _) hb.lm da (hr.mono (by omega)),Option.bind_some,Zhj,Zhj,
  Z4g (a:=Zr _) (b:=Zr _) (Yq _) (Yq _) o1 o2 (hr.mono (by omega)),Option.bind_some,Yx,Yx,Zt,Zt,Zpv (V9 _) (V9 _)]
theorem Zwx {N k l:Nat} {a b:QV} (ha:RV k a) (hb:RV l b) (hr:Z4 N (k+l+2)):Zgp N (Zd (Xw a.2)) (Zd (Xw b.2))=some (Zd (Xw a.2 * Xw b.2)):=by
 have da:=Uk ha
 have db:=Uk hb
 obtain ⟨r1,r2⟩:=hr
 rw [Zxf (Zy _) (Zy _) (by omega) (by omega),Zx,Zx]
theorem Z4n {N k l:Nat} {a b:QV} (ha:RV k a) (hb:RV l b) (hr:Z4 N (2 * (k+l+3))):Zo4 N a b=some (Zj (Zt a+Zt b)):=by
 have da:=Uk ha
 have db:=Uk hb
 have o1:=Q6 (n:=Xw b.2) ha.m ha.lm db
 have o2:=Q6 (n:=Xw a.2) hb.m hb.lm da
 obtain ⟨_,m2,m3⟩:=Zhv ha hb (hr.mono (by omega))
 have m1:=Zwx ha hb (hr.mono (by omega))
 have sl:=Zm5 (k:=k+l+1) (by omega) (Nat.le_trans o2 (by omega))
 rw [Zo4,Zc2 hb (hr.mono (by omega)),Option.bind_some,Zan,Option.bind_some,Zjt (a:=(a.1.1,a.1.2)) (b:=(false,Zd (Xw b.2))) (k:=k) (l:=l+1) ha.m (Zy _) ha.lm db (hr.mono (by omega)),Option.bind_some,Zc2 ha (hr.mono (by omega)),Option.bind_some,Zan,Option.bind_some,Zjt (a:=(b.1.1,b.1.2)) (b:=(false,Zd (Xw a.2))) (k:=l) (l:=k+1) hb.m (Zy _) hb.lm da (hr.mono (by omega)),Option.bind_some,Zhj,Zhj,
  Zmv (a:=Zr _) (b:=Zr _) (Yq _) (Yq _) o1 o2 (hr.mono (by omega)),Option.bind_some,Yx,Yx,Option.bind_some,Option.bind_some,m1,Option.bind_some,
  Zhf (num:=Zr _) (Yq _) (Zy _) (by rw [Zx];exact m3) sl m2 (hr.mono (by omega)),Option.bind_some,Yx,Zx,Zt,Zt,Rat.mkRat_add_mkRat _ _ (V9 _) (V9 _)]
theorem Z4q {N k l:Nat} {a b:QV} (ha:RV k a) (hb:RV l b) (hr:Z4 N (2 * (k+l+3))):Zld N a b=some (Zj (Zt a * Zt b)):=by
 obtain ⟨_,m2,m3⟩:=Zhv ha hb (hr.mono (by omega))
 have m1:=Zwx ha hb (hr.mono (by omega))
 have zl:(Zr (Zq a.1 * Zq b.1)).2.length≤k+l:=by
  rw [Vt,Int.natAbs_mul,Zbs,Zbs]
  have h1:=Ta (Zb a.1.2) (Zb b.1.2)
  have h2:=Xz ha.m
  have h3:=Xz hb.m
  have:=ha.lm;have:=hb.lm
  omega
 rw [Zld,Zjt (a:=(a.1.1,a.1.2)) (b:=(b.1.1,b.1.2)) ha.m hb.m ha.lm hb.lm (hr.mono (by omega)),Option.bind_some,Zc2 ha (hr.mono (by omega)),Option.bind_some,Zc2 hb (hr.mono (by omega)),Option.bind_some,m1,Option.bind_some,
  Zhf (num:=Zr _) (Yq _) (Zy _) (by rw [Zx];exact m3) zl m2 (hr.mono (by omega)),Option.bind_some,Yx,Zx,Zt,Zt,Rat.mkRat_mul_mkRat]
theorem Zxq {N:Nat} {a b:Int} (h:-9223372036854775808≤a∧a≤9223372036854775807) (g:0<b∧b≤9223372036854775807) (hr:Z4 N 8):Tq N a b=some (Zj ((a:Rat) / (b:Rat))):=by
 have l2:∀ z:Int,-9223372036854775808≤z∧z≤9223372036854775807→(Zr z).2.length≤2:=fun z hz=>Wt.2 (by simp;omega)
 have la:=l2 a h
 have lb:=l2 b (by omega)
 have hb0:Zb (Zr b).2≠0:=by rw [Vt,Zx];omega
 have e:=Zuz (Zq (Zr a)) 1 (Zr b) 1 (Zr a).1 (Zr a).2 rfl hb0
 rw [Tq,Zlf,Zju h (hr.mono (by omega)),Option.bind_some,Zju (by omega) (hr.mono (by omega)),Option.bind_some,Zbj,Zen (a:=Zr b) (Yq _) lb (hr.mono (by omega)),Option.bind_some,Yx,Int.sign_eq_one_of_pos g.1,if_neg (by decide),Zhf (num:=(!decide ((Zr a).1=(Zr b).1),(Zr a).2)) (Yq _) (Yq _) hb0 la lb (hr.mono (by omega)),Option.bind_some,Option.bind_some,Option.bind_some]
 rw [Rat.mkRat_eq_div,Rat.mkRat_eq_div,Yx,Yx] at e
 have e1:(a:Rat) / ((1:Nat):Rat) / ((b:Rat) / ((1:Nat):Rat))=(a:Rat) / (b:Rat):=by
  have h1:((1:Nat):Rat)=1:=rfl
  have h2:(1:Rat)⁻¹=1:=Rat.inv_eq_of_mul_eq_one (by grind)
  simp only [h1,Rat.div_def,h2,Rat.mul_one]
 rw [e1,Nat.one_mul,Nat.mul_one] at e
 rw [e]
 have e2:Zq (!decide ((Zr a).1=(Zr b).1),Zd (Zb (Zr a).2))=Zq (!decide ((Zr a).1=(Zr b).1),(Zr a).2):=by simp only [Zq,Zx]
 rw [e2]
theorem div_one (a:Rat):a / 1=a:=by
 have h2:(1:Rat)⁻¹=1:=Rat.inv_eq_of_mul_eq_one (by grind)
 rw [Rat.div_def,h2,Rat.mul_one]
theorem Z48 {N:Nat} (hr:Z4 N 8):Tq N 0 1=some (Zj 0):=by
 rw [Zxq (by omega) (by omega) hr]
 congr 2
 exact div_one _
theorem Z47 {N:Nat} (hr:Z4 N 8):Tq N 1 1=some (Zj 1):=by
 rw [Zxq (by omega) (by omega) hr]
 congr 2
 exact div_one _
theorem Zw5 {N:Nat} (l:List QV) (hl:∀ a ∈ l,Wy a) (hb:l.length<4611686018427387904):∀ (n i:Nat) (q:Rat),i≤l.length→l.length<n+i→Z4 N (4 * (qs q+Yb (l.drop i)+3))→Zlh N l n (Zj q).1.1 (Zj q).1.2 (Zj q).2 (i:Int)=some (Zj (q+Wc (l.drop i)))
 | 0,i,q,h1,h2,_=>by omega
 | n+1,i,q,h1,h2,hr=>by
  rw [Zlh.eq_2]
  by_cases hi:i<l.length
  ·have hd:=List.drop_eq_getElem_cons hi
   have ha:=hl _ (List.getElem_mem hi)
   have hs:=Zjp ha
   rw [hd,Yb] at hr
   have h3:=Zjn q (Zt l[i])
   rw [if_pos (decide_eq_true (by omega)),Z9 hi,Option.bind_some,Z4n (k:=qs q) (l:=max (l[i]).1.2.length (l[i]).2.length) (Zql q) (Zc3 ha.1 ha.2) (hr.mono (by omega)),Option.bind_some,Zv (by omega)]
   have ih:=Zw5 l hl hb n (i+1) (q+Zt l[i]) (by omega) (by omega) (hr.mono (by omega))
   have e:Zt ((((Zj q).1.1,(Zj q).1.2),(Zj q).2):QV)=q:=Yi q
   have e2:Zt (((l[i].1.1,l[i].1.2),l[i].2):QV)=Zt l[i]:=rfl
   rw [show ((i+1:Nat):Int)=(i:Int)+1 by omega] at ih
   rw [e,e2,ih,hd,Wc,Wc,List.map_cons,List.sum_cons,Rat.add_assoc]
  ·rw [if_neg (by rw [decide_eq_false (by omega)];decide),List.drop_eq_nil_of_le (by omega),Wc,List.map_nil,List.sum_nil,Rat.add_zero]
theorem Z4t {N:Nat} {l:List QV} (hl:∀ a ∈ l,Wy a) (hb:l.length<4611686018427387904) (hn:l.length<N) (hr:Z4 N (4 * (Yb l+4))):Zo6 N l=some (Zj (Wc l)):=by
 rw [Zo6,Z48 (hr.mono (by omega)),Option.bind_some]
 have:=Zw5 (N:=N) l hl hb N 0 0 (by omega) (by omega) (hr.mono (by rw [Zp1,List.drop_zero];omega))
 rw [List.drop_zero,Rat.zero_add] at this
 exact this
def Zed (ab:ByteArray):List ByteArray→Nat→Option Int
  | [],aa=>some (-1)
  | ac :: ad,aa=>if (decide (ab=ac))=true then (some (aa:Int)) else ((Zed ab ad) (aa+1))
termination_by structural x=>x
def Zl8 (aa:List ByteArray) (ab:ByteArray):Option Int:=
  Zed ab aa 0
theorem Z0i {ag:Nat} {a0:Option Addr} {col:Ze} {w0:World} {ab:R5} {ae:ByteArray} {r:Int} (hm:Zl8 ab ae=some r) (h0:Sl Za.str col w0 a0 ag ab):
    Calls Tryz.prog 175 #[.slice a0 ab.length ag,.string ae] w0 (fun e w'=>e= .returned ((.int .i64 r))∧Below w0.heap.size w0 w'):=by
 refine Xo 4 (m:=19) func175 rfl rfl rfl rfl rfl ?_;rw [Zl8.eq_1] at hm;have aa:=St.start col w0;refine go ?_;refine Xe [0,1,7,1000000] (fun n f ah=>∃ ai ac ad,n=ad.length∧ab.drop ac=ad∧Zed ae ad ac=some r∧St w0 (Zk col) ai ah∧[8].map f=[.int .i64 ac]) ab.length ⟨_,0,_,rfl,rfl,hm,aa,rfl⟩ ?_;clear hm;intro n f ah hI;obtain ⟨ai,ac,ad,hn,hl,hm,aa,hs⟩:=hI;subst hn;refine .lL [8] hs ?_;replace h0:=h0.keep (Zl.start col w0)
 cases ad with
 | nil=>
  have hk:¬ ((ac:Int)<(ab.length:Int)):=by have:=List.drop_eq_nil_iff.1 hl;omega
  have hkb:=decide_eq_false hk;rw [Zed.eq_1] at hm;refine go ?_;refine Yv (congrArg Value.bool hkb)<|go ?_;cases hm;exact ⟨rfl,rfl,aa.below⟩
 | cons am aj=>
  obtain ⟨af,ak,al⟩:=Y1 hl;have hk:(ac:Int)<(ab.length:Int):=by omega
  have hkb:=decide_eq_true hk;rw [Zed.eq_2] at hm;refine go ?_;refine Yw (congrArg Value.bool hkb)<|go ?_;refine lI af ((h0.ks aa).addr af)<|lW ((h0.ks aa).atStr af) ?_;refine go ?_;refine Zs hm (fun hb hm=>go ?_) fun hb hm=>go ?_
  ·cases hm;exact ⟨rfl,rfl,aa.below⟩
  exact ⟨aj.length,by simp,rfl,⟨_,_,_,rfl,ak,hm,aa,(Y7 (congrArg (Value.int .i64) (Y3 (Nat.lt_of_lt_of_le al (h0.ks aa).1.1))) rfl)⟩⟩
def Zjb (aa:List ByteArray) (ab:ByteArray):Option Bool:=
  (Zl8 aa ab).bind fun ac=>some (decide (0≤ac))
theorem Z0g {ad:Nat} {a0:Option Addr} {col:Ze} {w0:World} {ab:R5} {ae:ByteArray} {r:Bool} (hm:Zjb ab ae=some r) (h0:Sl Za.str col w0 a0 ad ab):
    Calls Tryz.prog 148 #[.slice a0 ab.length ad,.string ae] w0 (fun e w'=>e= .returned ((.bool r))∧Below w0.heap.size w0 w'):=by
 refine Xo 4 (m:=9) func148 rfl rfl rfl rfl rfl ?_;rw [Zjb.eq_1] at hm;have aa:=St.start col w0;refine go ?_;obtain ⟨ah,af,hm⟩:=bZ hm;replace h0:=h0.keep (Zl.start col w0);refine Zi (Z0i af (h0.ks aa)) ?_;rintro _ ag ⟨rfl,ac⟩;refine ⟨_,rfl,?_⟩;replace ac:Zg (Zk col) w0 (Zk col) ag:=.of_below ac;refine go ?_;cases hm;replace aa:=aa.grow ac;exact ⟨rfl,rfl,aa.below⟩
def Zce:List ByteArray→(List Re)→Option Bool
  | [],aa=>some false
  | ab :: ac,aa=>if (decide (0<((Wg aa ab).getD 0)))=true then (some true) else ((some (S6 aa ab 1)).bind fun ad=>(Zce ac) ad)
termination_by structural x=>x
def Zif (aa:List ByteArray):Option Bool:=
  Zce aa ([]:List Re)
theorem Zzw {al:Nat} {a0:Option Addr} {col:Ze} {w0:World} {ab:R5} {r:Bool} (hm:Zif ab=some r) (h0:Sl Za.str col w0 a0 al ab):
    Calls Tryz.prog 149 #[.slice a0 ab.length al] w0 (fun e w'=>e= .returned ((.bool r))∧Below w0.heap.size w0 w'):=by
 refine Xo 2 (m:=20) func149 rfl rfl rfl rfl rfl ?_;rw [Zif.eq_1] at hm;have aa:=St.start col w0;refine go ?_;refine Z2e (col:=(Zk col)) (fk:=Value.string) (fv:=(Value.int .i64)) 1 rfl ?_;intro ay az a1 ao ap;refine go ?_;replace aa:=aa.grow ao;refine Xe [7,8,1000000] (fun n f af=>∃ ag ah ac ad ae,n=ae.length∧ab.drop ad=ae∧Zce ae ac=some r∧St w0 (Zk col) ag af∧Vr Value.string (Value.int .i64) 1 ag af ah ac∧[9,3].map f=[.int .i64 ad,.map (some ah)]) ab.length ⟨_,_,_,0,_,rfl,rfl,hm,aa,ap,rfl⟩ ?_;clear hm;intro n f af hI;obtain ⟨ag,ah,ac,ad,ae,hn,hl,hm,aa,am,hs⟩:=hI;subst hn;refine .lL [9,3] hs ?_;replace h0:=h0.keep (Zl.start col w0)
 cases ae with
 | nil=>
  have hk:¬ ((ad:Int)<(ab.length:Int)):=by have:=List.drop_eq_nil_iff.1 hl;omega
  have hkb:=decide_eq_false hk;rw [Zce.eq_1] at hm;refine go ?_;refine Yv (congrArg Value.bool hkb)<|go ?_;cases hm;exact ⟨rfl,rfl,aa.below⟩
 | cons ai aq=>
  obtain ⟨aj,ar,au⟩:=Y1 hl;have hk:(ad:Int)<(ab.length:Int):=by omega
  have hkb:=decide_eq_true hk;rw [Zce.eq_2] at hm;refine go ?_;refine Yw (congrArg Value.bool hkb)<|go ?_;refine lI aj ((h0.ks aa).addr aj)<|lW ((h0.ks aa).atStr aj) ?_;refine go ?_;refine lV (.int .i64 ((Wg ac ai).getD 0)) (Zwo Sp.str am underlying177 underlying9 zeroValue3 rfl rfl)<|go ?_;refine Zs hm (fun hb hm=>go ?_) fun hb hm=>go ?_
  ·cases hm;exact ⟨rfl,rfl,aa.below⟩
  obtain ⟨av,ak,hm⟩:=bZ hm;have ak:av=S6 ac ai 1:=(Option.some.inj ak).symm;refine Zt5 (k:=ai) (v:=1) Sp.str am underlying177 underlying9 rfl rfl rfl ?_;intro a2 aw ax an;rw [← ak] at an;refine go ?_;replace aa:=aa.kp aw ax;exact ⟨aq.length,by simp,rfl,⟨_,_,_,_,_,rfl,ar,hm,aa,an,(Y7 (congrArg (Value.int .i64) (Y3 (Nat.lt_of_lt_of_le au (h0.ks aa).1.1))) rfl)⟩⟩
def Zf7 (ab:R1) (aa:Nat) (kk_L1:(Nat→Option Int)) (ac:Bool):Option Int:=
  if ac=true then (some 40) else ((Zp ab.2.2.1 (aa:Int)).bind fun ad=>if (decide ((ad.length:Int)=0))=true then (some 43) else (kk_L1 (aa+1)))
def Za9 (aa:R1):List ByteArray→Nat→Option Int
  | [],ab=>some 0
  | ad :: ac,ab=>Z7 ((0:Int)≤(ab:Int)∧(ab:Int)≤(aa.2.1.length:Int)) ((Zjb (aa.2.1.take (Int.toNat (ab:Int))) ad).bind fun ae=>if ae=true then (Zf7 aa ab (Za9 aa ac) true) else ((Zp aa.2.2.1 (ab:Int)).bind fun af=>(Zif af).bind fun ag=>Zf7 aa ab (Za9 aa ac) ag))
termination_by structural x=>x
def Zf6 (aa:R1):Option Int:=
  Za9 aa aa.2.1 0
theorem Zzt {ae ak al am:Nat} {af an ao ap:Option Addr} {col:Ze} {w0:World} {aa:R1} {r:Int} (hm:Zf6 aa=some r) (ag:Sl Za.str col w0 af ae aa.2.1) (ai:Sl (Za.slice Za.str) col w0 an ak aa.2.2.1) (bi:Sl (Za.slice (Za.int .i64)) col w0 ao al aa.2.2.2.1) (bj:Sl (Za.slice (Za.pair (Za.pair Za.bool (Za.slice (Za.int .u32))) (Za.slice (Za.int .u32)))) col w0 ap am aa.2.2.2.2):
    Calls Tryz.prog 88 #[(.agg #[.string aa.1,.slice af aa.2.1.length ae,.slice an aa.2.2.1.length ak,.slice ao aa.2.2.2.1.length al,.slice ap aa.2.2.2.2.length am])] w0 (fun e w'=>e= .returned ((.int .i64 r))∧Below w0.heap.size w0 w'):=by
 refine Xo 2 (m:=37) func88 rfl rfl rfl rfl rfl ?_;rw [Zf6.eq_1] at hm;have ab:=St.start col w0;refine go ?_;refine Xy (col:=(Zk col)) 1 rfl ?_;intro a3 bk bm a6 ac;refine go ?_;refine X3 ac ?_;refine go ?_;replace ab:=ab.grow a6;refine Xe [1,6,7,1000000] (fun n f aq=>∃ ah ad aj,n=aj.length∧aa.2.1.drop ad=aj∧Za9 aa aj ad=some r∧St w0 (Zk col) ah aq∧Zo 27 1 ah aq a3 #[.string aa.1,.slice af aa.2.1.length ae,.slice an aa.2.2.1.length ak,.slice ao aa.2.2.2.1.length al,.slice ap aa.2.2.2.2.length am]∧[8].map f=[.int .i64 ad]) aa.2.1.length ⟨_,0,_,rfl,rfl,hm,ab,ac,rfl⟩ ?_;clear hm;intro n f aq hI;obtain ⟨ah,ad,aj,hn,hl,hm,ab,ac,hs⟩:=hI;subst hn;refine .lL [8] hs ?_;replace ag:=ag.keep (Zl.start col w0);replace ai:=ai.keep (Zl.start col w0)
 cases aj with
 | nil=>
  have hk:¬ ((ad:Int)<(aa.2.1.length:Int)):=by have:=List.drop_eq_nil_iff.1 hl;omega
  have hkb:=decide_eq_false hk;rw [Za9.eq_1] at hm;refine go ?_;refine Yv (congrArg Value.bool hkb)<|go ?_;cases hm;exact ⟨rfl,rfl,ab.below⟩
 | cons bn a4=>
  obtain ⟨av,a7,a8⟩:=Y1 hl;have hk:(ad:Int)<(aa.2.1.length:Int):=by omega
  have hkb:=decide_eq_true hk;rw [Za9.eq_2] at hm;refine go ?_;refine Yw (congrArg Value.bool hkb)<|go ?_;refine lI av ((ag.ks ab).addr av)<|lW ((ag.ks ab).atStr av)<|Ym rfl<|lAT rfl<|Zm<|Zhg<|Zw ?_;refine Wp.cutK [1,3,6,7,8,1000000] (fun f aw=>∃ ax ay,Zf7 aa ad (Za9 aa a4) ay=some r∧St w0 (Zk col) ax aw∧Zo 27 1 ax aw a3 #[.string aa.1,.slice af aa.2.1.length ae,.slice an aa.2.2.1.length ak,.slice ao aa.2.2.2.1.length al,.slice ap aa.2.2.2.2.length am]∧[13].map f=[.bool ay]) ?_ ?_
  ·intro f aw hJ;obtain ⟨ax,ay,hm,ab,ac,hs⟩:=hJ;rw [Zf7.eq_1] at hm;refine .lL [13] hs ?_;refine Zs hm (fun hb hm=>go ?_) fun hb hm=>go ?_
   ·cases hm;exact ⟨rfl,rfl,ab.below⟩
   refine X3 ac<|Yn rfl ?_;obtain ⟨bo,az,hm⟩:=bZ hm;refine lI az ((ai.ks ab).addr az) ?_;obtain ⟨_,a9,ba⟩:=(ai.ks ab).atN az;obtain ⟨⟨bp,bq,rfl,br⟩,_⟩:=a9;refine lW ba.one<|go ?_;refine Zs hm (fun hb hm=>go ?_) fun hb hm=>go ?_
   ·cases hm;exact ⟨rfl,rfl,ab.below⟩
   exact ⟨a4.length,by simp,rfl,⟨_,_,_,rfl,a7,hm,ab,ac,(Y7 (congrArg (Value.int .i64) (Y3 (Nat.lt_of_lt_of_le a8 (ag.ks ab).1.1))) rfl)⟩⟩
  refine Wv<|X3 ac<|Yn rfl ?_;obtain ⟨a0,hm⟩:=Xc hm;refine lv (v:=.slice af (Int.toNat (ad:Int)) ae) rfl rfl (Zjs underlying22 sizeOf9 rfl rfl a0.1 (by have:=(ag.ks ab).1.2;have:=a0.2;omega))<|.ld (d:=17) (v:=(.slice af ((aa.2.1.take (Int.toNat (ad:Int))).length) ae)) (congrArg (fun n=>Value.slice af n ae) (List.length_take_of_le (show (Int.toNat (ad:Int))≤aa.2.1.length by have:=a0.2;omega)).symm) ?_;refine lMT rfl ?_;obtain ⟨bs,bb,hm⟩:=bZ hm;refine Zi (Z0g bb ((ag.ks ab).take (Int.toNat (ad:Int)))) ?_;rintro _ a5 ⟨rfl,ar⟩;refine ⟨_,rfl,?_⟩;replace ar:Zg ah aq ah a5:=.of_below ar;refine X5 rfl ?_;replace ac:=ac.gr ar;replace ab:=ab.grow ar;refine X1 hm (fun a1 hm=>go ?_) fun a1 hm=>go ?_
  ·refine lV (.bool true) (Xm (congrArg Value.bool a1) rfl)<|go ?_;exact ⟨rfl,_,_,hm,ab,ac,rfl⟩
  refine X8 ⟨_,_,rfl⟩ ?_;refine go ?_;refine lW ((ac.atN).nth (q:=2) rfl)<|go ?_;obtain ⟨bt,a2,hm⟩:=bZ hm;refine lI a2 ((ai.ks ab).addr a2) ?_;refine go ?_;obtain ⟨_,bc,bd⟩:=(ai.ks ab).atN a2;obtain ⟨⟨bu,bv,rfl,be⟩,_⟩:=bc;refine lW bd.one<|go ?_;obtain ⟨bf,bg,hm⟩:=bZ hm;refine Zi (Zzw bg be) ?_;rintro _ bh ⟨rfl,au⟩;refine ⟨_,rfl,?_⟩;replace au:Zg ah a5 ah bh:=.of_below au;refine lV (.bool bf) (Xd (congrArg Value.bool a1) rfl)<|go ?_;replace ac:=ac.gr au;replace ab:=ab.grow au;exact ⟨rfl,_,_,hm,ab,ac,rfl⟩
def Zf4 (aa:Bool) (ab:List Int) (ac:List Int):Option R0:=
  some ((aa,ab),ac)
def Zcc (N:Nat) (aa:R0):Option R0:=
  (Zdu N aa.2).bind fun ab=>if (decide ((ab.length:Int)=0))=true then ((Zal N 1).bind fun ac=>Zf4 aa.1.1 aa.1.2 ac) else (Zf4 aa.1.1 aa.1.2 aa.2)
theorem Zrp {N am a1:Nat} {an a2:Option Addr} {col:Ze} {w0:World} {ad r:R0} (hm:Zcc N ad=some r) (ai:Sl (Za.int .u32) col w0 an am ad.1.2) (aj:Sl (Za.int .u32) col w0 a2 a1 ad.2):
    Calls Tryz.prog 36 #[(.agg #[.bool ad.1.1,.slice an ad.1.2.length am,.slice a2 ad.2.length a1])] w0 (fun e w'=>∃ (col':Ze) (ra1:Option Addr) (rc2:Nat) (ra4:Option Addr) (rc5:Nat),e= .returned ((.agg #[.bool r.1.1,.slice ra1 r.1.2.length rc2,.slice ra4 r.2.length rc5]))∧Zg col w0 col' w'∧Sl (Za.int .u32) col' w' ra1 rc2 r.1.2∧Sl (Za.int .u32) col' w' ra4 rc5 r.2):=by
 refine Yu (m:=11) func36 rfl rfl rfl ?_;rw [Zcc.eq_1] at hm;have aa:=St.start col w0;refine go ?_;refine Xy (col:=(Zk col)) 1 rfl ?_;intro a3 bj a8 a9 ab;refine Xl (col:=a8) #[.bool false,.slice none (([]:List Int).length) 0,.slice none (([]:List Int).length) 0] 2 zeroValue35 ?_;intro ba bk bm a4 ac;refine Zm<|Zw ?_;replace ai:=ai.keep (Zl.start col w0);replace aj:=aj.keep (Zl.start col w0);replace aa:=(aa.grow a9).grow a4;replace ab:=ab.gr a4;refine Wp.cutK [1,2,1000000] (fun f ae=>∃ af ao ap aq ak ar au al,Zf4 ao ak al=some r∧St w0 (Zk col) af ae∧Sl (Za.int .u32) af ae ap aq ak∧Sl (Za.int .u32) af ae ar au al∧Zo 35 1 af ae a3 #[.bool ao,.slice ap ak.length aq,.slice ar al.length au]∧Zo 35 2 af ae ba #[.bool false,.slice none (([]:List Int).length) 0,.slice none (([]:List Int).length) 0]) ?_ ?_
 ·intro f ae hJ;obtain ⟨af,ao,ap,aq,ak,ar,au,al,hm,aa,av,aw,ab,ac⟩:=hJ;rw [Zf4.eq_1] at hm;refine go ?_;refine lV _ (Xj isAgg35 sizeOf35 ab)<|Z2 ac ?_;intro bn ax bb bc;refine go ?_;cases hm;replace av:=av.kp ax;replace aw:=aw.kp ax;replace aa:=aa.kp ax bb;exact ⟨rfl,_,ra bc.atN,_,_,_,_,_,rfl,aa.fin (cm []),aa.fs av,aa.fs aw⟩
 refine go ?_;refine X3 ab ?_;obtain ⟨bo,bd,hm⟩:=bZ hm;refine Zi (Znt 3 bd (aj.ks aa)) ?_;rintro _ bp ⟨be,bq,br,rfl,ay,bs⟩;refine ⟨_,rfl,go ?_⟩;replace ab:=ab.gr ay;replace ac:=ac.gr ay;replace aa:=aa.grow ay;refine Zs hm (fun hb hm=>?_) fun hb hm=>?_
 ·refine Wv ?_;obtain ⟨a5,bf,hm⟩:=bZ hm;refine Zi (Ze0 (col:=be) 4 bf) ?_;rintro _ bt ⟨bg,a6,a7,rfl,az,ag⟩;refine ⟨_,rfl,?_⟩;refine X8 ⟨_,_,rfl⟩ ?_;replace ab:=ab.gr az;refine Z2c (off:=2) (v:=(.slice a6 a5.length a7)) ab sizeOf31 rfl rfl (by intro u hu;simp only [Value.cells,List.mem_cons,List.not_mem_nil,or_false] at hu;subst hu;rfl) rfl rfl ?_;intro bh a0 bi ah;replace ah:Zo 35 1 bg bh a3 #[.bool ad.1.1,.slice an ad.1.2.length am,.slice a6 a5.length a7]:=ah;refine Zm ?_;replace ag:=ag.kp a0;replace ag:=(ag).toSlF (Zh.int .u32);replace ah:=ah.froz 4 (by decide);replace ac:=(ac.gr az).kp a0;replace ac:=ac.froz 4 (by decide);replace aa:=(aa.grow az).kp a0 bi;replace aa:=aa.froz 4 (by decide) (by decide);exact ⟨rfl,_,_,_,_,_,_,_,_,hm,aa,(ai.ks aa),ag,ah,ac⟩
 refine Yc ?_;exact ⟨rfl,_,_,_,_,_,_,_,_,hm,aa,(ai.ks aa),(aj.ks aa),ab,ac⟩
theorem Z1c:Vv Tryz.prog 35 3 56:=⟨Tryz.t35,_,rfl,rfl,rfl,rfl,rfl⟩
def Zcd (N:Nat):List R0→R9→Option R9
  | [],ab=>some ab
  | ac :: ad,ab=>(Zcc N ((ac.1.1,ac.1.2),ac.2)).bind fun aa=>Z7 ((ab.length+[((aa.1.1,aa.1.2),aa.2)].length) * 56≤140737488355328∧ab.length+[((aa.1.1,aa.1.2),aa.2)].length≤maxLen) ((Zcd N ad) (ab++[((aa.1.1,aa.1.2),aa.2)]))
termination_by structural x=>x
def Zf5 (N:Nat) (aa:R9):Option R9:=
  Z7 (aa.length * 56≤281474976710656∧aa.length≤maxLen) (Zcd N aa ([]:List R0))
theorem Zrq {N ar:Nat} {a0:Option Addr} {col:Ze} {w0:World} {ac r:R9} (c1:Nat) (hm:Zf5 N ac=some r) (h0:Sl (Za.pair (Za.pair Za.bool (Za.slice (Za.int .u32))) (Za.slice (Za.int .u32))) col w0 a0 ar ac):
    Calls Tryz.prog 92 #[.slice a0 ac.length ar] w0 (fun e w'=>∃ (col':Ze) (ra1:Option Addr) (rc2:Nat),e= .returned ((.slice ra1 r.length rc2))∧Zg col w0 col' w'∧Zc (Za.pair (Za.pair Za.bool (Za.slice (Za.int .u32))) (Za.slice (Za.int .u32))) 35 c1 col' w' ra1 rc2 r):=by
 refine Xo 2 (m:=22) func92 rfl rfl rfl rfl rfl ?_;rw [Zf5.eq_1] at hm;have ab:=St.start col w0;refine go ?_;obtain ⟨au,hm⟩:=Xc hm;refine Z2d (col:=(Zk col)) (w:=w0) (r:=(Za.pair (Za.pair Za.bool (Za.slice (Za.int .u32))) (Za.slice (Za.int .u32)))) (n:=ac.length) 1 rfl underlying71 Z1c rfl rfl rfl au.1 au.2 ?_;intro bt bu bv a2 a3;refine go ?_;replace ab:=ab.grow a2;refine Xe [10,9,1000000] (fun n f ak=>∃ af ad al am ag ae,n=ae.length∧ac.drop ad=ae∧Zcd N ae ag=some r∧St w0 (Zk col) af ak∧Zc (Za.pair (Za.pair Za.bool (Za.slice (Za.int .u32))) (Za.slice (Za.int .u32))) 35 1 af ak al am ag∧[11,3].map f=[.int .i64 ad,.slice al ag.length am]) ac.length ⟨_,0,_,_,_,_,rfl,rfl,hm,ab,a3,rfl⟩ ?_;clear hm;intro n f ak hI;obtain ⟨af,ad,al,am,ag,ae,hn,hl,hm,ab,ah,hs⟩:=hI;subst hn;refine .lL [11,3] hs ?_;replace h0:=h0.keep (Zl.start col w0)
 cases ae with
 | nil=>
  have hk:¬ ((ad:Int)<(ac.length:Int)):=by have:=List.drop_eq_nil_iff.1 hl;omega
  have hkb:=decide_eq_false hk;rw [Zcd.eq_1] at hm;refine go ?_;refine Yv (congrArg Value.bool hkb)<|go ?_;cases hm;exact ⟨rfl,_,_,_,rfl,ab.fin (cm [(1,c1)]),ab.fo ah⟩
 | cons an a4=>
  obtain ⟨ao,a5,a6⟩:=Y1 hl;have hk:(ad:Int)<(ac.length:Int):=by omega
  have hkb:=decide_eq_true hk;rw [Zcd.eq_2] at hm;refine go ?_;refine Yw (congrArg Value.bool hkb)<|go ?_;refine lI ao ((h0.ks ab).addr ao) ?_;obtain ⟨_,a7,a8⟩:=(h0.ks ab).atN ao;obtain ⟨_,_,rfl,a9,ba⟩:=Vu a7;obtain ⟨_,_,rfl,bb,bc⟩:=Vu a9;obtain ⟨rfl,_⟩:=bb;obtain ⟨⟨bd,be,rfl,ap⟩,_⟩:=bc;obtain ⟨⟨bf,bg,rfl,aq⟩,_⟩:=ba;refine lV (.agg #[.bool an.1.1,.slice bd an.1.2.length be,.slice bf an.2.length bg]) (Xt isAgg35 sizeOf35 rfl rfl a8)<|Xl (col:=af) #[.bool false,.slice none (([]:List Int).length) 0,.slice none (([]:List Int).length) 0] 2 zeroValue35 ?_;intro bw bx bz ai bh;refine Z2 bh ?_;intro b0 aj bi bj;refine go ?_;refine lV _ (Xj isAgg35 sizeOf35 bj) ?_;obtain ⟨aa,bk,hm⟩:=bZ hm;replace ap:=(ap.gr ai).kp aj;replace aq:=(aq.gr ai).kp aj;refine Zi (Zrp bk ap aq) ?_;rintro _ b1 ⟨bm,av,aw,ax,ay,rfl,az,bn,bo⟩;refine ⟨_,rfl,?_⟩;refine Zay (col:=bm) (r:=(Za.pair (Za.pair Za.bool (Za.slice (Za.int .u32))) (Za.slice (Za.int .u32)))) (xs:=[((aa.1.1,aa.1.2),aa.2)]) [(.agg #[.bool aa.1.1,.slice av aa.1.2.length aw,.slice ax aa.2.length ay])] 3 (Wd.ofF (Rows.consF (r:=(Za.pair (Za.pair Za.bool (Za.slice (Za.int .u32))) (Za.slice (Za.int .u32)))) (x:=((aa.1.1,aa.1.2),aa.2)) (cs:=[.bool aa.1.1,.slice av aa.1.2.length aw,.slice ax aa.2.length ay]) (S9 (S9 (Qt aa.1.1) (Qv bn)) (Qv bo)) Rows.nil0)) ?_;intro b2 b3 b4 a1 bp;obtain ⟨bq,hm⟩:=Xc hm;replace ah:=(((ah.gr ai).kp aj).gr az).gr a1;refine T7 ah (bp.srcN (NB.pair (NB.pair NB.bool NB.slice) NB.slice)) bq ?_;intro b5 b6 b7 b8 br bs;refine go ?_;replace ab:=((((ab.grow ai).kp aj bi).grow az).grow a1).kpp br;exact ⟨a4.length,by simp,rfl,⟨_,_,_,_,_,_,rfl,a5,hm,ab,bs,(Y7 (congrArg (Value.int .i64) (Y3 (Nat.lt_of_lt_of_le a6 (h0.ks ab).1.1))) rfl)⟩⟩
def Zcs (N:Nat) (ab:List R0) (ac:Int):Nat→Int→Option (List R9)
  | 0,_=>none
  | ad+1,aa=>if (decide (aa<(ab.length:Int)))=true then (Z7 ((0:Int)≤aa∧aa≤(ab.length:Int)) (Z7 ((0:Int)≤aa∧aa≤(i64.wrap (aa+(if ((ab.drop (Int.toNat aa)).length:Int)<ac then ((ab.drop (Int.toNat aa)).length:Int) else ac)))∧(i64.wrap (aa+(if ((ab.drop (Int.toNat aa)).length:Int)<ac then ((ab.drop (Int.toNat aa)).length:Int) else ac)))≤(i64.wrap (aa+(if ((ab.drop (Int.toNat aa)).length:Int)<ac then ((ab.drop (Int.toNat aa)).length:Int) else ac)))∧(i64.wrap (aa+(if ((ab.drop (Int.toNat aa)).length:Int)<ac then ((ab.drop (Int.toNat aa)).length:Int) else ac)))≤(ab.length:Int)) (((Zcs N ab ac ad) (i64.wrap (aa+ac))).bind fun ae=>some ((ab.take (Int.toNat (i64.wrap (aa+(if ((ab.drop (Int.toNat aa)).length:Int)<ac then ((ab.drop (Int.toNat aa)).length:Int) else ac))))).drop (Int.toNat aa) :: ae)))) else (some [])
termination_by structural x=>x
def Zl4 (N:Nat) (aa:List R0) (ab:Int):Option (List R9):=
  Zcs N aa ab N 0
theorem Z0e (N:Nat) (col:Ze) (w0:World) (g0:Nat) (af0:Option Addr) (capf0:Nat) (ab:List R0) (hf0:Sl (Za.pair (Za.pair Za.bool (Za.slice (Za.int .u32))) (Za.slice (Za.int .u32))) col w0 af0 capf0 ab) (hb0:Zo 71 450 col w0 g0 #[.slice af0 ab.length capf0]) (g1:Nat) (ac:Int) (hb1:Zo 3 450 col w0 g1 #[.int .i64 ac]) (r:List R9) (hm:Zl4 N ab ac=some r):
    Zq3 Tryz.prog 1 176 [.pointer (some ⟨g0,0,none⟩),.pointer (some ⟨g1,0,none⟩)] (fun (y:List R0) (col:Ze) (w:World) (args:List Value)=>∃ (a0:Option Addr) (ak:Nat),args=[.slice a0 y.length ak]∧Sl (Za.pair (Za.pair Za.bool (Za.slice (Za.int .u32))) (Za.slice (Za.int .u32))) col w a0 ak y) r col w0:=by
 intro l J X hjs hxs hy ad;refine Zkn (m:=31) (args:=[.func (.yield l) #[] #[],.pointer (some ⟨g0,0,none⟩),.pointer (some ⟨g1,0,none⟩)]) func176 rfl rfl rfl rfl ?_;rw [Zl4.eq_1] at hm;refine go ?_;refine Xe [0,1,2,1000000] (fun n f ah=>∃ ae r aa af,af=n∧Zcs N ab ac af aa=some r∧J r ae ah∧Sl (Za.pair (Za.pair Za.bool (Za.slice (Za.int .u32))) (Za.slice (Za.int .u32))) ae ah af0 capf0 ab∧Zo 71 450 ae ah g0 #[.slice af0 ab.length capf0]∧Zo 3 450 ae ah g1 #[.int .i64 ac]∧[4].map f=[.int .i64 aa]) N ⟨_,_,0,_,rfl,hm,ad,hf0,hb0,hb1,rfl⟩ ?_;clear hm;intro n f ah hI;obtain ⟨ae,r,aa,af,hn,hm,ad,hf0,hb0,hb1,hs⟩:=hI;subst hn;refine .lL [4] hs ?_
 cases af with
 | zero=>rw [Zcs.eq_1] at hm;cases hm
 | succ af=>
  rw [Zcs.eq_2] at hm;refine go ?_;refine lW hb0.at1<|go ?_;refine Zs hm (fun hb hm=>go ?_) fun hb hm=>go ?_
  ·refine Ur (col:=ae) (by kernel_rfl) (by kernel_rfl)<|qW (fun _ hC=>hb1.at1.gr (hC.bl ae)) ?_;refine qW (fun _ hC=>hb0.at1.gr (hC.bl ae)) ?_;refine go ?_;obtain ⟨al,hm⟩:=Xc hm;have ap:=hf0.drop (sz:=3) rfl (Int.toNat aa);refine qv (v:=.slice (if capf0=(Int.toNat aa) then af0 else af0.map (·.add ((Int.toNat aa) * 3))) (ab.length - (Int.toNat aa)) (capf0 - (Int.toNat aa))) rfl (fun _ hC=>Zwr underlying71 sizeOf35 rfl rfl al.1 al.2) ?_;generalize (if capf0=(Int.toNat aa) then af0 else af0.map (·.add ((Int.toNat aa) * 3)))=am at *;refine .ld (d:=16) (v:=(.slice am ((ab.drop (Int.toNat aa)).length) (capf0 - (Int.toNat aa)))) (congrArg (fun n=>Value.slice am n (capf0 - (Int.toNat aa))) (List.length_drop (i:=(Int.toNat aa)) (l:=ab)).symm) ?_;refine go ?_;refine qv (v:=(.int .i64 (if ((ab.drop (Int.toNat aa)).length:Int)<ac then ((ab.drop (Int.toNat aa)).length:Int) else ac))) rfl (fun _ hC=>Zms ac ((ab.drop (Int.toNat aa)).length:Int) rfl rfl) ?_;refine go ?_;refine Vn ?_;intro aq hC;replace hC:=hC.bl ae;replace hf0:=hf0.gr hC;replace hb0:=hb0.gr hC;replace hb1:=hb1.gr hC;replace ad:=hjs _ _ _ _ _ ad hC.toP;refine go ?_;refine lM (.func (.yield l) #[] #[])<|lW hb0.at1<|go ?_;obtain ⟨ag,hm⟩:=Xc hm;have an:=((hf0.take (Int.toNat (i64.wrap (aa+(if ((ab.drop (Int.toNat aa)).length:Int)<ac then ((ab.drop (Int.toNat aa)).length:Int) else ac))))).recap (show (ab.take (Int.toNat (i64.wrap (aa+(if ((ab.drop (Int.toNat aa)).length:Int)<ac then ((ab.drop (Int.toNat aa)).length:Int) else ac))))).length≤(Int.toNat (i64.wrap (aa+(if ((ab.drop (Int.toNat aa)).length:Int)<ac then ((ab.drop (Int.toNat aa)).length:Int) else ac)))) by rw [List.length_take (i:=(Int.toNat (i64.wrap (aa+(if ((ab.drop (Int.toNat aa)).length:Int)<ac then ((ab.drop (Int.toNat aa)).length:Int) else ac))))) (l:=ab)];have:=ag.2;omega)).drop (sz:=3) rfl (Int.toNat aa);refine lv (v:=.slice (if (Int.toNat (i64.wrap (aa+(if ((ab.drop (Int.toNat aa)).length:Int)<ac then ((ab.drop (Int.toNat aa)).length:Int) else ac))))=(Int.toNat aa) then af0 else af0.map (·.add ((Int.toNat aa) * 3))) ((Int.toNat (i64.wrap (aa+(if ((ab.drop (Int.toNat aa)).length:Int)<ac then ((ab.drop (Int.toNat aa)).length:Int) else ac)))) - (Int.toNat aa)) ((Int.toNat (i64.wrap (aa+(if ((ab.drop (Int.toNat aa)).length:Int)<ac then ((ab.drop (Int.toNat aa)).length:Int) else ac)))) - (Int.toNat aa))) rfl rfl (Z4b underlying71 sizeOf35 rfl rfl rfl rfl ag.1 ag.2.1 ag.2.2.1 (by have:=hf0.1.2;have:=ag.2.2.2;omega)) ?_
   generalize (if (Int.toNat (i64.wrap (aa+(if ((ab.drop (Int.toNat aa)).length:Int)<ac then ((ab.drop (Int.toNat aa)).length:Int) else ac))))=(Int.toNat aa) then af0 else af0.map (·.add ((Int.toNat aa) * 3)))=ai at *;refine .ld (d:=28) (v:=(.slice ai (((ab.take (Int.toNat (i64.wrap (aa+(if ((ab.drop (Int.toNat aa)).length:Int)<ac then ((ab.drop (Int.toNat aa)).length:Int) else ac))))).drop (Int.toNat aa)).length) ((Int.toNat (i64.wrap (aa+(if ((ab.drop (Int.toNat aa)).length:Int)<ac then ((ab.drop (Int.toNat aa)).length:Int) else ac)))) - (Int.toNat aa)))) (congrArg (fun n=>Value.slice ai n ((Int.toNat (i64.wrap (aa+(if ((ab.drop (Int.toNat aa)).length:Int)<ac then ((ab.drop (Int.toNat aa)).length:Int) else ac)))) - (Int.toNat aa))) (show (Int.toNat (i64.wrap (aa+(if ((ab.drop (Int.toNat aa)).length:Int)<ac then ((ab.drop (Int.toNat aa)).length:Int) else ac)))) - (Int.toNat aa)=((ab.take (Int.toNat (i64.wrap (aa+(if ((ab.drop (Int.toNat aa)).length:Int)<ac then ((ab.drop (Int.toNat aa)).length:Int) else ac))))).drop (Int.toNat aa)).length by rw [List.length_drop (i:=(Int.toNat aa)) (l:=ab.take (Int.toNat (i64.wrap (aa+(if ((ab.drop (Int.toNat aa)).length:Int)<ac then ((ab.drop (Int.toNat aa)).length:Int) else ac))))),List.length_take (i:=(Int.toNat (i64.wrap (aa+(if ((ab.drop (Int.toNat aa)).length:Int)<ac then ((ab.drop (Int.toNat aa)).length:Int) else ac))))) (l:=ab)];have:=ag.2;omega)) ?_;obtain ⟨ar,hc_14m,ao⟩:=bZ hm;cases ao;have hm:=hc_14m;refine ly1 rfl rfl rfl (hy _ _ _ _ [(.slice ai (((ab.take (Int.toNat (i64.wrap (aa+(if ((ab.drop (Int.toNat aa)).length:Int)<ac then ((ab.drop (Int.toNat aa)).length:Int) else ac))))).drop (Int.toNat aa)).length) ((Int.toNat (i64.wrap (aa+(if ((ab.drop (Int.toNat aa)).length:Int)<ac then ((ab.drop (Int.toNat aa)).length:Int) else ac)))) - (Int.toNat aa)))] ad ⟨ai,((Int.toNat (i64.wrap (aa+(if ((ab.drop (Int.toNat aa)).length:Int)<ac then ((ab.drop (Int.toNat aa)).length:Int) else ac)))) - (Int.toNat aa)),rfl,an⟩) ?_;rintro _ au ⟨av,aj,⟨rfl,hJ⟩ | ⟨rfl,hX⟩⟩
   ·refine ⟨_,rfl,?_⟩;have ad:=hJ;refine go ?_;refine Yv rfl<|go ?_;replace hb1:=hb1.kpp aj;refine lW hb1.at1<|go ?_;replace hf0:=hf0.kpp aj;replace hb0:=hb0.kpp aj;exact ⟨af,by omega,rfl,⟨_,_,_,_,rfl,hm,ad,hf0,hb0,hb1,rfl⟩⟩
   refine ⟨_,rfl,?_⟩;have ad:=hX;refine go ?_;refine Yw rfl<|Vp ?_;exact ⟨rfl,⟨_,rfl⟩,_,.inr ad⟩
  cases hm;exact ⟨rfl,⟨_,rfl⟩,_,.inl ad⟩
def Zl5 (N:Nat) (aa:R9) (ab:Int):Option (List R9):=
  Zl4 N aa ab
def Zl3 (N:Nat) (ab:R9) (aa:Int):Option (List R9):=
  if (decide (aa<1))=true then none else (Zl5 N ab aa)
theorem Z0d {N aa:Nat} {a0:Option Addr} {col:Ze} {w0:World} {ac:R9} {ad:Int} {r:(List R9)} (hm:Zl3 N ac ad=some r) (h0:Sl (Za.pair (Za.pair Za.bool (Za.slice (Za.int .u32))) (Za.slice (Za.int .u32))) col w0 a0 aa ac):
    Calls Tryz.prog 151 #[.slice a0 ac.length aa,.int .i64 ad] w0 (fun e w'=>∃ (col':Ze) (rv1:Value),e= .returned (rv1)∧Zg col w0 col' w'∧It Tryz.prog 1 rv1 (fun (y:List R0) (col:Ze) (w:World) (args:List Value)=>∃ (a0:Option Addr) (aa:Nat),args=[.slice a0 y.length aa]∧Sl (Za.pair (Za.pair Za.bool (Za.slice (Za.int .u32))) (Za.slice (Za.int .u32))) col w a0 aa y) r q0 col' w'):=by
 refine Xo 4 (m:=9) func151 rfl rfl rfl rfl rfl ?_;rw [Zl3.eq_1] at hm;have ab:=St.start col w0;refine go ?_;refine Zku (col:=(Zk col)) (v:=(.slice a0 ac.length aa)) 1 rfl rfl ?_;intro af ap an aq ae;replace ae:Zo 71 1 an ap af #[.slice a0 ac.length aa]:=ae;refine Zku (col:=an) (v:=(.int .i64 ad)) 2 rfl rfl ?_;intro ag ar au ao ah;replace ah:Zo 3 2 au ar ag #[.int .i64 ad]:=ah;refine lv (v:=_) rfl rfl (Uq rfl)<|Zm<|Zw ?_;replace h0:=h0.keep (Zl.start col w0);replace ab:=(ab.grow aq).grow ao;replace ae:=ae.gr ao;refine Wp.cutK [2,3,1000000] (fun f aj=>∃ ai,Zl5 N ac ad=some r∧St w0 (Zk col) ai aj∧Zo 71 1 ai aj af #[.slice a0 ac.length aa]∧Zo 3 2 ai aj ag #[.int .i64 ad]) ?_ ?_
 ·intro f aj hJ;obtain ⟨ai,hm,ab,ae,ah⟩:=hJ;rw [Zl5.eq_1] at hm;refine go ?_;refine lV (.func (.func 176) #[] #[.pointer (some ⟨af,0,none⟩),.pointer (some ⟨ag,0,none⟩)]) (Z32 rfl rfl)<|lA (.func (.func 176) #[] #[.pointer (some ⟨af,0,none⟩),.pointer (some ⟨ag,0,none⟩)])<|go ?_;have ak:=ab.finBox (G:=(fun n=>bif Nat.beq n 1 then 450 else bif Nat.beq n 2 then 450 else 0)) ae (by decide) (by decide) (show (fun n=>bif Nat.beq n 1 then 450 else bif Nat.beq n 2 then 450 else 0) 1=450 from rfl);have h0f:=ab.finSl (g:=(fun n=>bif Nat.beq n 1 then 450 else bif Nat.beq n 2 then 450 else 0)) rfl (h0.ks ab);have al:=ab.finBox (G:=(fun n=>bif Nat.beq n 1 then 450 else bif Nat.beq n 2 then 450 else 0)) ah (by decide) (by decide) (show (fun n=>bif Nat.beq n 1 then 450 else bif Nat.beq n 2 then 450 else 0) 2=450 from rfl);refine ⟨rfl,Ti w0.heap.size col ai (fun n=>bif Nat.beq n 1 then 450 else bif Nat.beq n 2 then 450 else 0),_,rfl,ab.fin (fun n=>bif Nat.beq n 1 then 450 else bif Nat.beq n 2 then 450 else 0),176,[.pointer (some ⟨af,0,none⟩),.pointer (some ⟨ag,0,none⟩)],rfl,call176,?_⟩;intro col9 w9 am hk9;replace ak:=ak.itk am hk9 rfl;replace h0f:=h0f.itk am hk9 rfl;replace al:=al.itk am hk9 rfl;exact Z0e N col9 w9 af a0 aa ac h0f ak ag ad al r hm
 refine go ?_;refine lW ah.at1<|go ?_;refine Zs hm (fun hb hm=>?_) fun hb hm=>?_
 ·cases hm
 refine Yc ?_;exact ⟨rfl,_,hm,ab,ae,ah⟩
def Zdp (N:Nat):Option R0:=
  (Zia N 1 1).bind fun aa=>some ((aa.1.1.1,aa.1.1.2),aa.1.2)
theorem Znr {N:Nat} {col:Ze} {w0:World} {r:R0} (c1 c2:Nat) (hm:Zdp N=some r):
    Calls Tryz.prog 35 #[] w0 (fun e w'=>∃ (col':Ze) (ra1:Option Addr) (rc2:Nat) (ra4:Option Addr) (rc5:Nat),e= .returned ((.agg #[.bool r.1.1,.slice ra1 r.1.2.length rc2,.slice ra4 r.2.length rc5]))∧Zg col w0 col' w'∧Zc (Za.int .u32) 77 c1 col' w' ra1 rc2 r.1.2∧Zc (Za.int .u32) 77 c2 col' w' ra4 rc5 r.2):=by
 refine Yu (m:=8) func35 rfl rfl rfl ?_;rw [Zdp.eq_1] at hm;have ab:=St.start col w0;refine go ?_;refine Xl (col:=(Zk col)) #[.bool false,.slice none (([]:List Int).length) 0,.slice none (([]:List Int).length) 0] 1 zeroValue35 ?_;intro ay az an ao ae;refine go ?_;obtain ⟨aa,ap,hm⟩:=bZ hm;refine Zi (Zzm (col:=an) 2 3 ap) ?_;rintro _ a0 ⟨aq,ai,aj,ak,al,rfl,am,af,ag⟩;refine ⟨_,rfl,?_⟩;refine lM (.tuple #[(.agg #[.bool aa.1.1.1,.slice ai aa.1.1.2.length aj,.slice ak aa.1.2.length al]),.int .i64 aa.2])<|lV (.agg #[.bool aa.1.1.1,.slice ai aa.1.1.2.length aj,.slice ak aa.1.2.length al]) (Xh rfl rfl)<|lV (.int .i64 aa.2) (Xh rfl rfl)<|Xl (col:=aq) #[.bool false,.slice none (([]:List Int).length) 0,.slice none (([]:List Int).length) 0] 4 zeroValue35 ?_;intro a1 a2 a3 ac ar;refine Z2 ar ?_;intro a4 ad au av;refine go ?_;refine lV _ (Xj isAgg35 sizeOf35 av) ?_;replace ae:=((ae.gr am).gr ac).kp ad;refine Z2 ae ?_;intro a5 ah aw ax;refine go ?_;cases hm;replace ab:=((((ab.grow ao).grow am).grow ac).kp ad au).kp ah aw;replace af:=((af.gr ac).kp ad).kp ah;replace ag:=((ag.gr ac).kp ad).kp ah;exact ⟨rfl,_,ra ax.atN,_,_,_,_,_,rfl,ab.fin (cm [(2,c1),(3,c2)]),ab.fo af,ab.fo ag⟩
def Zoz (aa:Bool):Option Bool:=
  some aa
def Zdr (N:Nat):List R9→Bool→Option Bool
  | [],ac=>some true
  | ad :: ae,ac=>(Za4 N ad).bind fun aa=>(Zdp N).bind fun ab=>(Tn N ((aa.1.1,aa.1.2),aa.2) ((ab.1.1,ab.1.2),ab.2)).bind fun af=>if (!decide (af=0))=true then (Zoz false) else ((Zdr N ae) ac)
termination_by structural x=>x
def Zig (N:Nat) (aa:R9) (ab:Int):Option Bool:=
  (Zl3 N aa ab).bind fun ac=>Zdr N ac false
theorem Zzx {N ah:Nat} {a0:Option Addr} {col:Ze} {w0:World} {am:R9} {ao:Int} {r:Bool} (hm:Zig N am ao=some r) (h0:Sl (Za.pair (Za.pair Za.bool (Za.slice (Za.int .u32))) (Za.slice (Za.int .u32))) col w0 a0 ah am):
    Calls Tryz.prog 94 #[.slice a0 am.length ah,.int .i64 ao] w0 (fun e w'=>e= .returned ((.bool r))∧Below w0.heap.size w0 w'):=by
 refine Z0r (m:=15) (args:=[.slice a0 am.length ah,.int .i64 ao]) func94 rfl rfl rfl ?_;rw [Zig.eq_1] at hm;have aa:=St.start col w0;replace h0:=h0.keep (Zl.start col w0);have hmk:Wx 499 (Zk col) w0 []:=.nil;refine go ?_;refine Zop (col:=(Zk col)) (v:=(.bool false)) 1 rfl zeroValue4 ?_;intro ai a4 a5 ax ab;replace ab:Zo 4 1 a5 a4 ai #[.bool false]:=ab;refine go ?_;obtain ⟨a6,a7,hm⟩:=bZ hm;replace aa:=aa.grow ax;refine Zi (Z0d a7 (h0.ks aa)) ?_;rintro _ bq ⟨a8,br,rfl,ap,a9⟩;refine ⟨_,rfl,go ?_⟩;replace hmk:=(hmk.gr ax).gr ap;replace ab:=ab.gr ap;replace aa:=aa.grow ap;refine Z5r (psl:=[9]) (arr:=(fun (y:List R0) (col:Ze) (w:World) (args:List Value)=>∃ (a0:Option Addr) (ah:Nat),args=[.slice a0 y.length ah]∧Sl (Za.pair (Za.pair Za.bool (Za.slice (Za.int .u32))) (Za.slice (Za.int .u32))) col w a0 ah y)) (ys:=a6) (col:=a8) 498 rfl a9 rfl hmk rfl rfl (by rintro _ _ _ _ ⟨_,_,rfl,_⟩;rfl) (fun ys_ ad ae=>∃ (ac:Bool),Zdr N ys_ ac=some r∧St w0 (Zk col) ad ae∧Zo 4 1 ad ae ai #[.bool ac]) (fun c_ ad ae=>(c_= .ret∧∃ (ac:Bool),Zoz ac=some r∧St w0 (Zk col) ad ae∧Zo 4 1 ad ae ai #[.bool ac])) ?_ ?_ ⟨false,hm,aa,ab⟩ ?_ ?_ ?_
 ·intro ys_ ad ae col2_ w2_ hJ hk;obtain ⟨ac,hm,aa,ab⟩:=hJ;exact ⟨ac,hm,aa.kpp hk rfl rfl,ab.kpp hk rfl⟩
 ·intro c_ ad ae col2_ w2_ hX hk;obtain ⟨rfl,hX⟩:=hX;obtain ⟨ac,hm,aa,ab⟩:=hX;exact ⟨rfl,⟨ac,hm,aa.kpp hk rfl rfl,ab.kpp hk rfl⟩⟩
 ·intro bs bt bu bv bw ad ae args hJ hrec hmk harr;obtain ⟨ac,hm,aa,ab⟩:=hJ;rw [Zdr.eq_2] at hm;have hki:=Zz.refl (pC 1) ad ae;obtain ⟨bx,bz,rfl,aq⟩:=harr;refine go ?_;refine ⟨_,hrec,?_⟩;intro b0 b1 aj ay hrec2;have hrec:=hrec2;refine go ?_;obtain ⟨b2,ba,hm⟩:=bZ hm;replace aq:=aq.kp aj;refine Zi (Zkg 2 3 ba aq) ?_;rintro _ b3 ⟨bb,b4,b5,b6,b7,rfl,ak,ar,au⟩;refine ⟨_,rfl,?_⟩;obtain ⟨b8,bc,hm⟩:=bZ hm;refine lc rfl rfl (Zap call35) (Znr (col:=bb) 4 5 bc:) ?_;rintro _ bd ⟨av,b9,ca,cb,cc,rfl,af,be,bf⟩;refine ⟨_,rfl,?_⟩;obtain ⟨cd,bg,hm⟩:=bZ hm;replace ar:=ar.gr af;replace au:=au.gr af;refine Zi (Zew bg ((((ar.toSlF (Zh.int .u32)).froz 3).froz 4).froz 5) ((((au.froz 2 (by decide)).toSlF (Zh.int .u32)).froz 4).froz 5) ((((be.froz 2 (by decide)).froz 3 (by decide)).toSlF (Zh.int .u32)).froz 5) ((((bf.froz 2 (by decide)).froz 3 (by decide)).froz 4 (by decide)).toSlF (Zh.int .u32))) ?_;rintro _ bh ⟨rfl,ag⟩;refine ⟨_,rfl,?_⟩;replace ag:Zg av bd av bh:=.of_below ag;refine go ?_;replace ab:=(((ab.kp aj).gr ak).gr af).gr ag;replace hmk:=(((hmk.kp aj).gr ak).gr af).gr ag;replace hki:=(((hki.kp aj ay rfl).gr ak).gr af).gr ag;replace aa:=(((aa.kp aj ay).grow ak).grow af).grow ag;replace hrec:=((hrec.gr ak).gr af).gr ag;refine Zs hm (fun hb hm=>go ?_) fun hb hm=>?_
  ·refine Zh2 (v:=(.bool false)) ab sizeOf4 rfl rfl (by intro u hu;simp only [Value.cells,List.mem_cons,List.not_mem_nil,or_false] at hu;subst hu;rfl) rfl rfl ?_;intro bi an az aw;replace aw:Zo 4 1 av bi ai #[.bool false]:=aw;refine go ?_;replace hrec:=hrec.kp an;replace hmk:=hmk.kp an;replace hki:=hki.kp an az rfl;replace aa:=aa.kp an az;exact ⟨_,hki,⟨rfl,⟨false,hm,aa,aw⟩⟩,hrec,hmk⟩
  refine Yc ?_;exact ⟨_,hki,⟨ac,hm,aa,ab⟩,hrec,hmk⟩
 ·intro bj ad ae hJ hmk;obtain ⟨ac,hm,aa,ab⟩:=hJ;rw [Zdr.eq_1] at hm;refine go ?_;refine Zh2 (v:=(.bool true)) ab sizeOf4 rfl rfl (by intro u hu;simp only [Value.cells,List.mem_cons,List.not_mem_nil,or_false] at hu;subst hu;rfl) rfl rfl ?_;intro bk a1 bm al;replace al:Zo 4 1 ad bk ai #[.bool true]:=al;refine go ?_;cases hm;replace hmk:=hmk.kp a1;refine ⟨_,(bj :: []),rfl,hmk,?_⟩;intro ce a2 bn;replace aa:=(aa.kp a1 bm).kp a2 bn;replace al:=al.kp a2;exact ⟨_,Zw4 rfl rfl isAgg4 rfl al.at1,rfl,aa.below⟩
 intro c_ bo ad ae hX hmk;obtain ⟨rfl,hX⟩:=hX;obtain ⟨ac,hm,aa,ab⟩:=hX;rw [Zoz.eq_1] at hm;refine Vp ?_;cases hm;refine ⟨_,(bo :: []),rfl,hmk,?_⟩;intro cf a3 bp;replace ab:=ab.kp a3;replace aa:=aa.kp a3 bp;exact ⟨_,Zw4 rfl rfl isAgg4 rfl ab.at1,rfl,aa.below⟩
def Zf9 (aa:Bool):Option Bool:=
  some aa
def Zf8 (N:Nat) (aa:R0):Option Bool:=
  (Zae N ((aa.1.1,aa.1.2),aa.2)).bind fun ac=>if (decide (ac<0))=true then (Zf9 true) else ((Zdp N).bind fun ab=>(Tn N ((aa.1.1,aa.1.2),aa.2) ((ab.1.1,ab.1.2),ab.2)).bind fun ad=>Zf9 (decide (0<ad)))
theorem Zzu {N al am:Nat} {an ao:Option Addr} {col:Ze} {w0:World} {ac:R0} {r:Bool} (hm:Zf8 N ac=some r) (ah:Sl (Za.int .u32) col w0 an al ac.1.2) (ai:Sl (Za.int .u32) col w0 ao am ac.2):
    Calls Tryz.prog 93 #[(.agg #[.bool ac.1.1,.slice an ac.1.2.length al,.slice ao ac.2.length am])] w0 (fun e w'=>e= .returned ((.bool r))∧Below w0.heap.size w0 w'):=by
 refine Xo 2 (m:=12) func93 rfl rfl rfl rfl rfl ?_;rw [Zf8.eq_1] at hm;have aa:=St.start col w0;refine go ?_;refine Xy (col:=(Zk col)) 1 rfl ?_;intro a6 a7 ab ay aj;refine Zkt rfl<|Zm<|Zw ?_;replace ah:=ah.keep (Zl.start col w0);replace ai:=ai.keep (Zl.start col w0);replace aa:=aa.grow ay;refine Wp.cutK [1000000] (fun f av=>∃ aw ap,Zf9 ap=some r∧St w0 (Zk col) aw av∧[2].map f=[.bool ap]) ?_ ?_
 ·intro f av hJ;obtain ⟨aw,ap,hm,aa,hs⟩:=hJ;rw [Zf9.eq_1] at hm;refine .lL [2] hs<|Vp ?_;cases hm;exact ⟨rfl,rfl,aa.below⟩
 refine W6 (col:=ab) [(0,0),(1,3),(2,1),(3,1),(4,0),(5,3),(6,3),(7,1),(8,1),(9,1)] (by kernel_rfl) (by kernel_rfl)<|xv rfl rfl (fun _ hC=>Xj isAgg35 sizeOf35 (aj.gr (hC.bl ab))) ?_;refine xe rfl rfl ?_;intro az hC0;have hC:=hC0.bl ab;obtain ⟨ae,a0,hm⟩:=bZ hm;replace aa:=aa.grow hC;refine Zi (Znp a0 (ah.ks aa) (ai.ks aa)) ?_;rintro _ a1 ⟨rfl,ag⟩;refine ⟨_,rfl,?_⟩;replace ag:Zg ab az ab a1:=.of_below ag;refine Zm<|Yd ab hC0 ag<|xu rfl rfl (fun _=>Zp6 _ _ rfl rfl) ?_;refine xu rfl rfl (fun _=>r_mB rfl) ?_;replace aj:=(aj.gr hC).gr ag;replace aa:=aa.grow ag;refine X1 hm (fun ad hm=>?_) fun ad hm=>?_
 ·refine Zna (b:=decide (ae<0)) 6 rfl rfl rfl rfl rfl (by rw [ad];rfl)<|Zna (b:=decide (ae<0)) 6 rfl rfl rfl rfl rfl (by rw [ad];rfl)<|Zna (b:=decide (ae<0)) 6 rfl rfl rfl rfl rfl (by rw [ad];rfl)<|Zna (b:=decide (ae<0)) 6 rfl rfl rfl rfl rfl (by rw [ad];rfl)<|xu (v:=(.bool true)) rfl rfl (fun _=>Xm (congrArg Value.bool ad) rfl) ?_;refine xu rfl rfl (fun _=>Zmn rfl) ?_;refine W3 ?_;intro a8 hC;replace hC:=hC.bl ab;replace aa:=aa.grow hC;exact ⟨rfl,_,_,hm,aa,rfl⟩
 refine xv_g (v:=(.agg #[.bool ac.1.1,.slice an ac.1.2.length al,.slice ao ac.2.length am])) (b:=decide (ae<0)) 6 rfl rfl rfl rfl rfl (by rw [ad];rfl) (fun _ hC=>Xt isAgg35 sizeOf35 rfl rfl (aj.atN.gr (hC.bl ab))) ?_;refine xe rfl rfl ?_;intro a9 hC0;have hC:=hC0.bl ab;refine go ?_;obtain ⟨ba,a2,hm⟩:=bZ hm;refine lc rfl rfl (Zap call35) (Znr (col:=ab) 6 7 a2:) ?_;rintro _ bb ⟨af,bc,bd,be,bf,rfl,ax,aq,ar⟩;refine ⟨_,rfl,?_⟩;refine Zm<|Yd af hC0 ax<|xe rfl rfl ?_;intro a3 hC0;replace aa:=(aa.grow hC).grow ax;have hC:=hC0.bl af;refine go ?_;obtain ⟨au,a4,hm⟩:=bZ hm;replace aq:=aq.gr hC;replace ar:=ar.gr hC;replace aa:=aa.grow hC;refine Zi (Zew a4 (((ah.ks aa).froz 6).froz 7) (((ai.ks aa).froz 6).froz 7) ((aq.toSlF (Zh.int .u32)).froz 7) ((ar.froz 6 (by decide)).toSlF (Zh.int .u32))) ?_;rintro _ a5 ⟨rfl,ak⟩;refine ⟨_,rfl,?_⟩;replace ak:Zg af a3 af a5:=.of_below ak;refine Zm<|Yd af hC0 ak<|xu_g (v:=(.bool (decide (0<au)))) (b:=decide (ae<0)) 6 rfl rfl rfl rfl rfl (by rw [ad];rfl) (fun _=>Zp4 au 0 rfl rfl) ?_;refine xu (v:=(.bool (decide (0<au)))) rfl rfl (fun _=>Xd (congrArg Value.bool ad) rfl) ?_;refine xu rfl rfl (fun _=>Zmn rfl) ?_;refine W3 ?_;intro bg hC;replace hC:=hC.bl af;replace aa:=(aa.grow ak).grow hC;exact ⟨rfl,_,_,hm,aa,rfl⟩
def Zec (N:Nat):List R0→Nat→Option Int
  | [],aa=>some (-1)
  | ab :: ac,aa=>(Zf8 N ((ab.1.1,ab.1.2),ab.2)).bind fun ad=>if ad=true then (some (aa:Int)) else ((Zec N ac) (aa+1))
termination_by structural x=>x
def Zl7 (N:Nat) (aa:R9):Option Int:=
  Zec N aa 0
theorem Z0h {N aj:Nat} {a0:Option Addr} {col:Ze} {w0:World} {ab:R9} {r:Int} (hm:Zl7 N ab=some r) (h0:Sl (Za.pair (Za.pair Za.bool (Za.slice (Za.int .u32))) (Za.slice (Za.int .u32))) col w0 a0 aj ab):
    Calls Tryz.prog 150 #[.slice a0 ab.length aj,(.func (.func 93) #[] #[])] w0 (fun e w'=>e= .returned ((.int .i64 r))∧Below w0.heap.size w0 w'):=by
 refine Xo 4 (m:=19) func150 rfl rfl rfl rfl rfl ?_;rw [Zl7.eq_1] at hm;have aa:=St.start col w0;refine go ?_;refine Xe [0,1,7,1000000] (fun n f af=>∃ ae ac ad,n=ad.length∧ab.drop ac=ad∧Zec N ad ac=some r∧St w0 (Zk col) ae af∧[8].map f=[.int .i64 ac]) ab.length ⟨_,0,_,rfl,rfl,hm,aa,rfl⟩ ?_;clear hm;intro n f af hI;obtain ⟨ae,ac,ad,hn,hl,hm,aa,hs⟩:=hI;subst hn;refine .lL [8] hs ?_;replace h0:=h0.keep (Zl.start col w0)
 cases ad with
 | nil=>
  have hk:¬ ((ac:Int)<(ab.length:Int)):=by have:=List.drop_eq_nil_iff.1 hl;omega
  have hkb:=decide_eq_false hk;rw [Zec.eq_1] at hm;refine go ?_;refine Yv (congrArg Value.bool hkb)<|go ?_;cases hm;exact ⟨rfl,rfl,aa.below⟩
 | cons ag ak=>
  obtain ⟨ah,al,am⟩:=Y1 hl;have hk:(ac:Int)<(ab.length:Int):=by omega
  have hkb:=decide_eq_true hk;rw [Zec.eq_2] at hm;refine go ?_;refine Yw (congrArg Value.bool hkb)<|go ?_;refine lM (.func (.func 93) #[] #[])<|go ?_;refine lI ah ((h0.ks aa).addr ah) ?_;obtain ⟨_,an,ao⟩:=(h0.ks aa).atN ah;obtain ⟨_,_,rfl,ap,aq⟩:=Vu an;obtain ⟨_,_,rfl,ar,au⟩:=Vu ap;obtain ⟨rfl,_⟩:=ar;obtain ⟨⟨av,aw,rfl,ax⟩,_⟩:=au;obtain ⟨⟨ay,az,rfl,a1⟩,_⟩:=aq;refine lV (.agg #[.bool ag.1.1,.slice av ag.1.2.length aw,.slice ay ag.2.length az]) (Xt isAgg35 sizeOf35 rfl rfl ao) ?_;obtain ⟨a4,a2,hm⟩:=bZ hm;refine lc rfl rfl (Z30 call93 rfl rfl) (Zzu a2 ax a1:) ?_;rintro _ a3 ⟨rfl,ai⟩;refine ⟨_,rfl,?_⟩;replace ai:Zg ae af ae a3:=.of_below ai;refine Zm ?_;replace aa:=aa.grow ai;refine Zs hm (fun hb hm=>go ?_) fun hb hm=>go ?_
  ·cases hm;exact ⟨rfl,rfl,aa.below⟩
  exact ⟨ak.length,by simp,rfl,⟨_,_,_,rfl,al,hm,aa,(Y7 (congrArg (Value.int .i64) (Y3 (Nat.lt_of_lt_of_le am (h0.ks aa).1.1))) rfl)⟩⟩
def Zl6 (N:Nat) (aa:R9):Option Bool:=
  (Zl7 N aa).bind fun ab=>some (decide (0≤ab))
theorem Z0f {N ad:Nat} {a0:Option Addr} {col:Ze} {w0:World} {ab:R9} {r:Bool} (hm:Zl6 N ab=some r) (h0:Sl (Za.pair (Za.pair Za.bool (Za.slice (Za.int .u32))) (Za.slice (Za.int .u32))) col w0 a0 ad ab):
    Calls Tryz.prog 91 #[.slice a0 ab.length ad,(.func (.func 93) #[] #[])] w0 (fun e w'=>e= .returned ((.bool r))∧Below w0.heap.size w0 w'):=by
 refine Xo 4 (m:=9) func91 rfl rfl rfl rfl rfl ?_;rw [Zl6.eq_1] at hm;have aa:=St.start col w0;refine go ?_;refine lM (.func (.func 93) #[] #[]) ?_;obtain ⟨ag,ae,hm⟩:=bZ hm;replace h0:=h0.keep (Zl.start col w0);refine Zi (Z0h ae (h0.ks aa)) ?_;rintro _ af ⟨rfl,ac⟩;refine ⟨_,rfl,?_⟩;replace ac:Zg (Zk col) w0 (Zk col) af:=.of_below ac;refine go ?_;cases hm;replace aa:=aa.grow ac;exact ⟨rfl,rfl,aa.below⟩
def Zdq (ab:R1):List Int→Int→Option Int
  | [],aa=>some aa
  | ad :: ae,aa=>(Zp ab.2.2.1 ad).bind fun ac=>(Zdq ab ae) (if 1099511627776<(i64.wrap (aa * (ac.length:Int))) then 1099511627776 else (i64.wrap (aa * (ac.length:Int))))
termination_by structural x=>x
def Zga (aa:R1) (ab:Int):Option Int:=
  (Zp aa.2.2.2.1 ab).bind fun ac=>Zdq aa ac 1
theorem Zzv {am an ao ap:Nat} {aq ar au av:Option Addr} {col:Ze} {w0:World} {aa:R1} {a0 r:Int} (hm:Zga aa a0=some r) (bc:Sl Za.str col w0 aq am aa.2.1) (ai:Sl (Za.slice Za.str) col w0 ar an aa.2.2.1) (aj:Sl (Za.slice (Za.int .i64)) col w0 au ao aa.2.2.2.1) (bd:Sl (Za.slice (Za.pair (Za.pair Za.bool (Za.slice (Za.int .u32))) (Za.slice (Za.int .u32)))) col w0 av ap aa.2.2.2.2):
    Calls Tryz.prog 90 #[(.agg #[.string aa.1,.slice aq aa.2.1.length am,.slice ar aa.2.2.1.length an,.slice au aa.2.2.2.1.length ao,.slice av aa.2.2.2.2.length ap]),.int .i64 a0] w0 (fun e w'=>e= .returned ((.int .i64 r))∧Below w0.heap.size w0 w'):=by
 refine Xo 4 (m:=29) func90 rfl rfl rfl rfl rfl ?_;rw [Zga.eq_1] at hm;have ab:=St.start col w0;refine go ?_;refine Xy (col:=(Zk col)) 1 rfl ?_;intro a1 be bf a2 ae;refine go ?_;refine X3 ae<|Yn rfl ?_;obtain ⟨af,aw,hm⟩:=bZ hm;replace aj:=aj.keep (Zl.start col w0);replace ab:=ab.grow a2;refine lI aw ((aj.ks ab).addr aw) ?_;obtain ⟨_,a3,a4⟩:=(aj.ks ab).atN aw;obtain ⟨⟨a5,a6,rfl,ac⟩,_⟩:=a3;refine lW a4.one<|go ?_;refine Xe [12,13,2,1000000] (fun n f ak=>∃ al ag ad ah,n=ah.length∧af.drop ag=ah∧Zdq aa ah ad=some r∧St w0 (Zk col) al ak∧Sl (Za.int .i64) al ak a5 a6 af∧Zo 27 1 al ak a1 #[.string aa.1,.slice aq aa.2.1.length am,.slice ar aa.2.2.1.length an,.slice au aa.2.2.2.1.length ao,.slice av aa.2.2.2.2.length ap]∧[14,5].map f=[.int .i64 ag,.int .i64 ad]) af.length ⟨_,0,1,_,rfl,rfl,hm,ab,ac,ae,rfl⟩ ?_;clear hm;intro n f ak hI;obtain ⟨al,ag,ad,ah,hn,hl,hm,ab,ac,ae,hs⟩:=hI;subst hn;refine .lL [14,5] hs ?_;replace ai:=ai.keep (Zl.start col w0)
 cases ah with
 | nil=>
  have hk:¬ ((ag:Int)<(af.length:Int)):=by have:=List.drop_eq_nil_iff.1 hl;omega
  have hkb:=decide_eq_false hk;rw [Zdq.eq_1] at hm;refine go ?_;refine Yv (congrArg Value.bool hkb)<|go ?_;cases hm;exact ⟨rfl,rfl,ab.below⟩
 | cons bg a7=>
  obtain ⟨ax,a8,a9⟩:=Y1 hl;have hk:(ag:Int)<(af.length:Int):=by omega
  have hkb:=decide_eq_true hk;rw [Zdq.eq_2] at hm;refine go ?_;refine Yw (congrArg Value.bool hkb)<|go ?_;refine lI ax (ac.addr ax)<|lW (ac.atInt ax) ?_;refine go ?_;refine X3 ae<|Yn rfl ?_;obtain ⟨ay,az,hm⟩:=bZ hm;refine lI az ((ai.ks ab).addr az) ?_;obtain ⟨_,ba,bb⟩:=(ai.ks ab).atN az;obtain ⟨⟨bh,bi,rfl,bj⟩,_⟩:=ba;refine lW bb.one<|go ?_;refine lV (.int .i64 (if 1099511627776<(i64.wrap (ad * (ay.length:Int))) then 1099511627776 else (i64.wrap (ad * (ay.length:Int))))) (Zms (i64.wrap (ad * (ay.length:Int))) 1099511627776 rfl rfl)<|go ?_;exact ⟨a7.length,by simp,rfl,⟨_,_,_,_,rfl,a8,hm,ab,ac,ae,(Y7 (congrArg (Value.int .i64) (Y3 (Nat.lt_of_lt_of_le a9 ac.1.1))) rfl)⟩⟩
def Zcb (N:Nat) (ab:R1):List R9→Nat→Option Int
  | [],aa=>some 0
  | ac :: ad,aa=>(Zp ab.2.2.1 (aa:Int)).bind fun ae=>(Zf5 N ac).bind fun af=>(Zig N af (ae.length:Int)).bind fun ag=>if (!ag)=true then (some 46) else ((Zcb N ab ad) (aa+1))
termination_by structural x=>x
def Za8 (N:Nat) (aa:R1):List R9→Option Int
  | []=>Zcb N aa aa.2.2.2.2 0
  | ab :: ac=>(Zf5 N ab).bind fun ad=>(Zl6 N ad).bind fun ae=>if ae=true then (some 45) else (Za8 N aa ac)
termination_by structural x=>x
def Za7 (N:Nat) (aa:R1):List R9→Nat→Option Int
  | [],ab=>Za8 N aa aa.2.2.2.2
  | ae :: af,ab=>(Zga (aa.1,aa.2.1,aa.2.2.1,aa.2.2.2.1,aa.2.2.2.2) (ab:Int)).bind fun ac=>(Zp aa.2.2.1 (ab:Int)).bind fun ad=>if (decide (65536<(i64.wrap (ac * (ad.length:Int)))))=true then (some 4) else (if (!decide ((i64.wrap (ac * (ad.length:Int)))=(ae.length:Int)))=true then (some 60) else ((Za7 N aa af) (ab+1)))
termination_by structural x=>x
def Zca (N:Nat) (aa:R1) (ad:Bool):Option Int:=
  if ad=true then (some 60) else (if (decide (1024<(aa.2.1.length:Int)))=true then (some 4) else ((Zf6 (aa.1,aa.2.1,aa.2.2.1,aa.2.2.2.1,aa.2.2.2.2)).bind fun ab=>if (!decide (ab=0))=true then (some ab) else ((Za2 N aa.2.2.2.1).bind fun ac=>if (!decide (ac=0))=true then (some ac) else (Za7 N aa aa.2.2.2.2 0))))
def Um (N:Nat) (aa:R1):Option Int:=
  if (!decide ((aa.2.2.1.length:Int)=(aa.2.1.length:Int)))=true then (Zca N aa true) else (if (!decide ((aa.2.2.2.1.length:Int)=(aa.2.1.length:Int)))=true then (Zca N aa true) else (Zca N aa (!decide ((aa.2.2.2.2.length:Int)=(aa.2.1.length:Int)))))
theorem Zkh {N aj ak al am:Nat} {an ao ap aq:Option Addr} {col:Ze} {w0:World} {ab:R1} {r:Int} (hm:Um N ab=some r) (a2:Sl Za.str col w0 an aj ab.2.1) (ag:Sl (Za.slice Za.str) col w0 ao ak ab.2.2.1) (aw:Sl (Za.slice (Za.int .i64)) col w0 ap al ab.2.2.2.1) (ad:Sl (Za.slice (Za.pair (Za.pair Za.bool (Za.slice (Za.int .u32))) (Za.slice (Za.int .u32)))) col w0 aq am ab.2.2.2.2):
    Calls Tryz.prog 34 #[(.agg #[.string ab.1,.slice an ab.2.1.length aj,.slice ao ab.2.2.1.length ak,.slice ap ab.2.2.2.1.length al,.slice aq ab.2.2.2.2.length am])] w0 (fun e w'=>e= .returned ((.int .i64 r))∧Below w0.heap.size w0 w'):=by
 refine Xo 2 (m:=103) func34 rfl rfl rfl rfl rfl ?_;rw [Um.eq_1] at hm;have aa:=St.start col w0;refine go ?_;refine Xy (col:=(Zk col)) 1 rfl ?_;intro a3 cp cq bo ac;refine go ?_;refine X3 ac<|lV _ (Zc0 underlying22 rfl)<|Ym rfl<|Zm<|Zw<|Zw ?_;replace a2:=a2.keep (Zl.start col w0);replace ag:=ag.keep (Zl.start col w0);replace aw:=aw.keep (Zl.start col w0);replace ad:=ad.keep (Zl.start col w0);replace aa:=aa.grow bo;refine Wp.cutK [1,3,1000000] (fun f a4=>∃ ah a9,Zca N ab a9=some r∧St w0 (Zk col) ah a4∧Zo 27 1 ah a4 a3 #[.string ab.1,.slice an ab.2.1.length aj,.slice ao ab.2.2.1.length ak,.slice ap ab.2.2.2.1.length al,.slice aq ab.2.2.2.2.length am]∧[34].map f=[.bool a9]) ?_ ?_
 ·intro f a4 hJ;obtain ⟨ah,a9,hm,aa,ac,hs⟩:=hJ;rw [Zca.eq_1] at hm;refine .lL [34] hs ?_;refine Zs hm (fun hb hm=>go ?_) fun hb hm=>go ?_
  ·cases hm;exact ⟨rfl,rfl,aa.below⟩
  refine Zs hm (fun hb hm=>go ?_) fun hb hm=>go ?_
  ·cases hm;exact ⟨rfl,rfl,aa.below⟩
  refine lV _ (Xj isAgg27 sizeOf27 ac) ?_;obtain ⟨cr,bp,hm⟩:=bZ hm;refine Zi (Zzt bp (a2.ks aa) (ag.ks aa) (aw.ks aa) (ad.ks aa)) ?_;rintro _ bk ⟨rfl,a5⟩;refine ⟨_,rfl,?_⟩;replace a5:Zg ah a4 ah bk:=.of_below a5;refine go ?_;replace ac:=ac.gr a5;replace aa:=aa.grow a5;refine Zs hm (fun hb hm=>go ?_) fun hb hm=>go ?_
  ·cases hm;exact ⟨rfl,rfl,aa.below⟩
  refine X3 ac ?_;obtain ⟨cs,bq,hm⟩:=bZ hm;refine Zi (Zze bq (aw.ks aa)) ?_;rintro _ br ⟨rfl,a6⟩;refine ⟨_,rfl,?_⟩;replace a6:Zg ah bk ah br:=.of_below a6;refine go ?_;replace ac:=ac.gr a6;replace aa:=aa.grow a6;refine Zs hm (fun hb hm=>go ?_) fun hb hm=>go ?_
  ·cases hm;exact ⟨rfl,rfl,aa.below⟩
  refine X3 ac ?_;refine go ?_;refine Xe [1,49,50,1000000] (fun n f ba=>∃ ae ar ax,n=ax.length∧ab.2.2.2.2.drop ar=ax∧Za7 N ab ax ar=some r∧St w0 (Zk col) ae ba∧Zo 27 1 ae ba a3 #[.string ab.1,.slice an ab.2.1.length aj,.slice ao ab.2.2.1.length ak,.slice ap ab.2.2.2.1.length al,.slice aq ab.2.2.2.2.length am]∧[51].map f=[.int .i64 ar]) ab.2.2.2.2.length ⟨_,0,_,rfl,rfl,hm,aa,ac,rfl⟩ ?_;clear hm;intro n f ba hI;obtain ⟨ae,ar,ax,hn,hl,hm,aa,ac,hs⟩:=hI;subst hn;refine .lL [51] hs ?_
  cases ax with
  | nil=>
   have hk:¬ ((ar:Int)<(ab.2.2.2.2.length:Int)):=by have:=List.drop_eq_nil_iff.1 hl;omega
   have hkb:=decide_eq_false hk;rw [Za7.eq_1] at hm;refine go ?_;refine Yv (congrArg Value.bool hkb)<|go ?_;refine X3 ac ?_;refine go ?_;refine Xe [1,74,75,1000000] (fun n f bb=>∃ bc ay az,n=az.length∧ab.2.2.2.2.drop ay=az∧Za8 N ab az=some r∧St w0 (Zk col) bc bb∧Zo 27 1 bc bb a3 #[.string ab.1,.slice an ab.2.1.length aj,.slice ao ab.2.2.1.length ak,.slice ap ab.2.2.2.1.length al,.slice aq ab.2.2.2.2.length am]∧[76].map f=[.int .i64 ay]) ab.2.2.2.2.length ⟨_,0,_,rfl,rfl,hm,aa,ac,rfl⟩ ?_;clear hm;intro n f bb hI;obtain ⟨bc,ay,az,hn,hl,hm,aa,ac,hs⟩:=hI;subst hn;refine .lL [76] hs ?_
   cases az with
   | nil=>
    have hk:¬ ((ay:Int)<(ab.2.2.2.2.length:Int)):=by have:=List.drop_eq_nil_iff.1 hl;omega
    have hkb:=decide_eq_false hk;rw [Za8.eq_1] at hm;refine go ?_;refine Yv (congrArg Value.bool hkb)<|go ?_;refine X3 ac ?_;refine go ?_;refine Xe [1,85,86,1000000] (fun n f bd=>∃ ai au a0,n=a0.length∧ab.2.2.2.2.drop au=a0∧Zcb N ab a0 au=some r∧St w0 (Zk col) ai bd∧Zo 27 1 ai bd a3 #[.string ab.1,.slice an ab.2.1.length aj,.slice ao ab.2.2.1.length ak,.slice ap ab.2.2.2.1.length al,.slice aq ab.2.2.2.2.length am]∧[87].map f=[.int .i64 au]) ab.2.2.2.2.length ⟨_,0,_,rfl,rfl,hm,aa,ac,rfl⟩ ?_;clear hm;intro n f bd hI;obtain ⟨ai,au,a0,hn,hl,hm,aa,ac,hs⟩:=hI;subst hn;refine .lL [87] hs ?_
    cases a0 with
    | nil=>
     have hk:¬ ((au:Int)<(ab.2.2.2.2.length:Int)):=by have:=List.drop_eq_nil_iff.1 hl;omega
     have hkb:=decide_eq_false hk;rw [Zcb.eq_1] at hm;refine go ?_;refine Yv (congrArg Value.bool hkb)<|go ?_;cases hm;exact ⟨rfl,rfl,aa.below⟩
    | cons ct bs=>
     obtain ⟨af,bt,bu⟩:=Y1 hl;have hk:(au:Int)<(ab.2.2.2.2.length:Int):=by omega
     have hkb:=decide_eq_true hk;rw [Zcb.eq_2] at hm;refine go ?_;refine Yw (congrArg Value.bool hkb)<|go ?_;refine lI af ((ad.ks aa).addr af) ?_;obtain ⟨_,bv,bw⟩:=(ad.ks aa).atN af;obtain ⟨⟨cu,cv,rfl,be⟩,_⟩:=bv;refine lW bw.one<|go ?_;refine W6 (col:=ai) [(0,1),(2,1),(3,0),(4,1),(5,1),(6,0),(7,1),(1,3),(8,3),(9,1)] (by kernel_rfl) (by kernel_rfl)<|xu rfl rfl (fun _=>Ug rfl) ?_;refine xF ⟨_,_,rfl⟩ ?_;refine xW (fun _ hC=>((ac.atN).nth (q:=2) rfl).gr (hC.bl ai)) ?_;refine xu rfl rfl (fun _=>Vg rfl) ?_;obtain ⟨cw,a7,hm⟩:=bZ hm;refine xu rfl rfl (fun _=>We underlying23 sizeOf22 rfl rfl (Xk a7).1 (Xk a7).2.1 ((ag.ks aa).addr a7)) ?_;obtain ⟨_,bx,bz⟩:=(ag.ks aa).atN a7;obtain ⟨⟨cx,cy,rfl,cz⟩,_⟩:=bx;refine xW (fun _ hC=>bz.one.gr (hC.bl ai)) ?_;refine xu rfl rfl (fun _=>Zc0 underlying22 rfl) ?_;refine xe rfl rfl ?_;intro c0 hC0;have hC:=hC0.bl ai;obtain ⟨c1,b0,hm⟩:=bZ hm;replace be:=be.gr hC;refine Zi (Zrq 2 b0 be) ?_;rintro _ c2 ⟨av,c3,c4,rfl,bf,bg⟩;refine ⟨_,rfl,?_⟩;refine Zm<|Yd av hC0 bf<|xe rfl rfl ?_;intro b1 hC0;replace ac:=(ac.gr hC).gr bf;replace aa:=(aa.grow hC).grow bf;have hC:=hC0.bl av;obtain ⟨c5,b2,hm⟩:=bZ hm;replace bg:=bg.gr hC;refine Zi (Zzx b2 (bg.toSlF (Zh.pair (Zh.pair Zh.bool Zh.slice) Zh.slice))) ?_;rintro _ b3 ⟨rfl,a1⟩;refine ⟨_,rfl,?_⟩;replace a1:Zg av b1 av b3:=.of_below a1;refine Zm<|Yd av hC0 a1<|xu rfl rfl (fun _=>Zmt _ rfl) ?_;refine W3 ?_;replace ac:=(ac.gr hC).gr a1;replace aa:=(aa.grow hC).grow a1;intro c6 hC;replace hC:=hC.bl av;replace ac:=ac.gr hC;replace aa:=aa.grow hC;refine Zs hm (fun hb hm=>go ?_) fun hb hm=>go ?_
     ·cases hm;exact ⟨rfl,rfl,aa.below⟩
     exact ⟨bs.length,by simp,rfl,⟨_,_,_,rfl,bt,hm,aa,ac,(Y7 (congrArg (Value.int .i64) (Y3 (Nat.lt_of_lt_of_le bu (ad.ks aa).1.1))) rfl)⟩⟩
   | cons c7 b4=>
    obtain ⟨af,b5,b6⟩:=Y1 hl;have hk:(ay:Int)<(ab.2.2.2.2.length:Int):=by omega
    have hkb:=decide_eq_true hk;rw [Za8.eq_2] at hm;refine go ?_;refine Yw (congrArg Value.bool hkb)<|go ?_;refine lI af ((ad.ks aa).addr af) ?_;obtain ⟨_,b7,b8⟩:=(ad.ks aa).atN af;obtain ⟨⟨c8,c9,rfl,b9⟩,_⟩:=b7;refine lW b8.one<|go ?_;obtain ⟨da,ca,hm⟩:=bZ hm;refine Zi (Zrq 3 ca b9) ?_;rintro _ cb ⟨bm,db,dc,rfl,bn,cc⟩;refine ⟨_,rfl,?_⟩;obtain ⟨dd,cd,hm⟩:=bZ hm;refine Zi (Z0f cd (cc.toSlF (Zh.pair (Zh.pair Zh.bool Zh.slice) Zh.slice))) ?_;rintro _ ce ⟨rfl,a8⟩;refine ⟨_,rfl,?_⟩;replace a8:Zg bm cb bm ce:=.of_below a8;refine Zm ?_;replace ac:=(ac.gr bn).gr a8;replace aa:=(aa.grow bn).grow a8;refine Zs hm (fun hb hm=>go ?_) fun hb hm=>go ?_
    ·cases hm;exact ⟨rfl,rfl,aa.below⟩
    exact ⟨b4.length,by simp,rfl,⟨_,_,_,rfl,b5,hm,aa,ac,(Y7 (congrArg (Value.int .i64) (Y3 (Nat.lt_of_lt_of_le b6 (ad.ks aa).1.1))) rfl)⟩⟩
  | cons de cf=>
   obtain ⟨af,cg,ch⟩:=Y1 hl;have hk:(ar:Int)<(ab.2.2.2.2.length:Int):=by omega
   have hkb:=decide_eq_true hk;rw [Za7.eq_2] at hm;refine go ?_;refine Yw (congrArg Value.bool hkb)<|go ?_;refine lI af ((ad.ks aa).addr af) ?_;obtain ⟨_,ci,cj⟩:=(ad.ks aa).atN af;obtain ⟨⟨df,dg,rfl,dh⟩,_⟩:=ci;refine lW cj.one<|go ?_;refine Ur (col:=ae) (by kernel_rfl) (by kernel_rfl)<|qv rfl (fun _ hC=>Xj isAgg27 sizeOf27 (ac.gr (hC.bl ae))) ?_;refine go ?_;obtain ⟨ck,cl,hm⟩:=bZ hm;refine qc (v:=(.int .i64 ck)) rfl (fun _ hC=>⟨_,_,Zp2 call90 rfl rfl,(Zzv cl ((a2.ks aa).gr (hC.bl ae)) ((ag.ks aa).gr (hC.bl ae)) ((aw.ks aa).gr (hC.bl ae)) ((ad.ks aa).gr (hC.bl ae)):).mono fun _ _ h=>⟨h.1,hC.trans (.of_below h.2)⟩⟩) ?_;refine qF ⟨_,_,rfl⟩ ?_;refine qW (fun _ hC=>((ac.atN).nth (q:=2) rfl).gr (hC.bl ae)) ?_;refine go ?_;obtain ⟨di,bh,hm⟩:=bZ hm;refine qI bh ((ag.ks aa).addr bh) ?_;obtain ⟨_,cn,co⟩:=(ag.ks aa).atN bh;obtain ⟨⟨dj,dl,rfl,dm⟩,_⟩:=cn;refine qW (fun _ hC=>co.one.gr (hC.bl ae)) ?_;refine go ?_;refine Vn ?_;intro dn hC;replace hC:=hC.bl ae;refine go ?_;replace ac:=ac.gr hC;replace aa:=aa.grow hC;refine Zs hm (fun hb hm=>go ?_) fun hb hm=>go ?_
   ·cases hm;exact ⟨rfl,rfl,aa.below⟩
   refine Zs hm (fun hb hm=>go ?_) fun hb hm=>go ?_
   ·cases hm;exact ⟨rfl,rfl,aa.below⟩
   exact ⟨cf.length,by simp,rfl,⟨_,_,_,rfl,cg,hm,aa,ac,(Y7 (congrArg (Value.int .i64) (Y3 (Nat.lt_of_lt_of_le ch (ad.ks aa).1.1))) rfl)⟩⟩
 refine Wv<|X3 ac ?_;refine go ?_;refine X1 hm (fun bi hm=>go ?_) fun bi hm=>go ?_
 ·refine lV (.bool true) (Xm (congrArg Value.bool bi) rfl)<|X5 rfl<|lP 28 rfl rfl<|lP 28 rfl rfl<|lP 28 rfl rfl<|lP 28 rfl rfl<|lP 28 rfl rfl<|lV (.bool true) (Xm rfl rfl)<|Zm ?_;exact ⟨rfl,_,_,hm,aa,ac,rfl⟩
 refine X8 ⟨_,_,rfl⟩ ?_;refine go ?_;refine lW ((ac.atN).nth (q:=3) rfl)<|go ?_;refine lV (.bool (!decide ((ab.2.2.2.1.length:Int)=(ab.2.1.length:Int)))) (Xd (congrArg Value.bool bi) rfl)<|X5 rfl ?_;refine X1 hm (fun bj hm=>go ?_) fun bj hm=>go ?_
 ·refine lV (.bool true) (Xm (congrArg Value.bool bj) rfl)<|Zm ?_;exact ⟨rfl,_,_,hm,aa,ac,rfl⟩
 refine X8 ⟨_,_,rfl⟩ ?_;refine go ?_;refine lW ((ac.atN).nth (q:=4) rfl)<|go ?_;refine lV (.bool (!decide ((ab.2.2.2.2.length:Int)=(ab.2.1.length:Int)))) (Xd (congrArg Value.bool bj) rfl)<|Zm ?_;exact ⟨rfl,_,_,hm,aa,ac,rfl⟩
def Zlt (N:Nat) (ab:List ByteArray) (ac:ByteArray):Nat→Int→Option Int
  | 0,_=>none
  | ad+1,aa=>if (decide (aa<(ab.length:Int)))=true then ((Zp ab aa).bind fun ae=>if (decide (ae=ac))=true then (some aa) else ((Zlt N ab ac ad) (i64.wrap (aa+1)))) else (some (-1))
termination_by structural x=>x
def Zo8 (N:Nat) (aa:List ByteArray) (ab:ByteArray):Option Int:=
  Zlt N aa ab N 0
def Zlx (N:Nat) (ab:R1):Nat→R2→Int→Option R2
  | 0,_,_=>none
  | ae+1,aa,ac=>if (decide (ac<(ab.2.2.1.length:Int)))=true then ((Zp ab.2.2.1 ac).bind fun ad=>Z7 ((aa.length+[(ad.length:Int)].length) * 8≤140737488355328∧aa.length+[(ad.length:Int)].length≤maxLen) ((Zlx N ab ae) (aa++[(ad.length:Int)]) (i64.wrap (ac+1)))) else (some aa)
termination_by structural x=>x
def Zi8 (N:Nat) (aa:R1):Option R2:=
  Zlx N aa N ([]:List Int) 0
def Zlr (aa:Int) (kk_L2:(Int→Int→Option Int)) (ab:Int):Option Int:=
  kk_L2 ab (i64.wrap (aa+1))
def Zi7 (N:Nat) (aa:List Int) (ac:List Int):Nat→Int→Int→Option Int
  | 0,_,_=>none
  | af+1,ad,ab=>if (decide (ab<(aa.length:Int)))=true then ((Zp aa ab).bind fun ag=>(Zp ac ag).bind fun ae=>Z7 (ae≠0) (if (decide ((i64.wrap (Int.tdiv 1099511627776 ae))<ad))=true then (Zlr ab (Zi7 N aa ac af) 1099511627776) else (Zlr ab (Zi7 N aa ac af) (i64.wrap (ad * ae))))) else (some ad)
termination_by structural x=>x
def Zls (N:Nat) (aa:List Int) (ab:List Int):Nat→Int→Option Int
  | 0,_=>none
  | ad+1,ac=>if (decide (ac<(aa.length:Int)))=true then ((Zp aa ac).bind fun ae=>(Zp ab ae).bind fun af=>if (decide (af<1))=true then (some 0) else ((Zls N aa ab ad) (i64.wrap (ac+1)))) else (Zi7 N aa ab N 1 0)
termination_by structural x=>x
def Zo7 (N:Nat) (aa:List Int) (ab:List Int):Option Int:=
  Zls N aa ab N 0
def Zpa (aa:Bool):Option Bool:=
  some aa
def Zo9 (ab:Int) (aa:Int):Option Bool:=
  if (decide (0<aa))=true then (Z7 (aa≠0) (Zpa (decide ((i64.wrap (Int.tdiv 65536 aa))<ab)))) else (Zpa false)
def Zlu (N:Nat):Option R0:=
  (Tq N 1 1).bind fun aa=>some ((aa.1.1,aa.1.2),aa.2)
def Zlw (aa:Bool):Option Bool:=
  some aa
def Zlv (N:Nat) (aa:R0):Option Bool:=
  (Zlg N ((aa.1.1,aa.1.2),aa.2)).bind fun ac=>if (decide (ac<0))=true then (Zlw true) else ((Zlu N).bind fun ab=>(Zgy N ((aa.1.1,aa.1.2),aa.2) ((ab.1.1,ab.1.2),ab.2)).bind fun ad=>Zlw (decide (0<ad)))
def Zi9 (N:Nat) (ac:R9) (ab:Int):Nat→Int→Option Bool
  | 0,_=>none
  | af+1,aa=>if (decide (aa<(ac.length:Int)))=true then (Z7 ((0:Int)≤aa∧aa≤(i64.wrap (aa+ab))∧(i64.wrap (aa+ab))≤(ac.length:Int)) ((Zo6 N ((ac.take (Int.toNat (i64.wrap (aa+ab)))).drop (Int.toNat aa))).bind fun ad=>(Zlu N).bind fun ae=>(Zgy N ((ad.1.1,ad.1.2),ad.2) ((ae.1.1,ae.1.2),ae.2)).bind fun ag=>if (!decide (ag=0))=true then (some false) else ((Zi9 N ac ab af) (i64.wrap (aa+ab))))) else (some true)
termination_by structural x=>x
def Zun (N:Nat) (aa:R9) (ab:Int):Option Bool:=
  Zi9 N aa ab N 0
def Zlp (aa:Int) (kk_L2:(Bool→Int→Option Int)) (ab:Bool):Option Int:=
  kk_L2 ab (i64.wrap (aa+1))
def Zi6 (N:Nat) (ad:R1) (ab:Int) (kk_L1:(Int→Option Int)):Nat→Bool→Int→Option Int
  | 0,_,_=>none
  | ae+1,af,aa=>(Zp ad.2.2.1 ab).bind fun ac=>if (decide (aa<(ac.length:Int)))=true then (if af=true then (Zlp aa (Zi6 N ad ab kk_L1 ae) true) else ((Zp ac aa).bind fun ag=>(Zo8 N ac ag).bind fun ah=>Zlp aa (Zi6 N ad ab kk_L1 ae) (decide (ah<aa)))) else (if af=true then (some 40) else (if (decide ((ac.length:Int)=0))=true then (some 43) else (kk_L1 (i64.wrap (ab+1)))))
termination_by structural x=>x
def Zlq (N:Nat) (ad:R1) (aa:Int) (kk_L4:(Int→Option Int)):Nat→Int→Option Int
  | 0,_=>none
  | af+1,ab=>(Zp ad.2.2.2.2 aa).bind fun ae=>if (decide (ab<(ae.length:Int)))=true then ((Zp ae ab).bind fun ac=>(Zlv N ((ac.1.1,ac.1.2),ac.2)).bind fun ag=>if ag=true then (some 45) else ((Zlq N ad aa kk_L4 af) (i64.wrap (ab+1)))) else (kk_L4 (i64.wrap (aa+1)))
termination_by structural x=>x
def Zg3 (N:Nat) (ab:R1) (ac:List Int):Nat→Int→Option Int
  | 0,_=>none
  | ad+1,aa=>if (decide (aa<(ab.2.1.length:Int)))=true then ((Zp ab.2.2.2.2 aa).bind fun ae=>(Zp ac aa).bind fun af=>(Zun N ae af).bind fun ag=>if (!ag)=true then (some 46) else ((Zg3 N ab ac ad) (i64.wrap (aa+1)))) else (some 0)
termination_by structural x=>x
def Zg2 (N:Nat) (aa:R1) (ab:List Int):Nat→Int→Option Int
  | 0,_=>none
  | ad+1,ac=>if (decide (ac<(aa.2.1.length:Int)))=true then (Zlq N aa ac (Zg2 N aa ab ad) N 0) else (Zg3 N aa ab N 0)
termination_by structural x=>x
def Zg1 (N:Nat) (aa:R1) (ac:List Int):Nat→Int→Option Int
  | 0,_=>none
  | af+1,ab=>if (decide (ab<(aa.2.1.length:Int)))=true then ((Zp aa.2.2.2.1 ab).bind fun ag=>(Zo7 N ag ac).bind fun ad=>(Zp ac ab).bind fun ae=>(Zo9 ad ae).bind fun ah=>if ah=true then (some 4) else ((Zp aa.2.2.2.2 ab).bind fun ai=>if (!decide ((ai.length:Int)=(i64.wrap (ad * ae))))=true then (some 60) else ((Zg1 N aa ac af) (i64.wrap (ab+1))))) else (Zg2 N aa ac N 0)
termination_by structural x=>x
def Zd9 (N:Nat) (aa:R1):Nat→Int→Option Int
  | 0,_=>none
  | ad+1,ab=>if (decide (ab<(aa.2.1.length:Int)))=true then ((Zp aa.2.1 ab).bind fun ae=>(Zo8 N aa.2.1 ae).bind fun af=>Zi6 N aa ab (Zd9 N aa ad) N (decide (af<ab)) 0) else ((Zbl N aa.2.2.2.1).bind fun ac=>if (!decide (ac=0))=true then (some ac) else ((Zi8 N (aa.1,aa.2.1,aa.2.2.1,aa.2.2.2.1,aa.2.2.2.2)).bind fun ag=>Zg1 N aa ag N 0))
termination_by structural x=>x
def Zg0 (N:Nat) (aa:R1) (ab:Bool):Option Int:=
  if ab=true then (some 60) else (if (decide (1024<(aa.2.1.length:Int)))=true then (some 4) else (Zd9 N aa N 0))
def Zum (N:Nat) (aa:R1):Option Int:=
  if (!decide ((aa.2.2.1.length:Int)=(aa.2.1.length:Int)))=true then (Zg0 N aa true) else (if (!decide ((aa.2.2.2.1.length:Int)=(aa.2.1.length:Int)))=true then (Zg0 N aa true) else (Zg0 N aa (!decide ((aa.2.2.2.2.length:Int)=(aa.2.1.length:Int)))))
abbrev Z8:=ByteArray×List ByteArray×List R5×List R2×List (List QV)
instance decMemB:∀ (s:ByteArray) (l:List ByteArray),Decidable (s ∈ l)
 | _,[]=>isFalse (by simp)
 | s,x :: l=>if h:s=x then isTrue (by rw [h];exact List.mem_cons_self) else match decMemB s l with
  | isTrue h2=>isTrue (List.mem_cons_of_mem _ h2)
  | isFalse h2=>isFalse (by rw [List.mem_cons];rintro (h3 | h3) <;> contradiction)
theorem Z3e {α:Type} (l:List α) (k:Nat) (hk:k<l.length):(l.take (k+1)).Nodup↔(l.take k).Nodup∧l[k] ∉ l.take k:=by
 rw [List.take_add_one,List.getElem?_eq_getElem hk,Option.toList_some,List.nodup_append]
 constructor
 ·rintro ⟨h1,_,h3⟩
  exact ⟨h1,fun hm=>h3 _ hm _ (by simp) rfl⟩
 ·rintro ⟨h1,h2⟩
  refine ⟨h1,by simp,fun a ha b hb e=>?_⟩
  rw [List.mem_singleton] at hb
  subst hb;subst e
  exact h2 ha
theorem Zs8 (N:Nat) (l:List ByteArray) (hl:l.length<4611686018427387904) (v:Nat) (hv:v<l.length):∀ (n k:Nat),k≤v→v<n+k→l[v] ∉ l.take k→∃ j:Nat,Zlt N l l[v] n (k:Int)=some (j:Int)∧j≤v∧(j<v↔l[v] ∈ l.take v)
 | 0,k,h1,h2,_=>by omega
 | n+1,k,h1,h2,h3=>by
  have hk:k<l.length:=by omega
  rw [Zlt.eq_2,if_pos (decide_eq_true (by omega)),Z9 hk,Option.bind_some]
  by_cases he:l[k]=l[v]
  ·rw [if_pos (decide_eq_true he)]
   refine ⟨k,rfl,h1,fun h=>?_,fun h=>?_⟩
   ·rw [← he]
    exact List.mem_iff_getElem.2 ⟨k,by rw [List.length_take];omega,by rw [List.getElem_take]⟩
   ·rcases Nat.lt_or_ge k v with h4 | h4
    ·exact h4
    ·have:k=v:=by omega
     subst this;exact absurd h h3
  ·have hkv:k<v:=by
    rcases Nat.lt_or_ge k v with h4 | h4
    ·exact h4
    ·have:k=v:=by omega
     subst this;exact absurd rfl he
   rw [if_neg (by rw [decide_eq_false he];decide),Zv (by omega)]
   have:=Zs8 N l hl v hv n (k+1) (by omega) (by omega) (by
    rw [List.take_add_one,List.getElem?_eq_getElem hk,Option.toList_some,List.mem_append,List.mem_singleton]
    rintro (h | h)
    ·exact h3 h
    ·exact he h.symm)
   exact this
theorem Zs9 {N:Nat} {l:List ByteArray} (hl:l.length<4611686018427387904) {v:Nat} (hv:v<l.length) (hN:l.length<N):∃ j:Nat,Zo8 N l l[v]=some (j:Int)∧(j<v↔l[v] ∈ l.take v):=by
 obtain ⟨j,h1,_,h2⟩:=Zs8 N l hl v hv N 0 (by omega) (by omega) (by simp)
 exact ⟨j,h1,h2⟩
theorem Ztx (s:ByteArray):∀ (l:List ByteArray) (k:Nat),∃ j:Int,Zed s l k=some j∧(0≤j↔s ∈ l)
 | [],k=>⟨-1,rfl,by simp⟩
 | x :: l,k=>by
  rw [Zed.eq_2]
  by_cases h:s=x
  ·rw [if_pos (decide_eq_true h)];exact ⟨_,rfl,by simp [h]⟩
  ·rw [if_neg (by rw [decide_eq_false h];decide)]
   obtain ⟨j,h1,h2⟩:=Ztx s l (k+1)
   exact ⟨j,h1,by rw [h2,List.mem_cons];simp [h]⟩
theorem Z0y (s:ByteArray) (l:List ByteArray):Zjb l s=some (decide (s ∈ l)):=by
 obtain ⟨j,h1,h2⟩:=Ztx s l 0
 rw [Zjb,Zl8,h1,Option.bind_some]
 congr 1
 exact decide_eq_decide.2 h2
theorem Zu4:∀ (l:List ByteArray) (seen:List Re) (S:List ByteArray),S.Nodup→(∀ k,Wg seen k=if k ∈ S then some 1 else none)→Zce l seen=some (!decide (S++l).Nodup)
 | [],seen,S,h1,h2=>by rw [Zce.eq_1,List.append_nil,decide_eq_true h1];rfl
 | x :: l,seen,S,h1,h2=>by
  rw [Zce.eq_2,h2 x]
  by_cases hx:x ∈ S
  ·rw [if_pos hx,if_pos (by decide),decide_eq_false]
   ·rfl
   intro h
   exact (List.nodup_append.1 h).2.2 x hx x List.mem_cons_self rfl
  ·rw [if_neg hx,if_neg (by decide),Option.bind_some,Zu4 l _ (S++[x]) (by
    rw [List.nodup_append]
    refine ⟨h1,by simp,fun a ha b hb e=>?_⟩
    rw [List.mem_singleton] at hb;subst hb;subst e;exact hx ha) (fun k=>by
    rw [Zuv,h2 k]
    by_cases hk:k=x
    ·subst hk;rw [if_pos rfl,if_pos (by simp)]
    ·rw [if_neg hk]
     by_cases hs:k ∈ S
     ·rw [if_pos hs,if_pos (by simp [hs])]
     ·rw [if_neg hs,if_neg (by simp [hs,hk])])]
   rw [List.append_assoc];rfl
theorem Z25 (l:List ByteArray):Zif l=some (!decide l.Nodup):=by
 rw [Zif,Zu4 l [] [] .nil (fun k=>by simp [Wg]),List.nil_append]
def Sf (names:List ByteArray) (vals:List R5):Nat→Nat→Int
 | 0,_=>0
 | m+1,v=>if names.getD v ⟨#[]⟩ ∈ names.take v∨¬ (vals.getD v []).Nodup then 40 else if vals.getD v []=[] then 43 else Sf names vals m (v+1)
theorem Zu9 (n:Z8) (hl:n.2.2.1.length=n.2.1.length):∀ (l:List ByteArray) (k:Nat),n.2.1.drop k=l→k≤n.2.1.length→Za9 n l k=some (Sf n.2.1 n.2.2.1 l.length k)
 | [],k,_,_=>rfl
 | x :: l,k,hd,hk=>by
  have hk1:k<n.2.1.length:=by
   rcases Nat.lt_or_ge k n.2.1.length with h | h
   ·exact h
   ·rw [List.drop_eq_nil_of_le h] at hd;cases hd
  have hd2:=List.drop_eq_getElem_cons hk1
  rw [hd] at hd2
  obtain ⟨hx,hl2⟩:=List.cons.inj hd2
  rw [Za9.eq_2,Xg (by omega),Int.toNat_natCast,Z0y,Option.bind_some,List.length_cons,Sf,Ye hk1,← hx,Ye (by omega)]
  by_cases h1:x ∈ n.2.1.take k
  ·rw [if_pos (decide_eq_true h1),Zf7,if_pos rfl,if_pos (.inl h1)]
  ·rw [if_neg (by rw [decide_eq_false h1];decide),Z9 (by omega),Option.bind_some,Z25,Option.bind_some,Zf7]
   by_cases h2:(n.2.2.1[k]'(by omega)).Nodup
   ·rw [decide_eq_true h2,if_neg (by decide),if_neg (by simp [h1,h2]),Z9 (by omega),Option.bind_some]
    by_cases h3:n.2.2.1[k]'(by omega)=[]
    ·rw [if_pos (by rw [h3];decide),if_pos h3]
    ·rw [if_neg (by simpa using h3),if_neg h3]
     exact Zu9 n hl l (k+1) hl2.symm (by omega)
   ·rw [decide_eq_false h2,if_pos (by decide),if_pos (.inr h2)]
theorem Z28 (n:Z8) (hl:n.2.2.1.length=n.2.1.length):Zf6 n=some (Sf n.2.1 n.2.2.1 n.2.1.length 0):=by
 rw [Zf6];exact Zu9 n hl n.2.1 0 (by simp) (by omega)
theorem Zqf (N:Nat) (n:Z8) (v:Nat) (hv:v<n.2.2.1.length) (hb:n.2.2.1[v].length≤1048576) (hN:1048577<N) (hvb:v<4611686018427387904) (kk:Int→Option Int) (A:Prop) [Decidable A]:∀ (m i:Nat) (a:Bool),i≤n.2.2.1[v].length→n.2.2.1[v].length<m+i→(a=true→A∨¬ (n.2.2.1[v]).Nodup)→(a=false→¬ A∧((n.2.2.1[v]).take i).Nodup)→
  Zi6 N n (v:Int) kk m a (i:Int)=if A∨¬ (n.2.2.1[v]).Nodup then some 40 else if n.2.2.1[v]=[] then some 43 else kk ((v:Int)+1)
 | 0,i,a,h1,h2,_,_=>by omega
 | m+1,i,a,h1,h2,h3,h4=>by
  rw [Zi6.eq_2,Z9 hv,Option.bind_some]
  by_cases hi:i<n.2.2.1[v].length
  ·rw [if_pos (decide_eq_true (by omega))]
   cases a with
   | true=>
    rw [if_pos rfl,Zlp,Zv (by omega)]
    exact Zqf N n v hv hb hN hvb kk A m (i+1) true (by omega) (by omega) h3 (fun h=>by cases h)
   | false=>
    obtain ⟨j,j1,j2⟩:=Zs9 (N:=N) (l:=n.2.2.1[v]) (by omega) hi (by omega)
    have st:=Z3e n.2.2.1[v] i hi
    have h5:=h4 rfl
    rw [if_neg (by decide),Z9 hi,Option.bind_some,j1,Option.bind_some,Zlp,Zv (by omega)]
    have:=Zqf N n v hv hb hN hvb kk A m (i+1) (decide ((j:Int)<(i:Int))) (by omega) (by omega) (fun h=>.inr fun hn=>by
     have h6:=of_decide_eq_true h
     have h7:=(hn.sublist (List.take_sublist (i+1) _))
     exact (st.1 h7).2 (j2.1 (by omega))) (fun h=>⟨h5.1,st.2 ⟨h5.2,fun hm=>by
     have h6:=of_decide_eq_false h
     have:=j2.2 hm
     omega⟩⟩)
    exact this
  ·have hil:i=n.2.2.1[v].length:=by omega
   rw [if_neg (by rw [decide_eq_false (by omega)];decide)]
   cases a with
   | true=>rw [if_pos rfl,if_pos (h3 rfl)]
   | false=>
    obtain ⟨h5,h6⟩:=h4 rfl
    rw [hil,List.take_length] at h6
    have hA:¬ (A∨¬ (n.2.2.1[v]).Nodup):=fun h=>h.elim h5 (fun h=>h h6)
    rw [if_neg (by decide),if_neg hA,Zv (by omega)]
    by_cases h7:n.2.2.1[v]=[]
    ·rw [if_pos (by rw [h7];decide),if_pos h7]
    ·rw [if_neg (by simpa using h7),if_neg h7]
theorem Zxg (N:Nat) (n:Z8) (hl:n.2.2.1.length=n.2.1.length) (hn:n.2.1.length≤1048576) (hb:∀ l ∈ n.2.2.1,l.length≤1048576) (hN:1048577<N):∀ (m fuel v:Nat),m+v=n.2.1.length→m<fuel→
  Zd9 N n fuel (v:Int)=if Sf n.2.1 n.2.2.1 m v=0 then Zd9 N n (fuel - m) (n.2.1.length:Int) else some (Sf n.2.1 n.2.2.1 m v)
 | 0,fuel,v,h1,_=>by
  have:v=n.2.1.length:=by omega
  rw [Sf,if_pos rfl,this,Nat.sub_zero]
 | m+1,0,v,h1,h2=>by omega
 | m+1,fuel+1,v,h1,h2=>by
  have hv:v<n.2.1.length:=by omega
  have hv2:v<n.2.2.1.length:=by omega
  obtain ⟨j,j1,j2⟩:=Zs9 (N:=N) (l:=n.2.1) (by omega) hv (by omega)
  rw [Zd9.eq_2,if_pos (decide_eq_true (by omega)),Z9 hv,Option.bind_some,j1,Option.bind_some,Sf,Ye hv,Ye hv2,show (0:Int)=((0:Nat):Int) from rfl,
   Zqf N n v hv2 (hb _ (List.getElem_mem hv2)) hN (by omega) (Zd9 N n fuel) (n.2.1[v] ∈ n.2.1.take v) N 0 _ (by omega) (by have:=hb _ (List.getElem_mem hv2);omega) (fun h=>.inl (j2.1 (by have:=of_decide_eq_true h;omega))) (fun h=>⟨fun hm=>by have:=of_decide_eq_false h;have:=j2.2 hm;omega,by simp⟩)]
  by_cases h3:n.2.1[v] ∈ n.2.1.take v∨¬ (n.2.2.1[v]).Nodup
  ·rw [if_pos h3,if_pos h3,if_neg (by decide)]
  ·rw [if_neg h3,if_neg h3]
   by_cases h4:n.2.2.1[v]=[]
   ·rw [if_pos h4,if_pos h4,if_neg (by decide)]
   ·rw [if_neg h4,if_neg h4]
    have ih:=Zxg N n hl hn hb hN m fuel (v+1) (by omega) (by omega)
    rw [show ((v+1:Nat):Int)=(v:Int)+1 by omega] at ih
    rw [ih,show fuel+1 - (m+1)=fuel - m by omega]
    rfl
theorem Zvb {names:List ByteArray} {vals:List R5}:∀ (m v:Nat),Sf names vals m v=0→∀ i,v≤i→i<v+m→vals.getD i []≠[]∧(vals.getD i []).Nodup∧names.getD i ⟨#[]⟩ ∉ names.take i
 | 0,v,_,i,h1,h2=>by omega
 | m+1,v,h,i,h1,h2=>by
  rw [Sf] at h
  by_cases h3:names.getD v ⟨#[]⟩ ∈ names.take v∨¬ (vals.getD v []).Nodup
  ·rw [if_pos h3] at h;cases h
  ·rw [if_neg h3] at h
   by_cases h4:vals.getD v []=[]
   ·rw [if_pos h4] at h;cases h
   ·rw [if_neg h4] at h
    rcases Nat.lt_or_ge v i with h5 | h5
    ·exact Zvb m (v+1) h i (by omega) (by omega)
    ·have:i=v:=by omega
     subst this
     exact ⟨h4,by simpa using (not_or.1 h3).2,(not_or.1 h3).1⟩
def Yj (vals:List R5):List Int→Nat→Nat
 | [],k=>k
 | p :: ps,k=>Yj vals ps (min (k * (vals.getD p.toNat []).length) 1099511627776)
theorem Zqk (vals:List R5):∀ (ps:List Int) (k:Nat),k≤1099511627776→Yj vals ps k≤1099511627776
 | [],k,h=>h
 | p :: ps,k,h=>Zqk vals ps _ (by omega)
theorem Zmd {a b:Nat} (h:a≤1099511627776) (g:b≤1048576):a * b≤1152921504606846976:=by
 have:=Nat.mul_le_mul h g
 simpa using this
theorem Zu1 (n:Z8) (hb:∀ l ∈ n.2.2.1,l.length≤1048576):∀ (ps:List Int) (k:Nat),k≤1099511627776→(∀ p ∈ ps,0≤p∧p<(n.2.2.1.length:Int))→Zdq n ps (k:Int)=some (Yj n.2.2.1 ps k:Int)
 | [],k,_,_=>rfl
 | p :: ps,k,hk,hp=>by
  have h1:=hp p List.mem_cons_self
  have h2:p.toNat<n.2.2.1.length:=by omega
  have h3:=hb _ (List.getElem_mem h2)
  have h4:=Zmd hk h3
  rw [Zdq.eq_2,show p=((p.toNat:Nat):Int) by omega,Z9 h2,Option.bind_some,Yj,Int.toNat_natCast,Ye h2,← Int.natCast_mul,Zv (by omega)]
  have ih:=Zu1 n hb ps (min (k * n.2.2.1[p.toNat].length) 1099511627776) (by omega) (fun q hq=>hp q (List.mem_cons_of_mem _ hq))
  rw [← ih]
  congr 1
  by_cases h5:1099511627776<k * n.2.2.1[p.toNat].length
  ·rw [if_pos (by omega),Nat.min_eq_right (by omega)];rfl
  ·rw [if_neg (by omega),Nat.min_eq_left (by omega)]
theorem Zxy (N:Nat) (n:Z8) (hl:n.2.2.1.length≤1048576):∀ (m i:Nat) (out:List Int),i≤n.2.2.1.length→n.2.2.1.length<m+i→out=(n.2.2.1.take i).map (fun l=>(l.length:Int))→Zlx N n m out (i:Int)=some (n.2.2.1.map fun l=>(l.length:Int))
 | 0,i,out,h1,h2,_=>by omega
 | m+1,i,out,h1,h2,h3=>by
  rw [Zlx.eq_2]
  have lo:out.length=i:=by rw [h3,List.length_map,List.length_take];omega
  by_cases hi:i<n.2.2.1.length
  ·rw [if_pos (decide_eq_true (by omega)),Z9 hi,Option.bind_some,Xg (by simp only [List.length_singleton,maxLen];omega),Zv (by omega)]
   exact Zxy N n hl m (i+1) _ (by omega) (by omega) (by rw [h3,List.take_add_one,List.getElem?_eq_getElem hi,Option.toList_some,List.map_append];rfl)
  ·rw [if_neg (by rw [decide_eq_false (by omega)];decide),h3,List.take_of_length_le (by omega)]
theorem Z45 {N:Nat} {n:Z8} (hl:n.2.2.1.length≤1048576) (hN:1048576<N):Zi8 N n=some (n.2.2.1.map fun l=>(l.length:Int)):=by
 rw [Zi8]
 exact Zxy N n hl N 0 [] (by omega) (by omega) (by simp)
theorem Zm4 {vals:List R5} {i:Nat} (h:i<vals.length):Zp (vals.map fun l=>(l.length:Int)) (i:Int)=some (vals[i].length:Int):=by
 rw [Z9 (by rw [List.length_map];exact h),List.getElem_map]
theorem Zn5 (N:Nat) (ps:List Int) (vals:List R5) (hb:∀ l ∈ vals,l.length≤1048576) (hne:∀ l ∈ vals,l≠[]) (hp:∀ p ∈ ps,0≤p∧p<(vals.length:Int)) (hps:ps.length≤1048576):∀ (m i k:Nat),i≤ps.length→ps.length<m+i→k≤1099511627776→
  Zi7 N ps (vals.map fun l=>(l.length:Int)) m (k:Int) (i:Int)=some (Yj vals (ps.drop i) k:Int)
 | 0,i,k,h1,h2,_=>by omega
 | m+1,i,k,h1,h2,h3=>by
  rw [Zi7.eq_2]
  by_cases hi:i<ps.length
  ·have h4:=hp _ (List.getElem_mem hi)
   have h5:(ps[i]).toNat<vals.length:=by omega
   have h6:=hb _ (List.getElem_mem h5)
   have h7:0<vals[(ps[i]).toNat].length:=List.length_pos_iff.2 (hne _ (List.getElem_mem h5))
   have h8:=Zmd h3 h6
   rw [if_pos (decide_eq_true (by omega)),Z9 hi,Option.bind_some]
   conv=>lhs;rw [show ps[i]=(((ps[i]).toNat:Nat):Int) by omega]
   rw [Zm4 h5,Option.bind_some,Xg (by omega),List.drop_eq_getElem_cons hi,Yj,Ye h5]
   have e:i64.wrap (Int.tdiv 1099511627776 (vals[(ps[i]).toNat].length:Int))=((1099511627776 / vals[(ps[i]).toNat].length:Nat):Int):=by
    rw [Int.tdiv_eq_ediv_of_nonneg (by decide),show (1099511627776:Int)=((1099511627776:Nat):Int) from rfl,← Int.natCast_ediv]
    refine Zv ⟨by have:=Int.natCast_nonneg (1099511627776 / vals[(ps[i]).toNat].length);omega,?_⟩
    have:=Nat.div_le_self 1099511627776 vals[(ps[i]).toNat].length
    omega
   rw [e]
   have cmp:1099511627776 / vals[(ps[i]).toNat].length<k↔1099511627776<k * vals[(ps[i]).toNat].length:=Nat.div_lt_iff_lt_mul h7
   by_cases h9:1099511627776<k * vals[(ps[i]).toNat].length
   ·rw [if_pos (decide_eq_true (Int.ofNat_lt.2 (cmp.2 h9))),Zlr,Zv (by omega),Nat.min_eq_right (by omega)]
    exact Zn5 N ps vals hb hne hp hps m (i+1) 1099511627776 (by omega) (by omega) (by omega)
   ·rw [if_neg (by rw [decide_eq_false (fun h=>h9 (cmp.1 (Int.ofNat_lt.1 h)))];decide),Zlr,← Int.natCast_mul,Zv (by omega),Zv (by omega),Nat.min_eq_left (by omega)]
    exact Zn5 N ps vals hb hne hp hps m (i+1) _ (by omega) (by omega) (by omega)
  ·rw [if_neg (by rw [decide_eq_false (by omega)];decide),List.drop_eq_nil_of_le (by omega),Yj]
theorem Zr8 (N:Nat) (ps:List Int) (vals:List R5) (hb:∀ l ∈ vals,l.length≤1048576) (hne:∀ l ∈ vals,l≠[]) (hp:∀ p ∈ ps,0≤p∧p<(vals.length:Int)) (hps:ps.length≤1048576) (hN:1048577<N):∀ (m i:Nat),i≤ps.length→ps.length<m+i→
  Zls N ps (vals.map fun l=>(l.length:Int)) m (i:Int)=some (Yj vals ps 1:Int)
 | 0,i,h1,h2=>by omega
 | m+1,i,h1,h2=>by
  rw [Zls.eq_2]
  by_cases hi:i<ps.length
  ·have h4:=hp _ (List.getElem_mem hi)
   have h5:(ps[i]).toNat<vals.length:=by omega
   have h7:0<vals[(ps[i]).toNat].length:=List.length_pos_iff.2 (hne _ (List.getElem_mem h5))
   rw [if_pos (decide_eq_true (by omega)),Z9 hi,Option.bind_some]
   conv=>lhs;rw [show ps[i]=(((ps[i]).toNat:Nat):Int) by omega]
   rw [Zm4 h5,Option.bind_some,if_neg (by rw [decide_eq_false (by omega)];decide),Zv (by omega)]
   exact Zr8 N ps vals hb hne hp hps hN m (i+1) (by omega) (by omega)
  ·rw [if_neg (by rw [decide_eq_false (by omega)];decide)]
   exact Zn5 N ps vals hb hne hp hps N 0 1 (by omega) (by omega) (by omega)
theorem Z0u {N:Nat} {ps:List Int} {vals:List R5} (hb:∀ l ∈ vals,l.length≤1048576) (hne:∀ l ∈ vals,l≠[]) (hp:∀ p ∈ ps,0≤p∧p<(vals.length:Int)) (hps:ps.length≤1048576) (hN:1048577<N):Zo7 N ps (vals.map fun l=>(l.length:Int))=some (Yj vals ps 1:Int):=by
 rw [Zo7]
 exact Zr8 N ps vals hb hne hp hps hN N 0 (by omega) (by omega)
theorem Z3o {r c:Nat} (hc:0<c):Zo9 (r:Int) (c:Int)=some (decide (65536<r * c)):=by
 have e:i64.wrap (Int.tdiv 65536 (c:Int))=((65536 / c:Nat):Int):=by
  rw [Int.tdiv_eq_ediv_of_nonneg (by decide),show (65536:Int)=((65536:Nat):Int) from rfl,← Int.natCast_ediv]
  refine Zv ⟨by have:=Int.natCast_nonneg (65536 / c);omega,?_⟩
  have:=Nat.div_le_self 65536 c
  omega
 rw [Zo9,if_pos (decide_eq_true (by omega)),Xg (by omega),e,Zpa]
 congr 1
 refine decide_eq_decide.2 ?_
 rw [Int.ofNat_lt]
 exact Nat.div_lt_iff_lt_mul hc
def Sm (vals:List R5) (P:List R2) (T:List (List QV)):Nat→Nat→Int
 | 0,_=>0
 | m+1,v=>if 65536<Yj vals (P.getD v []) 1 * (vals.getD v []).length then 4 else if Yj vals (P.getD v []) 1 * (vals.getD v []).length≠(T.getD v []).length then 60 else Sm vals P T m (v+1)
structure Wz (n:Z8) (W:Nat):Prop where
 nm:n.2.1.length≤1048575
 vl:∀ l ∈ n.2.2.1,l.length≤1048576
 pn:Zj6 n.2.2.2.1
 tl:∀ t ∈ n.2.2.2.2,t.length≤1048576
 tq:∀ t ∈ n.2.2.2.2,Yb t≤W
 lim:∀ t ∈ n.2.2.2.2,∀ x ∈ t,Wy x
structure U3 (n:Z8):Prop where
 v:n.2.2.1.length=n.2.1.length
 p:n.2.2.2.1.length=n.2.1.length
 t:n.2.2.2.2.length=n.2.1.length
 i:Uj n.2.2.2.1.length n.2.2.2.1=true
 ne:∀ l ∈ n.2.2.1,l≠[]
theorem U3.par {n:Z8} (h:U3 n) {ps:List Int} (hp:ps ∈ n.2.2.2.1):∀ p ∈ ps,0≤p∧p<(n.2.2.1.length:Int):=by
 have:=Zty h.i ps hp
 rw [h.p] at this
 rw [h.v];exact this
theorem Zu2 {N W:Nat} {n:Z8} (hs:Wz n W) (he:U3 n):∀ (l:List (List QV)) (k:Nat),n.2.2.2.2.drop k=l→k≤n.2.1.length→Za7 N n l k=if Sm n.2.2.1 n.2.2.2.1 n.2.2.2.2 l.length k=0 then Za8 N n n.2.2.2.2 else some (Sm n.2.2.1 n.2.2.2.1 n.2.2.2.2 l.length k)
 | [],k,_,_=>by rw [Za7.eq_1];rfl
 | t :: l,k,hd,hk=>by
  have ht:=he.t;have hv:=he.v;have hp:=he.p
  have hk1:k<n.2.2.2.2.length:=by
   rcases Nat.lt_or_ge k n.2.2.2.2.length with h | h
   ·exact h
   ·rw [List.drop_eq_nil_of_le h] at hd;cases hd
  have hd2:=List.drop_eq_getElem_cons hk1
  rw [hd] at hd2
  obtain ⟨hx,hl2⟩:=List.cons.inj hd2
  have kv:k<n.2.2.1.length:=by omega
  have kp:k<n.2.2.2.1.length:=by omega
  have r1:=Zqk n.2.2.1 (n.2.2.2.1[k]) 1 (by omega)
  have c1:=hs.vl _ (List.getElem_mem kv)
  have r2:=Zmd r1 c1
  have hrow:Zga n (k:Int)=some (Yj n.2.2.1 n.2.2.2.1[k] 1:Int):=by
   rw [Zga,Z9 kp,Option.bind_some]
   exact Zu1 n hs.vl _ 1 (by omega) (he.par (List.getElem_mem kp))
  rw [Za7.eq_2]
  have hrow':Zga (n.1,n.2.1,n.2.2.1,n.2.2.2.1,n.2.2.2.2) (k:Int)=some (Yj n.2.2.1 n.2.2.2.1[k] 1:Int):=hrow
  rw [hrow',Option.bind_some,Z9 kv,Option.bind_some,← Int.natCast_mul,Zv (by omega),List.length_cons,Sm,Ye kp,Ye kv,Ye hk1,← hx]
  generalize Yj n.2.2.1 n.2.2.2.1[k] 1 * n.2.2.1[k].length=rc at *
  by_cases h1:65536<rc
  ·rw [if_pos (decide_eq_true (by omega)),if_pos h1,if_neg (by decide)]
  ·rw [if_neg (by rw [decide_eq_false (by omega)];decide),if_neg h1]
   by_cases h2:rc=t.length
   ·rw [if_neg (by rw [decide_eq_true (by omega)];decide),if_neg (show ¬ rc≠t.length from fun h=>h h2)]
    exact Zu2 hs he l (k+1) hl2.symm (by omega)
   ·rw [if_pos (by rw [decide_eq_false (by omega)];decide),if_pos h2,if_neg (by decide)]
theorem Zxp {N W:Nat} {n:Z8} (hN:1048577<N) (hs:Wz n W) (he:U3 n):∀ (m fuel v:Nat),m+v=n.2.1.length→m<fuel→
  Zg1 N n (n.2.2.1.map fun l=>(l.length:Int)) fuel (v:Int)=if Sm n.2.2.1 n.2.2.2.1 n.2.2.2.2 m v=0 then Zg2 N n (n.2.2.1.map fun l=>(l.length:Int)) N 0 else some (Sm n.2.2.1 n.2.2.2.1 n.2.2.2.2 m v)
 | 0,0,v,_,h=>by omega
 | 0,fuel+1,v,h1,_=>by
  rw [Zg1.eq_2,if_neg (by rw [decide_eq_false (by omega)];decide)];rfl
 | m+1,0,v,_,h=>by omega
 | m+1,fuel+1,v,h1,h2=>by
  have ht:=he.t;have hv:=he.v;have hp:=he.p;have hnm:=hs.nm
  have kt:v<n.2.2.2.2.length:=by omega
  have kv:v<n.2.2.1.length:=by omega
  have kp:v<n.2.2.2.1.length:=by omega
  have r1:=Zqk n.2.2.1 (n.2.2.2.1[v]) 1 (by omega)
  have c1:=hs.vl _ (List.getElem_mem kv)
  have c0:0<n.2.2.1[v].length:=List.length_pos_iff.2 (he.ne _ (List.getElem_mem kv))
  have r2:=Zmd r1 c1
  rw [Zg1.eq_2,if_pos (decide_eq_true (by omega)),Z9 kp,Option.bind_some,Z0u hs.vl he.ne (he.par (List.getElem_mem kp)) (hs.pn.ls _ (List.getElem_mem kp)) hN,Option.bind_some,Zm4 kv,Option.bind_some,Z3o c0,Option.bind_some,Sm,Ye kp,Ye kv,Ye kt,← Int.natCast_mul,Zv (by omega)]
  generalize Yj n.2.2.1 n.2.2.2.1[v] 1 * n.2.2.1[v].length=rc at *
  by_cases h3:65536<rc
  ·rw [if_pos (decide_eq_true (by omega)),if_pos h3,if_neg (by decide)]
  ·rw [if_neg (by rw [decide_eq_false (by omega)];decide),if_neg h3,Z9 kt,Option.bind_some]
   by_cases h4:rc=n.2.2.2.2[v].length
   ·rw [if_neg (by rw [decide_eq_true (by omega)];decide),if_neg (show ¬ rc≠n.2.2.2.2[v].length from fun h=>h h4),Zv (by omega)]
    exact Zxp hN hs he m fuel (v+1) (by omega) (by omega)
   ·rw [if_pos (by rw [decide_eq_false (by omega)];decide),if_pos h4,if_neg (by decide)]
def V0 (x:QV):Bool:=decide (Zt x<0)||decide (1<Zt x)
theorem Zv8 {a b:Rat}:0<Ve a b↔b<a:=by
 rw [Ve]
 by_cases h:a<b
 ·rw [if_pos h]
  constructor
  ·intro h2;omega
  ·intro h2;exact absurd (Rat.le_of_lt h2) (Rat.not_le.2 h)
 ·rw [if_neg h]
  by_cases h2:b<a
  ·simp [h2]
  ·simp [h2]
theorem Zml {a b:Rat}:Ve a b=0↔a=b:=by
 rw [Ve]
 constructor
 ·intro h
  split at h
  ·cases h
  ·split at h
   ·cases h
   ·rename_i h1 h2
    exact Rat.le_antisymm (Rat.not_lt.1 h2) (Rat.not_lt.1 h1)
 ·rintro rfl
  rw [if_neg Rat.lt_irrefl,if_neg Rat.lt_irrefl]
theorem Zpi {N:Nat} (hr:Z4 N 8):Zdp N=some (Zj 1):=by
 rw [Zdp,Z1w (by omega) (by omega) (hr.mono (by omega)),Option.bind_some,if_neg (by decide)]
 have:((1:Int):Rat) / ((1:Int):Rat)=1:=div_one _
 rw [this]
theorem Zxk {N:Nat} (hr:Z4 N 8):Zlu N=some (Zj 1):=by
 rw [Zlu,Z47 hr];rfl
theorem Zm2:RV 1 (Zj 1):=Yr (by rw [Zjo];omega)
theorem Z24 {N k:Nat} {x:QV} (hx:RV k x) (hr:Z4 N (2 * k+16)):Zf8 N x=some (V0 x):=by
 have h2:Zae N ((x.1.1,x.1.2),x.2)=some (Tt (Zt x)):=Zoi hx (hr.mono (by omega))
 rw [Zf8,h2,Option.bind_some,V0]
 by_cases h:Zt x<0
 ·rw [if_pos (decide_eq_true (Zmm.2 h)),Zf9,decide_eq_true h,Bool.true_or]
 ·rw [if_neg (by rw [decide_eq_false (fun h3=>h (Zmm.1 h3))];decide),decide_eq_false h,Bool.false_or,Zpi (hr.mono (by omega)),Option.bind_some,Ze4 (a:=((x.1.1,x.1.2),x.2)) (b:=Zj 1) hx Zm2 (hr.mono (by omega)),Option.bind_some,Zf9,Yi]
  congr 1
  exact decide_eq_decide.2 Zv8
theorem Z4v {N k:Nat} {x:QV} (hx:RV k x) (hr:Z4 N (2 * k+16)):Zlv N x=some (V0 x):=by
 have h2:Zlg N ((x.1.1,x.1.2),x.2)=some (Tt (Zt x)):=Z4s hx (hr.mono (by omega))
 rw [Zlv,h2,Option.bind_some,V0]
 by_cases h:Zt x<0
 ·rw [if_pos (decide_eq_true (Zmm.2 h)),Zlw,decide_eq_true h,Bool.true_or]
 ·rw [if_neg (by rw [decide_eq_false (fun h3=>h (Zmm.1 h3))];decide),decide_eq_false h,Bool.false_or,Zxk (hr.mono (by omega)),Option.bind_some,Zqe (a:=((x.1.1,x.1.2),x.2)) (b:=Zj 1) hx Zm2 (hr.mono (by omega)),Option.bind_some,Zlw,Yi]
  congr 1
  exact decide_eq_decide.2 Zv8
def Ws (x:QV):QV:=if Zb x.2=0 then (x.1,[1]) else x
theorem Ztd {x:QV} (h:Wy x):Wy (Ws x):=by
 rw [Ws];split
 ·exact ⟨h.1,.cons (by decide) .nil⟩
 ·exact h
theorem Zof (x:QV):Zt (Ws x)=Zt x:=by
 rw [Ws];split
 ·rename_i h
  rw [Zt,Zt]
  show mkRat (Zq x.1) (Xw [1])=mkRat (Zq x.1) (Xw x.2)
  rw [Xw,Xw,if_pos h]
  congr 1
 ·rfl
theorem Z1p (x:QV):V0 (Ws x)=V0 x:=by rw [V0,V0,Zof]
theorem Z1m (x:QV):max (Ws x).1.2.length (Ws x).2.length≤max x.1.2.length x.2.length+1:=by
 rw [Ws];split
 ·show max x.1.2.length [(1:Int)].length≤_
  simp only [List.length_singleton];omega
 ·omega
theorem Zpy:∀ l:List QV,2 * l.length≤Yb l
 | []=>by simp [Yb]
 | a :: l=>by rw [Yb,List.length_cons];have:=Zpy l;omega
theorem Zpx:∀ l:List QV,Yb (l.map Ws)≤Yb l+l.length
 | []=>by simp [Yb]
 | a :: l=>by
  rw [List.map_cons,Yb,Yb,List.length_cons]
  have:=Zpx l;have:=Z1m a;omega
theorem Zv9 (a b:List QV):Yb (a++b)=Yb a+Yb b:=by
 induction a with
 | nil=>simp [Yb]
 | cons x a ih=>rw [List.cons_append,Yb,Yb,ih];omega
theorem Zpz (l:List QV) (k:Nat):Yb (l.take k)≤Yb l:=by
 have:=Zv9 (l.take k) (l.drop k)
 rw [List.take_append_drop] at this;omega
theorem Zpw (l:List QV) (k:Nat):Yb (l.drop k)≤Yb l:=by
 have:=Zv9 (l.take k) (l.drop k)
 rw [List.take_append_drop] at this;omega
theorem Zwb {l:List QV} {x:QV} (h:x ∈ l):max x.1.2.length x.2.length≤Yb l:=by
 induction l with
 | nil=>simp at h
 | cons y l ih=>
  rw [Yb]
  rcases List.mem_cons.1 h with rfl | h
  ·omega
  ·have:=ih h;omega
theorem Zti {N k:Nat} {x:QV} (h:Wy x) (hk:max x.1.2.length x.2.length≤k) (hr:Z4 N k):Zcc N x=some (Ws x):=by
 obtain ⟨r1,r2⟩:=hr
 rw [Zcc,Zpm h.2 (by omega) (by omega),Option.bind_some,Ws]
 by_cases h0:Zb x.2=0
 ·rw [h0,W2,if_pos (by decide),if_pos rfl,Zjj (by decide) (by omega),Option.bind_some,Zf4,show (1:Int).toNat=1 from rfl,W5]
 ·have:=T8 h0
  rw [if_neg (by rw [decide_eq_false (by omega)];decide),if_neg h0,Zf4]
theorem Ztj {N W:Nat} (hr:Z4 N W):∀ (l out:List QV),(∀ x ∈ l,Wy x)→Yb l≤W→out.length+l.length≤1048576→Zcd N l out=some (out++l.map Ws)
 | [],out,_,_,_=>by rw [Zcd.eq_1];simp
 | x :: l,out,hl,hq,hlen=>by
  rw [Yb] at hq
  rw [List.length_cons] at hlen
  have h1:Zcc N ((x.1.1,x.1.2),x.2)=some (Ws x):=Zti (x:=x) (hl x List.mem_cons_self) (k:=W) (by omega) hr
  rw [Zcd.eq_2,h1,Option.bind_some,Xg (by simp only [List.length_singleton,maxLen];omega),Ztj hr l _ (fun y hy=>hl y (List.mem_cons_of_mem _ hy)) (by omega) (by simp only [List.length_append,List.length_singleton];omega)]
  simp
theorem Ztk {N W:Nat} {l:List QV} (hr:Z4 N W) (hl:∀ x ∈ l,Wy x) (hq:Yb l≤W) (hlen:l.length≤1048576):Zf5 N l=some (l.map Ws):=by
 rw [Zf5,Xg (by simp only [maxLen];omega),Ztj hr l [] hl hq (by simpa using hlen),List.nil_append]
theorem Ztv {N W:Nat} (hr:Z4 N (2 * W+16)):∀ (l:List QV) (k:Nat),(∀ x ∈ l,Wy x)→Yb l≤W→∃ j:Int,Zec N l k=some j∧(0≤j↔l.any V0=true)
 | [],k,_,_=>⟨-1,rfl,by simp⟩
 | x :: l,k,hl,hq=>by
  rw [Yb] at hq
  have hx:=hl x List.mem_cons_self
  have h1:Zf8 N ((x.1.1,x.1.2),x.2)=some (V0 x):=Z24 (x:=x) (Zc3 hx.1 hx.2) (hr.mono (by omega))
  rw [Zec.eq_2,h1,Option.bind_some,List.any_cons]
  cases V0 x with
  | true=>rw [if_pos rfl];exact ⟨_,rfl,by simp⟩
  | false=>
   rw [if_neg (by decide)]
   obtain ⟨j,h1,h2⟩:=Ztv hr l (k+1) (fun y hy=>hl y (List.mem_cons_of_mem _ hy)) (by omega)
   exact ⟨j,h1,by rw [h2];simp⟩
def Zdc (T:List (List QV)):Bool:=T.any fun t=>t.any V0
theorem Zyv (l:List QV):(l.map Ws).any V0=l.any V0:=by
 induction l with
 | nil=>rfl
 | cons x l ih=>rw [List.map_cons,List.any_cons,List.any_cons,ih,Z1p]
theorem Zut {N W:Nat} {n:Z8} (hr:Z4 N (4 * W+16)):∀ l:List (List QV),(∀ t ∈ l,t.length≤1048576∧Yb t≤W∧∀ x ∈ t,Wy x)→Za8 N n l=if Zdc l=true then some 45 else Zcb N n n.2.2.2.2 0
 | [],_=>by rw [Za8.eq_1];rfl
 | t :: l,h=>by
  obtain ⟨h1,h2,h3⟩:=h t List.mem_cons_self
  have hp:=Zpy t
  have hf:=Zpx t
  obtain ⟨j,j1,j2⟩:=Ztv (N:=N) (W:=2 * W) (hr.mono (by omega)) (t.map Ws) 0 (fun x hx=>by
   obtain ⟨y,hy,rfl⟩:=List.mem_map.1 hx
   exact Ztd (h3 y hy)) (by omega)
  rw [Za8.eq_2,Ztk (W:=W) (hr.mono (by omega)) h3 h2 h1,Option.bind_some,Zl6,Zl7,j1,Option.bind_some,Option.bind_some,Zdc,List.any_cons]
  rw [Zyv] at j2
  by_cases ho:t.any V0=true
  ·rw [if_pos (decide_eq_true (j2.2 ho)),ho,Bool.true_or,if_pos rfl]
  ·rw [if_neg (by rw [decide_eq_false (fun h=>ho (j2.1 h))];decide),Bool.eq_false_iff.2 ho,Bool.false_or]
   exact Zut hr l fun x hx=>h x (List.mem_cons_of_mem _ hx)
theorem Zw3 {N W:Nat} {n:Z8} (sz:List Int) (hr:Z4 N (4 * W+16)) {v:Nat} (hv:v<n.2.2.2.2.length) (hvs:v<1048576) (h1:n.2.2.2.2[v].length≤1048576) (h2:Yb n.2.2.2.2[v]≤W) (h3:∀ x ∈ n.2.2.2.2[v],Wy x) (kk:Int→Option Int):∀ (m i:Nat),i≤n.2.2.2.2[v].length→n.2.2.2.2[v].length<m+i→
  Zlq N n (v:Int) kk m (i:Int)=if ((n.2.2.2.2[v]).drop i).any V0=true then some 45 else kk ((v:Int)+1)
 | 0,i,g1,g2=>by omega
 | m+1,i,g1,g2=>by
  rw [Zlq.eq_2,Z9 hv,Option.bind_some]
  by_cases hi:i<n.2.2.2.2[v].length
  ·have hx:=h3 _ (List.getElem_mem hi)
   have hm:=Zwb (List.getElem_mem hi)
   have e:Zlv N (((n.2.2.2.2[v][i]).1.1,(n.2.2.2.2[v][i]).1.2),(n.2.2.2.2[v][i]).2)=some (V0 n.2.2.2.2[v][i]):=Z4v (x:=n.2.2.2.2[v][i]) (Zc3 hx.1 hx.2) (hr.mono (by omega))
   rw [if_pos (decide_eq_true (by omega)),Z9 hi,Option.bind_some,e,Option.bind_some,List.drop_eq_getElem_cons hi,List.any_cons]
   cases V0 n.2.2.2.2[v][i] with
   | true=>rw [if_pos rfl,Bool.true_or,if_pos rfl]
   | false=>
    rw [if_neg (by decide),Bool.false_or,Zv (by omega)]
    exact Zw3 sz hr hv hvs h1 h2 h3 kk m (i+1) (by omega) (by omega)
  ·rw [if_neg (by rw [decide_eq_false (by omega)];decide),List.drop_eq_nil_of_le (by omega),List.any_nil,if_neg (by decide),Zv (by omega)]
theorem Zw2 {N W:Nat} {n:Z8} (sz:List Int) (hs:Wz n W) (he:n.2.2.2.2.length=n.2.1.length) (hr:Z4 N (4 * W+16)) (hN:1048577<N):∀ (m fuel v:Nat),m+v=n.2.1.length→m<fuel→
  Zg2 N n sz fuel (v:Int)=if Zdc (n.2.2.2.2.drop v)=true then some 45 else Zg3 N n sz N 0
 | 0,0,v,_,h=>by omega
 | 0,fuel+1,v,h1,_=>by
  rw [Zg2.eq_2,if_neg (by rw [decide_eq_false (by omega)];decide),List.drop_eq_nil_of_le (by omega)];rfl
 | m+1,0,v,_,h=>by omega
 | m+1,fuel+1,v,h1,h2=>by
  have hv:v<n.2.2.2.2.length:=by omega
  have hnm:=hs.nm
  have hm:=List.getElem_mem hv
  rw [Zg2.eq_2,if_pos (decide_eq_true (by omega)),show (0:Int)=((0:Nat):Int) from rfl,Zw3 sz hr hv (by omega) (hs.tl _ hm) (hs.tq _ hm) (hs.lim _ hm) _ N 0 (by omega) (by have:=hs.tl _ hm;omega),List.drop_zero,List.drop_eq_getElem_cons hv,Zdc,List.any_cons]
  cases n.2.2.2.2[v].any V0 with
  | true=>rw [if_pos rfl,Bool.true_or,if_pos rfl]
  | false=>
   rw [if_neg (by decide),Bool.false_or]
   exact Zw2 sz hs he hr hN m fuel (v+1) (by omega) (by omega)
def Uz (c:Nat):Nat→List QV→Bool
 | 0,_=>true
 | m+1,l=>decide (Wc (l.take c)=1)&&Uz c m (l.drop c)
def Zhu (c:Nat):Nat→List QV→List (List QV)
 | 0,_=>[]
 | m+1,l=>l.take c :: Zhu c m (l.drop c)
theorem Zr9 (N:Nat) (l:List QV) (c:Nat) (hc:0<c) (hl:l.length≤1048576) (hcs:c≤1048576):∀ (m fuel i:Nat),i+m * c=l.length→m<fuel→Zcs N l (c:Int) fuel (i:Int)=some (Zhu c m (l.drop i))
 | 0,0,i,_,h=>by omega
 | 0,fuel+1,i,h1,_=>by
  rw [Zcs.eq_2,if_neg (by rw [decide_eq_false (by omega)];decide)];rfl
 | m+1,0,i,_,h=>by omega
 | m+1,fuel+1,i,h1,h2=>by
  have h3:i+c+m * c=l.length:=by rw [Nat.add_mul,Nat.one_mul] at h1;omega
  have e:(if ((l.drop i).length:Int)<(c:Int) then ((l.drop i).length:Int) else (c:Int))=(c:Int):=by
   rw [List.length_drop]
   by_cases h:((l.length - i:Nat):Int)<(c:Int)
   ·omega
   ·rw [if_neg h]
  rw [Zcs.eq_2,if_pos (decide_eq_true (by omega)),Int.toNat_natCast,e,Zv (by omega),Xg (by omega),Xg (by omega),show (i:Int)+(c:Int)=((i+c:Nat):Int) by omega,Zr9 N l c hc hl hcs m fuel (i+c) (by omega) (by omega),Option.bind_some,Int.toNat_natCast,Zhu,List.drop_take,show i+c - i=c by omega,List.drop_drop]
theorem Z3u (l:List QV):Wc (l.map Ws)=Wc l:=by
 rw [Wc,Wc,List.map_map]
 congr 1
 exact List.map_congr_left fun x _=>Zof x
theorem Zvm (c:Nat):∀ (m:Nat) (l:List QV),Uz c m (l.map Ws)=Uz c m l
 | 0,l=>rfl
 | m+1,l=>by rw [Uz,Uz,← List.map_take,← List.map_drop,Z3u,Zvm c m]
theorem Zu8 {N W:Nat} (hr:Z4 N (4 * W+40)) (c:Nat) (b:Bool):∀ (m:Nat) (l:List QV),(∀ x ∈ l,Wy x)→Yb l≤W→Zdr N (Zhu c m l) b=some (Uz c m l)
 | 0,l,_,_=>rfl
 | m+1,l,hl,hq=>by
  have ht:=Zpz l c
  have hd:=Zpw l c
  obtain ⟨s1,s2⟩:=Zok (N:=N) (l:=l.take c) (fun x hx=>hl x (List.mem_of_mem_take hx)) (hr.mono (by omega))
  rw [Zhu,Zdr.eq_2,s1,Option.bind_some,Zpi (hr.mono (by omega)),Option.bind_some,Ze4 (a:=Zj _) (b:=Zj 1) (Yr s2) Zm2 (hr.mono (by omega)),Option.bind_some,Yi,Yi,Uz]
  by_cases h:Wc (l.take c)=1
  ·rw [if_neg (by rw [Zml.2 h];decide),decide_eq_true h,Bool.true_and]
   exact Zu8 hr c b m _ (fun x hx=>hl x (List.mem_of_mem_drop hx)) (by omega)
  ·rw [if_pos (by rw [decide_eq_false (fun h2=>h (Zml.1 h2))];decide),decide_eq_false h,Bool.false_and];rfl
theorem Z26 {N W c m:Nat} {l:List QV} (hr:Z4 N (4 * W+40)) (hl:∀ x ∈ l,Wy x) (hq:Yb l≤W) (hc:0<c) (hcs:c≤1048576) (hll:l.length≤1048576) (hm:m * c=l.length) (hN:1048577<N):Zig N l (c:Int)=some (Uz c m l):=by
 have hmc:m≤l.length:=by rw [← hm];exact Nat.le_mul_of_pos_right m hc
 rw [Zig,Zl3,if_neg (by rw [decide_eq_false (by omega)];decide),Zl5,Zl4,show (0:Int)=((0:Nat):Int) from rfl,Zr9 N l c hc hll hcs m N 0 (by omega) (by omega),Option.bind_some,List.drop_zero]
 exact Zu8 hr c false m l hl hq
theorem Zxu {N W c:Nat} {l:List QV} (hr:Z4 N (4 * W+40)) (hl:∀ x ∈ l,Wy x) (hq:Yb l≤W) (hc:0<c) (hcs:c≤1048576) (hll:l.length≤1048576) (hN:1048577<N):∀ (m fuel i:Nat),i+m * c=l.length→m<fuel→Zi9 N l (c:Int) fuel (i:Int)=some (Uz c m (l.drop i))
 | 0,0,i,_,h=>by omega
 | 0,fuel+1,i,h1,_=>by
  rw [Zi9.eq_2,if_neg (by rw [decide_eq_false (by omega)];decide)];rfl
 | m+1,0,i,_,h=>by omega
 | m+1,fuel+1,i,h1,h2=>by
  have h3:i+c+m * c=l.length:=by rw [Nat.add_mul,Nat.one_mul] at h1;omega
  have ht:=Zpz (l.drop i) c
  have hd:=Zpw l i
  have hlim:∀ x ∈ (l.drop i).take c,Wy x:=fun x hx=>hl x (List.mem_of_mem_drop (List.mem_of_mem_take hx))
  obtain ⟨_,s2⟩:=Zok (N:=N) (l:=(l.drop i).take c) hlim (hr.mono (by omega))
  have hlen:((l.drop i).take c).length≤1048576:=by rw [List.length_take,List.length_drop];omega
  rw [Zi9.eq_2,if_pos (decide_eq_true (by omega)),Zv (by omega),Xg (by omega),show (i:Int)+(c:Int)=((i+c:Nat):Int) by omega,Int.toNat_natCast,Int.toNat_natCast,List.drop_take,show i+c - i=c by omega,Z4t hlim (by omega) (by omega) (hr.mono (by omega)),Option.bind_some,Zxk (hr.mono (by omega)),Option.bind_some,Zqe (a:=Zj _) (b:=Zj 1) (Yr s2) Zm2 (hr.mono (by omega)),Option.bind_some,Yi,Yi,Uz]
  by_cases h:Wc ((l.drop i).take c)=1
  ·rw [if_neg (by rw [Zml.2 h];decide),decide_eq_true h,Bool.true_and,List.drop_drop]
   exact Zxu hr hl hq hc hcs hll hN m fuel (i+c) (by omega) (by omega)
  ·rw [if_pos (by rw [decide_eq_false (fun h2=>h (Zml.1 h2))];decide),decide_eq_false h,Bool.false_and]
def Zc4 (vals:List R5) (P:List R2) (T:List (List QV)):Nat→Nat→Int
 | 0,_=>0
 | m+1,v=>if Uz (vals.getD v []).length (Yj vals (P.getD v []) 1) (T.getD v [])=true then Zc4 vals P T m (v+1) else 46
theorem Zm3 {vals:List R5} {P:List R2} {T:List (List QV)}:∀ (m v:Nat),Sm vals P T m v=0→∀ i,v≤i→i<v+m→Yj vals (P.getD i []) 1 * (vals.getD i []).length=(T.getD i []).length∧(T.getD i []).length≤65536
 | 0,v,_,i,h1,h2=>by omega
 | m+1,v,h,i,h1,h2=>by
  rw [Sm] at h
  by_cases h3:65536<Yj vals (P.getD v []) 1 * (vals.getD v []).length
  ·rw [if_pos h3] at h;cases h
  ·rw [if_neg h3] at h
   by_cases h4:Yj vals (P.getD v []) 1 * (vals.getD v []).length=(T.getD v []).length
   ·rw [if_neg (show ¬ Yj vals (P.getD v []) 1 * (vals.getD v []).length≠(T.getD v []).length from fun h=>h h4)] at h
    rcases Nat.lt_or_ge v i with h5 | h5
    ·exact Zm3 m (v+1) h i (by omega) (by omega)
    ·have:i=v:=by omega
     subst this
     exact ⟨h4,by omega⟩
   ·rw [if_pos h4] at h;cases h
theorem Zu3 {N W:Nat} {n:Z8} (hs:Wz n W) (he:U3 n) (hsh:Sm n.2.2.1 n.2.2.2.1 n.2.2.2.2 n.2.1.length 0=0) (hr:Z4 N (8 * W+40)) (hN:1048577<N):∀ (l:List (List QV)) (k:Nat),n.2.2.2.2.drop k=l→k≤n.2.1.length→Zcb N n l k=some (Zc4 n.2.2.1 n.2.2.2.1 n.2.2.2.2 l.length k)
 | [],k,_,_=>rfl
 | t :: l,k,hd,hk=>by
  have ht:=he.t;have hv:=he.v;have hp:=he.p
  have hk1:k<n.2.2.2.2.length:=by
   rcases Nat.lt_or_ge k n.2.2.2.2.length with h | h
   ·exact h
   ·rw [List.drop_eq_nil_of_le h] at hd;cases hd
  have hd2:=List.drop_eq_getElem_cons hk1
  rw [hd] at hd2
  obtain ⟨hx,hl2⟩:=List.cons.inj hd2
  have kv:k<n.2.2.1.length:=by omega
  have kp:k<n.2.2.2.1.length:=by omega
  have hm:t ∈ n.2.2.2.2:=by rw [hx];exact List.getElem_mem hk1
  have c1:=hs.vl _ (List.getElem_mem kv)
  have c0:0<n.2.2.1[k].length:=List.length_pos_iff.2 (he.ne _ (List.getElem_mem kv))
  obtain ⟨s1,s2⟩:=Zm3 _ 0 hsh k (by omega) (by omega)
  rw [Ye kv,Ye hk1,← hx] at s1
  rw [Ye hk1,← hx] at s2
  have hq:=hs.tq t hm
  have hp2:=Zpy t
  have hf:=Zpx t
  rw [Zcb.eq_2,Z9 kv,Option.bind_some,Ztk (W:=W) (hr.mono (by omega)) (hs.lim t hm) hq (hs.tl t hm),Option.bind_some,
   Z26 (W:=2 * W) (m:=Yj n.2.2.1 (n.2.2.2.1.getD k []) 1) (hr.mono (by omega)) (fun x hx=>by
    obtain ⟨y,hy,rfl⟩:=List.mem_map.1 hx
    exact Ztd (hs.lim t hm y hy)) (by omega) c0 c1 (by rw [List.length_map];omega) (by rw [List.length_map];exact s1) hN,Option.bind_some,Zvm,List.length_cons,Zc4,Ye kv,Ye hk1,← hx]
  cases Uz n.2.2.1[k].length (Yj n.2.2.1 (n.2.2.2.1.getD k []) 1) t with
  | true=>
   rw [if_neg (by decide),if_pos rfl]
   exact Zu3 hs he hsh hr hN l (k+1) hl2.symm (by omega)
  | false=>rw [if_pos (by decide),if_neg (by decide)]
theorem Zxt {N W:Nat} {n:Z8} (hs:Wz n W) (he:U3 n) (hsh:Sm n.2.2.1 n.2.2.2.1 n.2.2.2.2 n.2.1.length 0=0) (hr:Z4 N (8 * W+40)) (hN:1048577<N):∀ (m fuel v:Nat),m+v=n.2.1.length→m<fuel→
  Zg3 N n (n.2.2.1.map fun l=>(l.length:Int)) fuel (v:Int)=some (Zc4 n.2.2.1 n.2.2.2.1 n.2.2.2.2 m v)
 | 0,0,v,_,h=>by omega
 | 0,fuel+1,v,h1,_=>by
  rw [Zg3.eq_2,if_neg (by rw [decide_eq_false (by omega)];decide)];rfl
 | m+1,0,v,_,h=>by omega
 | m+1,fuel+1,v,h1,h2=>by
  have ht:=he.t;have hv:=he.v;have hp:=he.p;have hnm:=hs.nm
  have kt:v<n.2.2.2.2.length:=by omega
  have kv:v<n.2.2.1.length:=by omega
  have hm:=List.getElem_mem kt
  have c1:=hs.vl _ (List.getElem_mem kv)
  have c0:0<n.2.2.1[v].length:=List.length_pos_iff.2 (he.ne _ (List.getElem_mem kv))
  obtain ⟨s1,s2⟩:=Zm3 _ 0 hsh v (by omega) (by omega)
  rw [Ye kv,Ye kt] at s1
  rw [Ye kt] at s2
  have hmc:Yj n.2.2.1 (n.2.2.2.1.getD v []) 1≤n.2.2.2.2[v].length:=by rw [← s1];exact Nat.le_mul_of_pos_right _ c0
  have hw:=Zxu (N:=N) (W:=W) (c:=n.2.2.1[v].length) (l:=n.2.2.2.2[v]) (hr.mono (by omega)) (hs.lim _ hm) (hs.tq _ hm) c0 c1 (hs.tl _ hm) hN (Yj n.2.2.1 (n.2.2.2.1.getD v []) 1) N 0 (by omega) (by omega)
  rw [List.drop_zero,show ((0:Nat):Int)=0 from rfl] at hw
  rw [Zg3.eq_2,if_pos (decide_eq_true (by omega)),Z9 kt,Option.bind_some,Zm4 kv,Option.bind_some,Zun,hw,Option.bind_some,Zc4,Ye kv,Ye kt]
  cases Uz n.2.2.1[v].length (Yj n.2.2.1 (n.2.2.2.1.getD v []) 1) n.2.2.2.2[v] with
  | true=>
   rw [if_neg (by decide),if_pos rfl,Zv (by omega)]
   exact Zxt hs he hsh hr hN m fuel (v+1) (by omega) (by omega)
  | false=>rw [if_pos (by decide),if_neg (by decide)]
structure Y9 (N:Nat) (n:Z8):Prop where
 ev:U3 n
 le:n.2.1.length≤1024
 nm:Sf n.2.1 n.2.2.1 n.2.1.length 0=0
 sh:Sm n.2.2.1 n.2.2.2.1 n.2.2.2.2 n.2.1.length 0=0
 en:Zdc n.2.2.2.2=false
 su:Zc4 n.2.2.1 n.2.2.2.1 n.2.2.2.2 n.2.1.length 0=0
 tw:Tf n.2.2.2.1=false
 or:∃ l,Tm N n.2.2.2.1=some (l,0)∧Qo N n.2.2.2.1=some l∧Zbl N n.2.2.2.1=some 0∧Ut n.2.2.2.1 l∧l.length=n.2.2.2.1.length
theorem Z0s {N W:Nat} {n:Z8} (hs:Wz n W) (hr:Z4 N (8 * W+40)) (hN:2000000<N):∃ e,Um N n=some e∧Zum N n=some e∧(e=0→Y9 N n):=by
 have hnm:=hs.nm
 -- shapes of the lists
 have J:∀ b:Bool,(b=true→Zca N n b=some 60∧Zg0 N n b=some 60):=fun b hb=>by
  subst hb
  exact ⟨by rw [Zca,if_pos rfl],by rw [Zg0,if_pos rfl]⟩
 have J1:=J true rfl
 rw [Um,Zum]
 by_cases hv:n.2.2.1.length=n.2.1.length
 ·by_cases hp:n.2.2.2.1.length=n.2.1.length
  ·by_cases ht:n.2.2.2.2.length=n.2.1.length
   ·rw [if_neg (by rw [decide_eq_true (by omega)];decide),if_neg (by rw [decide_eq_true (by omega)];decide),if_neg (by rw [decide_eq_true (by omega)];decide),if_neg (by rw [decide_eq_true (by omega)];decide),show (!decide ((n.2.2.2.2.length:Int)=(n.2.1.length:Int)))=false by rw [decide_eq_true (by omega)];rfl,Zca,Zg0,if_neg (show ¬ (false=true) by decide),if_neg (show ¬ (false=true) by decide)]
    by_cases hk:1024<n.2.1.length
    ·rw [if_pos (decide_eq_true (by omega)),if_pos (decide_eq_true (by omega))]
     exact ⟨4,rfl,rfl,fun h=>by cases h⟩
    ·rw [if_neg (by rw [decide_eq_false (by omega)];decide),if_neg (by rw [decide_eq_false (by omega)];decide)]
     have nn:Zf6 (n.1,n.2.1,n.2.2.1,n.2.2.2.1,n.2.2.2.2)=some (Sf n.2.1 n.2.2.1 n.2.1.length 0):=Z28 n hv
     have rn:=Zxg N n hv (by omega) hs.vl (by omega) n.2.1.length N 0 (by omega) (by omega)
     rw [show ((0:Nat):Int)=0 from rfl] at rn
     rw [nn,Option.bind_some,rn]
     by_cases hnms:Sf n.2.1 n.2.2.1 n.2.1.length 0=0
     ·rw [if_neg (by rw [decide_eq_true hnms];decide),if_pos hnms]
      obtain ⟨f,hf⟩:∃ f,N - n.2.1.length=f+1:=⟨N - n.2.1.length - 1,by omega⟩
      rw [hf,Zd9.eq_2,if_neg (by rw [decide_eq_false (by omega)];decide)]
      have hne:∀ l ∈ n.2.2.1,l≠[]:=fun l hl=>by
       obtain ⟨i,hi,rfl⟩:=List.mem_iff_getElem.1 hl
       have:=(Zvb _ 0 hnms i (by omega) (by omega)).1
       rw [Ye hi] at this;exact this
      have fin:∀ e,Za2 N n.2.2.2.1=some e→Zbl N n.2.2.2.1=some e→e≠0→∃ e,((Za2 N n.2.2.2.1).bind fun r_17=>if (!decide (r_17=0))=true then some r_17 else Za7 N n n.2.2.2.2 0)=some e∧((Zbl N n.2.2.2.1).bind fun r_76=>if (!decide (r_76=0))=true then some r_76 else (Zi8 N (n.1,n.2.1,n.2.2.1,n.2.2.2.1,n.2.2.2.2)).bind fun r_80=>Zg1 N n r_80 N 0)=some e∧(e=0→Y9 N n):=fun e h1 h2 h3=>by
       rw [h1,h2,Option.bind_some,Option.bind_some,if_pos (by rw [decide_eq_false h3];decide),if_pos (by rw [decide_eq_false h3];decide)]
       exact ⟨e,rfl,rfl,fun h=>absurd h h3⟩
      rcases Zxx hs.pn hN with ⟨e,D,R,h3⟩ | ⟨_,_,l,_,_,_,_,D,R⟩ | ⟨hI,hT,l,ho,hok,hmx,hle,D,R⟩
      ·exact fin e (by rw [Za2,D];rfl) R (by rcases h3 with h | h <;> omega)
      ·exact fin 42 (by rw [Za2,D];rfl) R (by decide)
      ·have D':Za2 N n.2.2.2.1=some 0:=by rw [Za2,D];rfl
       have he:U3 n:=⟨hv,hp,ht,hI,hne⟩
       have hsz:Zi8 N (n.1,n.2.1,n.2.2.1,n.2.2.2.1,n.2.2.2.2)=some (n.2.2.1.map fun l=>(l.length:Int)):=Z45 (n:=n) (by omega) (by omega)
       have ms:=Zu2 (N:=N) hs he n.2.2.2.2 0 (by simp) (by omega)
       have rs:=Zxp (N:=N) (by omega) hs he n.2.1.length N 0 (by omega) (by omega)
       rw [show ((0:Nat):Int)=0 from rfl] at rs
       rw [D',R,Option.bind_some,Option.bind_some,if_neg (by decide),if_neg (by decide),hsz,Option.bind_some,ms,rs,ht]
       by_cases hsh:Sm n.2.2.1 n.2.2.2.1 n.2.2.2.2 n.2.1.length 0=0
       ·have me:=Zut (N:=N) (n:=n) (W:=W) (hr.mono (by omega)) n.2.2.2.2 (fun t h=>⟨hs.tl t h,hs.tq t h,hs.lim t h⟩)
        have re:=Zw2 (N:=N) (n.2.2.1.map fun l=>(l.length:Int)) hs ht (hr.mono (by omega)) (by omega) n.2.1.length N 0 (by omega) (by omega)
        rw [show ((0:Nat):Int)=0 from rfl,List.drop_zero] at re
        rw [if_pos hsh,if_pos hsh,me,re]
        by_cases hen:Zdc n.2.2.2.2=true
        ·rw [if_pos hen,if_pos hen]
         exact ⟨45,rfl,rfl,fun h=>by cases h⟩
        ·have m6:=Zu3 (N:=N) hs he hsh hr (by omega) n.2.2.2.2 0 (by simp) (by omega)
         have r6:=Zxt (N:=N) hs he hsh hr (by omega) n.2.1.length N 0 (by omega) (by omega)
         rw [show ((0:Nat):Int)=0 from rfl] at r6
         rw [if_neg hen,if_neg hen,m6,r6,ht]
         exact ⟨_,rfl,rfl,fun h=>⟨he,by omega,hnms,hsh,Bool.eq_false_iff.2 hen,h,hT,l,D,ho,R,hok,hle⟩⟩
       ·rw [if_neg hsh,if_neg hsh]
        exact ⟨_,rfl,rfl,fun h=>absurd h hsh⟩
     ·rw [if_pos (by rw [decide_eq_false hnms];decide),if_neg hnms]
      exact ⟨_,rfl,rfl,fun h=>absurd h hnms⟩
   ·rw [if_neg (by rw [decide_eq_true (by omega)];decide),if_neg (by rw [decide_eq_true (by omega)];decide),if_neg (by rw [decide_eq_true (by omega)];decide),if_neg (by rw [decide_eq_true (by omega)];decide),decide_eq_false (by omega)]
    exact ⟨60,J1.1,J1.2,fun h=>by cases h⟩
  ·rw [if_neg (by rw [decide_eq_true (by omega)];decide),if_pos (by rw [decide_eq_false (by omega)];decide),if_neg (by rw [decide_eq_true (by omega)];decide),if_pos (by rw [decide_eq_false (by omega)];decide)]
   exact ⟨60,J1.1,J1.2,fun h=>by cases h⟩
 ·rw [if_pos (by rw [decide_eq_false (by omega)];decide),if_pos (by rw [decide_eq_false (by omega)];decide)]
  exact ⟨60,J1.1,J1.2,fun h=>by cases h⟩
def Ys (p:Rat×Rat):QV×QV:=(Zj p.1,Zj p.2)
def cnt (n:Z8) (v:Nat):Nat:=(n.2.2.1.getD v []).length
def Qw (n:Z8) (w:List Int):List Int→Nat→Nat
 | [],r=>r
 | p :: ps,r=>Qw n w ps (r * cnt n p.toNat+(w.getD p.toNat 0).toNat)
def Wf (n:Z8) (w:List Int) (v:Nat):Nat:=Qw n w (n.2.2.2.1.getD v []) 0
def Xb (n:Z8) (w:List Int) (v:Nat):List QV:=((n.2.2.2.2.getD v []).drop (Wf n w v * cnt n v)).take (cnt n v)
structure Yo (n:Z8) (w:List Int):Prop where
 len:w.length=n.2.1.length
 ok:∀ i,i<w.length→0≤w.getD i 0∧w.getD i 0<(cnt n i:Int)
theorem Zn8 {n:Z8} (he:U3 n) {v:Nat} (hv:v<n.2.1.length):0<cnt n v:=by
 have h1:v<n.2.2.1.length:=by rw [he.v];exact hv
 rw [cnt,Ye h1]
 exact List.length_pos_iff.2 (he.ne _ (List.getElem_mem h1))
theorem Zxn {n:Z8} (he:U3 n):∀ (ps:List Int) (k:Nat),(∀ p ∈ ps,0≤p∧p<(n.2.1.length:Int))→k≤1099511627776→k≤Yj n.2.2.1 ps k
 | [],k,_,_=>Nat.le_refl _
 | p :: ps,k,hp,hk=>by
  have h1:=hp p List.mem_cons_self
  have h2:0<(n.2.2.1.getD p.toNat []).length:=Zn8 he (by omega)
  rw [Yj]
  have h3:k≤min (k * (n.2.2.1.getD p.toNat []).length) 1099511627776:=Nat.le_min.2 ⟨Nat.le_mul_of_pos_right k h2,hk⟩
  exact Nat.le_trans h3 (Zxn he ps _ (fun q hq=>hp q (List.mem_cons_of_mem _ hq)) (Nat.min_le_right _ _))
theorem Zm1 {n:Z8} (he:U3 n) {w:List Int} (hw:Yo n w) {p:Int} {ps:List Int} {r k:Nat} (hp:∀ q ∈ p :: ps,0≤q∧q<(n.2.1.length:Int)) (hr:r<k) (hk:k≤65536) (hb:Yj n.2.2.1 (p :: ps) k≤65536):
  r * cnt n p.toNat+(w.getD p.toNat 0).toNat<k * cnt n p.toNat∧k * cnt n p.toNat≤65536∧Yj n.2.2.1 ps (k * cnt n p.toNat)≤65536:=by
 have h1:=hp p List.mem_cons_self
 have h2:=hw.ok p.toNat (by rw [hw.len];omega)
 have h3:r * cnt n p.toNat+cnt n p.toNat≤k * cnt n p.toNat:=by
  have:=Nat.mul_le_mul_right (cnt n p.toNat) (show r+1≤k by omega)
  rwa [Nat.add_mul,Nat.one_mul] at this
 rw [Yj] at hb
 have h4:=Zxn he ps (min (k * (n.2.2.1.getD p.toNat []).length) 1099511627776) (fun q hq=>hp q (List.mem_cons_of_mem _ hq)) (Nat.min_le_right _ _)
 have h5:k * (n.2.2.1.getD p.toNat []).length≤1099511627776:=by
  rcases Nat.le_total (k * (n.2.2.1.getD p.toNat []).length) 1099511627776 with h | h
  ·exact h
  ·rw [Nat.min_eq_right h] at h4 hb;omega
 rw [Nat.min_eq_left h5] at h4 hb
 exact ⟨by omega,Nat.le_trans h4 hb,hb⟩
theorem Zqj {n:Z8} (he:U3 n) {w:List Int} (hw:Yo n w):∀ (ps:List Int) (r k:Nat),(∀ q ∈ ps,0≤q∧q<(n.2.1.length:Int))→r<k→k≤65536→Yj n.2.2.1 ps k≤65536→Qw n w ps r<Yj n.2.2.1 ps k
 | [],r,k,_,hr,_,_=>hr
 | p :: ps,r,k,hp,hr,hk,hb=>by
  obtain ⟨h1,h2,h3⟩:=Zm1 he hw hp hr hk hb
  have:=Zqj he hw ps _ _ (fun q hq=>hp q (List.mem_cons_of_mem _ hq)) h1 h2 h3
  rw [Qw,Yj,Nat.min_eq_left (by rw [cnt] at h2;omega)]
  exact this
theorem Zqh {n:Z8} {w u:List Int}:∀ (ps:List Int) (r:Nat),(∀ p ∈ ps,w.getD p.toNat 0=u.getD p.toNat 0)→Qw n w ps r=Qw n u ps r
 | [],_,_=>rfl
 | p :: ps,r,h=>by rw [Qw,Qw,h p List.mem_cons_self];exact Zqh ps _ fun q hq=>h q (List.mem_cons_of_mem _ hq)
section
variable {N:Nat} {n:Z8} (hf:Y9 N n)
include hf
theorem Y9.pars {v:Nat} (hv:v<n.2.1.length):∀ p ∈ n.2.2.2.1.getD v [],0≤p∧p<(n.2.1.length:Int):=fun p hp=>by
 have h1:v<n.2.2.2.1.length:=by rw [hf.ev.p];exact hv
 rw [Ye h1] at hp
 have:=hf.ev.par (List.getElem_mem h1) p hp
 rwa [hf.ev.v] at this
theorem Y9.rows {v:Nat} (hv:v<n.2.1.length):Yj n.2.2.1 (n.2.2.2.1.getD v []) 1 * cnt n v=(n.2.2.2.2.getD v []).length∧(n.2.2.2.2.getD v []).length≤65536∧Yj n.2.2.1 (n.2.2.2.1.getD v []) 1≤65536:=by
 have h1:=Zm3 _ 0 hf.sh v (Nat.zero_le _) (by omega)
 have h2:=Zn8 hf.ev hv
 refine ⟨h1.1,h1.2,?_⟩
 have h3:Yj n.2.2.1 (n.2.2.2.1.getD v []) 1≤Yj n.2.2.1 (n.2.2.2.1.getD v []) 1 * cnt n v:=Nat.le_mul_of_pos_right _ h2
 have h4:Yj n.2.2.1 (n.2.2.2.1.getD v []) 1 * cnt n v≤65536:=by
  have:=h1.1;rw [cnt,this];exact h1.2
 omega
theorem Y9.row {w:List Int} (hw:Yo n w) {v:Nat} (hv:v<n.2.1.length):Wf n w v * cnt n v+cnt n v≤(n.2.2.2.2.getD v []).length∧Wf n w v<65536:=by
 obtain ⟨h1,h2,h3⟩:=hf.rows hv
 have h4:=Zqj hf.ev hw _ 0 1 (hf.pars hv) (by omega) (by omega) h3
 have h5:=Nat.mul_le_mul_right (cnt n v) (show Wf n w v+1≤Yj n.2.2.1 (n.2.2.2.1.getD v []) 1 from h4)
 rw [Nat.add_mul,Nat.one_mul,h1] at h5
 exact ⟨h5,Nat.lt_of_lt_of_le h4 h3⟩
theorem Y9.rowT_len {w:List Int} (hw:Yo n w) {v:Nat} (hv:v<n.2.1.length):(Xb n w v).length=cnt n v:=by
 have:=(hf.row hw hv).1
 rw [Xb,List.length_take,List.length_drop];omega
theorem Y9.ent {v:Nat} (hv:v<n.2.1.length):∀ x ∈ n.2.2.2.2.getD v [],0≤Zt x∧Zt x≤1:=fun x hx=>by
 have h1:v<n.2.2.2.2.length:=by rw [hf.ev.t];exact hv
 rw [Ye h1] at hx
 have h2:=hf.en
 rw [Zdc,List.any_eq_false] at h2
 have h3:=h2 _ (List.getElem_mem h1)
 rw [Bool.not_eq_true,List.any_eq_false] at h3
 have h4:=h3 x hx
 simp only [V0,Bool.or_eq_true,decide_eq_true_eq,not_or] at h4
 exact ⟨Rat.not_lt.1 h4.1,Rat.not_lt.1 h4.2⟩
end
theorem Zao {n:Z8} {w:List Int} {v:Nat} {x:QV} (h:x ∈ Xb n w v):x ∈ n.2.2.2.2.getD v []:=List.mem_of_mem_drop (List.mem_of_mem_take h)
theorem Zqi {n:Z8} {w:List Int} {v j:Nat} (hj:j<(Xb n w v).length):Zp (n.2.2.2.2.getD v []) ((Wf n w v * cnt n v+j:Nat):Int)=some (Xb n w v)[j]:=by
 have h1:Wf n w v * cnt n v+j<(n.2.2.2.2.getD v []).length:=by
  rw [Xb,List.length_take,List.length_drop] at hj;omega
 rw [Z9 h1]
 simp only [Xb,List.getElem_take,List.getElem_drop]
def Up (P:List R2) (l:List Int):Prop:=∀ (a:List Int) (v:Int) (b:List Int),l=a++v :: b→∀ p ∈ P.getD v.toNat [],p ∈ a
theorem Up.step {P:List R2} {l:List Int} {j:Nat} (h:Up P l) (hn:Vd P l 0=some j):Up P (l++[(j:Int)]):=by
 obtain ⟨_,h2,h3,_⟩:=Zpk hn
 obtain ⟨h4,h5⟩:=(Zw1 h2).1 h3
 intro a v b e p hp
 rcases List.eq_nil_or_concat b with rfl | ⟨b',c,rfl⟩
 ·obtain ⟨e1,e2⟩:=List.append_inj' e rfl
  rw [List.cons.injEq] at e2
  obtain ⟨rfl,-⟩:=e2
  subst e1
  rw [Int.toNat_natCast,Ye h2] at hp
  exact h5 p hp
 ·rw [List.concat_eq_append,← List.cons_append,← List.append_assoc] at e
  exact h a v b' (List.append_inj' e rfl).1 p hp
theorem Zvq {N:Nat} {P:List R2} (hP:P.length<1048576) (hls:∀ x ∈ P,x.length≤1048576) (hN:1048576<N):∀ (n:Nat) (l r:List Int),Ut P l→Up P l→Zbm N P n l=some r→Up P r
 | 0,l,r,_,_,h=>by rw [Zbm.eq_1] at h;cases h
 | n+1,l,r,h0,hk,h=>by
  have hl:=h0.len
  rw [Zpp (by omega) hls (by omega) hN] at h
  cases hnx:Vd P l 0 with
  | none=>rw [hnx] at h;cases h;exact hk
  | some j=>
   rw [hnx] at h
   exact Zvq hP hls hN n (l++[(j:Int)]) r (h0.step hnx).1 (hk.step hnx) h
structure Uh (P:List R2) (l:List Int):Prop where
 rg:∀ x ∈ l,0≤x∧x<(P.length:Int)
 nd:l.Nodup
 up:Up P l
theorem Z3l {N:Nat} {P:List R2} {l:List Int} (hP:P.length<1048576) (hls:∀ x ∈ P,x.length≤1048576) (hN:1048576<N) (h:Qo N P=some l) (ho:Ut P l):Uh P l:=
 ⟨ho.2.1,ho.1,Zvq hP hls hN N [] l ⟨.nil,by simp,by simp⟩ (fun a v b e=>by cases a <;> simp at e) (by rwa [Qo] at h)⟩
def X6 (n:Z8) (w:List Int):List Int→Rat×Rat→Rat×Rat
 | [],s=>s
 | v :: l,s=>X6 n w l ((Xs (s.2 - s.1) (Xb n w v.toNat) s.1).getD (w.getD v.toNat 0).toNat (0,0))
structure U4 (D M:Nat) (s:Rat×Rat):Prop where
 d:D≠0
 m:1≤M
 a:Bd D M s.1
 b:Bd D M s.2
theorem U4.zero:U4 1 1 (0,1):=⟨by decide,by decide,.zero 1 1,.one⟩
theorem Zov (M D:Nat):(Zd (M * D)).length≤(Zd M).length+(Zd D).length:=Ta M D
section
variable {N W:Nat} {n:Z8} (hf:Y9 N n) (hs:Wz n W)
include hf hs
theorem Zhz {v:Nat} (hv:v<n.2.1.length):∀ x ∈ n.2.2.2.2.getD v [],Wy x∧max x.1.2.length x.2.length≤W:=fun x hx=>by
 have h1:v<n.2.2.2.2.length:=by rw [hf.ev.t];exact hv
 rw [Ye h1] at hx
 have h2:=hs.tq _ (List.getElem_mem h1)
 exact ⟨hs.lim _ (List.getElem_mem h1) x hx,Nat.le_trans (Zwb hx) h2⟩
theorem Z4x {v:Nat} (hv:v<n.2.1.length) (w:List Int):Yb (Xb n w v)≤W:=by
 have h1:v<n.2.2.2.2.length:=by rw [hf.ev.t];exact hv
 have h2:=hs.tq _ (List.getElem_mem h1)
 rw [Xb,Ye h1]
 exact Nat.le_trans (Zpz _ _) (Nat.le_trans (Zpw _ _) h2)
theorem Zox {w:List Int} (hw:Yo n w) {v:Nat} (hv:v<n.2.1.length) {D M:Nat} {s:Rat×Rat} (h:U4 D M s):∃ D' M',(Zd M').length+(Zd D').length≤(Zd M).length+(Zd D).length+(W+2)∧
  (∀ p ∈ Xs (s.2 - s.1) (Xb n w v) s.1,U4 D' M' p)∧qs (s.2 - s.1)≤(Zd M).length+(Zd D).length+1:=by
 have hl:Bd D (M+M) (s.2 - s.1):=h.b.sub h.a h.d
 have hE:=Zkp (Xb n w v)
 have hlim:∀ x ∈ Xb n w v,Wy x:=fun x hx=>(Zhz hf hs hv x (Zao hx)).1
 have hEl:=Zsy (Xb n w v) hlim
 have hq:=Z4x hf hs hv w
 have hc:(Xb n w v).length≤65536:=by
  have h1:=(hf.rows hv).2.1
  have h2:=(hf.row hw hv).1
  rw [hf.rowT_len hw hv];omega
 have hP:=Zvw (M:=M) h.d hl (Xb n w v) 1 s.1 M (by decide) (fun x hx=>hf.ent hv x (Zao hx)) (by rw [Nat.mul_one];exact h.a)
 rw [Nat.one_mul] at hP
 have hM:M+(M+M) * (Xb n w v).length≤M * 262144:=by
  have h1:(M+M) * (Xb n w v).length≤(M+M) * 65536:=Nat.mul_le_mul_left _ hc
  omega
 refine ⟨D * Tj (Xb n w v),M * 262144,?_,fun p hp=>?_,?_⟩
 ·have h1:=Ta D (Tj (Xb n w v))
  have h2:=Ta M 262144
  have h3:(Zd 262144).length≤1:=Wt.2 (by decide)
  omega
 ·obtain ⟨h1,h2⟩:=hP p hp
  have:=h.m
  exact ⟨Nat.mul_ne_zero h.d hE,by omega,h1.up hM,h2.up hM⟩
 ·have h1:=hl.qs h.d (by have:=h.m;omega)
  have h2:=Zov (M+M) D
  have h3:(Zd (M+M)).length≤(Zd M).length+1:=Zfb (Nat.le_refl _) (Nat.le_refl _)
  omega
end
theorem U4.qa {D M:Nat} {s:Rat×Rat} (h:U4 D M s):qs s.1≤(Zd M).length+(Zd D).length:=Nat.le_trans (h.a.qs h.d h.m) (Zov M D)
theorem U4.qb {D M:Nat} {s:Rat×Rat} (h:U4 D M s):qs s.2≤(Zd M).length+(Zd D).length:=Nat.le_trans (h.b.qs h.d h.m) (Zov M D)
theorem Yo.set {n:Z8} {w:List Int} (h:Yo n w) {v:Nat} {k:Int} (hk:0≤k∧k<(cnt n v:Int)):Yo n (w.set v k):=by
 refine ⟨by rw [List.length_set];exact h.len,fun i hi=>?_⟩
 rw [List.length_set] at hi
 by_cases hv:v<w.length
 ·rw [Tb w 0 v i k hv]
  split
  ·rename_i e;rw [e];exact hk
  ·exact h.ok i hi
 ·rw [List.set_eq_of_length_le (by omega)];exact h.ok i hi
theorem Zuq {l:List (Rat×Rat)} {j:Nat} (hj:j<l.length):Zp (l.map Ys) (j:Int)=some (Ys (l.getD j (0,0))):=by
 rw [Z9 (by rw [List.length_map];exact hj),List.getElem_map,Ye hj]
theorem Zef {l:List (Rat×Rat)} {j:Nat} (hj:j<l.length):l.getD j (0,0) ∈ l:=by rw [Ye hj];exact List.getElem_mem hj
def Zb3:Option R0:=
  some ((false,[1]),[1])
theorem Zkf {col:Ze} {w0:World} {r:R0} (c1 c2:Nat) (hm:Zb3=some r):
    Calls Tryz.prog 42 #[] w0 (fun e w'=>∃ (col':Ze) (ra1:Option Addr) (rc2:Nat) (ra4:Option Addr) (rc5:Nat),e= .returned ((.agg #[.bool r.1.1,.slice ra1 r.1.2.length rc2,.slice ra4 r.2.length rc5]))∧Zg col w0 col' w'∧Zc (Za.int .u32) 77 c1 col' w' ra1 rc2 r.1.2∧Zc (Za.int .u32) 77 c2 col' w' ra4 rc5 r.2):=by
 refine Yu (m:=5) func42 rfl rfl rfl ?_;rw [Zb3.eq_1] at hm;have aa:=St.start col w0;refine go ?_;refine Xl (col:=(Zk col)) #[.bool false,.slice none (([]:List Int).length) 0,.slice none (([]:List Int).length) 0] 1 zeroValue35 ?_;intro ao ap ai aj ab;refine go ?_;refine Vb (col:=ai) [1] 2 ?_;intro ag aq ak ah ac;refine lV (.agg #[.bool false,.slice ag ([1].length) 1]) (Yk (l:=[_,_]) (qs:=[(0,1),(1,1)]) underlying33 zeroValue33 ⟨rfl,sizeOf4,rfl,sizeOf31,trivial⟩ rfl)<|Vb (col:=ak) [1] 3 ?_;intro al ar au ad ae;refine lV (.agg #[.bool false,.slice ag ([1].length) 1,.slice al ([1].length) 1]) (Yk (l:=[_,_]) (qs:=[(0,2),(2,1)]) underlying35 zeroValue35 ⟨rfl,sizeOf33,rfl,sizeOf31,trivial⟩ rfl) ?_;replace ab:=(ab.gr ah).gr ad;refine Z2 ab ?_;intro av af am an;refine go ?_;cases hm;replace aa:=(((aa.grow aj).grow ah).grow ad).kp af am;replace ac:=(ac.gr ad).kp af;replace ae:=ae.kp af;exact ⟨rfl,_,ra an.atN,_,_,1,_,1,rfl,aa.fin (cm [(2,c1),(3,c2)]),aa.fo ac,aa.fo ae⟩
abbrev T0:=Option (List Int×(QV×QV)×Bool)
theorem Zkr:Zb3=some (Zj 1):=by
 rw [Zb3,show Zj 1=((false,[1]),[1]) by rw [Zj,Zr];simp [W5]]
theorem Yo.zero {n:Z8} (he:U3 n):Yo n (List.replicate n.2.1.length 0):=by
 refine ⟨List.length_replicate,fun i hi=>?_⟩
 rw [List.length_replicate] at hi
 have:=Zn8 he hi
 rw [List.getD_eq_getElem?_getD,List.getElem?_replicate,if_pos hi]
 simp;exact this
theorem Zol {N:Nat} (hr:Z4 N 16):Za4 N ([]:List QV)=some (Zj 0):=by
 have:=(Zok (N:=N) (l:=[]) (by simp) hr).1
 rwa [Wc,List.map_nil,List.sum_nil] at this
abbrev noS:QV×QV:=(((false,([]:List Int)),([]:List Int)),((false,([]:List Int)),([]:List Int)))
def Vs (n:Z8) (ch:List (Rat×Rat)→Int):List Int→List Int→Rat×Rat→Option (List Int×(Rat×Rat))
 | [],w,s=>some (w,s)
 | v :: l,w,s=>if ch (Xs (s.2 - s.1) (Xb n w v.toNat) s.1)<0 then none else
   Vs n ch l (w.set v.toNat (ch (Xs (s.2 - s.1) (Xb n w v.toNat) s.1))) ((Xs (s.2 - s.1) (Xb n w v.toNat) s.1).getD (ch (Xs (s.2 - s.1) (Xb n w v.toNat) s.1)).toNat (0,0))
def Zhw:Option (List Int×(Rat×Rat))→T0
 | none=>some ([],noS,false)
 | some (w,s)=>some (w,Ys s,true)
def Zq2 (ch:List (Rat×Rat)→Int):Prop:=∀ P,ch P<(P.length:Int)
/-! the program's loops,the chooser left open -/
def Ze5 (N:Nat) (n:Z8) (ch:Int→List (QV×QV)→Option Int) (w:List Int) (kk:QV→QV→List Int→T0) (x row:Int) (d:QV) (e:List ByteArray):Nat→QV→List (QV×QV)→Int→T0
 | 0,_,_,_=>none
 | f+1,a,ps,k=>if decide (k<(e.length:Int))=true then (Zp n.2.2.2.2 x).bind fun t=>(Zp n.2.2.1 x).bind fun e2=>(Zp t (i64.wrap (i64.wrap (row * (e2.length:Int))+k))).bind fun y=>(Ul N d y).bind fun z=>(Uv N a z).bind fun b=>
   Z7 ((ps.length+[(a,b)].length) * 112≤140737488355328∧ps.length+[(a,b)].length≤maxLen) (Ze5 N n ch w kk x row d e f b (ps++[(a,b)]) (i64.wrap (k+1)))
  else (ch x ps).bind fun r=>if decide (r<0)=true then some ([],noS,false) else (Zp ps r).bind fun p=>(Zp w x).bind fun _=>(some (w.set (Int.toNat x) r)).bind fun xs=>kk p.1 p.2 xs
def Zax (N:Nat) (n:Z8) (ch:Int→List (QV×QV)→Option Int) (s:QV×QV) (w:List Int) (kk:QV→QV→List Int→T0) (x:Int):List Int→Int→T0
 | [],row=>(Qj N s.2 s.1).bind fun d=>(Zp n.2.2.1 x).bind fun e=>Ze5 N n ch w kk x row d e N s.1 [] 0
 | p :: l,row=>(Zp n.2.2.1 p).bind fun e=>(Zp w p).bind fun y=>Zax N n ch s w kk x l (i64.wrap (i64.wrap (row * (e.length:Int))+y))
def Zbz (N:Nat) (n:Z8) (ch:Int→List (QV×QV)→Option Int):List Int→QV→QV→List Int→T0
 | [],a,b,w=>some (w,(a,b),true)
 | x :: l,a,b,w=>(Zp n.2.2.2.1 x).bind fun ps=>Zax N n ch (a,b) w (Zbz N n ch l) x ps 0
section
variable {N K:Nat} {n:Z8} (hf:Y9 N n) (hr:Z4 N (8 * K+40))
include hf hr
theorem Zts (ch:Int→List (QV×QV)→Option Int) (w:List Int) (hw:Yo n w) (kk:QV→QV→List Int→T0) {v:Nat} (hv:v<n.2.1.length) (hl:∀ x ∈ Xb n w v,Wy x∧max x.1.2.length x.2.length≤K) {long:Rat} (hlong:qs long≤K) (F:List (QV×QV)→T0)
  (hF:∀ P:List (QV×QV),((ch (v:Int) P).bind fun r=>if decide (r<0)=true then some ([],noS,false) else (Zp P r).bind fun p=>(Zp w (v:Int)).bind fun _=>(some (w.set (Int.toNat (v:Int)) r)).bind fun xs=>kk p.1 p.2 xs)=F P):
  ∀ (l:List QV) (f j:Nat) (a:Rat) (parts:List (QV×QV)),(Xb n w v).drop j=l→j≤cnt n v→cnt n v<f+j→qs a≤K→(∀ p ∈ Xs long l a,qs p.1≤K∧qs p.2≤K)→parts.length=j→
   Ze5 N n ch w kk (v:Int) (Wf n w v:Int) (Zj long) (n.2.2.1.getD v []) f (Zj a) parts (j:Int)=F (parts++(Xs long l a).map Ys)
 | l,0,j,a,parts,_,h1,h2,_,_,_=>by omega
 | l,f+1,j,a,parts,hd,h1,h2,ha,hp,hpl=>by
  have hlen:=hf.rowT_len hw hv
  have hrow:=hf.row hw hv
  have hrows:=hf.rows hv
  rw [Ze5]
  cases l with
  | nil=>
   have h3:=List.drop_eq_nil_iff.1 hd
   rw [if_neg (by rw [decide_eq_false (by rw [cnt] at h1 hlen;omega)];decide),hF,Xs,List.map_nil,List.append_nil]
  | cons y l=>
   have hj:j<(Xb n w v).length:=by
    rcases Nat.lt_or_ge j (Xb n w v).length with h | h
    ·exact h
    ·rw [List.drop_eq_nil_of_le h] at hd;cases hd
   have hy:(Xb n w v)[j]=y∧(Xb n w v).drop (j+1)=l:=by
    rw [List.drop_eq_getElem_cons hj] at hd
    exact List.cons.inj hd
   have hyK:=hl y (hy.1 ▸ List.getElem_mem hj)
   have hjc:j<cnt n v:=by omega
   have hq:=hp _ List.mem_cons_self
   have e0:(0:Int)≤((Wf n w v * cnt n v:Nat):Int):=Int.natCast_nonneg _
   have e1:i64.wrap ((Wf n w v:Int) * ((n.2.2.1.getD v []).length:Int))=((Wf n w v * cnt n v:Nat):Int):=by
    rw [show ((n.2.2.1.getD v []).length:Int)=((cnt n v:Nat):Int) from rfl,← Int.natCast_mul]
    exact Zv (by omega)
   have e2:i64.wrap (((Wf n w v * cnt n v:Nat):Int)+(j:Int))=((Wf n w v * cnt n v+j:Nat):Int):=by
    rw [← Int.natCast_add]
    exact Zv (by omega)
   have r1:=Zc3 hyK.1.1 hyK.1.2
   have m1:Ul N (Zj long) y=some (Zj (long * Zt y)):=by
    have:=Zh0 (Yr hlong) (r1.mono hyK.2) (hr.mono (by omega))
    rwa [Yi] at this
   have s1:qs (long * Zt y)≤K+(K+1):=by
    have h4:=Zcz long (Zt y)
    have h5:=Zjp hyK.1
    omega
   have a1:Uv N (Zj a) (Zj (long * Zt y))=some (Zj (a+long * Zt y)):=by
    have:=Ze3 (Yr ha) (Yr s1) (hr.mono (by omega))
    rwa [Yi,Yi] at this
   rw [if_pos (decide_eq_true (by rw [cnt] at hjc;omega)),Wr [] (by rw [hf.ev.t];exact hv),Option.bind_some,Wr [] (by rw [hf.ev.v];exact hv),Option.bind_some,e1,e2,Zqi hj,hy.1,Option.bind_some,m1,Option.bind_some,a1,Option.bind_some,
    Xg (by simp only [List.length_singleton,maxLen];omega),Zv (x:=(j:Int)+1) (by omega)]
   have ih:=Zts ch w hw kk hv hl hlong F hF l f (j+1) (a+long * Zt y) (parts++[Ys (a,a+long * Zt y)]) hy.2 (by omega) (by omega) hq.2 (fun p h=>hp p (List.mem_cons_of_mem _ h)) (by rw [List.length_append,List.length_singleton];omega)
   rw [List.append_assoc] at ih
   exact ih
omit hr in
theorem Ztr (ch:Int→List (QV×QV)→Option Int) (s:QV×QV) (w:List Int) (hw:Yo n w) (kk:QV→QV→List Int→T0) (x:Int):∀ (ps:List Int) (r k:Nat),(∀ q ∈ ps,0≤q∧q<(n.2.1.length:Int))→r<k→k≤65536→Yj n.2.2.1 ps k≤65536→
  Zax N n ch s w kk x ps (r:Int)=Zax N n ch s w kk x [] (Qw n w ps r:Int)
 | [],r,k,_,_,_,_=>rfl
 | p :: ps,r,k,hp,h1,h2,h3=>by
  obtain ⟨g1,g2,g3⟩:=Zm1 hf.ev hw hp h1 h2 h3
  have hpp:=hp p List.mem_cons_self
  have hwp:=hw.ok p.toNat (by rw [hw.len];omega)
  have g4:r * cnt n p.toNat≤k * cnt n p.toNat:=Nat.mul_le_mul_right _ (by omega)
  have q1:Zp n.2.2.1 p=some (n.2.2.1.getD p.toNat []):=by
   have:=Wr (l:=n.2.2.1) [] (j:=p.toNat) (by rw [hf.ev.v];omega)
   rwa [show ((p.toNat:Nat):Int)=p by omega] at this
  have q2:Zp w p=some (w.getD p.toNat 0):=by
   have:=Wr (l:=w) 0 (j:=p.toNat) (by rw [hw.len];omega)
   rwa [show ((p.toNat:Nat):Int)=p by omega] at this
  have e1:i64.wrap ((r:Int) * ((n.2.2.1.getD p.toNat []).length:Int))=((r * cnt n p.toNat:Nat):Int):=by
   rw [show ((n.2.2.1.getD p.toNat []).length:Int)=((cnt n p.toNat:Nat):Int) from rfl,← Int.natCast_mul]
   exact Zv (by omega)
  have e2:i64.wrap (((r * cnt n p.toNat:Nat):Int)+w.getD p.toNat 0)=((r * cnt n p.toNat+(w.getD p.toNat 0).toNat:Nat):Int):=by
   rw [Int.natCast_add,show (((w.getD p.toNat 0).toNat:Nat):Int)=w.getD p.toNat 0 by omega]
   exact Zv (by omega)
  rw [Zax.eq_2,q1,Option.bind_some,q2,Option.bind_some,e1,e2]
  exact Ztr ch s w hw kk x ps _ _ (fun q hq=>hp q (List.mem_cons_of_mem _ hq)) g1 g2 g3
end
section
variable {N W K:Nat} {n:Z8} (hf:Y9 N n) (hs:Wz n W) (hr:Z4 N (8 * K+40)) (hWK:W≤K) {ord:List Int} (ho:Uh n.2.2.2.1 ord) {cF:List (Rat×Rat)→Int} (hF:Zq2 cF)
include hf hs hr hWK ho hF
theorem Ztq {ch:Int→List (QV×QV)→Option Int} (hN:65536<N) (hch:∀ (v:Nat) (P:List (Rat×Rat)),(∀ p ∈ P,qs p.1≤K∧qs p.2≤K)→P.length≤65536→ch (v:Int) (P.map Ys)=some (cF P)):
  ∀ (l:List Int) (w:List Int) (s:Rat×Rat) (D M:Nat),(∀ x ∈ l,x ∈ ord)→Yo n w→U4 D M s→(Zd M).length+(Zd D).length+l.length * (W+2)+2≤K→
  Zbz N n ch l (Zj s.1) (Zj s.2) w=Zhw (Vs n cF l w s)
 | [],w,s,D,M,_,_,_,_=>rfl
 | v :: l,w,s,D,M,he,hw,hL,hK=>by
  have hvr:=ho.rg v (he v List.mem_cons_self)
  rw [hf.ev.p] at hvr
  obtain ⟨k,rfl⟩:∃ k:Nat,v=(k:Int):=⟨v.toNat,by omega⟩
  have hv:k<n.2.1.length:=by omega
  obtain ⟨D',M',c1,c2,c3⟩:=Zox hf hs hw hv hL
  have hKs:(l.length+1) * (W+2)=l.length * (W+2)+(W+2):=by rw [Nat.add_mul,Nat.one_mul]
  rw [List.length_cons,hKs] at hK
  have hrows:=hf.rows hv
  have hcl:cnt n k≤65536:=by have:=(hf.row hw hv).1;omega
  have hsub:Qj N (Zj s.2) (Zj s.1)=some (Zj (s.2 - s.1)):=by
   have:=Zoj (Yr hL.qb) (Yr hL.qa) (hr.mono (s:=2 * ((Zd M).length+(Zd D).length+((Zd M).length+(Zd D).length)+3)) (by omega))
   rwa [Yi,Yi] at this
  rw [Zbz,Wr [] (by rw [hf.ev.p];exact hv),Option.bind_some]
  have h2:=Ztr (N:=N) hf ch (Zj s.1,Zj s.2) w hw (Zbz N n ch l) (k:Int) (n.2.2.2.1.getD k []) 0 1 (hf.pars hv) (by omega) (by omega) hrows.2.2
  rw [show ((0:Nat):Int)=0 from rfl] at h2
  rw [h2,Zax,hsub,Option.bind_some,Wr [] (by rw [hf.ev.v];exact hv),Option.bind_some]
  have h3:=Zts hf hr ch w hw (Zbz N n ch l) hv (fun x hx=>by have:=Zhz hf hs hv x (Zao hx);exact ⟨this.1,by omega⟩) (long:=s.2 - s.1) (by omega) _ (fun _=>rfl) (Xb n w k) N 0 s.1 [] rfl (Nat.zero_le _) (by omega) (by have:=hL.qa;omega) (fun p hp=>⟨by have:=(c2 p hp).qa;omega,by have:=(c2 p hp).qb;omega⟩) rfl
  rw [show ((0:Nat):Int)=0 from rfl] at h3
  have h3':=h3
  rw [Wf] at h3'
  rw [h3',List.nil_append]
  have hlen:(Xs (s.2 - s.1) (Xb n w k) s.1).length=cnt n k:=by rw [Qr,hf.rowT_len hw hv]
  have hfit:=hF (Xs (s.2 - s.1) (Xb n w k) s.1)
  rw [hch k _ (fun p hp=>⟨by have:=(c2 p hp).qa;omega,by have:=(c2 p hp).qb;omega⟩) (by omega),Option.bind_some,Vs,Int.toNat_natCast]
  by_cases hneg:cF (Xs (s.2 - s.1) (Xb n w k) s.1)<0
  ·rw [if_pos (decide_eq_true hneg),if_pos hneg];rfl
  ·obtain ⟨q,hq⟩:∃ q:Nat,cF (Xs (s.2 - s.1) (Xb n w k) s.1)=(q:Int):=⟨(cF (Xs (s.2 - s.1) (Xb n w k) s.1)).toNat,by omega⟩
   rw [hq] at hfit
   have hql:q<(Xs (s.2 - s.1) (Xb n w k) s.1).length:=by omega
   rw [hq,if_neg (by rw [decide_eq_false (by omega)];decide),if_neg (by omega),Zuq hql,Option.bind_some,Wr 0 (by rw [hw.len];exact hv),Option.bind_some,Option.bind_some,Int.toNat_natCast]
   exact Ztq hN hch l (w.set k q) _ D' M' (fun x hx=>he x (List.mem_cons_of_mem _ hx)) (hw.set (by omega)) (c2 _ (Zef hql)) (by omega)
end
section
variable {N K:Nat} {n:Z8} (hf:Y9 N n) (w:List Int) (hw:Yo n w)
include hf hw
end
section
variable {N W K:Nat} {n:Z8} (hf:Y9 N n) (hs:Wz n W) (hr:Z4 N (8 * K+40)) (hWK:W≤K) (hN:1048577<N)
include hf hs hr hWK hN
end
theorem Zmk {a b:Rat}:Ve a b≤0↔a≤b:=by
 rw [Ve,← Rat.not_lt]
 by_cases h:a<b
 ·rw [if_pos h];exact ⟨fun _ g=>absurd (Rat.le_of_lt h) (Rat.not_le.2 g),fun _=>by decide⟩
 ·rw [if_neg h]
  by_cases g:b<a
  ·rw [if_pos g];exact ⟨fun e=>absurd e (by decide),fun e=>absurd g e⟩
  ·rw [if_neg g];exact ⟨fun _=>g,fun _=>by decide⟩
theorem Zv7 {a b:Rat}:Ve a b<0↔a<b:=by
 rw [Ve]
 by_cases h:a<b
 ·rw [if_pos h];exact ⟨fun _=>h,fun _=>by decide⟩
 ·rw [if_neg h]
  by_cases g:b<a
  ·rw [if_pos g];exact ⟨fun e=>absurd e (by decide),fun e=>absurd e h⟩
  ·rw [if_neg g];exact ⟨fun e=>absurd e (by decide),fun e=>absurd e h⟩
def T6 (c:Rat×Rat→Bool):List (Rat×Rat)→Nat→Int
 | [],_=> -1
 | p :: l,k=>if c p=true then (k:Int) else T6 c l (k+1)
def Vc (c:Rat×Rat→Bool):List (Rat×Rat)→Nat→Int→Int
 | [],_,f=>f
 | p :: l,k,f=>Vc c l (k+1) (if c p=true then (k:Int) else f)
theorem Zta (c:Rat×Rat→Bool):∀ (l:List (Rat×Rat)) (k:Nat),T6 c l k<((k+l.length:Nat):Int)
 | [],k=>by rw [T6];omega
 | p :: l,k=>by
  have:=Zta c l (k+1)
  rw [T6,List.length_cons]
  split
  ·omega
  ·omega
theorem Z1l (c:Rat×Rat→Bool):Zq2 fun P=>T6 c P 0:=fun P=>by have:=Zta c P 0;rwa [Nat.zero_add] at this
theorem Zkv {c:Rat×Rat→Bool}:∀ (l:List (Rat×Rat)) (k:Nat) (f:Int),(∀ p ∈ l,c p=false)→Vc c l k f=f
 | [],k,f,_=>rfl
 | p :: l,k,f,h=>by rw [Vc,h p List.mem_cons_self,if_neg (by decide)];exact Zkv l _ _ fun q hq=>h q (List.mem_cons_of_mem _ hq)
theorem Ztc {c:Rat×Rat→Bool}:∀ (l:List (Rat×Rat)) (k:Nat),(∀ p ∈ l,c p=false)→T6 c l k= -1
 | [],k,_=>rfl
 | p :: l,k,h=>by rw [T6,h p List.mem_cons_self,if_neg (by decide)];exact Ztc l _ fun q hq=>h q (List.mem_cons_of_mem _ hq)
theorem Z12 {long a:Rat} {x:QV} (hl:0≤long) (hx:0≤Zt x):a≤a+long * Zt x:=by
 have h1:=Rat.add_le_add_left (c:=a) |>.2 (Rat.mul_nonneg hl hx)
 rwa [Rat.add_zero] at h1
theorem Zjl {long:Rat} (hl:0≤long):∀ (t:List QV) (a:Rat),(∀ x ∈ t,0≤Zt x)→∀ p ∈ Xs long t a,a≤p.1∧p.1≤p.2
 | [],a,_,p,hp=>by rw [Xs] at hp;cases hp
 | x :: t,a,ht,p,hp=>by
  have h1:=Z12 (a:=a) hl (ht x List.mem_cons_self)
  rw [Xs] at hp
  rcases List.mem_cons.1 hp with rfl | hp
  ·exact ⟨Rat.le_refl,h1⟩
  ·obtain ⟨h2,h3⟩:=Zjl hl t _ (fun y hy=>ht y (List.mem_cons_of_mem _ hy)) p hp
   exact ⟨Rat.le_trans h1 h2,h3⟩
def Vx (x:Rat×Rat) (p:Rat×Rat):Bool:=decide (p.1≤x.1)&&decide (x.1<p.2)&&decide (x.2≤p.2)
theorem Q4 {x p:Rat×Rat}:Vx x p=true↔p.1≤x.1∧x.1<p.2∧x.2≤p.2:=by simp [Vx,and_assoc]
structure Znd (x:Rat×Rat) (c:Rat×Rat→Bool):Prop where
 same:∀ p,p.1≤x.1→c p=Vx x p
 far:∀ p,x.1<p.2→c p=false→∀ q,x.1<q.1→c q=false
theorem Ztb {x:Rat×Rat} {c:Rat×Rat→Bool} (h:Znd x c) {long:Rat} (hl:0≤long):∀ (t:List QV) (a:Rat) (k:Nat),(∀ y ∈ t,0≤Zt y)→a≤x.1→T6 c (Xs long t a) k=Vc (Vx x) (Xs long t a) k (-1)
 | [],a,k,_,_=>rfl
 | y :: t,a,k,ht,ha=>by
  have ht':∀ z ∈ t,0≤Zt z:=fun z hz=>ht z (List.mem_cons_of_mem _ hz)
  have hge:=Zjl hl t (a+long * Zt y) ht'
  rw [Xs,T6,Vc]
  have hs:=h.same (a,a+long * Zt y) ha
  by_cases hc:c (a,a+long * Zt y)=true
  ·rw [if_pos hc,if_pos (hs ▸ hc),Zkv]
   intro p hp
   have h1:=(Q4.1 (hs ▸ hc)).2.1
   rw [Bool.eq_false_iff]
   intro g
   exact absurd (Q4.1 g).1 (Rat.not_le.2 (Std.lt_of_lt_of_le h1 (hge p hp).1))
  ·rw [if_neg hc,if_neg (hs ▸ hc)]
   by_cases hx:a+long * Zt y≤x.1
   ·exact Ztb h hl t _ (k+1) ht' hx
   ·have hx:=Rat.not_le.1 hx
    rw [Ztc,Zkv]
    ·intro p hp
     rw [Bool.eq_false_iff]
     intro g
     exact absurd (Q4.1 g).1 (Rat.not_le.2 (Std.lt_of_lt_of_le hx (hge p hp).1))
    ·intro p hp
     exact h.far _ hx (by simpa using hc) p (Std.lt_of_lt_of_le hx (hge p hp).1)
theorem Zos {c:Rat×Rat→Bool}:∀ (l:List (Rat×Rat)) (k:Nat) (f:Int),Vc c l k f=f∨∃ j,∃ h:j<l.length,Vc c l k f=((k+j:Nat):Int)∧c l[j]=true
 | [],k,f=>.inl rfl
 | p :: l,k,f=>by
  rw [Vc]
  rcases Zos (c:=c) l (k+1) (if c p=true then (k:Int) else f) with h | ⟨j,hj,h1,h2⟩
  ·rw [h]
   by_cases hc:c p=true
   ·rw [if_pos hc];exact .inr ⟨0,by simp,by omega,hc⟩
   ·rw [if_neg hc];exact .inl rfl
  ·exact .inr ⟨j+1,by simpa using hj,by rw [h1];omega,h2⟩
section
variable {N W K:Nat} {n:Z8} (hf:Y9 N n) {ord:List Int} (ho:Uh n.2.2.2.1 ord)
include hf ho
theorem Zsn {x:Rat×Rat} {c:Rat×Rat→Bool} (h:Znd x c):∀ (l w:List Int) (s:Rat×Rat),(∀ y ∈ l,y ∈ ord)→s.1≤x.1→s.1≤s.2→
  Vs n (fun P=>T6 c P 0) l w s=Vs n (fun P=>Vc (Vx x) P 0 (-1)) l w s
 | [],w,s,_,_,_=>rfl
 | v :: l,w,s,he,h1,h2=>by
  have hvr:=ho.rg v (he v List.mem_cons_self)
  rw [hf.ev.p] at hvr
  have hent:∀ y ∈ Xb n w v.toNat,0≤Zt y:=fun y hy=>(hf.ent (v:=v.toNat) (by omega) y (Zao hy)).1
  have hlong:0≤s.2 - s.1:=by rw [Rat.le_iff_sub_nonneg] at h2;exact h2
  have hfl:=Ztb h hlong (Xb n w v.toNat) s.1 0 hent h1
  rw [Vs,Vs,hfl]
  split
  ·rfl
  ·rename_i hneg
   rcases Zos (c:=Vx x) (Xs (s.2 - s.1) (Xb n w v.toNat) s.1) 0 (-1) with e | ⟨j,hj,e1,e2⟩
   ·rw [e] at hneg;exact absurd (by decide) hneg
   ·have hm:(Xs (s.2 - s.1) (Xb n w v.toNat) s.1)[j] ∈ Xs (s.2 - s.1) (Xb n w v.toNat) s.1:=List.getElem_mem hj
    rw [e1,Nat.zero_add,Int.toNat_natCast,Ye hj]
    exact Zsn h l _ _ (fun y hy=>he y (List.mem_cons_of_mem _ hy)) (Q4.1 e2).1 (Zjl hlong _ _ hent _ hm).2
end
/-! the document's loops -/
section
variable {N K:Nat} (hr:Z4 N (8 * K+40)) {x:Rat×Rat} {X:QV×QV} (q1:RV K X.1) (q2:RV K X.2) (v1:Zt X.1=x.1) (v2:Zt X.2=x.2)
include hr q1 q2 v1 v2
end
section
variable {N W K:Nat} {n:Z8} (hf:Y9 N n) (hs:Wz n W) (hr:Z4 N (8 * K+40)) (hWK:W≤K) (hN:1048577<N) {ord:List Int} (ho:Uh n.2.2.2.1 ord) (hol:ord.length≤1024)
variable {x:Rat×Rat} {X:QV×QV} (q1:RV K X.1) (q2:RV K X.2) (v1:Zt X.1=x.1) (v2:Zt X.2=x.2)
include hf hs hr hWK hN ho hol q1 q2 v1 v2
end
section
variable {N W K:Nat} {n:Z8} (hf:Y9 N n) (hs:Wz n W) (hr:Z4 N (8 * K+40)) (hWK:1025 * (W+2)+4≤K) (hN:1048577<N) {ord:List Int} (ho:Uh n.2.2.2.1 ord) (hol:ord.length≤1024)
variable {x:Rat×Rat} {X:QV×QV} (q1:RV K X.1) (q2:RV K X.2) (v1:Zt X.1=x.1) (v2:Zt X.2=x.2)
include hf hs hr hWK hN ho hol q1 q2 v1 v2
end

end Go.Proofs.YtlchacnggnhhbaaGreat
