/-
  What functions of the program compute, as plain Lean functions (m_..), and proofs that they compute it (c_..). Printed by a program of the author; no conditions.
-/
import Derived.Test.YtbmjpjhbankpoaaGreatJointWholeBFloat
import Derived.Test.YtbmjpjhbankpoaaGreatProg
import Derived.Test.YtbmjpjhbankpoaaGreatJointWholeBBrief
import Derived.Test.YtbmjpjhbankpoaaGreatJointWholeBThree
import Derived.Test.YtbmjpjhbankpoaaGreatJointWholeF2
set_option linter.unusedVariables false
set_option maxRecDepth 100000
set_option maxHeartbeats 2000000
namespace Go.Proofs.YtbmjpjhbankpoaaGreat
open Go Go.RowKit
open Go.IntKind (i8 i16 i32 i64 u8 u16 u32 u64)
open Go.Proofs.Tryz

theorem Zzw {q:List Int} (hq:Zm q) {i:Nat} (hi:i<32 * q.length) (hd:2 ^ (i+1) ∣ Zb q):
  ∃ x:Nat,Zn q ((i / 32:Nat):Int)=some (x:Int)∧u32.wrap ((x:Int)+Xt .u32 1 ((i % 32:Nat):Int))=((x+2 ^ (i % 32):Nat):Int)∧x+2 ^ (i % 32)<4294967296∧Zb (q.set (i / 32) ((x+2 ^ (i % 32):Nat):Int))=Zb q+2 ^ i:=by
 have hk:i / 32<q.length:=by omega
 have g:=hq.get hk
 have hs:i % 32<32:=Nat.mod_lt _ (by decide)
 have hp:=Nat.two_pow_pos (i % 32)
 have e32:(4294967296:Nat) ^ (i / 32)=2 ^ (32 * (i / 32)):=by rw [show (4294967296:Nat)=2 ^ 32 by decide,← Nat.pow_mul]
 have eb:(4294967296:Nat)=2 ^ (i % 32+1) * 2 ^ (31 - i % 32):=by rw [← Nat.pow_add,show i % 32+1+(31 - i % 32)=32 by omega]
 have pi:(2:Nat) ^ (i+1)=4294967296 ^ (i / 32) * 2 ^ (i % 32+1):=by rw [e32,← Nat.pow_add];congr 1;omega
 have pi0:(2:Nat) ^ i=4294967296 ^ (i / 32) * 2 ^ (i % 32):=by rw [e32,← Nat.pow_add];congr 1;omega
 have sp:=Ug q (i / 32)
 rw [Vs hk] at sp
 have tl:=Zjy hq (i / 32)
 have hQ:0<4294967296 ^ (i / 32):=Nat.pow_pos (by decide)
 rw [pi] at hd
 -- the limb's lower bits are none
 have hx:2 ^ (i % 32+1) ∣ (q[i / 32]).toNat:=by
  have d1:4294967296 ^ (i / 32) ∣ Zb q:=Nat.dvd_trans ⟨_,rfl⟩ hd
  have d2:4294967296 ^ (i / 32) ∣ Zb (q.take (i / 32)):=by
   rw [sp] at d1
   exact (Nat.dvd_add_left ⟨_,rfl⟩).1 d1
  have z:Zb (q.take (i / 32))=0:=Nat.eq_zero_of_dvd_of_lt d2 tl
  rw [z,Nat.zero_add] at sp
  rw [sp] at hd
  have d3:=Nat.dvd_of_mul_dvd_mul_left hQ hd
  have d4:2 ^ (i % 32+1) ∣ 4294967296 * Zb (q.drop (i / 32+1)):=by
   conv=>rhs;rw [eb]
   exact ⟨2 ^ (31 - i % 32) * Zb (q.drop (i / 32+1)),by rw [Nat.mul_assoc]⟩
  exact (Nat.dvd_add_left d4).1 d3
 obtain ⟨y,hy⟩:=hx
 have hlt:(q[i / 32]).toNat+2 ^ (i % 32)<4294967296:=by
  have h1:2 ^ (i % 32+1) * y<2 ^ (i % 32+1) * 2 ^ (31 - i % 32):=by rw [← hy,← eb];omega
  have h2:=Nat.lt_of_mul_lt_mul_left h1
  have h3:=Nat.mul_le_mul_left (2 ^ (i % 32+1)) (show y+1≤2 ^ (31 - i % 32) from h2)
  rw [← eb,Nat.mul_add,← hy,Nat.pow_succ] at h3
  omega
 refine ⟨(q[i / 32]).toNat,by rw [Xb hk];congr 1;omega,?_,hlt,?_⟩
 ·rw [show (1:Int)=((1:Nat):Int) from rfl,Zna hs (.inl rfl),Nat.one_mul,Vm (x:=((2 ^ (i % 32):Nat):Int)) (by omega),Vm (by omega)]
  omega
 ·have h1:=U4 hk (((q[i / 32]).toNat+2 ^ (i % 32):Nat):Int)
  rw [Int.toNat_natCast,Nat.mul_add,← pi0] at h1
  omega
theorem Zm3 (N:Nat) (a y:List Int) (ha:Zm a) (hy:Zm y) (hy0:0<Zb y) (hly:y.length+8<N) (hs:y.length<549755813888) (hla:a.length<549755813888) (hyc:(Ze (Zb y)).length=y.length) (hNa:a.length+y.length+8<N):∀ (n j:Nat) (r q:List Int),j<n→j<4611686018427387904→j≤32 * q.length→q.length≤a.length→Zm q→r=Ze (Zb r)→Zb r<Zb y→2 ^ j ∣ Zb q→Zb a / 2 ^ j=Zb q / 2 ^ j * Zb y+Zb r→
  Zab N a y n r ((j:Int) - 1) q=some (Ze (Zb a / Zb y),Ze (Zb a % Zb y),0)
 | 0,j,r,q,h,_,_,_,_,_,_,_,_=>by omega
 | n+1,j,r,q,hjn,hj,hjq,hqa,hq,hr,hlt,hd,he=>by
  rw [Zab.eq_2]
  by_cases h0:j=0
  ·subst h0
   rw [Nat.pow_zero,Nat.div_one,Nat.div_one] at he
   rw [if_neg (by decide),Tz hq (by omega) (by omega),Option.bind_some]
   have h1:Zb a / Zb y=Zb q:=by rw [he,Nat.mul_comm,Nat.mul_add_div hy0,Nat.div_eq_of_lt hlt,Nat.add_zero]
   have h2:Zb a % Zb y=Zb r:=by rw [he,Nat.mul_comm,Nat.mul_add_mod,Nat.mod_eq_of_lt hlt]
   rw [h1,h2,← hr]
  ·have e:(j:Int) - 1=((j - 1:Nat):Int):=by omega
   obtain ⟨i,rfl⟩:∃ i,j=i+1:=⟨j - 1,by omega⟩
   have ei:i+1 - 1=i:=by omega
   rw [e,ei]
   have hrl:r.length≤y.length:=by
    rw [hr,← hyc];exact W4 (Nat.le_of_lt hlt)
   have hlr:Zm r:=by rw [hr];exact Z5 _
   have hb:=Nat.mod_lt (Zb a / 2 ^ i) (show 0<2 by decide)
   obtain ⟨d,d1,d2,d3,d4⟩:=Zsx (N:=N) (a:=r) (c:=Zb a / 2 ^ i % 2) hlr (by omega) (by omega) (by omega)
   have h2:Zb a / 2 ^ i=2 * (Zb a / 2 ^ (i+1))+Zb a / 2 ^ i % 2:=by
    rw [Nat.pow_succ,← Nat.div_div_eq_div_mul];omega
   obtain ⟨qq,hqq⟩:=hd
   have hq1:Zb q / 2 ^ (i+1)=qq:=by rw [hqq,Nat.mul_div_cancel_left _ (Nat.two_pow_pos _)]
   have hq2:Zb q / 2 ^ i=2 * qq:=by rw [hqq,Nat.pow_succ,Nat.mul_assoc,Nat.mul_div_cancel_left _ (Nat.two_pow_pos _)]
   rw [hq1] at he
   rw [if_pos (decide_eq_true (by omega)),Z0t ha (by omega),Option.bind_some,d1,Option.bind_some,Tz d3 (by omega) (by omega),Option.bind_some,Zm2 (Z5 _) hy (by have:=Ym d3;omega) (by omega) (by have:=Ym d3;omega) (by omega),Option.bind_some,Z1,d4]
   rw [he] at h2
   have hkey:Zb a / 2 ^ i=2 * qq * Zb y+(2 * Zb r+Zb a / 2 ^ i % 2):=by
    have:2 * qq * Zb y=2 * (qq * Zb y):=Nat.mul_assoc _ _ _
    omega
   generalize hbit:Zb a / 2 ^ i % 2=b at *
   by_cases hge:Zb y≤2 * Zb r+b
   ·rw [if_pos (by rw [if_neg (by omega)];split <;> decide)]
    obtain ⟨x,x1,x2,x3,x4⟩:=Zzw hq (i:=i) (by omega) ⟨qq,hqq⟩
    have e1:i64.wrap (Int.tdiv (i:Int) 32)=((i / 32:Nat):Int):=by rw [Int.tdiv_eq_ediv_of_nonneg (by omega),Zy (by omega)];omega
    have e2:Int.tmod (i:Int) 32=((i % 32:Nat):Int):=by rw [Int.tmod_eq_emod_of_nonneg (by omega)];omega
    have ll:(Ze (2 * Zb r+b)).length≤y.length+1:=by rw [← d4];exact Nat.le_trans (Ym d3) (by omega)
    rw [Zm8 (Z5 _) hy (by omega) (by omega) (by omega) (by omega),Option.bind_some,Z1,if_neg (by omega),e1,e2,x1,Option.bind_some,Xd (by omega),x2,Option.bind_some,Int.toNat_natCast,Zeq,Zy (by omega)]
    have ih:=Zm3 N a y ha hy hy0 hly hs hla hyc hNa n i (Ze (2 * Zb r+b - Zb y)) (q.set (i / 32) ((x+2 ^ (i % 32):Nat):Int)) (by omega) (by omega) (by rw [List.length_set];omega) (by rw [List.length_set];exact hqa) (hq.set _ ⟨Int.natCast_nonneg _,Int.ofNat_lt.2 x3⟩) (by rw [Z1]) (by rw [Z1];omega) (by
     rw [x4,hqq];exact Nat.dvd_add ⟨2 * qq,by rw [Nat.pow_succ,Nat.mul_assoc]⟩ (Nat.dvd_refl _)) (by
     have:Zb (q.set (i / 32) ((x+2 ^ (i % 32):Nat):Int)) / 2 ^ i=2 * qq+1:=by
      rw [x4,Nat.add_div_right _ (Nat.two_pow_pos _),hq2]
     rw [this,Z1,hkey,Nat.add_mul,Nat.one_mul];omega)
    exact ih
   ·rw [if_neg (by rw [if_pos (by omega)];decide),Zeq,Zy (by omega)]
    exact Zm3 N a y ha hy hy0 hly hs hla hyc hNa n i (Ze (2 * Zb r+b)) q (by omega) (by omega) (by omega) hqa hq (by rw [Z1]) (by rw [Z1];omega) (by rw [hqq];exact ⟨2 * qq,by rw [Nat.pow_succ,Nat.mul_assoc]⟩) (by rw [hq2,Z1,hkey])
theorem Zsv {N:Nat} {a b:List Int} (ha:Zm a) (hb:Zm b) (hN:32 * a.length+(Ze (Zb b)).length+48<N) (hbN:b.length<N) (hs:a.length+(Ze (Zb b)).length<274877906944) (hbs:b.length≤1099511627776):
  Zep N a b=some (if Zb b=0 then ([],[],11) else (Ze (Zb a / Zb b),Ze (Zb a % Zb b),0)):=by
 have la:=Ym ha
 rw [Zep,Tz hb (by omega) (by omega),Option.bind_some]
 by_cases h0:Zb b=0
 ·rw [h0,Wl,if_pos (by decide),if_pos rfl]
 ·have hbp:=Tk h0
  have hbl:=(Zh9 (Zb a)).2
  rw [if_neg (by rw [decide_eq_false (by omega)];decide),if_neg h0,Z0u ha (by omega) (by omega),Option.bind_some]
  have e1:i64.wrap (Int.tdiv (i64.wrap (((Z3 (Zb a):Nat):Int)+31)) 32)=(((Z3 (Zb a)+31) / 32:Nat):Int):=by
   rw [Zy (x:=((Z3 (Zb a):Nat):Int)+31) (by omega),Int.tdiv_eq_ediv_of_nonneg (by omega),Zy (by omega)];omega
  rw [e1,Xd (by simp only [maxLen,Int.toNat_natCast];omega),Int.toNat_natCast,Zy (by omega)]
  have:=Zm3 N a (Ze (Zb b)) ha (Z5 _) (by rw [Z1];omega) (by omega) (by omega) (by omega) (by rw [Z1]) (by omega) N (Z3 (Zb a)) [] (List.replicate ((Z3 (Zb a)+31) / 32) 0) (by omega) (by omega) (by rw [List.length_replicate];omega) (by rw [List.length_replicate];omega) (.zeros _) (by rw [Ye,Wl]) (by rw [Z1,Ye];omega) (by rw [Tu];exact ⟨0,rfl⟩) (by
   rw [Tu,Ye,Nat.zero_div,Nat.zero_mul]
   exact Nat.div_eq_of_lt (Vc.1 (Nat.le_refl _)))
  rw [Z1] at this
  exact this
theorem Zw1 {x:Nat} (h:x % 2=1):Nat.Coprime 2 x:=by
 rw [Nat.coprime_iff_gcd_eq_one,Nat.gcd_rec,h,Nat.gcd_one_left]
theorem Zpr {x y k:Nat} (h:y % 2=1):Nat.gcd (2 ^ k * x) y=Nat.gcd x y:=by
 induction k with
 | zero=>rw [Nat.pow_zero,Nat.one_mul]
 | succ k ih=>rw [Nat.pow_succ,Nat.mul_comm (2 ^ k),Nat.mul_assoc,(Zw1 h).gcd_mul_left_cancel,ih]
theorem Zx8 {x y k:Nat} (h:x % 2=1):Nat.gcd x (2 ^ k * y)=Nat.gcd x y:=by
 rw [Nat.gcd_comm,Zpr h,Nat.gcd_comm]
theorem Zia {x:Nat} (h:x≠0):1≤Z3 x:=by rw [Z3,if_neg h];omega
theorem Zh8 (x:Nat):Z3 (x / 2)=Z3 x - 1:=by
 have:=Zfo x 1
 rwa [Nat.pow_one] at this
theorem Zfn {x y:Nat} (h:x≤y):Z3 x≤Z3 y:=Vc.2 (Nat.lt_of_le_of_lt h (Vc.1 (Nat.le_refl _)))
theorem Zfm {M x:Nat} (h:(Ze x).length≤M):Z3 x≤32 * M:=by have:=(Zh9 x).2;omega
theorem Zp9 {x xo k:Nat} (h:x=2 ^ k * xo):xo≤x:=by
 rw [h]
 have:=Nat.mul_le_mul_right xo (Nat.two_pow_pos k)
 omega
section
variable {N M:Nat} (hN:100 * M+64<N) (hM:M<17179869200)
include hN hM
theorem Zs5 (t:Nat):∀ (n i:Nat) (x:List Int),i≤t→t - i<n→t≤32 * M→Zm x→x.length+(t - i)≤33 * M→
  ∃ g,Zcr N (t:Int) n x (i:Int)=some g∧Zm g∧Zb g=2 ^ (t - i) * Zb x∧g.length≤x.length+(t - i)
 | 0,i,x,_,h,_,_,_=>by omega
 | n+1,i,x,hi,hn,ht,hx,hl=>by
  rw [Zcr.eq_2]
  by_cases h0:i<t
  ·obtain ⟨d,d1,d2,d3,d4⟩:=Zsx (N:=N) (a:=x) (c:=0) hx (by omega) (by omega) (by omega)
   rw [show ((0:Nat):Int)=0 from rfl] at d1
   obtain ⟨g,g1,g2,g3,g4⟩:=Zs5 t n (i+1) d (by omega) (by omega) ht d3 (by omega)
   rw [show ((i+1:Nat):Int)=(i:Int)+1 by omega] at g1
   rw [if_pos (decide_eq_true (by omega)),d1,Option.bind_some,Zy (by omega)]
   refine ⟨g,g1,g2,?_,by omega⟩
   rw [g3,d4,Nat.add_zero (2 * Zb x),← Nat.mul_assoc,← Nat.pow_succ]
   congr 2;omega
  ·have:i=t:=by omega
   subst this
   rw [if_neg (by rw [decide_eq_false (by omega)];decide)]
   exact ⟨x,rfl,hx,by simp,by omega⟩
theorem Zs4 (kk:List Int→List Int→Option R2) {x:Nat} (hx:(Ze x).length≤M):∀ (n y:Nat),y≠0→Z3 y<n→(Ze y).length≤M→
  ∃ yo k,y=2 ^ k * yo∧yo % 2=1∧Qd N kk (Ze x) n (Ze y)=kk (Ze (min x yo)) (Ze (max x yo - min x yo))
 | 0,y,_,h,_=>by omega
 | n+1,y,h0,hn,hy=>by
  have hp:=Tk h0
  rw [Qd.eq_2,if_pos (decide_eq_true (by omega)),Zka (Z5 _),Z1,Option.bind_some,Zgu]
  by_cases he:y % 2=0
  ·rw [if_pos (decide_eq_true he),Zkb (Z5 _) (by omega) (by omega),Option.bind_some,Z1]
   have hb:=Zh8 y
   have h1:=Zia h0
   obtain ⟨yo,k,e1,e2,e3⟩:=Zs4 kk hx n (y / 2) (by omega) (by omega) (Nat.le_trans (W4 (Nat.div_le_self _ _)) hy)
   refine ⟨yo,k+1,?_,e2,e3⟩
   rw [Nat.pow_succ,Nat.mul_comm (2 ^ k),Nat.mul_assoc,← e1];omega
  ·rw [if_neg (by rw [decide_eq_false he];decide),Zm2 (Z5 _) (Z5 _) (by omega) (by omega) (by omega) (by omega),Option.bind_some,Z1,Z1]
   refine ⟨y,0,by simp,by omega,?_⟩
   by_cases hxy:y<x
   ·rw [if_pos (by rw [if_neg (by omega),if_pos hxy];decide),Zes,Zm8 (Z5 _) (Z5 _) (by omega) (by omega) (by omega) (by omega),Option.bind_some,Z1,Z1,if_neg (by omega),Nat.min_eq_right (by omega),Nat.max_eq_left (by omega)]
   ·rw [if_neg (by split <;> (try split) <;> simp_all <;> omega),Zes,Zm8 (Z5 _) (Z5 _) (by omega) (by omega) (by omega) (by omega),Option.bind_some,Z1,Z1,if_neg (by omega),Nat.min_eq_left (by omega),Nat.max_eq_right (by omega)]
theorem Zs3 (kk:List Int→List Int→Option R2) {y:Nat}:∀ (n x:Nat),x≠0→Z3 x<n→(Ze x).length≤M→
  ∃ xo k,x=2 ^ k * xo∧xo % 2=1∧Zcq N (Ze y) kk n (Ze x)=Qd N kk (Ze xo) N (Ze y)
 | 0,x,_,h,_=>by omega
 | n+1,x,h0,hn,hx=>by
  rw [Zcq.eq_2,Zka (Z5 _),Z1,Option.bind_some]
  by_cases he:x % 2=0
  ·rw [if_pos (decide_eq_true he),Zkb (Z5 _) (by omega) (by omega),Option.bind_some,Z1]
   have hb:=Zh8 x
   have h1:=Zia h0
   obtain ⟨xo,k,e1,e2,e3⟩:=Zs3 kk n (x / 2) (by omega) (by omega) (Nat.le_trans (W4 (Nat.div_le_self _ _)) hx)
   refine ⟨xo,k+1,?_,e2,e3⟩
   rw [Nat.pow_succ,Nat.mul_comm (2 ^ k),Nat.mul_assoc,← e1];omega
  ·rw [if_neg (by rw [decide_eq_false he];decide)]
   exact ⟨x,0,by simp,by omega,rfl⟩
theorem Zs6 (t:Nat) {n x y:Nat} (hx:x≠0) (hy:y≠0) (h:x % 2=1∨y % 2=1) (lx:(Ze x).length≤M) (ly:(Ze y).length≤M):
  ∃ x' y',Vi N (t:Int) (n+1) (Ze x) (Ze y)=Vi N (t:Int) n (Ze x') (Ze y')∧x' % 2=1∧y' % 2=0∧Nat.gcd x' y'=Nat.gcd x y∧(Ze x').length≤M∧(Ze y').length≤M∧(Z3 x'+Z3 y'≤Z3 x+Z3 y)∧(y % 2=0→Z3 x'+Z3 y'+1≤Z3 x+Z3 y):=by
 have hp:=Tk hy
 have bx:=Zfm lx
 have by_:=Zfm ly
 obtain ⟨xo,k,x1,x2,x3⟩:=Zs3 hN hM (Vi N (t:Int) n) (y:=y) N x hx (by omega) lx
 have lxo:=Zp9 x1
 obtain ⟨yo,l,y1,y2,y3⟩:=Zs4 hN hM (Vi N (t:Int) n) (x:=xo) (Nat.le_trans (W4 lxo) lx) N y hy (by omega) ly
 have lyo:=Zp9 y1
 rw [Vi.eq_2,if_pos (decide_eq_true (by omega)),x3,y3]
 have mM:max xo yo≤max x y:=by omega
 have lM:(Ze (max x y)).length≤M:=by
  rcases Nat.le_total x y with h | h
  ·rw [Nat.max_eq_right h];exact ly
  ·rw [Nat.max_eq_left h];exact lx
 have bmm:Z3 (min xo yo)+Z3 (max xo yo - min xo yo)≤Z3 xo+Z3 yo:=by
  rcases Nat.le_total xo yo with h | h
  ·rw [Nat.min_eq_left h,Nat.max_eq_right h]
   have:=Zfn (Nat.sub_le yo xo);omega
  ·rw [Nat.min_eq_right h,Nat.max_eq_left h]
   have:=Zfn (Nat.sub_le xo yo);omega
 have b1:=Zfn lxo
 have b2:=Zfn lyo
 refine ⟨_,_,rfl,by omega,by omega,?_,Nat.le_trans (W4 (by omega)) lM,Nat.le_trans (W4 (by omega)) lM,by omega,fun hev=>?_⟩
 ·have g1:Nat.gcd (min xo yo) (max xo yo - min xo yo)=Nat.gcd xo yo:=by
   rcases Nat.le_total xo yo with h | h
   ·rw [Nat.min_eq_left h,Nat.max_eq_right h,Nat.gcd_sub_self_right h]
   ·rw [Nat.min_eq_right h,Nat.max_eq_left h,Nat.gcd_sub_self_right h,Nat.gcd_comm]
  rw [g1,x1,y1]
  rcases h with h | h
  ·have hk:k=0:=by
    rcases Nat.eq_zero_or_pos k with hk | hk
    ·exact hk
    ·obtain ⟨k',rfl⟩:∃ k',k=k'+1:=⟨k - 1,by omega⟩
     rw [x1,Nat.pow_succ,Nat.mul_comm (2 ^ k'),Nat.mul_assoc] at h;omega
   subst hk
   rw [Nat.pow_zero,Nat.one_mul,Zx8 x2]
  ·have hl:l=0:=by
    rcases Nat.eq_zero_or_pos l with hk | hk
    ·exact hk
    ·obtain ⟨k',rfl⟩:∃ k',l=k'+1:=⟨l - 1,by omega⟩
     rw [y1,Nat.pow_succ,Nat.mul_comm (2 ^ k'),Nat.mul_assoc] at h;omega
   subst hl
   rw [Nat.pow_zero,Nat.one_mul,Zpr y2]
 ·have:yo≤y / 2:=by
   rcases Nat.eq_zero_or_pos l with hl | hl
   ·subst hl;rw [Nat.pow_zero,Nat.one_mul] at y1;omega
   ·obtain ⟨k',rfl⟩:∃ k',l=k'+1:=⟨l - 1,by omega⟩
    rw [y1,Nat.pow_succ,Nat.mul_comm (2 ^ k'),Nat.mul_assoc,Nat.mul_div_cancel_left _ (by decide)]
    have:=Nat.mul_le_mul_right yo (Nat.two_pow_pos k')
    omega
  have h3:=Zfn this
  rw [Zh8] at h3
  have h4:=Zia hy
  omega
theorem Zs2 (t:Nat) (ht:t≤32 * M):∀ (n x y:Nat),x % 2=1→y % 2=0→Z3 x+Z3 y<n→(Ze x).length≤M→(Ze y).length≤M→
  ∃ g,Vi N (t:Int) n (Ze x) (Ze y)=some g∧Zm g∧Zb g=2 ^ t * Nat.gcd x y∧g.length≤33 * M
 | 0,x,y,_,_,h,_,_=>by omega
 | n+1,x,y,hx,hy,hn,lx,ly=>by
  by_cases h0:y=0
  ·subst h0
   rw [Vi.eq_2,Wl,if_neg (by decide)]
   obtain ⟨g,g1,g2,g3,g4⟩:=Zs5 hN hM t N 0 (Ze x) (by omega) (by omega) ht (Z5 _) (by omega)
   rw [Z1,Nat.sub_zero] at g3
   exact ⟨g,g1,g2,by rw [g3,Nat.gcd_zero_right],by omega⟩
  ·obtain ⟨x',y',e1,e2,e3,e4,e5,e6,_,e7⟩:=Zs6 hN hM t (n:=n) (by omega) h0 (.inl hx) lx ly
   have:=e7 hy
   obtain ⟨g,g1,g2,g3,g4⟩:=Zs2 t ht n x' y' e2 e3 (by omega) e5 e6
   exact ⟨g,by rw [e1,g1],g2,by rw [g3,e4],g4⟩
theorem Zs1:∀ (n x y t:Nat),x≠0→y≠0→Z3 x<n→t+Z3 x≤32 * M→(Ze x).length≤M→(Ze y).length≤M→
  ∃ g,Zac N n (Ze x) (Ze y) (t:Int)=some g∧Zm g∧Zb g=2 ^ t * Nat.gcd x y∧g.length≤33 * M
 | 0,x,y,t,_,_,h,_,_,_=>by omega
 | n+1,x,y,t,hx,hy,hn,ht,lx,ly=>by
  have bx:=Zfm lx
  have by_:=Zfm ly
  have last:(x % 2=1∨y % 2=1)→∃ g,Vi N (t:Int) N (Ze x) (Ze y)=some g∧Zm g∧Zb g=2 ^ t * Nat.gcd x y∧g.length≤33 * M:=fun h=>by
   obtain ⟨N',hN'⟩:∃ N',N=N'+1:=⟨N - 1,by omega⟩
   obtain ⟨x',y',e1,e2,e3,e4,e5,e6,e7,_⟩:=Zs6 hN hM t (n:=N') hx hy h lx ly
   obtain ⟨g,g1,g2,g3,g4⟩:=Zs2 hN hM t (by omega) N' x' y' e2 e3 (by omega) e5 e6
   refine ⟨g,?_,g2,by rw [g3,e4],g4⟩
   rw [← g1,← e1]
   congr 1
  rw [Zac.eq_2,Zka (Z5 _),Z1,Option.bind_some]
  by_cases hxe:x % 2=0
  ·rw [if_pos (decide_eq_true hxe),Zka (Z5 _),Z1,Option.bind_some,Zer]
   by_cases hye:y % 2=0
   ·rw [if_pos (decide_eq_true hye),Zkb (Z5 _) (by omega) (by omega),Option.bind_some,Zkb (Z5 _) (by omega) (by omega),Option.bind_some,Z1,Z1,Zy (by omega)]
    have hb:=Zh8 x
    have h1:=Zia hx
    obtain ⟨g,g1,g2,g3,g4⟩:=Zs1 n (x / 2) (y / 2) (t+1) (by omega) (by omega) (by omega) (by omega) (Nat.le_trans (W4 (Nat.div_le_self _ _)) lx) (Nat.le_trans (W4 (Nat.div_le_self _ _)) ly)
    rw [show ((t+1:Nat):Int)=(t:Int)+1 by omega] at g1
    refine ⟨g,g1,g2,?_,g4⟩
    rw [g3,Nat.pow_succ,Nat.mul_assoc,← Nat.gcd_mul_left]
    congr 2 <;> omega
   ·rw [if_neg (by rw [decide_eq_false hye];decide)]
    exact last (.inr (by omega))
  ·rw [if_neg (by rw [decide_eq_false hxe];decide),Zer,if_neg (by decide)]
   exact last (.inl (by omega))
end
theorem Z0z {N M:Nat} {a b:List Int} (ha:Zm a) (hb:Zm b) (hla:a.length≤M) (hlb:b.length≤M) (hN:100 * M+64<N) (hM:M<17179869200):∃ g,Zgt N a b=some g∧Zm g∧Zb g=Nat.gcd (Zb a) (Zb b)∧g.length≤33 * M:=by
 have la:=Ym ha
 have lb:=Ym hb
 rw [Zgt,Tz ha (by omega) (by omega),Option.bind_some,Tz hb (by omega) (by omega),Option.bind_some]
 by_cases h1:Zb a=0
 ·rw [h1,Wl,if_pos (by decide),Nat.gcd_zero_left]
  exact ⟨_,rfl,Z5 _,Z1 _,by omega⟩
 ·have p1:=Tk h1
  rw [if_neg (by rw [decide_eq_false (by omega)];decide)]
  by_cases h2:Zb b=0
  ·rw [h2,Wl,if_pos (by decide),Nat.gcd_zero_right]
   exact ⟨_,rfl,Z5 _,Z1 _,by omega⟩
  ·have p2:=Tk h2
   have bx:=Zfm (x:=Zb a) (by omega)
   rw [if_neg (by rw [decide_eq_false (by omega)];decide)]
   obtain ⟨g,g1,g2,g3,g4⟩:=Zs1 hN hM N (Zb a) (Zb b) 0 h1 h2 (by omega) (by omega) (by omega) (by omega)
   exact ⟨g,g1,g2,by rw [g3];simp,g4⟩
def Zez (aa:Bool) (ab:List Int):Option R3:=
  some (aa,ab)
def Zcu (N:Nat) (ab:Bool) (ac:List Int):Option R3:=
  (V4 N ac).bind fun aa=>if ab=true then (Zez (decide (0<(aa.length:Int))) aa) else (Zez false aa)
theorem Zk3 {N ao:Nat} {a1:Option Addr} {col:Zd} {w0:World} {ap:Bool} {ah:R2} {r:R3} (c1:Nat) (hm:Zcu N ap ah=some r) (h1:Sl (Za.int .u32) col w0 a1 ao ah):
    Calls Tryz.prog 226 #[.bool ap,.slice a1 ah.length ao] w0 (fun e w'=>∃ (col':Zd) (ra1:Option Addr) (rc2:Nat),e= .returned ((.agg #[.bool r.1,.slice ra1 r.2.length rc2]))∧Zf col w0 col' w'∧Zc (Za.int .u32) 79 c1 col' w' ra1 rc2 r.2):=by
 refine Wa (m:=16) func226 rfl rfl rfl ?_;rw [Zcu.eq_1] at hm;have aa:=St.start col w0;refine go ?_;refine Xo (col:=(Zi col)) #[.bool false,.slice none (([]:List Int).length) 0] 1 zeroValue45 ?_;intro ax a4 a5 ay ac;refine go ?_;obtain ⟨ad,az,hm⟩:=bZ hm;replace h1:=h1.keep (Zk.start col w0);replace aa:=aa.grow ay;refine Zg (Tg 2 az (h1.ks aa)) ?_;rintro _ a6 ⟨a7,aq,ar,rfl,au,ab⟩;refine ⟨_,rfl,?_⟩;refine Ziu rfl<|Zl<|Zu ?_;replace ac:=ac.gr au;replace aa:=aa.grow au;refine Wp.cutK [4,1000000] (fun f ae=>∃ af ai aj ak ag,Zez ai ag=some r∧St w0 (Zi col) af ae∧Zc (Za.int .u32) 79 3 af ae aj ak ag∧Zh 45 1 af ae ax #[.bool ai,.slice aj ag.length ak]) ?_ ?_
 ·intro f ae hJ;obtain ⟨af,ai,aj,ak,ag,hm,aa,a0,ac⟩:=hJ;rw [Zez.eq_1] at hm;refine W0 ?_;cases hm;exact ⟨rfl,_,ra ac.atN,_,_,_,rfl,aa.fin (cm [(3,c1)]),aa.fo a0⟩
 refine go ?_;refine X5 hm (fun al hm=>go ?_) fun al hm=>go ?_
 ·refine lV (.bool (decide (0<(ad.length:Int)))) (Xq (congrArg Value.bool al) rfl)<|Yu rfl<|lV (.agg #[.bool (decide (0<(ad.length:Int))),.slice aq ad.length ar]) (Wb (l:=[_,_]) (qs:=[(0,1),(1,1)]) underlying45 zeroValue45 ⟨rfl,sizeOf4,rfl,sizeOf43,trivial⟩ rfl)<|Z4 ac ?_;intro a8 av a2 am;refine Zl ?_;replace ab:=ab.kp av;replace ab:=ab.recolSelf 3 (by decide);replace am:=am.recol 2 3 (by decide);replace aa:=aa.kp av a2;replace aa:=aa.recol 2 3 (by decide) (by decide);exact ⟨rfl,_,_,_,_,_,hm,aa,ab,am⟩
 refine lV (.bool false) (Xk (congrArg Value.bool al) rfl)<|Yu rfl<|lV (.agg #[.bool false,.slice aq ad.length ar]) (Wb (l:=[_,_]) (qs:=[(0,1),(1,1)]) underlying45 zeroValue45 ⟨rfl,sizeOf4,rfl,sizeOf43,trivial⟩ rfl)<|Z4 ac ?_;intro a9 aw a3 an;refine Zl ?_;replace ab:=ab.kp aw;replace ab:=ab.recolSelf 3 (by decide);replace an:=an.recol 2 3 (by decide);replace aa:=aa.kp aw a3;replace aa:=aa.recol 2 3 (by decide) (by decide);exact ⟨rfl,_,_,_,_,_,hm,aa,ab,an⟩
def Ze0 (N:Nat) (aa:R3):Option R3:=
  (Zcu N aa.1 aa.2).bind fun ab=>some (ab.1,ab.2)
theorem Zn8 {N ag:Nat} {ah:Option Addr} {col:Zd} {w0:World} {ab r:R3} (c1:Nat) (hm:Ze0 N ab=some r) (ad:Sl (Za.int .u32) col w0 ah ag ab.2):
    Calls Tryz.prog 268 #[(.agg #[.bool ab.1,.slice ah ab.2.length ag])] w0 (fun e w'=>∃ (col':Zd) (ra1:Option Addr) (rc2:Nat),e= .returned ((.agg #[.bool r.1,.slice ra1 r.2.length rc2]))∧Zf col w0 col' w'∧Zc (Za.int .u32) 79 c1 col' w' ra1 rc2 r.2):=by
 refine Wa (m:=8) func268 rfl rfl rfl ?_;rw [Ze0.eq_1] at hm;have aa:=St.start col w0;refine go ?_;refine X6 (col:=(Zi col)) 1 rfl ?_;intro aq ar al am ac;refine Xo (col:=al) #[.bool false,.slice none (([]:List Int).length) 0] 2 zeroValue45 ?_;intro au av aw ai ae;refine go ?_;refine Wg ⟨_,_,rfl⟩ ?_;replace ac:=ac.gr ai;refine lW ((ac.atN).nth (q:=0) rfl)<|Xu ac ?_;obtain ⟨ax,an,hm⟩:=bZ hm;replace ad:=ad.keep (Zk.start col w0);replace aa:=(aa.grow am).grow ai;refine Zg (Zk3 3 an (ad.ks aa)) ?_;rintro _ ay ⟨az,a0,a1,rfl,aj,af⟩;refine ⟨_,rfl,?_⟩;replace ae:=ae.gr aj;refine Z4 ae ?_;intro a2 ak ao ap;refine go ?_;cases hm;replace aa:=(aa.grow aj).kp ak ao;replace af:=af.kp ak;exact ⟨rfl,_,ra ap.atN,_,_,_,rfl,aa.fin (cm [(3,c1)]),aa.fo af⟩
def Zgx (N:Nat) (aa:R3) (ab:List Int):Option R1:=
  (Zgt N aa.2 ab).bind fun ac=>(Zep N aa.2 ac).bind fun ae=>(Zep N ab ac).bind fun af=>(Ze0 N (aa.1,ae.1)).bind fun ad=>(V4 N af.1).bind fun ag=>some ((ad.1,ad.2),ag)
theorem Zv4 {N a2 a3:Nat} {a4 a1:Option Addr} {col:Zd} {w0:World} {ai:R3} {ap:R2} {r:R1} (c1 c2:Nat) (hm:Zgx N ai ap=some r) (an:Sl (Za.int .u32) col w0 a4 a2 ai.2) (h1:Sl (Za.int .u32) col w0 a1 a3 ap):
    Calls Tryz.prog 213 #[(.agg #[.bool ai.1,.slice a4 ai.2.length a2]),.slice a1 ap.length a3] w0 (fun e w'=>∃ (col':Zd) (ra1:Option Addr) (rc2:Nat) (ra4:Option Addr) (rc5:Nat),e= .returned ((.agg #[.bool r.1.1,.slice ra1 r.1.2.length rc2,.slice ra4 r.2.length rc5]))∧Zf col w0 col' w'∧Zc (Za.int .u32) 79 c1 col' w' ra1 rc2 r.1.2∧Zc (Za.int .u32) 79 c2 col' w' ra4 rc5 r.2):=by
 refine Wa (m:=39) func213 rfl rfl rfl ?_;rw [Zgx.eq_1] at hm;have aa:=St.start col w0;refine go ?_;refine X6 (col:=(Zi col)) 1 rfl ?_;intro b1 b2 bd be ab;refine Xo (col:=bd) #[.bool false,.slice none (([]:List Int).length) 0,.slice none (([]:List Int).length) 0] 2 zeroValue47 ?_;intro b3 b4 b5 a5 aq;refine go ?_;refine Wg ⟨_,_,rfl⟩ ?_;replace ab:=ab.gr a5;refine lW ((ab.atN).nth (q:=1) rfl)<|Yu rfl ?_;obtain ⟨b6,bf,hm⟩:=bZ hm;replace an:=an.keep (Zk.start col w0);replace h1:=h1.keep (Zk.start col w0);replace aa:=(aa.grow be).grow a5;refine Zg (Zv0 3 bf (an.ks aa) (h1.ks aa)) ?_;rintro _ bg ⟨ar,b7,b8,rfl,au,ao⟩;refine ⟨_,rfl,go ?_⟩;refine Wg ⟨_,_,rfl⟩ ?_;replace ab:=ab.gr au;refine lW ((ab.atN).nth (q:=1) rfl)<|Yu rfl ?_;obtain ⟨ac,bh,hm⟩:=bZ hm;replace aa:=aa.grow au;refine Zg (Zn4 4 5 bh ((an.ks aa).froz 3) (ao.toSlF (Zj.int .u32))) ?_;rintro _ bi ⟨bj,av,aw,a6,a7,rfl,ad,aj,b9⟩;refine ⟨_,rfl,?_⟩;replace aj:=aj.thaw (Zx .u32) ad ((Fz.refl (col:=ar)).froz 3) (by decide);replace ad:=ad.thawR (col:=ar);generalize Z6 bg.heap.size ar bj=ax at *;refine lM (.tuple #[.slice av ac.1.length aw,.slice a6 ac.2.1.length a7,.int .i64 ac.2.2])<|lV (.slice av ac.1.length aw) (Xh rfl rfl)<|lV (.slice a6 ac.2.1.length a7) (Xh rfl rfl)<|lV (.int .i64 ac.2.2) (Xh rfl rfl)<|go ?_;obtain ⟨af,bk,hm⟩:=bZ hm;replace ao:=ao.gr ad;replace aa:=aa.grow ad;refine Zg (Zn4 6 7 bk ((h1.ks aa).froz 3) (ao.toSlF (Zj.int .u32))) ?_;rintro _ bm ⟨bn,a8,a9,ba,bb,rfl,ae,ak,ca⟩;refine ⟨_,rfl,?_⟩;replace ak:=ak.thaw (Zx .u32) ae ((Fz.refl (col:=ax)).froz 3) (by decide);replace ae:=ae.thawR (col:=ax);generalize Z6 bi.heap.size ax bn=ay at *;refine lM (.tuple #[.slice a8 af.1.length a9,.slice ba af.2.1.length bb,.int .i64 af.2.2])<|lV (.slice a8 af.1.length a9) (Xh rfl rfl)<|lV (.slice ba af.2.1.length bb) (Xh rfl rfl)<|lV (.int .i64 af.2.2) (Xh rfl rfl)<|go ?_;refine Wg ⟨_,_,rfl⟩ ?_;replace ab:=(ab.gr ad).gr ae
 refine lW ((ab.atN).nth (q:=0) rfl)<|Yu rfl<|lV (.agg #[.bool ai.1,.slice av ac.1.length aw]) (Wb (l:=[_,_]) (qs:=[(0,1),(1,1)]) underlying45 zeroValue45 ⟨rfl,sizeOf4,rfl,sizeOf43,trivial⟩ rfl) ?_;obtain ⟨bc,bo,hm⟩:=bZ hm;replace aj:=aj.gr ae;refine Zg (Zn8 8 bo (aj.toSlF (Zj.int .u32))) ?_;rintro _ bp ⟨bq,br,bs,rfl,ag,al⟩;refine ⟨_,rfl,?_⟩;replace al:=al.thaw (Zx .u32) ag ((Fz.refl (col:=ay)).froz 4) (by decide);replace ag:=ag.thawR (col:=ay);generalize Z6 bm.heap.size ay bq=az at *;refine Yu rfl ?_;obtain ⟨bt,bu,hm⟩:=bZ hm;replace ak:=ak.gr ag;refine Zg (Tg 9 bu (ak.toSlF (Zj.int .u32))) ?_;rintro _ cb ⟨bv,bw,bx,rfl,ah,am⟩;refine ⟨_,rfl,?_⟩;replace am:=am.thaw (Zx .u32) ah ((Fz.refl (col:=az)).froz 6) (by decide);replace ah:=ah.thawR (col:=az);generalize Z6 bp.heap.size az bv=cc at *;refine lV (.agg #[.bool bc.1,.slice br bc.2.length bs,.slice bw bt.length bx]) (Wb (l:=[_,_]) (qs:=[(0,2),(2,1)]) underlying47 zeroValue47 ⟨rfl,sizeOf45,rfl,sizeOf43,trivial⟩ rfl) ?_;replace aq:=((((aq.gr au).gr ad).gr ae).gr ag).gr ah;refine Z4 aq ?_;intro cd a0 bz b0;refine go ?_;cases hm;replace aa:=(((aa.grow ae).grow ag).grow ah).kp a0 bz;replace al:=(al.gr ah).kp a0;replace am:=am.kp a0;exact ⟨rfl,_,ra b0.atN,_,_,_,_,_,rfl,aa.fin (cm [(8,c1),(9,c2)]),aa.fo al,aa.fo am⟩
def Zgw (N:Nat) (aa:R3):Option Int:=
  (Ze0 N (aa.1,aa.2)).bind fun ab=>if (decide ((ab.2.length:Int)=0))=true then (some 0) else (if ab.1=true then (some (-1)) else (some 1))
theorem Zv1 {N ad:Nat} {ae:Option Addr} {col:Zd} {w0:World} {ab:R3} {r:Int} (hm:Zgw N ab=some r) (ac:Sl (Za.int .u32) col w0 ae ad ab.2):
    Calls Tryz.prog 204 #[(.agg #[.bool ab.1,.slice ae ab.2.length ad])] w0 (fun e w'=>e= .returned ((.int .i64 r))∧Below w0.heap.size w0 w'):=by
 refine Xc 2 (m:=12) func204 rfl rfl rfl rfl rfl ?_;rw [Zgw.eq_1] at hm;have aa:=St.start col w0;refine go ?_;refine X6 (col:=(Zi col)) 1 rfl ?_;intro ap aq ar ag ah;refine go ?_;refine lV _ (Xi isAgg45 sizeOf45 ah) ?_;obtain ⟨au,ai,hm⟩:=bZ hm;replace ac:=ac.keep (Zk.start col w0);replace aa:=aa.grow ag;refine Zg (Zn8 2 ai (ac.ks aa)) ?_;rintro _ av ⟨aj,aw,ax,rfl,ak,ay⟩;refine ⟨_,rfl,?_⟩;refine Xo (col:=aj) #[.bool false,.slice none (([]:List Int).length) 0] 3 zeroValue45 ?_;intro az a0 a1 al am;refine Z4 am ?_;intro a2 an ao af;refine go ?_;refine Xu af ?_;refine go ?_;replace aa:=((aa.grow ak).grow al).kp an ao;refine Zo hm (fun hb hm=>go ?_) fun hb hm=>go ?_
 ·cases hm;exact ⟨rfl,rfl,aa.below⟩
 refine Xu af<|Zl ?_;refine Zo hm (fun hb hm=>go ?_) fun hb hm=>go ?_
 ·cases hm;exact ⟨rfl,rfl,aa.below⟩
 cases hm;exact ⟨rfl,rfl,aa.below⟩
def Ze1 (N:Nat) (aa:Int):Option R3:=
  if (decide (0≤aa))=true then ((Zeu N (u64.wrap aa)).bind fun ad=>(Zcu N false ad).bind fun ab=>some (ab.1,ab.2)) else ((Zeu N (u64.wrap (i64.wrap (-(i64.wrap (aa+1)))))).bind fun ae=>(Zgp N ae [1]).bind fun af=>(Zcu N true af).bind fun ac=>some (ac.1,ac.2))
theorem Zn9 {N:Nat} {col:Zd} {w0:World} {an:Int} {r:R3} (c1:Nat) (hm:Ze1 N an=some r):
    Calls Tryz.prog 125 #[.int .i64 an] w0 (fun e w'=>∃ (col':Zd) (ra1:Option Addr) (rc2:Nat),e= .returned ((.agg #[.bool r.1,.slice ra1 r.2.length rc2]))∧Zf col w0 col' w'∧Zc (Za.int .u32) 79 c1 col' w' ra1 rc2 r.2):=by
 refine Wa (m:=17) func125 rfl rfl rfl ?_;rw [Ze1.eq_1] at hm;have aa:=St.start col w0;refine go ?_;refine Xo (col:=(Zi col)) #[.bool false,.slice none (([]:List Int).length) 0] 1 zeroValue45 ?_;intro be bf ao av ab;refine go ?_;replace aa:=aa.grow av;refine Zo hm (fun hb hm=>go ?_) fun hb hm=>go ?_
 ·obtain ⟨bg,aw,hm⟩:=bZ hm;refine Zg (Zn5 (col:=ao) 2 aw) ?_;rintro _ ax ⟨ah,bh,bi,rfl,ap,ay⟩;refine ⟨_,rfl,?_⟩;obtain ⟨bj,az,hm⟩:=bZ hm;refine Zg (Zk3 3 az (ay.toSlF (Zj.int .u32))) ?_;rintro _ bk ⟨a0,bm,bn,rfl,ac,ad⟩;refine ⟨_,rfl,?_⟩;replace ad:=ad.thaw (Zx .u32) ac ((Fz.refl (col:=ah)).froz 2) (by decide);replace ac:=ac.thawR (col:=ah);generalize Z6 ax.heap.size ah a0=bo at *;replace ab:=(ab.gr ap).gr ac;refine Z4 ab ?_;intro bp aq a1 a2;refine go ?_;cases hm;replace aa:=((aa.grow ap).grow ac).kp aq a1;replace ad:=ad.kp aq;exact ⟨rfl,_,ra a2.atN,_,_,_,rfl,aa.fin (cm [(3,c1)]),aa.fo ad⟩
 obtain ⟨bq,a3,hm⟩:=bZ hm;refine Zg (Zn5 (col:=ao) 4 a3) ?_;rintro _ br ⟨a4,bs,bt,rfl,ar,ai⟩;refine ⟨_,rfl,?_⟩;refine Vd (col:=a4) [1] 5 ?_;intro bu a5 aj ak a6;obtain ⟨bv,a7,hm⟩:=bZ hm;replace ai:=ai.gr ak;refine Zg (Zvx 6 a7 ((ai.toSlF (Zj.int .u32)).froz 5) ((a6.froz 4 (by decide)).toSlF (Zj.int .u32))) ?_;rintro _ a8 ⟨a9,bw,bx,rfl,ae,al⟩;refine ⟨_,rfl,?_⟩;replace al:=al.thaw (Zx .u32) ae (((Fz.refl (col:=aj)).froz 4).froz 5) (by decide);replace ae:=ae.thawR (col:=aj);generalize Z6 a5.heap.size aj a9=am at *;obtain ⟨bz,ba,hm⟩:=bZ hm;refine Zg (Zk3 7 ba (al.toSlF (Zj.int .u32))) ?_;rintro _ b0 ⟨bb,b1,b2,rfl,af,ag⟩;refine ⟨_,rfl,?_⟩;replace ag:=ag.thaw (Zx .u32) af ((Fz.refl (col:=am)).froz 6) (by decide);replace af:=af.thawR (col:=am);generalize Z6 a8.heap.size am bb=b3 at *;replace ab:=(((ab.gr ar).gr ak).gr ae).gr af;refine Z4 ab ?_;intro b4 au bc bd;refine go ?_;cases hm;replace aa:=((((aa.grow ar).grow ak).grow ae).grow af).kp au bc;replace ag:=ag.kp au;exact ⟨rfl,_,ra bd.atN,_,_,_,rfl,aa.fin (cm [(7,c1)]),aa.fo ag⟩
def Zja (N:Nat) (ac:R3) (aa:R3):Option (R1×Int):=
  (Zgw N (aa.1,aa.2)).bind fun ad=>if (decide (ad=0))=true then (some (((false,([]:List Int)),([]:List Int)),11)) else ((Zgx N (!decide (ac.1=aa.1),ac.2) aa.2).bind fun ab=>some (((ab.1.1,ab.1.2),ab.2),0))
theorem Zv2 {N ai ap:Nat} {aj aq:Option Addr} {col:Zd} {w0:World} {ac af:R3} {r:(R1×Int)} (c1 c2:Nat) (hm:Zja N ac af=some r) (ak:Sl (Za.int .u32) col w0 aj ai ac.2) (ag:Sl (Za.int .u32) col w0 aq ap af.2):
    Calls Tryz.prog 222 #[(.agg #[.bool ac.1,.slice aj ac.2.length ai]),(.agg #[.bool af.1,.slice aq af.2.length ap])] w0 (fun e w'=>∃ (col':Zd) (ra1:Option Addr) (rc2:Nat) (ra4:Option Addr) (rc5:Nat),e= .returned (.tuple #[(.agg #[.bool r.1.1.1,.slice ra1 r.1.1.2.length rc2,.slice ra4 r.1.2.length rc5]),.int .i64 r.2])∧Zf col w0 col' w'∧Zc (Za.int .u32) 79 c1 col' w' ra1 rc2 r.1.1.2∧Zc (Za.int .u32) 79 c2 col' w' ra4 rc5 r.1.2):=by
 refine Wa (m:=21) func222 rfl rfl rfl ?_;rw [Zja.eq_1] at hm;have aa:=St.start col w0;refine go ?_;refine X6 (col:=(Zi col)) 1 rfl ?_;intro a8 a9 aw ax ah;refine X6 (col:=aw) 2 rfl ?_;intro ba bb ay ar ab;refine Xo (col:=ay) #[.bool false,.slice none (([]:List Int).length) 0,.slice none (([]:List Int).length) 0] 3 zeroValue47 ?_;intro bc az au al ad;refine go ?_;replace ab:=ab.gr al;refine lV _ (Xi isAgg45 sizeOf45 ab) ?_;obtain ⟨bd,a0,hm⟩:=bZ hm;replace ag:=ag.keep (Zk.start col w0);replace aa:=((aa.grow ax).grow ar).grow al;refine Zg (Zv1 a0 (ag.ks aa)) ?_;rintro _ a1 ⟨rfl,ae⟩;refine ⟨_,rfl,?_⟩;replace ae:Zf au az au a1:=.of_below ae;refine go ?_;replace ak:=ak.keep (Zk.start col w0);replace ah:=((ah.gr ar).gr al).gr ae;replace ab:=ab.gr ae;replace ad:=ad.gr ae;replace aa:=aa.grow ae;refine Zo hm (fun hb hm=>go ?_) fun hb hm=>go ?_
 ·refine lV (.agg #[.bool false,.slice none (([]:List Int).length) 0,.slice none (([]:List Int).length) 0]) (Wb (l:=[_,_]) (qs:=[(0,2),(2,1)]) underlying47 zeroValue47 ⟨rfl,sizeOf45,rfl,sizeOf43,trivial⟩ rfl)<|Z4 ad ?_;intro be a2 a3 a4;refine go ?_;cases hm;replace aa:=aa.kp a2 a3;exact ⟨rfl,_,Vv a4.atN,_,none,0,none,0,rfl,aa.fin (cm []),Zc.nil,Zc.nil⟩
 refine Xu ah<|Xu ab ?_;refine go ?_;refine Xu ah<|lV (.agg #[.bool (!decide (ac.1=af.1)),.slice aj ac.2.length ai]) (Wb (l:=[_,_]) (qs:=[(0,1),(1,1)]) underlying45 zeroValue45 ⟨rfl,sizeOf4,rfl,sizeOf43,trivial⟩ rfl)<|Xu ab ?_;obtain ⟨bf,a5,hm⟩:=bZ hm;refine Zg (Zv4 4 5 a5 (ak.ks aa) (ag.ks aa)) ?_;rintro _ bg ⟨bh,bi,bj,bk,bm,rfl,av,am,an⟩;refine ⟨_,rfl,?_⟩;replace ad:=ad.gr av;refine Z4 ad ?_;intro bn ao a6 a7;refine go ?_;cases hm;replace aa:=(aa.grow av).kp ao a6;replace am:=am.kp ao;replace an:=an.kp ao;exact ⟨rfl,_,Vv a7.atN,_,_,_,_,_,rfl,aa.fin (cm [(4,c1),(5,c2)]),aa.fo am,aa.fo an⟩
def Zjb (N:Nat) (ad:Int) (ae:Int):Option (R1×Int):=
  (Ze1 N ad).bind fun ab=>(Ze1 N ae).bind fun ac=>(Zja N (ab.1,ab.2) (ac.1,ac.2)).bind fun aa=>some (((aa.1.1.1,aa.1.1.2),aa.1.2),aa.2)
theorem Zv3 {N:Nat} {col:Zd} {w0:World} {ak al:Int} {r:(R1×Int)} (c1 c2:Nat) (hm:Zjb N ak al=some r):
    Calls Tryz.prog 209 #[.int .i64 ak,.int .i64 al] w0 (fun e w'=>∃ (col':Zd) (ra1:Option Addr) (rc2:Nat) (ra4:Option Addr) (rc5:Nat),e= .returned (.tuple #[(.agg #[.bool r.1.1.1,.slice ra1 r.1.1.2.length rc2,.slice ra4 r.1.2.length rc5]),.int .i64 r.2])∧Zf col w0 col' w'∧Zc (Za.int .u32) 79 c1 col' w' ra1 rc2 r.1.1.2∧Zc (Za.int .u32) 79 c2 col' w' ra4 rc5 r.1.2):=by
 refine Wa (m:=13) func209 rfl rfl rfl ?_;rw [Zjb.eq_1] at hm;have ab:=St.start col w0;refine go ?_;refine Xo (col:=(Zi col)) #[.bool false,.slice none (([]:List Int).length) 0,.slice none (([]:List Int).length) 0] 1 zeroValue47 ?_;intro a4 a5 an ao ag;refine go ?_;obtain ⟨a6,ap,hm⟩:=bZ hm;refine Zg (Zn9 (col:=an) 2 ap) ?_;rintro _ a7 ⟨aq,a8,a9,rfl,am,ah⟩;refine ⟨_,rfl,?_⟩;refine X9 rfl ?_;obtain ⟨ba,ar,hm⟩:=bZ hm;refine Zg (Zn9 (col:=aq) 3 ar) ?_;rintro _ au ⟨ae,bb,bc,rfl,ai,av⟩;refine ⟨_,rfl,?_⟩;obtain ⟨af,aw,hm⟩:=bZ hm;replace ah:=ah.gr ai;refine Zg (Zv2 4 5 aw ((ah.toSlF (Zj.int .u32)).froz 3) ((av.froz 2 (by decide)).toSlF (Zj.int .u32))) ?_;rintro _ bd ⟨ax,ay,az,a0,a1,rfl,aa,ac,ad⟩;refine ⟨_,rfl,?_⟩;replace ac:=ac.thaw (Zx .u32) aa (((Fz.refl (col:=ae)).froz 2).froz 3) (by decide);replace ad:=ad.thaw (Zx .u32) aa (((Fz.refl (col:=ae)).froz 2).froz 3) (by decide);replace aa:=aa.thawR (col:=ae);generalize Z6 au.heap.size ae ax=be at *;refine lV (.agg #[.bool af.1.1.1,.slice ay af.1.1.2.length az,.slice a0 af.1.2.length a1]) (Xh rfl rfl)<|lV (.int .i64 af.2) (Xh rfl rfl) ?_;replace ag:=((ag.gr am).gr ai).gr aa;refine Z4 ag ?_;intro bf aj a2 a3;refine go ?_;cases hm;replace ab:=((((ab.grow ao).grow am).grow ai).grow aa).kp aj a2;replace ac:=ac.kp aj;replace ad:=ad.kp aj;exact ⟨rfl,_,Vv a3.atN,_,_,_,_,_,rfl,ab.fin (cm [(4,c1),(5,c2)]),ab.fo ac,ab.fo ad⟩
def Qe (N:Nat) (ab:Int) (ac:Int):Option R1:=
  (Zjb N ab ac).bind fun aa=>some ((aa.1.1.1,aa.1.1.2),aa.1.2)
theorem Zdi {N:Nat} {col:Zd} {w0:World} {ai aj:Int} {r:R1} (c1 c2:Nat) (hm:Qe N ai aj=some r):
    Calls Tryz.prog 95 #[.int .i64 ai,.int .i64 aj] w0 (fun e w'=>∃ (col':Zd) (ra1:Option Addr) (rc2:Nat) (ra4:Option Addr) (rc5:Nat),e= .returned ((.agg #[.bool r.1.1,.slice ra1 r.1.2.length rc2,.slice ra4 r.2.length rc5]))∧Zf col w0 col' w'∧Zc (Za.int .u32) 79 c1 col' w' ra1 rc2 r.1.2∧Zc (Za.int .u32) 79 c2 col' w' ra4 rc5 r.2):=by
 refine Wa (m:=14) func95 rfl rfl rfl ?_;rw [Qe.eq_1] at hm;have ab:=St.start col w0;refine go ?_;refine Xo (col:=(Zi col)) #[.bool false,.slice none (([]:List Int).length) 0,.slice none (([]:List Int).length) 0] 1 zeroValue47 ?_;intro a0 a1 ap aq ae;refine go ?_;obtain ⟨aa,ar,hm⟩:=bZ hm;refine Zg (Zv3 (col:=ap) 2 3 ar) ?_;rintro _ a2 ⟨au,ak,al,am,an,rfl,ao,af,ag⟩;refine ⟨_,rfl,?_⟩;refine lM (.tuple #[(.agg #[.bool aa.1.1.1,.slice ak aa.1.1.2.length al,.slice am aa.1.2.length an]),.int .i64 aa.2])<|lV (.agg #[.bool aa.1.1.1,.slice ak aa.1.1.2.length al,.slice am aa.1.2.length an]) (Xh rfl rfl)<|lV (.int .i64 aa.2) (Xh rfl rfl)<|Xo (col:=au) #[.bool false,.slice none (([]:List Int).length) 0,.slice none (([]:List Int).length) 0] 4 zeroValue47 ?_;intro a3 a4 a5 ac av;refine Z4 av ?_;intro a6 ad aw ax;refine go ?_;refine lV _ (Xi isAgg47 sizeOf47 ax) ?_;replace ae:=((ae.gr ao).gr ac).kp ad;refine Z4 ae ?_;intro a7 ah ay az;refine go ?_;cases hm;replace ab:=((((ab.grow aq).grow ao).grow ac).kp ad aw).kp ah ay;replace af:=((af.gr ac).kp ad).kp ah;replace ag:=((ag.gr ac).kp ad).kp ah;exact ⟨rfl,_,ra az.atN,_,_,_,_,_,rfl,ab.fin (cm [(2,c1),(3,c2)]),ab.fo af,ab.fo ag⟩
theorem Zm5 {N k:Nat} {neg:Bool} {m:List Int} (hm:Zm m) (hk:m.length≤k) (hr:Xm N k):Zcu N neg m=some (X2 (Zs (neg,m))):=by
 obtain ⟨r1,r2⟩:=hr
 rw [Zcu,Tz hm (by omega) (by omega),Option.bind_some,Zhg]
 have e:decide (0<((Ze (Zb m)).length:Int))=decide (Zb m≠0):=by
  by_cases h:Zb m=0
  ·rw [h,Wl];decide
  ·have:=Tk h
   rw [decide_eq_true (by omega),decide_eq_true h]
 cases neg
 ·rw [if_neg (by decide),Zez,Bool.false_and]
 ·rw [if_pos rfl,Zez,e,Bool.true_and]
theorem Zs8 {N k:Nat} {a:ZV} (hm:Zm a.2) (hk:a.2.length≤k) (hr:Xm N k):Ze0 N a=some (X2 (Zs a)):=by
 rw [Ze0,Zm5 hm hk hr];rfl
theorem Z03 {N k:Nat} {a:ZV} (hm:Zm a.2) (hk:a.2.length≤k) (hr:Xm N k):Zgw N a=some (Zs a).sign:=by
 rw [Zgw,Zs8 hm hk hr,Option.bind_some,X2]
 generalize Zs a=z
 by_cases h:z=0
 ·subst h;rw [Int.natAbs_zero,Wl,if_pos (by decide)];rfl
 ·have:=Tk (n:=z.natAbs) (by omega)
  rw [if_neg (by rw [decide_eq_false (by simp only;omega)];decide)]
  by_cases h2:z<0
  ·rw [if_pos (decide_eq_true h2),Int.sign_eq_neg_one_of_neg h2]
  ·rw [if_neg (fun hc=>h2 (of_decide_eq_true hc)),Int.sign_eq_one_of_pos (by omega)]
theorem Zta {N:Nat} {z:Int} (h:-9223372036854775808≤z∧z≤9223372036854775807) (hr:Xm N 4):Ze1 N z=some (X2 z):=by
 have hr':=hr
 obtain ⟨r1,r2⟩:=hr'
 have l2:∀ n:Nat,n<18446744073709551616→(Ze n).length≤2:=fun n hn=>Wh.2 (by simpa using hn)
 have l1:Zm [1]:=.cons (by decide) .nil
 rw [Ze1]
 by_cases hz:0≤z
 ·rw [if_pos (decide_eq_true hz),Xe (by omega),Ztb (by omega) (by omega),Option.bind_some,Zm5 (Z5 _) (l2 _ (by omega)) (hr.mono (by omega)),Option.bind_some]
  have e2:Zs (false,Ze z.toNat)=z:=by simp only [Zs,Z1];simp;omega
  rw [e2]
 ·have hl3:=l2 (-z - 1).toNat (by omega)
  have e:u64.wrap (i64.wrap (-i64.wrap (z+1)))= -z - 1:=by rw [Zy (x:=z+1) (by omega),Zy (by omega),Xe (by omega)];omega
  rw [if_neg (by rw [decide_eq_false hz];decide),e,Ztb (by omega) (by omega),Option.bind_some,Z0r (Z5 _) l1 (by simp only [List.length_singleton];omega) (by simp only [List.length_singleton];omega),Option.bind_some,Z1,Yv,Ye,Zm5 (k:=4) (Z5 _) (by
   have:=l2 ((-z - 1).toNat+((1:Int).toNat+4294967296 * 0)) (by omega)
   omega) hr,Option.bind_some]
  have e2:Zs (true,Ze ((-z - 1).toNat+((1:Int).toNat+4294967296 * 0)))=z:=by simp only [Zs,Z1,if_true];omega
  rw [e2]
theorem Z00 {N k l:Nat} {num:ZV} {den:List Int} (hn:Zm num.2) (hd:Zm den) (h0:Zb den≠0) (hk:num.2.length≤k) (hl:den.length≤l) (hr:Xm N (k+l)):
  Zgx N num den=some (Z9 (mkRat (Zs num) (Zb den))):=by
 have hr':=hr
 obtain ⟨r1,r2⟩:=hr'
 have l1:=Ym hn
 have l2:=Ym hd
 have hg:Nat.gcd (Zb num.2) (Zb den)≠0:=fun h=>h0 (Nat.gcd_eq_zero_iff.1 h).2
 have lg:(Ze (Nat.gcd (Zb num.2) (Zb den))).length≤den.length:=Nat.le_trans (W4 (Nat.gcd_le_right _ (by omega))) l2
 have lq:=W4 (Nat.div_le_self (Zb num.2) (Nat.gcd (Zb num.2) (Zb den)))
 have ld:=W4 (Nat.div_le_self (Zb den) (Nat.gcd (Zb num.2) (Zb den)))
 obtain ⟨g,g1,g2,g3,g4⟩:=Z0z (N:=N) (M:=k+l) hn hd (by omega) (by omega) (by omega) (by omega)
 rw [Zgx,g1,Option.bind_some,Zsv hn g2 (by rw [g3];omega) (by omega) (by rw [g3];omega) (by omega),Option.bind_some,Zsv hd g2 (by rw [g3];omega) (by omega) (by rw [g3];omega) (by omega),Option.bind_some,g3,if_neg hg,if_neg hg,
  Zs8 (k:=k) (a:=(num.1,Ze (Zb num.2 / Nat.gcd (Zb num.2) (Zb den)))) (Z5 _) (by simp only;omega) (hr.mono (by omega)),Option.bind_some,Tz (Z5 _) (by omega) (by omega),Option.bind_some,Zre (neg:=num.1) h0,Zhg,Z1,Z1]
theorem Z1q {N:Nat} {a b:Int} (h:-9223372036854775808≤a∧a≤9223372036854775807) (g:0<b∧b≤9223372036854775807) (hr:Xm N 8):Qe N a b=some (Z9 ((a:Rat) / (b:Rat))):=by
 have l2:∀ z:Int,-9223372036854775808≤z∧z≤9223372036854775807→(X2 z).2.length≤2:=fun z hz=>Wh.2 (by simp;omega)
 have la:=l2 a h
 have lb:=l2 b (by omega)
 have hb0:Zb (X2 b).2≠0:=by rw [Zlr,Z1];omega
 have e:=Zq0 (Zs (X2 a)) 1 (X2 b) 1 (X2 a).1 (X2 a).2 rfl hb0
 rw [Qe,Zjb,Zta h (hr.mono (by omega)),Option.bind_some,Zta (by omega) (hr.mono (by omega)),Option.bind_some,Zja,Z03 (a:=X2 b) (Sy _) lb (hr.mono (by omega)),Option.bind_some,So,Int.sign_eq_one_of_pos g.1,if_neg (by decide),Z00 (num:=(!decide ((X2 a).1=(X2 b).1),(X2 a).2)) (Sy _) (Sy _) hb0 la lb (hr.mono (by omega)),Option.bind_some,Option.bind_some,Option.bind_some]
 rw [Rat.mkRat_eq_div,Rat.mkRat_eq_div,So,So] at e
 have e1:(a:Rat) / ((1:Nat):Rat) / ((b:Rat) / ((1:Nat):Rat))=(a:Rat) / (b:Rat):=by
  have h1:((1:Nat):Rat)=1:=rfl
  have h2:(1:Rat)⁻¹=1:=Rat.inv_eq_of_mul_eq_one (by grind)
  simp only [h1,Rat.div_def,h2,Rat.mul_one]
 rw [e1,Nat.one_mul,Nat.mul_one] at e
 rw [e]
 have e2:Zs (!decide ((X2 a).1=(X2 b).1),Ze (Zb (X2 a).2))=Zs (!decide ((X2 a).1=(X2 b).1),(X2 a).2):=by simp only [Zs,Z1]
 rw [e2]
theorem div_one (a:Rat):a / 1=a:=by
 have h2:(1:Rat)⁻¹=1:=Rat.inv_eq_of_mul_eq_one (by grind)
 rw [Rat.div_def,h2,Rat.mul_one]
def Zc0 (ab:ByteArray):List ByteArray→Nat→Option Int
  | [],aa=>some (-1)
  | ac :: ad,aa=>if (decide (ab=ac))=true then (some (aa:Int)) else ((Zc0 ab ad) (aa+1))
termination_by structural x=>x
def Zjt (aa:List ByteArray) (ab:ByteArray):Option Int:=
  Zc0 ab aa 0
theorem Zwk {ag:Nat} {a0:Option Addr} {col:Zd} {w0:World} {ab:R4} {ae:ByteArray} {r:Int} (hm:Zjt ab ae=some r) (h0:Sl Za.str col w0 a0 ag ab):
    Calls Tryz.prog 191 #[.slice a0 ab.length ag,.string ae] w0 (fun e w'=>e= .returned ((.int .i64 r))∧Below w0.heap.size w0 w'):=by
 refine Xc 4 (m:=19) func191 rfl rfl rfl rfl rfl ?_;rw [Zjt.eq_1] at hm;have aa:=St.start col w0;refine go ?_;refine Z2 [0,1,7,1000000] (fun n f ah=>∃ ai ac ad,n=ad.length∧ab.drop ac=ad∧Zc0 ae ad ac=some r∧St w0 (Zi col) ai ah∧[8].map f=[.int .i64 ac]) ab.length ⟨_,0,_,rfl,rfl,hm,aa,rfl⟩ ?_;clear hm;intro n f ah hI;obtain ⟨ai,ac,ad,hn,hl,hm,aa,hs⟩:=hI;subst hn;refine .lL [8] hs ?_;replace h0:=h0.keep (Zk.start col w0)
 cases ad with
 | nil=>
  have hk:¬ ((ac:Int)<(ab.length:Int)):=by have:=List.drop_eq_nil_iff.1 hl;omega
  have hkb:=decide_eq_false hk;rw [Zc0.eq_1] at hm;refine go ?_;refine Xv (congrArg Value.bool hkb)<|go ?_;cases hm;exact ⟨rfl,rfl,aa.below⟩
 | cons am aj=>
  obtain ⟨af,ak,al⟩:=Yc hl;have hk:(ac:Int)<(ab.length:Int):=by omega
  have hkb:=decide_eq_true hk;rw [Zc0.eq_2] at hm;refine go ?_;refine Xz (congrArg Value.bool hkb)<|go ?_;refine lI af ((h0.ks aa).addr af)<|lW ((h0.ks aa).atStr af) ?_;refine go ?_;refine Zo hm (fun hb hm=>go ?_) fun hb hm=>go ?_
  ·cases hm;exact ⟨rfl,rfl,aa.below⟩
  exact ⟨aj.length,by simp,rfl,⟨_,_,_,rfl,ak,hm,aa,(Yg (congrArg (Value.int .i64) (Yf (Nat.lt_of_lt_of_le al (h0.ks aa).1.1))) rfl)⟩⟩
def Zg8 (aa:List ByteArray) (ab:ByteArray):Option Bool:=
  (Zjt aa ab).bind fun ac=>some (decide (0≤ac))
theorem Zwi {ad:Nat} {a0:Option Addr} {col:Zd} {w0:World} {ab:R4} {ae:ByteArray} {r:Bool} (hm:Zg8 ab ae=some r) (h0:Sl Za.str col w0 a0 ad ab):
    Calls Tryz.prog 78 #[.slice a0 ab.length ad,.string ae] w0 (fun e w'=>e= .returned ((.bool r))∧Below w0.heap.size w0 w'):=by
 refine Xc 4 (m:=9) func78 rfl rfl rfl rfl rfl ?_;rw [Zg8.eq_1] at hm;have aa:=St.start col w0;refine go ?_;obtain ⟨ah,af,hm⟩:=bZ hm;replace h0:=h0.keep (Zk.start col w0);refine Zg (Zwk af (h0.ks aa)) ?_;rintro _ ag ⟨rfl,ac⟩;refine ⟨_,rfl,?_⟩;replace ac:Zf (Zi col) w0 (Zi col) ag:=.of_below ac;refine go ?_;cases hm;replace aa:=aa.grow ac;exact ⟨rfl,rfl,aa.below⟩
def Za7:List ByteArray→(List (ByteArray×Int))→Option Bool
  | [],aa=>some false
  | ab :: ac,aa=>if (decide (0<((Y7 aa ab).getD 0)))=true then (some true) else ((some (Tr aa ab 1)).bind fun ad=>(Za7 ac) ad)
termination_by structural x=>x
def Zgd (aa:List ByteArray):Option Bool:=
  Za7 aa ([]:List (ByteArray×Int))
theorem Zvq {al:Nat} {a0:Option Addr} {col:Zd} {w0:World} {ab:R4} {r:Bool} (hm:Zgd ab=some r) (h0:Sl Za.str col w0 a0 al ab):
    Calls Tryz.prog 252 #[.slice a0 ab.length al] w0 (fun e w'=>e= .returned ((.bool r))∧Below w0.heap.size w0 w'):=by
 refine Xc 2 (m:=20) func252 rfl rfl rfl rfl rfl ?_;rw [Zgd.eq_1] at hm;have aa:=St.start col w0;refine go ?_;refine Zyn (col:=(Zi col)) (fk:=Value.string) (fv:=(Value.int .i64)) 1 rfl ?_;intro ay az a1 ao ap;refine go ?_;replace aa:=aa.grow ao;refine Z2 [7,8,1000000] (fun n f af=>∃ ag ah ac ad ae,n=ae.length∧ab.drop ad=ae∧Za7 ae ac=some r∧St w0 (Zi col) ag af∧W1 Value.string (Value.int .i64) 1 ag af ah ac∧[9,3].map f=[.int .i64 ad,.map (some ah)]) ab.length ⟨_,_,_,0,_,rfl,rfl,hm,aa,ap,rfl⟩ ?_;clear hm;intro n f af hI;obtain ⟨ag,ah,ac,ad,ae,hn,hl,hm,aa,am,hs⟩:=hI;subst hn;refine .lL [9,3] hs ?_;replace h0:=h0.keep (Zk.start col w0)
 cases ae with
 | nil=>
  have hk:¬ ((ad:Int)<(ab.length:Int)):=by have:=List.drop_eq_nil_iff.1 hl;omega
  have hkb:=decide_eq_false hk;rw [Za7.eq_1] at hm;refine go ?_;refine Xv (congrArg Value.bool hkb)<|go ?_;cases hm;exact ⟨rfl,rfl,aa.below⟩
 | cons ai aq=>
  obtain ⟨aj,ar,au⟩:=Yc hl;have hk:(ad:Int)<(ab.length:Int):=by omega
  have hkb:=decide_eq_true hk;rw [Za7.eq_2] at hm;refine go ?_;refine Xz (congrArg Value.bool hkb)<|go ?_;refine lI aj ((h0.ks aa).addr aj)<|lW ((h0.ks aa).atStr aj) ?_;refine go ?_;refine lV (.int .i64 ((Y7 ac ai).getD 0)) (Zso Ta.str am underlying111 underlying9 zeroValue3 rfl rfl)<|go ?_;refine Zo hm (fun hb hm=>go ?_) fun hb hm=>go ?_
  ·cases hm;exact ⟨rfl,rfl,aa.below⟩
  obtain ⟨av,ak,hm⟩:=bZ hm;have ak:av=Tr ac ai 1:=(Option.some.inj ak).symm;refine Zp7 (k:=ai) (v:=1) Ta.str am underlying111 underlying9 rfl rfl rfl ?_;intro a2 aw ax an;rw [← ak] at an;refine go ?_;replace aa:=aa.kp aw ax;exact ⟨aq.length,by simp,rfl,⟨_,_,_,_,_,rfl,ar,hm,aa,an,(Yg (congrArg (Value.int .i64) (Yf (Nat.lt_of_lt_of_le au (h0.ks aa).1.1))) rfl)⟩⟩
def Zeb (ab:R0) (aa:Nat) (kk_L1:(Nat→Option Int)) (ac:Bool):Option Int:=
  if ac=true then (some 40) else ((Zn ab.2.2.1 (aa:Int)).bind fun ad=>if (decide ((ad.length:Int)=0))=true then (some 43) else (kk_L1 (aa+1)))
def Q5 (aa:R0):List ByteArray→Nat→Option Int
  | [],ab=>some 0
  | ad :: ac,ab=>Zw ((0:Int)≤(ab:Int)∧(ab:Int)≤(aa.2.1.length:Int)) ((Zg8 (aa.2.1.take (Int.toNat (ab:Int))) ad).bind fun ae=>if ae=true then (Zeb aa ab (Q5 aa ac) true) else ((Zn aa.2.2.1 (ab:Int)).bind fun af=>(Zgd af).bind fun ag=>Zeb aa ab (Q5 aa ac) ag))
termination_by structural x=>x
def Zcc (aa:R0):Option Int:=
  Q5 aa aa.2.1 0
theorem Zvn {ae ak al am:Nat} {af an ao ap:Option Addr} {col:Zd} {w0:World} {aa:R0} {r:Int} (hm:Zcc aa=some r) (ag:Sl Za.str col w0 af ae aa.2.1) (ai:Sl (Za.slice Za.str) col w0 an ak aa.2.2.1) (bi:Sl (Za.slice (Za.int .i64)) col w0 ao al aa.2.2.2.1) (bj:Sl (Za.slice (Za.pair (Za.pair Za.bool (Za.slice (Za.int .u32))) (Za.slice (Za.int .u32)))) col w0 ap am aa.2.2.2.2):
    Calls Tryz.prog 174 #[(.agg #[.string aa.1,.slice af aa.2.1.length ae,.slice an aa.2.2.1.length ak,.slice ao aa.2.2.2.1.length al,.slice ap aa.2.2.2.2.length am])] w0 (fun e w'=>e= .returned ((.int .i64 r))∧Below w0.heap.size w0 w'):=by
 refine Xc 2 (m:=37) func174 rfl rfl rfl rfl rfl ?_;rw [Zcc.eq_1] at hm;have ab:=St.start col w0;refine go ?_;refine X6 (col:=(Zi col)) 1 rfl ?_;intro a3 bk bm a6 ac;refine go ?_;refine Xu ac ?_;refine go ?_;replace ab:=ab.grow a6;refine Z2 [1,6,7,1000000] (fun n f aq=>∃ ah ad aj,n=aj.length∧aa.2.1.drop ad=aj∧Q5 aa aj ad=some r∧St w0 (Zi col) ah aq∧Zh 27 1 ah aq a3 #[.string aa.1,.slice af aa.2.1.length ae,.slice an aa.2.2.1.length ak,.slice ao aa.2.2.2.1.length al,.slice ap aa.2.2.2.2.length am]∧[8].map f=[.int .i64 ad]) aa.2.1.length ⟨_,0,_,rfl,rfl,hm,ab,ac,rfl⟩ ?_;clear hm;intro n f aq hI;obtain ⟨ah,ad,aj,hn,hl,hm,ab,ac,hs⟩:=hI;subst hn;refine .lL [8] hs ?_;replace ag:=ag.keep (Zk.start col w0);replace ai:=ai.keep (Zk.start col w0)
 cases aj with
 | nil=>
  have hk:¬ ((ad:Int)<(aa.2.1.length:Int)):=by have:=List.drop_eq_nil_iff.1 hl;omega
  have hkb:=decide_eq_false hk;rw [Q5.eq_1] at hm;refine go ?_;refine Xv (congrArg Value.bool hkb)<|go ?_;cases hm;exact ⟨rfl,rfl,ab.below⟩
 | cons bn a4=>
  obtain ⟨av,a7,a8⟩:=Yc hl;have hk:(ad:Int)<(aa.2.1.length:Int):=by omega
  have hkb:=decide_eq_true hk;rw [Q5.eq_2] at hm;refine go ?_;refine Xz (congrArg Value.bool hkb)<|go ?_;refine lI av ((ag.ks ab).addr av)<|lW ((ag.ks ab).atStr av)<|Yk rfl<|lAT rfl<|Zl<|Zfg<|Zu ?_;refine Wp.cutK [1,3,6,7,8,1000000] (fun f aw=>∃ ax ay,Zeb aa ad (Q5 aa a4) ay=some r∧St w0 (Zi col) ax aw∧Zh 27 1 ax aw a3 #[.string aa.1,.slice af aa.2.1.length ae,.slice an aa.2.2.1.length ak,.slice ao aa.2.2.2.1.length al,.slice ap aa.2.2.2.2.length am]∧[13].map f=[.bool ay]) ?_ ?_
  ·intro f aw hJ;obtain ⟨ax,ay,hm,ab,ac,hs⟩:=hJ;rw [Zeb.eq_1] at hm;refine .lL [13] hs ?_;refine Zo hm (fun hb hm=>go ?_) fun hb hm=>go ?_
   ·cases hm;exact ⟨rfl,rfl,ab.below⟩
   refine Xu ac<|X9 rfl ?_;obtain ⟨bo,az,hm⟩:=bZ hm;refine lI az ((ai.ks ab).addr az) ?_;obtain ⟨_,a9,ba⟩:=(ai.ks ab).atN az;obtain ⟨⟨bp,bq,rfl,br⟩,_⟩:=a9;refine lW ba.one<|go ?_;refine Zo hm (fun hb hm=>go ?_) fun hb hm=>go ?_
   ·cases hm;exact ⟨rfl,rfl,ab.below⟩
   exact ⟨a4.length,by simp,rfl,⟨_,_,_,rfl,a7,hm,ab,ac,(Yg (congrArg (Value.int .i64) (Yf (Nat.lt_of_lt_of_le a8 (ag.ks ab).1.1))) rfl)⟩⟩
  refine Wn<|Xu ac<|X9 rfl ?_;obtain ⟨a0,hm⟩:=Z0 hm;refine lv (v:=.slice af (Int.toNat (ad:Int)) ae) rfl rfl (Zhp underlying22 sizeOf9 rfl rfl a0.1 (by have:=(ag.ks ab).1.2;have:=a0.2;omega))<|.ld (d:=17) (v:=(.slice af ((aa.2.1.take (Int.toNat (ad:Int))).length) ae)) (congrArg (fun n=>Value.slice af n ae) (List.length_take_of_le (show (Int.toNat (ad:Int))≤aa.2.1.length by have:=a0.2;omega)).symm) ?_;refine lMT rfl ?_;obtain ⟨bs,bb,hm⟩:=bZ hm;refine Zg (Zwi bb ((ag.ks ab).take (Int.toNat (ad:Int)))) ?_;rintro _ a5 ⟨rfl,ar⟩;refine ⟨_,rfl,?_⟩;replace ar:Zf ah aq ah a5:=.of_below ar;refine Y0 rfl ?_;replace ac:=ac.gr ar;replace ab:=ab.grow ar;refine X5 hm (fun a1 hm=>go ?_) fun a1 hm=>go ?_
  ·refine lV (.bool true) (Xq (congrArg Value.bool a1) rfl)<|go ?_;exact ⟨rfl,_,_,hm,ab,ac,rfl⟩
  refine Wg ⟨_,_,rfl⟩ ?_;refine go ?_;refine lW ((ac.atN).nth (q:=2) rfl)<|go ?_;obtain ⟨bt,a2,hm⟩:=bZ hm;refine lI a2 ((ai.ks ab).addr a2) ?_;refine go ?_;obtain ⟨_,bc,bd⟩:=(ai.ks ab).atN a2;obtain ⟨⟨bu,bv,rfl,be⟩,_⟩:=bc;refine lW bd.one<|go ?_;obtain ⟨bf,bg,hm⟩:=bZ hm;refine Zg (Zvq bg be) ?_;rintro _ bh ⟨rfl,au⟩;refine ⟨_,rfl,?_⟩;replace au:Zf ah a5 ah bh:=.of_below au;refine lV (.bool bf) (Xk (congrArg Value.bool a1) rfl)<|go ?_;replace ac:=ac.gr au;replace ab:=ab.grow au;exact ⟨rfl,_,_,hm,ab,ac,rfl⟩
def Zd9 (aa:Bool) (ab:List Int) (ac:List Int):Option R1:=
  some ((aa,ab),ac)
def Za5 (N:Nat) (aa:R1):Option R1:=
  (Zcj N aa.2).bind fun ab=>if (decide ((ab.length:Int)=0))=true then ((Qc N 1).bind fun ac=>Zd9 aa.1.1 aa.1.2 ac) else (Zd9 aa.1.1 aa.1.2 aa.2)
theorem Znz {N am a1:Nat} {an a2:Option Addr} {col:Zd} {w0:World} {ad r:R1} (hm:Za5 N ad=some r) (ai:Sl (Za.int .u32) col w0 an am ad.1.2) (aj:Sl (Za.int .u32) col w0 a2 a1 ad.2):
    Calls Tryz.prog 183 #[(.agg #[.bool ad.1.1,.slice an ad.1.2.length am,.slice a2 ad.2.length a1])] w0 (fun e w'=>∃ (col':Zd) (ra1:Option Addr) (rc2:Nat) (ra4:Option Addr) (rc5:Nat),e= .returned ((.agg #[.bool r.1.1,.slice ra1 r.1.2.length rc2,.slice ra4 r.2.length rc5]))∧Zf col w0 col' w'∧Sl (Za.int .u32) col' w' ra1 rc2 r.1.2∧Sl (Za.int .u32) col' w' ra4 rc5 r.2):=by
 refine Wa (m:=11) func183 rfl rfl rfl ?_;rw [Za5.eq_1] at hm;have aa:=St.start col w0;refine go ?_;refine X6 (col:=(Zi col)) 1 rfl ?_;intro a3 bj a8 a9 ab;refine Xo (col:=a8) #[.bool false,.slice none (([]:List Int).length) 0,.slice none (([]:List Int).length) 0] 2 zeroValue47 ?_;intro ba bk bm a4 ac;refine Zl<|Zu ?_;replace ai:=ai.keep (Zk.start col w0);replace aj:=aj.keep (Zk.start col w0);replace aa:=(aa.grow a9).grow a4;replace ab:=ab.gr a4;refine Wp.cutK [1,2,1000000] (fun f ae=>∃ af ao ap aq ak ar au al,Zd9 ao ak al=some r∧St w0 (Zi col) af ae∧Sl (Za.int .u32) af ae ap aq ak∧Sl (Za.int .u32) af ae ar au al∧Zh 47 1 af ae a3 #[.bool ao,.slice ap ak.length aq,.slice ar al.length au]∧Zh 47 2 af ae ba #[.bool false,.slice none (([]:List Int).length) 0,.slice none (([]:List Int).length) 0]) ?_ ?_
 ·intro f ae hJ;obtain ⟨af,ao,ap,aq,ak,ar,au,al,hm,aa,av,aw,ab,ac⟩:=hJ;rw [Zd9.eq_1] at hm;refine go ?_;refine lV _ (Xi isAgg47 sizeOf47 ab)<|Z4 ac ?_;intro bn ax bb bc;refine go ?_;cases hm;replace av:=av.kp ax;replace aw:=aw.kp ax;replace aa:=aa.kp ax bb;exact ⟨rfl,_,ra bc.atN,_,_,_,_,_,rfl,aa.fin (cm []),aa.fs av,aa.fs aw⟩
 refine go ?_;refine Xu ab ?_;obtain ⟨bo,bd,hm⟩:=bZ hm;refine Zg (Zkz 3 bd (aj.ks aa)) ?_;rintro _ bp ⟨be,bq,br,rfl,ay,bs⟩;refine ⟨_,rfl,go ?_⟩;replace ab:=ab.gr ay;replace ac:=ac.gr ay;replace aa:=aa.grow ay;refine Zo hm (fun hb hm=>?_) fun hb hm=>?_
 ·refine Wn ?_;obtain ⟨a5,bf,hm⟩:=bZ hm;refine Zg (Zdh (col:=be) 4 bf) ?_;rintro _ bt ⟨bg,a6,a7,rfl,az,ag⟩;refine ⟨_,rfl,?_⟩;refine Wg ⟨_,_,rfl⟩ ?_;replace ab:=ab.gr az;refine Sw (off:=2) (v:=(.slice a6 a5.length a7)) ab sizeOf43 rfl rfl (by intro u hu;simp only [Value.cells,List.mem_cons,List.not_mem_nil,or_false] at hu;subst hu;rfl) rfl rfl ?_;intro bh a0 bi ah;replace ah:Zh 47 1 bg bh a3 #[.bool ad.1.1,.slice an ad.1.2.length am,.slice a6 a5.length a7]:=ah;refine Zl ?_;replace ag:=ag.kp a0;replace ag:=(ag).toSlF (Zj.int .u32);replace ah:=ah.froz 4 (by decide);replace ac:=(ac.gr az).kp a0;replace ac:=ac.froz 4 (by decide);replace aa:=(aa.grow az).kp a0 bi;replace aa:=aa.froz 4 (by decide) (by decide);exact ⟨rfl,_,_,_,_,_,_,_,_,hm,aa,(ai.ks aa),ag,ah,ac⟩
 refine X7 ?_;exact ⟨rfl,_,_,_,_,_,_,_,_,hm,aa,(ai.ks aa),(aj.ks aa),ab,ac⟩
theorem Zxo:Yw Tryz.prog 47 3 56:=⟨Tryz.t47,_,rfl,rfl,rfl,rfl,rfl⟩
def Za6 (N:Nat):List R1→R7→Option R7
  | [],ab=>some ab
  | ac :: ad,ab=>(Za5 N ((ac.1.1,ac.1.2),ac.2)).bind fun aa=>Zw ((ab.length+[((aa.1.1,aa.1.2),aa.2)].length) * 56≤140737488355328∧ab.length+[((aa.1.1,aa.1.2),aa.2)].length≤maxLen) ((Za6 N ad) (ab++[((aa.1.1,aa.1.2),aa.2)]))
termination_by structural x=>x
def Zea (N:Nat) (aa:R7):Option R7:=
  Zw (aa.length * 56≤281474976710656∧aa.length≤maxLen) (Za6 N aa ([]:List R1))
theorem Zn0 {N ar:Nat} {a0:Option Addr} {col:Zd} {w0:World} {ac r:R7} (c1:Nat) (hm:Zea N ac=some r) (h0:Sl (Za.pair (Za.pair Za.bool (Za.slice (Za.int .u32))) (Za.slice (Za.int .u32))) col w0 a0 ar ac):
    Calls Tryz.prog 178 #[.slice a0 ac.length ar] w0 (fun e w'=>∃ (col':Zd) (ra1:Option Addr) (rc2:Nat),e= .returned ((.slice ra1 r.length rc2))∧Zf col w0 col' w'∧Zc (Za.pair (Za.pair Za.bool (Za.slice (Za.int .u32))) (Za.slice (Za.int .u32))) 47 c1 col' w' ra1 rc2 r):=by
 refine Xc 2 (m:=22) func178 rfl rfl rfl rfl rfl ?_;rw [Zea.eq_1] at hm;have ab:=St.start col w0;refine go ?_;obtain ⟨au,hm⟩:=Z0 hm;refine Zym (col:=(Zi col)) (w:=w0) (r:=(Za.pair (Za.pair Za.bool (Za.slice (Za.int .u32))) (Za.slice (Za.int .u32)))) (n:=ac.length) 1 rfl underlying56 Zxo rfl rfl rfl au.1 au.2 ?_;intro bt bu bv a2 a3;refine go ?_;replace ab:=ab.grow a2;refine Z2 [10,9,1000000] (fun n f ak=>∃ af ad al am ag ae,n=ae.length∧ac.drop ad=ae∧Za6 N ae ag=some r∧St w0 (Zi col) af ak∧Zc (Za.pair (Za.pair Za.bool (Za.slice (Za.int .u32))) (Za.slice (Za.int .u32))) 47 1 af ak al am ag∧[11,3].map f=[.int .i64 ad,.slice al ag.length am]) ac.length ⟨_,0,_,_,_,_,rfl,rfl,hm,ab,a3,rfl⟩ ?_;clear hm;intro n f ak hI;obtain ⟨af,ad,al,am,ag,ae,hn,hl,hm,ab,ah,hs⟩:=hI;subst hn;refine .lL [11,3] hs ?_;replace h0:=h0.keep (Zk.start col w0)
 cases ae with
 | nil=>
  have hk:¬ ((ad:Int)<(ac.length:Int)):=by have:=List.drop_eq_nil_iff.1 hl;omega
  have hkb:=decide_eq_false hk;rw [Za6.eq_1] at hm;refine go ?_;refine Xv (congrArg Value.bool hkb)<|go ?_;cases hm;exact ⟨rfl,_,_,_,rfl,ab.fin (cm [(1,c1)]),ab.fo ah⟩
 | cons an a4=>
  obtain ⟨ao,a5,a6⟩:=Yc hl;have hk:(ad:Int)<(ac.length:Int):=by omega
  have hkb:=decide_eq_true hk;rw [Za6.eq_2] at hm;refine go ?_;refine Xz (congrArg Value.bool hkb)<|go ?_;refine lI ao ((h0.ks ab).addr ao) ?_;obtain ⟨_,a7,a8⟩:=(h0.ks ab).atN ao;obtain ⟨_,_,rfl,a9,ba⟩:=Vw a7;obtain ⟨_,_,rfl,bb,bc⟩:=Vw a9;obtain ⟨rfl,_⟩:=bb;obtain ⟨⟨bd,be,rfl,ap⟩,_⟩:=bc;obtain ⟨⟨bf,bg,rfl,aq⟩,_⟩:=ba;refine lV (.agg #[.bool an.1.1,.slice bd an.1.2.length be,.slice bf an.2.length bg]) (Wv isAgg47 sizeOf47 rfl rfl a8)<|Xo (col:=af) #[.bool false,.slice none (([]:List Int).length) 0,.slice none (([]:List Int).length) 0] 2 zeroValue47 ?_;intro bw bx bz ai bh;refine Z4 bh ?_;intro b0 aj bi bj;refine go ?_;refine lV _ (Xi isAgg47 sizeOf47 bj) ?_;obtain ⟨aa,bk,hm⟩:=bZ hm;replace ap:=(ap.gr ai).kp aj;replace aq:=(aq.gr ai).kp aj;refine Zg (Znz bk ap aq) ?_;rintro _ b1 ⟨bm,av,aw,ax,ay,rfl,az,bn,bo⟩;refine ⟨_,rfl,?_⟩;refine V9 (col:=bm) (r:=(Za.pair (Za.pair Za.bool (Za.slice (Za.int .u32))) (Za.slice (Za.int .u32)))) (xs:=[((aa.1.1,aa.1.2),aa.2)]) [(.agg #[.bool aa.1.1,.slice av aa.1.2.length aw,.slice ax aa.2.length ay])] 3 (Yj.ofF (Rows.consF (r:=(Za.pair (Za.pair Za.bool (Za.slice (Za.int .u32))) (Za.slice (Za.int .u32)))) (x:=((aa.1.1,aa.1.2),aa.2)) (cs:=[.bool aa.1.1,.slice av aa.1.2.length aw,.slice ax aa.2.length ay]) (Zfc (Zfc (Ty aa.1.1) (Zsu bn)) (Zsu bo)) Rows.nil0)) ?_;intro b2 b3 b4 a1 bp;obtain ⟨bq,hm⟩:=Z0 hm;replace ah:=(((ah.gr ai).kp aj).gr az).gr a1;refine V2 ah (bp.srcN (NB.pair (NB.pair NB.bool NB.slice) NB.slice)) bq ?_;intro b5 b6 b7 b8 br bs;refine go ?_;replace ab:=((((ab.grow ai).kp aj bi).grow az).grow a1).kpp br;exact ⟨a4.length,by simp,rfl,⟨_,_,_,_,_,_,rfl,a5,hm,ab,bs,(Yg (congrArg (Value.int .i64) (Yf (Nat.lt_of_lt_of_le a6 (h0.ks ab).1.1))) rfl)⟩⟩
def Zbl (N:Nat) (ab:List R1) (ac:Int):Nat→Int→Option (List R7)
  | 0,_=>none
  | ad+1,aa=>if (decide (aa<(ab.length:Int)))=true then (Zw ((0:Int)≤aa∧aa≤(ab.length:Int)) (Zw ((0:Int)≤aa∧aa≤(i64.wrap (aa+(if ((ab.drop (Int.toNat aa)).length:Int)<ac then ((ab.drop (Int.toNat aa)).length:Int) else ac)))∧(i64.wrap (aa+(if ((ab.drop (Int.toNat aa)).length:Int)<ac then ((ab.drop (Int.toNat aa)).length:Int) else ac)))≤(i64.wrap (aa+(if ((ab.drop (Int.toNat aa)).length:Int)<ac then ((ab.drop (Int.toNat aa)).length:Int) else ac)))∧(i64.wrap (aa+(if ((ab.drop (Int.toNat aa)).length:Int)<ac then ((ab.drop (Int.toNat aa)).length:Int) else ac)))≤(ab.length:Int)) (((Zbl N ab ac ad) (i64.wrap (aa+ac))).bind fun ae=>some ((ab.take (Int.toNat (i64.wrap (aa+(if ((ab.drop (Int.toNat aa)).length:Int)<ac then ((ab.drop (Int.toNat aa)).length:Int) else ac))))).drop (Int.toNat aa) :: ae)))) else (some [])
termination_by structural x=>x
def Zjp (N:Nat) (aa:List R1) (ab:Int):Option (List R7):=
  Zbl N aa ab N 0
theorem Zwe (N:Nat) (col:Zd) (w0:World) (g0:Nat) (af0:Option Addr) (capf0:Nat) (ab:List R1) (hf0:Sl (Za.pair (Za.pair Za.bool (Za.slice (Za.int .u32))) (Za.slice (Za.int .u32))) col w0 af0 capf0 ab) (hb0:Zh 56 450 col w0 g0 #[.slice af0 ab.length capf0]) (g1:Nat) (ac:Int) (hb1:Zh 3 450 col w0 g1 #[.int .i64 ac]) (r:List R7) (hm:Zjp N ab ac=some r):
    Zda Tryz.prog 1 285 [.pointer (some ⟨g0,0,none⟩),.pointer (some ⟨g1,0,none⟩)] (fun (y:List R1) (col:Zd) (w:World) (args:List Value)=>∃ (a0:Option Addr) (ak:Nat),args=[.slice a0 y.length ak]∧Sl (Za.pair (Za.pair Za.bool (Za.slice (Za.int .u32))) (Za.slice (Za.int .u32))) col w a0 ak y) r col w0:=by
 intro l J X hjs hxs hy ad;refine Zbz (m:=31) (args:=[.func (.yield l) #[] #[],.pointer (some ⟨g0,0,none⟩),.pointer (some ⟨g1,0,none⟩)]) func285 rfl rfl rfl rfl ?_;rw [Zjp.eq_1] at hm;refine go ?_;refine Z2 [0,1,2,1000000] (fun n f ah=>∃ ae r aa af,af=n∧Zbl N ab ac af aa=some r∧J r ae ah∧Sl (Za.pair (Za.pair Za.bool (Za.slice (Za.int .u32))) (Za.slice (Za.int .u32))) ae ah af0 capf0 ab∧Zh 56 450 ae ah g0 #[.slice af0 ab.length capf0]∧Zh 3 450 ae ah g1 #[.int .i64 ac]∧[4].map f=[.int .i64 aa]) N ⟨_,_,0,_,rfl,hm,ad,hf0,hb0,hb1,rfl⟩ ?_;clear hm;intro n f ah hI;obtain ⟨ae,r,aa,af,hn,hm,ad,hf0,hb0,hb1,hs⟩:=hI;subst hn;refine .lL [4] hs ?_
 cases af with
 | zero=>rw [Zbl.eq_1] at hm;cases hm
 | succ af=>
  rw [Zbl.eq_2] at hm;refine go ?_;refine lW hb0.at1<|go ?_;refine Zo hm (fun hb hm=>go ?_) fun hb hm=>go ?_
  ·refine Uk (col:=ae) (by kernel_rfl) (by kernel_rfl)<|qW (fun _ hC=>hb1.at1.gr (hC.bl ae)) ?_;refine qW (fun _ hC=>hb0.at1.gr (hC.bl ae)) ?_;refine go ?_;obtain ⟨al,hm⟩:=Z0 hm;have ap:=hf0.drop (sz:=3) rfl (Int.toNat aa);refine qv (v:=.slice (if capf0=(Int.toNat aa) then af0 else af0.map (·.add ((Int.toNat aa) * 3))) (ab.length - (Int.toNat aa)) (capf0 - (Int.toNat aa))) rfl (fun _ hC=>Z0n underlying56 sizeOf47 rfl rfl al.1 al.2) ?_;generalize (if capf0=(Int.toNat aa) then af0 else af0.map (·.add ((Int.toNat aa) * 3)))=am at *;refine .ld (d:=16) (v:=(.slice am ((ab.drop (Int.toNat aa)).length) (capf0 - (Int.toNat aa)))) (congrArg (fun n=>Value.slice am n (capf0 - (Int.toNat aa))) (List.length_drop (i:=(Int.toNat aa)) (l:=ab)).symm) ?_;refine go ?_;refine qv (v:=(.int .i64 (if ((ab.drop (Int.toNat aa)).length:Int)<ac then ((ab.drop (Int.toNat aa)).length:Int) else ac))) rfl (fun _ hC=>Zmy ac ((ab.drop (Int.toNat aa)).length:Int) rfl rfl) ?_;refine go ?_;refine Wt ?_;intro aq hC;replace hC:=hC.bl ae;replace hf0:=hf0.gr hC;replace hb0:=hb0.gr hC;replace hb1:=hb1.gr hC;replace ad:=hjs _ _ _ _ _ ad hC.toP;refine go ?_;refine lM (.func (.yield l) #[] #[])<|lW hb0.at1<|go ?_;obtain ⟨ag,hm⟩:=Z0 hm;have an:=((hf0.take (Int.toNat (i64.wrap (aa+(if ((ab.drop (Int.toNat aa)).length:Int)<ac then ((ab.drop (Int.toNat aa)).length:Int) else ac))))).recap (show (ab.take (Int.toNat (i64.wrap (aa+(if ((ab.drop (Int.toNat aa)).length:Int)<ac then ((ab.drop (Int.toNat aa)).length:Int) else ac))))).length≤(Int.toNat (i64.wrap (aa+(if ((ab.drop (Int.toNat aa)).length:Int)<ac then ((ab.drop (Int.toNat aa)).length:Int) else ac)))) by rw [List.length_take (i:=(Int.toNat (i64.wrap (aa+(if ((ab.drop (Int.toNat aa)).length:Int)<ac then ((ab.drop (Int.toNat aa)).length:Int) else ac))))) (l:=ab)];have:=ag.2;omega)).drop (sz:=3) rfl (Int.toNat aa);refine lv (v:=.slice (if (Int.toNat (i64.wrap (aa+(if ((ab.drop (Int.toNat aa)).length:Int)<ac then ((ab.drop (Int.toNat aa)).length:Int) else ac))))=(Int.toNat aa) then af0 else af0.map (·.add ((Int.toNat aa) * 3))) ((Int.toNat (i64.wrap (aa+(if ((ab.drop (Int.toNat aa)).length:Int)<ac then ((ab.drop (Int.toNat aa)).length:Int) else ac)))) - (Int.toNat aa)) ((Int.toNat (i64.wrap (aa+(if ((ab.drop (Int.toNat aa)).length:Int)<ac then ((ab.drop (Int.toNat aa)).length:Int) else ac)))) - (Int.toNat aa))) rfl rfl (Z0p underlying56 sizeOf47 rfl rfl rfl rfl ag.1 ag.2.1 ag.2.2.1 (by have:=hf0.1.2;have:=ag.2.2.2;omega)) ?_
   generalize (if (Int.toNat (i64.wrap (aa+(if ((ab.drop (Int.toNat aa)).length:Int)<ac then ((ab.drop (Int.toNat aa)).length:Int) else ac))))=(Int.toNat aa) then af0 else af0.map (·.add ((Int.toNat aa) * 3)))=ai at *;refine .ld (d:=28) (v:=(.slice ai (((ab.take (Int.toNat (i64.wrap (aa+(if ((ab.drop (Int.toNat aa)).length:Int)<ac then ((ab.drop (Int.toNat aa)).length:Int) else ac))))).drop (Int.toNat aa)).length) ((Int.toNat (i64.wrap (aa+(if ((ab.drop (Int.toNat aa)).length:Int)<ac then ((ab.drop (Int.toNat aa)).length:Int) else ac)))) - (Int.toNat aa)))) (congrArg (fun n=>Value.slice ai n ((Int.toNat (i64.wrap (aa+(if ((ab.drop (Int.toNat aa)).length:Int)<ac then ((ab.drop (Int.toNat aa)).length:Int) else ac)))) - (Int.toNat aa))) (show (Int.toNat (i64.wrap (aa+(if ((ab.drop (Int.toNat aa)).length:Int)<ac then ((ab.drop (Int.toNat aa)).length:Int) else ac)))) - (Int.toNat aa)=((ab.take (Int.toNat (i64.wrap (aa+(if ((ab.drop (Int.toNat aa)).length:Int)<ac then ((ab.drop (Int.toNat aa)).length:Int) else ac))))).drop (Int.toNat aa)).length by rw [List.length_drop (i:=(Int.toNat aa)) (l:=ab.take (Int.toNat (i64.wrap (aa+(if ((ab.drop (Int.toNat aa)).length:Int)<ac then ((ab.drop (Int.toNat aa)).length:Int) else ac))))),List.length_take (i:=(Int.toNat (i64.wrap (aa+(if ((ab.drop (Int.toNat aa)).length:Int)<ac then ((ab.drop (Int.toNat aa)).length:Int) else ac))))) (l:=ab)];have:=ag.2;omega)) ?_;obtain ⟨ar,hc_14m,ao⟩:=bZ hm;cases ao;have hm:=hc_14m;refine ly1 rfl rfl rfl (hy _ _ _ _ [(.slice ai (((ab.take (Int.toNat (i64.wrap (aa+(if ((ab.drop (Int.toNat aa)).length:Int)<ac then ((ab.drop (Int.toNat aa)).length:Int) else ac))))).drop (Int.toNat aa)).length) ((Int.toNat (i64.wrap (aa+(if ((ab.drop (Int.toNat aa)).length:Int)<ac then ((ab.drop (Int.toNat aa)).length:Int) else ac)))) - (Int.toNat aa)))] ad ⟨ai,((Int.toNat (i64.wrap (aa+(if ((ab.drop (Int.toNat aa)).length:Int)<ac then ((ab.drop (Int.toNat aa)).length:Int) else ac)))) - (Int.toNat aa)),rfl,an⟩) ?_;rintro _ au ⟨av,aj,⟨rfl,hJ⟩ | ⟨rfl,hX⟩⟩
   ·refine ⟨_,rfl,?_⟩;have ad:=hJ;refine go ?_;refine Xv rfl<|go ?_;replace hb1:=hb1.kpp aj;refine lW hb1.at1<|go ?_;replace hf0:=hf0.kpp aj;replace hb0:=hb0.kpp aj;exact ⟨af,by omega,rfl,⟨_,_,_,_,rfl,hm,ad,hf0,hb0,hb1,rfl⟩⟩
   refine ⟨_,rfl,?_⟩;have ad:=hX;refine go ?_;refine Xz rfl<|W0 ?_;exact ⟨rfl,⟨_,rfl⟩,_,.inr ad⟩
  cases hm;exact ⟨rfl,⟨_,rfl⟩,_,.inl ad⟩
def Zjq (N:Nat) (aa:R7) (ab:Int):Option (List R7):=
  Zjp N aa ab
def Zjo (N:Nat) (ab:R7) (aa:Int):Option (List R7):=
  if (decide (aa<1))=true then none else (Zjq N ab aa)
theorem Zwd {N aa:Nat} {a0:Option Addr} {col:Zd} {w0:World} {ac:R7} {ad:Int} {r:(List R7)} (hm:Zjo N ac ad=some r) (h0:Sl (Za.pair (Za.pair Za.bool (Za.slice (Za.int .u32))) (Za.slice (Za.int .u32))) col w0 a0 aa ac):
    Calls Tryz.prog 254 #[.slice a0 ac.length aa,.int .i64 ad] w0 (fun e w'=>∃ (col':Zd) (rv1:Value),e= .returned (rv1)∧Zf col w0 col' w'∧It Tryz.prog 1 rv1 (fun (y:List R1) (col:Zd) (w:World) (args:List Value)=>∃ (a0:Option Addr) (aa:Nat),args=[.slice a0 y.length aa]∧Sl (Za.pair (Za.pair Za.bool (Za.slice (Za.int .u32))) (Za.slice (Za.int .u32))) col w a0 aa y) r q0 col' w'):=by
 refine Xc 4 (m:=9) func254 rfl rfl rfl rfl rfl ?_;rw [Zjo.eq_1] at hm;have ab:=St.start col w0;refine go ?_;refine Sv (col:=(Zi col)) (v:=(.slice a0 ac.length aa)) 1 rfl rfl ?_;intro af ap an aq ae;replace ae:Zh 56 1 an ap af #[.slice a0 ac.length aa]:=ae;refine Sv (col:=an) (v:=(.int .i64 ad)) 2 rfl rfl ?_;intro ag ar au ao ah;replace ah:Zh 3 2 au ar ag #[.int .i64 ad]:=ah;refine lv (v:=_) rfl rfl (Vu rfl)<|Zl<|Zu ?_;replace h0:=h0.keep (Zk.start col w0);replace ab:=(ab.grow aq).grow ao;replace ae:=ae.gr ao;refine Wp.cutK [2,3,1000000] (fun f aj=>∃ ai,Zjq N ac ad=some r∧St w0 (Zi col) ai aj∧Zh 56 1 ai aj af #[.slice a0 ac.length aa]∧Zh 3 2 ai aj ag #[.int .i64 ad]) ?_ ?_
 ·intro f aj hJ;obtain ⟨ai,hm,ab,ae,ah⟩:=hJ;rw [Zjq.eq_1] at hm;refine go ?_;refine lV (.func (.func 285) #[] #[.pointer (some ⟨af,0,none⟩),.pointer (some ⟨ag,0,none⟩)]) (Zmv rfl rfl)<|lA (.func (.func 285) #[] #[.pointer (some ⟨af,0,none⟩),.pointer (some ⟨ag,0,none⟩)])<|go ?_;have ak:=ab.finBox (G:=(fun n=>bif Nat.beq n 1 then 450 else bif Nat.beq n 2 then 450 else 0)) ae (by decide) (by decide) (show (fun n=>bif Nat.beq n 1 then 450 else bif Nat.beq n 2 then 450 else 0) 1=450 from rfl);have h0f:=ab.finSl (g:=(fun n=>bif Nat.beq n 1 then 450 else bif Nat.beq n 2 then 450 else 0)) rfl (h0.ks ab);have al:=ab.finBox (G:=(fun n=>bif Nat.beq n 1 then 450 else bif Nat.beq n 2 then 450 else 0)) ah (by decide) (by decide) (show (fun n=>bif Nat.beq n 1 then 450 else bif Nat.beq n 2 then 450 else 0) 2=450 from rfl);refine ⟨rfl,Wr w0.heap.size col ai (fun n=>bif Nat.beq n 1 then 450 else bif Nat.beq n 2 then 450 else 0),_,rfl,ab.fin (fun n=>bif Nat.beq n 1 then 450 else bif Nat.beq n 2 then 450 else 0),285,[.pointer (some ⟨af,0,none⟩),.pointer (some ⟨ag,0,none⟩)],rfl,call285,?_⟩;intro col9 w9 am hk9;replace ak:=ak.itk am hk9 rfl;replace h0f:=h0f.itk am hk9 rfl;replace al:=al.itk am hk9 rfl;exact Zwe N col9 w9 af a0 aa ac h0f ak ag ad al r hm
 refine go ?_;refine lW ah.at1<|go ?_;refine Zo hm (fun hb hm=>?_) fun hb hm=>?_
 ·cases hm
 refine X7 ?_;exact ⟨rfl,_,hm,ab,ae,ah⟩
def Zcd (N:Nat):Option R1:=
  (Zdz N 1 1).bind fun aa=>some ((aa.1.1.1,aa.1.1.2),aa.1.2)
theorem Zkx {N:Nat} {col:Zd} {w0:World} {r:R1} (c1 c2:Nat) (hm:Zcd N=some r):
    Calls Tryz.prog 182 #[] w0 (fun e w'=>∃ (col':Zd) (ra1:Option Addr) (rc2:Nat) (ra4:Option Addr) (rc5:Nat),e= .returned ((.agg #[.bool r.1.1,.slice ra1 r.1.2.length rc2,.slice ra4 r.2.length rc5]))∧Zf col w0 col' w'∧Zc (Za.int .u32) 79 c1 col' w' ra1 rc2 r.1.2∧Zc (Za.int .u32) 79 c2 col' w' ra4 rc5 r.2):=by
 refine Wa (m:=8) func182 rfl rfl rfl ?_;rw [Zcd.eq_1] at hm;have ab:=St.start col w0;refine go ?_;refine Xo (col:=(Zi col)) #[.bool false,.slice none (([]:List Int).length) 0,.slice none (([]:List Int).length) 0] 1 zeroValue47 ?_;intro ay az an ao ae;refine go ?_;obtain ⟨aa,ap,hm⟩:=bZ hm;refine Zg (Znv (col:=an) 2 3 ap) ?_;rintro _ a0 ⟨aq,ai,aj,ak,al,rfl,am,af,ag⟩;refine ⟨_,rfl,?_⟩;refine lM (.tuple #[(.agg #[.bool aa.1.1.1,.slice ai aa.1.1.2.length aj,.slice ak aa.1.2.length al]),.int .i64 aa.2])<|lV (.agg #[.bool aa.1.1.1,.slice ai aa.1.1.2.length aj,.slice ak aa.1.2.length al]) (Xh rfl rfl)<|lV (.int .i64 aa.2) (Xh rfl rfl)<|Xo (col:=aq) #[.bool false,.slice none (([]:List Int).length) 0,.slice none (([]:List Int).length) 0] 4 zeroValue47 ?_;intro a1 a2 a3 ac ar;refine Z4 ar ?_;intro a4 ad au av;refine go ?_;refine lV _ (Xi isAgg47 sizeOf47 av) ?_;replace ae:=((ae.gr am).gr ac).kp ad;refine Z4 ae ?_;intro a5 ah aw ax;refine go ?_;cases hm;replace ab:=((((ab.grow ao).grow am).grow ac).kp ad au).kp ah aw;replace af:=((af.gr ac).kp ad).kp ah;replace ag:=((ag.gr ac).kp ad).kp ah;exact ⟨rfl,_,ra ax.atN,_,_,_,_,_,rfl,ab.fin (cm [(2,c1),(3,c2)]),ab.fo af,ab.fo ag⟩
def Zlz (aa:Bool):Option Bool:=
  some aa
def Zcf (N:Nat):List R7→Bool→Option Bool
  | [],ac=>some true
  | ad :: ae,ac=>(S8 N ad).bind fun aa=>(Zcd N).bind fun ab=>(S7 N ((aa.1.1,aa.1.2),aa.2) ((ab.1.1,ab.1.2),ab.2)).bind fun af=>if (!decide (af=0))=true then (Zlz false) else ((Zcf N ae) ac)
termination_by structural x=>x
def Zge (N:Nat) (aa:R7) (ab:Int):Option Bool:=
  (Zjo N aa ab).bind fun ac=>Zcf N ac false
theorem Zvr {N ah:Nat} {a0:Option Addr} {col:Zd} {w0:World} {am:R7} {ao:Int} {r:Bool} (hm:Zge N am ao=some r) (h0:Sl (Za.pair (Za.pair Za.bool (Za.slice (Za.int .u32))) (Za.slice (Za.int .u32))) col w0 a0 ah am):
    Calls Tryz.prog 180 #[.slice a0 am.length ah,.int .i64 ao] w0 (fun e w'=>e= .returned ((.bool r))∧Below w0.heap.size w0 w'):=by
 refine Zik (m:=15) (args:=[.slice a0 am.length ah,.int .i64 ao]) func180 rfl rfl rfl ?_;rw [Zge.eq_1] at hm;have aa:=St.start col w0;replace h0:=h0.keep (Zk.start col w0);have hmk:Xw 499 (Zi col) w0 []:=.nil;refine go ?_;refine Su (col:=(Zi col)) (v:=(.bool false)) 1 rfl zeroValue4 ?_;intro ai a4 a5 ax ab;replace ab:Zh 4 1 a5 a4 ai #[.bool false]:=ab;refine go ?_;obtain ⟨a6,a7,hm⟩:=bZ hm;replace aa:=aa.grow ax;refine Zg (Zwd a7 (h0.ks aa)) ?_;rintro _ bq ⟨a8,br,rfl,ap,a9⟩;refine ⟨_,rfl,go ?_⟩;replace hmk:=(hmk.gr ax).gr ap;replace ab:=ab.gr ap;replace aa:=aa.grow ap;refine Zc8 (psl:=[9]) (arr:=(fun (y:List R1) (col:Zd) (w:World) (args:List Value)=>∃ (a0:Option Addr) (ah:Nat),args=[.slice a0 y.length ah]∧Sl (Za.pair (Za.pair Za.bool (Za.slice (Za.int .u32))) (Za.slice (Za.int .u32))) col w a0 ah y)) (ys:=a6) (col:=a8) 498 rfl a9 rfl hmk rfl rfl (by rintro _ _ _ _ ⟨_,_,rfl,_⟩;rfl) (fun ys_ ad ae=>∃ (ac:Bool),Zcf N ys_ ac=some r∧St w0 (Zi col) ad ae∧Zh 4 1 ad ae ai #[.bool ac]) (fun c_ ad ae=>(c_= .ret∧∃ (ac:Bool),Zlz ac=some r∧St w0 (Zi col) ad ae∧Zh 4 1 ad ae ai #[.bool ac])) ?_ ?_ ⟨false,hm,aa,ab⟩ ?_ ?_ ?_
 ·intro ys_ ad ae col2_ w2_ hJ hk;obtain ⟨ac,hm,aa,ab⟩:=hJ;exact ⟨ac,hm,aa.kpp hk rfl rfl,ab.kpp hk rfl⟩
 ·intro c_ ad ae col2_ w2_ hX hk;obtain ⟨rfl,hX⟩:=hX;obtain ⟨ac,hm,aa,ab⟩:=hX;exact ⟨rfl,⟨ac,hm,aa.kpp hk rfl rfl,ab.kpp hk rfl⟩⟩
 ·intro bs bt bu bv bw ad ae args hJ hrec hmk harr;obtain ⟨ac,hm,aa,ab⟩:=hJ;rw [Zcf.eq_2] at hm;have hki:=Zt.refl (pC 1) ad ae;obtain ⟨bx,bz,rfl,aq⟩:=harr;refine go ?_;refine ⟨_,hrec,?_⟩;intro b0 b1 aj ay hrec2;have hrec:=hrec2;refine go ?_;obtain ⟨b2,ba,hm⟩:=bZ hm;replace aq:=aq.kp aj;refine Zg (Zid 2 3 ba aq) ?_;rintro _ b3 ⟨bb,b4,b5,b6,b7,rfl,ak,ar,au⟩;refine ⟨_,rfl,?_⟩;obtain ⟨b8,bc,hm⟩:=bZ hm;refine lc rfl rfl (Zbp call182) (Zkx (col:=bb) 4 5 bc:) ?_;rintro _ bd ⟨av,b9,ca,cb,cc,rfl,af,be,bf⟩;refine ⟨_,rfl,?_⟩;obtain ⟨cd,bg,hm⟩:=bZ hm;replace ar:=ar.gr af;replace au:=au.gr af;refine Zg (Zic bg ((((ar.toSlF (Zj.int .u32)).froz 3).froz 4).froz 5) ((((au.froz 2 (by decide)).toSlF (Zj.int .u32)).froz 4).froz 5) ((((be.froz 2 (by decide)).froz 3 (by decide)).toSlF (Zj.int .u32)).froz 5) ((((bf.froz 2 (by decide)).froz 3 (by decide)).froz 4 (by decide)).toSlF (Zj.int .u32))) ?_;rintro _ bh ⟨rfl,ag⟩;refine ⟨_,rfl,?_⟩;replace ag:Zf av bd av bh:=.of_below ag;refine go ?_;replace ab:=(((ab.kp aj).gr ak).gr af).gr ag;replace hmk:=(((hmk.kp aj).gr ak).gr af).gr ag;replace hki:=(((hki.kp aj ay rfl).gr ak).gr af).gr ag;replace aa:=(((aa.kp aj ay).grow ak).grow af).grow ag;replace hrec:=((hrec.gr ak).gr af).gr ag;refine Zo hm (fun hb hm=>go ?_) fun hb hm=>?_
  ·refine Wy (v:=(.bool false)) ab sizeOf4 rfl rfl (by intro u hu;simp only [Value.cells,List.mem_cons,List.not_mem_nil,or_false] at hu;subst hu;rfl) rfl rfl ?_;intro bi an az aw;replace aw:Zh 4 1 av bi ai #[.bool false]:=aw;refine go ?_;replace hrec:=hrec.kp an;replace hmk:=hmk.kp an;replace hki:=hki.kp an az rfl;replace aa:=aa.kp an az;exact ⟨_,hki,⟨rfl,⟨false,hm,aa,aw⟩⟩,hrec,hmk⟩
  refine X7 ?_;exact ⟨_,hki,⟨ac,hm,aa,ab⟩,hrec,hmk⟩
 ·intro bj ad ae hJ hmk;obtain ⟨ac,hm,aa,ab⟩:=hJ;rw [Zcf.eq_1] at hm;refine go ?_;refine Wy (v:=(.bool true)) ab sizeOf4 rfl rfl (by intro u hu;simp only [Value.cells,List.mem_cons,List.not_mem_nil,or_false] at hu;subst hu;rfl) rfl rfl ?_;intro bk a1 bm al;replace al:Zh 4 1 ad bk ai #[.bool true]:=al;refine go ?_;cases hm;replace hmk:=hmk.kp a1;refine ⟨_,(bj :: []),rfl,hmk,?_⟩;intro ce a2 bn;replace aa:=(aa.kp a1 bm).kp a2 bn;replace al:=al.kp a2;exact ⟨_,Zhr rfl rfl isAgg4 rfl al.at1,rfl,aa.below⟩
 intro c_ bo ad ae hX hmk;obtain ⟨rfl,hX⟩:=hX;obtain ⟨ac,hm,aa,ab⟩:=hX;rw [Zlz.eq_1] at hm;refine W0 ?_;cases hm;refine ⟨_,(bo :: []),rfl,hmk,?_⟩;intro cf a3 bp;replace ab:=ab.kp a3;replace aa:=aa.kp a3 bp;exact ⟨_,Zhr rfl rfl isAgg4 rfl ab.at1,rfl,aa.below⟩
def Zed (aa:Bool):Option Bool:=
  some aa
def Zec (N:Nat) (aa:R1):Option Bool:=
  (Qv N ((aa.1.1,aa.1.2),aa.2)).bind fun ac=>if (decide (ac<0))=true then (Zed true) else ((Zcd N).bind fun ab=>(S7 N ((aa.1.1,aa.1.2),aa.2) ((ab.1.1,ab.1.2),ab.2)).bind fun ad=>Zed (decide (0<ad)))
theorem Zvo {N al am:Nat} {an ao:Option Addr} {col:Zd} {w0:World} {ac:R1} {r:Bool} (hm:Zec N ac=some r) (ah:Sl (Za.int .u32) col w0 an al ac.1.2) (ai:Sl (Za.int .u32) col w0 ao am ac.2):
    Calls Tryz.prog 179 #[(.agg #[.bool ac.1.1,.slice an ac.1.2.length al,.slice ao ac.2.length am])] w0 (fun e w'=>e= .returned ((.bool r))∧Below w0.heap.size w0 w'):=by
 refine Xc 2 (m:=12) func179 rfl rfl rfl rfl rfl ?_;rw [Zec.eq_1] at hm;have aa:=St.start col w0;refine go ?_;refine X6 (col:=(Zi col)) 1 rfl ?_;intro a6 a7 ab ay aj;refine lAB rfl<|Zl<|Zu ?_;replace ah:=ah.keep (Zk.start col w0);replace ai:=ai.keep (Zk.start col w0);replace aa:=aa.grow ay;refine Wp.cutK [1000000] (fun f av=>∃ aw ap,Zed ap=some r∧St w0 (Zi col) aw av∧[2].map f=[.bool ap]) ?_ ?_
 ·intro f av hJ;obtain ⟨aw,ap,hm,aa,hs⟩:=hJ;rw [Zed.eq_1] at hm;refine .lL [2] hs<|W0 ?_;cases hm;exact ⟨rfl,rfl,aa.below⟩
 refine Wi (col:=ab) [(0,0),(1,3),(2,1),(3,1),(4,0),(5,3),(6,3),(7,1),(8,1),(9,1)] (by kernel_rfl) (by kernel_rfl)<|xv rfl rfl (fun _ hC=>Xi isAgg47 sizeOf47 (aj.gr (hC.bl ab))) ?_;refine xe rfl rfl ?_;intro az hC0;have hC:=hC0.bl ab;obtain ⟨ae,a0,hm⟩:=bZ hm;replace aa:=aa.grow hC;refine Zg (Zks a0 (ah.ks aa) (ai.ks aa)) ?_;rintro _ a1 ⟨rfl,ag⟩;refine ⟨_,rfl,?_⟩;replace ag:Zf ab az ab a1:=.of_below ag;refine Zl<|X3 ab hC0 ag<|xu rfl rfl (fun _=>Zmx _ _ rfl rfl) ?_;refine xu rfl rfl (fun _=>Zhm rfl) ?_;replace aj:=(aj.gr hC).gr ag;replace aa:=aa.grow ag;refine X5 hm (fun ad hm=>?_) fun ad hm=>?_
 ·refine Ul (b:=decide (ae<0)) 6 rfl rfl rfl rfl rfl (by rw [ad];rfl)<|Ul (b:=decide (ae<0)) 6 rfl rfl rfl rfl rfl (by rw [ad];rfl)<|Ul (b:=decide (ae<0)) 6 rfl rfl rfl rfl rfl (by rw [ad];rfl)<|Ul (b:=decide (ae<0)) 6 rfl rfl rfl rfl rfl (by rw [ad];rfl)<|xu (v:=(.bool true)) rfl rfl (fun _=>Xq (congrArg Value.bool ad) rfl) ?_;refine xu rfl rfl (fun _=>Zsg rfl) ?_;refine Y5 ?_;intro a8 hC;replace hC:=hC.bl ab;replace aa:=aa.grow hC;exact ⟨rfl,_,_,hm,aa,rfl⟩
 refine Zkj (v:=(.agg #[.bool ac.1.1,.slice an ac.1.2.length al,.slice ao ac.2.length am])) (b:=decide (ae<0)) 6 rfl rfl rfl rfl rfl (by rw [ad];rfl) (fun _ hC=>Wv isAgg47 sizeOf47 rfl rfl (aj.atN.gr (hC.bl ab))) ?_;refine xe rfl rfl ?_;intro a9 hC0;have hC:=hC0.bl ab;refine go ?_;obtain ⟨ba,a2,hm⟩:=bZ hm;refine lc rfl rfl (Zbp call182) (Zkx (col:=ab) 6 7 a2:) ?_;rintro _ bb ⟨af,bc,bd,be,bf,rfl,ax,aq,ar⟩;refine ⟨_,rfl,?_⟩;refine Zl<|X3 af hC0 ax<|xe rfl rfl ?_;intro a3 hC0;replace aa:=(aa.grow hC).grow ax;have hC:=hC0.bl af;refine go ?_;obtain ⟨au,a4,hm⟩:=bZ hm;replace aq:=aq.gr hC;replace ar:=ar.gr hC;replace aa:=aa.grow hC;refine Zg (Zic a4 (((ah.ks aa).froz 6).froz 7) (((ai.ks aa).froz 6).froz 7) ((aq.toSlF (Zj.int .u32)).froz 7) ((ar.froz 6 (by decide)).toSlF (Zj.int .u32))) ?_;rintro _ a5 ⟨rfl,ak⟩;refine ⟨_,rfl,?_⟩;replace ak:Zf af a3 af a5:=.of_below ak;refine Zl<|X3 af hC0 ak<|Znh (v:=(.bool (decide (0<au)))) (b:=decide (ae<0)) 6 rfl rfl rfl rfl rfl (by rw [ad];rfl) (fun _=>Zmw au 0 rfl rfl) ?_;refine xu (v:=(.bool (decide (0<au)))) rfl rfl (fun _=>Xk (congrArg Value.bool ad) rfl) ?_;refine xu rfl rfl (fun _=>Zsg rfl) ?_;refine Y5 ?_;intro bg hC;replace hC:=hC.bl af;replace aa:=(aa.grow ak).grow hC;exact ⟨rfl,_,_,hm,aa,rfl⟩
def Zcz (N:Nat):List R1→Nat→Option Int
  | [],aa=>some (-1)
  | ab :: ac,aa=>(Zec N ((ab.1.1,ab.1.2),ab.2)).bind fun ad=>if ad=true then (some (aa:Int)) else ((Zcz N ac) (aa+1))
termination_by structural x=>x
def Zjs (N:Nat) (aa:R7):Option Int:=
  Zcz N aa 0
theorem Zwj {N aj:Nat} {a0:Option Addr} {col:Zd} {w0:World} {ab:R7} {r:Int} (hm:Zjs N ab=some r) (h0:Sl (Za.pair (Za.pair Za.bool (Za.slice (Za.int .u32))) (Za.slice (Za.int .u32))) col w0 a0 aj ab):
    Calls Tryz.prog 253 #[.slice a0 ab.length aj,(.func (.func 179) #[] #[])] w0 (fun e w'=>e= .returned ((.int .i64 r))∧Below w0.heap.size w0 w'):=by
 refine Xc 4 (m:=19) func253 rfl rfl rfl rfl rfl ?_;rw [Zjs.eq_1] at hm;have aa:=St.start col w0;refine go ?_;refine Z2 [0,1,7,1000000] (fun n f af=>∃ ae ac ad,n=ad.length∧ab.drop ac=ad∧Zcz N ad ac=some r∧St w0 (Zi col) ae af∧[8].map f=[.int .i64 ac]) ab.length ⟨_,0,_,rfl,rfl,hm,aa,rfl⟩ ?_;clear hm;intro n f af hI;obtain ⟨ae,ac,ad,hn,hl,hm,aa,hs⟩:=hI;subst hn;refine .lL [8] hs ?_;replace h0:=h0.keep (Zk.start col w0)
 cases ad with
 | nil=>
  have hk:¬ ((ac:Int)<(ab.length:Int)):=by have:=List.drop_eq_nil_iff.1 hl;omega
  have hkb:=decide_eq_false hk;rw [Zcz.eq_1] at hm;refine go ?_;refine Xv (congrArg Value.bool hkb)<|go ?_;cases hm;exact ⟨rfl,rfl,aa.below⟩
 | cons ag ak=>
  obtain ⟨ah,al,am⟩:=Yc hl;have hk:(ac:Int)<(ab.length:Int):=by omega
  have hkb:=decide_eq_true hk;rw [Zcz.eq_2] at hm;refine go ?_;refine Xz (congrArg Value.bool hkb)<|go ?_;refine lM (.func (.func 179) #[] #[])<|go ?_;refine lI ah ((h0.ks aa).addr ah) ?_;obtain ⟨_,an,ao⟩:=(h0.ks aa).atN ah;obtain ⟨_,_,rfl,ap,aq⟩:=Vw an;obtain ⟨_,_,rfl,ar,au⟩:=Vw ap;obtain ⟨rfl,_⟩:=ar;obtain ⟨⟨av,aw,rfl,ax⟩,_⟩:=au;obtain ⟨⟨ay,az,rfl,a1⟩,_⟩:=aq;refine lV (.agg #[.bool ag.1.1,.slice av ag.1.2.length aw,.slice ay ag.2.length az]) (Wv isAgg47 sizeOf47 rfl rfl ao) ?_;obtain ⟨a4,a2,hm⟩:=bZ hm;refine lc rfl rfl (Z0c call179 rfl rfl) (Zvo a2 ax a1:) ?_;rintro _ a3 ⟨rfl,ai⟩;refine ⟨_,rfl,?_⟩;replace ai:Zf ae af ae a3:=.of_below ai;refine Zl ?_;replace aa:=aa.grow ai;refine Zo hm (fun hb hm=>go ?_) fun hb hm=>go ?_
  ·cases hm;exact ⟨rfl,rfl,aa.below⟩
  exact ⟨ak.length,by simp,rfl,⟨_,_,_,rfl,al,hm,aa,(Yg (congrArg (Value.int .i64) (Yf (Nat.lt_of_lt_of_le am (h0.ks aa).1.1))) rfl)⟩⟩
def Zjr (N:Nat) (aa:R7):Option Bool:=
  (Zjs N aa).bind fun ab=>some (decide (0≤ab))
theorem Zwh {N ad:Nat} {a0:Option Addr} {col:Zd} {w0:World} {ab:R7} {r:Bool} (hm:Zjr N ab=some r) (h0:Sl (Za.pair (Za.pair Za.bool (Za.slice (Za.int .u32))) (Za.slice (Za.int .u32))) col w0 a0 ad ab):
    Calls Tryz.prog 177 #[.slice a0 ab.length ad,(.func (.func 179) #[] #[])] w0 (fun e w'=>e= .returned ((.bool r))∧Below w0.heap.size w0 w'):=by
 refine Xc 4 (m:=9) func177 rfl rfl rfl rfl rfl ?_;rw [Zjr.eq_1] at hm;have aa:=St.start col w0;refine go ?_;refine lM (.func (.func 179) #[] #[]) ?_;obtain ⟨ag,ae,hm⟩:=bZ hm;replace h0:=h0.keep (Zk.start col w0);refine Zg (Zwj ae (h0.ks aa)) ?_;rintro _ af ⟨rfl,ac⟩;refine ⟨_,rfl,?_⟩;replace ac:Zf (Zi col) w0 (Zi col) af:=.of_below ac;refine go ?_;cases hm;replace aa:=aa.grow ac;exact ⟨rfl,rfl,aa.below⟩
def Zce (ab:R0):List Int→Int→Option Int
  | [],aa=>some aa
  | ad :: ae,aa=>(Zn ab.2.2.1 ad).bind fun ac=>(Zce ab ae) (if 1099511627776<(i64.wrap (aa * (ac.length:Int))) then 1099511627776 else (i64.wrap (aa * (ac.length:Int))))
termination_by structural x=>x
def Zee (aa:R0) (ab:Int):Option Int:=
  (Zn aa.2.2.2.1 ab).bind fun ac=>Zce aa ac 1
theorem Zvp {am an ao ap:Nat} {aq ar au av:Option Addr} {col:Zd} {w0:World} {aa:R0} {a0 r:Int} (hm:Zee aa a0=some r) (bc:Sl Za.str col w0 aq am aa.2.1) (ai:Sl (Za.slice Za.str) col w0 ar an aa.2.2.1) (aj:Sl (Za.slice (Za.int .i64)) col w0 au ao aa.2.2.2.1) (bd:Sl (Za.slice (Za.pair (Za.pair Za.bool (Za.slice (Za.int .u32))) (Za.slice (Za.int .u32)))) col w0 av ap aa.2.2.2.2):
    Calls Tryz.prog 176 #[(.agg #[.string aa.1,.slice aq aa.2.1.length am,.slice ar aa.2.2.1.length an,.slice au aa.2.2.2.1.length ao,.slice av aa.2.2.2.2.length ap]),.int .i64 a0] w0 (fun e w'=>e= .returned ((.int .i64 r))∧Below w0.heap.size w0 w'):=by
 refine Xc 4 (m:=29) func176 rfl rfl rfl rfl rfl ?_;rw [Zee.eq_1] at hm;have ab:=St.start col w0;refine go ?_;refine X6 (col:=(Zi col)) 1 rfl ?_;intro a1 be bf a2 ae;refine go ?_;refine Xu ae<|X9 rfl ?_;obtain ⟨af,aw,hm⟩:=bZ hm;replace aj:=aj.keep (Zk.start col w0);replace ab:=ab.grow a2;refine lI aw ((aj.ks ab).addr aw) ?_;obtain ⟨_,a3,a4⟩:=(aj.ks ab).atN aw;obtain ⟨⟨a5,a6,rfl,ac⟩,_⟩:=a3;refine lW a4.one<|go ?_;refine Z2 [12,13,2,1000000] (fun n f ak=>∃ al ag ad ah,n=ah.length∧af.drop ag=ah∧Zce aa ah ad=some r∧St w0 (Zi col) al ak∧Sl (Za.int .i64) al ak a5 a6 af∧Zh 27 1 al ak a1 #[.string aa.1,.slice aq aa.2.1.length am,.slice ar aa.2.2.1.length an,.slice au aa.2.2.2.1.length ao,.slice av aa.2.2.2.2.length ap]∧[14,5].map f=[.int .i64 ag,.int .i64 ad]) af.length ⟨_,0,1,_,rfl,rfl,hm,ab,ac,ae,rfl⟩ ?_;clear hm;intro n f ak hI;obtain ⟨al,ag,ad,ah,hn,hl,hm,ab,ac,ae,hs⟩:=hI;subst hn;refine .lL [14,5] hs ?_;replace ai:=ai.keep (Zk.start col w0)
 cases ah with
 | nil=>
  have hk:¬ ((ag:Int)<(af.length:Int)):=by have:=List.drop_eq_nil_iff.1 hl;omega
  have hkb:=decide_eq_false hk;rw [Zce.eq_1] at hm;refine go ?_;refine Xv (congrArg Value.bool hkb)<|go ?_;cases hm;exact ⟨rfl,rfl,ab.below⟩
 | cons bg a7=>
  obtain ⟨ax,a8,a9⟩:=Yc hl;have hk:(ag:Int)<(af.length:Int):=by omega
  have hkb:=decide_eq_true hk;rw [Zce.eq_2] at hm;refine go ?_;refine Xz (congrArg Value.bool hkb)<|go ?_;refine lI ax (ac.addr ax)<|lW (ac.atInt ax) ?_;refine go ?_;refine Xu ae<|X9 rfl ?_;obtain ⟨ay,az,hm⟩:=bZ hm;refine lI az ((ai.ks ab).addr az) ?_;obtain ⟨_,ba,bb⟩:=(ai.ks ab).atN az;obtain ⟨⟨bh,bi,rfl,bj⟩,_⟩:=ba;refine lW bb.one<|go ?_;refine lV (.int .i64 (if 1099511627776<(i64.wrap (ad * (ay.length:Int))) then 1099511627776 else (i64.wrap (ad * (ay.length:Int))))) (Zmy (i64.wrap (ad * (ay.length:Int))) 1099511627776 rfl rfl)<|go ?_;exact ⟨a7.length,by simp,rfl,⟨_,_,_,_,rfl,a8,hm,ab,ac,ae,(Yg (congrArg (Value.int .i64) (Yf (Nat.lt_of_lt_of_le a9 ac.1.1))) rfl)⟩⟩
def Za3 (N:Nat) (ab:R0):List R7→Nat→Option Int
  | [],aa=>some 0
  | ac :: ad,aa=>(Zn ab.2.2.1 (aa:Int)).bind fun ae=>(Zea N ac).bind fun af=>(Zge N af (ae.length:Int)).bind fun ag=>if (!ag)=true then (some 46) else ((Za3 N ab ad) (aa+1))
termination_by structural x=>x
def Q4 (N:Nat) (aa:R0):List R7→Option Int
  | []=>Za3 N aa aa.2.2.2.2 0
  | ab :: ac=>(Zea N ab).bind fun ad=>(Zjr N ad).bind fun ae=>if ae=true then (some 45) else (Q4 N aa ac)
termination_by structural x=>x
def Q3 (N:Nat) (aa:R0):List R7→Nat→Option Int
  | [],ab=>Q4 N aa aa.2.2.2.2
  | ae :: af,ab=>(Zee (aa.1,aa.2.1,aa.2.2.1,aa.2.2.2.1,aa.2.2.2.2) (ab:Int)).bind fun ac=>(Zn aa.2.2.1 (ab:Int)).bind fun ad=>if (decide (65536<(i64.wrap (ac * (ad.length:Int)))))=true then (some 4) else (if (!decide ((i64.wrap (ac * (ad.length:Int)))=(ae.length:Int)))=true then (some 60) else ((Q3 N aa af) (ab+1)))
termination_by structural x=>x
def Qa (N:Nat) (aa:R0) (ad:Bool):Option Int:=
  if ad=true then (some 60) else (if (decide (1024<(aa.2.1.length:Int)))=true then (some 4) else ((Zcc (aa.1,aa.2.1,aa.2.2.1,aa.2.2.2.1,aa.2.2.2.2)).bind fun ab=>if (!decide (ab=0))=true then (some ab) else ((T9 N aa.2.2.2.1).bind fun ac=>if (!decide (ac=0))=true then (some ac) else (Q3 N aa aa.2.2.2.2 0))))
def Ur (N:Nat) (aa:R0):Option Int:=
  if (!decide ((aa.2.2.1.length:Int)=(aa.2.1.length:Int)))=true then (Qa N aa true) else (if (!decide ((aa.2.2.2.1.length:Int)=(aa.2.1.length:Int)))=true then (Qa N aa true) else (Qa N aa (!decide ((aa.2.2.2.2.length:Int)=(aa.2.1.length:Int)))))
theorem Zkw {N aj ak al am:Nat} {an ao ap aq:Option Addr} {col:Zd} {w0:World} {ab:R0} {r:Int} (hm:Ur N ab=some r) (a2:Sl Za.str col w0 an aj ab.2.1) (ag:Sl (Za.slice Za.str) col w0 ao ak ab.2.2.1) (aw:Sl (Za.slice (Za.int .i64)) col w0 ap al ab.2.2.2.1) (ad:Sl (Za.slice (Za.pair (Za.pair Za.bool (Za.slice (Za.int .u32))) (Za.slice (Za.int .u32)))) col w0 aq am ab.2.2.2.2):
    Calls Tryz.prog 67 #[(.agg #[.string ab.1,.slice an ab.2.1.length aj,.slice ao ab.2.2.1.length ak,.slice ap ab.2.2.2.1.length al,.slice aq ab.2.2.2.2.length am])] w0 (fun e w'=>e= .returned ((.int .i64 r))∧Below w0.heap.size w0 w'):=by
 refine Xc 2 (m:=103) func67 rfl rfl rfl rfl rfl ?_;rw [Ur.eq_1] at hm;have aa:=St.start col w0;refine go ?_;refine X6 (col:=(Zi col)) 1 rfl ?_;intro a3 cp cq bo ac;refine go ?_;refine Xu ac<|lV _ (Zaj underlying22 rfl)<|Yk rfl<|Zl<|Zu<|Zu ?_;replace a2:=a2.keep (Zk.start col w0);replace ag:=ag.keep (Zk.start col w0);replace aw:=aw.keep (Zk.start col w0);replace ad:=ad.keep (Zk.start col w0);replace aa:=aa.grow bo;refine Wp.cutK [1,3,1000000] (fun f a4=>∃ ah a9,Qa N ab a9=some r∧St w0 (Zi col) ah a4∧Zh 27 1 ah a4 a3 #[.string ab.1,.slice an ab.2.1.length aj,.slice ao ab.2.2.1.length ak,.slice ap ab.2.2.2.1.length al,.slice aq ab.2.2.2.2.length am]∧[34].map f=[.bool a9]) ?_ ?_
 ·intro f a4 hJ;obtain ⟨ah,a9,hm,aa,ac,hs⟩:=hJ;rw [Qa.eq_1] at hm;refine .lL [34] hs ?_;refine Zo hm (fun hb hm=>go ?_) fun hb hm=>go ?_
  ·cases hm;exact ⟨rfl,rfl,aa.below⟩
  refine Zo hm (fun hb hm=>go ?_) fun hb hm=>go ?_
  ·cases hm;exact ⟨rfl,rfl,aa.below⟩
  refine lV _ (Xi isAgg27 sizeOf27 ac) ?_;obtain ⟨cr,bp,hm⟩:=bZ hm;refine Zg (Zvn bp (a2.ks aa) (ag.ks aa) (aw.ks aa) (ad.ks aa)) ?_;rintro _ bk ⟨rfl,a5⟩;refine ⟨_,rfl,?_⟩;replace a5:Zf ah a4 ah bk:=.of_below a5;refine go ?_;replace ac:=ac.gr a5;replace aa:=aa.grow a5;refine Zo hm (fun hb hm=>go ?_) fun hb hm=>go ?_
  ·cases hm;exact ⟨rfl,rfl,aa.below⟩
  refine Xu ac ?_;obtain ⟨cs,bq,hm⟩:=bZ hm;refine Zg (Zu3 bq (aw.ks aa)) ?_;rintro _ br ⟨rfl,a6⟩;refine ⟨_,rfl,?_⟩;replace a6:Zf ah bk ah br:=.of_below a6;refine go ?_;replace ac:=ac.gr a6;replace aa:=aa.grow a6;refine Zo hm (fun hb hm=>go ?_) fun hb hm=>go ?_
  ·cases hm;exact ⟨rfl,rfl,aa.below⟩
  refine Xu ac ?_;refine go ?_;refine Z2 [1,49,50,1000000] (fun n f ba=>∃ ae ar ax,n=ax.length∧ab.2.2.2.2.drop ar=ax∧Q3 N ab ax ar=some r∧St w0 (Zi col) ae ba∧Zh 27 1 ae ba a3 #[.string ab.1,.slice an ab.2.1.length aj,.slice ao ab.2.2.1.length ak,.slice ap ab.2.2.2.1.length al,.slice aq ab.2.2.2.2.length am]∧[51].map f=[.int .i64 ar]) ab.2.2.2.2.length ⟨_,0,_,rfl,rfl,hm,aa,ac,rfl⟩ ?_;clear hm;intro n f ba hI;obtain ⟨ae,ar,ax,hn,hl,hm,aa,ac,hs⟩:=hI;subst hn;refine .lL [51] hs ?_
  cases ax with
  | nil=>
   have hk:¬ ((ar:Int)<(ab.2.2.2.2.length:Int)):=by have:=List.drop_eq_nil_iff.1 hl;omega
   have hkb:=decide_eq_false hk;rw [Q3.eq_1] at hm;refine go ?_;refine Xv (congrArg Value.bool hkb)<|go ?_;refine Xu ac ?_;refine go ?_;refine Z2 [1,74,75,1000000] (fun n f bb=>∃ bc ay az,n=az.length∧ab.2.2.2.2.drop ay=az∧Q4 N ab az=some r∧St w0 (Zi col) bc bb∧Zh 27 1 bc bb a3 #[.string ab.1,.slice an ab.2.1.length aj,.slice ao ab.2.2.1.length ak,.slice ap ab.2.2.2.1.length al,.slice aq ab.2.2.2.2.length am]∧[76].map f=[.int .i64 ay]) ab.2.2.2.2.length ⟨_,0,_,rfl,rfl,hm,aa,ac,rfl⟩ ?_;clear hm;intro n f bb hI;obtain ⟨bc,ay,az,hn,hl,hm,aa,ac,hs⟩:=hI;subst hn;refine .lL [76] hs ?_
   cases az with
   | nil=>
    have hk:¬ ((ay:Int)<(ab.2.2.2.2.length:Int)):=by have:=List.drop_eq_nil_iff.1 hl;omega
    have hkb:=decide_eq_false hk;rw [Q4.eq_1] at hm;refine go ?_;refine Xv (congrArg Value.bool hkb)<|go ?_;refine Xu ac ?_;refine go ?_;refine Z2 [1,85,86,1000000] (fun n f bd=>∃ ai au a0,n=a0.length∧ab.2.2.2.2.drop au=a0∧Za3 N ab a0 au=some r∧St w0 (Zi col) ai bd∧Zh 27 1 ai bd a3 #[.string ab.1,.slice an ab.2.1.length aj,.slice ao ab.2.2.1.length ak,.slice ap ab.2.2.2.1.length al,.slice aq ab.2.2.2.2.length am]∧[87].map f=[.int .i64 au]) ab.2.2.2.2.length ⟨_,0,_,rfl,rfl,hm,aa,ac,rfl⟩ ?_;clear hm;intro n f bd hI;obtain ⟨ai,au,a0,hn,hl,hm,aa,ac,hs⟩:=hI;subst hn;refine .lL [87] hs ?_
    cases a0 with
    | nil=>
     have hk:¬ ((au:Int)<(ab.2.2.2.2.length:Int)):=by have:=List.drop_eq_nil_iff.1 hl;omega
     have hkb:=decide_eq_false hk;rw [Za3.eq_1] at hm;refine go ?_;refine Xv (congrArg Value.bool hkb)<|go ?_;cases hm;exact ⟨rfl,rfl,aa.below⟩
    | cons ct bs=>
     obtain ⟨af,bt,bu⟩:=Yc hl;have hk:(au:Int)<(ab.2.2.2.2.length:Int):=by omega
     have hkb:=decide_eq_true hk;rw [Za3.eq_2] at hm;refine go ?_;refine Xz (congrArg Value.bool hkb)<|go ?_;refine lI af ((ad.ks aa).addr af) ?_;obtain ⟨_,bv,bw⟩:=(ad.ks aa).atN af;obtain ⟨⟨cu,cv,rfl,be⟩,_⟩:=bv;refine lW bw.one<|go ?_;refine Wi (col:=ai) [(0,1),(2,1),(3,0),(4,1),(5,1),(6,0),(7,1),(1,3),(8,3),(9,1)] (by kernel_rfl) (by kernel_rfl)<|xu rfl rfl (fun _=>Ve rfl) ?_;refine xF ⟨_,_,rfl⟩ ?_;refine xW (fun _ hC=>((ac.atN).nth (q:=2) rfl).gr (hC.bl ai)) ?_;refine xu rfl rfl (fun _=>Y4 rfl) ?_;obtain ⟨cw,a7,hm⟩:=bZ hm;refine xu rfl rfl (fun _=>Y3 underlying23 sizeOf22 rfl rfl (Xg a7).1 (Xg a7).2.1 ((ag.ks aa).addr a7)) ?_;obtain ⟨_,bx,bz⟩:=(ag.ks aa).atN a7;obtain ⟨⟨cx,cy,rfl,cz⟩,_⟩:=bx;refine xW (fun _ hC=>bz.one.gr (hC.bl ai)) ?_;refine xu rfl rfl (fun _=>Zaj underlying22 rfl) ?_;refine xe rfl rfl ?_;intro c0 hC0;have hC:=hC0.bl ai;obtain ⟨c1,b0,hm⟩:=bZ hm;replace be:=be.gr hC;refine Zg (Zn0 2 b0 be) ?_;rintro _ c2 ⟨av,c3,c4,rfl,bf,bg⟩;refine ⟨_,rfl,?_⟩;refine Zl<|X3 av hC0 bf<|xe rfl rfl ?_;intro b1 hC0;replace ac:=(ac.gr hC).gr bf;replace aa:=(aa.grow hC).grow bf;have hC:=hC0.bl av;obtain ⟨c5,b2,hm⟩:=bZ hm;replace bg:=bg.gr hC;refine Zg (Zvr b2 (bg.toSlF (Zj.pair (Zj.pair Zj.bool Zj.slice) Zj.slice))) ?_;rintro _ b3 ⟨rfl,a1⟩;refine ⟨_,rfl,?_⟩;replace a1:Zf av b1 av b3:=.of_below a1;refine Zl<|X3 av hC0 a1<|xu rfl rfl (fun _=>Zho _ rfl) ?_;refine Y5 ?_;replace ac:=(ac.gr hC).gr a1;replace aa:=(aa.grow hC).grow a1;intro c6 hC;replace hC:=hC.bl av;replace ac:=ac.gr hC;replace aa:=aa.grow hC;refine Zo hm (fun hb hm=>go ?_) fun hb hm=>go ?_
     ·cases hm;exact ⟨rfl,rfl,aa.below⟩
     exact ⟨bs.length,by simp,rfl,⟨_,_,_,rfl,bt,hm,aa,ac,(Yg (congrArg (Value.int .i64) (Yf (Nat.lt_of_lt_of_le bu (ad.ks aa).1.1))) rfl)⟩⟩
   | cons c7 b4=>
    obtain ⟨af,b5,b6⟩:=Yc hl;have hk:(ay:Int)<(ab.2.2.2.2.length:Int):=by omega
    have hkb:=decide_eq_true hk;rw [Q4.eq_2] at hm;refine go ?_;refine Xz (congrArg Value.bool hkb)<|go ?_;refine lI af ((ad.ks aa).addr af) ?_;obtain ⟨_,b7,b8⟩:=(ad.ks aa).atN af;obtain ⟨⟨c8,c9,rfl,b9⟩,_⟩:=b7;refine lW b8.one<|go ?_;obtain ⟨da,ca,hm⟩:=bZ hm;refine Zg (Zn0 3 ca b9) ?_;rintro _ cb ⟨bm,db,dc,rfl,bn,cc⟩;refine ⟨_,rfl,?_⟩;obtain ⟨dd,cd,hm⟩:=bZ hm;refine Zg (Zwh cd (cc.toSlF (Zj.pair (Zj.pair Zj.bool Zj.slice) Zj.slice))) ?_;rintro _ ce ⟨rfl,a8⟩;refine ⟨_,rfl,?_⟩;replace a8:Zf bm cb bm ce:=.of_below a8;refine Zl ?_;replace ac:=(ac.gr bn).gr a8;replace aa:=(aa.grow bn).grow a8;refine Zo hm (fun hb hm=>go ?_) fun hb hm=>go ?_
    ·cases hm;exact ⟨rfl,rfl,aa.below⟩
    exact ⟨b4.length,by simp,rfl,⟨_,_,_,rfl,b5,hm,aa,ac,(Yg (congrArg (Value.int .i64) (Yf (Nat.lt_of_lt_of_le b6 (ad.ks aa).1.1))) rfl)⟩⟩
  | cons de cf=>
   obtain ⟨af,cg,ch⟩:=Yc hl;have hk:(ar:Int)<(ab.2.2.2.2.length:Int):=by omega
   have hkb:=decide_eq_true hk;rw [Q3.eq_2] at hm;refine go ?_;refine Xz (congrArg Value.bool hkb)<|go ?_;refine lI af ((ad.ks aa).addr af) ?_;obtain ⟨_,ci,cj⟩:=(ad.ks aa).atN af;obtain ⟨⟨df,dg,rfl,dh⟩,_⟩:=ci;refine lW cj.one<|go ?_;refine Uk (col:=ae) (by kernel_rfl) (by kernel_rfl)<|qv rfl (fun _ hC=>Xi isAgg27 sizeOf27 (ac.gr (hC.bl ae))) ?_;refine go ?_;obtain ⟨ck,cl,hm⟩:=bZ hm;refine qc (v:=(.int .i64 ck)) rfl (fun _ hC=>⟨_,_,Zsi call176 rfl rfl,(Zvp cl ((a2.ks aa).gr (hC.bl ae)) ((ag.ks aa).gr (hC.bl ae)) ((aw.ks aa).gr (hC.bl ae)) ((ad.ks aa).gr (hC.bl ae)):).mono fun _ _ h=>⟨h.1,hC.trans (.of_below h.2)⟩⟩) ?_;refine qF ⟨_,_,rfl⟩ ?_;refine qW (fun _ hC=>((ac.atN).nth (q:=2) rfl).gr (hC.bl ae)) ?_;refine go ?_;obtain ⟨di,bh,hm⟩:=bZ hm;refine qI bh ((ag.ks aa).addr bh) ?_;obtain ⟨_,cn,co⟩:=(ag.ks aa).atN bh;obtain ⟨⟨dj,dk,rfl,dl⟩,_⟩:=cn;refine qW (fun _ hC=>co.one.gr (hC.bl ae)) ?_;refine go ?_;refine Wt ?_;intro dm hC;replace hC:=hC.bl ae;refine go ?_;replace ac:=ac.gr hC;replace aa:=aa.grow hC;refine Zo hm (fun hb hm=>go ?_) fun hb hm=>go ?_
   ·cases hm;exact ⟨rfl,rfl,aa.below⟩
   refine Zo hm (fun hb hm=>go ?_) fun hb hm=>go ?_
   ·cases hm;exact ⟨rfl,rfl,aa.below⟩
   exact ⟨cf.length,by simp,rfl,⟨_,_,_,rfl,cg,hm,aa,ac,(Yg (congrArg (Value.int .i64) (Yf (Nat.lt_of_lt_of_le ch (ad.ks aa).1.1))) rfl)⟩⟩
 refine Wn<|Xu ac ?_;refine go ?_;refine X5 hm (fun bi hm=>go ?_) fun bi hm=>go ?_
 ·refine lV (.bool true) (Xq (congrArg Value.bool bi) rfl)<|Y0 rfl<|lP 28 rfl rfl<|lP 28 rfl rfl<|lP 28 rfl rfl<|lP 28 rfl rfl<|lP 28 rfl rfl<|lV (.bool true) (Xq rfl rfl)<|Zl ?_;exact ⟨rfl,_,_,hm,aa,ac,rfl⟩
 refine Wg ⟨_,_,rfl⟩ ?_;refine go ?_;refine lW ((ac.atN).nth (q:=3) rfl)<|go ?_;refine lV (.bool (!decide ((ab.2.2.2.1.length:Int)=(ab.2.1.length:Int)))) (Xk (congrArg Value.bool bi) rfl)<|Y0 rfl ?_;refine X5 hm (fun bj hm=>go ?_) fun bj hm=>go ?_
 ·refine lV (.bool true) (Xq (congrArg Value.bool bj) rfl)<|Zl ?_;exact ⟨rfl,_,_,hm,aa,ac,rfl⟩
 refine Wg ⟨_,_,rfl⟩ ?_;refine go ?_;refine lW ((ac.atN).nth (q:=4) rfl)<|go ?_;refine lV (.bool (!decide ((ab.2.2.2.2.length:Int)=(ab.2.1.length:Int)))) (Xk (congrArg Value.bool bj) rfl)<|Zl ?_;exact ⟨rfl,_,_,hm,aa,ac,rfl⟩
abbrev Zz:=ByteArray×List ByteArray×List R4×List R2×List (List QV)
instance decMemB:∀ (s:ByteArray) (l:List ByteArray),Decidable (s ∈ l)
 | _,[]=>isFalse (by simp)
 | s,x :: l=>if h:s=x then isTrue (by rw [h];exact List.mem_cons_self) else match decMemB s l with
  | isTrue h2=>isTrue (List.mem_cons_of_mem _ h2)
  | isFalse h2=>isFalse (by rw [List.mem_cons];rintro (h3 | h3) <;> contradiction)
theorem Zpu (s:ByteArray):∀ (l:List ByteArray) (k:Nat),∃ j:Int,Zc0 s l k=some j∧(0≤j↔s ∈ l)
 | [],k=>⟨-1,rfl,by simp⟩
 | x :: l,k=>by
  rw [Zc0.eq_2]
  by_cases h:s=x
  ·rw [if_pos (decide_eq_true h)];exact ⟨_,rfl,by simp [h]⟩
  ·rw [if_neg (by rw [decide_eq_false h];decide)]
   obtain ⟨j,h1,h2⟩:=Zpu s l (k+1)
   exact ⟨j,h1,by rw [h2,List.mem_cons];simp [h]⟩
theorem Zw0 (s:ByteArray) (l:List ByteArray):Zg8 l s=some (decide (s ∈ l)):=by
 obtain ⟨j,h1,h2⟩:=Zpu s l 0
 rw [Zg8,Zjt,h1,Option.bind_some]
 congr 1
 exact decide_eq_decide.2 h2
theorem Zq4:∀ (l:List ByteArray) (seen:List (ByteArray×Int)) (S:List ByteArray),S.Nodup→(∀ k,Y7 seen k=if k ∈ S then some 1 else none)→Za7 l seen=some (!decide (S++l).Nodup)
 | [],seen,S,h1,h2=>by rw [Za7.eq_1,List.append_nil,decide_eq_true h1];rfl
 | x :: l,seen,S,h1,h2=>by
  rw [Za7.eq_2,h2 x]
  by_cases hx:x ∈ S
  ·rw [if_pos hx,if_pos (by decide),decide_eq_false]
   ·rfl
   intro h
   exact (List.nodup_append.1 h).2.2 x hx x List.mem_cons_self rfl
  ·rw [if_neg hx,if_neg (by decide),Option.bind_some,Zq4 l _ (S++[x]) (by
    rw [List.nodup_append]
    refine ⟨h1,by simp,fun a ha b hb e=>?_⟩
    rw [List.mem_singleton] at hb;subst hb;subst e;exact hx ha) (fun k=>by
    rw [Zqx,h2 k]
    by_cases hk:k=x
    ·subst hk;rw [if_pos rfl,if_pos (by simp)]
    ·rw [if_neg hk]
     by_cases hs:k ∈ S
     ·rw [if_pos hs,if_pos (by simp [hs])]
     ·rw [if_neg hs,if_neg (by simp [hs,hk])])]
   rw [List.append_assoc];rfl
theorem Zy9 (l:List ByteArray):Zgd l=some (!decide l.Nodup):=by
 rw [Zgd,Zq4 l [] [] .nil (fun k=>by simp [Y7]),List.nil_append]
def Qg (names:List ByteArray) (vals:List R4):Nat→Nat→Int
 | 0,_=>0
 | m+1,v=>if names.getD v ⟨#[]⟩ ∈ names.take v∨¬ (vals.getD v []).Nodup then 40 else if vals.getD v []=[] then 43 else Qg names vals m (v+1)
theorem Zq9 (n:Zz) (hl:n.2.2.1.length=n.2.1.length):∀ (l:List ByteArray) (k:Nat),n.2.1.drop k=l→k≤n.2.1.length→Q5 n l k=some (Qg n.2.1 n.2.2.1 l.length k)
 | [],k,_,_=>rfl
 | x :: l,k,hd,hk=>by
  have hk1:k<n.2.1.length:=by
   rcases Nat.lt_or_ge k n.2.1.length with h | h
   ·exact h
   ·rw [List.drop_eq_nil_of_le h] at hd;cases hd
  have hd2:=List.drop_eq_getElem_cons hk1
  rw [hd] at hd2
  obtain ⟨hx,hl2⟩:=List.cons.inj hd2
  rw [Q5.eq_2,Xd (by omega),Int.toNat_natCast,Zw0,Option.bind_some,List.length_cons,Qg,Yl hk1,← hx,Yl (by omega)]
  by_cases h1:x ∈ n.2.1.take k
  ·rw [if_pos (decide_eq_true h1),Zeb,if_pos rfl,if_pos (.inl h1)]
  ·rw [if_neg (by rw [decide_eq_false h1];decide),Xb (by omega),Option.bind_some,Zy9,Option.bind_some,Zeb]
   by_cases h2:(n.2.2.1[k]'(by omega)).Nodup
   ·rw [decide_eq_true h2,if_neg (by decide),if_neg (by simp [h1,h2]),Xb (by omega),Option.bind_some]
    by_cases h3:n.2.2.1[k]'(by omega)=[]
    ·rw [if_pos (by rw [h3];decide),if_pos h3]
    ·rw [if_neg (by simpa using h3),if_neg h3]
     exact Zq9 n hl l (k+1) hl2.symm (by omega)
   ·rw [decide_eq_false h2,if_pos (by decide),if_pos (.inr h2)]
theorem Zra (n:Zz) (hl:n.2.2.1.length=n.2.1.length):Zcc n=some (Qg n.2.1 n.2.2.1 n.2.1.length 0):=by
 rw [Zcc];exact Zq9 n hl n.2.1 0 (by simp) (by omega)
theorem Zrb {names:List ByteArray} {vals:List R4}:∀ (m v:Nat),Qg names vals m v=0→∀ i,v≤i→i<v+m→vals.getD i []≠[]∧(vals.getD i []).Nodup∧names.getD i ⟨#[]⟩ ∉ names.take i
 | 0,v,_,i,h1,h2=>by omega
 | m+1,v,h,i,h1,h2=>by
  rw [Qg] at h
  by_cases h3:names.getD v ⟨#[]⟩ ∈ names.take v∨¬ (vals.getD v []).Nodup
  ·rw [if_pos h3] at h;cases h
  ·rw [if_neg h3] at h
   by_cases h4:vals.getD v []=[]
   ·rw [if_pos h4] at h;cases h
   ·rw [if_neg h4] at h
    rcases Nat.lt_or_ge v i with h5 | h5
    ·exact Zrb m (v+1) h i (by omega) (by omega)
    ·have:i=v:=by omega
     subst this
     exact ⟨h4,by simpa using (not_or.1 h3).2,(not_or.1 h3).1⟩
def Yy (vals:List R4):List Int→Nat→Nat
 | [],k=>k
 | p :: ps,k=>Yy vals ps (min (k * (vals.getD p.toNat []).length) 1099511627776)
theorem Ztf (vals:List R4):∀ (ps:List Int) (k:Nat),k≤1099511627776→Yy vals ps k≤1099511627776
 | [],k,h=>h
 | p :: ps,k,h=>Ztf vals ps _ (by omega)
theorem Zq7 {a b:Nat} (h:a≤1099511627776) (g:b≤1048576):a * b≤1152921504606846976:=by
 have:=Nat.mul_le_mul h g
 simpa using this
theorem Zq3 (n:Zz) (hb:∀ l ∈ n.2.2.1,l.length≤1048576):∀ (ps:List Int) (k:Nat),k≤1099511627776→(∀ p ∈ ps,0≤p∧p<(n.2.2.1.length:Int))→Zce n ps (k:Int)=some (Yy n.2.2.1 ps k:Int)
 | [],k,_,_=>rfl
 | p :: ps,k,hk,hp=>by
  have h1:=hp p List.mem_cons_self
  have h2:p.toNat<n.2.2.1.length:=by omega
  have h3:=hb _ (List.getElem_mem h2)
  have h4:=Zq7 hk h3
  rw [Zce.eq_2,show p=((p.toNat:Nat):Int) by omega,Xb h2,Option.bind_some,Yy,Int.toNat_natCast,Yl h2,← Int.natCast_mul,Zy (by omega)]
  have ih:=Zq3 n hb ps (min (k * n.2.2.1[p.toNat].length) 1099511627776) (by omega) (fun q hq=>hp q (List.mem_cons_of_mem _ hq))
  rw [← ih]
  congr 1
  by_cases h5:1099511627776<k * n.2.2.1[p.toNat].length
  ·rw [if_pos (by omega),Nat.min_eq_right (by omega)];rfl
  ·rw [if_neg (by omega),Nat.min_eq_left (by omega)]
def U8 (vals:List R4) (P:List R2) (T:List (List QV)):Nat→Nat→Int
 | 0,_=>0
 | m+1,v=>if 65536<Yy vals (P.getD v []) 1 * (vals.getD v []).length then 4 else if Yy vals (P.getD v []) 1 * (vals.getD v []).length≠(T.getD v []).length then 60 else U8 vals P T m (v+1)
structure W6 (n:Zz) (W:Nat):Prop where
 nm:n.2.1.length≤1048575
 vl:∀ l ∈ n.2.2.1,l.length≤1048576
 pn:Zh1 n.2.2.2.1
 tl:∀ t ∈ n.2.2.2.2,t.length≤1048576
 tq:∀ t ∈ n.2.2.2.2,Xx t≤W
 lim:∀ t ∈ n.2.2.2.2,∀ x ∈ t,W5 x
structure Um (n:Zz):Prop where
 v:n.2.2.1.length=n.2.1.length
 p:n.2.2.2.1.length=n.2.1.length
 t:n.2.2.2.2.length=n.2.1.length
 i:Vq n.2.2.2.1.length n.2.2.2.1=true
 ne:∀ l ∈ n.2.2.1,l≠[]
theorem Um.par {n:Zz} (h:Um n) {ps:List Int} (hp:ps ∈ n.2.2.2.1):∀ p ∈ ps,0≤p∧p<(n.2.2.1.length:Int):=by
 have:=Zpw h.i ps hp
 rw [h.p] at this
 rw [h.v];exact this
theorem Zmd {N W:Nat} {n:Zz} (hs:W6 n W) (he:Um n):∀ (l:List (List QV)) (k:Nat),n.2.2.2.2.drop k=l→k≤n.2.1.length→Q3 N n l k=if U8 n.2.2.1 n.2.2.2.1 n.2.2.2.2 l.length k=0 then Q4 N n n.2.2.2.2 else some (U8 n.2.2.1 n.2.2.2.1 n.2.2.2.2 l.length k)
 | [],k,_,_=>by rw [Q3.eq_1];rfl
 | t :: l,k,hd,hk=>by
  have ht:=he.t;have hv:=he.v;have hp:=he.p
  have hk1:k<n.2.2.2.2.length:=by
   rcases Nat.lt_or_ge k n.2.2.2.2.length with h | h
   ·exact h
   ·rw [List.drop_eq_nil_of_le h] at hd;cases hd
  have hd2:=List.drop_eq_getElem_cons hk1
  rw [hd] at hd2
  obtain ⟨hx,hl2⟩:=List.cons.inj hd2
  have kv:k<n.2.2.1.length:=by omega
  have kp:k<n.2.2.2.1.length:=by omega
  have r1:=Ztf n.2.2.1 (n.2.2.2.1[k]) 1 (by omega)
  have c1:=hs.vl _ (List.getElem_mem kv)
  have r2:=Zq7 r1 c1
  have hrow:Zee n (k:Int)=some (Yy n.2.2.1 n.2.2.2.1[k] 1:Int):=by
   rw [Zee,Xb kp,Option.bind_some]
   exact Zq3 n hs.vl _ 1 (by omega) (he.par (List.getElem_mem kp))
  rw [Q3.eq_2]
  have hrow':Zee (n.1,n.2.1,n.2.2.1,n.2.2.2.1,n.2.2.2.2) (k:Int)=some (Yy n.2.2.1 n.2.2.2.1[k] 1:Int):=hrow
  rw [hrow',Option.bind_some,Xb kv,Option.bind_some,← Int.natCast_mul,Zy (by omega),List.length_cons,U8,Yl kp,Yl kv,Yl hk1,← hx]
  generalize Yy n.2.2.1 n.2.2.2.1[k] 1 * n.2.2.1[k].length=rc at *
  by_cases h1:65536<rc
  ·rw [if_pos (decide_eq_true (by omega)),if_pos h1,if_neg (by decide)]
  ·rw [if_neg (by rw [decide_eq_false (by omega)];decide),if_neg h1]
   by_cases h2:rc=t.length
   ·rw [if_neg (by rw [decide_eq_true (by omega)];decide),if_neg (show ¬ rc≠t.length from fun h=>h h2)]
    exact Zmd hs he l (k+1) hl2.symm (by omega)
   ·rw [if_pos (by rw [decide_eq_false (by omega)];decide),if_pos h2,if_neg (by decide)]
def W8 (x:QV):Bool:=decide (Xa x<0)||decide (1<Xa x)
theorem Zzy {a b:Rat}:0<U6 a b↔b<a:=by
 rw [U6]
 by_cases h:a<b
 ·rw [if_pos h]
  constructor
  ·intro h2;omega
  ·intro h2;exact absurd (Rat.le_of_lt h2) (Rat.not_le.2 h)
 ·rw [if_neg h]
  by_cases h2:b<a
  ·simp [h2]
  ·simp [h2]
theorem Zr9 {a b:Rat}:U6 a b=0↔a=b:=by
 rw [U6]
 constructor
 ·intro h
  split at h
  ·cases h
  ·split at h
   ·cases h
   ·rename_i h1 h2
    exact Rat.le_antisymm (Rat.not_lt.1 h2) (Rat.not_lt.1 h1)
 ·rintro rfl
  rw [if_neg Rat.lt_irrefl,if_neg Rat.lt_irrefl]
theorem Zmc {N:Nat} (hr:Xm N 8):Zcd N=some (Z9 1):=by
 rw [Zcd,Zpk (by omega) (by omega) (hr.mono (by omega)),Option.bind_some,if_neg (by decide)]
 have:((1:Int):Rat) / ((1:Int):Rat)=1:=div_one _
 rw [this]
theorem Ztl:RV 1 (Z9 1):=Qj (by rw [Zj5];omega)
theorem Zy8 {N k:Nat} {x:QV} (hx:RV k x) (hr:Xm N (2 * k+16)):Zec N x=some (W8 x):=by
 have h2:Qv N ((x.1.1,x.1.2),x.2)=some (Zbo (Xa x)):=Zpn hx (hr.mono (by omega))
 rw [Zec,h2,Option.bind_some,W8]
 by_cases h:Xa x<0
 ·rw [if_pos (decide_eq_true (Zsf.2 h)),Zed,decide_eq_true h,Bool.true_or]
 ·rw [if_neg (by rw [decide_eq_false (fun h3=>h (Zsf.1 h3))];decide),decide_eq_false h,Bool.false_or,Zmc (hr.mono (by omega)),Option.bind_some,Ziq (a:=((x.1.1,x.1.2),x.2)) (b:=Z9 1) hx Ztl (hr.mono (by omega)),Option.bind_some,Zed,Sk]
  congr 1
  exact decide_eq_decide.2 Zzy
def Wf (x:QV):QV:=if Zb x.2=0 then (x.1,[1]) else x
theorem Zpa {x:QV} (h:W5 x):W5 (Wf x):=by
 rw [Wf];split
 ·exact ⟨h.1,.cons (by decide) .nil⟩
 ·exact h
theorem Zli (x:QV):Xa (Wf x)=Xa x:=by
 rw [Wf];split
 ·rename_i h
  rw [Xa,Xa]
  show mkRat (Zs x.1) (Yr [1])=mkRat (Zs x.1) (Yr x.2)
  rw [Yr,Yr,if_pos h]
  congr 1
 ·rfl
theorem Zxy (x:QV):W8 (Wf x)=W8 x:=by rw [W8,W8,Zli]
theorem Zxx (x:QV):max (Wf x).1.2.length (Wf x).2.length≤max x.1.2.length x.2.length+1:=by
 rw [Wf];split
 ·show max x.1.2.length [(1:Int)].length≤_
  simp only [List.length_singleton];omega
 ·omega
theorem Zms:∀ l:List QV,2 * l.length≤Xx l
 | []=>by simp [Xx]
 | a :: l=>by rw [Xx,List.length_cons];have:=Zms l;omega
theorem Zmr:∀ l:List QV,Xx (l.map Wf)≤Xx l+l.length
 | []=>by simp [Xx]
 | a :: l=>by
  rw [List.map_cons,Xx,Xx,List.length_cons]
  have:=Zmr l;have:=Zxx a;omega
theorem Zsa (a b:List QV):Xx (a++b)=Xx a+Xx b:=by
 induction a with
 | nil=>simp [Xx]
 | cons x a ih=>rw [List.cons_append,Xx,Xx,ih];omega
theorem Zz1 (l:List QV) (k:Nat):Xx (l.take k)≤Xx l:=by
 have:=Zsa (l.take k) (l.drop k)
 rw [List.take_append_drop] at this;omega
theorem Zzz (l:List QV) (k:Nat):Xx (l.drop k)≤Xx l:=by
 have:=Zsa (l.take k) (l.drop k)
 rw [List.take_append_drop] at this;omega
theorem Zz0 {l:List QV} {x:QV} (h:x ∈ l):max x.1.2.length x.2.length≤Xx l:=by
 induction l with
 | nil=>simp at h
 | cons y l ih=>
  rw [Xx]
  rcases List.mem_cons.1 h with rfl | h
  ·omega
  ·have:=ih h;omega
theorem Zpf {N k:Nat} {x:QV} (h:W5 x) (hk:max x.1.2.length x.2.length≤k) (hr:Xm N k):Za5 N x=some (Wf x):=by
 obtain ⟨r1,r2⟩:=hr
 rw [Za5,Zmi h.2 (by omega) (by omega),Option.bind_some,Wf]
 by_cases h0:Zb x.2=0
 ·rw [h0,Wl,if_pos (by decide),if_pos rfl,Zhh (by decide) (by omega),Option.bind_some,Zd9,show (1:Int).toNat=1 from rfl,Sz]
 ·have:=Tk h0
  rw [if_neg (by rw [decide_eq_false (by omega)];decide),if_neg h0,Zd9]
theorem Zpg {N W:Nat} (hr:Xm N W):∀ (l out:List QV),(∀ x ∈ l,W5 x)→Xx l≤W→out.length+l.length≤1048576→Za6 N l out=some (out++l.map Wf)
 | [],out,_,_,_=>by rw [Za6.eq_1];simp
 | x :: l,out,hl,hq,hlen=>by
  rw [Xx] at hq
  rw [List.length_cons] at hlen
  have h1:Za5 N ((x.1.1,x.1.2),x.2)=some (Wf x):=Zpf (x:=x) (hl x List.mem_cons_self) (k:=W) (by omega) hr
  rw [Za6.eq_2,h1,Option.bind_some,Xd (by simp only [List.length_singleton,maxLen];omega),Zpg hr l _ (fun y hy=>hl y (List.mem_cons_of_mem _ hy)) (by omega) (by simp only [List.length_append,List.length_singleton];omega)]
  simp
theorem Zph {N W:Nat} {l:List QV} (hr:Xm N W) (hl:∀ x ∈ l,W5 x) (hq:Xx l≤W) (hlen:l.length≤1048576):Zea N l=some (l.map Wf):=by
 rw [Zea,Xd (by simp only [maxLen];omega),Zpg hr l [] hl hq (by simpa using hlen),List.nil_append]
theorem Zps {N W:Nat} (hr:Xm N (2 * W+16)):∀ (l:List QV) (k:Nat),(∀ x ∈ l,W5 x)→Xx l≤W→∃ j:Int,Zcz N l k=some j∧(0≤j↔l.any W8=true)
 | [],k,_,_=>⟨-1,rfl,by simp⟩
 | x :: l,k,hl,hq=>by
  rw [Xx] at hq
  have hx:=hl x List.mem_cons_self
  have h1:Zec N ((x.1.1,x.1.2),x.2)=some (W8 x):=Zy8 (x:=x) (Zfd hx.1 hx.2) (hr.mono (by omega))
  rw [Zcz.eq_2,h1,Option.bind_some,List.any_cons]
  cases W8 x with
  | true=>rw [if_pos rfl];exact ⟨_,rfl,by simp⟩
  | false=>
   rw [if_neg (by decide)]
   obtain ⟨j,h1,h2⟩:=Zps hr l (k+1) (fun y hy=>hl y (List.mem_cons_of_mem _ hy)) (by omega)
   exact ⟨j,h1,by rw [h2];simp⟩
def Qr (T:List (List QV)):Bool:=T.any fun t=>t.any W8
theorem Zux (l:List QV):(l.map Wf).any W8=l.any W8:=by
 induction l with
 | nil=>rfl
 | cons x l ih=>rw [List.map_cons,List.any_cons,List.any_cons,ih,Zxy]
theorem Zmb {N W:Nat} {n:Zz} (hr:Xm N (4 * W+16)):∀ l:List (List QV),(∀ t ∈ l,t.length≤1048576∧Xx t≤W∧∀ x ∈ t,W5 x)→Q4 N n l=if Qr l=true then some 45 else Za3 N n n.2.2.2.2 0
 | [],_=>by rw [Q4.eq_1];rfl
 | t :: l,h=>by
  obtain ⟨h1,h2,h3⟩:=h t List.mem_cons_self
  have hp:=Zms t
  have hf:=Zmr t
  obtain ⟨j,j1,j2⟩:=Zps (N:=N) (W:=2 * W) (hr.mono (by omega)) (t.map Wf) 0 (fun x hx=>by
   obtain ⟨y,hy,rfl⟩:=List.mem_map.1 hx
   exact Zpa (h3 y hy)) (by omega)
  rw [Q4.eq_2,Zph (W:=W) (hr.mono (by omega)) h3 h2 h1,Option.bind_some,Zjr,Zjs,j1,Option.bind_some,Option.bind_some,Qr,List.any_cons]
  rw [Zux] at j2
  by_cases ho:t.any W8=true
  ·rw [if_pos (decide_eq_true (j2.2 ho)),ho,Bool.true_or,if_pos rfl]
  ·rw [if_neg (by rw [decide_eq_false (fun h=>ho (j2.1 h))];decide),Bool.eq_false_iff.2 ho,Bool.false_or]
   exact Zmb hr l fun x hx=>h x (List.mem_cons_of_mem _ hx)
def Vt (c:Nat):Nat→List QV→Bool
 | 0,_=>true
 | m+1,l=>decide (Y1 (l.take c)=1)&&Vt c m (l.drop c)
def Zfs (c:Nat):Nat→List QV→List (List QV)
 | 0,_=>[]
 | m+1,l=>l.take c :: Zfs c m (l.drop c)
theorem Zol (N:Nat) (l:List QV) (c:Nat) (hc:0<c) (hl:l.length≤1048576) (hcs:c≤1048576):∀ (m fuel i:Nat),i+m * c=l.length→m<fuel→Zbl N l (c:Int) fuel (i:Int)=some (Zfs c m (l.drop i))
 | 0,0,i,_,h=>by omega
 | 0,fuel+1,i,h1,_=>by
  rw [Zbl.eq_2,if_neg (by rw [decide_eq_false (by omega)];decide)];rfl
 | m+1,0,i,_,h=>by omega
 | m+1,fuel+1,i,h1,h2=>by
  have h3:i+c+m * c=l.length:=by rw [Nat.add_mul,Nat.one_mul] at h1;omega
  have e:(if ((l.drop i).length:Int)<(c:Int) then ((l.drop i).length:Int) else (c:Int))=(c:Int):=by
   rw [List.length_drop]
   by_cases h:((l.length - i:Nat):Int)<(c:Int)
   ·omega
   ·rw [if_neg h]
  rw [Zbl.eq_2,if_pos (decide_eq_true (by omega)),Int.toNat_natCast,e,Zy (by omega),Xd (by omega),Xd (by omega),show (i:Int)+(c:Int)=((i+c:Nat):Int) by omega,Zol N l c hc hl hcs m fuel (i+c) (by omega) (by omega),Option.bind_some,Int.toNat_natCast,Zfs,List.drop_take,show i+c - i=c by omega,List.drop_drop]
theorem Zz6 (l:List QV):Y1 (l.map Wf)=Y1 l:=by
 rw [Y1,Y1,List.map_map]
 congr 1
 exact List.map_congr_left fun x _=>Zli x
theorem Zri (c:Nat):∀ (m:Nat) (l:List QV),Vt c m (l.map Wf)=Vt c m l
 | 0,l=>rfl
 | m+1,l=>by rw [Vt,Vt,← List.map_take,← List.map_drop,Zz6,Zri c m]
theorem Zq8 {N W:Nat} (hr:Xm N (4 * W+40)) (c:Nat) (b:Bool):∀ (m:Nat) (l:List QV),(∀ x ∈ l,W5 x)→Xx l≤W→Zcf N (Zfs c m l) b=some (Vt c m l)
 | 0,l,_,_=>rfl
 | m+1,l,hl,hq=>by
  have ht:=Zz1 l c
  have hd:=Zzz l c
  obtain ⟨s1,s2⟩:=Zpp (N:=N) (l:=l.take c) (fun x hx=>hl x (List.mem_of_mem_take hx)) (hr.mono (by omega))
  rw [Zfs,Zcf.eq_2,s1,Option.bind_some,Zmc (hr.mono (by omega)),Option.bind_some,Ziq (a:=Z9 _) (b:=Z9 1) (Qj s2) Ztl (hr.mono (by omega)),Option.bind_some,Sk,Sk,Vt]
  by_cases h:Y1 (l.take c)=1
  ·rw [if_neg (by rw [Zr9.2 h];decide),decide_eq_true h,Bool.true_and]
   exact Zq8 hr c b m _ (fun x hx=>hl x (List.mem_of_mem_drop hx)) (by omega)
  ·rw [if_pos (by rw [decide_eq_false (fun h2=>h (Zr9.1 h2))];decide),decide_eq_false h,Bool.false_and];rfl
theorem Zzb {N W c m:Nat} {l:List QV} (hr:Xm N (4 * W+40)) (hl:∀ x ∈ l,W5 x) (hq:Xx l≤W) (hc:0<c) (hcs:c≤1048576) (hll:l.length≤1048576) (hm:m * c=l.length) (hN:1048577<N):Zge N l (c:Int)=some (Vt c m l):=by
 have hmc:m≤l.length:=by rw [← hm];exact Nat.le_mul_of_pos_right m hc
 rw [Zge,Zjo,if_neg (by rw [decide_eq_false (by omega)];decide),Zjq,Zjp,show (0:Int)=((0:Nat):Int) from rfl,Zol N l c hc hll hcs m N 0 (by omega) (by omega),Option.bind_some,List.drop_zero]
 exact Zq8 hr c false m l hl hq
def Ql (vals:List R4) (P:List R2) (T:List (List QV)):Nat→Nat→Int
 | 0,_=>0
 | m+1,v=>if Vt (vals.getD v []).length (Yy vals (P.getD v []) 1) (T.getD v [])=true then Ql vals P T m (v+1) else 46
theorem Zm9 {vals:List R4} {P:List R2} {T:List (List QV)}:∀ (m v:Nat),U8 vals P T m v=0→∀ i,v≤i→i<v+m→Yy vals (P.getD i []) 1 * (vals.getD i []).length=(T.getD i []).length∧(T.getD i []).length≤65536
 | 0,v,_,i,h1,h2=>by omega
 | m+1,v,h,i,h1,h2=>by
  rw [U8] at h
  by_cases h3:65536<Yy vals (P.getD v []) 1 * (vals.getD v []).length
  ·rw [if_pos h3] at h;cases h
  ·rw [if_neg h3] at h
   by_cases h4:Yy vals (P.getD v []) 1 * (vals.getD v []).length=(T.getD v []).length
   ·rw [if_neg (show ¬ Yy vals (P.getD v []) 1 * (vals.getD v []).length≠(T.getD v []).length from fun h=>h h4)] at h
    rcases Nat.lt_or_ge v i with h5 | h5
    ·exact Zm9 m (v+1) h i (by omega) (by omega)
    ·have:i=v:=by omega
     subst this
     exact ⟨h4,by omega⟩
   ·rw [if_pos h4] at h;cases h
theorem Zme {N W:Nat} {n:Zz} (hs:W6 n W) (he:Um n) (hsh:U8 n.2.2.1 n.2.2.2.1 n.2.2.2.2 n.2.1.length 0=0) (hr:Xm N (8 * W+40)) (hN:1048577<N):∀ (l:List (List QV)) (k:Nat),n.2.2.2.2.drop k=l→k≤n.2.1.length→Za3 N n l k=some (Ql n.2.2.1 n.2.2.2.1 n.2.2.2.2 l.length k)
 | [],k,_,_=>rfl
 | t :: l,k,hd,hk=>by
  have ht:=he.t;have hv:=he.v;have hp:=he.p
  have hk1:k<n.2.2.2.2.length:=by
   rcases Nat.lt_or_ge k n.2.2.2.2.length with h | h
   ·exact h
   ·rw [List.drop_eq_nil_of_le h] at hd;cases hd
  have hd2:=List.drop_eq_getElem_cons hk1
  rw [hd] at hd2
  obtain ⟨hx,hl2⟩:=List.cons.inj hd2
  have kv:k<n.2.2.1.length:=by omega
  have kp:k<n.2.2.2.1.length:=by omega
  have hm:t ∈ n.2.2.2.2:=by rw [hx];exact List.getElem_mem hk1
  have c1:=hs.vl _ (List.getElem_mem kv)
  have c0:0<n.2.2.1[k].length:=List.length_pos_iff.2 (he.ne _ (List.getElem_mem kv))
  obtain ⟨s1,s2⟩:=Zm9 _ 0 hsh k (by omega) (by omega)
  rw [Yl kv,Yl hk1,← hx] at s1
  rw [Yl hk1,← hx] at s2
  have hq:=hs.tq t hm
  have hp2:=Zms t
  have hf:=Zmr t
  rw [Za3.eq_2,Xb kv,Option.bind_some,Zph (W:=W) (hr.mono (by omega)) (hs.lim t hm) hq (hs.tl t hm),Option.bind_some,
   Zzb (W:=2 * W) (m:=Yy n.2.2.1 (n.2.2.2.1.getD k []) 1) (hr.mono (by omega)) (fun x hx=>by
    obtain ⟨y,hy,rfl⟩:=List.mem_map.1 hx
    exact Zpa (hs.lim t hm y hy)) (by omega) c0 c1 (by rw [List.length_map];omega) (by rw [List.length_map];exact s1) hN,Option.bind_some,Zri,List.length_cons,Ql,Yl kv,Yl hk1,← hx]
  cases Vt n.2.2.1[k].length (Yy n.2.2.1 (n.2.2.2.1.getD k []) 1) t with
  | true=>
   rw [if_neg (by decide),if_pos rfl]
   exact Zme hs he hsh hr hN l (k+1) hl2.symm (by omega)
  | false=>rw [if_pos (by decide),if_neg (by decide)]
structure Ys (N:Nat) (n:Zz):Prop where
 ev:Um n
 le:n.2.1.length≤1024
 nm:Qg n.2.1 n.2.2.1 n.2.1.length 0=0
 sh:U8 n.2.2.1 n.2.2.2.1 n.2.2.2.2 n.2.1.length 0=0
 en:Qr n.2.2.2.2=false
 su:Ql n.2.2.1 n.2.2.2.1 n.2.2.2.2 n.2.1.length 0=0
 tw:Uj n.2.2.2.1=false
 or:∃ l,Qt N n.2.2.2.1=some (l,0)∧Sg N n.2.2.2.1=some l∧Ze2 N n.2.2.2.1=some 0∧Vz n.2.2.2.1 l∧l.length=n.2.2.2.1.length
def cnt (n:Zz) (v:Nat):Nat:=(n.2.2.1.getD v []).length
def U7 (n:Zz) (w:List Int):List Int→Nat→Nat
 | [],r=>r
 | p :: ps,r=>U7 n w ps (r * cnt n p.toNat+(w.getD p.toNat 0).toNat)
def Vx (n:Zz) (w:List Int) (v:Nat):Nat:=U7 n w (n.2.2.2.1.getD v []) 0
def Yp (n:Zz) (w:List Int) (v:Nat):List QV:=((n.2.2.2.2.getD v []).drop (Vx n w v * cnt n v)).take (cnt n v)
structure Wd (n:Zz) (w:List Int):Prop where
 len:w.length=n.2.1.length
 ok:∀ i,i<w.length→0≤w.getD i 0∧w.getD i 0<(cnt n i:Int)
theorem Zlb {n:Zz} (he:Um n) {v:Nat} (hv:v<n.2.1.length):0<cnt n v:=by
 have h1:v<n.2.2.1.length:=by rw [he.v];exact hv
 rw [cnt,Yl h1]
 exact List.length_pos_iff.2 (he.ne _ (List.getElem_mem h1))
theorem Zth {n:Zz} (he:Um n):∀ (ps:List Int) (k:Nat),(∀ p ∈ ps,0≤p∧p<(n.2.1.length:Int))→k≤1099511627776→k≤Yy n.2.2.1 ps k
 | [],k,_,_=>Nat.le_refl _
 | p :: ps,k,hp,hk=>by
  have h1:=hp p List.mem_cons_self
  have h2:0<(n.2.2.1.getD p.toNat []).length:=Zlb he (by omega)
  rw [Yy]
  have h3:k≤min (k * (n.2.2.1.getD p.toNat []).length) 1099511627776:=Nat.le_min.2 ⟨Nat.le_mul_of_pos_right k h2,hk⟩
  exact Nat.le_trans h3 (Zth he ps _ (fun q hq=>hp q (List.mem_cons_of_mem _ hq)) (Nat.min_le_right _ _))
theorem Ztd {n:Zz} (he:Um n) {w:List Int} (hw:Wd n w) {p:Int} {ps:List Int} {r k:Nat} (hp:∀ q ∈ p :: ps,0≤q∧q<(n.2.1.length:Int)) (hr:r<k) (hk:k≤65536) (hb:Yy n.2.2.1 (p :: ps) k≤65536):
  r * cnt n p.toNat+(w.getD p.toNat 0).toNat<k * cnt n p.toNat∧k * cnt n p.toNat≤65536∧Yy n.2.2.1 ps (k * cnt n p.toNat)≤65536:=by
 have h1:=hp p List.mem_cons_self
 have h2:=hw.ok p.toNat (by rw [hw.len];omega)
 have h3:r * cnt n p.toNat+cnt n p.toNat≤k * cnt n p.toNat:=by
  have:=Nat.mul_le_mul_right (cnt n p.toNat) (show r+1≤k by omega)
  rwa [Nat.add_mul,Nat.one_mul] at this
 rw [Yy] at hb
 have h4:=Zth he ps (min (k * (n.2.2.1.getD p.toNat []).length) 1099511627776) (fun q hq=>hp q (List.mem_cons_of_mem _ hq)) (Nat.min_le_right _ _)
 have h5:k * (n.2.2.1.getD p.toNat []).length≤1099511627776:=by
  rcases Nat.le_total (k * (n.2.2.1.getD p.toNat []).length) 1099511627776 with h | h
  ·exact h
  ·rw [Nat.min_eq_right h] at h4 hb;omega
 rw [Nat.min_eq_left h5] at h4 hb
 exact ⟨by omega,Nat.le_trans h4 hb,hb⟩
theorem Zm6 {n:Zz} (he:Um n) {w:List Int} (hw:Wd n w):∀ (ps:List Int) (r k:Nat),(∀ q ∈ ps,0≤q∧q<(n.2.1.length:Int))→r<k→k≤65536→Yy n.2.2.1 ps k≤65536→U7 n w ps r<Yy n.2.2.1 ps k
 | [],r,k,_,hr,_,_=>hr
 | p :: ps,r,k,hp,hr,hk,hb=>by
  obtain ⟨h1,h2,h3⟩:=Ztd he hw hp hr hk hb
  have:=Zm6 he hw ps _ _ (fun q hq=>hp q (List.mem_cons_of_mem _ hq)) h1 h2 h3
  rw [U7,Yy,Nat.min_eq_left (by rw [cnt] at h2;omega)]
  exact this
theorem Ztc {n:Zz} {w u:List Int}:∀ (ps:List Int) (r:Nat),(∀ p ∈ ps,w.getD p.toNat 0=u.getD p.toNat 0)→U7 n w ps r=U7 n u ps r
 | [],_,_=>rfl
 | p :: ps,r,h=>by rw [U7,U7,h p List.mem_cons_self];exact Ztc ps _ fun q hq=>h q (List.mem_cons_of_mem _ hq)
section
variable {N:Nat} {n:Zz} (hf:Ys N n)
include hf
theorem Ys.pars {v:Nat} (hv:v<n.2.1.length):∀ p ∈ n.2.2.2.1.getD v [],0≤p∧p<(n.2.1.length:Int):=fun p hp=>by
 have h1:v<n.2.2.2.1.length:=by rw [hf.ev.p];exact hv
 rw [Yl h1] at hp
 have:=hf.ev.par (List.getElem_mem h1) p hp
 rwa [hf.ev.v] at this
theorem Ys.rows {v:Nat} (hv:v<n.2.1.length):Yy n.2.2.1 (n.2.2.2.1.getD v []) 1 * cnt n v=(n.2.2.2.2.getD v []).length∧(n.2.2.2.2.getD v []).length≤65536∧Yy n.2.2.1 (n.2.2.2.1.getD v []) 1≤65536:=by
 have h1:=Zm9 _ 0 hf.sh v (Nat.zero_le _) (by omega)
 have h2:=Zlb hf.ev hv
 refine ⟨h1.1,h1.2,?_⟩
 have h3:Yy n.2.2.1 (n.2.2.2.1.getD v []) 1≤Yy n.2.2.1 (n.2.2.2.1.getD v []) 1 * cnt n v:=Nat.le_mul_of_pos_right _ h2
 have h4:Yy n.2.2.1 (n.2.2.2.1.getD v []) 1 * cnt n v≤65536:=by
  have:=h1.1;rw [cnt,this];exact h1.2
 omega
theorem Ys.row {w:List Int} (hw:Wd n w) {v:Nat} (hv:v<n.2.1.length):Vx n w v * cnt n v+cnt n v≤(n.2.2.2.2.getD v []).length∧Vx n w v<65536:=by
 obtain ⟨h1,h2,h3⟩:=hf.rows hv
 have h4:=Zm6 hf.ev hw _ 0 1 (hf.pars hv) (by omega) (by omega) h3
 have h5:=Nat.mul_le_mul_right (cnt n v) (show Vx n w v+1≤Yy n.2.2.1 (n.2.2.2.1.getD v []) 1 from h4)
 rw [Nat.add_mul,Nat.one_mul,h1] at h5
 exact ⟨h5,Nat.lt_of_lt_of_le h4 h3⟩
theorem Ys.rowT_len {w:List Int} (hw:Wd n w) {v:Nat} (hv:v<n.2.1.length):(Yp n w v).length=cnt n v:=by
 have:=(hf.row hw hv).1
 rw [Yp,List.length_take,List.length_drop];omega
theorem Ys.ent {v:Nat} (hv:v<n.2.1.length):∀ x ∈ n.2.2.2.2.getD v [],0≤Xa x∧Xa x≤1:=fun x hx=>by
 have h1:v<n.2.2.2.2.length:=by rw [hf.ev.t];exact hv
 rw [Yl h1] at hx
 have h2:=hf.en
 rw [Qr,List.any_eq_false] at h2
 have h3:=h2 _ (List.getElem_mem h1)
 rw [Bool.not_eq_true,List.any_eq_false] at h3
 have h4:=h3 x hx
 simp only [W8,Bool.or_eq_true,decide_eq_true_eq,not_or] at h4
 exact ⟨Rat.not_lt.1 h4.1,Rat.not_lt.1 h4.2⟩
end
theorem Zju {n:Zz} {w:List Int} {v:Nat} {x:QV} (h:x ∈ Yp n w v):x ∈ n.2.2.2.2.getD v []:=List.mem_of_mem_drop (List.mem_of_mem_take h)
theorem Z01 {n:Zz} {w:List Int} {v j:Nat} (hj:j<(Yp n w v).length):Zn (n.2.2.2.2.getD v []) ((Vx n w v * cnt n v+j:Nat):Int)=some (Yp n w v)[j]:=by
 have h1:Vx n w v * cnt n v+j<(n.2.2.2.2.getD v []).length:=by
  rw [Yp,List.length_take,List.length_drop] at hj;omega
 rw [Xb h1]
 simp only [Yp,List.getElem_take,List.getElem_drop]
def Up (P:List R2) (l:List Int):Prop:=∀ (a:List Int) (v:Int) (b:List Int),l=a++v :: b→∀ p ∈ P.getD v.toNat [],p ∈ a
theorem Up.step {P:List R2} {l:List Int} {j:Nat} (h:Up P l) (hn:Ws P l 0=some j):Up P (l++[(j:Int)]):=by
 obtain ⟨_,h2,h3,_⟩:=Zmg hn
 obtain ⟨h4,h5⟩:=(Zsz h2).1 h3
 intro a v b e p hp
 rcases List.eq_nil_or_concat b with rfl | ⟨b',c,rfl⟩
 ·obtain ⟨e1,e2⟩:=List.append_inj' e rfl
  rw [List.cons.injEq] at e2
  obtain ⟨rfl,-⟩:=e2
  subst e1
  rw [Int.toNat_natCast,Yl h2] at hp
  exact h5 p hp
 ·rw [List.concat_eq_append,← List.cons_append,← List.append_assoc] at e
  exact h a v b' (List.append_inj' e rfl).1 p hp
theorem Zrn {N:Nat} {P:List R2} (hP:P.length<1048576) (hls:∀ x ∈ P,x.length≤1048576) (hN:1048576<N):∀ (n:Nat) (l r:List Int),Vz P l→Up P l→Zae N P n l=some r→Up P r
 | 0,l,r,_,_,h=>by rw [Zae.eq_1] at h;cases h
 | n+1,l,r,h0,hk,h=>by
  have hl:=h0.len
  rw [Zml (by omega) hls (by omega) hN] at h
  cases hnx:Ws P l 0 with
  | none=>rw [hnx] at h;cases h;exact hk
  | some j=>
   rw [hnx] at h
   exact Zrn hP hls hN n (l++[(j:Int)]) r (h0.step hnx).1 (hk.step hnx) h
structure Tb (P:List R2) (l:List Int):Prop where
 rg:∀ x ∈ l,0≤x∧x<(P.length:Int)
 nd:l.Nodup
 up:Up P l
theorem Zzo {N:Nat} {P:List R2} {l:List Int} (hP:P.length<1048576) (hls:∀ x ∈ P,x.length≤1048576) (hN:1048576<N) (h:Sg N P=some l) (ho:Vz P l):Tb P l:=
 ⟨ho.2.1,ho.1,Zrn hP hls hN N [] l ⟨.nil,by simp,by simp⟩ (fun a v b e=>by cases a <;> simp at e) (by rwa [Sg] at h)⟩
def Sn (n:Zz) (w:List Int):List Int→Rat×Rat→Rat×Rat
 | [],s=>s
 | v :: l,s=>Sn n w l ((Vj (s.2 - s.1) (Yp n w v.toNat) s.1).getD (w.getD v.toNat 0).toNat (0,0))
section
variable {N W:Nat} {n:Zz} (hf:Ys N n) (hs:W6 n W)
include hf hs
theorem Zlg {v:Nat} (hv:v<n.2.1.length):∀ x ∈ n.2.2.2.2.getD v [],W5 x∧max x.1.2.length x.2.length≤W:=fun x hx=>by
 have h1:v<n.2.2.2.2.length:=by rw [hf.ev.t];exact hv
 rw [Yl h1] at hx
 have h2:=hs.tq _ (List.getElem_mem h1)
 exact ⟨hs.lim _ (List.getElem_mem h1) x hx,Nat.le_trans (Zz0 hx) h2⟩
end
theorem Wd.set {n:Zz} {w:List Int} (h:Wd n w) {v:Nat} {k:Int} (hk:0≤k∧k<(cnt n v:Int)):Wd n (w.set v k):=by
 refine ⟨by rw [List.length_set];exact h.len,fun i hi=>?_⟩
 rw [List.length_set] at hi
 by_cases hv:v<w.length
 ·rw [Uq w 0 v i k hv]
  split
  ·rename_i e;rw [e];exact hk
  ·exact h.ok i hi
 ·rw [List.set_eq_of_length_le (by omega)];exact h.ok i hi
theorem Zy0 {l:List (Rat×Rat)} {j:Nat} (hj:j<l.length):l.getD j (0,0) ∈ l:=by rw [Yl hj];exact List.getElem_mem hj
theorem Wd.zero {n:Zz} (he:Um n):Wd n (List.replicate n.2.1.length 0):=by
 refine ⟨List.length_replicate,fun i hi=>?_⟩
 rw [List.length_replicate] at hi
 have:=Zlb he hi
 rw [List.getD_eq_getElem?_getD,List.getElem?_replicate,if_pos hi]
 simp;exact this
theorem Zx5 {N:Nat} (hr:Xm N 16):S8 N ([]:List QV)=some (Z9 0):=by
 have:=(Zpp (N:=N) (l:=[]) (by simp) hr).1
 rwa [Y1,List.map_nil,List.sum_nil] at this
theorem Zzx {a b:Rat}:U6 a b<0↔a<b:=by
 rw [U6]
 by_cases h:a<b
 ·rw [if_pos h];exact ⟨fun _=>h,fun _=>by decide⟩
 ·rw [if_neg h]
  by_cases g:b<a
  ·rw [if_pos g];exact ⟨fun e=>absurd e (by decide),fun e=>absurd e h⟩
  ·rw [if_neg g];exact ⟨fun e=>absurd e (by decide),fun e=>absurd e h⟩
theorem Zx9 {long a:Rat} {x:QV} (hl:0≤long) (hx:0≤Xa x):a≤a+long * Xa x:=by
 have h1:=Rat.add_le_add_left (c:=a) |>.2 (Rat.mul_nonneg hl hx)
 rwa [Rat.add_zero] at h1
theorem Zrw {long:Rat} (hl:0≤long):∀ (t:List QV) (a:Rat),(∀ x ∈ t,0≤Xa x)→∀ p ∈ Vj long t a,a≤p.1∧p.1≤p.2
 | [],a,_,p,hp=>by rw [Vj] at hp;cases hp
 | x :: t,a,ht,p,hp=>by
  have h1:=Zx9 (a:=a) hl (ht x List.mem_cons_self)
  rw [Vj] at hp
  rcases List.mem_cons.1 hp with rfl | hp
  ·exact ⟨Rat.le_refl,h1⟩
  ·obtain ⟨h2,h3⟩:=Zrw hl t _ (fun y hy=>ht y (List.mem_cons_of_mem _ hy)) p hp
   exact ⟨Rat.le_trans h1 h2,h3⟩
/-! the document's loops -/
/-! a row's entries are 1 together -/
theorem Zrh {c:Nat}:∀ (m:Nat) (l:List QV),Vt c m l=true→∀ r,r<m→Y1 ((l.drop (r * c)).take c)=1
 | 0,l,_,r,h=>by omega
 | m+1,l,h,r,hr=>by
  rw [Vt,Bool.and_eq_true,decide_eq_true_iff] at h
  cases r with
  | zero=>rw [Nat.zero_mul,List.drop_zero];exact h.1
  | succ r=>
   have:=Zrh m (l.drop c) h.2 r (by omega)
   rw [List.drop_drop] at this
   rw [Nat.add_mul,Nat.one_mul,Nat.add_comm]
   exact this
theorem Zt5 {vals:List R4} {P:List R2} {T:List (List QV)}:∀ (m v:Nat),Ql vals P T m v=0→∀ i,v≤i→i<v+m→Vt (vals.getD i []).length (Yy vals (P.getD i []) 1) (T.getD i [])=true
 | 0,v,_,i,h1,h2=>by omega
 | m+1,v,h,i,h1,h2=>by
  rw [Ql] at h
  split at h
  ·rename_i h3
   rcases Nat.lt_or_ge v i with h5 | h5
   ·exact Zt5 m (v+1) h i (by omega) (by omega)
   ·have:i=v:=by omega
    subst this
    exact h3
  ·cases h
section
variable {N:Nat} {n:Zz} (hf:Ys N n)
include hf
theorem Zt7 {w:List Int} (hw:Wd n w) {v:Nat} (hv:v<n.2.1.length):Y1 (Yp n w v)=1:=by
 have h1:=Zt5 _ 0 hf.su v (Nat.zero_le _) (by omega)
 have h2:=Zm6 hf.ev hw (n.2.2.2.1.getD v []) 0 1 (hf.pars hv) (by omega) (by omega) (hf.rows hv).2.2
 exact Zrh _ _ h1 _ h2
end
/-! parts side by side -/
theorem Zry (long:Rat):∀ (t:List QV) (a:Rat) (j:Nat) (hj:j<t.length),((Vj long t a).getD j (0,0)).2=((Vj long t a).getD j (0,0)).1+long * Xa t[j]
 | [],a,j,hj=>by simp at hj
 | x :: t,a,0,hj=>by rw [Vj,List.getD_cons_zero];rfl
 | x :: t,a,j+1,hj=>by
  rw [Vj,List.getD_cons_succ]
  exact Zry long t _ j (by simpa using hj)
theorem Zrx {long:Rat} (hl:0≤long):∀ (t:List QV) (a:Rat),(∀ x ∈ t,0≤Xa x)→∀ p ∈ Vj long t a,p.2≤a+long * Y1 t
 | [],a,_,p,hp=>by rw [Vj] at hp;cases hp
 | x :: t,a,ht,p,hp=>by
  have ht':∀ y ∈ t,0≤Xa y:=fun y hy=>ht y (List.mem_cons_of_mem _ hy)
  have hs:0≤Y1 t:=by
   rw [Y1]
   clear hp ht
   induction t with
   | nil=>simp
   | cons y t ih=>
    rw [List.map_cons,List.sum_cons]
    exact Rat.add_nonneg (ht' y List.mem_cons_self) (ih fun z hz=>ht' z (List.mem_cons_of_mem _ hz))
  have e:a+long * Y1 (x :: t)=a+long * Xa x+long * Y1 t:=by
   rw [Y1,List.map_cons,List.sum_cons,← Y1,Rat.mul_add,Rat.add_assoc]
  rw [Vj] at hp
  rw [e]
  rcases List.mem_cons.1 hp with rfl | hp
  ·have:=Rat.mul_nonneg hl hs
   show a+long * Xa x≤_
   grind
  ·exact Zrx hl t _ ht' p hp
section
variable {N:Nat} {n:Zz} (hf:Ys N n)
include hf
theorem Zzt {w:List Int} (hw:Wd n w) {v:Nat} (hv:v<n.2.1.length) {s:Rat×Rat} (hs:s.1≤s.2) {p:Rat×Rat} (hp:p ∈ Vj (s.2 - s.1) (Yp n w v) s.1):s.1≤p.1∧p.1≤p.2∧p.2≤s.2:=by
 have hent:∀ y ∈ Yp n w v,0≤Xa y:=fun y hy=>(hf.ent hv y (Zju hy)).1
 have hlong:0≤s.2 - s.1:=by rw [Rat.le_iff_sub_nonneg] at hs;exact hs
 obtain ⟨h1,h2⟩:=Zrw hlong _ _ hent _ hp
 have h3:=Zrx hlong _ _ hent _ hp
 rw [Zt7 hf hw hv] at h3
 exact ⟨h1,h2,by grind⟩
variable {ord:List Int} (ho:Tb n.2.2.2.1 ord)
include ho
theorem Ztu {w:List Int} (hw:Wd n w):∀ (l:List Int) (s:Rat×Rat),(∀ y ∈ l,y ∈ ord)→s.1≤s.2→s.1≤(Sn n w l s).1∧(Sn n w l s).1≤(Sn n w l s).2∧(Sn n w l s).2≤s.2
 | [],s,_,h=>⟨Rat.le_refl,h,Rat.le_refl⟩
 | v :: l,s,he,h=>by
  have hvr:=ho.rg v (he v List.mem_cons_self)
  rw [hf.ev.p] at hvr
  have hv:v.toNat<n.2.1.length:=by omega
  have hwv:=hw.ok v.toNat (by rw [hw.len];exact hv)
  have hm:(Vj (s.2 - s.1) (Yp n w v.toNat) s.1).getD (w.getD v.toNat 0).toNat (0,0) ∈ Vj (s.2 - s.1) (Yp n w v.toNat) s.1:=Zy0 (by rw [Zrv,hf.rowT_len hw hv];omega)
  obtain ⟨h1,h2,h3⟩:=Zzt hf hw hv h hm
  obtain ⟨g1,g2,g3⟩:=Ztu hw l _ (fun y hy=>he y (List.mem_cons_of_mem _ hy)) h2
  rw [Sn]
  exact ⟨Rat.le_trans h1 g1,g2,Rat.le_trans g3 h3⟩
variable (hall:∀ i,i<n.2.1.length→(i:Int) ∈ ord)
include hall
end
def V1 (n:Zz):List Int→Nat→Bool
 | [],_=>true
 | x :: l,k=>!decide (x<0)&&(!decide ((cnt n k:Int)≤x)&&V1 n l (k+1))
theorem Zpt {n:Zz}:∀ (l:List Int) (k:Nat),V1 n l k=true→∀ i,i<l.length→0≤l.getD i 0∧l.getD i 0<(cnt n (k+i):Int)
 | [],_,_,i,hi=>by simp at hi
 | x :: l,k,h,i,hi=>by
  simp only [V1,Bool.and_eq_true,Bool.not_eq_true',decide_eq_false_iff_not] at h
  cases i with
  | zero=>rw [List.getD_cons_zero,Nat.add_zero];omega
  | succ i=>
   rw [List.getD_cons_succ,show k+(i+1)=k+1+i by omega]
   exact Zpt l (k+1) h.2.2 i (by simpa using hi)
theorem Zyc {n:Zz} {w:List Int} (hl:w.length=n.2.1.length) (h:V1 n w 0=true):Wd n w:=⟨hl,fun i hi=>by have:=Zpt w 0 h i hi;rwa [Nat.zero_add] at this⟩
def Q2 (N:Nat) (ab:R0) (ac:List Int) (aa:Nat) (ah:Bool) (ai:List Int) (aj:List Int) (kk_L2:(Nat→Bool→R2→R2→Option (R1×Int))) (ak:R7):List Int→Int→Option (R1×Int)
  | [],ad=>(Zn ab.2.2.1 (aa:Int)).bind fun am=>(Zn ac (aa:Int)).bind fun an=>(Zn ak (i64.wrap ((i64.wrap (ad * (am.length:Int)))+an))).bind fun ae=>(Za5 N ((ae.1.1,ae.1.2),ae.2)).bind fun af=>(Zdy N ((ah,ai),aj) ((af.1.1,af.1.2),af.2)).bind fun ag=>kk_L2 (aa+1) ag.1.1 ag.1.2 ag.2
  | al :: ao,ad=>(Zn ab.2.2.1 al).bind fun ap=>(Zn ac al).bind fun aq=>(Q2 N ab ac aa ah ai aj kk_L2 ak ao) (i64.wrap ((i64.wrap (ad * (ap.length:Int)))+aq))
termination_by structural x=>x
def Q1 (N:Nat) (aa:R0) (af:List Int):List R7→Nat→Bool→R2→R2→Option (R1×Int)
  | [],ab,ac,ad,ae=>some (((ac,ad),ae),0)
  | ag :: ah,ab,ac,ad,ae=>(Zn aa.2.2.2.1 (ab:Int)).bind fun ai=>Q2 N aa af ab ac ad ae (Q1 N aa af ah) ag ai 0
termination_by structural x=>x
def Zd8 (aa:Nat) (ab:Bool) (ac:List Int) (ad:List Int) (kk_L1:(Nat→Bool→R2→R2→Option (R1×Int))) (ae:Bool):Option (R1×Int):=
  if ae=true then (some (((false,([]:List Int)),([]:List Int)),3)) else (kk_L1 (aa+1) ab ac ad)
def Sb (N:Nat) (aa:R0) (ac:List Int):List Int→Nat→Bool→R2→R2→Option (R1×Int)
  | [],ab,ad,ae,af=>(Zcd N).bind fun ag=>Q1 N aa ac aa.2.2.2.2 0 ag.1.1 ag.1.2 ag.2
  | ah :: ai,ab,ad,ae,af=>if (decide (ah<0))=true then (Zd8 ab ad ae af (Sb N aa ac ai) true) else ((Zn aa.2.2.1 (ab:Int)).bind fun aj=>Zd8 ab ad ae af (Sb N aa ac ai) (decide ((aj.length:Int)≤ah)))
termination_by structural x=>x
def Za2 (N:Nat) (aa:R0) (ab:List Int):Option (R1×Int):=
  (Ur N (aa.1,aa.2.1,aa.2.2.1,aa.2.2.2.1,aa.2.2.2.2)).bind fun ac=>if (!decide (ac=0))=true then (some (((false,([]:List Int)),([]:List Int)),ac)) else (if (!decide ((ab.length:Int)=(aa.2.1.length:Int)))=true then (some (((false,([]:List Int)),([]:List Int)),60)) else (Sb N aa ab ab 0 false ([]:List Int) ([]:List Int)))
theorem Zny {N bf bg bh bi cu:Nat} {bj bk bm bn a1:Option Addr} {col:Zd} {w0:World} {ab:R0} {ak:R2} {r:(R1×Int)} (c1 c2:Nat) (hm:Za2 N ab ak=some r) (cd:Sl Za.str col w0 bj bf ab.2.1) (au:Sl (Za.slice Za.str) col w0 bk bg ab.2.2.1) (bt:Sl (Za.slice (Za.int .i64)) col w0 bm bh ab.2.2.2.1) (bo:Sl (Za.slice (Za.pair (Za.pair Za.bool (Za.slice (Za.int .u32))) (Za.slice (Za.int .u32)))) col w0 bn bi ab.2.2.2.2) (h1:Sl (Za.int .i64) col w0 a1 cu ak):
    Calls Tryz.prog 70 #[(.agg #[.string ab.1,.slice bj ab.2.1.length bf,.slice bk ab.2.2.1.length bg,.slice bm ab.2.2.2.1.length bh,.slice bn ab.2.2.2.2.length bi]),.slice a1 ak.length cu] w0 (fun e w'=>∃ (col':Zd) (ra1:Option Addr) (rc2:Nat) (ra4:Option Addr) (rc5:Nat),e= .returned (.tuple #[(.agg #[.bool r.1.1.1,.slice ra1 r.1.1.2.length rc2,.slice ra4 r.1.2.length rc5]),.int .i64 r.2])∧Zf col w0 col' w'∧Zc (Za.int .u32) 79 c1 col' w' ra1 rc2 r.1.1.2∧Zc (Za.int .u32) 79 c2 col' w' ra4 rc5 r.1.2):=by
 refine Wa (m:=103) func70 rfl rfl rfl ?_;rw [Za2.eq_1] at hm;have aa:=St.start col w0;refine go ?_;refine X6 (col:=(Zi col)) 1 rfl ?_;intro b7 eq c3 c4 ac;refine Xo (col:=c3) #[.bool false,.slice none (([]:List Int).length) 0,.slice none (([]:List Int).length) 0] 2 zeroValue47 ?_;intro b8 c5 cv cw ad;refine go ?_;replace ac:=ac.gr cw;refine lV _ (Xi isAgg27 sizeOf27 ac) ?_;obtain ⟨er,c6,hm⟩:=bZ hm;replace cd:=cd.keep (Zk.start col w0);replace au:=au.keep (Zk.start col w0);replace bt:=bt.keep (Zk.start col w0);replace bo:=bo.keep (Zk.start col w0);replace aa:=(aa.grow c4).grow cw;refine Zg (Zkw c6 (cd.ks aa) (au.ks aa) (bt.ks aa) (bo.ks aa)) ?_;rintro _ c7 ⟨rfl,bu⟩;refine ⟨_,rfl,?_⟩;replace bu:Zf cv c5 cv c7:=.of_below bu;refine go ?_;replace h1:=h1.keep (Zk.start col w0);replace ac:=ac.gr bu;replace ad:=ad.gr bu;replace aa:=aa.grow bu;refine Zo hm (fun hb hm=>go ?_) fun hb hm=>go ?_
 ·refine lV (.agg #[.bool false,.slice none (([]:List Int).length) 0,.slice none (([]:List Int).length) 0]) (Wb (l:=[_,_]) (qs:=[(0,2),(2,1)]) underlying47 zeroValue47 ⟨rfl,sizeOf45,rfl,sizeOf43,trivial⟩ rfl)<|X9 rfl<|Z4 ad ?_;intro es c8 c9 da;refine go ?_;cases hm;replace aa:=aa.kp c8 c9;exact ⟨rfl,_,Vv da.atN,_,none,0,none,0,rfl,aa.fin (cm []),Zc.nil,Zc.nil⟩
 refine Xu ac ?_;refine go ?_;refine Zo hm (fun hb hm=>go ?_) fun hb hm=>go ?_
 ·refine lV (.agg #[.bool false,.slice none (([]:List Int).length) 0,.slice none (([]:List Int).length) 0]) (Wb (l:=[_,_]) (qs:=[(0,2),(2,1)]) underlying47 zeroValue47 ⟨rfl,sizeOf45,rfl,sizeOf43,trivial⟩ rfl)<|Z4 ad ?_;intro et db dc dd;refine go ?_;cases hm;replace aa:=aa.kp db dc;exact ⟨rfl,_,Vv dd.atN,_,none,0,none,0,rfl,aa.fin (cm []),Zc.nil,Zc.nil⟩
 refine Z2 [1,2,28,29,4,1000000] (fun n f bp=>∃ a4 a5 a6 av aw al ax ay am bv,n=bv.length∧ak.drop a5=bv∧Sb N ab ak bv a5 a6 al am=some r∧St w0 (Zi col) a4 bp∧Zh 27 1 a4 bp b7 #[.string ab.1,.slice bj ab.2.1.length bf,.slice bk ab.2.2.1.length bg,.slice bm ab.2.2.2.1.length bh,.slice bn ab.2.2.2.2.length bi]∧Zc (Za.int .u32) 79 3 a4 bp av aw al∧Zc (Za.int .u32) 79 4 a4 bp ax ay am∧Zh 47 2 a4 bp b8 #[.bool a6,.slice av al.length aw,.slice ax am.length ay]∧[30].map f=[.int .i64 a5]) ak.length ⟨_,0,_,none,0,_,none,0,_,_,rfl,rfl,hm,aa,ac,Zc.nil,Zc.nil,ad,rfl⟩ ?_;clear hm;intro n f bp hI;obtain ⟨a4,a5,a6,av,aw,al,ax,ay,am,bv,hn,hl,hm,aa,ac,ae,af,ad,hs⟩:=hI;subst hn;refine .lL [30] hs ?_
 cases bv with
 | nil=>
  have hk:¬ ((a5:Int)<(ak.length:Int)):=by have:=List.drop_eq_nil_iff.1 hl;omega
  have hkb:=decide_eq_false hk;rw [Sb.eq_1] at hm;refine go ?_;refine Xv (congrArg Value.bool hkb)<|go ?_;obtain ⟨eu,de,hm⟩:=bZ hm;refine lc rfl rfl (Zbp call182) (Zkx (col:=a4) 5 6 de:) ?_;rintro _ ew ⟨df,ey,ez,e0,e1,rfl,bw,ce,cf⟩;refine ⟨_,rfl,?_⟩;refine Xo (col:=df) #[.bool false,.slice none (([]:List Int).length) 0,.slice none (([]:List Int).length) 0] 7 zeroValue47 ?_;intro cx e2 e3 a7 dg;refine Z4 dg ?_;intro e4 a8 dh ah;refine go ?_;refine Wg ⟨_,_,rfl⟩ ?_;replace ac:=((ac.gr bw).gr a7).kp a8;refine lW ((ac.atN).nth (q:=4) rfl)<|go ?_;replace ae:=((ae.gr bw).gr a7).kp a8;replace af:=((af.gr bw).gr a7).kp a8;replace ad:=((ad.gr bw).gr a7).kp a8;replace aa:=((aa.grow bw).grow a7).kp a8 dh;replace ce:=(ce.gr a7).kp a8;replace cf:=(cf.gr a7).kp a8;refine Z2 [1,2,4,51,52,9,1000000] (fun n f az=>∃ a0 a9 bx bz b0 ba b1 b2 bb b3,n=b3.length∧ab.2.2.2.2.drop a9=b3∧Q1 N ab ak b3 a9 bx ba bb=some r∧St w0 (Zi col) a0 az∧Zh 27 1 a0 az b7 #[.string ab.1,.slice bj ab.2.1.length bf,.slice bk ab.2.2.1.length bg,.slice bm ab.2.2.2.1.length bh,.slice bn ab.2.2.2.2.length bi]∧Zc (Za.int .u32) 79 3 a0 az av aw al∧Zc (Za.int .u32) 79 4 a0 az ax ay am∧Zh 47 2 a0 az b8 #[.bool a6,.slice av al.length aw,.slice ax am.length ay]∧Zc (Za.int .u32) 79 5 a0 az bz b0 ba∧Zc (Za.int .u32) 79 6 a0 az b1 b2 bb∧Zh 47 7 a0 az cx #[.bool bx,.slice bz ba.length b0,.slice b1 bb.length b2]∧[53].map f=[.int .i64 a9]) ab.2.2.2.2.length ⟨_,0,_,_,_,_,_,_,_,_,rfl,rfl,hm,aa,ac,ae,af,ad,ce,cf,ah,rfl⟩ ?_;clear hm;intro n f az hI;obtain ⟨a0,a9,bx,bz,b0,ba,b1,b2,bb,b3,hn,hl,hm,aa,ac,ae,af,ad,ai,aj,ah,hs⟩:=hI;subst hn;refine .lL [53] hs ?_
  cases b3 with
  | nil=>
   have hk:¬ ((a9:Int)<(ab.2.2.2.2.length:Int)):=by have:=List.drop_eq_nil_iff.1 hl;omega
   have hkb:=decide_eq_false hk;rw [Q1.eq_1] at hm;refine go ?_;refine Xv (congrArg Value.bool hkb)<|go ?_;refine lV _ (Xi isAgg47 sizeOf47 ah)<|Z4 ad ?_;intro e5 cg di dj;refine go ?_;cases hm;replace ai:=ai.kp cg;replace aj:=aj.kp cg;replace aa:=aa.kp cg di;exact ⟨rfl,_,Vv dj.atN,_,_,_,_,_,rfl,aa.fin (cm [(5,c1),(6,c2)]),aa.fo ai,aa.fo aj⟩
  | cons cy cz=>
   obtain ⟨an,dk,dl⟩:=Yc hl;have hk:(a9:Int)<(ab.2.2.2.2.length:Int):=by omega
   have hkb:=decide_eq_true hk;rw [Q1.eq_2] at hm;refine go ?_;refine Xz (congrArg Value.bool hkb)<|go ?_;refine lI an ((bo.ks aa).addr an) ?_;obtain ⟨_,dm,dn⟩:=(bo.ks aa).atN an;obtain ⟨⟨dp,dq,rfl,bc⟩,_⟩:=dm;refine lW dn.one<|go ?_;refine Xu ac<|X9 rfl ?_;obtain ⟨b4,ch,hm⟩:=bZ hm;refine lI ch ((bt.ks aa).addr ch) ?_;obtain ⟨_,dr,ds⟩:=(bt.ks aa).atN ch;obtain ⟨⟨dt,du,rfl,a3⟩,_⟩:=dr;refine lW ds.one<|go ?_;refine Z2 [1,10,11,2,4,51,52,53,62,63,9,1000000] (fun n f ao=>∃ ag ci b5 b6,n=b6.length∧b4.drop b5=b6∧Q2 N ab ak a9 bx ba bb (Q1 N ab ak cz) cy b6 ci=some r∧St w0 (Zi col) ag ao∧Sl (Za.pair (Za.pair Za.bool (Za.slice (Za.int .u32))) (Za.slice (Za.int .u32))) ag ao dp dq cy∧Zh 27 1 ag ao b7 #[.string ab.1,.slice bj ab.2.1.length bf,.slice bk ab.2.2.1.length bg,.slice bm ab.2.2.2.1.length bh,.slice bn ab.2.2.2.2.length bi]∧Zc (Za.int .u32) 79 3 ag ao av aw al∧Zc (Za.int .u32) 79 4 ag ao ax ay am∧Zh 47 2 ag ao b8 #[.bool a6,.slice av al.length aw,.slice ax am.length ay]∧Sl (Za.int .i64) ag ao dt du b4∧Zc (Za.int .u32) 79 5 ag ao bz b0 ba∧Zc (Za.int .u32) 79 6 ag ao b1 b2 bb∧Zh 47 7 ag ao cx #[.bool bx,.slice bz ba.length b0,.slice b1 bb.length b2]∧[64,12].map f=[.int .i64 b5,.int .i64 ci]) b4.length ⟨_,0,0,_,rfl,rfl,hm,aa,bc,ac,ae,af,ad,a3,ai,aj,ah,rfl⟩ ?_;clear hm;intro n f ao hI;obtain ⟨ag,ci,b5,b6,hn,hl,hm,aa,bc,ac,ae,af,ad,a3,ai,aj,ah,hs⟩:=hI;subst hn;refine .lL [64,12] hs ?_
   cases b6 with
   | nil=>
    have hk:¬ ((b5:Int)<(b4.length:Int)):=by have:=List.drop_eq_nil_iff.1 hl;omega
    have hkb:=decide_eq_false hk;rw [Q2.eq_1] at hm;refine go ?_;refine Xv (congrArg Value.bool hkb)<|go ?_;refine Wi (col:=ag) [(0,0),(1,1),(2,1),(3,1),(4,0),(5,1),(6,1),(7,0),(8,1),(9,1),(10,1),(11,1),(12,1),(13,0),(14,1),(15,1),(16,0),(17,3),(18,3),(19,2)] (by kernel_rfl) (by kernel_rfl)<|xv rfl rfl (fun _ hC=>Xi isAgg47 sizeOf47 (ah.gr (hC.bl ag))) ?_;refine xu rfl rfl (fun _=>Ve rfl) ?_;refine xu rfl rfl (fun _=>Y4 rfl) ?_;refine xF ⟨_,_,rfl⟩ ?_;refine xW (fun _ hC=>((ac.atN).nth (q:=2) rfl).gr (hC.bl ag)) ?_;refine xu rfl rfl (fun _=>Y4 rfl) ?_;obtain ⟨e6,b9,hm⟩:=bZ hm;refine xu rfl rfl (fun _=>Y3 underlying23 sizeOf22 rfl rfl (Xg b9).1 (Xg b9).2.1 ((au.ks aa).addr b9)) ?_;obtain ⟨_,dv,dw⟩:=(au.ks aa).atN b9;obtain ⟨⟨e7,e8,rfl,e9⟩,_⟩:=dv;refine xW (fun _ hC=>dw.one.gr (hC.bl ag)) ?_;refine xu rfl rfl (fun _=>Zaj underlying22 rfl) ?_;refine xu rfl rfl (fun _=>Zfb _ _ rfl rfl) ?_;refine xu rfl rfl (fun _=>Ve rfl) ?_;refine xu rfl rfl (fun _=>Y4 rfl) ?_;obtain ⟨fa,ca,hm⟩:=bZ hm;refine xu rfl rfl (fun _=>Y3 underlying40 sizeOf3 rfl rfl (Xg ca).1 (Xg ca).2.1 ((h1.ks aa).addr ca)) ?_;refine xW (fun _ hC=>((h1.ks aa).gr (hC.bl ag)).atInt ca) ?_;refine xu rfl rfl (fun _=>Qi _ _ rfl rfl) ?_;obtain ⟨cj,cb,hm⟩:=bZ hm;refine xu rfl rfl (fun _=>Y3 underlying56 sizeOf47 rfl rfl (Xg cb).1 (Xg cb).2.1 (bc.addr cb)) ?_;obtain ⟨_,dx,dy⟩:=bc.atN cb;obtain ⟨_,_,rfl,dz,d0⟩:=Vw dx;obtain ⟨_,_,rfl,d1,d2⟩:=Vw dz;obtain ⟨rfl,_⟩:=d1;obtain ⟨⟨d3,d4,rfl,ck⟩,_⟩:=d2;obtain ⟨⟨d5,d6,rfl,cl⟩,_⟩:=d0;refine xv (v:=(.agg #[.bool cj.1.1,.slice d3 cj.1.2.length d4,.slice d5 cj.2.length d6])) rfl rfl (fun _ hC=>Wv isAgg47 sizeOf47 rfl rfl (dy.gr (hC.bl ag))) ?_;refine xe rfl rfl ?_;intro fb hC0;have hC:=hC0.bl ag;obtain ⟨fc,d7,hm⟩:=bZ hm;replace ck:=ck.gr hC;replace cl:=cl.gr hC;refine Zg (Znz d7 ck cl) ?_;rintro _ fd ⟨bq,fe,ff,fg,fh,rfl,a2,cn,co⟩;refine ⟨_,rfl,?_⟩;refine Zl<|X3 bq hC0 a2<|xe rfl rfl ?_;intro d8 hC0;replace ae:=(ae.gr hC).gr a2;replace af:=(af.gr hC).gr a2;replace ai:=(ai.gr hC).gr a2;replace aj:=(aj.gr hC).gr a2;replace ac:=(ac.gr hC).gr a2;replace ad:=(ad.gr hC).gr a2;replace ah:=(ah.gr hC).gr a2;replace aa:=(aa.grow hC).grow a2
    have hC:=hC0.bl bq;obtain ⟨fi,d9,hm⟩:=bZ hm;replace ai:=ai.gr hC;replace aj:=aj.gr hC;replace cn:=cn.gr hC;replace co:=co.gr hC;refine Zg (Zva 8 9 d9 ((ai.toSlF (Zj.int .u32)).froz 6) ((aj.froz 5 (by decide)).toSlF (Zj.int .u32)) ((cn.froz 5).froz 6) ((co.froz 5).froz 6)) ?_;rintro _ fj ⟨ea,fk,fl,fm,fn,rfl,ap,aq,ar⟩;refine ⟨_,rfl,?_⟩;replace aq:=aq.thaw (Zx .u32) ap (((Fz.refl (col:=bq)).froz 5).froz 6) (by decide);replace ar:=ar.thaw (Zx .u32) ap (((Fz.refl (col:=bq)).froz 5).froz 6) (by decide);replace ap:=ap.thawR (col:=bq);generalize Z6 d8.heap.size bq ea=cc at *;refine Zl<|X3 cc hC0 ap<|xe rfl rfl ?_;intro fp hC0;replace ae:=(ae.gr hC).gr ap;replace af:=(af.gr hC).gr ap;replace ac:=(ac.gr hC).gr ap;replace ad:=(ad.gr hC).gr ap;replace ah:=(ah.gr hC).gr ap;replace aa:=(aa.grow hC).grow ap;have hC:=hC0.bl cc;replace ah:=ah.gr hC;refine Z4 ah ?_;intro fq bd eb be;refine Zl<|xk cc<|Y5 ?_;replace ae:=(ae.gr hC).kp bd;replace af:=(af.gr hC).kp bd;replace aq:=(aq.gr hC).kp bd;replace ar:=(ar.gr hC).kp bd;replace ac:=(ac.gr hC).kp bd;replace ad:=(ad.gr hC).kp bd;replace aa:=(aa.grow hC).kp bd eb;intro fr hC;replace hC:=hC.bl cc;refine go ?_;replace ae:=ae.gr hC;replace ae:=ae.recol 8 5 (by decide);replace af:=af.gr hC;replace af:=af.recol 8 5 (by decide);replace aq:=aq.gr hC;replace aq:=aq.recolSelf 5 (by decide);replace ar:=ar.gr hC;replace ar:=ar.recol 8 5 (by decide);replace ac:=ac.gr hC;replace ac:=ac.recol 8 5 (by decide);replace ad:=ad.gr hC;replace ad:=ad.recol 8 5 (by decide);replace be:=be.gr hC;replace be:=be.recol 8 5 (by decide);replace aa:=aa.grow hC;replace aa:=aa.recol 8 5 (by decide) (by decide);replace ae:=ae.recol 9 6 (by decide);replace af:=af.recol 9 6 (by decide);replace aq:=aq.recol 9 6 (by decide);replace ar:=ar.recolSelf 6 (by decide);replace ac:=ac.recol 9 6 (by decide);replace ad:=ad.recol 9 6 (by decide);replace be:=be.recol 9 6 (by decide);replace aa:=aa.recol 9 6 (by decide) (by decide);exact ⟨cz.length,by simp,rfl,⟨_,_,_,_,_,_,_,_,_,_,rfl,dk,hm,aa,ac,ae,af,ad,aq,ar,be,(Yg (congrArg (Value.int .i64) (Yf (Nat.lt_of_lt_of_le dl (bo.ks aa).1.1))) rfl)⟩⟩
   | cons ft ec=>
    obtain ⟨an,ed,ee⟩:=Yc hl;have hk:(b5:Int)<(b4.length:Int):=by omega
    have hkb:=decide_eq_true hk;rw [Q2.eq_2] at hm;refine go ?_;refine Xz (congrArg Value.bool hkb)<|go ?_;refine lI an (a3.addr an)<|lW (a3.atInt an) ?_;refine go ?_;refine Uk (col:=ag) (by kernel_rfl) (by kernel_rfl)<|go ?_;refine qF ⟨_,_,rfl⟩ ?_;refine qW (fun _ hC=>((ac.atN).nth (q:=2) rfl).gr (hC.bl ag)) ?_;refine go ?_;obtain ⟨fu,cp,hm⟩:=bZ hm;refine qI cp ((au.ks aa).addr cp) ?_;obtain ⟨_,ef,eg⟩:=(au.ks aa).atN cp;obtain ⟨⟨fv,fw,rfl,fx⟩,_⟩:=ef;refine qW (fun _ hC=>eg.one.gr (hC.bl ag)) ?_;refine go ?_;obtain ⟨fy,cq,hm⟩:=bZ hm;refine qI cq ((h1.ks aa).addr cq)<|qW (fun _ hC=>((h1.ks aa).gr (hC.bl ag)).atInt cq) ?_;refine go ?_;refine Wt ?_;intro fz hC;replace hC:=hC.bl ag;refine go ?_;replace bc:=bc.gr hC;replace ae:=ae.gr hC;replace af:=af.gr hC;replace a3:=a3.gr hC;replace ai:=ai.gr hC;replace aj:=aj.gr hC;replace ac:=ac.gr hC;replace ad:=ad.gr hC;replace ah:=ah.gr hC;replace aa:=aa.grow hC;exact ⟨ec.length,by simp,rfl,⟨_,_,_,_,rfl,ed,hm,aa,bc,ac,ae,af,ad,a3,ai,aj,ah,(Yg (congrArg (Value.int .i64) (Yf (Nat.lt_of_lt_of_le ee a3.1.1))) rfl)⟩⟩
 | cons eh c0=>
  obtain ⟨an,ei,ej⟩:=Yc hl;have hk:(a5:Int)<(ak.length:Int):=by omega
  have hkb:=decide_eq_true hk;rw [Sb.eq_2] at hm;refine go ?_;refine Xz (congrArg Value.bool hkb)<|go ?_;refine lI an ((h1.ks aa).addr an)<|lW ((h1.ks aa).atInt an)<|Yk rfl<|Yk rfl<|Zl<|Zu ?_;refine Wp.cutK [1,2,28,29,30,4,1000000] (fun f br=>∃ bs cr,Zd8 a5 a6 al am (Sb N ab ak c0) cr=some r∧St w0 (Zi col) bs br∧Zh 27 1 bs br b7 #[.string ab.1,.slice bj ab.2.1.length bf,.slice bk ab.2.2.1.length bg,.slice bm ab.2.2.2.1.length bh,.slice bn ab.2.2.2.2.length bi]∧Zc (Za.int .u32) 79 3 bs br av aw al∧Zc (Za.int .u32) 79 4 bs br ax ay am∧Zh 47 2 bs br b8 #[.bool a6,.slice av al.length aw,.slice ax am.length ay]∧[46].map f=[.bool cr]) ?_ ?_
  ·intro f br hJ;obtain ⟨bs,cr,hm,aa,ac,ae,af,ad,hs⟩:=hJ;rw [Zd8.eq_1] at hm;refine .lL [46] hs ?_;refine Zo hm (fun hb hm=>go ?_) fun hb hm=>go ?_
   ·refine lV (.agg #[.bool false,.slice none (([]:List Int).length) 0,.slice none (([]:List Int).length) 0]) (Wb (l:=[_,_]) (qs:=[(0,2),(2,1)]) underlying47 zeroValue47 ⟨rfl,sizeOf45,rfl,sizeOf43,trivial⟩ rfl)<|Z4 ad ?_;intro f0 ek el em;refine go ?_;cases hm;replace aa:=aa.kp ek el;exact ⟨rfl,_,Vv em.atN,_,none,0,none,0,rfl,aa.fin (cm []),Zc.nil,Zc.nil⟩
   exact ⟨c0.length,by simp,rfl,⟨_,_,_,_,_,_,_,_,_,_,rfl,ei,hm,aa,ac,ae,af,ad,(Yg (congrArg (Value.int .i64) (Yf (Nat.lt_of_lt_of_le ej (h1.ks aa).1.1))) rfl)⟩⟩
  refine go ?_;refine X5 hm (fun cs hm=>go ?_) fun cs hm=>go ?_
  ·refine lV (.bool true) (Xq (congrArg Value.bool cs) rfl)<|Zl ?_;exact ⟨rfl,_,_,hm,aa,ac,ae,af,ad,rfl⟩
  refine Wg ⟨_,_,rfl⟩ ?_;refine go ?_;refine lW ((ac.atN).nth (q:=2) rfl)<|go ?_;obtain ⟨en,ct,hm⟩:=bZ hm;refine lI ct ((au.ks aa).addr ct) ?_;refine go ?_;obtain ⟨_,eo,ep⟩:=(au.ks aa).atN ct;obtain ⟨⟨f1,f2,rfl,f3⟩,_⟩:=eo;refine lW ep.one<|go ?_;refine lV (.bool (decide ((en.length:Int)≤eh))) (Xk (congrArg Value.bool cs) rfl)<|Zl ?_;exact ⟨rfl,_,_,hm,aa,ac,ae,af,ad,rfl⟩
def ent (n:Zz) (w:List Int) (v:Nat):Rat:=Xa ((Yp n w v).getD (w.getD v 0).toNat ((false,[]),[]))
def Wz (n:Zz) (w:List Int):List Int→Rat
 | []=>1
 | v :: l=>ent n w v.toNat * Wz n w l
def Yo (n:Zz) (w:List Int):Nat→Nat→Rat→Rat
 | 0,_,q=>q
 | m+1,k,q=>Yo n w m (k+1) (q * ent n w k)
section
variable {N:Nat} {n:Zz} (hf:Ys N n) {w:List Int} (hw:Wd n w)
include hf hw
theorem Ztv {ord:List Int} (ho:Tb n.2.2.2.1 ord):∀ (l:List Int) (s:Rat×Rat),(∀ y ∈ l,y ∈ ord)→(Sn n w l s).2 - (Sn n w l s).1=(s.2 - s.1) * Wz n w l
 | [],s,_=>by rw [Wz,Rat.mul_one];rfl
 | v :: l,s,he=>by
  have hvr:=ho.rg v (he v List.mem_cons_self)
  rw [hf.ev.p] at hvr
  have hv:v.toNat<n.2.1.length:=by omega
  have hwv:=hw.ok v.toNat (by rw [hw.len];exact hv)
  have hq:(w.getD v.toNat 0).toNat<(Yp n w v.toNat).length:=by rw [hf.rowT_len hw hv];omega
  have hp:=Zry (s.2 - s.1) (Yp n w v.toNat) s.1 _ hq
  rw [Sn,Ztv ho l _ fun y hy=>he y (List.mem_cons_of_mem _ hy),Wz,ent,Yl hq,← Rat.mul_assoc]
  congr 1
  generalize (Vj (s.2 - s.1) (Yp n w v.toNat) s.1).getD (w.getD v.toNat 0).toNat (0,0)=p at *
  rw [hp]
  grind
variable {W K:Nat} (hs:W6 n W) (hr:Xm N (8 * K+40)) (hWK:1025 * (W+2)+4≤K)
include hs hr hWK
omit hr hWK in
theorem Zxu {k:Nat} (hk:k<n.2.1.length):qs (ent n w k)≤W+1:=by
 have hwv:=hw.ok k (by rw [hw.len];exact hk)
 have hq:(w.getD k 0).toNat<(Yp n w k).length:=by rw [hf.rowT_len hw hk];omega
 rw [ent,Yl hq]
 obtain ⟨h1,h2⟩:=Zlg hf hs hk _ (Zju (List.getElem_mem hq))
 have:=Zsc h1
 omega
omit hs hr hWK in
theorem Zog {k:Nat} (hk:k<n.2.1.length) (a:Bool) (b c:List Int) (kk:Nat→Bool→List Int→List Int→Option (QV×Int)) (t:List QV):∀ (ps:List Int) (r kb:Nat),(∀ q ∈ ps,0≤q∧q<(n.2.1.length:Int))→r<kb→kb≤65536→Yy n.2.2.1 ps kb≤65536→
  Q2 N n w k a b c kk t ps (r:Int)=Q2 N n w k a b c kk t [] (U7 n w ps r:Int)
 | [],r,kb,_,_,_,_=>rfl
 | p :: ps,r,kb,hp,h1,h2,h3=>by
  obtain ⟨g1,g2,g3⟩:=Ztd hf.ev hw hp h1 h2 h3
  have hpp:=hp p List.mem_cons_self
  have hwp:=hw.ok p.toNat (by rw [hw.len];omega)
  have g4:r * cnt n p.toNat≤kb * cnt n p.toNat:=Nat.mul_le_mul_right _ (by omega)
  have q1:Zn n.2.2.1 p=some (n.2.2.1.getD p.toNat []):=by
   have:=T3 (l:=n.2.2.1) [] (j:=p.toNat) (by rw [hf.ev.v];omega)
   rwa [show ((p.toNat:Nat):Int)=p by omega] at this
  have q2:Zn w p=some (w.getD p.toNat 0):=by
   have:=T3 (l:=w) 0 (j:=p.toNat) (by rw [hw.len];omega)
   rwa [show ((p.toNat:Nat):Int)=p by omega] at this
  have e1:i64.wrap ((r:Int) * ((n.2.2.1.getD p.toNat []).length:Int))=((r * cnt n p.toNat:Nat):Int):=by
   rw [show ((n.2.2.1.getD p.toNat []).length:Int)=((cnt n p.toNat:Nat):Int) from rfl,← Int.natCast_mul]
   exact Zy (by omega)
  have e2:i64.wrap (((r * cnt n p.toNat:Nat):Int)+w.getD p.toNat 0)=((r * cnt n p.toNat+(w.getD p.toNat 0).toNat:Nat):Int):=by
   rw [Int.natCast_add,show (((w.getD p.toNat 0).toNat:Nat):Int)=w.getD p.toNat 0 by omega]
   exact Zy (by omega)
  rw [Q2.eq_2,q1,Option.bind_some,q2,Option.bind_some,e1,e2]
  exact Zog hk a b c kk t ps _ _ (fun q hq=>hp q (List.mem_cons_of_mem _ hq)) g1 g2 g3
theorem Zof:∀ (l:List (List QV)) (k:Nat) (q:Rat),n.2.2.2.2.drop k=l→k≤n.2.1.length→qs q≤k * (W+1)+1→Q1 N n w l k (Z9 q).1.1 (Z9 q).1.2 (Z9 q).2=some (Z9 (Yo n w l.length k q),0)
 | [],k,q,_,_,_=>rfl
 | t :: l,k,q,hd,hk,hq=>by
  have ht:=hf.ev.t
  have hle:=hf.le
  have hk1:k<n.2.2.2.2.length:=by
   rcases Nat.lt_or_ge k n.2.2.2.2.length with h | h
   ·exact h
   ·rw [List.drop_eq_nil_of_le h] at hd;cases hd
  have hv:k<n.2.1.length:=by omega
  rw [List.drop_eq_getElem_cons hk1] at hd
  obtain ⟨e1,e2⟩:=List.cons.inj hd
  have htd:n.2.2.2.2.getD k []=t:=by rw [Yl hk1];exact e1
  have hrows:=hf.rows hv
  have hrow:=hf.row hw hv
  have hwk:=hw.ok k (by rw [hw.len];exact hv)
  have h2:=Zog hf hw hv (Z9 q).1.1 (Z9 q).1.2 (Z9 q).2 (Q1 N n w l) t (n.2.2.2.1.getD k []) 0 1 (hf.pars hv) (by omega) (by omega) hrows.2.2
  rw [show ((0:Nat):Int)=0 from rfl] at h2
  have hj:(w.getD k 0).toNat<(Yp n w k).length:=by rw [hf.rowT_len hw hv];omega
  have e3:i64.wrap ((Vx n w k:Int) * ((n.2.2.1.getD k []).length:Int))=((Vx n w k * cnt n k:Nat):Int):=by
   rw [show ((n.2.2.1.getD k []).length:Int)=((cnt n k:Nat):Int) from rfl,← Int.natCast_mul]
   exact Zy (by omega)
  have e4:i64.wrap (((Vx n w k * cnt n k:Nat):Int)+w.getD k 0)=((Vx n w k * cnt n k+(w.getD k 0).toNat:Nat):Int):=by
   rw [Int.natCast_add,show (((w.getD k 0).toNat:Nat):Int)=w.getD k 0 by omega]
   exact Zy (by omega)
  have hat:Zn t ((Vx n w k * cnt n k+(w.getD k 0).toNat:Nat):Int)=some (Yp n w k)[(w.getD k 0).toNat]:=by
   rw [← htd];exact Z01 hj
  obtain ⟨y,hy⟩:∃ y,y=(Yp n w k)[(w.getD k 0).toNat]:=⟨_,rfl⟩
  obtain ⟨y1,y2⟩:=Zlg hf hs hv y (Zju (hy ▸ List.getElem_mem hj))
  have he:ent n w k=Xa y:=by rw [ent,Yl hj,hy]
  have hmul:k * (W+1)≤1024 * (W+1):=Nat.mul_le_mul_right _ (by omega)
  have hfit:W5 (Wf y):=by
   rw [Wf];split
   ·exact ⟨y1.1,by simp [Zm]⟩
   ·exact y1
  have hfk:RV (W+1) (Wf y):=by
   refine ⟨hfit.1,hfit.2,?_,?_⟩
   ·rw [Wf];split
    ·simp only;omega
    ·omega
   ·rw [Wf];split
    ·simp
    ·omega
  have f1:Za5 N ((y.1.1,y.1.2),y.2)=some (Wf y):=Zpf y1 y2 (hr.mono (by omega))
  have m1:Zdy N (((Z9 q).1.1,(Z9 q).1.2),(Z9 q).2) (((Wf y).1.1,(Wf y).1.2),(Wf y).2)=some (Z9 (q * ent n w k)):=by
   have:=Zx1 (Qj hq) hfk (hr.mono (by omega))
   rwa [Sk,Zli,← he] at this
  have hqs:=Zz3 q (ent n w k)
  have hqe:=Zxu hf hw hs hv
  have ih:=Zof l (k+1) (q * ent n w k) e2 (by omega) (by rw [Nat.add_mul,Nat.one_mul];omega)
  rw [Q1.eq_2,T3 [] (by rw [hf.ev.p];exact hv),Option.bind_some,h2,← Vx,Q2.eq_1,T3 [] (by rw [hf.ev.v];exact hv),Option.bind_some,T3 0 (by rw [hw.len];exact hv),Option.bind_some,e3,e4,hat,← hy,Option.bind_some,f1,Option.bind_some,m1,Option.bind_some,List.length_cons,Yo]
  exact ih
end
theorem Zoe {N:Nat} {n:Zz} (he:Um n) (hl:n.2.1.length≤1048576) (w:List Int) (hw:w.length=n.2.1.length):∀ (l:List Int) (k:Nat) (b:Bool) (l1 l2:List Int),w.drop k=l→k≤w.length→Sb N n w l k b l1 l2=if V1 n l k=true then Sb N n w [] w.length b l1 l2 else some (((false,([]:List Int)),([]:List Int)),3)
 | [],k,b,l1,l2,hd,h1=>by
  have:=List.drop_eq_nil_iff.1 hd
  rw [V1,if_pos rfl,show k=w.length by omega]
 | x :: l,k,b,l1,l2,hd,h1=>by
  have hk:k<w.length:=by
   rcases Nat.lt_or_ge k w.length with h | h
   ·exact h
   ·rw [List.drop_eq_nil_of_le h] at hd;cases hd
  rw [List.drop_eq_getElem_cons hk] at hd
  obtain ⟨e1,e2⟩:=List.cons.inj hd
  rw [Sb.eq_2,V1]
  by_cases hx:x<0
  ·rw [if_pos (decide_eq_true hx),Zd8,if_pos rfl,decide_eq_true hx];rfl
  ·rw [if_neg (by rw [decide_eq_false hx];decide),T3 [] (by rw [he.v];omega),Option.bind_some,Zd8,decide_eq_false hx]
   by_cases hc:(cnt n k:Int)≤x
   ·rw [show ((n.2.2.1.getD k []).length:Int)=(cnt n k:Int) from rfl,decide_eq_true hc,if_pos rfl];rfl
   ·rw [show ((n.2.2.1.getD k []).length:Int)=(cnt n k:Int) from rfl,decide_eq_false hc,if_neg (by decide),Zoe he hl w hw l (k+1) b l1 l2 e2 (by omega)];rfl
theorem Zoh {N W K:Nat} {n:Zz} (hf:Ys N n) (hs:W6 n W) (hr:Xm N (8 * K+40)) (hWK:1025 * (W+2)+4≤K) (hN:2000000<N) (hC:Ur N n=some 0) (w:List Int):
  ∃ p e,Za2 N n w=some (p,e)∧((e≠0∧(decide (w.length=n.2.1.length)&&V1 n w 0)=false)∨(e=0∧Wd n w∧p=Z9 (Yo n w n.2.1.length 0 1))):=by
 have hC':Ur N (n.1,n.2.1,n.2.2.1,n.2.2.2.1,n.2.2.2.2)=some 0:=hC
 have hle:=hf.le
 rw [Za2,hC',Option.bind_some,if_neg (by decide)]
 by_cases hlen:w.length=n.2.1.length
 ·rw [if_neg (show ¬ (!decide ((w.length:Int)=(n.2.1.length:Int)))=true by rw [decide_eq_true (by omega)];decide),Zoe hf.ev (by omega) w hlen w 0 false [] [] rfl (Nat.zero_le _)]
  cases hin:V1 n w 0 with
  | false=>rw [if_neg (show ¬ false=true by decide)];exact ⟨_,3,rfl,.inl ⟨by decide,by simp⟩⟩
  | true=>
   have hw:=Zyc hlen hin
   have h2:=Zof hf hw hs hr hWK n.2.2.2.2 0 1 rfl (Nat.zero_le _) (by rw [Zj5];omega)
   rw [if_pos rfl,Sb.eq_1,Zmc (hr.mono (by omega)),Option.bind_some,h2,hf.ev.t]
   exact ⟨_,0,rfl,.inr ⟨rfl,hw,rfl⟩⟩
 ·rw [if_pos (show (!decide ((w.length:Int)=(n.2.1.length:Int)))=true by rw [decide_eq_false (by omega)];rfl)]
  exact ⟨_,60,rfl,.inl ⟨by decide,by rw [decide_eq_false hlen];rfl⟩⟩
theorem Zzn {n:Zz} {l:List Int} (ho:Vz n.2.2.2.1 l) (hl:l.length=n.2.2.2.1.length) (hp:n.2.2.2.1.length=n.2.1.length):∀ i,i<n.2.1.length→(i:Int) ∈ l:=fun i hi=>by
 apply Classical.byContradiction
 intro hn
 have h1:=Ze8 (l:=(i:Int) :: l) (r:=(List.range n.2.2.2.1.length).map fun j:Nat=>(j:Int)) (List.nodup_cons.2 ⟨hn,ho.1⟩) fun x hx=>by
  rw [List.mem_map]
  rcases List.mem_cons.1 hx with rfl | hx
  ·exact ⟨i,List.mem_range.2 (by omega),rfl⟩
  ·have:=ho.2.1 x hx
   exact ⟨x.toNat,List.mem_range.2 (by omega),by omega⟩
 rw [List.length_map,List.length_range,List.length_cons] at h1
 omega
theorem Zyd {n:Zz} {w:List Int} (hd:Wd n w):(decide (w.length=n.2.1.length)&&V1 n w 0)=true:=by
 have:∀ (l:List Int) (j:Nat),w.drop j=l→V1 n l j=true:=by
  intro l
  induction l with
  | nil=>intro j _;rfl
  | cons x l ihl=>
   intro j hj
   have hjl:j<w.length:=by
    rcases Nat.lt_or_ge j w.length with h | h
    ·exact h
    ·rw [List.drop_eq_nil_of_le h] at hj;cases hj
   rw [List.drop_eq_getElem_cons hjl] at hj
   obtain ⟨a1,a2⟩:=List.cons.inj hj
   have hok:=hd.ok j hjl
   rw [Yl hjl,a1] at hok
   rw [V1,ihl (j+1) a2,decide_eq_false (by omega),decide_eq_false (by omega)];rfl
 rw [this w 0 (by rw [List.drop_zero]),Bool.and_true]
 exact decide_eq_true hd.len
/-! the probability is the interval's length -/
theorem Zr3 {n:Zz} {w:List Int} {l r:List Int} (h:l.Perm r):Wz n w l=Wz n w r:=by
 induction h with
 | nil=>rfl
 | cons x _ ih=>rw [Wz,Wz,ih]
 | swap x y l=>rw [Wz,Wz,Wz,Wz,← Rat.mul_assoc,← Rat.mul_assoc,Rat.mul_comm (ent n w y.toNat)]
 | trans _ _ h1 h2=>rw [h1,h2]
theorem Zmp (n:Zz) (w:List Int):∀ (m k:Nat) (q:Rat),Yo n w m k q=q * Wz n w ((List.range' k m).map fun i:Nat=>(i:Int))
 | 0,k,q=>by rw [Yo,List.range'_zero,List.map_nil,Wz,Rat.mul_one]
 | m+1,k,q=>by rw [Yo,Zmp n w m,List.range'_succ,List.map_cons,Wz,Int.toNat_natCast,Rat.mul_assoc]
theorem Zrj {n:Zz} {ord:List Int} (he:Um n) (ho:Tb n.2.2.2.1 ord) (hall:∀ i,i<n.2.1.length→(i:Int) ∈ ord):ord.Perm ((List.range' 0 n.2.1.length).map fun i:Nat=>(i:Int)):=by
 refine (List.perm_ext_iff_of_nodup ho.nd ?_).2 fun x=>?_
 ·rw [← List.range_eq_range']
  refine List.Pairwise.map _ (fun a b hab=>?_) List.nodup_range
  intro h;exact hab (Int.ofNat.inj h)
 ·rw [List.mem_map]
  constructor
  ·intro hx
   have:=ho.rg x hx
   rw [he.p] at this
   exact ⟨x.toNat,by rw [List.mem_range'_1];omega,by omega⟩
  ·rintro ⟨i,hi,rfl⟩
   rw [List.mem_range'_1] at hi
   exact hall i (by omega)
section
variable {N:Nat} {n:Zz} (hf:Ys N n) {ord:List Int} (ho:Tb n.2.2.2.1 ord)
include hf ho
theorem Z1a {w:List Int} (hw:Wd n w) (hall:∀ i,i<n.2.1.length→(i:Int) ∈ ord):(Sn n w ord (0,1)).2 - (Sn n w ord (0,1)).1=Yo n w n.2.1.length 0 1:=by
 have h:=Ztv hf hw ho ord (0,1) fun _ h=>h
 have e:((0:Rat),(1:Rat)).2 - ((0:Rat),(1:Rat)).1=1:=by show (1:Rat) - 0=1;grind
 rw [e,Rat.one_mul] at h
 rw [h,Zmp,Rat.one_mul,Zr3 (Zrj hf.ev ho hall)]
/-! a point of an interval -/
variable (hall:∀ i,i<n.2.1.length→(i:Int) ∈ ord)
include hall
end
theorem Zxh:Yw Tryz.prog 3 1 8:=⟨Tryz.t3,_,rfl,rfl,rfl,rfl,rfl⟩
def Zbm (aa:List Int):Option R2:=
  Zw ((([]:List Int).length+aa.length) * 8≤140737488355328∧([]:List Int).length+aa.length≤maxLen) (some (([]:List Int)++aa))
theorem Zk6 {ad:Nat} {a0:Option Addr} {col:Zd} {w0:World} {ac r:R2} (c1:Nat) (hm:Zbm ac=some r) (h0:Sl (Za.int .i64) col w0 a0 ad ac):
    Calls Tryz.prog 143 #[.slice a0 ac.length ad] w0 (fun e w'=>∃ (col':Zd) (ra1:Option Addr) (rc2:Nat),e= .returned ((.slice ra1 r.length rc2))∧Zf col w0 col' w'∧Zc (Za.int .i64) 3 c1 col' w' ra1 rc2 r):=by
 refine Xc 2 (m:=8) func143 rfl rfl rfl rfl rfl ?_;rw [Zbm.eq_1] at hm;have aa:=St.start col w0;refine go ?_;replace h0:=h0.keep (Zk.start col w0);rcases Zjx h0 with ab | ab
 ·replace hm:some ([]:List Int)=some r:=by have h0:=ab.2;subst h0;simpa [Zw,maxLen] using hm
  refine lv (v:=.bool a0.isNone) rfl rfl (Zbq underlying40 rfl)<|.ld (d:=4) (v:=.bool true) (congrArg Value.bool ab.1)<|Zl<|Xz rfl<|go ?_;cases hm;exact ⟨rfl,_,none,0,rfl,aa.fin (cm []),Zc.nil⟩
 refine lv (v:=.bool a0.isNone) rfl rfl (Zbq underlying40 rfl)<|.ld (d:=4) (v:=.bool false) (congrArg Value.bool ab)<|Zl<|Xv rfl<|go ?_;refine Zfv (col:=(Zi col)) (r:=(Za.int .i64)) 1 rfl underlying40 Zxh rfl ?_;intro aj ak al ae af;refine Yu rfl ?_;obtain ⟨ag,hm⟩:=Z0 hm;replace h0:=h0.gr ae;refine V2 af h0.srcC ag ?_;intro am an ao ap ah ai;refine go ?_;cases hm;replace aa:=(aa.grow ae).kpp ah;exact ⟨rfl,_,_,_,rfl,aa.fin (cm [(1,c1)]),aa.fo ai⟩
def Zag:List Int→Int→Option R6
  | [],aa=>some (aa,0)
  | ab :: ac,aa=>Zw (aa≠0) (if (decide ((i64.wrap (Int.tdiv 2147483647 aa))<ab))=true then (some (0,4)) else ((Zag ac) (i64.wrap (aa * ab))))
termination_by structural x=>x
def Zg5 (kk_L1:(Bool→Option R6)) (aa:Bool):Option R6:=
  kk_L1 aa
def Qf (aa:List Int):List Int→Bool→Option R6
  | [],ab=>if ab=true then (some (0,0)) else (Zag aa 1)
  | ac :: ad,ab=>if (decide (ac<0))=true then (some (0,3)) else (if ab=true then (Zg5 (Qf aa ad) true) else (Zg5 (Qf aa ad) (decide (ac=0))))
termination_by structural x=>x
def Zbi (aa:List Int):Option R6:=
  Qf aa aa false
theorem Zij {ai:Nat} {a0:Option Addr} {col:Zd} {w0:World} {ab:R2} {r:R6} (hm:Zbi ab=some r) (h0:Sl (Za.int .i64) col w0 a0 ai ab):
    Calls Tryz.prog 169 #[.slice a0 ab.length ai] w0 (fun e w'=>e= .returned (.tuple #[.int .i64 r.1,.int .i64 r.2])∧Below w0.heap.size w0 w'):=by
 refine Zdj 2 3 (m:=40) (args:=[.slice a0 ab.length ai]) func169 rfl rfl rfl rfl rfl ?_;rw [Zbi.eq_1] at hm;have aa:=St.start col w0;refine go ?_;refine Z2 [0,10,11,1000000] (fun n f am=>∃ an ad aj ae,n=ae.length∧ab.drop ad=ae∧Qf ab ae aj=some r∧St w0 (Zi col) an am∧[12,4].map f=[.int .i64 ad,.bool aj]) ab.length ⟨_,0,_,_,rfl,rfl,hm,aa,rfl⟩ ?_;clear hm;intro n f am hI;obtain ⟨an,ad,aj,ae,hn,hl,hm,aa,hs⟩:=hI;subst hn;refine .lL [12,4] hs ?_;replace h0:=h0.keep (Zk.start col w0)
 cases ae with
 | nil=>
  have hk:¬ ((ad:Int)<(ab.length:Int)):=by have:=List.drop_eq_nil_iff.1 hl;omega
  have hkb:=decide_eq_false hk;rw [Qf.eq_1] at hm;refine go ?_;refine Xv (congrArg Value.bool hkb)<|go ?_;refine Zo hm (fun hb hm=>go ?_) fun hb hm=>go ?_
  ·cases hm;exact ⟨rfl,rfl,aa.below⟩
  refine Z2 [25,26,1000000] (fun n f ao=>∃ ap af ag ah,n=ah.length∧ab.drop af=ah∧Zag ah ag=some r∧St w0 (Zi col) ap ao∧[27,7].map f=[.int .i64 af,.int .i64 ag]) ab.length ⟨_,0,1,_,rfl,rfl,hm,aa,rfl⟩ ?_;clear hm;intro n f ao hI;obtain ⟨ap,af,ag,ah,hn,hl,hm,aa,hs⟩:=hI;subst hn;refine .lL [27,7] hs ?_
  cases ah with
  | nil=>
   have hk:¬ ((af:Int)<(ab.length:Int)):=by have:=List.drop_eq_nil_iff.1 hl;omega
   have hkb:=decide_eq_false hk;rw [Zag.eq_1] at hm;refine go ?_;refine Xv (congrArg Value.bool hkb)<|go ?_;cases hm;exact ⟨rfl,rfl,aa.below⟩
  | cons a3 av=>
   obtain ⟨ac,aw,ax⟩:=Yc hl;have hk:(af:Int)<(ab.length:Int):=by omega
   have hkb:=decide_eq_true hk;rw [Zag.eq_2] at hm;refine go ?_;refine Xz (congrArg Value.bool hkb)<|go ?_;refine lI ac ((h0.ks aa).addr ac)<|lW ((h0.ks aa).atInt ac) ?_;refine go ?_;obtain ⟨ay,hm⟩:=Z0 hm;refine lV (.int .i64 (i64.wrap (Int.tdiv 2147483647 ag))) (Vl 2147483647 ag rfl rfl ay)<|go ?_;refine Zo hm (fun hb hm=>go ?_) fun hb hm=>go ?_
   ·cases hm;exact ⟨rfl,rfl,aa.below⟩
   exact ⟨av.length,by simp,rfl,⟨_,_,_,_,rfl,aw,hm,aa,(Yg (congrArg (Value.int .i64) (Yf (Nat.lt_of_lt_of_le ax (h0.ks aa).1.1))) rfl)⟩⟩
 | cons az aq=>
  obtain ⟨ac,a1,a2⟩:=Yc hl;have hk:(ad:Int)<(ab.length:Int):=by omega
  have hkb:=decide_eq_true hk;rw [Qf.eq_2] at hm;refine go ?_;refine Xz (congrArg Value.bool hkb)<|X7<|Zu ?_;refine Wp.cutK [0,10,11,12,1000000] (fun f ar=>∃ au ak,Zg5 (Qf ab aq) ak=some r∧St w0 (Zi col) au ar∧[4].map f=[.bool ak]) ?_ ?_
  ·intro f ar hJ;obtain ⟨au,ak,hm,aa,hs⟩:=hJ;rw [Zg5.eq_1] at hm;refine .lL [4] hs<|go ?_;exact ⟨aq.length,by simp,rfl,⟨_,_,_,_,rfl,a1,hm,aa,(Yg (congrArg (Value.int .i64) (Yf (Nat.lt_of_lt_of_le a2 (h0.ks aa).1.1))) rfl)⟩⟩
  refine go ?_;refine lI ac ((h0.ks aa).addr ac)<|lW ((h0.ks aa).atInt ac) ?_;refine go ?_;refine Zo hm (fun hb hm=>go ?_) fun hb hm=>go ?_
  ·cases hm;exact ⟨rfl,rfl,aa.below⟩
  refine X5 hm (fun al hm=>go ?_) fun al hm=>go ?_
  ·refine lV (.bool true) (Xq (congrArg Value.bool al) rfl)<|go ?_;exact ⟨rfl,_,_,hm,aa,rfl⟩
  refine lV (.bool (decide (az=0))) (Xk (congrArg Value.bool al) rfl)<|go ?_;exact ⟨rfl,_,_,hm,aa,rfl⟩
def Zbk (N:Nat) (ab:List Int):Nat→Int→Option Ra
  | 0,_=>none
  | ac+1,aa=>if (decide (0≤aa))=true then ((Zn ab aa).bind fun ad=>((Zbk N ab ac) (i64.wrap (aa - 1))).bind fun ae=>some ((aa,ad) :: ae)) else (some [])
termination_by structural x=>x
def Zjn (N:Nat) (aa:List Int):Option Ra:=
  Zbk N aa N (i64.wrap ((aa.length:Int) - 1))
theorem Zwc (N:Nat) (col:Zd) (w0:World) (g0:Nat) (af0:Option Addr) (capf0:Nat) (ab:List Int) (hf0:Sl (Za.int .i64) col w0 af0 capf0 ab) (hb0:Zh 40 450 col w0 g0 #[.slice af0 ab.length capf0]) (r:List R6) (hm:Zjn N ab=some r):
    Zda Tryz.prog 1 293 [.pointer (some ⟨g0,0,none⟩)] (fun (y:Int×Int) (col:Zd) (w:World) (args:List Value)=>args=[.int .i64 y.1,.int .i64 y.2]) r col w0:=by
 intro l J X hjs hxs hy aa;refine Zbz (m:=19) (args:=[.func (.yield l) #[] #[],.pointer (some ⟨g0,0,none⟩)]) func293 rfl rfl rfl rfl ?_;rw [Zjn.eq_1] at hm;refine go ?_;refine lW hb0.at1<|go ?_;refine Z2 [0,1,1000000] (fun n f ad=>∃ ae r af ac,ac=n∧Zbk N ab ac af=some r∧J r ae ad∧Sl (Za.int .i64) ae ad af0 capf0 ab∧Zh 40 450 ae ad g0 #[.slice af0 ab.length capf0]∧[3].map f=[.int .i64 af]) N ⟨_,_,_,_,rfl,hm,aa,hf0,hb0,rfl⟩ ?_;clear hm;intro n f ad hI;obtain ⟨ae,r,af,ac,hn,hm,aa,hf0,hb0,hs⟩:=hI;subst hn;refine .lL [3] hs ?_
 cases ac with
 | zero=>rw [Zbk.eq_1] at hm;cases hm
 | succ ac=>
  rw [Zbk.eq_2] at hm;refine go ?_;refine Zo hm (fun hb hm=>go ?_) fun hb hm=>go ?_
  ·refine lM (.func (.yield l) #[] #[])<|X9 rfl<|lW hb0.at1<|X9 rfl ?_;obtain ⟨ai,ag,hm⟩:=bZ hm;refine lI ag (hf0.addr ag)<|lW (hf0.atInt ag) ?_;obtain ⟨ak,hc_8m,aj⟩:=bZ hm;cases aj;have hm:=hc_8m;refine ly2 rfl rfl rfl rfl (hy _ _ _ _ [.int .i64 af,.int .i64 ai] aa rfl) ?_;rintro _ al ⟨am,ah,⟨rfl,hJ⟩ | ⟨rfl,hX⟩⟩
   ·refine ⟨_,rfl,?_⟩;have aa:=hJ;refine go ?_;refine Xv rfl<|go ?_;replace hf0:=hf0.kpp ah;replace hb0:=hb0.kpp ah;exact ⟨ac,by omega,rfl,⟨_,_,_,_,rfl,hm,aa,hf0,hb0,rfl⟩⟩
   refine ⟨_,rfl,?_⟩;have aa:=hX;refine go ?_;refine Xz rfl<|W0 ?_;exact ⟨rfl,⟨_,rfl⟩,_,.inr aa⟩
  cases hm;exact ⟨rfl,⟨_,rfl⟩,_,.inl aa⟩
def Zjm (N:Nat) (aa:List Int):Option Ra:=
  Zjn N aa
theorem Zwb {N ac:Nat} {a0:Option Addr} {col:Zd} {w0:World} {aa:R2} {r:Ra} (hm:Zjm N aa=some r) (h0:Sl (Za.int .i64) col w0 a0 ac aa):
    Calls Tryz.prog 279 #[.slice a0 aa.length ac] w0 (fun e w'=>∃ (col':Zd) (rv1:Value),e= .returned (rv1)∧Zf col w0 col' w'∧It Tryz.prog 1 rv1 (fun (y:Int×Int) (col:Zd) (w:World) (args:List Value)=>args=[.int .i64 y.1,.int .i64 y.2]) r q0 col' w'):=by
 refine Xc 2 (m:=4) func279 rfl rfl rfl rfl rfl ?_;rw [Zjm.eq_1] at hm;have ab:=St.start col w0;refine go ?_;refine Sv (col:=(Zi col)) (v:=(.slice a0 aa.length ac)) 1 rfl rfl ?_;intro ad ai ag aj ae;replace ae:Zh 40 1 ag ai ad #[.slice a0 aa.length ac]:=ae;refine lv (v:=_) rfl rfl (Vu rfl)<|go ?_;refine lV (.func (.func 293) #[] #[.pointer (some ⟨ad,0,none⟩)]) (Zsl rfl)<|lA (.func (.func 293) #[] #[.pointer (some ⟨ad,0,none⟩)])<|go ?_;replace ab:=ab.grow aj;have af:=ab.finBox (G:=(fun n=>bif Nat.beq n 1 then 450 else 0)) ae (by decide) (by decide) (show (fun n=>bif Nat.beq n 1 then 450 else 0) 1=450 from rfl);replace h0:=h0.keep (Zk.start col w0);have h0f:=ab.finSl (g:=(fun n=>bif Nat.beq n 1 then 450 else 0)) rfl (h0.ks ab);refine ⟨rfl,Wr w0.heap.size col ag (fun n=>bif Nat.beq n 1 then 450 else 0),_,rfl,ab.fin (fun n=>bif Nat.beq n 1 then 450 else 0),293,[.pointer (some ⟨ad,0,none⟩)],rfl,call293,?_⟩;intro col9 w9 ah hk9;replace af:=af.itk ah hk9 rfl;replace h0f:=h0f.itk ah hk9 rfl;exact Zwc N col9 w9 ad a0 ac aa h0f af r hm
def Zbj:List R6→Int→R2→Option R2
  | [],ac,ab=>some ab
  | aa :: ad,ac,ab=>Zw (aa.2≠0) ((Zn ab aa.1).bind fun af=>(some (ab.set (Int.toNat aa.1) (Int.tmod ac aa.2))).bind fun ae=>Zw (aa.2≠0) ((Zbj ad) (i64.wrap (Int.tdiv ac aa.2)) ae))
termination_by structural x=>x
def Zg6 (N:Nat) (aa:List Int) (ab:Int):Option R2:=
  if (decide ((aa.length:Int)=0))=true then (some ([]:List Int)) else (Zw (aa.length * 8≤281474976710656∧aa.length≤maxLen) ((Zjm N aa).bind fun ac=>Zbj ac ab (List.replicate aa.length (0:Int))))
theorem Zv9 {N a1:Nat} {a0:Option Addr} {col:Zd} {w0:World} {ag:R2} {am:Int} {r:R2} (c1:Nat) (hm:Zg6 N ag am=some r) (h0:Sl (Za.int .i64) col w0 a0 a1 ag):
    Calls Tryz.prog 240 #[.slice a0 ag.length a1,.int .i64 am] w0 (fun e w'=>∃ (col':Zd) (ra1:Option Addr) (rc2:Nat),e= .returned ((.slice ra1 r.length rc2))∧Zf col w0 col' w'∧Zc (Za.int .i64) 3 c1 col' w' ra1 rc2 r):=by
 refine Zod 4 (mc:=499) (m:=28) (args:=[.slice a0 ag.length a1,.int .i64 am]) func240 rfl rfl rfl rfl rfl ?_;rw [Zg6.eq_1] at hm;have aa:=St.start col w0;replace h0:=h0.keep (Zk.start col w0);have hmk:Xw 499 (Zi col) w0 []:=.nil;refine go ?_;refine Sv (col:=(Zi col)) (v:=(.int .i64 am)) 1 rfl rfl ?_;intro a2 a9 a3 ba ac;replace ac:Zh 3 1 a3 a9 a2 #[.int .i64 am]:=ac;refine go ?_;replace hmk:=hmk.gr ba;replace aa:=aa.grow ba;refine Zo hm (fun hb hm=>go ?_) fun hb hm=>go ?_
 ·cases hm;refine ⟨_,[],rfl,hmk,?_⟩;intro bz bh bi;replace aa:=aa.kp bh bi;exact ⟨Wr w0.heap.size col a3 (fun n=>0),none,0,rfl,aa.fin (fun n=>0),Zc.nil⟩
 obtain ⟨bb,hm⟩:=Z0 hm;refine Sx (col:=a3) (w:=a9) (r:=(Za.int .i64)) (n:=ag.length) (x0:=0) 2 rfl underlying40 Tryz.t3 rfl rfl rfl rfl rfl rfl rfl bb.1 bb.2 (V5 .i64 0) ?_;intro a4 b0 bj a5 a6;refine Su (col:=bj) (v:=(.slice none (([]:List Int).length) 0)) 3 rfl zeroValue40 ?_;intro ar bk bc au a7;replace a7:Zh 40 3 bc bk ar #[.slice none (([]:List Int).length) 0]:=a7;refine Wy (v:=(.slice a4 ((List.replicate ag.length (0:Int)).length) ag.length)) a7 sizeOf40 rfl rfl (by intro u hu;simp only [Value.cells,List.mem_cons,List.not_mem_nil,or_false] at hu;subst hu;rfl) rfl rfl ?_;intro bm av bn ab;replace ab:Zh 40 3 bc bm ar #[.slice a4 ((List.replicate ag.length (0:Int)).length) ag.length]:=ab;refine go ?_;obtain ⟨bo,bp,hm⟩:=bZ hm;replace aa:=((aa.grow a5).grow au).kp av bn;refine Zg (Zwb bp (h0.ks aa)) ?_;rintro _ b1 ⟨bq,b2,rfl,aq,br⟩;refine ⟨_,rfl,go ?_⟩;replace ac:=(((ac.gr a5).gr au).kp av).gr aq;replace hmk:=(((hmk.gr a5).gr au).kp av).gr aq;replace a6:=((a6.gr au).kp av).gr aq;replace ab:=ab.gr aq;replace aa:=aa.grow aq;refine Zc8 (psl:=[16,17]) (arr:=(fun (y:Int×Int) (col:Zd) (w:World) (args:List Value)=>args=[.int .i64 y.1,.int .i64 y.2])) (ys:=bo) (col:=bq) 498 rfl br rfl hmk rfl rfl (by rintro _ _ _ _ rfl;rfl) (fun ys_ ad al=>∃ (ae:Int) (ai:Option Addr) (aj:Nat) (ak:List Int),Zbj ys_ ae ak=some r∧St w0 (Zi col) ad al∧Zh 3 1 ad al a2 #[.int .i64 ae]∧Zc (Za.int .i64) 3 2 ad al ai aj ak∧Zh 40 3 ad al ar #[.slice ai ak.length aj]) (fun _ _ _=>False) ?_ ?_ ⟨am,a4,ag.length,(List.replicate ag.length (0:Int)),hm,aa,ac,a6,ab⟩ ?_ ?_ ?_
 ·intro ys_ ad al col2_ w2_ hJ hk;obtain ⟨ae,ai,aj,ak,hm,aa,ac,af,ab⟩:=hJ;exact ⟨ae,ai,aj,ak,hm,aa.kpp hk rfl rfl,ac.kpp hk rfl,af.kpp hk rfl rfl,ab.kpp hk rfl⟩
 ·intro _ _ _ _ _ h _;exact h
 ·intro b3 b4 b5 ah b6 ad al args hJ hrec hmk harr;obtain ⟨ae,ai,aj,ak,hm,aa,ac,af,ab⟩:=hJ;rw [Zbj.eq_2] at hm;have hki:=Zt.refl (pC 1) ad al;subst harr;refine go ?_;refine ⟨_,hrec,?_⟩;intro b7 b8 an bd hrec2;have hrec:=hrec2;refine go ?_;refine Wi (col:=ad) [(0,0),(1,1),(2,0),(3,1),(4,1),(5,1),(6,2)] (by kernel_rfl) (by kernel_rfl) ?_;replace ab:=ab.kp an;refine xW (fun _ hC=>ab.at1.gr (hC.bl ad)) ?_;refine xu rfl rfl (fun _=>Y4 rfl) ?_;replace ac:=ac.kp an;refine xW (fun _ hC=>ac.at1.gr (hC.bl ad)) ?_;refine xu rfl rfl (fun _=>Y4 rfl) ?_;obtain ⟨bs,hm⟩:=Z0 hm;refine xu (v:=(.int .i64 (Int.tmod ae ah.2))) rfl rfl (fun _=>Tw ae ah.2 rfl rfl bs) ?_;obtain ⟨b9,aw,hm⟩:=bZ hm;replace af:=af.kp an;refine xu rfl rfl (fun _=>Y3 underlying40 sizeOf3 rfl rfl (Xg aw).1 (Xg aw).2.1 (af.addr aw)) ?_;refine xe rfl rfl ?_;intro ca hC0;have hC:=hC0.bl ad;obtain ⟨ax,ay,hm⟩:=bZ hm;have ay:ax=ak.set (Int.toNat ah.1) (Int.tmod ae ah.2):=(Option.some.inj ay).symm;replace af:=af.gr hC;refine Y2 (x1:=Int.tmod ae ah.2) af aw ?_;intro bt ao be az;rw [← ay] at az;replace ab:=(ab.gr hC).kp ao;replace ab:Zh 40 3 ad bt ar #[.slice ai ax.length aj]:=by rw [← (show ak.length=ax.length by rw [ay,List.length_set])];exact ab
  refine Zl<|xk ad<|Y5 ?_;replace hmk:=((hmk.kp an).gr hC).kp ao;replace hki:=((hki.kp an bd rfl).gr hC).kp ao be rfl;replace aa:=((aa.kp an bd).grow hC).kp ao be;replace ac:=(ac.gr hC).kp ao;replace hrec:=(hrec.gr hC).kp ao;intro cb hC;replace hC:=hC.bl ad;refine Wn ?_;replace ac:=ac.gr hC;refine lW ac.at1<|X9 rfl ?_;obtain ⟨bu,hm⟩:=Z0 hm;refine lV (.int .i64 (i64.wrap (Int.tdiv ae ah.2))) (Vl ae ah.2 rfl rfl bu)<|Wy (v:=(.int .i64 (i64.wrap (Int.tdiv ae ah.2)))) ac sizeOf3 rfl rfl (by intro u hu;simp only [Value.cells,List.mem_cons,List.not_mem_nil,or_false] at hu;subst hu;rfl) rfl rfl ?_;intro bv ap bf a8;replace a8:Zh 3 1 ad bv a2 #[.int .i64 (i64.wrap (Int.tdiv ae ah.2))]:=a8;refine Zl ?_;replace az:=(az.gr hC).kp ap;replace ab:=(ab.gr hC).kp ap;replace hrec:=(hrec.gr hC).kp ap;replace hmk:=(hmk.gr hC).kp ap;replace hki:=(hki.gr hC).kp ap bf rfl;replace aa:=(aa.grow hC).kp ap bf;exact ⟨_,hki,⟨(i64.wrap (Int.tdiv ae ah.2)),ai,aj,ax,hm,aa,a8,az,ab⟩,hrec,hmk⟩
 ·intro bw ad al hJ hmk;obtain ⟨ae,ai,aj,ak,hm,aa,ac,af,ab⟩:=hJ;rw [Zbj.eq_1] at hm;refine go ?_;refine lW ab.at1<|go ?_;cases hm;refine ⟨_,(bw :: []),rfl,hmk,?_⟩;intro cc bg bx;replace af:=af.kp bg;replace aa:=aa.kp bg bx;exact ⟨Wr w0.heap.size col ad (fun n=>bif Nat.beq n 2 then c1 else 0),ai,aj,rfl,aa.fin (fun n=>bif Nat.beq n 2 then c1 else 0),aa.finOwn (g:=(fun n=>bif Nat.beq n 2 then c1 else 0)) rfl af (by decide) (by decide) rfl⟩
 intro _ _ _ _ h;exact h.elim
def Zbh (N:Nat) (ab:Int) (ac:List Int):Nat→Int→Option (List R5)
  | 0,_=>none
  | ad+1,aa=>if (decide (aa<ab))=true then ((Zg6 N ac aa).bind fun ae=>((Zbh N ab ac ad) (i64.wrap (aa+1))).bind fun af=>some ((aa,ae) :: af)) else (some [])
termination_by structural x=>x
def Zjk (N:Nat) (aa:Int) (ab:List Int):Option (List R5):=
  Zbh N aa ab N 0
theorem Zv7 (N:Nat) (cy:Nat) (col:Zd) (w0:World) (g0:Nat) (ah:Int) (hb0:Zh 3 450 col w0 g0 #[.int .i64 ah]) (g1:Nat) (af1:Option Addr) (capf1:Nat) (ad:List Int) (hf1:Zc (Za.int .i64) 3 450 col w0 af1 capf1 ad) (hb1:Zh 40 450 col w0 g1 #[.slice af1 ad.length capf1]) (r:List R5) (hm:Zjk N ah ad=some r):
    Zda Tryz.prog 1 239 [.pointer (some ⟨g0,0,none⟩),.pointer (some ⟨g1,0,none⟩)] (fun (y:Int×List Int) (col:Zd) (w:World) (args:List Value)=>∃ (a1:Option Addr) (ak:Nat),args=[.int .i64 y.1,.slice a1 y.2.length ak]∧Zc (Za.int .i64) 3 cy col w a1 ak y.2) r col w0:=by
 intro l J X hjs hxs hy aa;refine Zbz (m:=17) (args:=[.func (.yield l) #[] #[],.pointer (some ⟨g0,0,none⟩),.pointer (some ⟨g1,0,none⟩)]) func239 rfl rfl rfl rfl ?_;rw [Zjk.eq_1] at hm;refine go ?_;refine lW hb0.at1<|go ?_;refine Z2 [0,2,5,1000000] (fun n f ae=>∃ ab r ai af,af=n∧Zbh N ah ad af ai=some r∧J r ab ae∧Zc (Za.int .i64) 3 450 ab ae af1 capf1 ad∧Zh 40 450 ab ae g1 #[.slice af1 ad.length capf1]∧Zh 3 450 ab ae g0 #[.int .i64 ah]∧[6].map f=[.int .i64 ai]) N ⟨_,_,0,_,rfl,hm,aa,hf1,hb1,hb0,rfl⟩ ?_;clear hm;intro n f ae hI;obtain ⟨ab,r,ai,af,hn,hm,aa,hf1,hb1,hb0,hs⟩:=hI;subst hn;refine .lL [6] hs ?_
 cases af with
 | zero=>rw [Zbh.eq_1] at hm;cases hm
 | succ af=>
  rw [Zbh.eq_2] at hm;refine go ?_;refine Zo hm (fun hb hm=>go ?_) fun hb hm=>go ?_
  ·refine lM (.func (.yield l) #[] #[])<|X9 rfl<|lW hb1.at1<|X9 rfl ?_;obtain ⟨an,ao,hm⟩:=bZ hm;refine Zg (Zv9 501 ao (hf1.toSlF (Zj.int .i64))) ?_;rintro _ ar ⟨ap,al,am,rfl,ac,ag⟩;refine ⟨_,rfl,?_⟩;replace ag:=ag.thaw (Zx .i64) ac ((Fz.refl (col:=ab)).froz 450) (by decide);replace ac:=ac.thawR (col:=ab);generalize Z6 ae.heap.size ab ap=au at *;replace hf1:=hf1.gr ac;replace hb1:=hb1.gr ac;replace hb0:=hb0.gr ac;replace aa:=hjs _ _ _ _ _ aa ac.toP;replace hf1:=hf1.recol 501 cy (by decide);replace ag:=ag.recolSelf cy (by decide);replace hb1:=hb1.recol 501 cy (by decide);replace hb0:=hb0.recol 501 cy (by decide);replace aa:=hjs _ _ _ _ _ aa ((Zt.refl _ _ _).recol 501 cy rfl);obtain ⟨av,hc_15m,aq⟩:=bZ hm;cases aq;have hm:=hc_15m;refine ly2 rfl rfl rfl rfl (hy _ _ _ _ [.int .i64 ai,.slice al an.length am] aa ⟨al,am,rfl,ag⟩) ?_;rintro _ aw ⟨ax,aj,⟨rfl,hJ⟩ | ⟨rfl,hX⟩⟩
   ·refine ⟨_,rfl,?_⟩;have aa:=hJ;refine go ?_;refine Xv rfl<|go ?_;replace hf1:=hf1.kpp aj;replace hb1:=hb1.kpp aj;replace hb0:=hb0.kpp aj;exact ⟨af,by omega,rfl,⟨_,_,_,_,rfl,hm,aa,hf1,hb1,hb0,rfl⟩⟩
   refine ⟨_,rfl,?_⟩;have aa:=hX;refine go ?_;refine Xz rfl<|W0 ?_;exact ⟨rfl,⟨_,rfl⟩,_,.inr aa⟩
  cases hm;exact ⟨rfl,⟨_,rfl⟩,_,.inl aa⟩
def Zg4 (N:Nat) (ab:List Int):Option (List R5):=
  (Zbm ab).bind fun aa=>(Zbi aa).bind fun ac=>Zjk N ac.1 aa
theorem Zv6 {N ay:Nat} {a0:Option Addr} {col:Zd} {w0:World} {ai:R2} {r:(List R5)} (cy:Nat) (hm:Zg4 N ai=some r) (h0:Sl (Za.int .i64) col w0 a0 ay ai):
    Calls Tryz.prog 142 #[.slice a0 ai.length ay] w0 (fun e w'=>∃ (col':Zd) (rv1:Value),e= .returned (rv1)∧Zf col w0 col' w'∧It Tryz.prog 1 rv1 (fun (y:Int×List Int) (col:Zd) (w:World) (args:List Value)=>∃ (a1:Option Addr) (az:Nat),args=[.int .i64 y.1,.slice a1 y.2.length az]∧Zc (Za.int .i64) 3 cy col w a1 az y.2) r q1 col' w'):=by
 refine Xc 2 (m:=14) func142 rfl rfl rfl rfl rfl ?_;rw [Zg4.eq_1] at hm;have aa:=St.start col w0;refine go ?_;refine lv (v:=_) rfl rfl (Vu rfl)<|go ?_;obtain ⟨aj,a5,hm⟩:=bZ hm;replace h0:=h0.keep (Zk.start col w0);refine Zg (Zk6 1 a5 (h0.ks aa)) ?_;rintro _ bf ⟨a6,ak,al,rfl,a7,ac⟩;refine ⟨_,rfl,?_⟩;refine Su (col:=a6) (v:=(.slice none (([]:List Int).length) 0)) 2 rfl zeroValue40 ?_;intro ad a8 ag a2 am;replace am:Zh 40 2 ag a8 ad #[.slice none (([]:List Int).length) 0]:=am;refine Wy (v:=(.slice ak aj.length al)) am sizeOf40 rfl rfl (by intro u hu;simp only [Value.cells,List.mem_cons,List.not_mem_nil,or_false] at hu;subst hu;rfl) rfl rfl ?_;intro a3 a4 a9 ae;replace ae:Zh 40 2 ag a3 ad #[.slice ak aj.length al]:=ae;refine go ?_;refine lW ae.at1 ?_;obtain ⟨ab,ba,hm⟩:=bZ hm;replace ac:=(ac.gr a2).kp a4;refine Zg (Zij ba (ac.toSlF (Zj.int .i64))) ?_;rintro _ bb ⟨rfl,ah⟩;refine ⟨_,rfl,?_⟩;replace ah:Zf ag a3 ag bb:=.of_below ah;refine lM (.tuple #[.int .i64 ab.1,.int .i64 ab.2])<|lV (.int .i64 ab.1) (Xh rfl rfl)<|lV (.int .i64 ab.2) (Xh rfl rfl)<|Su (col:=ag) (v:=(.int .i64 0)) 3 rfl zeroValue3 ?_;intro af bc an ao ap;replace ap:Zh 3 3 an bc af #[.int .i64 0]:=ap;refine Wy (v:=(.int .i64 ab.1)) ap sizeOf3 rfl rfl (by intro u hu;simp only [Value.cells,List.mem_cons,List.not_mem_nil,or_false] at hu;subst hu;rfl) rfl rfl ?_;intro bd aq be ar;replace ar:Zh 3 3 an bd af #[.int .i64 ab.1]:=ar;refine go ?_;refine lV (.func (.func 239) #[] #[.pointer (some ⟨af,0,none⟩),.pointer (some ⟨ad,0,none⟩)]) (Zmv rfl rfl)<|lA (.func (.func 239) #[] #[.pointer (some ⟨af,0,none⟩),.pointer (some ⟨ad,0,none⟩)])<|go ?_;replace aa:=(((((aa.grow a7).grow a2).kp a4 a9).grow ah).grow ao).kp aq be;have au:=aa.finBox (G:=(fun n=>bif Nat.beq n 3 then 450 else bif Nat.beq n 2 then 450 else bif Nat.beq n 1 then 450 else 0)) ar (by decide) (by decide) (show (fun n=>bif Nat.beq n 3 then 450 else bif Nat.beq n 2 then 450 else bif Nat.beq n 1 then 450 else 0) 3=450 from rfl);replace ae:=((ae.gr ah).gr ao).kp aq;have av:=aa.finBox (G:=(fun n=>bif Nat.beq n 3 then 450 else bif Nat.beq n 2 then 450 else bif Nat.beq n 1 then 450 else 0)) ae (by decide) (by decide) (show (fun n=>bif Nat.beq n 3 then 450 else bif Nat.beq n 2 then 450 else bif Nat.beq n 1 then 450 else 0) 2=450 from rfl);replace ac:=((ac.gr ah).gr ao).kp aq
 have aw:=aa.finOwn (g:=(fun n=>bif Nat.beq n 3 then 450 else bif Nat.beq n 2 then 450 else bif Nat.beq n 1 then 450 else 0)) rfl ac (by decide) (by decide) (show (fun n=>bif Nat.beq n 3 then 450 else bif Nat.beq n 2 then 450 else bif Nat.beq n 1 then 450 else 0) 1=450 from rfl);refine ⟨rfl,Wr w0.heap.size col an (fun n=>bif Nat.beq n 3 then 450 else bif Nat.beq n 2 then 450 else bif Nat.beq n 1 then 450 else 0),_,rfl,aa.fin (fun n=>bif Nat.beq n 3 then 450 else bif Nat.beq n 2 then 450 else bif Nat.beq n 1 then 450 else 0),239,[.pointer (some ⟨af,0,none⟩),.pointer (some ⟨ad,0,none⟩)],rfl,call239,?_⟩;intro col9 w9 ax hk9;replace au:=au.itk ax hk9 rfl;replace av:=av.itk ax hk9 rfl;replace aw:=aw.itk ax hk9 rfl (Zx .i64);exact Zv7 N cy col9 w9 af ab.1 au ad ak al aj aw av r hm
def Z7:List Nat→Nat
 | []=>1
 | s :: ss=>s * Z7 ss
def X1:List Nat→Nat→List Int
 | [],_=>[]
 | s :: ss,a=>((a / Z7 ss:Nat):Int) :: X1 ss (a % Z7 ss)
def Uh:List Nat→List Int→Nat
 | s :: ss,d :: w=>d.toNat * Z7 ss+Uh ss w
 | _,_=>0
theorem Zc3:∀ ss:List Nat,(∀ s ∈ ss,0<s)→0<Z7 ss
 | [],_=>by rw [Z7];decide
 | s :: ss,h=>Nat.mul_pos (h s List.mem_cons_self) (Zc3 ss fun x hx=>h x (List.mem_cons_of_mem _ hx))
def Zc9:List Nat→List Int→Prop
 | [],[]=>True
 | s :: ss,d :: w=>(0≤d∧d<(s:Int))∧Zc9 ss w
 | _,_=>False
theorem Zil:∀ (ss:List Nat) (a:Nat),(∀ s ∈ ss,0<s)→a<Z7 ss→Zc9 ss (X1 ss a)
 | [],_,_,_=>trivial
 | s :: ss,a,h,ha=>by
  have hp:=Zc3 ss fun x hx=>h x (List.mem_cons_of_mem _ hx)
  rw [Z7] at ha
  refine ⟨⟨Int.natCast_nonneg _,Int.ofNat_lt.2 ((Nat.div_lt_iff_lt_mul hp).2 ha)⟩,Zil ss _ (fun x hx=>h x (List.mem_cons_of_mem _ hx)) (Nat.mod_lt _ hp)⟩
theorem Zrz:∀ (ss:List Nat) (a:Nat),(∀ s ∈ ss,0<s)→a<Z7 ss→Uh ss (X1 ss a)=a
 | [],a,_,ha=>by rw [Z7] at ha;rw [X1,Uh];omega;intro s ss d w h;cases h
 | s :: ss,a,h,ha=>by
  have hp:=Zc3 ss fun x hx=>h x (List.mem_cons_of_mem _ hx)
  rw [X1,Uh,Int.toNat_natCast,Zrz ss _ (fun x hx=>h x (List.mem_cons_of_mem _ hx)) (Nat.mod_lt _ hp),Nat.mul_comm]
  exact Nat.div_add_mod a (Z7 ss)
theorem Zr0:∀ (ss:List Nat) (w:List Int),Zc9 ss w→Uh ss w<Z7 ss
 | [],[],_=>by rw [Uh,Z7];decide;intro s ss d w h;cases h
 | s :: ss,d :: w,h=>by
  have h1:=Zr0 ss w h.2
  have h2:d.toNat+1≤s:=by have:=h.1;omega
  have h3:=Nat.mul_le_mul_right (Z7 ss) h2
  rw [Nat.add_mul,Nat.one_mul] at h3
  rw [Uh,Z7];omega
def Wm (ss:List Nat):List Int:=ss.map fun s:Nat=>(s:Int)
theorem Zk9 {l:List Int} (h:l.length≤1099511627776):Zbm l=some l:=by
 rw [Zbm,Xd (by simp only [List.length_nil,maxLen];omega),List.nil_append]
theorem Zto:∀ (ss:List Nat) (c:Nat),0<c→(∀ s ∈ ss,0<s)→c * Z7 ss≤65536→Zag (Wm ss) (c:Int)=some (((c * Z7 ss:Nat):Int),0)
 | [],c,_,_,_=>by rw [Wm,List.map_nil,Zag.eq_1,Z7,Nat.mul_one]
 | s :: ss,c,hc,hs,hb=>by
  have hp:=Zc3 ss fun x hx=>hs x (List.mem_cons_of_mem _ hx)
  have h0:=hs s List.mem_cons_self
  rw [Z7,← Nat.mul_assoc] at hb ⊢
  have h1:c * s≤c * s * Z7 ss:=Nat.le_mul_of_pos_right _ hp
  have e:Int.tdiv 2147483647 (c:Int)=((2147483647 / c:Nat):Int):=rfl
  have h2:s≤2147483647 / c:=by
   rw [Nat.le_div_iff_mul_le hc,Nat.mul_comm];omega
  have h3:2147483647 / c≤2147483647:=Nat.div_le_self _ _
  have e2:(c:Int) * (s:Int)=((c * s:Nat):Int):=(Int.natCast_mul c s).symm
  rw [Wm,List.map_cons,Zag.eq_2,Xd (by omega),e,Zy (x:=((2147483647 / c:Nat):Int)) (by omega),if_neg (by rw [decide_eq_false (by omega)];decide),e2,Zy (by omega)]
  exact Zto ss (c * s) (Nat.mul_pos hc h0) (fun x hx=>hs x (List.mem_cons_of_mem _ hx)) hb
theorem Ztn (p:List Int):∀ (ss:List Nat),(∀ s ∈ ss,0<s)→Qf p (Wm ss) false=Zag p 1
 | [],_=>by rw [Wm,List.map_nil,Qf.eq_1,if_neg (by decide)]
 | s :: ss,hs=>by
  have h0:=hs s List.mem_cons_self
  rw [Wm,List.map_cons,Qf.eq_2,if_neg (by rw [decide_eq_false (by omega)];decide),if_neg (by decide),Zg5,decide_eq_false (by omega)]
  exact Ztn p ss fun x hx=>hs x (List.mem_cons_of_mem _ hx)
theorem Ztp {ss:List Nat} (hs:∀ s ∈ ss,0<s) (hb:Z7 ss≤65536):Zbi (Wm ss)=some ((Z7 ss:Int),0):=by
 have:=Zto ss 1 (by decide) hs (by rw [Nat.one_mul];exact hb)
 rw [Zbi,Ztn _ ss hs,show (1:Int)=((1:Nat):Int) from rfl,this,Nat.one_mul]
def Zdf (ss:List Nat):Nat→List R6
 | 0=>[]
 | k+1=>((k:Int),((ss.getD k 0:Nat):Int)) :: Zdf ss k
theorem Z1e {ss:List Nat} {k:Nat} (h:k<ss.length):Zn (Wm ss) (k:Int)=some ((ss.getD k 0:Nat):Int):=by
 rw [Zdb,Wm,List.getElem?_map,List.getElem?_eq_getElem h,List.getD_eq_getElem?_getD,List.getElem?_eq_getElem h];rfl
theorem Ztm (N:Nat) (ss:List Nat) (hl:ss.length≤1099511627776):∀ (f k:Nat),k≤ss.length→k<f→Zbk N (Wm ss) f ((k:Int) - 1)=some (Zdf ss k)
 | 0,k,_,h=>by omega
 | f+1,0,h1,h2=>by rw [Zbk.eq_2,if_neg (by decide)];rfl
 | f+1,k+1,h1,h2=>by
  rw [Zbk.eq_2,show ((k+1:Nat):Int) - 1=(k:Int) by omega,if_pos (decide_eq_true (by omega)),Z1e (by omega),Option.bind_some,Zy (by omega),Ztm N ss hl f k (by omega) (by omega),Option.bind_some,Zdf]
theorem Ztq (ss:List Nat) (hs:∀ s ∈ ss,0<s) (a:Nat) (ha:a<4611686018427387904):∀ k,k≤ss.length→Zbj (Zdf ss k) ((a / Z7 (ss.drop k):Nat):Int) (List.replicate k 0++X1 (ss.drop k) (a % Z7 (ss.drop k)))=some (X1 ss (a % Z7 ss))
 | 0,_=>by rw [Zdf,Zbj.eq_1,List.drop_zero];rfl
 | k+1,hk=>by
  have hkl:k<ss.length:=by omega
  have hdr:ss.drop k=ss.getD k 0 :: ss.drop (k+1):=by
   rw [List.drop_eq_getElem_cons hkl,List.getD_eq_getElem?_getD,List.getElem?_eq_getElem hkl];rfl
  have ih:=Ztq ss hs a ha k (by omega)
  have h0:0<ss.getD k 0:=by
   rw [List.getD_eq_getElem?_getD,List.getElem?_eq_getElem hkl]
   exact hs _ (List.getElem_mem hkl)
  rw [hdr,Z7,X1,Nat.mod_mul_left_mod,Nat.mul_comm,Nat.mod_mul_right_div_self,← Nat.div_div_eq_div_mul] at ih
  have hle:=Nat.div_le_self a (Z7 (ss.drop (k+1)))
  generalize a / Z7 (ss.drop (k+1))=q at *
  generalize X1 (ss.drop (k+1)) (a % Z7 (ss.drop (k+1)))=D at *
  have e1:Int.tmod (q:Int) ((ss.getD k 0:Nat):Int)=((q % ss.getD k 0:Nat):Int):=rfl
  have e2:Int.tdiv (q:Int) ((ss.getD k 0:Nat):Int)=((q / ss.getD k 0:Nat):Int):=rfl
  have h4:q / ss.getD k 0≤q:=Nat.div_le_self _ _
  have e3:(List.replicate (k+1) (0:Int)++D).set k ((q % ss.getD k 0:Nat):Int)=List.replicate k 0++((q % ss.getD k 0:Nat):Int) :: D:=by
   rw [List.replicate_succ',List.append_assoc,List.set_append_right (i:=k) _ (by rw [List.length_replicate];exact Nat.le_refl _),List.length_replicate,Nat.sub_self];rfl
  generalize q / ss.getD k 0=z at *
  rw [Zdf,Zbj.eq_2,Xd (by simp only;omega)]
  dsimp only
  rw [Xb (by rw [List.length_append,List.length_replicate];omega),Option.bind_some,e1,e2,Int.toNat_natCast,e3,Option.bind_some,Xd (by omega),Zy (by omega)]
  exact ih
theorem Zxb {N:Nat} {ss:List Nat} (hs:∀ s ∈ ss,0<s) (hl:ss.length≤1048576) (hN:1048577<N) {a:Nat} (ha:a<Z7 ss) (hb:Z7 ss≤65536):Zg6 N (Wm ss) (a:Int)=some (X1 ss a):=by
 have hlen:(Wm ss).length=ss.length:=by rw [Wm,List.length_map]
 rw [Zg6,hlen]
 by_cases h0:ss.length=0
 ·have:ss=[]:=List.eq_nil_of_length_eq_zero h0
  rw [if_pos (decide_eq_true (by omega)),this,X1]
 ·have hb2:=Ztm N ss (by omega) N ss.length (Nat.le_refl _) (by omega)
  have hd:=Ztq ss hs a (by omega) ss.length (Nat.le_refl _)
  rw [List.drop_length,Z7,Nat.div_one,X1,List.append_nil,Nat.mod_eq_of_lt ha] at hd
  rw [if_neg (by rw [decide_eq_false (by omega)];decide),Xd (by simp only [maxLen];omega),Zjm,Zjn,hlen,Zy (by omega),hb2,Option.bind_some]
  exact hd
def Zdm (ss:List Nat):Nat→Nat→List R5
 | _,0=>[]
 | k,m+1=>((k:Int),X1 ss k) :: Zdm ss (k+1) m
theorem Zsr {N:Nat} {ss:List Nat} (hs:∀ s ∈ ss,0<s) (hl:ss.length≤1048576) (hN:1048577<N) (hb:Z7 ss≤65536):∀ (m k f:Nat),k+m=Z7 ss→m<f→Zbh N (Z7 ss:Int) (Wm ss) f (k:Int)=some (Zdm ss k m)
 | m,k,0,_,h=>by omega
 | 0,k,f+1,h1,h2=>by rw [Zbh.eq_2,if_neg (by rw [decide_eq_false (by omega)];decide)];rfl
 | m+1,k,f+1,h1,h2=>by
  rw [Zbh.eq_2,if_pos (decide_eq_true (by omega)),Zxb hs hl hN (by omega) hb,Option.bind_some,wS (by omega),Zsr hs hl hN hb m (k+1) f (by omega) (by omega),Option.bind_some,Zdm]
theorem Z0s {N:Nat} {ss:List Nat} (hs:∀ s ∈ ss,0<s) (hl:ss.length≤1048576) (hN:1048577<N) (hb:Z7 ss≤65536):Zg4 N (Wm ss)=some (Zdm ss 0 (Z7 ss)):=by
 have hlen:(Wm ss).length=ss.length:=by rw [Wm,List.length_map]
 rw [Zg4,Zk9 (by omega),Option.bind_some,Ztp hs hb,Option.bind_some,Zjk]
 exact Zsr hs hl hN hb (Z7 ss) 0 N (by omega) (by omega)
theorem Zoi {N W:Nat} {n:Zz} (hf:Ys N n) (hs:W6 n W) (hr:Xm N (8 * W+40)) (hN:2000000<N):Ur N n=some 0:=by
 obtain ⟨l,o1,o2,o3,o4,o5⟩:=hf.or
 have hv:=hf.ev.v;have hp:=hf.ev.p;have ht:=hf.ev.t;have hle:=hf.le
 have nn:Zcc (n.1,n.2.1,n.2.2.1,n.2.2.2.1,n.2.2.2.2)=some (Qg n.2.1 n.2.2.1 n.2.1.length 0):=Zra n hv
 have D':T9 N n.2.2.2.1=some 0:=by rw [T9,o1];rfl
 have ms:=Zmd (N:=N) hs hf.ev n.2.2.2.2 0 (by simp) (by omega)
 have me:=Zmb (N:=N) (n:=n) (W:=W) (hr.mono (by omega)) n.2.2.2.2 (fun t h=>⟨hs.tl t h,hs.tq t h,hs.lim t h⟩)
 have m6:=Zme (N:=N) hs hf.ev hf.sh hr (by omega) n.2.2.2.2 0 (by simp) (by omega)
 rw [Ur,if_neg (by rw [decide_eq_true (by omega)];decide),if_neg (by rw [decide_eq_true (by omega)];decide),show (!decide ((n.2.2.2.2.length:Int)=(n.2.1.length:Int)))=false by rw [decide_eq_true (by omega)];rfl,Qa,if_neg (show ¬ (false=true) by decide),if_neg (by rw [decide_eq_false (by omega)];decide),
  nn,Option.bind_some,hf.nm,if_neg (by decide),D',Option.bind_some,if_neg (by decide),ms,ht,if_pos hf.sh,me,hf.en,if_neg (by decide),m6,ht,hf.su]
def Za4:List R4→R2→Option R2
  | [],aa=>some aa
  | ab :: ac,aa=>Zw ((aa.length+[(ab.length:Int)].length) * 8≤140737488355328∧aa.length+[(ab.length:Int)].length≤maxLen) ((Za4 ac) (aa++[(ab.length:Int)]))
termination_by structural x=>x
def Zgc (aa:R0):Option R2:=
  Za4 aa.2.2.1 ([]:List Int)
theorem Zvm {am an ao ap:Nat} {aq ar au av:Option Addr} {col:Zd} {w0:World} {aa:R0} {r:R2} (c1:Nat) (hm:Zgc aa=some r) (a9:Sl Za.str col w0 aq am aa.2.1) (ac:Sl (Za.slice Za.str) col w0 ar an aa.2.2.1) (ba:Sl (Za.slice (Za.int .i64)) col w0 au ao aa.2.2.2.1) (bb:Sl (Za.slice (Za.pair (Za.pair Za.bool (Za.slice (Za.int .u32))) (Za.slice (Za.int .u32)))) col w0 av ap aa.2.2.2.2):
    Calls Tryz.prog 237 #[(.agg #[.string aa.1,.slice aq aa.2.1.length am,.slice ar aa.2.2.1.length an,.slice au aa.2.2.2.1.length ao,.slice av aa.2.2.2.2.length ap])] w0 (fun e w'=>∃ (col':Zd) (ra1:Option Addr) (rc2:Nat),e= .returned ((.slice ra1 r.length rc2))∧Zf col w0 col' w'∧Zc (Za.int .i64) 3 c1 col' w' ra1 rc2 r):=by
 refine Xc 2 (m:=20) func237 rfl rfl rfl rfl rfl ?_;rw [Zgc.eq_1] at hm;have ab:=St.start col w0;refine go ?_;refine X6 (col:=(Zi col)) 1 rfl ?_;intro bc bd be ax ay;refine go ?_;refine Xu ay ?_;refine go ?_;replace ab:=ab.grow ax;refine Z2 [7,8,1000000] (fun n f ai=>∃ af aj ak ag ad ae,n=ae.length∧aa.2.2.1.drop ad=ae∧Za4 ae ag=some r∧St w0 (Zi col) af ai∧Zc (Za.int .i64) 3 2 af ai aj ak ag∧[9,3].map f=[.int .i64 ad,.slice aj ag.length ak]) aa.2.2.1.length ⟨_,none,0,_,0,_,rfl,rfl,hm,ab,Zc.nil,rfl⟩ ?_;clear hm;intro n f ai hI;obtain ⟨af,aj,ak,ag,ad,ae,hn,hl,hm,ab,ah,hs⟩:=hI;subst hn;refine .lL [9,3] hs ?_;replace ac:=ac.keep (Zk.start col w0)
 cases ae with
 | nil=>
  have hk:¬ ((ad:Int)<(aa.2.2.1.length:Int)):=by have:=List.drop_eq_nil_iff.1 hl;omega
  have hkb:=decide_eq_false hk;rw [Za4.eq_1] at hm;refine go ?_;refine Xv (congrArg Value.bool hkb)<|go ?_;cases hm;exact ⟨rfl,_,_,_,rfl,ab.fin (cm [(2,c1)]),ab.fo ah⟩
 | cons az a0=>
  obtain ⟨al,a1,a2⟩:=Yc hl;have hk:(ad:Int)<(aa.2.2.1.length:Int):=by omega
  have hkb:=decide_eq_true hk;rw [Za4.eq_2] at hm;refine go ?_;refine Xz (congrArg Value.bool hkb)<|go ?_;refine lI al ((ac.ks ab).addr al) ?_;obtain ⟨_,a3,a4⟩:=(ac.ks ab).atN al;obtain ⟨⟨bf,bg,rfl,bh⟩,_⟩:=a3;refine lW a4.one<|go ?_;refine Vd (col:=af) [(az.length:Int)] 3 ?_;intro bi bj bk aw a5;obtain ⟨a6,hm⟩:=Z0 hm;replace ah:=ah.gr aw;refine V2 ah (a5.srcN (NB.int (k:=.i64))) a6 ?_;intro bm bn bo bp a7 a8;refine go ?_;replace ab:=(ab.grow aw).kpp a7;exact ⟨a0.length,by simp,rfl,⟨_,_,_,_,_,_,rfl,a1,hm,ab,a8,(Yg (congrArg (Value.int .i64) (Yf (Nat.lt_of_lt_of_le a2 (ac.ks ab).1.1))) rfl)⟩⟩
theorem Zxg:Yw Tryz.prog 3 1 8:=⟨Tryz.t3,_,rfl,rfl,rfl,rfl,rfl⟩
def Zf3 (aa:List Int) (ab:Bool):Option Rc:=
  if ab=true then (some (([]:List Int),4)) else (some (aa,0))
def Zd2 (aa:List Int):List Int→(List Bool)→Option Rc
  | [],ab=>(Zbi aa).bind fun ac=>if (!decide (ac.2=0))=true then (Zf3 aa true) else (Zf3 aa (decide (65536<ac.1)))
  | ad :: ae,ab=>(Zn ab ad).bind fun af=>if af=true then (some (([]:List Int),40)) else ((some (ab.set (Int.toNat ad) true)).bind fun ag=>(Zd2 aa ae) ag)
termination_by structural x=>x
def Zd1 (ab:List Int):List R6→R2→Option Rc
  | [],aa=>Zd2 ab aa (List.replicate ab.length (false:Bool))
  | ac :: ad,aa=>Zw ((0:Int)≤0∧0≤(aa.length:Int)∧(aa.length:Int)≤(aa.length:Int)∧(aa.length:Int)≤(aa.length:Int)) (Zw (((aa.take (Int.toNat (aa.length:Int))).length+[ac.1].length) * 8≤140737488355328∧(aa.take (Int.toNat (aa.length:Int))).length+[ac.1].length≤maxLen) ((Zd1 ab ad) ((aa.take (Int.toNat (aa.length:Int)))++[ac.1])))
termination_by structural x=>x
def Ziz (kk_L2:(Option Rc)) (aa:Bool):Option Rc:=
  if aa=true then (some (([]:List Int),3)) else kk_L2
def Za0 (ab:Ra) (ac:List Int) (aa:List Int):List Int→Option Rc
  | []=>Zw (aa.length * 1≤281474976710656∧aa.length≤maxLen) (Zd1 aa ab ac)
  | ad :: ae=>if (decide (ad<0))=true then (Ziz (Za0 ab ac aa ae) true) else (Ziz (Za0 ab ac aa ae) (decide ((aa.length:Int)≤ad)))
termination_by structural x=>x
def Zd0 (kk_L1:(Option Rc)) (aa:Bool):Option Rc:=
  if aa=true then (some (([]:List Int),3)) else kk_L1
def S9 (ac:Ra) (ab:List Int) (aa:List Int):List R6→Option Rc
  | []=>Za0 ac ab aa ab
  | ad :: ae=>if (decide (ad.1<0))=true then (Zd0 (S9 ac ab aa ae) true) else (if (decide ((aa.length:Int)≤ad.1))=true then (Zd0 (S9 ac ab aa ae) true) else (if (decide (ad.2<0))=true then (Zd0 (S9 ac ab aa ae) true) else ((Zn aa ad.1).bind fun af=>Zd0 (S9 ac ab aa ae) (decide (af≤ad.2)))))
termination_by structural x=>x
def Qy (N:Nat) (aa:R0) (ab:Ra) (ad:List Int):Option Rc:=
  (Ur N (aa.1,aa.2.1,aa.2.2.1,aa.2.2.2.1,aa.2.2.2.2)).bind fun ac=>if (!decide (ac=0))=true then (some (([]:List Int),ac)) else ((Zgc (aa.1,aa.2.1,aa.2.2.1,aa.2.2.2.1,aa.2.2.2.2)).bind fun ae=>S9 ab ad ae ab)
theorem Zif {N bx bz b0 b1 b2 b3:Nat} {b4 b5 b6 b7 a1 a2:Option Addr} {col:Zd} {w0:World} {af:R0} {ae:Ra} {ah:R2} {r:Rc} (c1:Nat) (hm:Qy N af ae ah=some r) (bf:Sl Za.str col w0 b4 bx af.2.1) (bg:Sl (Za.slice Za.str) col w0 b5 bz af.2.2.1) (bh:Sl (Za.slice (Za.int .i64)) col w0 b6 b0 af.2.2.2.1) (bi:Sl (Za.slice (Za.pair (Za.pair Za.bool (Za.slice (Za.int .u32))) (Za.slice (Za.int .u32)))) col w0 b7 b1 af.2.2.2.2) (h1:Sl (Za.pair (Za.int .i64) (Za.int .i64)) col w0 a1 b2 ae) (h2:Sl (Za.int .i64) col w0 a2 b3 ah):
    Calls Tryz.prog 138 #[(.agg #[.string af.1,.slice b4 af.2.1.length bx,.slice b5 af.2.2.1.length bz,.slice b6 af.2.2.2.1.length b0,.slice b7 af.2.2.2.2.length b1]),.slice a1 ae.length b2,.slice a2 ah.length b3] w0 (fun e w'=>∃ (col':Zd) (ra1:Option Addr) (rc2:Nat),e= .returned (.tuple #[.slice ra1 r.1.length rc2,.int .i64 r.2])∧Zf col w0 col' w'∧Zc (Za.int .i64) 3 c1 col' w' ra1 rc2 r.1):=by
 refine Zdj 6 7 (m:=121) (args:=[(.agg #[.string af.1,.slice b4 af.2.1.length bx,.slice b5 af.2.2.1.length bz,.slice b6 af.2.2.2.1.length b0,.slice b7 af.2.2.2.2.length b1]),.slice a1 ae.length b2,.slice a2 ah.length b3]) func138 rfl rfl rfl rfl rfl ?_;rw [Qy.eq_1] at hm;have aa:=St.start col w0;refine go ?_;refine X6 (col:=(Zi col)) 1 rfl ?_;intro d9 c6 cu c7 bj;refine go ?_;refine lV _ (Xi isAgg27 sizeOf27 bj) ?_;obtain ⟨ea,c8,hm⟩:=bZ hm;replace bf:=bf.keep (Zk.start col w0);replace bg:=bg.keep (Zk.start col w0);replace bh:=bh.keep (Zk.start col w0);replace bi:=bi.keep (Zk.start col w0);replace aa:=aa.grow c7;refine Zg (Zkw c8 (bf.ks aa) (bg.ks aa) (bh.ks aa) (bi.ks aa)) ?_;rintro _ c9 ⟨rfl,bk⟩;refine ⟨_,rfl,?_⟩;replace bk:Zf cu c6 cu c9:=.of_below bk;refine go ?_;replace h1:=h1.keep (Zk.start col w0);replace h2:=h2.keep (Zk.start col w0);replace bj:=bj.gr bk;replace aa:=aa.grow bk;refine Zo hm (fun hb hm=>go ?_) fun hb hm=>go ?_
 ·cases hm;exact ⟨rfl,_,none,0,rfl,aa.fin (cm []),Zc.nil⟩
 refine lV _ (Xi isAgg27 sizeOf27 bj) ?_;obtain ⟨ad,da,hm⟩:=bZ hm;refine Zg (Zvm 2 da (bf.ks aa) (bg.ks aa) (bh.ks aa) (bi.ks aa)) ?_;rintro _ eb ⟨ec,al,am,rfl,db,ab⟩;refine ⟨_,rfl,go ?_⟩;replace aa:=aa.grow db;refine Z2 [1,2,28,29,9,1000000] (fun n f b8=>∃ bm aw ax,n=ax.length∧ae.drop aw=ax∧S9 ae ah ad ax=some r∧St w0 (Zi col) bm b8∧Zc (Za.int .i64) 3 2 bm b8 al am ad∧[30].map f=[.int .i64 aw]) ae.length ⟨_,0,_,rfl,rfl,hm,aa,ab,rfl⟩ ?_;clear hm;intro n f b8 hI;obtain ⟨bm,aw,ax,hn,hl,hm,aa,ab,hs⟩:=hI;subst hn;refine .lL [30] hs ?_
 cases ax with
 | nil=>
  have hk:¬ ((aw:Int)<(ae.length:Int)):=by have:=List.drop_eq_nil_iff.1 hl;omega
  have hkb:=decide_eq_false hk;rw [S9.eq_1] at hm;refine go ?_;refine Xv (congrArg Value.bool hkb)<|go ?_;refine Z2 [1,2,60,61,9,1000000] (fun n f bn=>∃ bo ay az,n=az.length∧ah.drop ay=az∧Za0 ae ah ad az=some r∧St w0 (Zi col) bo bn∧Zc (Za.int .i64) 3 2 bo bn al am ad∧[62].map f=[.int .i64 ay]) ah.length ⟨_,0,_,rfl,rfl,hm,aa,ab,rfl⟩ ?_;clear hm;intro n f bn hI;obtain ⟨bo,ay,az,hn,hl,hm,aa,ab,hs⟩:=hI;subst hn;refine .lL [62] hs ?_
  cases az with
  | nil=>
   have hk:¬ ((ay:Int)<(ah.length:Int)):=by have:=List.drop_eq_nil_iff.1 hl;omega
   have hkb:=decide_eq_false hk;rw [Za0.eq_1] at hm;refine go ?_;refine Xv (congrArg Value.bool hkb)<|go ?_;obtain ⟨cv,hm⟩:=Z0 hm;refine Sx (col:=bo) (w:=bn) (r:=Za.bool) (n:=ad.length) (x0:=false) 3 rfl underlying225 Tryz.t4 rfl rfl rfl rfl rfl rfl rfl cv.1 cv.2 (Ty false) ?_;intro dc ed ee cw ai;refine go ?_;replace ab:=ab.gr cw;replace aa:=aa.grow cw;refine Z2 [14,78,79,9,1000000] (fun n f a0=>∃ ap an bp ac a3 a4,n=a4.length∧ae.drop a3=a4∧Zd1 ad a4 ac=some r∧St w0 (Zi col) ap a0∧Zc Za.bool 4 3 ap a0 dc ad.length (List.replicate ad.length (false:Bool))∧Sl (Za.int .i64) ap a0 an bp ac∧Zc (Za.int .i64) 3 2 ap a0 al am ad∧[80,2].map f=[.int .i64 a3,.slice an ac.length bp]) ae.length ⟨_,_,_,_,0,_,rfl,rfl,hm,aa,ai,(h2.ks aa),ab,rfl⟩ ?_;clear hm;intro n f a0 hI;obtain ⟨ap,an,bp,ac,a3,a4,hn,hl,hm,aa,ai,aj,ab,hs⟩:=hI;subst hn;refine .lL [80,2] hs ?_
   cases a4 with
   | nil=>
    have hk:¬ ((a3:Int)<(ae.length:Int)):=by have:=List.drop_eq_nil_iff.1 hl;omega
    have hkb:=decide_eq_false hk;rw [Zd1.eq_1] at hm;refine go ?_;refine Xv (congrArg Value.bool hkb)<|go ?_;refine Z2 [9,95,96,1000000] (fun n f aq=>∃ ao a5 a6 ar a7 a8,n=a8.length∧ac.drop a7=a8∧Zd2 ad a8 ar=some r∧St w0 (Zi col) ao aq∧Zc Za.bool 4 3 ao aq a5 a6 ar∧Zc (Za.int .i64) 3 2 ao aq al am ad∧Sl (Za.int .i64) ao aq an bp ac∧[97,14].map f=[.int .i64 a7,.slice a5 ar.length a6]) ac.length ⟨_,_,_,_,0,_,rfl,rfl,hm,aa,ai,ab,aj,rfl⟩ ?_;clear hm;intro n f aq hI;obtain ⟨ao,a5,a6,ar,a7,a8,hn,hl,hm,aa,bq,ab,aj,hs⟩:=hI;subst hn;refine .lL [97,14] hs ?_
    cases a8 with
    | nil=>
     have hk:¬ ((a7:Int)<(ac.length:Int)):=by have:=List.drop_eq_nil_iff.1 hl;omega
     have hkb:=decide_eq_false hk;rw [Zd2.eq_1] at hm;refine go ?_;refine Xv (congrArg Value.bool hkb)<|go ?_;obtain ⟨a9,dd,hm⟩:=bZ hm;refine Zg (Zij dd (ab.toSlF (Zj.int .i64))) ?_;rintro _ de ⟨rfl,br⟩;refine ⟨_,rfl,?_⟩;replace br:Zf ao aq ao de:=.of_below br;refine lM (.tuple #[.int .i64 a9.1,.int .i64 a9.2])<|lV (.int .i64 a9.1) (Xh rfl rfl)<|lV (.int .i64 a9.2) (Xh rfl rfl)<|Yk rfl<|Yk rfl<|Zl<|Zu ?_;replace ab:=ab.gr br;replace aa:=aa.grow br;refine Wp.cutK [9,1000000] (fun f b9=>∃ ca cb,Zf3 ad cb=some r∧St w0 (Zi col) ca b9∧Zc (Za.int .i64) 3 2 ca b9 al am ad∧[119].map f=[.bool cb]) ?_ ?_
     ·intro f b9 hJ;obtain ⟨ca,cb,hm,aa,ab,hs⟩:=hJ;rw [Zf3.eq_1] at hm;refine .lL [119] hs ?_;refine Zo hm (fun hb hm=>go ?_) fun hb hm=>go ?_
      ·cases hm;exact ⟨rfl,_,none,0,rfl,aa.fin (cm []),Zc.nil⟩
      cases hm;exact ⟨rfl,_,_,_,rfl,aa.fin (cm [(2,c1)]),aa.fo ab⟩
     refine go ?_;refine X5 hm (fun cc hm=>go ?_) fun cc hm=>go ?_
     ·refine lV (.bool true) (Xq (congrArg Value.bool cc) rfl)<|Zl ?_;exact ⟨rfl,_,_,hm,aa,ab,rfl⟩
     refine lV (.bool (decide (65536<a9.1))) (Xk (congrArg Value.bool cc) rfl)<|Zl ?_;exact ⟨rfl,_,_,hm,aa,ab,rfl⟩
    | cons df dg=>
     obtain ⟨ag,dh,di⟩:=Yc hl;have hk:(a7:Int)<(ac.length:Int):=by omega
     have hkb:=decide_eq_true hk;rw [Zd2.eq_2] at hm;refine go ?_;refine Xz (congrArg Value.bool hkb)<|go ?_;refine lI ag (aj.addr ag)<|lW (aj.atInt ag) ?_;refine go ?_;obtain ⟨ef,au,hm⟩:=bZ hm;refine lI au (bq.addr au)<|lW (bq.atBool au)<|Zl ?_;refine Zo hm (fun hb hm=>go ?_) fun hb hm=>go ?_
     ·cases hm;exact ⟨rfl,_,none,0,rfl,aa.fin (cm []),Zc.nil⟩
     refine lI au (bq.addr au) ?_;obtain ⟨cd,bs,hm⟩:=bZ hm;have bs:cd=ar.set (Int.toNat df) true:=(Option.some.inj bs).symm;refine Zp8 (x1:=true) (v:=(.bool true)) bq au rfl sizeOf4 (Ty true) rfl rfl (by decide) ?_;intro eg ce dj cx;rw [← bs] at cx;refine .ld (d:=14) (v:=(.slice a5 cd.length a6)) (congrArg (fun n=>Value.slice a5 n a6) (show ar.length=cd.length by rw [bs,List.length_set])) ?_;refine go ?_;replace ab:=ab.kp ce;replace aj:=aj.kp ce;replace aa:=aa.kp ce dj;exact ⟨dg.length,by simp,rfl,⟨_,_,_,_,_,_,rfl,dh,hm,aa,cx,ab,aj,(Yg (congrArg (Value.int .i64) (Yf (Nat.lt_of_lt_of_le di aj.1.1))) rfl)⟩⟩
   | cons bt dk=>
    obtain ⟨ag,dl,dm⟩:=Yc hl;have hk:(a3:Int)<(ae.length:Int):=by omega
    have hkb:=decide_eq_true hk;rw [Zd1.eq_2] at hm;refine go ?_;refine Xz (congrArg Value.bool hkb)<|go ?_;refine lI ag ((h1.ks aa).addr ag) ?_;obtain ⟨_,dn,dp⟩:=(h1.ks aa).atN ag;obtain ⟨_,_,rfl,dq,dr⟩:=Vw dn;obtain ⟨rfl,_⟩:=dq;obtain ⟨rfl,_⟩:=dr;refine lV (.agg #[.int .i64 bt.1,.int .i64 bt.2]) (Wv isAgg97 sizeOf97 rfl rfl dp)<|Xo (col:=ap) #[.int .i64 0,.int .i64 0] 4 zeroValue97 ?_;intro eh ei bu bv ds;refine Z4 ds ?_;intro ej bw dt du;refine Zl<|Wi (col:=bu) [(0,1),(1,1),(2,1),(3,1),(4,1),(5,1),(6,1),(7,0),(8,3),(9,2),(10,1)] (by kernel_rfl) (by kernel_rfl)<|xu rfl rfl (fun _=>Ve rfl) ?_;refine xu rfl rfl (fun _=>Ve rfl) ?_;refine xu rfl rfl (fun _=>Zaj underlying40 rfl) ?_;refine xu rfl rfl (fun _=>Ve rfl) ?_;refine xu rfl rfl (fun _=>Zaj underlying40 rfl) ?_;obtain ⟨ba,hm⟩:=Z0 hm;replace aj:=(aj.gr bv).kp bw;have av:=(aj.take (Int.toNat (ac.length:Int))).recap (show (ac.take (Int.toNat (ac.length:Int))).length≤(Int.toNat (ac.length:Int)) by rw [List.length_take (i:=(Int.toNat (ac.length:Int))) (l:=ac)];have:=ba.2;omega);refine xu (v:=.slice an (Int.toNat (ac.length:Int)) (Int.toNat (ac.length:Int))) rfl rfl (fun _=>Z0m underlying40 sizeOf3 rfl rfl rfl ba.2.1 ba.2.2.1 (by have:=aj.1.2;have:=ba.2.2.2;omega)) ?_;refine .ld (d:=89) (v:=(.slice an ((ac.take (Int.toNat (ac.length:Int))).length) (Int.toNat (ac.length:Int)))) (congrArg (fun n=>Value.slice an n (Int.toNat (ac.length:Int))) (show (Int.toNat (ac.length:Int))=(ac.take (Int.toNat (ac.length:Int))).length by rw [List.length_take (i:=(Int.toNat (ac.length:Int))) (l:=ac)];have:=ba.2;omega)) ?_;refine xF ⟨_,_,rfl⟩ ?_;refine xW (fun _ hC=>((du.atN).nth (q:=0) rfl).gr (hC.bl bu)) ?_;refine xe rfl rfl ?_;intro ek hC0;have hC:=hC0.bl bu;refine Vd (col:=bu) [bt.1] 5 ?_;intro el em cf bb cg;refine Zl<|X3 cf hC0 bb<|xe rfl rfl ?_;intro dv hC0;replace ai:=(((ai.gr bv).kp bw).gr hC).gr bb;replace ab:=(((ab.gr bv).kp bw).gr hC).gr bb;replace aa:=(((aa.grow bv).kp bw dt).grow hC).grow bb;replace av:=(av.gr hC).gr bb;have hC:=hC0.bl cf;obtain ⟨cy,hm⟩:=Z0 hm;replace av:=av.gr hC;have dw:(Int.toNat (ac.length:Int))=(ac.take (Int.toNat (ac.length:Int))).length:=by have:=av.1.2;rw [List.length_take (i:=(Int.toNat (ac.length:Int))) (l:=ac)] at this ⊢;omega
    replace cg:=cg.gr hC;refine Zyj (col:=cf) (w:=dv) (r:=(Za.int .i64)) (c:=6) (c2:=6) 6 (xs:=ac.take (Int.toNat (ac.length:Int))) (ys:=[bt.1]) av dw (NB.int (k:=.i64)) (by simp) (cg.srcN (NB.int (k:=.i64))) rfl underlying40 Zxg rfl rfl rfl cy.1 cy.2 ?_;intro en eo ep cz ch bc;refine Zl<|xk cz<|xu rfl rfl (fun _=>r_aS rfl) ?_;refine Y5 ?_;replace ai:=(ai.gr hC).gr ch;replace ab:=(ab.gr hC).gr ch;replace aa:=(aa.grow hC).grow ch;intro eq hC;replace hC:=hC.bl cz;refine go ?_;replace ai:=ai.gr hC;replace ai:=ai.froz 6 (by decide);replace bc:=bc.gr hC;replace bc:=(bc).toSlF (Zj.int .i64);replace ab:=ab.gr hC;replace ab:=ab.froz 6 (by decide);replace aa:=aa.grow hC;replace aa:=aa.froz 6 (by decide) (by decide);exact ⟨dk.length,by simp,rfl,⟨_,_,_,_,_,_,rfl,dl,hm,aa,ai,bc,ab,(Yg (congrArg (Value.int .i64) (Yf (Nat.lt_of_lt_of_le dm (h1.ks aa).1.1))) rfl)⟩⟩
  | cons dx c0=>
   obtain ⟨ag,dy,dz⟩:=Yc hl;have hk:(ay:Int)<(ah.length:Int):=by omega
   have hkb:=decide_eq_true hk;rw [Za0.eq_2] at hm;refine go ?_;refine Xz (congrArg Value.bool hkb)<|go ?_;refine lI ag ((h2.ks aa).addr ag)<|lW ((h2.ks aa).atInt ag)<|Yk rfl<|Zl<|Zu ?_;refine Wp.cutK [1,2,60,61,62,9,1000000] (fun f ci=>∃ cj ck,Ziz (Za0 ae ah ad c0) ck=some r∧St w0 (Zi col) cj ci∧Zc (Za.int .i64) 3 2 cj ci al am ad∧[73].map f=[.bool ck]) ?_ ?_
   ·intro f ci hJ;obtain ⟨cj,ck,hm,aa,ab,hs⟩:=hJ;rw [Ziz.eq_1] at hm;refine .lL [73] hs ?_;refine Zo hm (fun hb hm=>go ?_) fun hb hm=>go ?_
    ·cases hm;exact ⟨rfl,_,none,0,rfl,aa.fin (cm []),Zc.nil⟩
    exact ⟨c0.length,by simp,rfl,⟨_,_,_,rfl,dy,hm,aa,ab,(Yg (congrArg (Value.int .i64) (Yf (Nat.lt_of_lt_of_le dz (h2.ks aa).1.1))) rfl)⟩⟩
   refine go ?_;refine X5 hm (fun cl hm=>go ?_) fun cl hm=>go ?_
   ·refine lV (.bool true) (Xq (congrArg Value.bool cl) rfl)<|Zl ?_;exact ⟨rfl,_,_,hm,aa,ab,rfl⟩
   refine lV (.bool (decide ((ad.length:Int)≤dx))) (Xk (congrArg Value.bool cl) rfl)<|Zl ?_;exact ⟨rfl,_,_,hm,aa,ab,rfl⟩
 | cons bd c3=>
  obtain ⟨ag,d0,d1⟩:=Yc hl;have hk:(aw:Int)<(ae.length:Int):=by omega
  have hkb:=decide_eq_true hk;rw [S9.eq_2] at hm;refine go ?_;refine Xz (congrArg Value.bool hkb)<|go ?_;refine lI ag ((h1.ks aa).addr ag) ?_;obtain ⟨_,d2,d3⟩:=(h1.ks aa).atN ag;obtain ⟨_,_,rfl,d4,d5⟩:=Vw d2;obtain ⟨rfl,_⟩:=d4;obtain ⟨rfl,_⟩:=d5;refine lV (.agg #[.int .i64 bd.1,.int .i64 bd.2]) (Wv isAgg97 sizeOf97 rfl rfl d3)<|Xo (col:=bm) #[.int .i64 0,.int .i64 0] 7 zeroValue97 ?_;intro er es ak c4 d6;refine Z4 d6 ?_;intro et c5 d7 be;refine Zl<|Zu ?_;replace ab:=(ab.gr c4).kp c5;replace aa:=(aa.grow c4).kp c5 d7;refine Wp.cutK [1,2,28,29,30,9,1000000] (fun f cn=>∃ co cp,Zd0 (S9 ae ah ad c3) cp=some r∧St w0 (Zi col) co cn∧Zc (Za.int .i64) 3 2 co cn al am ad∧[58].map f=[.bool cp]) ?_ ?_
  ·intro f cn hJ;obtain ⟨co,cp,hm,aa,ab,hs⟩:=hJ;rw [Zd0.eq_1] at hm;refine .lL [58] hs ?_;refine Zo hm (fun hb hm=>go ?_) fun hb hm=>go ?_
   ·cases hm;exact ⟨rfl,_,none,0,rfl,aa.fin (cm []),Zc.nil⟩
   exact ⟨c3.length,by simp,rfl,⟨_,_,_,rfl,d0,hm,aa,ab,(Yg (congrArg (Value.int .i64) (Yf (Nat.lt_of_lt_of_le d1 (h1.ks aa).1.1))) rfl)⟩⟩
  refine Uk (col:=ak) (by kernel_rfl) (by kernel_rfl)<|qF ⟨_,_,rfl⟩ ?_;refine qW (fun _ hC=>((be.atN).nth (q:=0) rfl).gr (hC.bl ak)) ?_;refine go ?_;refine X5 hm (fun cq hm=>go ?_) fun cq hm=>go ?_
  ·refine qv (v:=(.bool true)) rfl (fun _ hC=>Xq (congrArg Value.bool cq) rfl) ?_;refine go ?_;refine qP 44 rfl rfl<|qP 44 rfl rfl<|qP 44 rfl rfl<|qv (v:=(.bool true)) rfl (fun _ hC=>Xq rfl rfl) ?_;refine go ?_;refine qP 49 rfl rfl<|qP 49 rfl rfl<|qP 49 rfl rfl<|qP 49 rfl rfl<|qP 49 rfl rfl<|qP 49 rfl rfl<|qP 49 rfl rfl<|qP 49 rfl rfl<|qv (v:=(.bool true)) rfl (fun _ hC=>Xq rfl rfl) ?_;refine Wt ?_;intro eu hC;replace hC:=hC.bl ak;replace ab:=ab.gr hC;replace aa:=aa.grow hC;exact ⟨rfl,_,_,hm,aa,ab,rfl⟩
  refine qF ⟨_,_,rfl⟩ ?_;refine go ?_;refine qW (fun _ hC=>((be.atN).nth (q:=0) rfl).gr (hC.bl ak)) ?_;refine go ?_;refine qv (v:=(.bool (decide ((ad.length:Int)≤bd.1)))) rfl (fun _ hC=>Xk (congrArg Value.bool cq) rfl) ?_;refine go ?_;refine X5 hm (fun cr hm=>go ?_) fun cr hm=>go ?_
  ·refine qv (v:=(.bool true)) rfl (fun _ hC=>Xq (congrArg Value.bool cr) rfl) ?_;refine go ?_;refine qP 49 rfl rfl<|qP 49 rfl rfl<|qP 49 rfl rfl<|qP 49 rfl rfl<|qP 49 rfl rfl<|qP 49 rfl rfl<|qP 49 rfl rfl<|qP 49 rfl rfl<|qv (v:=(.bool true)) rfl (fun _ hC=>Xq rfl rfl) ?_;refine Wt ?_;intro ew hC;replace hC:=hC.bl ak;replace ab:=ab.gr hC;replace aa:=aa.grow hC;exact ⟨rfl,_,_,hm,aa,ab,rfl⟩
  refine qF ⟨_,_,rfl⟩ ?_;refine go ?_;refine qW (fun _ hC=>((be.atN).nth (q:=1) rfl).gr (hC.bl ak)) ?_;refine go ?_;refine qv (v:=(.bool (decide (bd.2<0)))) rfl (fun _ hC=>Xk (congrArg Value.bool cr) rfl) ?_;refine go ?_;refine X5 hm (fun cs hm=>go ?_) fun cs hm=>go ?_
  ·refine qv (v:=(.bool true)) rfl (fun _ hC=>Xq (congrArg Value.bool cs) rfl) ?_;refine Wt ?_;intro ey hC;replace hC:=hC.bl ak;replace ab:=ab.gr hC;replace aa:=aa.grow hC;exact ⟨rfl,_,_,hm,aa,ab,rfl⟩
  refine qF ⟨_,_,rfl⟩ ?_;refine go ?_;refine qW (fun _ hC=>((be.atN).nth (q:=1) rfl).gr (hC.bl ak)) ?_;refine go ?_;refine qF ⟨_,_,rfl⟩ ?_;refine go ?_;refine qW (fun _ hC=>((be.atN).nth (q:=0) rfl).gr (hC.bl ak)) ?_;refine go ?_;obtain ⟨d8,ct,hm⟩:=bZ hm;refine qI ct (ab.addr ct) ?_;refine go ?_;refine qW (fun _ hC=>(ab.gr (hC.bl ak)).atInt ct) ?_;refine go ?_;refine qv (v:=(.bool (decide (d8≤bd.2)))) rfl (fun _ hC=>Xk (congrArg Value.bool cs) rfl) ?_;refine Wt ?_;intro ez hC;replace hC:=hC.bl ak;replace ab:=ab.gr hC;replace aa:=aa.grow hC;exact ⟨rfl,_,_,hm,aa,ab,rfl⟩
theorem Zxt:Yw Tryz.prog 9 1 16:=⟨Tryz.t9,_,rfl,rfl,rfl,rfl,rfl⟩
def Zcy (aa:List ByteArray):Option R4:=
  Zw ((([]:List ByteArray).length+aa.length) * 16≤140737488355328∧([]:List ByteArray).length+aa.length≤maxLen) (some (([]:List ByteArray)++aa))
theorem Zoa {ad:Nat} {a0:Option Addr} {col:Zd} {w0:World} {ac r:R4} (c1:Nat) (hm:Zcy ac=some r) (h0:Sl Za.str col w0 a0 ad ac):
    Calls Tryz.prog 238 #[.slice a0 ac.length ad] w0 (fun e w'=>∃ (col':Zd) (ra1:Option Addr) (rc2:Nat),e= .returned ((.slice ra1 r.length rc2))∧Zf col w0 col' w'∧Zc Za.str 9 c1 col' w' ra1 rc2 r):=by
 refine Xc 2 (m:=8) func238 rfl rfl rfl rfl rfl ?_;rw [Zcy.eq_1] at hm;have aa:=St.start col w0;refine go ?_;replace h0:=h0.keep (Zk.start col w0);rcases Zjx h0 with ab | ab
 ·replace hm:some ([]:List ByteArray)=some r:=by have h0:=ab.2;subst h0;simpa [Zw,maxLen] using hm
  refine lv (v:=.bool a0.isNone) rfl rfl (Zbq underlying22 rfl)<|.ld (d:=4) (v:=.bool true) (congrArg Value.bool ab.1)<|Zl<|Xz rfl<|go ?_;cases hm;exact ⟨rfl,_,none,0,rfl,aa.fin (cm []),Zc.nil⟩
 refine lv (v:=.bool a0.isNone) rfl rfl (Zbq underlying22 rfl)<|.ld (d:=4) (v:=.bool false) (congrArg Value.bool ab)<|Zl<|Xv rfl<|go ?_;refine Zfv (col:=(Zi col)) (r:=Za.str) 1 rfl underlying22 Zxt rfl ?_;intro aj ak al ae af;refine Yu rfl ?_;obtain ⟨ag,hm⟩:=Z0 hm;replace h0:=h0.gr ae;refine V2 af h0.srcC ag ?_;intro am an ao ap ah ai;refine go ?_;cases hm;replace aa:=(aa.grow ae).kpp ah;exact ⟨rfl,_,_,_,rfl,aa.fin (cm [(1,c1)]),aa.fo ai⟩

end Go.Proofs.YtbmjpjhbankpoaaGreat
