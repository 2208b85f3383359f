/-
  What functions of the program compute, as plain Lean functions (m_..), and proofs that they compute it (c_..). Printed by a program of the author; no conditions.
-/
import Derived.Test.YtdpdogdkolblnaaGreatDoorQueryAskBFloat
import Derived.Test.YtdpdogdkolblnaaGreatDoorProg
import Derived.Test.YtdpdogdkolblnaaGreatDoorQueryAskBBrief
import Derived.Test.YtdpdogdkolblnaaGreatDoorQueryAskF1
set_option linter.unusedVariables false
set_option linter.unusedSectionVars false
set_option maxRecDepth 100000
set_option maxHeartbeats 2000000
namespace Go.Proofs.YtdpdogdkolblnaaGreatDoor
open Go Go.RowKit
open Go.IntKind (i8 i16 i32 i64 u8 u16 u32 u64)
open Go.Proofs.Tryz

def Z4 (n:Nat):Nat:=if n=0 then 0 else n.log2+1
theorem Zc7:Z4 0=0:=rfl
theorem Zpl {n k:Nat} (h:2 ^ k≤n) (h2:n<2 ^ (k+1)):Z4 n=k+1:=by
 have h0:n≠0:=by have:=Nat.two_pow_pos k;omega
 rw [Z4,if_neg h0,(Nat.log2_eq_iff h0).2 ⟨h,h2⟩]
theorem Ziw {n:Nat} (h:n≠0):∃ k,Z4 n=k+1∧2 ^ k≤n∧n<2 ^ (k+1):=by
 refine ⟨n.log2,by rw [Z4,if_neg h],?_⟩
 exact (Nat.log2_eq_iff h).1 rfl
theorem Vn {n k:Nat}:Z4 n≤k↔n<2 ^ k:=by
 by_cases h:n=0
 ·subst h;simp [Zc7,Nat.two_pow_pos]
 ·obtain ⟨j,e,h1,h2⟩:=Ziw h
  rw [e]
  constructor
  ·intro hk;exact Nat.lt_of_lt_of_le h2 (Nat.pow_le_pow_right (by decide) hk)
  ·intro hk
   have:=(Nat.pow_lt_pow_iff_right (a:=2) (by decide)).1 (Nat.lt_of_le_of_lt h1 hk)
   omega
theorem Zf0 (n k:Nat):Z4 (n / 2 ^ k)=Z4 n - k:=by
 by_cases h:n / 2 ^ k=0
 ·have h1:n<2 ^ k:=by
   have:=Nat.two_pow_pos k
   rcases Nat.div_eq_zero_iff.1 h with h | h
   ·omega
   ·exact h
  have:=Vn.2 h1
  rw [h,Zc7];omega
 ·obtain ⟨j,e,h1,h2⟩:=Ziw h
  have hp:=Nat.two_pow_pos k
  have h3:2 ^ (j+k)≤n:=by
   rw [Nat.pow_add]
   exact (Nat.le_div_iff_mul_le hp).1 h1
  have h4:n<2 ^ (j+k+1):=by
   have:=(Nat.div_lt_iff_lt_mul hp).1 h2
   rw [show j+k+1=(j+1)+k by omega,Nat.pow_add];exact this
  rw [e,Zpl h3 h4];omega
theorem Z07:∀ x:Fin 256,Zby (x.val:Int) 0=some ((Z4 x.val:Nat):Int):=by decide+kernel
theorem Zrw {x:Nat} (h:x<256) {n:Int} (hn:0≤n∧n≤24):Zby (x:Int) n=some (n+(Z4 x:Int)):=by
 have h0:=Z07 ⟨x,h⟩
 have hb:Z4 x≤8:=Vn.2 h
 rw [Zby] at h0 ⊢
 revert h0
 generalize W8 _ _=o
 intro h0
 cases o with
 | none=>cases h0
 | some e=>
  rw [Option.bind_some] at h0 ⊢
  have h1:=Option.some.inj h0
  rw [IntKind.wrap_i64,IntKind.wrap_i64] at h1 ⊢
  congr 1
  simp only at h1
  omega
theorem Zls (i:IntKind) (x k:Nat) (hk:k≤i.bits):X9 i (x:Int) (k:Int)=((x / 2 ^ k:Nat):Int):=by
 rw [X9,Int.toNat_natCast,Nat.min_eq_left hk,Int.fdiv_eq_ediv_of_nonneg _ (Int.le_of_lt (Int.pow_pos (by decide)))]
 norm_cast
theorem Zrv {x:Nat} (h:x<4294967296):Zd9 (x:Int)=some ((Z4 x:Nat):Int):=by
 have j1:∀ (y:Nat) (n:Int),y<65536→0≤n∧n≤16→Zea (y:Int) n=some (n+(Z4 y:Int)):=fun y n hy hn=>by
  rw [Zea]
  by_cases h1:256≤y
  ·have e:=Zls .u32 y 8 (by decide)
   have hb:=Zf0 y 8
   have hb8:8≤Z4 y:=by
    have:¬ Z4 y≤7:=fun h=>by have:=Vn.1 h;omega
    omega
   rw [if_pos (by simp;omega),show (8:Int)=((8:Nat):Int) from rfl,e,Zrw (by omega) (by rw [Z2 (by omega)];omega),Z2 (by omega),hb]
   congr 1;omega
  ·rw [if_neg (by simp;omega),Zrw (by omega) (by omega)]
 rw [Zd9]
 by_cases h1:65536≤x
 ·have e:=Zls .u32 x 16 (by decide)
  have hb:=Zf0 x 16
  have hb8:16≤Z4 x:=by
   have:¬ Z4 x≤15:=fun h=>by have:=Vn.1 h;omega
   omega
  rw [if_pos (by simp;omega),show (16:Int)=((16:Nat):Int) from rfl,e,j1 _ _ (by omega) (by omega),hb]
  congr 1;omega
 ·rw [if_neg (by simp;omega),j1 _ _ (by omega) (by omega)]
  congr 1;omega
theorem Zpn {a:List Int} {x:Int} (ha:Zn a) (hx:0<x∧x<4294967296):Z4 (Zb (a++[x]))=32 * a.length+Z4 x.toNat:=by
 obtain ⟨k,e,h1,h2⟩:=Ziw (show x.toNat≠0 by omega)
 have hl:=Tx ha
 have e1:Zb (a++[x])=Zb a+4294967296 ^ a.length * x.toNat:=by rw [Tw,Yy,Ye];simp
 have e2:(4294967296:Nat) ^ a.length=2 ^ (32 * a.length):=by rw [show (4294967296:Nat)=2 ^ 32 by decide,← Nat.pow_mul]
 rw [e]
 have:=Zpl (n:=Zb (a++[x])) (k:=32 * a.length+k) (by
   rw [e1,e2,Nat.pow_add]
   have:=Nat.mul_le_mul_left (2 ^ (32 * a.length)) h1
   omega) (by
   rw [e1,show 32 * a.length+k+1=32 * a.length+(k+1) by omega,Nat.pow_add,e2]
   have:=Nat.mul_le_mul_left (2 ^ (32 * a.length)) (show x.toNat+1≤2 ^ (k+1) by omega)
   rw [Nat.mul_add] at this
   rw [e2] at hl
   omega)
 rw [this];omega
theorem Ziu (n:Nat):32 * ((Zf n).length - 1)≤Z4 n∧Z4 n≤32 * (Zf n).length:=by
 have e:∀ k,(4294967296:Nat) ^ k=2 ^ (32 * k):=fun k=>by rw [show (4294967296:Nat)=2 ^ 32 by decide,← Nat.pow_mul]
 constructor
 ·by_cases h:32 * ((Zf n).length - 1)≤Z4 n
  ·exact h
  ·exfalso
   have h1:=Vn.1 (show Z4 n≤32 * ((Zf n).length - 1) by omega)
   rw [← e] at h1
   have:=Wu.2 h1
   omega
 ·have:=Wu.1 (Nat.le_refl (Zf n).length)
  rw [e] at this
  exact Vn.2 this
theorem Zwu {N:Nat} {a:List Int} (h:Zn a) (hn:a.length<N) (hb:a.length≤35184372088000):Zg1 N a=some ((Z4 (Zb a):Nat):Int):=by
 have hl:=Yv h
 rw [Zg1,T6 h hn hb,Option.bind_some]
 by_cases h0:(Zf (Zb a)).length=0
 ·have:Zb a=0:=Zdk.1 (List.eq_nil_of_length_eq_zero h0)
  rw [if_pos (by simp [h0]),this,Zc7];rfl
 ·have hp:0<(Zf (Zb a)).length:=by omega
  have e:((Zf (Zb a)).length:Int) - 1=(((Zf (Zb a)).length - 1:Nat):Int):=by omega
  have hx:=(Z8 (Zb a)).get (k:=(Zf (Zb a)).length - 1) (by omega)
  have hne:=Zjk hp
  have hs:=Zdh hp
  have e2:(Zf (Zb a))[(Zf (Zb a)).length - 1]=(((Zf (Zb a))[(Zf (Zb a)).length - 1]).toNat:Int):=by omega
  rw [if_neg (by simpa using h0),Z2 (by omega),e,Xa (by omega),Option.bind_some,e2,Zrv (by omega),Option.bind_some]
  have hb:=Zpn (a:=(Zf (Zb a)).take ((Zf (Zb a)).length - 1)) (x:=(Zf (Zb a))[(Zf (Zb a)).length - 1]) ((Z8 _).take _) (by omega)
  rw [hs,Z3,List.length_take,Nat.min_eq_left (by omega)] at hb
  have hb2:Z4 ((Zf (Zb a))[(Zf (Zb a)).length - 1]).toNat≤32:=Vn.2 (by omega)
  rw [Z2 (x:=32 * _) (by omega),Z2 (by omega),hb]
  congr 1
theorem Zc8 (w x:Nat) (h:x<2 ^ w):(BitVec.ofInt w (x:Int)).toNat=x:=by
 rw [BitVec.toNat_ofInt]
 have:((2 ^ w:Nat):Int)=(2:Int) ^ w:=by norm_cast
 rw [← Int.natCast_emod,Int.toNat_natCast,Nat.mod_eq_of_lt h]
theorem or64 (k a b:Nat) (h:b<2 ^ k) (hs:2 ^ k * a+b<18446744073709551616):Ys .u64 ((2 ^ k * a:Nat):Int) (b:Int)=((2 ^ k * a+b:Nat):Int):=by
 rw [Ys,BitVec.toNat_or,Zc8 _ _ (by simp only [IntKind.bits];omega),Zc8 _ _ (by simp only [IntKind.bits];omega),← Nat.two_pow_add_eq_or_of_lt h,IntKind.wrap_u64]
 omega
theorem or32 (k a b:Nat) (h:b<2 ^ k) (hs:2 ^ k * a+b<4294967296):Ys .u32 (b:Int) ((2 ^ k * a:Nat):Int)=((2 ^ k * a+b:Nat):Int):=by
 rw [Ys,BitVec.toNat_or,Zc8 _ _ (by simp only [IntKind.bits];omega),Zc8 _ _ (by simp only [IntKind.bits];omega),Nat.or_comm,← Nat.two_pow_add_eq_or_of_lt h,IntKind.wrap_u32]
 omega
theorem Z3h {x:Int} (h:0≤x∧x<4294967296):Xu .u64 x 32=x * 4294967296:=by
 have:(min (32:Int).toNat u64.bits)=32:=by decide
 rw [Xu,this,IntKind.wrap_u64]
 omega
theorem Zlx {r e:Int} (hr:0≤r∧r<4294967296) (he:0≤e∧e<4294967296):Ys .u64 (Xu .u64 r 32) e=r * 4294967296+e:=by
 rw [Z3h hr]
 have:=or64 32 r.toNat e.toNat (by omega) (by omega)
 rw [show ((2 ^ 32 * r.toNat:Nat):Int)=r * 4294967296 by omega,show ((e.toNat:Nat):Int)=e by omega] at this
 rw [this];omega
theorem Zbe {l:List Int} {k j:Nat} (v:Int) (h:j≤k):(l.set k v).take j=l.take j:=by
 rw [List.take_set,List.set_eq_of_length_le]
 rw [List.length_take];omega
theorem Zu2 (N:Nat) (d:Int) (hd:0<d∧d<4294967296):∀ (n j:Nat) (r:List Int) (c:Int),j≤r.length→j<n→r.length<4611686018427387904→Zn r→0≤c∧c<d→
  ∃ c' r',Zb9 N d n r c ((j:Int) - 1)=some (c',r')∧r'.length=r.length∧Zn r'∧0≤c'∧c'<d∧d.toNat * Zb r'+c'.toNat=Zb (r.take j)+4294967296 ^ j * (c.toNat+d.toNat * Zb (r.drop j))
 | 0,j,r,c,_,h,_,_,_=>by omega
 | n+1,j,r,c,hj,hn,hs,hr,hc=>by
  rw [Zb9.eq_2]
  by_cases h0:j=0
  ·subst h0
   rw [if_neg (by decide),V2 (by omega)]
   refine ⟨c,r,rfl,rfl,hr,hc.1,hc.2,?_⟩
   rw [List.take_zero,List.drop_zero,Ye];omega
  ·have e:(j:Int) - 1=((j - 1:Nat):Int):=by omega
   have hk:j - 1<r.length:=by omega
   have g:=hr.get hk
   rw [if_pos (by simp;omega),e,Xa hk,Option.bind_some,Xi (x:=d) (by omega),Xd (by omega),Option.bind_some,Xd (by omega),Int.toNat_natCast,Xi (x:=r[j - 1]) (by omega),Zlx (by omega) (by omega)]
   generalize hcur:c * 4294967296+r[j - 1]=cur
   have hcd:(c+1) * 4294967296≤d * 4294967296:=by omega
   have hq:0≤cur / d∧cur / d<4294967296:=⟨Int.ediv_nonneg (by omega) (by omega),Int.ediv_lt_of_lt_mul hd.1 (by rw [Int.mul_comm];omega)⟩
   have hm:=Int.emod_nonneg cur (show d≠0 by omega)
   have hm2:=Int.emod_lt_of_pos cur hd.1
   have hdm:=Int.mul_ediv_add_emod cur d
   rw [Int.tdiv_eq_ediv_of_nonneg (by omega),Int.tmod_eq_emod_of_nonneg (by omega),Xi (by omega),V2 hq,Z2 (by omega)]
   obtain ⟨c',r',q1,q2,q3,q4,q5,q6⟩:=Zu2 N d hd n (j - 1) (r.set (j - 1) (cur / d)) (cur % d) (by rw [List.length_set];omega) (by omega) (by rw [List.length_set];exact hs) (hr.set _ hq) ⟨hm,hm2⟩
   refine ⟨c',r',q1,by rw [q2,List.length_set],q3,q4,q5,?_⟩
   rw [q6,Zbe _ (Nat.le_refl _)]
   have t1:=Zob hk
   have t2:Zb ((r.set (j - 1) (cur / d)).drop (j - 1))=(cur / d).toNat+4294967296 * Zb (r.drop (j - 1+1)):=by
    rw [V5 (by rw [List.length_set];exact hk),List.getElem_set_self,Qb _ (by omega)]
   rw [show j - 1+1=j by omega] at t1 t2
   rw [t1,t2]
   have hp:(4294967296:Nat) ^ j=4294967296 ^ (j - 1) * 4294967296:=by rw [← Nat.pow_succ,show (j - 1).succ=j by omega]
   rw [hp]
   have hn1:d.toNat * (cur / d).toNat+(cur % d).toNat=c.toNat * 4294967296+(r[j - 1]).toNat:=by
    have:((d.toNat * (cur / d).toNat:Nat):Int)=d * (cur / d):=by rw [Int.natCast_mul,Int.toNat_of_nonneg (by omega),Int.toNat_of_nonneg hq.1]
    omega
   generalize hQ:4294967296 ^ (j - 1)=Q
   have hn2:Q * (d.toNat * (cur / d).toNat+(cur % d).toNat)=Q * (c.toNat * 4294967296+(r[j - 1]).toNat):=by rw [hn1]
   grind
theorem Z3j {N:Nat} {a:List Int} {d:Int} (hd:0<d∧d<4294967296) (ha:Zn a) (hn:a.length<N) (hs:a.length≤35184372088000):
  ∃ q,Zg7 N a d=some (((Zb a % d.toNat:Nat):Int),q)∧q.length=a.length∧Zn q∧Zb q=Zb a / d.toNat:=by
 obtain ⟨c',r',q1,q2,q3,q4,q5,q6⟩:=Zu2 N d hd N a.length a 0 (Nat.le_refl _) hn (by omega) ha (by omega)
 have hd':0<d.toNat:=by omega
 rw [List.take_length,List.drop_length,Ye] at q6
 have h1:Zb a=c'.toNat+d.toNat * Zb r':=by simp at q6;omega
 have h2:Zb a % d.toNat=c'.toNat:=by rw [h1,Nat.add_mul_mod_self_left,Nat.mod_eq_of_lt (by omega)]
 have h3:Zb a / d.toNat=Zb r':=by rw [h1,Nat.add_mul_div_left _ _ hd',Nat.div_eq_of_lt (by omega),Nat.zero_add]
 refine ⟨r',?_,q2,q3,h3.symm⟩
 rw [Zg7,Z2 (by omega),q1,h2]
 congr 2;omega
theorem Zo5 {i:IntKind} {x s:Nat} (hs:s<32) (hi:i= .u32∨i= .u64):Xu i (x:Int) (s:Int)=i.wrap ((x * 2 ^ s:Nat):Int):=by
 rw [Xu,Int.toNat_natCast,Nat.min_eq_left (by rcases hi with rfl | rfl <;> simp only [IntKind.bits] <;> omega)]
 norm_cast
theorem Zvp (n:Nat):u32.wrap (n:Int)=((n % 4294967296:Nat):Int):=by rw [IntKind.wrap_u32];omega
theorem Zrs (s:Nat) (hs:s<32):∀ (l:List Int) (k:Nat) (out:List Int),Zn l→out.length=k+l.length+1→out.length<4611686018427387904→Zn out→Zb (out.drop (k+1))=0→(∀ h:k<out.length,(out[k]).toNat<2 ^ s)→
  ∃ out',Za1 (s:Int) l k out=some out'∧out'.length=out.length∧Zn out'∧Zb out'=Zb out+4294967296 ^ k * (2 ^ s * Zb l)∧(∀ h:out'.length - 1<out'.length,(out'[out'.length - 1]).toNat<2 ^ s)
 | [],k,out,_,hl,_,ho,_,hk=>by
  rw [Za1.eq_1]
  rw [List.length_nil] at hl
  refine ⟨out,rfl,rfl,ho,by rw [Ye];omega,fun h=>?_⟩
  have:=hk (by omega)
  simpa [hl] using this
 | x :: l,k,out,hx,hl,hz,ho,hd,hk=>by
  rw [List.length_cons] at hl
  have h0:k<out.length:=by omega
  have h1:k+1<out.length:=by omega
  have gx:=hx.head
  have gk:=ho.get h0
  have gs:=hk h0
  have hz1:=drop_zero ho h1 hd
  have e1:i64.wrap ((k:Int)+1)=((k+1:Nat):Int):=by rw [Z2 (by omega)];omega
  have ex:x=(x.toNat:Int):=by omega
  have ek:out[k]=((out[k]).toNat:Int):=by omega
  have pw:(2:Nat) ^ s * 2 ^ (32 - s)=4294967296:=by rw [← Nat.pow_add,show s+(32 - s)=32 by omega]
  have hps:=Nat.two_pow_pos s
  have hp2:=Nat.two_pow_pos (32 - s)
  -- the lower and the upper limb
  have hxs:x.toNat * 2 ^ s<4294967296 * 2 ^ s:=Nat.mul_lt_mul_of_pos_right (by omega) hps
  have hs31:2 ^ s≤2147483648:=by
   have:=Nat.pow_le_pow_right (n:=2) (by decide) (show s≤31 by omega)
   omega
  have hlow:(x.toNat * 2 ^ s) % 4294967296=2 ^ s * (x.toNat % 2 ^ (32 - s)):=by
   rw [← pw,Nat.mul_comm x.toNat,Nat.mul_mod_mul_left]
  have hlo:Ys .u32 out[k] (Xu .u32 x (s:Int))=(((x.toNat * 2 ^ s) % 4294967296+(out[k]).toNat:Nat):Int):=by
   rw [ex,Zo5 hs (.inl rfl),Zvp,ek]
   simp only [Int.toNat_natCast]
   rw [hlow]
   refine or32 s _ _ gs ?_
   have:2 ^ s * (x.toNat % 2 ^ (32 - s)+1)≤2 ^ s * 2 ^ (32 - s):=Nat.mul_le_mul_left _ (Nat.mod_lt _ hp2)
   rw [pw,Nat.mul_add] at this
   omega
  have hhi:u32.wrap (X9 .u64 (Xu .u64 (u64.wrap x) (s:Int)) 32)=((x.toNat * 2 ^ s / 4294967296:Nat):Int):=by
   rw [Xi (x:=x) (by omega),ex,Zo5 hs (.inr rfl),Zcz,Xi (by omega)]
   simp only [Int.toNat_natCast]
   rw [V2 (by omega)]
   omega
  have hhs:x.toNat * 2 ^ s / 4294967296<2 ^ s:=(Nat.div_lt_iff_lt_mul (by decide)).2 (by rw [Nat.mul_comm (2 ^ s)];exact hxs)
  have hlow2:(x.toNat * 2 ^ s) % 4294967296+(out[k]).toNat<4294967296:=by
   rw [hlow]
   have:2 ^ s * (x.toNat % 2 ^ (32 - s)+1)≤2 ^ s * 2 ^ (32 - s):=Nat.mul_le_mul_left _ (Nat.mod_lt _ hp2)
   rw [pw,Nat.mul_add] at this
   omega
  rw [Za1.eq_2,Xa h0,Option.bind_some,Xd (by omega),Option.bind_some,Xd (by omega),e1,Int.toNat_natCast,Int.toNat_natCast,
   Xa (by rw [List.length_set];exact h1),Option.bind_some,Option.bind_some,hlo,hhi]
  generalize hA:(x.toNat * 2 ^ s) % 4294967296+(out[k]).toNat=A at hlow2
  generalize hB:x.toNat * 2 ^ s / 4294967296=B at hhs
  have o1:Zn (out.set k (A:Int)):=ho.set _ (by omega)
  have o2:Zn ((out.set k (A:Int)).set (k+1) (B:Int)):=o1.set _ (by omega)
  obtain ⟨out',q1,q2,q3,q4,q5⟩:=Zrs s hs l (k+1) ((out.set k (A:Int)).set (k+1) (B:Int)) hx.tail (by rw [List.length_set,List.length_set];omega) (by rw [List.length_set,List.length_set];exact hz) o2 (by
   rw [Qb _ (by omega),Qb _ (by omega)];exact hz1.2) (fun h=>by rw [List.getElem_set_self];simpa using hhs)
  refine ⟨out',q1,by rw [q2,List.length_set,List.length_set],q3,?_,q5⟩
  have v1:=Td h0 (A:Int)
  have v2:=Td (l:=out.set k (A:Int)) (k:=k+1) (by rw [List.length_set];exact h1) (B:Int)
  rw [List.getElem_set_ne (by omega),hz1.1] at v2
  rw [Int.toNat_natCast] at v1 v2
  rw [Int.toNat_zero,Nat.mul_zero,Nat.add_zero] at v2
  rw [q4,Yy]
  rw [Nat.pow_succ] at v2 ⊢
  have key:A+4294967296 * B=(out[k]).toNat+x.toNat * 2 ^ s:=by omega
  generalize 4294967296 ^ k=Q at *
  have key2:Q * (A+4294967296 * B)=Q * ((out[k]).toNat+x.toNat * 2 ^ s):=by rw [key]
  grind
theorem Zrt {a:List Int} {s:Nat} (hs:s<32) (ha:Zn a) (hb:a.length<35184372088000):
  ∃ o,Zep a (s:Int)=some o∧o.length=a.length+1∧Zn o∧Zb o=2 ^ s * Zb a∧∀ h:o.length - 1<o.length,(o[o.length - 1]).toNat<2 ^ s:=by
 rw [Zep,Z2 (by omega),Xd (by simp only [maxLen];omega)]
 have e:Int.toNat ((a.length:Int)+1)=a.length+1:=by omega
 rw [e]
 obtain ⟨o,q1,q2,q3,q4,q5⟩:=Zrs s hs a 0 (List.replicate (a.length+1) 0) ha (by rw [List.length_replicate];omega) (by rw [List.length_replicate];omega) (.zeros _) (by rw [List.drop_replicate];exact Ty _) (fun h=>by
  rw [List.getElem_replicate];exact Nat.two_pow_pos s)
 refine ⟨o,q1,by rw [q2,List.length_replicate],q3,?_,q5⟩
 rw [q4,Ty,Nat.pow_zero];omega
def Ze2 (b:List Int) (a:Int) (kk_L1:(Int→Option (List Int))) (c:Bool):Option (List Int):=
  if c=true then (kk_L1 (i64.wrap (a - 1))) else (Zr ((0:Int)≤a∧a≤(b.length:Int)) (Zr ((([]:List Int).length+(b.take (Int.toNat a)).length) * 4≤140737488355328∧([]:List Int).length+(b.take (Int.toNat a)).length≤maxLen) (some (([]:List Int)++(b.take (Int.toNat a))))))
def Qz (N:Nat) (a:List Int):Nat→Int→Option (List Int)
  | 0,_=>none
  | c+1,b=>if (decide (0<b))=true then ((Zq a (i64.wrap (b - 1))).bind fun d=>Ze2 a b (Qz N a c) (decide (d=0))) else (Ze2 a b (Qz N a c) false)
termination_by structural x=>x
def Ud (N:Nat) (a:List Int):Option (List Int):=
  Qz N a N (a.length:Int)
theorem Tk {N j:Nat} {a0:Option Addr} {col:Zd} {w0:World} {b r:(List Int)} (c1:Nat) (hm:Ud N b=some r) (h0:Sl (Za.int .u32) col w0 a0 j b):
    Calls prog 139 #[.slice a0 b.length j] w0 (fun e w'=>∃ (col':Zd) (ra1:Option Addr) (rc2:Nat),e= .returned ((.slice ra1 r.length rc2))∧Zg col w0 col' w'∧Zc (Za.int .u32) 200 c1 col' w' ra1 rc2 r):=by
 refine Z5 2 (m:=24) func139 O O O O O ?_;rw [Ud.eq_1] at hm;have a:=St.start col w0;refine go ?_;refine Z6 [0,1000000] (fun n f q=>∃ s g i,i=n∧Qz N b i g=some r∧St w0 (Zi col) s q∧[3].map f=[.int .i64 g]) N ⟨_,_,_,O,hm,a,O⟩ ?_;clear hm;intro n f q w;obtain ⟨s,g,i,hn,hm,a,hs⟩:=w;subst hn;refine .lL [3] hs ?_;replace h0:=h0.keep (Zl.start col w0)
 cases i with
 | zero=>rw [Qz.eq_1] at hm;cases hm
 | succ i=>
  rw [Qz.eq_2] at hm;refine Zo<|Zo ?_;refine Wp.cutK [0,3,1000000] (fun f t=>∃ u k,Ze2 b g (Qz N b i) k=some r∧St w0 (Zi col) u t∧[16].map f=[.bool k]) ?_ ?_
  ·intro f t x;obtain ⟨u,k,hm,a,hs⟩:=x;rw [Ze2.eq_1] at hm;refine .lL [16] hs ?_;refine Zm hm (fun hb hm=>go ?_) fun hb hm=>go ?_
   ·exact ⟨i,by omega,O,⟨_,_,_,O,hm,a,O⟩⟩
   obtain ⟨l,hm⟩:=Zt hm;refine lv (v:=.slice a0 (Int.toNat g) j) O O (Zbc underlying120 sizeOf200 O O l.1 (by have:=(h0.ks a).1.2;have:=l.2;omega))<|.ld (d:=22) (v:=(.slice a0 ((b.take (Int.toNat g)).length) j)) (congrArg (fun n=>Value.slice a0 n j) (List.length_take_of_le (show (Int.toNat g)≤b.length by have:=l.2;omega)).symm) ?_;obtain ⟨y,hm⟩:=Zt hm;refine Wy (c:=1) Zc.nil ((h0.ks a).take (Int.toNat g)).srcC y ?_;intro D E F G A B;refine go ?_;cases hm;replace a:=a.kpp A;exact ⟨O,_,_,_,O,a.fin (cm [(1,c1)]),a.fo B⟩
  refine go ?_;refine Z7 hm (fun o hm=>go ?_) fun o hm=>go ?_
  ·obtain ⟨C,p,hm⟩:=bZ hm;refine lI p ((h0.ks a).addr p) ?_;refine go ?_;refine lW ((h0.ks a).atInt p)<|go ?_;refine lV (.bool (decide (C=0))) (Zx (congrArg Value.bool o) O)<|Zj ?_;exact ⟨O,_,_,hm,a,O⟩
  refine lV (.bool false) (Z0 (congrArg Value.bool o) O)<|Zj ?_;exact ⟨O,_,_,hm,a,O⟩
def Zcd (N:Nat):Nat→Int→Int→Option Int
  | 0,_,_=>none
  | c+1,a,b=>if (decide (0<b))=true then ((Zcd N c) (i64.wrap (a+1)) (u32.wrap (Int.tdiv b 2))) else (some a)
termination_by structural x=>x
def Zho (N:Nat) (b:List Int):Option Int:=
  (Ud N b).bind fun a=>if (decide ((a.length:Int)=0))=true then (some 0) else ((Zq a (i64.wrap ((a.length:Int) - 1))).bind fun c=>Zcd N N (i64.wrap (32 * (i64.wrap ((a.length:Int) - 1)))) c)
theorem Zya {N j:Nat} {a0:Option Addr} {col:Zd} {w0:World} {d:(List Int)} {r:Int} (hm:Zho N d=some r) (h0:Sl (Za.int .u32) col w0 a0 j d):
    Calls prog 161 #[.slice a0 d.length j] w0 (fun e w'=>e= .returned ((.int .i64 r))∧Below w0.heap.size w0 w'):=by
 refine Z5 2 (m:=28) func161 O O O O O ?_;rw [Zho.eq_1] at hm;have a:=St.start col w0;refine go ?_;obtain ⟨t,p,hm⟩:=bZ hm;replace h0:=h0.keep (Zl.start col w0);refine Zh (Tk 1 p (h0.ks a)) ?_;rintro _ u ⟨v,w,x,rfl,q,k⟩;refine ⟨_,O,go ?_⟩;replace a:=a.grow q;refine Zm hm (fun hb hm=>go ?_) fun hb hm=>go ?_
 ·cases hm;exact ⟨O,O,a.below⟩
 obtain ⟨y,g,hm⟩:=bZ hm;refine lI g (k.addr g)<|lW (k.atInt g) ?_;refine go ?_;refine Z6 [1000000] (fun n f l=>∃ o i c b,b=n∧Zcd N b i c=some r∧St w0 (Zi col) o l∧[4,5].map f=[.int .i64 i,.int .u32 c]) N ⟨_,_,_,_,O,hm,a,O⟩ ?_;clear hm;intro n f l s;obtain ⟨o,i,c,b,hn,hm,a,hs⟩:=s;subst hn;refine .lL [4,5] hs ?_
 cases b with
 | zero=>rw [Zcd.eq_1] at hm;cases hm
 | succ b=>
  rw [Zcd.eq_2] at hm;refine go ?_;refine Zm hm (fun hb hm=>go ?_) fun hb hm=>go ?_
  ·refine lV (.int .u32 (u32.wrap (Int.tdiv c 2))) (Uq c 2 O O (by decide))<|go ?_;exact ⟨b,by omega,O,⟨_,_,_,_,O,hm,a,O⟩⟩
  cases hm;exact ⟨O,O,a.below⟩
def Sc (a:List Int) (b:Int):Option Int:=
  if (decide (b<(a.length:Int)))=true then ((Zq a b).bind fun c=>some (u64.wrap c)) else (some 0)
theorem Zbj {d:Nat} {a0:Option Addr} {col:Zd} {w0:World} {b:(List Int)} {f r:Int} (hm:Sc b f=some r) (h0:Sl (Za.int .u32) col w0 a0 d b):
    Calls prog 140 #[.slice a0 b.length d,.int .i64 f] w0 (fun e w'=>e= .returned ((.int .u64 r))∧Below w0.heap.size w0 w'):=by
 refine Z5 4 (m:=14) func140 O O O O O ?_;rw [Sc.eq_1] at hm;have a:=St.start col w0;refine go ?_;replace h0:=h0.keep (Zl.start col w0);refine Zm hm (fun hb hm=>go ?_) fun hb hm=>go ?_
 ·obtain ⟨g,c,hm⟩:=bZ hm;refine lI c ((h0.ks a).addr c)<|lW ((h0.ks a).atInt c) ?_;refine go ?_;cases hm;exact ⟨O,O,a.below⟩
 cases hm;exact ⟨O,O,a.below⟩
def Zhn (b:List Int) (a:Int):Option Int:=
  (Sc b (i64.wrap (Int.tdiv a 32))).bind fun c=>Zr (0≤(Int.tmod a 32)) (some (Int.tmod (u32.wrap (X9 .u64 c (Int.tmod a 32))) 2))
theorem Zx9 {g:Nat} {a0:Option Addr} {col:Zd} {w0:World} {d:(List Int)} {a r:Int} (hm:Zhn d a=some r) (h0:Sl (Za.int .u32) col w0 a0 g d):
    Calls prog 162 #[.slice a0 d.length g,.int .i64 a] w0 (fun e w'=>e= .returned ((.int .u32 r))∧Below w0.heap.size w0 w'):=by
 refine Z5 4 (m:=14) func162 O O O O O ?_;rw [Zhn.eq_1] at hm;have b:=St.start col w0;refine go ?_;refine lV (.int .i64 (i64.wrap (Int.tdiv a 32))) (Uq a 32 O O (by decide)) ?_;obtain ⟨c,i,hm⟩:=bZ hm;replace h0:=h0.keep (Zl.start col w0);refine Zh (Zbj i (h0.ks b)) ?_;rintro _ j ⟨rfl,f⟩;refine ⟨_,O,?_⟩;replace f:Zg (Zi col) w0 (Zi col) j:=.of_below f;refine Y1 O<|lV (.int .i64 (Int.tmod a 32)) (T3 a 32 O O (by decide)) ?_;obtain ⟨k,hm⟩:=Zt hm;refine lV (.int .u64 (X9 .u64 c (Int.tmod a 32))) (T4 c (Int.tmod a 32) O O k)<|go ?_;refine lV (.int .u32 (Int.tmod (u32.wrap (X9 .u64 c (Int.tmod a 32))) 2)) (T3 (u32.wrap (X9 .u64 c (Int.tmod a 32))) 2 O O (by decide))<|go ?_;cases hm;replace b:=b.grow f;exact ⟨O,O,b.below⟩
def Ze7 (a:List Int):Option (List Int):=
  some a
def Zci (N:Nat) (d:List Int):Nat→(List Int)→Int→Int→Option (List Int)
  | 0,_,_,_=>none
  | f+1,b,a,e=>if (decide (e<(d.length:Int)))=true then ((Zq d e).bind fun c=>Zr ((b.length+[u32.wrap (Int.tmod (u64.wrap (a+(u64.wrap (2 * (u64.wrap c))))) 4294967296)].length) * 4≤140737488355328∧b.length+[u32.wrap (Int.tmod (u64.wrap (a+(u64.wrap (2 * (u64.wrap c))))) 4294967296)].length≤maxLen) ((Zci N d f) (b++[u32.wrap (Int.tmod (u64.wrap (a+(u64.wrap (2 * (u64.wrap c))))) 4294967296)]) (u64.wrap (Int.tdiv (u64.wrap (a+(u64.wrap (2 * (u64.wrap c))))) 4294967296)) (i64.wrap (e+1)))) else (if (decide (0<a))=true then (Zr ((b.length+[u32.wrap a].length) * 4≤140737488355328∧b.length+[u32.wrap a].length≤maxLen) (Ze7 (b++[u32.wrap a]))) else (Ze7 b))
termination_by structural x=>x
def Ze6 (N:Nat) (a:List Int) (b:Int):Option (List Int):=
  Zci N a N ([]:List Int) (u64.wrap b) 0
theorem Zp3 {N A:Nat} {a0:Option Addr} {col:Zd} {w0:World} {j:(List Int)} {B:Int} {r:(List Int)} (c1:Nat) (hm:Ze6 N j B=some r) (h0:Sl (Za.int .u32) col w0 a0 A j):
    Calls prog 160 #[.slice a0 j.length A,.int .u32 B] w0 (fun e w'=>∃ (col':Zd) (ra1:Option Addr) (rc2:Nat),e= .returned ((.slice ra1 r.length rc2))∧Zg col w0 col' w'∧Zc (Za.int .u32) 200 c1 col' w' ra1 rc2 r):=by
 refine Z5 4 (m:=40) func160 rfl rfl rfl rfl rfl ?_;rw [Ze6.eq_1] at hm;have a:=St.start col w0;refine go ?_;refine Z6 [0,1000000] (fun n f p=>∃ g q s l b t d,d=n∧Zci N j d l b t=some r∧St w0 (Zi col) g p∧Zc (Za.int .u32) 200 1 g p q s l∧[5,6,7].map f=[.slice q l.length s,.int .u64 b,.int .i64 t]) N ⟨_,none,0,_,_,0,_,rfl,hm,a,Zc.nil,rfl⟩ ?_;clear hm;intro n f p E;obtain ⟨g,q,s,l,b,t,d,hn,hm,a,c,hs⟩:=E;subst hn;refine .lL [5,6,7] hs ?_;replace h0:=h0.keep (Zl.start col w0)
 cases d with
 | zero=>rw [Zci.eq_1] at hm;cases hm
 | succ d=>
  rw [Zci.eq_2] at hm;refine go ?_;refine Zm hm (fun hb hm=>go ?_) fun hb hm=>?_
  ·obtain ⟨i,u,hm⟩:=bZ hm;refine lI u ((h0.ks a).addr u)<|lW ((h0.ks a).atInt u) ?_;refine go ?_;refine lV (.int .u64 (Int.tmod (u64.wrap (b+(u64.wrap (2 * (u64.wrap i))))) 4294967296)) (T3 (u64.wrap (b+(u64.wrap (2 * (u64.wrap i))))) 4294967296 rfl rfl (by decide))<|go ?_;refine U8 (col:=g) [u32.wrap (Int.tmod (u64.wrap (b+(u64.wrap (2 * (u64.wrap i))))) 4294967296)] 2 ?_;intro Q R S C F;obtain ⟨G,hm⟩:=Zt hm;replace c:=c.gr C;refine Wy c (F.srcN (NB.int (k:=.u32))) G ?_;intro T U V W H I;refine go ?_;refine lV (.int .u64 (u64.wrap (Int.tdiv (u64.wrap (b+(u64.wrap (2 * (u64.wrap i))))) 4294967296))) (Uq (u64.wrap (b+(u64.wrap (2 * (u64.wrap i))))) 4294967296 rfl rfl (by decide))<|go ?_;replace a:=(a.grow C).kpp H;exact ⟨d,by omega,rfl,⟨_,_,_,_,_,_,_,rfl,hm,a,I,rfl⟩⟩
  refine Q9 (Zak ?_);refine Zo ?_;refine Wp.cutK [1000000] (fun f v=>∃ w x y o,Ze7 o=some r∧St w0 (Zi col) w v∧Zc (Za.int .u32) 200 1 w v x y o∧[5].map f=[.slice x o.length y]) ?_ ?_
  ·intro f v J;obtain ⟨w,x,y,o,hm,a,K,hs⟩:=J;rw [Ze7.eq_1] at hm;refine .lL [5] hs<|go ?_;cases hm;exact ⟨rfl,_,_,_,rfl,a.fin (cm [(1,c1)]),a.fo K⟩
  refine go ?_;refine Zm hm (fun hb hm=>go ?_) fun hb hm=>?_
  ·refine U8 (col:=g) [u32.wrap b] 3 ?_;intro X Y Z D L;obtain ⟨M,hm⟩:=Zt hm;replace c:=c.gr D;refine Wy c (L.srcN (NB.int (k:=.u32))) M ?_;intro aa ab ac ad O P;refine go ?_;replace a:=(a.grow D).kpp O;exact ⟨rfl,_,_,_,_,hm,a,P,rfl⟩
  refine Z1 ?_;exact ⟨rfl,_,_,_,_,hm,a,c,rfl⟩
def Zcf (N:Nat) (b:List Int) (c:List Int):Nat→Int→Option Int
  | 0,_=>none
  | f+1,a=>if (decide (0≤a))=true then ((Sc b a).bind fun d=>(Sc c a).bind fun e=>if (decide (d<e))=true then (some (-1)) else (if (decide (e<d))=true then (some 1) else ((Zcf N b c f) (i64.wrap (a - 1))))) else (some 0)
termination_by structural x=>x
def Zex (N:Nat) (a:List Int) (b:List Int) (c:Int):Option Int:=
  Zcf N a b N (i64.wrap (c - 1))
def Zce (N:Nat) (a:List Int) (b:List Int):Option Int:=
  if (decide ((a.length:Int)<(b.length:Int)))=true then (Zex N a b (b.length:Int)) else (Zex N a b (a.length:Int))
theorem Zmr {N p q:Nat} {a0 a1:Option Addr} {col:Zd} {w0:World} {d g:(List Int)} {r:Int} (hm:Zce N d g=some r) (h0:Sl (Za.int .u32) col w0 a0 p d) (h1:Sl (Za.int .u32) col w0 a1 q g):
    Calls prog 158 #[.slice a0 d.length p,.slice a1 g.length q] w0 (fun e w'=>e= .returned ((.int .i64 r))∧Below w0.heap.size w0 w'):=by
 refine Z5 4 (m:=35) func158 O O O O O ?_;rw [Zce.eq_1] at hm;have a:=St.start col w0;refine Zo<|Yo<|Yq O<|Zj<|Zo<|Yo<|W2 O<|lV _ (Zcv underlying120 O)<|Yq O<|Zj<|Zo ?_;replace h0:=h0.keep (Zl.start col w0);replace h1:=h1.keep (Zl.start col w0);refine Wp.cutK [0,1,1000000] (fun f s=>∃ t i,Zex N d g i=some r∧St w0 (Zi col) t s∧[5].map f=[.int .i64 i]) ?_ ?_
 ·intro f s v;obtain ⟨t,i,hm,a,hs⟩:=v;rw [Zex.eq_1] at hm;refine .lL [5] hs<|go ?_;refine Z6 [0,1,1000000] (fun n f j=>∃ b k c,c=n∧Zcf N d g c k=some r∧St w0 (Zi col) b j∧[6].map f=[.int .i64 k]) N ⟨_,_,_,O,hm,a,O⟩ ?_;clear hm;intro n f j w;obtain ⟨b,k,c,hn,hm,a,hs⟩:=w;subst hn;refine .lL [6] hs ?_
  cases c with
  | zero=>rw [Zcf.eq_1] at hm;cases hm
  | succ c=>
   rw [Zcf.eq_2] at hm;refine go ?_;refine Zm hm (fun hb hm=>go ?_) fun hb hm=>go ?_
   ·obtain ⟨B,x,hm⟩:=bZ hm;refine Zh (Zbj x (h0.ks a)) ?_;rintro _ u ⟨rfl,l⟩;refine ⟨_,O,?_⟩;replace l:Zg b j b u:=.of_below l;refine go ?_;obtain ⟨C,y,hm⟩:=bZ hm;replace a:=a.grow l;refine Zh (Zbj y (h1.ks a)) ?_;rintro _ A ⟨rfl,o⟩;refine ⟨_,O,?_⟩;replace o:Zg b u b A:=.of_below o;refine go ?_;replace a:=a.grow o;refine Zm hm (fun hb hm=>go ?_) fun hb hm=>go ?_
    ·cases hm;exact ⟨O,O,a.below⟩
    refine Zm hm (fun hb hm=>go ?_) fun hb hm=>go ?_
    ·cases hm;exact ⟨O,O,a.below⟩
    exact ⟨c,by omega,O,⟨_,_,_,O,hm,a,O⟩⟩
   cases hm;exact ⟨O,O,a.below⟩
 refine go ?_;refine Zm hm (fun hb hm=>go ?_) fun hb hm=>?_
 ·exact ⟨O,_,_,hm,a,O⟩
 refine Z1 ?_;exact ⟨O,_,_,hm,a,O⟩
def Zkh (a:Int) (kk_L1:(List Int→Int→Int→Option (List Int×Bool))) (b:List Int) (c:Int):Option (List Int×Bool):=
  kk_L1 b c (i64.wrap (a+1))
def Ze5 (a:List Int) (b:Int) (e:Int) (kk_L1:(List Int→Int→Int→Option (List Int×Bool))) (c:Int) (f:Int) (d:Int):Option (List Int×Bool):=
  Zr ((a.length+[u32.wrap (u64.wrap (d - (u64.wrap (c+b))))].length) * 4≤140737488355328∧a.length+[u32.wrap (u64.wrap (d - (u64.wrap (c+b))))].length≤maxLen) (Zkh e kk_L1 (a++[u32.wrap (u64.wrap (d - (u64.wrap (c+b))))]) f)
def Sb (N:Nat) (b:List Int) (c:List Int):Nat→(List Int)→Int→Int→Option (List Int×Bool)
  | 0,_,_,_=>none
  | i+1,d,e,a=>if (decide (a<(b.length:Int)))=true then ((Sc b a).bind fun f=>(Sc c a).bind fun g=>if (decide (f<(u64.wrap (g+e))))=true then (Ze5 d e a (Sb N b c i) g 1 (u64.wrap (f+4294967296))) else (Ze5 d e a (Sb N b c i) g 0 f)) else ((Ud N d).bind fun j=>some (j,true))
termination_by structural x=>x
def Ze4 (N:Nat) (a:List Int) (b:List Int):Option (List Int×Bool):=
  (Zce N a b).bind fun c=>if (decide (c<0))=true then (some (([]:List Int),false)) else (Sb N a b N ([]:List Int) 0 0)
theorem Zp2 {N A B:Nat} {a0 a1:Option Addr} {col:Zd} {w0:World} {g i:(List Int)} {r:(List Int×Bool)} (c1:Nat) (hm:Ze4 N g i=some r) (h0:Sl (Za.int .u32) col w0 a0 A g) (h1:Sl (Za.int .u32) col w0 a1 B i):
    Calls prog 159 #[.slice a0 g.length A,.slice a1 i.length B] w0 (fun e w'=>∃ (col':Zd) (ra1:Option Addr) (rc2:Nat),e= .returned (.tuple #[.slice ra1 r.1.length rc2,.bool r.2])∧Zg col w0 col' w'∧Zc (Za.int .u32) 200 c1 col' w' ra1 rc2 r.1):=by
 refine Zbm 4 5 (m:=43) (args:=[.slice a0 g.length A,.slice a1 i.length B]) func159 rfl rfl rfl rfl rfl ?_;rw [Ze4.eq_1] at hm;have a:=St.start col w0;refine go ?_;obtain ⟨ad,Q,hm⟩:=bZ hm;replace h0:=h0.keep (Zl.start col w0);replace h1:=h1.keep (Zl.start col w0);refine Zh (Zmr Q (h0.ks a) (h1.ks a)) ?_;rintro _ R ⟨rfl,C⟩;refine ⟨_,rfl,?_⟩;replace C:Zg (Zi col) w0 (Zi col) R:=.of_below C;refine go ?_;replace a:=a.grow C;refine Zm hm (fun hb hm=>go ?_) fun hb hm=>go ?_
 ·cases hm;exact ⟨rfl,_,none,0,rfl,a.fin (cm []),Zc.nil⟩
 refine Z6 [0,1,1000000] (fun n f l=>∃ b q s j o p d,d=n∧Sb N g i d j o p=some r∧St w0 (Zi col) b l∧Zc (Za.int .u32) 200 1 b l q s j∧[6,7,8].map f=[.slice q j.length s,.int .u64 o,.int .i64 p]) N ⟨_,none,0,_,0,0,_,rfl,hm,a,Zc.nil,rfl⟩ ?_;clear hm;intro n f l S;obtain ⟨b,q,s,j,o,p,d,hn,hm,a,c,hs⟩:=S;subst hn;refine .lL [6,7,8] hs ?_
 cases d with
 | zero=>rw [Sb.eq_1] at hm;cases hm
 | succ d=>
  rw [Sb.eq_2] at hm;refine go ?_;refine Zm hm (fun hb hm=>?_) fun hb hm=>go ?_
  ·refine Z1<|Zo ?_;refine Wp.cutK [0,1,8,1000000] (fun f D=>∃ E F G t H,Zkh p (Sb N g i d) t H=some r∧St w0 (Zi col) E D∧Zc (Za.int .u32) 200 1 E D F G t∧[6,7].map f=[.slice F t.length G,.int .u64 H]) ?_ ?_
   ·intro f D I;obtain ⟨E,F,G,t,H,hm,a,T,hs⟩:=I;rw [Zkh.eq_1] at hm;refine .lL [6,7] hs<|go ?_;exact ⟨d,by omega,rfl,⟨_,_,_,_,_,_,_,rfl,hm,a,T,rfl⟩⟩
   refine go ?_;obtain ⟨ae,U,hm⟩:=bZ hm;refine Zh (Zbj U (h0.ks a)) ?_;rintro _ M ⟨rfl,u⟩;refine ⟨_,rfl,?_⟩;replace u:Zg b l b M:=.of_below u;refine go ?_;obtain ⟨O,V,hm⟩:=bZ hm;replace a:=a.grow u;refine Zh (Zbj V (h1.ks a)) ?_;rintro _ W ⟨rfl,v⟩;refine ⟨_,rfl,?_⟩;replace v:Zg b M b W:=.of_below v;refine Y1 rfl<|lV _ (T0 _ _ rfl rfl)<|Yq rfl<|Zj<|Zo<|Yo<|Yq rfl<|Zj<|Zo ?_;replace c:=(c.gr u).gr v;replace a:=a.grow v;refine Wp.cutK [0,1,10,6,8,1000000] (fun f J=>∃ w K x,Ze5 j o p (Sb N g i d) O K x=some r∧St w0 (Zi col) w J∧Zc (Za.int .u32) 200 1 w J q s j∧[7,9].map f=[.int .u64 K,.int .u64 x]) ?_ ?_
   ·intro f J I;obtain ⟨w,K,x,hm,a,c,hs⟩:=I;rw [Ze5.eq_1] at hm;refine .lL [7,9] hs<|go ?_;refine U8 (col:=w) [u32.wrap (u64.wrap (x - (u64.wrap (O+o))))] 2 ?_;intro af ag ah P X;obtain ⟨Y,hm⟩:=Zt hm;replace c:=c.gr P;refine Wy c (X.srcN (NB.int (k:=.u32))) Y ?_;intro ai aj ak al Z aa;refine go ?_;replace a:=(a.grow P).kpp Z;exact ⟨rfl,_,_,_,_,_,hm,a,aa,rfl⟩
   refine go ?_;refine Zm hm (fun hb hm=>go ?_) fun hb hm=>?_
   ·exact ⟨rfl,_,1,_,hm,a,c,rfl⟩
   refine Z1 ?_;exact ⟨rfl,_,0,_,hm,a,c,rfl⟩
  obtain ⟨am,ab,hm⟩:=bZ hm;refine Zh (Tk 3 ab (c.toSlF (Zk.int .u32))) ?_;rintro _ an ⟨ac,ao,ap,rfl,y,L⟩;refine ⟨_,rfl,?_⟩;replace L:=L.thaw (Xs .u32) y ((Fz.refl (col:=b)).froz 1) (by decide);replace y:=y.thawR (col:=b);generalize Xn l.heap.size b ac=aq at *;refine go ?_;cases hm;replace a:=a.grow y;exact ⟨rfl,_,_,_,rfl,a.fin (cm [(3,c1)]),a.fo L⟩
def Zez (a:Int) (kk_L1:(List Int→Int→(List Int)→Option (List Int×List Int×Int))) (b:List Int) (c:List Int):Option (List Int×List Int×Int):=
  kk_L1 b (i64.wrap (a - 1)) c
def Qx (N:Nat) (d:List Int) (b:List Int):Nat→(List Int)→Int→(List Int)→Option (List Int×List Int×Int)
  | 0,_,_,_=>none
  | f+1,g,a,c=>if (decide (0≤a))=true then ((Zhn d a).bind fun i=>(Ze6 N g i).bind fun j=>(Ud N j).bind fun e=>(Zce N e b).bind fun k=>if (decide (0≤k))=true then ((Ze4 N e b).bind fun l=>(Zq c (i64.wrap (Int.tdiv a 32))).bind fun m=>Zr (0≤(Int.tmod a 32)) ((some (c.set (Int.toNat (i64.wrap (Int.tdiv a 32))) (u32.wrap (m+(Xu .u32 1 (Int.tmod a 32)))))).bind fun n=>Zez a (Qx N d b f) l.1 n)) else (Zez a (Qx N d b f) e c)) else ((Ud N c).bind fun o=>some (o,g,0))
termination_by structural x=>x
def Zey (N:Nat) (b:List Int) (d:List Int):Option (List Int×List Int×Int):=
  (Ud N d).bind fun c=>if (decide ((c.length:Int)=0))=true then (some (([]:List Int),([]:List Int),11)) else ((Zho N b).bind fun a=>Zr ((Int.toNat (i64.wrap (Int.tdiv (i64.wrap (a+31)) 32))) * 4≤281474976710656∧(Int.toNat (i64.wrap (Int.tdiv (i64.wrap (a+31)) 32)))≤maxLen∧0≤(i64.wrap (Int.tdiv (i64.wrap (a+31)) 32))) (Qx N b c N ([]:List Int) (i64.wrap (a - 1)) (List.replicate (Int.toNat (i64.wrap (Int.tdiv (i64.wrap (a+31)) 32))) (0:Int))))
theorem Zp0 {N V W:Nat} {a0 a1:Option Addr} {col:Zd} {w0:World} {s L:(List Int)} {r:(List Int×List Int×Int)} (c1 c2:Nat) (hm:Zey N s L=some r) (h0:Sl (Za.int .u32) col w0 a0 V s) (h1:Sl (Za.int .u32) col w0 a1 W L):
    Calls prog 138 #[.slice a0 s.length V,.slice a1 L.length W] w0 (fun e w'=>∃ (col':Zd) (ra1:Option Addr) (rc2:Nat) (ra4:Option Addr) (rc5:Nat),e= .returned (.tuple #[.slice ra1 r.1.length rc2,.slice ra4 r.2.1.length rc5,.int .i64 r.2.2])∧Zg col w0 col' w'∧Zc (Za.int .u32) 200 c1 col' w' ra1 rc2 r.1∧Zc (Za.int .u32) 200 c2 col' w' ra4 rc5 r.2.1):=by
 refine Zmx 4 5 6 (m:=61) (args:=[.slice a0 s.length V,.slice a1 L.length W]) func138 rfl rfl rfl rfl rfl ?_;rw [Zey.eq_1] at hm;have a:=St.start col w0;refine go ?_;obtain ⟨M,av,hm⟩:=bZ hm;replace h1:=h1.keep (Zl.start col w0);refine Zh (Tk 1 av (h1.ks a)) ?_;rintro _ aw ⟨X,ak,al,rfl,ax,b⟩;refine ⟨_,rfl,go ?_⟩;replace h0:=h0.keep (Zl.start col w0);replace a:=a.grow ax;refine Zm hm (fun hb hm=>go ?_) fun hb hm=>go ?_
 ·cases hm;exact ⟨rfl,_,none,0,none,0,rfl,a.fin (cm []),Zc.nil,Zc.nil⟩
 obtain ⟨Y,ay,hm⟩:=bZ hm;refine Zh (Zya ay (h0.ks a)) ?_;rintro _ am ⟨rfl,O⟩;refine ⟨_,rfl,?_⟩;replace O:Zg X aw X am:=.of_below O;refine go ?_;refine lV (.int .i64 (i64.wrap (Int.tdiv (i64.wrap (Y+31)) 32))) (Uq (i64.wrap (Y+31)) 32 rfl rfl (by decide)) ?_;obtain ⟨P,hm⟩:=Zt hm;refine Zal (col:=X) (w:=am) (r:=(Za.int .u32)) (n:=(Int.toNat (i64.wrap (Int.tdiv (i64.wrap (Y+31)) 32)))) (x0:=0) 2 rfl underlying120 Tryz.t200 rfl rfl rfl rfl rfl (congrArg (Value.int _) (Int.toNat_of_nonneg P.2.2).symm) (congrArg (Value.int _) (Int.toNat_of_nonneg P.2.2).symm) P.1 P.2.1 (Vf .u32 0) ?_;intro bi bj bk an az;refine go ?_;replace b:=(b.gr O).gr an;replace a:=(a.grow O).grow an;refine Z6 [0,7,1000000] (fun n f p=>∃ i Z aa Q c E F t q,q=n∧Qx N s M q Q c t=some r∧St w0 (Zi col) i p∧Zc (Za.int .u32) 200 3 i p Z aa Q∧Zc (Za.int .u32) 200 1 i p ak al M∧Zc (Za.int .u32) 200 2 i p E F t∧[10,11,9].map f=[.slice Z Q.length aa,.int .i64 c,.slice E t.length F]) N ⟨_,none,0,_,_,_,_,_,_,rfl,hm,a,Zc.nil,b,az,rfl⟩ ?_;clear hm;intro n f p hI;obtain ⟨i,Z,aa,Q,c,E,F,t,q,hn,hm,a,u,b,g,hs⟩:=hI;subst hn;refine .lL [10,11,9] hs ?_
 cases q with
 | zero=>rw [Qx.eq_1] at hm;cases hm
 | succ q=>
  rw [Qx.eq_2] at hm;refine go ?_;refine Zm hm (fun hb hm=>?_) fun hb hm=>go ?_
  ·refine Z1<|Zo ?_;refine Wp.cutK [0,11,7,1000000] (fun f G=>∃ H ab ac R ad ae S,Zez c (Qx N s M q) R S=some r∧St w0 (Zi col) H G∧Zc (Za.int .u32) 200 3 H G ab ac R∧Zc (Za.int .u32) 200 1 H G ak al M∧Zc (Za.int .u32) 200 2 H G ad ae S∧[10,9].map f=[.slice ab R.length ac,.slice ad S.length ae]) ?_ ?_
   ·intro f G hJ;obtain ⟨H,ab,ac,R,ad,ae,S,hm,a,a2,b,a3,hs⟩:=hJ;rw [Zez.eq_1] at hm;refine .lL [10,9] hs<|go ?_;exact ⟨q,by omega,rfl,⟨_,_,_,_,_,_,_,_,_,rfl,hm,a,a2,b,a3,rfl⟩⟩
   refine go ?_;obtain ⟨bm,a4,hm⟩:=bZ hm;refine Zh (Zx9 a4 (h0.ks a)) ?_;rintro _ ao ⟨rfl,x⟩;refine ⟨_,rfl,?_⟩;replace x:Zg i p i ao:=.of_below x;obtain ⟨bn,a5,hm⟩:=bZ hm;replace u:=u.gr x;refine Zh (Zp3 4 a5 (u.toSlF (Zk.int .u32))) ?_;rintro _ a6 ⟨a7,bo,bp,rfl,y,af⟩;refine ⟨_,rfl,?_⟩;replace af:=af.thaw (Xs .u32) y ((Fz.refl (col:=i)).froz 3) (by decide);replace y:=y.thawR (col:=i);generalize Xn ao.heap.size i a7=ag at *;obtain ⟨bq,a8,hm⟩:=bZ hm;refine Zh (Tk 5 a8 (af.toSlF (Zk.int .u32))) ?_;rintro _ a9 ⟨ba,br,bs,rfl,A,k⟩;refine ⟨_,rfl,?_⟩;replace k:=k.thaw (Xs .u32) A ((Fz.refl (col:=ag)).froz 4) (by decide);replace A:=A.thawR (col:=ag);generalize Xn a6.heap.size ag ba=I at *;refine go ?_;obtain ⟨bt,bb,hm⟩:=bZ hm;replace b:=((b.gr x).gr y).gr A;refine Zh (Zmr bb ((k.toSlF (Zk.int .u32)).froz 1) ((b.froz 5 (by decide)).toSlF (Zk.int .u32))) ?_;rintro _ ap ⟨rfl,B⟩;refine ⟨_,rfl,?_⟩;replace B:Zg I a9 I ap:=.of_below B;refine go ?_;replace g:=(((g.gr x).gr y).gr A).gr B;replace a:=(((a.grow x).grow y).grow A).grow B;replace b:=b.gr B;replace k:=k.gr B;refine Zm hm (fun hb hm=>go ?_) fun hb hm=>?_
   ·obtain ⟨T,bc,hm⟩:=bZ hm;refine Zh (Zp2 6 bc ((k.toSlF (Zk.int .u32)).froz 1) ((b.froz 5 (by decide)).toSlF (Zk.int .u32))) ?_;rintro _ bu ⟨bd,aq,ar,rfl,C,l⟩;refine ⟨_,rfl,?_⟩;replace l:=l.thaw (Xs .u32) C (((Fz.refl (col:=I)).froz 5).froz 1) (by decide);replace C:=C.thawR (col:=I);generalize Xn ap.heap.size I bd=J at *;refine lM (.tuple #[.slice aq T.1.length ar,.bool T.2])<|lV (.slice aq T.1.length ar) (Xl rfl rfl)<|lV (.bool T.2) (Xl rfl rfl)<|go ?_;refine Vl (col:=J) [(0,1),(1,1),(2,1),(3,1),(4,1),(5,1),(6,1),(7,0),(8,1),(9,1),(10,1),(11,1),(12,1),(13,2)] (by kernel_rfl) (by kernel_rfl)<|xu rfl rfl (fun _=>Zbb rfl) ?_;refine xu rfl rfl (fun _=>Ve rfl) ?_;refine xu (v:=(.int .i64 (i64.wrap (Int.tdiv c 32)))) rfl rfl (fun _=>Uq c 32 rfl rfl (by decide)) ?_;refine xu rfl rfl (fun _=>Zbb rfl) ?_;refine xu rfl rfl (fun _=>Ve rfl) ?_;refine xu (v:=(.int .i64 (i64.wrap (Int.tdiv c 32)))) rfl rfl (fun _=>Uq c 32 rfl rfl (by decide)) ?_;obtain ⟨au,o,hm⟩:=bZ hm;replace g:=g.gr C;refine xu rfl rfl (fun _=>V1 underlying120 sizeOf200 rfl rfl (Yb o).1 (Yb o).2.1 (g.addr o)) ?_;refine xW (fun _ j=>(g.gr (j.bl J)).atInt o) ?_;refine xu rfl rfl (fun _=>Ve rfl) ?_;refine xu (v:=(.int .i64 (Int.tmod c 32))) rfl rfl (fun _=>T3 c 32 rfl rfl (by decide)) ?_;obtain ⟨be,hm⟩:=Zt hm;refine xu (v:=(.int .u32 (Xu .u32 1 (Int.tmod c 32)))) rfl rfl (fun _=>Zcw 1 (Int.tmod c 32) rfl rfl be) ?_;refine xu rfl rfl (fun _=>T0 _ _ rfl rfl) ?_;refine xu rfl rfl (fun _=>V1 underlying120 sizeOf200 rfl rfl (Yb o).1 (Yb o).2.1 (g.addr o)) ?_;refine xe rfl rfl ?_;intro bv hC0;have j:=hC0.bl J;obtain ⟨ah,U,hm⟩:=bZ hm;have U:ah=t.set (Int.toNat (i64.wrap (Int.tdiv c 32))) (u32.wrap (au+(Xu .u32 1 (Int.tmod c 32)))):=(Option.some.inj U).symm;replace g:=g.gr j;refine Wj (x1:=u32.wrap (au+(Xu .u32 1 (Int.tmod c 32)))) g o ?_;intro bw ai bf D;rw [← U] at D;refine .ld (d:=9) (v:=(.slice E ah.length F)) (congrArg (fun n=>Value.slice E n F) (show t.length=ah.length by rw [U,List.length_set])) ?_;refine Zj<|xk J<|W6 ?_;replace b:=((b.gr C).gr j).kp ai;replace a:=((a.grow C).grow j).kp ai bf;replace l:=(l.gr j).kp ai;intro bx j;replace j:=j.bl J;replace b:=b.gr j;replace b:=b.recol 6 3 (by decide);replace D:=D.gr j
    replace D:=D.recol 6 3 (by decide);replace l:=l.gr j;replace l:=l.recolSelf 3 (by decide);replace a:=a.grow j;replace a:=a.recol 6 3 (by decide) (by decide);exact ⟨rfl,_,_,_,_,_,_,_,hm,a,l,b,D,rfl⟩
   refine Z1 ?_;replace b:=b.recol 5 3 (by decide);replace g:=g.recol 5 3 (by decide);replace k:=k.recolSelf 3 (by decide);replace a:=a.recol 5 3 (by decide) (by decide);exact ⟨rfl,_,_,_,_,_,_,_,hm,a,k,b,g,rfl⟩
  obtain ⟨bz,bg,hm⟩:=bZ hm;refine Zh (Tk 7 bg (g.toSlF (Zk.int .u32))) ?_;rintro _ b0 ⟨bh,b1,b2,rfl,K,aj⟩;refine ⟨_,rfl,?_⟩;replace aj:=aj.thaw (Xs .u32) K ((Fz.refl (col:=i)).froz 2) (by decide);replace K:=K.thawR (col:=i);generalize Xn p.heap.size i bh=b3 at *;refine go ?_;cases hm;replace u:=u.gr K;replace a:=a.grow K;exact ⟨rfl,_,_,_,_,_,rfl,a.fin (cm [(7,c1),(3,c2)]),a.fo aj,a.fo u⟩
def Zhr (a:Bool):Option Bool:=
  some a
def Za4 (a:List Int):Option Bool:=
  if (decide ((a.length:Int)=0))=true then (Zhr true) else ((Zq a 0).bind fun b=>Zhr (decide ((Int.tmod b 2)=0)))
theorem Zi3 {j:Nat} {a0:Option Addr} {col:Zd} {w0:World} {b:(List Int)} {r:Bool} (hm:Za4 b=some r) (h0:Sl (Za.int .u32) col w0 a0 j b):
    Calls prog 156 #[.slice a0 b.length j] w0 (fun e w'=>e= .returned ((.bool r))∧Below w0.heap.size w0 w'):=by
 refine Z5 2 (m:=13) func156 O O O O O ?_;rw [Za4.eq_1] at hm;have a:=St.start col w0;refine Zo<|Yo<|Qc O<|Zj<|Zo ?_;replace h0:=h0.keep (Zl.start col w0);refine Wp.cutK [1000000] (fun f k=>∃ l c,Zhr c=some r∧St w0 (Zi col) l k∧[2].map f=[.bool c]) ?_ ?_
 ·intro f k n;obtain ⟨l,c,hm,a,hs⟩:=n;rw [Zhr.eq_1] at hm;refine .lL [2] hs<|W0 ?_;cases hm;exact ⟨O,O,a.below⟩
 refine go ?_;refine Z7 hm (fun d hm=>go ?_) fun d hm=>go ?_
 ·refine lV (.bool true) (Zx (congrArg Value.bool d) O)<|go ?_;exact ⟨O,_,_,hm,a,O⟩
 obtain ⟨g,i,hm⟩:=bZ hm;refine lI i ((h0.ks a).addr i) ?_;refine go ?_;refine lW ((h0.ks a).atInt i)<|go ?_;refine lV (.int .u32 (Int.tmod g 2)) (T3 g 2 O O (by decide))<|go ?_;refine lV (.bool (decide ((Int.tmod g 2)=0))) (Z0 (congrArg Value.bool d) O)<|go ?_;exact ⟨O,_,_,hm,a,O⟩
def Zcj (N:Nat) (c:List Int):Nat→(List Int)→Int→Int→Option (List Int)
  | 0,_,_,_=>none
  | f+1,b,d,a=>if (decide (0≤a))=true then ((Zq c a).bind fun e=>(Zq b a).bind fun j=>(some (b.set (Int.toNat a) (u32.wrap (u64.wrap (Int.tdiv (u64.wrap ((u64.wrap (d * 4294967296))+(u64.wrap e))) 2))))).bind fun g=>(Zcj N c f) g (Int.tmod (u64.wrap ((u64.wrap (d * 4294967296))+(u64.wrap e))) 2) (i64.wrap (a - 1))) else ((Ud N b).bind fun i=>some i)
termination_by structural x=>x
def Za5 (N:Nat) (a:List Int):Option (List Int):=
  Zr (a.length * 4≤281474976710656∧a.length≤maxLen) (Zcj N a N (List.replicate a.length (0:Int)) 0 (i64.wrap ((a.length:Int) - 1)))
theorem Zi4 {N C:Nat} {a0:Option Addr} {col:Zd} {w0:World} {k r:(List Int)} (c1:Nat) (hm:Za5 N k=some r) (h0:Sl (Za.int .u32) col w0 a0 C k):
    Calls prog 157 #[.slice a0 k.length C] w0 (fun e w'=>∃ (col':Zd) (ra1:Option Addr) (rc2:Nat),e= .returned ((.slice ra1 r.length rc2))∧Zg col w0 col' w'∧Zc (Za.int .u32) 200 c1 col' w' ra1 rc2 r):=by
 refine Z5 2 (m:=34) func157 rfl rfl rfl rfl rfl ?_;rw [Za5.eq_1] at hm;have a:=St.start col w0;refine go ?_;obtain ⟨D,hm⟩:=Zt hm;refine Zal (col:=(Zi col)) (w:=w0) (r:=(Za.int .u32)) (n:=k.length) (x0:=0) 1 rfl underlying120 Tryz.t200 rfl rfl rfl rfl rfl rfl rfl D.1 D.2 (Vf .u32 0) ?_;intro M O P F G;refine go ?_;replace a:=a.grow F;refine Z6 [0,1000000] (fun n f p=>∃ c l o g b q i,i=n∧Zcj N k i g b q=some r∧St w0 (Zi col) c p∧Zc (Za.int .u32) 200 1 c p l o g∧[3,4,5].map f=[.slice l g.length o,.int .u64 b,.int .i64 q]) N ⟨_,_,_,_,0,_,_,rfl,hm,a,G,rfl⟩ ?_;clear hm;intro n f p H;obtain ⟨c,l,o,g,b,q,i,hn,hm,a,u,hs⟩:=H;subst hn;refine .lL [3,4,5] hs ?_;replace h0:=h0.keep (Zl.start col w0)
 cases i with
 | zero=>rw [Zcj.eq_1] at hm;cases hm
 | succ i=>
  rw [Zcj.eq_2] at hm;refine go ?_;refine Zm hm (fun hb hm=>go ?_) fun hb hm=>go ?_
  ·obtain ⟨j,x,hm⟩:=bZ hm;refine lI x ((h0.ks a).addr x)<|lW ((h0.ks a).atInt x) ?_;refine go ?_;refine lV (.int .u64 (u64.wrap (Int.tdiv (u64.wrap ((u64.wrap (b * 4294967296))+(u64.wrap j))) 2))) (Uq (u64.wrap ((u64.wrap (b * 4294967296))+(u64.wrap j))) 2 rfl rfl (by decide))<|go ?_;obtain ⟨Q,y,hm⟩:=bZ hm;refine lI y (u.addr y) ?_;obtain ⟨A,s,hm⟩:=bZ hm;have s:A=g.set (Int.toNat q) (u32.wrap (u64.wrap (Int.tdiv (u64.wrap ((u64.wrap (b * 4294967296))+(u64.wrap j))) 2))):=(Option.some.inj s).symm;refine Wj (x1:=u32.wrap (u64.wrap (Int.tdiv (u64.wrap ((u64.wrap (b * 4294967296))+(u64.wrap j))) 2))) u y ?_;intro R I J E;rw [← s] at E;refine .ld (d:=3) (v:=(.slice l A.length o)) (congrArg (fun n=>Value.slice l n o) (show g.length=A.length by rw [s,List.length_set])) ?_;refine go ?_;refine lV (.int .u64 (Int.tmod (u64.wrap ((u64.wrap (b * 4294967296))+(u64.wrap j))) 2)) (T3 (u64.wrap ((u64.wrap (b * 4294967296))+(u64.wrap j))) 2 rfl rfl (by decide))<|go ?_;replace a:=a.kp I J;exact ⟨i,by omega,rfl,⟨_,_,_,_,_,_,_,rfl,hm,a,E,rfl⟩⟩
  obtain ⟨S,K,hm⟩:=bZ hm;refine Zh (Tk 2 K (u.toSlF (Zk.int .u32))) ?_;rintro _ T ⟨L,U,V,rfl,t,B⟩;refine ⟨_,rfl,?_⟩;replace B:=B.thaw (Xs .u32) t ((Fz.refl (col:=c)).froz 1) (by decide);replace t:=t.thawR (col:=c);generalize Xn p.heap.size c L=W at *;refine go ?_;cases hm;replace a:=a.grow t;exact ⟨rfl,_,_,_,rfl,a.fin (cm [(2,c1)]),a.fo B⟩
def Ze1 (N:Nat) (kk_L2:(List Int→(List Int)→Option (List Int))) (a:List Int) (b:List Int):Option (List Int):=
  (Ze4 N b a).bind fun c=>kk_L2 a c.1
def Zhq (N:Nat) (kk_L2:(List Int→(List Int)→Option (List Int))) (b:List Int) (a:List Int) (kk_L4:(List Int→Option (List Int))) (c:Bool):Option (List Int):=
  if c=true then ((Za5 N a).bind fun d=>kk_L4 d) else ((Zce N b a).bind fun e=>if (decide (0<e))=true then (Ze1 N kk_L2 a b) else (Ze1 N kk_L2 b a))
def S5 (N:Nat) (kk_L2:(List Int→(List Int)→Option (List Int))) (a:List Int):Nat→(List Int)→Option (List Int)
  | 0,_=>none
  | c+1,b=>if (decide (0<(b.length:Int)))=true then ((Za4 b).bind fun d=>Zhq N kk_L2 a b (S5 N kk_L2 a c) d) else (Zhq N kk_L2 a b (S5 N kk_L2 a c) false)
termination_by structural x=>x
def Zcg (N:Nat) (b:List Int) (kk_L2:(List Int→(List Int)→Option (List Int))):Nat→(List Int)→Option (List Int)
  | 0,_=>none
  | c+1,a=>(Za4 a).bind fun d=>if d=true then ((Za5 N a).bind fun e=>(Zcg N b kk_L2 c) e) else (S5 N kk_L2 a N b)
termination_by structural x=>x
def Zch (N:Nat) (a:Int):Nat→(List Int)→Int→Option (List Int)
  | 0,_,_=>none
  | d+1,b,c=>if (decide (c<a))=true then ((Ze6 N b 0).bind fun e=>(Zch N a d) e (i64.wrap (c+1))) else (some b)
termination_by structural x=>x
def V0 (N:Nat) (a:Int):Nat→(List Int)→(List Int)→Option (List Int)
  | 0,_,_=>none
  | d+1,b,c=>if (decide (0<(c.length:Int)))=true then (Zcg N c (V0 N a d) N b) else (Zch N a N b 0)
termination_by structural x=>x
def Ze0 (N:Nat) (a:List Int) (b:List Int) (c:Int) (kk_L1:(List Int→(List Int)→Int→Option (List Int))) (d:Bool):Option (List Int):=
  if d=true then ((Za5 N a).bind fun e=>(Za5 N b).bind fun f=>kk_L1 e f (i64.wrap (c+1))) else (V0 N c N a b)
def Qy (N:Nat):Nat→(List Int)→(List Int)→Int→Option (List Int)
  | 0,_,_,_=>none
  | c+1,a,b,d=>(Za4 a).bind fun e=>if e=true then ((Za4 b).bind fun f=>Ze0 N a b d (Qy N c) f) else (Ze0 N a b d (Qy N c) false)
termination_by structural x=>x
def Zhp (N:Nat) (c:List Int) (d:List Int):Option (List Int):=
  (Ud N c).bind fun a=>(Ud N d).bind fun b=>if (decide ((a.length:Int)=0))=true then (some b) else (if (decide ((b.length:Int)=0))=true then (some a) else (Qy N N a b 0))
theorem Zyb {N bj bk:Nat} {a0 a1:Option Addr} {col:Zd} {w0:World} {a3 a4 r:(List Int)} (c1:Nat) (hm:Zhp N a3 a4=some r) (h0:Sl (Za.int .u32) col w0 a0 bj a3) (h1:Sl (Za.int .u32) col w0 a1 bk a4):
    Calls prog 137 #[.slice a0 a3.length bj,.slice a1 a4.length bk] w0 (fun e w'=>∃ (col':Zd) (ra1:Option Addr) (rc2:Nat),e= .returned ((.slice ra1 r.length rc2))∧Zg col w0 col' w'∧Zc (Za.int .u32) 200 c1 col' w' ra1 rc2 r):=by
 refine Z5 4 (m:=69) func137 rfl rfl rfl rfl rfl ?_;rw [Zhp.eq_1] at hm;have a:=St.start col w0;refine go ?_;obtain ⟨cn,bu,hm⟩:=bZ hm;replace h0:=h0.keep (Zl.start col w0);refine Zh (Tk 1 bu (h0.ks a)) ?_;rintro _ co ⟨cp,cq,cr,rfl,bv,ah⟩;refine ⟨_,rfl,go ?_⟩;obtain ⟨cs,bw,hm⟩:=bZ hm;replace h1:=h1.keep (Zl.start col w0);replace a:=a.grow bv;refine Zh (Tk 2 bw (h1.ks a)) ?_;rintro _ ct ⟨cu,cv,cw,rfl,bm,bn⟩;refine ⟨_,rfl,go ?_⟩;replace ah:=ah.gr bm;replace a:=a.grow bm;refine Zm hm (fun hb hm=>go ?_) fun hb hm=>go ?_
 ·cases hm;exact ⟨rfl,_,_,_,rfl,a.fin (cm [(2,c1)]),a.fo bn⟩
 refine Zm hm (fun hb hm=>go ?_) fun hb hm=>go ?_
 ·cases hm;exact ⟨rfl,_,_,_,rfl,a.fin (cm [(1,c1)]),a.fo ah⟩
 refine Z6 [1000000] (fun n f K=>∃ t ai aj A ak al B g u,u=n∧Qy N u A B g=some r∧St w0 (Zi col) t K∧Zc (Za.int .u32) 200 1 t K ai aj A∧Zc (Za.int .u32) 200 2 t K ak al B∧[5,6,7].map f=[.slice ai A.length aj,.slice ak B.length al,.int .i64 g]) N ⟨_,_,_,_,_,_,_,0,_,rfl,hm,a,ah,bn,rfl⟩ ?_;clear hm;intro n f K l;obtain ⟨t,ai,aj,A,ak,al,B,g,u,hn,hm,a,j,d,hs⟩:=l;subst hn;refine .lL [5,6,7] hs ?_
 cases u with
 | zero=>rw [Qy.eq_1] at hm;cases hm
 | succ u=>
  rw [Qy.eq_2] at hm;refine Zo<|Zo ?_;refine Wp.cutK [5,6,7,1000000] (fun f L=>∃ v a5,Ze0 N A B g (Qy N u) a5=some r∧St w0 (Zi col) v L∧Zc (Za.int .u32) 200 1 v L ai aj A∧Zc (Za.int .u32) 200 2 v L ak al B∧[26].map f=[.bool a5]) ?_ ?_
  ·intro f L M;obtain ⟨v,a5,hm,a,j,d,hs⟩:=M;rw [Ze0.eq_1] at hm;refine .lL [26] hs ?_;refine Zm hm (fun hb hm=>go ?_) fun hb hm=>go ?_
   ·obtain ⟨cx,bx,hm⟩:=bZ hm;refine Zh (Zi4 3 bx (j.toSlF (Zk.int .u32))) ?_;rintro _ bz ⟨b0,cy,cz,rfl,O,o⟩;refine ⟨_,rfl,?_⟩;replace o:=o.thaw (Xs .u32) O ((Fz.refl (col:=v)).froz 1) (by decide);replace O:=O.thawR (col:=v);generalize Xn L.heap.size v b0=a6 at *;refine go ?_;obtain ⟨c0,b1,hm⟩:=bZ hm;replace d:=d.gr O;refine Zh (Zi4 4 b1 (d.toSlF (Zk.int .u32))) ?_;rintro _ c2 ⟨b2,c3,c4,rfl,P,w⟩;refine ⟨_,rfl,?_⟩;replace w:=w.thaw (Xs .u32) P ((Fz.refl (col:=a6)).froz 2) (by decide);replace P:=P.thawR (col:=a6);generalize Xn bz.heap.size a6 b2=c5 at *;refine go ?_;replace o:=o.gr P;replace o:=o.recolSelf 1 (by decide);replace w:=w.recol 3 1 (by decide);replace a:=(a.grow O).grow P;replace a:=a.recol 3 1 (by decide) (by decide);replace o:=o.recol 4 2 (by decide);replace w:=w.recolSelf 2 (by decide);replace a:=a.recol 4 2 (by decide) (by decide);exact ⟨u,by omega,rfl,⟨_,_,_,_,_,_,_,_,_,rfl,hm,a,o,w,rfl⟩⟩
   refine Z6 [7,1000000] (fun n f am=>∃ an a7 a8 ao ap aq C i,i=n∧V0 N g i ao C=some r∧St w0 (Zi col) an am∧Zc (Za.int .u32) 200 1 an am a7 a8 ao∧Zc (Za.int .u32) 200 2 an am ap aq C∧[5,6].map f=[.slice a7 ao.length a8,.slice ap C.length aq]) N ⟨_,_,_,_,_,_,_,_,rfl,hm,a,j,d,rfl⟩ ?_;clear hm;intro n f am l;obtain ⟨an,a7,a8,ao,ap,aq,C,i,hn,hm,a,bo,k,hs⟩:=l;subst hn;refine .lL [5,6] hs ?_
   cases i with
   | zero=>rw [V0.eq_1] at hm;cases hm
   | succ i=>
    rw [V0.eq_2] at hm;refine go ?_;refine Zm hm (fun hb hm=>go ?_) fun hb hm=>go ?_
    ·refine Z6 [6,7,1000000] (fun n f Q=>∃ p R S q D,D=n∧Zcg N C (V0 N g i) D q=some r∧St w0 (Zi col) p Q∧Zc (Za.int .u32) 200 1 p Q R S q∧Zc (Za.int .u32) 200 2 p Q ap aq C∧[5].map f=[.slice R q.length S]) N ⟨_,_,_,_,_,rfl,hm,a,bo,k,rfl⟩ ?_;clear hm;intro n f Q l;obtain ⟨p,R,S,q,D,hn,hm,a,b,k,hs⟩:=l;subst hn;refine .lL [5] hs ?_
     cases D with
     | zero=>rw [Zcg.eq_1] at hm;cases hm
     | succ D=>
      rw [Zcg.eq_2] at hm;refine go ?_;obtain ⟨c6,b3,hm⟩:=bZ hm;refine Zh (Zi3 b3 (b.toSlF (Zk.int .u32))) ?_;rintro _ bp ⟨rfl,T⟩;refine ⟨_,rfl,?_⟩;replace T:Zg p Q p bp:=.of_below T;refine Zj ?_;replace b:=b.gr T;replace k:=k.gr T;replace a:=a.grow T;refine Zm hm (fun hb hm=>go ?_) fun hb hm=>go ?_
      ·obtain ⟨c7,b4,hm⟩:=bZ hm;refine Zh (Zi4 5 b4 (b.toSlF (Zk.int .u32))) ?_;rintro _ c8 ⟨b5,c9,da,rfl,U,V⟩;refine ⟨_,rfl,?_⟩;replace V:=V.thaw (Xs .u32) U ((Fz.refl (col:=p)).froz 1) (by decide);replace U:=U.thawR (col:=p);generalize Xn bp.heap.size p b5=db at *;refine go ?_;replace k:=k.gr U;replace k:=k.recol 5 1 (by decide);replace V:=V.recolSelf 1 (by decide);replace a:=a.grow U;replace a:=a.recol 5 1 (by decide) (by decide);exact ⟨D,by omega,rfl,⟨_,_,_,_,_,rfl,hm,a,V,k,rfl⟩⟩
      refine Z6 [5,7,1000000] (fun n f W=>∃ E ar au F x,x=n∧S5 N (V0 N g i) q x F=some r∧St w0 (Zi col) E W∧Zc (Za.int .u32) 200 1 E W R S q∧Zc (Za.int .u32) 200 2 E W ar au F∧[6].map f=[.slice ar F.length au]) N ⟨_,_,_,_,_,rfl,hm,a,b,k,rfl⟩ ?_;clear hm;intro n f W l;obtain ⟨E,ar,au,F,x,hn,hm,a,b,c,hs⟩:=l;subst hn;refine .lL [6] hs ?_
      cases x with
      | zero=>rw [S5.eq_1] at hm;cases hm
      | succ x=>
       rw [S5.eq_2] at hm;refine Zo<|Zo ?_;refine Wp.cutK [5,6,7,1000000] (fun f G=>∃ s a9,Zhq N (V0 N g i) q F (S5 N (V0 N g i) q x) a9=some r∧St w0 (Zi col) s G∧Zc (Za.int .u32) 200 1 s G R S q∧Zc (Za.int .u32) 200 2 s G ar au F∧[46].map f=[.bool a9]) ?_ ?_
       ·intro f G M;obtain ⟨s,a9,hm,a,b,c,hs⟩:=M;rw [Zhq.eq_1] at hm;refine .lL [46] hs ?_;refine Zm hm (fun hb hm=>go ?_) fun hb hm=>?_
        ·obtain ⟨dc,b6,hm⟩:=bZ hm;refine Zh (Zi4 6 b6 (c.toSlF (Zk.int .u32))) ?_;rintro _ dd ⟨b7,de,df,rfl,X,Y⟩;refine ⟨_,rfl,?_⟩;replace Y:=Y.thaw (Xs .u32) X ((Fz.refl (col:=s)).froz 2) (by decide);replace X:=X.thawR (col:=s);generalize Xn G.heap.size s b7=dg at *;refine go ?_;replace b:=b.gr X;replace b:=b.recol 6 2 (by decide);replace Y:=Y.recolSelf 2 (by decide);replace a:=a.grow X;replace a:=a.recol 6 2 (by decide) (by decide);exact ⟨x,by omega,rfl,⟨_,_,_,_,_,rfl,hm,a,b,Y,rfl⟩⟩
        refine Q9 (Zak ?_);refine Zo ?_;refine Wp.cutK [7,1000000] (fun f Z=>∃ y ba bb av bc bd aw,Ze1 N (V0 N g i) av aw=some r∧St w0 (Zi col) y Z∧Zc (Za.int .u32) 200 1 y Z ba bb av∧Zc (Za.int .u32) 200 2 y Z bc bd aw∧[5,6].map f=[.slice ba av.length bb,.slice bc aw.length bd]) ?_ ?_
        ·intro f Z M;obtain ⟨y,ba,bb,av,bc,bd,aw,hm,a,H,b8,hs⟩:=M;rw [Ze1.eq_1] at hm;refine .lL [5,6] hs<|go ?_;obtain ⟨ax,b9,hm⟩:=bZ hm;refine Zh (Zp2 7 b9 ((b8.toSlF (Zk.int .u32)).froz 1) ((H.froz 2 (by decide)).toSlF (Zk.int .u32))) ?_;rintro _ dh ⟨ca,bq,br,rfl,aa,ab⟩;refine ⟨_,rfl,?_⟩;replace ab:=ab.thaw (Xs .u32) aa (((Fz.refl (col:=y)).froz 2).froz 1) (by decide);replace aa:=aa.thawR (col:=y);generalize Xn Z.heap.size y ca=di at *;refine lM (.tuple #[.slice bq ax.1.length br,.bool ax.2])<|lV (.slice bq ax.1.length br) (Xl rfl rfl)<|lV (.bool ax.2) (Xl rfl rfl)<|go ?_;replace H:=H.gr aa;replace H:=H.recol 7 2 (by decide);replace ab:=ab.recolSelf 2 (by decide);replace a:=a.grow aa;replace a:=a.recol 7 2 (by decide) (by decide);exact ⟨i,by omega,rfl,⟨_,_,_,_,_,_,_,_,rfl,hm,a,H,ab,rfl⟩⟩
        refine go ?_;obtain ⟨dj,cb,hm⟩:=bZ hm;refine Zh (Zmr cb ((b.toSlF (Zk.int .u32)).froz 2) ((c.froz 1 (by decide)).toSlF (Zk.int .u32))) ?_;rintro _ cc ⟨rfl,ac⟩;refine ⟨_,rfl,?_⟩;replace ac:Zg s G s cc:=.of_below ac;refine go ?_;replace b:=b.gr ac;replace c:=c.gr ac;replace a:=a.grow ac;refine Zm hm (fun hb hm=>go ?_) fun hb hm=>?_
        ·replace c:=c.recol 1 8 (by decide);replace b:=b.recolSelf 8 (by decide);replace a:=a.recol 1 8 (by decide) (by decide);replace c:=c.recolSelf 1 (by decide);replace b:=b.recol 2 1 (by decide);replace a:=a.recol 2 1 (by decide) (by decide);replace c:=c.recol 8 2 (by decide);replace b:=b.recolSelf 2 (by decide);replace a:=a.recol 8 2 (by decide) (by decide);exact ⟨rfl,_,_,_,_,_,_,_,hm,a,c,b,rfl⟩
        refine Z1 ?_;exact ⟨rfl,_,_,_,_,_,_,_,hm,a,b,c,rfl⟩
       refine go ?_;refine Z7 hm (fun be hm=>go ?_) fun be hm=>go ?_
       ·obtain ⟨cd,ce,hm⟩:=bZ hm;refine Zh (Zi3 ce (c.toSlF (Zk.int .u32))) ?_;rintro _ cf ⟨rfl,ad⟩;refine ⟨_,rfl,?_⟩;replace ad:Zg E W E cf:=.of_below ad;refine lV (.bool cd) (Zx (congrArg Value.bool be) rfl)<|Zj ?_;replace b:=b.gr ad;replace c:=c.gr ad;replace a:=a.grow ad;exact ⟨rfl,_,_,hm,a,b,c,rfl⟩
       refine lV (.bool false) (Z0 (congrArg Value.bool be) rfl)<|Zj ?_;exact ⟨rfl,_,_,hm,a,b,c,rfl⟩
    refine Z6 [7,1000000] (fun n f ay=>∃ I bf bg az bh J,J=n∧Zch N g J az bh=some r∧St w0 (Zi col) I ay∧Zc (Za.int .u32) 200 1 I ay bf bg az∧[5,8].map f=[.slice bf az.length bg,.int .i64 bh]) N ⟨_,_,_,_,0,_,rfl,hm,a,bo,rfl⟩ ?_;clear hm;intro n f ay l;obtain ⟨I,bf,bg,az,bh,J,hn,hm,a,bs,hs⟩:=l;subst hn;refine .lL [5,8] hs ?_
    cases J with
    | zero=>rw [Zch.eq_1] at hm;cases hm
    | succ J=>
     rw [Zch.eq_2] at hm;refine go ?_;refine Zm hm (fun hb hm=>go ?_) fun hb hm=>go ?_
     ·obtain ⟨dl,cg,hm⟩:=bZ hm;refine Zh (Zp3 9 cg (bs.toSlF (Zk.int .u32))) ?_;rintro _ dm ⟨ch,dn,dp,rfl,a2,ae⟩;refine ⟨_,rfl,?_⟩;replace ae:=ae.thaw (Xs .u32) a2 ((Fz.refl (col:=I)).froz 1) (by decide);replace a2:=a2.thawR (col:=I);generalize Xn ay.heap.size I ch=dq at *;refine go ?_;replace ae:=ae.recolSelf 1 (by decide);replace a:=a.grow a2;replace a:=a.recol 9 1 (by decide) (by decide);exact ⟨J,by omega,rfl,⟨_,_,_,_,_,_,rfl,hm,a,ae,rfl⟩⟩
     cases hm;exact ⟨rfl,_,_,_,rfl,a.fin (cm [(1,c1)]),a.fo bs⟩
  refine go ?_;obtain ⟨dr,ci,hm⟩:=bZ hm;refine Zh (Zi3 ci (j.toSlF (Zk.int .u32))) ?_;rintro _ bt ⟨rfl,af⟩;refine ⟨_,rfl,?_⟩;replace af:Zg t K t bt:=.of_below af;refine Yg rfl ?_;replace j:=j.gr af;replace d:=d.gr af;replace a:=a.grow af;refine Z7 hm (fun bi hm=>go ?_) fun bi hm=>go ?_
  ·obtain ⟨cj,ck,hm⟩:=bZ hm;refine Zh (Zi3 ck (d.toSlF (Zk.int .u32))) ?_;rintro _ cl ⟨rfl,ag⟩;refine ⟨_,rfl,?_⟩;replace ag:Zg t bt t cl:=.of_below ag;refine lV (.bool cj) (Zx (congrArg Value.bool bi) rfl)<|Zj ?_;replace j:=j.gr ag;replace d:=d.gr ag;replace a:=a.grow ag;exact ⟨rfl,_,_,hm,a,j,d,rfl⟩
  refine lV (.bool false) (Z0 (congrArg Value.bool bi) rfl)<|Zj ?_;exact ⟨rfl,_,_,hm,a,j,d,rfl⟩
def Zhm (f:List Int) (g:List Int) (d:List Int) (a:Int) (e:Int) (kk_L1:(List Int→Int→Int→Option (List Int))):Option (List Int):=
  (Sc f e).bind fun b=>(Sc g e).bind fun c=>Zr ((d.length+[u32.wrap (Int.tmod (u64.wrap ((u64.wrap (a+b))+c)) 4294967296)].length) * 4≤140737488355328∧d.length+[u32.wrap (Int.tmod (u64.wrap ((u64.wrap (a+b))+c)) 4294967296)].length≤maxLen) (kk_L1 (d++[u32.wrap (Int.tmod (u64.wrap ((u64.wrap (a+b))+c)) 4294967296)]) (u64.wrap (Int.tdiv (u64.wrap ((u64.wrap (a+b))+c)) 4294967296)) (i64.wrap (e+1)))
def Za3 (N:Nat) (b:List Int) (c:List Int) (a:List Int) (d:Int) (e:Int) (kk_L1:(List Int→Int→Int→Option (List Int))) (f:Bool):Option (List Int):=
  if f=true then (Zhm b c a d e kk_L1) else ((Ud N a).bind fun g=>some g)
def Tv (N:Nat) (a:List Int) (b:List Int):Nat→(List Int)→Int→Int→Option (List Int)
  | 0,_,_,_=>none
  | e+1,f,d,c=>if (decide (c<(a.length:Int)))=true then (Za3 N a b f d c (Tv N a b e) true) else (if (decide (c<(b.length:Int)))=true then (Za3 N a b f d c (Tv N a b e) true) else (Za3 N a b f d c (Tv N a b e) (decide (0<d))))
termination_by structural x=>x
def Zhl (N:Nat) (a:List Int) (b:List Int):Option (List Int):=
  Tv N a b N ([]:List Int) 0 0
theorem Zx8 {N I J:Nat} {a0 a1:Option Addr} {col:Zd} {w0:World} {g d r:(List Int)} (c1:Nat) (hm:Zhl N g d=some r) (h0:Sl (Za.int .u32) col w0 a0 I g) (h1:Sl (Za.int .u32) col w0 a1 J d):
    Calls prog 117 #[.slice a0 g.length I,.slice a1 d.length J] w0 (fun e w'=>∃ (col':Zd) (ra1:Option Addr) (rc2:Nat),e= .returned ((.slice ra1 r.length rc2))∧Zg col w0 col' w'∧Zc (Za.int .u32) 200 c1 col' w' ra1 rc2 r):=by
 refine Z5 4 (m:=43) func117 rfl rfl rfl rfl rfl ?_;rw [Zhl.eq_1] at hm;have a:=St.start col w0;refine go ?_;refine Z6 [0,1,1000000] (fun n f B=>∃ C q s i b o j,j=n∧Tv N g d j i b o=some r∧St w0 (Zi col) C B∧Zc (Za.int .u32) 200 1 C B q s i∧[5,6,7].map f=[.slice q i.length s,.int .u64 b,.int .i64 o]) N ⟨_,none,0,_,0,0,_,rfl,hm,a,Zc.nil,rfl⟩ ?_;clear hm;intro n f B M;obtain ⟨C,q,s,i,b,o,j,hn,hm,a,c,hs⟩:=M;subst hn;refine .lL [5,6,7] hs ?_;replace h0:=h0.keep (Zl.start col w0);replace h1:=h1.keep (Zl.start col w0)
 cases j with
 | zero=>rw [Tv.eq_1] at hm;cases hm
 | succ j=>
  rw [Tv.eq_2] at hm;refine Zo ?_;refine Wp.cutK [0,1,5,6,7,1000000] (fun f v=>∃ l,Zhm g d i b o (Tv N g d j)=some r∧St w0 (Zi col) l v∧Zc (Za.int .u32) 200 1 l v q s i) ?_ ?_
  ·intro f v D;obtain ⟨l,hm,a,c⟩:=D;rw [Zhm.eq_1] at hm;refine go ?_;obtain ⟨t,O,hm⟩:=bZ hm;refine Zh (Zbj O (h0.ks a)) ?_;rintro _ K ⟨rfl,w⟩;refine ⟨_,rfl,?_⟩;replace w:Zg l v l K:=.of_below w;refine go ?_;obtain ⟨u,P,hm⟩:=bZ hm;replace a:=a.grow w;refine Zh (Zbj P (h1.ks a)) ?_;rintro _ Q ⟨rfl,x⟩;refine ⟨_,rfl,?_⟩;replace x:Zg l K l Q:=.of_below x;refine go ?_;refine lV (.int .u64 (Int.tmod (u64.wrap ((u64.wrap (b+t))+u)) 4294967296)) (T3 (u64.wrap ((u64.wrap (b+t))+u)) 4294967296 rfl rfl (by decide))<|go ?_;refine U8 (col:=l) [u32.wrap (Int.tmod (u64.wrap ((u64.wrap (b+t))+u)) 4294967296)] 2 ?_;intro X Y Z L R;obtain ⟨S,hm⟩:=Zt hm;replace c:=((c.gr w).gr x).gr L;refine Wy c (R.srcN (NB.int (k:=.u32))) S ?_;intro aa ab ac ad T U;refine go ?_;refine lV (.int .u64 (u64.wrap (Int.tdiv (u64.wrap ((u64.wrap (b+t))+u)) 4294967296))) (Uq (u64.wrap ((u64.wrap (b+t))+u)) 4294967296 rfl rfl (by decide))<|go ?_;replace a:=((a.grow x).grow L).kpp T;exact ⟨j,by omega,rfl,⟨_,_,_,_,_,_,_,rfl,hm,a,U,rfl⟩⟩
  refine Zo ?_;refine Wp.cutK [0,1,5,6,7,1000000] (fun f y=>∃ p E,Za3 N g d i b o (Tv N g d j) E=some r∧St w0 (Zi col) p y∧Zc (Za.int .u32) 200 1 p y q s i∧[21].map f=[.bool E]) ?_ ?_
  ·intro f y D;obtain ⟨p,E,hm,a,c,hs⟩:=D;rw [Za3.eq_1] at hm;refine .lL [21] hs ?_;refine Zm hm (fun hb hm=>?_) fun hb hm=>go ?_
   ·refine Z1 ?_;exact ⟨rfl,_,hm,a,c⟩
   obtain ⟨ae,V,hm⟩:=bZ hm;refine Zh (Tk 3 V (c.toSlF (Zk.int .u32))) ?_;rintro _ af ⟨W,ag,ah,rfl,A,F⟩;refine ⟨_,rfl,?_⟩;replace F:=F.thaw (Xs .u32) A ((Fz.refl (col:=p)).froz 1) (by decide);replace A:=A.thawR (col:=p);generalize Xn y.heap.size p W=ai at *;refine go ?_;cases hm;replace a:=a.grow A;exact ⟨rfl,_,_,_,rfl,a.fin (cm [(3,c1)]),a.fo F⟩
  refine go ?_;refine Z7 hm (fun G hm=>go ?_) fun G hm=>go ?_
  ·refine lV (.bool true) (Zx (congrArg Value.bool G) rfl)<|Yg rfl<|lP 18 rfl rfl<|lP 18 rfl rfl<|lV (.bool true) (Zx rfl rfl)<|Zj ?_;exact ⟨rfl,_,_,hm,a,c,rfl⟩
  refine lV (.bool (decide (o<(d.length:Int)))) (Z0 (congrArg Value.bool G) rfl)<|Yg rfl ?_;refine Z7 hm (fun H hm=>go ?_) fun H hm=>go ?_
  ·refine lV (.bool true) (Zx (congrArg Value.bool H) rfl)<|Zj ?_;exact ⟨rfl,_,_,hm,a,c,rfl⟩
  refine lV (.bool (decide (0<b))) (Z0 (congrArg Value.bool H) rfl)<|Zj ?_;exact ⟨rfl,_,_,hm,a,c,rfl⟩
def Ze3 (N:Nat) (a:Int):Option (List Int):=
  (Ud N [u32.wrap (Int.tmod a 4294967296),u32.wrap (u64.wrap (Int.tdiv a 4294967296))]).bind fun b=>some b
theorem Zp1 {N:Nat} {col:Zd} {w0:World} {a:Int} {r:(List Int)} (c1:Nat) (hm:Ze3 N a=some r):
    Calls prog 116 #[.int .u64 a] w0 (fun e w'=>∃ (col':Zd) (ra1:Option Addr) (rc2:Nat),e= .returned ((.slice ra1 r.length rc2))∧Zg col w0 col' w'∧Zc (Za.int .u32) 200 c1 col' w' ra1 rc2 r):=by
 refine Z5 2 (m:=11) func116 O O O O O ?_;rw [Ze3.eq_1] at hm;have b:=St.start col w0;refine go ?_;refine lV (.int .u64 (Int.tmod a 4294967296)) (T3 a 4294967296 O O (by decide))<|go ?_;refine lV (.int .u64 (u64.wrap (Int.tdiv a 4294967296))) (Uq a 4294967296 O O (by decide))<|go ?_;refine U8 (col:=(Zi col)) [u32.wrap (Int.tmod a 4294967296),u32.wrap (u64.wrap (Int.tdiv a 4294967296))] 1 ?_;intro n g d i j;obtain ⟨o,k,hm⟩:=bZ hm;refine Zh (Tk 2 k (j.toSlF (Zk.int .u32))) ?_;rintro _ p ⟨l,q,s,rfl,c,f⟩;refine ⟨_,O,?_⟩;replace f:=f.thaw (Xs .u32) c ((Fz.refl (col:=d)).froz 1) (by decide);replace c:=c.thawR (col:=d);generalize Xn g.heap.size d l=t at *;refine go ?_;cases hm;replace b:=(b.grow i).grow c;exact ⟨O,_,_,_,O,b.fin (cm [(2,c1)]),b.fo f⟩
theorem Zun (N:Nat) (a:List Int) (hb:a.length≤35184372088000):∀ (n j:Nat),j≤a.length→Qz N a n (j:Int)=Tc N n (a.take j)
 | 0,j,_=>rfl
 | n+1,j,hj=>by
  have hl:(a.take j).length=j:=by rw [List.length_take];omega
  have ht:0<j→Zq (a.take j) ((j - 1:Nat):Int)=Zq a ((j - 1:Nat):Int):=fun h=>by rw [Zfu,Zfu,List.getElem?_take,if_pos (by omega)]
  rw [Qz.eq_2,Tc.eq_2,hl]
  by_cases h0:0<j
  ·have e:(j:Int) - 1=((j - 1:Nat):Int):=by omega
   rw [if_pos (decide_eq_true (by omega)),if_pos (decide_eq_true (by omega)),Z2 (by omega),e,ht h0,Xa (by omega),Option.bind_some,Option.bind_some,Ze2,Qs,hl,Z2 (by omega),e,Int.toNat_natCast,Int.toNat_natCast]
   by_cases hx:a[j - 1]=0
   ·rw [if_pos (decide_eq_true hx),if_pos (decide_eq_true hx),Xd (by omega),Zun N a hb n (j - 1) (by omega),List.take_take,Nat.min_eq_left (by omega)]
   ·rw [if_neg (by rw [decide_eq_false hx];decide),if_neg (by rw [decide_eq_false hx];decide),Xd (by omega),Xd (by rw [hl];simp only [List.length_nil,maxLen];omega),List.nil_append]
  ·have:j=0:=by omega
   subst this
   rw [if_neg (by decide),if_neg (by decide),Ze2,Qs,if_neg (by decide),if_neg (by decide),Xd (by omega)]
   exact Xd (by simp [maxLen])
theorem T5 {N:Nat} {a:List Int} (h:Zn a) (hn:a.length<N) (hb:a.length≤35184372088000):Ud N a=some (Zf (Zb a)):=by
 rw [Ud,Zun N a hb N a.length (Nat.le_refl _),List.take_length]
 exact Zlw N N a h hn (by omega)
theorem Zup {N:Nat} {u:Int} (h:0≤u∧u<18446744073709551616) (hn:2<N):Ze3 N u=some (Zf u.toNat):=by
 have e1:u32.wrap (Int.tmod u 4294967296)=u % 4294967296:=by rw [Int.tmod_eq_emod_of_nonneg h.1,V2 (by omega)]
 have e2:u32.wrap (u64.wrap (Int.tdiv u 4294967296))=u / 4294967296:=by rw [Int.tdiv_eq_ediv_of_nonneg h.1,Xi (by omega),V2 (by omega)]
 have hl:Zn [u % 4294967296,u / 4294967296]:=.cons (by omega) (.cons (by omega) .nil)
 have e:Zb [u % 4294967296,u / 4294967296]=u.toNat:=by rw [Yy,Yy,Ye];omega
 rw [Ze3,e1,e2,T5 hl (by simpa using hn) (by simp),Option.bind_some,e]
theorem Zbq {a:List Int} (h:Zn a) (k:Nat):Sc a (k:Int)=some ((Xr a k:Nat):Int):=by
 rw [Sc]
 by_cases hk:k<a.length
 ·have:=h.get hk
  rw [if_pos (decide_eq_true (by omega)),Xa hk,Option.bind_some,Xi (by omega),Xr,List.getD_eq_getElem?_getD,List.getElem?_eq_getElem hk,Option.getD_some]
  congr 1;omega
 ·rw [if_neg (by rw [decide_eq_false (by omega)];decide),Xr,List.getD_eq_getElem?_getD,List.getElem?_eq_none (by omega)];rfl
theorem Zk3 {a:List Int} (h:Zn a) (k:Nat):Zb (a.take k)<4294967296 ^ k:=by
 have h1:=Tx (h.take k)
 refine Nat.lt_of_lt_of_le h1 (Nat.pow_le_pow_right (by decide) ?_)
 rw [List.length_take];omega
theorem Zou (N:Nat) (a b:List Int) (ha:Zn a) (hb:Zn b):∀ (n i:Nat),i<4611686018427387904→i<n→Zb (a.drop i)=Zb (b.drop i)→Zcf N a b n ((i:Int) - 1)=some (if Zb a<Zb b then -1 else if Zb b<Zb a then 1 else 0)
 | 0,i,_,h,_=>by omega
 | n+1,i,hi,hn,he=>by
  rw [Zcf.eq_2]
  by_cases h0:i=0
  ·subst h0
   rw [if_neg (by decide)]
   rw [List.drop_zero,List.drop_zero] at he
   rw [if_neg (by omega),if_neg (by omega)]
  ·have e:(i:Int) - 1=((i - 1:Nat):Int):=by omega
   have e1:i - 1+1=i:=by omega
   rw [if_pos (decide_eq_true (by omega)),e,Zbq ha,Zbq hb,Option.bind_some,Option.bind_some]
   have va:=Un a (i - 1)
   have vb:=Un b (i - 1)
   rw [Um a,e1] at va
   rw [Um b,e1,← he] at vb
   have la:=Zk3 ha (i - 1)
   have lb:=Zk3 hb (i - 1)
   have key:∀ x y:Nat,x<y→4294967296 ^ (i - 1) * (x+4294967296 * Zb (a.drop i))+4294967296 ^ (i - 1)≤4294967296 ^ (i - 1) * (y+4294967296 * Zb (a.drop i)):=fun x y hxy=>by
    rw [← Nat.mul_succ];exact Nat.mul_le_mul_left _ (by omega)
   generalize 4294967296 ^ (i - 1)=Q at *
   by_cases hlt:Xr a (i - 1)<Xr b (i - 1)
   ·have:=key _ _ hlt
    rw [if_pos (decide_eq_true (by omega)),if_pos (by omega)]
   ·rw [if_neg (by rw [decide_eq_false (by omega)];decide)]
    by_cases hgt:Xr b (i - 1)<Xr a (i - 1)
    ·have:=key _ _ hgt
     rw [if_pos (decide_eq_true (by omega)),if_neg (by omega),if_pos (by omega)]
    ·rw [if_neg (by rw [decide_eq_false (by omega)];decide),Z2 (by omega)]
     exact Zou N a b ha hb n (i - 1) (by omega) (by omega) (by rw [Um a,Um b,e1,he];omega)
theorem Zov {N:Nat} {a b:List Int} (ha:Zn a) (hb:Zn b) (h1:a.length<N) (h2:b.length<N) (h3:a.length≤35184372088000) (h4:b.length≤35184372088000):
  Zce N a b=some (if Zb a<Zb b then -1 else if Zb b<Zb a then 1 else 0):=by
 have dz:∀ (l:List Int) (k:Nat),l.length≤k→Zb (l.drop k)=0:=fun l k h=>by rw [List.drop_eq_nil_of_le h];rfl
 rw [Zce]
 by_cases h:a.length<b.length
 ·rw [if_pos (decide_eq_true (by omega)),Zex,Z2 (by omega)]
  exact Zou N a b ha hb N b.length (by omega) h2 (by rw [dz a _ (by omega),dz b _ (by omega)])
 ·rw [if_neg (by rw [decide_eq_false (by omega)];decide),Zex,Z2 (by omega)]
  exact Zou N a b ha hb N a.length (by omega) h1 (by rw [dz a _ (by omega),dz b _ (by omega)])
theorem Zu9 {s:Int} (h:0≤s∧s<18446744073709551616):u32.wrap (Int.tmod s 4294967296)=((s.toNat % 4294967296:Nat):Int):=by
 rw [Int.tmod_eq_emod_of_nonneg h.1,V2 (by omega)];omega
theorem Zu8 {s:Int} (h:0≤s∧s<18446744073709551616):u64.wrap (Int.tdiv s 4294967296)=((s.toNat / 4294967296:Nat):Int):=by
 rw [Int.tdiv_eq_ediv_of_nonneg h.1,Xi (by omega)];omega
theorem Zof {S Q A B C:Nat} (h:A=B+4294967296 * C):S+Q * B+Q * 4294967296 * C=S+Q * A:=by
 subst h;grind
theorem Zt6 (N:Nat) (a b:List Int) (ha:Zn a) (hb:Zn b) (hN:a.length+b.length+2<N) (hs:a.length+b.length<35184372087000):∀ (n i:Nat) (out:List Int) (c:Nat),out.length=i→Zn out→c≤1→i≤a.length+b.length+2→(i≤a.length+b.length+1∨c=0)→a.length+b.length+3≤n+i→
  Tv N a b n out (c:Int) (i:Int)=some (Zf (Zb out+4294967296 ^ i * (c+Zb (a.drop i)+Zb (b.drop i))))
 | 0,i,out,c,_,_,_,h1,_,h2=>by omega
 | n+1,i,out,c,ho,hO,hc,h1,h2,h3=>by
  have go:(i<a.length∨i<b.length∨0<c)→Zhm a b out (c:Int) (i:Int) (Tv N a b n)=some (Zf (Zb out+4294967296 ^ i * (c+Zb (a.drop i)+Zb (b.drop i)))):=fun hgo=>by
   have la:=Zbp ha i
   have lb:=Zbp hb i
   have es:u64.wrap (u64.wrap ((c:Int)+((Xr a i:Nat):Int))+((Xr b i:Nat):Int))=((c+Xr a i+Xr b i:Nat):Int):=by
    rw [Xi (x:=(c:Int)+_) (by omega),Xi (by omega)];omega
   rw [Zhm,Zbq ha,Zbq hb,Option.bind_some,Option.bind_some,es,Zu9 (by omega),Zu8 (by omega),Int.toNat_natCast]
   generalize hsum:c+Xr a i+Xr b i=s
   rw [Xd (by simp only [List.length_singleton,maxLen];omega),Z2 (by omega)]
   have ih:=Zt6 N a b ha hb hN hs n (i+1) (out++[((s % 4294967296:Nat):Int)]) (s / 4294967296) (by simp [ho]) (hO.app (.cons (by omega) .nil)) (by omega) (by omega) (by
    by_cases hi:i<a.length∨i<b.length
    ·omega
    ·right
     have za:Xr a i=0:=by rw [Xr,List.getD_eq_getElem?_getD,List.getElem?_eq_none (by omega)];rfl
     have zb:Xr b i=0:=by rw [Xr,List.getD_eq_getElem?_getD,List.getElem?_eq_none (by omega)];rfl
     omega) (by omega)
   rw [show ((i+1:Nat):Int)=(i:Int)+1 by omega] at ih
   rw [ih,Tw,ho,Yy,Ye,Int.toNat_natCast,Um a i,Um b i,Nat.pow_succ]
   congr 2
   rw [Nat.mul_zero,Nat.add_zero]
   refine Zof ?_
   omega
  rw [Tv.eq_2]
  by_cases hia:i<a.length
  ·rw [if_pos (decide_eq_true (by omega)),Za3,if_pos O];exact go (.inl hia)
  ·rw [if_neg (by rw [decide_eq_false (by omega)];decide)]
   by_cases hib:i<b.length
   ·rw [if_pos (decide_eq_true (by omega)),Za3,if_pos O];exact go (.inr (.inl hib))
   ·rw [if_neg (by rw [decide_eq_false (by omega)];decide),Za3]
    by_cases hcp:0<c
    ·rw [if_pos (decide_eq_true (by omega))];exact go (.inr (.inr hcp))
    ·have:c=0:=by omega
     subst this
     rw [if_neg (by decide),T5 hO (by omega) (by omega),Option.bind_some,List.drop_eq_nil_of_le (by omega),List.drop_eq_nil_of_le (by omega),Ye]
     simp
theorem Z23 {N:Nat} {a b:List Int} (ha:Zn a) (hb:Zn b) (hN:a.length+b.length+3<N) (hs:a.length+b.length<35184372087000):Zhl N a b=some (Zf (Zb a+Zb b)):=by
 have:=Zt6 N a b ha hb (by omega) hs N 0 [] 0 rfl .nil (by omega) (by omega) (by omega) (by omega)
 rw [List.drop_zero,List.drop_zero,Ye,Nat.pow_zero] at this
 rw [Zhl,show (0:Int)=((0:Nat):Int) from rfl,this]
 simp
theorem Zuw (N:Nat) (a b:List Int) (ha:Zn a) (hb:Zn b) (hN:a.length<N) (hs:a.length<35184372088000):∀ (n i:Nat) (out:List Int) (c:Nat),out.length=i→Zn out→c≤1→i≤a.length→a.length<n+i→c+Zb (b.drop i)≤Zb (a.drop i)→
  Sb N a b n out (c:Int) (i:Int)=some (Zf (Zb out+4294967296 ^ i * (Zb (a.drop i) - (c+Zb (b.drop i)))),true)
 | 0,i,out,c,_,_,_,h1,h2,_=>by omega
 | n+1,i,out,c,ho,hO,hc,h1,h2,h3=>by
  rw [Sb.eq_2]
  by_cases hi:i<a.length
  ·have la:=Zbp ha i
   have lb:=Zbp hb i
   rw [Um a i,Um b i] at h3
   have go:∀ (c':Nat) (x:Int),c'≤1→x=((Xr a i+4294967296 * c':Nat):Int)→Xr b i+c≤Xr a i+4294967296 * c'→Xr a i+4294967296 * c'<Xr b i+c+4294967296→Ze5 out (c:Int) (i:Int) (Sb N a b n) ((Xr b i:Nat):Int) (c':Int) x=some (Zf (Zb out+4294967296 ^ i * (Zb (a.drop i) - (c+Zb (b.drop i)))),true):=fun c' x hc' hx h5 h6=>by
    have ev:u32.wrap (u64.wrap (x - u64.wrap (((Xr b i:Nat):Int)+(c:Int))))=((Xr a i+4294967296 * c' - (Xr b i+c):Nat):Int):=by
     rw [Xi (x:=((Xr b i:Nat):Int)+(c:Int)) (by omega),Xi (by omega),V2 (by omega)];omega
    rw [Ze5,ev,Xd (by simp only [List.length_singleton,maxLen];omega),Zkh,Z2 (by omega)]
    generalize hv:Xr a i+4294967296 * c' - (Xr b i+c)=v
    have ih:=Zuw N a b ha hb hN hs n (i+1) (out++[(v:Int)]) c' (by simp [ho]) (hO.app (.cons (by omega) .nil)) hc' (by omega) (by omega) (by omega)
    rw [show ((i+1:Nat):Int)=(i:Int)+1 by omega] at ih
    rw [ih,Tw,ho,Yy,Ye,Int.toNat_natCast,Um a i,Um b i,Nat.pow_succ,Nat.mul_zero,Nat.add_zero]
    congr 3
    refine Zof ?_
    omega
   rw [if_pos (decide_eq_true (by omega)),Zbq ha,Zbq hb,Option.bind_some,Option.bind_some,Xi (x:=((Xr b i:Nat):Int)+(c:Int)) (by omega)]
   by_cases hlt:Xr a i<Xr b i+c
   ·rw [if_pos (decide_eq_true (by omega))]
    exact go 1 _ (by omega) (by rw [Xi (by omega)];omega) (by omega) (by omega)
   ·rw [if_neg (by rw [decide_eq_false (by omega)];decide)]
    exact go 0 _ (by omega) (by omega) (by omega) (by omega)
  ·rw [if_neg (by rw [decide_eq_false (by omega)];decide),T5 hO (by omega) (by omega),Option.bind_some]
   rw [List.drop_eq_nil_of_le (show a.length≤i by omega),Ye] at h3 ⊢
   rw [show 0 - (c+Zb (b.drop i))=0 by omega]
   simp
theorem Zo2 {N:Nat} {a b:List Int} (ha:Zn a) (hb:Zn b) (h1:a.length<N) (h2:b.length<N) (h3:a.length<35184372088000) (h4:b.length<35184372088000):
  Ze4 N a b=some (if Zb a<Zb b then ([],false) else (Zf (Zb a - Zb b),true)):=by
 rw [Ze4,Zov ha hb h1 h2 (by omega) (by omega),Option.bind_some]
 by_cases h:Zb a<Zb b
 ·rw [if_pos h,if_pos (by decide),if_pos h]
 ·have:=Zuw N a b ha hb h1 h3 N 0 [] 0 rfl .nil (by omega) (by omega) (by omega) (by simpa using Nat.le_of_not_lt h)
  rw [if_neg h,if_neg (by split <;> decide),if_neg h,show (0:Int)=((0:Nat):Int) from rfl,this]
  simp [Ye]
theorem Zt7 (N:Nat):∀ (n:Nat) (c:Int) (t:Nat),Z4 t<n→t<4294967296→0≤c∧c+(Z4 t:Int)≤4611686018427387904→Zcd N n c (t:Int)=some (c+(Z4 t:Int))
 | 0,c,t,h,_,_=>by omega
 | n+1,c,t,h,ht,hc=>by
  rw [Zcd.eq_2]
  have hb:Z4 t≤32:=Vn.2 (by omega)
  by_cases h0:0<t
  ·have e:u32.wrap (Int.tdiv (t:Int) 2)=((t / 2:Nat):Int):=by rw [Int.tdiv_eq_ediv_of_nonneg (by omega),V2 (by omega)];omega
   have hs:=Zf0 t 1
   rw [Nat.pow_one] at hs
   have h1:1≤Z4 t:=by rw [Z4,if_neg (by omega)];omega
   rw [if_pos (decide_eq_true (by omega)),e,Z2 (by omega),Zt7 N n (c+1) (t / 2) (by omega) (by omega) (by omega)]
   congr 1;omega
  ·have:t=0:=by omega
   subst this
   rw [if_neg (by decide),Zc7];simp
theorem Z25 {N:Nat} {a:List Int} (h:Zn a) (hn:a.length+32<N) (hb:a.length≤35184372088000):Zho N a=some ((Z4 (Zb a):Nat):Int):=by
 have hl:=Yv h
 rw [Zho,T5 h (by omega) hb,Option.bind_some]
 by_cases h0:(Zf (Zb a)).length=0
 ·have:Zb a=0:=Zdk.1 (List.eq_nil_of_length_eq_zero h0)
  rw [if_pos (decide_eq_true (by omega)),this,Zc7];rfl
 ·have hp:0<(Zf (Zb a)).length:=by omega
  have e:((Zf (Zb a)).length:Int) - 1=(((Zf (Zb a)).length - 1:Nat):Int):=by omega
  have hx:=(Z8 (Zb a)).get (k:=(Zf (Zb a)).length - 1) (by omega)
  have hne:=Zjk hp
  have hs:=Zdh hp
  have e2:(Zf (Zb a))[(Zf (Zb a)).length - 1]=(((Zf (Zb a))[(Zf (Zb a)).length - 1]).toNat:Int):=by omega
  have hb2:Z4 ((Zf (Zb a))[(Zf (Zb a)).length - 1]).toNat≤32:=Vn.2 (by omega)
  rw [if_neg (by rw [decide_eq_false (by omega)];decide),Z2 (by omega),e,Xa (by omega),Option.bind_some,e2,Z2 (by omega),Zt7 N N _ _ (by omega) (by omega) (by omega)]
  have hb:=Zpn (a:=(Zf (Zb a)).take ((Zf (Zb a)).length - 1)) (x:=(Zf (Zb a))[(Zf (Zb a)).length - 1]) ((Z8 _).take _) (by omega)
  rw [hs,Z3,List.length_take,Nat.min_eq_left (by omega)] at hb
  rw [hb]
  congr 1
theorem Zwt (T l R k s:Nat) (hT:T<4294967296 ^ k) (hs:s<32):(T+4294967296 ^ k * (l+4294967296 * R)) / 2 ^ (32 * k+s) % 2=l / 2 ^ s % 2:=by
 have e:(4294967296:Nat) ^ k=2 ^ (32 * k):=by rw [show (4294967296:Nat)=2 ^ 32 by decide,← Nat.pow_mul]
 have hp:0<4294967296 ^ k:=Nat.pow_pos (by decide)
 rw [Nat.pow_add,← e,← Nat.div_div_eq_div_mul,Nat.add_mul_div_left _ _ hp,Nat.div_eq_of_lt hT,Nat.zero_add]
 have pw:(4294967296:Nat)=2 ^ s * (2 * 2 ^ (31 - s)):=by
  rw [Nat.mul_left_comm,← Nat.pow_add,show s+(31 - s)=31 by omega]
 have e2:l+4294967296 * R=l+2 ^ s * (2 * (2 ^ (31 - s) * R)):=by
  conv=>lhs;rw [pw]
  rw [Nat.mul_assoc,Nat.mul_assoc]
 rw [e2,Nat.add_mul_div_left _ _ (Nat.two_pow_pos s),Nat.add_mul_mod_self_left]
theorem Z24 {a:List Int} (h:Zn a) {i:Nat} (hi:i<4611686018427387904):Zhn a (i:Int)=some ((Zb a / 2 ^ i % 2:Nat):Int):=by
 have hl:=Zbp h (i / 32)
 have e1:i64.wrap (Int.tdiv (i:Int) 32)=((i / 32:Nat):Int):=by rw [Int.tdiv_eq_ediv_of_nonneg (by omega),Z2 (by omega)];omega
 have e2:Int.tmod (i:Int) 32=((i % 32:Nat):Int):=by rw [Int.tmod_eq_emod_of_nonneg (by omega)];omega
 rw [Zhn,e1,Zbq h,Option.bind_some,e2,Xd (by omega),Zls _ _ _ (by simp only [IntKind.bits];omega)]
 have hd:=Nat.div_le_self (Xr a (i / 32)) (2 ^ (i % 32))
 have e3:=Zwt (Zb (a.take (i / 32))) (Xr a (i / 32)) (Zb (a.drop (i / 32+1))) (i / 32) (i % 32) (Zk3 h _) (by omega)
 rw [← Um a,← Un,show 32 * (i / 32)+i % 32=i by omega] at e3
 rw [e3]
 generalize Xr a (i / 32) / 2 ^ (i % 32)=x at *
 rw [V2 (by omega),Int.tmod_eq_emod_of_nonneg (by omega)]
 congr 1
theorem Zub (N:Nat) (a:List Int) (ha:Zn a) (hs:a.length<35184372088000):∀ (n i:Nat) (out:List Int) (c:Nat),out.length=i→Zn out→c≤1→i≤a.length→a.length<n+i→
  ∃ o,Zci N a n out (c:Int) (i:Int)=some o∧o.length≤a.length+1∧Zn o∧Zb o=Zb out+4294967296 ^ i * (c+2 * Zb (a.drop i))
 | 0,i,out,c,_,_,_,h1,h2=>by omega
 | n+1,i,out,c,ho,hO,hc,h1,h2=>by
  rw [Zci.eq_2]
  by_cases hi:i<a.length
  ·have ga:=ha.get hi
   have es:u64.wrap ((c:Int)+u64.wrap (2 * u64.wrap a[i]))=((c+2 * (a[i]).toNat:Nat):Int):=by
    rw [Xi (x:=a[i]) (by omega),Xi (x:=2 * _) (by omega),Xi (by omega)];omega
   rw [if_pos (decide_eq_true (by omega)),Xa hi,Option.bind_some,es,Zu9 (by omega),Zu8 (by omega),Int.toNat_natCast]
   generalize hS:c+2 * (a[i]).toNat=S
   rw [Xd (by simp only [List.length_singleton,maxLen];omega),Z2 (by omega)]
   obtain ⟨o,q1,q2,q3,q4⟩:=Zub N a ha hs n (i+1) (out++[((S % 4294967296:Nat):Int)]) (S / 4294967296) (by simp [ho]) (hO.app (.cons (by omega) .nil)) (by omega) (by omega) (by omega)
   rw [show ((i+1:Nat):Int)=(i:Int)+1 by omega] at q1
   refine ⟨o,q1,q2,q3,?_⟩
   rw [q4,Tw,ho,Yy,Ye,Int.toNat_natCast,V5 hi,Nat.pow_succ,Nat.mul_zero,Nat.add_zero]
   refine Zof ?_
   omega
  ·have hia:i=a.length:=by omega
   rw [if_neg (by rw [decide_eq_false (by omega)];decide)]
   by_cases hcp:0<c
   ·rw [if_pos (decide_eq_true (by omega)),Xd (by simp only [List.length_singleton,maxLen];omega),Ze7,V2 (by omega)]
    refine ⟨_,rfl,by simp;omega,hO.app (.cons (by omega) .nil),?_⟩
    rw [Tw,ho,Yy,Ye,Int.toNat_natCast,List.drop_eq_nil_of_le (by omega),Ye]
   ·have:c=0:=by omega
    subst this
    rw [if_neg (by decide),Ze7]
    refine ⟨_,rfl,by omega,hO,?_⟩
    rw [List.drop_eq_nil_of_le (by omega),Ye];simp
theorem Zuc {N:Nat} {a:List Int} {c:Nat} (ha:Zn a) (hc:c≤1) (hN:a.length<N) (hs:a.length<35184372088000):∃ o,Ze6 N a (c:Int)=some o∧o.length≤a.length+1∧Zn o∧Zb o=2 * Zb a+c:=by
 obtain ⟨o,q1,q2,q3,q4⟩:=Zub N a ha hs N 0 [] c rfl .nil hc (by omega) (by omega)
 refine ⟨o,?_,q2,q3,?_⟩
 ·rw [Ze6,Xi (by omega)];exact q1
 ·rw [q4,Ye,Nat.pow_zero,List.drop_zero];omega
theorem Z0r (Q e o2 r S v L:Nat) (h:r * 4294967296+e=2 * v+o2) (hS:S=Q * (o2+2 * (v+4294967296 * L))):S=Q * e+Q * 4294967296 * (r+2 * L):=by
 subst hS
 have:Q * (r * 4294967296+e)=Q * (2 * v+o2):=by rw [h]
 grind
theorem Zul (N:Nat) (a:List Int) (ha:Zn a) (hN:a.length<N) (hs:a.length<35184372088000):∀ (n j:Nat) (out:List Int) (r:Nat),out.length=a.length→Zn out→r≤1→j≤a.length→j<n→Zb (out.take j)=0→
  ∃ v,Zcj N a n out (r:Int) ((j:Int) - 1)=some (Zf v)∧∃ ρ,ρ≤1∧2 * v+ρ=Zb (a.take j)+4294967296 ^ j * (r+2 * Zb (out.drop j))
 | 0,j,out,r,_,_,_,_,h,_=>by omega
 | n+1,j,out,r,ho,hO,hr,hj,hn,hz=>by
  rw [Zcj.eq_2]
  by_cases h0:j=0
  ·subst h0
   rw [if_neg (by decide),T5 hO (by omega) (by omega),Option.bind_some]
   refine ⟨_,rfl,r,hr,?_⟩
   rw [List.take_zero,Ye,List.drop_zero,Nat.pow_zero];omega
  ·have e:(j:Int) - 1=((j - 1:Nat):Int):=by omega
   have e1:j - 1+1=j:=by omega
   have hk:j - 1<a.length:=by omega
   have g:=ha.get hk
   have es:u64.wrap (u64.wrap ((r:Int) * 4294967296)+u64.wrap a[j - 1])=((r * 4294967296+(a[j - 1]).toNat:Nat):Int):=by
    rw [Xi (x:=a[j - 1]) (by omega),Xi (x:=(r:Int) * 4294967296) (by omega),Xi (by omega)];omega
   rw [if_pos (decide_eq_true (by omega)),e,Xa hk,Option.bind_some,Xa (by omega),Option.bind_some,Option.bind_some,Int.toNat_natCast,es,Z2 (by omega)]
   generalize hS:r * 4294967296+(a[j - 1]).toNat=S
   have e2:u32.wrap (u64.wrap (Int.tdiv (S:Int) 2))=((S / 2:Nat):Int):=by rw [Int.tdiv_eq_ediv_of_nonneg (by omega),Xi (by omega),V2 (by omega)];omega
   have e3:Int.tmod (S:Int) 2=((S % 2:Nat):Int):=by rw [Int.tmod_eq_emod_of_nonneg (by omega)];omega
   have zt:Zb (out.take (j - 1))=0:=by
    have:=Un (out.take j) (j - 1)
    rw [List.take_take,Nat.min_eq_left (by omega),hz] at this
    omega
   rw [e2,e3]
   obtain ⟨v,q1,ρ,q2,q3⟩:=Zul N a ha hN hs n (j - 1) (out.set (j - 1) ((S / 2:Nat):Int)) (S % 2) (by rw [List.length_set];exact ho) (hO.set _ (by omega)) (by omega) (by omega) (by omega) (by rw [Zbe _ (Nat.le_refl _)];exact zt)
   refine ⟨v,q1,ρ,q2,?_⟩
   rw [q3]
   have t1:=Zob hk
   have t2:Zb ((out.set (j - 1) ((S / 2:Nat):Int)).drop (j - 1))=S / 2+4294967296 * Zb (out.drop (j - 1+1)):=by
    rw [V5 (by rw [List.length_set];omega),List.getElem_set_self,Qb _ (by omega),Int.toNat_natCast]
   rw [e1] at t1 t2
   have hp:(4294967296:Nat) ^ j=4294967296 ^ (j - 1) * 4294967296:=by rw [← Nat.pow_succ,show (j - 1).succ=j by omega]
   rw [t1,t2,hp,Nat.add_assoc]
   congr 1
   exact Z0r _ _ (S % 2) _ _ (S / 2) _ (by omega) rfl
theorem Zlp {N:Nat} {a:List Int} (ha:Zn a) (hN:a.length<N) (hs:a.length<35184372088000):Za5 N a=some (Zf (Zb a / 2)):=by
 obtain ⟨v,q1,ρ,q2,q3⟩:=Zul N a ha hN hs N a.length (List.replicate a.length 0) 0 (by rw [List.length_replicate]) (.zeros _) (by omega) (Nat.le_refl _) hN (by rw [List.take_replicate];exact Ty _)
 rw [Za5,Xd (by simp only [maxLen];omega),Z2 (by omega)]
 rw [List.take_length,List.drop_replicate,Ty] at q3
 refine Eq.trans q1 ?_
 rw [show v=Zb a / 2 by omega]
theorem Z10 {a:List Int} (h:Zn a):Zb a % 2=Xr a 0 % 2:=by
 have:=Um a 0
 rw [List.drop_zero] at this
 omega
theorem Zlo {a:List Int} (h:Zn a):Za4 a=some (decide (Zb a % 2=0)):=by
 rw [Za4,Z10 h]
 by_cases h0:a.length=0
 ·have:a=[]:=List.eq_nil_of_length_eq_zero h0
  subst this
  rfl
 ·have g:=h.get (k:=0) (by omega)
  have ea:Xr a 0=(a[0]).toNat:=by rw [Xr,List.getD_eq_getElem?_getD,List.getElem?_eq_getElem (by omega),Option.getD_some]
  rw [if_neg (by rw [decide_eq_false (by omega)];decide),show (0:Int)=((0:Nat):Int) from rfl,Xa (by omega),Option.bind_some,Zhr,Int.tmod_eq_emod_of_nonneg (by omega),ea]
  congr 1
  exact decide_eq_decide.2 (by omega)
theorem Z2c {q:List Int} (hq:Zn q) {i:Nat} (hi:i<32 * q.length) (hd:2 ^ (i+1) ∣ Zb q):
  ∃ x:Nat,Zq q ((i / 32:Nat):Int)=some (x:Int)∧u32.wrap ((x:Int)+Xu .u32 1 ((i % 32:Nat):Int))=((x+2 ^ (i % 32):Nat):Int)∧x+2 ^ (i % 32)<4294967296∧Zb (q.set (i / 32) ((x+2 ^ (i % 32):Nat):Int))=Zb q+2 ^ i:=by
 have hk:i / 32<q.length:=by omega
 have g:=hq.get hk
 have hs:i % 32<32:=Nat.mod_lt _ (by decide)
 have hp:=Nat.two_pow_pos (i % 32)
 have e32:(4294967296:Nat) ^ (i / 32)=2 ^ (32 * (i / 32)):=by rw [show (4294967296:Nat)=2 ^ 32 by decide,← Nat.pow_mul]
 have eb:(4294967296:Nat)=2 ^ (i % 32+1) * 2 ^ (31 - i % 32):=by rw [← Nat.pow_add,show i % 32+1+(31 - i % 32)=32 by omega]
 have pi:(2:Nat) ^ (i+1)=4294967296 ^ (i / 32) * 2 ^ (i % 32+1):=by rw [e32,← Nat.pow_add];congr 1;omega
 have pi0:(2:Nat) ^ i=4294967296 ^ (i / 32) * 2 ^ (i % 32):=by rw [e32,← Nat.pow_add];congr 1;omega
 have sp:=Un q (i / 32)
 rw [V5 hk] at sp
 have tl:=Zk3 hq (i / 32)
 have hQ:0<4294967296 ^ (i / 32):=Nat.pow_pos (by decide)
 rw [pi] at hd
 -- the limb's lower bits are none
 have hx:2 ^ (i % 32+1) ∣ (q[i / 32]).toNat:=by
  have d1:4294967296 ^ (i / 32) ∣ Zb q:=Nat.dvd_trans ⟨_,rfl⟩ hd
  have d2:4294967296 ^ (i / 32) ∣ Zb (q.take (i / 32)):=by
   rw [sp] at d1
   exact (Nat.dvd_add_left ⟨_,rfl⟩).1 d1
  have z:Zb (q.take (i / 32))=0:=Nat.eq_zero_of_dvd_of_lt d2 tl
  rw [z,Nat.zero_add] at sp
  rw [sp] at hd
  have d3:=Nat.dvd_of_mul_dvd_mul_left hQ hd
  have d4:2 ^ (i % 32+1) ∣ 4294967296 * Zb (q.drop (i / 32+1)):=by
   conv=>rhs;rw [eb]
   exact ⟨2 ^ (31 - i % 32) * Zb (q.drop (i / 32+1)),by rw [Nat.mul_assoc]⟩
  exact (Nat.dvd_add_left d4).1 d3
 obtain ⟨y,hy⟩:=hx
 have hlt:(q[i / 32]).toNat+2 ^ (i % 32)<4294967296:=by
  have h1:2 ^ (i % 32+1) * y<2 ^ (i % 32+1) * 2 ^ (31 - i % 32):=by rw [← hy,← eb];omega
  have h2:=Nat.lt_of_mul_lt_mul_left h1
  have h3:=Nat.mul_le_mul_left (2 ^ (i % 32+1)) (show y+1≤2 ^ (31 - i % 32) from h2)
  rw [← eb,Nat.mul_add,← hy,Nat.pow_succ] at h3
  omega
 refine ⟨(q[i / 32]).toNat,by rw [Xa hk];congr 1;omega,?_,hlt,?_⟩
 ·rw [show (1:Int)=((1:Nat):Int) from rfl,Zo5 hs (.inl rfl),Nat.one_mul,V2 (x:=((2 ^ (i % 32):Nat):Int)) (by omega),V2 (by omega)]
  omega
 ·have h1:=Td hk (((q[i / 32]).toNat+2 ^ (i % 32):Nat):Int)
  rw [Int.toNat_natCast,Nat.mul_add,← pi0] at h1
  omega
theorem Zox (N:Nat) (a y:List Int) (ha:Zn a) (hy:Zn y) (hy0:0<Zb y) (hly:y.length+8<N) (hs:y.length<35184372000000) (hla:a.length<35184372000000) (hyc:(Zf (Zb y)).length=y.length) (hNa:a.length+y.length+8<N):∀ (n j:Nat) (r q:List Int),j<n→j<4611686018427387904→j≤32 * q.length→q.length≤a.length→Zn q→r=Zf (Zb r)→Zb r<Zb y→2 ^ j ∣ Zb q→Zb a / 2 ^ j=Zb q / 2 ^ j * Zb y+Zb r→
  Qx N a y n r ((j:Int) - 1) q=some (Zf (Zb a / Zb y),Zf (Zb a % Zb y),0)
 | 0,j,r,q,h,_,_,_,_,_,_,_,_=>by omega
 | n+1,j,r,q,hjn,hj,hjq,hqa,hq,hr,hlt,hd,he=>by
  rw [Qx.eq_2]
  by_cases h0:j=0
  ·subst h0
   rw [Nat.pow_zero,Nat.div_one,Nat.div_one] at he
   rw [if_neg (by decide),T5 hq (by omega) (by omega),Option.bind_some]
   have h1:Zb a / Zb y=Zb q:=by rw [he,Nat.mul_comm,Nat.mul_add_div hy0,Nat.div_eq_of_lt hlt,Nat.add_zero]
   have h2:Zb a % Zb y=Zb r:=by rw [he,Nat.mul_comm,Nat.mul_add_mod,Nat.mod_eq_of_lt hlt]
   rw [h1,h2,← hr]
  ·have e:(j:Int) - 1=((j - 1:Nat):Int):=by omega
   obtain ⟨i,rfl⟩:∃ i,j=i+1:=⟨j - 1,by omega⟩
   have ei:i+1 - 1=i:=by omega
   rw [e,ei]
   have hrl:r.length≤y.length:=by
    rw [hr,← hyc];exact Vo (Nat.le_of_lt hlt)
   have hlr:Zn r:=by rw [hr];exact Z8 _
   have hb:=Nat.mod_lt (Zb a / 2 ^ i) (show 0<2 by decide)
   obtain ⟨d,d1,d2,d3,d4⟩:=Zuc (N:=N) (a:=r) (c:=Zb a / 2 ^ i % 2) hlr (by omega) (by omega) (by omega)
   have h2:Zb a / 2 ^ i=2 * (Zb a / 2 ^ (i+1))+Zb a / 2 ^ i % 2:=by
    rw [Nat.pow_succ,← Nat.div_div_eq_div_mul];omega
   obtain ⟨qq,hqq⟩:=hd
   have hq1:Zb q / 2 ^ (i+1)=qq:=by rw [hqq,Nat.mul_div_cancel_left _ (Nat.two_pow_pos _)]
   have hq2:Zb q / 2 ^ i=2 * qq:=by rw [hqq,Nat.pow_succ,Nat.mul_assoc,Nat.mul_div_cancel_left _ (Nat.two_pow_pos _)]
   rw [hq1] at he
   rw [if_pos (decide_eq_true (by omega)),Z24 ha (by omega),Option.bind_some,d1,Option.bind_some,T5 d3 (by omega) (by omega),Option.bind_some,Zov (Z8 _) hy (by have:=Yv d3;omega) (by omega) (by have:=Yv d3;omega) (by omega),Option.bind_some,Z3,d4]
   rw [he] at h2
   have hkey:Zb a / 2 ^ i=2 * qq * Zb y+(2 * Zb r+Zb a / 2 ^ i % 2):=by
    have:2 * qq * Zb y=2 * (qq * Zb y):=Nat.mul_assoc _ _ _
    omega
   generalize hbit:Zb a / 2 ^ i % 2=b at *
   by_cases hge:Zb y≤2 * Zb r+b
   ·rw [if_pos (by rw [if_neg (by omega)];split <;> decide)]
    obtain ⟨x,x1,x2,x3,x4⟩:=Z2c hq (i:=i) (by omega) ⟨qq,hqq⟩
    have e1:i64.wrap (Int.tdiv (i:Int) 32)=((i / 32:Nat):Int):=by rw [Int.tdiv_eq_ediv_of_nonneg (by omega),Z2 (by omega)];omega
    have e2:Int.tmod (i:Int) 32=((i % 32:Nat):Int):=by rw [Int.tmod_eq_emod_of_nonneg (by omega)];omega
    have ll:(Zf (2 * Zb r+b)).length≤y.length+1:=by rw [← d4];exact Nat.le_trans (Yv d3) (by omega)
    rw [Zo2 (Z8 _) hy (by omega) (by omega) (by omega) (by omega),Option.bind_some,Z3,if_neg (by omega),e1,e2,x1,Option.bind_some,Xd (by omega),x2,Option.bind_some,Int.toNat_natCast,Zez,Z2 (by omega)]
    have ih:=Zox N a y ha hy hy0 hly hs hla hyc hNa n i (Zf (2 * Zb r+b - Zb y)) (q.set (i / 32) ((x+2 ^ (i % 32):Nat):Int)) (by omega) (by omega) (by rw [List.length_set];omega) (by rw [List.length_set];exact hqa) (hq.set _ ⟨Int.natCast_nonneg _,Int.ofNat_lt.2 x3⟩) (by rw [Z3]) (by rw [Z3];omega) (by
     rw [x4,hqq];exact Nat.dvd_add ⟨2 * qq,by rw [Nat.pow_succ,Nat.mul_assoc]⟩ (Nat.dvd_refl _)) (by
     have:Zb (q.set (i / 32) ((x+2 ^ (i % 32):Nat):Int)) / 2 ^ i=2 * qq+1:=by
      rw [x4,Nat.add_div_right _ (Nat.two_pow_pos _),hq2]
     rw [this,Z3,hkey,Nat.add_mul,Nat.one_mul];omega)
    exact ih
   ·rw [if_neg (by rw [if_pos (by omega)];decide),Zez,Z2 (by omega)]
    exact Zox N a y ha hy hy0 hly hs hla hyc hNa n i (Zf (2 * Zb r+b)) q (by omega) (by omega) (by omega) hqa hq (by rw [Z3]) (by rw [Z3];omega) (by rw [hqq];exact ⟨2 * qq,by rw [Nat.pow_succ,Nat.mul_assoc]⟩) (by rw [hq2,Z3,hkey])
theorem Zua {N:Nat} {a b:List Int} (ha:Zn a) (hb:Zn b) (hN:32 * a.length+(Zf (Zb b)).length+48<N) (hbN:b.length<N) (hs:a.length+(Zf (Zb b)).length<35184370000000) (hbs:b.length≤35184372000000):
  Zey N a b=some (if Zb b=0 then ([],[],11) else (Zf (Zb a / Zb b),Zf (Zb a % Zb b),0)):=by
 have la:=Yv ha
 rw [Zey,T5 hb (by omega) (by omega),Option.bind_some]
 by_cases h0:Zb b=0
 ·rw [h0,Wz,if_pos (by decide),if_pos rfl]
 ·have hbp:=Sm h0
  have hbl:=(Ziu (Zb a)).2
  rw [if_neg (by rw [decide_eq_false (by omega)];decide),if_neg h0,Z25 ha (by omega) (by omega),Option.bind_some]
  have e1:i64.wrap (Int.tdiv (i64.wrap (((Z4 (Zb a):Nat):Int)+31)) 32)=(((Z4 (Zb a)+31) / 32:Nat):Int):=by
   rw [Z2 (x:=((Z4 (Zb a):Nat):Int)+31) (by omega),Int.tdiv_eq_ediv_of_nonneg (by omega),Z2 (by omega)];omega
  rw [e1,Xd (by simp only [maxLen,Int.toNat_natCast];omega),Int.toNat_natCast,Z2 (by omega)]
  have:=Zox N a (Zf (Zb b)) ha (Z8 _) (by rw [Z3];omega) (by omega) (by omega) (by omega) (by rw [Z3]) (by omega) N (Z4 (Zb a)) [] (List.replicate ((Z4 (Zb a)+31) / 32) 0) (by omega) (by omega) (by rw [List.length_replicate];omega) (by rw [List.length_replicate];omega) (.zeros _) (by rw [Ye,Wz]) (by rw [Z3,Ye];omega) (by rw [Ty];exact ⟨0,rfl⟩) (by
   rw [Ty,Ye,Nat.zero_div,Nat.zero_mul]
   exact Nat.div_eq_of_lt (Vn.1 (Nat.le_refl _)))
  rw [Z3] at this
  exact this
theorem Zy9 {x:Nat} (h:x % 2=1):Nat.Coprime 2 x:=by
 rw [Nat.coprime_iff_gcd_eq_one,Nat.gcd_rec,h,Nat.gcd_one_left]
theorem Zrd {x y k:Nat} (h:y % 2=1):Nat.gcd (2 ^ k * x) y=Nat.gcd x y:=by
 induction k with
 | zero=>rw [Nat.pow_zero,Nat.one_mul]
 | succ k ih=>rw [Nat.pow_succ,Nat.mul_comm (2 ^ k),Nat.mul_assoc,(Zy9 h).gcd_mul_left_cancel,ih]
theorem Z0p {x y k:Nat} (h:x % 2=1):Nat.gcd x (2 ^ k * y)=Nat.gcd x y:=by
 rw [Nat.gcd_comm,Zrd h,Nat.gcd_comm]
theorem Ziv {x:Nat} (h:x≠0):1≤Z4 x:=by rw [Z4,if_neg h];omega
theorem Zit (x:Nat):Z4 (x / 2)=Z4 x - 1:=by
 have:=Zf0 x 1
 rwa [Nat.pow_one] at this
theorem Zfz {x y:Nat} (h:x≤y):Z4 x≤Z4 y:=Vn.2 (Nat.lt_of_le_of_lt h (Vn.1 (Nat.le_refl _)))
theorem Zfy {M x:Nat} (h:(Zf x).length≤M):Z4 x≤32 * M:=by have:=(Ziu x).2;omega
theorem Zrp {x xo k:Nat} (h:x=2 ^ k * xo):xo≤x:=by
 rw [h]
 have:=Nat.mul_le_mul_right xo (Nat.two_pow_pos k)
 omega
section
variable {N M:Nat} (hN:100 * M+64<N) (hM:M<1066000000100)
include hN hM
theorem Zuj (t:Nat):∀ (n i:Nat) (x:List Int),i≤t→t - i<n→t≤32 * M→Zn x→x.length+(t - i)≤33 * M→
  ∃ g,Zch N (t:Int) n x (i:Int)=some g∧Zn g∧Zb g=2 ^ (t - i) * Zb x∧g.length≤x.length+(t - i)
 | 0,i,x,_,h,_,_,_=>by omega
 | n+1,i,x,hi,hn,ht,hx,hl=>by
  rw [Zch.eq_2]
  by_cases h0:i<t
  ·obtain ⟨d,d1,d2,d3,d4⟩:=Zuc (N:=N) (a:=x) (c:=0) hx (by omega) (by omega) (by omega)
   rw [show ((0:Nat):Int)=0 from rfl] at d1
   obtain ⟨g,g1,g2,g3,g4⟩:=Zuj t n (i+1) d (by omega) (by omega) ht d3 (by omega)
   rw [show ((i+1:Nat):Int)=(i:Int)+1 by omega] at g1
   rw [if_pos (decide_eq_true (by omega)),d1,Option.bind_some,Z2 (by omega)]
   refine ⟨g,g1,g2,?_,by omega⟩
   rw [g3,d4,Nat.add_zero (2 * Zb x),← Nat.mul_assoc,← Nat.pow_succ]
   congr 2;omega
  ·have:i=t:=by omega
   subst this
   rw [if_neg (by rw [decide_eq_false (by omega)];decide)]
   exact ⟨x,rfl,hx,by simp,by omega⟩
theorem Zui (kk:List Int→List Int→Option (List Int)) {x:Nat} (hx:(Zf x).length≤M):∀ (n y:Nat),y≠0→Z4 y<n→(Zf y).length≤M→
  ∃ yo k,y=2 ^ k * yo∧yo % 2=1∧S5 N kk (Zf x) n (Zf y)=kk (Zf (min x yo)) (Zf (max x yo - min x yo))
 | 0,y,_,h,_=>by omega
 | n+1,y,h0,hn,hy=>by
  have hp:=Sm h0
  rw [S5.eq_2,if_pos (decide_eq_true (by omega)),Zlo (Z8 _),Z3,Option.bind_some,Zhq]
  by_cases he:y % 2=0
  ·rw [if_pos (decide_eq_true he),Zlp (Z8 _) (by omega) (by omega),Option.bind_some,Z3]
   have hb:=Zit y
   have h1:=Ziv h0
   obtain ⟨yo,k,e1,e2,e3⟩:=Zui kk hx n (y / 2) (by omega) (by omega) (Nat.le_trans (Vo (Nat.div_le_self _ _)) hy)
   refine ⟨yo,k+1,?_,e2,e3⟩
   rw [Nat.pow_succ,Nat.mul_comm (2 ^ k),Nat.mul_assoc,← e1];omega
  ·rw [if_neg (by rw [decide_eq_false he];decide),Zov (Z8 _) (Z8 _) (by omega) (by omega) (by omega) (by omega),Option.bind_some,Z3,Z3]
   refine ⟨y,0,by simp,by omega,?_⟩
   by_cases hxy:y<x
   ·rw [if_pos (by rw [if_neg (by omega),if_pos hxy];decide),Ze1,Zo2 (Z8 _) (Z8 _) (by omega) (by omega) (by omega) (by omega),Option.bind_some,Z3,Z3,if_neg (by omega),Nat.min_eq_right (by omega),Nat.max_eq_left (by omega)]
   ·rw [if_neg (by split <;> (try split) <;> simp_all <;> omega),Ze1,Zo2 (Z8 _) (Z8 _) (by omega) (by omega) (by omega) (by omega),Option.bind_some,Z3,Z3,if_neg (by omega),Nat.min_eq_left (by omega),Nat.max_eq_right (by omega)]
theorem Zuh (kk:List Int→List Int→Option (List Int)) {y:Nat}:∀ (n x:Nat),x≠0→Z4 x<n→(Zf x).length≤M→
  ∃ xo k,x=2 ^ k * xo∧xo % 2=1∧Zcg N (Zf y) kk n (Zf x)=S5 N kk (Zf xo) N (Zf y)
 | 0,x,_,h,_=>by omega
 | n+1,x,h0,hn,hx=>by
  rw [Zcg.eq_2,Zlo (Z8 _),Z3,Option.bind_some]
  by_cases he:x % 2=0
  ·rw [if_pos (decide_eq_true he),Zlp (Z8 _) (by omega) (by omega),Option.bind_some,Z3]
   have hb:=Zit x
   have h1:=Ziv h0
   obtain ⟨xo,k,e1,e2,e3⟩:=Zuh kk n (x / 2) (by omega) (by omega) (Nat.le_trans (Vo (Nat.div_le_self _ _)) hx)
   refine ⟨xo,k+1,?_,e2,e3⟩
   rw [Nat.pow_succ,Nat.mul_comm (2 ^ k),Nat.mul_assoc,← e1];omega
  ·rw [if_neg (by rw [decide_eq_false he];decide)]
   exact ⟨x,0,by simp,by omega,rfl⟩
theorem Zuk (t:Nat) {n x y:Nat} (hx:x≠0) (hy:y≠0) (h:x % 2=1∨y % 2=1) (lx:(Zf x).length≤M) (ly:(Zf y).length≤M):
  ∃ x' y',V0 N (t:Int) (n+1) (Zf x) (Zf y)=V0 N (t:Int) n (Zf x') (Zf y')∧x' % 2=1∧y' % 2=0∧Nat.gcd x' y'=Nat.gcd x y∧(Zf x').length≤M∧(Zf y').length≤M∧(Z4 x'+Z4 y'≤Z4 x+Z4 y)∧(y % 2=0→Z4 x'+Z4 y'+1≤Z4 x+Z4 y):=by
 have hp:=Sm hy
 have bx:=Zfy lx
 have by_:=Zfy ly
 obtain ⟨xo,k,x1,x2,x3⟩:=Zuh hN hM (V0 N (t:Int) n) (y:=y) N x hx (by omega) lx
 have lxo:=Zrp x1
 obtain ⟨yo,l,y1,y2,y3⟩:=Zui hN hM (V0 N (t:Int) n) (x:=xo) (Nat.le_trans (Vo lxo) lx) N y hy (by omega) ly
 have lyo:=Zrp y1
 rw [V0.eq_2,if_pos (decide_eq_true (by omega)),x3,y3]
 have mM:max xo yo≤max x y:=by omega
 have lM:(Zf (max x y)).length≤M:=by
  rcases Nat.le_total x y with h | h
  ·rw [Nat.max_eq_right h];exact ly
  ·rw [Nat.max_eq_left h];exact lx
 have bmm:Z4 (min xo yo)+Z4 (max xo yo - min xo yo)≤Z4 xo+Z4 yo:=by
  rcases Nat.le_total xo yo with h | h
  ·rw [Nat.min_eq_left h,Nat.max_eq_right h]
   have:=Zfz (Nat.sub_le yo xo);omega
  ·rw [Nat.min_eq_right h,Nat.max_eq_left h]
   have:=Zfz (Nat.sub_le xo yo);omega
 have b1:=Zfz lxo
 have b2:=Zfz lyo
 refine ⟨_,_,rfl,by omega,by omega,?_,Nat.le_trans (Vo (by omega)) lM,Nat.le_trans (Vo (by omega)) lM,by omega,fun hev=>?_⟩
 ·have g1:Nat.gcd (min xo yo) (max xo yo - min xo yo)=Nat.gcd xo yo:=by
   rcases Nat.le_total xo yo with h | h
   ·rw [Nat.min_eq_left h,Nat.max_eq_right h,Nat.gcd_sub_self_right h]
   ·rw [Nat.min_eq_right h,Nat.max_eq_left h,Nat.gcd_sub_self_right h,Nat.gcd_comm]
  rw [g1,x1,y1]
  rcases h with h | h
  ·have hk:k=0:=by
    rcases Nat.eq_zero_or_pos k with hk | hk
    ·exact hk
    ·obtain ⟨k',rfl⟩:∃ k',k=k'+1:=⟨k - 1,by omega⟩
     rw [x1,Nat.pow_succ,Nat.mul_comm (2 ^ k'),Nat.mul_assoc] at h;omega
   subst hk
   rw [Nat.pow_zero,Nat.one_mul,Z0p x2]
  ·have hl:l=0:=by
    rcases Nat.eq_zero_or_pos l with hk | hk
    ·exact hk
    ·obtain ⟨k',rfl⟩:∃ k',l=k'+1:=⟨l - 1,by omega⟩
     rw [y1,Nat.pow_succ,Nat.mul_comm (2 ^ k'),Nat.mul_assoc] at h;omega
   subst hl
   rw [Nat.pow_zero,Nat.one_mul,Zrd y2]
 ·have:yo≤y / 2:=by
   rcases Nat.eq_zero_or_pos l with hl | hl
   ·subst hl;rw [Nat.pow_zero,Nat.one_mul] at y1;omega
   ·obtain ⟨k',rfl⟩:∃ k',l=k'+1:=⟨l - 1,by omega⟩
    rw [y1,Nat.pow_succ,Nat.mul_comm (2 ^ k'),Nat.mul_assoc,Nat.mul_div_cancel_left _ (by decide)]
    have:=Nat.mul_le_mul_right yo (Nat.two_pow_pos k')
    omega
  have h3:=Zfz this
  rw [Zit] at h3
  have h4:=Ziv hy
  omega
theorem Zug (t:Nat) (ht:t≤32 * M):∀ (n x y:Nat),x % 2=1→y % 2=0→Z4 x+Z4 y<n→(Zf x).length≤M→(Zf y).length≤M→
  ∃ g,V0 N (t:Int) n (Zf x) (Zf y)=some g∧Zn g∧Zb g=2 ^ t * Nat.gcd x y∧g.length≤33 * M
 | 0,x,y,_,_,h,_,_=>by omega
 | n+1,x,y,hx,hy,hn,lx,ly=>by
  by_cases h0:y=0
  ·subst h0
   rw [V0.eq_2,Wz,if_neg (by decide)]
   obtain ⟨g,g1,g2,g3,g4⟩:=Zuj hN hM t N 0 (Zf x) (by omega) (by omega) ht (Z8 _) (by omega)
   rw [Z3,Nat.sub_zero] at g3
   exact ⟨g,g1,g2,by rw [g3,Nat.gcd_zero_right],by omega⟩
  ·obtain ⟨x',y',e1,e2,e3,e4,e5,e6,_,e7⟩:=Zuk hN hM t (n:=n) (by omega) h0 (.inl hx) lx ly
   have:=e7 hy
   obtain ⟨g,g1,g2,g3,g4⟩:=Zug t ht n x' y' e2 e3 (by omega) e5 e6
   exact ⟨g,by rw [e1,g1],g2,by rw [g3,e4],g4⟩
theorem Zuf:∀ (n x y t:Nat),x≠0→y≠0→Z4 x<n→t+Z4 x≤32 * M→(Zf x).length≤M→(Zf y).length≤M→
  ∃ g,Qy N n (Zf x) (Zf y) (t:Int)=some g∧Zn g∧Zb g=2 ^ t * Nat.gcd x y∧g.length≤33 * M
 | 0,x,y,t,_,_,h,_,_,_=>by omega
 | n+1,x,y,t,hx,hy,hn,ht,lx,ly=>by
  have bx:=Zfy lx
  have by_:=Zfy ly
  have last:(x % 2=1∨y % 2=1)→∃ g,V0 N (t:Int) N (Zf x) (Zf y)=some g∧Zn g∧Zb g=2 ^ t * Nat.gcd x y∧g.length≤33 * M:=fun h=>by
   obtain ⟨N',hN'⟩:∃ N',N=N'+1:=⟨N - 1,by omega⟩
   obtain ⟨x',y',e1,e2,e3,e4,e5,e6,e7,_⟩:=Zuk hN hM t (n:=N') hx hy h lx ly
   obtain ⟨g,g1,g2,g3,g4⟩:=Zug hN hM t (by omega) N' x' y' e2 e3 (by omega) e5 e6
   refine ⟨g,?_,g2,by rw [g3,e4],g4⟩
   rw [← g1,← e1]
   congr 1
  rw [Qy.eq_2,Zlo (Z8 _),Z3,Option.bind_some]
  by_cases hxe:x % 2=0
  ·rw [if_pos (decide_eq_true hxe),Zlo (Z8 _),Z3,Option.bind_some,Ze0]
   by_cases hye:y % 2=0
   ·rw [if_pos (decide_eq_true hye),Zlp (Z8 _) (by omega) (by omega),Option.bind_some,Zlp (Z8 _) (by omega) (by omega),Option.bind_some,Z3,Z3,Z2 (by omega)]
    have hb:=Zit x
    have h1:=Ziv hx
    obtain ⟨g,g1,g2,g3,g4⟩:=Zuf n (x / 2) (y / 2) (t+1) (by omega) (by omega) (by omega) (by omega) (Nat.le_trans (Vo (Nat.div_le_self _ _)) lx) (Nat.le_trans (Vo (Nat.div_le_self _ _)) ly)
    rw [show ((t+1:Nat):Int)=(t:Int)+1 by omega] at g1
    refine ⟨g,g1,g2,?_,g4⟩
    rw [g3,Nat.pow_succ,Nat.mul_assoc,← Nat.gcd_mul_left]
    congr 2 <;> omega
   ·rw [if_neg (by rw [decide_eq_false hye];decide)]
    exact last (.inr (by omega))
  ·rw [if_neg (by rw [decide_eq_false hxe];decide),Ze0,if_neg (by decide)]
   exact last (.inl (by omega))
end
theorem Z3b {N M:Nat} {a b:List Int} (ha:Zn a) (hb:Zn b) (hla:a.length≤M) (hlb:b.length≤M) (hN:100 * M+64<N) (hM:M<1066000000100):∃ g,Zhp N a b=some g∧Zn g∧Zb g=Nat.gcd (Zb a) (Zb b)∧g.length≤33 * M:=by
 have la:=Yv ha
 have lb:=Yv hb
 rw [Zhp,T5 ha (by omega) (by omega),Option.bind_some,T5 hb (by omega) (by omega),Option.bind_some]
 by_cases h1:Zb a=0
 ·rw [h1,Wz,if_pos (by decide),Nat.gcd_zero_left]
  exact ⟨_,rfl,Z8 _,Z3 _,by omega⟩
 ·have p1:=Sm h1
  rw [if_neg (by rw [decide_eq_false (by omega)];decide)]
  by_cases h2:Zb b=0
  ·rw [h2,Wz,if_pos (by decide),Nat.gcd_zero_right]
   exact ⟨_,rfl,Z8 _,Z3 _,by omega⟩
  ·have p2:=Sm h2
   have bx:=Zfy (x:=Zb a) (by omega)
   rw [if_neg (by rw [decide_eq_false (by omega)];decide)]
   obtain ⟨g,g1,g2,g3,g4⟩:=Zuf hN hM N (Zb a) (Zb b) 0 h1 h2 (by omega) (by omega) (by omega) (by omega)
   exact ⟨g,g1,g2,by rw [g3];simp,g4⟩
theorem Zzj (g:Int) (u:List Int):Zg4 g u=Qr g u:=rfl
theorem Zql (j0 n0:Nat) (v:List Int) (g:Int):∀ (l:List Int) (k:Nat) (u:List Int) (c:Int),Za0 j0 n0 v g l k u c=Ta j0 n0 v (u64.wrap (g - 1)) l k u c
 | [],k,u,c=>by rw [Za0.eq_1,Ta.eq_1];rfl
 | x :: l,k,u,c=>by
  rw [Za0.eq_2,Ta.eq_2]
  simp only [Zql j0 n0 v g l]
theorem Zqk (j0 n0:Nat) (v:List Int) (g:Int):∀ (l:List Int) (k:Nat) (u:List Int) (b c:Int),Sa j0 n0 v g l k u b c=Vz j0 n0 v (u64.wrap (g - 1)) l k u b c
 | [],k,u,b,c=>by
  rw [Sa.eq_1,Vz.eq_1]
  simp only [Zql,Zzj]
 | x :: l,k,u,b,c=>by
  rw [Sa.eq_2,Vz.eq_2]
  simp only [Zg5,Zb8,Zj1,Zg6,Zqk j0 n0 v g l]
theorem Zr4 {x:Int} (h:0≤x∧x<18446744073709551616):Uw .u64 x 4294967295=x % 4294967296:=by
 have e:x=(x.toNat:Int):=by omega
 rw [Uw,BitVec.toNat_and,e,Zc8 _ _ (by simp only [IntKind.bits];omega),show (4294967295:Int)=((2 ^ 32 - 1:Nat):Int) by decide,Zc8 _ _ (by simp only [IntKind.bits];omega),Nat.and_two_pow_sub_one_eq_mod,IntKind.wrap_u64]
 omega
theorem Zwp (S S' S2 Q e v x c c' L T:Nat) (h1:S'+Q * e=S+Q * v) (h2:c+(e+x)=v+4294967296 * c') (h3:S2+T=S'+Q * 4294967296 * (c'+L)):S2+T=S+Q * (c+(x+4294967296 * L)):=by
 have:Q * (c+(e+x))=Q * (v+4294967296 * c'):=by rw [h2]
 grind
theorem Zf6 {l:List Int} {k j:Nat} (v:Int) (h:k<j):(l.set k v).drop j=l.drop j:=Qb v h
theorem Zqn (j0:Nat) (v:List Int) (g:Int):∀ (l:List Int) (k:Nat) (u:List Int) (c:Int),Zn l→k+l.length=v.length→Zn u→j0+v.length<u.length→0≤c∧c≤1→
  ∃ u' co,Ta j0 (v.length+1) v g l k u c=some (u32.wrap (u64.wrap (g - 1)),u')∧u'.length=u.length∧Zn u'∧u'.take j0=u.take j0∧u'.drop (j0+v.length+1)=u.drop (j0+v.length+1)∧Zb u'+co * 4294967296 ^ (j0+v.length+1)=Zb u+4294967296 ^ (j0+k) * (c.toNat+Zb l)
 | [],k,u,c,_,hk,hu,hl,hc=>by
  have hk':k=v.length:=by simpa using hk
  subst hk'
  have g0:=hu.get hl
  rw [Ta.eq_1,Xd (by omega),show (j0:Int)+(v.length:Int)=((j0+v.length:Nat):Int) by omega,Xa hl,Option.bind_some,Xd (by omega),Option.bind_some,Option.bind_some,Int.toNat_natCast,Qr,V2 (x:=c) (by omega)]
  have hw:0≤u32.wrap (u[j0+v.length]+c)∧u32.wrap (u[j0+v.length]+c)<4294967296:=by rw [IntKind.wrap_u32];omega
  refine ⟨_,((u[j0+v.length]+c) / 4294967296).toNat,rfl,by rw [List.length_set],hu.set _ hw,Zbe _ (by omega),Zf6 _ (by omega),?_⟩
  have h1:=Td hl (u32.wrap (u[j0+v.length]+c))
  have h2:(u[j0+v.length]).toNat+c.toNat=(u32.wrap (u[j0+v.length]+c)).toNat+4294967296 * ((u[j0+v.length]+c) / 4294967296).toNat:=by rw [IntKind.wrap_u32];omega
  rw [Nat.pow_succ,Ye]
  generalize 4294967296 ^ (j0+v.length)=Q at *
  have h3:Q * ((u[j0+v.length]).toNat+c.toNat)=Q * ((u32.wrap (u[j0+v.length]+c)).toNat+4294967296 * ((u[j0+v.length]+c) / 4294967296).toNat):=by rw [h2]
  grind
 | x :: l,k,u,c,hx,hk,hu,hl,hc=>by
  rw [List.length_cons] at hk
  have hjk:j0+k<u.length:=by omega
  have g0:=hu.get hjk
  have gx:=hx.head
  rw [Ta.eq_2,Xd (by omega),show (j0:Int)+(k:Int)=((j0+k:Nat):Int) by omega,Xa hjk,Option.bind_some,Xd (by omega),Option.bind_some,Option.bind_some,Int.toNat_natCast,Xi (x:=u[j0+k]) (by omega),Xi (x:=x) (by omega),Xi (x:=u[j0+k]+x) (by omega),Xi (by omega),Zcz]
  generalize hs:c+(u[j0+k]+x)=s
  have hw:0≤u32.wrap s∧u32.wrap s<4294967296:=by rw [IntKind.wrap_u32];omega
  obtain ⟨u',co,q1,q2,q3,q4,q5,q6⟩:=Zqn j0 v g l (k+1) (u.set (j0+k) (u32.wrap s)) (s / 4294967296) hx.tail (by omega) (hu.set _ hw) (by rw [List.length_set];exact hl) (by omega)
  refine ⟨u',co,q1,by rw [q2,List.length_set],q3,by rw [q4,Zbe _ (by omega)],by rw [q5,Zf6 _ (by omega)],?_⟩
  rw [Yy]
  rw [← Nat.add_assoc j0 k 1,Nat.pow_succ] at q6
  exact Zwp _ _ _ _ _ _ _ _ _ _ _ (Td hjk _) (by rw [IntKind.wrap_u32];omega) q6
theorem Z17 (S S' S2 Q e w x g b b' c c' t L T:Nat) (h1:S'+Q * e=S+Q * w) (h2:c+g * x=t+4294967296 * c') (h3:e+4294967296 * b'=t+b+w) (h4:S2+Q * 4294967296 * (c'+b'+g * L)=S'+T):S2+Q * (c+b+g * (x+4294967296 * L))=S+T:=by
 have e1:Q * (c+g * x)=Q * (t+4294967296 * c'):=by rw [h2]
 have e2:Q * (e+4294967296 * b')=Q * (t+b+w):=by rw [h3]
 grind
theorem Zqm (j0:Nat) (v:List Int) (g:Int) (hg:0≤g∧g<4294967296):∀ (l:List Int) (k:Nat) (u:List Int) (b c:Int),Zn l→k+l.length=v.length→Zn u→j0+v.length<u.length→0≤b∧b≤1→0≤c∧c<4294967296→
  ∃ u' over,over≤1∧Vz j0 (v.length+1) v g l k u b c=(if over=1 then Ta j0 (v.length+1) v g v 0 u' 0 else Qr g u')∧u'.length=u.length∧Zn u'∧u'.take j0=u.take j0∧u'.drop (j0+v.length+1)=u.drop (j0+v.length+1)∧
   Zb u'+4294967296 ^ (j0+k) * (c.toNat+b.toNat+g.toNat * Zb l)=Zb u+over * 4294967296 ^ (j0+v.length+1)
 | [],k,u,b,c,_,hk,hu,hl,hb,hc=>by
  have hk':k=v.length:=by simpa using hk
  subst hk'
  have g0:=hu.get hl
  rw [Vz.eq_1,Xd (by omega),show (j0:Int)+(v.length:Int)=((j0+v.length:Nat):Int) by omega,Xa hl,Option.bind_some,Xd (by omega),Option.bind_some,Xd (by omega),Option.bind_some,Option.bind_some,Int.toNat_natCast,Xi (x:=c+b) (by omega),Xi (x:=u[j0+v.length]) (by omega)]
  have hw:0≤u32.wrap (u[j0+v.length] - u32.wrap (c+b))∧u32.wrap (u[j0+v.length] - u32.wrap (c+b))<4294967296:=by rw [IntKind.wrap_u32];omega
  have h1:=Td hl (u32.wrap (u[j0+v.length] - u32.wrap (c+b)))
  have fin:∀ over:Nat,(u[j0+v.length]).toNat+4294967296 * over=c.toNat+b.toNat+(u32.wrap (u[j0+v.length] - u32.wrap (c+b))).toNat→Zb (u.set (j0+v.length) (u32.wrap (u[j0+v.length] - u32.wrap (c+b))))+4294967296 ^ (j0+v.length) * (c.toNat+b.toNat+g.toNat * Zb [])=Zb u+over * 4294967296 ^ (j0+v.length+1):=fun over h2=>by
   rw [Nat.pow_succ,Ye]
   generalize 4294967296 ^ (j0+v.length)=Q at *
   have h3:Q * ((u[j0+v.length]).toNat+4294967296 * over)=Q * (c.toNat+b.toNat+(u32.wrap (u[j0+v.length] - u32.wrap (c+b))).toNat):=by rw [h2]
   grind
  by_cases hlt:u[j0+v.length]<c+b
  ·refine ⟨_,1,Nat.le_refl _,by rw [if_pos (by simpa using hlt),if_pos rfl],by rw [List.length_set],hu.set _ hw,Zbe _ (by omega),Zf6 _ (by omega),fin 1 (by rw [IntKind.wrap_u32,IntKind.wrap_u32];omega)⟩
  ·refine ⟨_,0,by decide,by rw [if_neg (by simpa using hlt),if_neg (by decide)],by rw [List.length_set],hu.set _ hw,Zbe _ (by omega),Zf6 _ (by omega),fin 0 (by rw [IntKind.wrap_u32,IntKind.wrap_u32];omega)⟩
 | x :: l,k,u,b,c,hx,hk,hu,hl,hb,hc=>by
  rw [List.length_cons] at hk
  have hjk:j0+k<u.length:=by omega
  have g0:=hu.get hjk
  have gx:=hx.head
  have hm:g * x≤4294967295 * 4294967295:=Int.mul_le_mul (by omega) (by omega) (by omega) (by omega)
  have hm0:0≤g * x:=Int.mul_nonneg hg.1 gx.1
  have hgx:((g.toNat * x.toNat:Nat):Int)=g * x:=by rw [Int.natCast_mul,Int.toNat_of_nonneg hg.1,Int.toNat_of_nonneg gx.1]
  rw [Vz.eq_2,Xd (by omega),show (j0:Int)+(k:Int)=((j0+k:Nat):Int) by omega,Xa hjk,Option.bind_some,Xi (x:=u[j0+k]) (by omega),Xi (x:=x) (by omega),Xi (x:=g * x) (by omega),Xi (x:=c+g * x) (by omega),Zr4 (by omega)]
  generalize ht0:c+g * x=t0
  rw [Xi (x:=t0 % 4294967296+b) (by omega)]
  have fin:∀ b':Int,0≤b'∧b'≤1→u[j0+k]+4294967296 * b'=t0 % 4294967296+b+u32.wrap (u[j0+k] - u32.wrap (t0 % 4294967296+b))→
    ∃ u' over,over≤1∧Zb8 j0 (v.length+1) g u b k c (Vz j0 (v.length+1) v g l) x b'=(if over=1 then Ta j0 (v.length+1) v g v 0 u' 0 else Qr g u')∧u'.length=u.length∧Zn u'∧u'.take j0=u.take j0∧u'.drop (j0+v.length+1)=u.drop (j0+v.length+1)∧
     Zb u'+4294967296 ^ (j0+k) * (c.toNat+b.toNat+g.toNat * Zb (x :: l))=Zb u+over * 4294967296 ^ (j0+v.length+1):=fun b' hb' h3=>by
   have hw:0≤u32.wrap (u[j0+k] - u32.wrap (t0 % 4294967296+b))∧u32.wrap (u[j0+k] - u32.wrap (t0 % 4294967296+b))<4294967296:=by rw [IntKind.wrap_u32];omega
   obtain ⟨u',over,q0,q1,q2,q3,q4,q5,q6⟩:=Zqm j0 v g hg l (k+1) (u.set (j0+k) (u32.wrap (u[j0+k] - u32.wrap (t0 % 4294967296+b)))) b' (t0 / 4294967296) hx.tail (by omega) (hu.set _ hw) (by rw [List.length_set];exact hl) hb' (by omega)
   refine ⟨u',over,q0,?_,by rw [q2,List.length_set],q3,by rw [q4,Zbe _ (by omega)],by rw [q5,Zf6 _ (by omega)],?_⟩
   ·rw [Zb8,Xd (by omega),show (j0:Int)+(k:Int)=((j0+k:Nat):Int) by omega,Xa hjk,Option.bind_some,Xd (by omega),Option.bind_some,Option.bind_some,Int.toNat_natCast,Xi (x:=x) (by omega),Xi (x:=g * x) (by omega),Xi (x:=c+g * x) (by omega),Zr4 (by omega),ht0,Xi (x:=t0 % 4294967296+b) (by omega),Zcz,Zg6]
    exact q1
   ·rw [Yy]
    rw [← Nat.add_assoc j0 k 1,Nat.pow_succ] at q6
    exact Z17 _ _ _ _ _ _ _ _ _ _ _ _ (t0 % 4294967296).toNat _ _ (Td hjk _) (by omega) (by omega) q6
  by_cases hlt:u[j0+k]<t0 % 4294967296+b
  ·rw [if_pos (by simpa using hlt)]
   exact fin 1 (by omega) (by rw [IntKind.wrap_u32,IntKind.wrap_u32];omega)
  ·rw [if_neg (by simpa using hlt)]
   exact fin 0 (by omega) (by rw [IntKind.wrap_u32,IntKind.wrap_u32];omega)
structure Zfr (U V E v1 v2 u2 top lU lV:Nat):Prop where
 hU:U=lU+E * (u2+4294967296 * top)
 hV:V=lV+E * (v2+4294967296 * v1)
 lu:lU<E
 lv:lV<E
 b2:u2<4294967296
 c2:v2<4294967296
 c1:v1<4294967296
 big:2147483648≤v1
 lt:U<4294967296 * V
namespace Zfr
variable {U V E v1 v2 u2 top lU lV:Nat} (t:Zfr U V E v1 v2 u2 top lU lV)
include t
theorem Vpos:0<V:=by
 have:=t.lt
 have:=t.lu
 omega
theorem uE:U<E * 4294967296 * (top+1):=by
 have h1:E * (u2+1)≤E * 4294967296:=Nat.mul_le_mul_left _ t.b2
 have h2:=t.hU;have:=t.lu
 have e:E * (u2+4294967296 * top)=E * u2+E * 4294967296 * top:=by grind
 rw [e] at h2
 rw [Nat.mul_add] at h1 ⊢
 omega
theorem Eu:E * 4294967296 * top≤U:=by
 have h2:=t.hU
 have e:E * (u2+4294967296 * top)=E * u2+E * 4294967296 * top:=by grind
 omega
theorem vE:V<E * 4294967296 * (v1+1):=by
 have h1:E * (v2+1)≤E * 4294967296:=Nat.mul_le_mul_left _ t.c2
 have h2:=t.hV;have:=t.lv
 have e:E * (v2+4294967296 * v1)=E * v2+E * 4294967296 * v1:=by grind
 rw [Nat.mul_add] at h1 ⊢
 omega
theorem Ev:E * 4294967296 * v1≤V:=by
 have h2:=t.hV
 have e:E * (v2+4294967296 * v1)=E * v2+E * 4294967296 * v1:=by grind
 omega
theorem Epos:0<E:=by have:=t.lu;omega
theorem first:U / V≤top / v1:=by
 have hv:0<v1:=by have:=t.big;omega
 rw [Nat.le_div_iff_mul_le hv]
 have h1:U / V * V≤U:=Nat.div_mul_le_self U V
 have h2:U / V * (E * 4294967296 * v1)≤U / V * V:=Nat.mul_le_mul_left _ t.Ev
 have h3:E * 4294967296 * (U / V * v1)<E * 4294967296 * (top+1):=by
  have e:E * 4294967296 * (U / V * v1)=U / V * (E * 4294967296 * v1):=by
   generalize U / V=q
   grind
  rw [e]
  have:=t.uE
  omega
 have:=Nat.lt_of_mul_lt_mul_left h3
 omega
theorem quo:U / V<4294967296:=(Nat.div_lt_iff_lt_mul t.Vpos).2 t.lt
theorem great {g r:Nat} (h:g * v1+r=top) (h2:r * 4294967296+u2<g * v2):U / V<g:=by
 rw [Nat.div_lt_iff_lt_mul t.Vpos]
 have h3:u2+4294967296 * top+1≤g * (v2+4294967296 * v1):=by
  have:4294967296 * (g * v1+r)=4294967296 * top:=by rw [h]
  have e:g * (v2+4294967296 * v1)=g * v2+4294967296 * (g * v1):=by grind
  rw [e];omega
 have h4:=Nat.mul_le_mul_left E h3
 have h5:E * (g * (v2+4294967296 * v1))≤g * V:=by
  have:=t.hV
  have e:g * V=g * lV+E * (g * (v2+4294967296 * v1)):=by rw [this];grind
  omega
 have:=t.hU;have:=t.lu
 rw [Nat.mul_add] at h4
 omega
theorem fine {g r:Nat} (hg:g<4294967296) (h:g * v1+r=top) (h2:g * v2≤r * 4294967296+u2):g * V<U+V:=by
 have h3:g * (v2+4294967296 * v1)≤u2+4294967296 * top:=by
  have:4294967296 * (g * v1+r)=4294967296 * top:=by rw [h]
  have e:g * (v2+4294967296 * v1)=g * v2+4294967296 * (g * v1):=by grind
  rw [e];omega
 have h4:=Nat.mul_le_mul_left E h3
 have e:g * V=g * lV+E * (g * (v2+4294967296 * v1)):=by rw [t.hV];grind
 have h5:g * lV≤4294967295 * E:=Nat.mul_le_mul (by omega) (by have:=t.lv;omega)
 have h6:E * 4294967296 * 1≤E * 4294967296 * v1:=Nat.mul_le_mul_left _ (by have:=t.big;omega)
 have:=t.Ev;have:=t.hU;have:=t.Epos
 omega
theorem topv:top / 4294967296≤v1:=by
 have h1:=t.Eu
 have h2:=t.lt
 have h3:=t.vE
 have h4:E * 4294967296 * top<E * 4294967296 * (4294967296 * (v1+1)):=by
  have:E * 4294967296 * (4294967296 * (v1+1))=4294967296 * (E * 4294967296 * (v1+1)):=by grind
  omega
 have:=Nat.lt_of_mul_lt_mul_left h4
 omega
theorem over {g r:Nat} (h:g * v1+r=top) (hr:4294967296≤r):g<4294967296:=by
 have h1:=t.topv
 have h2:g * v1<4294967296 * v1:=by omega
 exact Nat.lt_of_mul_lt_mul_right h2
theorem stop {g r:Nat} (h:g * v1+r=top) (hr:4294967296≤r):g * V<U+V:=by
 have hg:=t.over h hr
 have h1:=t.vE
 have h2:g * V≤g * (E * 4294967296 * (v1+1)):=Nat.mul_le_mul_left _ (Nat.le_of_lt h1)
 have e:g * (E * 4294967296 * (v1+1))=E * 4294967296 * (g * v1+g):=by grind
 have h3:E * 4294967296 * (g * v1+g)≤E * 4294967296 * top:=Nat.mul_le_mul_left _ (by omega)
 have:=t.Eu;have:=t.Vpos
 omega
end Zfr
def Zpf (X:Option (Int×List Int)) (R:Nat→Option (Int×List Int)) (q U V:Nat):Prop:=∃ g:Nat,X=R g∧q≤g∧g<4294967296∧g * V<U+V
theorem Zqj (N j0:Nat) (u v:List Int) (hu:Zn u) (hv:Zn v) (hn:2≤v.length) (hl:j0+v.length<u.length) (hs:v.length<4611686018427387904) {U V E lU lV top q:Nat} (hq:U / V=q)
  (t:Zfr U V E (v[v.length - 1]).toNat (v[v.length - 2]).toNat (u[j0+v.length - 2]).toNat top lU lV) (htop:top<18446744073709551616):
  ∀ (n g r:Nat),g * (v[v.length - 1]).toNat+r=top→q≤g→r<4294967296→4294967296≤r+2147483648 * n→
  Zpf (Ts N j0 (v.length+1) u v n (g:Int) (r:Int)) (fun g'=>Vz j0 (v.length+1) v (g':Int) v 0 u 0 0) q U V
 | 0,g,r,_,_,h3,h4=>by omega
 | n+1,g,r,h1,h2,h3,h4=>by
  have i1:v.length - 1<v.length:=by omega
  have i2:v.length - 2<v.length:=by omega
  have i3:j0+v.length - 2<u.length:=by omega
  have c1:=hv.get i1
  have c2:=hv.get i2
  have c3:=hu.get i3
  have hbig:=t.big
  have hgb:g≤top:=by
   have:g * 1≤g * (v[v.length - 1]).toNat:=Nat.mul_le_mul_left _ (by omega)
   omega
  -- one less
  have less:q<g→Zpf (Zg3 j0 (v.length+1) u v (g:Int) (r:Int) (Ts N j0 (v.length+1) u v n)) (fun g'=>Vz j0 (v.length+1) v (g':Int) v 0 u 0 0) q U V:=fun hlt=>by
   have hg1:(g - 1) * (v[v.length - 1]).toNat+(r+(v[v.length - 1]).toNat)=top:=by
    have:(g - 1+1) * (v[v.length - 1]).toNat+r=top:=by rw [show g - 1+1=g by omega];exact h1
    rw [Nat.add_mul] at this
    omega
   have ew:u64.wrap ((g:Int) - 1)=((g - 1:Nat):Int):=by rw [Xi (by omega)];omega
   have er:u64.wrap ((r:Int)+u64.wrap v[v.length - 1])=((r+(v[v.length - 1]).toNat:Nat):Int):=by rw [Xi (x:=v[v.length - 1]) (by omega),Xi (by omega)];omega
   rw [Zg3,Z2 (by omega),show (v.length:Int) - 1=((v.length - 1:Nat):Int) by omega,Xa i1,Option.bind_some,er,ew]
   by_cases hb:4294967296≤r+(v[v.length - 1]).toNat
   ·rw [if_pos (decide_eq_true (by omega)),Zqk,ew]
    exact ⟨g - 1,rfl,by omega,t.over hg1 hb,t.stop hg1 hb⟩
   ·rw [if_neg (by rw [decide_eq_false (by omega)];decide)]
    exact Zqj N j0 u v hu hv hn hl hs hq t htop n (g - 1) (r+(v[v.length - 1]).toNat) hg1 (by omega) (by omega) (by omega)
  have hquo:=t.quo
  rw [hq] at hquo
  rw [Ts.eq_2]
  by_cases hgb2:4294967295<g
  ·rw [if_pos (decide_eq_true (by omega)),Zb7,if_pos rfl]
   exact less (by omega)
  ·have hm:g * (v[v.length - 2]).toNat≤4294967295 * 4294967295:=Nat.mul_le_mul (by omega) (by omega)
   have em:(g:Int) * v[v.length - 2]=((g * (v[v.length - 2]).toNat:Nat):Int):=by
    rw [Int.natCast_mul];congr 1;omega
   rw [if_neg (by rw [decide_eq_false (by omega)];decide),if_pos (decide_eq_true (by omega)),Z2 (by omega),show (v.length:Int) - 2=((v.length - 2:Nat):Int) by omega,Xa i2,Option.bind_some,Xd (by omega),show (j0:Int)+((v.length - 2:Nat):Int)=((j0+v.length - 2:Nat):Int) by omega,Xa i3,Option.bind_some,Zb7,
    Xi (x:=u[j0+v.length - 2]) (by omega),Zlx (by omega) (by omega),Xi (x:=v[v.length - 2]) (by omega),em,Xi (by omega)]
   by_cases hc:r * 4294967296+(u[j0+v.length - 2]).toNat<g * (v[v.length - 2]).toNat
   ·rw [if_pos (decide_eq_true (by omega))]
    exact less (by rw [← hq];exact t.great h1 hc)
   ·rw [if_neg (by rw [decide_eq_false (by omega)];decide)]
    exact ⟨g,rfl,h2,by omega,t.fine (by omega) h1 (by omega)⟩
theorem Zm2 {u w:List Int} {j0 n P:Nat} (hP:4294967296 ^ (n+1)=P) (hl:j0+n<u.length) (hz:Zb (u.drop (j0+n+1))=0) (h1:w.length=u.length) (h2:Zn w) (h3:w.drop (j0+n+1)=u.drop (j0+n+1)):Zb (w.drop j0)<P:=by
 have:=Tx ((h2.drop j0).take (n+1))
 rw [List.length_take,List.length_drop,Nat.min_eq_left (by omega),hP] at this
 have e:=Un (w.drop j0) (n+1)
 rw [hP,List.drop_drop,← Nat.add_assoc,h3,hz] at e
 omega
theorem Zqo {u w:List Int} {j0 n P Q x y:Nat} (hP:4294967296 ^ (n+1)=P) (hQ:4294967296 ^ j0=Q) (h4:w.take j0=u.take j0) (h:Zb w+Q * x=Zb u+y * 4294967296 ^ (j0+n+1)):Zb (w.drop j0)+x=Zb (u.drop j0)+y * P:=by
 have pw:(4294967296:Nat) ^ (j0+n+1)=Q * P:=by rw [← hQ,← hP,← Nat.pow_add,Nat.add_assoc]
 have hp:0<Q:=by rw [← hQ];exact Nat.pow_pos (by decide)
 have s0:=Un u j0
 have s1:=Un w j0
 rw [h4] at s1
 rw [hQ] at s0 s1
 rw [pw,s0,s1] at h
 clear pw hP hQ s0 s1 h4
 refine Nat.eq_of_mul_eq_mul_left hp ?_
 grind
theorem Zzk {U V P q g over P1:Nat} (hq:U / V=q) (hV:0<V) (hg1:q≤g) (hg3:g * V<U+V) (k1:P1+g * V=U+over * P) (p1:P1<P):
  (over=0→g=q∧P1=U % V)∧(over=1→g=q+1∧∀ P2 co,V<P→P2<P→P2+co * P=P1+V→P2=U % V):=by
 have hq0:V * q+U % V=U:=by rw [← hq];exact Nat.div_add_mod _ _
 have hq1:=Nat.mod_lt U hV
 have hmono:∀ x y:Nat,x<y→x * V+V≤y * V:=fun x y hxy=>by
  have:=Nat.mul_le_mul_right V (show x+1≤y from hxy)
  rw [Nat.add_mul,Nat.one_mul] at this;exact this
 rw [Nat.mul_comm] at hq0
 constructor
 ·intro ho
  subst ho
  have hgq:g=q:=by
   have a2:¬ q<g:=fun h=>by
    have:=hmono _ _ h
    omega
   omega
  subst hgq
  exact ⟨rfl,by omega⟩
 ·intro ho
  subst ho
  have hgq:g=q+1:=by
   have a1:¬ g≤q:=fun h=>by
    have:=Nat.mul_le_mul_right V h
    omega
   have a2:¬ q+1<g:=fun h=>by
    have:=hmono _ _ h
    rw [Nat.add_mul,Nat.one_mul] at this
    omega
   omega
  refine ⟨hgq,fun P2 co hvP p2 k2=>?_⟩
  have hgv:g * V=q * V+V:=by rw [hgq,Nat.add_mul,Nat.one_mul]
  have hco:co=1:=by
   rcases Nat.lt_trichotomy co 1 with h | h | h
   ·have:co=0:=by omega
    subst this;omega
   ·exact h
   ·have:=Nat.mul_le_mul_right P (show 2≤co from h)
    omega
  subst hco
  omega
theorem Zzl {N j0:Nat} {u v:List Int} (hN:2≤N) (hu:Zn u) (hv:Zn v) (hn:2≤v.length) (hl:j0+v.length<u.length) (hs:u.length<4611686018427387904)
  (hz:Zb (u.drop (j0+v.length+1))=0) (hbig:2147483648≤(v[v.length - 1]).toNat) (hlt:Zb (u.drop j0)<4294967296 * Zb v):
  ∃ u',Zeo N j0 (v.length+1) u v=some (((Zb (u.drop j0) / Zb v:Nat):Int),u')∧u'.length=u.length∧Zn u'∧u'.take j0=u.take j0∧Zb (u'.drop j0)=Zb (u.drop j0) % Zb v∧Zb (u.drop j0) / Zb v<4294967296:=by
 have i1:v.length - 1<v.length:=by omega
 have i2:v.length - 2<v.length:=by omega
 have i3:j0+v.length - 2<u.length:=by omega
 have i4:j0+v.length - 1<u.length:=by omega
 have c1:=hv.get i1
 have c2:=hv.get i2
 have c3:=hu.get i3
 have c4:=hu.get i4
 have c5:=hu.get hl
 -- the Zf above
 have dV:Zb v=Zb (v.take (v.length - 2))+4294967296 ^ (v.length - 2) * ((v[v.length - 2]).toNat+4294967296 * (v[v.length - 1]).toNat):=by
  rw [Un v (v.length - 2),V5 i2,show v.length - 2+1=v.length - 1 by omega,V5 i1,show v.length - 1+1=v.length by omega,List.drop_length,Ye];simp
 have dU:Zb (u.drop j0)=Zb ((u.drop j0).take (v.length - 2))+4294967296 ^ (v.length - 2) * ((u[j0+v.length - 2]).toNat+4294967296 * ((u[j0+v.length]).toNat * 4294967296+(u[j0+v.length - 1]).toNat)):=by
  have e3:j0+(v.length - 2)=j0+v.length - 2:=by omega
  rw [Un (u.drop j0) (v.length - 2),List.drop_drop,e3,V5 i3,show j0+v.length - 2+1=j0+v.length - 1 by omega,V5 i4,show j0+v.length - 1+1=j0+v.length by omega,V5 hl,hz]
  congr 3
  omega
 have lV:=Tx (hv.take (v.length - 2))
 have lU:=Tx ((hu.drop j0).take (v.length - 2))
 rw [List.length_take,Nat.min_eq_left (by omega)] at lV
 rw [List.length_take,List.length_drop,Nat.min_eq_left (by omega)] at lU
 have t:Zfr (Zb (u.drop j0)) (Zb v) (4294967296 ^ (v.length - 2)) (v[v.length - 1]).toNat (v[v.length - 2]).toNat (u[j0+v.length - 2]).toNat ((u[j0+v.length]).toNat * 4294967296+(u[j0+v.length - 1]).toNat) _ _:=
  ⟨dU,dV,lU,lV,by omega,by omega,by omega,hbig,hlt⟩
 have hV:=t.Vpos
 have htop:(u[j0+v.length]).toNat * 4294967296+(u[j0+v.length - 1]).toNat<18446744073709551616:=by omega
 obtain ⟨q,hq⟩:∃ q,Zb (u.drop j0) / Zb v=q:=⟨_,rfl⟩
 obtain ⟨g,hg0,hg1,hg2,hg3⟩:=Zqj N j0 u v hu hv hn hl (by omega) hq t htop N _ _ (Nat.div_add_mod' _ _) (by rw [← hq];exact t.first) (Nat.lt_of_lt_of_le (Nat.mod_lt _ (by omega)) (by omega)) (by omega)
 have e0:Zeo N j0 (v.length+1) u v=Vz j0 (v.length+1) v (g:Int) v 0 u 0 0:=by
  refine Eq.trans ?_ hg0
  rw [Zeo,Xd (by omega),show (j0:Int)+(v.length:Int)=((j0+v.length:Nat):Int) by omega,Xa hl,Option.bind_some,Z2 (by omega),show (v.length:Int) - 1=((v.length - 1:Nat):Int) by omega,Xd (by omega),
   show (j0:Int)+((v.length - 1:Nat):Int)=((j0+v.length - 1:Nat):Int) by omega,Xa i4,Option.bind_some,Xa i1,Option.bind_some,Xi (x:=v[v.length - 1]) (by omega),Xd (by omega),Xd (by omega),Xi (x:=u[j0+v.length]) (by omega),Xi (x:=u[j0+v.length - 1]) (by omega),Zlx (by omega) (by omega)]
  have ev:v[v.length - 1]=((v[v.length - 1]).toNat:Int):=by omega
  have et:u[j0+v.length] * 4294967296+u[j0+v.length - 1]=(((u[j0+v.length]).toNat * 4294967296+(u[j0+v.length - 1]).toNat:Nat):Int):=by omega
  rw [et,ev,Int.tdiv_eq_ediv_of_nonneg (by omega),Int.tmod_eq_emod_of_nonneg (by omega),← Int.natCast_ediv,← Int.natCast_emod,Int.toNat_natCast]
  rw [Xi ⟨Int.natCast_nonneg _,Int.ofNat_lt.2 (Nat.lt_of_le_of_lt (Nat.div_le_self _ _) htop)⟩]
 obtain ⟨u1,over,q0,q1,q2,q3,q4,q5,q6⟩:=Zqm j0 v (g:Int) (by omega) v 0 u 0 0 hv (by omega) hu hl (by omega) (by omega)
 have hquo:=t.quo
 rw [hq] at hquo ⊢
 rw [e0,q1]
 obtain ⟨P,hP⟩:∃ P:Nat,4294967296 ^ (v.length+1)=P:=⟨_,rfl⟩
 obtain ⟨Q,hQ⟩:∃ Q:Nat,4294967296 ^ j0=Q:=⟨_,rfl⟩
 simp only [Nat.add_zero,Int.toNat_zero,Int.toNat_natCast,Nat.zero_add] at q6
 rw [hQ] at q6
 have k1:=Zqo hP hQ q4 q6
 have p1:=Zm2 hP hl hz q2 q3 q5
 have hvP:Zb v<P:=by
  have:=Tx hv
  have h2:=Zm2 (u:=v++[0]) (w:=v++[0]) (j0:=0) (n:=v.length) hP (by simp) (by simp [Zb]) rfl (hv.app (.cons (by decide) .nil)) rfl
  rw [List.drop_zero,Zss] at h2
  exact h2
 have k3:=Zzk hq hV hg1 hg3 k1 p1
 by_cases ho:over=1
 ·obtain ⟨e1,e2⟩:=k3.2 ho
  subst ho
  rw [if_pos rfl]
  obtain ⟨u2,co,r1,r2,r3,r4,r5,r6⟩:=Zqn j0 v (g:Int) v 0 u1 0 hv (by omega) q3 (by omega) (by omega)
  have p2:=Zm2 hP hl hz (by omega) r3 (by rw [r5,q5])
  simp only [Nat.add_zero,Int.toNat_zero,Nat.zero_add] at r6
  rw [hQ] at r6
  have k2:=Zqo (u:=u2) (w:=u1) (x:=Zb v) (y:=co) hP hQ (by rw [r4]) r6.symm
  refine ⟨u2,?_,by omega,r3,by rw [r4,q4],e2 _ co hvP p2 k2.symm,hquo⟩
  rw [r1,Xi (by omega),V2 (by omega)]
  congr 2;omega
 ·obtain ⟨e1,e2⟩:=k3.1 (by omega)
  rw [if_neg ho,Qr,V2 (by omega)]
  exact ⟨u1,by rw [e1],q2,q3,q4,e2,hquo⟩
def Zay (N:Nat):Nat→(List Int)→(List Int)→Option (List Int)
  | 0,_,_=>none
  | c+1,b,a=>if (decide (0<(a.length:Int)))=true then ((Zb3 N b a).bind fun d=>(Zay N c) a d.2.1) else (some b)
termination_by structural x=>x
def Zg2 (N:Nat) (a:List Int) (b:List Int):Option (List Int):=
  (Ua N a).bind fun c=>(Ua N b).bind fun d=>Zay N N c d
theorem Zxy {N x y:Nat} {a0 a1:Option Addr} {col:Zd} {w0:World} {p q r:(List Int)} (c1:Nat) (hm:Zg2 N p q=some r) (h0:Sl (Za.int .u32) col w0 a0 x p) (h1:Sl (Za.int .u32) col w0 a1 y q):
    Calls prog 147 #[.slice a0 p.length x,.slice a1 q.length y] w0 (fun e w'=>∃ (col':Zd) (ra1:Option Addr) (rc2:Nat),e= .returned ((.slice ra1 r.length rc2))∧Zg col w0 col' w'∧Zc (Za.int .u32) 200 c1 col' w' ra1 rc2 r):=by
 refine Z5 4 (m:=25) func147 rfl rfl rfl rfl rfl ?_;rw [Zg2.eq_1] at hm;have a:=St.start col w0;refine go ?_;obtain ⟨O,G,hm⟩:=bZ hm;replace h0:=h0.keep (Zl.start col w0);refine Zh (Ti 1 G (h0.ks a)) ?_;rintro _ P ⟨Q,R,S,rfl,H,s⟩;refine ⟨_,rfl,?_⟩;refine W2 rfl ?_;obtain ⟨T,I,hm⟩:=bZ hm;replace h1:=h1.keep (Zl.start col w0);replace a:=a.grow H;refine Zh (Ti 2 I (h1.ks a)) ?_;rintro _ U ⟨V,W,X,rfl,A,J⟩;refine ⟨_,rfl,go ?_⟩;replace s:=s.gr A;replace a:=a.grow A;refine Z6 [1000000] (fun n f j=>∃ c t u l v w o g,g=n∧Zay N g l o=some r∧St w0 (Zi col) c j∧Zc (Za.int .u32) 200 1 c j t u l∧Zc (Za.int .u32) 200 2 c j v w o∧[0,1].map f=[.slice t l.length u,.slice v o.length w]) N ⟨_,_,_,_,_,_,_,_,rfl,hm,a,s,J,rfl⟩ ?_;clear hm;intro n f j K;obtain ⟨c,t,u,l,v,w,o,g,hn,hm,a,B,b,hs⟩:=K;subst hn;refine .lL [0,1] hs ?_
 cases g with
 | zero=>rw [Zay.eq_1] at hm;cases hm
 | succ g=>
  rw [Zay.eq_2] at hm;refine go ?_;refine Zm hm (fun hb hm=>go ?_) fun hb hm=>go ?_
  ·obtain ⟨i,L,hm⟩:=bZ hm;refine Zh (Zmn 3 4 L ((B.toSlF (Zk.int .u32)).froz 2) ((b.froz 1 (by decide)).toSlF (Zk.int .u32))) ?_;rintro _ Y ⟨M,C,D,E,F,rfl,k,Z,d⟩;refine ⟨_,rfl,?_⟩;replace d:=d.thaw (Xs .u32) k (((Fz.refl (col:=c)).froz 1).froz 2) (by decide);replace k:=k.thawR (col:=c);generalize Xn j.heap.size c M=aa at *;refine lM (.tuple #[.slice C i.1.length D,.slice E i.2.1.length F,.int .i64 i.2.2])<|lV (.slice C i.1.length D) (Xl rfl rfl)<|lV (.slice E i.2.1.length F) (Xl rfl rfl)<|lV (.int .i64 i.2.2) (Xl rfl rfl)<|go ?_;replace b:=b.gr k;replace b:=b.recolSelf 1 (by decide);replace d:=d.recol 2 1 (by decide);replace a:=a.grow k;replace a:=a.recol 2 1 (by decide) (by decide);replace b:=b.recol 4 2 (by decide);replace d:=d.recolSelf 2 (by decide);replace a:=a.recol 4 2 (by decide) (by decide);exact ⟨g,by omega,rfl,⟨_,_,_,_,_,_,_,_,rfl,hm,a,b,d,rfl⟩⟩
  cases hm;exact ⟨rfl,_,_,_,rfl,a.fin (cm [(1,c1)]),a.fo B⟩
theorem Zve (N:Nat):∀ (n:Nat) (a:List Int),Qt N n a=Tc N n a
 | 0,a=>rfl
 | n+1,a=>by
  rw [Qt.eq_2,Tc.eq_2]
  simp only [Zg8,Qs,Zve N n]
theorem Zvf {N:Nat} {a:List Int} (h:Zn a) (hn:a.length<N) (hb:a.length≤35184372088000):Zca N a=some (Zf (Zb a)):=by
 rw [Zca,Zve];exact Zlw N N a h hn (by omega)
theorem Z3i {x L nx s:Nat} (hs:s<32) (hx:x<4294967296) (hn:nx=L % 4294967296):(x+4294967296 * L) / 2 ^ s=(x+4294967296 * nx) / 2 ^ s % 4294967296+4294967296 * (L / 2 ^ s):=by
 have pw:(2:Nat) ^ s * 2 ^ (32 - s)=4294967296:=by rw [← Nat.pow_add,show s+(32 - s)=32 by omega]
 have hp:=Nat.two_pow_pos s
 generalize 2 ^ s=p at *
 generalize 2 ^ (32 - s)=r at *
 have h1:(x+4294967296 * L) / p / 4294967296=L / p:=by
  rw [Nat.div_div_eq_div_mul,Nat.mul_comm p,← Nat.div_div_eq_div_mul]
  congr 1
  omega
 have h2:(x+4294967296 * L) / p % 4294967296=(x+4294967296 * nx) / p % 4294967296:=by
  have e:x+4294967296 * L=x+4294967296 * nx+p * (4294967296 * (r * (L / 4294967296))):=by
   have e1:L=nx+4294967296 * (L / 4294967296):=by omega
   have e2:p * (4294967296 * (r * (L / 4294967296)))=4294967296 * (p * r) * (L / 4294967296):=by grind
   rw [e2,pw]
   omega
  rw [e,Nat.add_mul_div_left _ _ hp,Nat.add_mul_mod_self_left]
 rw [← h1,← h2]
 omega
theorem Zqq (N s:Nat) (hs:s<32) (q r:List Int) (hq:Zn q) (hr:Zn r) (hN:q.length<N∧r.length<N) (hb:q.length≤35184372088000∧r.length≤35184372088000):∀ (n i:Nat) (u d:List Int),i≤r.length→r.length<n+i→u=d++r.drop i→d.length=i→Zn d→Zb d+4294967296 ^ i * (Zb (r.drop i) / 2 ^ s)=Zb r / 2 ^ s→
  Tr N (s:Int) q r n u (i:Int)=some (Zf (Zb q),Zf (Zb r / 2 ^ s),0)
 | 0,i,u,d,h1,h2,_,_,_,_=>by omega
 | n+1,i,u,d,h1,h2,hu,hd,hld,hv=>by
  have hul:u.length=r.length:=by rw [hu,List.length_append,List.length_drop];omega
  rw [Tr.eq_2]
  by_cases hi:i<r.length
  ·have hdr:=List.drop_eq_getElem_cons hi
   have g:=hr.get hi
   have ui:u[i]'(by omega)=r[i]:=by
    subst hu
    rw [List.getElem_append_right (by omega)]
    simp [hd]
   have step:∀ nx:Nat,nx=Zb (r.drop (i+1)) % 4294967296→Zem (s:Int) u (i:Int) (Tr N (s:Int) q r n) (nx:Int)=some (Zf (Zb q),Zf (Zb r / 2 ^ s),0):=fun nx hnx=>by
    have hw:u32.wrap (X9 .u64 (Ys .u64 (Xu .u64 (u64.wrap (nx:Int)) 32) (u64.wrap r[i])) (s:Int))=(((r[i]).toNat+4294967296 * nx) / 2 ^ s % 4294967296:Nat):=by
     rw [Xi (x:=(nx:Int)) (by omega),Xi (x:=r[i]) (by omega),Zlx (by omega) (by omega),show (nx:Int) * 4294967296+r[i]=(((r[i]).toNat+4294967296 * nx:Nat):Int) by omega,Zls _ _ _ (by simp only [IntKind.bits];omega),Zvp]
    have hset:u.set i ((((r[i]).toNat+4294967296 * nx) / 2 ^ s % 4294967296:Nat):Int)=(d++[((((r[i]).toNat+4294967296 * nx) / 2 ^ s % 4294967296:Nat):Int)])++r.drop (i+1):=by
     subst hu
     rw [hdr,List.set_append_right _ _ (by omega),hd,Nat.sub_self,List.set_cons_zero]
     simp
    rw [Zem,Xa (by omega),Option.bind_some,Xd (by omega),ui,hw,Option.bind_some,Zj0,Z2 (by omega),Int.toNat_natCast,hset]
    have ih:=Zqq N s hs q r hq hr hN hb n (i+1) _ (d++[((((r[i]).toNat+4294967296 * nx) / 2 ^ s % 4294967296:Nat):Int)]) (by omega) (by omega) rfl (by simp [hd]) (hld.app (.cons (by omega) .nil)) (by
     rw [Tw,hd,Yy,Ye,Int.toNat_natCast,← hv,hdr,Yy,Z3i hs (by omega) hnx,Nat.pow_succ]
     generalize ((r[i]).toNat+4294967296 * nx) / 2 ^ s % 4294967296=A
     generalize Zb (r.drop (i+1)) / 2 ^ s=C
     grind)
    exact ih
   rw [if_pos (decide_eq_true (by omega)),Z2 (by omega)]
   by_cases hi1:i+1<r.length
   ·have u1:u[i+1]'(by omega)=r[i+1]:=by
     subst hu
     rw [List.getElem_append_right (by omega)]
     simp [hd]
    have g1:=hr.get hi1
    rw [if_pos (decide_eq_true (by omega)),show (i:Int)+1=((i+1:Nat):Int) by omega,Xa (by omega),Option.bind_some,u1,show r[i+1]=((r[i+1]).toNat:Int) by omega]
    exact step _ (by rw [V5 hi1];omega)
   ·rw [if_neg (by rw [decide_eq_false (by omega)];decide)]
    have:=step 0 (by rw [List.drop_eq_nil_of_le (by omega)];rfl)
    exact this
  ·have:i=r.length:=by omega
   subst this
   rw [if_neg (by rw [decide_eq_false (by omega)];decide)]
   rw [List.drop_length,List.append_nil] at hu
   rw [List.drop_length,Ye,Nat.zero_div,Nat.mul_zero,Nat.add_zero] at hv
   subst hu
   rw [Tz hq hN.1 hb.1,Option.bind_some,Tz hld (by omega) (by omega),Option.bind_some,hv]
theorem Zqp (N s:Nat) (v:List Int) (hN:2≤N) (hv:Zn v) (hn:2≤v.length) (hbig:2147483648≤(v[v.length - 1]).toNat):∀ (n j:Nat) (u q:List Int),j≤q.length→j<n→u.length=q.length+v.length→u.length<4611686018427387904→Zn u→Zn q→Zb (u.drop j)<Zb v→Zb (q.take j)=0→
  ∃ u' q',Zb4 N (s:Int) v n u q ((j:Int) - 1)=((Zca N u').bind fun r=>Tr N (s:Int) q' r N r 0)∧u'.length=u.length∧q'.length=q.length∧Zn u'∧Zn q'∧Zb u'<Zb v∧Zb v * Zb q'+Zb u'=Zb v * Zb q+Zb u
 | 0,j,u,q,_,h,_,_,_,_,_,_=>by omega
 | n+1,j,u,q,hj,hjn,hl,hs,hu,hq,hlt,hz=>by
  rw [Zb4.eq_2]
  by_cases h0:j=0
  ·subst h0
   rw [if_neg (by decide)]
   exact ⟨u,q,rfl,rfl,rfl,hu,hq,by simpa using hlt,rfl⟩
  ·have e1:j - 1+1=j:=by omega
   have hi:j - 1<u.length:=by omega
   have hqi:j - 1<q.length:=by omega
   have g:=hu.get hi
   have lv:=Tx hv
   have sp:=Un (u.drop j) v.length
   rw [List.drop_drop] at sp
   have hz2:Zb (u.drop (j - 1+v.length+1))=0:=by
    rw [show j - 1+v.length+1=j+v.length by omega]
    rcases Nat.eq_zero_or_pos (Zb (u.drop (j+v.length))) with h | h
    ·exact h
    ·have:=Nat.mul_le_mul_left (4294967296 ^ v.length) h
     generalize 4294967296 ^ v.length=P at *
     omega
   have d1:=V5 hi
   rw [e1] at d1
   obtain ⟨u',q1,q2,q3,q4,q5,q6⟩:=Zzl (N:=N) (j0:=j - 1) hN hu hv hn (by omega) hs hz2 hbig (by omega)
   have hqs:0≤((Zb (u.drop (j - 1)) / Zb v:Nat):Int)∧((Zb (u.drop (j - 1)) / Zb v:Nat):Int)<4294967296:=⟨Int.natCast_nonneg _,Int.ofNat_lt.2 q6⟩
   rw [if_pos (decide_eq_true (by omega)),show (j:Int) - 1=((j - 1:Nat):Int) by omega,Z2 (x:=((j - 1:Nat):Int)+(v.length:Int)) (by omega),Z2 (by omega),Xd (by omega),Int.toNat_natCast,
    show Int.toNat (((j - 1:Nat):Int)+(v.length:Int)+1) - (j - 1)=v.length+1 by omega,q1,Option.bind_some,Xa hqi,Option.bind_some,Option.bind_some,Z2 (by omega)]
   have vp:0<Zb v:=by omega
   -- the quotient's limb was 0
   have zq:q[j - 1]=0∧Zb (q.take (j - 1))=0:=by
    have:=Zob hqi
    rw [e1,hz] at this
    have g2:=hq.get hqi
    have hp:0<4294967296 ^ (j - 1):=Nat.pow_pos (by decide)
    have h3:4294967296 ^ (j - 1) * (q[j - 1]).toNat=0:=by omega
    rcases Nat.mul_eq_zero.1 h3 with h | h
    ·omega
    ·exact ⟨by omega,by omega⟩
   obtain ⟨u2,q2',r1,r2,r3,r4,r5,r6,r7⟩:=Zqp N s v hN hv hn hbig n (j - 1) u' (q.set (j - 1) ((Zb (u.drop (j - 1)) / Zb v:Nat):Int)) (by rw [List.length_set];omega) (by omega) (by rw [List.length_set,q2];exact hl) (by omega) q3 (hq.set _ hqs) (by rw [q5];exact Nat.mod_lt _ vp) (by rw [Zbe _ (Nat.le_refl _)];exact zq.2)
   refine ⟨u2,q2',r1,by rw [r2,q2],by rw [r3,List.length_set],r4,r5,r6,?_⟩
   rw [r7]
   have s0:=Un u (j - 1)
   have s1:=Un u' (j - 1)
   rw [q4,q5] at s1
   have s2:=Td hqi ((Zb (u.drop (j - 1)) / Zb v:Nat):Int)
   rw [zq.1,Int.toNat_zero,Nat.mul_zero,Nat.add_zero,Int.toNat_natCast] at s2
   rw [s1,s2,s0]
   have hdm:=Nat.div_add_mod (Zb (u.drop (j - 1))) (Zb v)
   generalize Zb (u.drop (j - 1)) / Zb v=a at *
   generalize Zb (u.drop (j - 1)) % Zb v=b at *
   rw [← hdm]
   generalize 4294967296 ^ (j - 1)=Q at *
   grind
theorem Zvb {l:List Int} (h:0<l.length):Zb l=Zb (l.take (l.length - 1))+4294967296 ^ (l.length - 1) * (l[l.length - 1]).toNat:=by
 conv=>lhs;rw [← Zdh h,Tw,Yy,Ye]
 rw [List.length_take,Nat.min_eq_left (by omega),Nat.mul_zero,Nat.add_zero]
theorem Zvc {l:List Int} (hl:Zn l):Zb (l.take (l.length - 1))<4294967296 ^ (l.length - 1):=by
 have:=Tx (hl.take (l.length - 1))
 rw [List.length_take,Nat.min_eq_left (by omega)] at this
 exact this
theorem Zzn {u:List Int} {k n S:Nat} (hu:Zn u) (hk:k+n=u.length) (hn:0<n) (ht:∀ h:u.length - 1<u.length,(u[u.length - 1]).toNat<S):Zb (u.drop k)<4294967296 ^ (n - 1) * S:=by
 have hl:(u.drop k).length=n:=by rw [List.length_drop];omega
 have h1:=Zvb (l:=u.drop k) (by omega)
 have h2:=Zvc (hu.drop k)
 have h3:((u.drop k)[(u.drop k).length - 1]'(by omega))=u[u.length - 1]'(by omega):=by
  have:(u.drop k)[(u.drop k).length - 1]?=u[u.length - 1]?:=by rw [List.getElem?_drop,hl];congr 1;omega
  rw [List.getElem?_eq_getElem (by omega),List.getElem?_eq_getElem (by omega)] at this
  exact Option.some.inj this
 rw [h3] at h1
 rw [hl] at h1 h2
 have h4:=ht (by omega)
 have h5:=Nat.mul_le_mul_left (4294967296 ^ (n - 1)) (show (u[u.length - 1]'(by omega)).toNat+1≤S from h4)
 rw [Nat.mul_add] at h5
 omega
theorem Zi8 {N:Nat} {a b:List Int} (ha:Zn a) (hb:Zn b) (hN:a.length+b.length+4<N) (hs:a.length+b.length≤35184372088000):
  Zb3 N a b=some (if Zb b=0 then ([],[],11) else (Zf (Zb a / Zb b),Zf (Zb a % Zb b),0)):=by
 have la:=Yv ha
 have lb:=Yv hb
 rw [Zb3,T6 ha (by omega) (by omega),Option.bind_some,T6 hb (by omega) (by omega),Option.bind_some]
 generalize hA:Zb a=A at *
 generalize hB:Zb b=B at *
 by_cases h0:B=0
 ·subst h0
  rw [Wz,if_pos (by decide),if_pos rfl]
 ·have hbp:0<(Zf B).length:=List.length_pos_iff.2 (fun h=>h0 (Zdk.1 h))
  rw [if_neg (by rw [decide_eq_false (by omega)];decide),if_neg h0,Zmz (Z8 _) (Z8 _) (by omega) (by omega) (by omega) (by omega),Option.bind_some,Z3,Z3]
  by_cases hlt:A<B
  ·rw [if_pos hlt,if_pos (by decide),Tz (Z8 _) (by omega) (by omega),Option.bind_some,Z3,Nat.div_eq_of_lt hlt,Nat.mod_eq_of_lt hlt,Wz]
  ·rw [if_neg hlt,if_neg (by split <;> decide)]
   have hlen:(Zf B).length≤(Zf A).length:=by
    have h1:=Wu (k:=(Zf A).length) (n:=B)
    have h2:=Wu (k:=(Zf A).length) (n:=A)
    have:=h2.1 (Nat.le_refl _)
    exact h1.2 (by omega)
   by_cases h1:(Zf B).length=1
   ·have g:=(Z8 B).get hbp
    have hne:=Zjk hbp
    have e0:(Zf B).length - 1=0:=by omega
    have hne0:(Zf B)[0]≠0:=by
     have:(Zf B)[(Zf B).length - 1]?=(Zf B)[0]?:=by rw [e0]
     rw [List.getElem?_eq_getElem (by omega),List.getElem?_eq_getElem (by omega)] at this
     rw [← Option.some.inj this];exact hne
    have eB:((Zf B)[0]).toNat=B:=by
     have h2:=Z3 B
     have h3:=V5 (l:=Zf B) (k:=0) hbp
     rw [List.drop_zero,h2,List.drop_eq_nil_of_le (by omega),Ye] at h3
     omega
    obtain ⟨q,q1,q2,q3,q4⟩:=Z3j (N:=N) (a:=Zf A) (d:=(Zf B)[0]) (by omega) (Z8 _) (by omega) (by omega)
    rw [eB,Z3] at q1 q4
    have hm:=Nat.mod_lt A (show 0<B by omega)
    have hB32:B<4294967296:=by omega
    have hml:Zn [((A % B:Nat):Int)]:=.cons ⟨Int.natCast_nonneg _,Int.ofNat_lt.2 (Nat.lt_trans hm hB32)⟩ .nil
    rw [if_pos (decide_eq_true (by omega)),Zmy (by omega),Option.bind_some,show (0:Int)=((0:Nat):Int) from rfl,Xa hbp,Option.bind_some,q1,Option.bind_some,Tz q3 (by omega) (by omega),Option.bind_some,Tz hml (by simp;omega) (by simp),Option.bind_some,q4,Yy,Ye,Int.toNat_natCast,Nat.mul_zero,Nat.add_zero]
   ·have hp:0<(Zf B).length:=hbp
    have i1:(Zf B).length - 1<(Zf B).length:=by omega
    have g:=(Z8 B).get i1
    have hne:=Zjk hbp
    obtain ⟨k,ek,k1,k2⟩:=Ziw (show ((Zf B)[(Zf B).length - 1]).toNat≠0 by omega)
    have hk:k≤31:=by
     have:Z4 ((Zf B)[(Zf B).length - 1]).toNat≤32:=Vn.2 (by omega)
     omega
    obtain ⟨s,hs'⟩:∃ s,s=31 - k:=⟨_,rfl⟩
    have hlz:Zgx (Zf B)[(Zf B).length - 1]=some (s:Int):=by
     rw [Zgx,show (Zf B)[(Zf B).length - 1]=(((Zf B)[(Zf B).length - 1]).toNat:Int) by omega,Zrv (by omega),Option.bind_some,ek,Z2 (by omega)]
     congr 1;omega
    obtain ⟨u,u1,u2,u3,u4,u5⟩:=Zrt (a:=Zf A) (s:=s) (by omega) (Z8 _) (by omega)
    obtain ⟨w,w1,w2,w3,w4,w5⟩:=Zrt (a:=Zf B) (s:=s) (by omega) (Z8 _) (by omega)
    rw [Z3] at u4 w4
    have hps:=Nat.two_pow_pos s
    -- the divisor, its highest Xp set
    have hsp:=Zdh hp
    have htl:=Tx ((Z8 B).take ((Zf B).length - 1))
    rw [List.length_take,Nat.min_eq_left (by omega)] at htl
    have eB:B=Zb ((Zf B).take ((Zf B).length - 1))+4294967296 ^ ((Zf B).length - 1) * ((Zf B)[(Zf B).length - 1]).toNat:=by
     conv=>lhs;rw [← Z3 B,← hsp,Tw,Yy,Ye]
     rw [List.length_take,Nat.min_eq_left (by omega)];simp
    have pk:2 ^ k * 2 ^ s=2147483648:=by rw [← Nat.pow_add,hs',show k+(31 - k)=31 by omega]
    have pk1:2 ^ (k+1) * 2 ^ s=4294967296:=by rw [Nat.pow_succ,Nat.mul_right_comm,pk]
    have hPp:0<4294967296 ^ ((Zf B).length - 1):=Nat.pow_pos (by decide)
    have hlb1:(Zf B).length - 1+1=(Zf B).length:=by omega
    have pwl:(4294967296:Nat) ^ (Zf B).length=4294967296 ^ ((Zf B).length - 1) * 4294967296:=by rw [← Nat.pow_succ];congr 1;omega
    generalize hPe:4294967296 ^ ((Zf B).length - 1)=P at *
    have top1:P * 2147483648≤2 ^ s * B:=by
     have h1:=Nat.mul_le_mul_left P k1
     have h2:=Nat.mul_le_mul_right (2 ^ s) (show P * 2 ^ k≤B by omega)
     rw [Nat.mul_assoc,pk] at h2
     rw [Nat.mul_comm (2 ^ s)];exact h2
    have top2:2 ^ s * B<P * 4294967296:=by
     have h1:=Nat.mul_le_mul_left P (show ((Zf B)[(Zf B).length - 1]).toNat+1≤2 ^ (k+1) from k2)
     rw [Nat.mul_add] at h1
     have h2:=Nat.mul_lt_mul_of_pos_right (show B<P * 2 ^ (k+1) by omega) hps
     rw [Nat.mul_assoc,pk1] at h2
     rw [Nat.mul_comm (2 ^ s)];exact h2
    have hv0:(Zf (2 ^ s * B)).length=(Zf B).length:=by
     have h1:(Zf (2 ^ s * B)).length≤(Zf B).length:=Wu.2 (by rw [pwl];exact top2)
     have h2:¬ (Zf (2 ^ s * B)).length≤(Zf B).length - 1:=fun h=>by
      have:=Wu.1 h
      rw [hPe] at this
      have:P * 1≤P * 2147483648:=Nat.mul_le_mul_left _ (by decide)
      omega
     omega
    have hvp:0<(Zf (2 ^ s * B)).length:=by omega
    have hbig:2147483648≤((Zf (2 ^ s * B))[(Zf (2 ^ s * B)).length - 1]).toNat:=by
     have tl':=Zvc (Z8 (2 ^ s * B))
     have e:=Zvb hvp
     have ePP:(4294967296:Nat) ^ ((Zf (2 ^ s * B)).length - 1)=P:=by rw [hv0];exact hPe
     rw [Z3,ePP] at e
     rw [ePP] at tl'
     generalize Zb ((Zf (2 ^ s * B)).take ((Zf (2 ^ s * B)).length - 1))=lo at *
     generalize ((Zf (2 ^ s * B))[(Zf (2 ^ s * B)).length - 1]).toNat=t at *
     have h3:P * 2147483648<P * (t+1):=by rw [Nat.mul_add];omega
     have:=Nat.lt_of_mul_lt_mul_left h3
     omega
    obtain ⟨q,hq⟩:∃ q,q=List.replicate ((Zf A).length - (Zf B).length+1) (0:Int):=⟨_,rfl⟩
    have lq:q.length=(Zf A).length - (Zf B).length+1:=by rw [hq,List.length_replicate]
    rw [if_neg (by rw [decide_eq_false (by omega)];decide),Z2 (x:=((Zf B).length:Int) - 1) (by omega),show ((Zf B).length:Int) - 1=(((Zf B).length - 1:Nat):Int) by omega,Xa i1,Option.bind_some,hlz,Option.bind_some,u1,Option.bind_some,w1,Option.bind_some,
     Zvf w3 (by omega) (by omega),Option.bind_some,w4,Z2 (x:=((Zf A).length:Int) - ((Zf B).length:Int)) (by omega),Z2 (x:=((Zf A).length:Int) - ((Zf B).length:Int)+1) (by omega),Xd (by simp only [maxLen];omega),
     show Int.toNat (((Zf A).length:Int) - ((Zf B).length:Int)+1)=(Zf A).length - (Zf B).length+1 by omega,← hq,Z2 (x:=(q.length:Int) - 1) (by omega)]
    obtain ⟨u',q',r1,r2,r3,r4,r5,r6,r7⟩:=Zqp N s (Zf (2 ^ s * B)) (by omega) (Z8 _) (by omega) hbig N q.length u q (Nat.le_refl _) (by omega) (by omega) (by omega) u3 (by rw [hq];exact .zeros _) (by
     -- the highest Zf are below the divisor
     rw [Z3]
     have h1:=Zzn (k:=q.length) (n:=(Zf B).length) u3 (by omega) hp u5
     rw [hPe] at h1
     have hs31:2 ^ s≤2147483648:=by
      have:=Nat.pow_le_pow_right (n:=2) (by decide) (show s≤31 by omega)
      omega
     have h8:=Nat.mul_le_mul_left P hs31
     omega) (by rw [hq,List.take_replicate];exact Ty _)
    rw [r1,Zvf r4 (by omega) (by omega),Option.bind_some]
    rw [Z3] at r6 r7
    have zq:Zb q=0:=by rw [hq];exact Ty _
    rw [zq,u4,Nat.mul_zero,Nat.zero_add] at r7
    have ll:=Yv r4
    have hfin:=Zqq N s (by omega) q' (Zf (Zb u')) r5 (Z8 _) (by omega) (by omega) N 0 (Zf (Zb u')) [] (by omega) (by omega) (by simp) rfl .nil (by rw [Ye,List.drop_zero,Nat.pow_zero];omega)
    rw [show ((0:Nat):Int)=0 from rfl] at hfin
    rw [hfin,Z3]
    have hqv:Zb q'=A / B:=by
     have h9:2 ^ s * A / (2 ^ s * B)=Zb q':=by
      rw [← r7,Nat.mul_add_div (by omega),Nat.div_eq_of_lt r6,Nat.add_zero]
     rw [← h9,Nat.mul_div_mul_left _ _ hps]
    have hrv:Zb u' / 2 ^ s=A % B:=by
     have h9:2 ^ s * A % (2 ^ s * B)=Zb u':=by
      rw [← r7,Nat.mul_add_mod,Nat.mod_eq_of_lt r6]
     rw [Nat.mul_mod_mul_left] at h9
     rw [← h9,Nat.mul_div_cancel_left _ hps]
    rw [hqv,hrv]
theorem Z0o {x y:Nat} (h:y≤x) (hy:0<y):y * (x % y)≤x * y / 2:=by
 have h1:x % y+y≤x:=by
  have:=Nat.mod_add_div x y
  have h2:y * 1≤y * (x / y):=Nat.mul_le_mul_left _ (Nat.div_pos h hy)
  omega
 have h2:=Nat.mod_lt x hy
 have h3:y * (2 * (x % y))≤y * x:=Nat.mul_le_mul_left _ (by omega)
 rw [Nat.le_div_iff_mul_le (by decide),Nat.mul_comm x y,Nat.mul_assoc,Nat.mul_comm (x % y) 2]
 exact h3
theorem Zm7 (N:Nat):∀ (n x y:Nat),y≤x→Z4 (x * y)<n→(Zf x).length+(Zf y).length+4<N→(Zf x).length+(Zf y).length≤35184372088000→Zay N n (Zf x) (Zf y)=some (Zf (Nat.gcd x y))
 | 0,x,y,_,h,_,_=>by omega
 | n+1,x,y,hxy,hn,hN,hs=>by
  rw [Zay.eq_2]
  by_cases h0:y=0
  ·subst h0
   rw [Wz,if_neg (by decide),Nat.gcd_zero_right]
  ·have hp:0<(Zf y).length:=List.length_pos_iff.2 (fun h=>h0 (Zdk.1 h))
   have hm:=Nat.mod_lt x (show 0<y by omega)
   have lm:(Zf (x % y)).length≤(Zf y).length:=Wu.2 (Nat.lt_trans hm (Wu.1 (Nat.le_refl _)))
   have ly:(Zf y).length≤(Zf x).length:=Wu.2 (Nat.lt_of_le_of_lt hxy (Wu.1 (Nat.le_refl _)))
   rw [if_pos (decide_eq_true (by omega)),Zi8 (Z8 _) (Z8 _) hN hs,Option.bind_some,Z3,Z3,if_neg h0]
   have hb:Z4 (y * (x % y))<n:=by
    have h1:=Z0o hxy (by omega)
    have h2:Z4 (y * (x % y))≤Z4 (x * y / 2 ^ 1):=Vn.2 (Nat.lt_of_le_of_lt (by rw [Nat.pow_one];exact h1) (Vn.1 (Nat.le_refl _)))
    rw [Zf0] at h2
    have h3:0<x * y:=Nat.mul_pos (by omega) (by omega)
    have h4:0<Z4 (x * y):=by
     rcases Nat.eq_zero_or_pos (Z4 (x * y)) with h | h
     ·have:=Vn.1 (show Z4 (x * y)≤0 by omega)
      omega
     ·exact h
    omega
   have:=Zm7 N n y (x % y) (Nat.le_of_lt hm) hb (by omega) (by omega)
   rw [this,Nat.gcd_comm x y,Nat.gcd_rec y x,Nat.gcd_comm]
theorem Zpm (x y:Nat):Z4 (x * y)≤Z4 x+Z4 y:=by
 refine Vn.2 ?_
 rw [Nat.pow_add]
 have h1:=Vn.1 (Nat.le_refl (Z4 x))
 have h2:=Vn.1 (Nat.le_refl (Z4 y))
 exact Nat.mul_lt_mul'' h1 h2
theorem Z0n {N:Nat} {a b:List Int} (ha:Zn a) (hb:Zn b) (hN:32 * (a.length+b.length)+8<N) (hs:a.length+b.length≤35184372088000):Zg2 N a b=some (Zf (Nat.gcd (Zb a) (Zb b))):=by
 have la:=Yv ha
 have lb:=Yv hb
 have ba:=(Ziu (Zb a)).2
 have bb:=(Ziu (Zb b)).2
 rw [Zg2,Tz ha (by omega) (by omega),Option.bind_some,Tz hb (by omega) (by omega),Option.bind_some]
 by_cases h:Zb b≤Zb a
 ·have:=Zpm (Zb a) (Zb b)
  exact Zm7 N N _ _ h (by omega) (by omega) (by omega)
 ·have h':Zb a<Zb b:=by omega
  have hm:=Zpm (Zb b) (Zb a)
  have hp:0<(Zf (Zb b)).length:=List.length_pos_iff.2 (fun h=>by have:=Zdk.1 h;omega)
  obtain ⟨N',rfl⟩:∃ N',N=N'+1:=⟨N - 1,by omega⟩
  rw [Zay.eq_2,if_pos (decide_eq_true (by omega)),Zi8 (Z8 _) (Z8 _) (by omega) (by omega),Option.bind_some,Z3,Z3,if_neg (by omega),Nat.mod_eq_of_lt h',
   Zm7 (N'+1) N' _ _ (by omega) (by omega) (by omega) (by omega),Nat.gcd_comm]
def Sw (N:Nat) (b:((Bool×List Int)×List Int)):Option (List Int):=
  (Zb6 N b.2).bind fun a=>if (decide (0<(a.length:Int)))=true then (some a) else ((Qq N 1).bind fun c=>some c)
theorem Zc9 {N d f:Nat} {g i:Option Addr} {col:Zd} {w0:World} {b:((Bool×List Int)×List Int)} {r:(List Int)} (c1:Nat) (hm:Sw N b=some r) (u:Sl (Za.int .u32) col w0 g d b.1.2) (c:Sl (Za.int .u32) col w0 i f b.2):
    Calls prog 103 #[(.agg #[.bool b.1.1,.slice g b.1.2.length d,.slice i b.2.length f])] w0 (fun e w'=>∃ (col':Zd) (ra1:Option Addr) (rc2:Nat),e= .returned ((.slice ra1 r.length rc2))∧Zg col w0 col' w'∧Zc (Za.int .u32) 200 c1 col' w' ra1 rc2 r):=by
 refine Z5 2 (m:=12) func103 O O O O O ?_;rw [Sw.eq_1] at hm;have a:=St.start col w0;refine go ?_;refine Yj (col:=(Zi col)) 1 O ?_;intro v w x j k;refine go ?_;refine Zz k ?_;obtain ⟨y,l,hm⟩:=bZ hm;replace c:=c.keep (Zl.start col w0);replace a:=a.grow j;refine Zh (Zmo 2 l (c.ks a)) ?_;rintro _ A ⟨n,B,C,rfl,o,p⟩;refine ⟨_,O,go ?_⟩;replace a:=a.grow o;refine Zm hm (fun hb hm=>go ?_) fun hb hm=>go ?_
 ·cases hm;exact ⟨O,_,_,_,O,a.fin (cm [(2,c1)]),a.fo p⟩
 obtain ⟨D,q,hm⟩:=bZ hm;refine Zh (Zf2 (col:=n) 3 q) ?_;rintro _ E ⟨F,G,H,rfl,s,t⟩;refine ⟨_,O,go ?_⟩;cases hm;replace a:=a.grow s;exact ⟨O,_,_,_,O,a.fin (cm [(3,c1)]),a.fo t⟩
def Zfe (a:Bool) (b:List Int):Option (Bool×List Int):=
  some (a,b)
def Sd (N:Nat) (b:Bool) (c:List Int):Option (Bool×List Int):=
  (Zb6 N c).bind fun a=>if b=true then (Zfe (decide (0<(a.length:Int))) a) else (Zfe false a)
theorem Zbk {N u:Nat} {a1:Option Addr} {col:Zd} {w0:World} {v:Bool} {k:(List Int)} {r:(Bool×List Int)} (c1:Nat) (hm:Sd N v k=some r) (h1:Sl (Za.int .u32) col w0 a1 u k):
    Calls prog 144 #[.bool v,.slice a1 k.length u] w0 (fun e w'=>∃ (col':Zd) (ra1:Option Addr) (rc2:Nat),e= .returned ((.agg #[.bool r.1,.slice ra1 r.2.length rc2]))∧Zg col w0 col' w'∧Zc (Za.int .u32) 200 c1 col' w' ra1 rc2 r.2):=by
 refine Wx (m:=16) func144 rfl rfl rfl ?_;rw [Sd.eq_1] at hm;have a:=St.start col w0;refine go ?_;refine Xz (col:=(Zi col)) #[.bool false,.slice none (([]:List Int).length) 0] 1 zeroValue122 ?_;intro C J K D c;refine go ?_;obtain ⟨d,E,hm⟩:=bZ hm;replace h1:=h1.keep (Zl.start col w0);replace a:=a.grow D;refine Zh (Zmo 2 E (h1.ks a)) ?_;rintro _ L ⟨M,w,x,rfl,y,b⟩;refine ⟨_,rfl,?_⟩;refine Zdf rfl<|Zj<|Zo ?_;replace c:=c.gr y;replace a:=a.grow y;refine Wp.cutK [4,1000000] (fun f g=>∃ i n o p j,Zfe n j=some r∧St w0 (Zi col) i g∧Zc (Za.int .u32) 200 3 i g o p j∧Ze 122 1 i g C #[.bool n,.slice o j.length p]) ?_ ?_
 ·intro f g F;obtain ⟨i,n,o,p,j,hm,a,G,c⟩:=F;rw [Zfe.eq_1] at hm;refine W0 ?_;cases hm;exact ⟨rfl,_,ra c.atN,_,_,_,rfl,a.fin (cm [(3,c1)]),a.fo G⟩
 refine go ?_;refine Z7 hm (fun q hm=>go ?_) fun q hm=>go ?_
 ·refine lV (.bool (decide (0<(d.length:Int)))) (Zx (congrArg Value.bool q) rfl)<|W2 rfl<|lV (.agg #[.bool (decide (0<(d.length:Int))),.slice w d.length x]) (Y6 (l:=[_,_]) (qs:=[(0,1),(1,1)]) underlying122 zeroValue122 ⟨rfl,sizeOf4,rfl,sizeOf120,trivial⟩ rfl)<|Xf c ?_;intro O A H s;refine Zj ?_;replace b:=b.kp A;replace b:=b.recolSelf 3 (by decide);replace s:=s.recol 2 3 (by decide);replace a:=a.kp A H;replace a:=a.recol 2 3 (by decide) (by decide);exact ⟨rfl,_,_,_,_,_,hm,a,b,s⟩
 refine lV (.bool false) (Z0 (congrArg Value.bool q) rfl)<|W2 rfl<|lV (.agg #[.bool false,.slice w d.length x]) (Y6 (l:=[_,_]) (qs:=[(0,1),(1,1)]) underlying122 zeroValue122 ⟨rfl,sizeOf4,rfl,sizeOf120,trivial⟩ rfl)<|Xf c ?_;intro P B I t;refine Zj ?_;replace b:=b.kp B;replace b:=b.recolSelf 3 (by decide);replace t:=t.recol 2 3 (by decide);replace a:=a.kp B I;replace a:=a.recol 2 3 (by decide) (by decide);exact ⟨rfl,_,_,_,_,_,hm,a,b,t⟩
def Zh2 (N:Nat) (a:(Bool×List Int)) (b:(Bool×List Int)):Option (Bool×List Int):=
  (Zb5 N a.2 b.2).bind fun d=>(Sd N (!decide (a.1=b.1)) d).bind fun c=>some (c.1,c.2)
theorem Zyx {N x y:Nat} {A B:Option Addr} {col:Zd} {w0:World} {j k r:(Bool×List Int)} (c1:Nat) (hm:Zh2 N j k=some r) (p:Sl (Za.int .u32) col w0 A x j.2) (s:Sl (Za.int .u32) col w0 B y k.2):
    Calls prog 123 #[(.agg #[.bool j.1,.slice A j.2.length x]),(.agg #[.bool k.1,.slice B k.2.length y])] w0 (fun e w'=>∃ (col':Zd) (ra1:Option Addr) (rc2:Nat),e= .returned ((.agg #[.bool r.1,.slice ra1 r.2.length rc2]))∧Zg col w0 col' w'∧Zc (Za.int .u32) 200 c1 col' w' ra1 rc2 r.2):=by
 refine Wx (m:=16) func123 rfl rfl rfl ?_;rw [Zh2.eq_1] at hm;have b:=St.start col w0;refine go ?_;refine Yj (col:=(Zi col)) 1 rfl ?_;intro M O E F l;refine Yj (col:=E) 2 rfl ?_;intro P Q G C n;refine Xz (col:=G) #[.bool false,.slice none (([]:List Int).length) 0] 3 zeroValue122 ?_;intro R S f t c;refine go ?_;refine Vl (col:=f) [(0,1),(1,0),(2,1),(3,0),(4,1),(5,1),(6,0),(7,1),(8,0),(9,3),(10,3),(11,2)] (by kernel_rfl) (by kernel_rfl)<|xF ⟨_,_,rfl⟩ ?_;replace l:=(l.gr C).gr t;refine xW (fun _ a=>((l.atN).nth (q:=0) rfl).gr (a.bl f)) ?_;refine xF ⟨_,_,rfl⟩ ?_;replace n:=n.gr t;refine xW (fun _ a=>((n.atN).nth (q:=0) rfl).gr (a.bl f)) ?_;refine xu rfl rfl (fun _=>Zoq _ _ underlying4 rfl rfl) ?_;refine xF ⟨_,_,rfl⟩ ?_;refine xW (fun _ a=>((l.atN).nth (q:=1) rfl).gr (a.bl f)) ?_;refine xF ⟨_,_,rfl⟩ ?_;refine xW (fun _ a=>((n.atN).nth (q:=1) rfl).gr (a.bl f)) ?_;refine xe rfl rfl ?_;intro T hC0;have a:=hC0.bl f;obtain ⟨U,H,hm⟩:=bZ hm;replace p:=p.keep (Zl.start col w0);replace s:=s.keep (Zl.start col w0);replace b:=(((b.grow F).grow C).grow t).grow a;refine Zh (Zpv 4 H (p.ks b) (s.ks b)) ?_;rintro _ V ⟨i,W,X,rfl,u,v⟩;refine ⟨_,rfl,?_⟩;refine Zj<|Ww i hC0 u<|xe rfl rfl ?_;intro I hC0;replace c:=(c.gr a).gr u;have a:=hC0.bl i;obtain ⟨Y,J,hm⟩:=bZ hm;replace v:=v.gr a;refine Zh (Zbk 5 J (v.toSlF (Zk.int .u32))) ?_;rintro _ Z ⟨K,aa,ab,rfl,g,d⟩;refine ⟨_,rfl,?_⟩;replace d:=d.thaw (Xs .u32) g ((Fz.refl (col:=i)).froz 4) (by decide);replace g:=g.thawR (col:=i);generalize Xn I.heap.size i K=o at *;refine Zj<|Ww o hC0 g<|xe rfl rfl ?_;intro ac hC0;replace b:=((b.grow u).grow a).grow g;replace c:=(c.gr a).gr g;have a:=hC0.bl o;replace c:=c.gr a;refine Xf c ?_;intro ad D L w;refine Zj<|xk o<|W6 ?_;replace d:=(d.gr a).kp D;replace b:=(b.grow a).kp D L;intro ae a;replace a:=a.bl o;refine W0 ?_;cases hm;replace d:=d.gr a;replace w:=w.gr a;replace b:=b.grow a;exact ⟨rfl,_,ra w.atN,_,_,_,rfl,b.fin (cm [(5,c1)]),b.fo d⟩
def Zar (N:Nat) (a:(Bool×List Int)) (c:List Int):Option (Bool×List Int):=
  (Zh2 N (a.1,a.2) (false,c)).bind fun b=>some (b.1,b.2)
theorem Zix {N k d:Nat} {n a1:Option Addr} {col:Zd} {w0:World} {b:(Bool×List Int)} {c:(List Int)} {r:(Bool×List Int)} (c1:Nat) (hm:Zar N b c=some r) (f:Sl (Za.int .u32) col w0 n k b.2) (h1:Sl (Za.int .u32) col w0 a1 d c):
    Calls prog 102 #[(.agg #[.bool b.1,.slice n b.2.length k]),.slice a1 c.length d] w0 (fun e w'=>∃ (col':Zd) (ra1:Option Addr) (rc2:Nat),e= .returned ((.agg #[.bool r.1,.slice ra1 r.2.length rc2]))∧Zg col w0 col' w'∧Zc (Za.int .u32) 200 c1 col' w' ra1 rc2 r.2):=by
 refine Wx (m:=9) func102 O O O ?_;rw [Zar.eq_1] at hm;have a:=St.start col w0;refine go ?_;refine Yj (col:=(Zi col)) 1 O ?_;intro x y s t g;refine Xz (col:=s) #[.bool false,.slice none (([]:List Int).length) 0] 2 zeroValue122 ?_;intro A B C o i;refine go ?_;replace g:=g.gr o;refine lV _ (Xx isAgg122 sizeOf122 g)<|W2 O<|lV (.agg #[.bool false,.slice a1 c.length d]) (Y6 (l:=[_,_]) (qs:=[(0,1),(1,1)]) underlying122 zeroValue122 ⟨O,sizeOf4,O,sizeOf120,trivial⟩ O) ?_;obtain ⟨D,u,hm⟩:=bZ hm;replace f:=f.keep (Zl.start col w0);replace h1:=h1.keep (Zl.start col w0);replace a:=(a.grow t).grow o;refine Zh (Zyx 3 u (f.ks a) (h1.ks a)) ?_;rintro _ E ⟨F,G,H,rfl,p,j⟩;refine ⟨_,O,?_⟩;replace i:=i.gr p;refine Xf i ?_;intro I q v w;refine go ?_;cases hm;replace a:=(a.grow p).kp q v;replace j:=j.kp q;exact ⟨O,_,ra w.atN,_,_,_,O,a.fin (cm [(3,c1)]),a.fo j⟩
def Zh0 (N:Nat) (a:(Bool×List Int)) (b:(Bool×List Int)):Option (Bool×List Int):=
  if (decide (a.1=b.1))=true then ((Zg0 N a.2 b.2).bind fun g=>(Sd N a.1 g).bind fun c=>some (c.1,c.2)) else ((Zen N a.2 b.2).bind fun d=>if d.2=true then ((Sd N a.1 d.1).bind fun e=>some (e.1,e.2)) else ((Zen N b.2 a.2).bind fun i=>(Sd N b.1 i.1).bind fun f=>some (f.1,f.2)))
theorem Zyv {N I J:Nat} {K L:Option Addr} {col:Zd} {w0:World} {u v r:(Bool×List Int)} (c1:Nat) (hm:Zh0 N u v=some r) (j:Sl (Za.int .u32) col w0 K I u.2) (k:Sl (Za.int .u32) col w0 L J v.2):
    Calls prog 126 #[(.agg #[.bool u.1,.slice K u.2.length I]),(.agg #[.bool v.1,.slice L v.2.length J])] w0 (fun e w'=>∃ (col':Zd) (ra1:Option Addr) (rc2:Nat),e= .returned ((.agg #[.bool r.1,.slice ra1 r.2.length rc2]))∧Zg col w0 col' w'∧Zc (Za.int .u32) 200 c1 col' w' ra1 rc2 r.2):=by
 refine Wx (m:=47) func126 rfl rfl rfl ?_;rw [Zh0.eq_1] at hm;have a:=St.start col w0;refine go ?_;refine Yj (col:=(Zi col)) 1 rfl ?_;intro ar au V W f;refine Yj (col:=V) 2 rfl ?_;intro av aw X M d;refine Xz (col:=X) #[.bool false,.slice none (([]:List Int).length) 0] 3 zeroValue122 ?_;intro ax ay l B c;refine go ?_;refine Zv ⟨_,_,rfl⟩ ?_;replace f:=(f.gr M).gr B;refine lW ((f.atN).nth (q:=0) rfl)<|Zv ⟨_,_,rfl⟩ ?_;replace d:=d.gr B;refine lW ((d.atN).nth (q:=0) rfl)<|go ?_;replace j:=j.keep (Zl.start col w0);replace k:=k.keep (Zl.start col w0);replace a:=((a.grow W).grow M).grow B;refine Zm hm (fun hb hm=>?_) fun hb hm=>go ?_
 ·refine Zo<|Vl (col:=l) [(0,1),(1,0),(2,1),(3,0),(4,1),(5,0),(6,3),(7,3),(8,2)] (by kernel_rfl) (by kernel_rfl)<|xF ⟨_,_,rfl⟩ ?_;refine xW (fun _ b=>((f.atN).nth (q:=0) rfl).gr (b.bl l)) ?_;refine xF ⟨_,_,rfl⟩ ?_;refine xW (fun _ b=>((f.atN).nth (q:=1) rfl).gr (b.bl l)) ?_;refine xF ⟨_,_,rfl⟩ ?_;refine xW (fun _ b=>((d.atN).nth (q:=1) rfl).gr (b.bl l)) ?_;refine xe rfl rfl ?_;intro az hC0;have b:=hC0.bl l;obtain ⟨a0,Y,hm⟩:=bZ hm;replace a:=a.grow b;refine Zh (Zxw 4 Y (j.ks a) (k.ks a)) ?_;rintro _ a1 ⟨n,a2,a3,rfl,C,D⟩;refine ⟨_,rfl,?_⟩;refine Zj<|Ww n hC0 C<|xe rfl rfl ?_;intro Z hC0;replace c:=(c.gr b).gr C;have b:=hC0.bl n;obtain ⟨a4,aa,hm⟩:=bZ hm;replace D:=D.gr b;refine Zh (Zbk 5 aa (D.toSlF (Zk.int .u32))) ?_;rintro _ a5 ⟨ab,a6,a7,rfl,i,g⟩;refine ⟨_,rfl,?_⟩;replace g:=g.thaw (Xs .u32) i ((Fz.refl (col:=n)).froz 4) (by decide);replace i:=i.thawR (col:=n);generalize Xn Z.heap.size n ab=w at *;refine Zj<|Ww w hC0 i<|xe rfl rfl ?_;intro a8 hC0;replace a:=((a.grow C).grow b).grow i;replace c:=(c.gr b).gr i;have b:=hC0.bl w;replace c:=c.gr b;refine Xf c ?_;intro a9 O ac E;refine Zj<|xk w<|W6 ?_;replace g:=(g.gr b).kp O;replace a:=(a.grow b).kp O ac;intro ba b;replace b:=b.bl w;refine W0 ?_;cases hm;replace g:=g.gr b;replace E:=E.gr b;replace a:=a.grow b;exact ⟨rfl,_,ra E.atN,_,_,_,rfl,a.fin (cm [(5,c1)]),a.fo g⟩
 refine Zz f<|Zz d ?_;obtain ⟨x,ad,hm⟩:=bZ hm;refine Zh (Zpw 6 ad (j.ks a) (k.ks a)) ?_;rintro _ ae ⟨F,P,Q,rfl,y,af⟩;refine ⟨_,rfl,?_⟩;refine lM (.tuple #[.slice P x.1.length Q,.bool x.2])<|lV (.slice P x.1.length Q) (Xl rfl rfl)<|lV (.bool x.2) (Xl rfl rfl)<|go ?_;replace f:=f.gr y;replace d:=d.gr y;replace c:=c.gr y;replace a:=a.grow y;refine Zm hm (fun hb hm=>go ?_) fun hb hm=>go ?_
 ·refine Zz f<|W2 rfl ?_;obtain ⟨bb,ag,hm⟩:=bZ hm;refine Zh (Zbk 7 ag (af.toSlF (Zk.int .u32))) ?_;rintro _ bc ⟨ah,bd,be,rfl,o,p⟩;refine ⟨_,rfl,?_⟩;replace p:=p.thaw (Xs .u32) o ((Fz.refl (col:=F)).froz 6) (by decide);replace o:=o.thawR (col:=F);generalize Xn ae.heap.size F ah=bf at *;replace c:=c.gr o;refine Xf c ?_;intro bg R ai aj;refine go ?_;cases hm;replace a:=(a.grow o).kp R ai;replace p:=p.kp R;exact ⟨rfl,_,ra aj.atN,_,_,_,rfl,a.fin (cm [(7,c1)]),a.fo p⟩
 refine Zz d<|Zz f ?_;obtain ⟨A,ak,hm⟩:=bZ hm;refine Zh (Zpw 8 ak (k.ks a) (j.ks a)) ?_;rintro _ al ⟨G,S,T,rfl,H,am⟩;refine ⟨_,rfl,?_⟩;refine lM (.tuple #[.slice S A.1.length T,.bool A.2])<|lV (.slice S A.1.length T) (Xl rfl rfl)<|lV (.bool A.2) (Xl rfl rfl)<|go ?_;refine Zv ⟨_,_,rfl⟩ ?_;replace d:=d.gr H;refine lW ((d.atN).nth (q:=0) rfl)<|W2 rfl ?_;obtain ⟨bh,an,hm⟩:=bZ hm;refine Zh (Zbk 9 an (am.toSlF (Zk.int .u32))) ?_;rintro _ bi ⟨ao,bj,bk,rfl,s,t⟩;refine ⟨_,rfl,?_⟩;replace t:=t.thaw (Xs .u32) s ((Fz.refl (col:=G)).froz 8) (by decide);replace s:=s.thawR (col:=G);generalize Xn al.heap.size G ao=bm at *;replace c:=(c.gr H).gr s;refine Xf c ?_;intro bn U ap aq;refine go ?_;cases hm;replace a:=((a.grow H).grow s).kp U ap;replace t:=t.kp U;exact ⟨rfl,_,ra aq.atN,_,_,_,rfl,a.fin (cm [(9,c1)]),a.fo t⟩
def Zh3 (N:Nat) (a:(Bool×List Int)):Option (Bool×List Int):=
  (Sd N a.1 a.2).bind fun b=>some (b.1,b.2)
theorem Zyy {N i:Nat} {j:Option Addr} {col:Zd} {w0:World} {b r:(Bool×List Int)} (c1:Nat) (hm:Zh3 N b=some r) (d:Sl (Za.int .u32) col w0 j i b.2):
    Calls prog 149 #[(.agg #[.bool b.1,.slice j b.2.length i])] w0 (fun e w'=>∃ (col':Zd) (ra1:Option Addr) (rc2:Nat),e= .returned ((.agg #[.bool r.1,.slice ra1 r.2.length rc2]))∧Zg col w0 col' w'∧Zc (Za.int .u32) 200 c1 col' w' ra1 rc2 r.2):=by
 refine Wx (m:=8) func149 O O O ?_;rw [Zh3.eq_1] at hm;have a:=St.start col w0;refine go ?_;refine Yj (col:=(Zi col)) 1 O ?_;intro v w o p c;refine Xz (col:=o) #[.bool false,.slice none (([]:List Int).length) 0] 2 zeroValue122 ?_;intro x y A k f;refine go ?_;refine Zv ⟨_,_,O⟩ ?_;replace c:=c.gr k;refine lW ((c.atN).nth (q:=0) O)<|Zz c ?_;obtain ⟨B,s,hm⟩:=bZ hm;replace d:=d.keep (Zl.start col w0);replace a:=(a.grow p).grow k;refine Zh (Zbk 3 s (d.ks a)) ?_;rintro _ C ⟨D,E,F,rfl,l,g⟩;refine ⟨_,O,?_⟩;replace f:=f.gr l;refine Xf f ?_;intro G n t u;refine go ?_;cases hm;replace a:=(a.grow l).kp n t;replace g:=g.kp n;exact ⟨O,_,ra u.atN,_,_,_,O,a.fin (cm [(3,c1)]),a.fo g⟩
def Zdw (N:Nat) (e:Bool) (a:List Int) (b:List Int):Option ((Bool×List Int)×List Int):=
  (Zg2 N a b).bind fun c=>(Zb3 N a c).bind fun f=>(Zb3 N b c).bind fun g=>(Zh3 N (e,f.1)).bind fun d=>some ((d.1,d.2),g.1)
theorem Zpr {N C D:Nat} {a1 a2:Option Addr} {col:Zd} {w0:World} {o:Bool} {p q:(List Int)} {r:((Bool×List Int)×List Int)} (c1 c2:Nat) (hm:Zdw N o p q=some r) (h1:Sl (Za.int .u32) col w0 a1 C p) (h2:Sl (Za.int .u32) col w0 a2 D q):
    Calls prog 127 #[.bool o,.slice a1 p.length C,.slice a2 q.length D] w0 (fun e w'=>∃ (col':Zd) (ra1:Option Addr) (rc2:Nat) (ra4:Option Addr) (rc5:Nat),e= .returned ((.agg #[.bool r.1.1,.slice ra1 r.1.2.length rc2,.slice ra4 r.2.length rc5]))∧Zg col w0 col' w'∧Zc (Za.int .u32) 200 c1 col' w' ra1 rc2 r.1.2∧Zc (Za.int .u32) 200 c2 col' w' ra4 rc5 r.2):=by
 refine Wx (m:=37) func127 rfl rfl rfl ?_;rw [Zdw.eq_1] at hm;have a:=St.start col w0;refine go ?_;refine Xz (col:=(Zi col)) #[.bool false,.slice none (([]:List Int).length) 0,.slice none (([]:List Int).length) 0] 1 zeroValue124 ?_;intro aa ab ac K s;refine go ?_;obtain ⟨ad,L,hm⟩:=bZ hm;replace h1:=h1.keep (Zl.start col w0);replace h2:=h2.keep (Zl.start col w0);replace a:=a.grow K;refine Zh (Zxy 2 L (h1.ks a) (h2.ks a)) ?_;rintro _ M ⟨t,ae,af,rfl,E,n⟩;refine ⟨_,rfl,go ?_⟩;obtain ⟨b,O,hm⟩:=bZ hm;replace a:=a.grow E;refine Zh (Zmn 3 4 O ((h1.ks a).froz 2) (n.toSlF (Zk.int .u32))) ?_;rintro _ P ⟨Q,u,v,F,G,rfl,d,i,ag⟩;refine ⟨_,rfl,?_⟩;replace i:=i.thaw (Xs .u32) d ((Fz.refl (col:=t)).froz 2) (by decide);replace d:=d.thawR (col:=t);generalize Xn M.heap.size t Q=w at *;refine lM (.tuple #[.slice u b.1.length v,.slice F b.2.1.length G,.int .i64 b.2.2])<|lV (.slice u b.1.length v) (Xl rfl rfl)<|lV (.slice F b.2.1.length G) (Xl rfl rfl)<|lV (.int .i64 b.2.2) (Xl rfl rfl)<|go ?_;obtain ⟨c,R,hm⟩:=bZ hm;replace n:=n.gr d;replace a:=a.grow d;refine Zh (Zmn 5 6 R ((h2.ks a).froz 2) (n.toSlF (Zk.int .u32))) ?_;rintro _ S ⟨T,x,y,H,I,rfl,f,j,ah⟩;refine ⟨_,rfl,?_⟩;replace j:=j.thaw (Xs .u32) f ((Fz.refl (col:=w)).froz 2) (by decide);replace f:=f.thawR (col:=w);generalize Xn P.heap.size w T=A at *;refine lM (.tuple #[.slice x c.1.length y,.slice H c.2.1.length I,.int .i64 c.2.2])<|lV (.slice x c.1.length y) (Xl rfl rfl)<|lV (.slice H c.2.1.length I) (Xl rfl rfl)<|lV (.int .i64 c.2.2) (Xl rfl rfl)<|go ?_;refine lV (.agg #[.bool o,.slice u b.1.length v]) (Y6 (l:=[_,_]) (qs:=[(0,1),(1,1)]) underlying122 zeroValue122 ⟨rfl,sizeOf4,rfl,sizeOf120,trivial⟩ rfl) ?_;obtain ⟨J,U,hm⟩:=bZ hm;replace i:=i.gr f;refine Zh (Zyy 7 U (i.toSlF (Zk.int .u32))) ?_;rintro _ ai ⟨V,W,X,rfl,g,k⟩;refine ⟨_,rfl,?_⟩;replace k:=k.thaw (Xs .u32) g ((Fz.refl (col:=A)).froz 3) (by decide);replace g:=g.thawR (col:=A);generalize Xn S.heap.size A V=aj at *
 refine W2 rfl<|lV (.agg #[.bool J.1,.slice W J.2.length X,.slice x c.1.length y]) (Y6 (l:=[_,_]) (qs:=[(0,2),(2,1)]) underlying124 zeroValue124 ⟨rfl,sizeOf122,rfl,sizeOf120,trivial⟩ rfl) ?_;replace s:=(((s.gr E).gr d).gr f).gr g;refine Xf s ?_;intro ak B Y Z;refine go ?_;cases hm;replace a:=((a.grow f).grow g).kp B Y;replace j:=(j.gr g).kp B;replace k:=k.kp B;exact ⟨rfl,_,ra Z.atN,_,_,_,_,_,rfl,a.fin (cm [(7,c1),(5,c2)]),a.fo k,a.fo j⟩
def Zge (N:Nat) (a:((Bool×List Int)×List Int)) (b:((Bool×List Int)×List Int)):Option ((Bool×List Int)×List Int):=
  (Sw N ((b.1.1,b.1.2),b.2)).bind fun g=>(Zar N (a.1.1,a.1.2) g).bind fun d=>(Sw N ((a.1.1,a.1.2),a.2)).bind fun i=>(Zar N (b.1.1,b.1.2) i).bind fun e=>(Zh0 N (d.1,d.2) (e.1,e.2)).bind fun f=>(Sw N ((a.1.1,a.1.2),a.2)).bind fun j=>(Sw N ((b.1.1,b.1.2),b.2)).bind fun k=>(Zb5 N j k).bind fun l=>(Zdw N f.1 f.2 l).bind fun c=>some ((c.1.1,c.1.2),c.2)
theorem Zw5 {N ag aq ah ar:Nat} {ai au aj av:Option Addr} {col:Zd} {w0:World} {p s r:((Bool×List Int)×List Int)} (c1 c2:Nat) (hm:Zge N p s=some r) (T:Sl (Za.int .u32) col w0 ai ag p.1.2) (ak:Sl (Za.int .u32) col w0 au aq p.2) (U:Sl (Za.int .u32) col w0 aj ah s.1.2) (al:Sl (Za.int .u32) col w0 av ar s.2):
    Calls prog 106 #[(.agg #[.bool p.1.1,.slice ai p.1.2.length ag,.slice au p.2.length aq]),(.agg #[.bool s.1.1,.slice aj s.1.2.length ah,.slice av s.2.length ar])] w0 (fun e w'=>∃ (col':Zd) (ra1:Option Addr) (rc2:Nat) (ra4:Option Addr) (rc5:Nat),e= .returned ((.agg #[.bool r.1.1,.slice ra1 r.1.2.length rc2,.slice ra4 r.2.length rc5]))∧Zg col w0 col' w'∧Zc (Za.int .u32) 200 c1 col' w' ra1 rc2 r.1.2∧Zc (Za.int .u32) 200 c2 col' w' ra4 rc5 r.2):=by
 refine Wx (m:=27) func106 rfl rfl rfl ?_;rw [Zge.eq_1] at hm;have c:=St.start col w0;refine go ?_;refine Yj (col:=(Zi col)) 1 rfl ?_;intro a6 b1 a7 a8 j;refine Yj (col:=a7) 2 rfl ?_;intro a9 b2 ba a3 k;refine Xz (col:=ba) #[.bool false,.slice none (([]:List Int).length) 0,.slice none (([]:List Int).length) 0] 3 zeroValue124 ?_;intro b3 M G aw d;refine go ?_;have am:=Zs.clip (fun _=>false) G M;refine Z3x (col:=G) [(0,1),(1,0),(2,0),(5,1),(6,0),(7,0),(3,3),(4,3),(8,3),(9,3),(10,3),(11,4),(12,2)] (by kernel_rfl) (by kernel_rfl) ⟨fun h=>absurd h (by decide),fun h=>absurd h (by decide),fun h=>absurd h (by decide),fun h=>absurd h (by decide),fun h=>absurd h (by decide),fun h=>absurd h (by decide),fun h=>absurd h (by decide),fun h=>absurd h (by decide),fun h=>absurd h (by decide),fun h=>absurd h (by decide),fun h=>absurd h (by decide),fun _=>⟨_,_,_,rfl,Zq8 zeroValue122⟩,fun h=>absurd h (by decide),trivial⟩<|xuF (v:=(.pointer ((some (⟨a6,0,none⟩:Addr)).map (·.add 0)))) rfl rfl (fun _=>Uy (sz:=2) (off:=0) underlying124 rfl sizeOf122 (by decide) rfl rfl ⟨_,_,rfl⟩) ?_;replace j:=((j.gr a3).gr aw).kpp am;refine Zl5 (v:=(.agg #[.bool p.1.1,.slice ai p.1.2.length ag])) rfl rfl (fun _ a=>W9 isAgg122 sizeOf122 rfl rfl (((j.atN).part 0 2 _ rfl).gr (a.bl (Xb M G)))) ?_;replace k:=(k.gr aw).kpp am;refine Zl5 (v:=(.agg #[.bool s.1.1,.slice aj s.1.2.length ah,.slice av s.2.length ar])) rfl rfl (fun _ a=>W9 isAgg124 sizeOf124 rfl rfl (k.atN.gr (a.bl (Xb M G)))) ?_;refine xuF (v:=(.pointer ((some (⟨a9,0,none⟩:Addr)).map (·.add 0)))) rfl rfl (fun _=>Uy (sz:=2) (off:=0) underlying124 rfl sizeOf122 (by decide) rfl rfl ⟨_,_,rfl⟩) ?_;refine Zl5 (v:=(.agg #[.bool s.1.1,.slice aj s.1.2.length ah])) rfl rfl (fun _ a=>W9 isAgg122 sizeOf122 rfl rfl (((k.atN).part 0 2 _ rfl).gr (a.bl (Xb M G)))) ?_;refine Zl5 (v:=(.agg #[.bool p.1.1,.slice ai p.1.2.length ag,.slice au p.2.length aq])) rfl rfl (fun _ a=>W9 isAgg124 sizeOf124 rfl rfl (j.atN.gr (a.bl (Xb M G)))) ?_;refine Zfn rfl rfl ?_;intro b4 hC0;have a:=hC0.bl (Xb M G);obtain ⟨b5,bb,hm⟩:=bZ hm;replace U:=U.keep (Zl.start col w0);replace al:=al.keep (Zl.start col w0);replace c:=((((c.grow a8).grow a3).grow aw).kpp am).grow a;refine Zh (Zc9 4 bb (U.ks c) (al.ks c)) ?_;rintro _ x ⟨C,b6,b7,rfl,H,ax⟩
 refine ⟨_,rfl,?_⟩;refine Zj ?_;refine ⟨fun w'=>Zg (Xb x C) x (Xb x C) w',fun g=>(Xb x C) g=497,Zg.refl _ _,Zbo,fun _=>⟨fun _ h=>Zaf hC0 H h,fun b hb=>H.below.block b hb,fun g x1 x2=>Zf7 H g x1 (by first | exact x2 | (simp only [Yi,x2];rfl) | (simp only [Yi,Xh,x2];rfl))⟩,?_⟩;have V:=Zs.clip (fun _=>false) C x;refine Zfn rfl rfl ?_;intro bc hC0;replace d:=(((d.kpp am).gr a).gr H).kpp V;replace j:=((j.gr a).gr H).kpp V;replace k:=((k.gr a).gr H).kpp V;have a:=hC0.bl (Xb x C);obtain ⟨b8,bd,hm⟩:=bZ hm;replace T:=T.keep (Zl.start col w0);replace c:=((c.grow H).kpp V).grow a;replace ax:=(ax.kpp V).gr a;refine Zh (Zix 5 bd ((T.ks c).froz 4) (ax.toSlF (Zk.int .u32))) ?_;rintro _ O ⟨be,b9,ca,rfl,u,y⟩;refine ⟨_,rfl,?_⟩;replace ak:=ak.keep (Zl.start col w0);replace y:=y.thaw (Xs .u32) u ((Fz.refl (col:=(Xb x C))).froz 4) (by decide);replace u:=u.thawR (col:=(Xb x C));generalize Xn bc.heap.size (Xb x C) be=W at *;refine Zj ?_;refine ⟨fun w'=>Zg (Xb O W) O (Xb O W) w',fun g=>(Xb O W) g=497,Zg.refl _ _,Zbo,fun _=>⟨fun _ h=>Zaf hC0 u h,fun b hb=>u.below.block b hb,fun g x1 x2=>Zf7 u g x1 (by first | exact x2 | (simp only [Yi,x2];rfl) | (simp only [Yi,Xh,x2];rfl))⟩,?_⟩;have X:=Zs.clip (fun _=>false) W O;refine Zfn rfl rfl ?_;intro cb hC0;replace j:=((j.gr a).gr u).kpp X;replace k:=((k.gr a).gr u).kpp X;replace d:=((d.gr a).gr u).kpp X;have a:=hC0.bl (Xb O W);obtain ⟨cc,bf,hm⟩:=bZ hm;replace c:=((c.grow u).kpp X).grow a;refine Zh (Zc9 6 bf (T.ks c) (ak.ks c)) ?_;rintro _ A ⟨D,cd,ce,rfl,E,ay⟩;refine ⟨_,rfl,?_⟩;refine Zj ?_;refine ⟨fun w'=>Zg (Xb A D) A (Xb A D) w',fun g=>(Xb A D) g=497,Zg.refl _ _,Zbo,fun _=>⟨fun _ h=>Zaf hC0 E h,fun b hb=>E.below.block b hb,fun g x1 x2=>Zf7 E g x1 (by first | exact x2 | (simp only [Yi,x2];rfl) | (simp only [Yi,Xh,x2];rfl))⟩,?_⟩;have P:=Zs.clip (fun _=>false) D A;refine Zfn rfl rfl ?_;intro bg hC0;replace y:=(((y.kpp X).gr a).gr E).kpp P;replace j:=((j.gr a).gr E).kpp P;replace k:=((k.gr a).gr E).kpp P;replace d:=((d.gr a).gr E).kpp P
 have a:=hC0.bl (Xb A D);obtain ⟨cf,bh,hm⟩:=bZ hm;replace c:=((c.grow E).kpp P).grow a;replace ay:=(ay.kpp P).gr a;refine Zh (Zix 7 bh ((U.ks c).froz 6) (ay.toSlF (Zk.int .u32))) ?_;rintro _ B ⟨bi,cg,ch,rfl,t,Y⟩;refine ⟨_,rfl,?_⟩;replace Y:=Y.thaw (Xs .u32) t ((Fz.refl (col:=(Xb A D))).froz 6) (by decide);replace t:=t.thawR (col:=(Xb A D));generalize Xn bg.heap.size (Xb A D) bi=F at *;refine Zj ?_;refine ⟨fun w'=>Zg (Xb B F) B (Xb B F) w',fun g=>(Xb B F) g=497,Zg.refl _ _,Zbo,fun _=>⟨fun _ h=>Zaf hC0 t h,fun b hb=>t.below.block b hb,fun g x1 x2=>Zf7 t g x1 (by first | exact x2 | (simp only [Yi,x2];rfl) | (simp only [Yi,Xh,x2];rfl))⟩,?_⟩;have Q:=Zs.clip (fun _=>false) F B;refine Zfn rfl rfl ?_;intro bj hC0;replace y:=((y.gr a).gr t).kpp Q;replace j:=((j.gr a).gr t).kpp Q;replace k:=((k.gr a).gr t).kpp Q;replace d:=((d.gr a).gr t).kpp Q;have a:=hC0.bl (Xb B F);obtain ⟨ci,bk,hm⟩:=bZ hm;replace Y:=(Y.kpp Q).gr a;replace y:=y.gr a;refine Zh (Zyv 8 bk ((y.toSlF (Zk.int .u32)).froz 7) ((Y.froz 5 (by decide)).toSlF (Zk.int .u32))) ?_;rintro _ f ⟨bm,cj,ck,rfl,w,l⟩;refine ⟨_,rfl,?_⟩;replace l:=l.thaw (Xs .u32) w (((Fz.refl (col:=(Xb B F))).froz 5).froz 7) (by decide);replace w:=w.thawR (col:=(Xb B F));generalize Xn bj.heap.size (Xb B F) bm=i at *;refine Zj ?_;refine ⟨fun w'=>Zg (Xb f i) f (Xb f i) w',fun g=>(Xb f i) g=497,Zg.refl _ _,Zbo,fun _=>⟨fun _ h=>Zaf hC0 w h,fun b hb=>w.below.block b hb,fun g x1 x2=>Zf7 w g x1 (by first | exact x2 | (simp only [Yi,x2];rfl) | (simp only [Yi,Xh,x2];rfl))⟩,?_⟩;have Z:=Zs.clip (fun _=>false) i f;refine xaF rfl rfl (Zq8 zeroValue122) ?_;intro n bn;refine Zfn rfl rfl ?_;intro bo ⟨hC0,hZ0⟩;replace c:=((((c.grow t).kpp Q).grow a).grow w).kpp Z;replace j:=((j.gr a).gr w).kpp Z;replace k:=((k.gr a).gr w).kpp Z;replace d:=((d.gr a).gr w).kpp Z;have a:=hC0.bl (Xb f i);obtain ⟨aa,az⟩:=Zwv (col:=(Xb f i)) 9 hZ0 bn
 replace az:Ze 122 9 (Uf n 9 (Xb f i)) bo n #[.bool false,.slice none (([]:List Int).length) 0]:=az;refine Xf az ?_;intro o ab bp an;refine Zj ?_;refine ⟨fun w'=>Zg (Xb o (Uf n 9 (Xb f i))) o (Xb o (Uf n 9 (Xb f i))) w',fun g=>(Xb o (Uf n 9 (Xb f i))) g=497,Zg.refl _ _,Zbo,fun h=>absurd h (by decide),?_⟩;have R:=Zs.clip (fun _=>false) (Uf n 9 (Xb f i)) o;refine Z33 ?_;replace l:=((((l.kpp Z).gr a).kpp aa).kp ab).kpp R;replace j:=(((j.gr a).kpp aa).kp ab).kpp R;replace k:=(((k.gr a).kpp aa).kp ab).kpp R;replace d:=(((d.gr a).kpp aa).kp ab).kpp R;replace c:=(((c.grow a).kpp aa).kp ab bp).kpp R;intro a4 a;replace a:Zg (Xb o (Uf n 9 (Xb f i))) o (Xb o (Uf n 9 (Xb f i))) a4:=.of_below a.below;refine Zo<|Vl (col:=(Xb o (Uf n 9 (Xb f i)))) [(0,1),(1,0),(2,1),(3,0),(4,0),(6,0),(5,3),(7,3),(8,3),(9,3),(10,2)] (by kernel_rfl) (by kernel_rfl)<|xF ⟨_,_,rfl⟩ ?_;replace an:=(an.kpp R).gr a;refine xW (fun _ a=>((an.atN).nth (q:=0) rfl).gr (a.bl (Xb o (Uf n 9 (Xb f i))))) ?_;refine xF ⟨_,_,rfl⟩ ?_;refine xW (fun _ a=>((an.atN).nth (q:=1) rfl).gr (a.bl (Xb o (Uf n 9 (Xb f i))))) ?_;replace j:=j.gr a;refine xv rfl rfl (fun _ a=>Xx isAgg124 sizeOf124 (j.gr (a.bl (Xb o (Uf n 9 (Xb f i)))))) ?_;replace k:=k.gr a;refine xv rfl rfl (fun _ a=>Xx isAgg124 sizeOf124 (k.gr (a.bl (Xb o (Uf n 9 (Xb f i)))))) ?_;refine xe rfl rfl ?_;intro bq hC0;replace l:=l.gr a;replace d:=d.gr a;replace c:=c.grow a;have a:Zg (Xb o (Uf n 9 (Xb f i))) a4 (Xb o (Uf n 9 (Xb f i))) bq:=.of_below hC0.below;obtain ⟨cl,br,hm⟩:=bZ hm;replace c:=c.grow a;refine Zh (Zc9 10 br (T.ks c) (ak.ks c)) ?_;rintro _ cn ⟨a5,co,cp,rfl,ao,ac⟩;refine ⟨_,rfl,?_⟩;refine Zj<|Ww a5 hC0 ao<|xe rfl rfl ?_;intro cq hC0;replace l:=(l.gr a).gr ao;replace d:=(d.gr a).gr ao;have a:=hC0.bl a5;obtain ⟨cr,bs,hm⟩:=bZ hm;replace c:=(c.grow ao).grow a;refine Zh (Zc9 11 bs (U.ks c) (al.ks c)) ?_;rintro _ cs ⟨ad,ct,cu,rfl,ae,a0⟩;refine ⟨_,rfl,?_⟩;refine Zj<|Ww ad hC0 ae<|xe rfl rfl ?_
 intro bt hC0;replace l:=(l.gr a).gr ae;replace ac:=(ac.gr a).gr ae;replace d:=(d.gr a).gr ae;have a:=hC0.bl ad;obtain ⟨cv,bu,hm⟩:=bZ hm;replace ac:=ac.gr a;replace a0:=a0.gr a;refine Zh (Zpv 12 bu ((ac.toSlF (Zk.int .u32)).froz 11) ((a0.froz 10 (by decide)).toSlF (Zk.int .u32))) ?_;rintro _ cw ⟨bv,cx,cy,rfl,I,af⟩;refine ⟨_,rfl,?_⟩;replace af:=af.thaw (Xs .u32) I (((Fz.refl (col:=ad)).froz 10).froz 11) (by decide);replace I:=I.thawR (col:=ad);generalize Xn bt.heap.size ad bv=S at *;refine Zj<|Ww S hC0 I<|xe rfl rfl ?_;intro bw hC0;replace c:=((c.grow ae).grow a).grow I;replace l:=(l.gr a).gr I;replace d:=(d.gr a).gr I;have a:=hC0.bl S;obtain ⟨cz,bx,hm⟩:=bZ hm;replace l:=l.gr a;replace af:=af.gr a;refine Zh (Zpr 13 14 bx ((l.toSlF (Zk.int .u32)).froz 12) ((af.froz 8 (by decide)).toSlF (Zk.int .u32))) ?_;rintro _ c0 ⟨bz,c3,c4,c5,c6,rfl,J,K,L⟩;refine ⟨_,rfl,?_⟩;replace K:=K.thaw (Xs .u32) J (((Fz.refl (col:=S)).froz 8).froz 12) (by decide);replace L:=L.thaw (Xs .u32) J (((Fz.refl (col:=S)).froz 8).froz 12) (by decide);replace J:=J.thawR (col:=S);generalize Xn bw.heap.size S bz=ap at *;refine Zj<|Ww ap hC0 J<|xe rfl rfl ?_;intro c7 hC0;replace d:=(d.gr a).gr J;replace c:=(c.grow a).grow J;have a:=hC0.bl ap;replace d:=d.gr a;refine Xf d ?_;intro c8 a1 b0 a2;refine Zj<|xk ap<|W6 ?_;replace K:=(K.gr a).kp a1;replace L:=(L.gr a).kp a1;replace c:=(c.grow a).kp a1 b0;intro c9 a;replace a:=a.bl ap;refine W0 ?_;cases hm;replace K:=K.gr a;replace L:=L.gr a;replace a2:=a2.gr a;replace c:=c.grow a;exact ⟨rfl,_,ra a2.atN,_,_,_,_,_,rfl,c.fin (cm [(13,c1),(14,c2)]),c.fo K,c.fo L⟩
def Za7 (N:Nat) (a:(Bool×List Int)):Option Int:=
  (Zg1 N a.2).bind fun b=>if (decide (b=0))=true then (some 0) else (if a.1=true then (some (-1)) else (some 1))
theorem Zi5 {N g:Nat} {i:Option Addr} {col:Zd} {w0:World} {b:(Bool×List Int)} {r:Int} (hm:Za7 N b=some r) (f:Sl (Za.int .u32) col w0 i g b.2):
    Calls prog 100 #[(.agg #[.bool b.1,.slice i b.2.length g])] w0 (fun e w'=>e= .returned ((.int .i64 r))∧Below w0.heap.size w0 w'):=by
 refine Z5 2 (m:=11) func100 O O O O O ?_;rw [Za7.eq_1] at hm;have a:=St.start col w0;refine go ?_;refine Yj (col:=(Zi col)) 1 O ?_;intro p k j l c;refine go ?_;refine Zz c ?_;obtain ⟨q,n,hm⟩:=bZ hm;replace f:=f.keep (Zl.start col w0);replace a:=a.grow l;refine Zh (Zxx n (f.ks a)) ?_;rintro _ o ⟨rfl,d⟩;refine ⟨_,O,?_⟩;replace d:Zg j k j o:=.of_below d;refine go ?_;replace c:=c.gr d;replace a:=a.grow d;refine Zm hm (fun hb hm=>go ?_) fun hb hm=>go ?_
 ·cases hm;exact ⟨O,O,a.below⟩
 refine Zz c ?_;refine go ?_;refine Zm hm (fun hb hm=>go ?_) fun hb hm=>go ?_
 ·cases hm;exact ⟨O,O,a.below⟩
 cases hm;exact ⟨O,O,a.below⟩
def Zh1 (N:Nat) (a:(Bool×List Int)) (b:(Bool×List Int)):Option Int:=
  (Za7 N (a.1,a.2)).bind fun c=>(Za7 N (b.1,b.2)).bind fun d=>if (decide (c<d))=true then (some (-1)) else (if (decide (d<c))=true then (some 1) else ((Zb1 N a.2 b.2).bind fun e=>some (i64.wrap (c * e))))
theorem Zyw {N n o:Nat} {p q:Option Addr} {col:Zd} {w0:World} {f g:(Bool×List Int)} {r:Int} (hm:Zh1 N f g=some r) (i:Sl (Za.int .u32) col w0 p n f.2) (j:Sl (Za.int .u32) col w0 q o g.2):
    Calls prog 101 #[(.agg #[.bool f.1,.slice p f.2.length n]),(.agg #[.bool g.1,.slice q g.2.length o])] w0 (fun e w'=>e= .returned ((.int .i64 r))∧Below w0.heap.size w0 w'):=by
 refine Z5 4 (m:=26) func101 O O O O O ?_;rw [Zh1.eq_1] at hm;have b:=St.start col w0;refine go ?_;refine Yj (col:=(Zi col)) 1 O ?_;intro E F t u d;refine Yj (col:=t) 2 O ?_;intro G H c s k;refine go ?_;refine Vs (col:=c) (by kernel_rfl) (by kernel_rfl) ?_;replace d:=d.gr s;refine qv O (fun _ a=>Xx isAgg122 sizeOf122 (d.gr (a.bl c))) ?_;obtain ⟨w,x,hm⟩:=bZ hm;replace i:=i.keep (Zl.start col w0);replace b:=(b.grow u).grow s;refine qc (v:=(.int .i64 w)) O (fun _ a=>⟨_,_,Zoj call100 O,(Zi5 x ((i.ks b).gr (a.bl c)):).mono fun _ _ h=>⟨h.1,a.trans (.of_below h.2)⟩⟩) ?_;refine qv O (fun _ a=>Xx isAgg122 sizeOf122 (k.gr (a.bl c))) ?_;obtain ⟨y,A,hm⟩:=bZ hm;replace j:=j.keep (Zl.start col w0);refine qc (v:=(.int .i64 y)) O (fun _ a=>⟨_,_,Zoj call100 O,(Zi5 A ((j.ks b).gr (a.bl c)):).mono fun _ _ h=>⟨h.1,a.trans (.of_below h.2)⟩⟩) ?_;refine go ?_;refine Y3 ?_;intro B a;replace a:=a.bl c;refine go ?_;replace d:=d.gr a;replace k:=k.gr a;replace b:=b.grow a;refine Zm hm (fun hb hm=>go ?_) fun hb hm=>go ?_
 ·cases hm;exact ⟨O,O,b.below⟩
 refine Zm hm (fun hb hm=>go ?_) fun hb hm=>go ?_
 ·cases hm;exact ⟨O,O,b.below⟩
 refine Zz d<|Zz k ?_;obtain ⟨I,C,hm⟩:=bZ hm;refine Zh (Zmm C (i.ks b) (j.ks b)) ?_;rintro _ D ⟨rfl,l⟩;refine ⟨_,O,?_⟩;replace l:Zg c B c D:=.of_below l;refine go ?_;cases hm;replace b:=b.grow l;exact ⟨O,O,b.below⟩
def Zdu (N:Nat) (a:((Bool×List Int)×List Int)) (b:((Bool×List Int)×List Int)):Option Int:=
  (Sw N ((b.1.1,b.1.2),b.2)).bind fun e=>(Zar N (a.1.1,a.1.2) e).bind fun c=>(Sw N ((a.1.1,a.1.2),a.2)).bind fun f=>(Zar N (b.1.1,b.1.2) f).bind fun d=>(Zh1 N (c.1,c.2) (d.1,d.2)).bind fun g=>some g
theorem Zpq {N u F w G:Nat} {x H y I:Option Addr} {col:Zd} {w0:World} {d f:((Bool×List Int)×List Int)} {r:Int} (hm:Zdu N d f=some r) (p:Sl (Za.int .u32) col w0 x u d.1.2) (A:Sl (Za.int .u32) col w0 H F d.2) (q:Sl (Za.int .u32) col w0 y w f.1.2) (B:Sl (Za.int .u32) col w0 I G f.2):
    Calls prog 79 #[(.agg #[.bool d.1.1,.slice x d.1.2.length u,.slice H d.2.length F]),(.agg #[.bool f.1.1,.slice y f.1.2.length w,.slice I f.2.length G])] w0 (fun e w'=>e= .returned ((.int .i64 r))∧Below w0.heap.size w0 w'):=by
 refine Z5 4 (m:=16) func79 rfl rfl rfl rfl rfl ?_;rw [Zdu.eq_1] at hm;have b:=St.start col w0;refine go ?_;refine Yj (col:=(Zi col)) 1 rfl ?_;intro ab ac O P s;refine Yj (col:=O) 2 rfl ?_;intro ad ae g J K;refine go ?_;refine Vl (col:=g) [(0,1),(1,0),(2,0),(5,1),(6,0),(7,0),(3,3),(4,3),(8,3),(9,3),(10,3),(11,1)] (by kernel_rfl) (by kernel_rfl)<|xF ⟨_,_,rfl⟩ ?_;replace s:=s.gr J;refine xv (v:=(.agg #[.bool d.1.1,.slice x d.1.2.length u])) rfl rfl (fun _ a=>W9 isAgg122 sizeOf122 rfl rfl (((s.atN).part 0 2 _ rfl).gr (a.bl g))) ?_;refine xv rfl rfl (fun _ a=>Xx isAgg124 sizeOf124 (K.gr (a.bl g))) ?_;refine xF ⟨_,_,rfl⟩ ?_;refine xv (v:=(.agg #[.bool f.1.1,.slice y f.1.2.length w])) rfl rfl (fun _ a=>W9 isAgg122 sizeOf122 rfl rfl (((K.atN).part 0 2 _ rfl).gr (a.bl g))) ?_;refine xv rfl rfl (fun _ a=>Xx isAgg124 sizeOf124 (s.gr (a.bl g))) ?_;refine xe rfl rfl ?_;intro af hC0;have a:=hC0.bl g;obtain ⟨ag,Q,hm⟩:=bZ hm;replace q:=q.keep (Zl.start col w0);replace B:=B.keep (Zl.start col w0);replace b:=((b.grow P).grow J).grow a;refine Zh (Zc9 3 Q (q.ks b) (B.ks b)) ?_;rintro _ ah ⟨k,ai,aj,rfl,L,C⟩;refine ⟨_,rfl,?_⟩;refine Zj<|Ww k hC0 L<|xe rfl rfl ?_;intro R hC0;have a:=hC0.bl k;obtain ⟨ak,S,hm⟩:=bZ hm;replace p:=p.keep (Zl.start col w0);replace b:=(b.grow L).grow a;replace C:=C.gr a;refine Zh (Zix 4 S ((p.ks b).froz 3) (C.toSlF (Zk.int .u32))) ?_;rintro _ al ⟨T,am,an,rfl,l,c⟩;refine ⟨_,rfl,?_⟩;replace A:=A.keep (Zl.start col w0);replace c:=c.thaw (Xs .u32) l ((Fz.refl (col:=k)).froz 3) (by decide);replace l:=l.thawR (col:=k);generalize Xn R.heap.size k T=M at *;refine Zj<|Ww M hC0 l<|xe rfl rfl ?_;intro ao hC0;have a:=hC0.bl M;obtain ⟨ap,U,hm⟩:=bZ hm;replace b:=(b.grow l).grow a;refine Zh (Zc9 5 U (p.ks b) (A.ks b)) ?_;rintro _ aq ⟨n,ar,au,rfl,D,E⟩;refine ⟨_,rfl,?_⟩;refine Zj<|Ww n hC0 D<|xe rfl rfl ?_;intro V hC0;replace c:=(c.gr a).gr D;have a:=hC0.bl n;obtain ⟨av,W,hm⟩:=bZ hm;replace b:=(b.grow D).grow a;replace E:=E.gr a
 refine Zh (Zix 6 W ((q.ks b).froz 5) (E.toSlF (Zk.int .u32))) ?_;rintro _ aw ⟨X,ax,ay,rfl,i,o⟩;refine ⟨_,rfl,?_⟩;replace o:=o.thaw (Xs .u32) i ((Fz.refl (col:=n)).froz 5) (by decide);replace i:=i.thawR (col:=n);generalize Xn V.heap.size n X=j at *;refine Zj<|Ww j hC0 i<|xe rfl rfl ?_;intro Y hC0;replace c:=(c.gr a).gr i;have a:=hC0.bl j;obtain ⟨az,Z,hm⟩:=bZ hm;replace c:=c.gr a;replace o:=o.gr a;refine Zh (Zyw Z ((c.toSlF (Zk.int .u32)).froz 6) ((o.froz 4 (by decide)).toSlF (Zk.int .u32))) ?_;rintro _ aa ⟨rfl,t⟩;refine ⟨_,rfl,?_⟩;replace t:Zg j Y j aa:=.of_below t;refine Zj<|Ww j hC0 t<|xu rfl rfl (fun _=>r_aI rfl) ?_;refine W6 ?_;replace b:=((b.grow i).grow a).grow t;intro a0 a;replace a:=a.bl j;refine W0 ?_;cases hm;replace b:=b.grow a;exact ⟨rfl,rfl,b.below⟩
def Zaq (N:Nat):List ((Bool×List Int)×List Int)→Bool→(List Int)→(List Int)→Option ((Bool×List Int)×List Int)
  | [],a,b,c=>some ((a,b),c)
  | d :: f,a,b,c=>(Zge N ((a,b),c) ((d.1.1,d.1.2),d.2)).bind fun e=>(Zaq N f) e.1.1 e.1.2 e.2
termination_by structural x=>x
def Zgh (N:Nat) (a:(List ((Bool×List Int)×List Int))):Option ((Bool×List Int)×List Int):=
  (Qq N 1).bind fun b=>Zaq N a false ([]:List Int) b
theorem Zw9 {N Q:Nat} {a0:Option Addr} {col:Zd} {w0:World} {i:(List ((Bool×List Int)×List Int))} {r:((Bool×List Int)×List Int)} (c1 c2:Nat) (hm:Zgh N i=some r) (h0:Sl (Za.pair (Za.pair Za.bool (Za.slice (Za.int .u32))) (Za.slice (Za.int .u32))) col w0 a0 Q i):
    Calls prog 82 #[.slice a0 i.length Q] w0 (fun e w'=>∃ (col':Zd) (ra1:Option Addr) (rc2:Nat) (ra4:Option Addr) (rc5:Nat),e= .returned ((.agg #[.bool r.1.1,.slice ra1 r.1.2.length rc2,.slice ra4 r.2.length rc5]))∧Zg col w0 col' w'∧Zc (Za.int .u32) 200 c1 col' w' ra1 rc2 r.1.2∧Zc (Za.int .u32) 200 c2 col' w' ra4 rc5 r.2):=by
 refine Wx (m:=19) func82 rfl rfl rfl ?_;rw [Zgh.eq_1] at hm;have a:=St.start col w0;refine go ?_;refine Xz (col:=(Zi col)) #[.bool false,.slice none (([]:List Int).length) 0,.slice none (([]:List Int).length) 0] 1 zeroValue124 ?_;intro S a2 T U b;refine go ?_;obtain ⟨V,W,hm⟩:=bZ hm;refine Zh (Zf2 (col:=T) 2 W) ?_;rintro _ a3 ⟨X,Y,Z,rfl,R,C⟩;refine ⟨_,rfl,?_⟩;refine lV (.agg #[.bool false,.slice none (([]:List Int).length) 0,.slice Y V.length Z]) (Y6 (l:=[_,_]) (qs:=[(0,2),(2,1)]) underlying124 zeroValue124 ⟨rfl,sizeOf122,rfl,sizeOf120,trivial⟩ rfl)<|Xz (col:=X) #[.bool false,.slice none (([]:List Int).length) 0,.slice none (([]:List Int).length) 0] 3 zeroValue124 ?_;intro aa a4 a5 D ab;refine Xf ab ?_;intro a6 E ac c;refine go ?_;replace a:=(((a.grow U).grow R).grow D).kp E ac;replace b:=((b.gr R).gr D).kp E;replace C:=(C.gr D).kp E;refine Z6 [2,3,8,9,1000000] (fun n f q=>∃ j u F G H x I J y v,n=v.length∧i.drop u=v∧Zaq N v F x y=some r∧St w0 (Zi col) j q∧Ze 124 1 j q S #[.bool false,.slice none (([]:List Int).length) 0,.slice none (([]:List Int).length) 0]∧Zc (Za.int .u32) 200 4 j q G H x∧Zc (Za.int .u32) 200 2 j q I J y∧Ze 124 3 j q aa #[.bool F,.slice G x.length H,.slice I y.length J]∧[10].map f=[.int .i64 u]) i.length ⟨_,0,_,none,0,_,_,_,_,_,rfl,rfl,hm,a,b,Zc.nil,C,c,rfl⟩ ?_;clear hm;intro n f q hI;obtain ⟨j,u,F,G,H,x,I,J,y,v,hn,hl,hm,a,b,s,t,c,hs⟩:=hI;subst hn;refine .lL [10] hs ?_;replace h0:=h0.keep (Zl.start col w0)
 cases v with
 | nil=>
  have hk:¬ ((u:Int)<(i.length:Int)):=by have:=List.drop_eq_nil_iff.1 hl;omega
  have hkb:=decide_eq_false hk;rw [Zaq.eq_1] at hm;refine go ?_;refine Yh (congrArg Value.bool hkb)<|go ?_;refine lV _ (Xx isAgg124 sizeOf124 c)<|Xf b ?_;intro a7 K ad ae;refine go ?_;cases hm;replace s:=s.kp K;replace t:=t.kp K;replace a:=a.kp K ad;exact ⟨rfl,_,ra ae.atN,_,_,_,_,_,rfl,a.fin (cm [(4,c1),(2,c2)]),a.fo s,a.fo t⟩
 | cons L af=>
  obtain ⟨M,ag,ah⟩:=Yu hl;have hk:(u:Int)<(i.length:Int):=by omega
  have hkb:=decide_eq_true hk;rw [Zaq.eq_2] at hm;refine go ?_;refine X8 (congrArg Value.bool hkb)<|go ?_;refine lI M ((h0.ks a).addr M) ?_;obtain ⟨_,ai,aj⟩:=(h0.ks a).atN M;obtain ⟨_,_,rfl,ak,al⟩:=W4 ai;obtain ⟨_,_,rfl,am,an⟩:=W4 ak;obtain ⟨rfl,_⟩:=am;obtain ⟨⟨ao,ap,rfl,O⟩,_⟩:=an;obtain ⟨⟨aq,ar,rfl,P⟩,_⟩:=al;refine lV (.agg #[.bool L.1.1,.slice ao L.1.2.length ap,.slice aq L.2.length ar]) (W9 isAgg124 sizeOf124 rfl rfl aj)<|Xz (col:=j) #[.bool false,.slice none (([]:List Int).length) 0,.slice none (([]:List Int).length) 0] 5 zeroValue124 ?_;intro a8 a9 A k au;refine Xf au ?_;intro av o aw ax;refine go ?_;replace c:=(c.gr k).kp o;refine lV _ (Xx isAgg124 sizeOf124 c)<|lV _ (Xx isAgg124 sizeOf124 ax) ?_;obtain ⟨ba,ay,hm⟩:=bZ hm;replace s:=(s.gr k).kp o;replace t:=(t.gr k).kp o;replace O:=(O.gr k).kp o;replace P:=(P.gr k).kp o;refine Zh (Zw5 6 7 ay ((s.toSlF (Zk.int .u32)).froz 2) ((t.froz 4 (by decide)).toSlF (Zk.int .u32)) ((O.froz 4).froz 2) ((P.froz 4).froz 2)) ?_;rintro _ bb ⟨az,bc,bd,be,bf,rfl,p,d,g⟩;refine ⟨_,rfl,?_⟩;replace d:=d.thaw (Xs .u32) p (((Fz.refl (col:=A)).froz 4).froz 2) (by decide);replace g:=g.thaw (Xs .u32) p (((Fz.refl (col:=A)).froz 4).froz 2) (by decide);replace p:=p.thawR (col:=A);generalize Xn av.heap.size A az=bg at *;replace c:=c.gr p;refine Xf c ?_;intro bh B a1 w;refine go ?_;replace d:=d.kp B;replace d:=d.recolSelf 4 (by decide);replace g:=g.kp B;replace g:=g.recol 6 4 (by decide);replace b:=(((b.gr k).kp o).gr p).kp B;replace b:=b.recol 6 4 (by decide);replace w:=w.recol 6 4 (by decide);replace a:=(((a.grow k).kp o aw).grow p).kp B a1;replace a:=a.recol 6 4 (by decide) (by decide);replace d:=d.recol 7 2 (by decide);replace g:=g.recolSelf 2 (by decide);replace b:=b.recol 7 2 (by decide);replace w:=w.recol 7 2 (by decide);replace a:=a.recol 7 2 (by decide) (by decide);exact ⟨af.length,by simp,rfl,⟨_,_,_,_,_,_,_,_,_,_,rfl,ag,hm,a,b,d,g,w,(Y0 (congrArg (Value.int .i64) (Yw (Nat.lt_of_lt_of_le ah (h0.ks a).1.1))) rfl)⟩⟩
def Zfd (N:Nat) (a:Int):Option (Bool×List Int):=
  if (decide (a<0))=true then ((Qq N (u64.wrap (-(u64.wrap a)))).bind fun d=>(Sd N true d).bind fun b=>some (b.1,b.2)) else ((Qq N (u64.wrap a)).bind fun e=>(Sd N false e).bind fun c=>some (c.1,c.2))
theorem Zp9 {N:Nat} {col:Zd} {w0:World} {k:Int} {r:(Bool×List Int)} (c1:Nat) (hm:Zfd N k=some r):
    Calls prog 125 #[.int .i64 k] w0 (fun e w'=>∃ (col':Zd) (ra1:Option Addr) (rc2:Nat),e= .returned ((.agg #[.bool r.1,.slice ra1 r.2.length rc2]))∧Zg col w0 col' w'∧Zc (Za.int .u32) 200 c1 col' w' ra1 rc2 r.2):=by
 refine Wx (m:=14) func125 rfl rfl rfl ?_;rw [Zfd.eq_1] at hm;have a:=St.start col w0;refine go ?_;refine Xz (col:=(Zi col)) #[.bool false,.slice none (([]:List Int).length) 0] 1 zeroValue122 ?_;intro I J l s b;refine go ?_;replace a:=a.grow s;refine Zm hm (fun hb hm=>go ?_) fun hb hm=>go ?_
 ·obtain ⟨K,t,hm⟩:=bZ hm;refine Zh (Zf2 (col:=l) 2 t) ?_;rintro _ u ⟨i,L,M,rfl,n,v⟩;refine ⟨_,rfl,?_⟩;obtain ⟨O,w,hm⟩:=bZ hm;refine Zh (Zbk 3 w (v.toSlF (Zk.int .u32))) ?_;rintro _ P ⟨x,Q,R,rfl,c,d⟩;refine ⟨_,rfl,?_⟩;replace d:=d.thaw (Xs .u32) c ((Fz.refl (col:=i)).froz 2) (by decide);replace c:=c.thawR (col:=i);generalize Xn u.heap.size i x=S at *;replace b:=(b.gr n).gr c;refine Xf b ?_;intro T o y A;refine go ?_;cases hm;replace a:=((a.grow n).grow c).kp o y;replace d:=d.kp o;exact ⟨rfl,_,ra A.atN,_,_,_,rfl,a.fin (cm [(3,c1)]),a.fo d⟩
 obtain ⟨U,B,hm⟩:=bZ hm;refine Zh (Zf2 (col:=l) 4 B) ?_;rintro _ C ⟨j,V,W,rfl,p,D⟩;refine ⟨_,rfl,?_⟩;obtain ⟨X,E,hm⟩:=bZ hm;refine Zh (Zbk 5 E (D.toSlF (Zk.int .u32))) ?_;rintro _ Y ⟨F,Z,aa,rfl,f,g⟩;refine ⟨_,rfl,?_⟩;replace g:=g.thaw (Xs .u32) f ((Fz.refl (col:=j)).froz 4) (by decide);replace f:=f.thawR (col:=j);generalize Xn C.heap.size j F=ab at *;replace b:=(b.gr p).gr f;refine Xf b ?_;intro ac q G H;refine go ?_;cases hm;replace a:=((a.grow p).grow f).kp q G;replace g:=g.kp q;exact ⟨rfl,_,ra H.atN,_,_,_,rfl,a.fin (cm [(5,c1)]),a.fo g⟩
def Zgf (N:Nat) (c:(Bool×List Int)) (a:(Bool×List Int)):Option (((Bool×List Int)×List Int)×Int):=
  (Za7 N (a.1,a.2)).bind fun d=>if (decide (d=0))=true then (some (((false,([]:List Int)),([]:List Int)),11)) else ((Zdw N (!decide (c.1=a.1)) c.2 a.2).bind fun b=>some (((b.1.1,b.1.2),b.2),0))
theorem Zw6 {N s t:Nat} {u v:Option Addr} {col:Zd} {w0:World} {f g:(Bool×List Int)} {r:(((Bool×List Int)×List Int)×Int)} (c1 c2:Nat) (hm:Zgf N f g=some r) (k:Sl (Za.int .u32) col w0 u s f.2) (i:Sl (Za.int .u32) col w0 v t g.2):
    Calls prog 124 #[(.agg #[.bool f.1,.slice u f.2.length s]),(.agg #[.bool g.1,.slice v g.2.length t])] w0 (fun e w'=>∃ (col':Zd) (ra1:Option Addr) (rc2:Nat) (ra4:Option Addr) (rc5:Nat),e= .returned (.tuple #[(.agg #[.bool r.1.1.1,.slice ra1 r.1.1.2.length rc2,.slice ra4 r.1.2.length rc5]),.int .i64 r.2])∧Zg col w0 col' w'∧Zc (Za.int .u32) 200 c1 col' w' ra1 rc2 r.1.1.2∧Zc (Za.int .u32) 200 c2 col' w' ra4 rc5 r.1.2):=by
 refine Wx (m:=20) func124 rfl rfl rfl ?_;rw [Zgf.eq_1] at hm;have a:=St.start col w0;refine go ?_;refine Yj (col:=(Zi col)) 1 rfl ?_;intro M O A B j;refine Yj (col:=A) 2 rfl ?_;intro P Q C w b;refine Xz (col:=C) #[.bool false,.slice none (([]:List Int).length) 0,.slice none (([]:List Int).length) 0] 3 zeroValue124 ?_;intro R D x n c;refine go ?_;replace b:=b.gr n;refine lV _ (Xx isAgg122 sizeOf122 b) ?_;obtain ⟨S,E,hm⟩:=bZ hm;replace i:=i.keep (Zl.start col w0);replace a:=((a.grow B).grow w).grow n;refine Zh (Zi5 E (i.ks a)) ?_;rintro _ F ⟨rfl,d⟩;refine ⟨_,rfl,?_⟩;replace d:Zg x D x F:=.of_below d;refine go ?_;replace k:=k.keep (Zl.start col w0);replace j:=((j.gr w).gr n).gr d;replace b:=b.gr d;replace c:=c.gr d;replace a:=a.grow d;refine Zm hm (fun hb hm=>go ?_) fun hb hm=>go ?_
 ·refine lV (.agg #[.bool false,.slice none (([]:List Int).length) 0,.slice none (([]:List Int).length) 0]) (Y6 (l:=[_,_]) (qs:=[(0,2),(2,1)]) underlying124 zeroValue124 ⟨rfl,sizeOf122,rfl,sizeOf120,trivial⟩ rfl)<|Xf c ?_;intro T G H I;refine go ?_;cases hm;replace a:=a.kp G H;exact ⟨rfl,_,Zfl I.atN,_,none,0,none,0,rfl,a.fin (cm []),Zc.nil,Zc.nil⟩
 refine Zz j<|Zz b ?_;refine go ?_;refine Zz j<|Zz b ?_;obtain ⟨U,J,hm⟩:=bZ hm;refine Zh (Zpr 4 5 J (k.ks a) (i.ks a)) ?_;rintro _ V ⟨W,X,Y,Z,aa,rfl,y,o,p⟩;refine ⟨_,rfl,?_⟩;replace c:=c.gr y;refine Xf c ?_;intro ab q K L;refine go ?_;cases hm;replace a:=(a.grow y).kp q K;replace o:=o.kp q;replace p:=p.kp q;exact ⟨rfl,_,Zfl L.atN,_,_,_,_,_,rfl,a.fin (cm [(4,c1),(5,c2)]),a.fo o,a.fo p⟩
def Zgg (N:Nat) (d:Int) (e:Int):Option (((Bool×List Int)×List Int)×Int):=
  (Zfd N d).bind fun b=>(Zfd N e).bind fun c=>(Zgf N (b.1,b.2) (c.1,c.2)).bind fun a=>some (((a.1.1.1,a.1.1.2),a.1.2),a.2)
theorem Zw7 {N:Nat} {col:Zd} {w0:World} {n o:Int} {r:(((Bool×List Int)×List Int)×Int)} (c1 c2:Nat) (hm:Zgg N n o=some r):
    Calls prog 104 #[.int .i64 n,.int .i64 o] w0 (fun e w'=>∃ (col':Zd) (ra1:Option Addr) (rc2:Nat) (ra4:Option Addr) (rc5:Nat),e= .returned (.tuple #[(.agg #[.bool r.1.1.1,.slice ra1 r.1.1.2.length rc2,.slice ra4 r.1.2.length rc5]),.int .i64 r.2])∧Zg col w0 col' w'∧Zc (Za.int .u32) 200 c1 col' w' ra1 rc2 r.1.1.2∧Zc (Za.int .u32) 200 c2 col' w' ra4 rc5 r.1.2):=by
 refine Wx (m:=13) func104 rfl rfl rfl ?_;rw [Zgg.eq_1] at hm;have b:=St.start col w0;refine go ?_;refine Xz (col:=(Zi col)) #[.bool false,.slice none (([]:List Int).length) 0,.slice none (([]:List Int).length) 0] 1 zeroValue124 ?_;intro H I q s i;refine go ?_;obtain ⟨J,t,hm⟩:=bZ hm;refine Zh (Zp9 (col:=q) 2 t) ?_;rintro _ K ⟨u,L,M,rfl,p,j⟩;refine ⟨_,rfl,?_⟩;refine Y1 rfl ?_;obtain ⟨O,v,hm⟩:=bZ hm;refine Zh (Zp9 (col:=u) 3 v) ?_;rintro _ w ⟨f,P,Q,rfl,k,x⟩;refine ⟨_,rfl,?_⟩;obtain ⟨g,y,hm⟩:=bZ hm;replace j:=j.gr k;refine Zh (Zw6 4 5 y ((j.toSlF (Zk.int .u32)).froz 3) ((x.froz 2 (by decide)).toSlF (Zk.int .u32))) ?_;rintro _ R ⟨A,B,C,D,E,rfl,a,c,d⟩;refine ⟨_,rfl,?_⟩;replace c:=c.thaw (Xs .u32) a (((Fz.refl (col:=f)).froz 2).froz 3) (by decide);replace d:=d.thaw (Xs .u32) a (((Fz.refl (col:=f)).froz 2).froz 3) (by decide);replace a:=a.thawR (col:=f);generalize Xn w.heap.size f A=S at *;refine lV (.agg #[.bool g.1.1.1,.slice B g.1.1.2.length C,.slice D g.1.2.length E]) (Xl rfl rfl)<|lV (.int .i64 g.2) (Xl rfl rfl) ?_;replace i:=((i.gr p).gr k).gr a;refine Xf i ?_;intro T l F G;refine go ?_;cases hm;replace b:=((((b.grow s).grow p).grow k).grow a).kp l F;replace c:=c.kp l;replace d:=d.kp l;exact ⟨rfl,_,Zfl G.atN,_,_,_,_,_,rfl,b.fin (cm [(4,c1),(5,c2)]),b.fo c,b.fo d⟩
def Zdv (N:Nat) (a:((Bool×List Int)×List Int)):Option Int:=
  (Za7 N (a.1.1,a.1.2)).bind fun b=>some b
theorem Zw8 {N c i:Nat} {d j:Option Addr} {col:Zd} {w0:World} {a:((Bool×List Int)×List Int)} {r:Int} (hm:Zdv N a=some r) (f:Sl (Za.int .u32) col w0 d c a.1.2) (s:Sl (Za.int .u32) col w0 j i a.2):
    Calls prog 78 #[(.agg #[.bool a.1.1,.slice d a.1.2.length c,.slice j a.2.length i])] w0 (fun e w'=>e= .returned ((.int .i64 r))∧Below w0.heap.size w0 w'):=by
 refine Z5 2 (m:=6) func78 O O O O O ?_;rw [Zdv.eq_1] at hm;have b:=St.start col w0;refine go ?_;refine Yj (col:=(Zi col)) 1 O ?_;intro t l k n o;refine go ?_;refine Zv ⟨_,_,O⟩ ?_;refine lV (.agg #[.bool a.1.1,.slice d a.1.2.length c]) (W9 isAgg122 sizeOf122 O O ((o.atN).part 0 2 _ O)) ?_;obtain ⟨u,p,hm⟩:=bZ hm;replace f:=f.keep (Zl.start col w0);replace b:=b.grow n;refine Zh (Zi5 p (f.ks b)) ?_;rintro _ q ⟨rfl,g⟩;refine ⟨_,O,?_⟩;replace g:Zg k l k q:=.of_below g;refine go ?_;cases hm;replace b:=b.grow g;exact ⟨O,O,b.below⟩
theorem Zc2 {N k:Nat} {neg:Bool} {m:List Int} (hm:Zn m) (hk:m.length≤k) (hr:Ya N k):Sd N neg m=some (X2 (Zw (neg,m))):=by
 obtain ⟨r1,r2⟩:=hr
 rw [Sd,Zoa hm (by omega) (by omega),Option.bind_some,Zh6]
 have e:decide (0<((Zf (Zb m)).length:Int))=decide (Zb m≠0):=by
  by_cases h:Zb m=0
  ·rw [h,Wz];decide
  ·have:=Sm h
   rw [decide_eq_true (by omega),decide_eq_true h]
 cases neg
 ·rw [if_neg (by decide),Zfe,Bool.false_and]
 ·rw [if_pos rfl,Zfe,e,Bool.true_and]
theorem Z3z {N k:Nat} {a:ZV} (hm:Zn a.2) (hk:a.2.length≤k) (hr:Ya N k):Zh3 N a=some (X2 (Zw a)):=by
 rw [Zh3,Zc2 hm hk hr];rfl
theorem Zl1 {N k:Nat} {a:ZV} (hm:Zn a.2) (hk:a.2.length≤k) (hr:Ya N k):Za7 N a=some (Zw a).sign:=by
 obtain ⟨r1,r2⟩:=hr
 rw [Za7,Zwu hm (by omega) (by omega),Option.bind_some,Zw]
 by_cases h:Zb a.2=0
 ·rw [h,Zc7,if_pos (by decide)];simp
 ·have h1:Z4 (Zb a.2)≠0:=by rw [Z4,if_neg h];omega
  rw [if_neg (by rw [decide_eq_false (by omega)];decide)]
  by_cases h2:a.1=true
  ·rw [if_pos h2,if_pos h2,Int.sign_eq_neg_one_of_neg (by omega)]
  ·rw [if_neg h2,if_neg h2,Int.sign_eq_one_of_pos (by omega)]
theorem Zpd {a b:ZV}:(a.1=b.1→Zw (a.1,Zf (Zb a.2+Zb b.2))=Zw a+Zw b)∧(a.1≠b.1→(Zb b.2≤Zb a.2→Zw (a.1,Zf (Zb a.2 - Zb b.2))=Zw a+Zw b)∧(Zb a.2<Zb b.2→Zw (b.1,Zf (Zb b.2 - Zb a.2))=Zw a+Zw b)):=by
 obtain ⟨s,x⟩:=a
 obtain ⟨t,y⟩:=b
 simp only [Zw,Z3]
 cases s <;> cases t <;> simp <;> (try constructor) <;> intros <;> omega
theorem Z3u {N k l:Nat} {a b:ZV} (ha:Zn a.2) (hb:Zn b.2) (hk:a.2.length≤k) (hl:b.2.length≤l) (hr:Ya N (k+l+1)):Zh0 N a b=some (X2 (Zw a+Zw b)):=by
 have hr':=hr
 obtain ⟨r1,r2⟩:=hr'
 have la:=Yv ha
 have lb:=Yv hb
 have lsum:(Zf (Zb a.2+Zb b.2)).length≤k+l+1:=Znb (by omega) (by omega)
 have ls1:(Zf (Zb a.2 - Zb b.2)).length≤k+l+1:=by have:=Vo (Nat.sub_le (Zb a.2) (Zb b.2));omega
 have ls2:(Zf (Zb b.2 - Zb a.2)).length≤k+l+1:=by have:=Vo (Nat.sub_le (Zb b.2) (Zb a.2));omega
 rw [Zh0]
 by_cases h:a.1=b.1
 ·rw [if_pos (decide_eq_true h),Zvs ha hb (by omega) (by omega) (by omega) (by omega),Option.bind_some,Zc2 (Z8 _) lsum hr,Option.bind_some,Zpd.1 h]
 ·rw [if_neg (by rw [decide_eq_false h];decide),Zu5 ha hb (by omega) (by omega) (by omega) (by omega),Option.bind_some]
  by_cases hlt:Zb a.2<Zb b.2
  ·rw [if_pos hlt,if_neg (by decide),Zu5 hb ha (by omega) (by omega) (by omega) (by omega),Option.bind_some,if_neg (by omega),Zc2 (Z8 _) ls2 hr,Option.bind_some,(Zpd.2 h).2 hlt]
  ·rw [if_neg hlt,if_pos rfl,Zc2 (Z8 _) ls1 hr,Option.bind_some,(Zpd.2 h).1 (by omega)]
theorem Z35 (a b:ZV):Zw (!decide (a.1=b.1),Zf (Zb a.2 * Zb b.2))=Zw a * Zw b:=by
 obtain ⟨s,x⟩:=a
 obtain ⟨t,y⟩:=b
 simp only [Zw,Z3]
 cases s <;> cases t <;> simp [Int.natCast_mul,Int.neg_mul,Int.mul_neg]
theorem Z3y {N k l:Nat} {a b:ZV} (ha:Zn a.2) (hb:Zn b.2) (hk:a.2.length≤k) (hl:b.2.length≤l) (hr:Ya N (k+l)):Zh2 N a b=some (X2 (Zw a * Zw b)):=by
 have hr':=hr
 obtain ⟨r1,r2⟩:=hr'
 have la:=Yv ha
 have lb:=Yv hb
 have:=Zdj (Zb a.2) (Zb b.2)
 rw [Zh2,Zsl ha hb (by omega) (by omega),Option.bind_some,Zc2 (k:=k+l) (Z8 _) (by omega) hr,Option.bind_some,Z35]
theorem Z34 (a b:ZV):(if (Zw a).sign<(Zw b).sign then -1 else if (Zw b).sign<(Zw a).sign then 1 else (Zw a).sign * (if Zb a.2<Zb b.2 then -1 else if Zb b.2<Zb a.2 then 1 else 0))=Zbg (Zw a) (Zw b):=by
 obtain ⟨s,x⟩:=a
 obtain ⟨t,y⟩:=b
 have key:∀ z:Int,z.sign=if z<0 then -1 else if 0<z then 1 else 0:=fun z=>(Zpe z).symm
 rw [key,key]
 unfold Zbg
 simp only [Zw]
 generalize Zb x=X
 generalize Zb y=Y
 cases s <;> cases t <;> simp only [if_true,Bool.false_eq_true,if_false] <;> (repeat' split) <;> omega
theorem Z3v {N k l:Nat} {a b:ZV} (ha:Zn a.2) (hb:Zn b.2) (hk:a.2.length≤k) (hl:b.2.length≤l) (hr:Ya N (k+l)):Zh1 N a b=some (Zbg (Zw a) (Zw b)):=by
 have hr':=hr
 obtain ⟨r1,r2⟩:=hr'
 have sa:-1≤(Zw a).sign∧(Zw a).sign≤1:=by rw [← Zpe];unfold Zbg;(repeat' split) <;> omega
 rw [Zh1,Zl1 ha hk (hr.mono (by omega)),Option.bind_some,Zl1 hb hl (hr.mono (by omega)),Option.bind_some,← Z34 a b]
 by_cases h1:(Zw a).sign<(Zw b).sign
 ·rw [if_pos (decide_eq_true h1),if_pos h1]
 ·rw [if_neg (by rw [decide_eq_false h1];decide),if_neg h1]
  by_cases h2:(Zw b).sign<(Zw a).sign
  ·rw [if_pos (decide_eq_true h2),if_pos h2]
  ·rw [if_neg (by rw [decide_eq_false h2];decide),if_neg h2,Zmz ha hb (by omega) (by omega) (by omega) (by omega),Option.bind_some]
   congr 1
   refine Z2 ?_
   have:(Zw a).sign= -1∨(Zw a).sign=0∨(Zw a).sign=1:=by omega
   rcases this with h | h | h <;> rw [h] <;> (repeat' split) <;> decide
theorem Zvm {N:Nat} {z:Int} (h:-9223372036854775808≤z∧z≤9223372036854775807) (hr:Ya N 2):Zfd N z=some (X2 z):=by
 have hr':=hr
 obtain ⟨r1,r2⟩:=hr'
 have l2:∀ n:Nat,n<18446744073709551616→(Zf n).length≤2:=fun n hn=>Wu.2 (by simpa using hn)
 rw [Zfd]
 by_cases hz:z<0
 ·have e:u64.wrap (-u64.wrap z)= -z:=by rw [IntKind.wrap_u64,IntKind.wrap_u64];omega
  rw [if_pos (decide_eq_true hz),e,Zh7 (by omega) (by omega),Option.bind_some,Zc2 (Z8 _) (l2 _ (by omega)) hr,Option.bind_some]
  have e2:Zw (true,Zf (-z).toNat)=z:=by simp only [Zw,Z3,if_true];omega
  rw [e2]
 ·rw [if_neg (by rw [decide_eq_false hz];decide),Xi (by omega),Zh7 (by omega) (by omega),Option.bind_some,Zc2 (Z8 _) (l2 _ (by omega)) hr,Option.bind_some]
  have e2:Zw (false,Zf z.toNat)=z:=by simp only [Zw,Z3];simp;omega
  rw [e2]
theorem Zly {N k:Nat} {a:QV} (ha:RV k a) (hr:Ya N k):Sw N a=some (Zf (We a.2)):=by
 obtain ⟨r1,r2⟩:=hr
 have:=ha.ld
 rw [Sw,Zoa ha.d (by omega) (by omega),Option.bind_some,We]
 by_cases h:Zb a.2=0
 ·rw [h,Wz,if_neg (by decide),if_pos rfl,Zh7 (by decide) (by omega)];rfl
 ·have:=Sm h
  rw [if_pos (decide_eq_true (by omega)),if_neg h]
theorem Zdi {k:Nat} {a:QV} (ha:RV k a):(Zf (We a.2)).length≤k+1:=by
 have h1:=Yv ha.d
 have h2:=ha.ld
 rw [We]
 split
 ·rw [Zam];simp
 ·omega
theorem Zlc {N k l n:Nat} {a:ZV} (ha:Zn a.2) (hk:a.2.length≤k) (hl:(Zf n).length≤l) (hr:Ya N (k+l)):Zar N a (Zf n)=some (X2 (Zw a * n)):=by
 rw [Zar,Z3y (a:=(a.1,a.2)) (b:=(false,Zf n)) ha (Z8 _) hk hl hr,Option.bind_some]
 have e:Zw (false,Zf n)=n:=by simp [Zw,Z3]
 rw [e]
theorem Zr1 {N k l:Nat} {neg:Bool} {num den:List Int} (hn:Zn num) (hd:Zn den) (h0:Zb den≠0) (hk:num.length≤k) (hl:den.length≤l) (hr:Ya N (k+l)):
  Zdw N neg num den=some (Wl (mkRat (Zw (neg,num)) (Zb den))):=by
 have hr':=hr
 obtain ⟨r1,r2⟩:=hr'
 have l1:=Yv hn
 have l2:=Yv hd
 have hg:Nat.gcd (Zb num) (Zb den)≠0:=fun h=>h0 (Nat.gcd_eq_zero_iff.1 h).2
 have lg:(Zf (Nat.gcd (Zb num) (Zb den))).length≤den.length:=Nat.le_trans (Vo (Nat.gcd_le_right _ (by omega))) l2
 have lq:=Vo (Nat.div_le_self (Zb num) (Nat.gcd (Zb num) (Zb den)))
 rw [Zdw,Z0n hn hd (by omega) (by omega),Option.bind_some,Zi8 hn (Z8 _) (by omega) (by omega),Option.bind_some,Zi8 hd (Z8 _) (by omega) (by omega),Option.bind_some,Z3,if_neg hg,if_neg hg,
  Z3z (k:=k) (a:=(neg,Zf (Zb num / Nat.gcd (Zb num) (Zb den)))) (Z8 _) (by simp only;omega) (hr.mono (by omega)),Option.bind_some,Zst h0,Zh6,Z3]
theorem Z0l {N k:Nat} {a:QV} (ha:RV k a) (hr:Ya N k):Zdv N a=some (Zfg (Y4 a)):=by
 rw [Zdv,Zl1 (a:=(a.1.1,a.1.2)) ha.m ha.lm hr,Option.bind_some,Z2k]
theorem Znc (z:Int):(X2 z).2=Zf z.natAbs:=rfl
theorem Zji {k l n:Nat} {a:ZV} (ha:Zn a.2) (hk:a.2.length≤k) (hl:(Zf n).length≤l):(X2 (Zw a * n)).2.length≤k+l:=by
 rw [Znc,Int.natAbs_mul,Int.natAbs_natCast,Zik]
 have h1:=Zdj (Zb a.2) n
 have h2:=Yv ha
 omega
theorem Zqv {N k l:Nat} {a b:QV} (ha:RV k a) (hb:RV l b) (hr:Ya N (2 * (k+l+2))):Zdu N a b=some (Q3 (Y4 a) (Y4 b)):=by
 have da:=Zdi ha
 have db:=Zdi hb
 have o1:=Zji (n:=We b.2) ha.m ha.lm db
 have o2:=Zji (n:=We a.2) hb.m hb.lm da
 rw [Zdu,Zly hb (hr.mono (by omega)),Option.bind_some,Zlc (k:=k) (l:=l+1) ha.m ha.lm db (hr.mono (by omega)),Option.bind_some,Zly ha (hr.mono (by omega)),Option.bind_some,Zlc (k:=l) (l:=k+1) hb.m hb.lm da (hr.mono (by omega)),Option.bind_some,
  Z3v (a:=X2 _) (b:=X2 _) (So _) (So _) o1 o2 (hr.mono (by omega)),Option.bind_some,Sf,Sf,Y4,Y4,Ztk (Zbn _) (Zbn _)]
theorem Zzi {N k l:Nat} {a b:QV} (ha:RV k a) (hb:RV l b) (hr:Ya N (k+l+2)):Zb5 N (Zf (We a.2)) (Zf (We b.2))=some (Zf (We a.2 * We b.2))∧(Zf (We a.2 * We b.2)).length≤k+l+2∧We a.2 * We b.2≠0:=by
 have da:=Zdi ha
 have db:=Zdi hb
 have hr':=hr
 obtain ⟨r1,r2⟩:=hr'
 have:=Zdj (We a.2) (We b.2)
 refine ⟨by rw [Zsl (Z8 _) (Z8 _) (by omega) (by omega),Z3,Z3],by omega,Nat.mul_ne_zero (Zbn _) (Zbn _)⟩
theorem Z3n {x y:Int} {k:Nat} (hx:(X2 x).2.length≤k) (hy:(X2 y).2.length≤k):(X2 (x+y)).2.length≤k+1:=by
 rw [Znc] at *
 exact Nat.le_trans (Vo (Int.natAbs_add_le _ _)) (Znb hx hy)
theorem Z12 (z:Int):((X2 z).1,(X2 z).2)=X2 z:=rfl
theorem Zz4 {N k l:Nat} {a b:QV} (ha:RV k a) (hb:RV l b) (hr:Ya N (2 * (k+l+3))):Zge N a b=some (Wl (Y4 a+Y4 b)):=by
 have da:=Zdi ha
 have db:=Zdi hb
 have o1:=Zji (n:=We b.2) ha.m ha.lm db
 have o2:=Zji (n:=We a.2) hb.m hb.lm da
 obtain ⟨m1,m2,m3⟩:=Zzi ha hb (hr.mono (by omega))
 have sl:=Z3n (k:=k+l+1) (by omega) (Nat.le_trans o2 (by omega))
 rw [Zge,Zly hb (hr.mono (by omega)),Option.bind_some,Zlc (k:=k) (l:=l+1) ha.m ha.lm db (hr.mono (by omega)),Option.bind_some,Zly ha (hr.mono (by omega)),Option.bind_some,Zlc (k:=l) (l:=k+1) hb.m hb.lm da (hr.mono (by omega)),Option.bind_some,
  Z3u (a:=X2 _) (b:=X2 _) (So _) (So _) o1 o2 (hr.mono (by omega)),Option.bind_some,Sf,Sf,Option.bind_some,Option.bind_some,m1,Option.bind_some,
  Zr1 (So _) (Z8 _) (by rw [Z3];exact m3) sl m2 (hr.mono (by omega)),Option.bind_some,Z12,Sf,Z3,Y4,Y4,Rat.mkRat_add_mkRat _ _ (Zbn _) (Zbn _)]
theorem Zsb (n₁:Int) (d₁:Nat) (b:ZV) (d₂:Nat) (s:Bool) (x:List Int) (h:n₁=Zw (s,x)) (hb:Zb b.2≠0):mkRat n₁ d₁ / mkRat (Zw b) d₂=mkRat (Zw (!decide (s=b.1),Zf (Zb x * d₂))) (d₁ * Zb b.2):=by
 have e1:mkRat (Zw b) d₂=(Zw b:Rat) / (d₂:Rat):=Rat.mkRat_eq_div _ _
 have hz:(Zw b:Rat)=(if b.1=true then -1 else 1) * (Zb b.2:Rat):=by
  rw [Zw];split
  ·rw [Rat.intCast_neg,Rat.neg_mul,Rat.one_mul];rfl
  ·rw [Rat.one_mul];rfl
 have hn:(Zw (!decide (s=b.1),Zf (Zb x * d₂)):Rat)=(if b.1=true then -1 else 1) * (n₁:Rat) * (d₂:Rat):=by
  subst h
  have:Zw (!decide (s=b.1),Zf (Zb x * d₂))=(if b.1=true then -1 else 1) * Zw (s,x) * (d₂:Int):=by
   obtain ⟨t,y⟩:=b
   simp only [Zw,Z3]
   cases s <;> cases t <;> simp [Int.natCast_mul,Int.neg_mul]
  rw [this,Rat.intCast_mul,Rat.intCast_mul]
  congr 2
  split <;> rfl
 have hbr:(Zb b.2:Rat)≠0:=fun h=>hb (Rat.natCast_eq_zero_iff.1 h)
 rw [Rat.mkRat_eq_div,e1,Rat.mkRat_eq_div,hn,hz,Rat.natCast_mul]
 have hs:(if b.1=true then (-1:Rat) else 1) * (if b.1=true then (-1:Rat) else 1)=1:=by split <;> grind
 generalize (if b.1=true then (-1:Rat) else 1)=sg at *
 generalize (n₁:Rat)=p
 generalize (d₁:Rat)=q
 generalize (d₂:Rat)=r
 generalize (Zb b.2:Rat)=m at *
 have hsg:sg≠0:=fun h=>by rw [h] at hs;grind
 have hinv:sg⁻¹=sg:=Rat.inv_eq_of_mul_eq_one hs
 simp only [Rat.div_def,Rat.inv_mul_rev,Rat.inv_inv,hinv]
 grind
theorem Z0e {N k l:Nat} {a b:ZV} (ha:Zn a.2) (hb:Zn b.2) (hk:a.2.length≤k) (hl:b.2.length≤l) (hr:Ya N (k+l)):Zgf N a b=some (if Zw b=0 then (((false,[]),[]),11) else (Wl ((Zw a:Rat) / (Zw b:Rat)),0)):=by
 rw [Zgf,Zl1 (a:=(b.1,b.2)) hb hl (hr.mono (by omega)),Option.bind_some]
 by_cases h0:Zw b=0
 ·rw [if_pos h0,h0,if_pos (by decide)]
 ·have hb0:Zb b.2≠0:=fun h=>h0 (by have:=Zik b;omega)
  have e:=Zsb (Zw a) 1 b 1 a.1 a.2 rfl hb0
  have hs:¬ (Zw b).sign=0:=fun h=>h0 (Int.sign_eq_zero_iff_zero.1 h)
  rw [if_neg (by rw [decide_eq_false hs];decide),if_neg h0,Zr1 ha hb hb0 hk hl hr,Option.bind_some]
  rw [Rat.mkRat_eq_div,Rat.mkRat_eq_div] at e
  have e1:(Zw a:Rat) / ((1:Nat):Rat) / ((Zw b:Rat) / ((1:Nat):Rat))=(Zw a:Rat) / (Zw b:Rat):=by
   have h1:((1:Nat):Rat)=1:=rfl
   have h2:(1:Rat)⁻¹=1:=Rat.inv_eq_of_mul_eq_one (by grind)
   simp only [h1,Rat.div_def,h2,Rat.mul_one]
  rw [e1,Nat.one_mul,Nat.mul_one] at e
  rw [e]
  have e2:Zw (!decide (a.1=b.1),Zf (Zb a.2))=Zw (!decide (a.1=b.1),a.2):=by simp only [Zw,Z3]
  rw [e2]
theorem Z0f {N:Nat} {a b:Int} (h:-9223372036854775808≤a∧a≤9223372036854775807) (g:-9223372036854775808≤b∧b≤9223372036854775807) (hr:Ya N 4):Zgg N a b=some (if b=0 then (((false,[]),[]),11) else (Wl ((a:Rat) / (b:Rat)),0)):=by
 have l2:∀ z:Int,-9223372036854775808≤z∧z≤9223372036854775807→(X2 z).2.length≤2:=fun z hz=>Wu.2 (by simp;omega)
 rw [Zgg,Zvm h (hr.mono (by omega)),Option.bind_some,Zvm g (hr.mono (by omega)),Option.bind_some,Z0e (a:=X2 a) (b:=X2 b) (So _) (So _) (l2 _ h) (l2 _ g) hr,Option.bind_some,Sf,Sf]
def Uo (l:List QV):Rat:=(l.map Y4).sum
def Yn:List QV→Nat
 | []=>0
 | a :: l=>max a.1.2.length a.2.length+2+Yn l
theorem Zo3 {a:QV} (hm:Zn a.1.2) (hd:Zn a.2):RV (max a.1.2.length a.2.length) a:=⟨hm,hd,Nat.le_max_left _ _,Nat.le_max_right _ _⟩
def Uu (a:QV):Prop:=Zn a.1.2∧Zn a.2
theorem Z2i {a:QV} (h:Uu a):qs (Y4 a)≤max a.1.2.length a.2.length+1:=by
 have:=Z2j (Zo3 h.1 h.2)
 omega
theorem Zrb {N:Nat}:∀ (l:List QV) (q:Rat),(∀ a ∈ l,Uu a)→Ya N (4 * (qs q+Yn l+3))→Zaq N l (Wl q).1.1 (Wl q).1.2 (Wl q).2=some (Wl (q+Uo l))∧qs (q+Uo l)≤qs q+Yn l
 | [],q,_,_=>by
  rw [Zaq.eq_1,Uo]
  simp only [List.map_nil,List.sum_nil,Rat.add_zero,Yn]
  exact ⟨trivial,by omega⟩
 | a :: l,q,hl,hr=>by
  have ha:=hl a List.mem_cons_self
  have hs:=Z2i ha
  rw [Yn] at hr ⊢
  rw [Zaq.eq_2,Zz4 (k:=qs q) (l:=max a.1.2.length a.2.length) (Zuy q) (Zo3 ha.1 ha.2) (hr.mono (by omega)),Option.bind_some]
  have e:Y4 ((((Wl q).1.1,(Wl q).1.2),(Wl q).2):QV)=q:=Zlh q
  have e2:Y4 (((a.1.1,a.1.2),a.2):QV)=Y4 a:=rfl
  have h1:=Z2g q (Y4 a)
  obtain ⟨h2,h3⟩:=Zrb l (q+Y4 a) (fun x hx=>hl x (List.mem_cons_of_mem _ hx)) (hr.mono (by omega))
  rw [e,e2,h2]
  have e3:q+Y4 a+Uo l=q+Uo (a :: l):=by rw [Uo,Uo,List.map_cons,List.sum_cons,Rat.add_assoc]
  rw [e3] at h3 ⊢
  exact ⟨rfl,by omega⟩
theorem Z0m {N:Nat} {l:List QV} (hl:∀ a ∈ l,Uu a) (hr:Ya N (4 * (Yn l+4))):Zgh N l=some (Wl (Uo l))∧qs (Uo l)≤Yn l+1:=by
 have hr':=hr
 obtain ⟨r1,r2⟩:=hr'
 obtain ⟨h1,h2⟩:=Zrb (N:=N) l 0 hl (hr.mono (by rw [Ztp];omega))
 rw [Rat.zero_add] at h1 h2
 rw [Ztp] at h2
 have e:Wl 0=((false,[]),[1]):=by
  rw [Wl,X2]
  simp only [Rat.zero_num,Rat.zero_den,Int.natAbs_zero,Wz,Zam]
  rfl
 rw [e] at h1
 refine ⟨?_,by omega⟩
 rw [Zgh,Zh7 (by decide) (by omega),Option.bind_some,← h1]
 rw [show (1:Int).toNat=1 from rfl,Zam]
def Ze8 (a:Bool) (b:List Int):Option (Bool×List Int):=
  some (a,b)
def Zck (N:Nat) (b:Bool) (c:List Int):Option (Bool×List Int):=
  (Ud N c).bind fun a=>if b=true then (Ze8 (decide (0<(a.length:Int))) a) else (Ze8 false a)
theorem Zms {N u:Nat} {a1:Option Addr} {col:Zd} {w0:World} {v:Bool} {k:(List Int)} {r:(Bool×List Int)} (c1:Nat) (hm:Zck N v k=some r) (h1:Sl (Za.int .u32) col w0 a1 u k):
    Calls prog 115 #[.bool v,.slice a1 k.length u] w0 (fun e w'=>∃ (col':Zd) (ra1:Option Addr) (rc2:Nat),e= .returned ((.agg #[.bool r.1,.slice ra1 r.2.length rc2]))∧Zg col w0 col' w'∧Zc (Za.int .u32) 200 c1 col' w' ra1 rc2 r.2):=by
 refine Wx (m:=16) func115 rfl rfl rfl ?_;rw [Zck.eq_1] at hm;have a:=St.start col w0;refine go ?_;refine Xz (col:=(Zi col)) #[.bool false,.slice none (([]:List Int).length) 0] 1 zeroValue122 ?_;intro C J K D c;refine go ?_;obtain ⟨d,E,hm⟩:=bZ hm;replace h1:=h1.keep (Zl.start col w0);replace a:=a.grow D;refine Zh (Tk 2 E (h1.ks a)) ?_;rintro _ L ⟨M,w,x,rfl,y,b⟩;refine ⟨_,rfl,?_⟩;refine Zdf rfl<|Zj<|Zo ?_;replace c:=c.gr y;replace a:=a.grow y;refine Wp.cutK [4,1000000] (fun f g=>∃ i n o p j,Ze8 n j=some r∧St w0 (Zi col) i g∧Zc (Za.int .u32) 200 3 i g o p j∧Ze 122 1 i g C #[.bool n,.slice o j.length p]) ?_ ?_
 ·intro f g F;obtain ⟨i,n,o,p,j,hm,a,G,c⟩:=F;rw [Ze8.eq_1] at hm;refine W0 ?_;cases hm;exact ⟨rfl,_,ra c.atN,_,_,_,rfl,a.fin (cm [(3,c1)]),a.fo G⟩
 refine go ?_;refine Z7 hm (fun q hm=>go ?_) fun q hm=>go ?_
 ·refine lV (.bool (decide (0<(d.length:Int)))) (Zx (congrArg Value.bool q) rfl)<|W2 rfl<|lV (.agg #[.bool (decide (0<(d.length:Int))),.slice w d.length x]) (Y6 (l:=[_,_]) (qs:=[(0,1),(1,1)]) underlying122 zeroValue122 ⟨rfl,sizeOf4,rfl,sizeOf120,trivial⟩ rfl)<|Xf c ?_;intro O A H s;refine Zj ?_;replace b:=b.kp A;replace b:=b.recolSelf 3 (by decide);replace s:=s.recol 2 3 (by decide);replace a:=a.kp A H;replace a:=a.recol 2 3 (by decide) (by decide);exact ⟨rfl,_,_,_,_,_,hm,a,b,s⟩
 refine lV (.bool false) (Z0 (congrArg Value.bool q) rfl)<|W2 rfl<|lV (.agg #[.bool false,.slice w d.length x]) (Y6 (l:=[_,_]) (qs:=[(0,1),(1,1)]) underlying122 zeroValue122 ⟨rfl,sizeOf4,rfl,sizeOf120,trivial⟩ rfl)<|Xf c ?_;intro P B I t;refine Zj ?_;replace b:=b.kp B;replace b:=b.recolSelf 3 (by decide);replace t:=t.recol 2 3 (by decide);replace a:=a.kp B I;replace a:=a.recol 2 3 (by decide) (by decide);exact ⟨rfl,_,_,_,_,_,hm,a,b,t⟩
def Zfa (N:Nat) (a:Int):Option (Bool×List Int):=
  if (decide (0≤a))=true then ((Ze3 N (u64.wrap a)).bind fun d=>(Zck N false d).bind fun b=>some (b.1,b.2)) else ((Ze3 N (u64.wrap (i64.wrap (-(i64.wrap (a+1)))))).bind fun e=>(Zhl N e [1]).bind fun f=>(Zck N true f).bind fun c=>some (c.1,c.2))
theorem Zp5 {N:Nat} {col:Zd} {w0:World} {q:Int} {r:(Bool×List Int)} (c1:Nat) (hm:Zfa N q=some r):
    Calls prog 94 #[.int .i64 q] w0 (fun e w'=>∃ (col':Zd) (ra1:Option Addr) (rc2:Nat),e= .returned ((.agg #[.bool r.1,.slice ra1 r.2.length rc2]))∧Zg col w0 col' w'∧Zc (Za.int .u32) 200 c1 col' w' ra1 rc2 r.2):=by
 refine Wx (m:=17) func94 rfl rfl rfl ?_;rw [Zfa.eq_1] at hm;have a:=St.start col w0;refine go ?_;refine Xz (col:=(Zi col)) #[.bool false,.slice none (([]:List Int).length) 0] 1 zeroValue122 ?_;intro S T s x b;refine go ?_;replace a:=a.grow x;refine Zm hm (fun hb hm=>go ?_) fun hb hm=>go ?_
 ·obtain ⟨U,y,hm⟩:=bZ hm;refine Zh (Zp1 (col:=s) 2 y) ?_;rintro _ A ⟨j,V,W,rfl,t,B⟩;refine ⟨_,rfl,?_⟩;obtain ⟨X,C,hm⟩:=bZ hm;refine Zh (Zms 3 C (B.toSlF (Zk.int .u32))) ?_;rintro _ Y ⟨D,Z,aa,rfl,c,d⟩;refine ⟨_,rfl,?_⟩;replace d:=d.thaw (Xs .u32) c ((Fz.refl (col:=j)).froz 2) (by decide);replace c:=c.thawR (col:=j);generalize Xn A.heap.size j D=ab at *;replace b:=(b.gr t).gr c;refine Xf b ?_;intro ac u E F;refine go ?_;cases hm;replace a:=((a.grow t).grow c).kp u E;replace d:=d.kp u;exact ⟨rfl,_,ra F.atN,_,_,_,rfl,a.fin (cm [(3,c1)]),a.fo d⟩
 obtain ⟨ad,G,hm⟩:=bZ hm;refine Zh (Zp1 (col:=s) 4 G) ?_;rintro _ ae ⟨H,af,ag,rfl,v,k⟩;refine ⟨_,rfl,?_⟩;refine U8 (col:=H) [1] 5 ?_;intro ah I l n J;obtain ⟨ai,K,hm⟩:=bZ hm;replace k:=k.gr n;refine Zh (Zx8 6 K ((k.toSlF (Zk.int .u32)).froz 5) ((J.froz 4 (by decide)).toSlF (Zk.int .u32))) ?_;rintro _ L ⟨M,aj,ak,rfl,f,o⟩;refine ⟨_,rfl,?_⟩;replace o:=o.thaw (Xs .u32) f (((Fz.refl (col:=l)).froz 4).froz 5) (by decide);replace f:=f.thawR (col:=l);generalize Xn I.heap.size l M=p at *;obtain ⟨al,O,hm⟩:=bZ hm;refine Zh (Zms 7 O (o.toSlF (Zk.int .u32))) ?_;rintro _ am ⟨P,an,ao,rfl,g,i⟩;refine ⟨_,rfl,?_⟩;replace i:=i.thaw (Xs .u32) g ((Fz.refl (col:=p)).froz 6) (by decide);replace g:=g.thawR (col:=p);generalize Xn L.heap.size p P=ap at *;replace b:=(((b.gr v).gr n).gr f).gr g;refine Xf b ?_;intro aq w Q R;refine go ?_;cases hm;replace a:=((((a.grow v).grow n).grow f).grow g).kp w Q;replace i:=i.kp w;exact ⟨rfl,_,ra R.atN,_,_,_,rfl,a.fin (cm [(7,c1)]),a.fo i⟩
def Ze9 (N:Nat) (a:(Bool×List Int)):Option (Bool×List Int):=
  (Zck N a.1 a.2).bind fun b=>some (b.1,b.2)
theorem Zp4 {N i:Nat} {j:Option Addr} {col:Zd} {w0:World} {b r:(Bool×List Int)} (c1:Nat) (hm:Ze9 N b=some r) (d:Sl (Za.int .u32) col w0 j i b.2):
    Calls prog 136 #[(.agg #[.bool b.1,.slice j b.2.length i])] w0 (fun e w'=>∃ (col':Zd) (ra1:Option Addr) (rc2:Nat),e= .returned ((.agg #[.bool r.1,.slice ra1 r.2.length rc2]))∧Zg col w0 col' w'∧Zc (Za.int .u32) 200 c1 col' w' ra1 rc2 r.2):=by
 refine Wx (m:=8) func136 O O O ?_;rw [Ze9.eq_1] at hm;have a:=St.start col w0;refine go ?_;refine Yj (col:=(Zi col)) 1 O ?_;intro v w o p c;refine Xz (col:=o) #[.bool false,.slice none (([]:List Int).length) 0] 2 zeroValue122 ?_;intro x y A k f;refine go ?_;refine Zv ⟨_,_,O⟩ ?_;replace c:=c.gr k;refine lW ((c.atN).nth (q:=0) O)<|Zz c ?_;obtain ⟨B,s,hm⟩:=bZ hm;replace d:=d.keep (Zl.start col w0);replace a:=(a.grow p).grow k;refine Zh (Zms 3 s (d.ks a)) ?_;rintro _ C ⟨D,E,F,rfl,l,g⟩;refine ⟨_,O,?_⟩;replace f:=f.gr l;refine Xf f ?_;intro G n t u;refine go ?_;cases hm;replace a:=(a.grow l).kp n t;replace g:=g.kp n;exact ⟨O,_,ra u.atN,_,_,_,O,a.fin (cm [(3,c1)]),a.fo g⟩
def Zhs (N:Nat) (a:(Bool×List Int)):Option Int:=
  (Ze9 N (a.1,a.2)).bind fun b=>if (decide ((b.2.length:Int)=0))=true then (some 0) else (if b.1=true then (some (-1)) else (some 1))
theorem Zyc {N d:Nat} {f:Option Addr} {col:Zd} {w0:World} {b:(Bool×List Int)} {r:Int} (hm:Zhs N b=some r) (c:Sl (Za.int .u32) col w0 f d b.2):
    Calls prog 113 #[(.agg #[.bool b.1,.slice f b.2.length d])] w0 (fun e w'=>e= .returned ((.int .i64 r))∧Below w0.heap.size w0 w'):=by
 refine Z5 2 (m:=12) func113 O O O O O ?_;rw [Zhs.eq_1] at hm;have a:=St.start col w0;refine go ?_;refine Yj (col:=(Zi col)) 1 O ?_;intro t u v i j;refine go ?_;refine lV _ (Xx isAgg122 sizeOf122 j) ?_;obtain ⟨w,k,hm⟩:=bZ hm;replace c:=c.keep (Zl.start col w0);replace a:=a.grow i;refine Zh (Zp4 2 k (c.ks a)) ?_;rintro _ x ⟨l,y,A,rfl,n,B⟩;refine ⟨_,O,?_⟩;refine Xz (col:=l) #[.bool false,.slice none (([]:List Int).length) 0] 3 zeroValue122 ?_;intro C D E o p;refine Xf p ?_;intro F q s g;refine go ?_;refine Zz g ?_;refine go ?_;replace a:=((a.grow n).grow o).kp q s;refine Zm hm (fun hb hm=>go ?_) fun hb hm=>go ?_
 ·cases hm;exact ⟨O,O,a.below⟩
 refine Zz g<|Zj ?_;refine Zm hm (fun hb hm=>go ?_) fun hb hm=>go ?_
 ·cases hm;exact ⟨O,O,a.below⟩
 cases hm;exact ⟨O,O,a.below⟩
def Zht (N:Nat) (a:(Bool×List Int)) (b:List Int):Option ((Bool×List Int)×List Int):=
  (Zhp N a.2 b).bind fun c=>(Zey N a.2 c).bind fun e=>(Zey N b c).bind fun f=>(Ze9 N (a.1,e.1)).bind fun d=>(Ud N f.1).bind fun g=>some ((d.1,d.2),g)
theorem Zyf {N G H:Nat} {I a1:Option Addr} {col:Zd} {w0:World} {k:(Bool×List Int)} {v:(List Int)} {r:((Bool×List Int)×List Int)} (c1 c2:Nat) (hm:Zht N k v=some r) (t:Sl (Za.int .u32) col w0 I G k.2) (h1:Sl (Za.int .u32) col w0 a1 H v):
    Calls prog 114 #[(.agg #[.bool k.1,.slice I k.2.length G]),.slice a1 v.length H] w0 (fun e w'=>∃ (col':Zd) (ra1:Option Addr) (rc2:Nat) (ra4:Option Addr) (rc5:Nat),e= .returned ((.agg #[.bool r.1.1,.slice ra1 r.1.2.length rc2,.slice ra4 r.2.length rc5]))∧Zg col w0 col' w'∧Zc (Za.int .u32) 200 c1 col' w' ra1 rc2 r.1.2∧Zc (Za.int .u32) 200 c2 col' w' ra4 rc5 r.2):=by
 refine Wx (m:=39) func114 rfl rfl rfl ?_;rw [Zht.eq_1] at hm;have a:=St.start col w0;refine go ?_;refine Yj (col:=(Zi col)) 1 rfl ?_;intro ao ap S T b;refine Xz (col:=S) #[.bool false,.slice none (([]:List Int).length) 0,.slice none (([]:List Int).length) 0] 2 zeroValue124 ?_;intro aq ar au J w;refine go ?_;refine Zv ⟨_,_,rfl⟩ ?_;replace b:=b.gr J;refine lW ((b.atN).nth (q:=1) rfl)<|W2 rfl ?_;obtain ⟨av,U,hm⟩:=bZ hm;replace t:=t.keep (Zl.start col w0);replace h1:=h1.keep (Zl.start col w0);replace a:=(a.grow T).grow J;refine Zh (Zyb 3 U (t.ks a) (h1.ks a)) ?_;rintro _ V ⟨x,aw,ax,rfl,y,u⟩;refine ⟨_,rfl,go ?_⟩;refine Zv ⟨_,_,rfl⟩ ?_;replace b:=b.gr y;refine lW ((b.atN).nth (q:=1) rfl)<|W2 rfl ?_;obtain ⟨c,W,hm⟩:=bZ hm;replace a:=a.grow y;refine Zh (Zp0 4 5 W ((t.ks a).froz 3) (u.toSlF (Zk.int .u32))) ?_;rintro _ X ⟨Y,A,B,K,L,rfl,d,n,ay⟩;refine ⟨_,rfl,?_⟩;replace n:=n.thaw (Xs .u32) d ((Fz.refl (col:=x)).froz 3) (by decide);replace d:=d.thawR (col:=x);generalize Xn V.heap.size x Y=C at *;refine lM (.tuple #[.slice A c.1.length B,.slice K c.2.1.length L,.int .i64 c.2.2])<|lV (.slice A c.1.length B) (Xl rfl rfl)<|lV (.slice K c.2.1.length L) (Xl rfl rfl)<|lV (.int .i64 c.2.2) (Xl rfl rfl)<|go ?_;obtain ⟨g,Z,hm⟩:=bZ hm;replace u:=u.gr d;replace a:=a.grow d;refine Zh (Zp0 6 7 Z ((h1.ks a).froz 3) (u.toSlF (Zk.int .u32))) ?_;rintro _ aa ⟨ab,M,O,P,Q,rfl,f,o,az⟩;refine ⟨_,rfl,?_⟩;replace o:=o.thaw (Xs .u32) f ((Fz.refl (col:=C)).froz 3) (by decide);replace f:=f.thawR (col:=C);generalize Xn X.heap.size C ab=D at *;refine lM (.tuple #[.slice M g.1.length O,.slice P g.2.1.length Q,.int .i64 g.2.2])<|lV (.slice M g.1.length O) (Xl rfl rfl)<|lV (.slice P g.2.1.length Q) (Xl rfl rfl)<|lV (.int .i64 g.2.2) (Xl rfl rfl)<|go ?_;refine Zv ⟨_,_,rfl⟩ ?_;replace b:=(b.gr d).gr f
 refine lW ((b.atN).nth (q:=0) rfl)<|W2 rfl<|lV (.agg #[.bool k.1,.slice A c.1.length B]) (Y6 (l:=[_,_]) (qs:=[(0,1),(1,1)]) underlying122 zeroValue122 ⟨rfl,sizeOf4,rfl,sizeOf120,trivial⟩ rfl) ?_;obtain ⟨R,ac,hm⟩:=bZ hm;replace n:=n.gr f;refine Zh (Zp4 8 ac (n.toSlF (Zk.int .u32))) ?_;rintro _ ad ⟨ae,af,ag,rfl,i,p⟩;refine ⟨_,rfl,?_⟩;replace p:=p.thaw (Xs .u32) i ((Fz.refl (col:=D)).froz 4) (by decide);replace i:=i.thawR (col:=D);generalize Xn aa.heap.size D ae=E at *;refine W2 rfl ?_;obtain ⟨ah,ai,hm⟩:=bZ hm;replace o:=o.gr i;refine Zh (Tk 9 ai (o.toSlF (Zk.int .u32))) ?_;rintro _ a0 ⟨aj,ak,al,rfl,j,s⟩;refine ⟨_,rfl,?_⟩;replace s:=s.thaw (Xs .u32) j ((Fz.refl (col:=E)).froz 6) (by decide);replace j:=j.thawR (col:=E);generalize Xn ad.heap.size E aj=a2 at *;refine lV (.agg #[.bool R.1,.slice af R.2.length ag,.slice ak ah.length al]) (Y6 (l:=[_,_]) (qs:=[(0,2),(2,1)]) underlying124 zeroValue124 ⟨rfl,sizeOf122,rfl,sizeOf120,trivial⟩ rfl) ?_;replace w:=((((w.gr y).gr d).gr f).gr i).gr j;refine Xf w ?_;intro a3 F am an;refine go ?_;cases hm;replace a:=(((a.grow f).grow i).grow j).kp F am;replace p:=(p.gr j).kp F;replace s:=s.kp F;exact ⟨rfl,_,ra an.atN,_,_,_,_,_,rfl,a.fin (cm [(8,c1),(9,c2)]),a.fo p,a.fo s⟩

end Go.Proofs.YtdpdogdkolblnaaGreatDoor
