/-
  What functions of the program compute, as plain Lean functions (m_..), and proofs that they compute it (c_..). Printed by a program of the author; no conditions.
-/
import Derived.Test.YtbmjpjhbankpoaaGreatQueryCheckBFloat
import Derived.Test.YtbmjpjhbankpoaaGreatProg
import Derived.Test.YtbmjpjhbankpoaaGreatQueryCheckF3
set_option linter.unusedVariables false
set_option maxRecDepth 100000
set_option maxHeartbeats 2000000
namespace Go.Proofs.YtbmjpjhbankpoaaGreat
open Go Go.RowKit
open Go.IntKind (i8 i16 i32 i64 u8 u16 u32 u64)
open Go.Proofs.Tryz

theorem Zwc (g:Int) (u:List Int):Zhi g u=Q1 g u:=rfl
theorem Zn7 (j0 n0:Nat) (v:List Int) (g:Int):∀ (l:List Int) (k:Nat) (u:List Int) (c:Int),Za6 j0 n0 v g l k u c=Te j0 n0 v (u64.wrap (g - 1)) l k u c
 | [],k,u,c=>by rw [Za6.eq_1,Te.eq_1];rfl
 | x :: l,k,u,c=>by
  rw [Za6.eq_2,Te.eq_2]
  simp only [Zn7 j0 n0 v g l]
theorem Zn6 (j0 n0:Nat) (v:List Int) (g:Int):∀ (l:List Int) (k:Nat) (u:List Int) (b c:Int),Sj j0 n0 v g l k u b c=V8 j0 n0 v (u64.wrap (g - 1)) l k u b c
 | [],k,u,b,c=>by
  rw [Sj.eq_1,V8.eq_1]
  simp only [Zn7,Zwc]
 | x :: l,k,u,b,c=>by
  rw [Sj.eq_2,V8.eq_2]
  simp only [Zhj,Zcj,Zjm,Zhk,Zn6 j0 n0 v g l]
theorem Zp5 {x:Int} (h:0≤x∧x<18446744073709551616):Vc .u64 x 4294967295=x % 4294967296:=by
 have e:x=(x.toNat:Int):=by omega
 rw [Vc,BitVec.toNat_and,e,Zd1 _ _ (by simp only [IntKind.bits];omega),show (4294967295:Int)=((2 ^ 32 - 1:Nat):Int) by decide,Zd1 _ _ (by simp only [IntKind.bits];omega),Nat.and_two_pow_sub_one_eq_mod,IntKind.wrap_u64]
 omega
theorem Zt4 (S S' S2 Q e v x c c' L T:Nat) (h1:S'+Q * e=S+Q * v) (h2:c+(e+x)=v+4294967296 * c') (h3:S2+T=S'+Q * 4294967296 * (c'+L)):S2+T=S+Q * (c+(x+4294967296 * L)):=by
 have:Q * (c+(e+x))=Q * (v+4294967296 * c'):=by rw [h2]
 grind
theorem Zg1 {l:List Int} {k j:Nat} (v:Int) (h:k<j):(l.set k v).drop j=l.drop j:=Sd v h
theorem Zn9 (j0:Nat) (v:List Int) (g:Int):∀ (l:List Int) (k:Nat) (u:List Int) (c:Int),Zw l→k+l.length=v.length→Zw u→j0+v.length<u.length→0≤c∧c≤1→
  ∃ u' co,Te j0 (v.length+1) v g l k u c=some (u32.wrap (u64.wrap (g - 1)),u')∧u'.length=u.length∧Zw u'∧u'.take j0=u.take j0∧u'.drop (j0+v.length+1)=u.drop (j0+v.length+1)∧Ze u'+co * 4294967296 ^ (j0+v.length+1)=Ze u+4294967296 ^ (j0+k) * (c.toNat+Ze l)
 | [],k,u,c,_,hk,hu,hl,hc=>by
  have hk':k=v.length:=by simpa using hk
  subst hk'
  have g0:=hu.get hl
  rw [Te.eq_1,Xj (by omega),show (j0:Int)+(v.length:Int)=((j0+v.length:Nat):Int) by omega,Xg hl,Option.bind_some,Xj (by omega),Option.bind_some,Option.bind_some,Int.toNat_natCast,Q1,V4 (x:=c) (by omega)]
  have hw:0≤u32.wrap (u[j0+v.length]+c)∧u32.wrap (u[j0+v.length]+c)<4294967296:=by rw [IntKind.wrap_u32];omega
  refine ⟨_,((u[j0+v.length]+c) / 4294967296).toNat,rfl,by rw [List.length_set],hu.set _ hw,Zbw _ (by omega),Zg1 _ (by omega),?_⟩
  have h1:=U0 hl (u32.wrap (u[j0+v.length]+c))
  have h2:(u[j0+v.length]).toNat+c.toNat=(u32.wrap (u[j0+v.length]+c)).toNat+4294967296 * ((u[j0+v.length]+c) / 4294967296).toNat:=by rw [IntKind.wrap_u32];omega
  rw [Nat.pow_succ,Yx]
  generalize 4294967296 ^ (j0+v.length)=Q at *
  have h3:Q * ((u[j0+v.length]).toNat+c.toNat)=Q * ((u32.wrap (u[j0+v.length]+c)).toNat+4294967296 * ((u[j0+v.length]+c) / 4294967296).toNat):=by rw [h2]
  grind
 | x :: l,k,u,c,hx,hk,hu,hl,hc=>by
  rw [List.length_cons] at hk
  have hjk:j0+k<u.length:=by omega
  have g0:=hu.get hjk
  have gx:=hx.head
  rw [Te.eq_2,Xj (by omega),show (j0:Int)+(k:Int)=((j0+k:Nat):Int) by omega,Xg hjk,Option.bind_some,Xj (by omega),Option.bind_some,Option.bind_some,Int.toNat_natCast,Xy (x:=u[j0+k]) (by omega),Xy (x:=x) (by omega),Xy (x:=u[j0+k]+x) (by omega),Xy (by omega),Zdt]
  generalize hs:c+(u[j0+k]+x)=s
  have hw:0≤u32.wrap s∧u32.wrap s<4294967296:=by rw [IntKind.wrap_u32];omega
  obtain ⟨u',co,q1,q2,q3,q4,q5,q6⟩:=Zn9 j0 v g l (k+1) (u.set (j0+k) (u32.wrap s)) (s / 4294967296) hx.tail (by omega) (hu.set _ hw) (by rw [List.length_set];exact hl) (by omega)
  refine ⟨u',co,q1,by rw [q2,List.length_set],q3,by rw [q4,Zbw _ (by omega)],by rw [q5,Zg1 _ (by omega)],?_⟩
  rw [Wh]
  rw [← Nat.add_assoc j0 k 1,Nat.pow_succ] at q6
  exact Zt4 _ _ _ _ _ _ _ _ _ _ _ (U0 hjk _) (by rw [IntKind.wrap_u32];omega) q6
theorem Zyc (S S' S2 Q e w x g b b' c c' t L T:Nat) (h1:S'+Q * e=S+Q * w) (h2:c+g * x=t+4294967296 * c') (h3:e+4294967296 * b'=t+b+w) (h4:S2+Q * 4294967296 * (c'+b'+g * L)=S'+T):S2+Q * (c+b+g * (x+4294967296 * L))=S+T:=by
 have e1:Q * (c+g * x)=Q * (t+4294967296 * c'):=by rw [h2]
 have e2:Q * (e+4294967296 * b')=Q * (t+b+w):=by rw [h3]
 grind
theorem Zn8 (j0:Nat) (v:List Int) (g:Int) (hg:0≤g∧g<4294967296):∀ (l:List Int) (k:Nat) (u:List Int) (b c:Int),Zw l→k+l.length=v.length→Zw u→j0+v.length<u.length→0≤b∧b≤1→0≤c∧c<4294967296→
  ∃ u' over,over≤1∧V8 j0 (v.length+1) v g l k u b c=(if over=1 then Te j0 (v.length+1) v g v 0 u' 0 else Q1 g u')∧u'.length=u.length∧Zw u'∧u'.take j0=u.take j0∧u'.drop (j0+v.length+1)=u.drop (j0+v.length+1)∧
   Ze u'+4294967296 ^ (j0+k) * (c.toNat+b.toNat+g.toNat * Ze l)=Ze u+over * 4294967296 ^ (j0+v.length+1)
 | [],k,u,b,c,_,hk,hu,hl,hb,hc=>by
  have hk':k=v.length:=by simpa using hk
  subst hk'
  have g0:=hu.get hl
  rw [V8.eq_1,Xj (by omega),show (j0:Int)+(v.length:Int)=((j0+v.length:Nat):Int) by omega,Xg hl,Option.bind_some,Xj (by omega),Option.bind_some,Xj (by omega),Option.bind_some,Option.bind_some,Int.toNat_natCast,Xy (x:=c+b) (by omega),Xy (x:=u[j0+v.length]) (by omega)]
  have hw:0≤u32.wrap (u[j0+v.length] - u32.wrap (c+b))∧u32.wrap (u[j0+v.length] - u32.wrap (c+b))<4294967296:=by rw [IntKind.wrap_u32];omega
  have h1:=U0 hl (u32.wrap (u[j0+v.length] - u32.wrap (c+b)))
  have fin:∀ over:Nat,(u[j0+v.length]).toNat+4294967296 * over=c.toNat+b.toNat+(u32.wrap (u[j0+v.length] - u32.wrap (c+b))).toNat→Ze (u.set (j0+v.length) (u32.wrap (u[j0+v.length] - u32.wrap (c+b))))+4294967296 ^ (j0+v.length) * (c.toNat+b.toNat+g.toNat * Ze [])=Ze u+over * 4294967296 ^ (j0+v.length+1):=fun over h2=>by
   rw [Nat.pow_succ,Yx]
   generalize 4294967296 ^ (j0+v.length)=Q at *
   have h3:Q * ((u[j0+v.length]).toNat+4294967296 * over)=Q * (c.toNat+b.toNat+(u32.wrap (u[j0+v.length] - u32.wrap (c+b))).toNat):=by rw [h2]
   grind
  by_cases hlt:u[j0+v.length]<c+b
  ·refine ⟨_,1,Nat.le_refl _,by rw [if_pos (by simpa using hlt),if_pos rfl],by rw [List.length_set],hu.set _ hw,Zbw _ (by omega),Zg1 _ (by omega),fin 1 (by rw [IntKind.wrap_u32,IntKind.wrap_u32];omega)⟩
  ·refine ⟨_,0,by decide,by rw [if_neg (by simpa using hlt),if_neg (by decide)],by rw [List.length_set],hu.set _ hw,Zbw _ (by omega),Zg1 _ (by omega),fin 0 (by rw [IntKind.wrap_u32,IntKind.wrap_u32];omega)⟩
 | x :: l,k,u,b,c,hx,hk,hu,hl,hb,hc=>by
  rw [List.length_cons] at hk
  have hjk:j0+k<u.length:=by omega
  have g0:=hu.get hjk
  have gx:=hx.head
  have hm:g * x≤4294967295 * 4294967295:=Int.mul_le_mul (by omega) (by omega) (by omega) (by omega)
  have hm0:0≤g * x:=Int.mul_nonneg hg.1 gx.1
  have hgx:((g.toNat * x.toNat:Nat):Int)=g * x:=by rw [Int.natCast_mul,Int.toNat_of_nonneg hg.1,Int.toNat_of_nonneg gx.1]
  rw [V8.eq_2,Xj (by omega),show (j0:Int)+(k:Int)=((j0+k:Nat):Int) by omega,Xg hjk,Option.bind_some,Xy (x:=u[j0+k]) (by omega),Xy (x:=x) (by omega),Xy (x:=g * x) (by omega),Xy (x:=c+g * x) (by omega),Zp5 (by omega)]
  generalize ht0:c+g * x=t0
  rw [Xy (x:=t0 % 4294967296+b) (by omega)]
  have fin:∀ b':Int,0≤b'∧b'≤1→u[j0+k]+4294967296 * b'=t0 % 4294967296+b+u32.wrap (u[j0+k] - u32.wrap (t0 % 4294967296+b))→
    ∃ u' over,over≤1∧Zcj j0 (v.length+1) g u b k c (V8 j0 (v.length+1) v g l) x b'=(if over=1 then Te j0 (v.length+1) v g v 0 u' 0 else Q1 g u')∧u'.length=u.length∧Zw u'∧u'.take j0=u.take j0∧u'.drop (j0+v.length+1)=u.drop (j0+v.length+1)∧
     Ze u'+4294967296 ^ (j0+k) * (c.toNat+b.toNat+g.toNat * Ze (x :: l))=Ze u+over * 4294967296 ^ (j0+v.length+1):=fun b' hb' h3=>by
   have hw:0≤u32.wrap (u[j0+k] - u32.wrap (t0 % 4294967296+b))∧u32.wrap (u[j0+k] - u32.wrap (t0 % 4294967296+b))<4294967296:=by rw [IntKind.wrap_u32];omega
   obtain ⟨u',over,q0,q1,q2,q3,q4,q5,q6⟩:=Zn8 j0 v g hg l (k+1) (u.set (j0+k) (u32.wrap (u[j0+k] - u32.wrap (t0 % 4294967296+b)))) b' (t0 / 4294967296) hx.tail (by omega) (hu.set _ hw) (by rw [List.length_set];exact hl) hb' (by omega)
   refine ⟨u',over,q0,?_,by rw [q2,List.length_set],q3,by rw [q4,Zbw _ (by omega)],by rw [q5,Zg1 _ (by omega)],?_⟩
   ·rw [Zcj,Xj (by omega),show (j0:Int)+(k:Int)=((j0+k:Nat):Int) by omega,Xg hjk,Option.bind_some,Xj (by omega),Option.bind_some,Option.bind_some,Int.toNat_natCast,Xy (x:=x) (by omega),Xy (x:=g * x) (by omega),Xy (x:=c+g * x) (by omega),Zp5 (by omega),ht0,Xy (x:=t0 % 4294967296+b) (by omega),Zdt,Zhk]
    exact q1
   ·rw [Wh]
    rw [← Nat.add_assoc j0 k 1,Nat.pow_succ] at q6
    exact Zyc _ _ _ _ _ _ _ _ _ _ _ _ (t0 % 4294967296).toNat _ _ (U0 hjk _) (by omega) (by omega) q6
  by_cases hlt:u[j0+k]<t0 % 4294967296+b
  ·rw [if_pos (by simpa using hlt)]
   exact fin 1 (by omega) (by rw [IntKind.wrap_u32,IntKind.wrap_u32];omega)
  ·rw [if_neg (by simpa using hlt)]
   exact fin 0 (by omega) (by rw [IntKind.wrap_u32,IntKind.wrap_u32];omega)
structure Zgs (U V E v1 v2 u2 top lU lV:Nat):Prop where
 hU:U=lU+E * (u2+4294967296 * top)
 hV:V=lV+E * (v2+4294967296 * v1)
 lu:lU<E
 lv:lV<E
 b2:u2<4294967296
 c2:v2<4294967296
 c1:v1<4294967296
 big:2147483648≤v1
 lt:U<4294967296 * V
namespace Zgs
variable {U V E v1 v2 u2 top lU lV:Nat} (t:Zgs U V E v1 v2 u2 top lU lV)
include t
theorem Vpos:0<V:=by
 have:=t.lt
 have:=t.lu
 omega
theorem uE:U<E * 4294967296 * (top+1):=by
 have h1:E * (u2+1)≤E * 4294967296:=Nat.mul_le_mul_left _ t.b2
 have h2:=t.hU;have:=t.lu
 have e:E * (u2+4294967296 * top)=E * u2+E * 4294967296 * top:=by grind
 rw [e] at h2
 rw [Nat.mul_add] at h1 ⊢
 omega
theorem Eu:E * 4294967296 * top≤U:=by
 have h2:=t.hU
 have e:E * (u2+4294967296 * top)=E * u2+E * 4294967296 * top:=by grind
 omega
theorem vE:V<E * 4294967296 * (v1+1):=by
 have h1:E * (v2+1)≤E * 4294967296:=Nat.mul_le_mul_left _ t.c2
 have h2:=t.hV;have:=t.lv
 have e:E * (v2+4294967296 * v1)=E * v2+E * 4294967296 * v1:=by grind
 rw [Nat.mul_add] at h1 ⊢
 omega
theorem Ev:E * 4294967296 * v1≤V:=by
 have h2:=t.hV
 have e:E * (v2+4294967296 * v1)=E * v2+E * 4294967296 * v1:=by grind
 omega
theorem Epos:0<E:=by have:=t.lu;omega
theorem first:U / V≤top / v1:=by
 have hv:0<v1:=by have:=t.big;omega
 rw [Nat.le_div_iff_mul_le hv]
 have h1:U / V * V≤U:=Nat.div_mul_le_self U V
 have h2:U / V * (E * 4294967296 * v1)≤U / V * V:=Nat.mul_le_mul_left _ t.Ev
 have h3:E * 4294967296 * (U / V * v1)<E * 4294967296 * (top+1):=by
  have e:E * 4294967296 * (U / V * v1)=U / V * (E * 4294967296 * v1):=by
   generalize U / V=q
   grind
  rw [e]
  have:=t.uE
  omega
 have:=Nat.lt_of_mul_lt_mul_left h3
 omega
theorem quo:U / V<4294967296:=(Nat.div_lt_iff_lt_mul t.Vpos).2 t.lt
theorem great {g r:Nat} (h:g * v1+r=top) (h2:r * 4294967296+u2<g * v2):U / V<g:=by
 rw [Nat.div_lt_iff_lt_mul t.Vpos]
 have h3:u2+4294967296 * top+1≤g * (v2+4294967296 * v1):=by
  have:4294967296 * (g * v1+r)=4294967296 * top:=by rw [h]
  have e:g * (v2+4294967296 * v1)=g * v2+4294967296 * (g * v1):=by grind
  rw [e];omega
 have h4:=Nat.mul_le_mul_left E h3
 have h5:E * (g * (v2+4294967296 * v1))≤g * V:=by
  have:=t.hV
  have e:g * V=g * lV+E * (g * (v2+4294967296 * v1)):=by rw [this];grind
  omega
 have:=t.hU;have:=t.lu
 rw [Nat.mul_add] at h4
 omega
theorem fine {g r:Nat} (hg:g<4294967296) (h:g * v1+r=top) (h2:g * v2≤r * 4294967296+u2):g * V<U+V:=by
 have h3:g * (v2+4294967296 * v1)≤u2+4294967296 * top:=by
  have:4294967296 * (g * v1+r)=4294967296 * top:=by rw [h]
  have e:g * (v2+4294967296 * v1)=g * v2+4294967296 * (g * v1):=by grind
  rw [e];omega
 have h4:=Nat.mul_le_mul_left E h3
 have e:g * V=g * lV+E * (g * (v2+4294967296 * v1)):=by rw [t.hV];grind
 have h5:g * lV≤4294967295 * E:=Nat.mul_le_mul (by omega) (by have:=t.lv;omega)
 have h6:E * 4294967296 * 1≤E * 4294967296 * v1:=Nat.mul_le_mul_left _ (by have:=t.big;omega)
 have:=t.Ev;have:=t.hU;have:=t.Epos
 omega
theorem topv:top / 4294967296≤v1:=by
 have h1:=t.Eu
 have h2:=t.lt
 have h3:=t.vE
 have h4:E * 4294967296 * top<E * 4294967296 * (4294967296 * (v1+1)):=by
  have:E * 4294967296 * (4294967296 * (v1+1))=4294967296 * (E * 4294967296 * (v1+1)):=by grind
  omega
 have:=Nat.lt_of_mul_lt_mul_left h4
 omega
theorem over {g r:Nat} (h:g * v1+r=top) (hr:4294967296≤r):g<4294967296:=by
 have h1:=t.topv
 have h2:g * v1<4294967296 * v1:=by omega
 exact Nat.lt_of_mul_lt_mul_right h2
theorem stop {g r:Nat} (h:g * v1+r=top) (hr:4294967296≤r):g * V<U+V:=by
 have hg:=t.over h hr
 have h1:=t.vE
 have h2:g * V≤g * (E * 4294967296 * (v1+1)):=Nat.mul_le_mul_left _ (Nat.le_of_lt h1)
 have e:g * (E * 4294967296 * (v1+1))=E * 4294967296 * (g * v1+g):=by grind
 have h3:E * 4294967296 * (g * v1+g)≤E * 4294967296 * top:=Nat.mul_le_mul_left _ (by omega)
 have:=t.Eu;have:=t.Vpos
 omega
end Zgs
def Zmv (X:Option (Int×List Int)) (R:Nat→Option (Int×List Int)) (q U V:Nat):Prop:=∃ g:Nat,X=R g∧q≤g∧g<4294967296∧g * V<U+V
theorem Zn5 (N j0:Nat) (u v:List Int) (hu:Zw u) (hv:Zw v) (hn:2≤v.length) (hl:j0+v.length<u.length) (hs:v.length<4611686018427387904) {U V E lU lV top q:Nat} (hq:U / V=q)
  (t:Zgs U V E (v[v.length - 1]).toNat (v[v.length - 2]).toNat (u[j0+v.length - 2]).toNat top lU lV) (htop:top<18446744073709551616):
  ∀ (n g r:Nat),g * (v[v.length - 1]).toNat+r=top→q≤g→r<4294967296→4294967296≤r+2147483648 * n→
  Zmv (Tv N j0 (v.length+1) u v n (g:Int) (r:Int)) (fun g'=>V8 j0 (v.length+1) v (g':Int) v 0 u 0 0) q U V
 | 0,g,r,_,_,h3,h4=>by omega
 | n+1,g,r,h1,h2,h3,h4=>by
  have i1:v.length - 1<v.length:=by omega
  have i2:v.length - 2<v.length:=by omega
  have i3:j0+v.length - 2<u.length:=by omega
  have c1:=hv.get i1
  have c2:=hv.get i2
  have c3:=hu.get i3
  have hbig:=t.big
  have hgb:g≤top:=by
   have:g * 1≤g * (v[v.length - 1]).toNat:=Nat.mul_le_mul_left _ (by omega)
   omega
  -- one less
  have less:q<g→Zmv (Zhh j0 (v.length+1) u v (g:Int) (r:Int) (Tv N j0 (v.length+1) u v n)) (fun g'=>V8 j0 (v.length+1) v (g':Int) v 0 u 0 0) q U V:=fun hlt=>by
   have hg1:(g - 1) * (v[v.length - 1]).toNat+(r+(v[v.length - 1]).toNat)=top:=by
    have:(g - 1+1) * (v[v.length - 1]).toNat+r=top:=by rw [show g - 1+1=g by omega];exact h1
    rw [Nat.add_mul] at this
    omega
   have ew:u64.wrap ((g:Int) - 1)=((g - 1:Nat):Int):=by rw [Xy (by omega)];omega
   have er:u64.wrap ((r:Int)+u64.wrap v[v.length - 1])=((r+(v[v.length - 1]).toNat:Nat):Int):=by rw [Xy (x:=v[v.length - 1]) (by omega),Xy (by omega)];omega
   rw [Zhh,Z6 (by omega),show (v.length:Int) - 1=((v.length - 1:Nat):Int) by omega,Xg i1,Option.bind_some,er,ew]
   by_cases hb:4294967296≤r+(v[v.length - 1]).toNat
   ·rw [if_pos (decide_eq_true (by omega)),Zn6,ew]
    exact ⟨g - 1,rfl,by omega,t.over hg1 hb,t.stop hg1 hb⟩
   ·rw [if_neg (by rw [decide_eq_false (by omega)];decide)]
    exact Zn5 N j0 u v hu hv hn hl hs hq t htop n (g - 1) (r+(v[v.length - 1]).toNat) hg1 (by omega) (by omega) (by omega)
  have hquo:=t.quo
  rw [hq] at hquo
  rw [Tv.eq_2]
  by_cases hgb2:4294967295<g
  ·rw [if_pos (decide_eq_true (by omega)),Zci,if_pos rfl]
   exact less (by omega)
  ·have hm:g * (v[v.length - 2]).toNat≤4294967295 * 4294967295:=Nat.mul_le_mul (by omega) (by omega)
   have em:(g:Int) * v[v.length - 2]=((g * (v[v.length - 2]).toNat:Nat):Int):=by
    rw [Int.natCast_mul];congr 1;omega
   rw [if_neg (by rw [decide_eq_false (by omega)];decide),if_pos (decide_eq_true (by omega)),Z6 (by omega),show (v.length:Int) - 2=((v.length - 2:Nat):Int) by omega,Xg i2,Option.bind_some,Xj (by omega),show (j0:Int)+((v.length - 2:Nat):Int)=((j0+v.length - 2:Nat):Int) by omega,Xg i3,Option.bind_some,Zci,
    Xy (x:=u[j0+v.length - 2]) (by omega),Zkv (by omega) (by omega),Xy (x:=v[v.length - 2]) (by omega),em,Xy (by omega)]
   by_cases hc:r * 4294967296+(u[j0+v.length - 2]).toNat<g * (v[v.length - 2]).toNat
   ·rw [if_pos (decide_eq_true (by omega))]
    exact less (by rw [← hq];exact t.great h1 hc)
   ·rw [if_neg (by rw [decide_eq_false (by omega)];decide)]
    exact ⟨g,rfl,h2,by omega,t.fine (by omega) h1 (by omega)⟩
theorem Zln {u w:List Int} {j0 n P:Nat} (hP:4294967296 ^ (n+1)=P) (hl:j0+n<u.length) (hz:Ze (u.drop (j0+n+1))=0) (h1:w.length=u.length) (h2:Zw w) (h3:w.drop (j0+n+1)=u.drop (j0+n+1)):Ze (w.drop j0)<P:=by
 have:=T5 ((h2.drop j0).take (n+1))
 rw [List.length_take,List.length_drop,Nat.min_eq_left (by omega),hP] at this
 have e:=U1 (w.drop j0) (n+1)
 rw [hP,List.drop_drop,← Nat.add_assoc,h3,hz] at e
 omega
theorem Zoa {u w:List Int} {j0 n P Q x y:Nat} (hP:4294967296 ^ (n+1)=P) (hQ:4294967296 ^ j0=Q) (h4:w.take j0=u.take j0) (h:Ze w+Q * x=Ze u+y * 4294967296 ^ (j0+n+1)):Ze (w.drop j0)+x=Ze (u.drop j0)+y * P:=by
 have pw:(4294967296:Nat) ^ (j0+n+1)=Q * P:=by rw [← hQ,← hP,← Nat.pow_add,Nat.add_assoc]
 have hp:0<Q:=by rw [← hQ];exact Nat.pow_pos (by decide)
 have s0:=U1 u j0
 have s1:=U1 w j0
 rw [h4] at s1
 rw [hQ] at s0 s1
 rw [pw,s0,s1] at h
 clear pw hP hQ s0 s1 h4
 refine Nat.eq_of_mul_eq_mul_left hp ?_
 grind
theorem Zwd {U V P q g over P1:Nat} (hq:U / V=q) (hV:0<V) (hg1:q≤g) (hg3:g * V<U+V) (k1:P1+g * V=U+over * P) (p1:P1<P):
  (over=0→g=q∧P1=U % V)∧(over=1→g=q+1∧∀ P2 co,V<P→P2<P→P2+co * P=P1+V→P2=U % V):=by
 have hq0:V * q+U % V=U:=by rw [← hq];exact Nat.div_add_mod _ _
 have hq1:=Nat.mod_lt U hV
 have hmono:∀ x y:Nat,x<y→x * V+V≤y * V:=fun x y hxy=>by
  have:=Nat.mul_le_mul_right V (show x+1≤y from hxy)
  rw [Nat.add_mul,Nat.one_mul] at this;exact this
 rw [Nat.mul_comm] at hq0
 constructor
 ·intro ho
  subst ho
  have hgq:g=q:=by
   have a2:¬ q<g:=fun h=>by
    have:=hmono _ _ h
    omega
   omega
  subst hgq
  exact ⟨rfl,by omega⟩
 ·intro ho
  subst ho
  have hgq:g=q+1:=by
   have a1:¬ g≤q:=fun h=>by
    have:=Nat.mul_le_mul_right V h
    omega
   have a2:¬ q+1<g:=fun h=>by
    have:=hmono _ _ h
    rw [Nat.add_mul,Nat.one_mul] at this
    omega
   omega
  refine ⟨hgq,fun P2 co hvP p2 k2=>?_⟩
  have hgv:g * V=q * V+V:=by rw [hgq,Nat.add_mul,Nat.one_mul]
  have hco:co=1:=by
   rcases Nat.lt_trichotomy co 1 with h | h | h
   ·have:co=0:=by omega
    subst this;omega
   ·exact h
   ·have:=Nat.mul_le_mul_right P (show 2≤co from h)
    omega
  subst hco
  omega
theorem Zwe {N j0:Nat} {u v:List Int} (hN:2≤N) (hu:Zw u) (hv:Zw v) (hn:2≤v.length) (hl:j0+v.length<u.length) (hs:u.length<4611686018427387904)
  (hz:Ze (u.drop (j0+v.length+1))=0) (hbig:2147483648≤(v[v.length - 1]).toNat) (hlt:Ze (u.drop j0)<4294967296 * Ze v):
  ∃ u',Ze9 N j0 (v.length+1) u v=some (((Ze (u.drop j0) / Ze v:Nat):Int),u')∧u'.length=u.length∧Zw u'∧u'.take j0=u.take j0∧Ze (u'.drop j0)=Ze (u.drop j0) % Ze v∧Ze (u.drop j0) / Ze v<4294967296:=by
 have i1:v.length - 1<v.length:=by omega
 have i2:v.length - 2<v.length:=by omega
 have i3:j0+v.length - 2<u.length:=by omega
 have i4:j0+v.length - 1<u.length:=by omega
 have c1:=hv.get i1
 have c2:=hv.get i2
 have c3:=hu.get i3
 have c4:=hu.get i4
 have c5:=hu.get hl
 -- the Zm above
 have dV:Ze v=Ze (v.take (v.length - 2))+4294967296 ^ (v.length - 2) * ((v[v.length - 2]).toNat+4294967296 * (v[v.length - 1]).toNat):=by
  rw [U1 v (v.length - 2),Ua i2,show v.length - 2+1=v.length - 1 by omega,Ua i1,show v.length - 1+1=v.length by omega,List.drop_length,Yx];simp
 have dU:Ze (u.drop j0)=Ze ((u.drop j0).take (v.length - 2))+4294967296 ^ (v.length - 2) * ((u[j0+v.length - 2]).toNat+4294967296 * ((u[j0+v.length]).toNat * 4294967296+(u[j0+v.length - 1]).toNat)):=by
  have e3:j0+(v.length - 2)=j0+v.length - 2:=by omega
  rw [U1 (u.drop j0) (v.length - 2),List.drop_drop,e3,Ua i3,show j0+v.length - 2+1=j0+v.length - 1 by omega,Ua i4,show j0+v.length - 1+1=j0+v.length by omega,Ua hl,hz]
  congr 3
  omega
 have lV:=T5 (hv.take (v.length - 2))
 have lU:=T5 ((hu.drop j0).take (v.length - 2))
 rw [List.length_take,Nat.min_eq_left (by omega)] at lV
 rw [List.length_take,List.length_drop,Nat.min_eq_left (by omega)] at lU
 have t:Zgs (Ze (u.drop j0)) (Ze v) (4294967296 ^ (v.length - 2)) (v[v.length - 1]).toNat (v[v.length - 2]).toNat (u[j0+v.length - 2]).toNat ((u[j0+v.length]).toNat * 4294967296+(u[j0+v.length - 1]).toNat) _ _:=
  ⟨dU,dV,lU,lV,by omega,by omega,by omega,hbig,hlt⟩
 have hV:=t.Vpos
 have htop:(u[j0+v.length]).toNat * 4294967296+(u[j0+v.length - 1]).toNat<18446744073709551616:=by omega
 obtain ⟨q,hq⟩:∃ q,Ze (u.drop j0) / Ze v=q:=⟨_,rfl⟩
 obtain ⟨g,hg0,hg1,hg2,hg3⟩:=Zn5 N j0 u v hu hv hn hl (by omega) hq t htop N _ _ (Nat.div_add_mod' _ _) (by rw [← hq];exact t.first) (Nat.lt_of_lt_of_le (Nat.mod_lt _ (by omega)) (by omega)) (by omega)
 have e0:Ze9 N j0 (v.length+1) u v=V8 j0 (v.length+1) v (g:Int) v 0 u 0 0:=by
  refine Eq.trans ?_ hg0
  rw [Ze9,Xj (by omega),show (j0:Int)+(v.length:Int)=((j0+v.length:Nat):Int) by omega,Xg hl,Option.bind_some,Z6 (by omega),show (v.length:Int) - 1=((v.length - 1:Nat):Int) by omega,Xj (by omega),
   show (j0:Int)+((v.length - 1:Nat):Int)=((j0+v.length - 1:Nat):Int) by omega,Xg i4,Option.bind_some,Xg i1,Option.bind_some,Xy (x:=v[v.length - 1]) (by omega),Xj (by omega),Xj (by omega),Xy (x:=u[j0+v.length]) (by omega),Xy (x:=u[j0+v.length - 1]) (by omega),Zkv (by omega) (by omega)]
  have ev:v[v.length - 1]=((v[v.length - 1]).toNat:Int):=by omega
  have et:u[j0+v.length] * 4294967296+u[j0+v.length - 1]=(((u[j0+v.length]).toNat * 4294967296+(u[j0+v.length - 1]).toNat:Nat):Int):=by omega
  rw [et,ev,Int.tdiv_eq_ediv_of_nonneg (by omega),Int.tmod_eq_emod_of_nonneg (by omega),← Int.natCast_ediv,← Int.natCast_emod,Int.toNat_natCast]
  rw [Xy ⟨Int.natCast_nonneg _,Int.ofNat_lt.2 (Nat.lt_of_le_of_lt (Nat.div_le_self _ _) htop)⟩]
 obtain ⟨u1,over,q0,q1,q2,q3,q4,q5,q6⟩:=Zn8 j0 v (g:Int) (by omega) v 0 u 0 0 hv (by omega) hu hl (by omega) (by omega)
 have hquo:=t.quo
 rw [hq] at hquo ⊢
 rw [e0,q1]
 obtain ⟨P,hP⟩:∃ P:Nat,4294967296 ^ (v.length+1)=P:=⟨_,rfl⟩
 obtain ⟨Q,hQ⟩:∃ Q:Nat,4294967296 ^ j0=Q:=⟨_,rfl⟩
 simp only [Nat.add_zero,Int.toNat_zero,Int.toNat_natCast,Nat.zero_add] at q6
 rw [hQ] at q6
 have k1:=Zoa hP hQ q4 q6
 have p1:=Zln hP hl hz q2 q3 q5
 have hvP:Ze v<P:=by
  have:=T5 hv
  have h2:=Zln (u:=v++[0]) (w:=v++[0]) (j0:=0) (n:=v.length) hP (by simp) (by simp [Ze]) rfl (hv.app (.cons (by decide) .nil)) rfl
  rw [List.drop_zero,Zqw] at h2
  exact h2
 have k3:=Zwd hq hV hg1 hg3 k1 p1
 by_cases ho:over=1
 ·obtain ⟨e1,e2⟩:=k3.2 ho
  subst ho
  rw [if_pos rfl]
  obtain ⟨u2,co,r1,r2,r3,r4,r5,r6⟩:=Zn9 j0 v (g:Int) v 0 u1 0 hv (by omega) q3 (by omega) (by omega)
  have p2:=Zln hP hl hz (by omega) r3 (by rw [r5,q5])
  simp only [Nat.add_zero,Int.toNat_zero,Nat.zero_add] at r6
  rw [hQ] at r6
  have k2:=Zoa (u:=u2) (w:=u1) (x:=Ze v) (y:=co) hP hQ (by rw [r4]) r6.symm
  refine ⟨u2,?_,by omega,r3,by rw [r4,q4],e2 _ co hvP p2 k2.symm,hquo⟩
  rw [r1,Xy (by omega),V4 (by omega)]
  congr 2;omega
 ·obtain ⟨e1,e2⟩:=k3.1 (by omega)
  rw [if_neg ho,Q1,V4 (by omega)]
  exact ⟨u1,by rw [e1],q2,q3,q4,e2,hquo⟩
def Za4 (N:Nat):Nat→(List Int)→(List Int)→Option (List Int)
  | 0,_,_=>none
  | ac+1,ab,aa=>if (decide (0<(aa.length:Int)))=true then ((Zce N ab aa).bind fun ad=>(Za4 N ac) aa ad.2.1) else (some ab)
termination_by structural x=>x
def Zhg (N:Nat) (aa:List Int) (ab:List Int):Option (List Int):=
  (Um N aa).bind fun ac=>(Um N ab).bind fun ad=>Za4 N N ac ad
theorem Zuw (N:Nat) (c1:Nat) (col:Zh) (w0:World) (a0:Option Addr) (aq:Nat) (ao:List Int) (a1:Option Addr) (ar:Nat) (ap:List Int) (h0:Sl (Za.int .u32) col w0 a0 aq ao) (h1:Sl (Za.int .u32) col w0 a1 ar ap) (r:List Int) (hm:Zhg N ao ap=some r):
    Calls Tryz.prog 259 #[.slice a0 ao.length aq,.slice a1 ap.length ar] w0 (fun e w'=>∃ (col':Zh) (ra1:Option Addr) (rc2:Nat),e= .returned ((.slice ra1 r.length rc2))∧Zf col w0 col' w'∧Zl (Za.int .u32) 79 c1 col' w' ra1 rc2 r):=by
 refine Xv 4 (m:=25) func259 rfl rfl rfl rfl rfl ?_;rw [Zhg.eq_1] at hm;have aa:=St.start col w0;refine Zb<|Zd<|Zu rfl<|Zc<|Zb<|Zd<|Zk rfl ?_;obtain ⟨ax,a5,hm⟩:=bZ hm;replace h0:=h0.keep (Zp.start col w0);refine lc rfl rfl (Z7 call218 rfl) (Tl N 1 (Zo col) _ a0 aq ao (h0.ks aa) ax a5) ?_;rintro _ bl ⟨a6,a7,a8,rfl,a9,au⟩;refine ⟨_,rfl,?_⟩;refine Zk rfl ?_;obtain ⟨ay,ba,hm⟩:=bZ hm;replace h1:=h1.keep (Zp.start col w0);replace aa:=aa.grow a9;refine lc rfl rfl (Z7 call218 rfl) (Tl N 2 a6 _ a1 ar ap (h1.ks aa) ay ba) ?_;rintro _ bm ⟨bb,bc,bd,rfl,az,be⟩;refine ⟨_,rfl,?_⟩;refine Zu rfl<|Zu rfl<|Zc<|Zb<|Z0 ?_;replace au:=au.gr az;replace aa:=aa.grow az;refine Xi (fun n f ah=>∃ (ab:Zh) (ai:Option Addr) (aj:Nat) (ak:List Int) (al:Option Addr) (am:Nat) (ag:List Int) (ae:Nat),ae=n∧Za4 N ae ak ag=some r∧St w0 (Zo col) ab ah∧Zl (Za.int .u32) 79 1 ab ah ai aj ak∧Zl (Za.int .u32) 79 2 ab ah al am ag∧f 0=(.slice ai ak.length aj)∧f 1=(.slice al ag.length am)∧f 1000000=(enc [])) N ⟨bb,a7,a8,ax,bc,bd,ay,N,rfl,hm,aa,au,be,rfl,rfl,rfl⟩ ?_;clear hm;intro n f ah hI;obtain ⟨ab,ai,aj,ak,al,am,ag,ae,hn,hm,aa,a2,ac,bf,bg,bh⟩:=hI;subst hn;refine .lD 0 bf<|.lD 1 bg<|.lD 1000000 bh ?_
 cases ae with
 | zero=>rw [Za4.eq_1] at hm;cases hm
 | succ ae=>
  rw [Za4.eq_2] at hm;refine Zb<|Zb<|Zd<|Zk rfl<|lV _ (Zs underlying43 rfl)<|lV _ (Wa _ _ rfl rfl)<|Zc ?_;refine Zy _ rfl (fun hb=>?_) (fun hb=>?_)
  ·rw [if_pos hb] at hm;refine Zr<|Z0<|Zb<|Zd<|Zk rfl<|Zk rfl ?_;obtain ⟨ad,bi,hm⟩:=bZ hm;refine lc rfl rfl (Xa call260 rfl rfl) (Zla N 3 4 (Z3 2 (Z3 1 ab)) _ ai aj ak al am ag ((a2.toSlF (Z2.int .u32)).froz 2) ((ac.froz 1 (by decide)).toSlF (Z2.int .u32)) ad bi) ?_;rintro _ bn ⟨bj,a3,a4,av,aw,rfl,an,bo,af⟩;refine ⟨_,rfl,?_⟩;replace af:=af.thaw (Xz .u32) an (((Fz.refl (col:=ab)).froz 1).froz 2) (by decide);replace an:=an.thawR (col:=ab);generalize X1 ah.heap.size ab bj=bk at *;refine lM (.tuple #[.slice a3 ad.1.length a4,.slice av ad.2.1.length aw,.int .i64 ad.2.2])<|lV (.slice a3 ad.1.length a4) (Y4 rfl rfl)<|lV (.slice av ad.2.1.length aw) (Y4 rfl rfl)<|lV (.int .i64 ad.2.2) (Y4 rfl rfl)<|Zu rfl<|Zu rfl<|Zj rfl<|Zc<|Zd<|Zk rfl<|Zk rfl<|Zu rfl<|Zu rfl<|Zc ?_;replace ac:=ac.gr an;replace ac:=ac.recolSelf 1 (by decide);replace af:=af.recol 2 1 (by decide);replace aa:=aa.grow an;replace aa:=aa.recol 2 1 (by decide) (by decide);replace ac:=ac.recol 4 2 (by decide);replace af:=af.recolSelf 2 (by decide);replace aa:=aa.recol 4 2 (by decide) (by decide);exact ⟨ae,by omega,⟨(X7 4 2 (X7 2 1 bk)),al,am,ag,av,aw,ad.2.1,ae,rfl,hm,aa,ac,af,rfl,rfl,rfl⟩⟩
  rw [if_neg (Zz hb)] at hm;refine Xl (Xk ?_);refine Zb<|Zd<|Zk rfl<|Zu rfl<|Zc<|Zq ?_;cases hm;exact ⟨rfl,Xh w0.heap.size col ab (fun n=>bif Nat.beq n 1 then c1 else 0),ai,aj,rfl,aa.fin (fun n=>bif Nat.beq n 1 then c1 else 0),aa.finOwn (g:=(fun n=>bif Nat.beq n 1 then c1 else 0)) rfl a2 (by decide) (by decide) rfl⟩
theorem Ztn (N:Nat):∀ (n:Nat) (a:List Int),Q3 N n a=Tg N n a
 | 0,a=>rfl
 | n+1,a=>by
  rw [Q3.eq_2,Tg.eq_2]
  simp only [Zhm,Q2,Ztn N n]
theorem Zto {N:Nat} {a:List Int} (h:Zw a) (hn:a.length<N) (hb:a.length≤1099511627776):Zcl N a=some (Zm (Ze a)):=by
 rw [Zcl,Ztn];exact Zku N N a h hn (by omega)
theorem Zzn {x L nx s:Nat} (hs:s<32) (hx:x<4294967296) (hn:nx=L % 4294967296):(x+4294967296 * L) / 2 ^ s=(x+4294967296 * nx) / 2 ^ s % 4294967296+4294967296 * (L / 2 ^ s):=by
 have pw:(2:Nat) ^ s * 2 ^ (32 - s)=4294967296:=by rw [← Nat.pow_add,show s+(32 - s)=32 by omega]
 have hp:=Nat.two_pow_pos s
 generalize 2 ^ s=p at *
 generalize 2 ^ (32 - s)=r at *
 have h1:(x+4294967296 * L) / p / 4294967296=L / p:=by
  rw [Nat.div_div_eq_div_mul,Nat.mul_comm p,← Nat.div_div_eq_div_mul]
  congr 1
  omega
 have h2:(x+4294967296 * L) / p % 4294967296=(x+4294967296 * nx) / p % 4294967296:=by
  have e:x+4294967296 * L=x+4294967296 * nx+p * (4294967296 * (r * (L / 4294967296))):=by
   have e1:L=nx+4294967296 * (L / 4294967296):=by omega
   have e2:p * (4294967296 * (r * (L / 4294967296)))=4294967296 * (p * r) * (L / 4294967296):=by grind
   rw [e2,pw]
   omega
  rw [e,Nat.add_mul_div_left _ _ hp,Nat.add_mul_mod_self_left]
 rw [← h1,← h2]
 omega
theorem Zoc (N s:Nat) (hs:s<32) (q r:List Int) (hq:Zw q) (hr:Zw r) (hN:q.length<N∧r.length<N) (hb:q.length≤1099511627776∧r.length≤1099511627776):∀ (n i:Nat) (u d:List Int),i≤r.length→r.length<n+i→u=d++r.drop i→d.length=i→Zw d→Ze d+4294967296 ^ i * (Ze (r.drop i) / 2 ^ s)=Ze r / 2 ^ s→
  Tu N (s:Int) q r n u (i:Int)=some (Zm (Ze q),Zm (Ze r / 2 ^ s),0)
 | 0,i,u,d,h1,h2,_,_,_,_=>by omega
 | n+1,i,u,d,h1,h2,hu,hd,hld,hv=>by
  have hul:u.length=r.length:=by rw [hu,List.length_append,List.length_drop];omega
  rw [Tu.eq_2]
  by_cases hi:i<r.length
  ·have hdr:=List.drop_eq_getElem_cons hi
   have g:=hr.get hi
   have ui:u[i]'(by omega)=r[i]:=by
    subst hu
    rw [List.getElem_append_right (by omega)]
    simp [hd]
   have step:∀ nx:Nat,nx=Ze (r.drop (i+1)) % 4294967296→Ze7 (s:Int) u (i:Int) (Tu N (s:Int) q r n) (nx:Int)=some (Zm (Ze q),Zm (Ze r / 2 ^ s),0):=fun nx hnx=>by
    have hw:u32.wrap (X0 .u64 (Yi .u64 (Xt .u64 (u64.wrap (nx:Int)) 32) (u64.wrap r[i])) (s:Int))=(((r[i]).toNat+4294967296 * nx) / 2 ^ s % 4294967296:Nat):=by
     rw [Xy (x:=(nx:Int)) (by omega),Xy (x:=r[i]) (by omega),Zkv (by omega) (by omega),show (nx:Int) * 4294967296+r[i]=(((r[i]).toNat+4294967296 * nx:Nat):Int) by omega,Zkr _ _ _ (by simp only [IntKind.bits];omega),Ztv]
    have hset:u.set i ((((r[i]).toNat+4294967296 * nx) / 2 ^ s % 4294967296:Nat):Int)=(d++[((((r[i]).toNat+4294967296 * nx) / 2 ^ s % 4294967296:Nat):Int)])++r.drop (i+1):=by
     subst hu
     rw [hdr,List.set_append_right _ _ (by omega),hd,Nat.sub_self,List.set_cons_zero]
     simp
    rw [Ze7,Xg (by omega),Option.bind_some,Xj (by omega),ui,hw,Option.bind_some,Zjl,Z6 (by omega),Int.toNat_natCast,hset]
    have ih:=Zoc N s hs q r hq hr hN hb n (i+1) _ (d++[((((r[i]).toNat+4294967296 * nx) / 2 ^ s % 4294967296:Nat):Int)]) (by omega) (by omega) rfl (by simp [hd]) (hld.app (.cons (by omega) .nil)) (by
     rw [T4,hd,Wh,Yx,Int.toNat_natCast,← hv,hdr,Wh,Zzn hs (by omega) hnx,Nat.pow_succ]
     generalize ((r[i]).toNat+4294967296 * nx) / 2 ^ s % 4294967296=A
     generalize Ze (r.drop (i+1)) / 2 ^ s=C
     grind)
    exact ih
   rw [if_pos (decide_eq_true (by omega)),Z6 (by omega)]
   by_cases hi1:i+1<r.length
   ·have u1:u[i+1]'(by omega)=r[i+1]:=by
     subst hu
     rw [List.getElem_append_right (by omega)]
     simp [hd]
    have g1:=hr.get hi1
    rw [if_pos (decide_eq_true (by omega)),show (i:Int)+1=((i+1:Nat):Int) by omega,Xg (by omega),Option.bind_some,u1,show r[i+1]=((r[i+1]).toNat:Int) by omega]
    exact step _ (by rw [Ua hi1];omega)
   ·rw [if_neg (by rw [decide_eq_false (by omega)];decide)]
    have:=step 0 (by rw [List.drop_eq_nil_of_le (by omega)];rfl)
    exact this
  ·have:i=r.length:=by omega
   subst this
   rw [if_neg (by rw [decide_eq_false (by omega)];decide)]
   rw [List.drop_length,List.append_nil] at hu
   rw [List.drop_length,Yx,Nat.zero_div,Nat.mul_zero,Nat.add_zero] at hv
   subst hu
   rw [T6 hq hN.1 hb.1,Option.bind_some,T6 hld (by omega) (by omega),Option.bind_some,hv]
theorem Zob (N s:Nat) (v:List Int) (hN:2≤N) (hv:Zw v) (hn:2≤v.length) (hbig:2147483648≤(v[v.length - 1]).toNat):∀ (n j:Nat) (u q:List Int),j≤q.length→j<n→u.length=q.length+v.length→u.length<4611686018427387904→Zw u→Zw q→Ze (u.drop j)<Ze v→Ze (q.take j)=0→
  ∃ u' q',Zcf N (s:Int) v n u q ((j:Int) - 1)=((Zcl N u').bind fun r=>Tu N (s:Int) q' r N r 0)∧u'.length=u.length∧q'.length=q.length∧Zw u'∧Zw q'∧Ze u'<Ze v∧Ze v * Ze q'+Ze u'=Ze v * Ze q+Ze u
 | 0,j,u,q,_,h,_,_,_,_,_,_=>by omega
 | n+1,j,u,q,hj,hjn,hl,hs,hu,hq,hlt,hz=>by
  rw [Zcf.eq_2]
  by_cases h0:j=0
  ·subst h0
   rw [if_neg (by decide)]
   exact ⟨u,q,rfl,rfl,rfl,hu,hq,by simpa using hlt,rfl⟩
  ·have e1:j - 1+1=j:=by omega
   have hi:j - 1<u.length:=by omega
   have hqi:j - 1<q.length:=by omega
   have g:=hu.get hi
   have lv:=T5 hv
   have sp:=U1 (u.drop j) v.length
   rw [List.drop_drop] at sp
   have hz2:Ze (u.drop (j - 1+v.length+1))=0:=by
    rw [show j - 1+v.length+1=j+v.length by omega]
    rcases Nat.eq_zero_or_pos (Ze (u.drop (j+v.length))) with h | h
    ·exact h
    ·have:=Nat.mul_le_mul_left (4294967296 ^ v.length) h
     generalize 4294967296 ^ v.length=P at *
     omega
   have d1:=Ua hi
   rw [e1] at d1
   obtain ⟨u',q1,q2,q3,q4,q5,q6⟩:=Zwe (N:=N) (j0:=j - 1) hN hu hv hn (by omega) hs hz2 hbig (by omega)
   have hqs:0≤((Ze (u.drop (j - 1)) / Ze v:Nat):Int)∧((Ze (u.drop (j - 1)) / Ze v:Nat):Int)<4294967296:=⟨Int.natCast_nonneg _,Int.ofNat_lt.2 q6⟩
   rw [if_pos (decide_eq_true (by omega)),show (j:Int) - 1=((j - 1:Nat):Int) by omega,Z6 (x:=((j - 1:Nat):Int)+(v.length:Int)) (by omega),Z6 (by omega),Xj (by omega),Int.toNat_natCast,
    show Int.toNat (((j - 1:Nat):Int)+(v.length:Int)+1) - (j - 1)=v.length+1 by omega,q1,Option.bind_some,Xg hqi,Option.bind_some,Option.bind_some,Z6 (by omega)]
   have vp:0<Ze v:=by omega
   -- the quotient's limb was 0
   have zq:q[j - 1]=0∧Ze (q.take (j - 1))=0:=by
    have:=Zl4 hqi
    rw [e1,hz] at this
    have g2:=hq.get hqi
    have hp:0<4294967296 ^ (j - 1):=Nat.pow_pos (by decide)
    have h3:4294967296 ^ (j - 1) * (q[j - 1]).toNat=0:=by omega
    rcases Nat.mul_eq_zero.1 h3 with h | h
    ·omega
    ·exact ⟨by omega,by omega⟩
   obtain ⟨u2,q2',r1,r2,r3,r4,r5,r6,r7⟩:=Zob N s v hN hv hn hbig n (j - 1) u' (q.set (j - 1) ((Ze (u.drop (j - 1)) / Ze v:Nat):Int)) (by rw [List.length_set];omega) (by omega) (by rw [List.length_set,q2];exact hl) (by omega) q3 (hq.set _ hqs) (by rw [q5];exact Nat.mod_lt _ vp) (by rw [Zbw _ (Nat.le_refl _)];exact zq.2)
   refine ⟨u2,q2',r1,by rw [r2,q2],by rw [r3,List.length_set],r4,r5,r6,?_⟩
   rw [r7]
   have s0:=U1 u (j - 1)
   have s1:=U1 u' (j - 1)
   rw [q4,q5] at s1
   have s2:=U0 hqi ((Ze (u.drop (j - 1)) / Ze v:Nat):Int)
   rw [zq.1,Int.toNat_zero,Nat.mul_zero,Nat.add_zero,Int.toNat_natCast] at s2
   rw [s1,s2,s0]
   have hdm:=Nat.div_add_mod (Ze (u.drop (j - 1))) (Ze v)
   generalize Ze (u.drop (j - 1)) / Ze v=a at *
   generalize Ze (u.drop (j - 1)) % Ze v=b at *
   rw [← hdm]
   generalize 4294967296 ^ (j - 1)=Q at *
   grind
theorem Ztk {l:List Int} (h:0<l.length):Ze l=Ze (l.take (l.length - 1))+4294967296 ^ (l.length - 1) * (l[l.length - 1]).toNat:=by
 conv=>lhs;rw [← Zeb h,T4,Wh,Yx]
 rw [List.length_take,Nat.min_eq_left (by omega),Nat.mul_zero,Nat.add_zero]
theorem Ztl {l:List Int} (hl:Zw l):Ze (l.take (l.length - 1))<4294967296 ^ (l.length - 1):=by
 have:=T5 (hl.take (l.length - 1))
 rw [List.length_take,Nat.min_eq_left (by omega)] at this
 exact this
theorem Zwf {u:List Int} {k n S:Nat} (hu:Zw u) (hk:k+n=u.length) (hn:0<n) (ht:∀ h:u.length - 1<u.length,(u[u.length - 1]).toNat<S):Ze (u.drop k)<4294967296 ^ (n - 1) * S:=by
 have hl:(u.drop k).length=n:=by rw [List.length_drop];omega
 have h1:=Ztk (l:=u.drop k) (by omega)
 have h2:=Ztl (hu.drop k)
 have h3:((u.drop k)[(u.drop k).length - 1]'(by omega))=u[u.length - 1]'(by omega):=by
  have:(u.drop k)[(u.drop k).length - 1]?=u[u.length - 1]?:=by rw [List.getElem?_drop,hl];congr 1;omega
  rw [List.getElem?_eq_getElem (by omega),List.getElem?_eq_getElem (by omega)] at this
  exact Option.some.inj this
 rw [h3] at h1
 rw [hl] at h1 h2
 have h4:=ht (by omega)
 have h5:=Nat.mul_le_mul_left (4294967296 ^ (n - 1)) (show (u[u.length - 1]'(by omega)).toNat+1≤S from h4)
 rw [Nat.mul_add] at h5
 omega
theorem Zi9 {N:Nat} {a b:List Int} (ha:Zw a) (hb:Zw b) (hN:a.length+b.length+4<N) (hs:a.length+b.length≤549755813888):
  Zce N a b=some (if Ze b=0 then ([],[],11) else (Zm (Ze a / Ze b),Zm (Ze a % Ze b),0)):=by
 have la:=Yz ha
 have lb:=Yz hb
 rw [Zce,Sa ha (by omega) (by omega),Option.bind_some,Sa hb (by omega) (by omega),Option.bind_some]
 generalize hA:Ze a=A at *
 generalize hB:Ze b=B at *
 by_cases h0:B=0
 ·subst h0
  rw [Va,if_pos (by decide),if_pos rfl]
 ·have hbp:0<(Zm B).length:=List.length_pos_iff.2 (fun h=>h0 (Zed.1 h))
  rw [if_neg (by rw [decide_eq_false (by omega)];decide),if_neg h0,Zlm (Xq _) (Xq _) (by omega) (by omega) (by omega) (by omega),Option.bind_some,Xo,Xo]
  by_cases hlt:A<B
  ·rw [if_pos hlt,if_pos (by decide),T6 (Xq _) (by omega) (by omega),Option.bind_some,Xo,Nat.div_eq_of_lt hlt,Nat.mod_eq_of_lt hlt,Va]
  ·rw [if_neg hlt,if_neg (by split <;> decide)]
   have hlen:(Zm B).length≤(Zm A).length:=by
    have h1:=W9 (k:=(Zm A).length) (n:=B)
    have h2:=W9 (k:=(Zm A).length) (n:=A)
    have:=h2.1 (Nat.le_refl _)
    exact h1.2 (by omega)
   by_cases h1:(Zm B).length=1
   ·have g:=(Xq B).get hbp
    have hne:=Zji hbp
    have e0:(Zm B).length - 1=0:=by omega
    have hne0:(Zm B)[0]≠0:=by
     have:(Zm B)[(Zm B).length - 1]?=(Zm B)[0]?:=by rw [e0]
     rw [List.getElem?_eq_getElem (by omega),List.getElem?_eq_getElem (by omega)] at this
     rw [← Option.some.inj this];exact hne
    have eB:((Zm B)[0]).toNat=B:=by
     have h2:=Xo B
     have h3:=Ua (l:=Zm B) (k:=0) hbp
     rw [List.drop_zero,h2,List.drop_eq_nil_of_le (by omega),Yx] at h3
     omega
    obtain ⟨q,q1,q2,q3,q4⟩:=Zzp (N:=N) (a:=Zm A) (d:=(Zm B)[0]) (by omega) (Xq _) (by omega) (by omega)
    rw [eB,Xo] at q1 q4
    have hm:=Nat.mod_lt A (show 0<B by omega)
    have hB32:B<4294967296:=by omega
    have hml:Zw [((A % B:Nat):Int)]:=.cons ⟨Int.natCast_nonneg _,Int.ofNat_lt.2 (Nat.lt_trans hm hB32)⟩ .nil
    rw [if_pos (decide_eq_true (by omega)),Zll (by omega),Option.bind_some,show (0:Int)=((0:Nat):Int) from rfl,Xg hbp,Option.bind_some,q1,Option.bind_some,T6 q3 (by omega) (by omega),Option.bind_some,T6 hml (by simp;omega) (by simp),Option.bind_some,q4,Wh,Yx,Int.toNat_natCast,Nat.mul_zero,Nat.add_zero]
   ·have hp:0<(Zm B).length:=hbp
    have i1:(Zm B).length - 1<(Zm B).length:=by omega
    have g:=(Xq B).get i1
    have hne:=Zji hbp
    obtain ⟨k,ek,k1,k2⟩:=Zi1 (show ((Zm B)[(Zm B).length - 1]).toNat≠0 by omega)
    have hk:k≤31:=by
     have:Xw ((Zm B)[(Zm B).length - 1]).toNat≤32:=V0.2 (by omega)
     omega
    obtain ⟨s,hs'⟩:∃ s,s=31 - k:=⟨_,rfl⟩
    have hlz:Zhb (Zm B)[(Zm B).length - 1]=some (s:Int):=by
     rw [Zhb,show (Zm B)[(Zm B).length - 1]=(((Zm B)[(Zm B).length - 1]).toNat:Int) by omega,Zps (by omega),Option.bind_some,ek,Z6 (by omega)]
     congr 1;omega
    obtain ⟨u,u1,u2,u3,u4,u5⟩:=Zpr (a:=Zm A) (s:=s) (by omega) (Xq _) (by omega)
    obtain ⟨w,w1,w2,w3,w4,w5⟩:=Zpr (a:=Zm B) (s:=s) (by omega) (Xq _) (by omega)
    rw [Xo] at u4 w4
    have hps:=Nat.two_pow_pos s
    -- the divisor, its highest Y3 set
    have hsp:=Zeb hp
    have htl:=T5 ((Xq B).take ((Zm B).length - 1))
    rw [List.length_take,Nat.min_eq_left (by omega)] at htl
    have eB:B=Ze ((Zm B).take ((Zm B).length - 1))+4294967296 ^ ((Zm B).length - 1) * ((Zm B)[(Zm B).length - 1]).toNat:=by
     conv=>lhs;rw [← Xo B,← hsp,T4,Wh,Yx]
     rw [List.length_take,Nat.min_eq_left (by omega)];simp
    have pk:2 ^ k * 2 ^ s=2147483648:=by rw [← Nat.pow_add,hs',show k+(31 - k)=31 by omega]
    have pk1:2 ^ (k+1) * 2 ^ s=4294967296:=by rw [Nat.pow_succ,Nat.mul_right_comm,pk]
    have hPp:0<4294967296 ^ ((Zm B).length - 1):=Nat.pow_pos (by decide)
    have hlb1:(Zm B).length - 1+1=(Zm B).length:=by omega
    have pwl:(4294967296:Nat) ^ (Zm B).length=4294967296 ^ ((Zm B).length - 1) * 4294967296:=by rw [← Nat.pow_succ];congr 1;omega
    generalize hPe:4294967296 ^ ((Zm B).length - 1)=P at *
    have top1:P * 2147483648≤2 ^ s * B:=by
     have h1:=Nat.mul_le_mul_left P k1
     have h2:=Nat.mul_le_mul_right (2 ^ s) (show P * 2 ^ k≤B by omega)
     rw [Nat.mul_assoc,pk] at h2
     rw [Nat.mul_comm (2 ^ s)];exact h2
    have top2:2 ^ s * B<P * 4294967296:=by
     have h1:=Nat.mul_le_mul_left P (show ((Zm B)[(Zm B).length - 1]).toNat+1≤2 ^ (k+1) from k2)
     rw [Nat.mul_add] at h1
     have h2:=Nat.mul_lt_mul_of_pos_right (show B<P * 2 ^ (k+1) by omega) hps
     rw [Nat.mul_assoc,pk1] at h2
     rw [Nat.mul_comm (2 ^ s)];exact h2
    have hv0:(Zm (2 ^ s * B)).length=(Zm B).length:=by
     have h1:(Zm (2 ^ s * B)).length≤(Zm B).length:=W9.2 (by rw [pwl];exact top2)
     have h2:¬ (Zm (2 ^ s * B)).length≤(Zm B).length - 1:=fun h=>by
      have:=W9.1 h
      rw [hPe] at this
      have:P * 1≤P * 2147483648:=Nat.mul_le_mul_left _ (by decide)
      omega
     omega
    have hvp:0<(Zm (2 ^ s * B)).length:=by omega
    have hbig:2147483648≤((Zm (2 ^ s * B))[(Zm (2 ^ s * B)).length - 1]).toNat:=by
     have tl':=Ztl (Xq (2 ^ s * B))
     have e:=Ztk hvp
     have ePP:(4294967296:Nat) ^ ((Zm (2 ^ s * B)).length - 1)=P:=by rw [hv0];exact hPe
     rw [Xo,ePP] at e
     rw [ePP] at tl'
     generalize Ze ((Zm (2 ^ s * B)).take ((Zm (2 ^ s * B)).length - 1))=lo at *
     generalize ((Zm (2 ^ s * B))[(Zm (2 ^ s * B)).length - 1]).toNat=t at *
     have h3:P * 2147483648<P * (t+1):=by rw [Nat.mul_add];omega
     have:=Nat.lt_of_mul_lt_mul_left h3
     omega
    obtain ⟨q,hq⟩:∃ q,q=List.replicate ((Zm A).length - (Zm B).length+1) (0:Int):=⟨_,rfl⟩
    have lq:q.length=(Zm A).length - (Zm B).length+1:=by rw [hq,List.length_replicate]
    rw [if_neg (by rw [decide_eq_false (by omega)];decide),Z6 (x:=((Zm B).length:Int) - 1) (by omega),show ((Zm B).length:Int) - 1=(((Zm B).length - 1:Nat):Int) by omega,Xg i1,Option.bind_some,hlz,Option.bind_some,u1,Option.bind_some,w1,Option.bind_some,
     Zto w3 (by omega) (by omega),Option.bind_some,w4,Z6 (x:=((Zm A).length:Int) - ((Zm B).length:Int)) (by omega),Z6 (x:=((Zm A).length:Int) - ((Zm B).length:Int)+1) (by omega),Xj (by simp only [maxLen];omega),
     show Int.toNat (((Zm A).length:Int) - ((Zm B).length:Int)+1)=(Zm A).length - (Zm B).length+1 by omega,← hq,Z6 (x:=(q.length:Int) - 1) (by omega)]
    obtain ⟨u',q',r1,r2,r3,r4,r5,r6,r7⟩:=Zob N s (Zm (2 ^ s * B)) (by omega) (Xq _) (by omega) hbig N q.length u q (Nat.le_refl _) (by omega) (by omega) (by omega) u3 (by rw [hq];exact .zeros _) (by
     -- the highest Zm are below the divisor
     rw [Xo]
     have h1:=Zwf (k:=q.length) (n:=(Zm B).length) u3 (by omega) hp u5
     rw [hPe] at h1
     have hs31:2 ^ s≤2147483648:=by
      have:=Nat.pow_le_pow_right (n:=2) (by decide) (show s≤31 by omega)
      omega
     have h8:=Nat.mul_le_mul_left P hs31
     omega) (by rw [hq,List.take_replicate];exact U5 _)
    rw [r1,Zto r4 (by omega) (by omega),Option.bind_some]
    rw [Xo] at r6 r7
    have zq:Ze q=0:=by rw [hq];exact U5 _
    rw [zq,u4,Nat.mul_zero,Nat.zero_add] at r7
    have ll:=Yz r4
    have hfin:=Zoc N s (by omega) q' (Zm (Ze u')) r5 (Xq _) (by omega) (by omega) N 0 (Zm (Ze u')) [] (by omega) (by omega) (by simp) rfl .nil (by rw [Yx,List.drop_zero,Nat.pow_zero];omega)
    rw [show ((0:Nat):Int)=0 from rfl] at hfin
    rw [hfin,Xo]
    have hqv:Ze q'=A / B:=by
     have h9:2 ^ s * A / (2 ^ s * B)=Ze q':=by
      rw [← r7,Nat.mul_add_div (by omega),Nat.div_eq_of_lt r6,Nat.add_zero]
     rw [← h9,Nat.mul_div_mul_left _ _ hps]
    have hrv:Ze u' / 2 ^ s=A % B:=by
     have h9:2 ^ s * A % (2 ^ s * B)=Ze u':=by
      rw [← r7,Nat.mul_add_mod,Nat.mod_eq_of_lt r6]
     rw [Nat.mul_mod_mul_left] at h9
     rw [← h9,Nat.mul_div_cancel_left _ hps]
    rw [hqv,hrv]
theorem Zw4 {x y:Nat} (h:y≤x) (hy:0<y):y * (x % y)≤x * y / 2:=by
 have h1:x % y+y≤x:=by
  have:=Nat.mod_add_div x y
  have h2:y * 1≤y * (x / y):=Nat.mul_le_mul_left _ (Nat.div_pos h hy)
  omega
 have h2:=Nat.mod_lt x hy
 have h3:y * (2 * (x % y))≤y * x:=Nat.mul_le_mul_left _ (by omega)
 rw [Nat.le_div_iff_mul_le (by decide),Nat.mul_comm x y,Nat.mul_assoc,Nat.mul_comm (x % y) 2]
 exact h3
theorem Zlt (N:Nat):∀ (n x y:Nat),y≤x→Xw (x * y)<n→(Zm x).length+(Zm y).length+4<N→(Zm x).length+(Zm y).length≤549755813888→Za4 N n (Zm x) (Zm y)=some (Zm (Nat.gcd x y))
 | 0,x,y,_,h,_,_=>by omega
 | n+1,x,y,hxy,hn,hN,hs=>by
  rw [Za4.eq_2]
  by_cases h0:y=0
  ·subst h0
   rw [Va,if_neg (by decide),Nat.gcd_zero_right]
  ·have hp:0<(Zm y).length:=List.length_pos_iff.2 (fun h=>h0 (Zed.1 h))
   have hm:=Nat.mod_lt x (show 0<y by omega)
   have lm:(Zm (x % y)).length≤(Zm y).length:=W9.2 (Nat.lt_trans hm (W9.1 (Nat.le_refl _)))
   have ly:(Zm y).length≤(Zm x).length:=W9.2 (Nat.lt_of_le_of_lt hxy (W9.1 (Nat.le_refl _)))
   rw [if_pos (decide_eq_true (by omega)),Zi9 (Xq _) (Xq _) hN hs,Option.bind_some,Xo,Xo,if_neg h0]
   have hb:Xw (y * (x % y))<n:=by
    have h1:=Zw4 hxy (by omega)
    have h2:Xw (y * (x % y))≤Xw (x * y / 2 ^ 1):=V0.2 (Nat.lt_of_le_of_lt (by rw [Nat.pow_one];exact h1) (V0.1 (Nat.le_refl _)))
    rw [Zgx] at h2
    have h3:0<x * y:=Nat.mul_pos (by omega) (by omega)
    have h4:0<Xw (x * y):=by
     rcases Nat.eq_zero_or_pos (Xw (x * y)) with h | h
     ·have:=V0.1 (show Xw (x * y)≤0 by omega)
      omega
     ·exact h
    omega
   have:=Zlt N n y (x % y) (Nat.le_of_lt hm) hb (by omega) (by omega)
   rw [this,Nat.gcd_comm x y,Nat.gcd_rec y x,Nat.gcd_comm]
theorem Zm1 (x y:Nat):Xw (x * y)≤Xw x+Xw y:=by
 refine V0.2 ?_
 rw [Nat.pow_add]
 have h1:=V0.1 (Nat.le_refl (Xw x))
 have h2:=V0.1 (Nat.le_refl (Xw y))
 exact Nat.mul_lt_mul'' h1 h2
theorem Zw3 {N:Nat} {a b:List Int} (ha:Zw a) (hb:Zw b) (hN:32 * (a.length+b.length)+8<N) (hs:a.length+b.length≤549755813888):Zhg N a b=some (Zm (Nat.gcd (Ze a) (Ze b))):=by
 have la:=Yz ha
 have lb:=Yz hb
 have ba:=(Ziz (Ze a)).2
 have bb:=(Ziz (Ze b)).2
 rw [Zhg,T6 ha (by omega) (by omega),Option.bind_some,T6 hb (by omega) (by omega),Option.bind_some]
 by_cases h:Ze b≤Ze a
 ·have:=Zm1 (Ze a) (Ze b)
  exact Zlt N N _ _ h (by omega) (by omega) (by omega)
 ·have h':Ze a<Ze b:=by omega
  have hm:=Zm1 (Ze b) (Ze a)
  have hp:0<(Zm (Ze b)).length:=List.length_pos_iff.2 (fun h=>by have:=Zed.1 h;omega)
  obtain ⟨N',rfl⟩:∃ N',N=N'+1:=⟨N - 1,by omega⟩
  rw [Za4.eq_2,if_pos (decide_eq_true (by omega)),Zi9 (Xq _) (Xq _) (by omega) (by omega),Option.bind_some,Xo,Xo,if_neg (by omega),Nat.mod_eq_of_lt h',
   Zlt (N'+1) N' _ _ (by omega) (by omega) (by omega) (by omega),Nat.gcd_comm]
def Qc (N:Nat) (ab:((Bool×List Int)×List Int)):Option (List Int):=
  (Zch N ab.2).bind fun aa=>if (decide (0<(aa.length:Int)))=true then (some aa) else ((Q0 N 1).bind fun ac=>some ac)
theorem Zd2 (N:Nat) (c1:Nat) (col:Zh) (w0:World) (af:Option Addr) (ag:Nat) (ac:Option Addr) (ad:Nat) (ab:((Bool×List Int)×List Int)) (a1:Sl (Za.int .u32) col w0 af ag ab.1.2) (ae:Sl (Za.int .u32) col w0 ac ad ab.2) (r:List Int) (hm:Qc N ab=some r):
    Calls Tryz.prog 186 #[(.agg #[.bool ab.1.1,.slice af ab.1.2.length ag,.slice ac ab.2.length ad])] w0 (fun e w'=>∃ (col':Zh) (ra1:Option Addr) (rc2:Nat),e= .returned ((.slice ra1 r.length rc2))∧Zf col w0 col' w'∧Zl (Za.int .u32) 79 c1 col' w' ra1 rc2 r):=by
 refine Xv 2 (m:=12) func186 rfl rfl rfl rfl rfl ?_;rw [Qc.eq_1] at hm;have aa:=St.start col w0;refine Zb<|Zd<|X3 (col:=(Zo col)) 1 rfl ?_;intro ai a2 aj ak al;refine Zu rfl<|Zc<|Zb<|Zb<|Zd<|Z9 ai 2 underlying47 rfl sizeOf43 isAgg43 al rfl ?_;obtain ⟨am,an,hm⟩:=bZ hm;replace ae:=ae.keep (Zp.start col w0);replace aa:=aa.grow ak;refine lc rfl rfl (Z7 call255 rfl) (Zlb N 2 aj _ ac ad ab.2 (ae.ks aa) am an) ?_;rintro _ a3 ⟨ah,ao,ap,rfl,aq,ar⟩;refine ⟨_,rfl,?_⟩;refine Zu rfl<|Zc<|Zb<|Zd<|Zk rfl<|lV _ (Zs underlying43 rfl)<|lV _ (Wa _ _ rfl rfl)<|Zc ?_;replace aa:=aa.grow aq;refine Zy _ rfl (fun hb=>?_) (fun hb=>?_)
 ·rw [if_pos hb] at hm;refine Zb<|Zd<|Zk rfl<|Zu rfl<|Zc<|Zq ?_;cases hm;exact ⟨rfl,Xh w0.heap.size col ah (fun n=>bif Nat.beq n 2 then c1 else 0),ao,ap,rfl,aa.fin (fun n=>bif Nat.beq n 2 then c1 else 0),aa.finOwn (g:=(fun n=>bif Nat.beq n 2 then c1 else 0)) rfl ar (by decide) (by decide) rfl⟩
 rw [if_neg (Zz hb)] at hm;refine Zr<|Zb<|Zd ?_;obtain ⟨au,av,hm⟩:=bZ hm;refine lc rfl rfl (Z7 call181 rfl) (Zgy N 3 ah _ 1 au av) ?_;rintro _ a4 ⟨aw,ax,ay,rfl,az,a0⟩;refine ⟨_,rfl,?_⟩;refine Zu rfl<|Zc<|Zq ?_;cases hm;replace aa:=aa.grow az;exact ⟨rfl,Xh w0.heap.size col aw (fun n=>bif Nat.beq n 3 then c1 else 0),ax,ay,rfl,aa.fin (fun n=>bif Nat.beq n 3 then c1 else 0),aa.finOwn (g:=(fun n=>bif Nat.beq n 3 then c1 else 0)) rfl a0 (by decide) (by decide) rfl⟩
def Zgi (aa:Bool) (ab:List Int):Option (Bool×List Int):=
  some (aa,ab)
def Sr (N:Nat) (ab:Bool) (ac:List Int):Option (Bool×List Int):=
  (Zch N ac).bind fun aa=>if ab=true then (Zgi (decide (0<(aa.length:Int))) aa) else (Zgi false aa)
theorem Zb3 (N:Nat) (c1:Nat) (col:Zh) (w0:World) (aj:Bool) (a1:Option Addr) (ak:Nat) (ah:List Int) (h1:Sl (Za.int .u32) col w0 a1 ak ah) (r:(Bool×List Int)) (hm:Sr N aj ah=some r):
    Calls Tryz.prog 234 #[.bool aj,.slice a1 ah.length ak] w0 (fun e w'=>∃ (col':Zh) (ra1:Option Addr) (rc2:Nat),e= .returned ((.agg #[.bool r.1,.slice ra1 r.2.length rc2]))∧Zf col w0 col' w'∧Zl (Za.int .u32) 79 c1 col' w' ra1 rc2 r.2):=by
 refine Wq (m:=16) (args:=[.bool aj,.slice a1 ah.length ak]) func234 rfl rfl rfl ?_;rw [Sr.eq_1] at hm;have aa:=St.start col w0;refine Zb<|Zd<|Yt (col:=(Zo col)) #[.bool false,.slice none (([]:List Int).length) 0] 1 zeroValue45 ?_;intro au a8 az a0 ae;refine Zc<|Zb<|Zd<|Zk rfl ?_;obtain ⟨ac,a2,hm⟩:=bZ hm;replace h1:=h1.keep (Zp.start col w0);replace aa:=aa.grow a0;refine lc rfl rfl (Z7 call255 rfl) (Zlb N 2 az _ a1 ak ah (h1.ks aa) ac a2) ?_;rintro _ a9 ⟨av,af,ag,rfl,aw,ad⟩;refine ⟨_,rfl,?_⟩;refine Zu rfl<|Zc<|Zb ?_;replace ae:=ae.gr aw;replace aa:=aa.grow aw;refine Wp.cut (fun f al=>∃ (ai:Zh) (ap:Bool) (am:Option Addr) (an:Nat) (ao:List Int),Zgi ap ao=some r∧St w0 (Zo col) ai al∧Zl (Za.int .u32) 79 3 ai al am an ao∧Zt 45 1 ai al au #[.bool ap,.slice am ao.length an]∧f 4=(.pointer (some ⟨au,0,none⟩))∧f 1000000=(enc [])) ?_ ?_
 ·intro f al hJ;obtain ⟨ai,ap,am,an,ao,hm,aa,a3,ae,a4,a5⟩:=hJ;rw [Zgi.eq_1] at hm;refine .lD 4 a4<|.lD 1000000 a5<|Zq ?_;cases hm;exact ⟨rfl,_,Wi rfl rfl isAgg45 sizeOf45 rfl rfl ae.atN,Xh w0.heap.size col ai (fun n=>bif Nat.beq n 3 then c1 else 0),am,an,rfl,aa.fin (fun n=>bif Nat.beq n 3 then c1 else 0),aa.finOwn (g:=(fun n=>bif Nat.beq n 3 then c1 else 0)) rfl a3 (by decide) (by decide) rfl⟩
 refine Zd<|Xf rfl<|Xf rfl ?_;by_cases ab:aj=true
 ·rw [if_pos ab] at hm;refine lG 9 rfl (gq ab)<|Zk rfl<|lG 9 rfl (gq ab)<|lV _ (Zs underlying43 rfl)<|lG 9 rfl (gq ab)<|lV _ (Wa _ _ rfl rfl)<|lV (.bool (decide (0<(ac.length:Int)))) (Xm (congrArg Value.bool ab) rfl)<|Zk rfl<|lV (.agg #[.bool (decide (0<(ac.length:Int))),.slice af ac.length ag]) (Vi (l:=[_,_]) (qs:=[(0,1),(1,1)]) underlying45 zeroValue45 ⟨rfl,sizeOf4,rfl,sizeOf43,trivial⟩ rfl)<|Ya #[.bool (decide (0<(ac.length:Int))),.slice af ac.length ag] ae sizeOf45 ?_;intro ba ax a6 aq;refine Zc ?_;replace ad:=ad.kp ax;replace ad:=ad.recolSelf 3 (by decide);replace aq:=aq.recol 2 3 (by decide);replace aa:=aa.kp ax a6;replace aa:=aa.recol 2 3 (by decide) (by decide);exact ⟨(X7 2 3 av),(decide (0<(ac.length:Int))),af,ag,ac,hm,aa,ad,aq,rfl,rfl⟩
 rw [if_neg ab] at hm;replace ab:=Bool.eq_false_iff.2 ab;refine lP 9 rfl (gq ab)<|lP 9 rfl (gq ab)<|lP 9 rfl (gq ab)<|lV (.bool false) (Xr (congrArg Value.bool ab) rfl)<|Zk rfl<|lV (.agg #[.bool false,.slice af ac.length ag]) (Vi (l:=[_,_]) (qs:=[(0,1),(1,1)]) underlying45 zeroValue45 ⟨rfl,sizeOf4,rfl,sizeOf43,trivial⟩ rfl)<|Ya #[.bool false,.slice af ac.length ag] ae sizeOf45 ?_;intro bb ay a7 ar;refine Zc ?_;replace ad:=ad.kp ay;replace ad:=ad.recolSelf 3 (by decide);replace ar:=ar.recol 2 3 (by decide);replace aa:=aa.kp ay a7;replace aa:=aa.recol 2 3 (by decide) (by decide);exact ⟨(X7 2 3 av),false,af,ag,ac,hm,aa,ad,ar,rfl,rfl⟩
def Zh7 (N:Nat) (aa:(Bool×List Int)) (ab:(Bool×List Int)):Option (Bool×List Int):=
  (Zcg N aa.2 ab.2).bind fun ad=>(Sr N (!decide (aa.1=ab.1)) ad).bind fun ac=>some (ac.1,ac.2)
theorem Zv2 (N:Nat) (c1:Nat) (col:Zh) (w0:World) (aj:Option Addr) (ak:Nat) (ac:(Bool×List Int)) (al:Option Addr) (am:Nat) (ad:(Bool×List Int)) (ap:Sl (Za.int .u32) col w0 aj ak ac.2) (aq:Sl (Za.int .u32) col w0 al am ad.2) (r:(Bool×List Int)) (hm:Zh7 N ac ad=some r):
    Calls Tryz.prog 256 #[(.agg #[.bool ac.1,.slice aj ac.2.length ak]),(.agg #[.bool ad.1,.slice al ad.2.length am])] w0 (fun e w'=>∃ (col':Zh) (ra1:Option Addr) (rc2:Nat),e= .returned ((.agg #[.bool r.1,.slice ra1 r.2.length rc2]))∧Zf col w0 col' w'∧Zl (Za.int .u32) 79 c1 col' w' ra1 rc2 r.2):=by
 refine Wq (m:=16) (args:=[(.agg #[.bool ac.1,.slice aj ac.2.length ak]),(.agg #[.bool ad.1,.slice al ad.2.length am])]) func256 rfl rfl rfl ?_;rw [Zh7.eq_1] at hm;have aa:=St.start col w0;refine Zb<|Zd<|X3 (col:=(Zo col)) 1 rfl ?_;intro ay bn a9 ba an;refine X3 (col:=a9) 2 rfl ?_;intro az bo bb a0 ao;refine Yt (col:=bb) #[.bool false,.slice none (([]:List Int).length) 0] 3 zeroValue45 ?_;intro bp bc ae ar ag;refine Zc<|Zb<|Vn (col:=ae) [(0,1),(1,0),(2,1),(3,0),(4,1),(5,1),(6,0),(7,1),(8,0),(9,3),(10,3),(11,2)] (by kernel_rfl) (by kernel_rfl)<|xu (v:=(.pointer ((some (⟨ay,0,none⟩:Addr)).map (·.add 0)))) rfl rfl (fun _=>Xn (sz:=1) (off:=0) underlying45 rfl sizeOf4 (by decide) rfl rfl ⟨_,_,rfl⟩) ?_;replace an:=(an.gr a0).gr ar;refine xv rfl rfl (fun _ hC=>Zn isAgg4 rfl (((an.atN).nth (q:=0) rfl).gr (hC.bl ae))) ?_;refine xu (v:=(.pointer ((some (⟨az,0,none⟩:Addr)).map (·.add 0)))) rfl rfl (fun _=>Xn (sz:=1) (off:=0) underlying45 rfl sizeOf4 (by decide) rfl rfl ⟨_,_,rfl⟩) ?_;replace ao:=ao.gr ar;refine xv rfl rfl (fun _ hC=>Zn isAgg4 rfl (((ao.atN).nth (q:=0) rfl).gr (hC.bl ae))) ?_;refine xu rfl rfl (fun _=>Zif _ _ underlying4 rfl rfl) ?_;refine xu (v:=(.pointer ((some (⟨ay,0,none⟩:Addr)).map (·.add 1)))) rfl rfl (fun _=>Xn (sz:=1) (off:=1) underlying45 rfl sizeOf43 (by decide) rfl rfl ⟨_,_,rfl⟩) ?_;refine xv rfl rfl (fun _ hC=>Zn isAgg43 rfl (((an.atN).nth (q:=1) rfl).gr (hC.bl ae))) ?_;refine xu (v:=(.pointer ((some (⟨az,0,none⟩:Addr)).map (·.add 1)))) rfl rfl (fun _=>Xn (sz:=1) (off:=1) underlying45 rfl sizeOf43 (by decide) rfl rfl ⟨_,_,rfl⟩) ?_;refine xv rfl rfl (fun _ hC=>Zn isAgg43 rfl (((ao.atN).nth (q:=1) rfl).gr (hC.bl ae))) ?_;refine xe rfl rfl ?_;intro bd hC0;have hC:Zf ae bc ae bd:=.of_below hC0.below;obtain ⟨a1,be,hm⟩:=bZ hm;replace ap:=ap.keep (Zp.start col w0);replace aq:=aq.keep (Zp.start col w0);replace aa:=(((aa.grow ba).grow a0).grow ar).grow hC;refine lc rfl rfl (Xa call113 rfl rfl) (Zna N 4 ae _ aj ak ac.2 al am ad.2 (ap.ks aa) (aq.ks aa) a1 be) ?_;rintro _ a2 ⟨af,bf,bg,rfl,au,av⟩;refine ⟨_,rfl,?_⟩;refine Zc ⟨fun w'=>Zf af a2 af w',Zf.refl _ _,fun _ _ h=>Yh hC0 au h,?_⟩;refine xe rfl rfl ?_;intro a3 hC0;replace ag:=(ag.gr hC).gr au;have hC:Zf af a2 af a3:=.of_below hC0.below;obtain ⟨aw,bh,hm⟩:=bZ hm;replace av:=av.gr hC
 refine lc rfl rfl (Xa call234 rfl rfl) (Zb3 N 5 (Z3 4 af) _ (!decide (ac.1=ad.1)) bf bg a1 (av.toSlF (Z2.int .u32)) aw bh) ?_;rintro _ a4 ⟨bi,a5,a6,rfl,ai,ah⟩;refine ⟨_,rfl,?_⟩;replace ah:=ah.thaw (Xz .u32) ai ((Fz.refl (col:=af)).froz 4) (by decide);replace ai:=ai.thawR (col:=af);generalize X1 a3.heap.size af bi=ab at *;refine Zc ⟨fun w'=>Zf ab a4 ab w',Zf.refl _ _,fun _ _ h=>Yh hC0 ai h,?_⟩;refine xe rfl rfl ?_;intro bj hC0;replace aa:=((aa.grow au).grow hC).grow ai;replace ag:=(ag.gr hC).gr ai;have hC:Zf ab a4 ab bj:=.of_below hC0.below;replace ag:=ag.gr hC;refine Ya #[.bool aw.1,.slice a5 aw.2.length a6] ag sizeOf45 ?_;intro a7 a8 bk ax;refine Zc ⟨fun w'=>Zf ab a7 ab w',Zf.refl _ _,fun h=>absurd h (by decide),?_⟩;refine Ve ?_;replace ah:=(ah.gr hC).kp a8;replace aa:=(aa.grow hC).kp a8 bk;intro bm hC;replace hC:Zf ab a7 ab bm:=.of_below hC.below;refine Zq ?_;cases hm;replace ah:=ah.gr hC;replace ax:=ax.gr hC;replace aa:=aa.grow hC;exact ⟨rfl,_,Wi rfl rfl isAgg45 sizeOf45 rfl rfl ax.atN,Xh w0.heap.size col ab (fun n=>bif Nat.beq n 5 then c1 else 0),a5,a6,rfl,aa.fin (fun n=>bif Nat.beq n 5 then c1 else 0),aa.finOwn (g:=(fun n=>bif Nat.beq n 5 then c1 else 0)) rfl ah (by decide) (by decide) rfl⟩
def Zaz (N:Nat) (aa:(Bool×List Int)) (ac:List Int):Option (Bool×List Int):=
  (Zh7 N (aa.1,aa.2) (false,ac)).bind fun ab=>some (ab.1,ab.2)
theorem Zi2 (N:Nat) (c1:Nat) (col:Zh) (w0:World) (ae:Option Addr) (af:Nat) (aa:(Bool×List Int)) (a1:Option Addr) (ad:Nat) (ac:List Int) (ag:Sl (Za.int .u32) col w0 ae af aa.2) (h1:Sl (Za.int .u32) col w0 a1 ad ac) (r:(Bool×List Int)) (hm:Zaz N aa ac=some r):
    Calls Tryz.prog 185 #[(.agg #[.bool aa.1,.slice ae aa.2.length af]),.slice a1 ac.length ad] w0 (fun e w'=>∃ (col':Zh) (ra1:Option Addr) (rc2:Nat),e= .returned ((.agg #[.bool r.1,.slice ra1 r.2.length rc2]))∧Zf col w0 col' w'∧Zl (Za.int .u32) 79 c1 col' w' ra1 rc2 r.2):=by
 refine Wq (m:=9) (args:=[(.agg #[.bool aa.1,.slice ae aa.2.length af]),.slice a1 ac.length ad]) func185 rfl rfl rfl ?_;rw [Zaz.eq_1] at hm;have ab:=St.start col w0;refine Zb<|Zd<|X3 (col:=(Zo col)) 1 rfl ?_;intro az a0 aq ar ah;refine Yt (col:=aq) #[.bool false,.slice none (([]:List Int).length) 0] 2 zeroValue45 ?_;intro a2 a3 au al ai;refine Zc<|Zb<|Zd ?_;replace ah:=ah.gr al;refine lV _ (Ye isAgg45 sizeOf45 ah)<|Zk rfl<|lV (.agg #[.bool false,.slice a1 ac.length ad]) (Vi (l:=[_,_]) (qs:=[(0,1),(1,1)]) underlying45 zeroValue45 ⟨rfl,sizeOf4,rfl,sizeOf43,trivial⟩ rfl) ?_;obtain ⟨aj,av,hm⟩:=bZ hm;replace ag:=ag.keep (Zp.start col w0);replace h1:=h1.keep (Zp.start col w0);replace ab:=(ab.grow ar).grow al;refine lc rfl rfl (Xa call256 rfl rfl) (Zv2 N 3 au _ ae af (aa.1,aa.2) a1 ad (false,ac) (ag.ks ab) (h1.ks ab) aj av) ?_;rintro _ a4 ⟨aw,am,an,rfl,ao,ak⟩;refine ⟨_,rfl,?_⟩;replace ai:=ai.gr ao;refine Ya #[.bool aj.1,.slice am aj.2.length an] ai sizeOf45 ?_;intro a5 ap ax ay;refine Zc<|Zq ?_;cases hm;replace ab:=(ab.grow ao).kp ap ax;replace ak:=ak.kp ap;exact ⟨rfl,_,Wi rfl rfl isAgg45 sizeOf45 rfl rfl ay.atN,Xh w0.heap.size col aw (fun n=>bif Nat.beq n 3 then c1 else 0),am,an,rfl,ab.fin (fun n=>bif Nat.beq n 3 then c1 else 0),ab.finOwn (g:=(fun n=>bif Nat.beq n 3 then c1 else 0)) rfl ak (by decide) (by decide) rfl⟩
def Zh5 (N:Nat) (aa:(Bool×List Int)) (ab:(Bool×List Int)):Option (Bool×List Int):=
  if (decide (aa.1=ab.1))=true then ((Zhe N aa.2 ab.2).bind fun ag=>(Sr N aa.1 ag).bind fun ac=>some (ac.1,ac.2)) else ((Ze8 N aa.2 ab.2).bind fun ad=>if ad.2=true then ((Sr N aa.1 ad.1).bind fun ae=>some (ae.1,ae.2)) else ((Ze8 N ab.2 aa.2).bind fun ah=>(Sr N ab.1 ah.1).bind fun af=>some (af.1,af.2)))
theorem Zv0 (N:Nat) (c1:Nat) (col:Zh) (w0:World) (ak:Option Addr) (al:Nat) (ac:(Bool×List Int)) (am:Option Addr) (an:Nat) (ae:(Bool×List Int)) (au:Sl (Za.int .u32) col w0 ak al ac.2) (av:Sl (Za.int .u32) col w0 am an ae.2) (r:(Bool×List Int)) (hm:Zh5 N ac ae=some r):
    Calls Tryz.prog 188 #[(.agg #[.bool ac.1,.slice ak ac.2.length al]),(.agg #[.bool ae.1,.slice am ae.2.length an])] w0 (fun e w'=>∃ (col':Zh) (ra1:Option Addr) (rc2:Nat),e= .returned ((.agg #[.bool r.1,.slice ra1 r.2.length rc2]))∧Zf col w0 col' w'∧Zl (Za.int .u32) 79 c1 col' w' ra1 rc2 r.2):=by
 refine Wq (m:=47) (args:=[(.agg #[.bool ac.1,.slice ak ac.2.length al]),(.agg #[.bool ae.1,.slice am ae.2.length an])]) func188 rfl rfl rfl ?_;rw [Zh5.eq_1] at hm;have aa:=St.start col w0;refine Zb<|Zd<|X3 (col:=(Zo col)) 1 rfl ?_;intro ao cq bw bx af;refine X3 (col:=bw) 2 rfl ?_;intro aw cr bz bg ad;refine Yt (col:=bz) #[.bool false,.slice none (([]:List Int).length) 0] 3 zeroValue45 ?_;intro cs b0 ah a4 ab;refine Zc<|Zb<|Zb<|Zd<|lF ao 0 underlying45 rfl sizeOf4 ?_;replace af:=(af.gr bg).gr a4;refine lV _ (Zn isAgg4 rfl ((af.atN).nth (q:=0) rfl))<|lF aw 0 underlying45 rfl sizeOf4 ?_;replace ad:=ad.gr a4;refine lV _ (Zn isAgg4 rfl ((ad.atN).nth (q:=0) rfl))<|lV _ (Zrw _ _ underlying4 rfl rfl)<|Zc ?_;replace au:=au.keep (Zp.start col w0);replace av:=av.keep (Zp.start col w0);replace aa:=((aa.grow bx).grow bg).grow a4;refine Zy _ rfl (fun hb=>?_) (fun hb=>?_)
 ·rw [if_pos hb] at hm;refine Zb<|Vn (col:=ah) [(0,1),(1,0),(2,1),(3,0),(4,1),(5,0),(6,3),(7,3),(8,2)] (by kernel_rfl) (by kernel_rfl)<|xu (v:=(.pointer ((some (⟨ao,0,none⟩:Addr)).map (·.add 0)))) rfl rfl (fun _=>Xn (sz:=1) (off:=0) underlying45 rfl sizeOf4 (by decide) rfl rfl ⟨_,_,rfl⟩) ?_;refine xv rfl rfl (fun _ hC=>Zn isAgg4 rfl (((af.atN).nth (q:=0) rfl).gr (hC.bl ah))) ?_;refine xu (v:=(.pointer ((some (⟨ao,0,none⟩:Addr)).map (·.add 1)))) rfl rfl (fun _=>Xn (sz:=1) (off:=1) underlying45 rfl sizeOf43 (by decide) rfl rfl ⟨_,_,rfl⟩) ?_;refine xv rfl rfl (fun _ hC=>Zn isAgg43 rfl (((af.atN).nth (q:=1) rfl).gr (hC.bl ah))) ?_;refine xu (v:=(.pointer ((some (⟨aw,0,none⟩:Addr)).map (·.add 1)))) rfl rfl (fun _=>Xn (sz:=1) (off:=1) underlying45 rfl sizeOf43 (by decide) rfl rfl ⟨_,_,rfl⟩) ?_;refine xv rfl rfl (fun _ hC=>Zn isAgg43 rfl (((ad.atN).nth (q:=1) rfl).gr (hC.bl ah))) ?_;refine xe rfl rfl ?_;intro b1 hC0;have hC:Zf ah b0 ah b1:=.of_below hC0.below;obtain ⟨bh,b2,hm⟩:=bZ hm;replace aa:=aa.grow hC;refine lc rfl rfl (Xa call257 rfl rfl) (Zuu N 4 ah _ ak al ac.2 am an ae.2 (au.ks aa) (av.ks aa) bh b2) ?_;rintro _ bi ⟨ai,b3,b4,rfl,a5,a6⟩;refine ⟨_,rfl,?_⟩;refine Zc ⟨fun w'=>Zf ai bi ai w',Zf.refl _ _,fun _ _ h=>Yh hC0 a5 h,?_⟩;refine xe rfl rfl ?_;intro bj hC0;replace ab:=(ab.gr hC).gr a5;have hC:Zf ai bi ai bj:=.of_below hC0.below;obtain ⟨a7,b5,hm⟩:=bZ hm;replace a6:=a6.gr hC;refine lc rfl rfl (Xa call234 rfl rfl) (Zb3 N 5 (Z3 4 ai) _ ac.1 b3 b4 bh (a6.toSlF (Z2.int .u32)) a7 b5) ?_;rintro _ bk ⟨b6,bm,bn,rfl,ap,aj⟩;refine ⟨_,rfl,?_⟩;replace aj:=aj.thaw (Xz .u32) ap ((Fz.refl (col:=ai)).froz 4) (by decide);replace ap:=ap.thawR (col:=ai);generalize X1 bj.heap.size ai b6=ag at *;refine Zc ⟨fun w'=>Zf ag bk ag w',Zf.refl _ _,fun _ _ h=>Yh hC0 ap h,?_⟩;refine xe rfl rfl ?_;intro b7 hC0;replace aa:=((aa.grow a5).grow hC).grow ap;replace ab:=(ab.gr hC).gr ap;have hC:Zf ag bk ag b7:=.of_below hC0.below;replace ab:=ab.gr hC;refine Ya #[.bool a7.1,.slice bm a7.2.length bn] ab sizeOf45 ?_;intro bo bp b8 a8;refine Zc ⟨fun w'=>Zf ag bo ag w',Zf.refl _ _,fun h=>absurd h (by decide),?_⟩;refine Ve ?_;replace aj:=(aj.gr hC).kp bp;replace aa:=(aa.grow hC).kp bp b8;intro b9 hC;replace hC:Zf ag bo ag b9:=.of_below hC.below;refine Zq ?_;cases hm;replace aj:=aj.gr hC
  replace a8:=a8.gr hC;replace aa:=aa.grow hC;exact ⟨rfl,_,Wi rfl rfl isAgg45 sizeOf45 rfl rfl a8.atN,Xh w0.heap.size col ag (fun n=>bif Nat.beq n 5 then c1 else 0),bm,bn,rfl,aa.fin (fun n=>bif Nat.beq n 5 then c1 else 0),aa.finOwn (g:=(fun n=>bif Nat.beq n 5 then c1 else 0)) rfl aj (by decide) (by decide) rfl⟩
 rw [if_neg (Zz hb)] at hm;refine Zr<|Zb<|Zb<|Zd<|Z9 ao 1 underlying45 rfl sizeOf43 isAgg43 af rfl<|Z9 aw 1 underlying45 rfl sizeOf43 isAgg43 ad rfl ?_;obtain ⟨aq,ca,hm⟩:=bZ hm;refine lc rfl rfl (Xa call258 rfl rfl) (Znb N 6 ah _ ak al ac.2 am an ae.2 (au.ks aa) (av.ks aa) aq ca) ?_;rintro _ cb ⟨ax,a9,ba,rfl,a2,cc⟩;refine ⟨_,rfl,?_⟩;refine lM (.tuple #[.slice a9 aq.1.length ba,.bool aq.2])<|lV (.slice a9 aq.1.length ba) (Y4 rfl rfl)<|lV (.bool aq.2) (Y4 rfl rfl)<|Zu rfl<|Xc rfl<|Zc<|Zb<|Zd<|Xf rfl<|Zc ?_;replace af:=af.gr a2;replace ad:=ad.gr a2;replace ab:=ab.gr a2;replace aa:=aa.grow a2;refine Zy _ rfl (fun hb=>?_) (fun hb=>?_)
 ·rw [if_pos hb] at hm;refine Zb<|Zd<|Z9 ao 0 underlying45 rfl sizeOf4 isAgg4 af rfl<|Zk rfl ?_;obtain ⟨bb,cd,hm⟩:=bZ hm;refine lc rfl rfl (Xa call234 rfl rfl) (Zb3 N 7 (Z3 6 ax) _ ac.1 a9 ba aq.1 (cc.toSlF (Z2.int .u32)) bb cd) ?_;rintro _ ct ⟨ce,bq,br,rfl,ay,az⟩;refine ⟨_,rfl,?_⟩;replace az:=az.thaw (Xz .u32) ay ((Fz.refl (col:=ax)).froz 6) (by decide);replace ay:=ay.thawR (col:=ax);generalize X1 cb.heap.size ax ce=cf at *;replace ab:=ab.gr ay;refine Ya #[.bool bb.1,.slice bq bb.2.length br] ab sizeOf45 ?_;intro cu bs cg ch;refine Zc<|Zq ?_;cases hm;replace aa:=(aa.grow ay).kp bs cg;replace az:=az.kp bs;exact ⟨rfl,_,Wi rfl rfl isAgg45 sizeOf45 rfl rfl ch.atN,Xh w0.heap.size col cf (fun n=>bif Nat.beq n 7 then c1 else 0),bq,br,rfl,aa.fin (fun n=>bif Nat.beq n 7 then c1 else 0),aa.finOwn (g:=(fun n=>bif Nat.beq n 7 then c1 else 0)) rfl az (by decide) (by decide) rfl⟩
 rw [if_neg (Zz hb)] at hm;refine Zr<|Zb<|Zd<|Z9 aw 1 underlying45 rfl sizeOf43 isAgg43 ad rfl<|Z9 ao 1 underlying45 rfl sizeOf43 isAgg43 af rfl ?_;obtain ⟨ar,ci,hm⟩:=bZ hm;refine lc rfl rfl (Xa call258 rfl rfl) (Znb N 8 ax _ am an ae.2 ak al ac.2 (av.ks aa) (au.ks aa) ar ci) ?_;rintro _ cj ⟨a3,bc,bd,rfl,be,ck⟩;refine ⟨_,rfl,?_⟩;refine lM (.tuple #[.slice bc ar.1.length bd,.bool ar.2])<|lV (.slice bc ar.1.length bd) (Y4 rfl rfl)<|lV (.bool ar.2) (Y4 rfl rfl)<|Zu rfl<|Xc rfl<|Zc<|Zb<|Zd<|lF aw 0 underlying45 rfl sizeOf4 ?_;replace ad:=ad.gr be;refine lV _ (Zn isAgg4 rfl ((ad.atN).nth (q:=0) rfl))<|Zk rfl ?_;obtain ⟨bf,cl,hm⟩:=bZ hm;refine lc rfl rfl (Xa call234 rfl rfl) (Zb3 N 9 (Z3 8 a3) _ ae.1 bc bd ar.1 (ck.toSlF (Z2.int .u32)) bf cl) ?_;rintro _ cv ⟨cm,bt,bu,rfl,a0,a1⟩;refine ⟨_,rfl,?_⟩;replace a1:=a1.thaw (Xz .u32) a0 ((Fz.refl (col:=a3)).froz 8) (by decide);replace a0:=a0.thawR (col:=a3);generalize X1 cj.heap.size a3 cm=cn at *;replace ab:=(ab.gr be).gr a0;refine Ya #[.bool bf.1,.slice bt bf.2.length bu] ab sizeOf45 ?_;intro cw bv co cp;refine Zc<|Zq ?_;cases hm;replace aa:=((aa.grow be).grow a0).kp bv co;replace a1:=a1.kp bv;exact ⟨rfl,_,Wi rfl rfl isAgg45 sizeOf45 rfl rfl cp.atN,Xh w0.heap.size col cn (fun n=>bif Nat.beq n 9 then c1 else 0),bt,bu,rfl,aa.fin (fun n=>bif Nat.beq n 9 then c1 else 0),aa.finOwn (g:=(fun n=>bif Nat.beq n 9 then c1 else 0)) rfl a1 (by decide) (by decide) rfl⟩
def Zh8 (N:Nat) (aa:(Bool×List Int)):Option (Bool×List Int):=
  (Sr N aa.1 aa.2).bind fun ab=>some (ab.1,ab.2)
theorem Zv3 (N:Nat) (c1:Nat) (col:Zh) (w0:World) (ac:Option Addr) (ad:Nat) (aa:(Bool×List Int)) (af:Sl (Za.int .u32) col w0 ac ad aa.2) (r:(Bool×List Int)) (hm:Zh8 N aa=some r):
    Calls Tryz.prog 261 #[(.agg #[.bool aa.1,.slice ac aa.2.length ad])] w0 (fun e w'=>∃ (col':Zh) (ra1:Option Addr) (rc2:Nat),e= .returned ((.agg #[.bool r.1,.slice ra1 r.2.length rc2]))∧Zf col w0 col' w'∧Zl (Za.int .u32) 79 c1 col' w' ra1 rc2 r.2):=by
 refine Wq (m:=8) (args:=[(.agg #[.bool aa.1,.slice ac aa.2.length ad])]) func261 rfl rfl rfl ?_;rw [Zh8.eq_1] at hm;have ab:=St.start col w0;refine Zb<|Zd<|X3 (col:=(Zo col)) 1 rfl ?_;intro aj ay ap aq ae;refine Yt (col:=ap) #[.bool false,.slice none (([]:List Int).length) 0] 2 zeroValue45 ?_;intro az a0 ar ak ag;refine Zc<|Zb<|Zd<|lF aj 0 underlying45 rfl sizeOf4 ?_;replace ae:=ae.gr ak;refine lV _ (Zn isAgg4 rfl ((ae.atN).nth (q:=0) rfl))<|Z9 aj 1 underlying45 rfl sizeOf43 isAgg43 ae rfl ?_;obtain ⟨ah,au,hm⟩:=bZ hm;replace af:=af.keep (Zp.start col w0);replace ab:=(ab.grow aq).grow ak;refine lc rfl rfl (Xa call234 rfl rfl) (Zb3 N 3 ar _ aa.1 ac ad aa.2 (af.ks ab) ah au) ?_;rintro _ a1 ⟨av,al,am,rfl,an,ai⟩;refine ⟨_,rfl,?_⟩;replace ag:=ag.gr an;refine Ya #[.bool ah.1,.slice al ah.2.length am] ag sizeOf45 ?_;intro a2 ao aw ax;refine Zc<|Zq ?_;cases hm;replace ab:=(ab.grow an).kp ao aw;replace ai:=ai.kp ao;exact ⟨rfl,_,Wi rfl rfl isAgg45 sizeOf45 rfl rfl ax.atN,Xh w0.heap.size col av (fun n=>bif Nat.beq n 3 then c1 else 0),al,am,rfl,ab.fin (fun n=>bif Nat.beq n 3 then c1 else 0),ab.finOwn (g:=(fun n=>bif Nat.beq n 3 then c1 else 0)) rfl ai (by decide) (by decide) rfl⟩
def Zep (N:Nat) (ae:Bool) (aa:List Int) (ab:List Int):Option ((Bool×List Int)×List Int):=
  (Zhg N aa ab).bind fun ac=>(Zce N aa ac).bind fun af=>(Zce N ab ac).bind fun ag=>(Zh8 N (ae,af.1)).bind fun ad=>some ((ad.1,ad.2),ag.1)
theorem Zm6 (N:Nat) (c1:Nat) (c2:Nat) (col:Zh) (w0:World) (ai:Bool) (a1:Option Addr) (aj:Nat) (ad:List Int) (a2:Option Addr) (ak:Nat) (ae:List Int) (h1:Sl (Za.int .u32) col w0 a1 aj ad) (h2:Sl (Za.int .u32) col w0 a2 ak ae) (r:((Bool×List Int)×List Int)) (hm:Zep N ai ad ae=some r):
    Calls Tryz.prog 189 #[.bool ai,.slice a1 ad.length aj,.slice a2 ae.length ak] w0 (fun e w'=>∃ (col':Zh) (ra1:Option Addr) (rc2:Nat) (ra4:Option Addr) (rc5:Nat),e= .returned ((.agg #[.bool r.1.1,.slice ra1 r.1.2.length rc2,.slice ra4 r.2.length rc5]))∧Zf col w0 col' w'∧Zl (Za.int .u32) 79 c1 col' w' ra1 rc2 r.1.2∧Zl (Za.int .u32) 79 c2 col' w' ra4 rc5 r.2):=by
 refine Wq (m:=37) (args:=[.bool ai,.slice a1 ad.length aj,.slice a2 ae.length ak]) func189 rfl rfl rfl ?_;rw [Zep.eq_1] at hm;have aa:=St.start col w0;refine Zb<|Zd<|Yt (col:=(Zo col)) #[.bool false,.slice none (([]:List Int).length) 0,.slice none (([]:List Int).length) 0] 1 zeroValue47 ?_;intro bs bt bd be az;refine Zc<|Zb<|Zd<|Zk rfl<|Zk rfl ?_;obtain ⟨a0,bf,hm⟩:=bZ hm;replace h1:=h1.keep (Zp.start col w0);replace h2:=h2.keep (Zp.start col w0);replace aa:=aa.grow be;refine lc rfl rfl (Xa call259 rfl rfl) (Zuw N 2 bd _ a1 aj ad a2 ak ae (h1.ks aa) (h2.ks aa) a0 bf) ?_;rintro _ bg ⟨ar,a6,a7,rfl,a8,au⟩;refine ⟨_,rfl,?_⟩;refine Zu rfl<|Zc<|Zb<|Zd<|Zk rfl<|Zk rfl ?_;obtain ⟨ab,bh,hm⟩:=bZ hm;replace aa:=aa.grow a8;refine lc rfl rfl (Xa call260 rfl rfl) (Zla N 3 4 (Z3 2 ar) _ a1 aj ad a6 a7 a0 ((h1.ks aa).froz 2) (au.toSlF (Z2.int .u32)) ab bh) ?_;rintro _ bi ⟨bj,av,aw,a9,ba,rfl,af,al,bu⟩;refine ⟨_,rfl,?_⟩;replace al:=al.thaw (Xz .u32) af ((Fz.refl (col:=ar)).froz 2) (by decide);replace af:=af.thawR (col:=ar);generalize X1 bg.heap.size ar bj=ax at *;refine lM (.tuple #[.slice av ab.1.length aw,.slice a9 ab.2.1.length ba,.int .i64 ab.2.2])<|lV (.slice av ab.1.length aw) (Y4 rfl rfl)<|lV (.slice a9 ab.2.1.length ba) (Y4 rfl rfl)<|lV (.int .i64 ab.2.2) (Y4 rfl rfl)<|Zu rfl<|Zu rfl<|Zj rfl<|Zc<|Zb<|Zd<|Zk rfl<|Zk rfl ?_;obtain ⟨ac,bk,hm⟩:=bZ hm;replace au:=au.gr af;replace aa:=aa.grow af;refine lc rfl rfl (Xa call260 rfl rfl) (Zla N 5 6 (Z3 2 ax) _ a2 ak ae a6 a7 a0 ((h2.ks aa).froz 2) (au.toSlF (Z2.int .u32)) ac bk) ?_;rintro _ bl ⟨bm,am,an,bb,bc,rfl,ag,ao,bv⟩;refine ⟨_,rfl,?_⟩;replace ao:=ao.thaw (Xz .u32) ag ((Fz.refl (col:=ax)).froz 2) (by decide);replace ag:=ag.thawR (col:=ax);generalize X1 bi.heap.size ax bm=ay at *;refine lM (.tuple #[.slice am ac.1.length an,.slice bb ac.2.1.length bc,.int .i64 ac.2.2])<|lV (.slice am ac.1.length an) (Y4 rfl rfl)<|lV (.slice bb ac.2.1.length bc) (Y4 rfl rfl)<|lV (.int .i64 ac.2.2) (Y4 rfl rfl)<|Zu rfl<|Zu rfl<|Zj rfl<|Zc<|Zb<|Zd<|Xf rfl<|Zk rfl<|lV (.agg #[.bool ai,.slice av ab.1.length aw]) (Vi (l:=[_,_]) (qs:=[(0,1),(1,1)]) underlying45 zeroValue45 ⟨rfl,sizeOf4,rfl,sizeOf43,trivial⟩ rfl) ?_
 obtain ⟨ap,bn,hm⟩:=bZ hm;replace al:=al.gr ag;refine lc rfl rfl (Z7 call261 rfl) (Zv3 N 7 (Z3 3 ay) _ av aw (ai,ab.1) (al.toSlF (Z2.int .u32)) ap bn) ?_;rintro _ bw ⟨bo,a3,a4,rfl,ah,aq⟩;refine ⟨_,rfl,?_⟩;replace aq:=aq.thaw (Xz .u32) ah ((Fz.refl (col:=ay)).froz 3) (by decide);replace ah:=ah.thawR (col:=ay);generalize X1 bl.heap.size ay bo=bp at *;refine Zk rfl<|lV (.agg #[.bool ap.1,.slice a3 ap.2.length a4,.slice am ac.1.length an]) (Vi (l:=[_,_]) (qs:=[(0,2),(2,1)]) underlying47 zeroValue47 ⟨rfl,sizeOf45,rfl,sizeOf43,trivial⟩ rfl) ?_;replace az:=(((az.gr a8).gr af).gr ag).gr ah;refine Ya #[.bool ap.1,.slice a3 ap.2.length a4,.slice am ac.1.length an] az sizeOf47 ?_;intro bx a5 bq br;refine Zc<|Zq ?_;cases hm;replace aa:=((aa.grow ag).grow ah).kp a5 bq;replace ao:=(ao.gr ah).kp a5;replace aq:=aq.kp a5;exact ⟨rfl,_,Wi rfl rfl isAgg47 sizeOf47 rfl rfl br.atN,Xh w0.heap.size col bp (fun n=>bif Nat.beq n 7 then c1 else bif Nat.beq n 5 then c2 else 0),a3,a4,am,an,rfl,aa.fin (fun n=>bif Nat.beq n 7 then c1 else bif Nat.beq n 5 then c2 else 0),aa.finOwn (g:=(fun n=>bif Nat.beq n 7 then c1 else bif Nat.beq n 5 then c2 else 0)) rfl aq (by decide) (by decide) rfl,aa.finOwn (g:=(fun n=>bif Nat.beq n 7 then c1 else bif Nat.beq n 5 then c2 else 0)) rfl ao (by decide) (by decide) rfl⟩
def Zg7 (N:Nat) (aa:((Bool×List Int)×List Int)) (ab:((Bool×List Int)×List Int)):Option ((Bool×List Int)×List Int):=
  (Qc N ((ab.1.1,ab.1.2),ab.2)).bind fun ag=>(Zaz N (aa.1.1,aa.1.2) ag).bind fun ad=>(Qc N ((aa.1.1,aa.1.2),aa.2)).bind fun ah=>(Zaz N (ab.1.1,ab.1.2) ah).bind fun ae=>(Zh5 N (ad.1,ad.2) (ae.1,ae.2)).bind fun af=>(Qc N ((aa.1.1,aa.1.2),aa.2)).bind fun ai=>(Qc N ((ab.1.1,ab.1.2),ab.2)).bind fun aj=>(Zcg N ai aj).bind fun ak=>(Zep N af.1 af.2 ak).bind fun ac=>some ((ac.1.1,ac.1.2),ac.2)
theorem Zue (N:Nat) (c1:Nat) (c2:Nat) (col:Zh) (w0:World) (a2:Option Addr) (a3:Nat) (be:Option Addr) (bf:Nat) (ad:((Bool×List Int)×List Int)) (a4:Option Addr) (a5:Nat) (bg:Option Addr) (bh:Nat) (ae:((Bool×List Int)×List Int)) (bm:Sl (Za.int .u32) col w0 a2 a3 ad.1.2) (b0:Sl (Za.int .u32) col w0 be bf ad.2) (bn:Sl (Za.int .u32) col w0 a4 a5 ae.1.2) (b1:Sl (Za.int .u32) col w0 bg bh ae.2) (r:((Bool×List Int)×List Int)) (hm:Zg7 N ad ae=some r):
    Calls Tryz.prog 73 #[(.agg #[.bool ad.1.1,.slice a2 ad.1.2.length a3,.slice be ad.2.length bf]),(.agg #[.bool ae.1.1,.slice a4 ae.1.2.length a5,.slice bg ae.2.length bh])] w0 (fun e w'=>∃ (col':Zh) (ra1:Option Addr) (rc2:Nat) (ra4:Option Addr) (rc5:Nat),e= .returned ((.agg #[.bool r.1.1,.slice ra1 r.1.2.length rc2,.slice ra4 r.2.length rc5]))∧Zf col w0 col' w'∧Zl (Za.int .u32) 79 c1 col' w' ra1 rc2 r.1.2∧Zl (Za.int .u32) 79 c2 col' w' ra4 rc5 r.2):=by
 refine Wq (m:=27) (args:=[(.agg #[.bool ad.1.1,.slice a2 ad.1.2.length a3,.slice be ad.2.length bf]),(.agg #[.bool ae.1.1,.slice a4 ae.1.2.length a5,.slice bg ae.2.length bh])]) func73 rfl rfl rfl ?_;rw [Zg7.eq_1] at hm;have aa:=St.start col w0;refine Zb<|Zd<|X3 (col:=(Zo col)) 1 rfl ?_;intro c5 ec c6 c7 ag;refine X3 (col:=c6) 2 rfl ?_;intro c8 ed c9 cf ah;refine Yt (col:=c9) #[.bool false,.slice none (([]:List Int).length) 0,.slice none (([]:List Int).length) 0] 3 zeroValue47 ?_;intro ee aw ax b6 ab;refine Zc<|Zb ?_;have b2:=Xu.clip (fun _=>false) ax aw;refine Zms (col:=ax) [(0,1),(1,0),(2,0),(5,1),(6,0),(7,0),(3,3),(4,3),(8,3),(9,3),(10,3),(11,4),(12,2)] (by kernel_rfl) (by kernel_rfl) ⟨fun h=>absurd h (by decide),fun h=>absurd h (by decide),fun h=>absurd h (by decide),fun h=>absurd h (by decide),fun h=>absurd h (by decide),fun h=>absurd h (by decide),fun h=>absurd h (by decide),fun h=>absurd h (by decide),fun h=>absurd h (by decide),fun h=>absurd h (by decide),fun h=>absurd h (by decide),fun _=>⟨_,_,_,rfl,Zd9 zeroValue45⟩,fun h=>absurd h (by decide),trivial⟩<|Zkz (v:=(.pointer ((some (⟨c5,0,none⟩:Addr)).map (·.add 0)))) rfl rfl (fun _=>Xn (sz:=2) (off:=0) underlying47 rfl sizeOf45 (by decide) rfl rfl ⟨_,_,rfl⟩) ?_;replace ag:=((ag.gr cf).gr b6).kpp b2;refine Zby (v:=(.agg #[.bool ad.1.1,.slice a2 ad.1.2.length a3])) rfl rfl (fun _ hC=>Wt isAgg45 sizeOf45 rfl rfl (((ag.atN).part 0 2 _ rfl).gr (hC.bl (Z1 aw ax)))) ?_;replace ah:=(ah.gr b6).kpp b2;refine Zby (v:=(.agg #[.bool ae.1.1,.slice a4 ae.1.2.length a5,.slice bg ae.2.length bh])) rfl rfl (fun _ hC=>Wt isAgg47 sizeOf47 rfl rfl (ah.atN.gr (hC.bl (Z1 aw ax)))) ?_;refine Zkz (v:=(.pointer ((some (⟨c8,0,none⟩:Addr)).map (·.add 0)))) rfl rfl (fun _=>Xn (sz:=2) (off:=0) underlying47 rfl sizeOf45 (by decide) rfl rfl ⟨_,_,rfl⟩) ?_;refine Zby (v:=(.agg #[.bool ae.1.1,.slice a4 ae.1.2.length a5])) rfl rfl (fun _ hC=>Wt isAgg45 sizeOf45 rfl rfl (((ah.atN).part 0 2 _ rfl).gr (hC.bl (Z1 aw ax)))) ?_;refine Zby (v:=(.agg #[.bool ad.1.1,.slice a2 ad.1.2.length a3,.slice be ad.2.length bf])) rfl rfl (fun _ hC=>Wt isAgg47 sizeOf47 rfl rfl (ag.atN.gr (hC.bl (Z1 aw ax)))) ?_;refine U9 rfl rfl ?_;intro da hC0;have hC:Zf (Z1 aw ax) aw (Z1 aw ax) da:=.of_below hC0.below;obtain ⟨cg,db,hm⟩:=bZ hm;replace bn:=bn.keep (Zp.start col w0);replace b1:=b1.keep (Zp.start col w0)
 replace aa:=((((aa.grow c7).grow cf).grow b6).kpp b2).grow hC;refine lc rfl rfl (Z7 call186 rfl) (Zd2 N 4 (Z1 aw ax) _ a4 a5 bg bh ((ae.1.1,ae.1.2),ae.2) (bn.ks aa) (b1.ks aa) cg db) ?_;rintro _ al ⟨ap,dc,dd,rfl,a8,b7⟩;refine ⟨_,rfl,?_⟩;refine Zc ⟨fun w'=>Zf (Z1 al ap) al (Z1 al ap) w',fun g=>(Z1 al ap) g=497,Zf.refl _ _,Uw,fun _=>⟨fun _ h=>Yh hC0 a8 h,fun b hb=>a8.below.block b hb,fun g h1 h2=>Sf a8 g h1 (by first | exact h2 | (simp only [Z3,h2];rfl) | (simp only [Z3,X7,h2];rfl))⟩,?_⟩;have bo:=Xu.clip (fun _=>false) ap al;refine U9 rfl rfl ?_;intro ch hC0;replace ab:=(((ab.kpp b2).gr hC).gr a8).kpp bo;replace ag:=((ag.gr hC).gr a8).kpp bo;replace ah:=((ah.gr hC).gr a8).kpp bo;have hC:Zf (Z1 al ap) al (Z1 al ap) ch:=.of_below hC0.below;obtain ⟨b8,de,hm⟩:=bZ hm;replace bm:=bm.keep (Zp.start col w0);replace aa:=((aa.grow a8).kpp bo).grow hC;replace b7:=(b7.kpp bo).gr hC;refine lc rfl rfl (Xa call185 rfl rfl) (Zi2 N 5 (Z3 4 (Z1 al ap)) _ a2 a3 (ad.1.1,ad.1.2) dc dd cg ((bm.ks aa).froz 4) (b7.toSlF (Z2.int .u32)) b8 de) ?_;rintro _ ay ⟨df,dg,dh,rfl,aq,az⟩;refine ⟨_,rfl,?_⟩;replace b0:=b0.keep (Zp.start col w0);replace az:=az.thaw (Xz .u32) aq ((Fz.refl (col:=(Z1 al ap))).froz 4) (by decide);replace aq:=aq.thawR (col:=(Z1 al ap));generalize X1 ch.heap.size (Z1 al ap) df=a9 at *;refine Zc ⟨fun w'=>Zf (Z1 ay a9) ay (Z1 ay a9) w',fun g=>(Z1 ay a9) g=497,Zf.refl _ _,Uw,fun _=>⟨fun _ h=>Yh hC0 aq h,fun b hb=>aq.below.block b hb,fun g h1 h2=>Sf aq g h1 (by first | exact h2 | (simp only [Z3,h2];rfl) | (simp only [Z3,X7,h2];rfl))⟩,?_⟩;have bp:=Xu.clip (fun _=>false) a9 ay;refine U9 rfl rfl ?_;intro di hC0;replace ag:=((ag.gr hC).gr aq).kpp bp;replace ah:=((ah.gr hC).gr aq).kpp bp;replace ab:=((ab.gr hC).gr aq).kpp bp;have hC:Zf (Z1 ay a9) ay (Z1 ay a9) di:=.of_below hC0.below;obtain ⟨ci,dj,hm⟩:=bZ hm;replace aa:=((aa.grow aq).kpp bp).grow hC;refine lc rfl rfl (Z7 call186 rfl) (Zd2 N 6 (Z1 ay a9) _ a2 a3 be bf ((ad.1.1,ad.1.2),ad.2) (bm.ks aa) (b0.ks aa) ci dj) ?_;rintro _ am ⟨ar,dk,dl,rfl,a6,b9⟩;refine ⟨_,rfl,?_⟩
 refine Zc ⟨fun w'=>Zf (Z1 am ar) am (Z1 am ar) w',fun g=>(Z1 am ar) g=497,Zf.refl _ _,Uw,fun _=>⟨fun _ h=>Yh hC0 a6 h,fun b hb=>a6.below.block b hb,fun g h1 h2=>Sf a6 g h1 (by first | exact h2 | (simp only [Z3,h2];rfl) | (simp only [Z3,X7,h2];rfl))⟩,?_⟩;have bi:=Xu.clip (fun _=>false) ar am;refine U9 rfl rfl ?_;intro cj hC0;replace az:=(((az.kpp bp).gr hC).gr a6).kpp bi;replace ag:=((ag.gr hC).gr a6).kpp bi;replace ah:=((ah.gr hC).gr a6).kpp bi;replace ab:=((ab.gr hC).gr a6).kpp bi;have hC:Zf (Z1 am ar) am (Z1 am ar) cj:=.of_below hC0.below;obtain ⟨ca,dm,hm⟩:=bZ hm;replace aa:=((aa.grow a6).kpp bi).grow hC;replace b9:=(b9.kpp bi).gr hC;refine lc rfl rfl (Xa call185 rfl rfl) (Zi2 N 7 (Z3 6 (Z1 am ar)) _ a4 a5 (ae.1.1,ae.1.2) dk dl ci ((bn.ks aa).froz 6) (b9.toSlF (Z2.int .u32)) ca dm) ?_;rintro _ an ⟨dn,dp,dq,rfl,ao,bq⟩;refine ⟨_,rfl,?_⟩;replace bq:=bq.thaw (Xz .u32) ao ((Fz.refl (col:=(Z1 am ar))).froz 6) (by decide);replace ao:=ao.thawR (col:=(Z1 am ar));generalize X1 cj.heap.size (Z1 am ar) dn=au at *;refine Zc ⟨fun w'=>Zf (Z1 an au) an (Z1 an au) w',fun g=>(Z1 an au) g=497,Zf.refl _ _,Uw,fun _=>⟨fun _ h=>Yh hC0 ao h,fun b hb=>ao.below.block b hb,fun g h1 h2=>Sf ao g h1 (by first | exact h2 | (simp only [Z3,h2];rfl) | (simp only [Z3,X7,h2];rfl))⟩,?_⟩;have bj:=Xu.clip (fun _=>false) au an;refine U9 rfl rfl ?_;intro ck hC0;replace az:=((az.gr hC).gr ao).kpp bj;replace ag:=((ag.gr hC).gr ao).kpp bj;replace ah:=((ah.gr hC).gr ao).kpp bj;replace ab:=((ab.gr hC).gr ao).kpp bj;have hC:Zf (Z1 an au) an (Z1 an au) ck:=.of_below hC0.below;obtain ⟨br,dr,hm⟩:=bZ hm;replace bq:=(bq.kpp bj).gr hC;replace az:=az.gr hC;refine lc rfl rfl (Xa call188 rfl rfl) (Zv0 N 8 (Z3 7 (Z3 5 (Z1 an au))) _ dg dh (b8.1,b8.2) dp dq (ca.1,ca.2) ((az.toSlF (Z2.int .u32)).froz 7) ((bq.froz 5 (by decide)).toSlF (Z2.int .u32)) br dr) ?_;rintro _ ac ⟨ds,cl,cm,rfl,av,ak⟩;refine ⟨_,rfl,?_⟩;replace ak:=ak.thaw (Xz .u32) av (((Fz.refl (col:=(Z1 an au))).froz 5).froz 7) (by decide);replace av:=av.thawR (col:=(Z1 an au));generalize X1 ck.heap.size (Z1 an au) ds=af at *
 refine Zc ⟨fun w'=>Zf (Z1 ac af) ac (Z1 ac af) w',fun g=>(Z1 ac af) g=497,Zf.refl _ _,Uw,fun _=>⟨fun _ h=>Yh hC0 av h,fun b hb=>av.below.block b hb,fun g h1 h2=>Sf av g h1 (by first | exact h2 | (simp only [Z3,h2];rfl) | (simp only [Z3,X7,h2];rfl))⟩,?_⟩;have bs:=Xu.clip (fun _=>false) af ac;refine xaF rfl rfl (Zd9 zeroValue45) ?_;intro ai dt;refine U9 rfl rfl ?_;intro cn ⟨hC0,hZ0⟩;replace aa:=((((aa.grow ao).kpp bj).grow hC).grow av).kpp bs;replace ag:=((ag.gr hC).gr av).kpp bs;replace ah:=((ah.gr hC).gr av).kpp bs;replace ab:=((ab.gr hC).gr av).kpp bs;have hC:Zf (Z1 ac af) ac (Z1 ac af) cn:=.of_below hC0.below;obtain ⟨bt,cb⟩:=Zk8 (col:=(Z1 ac af)) 9 hZ0 dt;replace cb:Zt 45 9 (Yl ai 9 (Z1 ac af)) cn ai #[.bool false,.slice none (([]:List Int).length) 0]:=cb;refine Ya #[.bool br.1,.slice cl br.2.length cm] cb sizeOf45 ?_;intro aj bu du b3;refine Zc ⟨fun w'=>Zf (Z1 aj (Yl ai 9 (Z1 ac af))) aj (Z1 aj (Yl ai 9 (Z1 ac af))) w',fun g=>(Z1 aj (Yl ai 9 (Z1 ac af))) g=497,Zf.refl _ _,Uw,fun h=>absurd h (by decide),?_⟩;have bk:=Xu.clip (fun _=>false) (Yl ai 9 (Z1 ac af)) aj;refine Zmt ?_;replace ak:=((((ak.kpp bs).gr hC).kpp bt).kp bu).kpp bk;replace ag:=(((ag.gr hC).kpp bt).kp bu).kpp bk;replace ah:=(((ah.gr hC).kpp bt).kp bu).kpp bk;replace ab:=(((ab.gr hC).kpp bt).kp bu).kpp bk;replace aa:=(((aa.grow hC).kpp bt).kp bu du).kpp bk;intro co hC;replace hC:Zf (Z1 aj (Yl ai 9 (Z1 ac af))) aj (Z1 aj (Yl ai 9 (Z1 ac af))) co:=.of_below hC.below;refine Zb<|Vn (col:=(Z1 aj (Yl ai 9 (Z1 ac af)))) [(0,1),(1,0),(2,1),(3,0),(4,0),(6,0),(5,3),(7,3),(8,3),(9,3),(10,2)] (by kernel_rfl) (by kernel_rfl)<|xu (v:=(.pointer ((some (⟨ai,0,none⟩:Addr)).map (·.add 0)))) rfl rfl (fun _=>Xn (sz:=1) (off:=0) underlying45 rfl sizeOf4 (by decide) rfl rfl ⟨_,_,rfl⟩) ?_;replace b3:=(b3.kpp bk).gr hC;refine xv rfl rfl (fun _ hC=>Zn isAgg4 rfl (((b3.atN).nth (q:=0) rfl).gr (hC.bl (Z1 aj (Yl ai 9 (Z1 ac af)))))) ?_;refine xu (v:=(.pointer ((some (⟨ai,0,none⟩:Addr)).map (·.add 1)))) rfl rfl (fun _=>Xn (sz:=1) (off:=1) underlying45 rfl sizeOf43 (by decide) rfl rfl ⟨_,_,rfl⟩) ?_;refine xv rfl rfl (fun _ hC=>Zn isAgg43 rfl (((b3.atN).nth (q:=1) rfl).gr (hC.bl (Z1 aj (Yl ai 9 (Z1 ac af)))))) ?_;replace ag:=ag.gr hC
 refine xv rfl rfl (fun _ hC=>Ye isAgg47 sizeOf47 (ag.gr (hC.bl (Z1 aj (Yl ai 9 (Z1 ac af)))))) ?_;replace ah:=ah.gr hC;refine xv rfl rfl (fun _ hC=>Ye isAgg47 sizeOf47 (ah.gr (hC.bl (Z1 aj (Yl ai 9 (Z1 ac af)))))) ?_;refine xe rfl rfl ?_;intro dv hC0;replace ak:=ak.gr hC;replace ab:=ab.gr hC;replace aa:=aa.grow hC;have hC:Zf (Z1 aj (Yl ai 9 (Z1 ac af))) co (Z1 aj (Yl ai 9 (Z1 ac af))) dv:=.of_below hC0.below;obtain ⟨cp,dw,hm⟩:=bZ hm;replace aa:=aa.grow hC;refine lc rfl rfl (Z7 call186 rfl) (Zd2 N 10 (Z1 aj (Yl ai 9 (Z1 ac af))) _ a2 a3 be bf ((ad.1.1,ad.1.2),ad.2) (bm.ks aa) (b0.ks aa) cp dw) ?_;rintro _ cq ⟨bv,dx,dy,rfl,b4,bw⟩;refine ⟨_,rfl,?_⟩;refine Zc ⟨fun w'=>Zf bv cq bv w',Zf.refl _ _,fun _ _ h=>Yh hC0 b4 h,?_⟩;refine xe rfl rfl ?_;intro dz hC0;replace ak:=(ak.gr hC).gr b4;replace ab:=(ab.gr hC).gr b4;have hC:Zf bv cq bv dz:=.of_below hC0.below;obtain ⟨cr,d0,hm⟩:=bZ hm;replace aa:=(aa.grow b4).grow hC;refine lc rfl rfl (Z7 call186 rfl) (Zd2 N 11 bv _ a4 a5 bg bh ((ae.1.1,ae.1.2),ae.2) (bn.ks aa) (b1.ks aa) cr d0) ?_;rintro _ cs ⟨a7,d1,d2,rfl,bx,cc⟩;refine ⟨_,rfl,?_⟩;refine Zc ⟨fun w'=>Zf a7 cs a7 w',Zf.refl _ _,fun _ _ h=>Yh hC0 bx h,?_⟩;refine xe rfl rfl ?_;intro ct hC0;replace ak:=(ak.gr hC).gr bx;replace bw:=(bw.gr hC).gr bx;replace ab:=(ab.gr hC).gr bx;have hC:Zf a7 cs a7 ct:=.of_below hC0.below;obtain ⟨cu,d3,hm⟩:=bZ hm;replace bw:=bw.gr hC;replace cc:=cc.gr hC;refine lc rfl rfl (Xa call113 rfl rfl) (Zna N 12 (Z3 11 (Z3 10 a7)) _ dx dy cp d1 d2 cr ((bw.toSlF (Z2.int .u32)).froz 11) ((cc.froz 10 (by decide)).toSlF (Z2.int .u32)) cu d3) ?_;rintro _ cv ⟨d4,d5,d6,rfl,ba,bz⟩;refine ⟨_,rfl,?_⟩;replace bz:=bz.thaw (Xz .u32) ba (((Fz.refl (col:=a7)).froz 10).froz 11) (by decide);replace ba:=ba.thawR (col:=a7);generalize X1 ct.heap.size a7 d4=a0 at *;refine Zc ⟨fun w'=>Zf a0 cv a0 w',Zf.refl _ _,fun _ _ h=>Yh hC0 ba h,?_⟩;refine xe rfl rfl ?_;intro cw hC0;replace aa:=((aa.grow bx).grow hC).grow ba;replace ak:=(ak.gr hC).gr ba;replace ab:=(ab.gr hC).gr ba;have hC:Zf a0 cv a0 cw:=.of_below hC0.below;obtain ⟨b5,d7,hm⟩:=bZ hm;replace ak:=ak.gr hC;replace bz:=bz.gr hC
 refine lc rfl rfl (Zru call189 rfl rfl rfl) (Zm6 N 13 14 (Z3 12 (Z3 8 a0)) _ br.1 cl cm br.2 d5 d6 cu ((ak.toSlF (Z2.int .u32)).froz 12) ((bz.froz 8 (by decide)).toSlF (Z2.int .u32)) b5 d7) ?_;rintro _ cx ⟨d8,cy,cz,c0,c3,rfl,bb,bc,bd⟩;refine ⟨_,rfl,?_⟩;replace bc:=bc.thaw (Xz .u32) bb (((Fz.refl (col:=a0)).froz 8).froz 12) (by decide);replace bd:=bd.thaw (Xz .u32) bb (((Fz.refl (col:=a0)).froz 8).froz 12) (by decide);replace bb:=bb.thawR (col:=a0);generalize X1 cw.heap.size a0 d8=a1 at *;refine Zc ⟨fun w'=>Zf a1 cx a1 w',Zf.refl _ _,fun _ _ h=>Yh hC0 bb h,?_⟩;refine xe rfl rfl ?_;intro d9 hC0;replace ab:=(ab.gr hC).gr bb;replace aa:=(aa.grow hC).grow bb;have hC:Zf a1 cx a1 d9:=.of_below hC0.below;replace ab:=ab.gr hC;refine Ya #[.bool b5.1.1,.slice cy b5.1.2.length cz,.slice c0 b5.2.length c3] ab sizeOf47 ?_;intro c4 cd ea ce;refine Zc ⟨fun w'=>Zf a1 c4 a1 w',Zf.refl _ _,fun h=>absurd h (by decide),?_⟩;refine Ve ?_;replace bc:=(bc.gr hC).kp cd;replace bd:=(bd.gr hC).kp cd;replace aa:=(aa.grow hC).kp cd ea;intro eb hC;replace hC:Zf a1 c4 a1 eb:=.of_below hC.below;refine Zq ?_;cases hm;replace bc:=bc.gr hC;replace bd:=bd.gr hC;replace ce:=ce.gr hC;replace aa:=aa.grow hC;exact ⟨rfl,_,Wi rfl rfl isAgg47 sizeOf47 rfl rfl ce.atN,Xh w0.heap.size col a1 (fun n=>bif Nat.beq n 13 then c1 else bif Nat.beq n 14 then c2 else 0),cy,cz,c0,c3,rfl,aa.fin (fun n=>bif Nat.beq n 13 then c1 else bif Nat.beq n 14 then c2 else 0),aa.finOwn (g:=(fun n=>bif Nat.beq n 13 then c1 else bif Nat.beq n 14 then c2 else 0)) rfl bc (by decide) (by decide) rfl,aa.finOwn (g:=(fun n=>bif Nat.beq n 13 then c1 else bif Nat.beq n 14 then c2 else 0)) rfl bd (by decide) (by decide) rfl⟩
def Zbm (N:Nat) (aa:(Bool×List Int)):Option Int:=
  (Zhf N aa.2).bind fun ab=>if (decide (ab=0))=true then (some 0) else (if aa.1=true then (some (-1)) else (some 1))
theorem Zi8 (N:Nat) (col:Zh) (w0:World) (ae:Option Addr) (af:Nat) (ab:(Bool×List Int)) (ag:Sl (Za.int .u32) col w0 ae af ab.2) (r:Int) (hm:Zbm N ab=some r):
    Calls Tryz.prog 187 #[(.agg #[.bool ab.1,.slice ae ab.2.length af])] w0 (fun e w'=>e= .returned ((.int .i64 r))∧Below w0.heap.size w0 w'):=by
 refine Xv 2 (m:=11) func187 rfl rfl rfl rfl rfl ?_;rw [Zbm.eq_1] at hm;have aa:=St.start col w0;refine Zb<|Zd<|X3 (col:=(Zo col)) 1 rfl ?_;intro ai aj ah ak ac;refine Zj rfl<|Zc<|Zb<|Z0<|Zb<|Zd<|Z9 ai 1 underlying45 rfl sizeOf43 isAgg43 ac rfl ?_;obtain ⟨al,am,hm⟩:=bZ hm;replace ag:=ag.keep (Zp.start col w0);replace aa:=aa.grow ak;refine lc rfl rfl (Z7 call128 rfl) (Zuv N ah _ ae af ab.2 (ag.ks aa) al am) ?_;rintro _ an ⟨rfl,ad⟩;refine ⟨_,rfl,?_⟩;replace ad:Zf ah aj ah an:=.of_below ad;refine lV _ (Y9 _ _ rfl rfl)<|Xc rfl<|Zc ?_;replace ac:=ac.gr ad;replace aa:=aa.grow ad;refine Zy _ rfl (fun hb=>?_) (fun hb=>?_)
 ·rw [if_pos hb] at hm;refine Zb<|Zd<|Zj rfl<|Zc<|Zq ?_;cases hm;exact ⟨rfl,rfl,aa.below⟩
 rw [if_neg (Zz hb)] at hm;refine Zb<|Zd<|Z9 ai 0 underlying45 rfl sizeOf4 isAgg4 ac rfl<|Xc rfl<|Zc ?_;refine Zy _ rfl (fun hb=>?_) (fun hb=>?_)
 ·rw [if_pos hb] at hm;refine Zb<|Zd<|Zj rfl<|Zc<|Zq ?_;cases hm;exact ⟨rfl,rfl,aa.below⟩
 rw [if_neg (Zz hb)] at hm;refine Zr<|Zb<|Zd<|Zj rfl<|Zc<|Zq ?_;cases hm;exact ⟨rfl,rfl,aa.below⟩
def Zh6 (N:Nat) (aa:(Bool×List Int)) (ab:(Bool×List Int)):Option Int:=
  (Zbm N (aa.1,aa.2)).bind fun ac=>(Zbm N (ab.1,ab.2)).bind fun ad=>if (decide (ac<ad))=true then (some (-1)) else (if (decide (ad<ac))=true then (some 1) else ((Zcc N aa.2 ab.2).bind fun ae=>some (i64.wrap (ac * ae))))
theorem Zv1 (N:Nat) (col:Zh) (w0:World) (af:Option Addr) (ag:Nat) (ac:(Bool×List Int)) (ah:Option Addr) (ai:Nat) (ad:(Bool×List Int)) (aj:Sl (Za.int .u32) col w0 af ag ac.2) (ak:Sl (Za.int .u32) col w0 ah ai ad.2) (r:Int) (hm:Zh6 N ac ad=some r):
    Calls Tryz.prog 184 #[(.agg #[.bool ac.1,.slice af ac.2.length ag]),(.agg #[.bool ad.1,.slice ah ad.2.length ai])] w0 (fun e w'=>e= .returned ((.int .i64 r))∧Below w0.heap.size w0 w'):=by
 refine Xv 4 (m:=26) func184 rfl rfl rfl rfl rfl ?_;rw [Zh6.eq_1] at hm;have aa:=St.start col w0;refine Zb<|Zd<|X3 (col:=(Zo col)) 1 rfl ?_;intro ar a3 au av ae;refine X3 (col:=au) 2 rfl ?_;intro aw ax ab an al;refine Zj rfl<|Zc<|Zb<|W5 (col:=ab) (by kernel_rfl) (by kernel_rfl) ?_;replace ae:=ae.gr an;refine qv rfl (fun _ hC=>Ye isAgg45 sizeOf45 (ae.gr (hC.bl ab))) ?_;obtain ⟨ao,ay,hm⟩:=bZ hm;replace aj:=aj.keep (Zp.start col w0);replace aa:=(aa.grow av).grow an;refine qc (v:=(.int .i64 ao)) rfl (fun _ hC=>⟨_,_,Z7 call187 rfl,(Zi8 N ab _ af ag (ac.1,ac.2) ((aj.ks aa).gr (hC.bl ab)) ao ay).mono fun _ _ h=>⟨h.1,hC.trans (.of_below h.2)⟩⟩) ?_;refine qv rfl (fun _ hC=>Ye isAgg45 sizeOf45 (al.gr (hC.bl ab))) ?_;obtain ⟨ap,az,hm⟩:=bZ hm;replace ak:=ak.keep (Zp.start col w0);refine qc (v:=(.int .i64 ap)) rfl (fun _ hC=>⟨_,_,Z7 call187 rfl,(Zi8 N ab _ ah ai (ad.1,ad.2) ((ak.ks aa).gr (hC.bl ab)) ap az).mono fun _ _ h=>⟨h.1,hC.trans (.of_below h.2)⟩⟩) ?_;refine qv rfl (fun _ hC=>Zah rfl) ?_;refine qv rfl (fun _ hC=>Zah rfl) ?_;refine Y1 ?_;intro aq hC;replace hC:Zf ab ax ab aq:=.of_below hC.below;refine Zb<|Z0<|Zb<|Zd<|Zg rfl<|Zg rfl<|lV _ (Z4 _ _ rfl rfl)<|Xc rfl<|Zc ?_;replace ae:=ae.gr hC;replace al:=al.gr hC;replace aa:=aa.grow hC;refine Zy _ rfl (fun hb=>?_) (fun hb=>?_)
 ·rw [if_pos hb] at hm;refine Zb<|Zd<|Zj rfl<|Zc<|Zq ?_;cases hm;exact ⟨rfl,rfl,aa.below⟩
 rw [if_neg (Zz hb)] at hm;refine Zb<|Zd<|Zg rfl<|Zg rfl<|lV _ (Wa _ _ rfl rfl)<|Xc rfl<|Zc ?_;refine Zy _ rfl (fun hb=>?_) (fun hb=>?_)
 ·rw [if_pos hb] at hm;refine Zb<|Zd<|Zj rfl<|Zc<|Zq ?_;cases hm;exact ⟨rfl,rfl,aa.below⟩
 rw [if_neg (Zz hb)] at hm;refine Zr<|Zb<|Zd<|Zg rfl<|Z9 ar 1 underlying45 rfl sizeOf43 isAgg43 ae rfl<|Z9 aw 1 underlying45 rfl sizeOf43 isAgg43 al rfl ?_;obtain ⟨a0,a1,hm⟩:=bZ hm;refine lc rfl rfl (Xa call250 rfl rfl) (Zk9 N ab _ af ag ac.2 ah ai ad.2 (aj.ks aa) (ak.ks aa) a0 a1) ?_;rintro _ a2 ⟨rfl,am⟩;refine ⟨_,rfl,?_⟩;replace am:Zf ab aq ab a2:=.of_below am;refine lV _ (Ur _ _ rfl rfl)<|Zj rfl<|Zc<|Zq ?_;cases hm;replace aa:=aa.grow am;exact ⟨rfl,rfl,aa.below⟩
def Zen (N:Nat) (aa:((Bool×List Int)×List Int)) (ab:((Bool×List Int)×List Int)):Option Int:=
  (Qc N ((ab.1.1,ab.1.2),ab.2)).bind fun ae=>(Zaz N (aa.1.1,aa.1.2) ae).bind fun ac=>(Qc N ((aa.1.1,aa.1.2),aa.2)).bind fun af=>(Zaz N (ab.1.1,ab.1.2) af).bind fun ad=>(Zh6 N (ac.1,ac.2) (ad.1,ad.2)).bind fun ag=>some ag
theorem Zm5 (N:Nat) (col:Zh) (w0:World) (aj:Option Addr) (ak:Nat) (aw:Option Addr) (ax:Nat) (ab:((Bool×List Int)×List Int)) (al:Option Addr) (am:Nat) (ay:Option Addr) (az:Nat) (ac:((Bool×List Int)×List Int)) (aq:Sl (Za.int .u32) col w0 aj ak ab.1.2) (a0:Sl (Za.int .u32) col w0 aw ax ab.2) (ar:Sl (Za.int .u32) col w0 al am ac.1.2) (a1:Sl (Za.int .u32) col w0 ay az ac.2) (r:Int) (hm:Zen N ab ac=some r):
    Calls Tryz.prog 71 #[(.agg #[.bool ab.1.1,.slice aj ab.1.2.length ak,.slice aw ab.2.length ax]),(.agg #[.bool ac.1.1,.slice al ac.1.2.length am,.slice ay ac.2.length az])] w0 (fun e w'=>e= .returned ((.int .i64 r))∧Below w0.heap.size w0 w'):=by
 refine Xv 4 (m:=16) func71 rfl rfl rfl rfl rfl ?_;rw [Zen.eq_1] at hm;have aa:=St.start col w0;refine Zb<|Zd<|X3 (col:=(Zo col)) 1 rfl ?_;intro bk ca bm bn au;refine X3 (col:=bm) 2 rfl ?_;intro bo bp af a8 a9;refine Zj rfl<|Zc<|Zb<|Vn (col:=af) [(0,1),(1,0),(2,0),(5,1),(6,0),(7,0),(3,3),(4,3),(8,3),(9,3),(10,3),(11,1)] (by kernel_rfl) (by kernel_rfl)<|xu (v:=(.pointer ((some (⟨bk,0,none⟩:Addr)).map (·.add 0)))) rfl rfl (fun _=>Xn (sz:=2) (off:=0) underlying47 rfl sizeOf45 (by decide) rfl rfl ⟨_,_,rfl⟩) ?_;replace au:=au.gr a8;refine xv (v:=(.agg #[.bool ab.1.1,.slice aj ab.1.2.length ak])) rfl rfl (fun _ hC=>Wt isAgg45 sizeOf45 rfl rfl (((au.atN).part 0 2 _ rfl).gr (hC.bl af))) ?_;refine xv rfl rfl (fun _ hC=>Ye isAgg47 sizeOf47 (a9.gr (hC.bl af))) ?_;refine xu (v:=(.pointer ((some (⟨bo,0,none⟩:Addr)).map (·.add 0)))) rfl rfl (fun _=>Xn (sz:=2) (off:=0) underlying47 rfl sizeOf45 (by decide) rfl rfl ⟨_,_,rfl⟩) ?_;refine xv (v:=(.agg #[.bool ac.1.1,.slice al ac.1.2.length am])) rfl rfl (fun _ hC=>Wt isAgg45 sizeOf45 rfl rfl (((a9.atN).part 0 2 _ rfl).gr (hC.bl af))) ?_;refine xv rfl rfl (fun _ hC=>Ye isAgg47 sizeOf47 (au.gr (hC.bl af))) ?_;refine xe rfl rfl ?_;intro bq hC0;have hC:Zf af bp af bq:=.of_below hC0.below;obtain ⟨ba,br,hm⟩:=bZ hm;replace ar:=ar.keep (Zp.start col w0);replace a1:=a1.keep (Zp.start col w0);replace aa:=((aa.grow bn).grow a8).grow hC;refine lc rfl rfl (Z7 call186 rfl) (Zd2 N 3 af _ al am ay az ((ac.1.1,ac.1.2),ac.2) (ar.ks aa) (a1.ks aa) ba br) ?_;rintro _ bb ⟨ag,bs,bt,rfl,bc,a2⟩;refine ⟨_,rfl,?_⟩;refine Zc ⟨fun w'=>Zf ag bb ag w',Zf.refl _ _,fun _ _ h=>Yh hC0 bc h,?_⟩;refine xe rfl rfl ?_;intro bd hC0;have hC:Zf ag bb ag bd:=.of_below hC0.below;obtain ⟨a3,bu,hm⟩:=bZ hm;replace aq:=aq.keep (Zp.start col w0);replace aa:=(aa.grow bc).grow hC;replace a2:=a2.gr hC;refine lc rfl rfl (Xa call185 rfl rfl) (Zi2 N 4 (Z3 3 ag) _ aj ak (ab.1.1,ab.1.2) bs bt ba ((aq.ks aa).froz 3) (a2.toSlF (Z2.int .u32)) a3 bu) ?_;rintro _ be ⟨bv,bw,bx,rfl,an,ae⟩;refine ⟨_,rfl,?_⟩;replace a0:=a0.keep (Zp.start col w0);replace ae:=ae.thaw (Xz .u32) an ((Fz.refl (col:=ag)).froz 3) (by decide);replace an:=an.thawR (col:=ag);generalize X1 bd.heap.size ag bv=ao at *;refine Zc ⟨fun w'=>Zf ao be ao w',Zf.refl _ _,fun _ _ h=>Yh hC0 an h,?_⟩;refine xe rfl rfl ?_;intro bz hC0
 have hC:Zf ao be ao bz:=.of_below hC0.below;obtain ⟨bf,b0,hm⟩:=bZ hm;replace aa:=(aa.grow an).grow hC;refine lc rfl rfl (Z7 call186 rfl) (Zd2 N 5 ao _ aj ak aw ax ((ab.1.1,ab.1.2),ab.2) (aq.ks aa) (a0.ks aa) bf b0) ?_;rintro _ bg ⟨ah,b1,b2,rfl,a4,a5⟩;refine ⟨_,rfl,?_⟩;refine Zc ⟨fun w'=>Zf ah bg ah w',Zf.refl _ _,fun _ _ h=>Yh hC0 a4 h,?_⟩;refine xe rfl rfl ?_;intro bh hC0;replace ae:=(ae.gr hC).gr a4;have hC:Zf ah bg ah bh:=.of_below hC0.below;obtain ⟨a6,b3,hm⟩:=bZ hm;replace aa:=(aa.grow a4).grow hC;replace a5:=a5.gr hC;refine lc rfl rfl (Xa call185 rfl rfl) (Zi2 N 6 (Z3 5 ah) _ al am (ac.1.1,ac.1.2) b1 b2 bf ((ar.ks aa).froz 5) (a5.toSlF (Z2.int .u32)) a6 b3) ?_;rintro _ bi ⟨b4,b5,b6,rfl,ai,ap⟩;refine ⟨_,rfl,?_⟩;replace ap:=ap.thaw (Xz .u32) ai ((Fz.refl (col:=ah)).froz 5) (by decide);replace ai:=ai.thawR (col:=ah);generalize X1 bh.heap.size ah b4=ad at *;refine Zc ⟨fun w'=>Zf ad bi ad w',Zf.refl _ _,fun _ _ h=>Yh hC0 ai h,?_⟩;refine xe rfl rfl ?_;intro bj hC0;replace ae:=(ae.gr hC).gr ai;have hC:Zf ad bi ad bj:=.of_below hC0.below;obtain ⟨b7,b8,hm⟩:=bZ hm;replace ae:=ae.gr hC;replace ap:=ap.gr hC;refine lc rfl rfl (Xa call184 rfl rfl) (Zv1 N (Z3 6 (Z3 4 ad)) _ bw bx (a3.1,a3.2) b5 b6 (a6.1,a6.2) ((ae.toSlF (Z2.int .u32)).froz 6) ((ap.froz 4 (by decide)).toSlF (Z2.int .u32)) b7 b8) ?_;rintro _ a7 ⟨rfl,av⟩;refine ⟨_,rfl,?_⟩;replace av:Zf ad bj ad a7:=.of_below av;refine Zc ⟨fun w'=>Zf ad a7 ad w',Zf.refl _ _,fun _ _ h=>Yh hC0 av h,?_⟩;refine xu rfl rfl (fun _=>Zah rfl) ?_;refine Ve ?_;replace aa:=((aa.grow ai).grow hC).grow av;intro b9 hC;replace hC:Zf ad a7 ad b9:=.of_below hC.below;refine Zq ?_;cases hm;replace aa:=aa.grow hC;exact ⟨rfl,rfl,aa.below⟩
def Zay (N:Nat):List ((Bool×List Int)×List Int)→Bool→(List Int)→(List Int)→Option ((Bool×List Int)×List Int)
  | [],aa,ab,ac=>some ((aa,ab),ac)
  | ad :: af,aa,ab,ac=>(Zg7 N ((aa,ab),ac) ((ad.1.1,ad.1.2),ad.2)).bind fun ae=>(Zay N af) ae.1.1 ae.1.2 ae.2
termination_by structural x=>x
def Zha (N:Nat) (aa:(List ((Bool×List Int)×List Int))):Option ((Bool×List Int)×List Int):=
  (Q0 N 1).bind fun ab=>Zay N aa false ([]:List Int) ab
theorem Zui (N:Nat) (c1:Nat) (c2:Nat) (col:Zh) (w0:World) (a0:Option Addr) (a3:Nat) (ac:(List ((Bool×List Int)×List Int))) (h0:Sl (Za.pair (Za.pair Za.bool (Za.slice (Za.int .u32))) (Za.slice (Za.int .u32))) col w0 a0 a3 ac) (r:((Bool×List Int)×List Int)) (hm:Zha N ac=some r):
    Calls Tryz.prog 69 #[.slice a0 ac.length a3] w0 (fun e w'=>∃ (col':Zh) (ra1:Option Addr) (rc2:Nat) (ra4:Option Addr) (rc5:Nat),e= .returned ((.agg #[.bool r.1.1,.slice ra1 r.1.2.length rc2,.slice ra4 r.2.length rc5]))∧Zf col w0 col' w'∧Zl (Za.int .u32) 79 c1 col' w' ra1 rc2 r.1.2∧Zl (Za.int .u32) 79 c2 col' w' ra4 rc5 r.2):=by
 refine Wq (m:=19) (args:=[.slice a0 ac.length a3]) func69 rfl rfl rfl ?_;rw [Zha.eq_1] at hm;have aa:=St.start col w0;refine Zb<|Zd<|Yt (col:=(Zo col)) #[.bool false,.slice none (([]:List Int).length) 0,.slice none (([]:List Int).length) 0] 1 zeroValue47 ?_;intro bj cn br bs ab;refine Zc<|Zb<|Zd ?_;obtain ⟨a4,bt,hm⟩:=bZ hm;refine lc rfl rfl (Z7 call181 rfl) (Zgy N 2 br _ 1 a4 bt) ?_;rintro _ co ⟨bu,a7,a8,rfl,bk,a9⟩;refine ⟨_,rfl,?_⟩;refine lV (.agg #[.bool false,.slice none (([]:List Int).length) 0,.slice a7 a4.length a8]) (Vi (l:=[_,_]) (qs:=[(0,2),(2,1)]) underlying47 zeroValue47 ⟨rfl,sizeOf45,rfl,sizeOf43,trivial⟩ rfl)<|Yt (col:=bu) #[.bool false,.slice none (([]:List Int).length) 0,.slice none (([]:List Int).length) 0] 3 zeroValue47 ?_;intro bl cp bv ba bw;refine Ya #[.bool false,.slice none (([]:List Int).length) 0,.slice a7 a4.length a8] bw sizeOf47 ?_;intro cq bb bx ad;refine Zc<|Zb<|Zb<|Zd<|Zk rfl<|lV _ (Zs underlying56 rfl)<|Zg rfl<|Zc<|Z0 ?_;replace aa:=(((aa.grow bs).grow bk).grow ba).kp bb bx;replace ab:=((ab.gr bk).gr ba).kp bb;replace a9:=(a9.gr ba).kp bb;refine Xi (fun n f am=>∃ (ah:Zh) (an:Nat) (ay:Bool) (ao:Option Addr) (ap:Nat) (aq:List Int) (ar:Option Addr) (au:Nat) (av:List Int) (az:List ((Bool×List Int)×List Int)),n=az.length∧ac.drop an=az∧Zay N az ay aq av=some r∧St w0 (Zo col) ah am∧Zt 47 1 ah am bj #[.bool false,.slice none (([]:List Int).length) 0,.slice none (([]:List Int).length) 0]∧Zl (Za.int .u32) 79 4 ah am ao ap aq∧Zl (Za.int .u32) 79 2 ah am ar au av∧Zt 47 3 ah am bl #[.bool ay,.slice ao aq.length ap,.slice ar av.length au]∧f 10=(.int .i64 an)∧f 2=(.pointer (some ⟨bj,0,none⟩))∧f 3=(.pointer (some ⟨bl,0,none⟩))∧f 8=(.slice a0 ac.length a3)∧f 9=(.int .i64 ac.length)∧f 1000000=(enc [])) ac.length ⟨bv,0,false,none,0,([]:List Int),a7,a8,a4,ac,rfl,rfl,hm,aa,ab,Zl.nil,a9,ad,rfl,rfl,rfl,rfl,rfl,rfl⟩ ?_;clear hm;intro n f am hI;obtain ⟨ah,an,ay,ao,ap,aq,ar,au,av,az,hn,hl,hm,aa,ab,aw,ax,ad,bz,b0,b1,b2,b3,b4⟩:=hI;subst hn;refine .lD 10 bz<|.lD 2 b0<|.lD 3 b1<|.lD 8 b2<|.lD 9 b3<|.lD 1000000 b4 ?_;replace h0:=h0.keep (Zp.start col w0)
 cases az with
 | nil=>
  have hk:¬ ((an:Int)<(ac.length:Int)):=by have:=List.drop_eq_nil_iff.1 hl;omega
  have hkb:=decide_eq_false hk;rw [Zay.eq_1] at hm;refine Zb<|Zd<|lV _ (Z4 _ _ rfl rfl)<|Zc<|Zb<|Wn (congrArg Value.bool hkb) ?_;refine Xl (Xk ?_);refine Zb<|Zd<|lV _ (Ye isAgg47 sizeOf47 ad)<|Ya #[.bool ay,.slice ao aq.length ap,.slice ar av.length au] ab sizeOf47 ?_;intro cr bc b5 b6;refine Zc<|Zq ?_;cases hm;replace aw:=aw.kp bc;replace ax:=ax.kp bc;replace aa:=aa.kp bc b5;exact ⟨rfl,_,Wi rfl rfl isAgg47 sizeOf47 rfl rfl b6.atN,Xh w0.heap.size col ah (fun n=>bif Nat.beq n 4 then c1 else bif Nat.beq n 2 then c2 else 0),ao,ap,ar,au,rfl,aa.fin (fun n=>bif Nat.beq n 4 then c1 else bif Nat.beq n 2 then c2 else 0),aa.finOwn (g:=(fun n=>bif Nat.beq n 4 then c1 else bif Nat.beq n 2 then c2 else 0)) rfl aw (by decide) (by decide) rfl,aa.finOwn (g:=(fun n=>bif Nat.beq n 4 then c1 else bif Nat.beq n 2 then c2 else 0)) rfl ax (by decide) (by decide) rfl⟩
 | cons ae bm=>
  obtain ⟨a5,b7,b8⟩:=Wv hl;have hk:(an:Int)<(ac.length:Int):=by omega
  have hkb:=decide_eq_true hk;rw [Zay.eq_2] at hm;refine Zb<|Zd<|lV _ (Z4 _ _ rfl rfl)<|Zc<|Zb<|Wo (congrArg Value.bool hkb)<|Zr<|Zb<|Z0<|Zb<|Zd ?_;refine lV _ (Zx underlying56 sizeOf47 rfl rfl (Zi a5).1 (Zi a5).2.1 ((h0.ks aa).addr a5)) ?_;obtain ⟨_,b9,ca⟩:=(h0.ks aa).atN a5;obtain ⟨_,_,rfl,cb,cc⟩:=Wu b9;obtain ⟨_,_,rfl,cd,ce⟩:=Wu cb;obtain ⟨rfl,_⟩:=cd;obtain ⟨⟨bd,be,rfl,bf⟩,_⟩:=ce;obtain ⟨⟨bg,bh,rfl,bi⟩,_⟩:=cc;refine lV (.agg #[.bool ae.1.1,.slice bd ae.1.2.length be,.slice bg ae.2.length bh]) (Wt isAgg47 sizeOf47 rfl rfl ca)<|Yt (col:=ah) #[.bool false,.slice none (([]:List Int).length) 0,.slice none (([]:List Int).length) 0] 5 zeroValue47 ?_;intro cs ct a1 ai cf;refine Ya #[.bool ae.1.1,.slice bd ae.1.2.length be,.slice bg ae.2.length bh] cf sizeOf47 ?_;intro cg aj ch ci;refine Zc<|Zd ?_;replace ad:=(ad.gr ai).kp aj;refine lV _ (Ye isAgg47 sizeOf47 ad)<|lV _ (Ye isAgg47 sizeOf47 ci) ?_;obtain ⟨ak,cj,hm⟩:=bZ hm;replace aw:=(aw.gr ai).kp aj;replace ax:=(ax.gr ai).kp aj;replace bf:=(bf.gr ai).kp aj;replace bi:=(bi.gr ai).kp aj;refine lc rfl rfl (Xa call73 rfl rfl) (Zue N 6 7 (Z3 2 (Z3 4 a1)) _ ao ap ar au ((ay,aq),av) bd be bg bh ((ae.1.1,ae.1.2),ae.2) ((aw.toSlF (Z2.int .u32)).froz 2) ((ax.froz 4 (by decide)).toSlF (Z2.int .u32)) ((bf.froz 4).froz 2) ((bi.froz 4).froz 2) ak cj) ?_;rintro _ cu ⟨ck,bn,bo,bp,bq,rfl,al,af,ag⟩;refine ⟨_,rfl,?_⟩;replace af:=af.thaw (Xz .u32) al (((Fz.refl (col:=a1)).froz 4).froz 2) (by decide);replace ag:=ag.thaw (Xz .u32) al (((Fz.refl (col:=a1)).froz 4).froz 2) (by decide);replace al:=al.thawR (col:=a1);generalize X1 cg.heap.size a1 ck=cl at *;replace ad:=ad.gr al;refine Ya #[.bool ak.1.1,.slice bn ak.1.2.length bo,.slice bp ak.2.length bq] ad sizeOf47 ?_;intro cv a6 cm a2;refine Zc<|Zd<|lV _ (Z5 _ _ rfl rfl)<|Zg rfl<|Zc ?_;replace af:=af.kp a6;replace af:=af.recolSelf 4 (by decide);replace ag:=ag.kp a6;replace ag:=ag.recol 6 4 (by decide);replace ab:=(((ab.gr ai).kp aj).gr al).kp a6;replace ab:=ab.recol 6 4 (by decide);replace a2:=a2.recol 6 4 (by decide);replace aa:=(((aa.grow ai).kp aj ch).grow al).kp a6 cm;replace aa:=aa.recol 6 4 (by decide) (by decide);replace af:=af.recol 7 2 (by decide)
  replace ag:=ag.recolSelf 2 (by decide);replace ab:=ab.recol 7 2 (by decide);replace a2:=a2.recol 7 2 (by decide);replace aa:=aa.recol 7 2 (by decide) (by decide);exact ⟨bm.length,by simp,⟨(X7 7 2 (X7 6 4 cl)),(an+1),ak.1.1,bn,bo,ak.1.2,bp,bq,ak.2,bm,rfl,b7,hm,aa,ab,af,ag,a2,(congrArg (Value.int .i64) (Wy (Nat.lt_of_lt_of_le b8 (h0.ks aa).1.1))),rfl,rfl,rfl,rfl,rfl⟩⟩
def Zgh (N:Nat) (aa:Int):Option (Bool×List Int):=
  if (decide (aa<0))=true then ((Q0 N (u64.wrap (-(u64.wrap aa)))).bind fun ad=>(Sr N true ad).bind fun ab=>some (ab.1,ab.2)) else ((Q0 N (u64.wrap aa)).bind fun ae=>(Sr N false ae).bind fun ac=>some (ac.1,ac.2))
theorem Znu (N:Nat) (c1:Nat) (col:Zh) (w0:World) (aa:Int) (r:(Bool×List Int)) (hm:Zgh N aa=some r):
    Calls Tryz.prog 262 #[.int .i64 aa] w0 (fun e w'=>∃ (col':Zh) (ra1:Option Addr) (rc2:Nat),e= .returned ((.agg #[.bool r.1,.slice ra1 r.2.length rc2]))∧Zf col w0 col' w'∧Zl (Za.int .u32) 79 c1 col' w' ra1 rc2 r.2):=by
 refine Wq (m:=14) (args:=[.int .i64 aa]) func262 rfl rfl rfl ?_;rw [Zgh.eq_1] at hm;have ab:=St.start col w0;refine Zb<|Zd<|Yt (col:=(Zo col)) #[.bool false,.slice none (([]:List Int).length) 0] 1 zeroValue45 ?_;intro bj bk al ay ac;refine Zc<|Zb<|Zb<|Zd<|Zg rfl<|lV _ (Z4 _ _ rfl rfl)<|Zc ?_;replace ab:=ab.grow ay;refine Zy _ rfl (fun hb=>?_) (fun hb=>?_)
 ·rw [if_pos hb] at hm;refine Zb<|Zd<|Zg rfl<|lV (.int .u64 (u64.wrap aa)) (Xx aa ⟨_,underlying3⟩ underlying193 rfl)<|lV (.int .u64 (u64.wrap (-(u64.wrap aa)))) (Zrz (u64.wrap aa) rfl) ?_;obtain ⟨am,az,hm⟩:=bZ hm;refine lc rfl rfl (Z7 call181 rfl) (Zgy N 2 al _ (u64.wrap (-(u64.wrap aa))) am az) ?_;rintro _ a0 ⟨ah,a1,a2,rfl,an,a3⟩;refine ⟨_,rfl,?_⟩;obtain ⟨aj,a4,hm⟩:=bZ hm;refine lc rfl rfl (Xa call234 rfl rfl) (Zb3 N 3 (Z3 2 ah) _ true a1 a2 am (a3.toSlF (Z2.int .u32)) aj a4) ?_;rintro _ bl ⟨a5,ao,ap,rfl,ad,ae⟩;refine ⟨_,rfl,?_⟩;replace ae:=ae.thaw (Xz .u32) ad ((Fz.refl (col:=ah)).froz 2) (by decide);replace ad:=ad.thawR (col:=ah);generalize X1 a0.heap.size ah a5=a6 at *;replace ac:=(ac.gr an).gr ad;refine Ya #[.bool aj.1,.slice ao aj.2.length ap] ac sizeOf45 ?_;intro bm aq a7 a8;refine Zc<|Zq ?_;cases hm;replace ab:=((ab.grow an).grow ad).kp aq a7;replace ae:=ae.kp aq;exact ⟨rfl,_,Wi rfl rfl isAgg45 sizeOf45 rfl rfl a8.atN,Xh w0.heap.size col a6 (fun n=>bif Nat.beq n 3 then c1 else 0),ao,ap,rfl,ab.fin (fun n=>bif Nat.beq n 3 then c1 else 0),ab.finOwn (g:=(fun n=>bif Nat.beq n 3 then c1 else 0)) rfl ae (by decide) (by decide) rfl⟩
 rw [if_neg (Zz hb)] at hm;refine Zr<|Zb<|Zd<|Zg rfl<|lV (.int .u64 (u64.wrap aa)) (Xx aa ⟨_,underlying3⟩ underlying193 rfl) ?_;obtain ⟨ar,a9,hm⟩:=bZ hm;refine lc rfl rfl (Z7 call181 rfl) (Zgy N 4 al _ (u64.wrap aa) ar a9) ?_;rintro _ ba ⟨ai,bb,bc,rfl,au,bd⟩;refine ⟨_,rfl,?_⟩;obtain ⟨ak,be,hm⟩:=bZ hm;refine lc rfl rfl (Xa call234 rfl rfl) (Zb3 N 5 (Z3 4 ai) _ false bb bc ar (bd.toSlF (Z2.int .u32)) ak be) ?_;rintro _ bn ⟨bf,av,aw,rfl,af,ag⟩;refine ⟨_,rfl,?_⟩;replace ag:=ag.thaw (Xz .u32) af ((Fz.refl (col:=ai)).froz 4) (by decide);replace af:=af.thawR (col:=ai);generalize X1 ba.heap.size ai bf=bg at *;replace ac:=(ac.gr au).gr af;refine Ya #[.bool ak.1,.slice av ak.2.length aw] ac sizeOf45 ?_;intro bo ax bh bi;refine Zc<|Zq ?_;cases hm;replace ab:=((ab.grow au).grow af).kp ax bh;replace ag:=ag.kp ax;exact ⟨rfl,_,Wi rfl rfl isAgg45 sizeOf45 rfl rfl bi.atN,Xh w0.heap.size col bg (fun n=>bif Nat.beq n 5 then c1 else 0),av,aw,rfl,ab.fin (fun n=>bif Nat.beq n 5 then c1 else 0),ab.finOwn (g:=(fun n=>bif Nat.beq n 5 then c1 else 0)) rfl ag (by decide) (by decide) rfl⟩
def Zg8 (N:Nat) (ac:(Bool×List Int)) (aa:(Bool×List Int)):Option (((Bool×List Int)×List Int)×Int):=
  (Zbm N (aa.1,aa.2)).bind fun ad=>if (decide (ad=0))=true then (some (((false,([]:List Int)),([]:List Int)),11)) else ((Zep N (!decide (ac.1=aa.1)) ac.2 aa.2).bind fun ab=>some (((ab.1.1,ab.1.2),ab.2),0))
theorem Zuf (N:Nat) (c1:Nat) (c2:Nat) (col:Zh) (w0:World) (aj:Option Addr) (ak:Nat) (ac:(Bool×List Int)) (ag:Option Addr) (ah:Nat) (ab:(Bool×List Int)) (ao:Sl (Za.int .u32) col w0 aj ak ac.2) (al:Sl (Za.int .u32) col w0 ag ah ab.2) (r:(((Bool×List Int)×List Int)×Int)) (hm:Zg8 N ac ab=some r):
    Calls Tryz.prog 114 #[(.agg #[.bool ac.1,.slice aj ac.2.length ak]),(.agg #[.bool ab.1,.slice ag ab.2.length ah])] w0 (fun e w'=>∃ (col':Zh) (ra1:Option Addr) (rc2:Nat) (ra4:Option Addr) (rc5:Nat),e= .returned (.tuple #[(.agg #[.bool r.1.1.1,.slice ra1 r.1.1.2.length rc2,.slice ra4 r.1.2.length rc5]),.int .i64 r.2])∧Zf col w0 col' w'∧Zl (Za.int .u32) 79 c1 col' w' ra1 rc2 r.1.1.2∧Zl (Za.int .u32) 79 c2 col' w' ra4 rc5 r.1.2):=by
 refine Wq (m:=20) (args:=[(.agg #[.bool ac.1,.slice aj ac.2.length ak]),(.agg #[.bool ab.1,.slice ag ab.2.length ah])]) func114 rfl rfl rfl ?_;rw [Zg8.eq_1] at hm;have aa:=St.start col w0;refine Zb<|Zd<|X3 (col:=(Zo col)) 1 rfl ?_;intro av bh a3 a4 am;refine X3 (col:=a3) 2 rfl ?_;intro aw bi a5 ax ad;refine Yt (col:=a5) #[.bool false,.slice none (([]:List Int).length) 0,.slice none (([]:List Int).length) 0] 3 zeroValue47 ?_;intro bj a6 ai ap ae;refine Zj rfl<|Zc<|Zb<|Zb<|Zd ?_;replace ad:=ad.gr ap;refine lV _ (Ye isAgg45 sizeOf45 ad) ?_;obtain ⟨a7,a8,hm⟩:=bZ hm;replace al:=al.keep (Zp.start col w0);replace aa:=((aa.grow a4).grow ax).grow ap;refine lc rfl rfl (Z7 call187 rfl) (Zi8 N ai _ ag ah (ab.1,ab.2) (al.ks aa) a7 a8) ?_;rintro _ a9 ⟨rfl,af⟩;refine ⟨_,rfl,?_⟩;replace af:Zf ai a6 ai a9:=.of_below af;refine lV _ (Y9 _ _ rfl rfl)<|Zc ?_;replace ao:=ao.keep (Zp.start col w0);replace am:=((am.gr ax).gr ap).gr af;replace ad:=ad.gr af;replace ae:=ae.gr af;replace aa:=aa.grow af;refine Zy _ rfl (fun hb=>?_) (fun hb=>?_)
 ·rw [if_pos hb] at hm;refine Zb<|Zd<|lV (.agg #[.bool false,.slice none (([]:List Int).length) 0,.slice none (([]:List Int).length) 0]) (Vi (l:=[_,_]) (qs:=[(0,2),(2,1)]) underlying47 zeroValue47 ⟨rfl,sizeOf45,rfl,sizeOf43,trivial⟩ rfl)<|Ya #[.bool false,.slice none (([]:List Int).length) 0,.slice none (([]:List Int).length) 0] ae sizeOf47 ?_;intro bk ba bb bc;refine Zj rfl<|Zc<|Zq ?_;cases hm;replace aa:=aa.kp ba bb;exact ⟨rfl,_,Zgl rfl rfl isAgg47 sizeOf47 rfl rfl bc.atN rfl rfl,Xh w0.heap.size col ai (fun n=>0),none,0,none,0,rfl,aa.fin (fun n=>0),Zl.nil,Zl.nil⟩
 rw [if_neg (Zz hb)] at hm;refine Zr<|Zb<|Zd<|Z9 av 0 underlying45 rfl sizeOf4 isAgg4 am rfl<|Z9 aw 0 underlying45 rfl sizeOf4 isAgg4 ad rfl<|lV _ (Zif _ _ underlying4 rfl rfl)<|Z9 av 1 underlying45 rfl sizeOf43 isAgg43 am rfl<|Z9 aw 1 underlying45 rfl sizeOf43 isAgg43 ad rfl ?_;obtain ⟨an,bd,hm⟩:=bZ hm;refine lc rfl rfl (Zru call189 rfl rfl rfl) (Zm6 N 4 5 ai _ (!decide (ac.1=ab.1)) aj ak ac.2 ag ah ab.2 (ao.ks aa) (al.ks aa) an bd) ?_;rintro _ bl ⟨be,ay,az,a0,a1,rfl,a2,aq,ar⟩;refine ⟨_,rfl,?_⟩;replace ae:=ae.gr a2;refine Ya #[.bool an.1.1,.slice ay an.1.2.length az,.slice a0 an.2.length a1] ae sizeOf47 ?_;intro bm au bf bg;refine Zj rfl<|Zc<|Zq ?_;cases hm;replace aa:=(aa.grow a2).kp au bf;replace aq:=aq.kp au;replace ar:=ar.kp au;exact ⟨rfl,_,Zgl rfl rfl isAgg47 sizeOf47 rfl rfl bg.atN rfl rfl,Xh w0.heap.size col be (fun n=>bif Nat.beq n 4 then c1 else bif Nat.beq n 5 then c2 else 0),ay,az,a0,a1,rfl,aa.fin (fun n=>bif Nat.beq n 4 then c1 else bif Nat.beq n 5 then c2 else 0),aa.finOwn (g:=(fun n=>bif Nat.beq n 4 then c1 else bif Nat.beq n 5 then c2 else 0)) rfl aq (by decide) (by decide) rfl,aa.finOwn (g:=(fun n=>bif Nat.beq n 4 then c1 else bif Nat.beq n 5 then c2 else 0)) rfl ar (by decide) (by decide) rfl⟩
def Zg9 (N:Nat) (ad:Int) (ae:Int):Option (((Bool×List Int)×List Int)×Int):=
  (Zgh N ad).bind fun ab=>(Zgh N ae).bind fun ac=>(Zg8 N (ab.1,ab.2) (ac.1,ac.2)).bind fun aa=>some (((aa.1.1.1,aa.1.1.2),aa.1.2),aa.2)
theorem Zug (N:Nat) (c1:Nat) (c2:Nat) (col:Zh) (w0:World) (ag:Int) (ah:Int) (r:(((Bool×List Int)×List Int)×Int)) (hm:Zg9 N ag ah=some r):
    Calls Tryz.prog 190 #[.int .i64 ag,.int .i64 ah] w0 (fun e w'=>∃ (col':Zh) (ra1:Option Addr) (rc2:Nat) (ra4:Option Addr) (rc5:Nat),e= .returned (.tuple #[(.agg #[.bool r.1.1.1,.slice ra1 r.1.1.2.length rc2,.slice ra4 r.1.2.length rc5]),.int .i64 r.2])∧Zf col w0 col' w'∧Zl (Za.int .u32) 79 c1 col' w' ra1 rc2 r.1.1.2∧Zl (Za.int .u32) 79 c2 col' w' ra4 rc5 r.1.2):=by
 refine Wq (m:=13) (args:=[.int .i64 ag,.int .i64 ah]) func190 rfl rfl rfl ?_;rw [Zg9.eq_1] at hm;have ac:=St.start col w0;refine Zb<|Zd<|Yt (col:=(Zo col)) #[.bool false,.slice none (([]:List Int).length) 0,.slice none (([]:List Int).length) 0] 1 zeroValue47 ?_;intro bb bc av aw ai;refine Zj rfl<|Zc<|Zb<|Zd<|Zg rfl ?_;obtain ⟨aj,ax,hm⟩:=bZ hm;refine lc rfl rfl (Z7 call262 rfl) (Znu N 2 av _ ag aj ax) ?_;rintro _ bd ⟨ay,az,a0,rfl,au,ak⟩;refine ⟨_,rfl,?_⟩;refine Zg rfl ?_;obtain ⟨al,a1,hm⟩:=bZ hm;refine lc rfl rfl (Z7 call262 rfl) (Znu N 3 ay _ ah al a1) ?_;rintro _ a2 ⟨ad,a3,a4,rfl,am,a5⟩;refine ⟨_,rfl,?_⟩;obtain ⟨aa,a6,hm⟩:=bZ hm;replace ak:=ak.gr am;refine lc rfl rfl (Xa call114 rfl rfl) (Zuf N 4 5 (Z3 3 (Z3 2 ad)) _ az a0 (aj.1,aj.2) a3 a4 (al.1,al.2) ((ak.toSlF (Z2.int .u32)).froz 3) ((a5.froz 2 (by decide)).toSlF (Z2.int .u32)) aa a6) ?_;rintro _ be ⟨a7,an,ao,ap,aq,rfl,ab,ae,af⟩;refine ⟨_,rfl,?_⟩;replace ae:=ae.thaw (Xz .u32) ab (((Fz.refl (col:=ad)).froz 2).froz 3) (by decide);replace af:=af.thaw (Xz .u32) ab (((Fz.refl (col:=ad)).froz 2).froz 3) (by decide);replace ab:=ab.thawR (col:=ad);generalize X1 a2.heap.size ad a7=a8 at *;refine lV (.agg #[.bool aa.1.1.1,.slice an aa.1.1.2.length ao,.slice ap aa.1.2.length aq]) (Y4 rfl rfl)<|lV (.int .i64 aa.2) (Y4 rfl rfl) ?_;replace ai:=((ai.gr au).gr am).gr ab;refine Ya #[.bool aa.1.1.1,.slice an aa.1.1.2.length ao,.slice ap aa.1.2.length aq] ai sizeOf47 ?_;intro bf ar a9 ba;refine Zj rfl<|Zc<|Zq ?_;cases hm;replace ac:=((((ac.grow aw).grow au).grow am).grow ab).kp ar a9;replace ae:=ae.kp ar;replace af:=af.kp ar;exact ⟨rfl,_,Zgl rfl rfl isAgg47 sizeOf47 rfl rfl ba.atN rfl rfl,Xh w0.heap.size col a8 (fun n=>bif Nat.beq n 4 then c1 else bif Nat.beq n 5 then c2 else 0),an,ao,ap,aq,rfl,ac.fin (fun n=>bif Nat.beq n 4 then c1 else bif Nat.beq n 5 then c2 else 0),ac.finOwn (g:=(fun n=>bif Nat.beq n 4 then c1 else bif Nat.beq n 5 then c2 else 0)) rfl ae (by decide) (by decide) rfl,ac.finOwn (g:=(fun n=>bif Nat.beq n 4 then c1 else bif Nat.beq n 5 then c2 else 0)) rfl af (by decide) (by decide) rfl⟩
def Zeo (N:Nat) (aa:((Bool×List Int)×List Int)):Option Int:=
  (Zbm N (aa.1.1,aa.1.2)).bind fun ab=>some ab
theorem Zuh (N:Nat) (col:Zh) (w0:World) (ac:Option Addr) (ad:Nat) (ah:Option Addr) (ai:Nat) (aa:((Bool×List Int)×List Int)) (ae:Sl (Za.int .u32) col w0 ac ad aa.1.2) (aq:Sl (Za.int .u32) col w0 ah ai aa.2) (r:Int) (hm:Zeo N aa=some r):
    Calls Tryz.prog 72 #[(.agg #[.bool aa.1.1,.slice ac aa.1.2.length ad,.slice ah aa.2.length ai])] w0 (fun e w'=>e= .returned ((.int .i64 r))∧Below w0.heap.size w0 w'):=by
 refine Xv 2 (m:=6) func72 rfl rfl rfl rfl rfl ?_;rw [Zeo.eq_1] at hm;have ab:=St.start col w0;refine Zb<|Zd<|X3 (col:=(Zo col)) 1 rfl ?_;intro aj ak af al am;refine Zj rfl<|Zc<|Zb<|Zd<|lF aj 0 underlying47 rfl sizeOf45<|lV (.agg #[.bool aa.1.1,.slice ac aa.1.2.length ad]) (Wt isAgg45 sizeOf45 rfl rfl ((am.atN).part 0 2 _ rfl)) ?_;obtain ⟨an,ao,hm⟩:=bZ hm;replace ae:=ae.keep (Zp.start col w0);replace ab:=ab.grow al;refine lc rfl rfl (Z7 call187 rfl) (Zi8 N af _ ac ad (aa.1.1,aa.1.2) (ae.ks ab) an ao) ?_;rintro _ ap ⟨rfl,ag⟩;refine ⟨_,rfl,?_⟩;replace ag:Zf af ak af ap:=.of_below ag;refine Zj rfl<|Zc<|Zq ?_;cases hm;replace ab:=ab.grow ag;exact ⟨rfl,rfl,ab.below⟩
theorem Zdv {N k:Nat} {neg:Bool} {m:List Int} (hm:Zw m) (hk:m.length≤k) (hr:X5 N k):Sr N neg m=some (X2 (Z8 (neg,m))):=by
 obtain ⟨r1,r2⟩:=hr
 rw [Sr,Zl3 hm (by omega) (by omega),Option.bind_some,Zib]
 have e:decide (0<((Zm (Ze m)).length:Int))=decide (Ze m≠0):=by
  by_cases h:Ze m=0
  ·rw [h,Va];decide
  ·have:=Si h
   rw [decide_eq_true (by omega),decide_eq_true h]
 cases neg
 ·rw [if_neg (by decide),Zgi,Bool.false_and]
 ·rw [if_pos rfl,Zgi,e,Bool.true_and]
theorem Zz6 {N k:Nat} {a:ZV} (hm:Zw a.2) (hk:a.2.length≤k) (hr:X5 N k):Zh8 N a=some (X2 (Z8 a)):=by
 rw [Zh8,Zdv hm hk hr];rfl
theorem Zky {N k:Nat} {a:ZV} (hm:Zw a.2) (hk:a.2.length≤k) (hr:X5 N k):Zbm N a=some (Z8 a).sign:=by
 obtain ⟨r1,r2⟩:=hr
 rw [Zbm,Zt7 hm (by omega) (by omega),Option.bind_some,Z8]
 by_cases h:Ze a.2=0
 ·rw [h,Zd0,if_pos (by decide)];simp
 ·have h1:Xw (Ze a.2)≠0:=by rw [Xw,if_neg h];omega
  rw [if_neg (by rw [decide_eq_false (by omega)];decide)]
  by_cases h2:a.1=true
  ·rw [if_pos h2,if_pos h2,Int.sign_eq_neg_one_of_neg (by omega)]
  ·rw [if_neg h2,if_neg h2,Int.sign_eq_one_of_pos (by omega)]
theorem Zgo {a b:ZV}:(a.1=b.1→Z8 (a.1,Zm (Ze a.2+Ze b.2))=Z8 a+Z8 b)∧(a.1≠b.1→(Ze b.2≤Ze a.2→Z8 (a.1,Zm (Ze a.2 - Ze b.2))=Z8 a+Z8 b)∧(Ze a.2<Ze b.2→Z8 (b.1,Zm (Ze b.2 - Ze a.2))=Z8 a+Z8 b)):=by
 obtain ⟨s,x⟩:=a
 obtain ⟨t,y⟩:=b
 simp only [Z8,Xo]
 cases s <;> cases t <;> simp <;> (try constructor) <;> intros <;> omega
theorem Zz2 {N k l:Nat} {a b:ZV} (ha:Zw a.2) (hb:Zw b.2) (hk:a.2.length≤k) (hl:b.2.length≤l) (hr:X5 N (k+l+1)):Zh5 N a b=some (X2 (Z8 a+Z8 b)):=by
 have hr':=hr
 obtain ⟨r1,r2⟩:=hr'
 have la:=Yz ha
 have lb:=Yz hb
 have lsum:(Zm (Ze a.2+Ze b.2)).length≤k+l+1:=Zjh (by omega) (by omega)
 have ls1:(Zm (Ze a.2 - Ze b.2)).length≤k+l+1:=by have:=Vp (Nat.sub_le (Ze a.2) (Ze b.2));omega
 have ls2:(Zm (Ze b.2 - Ze a.2)).length≤k+l+1:=by have:=Vp (Nat.sub_le (Ze b.2) (Ze a.2));omega
 rw [Zh5]
 by_cases h:a.1=b.1
 ·rw [if_pos (decide_eq_true h),Zt1 ha hb (by omega) (by omega) (by omega) (by omega),Option.bind_some,Zdv (Xq _) lsum hr,Option.bind_some,Zgo.1 h]
 ·rw [if_neg (by rw [decide_eq_false h];decide),Zte ha hb (by omega) (by omega) (by omega) (by omega),Option.bind_some]
  by_cases hlt:Ze a.2<Ze b.2
  ·rw [if_pos hlt,if_neg (by decide),Zte hb ha (by omega) (by omega) (by omega) (by omega),Option.bind_some,if_neg (by omega),Zdv (Xq _) ls2 hr,Option.bind_some,(Zgo.2 h).2 hlt]
  ·rw [if_neg hlt,if_pos rfl,Zdv (Xq _) ls1 hr,Option.bind_some,(Zgo.2 h).1 (by omega)]
theorem Z0c (b:ZV):Z8 (!b.1,b.2)= -Z8 b:=by
 obtain ⟨s,x⟩:=b
 cases s <;> simp [Z8]
theorem Zty (a b:ZV):Z8 (!decide (a.1=b.1),Zm (Ze a.2 * Ze b.2))=Z8 a * Z8 b:=by
 obtain ⟨s,x⟩:=a
 obtain ⟨t,y⟩:=b
 simp only [Z8,Xo]
 cases s <;> cases t <;> simp [Int.natCast_mul,Int.neg_mul,Int.mul_neg]
theorem Zz5 {N k l:Nat} {a b:ZV} (ha:Zw a.2) (hb:Zw b.2) (hk:a.2.length≤k) (hl:b.2.length≤l) (hr:X5 N (k+l)):Zh7 N a b=some (X2 (Z8 a * Z8 b)):=by
 have hr':=hr
 obtain ⟨r1,r2⟩:=hr'
 have la:=Yz ha
 have lb:=Yz hb
 have:=Zb5 (Ze a.2) (Ze b.2)
 rw [Zh7,Zqp ha hb (by omega) (by omega),Option.bind_some,Zdv (k:=k+l) (Xq _) (by omega) hr,Option.bind_some,Zty]
theorem Z0a (a b:ZV):(if (Z8 a).sign<(Z8 b).sign then -1 else if (Z8 b).sign<(Z8 a).sign then 1 else (Z8 a).sign * (if Ze a.2<Ze b.2 then -1 else if Ze b.2<Ze a.2 then 1 else 0))=Sx (Z8 a) (Z8 b):=by
 obtain ⟨s,x⟩:=a
 obtain ⟨t,y⟩:=b
 have key:∀ z:Int,z.sign=if z<0 then -1 else if 0<z then 1 else 0:=fun z=>(Zk0 z).symm
 rw [key,key]
 unfold Sx
 simp only [Z8]
 generalize Ze x=X
 generalize Ze y=Y
 cases s <;> cases t <;> simp only [if_true,Bool.false_eq_true,if_false] <;> (repeat' split) <;> omega
theorem Zz4 {N k l:Nat} {a b:ZV} (ha:Zw a.2) (hb:Zw b.2) (hk:a.2.length≤k) (hl:b.2.length≤l) (hr:X5 N (k+l)):Zh6 N a b=some (Sx (Z8 a) (Z8 b)):=by
 have hr':=hr
 obtain ⟨r1,r2⟩:=hr'
 have sa:-1≤(Z8 a).sign∧(Z8 a).sign≤1:=by rw [← Zk0];unfold Sx;(repeat' split) <;> omega
 rw [Zh6,Zky ha hk (hr.mono (by omega)),Option.bind_some,Zky hb hl (hr.mono (by omega)),Option.bind_some,← Z0a a b]
 by_cases h1:(Z8 a).sign<(Z8 b).sign
 ·rw [if_pos (decide_eq_true h1),if_pos h1]
 ·rw [if_neg (by rw [decide_eq_false h1];decide),if_neg h1]
  by_cases h2:(Z8 b).sign<(Z8 a).sign
  ·rw [if_pos (decide_eq_true h2),if_pos h2]
  ·rw [if_neg (by rw [decide_eq_false h2];decide),if_neg h2,Zlm ha hb (by omega) (by omega) (by omega) (by omega),Option.bind_some]
   congr 1
   refine Z6 ?_
   have:(Z8 a).sign= -1∨(Z8 a).sign=0∨(Z8 a).sign=1:=by omega
   rcases this with h | h | h <;> rw [h] <;> (repeat' split) <;> decide
theorem Zts {N:Nat} {z:Int} (h:-9223372036854775808≤z∧z≤9223372036854775807) (hr:X5 N 2):Zgh N z=some (X2 z):=by
 have hr':=hr
 obtain ⟨r1,r2⟩:=hr'
 have l2:∀ n:Nat,n<18446744073709551616→(Zm n).length≤2:=fun n hn=>W9.2 (by simpa using hn)
 rw [Zgh]
 by_cases hz:z<0
 ·have e:u64.wrap (-u64.wrap z)= -z:=by rw [IntKind.wrap_u64,IntKind.wrap_u64];omega
  rw [if_pos (decide_eq_true hz),e,Zic (by omega) (by omega),Option.bind_some,Zdv (Xq _) (l2 _ (by omega)) hr,Option.bind_some]
  have e2:Z8 (true,Zm (-z).toNat)=z:=by simp only [Z8,Xo,if_true];omega
  rw [e2]
 ·rw [if_neg (by rw [decide_eq_false hz];decide),Xy (by omega),Zic (by omega) (by omega),Option.bind_some,Zdv (Xq _) (l2 _ (by omega)) hr,Option.bind_some]
  have e2:Z8 (false,Zm z.toNat)=z:=by simp only [Z8,Xo];simp;omega
  rw [e2]
theorem Zkw {N k:Nat} {a:QV} (ha:RV k a) (hr:X5 N k):Qc N a=some (Zm (Yy a.2)):=by
 obtain ⟨r1,r2⟩:=hr
 have:=ha.ld
 rw [Qc,Zl3 ha.d (by omega) (by omega),Option.bind_some,Yy]
 by_cases h:Ze a.2=0
 ·rw [h,Va,if_neg (by decide),if_pos rfl,Zic (by decide) (by omega)];rfl
 ·have:=Si h
  rw [if_pos (decide_eq_true (by omega)),if_neg h]
theorem Tq {k:Nat} {a:QV} (ha:RV k a):(Zm (Yy a.2)).length≤k+1:=by
 have h1:=Yz ha.d
 have h2:=ha.ld
 rw [Yy]
 split
 ·rw [Qs];simp
 ·omega
theorem Zkd {N k l n:Nat} {a:ZV} (ha:Zw a.2) (hk:a.2.length≤k) (hl:(Zm n).length≤l) (hr:X5 N (k+l)):Zaz N a (Zm n)=some (X2 (Z8 a * n)):=by
 rw [Zaz,Zz5 (a:=(a.1,a.2)) (b:=(false,Zm n)) ha (Xq _) hk hl hr,Option.bind_some]
 have e:Z8 (false,Zm n)=n:=by simp [Z8,Xo]
 rw [e]
theorem Zp3 {N k l:Nat} {neg:Bool} {num den:List Int} (hn:Zw num) (hd:Zw den) (h0:Ze den≠0) (hk:num.length≤k) (hl:den.length≤l) (hr:X5 N (k+l)):
  Zep N neg num den=some (Y0 (mkRat (Z8 (neg,num)) (Ze den))):=by
 have hr':=hr
 obtain ⟨r1,r2⟩:=hr'
 have l1:=Yz hn
 have l2:=Yz hd
 have hg:Nat.gcd (Ze num) (Ze den)≠0:=fun h=>h0 (Nat.gcd_eq_zero_iff.1 h).2
 have lg:(Zm (Nat.gcd (Ze num) (Ze den))).length≤den.length:=Nat.le_trans (Vp (Nat.gcd_le_right _ (by omega))) l2
 have lq:=Vp (Nat.div_le_self (Ze num) (Nat.gcd (Ze num) (Ze den)))
 rw [Zep,Zw3 hn hd (by omega) (by omega),Option.bind_some,Zi9 hn (Xq _) (by omega) (by omega),Option.bind_some,Zi9 hd (Xq _) (by omega) (by omega),Option.bind_some,Xo,if_neg hg,if_neg hg,
  Zz6 (k:=k) (a:=(neg,Zm (Ze num / Nat.gcd (Ze num) (Ze den)))) (Xq _) (by simp only;omega) (hr.mono (by omega)),Option.bind_some,Zqx h0,Zib,Xo]
theorem Zw2 {N k:Nat} {a:QV} (ha:RV k a) (hr:X5 N k):Zeo N a=some (Zbq (Yq a)):=by
 rw [Zeo,Zky (a:=(a.1.1,a.1.2)) ha.m ha.lm hr,Option.bind_some,Zrs]
theorem Zec (z:Int):(X2 z).2=Zm z.natAbs:=rfl
theorem Zau {k l n:Nat} {a:ZV} (ha:Zw a.2) (hk:a.2.length≤k) (hl:(Zm n).length≤l):(X2 (Z8 a * n)).2.length≤k+l:=by
 rw [Zec,Int.natAbs_mul,Int.natAbs_natCast,Zdw]
 have h1:=Zb5 (Ze a.2) n
 have h2:=Yz ha
 omega
theorem Zor {N k l:Nat} {a b:QV} (ha:RV k a) (hb:RV l b) (hr:X5 N (2 * (k+l+2))):Zen N a b=some (Qp (Yq a) (Yq b)):=by
 have da:=Tq ha
 have db:=Tq hb
 have o1:=Zau (n:=Yy b.2) ha.m ha.lm db
 have o2:=Zau (n:=Yy a.2) hb.m hb.lm da
 rw [Zen,Zkw hb (hr.mono (by omega)),Option.bind_some,Zkd (k:=k) (l:=l+1) ha.m ha.lm db (hr.mono (by omega)),Option.bind_some,Zkw ha (hr.mono (by omega)),Option.bind_some,Zkd (k:=l) (l:=k+1) hb.m hb.lm da (hr.mono (by omega)),Option.bind_some,
  Zz4 (a:=X2 _) (b:=X2 _) (Ui _) (Ui _) o1 o2 (hr.mono (by omega)),Option.bind_some,Uc,Uc,Yq,Yq,Zl8 (Se _) (Se _)]
theorem Zn4 {N k l:Nat} {a b:QV} (ha:RV k a) (hb:RV l b) (hr:X5 N (k+l+2)):Zcg N (Zm (Yy a.2)) (Zm (Yy b.2))=some (Zm (Yy a.2 * Yy b.2))∧(Zm (Yy a.2 * Yy b.2)).length≤k+l+2∧Yy a.2 * Yy b.2≠0:=by
 have da:=Tq ha
 have db:=Tq hb
 have hr':=hr
 obtain ⟨r1,r2⟩:=hr'
 have:=Zb5 (Yy a.2) (Yy b.2)
 refine ⟨by rw [Zqp (Xq _) (Xq _) (by omega) (by omega),Xo,Xo],by omega,Nat.mul_ne_zero (Se _) (Se _)⟩
theorem Zmp {x y:Int} {k:Nat} (hx:(X2 x).2.length≤k) (hy:(X2 y).2.length≤k):(X2 (x+y)).2.length≤k+1:=by
 rw [Zec] at *
 exact Nat.le_trans (Vp (Int.natAbs_add_le _ _)) (Zjh hx hy)
theorem Zzu {x y:Int} {k:Nat} (hx:(X2 x).2.length≤k) (hy:(X2 y).2.length≤k):(X2 (x - y)).2.length≤k+1:=by
 rw [Int.sub_eq_add_neg]
 refine Zmp hx ?_
 rw [Zec,Int.natAbs_neg];exact hy
theorem Zya (z:Int):((X2 z).1,(X2 z).2)=X2 z:=rfl
theorem Zwr {N k l:Nat} {a b:QV} (ha:RV k a) (hb:RV l b) (hr:X5 N (2 * (k+l+3))):Zg7 N a b=some (Y0 (Yq a+Yq b)):=by
 have da:=Tq ha
 have db:=Tq hb
 have o1:=Zau (n:=Yy b.2) ha.m ha.lm db
 have o2:=Zau (n:=Yy a.2) hb.m hb.lm da
 obtain ⟨m1,m2,m3⟩:=Zn4 ha hb (hr.mono (by omega))
 have sl:=Zmp (k:=k+l+1) (by omega) (Nat.le_trans o2 (by omega))
 rw [Zg7,Zkw hb (hr.mono (by omega)),Option.bind_some,Zkd (k:=k) (l:=l+1) ha.m ha.lm db (hr.mono (by omega)),Option.bind_some,Zkw ha (hr.mono (by omega)),Option.bind_some,Zkd (k:=l) (l:=k+1) hb.m hb.lm da (hr.mono (by omega)),Option.bind_some,
  Zz2 (a:=X2 _) (b:=X2 _) (Ui _) (Ui _) o1 o2 (hr.mono (by omega)),Option.bind_some,Uc,Uc,Option.bind_some,Option.bind_some,m1,Option.bind_some,
  Zp3 (Ui _) (Xq _) (by rw [Xo];exact m3) sl m2 (hr.mono (by omega)),Option.bind_some,Zya,Uc,Xo,Yq,Yq,Rat.mkRat_add_mkRat _ _ (Se _) (Se _)]
theorem Zqe (n₁:Int) (d₁:Nat) (b:ZV) (d₂:Nat) (s:Bool) (x:List Int) (h:n₁=Z8 (s,x)) (hb:Ze b.2≠0):mkRat n₁ d₁ / mkRat (Z8 b) d₂=mkRat (Z8 (!decide (s=b.1),Zm (Ze x * d₂))) (d₁ * Ze b.2):=by
 have e1:mkRat (Z8 b) d₂=(Z8 b:Rat) / (d₂:Rat):=Rat.mkRat_eq_div _ _
 have hz:(Z8 b:Rat)=(if b.1=true then -1 else 1) * (Ze b.2:Rat):=by
  rw [Z8];split
  ·rw [Rat.intCast_neg,Rat.neg_mul,Rat.one_mul];rfl
  ·rw [Rat.one_mul];rfl
 have hn:(Z8 (!decide (s=b.1),Zm (Ze x * d₂)):Rat)=(if b.1=true then -1 else 1) * (n₁:Rat) * (d₂:Rat):=by
  subst h
  have:Z8 (!decide (s=b.1),Zm (Ze x * d₂))=(if b.1=true then -1 else 1) * Z8 (s,x) * (d₂:Int):=by
   obtain ⟨t,y⟩:=b
   simp only [Z8,Xo]
   cases s <;> cases t <;> simp [Int.natCast_mul,Int.neg_mul]
  rw [this,Rat.intCast_mul,Rat.intCast_mul]
  congr 2
  split <;> rfl
 have hbr:(Ze b.2:Rat)≠0:=fun h=>hb (Rat.natCast_eq_zero_iff.1 h)
 rw [Rat.mkRat_eq_div,e1,Rat.mkRat_eq_div,hn,hz,Rat.natCast_mul]
 have hs:(if b.1=true then (-1:Rat) else 1) * (if b.1=true then (-1:Rat) else 1)=1:=by split <;> grind
 generalize (if b.1=true then (-1:Rat) else 1)=sg at *
 generalize (n₁:Rat)=p
 generalize (d₁:Rat)=q
 generalize (d₂:Rat)=r
 generalize (Ze b.2:Rat)=m at *
 have hsg:sg≠0:=fun h=>by rw [h] at hs;grind
 have hinv:sg⁻¹=sg:=Rat.inv_eq_of_mul_eq_one hs
 simp only [Rat.div_def,Rat.inv_mul_rev,Rat.inv_inv,hinv]
 grind
theorem Zwy {N k l:Nat} {a b:ZV} (ha:Zw a.2) (hb:Zw b.2) (hk:a.2.length≤k) (hl:b.2.length≤l) (hr:X5 N (k+l)):Zg8 N a b=some (if Z8 b=0 then (((false,[]),[]),11) else (Y0 ((Z8 a:Rat) / (Z8 b:Rat)),0)):=by
 rw [Zg8,Zky (a:=(b.1,b.2)) hb hl (hr.mono (by omega)),Option.bind_some]
 by_cases h0:Z8 b=0
 ·rw [if_pos h0,h0,if_pos (by decide)]
 ·have hb0:Ze b.2≠0:=fun h=>h0 (by have:=Zdw b;omega)
  have e:=Zqe (Z8 a) 1 b 1 a.1 a.2 rfl hb0
  have hs:¬ (Z8 b).sign=0:=fun h=>h0 (Int.sign_eq_zero_iff_zero.1 h)
  rw [if_neg (by rw [decide_eq_false hs];decide),if_neg h0,Zp3 ha hb hb0 hk hl hr,Option.bind_some]
  rw [Rat.mkRat_eq_div,Rat.mkRat_eq_div] at e
  have e1:(Z8 a:Rat) / ((1:Nat):Rat) / ((Z8 b:Rat) / ((1:Nat):Rat))=(Z8 a:Rat) / (Z8 b:Rat):=by
   have h1:((1:Nat):Rat)=1:=rfl
   have h2:(1:Rat)⁻¹=1:=Rat.inv_eq_of_mul_eq_one (by grind)
   simp only [h1,Rat.div_def,h2,Rat.mul_one]
  rw [e1,Nat.one_mul,Nat.mul_one] at e
  rw [e]
  have e2:Z8 (!decide (a.1=b.1),Zm (Ze a.2))=Z8 (!decide (a.1=b.1),a.2):=by simp only [Z8,Xo]
  rw [e2]
theorem Zwz {N:Nat} {a b:Int} (h:-9223372036854775808≤a∧a≤9223372036854775807) (g:-9223372036854775808≤b∧b≤9223372036854775807) (hr:X5 N 4):Zg9 N a b=some (if b=0 then (((false,[]),[]),11) else (Y0 ((a:Rat) / (b:Rat)),0)):=by
 have l2:∀ z:Int,-9223372036854775808≤z∧z≤9223372036854775807→(X2 z).2.length≤2:=fun z hz=>W9.2 (by simp;omega)
 rw [Zg9,Zts h (hr.mono (by omega)),Option.bind_some,Zts g (hr.mono (by omega)),Option.bind_some,Zwy (a:=X2 a) (b:=X2 b) (Ui _) (Ui _) (l2 _ h) (l2 _ g) hr,Option.bind_some,Uc,Uc]
def Vs (l:List QV):Rat:=(l.map Yq).sum
def Yu:List QV→Nat
 | []=>0
 | a :: l=>max a.1.2.length a.2.length+2+Yu l
theorem Zij {a:QV} (hm:Zw a.1.2) (hd:Zw a.2):RV (max a.1.2.length a.2.length) a:=⟨hm,hd,Nat.le_max_left _ _,Nat.le_max_right _ _⟩
def Vy (a:QV):Prop:=Zw a.1.2∧Zw a.2
theorem Zrr {a:QV} (h:Vy a):qs (Yq a)≤max a.1.2.length a.2.length+1:=by
 have:=Zyj (Zij h.1 h.2)
 omega
theorem Zo4 {N:Nat}:∀ (l:List QV) (q:Rat),(∀ a ∈ l,Vy a)→X5 N (4 * (qs q+Yu l+3))→Zay N l (Y0 q).1.1 (Y0 q).1.2 (Y0 q).2=some (Y0 (q+Vs l))∧qs (q+Vs l)≤qs q+Yu l
 | [],q,_,_=>by
  rw [Zay.eq_1,Vs]
  simp only [List.map_nil,List.sum_nil,Rat.add_zero,Yu]
  exact ⟨trivial,by omega⟩
 | a :: l,q,hl,hr=>by
  have ha:=hl a List.mem_cons_self
  have hs:=Zrr ha
  rw [Yu] at hr ⊢
  rw [Zay.eq_2,Zwr (k:=qs q) (l:=max a.1.2.length a.2.length) (Zmk q) (Zij ha.1 ha.2) (hr.mono (by omega)),Option.bind_some]
  have e:Yq ((((Y0 q).1.1,(Y0 q).1.2),(Y0 q).2):QV)=q:=Zbr q
  have e2:Yq (((a.1.1,a.1.2),a.2):QV)=Yq a:=rfl
  have h1:=Zrp q (Yq a)
  obtain ⟨h2,h3⟩:=Zo4 l (q+Yq a) (fun x hx=>hl x (List.mem_cons_of_mem _ hx)) (hr.mono (by omega))
  rw [e,e2,h2]
  have e3:q+Yq a+Vs l=q+Vs (a :: l):=by rw [Vs,Vs,List.map_cons,List.sum_cons,Rat.add_assoc]
  rw [e3] at h3 ⊢
  exact ⟨rfl,by omega⟩
theorem Zo5 {N:Nat} {l:List QV} (hl:∀ a ∈ l,Vy a) (hr:X5 N (4 * (Yu l+4))):Zha N l=some (Y0 (Vs l))∧qs (Vs l)≤Yu l+1:=by
 have hr':=hr
 obtain ⟨r1,r2⟩:=hr'
 obtain ⟨h1,h2⟩:=Zo4 (N:=N) l 0 hl (hr.mono (by rw [Zmb];omega))
 rw [Rat.zero_add] at h1 h2
 rw [Zmb] at h2
 have e:Y0 0=((false,[]),[1]):=by
  rw [Y0,X2]
  simp only [Rat.zero_num,Rat.zero_den,Int.natAbs_zero,Va,Qs]
  rfl
 rw [e] at h1
 refine ⟨?_,by omega⟩
 rw [Zha,Zic (by decide) (by omega),Option.bind_some,← h1]
 rw [show (1:Int).toNat=1 from rfl,Qs]
theorem Zwo:Y2 Tryz.prog 79 1 4:=⟨Tryz.t79,_,rfl,rfl,rfl,rfl,rfl⟩
def Zjv:Option (List Int):=
  some [1]
theorem Zvc (c1:Nat) (col:Zh) (w0:World) (r:List Int) (hm:Zjv=some r):
    Calls Tryz.prog 270 #[] w0 (fun e w'=>∃ (col':Zh) (ra1:Option Addr) (rc2:Nat),e= .returned ((.slice ra1 r.length rc2))∧Zf col w0 col' w'∧Zl (Za.int .u32) 79 c1 col' w' ra1 rc2 r):=by
 refine Xv 0 (m:=2) func270 rfl rfl rfl rfl rfl ?_;rw [Zjv.eq_1] at hm;have aa:=St.start col w0;refine Zb<|Zd<|Zu rfl<|Zc<|Zb<|Zd<|Wk (col:=(Zo col)) (r:=(Za.int .u32)) (xs:=[1]) [.int .u32 1] 1 rfl underlying43 Zwo rfl rfl rfl rfl rfl rfl (by intro v hv;simp only [List.mem_cons,List.not_mem_nil,or_false] at hv;subst hv;rfl) (Y6.ofF (Rows.consF (r:=(Za.int .u32)) (x:=1) (cs:=[.int .u32 1]) (X8 .u32 1) Rows.nil0)) ?_;intro ab af ac ad ae;refine Zu rfl<|Zc<|Zq ?_;cases hm;replace aa:=aa.grow ad;exact ⟨rfl,Xh w0.heap.size col ac (fun n=>bif Nat.beq n 1 then c1 else 0),ab,1,rfl,aa.fin (fun n=>bif Nat.beq n 1 then c1 else 0),aa.finOwn (g:=(fun n=>bif Nat.beq n 1 then c1 else 0)) rfl ae (by decide) (by decide) rfl⟩
def Qh (N:Nat) (ab:((Bool×List Int)×List Int)):Option (List Int):=
  (Vw N ab.2).bind fun aa=>if (decide ((aa.length:Int)=0))=true then ((Zjv).bind fun ac=>some ac) else (some aa)
theorem Zd3 (N:Nat) (c1:Nat) (col:Zh) (w0:World) (af:Option Addr) (ag:Nat) (ac:Option Addr) (ad:Nat) (ab:((Bool×List Int)×List Int)) (a1:Sl (Za.int .u32) col w0 af ag ab.1.2) (ae:Sl (Za.int .u32) col w0 ac ad ab.2) (r:List Int) (hm:Qh N ab=some r):
    Calls Tryz.prog 208 #[(.agg #[.bool ab.1.1,.slice af ab.1.2.length ag,.slice ac ab.2.length ad])] w0 (fun e w'=>∃ (col':Zh) (ra1:Option Addr) (rc2:Nat),e= .returned ((.slice ra1 r.length rc2))∧Zf col w0 col' w'∧Zl (Za.int .u32) 79 c1 col' w' ra1 rc2 r):=by
 refine Xv 2 (m:=12) func208 rfl rfl rfl rfl rfl ?_;rw [Qh.eq_1] at hm;have aa:=St.start col w0;refine Zb<|Zd<|X3 (col:=(Zo col)) 1 rfl ?_;intro ai a2 aj ak al;refine Zu rfl<|Zc<|Zb<|Zd<|Z9 ai 2 underlying47 rfl sizeOf43 isAgg43 al rfl ?_;obtain ⟨am,an,hm⟩:=bZ hm;replace ae:=ae.keep (Zp.start col w0);replace aa:=aa.grow ak;refine lc rfl rfl (Z7 call212 rfl) (Ul N 2 aj _ ac ad ab.2 (ae.ks aa) am an) ?_;rintro _ a3 ⟨ah,ao,ap,rfl,aq,ar⟩;refine ⟨_,rfl,?_⟩;refine Zu rfl<|Zc<|Zb<|Zb<|Zd<|Zk rfl<|lV _ (Zs underlying43 rfl)<|lV _ (Y9 _ _ rfl rfl)<|Zc ?_;replace aa:=aa.grow aq;refine Zy _ rfl (fun hb=>?_) (fun hb=>?_)
 ·rw [if_pos hb] at hm;refine Zb<|Zd ?_;obtain ⟨au,av,hm⟩:=bZ hm;refine lc rfl rfl (Zie call270) (Zvc 3 ah _ au av) ?_;rintro _ a4 ⟨aw,ax,ay,rfl,az,a0⟩;refine ⟨_,rfl,?_⟩;refine Zu rfl<|Zc<|Zq ?_;cases hm;replace aa:=aa.grow az;exact ⟨rfl,Xh w0.heap.size col aw (fun n=>bif Nat.beq n 3 then c1 else 0),ax,ay,rfl,aa.fin (fun n=>bif Nat.beq n 3 then c1 else 0),aa.finOwn (g:=(fun n=>bif Nat.beq n 3 then c1 else 0)) rfl a0 (by decide) (by decide) rfl⟩
 rw [if_neg (Zz hb)] at hm;refine Zr<|Zb<|Zd<|Zk rfl<|Zu rfl<|Zc<|Zq ?_;cases hm;exact ⟨rfl,Xh w0.heap.size col ah (fun n=>bif Nat.beq n 2 then c1 else 0),ao,ap,rfl,aa.fin (fun n=>bif Nat.beq n 2 then c1 else 0),aa.finOwn (g:=(fun n=>bif Nat.beq n 2 then c1 else 0)) rfl ar (by decide) (by decide) rfl⟩
def Qi (aa:List Int):Option (Bool×List Int):=
  some (false,aa)
theorem Zi7 (col:Zh) (w0:World) (a0:Option Addr) (aa:Nat) (ab:List Int) (h0:Sl (Za.int .u32) col w0 a0 aa ab) (r:(Bool×List Int)) (hm:Qi ab=some r):
    Calls Tryz.prog 207 #[.slice a0 ab.length aa] w0 (fun e w'=>∃ (col':Zh) (ra1:Option Addr) (rc2:Nat),e= .returned ((.agg #[.bool r.1,.slice ra1 r.2.length rc2]))∧Zf col w0 col' w'∧Sl (Za.int .u32) col' w' ra1 rc2 r.2):=by
 refine Wq (m:=5) (args:=[.slice a0 ab.length aa]) func207 rfl rfl rfl ?_;rw [Qi.eq_1] at hm;have ac:=St.start col w0;refine Zb<|Zd<|Yt (col:=(Zo col)) #[.bool false,.slice none (([]:List Int).length) 0] 1 zeroValue45 ?_;intro aj ak ad ae af;refine Zc<|Zb<|Zd<|Zk rfl<|lV (.agg #[.bool false,.slice a0 ab.length aa]) (Vi (l:=[_,_]) (qs:=[(0,1),(1,1)]) underlying45 zeroValue45 ⟨rfl,sizeOf4,rfl,sizeOf43,trivial⟩ rfl)<|Ya #[.bool false,.slice a0 ab.length aa] af sizeOf45 ?_;intro al ag ah ai;refine Zc<|Zq ?_;cases hm;replace h0:=h0.keep (Zp.start col w0);replace ac:=(ac.grow ae).kp ag ah;exact ⟨rfl,_,Wi rfl rfl isAgg45 sizeOf45 rfl rfl ai.atN,Xh w0.heap.size col ad (fun n=>0),a0,aa,rfl,ac.fin (fun n=>0),ac.finSl (g:=(fun n=>0)) rfl (h0.ks ac)⟩
def Zfr (aa:Bool) (ab:List Int):Option (Bool×List Int):=
  some (aa,ab)
def Ty (N:Nat) (ab:Bool) (ac:List Int):Option (Bool×List Int):=
  (Vw N ac).bind fun aa=>if ab=true then (Zfr (decide (0<(aa.length:Int))) aa) else (Zfr false aa)
theorem Zap (N:Nat) (c1:Nat) (col:Zh) (w0:World) (aj:Bool) (a1:Option Addr) (ak:Nat) (ah:List Int) (h1:Sl (Za.int .u32) col w0 a1 ak ah) (r:(Bool×List Int)) (hm:Ty N aj ah=some r):
    Calls Tryz.prog 226 #[.bool aj,.slice a1 ah.length ak] w0 (fun e w'=>∃ (col':Zh) (ra1:Option Addr) (rc2:Nat),e= .returned ((.agg #[.bool r.1,.slice ra1 r.2.length rc2]))∧Zf col w0 col' w'∧Zl (Za.int .u32) 79 c1 col' w' ra1 rc2 r.2):=by
 refine Wq (m:=16) (args:=[.bool aj,.slice a1 ah.length ak]) func226 rfl rfl rfl ?_;rw [Ty.eq_1] at hm;have aa:=St.start col w0;refine Zb<|Zd<|Yt (col:=(Zo col)) #[.bool false,.slice none (([]:List Int).length) 0] 1 zeroValue45 ?_;intro au a8 az a0 ae;refine Zc<|Zb<|Zd<|Zk rfl ?_;obtain ⟨ac,a2,hm⟩:=bZ hm;replace h1:=h1.keep (Zp.start col w0);replace aa:=aa.grow a0;refine lc rfl rfl (Z7 call212 rfl) (Ul N 2 az _ a1 ak ah (h1.ks aa) ac a2) ?_;rintro _ a9 ⟨av,af,ag,rfl,aw,ad⟩;refine ⟨_,rfl,?_⟩;refine Zu rfl<|Zc<|Zb ?_;replace ae:=ae.gr aw;replace aa:=aa.grow aw;refine Wp.cut (fun f al=>∃ (ai:Zh) (ap:Bool) (am:Option Addr) (an:Nat) (ao:List Int),Zfr ap ao=some r∧St w0 (Zo col) ai al∧Zl (Za.int .u32) 79 3 ai al am an ao∧Zt 45 1 ai al au #[.bool ap,.slice am ao.length an]∧f 4=(.pointer (some ⟨au,0,none⟩))∧f 1000000=(enc [])) ?_ ?_
 ·intro f al hJ;obtain ⟨ai,ap,am,an,ao,hm,aa,a3,ae,a4,a5⟩:=hJ;rw [Zfr.eq_1] at hm;refine .lD 4 a4<|.lD 1000000 a5<|Zq ?_;cases hm;exact ⟨rfl,_,Wi rfl rfl isAgg45 sizeOf45 rfl rfl ae.atN,Xh w0.heap.size col ai (fun n=>bif Nat.beq n 3 then c1 else 0),am,an,rfl,aa.fin (fun n=>bif Nat.beq n 3 then c1 else 0),aa.finOwn (g:=(fun n=>bif Nat.beq n 3 then c1 else 0)) rfl a3 (by decide) (by decide) rfl⟩
 refine Zd<|Xf rfl<|Xf rfl ?_;by_cases ab:aj=true
 ·rw [if_pos ab] at hm;refine lG 9 rfl (gq ab)<|Zk rfl<|lG 9 rfl (gq ab)<|lV _ (Zs underlying43 rfl)<|lG 9 rfl (gq ab)<|lV _ (Wa _ _ rfl rfl)<|lV (.bool (decide (0<(ac.length:Int)))) (Xm (congrArg Value.bool ab) rfl)<|Zk rfl<|lV (.agg #[.bool (decide (0<(ac.length:Int))),.slice af ac.length ag]) (Vi (l:=[_,_]) (qs:=[(0,1),(1,1)]) underlying45 zeroValue45 ⟨rfl,sizeOf4,rfl,sizeOf43,trivial⟩ rfl)<|Ya #[.bool (decide (0<(ac.length:Int))),.slice af ac.length ag] ae sizeOf45 ?_;intro ba ax a6 aq;refine Zc ?_;replace ad:=ad.kp ax;replace ad:=ad.recolSelf 3 (by decide);replace aq:=aq.recol 2 3 (by decide);replace aa:=aa.kp ax a6;replace aa:=aa.recol 2 3 (by decide) (by decide);exact ⟨(X7 2 3 av),(decide (0<(ac.length:Int))),af,ag,ac,hm,aa,ad,aq,rfl,rfl⟩
 rw [if_neg ab] at hm;replace ab:=Bool.eq_false_iff.2 ab;refine lP 9 rfl (gq ab)<|lP 9 rfl (gq ab)<|lP 9 rfl (gq ab)<|lV (.bool false) (Xr (congrArg Value.bool ab) rfl)<|Zk rfl<|lV (.agg #[.bool false,.slice af ac.length ag]) (Vi (l:=[_,_]) (qs:=[(0,1),(1,1)]) underlying45 zeroValue45 ⟨rfl,sizeOf4,rfl,sizeOf43,trivial⟩ rfl)<|Ya #[.bool false,.slice af ac.length ag] ae sizeOf45 ?_;intro bb ay a7 ar;refine Zc ?_;replace ad:=ad.kp ay;replace ad:=ad.recolSelf 3 (by decide);replace ar:=ar.recol 2 3 (by decide);replace aa:=aa.kp ay a7;replace aa:=aa.recol 2 3 (by decide) (by decide);exact ⟨(X7 2 3 av),false,af,ag,ac,hm,aa,ad,ar,rfl,rfl⟩
def Zbd (N:Nat) (aa:(Bool×List Int)) (ab:(Bool×List Int)):Option (Bool×List Int):=
  (Zcs N aa.2 ab.2).bind fun ad=>(Ty N (!decide (aa.1=ab.1)) ad).bind fun ac=>some (ac.1,ac.2)
theorem Zi6 (N:Nat) (c1:Nat) (col:Zh) (w0:World) (aj:Option Addr) (ak:Nat) (ac:(Bool×List Int)) (al:Option Addr) (am:Nat) (ad:(Bool×List Int)) (ap:Sl (Za.int .u32) col w0 aj ak ac.2) (aq:Sl (Za.int .u32) col w0 al am ad.2) (r:(Bool×List Int)) (hm:Zbd N ac ad=some r):
    Calls Tryz.prog 206 #[(.agg #[.bool ac.1,.slice aj ac.2.length ak]),(.agg #[.bool ad.1,.slice al ad.2.length am])] w0 (fun e w'=>∃ (col':Zh) (ra1:Option Addr) (rc2:Nat),e= .returned ((.agg #[.bool r.1,.slice ra1 r.2.length rc2]))∧Zf col w0 col' w'∧Zl (Za.int .u32) 79 c1 col' w' ra1 rc2 r.2):=by
 refine Wq (m:=16) (args:=[(.agg #[.bool ac.1,.slice aj ac.2.length ak]),(.agg #[.bool ad.1,.slice al ad.2.length am])]) func206 rfl rfl rfl ?_;rw [Zbd.eq_1] at hm;have aa:=St.start col w0;refine Zb<|Zd<|X3 (col:=(Zo col)) 1 rfl ?_;intro ay bn a9 ba an;refine X3 (col:=a9) 2 rfl ?_;intro az bo bb a0 ao;refine Yt (col:=bb) #[.bool false,.slice none (([]:List Int).length) 0] 3 zeroValue45 ?_;intro bp bc ae ar ag;refine Zc<|Zb<|Vn (col:=ae) [(0,1),(1,0),(2,1),(3,0),(4,1),(5,1),(6,0),(7,1),(8,0),(9,3),(10,3),(11,2)] (by kernel_rfl) (by kernel_rfl)<|xu (v:=(.pointer ((some (⟨ay,0,none⟩:Addr)).map (·.add 0)))) rfl rfl (fun _=>Xn (sz:=1) (off:=0) underlying45 rfl sizeOf4 (by decide) rfl rfl ⟨_,_,rfl⟩) ?_;replace an:=(an.gr a0).gr ar;refine xv rfl rfl (fun _ hC=>Zn isAgg4 rfl (((an.atN).nth (q:=0) rfl).gr (hC.bl ae))) ?_;refine xu (v:=(.pointer ((some (⟨az,0,none⟩:Addr)).map (·.add 0)))) rfl rfl (fun _=>Xn (sz:=1) (off:=0) underlying45 rfl sizeOf4 (by decide) rfl rfl ⟨_,_,rfl⟩) ?_;replace ao:=ao.gr ar;refine xv rfl rfl (fun _ hC=>Zn isAgg4 rfl (((ao.atN).nth (q:=0) rfl).gr (hC.bl ae))) ?_;refine xu rfl rfl (fun _=>Zif _ _ underlying4 rfl rfl) ?_;refine xu (v:=(.pointer ((some (⟨ay,0,none⟩:Addr)).map (·.add 1)))) rfl rfl (fun _=>Xn (sz:=1) (off:=1) underlying45 rfl sizeOf43 (by decide) rfl rfl ⟨_,_,rfl⟩) ?_;refine xv rfl rfl (fun _ hC=>Zn isAgg43 rfl (((an.atN).nth (q:=1) rfl).gr (hC.bl ae))) ?_;refine xu (v:=(.pointer ((some (⟨az,0,none⟩:Addr)).map (·.add 1)))) rfl rfl (fun _=>Xn (sz:=1) (off:=1) underlying45 rfl sizeOf43 (by decide) rfl rfl ⟨_,_,rfl⟩) ?_;refine xv rfl rfl (fun _ hC=>Zn isAgg43 rfl (((ao.atN).nth (q:=1) rfl).gr (hC.bl ae))) ?_;refine xe rfl rfl ?_;intro bd hC0;have hC:Zf ae bc ae bd:=.of_below hC0.below;obtain ⟨a1,be,hm⟩:=bZ hm;replace ap:=ap.keep (Zp.start col w0);replace aq:=aq.keep (Zp.start col w0);replace aa:=(((aa.grow ba).grow a0).grow ar).grow hC;refine lc rfl rfl (Xa call104 rfl rfl) (Zng N 4 ae _ aj ak ac.2 al am ad.2 (ap.ks aa) (aq.ks aa) a1 be) ?_;rintro _ a2 ⟨af,bf,bg,rfl,au,av⟩;refine ⟨_,rfl,?_⟩;refine Zc ⟨fun w'=>Zf af a2 af w',Zf.refl _ _,fun _ _ h=>Yh hC0 au h,?_⟩;refine xe rfl rfl ?_;intro a3 hC0;replace ag:=(ag.gr hC).gr au;have hC:Zf af a2 af a3:=.of_below hC0.below;obtain ⟨aw,bh,hm⟩:=bZ hm;replace av:=av.gr hC
 refine lc rfl rfl (Xa call226 rfl rfl) (Zap N 5 (Z3 4 af) _ (!decide (ac.1=ad.1)) bf bg a1 (av.toSlF (Z2.int .u32)) aw bh) ?_;rintro _ a4 ⟨bi,a5,a6,rfl,ai,ah⟩;refine ⟨_,rfl,?_⟩;replace ah:=ah.thaw (Xz .u32) ai ((Fz.refl (col:=af)).froz 4) (by decide);replace ai:=ai.thawR (col:=af);generalize X1 a3.heap.size af bi=ab at *;refine Zc ⟨fun w'=>Zf ab a4 ab w',Zf.refl _ _,fun _ _ h=>Yh hC0 ai h,?_⟩;refine xe rfl rfl ?_;intro bj hC0;replace aa:=((aa.grow au).grow hC).grow ai;replace ag:=(ag.gr hC).gr ai;have hC:Zf ab a4 ab bj:=.of_below hC0.below;replace ag:=ag.gr hC;refine Ya #[.bool aw.1,.slice a5 aw.2.length a6] ag sizeOf45 ?_;intro a7 a8 bk ax;refine Zc ⟨fun w'=>Zf ab a7 ab w',Zf.refl _ _,fun h=>absurd h (by decide),?_⟩;refine Ve ?_;replace ah:=(ah.gr hC).kp a8;replace aa:=(aa.grow hC).kp a8 bk;intro bm hC;replace hC:Zf ab a7 ab bm:=.of_below hC.below;refine Zq ?_;cases hm;replace ah:=ah.gr hC;replace ax:=ax.gr hC;replace aa:=aa.grow hC;exact ⟨rfl,_,Wi rfl rfl isAgg45 sizeOf45 rfl rfl ax.atN,Xh w0.heap.size col ab (fun n=>bif Nat.beq n 5 then c1 else 0),a5,a6,rfl,aa.fin (fun n=>bif Nat.beq n 5 then c1 else 0),aa.finOwn (g:=(fun n=>bif Nat.beq n 5 then c1 else 0)) rfl ah (by decide) (by decide) rfl⟩
def Zfq (N:Nat) (aa:(Bool×List Int)) (ab:(Bool×List Int)):Option (Bool×List Int):=
  if (decide (aa.1=ab.1))=true then ((Zff N aa.2 ab.2).bind fun ag=>(Ty N aa.1 ag).bind fun ac=>some (ac.1,ac.2)) else ((Zba N aa.2 ab.2).bind fun ad=>if ad.2=true then ((Ty N aa.1 ad.1).bind fun ae=>some (ae.1,ae.2)) else ((Zba N ab.2 aa.2).bind fun ah=>(Ty N ab.1 ah.1).bind fun af=>some (af.1,af.2)))
theorem Znj (N:Nat) (c1:Nat) (col:Zh) (w0:World) (ak:Option Addr) (al:Nat) (ac:(Bool×List Int)) (am:Option Addr) (an:Nat) (ae:(Bool×List Int)) (au:Sl (Za.int .u32) col w0 ak al ac.2) (av:Sl (Za.int .u32) col w0 am an ae.2) (r:(Bool×List Int)) (hm:Zfq N ac ae=some r):
    Calls Tryz.prog 124 #[(.agg #[.bool ac.1,.slice ak ac.2.length al]),(.agg #[.bool ae.1,.slice am ae.2.length an])] w0 (fun e w'=>∃ (col':Zh) (ra1:Option Addr) (rc2:Nat),e= .returned ((.agg #[.bool r.1,.slice ra1 r.2.length rc2]))∧Zf col w0 col' w'∧Zl (Za.int .u32) 79 c1 col' w' ra1 rc2 r.2):=by
 refine Wq (m:=45) (args:=[(.agg #[.bool ac.1,.slice ak ac.2.length al]),(.agg #[.bool ae.1,.slice am ae.2.length an])]) func124 rfl rfl rfl ?_;rw [Zfq.eq_1] at hm;have aa:=St.start col w0;refine Zb<|Zd<|X3 (col:=(Zo col)) 1 rfl ?_;intro ao cq bw bx af;refine X3 (col:=bw) 2 rfl ?_;intro aw cr bz bg ad;refine Yt (col:=bz) #[.bool false,.slice none (([]:List Int).length) 0] 3 zeroValue45 ?_;intro cs b0 ah a4 ab;refine Zc<|Zb<|Zb<|Zd<|lF ao 0 underlying45 rfl sizeOf4 ?_;replace af:=(af.gr bg).gr a4;refine lV _ (Zn isAgg4 rfl ((af.atN).nth (q:=0) rfl))<|lF aw 0 underlying45 rfl sizeOf4 ?_;replace ad:=ad.gr a4;refine lV _ (Zn isAgg4 rfl ((ad.atN).nth (q:=0) rfl))<|lV _ (Zrw _ _ underlying4 rfl rfl)<|Zc ?_;replace au:=au.keep (Zp.start col w0);replace av:=av.keep (Zp.start col w0);replace aa:=((aa.grow bx).grow bg).grow a4;refine Zy _ rfl (fun hb=>?_) (fun hb=>?_)
 ·rw [if_pos hb] at hm;refine Zb<|Vn (col:=ah) [(0,1),(1,0),(2,1),(3,0),(4,1),(5,0),(6,3),(7,3),(8,2)] (by kernel_rfl) (by kernel_rfl)<|xu (v:=(.pointer ((some (⟨ao,0,none⟩:Addr)).map (·.add 0)))) rfl rfl (fun _=>Xn (sz:=1) (off:=0) underlying45 rfl sizeOf4 (by decide) rfl rfl ⟨_,_,rfl⟩) ?_;refine xv rfl rfl (fun _ hC=>Zn isAgg4 rfl (((af.atN).nth (q:=0) rfl).gr (hC.bl ah))) ?_;refine xu (v:=(.pointer ((some (⟨ao,0,none⟩:Addr)).map (·.add 1)))) rfl rfl (fun _=>Xn (sz:=1) (off:=1) underlying45 rfl sizeOf43 (by decide) rfl rfl ⟨_,_,rfl⟩) ?_;refine xv rfl rfl (fun _ hC=>Zn isAgg43 rfl (((af.atN).nth (q:=1) rfl).gr (hC.bl ah))) ?_;refine xu (v:=(.pointer ((some (⟨aw,0,none⟩:Addr)).map (·.add 1)))) rfl rfl (fun _=>Xn (sz:=1) (off:=1) underlying45 rfl sizeOf43 (by decide) rfl rfl ⟨_,_,rfl⟩) ?_;refine xv rfl rfl (fun _ hC=>Zn isAgg43 rfl (((ad.atN).nth (q:=1) rfl).gr (hC.bl ah))) ?_;refine xe rfl rfl ?_;intro b1 hC0;have hC:Zf ah b0 ah b1:=.of_below hC0.below;obtain ⟨bh,b2,hm⟩:=bZ hm;replace aa:=aa.grow hC;refine lc rfl rfl (Xa call227 rfl rfl) (Zne N 4 ah _ ak al ac.2 am an ae.2 (au.ks aa) (av.ks aa) bh b2) ?_;rintro _ bi ⟨ai,b3,b4,rfl,a5,a6⟩;refine ⟨_,rfl,?_⟩;refine Zc ⟨fun w'=>Zf ai bi ai w',Zf.refl _ _,fun _ _ h=>Yh hC0 a5 h,?_⟩;refine xe rfl rfl ?_;intro bj hC0;replace ab:=(ab.gr hC).gr a5;have hC:Zf ai bi ai bj:=.of_below hC0.below;obtain ⟨a7,b5,hm⟩:=bZ hm;replace a6:=a6.gr hC;refine lc rfl rfl (Xa call226 rfl rfl) (Zap N 5 (Z3 4 ai) _ ac.1 b3 b4 bh (a6.toSlF (Z2.int .u32)) a7 b5) ?_;rintro _ bk ⟨b6,bm,bn,rfl,ap,aj⟩;refine ⟨_,rfl,?_⟩;replace aj:=aj.thaw (Xz .u32) ap ((Fz.refl (col:=ai)).froz 4) (by decide);replace ap:=ap.thawR (col:=ai);generalize X1 bj.heap.size ai b6=ag at *;refine Zc ⟨fun w'=>Zf ag bk ag w',Zf.refl _ _,fun _ _ h=>Yh hC0 ap h,?_⟩;refine xe rfl rfl ?_;intro b7 hC0;replace aa:=((aa.grow a5).grow hC).grow ap;replace ab:=(ab.gr hC).gr ap;have hC:Zf ag bk ag b7:=.of_below hC0.below;replace ab:=ab.gr hC;refine Ya #[.bool a7.1,.slice bm a7.2.length bn] ab sizeOf45 ?_;intro bo bp b8 a8;refine Zc ⟨fun w'=>Zf ag bo ag w',Zf.refl _ _,fun h=>absurd h (by decide),?_⟩;refine Ve ?_;replace aj:=(aj.gr hC).kp bp;replace aa:=(aa.grow hC).kp bp b8;intro b9 hC;replace hC:Zf ag bo ag b9:=.of_below hC.below;refine Zq ?_;cases hm;replace aj:=aj.gr hC
  replace a8:=a8.gr hC;replace aa:=aa.grow hC;exact ⟨rfl,_,Wi rfl rfl isAgg45 sizeOf45 rfl rfl a8.atN,Xh w0.heap.size col ag (fun n=>bif Nat.beq n 5 then c1 else 0),bm,bn,rfl,aa.fin (fun n=>bif Nat.beq n 5 then c1 else 0),aa.finOwn (g:=(fun n=>bif Nat.beq n 5 then c1 else 0)) rfl aj (by decide) (by decide) rfl⟩
 rw [if_neg (Zz hb)] at hm;refine Zr<|Zb<|Zd<|Z9 ao 1 underlying45 rfl sizeOf43 isAgg43 af rfl<|Z9 aw 1 underlying45 rfl sizeOf43 isAgg43 ad rfl ?_;obtain ⟨aq,ca,hm⟩:=bZ hm;refine lc rfl rfl (Xa call228 rfl rfl) (Zi3 N 6 ah _ ak al ac.2 am an ae.2 (au.ks aa) (av.ks aa) aq ca) ?_;rintro _ cb ⟨ax,a9,ba,rfl,a2,cc⟩;refine ⟨_,rfl,?_⟩;refine lM (.tuple #[.slice a9 aq.1.length ba,.bool aq.2])<|lV (.slice a9 aq.1.length ba) (Y4 rfl rfl)<|lV (.bool aq.2) (Y4 rfl rfl)<|Zu rfl<|Xc rfl<|Zc<|Zb<|Zb<|Zd<|Xf rfl<|Zc ?_;replace af:=af.gr a2;replace ad:=ad.gr a2;replace ab:=ab.gr a2;replace aa:=aa.grow a2;refine Zy _ rfl (fun hb=>?_) (fun hb=>?_)
 ·rw [if_pos hb] at hm;refine Zb<|Zd<|Z9 ao 0 underlying45 rfl sizeOf4 isAgg4 af rfl<|Zk rfl ?_;obtain ⟨bb,cd,hm⟩:=bZ hm;refine lc rfl rfl (Xa call226 rfl rfl) (Zap N 7 (Z3 6 ax) _ ac.1 a9 ba aq.1 (cc.toSlF (Z2.int .u32)) bb cd) ?_;rintro _ ct ⟨ce,bq,br,rfl,ay,az⟩;refine ⟨_,rfl,?_⟩;replace az:=az.thaw (Xz .u32) ay ((Fz.refl (col:=ax)).froz 6) (by decide);replace ay:=ay.thawR (col:=ax);generalize X1 cb.heap.size ax ce=cf at *;replace ab:=ab.gr ay;refine Ya #[.bool bb.1,.slice bq bb.2.length br] ab sizeOf45 ?_;intro cu bs cg ch;refine Zc<|Zq ?_;cases hm;replace aa:=(aa.grow ay).kp bs cg;replace az:=az.kp bs;exact ⟨rfl,_,Wi rfl rfl isAgg45 sizeOf45 rfl rfl ch.atN,Xh w0.heap.size col cf (fun n=>bif Nat.beq n 7 then c1 else 0),bq,br,rfl,aa.fin (fun n=>bif Nat.beq n 7 then c1 else 0),aa.finOwn (g:=(fun n=>bif Nat.beq n 7 then c1 else 0)) rfl az (by decide) (by decide) rfl⟩
 rw [if_neg (Zz hb)] at hm;refine Zr<|Zb<|Zd<|Z9 aw 1 underlying45 rfl sizeOf43 isAgg43 ad rfl<|Z9 ao 1 underlying45 rfl sizeOf43 isAgg43 af rfl ?_;obtain ⟨ar,ci,hm⟩:=bZ hm;refine lc rfl rfl (Xa call228 rfl rfl) (Zi3 N 8 ax _ am an ae.2 ak al ac.2 (av.ks aa) (au.ks aa) ar ci) ?_;rintro _ cj ⟨a3,bc,bd,rfl,be,ck⟩;refine ⟨_,rfl,?_⟩;refine lM (.tuple #[.slice bc ar.1.length bd,.bool ar.2])<|lV (.slice bc ar.1.length bd) (Y4 rfl rfl)<|lV (.bool ar.2) (Y4 rfl rfl)<|Zu rfl<|Zc<|Zb<|Zd<|lF aw 0 underlying45 rfl sizeOf4 ?_;replace ad:=ad.gr be;refine lV _ (Zn isAgg4 rfl ((ad.atN).nth (q:=0) rfl))<|Zk rfl ?_;obtain ⟨bf,cl,hm⟩:=bZ hm;refine lc rfl rfl (Xa call226 rfl rfl) (Zap N 9 (Z3 8 a3) _ ae.1 bc bd ar.1 (ck.toSlF (Z2.int .u32)) bf cl) ?_;rintro _ cv ⟨cm,bt,bu,rfl,a0,a1⟩;refine ⟨_,rfl,?_⟩;replace a1:=a1.thaw (Xz .u32) a0 ((Fz.refl (col:=a3)).froz 8) (by decide);replace a0:=a0.thawR (col:=a3);generalize X1 cj.heap.size a3 cm=cn at *;replace ab:=(ab.gr be).gr a0;refine Ya #[.bool bf.1,.slice bt bf.2.length bu] ab sizeOf45 ?_;intro cw bv co cp;refine Zc<|Zq ?_;cases hm;replace aa:=((aa.grow be).grow a0).kp bv co;replace a1:=a1.kp bv;exact ⟨rfl,_,Wi rfl rfl isAgg45 sizeOf45 rfl rfl cp.atN,Xh w0.heap.size col cn (fun n=>bif Nat.beq n 9 then c1 else 0),bt,bu,rfl,aa.fin (fun n=>bif Nat.beq n 9 then c1 else 0),aa.finOwn (g:=(fun n=>bif Nat.beq n 9 then c1 else 0)) rfl a1 (by decide) (by decide) rfl⟩
def Zfs (N:Nat) (aa:(Bool×List Int)):Option (Bool×List Int):=
  (Ty N aa.1 aa.2).bind fun ab=>some (ab.1,ab.2)
theorem Znk (N:Nat) (c1:Nat) (col:Zh) (w0:World) (ac:Option Addr) (ad:Nat) (aa:(Bool×List Int)) (af:Sl (Za.int .u32) col w0 ac ad aa.2) (r:(Bool×List Int)) (hm:Zfs N aa=some r):
    Calls Tryz.prog 268 #[(.agg #[.bool aa.1,.slice ac aa.2.length ad])] w0 (fun e w'=>∃ (col':Zh) (ra1:Option Addr) (rc2:Nat),e= .returned ((.agg #[.bool r.1,.slice ra1 r.2.length rc2]))∧Zf col w0 col' w'∧Zl (Za.int .u32) 79 c1 col' w' ra1 rc2 r.2):=by
 refine Wq (m:=8) (args:=[(.agg #[.bool aa.1,.slice ac aa.2.length ad])]) func268 rfl rfl rfl ?_;rw [Zfs.eq_1] at hm;have ab:=St.start col w0;refine Zb<|Zd<|X3 (col:=(Zo col)) 1 rfl ?_;intro aj ay ap aq ae;refine Yt (col:=ap) #[.bool false,.slice none (([]:List Int).length) 0] 2 zeroValue45 ?_;intro az a0 ar ak ag;refine Zc<|Zb<|Zd<|lF aj 0 underlying45 rfl sizeOf4 ?_;replace ae:=ae.gr ak;refine lV _ (Zn isAgg4 rfl ((ae.atN).nth (q:=0) rfl))<|Z9 aj 1 underlying45 rfl sizeOf43 isAgg43 ae rfl ?_;obtain ⟨ah,au,hm⟩:=bZ hm;replace af:=af.keep (Zp.start col w0);replace ab:=(ab.grow aq).grow ak;refine lc rfl rfl (Xa call226 rfl rfl) (Zap N 3 ar _ aa.1 ac ad aa.2 (af.ks ab) ah au) ?_;rintro _ a1 ⟨av,al,am,rfl,an,ai⟩;refine ⟨_,rfl,?_⟩;replace ag:=ag.gr an;refine Ya #[.bool ah.1,.slice al ah.2.length am] ag sizeOf45 ?_;intro a2 ao aw ax;refine Zc<|Zq ?_;cases hm;replace ab:=(ab.grow an).kp ao aw;replace ai:=ai.kp ao;exact ⟨rfl,_,Wi rfl rfl isAgg45 sizeOf45 rfl rfl ax.atN,Xh w0.heap.size col av (fun n=>bif Nat.beq n 3 then c1 else 0),al,am,rfl,ab.fin (fun n=>bif Nat.beq n 3 then c1 else 0),ab.finOwn (g:=(fun n=>bif Nat.beq n 3 then c1 else 0)) rfl ai (by decide) (by decide) rfl⟩
def Zfw (N:Nat) (aa:(Bool×List Int)) (ab:List Int):Option ((Bool×List Int)×List Int):=
  (Zhq N aa.2 ab).bind fun ac=>(Zfh N aa.2 ac).bind fun ae=>(Zfh N ab ac).bind fun af=>(Zfs N (aa.1,ae.1)).bind fun ad=>(Vw N af.1).bind fun ag=>some ((ad.1,ad.2),ag)
theorem Zno (N:Nat) (c1:Nat) (c2:Nat) (col:Zh) (w0:World) (ak:Option Addr) (al:Nat) (ab:(Bool×List Int)) (a1:Option Addr) (am:Nat) (ah:List Int) (au:Sl (Za.int .u32) col w0 ak al ab.2) (h1:Sl (Za.int .u32) col w0 a1 am ah) (r:((Bool×List Int)×List Int)) (hm:Zfw N ab ah=some r):
    Calls Tryz.prog 213 #[(.agg #[.bool ab.1,.slice ak ab.2.length al]),.slice a1 ah.length am] w0 (fun e w'=>∃ (col':Zh) (ra1:Option Addr) (rc2:Nat) (ra4:Option Addr) (rc5:Nat),e= .returned ((.agg #[.bool r.1.1,.slice ra1 r.1.2.length rc2,.slice ra4 r.2.length rc5]))∧Zf col w0 col' w'∧Zl (Za.int .u32) 79 c1 col' w' ra1 rc2 r.1.2∧Zl (Za.int .u32) 79 c2 col' w' ra4 rc5 r.2):=by
 refine Wq (m:=39) (args:=[(.agg #[.bool ab.1,.slice ak ab.2.length al]),.slice a1 ah.length am]) func213 rfl rfl rfl ?_;rw [Zfw.eq_1] at hm;have aa:=St.start col w0;refine Zb<|Zd<|X3 (col:=(Zo col)) 1 rfl ?_;intro a3 b6 bm bn ac;refine Yt (col:=bm) #[.bool false,.slice none (([]:List Int).length) 0,.slice none (([]:List Int).length) 0] 2 zeroValue47 ?_;intro b7 b8 bo bf a4;refine Zc<|Zb<|Zd<|lF a3 1 underlying45 rfl sizeOf43 ?_;replace ac:=ac.gr bf;refine lV _ (Zn isAgg43 rfl ((ac.atN).nth (q:=1) rfl))<|Zk rfl ?_;obtain ⟨a5,bp,hm⟩:=bZ hm;replace au:=au.keep (Zp.start col w0);replace h1:=h1.keep (Zp.start col w0);replace aa:=(aa.grow bn).grow bf;refine lc rfl rfl (Xa call271 rfl rfl) (Zu3 N 3 bo _ ak al ab.2 a1 am ah (au.ks aa) (h1.ks aa) a5 bp) ?_;rintro _ bq ⟨av,bg,bh,rfl,a6,aw⟩;refine ⟨_,rfl,?_⟩;refine Zu rfl<|Zc<|Zb<|Zd<|lF a3 1 underlying45 rfl sizeOf43 ?_;replace ac:=ac.gr a6;refine lV _ (Zn isAgg43 rfl ((ac.atN).nth (q:=1) rfl))<|Zk rfl ?_;obtain ⟨ad,br,hm⟩:=bZ hm;replace aa:=aa.grow a6;refine lc rfl rfl (Xa call272 rfl rfl) (Znf N 4 5 (Z3 3 av) _ ak al ab.2 bg bh a5 ((au.ks aa).froz 3) (aw.toSlF (Z2.int .u32)) ad br) ?_;rintro _ bs ⟨bt,ax,ay,bi,bj,rfl,af,an,b9⟩;refine ⟨_,rfl,?_⟩;replace an:=an.thaw (Xz .u32) af ((Fz.refl (col:=av)).froz 3) (by decide);replace af:=af.thawR (col:=av);generalize X1 bq.heap.size av bt=az at *;refine lM (.tuple #[.slice ax ad.1.length ay,.slice bi ad.2.1.length bj,.int .i64 ad.2.2])<|lV (.slice ax ad.1.length ay) (Y4 rfl rfl)<|lV (.slice bi ad.2.1.length bj) (Y4 rfl rfl)<|lV (.int .i64 ad.2.2) (Y4 rfl rfl)<|Zu rfl<|Zu rfl<|Zj rfl<|Zc<|Zb<|Zd<|Zk rfl<|Zk rfl ?_;obtain ⟨ae,bu,hm⟩:=bZ hm;replace aw:=aw.gr af;replace aa:=aa.grow af;refine lc rfl rfl (Xa call272 rfl rfl) (Znf N 6 7 (Z3 3 az) _ a1 am ah bg bh a5 ((h1.ks aa).froz 3) (aw.toSlF (Z2.int .u32)) ae bu) ?_;rintro _ bv ⟨bw,a7,a8,bk,bl,rfl,ag,ao,ca⟩;refine ⟨_,rfl,?_⟩;replace ao:=ao.thaw (Xz .u32) ag ((Fz.refl (col:=az)).froz 3) (by decide);replace ag:=ag.thawR (col:=az);generalize X1 bs.heap.size az bw=a0 at *
 refine lM (.tuple #[.slice a7 ae.1.length a8,.slice bk ae.2.1.length bl,.int .i64 ae.2.2])<|lV (.slice a7 ae.1.length a8) (Y4 rfl rfl)<|lV (.slice bk ae.2.1.length bl) (Y4 rfl rfl)<|lV (.int .i64 ae.2.2) (Y4 rfl rfl)<|Zu rfl<|Zu rfl<|Zj rfl<|Zc<|Zb<|Zd<|lF a3 0 underlying45 rfl sizeOf4 ?_;replace ac:=(ac.gr af).gr ag;refine lV _ (Zn isAgg4 rfl ((ac.atN).nth (q:=0) rfl))<|Zk rfl<|lV (.agg #[.bool ab.1,.slice ax ad.1.length ay]) (Vi (l:=[_,_]) (qs:=[(0,1),(1,1)]) underlying45 zeroValue45 ⟨rfl,sizeOf4,rfl,sizeOf43,trivial⟩ rfl) ?_;obtain ⟨ap,bx,hm⟩:=bZ hm;replace an:=an.gr ag;refine lc rfl rfl (Z7 call268 rfl) (Znk N 8 (Z3 4 a0) _ ax ay (ab.1,ad.1) (an.toSlF (Z2.int .u32)) ap bx) ?_;rintro _ bz ⟨b0,a9,ba,rfl,ai,aq⟩;refine ⟨_,rfl,?_⟩;replace aq:=aq.thaw (Xz .u32) ai ((Fz.refl (col:=a0)).froz 4) (by decide);replace ai:=ai.thawR (col:=a0);generalize X1 bv.heap.size a0 b0=a2 at *;refine Zk rfl ?_;obtain ⟨bb,b1,hm⟩:=bZ hm;replace ao:=ao.gr ai;refine lc rfl rfl (Z7 call212 rfl) (Ul N 9 (Z3 6 a2) _ a7 a8 ae.1 (ao.toSlF (Z2.int .u32)) bb b1) ?_;rintro _ cb ⟨b2,bc,bd,rfl,aj,ar⟩;refine ⟨_,rfl,?_⟩;replace ar:=ar.thaw (Xz .u32) aj ((Fz.refl (col:=a2)).froz 6) (by decide);replace aj:=aj.thawR (col:=a2);generalize X1 bz.heap.size a2 b2=b3 at *;refine lV (.agg #[.bool ap.1,.slice a9 ap.2.length ba,.slice bc bb.length bd]) (Vi (l:=[_,_]) (qs:=[(0,2),(2,1)]) underlying47 zeroValue47 ⟨rfl,sizeOf45,rfl,sizeOf43,trivial⟩ rfl) ?_;replace a4:=((((a4.gr a6).gr af).gr ag).gr ai).gr aj;refine Ya #[.bool ap.1,.slice a9 ap.2.length ba,.slice bc bb.length bd] a4 sizeOf47 ?_;intro cc be b4 b5;refine Zc<|Zq ?_;cases hm;replace aa:=(((aa.grow ag).grow ai).grow aj).kp be b4;replace aq:=(aq.gr aj).kp be;replace ar:=ar.kp be;exact ⟨rfl,_,Wi rfl rfl isAgg47 sizeOf47 rfl rfl b5.atN,Xh w0.heap.size col b3 (fun n=>bif Nat.beq n 8 then c1 else bif Nat.beq n 9 then c2 else 0),a9,ba,bc,bd,rfl,aa.fin (fun n=>bif Nat.beq n 8 then c1 else bif Nat.beq n 9 then c2 else 0),aa.finOwn (g:=(fun n=>bif Nat.beq n 8 then c1 else bif Nat.beq n 9 then c2 else 0)) rfl aq (by decide) (by decide) rfl,aa.finOwn (g:=(fun n=>bif Nat.beq n 8 then c1 else bif Nat.beq n 9 then c2 else 0)) rfl ar (by decide) (by decide) rfl⟩
def Zhw (N:Nat) (aa:((Bool×List Int)×List Int)) (ab:((Bool×List Int)×List Int)):Option ((Bool×List Int)×List Int):=
  (Qh N ((ab.1.1,ab.1.2),ab.2)).bind fun ai=>(Qi ai).bind fun ad=>(Zbd N (aa.1.1,aa.1.2) (ad.1,ad.2)).bind fun ae=>(Qh N ((aa.1.1,aa.1.2),aa.2)).bind fun aj=>(Qi aj).bind fun af=>(Zbd N (ab.1.1,ab.1.2) (af.1,af.2)).bind fun ag=>(Zfq N (ae.1,ae.2) (ag.1,ag.2)).bind fun ah=>(Qh N ((aa.1.1,aa.1.2),aa.2)).bind fun ak=>(Qh N ((ab.1.1,ab.1.2),ab.2)).bind fun al=>(Zcs N ak al).bind fun am=>(Zfw N (ah.1,ah.2) am).bind fun ac=>some ((ac.1.1,ac.1.2),ac.2)
theorem Zu7 (N:Nat) (c1:Nat) (c2:Nat) (col:Zh) (w0:World) (a2:Option Addr) (a3:Nat) (bt:Option Addr) (bu:Nat) (ah:((Bool×List Int)×List Int)) (a4:Option Addr) (a5:Nat) (bv:Option Addr) (bw:Nat) (ai:((Bool×List Int)×List Int)) (b1:Sl (Za.int .u32) col w0 a2 a3 ah.1.2) (ch:Sl (Za.int .u32) col w0 bt bu ah.2) (b2:Sl (Za.int .u32) col w0 a4 a5 ai.1.2) (ci:Sl (Za.int .u32) col w0 bv bw ai.2) (r:((Bool×List Int)×List Int)) (hm:Zhw N ah ai=some r):
    Calls Tryz.prog 156 #[(.agg #[.bool ah.1.1,.slice a2 ah.1.2.length a3,.slice bt ah.2.length bu]),(.agg #[.bool ai.1.1,.slice a4 ai.1.2.length a5,.slice bv ai.2.length bw])] w0 (fun e w'=>∃ (col':Zh) (ra1:Option Addr) (rc2:Nat) (ra4:Option Addr) (rc5:Nat),e= .returned ((.agg #[.bool r.1.1,.slice ra1 r.1.2.length rc2,.slice ra4 r.2.length rc5]))∧Zf col w0 col' w'∧Zl (Za.int .u32) 79 c1 col' w' ra1 rc2 r.1.2∧Zl (Za.int .u32) 79 c2 col' w' ra4 rc5 r.2):=by
 refine Wq (m:=28) (args:=[(.agg #[.bool ah.1.1,.slice a2 ah.1.2.length a3,.slice bt ah.2.length bu]),(.agg #[.bool ai.1.1,.slice a4 ai.1.2.length a5,.slice bv ai.2.length bw])]) func156 rfl rfl rfl ?_;rw [Zhw.eq_1] at hm;have aa:=St.start col w0;refine Zb<|Zd<|X3 (col:=(Zo col)) 1 rfl ?_;intro dr e5 ds dt ac;refine X3 (col:=ds) 2 rfl ?_;intro du e6 dv cy ad;refine Yt (col:=dv) #[.bool false,.slice none (([]:List Int).length) 0,.slice none (([]:List Int).length) 0] 3 zeroValue47 ?_;intro e7 a9 ba cm ab;refine Zc<|Zb ?_;have cj:=Xu.clip (fun _=>false) ba a9;refine Zms (col:=ba) [(0,1),(1,0),(2,0),(3,3),(4,3),(5,3),(6,4),(7,2)] (by kernel_rfl) (by kernel_rfl) ⟨fun h=>absurd h (by decide),fun h=>absurd h (by decide),fun h=>absurd h (by decide),fun h=>absurd h (by decide),fun h=>absurd h (by decide),fun h=>absurd h (by decide),fun _=>⟨_,_,_,rfl,Zd9 zeroValue45⟩,fun h=>absurd h (by decide),trivial⟩<|Zkz (v:=(.pointer ((some (⟨dr,0,none⟩:Addr)).map (·.add 0)))) rfl rfl (fun _=>Xn (sz:=2) (off:=0) underlying47 rfl sizeOf45 (by decide) rfl rfl ⟨_,_,rfl⟩) ?_;replace ac:=((ac.gr cy).gr cm).kpp cj;refine Zby (v:=(.agg #[.bool ah.1.1,.slice a2 ah.1.2.length a3])) rfl rfl (fun _ hC=>Wt isAgg45 sizeOf45 rfl rfl (((ac.atN).part 0 2 _ rfl).gr (hC.bl (Z1 a9 ba)))) ?_;replace ad:=(ad.gr cm).kpp cj;refine Zby (v:=(.agg #[.bool ai.1.1,.slice a4 ai.1.2.length a5,.slice bv ai.2.length bw])) rfl rfl (fun _ hC=>Wt isAgg47 sizeOf47 rfl rfl (ad.atN.gr (hC.bl (Z1 a9 ba)))) ?_;refine U9 rfl rfl ?_;intro dw hC0;have hC:Zf (Z1 a9 ba) a9 (Z1 a9 ba) dw:=.of_below hC0.below;obtain ⟨cz,dx,hm⟩:=bZ hm;replace b2:=b2.keep (Zp.start col w0);replace ci:=ci.keep (Zp.start col w0);replace aa:=((((aa.grow dt).grow cy).grow cm).kpp cj).grow hC;refine lc rfl rfl (Z7 call208 rfl) (Zd3 N 4 (Z1 a9 ba) _ a4 a5 bv bw ((ai.1.1,ai.1.2),ai.2) (b2.ks aa) (ci.ks aa) cz dx) ?_;rintro _ ar ⟨bb,dy,dz,rfl,bc,b3⟩;refine ⟨_,rfl,?_⟩;refine Zc ⟨fun w'=>Zf (Z1 ar bb) ar (Z1 ar bb) w',fun g=>(Z1 ar bb) g=497,Zf.refl _ _,Uw,fun _=>⟨fun _ h=>Yh hC0 bc h,fun b hb=>bc.below.block b hb,fun g h1 h2=>Sf bc g h1 (by first | exact h2 | (simp only [Z3,h2];rfl) | (simp only [Z3,X7,h2];rfl))⟩,?_⟩;have b4:=Xu.clip (fun _=>false) bb ar;refine U9 rfl rfl ?_;intro d0 hC0;replace ab:=(((ab.kpp cj).gr hC).gr bc).kpp b4
 replace ac:=((ac.gr hC).gr bc).kpp b4;replace ad:=((ad.gr hC).gr bc).kpp b4;have hC:Zf (Z1 ar bb) ar (Z1 ar bb) d0:=.of_below hC0.below;replace b3:=(b3.kpp b4).gr hC;replace b3:=(b3).toSlF (Z2.int .u32);replace ac:=ac.gr hC;replace ac:=ac.froz 4 (by decide);replace ad:=ad.gr hC;replace ad:=ad.froz 4 (by decide);replace ab:=ab.gr hC;replace ab:=ab.froz 4 (by decide);replace aa:=((aa.grow bc).kpp b4).grow hC;replace aa:=aa.froz 4 (by decide) (by decide);obtain ⟨cn,d1,hm⟩:=bZ hm;refine lc rfl rfl (Z7 call207 rfl) (Zi7 (Z3 4 (Z1 ar bb)) _ dy dz cz b3 cn d1) ?_;rintro _ au ⟨bd,d2,d3,rfl,be,co⟩;refine ⟨_,rfl,?_⟩;refine Zc ⟨fun w'=>Zf (Z1 au bd) au (Z1 au bd) w',fun g=>(Z1 au bd) g=497,Zf.refl _ _,Uw,fun _=>⟨fun _ h=>Yh hC0 be h,fun b hb=>be.below.block b hb,fun g h1 h2=>Sf be g h1 (by first | exact h2 | (simp only [Z3,h2];rfl) | (simp only [Z3,X7,h2];rfl))⟩,?_⟩;have b5:=Xu.clip (fun _=>false) bd au;refine U9 rfl rfl ?_;intro d4 hC0;have hC:Zf (Z1 au bd) au (Z1 au bd) d4:=.of_below hC0.below;obtain ⟨b6,d5,hm⟩:=bZ hm;replace b1:=b1.keep (Zp.start col w0);replace aa:=((aa.grow be).kpp b5).grow hC;replace co:=(co.kpp b5).gr hC;refine lc rfl rfl (Xa call206 rfl rfl) (Zi6 N 5 (Z1 au bd) _ a2 a3 (ah.1.1,ah.1.2) d2 d3 (cn.1,cn.2) (b1.ks aa) co b6 d5) ?_;rintro _ ag ⟨aj,c0,c3,rfl,bf,ak⟩;refine ⟨_,rfl,?_⟩;refine Zc ⟨fun w'=>Zf (Z1 ag aj) ag (Z1 ag aj) w',fun g=>(Z1 ag aj) g=497,Zf.refl _ _,Uw,fun _=>⟨fun _ h=>Yh hC0 bf h,fun b hb=>bf.below.block b hb,fun g h1 h2=>Sf bf g h1 (by first | exact h2 | (simp only [Z3,h2];rfl) | (simp only [Z3,X7,h2];rfl))⟩,?_⟩;have b7:=Xu.clip (fun _=>false) aj ag;refine xaF rfl rfl (Zd9 zeroValue45) ?_;intro an d6;refine U9 rfl rfl ?_;intro c4 ⟨hC0,hZ0⟩;replace ac:=((((ac.gr be).kpp b5).gr hC).gr bf).kpp b7;replace ad:=((((ad.gr be).kpp b5).gr hC).gr bf).kpp b7;replace ab:=((((ab.gr be).kpp b5).gr hC).gr bf).kpp b7;have hC:Zf (Z1 ag aj) ag (Z1 ag aj) c4:=.of_below hC0.below;replace ch:=ch.keep (Zp.start col w0);obtain ⟨b8,cp⟩:=Zk8 (col:=(Z1 ag aj)) 6 hZ0 d6;replace cp:Zt 45 6 (Yl an 6 (Z1 ag aj)) c4 an #[.bool false,.slice none (([]:List Int).length) 0]:=cp;refine Ya #[.bool b6.1,.slice c0 b6.2.length c3] cp sizeOf45 ?_;intro ao b9 d7 ap
 refine Zc ⟨fun w'=>Zf (Z1 ao (Yl an 6 (Z1 ag aj))) ao (Z1 ao (Yl an 6 (Z1 ag aj))) w',fun g=>(Z1 ao (Yl an 6 (Z1 ag aj))) g=497,Zf.refl _ _,Uw,fun h=>absurd h (by decide),?_⟩;have bx:=Xu.clip (fun _=>false) (Yl an 6 (Z1 ag aj)) ao;refine Zmt ?_;replace aa:=(((((aa.grow bf).kpp b7).grow hC).kpp b8).kp b9 d7).kpp bx;replace ak:=((((ak.kpp b7).gr hC).kpp b8).kp b9).kpp bx;replace ac:=(((ac.gr hC).kpp b8).kp b9).kpp bx;replace ad:=(((ad.gr hC).kpp b8).kp b9).kpp bx;replace ab:=(((ab.gr hC).kpp b8).kp b9).kpp bx;intro a6 hC;replace hC:Zf (Z1 ao (Yl an 6 (Z1 ag aj))) ao (Z1 ao (Yl an 6 (Z1 ag aj))) a6:=.of_below hC.below;refine Zb ?_;have bz:=Xu.clip (fun _=>false) (Z1 ao (Yl an 6 (Z1 ag aj))) a6;refine Zms (col:=(Z1 ao (Yl an 6 (Z1 ag aj)))) [(0,1),(1,0),(2,0),(3,3),(4,3),(5,3),(6,4),(7,2)] (by kernel_rfl) (by kernel_rfl) ⟨fun h=>absurd h (by decide),fun h=>absurd h (by decide),fun h=>absurd h (by decide),fun h=>absurd h (by decide),fun h=>absurd h (by decide),fun h=>absurd h (by decide),fun _=>⟨_,_,_,rfl,Zd9 zeroValue45⟩,fun h=>absurd h (by decide),trivial⟩<|Zkz (v:=(.pointer ((some (⟨du,0,none⟩:Addr)).map (·.add 0)))) rfl rfl (fun _=>Xn (sz:=2) (off:=0) underlying47 rfl sizeOf45 (by decide) rfl rfl ⟨_,_,rfl⟩) ?_;replace ad:=(ad.gr hC).kpp bz;refine Zby (v:=(.agg #[.bool ai.1.1,.slice a4 ai.1.2.length a5])) rfl rfl (fun _ hC=>Wt isAgg45 sizeOf45 rfl rfl (((ad.atN).part 0 2 _ rfl).gr (hC.bl (Z1 a6 (Z1 ao (Yl an 6 (Z1 ag aj))))))) ?_;replace ac:=(ac.gr hC).kpp bz;refine Zby (v:=(.agg #[.bool ah.1.1,.slice a2 ah.1.2.length a3,.slice bt ah.2.length bu])) rfl rfl (fun _ hC=>Wt isAgg47 sizeOf47 rfl rfl (ac.atN.gr (hC.bl (Z1 a6 (Z1 ao (Yl an 6 (Z1 ag aj))))))) ?_;refine U9 rfl rfl ?_;intro d8 hC0;replace ap:=((ap.kpp bx).gr hC).kpp bz;replace ak:=(ak.gr hC).kpp bz;replace ab:=(ab.gr hC).kpp bz;replace aa:=(aa.grow hC).kpp bz;have hC:Zf (Z1 a6 (Z1 ao (Yl an 6 (Z1 ag aj)))) a6 (Z1 a6 (Z1 ao (Yl an 6 (Z1 ag aj)))) d8:=.of_below hC0.below;obtain ⟨c5,d9,hm⟩:=bZ hm;replace aa:=aa.grow hC;refine lc rfl rfl (Z7 call208 rfl) (Zd3 N 7 (Z1 a6 (Z1 ao (Yl an 6 (Z1 ag aj)))) _ a2 a3 bt bu ((ah.1.1,ah.1.2),ah.2) (b1.ks aa) (ch.ks aa) c5 d9) ?_;rintro _ av ⟨bg,ea,eb,rfl,aw,ca⟩;refine ⟨_,rfl,?_⟩
 refine Zc ⟨fun w'=>Zf (Z1 av bg) av (Z1 av bg) w',fun g=>(Z1 av bg) g=497,Zf.refl _ _,Uw,fun _=>⟨fun _ h=>Yh hC0 aw h,fun b hb=>aw.below.block b hb,fun g h1 h2=>Sf aw g h1 (by first | exact h2 | (simp only [Z3,h2];rfl) | (simp only [Z3,X7,h2];rfl))⟩,?_⟩;have bh:=Xu.clip (fun _=>false) bg av;refine U9 rfl rfl ?_;intro ec hC0;replace ak:=((ak.gr hC).gr aw).kpp bh;replace ac:=((ac.gr hC).gr aw).kpp bh;replace ad:=((ad.gr hC).gr aw).kpp bh;replace ab:=((ab.gr hC).gr aw).kpp bh;replace ap:=((ap.gr hC).gr aw).kpp bh;have hC:Zf (Z1 av bg) av (Z1 av bg) ec:=.of_below hC0.below;replace ak:=ak.gr hC;replace ak:=ak.froz 7 (by decide);replace ca:=(ca.kpp bh).gr hC;replace ca:=(ca).toSlF (Z2.int .u32);replace ac:=ac.gr hC;replace ac:=ac.froz 7 (by decide);replace ad:=ad.gr hC;replace ad:=ad.froz 7 (by decide);replace ab:=ab.gr hC;replace ab:=ab.froz 7 (by decide);replace ap:=ap.gr hC;replace ap:=ap.froz 7 (by decide);replace aa:=((aa.grow aw).kpp bh).grow hC;replace aa:=aa.froz 7 (by decide) (by decide);obtain ⟨cq,ed,hm⟩:=bZ hm;refine lc rfl rfl (Z7 call207 rfl) (Zi7 (Z3 7 (Z1 av bg)) _ ea eb c5 ca cq ed) ?_;rintro _ ax ⟨bi,ee,ef,rfl,ay,cr⟩;refine ⟨_,rfl,?_⟩;refine Zc ⟨fun w'=>Zf (Z1 ax bi) ax (Z1 ax bi) w',fun g=>(Z1 ax bi) g=497,Zf.refl _ _,Uw,fun _=>⟨fun _ h=>Yh hC0 ay h,fun b hb=>ay.below.block b hb,fun g h1 h2=>Sf ay g h1 (by first | exact h2 | (simp only [Z3,h2];rfl) | (simp only [Z3,X7,h2];rfl))⟩,?_⟩;have bj:=Xu.clip (fun _=>false) bi ax;refine U9 rfl rfl ?_;intro eg hC0;have hC:Zf (Z1 ax bi) ax (Z1 ax bi) eg:=.of_below hC0.below;obtain ⟨cb,eh,hm⟩:=bZ hm;replace aa:=((aa.grow ay).kpp bj).grow hC;replace cr:=(cr.kpp bj).gr hC;refine lc rfl rfl (Xa call206 rfl rfl) (Zi6 N 8 (Z1 ax bi) _ a4 a5 (ai.1.1,ai.1.2) ee ef (cq.1,cq.2) (b2.ks aa) cr cb eh) ?_;rintro _ ae ⟨af,c6,c7,rfl,az,bk⟩;refine ⟨_,rfl,?_⟩;refine Zc ⟨fun w'=>Zf (Z1 ae af) ae (Z1 ae af) w',fun g=>(Z1 ae af) g=497,Zf.refl _ _,Uw,fun _=>⟨fun _ h=>Yh hC0 az h,fun b hb=>az.below.block b hb,fun g h1 h2=>Sf az g h1 (by first | exact h2 | (simp only [Z3,h2];rfl) | (simp only [Z3,X7,h2];rfl))⟩,?_⟩;have bm:=Xu.clip (fun _=>false) af ae;refine xaF rfl rfl (Zd9 zeroValue45) ?_;intro al ei;refine U9 rfl rfl ?_;intro c8 ⟨hC0,hZ0⟩;replace ak:=((((ak.gr ay).kpp bj).gr hC).gr az).kpp bm
 replace ac:=((((ac.gr ay).kpp bj).gr hC).gr az).kpp bm;replace ad:=((((ad.gr ay).kpp bj).gr hC).gr az).kpp bm;replace ab:=((((ab.gr ay).kpp bj).gr hC).gr az).kpp bm;replace ap:=((((ap.gr ay).kpp bj).gr hC).gr az).kpp bm;have hC:Zf (Z1 ae af) ae (Z1 ae af) c8:=.of_below hC0.below;obtain ⟨bn,cs⟩:=Zk8 (col:=(Z1 ae af)) 9 hZ0 ei;replace cs:Zt 45 9 (Yl al 9 (Z1 ae af)) c8 al #[.bool false,.slice none (([]:List Int).length) 0]:=cs;refine Ya #[.bool cb.1,.slice c6 cb.2.length c7] cs sizeOf45 ?_;intro am bo ej ct;refine Zc ⟨fun w'=>Zf (Z1 am (Yl al 9 (Z1 ae af))) am (Z1 am (Yl al 9 (Z1 ae af))) w',fun g=>(Z1 am (Yl al 9 (Z1 ae af))) g=497,Zf.refl _ _,Uw,fun h=>absurd h (by decide),?_⟩;have a7:=Xu.clip (fun _=>false) (Yl al 9 (Z1 ae af)) am;refine Zmt ?_;replace aa:=(((((aa.grow az).kpp bm).grow hC).kpp bn).kp bo ej).kpp a7;replace bk:=((((bk.kpp bm).gr hC).kpp bn).kp bo).kpp a7;replace ak:=(((ak.gr hC).kpp bn).kp bo).kpp a7;replace ac:=(((ac.gr hC).kpp bn).kp bo).kpp a7;replace ad:=(((ad.gr hC).kpp bn).kp bo).kpp a7;replace ab:=(((ab.gr hC).kpp bn).kp bo).kpp a7;replace ap:=(((ap.gr hC).kpp bn).kp bo).kpp a7;intro c9 hC;replace hC:Zf (Z1 am (Yl al 9 (Z1 ae af))) am (Z1 am (Yl al 9 (Z1 ae af))) c9:=.of_below hC.below;refine Zb<|Vn (col:=(Z1 am (Yl al 9 (Z1 ae af)))) [(0,0),(1,0),(3,0),(5,0),(2,3),(4,3),(6,3),(7,3),(8,3),(9,2)] (by kernel_rfl) (by kernel_rfl) ?_;replace ap:=ap.gr hC;refine xv rfl rfl (fun _ hC=>Ye isAgg45 sizeOf45 (ap.gr (hC.bl (Z1 am (Yl al 9 (Z1 ae af)))))) ?_;replace ct:=(ct.kpp a7).gr hC;refine xv rfl rfl (fun _ hC=>Ye isAgg45 sizeOf45 (ct.gr (hC.bl (Z1 am (Yl al 9 (Z1 ae af)))))) ?_;replace ac:=ac.gr hC;refine xv rfl rfl (fun _ hC=>Ye isAgg47 sizeOf47 (ac.gr (hC.bl (Z1 am (Yl al 9 (Z1 ae af)))))) ?_;replace ad:=ad.gr hC;refine xv rfl rfl (fun _ hC=>Ye isAgg47 sizeOf47 (ad.gr (hC.bl (Z1 am (Yl al 9 (Z1 ae af)))))) ?_;refine xe rfl rfl ?_;intro da hC0;replace ak:=ak.gr hC;replace bk:=bk.gr hC;replace ab:=ab.gr hC;replace aa:=aa.grow hC;have hC:Zf (Z1 am (Yl al 9 (Z1 ae af))) c9 (Z1 am (Yl al 9 (Z1 ae af))) da:=.of_below hC0.below;obtain ⟨cu,ek,hm⟩:=bZ hm;replace ak:=ak.gr hC;replace bk:=bk.gr hC
 refine lc rfl rfl (Xa call124 rfl rfl) (Znj N 10 (Z3 8 (Z3 5 (Z1 am (Yl al 9 (Z1 ae af))))) _ c0 c3 (b6.1,b6.2) c6 c7 (cb.1,cb.2) ((ak.toSlF (Z2.int .u32)).froz 8) ((bk.froz 5 (by decide)).toSlF (Z2.int .u32)) cu ek) ?_;rintro _ db ⟨el,em,en,rfl,b0,aq⟩;refine ⟨_,rfl,?_⟩;replace aq:=aq.thaw (Xz .u32) b0 (((Fz.refl (col:=(Z1 am (Yl al 9 (Z1 ae af))))).froz 5).froz 8) (by decide);replace b0:=b0.thawR (col:=(Z1 am (Yl al 9 (Z1 ae af))));generalize X1 da.heap.size (Z1 am (Yl al 9 (Z1 ae af))) el=cc at *;refine Zc ⟨fun w'=>Zf cc db cc w',Zf.refl _ _,fun _ _ h=>Yh hC0 b0 h,?_⟩;refine xe rfl rfl ?_;intro eo hC0;replace ab:=(ab.gr hC).gr b0;replace aa:=(aa.grow hC).grow b0;have hC:Zf cc db cc eo:=.of_below hC0.below;obtain ⟨dc,ep,hm⟩:=bZ hm;replace aa:=aa.grow hC;refine lc rfl rfl (Z7 call208 rfl) (Zd3 N 11 cc _ a2 a3 bt bu ((ah.1.1,ah.1.2),ah.2) (b1.ks aa) (ch.ks aa) dc ep) ?_;rintro _ dd ⟨cd,eq,er,rfl,ck,ce⟩;refine ⟨_,rfl,?_⟩;refine Zc ⟨fun w'=>Zf cd dd cd w',Zf.refl _ _,fun _ _ h=>Yh hC0 ck h,?_⟩;refine xe rfl rfl ?_;intro es hC0;replace aq:=(aq.gr hC).gr ck;replace ab:=(ab.gr hC).gr ck;have hC:Zf cd dd cd es:=.of_below hC0.below;obtain ⟨de,et,hm⟩:=bZ hm;replace aa:=(aa.grow ck).grow hC;refine lc rfl rfl (Z7 call208 rfl) (Zd3 N 12 cd _ a4 a5 bv bw ((ai.1.1,ai.1.2),ai.2) (b2.ks aa) (ci.ks aa) de et) ?_;rintro _ df ⟨a8,eu,ev,rfl,cf,cv⟩;refine ⟨_,rfl,?_⟩;refine Zc ⟨fun w'=>Zf a8 df a8 w',Zf.refl _ _,fun _ _ h=>Yh hC0 cf h,?_⟩;refine xe rfl rfl ?_;intro dg hC0;replace aq:=(aq.gr hC).gr cf;replace ce:=(ce.gr hC).gr cf;replace ab:=(ab.gr hC).gr cf;have hC:Zf a8 df a8 dg:=.of_below hC0.below;obtain ⟨dh,ew,hm⟩:=bZ hm;replace ce:=ce.gr hC;replace cv:=cv.gr hC;refine lc rfl rfl (Xa call104 rfl rfl) (Zng N 13 (Z3 12 (Z3 11 a8)) _ eq er dc eu ev de ((ce.toSlF (Z2.int .u32)).froz 12) ((cv.froz 11 (by decide)).toSlF (Z2.int .u32)) dh ew) ?_;rintro _ di ⟨ex,ey,ez,rfl,bp,cg⟩;refine ⟨_,rfl,?_⟩;replace cg:=cg.thaw (Xz .u32) bp (((Fz.refl (col:=a8)).froz 11).froz 12) (by decide);replace bp:=bp.thawR (col:=a8);generalize X1 dg.heap.size a8 ex=a0 at *
 refine Zc ⟨fun w'=>Zf a0 di a0 w',Zf.refl _ _,fun _ _ h=>Yh hC0 bp h,?_⟩;refine xe rfl rfl ?_;intro dj hC0;replace aa:=((aa.grow cf).grow hC).grow bp;replace aq:=(aq.gr hC).gr bp;replace ab:=(ab.gr hC).gr bp;have hC:Zf a0 di a0 dj:=.of_below hC0.below;obtain ⟨cl,e0,hm⟩:=bZ hm;replace aq:=aq.gr hC;replace cg:=cg.gr hC;refine lc rfl rfl (Xa call213 rfl rfl) (Zno N 14 15 (Z3 13 (Z3 10 a0)) _ em en (cu.1,cu.2) ey ez dh ((aq.toSlF (Z2.int .u32)).froz 13) ((cg.froz 10 (by decide)).toSlF (Z2.int .u32)) cl e0) ?_;rintro _ dk ⟨e1,dl,dm,dn,dp,rfl,bq,br,bs⟩;refine ⟨_,rfl,?_⟩;replace br:=br.thaw (Xz .u32) bq (((Fz.refl (col:=a0)).froz 10).froz 13) (by decide);replace bs:=bs.thaw (Xz .u32) bq (((Fz.refl (col:=a0)).froz 10).froz 13) (by decide);replace bq:=bq.thawR (col:=a0);generalize X1 dj.heap.size a0 e1=a1 at *;refine Zc ⟨fun w'=>Zf a1 dk a1 w',Zf.refl _ _,fun _ _ h=>Yh hC0 bq h,?_⟩;refine xe rfl rfl ?_;intro e2 hC0;replace ab:=(ab.gr hC).gr bq;replace aa:=(aa.grow hC).grow bq;have hC:Zf a1 dk a1 e2:=.of_below hC0.below;replace ab:=ab.gr hC;refine Ya #[.bool cl.1.1,.slice dl cl.1.2.length dm,.slice dn cl.2.length dp] ab sizeOf47 ?_;intro dq cw e3 cx;refine Zc ⟨fun w'=>Zf a1 dq a1 w',Zf.refl _ _,fun h=>absurd h (by decide),?_⟩;refine Ve ?_;replace br:=(br.gr hC).kp cw;replace bs:=(bs.gr hC).kp cw;replace aa:=(aa.grow hC).kp cw e3;intro e4 hC;replace hC:Zf a1 dq a1 e4:=.of_below hC.below;refine Zq ?_;cases hm;replace br:=br.gr hC;replace bs:=bs.gr hC;replace cx:=cx.gr hC;replace aa:=aa.grow hC;exact ⟨rfl,_,Wi rfl rfl isAgg47 sizeOf47 rfl rfl cx.atN,Xh w0.heap.size col a1 (fun n=>bif Nat.beq n 14 then c1 else bif Nat.beq n 15 then c2 else 0),dl,dm,dn,dp,rfl,aa.fin (fun n=>bif Nat.beq n 14 then c1 else bif Nat.beq n 15 then c2 else 0),aa.finOwn (g:=(fun n=>bif Nat.beq n 14 then c1 else bif Nat.beq n 15 then c2 else 0)) rfl br (by decide) (by decide) rfl,aa.finOwn (g:=(fun n=>bif Nat.beq n 14 then c1 else bif Nat.beq n 15 then c2 else 0)) rfl bs (by decide) (by decide) rfl⟩
def Zhu (N:Nat) (aa:(Bool×List Int)):Option (Bool×List Int):=
  (Ty N (!aa.1) aa.2).bind fun ab=>some (ab.1,ab.2)
theorem Zu5 (N:Nat) (c1:Nat) (col:Zh) (w0:World) (ac:Option Addr) (ad:Nat) (aa:(Bool×List Int)) (af:Sl (Za.int .u32) col w0 ac ad aa.2) (r:(Bool×List Int)) (hm:Zhu N aa=some r):
    Calls Tryz.prog 224 #[(.agg #[.bool aa.1,.slice ac aa.2.length ad])] w0 (fun e w'=>∃ (col':Zh) (ra1:Option Addr) (rc2:Nat),e= .returned ((.agg #[.bool r.1,.slice ra1 r.2.length rc2]))∧Zf col w0 col' w'∧Zl (Za.int .u32) 79 c1 col' w' ra1 rc2 r.2):=by
 refine Wq (m:=9) (args:=[(.agg #[.bool aa.1,.slice ac aa.2.length ad])]) func224 rfl rfl rfl ?_;rw [Zhu.eq_1] at hm;have ab:=St.start col w0;refine Zb<|Zd<|X3 (col:=(Zo col)) 1 rfl ?_;intro aj ay ap aq ae;refine Yt (col:=ap) #[.bool false,.slice none (([]:List Int).length) 0] 2 zeroValue45 ?_;intro az a0 ar ak ag;refine Zc<|Zb<|Zd<|lF aj 0 underlying45 rfl sizeOf4 ?_;replace ae:=ae.gr ak;refine lV _ (Zn isAgg4 rfl ((ae.atN).nth (q:=0) rfl))<|lV _ (V3 _ rfl)<|Z9 aj 1 underlying45 rfl sizeOf43 isAgg43 ae rfl ?_;obtain ⟨ah,au,hm⟩:=bZ hm;replace af:=af.keep (Zp.start col w0);replace ab:=(ab.grow aq).grow ak;refine lc rfl rfl (Xa call226 rfl rfl) (Zap N 3 ar _ (!aa.1) ac ad aa.2 (af.ks ab) ah au) ?_;rintro _ a1 ⟨av,al,am,rfl,an,ai⟩;refine ⟨_,rfl,?_⟩;replace ag:=ag.gr an;refine Ya #[.bool ah.1,.slice al ah.2.length am] ag sizeOf45 ?_;intro a2 ao aw ax;refine Zc<|Zq ?_;cases hm;replace ab:=(ab.grow an).kp ao aw;replace ai:=ai.kp ao;exact ⟨rfl,_,Wi rfl rfl isAgg45 sizeOf45 rfl rfl ax.atN,Xh w0.heap.size col av (fun n=>bif Nat.beq n 3 then c1 else 0),al,am,rfl,ab.fin (fun n=>bif Nat.beq n 3 then c1 else 0),ab.finOwn (g:=(fun n=>bif Nat.beq n 3 then c1 else 0)) rfl ai (by decide) (by decide) rfl⟩
def Zhv (N:Nat) (aa:(Bool×List Int)) (ab:(Bool×List Int)):Option (Bool×List Int):=
  (Zhu N (ab.1,ab.2)).bind fun ac=>(Zfq N (aa.1,aa.2) (ac.1,ac.2)).bind fun ad=>some (ad.1,ad.2)
theorem Zu6 (N:Nat) (c1:Nat) (col:Zh) (w0:World) (aj:Option Addr) (ak:Nat) (ac:(Bool×List Int)) (al:Option Addr) (am:Nat) (ad:(Bool×List Int)) (an:Sl (Za.int .u32) col w0 aj ak ac.2) (ao:Sl (Za.int .u32) col w0 al am ad.2) (r:(Bool×List Int)) (hm:Zhv N ac ad=some r):
    Calls Tryz.prog 269 #[(.agg #[.bool ac.1,.slice aj ac.2.length ak]),(.agg #[.bool ad.1,.slice al ad.2.length am])] w0 (fun e w'=>∃ (col':Zh) (ra1:Option Addr) (rc2:Nat),e= .returned ((.agg #[.bool r.1,.slice ra1 r.2.length rc2]))∧Zf col w0 col' w'∧Zl (Za.int .u32) 79 c1 col' w' ra1 rc2 r.2):=by
 refine Wq (m:=9) (args:=[(.agg #[.bool ac.1,.slice aj ac.2.length ak]),(.agg #[.bool ad.1,.slice al ad.2.length am])]) func269 rfl rfl rfl ?_;rw [Zhv.eq_1] at hm;have aa:=St.start col w0;refine Zb<|Zd<|X3 (col:=(Zo col)) 1 rfl ?_;intro bk bm a7 a8 ap;refine X3 (col:=a7) 2 rfl ?_;intro bn bo a9 az aq;refine Yt (col:=a9) #[.bool false,.slice none (([]:List Int).length) 0] 3 zeroValue45 ?_;intro bp ba ah ar af;refine Zc<|Zb<|Vn (col:=ah) [(0,0),(1,0),(2,3),(3,3),(4,2)] (by kernel_rfl) (by kernel_rfl) ?_;replace ap:=(ap.gr az).gr ar;refine xv rfl rfl (fun _ hC=>Ye isAgg45 sizeOf45 (ap.gr (hC.bl ah))) ?_;replace aq:=aq.gr ar;refine xv rfl rfl (fun _ hC=>Ye isAgg45 sizeOf45 (aq.gr (hC.bl ah))) ?_;refine xe rfl rfl ?_;intro bb hC0;have hC:Zf ah ba ah bb:=.of_below hC0.below;obtain ⟨au,bc,hm⟩:=bZ hm;replace ao:=ao.keep (Zp.start col w0);replace aa:=(((aa.grow a8).grow az).grow ar).grow hC;refine lc rfl rfl (Z7 call224 rfl) (Zu5 N 4 ah _ al am (ad.1,ad.2) (ao.ks aa) au bc) ?_;rintro _ a0 ⟨ae,bd,be,rfl,av,aw⟩;refine ⟨_,rfl,?_⟩;refine Zc ⟨fun w'=>Zf ae a0 ae w',Zf.refl _ _,fun _ _ h=>Yh hC0 av h,?_⟩;refine xe rfl rfl ?_;intro a1 hC0;replace af:=(af.gr hC).gr av;have hC:Zf ae a0 ae a1:=.of_below hC0.below;obtain ⟨ax,bf,hm⟩:=bZ hm;replace an:=an.keep (Zp.start col w0);replace aa:=(aa.grow av).grow hC;replace aw:=aw.gr hC;refine lc rfl rfl (Xa call124 rfl rfl) (Znj N 5 (Z3 4 ae) _ aj ak (ac.1,ac.2) bd be (au.1,au.2) ((an.ks aa).froz 4) (aw.toSlF (Z2.int .u32)) ax bf) ?_;rintro _ a2 ⟨bg,a3,a4,rfl,ai,ag⟩;refine ⟨_,rfl,?_⟩;replace ag:=ag.thaw (Xz .u32) ai ((Fz.refl (col:=ae)).froz 4) (by decide);replace ai:=ai.thawR (col:=ae);generalize X1 a1.heap.size ae bg=ab at *;refine Zc ⟨fun w'=>Zf ab a2 ab w',Zf.refl _ _,fun _ _ h=>Yh hC0 ai h,?_⟩;refine xe rfl rfl ?_;intro bh hC0;replace af:=(af.gr hC).gr ai;have hC:Zf ab a2 ab bh:=.of_below hC0.below;replace af:=af.gr hC;refine Ya #[.bool ax.1,.slice a3 ax.2.length a4] af sizeOf45 ?_;intro a5 a6 bi ay;refine Zc ⟨fun w'=>Zf ab a5 ab w',Zf.refl _ _,fun h=>absurd h (by decide),?_⟩;refine Ve ?_;replace aa:=((aa.grow ai).grow hC).kp a6 bi;replace ag:=(ag.gr hC).kp a6;intro bj hC;replace hC:Zf ab a5 ab bj:=.of_below hC.below;refine Zq ?_;cases hm
 replace ag:=ag.gr hC;replace ay:=ay.gr hC;replace aa:=aa.grow hC;exact ⟨rfl,_,Wi rfl rfl isAgg45 sizeOf45 rfl rfl ay.atN,Xh w0.heap.size col ab (fun n=>bif Nat.beq n 5 then c1 else 0),a3,a4,rfl,aa.fin (fun n=>bif Nat.beq n 5 then c1 else 0),aa.finOwn (g:=(fun n=>bif Nat.beq n 5 then c1 else 0)) rfl ag (by decide) (by decide) rfl⟩
def Zcw (N:Nat) (aa:(Bool×List Int)):Option Int:=
  (Zfs N (aa.1,aa.2)).bind fun ab=>if (decide ((ab.2.length:Int)=0))=true then (some 0) else (if ab.1=true then (some (-1)) else (some 1))
theorem Zle (N:Nat) (col:Zh) (w0:World) (ac:Option Addr) (ad:Nat) (ab:(Bool×List Int)) (ae:Sl (Za.int .u32) col w0 ac ad ab.2) (r:Int) (hm:Zcw N ab=some r):
    Calls Tryz.prog 204 #[(.agg #[.bool ab.1,.slice ac ab.2.length ad])] w0 (fun e w'=>e= .returned ((.int .i64 r))∧Below w0.heap.size w0 w'):=by
 refine Xv 2 (m:=12) func204 rfl rfl rfl rfl rfl ?_;rw [Zcw.eq_1] at hm;have aa:=St.start col w0;refine Zb<|Zd<|X3 (col:=(Zo col)) 1 rfl ?_;intro aw ax ai aj ak;refine Zj rfl<|Zc<|Zb<|Zd<|lV _ (Ye isAgg45 sizeOf45 ak) ?_;obtain ⟨af,al,hm⟩:=bZ hm;replace ae:=ae.keep (Zp.start col w0);replace aa:=aa.grow aj;refine lc rfl rfl (Z7 call268 rfl) (Znk N 2 ai _ ac ad (ab.1,ab.2) (ae.ks aa) af al) ?_;rintro _ ay ⟨am,an,ao,rfl,ap,az⟩;refine ⟨_,rfl,?_⟩;refine Yt (col:=am) #[.bool false,.slice none (([]:List Int).length) 0] 3 zeroValue45 ?_;intro ag a0 a1 aq ar;refine Ya #[.bool af.1,.slice an af.2.length ao] ar sizeOf45 ?_;intro a2 au av ah;refine Zc<|Zb<|Zb<|Zd<|Z9 ag 1 underlying45 rfl sizeOf43 isAgg43 ah rfl<|lV _ (Zs underlying43 rfl)<|lV _ (Y9 _ _ rfl rfl)<|Zc ?_;replace aa:=((aa.grow ap).grow aq).kp au av;refine Zy _ rfl (fun hb=>?_) (fun hb=>?_)
 ·rw [if_pos hb] at hm;refine Zb<|Zd<|Zj rfl<|Zc<|Zq ?_;cases hm;exact ⟨rfl,rfl,aa.below⟩
 rw [if_neg (Zz hb)] at hm;refine Zr<|Zb<|Zb<|Zd<|Z9 ag 0 underlying45 rfl sizeOf4 isAgg4 ah rfl<|Zc ?_;refine Zy _ rfl (fun hb=>?_) (fun hb=>?_)
 ·rw [if_pos hb] at hm;refine Zb<|Zd<|Zj rfl<|Zc<|Zq ?_;cases hm;exact ⟨rfl,rfl,aa.below⟩
 rw [if_neg (Zz hb)] at hm;refine Zr<|Zb<|Zd<|Zj rfl<|Zc<|Zq ?_;cases hm;exact ⟨rfl,rfl,aa.below⟩
def Zht (N:Nat) (aa:(Bool×List Int)) (ab:(Bool×List Int)):Option Int:=
  (Zhv N (aa.1,aa.2) (ab.1,ab.2)).bind fun ac=>(Zcw N (ac.1,ac.2)).bind fun ad=>some ad
theorem Zu4 (N:Nat) (col:Zh) (w0:World) (ad:Option Addr) (ae:Nat) (ab:(Bool×List Int)) (af:Option Addr) (ag:Nat) (ac:(Bool×List Int)) (ah:Sl (Za.int .u32) col w0 ad ae ab.2) (ai:Sl (Za.int .u32) col w0 af ag ac.2) (r:Int) (hm:Zht N ab ac=some r):
    Calls Tryz.prog 205 #[(.agg #[.bool ab.1,.slice ad ab.2.length ae]),(.agg #[.bool ac.1,.slice af ac.2.length ag])] w0 (fun e w'=>e= .returned ((.int .i64 r))∧Below w0.heap.size w0 w'):=by
 refine Xv 4 (m:=9) func205 rfl rfl rfl rfl rfl ?_;rw [Zht.eq_1] at hm;have aa:=St.start col w0;refine Zb<|Zd<|X3 (col:=(Zo col)) 1 rfl ?_;intro a3 a4 ao ap aj;refine X3 (col:=ao) 2 rfl ?_;intro a5 a6 aq an ar;refine Zj rfl<|Zc<|Zb<|Zd ?_;replace aj:=aj.gr an;refine lV _ (Ye isAgg45 sizeOf45 aj)<|lV _ (Ye isAgg45 sizeOf45 ar) ?_;obtain ⟨ak,au,hm⟩:=bZ hm;replace ah:=ah.keep (Zp.start col w0);replace ai:=ai.keep (Zp.start col w0);replace aa:=(aa.grow ap).grow an;refine lc rfl rfl (Xa call269 rfl rfl) (Zu6 N 3 aq _ ad ae (ab.1,ab.2) af ag (ac.1,ac.2) (ah.ks aa) (ai.ks aa) ak au) ?_;rintro _ av ⟨al,aw,ax,rfl,ay,az⟩;refine ⟨_,rfl,?_⟩;obtain ⟨a0,a1,hm⟩:=bZ hm;refine lc rfl rfl (Z7 call204 rfl) (Zle N (Z3 3 al) _ aw ax (ak.1,ak.2) (az.toSlF (Z2.int .u32)) a0 a1) ?_;rintro _ a2 ⟨rfl,am⟩;refine ⟨_,rfl,?_⟩;replace am:Zf al av al a2:=.of_below am;refine Zj rfl<|Zc<|Zq ?_;cases hm;replace aa:=(aa.grow ay).grow am;exact ⟨rfl,rfl,aa.below⟩
def Zfu (N:Nat) (aa:((Bool×List Int)×List Int)) (ab:((Bool×List Int)×List Int)):Option Int:=
  (Qh N ((ab.1.1,ab.1.2),ab.2)).bind fun ag=>(Qi ag).bind fun ac=>(Zbd N (aa.1.1,aa.1.2) (ac.1,ac.2)).bind fun ad=>(Qh N ((aa.1.1,aa.1.2),aa.2)).bind fun ah=>(Qi ah).bind fun ae=>(Zbd N (ab.1.1,ab.1.2) (ae.1,ae.2)).bind fun af=>(Zht N (ad.1,ad.2) (af.1,af.2)).bind fun ai=>some ai
theorem Znm (N:Nat) (col:Zh) (w0:World) (ag:Option Addr) (ah:Nat) (ax:Option Addr) (ay:Nat) (ab:((Bool×List Int)×List Int)) (ai:Option Addr) (aj:Nat) (az:Option Addr) (a0:Nat) (ac:((Bool×List Int)×List Int)) (ar:Sl (Za.int .u32) col w0 ag ah ab.1.2) (a1:Sl (Za.int .u32) col w0 ax ay ab.2) (au:Sl (Za.int .u32) col w0 ai aj ac.1.2) (a2:Sl (Za.int .u32) col w0 az a0 ac.2) (r:Int) (hm:Zfu N ab ac=some r):
    Calls Tryz.prog 94 #[(.agg #[.bool ab.1.1,.slice ag ab.1.2.length ah,.slice ax ab.2.length ay]),(.agg #[.bool ac.1.1,.slice ai ac.1.2.length aj,.slice az ac.2.length a0])] w0 (fun e w'=>e= .returned ((.int .i64 r))∧Below w0.heap.size w0 w'):=by
 refine Xv 4 (m:=18) func94 rfl rfl rfl rfl rfl ?_;rw [Zfu.eq_1] at hm;have aa:=St.start col w0;refine Zb<|Zd<|X3 (col:=(Zo col)) 1 rfl ?_;intro bt cq bu bv av;refine X3 (col:=bu) 2 rfl ?_;intro bw bx af be bf;refine Zj rfl<|Zc<|Zb<|Vn (col:=af) [(0,1),(1,0),(2,0),(6,1),(7,0),(8,0),(3,3),(4,3),(5,3),(9,3),(10,3),(11,3),(12,3),(13,1)] (by kernel_rfl) (by kernel_rfl)<|xu (v:=(.pointer ((some (⟨bt,0,none⟩:Addr)).map (·.add 0)))) rfl rfl (fun _=>Xn (sz:=2) (off:=0) underlying47 rfl sizeOf45 (by decide) rfl rfl ⟨_,_,rfl⟩) ?_;replace av:=av.gr be;refine xv (v:=(.agg #[.bool ab.1.1,.slice ag ab.1.2.length ah])) rfl rfl (fun _ hC=>Wt isAgg45 sizeOf45 rfl rfl (((av.atN).part 0 2 _ rfl).gr (hC.bl af))) ?_;refine xv rfl rfl (fun _ hC=>Ye isAgg47 sizeOf47 (bf.gr (hC.bl af))) ?_;refine xu (v:=(.pointer ((some (⟨bw,0,none⟩:Addr)).map (·.add 0)))) rfl rfl (fun _=>Xn (sz:=2) (off:=0) underlying47 rfl sizeOf45 (by decide) rfl rfl ⟨_,_,rfl⟩) ?_;refine xv (v:=(.agg #[.bool ac.1.1,.slice ai ac.1.2.length aj])) rfl rfl (fun _ hC=>Wt isAgg45 sizeOf45 rfl rfl (((bf.atN).part 0 2 _ rfl).gr (hC.bl af))) ?_;refine xv rfl rfl (fun _ hC=>Ye isAgg47 sizeOf47 (av.gr (hC.bl af))) ?_;refine xe rfl rfl ?_;intro bz hC0;have hC:Zf af bx af bz:=.of_below hC0.below;obtain ⟨bg,b0,hm⟩:=bZ hm;replace au:=au.keep (Zp.start col w0);replace a2:=a2.keep (Zp.start col w0);replace aa:=((aa.grow bv).grow be).grow hC;refine lc rfl rfl (Z7 call208 rfl) (Zd3 N 3 af _ ai aj az a0 ((ac.1.1,ac.1.2),ac.2) (au.ks aa) (a2.ks aa) bg b0) ?_;rintro _ bh ⟨ak,b1,b2,rfl,bi,al⟩;refine ⟨_,rfl,?_⟩;refine Zc ⟨fun w'=>Zf ak bh ak w',Zf.refl _ _,fun _ _ h=>Yh hC0 bi h,?_⟩;refine xe rfl rfl ?_;intro b3 hC0;have hC:Zf ak bh ak b3:=.of_below hC0.below;replace al:=al.gr hC;replace al:=(al).toSlF (Z2.int .u32);replace aa:=(aa.grow bi).grow hC;replace aa:=aa.froz 3 (by decide) (by decide);obtain ⟨a3,b4,hm⟩:=bZ hm;refine lc rfl rfl (Z7 call207 rfl) (Zi7 (Z3 3 ak) _ b1 b2 bg al a3 b4) ?_;rintro _ bj ⟨am,b5,b6,rfl,bk,a4⟩;refine ⟨_,rfl,?_⟩;refine Zc ⟨fun w'=>Zf am bj am w',Zf.refl _ _,fun _ _ h=>Yh hC0 bk h,?_⟩;refine xe rfl rfl ?_;intro b7 hC0;have hC:Zf am bj am b7:=.of_below hC0.below;obtain ⟨a5,b8,hm⟩:=bZ hm;replace ar:=ar.keep (Zp.start col w0);replace aa:=(aa.grow bk).grow hC;replace a4:=a4.gr hC
 refine lc rfl rfl (Xa call206 rfl rfl) (Zi6 N 4 am _ ag ah (ab.1.1,ab.1.2) b5 b6 (a3.1,a3.2) (ar.ks aa) a4 a5 b8) ?_;rintro _ bm ⟨an,b9,ca,rfl,bn,ad⟩;refine ⟨_,rfl,?_⟩;refine Zc ⟨fun w'=>Zf an bm an w',Zf.refl _ _,fun _ _ h=>Yh hC0 bn h,?_⟩;refine xe rfl rfl ?_;intro cb hC0;have hC:Zf an bm an cb:=.of_below hC0.below;obtain ⟨bo,cc,hm⟩:=bZ hm;replace a1:=a1.keep (Zp.start col w0);replace aa:=(aa.grow bn).grow hC;refine lc rfl rfl (Z7 call208 rfl) (Zd3 N 5 an _ ag ah ax ay ((ab.1.1,ab.1.2),ab.2) (ar.ks aa) (a1.ks aa) bo cc) ?_;rintro _ bp ⟨ao,cd,ce,rfl,a6,ap⟩;refine ⟨_,rfl,?_⟩;refine Zc ⟨fun w'=>Zf ao bp ao w',Zf.refl _ _,fun _ _ h=>Yh hC0 a6 h,?_⟩;refine xe rfl rfl ?_;intro cf hC0;replace ad:=(ad.gr hC).gr a6;have hC:Zf ao bp ao cf:=.of_below hC0.below;replace ad:=ad.gr hC;replace ad:=ad.froz 5 (by decide);replace ap:=ap.gr hC;replace ap:=(ap).toSlF (Z2.int .u32);replace aa:=(aa.grow a6).grow hC;replace aa:=aa.froz 5 (by decide) (by decide);obtain ⟨a7,cg,hm⟩:=bZ hm;refine lc rfl rfl (Z7 call207 rfl) (Zi7 (Z3 5 ao) _ cd ce bo ap a7 cg) ?_;rintro _ bq ⟨aq,ch,ci,rfl,a8,a9⟩;refine ⟨_,rfl,?_⟩;refine Zc ⟨fun w'=>Zf aq bq aq w',Zf.refl _ _,fun _ _ h=>Yh hC0 a8 h,?_⟩;refine xe rfl rfl ?_;intro cj hC0;have hC:Zf aq bq aq cj:=.of_below hC0.below;obtain ⟨ba,ck,hm⟩:=bZ hm;replace aa:=(aa.grow a8).grow hC;replace a9:=a9.gr hC;refine lc rfl rfl (Xa call206 rfl rfl) (Zi6 N 6 aq _ ai aj (ac.1.1,ac.1.2) ch ci (a7.1,a7.2) (au.ks aa) a9 ba ck) ?_;rintro _ br ⟨ae,cl,cm,rfl,bb,bc⟩;refine ⟨_,rfl,?_⟩;refine Zc ⟨fun w'=>Zf ae br ae w',Zf.refl _ _,fun _ _ h=>Yh hC0 bb h,?_⟩;refine xe rfl rfl ?_;intro bs hC0;replace ad:=((ad.gr a8).gr hC).gr bb;have hC:Zf ae br ae bs:=.of_below hC0.below;obtain ⟨cn,co,hm⟩:=bZ hm;replace ad:=ad.gr hC;replace bc:=bc.gr hC;refine lc rfl rfl (Xa call205 rfl rfl) (Zu4 N (Z3 6 (Z3 4 ae)) _ b9 ca (a5.1,a5.2) cl cm (ba.1,ba.2) ((ad.toSlF (Z2.int .u32)).froz 6) ((bc.froz 4 (by decide)).toSlF (Z2.int .u32)) cn co) ?_;rintro _ bd ⟨rfl,aw⟩;refine ⟨_,rfl,?_⟩;replace aw:Zf ae bs ae bd:=.of_below aw;refine Zc ⟨fun w'=>Zf ae bd ae w',Zf.refl _ _,fun _ _ h=>Yh hC0 aw h,?_⟩;refine xu rfl rfl (fun _=>Zah rfl) ?_;refine Ve ?_
 replace aa:=((aa.grow bb).grow hC).grow aw;intro cp hC;replace hC:Zf ae bd ae cp:=.of_below hC.below;refine Zq ?_;cases hm;replace aa:=aa.grow hC;exact ⟨rfl,rfl,aa.below⟩
theorem Zwj:Y2 Tryz.prog 79 1 4:=⟨Tryz.t79,_,rfl,rfl,rfl,rfl,rfl⟩
def Zft (N:Nat) (aa:Int):Option (Bool×List Int):=
  if (decide (0≤aa))=true then ((Zfm N (u64.wrap aa)).bind fun ad=>(Ty N false ad).bind fun ab=>some (ab.1,ab.2)) else ((Zfm N (u64.wrap (i64.wrap (-(i64.wrap (aa+1)))))).bind fun ae=>(Zff N ae [1]).bind fun af=>(Ty N true af).bind fun ac=>some (ac.1,ac.2))
theorem Znl (N:Nat) (c1:Nat) (col:Zh) (w0:World) (aa:Int) (r:(Bool×List Int)) (hm:Zft N aa=some r):
    Calls Tryz.prog 125 #[.int .i64 aa] w0 (fun e w'=>∃ (col':Zh) (ra1:Option Addr) (rc2:Nat),e= .returned ((.agg #[.bool r.1,.slice ra1 r.2.length rc2]))∧Zf col w0 col' w'∧Zl (Za.int .u32) 79 c1 col' w' ra1 rc2 r.2):=by
 refine Wq (m:=17) (args:=[.int .i64 aa]) func125 rfl rfl rfl ?_;rw [Zft.eq_1] at hm;have ab:=St.start col w0;refine Zb<|Zd<|Yt (col:=(Zo col)) #[.bool false,.slice none (([]:List Int).length) 0] 1 zeroValue45 ?_;intro bw bx aq a4 ac;refine Zc<|Zb<|Zb<|Zd<|Zg rfl<|lV _ (Uq _ _ rfl rfl)<|Zc ?_;replace ab:=ab.grow a4;refine Zy _ rfl (fun hb=>?_) (fun hb=>?_)
 ·rw [if_pos hb] at hm;refine Zb<|Zd<|Zg rfl<|lV (.int .u64 (u64.wrap aa)) (Xx aa ⟨_,underlying3⟩ underlying193 rfl) ?_;obtain ⟨ar,a5,hm⟩:=bZ hm;refine lc rfl rfl (Z7 call229 rfl) (Znh N 2 aq _ (u64.wrap aa) ar a5) ?_;rintro _ a6 ⟨ai,a7,a8,rfl,au,a9⟩;refine ⟨_,rfl,?_⟩;obtain ⟨al,ba,hm⟩:=bZ hm;refine lc rfl rfl (Xa call226 rfl rfl) (Zap N 3 (Z3 2 ai) _ false a7 a8 ar (a9.toSlF (Z2.int .u32)) al ba) ?_;rintro _ bz ⟨bb,av,aw,rfl,ad,ae⟩;refine ⟨_,rfl,?_⟩;replace ae:=ae.thaw (Xz .u32) ad ((Fz.refl (col:=ai)).froz 2) (by decide);replace ad:=ad.thawR (col:=ai);generalize X1 a6.heap.size ai bb=bc at *;replace ac:=(ac.gr au).gr ad;refine Ya #[.bool al.1,.slice av al.2.length aw] ac sizeOf45 ?_;intro b0 ax bd be;refine Zc<|Zq ?_;cases hm;replace ab:=((ab.grow au).grow ad).kp ax bd;replace ae:=ae.kp ax;exact ⟨rfl,_,Wi rfl rfl isAgg45 sizeOf45 rfl rfl be.atN,Xh w0.heap.size col bc (fun n=>bif Nat.beq n 3 then c1 else 0),av,aw,rfl,ab.fin (fun n=>bif Nat.beq n 3 then c1 else 0),ab.finOwn (g:=(fun n=>bif Nat.beq n 3 then c1 else 0)) rfl ae (by decide) (by decide) rfl⟩
 rw [if_neg (Zz hb)] at hm;refine Zr<|Zb<|Zd<|Zg rfl<|lV _ (Z5 _ _ rfl rfl)<|lV (.int .i64 (i64.wrap (-(i64.wrap (aa+1))))) (Zrz (i64.wrap (aa+1)) rfl)<|lV (.int .u64 (u64.wrap (i64.wrap (-(i64.wrap (aa+1)))))) (Xx (i64.wrap (-(i64.wrap (aa+1)))) ⟨_,underlying3⟩ underlying193 rfl) ?_;obtain ⟨ay,bf,hm⟩:=bZ hm;refine lc rfl rfl (Z7 call229 rfl) (Znh N 4 aq _ (u64.wrap (i64.wrap (-(i64.wrap (aa+1))))) ay bf) ?_;rintro _ b1 ⟨bg,bh,bi,rfl,az,am⟩;refine ⟨_,rfl,?_⟩;refine Wk (col:=bg) (r:=(Za.int .u32)) (xs:=[1]) [.int .u32 1] 5 rfl underlying43 Zwj rfl rfl rfl rfl rfl rfl (by intro v hv;simp only [List.mem_cons,List.not_mem_nil,or_false] at hv;subst hv;rfl) (Y6.ofF (Rows.consF (r:=(Za.int .u32)) (x:=1) (cs:=[.int .u32 1]) (X8 .u32 1) Rows.nil0)) ?_;intro bj bk aj an bl;obtain ⟨a0,bm,hm⟩:=bZ hm;replace am:=am.gr an;refine lc rfl rfl (Xa call227 rfl rfl) (Zne N 6 (Z3 5 (Z3 4 aj)) _ bh bi ay bj 1 [1] ((am.toSlF (Z2.int .u32)).froz 5) ((bl.froz 4 (by decide)).toSlF (Z2.int .u32)) a0 bm) ?_;rintro _ bn ⟨bo,bp,bq,rfl,af,ao⟩;refine ⟨_,rfl,?_⟩;replace ao:=ao.thaw (Xz .u32) af (((Fz.refl (col:=aj)).froz 4).froz 5) (by decide);replace af:=af.thawR (col:=aj);generalize X1 bk.heap.size aj bo=ak at *;obtain ⟨ap,br,hm⟩:=bZ hm;refine lc rfl rfl (Xa call226 rfl rfl) (Zap N 7 (Z3 6 ak) _ true bp bq a0 (ao.toSlF (Z2.int .u32)) ap br) ?_;rintro _ b2 ⟨bs,a1,a2,rfl,ag,ah⟩;refine ⟨_,rfl,?_⟩;replace ah:=ah.thaw (Xz .u32) ag ((Fz.refl (col:=ak)).froz 6) (by decide);replace ag:=ag.thawR (col:=ak);generalize X1 bn.heap.size ak bs=bt at *;replace ac:=(((ac.gr az).gr an).gr af).gr ag;refine Ya #[.bool ap.1,.slice a1 ap.2.length a2] ac sizeOf45 ?_;intro b3 a3 bu bv;refine Zc<|Zq ?_;cases hm;replace ab:=((((ab.grow az).grow an).grow af).grow ag).kp a3 bu;replace ah:=ah.kp a3;exact ⟨rfl,_,Wi rfl rfl isAgg45 sizeOf45 rfl rfl bv.atN,Xh w0.heap.size col bt (fun n=>bif Nat.beq n 7 then c1 else 0),a1,a2,rfl,ab.fin (fun n=>bif Nat.beq n 7 then c1 else 0),ab.finOwn (g:=(fun n=>bif Nat.beq n 7 then c1 else 0)) rfl ah (by decide) (by decide) rfl⟩
def Zjt (N:Nat) (ac:(Bool×List Int)) (aa:(Bool×List Int)):Option (((Bool×List Int)×List Int)×Int):=
  (Zcw N (aa.1,aa.2)).bind fun ad=>if (decide (ad=0))=true then (some (((false,([]:List Int)),([]:List Int)),11)) else ((Zfw N (!decide (ac.1=aa.1),ac.2) aa.2).bind fun ab=>some (((ab.1.1,ab.1.2),ab.2),0))
theorem Zu8 (N:Nat) (c1:Nat) (c2:Nat) (col:Zh) (w0:World) (ag:Option Addr) (ah:Nat) (ac:(Bool×List Int)) (ai:Option Addr) (aj:Nat) (ab:(Bool×List Int)) (ao:Sl (Za.int .u32) col w0 ag ah ac.2) (al:Sl (Za.int .u32) col w0 ai aj ab.2) (r:(((Bool×List Int)×List Int)×Int)) (hm:Zjt N ac ab=some r):
    Calls Tryz.prog 222 #[(.agg #[.bool ac.1,.slice ag ac.2.length ah]),(.agg #[.bool ab.1,.slice ai ab.2.length aj])] w0 (fun e w'=>∃ (col':Zh) (ra1:Option Addr) (rc2:Nat) (ra4:Option Addr) (rc5:Nat),e= .returned (.tuple #[(.agg #[.bool r.1.1.1,.slice ra1 r.1.1.2.length rc2,.slice ra4 r.1.2.length rc5]),.int .i64 r.2])∧Zf col w0 col' w'∧Zl (Za.int .u32) 79 c1 col' w' ra1 rc2 r.1.1.2∧Zl (Za.int .u32) 79 c2 col' w' ra4 rc5 r.1.2):=by
 refine Wq (m:=21) (args:=[(.agg #[.bool ac.1,.slice ag ac.2.length ah]),(.agg #[.bool ab.1,.slice ai ab.2.length aj])]) func222 rfl rfl rfl ?_;rw [Zjt.eq_1] at hm;have aa:=St.start col w0;refine Zb<|Zd<|X3 (col:=(Zo col)) 1 rfl ?_;intro av bh a3 a4 am;refine X3 (col:=a3) 2 rfl ?_;intro aw bi a5 ax ad;refine Yt (col:=a5) #[.bool false,.slice none (([]:List Int).length) 0,.slice none (([]:List Int).length) 0] 3 zeroValue47 ?_;intro bj a6 ak ap ae;refine Zj rfl<|Zc<|Zb<|Zb<|Zd ?_;replace ad:=ad.gr ap;refine lV _ (Ye isAgg45 sizeOf45 ad) ?_;obtain ⟨a7,a8,hm⟩:=bZ hm;replace al:=al.keep (Zp.start col w0);replace aa:=((aa.grow a4).grow ax).grow ap;refine lc rfl rfl (Z7 call204 rfl) (Zle N ak _ ai aj (ab.1,ab.2) (al.ks aa) a7 a8) ?_;rintro _ a9 ⟨rfl,af⟩;refine ⟨_,rfl,?_⟩;replace af:Zf ak a6 ak a9:=.of_below af;refine lV _ (Y9 _ _ rfl rfl)<|Zc ?_;replace ao:=ao.keep (Zp.start col w0);replace am:=((am.gr ax).gr ap).gr af;replace ad:=ad.gr af;replace ae:=ae.gr af;replace aa:=aa.grow af;refine Zy _ rfl (fun hb=>?_) (fun hb=>?_)
 ·rw [if_pos hb] at hm;refine Zb<|Zd<|lV (.agg #[.bool false,.slice none (([]:List Int).length) 0,.slice none (([]:List Int).length) 0]) (Vi (l:=[_,_]) (qs:=[(0,2),(2,1)]) underlying47 zeroValue47 ⟨rfl,sizeOf45,rfl,sizeOf43,trivial⟩ rfl)<|Ya #[.bool false,.slice none (([]:List Int).length) 0,.slice none (([]:List Int).length) 0] ae sizeOf47 ?_;intro bk ba bb bc;refine Zj rfl<|Zc<|Zq ?_;cases hm;replace aa:=aa.kp ba bb;exact ⟨rfl,_,Zgl rfl rfl isAgg47 sizeOf47 rfl rfl bc.atN rfl rfl,Xh w0.heap.size col ak (fun n=>0),none,0,none,0,rfl,aa.fin (fun n=>0),Zl.nil,Zl.nil⟩
 rw [if_neg (Zz hb)] at hm;refine Zr<|Zb<|Zd<|Z9 av 0 underlying45 rfl sizeOf4 isAgg4 am rfl<|Z9 aw 0 underlying45 rfl sizeOf4 isAgg4 ad rfl<|lV _ (Zif _ _ underlying4 rfl rfl)<|Z9 av 1 underlying45 rfl sizeOf43 isAgg43 am rfl<|lV (.agg #[.bool (!decide (ac.1=ab.1)),.slice ag ac.2.length ah]) (Vi (l:=[_,_]) (qs:=[(0,1),(1,1)]) underlying45 zeroValue45 ⟨rfl,sizeOf4,rfl,sizeOf43,trivial⟩ rfl)<|Z9 aw 1 underlying45 rfl sizeOf43 isAgg43 ad rfl ?_;obtain ⟨an,bd,hm⟩:=bZ hm;refine lc rfl rfl (Xa call213 rfl rfl) (Zno N 4 5 ak _ ag ah (!decide (ac.1=ab.1),ac.2) ai aj ab.2 (ao.ks aa) (al.ks aa) an bd) ?_;rintro _ bl ⟨be,ay,az,a0,a1,rfl,a2,aq,ar⟩;refine ⟨_,rfl,?_⟩;replace ae:=ae.gr a2;refine Ya #[.bool an.1.1,.slice ay an.1.2.length az,.slice a0 an.2.length a1] ae sizeOf47 ?_;intro bm au bf bg;refine Zj rfl<|Zc<|Zq ?_;cases hm;replace aa:=(aa.grow a2).kp au bf;replace aq:=aq.kp au;replace ar:=ar.kp au;exact ⟨rfl,_,Zgl rfl rfl isAgg47 sizeOf47 rfl rfl bg.atN rfl rfl,Xh w0.heap.size col be (fun n=>bif Nat.beq n 4 then c1 else bif Nat.beq n 5 then c2 else 0),ay,az,a0,a1,rfl,aa.fin (fun n=>bif Nat.beq n 4 then c1 else bif Nat.beq n 5 then c2 else 0),aa.finOwn (g:=(fun n=>bif Nat.beq n 4 then c1 else bif Nat.beq n 5 then c2 else 0)) rfl aq (by decide) (by decide) rfl,aa.finOwn (g:=(fun n=>bif Nat.beq n 4 then c1 else bif Nat.beq n 5 then c2 else 0)) rfl ar (by decide) (by decide) rfl⟩
def Zju (N:Nat) (ad:Int) (ae:Int):Option (((Bool×List Int)×List Int)×Int):=
  (Zft N ad).bind fun ab=>(Zft N ae).bind fun ac=>(Zjt N (ab.1,ab.2) (ac.1,ac.2)).bind fun aa=>some (((aa.1.1.1,aa.1.1.2),aa.1.2),aa.2)
theorem Zu9 (N:Nat) (c1:Nat) (c2:Nat) (col:Zh) (w0:World) (ag:Int) (ah:Int) (r:(((Bool×List Int)×List Int)×Int)) (hm:Zju N ag ah=some r):
    Calls Tryz.prog 209 #[.int .i64 ag,.int .i64 ah] w0 (fun e w'=>∃ (col':Zh) (ra1:Option Addr) (rc2:Nat) (ra4:Option Addr) (rc5:Nat),e= .returned (.tuple #[(.agg #[.bool r.1.1.1,.slice ra1 r.1.1.2.length rc2,.slice ra4 r.1.2.length rc5]),.int .i64 r.2])∧Zf col w0 col' w'∧Zl (Za.int .u32) 79 c1 col' w' ra1 rc2 r.1.1.2∧Zl (Za.int .u32) 79 c2 col' w' ra4 rc5 r.1.2):=by
 refine Wq (m:=13) (args:=[.int .i64 ag,.int .i64 ah]) func209 rfl rfl rfl ?_;rw [Zju.eq_1] at hm;have ac:=St.start col w0;refine Zb<|Zd<|Yt (col:=(Zo col)) #[.bool false,.slice none (([]:List Int).length) 0,.slice none (([]:List Int).length) 0] 1 zeroValue47 ?_;intro bb bc av aw ai;refine Zj rfl<|Zc<|Zb<|Zd<|Zg rfl ?_;obtain ⟨aj,ax,hm⟩:=bZ hm;refine lc rfl rfl (Z7 call125 rfl) (Znl N 2 av _ ag aj ax) ?_;rintro _ bd ⟨ay,az,a0,rfl,au,ak⟩;refine ⟨_,rfl,?_⟩;refine Zg rfl ?_;obtain ⟨al,a1,hm⟩:=bZ hm;refine lc rfl rfl (Z7 call125 rfl) (Znl N 3 ay _ ah al a1) ?_;rintro _ a2 ⟨ad,a3,a4,rfl,am,a5⟩;refine ⟨_,rfl,?_⟩;obtain ⟨aa,a6,hm⟩:=bZ hm;replace ak:=ak.gr am;refine lc rfl rfl (Xa call222 rfl rfl) (Zu8 N 4 5 (Z3 3 (Z3 2 ad)) _ az a0 (aj.1,aj.2) a3 a4 (al.1,al.2) ((ak.toSlF (Z2.int .u32)).froz 3) ((a5.froz 2 (by decide)).toSlF (Z2.int .u32)) aa a6) ?_;rintro _ be ⟨a7,an,ao,ap,aq,rfl,ab,ae,af⟩;refine ⟨_,rfl,?_⟩;replace ae:=ae.thaw (Xz .u32) ab (((Fz.refl (col:=ad)).froz 2).froz 3) (by decide);replace af:=af.thaw (Xz .u32) ab (((Fz.refl (col:=ad)).froz 2).froz 3) (by decide);replace ab:=ab.thawR (col:=ad);generalize X1 a2.heap.size ad a7=a8 at *;refine lV (.agg #[.bool aa.1.1.1,.slice an aa.1.1.2.length ao,.slice ap aa.1.2.length aq]) (Y4 rfl rfl)<|lV (.int .i64 aa.2) (Y4 rfl rfl) ?_;replace ai:=((ai.gr au).gr am).gr ab;refine Ya #[.bool aa.1.1.1,.slice an aa.1.1.2.length ao,.slice ap aa.1.2.length aq] ai sizeOf47 ?_;intro bf ar a9 ba;refine Zj rfl<|Zc<|Zq ?_;cases hm;replace ac:=((((ac.grow aw).grow au).grow am).grow ab).kp ar a9;replace ae:=ae.kp ar;replace af:=af.kp ar;exact ⟨rfl,_,Zgl rfl rfl isAgg47 sizeOf47 rfl rfl ba.atN rfl rfl,Xh w0.heap.size col a8 (fun n=>bif Nat.beq n 4 then c1 else bif Nat.beq n 5 then c2 else 0),an,ao,ap,aq,rfl,ac.fin (fun n=>bif Nat.beq n 4 then c1 else bif Nat.beq n 5 then c2 else 0),ac.finOwn (g:=(fun n=>bif Nat.beq n 4 then c1 else bif Nat.beq n 5 then c2 else 0)) rfl ae (by decide) (by decide) rfl,ac.finOwn (g:=(fun n=>bif Nat.beq n 4 then c1 else bif Nat.beq n 5 then c2 else 0)) rfl af (by decide) (by decide) rfl⟩
def Zbe (N:Nat) (ab:Int) (ac:Int):Option ((Bool×List Int)×List Int):=
  (Zju N ab ac).bind fun aa=>some ((aa.1.1.1,aa.1.1.2),aa.1.2)
theorem Znn (N:Nat) (c1:Nat) (c2:Nat) (col:Zh) (w0:World) (ag:Int) (ah:Int) (r:((Bool×List Int)×List Int)) (hm:Zbe N ag ah=some r):
    Calls Tryz.prog 95 #[.int .i64 ag,.int .i64 ah] w0 (fun e w'=>∃ (col':Zh) (ra1:Option Addr) (rc2:Nat) (ra4:Option Addr) (rc5:Nat),e= .returned ((.agg #[.bool r.1.1,.slice ra1 r.1.2.length rc2,.slice ra4 r.2.length rc5]))∧Zf col w0 col' w'∧Zl (Za.int .u32) 79 c1 col' w' ra1 rc2 r.1.2∧Zl (Za.int .u32) 79 c2 col' w' ra4 rc5 r.2):=by
 refine Wq (m:=14) (args:=[.int .i64 ag,.int .i64 ah]) func95 rfl rfl rfl ?_;rw [Zbe.eq_1] at hm;have ab:=St.start col w0;refine Zb<|Zd<|Yt (col:=(Zo col)) #[.bool false,.slice none (([]:List Int).length) 0,.slice none (([]:List Int).length) 0] 1 zeroValue47 ?_;intro a1 a2 ap aq ak;refine Zc<|Zb<|Zd<|Zg rfl<|Zg rfl ?_;obtain ⟨aa,ar,hm⟩:=bZ hm;refine lc rfl rfl (Xa call209 rfl rfl) (Zu9 N 2 3 ap _ ag ah aa ar) ?_;rintro _ a3 ⟨au,ac,ad,ae,af,rfl,ao,al,am⟩;refine ⟨_,rfl,?_⟩;refine lM (.tuple #[(.agg #[.bool aa.1.1.1,.slice ac aa.1.1.2.length ad,.slice ae aa.1.2.length af]),.int .i64 aa.2])<|lV (.agg #[.bool aa.1.1.1,.slice ac aa.1.1.2.length ad,.slice ae aa.1.2.length af]) (Y4 rfl rfl)<|lV (.int .i64 aa.2) (Y4 rfl rfl)<|Yt (col:=au) #[.bool false,.slice none (([]:List Int).length) 0,.slice none (([]:List Int).length) 0] 4 zeroValue47 ?_;intro a4 a5 av ai aw;refine Ya #[.bool aa.1.1.1,.slice ac aa.1.1.2.length ad,.slice ae aa.1.2.length af] aw sizeOf47 ?_;intro a6 aj ax ay;refine Zj rfl<|Zc<|Zb<|Zd<|lV _ (Ye isAgg47 sizeOf47 ay) ?_;replace ak:=((ak.gr ao).gr ai).kp aj;refine Ya #[.bool aa.1.1.1,.slice ac aa.1.1.2.length ad,.slice ae aa.1.2.length af] ak sizeOf47 ?_;intro a7 an az a0;refine Zc<|Zq ?_;cases hm;replace ab:=((((ab.grow aq).grow ao).grow ai).kp aj ax).kp an az;replace al:=((al.gr ai).kp aj).kp an;replace am:=((am.gr ai).kp aj).kp an;exact ⟨rfl,_,Wi rfl rfl isAgg47 sizeOf47 rfl rfl a0.atN,Xh w0.heap.size col av (fun n=>bif Nat.beq n 2 then c1 else bif Nat.beq n 3 then c2 else 0),ac,ad,ae,af,rfl,ab.fin (fun n=>bif Nat.beq n 2 then c1 else bif Nat.beq n 3 then c2 else 0),ab.finOwn (g:=(fun n=>bif Nat.beq n 2 then c1 else bif Nat.beq n 3 then c2 else 0)) rfl al (by decide) (by decide) rfl,ab.finOwn (g:=(fun n=>bif Nat.beq n 2 then c1 else bif Nat.beq n 3 then c2 else 0)) rfl am (by decide) (by decide) rfl⟩
def Zcx (N:Nat) (aa:(List ((Bool×List Int)×List Int))):Nat→Bool→(List Int)→(List Int)→Int→Option ((Bool×List Int)×List Int)
  | 0,_,_,_,_=>none
  | ah+1,ae,af,ag,ab=>if (decide (ab<(aa.length:Int)))=true then ((Zv aa ab).bind fun ac=>(Zhw N ((ae,af),ag) ((ac.1.1,ac.1.2),ac.2)).bind fun ad=>(Zcx N aa ah) ad.1.1 ad.1.2 ad.2 (i64.wrap (ab+1))) else (some ((ae,af),ag))
termination_by structural x=>x
def Zhx (N:Nat) (ab:(List ((Bool×List Int)×List Int))):Option ((Bool×List Int)×List Int):=
  (Zbe N 0 1).bind fun aa=>Zcx N ab N aa.1.1 aa.1.2 aa.2 0
theorem Zvb (N:Nat) (c1:Nat) (c2:Nat) (col:Zh) (w0:World) (a0:Option Addr) (a1:Nat) (an:(List ((Bool×List Int)×List Int))) (h0:Sl (Za.pair (Za.pair Za.bool (Za.slice (Za.int .u32))) (Za.slice (Za.int .u32))) col w0 a0 a1 an) (r:((Bool×List Int)×List Int)) (hm:Zhx N an=some r):
    Calls Tryz.prog 154 #[.slice a0 an.length a1] w0 (fun e w'=>∃ (col':Zh) (ra1:Option Addr) (rc2:Nat) (ra4:Option Addr) (rc5:Nat),e= .returned ((.agg #[.bool r.1.1,.slice ra1 r.1.2.length rc2,.slice ra4 r.2.length rc5]))∧Zf col w0 col' w'∧Zl (Za.int .u32) 79 c1 col' w' ra1 rc2 r.1.2∧Zl (Za.int .u32) 79 c2 col' w' ra4 rc5 r.2):=by
 refine Wq (m:=19) (args:=[.slice a0 an.length a1]) func154 rfl rfl rfl ?_;rw [Zhx.eq_1] at hm;have aa:=St.start col w0;refine Zb<|Zd<|Yt (col:=(Zo col)) #[.bool false,.slice none (([]:List Int).length) 0,.slice none (([]:List Int).length) 0] 1 zeroValue47 ?_;intro bc cl bv bw ac;refine Zc<|Zb<|Zd ?_;obtain ⟨ai,bx,hm⟩:=bZ hm;refine lc rfl rfl (Xa call95 rfl rfl) (Znn N 2 3 bv _ 0 1 ai bx) ?_;rintro _ cm ⟨bz,bd,be,bf,bg,rfl,bh,a7,a8⟩;refine ⟨_,rfl,?_⟩;refine Yt (col:=bz) #[.bool false,.slice none (([]:List Int).length) 0,.slice none (([]:List Int).length) 0] 4 zeroValue47 ?_;intro bi cn b0 a2 b1;refine Ya #[.bool ai.1.1,.slice bd ai.1.2.length be,.slice bf ai.2.length bg] b1 sizeOf47 ?_;intro co a3 b2 af;refine Zc<|Zb<|Zb<|Zd<|Zj rfl<|Zc<|Z0 ?_;replace aa:=(((aa.grow bw).grow bh).grow a2).kp a3 b2;replace ac:=((ac.gr bh).gr a2).kp a3;replace a7:=(a7.gr a2).kp a3;replace a8:=(a8.gr a2).kp a3;refine Xi (fun n f aj=>∃ (ab:Zh) (az:Bool) (ao:Option Addr) (ap:Nat) (aq:List Int) (ar:Option Addr) (au:Nat) (av:List Int) (a4:Int) (ak:Nat),ak=n∧Zcx N an ak az aq av a4=some r∧St w0 (Zo col) ab aj∧Zt 47 1 ab aj bc #[.bool false,.slice none (([]:List Int).length) 0,.slice none (([]:List Int).length) 0]∧Zl (Za.int .u32) 79 2 ab aj ao ap aq∧Zl (Za.int .u32) 79 3 ab aj ar au av∧Zt 47 4 ab aj bi #[.bool az,.slice ao aq.length ap,.slice ar av.length au]∧f 0=(.slice a0 an.length a1)∧f 2=(.pointer (some ⟨bc,0,none⟩))∧f 3=(.pointer (some ⟨bi,0,none⟩))∧f 4=(.int .i64 a4)∧f 1000000=(enc [])) N ⟨b0,ai.1.1,bd,be,ai.1.2,bf,bg,ai.2,0,N,rfl,hm,aa,ac,a7,a8,af,rfl,rfl,rfl,rfl,rfl⟩ ?_;clear hm;intro n f aj hI;obtain ⟨ab,az,ao,ap,aq,ar,au,av,a4,ak,hn,hm,aa,ac,aw,ax,af,b3,b4,b5,b6,b7⟩:=hI;subst hn;refine .lD 0 b3<|.lD 2 b4<|.lD 3 b5<|.lD 4 b6<|.lD 1000000 b7 ?_;replace h0:=h0.keep (Zp.start col w0)
 cases ak with
 | zero=>rw [Zcx.eq_1] at hm;cases hm
 | succ ak=>
  rw [Zcx.eq_2] at hm;refine Zb<|Zb<|Zd<|Zg rfl<|Zk rfl<|lV _ (Zs underlying56 rfl)<|lV _ (Z4 _ _ rfl rfl)<|Zc ?_;refine Zy _ rfl (fun hb=>?_) (fun hb=>?_)
  ·rw [if_pos hb] at hm;refine Zr<|Zb<|Z0<|Vn (col:=ab) [(0,0),(1,1),(2,1),(3,1),(4,0),(5,3),(6,2)] (by kernel_rfl) (by kernel_rfl)<|xv rfl rfl (fun _ hC=>Ye isAgg47 sizeOf47 (af.gr (hC.bl ab))) ?_;refine xu rfl rfl (fun _=>Yr rfl) ?_;refine xu rfl rfl (fun _=>Xp rfl) ?_;obtain ⟨ay,a5,hm⟩:=bZ hm;refine xu rfl rfl (fun _=>Zx underlying56 sizeOf47 rfl rfl (Zi a5).1 (Zi a5).2.1 ((h0.ks aa).addr a5)) ?_;obtain ⟨_,b8,b9⟩:=(h0.ks aa).atN a5;obtain ⟨_,_,rfl,ca,cb⟩:=Wu b8;obtain ⟨_,_,rfl,cc,cd⟩:=Wu ca;obtain ⟨rfl,_⟩:=cc;obtain ⟨⟨bj,bk,rfl,a9⟩,_⟩:=cd;obtain ⟨⟨bm,bn,rfl,ba⟩,_⟩:=cb;refine xv (v:=(.agg #[.bool ay.1.1,.slice bj ay.1.2.length bk,.slice bm ay.2.length bn])) rfl rfl (fun _ hC=>Wt isAgg47 sizeOf47 rfl rfl (b9.gr (hC.bl ab))) ?_;refine xe rfl rfl ?_;intro bo hC0;have hC:Zf ab aj ab bo:=.of_below hC0.below;obtain ⟨al,ce,hm⟩:=bZ hm;replace aw:=aw.gr hC;replace ax:=ax.gr hC;replace a9:=a9.gr hC;replace ba:=ba.gr hC;refine lc rfl rfl (Xa call156 rfl rfl) (Zu7 N 5 6 (Z3 3 (Z3 2 ab)) _ ao ap ar au ((az,aq),av) bj bk bm bn ((ay.1.1,ay.1.2),ay.2) ((aw.toSlF (Z2.int .u32)).froz 3) ((ax.froz 2 (by decide)).toSlF (Z2.int .u32)) ((a9.froz 2).froz 3) ((ba.froz 2).froz 3) al ce) ?_;rintro _ bp ⟨cf,bq,br,bs,bt,rfl,ah,ad,ae⟩;refine ⟨_,rfl,?_⟩;replace ad:=ad.thaw (Xz .u32) ah (((Fz.refl (col:=ab)).froz 2).froz 3) (by decide);replace ae:=ae.thaw (Xz .u32) ah (((Fz.refl (col:=ab)).froz 2).froz 3) (by decide);replace ah:=ah.thawR (col:=ab);generalize X1 bo.heap.size ab cf=ag at *;refine Zc ⟨fun w'=>Zf ag bp ag w',Zf.refl _ _,fun _ _ h=>Yh hC0 ah h,?_⟩;refine xe rfl rfl ?_;intro cg hC0;replace ac:=(ac.gr hC).gr ah;replace af:=(af.gr hC).gr ah;replace aa:=(aa.grow hC).grow ah;have hC:Zf ag bp ag cg:=.of_below hC0.below;replace af:=af.gr hC;refine Ya #[.bool al.1.1,.slice bq al.1.2.length br,.slice bs al.2.length bt] af sizeOf47 ?_;intro bu a6 ch am;refine Zc ⟨fun w'=>Zf ag bu ag w',Zf.refl _ _,fun h=>absurd h (by decide),?_⟩;refine Ve ?_;replace ad:=(ad.gr hC).kp a6;replace ae:=(ae.gr hC).kp a6;replace ac:=(ac.gr hC).kp a6;replace aa:=(aa.grow hC).kp a6 ch;intro ci hC;replace hC:Zf ag bu ag ci:=.of_below hC.below;refine Zd<|Zg rfl<|lV _ (Z5 _ _ rfl rfl)<|Zj rfl<|Zc ?_;replace ad:=ad.gr hC
   replace ad:=ad.recolSelf 2 (by decide);replace ae:=ae.gr hC;replace ae:=ae.recol 5 2 (by decide);replace ac:=ac.gr hC;replace ac:=ac.recol 5 2 (by decide);replace am:=am.gr hC;replace am:=am.recol 5 2 (by decide);replace aa:=aa.grow hC;replace aa:=aa.recol 5 2 (by decide) (by decide);replace ad:=ad.recol 6 3 (by decide);replace ae:=ae.recolSelf 3 (by decide);replace ac:=ac.recol 6 3 (by decide);replace am:=am.recol 6 3 (by decide);replace aa:=aa.recol 6 3 (by decide) (by decide);exact ⟨ak,by omega,⟨(X7 6 3 (X7 5 2 ag)),al.1.1,bq,br,al.1.2,bs,bt,al.2,(i64.wrap (a4+1)),ak,rfl,hm,aa,ac,ad,ae,am,rfl,rfl,rfl,rfl,rfl⟩⟩
  rw [if_neg (Zz hb)] at hm;refine Xl (Xk ?_);refine Zb<|Zd<|lV _ (Ye isAgg47 sizeOf47 af)<|Ya #[.bool az,.slice ao aq.length ap,.slice ar av.length au] ac sizeOf47 ?_;intro cp bb cj ck;refine Zc<|Zq ?_;cases hm;replace aw:=aw.kp bb;replace ax:=ax.kp bb;replace aa:=aa.kp bb cj;exact ⟨rfl,_,Wi rfl rfl isAgg47 sizeOf47 rfl rfl ck.atN,Xh w0.heap.size col ab (fun n=>bif Nat.beq n 2 then c1 else bif Nat.beq n 3 then c2 else 0),ao,ap,ar,au,rfl,aa.fin (fun n=>bif Nat.beq n 2 then c1 else bif Nat.beq n 3 then c2 else 0),aa.finOwn (g:=(fun n=>bif Nat.beq n 2 then c1 else bif Nat.beq n 3 then c2 else 0)) rfl aw (by decide) (by decide) rfl,aa.finOwn (g:=(fun n=>bif Nat.beq n 2 then c1 else bif Nat.beq n 3 then c2 else 0)) rfl ax (by decide) (by decide) rfl⟩
def Zfv (N:Nat) (aa:((Bool×List Int)×List Int)):Option Int:=
  (Zcw N (aa.1.1,aa.1.2)).bind fun ab=>some ab
theorem Zva (N:Nat) (col:Zh) (w0:World) (ac:Option Addr) (ad:Nat) (ah:Option Addr) (ai:Nat) (aa:((Bool×List Int)×List Int)) (ae:Sl (Za.int .u32) col w0 ac ad aa.1.2) (aq:Sl (Za.int .u32) col w0 ah ai aa.2) (r:Int) (hm:Zfv N aa=some r):
    Calls Tryz.prog 93 #[(.agg #[.bool aa.1.1,.slice ac aa.1.2.length ad,.slice ah aa.2.length ai])] w0 (fun e w'=>e= .returned ((.int .i64 r))∧Below w0.heap.size w0 w'):=by
 refine Xv 2 (m:=6) func93 rfl rfl rfl rfl rfl ?_;rw [Zfv.eq_1] at hm;have ab:=St.start col w0;refine Zb<|Zd<|X3 (col:=(Zo col)) 1 rfl ?_;intro aj ak af al am;refine Zj rfl<|Zc<|Zb<|Zd<|lF aj 0 underlying47 rfl sizeOf45<|lV (.agg #[.bool aa.1.1,.slice ac aa.1.2.length ad]) (Wt isAgg45 sizeOf45 rfl rfl ((am.atN).part 0 2 _ rfl)) ?_;obtain ⟨an,ao,hm⟩:=bZ hm;replace ae:=ae.keep (Zp.start col w0);replace ab:=ab.grow al;refine lc rfl rfl (Z7 call204 rfl) (Zle N af _ ac ad (aa.1.1,aa.1.2) (ae.ks ab) an ao) ?_;rintro _ ap ⟨rfl,ag⟩;refine ⟨_,rfl,?_⟩;replace ag:Zf af ak af ap:=.of_below ag;refine Zj rfl<|Zc<|Zq ?_;cases hm;replace ab:=ab.grow ag;exact ⟨rfl,rfl,ab.below⟩
theorem Zbu {N k:Nat} {neg:Bool} {m:List Int} (hm:Zw m) (hk:m.length≤k) (hr:X5 N k):Ty N neg m=some (X2 (Z8 (neg,m))):=by
 obtain ⟨r1,r2⟩:=hr
 rw [Ty,Ut hm (by omega) (by omega),Option.bind_some,Zib]
 have e:decide (0<((Zm (Ze m)).length:Int))=decide (Ze m≠0):=by
  by_cases h:Ze m=0
  ·rw [h,Va];decide
  ·have:=Si h
   rw [decide_eq_true (by omega),decide_eq_true h]
 cases neg
 ·rw [if_neg (by decide),Zfr,Bool.false_and]
 ·rw [if_pos rfl,Zfr,e,Bool.true_and]
theorem Zsv {N k:Nat} {a:ZV} (hm:Zw a.2) (hk:a.2.length≤k) (hr:X5 N k):Zfs N a=some (X2 (Z8 a)):=by
 rw [Zfs,Zbu hm hk hr];rfl
theorem Zmi {N k:Nat} {a:ZV} (hm:Zw a.2) (hk:a.2.length≤k) (hr:X5 N k):Zcw N a=some (Z8 a).sign:=by
 rw [Zcw,Zsv hm hk hr,Option.bind_some,X2]
 generalize Z8 a=z
 by_cases h:z=0
 ·subst h;rw [Int.natAbs_zero,Va,if_pos (by decide)];rfl
 ·have:=Si (n:=z.natAbs) (by omega)
  rw [if_neg (by rw [decide_eq_false (by simp only;omega)];decide)]
  by_cases h2:z<0
  ·rw [if_pos (decide_eq_true h2),Int.sign_eq_neg_one_of_neg h2]
  ·rw [if_neg (fun hc=>h2 (of_decide_eq_true hc)),Int.sign_eq_one_of_pos (by omega)]
theorem Zr2 {N k l:Nat} {a b:ZV} (ha:Zw a.2) (hb:Zw b.2) (hk:a.2.length≤k) (hl:b.2.length≤l) (hr:X5 N (k+l+1)):Zfq N a b=some (X2 (Z8 a+Z8 b)):=by
 have hr':=hr
 obtain ⟨r1,r2⟩:=hr'
 have la:=Yz ha
 have lb:=Yz hb
 have lsum:(Zm (Ze a.2+Ze b.2)).length≤k+l+1:=Zjh (by omega) (by omega)
 have ls1:(Zm (Ze a.2 - Ze b.2)).length≤k+l+1:=by have:=Vp (Nat.sub_le (Ze a.2) (Ze b.2));omega
 have ls2:(Zm (Ze b.2 - Ze a.2)).length≤k+l+1:=by have:=Vp (Nat.sub_le (Ze b.2) (Ze a.2));omega
 rw [Zfq]
 by_cases h:a.1=b.1
 ·rw [if_pos (decide_eq_true h),Zr4 ha hb (by omega) (by omega),Option.bind_some,Zbu (Xq _) lsum hr,Option.bind_some,Zgo.1 h]
 ·rw [if_neg (by rw [decide_eq_false h];decide),Zii ha hb (by omega) (by omega) (by omega) (by omega),Option.bind_some]
  by_cases hlt:Ze a.2<Ze b.2
  ·rw [if_pos hlt,if_neg (by decide),Zii hb ha (by omega) (by omega) (by omega) (by omega),Option.bind_some,if_neg (by omega),Zbu (Xq _) ls2 hr,Option.bind_some,(Zgo.2 h).2 hlt]
  ·rw [if_neg hlt,if_pos rfl,Zbu (Xq _) ls1 hr,Option.bind_some,(Zgo.2 h).1 (by omega)]
theorem Zzg {N k:Nat} {a:ZV} (hm:Zw a.2) (hk:a.2.length≤k) (hr:X5 N k):Zhu N a=some (X2 (-Z8 a)):=by
 rw [Zhu,Zbu hm hk hr,Option.bind_some,Z0c]
theorem Zpt {a:ZV} (hm:Zw a.2):(X2 (Z8 a)).2.length≤a.2.length:=by
 rw [Zec,Zdw];exact Yz hm
theorem Zxe {a:ZV} (hm:Zw a.2):(X2 (-Z8 a)).2.length≤a.2.length:=by
 rw [Zec,Int.natAbs_neg,Zdw];exact Yz hm
theorem Zzj {N k l:Nat} {a b:ZV} (ha:Zw a.2) (hb:Zw b.2) (hk:a.2.length≤k) (hl:b.2.length≤l) (hr:X5 N (k+l+1)):Zhv N a b=some (X2 (Z8 a - Z8 b)):=by
 rw [Zhv,Zzg (a:=(b.1,b.2)) hb hl (hr.mono (by omega)),Option.bind_some,Zr2 (a:=(a.1,a.2)) (b:=X2 _) ha (Ui _) hk (Nat.le_trans (Zxe hb) hl) hr,Option.bind_some,Uc,Int.sub_eq_add_neg]
theorem Zkp {N k l:Nat} {a b:ZV} (ha:Zw a.2) (hb:Zw b.2) (hk:a.2.length≤k) (hl:b.2.length≤l) (hr:X5 N (k+l)):Zbd N a b=some (X2 (Z8 a * Z8 b)):=by
 have hr':=hr
 obtain ⟨r1,r2⟩:=hr'
 have la:=Yz ha
 have lb:=Yz hb
 have:=Zb5 (Ze a.2) (Ze b.2)
 rw [Zbd,Zst ha hb (by omega) (by omega),Option.bind_some,Zbu (k:=k+l) (Xq _) (by omega) hr,Option.bind_some,Zty]
theorem Z0b (a b:Int):(a - b).sign=Sx a b:=by
 rw [← Zk0];unfold Sx
 (repeat' split) <;> omega
theorem Zy5 {N k l:Nat} {a b:ZV} (ha:Zw a.2) (hb:Zw b.2) (hk:a.2.length≤k) (hl:b.2.length≤l) (hr:X5 N (k+l+1)):Zht N a b=some (Sx (Z8 a) (Z8 b)):=by
 have sl:(X2 (Z8 a - Z8 b)).2.length≤k+l+1:=Zzu (k:=k+l) (Nat.le_trans (Zpt ha) (by omega)) (Nat.le_trans (Zpt hb) (by omega))
 rw [Zht,Zzj (a:=(a.1,a.2)) (b:=(b.1,b.2)) ha hb hk hl hr,Option.bind_some,Zmi (a:=X2 _) (Ui _) sl hr,Option.bind_some,Uc,Z0b]
theorem Zsx {N:Nat} {z:Int} (h:-9223372036854775808≤z∧z≤9223372036854775807) (hr:X5 N 4):Zft N z=some (X2 z):=by
 have hr':=hr
 obtain ⟨r1,r2⟩:=hr'
 have l2:∀ n:Nat,n<18446744073709551616→(Zm n).length≤2:=fun n hn=>W9.2 (by simpa using hn)
 have l1:Zw [1]:=.cons (by decide) .nil
 rw [Zft]
 by_cases hz:0≤z
 ·rw [if_pos (decide_eq_true hz),Xy (by omega),Zsy (by omega) (by omega),Option.bind_some,Zbu (Xq _) (l2 _ (by omega)) (hr.mono (by omega)),Option.bind_some]
  have e2:Z8 (false,Zm z.toNat)=z:=by simp only [Z8,Xo];simp;omega
  rw [e2]
 ·have hl3:=l2 (-z - 1).toNat (by omega)
  have e:u64.wrap (i64.wrap (-i64.wrap (z+1)))= -z - 1:=by rw [Z6 (x:=z+1) (by omega),Z6 (by omega),Xy (by omega)];omega
  rw [if_neg (by rw [decide_eq_false hz];decide),e,Zsy (by omega) (by omega),Option.bind_some,Zr4 (Xq _) l1 (by simp only [List.length_singleton];omega) (by simp only [List.length_singleton];omega),Option.bind_some,Xo,Wh,Yx,Zbu (k:=4) (Xq _) (by
   have:=l2 ((-z - 1).toNat+((1:Int).toNat+4294967296 * 0)) (by omega)
   omega) hr,Option.bind_some]
  have e2:Z8 (true,Zm ((-z - 1).toNat+((1:Int).toNat+4294967296 * 0)))=z:=by simp only [Z8,Xo,if_true];omega
  rw [e2]
theorem Zkl {N k:Nat} {a:QV} (ha:RV k a) (hr:X5 N k):Qh N a=some (Zm (Yy a.2)):=by
 obtain ⟨r1,r2⟩:=hr
 have:=ha.ld
 rw [Qh,Ut ha.d (by omega) (by omega),Option.bind_some,Yy]
 by_cases h:Ze a.2=0
 ·rw [h,Va,if_pos (by decide),if_pos rfl,Zjv,Option.bind_some,Qs]
 ·have:=Si h
  rw [if_neg (by rw [decide_eq_false (by omega)];decide),if_neg h]
theorem Zsq {N k l:Nat} {num:ZV} {den:List Int} (hn:Zw num.2) (hd:Zw den) (h0:Ze den≠0) (hk:num.2.length≤k) (hl:den.length≤l) (hr:X5 N (k+l)):
  Zfw N num den=some (Y0 (mkRat (Z8 num) (Ze den))):=by
 have hr':=hr
 obtain ⟨r1,r2⟩:=hr'
 have l1:=Yz hn
 have l2:=Yz hd
 have hg:Nat.gcd (Ze num.2) (Ze den)≠0:=fun h=>h0 (Nat.gcd_eq_zero_iff.1 h).2
 have lg:(Zm (Nat.gcd (Ze num.2) (Ze den))).length≤den.length:=Nat.le_trans (Vp (Nat.gcd_le_right _ (by omega))) l2
 have lq:=Vp (Nat.div_le_self (Ze num.2) (Nat.gcd (Ze num.2) (Ze den)))
 have ld:=Vp (Nat.div_le_self (Ze den) (Nat.gcd (Ze num.2) (Ze den)))
 obtain ⟨g,g1,g2,g3,g4⟩:=Zzf (N:=N) (M:=k+l) hn hd (by omega) (by omega) (by omega) (by omega)
 rw [Zfw,g1,Option.bind_some,Zsa hn g2 (by rw [g3];omega) (by omega) (by rw [g3];omega) (by omega),Option.bind_some,Zsa hd g2 (by rw [g3];omega) (by omega) (by rw [g3];omega) (by omega),Option.bind_some,g3,if_neg hg,if_neg hg,
  Zsv (k:=k) (a:=(num.1,Zm (Ze num.2 / Nat.gcd (Ze num.2) (Ze den)))) (Xq _) (by simp only;omega) (hr.mono (by omega)),Option.bind_some,Ut (Xq _) (by omega) (by omega),Option.bind_some,Zqx (neg:=num.1) h0,Zib,Xo,Xo]
theorem Zzd {N k:Nat} {a:QV} (ha:RV k a) (hr:X5 N k):Zfv N a=some (Zbq (Yq a)):=by
 rw [Zfv,Zmi (a:=(a.1.1,a.1.2)) ha.m ha.lm hr,Option.bind_some,Zrs]
theorem Zk1 (n:Nat):Z8 (false,Zm n)=n:=by simp [Z8,Xo]
theorem Zsh {N k l:Nat} {a b:QV} (ha:RV k a) (hb:RV l b) (hr:X5 N (2 * (k+l+3))):Zfu N a b=some (Qp (Yq a) (Yq b)):=by
 have da:=Tq ha
 have db:=Tq hb
 have o1:=Zau (n:=Yy b.2) ha.m ha.lm db
 have o2:=Zau (n:=Yy a.2) hb.m hb.lm da
 rw [Zfu,Zkl hb (hr.mono (by omega)),Option.bind_some,Qi,Option.bind_some,Zkp (a:=(a.1.1,a.1.2)) (b:=(false,Zm (Yy b.2))) (k:=k) (l:=l+1) ha.m (Xq _) ha.lm db (hr.mono (by omega)),Option.bind_some,Zkl ha (hr.mono (by omega)),Option.bind_some,Qi,Option.bind_some,Zkp (a:=(b.1.1,b.1.2)) (b:=(false,Zm (Yy a.2))) (k:=l) (l:=k+1) hb.m (Xq _) hb.lm da (hr.mono (by omega)),Option.bind_some,Zk1,Zk1,
  Zy5 (a:=X2 _) (b:=X2 _) (Ui _) (Ui _) o1 o2 (hr.mono (by omega)),Option.bind_some,Uc,Uc,Yq,Yq,Zl8 (Se _) (Se _)]
theorem Zy9 {N k l:Nat} {a b:QV} (ha:RV k a) (hb:RV l b) (hr:X5 N (k+l+2)):Zcs N (Zm (Yy a.2)) (Zm (Yy b.2))=some (Zm (Yy a.2 * Yy b.2)):=by
 have da:=Tq ha
 have db:=Tq hb
 obtain ⟨r1,r2⟩:=hr
 rw [Zst (Xq _) (Xq _) (by omega) (by omega),Xo,Xo]
theorem Zzc {N k l:Nat} {a b:QV} (ha:RV k a) (hb:RV l b) (hr:X5 N (2 * (k+l+3))):Zhw N a b=some (Y0 (Yq a+Yq b)):=by
 have da:=Tq ha
 have db:=Tq hb
 have o1:=Zau (n:=Yy b.2) ha.m ha.lm db
 have o2:=Zau (n:=Yy a.2) hb.m hb.lm da
 obtain ⟨_,m2,m3⟩:=Zn4 ha hb (hr.mono (by omega))
 have m1:=Zy9 ha hb (hr.mono (by omega))
 have sl:=Zmp (k:=k+l+1) (by omega) (Nat.le_trans o2 (by omega))
 rw [Zhw,Zkl hb (hr.mono (by omega)),Option.bind_some,Qi,Option.bind_some,Zkp (a:=(a.1.1,a.1.2)) (b:=(false,Zm (Yy b.2))) (k:=k) (l:=l+1) ha.m (Xq _) ha.lm db (hr.mono (by omega)),Option.bind_some,Zkl ha (hr.mono (by omega)),Option.bind_some,Qi,Option.bind_some,Zkp (a:=(b.1.1,b.1.2)) (b:=(false,Zm (Yy a.2))) (k:=l) (l:=k+1) hb.m (Xq _) hb.lm da (hr.mono (by omega)),Option.bind_some,Zk1,Zk1,
  Zr2 (a:=X2 _) (b:=X2 _) (Ui _) (Ui _) o1 o2 (hr.mono (by omega)),Option.bind_some,Uc,Uc,Option.bind_some,Option.bind_some,m1,Option.bind_some,
  Zsq (num:=X2 _) (Ui _) (Xq _) (by rw [Xo];exact m3) sl m2 (hr.mono (by omega)),Option.bind_some,Uc,Xo,Yq,Yq,Rat.mkRat_add_mkRat _ _ (Se _) (Se _)]
theorem Zs1 {N:Nat} {a b:Int} (h:-9223372036854775808≤a∧a≤9223372036854775807) (g:0<b∧b≤9223372036854775807) (hr:X5 N 8):Zbe N a b=some (Y0 ((a:Rat) / (b:Rat))):=by
 have l2:∀ z:Int,-9223372036854775808≤z∧z≤9223372036854775807→(X2 z).2.length≤2:=fun z hz=>W9.2 (by simp;omega)
 have la:=l2 a h
 have lb:=l2 b (by omega)
 have hb0:Ze (X2 b).2≠0:=by rw [Zec,Xo];omega
 have e:=Zqe (Z8 (X2 a)) 1 (X2 b) 1 (X2 a).1 (X2 a).2 rfl hb0
 rw [Zbe,Zju,Zsx h (hr.mono (by omega)),Option.bind_some,Zsx (by omega) (hr.mono (by omega)),Option.bind_some,Zjt,Zmi (a:=X2 b) (Ui _) lb (hr.mono (by omega)),Option.bind_some,Uc,Int.sign_eq_one_of_pos g.1,if_neg (by decide),Zsq (num:=(!decide ((X2 a).1=(X2 b).1),(X2 a).2)) (Ui _) (Ui _) hb0 la lb (hr.mono (by omega)),Option.bind_some,Option.bind_some,Option.bind_some]
 rw [Rat.mkRat_eq_div,Rat.mkRat_eq_div,Uc,Uc] at e
 have e1:(a:Rat) / ((1:Nat):Rat) / ((b:Rat) / ((1:Nat):Rat))=(a:Rat) / (b:Rat):=by
  have h1:((1:Nat):Rat)=1:=rfl
  have h2:(1:Rat)⁻¹=1:=Rat.inv_eq_of_mul_eq_one (by grind)
  simp only [h1,Rat.div_def,h2,Rat.mul_one]
 rw [e1,Nat.one_mul,Nat.mul_one] at e
 rw [e]
 have e2:Z8 (!decide ((X2 a).1=(X2 b).1),Zm (Ze (X2 a).2))=Z8 (!decide ((X2 a).1=(X2 b).1),(X2 a).2):=by simp only [Z8,Xo]
 rw [e2]
theorem div_one (a:Rat):a / 1=a:=by
 have h2:(1:Rat)⁻¹=1:=Rat.inv_eq_of_mul_eq_one (by grind)
 rw [Rat.div_def,h2,Rat.mul_one]
theorem Zzr {N:Nat} (hr:X5 N 8):Zbe N 0 1=some (Y0 0):=by
 rw [Zs1 (by omega) (by omega) hr]
 congr 2
 exact div_one _
theorem Zzq {N:Nat} (hr:X5 N 8):Zbe N 1 1=some (Y0 1):=by
 rw [Zs1 (by omega) (by omega) hr]
 congr 2
 exact div_one _
theorem Zsi {N:Nat} (l:List QV) (hl:∀ a ∈ l,Vy a) (hb:l.length<4611686018427387904):∀ (n i:Nat) (q:Rat),i≤l.length→l.length<n+i→X5 N (4 * (qs q+Yu (l.drop i)+3))→Zcx N l n (Y0 q).1.1 (Y0 q).1.2 (Y0 q).2 (i:Int)=some (Y0 (q+Vs (l.drop i)))
 | 0,i,q,h1,h2,_=>by omega
 | n+1,i,q,h1,h2,hr=>by
  rw [Zcx.eq_2]
  by_cases hi:i<l.length
  ·have hd:=List.drop_eq_getElem_cons hi
   have ha:=hl _ (List.getElem_mem hi)
   have hs:=Zrr ha
   rw [hd,Yu] at hr
   have h3:=Zrp q (Yq l[i])
   rw [if_pos (decide_eq_true (by omega)),Xg hi,Option.bind_some,Zzc (k:=qs q) (l:=max (l[i]).1.2.length (l[i]).2.length) (Zmk q) (Zij ha.1 ha.2) (hr.mono (by omega)),Option.bind_some,Z6 (by omega)]
   have ih:=Zsi l hl hb n (i+1) (q+Yq l[i]) (by omega) (by omega) (hr.mono (by omega))
   have e:Yq ((((Y0 q).1.1,(Y0 q).1.2),(Y0 q).2):QV)=q:=Zbr q
   have e2:Yq (((l[i].1.1,l[i].1.2),l[i].2):QV)=Yq l[i]:=rfl
   rw [show ((i+1:Nat):Int)=(i:Int)+1 by omega] at ih
   rw [e,e2,ih,hd,Vs,Vs,List.map_cons,List.sum_cons,Rat.add_assoc]
  ·rw [if_neg (by rw [decide_eq_false (by omega)];decide),List.drop_eq_nil_of_le (by omega),Vs,List.map_nil,List.sum_nil,Rat.add_zero]
theorem Zze {N:Nat} {l:List QV} (hl:∀ a ∈ l,Vy a) (hb:l.length<4611686018427387904) (hn:l.length<N) (hr:X5 N (4 * (Yu l+4))):Zhx N l=some (Y0 (Vs l)):=by
 rw [Zhx,Zzr (hr.mono (by omega)),Option.bind_some]
 have:=Zsi (N:=N) l hl hb N 0 0 (by omega) (by omega) (hr.mono (by rw [Zmb,List.drop_zero];omega))
 rw [List.drop_zero,Rat.zero_add] at this
 exact this
def Zdo (ab:ByteArray):List ByteArray→Nat→Option Int
  | [],aa=>some (-1)
  | ac :: ad,aa=>if (decide (ab=ac))=true then (some (aa:Int)) else ((Zdo ab ad) (aa+1))
termination_by structural x=>x
def Zj6 (aa:List ByteArray) (ab:ByteArray):Option Int:=
  Zdo ab aa 0
theorem Zvz (col:Zh) (w0:World) (a0:Option Addr) (ag:Nat) (aa:List ByteArray) (ae:ByteArray) (h0:Sl Za.str col w0 a0 ag aa) (r:Int) (hm:Zj6 aa ae=some r):
    Calls Tryz.prog 191 #[.slice a0 aa.length ag,.string ae] w0 (fun e w'=>e= .returned ((.int .i64 r))∧Below w0.heap.size w0 w'):=by
 refine Xv 4 (m:=19) func191 rfl rfl rfl rfl rfl ?_;rw [Zj6.eq_1] at hm;have ab:=St.start col w0;refine Zb<|Zd<|Zj rfl<|Zc<|Zb<|Zb<|Zd<|Zk rfl<|lV _ (Zs underlying22 rfl)<|Zg rfl<|Zc<|Z0<|Xi (fun n f ai=>∃ (ah:Zh) (ac:Nat) (ad:List ByteArray),n=ad.length∧aa.drop ac=ad∧Zdo ae ad ac=some r∧St w0 (Zo col) ah ai∧f 8=(.int .i64 ac)∧f 0=(.slice a0 aa.length ag)∧f 1=(.string ae)∧f 7=(.int .i64 aa.length)∧f 1000000=(enc [])) aa.length ⟨(Zo col),0,aa,rfl,rfl,hm,ab,rfl,rfl,rfl,rfl,rfl⟩ ?_;clear hm;intro n f ai hI;obtain ⟨ah,ac,ad,hn,hl,hm,ab,ak,al,am,an,ao⟩:=hI;subst hn;refine .lD 8 ak<|.lD 0 al<|.lD 1 am<|.lD 7 an<|.lD 1000000 ao ?_;replace h0:=h0.keep (Zp.start col w0)
 cases ad with
 | nil=>
  have hk:¬ ((ac:Int)<(aa.length:Int)):=by have:=List.drop_eq_nil_iff.1 hl;omega
  have hkb:=decide_eq_false hk;rw [Zdo.eq_1] at hm;refine Zb<|Zd<|lV _ (Z4 _ _ rfl rfl)<|Zc<|Zb<|Wn (congrArg Value.bool hkb) ?_;refine Xl (Xk ?_);refine Zb<|Zd<|Zj rfl<|Zc<|Zq ?_;cases hm;exact ⟨rfl,rfl,ab.below⟩
 | cons ar aj=>
  obtain ⟨af,ap,aq⟩:=Wv hl;have hk:(ac:Int)<(aa.length:Int):=by omega
  have hkb:=decide_eq_true hk;rw [Zdo.eq_2] at hm;refine Zb<|Zd<|lV _ (Z4 _ _ rfl rfl)<|Zc<|Zb<|Wo (congrArg Value.bool hkb)<|Zr<|Zb<|Z0<|Zb<|Zd<|Zg rfl<|Zj rfl<|Zc<|Zb<|Zd<|Td rfl<|Zk rfl<|Zg rfl ?_;refine lV _ (Zx underlying22 sizeOf9 rfl rfl (Zi af).1 (Zi af).2.1 ((h0.ks ab).addr af)) ?_;refine lV _ (Zn isAgg9 rfl ((h0.ks ab).atStr af))<|lV _ (Su _ _ underlying9 rfl rfl)<|Zc ?_;refine Zy _ rfl (fun hb=>?_) (fun hb=>?_)
  ·rw [if_pos hb] at hm;refine Zb<|Zd<|Zg rfl<|Zj rfl<|Zc<|Zq ?_;cases hm;exact ⟨rfl,rfl,ab.below⟩
  rw [if_neg (Zz hb)] at hm;refine Zr<|Zd<|lV _ (Z5 _ _ rfl rfl)<|Zg rfl<|Zc ?_;exact ⟨aj.length,by simp,⟨ah,(ac+1),aj,rfl,ap,hm,ab,(congrArg (Value.int .i64) (Wy (Nat.lt_of_lt_of_le aq (h0.ks ab).1.1))),rfl,rfl,rfl,rfl⟩⟩

end Go.Proofs.YtbmjpjhbankpoaaGreat
