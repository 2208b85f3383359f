/-
  What functions of the program compute, as plain Lean functions (m_..), and proofs that they compute it (c_..). Printed by a program of the author; no conditions.
-/
import Derived.Test.YthclpfhncgpnmaaGreatLearnStepBFloat
import Derived.Test.YthclpfhncgpnmaaGreatProg
import Derived.Test.YthclpfhncgpnmaaGreatLearnStepBBrief
import Derived.Test.YthclpfhncgpnmaaGreatLearnStepBThree
import Derived.Test.YthclpfhncgpnmaaGreatLearnStepF2
set_option linter.unusedVariables false
set_option maxRecDepth 100000
set_option maxHeartbeats 2000000
namespace Go.Proofs.YthclpfhncgpnmaaGreat
open Go Go.RowKit
open Int renaming toNat_natCast→aC,tmod→bK,tmod_eq_emod_of_nonneg→cH,tdiv→aR,tdiv_eq_ediv_of_nonneg→bV,toNat_of_nonneg→bM,toNat→aA,sign_eq_one_of_pos→iX
open List renaming take_take→gO,take_length→dY,getD_eq_getElem?_getD→aE,getElem?_eq_getElem→aL,getElem?_eq_none→cG,drop_zero→aM,drop_eq_nil_of_le→aG,length_singleton→aK,replicate→aD,length_replicate→aS,drop_replicate→gQ,eq_nil_of_length_eq_zero→cS,drop_eq_nil_iff→aJ,length_drop→bH,length_take→dA
open Nat renaming min_eq_left→aZ,le_refl→aX,lt_of_lt_of_le→aI,mul_le_mul_left→aY,pow_succ→bG,mul_zero→dV,add_zero→bR,pow_zero→dU,add_assoc→dZ,zero_add→cC,pow_add→dH,div_div_eq_div_mul→gG,add_mul_div_left→gR,div_eq_of_lt→fA,mul_assoc→bT,two_pow_pos→bY,div_le_self→cJ,dvd_add_left→jX,one_mul→aV,mul_comm→bS,mul_div_cancel_left→fS,le_trans→aT,gcd→cX,gcd_comm→fE,mul_le_mul_right→bD,min_eq_right→dN,max_eq_left→gA,max_eq_right→fT,le_total→iV,sub_le→iJ,gcd_sub_self_right→iW,eq_zero_or_pos→fL,gcd_zero_right→jP,beq→aP
open Option renaming getD_some→dG
open Rat renaming mkRat_mul_mkRat→gU,mkRat_eq_div→cM,inv_eq_of_mul_eq_one→fW
open Go.IntKind (i8 i16 i32 i64 u8 u16 u32 u64)
open Go.Proofs.Tryz

theorem Z1w (N:Nat) (a:List Int) (hb:a.length≤35184372088000):∀ (n j:Nat),j≤a.length→Zc5 N a n (j:Int)=S4 N n (a.take j)
 | 0,j,_=>rfl
 | n+1,j,d=>by
  have b:(a.take j).length=j:=by rw [nK];omega
  have c:0<j→Zk (a.take j) ((j - 1:Nat):Int)=Zk a ((j - 1:Nat):Int):=fun h=>by rw [Zcf,Zcf,List.getElem?_take,if_pos (by omega)]
  rw [Zc5.eq_2,S4.eq_2,b]
  by_cases h0:0<j
  ·have e:(j:Int) - 1=((j - 1:Nat):Int):=by omega
   rw [if_pos (dT (by omega)),if_pos (dT (by omega)),Zv (by omega),e,c h0,Zs (by omega),oB,oB,Zka,Zc0,b,Zv (by omega),e,aC,aC]
   by_cases hx:a[j - 1]=0
   ·rw [if_pos (dT hx),if_pos (dT hx),Z7 (by omega),Z1w N a hb n (j - 1) (by omega),gO,aZ (by omega)]
   ·rw [if_neg (dF hx),if_neg (dF hx),Z7 (by omega),Z7 (by rw [b];simp only [nN,maxLen];omega),List.nil_append]
  ·have:j=0:=by omega
   subst this
   rw [if_neg (by decide),if_neg (by decide),Zka,Zc0,if_neg (by decide),if_neg (by decide),Z7 (by omega)]
   exact Z7 (by simp [maxLen])
theorem Tk {N:Nat} {a:List Int} (h:Zp a) (hn:a.length<N) (hb:a.length≤35184372088000):V9 N a=some (Zf (Zc a)):=by
 rw [V9,Z1w N a hb N a.length (aX _),dY]
 exact Zrb N N a h hn (by omega)
theorem Z1y {N:Nat} {u:Int} (h:0≤u∧u<18446744073709551616) (hn:2<N):Zkb N u=some (Zf u.toNat):=by
 have a:u32.wrap (bK u 4294967296)=u % 4294967296:=by rw [cH h.1,Um (by omega)]
 have b:u32.wrap (u64.wrap (aR u 4294967296))=u / 4294967296:=by rw [bV h.1,Xs (by omega),Um (by omega)]
 have c:Zp [u % 4294967296,u / 4294967296]:=.cons (by omega) (.cons (by omega) .nil)
 have e:Zc [u % 4294967296,u / 4294967296]=u.toNat:=by rw [Wi,Wi,Y0];omega
 rw [Zkb,a,b,Tk c (by simpa using hn) (by simp),oB,e]
theorem Zgd {a:List Int} (h:Zp a) (k:Nat):Zas a (k:Int)=some ((Yb a k:Nat):Int):=by
 rw [Zas]
 by_cases hk:k<a.length
 ·have:=h.get hk
  rw [if_pos (dT (by omega)),Zs hk,oB,Xs (by omega),Yb,aE,aL hk,dG]
  congr 1;omega
 ·rw [if_neg (dF (by omega)),Yb,aE,cG (by omega)];rfl
theorem Zp6 {a:List Int} (h:Zp a) (k:Nat):Zc (a.take k)<4294967296 ^ k:=by
 have b:=Q6 (h.take k)
 refine aI b (Nat.pow_le_pow_right (by decide) ?_)
 rw [nK];omega
theorem Ztw (N:Nat) (a b:List Int) (ha:Zp a) (hb:Zp b):∀ (n i:Nat),i<4611686018427387904→i<n→Zc (a.drop i)=Zc (b.drop i)→Zg8 N a b n ((i:Int) - 1)=some (if Zc a<Zc b then -1 else if Zc b<Zc a then 1 else 0)
 | 0,i,_,h,_=>by omega
 | n+1,i,l,m,d=>by
  rw [Zg8.eq_2]
  by_cases h0:i=0
  ·subst h0
   rw [if_neg (by decide)]
   rw [aM,aM] at d
   rw [if_neg (by omega),if_neg (by omega)]
  ·have e:(i:Int) - 1=((i - 1:Nat):Int):=by omega
   have f:i - 1+1=i:=by omega
   rw [if_pos (dT (by omega)),e,Zgd ha,Zgd hb,oB,oB]
   have g:=Tx a (i - 1)
   have j:=Tx b (i - 1)
   rw [Tg a,f] at g
   rw [Tg b,f,← d] at j
   have o:=Zp6 ha (i - 1)
   have p:=Zp6 hb (i - 1)
   have c:∀ x y:Nat,x<y→4294967296 ^ (i - 1) * (x+4294967296 * Zc (a.drop i))+4294967296 ^ (i - 1)≤4294967296 ^ (i - 1) * (y+4294967296 * Zc (a.drop i)):=fun x y k=>by
    rw [← Nat.mul_succ];exact aY _ (by omega)
   generalize 4294967296 ^ (i - 1)=Q at *
   by_cases hlt:Yb a (i - 1)<Yb b (i - 1)
   ·have:=c _ _ hlt
    rw [if_pos (dT (by omega)),if_pos (by omega)]
   ·rw [if_neg (dF (by omega))]
    by_cases hgt:Yb b (i - 1)<Yb a (i - 1)
    ·have:=c _ _ hgt
     rw [if_pos (dT (by omega)),if_neg (by omega),if_pos (by omega)]
    ·rw [if_neg (dF (by omega)),Zv (by omega)]
     exact Ztw N a b ha hb n (i - 1) (by omega) (by omega) (by rw [Tg a,Tg b,f,d];omega)
theorem Ztx {N:Nat} {a b:List Int} (ha:Zp a) (hb:Zp b) (h1:a.length<N) (h2:b.length<N) (h3:a.length≤35184372088000) (h4:b.length≤35184372088000):
  Zg7 N a b=some (if Zc a<Zc b then -1 else if Zc b<Zc a then 1 else 0):=by
 have c:∀ (l:List Int) (k:Nat),l.length≤k→Zc (l.drop k)=0:=fun l k h=>by rw [aG h];rfl
 rw [Zg7]
 by_cases h:a.length<b.length
 ·rw [if_pos (dT (by omega)),Zj5,Zv (by omega)]
  exact Ztw N a b ha hb N b.length (by omega) h2 (by rw [c a _ (by omega),c b _ (by omega)])
 ·rw [if_neg (dF (by omega)),Zj5,Zv (by omega)]
  exact Ztw N a b ha hb N a.length (by omega) h1 (by rw [c a _ (by omega),c b _ (by omega)])
theorem Zun {s:Int} (h:0≤s∧s<18446744073709551616):u32.wrap (bK s 4294967296)=((s.toNat % 4294967296:Nat):Int):=by
 rw [cH h.1,Um (by omega)];omega
theorem Zum {s:Int} (h:0≤s∧s<18446744073709551616):u64.wrap (aR s 4294967296)=((s.toNat / 4294967296:Nat):Int):=by
 rw [bV h.1,Xs (by omega)];omega
theorem Ztd {S Q A B C:Nat} (h:A=B+4294967296 * C):S+Q * B+Q * 4294967296 * C=S+Q * A:=by
 subst h;grind
theorem Z0v (N:Nat) (a b:List Int) (h:Zp a) (f:Zp b) (p:a.length+b.length+2<N) (l:a.length+b.length<35184372087000):∀ (n i:Nat) (out:List Int) (c:Nat),out.length=i→Zp out→c≤1→i≤a.length+b.length+2→(i≤a.length+b.length+1∨c=0)→a.length+b.length+3≤n+i→
  Qy N a b n out (c:Int) (i:Int)=some (Zf (Zc out+4294967296 ^ i * (c+Zc (a.drop i)+Zc (b.drop i))))
 | 0,i,out,c,_,_,_,g,_,j=>by omega
 | n+1,i,out,c,d,e,m,g,j,o=>by
  have go:(i<a.length∨i<b.length∨0<c)→Zmn a b out (c:Int) (i:Int) (Qy N a b n)=some (Zf (Zc out+4294967296 ^ i * (c+Zc (a.drop i)+Zc (b.drop i)))):=fun _=>by
   have u:=Zgc h i
   have v:=Zgc f i
   have s:u64.wrap (u64.wrap ((c:Int)+((Yb a i:Nat):Int))+((Yb b i:Nat):Int))=((c+Yb a i+Yb b i:Nat):Int):=by
    rw [Xs (x:=(c:Int)+_) (by omega),Xs (by omega)];omega
   rw [Zmn,Zgd h,Zgd f,oB,oB,s,Zun (by omega),Zum (by omega),aC]
   generalize k:c+Yb a i+Yb b i=q
   rw [Z7 (by simp only [aK,maxLen];omega),Zv (by omega)]
   have r:=Z0v N a b h f p l n (i+1) (out++[((q % 4294967296:Nat):Int)]) (q / 4294967296) (by simp [d]) (e.app (.cons (by omega) .nil)) (by omega) (by omega) (by
    by_cases hi:i<a.length∨i<b.length
    ·omega
    ·right
     have w:Yb a i=0:=by rw [Yb,aE,cG (by omega)];rfl
     have t:Yb b i=0:=by rw [Yb,aE,cG (by omega)];rfl
     omega) (by omega)
   rw [show ((i+1:Nat):Int)=(i:Int)+1 by omega] at r
   rw [r,Q5,d,Wi,Y0,aC,Tg a i,Tg b i,bG]
   congr 2
   rw [dV,bR]
   refine Ztd ?_
   omega
  rw [Qy.eq_2]
  by_cases hia:i<a.length
  ·rw [if_pos (dT (by omega)),Ze0,if_pos rfl];exact go (.inl hia)
  ·rw [if_neg (dF (by omega))]
   by_cases hib:i<b.length
   ·rw [if_pos (dT (by omega)),Ze0,if_pos rfl];exact go (.inr (.inl hib))
   ·rw [if_neg (dF (by omega)),Ze0]
    by_cases hcp:0<c
    ·rw [if_pos (dT (by omega))];exact go (.inr (.inr hcp))
    ·have:c=0:=by omega
     subst this
     rw [if_neg (by decide),Tk e (by omega) (by omega),oB,aG (by omega),aG (by omega),Y0]
     simp
theorem Z0w {N:Nat} {a b:List Int} (ha:Zp a) (hb:Zp b) (hN:a.length+b.length+3<N) (hs:a.length+b.length<35184372087000):Zj4 N a b=some (Zf (Zc a+Zc b)):=by
 have:=Z0v N a b ha hb (by omega) hs N 0 [] 0 rfl .nil (by omega) (by omega) (by omega) (by omega)
 rw [aM,aM,Y0,dU] at this
 rw [Zj4,show (0:Int)=((0:Nat):Int) from rfl,this]
 simp
theorem Z15 (N:Nat) (a b:List Int) (j:Zp a) (h:Zp b) (q:a.length<N) (p:a.length<35184372088000):∀ (n i:Nat) (out:List Int) (c:Nat),out.length=i→Zp out→c≤1→i≤a.length→a.length<n+i→c+Zc (b.drop i)≤Zc (a.drop i)→
  Zar N a b n out (c:Int) (i:Int)=some (Zf (Zc out+4294967296 ^ i * (Zc (a.drop i) - (c+Zc (b.drop i)))),true)
 | 0,i,out,c,_,_,_,l,m,_=>by omega
 | n+1,i,out,c,e,f,o,l,m,g=>by
  rw [Zar.eq_2]
  by_cases hi:i<a.length
  ·have v:=Zgc j i
   have w:=Zgc h i
   rw [Tg a i,Tg b i] at g
   have go:∀ (d:Nat) (k:Int),d≤1→k=((Yb a i+4294967296 * d:Nat):Int)→Yb b i+c≤Yb a i+4294967296 * d→Yb a i+4294967296 * d<Yb b i+c+4294967296→Zkd out (c:Int) (i:Int) (Zar N a b n) ((Yb b i:Nat):Int) (d:Int) k=some (Zf (Zc out+4294967296 ^ i * (Zc (a.drop i) - (c+Zc (b.drop i)))),true):=fun d k t _ _ _=>by
    have ev:u32.wrap (u64.wrap (k - u64.wrap (((Yb b i:Nat):Int)+(c:Int))))=((Yb a i+4294967296 * d - (Yb b i+c):Nat):Int):=by
     rw [Xs (x:=((Yb b i:Nat):Int)+(c:Int)) (by omega),Xs (by omega),Um (by omega)];omega
    rw [Zkd,ev,Z7 (by simp only [aK,maxLen];omega),Zpm,Zv (by omega)]
    generalize u:Yb a i+4294967296 * d - (Yb b i+c)=s
    have r:=Z15 N a b j h q p n (i+1) (out++[(s:Int)]) d (by simp [e]) (f.app (.cons (by omega) .nil)) t (by omega) (by omega) (by omega)
    rw [show ((i+1:Nat):Int)=(i:Int)+1 by omega] at r
    rw [r,Q5,e,Wi,Y0,aC,Tg a i,Tg b i,bG,dV,bR]
    congr 3
    refine Ztd ?_
    omega
   rw [if_pos (dT (by omega)),Zgd j,Zgd h,oB,oB,Xs (x:=((Yb b i:Nat):Int)+(c:Int)) (by omega)]
   by_cases hlt:Yb a i<Yb b i+c
   ·rw [if_pos (dT (by omega))]
    exact go 1 _ (by omega) (by rw [Xs (by omega)];omega) (by omega) (by omega)
   ·rw [if_neg (dF (by omega))]
    exact go 0 _ (by omega) (by omega) (by omega) (by omega)
  ·rw [if_neg (dF (by omega)),Tk f (by omega) (by omega),oB]
   rw [aG (show a.length≤i by omega),Y0] at g ⊢
   rw [show 0 - (c+Zc (b.drop i))=0 by omega]
   simp
theorem Znw {N:Nat} {a b:List Int} (ha:Zp a) (hb:Zp b) (h1:a.length<N) (h2:b.length<N) (h3:a.length<35184372088000) (h4:b.length<35184372088000):
  Ze2 N a b=some (if Zc a<Zc b then ([],false) else (Zf (Zc a - Zc b),true)):=by
 rw [Ze2,Ztx ha hb h1 h2 (by omega) (by omega),oB]
 by_cases h:Zc a<Zc b
 ·rw [if_pos h,if_pos (by decide),if_pos h]
 ·have:=Z15 N a b ha hb h1 h3 N 0 [] 0 rfl .nil (by omega) (by omega) (by omega) (by simpa using Nat.le_of_not_lt h)
  rw [if_neg h,if_neg (by split <;> decide),if_neg h,show (0:Int)=((0:Nat):Int) from rfl,this]
  simp [Y0]
theorem Z1q (N:Nat) (a b:List Int) (ha:Zp a) (hb:Zp b) (i:Nat) (hi:i<a.length) (kk:List Int→Int→Option R2):∀ (n j:Nat) (p:List Int) (c:Nat),j≤b.length→b.length<n+j→i+b.length<p.length→p.length<4611686018427387904→Zp p→c<4294967296→Zc (p.drop (i+b.length))=0→
  ∃ p',Zhb N a b (i:Int) kk n (j:Int) p (c:Int)=kk p' ((i:Int)+1)∧p'.length=p.length∧Zp p'∧Zc p'=Zc p+4294967296 ^ (i+j) * (c+Yb a i * Zc (b.drop j))∧Zc (p'.drop (i+b.length+1))=0
 | 0,j,p,c,e,q,_,_,_,_,_=>by omega
 | n+1,j,p,c,e,q,f,r,g,C,l=>by
  rw [Zhb.eq_2]
  by_cases hj:j<b.length
  ·have d:i+j<p.length:=by omega
   have D:=g.get d
   have m:=ha.get hi
   have o:=hb.get hj
   have s:Yb a i=(a[i]).toNat:=by rw [Yb,aE,aL hi,dG]
   have E:a[i] * b[j]≤4294967295 * 4294967295:=Int.mul_le_mul (by omega) (by omega) (by omega) (by omega)
   have A:0≤a[i] * b[j]:=Int.mul_nonneg m.1 o.1
   have F:(((a[i]).toNat * (b[j]).toNat:Nat):Int)=a[i] * b[j]:=by rw [Int.natCast_mul,bM m.1,bM o.1]
   have t:u64.wrap (u64.wrap ((c:Int)+u64.wrap (u64.wrap a[i] * u64.wrap b[j]))+u64.wrap p[i+j])=((c+((a[i]).toNat * (b[j]).toNat+(p[i+j]).toNat):Nat):Int):=by
    rw [Xs (x:=a[i]) (by omega),Xs (x:=b[j]) (by omega),Xs (x:=a[i] * b[j]) (by omega),Xs (x:=p[i+j]) (by omega),Xs (x:=(c:Int)+_) (by omega),Xs (by omega)]
    omega
   rw [if_pos (dT (by omega)),Zs hi,oB,Zs hj,oB,Zv (x:=(i:Int)+(j:Int)) (by omega),show (i:Int)+(j:Int)=((i+j:Nat):Int) by omega,Zs d,oB,oB,aC,t]
   have B:c+((a[i]).toNat * (b[j]).toNat+(p[i+j]).toNat)<18446744073709551616:=by omega
   rw [Zun (by omega),Zum (by omega),aC,Zv (x:=(j:Int)+1) (by omega),show (j:Int)+1=((j+1:Nat):Int) by omega]
   generalize hS:c+((a[i]).toNat * (b[j]).toNat+(p[i+j]).toNat)=S at *
   obtain ⟨p',q1,u,v,w,y⟩:=Z1q N a b ha hb i hi kk n (j+1) (p.set (i+j) ((S % 4294967296:Nat):Int)) (S / 4294967296) (by omega) (by omega) (by rw [nS];exact f) (by rw [nS];exact r) (g.set _ (by omega)) (by omega) (by rw [Zaf _ (by omega)];exact l)
   refine ⟨p',q1,by rw [u,nS],v,?_,y⟩
   rw [w,← dZ i j 1,bG,Uy hj,s]
   exact Zy6 _ _ _ _ _ _ (p[i+j]).toNat (S % 4294967296) _ _ (by have:=Tw d ((S % 4294967296:Nat):Int);rw [aC] at this;exact this) (by omega)
  ·have:j=b.length:=by omega
   subst this
   have k:=drop_zero g f l
   rw [if_neg (dF (by omega)),Zv (x:=(i:Int)+(b.length:Int)) (by omega),show (i:Int)+(b.length:Int)=((i+b.length:Nat):Int) by omega,Zs f,oB,oB,aC,Um (by omega),Zv (by omega)]
   refine ⟨_,rfl,by rw [nS],g.set _ (by omega),?_,?_⟩
   ·have e:=Tw f (c:Int)
    rw [k.1,aC] at e
    rw [List.drop_length,Y0,dV,bR]
    simpa using e
   ·rw [Zaf _ (by omega)];exact k.2
theorem Z1p (N:Nat) (a b:List Int) (ha:Zp a) (hb:Zp b) (hN:a.length+b.length<N) (hs:a.length+b.length<35184372088000):∀ (n i:Nat) (p:List Int),i≤a.length→a.length<n+i→p.length=a.length+b.length→Zp p→Zc (p.drop (i+b.length))=0→
  Zc4 N a b n p (i:Int)=some (Zf (Zc p+4294967296 ^ i * (Zc (a.drop i) * Zc b)))
 | 0,i,p,e,f,_,_,_=>by omega
 | n+1,i,p,e,f,o,c,g=>by
  rw [Zc4.eq_2]
  by_cases hi:i<a.length
  ·obtain ⟨j,q1,q,k,l,m⟩:=Z1q N a b ha hb i hi (Zc4 N a b n) N 0 p 0 (by omega) (by omega) (by omega) (by omega) c (by omega) g
   rw [show ((0:Nat):Int)=0 from rfl] at q1
   have d:=Z1p N a b ha hb hN hs n (i+1) j (by omega) (by omega) (by omega) k (by rw [show i+1+b.length=i+b.length+1 by omega];exact m)
   rw [show ((i+1:Nat):Int)=(i:Int)+1 by omega] at d
   rw [if_pos (dT (by omega)),q1,d,l,Tg a i,bG,aM]
   congr 2
   simp only [bR,cC]
   grind
  ·rw [if_neg (dF (by omega)),Tk c (by omega) (by omega),oB,aG (by omega),Y0];simp
theorem Z1r {N:Nat} {a b:List Int} (ha:Zp a) (hb:Zp b) (h1:a.length+b.length<N) (h3:a.length+b.length<35184372088000):Ze1 N a b=some (Zf (Zc a * Zc b)):=by
 have c:=Yr ha
 have d:=Yr hb
 rw [Ze1,Tk ha (by omega) (by omega),oB,Tk hb (by omega) (by omega),oB,Zv (by omega),Z7 (by simp only [maxLen];omega)]
 have:=Z1p N (Zf (Zc a)) (Zf (Zc b)) (Xd _) (Xd _) (by omega) (by omega) N 0 (aD (aA (((Zf (Zc a)).length:Int)+((Zf (Zc b)).length:Int))) 0) (by omega) (by omega) (by rw [aS];omega) (.zeros _) (by rw [gQ];exact Sj _)
 rw [show ((0:Nat):Int)=0 from rfl] at this
 rw [this,Sj,aM,Xb,Xb]
 simp
theorem Z00 (N:Nat):∀ (n:Nat) (c:Int) (t:Nat),Xn t<n→t<4294967296→0≤c∧c+(Xn t:Int)≤4611686018427387904→Zg6 N n c (t:Int)=some (c+(Xn t:Int))
 | 0,c,t,h,_,_=>by omega
 | n+1,c,t,h,b,d=>by
  rw [Zg6.eq_2]
  have f:Xn t≤32:=Uh.2 (by omega)
  by_cases h0:0<t
  ·have e:u32.wrap (aR (t:Int) 2)=((t / 2:Nat):Int):=by rw [bV (by omega),Um (by omega)];omega
   have a:=Zlr t 1
   rw [Nat.pow_one] at a
   have g:1≤Xn t:=by rw [Xn,if_neg (by omega)];omega
   rw [if_pos (dT (by omega)),e,Zv (by omega),Z00 N n (c+1) (t / 2) (by omega) (by omega) (by omega)]
   congr 1;omega
  ·have:t=0:=by omega
   subst this
   rw [if_neg (by decide),Zio];simp
theorem Xa9 {N:Nat} {a:List Int} (h:Zp a) (hn:a.length+32<N) (hb:a.length≤35184372088000):Zmp N a=some ((Xn (Zc a):Nat):Int):=by
 have i:=Yr h
 rw [Zmp,Tk h (by omega) hb,oB]
 by_cases h0:(Zf (Zc a)).length=0
 ·have:Zc a=0:=Zi1.1 (cS h0)
  rw [if_pos (dT (by omega)),this,Zio];rfl
 ·have b:0<(Zf (Zc a)).length:=by omega
  have e:((Zf (Zc a)).length:Int) - 1=(((Zf (Zc a)).length - 1:Nat):Int):=by omega
  have j:=(Xd (Zc a)).get (k:=(Zf (Zc a)).length - 1) (by omega)
  have f:=Zpa b
  have c:=Zi0 b
  have d:(Zf (Zc a))[(Zf (Zc a)).length - 1]=(((Zf (Zc a))[(Zf (Zc a)).length - 1]).toNat:Int):=by omega
  have g:Xn ((Zf (Zc a))[(Zf (Zc a)).length - 1]).toNat≤32:=Uh.2 (by omega)
  rw [if_neg (dF (by omega)),Zv (by omega),e,Zs (by omega),oB,d,Zv (by omega),Z00 N N _ _ (by omega) (by omega) (by omega)]
  have hb:=Zu6 (a:=(Zf (Zc a)).take ((Zf (Zc a)).length - 1)) (x:=(Zf (Zc a))[(Zf (Zc a)).length - 1]) ((Xd _).take _) (by omega)
  rw [c,Xb,nK,aZ (by omega)] at hb
  rw [hb]
  congr 1
theorem Z4s (T l R k s:Nat) (hT:T<4294967296 ^ k) (hs:s<32):(T+4294967296 ^ k * (l+4294967296 * R)) / 2 ^ (32 * k+s) % 2=l / 2 ^ s % 2:=by
 have e:(4294967296:Nat) ^ k=2 ^ (32 * k):=by rw [show (4294967296:Nat)=2 ^ 32 by decide,← Nat.pow_mul]
 have a:0<4294967296 ^ k:=Nat.pow_pos (by decide)
 rw [dH,← e,← gG,gR _ _ a,fA hT,cC]
 have b:(4294967296:Nat)=2 ^ s * (2 * 2 ^ (31 - s)):=by
  rw [Nat.mul_left_comm,← dH,show s+(31 - s)=31 by omega]
 have c:l+4294967296 * R=l+2 ^ s * (2 * (2 ^ (31 - s) * R)):=by
  conv=>lhs;rw [b]
  rw [bT,bT]
 rw [c,gR _ _ (bY s),Nat.add_mul_mod_self_left]
theorem Xa8 {a:List Int} (h:Zp a) {i:Nat} (hi:i<4611686018427387904):Zmo a (i:Int)=some ((Zc a / 2 ^ i % 2:Nat):Int):=by
 have e:=Zgc h (i / 32)
 have c:i64.wrap (aR (i:Int) 32)=((i / 32:Nat):Int):=by rw [bV (by omega),Zv (by omega)];omega
 have d:bK (i:Int) 32=((i % 32:Nat):Int):=by rw [cH (by omega)];omega
 rw [Zmo,c,Zgd h,oB,d,Z7 (by omega),Zq7 _ _ _ (by simp only [IntKind.bits];omega)]
 have f:=cJ (Yb a (i / 32)) (2 ^ (i % 32))
 have b:=Z4s (Zc (a.take (i / 32))) (Yb a (i / 32)) (Zc (a.drop (i / 32+1))) (i / 32) (i % 32) (Zp6 h _) (by omega)
 rw [← Tg a,← Tx,show 32 * (i / 32)+i % 32=i by omega] at b
 rw [b]
 generalize Yb a (i / 32) / 2 ^ (i % 32)=x at *
 rw [Um (by omega),cH (by omega)]
 congr 1
theorem Z06 (N:Nat) (a:List Int) (ha:Zp a) (hs:a.length<35184372088000):∀ (n i:Nat) (out:List Int) (c:Nat),out.length=i→Zp out→c≤1→i≤a.length→a.length<n+i→
  ∃ o,Zhd N a n out (c:Int) (i:Int)=some o∧o.length≤a.length+1∧Zp o∧Zc o=Zc out+4294967296 ^ i * (c+2 * Zc (a.drop i))
 | 0,i,out,c,_,_,_,e,f=>by omega
 | n+1,i,out,c,b,d,p,e,f=>by
  rw [Zhd.eq_2]
  by_cases hi:i<a.length
  ·have q:=ha.get hi
   have g:u64.wrap ((c:Int)+u64.wrap (2 * u64.wrap a[i]))=((c+2 * (a[i]).toNat:Nat):Int):=by
    rw [Xs (x:=a[i]) (by omega),Xs (x:=2 * _) (by omega),Xs (by omega)];omega
   rw [if_pos (dT (by omega)),Zs hi,oB,g,Zun (by omega),Zum (by omega),aC]
   generalize hS:c+2 * (a[i]).toNat=S
   rw [Z7 (by simp only [aK,maxLen];omega),Zv (by omega)]
   obtain ⟨o,q1,j,k,l⟩:=Z06 N a ha hs n (i+1) (out++[((S % 4294967296:Nat):Int)]) (S / 4294967296) (by simp [b]) (d.app (.cons (by omega) .nil)) (by omega) (by omega) (by omega)
   rw [show ((i+1:Nat):Int)=(i:Int)+1 by omega] at q1
   refine ⟨o,q1,j,k,?_⟩
   rw [l,Q5,b,Wi,Y0,aC,Uy hi,bG,dV,bR]
   refine Ztd ?_
   omega
  ·have m:i=a.length:=by omega
   rw [if_neg (dF (by omega))]
   by_cases hcp:0<c
   ·rw [if_pos (dT (by omega)),Z7 (by simp only [aK,maxLen];omega),Zkf,Um (by omega)]
    refine ⟨_,rfl,by simp;omega,d.app (.cons (by omega) .nil),?_⟩
    rw [Q5,b,Wi,Y0,aC,aG (by omega),Y0]
   ·have:c=0:=by omega
    subst this
    rw [if_neg (by decide),Zkf]
    refine ⟨_,rfl,by omega,d,?_⟩
    rw [aG (by omega),Y0];simp
theorem Z07 {N:Nat} {a:List Int} {c:Nat} (ha:Zp a) (hc:c≤1) (hN:a.length<N) (hs:a.length<35184372088000):∃ o,Zke N a (c:Int)=some o∧o.length≤a.length+1∧Zp o∧Zc o=2 * Zc a+c:=by
 obtain ⟨o,q1,b,d,e⟩:=Z06 N a ha hs N 0 [] c rfl .nil hc (by omega) (by omega)
 refine ⟨o,?_,b,d,?_⟩
 ·rw [Zke,Xs (by omega)];exact q1
 ·rw [e,Y0,dU,aM];omega
theorem Z8y (Q e o2 r S v L:Nat) (h:r * 4294967296+e=2 * v+o2) (hS:S=Q * (o2+2 * (v+4294967296 * L))):S=Q * e+Q * 4294967296 * (r+2 * L):=by
 subst hS
 have:Q * (r * 4294967296+e)=Q * (2 * v+o2):=by rw [h]
 grind
theorem Z1o (N:Nat) (a:List Int) (ha:Zp a) (hN:a.length<N) (hs:a.length<35184372088000):∀ (n j:Nat) (out:List Int) (r:Nat),out.length=a.length→Zp out→r≤1→j≤a.length→j<n→Zc (out.take j)=0→
  ∃ v,Zhe N a n out (r:Int) ((j:Int) - 1)=some (Zf v)∧∃ ρ,ρ≤1∧2 * v+ρ=Zc (a.take j)+4294967296 ^ j * (r+2 * Zc (out.drop j))
 | 0,j,out,r,_,_,_,_,h,_=>by omega
 | n+1,j,out,r,i,c,k,y,A,l=>by
  rw [Zhe.eq_2]
  by_cases h0:j=0
  ·subst h0
   rw [if_neg (by decide),Tk c (by omega) (by omega),oB]
   refine ⟨_,rfl,r,k,?_⟩
   rw [List.take_zero,Y0,aM,dU];omega
  ·have e:(j:Int) - 1=((j - 1:Nat):Int):=by omega
   have m:j - 1+1=j:=by omega
   have b:j - 1<a.length:=by omega
   have g:=ha.get b
   have o:u64.wrap (u64.wrap ((r:Int) * 4294967296)+u64.wrap a[j - 1])=((r * 4294967296+(a[j - 1]).toNat:Nat):Int):=by
    rw [Xs (x:=a[j - 1]) (by omega),Xs (x:=(r:Int) * 4294967296) (by omega),Xs (by omega)];omega
   rw [if_pos (dT (by omega)),e,Zs b,oB,Zs (by omega),oB,oB,aC,o,Zv (by omega)]
   generalize hS:r * 4294967296+(a[j - 1]).toNat=S
   have p:u32.wrap (u64.wrap (aR (S:Int) 2))=((S / 2:Nat):Int):=by rw [bV (by omega),Xs (by omega),Um (by omega)];omega
   have q:bK (S:Int) 2=((S % 2:Nat):Int):=by rw [cH (by omega)];omega
   have s:Zc (out.take (j - 1))=0:=by
    have:=Tx (out.take j) (j - 1)
    rw [gO,aZ (by omega),l] at this
    omega
   rw [p,q]
   obtain ⟨v,q1,ρ,t,u⟩:=Z1o N a ha hN hs n (j - 1) (out.set (j - 1) ((S / 2:Nat):Int)) (S % 2) (by rw [nS];exact i) (c.set _ (by omega)) (by omega) (by omega) (by omega) (by rw [Zfz _ (aX _)];exact s)
   refine ⟨v,q1,ρ,t,?_⟩
   rw [u]
   have d:=Zs8 b
   have f:Zc ((out.set (j - 1) ((S / 2:Nat):Int)).drop (j - 1))=S / 2+4294967296 * Zc (out.drop (j - 1+1)):=by
    rw [Uy (by rw [nS];omega),List.getElem_set_self,Zaf _ (by omega),aC]
   rw [m] at d f
   have w:(4294967296:Nat) ^ j=4294967296 ^ (j - 1) * 4294967296:=by rw [← bG,show (j - 1).succ=j by omega]
   rw [d,f,w,dZ]
   congr 1
   exact Z8y _ _ (S % 2) _ _ (S / 2) _ (by omega) rfl
theorem Zqz {N:Nat} {a:List Int} (ha:Zp a) (hN:a.length<N) (hs:a.length<35184372088000):Ze4 N a=some (Zf (Zc a / 2)):=by
 obtain ⟨v,q1,ρ,c,b⟩:=Z1o N a ha hN hs N a.length (aD a.length 0) 0 (by rw [aS]) (.zeros _) (by omega) (aX _) hN (by rw [List.take_replicate];exact Sj _)
 rw [Ze4,Z7 (by simp only [maxLen];omega),Zv (by omega)]
 rw [dY,gQ,Sj] at b
 refine Eq.trans q1 ?_
 rw [show v=Zc a / 2 by omega]
theorem Z97 {a:List Int} (h:Zp a):Zc a % 2=Yb a 0 % 2:=by
 have:=Tg a 0
 rw [aM] at this
 omega
theorem Zqw {a:List Int} (h:Zp a):Ze3 a=some (decide (Zc a % 2=0)):=by
 rw [Ze3,Z97 h]
 by_cases h0:a.length=0
 ·have:a=[]:=cS h0
  subst this
  rfl
 ·have g:=h.get (k:=0) (by omega)
  have b:Yb a 0=(a[0]).toNat:=by rw [Yb,aE,aL (by omega),dG]
  rw [if_neg (dF (by omega)),show (0:Int)=((0:Nat):Int) from rfl,Zs (by omega),oB,Zms,cH (by omega),b]
  congr 1
  exact decide_eq_decide.2 (by omega)
theorem Xao {q:List Int} (hq:Zp q) {i:Nat} (hi:i<32 * q.length) (hd:2 ^ (i+1) ∣ Zc q):
  ∃ x:Nat,Zk q ((i / 32:Nat):Int)=some (x:Int)∧u32.wrap ((x:Int)+Yi .u32 1 ((i % 32:Nat):Int))=((x+2 ^ (i % 32):Nat):Int)∧x+2 ^ (i % 32)<4294967296∧Zc (q.set (i / 32) ((x+2 ^ (i % 32):Nat):Int))=Zc q+2 ^ i:=by
 have a:i / 32<q.length:=by omega
 have g:=hq.get a
 have m:i % 32<32:=Nat.mod_lt _ (by decide)
 have A:=bY (i % 32)
 have c:(4294967296:Nat) ^ (i / 32)=2 ^ (32 * (i / 32)):=by rw [show (4294967296:Nat)=2 ^ 32 by decide,← Nat.pow_mul]
 have d:(4294967296:Nat)=2 ^ (i % 32+1) * 2 ^ (31 - i % 32):=by rw [← dH,show i % 32+1+(31 - i % 32)=32 by omega]
 have n:(2:Nat) ^ (i+1)=4294967296 ^ (i / 32) * 2 ^ (i % 32+1):=by rw [c,← dH];congr 1;omega
 have f:(2:Nat) ^ i=4294967296 ^ (i / 32) * 2 ^ (i % 32):=by rw [c,← dH];congr 1;omega
 have b:=Tx q (i / 32)
 rw [Uy a] at b
 have o:=Zp6 hq (i / 32)
 have p:0<4294967296 ^ (i / 32):=Nat.pow_pos (by decide)
 rw [n] at hd
 -- the limb's lower bits are none
 have r:2 ^ (i % 32+1) ∣ (q[i / 32]).toNat:=by
  have j:4294967296 ^ (i / 32) ∣ Zc q:=Nat.dvd_trans ⟨_,rfl⟩ hd
  have s:4294967296 ^ (i / 32) ∣ Zc (q.take (i / 32)):=by
   rw [b] at j
   exact (jX ⟨_,rfl⟩).1 j
  have z:Zc (q.take (i / 32))=0:=Nat.eq_zero_of_dvd_of_lt s o
  rw [z,cC] at b
  rw [b] at hd
  have t:=Nat.dvd_of_mul_dvd_mul_left p hd
  have u:2 ^ (i % 32+1) ∣ 4294967296 * Zc (q.drop (i / 32+1)):=by
   conv=>rhs;rw [d]
   exact ⟨2 ^ (31 - i % 32) * Zc (q.drop (i / 32+1)),by rw [bT]⟩
  exact (jX u).1 t
 obtain ⟨y,k⟩:=r
 have l:(q[i / 32]).toNat+2 ^ (i % 32)<4294967296:=by
  have e:2 ^ (i % 32+1) * y<2 ^ (i % 32+1) * 2 ^ (31 - i % 32):=by rw [← k,← d];omega
  have v:=Nat.lt_of_mul_lt_mul_left e
  have w:=aY (2 ^ (i % 32+1)) (show y+1≤2 ^ (31 - i % 32) from v)
  rw [← d,Nat.mul_add,← k,bG] at w
  omega
 refine ⟨(q[i / 32]).toNat,by rw [Zs a];congr 1;omega,?_,l,?_⟩
 ·rw [show (1:Int)=((1:Nat):Int) from rfl,Zub m (.inl rfl),aV,Um (x:=((2 ^ (i % 32):Nat):Int)) (by omega),Um (by omega)]
  omega
 ·have e:=Tw a (((q[i / 32]).toNat+2 ^ (i % 32):Nat):Int)
  rw [aC,Nat.mul_add,← f] at e
  omega
theorem Zt0 (N:Nat) (a y:List Int) (ha:Zp a) (hy:Zp y) (hy0:0<Zc y) (hly:y.length+8<N) (hs:y.length<35184372000000) (hla:a.length<35184372000000) (hyc:(Zf (Zc y)).length=y.length) (hNa:a.length+y.length+8<N):∀ (n j:Nat) (r q:List Int),j<n→j<4611686018427387904→j≤32 * q.length→q.length≤a.length→Zp q→r=Zf (Zc r)→Zc r<Zc y→2 ^ j ∣ Zc q→Zc a / 2 ^ j=Zc q / 2 ^ j * Zc y+Zc r→
  Zc2 N a y n r ((j:Int) - 1) q=some (Zf (Zc a / Zc y),Zf (Zc a % Zc y),0)
 | 0,j,r,q,h,_,_,_,_,_,_,_,_=>by omega
 | n+1,j,r,q,O,R,P,p,m,t,g,C,k=>by
  rw [Zc2.eq_2]
  by_cases h0:j=0
  ·subst h0
   rw [dU,Nat.div_one,Nat.div_one] at k
   rw [if_neg (by decide),Tk m (by omega) (by omega),oB]
   have D:Zc a / Zc y=Zc q:=by rw [k,bS,Nat.mul_add_div hy0,fA g,bR]
   have u:Zc a % Zc y=Zc r:=by rw [k,bS,Nat.mul_add_mod,Nat.mod_eq_of_lt g]
   rw [D,u,← t]
  ·have e:(j:Int) - 1=((j - 1:Nat):Int):=by omega
   obtain ⟨i,rfl⟩:∃ i,j=i+1:=⟨j - 1,by omega⟩
   have E:i+1 - 1=i:=by omega
   rw [e,E]
   have Q:r.length≤y.length:=by
    rw [t,← hyc];exact Y7 (Nat.le_of_lt g)
   have v:Zp r:=by rw [t];exact Xd _
   have S:=Nat.mod_lt (Zc a / 2 ^ i) (show 0<2 by decide)
   obtain ⟨d,F,T,o,w⟩:=Z07 (N:=N) (a:=r) (c:=Zc a / 2 ^ i % 2) v (by omega) (by omega) (by omega)
   have u:Zc a / 2 ^ i=2 * (Zc a / 2 ^ (i+1))+Zc a / 2 ^ i % 2:=by
    rw [bG,← gG];omega
   obtain ⟨qq,f⟩:=C
   have A:Zc q / 2 ^ (i+1)=qq:=by rw [f,fS _ (bY _)]
   have s:Zc q / 2 ^ i=2 * qq:=by rw [f,bG,bT,fS _ (bY _)]
   rw [A] at k
   rw [if_pos (dT (by omega)),Xa8 ha (by omega),oB,F,oB,Tk o (by omega) (by omega),oB,Ztx (Xd _) hy (by have:=Yr o;omega) (by omega) (by have:=Yr o;omega) (by omega),oB,Xb,w]
   rw [k] at u
   have l:Zc a / 2 ^ i=2 * qq * Zc y+(2 * Zc r+Zc a / 2 ^ i % 2):=by
    have:2 * qq * Zc y=2 * (qq * Zc y):=bT _ _ _
    omega
   generalize hbit:Zc a / 2 ^ i % 2=b at *
   by_cases hge:Zc y≤2 * Zc r+b
   ·rw [if_pos (by rw [if_neg (by omega)];split <;> decide)]
    obtain ⟨x,G,H,I,B⟩:=Xao m (i:=i) (by omega) ⟨qq,f⟩
    have J:i64.wrap (aR (i:Int) 32)=((i / 32:Nat):Int):=by rw [bV (by omega),Zv (by omega)];omega
    have K:bK (i:Int) 32=((i % 32:Nat):Int):=by rw [cH (by omega)];omega
    have U:(Zf (2 * Zc r+b)).length≤y.length+1:=by rw [← w];exact aT (Yr o) (by omega)
    rw [Znw (Xd _) hy (by omega) (by omega) (by omega) (by omega),oB,Xb,if_neg (by omega),J,K,G,oB,Z7 (by omega),H,oB,aC,Zj7,Zv (by omega)]
    have L:=Zt0 N a y ha hy hy0 hly hs hla hyc hNa n i (Zf (2 * Zc r+b - Zc y)) (q.set (i / 32) ((x+2 ^ (i % 32):Nat):Int)) (by omega) (by omega) (by rw [nS];omega) (by rw [nS];exact p) (m.set _ ⟨Int.natCast_nonneg _,Int.ofNat_lt.2 I⟩) (by rw [Xb]) (by rw [Xb];omega) (by
     rw [B,f];exact Nat.dvd_add ⟨2 * qq,by rw [bG,bT]⟩ (Nat.dvd_refl _)) (by
     have:Zc (q.set (i / 32) ((x+2 ^ (i % 32):Nat):Int)) / 2 ^ i=2 * qq+1:=by
      rw [B,Nat.add_div_right _ (bY _),s]
     rw [this,Xb,l,Nat.add_mul,aV];omega)
    exact L
   ·rw [if_neg (by rw [if_pos (by omega)];decide),Zj7,Zv (by omega)]
    exact Zt0 N a y ha hy hy0 hly hs hla hyc hNa n i (Zf (2 * Zc r+b)) q (by omega) (by omega) (by omega) p m (by rw [Xb]) (by rw [Xb];omega) (by rw [f];exact ⟨2 * qq,by rw [bG,bT]⟩) (by rw [s,Xb,l])
theorem Z05 {N:Nat} {a b:List Int} (ha:Zp a) (hb:Zp b) (hN:32 * a.length+(Zf (Zc b)).length+48<N) (hbN:b.length<N) (hs:a.length+(Zf (Zc b)).length<35184370000000) (hbs:b.length≤35184372000000):
  Zj6 N a b=some (if Zc b=0 then ([],[],11) else (Zf (Zc a / Zc b),Zf (Zc a % Zc b),0)):=by
 have f:=Yr ha
 rw [Zj6,Tk hb (by omega) (by omega),oB]
 by_cases h0:Zc b=0
 ·rw [h0,Vh,if_pos (by decide),if_pos rfl]
 ·have d:=U8 h0
  have e:=(Zoe (Zc a)).2
  rw [if_neg (dF (by omega)),if_neg h0,Xa9 ha (by omega) (by omega),oB]
  have c:i64.wrap (aR (i64.wrap (((Xn (Zc a):Nat):Int)+31)) 32)=(((Xn (Zc a)+31) / 32:Nat):Int):=by
   rw [Zv (x:=((Xn (Zc a):Nat):Int)+31) (by omega),bV (by omega),Zv (by omega)];omega
  rw [c,Z7 (by simp only [maxLen,aC];omega),aC,Zv (by omega)]
  have:=Zt0 N a (Zf (Zc b)) ha (Xd _) (by rw [Xb];omega) (by omega) (by omega) (by omega) (by rw [Xb]) (by omega) N (Xn (Zc a)) [] (aD ((Xn (Zc a)+31) / 32) 0) (by omega) (by omega) (by rw [aS];omega) (by rw [aS];omega) (.zeros _) (by rw [Y0,Vh]) (by rw [Xb,Y0];omega) (by rw [Sj];exact ⟨0,rfl⟩) (by
   rw [Sj,Y0,Nat.zero_div,Nat.zero_mul]
   exact fA (Uh.1 (aX _)))
  rw [Xb] at this
  exact this
theorem Z7n {x:Nat} (h:x % 2=1):Nat.Coprime 2 x:=by
 rw [Nat.coprime_iff_gcd_eq_one,Nat.gcd_rec,h,Nat.gcd_one_left]
theorem Zxn {x y k:Nat} (h:y % 2=1):cX (2 ^ k * x) y=cX x y:=by
 induction k with
 | zero=>rw [dU,aV]
 | succ k a=>rw [bG,bS (2 ^ k),bT,(Z7n h).gcd_mul_left_cancel,a]
theorem Z8u {x y k:Nat} (h:x % 2=1):cX x (2 ^ k * y)=cX x y:=by
 rw [fE,Zxn h,fE]
theorem Zof {x:Nat} (h:x≠0):1≤Xn x:=by rw [Xn,if_neg h];omega
theorem Zod (x:Nat):Xn (x / 2)=Xn x - 1:=by
 have:=Zlr x 1
 rwa [Nat.pow_one] at this
theorem Zlq {x y:Nat} (h:x≤y):Xn x≤Xn y:=Uh.2 (Nat.lt_of_le_of_lt h (Uh.1 (aX _)))
theorem Zlp {M x:Nat} (h:(Zf x).length≤M):Xn x≤32 * M:=by have:=(Zoe x).2;omega
theorem Zx6 {x xo k:Nat} (h:x=2 ^ k * xo):xo≤x:=by
 rw [h]
 have:=bD xo (bY k)
 omega
section
variable {N M:Nat} (hN:100 * M+64<N) (hM:M<1066000000100)
include hN hM
theorem Z1m (t:Nat):∀ (n i:Nat) (x:List Int),i≤t→t - i<n→t≤32 * M→Zp x→x.length+(t - i)≤33 * M→
  ∃ g,Zha N (t:Int) n x (i:Int)=some g∧Zp g∧Zc g=2 ^ (t - i) * Zc x∧g.length≤x.length+(t - i)
 | 0,i,x,_,h,_,_,_=>by omega
 | n+1,i,x,p,q,j,b,r=>by
  rw [Zha.eq_2]
  by_cases h0:i<t
  ·obtain ⟨d,e,s,k,l⟩:=Z07 (N:=N) (a:=x) (c:=0) b (by omega) (by omega) (by omega)
   rw [show ((0:Nat):Int)=0 from rfl] at e
   obtain ⟨g,f,m,o,u⟩:=Z1m t n (i+1) d (by omega) (by omega) j k (by omega)
   rw [show ((i+1:Nat):Int)=(i:Int)+1 by omega] at f
   rw [if_pos (dT (by omega)),e,oB,Zv (by omega)]
   refine ⟨g,f,m,?_,by omega⟩
   rw [o,l,bR (2 * Zc x),← bT,← bG]
   congr 2;omega
  ·have:i=t:=by omega
   subst this
   rw [if_neg (dF (by omega))]
   exact ⟨x,rfl,b,by simp,by omega⟩
theorem Z1l (kk:List Int→List Int→Option R2) {x:Nat} (hx:(Zf x).length≤M):∀ (n y:Nat),y≠0→Xn y<n→(Zf y).length≤M→
  ∃ yo k,y=2 ^ k * yo∧yo % 2=1∧Zbz N kk (Zf x) n (Zf y)=kk (Zf (min x yo)) (Zf (max x yo - min x yo))
 | 0,y,_,h,_=>by omega
 | n+1,y,a,f,b=>by
  have g:=U8 a
  rw [Zbz.eq_2,if_pos (dT (by omega)),Zqw (Xd _),Xb,oB,Zmr]
  by_cases he:y % 2=0
  ·rw [if_pos (dT he),Zqz (Xd _) (by omega) (by omega),oB,Xb]
   have i:=Zod y
   have j:=Zof a
   obtain ⟨yo,k,c,d,e⟩:=Z1l kk hx n (y / 2) (by omega) (by omega) (aT (Y7 (cJ _ _)) b)
   refine ⟨yo,k+1,?_,d,e⟩
   rw [bG,bS (2 ^ k),bT,← c];omega
  ·rw [if_neg (dF he),Ztx (Xd _) (Xd _) (by omega) (by omega) (by omega) (by omega),oB,Xb,Xb]
   refine ⟨y,0,by simp,by omega,?_⟩
   by_cases hxy:y<x
   ·rw [if_pos (by rw [if_neg (by omega),if_pos hxy];decide),Zj9,Znw (Xd _) (Xd _) (by omega) (by omega) (by omega) (by omega),oB,Xb,Xb,if_neg (by omega),dN (by omega),gA (by omega)]
   ·rw [if_neg (by split <;> (try split) <;> simp_all <;> omega),Zj9,Znw (Xd _) (Xd _) (by omega) (by omega) (by omega) (by omega),oB,Xb,Xb,if_neg (by omega),aZ (by omega),fT (by omega)]
theorem Z1k (kk:List Int→List Int→Option R2) {y:Nat}:∀ (n x:Nat),x≠0→Xn x<n→(Zf x).length≤M→
  ∃ xo k,x=2 ^ k * xo∧xo % 2=1∧Zg9 N (Zf y) kk n (Zf x)=Zbz N kk (Zf xo) N (Zf y)
 | 0,x,_,h,_=>by omega
 | n+1,x,a,f,b=>by
  rw [Zg9.eq_2,Zqw (Xd _),Xb,oB]
  by_cases he:x % 2=0
  ·rw [if_pos (dT he),Zqz (Xd _) (by omega) (by omega),oB,Xb]
   have g:=Zod x
   have i:=Zof a
   obtain ⟨xo,k,c,d,e⟩:=Z1k kk n (x / 2) (by omega) (by omega) (aT (Y7 (cJ _ _)) b)
   refine ⟨xo,k+1,?_,d,e⟩
   rw [bG,bS (2 ^ k),bT,← c];omega
  ·rw [if_neg (dF he)]
   exact ⟨x,0,by simp,by omega,rfl⟩
theorem Z1n (t:Nat) {n x y:Nat} (hx:x≠0) (hy:y≠0) (h:x % 2=1∨y % 2=1) (lx:(Zf x).length≤M) (ly:(Zf y).length≤M):
  ∃ x' y',Ux N (t:Int) (n+1) (Zf x) (Zf y)=Ux N (t:Int) n (Zf x') (Zf y')∧x' % 2=1∧y' % 2=0∧cX x' y'=cX x y∧(Zf x').length≤M∧(Zf y').length≤M∧(Xn x'+Xn y'≤Xn x+Xn y)∧(y % 2=0→Xn x'+Xn y'+1≤Xn x+Xn y):=by
 have w:=U8 hy
 have A:=Zlp lx
 have s:=Zlp ly
 obtain ⟨a,k,g,j,m⟩:=Z1k hN hM (Ux N (t:Int) n) (y:=y) N x hx (by omega) lx
 have f:=Zx6 g
 obtain ⟨yo,l,d,o,p⟩:=Z1l hN hM (Ux N (t:Int) n) (x:=a) (aT (Y7 f) lx) N y hy (by omega) ly
 have i:=Zx6 d
 rw [Ux.eq_2,if_pos (dT (by omega)),m,p]
 have B:max a yo≤max x y:=by omega
 have lM:(Zf (max x y)).length≤M:=by
  rcases iV x y with h | h
  ·rw [fT h];exact ly
  ·rw [gA h];exact lx
 have u:Xn (min a yo)+Xn (max a yo - min a yo)≤Xn a+Xn yo:=by
  rcases iV a yo with h | h
  ·rw [aZ h,fT h]
   have:=Zlq (iJ yo a);omega
  ·rw [dN h,gA h]
   have:=Zlq (iJ a yo);omega
 have C:=Zlq f
 have D:=Zlq i
 refine ⟨_,_,rfl,by omega,by omega,?_,aT (Y7 (by omega)) lM,aT (Y7 (by omega)) lM,by omega,fun v=>?_⟩
 ·have q:cX (min a yo) (max a yo - min a yo)=cX a yo:=by
   rcases iV a yo with h | h
   ·rw [aZ h,fT h,iW h]
   ·rw [dN h,gA h,iW h,fE]
  rw [q,g,d]
  rcases h with h | h
  ·have c:k=0:=by
    rcases fL k with c | c
    ·exact c
    ·obtain ⟨b,rfl⟩:∃ b,k=b+1:=⟨k - 1,by omega⟩
     rw [g,bG,bS (2 ^ b),bT] at h;omega
   subst c
   rw [dU,aV,Z8u j]
  ·have e:l=0:=by
    rcases fL l with c | c
    ·exact c
    ·obtain ⟨b,rfl⟩:∃ b,l=b+1:=⟨l - 1,by omega⟩
     rw [d,bG,bS (2 ^ b),bT] at h;omega
   subst e
   rw [dU,aV,Zxn o]
 ·have:yo≤y / 2:=by
   rcases fL l with e | e
   ·subst e;rw [dU,aV] at d;omega
   ·obtain ⟨b,rfl⟩:∃ b,l=b+1:=⟨l - 1,by omega⟩
    rw [d,bG,bS (2 ^ b),bT,fS _ (by decide)]
    have:=bD yo (bY b)
    omega
  have r:=Zlq this
  rw [Zod] at r
  have E:=Zof hy
  omega
theorem Z1j (t:Nat) (ht:t≤32 * M):∀ (n x y:Nat),x % 2=1→y % 2=0→Xn x+Xn y<n→(Zf x).length≤M→(Zf y).length≤M→
  ∃ g,Ux N (t:Int) n (Zf x) (Zf y)=some g∧Zp g∧Zc g=2 ^ t * cX x y∧g.length≤33 * M
 | 0,x,y,_,_,h,_,_=>by omega
 | n+1,x,y,e,f,v,i,j=>by
  by_cases h0:y=0
  ·subst h0
   rw [Ux.eq_2,Vh,if_neg (by decide)]
   obtain ⟨g,b,c,a,d⟩:=Z1m hN hM t N 0 (Zf x) (by omega) (by omega) ht (Xd _) (by omega)
   rw [Xb,Nat.sub_zero] at a
   exact ⟨g,b,c,by rw [a,jP],by omega⟩
  ·obtain ⟨k,l,m,o,p,q,r,s,_,u⟩:=Z1n hN hM t (n:=n) (by omega) h0 (.inl e) i j
   have:=u f
   obtain ⟨g,b,c,a,d⟩:=Z1j t ht n k l o p (by omega) r s
   exact ⟨g,by rw [m,b],c,by rw [a,q],d⟩
theorem Z1i:∀ (n x y t:Nat),x≠0→y≠0→Xn x<n→t+Xn x≤32 * M→(Zf x).length≤M→(Zf y).length≤M→
  ∃ g,Zc3 N n (Zf x) (Zf y) (t:Int)=some g∧Zp g∧Zc g=2 ^ t * cX x y∧g.length≤33 * M
 | 0,x,y,t,_,_,h,_,_,_=>by omega
 | n+1,x,y,t,k,l,B,C,d,e=>by
  have D:=Zlp d
  have w:=Zlp e
  have a:(x % 2=1∨y % 2=1)→∃ g,Ux N (t:Int) N (Zf x) (Zf y)=some g∧Zp g∧Zc g=2 ^ t * cX x y∧g.length≤33 * M:=fun h=>by
   obtain ⟨b,A⟩:∃ b,N=b+1:=⟨N - 1,by omega⟩
   obtain ⟨m,o,p,q,r,s,u,v,E,_⟩:=Z1n hN hM t (n:=b) k l h d e
   obtain ⟨g,c,f,i,j⟩:=Z1j hN hM t (by omega) b m o q r (by omega) u v
   refine ⟨g,?_,f,by rw [i,s],j⟩
   rw [← c,← p]
   congr 1
  rw [Zc3.eq_2,Zqw (Xd _),Xb,oB]
  by_cases hxe:x % 2=0
  ·rw [if_pos (dT hxe),Zqw (Xd _),Xb,oB,Zj8]
   by_cases hye:y % 2=0
   ·rw [if_pos (dT hye),Zqz (Xd _) (by omega) (by omega),oB,Zqz (Xd _) (by omega) (by omega),oB,Xb,Xb,Zv (by omega)]
    have F:=Zod x
    have G:=Zof k
    obtain ⟨g,c,f,i,j⟩:=Z1i n (x / 2) (y / 2) (t+1) (by omega) (by omega) (by omega) (by omega) (aT (Y7 (cJ _ _)) d) (aT (Y7 (cJ _ _)) e)
    rw [show ((t+1:Nat):Int)=(t:Int)+1 by omega] at c
    refine ⟨g,c,f,?_,j⟩
    rw [i,bG,bT,← Nat.gcd_mul_left]
    congr 2 <;> omega
   ·rw [if_neg (dF hye)]
    exact a (.inr (by omega))
  ·rw [if_neg (dF hxe),Zj8,if_neg (by decide)]
   exact a (.inl (by omega))
end
theorem Xbl {N M:Nat} {a b:List Int} (ha:Zp a) (hb:Zp b) (hla:a.length≤M) (hlb:b.length≤M) (hN:100 * M+64<N) (hM:M<1066000000100):∃ g,Zmq N a b=some g∧Zp g∧Zc g=cX (Zc a) (Zc b)∧g.length≤33 * M:=by
 have i:=Yr ha
 have j:=Yr hb
 rw [Zmq,Tk ha (by omega) (by omega),oB,Tk hb (by omega) (by omega),oB]
 by_cases h1:Zc a=0
 ·rw [h1,Vh,if_pos (by decide),Nat.gcd_zero_left]
  exact ⟨_,rfl,Xd _,Xb _,by omega⟩
 ·have p1:=U8 h1
  rw [if_neg (dF (by omega))]
  by_cases h2:Zc b=0
  ·rw [h2,Vh,if_pos (by decide),jP]
   exact ⟨_,rfl,Xd _,Xb _,by omega⟩
  ·have p2:=U8 h2
   have k:=Zlp (x:=Zc a) (by omega)
   rw [if_neg (dF (by omega))]
   obtain ⟨g,c,d,e,f⟩:=Z1i hN hM N (Zc a) (Zc b) 0 h1 h2 (by omega) (by omega) (by omega) (by omega)
   exact ⟨g,c,d,by rw [e];simp,f⟩
def Zpq:Option R2:=
  some [1]
theorem Z6a {col:Ze} {a:World} {r:R2} (d:Nat) (c:Zpq=some r):
    Calls prog 147 #[] a (Vr .u32 45 d col a r):=by
 refine Xc 0 (m:=2) func147 rfl rfl rfl rfl rfl ?_;rw [Zpq.eq_1] at c;have b:=St.start col a;refine go ?_;refine V5 (col:=(Zh col)) [1] 1 fun _ _ _ e f=>go ?_;cases c;replace b:=b.grow e;exact ⟨rfl,_,_,1,rfl,b.fin (cm [(1,d)]),b.fo f⟩
def Sh (N:Nat) (b:R1):Option R2:=
  (V9 N b.2).bind fun a=>if (decide ((a.length:Int)=0))=true then ((Zpq).bind fun c=>some c) else (some a)
theorem Zbg {N d f:Nat} {g i:Option Addr} {col:Ze} {h:World} {b:R1} {r:R2} (j:Nat) (a:Sh N b=some r) (u:Sl rU col h g d b.1.2) (c:Sl rU col h i f b.2):
    Calls prog 107 #[(.agg #[.bool b.1.1,.slice g b.1.2.length d,.slice i b.2.length f])] h (Vr .u32 45 j col h r):=by
 refine Xc 2 (m:=12) func107 rfl rfl rfl rfl rfl ?_;rw [Sh.eq_1] at a;have e:=St.start col h;refine go ?_;refine Xg (col:=(Zh col)) 1 rfl fun _ _ _ v l=>go ?_;refine Z9 l ?_;obtain ⟨_,m,a⟩:=bZ a;replace e:=e.grow v;refine Zi (Tc 2 m (c.k0.ks e)) ?_;rintro _ A ⟨n,B,C,rfl,o,p⟩;refine ⟨_,rfl,go ?_⟩;replace e:=e.grow o;refine Zm a (fun k a=>go ?_) fun k a=>go ?_
 ·obtain ⟨_,q,a⟩:=bZ a;refine lc rfl rfl (Zfu call147) (Z6a (col:=n) 3 q:) ?_;rintro _ E ⟨F,G,H,rfl,s,t⟩;refine ⟨_,rfl,go ?_⟩;cases a;replace e:=e.grow s;exact ⟨rfl,_,_,_,rfl,e.fin (cm [(3,j)]),e.fo t⟩
 cases a;exact ⟨rfl,_,_,_,rfl,e.fin (cm [(2,j)]),e.fo p⟩
def Zb0 (a:List Int):Option R5:=
  some (false,a)
theorem Zoq {c:Nat} {g:Option Addr} {col:Ze} {f:World} {b:R2} {r:R5} (i:Zb0 b=some r) (j:Sl rU col f g c b):
    Calls prog 109 #[.slice g b.length c] f (fun e w'=>∃ (col':Ze) (d:Option Addr) (a:Nat),e= .returned ((.agg #[.bool r.1,.slice d r.2.length a]))∧Zj col f col' w'∧Sl rU col' w' d a r.2):=by
 refine Yx (m:=5) func109 rfl rfl rfl ?_;rw [Zb0.eq_1] at i;have h:=St.start col f;refine go ?_;refine Xr (col:=(Zh col)) #[.bool false,(nI)] 1 zeroValue40 fun _ _ _ o n=>go ?_;refine lV (.agg #[.bool false,.slice g b.length c]) (Wo (l:=[_,_]) (qs:=[(0,1),(1,1)]) underlying40 zeroValue40 ⟨rfl,sizeOf4,rfl,sizeOf38,trivial⟩ rfl)<|Z6 n ?_;intro _ k l m;refine go ?_;cases i;replace h:=(h.grow o).kp k l;exact ⟨rfl,_,ra m.atN,_,_,_,rfl,h.fin (cm []),h.fs (j.k0.ks h)⟩
def Zkh (a:Bool) (b:List Int):Option R5:=
  some (a,b)
def Qz (N:Nat) (b:Bool) (c:List Int):Option R5:=
  (V9 N c).bind fun a=>if b=true then (Zkh (decide (0<(a.length:Int))) a) else (Zkh false a)
theorem Zd0 {N u:Nat} {i:Option Addr} {col:Ze} {d:World} {v:Bool} {k:R2} {r:R5} (j:Nat) (a:Qz N v k=some r) (s:Sl rU col d i u k):
    Calls prog 148 #[.bool v,.slice i k.length u] d (S6 45 j col d r):=by
 refine Yx (m:=16) func148 rfl rfl rfl ?_;rw [Qz.eq_1] at a;have b:=St.start col d;refine go ?_;refine Xr (col:=(Zh col)) #[.bool false,(nI)] 1 zeroValue40 fun J _ _ C e=>go ?_;obtain ⟨l,B,a⟩:=bZ a;replace b:=b.grow C;refine Zi (Tc 2 B (s.k0.ks b)) fun _ _ ⟨_,y,z,q,t,c⟩=>⟨_,q,?_⟩;refine Zlz rfl<|Zl<|Zx ?_;replace e:=e.gr t;replace b:=b.grow t;refine Wp.cutK [4,1000000] (fun G f=>∃ g m n o h,Zkh m h=some r∧St d (Zh col) g f∧Zb rU 45 3 g f n o h∧Zd 40 1 g f J #[.bool m,.slice n h.length o]) ?_ ?_
 ·intro G f A;obtain ⟨g,m,n,o,h,a,b,F,e⟩:=A;rw [Zkh.eq_1] at a;refine W1 ?_;cases a;exact ⟨rfl,_,ra e.atN,_,_,_,rfl,b.fin (cm [(3,j)]),b.fo F⟩
 refine go ?_;refine Ye a (fun p a=>go ?_) fun p a=>go ?_
 ·refine lV (.bool (decide (0<(l.length:Int)))) (X0 (congrArg Value.bool p) rfl)<|Y3 rfl<|lV (.agg #[.bool (decide (0<(l.length:Int))),.slice y l.length z]) (Wo (l:=[_,_]) (qs:=[(0,1),(1,1)]) underlying40 zeroValue40 ⟨rfl,sizeOf4,rfl,sizeOf38,trivial⟩ rfl)<|Z6 e ?_;intro _ w D H;refine Zl ?_;replace c:=c.kp w;replace c:=c.recolSelf 3 (by decide);replace b:=b.kp w D;replace b:=b.recol 2 3 (by decide) (by decide);exact ⟨rfl,_,_,_,_,_,a,b,c,H.recol 2 3⟩
 refine lV (.bool false) (X7 (congrArg Value.bool p) rfl)<|Y3 rfl<|lV (.agg #[.bool false,.slice y l.length z]) (Wo (l:=[_,_]) (qs:=[(0,1),(1,1)]) underlying40 zeroValue40 ⟨rfl,sizeOf4,rfl,sizeOf38,trivial⟩ rfl)<|Z6 e ?_;intro _ x E I;refine Zl ?_;replace c:=c.kp x;replace c:=c.recolSelf 3 (by decide);replace b:=b.kp x E;replace b:=b.recol 2 3 (by decide) (by decide);exact ⟨rfl,_,_,_,_,_,a,b,c,I.recol 2 3⟩
def Zc6 (N:Nat) (a:R5) (b:R5):Option R5:=
  (Ze1 N a.2 b.2).bind fun d=>(Qz N (!decide (a.1=b.1)) d).bind fun c=>some (c.1,c.2)
theorem Zlt {N w x:Nat} {y A:Option Addr} {col:Ze} {e:World} {i j r:R5} (t:Nat) (d:Zc6 N i j=some r) (o:Sl rU col e y w i.2) (p:Sl rU col e A x j.2):
    Calls prog 108 #[(.agg #[.bool i.1,.slice y i.2.length w]),(.agg #[.bool j.1,.slice A j.2.length x])] e (S6 45 t col e r):=by
 refine Yx (m:=16) func108 rfl rfl rfl ?_;rw [Zc6.eq_1] at d;have c:=St.start col e;refine go ?_;refine Xg (col:=(Zh col)) 1 rfl fun _ _ C L q=>Xg (col:=C) 2 rfl fun _ _ D B s=>Xr (col:=D) #[.bool false,(nI)] 3 zeroValue40 fun _ _ g v m=>go ?_;refine Y8 (col:=g) [(0,1),(1,0),(2,1),(3,0),(4,1),(5,1),(6,0),(7,1),(8,0),(9,3),(10,3),(11,2)] (by kernel_rfl) (by kernel_rfl)<|xF ⟨_,_,rfl⟩ ?_;replace q:=(q.gr B).gr v;refine xW (fun _ a=>((q.atN).nth (q:=0) rfl).gr (a.bl g)) ?_;refine xF ⟨_,_,rfl⟩ ?_;replace s:=s.gr v;refine xW (fun _ a=>((s.atN).nth (q:=0) rfl).gr (a.bl g)) ?_;refine xu rfl rfl (fun _=>Zlc _ _ underlying4 rfl rfl) ?_;refine xF ⟨_,_,rfl⟩ ?_;refine xW (fun _ a=>((q.atN).nth (q:=1) rfl).gr (a.bl g)) ?_;refine xF ⟨_,_,rfl⟩ ?_;refine xW (fun _ a=>((s.atN).nth (q:=1) rfl).gr (a.bl g)) ?_;refine xe rfl rfl ?_;intro _ b;have a:=b.bl g;obtain ⟨_,G,d⟩:=bZ d;replace c:=(((c.grow L).grow B).grow v).grow a;refine Zi (Zr3 4 G (o.k0.ks c) (p.k0.ks c)) fun _ _ ⟨k,_,_,h,u,I⟩=>⟨_,h,?_⟩;refine Zl<|Xo k b u<|xe rfl rfl ?_;intro K b;replace m:=(m.gr a).gr u;have a:=b.bl k;obtain ⟨_,E,d⟩:=bZ d;refine Zi (Zd0 5 E ((I.gr a).toSlF (Zg.int .u32))) fun _ _ ⟨H,_,_,h,f,l⟩=>⟨_,h,?_⟩;replace l:=l.thaw (Z1 .u32) f ((Fz.refl (col:=k)).froz 4);replace f:=f.thawR (col:=k);generalize Xa K.heap.size k H=n at *;refine Zl<|Xo n b f<|xe rfl rfl ?_;intro _ b;replace c:=((c.grow u).grow a).grow f;replace m:=(m.gr a).gr f;have a:=b.bl n;refine Z6 (m.gr a) fun _ z F J=>Zl<|xk n<|Y4 ?_;replace l:=(l.gr a).kp z;replace c:=(c.grow a).kp z F;intro _ a;replace a:=a.bl n;refine W1 ?_;cases d;replace c:=c.grow a;exact ⟨rfl,_,ra (J.gr a).atN,_,_,_,rfl,c.fin (cm [(5,t)]),c.fo (l.gr a)⟩
def Zkg (N:Nat) (a:R5) (b:R5):Option R5:=
  if (decide (a.1=b.1))=true then ((Zj4 N a.2 b.2).bind fun g=>(Qz N a.1 g).bind fun c=>some (c.1,c.2)) else ((Ze2 N a.2 b.2).bind fun d=>if d.2=true then ((Qz N a.1 d.1).bind fun e=>some (e.1,e.2)) else ((Ze2 N b.2 a.2).bind fun i=>(Qz N b.1 i.1).bind fun f=>some (f.1,f.2)))
theorem Zvo {N f m:Nat} {c k:Option Addr} {col:Ze} {h:World} {t u r:R5} (l:Nat) (b:Zkg N t u=some r) (i:Sl rU col h c f t.2) (j:Sl rU col h k m u.2):
    Calls prog 111 #[(.agg #[.bool t.1,.slice c t.2.length f]),(.agg #[.bool u.1,.slice k u.2.length m])] h (S6 45 l col h r):=by
 refine Yx (m:=45) func111 rfl rfl rfl ?_;rw [Zkg.eq_1] at b;have c:=St.start col h;refine go ?_;refine Xg (col:=(Zh col)) 1 rfl fun _ _ o y g=>Xg (col:=o) 2 rfl fun _ _ p n k=>Xr (col:=p) #[.bool false,(nI)] 3 zeroValue40 fun _ _ v A f=>go ?_;refine Xy ⟨_,_,rfl⟩ ?_;replace g:=(g.gr n).gr A;refine lW ((g.atN).nth (q:=0) rfl)<|Xy ⟨_,_,rfl⟩ ?_;replace k:=k.gr A;refine lW ((k.atN).nth (q:=0) rfl)<|go ?_;replace i:=i.k0;replace j:=j.k0;replace c:=((c.grow y).grow n).grow A;refine Zm b (fun n b=>?_) fun n b=>go ?_
 ·refine Zx<|Y8 (col:=v) [(0,1),(1,0),(2,1),(3,0),(4,1),(5,0),(6,3),(7,3),(8,2)] (by kernel_rfl) (by kernel_rfl)<|xF ⟨_,_,rfl⟩ ?_;refine xW (fun _ a=>((g.atN).nth (q:=0) rfl).gr (a.bl v)) ?_;refine xF ⟨_,_,rfl⟩ ?_;refine xW (fun _ a=>((g.atN).nth (q:=1) rfl).gr (a.bl v)) ?_;refine xF ⟨_,_,rfl⟩ ?_;refine xW (fun _ a=>((k.atN).nth (q:=1) rfl).gr (a.bl v)) ?_;refine xe rfl rfl ?_;intro _ d;have a:=d.bl v;obtain ⟨_,q,b⟩:=bZ b;replace c:=c.grow a;refine Zi (Zvj 4 q (i.ks c) (j.ks c)) fun _ _ ⟨q,_,_,e,D,v⟩=>⟨_,e,?_⟩;refine Zl<|Xo q d D<|xe rfl rfl ?_;intro x d;replace f:=(f.gr a).gr D;have a:=d.bl q;obtain ⟨_,s,b⟩:=bZ b;refine Zi (Zd0 5 s ((v.gr a).toSlF (Zg.int .u32))) fun _ _ ⟨R,_,_,e,m,s⟩=>⟨_,e,?_⟩;replace s:=s.thaw (Z1 .u32) m ((Fz.refl (col:=q)).froz 4);replace m:=m.thawR (col:=q);generalize Xa x.heap.size q R=z at *;refine Zl<|Xo z d m<|xe rfl rfl ?_;intro _ d;replace c:=((c.grow D).grow a).grow m;replace f:=(f.gr a).gr m;have a:=d.bl z;replace f:=f.gr a;refine Z6 f fun _ Y Q w=>Zl<|xk z<|Y4 ?_;replace s:=(s.gr a).kp Y;replace c:=(c.grow a).kp Y Q;intro _ a;replace a:=a.bl z;refine W1 ?_;cases b;replace c:=c.grow a;exact ⟨rfl,_,ra (w.gr a).atN,_,_,_,rfl,c.fin (cm [(5,l)]),c.fo (s.gr a)⟩
 refine Z9 g<|Z9 k ?_;obtain ⟨w,H,b⟩:=bZ b;refine Zi (Zol 6 H (i.ks c) (j.ks c)) fun _ X ⟨F,Z,d,e,y,V⟩=>⟨_,e,?_⟩;refine lM (.tuple #[.slice Z w.1.length d,.bool w.2])<|lV (.slice Z w.1.length d) (Xt rfl rfl)<|lV (.bool w.2) (Xt rfl rfl)<|go ?_;replace g:=g.gr y;replace k:=k.gr y;replace f:=f.gr y;replace c:=c.grow y;refine Zm b (fun n b=>go ?_) fun n b=>go ?_
 ·refine Z9 g<|Y3 rfl ?_;obtain ⟨_,I,b⟩:=bZ b;refine Zi (Zd0 7 I (V.toSlF (Zg.int .u32))) fun _ _ ⟨S,_,_,e,o,B⟩=>⟨_,e,?_⟩;replace B:=B.thaw (Z1 .u32) o ((Fz.refl (col:=F)).froz 6);replace o:=o.thawR (col:=F);generalize Xa X.heap.size F S=z at *;replace f:=f.gr o;refine Z6 f fun _ h L O=>go ?_;cases b;replace c:=(c.grow o).kp h L;exact ⟨rfl,_,ra O.atN,_,_,_,rfl,c.fin (cm [(7,l)]),c.fo (B.kp h)⟩
 refine Z9 k<|Z9 g ?_;obtain ⟨x,J,b⟩:=bZ b;refine Zi (Zol 8 J (j.ks c) (i.ks c)) fun _ W ⟨E,a,g,e,G,U⟩=>⟨_,e,?_⟩;refine lM (.tuple #[.slice a x.1.length g,.bool x.2])<|lV (.slice a x.1.length g) (Xt rfl rfl)<|lV (.bool x.2) (Xt rfl rfl)<|go ?_;refine Xy ⟨_,_,rfl⟩ ?_;refine lW (((k.gr G).atN).nth (q:=0) rfl)<|Y3 rfl ?_;obtain ⟨_,K,b⟩:=bZ b;refine Zi (Zd0 9 K (U.toSlF (Zg.int .u32))) fun _ _ ⟨T,_,_,e,p,C⟩=>⟨_,e,?_⟩;replace C:=C.thaw (Z1 .u32) p ((Fz.refl (col:=E)).froz 8);replace p:=p.thawR (col:=E);generalize Xa W.heap.size E T=A at *;refine Z6 ((f.gr G).gr p) fun _ e M P=>go ?_;cases b;replace c:=((c.grow G).grow p).kp e M;exact ⟨rfl,_,ra P.atN,_,_,_,rfl,c.fin (cm [(9,l)]),c.fo (C.kp e)⟩
def Zki (N:Nat) (a:R5):Option R5:=
  (Qz N a.1 a.2).bind fun b=>some (b.1,b.2)
theorem Zvp {N i:Nat} {j:Option Addr} {col:Ze} {a:World} {b r:R5} (g:Nat) (c:Zki N b=some r) (d:Sl rU col a j i b.2):
    Calls prog 145 #[(.agg #[.bool b.1,.slice j b.2.length i])] a (S6 45 g col a r):=by
 refine Yx (m:=8) func145 rfl rfl rfl ?_;rw [Zki.eq_1] at c;have e:=St.start col a;refine go ?_;refine Xg (col:=(Zh col)) 1 rfl fun _ _ n t f=>Xr (col:=n) #[.bool false,(nI)] 2 zeroValue40 fun _ _ _ m u=>go ?_;refine Xy ⟨_,_,rfl⟩ ?_;replace f:=f.gr m;refine lW ((f.atN).nth (q:=0) rfl)<|Z9 f ?_;obtain ⟨_,p,c⟩:=bZ c;replace e:=(e.grow t).grow m;refine Zi (Zd0 3 p (d.k0.ks e)) fun _ _ ⟨_,_,_,h,k,s⟩=>⟨_,h,?_⟩;refine Z6 (u.gr k) fun _ l o q=>go ?_;cases c;replace e:=(e.grow k).kp l o;exact ⟨rfl,_,ra q.atN,_,_,_,rfl,e.fin (cm [(3,g)]),e.fo (s.kp l)⟩
def Ze7 (N:Nat) (a:R5) (b:List Int):Option R1:=
  (Zmq N a.2 b).bind fun c=>(Zj6 N a.2 c).bind fun e=>(Zj6 N b c).bind fun f=>(Zki N (a.1,e.1)).bind fun d=>(V9 N f.1).bind fun g=>some ((d.1,d.2),g)
theorem Zop {N G Y:Nat} {X n:Option Addr} {col:Ze} {d:World} {k:R5} {v:R2} {r:R1} (o c2:Nat) (a:Ze7 N k v=some r) (t:Sl rU col d X G k.2) (f:Sl rU col d n Y v):
    Calls prog 110 #[(.agg #[.bool k.1,.slice X k.2.length G]),.slice n v.length Y] d (Sm 45 o c2 col d r):=by
 refine Yx (m:=39) func110 rfl rfl rfl ?_;rw [Ze7.eq_1] at a;have b:=St.start col d;refine go ?_;refine Xg (col:=(Zh col)) 1 rfl fun _ _ c p e=>Xr (col:=c) #[.bool false,(nI),(nI)] 2 zeroValue42 fun _ _ _ W I=>go ?_;refine Xy ⟨_,_,rfl⟩ ?_;replace e:=e.gr W;refine lW ((e.atN).nth (q:=1) rfl)<|Y3 rfl ?_;obtain ⟨_,g,a⟩:=bZ a;replace t:=t.k0;replace f:=f.k0;replace b:=(b.grow p).grow W;refine Zi (Z50 3 g (t.ks b) (f.ks b)) ?_;rintro _ V ⟨x,aw,ax,rfl,y,u⟩;refine ⟨_,rfl,go ?_⟩;refine Xy ⟨_,_,rfl⟩ ?_;replace e:=e.gr y;refine lW ((e.atN).nth (q:=1) rfl)<|Y3 rfl ?_;obtain ⟨g,i,a⟩:=bZ a;replace b:=b.grow y;refine Zi (Zvk 4 5 i ((t.ks b).froz 3) (u.toSlF (Zg.int .u32))) fun _ q ⟨n,C,D,h,j,c,i,E,_⟩=>⟨_,c,?_⟩;replace E:=E.thaw (Z1 .u32) i ((Fz.refl (col:=x)).froz 3);replace i:=i.thawR (col:=x);generalize Xa V.heap.size x n=s at *;refine lM (.tuple #[.slice C g.1.length D,.slice h g.2.1.length j,.int .i64 g.2.2])<|lV (.slice C g.1.length D) (Xt rfl rfl)<|lV (.slice h g.2.1.length j) (Xt rfl rfl)<|lV (.int .i64 g.2.2) (Xt rfl rfl)<|go ?_;obtain ⟨j,m,a⟩:=bZ a;replace b:=b.grow i;refine Zi (Zvk 6 7 m ((f.ks b).froz 3) ((u.gr i).toSlF (Zg.int .u32))) fun _ U ⟨M,Z,d,f,l,c,h,B,_⟩=>⟨_,c,?_⟩;replace B:=B.thaw (Z1 .u32) h ((Fz.refl (col:=s)).froz 3);replace h:=h.thawR (col:=s);generalize Xa q.heap.size s M=z at *;refine lM (.tuple #[.slice Z j.1.length d,.slice f j.2.1.length l,.int .i64 j.2.2])<|lV (.slice Z j.1.length d) (Xt rfl rfl)<|lV (.slice f j.2.1.length l) (Xt rfl rfl)<|lV (.int .i64 j.2.2) (Xt rfl rfl)<|go ?_;refine Xy ⟨_,_,rfl⟩ ?_;replace e:=(e.gr i).gr h
 refine lW ((e.atN).nth (q:=0) rfl)<|Y3 rfl<|lV (.agg #[.bool k.1,.slice C g.1.length D]) (Wo (l:=[_,_]) (qs:=[(0,1),(1,1)]) underlying40 zeroValue40 ⟨rfl,sizeOf4,rfl,sizeOf38,trivial⟩ rfl) ?_;obtain ⟨e,H,a⟩:=bZ a;refine Zi (Zvp 8 H ((E.gr h).toSlF (Zg.int .u32))) fun _ R ⟨K,S,T,c,m,A⟩=>⟨_,c,?_⟩;replace A:=A.thaw (Z1 .u32) m ((Fz.refl (col:=z)).froz 4);replace m:=m.thawR (col:=z);generalize Xa U.heap.size z K=q at *;refine Y3 rfl ?_;obtain ⟨Q,F,a⟩:=bZ a;refine Zi (Tc 9 F ((B.gr m).toSlF (Zg.int .u32))) fun _ _ ⟨L,O,P,c,l,w⟩=>⟨_,c,?_⟩;replace w:=w.thaw (Z1 .u32) l ((Fz.refl (col:=q)).froz 6);replace l:=l.thawR (col:=q);generalize Xa R.heap.size q L=s at *;refine lV (.agg #[.bool e.1,.slice S e.2.length T,.slice O Q.length P]) (Wo (l:=[_,_]) (qs:=[(0,2),(2,1)]) underlying42 zeroValue42 ⟨rfl,sizeOf40,rfl,sizeOf38,trivial⟩ rfl) ?_;refine Z6 (((((I.gr y).gr i).gr h).gr m).gr l) fun _ p I J=>go ?_;cases a;replace b:=(((b.grow h).grow m).grow l).kp p I;exact ⟨rfl,_,ra J.atN,_,_,_,_,_,rfl,b.fin (cm [(8,o),(9,c2)]),b.fo ((A.gr l).kp p),b.fo (w.kp p)⟩
def Ze5 (N:Nat) (a:R1) (b:R1):Option R1:=
  (Sh N ((b.1.1,b.1.2),b.2)).bind fun j=>(Zb0 j).bind fun d=>(Zc6 N (a.1.1,a.1.2) (d.1,d.2)).bind fun e=>(Sh N ((a.1.1,a.1.2),a.2)).bind fun k=>(Zb0 k).bind fun f=>(Zc6 N (b.1.1,b.1.2) (f.1,f.2)).bind fun g=>(Zkg N (e.1,e.2) (g.1,g.2)).bind fun i=>(Sh N ((a.1.1,a.1.2),a.2)).bind fun l=>(Sh N ((b.1.1,b.1.2),b.2)).bind fun m=>(Ze1 N l m).bind fun n=>(Ze7 N (i.1,i.2) n).bind fun c=>some ((c.1.1,c.1.2),c.2)
theorem Zvr {N D W t S:Nat} {v T n R:Option Addr} {col:Ze} {B:World} {u w r:R1} (c1 c2:Nat) (e:Ze5 N u w=some r) (U:Sl rU col B v D u.1.2) (G:Sl rU col B T W u.2) (V:Sl rU col B n t w.1.2) (K:Sl rU col B R S w.2):
    Calls prog 59 #[(.agg #[.bool u.1.1,.slice v u.1.2.length D,.slice T u.2.length W]),(.agg #[.bool w.1.1,.slice n w.1.2.length t,.slice R w.2.length S])] B (Sm 45 c1 c2 col B r):=by
 refine Yx (m:=28) func59 rfl rfl rfl ?_;rw [Ze5.eq_1] at e;have c:=St.start col B;refine go ?_;refine Xg (col:=(Zh col)) 1 rfl fun b _ a M i=>Xg (col:=a) 2 rfl fun X _ h k j=>Xr (col:=h) #[.bool false,(nI),(nI)] 3 zeroValue42 fun _ Z Q g h=>go ?_;have m:=Zu.clip (fun _=>false) Q Z;refine Zih (col:=Q) [(0,1),(1,0),(2,0),(3,3),(4,3),(5,3),(6,4),(7,2)] (by kernel_rfl) (by kernel_rfl) ⟨fun d=>absurd d (by decide),fun d=>absurd d (by decide),fun d=>absurd d (by decide),fun d=>absurd d (by decide),fun d=>absurd d (by decide),fun d=>absurd d (by decide),fun _=>⟨_,_,_,rfl,Sa zeroValue40⟩,fun d=>absurd d (by decide),trivial⟩<|Vf (v:=(.pointer ((some (⟨b,0,none⟩:Addr)).map (·.add 0)))) rfl rfl (fun _=>Uc (sz:=2) (off:=0) underlying42 rfl sizeOf40 (by decide) rfl rfl ⟨_,_,rfl⟩) ?_;replace i:=((i.gr k).gr g).kpp m;refine Ta (v:=(.agg #[.bool u.1.1,.slice v u.1.2.length D])) rfl rfl (fun _ a=>Yl isAgg40 sizeOf40 rfl rfl (((i.atN).part 0 2 _ rfl).gr (a.bl (Zo Z Q)))) ?_;replace j:=(j.gr g).kpp m;refine Ta (v:=(.agg #[.bool w.1.1,.slice n w.1.2.length t,.slice R w.2.length S])) rfl rfl (fun _ a=>Yl isAgg42 sizeOf42 rfl rfl (j.atN.gr (a.bl (Zo Z Q)))) ?_;refine Vz rfl rfl ?_;intro _ b;have a:=b.bl (Zo Z Q);obtain ⟨_,s,e⟩:=bZ e;replace V:=V.k0;replace K:=K.k0;replace c:=((((c.grow M).grow k).grow g).kpp m).grow a;refine Zi (Zbg 4 s (V.ks c) (K.ks c)) fun _ H ⟨I,_,_,g,x,L⟩=>⟨_,g,?_⟩;refine Zl ?_;refine ⟨fun l=>Zj (Zo H I) H (Zo H I) l,fun k=>(Zo H I) k=497,Zj.refl _ _,Vt,fun _=>⟨fun _ d=>V4 b x d,fun C s=>x.below.block C s,fun k q f=>Ts x k q (by first | exact f | (simp only [Ya,f];rfl) | (simp only [Ya,Xv,f];rfl))⟩,?_⟩;have F:=Zu.clip (fun _=>false) I H;refine Vz rfl rfl ?_;intro _ b;replace h:=(((h.kpp m).gr a).gr x).kpp F;replace i:=((i.gr a).gr x).kpp F;replace j:=((j.gr a).gr x).kpp F;have a:=b.bl (Zo H I);replace L:=(L.kpp F).gr a;replace i:=i.gr a;replace i:=i.froz 4
 replace j:=j.gr a;replace j:=j.froz 4;replace h:=h.gr a;replace h:=h.froz 4;replace c:=((c.grow x).kpp F).grow a;replace c:=c.froz 4 (by decide) (by decide);obtain ⟨_,m,e⟩:=bZ e;refine Zi (Zoq m ((L).toSlF (Zg.int .u32))) fun _ F ⟨E,_,_,g,y,O⟩=>⟨_,g,?_⟩;refine Zl ?_;refine ⟨fun l=>Zj (Zo F E) F (Zo F E) l,fun k=>(Zo F E) k=497,Zj.refl _ _,Vt,fun _=>⟨fun _ d=>V4 b y d,fun C s=>y.below.block C s,fun k q f=>Ts y k q (by first | exact f | (simp only [Ya,f];rfl) | (simp only [Ya,Xv,f];rfl))⟩,?_⟩;have M:=Zu.clip (fun _=>false) E F;refine Vz rfl rfl ?_;intro _ b;have a:=b.bl (Zo F E);obtain ⟨_,x,e⟩:=bZ e;replace U:=U.k0;replace c:=((c.grow y).kpp M).grow a;refine Zi (Zlt 5 x (U.ks c) ((O.kpp M).gr a)) fun _ o ⟨p,_,_,g,B,x⟩=>⟨_,g,?_⟩;refine Zl ?_;refine ⟨fun l=>Zj (Zo o p) o (Zo o p) l,fun k=>(Zo o p) k=497,Zj.refl _ _,Vt,fun _=>⟨fun _ d=>V4 b B d,fun C s=>B.below.block C s,fun k q f=>Ts B k q (by first | exact f | (simp only [Ya,f];rfl) | (simp only [Ya,Xv,f];rfl))⟩,?_⟩;have O:=Zu.clip (fun _=>false) p o;refine Zik rfl rfl (Sa zeroValue40) fun A E=>Vz rfl rfl ?_;intro F ⟨b,hZ0⟩;replace i:=((((i.gr y).kpp M).gr a).gr B).kpp O;replace j:=((((j.gr y).kpp M).gr a).gr B).kpp O;replace h:=((((h.gr y).kpp M).gr a).gr B).kpp O;have a:=b.bl (Zo o p);replace G:=G.k0;obtain ⟨L,P⟩:=Zf5 (col:=(Zo o p)) 6 hZ0 E;replace P:Zd 40 6 (Xm A 6 (Zo o p)) F A #[.bool false,(nI)]:=P;refine Z6 P fun z H I y=>Zl ?_;refine ⟨fun l=>Zj (Zo z (Xm A 6 (Zo o p))) z (Zo z (Xm A 6 (Zo o p))) l,fun k=>(Zo z (Xm A 6 (Zo o p))) k=497,Zj.refl _ _,Vt,fun d=>absurd d (by decide),?_⟩;have M:=Zu.clip (fun _=>false) (Xm A 6 (Zo o p)) z;refine Zil ?_;replace c:=(((((c.grow B).kpp O).grow a).kpp L).kp H I).kpp M;replace x:=((((x.kpp O).gr a).kpp L).kp H).kpp M
 replace i:=(((i.gr a).kpp L).kp H).kpp M;replace j:=(((j.gr a).kpp L).kp H).kpp M;replace h:=(((h.gr a).kpp L).kp H).kpp M;intro E a;replace a:Zj (Zo z (Xm A 6 (Zo o p))) z (Zo z (Xm A 6 (Zo o p))) E:=.of_below a.below;refine Zx ?_;have J:=Zu.clip (fun _=>false) (Zo z (Xm A 6 (Zo o p))) E;refine Zih (col:=(Zo z (Xm A 6 (Zo o p)))) [(0,1),(1,0),(2,0),(3,3),(4,3),(5,3),(6,4),(7,2)] (by kernel_rfl) (by kernel_rfl) ⟨fun d=>absurd d (by decide),fun d=>absurd d (by decide),fun d=>absurd d (by decide),fun d=>absurd d (by decide),fun d=>absurd d (by decide),fun d=>absurd d (by decide),fun _=>⟨_,_,_,rfl,Sa zeroValue40⟩,fun d=>absurd d (by decide),trivial⟩<|Vf (v:=(.pointer ((some (⟨X,0,none⟩:Addr)).map (·.add 0)))) rfl rfl (fun _=>Uc (sz:=2) (off:=0) underlying42 rfl sizeOf40 (by decide) rfl rfl ⟨_,_,rfl⟩) ?_;replace j:=(j.gr a).kpp J;refine Ta (v:=(.agg #[.bool w.1.1,.slice n w.1.2.length t])) rfl rfl (fun _ a=>Yl isAgg40 sizeOf40 rfl rfl (((j.atN).part 0 2 _ rfl).gr (a.bl (Zo E (Zo z (Xm A 6 (Zo o p))))))) ?_;replace i:=(i.gr a).kpp J;refine Ta (v:=(.agg #[.bool u.1.1,.slice v u.1.2.length D,.slice T u.2.length W])) rfl rfl (fun _ a=>Yl isAgg42 sizeOf42 rfl rfl (i.atN.gr (a.bl (Zo E (Zo z (Xm A 6 (Zo o p))))))) ?_;refine Vz rfl rfl ?_;intro B b;replace y:=((y.kpp M).gr a).kpp J;replace x:=(x.gr a).kpp J;replace h:=(h.gr a).kpp J;replace c:=(c.grow a).kpp J;have a:Zj (Zo E (Zo z (Xm A 6 (Zo o p)))) E (Zo E (Zo z (Xm A 6 (Zo o p)))) B:=.of_below b.below;obtain ⟨_,o,e⟩:=bZ e;replace c:=c.grow a;refine Zi (Zbg 7 o (U.ks c) (G.ks c)) fun _ I ⟨J,_,_,g,P,O⟩=>⟨_,g,?_⟩;refine Zl ?_;refine ⟨fun l=>Zj (Zo I J) I (Zo I J) l,fun k=>(Zo I J) k=497,Zj.refl _ _,Vt,fun _=>⟨fun _ d=>V4 b P d,fun C s=>P.below.block C s,fun k q f=>Ts P k q (by first | exact f | (simp only [Ya,f];rfl) | (simp only [Ya,Xv,f];rfl))⟩,?_⟩;have o:=Zu.clip (fun _=>false) J I;refine Vz rfl rfl ?_;intro _ b;replace x:=((x.gr a).gr P).kpp o;replace i:=((i.gr a).gr P).kpp o
 replace j:=((j.gr a).gr P).kpp o;replace h:=((h.gr a).gr P).kpp o;replace y:=((y.gr a).gr P).kpp o;have a:=b.bl (Zo I J);replace x:=x.gr a;replace x:=x.froz 7;replace O:=(O.kpp o).gr a;replace i:=i.gr a;replace i:=i.froz 7;replace j:=j.gr a;replace j:=j.froz 7;replace h:=h.gr a;replace h:=h.froz 7;replace y:=y.gr a;replace y:=y.froz 7;replace c:=((c.grow P).kpp o).grow a;replace c:=c.froz 7 (by decide) (by decide);obtain ⟨_,n,e⟩:=bZ e;refine Zi (Zoq n ((O).toSlF (Zg.int .u32))) fun _ A ⟨D,_,_,g,S,L⟩=>⟨_,g,?_⟩;refine Zl ?_;refine ⟨fun l=>Zj (Zo A D) A (Zo A D) l,fun k=>(Zo A D) k=497,Zj.refl _ _,Vt,fun _=>⟨fun _ d=>V4 b S d,fun C s=>S.below.block C s,fun k q f=>Ts S k q (by first | exact f | (simp only [Ya,f];rfl) | (simp only [Ya,Xv,f];rfl))⟩,?_⟩;have z:=Zu.clip (fun _=>false) D A;refine Vz rfl rfl ?_;intro _ b;have a:=b.bl (Zo A D);obtain ⟨_,t,e⟩:=bZ e;replace c:=((c.grow S).kpp z).grow a;refine Zi (Zlt 8 t (V.ks c) ((L.kpp z).gr a)) fun _ m ⟨n,_,_,g,R,X⟩=>⟨_,g,?_⟩;refine Zl ?_;refine ⟨fun l=>Zj (Zo m n) m (Zo m n) l,fun k=>(Zo m n) k=497,Zj.refl _ _,Vt,fun _=>⟨fun _ d=>V4 b R d,fun C s=>R.below.block C s,fun k q f=>Ts R k q (by first | exact f | (simp only [Ya,f];rfl) | (simp only [Ya,Xv,f];rfl))⟩,?_⟩;have s:=Zu.clip (fun _=>false) n m;refine Zik rfl rfl (Sa zeroValue40) fun v D=>Vz rfl rfl ?_;intro H ⟨b,hZ0⟩;replace x:=((((x.gr S).kpp z).gr a).gr R).kpp s;replace i:=((((i.gr S).kpp z).gr a).gr R).kpp s;replace j:=((((j.gr S).kpp z).gr a).gr R).kpp s;replace h:=((((h.gr S).kpp z).gr a).gr R).kpp s;replace y:=((((y.gr S).kpp z).gr a).gr R).kpp s;have a:=b.bl (Zo m n);obtain ⟨q,C⟩:=Zf5 (col:=(Zo m n)) 9 hZ0 D;replace C:Zd 40 9 (Xm v 9 (Zo m n)) H v #[.bool false,(nI)]:=C;refine Z6 C fun t p C Q=>Zl ?_
 refine ⟨fun l=>Zj (Zo t (Xm v 9 (Zo m n))) t (Zo t (Xm v 9 (Zo m n))) l,fun k=>(Zo t (Xm v 9 (Zo m n))) k=497,Zj.refl _ _,Vt,fun d=>absurd d (by decide),?_⟩;have W:=Zu.clip (fun _=>false) (Xm v 9 (Zo m n)) t;refine Zil ?_;replace c:=(((((c.grow R).kpp s).grow a).kpp q).kp p C).kpp W;replace X:=((((X.kpp s).gr a).kpp q).kp p).kpp W;replace x:=(((x.gr a).kpp q).kp p).kpp W;replace i:=(((i.gr a).kpp q).kp p).kpp W;replace j:=(((j.gr a).kpp q).kp p).kpp W;replace h:=(((h.gr a).kpp q).kp p).kpp W;replace y:=(((y.gr a).kpp q).kp p).kpp W;intro f a;replace a:Zj (Zo t (Xm v 9 (Zo m n))) t (Zo t (Xm v 9 (Zo m n))) f:=.of_below a.below;refine Zx<|Y8 (col:=(Zo t (Xm v 9 (Zo m n)))) [(0,0),(1,0),(3,0),(5,0),(2,3),(4,3),(6,3),(7,3),(8,3),(9,2)] (by kernel_rfl) (by kernel_rfl) ?_;replace y:=y.gr a;refine xv rfl rfl (fun _ a=>Z5 isAgg40 sizeOf40 (y.gr (a.bl (Zo t (Xm v 9 (Zo m n)))))) ?_;replace Q:=(Q.kpp W).gr a;refine xv rfl rfl (fun _ a=>Z5 isAgg40 sizeOf40 (Q.gr (a.bl (Zo t (Xm v 9 (Zo m n)))))) ?_;replace i:=i.gr a;refine xv rfl rfl (fun _ a=>Z5 isAgg42 sizeOf42 (i.gr (a.bl (Zo t (Xm v 9 (Zo m n)))))) ?_;replace j:=j.gr a;refine xv rfl rfl (fun _ a=>Z5 isAgg42 sizeOf42 (j.gr (a.bl (Zo t (Xm v 9 (Zo m n)))))) ?_;refine xe rfl rfl ?_;intro d b;replace x:=x.gr a;replace X:=X.gr a;replace h:=h.gr a;replace c:=c.grow a;have a:Zj (Zo t (Xm v 9 (Zo m n))) f (Zo t (Xm v 9 (Zo m n))) d:=.of_below b.below;obtain ⟨_,i,e⟩:=bZ e;refine Zi (Zvo 10 i (((x.gr a).toSlF (Zg.int .u32)).froz 8) (((X.gr a).froz 5).toSlF (Zg.int .u32))) fun _ _ ⟨z,_,_,g,i,T⟩=>⟨_,g,?_⟩;replace T:=T.thaw (Z1 .u32) i (((Fz.refl (col:=(Zo t (Xm v 9 (Zo m n))))).froz 5).froz 8) (by decide);replace i:=i.thawR (col:=(Zo t (Xm v 9 (Zo m n))));generalize Xa d.heap.size (Zo t (Xm v 9 (Zo m n))) z=Y at *;refine Zl<|Xo Y b i<|xe rfl rfl ?_;intro _ b
 replace h:=(h.gr a).gr i;replace c:=(c.grow a).grow i;have a:=b.bl Y;obtain ⟨_,p,e⟩:=bZ e;replace c:=c.grow a;refine Zi (Zbg 11 p (U.ks c) (G.ks c)) fun _ _ ⟨Z,_,_,g,X,l⟩=>⟨_,g,?_⟩;refine Zl<|Xo Z b X<|xe rfl rfl ?_;intro _ b;replace T:=(T.gr a).gr X;replace h:=(h.gr a).gr X;have a:=b.bl Z;obtain ⟨_,q,e⟩:=bZ e;replace c:=(c.grow X).grow a;refine Zi (Zbg 12 q (V.ks c) (K.ks c)) fun _ _ ⟨G,_,_,g,K,A⟩=>⟨_,g,?_⟩;refine Zl<|Xo G b K<|xe rfl rfl ?_;intro J b;replace T:=(T.gr a).gr K;replace l:=(l.gr a).gr K;replace h:=(h.gr a).gr K;have a:=b.bl G;obtain ⟨_,j,e⟩:=bZ e;refine Zi (Zr3 13 j (((l.gr a).toSlF (Zg.int .u32)).froz 12) (((A.gr a).froz 11).toSlF (Zg.int .u32))) fun _ _ ⟨v,_,_,g,d,k⟩=>⟨_,g,?_⟩;replace k:=k.thaw (Z1 .u32) d (((Fz.refl (col:=G)).froz 11).froz 12);replace d:=d.thawR (col:=G);generalize Xa J.heap.size G v=j at *;refine Zl<|Xo j b d<|xe rfl rfl ?_;intro G b;replace c:=((c.grow K).grow a).grow d;replace T:=(T.gr a).gr d;replace h:=(h.gr a).gr d;have a:=b.bl j;obtain ⟨_,l,e⟩:=bZ e;refine Zi (Zop 14 15 l (((T.gr a).toSlF (Zg.int .u32)).froz 13) (((k.gr a).froz 10).toSlF (Zg.int .u32))) fun _ _ ⟨y,_,_,_,_,g,f,U,V⟩=>⟨_,g,?_⟩;replace U:=U.thaw (Z1 .u32) f (((Fz.refl (col:=j)).froz 10).froz 13);replace V:=V.thaw (Z1 .u32) f (((Fz.refl (col:=j)).froz 10).froz 13);replace f:=f.thawR (col:=j);generalize Xa G.heap.size j y=Y at *;refine Zl<|Xo Y b f<|xe rfl rfl ?_;intro _ b;replace h:=(h.gr a).gr f;replace c:=(c.grow a).grow f;have a:=b.bl Y;refine Z6 (h.gr a) ?_
 intro _ b g h;refine Zl<|xk Y<|Y4 ?_;replace U:=(U.gr a).kp b;replace V:=(V.gr a).kp b;replace c:=(c.grow a).kp b g;intro _ a;replace a:=a.bl Y;refine W1 ?_;cases e;replace c:=c.grow a;exact ⟨rfl,_,ra (h.gr a).atN,_,_,_,_,_,rfl,c.fin (cm [(14,c1),(15,c2)]),c.fo (U.gr a),c.fo (V.gr a)⟩
def Zhg (N:Nat) (a:R1) (b:R1):Option R1:=
  (Zc6 N (a.1.1,a.1.2) (b.1.1,b.1.2)).bind fun d=>(Sh N ((a.1.1,a.1.2),a.2)).bind fun e=>(Sh N ((b.1.1,b.1.2),b.2)).bind fun f=>(Ze1 N e f).bind fun g=>(Ze7 N (d.1,d.2) g).bind fun c=>some ((c.1.1,c.1.2),c.2)
theorem Zvt {N B M C X:Nat} {I P J Q:Option Addr} {col:Ze} {h:World} {d f r:R1} (z c2:Nat) (e:Zhg N d f=some r) (t:Sl rU col h I B d.1.2) (m:Sl rU col h P M d.2) (u:Sl rU col h J C f.1.2) (G:Sl rU col h Q X f.2):
    Calls prog 88 #[(.agg #[.bool d.1.1,.slice I d.1.2.length B,.slice P d.2.length M]),(.agg #[.bool f.1.1,.slice J f.1.2.length C,.slice Q f.2.length X])] h (Sm 45 z c2 col h r):=by
 refine Yx (m:=16) func88 rfl rfl rfl ?_;rw [Zhg.eq_1] at e;have c:=St.start col h;refine go ?_;refine Xg (col:=(Zh col)) 1 rfl fun _ _ Z l x=>Xg (col:=Z) 2 rfl fun _ _ a Y y=>Xr (col:=a) #[.bool false,(nI),(nI)] 3 zeroValue42 fun _ _ n H i=>go ?_;refine Y8 (col:=n) [(0,1),(1,0),(2,1),(3,0),(5,0),(7,0),(4,3),(6,3),(8,3),(9,3),(10,3),(11,2)] (by kernel_rfl) (by kernel_rfl)<|xF ⟨_,_,rfl⟩ ?_;replace x:=(x.gr Y).gr H;refine xv (v:=(.agg #[.bool d.1.1,.slice I d.1.2.length B])) rfl rfl (fun _ a=>Yl isAgg40 sizeOf40 rfl rfl (((x.atN).part 0 2 _ rfl).gr (a.bl n))) ?_;refine xF ⟨_,_,rfl⟩ ?_;replace y:=y.gr H;refine xv (v:=(.agg #[.bool f.1.1,.slice J f.1.2.length C])) rfl rfl (fun _ a=>Yl isAgg40 sizeOf40 rfl rfl (((y.atN).part 0 2 _ rfl).gr (a.bl n))) ?_;refine xv rfl rfl (fun _ a=>Z5 isAgg42 sizeOf42 (x.gr (a.bl n))) ?_;refine xv rfl rfl (fun _ a=>Z5 isAgg42 sizeOf42 (y.gr (a.bl n))) ?_;refine xe rfl rfl ?_;intro _ b;have a:=b.bl n;obtain ⟨_,g,e⟩:=bZ e;replace t:=t.k0;replace u:=u.k0;replace c:=(((c.grow l).grow Y).grow H).grow a;refine Zi (Zlt 4 g (t.ks c) (u.ks c)) fun _ _ ⟨V,_,_,g,D,l⟩=>⟨_,g,?_⟩;refine Zl<|Xo V b D<|xe rfl rfl ?_;intro _ b;replace i:=(i.gr a).gr D;have a:=b.bl V;obtain ⟨_,h,e⟩:=bZ e;replace c:=(c.grow D).grow a;refine Zi (Zbg 5 h (t.ks c) (m.k0.ks c)) fun _ _ ⟨W,_,_,g,v,F⟩=>⟨_,g,?_⟩;refine Zl<|Xo W b v<|xe rfl rfl ?_;intro _ b;replace l:=(l.gr a).gr v;replace i:=(i.gr a).gr v;have a:=b.bl W;obtain ⟨_,j,e⟩:=bZ e;replace c:=(c.grow v).grow a;refine Zi (Zbg 6 j (u.ks c) (G.k0.ks c)) fun _ _ ⟨o,_,_,g,p,k⟩=>⟨_,g,?_⟩;refine Zl<|Xo o b p<|xe rfl rfl ?_;intro T b;replace l:=(l.gr a).gr p;replace F:=(F.gr a).gr p
 replace i:=(i.gr a).gr p;have a:=b.bl o;obtain ⟨_,K,e⟩:=bZ e;refine Zi (Zr3 7 K (((F.gr a).toSlF (Zg.int .u32)).froz 6) (((k.gr a).froz 5).toSlF (Zg.int .u32))) fun _ _ ⟨R,_,_,g,j,E⟩=>⟨_,g,?_⟩;replace E:=E.thaw (Z1 .u32) j (((Fz.refl (col:=o)).froz 5).froz 6);replace j:=j.thawR (col:=o);generalize Xa T.heap.size o R=m at *;refine Zl<|Xo m b j<|xe rfl rfl ?_;intro U b;replace c:=((c.grow p).grow a).grow j;replace l:=(l.gr a).gr j;replace i:=(i.gr a).gr j;have a:=b.bl m;obtain ⟨_,L,e⟩:=bZ e;refine Zi (Zop 8 9 L (((l.gr a).toSlF (Zg.int .u32)).froz 7) (((E.gr a).froz 4).toSlF (Zg.int .u32))) fun _ _ ⟨S,_,_,_,_,g,k,q,s⟩=>⟨_,g,?_⟩;replace q:=q.thaw (Z1 .u32) k (((Fz.refl (col:=m)).froz 4).froz 7);replace s:=s.thaw (Z1 .u32) k (((Fz.refl (col:=m)).froz 4).froz 7);replace k:=k.thawR (col:=m);generalize Xa U.heap.size m S=w at *;refine Zl<|Xo w b k<|xe rfl rfl ?_;intro _ b;replace i:=(i.gr a).gr k;replace c:=(c.grow a).grow k;have a:=b.bl w;refine Z6 (i.gr a) fun _ A O b=>Zl<|xk w<|Y4 ?_;replace q:=(q.gr a).kp A;replace s:=(s.gr a).kp A;replace c:=(c.grow a).kp A O;intro _ a;replace a:=a.bl w;refine W1 ?_;cases e;replace c:=c.grow a;exact ⟨rfl,_,ra (b.gr a).atN,_,_,_,_,_,rfl,c.fin (cm [(8,z),(9,c2)]),c.fo (q.gr a),c.fo (s.gr a)⟩
def Zmu (N:Nat) (a:R5):Option R5:=
  (Qz N (!a.1) a.2).bind fun b=>some (b.1,b.2)
theorem Z52 {N i:Nat} {j:Option Addr} {col:Ze} {a:World} {b r:R5} (g:Nat) (c:Zmu N b=some r) (d:Sl rU col a j i b.2):
    Calls prog 210 #[(.agg #[.bool b.1,.slice j b.2.length i])] a (S6 45 g col a r):=by
 refine Yx (m:=9) func210 rfl rfl rfl ?_;rw [Zmu.eq_1] at c;have e:=St.start col a;refine go ?_;refine Xg (col:=(Zh col)) 1 rfl fun _ _ n t f=>Xr (col:=n) #[.bool false,(nI)] 2 zeroValue40 fun _ _ _ m u=>go ?_;refine Xy ⟨_,_,rfl⟩ ?_;replace f:=f.gr m;refine lW ((f.atN).nth (q:=0) rfl)<|go ?_;refine Z9 f ?_;obtain ⟨_,p,c⟩:=bZ c;replace e:=(e.grow t).grow m;refine Zi (Zd0 3 p (d.k0.ks e)) fun _ _ ⟨_,_,_,h,k,s⟩=>⟨_,h,?_⟩;refine Z6 (u.gr k) fun _ l o q=>go ?_;cases c;replace e:=(e.grow k).kp l o;exact ⟨rfl,_,ra q.atN,_,_,_,rfl,e.fin (cm [(3,g)]),e.fo (s.kp l)⟩
def Zmw (N:Nat) (a:R5) (b:R5):Option R5:=
  (Zmu N (b.1,b.2)).bind fun c=>(Zkg N (a.1,a.2) (c.1,c.2)).bind fun d=>some (d.1,d.2)
theorem Z54 {N v w:Nat} {x y:Option Addr} {col:Ze} {e:World} {g i r:R5} (q:Nat) (d:Zmw N g i=some r) (l:Sl rU col e x v g.2) (n:Sl rU col e y w i.2):
    Calls prog 193 #[(.agg #[.bool g.1,.slice x g.2.length v]),(.agg #[.bool i.1,.slice y i.2.length w])] e (S6 45 q col e r):=by
 refine Yx (m:=9) func193 rfl rfl rfl ?_;rw [Zmw.eq_1] at d;have c:=St.start col e;refine go ?_;refine Xg (col:=(Zh col)) 1 rfl fun _ _ A L I=>Xg (col:=A) 2 rfl fun _ _ B z J=>Xr (col:=B) #[.bool false,(nI)] 3 zeroValue40 fun _ _ p t m=>go ?_;refine Y8 (col:=p) [(0,0),(1,0),(2,3),(3,3),(4,2)] (by kernel_rfl) (by kernel_rfl) ?_;refine xv rfl rfl (fun _ a=>Z5 isAgg40 sizeOf40 (((I.gr z).gr t).gr (a.bl p))) ?_;refine xv rfl rfl (fun _ a=>Z5 isAgg40 sizeOf40 ((J.gr t).gr (a.bl p))) ?_;refine xe rfl rfl ?_;intro _ b;have a:=b.bl p;obtain ⟨_,E,d⟩:=bZ d;replace c:=(((c.grow L).grow z).grow t).grow a;refine Zi (Z52 4 E (n.k0.ks c)) fun _ _ ⟨j,_,_,h,s,H⟩=>⟨_,h,?_⟩;refine Zl<|Xo j b s<|xe rfl rfl ?_;intro K b;replace m:=(m.gr a).gr s;have a:=b.bl j;obtain ⟨_,D,d⟩:=bZ d;replace c:=(c.grow s).grow a;refine Zi (Zvo 5 D ((l.k0.ks c).froz 4) ((H.gr a).toSlF (Zg.int .u32))) fun _ _ ⟨F,_,_,h,f,k⟩=>⟨_,h,?_⟩;replace k:=k.thaw (Z1 .u32) f ((Fz.refl (col:=j)).froz 4);replace f:=f.thawR (col:=j);generalize Xa K.heap.size j F=o at *;refine Zl<|Xo o b f<|xe rfl rfl ?_;intro _ b;replace m:=(m.gr a).gr f;have a:=b.bl o;refine Z6 (m.gr a) fun _ u C G=>Zl<|xk o<|Y4 ?_;replace c:=((c.grow f).grow a).kp u C;replace k:=(k.gr a).kp u;intro _ a;replace a:=a.bl o;refine W1 ?_;cases d;replace c:=c.grow a;exact ⟨rfl,_,ra (G.gr a).atN,_,_,_,rfl,c.fin (cm [(5,q)]),c.fo (k.gr a)⟩
def Zhf (N:Nat) (a:R5):Option Int:=
  (Zki N (a.1,a.2)).bind fun b=>if (decide ((b.2.length:Int)=0))=true then (some 0) else (if b.1=true then (some (-1)) else (some 1))
theorem Zr4 {N d:Nat} {f:Option Addr} {col:Ze} {g:World} {b:R5} {r:Int} (a:Zhf N b=some r) (c:Sl rU col g f d b.2):
    Calls prog 106 #[(.agg #[.bool b.1,.slice f b.2.length d])] g (Wn g r):=by
 refine Xc 2 (m:=12) func106 rfl rfl rfl rfl rfl ?_;rw [Zhf.eq_1] at a;have e:=St.start col g;refine go ?_;refine Xg (col:=(Zh col)) 1 rfl fun _ _ _ s m=>go ?_;refine lV _ (Z5 isAgg40 sizeOf40 m) ?_;obtain ⟨_,n,a⟩:=bZ a;replace e:=e.grow s;refine Zi (Zvp 2 n (c.k0.ks e)) fun _ _ ⟨l,_,_,i,t,_⟩=>⟨_,i,?_⟩;refine Xr (col:=l) #[.bool false,(nI)] 3 zeroValue40 fun _ _ _ q k=>Z6 k fun _ o p j=>go ?_;refine Z9 j ?_;refine go ?_;replace e:=((e.grow t).grow q).kp o p;refine Zm a (fun h a=>go ?_) fun h a=>go ?_
 ·cases a;exact ⟨rfl,rfl,e.below⟩
 refine Z9 j<|Zl ?_;refine Zm a (fun h a=>go ?_) fun h a=>go ?_
 ·cases a;exact ⟨rfl,rfl,e.below⟩
 cases a;exact ⟨rfl,rfl,e.below⟩
def Zmt (N:Nat) (a:R5) (b:R5):Option Int:=
  (Zmw N (a.1,a.2) (b.1,b.2)).bind fun c=>(Zhf N (c.1,c.2)).bind fun d=>some d
theorem Z51 {N j k:Nat} {l n:Option Addr} {col:Ze} {e:World} {b c:R5} {r:Int} (a:Zmt N b c=some r) (d:Sl rU col e l j b.2) (f:Sl rU col e n k c.2):
    Calls prog 165 #[(.agg #[.bool b.1,.slice l b.2.length j]),(.agg #[.bool c.1,.slice n c.2.length k])] e (Wn e r):=by
 refine Xc 4 (m:=9) func165 rfl rfl rfl rfl rfl ?_;rw [Zmt.eq_1] at a;have h:=St.start col e;refine go ?_;refine Xg (col:=(Zh col)) 1 rfl fun _ _ o w t=>Xg (col:=o) 2 rfl fun _ _ _ m u=>go ?_;refine lV _ (Z5 isAgg40 sizeOf40 (t.gr m))<|lV _ (Z5 isAgg40 sizeOf40 u) ?_;obtain ⟨_,s,a⟩:=bZ a;replace h:=(h.grow w).grow m;refine Zi (Z54 3 s (d.k0.ks h) (f.k0.ks h)) fun _ _ ⟨v,_,_,g,x,q⟩=>⟨_,g,?_⟩;obtain ⟨_,p,a⟩:=bZ a;refine Zi (Zr4 p (q.toSlF (Zg.int .u32))) fun _ _ ⟨g,i⟩=>⟨_,g,?_⟩;replace i:=Rr v i;refine go ?_;cases a;exact ⟨rfl,rfl,((h.grow x).grow i).below⟩
def Zc7 (N:Nat) (a:R1) (b:R1):Option Int:=
  (Sh N ((b.1.1,b.1.2),b.2)).bind fun g=>(Zb0 g).bind fun c=>(Zc6 N (a.1.1,a.1.2) (c.1,c.2)).bind fun d=>(Sh N ((a.1.1,a.1.2),a.2)).bind fun i=>(Zb0 i).bind fun e=>(Zc6 N (b.1.1,b.1.2) (e.1,e.2)).bind fun f=>(Zmt N (d.1,d.2) (f.1,f.2)).bind fun j=>some j
theorem Zr5 {N p M q P:Nat} {s G t O:Option Addr} {col:Ze} {h:World} {c d:R1} {r:Int} (e:Zc7 N c d=some r) (k:Sl rU col h s p c.1.2) (u:Sl rU col h G M c.2) (l:Sl rU col h t q d.1.2) (w:Sl rU col h O P d.2):
    Calls prog 126 #[(.agg #[.bool c.1.1,.slice s c.1.2.length p,.slice G c.2.length M]),(.agg #[.bool d.1.1,.slice t d.1.2.length q,.slice O d.2.length P])] h (Wn h r):=by
 refine Xc 4 (m:=18) func126 rfl rfl rfl rfl rfl ?_;rw [Zc7.eq_1] at e;have f:=St.start col h;refine go ?_;refine Xg (col:=(Zh col)) 1 rfl fun _ _ S g o=>Xg (col:=S) 2 rfl fun _ _ j R Q=>go ?_;refine Y8 (col:=j) [(0,1),(1,0),(2,0),(6,1),(7,0),(8,0),(3,3),(4,3),(5,3),(9,3),(10,3),(11,3),(12,3),(13,1)] (by kernel_rfl) (by kernel_rfl)<|xF ⟨_,_,rfl⟩ ?_;replace o:=o.gr R;refine xv (v:=(.agg #[.bool c.1.1,.slice s c.1.2.length p])) rfl rfl (fun _ b=>Yl isAgg40 sizeOf40 rfl rfl (((o.atN).part 0 2 _ rfl).gr (b.bl j))) ?_;refine xv rfl rfl (fun _ b=>Z5 isAgg42 sizeOf42 (Q.gr (b.bl j))) ?_;refine xF ⟨_,_,rfl⟩ ?_;refine xv (v:=(.agg #[.bool d.1.1,.slice t d.1.2.length q])) rfl rfl (fun _ b=>Yl isAgg40 sizeOf40 rfl rfl (((Q.atN).part 0 2 _ rfl).gr (b.bl j))) ?_;refine xv rfl rfl (fun _ b=>Z5 isAgg42 sizeOf42 (o.gr (b.bl j))) ?_;refine xe rfl rfl ?_;intro _ a;have b:=a.bl j;obtain ⟨_,X,e⟩:=bZ e;replace l:=l.k0;replace f:=((f.grow g).grow R).grow b;refine Zi (Zbg 3 X (l.ks f) (w.k0.ks f)) fun _ _ ⟨D,_,_,g,J,x⟩=>⟨_,g,?_⟩;refine Zl<|Xo D a J<|xe rfl rfl ?_;intro _ a;have b:=a.bl D;replace x:=x.gr b;replace f:=(f.grow J).grow b;replace f:=f.froz 3 (by decide) (by decide);obtain ⟨_,T,e⟩:=bZ e;refine Zi (Zoq T ((x).toSlF (Zg.int .u32))) fun _ _ ⟨E,_,_,g,L,Z⟩=>⟨_,g,?_⟩;refine Zl<|Xo E a L<|xe rfl rfl ?_;intro _ a;have b:=a.bl E;obtain ⟨_,W,e⟩:=bZ e;replace k:=k.k0;replace f:=(f.grow L).grow b;refine Zi (Zlt 4 W (k.ks f) (Z.gr b)) fun _ _ ⟨F,_,_,g,K,i⟩=>⟨_,g,?_⟩;refine Zl<|Xo F a K<|xe rfl rfl ?_;intro _ a;have b:=a.bl F;obtain ⟨_,V,e⟩:=bZ e;replace f:=(f.grow K).grow b;refine Zi (Zbg 5 V (k.ks f) (u.k0.ks f)) fun _ _ ⟨I,_,_,g,v,z⟩=>⟨_,g,?_⟩
 refine Zl<|Xo I a v<|xe rfl rfl ?_;intro _ a;replace i:=(i.gr b).gr v;have b:=a.bl I;replace i:=i.gr b;replace i:=i.froz 5;replace z:=z.gr b;replace f:=(f.grow v).grow b;replace f:=f.froz 5 (by decide) (by decide);obtain ⟨_,U,e⟩:=bZ e;refine Zi (Zoq U ((z).toSlF (Zg.int .u32))) fun _ _ ⟨H,_,_,g,y,Y⟩=>⟨_,g,?_⟩;refine Zl<|Xo H a y<|xe rfl rfl ?_;intro _ a;have b:=a.bl H;obtain ⟨_,C,e⟩:=bZ e;replace f:=(f.grow y).grow b;refine Zi (Zlt 6 C (l.ks f) (Y.gr b)) fun _ _ ⟨m,_,_,g,A,h⟩=>⟨_,g,?_⟩;refine Zl<|Xo m a A<|xe rfl rfl ?_;intro _ a;replace i:=((i.gr y).gr b).gr A;have b:=a.bl m;obtain ⟨_,B,e⟩:=bZ e;refine Zi (Z51 B (((i.gr b).toSlF (Zg.int .u32)).froz 6) (((h.gr b).froz 4).toSlF (Zg.int .u32))) fun _ _ ⟨g,n⟩=>⟨_,g,?_⟩;replace n:=Rr m n;refine Zl<|Xo m a n<|xu rfl rfl (fun _=>Ztq rfl) ?_;refine Y4 ?_;replace f:=((f.grow A).grow b).grow n;intro _ b;refine W1 ?_;cases e;exact ⟨rfl,rfl,(f.grow (b.bl m)).below⟩
def Zkj (N:Nat) (a:Int):Option R5:=
  if (decide (0≤a))=true then ((Zkb N (u64.wrap a)).bind fun d=>(Qz N false d).bind fun b=>some (b.1,b.2)) else ((Zkb N (u64.wrap (i64.wrap (-(i64.wrap (a+1)))))).bind fun e=>(Zj4 N e [1]).bind fun f=>(Qz N true f).bind fun c=>some (c.1,c.2))
theorem Zvq {N:Nat} {col:Ze} {d:World} {q:Int} {r:R5} (e:Nat) (a:Zkj N q=some r):
    Calls prog 144 #[.int .i64 q] d (S6 45 e col d r):=by
 refine Yx (m:=17) func144 rfl rfl rfl ?_;rw [Zkj.eq_1] at a;have c:=St.start col d;refine go ?_;refine Xr (col:=(Zh col)) #[.bool false,(nI)] 1 zeroValue40 fun _ _ w y i=>go ?_;replace c:=c.grow y;refine Zm a (fun s a=>go ?_) fun s a=>go ?_
 ·obtain ⟨_,C,a⟩:=bZ a;refine Zi (Zvl (col:=w) 2 C) fun _ Q ⟨l,_,_,b,v,G⟩=>⟨_,b,?_⟩;obtain ⟨_,z,a⟩:=bZ a;refine Zi (Zd0 3 z (G.toSlF (Zg.int .u32))) fun _ _ ⟨M,_,_,b,f,n⟩=>⟨_,b,?_⟩;replace n:=n.thaw (Z1 .u32) f ((Fz.refl (col:=l)).froz 2);replace f:=f.thawR (col:=l);generalize Xa Q.heap.size l M=T at *;replace i:=(i.gr v).gr f;refine Z6 i fun _ t F H=>go ?_;cases a;replace c:=((c.grow v).grow f).kp t F;exact ⟨rfl,_,ra H.atN,_,_,_,rfl,c.fin (cm [(3,e)]),c.fo (n.kp t)⟩
 obtain ⟨_,D,a⟩:=bZ a;refine Zi (Zvl (col:=w) 4 D) fun _ _ ⟨E,_,_,b,x,L⟩=>⟨_,b,?_⟩;refine V5 (col:=E) [1] 5 ?_;intro _ R m p J;obtain ⟨_,A,a⟩:=bZ a;refine Zi (Zvj 6 A (((L.gr p).toSlF (Zg.int .u32)).froz 5) ((J.froz 4).toSlF (Zg.int .u32))) fun _ S ⟨P,_,_,b,h,j⟩=>⟨_,b,?_⟩;replace j:=j.thaw (Z1 .u32) h (((Fz.refl (col:=m)).froz 4).froz 5);replace h:=h.thawR (col:=m);generalize Xa R.heap.size m P=k at *;obtain ⟨_,B,a⟩:=bZ a;refine Zi (Zd0 7 B (j.toSlF (Zg.int .u32))) fun _ _ ⟨O,_,_,b,g,o⟩=>⟨_,b,?_⟩;replace o:=o.thaw (Z1 .u32) g ((Fz.refl (col:=k)).froz 6);replace g:=g.thawR (col:=k);generalize Xa S.heap.size k O=U at *;refine Z6 ((((i.gr x).gr p).gr h).gr g) fun _ u I K=>go ?_;cases a;replace c:=((((c.grow x).grow p).grow h).grow g).kp u I;exact ⟨rfl,_,ra K.atN,_,_,_,rfl,c.fin (cm [(7,e)]),c.fo (o.kp u)⟩
def Zpo (N:Nat) (c:R5) (a:R5):Option (R1×Int):=
  (Zhf N (a.1,a.2)).bind fun d=>if (decide (d=0))=true then (some (((false,([]:List Int)),([]:List Int)),11)) else ((Ze7 N (!decide (c.1=a.1),c.2) a.2).bind fun b=>some (((b.1.1,b.1.2),b.2),0))
theorem Z56 {N k u:Nat} {n v:Option Addr} {col:Ze} {d:World} {c g:R5} {r:(R1×Int)} (m c2:Nat) (a:Zpo N c g=some r) (o:Sl rU col d n k c.2) (i:Sl rU col d v u g.2):
    Calls prog 143 #[(.agg #[.bool c.1,.slice n c.2.length k]),(.agg #[.bool g.1,.slice v g.2.length u])] d (Zfr 45 m c2 col d r):=by
 refine Yx (m:=21) func143 rfl rfl rfl ?_;rw [Zpo.eq_1] at a;have b:=St.start col d;refine go ?_;refine Xg (col:=(Zh col)) 1 rfl fun _ _ x J j=>Xg (col:=x) 2 rfl fun _ _ y w e=>Xr (col:=y) #[.bool false,(nI),(nI)] 3 zeroValue42 fun _ _ I q l=>go ?_;replace e:=e.gr q;refine lV _ (Z5 isAgg40 sizeOf40 e) ?_;obtain ⟨_,F,a⟩:=bZ a;replace i:=i.k0;replace b:=((b.grow J).grow w).grow q;refine Zi (Zr4 F (i.ks b)) fun _ _ ⟨h,f⟩=>⟨_,h,?_⟩;replace f:=Rr I f;refine go ?_;replace j:=((j.gr w).gr q).gr f;replace e:=e.gr f;replace l:=l.gr f;replace b:=b.grow f;refine Zm a (fun s a=>go ?_) fun s a=>go ?_
 ·refine lV (.agg #[.bool false,(nI),(nI)]) (Wo (l:=[_,_]) (qs:=[(0,2),(2,1)]) underlying42 zeroValue42 ⟨rfl,sizeOf40,rfl,sizeOf38,trivial⟩ rfl)<|Z6 l ?_;intro _ A B D;refine go ?_;cases a;replace b:=b.kp A B;exact ⟨rfl,_,Vm D.atN,_,none,0,none,0,rfl,b.fin (cm []),Zb.nil,Zb.nil⟩
 refine Z9 j<|Z9 e ?_;refine go ?_;refine Z9 j<|lV (.agg #[.bool (!decide (c.1=g.1)),.slice n c.2.length k]) (Wo (l:=[_,_]) (qs:=[(0,1),(1,1)]) underlying40 zeroValue40 ⟨rfl,sizeOf4,rfl,sizeOf38,trivial⟩ rfl)<|Z9 e ?_;obtain ⟨_,z,a⟩:=bZ a;refine Zi (Zop 4 5 z (o.k0.ks b) (i.ks b)) fun _ _ ⟨_,_,_,_,_,h,t,G,H⟩=>⟨_,h,?_⟩;refine Z6 (l.gr t) fun _ p C E=>go ?_;cases a;replace b:=(b.grow t).kp p C;exact ⟨rfl,_,Vm E.atN,_,_,_,_,_,rfl,b.fin (cm [(4,m),(5,c2)]),b.fo (G.kp p),b.fo (H.kp p)⟩
def Zpp (N:Nat) (d e:Int):Option (R1×Int):=
  (Zkj N d).bind fun b=>(Zkj N e).bind fun c=>(Zpo N (b.1,b.2) (c.1,c.2)).bind fun a=>some (((a.1.1.1,a.1.1.2),a.1.2),a.2)
theorem Z57 {N:Nat} {col:Ze} {d:World} {n o:Int} {r:(R1×Int)} (h c2:Nat) (a:Zpp N n o=some r):
    Calls prog 102 #[.int .i64 n,.int .i64 o] d (Zfr 45 h c2 col d r):=by
 refine Yx (m:=13) func102 rfl rfl rfl ?_;rw [Zpp.eq_1] at a;have e:=St.start col d;refine go ?_;refine Xr (col:=(Zh col)) #[.bool false,(nI),(nI)] 1 zeroValue42 fun _ _ t G F=>go ?_;obtain ⟨_,q,a⟩:=bZ a;refine Zi (Zvq (col:=t) 2 q) fun _ _ ⟨v,_,_,b,m,y⟩=>⟨_,b,?_⟩;refine Xk rfl ?_;obtain ⟨_,s,a⟩:=bZ a;refine Zi (Zvq (col:=v) 3 s) fun _ E ⟨f,_,_,b,l,x⟩=>⟨_,b,?_⟩;obtain ⟨g,p,a⟩:=bZ a;refine Zi (Z56 4 5 p (((y.gr l).toSlF (Zg.int .u32)).froz 3) ((x.froz 2).toSlF (Zg.int .u32))) fun _ _ ⟨z,A,B,C,D,b,c,j,k⟩=>⟨_,b,?_⟩;replace j:=j.thaw (Z1 .u32) c (((Fz.refl (col:=f)).froz 2).froz 3);replace k:=k.thaw (Z1 .u32) c (((Fz.refl (col:=f)).froz 2).froz 3);replace c:=c.thawR (col:=f);generalize Xa E.heap.size f z=H at *;refine lV (.agg #[.bool g.1.1.1,.slice A g.1.1.2.length B,.slice C g.1.2.length D]) (Xt rfl rfl)<|lV (.int .i64 g.2) (Xt rfl rfl) ?_;refine Z6 (((F.gr m).gr l).gr c) fun _ i u w=>go ?_;cases a;replace e:=((((e.grow G).grow m).grow l).grow c).kp i u;exact ⟨rfl,_,Vm w.atN,_,_,_,_,_,rfl,e.fin (cm [(4,h),(5,c2)]),e.fo (j.kp i),e.fo (k.kp i)⟩
def Zc9 (N:Nat) (b c:Int):Option R1:=
  (Zpp N b c).bind fun a=>some ((a.1.1.1,a.1.1.2),a.1.2)
theorem Zr6 {N:Nat} {col:Ze} {c:World} {k l:Int} {r:R1} (g c2:Nat) (b:Zc9 N k l=some r):
    Calls prog 52 #[.int .i64 k,.int .i64 l] c (Sm 45 g c2 col c r):=by
 refine Yx (m:=14) func52 rfl rfl rfl ?_;rw [Zc9.eq_1] at b;have d:=St.start col c;refine go ?_;refine Xr (col:=(Zh col)) #[.bool false,(nI),(nI)] 1 zeroValue42 fun _ _ u A z=>go ?_;obtain ⟨a,s,b⟩:=bZ b;refine Zi (Z57 (col:=u) 2 3 s) fun _ _ ⟨y,j,m,n,o,i,p,B,C⟩=>⟨_,i,?_⟩;refine lM (.tuple #[(.agg #[.bool a.1.1.1,.slice j a.1.1.2.length m,.slice n a.1.2.length o]),.int .i64 a.2])<|lV (.agg #[.bool a.1.1.1,.slice j a.1.1.2.length m,.slice n a.1.2.length o]) (Xt rfl rfl)<|lV (.int .i64 a.2) (Xt rfl rfl)<|Xr (col:=y) #[.bool false,(nI),(nI)] 4 zeroValue42 ?_;intro _ _ _ f q;refine Z6 q fun _ e x t=>go ?_;refine lV _ (Z5 isAgg42 sizeOf42 t) ?_;refine Z6 (((z.gr p).gr f).kp e) fun _ h v w=>go ?_;cases b;replace d:=((((d.grow A).grow p).grow f).kp e x).kp h v;exact ⟨rfl,_,ra w.atN,_,_,_,_,_,rfl,d.fin (cm [(2,g),(3,c2)]),d.fo (((B.gr f).kp e).kp h),d.fo (((C.gr f).kp e).kp h)⟩
def Zda (N:Nat) (a:R4):Nat→Bool→R2→R2→Int→Option R1
  | 0,_,_,_,_=>none
  | i+1,e,f,g,b=>if (decide (b<(a.length:Int)))=true then ((Zk a b).bind fun c=>(Ze5 N ((e,f),g) ((c.1.1,c.1.2),c.2)).bind fun d=>(Zda N a i) d.1.1 d.1.2 d.2 (i64.wrap (b+1))) else (some ((e,f),g))
def Zau (N:Nat) (b:R4):Option R1:=
  (Zc9 N 0 1).bind fun a=>Zda N b N a.1.1 a.1.2 a.2 0
theorem Zr7 {N P:Nat} {t:Option Addr} {col:Ze} {h:World} {s:R4} {r:R1} (C c2:Nat) (b:Zau N s=some r) (l:Sl rQ col h t P s):
    Calls prog 55 #[.slice t s.length P] h (Sm 45 C c2 col h r):=by
 refine Yx (m:=19) func55 rfl rfl rfl ?_;rw [Zau.eq_1] at b;have c:=St.start col h;refine go ?_;refine Xr (col:=(Zh col)) #[.bool false,(nI),(nI)] 1 zeroValue42 fun A _ p u d=>go ?_;obtain ⟨_,n,b⟩:=bZ b;refine Zi (Zr6 (col:=p) 2 3 n) fun _ _ ⟨o,_,_,_,_,p,a,B,D⟩=>⟨_,p,?_⟩;refine Xr (col:=o) #[.bool false,(nI),(nI)] 4 zeroValue42 fun x _ _ z j=>Z6 j fun _ y t j=>go ?_;replace c:=(((c.grow u).grow a).grow z).kp y t;replace d:=((d.gr a).gr z).kp y;refine Zt [0,2,3,1000000] (fun k m n=>∃ f E F G v H I w J o,o=k∧Zda N s o E v w J=some r∧St h (Zh col) f n∧Zd 42 1 f n A #[.bool false,(nI),(nI)]∧Zb rU 45 2 f n F G v∧Zb rU 45 3 f n H I w∧Zd 42 4 f n x #[.bool E,.slice F v.length G,.slice H w.length I]∧[4].map m=[.int .i64 J]) N ⟨_,_,_,_,_,_,_,_,0,_,rfl,b,c,d,(B.gr z).kp y,(D.gr z).kp y,j,rfl⟩ ?_;clear b;intro k m n q;obtain ⟨f,E,F,G,v,H,I,w,J,o,M,b,c,d,A,B,j,Q⟩:=q;subst M;refine .lL [4] Q ?_;replace l:=l.k0
 cases o with
 | zero=>rw [Zda.eq_1] at b;cases b
 | succ o=>
  rw [Zda.eq_2] at b;refine go ?_;refine Zm b (fun L b=>go ?_) fun L b=>go ?_
  ·refine Y8 (col:=f) [(0,0),(1,1),(2,1),(3,1),(4,0),(5,3),(6,2)] (by kernel_rfl) (by kernel_rfl)<|xv rfl rfl (fun _ a=>Z5 isAgg42 sizeOf42 (j.gr (a.bl f))) ?_;refine xu rfl rfl (fun _=>Vd rfl) ?_;refine xu rfl rfl (fun _=>Yd rfl) ?_;obtain ⟨K,u,b⟩:=bZ b;refine xu rfl rfl (fun _=>X8 underlying29 sizeOf42 rfl rfl (Z0 u).1 (Z0 u).2.1 ((l.ks c).addr u)) ?_;obtain ⟨_,T,i⟩:=(l.ks c).atN u;obtain ⟨_,_,rfl,R,g⟩:=Wq T;obtain ⟨_,_,rfl,O,U⟩:=Wq R;obtain ⟨rfl,_⟩:=O;obtain ⟨⟨Y,e,rfl,w⟩,_⟩:=U;obtain ⟨⟨X,Z,rfl,v⟩,_⟩:=g;refine xv (v:=(.agg #[.bool K.1.1,.slice Y K.1.2.length e,.slice X K.2.length Z])) rfl rfl (fun _ a=>Yl isAgg42 sizeOf42 rfl rfl (i.gr (a.bl f))) ?_;refine xe rfl rfl ?_;intro l e;have a:=e.bl f;obtain ⟨_,W,b⟩:=bZ b;replace A:=A.gr a;replace B:=B.gr a;refine Zi (Zvr 5 6 W ((A.toSlF (Zg.int .u32)).froz 3) ((B.froz 2).toSlF (Zg.int .u32)) (((w.gr a).froz 2).froz 3) (((v.gr a).froz 2).froz 3)) fun _ _ ⟨h,_,_,_,_,p,k,i,g⟩=>⟨_,p,?_⟩;replace i:=i.thaw (Z1 .u32) k (((Fz.refl (col:=f)).froz 2).froz 3);replace g:=g.thaw (Z1 .u32) k (((Fz.refl (col:=f)).froz 2).froz 3);replace k:=k.thawR (col:=f);generalize Xa l.heap.size f h=x at *;refine Zl<|Xo x e k<|xe rfl rfl ?_;intro _ e;replace d:=(d.gr a).gr k;replace j:=(j.gr a).gr k;replace c:=(c.grow a).grow k;have a:=e.bl x;replace j:=j.gr a;refine Z6 j fun _ q f m=>Zl<|xk x<|Y4 ?_;replace i:=(i.gr a).kp q;replace g:=(g.gr a).kp q;replace d:=(d.gr a).kp q;replace c:=(c.grow a).kp q f;intro _ a;replace a:=a.bl x;refine go ?_;replace i:=i.gr a;replace i:=i.recolSelf 2 (by decide);replace g:=g.gr a;replace g:=g.recol 5 2;replace d:=d.gr a;replace d:=d.recol 5 2;replace m:=m.gr a;replace m:=m.recol 5 2;replace c:=c.grow a;replace c:=c.recol 5 2 (by decide) (by decide);replace g:=g.recolSelf 3 (by decide);replace d:=d.recol 6 3;replace m:=m.recol 6 3
   replace c:=c.recol 6 3 (by decide) (by decide);exact ⟨o,by omega,rfl,⟨_,_,_,_,_,_,_,_,_,_,rfl,b,c,d,i.recol 6 3,g,m,rfl⟩⟩
  refine lV _ (Z5 isAgg42 sizeOf42 j)<|Z6 d ?_;intro _ D S V;refine go ?_;cases b;replace c:=c.kp D S;exact ⟨rfl,_,ra V.atN,_,_,_,_,_,rfl,c.fin (cm [(2,C),(3,c2)]),c.fo (A.kp D),c.fo (B.kp D)⟩
def Zat (N:Nat) (a:R1):Option Int:=
  (Zhf N (a.1.1,a.1.2)).bind fun b=>some b
theorem Zoo {N c i:Nat} {d j:Option Addr} {col:Ze} {b:World} {a:R1} {r:Int} (e:Zat N a=some r) (f:Sl rU col b d c a.1.2) (s:Sl rU col b j i a.2):
    Calls prog 56 #[(.agg #[.bool a.1.1,.slice d a.1.2.length c,.slice j a.2.length i])] b (Wn b r):=by
 refine Xc 2 (m:=6) func56 rfl rfl rfl rfl rfl ?_;rw [Zat.eq_1] at e;have g:=St.start col b;refine go ?_;refine Xg (col:=(Zh col)) 1 rfl fun _ _ o n m=>go ?_;refine Xy ⟨_,_,rfl⟩ ?_;refine lV (.agg #[.bool a.1.1,.slice d a.1.2.length c]) (Yl isAgg40 sizeOf40 rfl rfl ((m.atN).part 0 2 _ rfl)) ?_;obtain ⟨_,l,e⟩:=bZ e;replace g:=g.grow n;refine Zi (Zr4 l (f.k0.ks g)) fun _ _ ⟨k,h⟩=>⟨_,k,?_⟩;replace h:=Rr o h;refine go ?_;cases e;exact ⟨rfl,rfl,(g.grow h).below⟩
def Ze6 (N:Nat) (b:R1) (a:R1):Option (R1×Int):=
  (Zat N ((a.1.1,a.1.2),a.2)).bind fun d=>if (decide (d=0))=true then (some (((false,([]:List Int)),([]:List Int)),11)) else ((Sh N ((a.1.1,a.1.2),a.2)).bind fun e=>(Zhg N ((b.1.1,b.1.2),b.2) ((a.1.1,e),a.1.2)).bind fun c=>some (((c.1.1,c.1.2),c.2),0))
theorem Zvs {N V W s M:Nat} {c n t e:Option Addr} {col:Ze} {i:World} {u f:R1} {r:(R1×Int)} (S c2:Nat) (d:Ze6 N u f=some r) (P:Sl rU col i c V u.1.2) (Q:Sl rU col i n W u.2) (B:Sl rU col i t s f.1.2) (G:Sl rU col i e M f.2):
    Calls prog 57 #[(.agg #[.bool u.1.1,.slice c u.1.2.length V,.slice n u.2.length W]),(.agg #[.bool f.1.1,.slice t f.1.2.length s,.slice e f.2.length M])] i (Zfr 45 S c2 col i r):=by
 refine Yx (m:=24) func57 rfl rfl rfl ?_;rw [Ze6.eq_1] at d;have c:=St.start col i;refine go ?_;refine Xg (col:=(Zh col)) 1 rfl fun _ _ b w p=>Xg (col:=b) 2 rfl fun O _ a y l=>Xr (col:=a) #[.bool false,(nI),(nI)] 3 zeroValue42 fun _ _ o X n=>go ?_;replace l:=l.gr X;refine lV _ (Z5 isAgg42 sizeOf42 l) ?_;obtain ⟨_,v,d⟩:=bZ d;replace B:=B.k0;replace G:=G.k0;replace c:=((c.grow w).grow y).grow X;refine Zi (Zoo v (B.ks c) (G.ks c)) fun _ D ⟨m,q⟩=>⟨_,m,?_⟩;replace q:=Rr o q;refine go ?_;replace p:=((p.gr y).gr X).gr q;replace l:=l.gr q;replace n:=n.gr q;replace c:=c.grow q;refine Zm d (fun z d=>go ?_) fun z d=>go ?_
 ·refine lV (.agg #[.bool false,(nI),(nI)]) (Wo (l:=[_,_]) (qs:=[(0,2),(2,1)]) underlying42 zeroValue42 ⟨rfl,sizeOf40,rfl,sizeOf38,trivial⟩ rfl)<|Z6 n ?_;intro _ g h q;refine go ?_;cases d;replace c:=c.kp g h;exact ⟨rfl,_,Vm q.atN,_,none,0,none,0,rfl,c.fin (cm []),Zb.nil,Zb.nil⟩
 have R:=Zu.clip (fun _=>false) o D;refine Zih (col:=o) [(0,1),(1,1),(2,0),(3,0),(6,1),(7,1),(8,0),(4,3),(5,1),(9,1),(10,4),(11,2)] (by kernel_rfl) (by kernel_rfl) ⟨fun b=>absurd b (by decide),fun b=>absurd b (by decide),fun b=>absurd b (by decide),fun b=>absurd b (by decide),fun b=>absurd b (by decide),fun b=>absurd b (by decide),fun b=>absurd b (by decide),fun b=>absurd b (by decide),fun b=>absurd b (by decide),fun b=>absurd b (by decide),fun _=>⟨_,_,_,rfl,Sa zeroValue42⟩,fun b=>absurd b (by decide),trivial⟩<|Vf (v:=(.pointer ((some (⟨O,0,none⟩:Addr)).map (·.add 0)))) rfl rfl (fun _=>Uc (sz:=2) (off:=0) underlying42 rfl sizeOf40 (by decide) rfl rfl ⟨_,_,rfl⟩) ?_;refine Vf (v:=(.pointer (((some (⟨O,0,none⟩:Addr)).map (·.add 0)).map (·.add 0)))) rfl rfl (fun _=>Uc (sz:=1) (off:=0) underlying40 rfl sizeOf4 (by decide) rfl rfl (Tl ⟨_,_,rfl⟩)) ?_;replace l:=l.kpp R;refine Ta (v:=(.bool f.1.1)) rfl rfl (fun _ a=>Sn isAgg4 rfl (((((l.atN).part 0 2 _ rfl)).nth (q:=0) (v:=(.bool f.1.1)) rfl).gr (a.bl (Zo D o)))) ?_;refine Ta (v:=(.agg #[.bool f.1.1,.slice t f.1.2.length s,.slice e f.2.length M])) rfl rfl (fun _ a=>Yl isAgg42 sizeOf42 rfl rfl (l.atN.gr (a.bl (Zo D o)))) ?_;refine Vf (v:=(.pointer ((some (⟨O,0,none⟩:Addr)).map (·.add 0)))) rfl rfl (fun _=>Uc (sz:=2) (off:=0) underlying42 rfl sizeOf40 (by decide) rfl rfl ⟨_,_,rfl⟩) ?_;refine Vf (v:=(.pointer (((some (⟨O,0,none⟩:Addr)).map (·.add 0)).map (·.add 1)))) rfl rfl (fun _=>Uc (sz:=1) (off:=1) underlying40 rfl sizeOf38 (by decide) rfl rfl (Tl ⟨_,_,rfl⟩)) ?_;refine Ta (v:=(.slice t f.1.2.length s)) rfl rfl (fun _ a=>Sn isAgg38 rfl (((((l.atN).part 0 2 _ rfl)).nth (q:=1) (v:=(.slice t f.1.2.length s)) rfl).gr (a.bl (Zo D o)))) ?_;refine Vz rfl rfl ?_;intro _ h;have a:=h.bl (Zo D o);obtain ⟨J,o,d⟩:=bZ d;replace c:=(c.kpp R).grow a;refine Zi (Zbg 4 o (B.ks c) (G.ks c)) fun _ e ⟨g,F,I,m,w,i⟩=>⟨_,m,?_⟩;refine Zl ?_;refine ⟨fun y=>Zj (Zo e g) e (Zo e g) y,fun C=>(Zo e g) C=497,Zj.refl _ _,Vt,fun _=>⟨fun _ b=>V4 h w b,fun A z=>w.below.block A z,fun C j x=>Ts w C j (by first | exact x | (simp only [Ya,x];rfl) | (simp only [Ya,Xv,x];rfl))⟩,?_⟩;have L:=Zu.clip (fun _=>false) g e
 refine Vf (v:=(.agg #[.bool f.1.1,.slice F J.length I])) rfl rfl (fun _=>Wo (l:=[_,_]) (qs:=[(0,1),(1,1)]) underlying40 zeroValue40 ⟨rfl,sizeOf4,rfl,sizeOf38,trivial⟩ rfl) ?_;refine Vf (v:=(.agg #[.bool f.1.1,.slice F J.length I,.slice t f.1.2.length s])) rfl rfl (fun _=>Wo (l:=[_,_]) (qs:=[(0,2),(2,1)]) underlying42 zeroValue42 ⟨rfl,sizeOf40,rfl,sizeOf38,trivial⟩ rfl) ?_;refine Zik rfl rfl (Sa zeroValue42) fun k x=>Vz rfl rfl ?_;intro z ⟨h,hZ0⟩;replace p:=(((p.kpp R).gr a).gr w).kpp L;replace n:=(((n.kpp R).gr a).gr w).kpp L;have a:=h.bl (Zo e g);obtain ⟨H,T⟩:=Zf5 (col:=(Zo e g)) 5 hZ0 x;replace T:Zd 42 5 (Xm k 5 (Zo e g)) z k #[.bool false,(nI),(nI)]:=T;refine Z6 T fun j E D F=>Zl ?_;refine ⟨fun y=>Zj (Zo j (Xm k 5 (Zo e g))) j (Zo j (Xm k 5 (Zo e g))) y,fun C=>(Zo j (Xm k 5 (Zo e g))) C=497,Zj.refl _ _,Vt,fun b=>absurd b (by decide),?_⟩;have A:=Zu.clip (fun _=>false) (Xm k 5 (Zo e g)) j;refine Zil ?_;replace c:=(((((c.grow w).kpp L).grow a).kpp H).kp E D).kpp A;replace i:=((((i.kpp L).gr a).kpp H).kp E).kpp A;replace p:=(((p.gr a).kpp H).kp E).kpp A;replace n:=(((n.gr a).kpp H).kp E).kpp A;intro K a;replace a:Zj (Zo j (Xm k 5 (Zo e g))) j (Zo j (Xm k 5 (Zo e g))) K:=.of_below a.below;refine go ?_;refine lV _ (Z5 isAgg42 sizeOf42 (p.gr a)) ?_;refine lV _ (Z5 isAgg42 sizeOf42 ((F.kpp A).gr a)) ?_;obtain ⟨_,l,d⟩:=bZ d;replace c:=c.grow a;refine Zi (Zvt 6 7 l ((P.k0.ks c).froz 4) ((Q.k0.ks c).froz 4) ((i.gr a).toSlF (Zg.int .u32)) ((B.ks c).froz 4)) fun _ _ ⟨p,_,_,_,_,m,v,Y,Z⟩=>⟨_,m,?_⟩;replace Y:=Y.thaw (Z1 .u32) v ((Fz.refl (col:=(Zo j (Xm k 5 (Zo e g))))).froz 4) (by decide);replace Z:=Z.thaw (Z1 .u32) v ((Fz.refl (col:=(Zo j (Xm k 5 (Zo e g))))).froz 4) (by decide);replace v:=v.thawR (col:=(Zo j (Xm k 5 (Zo e g))))
 generalize Xa K.heap.size (Zo j (Xm k 5 (Zo e g))) p=C at *;refine Z6 ((n.gr a).gr v) fun _ U k m=>go ?_;cases d;replace c:=(c.grow v).kp U k;exact ⟨rfl,_,Vm m.atN,_,_,_,_,_,rfl,c.fin (cm [(6,S),(7,c2)]),c.fo (Y.kp U),c.fo (Z.kp U)⟩
theorem Zfx {N k:Nat} {neg:Bool} {m:List Int} (hm:Zp m) (hk:m.length≤k) (hr:Z3 N k):Qz N neg m=some (Xu (Zw (neg,m))):=by
 obtain ⟨a,b⟩:=hr
 rw [Qz,Tk hm (by omega) (by omega),oB,Znl]
 have e:decide (0<((Zf (Zc m)).length:Int))=decide (Zc m≠0):=by
  by_cases h:Zc m=0
  ·rw [h,Vh];decide
  ·have:=U8 h
   rw [decide_eq_true (by omega),decide_eq_true h]
 cases neg
 ·rw [if_neg (by decide),Zkh,Bool.false_and]
 ·rw [if_pos rfl,Zkh,e,Bool.true_and]
theorem Z1v {N k:Nat} {a:ZV} (hm:Zp a.2) (hk:a.2.length≤k) (hr:Z3 N k):Zki N a=some (Xu (Zw a)):=by
 rw [Zki,Zfx hm hk hr];rfl
theorem Zt8 {N k:Nat} {a:ZV} (hm:Zp a.2) (hk:a.2.length≤k) (hr:Z3 N k):Zhf N a=some (Zw a).sign:=by
 rw [Zhf,Z1v hm hk hr,oB,Xu]
 generalize Zw a=z
 by_cases h:z=0
 ·subst h;rw [Int.natAbs_zero,Vh,if_pos (by decide)];rfl
 ·have:=U8 (n:=z.natAbs) (by omega)
  rw [if_neg (dF (by simp only;omega))]
  by_cases h2:z<0
  ·rw [if_pos (dT h2),Int.sign_eq_neg_one_of_neg h2]
  ·rw [if_neg (fun b=>h2 (of_decide_eq_true b)),iX (by omega)]
theorem Z0u {N k l:Nat} {a b:ZV} (ha:Zp a.2) (hb:Zp b.2) (hk:a.2.length≤k) (hl:b.2.length≤l) (hr:Z3 N (k+l+1)):Zkg N a b=some (Xu (Zw a+Zw b)):=by
 have d:=hr
 obtain ⟨g,i⟩:=d
 have j:=Yr ha
 have m:=Yr hb
 have c:(Zf (Zc a.2+Zc b.2)).length≤k+l+1:=Zo9 (by omega) (by omega)
 have e:(Zf (Zc a.2 - Zc b.2)).length≤k+l+1:=by have:=Y7 (iJ (Zc a.2) (Zc b.2));omega
 have f:(Zf (Zc b.2 - Zc a.2)).length≤k+l+1:=by have:=Y7 (iJ (Zc b.2) (Zc a.2));omega
 rw [Zkg]
 by_cases h:a.1=b.1
 ·rw [if_pos (dT h),Z0w ha hb (by omega) (by omega),oB,Zfx (Xd _) c hr,oB,Zli.1 h]
 ·rw [if_neg (dF h),Znw ha hb (by omega) (by omega) (by omega) (by omega),oB]
  by_cases hlt:Zc a.2<Zc b.2
  ·rw [if_pos hlt,if_neg (by decide),Znw hb ha (by omega) (by omega) (by omega) (by omega),oB,if_neg (by omega),Zfx (Xd _) f hr,oB,(Zli.2 h).2 hlt]
  ·rw [if_neg hlt,if_pos rfl,Zfx (Xd _) e hr,oB,(Zli.2 h).1 (by omega)]
theorem Xbm {N k:Nat} {a:ZV} (hm:Zp a.2) (hk:a.2.length≤k) (hr:Z3 N k):Zmu N a=some (Xu (-Zw a)):=by
 rw [Zmu,Zfx hm hk hr,oB,Xc3]
theorem Zyd {a:ZV} (hm:Zp a.2):(Xu (Zw a)).2.length≤a.2.length:=by
 rw [Zgb,Zcc];exact Yr hm
theorem Z9c {a:ZV} (hm:Zp a.2):(Xu (-Zw a)).2.length≤a.2.length:=by
 rw [Zgb,Int.natAbs_neg,Zcc];exact Yr hm
theorem Xbt {N k l:Nat} {a b:ZV} (ha:Zp a.2) (hb:Zp b.2) (hk:a.2.length≤k) (hl:b.2.length≤l) (hr:Z3 N (k+l+1)):Zmw N a b=some (Xu (Zw a - Zw b)):=by
 rw [Zmw,Xbm (a:=(b.1,b.2)) hb hl (hr.mono (by omega)),oB,Z0u (a:=(a.1,a.2)) (b:=Xu _) ha (Uv _) hk (aT (Z9c hb) hl) hr,oB,Un,Int.sub_eq_add_neg]
theorem Znv {N k l:Nat} {a b:ZV} (ha:Zp a.2) (hb:Zp b.2) (hk:a.2.length≤k) (hl:b.2.length≤l) (hr:Z3 N (k+l)):Zc6 N a b=some (Xu (Zw a * Zw b)):=by
 have c:=hr
 obtain ⟨d,e⟩:=c
 have f:=Yr ha
 have g:=Yr hb
 have:=Uu (Zc a.2) (Zc b.2)
 rw [Zc6,Z1r ha hb (by omega) (by omega),oB,Zfx (k:=k+l) (Xd _) (by omega) hr,oB,Zrk]
theorem Xc2 (a b:Int):(a - b).sign=Zba a b:=by
 rw [← Zrj];unfold Zba
 (repeat' split) <;> omega
theorem Xba {N k l:Nat} {a b:ZV} (ha:Zp a.2) (hb:Zp b.2) (hk:a.2.length≤k) (hl:b.2.length≤l) (hr:Z3 N (k+l+1)):Zmt N a b=some (Zba (Zw a) (Zw b)):=by
 have sl:(Xu (Zw a - Zw b)).2.length≤k+l+1:=Xcd (k:=k+l) (aT (Zyd ha) (by omega)) (aT (Zyd hb) (by omega))
 rw [Zmt,Xbt (a:=(a.1,a.2)) (b:=(b.1,b.2)) ha hb hk hl hr,oB,Zt8 (a:=Xu _) (Uv _) sl hr,oB,Un,Xc2]
theorem Z1x {N:Nat} {z:Int} (h:-9223372036854775808≤z∧z≤9223372036854775807) (hr:Z3 N 4):Zkj N z=some (Xu z):=by
 have c:=hr
 obtain ⟨i,j⟩:=c
 have a:∀ n:Nat,n<18446744073709551616→(Zf n).length≤2:=fun n d=>Vc.2 (by simpa using d)
 have f:Zp [1]:=.cons (by decide) .nil
 rw [Zkj]
 by_cases hz:0≤z
 ·rw [if_pos (dT hz),Xs (by omega),Z1y (by omega) (by omega),oB,Zfx (Xd _) (a _ (by omega)) (hr.mono (by omega)),oB]
  have b:Zw (false,Zf z.toNat)=z:=by simp only [Zw,Xb];simp;omega
  rw [b]
 ·have g:=a (-z - 1).toNat (by omega)
  have e:u64.wrap (i64.wrap (-i64.wrap (z+1)))= -z - 1:=by rw [Zv (x:=z+1) (by omega),Zv (by omega),Xs (by omega)];omega
  rw [if_neg (dF hz),e,Z1y (by omega) (by omega),oB,Z0w (Xd _) f (by simp only [aK];omega) (by simp only [aK];omega),oB,Xb,Wi,Y0,Zfx (k:=4) (Xd _) (by
   have:=a ((-z - 1).toNat+((1:Int).toNat+4294967296 * 0)) (by omega)
   omega) hr,oB]
  have b:Zw (true,Zf ((-z - 1).toNat+((1:Int).toNat+4294967296 * 0)))=z:=by simp only [Zw,Xb,if_true];omega
  rw [b]
theorem Zfv {N k:Nat} {a:QV} (ha:RV k a) (hr:Z3 N k):Sh N a=some (Zf (Xx a.2)):=by
 obtain ⟨b,c⟩:=hr
 have:=ha.ld
 rw [Sh,Tk ha.d (by omega) (by omega),oB,Xx]
 by_cases h:Zc a.2=0
 ·rw [h,Vh,if_pos (by decide),if_pos rfl,Zpq,oB,Sd]
 ·have:=U8 h
  rw [if_neg (dF (by omega)),if_neg h]
theorem Zq0 {N k l:Nat} {num:ZV} {den:List Int} (hn:Zp num.2) (hd:Zp den) (h0:Zc den≠0) (hk:num.2.length≤k) (hl:den.length≤l) (hr:Z3 N (k+l)):
  Ze7 N num den=some (Zn (mkRat (Zw num) (Zc den))):=by
 have c:=hr
 obtain ⟨j,m⟩:=c
 have n:=Yr hn
 have f:=Yr hd
 have d:cX (Zc num.2) (Zc den)≠0:=fun h=>h0 (Nat.gcd_eq_zero_iff.1 h).2
 have lg:(Zf (cX (Zc num.2) (Zc den))).length≤den.length:=aT (Y7 (Nat.gcd_le_right _ (by omega))) f
 have o:=Y7 (cJ (Zc num.2) (cX (Zc num.2) (Zc den)))
 have ld:=Y7 (cJ (Zc den) (cX (Zc num.2) (Zc den)))
 obtain ⟨g,i,e,b,p⟩:=Xbl (N:=N) (M:=k+l) hn hd (by omega) (by omega) (by omega) (by omega)
 rw [Ze7,i,oB,Z05 hn e (by rw [b];omega) (by omega) (by rw [b];omega) (by omega),oB,Z05 hd e (by rw [b];omega) (by omega) (by rw [b];omega) (by omega),oB,b,if_neg d,if_neg d,
  Z1v (k:=k) (a:=(num.1,Zf (Zc num.2 / cX (Zc num.2) (Zc den)))) (Xd _) (by simp only;omega) (hr.mono (by omega)),oB,Tk (Xd _) (by omega) (by omega),oB,Zzh (neg:=num.1) h0,Znl,Xb,Xb]
theorem Zqy {N k:Nat} {a:QV} (ha:RV k a) (hr:Z3 N k):Zat N a=some (Tz (Zr a)):=by
 rw [Zat,Zt8 (a:=(a.1.1,a.1.2)) ha.m ha.lm hr,oB,Zz9]
theorem Zrl (n:Nat):Zw (false,Zf n)=n:=by simp [Zw,Xb]
theorem Zqx {N k l:Nat} {a b:QV} (ha:RV k a) (hb:RV l b) (hr:Z3 N (2 * (k+l+3))):Zc7 N a b=some (Ty (Zr a) (Zr b)):=by
 have c:=U7 ha
 have d:=U7 hb
 have e:=Zea (n:=Xx b.2) ha.m ha.lm d
 have f:=Zea (n:=Xx a.2) hb.m hb.lm c
 rw [Zc7,Zfv hb (hr.mono (by omega)),oB,Zb0,oB,Znv (a:=(a.1.1,a.1.2)) (b:=(false,Zf (Xx b.2))) (k:=k) (l:=l+1) ha.m (Xd _) ha.lm d (hr.mono (by omega)),oB,Zfv ha (hr.mono (by omega)),oB,Zb0,oB,Znv (a:=(b.1.1,b.1.2)) (b:=(false,Zf (Xx a.2))) (k:=l) (l:=k+1) hb.m (Xd _) hb.lm c (hr.mono (by omega)),oB,Zrl,Zrl,
  Xba (a:=Xu _) (b:=Xu _) (Uv _) (Uv _) e f (hr.mono (by omega)),oB,Un,Un,Zr,Zr,Zti (Us _) (Us _)]
theorem Z03 {N k l:Nat} {a b:QV} (ha:RV k a) (hb:RV l b) (hr:Z3 N (k+l+2)):Ze1 N (Zf (Xx a.2)) (Zf (Xx b.2))=some (Zf (Xx a.2 * Xx b.2)):=by
 have c:=U7 ha
 have d:=U7 hb
 obtain ⟨e,f⟩:=hr
 rw [Z1r (Xd _) (Xd _) (by omega) (by omega),Xb,Xb]
theorem Zt1 {N k l:Nat} {a b:QV} (ha:RV k a) (hb:RV l b) (hr:Z3 N (2 * (k+l+3))):Ze5 N a b=some (Zn (Zr a+Zr b)):=by
 have c:=U7 ha
 have d:=U7 hb
 have f:=Zea (n:=Xx b.2) ha.m ha.lm d
 have e:=Zea (n:=Xx a.2) hb.m hb.lm c
 obtain ⟨_,g,i⟩:=Zoy ha hb (hr.mono (by omega))
 have j:=Z03 ha hb (hr.mono (by omega))
 have sl:=Zul (k:=k+l+1) (by omega) (aT e (by omega))
 rw [Ze5,Zfv hb (hr.mono (by omega)),oB,Zb0,oB,Znv (a:=(a.1.1,a.1.2)) (b:=(false,Zf (Xx b.2))) (k:=k) (l:=l+1) ha.m (Xd _) ha.lm d (hr.mono (by omega)),oB,Zfv ha (hr.mono (by omega)),oB,Zb0,oB,Znv (a:=(b.1.1,b.1.2)) (b:=(false,Zf (Xx a.2))) (k:=l) (l:=k+1) hb.m (Xd _) hb.lm c (hr.mono (by omega)),oB,Zrl,Zrl,
  Z0u (a:=Xu _) (b:=Xu _) (Uv _) (Uv _) f e (hr.mono (by omega)),oB,Un,Un,oB,oB,j,oB,
  Zq0 (num:=Xu _) (Uv _) (Xd _) (by rw [Xb];exact i) sl g (hr.mono (by omega)),oB,Un,Xb,Zr,Zr,Rat.mkRat_add_mkRat _ _ (Us _) (Us _)]
theorem Z1e {N k l:Nat} {a b:QV} (ha:RV k a) (hb:RV l b) (hr:Z3 N (2 * (k+l+3))):Zhg N a b=some (Zn (Zr a * Zr b)):=by
 obtain ⟨_,c,d⟩:=Zoy ha hb (hr.mono (by omega))
 have e:=Z03 ha hb (hr.mono (by omega))
 have f:(Xu (Zw a.1 * Zw b.1)).2.length≤k+l:=by
  rw [Zgb,Int.natAbs_mul,Zcc,Zcc]
  have g:=Uu (Zc a.1.2) (Zc b.1.2)
  have i:=Yr ha.m
  have j:=Yr hb.m
  have:=ha.lm;have:=hb.lm
  omega
 rw [Zhg,Znv (a:=(a.1.1,a.1.2)) (b:=(b.1.1,b.1.2)) ha.m hb.m ha.lm hb.lm (hr.mono (by omega)),oB,Zfv ha (hr.mono (by omega)),oB,Zfv hb (hr.mono (by omega)),oB,e,oB,
  Zq0 (num:=Xu _) (Uv _) (Xd _) (by rw [Xb];exact d) f c (hr.mono (by omega)),oB,Un,Xb,Zr,Zr,gU]
theorem Z1d {N k l:Nat} {a b:QV} (ha:RV k a) (hb:RV l b) (hr:Z3 N (2 * (k+l+4))):Ze6 N a b=some (if Zr b=0 then (((false,[]),[]),11) else (Zn (Zr a / Zr b),0)):=by
 rw [Ze6,Zqy hb (hr.mono (by omega)),oB]
 by_cases h0:Zr b=0
 ·rw [if_pos h0,h0,if_pos (by decide)]
 ·have c:Zc b.1.2≠0:=fun h=>h0 ((Z0e b).2 h)
  have f:=U7 hb
  have n:=hb.lm
  have d:RV (l+1) ((b.1.1,Zf (Xx b.2)),b.1.2):=⟨Xd _,hb.m,f,by simp only;omega⟩
  have e:=Zp4 (Zw a.1) (Xx a.2) b.1 (Xx b.2) a.1.1 a.1.2 rfl c
  rw [if_neg (dF (fun h=>h0 (Zb9.1 h))),if_neg h0,Zfv hb (hr.mono (by omega)),oB,Z1e (k:=k) (l:=l+1) ha d (hr.mono (by omega)),oB]
  have g:Zr ((b.1.1,Zf (Xx b.2)),b.1.2)=mkRat (Zw (b.1.1,Zf (Xx b.2))) (Zc b.1.2):=by
   rw [Zr]
   show mkRat _ (Xx b.1.2)=_
   rw [show Xx b.1.2=Zc b.1.2 by rw [Xx,if_neg c]]
  have i:Zr a * Zr ((b.1.1,Zf (Xx b.2)),b.1.2)=Zr a / Zr b:=by
   have q1:Zr a / Zr b=mkRat (Zw a.1) (Xx a.2) / mkRat (Zw b.1) (Xx b.2):=rfl
   rw [q1,e,g,Zr,gU,← Zrk]
   simp only [Xb]
  have j:Zr (((a.1.1,a.1.2),a.2):QV)=Zr a:=rfl
  rw [j,i]
theorem Z14 {N:Nat} {a b:Int} (h:-9223372036854775808≤a∧a≤9223372036854775807) (g:0<b∧b≤9223372036854775807) (hr:Z3 N 8):Zc9 N a b=some (Zn ((a:Rat) / (b:Rat))):=by
 have d:∀ z:Int,-9223372036854775808≤z∧z≤9223372036854775807→(Xu z).2.length≤2:=fun z n=>Vc.2 (by simp;omega)
 have i:=d a h
 have f:=d b (by omega)
 have c:Zc (Xu b).2≠0:=by rw [Zgb,Xb];omega
 have e:=Zp4 (Zw (Xu a)) 1 (Xu b) 1 (Xu a).1 (Xu a).2 rfl c
 rw [Zc9,Zpp,Z1x h (hr.mono (by omega)),oB,Z1x (by omega) (hr.mono (by omega)),oB,Zpo,Zt8 (a:=Xu b) (Uv _) f (hr.mono (by omega)),oB,Un,iX g.1,if_neg (by decide),Zq0 (num:=(!decide ((Xu a).1=(Xu b).1),(Xu a).2)) (Uv _) (Uv _) c i f (hr.mono (by omega)),oB,oB,oB]
 rw [cM,cM,Un,Un] at e
 have j:(a:Rat) / ((1:Nat):Rat) / ((b:Rat) / ((1:Nat):Rat))=(a:Rat) / (b:Rat):=by
  have k:((1:Nat):Rat)=1:=rfl
  have l:(1:Rat)⁻¹=1:=fW (by grind)
  simp only [k,Rat.div_def,l,Rat.mul_one]
 rw [j,aV,Nat.mul_one] at e
 rw [e]
 have m:Zw (!decide ((Xu a).1=(Xu b).1),Zf (Zc (Xu a).2))=Zw (!decide ((Xu a).1=(Xu b).1),(Xu a).2):=by simp only [Zw,Xb]
 rw [m]
theorem div_one (a:Rat):a / 1=a:=by
 have b:(1:Rat)⁻¹=1:=fW (by grind)
 rw [Rat.div_def,b,Rat.mul_one]
theorem Zue {N:Nat} (hr:Z3 N 8):Zc9 N 0 1=some (Zn 0):=by
 rw [Z14 (by omega) (by omega) hr]
 congr 2
 exact div_one _
theorem Xb5 {N:Nat} (hr:Z3 N 8):Zc9 N 1 1=some (Zn 1):=by
 rw [Z14 (by omega) (by omega) hr]
 congr 2
 exact div_one _
theorem Z1g {N:Nat} (l:List QV) (hl:∀ a ∈ l,W2 a) (hb:l.length<4611686018427387904):∀ (n i:Nat) (q:Rat),i≤l.length→l.length<n+i→Z3 N (4 * (qs q+X6 (l.drop i)+3))→Zda N l n (Zn q).1.1 (Zn q).1.2 (Zn q).2 (i:Int)=some (Zn (q+Xj (l.drop i)))
 | 0,i,q,g,j,_=>by omega
 | n+1,i,q,g,j,b=>by
  rw [Zda.eq_2]
  by_cases hi:i<l.length
  ·have d:=List.drop_eq_getElem_cons hi
   have c:=hl _ (List.getElem_mem hi)
   have o:=Zto c
   rw [d,X6] at b
   have p:=Ztn q (Zr l[i])
   rw [if_pos (dT (by omega)),Zs hi,oB,Zt1 (k:=qs q) (l:=max (l[i]).1.2.length (l[i]).2.length) (Zle q) (Zab c.1 c.2) (b.mono (by omega)),oB,Zv (by omega)]
   have f:=Z1g l hl hb n (i+1) (q+Zr l[i]) (by omega) (by omega) (b.mono (by omega))
   have e:Zr ((((Zn q).1.1,(Zn q).1.2),(Zn q).2):QV)=q:=Y5 q
   have m:Zr (((l[i].1.1,l[i].1.2),l[i].2):QV)=Zr l[i]:=rfl
   rw [show ((i+1:Nat):Int)=(i:Int)+1 by omega] at f
   rw [e,m,f,d,Xj,Xj,List.map_cons,List.sum_cons,Rat.add_assoc]
  ·rw [if_neg (dF (by omega)),aG (by omega),Xj,List.map_nil,List.sum_nil,Rat.add_zero]
theorem Z1h {N:Nat} {l:List QV} (hl:∀ a ∈ l,W2 a) (hb:l.length<4611686018427387904) (hn:l.length<N) (hr:Z3 N (4 * (X6 l+4))):Zau N l=some (Zn (Xj l)):=by
 rw [Zau,Zue (hr.mono (by omega)),oB]
 have:=Z1g (N:=N) l hl hb N 0 0 (by omega) (by omega) (hr.mono (by rw [Znq,aM];omega))
 rw [aM,Rat.zero_add] at this
 exact this
def Zh4 (b:ByteArray):List ByteArray→Nat→Option Int
  | [],a=>some (-1)
  | c :: d,a=>if (decide (b=c))=true then (some (a:Int)) else ((Zh4 b d) (a+1))
def Zp1 (a:List ByteArray) (b:ByteArray):Option Int:=
  Zh4 b a 0
theorem Z63 {j:Nat} {l:Option Addr} {col:Ze} {d:World} {b:R3} {g:ByteArray} {r:Int} (a:Zp1 b g=some r) (e:Sl Za.str col d l j b):
    Calls prog 204 #[.slice l b.length j,.string g] d (Wn d r):=by
 refine Xc 4 (m:=19) func204 rfl rfl rfl rfl rfl ?_;rw [Zp1.eq_1] at a;have f:=St.start col d;refine go ?_;refine Zt [0,1,7,1000000] (fun s t u=>∃ v h k,s=k.length∧b.drop h=k∧Zh4 g k h=some r∧St d (Zh col) v u∧[8].map t=[.int .i64 h]) b.length ⟨_,0,_,rfl,rfl,a,f,rfl⟩ ?_;clear a;intro s t u w;obtain ⟨v,h,k,p,m,a,f,q⟩:=w;subst p;refine .lL [8] q ?_;replace e:=e.k0
 cases k with
 | nil=>
  have i:¬ ((h:Int)<(b.length:Int)):=by have:=aJ.1 m;omega
  have c:=decide_eq_false i;rw [Zh4.eq_1] at a;refine go ?_;refine Ym (congrArg Value.bool c)<|go ?_;cases a;exact ⟨rfl,rfl,f.below⟩
 | cons A x=>
  obtain ⟨n,y,z⟩:=Yt m;have i:(h:Int)<(b.length:Int):=by omega
  have c:=decide_eq_true i;rw [Zh4.eq_2] at a;refine go ?_;refine Yn (congrArg Value.bool c)<|go ?_;refine lI n ((e.ks f).addr n)<|lW ((e.ks f).atStr n) ?_;refine go ?_;refine Zm a (fun o a=>go ?_) fun o a=>go ?_
  ·cases a;exact ⟨rfl,rfl,f.below⟩
  exact ⟨x.length,by simp,rfl,⟨_,_,_,rfl,y,a,f,(Yz (congrArg (Value.int .i64) (Yv (aI z (e.ks f).1.1))) rfl)⟩⟩
def Znd (a:List ByteArray) (b:ByteArray):Option Bool:=
  (Zp1 a b).bind fun c=>some (decide (0≤c))
theorem Z61 {d:Nat} {e:Option Addr} {col:Ze} {a:World} {b:R3} {f:ByteArray} {r:Bool} (c:Znd b f=some r) (i:Sl Za.str col a e d b):
    Calls prog 169 #[.slice e b.length d,.string f] a (Vk a r):=by
 refine Xc 4 (m:=9) func169 rfl rfl rfl rfl rfl ?_;rw [Znd.eq_1] at c;have j:=St.start col a;refine go ?_;obtain ⟨_,k,c⟩:=bZ c;refine Zi (Z63 k (i.k0.ks j)) fun _ _ ⟨h,g⟩=>⟨_,h,?_⟩;replace g:=Rr (Zh col) g;refine go ?_;cases c;exact ⟨rfl,rfl,(j.grow g).below⟩
def Zev:List ByteArray→(List (ByteArray×Int))→Option Bool
  | [],a=>some false
  | b :: c,a=>if (decide (0<((Wz a b).getD 0)))=true then (some true) else ((some (Q4 a b 1)).bind fun d=>(Zev c) d)
def Zmc (a:List ByteArray):Option Bool:=
  Zev a ([]:List (ByteArray×Int))
theorem Z5q {s:Nat} {k:Option Addr} {col:Ze} {e:World} {b:R3} {r:Bool} (a:Zmc b=some r) (f:Sl Za.str col e k s b):
    Calls prog 170 #[.slice k b.length s] e (Vk e r):=by
 refine Xc 2 (m:=20) func170 rfl rfl rfl rfl rfl ?_;rw [Zmc.eq_1] at a;have d:=St.start col e;refine go ?_;refine Z87 (col:=(Zh col)) (fk:=Value.string) (fv:=(Value.int .i64)) 1 rfl fun _ _ _ C G=>go ?_;replace d:=d.grow C;refine Zt [7,8,1000000] (fun y z o=>∃ p q j i h,y=h.length∧b.drop i=h∧Zev h j=some r∧St e (Zh col) p o∧V2 Value.string (Value.int .i64) 1 p o q j∧[9,3].map z=[.int .i64 i,.map (some q)]) b.length ⟨_,_,_,0,_,rfl,rfl,a,d,G,rfl⟩ ?_;clear a;intro y z o D;obtain ⟨p,q,j,i,h,v,l,a,d,A,w⟩:=D;subst v;refine .lL [9,3] w ?_;replace f:=f.k0
 cases h with
 | nil=>
  have g:¬ ((i:Int)<(b.length:Int)):=by have:=aJ.1 l;omega
  have c:=decide_eq_false g;rw [Zev.eq_1] at a;refine go ?_;refine Ym (congrArg Value.bool c)<|go ?_;cases a;exact ⟨rfl,rfl,d.below⟩
 | cons t H=>
  obtain ⟨n,I,J⟩:=Yt l;have g:(i:Int)<(b.length:Int):=by omega
  have c:=decide_eq_true g;rw [Zev.eq_2] at a;refine go ?_;refine Yn (congrArg Value.bool c)<|go ?_;refine lI n ((f.ks d).addr n)<|lW ((f.ks d).atStr n) ?_;refine go ?_;refine lV (.int .i64 ((Wz j t).getD 0)) (Z0p Qc.str A underlying196 underlying9 zeroValue3 rfl rfl)<|go ?_;refine Zm a (fun u a=>go ?_) fun u a=>go ?_
  ·cases a;exact ⟨rfl,rfl,d.below⟩
  obtain ⟨B,m,a⟩:=bZ a;have m:B=Q4 j t 1:=(Option.some.inj m).symm;refine Zx1 (k:=t) (v:=1) Qc.str A underlying196 underlying9 rfl rfl rfl ?_;intro _ E F x;rw [← m] at x;refine go ?_;replace d:=d.kp E F;exact ⟨H.length,by simp,rfl,⟨_,_,_,_,_,rfl,I,a,d,x,(Yz (congrArg (Value.int .i64) (Yv (aI J (f.ks d).1.1))) rfl)⟩⟩
def Zjs (b:R0) (a:Nat) (kk_L1:(Nat→Option Int)) (c:Bool):Option Int:=
  if c=true then (some 40) else ((Zk b.2.2.1 (a:Int)).bind fun d=>if (decide ((d.length:Int)=0))=true then (some 43) else (kk_L1 (a+1)))
def Zcx (a:R0):List ByteArray→Nat→Option Int
  | [],b=>some 0
  | d :: c,b=>Z2 ((0:Int)≤(b:Int)∧(b:Int)≤(a.2.1.length:Int)) ((Znd (a.2.1.take (aA (b:Int))) d).bind fun e=>if e=true then (Zjs a b (Zcx a c) true) else ((Zk a.2.2.1 (b:Int)).bind fun f=>(Zmc f).bind fun g=>Zjs a b (Zcx a c) g))
def Zjr (a:R0):Option Int:=
  Zcx a a.2.1 0
theorem Z5n {i s t u:Nat} {j w x y:Option Addr} {col:Ze} {d:World} {a:R0} {r:Int} (b:Zjr a=some r) (k:Sl Za.str col d j i a.2.1) (o:Sl rV col d w s a.2.2.1) (c:Sl rP col d x t a.2.2.2.1) (e:Sl (Za.slice rQ) col d y u a.2.2.2.2):
    Calls prog 131 #[(.agg (Rq a j i w s x t y u))] d (Wn d r):=by
 refine Xc 2 (m:=37) func131 rfl rfl rfl rfl rfl ?_;rw [Zjr.eq_1] at b;have c:=St.start col d;refine go ?_;refine Xg (col:=(Zh col)) 1 rfl fun P _ _ X f=>go ?_;refine Z9 f ?_;refine go ?_;replace c:=c.grow X;refine Zt [1,6,7,1000000] (fun C q I=>∃ v g p,C=p.length∧a.2.1.drop g=p∧Zcx a p g=some r∧St d (Zh col) v I∧Zd 27 1 v I P (Rq a j i w s x t y u)∧[8].map q=[.int .i64 g]) a.2.1.length ⟨_,0,_,rfl,rfl,b,c,f,rfl⟩ ?_;clear b;intro C q I S;obtain ⟨v,g,p,M,B,b,c,f,n⟩:=S;subst M;refine .lL [8] n ?_;replace k:=k.k0;replace o:=o.k0
 cases p with
 | nil=>
  have l:¬ ((g:Int)<(a.2.1.length:Int)):=by have:=aJ.1 B;omega
  have e:=decide_eq_false l;rw [Zcx.eq_1] at b;refine go ?_;refine Ym (congrArg Value.bool e)<|go ?_;cases b;exact ⟨rfl,rfl,c.below⟩
 | cons h O=>
  obtain ⟨J,m,p⟩:=Yt B;have l:(g:Int)<(a.2.1.length:Int):=by omega
  have e:=decide_eq_true l;rw [Zcx.eq_2] at b;refine go ?_;refine Yn (congrArg Value.bool e)<|go ?_;refine lI J ((k.ks c).addr J)<|lW ((k.ks c).atStr J)<|Y6 rfl<|lAT rfl<|Zl<|Zf1<|Zx ?_;refine Wp.cutK [1,3,6,7,8,1000000] (fun q F=>∃ G H,Zjs a g (Zcx a O) H=some r∧St d (Zh col) G F∧Zd 27 1 G F P (Rq a j i w s x t y u)∧[13].map q=[.bool H]) ?_ ?_
  ·intro q F Q;obtain ⟨G,H,b,c,f,n⟩:=Q;rw [Zjs.eq_1] at b;refine .lL [13] n ?_;refine Zm b (fun h b=>go ?_) fun h b=>go ?_
   ·cases b;exact ⟨rfl,rfl,c.below⟩
   refine Z9 f<|Xk rfl ?_;obtain ⟨_,D,b⟩:=bZ b;refine lI D ((o.ks c).addr D) ?_;obtain ⟨_,T,V⟩:=(o.ks c).atN D;obtain ⟨⟨_,_,rfl,_⟩,_⟩:=T;refine lW V.one<|go ?_;refine Zm b (fun h b=>go ?_) fun h b=>go ?_
   ·cases b;exact ⟨rfl,rfl,c.below⟩
   exact ⟨O.length,by simp,rfl,⟨_,_,_,rfl,m,b,c,f,(Yz (congrArg (Value.int .i64) (Yv (aI p (k.ks c).1.1))) rfl)⟩⟩
  refine W0<|Z9 f<|Xk rfl ?_;obtain ⟨K,b⟩:=Z4 b;refine lv (v:=.slice j (aA (g:Int)) i) rfl rfl (Zca underlying22 sizeOf9 rfl rfl K.1 (by have:=(k.ks c).1.2;have:=K.2;omega))<|.ld (d:=17) (v:=(.slice j ((a.2.1.take (aA (g:Int))).length) i)) (congrArg (fun C=>Value.slice j C i) (List.length_take_of_le (show (aA (g:Int))≤a.2.1.length by have:=K.2;omega)).symm) ?_;refine lMT rfl ?_;obtain ⟨_,R,b⟩:=bZ b;refine Zi (Z61 R ((k.ks c).take (aA (g:Int)))) fun _ _ ⟨m,z⟩=>⟨_,m,?_⟩;replace z:=Rr v z;refine Vb rfl ?_;replace f:=f.gr z;replace c:=c.grow z;refine Ye b (fun L b=>go ?_) fun L b=>go ?_
  ·refine lV (.bool true) (X0 (congrArg Value.bool L) rfl)<|go ?_;exact ⟨rfl,_,_,b,c,f,rfl⟩
  refine Xy ⟨_,_,rfl⟩ ?_;refine go ?_;refine lW ((f.atN).nth (q:=2) rfl)<|go ?_;obtain ⟨_,E,b⟩:=bZ b;refine lI E ((o.ks c).addr E) ?_;refine go ?_;obtain ⟨_,U,W⟩:=(o.ks c).atN E;obtain ⟨⟨_,_,rfl,Y⟩,_⟩:=U;refine lW W.one<|go ?_;obtain ⟨Z,N,b⟩:=bZ b;refine Zi (Z5q N Y) fun _ _ ⟨m,A⟩=>⟨_,m,?_⟩;replace A:=Rr v A;refine lV (.bool Z) (X7 (congrArg Value.bool L) rfl)<|go ?_;exact ⟨rfl,_,_,b,c.grow A,f.gr A,rfl⟩
def Zjp (a:Bool) (b c:List Int):Option R1:=
  some ((a,b),c)
def Zet (N:Nat) (a:R1):Option R1:=
  (Zg1 N a.2).bind fun b=>if (decide ((b.length:Int)=0))=true then ((Zcy N 1).bind fun c=>Zjp a.1.1 a.1.2 c) else (Zjp a.1.1 a.1.2 a.2)
theorem Zve {N q K:Nat} {s J:Option Addr} {col:Ze} {f:World} {d r:R1} (a:Zet N d=some r) (l:Sl rU col f s q d.1.2) (n:Sl rU col f J K d.2):
    Calls prog 95 #[(.agg #[.bool d.1.1,.slice s d.1.2.length q,.slice J d.2.length K])] f (fun e w'=>∃ (col':Ze) (j:Option Addr) (h:Nat) (k:Option Addr) (i:Nat),e= .returned ((.agg #[.bool r.1.1,.slice j r.1.2.length h,.slice k r.2.length i]))∧Zj col f col' w'∧Sl rU col' w' j h r.1.2∧Sl rU col' w' k i r.2):=by
 refine Yx (m:=11) func95 rfl rfl rfl ?_;rw [Zet.eq_1] at a;have b:=St.start col f;refine go ?_;refine Xg (col:=(Zh col)) 1 rfl fun P _ Q Y c=>Xr (col:=Q) #[.bool false,(nI),(nI)] 2 zeroValue42 fun j _ _ I g=>Zl<|Zx ?_;replace l:=l.k0;replace n:=n.k0;replace b:=(b.grow Y).grow I;replace c:=c.gr I;refine Wp.cutK [1,2,1000000] (fun h m=>∃ o w x y p z A t,Zjp w p t=some r∧St f (Zh col) o m∧Sl rU o m x y p∧Sl rU o m z A t∧Zd 42 1 o m P #[.bool w,.slice x p.length y,.slice z t.length A]∧Zd 42 2 o m j #[.bool false,(nI),(nI)]) ?_ ?_
 ·intro h m U;obtain ⟨o,w,x,y,p,z,A,t,a,b,f,i,c,g⟩:=U;rw [Zjp.eq_1] at a;refine go ?_;refine lV _ (Z5 isAgg42 sizeOf42 c)<|Z6 g ?_;intro _ u V X;refine go ?_;cases a;replace b:=b.kp u V;exact ⟨rfl,_,ra X.atN,_,_,_,_,_,rfl,b.fin (cm []),b.fs (f.kp u),b.fs (i.kp u)⟩
 refine go ?_;refine Z9 c ?_;obtain ⟨_,S,a⟩:=bZ a;refine Zi (Zr1 3 S (n.ks b)) ?_;rintro _ ag ⟨W,ah,ai,rfl,E,aj⟩;refine ⟨_,rfl,go ?_⟩;replace c:=c.gr E;replace g:=g.gr E;replace b:=b.grow E;refine Zm a (fun G a=>?_) fun G a=>?_
 ·refine W0 ?_;obtain ⟨O,T,a⟩:=bZ a;refine Zi (Zls (col:=W) 4 T) fun _ _ ⟨Z,L,M,F,C,D⟩=>⟨_,F,?_⟩;refine Xy ⟨_,_,rfl⟩ ?_;replace c:=c.gr C;refine Zah (off:=2) (v:=(.slice L O.length M)) c sizeOf38 rfl rfl (Rs rfl rfl) rfl rfl ?_;intro R v H B;replace B:Zd 42 1 Z R P #[.bool d.1.1,.slice s d.1.2.length q,.slice L O.length M]:=B;refine Zl ?_;replace D:=D.kp v;replace g:=(g.gr C).kp v;replace g:=g.froz 4;replace b:=(b.grow C).kp v H;replace b:=b.froz 4 (by decide) (by decide);exact ⟨rfl,_,_,_,_,_,_,_,_,a,b,(l.ks b),(D).toSlF (Zg.int .u32),B.froz 4,g⟩
 refine Xz ?_;exact ⟨rfl,_,_,_,_,_,_,_,_,a,b,(l.ks b),(n.ks b),c,g⟩
theorem Z8a:Wt prog 42 3 56:=⟨Tryz.t42,_,rfl,rfl,rfl,rfl,rfl⟩
def Zeu (N:Nat):List R1→R4→Option R4
  | [],b=>some b
  | c :: d,b=>(Zet N ((c.1.1,c.1.2),c.2)).bind fun a=>Z2 ((b.length+[((a.1.1,a.1.2),a.2)].length) * 56≤140737488355328∧b.length+[((a.1.1,a.1.2),a.2)].length≤maxLen) ((Zeu N d) (b++[((a.1.1,a.1.2),a.2)]))
def Zjq (N:Nat) (a:R4):Option R4:=
  Z2 (a.length * 56≤281474976710656∧a.length≤maxLen) (Zeu N a ([]:List R1))
theorem Zvf {N P:Nat} {n:Option Addr} {col:Ze} {g:World} {c r:R4} (u:Nat) (a:Zjq N c=some r) (j:Sl rQ col g n P c):
    Calls prog 135 #[.slice n c.length P] g (fun e w'=>∃ (col':Ze) (i:Option Addr) (h:Nat),e= .returned ((.slice i r.length h))∧Zj col g col' w'∧Zb rQ 42 u col' w' i h r):=by
 refine Xc 2 (m:=22) func135 rfl rfl rfl rfl rfl ?_;rw [Zjq.eq_1] at a;have f:=St.start col g;refine go ?_;obtain ⟨O,a⟩:=Z4 a;refine Zx0 (col:=(Zh col)) (w:=g) (r:=rQ) (n:=c.length) 1 rfl underlying29 Z8a rfl rfl rfl O.1 O.2 fun _ _ _ d q=>go ?_;replace f:=f.grow d;refine Zt [10,9,1000000] (fun R S v=>∃ t m w x o l,R=l.length∧c.drop m=l∧Zeu N l o=some r∧St g (Zh col) t v∧Zb rQ 42 1 t v w x o∧[11,3].map S=[.int .i64 m,.slice w o.length x]) c.length ⟨_,0,_,_,_,_,rfl,rfl,a,f,q,rfl⟩ ?_;clear a;intro R S v h;obtain ⟨t,m,w,x,o,l,B,p,a,f,Y,D⟩:=h;subst B;refine .lL [11,3] D ?_;replace j:=j.k0
 cases l with
 | nil=>
  have k:¬ ((m:Int)<(c.length:Int)):=by have:=aJ.1 p;omega
  have d:=decide_eq_false k;rw [Zeu.eq_1] at a;refine go ?_;refine Ym (congrArg Value.bool d)<|go ?_;cases a;exact ⟨rfl,_,_,_,rfl,f.fin (cm [(1,u)]),f.fo Y⟩
 | cons z w=>
  obtain ⟨y,x,B⟩:=Yt p;have k:(m:Int)<(c.length:Int):=by omega
  have d:=decide_eq_true k;rw [Zeu.eq_2] at a;refine go ?_;refine Yn (congrArg Value.bool d)<|go ?_;refine lI y ((j.ks f).addr y) ?_;obtain ⟨_,i,s⟩:=(j.ks f).atN y;obtain ⟨_,_,rfl,g,p⟩:=Wq i;obtain ⟨_,_,rfl,b,k⟩:=Wq g;obtain ⟨rfl,_⟩:=b;obtain ⟨⟨m,o,rfl,v⟩,_⟩:=k;obtain ⟨⟨l,n,rfl,u⟩,_⟩:=p;refine lV (.agg #[.bool z.1.1,.slice m z.1.2.length o,.slice l z.2.length n]) (Yl isAgg42 sizeOf42 rfl rfl s)<|Xr (col:=t) #[.bool false,(nI),(nI)] 2 zeroValue42 ?_;intro _ _ _ s Z;refine Z6 Z fun _ q M E=>go ?_;refine lV _ (Z5 isAgg42 sizeOf42 E) ?_;obtain ⟨b,C,a⟩:=bZ a;refine Zi (Zve C ((v.gr s).kp q) ((u.gr s).kp q)) fun _ _ ⟨F,T,U,V,W,A,X,K,L⟩=>⟨_,A,?_⟩;refine U6 (col:=F) (r:=rQ) (xs:=[((b.1.1,b.1.2),b.2)]) [(.agg #[.bool b.1.1,.slice T b.1.2.length U,.slice V b.2.length W])] 3 (W5.ofF (Rows.consF (r:=rQ) (x:=((b.1.1,b.1.2),b.2)) (cs:=[.bool b.1.1,.slice T b.1.2.length U,.slice V b.2.length W]) (Zld (Zld (Zaa b.1.1) (Znt K)) (Znt L)) Rows.nil0)) ?_;intro _ _ _ Q G;obtain ⟨I,a⟩:=Z4 a;refine Wy ((((Y.gr s).kp q).gr X).gr Q) (G.srcN (NB.pair (NB.pair NB.bool NB.slice) NB.slice)) I fun _ _ _ _ H J=>go ?_;replace f:=((((f.grow s).kp q M).grow X).grow Q).kpp H;exact ⟨w.length,by simp,rfl,⟨_,_,_,_,_,_,rfl,x,a,f,J,(Yz (congrArg (Value.int .i64) (Yv (aI B (j.ks f).1.1))) rfl)⟩⟩
def Zfn (N:Nat) (b:List R1) (c:Int):Nat→Int→Option R9
  | 0,_=>none
  | d+1,a=>if (decide (a<(b.length:Int)))=true then (Z2 ((0:Int)≤a∧a≤(b.length:Int)) (Z2 ((0:Int)≤a∧a≤(i64.wrap (a+(if ((b.drop (aA a)).length:Int)<c then ((b.drop (aA a)).length:Int) else c)))∧(i64.wrap (a+(if ((b.drop (aA a)).length:Int)<c then ((b.drop (aA a)).length:Int) else c)))≤(i64.wrap (a+(if ((b.drop (aA a)).length:Int)<c then ((b.drop (aA a)).length:Int) else c)))∧(i64.wrap (a+(if ((b.drop (aA a)).length:Int)<c then ((b.drop (aA a)).length:Int) else c)))≤(b.length:Int)) (((Zfn N b c d) (i64.wrap (a+c))).bind fun e=>some ((b.take (aA (i64.wrap (a+(if ((b.drop (aA a)).length:Int)<c then ((b.drop (aA a)).length:Int) else c))))).drop (aA a) :: e)))) else (some [])
def Zpx (N:Nat) (a:List R1) (b:Int):Option R9:=
  Zfn N a b N 0
theorem Z6z (N:Nat) (col:Ze) (n:World) (p:Nat) (e:Option Addr) (d:Nat) (b:List R1) (g:Sl rQ col n e d b) (f:Zd 29 450 col n p #[.slice e b.length d]) (o:Nat) (c:Int) (h:Zd 3 450 col n o #[.int .i64 c]) (r:List R4) (i:Zpx N b c=some r):
    Zn2 prog 1 209 [.pointer (some ⟨p,0,none⟩),.pointer (some ⟨o,0,none⟩)] (fun (y:List R1) (col:Ze) (w:World) (args:List Value)=>∃ z I,args=[.slice z y.length I]∧Sl rQ col w z I y) r col n:=by
 intro M Q _ v _ F l;refine Zf8 (m:=31) (args:=[.func (.yield M) #[] #[],.pointer (some ⟨p,0,none⟩),.pointer (some ⟨o,0,none⟩)]) func209 rfl rfl rfl rfl ?_;rw [Zpx.eq_1] at i;refine go ?_;refine Zt [0,1,2,1000000] (fun t L x=>∃ m r a u,u=t∧Zfn N b c u a=some r∧Q r m x∧Sl rQ m x e d b∧Zd 29 450 m x p #[.slice e b.length d]∧Zd 3 450 m x o #[.int .i64 c]∧[4].map L=[.int .i64 a]) N ⟨_,_,0,_,rfl,i,l,g,f,h,rfl⟩ ?_;clear i;intro t L x P;obtain ⟨m,r,a,u,E,i,l,g,f,h,D⟩:=P;subst E;refine .lL [4] D ?_
 cases u with
 | zero=>rw [Zfn.eq_1] at i;cases i
 | succ u=>
  rw [Zfn.eq_2] at i;refine go ?_;refine lW f.at1<|go ?_;refine Zm i (fun B i=>go ?_) fun B i=>go ?_
  ·refine Wg (col:=m) (by kernel_rfl) (by kernel_rfl)<|qW (fun _ j=>h.at1.gr (j.bl m)) ?_;refine qW (fun _ j=>f.at1.gr (j.bl m)) ?_;refine go ?_;obtain ⟨K,i⟩:=Z4 i;have S:=g.drop (sz:=3) rfl (aA a);refine qv (v:=.slice (if d=(aA a) then e else e.map (·.add ((aA a) * 3))) (b.length - (aA a)) (d - (aA a))) rfl (fun _ j=>Xa3 underlying29 sizeOf42 rfl rfl K.1 K.2) ?_;generalize (if d=(aA a) then e else e.map (·.add ((aA a) * 3)))=J at *;refine .ld (d:=16) (v:=(.slice J ((b.drop (aA a)).length) (d - (aA a)))) (congrArg (fun t=>Value.slice J t (d - (aA a))) (bH (i:=(aA a)) (l:=b)).symm) ?_;refine go ?_;refine qv (v:=(.int .i64 (if ((b.drop (aA a)).length:Int)<c then ((b.drop (aA a)).length:Int) else c))) rfl (fun _ j=>Zqt c ((b.drop (aA a)).length:Int) rfl rfl) ?_;refine go ?_;refine Y1 ?_;intro _ j;replace j:=j.bl m;replace g:=g.gr j;replace f:=f.gr j;replace h:=h.gr j;replace l:=v _ _ _ _ _ l j.toP;refine go ?_;refine lM (.func (.yield M) #[] #[])<|lW f.at1<|go ?_;obtain ⟨s,i⟩:=Z4 i;have R:=((g.take (aA (i64.wrap (a+(if ((b.drop (aA a)).length:Int)<c then ((b.drop (aA a)).length:Int) else c))))).recap (show (b.take (aA (i64.wrap (a+(if ((b.drop (aA a)).length:Int)<c then ((b.drop (aA a)).length:Int) else c))))).length≤(aA (i64.wrap (a+(if ((b.drop (aA a)).length:Int)<c then ((b.drop (aA a)).length:Int) else c)))) by rw [dA (i:=(aA (i64.wrap (a+(if ((b.drop (aA a)).length:Int)<c then ((b.drop (aA a)).length:Int) else c))))) (l:=b)];have:=s.2;omega)).drop (sz:=3) rfl (aA a);refine lv (v:=.slice (if (aA (i64.wrap (a+(if ((b.drop (aA a)).length:Int)<c then ((b.drop (aA a)).length:Int) else c))))=(aA a) then e else e.map (·.add ((aA a) * 3))) ((aA (i64.wrap (a+(if ((b.drop (aA a)).length:Int)<c then ((b.drop (aA a)).length:Int) else c)))) - (aA a)) ((aA (i64.wrap (a+(if ((b.drop (aA a)).length:Int)<c then ((b.drop (aA a)).length:Int) else c)))) - (aA a))) rfl rfl (Xa4 underlying29 sizeOf42 rfl rfl rfl rfl s.1 s.2.1 s.2.2.1 (by have:=g.1.2;have:=s.2.2.2;omega)) ?_
   generalize (if (aA (i64.wrap (a+(if ((b.drop (aA a)).length:Int)<c then ((b.drop (aA a)).length:Int) else c))))=(aA a) then e else e.map (·.add ((aA a) * 3)))=A at *;refine .ld (d:=28) (v:=(.slice A (((b.take (aA (i64.wrap (a+(if ((b.drop (aA a)).length:Int)<c then ((b.drop (aA a)).length:Int) else c))))).drop (aA a)).length) ((aA (i64.wrap (a+(if ((b.drop (aA a)).length:Int)<c then ((b.drop (aA a)).length:Int) else c)))) - (aA a)))) (congrArg (fun t=>Value.slice A t ((aA (i64.wrap (a+(if ((b.drop (aA a)).length:Int)<c then ((b.drop (aA a)).length:Int) else c)))) - (aA a))) (show (aA (i64.wrap (a+(if ((b.drop (aA a)).length:Int)<c then ((b.drop (aA a)).length:Int) else c)))) - (aA a)=((b.take (aA (i64.wrap (a+(if ((b.drop (aA a)).length:Int)<c then ((b.drop (aA a)).length:Int) else c))))).drop (aA a)).length by rw [bH (i:=(aA a)) (l:=b.take (aA (i64.wrap (a+(if ((b.drop (aA a)).length:Int)<c then ((b.drop (aA a)).length:Int) else c))))),dA (i:=(aA (i64.wrap (a+(if ((b.drop (aA a)).length:Int)<c then ((b.drop (aA a)).length:Int) else c))))) (l:=b)];have:=s.2;omega)) ?_;obtain ⟨_,k,O⟩:=bZ i;cases O;have i:=k;refine ly1 rfl rfl rfl (F _ _ _ _ [(.slice A (((b.take (aA (i64.wrap (a+(if ((b.drop (aA a)).length:Int)<c then ((b.drop (aA a)).length:Int) else c))))).drop (aA a)).length) ((aA (i64.wrap (a+(if ((b.drop (aA a)).length:Int)<c then ((b.drop (aA a)).length:Int) else c)))) - (aA a)))] l ⟨A,((aA (i64.wrap (a+(if ((b.drop (aA a)).length:Int)<c then ((b.drop (aA a)).length:Int) else c)))) - (aA a)),rfl,R⟩) ?_;rintro _ G ⟨H,q,⟨rfl,C⟩ | ⟨rfl,hX⟩⟩
   ·refine ⟨_,rfl,?_⟩;have l:=C;refine go ?_;refine Ym rfl<|go ?_;replace h:=h.kpp q;refine lW h.at1<|go ?_;replace g:=g.kpp q;replace f:=f.kpp q;exact ⟨u,by omega,rfl,⟨_,_,_,_,rfl,i,l,g,f,h,rfl⟩⟩
   refine ⟨_,rfl,?_⟩;have l:=hX;refine go ?_;refine Yn rfl<|W1 ?_;exact ⟨rfl,⟨_,rfl⟩,_,.inr l⟩
  cases i;exact ⟨rfl,⟨_,rfl⟩,_,.inl l⟩
def Zpy (N:Nat) (a:R4) (b:Int):Option R9:=
  Zpx N a b
def Zpw (N:Nat) (b:R4) (a:Int):Option R9:=
  if (decide (a<1))=true then none else (Zpy N b a)
theorem Z6y {N a:Nat} {f:Option Addr} {col:Ze} {i:World} {c:R4} {d:Int} {r:R9} (g:Zpw N c d=some r) (z:Sl rQ col i f a c):
    Calls prog 174 #[.slice f c.length a,.int .i64 d] i (fun e w'=>∃ (col':Ze) (k:Value),e= .returned (k)∧Zj col i col' w'∧It prog 1 k (fun (y:List R1) (col:Ze) (w:World) (args:List Value)=>∃ f a,args=[.slice f y.length a]∧Sl rQ col w f a y) r q0 col' w'):=by
 refine Xc 4 (m:=9) func174 rfl rfl rfl rfl rfl ?_;rw [Zpw.eq_1] at g;have l:=St.start col i;refine go ?_;refine Ziz (col:=(Zh col)) (v:=(.slice f c.length a)) 1 rfl rfl ?_;intro o F A H m;replace m:Zd 29 1 A F o #[.slice f c.length a]:=m;refine Ziz (col:=A) (v:=(.int .i64 d)) 2 rfl rfl ?_;intro n E C B p;replace p:Zd 3 2 C E n #[.int .i64 d]:=p;refine lv (v:=_) rfl rfl (T0 rfl)<|Zl<|Zx ?_;replace l:=(l.grow H).grow B;replace m:=m.gr B;refine Wp.cutK [2,3,1000000] (fun G t=>∃ s,Zpy N c d=some r∧St i (Zh col) s t∧Zd 29 1 s t o #[.slice f c.length a]∧Zd 3 2 s t n #[.int .i64 d]) ?_ ?_
 ·intro G t D;obtain ⟨s,g,l,m,p⟩:=D;rw [Zpy.eq_1] at g;refine go ?_;refine lV (.func (.func 209) #[] #[.pointer (some ⟨o,0,none⟩),.pointer (some ⟨n,0,none⟩)]) (Z0m rfl rfl)<|lA (.func (.func 209) #[] #[.pointer (some ⟨o,0,none⟩),.pointer (some ⟨n,0,none⟩)])<|go ?_;have J:=l.finBox (G:=(fun b=>bif aP b 1 then 450 else bif aP b 2 then 450 else 0)) m (by decide) (by decide) (show (fun b=>bif aP b 1 then 450 else bif aP b 2 then 450 else 0) 1=450 from rfl);have q:=l.finSl (g:=(fun b=>bif aP b 1 then 450 else bif aP b 2 then 450 else 0)) rfl (z.k0.ks l);have I:=l.finBox (G:=(fun b=>bif aP b 1 then 450 else bif aP b 2 then 450 else 0)) p (by decide) (by decide) (show (fun b=>bif aP b 1 then 450 else bif aP b 2 then 450 else 0) 2=450 from rfl);refine ⟨rfl,U4 i.heap.size col s (fun b=>bif aP b 1 then 450 else bif aP b 2 then 450 else 0),_,rfl,l.fin (fun b=>bif aP b 1 then 450 else bif aP b 2 then 450 else 0),209,[.pointer (some ⟨o,0,none⟩),.pointer (some ⟨n,0,none⟩)],rfl,call209,?_⟩;intro j x u h;exact Z6z N j x o f a c (q.itk u h rfl) (J.itk u h rfl) n d (I.itk u h rfl) r g
 refine go ?_;refine lW p.at1<|go ?_;refine Zm g (fun v g=>?_) fun v g=>?_
 ·cases g
 refine Xz ?_;exact ⟨rfl,_,g,l,m,p⟩
def Zgu (N:Nat):Option R1:=
  (Zeh N 1 1).bind fun a=>some ((a.1.1.1,a.1.1.2),a.1.2)
theorem Zry {N:Nat} {col:Ze} {c:World} {r:R1} (g c2:Nat) (b:Zgu N=some r):
    Calls prog 94 #[] c (Sm 45 g c2 col c r):=by
 refine Yx (m:=8) func94 rfl rfl rfl ?_;rw [Zgu.eq_1] at b;have d:=St.start col c;refine go ?_;refine Xr (col:=(Zh col)) #[.bool false,(nI),(nI)] 1 zeroValue42 fun _ _ s y x=>go ?_;obtain ⟨a,p,b⟩:=bZ b;refine Zi (Zrv (col:=s) 2 3 p) fun _ _ ⟨w,j,k,l,m,i,n,z,A⟩=>⟨_,i,?_⟩;refine lM (.tuple #[(.agg #[.bool a.1.1.1,.slice j a.1.1.2.length k,.slice l a.1.2.length m]),.int .i64 a.2])<|lV (.agg #[.bool a.1.1.1,.slice j a.1.1.2.length k,.slice l a.1.2.length m]) (Xt rfl rfl)<|lV (.int .i64 a.2) (Xt rfl rfl)<|Xr (col:=w) #[.bool false,(nI),(nI)] 4 zeroValue42 ?_;intro _ _ _ f o;refine Z6 o fun _ e v q=>go ?_;refine lV _ (Z5 isAgg42 sizeOf42 q) ?_;refine Z6 (((x.gr n).gr f).kp e) fun _ h t u=>go ?_;cases b;replace d:=((((d.grow y).grow n).grow f).kp e v).kp h t;exact ⟨rfl,_,ra u.atN,_,_,_,_,_,rfl,d.fin (cm [(2,g),(3,c2)]),d.fo (((z.gr f).kp e).kp h),d.fo (((A.gr f).kp e).kp h)⟩
def Zsz (a:Bool):Option Bool:=
  some a
def Zgw (N:Nat):List R4→Bool→Option Bool
  | [],c=>some true
  | d :: e,c=>(Qq N d).bind fun a=>(Zgu N).bind fun b=>(Zjd N ((a.1.1,a.1.2),a.2) ((b.1.1,b.1.2),b.2)).bind fun f=>if (!decide (f=0))=true then (Zsz false) else ((Zgw N e) c)
def Zmd (N:Nat) (a:R4) (b:Int):Option Bool:=
  (Zpw N a b).bind fun c=>Zgw N c false
theorem Z5r {N j:Nat} {p:Option Addr} {col:Ze} {l:World} {q:R4} {t:Int} {r:Bool} (b:Zmd N q t=some r) (U:Sl rQ col l p j q):
    Calls prog 137 #[.slice p q.length j,.int .i64 t] l (Vk l r):=by
 refine Z7a (m:=15) (args:=[.slice p q.length j,.int .i64 t]) func137 rfl rfl rfl ?_;rw [Zmd.eq_1] at b;have d:=St.start col l;have a:Wh 499 (Zh col) l []:=.nil;refine go ?_;refine Zcj (col:=(Zh col)) (v:=(.bool false)) 1 rfl zeroValue4 ?_;intro F h e c f;replace f:Zd 4 1 e h F #[.bool false]:=f;refine go ?_;obtain ⟨o,m,b⟩:=bZ b;replace d:=d.grow c;refine Zi (Z6y m (U.k0.ks d)) ?_;rintro _ ah ⟨Q,ai,rfl,x,R⟩;refine ⟨_,rfl,go ?_⟩;replace a:=(a.gr c).gr x;replace f:=f.gr x;replace d:=d.grow x;refine Zut (psl:=[9]) (arr:=(fun (X:List R1) (col:Ze) (n:World) (g:List Value)=>∃ p j,g=[.slice p X.length j]∧Sl rQ col n p j X)) (ys:=o) (col:=Q) 498 rfl R rfl a rfl rfl (by rintro _ _ _ _ ⟨_,_,rfl,_⟩;rfl) (fun v n o=>∃ (h:Bool),Zgw N v h=some r∧St l (Zh col) n o∧Zd 4 1 n o F #[.bool h]) (fun B n o=>(B= .ret∧∃ (h:Bool),Zsz h=some r∧St l (Zh col) n o∧Zd 4 1 n o F #[.bool h])) ?_ ?_ ⟨false,b,d,f⟩ ?_ ?_ ?_
 ·intro v n o k A E u;obtain ⟨h,b,d,f⟩:=E;exact ⟨h,b,d.kpp u rfl rfl,f.kpp u rfl⟩
 ·intro B n o k A m u;obtain ⟨rfl,m⟩:=m;obtain ⟨h,b,d,f⟩:=m;exact ⟨rfl,⟨h,b,d.kpp u rfl rfl,f.kpp u rfl⟩⟩
 ·intro _ _ _ _ _ n o g E c a s;obtain ⟨h,b,d,f⟩:=E;rw [Zgw.eq_2] at b;have e:=Zu.refl (pC 1) n o;obtain ⟨_,_,rfl,u⟩:=s;refine go ?_;refine ⟨_,c,?_⟩;intro _ _ D k i;have c:=i;refine go ?_;obtain ⟨_,l,b⟩:=bZ b;refine Zi (Zrw 2 3 l (u.kp D)) fun _ _ ⟨s,_,_,_,_,w,C,y,G⟩=>⟨_,w,?_⟩;obtain ⟨_,p,b⟩:=bZ b;refine lc rfl rfl (Zfu call94) (Zry (col:=s) 4 5 p:) fun _ _ ⟨g,_,_,_,_,w,z,v,A⟩=>⟨_,w,?_⟩;obtain ⟨_,i,b⟩:=bZ b;refine Zi (Zva i (((((y.gr z).toSlF (Zg.int .u32)).froz 3).froz 4).froz 5) (((((G.gr z).froz 2).toSlF (Zg.int .u32)).froz 4).froz 5) ((((v.froz 2).froz 3).toSlF (Zg.int .u32)).froz 5) ((((A.froz 2).froz 3).froz 4).toSlF (Zg.int .u32))) fun _ _ ⟨w,y⟩=>⟨_,w,?_⟩;replace y:=Rr g y;refine go ?_;replace f:=(((f.kp D).gr C).gr z).gr y;replace a:=(((a.kp D).gr C).gr z).gr y;replace e:=(((e.kp D k rfl).gr C).gr z).gr y;replace d:=(((d.kp D k).grow C).grow z).grow y;replace c:=((c.gr C).gr z).gr y;refine Zm b (fun J b=>go ?_) fun J b=>?_
  ·refine Ql (v:=(.bool false)) f sizeOf4 rfl rfl (Rs rfl rfl) rfl rfl ?_;intro K G Y H;replace H:Zd 4 1 g K F #[.bool false]:=H;refine go ?_;replace c:=c.kp G;replace a:=a.kp G;replace e:=e.kp G Y rfl;replace d:=d.kp G Y;exact ⟨_,e,⟨rfl,⟨false,b,d,H⟩⟩,c,a⟩
  refine Xz ?_;exact ⟨_,e,⟨h,b,d,f⟩,c,a⟩
 ·intro T n o E a;obtain ⟨h,b,d,f⟩:=E;rw [Zgw.eq_1] at b;refine go ?_;refine Ql (v:=(.bool true)) f sizeOf4 rfl rfl (Rs rfl rfl) rfl rfl ?_;intro L Z S I;replace I:Zd 4 1 n L F #[.bool true]:=I;refine go ?_;cases b;replace a:=a.kp Z;refine ⟨_,(T :: []),rfl,a,?_⟩;intro _ W M;replace d:=(d.kp Z S).kp W M;exact ⟨_,Z1c rfl rfl isAgg4 rfl (I.kp W).at1,rfl,d.below⟩
 intro B P n o m a;obtain ⟨rfl,m⟩:=m;obtain ⟨h,b,d,f⟩:=m;rw [Zsz.eq_1] at b;refine W1 ?_;cases b;refine ⟨_,(P :: []),rfl,a,?_⟩;intro _ V O;exact ⟨_,Z1c rfl rfl isAgg4 rfl (f.kp V).at1,rfl,(d.kp V O).below⟩
def Zju (a:Bool):Option Bool:=
  some a
def Zjt (N:Nat) (a:R1):Option Bool:=
  (Qp N ((a.1.1,a.1.2),a.2)).bind fun c=>if (decide (c<0))=true then (Zju true) else ((Zgu N).bind fun b=>(Zjd N ((a.1.1,a.1.2),a.2) ((b.1.1,b.1.2),b.2)).bind fun d=>Zju (decide (0<d)))
theorem Z5o {N q s:Nat} {t u:Option Addr} {col:Ze} {f:World} {d:R1} {r:Bool} (c:Zjt N d=some r) (l:Sl rU col f t q d.1.2) (n:Sl rU col f u s d.2):
    Calls prog 136 #[(.agg #[.bool d.1.1,.slice t d.1.2.length q,.slice u d.2.length s])] f (Vk f r):=by
 refine Xc 2 (m:=12) func136 rfl rfl rfl rfl rfl ?_;rw [Zjt.eq_1] at c;have e:=St.start col f;refine go ?_;refine Xg (col:=(Zh col)) 1 rfl fun _ _ i G p=>Zd9 rfl<|Zl<|Zx ?_;replace l:=l.k0;replace n:=n.k0;replace e:=e.grow G;refine Wp.cutK [1000000] (fun y z=>∃ A v,Zju v=some r∧St f (Zh col) A z∧[2].map y=[.bool v]) ?_ ?_
 ·intro y z C;obtain ⟨A,v,c,e,x⟩:=C;rw [Zju.eq_1] at c;refine .lL [2] x<|W1 ?_;cases c;exact ⟨rfl,rfl,e.below⟩
 refine Y8 (col:=i) [(0,0),(1,3),(2,1),(3,1),(4,0),(5,3),(6,3),(7,1),(8,1),(9,1)] (by kernel_rfl) (by kernel_rfl)<|xv rfl rfl (fun _ a=>Z5 isAgg42 sizeOf42 (p.gr (a.bl i))) ?_;refine xe rfl rfl ?_;intro _ b;have a:=b.bl i;obtain ⟨j,D,c⟩:=bZ c;replace e:=e.grow a;refine Zi (Zoi D (l.ks e) (n.ks e)) fun _ _ ⟨g,k⟩=>⟨_,g,?_⟩;replace k:=Rr i k;refine Zl<|Xo i b k<|xu rfl rfl (fun _=>Zqr _ _ rfl rfl) ?_;refine xu rfl rfl (fun _=>Z0q rfl) ?_;replace p:=(p.gr a).gr k;replace e:=e.grow k;refine Ye c (fun h c=>?_) fun h c=>?_
 ·refine Zf2 (b:=decide (j<0)) 6 rfl rfl rfl rfl rfl (by rw [h];rfl)<|Zf2 (b:=decide (j<0)) 6 rfl rfl rfl rfl rfl (by rw [h];rfl)<|Zf2 (b:=decide (j<0)) 6 rfl rfl rfl rfl rfl (by rw [h];rfl)<|Zf2 (b:=decide (j<0)) 6 rfl rfl rfl rfl rfl (by rw [h];rfl)<|xu (v:=(.bool true)) rfl rfl (fun _=>X0 (congrArg Value.bool h) rfl) ?_;refine xu rfl rfl (fun _=>Zqm rfl) ?_;refine Y4 ?_;intro _ a;replace a:=a.bl i;replace e:=e.grow a;exact ⟨rfl,_,_,c,e,rfl⟩
 refine Z4j (v:=(.agg #[.bool d.1.1,.slice t d.1.2.length q,.slice u d.2.length s])) (b:=decide (j<0)) 6 rfl rfl rfl rfl rfl (by rw [h];rfl) (fun _ a=>Yl isAgg42 sizeOf42 rfl rfl (p.atN.gr (a.bl i))) ?_;refine xe rfl rfl ?_;intro _ b;have a:=b.bl i;refine go ?_;obtain ⟨_,F,c⟩:=bZ c;refine lc rfl rfl (Zfu call94) (Zry (col:=i) 6 7 F:) fun _ _ ⟨m,_,_,_,_,g,B,H,I⟩=>⟨_,g,?_⟩;refine Zl<|Xo m b B<|xe rfl rfl ?_;intro _ b;replace e:=(e.grow a).grow B;have a:=b.bl m;refine go ?_;obtain ⟨w,E,c⟩:=bZ c;replace e:=e.grow a;refine Zi (Zva E (((l.ks e).froz 6).froz 7) (((n.ks e).froz 6).froz 7) (((H.gr a).toSlF (Zg.int .u32)).froz 7) (((I.gr a).froz 6).toSlF (Zg.int .u32))) fun _ _ ⟨g,o⟩=>⟨_,g,?_⟩;replace o:=Rr m o;refine Zl<|Xo m b o<|Z4i (v:=(.bool (decide (0<w)))) (b:=decide (j<0)) 6 rfl rfl rfl rfl rfl (by rw [h];rfl) (fun _=>Zqq w 0 rfl rfl) ?_;refine xu (v:=(.bool (decide (0<w)))) rfl rfl (fun _=>X7 (congrArg Value.bool h) rfl) ?_;refine xu rfl rfl (fun _=>Zqm rfl) ?_;refine Y4 ?_;intro _ a;exact ⟨rfl,_,_,c,(e.grow o).grow (a.bl m),rfl⟩
def Zh3 (N:Nat):List R1→Nat→Option Int
  | [],a=>some (-1)
  | b :: c,a=>(Zjt N ((b.1.1,b.1.2),b.2)).bind fun d=>if d=true then (some (a:Int)) else ((Zh3 N c) (a+1))
def Zp0 (N:Nat) (a:R4):Option Int:=
  Zh3 N a 0
theorem Z62 {N o:Nat} {j:Option Addr} {col:Ze} {e:World} {b:R4} {r:Int} (a:Zp0 N b=some r) (f:Sl rQ col e j o b):
    Calls prog 172 #[.slice j b.length o,(.func (.func 136) #[] #[])] e (Wn e r):=by
 refine Xc 4 (m:=19) func172 rfl rfl rfl rfl rfl ?_;rw [Zp0.eq_1] at a;have d:=St.start col e;refine go ?_;refine Zt [0,1,7,1000000] (fun v w x=>∃ p g i,v=i.length∧b.drop g=i∧Zh3 N i g=some r∧St e (Zh col) p x∧[8].map w=[.int .i64 g]) b.length ⟨_,0,_,rfl,rfl,a,d,rfl⟩ ?_;clear a;intro v w x z;obtain ⟨p,g,i,t,k,a,d,u⟩:=z;subst t;refine .lL [8] u ?_;replace f:=f.k0
 cases i with
 | nil=>
  have h:¬ ((g:Int)<(b.length:Int)):=by have:=aJ.1 k;omega
  have c:=decide_eq_false h;rw [Zh3.eq_1] at a;refine go ?_;refine Ym (congrArg Value.bool c)<|go ?_;cases a;exact ⟨rfl,rfl,d.below⟩
 | cons n M=>
  obtain ⟨m,O,P⟩:=Yt k;have h:(g:Int)<(b.length:Int):=by omega
  have c:=decide_eq_true h;rw [Zh3.eq_2] at a;refine go ?_;refine Yn (congrArg Value.bool c)<|go ?_;refine lM (.func (.func 136) #[] #[])<|go ?_;refine lI m ((f.ks d).addr m) ?_;obtain ⟨_,B,L⟩:=(f.ks d).atN m;obtain ⟨_,_,rfl,A,I⟩:=Wq B;obtain ⟨_,_,rfl,y,C⟩:=Wq A;obtain ⟨rfl,_⟩:=y;obtain ⟨⟨F,H,rfl,K⟩,_⟩:=C;obtain ⟨⟨E,G,rfl,J⟩,_⟩:=I;refine lV (.agg #[.bool n.1.1,.slice F n.1.2.length H,.slice E n.2.length G]) (Yl isAgg42 sizeOf42 rfl rfl L) ?_;obtain ⟨_,D,a⟩:=bZ a;refine lc rfl rfl (Z0i call136 rfl rfl) (Z5o D K J:) fun _ _ ⟨q,l⟩=>⟨_,q,?_⟩;replace l:=Rr p l;refine Zl ?_;replace d:=d.grow l;refine Zm a (fun s a=>go ?_) fun s a=>go ?_
  ·cases a;exact ⟨rfl,rfl,d.below⟩
  exact ⟨M.length,by simp,rfl,⟨_,_,_,rfl,O,a,d,(Yz (congrArg (Value.int .i64) (Yv (aI P (f.ks d).1.1))) rfl)⟩⟩
def Zpz (N:Nat) (a:R4):Option Bool:=
  (Zp0 N a).bind fun b=>some (decide (0≤b))
theorem Z60 {N d:Nat} {e:Option Addr} {col:Ze} {a:World} {b:R4} {r:Bool} (c:Zpz N b=some r) (h:Sl rQ col a e d b):
    Calls prog 134 #[.slice e b.length d,(.func (.func 136) #[] #[])] a (Vk a r):=by
 refine Xc 4 (m:=9) func134 rfl rfl rfl rfl rfl ?_;rw [Zpz.eq_1] at c;have i:=St.start col a;refine go ?_;refine lM (.func (.func 136) #[] #[]) ?_;obtain ⟨_,j,c⟩:=bZ c;refine Zi (Z62 j (h.k0.ks i)) fun _ _ ⟨g,f⟩=>⟨_,g,?_⟩;replace f:=Rr (Zh col) f;refine go ?_;cases c;exact ⟨rfl,rfl,(i.grow f).below⟩
def Zgv (b:R0):List Int→Int→Option Int
  | [],a=>some a
  | d :: e,a=>(Zk b.2.2.1 d).bind fun c=>(Zgv b e) (if 1099511627776<(i64.wrap (a * (c.length:Int))) then 1099511627776 else (i64.wrap (a * (c.length:Int))))
def Zjv (a:R0) (b:Int):Option Int:=
  (Zk a.2.2.2.1 b).bind fun c=>Zgv a c 1
theorem Z5p {s t u v:Nat} {w x y D:Option Addr} {col:Ze} {c:World} {a:R0} {G r:Int} (b:Zjv a G=some r) (S:Sl Za.str col c w s a.2.1) (l:Sl rV col c x t a.2.2.1) (o:Sl rP col c y u a.2.2.2.1) (T:Sl (Za.slice rQ) col c D v a.2.2.2.2):
    Calls prog 133 #[(.agg (Rq a w s x t y u D v)),.int .i64 G] c (Wn c r):=by
 refine Xc 4 (m:=29) func133 rfl rfl rfl rfl rfl ?_;rw [Zjv.eq_1] at b;have e:=St.start col c;refine go ?_;refine Xg (col:=(Zh col)) 1 rfl fun R _ _ O m=>go ?_;refine Z9 m<|Xk rfl ?_;obtain ⟨k,A,b⟩:=bZ b;replace o:=o.k0;replace e:=e.grow O;refine lI A ((o.ks e).addr A) ?_;obtain ⟨_,K,M⟩:=(o.ks e).atN A;obtain ⟨⟨P,Q,rfl,g⟩,_⟩:=K;refine lW M.one<|go ?_;refine Zt [12,13,2,1000000] (fun H I n=>∃ p j f i,H=i.length∧k.drop j=i∧Zgv a i f=some r∧St c (Zh col) p n∧Sl rI p n P Q k∧Zd 27 1 p n R (Rq a w s x t y u D v)∧[14,5].map I=[.int .i64 j,.int .i64 f]) k.length ⟨_,0,1,_,rfl,rfl,b,e,g,m,rfl⟩ ?_;clear b;intro H I n J;obtain ⟨p,j,f,i,E,q,b,e,g,m,F⟩:=J;subst E;refine .lL [14,5] F ?_;replace l:=l.k0
 cases i with
 | nil=>
  have h:¬ ((j:Int)<(k.length:Int)):=by have:=aJ.1 q;omega
  have d:=decide_eq_false h;rw [Zgv.eq_1] at b;refine go ?_;refine Ym (congrArg Value.bool d)<|go ?_;cases b;exact ⟨rfl,rfl,e.below⟩
 | cons X U=>
  obtain ⟨B,V,W⟩:=Yt q;have h:(j:Int)<(k.length:Int):=by omega
  have d:=decide_eq_true h;rw [Zgv.eq_2] at b;refine go ?_;refine Yn (congrArg Value.bool d)<|go ?_;refine lI B (g.addr B)<|lW (g.atInt B) ?_;refine go ?_;refine Z9 m<|Xk rfl ?_;obtain ⟨C,z,b⟩:=bZ b;refine lI z ((l.ks e).addr z) ?_;obtain ⟨_,L,N⟩:=(l.ks e).atN z;obtain ⟨⟨_,_,rfl,_⟩,_⟩:=L;refine lW N.one<|go ?_;refine lV (.int .i64 (if 1099511627776<(i64.wrap (f * (C.length:Int))) then 1099511627776 else (i64.wrap (f * (C.length:Int))))) (Zqt (i64.wrap (f * (C.length:Int))) 1099511627776 rfl rfl)<|go ?_;exact ⟨U.length,by simp,rfl,⟨_,_,_,_,rfl,V,b,e,g,m,(Yz (congrArg (Value.int .i64) (Yv (aI W g.1.1))) rfl)⟩⟩
def Zes (N:Nat) (b:R0):List R4→Nat→Option Int
  | [],a=>some 0
  | c :: d,a=>(Zk b.2.2.1 (a:Int)).bind fun e=>(Zjq N c).bind fun f=>(Zmd N f (e.length:Int)).bind fun g=>if (!g)=true then (some 46) else ((Zes N b d) (a+1))
def Zcw (N:Nat) (a:R0):List R4→Option Int
  | []=>Zes N a a.2.2.2.2 0
  | b :: c=>(Zjq N b).bind fun d=>(Zpz N d).bind fun e=>if e=true then (some 45) else (Zcw N a c)
def Zcv (N:Nat) (a:R0):List R4→Nat→Option Int
  | [],b=>Zcw N a a.2.2.2.2
  | e :: f,b=>(Zjv (a.1,a.2.1,a.2.2.1,a.2.2.2.1,a.2.2.2.2) (b:Int)).bind fun c=>(Zk a.2.2.1 (b:Int)).bind fun d=>if (decide (65536<(i64.wrap (c * (d.length:Int)))))=true then (some 4) else (if (!decide ((i64.wrap (c * (d.length:Int)))=(e.length:Int)))=true then (some 60) else ((Zcv N a f) (b+1)))
def Zer (N:Nat) (a:R0) (d:Bool):Option Int:=
  if d=true then (some 60) else (if (decide (1024<(a.2.1.length:Int)))=true then (some 4) else ((Zjr (a.1,a.2.1,a.2.2.1,a.2.2.2.1,a.2.2.2.2)).bind fun b=>if (!decide (b=0))=true then (some b) else ((Zck N a.2.2.2.1).bind fun c=>if (!decide (c=0))=true then (some c) else (Zcv N a a.2.2.2.2 0))))
def Vx (N:Nat) (a:R0):Option Int:=
  if (!decide ((a.2.2.1.length:Int)=(a.2.1.length:Int)))=true then (Zer N a true) else (if (!decide ((a.2.2.2.1.length:Int)=(a.2.1.length:Int)))=true then (Zer N a true) else (Zer N a (!decide ((a.2.2.2.2.length:Int)=(a.2.1.length:Int)))))
theorem Zrx {N o p s t:Nat} {u w x y:Option Addr} {col:Ze} {k:World} {b:R0} {r:Int} (a:Vx N b=some r) (Z:Sl Za.str col k u o b.2.1) (j:Sl rV col k w p b.2.2.1) (S:Sl rP col k x s b.2.2.2.1) (d:Sl (Za.slice rQ) col k y t b.2.2.2.2):
    Calls prog 89 #[(.agg (Rq b u o w p x s y t))] k (Wn k r):=by
 refine Xc 2 (m:=103) func89 rfl rfl rfl rfl rfl ?_;rw [Vx.eq_1] at a;have c:=St.start col k;refine go ?_;refine Xg (col:=(Zh col)) 1 rfl fun Y _ _ v g=>go ?_;refine Z9 g<|lV _ (Q8 underlying22 rfl)<|Y6 rfl<|Zl<|Zx<|Zx ?_;replace Z:=Z.k0;replace j:=j.k0;replace S:=S.k0;replace d:=d.k0;replace c:=c.grow v;refine Wp.cutK [1,3,1000000] (fun z e=>∃ P f,Zer N b f=some r∧St k (Zh col) P e∧Zd 27 1 P e Y (Rq b u o w p x s y t)∧[34].map z=[.bool f]) ?_ ?_
 ·intro z e h;obtain ⟨P,f,a,c,g,q⟩:=h;rw [Zer.eq_1] at a;refine .lL [34] q ?_;refine Zm a (fun h a=>go ?_) fun h a=>go ?_
  ·cases a;exact ⟨rfl,rfl,c.below⟩
  refine Zm a (fun h a=>go ?_) fun h a=>go ?_
  ·cases a;exact ⟨rfl,rfl,c.below⟩
  refine lV _ (Z5 isAgg27 sizeOf27 g) ?_;obtain ⟨_,m,a⟩:=bZ a;refine Zi (Z5n m (Z.ks c) (j.ks c) (S.ks c) (d.ks c)) fun _ _ ⟨m,T⟩=>⟨_,m,?_⟩;replace T:=Rr P T;refine go ?_;replace g:=g.gr T;replace c:=c.grow T;refine Zm a (fun h a=>go ?_) fun h a=>go ?_
  ·cases a;exact ⟨rfl,rfl,c.below⟩
  refine Z9 g ?_;obtain ⟨_,n,a⟩:=bZ a;refine Zi (Z4v n (S.ks c)) fun _ _ ⟨m,U⟩=>⟨_,m,?_⟩;replace U:=Rr P U;refine go ?_;replace g:=g.gr U;replace c:=c.grow U;refine Zm a (fun h a=>go ?_) fun h a=>go ?_
  ·cases a;exact ⟨rfl,rfl,c.below⟩
  refine Z9 g ?_;refine go ?_;refine Zt [1,49,50,1000000] (fun C z l=>∃ v F L,C=L.length∧b.2.2.2.2.drop F=L∧Zcv N b L F=some r∧St k (Zh col) v l∧Zd 27 1 v l Y (Rq b u o w p x s y t)∧[51].map z=[.int .i64 F]) b.2.2.2.2.length ⟨_,0,_,rfl,rfl,a,c,g,rfl⟩ ?_;clear a;intro C z l Q;obtain ⟨v,F,L,B,n,a,c,g,q⟩:=Q;subst B;refine .lL [51] q ?_
  cases L with
  | nil=>
   have l:¬ ((F:Int)<(b.2.2.2.2.length:Int)):=by have:=aJ.1 n;omega
   have f:=decide_eq_false l;rw [Zcv.eq_1] at a;refine go ?_;refine Ym (congrArg Value.bool f)<|go ?_;refine Z9 g ?_;refine go ?_;refine Zt [1,74,75,1000000] (fun C z i=>∃ D R K,C=K.length∧b.2.2.2.2.drop R=K∧Zcw N b K=some r∧St k (Zh col) D i∧Zd 27 1 D i Y (Rq b u o w p x s y t)∧[76].map z=[.int .i64 R]) b.2.2.2.2.length ⟨_,0,_,rfl,rfl,a,c,g,rfl⟩ ?_;clear a;intro C z i Q;obtain ⟨D,R,K,B,n,a,c,g,q⟩:=Q;subst B;refine .lL [76] q ?_
   cases K with
   | nil=>
    have l:¬ ((R:Int)<(b.2.2.2.2.length:Int)):=by have:=aJ.1 n;omega
    have f:=decide_eq_false l;rw [Zcw.eq_1] at a;refine go ?_;refine Ym (congrArg Value.bool f)<|go ?_;refine Z9 g ?_;refine go ?_;refine Zt [1,85,86,1000000] (fun C z A=>∃ D E M,C=M.length∧b.2.2.2.2.drop E=M∧Zes N b M E=some r∧St k (Zh col) D A∧Zd 27 1 D A Y (Rq b u o w p x s y t)∧[87].map z=[.int .i64 E]) b.2.2.2.2.length ⟨_,0,_,rfl,rfl,a,c,g,rfl⟩ ?_;clear a;intro C z A Q;obtain ⟨D,E,M,B,n,a,c,g,q⟩:=Q;subst B;refine .lL [87] q ?_
    cases M with
    | nil=>
     have l:¬ ((E:Int)<(b.2.2.2.2.length:Int)):=by have:=aJ.1 n;omega
     have f:=decide_eq_false l;rw [Zes.eq_1] at a;refine go ?_;refine Ym (congrArg Value.bool f)<|go ?_;cases a;exact ⟨rfl,rfl,c.below⟩
    | cons e z=>
     obtain ⟨A,C,I⟩:=Yt n;have l:(E:Int)<(b.2.2.2.2.length:Int):=by omega
     have f:=decide_eq_true l;rw [Zes.eq_2] at a;refine go ?_;refine Yn (congrArg Value.bool f)<|go ?_;refine lI A ((d.ks c).addr A) ?_;obtain ⟨_,G,K⟩:=(d.ks c).atN A;obtain ⟨⟨_,_,rfl,q⟩,_⟩:=G;refine lW K.one<|go ?_;refine Y8 (col:=D) [(0,1),(2,1),(3,0),(4,1),(5,1),(6,0),(7,1),(1,3),(8,3),(9,1)] (by kernel_rfl) (by kernel_rfl)<|xu rfl rfl (fun _=>Vd rfl) ?_;refine xF ⟨_,_,rfl⟩ ?_;refine xW (fun _ e=>((g.atN).nth (q:=2) rfl).gr (e.bl D)) ?_;refine xu rfl rfl (fun _=>Yd rfl) ?_;obtain ⟨_,W,a⟩:=bZ a;refine xu rfl rfl (fun _=>X8 underlying23 sizeOf22 rfl rfl (Z0 W).1 (Z0 W).2.1 ((j.ks c).addr W)) ?_;obtain ⟨_,H,P⟩:=(j.ks c).atN W;obtain ⟨⟨_,_,rfl,_⟩,_⟩:=H;refine xW (fun _ e=>P.one.gr (e.bl D)) ?_;refine xu rfl rfl (fun _=>Q8 underlying22 rfl) ?_;refine xe rfl rfl ?_;intro _ i;have e:=i.bl D;obtain ⟨_,B,a⟩:=bZ a;refine Zi (Zvf 2 B (q.gr e)) fun _ _ ⟨O,_,_,m,k,B⟩=>⟨_,m,?_⟩;refine Zl<|Xo O i k<|xe rfl rfl ?_;intro _ i;replace g:=(g.gr e).gr k;replace c:=(c.grow e).grow k;have e:=i.bl O;obtain ⟨_,q,a⟩:=bZ a;refine Zi (Z5r q ((B.gr e).toSlF (Zg.pair (Zg.pair Zg.bool Zg.slice) Zg.slice))) fun _ _ ⟨m,J⟩=>⟨_,m,?_⟩;replace J:=Rr O J;refine Zl<|Xo O i J<|xu rfl rfl (fun _=>Zts _ rfl) ?_;refine Y4 ?_;replace g:=(g.gr e).gr J;replace c:=(c.grow e).grow J;intro _ e;replace e:=e.bl O;replace g:=g.gr e;replace c:=c.grow e;refine Zm a (fun h a=>go ?_) fun h a=>go ?_
     ·cases a;exact ⟨rfl,rfl,c.below⟩
     exact ⟨z.length,by simp,rfl,⟨_,_,_,rfl,C,a,c,g,(Yz (congrArg (Value.int .i64) (Yv (aI I (d.ks c).1.1))) rfl)⟩⟩
   | cons D W=>
    obtain ⟨A,Y,i⟩:=Yt n;have l:(R:Int)<(b.2.2.2.2.length:Int):=by omega
    have f:=decide_eq_true l;rw [Zcw.eq_2] at a;refine go ?_;refine Yn (congrArg Value.bool f)<|go ?_;refine lI A ((d.ks c).addr A) ?_;obtain ⟨_,I,M⟩:=(d.ks c).atN A;obtain ⟨⟨_,_,rfl,R⟩,_⟩:=I;refine lW M.one<|go ?_;obtain ⟨_,C,a⟩:=bZ a;refine Zi (Zvf 3 C R) fun _ _ ⟨U,_,_,m,X,O⟩=>⟨_,m,?_⟩;obtain ⟨_,z,a⟩:=bZ a;refine Zi (Z60 z (O.toSlF (Zg.pair (Zg.pair Zg.bool Zg.slice) Zg.slice))) fun _ _ ⟨m,V⟩=>⟨_,m,?_⟩;replace V:=Rr U V;refine Zl ?_;replace g:=(g.gr X).gr V;replace c:=(c.grow X).grow V;refine Zm a (fun h a=>go ?_) fun h a=>go ?_
    ·cases a;exact ⟨rfl,rfl,c.below⟩
    exact ⟨W.length,by simp,rfl,⟨_,_,_,rfl,Y,a,c,g,(Yz (congrArg (Value.int .i64) (Yv (aI i (d.ks c).1.1))) rfl)⟩⟩
  | cons m V=>
   obtain ⟨A,X,k⟩:=Yt n;have l:(F:Int)<(b.2.2.2.2.length:Int):=by omega
   have f:=decide_eq_true l;rw [Zcv.eq_2] at a;refine go ?_;refine Yn (congrArg Value.bool f)<|go ?_;refine lI A ((d.ks c).addr A) ?_;obtain ⟨_,F,L⟩:=(d.ks c).atN A;obtain ⟨⟨_,_,rfl,_⟩,_⟩:=F;refine lW L.one<|go ?_;refine Wg (col:=v) (by kernel_rfl) (by kernel_rfl)<|qv rfl (fun _ e=>Z5 isAgg27 sizeOf27 (g.gr (e.bl v))) ?_;refine go ?_;obtain ⟨E,T,a⟩:=bZ a;refine qc (v:=(.int .i64 E)) rfl (fun _ e=>⟨_,_,Tj call133 rfl rfl,(Z5p T ((Z.ks c).gr (e.bl v)) ((j.ks c).gr (e.bl v)) ((S.ks c).gr (e.bl v)) ((d.ks c).gr (e.bl v)):).mono fun _ _ S=>⟨S.1,e.trans (.of_below S.2)⟩⟩) ?_;refine qF ⟨_,_,rfl⟩ ?_;refine qW (fun _ e=>((g.atN).nth (q:=2) rfl).gr (e.bl v)) ?_;refine go ?_;obtain ⟨_,G,a⟩:=bZ a;refine qI G ((j.ks c).addr G) ?_;obtain ⟨_,J,Q⟩:=(j.ks c).atN G;obtain ⟨⟨_,_,rfl,_⟩,_⟩:=J;refine qW (fun _ e=>Q.one.gr (e.bl v)) ?_;refine go ?_;refine Y1 ?_;intro _ e;replace e:=e.bl v;refine go ?_;replace g:=g.gr e;replace c:=c.grow e;refine Zm a (fun h a=>go ?_) fun h a=>go ?_
   ·cases a;exact ⟨rfl,rfl,c.below⟩
   refine Zm a (fun h a=>go ?_) fun h a=>go ?_
   ·cases a;exact ⟨rfl,rfl,c.below⟩
   exact ⟨V.length,by simp,rfl,⟨_,_,_,rfl,X,a,c,g,(Yz (congrArg (Value.int .i64) (Yv (aI k (d.ks c).1.1))) rfl)⟩⟩
 refine W0<|Z9 g ?_;refine go ?_;refine Ye a (fun I a=>go ?_) fun I a=>go ?_
 ·refine lV (.bool true) (X0 (congrArg Value.bool I) rfl)<|Vb rfl<|lP 28 rfl rfl<|lP 28 rfl rfl<|lP 28 rfl rfl<|lP 28 rfl rfl<|lP 28 rfl rfl<|lV (.bool true) (X0 rfl rfl)<|Zl ?_;exact ⟨rfl,_,_,a,c,g,rfl⟩
 refine Xy ⟨_,_,rfl⟩ ?_;refine go ?_;refine lW ((g.atN).nth (q:=3) rfl)<|go ?_;refine lV (.bool (!decide ((b.2.2.2.1.length:Int)=(b.2.1.length:Int)))) (X7 (congrArg Value.bool I) rfl)<|Vb rfl ?_;refine Ye a (fun H a=>go ?_) fun H a=>go ?_
 ·refine lV (.bool true) (X0 (congrArg Value.bool H) rfl)<|Zl ?_;exact ⟨rfl,_,_,a,c,g,rfl⟩
 refine Xy ⟨_,_,rfl⟩ ?_;refine go ?_;refine lW ((g.atN).nth (q:=4) rfl)<|go ?_;refine lV (.bool (!decide ((b.2.2.2.2.length:Int)=(b.2.1.length:Int)))) (X7 (congrArg Value.bool H) rfl)<|Zl ?_;exact ⟨rfl,_,_,a,c,g,rfl⟩
def Zhp (N:Nat) (b:List ByteArray) (c:ByteArray):Nat→Int→Option Int
  | 0,_=>none
  | d+1,a=>if (decide (a<(b.length:Int)))=true then ((Zk b a).bind fun e=>if (decide (e=c))=true then (some a) else ((Zhp N b c d) (i64.wrap (a+1)))) else (some (-1))
def Zm3 (N:Nat) (a:List ByteArray) (b:ByteArray):Option Int:=
  Zhp N a b N 0
theorem Zvx {N j:Nat} {i:Option Addr} {col:Ze} {b:World} {c:R3} {d:ByteArray} {r:Int} (a:Zm3 N c d=some r) (e:Sl Za.str col b i j c):
    Calls prog 96 #[.slice i c.length j,.string d] b (Wn b r):=by
 refine Xc 4 (m:=19) func96 rfl rfl rfl rfl rfl ?_;rw [Zm3.eq_1] at a;have f:=St.start col b;refine go ?_;refine Zt [0,1,1000000] (fun o p q=>∃ s l g,g=o∧Zhp N c d g l=some r∧St b (Zh col) s q∧[5].map p=[.int .i64 l]) N ⟨_,0,_,rfl,a,f,rfl⟩ ?_;clear a;intro o p q t;obtain ⟨s,l,g,m,a,f,n⟩:=t;subst m;refine .lL [5] n ?_;replace e:=e.k0
 cases g with
 | zero=>rw [Zhp.eq_1] at a;cases a
 | succ g=>
  rw [Zhp.eq_2] at a;refine go ?_;refine Zm a (fun h a=>go ?_) fun h a=>go ?_
  ·obtain ⟨_,k,a⟩:=bZ a;refine lI k ((e.ks f).addr k)<|lW ((e.ks f).atStr k) ?_;refine go ?_;refine Zm a (fun h a=>go ?_) fun h a=>go ?_
   ·cases a;exact ⟨rfl,rfl,f.below⟩
   exact ⟨g,by omega,rfl,⟨_,_,_,rfl,a,f,rfl⟩⟩
  cases a;exact ⟨rfl,rfl,f.below⟩
def Zhu (N:Nat) (b:R0):Nat→R2→Int→Option R2
  | 0,_,_=>none
  | e+1,a,c=>if (decide (c<(b.2.2.1.length:Int)))=true then ((Zk b.2.2.1 c).bind fun d=>Z2 ((a.length+[(d.length:Int)].length) * 8≤140737488355328∧a.length+[(d.length:Int)].length≤maxLen) ((Zhu N b e) (a++[(d.length:Int)]) (i64.wrap (c+1)))) else (some a)
def Zdl (N:Nat) (a:R0):Option R2:=
  Zhu N a N ([]:List Int) 0
theorem Zvz {N p q s t:Nat} {u v w x:Option Addr} {col:Ze} {c:World} {a:R0} {r:R2} (l:Nat) (b:Zdl N a=some r) (P:Sl Za.str col c u p a.2.1) (i:Sl rV col c v q a.2.2.1) (Q:Sl rP col c w s a.2.2.2.1) (R:Sl (Za.slice rQ) col c x t a.2.2.2.2):
    Calls prog 49 #[(.agg (Rq a u p v q w s x t))] c (Vr .i64 3 l col c r):=by
 refine Xc 2 (m:=22) func49 rfl rfl rfl rfl rfl ?_;rw [Zdl.eq_1] at b;have d:=St.start col c;refine go ?_;refine Xg (col:=(Zh col)) 1 rfl fun O _ _ G g=>go ?_;replace d:=d.grow G;refine Zt [1,1000000] (fun E F h=>∃ f o y j z e,e=E∧Zhu N a e j z=some r∧St c (Zh col) f h∧Zd 27 1 f h O (Rq a u p v q w s x t)∧Zb rI 3 2 f h o y j∧[3,4].map F=[.slice o j.length y,.int .i64 z]) N ⟨_,none,0,_,0,_,rfl,b,d,g,Zb.nil,rfl⟩ ?_;clear b;intro E F h H;obtain ⟨f,o,y,j,z,e,B,b,d,g,k,C⟩:=H;subst B;refine .lL [3,4] C ?_;replace i:=i.k0
 cases e with
 | zero=>rw [Zhu.eq_1] at b;cases b
 | succ e=>
  rw [Zhu.eq_2] at b;refine go ?_;refine Z9 g ?_;refine go ?_;refine Zm b (fun A b=>go ?_) fun A b=>go ?_
  ·refine Z9 g<|Xk rfl ?_;obtain ⟨S,m,b⟩:=bZ b;refine lI m ((i.ks d).addr m) ?_;obtain ⟨_,I,K⟩:=(i.ks d).atN m;obtain ⟨⟨_,_,rfl,_⟩,_⟩:=I;refine lW K.one<|go ?_;refine V5 (col:=f) [(S.length:Int)] 3 ?_;intro _ _ _ n J;obtain ⟨L,b⟩:=Z4 b;replace k:=k.gr n;refine Wy k (J.srcN (NB.int (k:=.i64))) L fun _ _ _ _ D M=>go ?_;replace d:=(d.grow n).kpp D;exact ⟨e,by omega,rfl,⟨_,_,_,_,_,_,rfl,b,d,(g.gr n).kpp D,M,rfl⟩⟩
  cases b;exact ⟨rfl,_,_,_,rfl,d.fin (cm [(2,l)]),d.fo k⟩
def Zkt (a:Int) (kk_L2:(Int→Int→Option Int)) (b:Int):Option Int:=
  kk_L2 b (i64.wrap (a+1))
def Zdj (N:Nat) (a c:List Int):Nat→Int→Int→Option Int
  | 0,_,_=>none
  | f+1,d,b=>if (decide (b<(a.length:Int)))=true then ((Zk a b).bind fun g=>(Zk c g).bind fun e=>Z2 (e≠0) (if (decide ((i64.wrap (aR 1099511627776 e))<d))=true then (Zkt b (Zdj N a c f) 1099511627776) else (Zkt b (Zdj N a c f) (i64.wrap (d * e))))) else (some d)
def Zho (N:Nat) (a b:List Int):Nat→Int→Option Int
  | 0,_=>none
  | d+1,c=>if (decide (c<(a.length:Int)))=true then ((Zk a c).bind fun e=>(Zk b e).bind fun f=>if (decide (f<1))=true then (some 0) else ((Zho N a b d) (i64.wrap (c+1)))) else (Zdj N a b N 1 0)
def Zm2 (N:Nat) (a b:List Int):Option Int:=
  Zho N a b N 0
theorem Z6g {N u v:Nat} {q s:Option Addr} {col:Ze} {e:World} {c d:R2} {r:Int} (a:Zm2 N c d=some r) (f:Sl rI col e q u c) (g:Sl rI col e s v d):
    Calls prog 98 #[.slice q c.length u,.slice s d.length v] e (Wn e r):=by
 refine Xc 4 (m:=48) func98 rfl rfl rfl rfl rfl ?_;rw [Zm2.eq_1] at a;have b:=St.start col e;refine go ?_;refine Zt [0,1,1000000] (fun p j E=>∃ F z n,n=p∧Zho N c d n z=some r∧St e (Zh col) F E∧[5].map j=[.int .i64 z]) N ⟨_,0,_,rfl,a,b,rfl⟩ ?_;clear a;intro p j E B;obtain ⟨F,z,n,o,a,b,i⟩:=B;subst o;refine .lL [5] i ?_;replace f:=f.k0;replace g:=g.k0
 cases n with
 | zero=>rw [Zho.eq_1] at a;cases a
 | succ n=>
  rw [Zho.eq_2] at a;refine go ?_;refine Zm a (fun h a=>go ?_) fun h a=>go ?_
  ·obtain ⟨_,w,a⟩:=bZ a;refine lI w ((f.ks b).addr w)<|lW ((f.ks b).atInt w) ?_;obtain ⟨_,x,a⟩:=bZ a;refine lI x ((g.ks b).addr x)<|lW ((g.ks b).atInt x) ?_;refine go ?_;refine Zm a (fun h a=>go ?_) fun h a=>go ?_
   ·cases a;exact ⟨rfl,rfl,b.below⟩
   exact ⟨n,by omega,rfl,⟨_,_,_,rfl,a,b,rfl⟩⟩
  refine Zt [0,1,1000000] (fun p j G=>∃ H A t k,k=p∧Zdj N c d k A t=some r∧St e (Zh col) H G∧[6,7].map j=[.int .i64 A,.int .i64 t]) N ⟨_,1,0,_,rfl,a,b,rfl⟩ ?_;clear a;intro p j G B;obtain ⟨H,A,t,k,o,a,b,i⟩:=B;subst o;refine .lL [6,7] i ?_
  cases k with
  | zero=>rw [Zdj.eq_1] at a;cases a
  | succ k=>
   rw [Zdj.eq_2] at a;refine go ?_;refine Zm a (fun h a=>?_) fun h a=>go ?_
   ·refine Xz<|Zx ?_;refine Wp.cutK [0,1,7,1000000] (fun j C=>∃ D y,Zkt t (Zdj N c d k) y=some r∧St e (Zh col) D C∧[6].map j=[.int .i64 y]) ?_ ?_
    ·intro j C J;obtain ⟨D,y,a,b,i⟩:=J;rw [Zkt.eq_1] at a;refine .lL [6] i<|go ?_;exact ⟨k,by omega,rfl,⟨_,_,_,_,rfl,a,b,rfl⟩⟩
    refine go ?_;obtain ⟨_,m,a⟩:=bZ a;refine lI m ((f.ks b).addr m)<|lW ((f.ks b).atInt m) ?_;obtain ⟨I,l,a⟩:=bZ a;refine lI l ((g.ks b).addr l)<|lW ((g.ks b).atInt l) ?_;obtain ⟨K,a⟩:=Z4 a;refine lV (.int .i64 (i64.wrap (aR 1099511627776 I))) (Vy 1099511627776 I rfl rfl K)<|go ?_;refine Zm a (fun h a=>go ?_) fun h a=>go ?_
    ·exact ⟨rfl,_,1099511627776,a,b,rfl⟩
    refine lI m ((f.ks b).addr m)<|lW ((f.ks b).atInt m)<|lI l ((g.ks b).addr l)<|lW ((g.ks b).atInt l) ?_;refine go ?_;exact ⟨rfl,_,_,a,b,rfl⟩
   cases a;exact ⟨rfl,rfl,b.below⟩
def Zm5 (a:Bool):Option Bool:=
  some a
def Zm4 (b a:Int):Option Bool:=
  if (decide (0<a))=true then (Z2 (a≠0) (Zm5 (decide ((i64.wrap (aR 65536 a))<b)))) else (Zm5 false)
theorem Z6i {col:Ze} {d:World} {c a:Int} {r:Bool} (b:Zm4 c a=some r):
    Calls prog 99 #[.int .i64 c,.int .i64 a] d (Vk d r):=by
 refine Xc 4 (m:=13) func99 rfl rfl rfl rfl rfl ?_;rw [Zm4.eq_1] at b;have e:=St.start col d;refine Zx<|W0<|Zd9 rfl<|Zl<|Zx ?_;refine Wp.cutK [1000000] (fun i j=>∃ k f,Zm5 f=some r∧St d (Zh col) k j∧[4].map i=[.bool f]) ?_ ?_
 ·intro i j l;obtain ⟨k,f,b,e,h⟩:=l;rw [Zm5.eq_1] at b;refine .lL [4] h<|W1 ?_;cases b;exact ⟨rfl,rfl,e.below⟩
 refine go ?_;refine Ye b (fun g b=>go ?_) fun g b=>go ?_
 ·obtain ⟨m,b⟩:=Z4 b;refine lV (.int .i64 (i64.wrap (aR 65536 a))) (Vy 65536 a rfl rfl m)<|go ?_;refine lV (.bool (decide ((i64.wrap (aR 65536 a))<c))) (X0 (congrArg Value.bool g) rfl)<|go ?_;exact ⟨rfl,_,_,b,e,rfl⟩
 refine lV (.bool false) (X7 (congrArg Value.bool g) rfl)<|go ?_;exact ⟨rfl,_,_,b,e,rfl⟩
def Zhq (N:Nat):Option R1:=
  (Zc9 N 1 1).bind fun a=>some ((a.1.1,a.1.2),a.2)
theorem Zsa {N:Nat} {col:Ze} {b:World} {r:R1} (d c2:Nat) (a:Zhq N=some r):
    Calls prog 104 #[] b (Sm 45 d c2 col b r):=by
 refine Yx (m:=2) func104 rfl rfl rfl ?_;rw [Zhq.eq_1] at a;have c:=St.start col b;refine go ?_;refine Xr (col:=(Zh col)) #[.bool false,(nI),(nI)] 1 zeroValue42 fun _ _ j n l=>go ?_;obtain ⟨_,h,a⟩:=bZ a;refine Zi (Zr6 (col:=j) 2 3 h) fun _ _ ⟨_,_,_,_,_,f,g,m,o⟩=>⟨_,f,?_⟩;refine Z6 (l.gr g) fun _ e i k=>go ?_;cases a;replace c:=((c.grow n).grow g).kp e i;exact ⟨rfl,_,ra k.atN,_,_,_,_,_,rfl,c.fin (cm [(2,d),(3,c2)]),c.fo (m.kp e),c.fo (o.kp e)⟩
def Zkv (a:Bool):Option Bool:=
  some a
def Zku (N:Nat) (a:R1):Option Bool:=
  (Zat N ((a.1.1,a.1.2),a.2)).bind fun c=>if (decide (c<0))=true then (Zkv true) else ((Zhq N).bind fun b=>(Zc7 N ((a.1.1,a.1.2),a.2) ((b.1.1,b.1.2),b.2)).bind fun d=>Zkv (decide (0<d)))
theorem Z6h {N q s:Nat} {t u:Option Addr} {col:Ze} {f:World} {d:R1} {r:Bool} (c:Zku N d=some r) (l:Sl rU col f t q d.1.2) (n:Sl rU col f u s d.2):
    Calls prog 100 #[(.agg #[.bool d.1.1,.slice t d.1.2.length q,.slice u d.2.length s])] f (Vk f r):=by
 refine Xc 2 (m:=12) func100 rfl rfl rfl rfl rfl ?_;rw [Zku.eq_1] at c;have e:=St.start col f;refine go ?_;refine Xg (col:=(Zh col)) 1 rfl fun _ _ i G p=>Zd9 rfl<|Zl<|Zx ?_;replace l:=l.k0;replace n:=n.k0;replace e:=e.grow G;refine Wp.cutK [1000000] (fun y z=>∃ A v,Zkv v=some r∧St f (Zh col) A z∧[2].map y=[.bool v]) ?_ ?_
 ·intro y z C;obtain ⟨A,v,c,e,x⟩:=C;rw [Zkv.eq_1] at c;refine .lL [2] x<|W1 ?_;cases c;exact ⟨rfl,rfl,e.below⟩
 refine Y8 (col:=i) [(0,0),(1,3),(2,1),(3,1),(4,0),(5,3),(6,3),(7,1),(8,1),(9,1)] (by kernel_rfl) (by kernel_rfl)<|xv rfl rfl (fun _ a=>Z5 isAgg42 sizeOf42 (p.gr (a.bl i))) ?_;refine xe rfl rfl ?_;intro _ b;have a:=b.bl i;obtain ⟨j,D,c⟩:=bZ c;replace e:=e.grow a;refine Zi (Zoo D (l.ks e) (n.ks e)) fun _ _ ⟨g,k⟩=>⟨_,g,?_⟩;replace k:=Rr i k;refine Zl<|Xo i b k<|xu rfl rfl (fun _=>Zqr _ _ rfl rfl) ?_;refine xu rfl rfl (fun _=>Z0q rfl) ?_;replace p:=(p.gr a).gr k;replace e:=e.grow k;refine Ye c (fun h c=>?_) fun h c=>?_
 ·refine Zf2 (b:=decide (j<0)) 6 rfl rfl rfl rfl rfl (by rw [h];rfl)<|Zf2 (b:=decide (j<0)) 6 rfl rfl rfl rfl rfl (by rw [h];rfl)<|Zf2 (b:=decide (j<0)) 6 rfl rfl rfl rfl rfl (by rw [h];rfl)<|Zf2 (b:=decide (j<0)) 6 rfl rfl rfl rfl rfl (by rw [h];rfl)<|xu (v:=(.bool true)) rfl rfl (fun _=>X0 (congrArg Value.bool h) rfl) ?_;refine xu rfl rfl (fun _=>Zqm rfl) ?_;refine Y4 ?_;intro _ a;replace a:=a.bl i;replace e:=e.grow a;exact ⟨rfl,_,_,c,e,rfl⟩
 refine Z4j (v:=(.agg #[.bool d.1.1,.slice t d.1.2.length q,.slice u d.2.length s])) (b:=decide (j<0)) 6 rfl rfl rfl rfl rfl (by rw [h];rfl) (fun _ a=>Yl isAgg42 sizeOf42 rfl rfl (p.atN.gr (a.bl i))) ?_;refine xe rfl rfl ?_;intro _ b;have a:=b.bl i;refine go ?_;obtain ⟨_,F,c⟩:=bZ c;refine lc rfl rfl (Zfu call104) (Zsa (col:=i) 6 7 F:) fun _ _ ⟨m,_,_,_,_,g,B,H,I⟩=>⟨_,g,?_⟩;refine Zl<|Xo m b B<|xe rfl rfl ?_;intro _ b;replace e:=(e.grow a).grow B;have a:=b.bl m;refine go ?_;obtain ⟨w,E,c⟩:=bZ c;replace e:=e.grow a;refine Zi (Zr5 E (((l.ks e).froz 6).froz 7) (((n.ks e).froz 6).froz 7) (((H.gr a).toSlF (Zg.int .u32)).froz 7) (((I.gr a).froz 6).toSlF (Zg.int .u32))) fun _ _ ⟨g,o⟩=>⟨_,g,?_⟩;replace o:=Rr m o;refine Zl<|Xo m b o<|Z4i (v:=(.bool (decide (0<w)))) (b:=decide (j<0)) 6 rfl rfl rfl rfl rfl (by rw [h];rfl) (fun _=>Zqq w 0 rfl rfl) ?_;refine xu (v:=(.bool (decide (0<w)))) rfl rfl (fun _=>X7 (congrArg Value.bool h) rfl) ?_;refine xu rfl rfl (fun _=>Zqm rfl) ?_;refine Y4 ?_;intro _ a;exact ⟨rfl,_,_,c,(e.grow o).grow (a.bl m),rfl⟩
def Zff (N:Nat) (c:R4) (b:Int):Nat→Int→Option Bool
  | 0,_=>none
  | f+1,a=>if (decide (a<(c.length:Int)))=true then (Z2 ((0:Int)≤a∧a≤(i64.wrap (a+b))∧(i64.wrap (a+b))≤(c.length:Int)) ((Zau N ((c.take (aA (i64.wrap (a+b)))).drop (aA a))).bind fun d=>(Zhq N).bind fun e=>(Zc7 N ((d.1.1,d.1.2),d.2) ((e.1.1,e.1.2),e.2)).bind fun g=>if (!decide (g=0))=true then (some false) else ((Zff N c b f) (i64.wrap (a+b))))) else (some true)
def Zpr (N:Nat) (a:R4) (b:Int):Option Bool:=
  Zff N a b N 0
theorem Z6l {N g:Nat} {d:Option Addr} {col:Ze} {e:World} {i:R4} {c:Int} {r:Bool} (a:Zpr N i c=some r) (j:Sl rQ col e d g i):
    Calls prog 101 #[.slice d i.length g,.int .i64 c] e (Vk e r):=by
 refine Xc 4 (m:=23) func101 rfl rfl rfl rfl rfl ?_;rw [Zpr.eq_1] at a;have h:=St.start col e;refine go ?_;refine Zt [0,1,1000000] (fun n t u=>∃ v b k,k=n∧Zff N i c k b=some r∧St e (Zh col) v u∧[5].map t=[.int .i64 b]) N ⟨_,0,_,rfl,a,h,rfl⟩ ?_;clear a;intro n t u y;obtain ⟨v,b,k,q,a,h,s⟩:=y;subst q;refine .lL [5] s ?_;replace j:=j.k0
 cases k with
 | zero=>rw [Zff.eq_1] at a;cases a
 | succ k=>
  rw [Zff.eq_2] at a;refine go ?_;refine Zm a (fun l a=>go ?_) fun l a=>go ?_
  ·obtain ⟨m,a⟩:=Z4 a;have I:=((j.ks h).take (aA (i64.wrap (b+c)))).drop (sz:=3) rfl (aA b);refine lv (v:=.slice (if g=(aA b) then d else d.map (·.add ((aA b) * 3))) ((aA (i64.wrap (b+c))) - (aA b)) (g - (aA b))) rfl rfl (Zqu underlying29 sizeOf42 rfl rfl rfl m.1 m.2.1 (by have:=(j.ks h).1.2;have:=m.2.2;omega)) ?_;generalize (if g=(aA b) then d else d.map (·.add ((aA b) * 3)))=w at *;refine .ld (d:=18) (v:=(.slice w (((i.take (aA (i64.wrap (b+c)))).drop (aA b)).length) (g - (aA b)))) (congrArg (fun n=>Value.slice w n (g - (aA b))) (show (aA (i64.wrap (b+c))) - (aA b)=((i.take (aA (i64.wrap (b+c)))).drop (aA b)).length by rw [bH,nK];have:=m.2;omega)) ?_;obtain ⟨_,z,a⟩:=bZ a;refine Zi (Zr7 1 2 z I) fun _ _ ⟨B,_,_,_,_,f,H,D,F⟩=>⟨_,f,?_⟩;obtain ⟨_,A,a⟩:=bZ a;refine lc rfl rfl (Zfu call104) (Zsa (col:=B) 3 4 A:) fun _ _ ⟨G,_,_,_,_,f,p,C,E⟩=>⟨_,f,?_⟩;obtain ⟨_,x,a⟩:=bZ a;refine Zi (Zr5 x (((((D.gr p).toSlF (Zg.int .u32)).froz 2).froz 3).froz 4) (((((F.gr p).froz 1).toSlF (Zg.int .u32)).froz 3).froz 4) ((((C.froz 1).froz 2).toSlF (Zg.int .u32)).froz 4) ((((E.froz 1).froz 2).froz 3).toSlF (Zg.int .u32))) fun _ _ ⟨f,o⟩=>⟨_,f,?_⟩;replace o:=Rr G o;refine go ?_;replace h:=((h.grow H).grow p).grow o;refine Zm a (fun l a=>go ?_) fun l a=>go ?_
   ·cases a;exact ⟨rfl,rfl,h.below⟩
   exact ⟨k,by omega,rfl,⟨_,_,_,rfl,a,h,rfl⟩⟩
  cases a;exact ⟨rfl,rfl,h.below⟩
def Zks (a:Int) (kk_L2:(Bool→Int→Option Int)) (b:Bool):Option Int:=
  kk_L2 b (i64.wrap (a+1))
def Zdg (N:Nat) (d:R0) (b:Int) (kk_L1:(Int→Option Int)):Nat→Bool→Int→Option Int
  | 0,_,_=>none
  | e+1,f,a=>(Zk d.2.2.1 b).bind fun c=>if (decide (a<(c.length:Int)))=true then (if f=true then (Zks a (Zdg N d b kk_L1 e) true) else ((Zk c a).bind fun g=>(Zm3 N c g).bind fun i=>Zks a (Zdg N d b kk_L1 e) (decide (i<a)))) else (if f=true then (some 40) else (if (decide ((c.length:Int)=0))=true then (some 43) else (kk_L1 (i64.wrap (b+1)))))
def Zhn (N:Nat) (d:R0) (a:Int) (kk_L4:(Int→Option Int)):Nat→Int→Option Int
  | 0,_=>none
  | f+1,b=>(Zk d.2.2.2.2 a).bind fun e=>if (decide (b<(e.length:Int)))=true then ((Zk e b).bind fun c=>(Zku N ((c.1.1,c.1.2),c.2)).bind fun g=>if g=true then (some 45) else ((Zhn N d a kk_L4 f) (i64.wrap (b+1)))) else (kk_L4 (i64.wrap (a+1)))
def Zdi (N:Nat) (b:R0) (c:List Int):Nat→Int→Option Int
  | 0,_=>none
  | d+1,a=>if (decide (a<(b.2.1.length:Int)))=true then ((Zk b.2.2.2.2 a).bind fun e=>(Zk c a).bind fun f=>(Zpr N e f).bind fun g=>if (!g)=true then (some 46) else ((Zdi N b c d) (i64.wrap (a+1)))) else (some 0)
def Zb3 (N:Nat) (a:R0) (b:List Int):Nat→Int→Option Int
  | 0,_=>none
  | d+1,c=>if (decide (c<(a.2.1.length:Int)))=true then (Zhn N a c (Zb3 N a b d) N 0) else (Zdi N a b N 0)
def Zdh (N:Nat) (a:R0) (c:List Int):Nat→Int→Option Int
  | 0,_=>none
  | f+1,b=>if (decide (b<(a.2.1.length:Int)))=true then ((Zk a.2.2.2.1 b).bind fun g=>(Zm2 N g c).bind fun d=>(Zk c b).bind fun e=>(Zm4 d e).bind fun i=>if i=true then (some 4) else ((Zk a.2.2.2.2 b).bind fun j=>if (!decide ((j.length:Int)=(i64.wrap (d * e))))=true then (some 60) else ((Zdh N a c f) (i64.wrap (b+1))))) else (Zb3 N a c N 0)
def Q1 (N:Nat) (a:R0):Nat→Int→Option Int
  | 0,_=>none
  | d+1,b=>if (decide (b<(a.2.1.length:Int)))=true then ((Zk a.2.1 b).bind fun e=>(Zm3 N a.2.1 e).bind fun f=>Zdg N a b (Q1 N a d) N (decide (f<b)) 0) else ((Zav N a.2.2.2.1).bind fun c=>if (!decide (c=0))=true then (some c) else ((Zdl N (a.1,a.2.1,a.2.2.1,a.2.2.2.1,a.2.2.2.2)).bind fun g=>Zdh N a g N 0))
def Zfb (N:Nat) (a:R0) (b:Bool):Option Int:=
  if b=true then (some 60) else (if (decide (1024<(a.2.1.length:Int)))=true then (some 4) else (Q1 N a N 0))
def Zdf (N:Nat) (a:R0):Option Int:=
  if (!decide ((a.2.2.1.length:Int)=(a.2.1.length:Int)))=true then (Zfb N a true) else (if (!decide ((a.2.2.2.1.length:Int)=(a.2.1.length:Int)))=true then (Zfb N a true) else (Zfb N a (!decide ((a.2.2.2.2.length:Int)=(a.2.1.length:Int)))))
theorem Zvw {N s t u w:Nat} {x y D B:Option Addr} {col:Ze} {i:World} {b:R0} {r:Int} (a:Zdf N b=some r) (U:Sl Za.str col i x s b.2.1) (k:Sl rV col i y t b.2.2.1) (V:Sl rP col i D u b.2.2.2.1) (l:Sl (Za.slice rQ) col i B w b.2.2.2.2):
    Calls prog 47 #[(.agg (Rq b x s y t D u B w))] i (Wn i r):=by
 refine Xc 2 (m:=175) func47 rfl rfl rfl rfl rfl ?_;rw [Zdf.eq_1] at a;have d:=St.start col i;refine go ?_;refine Xg (col:=(Zh col)) 1 rfl fun H _ _ K e=>go ?_;refine Z9 e<|lV _ (Q8 underlying22 rfl)<|Y6 rfl<|Zl<|Zx<|Zx ?_;replace U:=U.k0;replace k:=k.k0;replace V:=V.k0;replace l:=l.k0;replace d:=d.grow K;refine Wp.cutK [1,3,1000000] (fun j K=>∃ W X,Zfb N b X=some r∧St i (Zh col) W K∧Zd 27 1 W K H (Rq b x s y t D u B w)∧[38].map j=[.bool X]) ?_ ?_
 ·intro j K hJ;obtain ⟨W,X,a,d,e,h⟩:=hJ;rw [Zfb.eq_1] at a;refine .lL [38] h ?_;refine Zm a (fun f a=>go ?_) fun f a=>go ?_
  ·cases a;exact ⟨rfl,rfl,d.below⟩
  refine Zm a (fun f a=>go ?_) fun f a=>go ?_
  ·cases a;exact ⟨rfl,rfl,d.below⟩
  refine Zt [1,3,1000000] (fun n j W=>∃ C a7 E,E=n∧Q1 N b E a7=some r∧St i (Zh col) C W∧Zd 27 1 C W H (Rq b x s y t D u B w)∧[4].map j=[.int .i64 a7]) N ⟨_,0,_,rfl,a,d,e,rfl⟩ ?_;clear a;intro n j W z;obtain ⟨C,a7,E,m,a,d,e,h⟩:=z;subst m;refine .lL [4] h ?_
  cases E with
  | zero=>rw [Q1.eq_1] at a;cases a
  | succ E=>
   rw [Q1.eq_2] at a;refine go ?_;refine Zm a (fun f a=>go ?_) fun f a=>go ?_
   ·refine Wg (col:=C) (by kernel_rfl) (by kernel_rfl)<|qF ⟨_,_,rfl⟩ ?_;refine qW (fun _ c=>((e.atN).nth (q:=1) rfl).gr (c.bl C)) ?_;refine qF ⟨_,_,rfl⟩ ?_;refine qW (fun _ c=>((e.atN).nth (q:=1) rfl).gr (c.bl C)) ?_;refine go ?_;obtain ⟨_,I,a⟩:=bZ a;refine qI I ((U.ks d).addr I)<|qW (fun _ c=>((U.ks d).gr (c.bl C)).atStr I) ?_;obtain ⟨X,I,a⟩:=bZ a;refine qc (v:=(.int .i64 X)) rfl (fun _ c=>⟨_,_,Tj call96 rfl rfl,(Zvx I ((U.ks d).gr (c.bl C)):).mono fun _ _ G=>⟨G.1,c.trans (.of_below G.2)⟩⟩) ?_;refine go ?_;refine Y1 ?_;intro _ c;replace c:=c.bl C;refine go ?_;replace e:=e.gr c;replace d:=d.grow c;refine Zt [1,3,4,1000000] (fun n j J=>∃ v K bl M,M=n∧Zdg N b a7 (Q1 N b E) M K bl=some r∧St i (Zh col) v J∧Zd 27 1 v J H (Rq b x s y t D u B w)∧[5,6].map j=[.bool K,.int .i64 bl]) N ⟨_,_,0,_,rfl,a,d,e,rfl⟩ ?_;clear a;intro n j J z;obtain ⟨v,K,bl,M,m,a,d,e,h⟩:=z;subst m;refine .lL [5,6] h ?_
    cases M with
    | zero=>rw [Zdg.eq_1] at a;cases a
    | succ M=>
     rw [Zdg.eq_2] at a;refine go ?_;refine Z9 e<|Xk rfl ?_;obtain ⟨_,q,a⟩:=bZ a;refine lI q ((k.ks d).addr q) ?_;obtain ⟨_,Y,Z⟩:=(k.ks d).atN q;obtain ⟨⟨_,_,rfl,_⟩,_⟩:=Y;refine lW Z.one<|go ?_;refine Zm a (fun f a=>?_) fun f a=>go ?_
     ·refine Xz<|Zx ?_;refine Wp.cutK [1,3,4,6,1000000] (fun j Y=>∃ Z I,Zks bl (Zdg N b a7 (Q1 N b E) M) I=some r∧St i (Zh col) Z Y∧Zd 27 1 Z Y H (Rq b x s y t D u B w)∧[5].map j=[.bool I]) ?_ ?_
      ·intro j Y hJ;obtain ⟨Z,I,a,d,e,h⟩:=hJ;rw [Zks.eq_1] at a;refine .lL [5] h<|go ?_;exact ⟨M,by omega,rfl,⟨_,_,_,_,rfl,a,d,e,rfl⟩⟩
      refine Zf1<|Wg (col:=v) (by kernel_rfl) (by kernel_rfl)<|go ?_;refine Ye a (fun ap a=>go ?_) fun ap a=>go ?_
      ·refine qv (v:=(.bool true)) rfl (fun _ c=>X0 (congrArg Value.bool ap) rfl) ?_;refine go ?_;refine Y1 ?_;intro _ c;replace c:=c.bl v;replace e:=e.gr c;replace d:=d.grow c;exact ⟨rfl,_,_,a,d,e,rfl⟩
      refine qF ⟨_,_,rfl⟩ ?_;refine go ?_;refine qW (fun _ c=>((e.atN).nth (q:=2) rfl).gr (c.bl v)) ?_;refine go ?_;refine qI q ((k.ks d).addr q) ?_;refine go ?_;obtain ⟨_,be,bf⟩:=(k.ks d).atN q;obtain ⟨⟨_,_,rfl,bg⟩,_⟩:=be;refine qW (fun _ c=>bf.one.gr (c.bl v)) ?_;refine go ?_;refine qF ⟨_,_,rfl⟩ ?_;refine go ?_;refine qW (fun _ c=>((e.atN).nth (q:=2) rfl).gr (c.bl v)) ?_;refine go ?_;refine qI q ((k.ks d).addr q) ?_;refine go ?_;obtain ⟨_,bh,bi⟩:=(k.ks d).atN q;obtain ⟨⟨_,_,rfl,a4⟩,_⟩:=bh;refine qW (fun _ c=>bi.one.gr (c.bl v)) ?_;refine go ?_;obtain ⟨_,J,a⟩:=bZ a;refine qI J (a4.addr J) ?_;refine go ?_;refine qW (fun _ c=>(a4.gr (c.bl v)).atStr J) ?_;refine go ?_;obtain ⟨M,J,a⟩:=bZ a;refine qc (v:=(.int .i64 M)) rfl (fun _ c=>⟨_,_,Tj call96 rfl rfl,(Zvx J (bg.gr (c.bl v)):).mono fun _ _ G=>⟨G.1,c.trans (.of_below G.2)⟩⟩) ?_;refine go ?_;refine qv (v:=(.bool (decide (M<bl)))) rfl (fun _ c=>X7 (congrArg Value.bool ap) rfl) ?_;refine go ?_;refine Y1 ?_;intro _ c;replace c:=c.bl v;replace e:=e.gr c;replace d:=d.grow c;exact ⟨rfl,_,_,a,d,e,rfl⟩
     refine Zm a (fun f a=>go ?_) fun f a=>go ?_
     ·cases a;exact ⟨rfl,rfl,d.below⟩
     refine Z9 e<|Xk rfl<|lI q ((k.ks d).addr q) ?_;obtain ⟨_,bk,bm⟩:=(k.ks d).atN q;obtain ⟨⟨_,_,rfl,_⟩,_⟩:=bk;refine lW bm.one<|go ?_;refine Zm a (fun f a=>go ?_) fun f a=>go ?_
     ·cases a;exact ⟨rfl,rfl,d.below⟩
     exact ⟨E,by omega,rfl,⟨_,_,_,rfl,a,d,e,rfl⟩⟩
   refine Z9 e ?_;obtain ⟨_,q,a⟩:=bZ a;refine Zi (Z6c q (V.ks d)) fun _ _ ⟨o,M⟩=>⟨_,o,?_⟩;replace M:=Rr C M;refine go ?_;replace e:=e.gr M;replace d:=d.grow M;refine Zm a (fun f a=>go ?_) fun f a=>go ?_
   ·cases a;exact ⟨rfl,rfl,d.below⟩
   refine lV _ (Z5 isAgg27 sizeOf27 e) ?_;obtain ⟨F,v,a⟩:=bZ a;refine Zi (Zvz 2 v (U.ks d) (k.ks d) (V.ks d) (l.ks d)) ?_;rintro _ c6 ⟨c7,aa,ab,rfl,a6,g⟩;refine ⟨_,rfl,go ?_⟩;replace e:=e.gr a6;replace d:=d.grow a6;refine Zt [1,3,8,1000000] (fun n j U=>∃ p q T,T=n∧Zdh N b F T q=some r∧St i (Zh col) p U∧Zd 27 1 p U H (Rq b x s y t D u B w)∧Zb rI 3 2 p U aa ab F∧[9].map j=[.int .i64 q]) N ⟨_,0,_,rfl,a,d,e,g,rfl⟩ ?_;clear a;intro n j U z;obtain ⟨p,q,T,m,a,d,e,g,h⟩:=z;subst m;refine .lL [9] h ?_
   cases T with
   | zero=>rw [Zdh.eq_1] at a;cases a
   | succ T=>
    rw [Zdh.eq_2] at a;refine go ?_;refine Zm a (fun f a=>go ?_) fun f a=>go ?_
    ·refine Z9 e<|Xk rfl ?_;obtain ⟨_,Y,a⟩:=bZ a;refine lI Y ((V.ks d).addr Y) ?_;obtain ⟨_,bq,br⟩:=(V.ks d).atN Y;obtain ⟨⟨_,_,rfl,bs⟩,_⟩:=bq;refine lW br.one<|Y3 rfl ?_;obtain ⟨_,V,a⟩:=bZ a;refine Zi (Z6g V (bs.froz 2) (g.toSlF (Zg.int .i64))) fun _ _ ⟨o,E⟩=>⟨_,o,?_⟩;replace E:=Rr p E;refine go ?_;obtain ⟨_,Q,a⟩:=bZ a;replace g:=g.gr E;refine lI Q (g.addr Q)<|lW (g.atInt Q) ?_;obtain ⟨_,C,a⟩:=bZ a;refine Zi (Z6i (col:=p) C) fun _ _ ⟨o,C⟩=>⟨_,o,?_⟩;replace C:=Rr p C;refine go ?_;replace e:=(e.gr E).gr C;replace d:=(d.grow E).grow C;replace g:=g.gr C;refine Zm a (fun f a=>go ?_) fun f a=>go ?_
     ·cases a;exact ⟨rfl,rfl,d.below⟩
     refine Wg (col:=p) (by kernel_rfl) (by kernel_rfl)<|qF ⟨_,_,rfl⟩ ?_;refine qW (fun _ c=>((e.atN).nth (q:=4) rfl).gr (c.bl p)) ?_;refine go ?_;obtain ⟨_,Z,a⟩:=bZ a;refine qI Z ((l.ks d).addr Z) ?_;obtain ⟨_,bw,bx⟩:=(l.ks d).atN Z;obtain ⟨⟨_,_,rfl,_⟩,_⟩:=bw;refine qW (fun _ c=>bx.one.gr (c.bl p)) ?_;refine go ?_;refine qI Q (g.addr Q)<|qW (fun _ c=>(g.gr (c.bl p)).atInt Q) ?_;refine go ?_;refine Y1 ?_;intro _ c;replace c:=c.bl p;replace g:=g.gr c;replace e:=e.gr c;replace d:=d.grow c;refine Zm a (fun f a=>go ?_) fun f a=>go ?_
     ·cases a;exact ⟨rfl,rfl,d.below⟩
     exact ⟨T,by omega,rfl,⟨_,_,_,rfl,a,d,e,g,rfl⟩⟩
    refine Zt [1,3,8,1000000] (fun n j J=>∃ K L O,O=n∧Zb3 N b F O L=some r∧St i (Zh col) K J∧Zd 27 1 K J H (Rq b x s y t D u B w)∧Zb rI 3 2 K J aa ab F∧[12].map j=[.int .i64 L]) N ⟨_,0,_,rfl,a,d,e,g,rfl⟩ ?_;clear a;intro n j J z;obtain ⟨K,L,O,m,a,d,e,g,h⟩:=z;subst m;refine .lL [12] h ?_
    cases O with
    | zero=>rw [Zb3.eq_1] at a;cases a
    | succ O=>
     rw [Zb3.eq_2] at a;refine go ?_;refine Zm a (fun f a=>go ?_) fun f a=>go ?_
     ·refine Zt [1,12,3,8,1000000] (fun n j Q=>∃ bo p S,S=n∧Zhn N b L (Zb3 N b F O) S p=some r∧St i (Zh col) bo Q∧Zd 27 1 bo Q H (Rq b x s y t D u B w)∧Zb rI 3 2 bo Q aa ab F∧[13].map j=[.int .i64 p]) N ⟨_,0,_,rfl,a,d,e,g,rfl⟩ ?_;clear a;intro n j Q z;obtain ⟨bo,p,S,m,a,d,e,g,h⟩:=z;subst m;refine .lL [13] h ?_
      cases S with
      | zero=>rw [Zhn.eq_1] at a;cases a
      | succ S=>
       rw [Zhn.eq_2] at a;refine go ?_;refine Z9 e<|Xk rfl ?_;obtain ⟨_,P,a⟩:=bZ a;refine lI P ((l.ks d).addr P) ?_;obtain ⟨_,bz,b0⟩:=(l.ks d).atN P;obtain ⟨⟨_,_,rfl,_⟩,_⟩:=bz;refine lW b0.one<|go ?_;refine Zm a (fun f a=>go ?_) fun f a=>go ?_
       ·refine Z9 e<|Xk rfl<|lI P ((l.ks d).addr P) ?_;obtain ⟨_,b1,b2⟩:=(l.ks d).atN P;obtain ⟨⟨_,_,rfl,a8⟩,_⟩:=b1;refine lW b2.one<|Xk rfl ?_;obtain ⟨ax,W,a⟩:=bZ a;refine lI W (a8.addr W) ?_;obtain ⟨_,b3,b4⟩:=a8.atN W;obtain ⟨_,_,rfl,b5,b6⟩:=Wq b3;obtain ⟨_,_,rfl,b7,b8⟩:=Wq b5;obtain ⟨rfl,_⟩:=b7;obtain ⟨⟨b9,ca,rfl,cb⟩,_⟩:=b8;obtain ⟨⟨cc,cd,rfl,ce⟩,_⟩:=b6;refine lV (.agg #[.bool ax.1.1,.slice b9 ax.1.2.length ca,.slice cc ax.2.length cd]) (Yl isAgg42 sizeOf42 rfl rfl b4) ?_;obtain ⟨_,L,a⟩:=bZ a;refine Zi (Z6h L cb ce) fun _ _ ⟨o,v⟩=>⟨_,o,?_⟩;replace v:=Rr bo v;refine go ?_;replace g:=g.gr v;replace e:=e.gr v;replace d:=d.grow v;refine Zm a (fun f a=>go ?_) fun f a=>go ?_
        ·cases a;exact ⟨rfl,rfl,d.below⟩
        exact ⟨S,by omega,rfl,⟨_,_,_,rfl,a,d,e,g,rfl⟩⟩
       exact ⟨O,by omega,rfl,⟨_,_,_,rfl,a,d,e,g,rfl⟩⟩
     refine Zt [1,3,8,1000000] (fun n j I=>∃ A o R,R=n∧Zdi N b F R o=some r∧St i (Zh col) A I∧Zd 27 1 A I H (Rq b x s y t D u B w)∧Zb rI 3 2 A I aa ab F∧[15].map j=[.int .i64 o]) N ⟨_,0,_,rfl,a,d,e,g,rfl⟩ ?_;clear a;intro n j I z;obtain ⟨A,o,R,m,a,d,e,g,h⟩:=z;subst m;refine .lL [15] h ?_
     cases R with
     | zero=>rw [Zdi.eq_1] at a;cases a
     | succ R=>
      rw [Zdi.eq_2] at a;refine go ?_;refine Zm a (fun f a=>go ?_) fun f a=>go ?_
      ·refine Wg (col:=A) (by kernel_rfl) (by kernel_rfl)<|qF ⟨_,_,rfl⟩ ?_;refine qW (fun _ c=>((e.atN).nth (q:=4) rfl).gr (c.bl A)) ?_;refine go ?_;obtain ⟨_,h,a⟩:=bZ a;refine qI h ((l.ks d).addr h) ?_;obtain ⟨_,ch,ci⟩:=(l.ks d).atN h;obtain ⟨⟨_,_,rfl,cj⟩,_⟩:=ch;refine qW (fun _ c=>ci.one.gr (c.bl A)) ?_;refine go ?_;obtain ⟨_,X,a⟩:=bZ a;refine qI X (g.addr X)<|qW (fun _ c=>(g.gr (c.bl A)).atInt X) ?_;obtain ⟨i,j,a⟩:=bZ a;refine qc (v:=(.bool i)) rfl (fun _ c=>⟨_,_,Tj call101 rfl rfl,(Z6l j (cj.gr (c.bl A)):).mono fun _ _ G=>⟨G.1,c.trans (.of_below G.2)⟩⟩) ?_;refine go ?_;refine Y1 ?_;intro _ c;replace c:=c.bl A;refine go ?_;replace e:=e.gr c;replace d:=d.grow c;refine Zm a (fun f a=>go ?_) fun f a=>go ?_
       ·cases a;exact ⟨rfl,rfl,d.below⟩
       exact ⟨R,by omega,rfl,⟨_,_,_,rfl,a,d,e,g.gr c,rfl⟩⟩
      cases a;exact ⟨rfl,rfl,d.below⟩
 refine W0<|Z9 e ?_;refine go ?_;refine Ye a (fun f a=>go ?_) fun f a=>go ?_
 ·refine lV (.bool true) (X0 (congrArg Value.bool f) rfl)<|Vb rfl<|lP 32 rfl rfl<|lP 32 rfl rfl<|lP 32 rfl rfl<|lP 32 rfl rfl<|lP 32 rfl rfl<|lV (.bool true) (X0 rfl rfl)<|Zl ?_;exact ⟨rfl,_,_,a,d,e,rfl⟩
 refine Xy ⟨_,_,rfl⟩ ?_;refine go ?_;refine lW ((e.atN).nth (q:=3) rfl)<|go ?_;refine lV (.bool (!decide ((b.2.2.2.1.length:Int)=(b.2.1.length:Int)))) (X7 (congrArg Value.bool f) rfl)<|Vb rfl ?_;refine Ye a (fun c a=>go ?_) fun c a=>go ?_
 ·refine lV (.bool true) (X0 (congrArg Value.bool c) rfl)<|Zl ?_;exact ⟨rfl,_,_,a,d,e,rfl⟩
 refine Xy ⟨_,_,rfl⟩ ?_;refine go ?_;refine lW ((e.atN).nth (q:=4) rfl)<|go ?_;refine lV (.bool (!decide ((b.2.2.2.2.length:Int)=(b.2.1.length:Int)))) (X7 (congrArg Value.bool c) rfl)<|Zl ?_;exact ⟨rfl,_,_,a,d,e,rfl⟩

end Go.Proofs.YthclpfhncgpnmaaGreat
