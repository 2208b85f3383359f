/-
  What functions of the program compute, as plain Lean functions (m_..), and proofs that they compute it (c_..). Printed by a program of the author; no conditions.
-/
import Derived.Test.YtkhnlgdenkikoaaGreatTopStepBFloat
import Derived.Test.YtkhnlgdenkikoaaGreatProg
import Derived.Test.YtkhnlgdenkikoaaGreatTopStepBBrief
import Derived.Test.YtkhnlgdenkikoaaGreatTopStepBThree
import Derived.Test.YtkhnlgdenkikoaaGreatTopStepF2
set_option linter.unusedVariables false
set_option maxRecDepth 100000
set_option maxHeartbeats 2000000
namespace Go.Proofs.YtkhnlgdenkikoaaGreat
open Go Go.RowKit
open Int renaming toNat_natCast→aD,tmod→bM,tmod_eq_emod_of_nonneg→cK,tdiv→aZ,tdiv_eq_ediv_of_nonneg→cD,toNat_of_nonneg→bL,toNat→aA,sign_eq_one_of_pos→jL
open List renaming take_take→gY,take_length→kI,getD_eq_getElem?_getD→aF,getElem?_eq_getElem→aL,getElem?_eq_none→cQ,drop_zero→aP,drop_eq_nil_of_le→aK,length_singleton→aQ,replicate→aM,length_replicate→bI,drop_replicate→hY,eq_nil_of_length_eq_zero→cY,drop_eq_nil_iff→aG,mem_cons→aO,not_mem_nil→bG,length_drop→bP,length_take→cP
open Nat renaming min_eq_left→bD,le_refl→bB,lt_of_lt_of_le→aE,mul_le_mul_left→aT,pow_succ→bA,mul_zero→dW,add_zero→bU,pow_zero→dV,add_assoc→dS,zero_add→cR,pow_add→dH,div_div_eq_div_mul→gT,add_mul_div_left→iA,div_eq_of_lt→fB,mul_assoc→cC,two_pow_pos→cG,div_le_self→cS,dvd_add_left→kN,one_mul→aX,mul_comm→bY,mul_div_cancel_left→gB,le_trans→aU,gcd→dA,gcd_comm→fJ,mul_le_mul_right→bC,min_eq_right→dZ,max_eq_left→gM,max_eq_right→gE,le_total→jJ,sub_le→iT,gcd_sub_self_right→jK,eq_zero_or_pos→fV,gcd_zero_right→kF,beq→aI
open Option renaming getD_some→dG
open Rat renaming mkRat_eq_div→dI,inv_eq_of_mul_eq_one→gJ
open Go.IntKind (i8 i16 i32 i64 u8 u16 u32 u64)
open Go.Proofs.Tryz

theorem Z0v (N:Nat) (a:List Int) (hb:a.length≤35184372088000):∀ (n j:Nat),j≤a.length→Zcj N a n (j:Int)=Sx N n (a.take j)
 | 0,j,_=>rfl
 | n+1,j,d=>by
  have b:(a.take j).length=j:=by rw [nK];omega
  have c:0<j→Zl (a.take j) ((j - 1:Nat):Int)=Zl a ((j - 1:Nat):Int):=fun h=>by rw [Zgq,Zgq,List.getElem?_take,if_pos (by omega)]
  rw [Zcj.eq_2,Sx.eq_2,b]
  by_cases h0:0<j
  ·have e:(j:Int) - 1=((j - 1:Nat):Int):=by omega
   rw [if_pos (dT (by omega)),if_pos (dT (by omega)),Zw (by omega),e,c h0,Z0 (by omega),oB,oB,Zin,Zce,b,Zw (by omega),e,aD,aD]
   by_cases hx:a[j - 1]=0
   ·rw [if_pos (dT hx),if_pos (dT hx),Xf (by omega),Z0v N a hb n (j - 1) (by omega),gY,bD (by omega)]
   ·rw [if_neg (dF hx),if_neg (dF hx),Xf (by omega),Xf (by rw [b];simp only [nN,maxLen];omega),List.nil_append]
  ·have:j=0:=by omega
   subst this
   rw [if_neg (by decide),if_neg (by decide),Zin,Zce,if_neg (by decide),if_neg (by decide),Xf (by omega)]
   exact Xf (by simp [maxLen])
theorem Tk {N:Nat} {a:List Int} (h:Zn a) (hn:a.length<N) (hb:a.length≤35184372088000):Ua N a=some (Ze (Zc a)):=by
 rw [Ua,Z0v N a hb N a.length (bB _),kI]
 exact Zph N N a h hn (by omega)
theorem Z0x {N:Nat} {u:Int} (h:0≤u∧u<18446744073709551616) (hn:2<N):Zio N u=some (Ze u.toNat):=by
 have a:u32.wrap (bM u 4294967296)=u % 4294967296:=by rw [cK h.1,Uo (by omega)]
 have b:u32.wrap (u64.wrap (aZ u 4294967296))=u / 4294967296:=by rw [cD h.1,Xm (by omega),Uo (by omega)]
 have c:Zn [u % 4294967296,u / 4294967296]:=.cons (by omega) (.cons (by omega) .nil)
 have e:Zc [u % 4294967296,u / 4294967296]=u.toNat:=by rw [Wm,Wm,Yy];omega
 rw [Zio,a,b,Tk c (by simpa using hn) (by simp),oB,e]
theorem Zeq {a:List Int} (h:Zn a) (k:Nat):Zab a (k:Int)=some ((X3 a k:Nat):Int):=by
 rw [Zab]
 by_cases hk:k<a.length
 ·have:=h.get hk
  rw [if_pos (dT (by omega)),Z0 hk,oB,Xm (by omega),X3,aF,aL hk,dG]
  congr 1;omega
 ·rw [if_neg (dF (by omega)),X3,aF,cQ (by omega)];rfl
theorem Zog {a:List Int} (h:Zn a) (k:Nat):Zc (a.take k)<4294967296 ^ k:=by
 have b:=Qq (h.take k)
 refine aE b (Nat.pow_le_pow_right (by decide) ?_)
 rw [nK];omega
theorem Zsq (N:Nat) (a b:List Int) (ha:Zn a) (hb:Zn b):∀ (n i:Nat),i<4611686018427387904→i<n→Zc (a.drop i)=Zc (b.drop i)→Zfo N a b n ((i:Int) - 1)=some (if Zc a<Zc b then -1 else if Zc b<Zc a then 1 else 0)
 | 0,i,_,h,_=>by omega
 | n+1,i,l,m,d=>by
  rw [Zfo.eq_2]
  by_cases h0:i=0
  ·subst h0
   rw [if_neg (by decide)]
   rw [aP,aP] at d
   rw [if_neg (by omega),if_neg (by omega)]
  ·have e:(i:Int) - 1=((i - 1:Nat):Int):=by omega
   have f:i - 1+1=i:=by omega
   rw [if_pos (dT (by omega)),e,Zeq ha,Zeq hb,oB,oB]
   have g:=T0 a (i - 1)
   have j:=T0 b (i - 1)
   rw [Ti a,f] at g
   rw [Ti b,f,← d] at j
   have o:=Zog ha (i - 1)
   have p:=Zog hb (i - 1)
   have c:∀ x y:Nat,x<y→4294967296 ^ (i - 1) * (x+4294967296 * Zc (a.drop i))+4294967296 ^ (i - 1)≤4294967296 ^ (i - 1) * (y+4294967296 * Zc (a.drop i)):=fun x y k=>by
    rw [← Nat.mul_succ];exact aT _ (by omega)
   generalize 4294967296 ^ (i - 1)=Q at *
   by_cases hlt:X3 a (i - 1)<X3 b (i - 1)
   ·have:=c _ _ hlt
    rw [if_pos (dT (by omega)),if_pos (by omega)]
   ·rw [if_neg (dF (by omega))]
    by_cases hgt:X3 b (i - 1)<X3 a (i - 1)
    ·have:=c _ _ hgt
     rw [if_pos (dT (by omega)),if_neg (by omega),if_pos (by omega)]
    ·rw [if_neg (dF (by omega)),Zw (by omega)]
     exact Zsq N a b ha hb n (i - 1) (by omega) (by omega) (by rw [Ti a,Ti b,f,d];omega)
theorem Zsr {N:Nat} {a b:List Int} (ha:Zn a) (hb:Zn b) (h1:a.length<N) (h2:b.length<N) (h3:a.length≤35184372088000) (h4:b.length≤35184372088000):
  Zfn N a b=some (if Zc a<Zc b then -1 else if Zc b<Zc a then 1 else 0):=by
 have c:∀ (l:List Int) (k:Nat),l.length≤k→Zc (l.drop k)=0:=fun l k h=>by rw [aK h];rfl
 rw [Zfn]
 by_cases h:a.length<b.length
 ·rw [if_pos (dT (by omega)),Zii,Zw (by omega)]
  exact Zsq N a b ha hb N b.length (by omega) h2 (by rw [c a _ (by omega),c b _ (by omega)])
 ·rw [if_neg (dF (by omega)),Zii,Zw (by omega)]
  exact Zsq N a b ha hb N a.length (by omega) h1 (by rw [c a _ (by omega),c b _ (by omega)])
theorem Zte {s:Int} (h:0≤s∧s<18446744073709551616):u32.wrap (bM s 4294967296)=((s.toNat % 4294967296:Nat):Int):=by
 rw [cK h.1,Uo (by omega)];omega
theorem Ztd {s:Int} (h:0≤s∧s<18446744073709551616):u64.wrap (aZ s 4294967296)=((s.toNat / 4294967296:Nat):Int):=by
 rw [cD h.1,Xm (by omega)];omega
theorem Zr2 {S Q A B C:Nat} (h:A=B+4294967296 * C):S+Q * B+Q * 4294967296 * C=S+Q * A:=by
 subst h;grind
theorem Zzy (N:Nat) (a b:List Int) (ha:Zn a) (hb:Zn b) (hN:a.length+b.length+2<N) (hs:a.length+b.length<35184372087000):∀ (n i:Nat) (out:List Int) (c:Nat),out.length=i→Zn out→c≤1→i≤a.length+b.length+2→(i≤a.length+b.length+1∨c=0)→a.length+b.length+3≤n+i→
  Ql N a b n out (c:Int) (i:Int)=some (Ze (Zc out+4294967296 ^ i * (c+Zc (a.drop i)+Zc (b.drop i))))
 | 0,i,out,c,_,_,_,g,_,j=>by omega
 | n+1,i,out,c,d,e,m,g,j,o=>by
  have go:(i<a.length∨i<b.length∨0<c)→Zk6 a b out (c:Int) (i:Int) (Ql N a b n)=some (Ze (Zc out+4294967296 ^ i * (c+Zc (a.drop i)+Zc (b.drop i)))):=fun l=>by
   have p:=Zep ha i
   have q:=Zep hb i
   have k:u64.wrap (u64.wrap ((c:Int)+((X3 a i:Nat):Int))+((X3 b i:Nat):Int))=((c+X3 a i+X3 b i:Nat):Int):=by
    rw [Xm (x:=(c:Int)+_) (by omega),Xm (by omega)];omega
   rw [Zk6,Zeq ha,Zeq hb,oB,oB,k,Zte (by omega),Ztd (by omega),aD]
   generalize hsum:c+X3 a i+X3 b i=s
   rw [Xf (by simp only [aQ,maxLen];omega),Zw (by omega)]
   have f:=Zzy N a b ha hb hN hs n (i+1) (out++[((s % 4294967296:Nat):Int)]) (s / 4294967296) (by simp [d]) (e.app (.cons (by omega) .nil)) (by omega) (by omega) (by
    by_cases hi:i<a.length∨i<b.length
    ·omega
    ·right
     have r:X3 a i=0:=by rw [X3,aF,cQ (by omega)];rfl
     have zb:X3 b i=0:=by rw [X3,aF,cQ (by omega)];rfl
     omega) (by omega)
   rw [show ((i+1:Nat):Int)=(i:Int)+1 by omega] at f
   rw [f,Qp,d,Wm,Yy,aD,Ti a i,Ti b i,bA]
   congr 2
   rw [dW,bU]
   refine Zr2 ?_
   omega
  rw [Ql.eq_2]
  by_cases hia:i<a.length
  ·rw [if_pos (dT (by omega)),Zdv,if_pos rfl];exact go (.inl hia)
  ·rw [if_neg (dF (by omega))]
   by_cases hib:i<b.length
   ·rw [if_pos (dT (by omega)),Zdv,if_pos rfl];exact go (.inr (.inl hib))
   ·rw [if_neg (dF (by omega)),Zdv]
    by_cases hcp:0<c
    ·rw [if_pos (dT (by omega))];exact go (.inr (.inr hcp))
    ·have:c=0:=by omega
     subst this
     rw [if_neg (by decide),Tk e (by omega) (by omega),oB,aK (by omega),aK (by omega),Yy]
     simp
theorem Zzz {N:Nat} {a b:List Int} (ha:Zn a) (hb:Zn b) (hN:a.length+b.length+3<N) (hs:a.length+b.length<35184372087000):Zih N a b=some (Ze (Zc a+Zc b)):=by
 have:=Zzy N a b ha hb (by omega) hs N 0 [] 0 rfl .nil (by omega) (by omega) (by omega) (by omega)
 rw [aP,aP,Yy,dV] at this
 rw [Zih,show (0:Int)=((0:Nat):Int) from rfl,this]
 simp
theorem Z07 (N:Nat) (a b:List Int) (ha:Zn a) (hb:Zn b) (hN:a.length<N) (hs:a.length<35184372088000):∀ (n i:Nat) (out:List Int) (c:Nat),out.length=i→Zn out→c≤1→i≤a.length→a.length<n+i→c+Zc (b.drop i)≤Zc (a.drop i)→
  Zaa N a b n out (c:Int) (i:Int)=some (Ze (Zc out+4294967296 ^ i * (Zc (a.drop i) - (c+Zc (b.drop i)))),true)
 | 0,i,out,c,_,_,_,l,m,_=>by omega
 | n+1,i,out,c,e,f,o,l,m,g=>by
  rw [Zaa.eq_2]
  by_cases hi:i<a.length
  ·have p:=Zep ha i
   have q:=Zep hb i
   rw [Ti a i,Ti b i] at g
   have go:∀ (d:Nat) (x:Int),d≤1→x=((X3 a i+4294967296 * d:Nat):Int)→X3 b i+c≤X3 a i+4294967296 * d→X3 a i+4294967296 * d<X3 b i+c+4294967296→Zip out (c:Int) (i:Int) (Zaa N a b n) ((X3 b i:Nat):Int) (d:Int) x=some (Ze (Zc out+4294967296 ^ i * (Zc (a.drop i) - (c+Zc (b.drop i)))),true):=fun d x j r s t=>by
    have ev:u32.wrap (u64.wrap (x - u64.wrap (((X3 b i:Nat):Int)+(c:Int))))=((X3 a i+4294967296 * d - (X3 b i+c):Nat):Int):=by
     rw [Xm (x:=((X3 b i:Nat):Int)+(c:Int)) (by omega),Xm (by omega),Uo (by omega)];omega
    rw [Zip,ev,Xf (by simp only [aQ,maxLen];omega),Znx,Zw (by omega)]
    generalize hv:X3 a i+4294967296 * d - (X3 b i+c)=v
    have k:=Z07 N a b ha hb hN hs n (i+1) (out++[(v:Int)]) d (by simp [e]) (f.app (.cons (by omega) .nil)) j (by omega) (by omega) (by omega)
    rw [show ((i+1:Nat):Int)=(i:Int)+1 by omega] at k
    rw [k,Qp,e,Wm,Yy,aD,Ti a i,Ti b i,bA,dW,bU]
    congr 3
    refine Zr2 ?_
    omega
   rw [if_pos (dT (by omega)),Zeq ha,Zeq hb,oB,oB,Xm (x:=((X3 b i:Nat):Int)+(c:Int)) (by omega)]
   by_cases hlt:X3 a i<X3 b i+c
   ·rw [if_pos (dT (by omega))]
    exact go 1 _ (by omega) (by rw [Xm (by omega)];omega) (by omega) (by omega)
   ·rw [if_neg (dF (by omega))]
    exact go 0 _ (by omega) (by omega) (by omega) (by omega)
  ·rw [if_neg (dF (by omega)),Tk f (by omega) (by omega),oB]
   rw [aK (show a.length≤i by omega),Yy] at g ⊢
   rw [show 0 - (c+Zc (b.drop i))=0 by omega]
   simp
theorem Zl6 {N:Nat} {a b:List Int} (ha:Zn a) (hb:Zn b) (h1:a.length<N) (h2:b.length<N) (h3:a.length<35184372088000) (h4:b.length<35184372088000):
  Zdw N a b=some (if Zc a<Zc b then ([],false) else (Ze (Zc a - Zc b),true)):=by
 rw [Zdw,Zsr ha hb h1 h2 (by omega) (by omega),oB]
 by_cases h:Zc a<Zc b
 ·rw [if_pos h,if_pos (by decide),if_pos h]
 ·have:=Z07 N a b ha hb h1 h3 N 0 [] 0 rfl .nil (by omega) (by omega) (by omega) (by simpa using Nat.le_of_not_lt h)
  rw [if_neg h,if_neg (by split <;> decide),if_neg h,show (0:Int)=((0:Nat):Int) from rfl,this]
  simp [Yy]
theorem Z0o (N:Nat) (a b:List Int) (ha:Zn a) (hb:Zn b) (i:Nat) (hi:i<a.length) (kk:List Int→Int→Option R2):∀ (n j:Nat) (p:List Int) (c:Nat),j≤b.length→b.length<n+j→i+b.length<p.length→p.length<4611686018427387904→Zn p→c<4294967296→Zc (p.drop (i+b.length))=0→
  ∃ p',Zfs N a b (i:Int) kk n (j:Int) p (c:Int)=kk p' ((i:Int)+1)∧p'.length=p.length∧Zn p'∧Zc p'=Zc p+4294967296 ^ (i+j) * (c+X3 a i * Zc (b.drop j))∧Zc (p'.drop (i+b.length+1))=0
 | 0,j,p,c,e,q,_,_,_,_,_=>by omega
 | n+1,j,p,c,e,q,f,r,g,C,l=>by
  rw [Zfs.eq_2]
  by_cases hj:j<b.length
  ·have d:i+j<p.length:=by omega
   have D:=g.get d
   have m:=ha.get hi
   have o:=hb.get hj
   have s:X3 a i=(a[i]).toNat:=by rw [X3,aF,aL hi,dG]
   have E:a[i] * b[j]≤4294967295 * 4294967295:=Int.mul_le_mul (by omega) (by omega) (by omega) (by omega)
   have A:0≤a[i] * b[j]:=Int.mul_nonneg m.1 o.1
   have F:(((a[i]).toNat * (b[j]).toNat:Nat):Int)=a[i] * b[j]:=by rw [Int.natCast_mul,bL m.1,bL o.1]
   have t:u64.wrap (u64.wrap ((c:Int)+u64.wrap (u64.wrap a[i] * u64.wrap b[j]))+u64.wrap p[i+j])=((c+((a[i]).toNat * (b[j]).toNat+(p[i+j]).toNat):Nat):Int):=by
    rw [Xm (x:=a[i]) (by omega),Xm (x:=b[j]) (by omega),Xm (x:=a[i] * b[j]) (by omega),Xm (x:=p[i+j]) (by omega),Xm (x:=(c:Int)+_) (by omega),Xm (by omega)]
    omega
   rw [if_pos (dT (by omega)),Z0 hi,oB,Z0 hj,oB,Zw (x:=(i:Int)+(j:Int)) (by omega),show (i:Int)+(j:Int)=((i+j:Nat):Int) by omega,Z0 d,oB,oB,aD,t]
   have B:c+((a[i]).toNat * (b[j]).toNat+(p[i+j]).toNat)<18446744073709551616:=by omega
   rw [Zte (by omega),Ztd (by omega),aD,Zw (x:=(j:Int)+1) (by omega),show (j:Int)+1=((j+1:Nat):Int) by omega]
   generalize hS:c+((a[i]).toNat * (b[j]).toNat+(p[i+j]).toNat)=S at *
   obtain ⟨p',q1,u,v,w,y⟩:=Z0o N a b ha hb i hi kk n (j+1) (p.set (i+j) ((S % 4294967296:Nat):Int)) (S / 4294967296) (by omega) (by omega) (by rw [nS];exact f) (by rw [nS];exact r) (g.set _ (by omega)) (by omega) (by rw [Q2 _ (by omega)];exact l)
   refine ⟨p',q1,by rw [u,nS],v,?_,y⟩
   rw [w,← dS i j 1,bA,Uw hj,s]
   exact Zx5 _ _ _ _ _ _ (p[i+j]).toNat (S % 4294967296) _ _ (by have:=Tz d ((S % 4294967296:Nat):Int);rw [aD] at this;exact this) (by omega)
  ·have:j=b.length:=by omega
   subst this
   have k:=drop_zero g f l
   rw [if_neg (dF (by omega)),Zw (x:=(i:Int)+(b.length:Int)) (by omega),show (i:Int)+(b.length:Int)=((i+b.length:Nat):Int) by omega,Z0 f,oB,oB,aD,Uo (by omega),Zw (by omega)]
   refine ⟨_,rfl,by rw [nS],g.set _ (by omega),?_,?_⟩
   ·have e:=Tz f (c:Int)
    rw [k.1,aD] at e
    rw [List.drop_length,Yy,dW,bU]
    simpa using e
   ·rw [Q2 _ (by omega)];exact k.2
theorem Z0n (N:Nat) (a b:List Int) (ha:Zn a) (hb:Zn b) (hN:a.length+b.length<N) (hs:a.length+b.length<35184372088000):∀ (n i:Nat) (p:List Int),i≤a.length→a.length<n+i→p.length=a.length+b.length→Zn p→Zc (p.drop (i+b.length))=0→
  Zci N a b n p (i:Int)=some (Ze (Zc p+4294967296 ^ i * (Zc (a.drop i) * Zc b)))
 | 0,i,p,e,f,_,_,_=>by omega
 | n+1,i,p,e,f,o,c,g=>by
  rw [Zci.eq_2]
  by_cases hi:i<a.length
  ·obtain ⟨j,q1,q,k,l,m⟩:=Z0o N a b ha hb i hi (Zci N a b n) N 0 p 0 (by omega) (by omega) (by omega) (by omega) c (by omega) g
   rw [show ((0:Nat):Int)=0 from rfl] at q1
   have d:=Z0n N a b ha hb hN hs n (i+1) j (by omega) (by omega) (by omega) k (by rw [show i+1+b.length=i+b.length+1 by omega];exact m)
   rw [show ((i+1:Nat):Int)=(i:Int)+1 by omega] at d
   rw [if_pos (dT (by omega)),q1,d,l,Ti a i,bA,aP]
   congr 2
   simp only [bU,cR]
   grind
  ·rw [if_neg (dF (by omega)),Tk c (by omega) (by omega),oB,aK (by omega),Yy];simp
theorem Z0p {N:Nat} {a b:List Int} (ha:Zn a) (hb:Zn b) (h1:a.length+b.length<N) (h3:a.length+b.length<35184372088000):Zfr N a b=some (Ze (Zc a * Zc b)):=by
 have c:=Ys ha
 have d:=Ys hb
 rw [Zfr,Tk ha (by omega) (by omega),oB,Tk hb (by omega) (by omega),oB,Zw (by omega),Xf (by simp only [maxLen];omega)]
 have:=Z0n N (Ze (Zc a)) (Ze (Zc b)) (Xd _) (Xd _) (by omega) (by omega) N 0 (aM (aA (((Ze (Zc a)).length:Int)+((Ze (Zc b)).length:Int))) 0) (by omega) (by omega) (by rw [bI];omega) (.zeros _) (by rw [hY];exact Sf _)
 rw [show ((0:Nat):Int)=0 from rfl] at this
 rw [this,Sf,aP,Xb,Xb]
 simp
theorem Zz2 (N:Nat):∀ (n:Nat) (c:Int) (t:Nat),Xg t<n→t<4294967296→0≤c∧c+(Xg t:Int)≤4611686018427387904→Zfm N n c (t:Int)=some (c+(Xg t:Int))
 | 0,c,t,h,_,_=>by omega
 | n+1,c,t,h,b,d=>by
  rw [Zfm.eq_2]
  have f:Xg t≤32:=Ui.2 (by omega)
  by_cases h0:0<t
  ·have e:u32.wrap (aZ (t:Int) 2)=((t / 2:Nat):Int):=by rw [cD (by omega),Uo (by omega)];omega
   have a:=Zjx t 1
   rw [Nat.pow_one] at a
   have g:1≤Xg t:=by rw [Xg,if_neg (by omega)];omega
   rw [if_pos (dT (by omega)),e,Zw (by omega),Zz2 N n (c+1) (t / 2) (by omega) (by omega) (by omega)]
   congr 1;omega
  ·have:t=0:=by omega
   subst this
   rw [if_neg (by decide),Zgt];simp
theorem Z90 {N:Nat} {a:List Int} (h:Zn a) (hn:a.length+32<N) (hb:a.length≤35184372088000):Zk8 N a=some ((Xg (Zc a):Nat):Int):=by
 have i:=Ys h
 rw [Zk8,Tk h (by omega) hb,oB]
 by_cases h0:(Ze (Zc a)).length=0
 ·have:Zc a=0:=Zg7.1 (cY h0)
  rw [if_pos (dT (by omega)),this,Zgt];rfl
 ·have b:0<(Ze (Zc a)).length:=by omega
  have e:((Ze (Zc a)).length:Int) - 1=(((Ze (Zc a)).length - 1:Nat):Int):=by omega
  have j:=(Xd (Zc a)).get (k:=(Ze (Zc a)).length - 1) (by omega)
  have f:=Zni b
  have c:=Zg5 b
  have d:(Ze (Zc a))[(Ze (Zc a)).length - 1]=(((Ze (Zc a))[(Ze (Zc a)).length - 1]).toNat:Int):=by omega
  have g:Xg ((Ze (Zc a))[(Ze (Zc a)).length - 1]).toNat≤32:=Ui.2 (by omega)
  rw [if_neg (dF (by omega)),Zw (by omega),e,Z0 (by omega),oB,d,Zw (by omega),Zz2 N N _ _ (by omega) (by omega) (by omega)]
  have hb:=Zt6 (a:=(Ze (Zc a)).take ((Ze (Zc a)).length - 1)) (x:=(Ze (Zc a))[(Ze (Zc a)).length - 1]) ((Xd _).take _) (by omega)
  rw [c,Xb,nK,bD (by omega)] at hb
  rw [hb]
  congr 1
theorem Z3m (T l R k s:Nat) (hT:T<4294967296 ^ k) (hs:s<32):(T+4294967296 ^ k * (l+4294967296 * R)) / 2 ^ (32 * k+s) % 2=l / 2 ^ s % 2:=by
 have e:(4294967296:Nat) ^ k=2 ^ (32 * k):=by rw [show (4294967296:Nat)=2 ^ 32 by decide,← Nat.pow_mul]
 have a:0<4294967296 ^ k:=Nat.pow_pos (by decide)
 rw [dH,← e,← gT,iA _ _ a,fB hT,cR]
 have b:(4294967296:Nat)=2 ^ s * (2 * 2 ^ (31 - s)):=by
  rw [Nat.mul_left_comm,← dH,show s+(31 - s)=31 by omega]
 have c:l+4294967296 * R=l+2 ^ s * (2 * (2 ^ (31 - s) * R)):=by
  conv=>lhs;rw [b]
  rw [cC,cC]
 rw [c,iA _ _ (cG s),Nat.add_mul_mod_self_left]
theorem Z9z {a:List Int} (h:Zn a) {i:Nat} (hi:i<4611686018427387904):Zk7 a (i:Int)=some ((Zc a / 2 ^ i % 2:Nat):Int):=by
 have e:=Zep h (i / 32)
 have c:i64.wrap (aZ (i:Int) 32)=((i / 32:Nat):Int):=by rw [cD (by omega),Zw (by omega)];omega
 have d:bM (i:Int) 32=((i % 32:Nat):Int):=by rw [cK (by omega)];omega
 rw [Zk7,c,Zeq h,oB,d,Xf (by omega),Zpc _ _ _ (by simp only [IntKind.bits];omega)]
 have f:=cS (X3 a (i / 32)) (2 ^ (i % 32))
 have b:=Z3m (Zc (a.take (i / 32))) (X3 a (i / 32)) (Zc (a.drop (i / 32+1))) (i / 32) (i % 32) (Zog h _) (by omega)
 rw [← Ti a,← T0,show 32 * (i / 32)+i % 32=i by omega] at b
 rw [b]
 generalize X3 a (i / 32) / 2 ^ (i % 32)=x at *
 rw [Uo (by omega),cK (by omega)]
 congr 1
theorem Zz5 (N:Nat) (a:List Int) (ha:Zn a) (hs:a.length<35184372088000):∀ (n i:Nat) (out:List Int) (c:Nat),out.length=i→Zn out→c≤1→i≤a.length→a.length<n+i→
  ∃ o,Zft N a n out (c:Int) (i:Int)=some o∧o.length≤a.length+1∧Zn o∧Zc o=Zc out+4294967296 ^ i * (c+2 * Zc (a.drop i))
 | 0,i,out,c,_,_,_,e,f=>by omega
 | n+1,i,out,c,b,d,p,e,f=>by
  rw [Zft.eq_2]
  by_cases hi:i<a.length
  ·have q:=ha.get hi
   have g:u64.wrap ((c:Int)+u64.wrap (2 * u64.wrap a[i]))=((c+2 * (a[i]).toNat:Nat):Int):=by
    rw [Xm (x:=a[i]) (by omega),Xm (x:=2 * _) (by omega),Xm (by omega)];omega
   rw [if_pos (dT (by omega)),Z0 hi,oB,g,Zte (by omega),Ztd (by omega),aD]
   generalize hS:c+2 * (a[i]).toNat=S
   rw [Xf (by simp only [aQ,maxLen];omega),Zw (by omega)]
   obtain ⟨o,q1,j,k,l⟩:=Zz5 N a ha hs n (i+1) (out++[((S % 4294967296:Nat):Int)]) (S / 4294967296) (by simp [b]) (d.app (.cons (by omega) .nil)) (by omega) (by omega) (by omega)
   rw [show ((i+1:Nat):Int)=(i:Int)+1 by omega] at q1
   refine ⟨o,q1,j,k,?_⟩
   rw [l,Qp,b,Wm,Yy,aD,Uw hi,bA,dW,bU]
   refine Zr2 ?_
   omega
  ·have m:i=a.length:=by omega
   rw [if_neg (dF (by omega))]
   by_cases hcp:0<c
   ·rw [if_pos (dT (by omega)),Xf (by simp only [aQ,maxLen];omega),Zir,Uo (by omega)]
    refine ⟨_,rfl,by simp;omega,d.app (.cons (by omega) .nil),?_⟩
    rw [Qp,b,Wm,Yy,aD,aK (by omega),Yy]
   ·have:c=0:=by omega
    subst this
    rw [if_neg (by decide),Zir]
    refine ⟨_,rfl,by omega,d,?_⟩
    rw [aK (by omega),Yy];simp
theorem Zz6 {N:Nat} {a:List Int} {c:Nat} (ha:Zn a) (hc:c≤1) (hN:a.length<N) (hs:a.length<35184372088000):∃ o,Ziq N a (c:Int)=some o∧o.length≤a.length+1∧Zn o∧Zc o=2 * Zc a+c:=by
 obtain ⟨o,q1,b,d,e⟩:=Zz5 N a ha hs N 0 [] c rfl .nil hc (by omega) (by omega)
 refine ⟨o,?_,b,d,?_⟩
 ·rw [Ziq,Xm (by omega)];exact q1
 ·rw [e,Yy,dV,aP];omega
theorem Z7q (Q e o2 r S v L:Nat) (h:r * 4294967296+e=2 * v+o2) (hS:S=Q * (o2+2 * (v+4294967296 * L))):S=Q * e+Q * 4294967296 * (r+2 * L):=by
 subst hS
 have:Q * (r * 4294967296+e)=Q * (2 * v+o2):=by rw [h]
 grind
theorem Z0l (N:Nat) (a:List Int) (ha:Zn a) (hN:a.length<N) (hs:a.length<35184372088000):∀ (n j:Nat) (out:List Int) (r:Nat),out.length=a.length→Zn out→r≤1→j≤a.length→j<n→Zc (out.take j)=0→
  ∃ v,Zfu N a n out (r:Int) ((j:Int) - 1)=some (Ze v)∧∃ ρ,ρ≤1∧2 * v+ρ=Zc (a.take j)+4294967296 ^ j * (r+2 * Zc (out.drop j))
 | 0,j,out,r,_,_,_,_,h,_=>by omega
 | n+1,j,out,r,i,c,k,y,A,l=>by
  rw [Zfu.eq_2]
  by_cases h0:j=0
  ·subst h0
   rw [if_neg (by decide),Tk c (by omega) (by omega),oB]
   refine ⟨_,rfl,r,k,?_⟩
   rw [List.take_zero,Yy,aP,dV];omega
  ·have e:(j:Int) - 1=((j - 1:Nat):Int):=by omega
   have m:j - 1+1=j:=by omega
   have b:j - 1<a.length:=by omega
   have g:=ha.get b
   have o:u64.wrap (u64.wrap ((r:Int) * 4294967296)+u64.wrap a[j - 1])=((r * 4294967296+(a[j - 1]).toNat:Nat):Int):=by
    rw [Xm (x:=a[j - 1]) (by omega),Xm (x:=(r:Int) * 4294967296) (by omega),Xm (by omega)];omega
   rw [if_pos (dT (by omega)),e,Z0 b,oB,Z0 (by omega),oB,oB,aD,o,Zw (by omega)]
   generalize hS:r * 4294967296+(a[j - 1]).toNat=S
   have p:u32.wrap (u64.wrap (aZ (S:Int) 2))=((S / 2:Nat):Int):=by rw [cD (by omega),Xm (by omega),Uo (by omega)];omega
   have q:bM (S:Int) 2=((S % 2:Nat):Int):=by rw [cK (by omega)];omega
   have s:Zc (out.take (j - 1))=0:=by
    have:=T0 (out.take j) (j - 1)
    rw [gY,bD (by omega),l] at this
    omega
   rw [p,q]
   obtain ⟨v,q1,ρ,t,u⟩:=Z0l N a ha hN hs n (j - 1) (out.set (j - 1) ((S / 2:Nat):Int)) (S % 2) (by rw [nS];exact i) (c.set _ (by omega)) (by omega) (by omega) (by omega) (by rw [Zee _ (bB _)];exact s)
   refine ⟨v,q1,ρ,t,?_⟩
   rw [u]
   have d:=Zrv b
   have f:Zc ((out.set (j - 1) ((S / 2:Nat):Int)).drop (j - 1))=S / 2+4294967296 * Zc (out.drop (j - 1+1)):=by
    rw [Uw (by rw [nS];omega),List.getElem_set_self,Q2 _ (by omega),aD]
   rw [m] at d f
   have w:(4294967296:Nat) ^ j=4294967296 ^ (j - 1) * 4294967296:=by rw [← bA,show (j - 1).succ=j by omega]
   rw [d,f,w,dS]
   congr 1
   exact Z7q _ _ (S % 2) _ _ (S / 2) _ (by omega) rfl
theorem Zo7 {N:Nat} {a:List Int} (ha:Zn a) (hN:a.length<N) (hs:a.length<35184372088000):Zdy N a=some (Ze (Zc a / 2)):=by
 obtain ⟨v,q1,ρ,c,b⟩:=Z0l N a ha hN hs N a.length (aM a.length 0) 0 (by rw [bI]) (.zeros _) (by omega) (bB _) hN (by rw [List.take_replicate];exact Sf _)
 rw [Zdy,Xf (by simp only [maxLen];omega),Zw (by omega)]
 rw [kI,hY,Sf] at b
 refine Eq.trans q1 ?_
 rw [show v=Zc a / 2 by omega]
theorem Z8x {a:List Int} (h:Zn a):Zc a % 2=X3 a 0 % 2:=by
 have:=Ti a 0
 rw [aP] at this
 omega
theorem Zo5 {a:List Int} (h:Zn a):Zdx a=some (decide (Zc a % 2=0)):=by
 rw [Zdx,Z8x h]
 by_cases h0:a.length=0
 ·have:a=[]:=cY h0
  subst this
  rfl
 ·have g:=h.get (k:=0) (by omega)
  have b:X3 a 0=(a[0]).toNat:=by rw [X3,aF,aL (by omega),dG]
  rw [if_neg (dF (by omega)),show (0:Int)=((0:Nat):Int) from rfl,Z0 (by omega),oB,Zlb,cK (by omega),b]
  congr 1
  exact decide_eq_decide.2 (by omega)
theorem Z9e {q:List Int} (hq:Zn q) {i:Nat} (hi:i<32 * q.length) (hd:2 ^ (i+1) ∣ Zc q):
  ∃ x:Nat,Zl q ((i / 32:Nat):Int)=some (x:Int)∧u32.wrap ((x:Int)+Yc .u32 1 ((i % 32:Nat):Int))=((x+2 ^ (i % 32):Nat):Int)∧x+2 ^ (i % 32)<4294967296∧Zc (q.set (i / 32) ((x+2 ^ (i % 32):Nat):Int))=Zc q+2 ^ i:=by
 have a:i / 32<q.length:=by omega
 have g:=hq.get a
 have m:i % 32<32:=Nat.mod_lt _ (by decide)
 have A:=cG (i % 32)
 have c:(4294967296:Nat) ^ (i / 32)=2 ^ (32 * (i / 32)):=by rw [show (4294967296:Nat)=2 ^ 32 by decide,← Nat.pow_mul]
 have d:(4294967296:Nat)=2 ^ (i % 32+1) * 2 ^ (31 - i % 32):=by rw [← dH,show i % 32+1+(31 - i % 32)=32 by omega]
 have n:(2:Nat) ^ (i+1)=4294967296 ^ (i / 32) * 2 ^ (i % 32+1):=by rw [c,← dH];congr 1;omega
 have f:(2:Nat) ^ i=4294967296 ^ (i / 32) * 2 ^ (i % 32):=by rw [c,← dH];congr 1;omega
 have b:=T0 q (i / 32)
 rw [Uw a] at b
 have o:=Zog hq (i / 32)
 have p:0<4294967296 ^ (i / 32):=Nat.pow_pos (by decide)
 rw [n] at hd
 -- the limb's lower bits are none
 have r:2 ^ (i % 32+1) ∣ (q[i / 32]).toNat:=by
  have j:4294967296 ^ (i / 32) ∣ Zc q:=Nat.dvd_trans ⟨_,rfl⟩ hd
  have s:4294967296 ^ (i / 32) ∣ Zc (q.take (i / 32)):=by
   rw [b] at j
   exact (kN ⟨_,rfl⟩).1 j
  have z:Zc (q.take (i / 32))=0:=Nat.eq_zero_of_dvd_of_lt s o
  rw [z,cR] at b
  rw [b] at hd
  have t:=Nat.dvd_of_mul_dvd_mul_left p hd
  have u:2 ^ (i % 32+1) ∣ 4294967296 * Zc (q.drop (i / 32+1)):=by
   conv=>rhs;rw [d]
   exact ⟨2 ^ (31 - i % 32) * Zc (q.drop (i / 32+1)),by rw [cC]⟩
  exact (kN u).1 t
 obtain ⟨y,k⟩:=r
 have l:(q[i / 32]).toNat+2 ^ (i % 32)<4294967296:=by
  have e:2 ^ (i % 32+1) * y<2 ^ (i % 32+1) * 2 ^ (31 - i % 32):=by rw [← k,← d];omega
  have v:=Nat.lt_of_mul_lt_mul_left e
  have w:=aT (2 ^ (i % 32+1)) (show y+1≤2 ^ (31 - i % 32) from v)
  rw [← d,Nat.mul_add,← k,bA] at w
  omega
 refine ⟨(q[i / 32]).toNat,by rw [Z0 a];congr 1;omega,?_,l,?_⟩
 ·rw [show (1:Int)=((1:Nat):Int) from rfl,Zs0 m (.inl rfl),aX,Uo (x:=((2 ^ (i % 32):Nat):Int)) (by omega),Uo (by omega)]
  omega
 ·have e:=Tz a (((q[i / 32]).toNat+2 ^ (i % 32):Nat):Int)
  rw [aD,Nat.mul_add,← f] at e
  omega
theorem Zsu (N:Nat) (a y:List Int) (ha:Zn a) (hy:Zn y) (hy0:0<Zc y) (hly:y.length+8<N) (hs:y.length<35184372000000) (hla:a.length<35184372000000) (hyc:(Ze (Zc y)).length=y.length) (hNa:a.length+y.length+8<N):∀ (n j:Nat) (r q:List Int),j<n→j<4611686018427387904→j≤32 * q.length→q.length≤a.length→Zn q→r=Ze (Zc r)→Zc r<Zc y→2 ^ j ∣ Zc q→Zc a / 2 ^ j=Zc q / 2 ^ j * Zc y+Zc r→
  Zcg N a y n r ((j:Int) - 1) q=some (Ze (Zc a / Zc y),Ze (Zc a % Zc y),0)
 | 0,j,r,q,h,_,_,_,_,_,_,_,_=>by omega
 | n+1,j,r,q,O,R,P,p,m,t,g,C,k=>by
  rw [Zcg.eq_2]
  by_cases h0:j=0
  ·subst h0
   rw [dV,Nat.div_one,Nat.div_one] at k
   rw [if_neg (by decide),Tk m (by omega) (by omega),oB]
   have D:Zc a / Zc y=Zc q:=by rw [k,bY,Nat.mul_add_div hy0,fB g,bU]
   have u:Zc a % Zc y=Zc r:=by rw [k,bY,Nat.mul_add_mod,Nat.mod_eq_of_lt g]
   rw [D,u,← t]
  ·have e:(j:Int) - 1=((j - 1:Nat):Int):=by omega
   obtain ⟨i,rfl⟩:∃ i,j=i+1:=⟨j - 1,by omega⟩
   have E:i+1 - 1=i:=by omega
   rw [e,E]
   have Q:r.length≤y.length:=by
    rw [t,← hyc];exact Wu (Nat.le_of_lt g)
   have v:Zn r:=by rw [t];exact Xd _
   have S:=Nat.mod_lt (Zc a / 2 ^ i) (show 0<2 by decide)
   obtain ⟨d,F,T,o,w⟩:=Zz6 (N:=N) (a:=r) (c:=Zc a / 2 ^ i % 2) v (by omega) (by omega) (by omega)
   have u:Zc a / 2 ^ i=2 * (Zc a / 2 ^ (i+1))+Zc a / 2 ^ i % 2:=by
    rw [bA,← gT];omega
   obtain ⟨qq,f⟩:=C
   have A:Zc q / 2 ^ (i+1)=qq:=by rw [f,gB _ (cG _)]
   have s:Zc q / 2 ^ i=2 * qq:=by rw [f,bA,cC,gB _ (cG _)]
   rw [A] at k
   rw [if_pos (dT (by omega)),Z9z ha (by omega),oB,F,oB,Tk o (by omega) (by omega),oB,Zsr (Xd _) hy (by have:=Ys o;omega) (by omega) (by have:=Ys o;omega) (by omega),oB,Xb,w]
   rw [k] at u
   have l:Zc a / 2 ^ i=2 * qq * Zc y+(2 * Zc r+Zc a / 2 ^ i % 2):=by
    have:2 * qq * Zc y=2 * (qq * Zc y):=cC _ _ _
    omega
   generalize hbit:Zc a / 2 ^ i % 2=b at *
   by_cases hge:Zc y≤2 * Zc r+b
   ·rw [if_pos (by rw [if_neg (by omega)];split <;> decide)]
    obtain ⟨x,G,H,I,B⟩:=Z9e m (i:=i) (by omega) ⟨qq,f⟩
    have J:i64.wrap (aZ (i:Int) 32)=((i / 32:Nat):Int):=by rw [cD (by omega),Zw (by omega)];omega
    have K:bM (i:Int) 32=((i % 32:Nat):Int):=by rw [cK (by omega)];omega
    have U:(Ze (2 * Zc r+b)).length≤y.length+1:=by rw [← w];exact aU (Ys o) (by omega)
    rw [Zl6 (Xd _) hy (by omega) (by omega) (by omega) (by omega),oB,Xb,if_neg (by omega),J,K,G,oB,Xf (by omega),H,oB,aD,Zik,Zw (by omega)]
    have L:=Zsu N a y ha hy hy0 hly hs hla hyc hNa n i (Ze (2 * Zc r+b - Zc y)) (q.set (i / 32) ((x+2 ^ (i % 32):Nat):Int)) (by omega) (by omega) (by rw [nS];omega) (by rw [nS];exact p) (m.set _ ⟨Int.natCast_nonneg _,Int.ofNat_lt.2 I⟩) (by rw [Xb]) (by rw [Xb];omega) (by
     rw [B,f];exact Nat.dvd_add ⟨2 * qq,by rw [bA,cC]⟩ (Nat.dvd_refl _)) (by
     have:Zc (q.set (i / 32) ((x+2 ^ (i % 32):Nat):Int)) / 2 ^ i=2 * qq+1:=by
      rw [B,Nat.add_div_right _ (cG _),s]
     rw [this,Xb,l,Nat.add_mul,aX];omega)
    exact L
   ·rw [if_neg (by rw [if_pos (by omega)];decide),Zik,Zw (by omega)]
    exact Zsu N a y ha hy hy0 hly hs hla hyc hNa n i (Ze (2 * Zc r+b)) q (by omega) (by omega) (by omega) p m (by rw [Xb]) (by rw [Xb];omega) (by rw [f];exact ⟨2 * qq,by rw [bA,cC]⟩) (by rw [s,Xb,l])
theorem Zz4 {N:Nat} {a b:List Int} (ha:Zn a) (hb:Zn b) (hN:32 * a.length+(Ze (Zc b)).length+48<N) (hbN:b.length<N) (hs:a.length+(Ze (Zc b)).length<35184370000000) (hbs:b.length≤35184372000000):
  Zij N a b=some (if Zc b=0 then ([],[],11) else (Ze (Zc a / Zc b),Ze (Zc a % Zc b),0)):=by
 have f:=Ys ha
 rw [Zij,Tk hb (by omega) (by omega),oB]
 by_cases h0:Zc b=0
 ·rw [h0,Vi,if_pos (by decide),if_pos rfl]
 ·have d:=Tv h0
  have e:=(Zmn (Zc a)).2
  rw [if_neg (dF (by omega)),if_neg h0,Z90 ha (by omega) (by omega),oB]
  have c:i64.wrap (aZ (i64.wrap (((Xg (Zc a):Nat):Int)+31)) 32)=(((Xg (Zc a)+31) / 32:Nat):Int):=by
   rw [Zw (x:=((Xg (Zc a):Nat):Int)+31) (by omega),cD (by omega),Zw (by omega)];omega
  rw [c,Xf (by simp only [maxLen,aD];omega),aD,Zw (by omega)]
  have:=Zsu N a (Ze (Zc b)) ha (Xd _) (by rw [Xb];omega) (by omega) (by omega) (by omega) (by rw [Xb]) (by omega) N (Xg (Zc a)) [] (aM ((Xg (Zc a)+31) / 32) 0) (by omega) (by omega) (by rw [bI];omega) (by rw [bI];omega) (.zeros _) (by rw [Yy,Vi]) (by rw [Xb,Yy];omega) (by rw [Sf];exact ⟨0,rfl⟩) (by
   rw [Sf,Yy,Nat.zero_div,Nat.zero_mul]
   exact fB (Ui.1 (bB _)))
  rw [Xb] at this
  exact this
theorem Z6d {x:Nat} (h:x % 2=1):Nat.Coprime 2 x:=by
 rw [Nat.coprime_iff_gcd_eq_one,Nat.gcd_rec,h,Nat.gcd_one_left]
theorem Zwr {x y k:Nat} (h:y % 2=1):dA (2 ^ k * x) y=dA x y:=by
 induction k with
 | zero=>rw [dV,aX]
 | succ k a=>rw [bA,bY (2 ^ k),cC,(Z6d h).gcd_mul_left_cancel,a]
theorem Z7n {x y k:Nat} (h:x % 2=1):dA x (2 ^ k * y)=dA x y:=by
 rw [fJ,Zwr h,fJ]
theorem Zmo {x:Nat} (h:x≠0):1≤Xg x:=by rw [Xg,if_neg h];omega
theorem Zmm (x:Nat):Xg (x / 2)=Xg x - 1:=by
 have:=Zjx x 1
 rwa [Nat.pow_one] at this
theorem Zjw {x y:Nat} (h:x≤y):Xg x≤Xg y:=Ui.2 (Nat.lt_of_le_of_lt h (Ui.1 (bB _)))
theorem Zjv {M x:Nat} (h:(Ze x).length≤M):Xg x≤32 * M:=by have:=(Zmn x).2;omega
theorem Zxa {x xo k:Nat} (h:x=2 ^ k * xo):xo≤x:=by
 rw [h]
 have:=bC xo (cG k)
 omega
section
variable {N M:Nat} (hN:100 * M+64<N) (hM:M<1066000000100)
include hN hM
theorem Z0j (t:Nat):∀ (n i:Nat) (x:List Int),i≤t→t - i<n→t≤32 * M→Zn x→x.length+(t - i)≤33 * M→
  ∃ g,Zfq N (t:Int) n x (i:Int)=some g∧Zn g∧Zc g=2 ^ (t - i) * Zc x∧g.length≤x.length+(t - i)
 | 0,i,x,_,h,_,_,_=>by omega
 | n+1,i,x,p,q,j,b,r=>by
  rw [Zfq.eq_2]
  by_cases h0:i<t
  ·obtain ⟨d,e,s,k,l⟩:=Zz6 (N:=N) (a:=x) (c:=0) b (by omega) (by omega) (by omega)
   rw [show ((0:Nat):Int)=0 from rfl] at e
   obtain ⟨g,f,m,o,u⟩:=Z0j t n (i+1) d (by omega) (by omega) j k (by omega)
   rw [show ((i+1:Nat):Int)=(i:Int)+1 by omega] at f
   rw [if_pos (dT (by omega)),e,oB,Zw (by omega)]
   refine ⟨g,f,m,?_,by omega⟩
   rw [o,l,bU (2 * Zc x),← cC,← bA]
   congr 2;omega
  ·have:i=t:=by omega
   subst this
   rw [if_neg (dF (by omega))]
   exact ⟨x,rfl,b,by simp,by omega⟩
theorem Z0i (kk:List Int→List Int→Option R2) {x:Nat} (hx:(Ze x).length≤M):∀ (n y:Nat),y≠0→Xg y<n→(Ze y).length≤M→
  ∃ yo k,y=2 ^ k * yo∧yo % 2=1∧Zbg N kk (Ze x) n (Ze y)=kk (Ze (min x yo)) (Ze (max x yo - min x yo))
 | 0,y,_,h,_=>by omega
 | n+1,y,a,f,b=>by
  have g:=Tv a
  rw [Zbg.eq_2,if_pos (dT (by omega)),Zo5 (Xd _),Xb,oB,Zla]
  by_cases he:y % 2=0
  ·rw [if_pos (dT he),Zo7 (Xd _) (by omega) (by omega),oB,Xb]
   have i:=Zmm y
   have j:=Zmo a
   obtain ⟨yo,k,c,d,e⟩:=Z0i kk hx n (y / 2) (by omega) (by omega) (aU (Wu (cS _ _)) b)
   refine ⟨yo,k+1,?_,d,e⟩
   rw [bA,bY (2 ^ k),cC,← c];omega
  ·rw [if_neg (dF he),Zsr (Xd _) (Xd _) (by omega) (by omega) (by omega) (by omega),oB,Xb,Xb]
   refine ⟨y,0,by simp,by omega,?_⟩
   by_cases hxy:y<x
   ·rw [if_pos (by rw [if_neg (by omega),if_pos hxy];decide),Zim,Zl6 (Xd _) (Xd _) (by omega) (by omega) (by omega) (by omega),oB,Xb,Xb,if_neg (by omega),dZ (by omega),gM (by omega)]
   ·rw [if_neg (by split <;> (try split) <;> simp_all <;> omega),Zim,Zl6 (Xd _) (Xd _) (by omega) (by omega) (by omega) (by omega),oB,Xb,Xb,if_neg (by omega),bD (by omega),gE (by omega)]
theorem Z0h (kk:List Int→List Int→Option R2) {y:Nat}:∀ (n x:Nat),x≠0→Xg x<n→(Ze x).length≤M→
  ∃ xo k,x=2 ^ k * xo∧xo % 2=1∧Zfp N (Ze y) kk n (Ze x)=Zbg N kk (Ze xo) N (Ze y)
 | 0,x,_,h,_=>by omega
 | n+1,x,a,f,b=>by
  rw [Zfp.eq_2,Zo5 (Xd _),Xb,oB]
  by_cases he:x % 2=0
  ·rw [if_pos (dT he),Zo7 (Xd _) (by omega) (by omega),oB,Xb]
   have g:=Zmm x
   have i:=Zmo a
   obtain ⟨xo,k,c,d,e⟩:=Z0h kk n (x / 2) (by omega) (by omega) (aU (Wu (cS _ _)) b)
   refine ⟨xo,k+1,?_,d,e⟩
   rw [bA,bY (2 ^ k),cC,← c];omega
  ·rw [if_neg (dF he)]
   exact ⟨x,0,by simp,by omega,rfl⟩
theorem Z0k (t:Nat) {n x y:Nat} (hx:x≠0) (hy:y≠0) (h:x % 2=1∨y % 2=1) (lx:(Ze x).length≤M) (ly:(Ze y).length≤M):
  ∃ x' y',Uu N (t:Int) (n+1) (Ze x) (Ze y)=Uu N (t:Int) n (Ze x') (Ze y')∧x' % 2=1∧y' % 2=0∧dA x' y'=dA x y∧(Ze x').length≤M∧(Ze y').length≤M∧(Xg x'+Xg y'≤Xg x+Xg y)∧(y % 2=0→Xg x'+Xg y'+1≤Xg x+Xg y):=by
 have w:=Tv hy
 have A:=Zjv lx
 have s:=Zjv ly
 obtain ⟨a,k,g,j,m⟩:=Z0h hN hM (Uu N (t:Int) n) (y:=y) N x hx (by omega) lx
 have f:=Zxa g
 obtain ⟨yo,l,d,o,p⟩:=Z0i hN hM (Uu N (t:Int) n) (x:=a) (aU (Wu f) lx) N y hy (by omega) ly
 have i:=Zxa d
 rw [Uu.eq_2,if_pos (dT (by omega)),m,p]
 have B:max a yo≤max x y:=by omega
 have lM:(Ze (max x y)).length≤M:=by
  rcases jJ x y with h | h
  ·rw [gE h];exact ly
  ·rw [gM h];exact lx
 have u:Xg (min a yo)+Xg (max a yo - min a yo)≤Xg a+Xg yo:=by
  rcases jJ a yo with h | h
  ·rw [bD h,gE h]
   have:=Zjw (iT yo a);omega
  ·rw [dZ h,gM h]
   have:=Zjw (iT a yo);omega
 have C:=Zjw f
 have D:=Zjw i
 refine ⟨_,_,rfl,by omega,by omega,?_,aU (Wu (by omega)) lM,aU (Wu (by omega)) lM,by omega,fun v=>?_⟩
 ·have q:dA (min a yo) (max a yo - min a yo)=dA a yo:=by
   rcases jJ a yo with h | h
   ·rw [bD h,gE h,jK h]
   ·rw [dZ h,gM h,jK h,fJ]
  rw [q,g,d]
  rcases h with h | h
  ·have c:k=0:=by
    rcases fV k with c | c
    ·exact c
    ·obtain ⟨b,rfl⟩:∃ b,k=b+1:=⟨k - 1,by omega⟩
     rw [g,bA,bY (2 ^ b),cC] at h;omega
   subst c
   rw [dV,aX,Z7n j]
  ·have e:l=0:=by
    rcases fV l with c | c
    ·exact c
    ·obtain ⟨b,rfl⟩:∃ b,l=b+1:=⟨l - 1,by omega⟩
     rw [d,bA,bY (2 ^ b),cC] at h;omega
   subst e
   rw [dV,aX,Zwr o]
 ·have:yo≤y / 2:=by
   rcases fV l with e | e
   ·subst e;rw [dV,aX] at d;omega
   ·obtain ⟨b,rfl⟩:∃ b,l=b+1:=⟨l - 1,by omega⟩
    rw [d,bA,bY (2 ^ b),cC,gB _ (by decide)]
    have:=bC yo (cG b)
    omega
  have r:=Zjw this
  rw [Zmm] at r
  have E:=Zmo hy
  omega
theorem Z0g (t:Nat) (ht:t≤32 * M):∀ (n x y:Nat),x % 2=1→y % 2=0→Xg x+Xg y<n→(Ze x).length≤M→(Ze y).length≤M→
  ∃ g,Uu N (t:Int) n (Ze x) (Ze y)=some g∧Zn g∧Zc g=2 ^ t * dA x y∧g.length≤33 * M
 | 0,x,y,_,_,h,_,_=>by omega
 | n+1,x,y,e,f,v,i,j=>by
  by_cases h0:y=0
  ·subst h0
   rw [Uu.eq_2,Vi,if_neg (by decide)]
   obtain ⟨g,b,c,a,d⟩:=Z0j hN hM t N 0 (Ze x) (by omega) (by omega) ht (Xd _) (by omega)
   rw [Xb,Nat.sub_zero] at a
   exact ⟨g,b,c,by rw [a,kF],by omega⟩
  ·obtain ⟨k,l,m,o,p,q,r,s,_,u⟩:=Z0k hN hM t (n:=n) (by omega) h0 (.inl e) i j
   have:=u f
   obtain ⟨g,b,c,a,d⟩:=Z0g t ht n k l o p (by omega) r s
   exact ⟨g,by rw [m,b],c,by rw [a,q],d⟩
theorem Z0f:∀ (n x y t:Nat),x≠0→y≠0→Xg x<n→t+Xg x≤32 * M→(Ze x).length≤M→(Ze y).length≤M→
  ∃ g,Zch N n (Ze x) (Ze y) (t:Int)=some g∧Zn g∧Zc g=2 ^ t * dA x y∧g.length≤33 * M
 | 0,x,y,t,_,_,h,_,_,_=>by omega
 | n+1,x,y,t,k,l,B,C,d,e=>by
  have D:=Zjv d
  have w:=Zjv e
  have a:(x % 2=1∨y % 2=1)→∃ g,Uu N (t:Int) N (Ze x) (Ze y)=some g∧Zn g∧Zc g=2 ^ t * dA x y∧g.length≤33 * M:=fun h=>by
   obtain ⟨b,A⟩:∃ b,N=b+1:=⟨N - 1,by omega⟩
   obtain ⟨m,o,p,q,r,s,u,v,E,_⟩:=Z0k hN hM t (n:=b) k l h d e
   obtain ⟨g,c,f,i,j⟩:=Z0g hN hM t (by omega) b m o q r (by omega) u v
   refine ⟨g,?_,f,by rw [i,s],j⟩
   rw [← c,← p]
   congr 1
  rw [Zch.eq_2,Zo5 (Xd _),Xb,oB]
  by_cases hxe:x % 2=0
  ·rw [if_pos (dT hxe),Zo5 (Xd _),Xb,oB,Zil]
   by_cases hye:y % 2=0
   ·rw [if_pos (dT hye),Zo7 (Xd _) (by omega) (by omega),oB,Zo7 (Xd _) (by omega) (by omega),oB,Xb,Xb,Zw (by omega)]
    have F:=Zmm x
    have G:=Zmo k
    obtain ⟨g,c,f,i,j⟩:=Z0f n (x / 2) (y / 2) (t+1) (by omega) (by omega) (by omega) (by omega) (aU (Wu (cS _ _)) d) (aU (Wu (cS _ _)) e)
    rw [show ((t+1:Nat):Int)=(t:Int)+1 by omega] at c
    refine ⟨g,c,f,?_,j⟩
    rw [i,bA,cC,← Nat.gcd_mul_left]
    congr 2 <;> omega
   ·rw [if_neg (dF hye)]
    exact a (.inr (by omega))
  ·rw [if_neg (dF hxe),Zil,if_neg (by decide)]
   exact a (.inl (by omega))
end
theorem Xab {N M:Nat} {a b:List Int} (ha:Zn a) (hb:Zn b) (hla:a.length≤M) (hlb:b.length≤M) (hN:100 * M+64<N) (hM:M<1066000000100):∃ g,Zk9 N a b=some g∧Zn g∧Zc g=dA (Zc a) (Zc b)∧g.length≤33 * M:=by
 have i:=Ys ha
 have j:=Ys hb
 rw [Zk9,Tk ha (by omega) (by omega),oB,Tk hb (by omega) (by omega),oB]
 by_cases h1:Zc a=0
 ·rw [h1,Vi,if_pos (by decide),Nat.gcd_zero_left]
  exact ⟨_,rfl,Xd _,Xb _,by omega⟩
 ·have p1:=Tv h1
  rw [if_neg (dF (by omega))]
  by_cases h2:Zc b=0
  ·rw [h2,Vi,if_pos (by decide),kF]
   exact ⟨_,rfl,Xd _,Xb _,by omega⟩
  ·have p2:=Tv h2
   have k:=Zjv (x:=Zc a) (by omega)
   rw [if_neg (dF (by omega))]
   obtain ⟨g,c,d,e,f⟩:=Z0f hN hM N (Zc a) (Zc b) 0 h1 h2 (by omega) (by omega) (by omega) (by omega)
   exact ⟨g,c,d,by rw [e];simp,f⟩
def Znz:Option R2:=
  some [1]
theorem Z5c {col:Zd} {w0:World} {r:R2} (c1:Nat) (hm:Znz=some r):
    Calls prog 176 #[] w0 (fun e w'=>∃ (col':Zd) (ra1:Option Addr) (rc2:Nat),e= .returned ((.slice ra1 r.length rc2))∧Zf col w0 col' w'∧Zb rU 95 c1 col' w' ra1 rc2 r):=by
 refine Xe 0 (m:=2) func176 rfl rfl rfl rfl rfl ?_;rw [Znz.eq_1] at hm;have aa:=St.start col w0;refine go ?_;refine Vz (col:=(Zj col)) [1] 1 ?_;intro ad ae af ab ac;refine go ?_;cases hm;replace aa:=aa.grow ab;exact ⟨rfl,_,_,1,rfl,aa.fin (cm [(1,c1)]),aa.fo ac⟩
def Zbi (N:Nat) (ab:R1):Option R2:=
  (Ua N ab.2).bind fun aa=>if (decide ((aa.length:Int)=0))=true then ((Znz).bind fun ac=>some ac) else (some aa)
theorem Zgy {N ad ae:Nat} {af ag:Option Addr} {col:Zd} {w0:World} {ab:R1} {r:R2} (c1:Nat) (hm:Zbi N ab=some r) (aq:Sl rU col w0 af ad ab.1.2) (ac:Sl rU col w0 ag ae ab.2):
    Calls prog 124 #[(.agg #[.bool ab.1.1,.slice af ab.1.2.length ad,.slice ag ab.2.length ae])] w0 (fun e w'=>∃ (col':Zd) (ra1:Option Addr) (rc2:Nat),e= .returned ((.slice ra1 r.length rc2))∧Zf col w0 col' w'∧Zb rU 95 c1 col' w' ra1 rc2 r):=by
 refine Xe 2 (m:=12) func124 rfl rfl rfl rfl rfl ?_;rw [Zbi.eq_1] at hm;have aa:=St.start col w0;refine go ?_;refine Xi (col:=(Zj col)) 1 rfl ?_;intro ar au av ah ai;refine go ?_;refine Xl ai ?_;obtain ⟨aw,aj,hm⟩:=bZ hm;replace aa:=aa.grow ah;refine Zi (Tf 2 aj (ac.k0.ks aa)) ?_;rintro _ ax ⟨ak,ay,az,rfl,al,am⟩;refine ⟨_,rfl,go ?_⟩;replace aa:=aa.grow al;refine Zo hm (fun hb hm=>go ?_) fun hb hm=>go ?_
 ·obtain ⟨a0,an,hm⟩:=bZ hm;refine lc rfl rfl (Zea call176) (Z5c (col:=ak) 3 an:) ?_;rintro _ a1 ⟨a2,a3,a4,rfl,ao,ap⟩;refine ⟨_,rfl,go ?_⟩;cases hm;replace aa:=aa.grow ao;exact ⟨rfl,_,_,_,rfl,aa.fin (cm [(3,c1)]),aa.fo ap⟩
 cases hm;exact ⟨rfl,_,_,_,rfl,aa.fin (cm [(2,c1)]),aa.fo am⟩
def Zbj (aa:List Int):Option R5:=
  some (false,aa)
theorem Zm1 {ac:Nat} {a0:Option Addr} {col:Zd} {w0:World} {ab:R2} {r:R5} (hm:Zbj ab=some r) (h0:Sl rU col w0 a0 ac ab):
    Calls prog 123 #[.slice a0 ab.length ac] w0 (fun e w'=>∃ (col':Zd) (ra1:Option Addr) (rc2:Nat),e= .returned ((.agg #[.bool r.1,.slice ra1 r.2.length rc2]))∧Zf col w0 col' w'∧Sl rU col' w' ra1 rc2 r.2):=by
 refine Y5 (m:=5) func123 rfl rfl rfl ?_;rw [Zbj.eq_1] at hm;have aa:=St.start col w0;refine go ?_;refine Xk (col:=(Zj col)) #[.bool false,(nI)] 1 zeroValue37 ?_;intro ai aj ak ad ae;refine go ?_;refine lV (.agg #[.bool false,.slice a0 ab.length ac]) (Wq (l:=[_,_]) (qs:=[(0,1),(1,1)]) underlying37 zeroValue37 ⟨rfl,sizeOf4,rfl,sizeOf35,trivial⟩ rfl)<|Zy ae ?_;intro al af ag ah;refine go ?_;cases hm;replace aa:=(aa.grow ad).kp af ag;exact ⟨rfl,_,ra ah.atN,_,_,_,rfl,aa.fin (cm []),aa.fs (h0.k0.ks aa)⟩
def Zit (aa:Bool) (ab:List Int):Option R5:=
  some (aa,ab)
def Qm (N:Nat) (ab:Bool) (ac:List Int):Option R5:=
  (Ua N ac).bind fun aa=>if ab=true then (Zit (decide (0<(aa.length:Int))) aa) else (Zit false aa)
theorem Zcx {N ao:Nat} {a1:Option Addr} {col:Zd} {w0:World} {ap:Bool} {ah:R2} {r:R5} (c1:Nat) (hm:Qm N ap ah=some r) (h1:Sl rU col w0 a1 ao ah):
    Calls prog 174 #[.bool ap,.slice a1 ah.length ao] w0 (fun e w'=>∃ (col':Zd) (ra1:Option Addr) (rc2:Nat),e= .returned ((.agg #[.bool r.1,.slice ra1 r.2.length rc2]))∧Zf col w0 col' w'∧Zb rU 95 c1 col' w' ra1 rc2 r.2):=by
 refine Y5 (m:=16) func174 rfl rfl rfl ?_;rw [Qm.eq_1] at hm;have aa:=St.start col w0;refine go ?_;refine Xk (col:=(Zj col)) #[.bool false,(nI)] 1 zeroValue37 ?_;intro ax a4 a5 ay ac;refine go ?_;obtain ⟨ad,az,hm⟩:=bZ hm;replace aa:=aa.grow ay;refine Zi (Tf 2 az (h1.k0.ks aa)) ?_;rintro _ a6 ⟨a7,aq,ar,rfl,au,ab⟩;refine ⟨_,rfl,?_⟩;refine Znf rfl<|Zk<|Zz ?_;replace ac:=ac.gr au;replace aa:=aa.grow au;refine Wp.cutK [4,1000000] (fun f ae=>∃ af ai aj ak ag,Zit ai ag=some r∧St w0 (Zj col) af ae∧Zb rU 95 3 af ae aj ak ag∧Zg 37 1 af ae ax #[.bool ai,.slice aj ag.length ak]) ?_ ?_
 ·intro f ae hJ;obtain ⟨af,ai,aj,ak,ag,hm,aa,a0,ac⟩:=hJ;rw [Zit.eq_1] at hm;refine Vd ?_;cases hm;exact ⟨rfl,_,ra ac.atN,_,_,_,rfl,aa.fin (cm [(3,c1)]),aa.fo a0⟩
 refine go ?_;refine Yr hm (fun al hm=>go ?_) fun al hm=>go ?_
 ·refine lV (.bool (decide (0<(ad.length:Int)))) (Ye (congrArg Value.bool al) rfl)<|Y2 rfl<|lV (.agg #[.bool (decide (0<(ad.length:Int))),.slice aq ad.length ar]) (Wq (l:=[_,_]) (qs:=[(0,1),(1,1)]) underlying37 zeroValue37 ⟨rfl,sizeOf4,rfl,sizeOf35,trivial⟩ rfl)<|Zy ac ?_;intro a8 av a2 am;refine Zk ?_;replace ab:=ab.kp av;replace ab:=ab.recolSelf 3 (by decide);replace aa:=aa.kp av a2;replace aa:=aa.recol 2 3 (by decide) (by decide);exact ⟨rfl,_,_,_,_,_,hm,aa,ab,am.recol 2 3⟩
 refine lV (.bool false) (Yd (congrArg Value.bool al) rfl)<|Y2 rfl<|lV (.agg #[.bool false,.slice aq ad.length ar]) (Wq (l:=[_,_]) (qs:=[(0,1),(1,1)]) underlying37 zeroValue37 ⟨rfl,sizeOf4,rfl,sizeOf35,trivial⟩ rfl)<|Zy ac ?_;intro a9 aw a3 an;refine Zk ?_;replace ab:=ab.kp aw;replace ab:=ab.recolSelf 3 (by decide);replace aa:=aa.kp aw a3;replace aa:=aa.recol 2 3 (by decide) (by decide);exact ⟨rfl,_,_,_,_,_,hm,aa,ab,an.recol 2 3⟩
def Zdz (N:Nat) (aa:R5) (ab:R5):Option R5:=
  (Zfr N aa.2 ab.2).bind fun ad=>(Qm N (!decide (aa.1=ab.1)) ad).bind fun ac=>some (ac.1,ac.2)
theorem Zmz {N ar au:Nat} {av aw:Option Addr} {col:Zd} {w0:World} {ag ah r:R5} (c1:Nat) (hm:Zdz N ag ah=some r) (al:Sl rU col w0 av ar ag.2) (am:Sl rU col w0 aw au ah.2):
    Calls prog 122 #[(.agg #[.bool ag.1,.slice av ag.2.length ar]),(.agg #[.bool ah.1,.slice aw ah.2.length au])] w0 (fun e w'=>∃ (col':Zd) (ra1:Option Addr) (rc2:Nat),e= .returned ((.agg #[.bool r.1,.slice ra1 r.2.length rc2]))∧Zf col w0 col' w'∧Zb rU 95 c1 col' w' ra1 rc2 r.2):=by
 refine Y5 (m:=16) func122 rfl rfl rfl ?_;rw [Zdz.eq_1] at hm;have aa:=St.start col w0;refine go ?_;refine Xi (col:=(Zj col)) 1 rfl ?_;intro a7 a8 az a0 ai;refine Xi (col:=az) 2 rfl ?_;intro a9 ba a1 ax aj;refine Xk (col:=a1) #[.bool false,(nI)] 3 zeroValue37 ?_;intro bb bc ad an ab;refine go ?_;refine Y8 (col:=ad) [(0,1),(1,0),(2,1),(3,0),(4,1),(5,1),(6,0),(7,1),(8,0),(9,3),(10,3),(11,2)] (by kernel_rfl) (by kernel_rfl)<|xF ⟨_,_,rfl⟩ ?_;replace ai:=(ai.gr ax).gr an;refine xW (fun _ hC=>((ai.atN).nth (q:=0) rfl).gr (hC.bl ad)) ?_;refine xF ⟨_,_,rfl⟩ ?_;replace aj:=aj.gr an;refine xW (fun _ hC=>((aj.atN).nth (q:=0) rfl).gr (hC.bl ad)) ?_;refine xu rfl rfl (fun _=>Zjl _ _ underlying4 rfl rfl) ?_;refine xF ⟨_,_,rfl⟩ ?_;refine xW (fun _ hC=>((ai.atN).nth (q:=1) rfl).gr (hC.bl ad)) ?_;refine xF ⟨_,_,rfl⟩ ?_;refine xW (fun _ hC=>((aj.atN).nth (q:=1) rfl).gr (hC.bl ad)) ?_;refine xe rfl rfl ?_;intro bd hC0;have hC:=hC0.bl ad;obtain ⟨be,a2,hm⟩:=bZ hm;replace aa:=(((aa.grow a0).grow ax).grow an).grow hC;refine Zi (Zup 4 a2 (al.k0.ks aa) (am.k0.ks aa)) ?_;rintro _ bf ⟨af,bg,bh,rfl,ao,ap⟩;refine ⟨_,rfl,?_⟩;refine Zk<|Xj af hC0 ao<|xe rfl rfl ?_;intro a3 hC0;replace ab:=(ab.gr hC).gr ao;have hC:=hC0.bl af;obtain ⟨bi,a4,hm⟩:=bZ hm;refine Zi (Zcx 5 a4 ((ap.gr hC).toSlF (Zh.int .u32))) ?_;rintro _ bj ⟨a5,bk,bm,rfl,ae,ac⟩;refine ⟨_,rfl,?_⟩;replace ac:=ac.thaw (Z1 .u32) ae ((Fz.refl (col:=af)).froz 4);replace ae:=ae.thawR (col:=af);generalize Xc a3.heap.size af a5=ak at *;refine Zk<|Xj ak hC0 ae<|xe rfl rfl ?_;intro bn hC0;replace aa:=((aa.grow ao).grow hC).grow ae;replace ab:=(ab.gr hC).gr ae;have hC:=hC0.bl ak;refine Zy (ab.gr hC) ?_;intro bo ay a6 aq;refine Zk<|xk ak<|Yz ?_;replace ac:=(ac.gr hC).kp ay;replace aa:=(aa.grow hC).kp ay a6;intro bp hC;replace hC:=hC.bl ak;refine Vd ?_;cases hm;replace aa:=aa.grow hC;exact ⟨rfl,_,ra (aq.gr hC).atN,_,_,_,rfl,aa.fin (cm [(5,c1)]),aa.fo (ac.gr hC)⟩
def Zis (N:Nat) (aa:R5) (ab:R5):Option R5:=
  if (decide (aa.1=ab.1))=true then ((Zih N aa.2 ab.2).bind fun ag=>(Qm N aa.1 ag).bind fun ac=>some (ac.1,ac.2)) else ((Zdw N aa.2 ab.2).bind fun ad=>if ad.2=true then ((Qm N aa.1 ad.1).bind fun ae=>some (ae.1,ae.2)) else ((Zdw N ab.2 aa.2).bind fun ah=>(Qm N ab.1 ah.1).bind fun af=>some (af.1,af.2)))
theorem Zus {N a3 a4:Nat} {a5 a6:Option Addr} {col:Zd} {w0:World} {ao ap r:R5} (c1:Nat) (hm:Zis N ao ap=some r) (ag:Sl rU col w0 a5 a3 ao.2) (ah:Sl rU col w0 a6 a4 ap.2):
    Calls prog 126 #[(.agg #[.bool ao.1,.slice a5 ao.2.length a3]),(.agg #[.bool ap.1,.slice a6 ap.2.length a4])] w0 (fun e w'=>∃ (col':Zd) (ra1:Option Addr) (rc2:Nat),e= .returned ((.agg #[.bool r.1,.slice ra1 r.2.length rc2]))∧Zf col w0 col' w'∧Zb rU 95 c1 col' w' ra1 rc2 r.2):=by
 refine Y5 (m:=45) func126 rfl rfl rfl ?_;rw [Zis.eq_1] at hm;have aa:=St.start col w0;refine go ?_;refine Xi (col:=(Zj col)) 1 rfl ?_;intro b3 b4 bf bg ad;refine Xi (col:=bf) 2 rfl ?_;intro b5 b6 bh a7 ac;refine Xk (col:=bh) #[.bool false,(nI)] 3 zeroValue37 ?_;intro b7 b8 ai aw ab;refine go ?_;refine Yx ⟨_,_,rfl⟩ ?_;replace ad:=(ad.gr a7).gr aw;refine lW ((ad.atN).nth (q:=0) rfl)<|Yx ⟨_,_,rfl⟩ ?_;replace ac:=ac.gr aw;refine lW ((ac.atN).nth (q:=0) rfl)<|go ?_;replace ag:=ag.k0;replace ah:=ah.k0;replace aa:=((aa.grow bg).grow a7).grow aw;refine Zo hm (fun hb hm=>?_) fun hb hm=>go ?_
 ·refine Zz<|Y8 (col:=ai) [(0,1),(1,0),(2,1),(3,0),(4,1),(5,0),(6,3),(7,3),(8,2)] (by kernel_rfl) (by kernel_rfl)<|xF ⟨_,_,rfl⟩ ?_;refine xW (fun _ hC=>((ad.atN).nth (q:=0) rfl).gr (hC.bl ai)) ?_;refine xF ⟨_,_,rfl⟩ ?_;refine xW (fun _ hC=>((ad.atN).nth (q:=1) rfl).gr (hC.bl ai)) ?_;refine xF ⟨_,_,rfl⟩ ?_;refine xW (fun _ hC=>((ac.atN).nth (q:=1) rfl).gr (hC.bl ai)) ?_;refine xe rfl rfl ?_;intro b9 hC0;have hC:=hC0.bl ai;obtain ⟨ca,bi,hm⟩:=bZ hm;replace aa:=aa.grow hC;refine Zi (Zun 4 bi (ag.ks aa) (ah.ks aa)) ?_;rintro _ cb ⟨aj,cc,cd,rfl,ax,ay⟩;refine ⟨_,rfl,?_⟩;refine Zk<|Xj aj hC0 ax<|xe rfl rfl ?_;intro bj hC0;replace ab:=(ab.gr hC).gr ax;have hC:=hC0.bl aj;obtain ⟨ce,bk,hm⟩:=bZ hm;refine Zi (Zcx 5 bk ((ay.gr hC).toSlF (Zh.int .u32))) ?_;rintro _ cf ⟨bm,cg,ch,rfl,af,ae⟩;refine ⟨_,rfl,?_⟩;replace ae:=ae.thaw (Z1 .u32) af ((Fz.refl (col:=aj)).froz 4);replace af:=af.thawR (col:=aj);generalize Xc bj.heap.size aj bm=aq at *;refine Zk<|Xj aq hC0 af<|xe rfl rfl ?_;intro ci hC0;replace aa:=((aa.grow ax).grow hC).grow af;replace ab:=(ab.gr hC).gr af;have hC:=hC0.bl aq;replace ab:=ab.gr hC;refine Zy ab ?_;intro cj a8 bn az;refine Zk<|xk aq<|Yz ?_;replace ae:=(ae.gr hC).kp a8;replace aa:=(aa.grow hC).kp a8 bn;intro ck hC;replace hC:=hC.bl aq;refine Vd ?_;cases hm;replace aa:=aa.grow hC;exact ⟨rfl,_,ra (az.gr hC).atN,_,_,_,rfl,aa.fin (cm [(5,c1)]),aa.fo (ae.gr hC)⟩
 refine Xl ad<|Xl ac ?_;obtain ⟨ar,bo,hm⟩:=bZ hm;refine Zi (Zmw 6 bo (ag.ks aa) (ah.ks aa)) ?_;rintro _ bp ⟨a0,a9,ba,rfl,au,bq⟩;refine ⟨_,rfl,?_⟩;refine lM (.tuple #[.slice a9 ar.1.length ba,.bool ar.2])<|lV (.slice a9 ar.1.length ba) (Xo rfl rfl)<|lV (.bool ar.2) (Xo rfl rfl)<|go ?_;replace ad:=ad.gr au;replace ac:=ac.gr au;replace ab:=ab.gr au;replace aa:=aa.grow au;refine Zo hm (fun hb hm=>go ?_) fun hb hm=>go ?_
 ·refine Xl ad<|Y2 rfl ?_;obtain ⟨cl,br,hm⟩:=bZ hm;refine Zi (Zcx 7 br (bq.toSlF (Zh.int .u32))) ?_;rintro _ cn ⟨bs,co,cp,rfl,ak,al⟩;refine ⟨_,rfl,?_⟩;replace al:=al.thaw (Z1 .u32) ak ((Fz.refl (col:=a0)).froz 6);replace ak:=ak.thawR (col:=a0);generalize Xc bp.heap.size a0 bs=cq at *;replace ab:=ab.gr ak;refine Zy ab ?_;intro cr bb bt bu;refine go ?_;cases hm;replace aa:=(aa.grow ak).kp bb bt;exact ⟨rfl,_,ra bu.atN,_,_,_,rfl,aa.fin (cm [(7,c1)]),aa.fo (al.kp bb)⟩
 refine Xl ac<|Xl ad ?_;obtain ⟨av,bv,hm⟩:=bZ hm;refine Zi (Zmw 8 bv (ah.ks aa) (ag.ks aa)) ?_;rintro _ bw ⟨a1,bc,bd,rfl,a2,bx⟩;refine ⟨_,rfl,?_⟩;refine lM (.tuple #[.slice bc av.1.length bd,.bool av.2])<|lV (.slice bc av.1.length bd) (Xo rfl rfl)<|lV (.bool av.2) (Xo rfl rfl)<|go ?_;refine Yx ⟨_,_,rfl⟩ ?_;refine lW (((ac.gr a2).atN).nth (q:=0) rfl)<|Y2 rfl ?_;obtain ⟨cs,bz,hm⟩:=bZ hm;refine Zi (Zcx 9 bz (bx.toSlF (Zh.int .u32))) ?_;rintro _ ct ⟨b0,cu,cv,rfl,am,an⟩;refine ⟨_,rfl,?_⟩;replace an:=an.thaw (Z1 .u32) am ((Fz.refl (col:=a1)).froz 8);replace am:=am.thawR (col:=a1);generalize Xc bw.heap.size a1 b0=cw at *;refine Zy ((ab.gr a2).gr am) ?_;intro cx be b1 b2;refine go ?_;cases hm;replace aa:=((aa.grow a2).grow am).kp be b1;exact ⟨rfl,_,ra b2.atN,_,_,_,rfl,aa.fin (cm [(9,c1)]),aa.fo (an.kp be)⟩
def Ziu (N:Nat) (aa:R5):Option R5:=
  (Qm N aa.1 aa.2).bind fun ab=>some (ab.1,ab.2)
theorem Zut {N ag:Nat} {ah:Option Addr} {col:Zd} {w0:World} {ab r:R5} (c1:Nat) (hm:Ziu N ab=some r) (ad:Sl rU col w0 ah ag ab.2):
    Calls prog 179 #[(.agg #[.bool ab.1,.slice ah ab.2.length ag])] w0 (fun e w'=>∃ (col':Zd) (ra1:Option Addr) (rc2:Nat),e= .returned ((.agg #[.bool r.1,.slice ra1 r.2.length rc2]))∧Zf col w0 col' w'∧Zb rU 95 c1 col' w' ra1 rc2 r.2):=by
 refine Y5 (m:=8) func179 rfl rfl rfl ?_;rw [Ziu.eq_1] at hm;have aa:=St.start col w0;refine go ?_;refine Xi (col:=(Zj col)) 1 rfl ?_;intro aq ar al am ac;refine Xk (col:=al) #[.bool false,(nI)] 2 zeroValue37 ?_;intro au av aw ai ae;refine go ?_;refine Yx ⟨_,_,rfl⟩ ?_;replace ac:=ac.gr ai;refine lW ((ac.atN).nth (q:=0) rfl)<|Xl ac ?_;obtain ⟨ax,an,hm⟩:=bZ hm;replace aa:=(aa.grow am).grow ai;refine Zi (Zcx 3 an (ad.k0.ks aa)) ?_;rintro _ ay ⟨az,a0,a1,rfl,aj,af⟩;refine ⟨_,rfl,?_⟩;refine Zy (ae.gr aj) ?_;intro a2 ak ao ap;refine go ?_;cases hm;replace aa:=(aa.grow aj).kp ak ao;exact ⟨rfl,_,ra ap.atN,_,_,_,rfl,aa.fin (cm [(3,c1)]),aa.fo (af.kp ak)⟩
def Zix (N:Nat) (aa:R5) (ab:List Int):Option R1:=
  (Zk9 N aa.2 ab).bind fun ac=>(Zij N aa.2 ac).bind fun ae=>(Zij N ab ac).bind fun af=>(Ziu N (aa.1,ae.1)).bind fun ad=>(Ua N af.1).bind fun ag=>some ((ad.1,ad.2),ag)
theorem Zux {N a2 a3:Nat} {a4 a1:Option Addr} {col:Zd} {w0:World} {ai:R5} {ap:R2} {r:R1} (c1 c2:Nat) (hm:Zix N ai ap=some r) (an:Sl rU col w0 a4 a2 ai.2) (h1:Sl rU col w0 a1 a3 ap):
    Calls prog 125 #[(.agg #[.bool ai.1,.slice a4 ai.2.length a2]),.slice a1 ap.length a3] w0 (fun e w'=>∃ (col':Zd) (ra1:Option Addr) (rc2:Nat) (ra4:Option Addr) (rc5:Nat),e= .returned ((.agg #[.bool r.1.1,.slice ra1 r.1.2.length rc2,.slice ra4 r.2.length rc5]))∧Zf col w0 col' w'∧Zb rU 95 c1 col' w' ra1 rc2 r.1.2∧Zb rU 95 c2 col' w' ra4 rc5 r.2):=by
 refine Y5 (m:=39) func125 rfl rfl rfl ?_;rw [Zix.eq_1] at hm;have aa:=St.start col w0;refine go ?_;refine Xi (col:=(Zj col)) 1 rfl ?_;intro b1 b2 bd be ab;refine Xk (col:=bd) #[.bool false,(nI),(nI)] 2 zeroValue39 ?_;intro b3 b4 b5 a5 aq;refine go ?_;refine Yx ⟨_,_,rfl⟩ ?_;replace ab:=ab.gr a5;refine lW ((ab.atN).nth (q:=1) rfl)<|Y2 rfl ?_;obtain ⟨b6,bf,hm⟩:=bZ hm;replace an:=an.k0;replace h1:=h1.k0;replace aa:=(aa.grow be).grow a5;refine Zi (Z44 3 bf (an.ks aa) (h1.ks aa)) ?_;rintro _ bg ⟨ar,b7,b8,rfl,au,ao⟩;refine ⟨_,rfl,go ?_⟩;refine Yx ⟨_,_,rfl⟩ ?_;replace ab:=ab.gr au;refine lW ((ab.atN).nth (q:=1) rfl)<|Y2 rfl ?_;obtain ⟨ac,bh,hm⟩:=bZ hm;replace aa:=aa.grow au;refine Zi (Zuo 4 5 bh ((an.ks aa).froz 3) (ao.toSlF (Zh.int .u32))) ?_;rintro _ bi ⟨bj,av,aw,a6,a7,rfl,ad,aj,b9⟩;refine ⟨_,rfl,?_⟩;replace aj:=aj.thaw (Z1 .u32) ad ((Fz.refl (col:=ar)).froz 3);replace ad:=ad.thawR (col:=ar);generalize Xc bg.heap.size ar bj=ax at *;refine lM (.tuple #[.slice av ac.1.length aw,.slice a6 ac.2.1.length a7,.int .i64 ac.2.2])<|lV (.slice av ac.1.length aw) (Xo rfl rfl)<|lV (.slice a6 ac.2.1.length a7) (Xo rfl rfl)<|lV (.int .i64 ac.2.2) (Xo rfl rfl)<|go ?_;obtain ⟨af,bk,hm⟩:=bZ hm;replace aa:=aa.grow ad;refine Zi (Zuo 6 7 bk ((h1.ks aa).froz 3) ((ao.gr ad).toSlF (Zh.int .u32))) ?_;rintro _ bm ⟨bn,a8,a9,ba,bb,rfl,ae,ak,ca⟩;refine ⟨_,rfl,?_⟩;replace ak:=ak.thaw (Z1 .u32) ae ((Fz.refl (col:=ax)).froz 3);replace ae:=ae.thawR (col:=ax);generalize Xc bi.heap.size ax bn=ay at *;refine lM (.tuple #[.slice a8 af.1.length a9,.slice ba af.2.1.length bb,.int .i64 af.2.2])<|lV (.slice a8 af.1.length a9) (Xo rfl rfl)<|lV (.slice ba af.2.1.length bb) (Xo rfl rfl)<|lV (.int .i64 af.2.2) (Xo rfl rfl)<|go ?_;refine Yx ⟨_,_,rfl⟩ ?_;replace ab:=(ab.gr ad).gr ae
 refine lW ((ab.atN).nth (q:=0) rfl)<|Y2 rfl<|lV (.agg #[.bool ai.1,.slice av ac.1.length aw]) (Wq (l:=[_,_]) (qs:=[(0,1),(1,1)]) underlying37 zeroValue37 ⟨rfl,sizeOf4,rfl,sizeOf35,trivial⟩ rfl) ?_;obtain ⟨bc,bo,hm⟩:=bZ hm;refine Zi (Zut 8 bo ((aj.gr ae).toSlF (Zh.int .u32))) ?_;rintro _ bp ⟨bq,br,bs,rfl,ag,al⟩;refine ⟨_,rfl,?_⟩;replace al:=al.thaw (Z1 .u32) ag ((Fz.refl (col:=ay)).froz 4);replace ag:=ag.thawR (col:=ay);generalize Xc bm.heap.size ay bq=az at *;refine Y2 rfl ?_;obtain ⟨bt,bu,hm⟩:=bZ hm;refine Zi (Tf 9 bu ((ak.gr ag).toSlF (Zh.int .u32))) ?_;rintro _ cb ⟨bv,bw,bx,rfl,ah,am⟩;refine ⟨_,rfl,?_⟩;replace am:=am.thaw (Z1 .u32) ah ((Fz.refl (col:=az)).froz 6);replace ah:=ah.thawR (col:=az);generalize Xc bp.heap.size az bv=cc at *;refine lV (.agg #[.bool bc.1,.slice br bc.2.length bs,.slice bw bt.length bx]) (Wq (l:=[_,_]) (qs:=[(0,2),(2,1)]) underlying39 zeroValue39 ⟨rfl,sizeOf37,rfl,sizeOf35,trivial⟩ rfl) ?_;refine Zy (((((aq.gr au).gr ad).gr ae).gr ag).gr ah) ?_;intro cd a0 bz b0;refine go ?_;cases hm;replace aa:=(((aa.grow ae).grow ag).grow ah).kp a0 bz;exact ⟨rfl,_,ra b0.atN,_,_,_,_,_,rfl,aa.fin (cm [(8,c1),(9,c2)]),aa.fo ((al.gr ah).kp a0),aa.fo (am.kp a0)⟩
def Zlf (N:Nat) (aa:R1) (ab:R1):Option R1:=
  (Zbi N ((ab.1.1,ab.1.2),ab.2)).bind fun ai=>(Zbj ai).bind fun ad=>(Zdz N (aa.1.1,aa.1.2) (ad.1,ad.2)).bind fun ae=>(Zbi N ((aa.1.1,aa.1.2),aa.2)).bind fun aj=>(Zbj aj).bind fun af=>(Zdz N (ab.1.1,ab.1.2) (af.1,af.2)).bind fun ag=>(Zis N (ae.1,ae.2) (ag.1,ag.2)).bind fun ah=>(Zbi N ((aa.1.1,aa.1.2),aa.2)).bind fun ak=>(Zbi N ((ab.1.1,ab.1.2),ab.2)).bind fun al=>(Zfr N ak al).bind fun am=>(Zix N (ah.1,ah.2) am).bind fun ac=>some ((ac.1.1,ac.1.2),ac.2)
theorem Z48 {N b3 cd b4 ce:Nat} {b5 cf b6 cg:Option Addr} {col:Zd} {w0:World} {ao ap r:R1} (c1 c2:Nat) (hm:Zlf N ao ap=some r) (bj:Sl rU col w0 b5 b3 ao.1.2) (b7:Sl rU col w0 cf cd ao.2) (bk:Sl rU col w0 b6 b4 ap.1.2) (b8:Sl rU col w0 cg ce ap.2):
    Calls prog 41 #[(.agg #[.bool ao.1.1,.slice b5 ao.1.2.length b3,.slice cf ao.2.length cd]),(.agg #[.bool ap.1.1,.slice b6 ap.1.2.length b4,.slice cg ap.2.length ce])] w0 (fun e w'=>∃ (col':Zd) (ra1:Option Addr) (rc2:Nat) (ra4:Option Addr) (rc5:Nat),e= .returned ((.agg #[.bool r.1.1,.slice ra1 r.1.2.length rc2,.slice ra4 r.2.length rc5]))∧Zf col w0 col' w'∧Zb rU 95 c1 col' w' ra1 rc2 r.1.2∧Zb rU 95 c2 col' w' ra4 rc5 r.2):=by
 refine Y5 (m:=28) func41 rfl rfl rfl ?_;rw [Zlf.eq_1] at hm;have aa:=St.start col w0;refine go ?_;refine Xi (col:=(Zj col)) 1 rfl ?_;intro cw dt cx cy ac;refine Xi (col:=cx) 2 rfl ?_;intro cz du c0 cr ad;refine Xk (col:=c0) #[.bool false,(nI),(nI)] 3 zeroValue39 ?_;intro dv b9 bm ch ab;refine go ?_;have ca:=Zt.clip (fun _=>false) bm b9;refine Zmb (col:=bm) [(0,1),(1,0),(2,0),(3,3),(4,3),(5,3),(6,4),(7,2)] (by kernel_rfl) (by kernel_rfl) ⟨fun h=>absurd h (by decide),fun h=>absurd h (by decide),fun h=>absurd h (by decide),fun h=>absurd h (by decide),fun h=>absurd h (by decide),fun h=>absurd h (by decide),fun _=>⟨_,_,_,rfl,Zaw zeroValue37⟩,fun h=>absurd h (by decide),trivial⟩<|Qz (v:=(.pointer ((some (⟨cw,0,none⟩:Addr)).map (·.add 0)))) rfl rfl (fun _=>Zbo (sz:=2) (off:=0) underlying39 rfl sizeOf37 (by decide) rfl rfl ⟨_,_,rfl⟩) ?_;replace ac:=((ac.gr cr).gr ch).kpp ca;refine Zam (v:=(.agg #[.bool ao.1.1,.slice b5 ao.1.2.length b3])) rfl rfl (fun _ hC=>Y9 isAgg37 sizeOf37 rfl rfl (((ac.atN).part 0 2 _ rfl).gr (hC.bl (Zm b9 bm)))) ?_;replace ad:=(ad.gr ch).kpp ca;refine Zam (v:=(.agg #[.bool ap.1.1,.slice b6 ap.1.2.length b4,.slice cg ap.2.length ce])) rfl rfl (fun _ hC=>Y9 isAgg39 sizeOf39 rfl rfl (ad.atN.gr (hC.bl (Zm b9 bm)))) ?_;refine Uq rfl rfl ?_;intro dw hC0;have hC:=hC0.bl (Zm b9 bm);obtain ⟨dx,c3,hm⟩:=bZ hm;replace bk:=bk.k0;replace b8:=b8.k0;replace aa:=((((aa.grow cy).grow cr).grow ch).kpp ca).grow hC;refine Zi (Zgy 4 c3 (bk.ks aa) (b8.ks aa)) ?_;rintro _ bb ⟨bn,dy,dz,rfl,ax,bo⟩;refine ⟨_,rfl,?_⟩;refine Zk ?_;refine ⟨fun w'=>Zf (Zm bb bn) bb (Zm bb bn) w',fun g=>(Zm bb bn) g=497,Zf.refl _ _,V8,fun _=>⟨fun _ h=>Ur hC0 ax h,fun b hb=>ax.below.block b hb,fun g x1 x2=>T8 ax g x1 (by first | exact x2 | (simp only [Xp,x2];rfl) | (simp only [Xp,Xu,x2];rfl))⟩,?_⟩;have bp:=Zt.clip (fun _=>false) bn bb;refine Uq rfl rfl ?_;intro d0 hC0;replace ab:=(((ab.kpp ca).gr hC).gr ax).kpp bp;replace ac:=((ac.gr hC).gr ax).kpp bp;replace ad:=((ad.gr hC).gr ax).kpp bp;have hC:=hC0.bl (Zm bb bn);replace bo:=(bo.kpp bp).gr hC;replace ac:=ac.gr hC;replace ac:=ac.froz 4
 replace ad:=ad.gr hC;replace ad:=ad.froz 4;replace ab:=ab.gr hC;replace ab:=ab.froz 4;replace aa:=((aa.grow ax).kpp bp).grow hC;replace aa:=aa.froz 4 (by decide) (by decide);obtain ⟨d1,c4,hm⟩:=bZ hm;refine Zi (Zm1 c4 ((bo).toSlF (Zh.int .u32))) ?_;rintro _ bc ⟨bq,d2,d3,rfl,ay,ci⟩;refine ⟨_,rfl,?_⟩;refine Zk ?_;refine ⟨fun w'=>Zf (Zm bc bq) bc (Zm bc bq) w',fun g=>(Zm bc bq) g=497,Zf.refl _ _,V8,fun _=>⟨fun _ h=>Ur hC0 ay h,fun b hb=>ay.below.block b hb,fun g x1 x2=>T8 ay g x1 (by first | exact x2 | (simp only [Xp,x2];rfl) | (simp only [Xp,Xu,x2];rfl))⟩,?_⟩;have br:=Zt.clip (fun _=>false) bq bc;refine Uq rfl rfl ?_;intro d4 hC0;have hC:=hC0.bl (Zm bc bq);obtain ⟨d5,c5,hm⟩:=bZ hm;replace bj:=bj.k0;replace aa:=((aa.grow ay).kpp br).grow hC;refine Zi (Zmz 5 c5 (bj.ks aa) ((ci.kpp br).gr hC)) ?_;rintro _ ag ⟨ah,d6,d7,rfl,az,ai⟩;refine ⟨_,rfl,?_⟩;refine Zk ?_;refine ⟨fun w'=>Zf (Zm ag ah) ag (Zm ag ah) w',fun g=>(Zm ag ah) g=497,Zf.refl _ _,V8,fun _=>⟨fun _ h=>Ur hC0 az h,fun b hb=>az.below.block b hb,fun g x1 x2=>T8 az g x1 (by first | exact x2 | (simp only [Xp,x2];rfl) | (simp only [Xp,Xu,x2];rfl))⟩,?_⟩;have bs:=Zt.clip (fun _=>false) ah ag;refine Zmd rfl rfl (Zaw zeroValue37) ?_;intro am c6;refine Uq rfl rfl ?_;intro c7 ⟨hC0,hZ0⟩;replace ac:=((((ac.gr ay).kpp br).gr hC).gr az).kpp bs;replace ad:=((((ad.gr ay).kpp br).gr hC).gr az).kpp bs;replace ab:=((((ab.gr ay).kpp br).gr hC).gr az).kpp bs;have hC:=hC0.bl (Zm ag ah);replace b7:=b7.k0;obtain ⟨bt,cj⟩:=Zjy (col:=(Zm ag ah)) 6 hZ0 c6;replace cj:Zg 37 6 (Xr am 6 (Zm ag ah)) c7 am #[.bool false,(nI)]:=cj;refine Zy cj ?_;intro an bu c8 al;refine Zk ?_;refine ⟨fun w'=>Zf (Zm an (Xr am 6 (Zm ag ah))) an (Zm an (Xr am 6 (Zm ag ah))) w',fun g=>(Zm an (Xr am 6 (Zm ag ah))) g=497,Zf.refl _ _,V8,fun h=>absurd h (by decide),?_⟩;have bd:=Zt.clip (fun _=>false) (Xr am 6 (Zm ag ah)) an;refine Zme ?_;replace aa:=(((((aa.grow az).kpp bs).grow hC).kpp bt).kp bu c8).kpp bd;replace ai:=((((ai.kpp bs).gr hC).kpp bt).kp bu).kpp bd
 replace ac:=(((ac.gr hC).kpp bt).kp bu).kpp bd;replace ad:=(((ad.gr hC).kpp bt).kp bu).kpp bd;replace ab:=(((ab.gr hC).kpp bt).kp bu).kpp bd;intro a0 hC;replace hC:Zf (Zm an (Xr am 6 (Zm ag ah))) an (Zm an (Xr am 6 (Zm ag ah))) a0:=.of_below hC.below;refine Zz ?_;have be:=Zt.clip (fun _=>false) (Zm an (Xr am 6 (Zm ag ah))) a0;refine Zmb (col:=(Zm an (Xr am 6 (Zm ag ah)))) [(0,1),(1,0),(2,0),(3,3),(4,3),(5,3),(6,4),(7,2)] (by kernel_rfl) (by kernel_rfl) ⟨fun h=>absurd h (by decide),fun h=>absurd h (by decide),fun h=>absurd h (by decide),fun h=>absurd h (by decide),fun h=>absurd h (by decide),fun h=>absurd h (by decide),fun _=>⟨_,_,_,rfl,Zaw zeroValue37⟩,fun h=>absurd h (by decide),trivial⟩<|Qz (v:=(.pointer ((some (⟨cz,0,none⟩:Addr)).map (·.add 0)))) rfl rfl (fun _=>Zbo (sz:=2) (off:=0) underlying39 rfl sizeOf37 (by decide) rfl rfl ⟨_,_,rfl⟩) ?_;replace ad:=(ad.gr hC).kpp be;refine Zam (v:=(.agg #[.bool ap.1.1,.slice b6 ap.1.2.length b4])) rfl rfl (fun _ hC=>Y9 isAgg37 sizeOf37 rfl rfl (((ad.atN).part 0 2 _ rfl).gr (hC.bl (Zm a0 (Zm an (Xr am 6 (Zm ag ah))))))) ?_;replace ac:=(ac.gr hC).kpp be;refine Zam (v:=(.agg #[.bool ao.1.1,.slice b5 ao.1.2.length b3,.slice cf ao.2.length cd])) rfl rfl (fun _ hC=>Y9 isAgg39 sizeOf39 rfl rfl (ac.atN.gr (hC.bl (Zm a0 (Zm an (Xr am 6 (Zm ag ah))))))) ?_;refine Uq rfl rfl ?_;intro c9 hC0;replace al:=((al.kpp bd).gr hC).kpp be;replace ai:=(ai.gr hC).kpp be;replace ab:=(ab.gr hC).kpp be;replace aa:=(aa.grow hC).kpp be;have hC:Zf (Zm a0 (Zm an (Xr am 6 (Zm ag ah)))) a0 (Zm a0 (Zm an (Xr am 6 (Zm ag ah)))) c9:=.of_below hC0.below;obtain ⟨d8,da,hm⟩:=bZ hm;replace aa:=aa.grow hC;refine Zi (Zgy 7 da (bj.ks aa) (b7.ks aa)) ?_;rintro _ bf ⟨bv,d9,ea,rfl,ar,bw⟩;refine ⟨_,rfl,?_⟩;refine Zk ?_;refine ⟨fun w'=>Zf (Zm bf bv) bf (Zm bf bv) w',fun g=>(Zm bf bv) g=497,Zf.refl _ _,V8,fun _=>⟨fun _ h=>Ur hC0 ar h,fun b hb=>ar.below.block b hb,fun g x1 x2=>T8 ar g x1 (by first | exact x2 | (simp only [Xp,x2];rfl) | (simp only [Xp,Xu,x2];rfl))⟩,?_⟩;have a1:=Zt.clip (fun _=>false) bv bf;refine Uq rfl rfl ?_;intro eb hC0;replace ai:=((ai.gr hC).gr ar).kpp a1;replace ac:=((ac.gr hC).gr ar).kpp a1
 replace ad:=((ad.gr hC).gr ar).kpp a1;replace ab:=((ab.gr hC).gr ar).kpp a1;replace al:=((al.gr hC).gr ar).kpp a1;have hC:=hC0.bl (Zm bf bv);replace ai:=ai.gr hC;replace ai:=ai.froz 7;replace bw:=(bw.kpp a1).gr hC;replace ac:=ac.gr hC;replace ac:=ac.froz 7;replace ad:=ad.gr hC;replace ad:=ad.froz 7;replace ab:=ab.gr hC;replace ab:=ab.froz 7;replace al:=al.gr hC;replace al:=al.froz 7;replace aa:=((aa.grow ar).kpp a1).grow hC;replace aa:=aa.froz 7 (by decide) (by decide);obtain ⟨ec,db,hm⟩:=bZ hm;refine Zi (Zm1 db ((bw).toSlF (Zh.int .u32))) ?_;rintro _ bg ⟨bx,ed,ee,rfl,au,ck⟩;refine ⟨_,rfl,?_⟩;refine Zk ?_;refine ⟨fun w'=>Zf (Zm bg bx) bg (Zm bg bx) w',fun g=>(Zm bg bx) g=497,Zf.refl _ _,V8,fun _=>⟨fun _ h=>Ur hC0 au h,fun b hb=>au.below.block b hb,fun g x1 x2=>T8 au g x1 (by first | exact x2 | (simp only [Xp,x2];rfl) | (simp only [Xp,Xu,x2];rfl))⟩,?_⟩;have a2:=Zt.clip (fun _=>false) bx bg;refine Uq rfl rfl ?_;intro ef hC0;have hC:=hC0.bl (Zm bg bx);obtain ⟨eg,dc,hm⟩:=bZ hm;replace aa:=((aa.grow au).kpp a2).grow hC;refine Zi (Zmz 8 dc (bk.ks aa) ((ck.kpp a2).gr hC)) ?_;rintro _ ae ⟨af,eh,ei,rfl,av,a3⟩;refine ⟨_,rfl,?_⟩;refine Zk ?_;refine ⟨fun w'=>Zf (Zm ae af) ae (Zm ae af) w',fun g=>(Zm ae af) g=497,Zf.refl _ _,V8,fun _=>⟨fun _ h=>Ur hC0 av h,fun b hb=>av.below.block b hb,fun g x1 x2=>T8 av g x1 (by first | exact x2 | (simp only [Xp,x2];rfl) | (simp only [Xp,Xu,x2];rfl))⟩,?_⟩;have a4:=Zt.clip (fun _=>false) af ae;refine Zmd rfl rfl (Zaw zeroValue37) ?_;intro aj dd;refine Uq rfl rfl ?_;intro de ⟨hC0,hZ0⟩;replace ai:=((((ai.gr au).kpp a2).gr hC).gr av).kpp a4;replace ac:=((((ac.gr au).kpp a2).gr hC).gr av).kpp a4;replace ad:=((((ad.gr au).kpp a2).gr hC).gr av).kpp a4;replace ab:=((((ab.gr au).kpp a2).gr hC).gr av).kpp a4;replace al:=((((al.gr au).kpp a2).gr hC).gr av).kpp a4;have hC:=hC0.bl (Zm ae af);obtain ⟨a5,cl⟩:=Zjy (col:=(Zm ae af)) 9 hZ0 dd;replace cl:Zg 37 9 (Xr aj 9 (Zm ae af)) de aj #[.bool false,(nI)]:=cl;refine Zy cl ?_;intro ak a6 df cn;refine Zk ?_
 refine ⟨fun w'=>Zf (Zm ak (Xr aj 9 (Zm ae af))) ak (Zm ak (Xr aj 9 (Zm ae af))) w',fun g=>(Zm ak (Xr aj 9 (Zm ae af))) g=497,Zf.refl _ _,V8,fun h=>absurd h (by decide),?_⟩;have aw:=Zt.clip (fun _=>false) (Xr aj 9 (Zm ae af)) ak;refine Zme ?_;replace aa:=(((((aa.grow av).kpp a4).grow hC).kpp a5).kp a6 df).kpp aw;replace a3:=((((a3.kpp a4).gr hC).kpp a5).kp a6).kpp aw;replace ai:=(((ai.gr hC).kpp a5).kp a6).kpp aw;replace ac:=(((ac.gr hC).kpp a5).kp a6).kpp aw;replace ad:=(((ad.gr hC).kpp a5).kp a6).kpp aw;replace ab:=(((ab.gr hC).kpp a5).kp a6).kpp aw;replace al:=(((al.gr hC).kpp a5).kp a6).kpp aw;intro cs hC;replace hC:Zf (Zm ak (Xr aj 9 (Zm ae af))) ak (Zm ak (Xr aj 9 (Zm ae af))) cs:=.of_below hC.below;refine Zz<|Y8 (col:=(Zm ak (Xr aj 9 (Zm ae af)))) [(0,0),(1,0),(3,0),(5,0),(2,3),(4,3),(6,3),(7,3),(8,3),(9,2)] (by kernel_rfl) (by kernel_rfl) ?_;replace al:=al.gr hC;refine xv rfl rfl (fun _ hC=>Z8 isAgg37 sizeOf37 (al.gr (hC.bl (Zm ak (Xr aj 9 (Zm ae af)))))) ?_;replace cn:=(cn.kpp aw).gr hC;refine xv rfl rfl (fun _ hC=>Z8 isAgg37 sizeOf37 (cn.gr (hC.bl (Zm ak (Xr aj 9 (Zm ae af)))))) ?_;replace ac:=ac.gr hC;refine xv rfl rfl (fun _ hC=>Z8 isAgg39 sizeOf39 (ac.gr (hC.bl (Zm ak (Xr aj 9 (Zm ae af)))))) ?_;replace ad:=ad.gr hC;refine xv rfl rfl (fun _ hC=>Z8 isAgg39 sizeOf39 (ad.gr (hC.bl (Zm ak (Xr aj 9 (Zm ae af)))))) ?_;refine xe rfl rfl ?_;intro ct hC0;replace ai:=ai.gr hC;replace a3:=a3.gr hC;replace ab:=ab.gr hC;replace aa:=aa.grow hC;have hC:Zf (Zm ak (Xr aj 9 (Zm ae af))) cs (Zm ak (Xr aj 9 (Zm ae af))) ct:=.of_below hC0.below;obtain ⟨ej,dg,hm⟩:=bZ hm;refine Zi (Zus 10 dg (((ai.gr hC).toSlF (Zh.int .u32)).froz 8) (((a3.gr hC).froz 5).toSlF (Zh.int .u32))) ?_;rintro _ ek ⟨dh,el,em,rfl,bh,aq⟩;refine ⟨_,rfl,?_⟩;replace aq:=aq.thaw (Z1 .u32) bh (((Fz.refl (col:=(Zm ak (Xr aj 9 (Zm ae af))))).froz 5).froz 8) (by decide);replace bh:=bh.thawR (col:=(Zm ak (Xr aj 9 (Zm ae af))));generalize Xc ct.heap.size (Zm ak (Xr aj 9 (Zm ae af))) dh=cu at *;refine Zk<|Xj cu hC0 bh<|xe rfl rfl ?_;intro en hC0
 replace ab:=(ab.gr hC).gr bh;replace aa:=(aa.grow hC).grow bh;have hC:=hC0.bl cu;obtain ⟨eo,di,hm⟩:=bZ hm;replace aa:=aa.grow hC;refine Zi (Zgy 11 di (bj.ks aa) (b7.ks aa)) ?_;rintro _ ep ⟨cv,eq,er,rfl,cb,bz⟩;refine ⟨_,rfl,?_⟩;refine Zk<|Xj cv hC0 cb<|xe rfl rfl ?_;intro es hC0;replace aq:=(aq.gr hC).gr cb;replace ab:=(ab.gr hC).gr cb;have hC:=hC0.bl cv;obtain ⟨et,dj,hm⟩:=bZ hm;replace aa:=(aa.grow cb).grow hC;refine Zi (Zgy 12 dj (bk.ks aa) (b8.ks aa)) ?_;rintro _ eu ⟨b0,ew,ey,rfl,b1,co⟩;refine ⟨_,rfl,?_⟩;refine Zk<|Xj b0 hC0 b1<|xe rfl rfl ?_;intro dl hC0;replace aq:=(aq.gr hC).gr b1;replace bz:=(bz.gr hC).gr b1;replace ab:=(ab.gr hC).gr b1;have hC:=hC0.bl b0;obtain ⟨ez,dm,hm⟩:=bZ hm;refine Zi (Zup 13 dm (((bz.gr hC).toSlF (Zh.int .u32)).froz 12) (((co.gr hC).froz 11).toSlF (Zh.int .u32))) ?_;rintro _ e0 ⟨dn,e1,e2,rfl,a7,b2⟩;refine ⟨_,rfl,?_⟩;replace b2:=b2.thaw (Z1 .u32) a7 (((Fz.refl (col:=b0)).froz 11).froz 12);replace a7:=a7.thawR (col:=b0);generalize Xc dl.heap.size b0 dn=bi at *;refine Zk<|Xj bi hC0 a7<|xe rfl rfl ?_;intro dp hC0;replace aa:=((aa.grow b1).grow hC).grow a7;replace aq:=(aq.gr hC).gr a7;replace ab:=(ab.gr hC).gr a7;have hC:=hC0.bl bi;obtain ⟨e3,dq,hm⟩:=bZ hm;refine Zi (Zux 14 15 dq (((aq.gr hC).toSlF (Zh.int .u32)).froz 13) (((b2.gr hC).froz 10).toSlF (Zh.int .u32))) ?_;rintro _ e4 ⟨dr,e5,e6,e7,e8,rfl,a8,a9,ba⟩;refine ⟨_,rfl,?_⟩;replace a9:=a9.thaw (Z1 .u32) a8 (((Fz.refl (col:=bi)).froz 10).froz 13);replace ba:=ba.thaw (Z1 .u32) a8 (((Fz.refl (col:=bi)).froz 10).froz 13);replace a8:=a8.thawR (col:=bi);generalize Xc dp.heap.size bi dr=cc at *;refine Zk<|Xj cc hC0 a8<|xe rfl rfl ?_;intro e9 hC0;replace ab:=(ab.gr hC).gr a8;replace aa:=(aa.grow hC).grow a8;have hC:=hC0.bl cc;refine Zy (ab.gr hC) ?_
 intro fa cp ds cq;refine Zk<|xk cc<|Yz ?_;replace a9:=(a9.gr hC).kp cp;replace ba:=(ba.gr hC).kp cp;replace aa:=(aa.grow hC).kp cp ds;intro fb hC;replace hC:=hC.bl cc;refine Vd ?_;cases hm;replace aa:=aa.grow hC;exact ⟨rfl,_,ra (cq.gr hC).atN,_,_,_,_,_,rfl,aa.fin (cm [(14,c1),(15,c2)]),aa.fo (a9.gr hC),aa.fo (ba.gr hC)⟩
def Zld (N:Nat) (aa:R5):Option R5:=
  (Qm N (!aa.1) aa.2).bind fun ab=>some (ab.1,ab.2)
theorem Z46 {N ag:Nat} {ah:Option Addr} {col:Zd} {w0:World} {ab r:R5} (c1:Nat) (hm:Zld N ab=some r) (ad:Sl rU col w0 ah ag ab.2):
    Calls prog 173 #[(.agg #[.bool ab.1,.slice ah ab.2.length ag])] w0 (fun e w'=>∃ (col':Zd) (ra1:Option Addr) (rc2:Nat),e= .returned ((.agg #[.bool r.1,.slice ra1 r.2.length rc2]))∧Zf col w0 col' w'∧Zb rU 95 c1 col' w' ra1 rc2 r.2):=by
 refine Y5 (m:=9) func173 rfl rfl rfl ?_;rw [Zld.eq_1] at hm;have aa:=St.start col w0;refine go ?_;refine Xi (col:=(Zj col)) 1 rfl ?_;intro aq ar al am ac;refine Xk (col:=al) #[.bool false,(nI)] 2 zeroValue37 ?_;intro au av aw ai ae;refine go ?_;refine Yx ⟨_,_,rfl⟩ ?_;replace ac:=ac.gr ai;refine lW ((ac.atN).nth (q:=0) rfl)<|go ?_;refine Xl ac ?_;obtain ⟨ax,an,hm⟩:=bZ hm;replace aa:=(aa.grow am).grow ai;refine Zi (Zcx 3 an (ad.k0.ks aa)) ?_;rintro _ ay ⟨az,a0,a1,rfl,aj,af⟩;refine ⟨_,rfl,?_⟩;refine Zy (ae.gr aj) ?_;intro a2 ak ao ap;refine go ?_;cases hm;replace aa:=(aa.grow aj).kp ak ao;exact ⟨rfl,_,ra ap.atN,_,_,_,rfl,aa.fin (cm [(3,c1)]),aa.fo (af.kp ak)⟩
def Zle (N:Nat) (aa:R5) (ab:R5):Option R5:=
  (Zld N (ab.1,ab.2)).bind fun ac=>(Zis N (aa.1,aa.2) (ac.1,ac.2)).bind fun ad=>some (ad.1,ad.2)
theorem Z47 {N ar au:Nat} {av aw:Option Addr} {col:Zd} {w0:World} {af ag r:R5} (c1:Nat) (hm:Zle N af ag=some r) (aj:Sl rU col w0 av ar af.2) (ak:Sl rU col w0 aw au ag.2):
    Calls prog 198 #[(.agg #[.bool af.1,.slice av af.2.length ar]),(.agg #[.bool ag.1,.slice aw ag.2.length au])] w0 (fun e w'=>∃ (col':Zd) (ra1:Option Addr) (rc2:Nat),e= .returned ((.agg #[.bool r.1,.slice ra1 r.2.length rc2]))∧Zf col w0 col' w'∧Zb rU 95 c1 col' w' ra1 rc2 r.2):=by
 refine Y5 (m:=9) func198 rfl rfl rfl ?_;rw [Zle.eq_1] at hm;have aa:=St.start col w0;refine go ?_;refine Xi (col:=(Zj col)) 1 rfl ?_;intro a7 a8 az a0 al;refine Xi (col:=az) 2 rfl ?_;intro a9 ba a1 ax am;refine Xk (col:=a1) #[.bool false,(nI)] 3 zeroValue37 ?_;intro bb bc ah an ab;refine go ?_;refine Y8 (col:=ah) [(0,0),(1,0),(2,3),(3,3),(4,2)] (by kernel_rfl) (by kernel_rfl) ?_;refine xv rfl rfl (fun _ hC=>Z8 isAgg37 sizeOf37 (((al.gr ax).gr an).gr (hC.bl ah))) ?_;refine xv rfl rfl (fun _ hC=>Z8 isAgg37 sizeOf37 ((am.gr an).gr (hC.bl ah))) ?_;refine xe rfl rfl ?_;intro bd hC0;have hC:=hC0.bl ah;obtain ⟨be,a2,hm⟩:=bZ hm;replace aa:=(((aa.grow a0).grow ax).grow an).grow hC;refine Zi (Z46 4 a2 (ak.k0.ks aa)) ?_;rintro _ bf ⟨ae,bg,bh,rfl,ao,ap⟩;refine ⟨_,rfl,?_⟩;refine Zk<|Xj ae hC0 ao<|xe rfl rfl ?_;intro a3 hC0;replace ab:=(ab.gr hC).gr ao;have hC:=hC0.bl ae;obtain ⟨bi,a4,hm⟩:=bZ hm;replace aa:=(aa.grow ao).grow hC;refine Zi (Zus 5 a4 ((aj.k0.ks aa).froz 4) ((ap.gr hC).toSlF (Zh.int .u32))) ?_;rintro _ bj ⟨a5,bk,bm,rfl,ad,ac⟩;refine ⟨_,rfl,?_⟩;replace ac:=ac.thaw (Z1 .u32) ad ((Fz.refl (col:=ae)).froz 4);replace ad:=ad.thawR (col:=ae);generalize Xc a3.heap.size ae a5=ai at *;refine Zk<|Xj ai hC0 ad<|xe rfl rfl ?_;intro bn hC0;replace ab:=(ab.gr hC).gr ad;have hC:=hC0.bl ai;refine Zy (ab.gr hC) ?_;intro bo ay a6 aq;refine Zk<|xk ai<|Yz ?_;replace aa:=((aa.grow ad).grow hC).kp ay a6;replace ac:=(ac.gr hC).kp ay;intro bp hC;replace hC:=hC.bl ai;refine Vd ?_;cases hm;replace aa:=aa.grow hC;exact ⟨rfl,_,ra (aq.gr hC).atN,_,_,_,rfl,aa.fin (cm [(5,c1)]),aa.fo (ac.gr hC)⟩
def Zfv (N:Nat) (aa:R5):Option Int:=
  (Ziu N (aa.1,aa.2)).bind fun ab=>if (decide ((ab.2.length:Int)=0))=true then (some 0) else (if ab.1=true then (some (-1)) else (some 1))
theorem Zqa {N ad:Nat} {ae:Option Addr} {col:Zd} {w0:World} {ab:R5} {r:Int} (hm:Zfv N ab=some r) (ac:Sl rU col w0 ae ad ab.2):
    Calls prog 197 #[(.agg #[.bool ab.1,.slice ae ab.2.length ad])] w0 (fun e w'=>e= .returned ((.int .i64 r))∧Below w0.heap.size w0 w'):=by
 refine Xe 2 (m:=12) func197 rfl rfl rfl rfl rfl ?_;rw [Zfv.eq_1] at hm;have aa:=St.start col w0;refine go ?_;refine Xi (col:=(Zj col)) 1 rfl ?_;intro ap aq ar ag ah;refine go ?_;refine lV _ (Z8 isAgg37 sizeOf37 ah) ?_;obtain ⟨au,ai,hm⟩:=bZ hm;replace aa:=aa.grow ag;refine Zi (Zut 2 ai (ac.k0.ks aa)) ?_;rintro _ av ⟨aj,aw,ax,rfl,ak,ay⟩;refine ⟨_,rfl,?_⟩;refine Xk (col:=aj) #[.bool false,(nI)] 3 zeroValue37 ?_;intro az a0 a1 al am;refine Zy am ?_;intro a2 an ao af;refine go ?_;refine Xl af ?_;refine go ?_;replace aa:=((aa.grow ak).grow al).kp an ao;refine Zo hm (fun hb hm=>go ?_) fun hb hm=>go ?_
 ·cases hm;exact ⟨rfl,rfl,aa.below⟩
 refine Xl af<|Zk ?_;refine Zo hm (fun hb hm=>go ?_) fun hb hm=>go ?_
 ·cases hm;exact ⟨rfl,rfl,aa.below⟩
 cases hm;exact ⟨rfl,rfl,aa.below⟩
def Zlc (N:Nat) (aa:R5) (ab:R5):Option Int:=
  (Zle N (aa.1,aa.2) (ab.1,ab.2)).bind fun ac=>(Zfv N (ac.1,ac.2)).bind fun ad=>some ad
theorem Z45 {N ah ai:Nat} {aj ak:Option Addr} {col:Zd} {w0:World} {ab ac:R5} {r:Int} (hm:Zlc N ab ac=some r) (ad:Sl rU col w0 aj ah ab.2) (ae:Sl rU col w0 ak ai ac.2):
    Calls prog 166 #[(.agg #[.bool ab.1,.slice aj ab.2.length ah]),(.agg #[.bool ac.1,.slice ak ac.2.length ai])] w0 (fun e w'=>e= .returned ((.int .i64 r))∧Below w0.heap.size w0 w'):=by
 refine Xe 4 (m:=9) func166 rfl rfl rfl rfl rfl ?_;rw [Zlc.eq_1] at hm;have aa:=St.start col w0;refine go ?_;refine Xi (col:=(Zj col)) 1 rfl ?_;intro ay az an ao af;refine Xi (col:=an) 2 rfl ?_;intro a0 a1 a2 al ap;refine go ?_;refine lV _ (Z8 isAgg37 sizeOf37 (af.gr al))<|lV _ (Z8 isAgg37 sizeOf37 ap) ?_;obtain ⟨a3,aq,hm⟩:=bZ hm;replace aa:=(aa.grow ao).grow al;refine Zi (Z47 3 aq (ad.k0.ks aa) (ae.k0.ks aa)) ?_;rintro _ ar ⟨am,a4,a5,rfl,au,av⟩;refine ⟨_,rfl,?_⟩;obtain ⟨a6,aw,hm⟩:=bZ hm;refine Zi (Zqa aw (av.toSlF (Zh.int .u32))) ?_;rintro _ ax ⟨rfl,ag⟩;refine ⟨_,rfl,?_⟩;replace ag:Zf am ar am ax:=.of_below ag;refine go ?_;cases hm;exact ⟨rfl,rfl,((aa.grow au).grow ag).below⟩
def Zbh (N:Nat) (aa:R1) (ab:R1):Option Int:=
  (Zbi N ((ab.1.1,ab.1.2),ab.2)).bind fun ag=>(Zbj ag).bind fun ac=>(Zdz N (aa.1.1,aa.1.2) (ac.1,ac.2)).bind fun ad=>(Zbi N ((aa.1.1,aa.1.2),aa.2)).bind fun ah=>(Zbj ah).bind fun ae=>(Zdz N (ab.1.1,ab.1.2) (ae.1,ae.2)).bind fun af=>(Zlc N (ad.1,ad.2) (af.1,af.2)).bind fun ai=>some ai
theorem Zm0 {N am a0 an a1:Nat} {ao a2 ap a3:Option Addr} {col:Zd} {w0:World} {ac ad:R1} {r:Int} (hm:Zbh N ac ad=some r) (ai:Sl rU col w0 ao am ac.1.2) (aq:Sl rU col w0 a2 a0 ac.2) (aj:Sl rU col w0 ap an ad.1.2) (ar:Sl rU col w0 a3 a1 ad.2):
    Calls prog 115 #[(.agg #[.bool ac.1.1,.slice ao ac.1.2.length am,.slice a2 ac.2.length a0]),(.agg #[.bool ad.1.1,.slice ap ad.1.2.length an,.slice a3 ad.2.length a1])] w0 (fun e w'=>e= .returned ((.int .i64 r))∧Below w0.heap.size w0 w'):=by
 refine Xe 4 (m:=18) func115 rfl rfl rfl rfl rfl ?_;rw [Zbh.eq_1] at hm;have aa:=St.start col w0;refine go ?_;refine Xi (col:=(Zj col)) 1 rfl ?_;intro bq br be bf ak;refine Xi (col:=be) 2 rfl ?_;intro bs bt ae a4 a5;refine go ?_;refine Y8 (col:=ae) [(0,1),(1,0),(2,0),(6,1),(7,0),(8,0),(3,3),(4,3),(5,3),(9,3),(10,3),(11,3),(12,3),(13,1)] (by kernel_rfl) (by kernel_rfl)<|xF ⟨_,_,rfl⟩ ?_;replace ak:=ak.gr a4;refine xv (v:=(.agg #[.bool ac.1.1,.slice ao ac.1.2.length am])) rfl rfl (fun _ hC=>Y9 isAgg37 sizeOf37 rfl rfl (((ak.atN).part 0 2 _ rfl).gr (hC.bl ae))) ?_;refine xv rfl rfl (fun _ hC=>Z8 isAgg39 sizeOf39 (a5.gr (hC.bl ae))) ?_;refine xF ⟨_,_,rfl⟩ ?_;refine xv (v:=(.agg #[.bool ad.1.1,.slice ap ad.1.2.length an])) rfl rfl (fun _ hC=>Y9 isAgg37 sizeOf37 rfl rfl (((a5.atN).part 0 2 _ rfl).gr (hC.bl ae))) ?_;refine xv rfl rfl (fun _ hC=>Z8 isAgg39 sizeOf39 (ak.gr (hC.bl ae))) ?_;refine xe rfl rfl ?_;intro bu hC0;have hC:=hC0.bl ae;obtain ⟨bv,bg,hm⟩:=bZ hm;replace aj:=aj.k0;replace aa:=((aa.grow bf).grow a4).grow hC;refine Zi (Zgy 3 bg (aj.ks aa) (ar.k0.ks aa)) ?_;rintro _ bw ⟨a6,bx,bz,rfl,a7,ag⟩;refine ⟨_,rfl,?_⟩;refine Zk<|Xj a6 hC0 a7<|xe rfl rfl ?_;intro b0 hC0;have hC:=hC0.bl a6;replace ag:=ag.gr hC;replace aa:=(aa.grow a7).grow hC;replace aa:=aa.froz 3 (by decide) (by decide);obtain ⟨b1,bh,hm⟩:=bZ hm;refine Zi (Zm1 bh ((ag).toSlF (Zh.int .u32))) ?_;rintro _ b2 ⟨a8,b3,b4,rfl,a9,au⟩;refine ⟨_,rfl,?_⟩;refine Zk<|Xj a8 hC0 a9<|xe rfl rfl ?_;intro b5 hC0;have hC:=hC0.bl a8;obtain ⟨b6,bi,hm⟩:=bZ hm;replace ai:=ai.k0;replace aa:=(aa.grow a9).grow hC;refine Zi (Zmz 4 bi (ai.ks aa) (au.gr hC)) ?_;rintro _ b7 ⟨ba,b8,b9,rfl,bb,ab⟩;refine ⟨_,rfl,?_⟩;refine Zk<|Xj ba hC0 bb<|xe rfl rfl ?_;intro ca hC0;have hC:=hC0.bl ba;obtain ⟨cb,bj,hm⟩:=bZ hm;replace aa:=(aa.grow bb).grow hC;refine Zi (Zgy 5 bj (ai.ks aa) (aq.k0.ks aa)) ?_;rintro _ cc ⟨bc,cd,ce,rfl,av,ah⟩;refine ⟨_,rfl,?_⟩
 refine Zk<|Xj bc hC0 av<|xe rfl rfl ?_;intro cf hC0;replace ab:=(ab.gr hC).gr av;have hC:=hC0.bl bc;replace ab:=ab.gr hC;replace ab:=ab.froz 5;replace ah:=ah.gr hC;replace aa:=(aa.grow av).grow hC;replace aa:=aa.froz 5 (by decide) (by decide);obtain ⟨cg,bk,hm⟩:=bZ hm;refine Zi (Zm1 bk ((ah).toSlF (Zh.int .u32))) ?_;rintro _ ch ⟨bd,ci,cj,rfl,aw,ax⟩;refine ⟨_,rfl,?_⟩;refine Zk<|Xj bd hC0 aw<|xe rfl rfl ?_;intro ck hC0;have hC:=hC0.bl bd;obtain ⟨cl,bm,hm⟩:=bZ hm;replace aa:=(aa.grow aw).grow hC;refine Zi (Zmz 6 bm (aj.ks aa) (ax.gr hC)) ?_;rintro _ cn ⟨af,co,cp,rfl,ay,az⟩;refine ⟨_,rfl,?_⟩;refine Zk<|Xj af hC0 ay<|xe rfl rfl ?_;intro bn hC0;replace ab:=((ab.gr aw).gr hC).gr ay;have hC:=hC0.bl af;obtain ⟨cq,bo,hm⟩:=bZ hm;refine Zi (Z45 bo (((ab.gr hC).toSlF (Zh.int .u32)).froz 6) (((az.gr hC).froz 4).toSlF (Zh.int .u32))) ?_;rintro _ bp ⟨rfl,al⟩;refine ⟨_,rfl,?_⟩;replace al:Zf af bn af bp:=.of_below al;refine Zk<|Xj af hC0 al<|xu rfl rfl (fun _=>Zsi rfl) ?_;refine Yz ?_;replace aa:=((aa.grow ay).grow hC).grow al;intro cr hC;refine Vd ?_;cases hm;exact ⟨rfl,rfl,(aa.grow (hC.bl af)).below⟩
def Ziv (N:Nat) (aa:Int):Option R5:=
  if (decide (0≤aa))=true then ((Zio N (u64.wrap aa)).bind fun ad=>(Qm N false ad).bind fun ab=>some (ab.1,ab.2)) else ((Zio N (u64.wrap (i64.wrap (-(i64.wrap (aa+1)))))).bind fun ae=>(Zih N ae [1]).bind fun af=>(Qm N true af).bind fun ac=>some (ac.1,ac.2))
theorem Zuu {N:Nat} {col:Zd} {w0:World} {an:Int} {r:R5} (c1:Nat) (hm:Ziv N an=some r):
    Calls prog 183 #[.int .i64 an] w0 (fun e w'=>∃ (col':Zd) (ra1:Option Addr) (rc2:Nat),e= .returned ((.agg #[.bool r.1,.slice ra1 r.2.length rc2]))∧Zf col w0 col' w'∧Zb rU 95 c1 col' w' ra1 rc2 r.2):=by
 refine Y5 (m:=17) func183 rfl rfl rfl ?_;rw [Ziv.eq_1] at hm;have aa:=St.start col w0;refine go ?_;refine Xk (col:=(Zj col)) #[.bool false,(nI)] 1 zeroValue37 ?_;intro be bf ao av ab;refine go ?_;replace aa:=aa.grow av;refine Zo hm (fun hb hm=>go ?_) fun hb hm=>go ?_
 ·obtain ⟨bg,aw,hm⟩:=bZ hm;refine Zi (Zuq (col:=ao) 2 aw) ?_;rintro _ ax ⟨ah,bh,bi,rfl,ap,ay⟩;refine ⟨_,rfl,?_⟩;obtain ⟨bj,az,hm⟩:=bZ hm;refine Zi (Zcx 3 az (ay.toSlF (Zh.int .u32))) ?_;rintro _ bk ⟨a0,bm,bn,rfl,ac,ad⟩;refine ⟨_,rfl,?_⟩;replace ad:=ad.thaw (Z1 .u32) ac ((Fz.refl (col:=ah)).froz 2);replace ac:=ac.thawR (col:=ah);generalize Xc ax.heap.size ah a0=bo at *;replace ab:=(ab.gr ap).gr ac;refine Zy ab ?_;intro bp aq a1 a2;refine go ?_;cases hm;replace aa:=((aa.grow ap).grow ac).kp aq a1;exact ⟨rfl,_,ra a2.atN,_,_,_,rfl,aa.fin (cm [(3,c1)]),aa.fo (ad.kp aq)⟩
 obtain ⟨bq,a3,hm⟩:=bZ hm;refine Zi (Zuq (col:=ao) 4 a3) ?_;rintro _ br ⟨a4,bs,bt,rfl,ar,ai⟩;refine ⟨_,rfl,?_⟩;refine Vz (col:=a4) [1] 5 ?_;intro bu a5 aj ak a6;obtain ⟨bv,a7,hm⟩:=bZ hm;refine Zi (Zun 6 a7 (((ai.gr ak).toSlF (Zh.int .u32)).froz 5) ((a6.froz 4).toSlF (Zh.int .u32))) ?_;rintro _ a8 ⟨a9,bw,bx,rfl,ae,al⟩;refine ⟨_,rfl,?_⟩;replace al:=al.thaw (Z1 .u32) ae (((Fz.refl (col:=aj)).froz 4).froz 5);replace ae:=ae.thawR (col:=aj);generalize Xc a5.heap.size aj a9=am at *;obtain ⟨bz,ba,hm⟩:=bZ hm;refine Zi (Zcx 7 ba (al.toSlF (Zh.int .u32))) ?_;rintro _ b0 ⟨bb,b1,b2,rfl,af,ag⟩;refine ⟨_,rfl,?_⟩;replace ag:=ag.thaw (Z1 .u32) af ((Fz.refl (col:=am)).froz 6);replace af:=af.thawR (col:=am);generalize Xc a8.heap.size am bb=b3 at *;refine Zy ((((ab.gr ar).gr ak).gr ae).gr af) ?_;intro b4 au bc bd;refine go ?_;cases hm;replace aa:=((((aa.grow ar).grow ak).grow ae).grow af).kp au bc;exact ⟨rfl,_,ra bd.atN,_,_,_,rfl,aa.fin (cm [(7,c1)]),aa.fo (ag.kp au)⟩
def Zny (N:Nat) (ac:R5) (aa:R5):Option (R1×Int):=
  (Zfv N (aa.1,aa.2)).bind fun ad=>if (decide (ad=0))=true then (some (((false,([]:List Int)),([]:List Int)),11)) else ((Zix N (!decide (ac.1=aa.1),ac.2) aa.2).bind fun ab=>some (((ab.1.1,ab.1.2),ab.2),0))
theorem Z49 {N ai ap:Nat} {aj aq:Option Addr} {col:Zd} {w0:World} {ac af:R5} {r:(R1×Int)} (c1 c2:Nat) (hm:Zny N ac af=some r) (ak:Sl rU col w0 aj ai ac.2) (ag:Sl rU col w0 aq ap af.2):
    Calls prog 182 #[(.agg #[.bool ac.1,.slice aj ac.2.length ai]),(.agg #[.bool af.1,.slice aq af.2.length ap])] w0 (fun e w'=>∃ (col':Zd) (ra1:Option Addr) (rc2:Nat) (ra4:Option Addr) (rc5:Nat),e= .returned (.tuple #[(.agg #[.bool r.1.1.1,.slice ra1 r.1.1.2.length rc2,.slice ra4 r.1.2.length rc5]),.int .i64 r.2])∧Zf col w0 col' w'∧Zb rU 95 c1 col' w' ra1 rc2 r.1.1.2∧Zb rU 95 c2 col' w' ra4 rc5 r.1.2):=by
 refine Y5 (m:=21) func182 rfl rfl rfl ?_;rw [Zny.eq_1] at hm;have aa:=St.start col w0;refine go ?_;refine Xi (col:=(Zj col)) 1 rfl ?_;intro a8 a9 aw ax ah;refine Xi (col:=aw) 2 rfl ?_;intro ba bb ay ar ab;refine Xk (col:=ay) #[.bool false,(nI),(nI)] 3 zeroValue39 ?_;intro bc az au al ad;refine go ?_;replace ab:=ab.gr al;refine lV _ (Z8 isAgg37 sizeOf37 ab) ?_;obtain ⟨bd,a0,hm⟩:=bZ hm;replace ag:=ag.k0;replace aa:=((aa.grow ax).grow ar).grow al;refine Zi (Zqa a0 (ag.ks aa)) ?_;rintro _ a1 ⟨rfl,ae⟩;refine ⟨_,rfl,?_⟩;replace ae:Zf au az au a1:=.of_below ae;refine go ?_;replace ah:=((ah.gr ar).gr al).gr ae;replace ab:=ab.gr ae;replace ad:=ad.gr ae;replace aa:=aa.grow ae;refine Zo hm (fun hb hm=>go ?_) fun hb hm=>go ?_
 ·refine lV (.agg #[.bool false,(nI),(nI)]) (Wq (l:=[_,_]) (qs:=[(0,2),(2,1)]) underlying39 zeroValue39 ⟨rfl,sizeOf37,rfl,sizeOf35,trivial⟩ rfl)<|Zy ad ?_;intro be a2 a3 a4;refine go ?_;cases hm;replace aa:=aa.kp a2 a3;exact ⟨rfl,_,V3 a4.atN,_,none,0,none,0,rfl,aa.fin (cm []),Zb.nil,Zb.nil⟩
 refine Xl ah<|Xl ab ?_;refine go ?_;refine Xl ah<|lV (.agg #[.bool (!decide (ac.1=af.1)),.slice aj ac.2.length ai]) (Wq (l:=[_,_]) (qs:=[(0,1),(1,1)]) underlying37 zeroValue37 ⟨rfl,sizeOf4,rfl,sizeOf35,trivial⟩ rfl)<|Xl ab ?_;obtain ⟨bf,a5,hm⟩:=bZ hm;refine Zi (Zux 4 5 a5 (ak.k0.ks aa) (ag.ks aa)) ?_;rintro _ bg ⟨bh,bi,bj,bk,bm,rfl,av,am,an⟩;refine ⟨_,rfl,?_⟩;refine Zy (ad.gr av) ?_;intro bn ao a6 a7;refine go ?_;cases hm;replace aa:=(aa.grow av).kp ao a6;exact ⟨rfl,_,V3 a7.atN,_,_,_,_,_,rfl,aa.fin (cm [(4,c1),(5,c2)]),aa.fo (am.kp ao),aa.fo (an.kp ao)⟩
def Zlg (N:Nat) (ad:Int) (ae:Int):Option (R1×Int):=
  (Ziv N ad).bind fun ab=>(Ziv N ae).bind fun ac=>(Zny N (ab.1,ab.2) (ac.1,ac.2)).bind fun aa=>some (((aa.1.1.1,aa.1.1.2),aa.1.2),aa.2)
theorem Zuv {N:Nat} {col:Zd} {w0:World} {ak al:Int} {r:(R1×Int)} (c1 c2:Nat) (hm:Zlg N ak al=some r):
    Calls prog 129 #[.int .i64 ak,.int .i64 al] w0 (fun e w'=>∃ (col':Zd) (ra1:Option Addr) (rc2:Nat) (ra4:Option Addr) (rc5:Nat),e= .returned (.tuple #[(.agg #[.bool r.1.1.1,.slice ra1 r.1.1.2.length rc2,.slice ra4 r.1.2.length rc5]),.int .i64 r.2])∧Zf col w0 col' w'∧Zb rU 95 c1 col' w' ra1 rc2 r.1.1.2∧Zb rU 95 c2 col' w' ra4 rc5 r.1.2):=by
 refine Y5 (m:=13) func129 rfl rfl rfl ?_;rw [Zlg.eq_1] at hm;have ab:=St.start col w0;refine go ?_;refine Xk (col:=(Zj col)) #[.bool false,(nI),(nI)] 1 zeroValue39 ?_;intro a4 a5 an ao ag;refine go ?_;obtain ⟨a6,ap,hm⟩:=bZ hm;refine Zi (Zuu (col:=an) 2 ap) ?_;rintro _ a7 ⟨aq,a8,a9,rfl,am,ah⟩;refine ⟨_,rfl,?_⟩;refine X4 rfl ?_;obtain ⟨ba,ar,hm⟩:=bZ hm;refine Zi (Zuu (col:=aq) 3 ar) ?_;rintro _ au ⟨ae,bb,bc,rfl,ai,av⟩;refine ⟨_,rfl,?_⟩;obtain ⟨af,aw,hm⟩:=bZ hm;refine Zi (Z49 4 5 aw (((ah.gr ai).toSlF (Zh.int .u32)).froz 3) ((av.froz 2).toSlF (Zh.int .u32))) ?_;rintro _ bd ⟨ax,ay,az,a0,a1,rfl,aa,ac,ad⟩;refine ⟨_,rfl,?_⟩;replace ac:=ac.thaw (Z1 .u32) aa (((Fz.refl (col:=ae)).froz 2).froz 3);replace ad:=ad.thaw (Z1 .u32) aa (((Fz.refl (col:=ae)).froz 2).froz 3);replace aa:=aa.thawR (col:=ae);generalize Xc au.heap.size ae ax=be at *;refine lV (.agg #[.bool af.1.1.1,.slice ay af.1.1.2.length az,.slice a0 af.1.2.length a1]) (Xo rfl rfl)<|lV (.int .i64 af.2) (Xo rfl rfl) ?_;refine Zy (((ag.gr am).gr ai).gr aa) ?_;intro bf aj a2 a3;refine go ?_;cases hm;replace ab:=((((ab.grow ao).grow am).grow ai).grow aa).kp aj a2;exact ⟨rfl,_,V3 a3.atN,_,_,_,_,_,rfl,ab.fin (cm [(4,c1),(5,c2)]),ab.fo (ac.kp aj),ab.fo (ad.kp aj)⟩
def Zd0 (N:Nat) (ab:Int) (ac:Int):Option R1:=
  (Zlg N ab ac).bind fun aa=>some ((aa.1.1.1,aa.1.1.2),aa.1.2)
theorem Zuw {N:Nat} {col:Zd} {w0:World} {ai aj:Int} {r:R1} (c1 c2:Nat) (hm:Zd0 N ai aj=some r):
    Calls prog 131 #[.int .i64 ai,.int .i64 aj] w0 (fun e w'=>∃ (col':Zd) (ra1:Option Addr) (rc2:Nat) (ra4:Option Addr) (rc5:Nat),e= .returned ((.agg #[.bool r.1.1,.slice ra1 r.1.2.length rc2,.slice ra4 r.2.length rc5]))∧Zf col w0 col' w'∧Zb rU 95 c1 col' w' ra1 rc2 r.1.2∧Zb rU 95 c2 col' w' ra4 rc5 r.2):=by
 refine Y5 (m:=14) func131 rfl rfl rfl ?_;rw [Zd0.eq_1] at hm;have ab:=St.start col w0;refine go ?_;refine Xk (col:=(Zj col)) #[.bool false,(nI),(nI)] 1 zeroValue39 ?_;intro a0 a1 ap aq ae;refine go ?_;obtain ⟨aa,ar,hm⟩:=bZ hm;refine Zi (Zuv (col:=ap) 2 3 ar) ?_;rintro _ a2 ⟨au,ak,al,am,an,rfl,ao,af,ag⟩;refine ⟨_,rfl,?_⟩;refine lM (.tuple #[(.agg #[.bool aa.1.1.1,.slice ak aa.1.1.2.length al,.slice am aa.1.2.length an]),.int .i64 aa.2])<|lV (.agg #[.bool aa.1.1.1,.slice ak aa.1.1.2.length al,.slice am aa.1.2.length an]) (Xo rfl rfl)<|lV (.int .i64 aa.2) (Xo rfl rfl)<|Xk (col:=au) #[.bool false,(nI),(nI)] 4 zeroValue39 ?_;intro a3 a4 a5 ac av;refine Zy av ?_;intro a6 ad aw ax;refine go ?_;refine lV _ (Z8 isAgg39 sizeOf39 ax) ?_;refine Zy (((ae.gr ao).gr ac).kp ad) ?_;intro a7 ah ay az;refine go ?_;cases hm;replace ab:=((((ab.grow aq).grow ao).grow ac).kp ad aw).kp ah ay;exact ⟨rfl,_,ra az.atN,_,_,_,_,_,rfl,ab.fin (cm [(2,c1),(3,c2)]),ab.fo (((af.gr ac).kp ad).kp ah),ab.fo (((ag.gr ac).kp ad).kp ah)⟩
def Zfw (N:Nat) (aa:R4):Nat→Bool→R2→R2→Int→Option R1
  | 0,_,_,_,_=>none
  | ah+1,ae,af,ag,ab=>if (decide (ab<(aa.length:Int)))=true then ((Zl aa ab).bind fun ac=>(Zlf N ((ae,af),ag) ((ac.1.1,ac.1.2),ac.2)).bind fun ad=>(Zfw N aa ah) ad.1.1 ad.1.2 ad.2 (i64.wrap (ab+1))) else (some ((ae,af),ag))
termination_by structural x=>x
def Zlh (N:Nat) (ab:R4):Option R1:=
  (Zd0 N 0 1).bind fun aa=>Zfw N ab N aa.1.1 aa.1.2 aa.2 0
theorem Z5b {N a9:Nat} {a0:Option Addr} {col:Zd} {w0:World} {am:R4} {r:R1} (c1 c2:Nat) (hm:Zlh N am=some r) (h0:Sl (Za.pair (Za.pair Za.bool (Za.slice rU)) (Za.slice rU)) col w0 a0 a9 am):
    Calls prog 205 #[.slice a0 am.length a9] w0 (fun e w'=>∃ (col':Zd) (ra1:Option Addr) (rc2:Nat) (ra4:Option Addr) (rc5:Nat),e= .returned ((.agg #[.bool r.1.1,.slice ra1 r.1.2.length rc2,.slice ra4 r.2.length rc5]))∧Zf col w0 col' w'∧Zb rU 95 c1 col' w' ra1 rc2 r.1.2∧Zb rU 95 c2 col' w' ra4 rc5 r.2):=by
 refine Y5 (m:=19) func205 rfl rfl rfl ?_;rw [Zlh.eq_1] at hm;have aa:=St.start col w0;refine go ?_;refine Xk (col:=(Zj col)) #[.bool false,(nI),(nI)] 1 zeroValue39 ?_;intro bb b1 bc bd ab;refine go ?_;obtain ⟨b2,be,hm⟩:=bZ hm;refine Zi (Zuw (col:=bc) 2 3 be) ?_;rintro _ b3 ⟨bf,b4,b5,b6,b7,rfl,ba,aw,ax⟩;refine ⟨_,rfl,?_⟩;refine Xk (col:=bf) #[.bool false,(nI),(nI)] 4 zeroValue39 ?_;intro bg b8 b9 an bh;refine Zy bh ?_;intro ca ao bi af;refine go ?_;replace aa:=(((aa.grow bd).grow ba).grow an).kp ao bi;replace ab:=((ab.gr ba).gr an).kp ao;refine Zv [0,2,3,1000000] (fun n f ai=>∃ ac ay az a1 ap a2 a3 aq a4 aj,aj=n∧Zfw N am aj ay ap aq a4=some r∧St w0 (Zj col) ac ai∧Zg 39 1 ac ai bb #[.bool false,(nI),(nI)]∧Zb rU 95 2 ac ai az a1 ap∧Zb rU 95 3 ac ai a2 a3 aq∧Zg 39 4 ac ai bg #[.bool ay,.slice az ap.length a1,.slice a2 aq.length a3]∧[4].map f=[.int .i64 a4]) N ⟨_,_,_,_,_,_,_,_,0,_,rfl,hm,aa,ab,(aw.gr an).kp ao,(ax.gr an).kp ao,af,rfl⟩ ?_;clear hm;intro n f ai hI;obtain ⟨ac,ay,az,a1,ap,a2,a3,aq,a4,aj,hn,hm,aa,ab,ak,al,af,hs⟩:=hI;subst hn;refine .lL [4] hs ?_;replace h0:=h0.k0
 cases aj with
 | zero=>rw [Zfw.eq_1] at hm;cases hm
 | succ aj=>
  rw [Zfw.eq_2] at hm;refine go ?_;refine Zo hm (fun hb hm=>go ?_) fun hb hm=>go ?_
  ·refine Y8 (col:=ac) [(0,0),(1,1),(2,1),(3,1),(4,0),(5,3),(6,2)] (by kernel_rfl) (by kernel_rfl)<|xv rfl rfl (fun _ hC=>Z8 isAgg39 sizeOf39 (af.gr (hC.bl ac))) ?_;refine xu rfl rfl (fun _=>Ub rfl) ?_;refine xu rfl rfl (fun _=>Yq rfl) ?_;obtain ⟨a5,ar,hm⟩:=bZ hm;refine xu rfl rfl (fun _=>Yu underlying114 sizeOf39 rfl rfl (Xa ar).1 (Xa ar).2.1 ((h0.ks aa).addr ar)) ?_;obtain ⟨_,bj,bk⟩:=(h0.ks aa).atN ar;obtain ⟨_,_,rfl,bm,bn⟩:=Vr bj;obtain ⟨_,_,rfl,bo,bp⟩:=Vr bm;obtain ⟨rfl,_⟩:=bo;obtain ⟨⟨bq,br,rfl,a6⟩,_⟩:=bp;obtain ⟨⟨bs,bt,rfl,a7⟩,_⟩:=bn;refine xv (v:=(.agg #[.bool a5.1.1,.slice bq a5.1.2.length br,.slice bs a5.2.length bt])) rfl rfl (fun _ hC=>Y9 isAgg39 sizeOf39 rfl rfl (bk.gr (hC.bl ac))) ?_;refine xe rfl rfl ?_;intro bu hC0;have hC:=hC0.bl ac;obtain ⟨cb,bv,hm⟩:=bZ hm;replace ak:=ak.gr hC;replace al:=al.gr hC;refine Zi (Z48 5 6 bv ((ak.toSlF (Zh.int .u32)).froz 3) ((al.froz 2).toSlF (Zh.int .u32)) (((a6.gr hC).froz 2).froz 3) (((a7.gr hC).froz 2).froz 3)) ?_;rintro _ cc ⟨bw,cd,ce,cf,cg,rfl,ag,ad,ae⟩;refine ⟨_,rfl,?_⟩;replace ad:=ad.thaw (Z1 .u32) ag (((Fz.refl (col:=ac)).froz 2).froz 3);replace ae:=ae.thaw (Z1 .u32) ag (((Fz.refl (col:=ac)).froz 2).froz 3);replace ag:=ag.thawR (col:=ac);generalize Xc bu.heap.size ac bw=au at *;refine Zk<|Xj au hC0 ag<|xe rfl rfl ?_;intro ch hC0;replace ab:=(ab.gr hC).gr ag;replace af:=(af.gr hC).gr ag;replace aa:=(aa.grow hC).grow ag;have hC:=hC0.bl au;replace af:=af.gr hC;refine Zy af ?_;intro ci av bx ah;refine Zk<|xk au<|Yz ?_;replace ad:=(ad.gr hC).kp av;replace ae:=(ae.gr hC).kp av;replace ab:=(ab.gr hC).kp av;replace aa:=(aa.grow hC).kp av bx;intro cj hC;replace hC:=hC.bl au;refine go ?_;replace ad:=ad.gr hC;replace ad:=ad.recolSelf 2 (by decide);replace ae:=ae.gr hC;replace ae:=ae.recol 5 2;replace ab:=ab.gr hC;replace ab:=ab.recol 5 2;replace ah:=ah.gr hC;replace ah:=ah.recol 5 2;replace aa:=aa.grow hC;replace aa:=aa.recol 5 2 (by decide) (by decide);replace ae:=ae.recolSelf 3 (by decide);replace ab:=ab.recol 6 3;replace ah:=ah.recol 6 3
   replace aa:=aa.recol 6 3 (by decide) (by decide);exact ⟨aj,by omega,rfl,⟨_,_,_,_,_,_,_,_,_,_,rfl,hm,aa,ab,ad.recol 6 3,ae,ah,rfl⟩⟩
  refine lV _ (Z8 isAgg39 sizeOf39 af)<|Zy ab ?_;intro ck a8 bz b0;refine go ?_;cases hm;replace aa:=aa.kp a8 bz;exact ⟨rfl,_,ra b0.atN,_,_,_,_,_,rfl,aa.fin (cm [(2,c1),(3,c2)]),aa.fo (ak.kp a8),aa.fo (al.kp a8)⟩
def Ziw (N:Nat) (aa:R1):Option Int:=
  (Zfv N (aa.1.1,aa.1.2)).bind fun ab=>some ab
theorem Z5a {N ac ag:Nat} {ad ah:Option Addr} {col:Zd} {w0:World} {aa:R1} {r:Int} (hm:Ziw N aa=some r) (ae:Sl rU col w0 ad ac aa.1.2) (ao:Sl rU col w0 ah ag aa.2):
    Calls prog 203 #[(.agg #[.bool aa.1.1,.slice ad aa.1.2.length ac,.slice ah aa.2.length ag])] w0 (fun e w'=>e= .returned ((.int .i64 r))∧Below w0.heap.size w0 w'):=by
 refine Xe 2 (m:=6) func203 rfl rfl rfl rfl rfl ?_;rw [Ziw.eq_1] at hm;have ab:=St.start col w0;refine go ?_;refine Xi (col:=(Zj col)) 1 rfl ?_;intro ap aj ai ak al;refine go ?_;refine Yx ⟨_,_,rfl⟩ ?_;refine lV (.agg #[.bool aa.1.1,.slice ad aa.1.2.length ac]) (Y9 isAgg37 sizeOf37 rfl rfl ((al.atN).part 0 2 _ rfl)) ?_;obtain ⟨aq,am,hm⟩:=bZ hm;replace ab:=ab.grow ak;refine Zi (Zqa am (ae.k0.ks ab)) ?_;rintro _ an ⟨rfl,af⟩;refine ⟨_,rfl,?_⟩;replace af:Zf ai aj ai an:=.of_below af;refine go ?_;cases hm;exact ⟨rfl,rfl,(ab.grow af).below⟩
theorem Zec {N k:Nat} {neg:Bool} {m:List Int} (hm:Zn m) (hk:m.length≤k) (hr:Z5 N k):Qm N neg m=some (Xs (Zu (neg,m))):=by
 obtain ⟨a,b⟩:=hr
 rw [Qm,Tk hm (by omega) (by omega),oB,Zlv]
 have e:decide (0<((Ze (Zc m)).length:Int))=decide (Zc m≠0):=by
  by_cases h:Zc m=0
  ·rw [h,Vi];decide
  ·have:=Tv h
   rw [decide_eq_true (by omega),decide_eq_true h]
 cases neg
 ·rw [if_neg (by decide),Zit,Bool.false_and]
 ·rw [if_pos rfl,Zit,e,Bool.true_and]
theorem Z0u {N k:Nat} {a:ZV} (hm:Zn a.2) (hk:a.2.length≤k) (hr:Z5 N k):Ziu N a=some (Xs (Zu a)):=by
 rw [Ziu,Zec hm hk hr];rfl
theorem Zsz {N k:Nat} {a:ZV} (hm:Zn a.2) (hk:a.2.length≤k) (hr:Z5 N k):Zfv N a=some (Zu a).sign:=by
 rw [Zfv,Z0u hm hk hr,oB,Xs]
 generalize Zu a=z
 by_cases h:z=0
 ·subst h;rw [Int.natAbs_zero,Vi,if_pos (by decide)];rfl
 ·have:=Tv (n:=z.natAbs) (by omega)
  rw [if_neg (dF (by simp only;omega))]
  by_cases h2:z<0
  ·rw [if_pos (dT h2),Int.sign_eq_neg_one_of_neg h2]
  ·rw [if_neg (fun b=>h2 (of_decide_eq_true b)),jL (by omega)]
theorem Zzx {N k l:Nat} {a b:ZV} (ha:Zn a.2) (hb:Zn b.2) (hk:a.2.length≤k) (hl:b.2.length≤l) (hr:Z5 N (k+l+1)):Zis N a b=some (Xs (Zu a+Zu b)):=by
 have d:=hr
 obtain ⟨g,i⟩:=d
 have j:=Ys ha
 have m:=Ys hb
 have c:(Ze (Zc a.2+Zc b.2)).length≤k+l+1:=Znh (by omega) (by omega)
 have e:(Ze (Zc a.2 - Zc b.2)).length≤k+l+1:=by have:=Wu (iT (Zc a.2) (Zc b.2));omega
 have f:(Ze (Zc b.2 - Zc a.2)).length≤k+l+1:=by have:=Wu (iT (Zc b.2) (Zc a.2));omega
 rw [Zis]
 by_cases h:a.1=b.1
 ·rw [if_pos (dT h),Zzz ha hb (by omega) (by omega),oB,Zec (Xd _) c hr,oB,Zjp.1 h]
 ·rw [if_neg (dF h),Zl6 ha hb (by omega) (by omega) (by omega) (by omega),oB]
  by_cases hlt:Zc a.2<Zc b.2
  ·rw [if_pos hlt,if_neg (by decide),Zl6 hb ha (by omega) (by omega) (by omega) (by omega),oB,if_neg (by omega),Zec (Xd _) f hr,oB,(Zjp.2 h).2 hlt]
  ·rw [if_neg hlt,if_pos rfl,Zec (Xd _) e hr,oB,(Zjp.2 h).1 (by omega)]
theorem Xac {N k:Nat} {a:ZV} (hm:Zn a.2) (hk:a.2.length≤k) (hr:Z5 N k):Zld N a=some (Xs (-Zu a)):=by
 rw [Zld,Zec hm hk hr,oB,Xby]
theorem Zxh {a:ZV} (hm:Zn a.2):(Xs (Zu a)).2.length≤a.2.length:=by
 rw [Zg6,Zeg];exact Ys hm
theorem Z74 {a:ZV} (hm:Zn a.2):(Xs (-Zu a)).2.length≤a.2.length:=by
 rw [Zg6,Int.natAbs_neg,Zeg];exact Ys hm
theorem Xai {N k l:Nat} {a b:ZV} (ha:Zn a.2) (hb:Zn b.2) (hk:a.2.length≤k) (hl:b.2.length≤l) (hr:Z5 N (k+l+1)):Zle N a b=some (Xs (Zu a - Zu b)):=by
 rw [Zle,Xac (a:=(b.1,b.2)) hb hl (hr.mono (by omega)),oB,Zzx (a:=(a.1,a.2)) (b:=Xs _) ha (U8 _) hk (aU (Z74 hb) hl) hr,oB,U0,Int.sub_eq_add_neg]
theorem Zo8 {N k l:Nat} {a b:ZV} (ha:Zn a.2) (hb:Zn b.2) (hk:a.2.length≤k) (hl:b.2.length≤l) (hr:Z5 N (k+l)):Zdz N a b=some (Xs (Zu a * Zu b)):=by
 have c:=hr
 obtain ⟨d,e⟩:=c
 have f:=Ys ha
 have g:=Ys hb
 have:=U7 (Zc a.2) (Zc b.2)
 rw [Zdz,Z0p ha hb (by omega) (by omega),oB,Zec (k:=k+l) (Xd _) (by omega) hr,oB,Ztp]
theorem Xbx (a b:Int):(a - b).sign=Zan a b:=by
 rw [← Zpp];unfold Zan
 (repeat' split) <;> omega
theorem Z91 {N k l:Nat} {a b:ZV} (ha:Zn a.2) (hb:Zn b.2) (hk:a.2.length≤k) (hl:b.2.length≤l) (hr:Z5 N (k+l+1)):Zlc N a b=some (Zan (Zu a) (Zu b)):=by
 have sl:(Xs (Zu a - Zu b)).2.length≤k+l+1:=Xa5 (k:=k+l) (aU (Zxh ha) (by omega)) (aU (Zxh hb) (by omega))
 rw [Zlc,Xai (a:=(a.1,a.2)) (b:=(b.1,b.2)) ha hb hk hl hr,oB,Zsz (a:=Xs _) (U8 _) sl hr,oB,U0,Xbx]
theorem Z0w {N:Nat} {z:Int} (h:-9223372036854775808≤z∧z≤9223372036854775807) (hr:Z5 N 4):Ziv N z=some (Xs z):=by
 have c:=hr
 obtain ⟨i,j⟩:=c
 have a:∀ n:Nat,n<18446744073709551616→(Ze n).length≤2:=fun n d=>W8.2 (by simpa using d)
 have f:Zn [1]:=.cons (by decide) .nil
 rw [Ziv]
 by_cases hz:0≤z
 ·rw [if_pos (dT hz),Xm (by omega),Z0x (by omega) (by omega),oB,Zec (Xd _) (a _ (by omega)) (hr.mono (by omega)),oB]
  have b:Zu (false,Ze z.toNat)=z:=by simp only [Zu,Xb];simp;omega
  rw [b]
 ·have g:=a (-z - 1).toNat (by omega)
  have e:u64.wrap (i64.wrap (-i64.wrap (z+1)))= -z - 1:=by rw [Zw (x:=z+1) (by omega),Zw (by omega),Xm (by omega)];omega
  rw [if_neg (dF hz),e,Z0x (by omega) (by omega),oB,Zzz (Xd _) f (by simp only [aQ];omega) (by simp only [aQ];omega),oB,Xb,Wm,Yy,Zec (k:=4) (Xd _) (by
   have:=a ((-z - 1).toNat+((1:Int).toNat+4294967296 * 0)) (by omega)
   omega) hr,oB]
  have b:Zu (true,Ze ((-z - 1).toNat+((1:Int).toNat+4294967296 * 0)))=z:=by simp only [Zu,Xb,if_true];omega
  rw [b]
theorem Zo3 {N k:Nat} {a:QV} (ha:RV k a) (hr:Z5 N k):Zbi N a=some (Ze (Yg a.2)):=by
 obtain ⟨b,c⟩:=hr
 have:=ha.ld
 rw [Zbi,Tk ha.d (by omega) (by omega),oB,Yg]
 by_cases h:Zc a.2=0
 ·rw [h,Vi,if_pos (by decide),if_pos rfl,Znz,oB,Qc]
 ·have:=Tv h
  rw [if_neg (dF (by omega)),if_neg h]
theorem Z0m {N k l:Nat} {num:ZV} {den:List Int} (hn:Zn num.2) (hd:Zn den) (h0:Zc den≠0) (hk:num.2.length≤k) (hl:den.length≤l) (hr:Z5 N (k+l)):
  Zix N num den=some (Zp (mkRat (Zu num) (Zc den))):=by
 have c:=hr
 obtain ⟨j,m⟩:=c
 have n:=Ys hn
 have f:=Ys hd
 have d:dA (Zc num.2) (Zc den)≠0:=fun h=>h0 (Nat.gcd_eq_zero_iff.1 h).2
 have lg:(Ze (dA (Zc num.2) (Zc den))).length≤den.length:=aU (Wu (Nat.gcd_le_right _ (by omega))) f
 have o:=Wu (cS (Zc num.2) (dA (Zc num.2) (Zc den)))
 have ld:=Wu (cS (Zc den) (dA (Zc num.2) (Zc den)))
 obtain ⟨g,i,e,b,p⟩:=Xab (N:=N) (M:=k+l) hn hd (by omega) (by omega) (by omega) (by omega)
 rw [Zix,i,oB,Zz4 hn e (by rw [b];omega) (by omega) (by rw [b];omega) (by omega),oB,Zz4 hd e (by rw [b];omega) (by omega) (by rw [b];omega) (by omega),oB,b,if_neg d,if_neg d,
  Z0u (k:=k) (a:=(num.1,Ze (Zc num.2 / dA (Zc num.2) (Zc den)))) (Xd _) (by simp only;omega) (hr.mono (by omega)),oB,Tk (Xd _) (by omega) (by omega),oB,Zyd (neg:=num.1) h0,Zlv,Xb,Xb]
theorem Z99 {N k:Nat} {a:QV} (ha:RV k a) (hr:Z5 N k):Ziw N a=some (S1 (Zr a)):=by
 rw [Ziw,Zsz (a:=(a.1.1,a.1.2)) ha.m ha.lm hr,oB,Zzj]
theorem Zpq (n:Nat):Zu (false,Ze n)=n:=by simp [Zu,Xb]
theorem Zo6 {N k l:Nat} {a b:QV} (ha:RV k a) (hb:RV l b) (hr:Z5 N (2 * (k+l+3))):Zbh N a b=some (Sg (Zr a) (Zr b)):=by
 have c:=Tu ha
 have d:=Tu hb
 have e:=Zc5 (n:=Yg b.2) ha.m ha.lm d
 have f:=Zc5 (n:=Yg a.2) hb.m hb.lm c
 rw [Zbh,Zo3 hb (hr.mono (by omega)),oB,Zbj,oB,Zo8 (a:=(a.1.1,a.1.2)) (b:=(false,Ze (Yg b.2))) (k:=k) (l:=l+1) ha.m (Xd _) ha.lm d (hr.mono (by omega)),oB,Zo3 ha (hr.mono (by omega)),oB,Zbj,oB,Zo8 (a:=(b.1.1,b.1.2)) (b:=(false,Ze (Yg a.2))) (k:=l) (l:=k+1) hb.m (Xd _) hb.lm c (hr.mono (by omega)),oB,Zpq,Zpq,
  Z91 (a:=Xs _) (b:=Xs _) (U8 _) (U8 _) e f (hr.mono (by omega)),oB,U0,U0,Zr,Zr,Zr9 (U5 _) (U5 _)]
theorem Z94 {N k l:Nat} {a b:QV} (ha:RV k a) (hb:RV l b) (hr:Z5 N (k+l+2)):Zfr N (Ze (Yg a.2)) (Ze (Yg b.2))=some (Ze (Yg a.2 * Yg b.2)):=by
 have c:=Tu ha
 have d:=Tu hb
 obtain ⟨e,f⟩:=hr
 rw [Z0p (Xd _) (Xd _) (by omega) (by omega),Xb,Xb]
theorem Z98 {N k l:Nat} {a b:QV} (ha:RV k a) (hb:RV l b) (hr:Z5 N (2 * (k+l+3))):Zlf N a b=some (Zp (Zr a+Zr b)):=by
 have c:=Tu ha
 have d:=Tu hb
 have f:=Zc5 (n:=Yg b.2) ha.m ha.lm d
 have e:=Zc5 (n:=Yg a.2) hb.m hb.lm c
 obtain ⟨_,g,i⟩:=Zql ha hb (hr.mono (by omega))
 have j:=Z94 ha hb (hr.mono (by omega))
 have sl:=Zta (k:=k+l+1) (by omega) (aU e (by omega))
 rw [Zlf,Zo3 hb (hr.mono (by omega)),oB,Zbj,oB,Zo8 (a:=(a.1.1,a.1.2)) (b:=(false,Ze (Yg b.2))) (k:=k) (l:=l+1) ha.m (Xd _) ha.lm d (hr.mono (by omega)),oB,Zo3 ha (hr.mono (by omega)),oB,Zbj,oB,Zo8 (a:=(b.1.1,b.1.2)) (b:=(false,Ze (Yg a.2))) (k:=l) (l:=k+1) hb.m (Xd _) hb.lm c (hr.mono (by omega)),oB,Zpq,Zpq,
  Zzx (a:=Xs _) (b:=Xs _) (U8 _) (U8 _) f e (hr.mono (by omega)),oB,U0,U0,oB,oB,j,oB,
  Z0m (num:=Xs _) (U8 _) (Xd _) (by rw [Xb];exact i) sl g (hr.mono (by omega)),oB,U0,Xb,Zr,Zr,Rat.mkRat_add_mkRat _ _ (U5 _) (U5 _)]
theorem Z06 {N:Nat} {a b:Int} (h:-9223372036854775808≤a∧a≤9223372036854775807) (g:0<b∧b≤9223372036854775807) (hr:Z5 N 8):Zd0 N a b=some (Zp ((a:Rat) / (b:Rat))):=by
 have d:∀ z:Int,-9223372036854775808≤z∧z≤9223372036854775807→(Xs z).2.length≤2:=fun z n=>W8.2 (by simp;omega)
 have i:=d a h
 have f:=d b (by omega)
 have c:Zc (Xs b).2≠0:=by rw [Zg6,Xb];omega
 have e:=Zrk (Zu (Xs a)) 1 (Xs b) 1 (Xs a).1 (Xs a).2 rfl c
 rw [Zd0,Zlg,Z0w h (hr.mono (by omega)),oB,Z0w (by omega) (hr.mono (by omega)),oB,Zny,Zsz (a:=Xs b) (U8 _) f (hr.mono (by omega)),oB,U0,jL g.1,if_neg (by decide),Z0m (num:=(!decide ((Xs a).1=(Xs b).1),(Xs a).2)) (U8 _) (U8 _) c i f (hr.mono (by omega)),oB,oB,oB]
 rw [dI,dI,U0,U0] at e
 have j:(a:Rat) / ((1:Nat):Rat) / ((b:Rat) / ((1:Nat):Rat))=(a:Rat) / (b:Rat):=by
  have k:((1:Nat):Rat)=1:=rfl
  have l:(1:Rat)⁻¹=1:=gJ (by grind)
  simp only [k,Rat.div_def,l,Rat.mul_one]
 rw [j,aX,Nat.mul_one] at e
 rw [e]
 have m:Zu (!decide ((Xs a).1=(Xs b).1),Ze (Zc (Xs a).2))=Zu (!decide ((Xs a).1=(Xs b).1),(Xs a).2):=by simp only [Zu,Xb]
 rw [m]
theorem div_one (a:Rat):a / 1=a:=by
 have b:(1:Rat)⁻¹=1:=gJ (by grind)
 rw [Rat.div_def,b,Rat.mul_one]
theorem Xas {N:Nat} (hr:Z5 N 8):Zd0 N 0 1=some (Zp 0):=by
 rw [Z06 (by omega) (by omega) hr]
 congr 2
 exact div_one _
theorem Xar {N:Nat} (hr:Z5 N 8):Zd0 N 1 1=some (Zp 1):=by
 rw [Z06 (by omega) (by omega) hr]
 congr 2
 exact div_one _
theorem Z0e {N:Nat} (l:List QV) (hl:∀ a ∈ l,Vf a) (hb:l.length<4611686018427387904):∀ (n i:Nat) (q:Rat),i≤l.length→l.length<n+i→Z5 N (4 * (qs q+Xx (l.drop i)+3))→Zfw N l n (Zp q).1.1 (Zp q).1.2 (Zp q).2 (i:Int)=some (Zp (q+Yn (l.drop i)))
 | 0,i,q,g,j,_=>by omega
 | n+1,i,q,g,j,b=>by
  rw [Zfw.eq_2]
  by_cases hi:i<l.length
  ·have d:=List.drop_eq_getElem_cons hi
   have c:=hl _ (List.getElem_mem hi)
   have o:=Zsg c
   rw [d,Xx] at b
   have p:=Zsf q (Zr l[i])
   rw [if_pos (dT (by omega)),Z0 hi,oB,Z98 (k:=qs q) (l:=max (l[i]).1.2.length (l[i]).2.length) (Zjn q) (Zed c.1 c.2) (b.mono (by omega)),oB,Zw (by omega)]
   have f:=Z0e l hl hb n (i+1) (q+Zr l[i]) (by omega) (by omega) (b.mono (by omega))
   have e:Zr ((((Zp q).1.1,(Zp q).1.2),(Zp q).2):QV)=q:=Wo q
   have m:Zr (((l[i].1.1,l[i].1.2),l[i].2):QV)=Zr l[i]:=rfl
   rw [show ((i+1:Nat):Int)=(i:Int)+1 by omega] at f
   rw [e,m,f,d,Yn,Yn,List.map_cons,List.sum_cons,Rat.add_assoc]
  ·rw [if_neg (dF (by omega)),aK (by omega),Yn,List.map_nil,List.sum_nil,Rat.add_zero]
theorem Xaa {N:Nat} {l:List QV} (hl:∀ a ∈ l,Vf a) (hb:l.length<4611686018427387904) (hn:l.length<N) (hr:Z5 N (4 * (Xx l+4))):Zlh N l=some (Zp (Yn l)):=by
 rw [Zlh,Xas (hr.mono (by omega)),oB]
 have:=Z0e (N:=N) l hl hb N 0 0 (by omega) (by omega) (hr.mono (by rw [Zow,aP];omega))
 rw [aP,Rat.zero_add] at this
 exact this
def Zf8 (ab:ByteArray):List ByteArray→Nat→Option Int
  | [],aa=>some (-1)
  | ac :: ad,aa=>if (decide (ab=ac))=true then (some (aa:Int)) else ((Zf8 ab ad) (aa+1))
termination_by structural x=>x
def Zn9 (aa:List ByteArray) (ab:ByteArray):Option Int:=
  Zf8 ab aa 0
theorem Z5w {ag:Nat} {a0:Option Addr} {col:Zd} {w0:World} {ab:R3} {ae:ByteArray} {r:Int} (hm:Zn9 ab ae=some r) (h0:Sl Za.str col w0 a0 ag ab):
    Calls prog 195 #[.slice a0 ab.length ag,.string ae] w0 (fun e w'=>e= .returned ((.int .i64 r))∧Below w0.heap.size w0 w'):=by
 refine Xe 4 (m:=19) func195 rfl rfl rfl rfl rfl ?_;rw [Zn9.eq_1] at hm;have aa:=St.start col w0;refine go ?_;refine Zv [0,1,7,1000000] (fun n f ah=>∃ ai ac ad,n=ad.length∧ab.drop ac=ad∧Zf8 ae ad ac=some r∧St w0 (Zj col) ai ah∧[8].map f=[.int .i64 ac]) ab.length ⟨_,0,_,rfl,rfl,hm,aa,rfl⟩ ?_;clear hm;intro n f ah hI;obtain ⟨ai,ac,ad,hn,hl,hm,aa,hs⟩:=hI;subst hn;refine .lL [8] hs ?_;replace h0:=h0.k0
 cases ad with
 | nil=>
  have hk:¬ ((ac:Int)<(ab.length:Int)):=by have:=aG.1 hl;omega
  have hkb:=decide_eq_false hk;rw [Zf8.eq_1] at hm;refine go ?_;refine X0 (congrArg Value.bool hkb)<|go ?_;cases hm;exact ⟨rfl,rfl,aa.below⟩
 | cons am aj=>
  obtain ⟨af,ak,al⟩:=Yf hl;have hk:(ac:Int)<(ab.length:Int):=by omega
  have hkb:=decide_eq_true hk;rw [Zf8.eq_2] at hm;refine go ?_;refine X1 (congrArg Value.bool hkb)<|go ?_;refine lI af ((h0.ks aa).addr af)<|lW ((h0.ks aa).atStr af) ?_;refine go ?_;refine Zo hm (fun hb hm=>go ?_) fun hb hm=>go ?_
  ·cases hm;exact ⟨rfl,rfl,aa.below⟩
  exact ⟨aj.length,by simp,rfl,⟨_,_,_,rfl,ak,hm,aa,(Yl (congrArg (Value.int .i64) (Yi (aE al (h0.ks aa).1.1))) rfl)⟩⟩
def Zlo (aa:List ByteArray) (ab:ByteArray):Option Bool:=
  (Zn9 aa ab).bind fun ac=>some (decide (0≤ac))
theorem Z5u {ad:Nat} {a0:Option Addr} {col:Zd} {w0:World} {ab:R3} {ae:ByteArray} {r:Bool} (hm:Zlo ab ae=some r) (h0:Sl Za.str col w0 a0 ad ab):
    Calls prog 159 #[.slice a0 ab.length ad,.string ae] w0 (fun e w'=>e= .returned ((.bool r))∧Below w0.heap.size w0 w'):=by
 refine Xe 4 (m:=9) func159 rfl rfl rfl rfl rfl ?_;rw [Zlo.eq_1] at hm;have aa:=St.start col w0;refine go ?_;obtain ⟨ah,af,hm⟩:=bZ hm;refine Zi (Z5w af (h0.k0.ks aa)) ?_;rintro _ ag ⟨rfl,ac⟩;refine ⟨_,rfl,?_⟩;replace ac:Zf (Zj col) w0 (Zj col) ag:=.of_below ac;refine go ?_;cases hm;exact ⟨rfl,rfl,(aa.grow ac).below⟩
def Zdq:List ByteArray→(List (ByteArray×Int))→Option Bool
  | [],aa=>some false
  | ab :: ac,aa=>if (decide (0<((W0 aa ab).getD 0)))=true then (some true) else ((some (Qo aa ab 1)).bind fun ad=>(Zdq ac) ad)
termination_by structural x=>x
def Zkv (aa:List ByteArray):Option Bool:=
  Zdq aa ([]:List (ByteArray×Int))
theorem Z4u {al:Nat} {a0:Option Addr} {col:Zd} {w0:World} {ab:R3} {r:Bool} (hm:Zkv ab=some r) (h0:Sl Za.str col w0 a0 al ab):
    Calls prog 160 #[.slice a0 ab.length al] w0 (fun e w'=>e= .returned ((.bool r))∧Below w0.heap.size w0 w'):=by
 refine Xe 2 (m:=20) func160 rfl rfl rfl rfl rfl ?_;rw [Zkv.eq_1] at hm;have aa:=St.start col w0;refine go ?_;refine Z7z (col:=(Zj col)) (fk:=Value.string) (fv:=(Value.int .i64)) 1 rfl ?_;intro ay az a1 ao ap;refine go ?_;replace aa:=aa.grow ao;refine Zv [7,8,1000000] (fun n f af=>∃ ag ah ac ad ae,n=ae.length∧ab.drop ad=ae∧Zdq ae ac=some r∧St w0 (Zj col) ag af∧Vw Value.string (Value.int .i64) 1 ag af ah ac∧[9,3].map f=[.int .i64 ad,.map (some ah)]) ab.length ⟨_,_,_,0,_,rfl,rfl,hm,aa,ap,rfl⟩ ?_;clear hm;intro n f af hI;obtain ⟨ag,ah,ac,ad,ae,hn,hl,hm,aa,am,hs⟩:=hI;subst hn;refine .lL [9,3] hs ?_;replace h0:=h0.k0
 cases ae with
 | nil=>
  have hk:¬ ((ad:Int)<(ab.length:Int)):=by have:=aG.1 hl;omega
  have hkb:=decide_eq_false hk;rw [Zdq.eq_1] at hm;refine go ?_;refine X0 (congrArg Value.bool hkb)<|go ?_;cases hm;exact ⟨rfl,rfl,aa.below⟩
 | cons ai aq=>
  obtain ⟨aj,ar,au⟩:=Yf hl;have hk:(ad:Int)<(ab.length:Int):=by omega
  have hkb:=decide_eq_true hk;rw [Zdq.eq_2] at hm;refine go ?_;refine X1 (congrArg Value.bool hkb)<|go ?_;refine lI aj ((h0.ks aa).addr aj)<|lW ((h0.ks aa).atStr aj) ?_;refine go ?_;refine lV (.int .i64 ((W0 ac ai).getD 0)) (Zzu S4.str am underlying195 underlying9 zeroValue3 rfl rfl)<|go ?_;refine Zo hm (fun hb hm=>go ?_) fun hb hm=>go ?_
  ·cases hm;exact ⟨rfl,rfl,aa.below⟩
  obtain ⟨av,ak,hm⟩:=bZ hm;have ak:av=Qo ac ai 1:=(Option.some.inj ak).symm;refine Zw5 (k:=ai) (v:=1) S4.str am underlying195 underlying9 rfl rfl rfl ?_;intro a2 aw ax an;rw [← ak] at an;refine go ?_;replace aa:=aa.kp aw ax;exact ⟨aq.length,by simp,rfl,⟨_,_,_,_,_,rfl,ar,hm,aa,an,(Yl (congrArg (Value.int .i64) (Yi (aE au (h0.ks aa).1.1))) rfl)⟩⟩
def Zh5 (ab:R0) (aa:Nat) (kk_L1:(Nat→Option Int)) (ac:Bool):Option Int:=
  if ac=true then (some 40) else ((Zl ab.2.2.1 (aa:Int)).bind fun ad=>if (decide ((ad.length:Int)=0))=true then (some 43) else (kk_L1 (aa+1)))
def Zcb (aa:R0):List ByteArray→Nat→Option Int
  | [],ab=>some 0
  | ad :: ac,ab=>Z4 ((0:Int)≤(ab:Int)∧(ab:Int)≤(aa.2.1.length:Int)) ((Zlo (aa.2.1.take (aA (ab:Int))) ad).bind fun ae=>if ae=true then (Zh5 aa ab (Zcb aa ac) true) else ((Zl aa.2.2.1 (ab:Int)).bind fun af=>(Zkv af).bind fun ag=>Zh5 aa ab (Zcb aa ac) ag))
termination_by structural x=>x
def Ze9 (aa:R0):Option Int:=
  Zcb aa aa.2.1 0
theorem Z4r {ae ak al am:Nat} {af an ao ap:Option Addr} {col:Zd} {w0:World} {aa:R0} {r:Int} (hm:Ze9 aa=some r) (ag:Sl Za.str col w0 af ae aa.2.1) (ai:Sl (Za.slice Za.str) col w0 an ak aa.2.2.1) (bi:Sl (Za.slice rI) col w0 ao al aa.2.2.2.1) (bj:Sl (Za.slice (Za.pair (Za.pair Za.bool (Za.slice rU)) (Za.slice rU))) col w0 ap am aa.2.2.2.2):
    Calls prog 85 #[(.agg #[.string aa.1,.slice af aa.2.1.length ae,.slice an aa.2.2.1.length ak,.slice ao aa.2.2.2.1.length al,.slice ap aa.2.2.2.2.length am])] w0 (fun e w'=>e= .returned ((.int .i64 r))∧Below w0.heap.size w0 w'):=by
 refine Xe 2 (m:=37) func85 rfl rfl rfl rfl rfl ?_;rw [Ze9.eq_1] at hm;have ab:=St.start col w0;refine go ?_;refine Xi (col:=(Zj col)) 1 rfl ?_;intro a3 bk bm a6 ac;refine go ?_;refine Xl ac ?_;refine go ?_;replace ab:=ab.grow a6;refine Zv [1,6,7,1000000] (fun n f aq=>∃ ah ad aj,n=aj.length∧aa.2.1.drop ad=aj∧Zcb aa aj ad=some r∧St w0 (Zj col) ah aq∧Zg 27 1 ah aq a3 #[.string aa.1,.slice af aa.2.1.length ae,.slice an aa.2.2.1.length ak,.slice ao aa.2.2.2.1.length al,.slice ap aa.2.2.2.2.length am]∧[8].map f=[.int .i64 ad]) aa.2.1.length ⟨_,0,_,rfl,rfl,hm,ab,ac,rfl⟩ ?_;clear hm;intro n f aq hI;obtain ⟨ah,ad,aj,hn,hl,hm,ab,ac,hs⟩:=hI;subst hn;refine .lL [8] hs ?_;replace ag:=ag.k0;replace ai:=ai.k0
 cases aj with
 | nil=>
  have hk:¬ ((ad:Int)<(aa.2.1.length:Int)):=by have:=aG.1 hl;omega
  have hkb:=decide_eq_false hk;rw [Zcb.eq_1] at hm;refine go ?_;refine X0 (congrArg Value.bool hkb)<|go ?_;cases hm;exact ⟨rfl,rfl,ab.below⟩
 | cons bn a4=>
  obtain ⟨av,a7,a8⟩:=Yf hl;have hk:(ad:Int)<(aa.2.1.length:Int):=by omega
  have hkb:=decide_eq_true hk;rw [Zcb.eq_2] at hm;refine go ?_;refine X1 (congrArg Value.bool hkb)<|go ?_;refine lI av ((ag.ks ab).addr av)<|lW ((ag.ks ab).atStr av)<|Y6 rfl<|lAT rfl<|Zk<|Zgl<|Zz ?_;refine Wp.cutK [1,3,6,7,8,1000000] (fun f aw=>∃ ax ay,Zh5 aa ad (Zcb aa a4) ay=some r∧St w0 (Zj col) ax aw∧Zg 27 1 ax aw a3 #[.string aa.1,.slice af aa.2.1.length ae,.slice an aa.2.2.1.length ak,.slice ao aa.2.2.2.1.length al,.slice ap aa.2.2.2.2.length am]∧[13].map f=[.bool ay]) ?_ ?_
  ·intro f aw hJ;obtain ⟨ax,ay,hm,ab,ac,hs⟩:=hJ;rw [Zh5.eq_1] at hm;refine .lL [13] hs ?_;refine Zo hm (fun hb hm=>go ?_) fun hb hm=>go ?_
   ·cases hm;exact ⟨rfl,rfl,ab.below⟩
   refine Xl ac<|X4 rfl ?_;obtain ⟨bo,az,hm⟩:=bZ hm;refine lI az ((ai.ks ab).addr az) ?_;obtain ⟨_,a9,ba⟩:=(ai.ks ab).atN az;obtain ⟨⟨bp,bq,rfl,br⟩,_⟩:=a9;refine lW ba.one<|go ?_;refine Zo hm (fun hb hm=>go ?_) fun hb hm=>go ?_
   ·cases hm;exact ⟨rfl,rfl,ab.below⟩
   exact ⟨a4.length,by simp,rfl,⟨_,_,_,rfl,a7,hm,ab,ac,(Yl (congrArg (Value.int .i64) (Yi (aE a8 (ag.ks ab).1.1))) rfl)⟩⟩
  refine Ve<|Xl ac<|X4 rfl ?_;obtain ⟨a0,hm⟩:=Z9 hm;refine lv (v:=.slice af (aA (ad:Int)) ae) rfl rfl (Zjm underlying22 sizeOf9 rfl rfl a0.1 (by have:=(ag.ks ab).1.2;have:=a0.2;omega))<|.ld (d:=17) (v:=(.slice af ((aa.2.1.take (aA (ad:Int))).length) ae)) (congrArg (fun n=>Value.slice af n ae) (List.length_take_of_le (show (aA (ad:Int))≤aa.2.1.length by have:=a0.2;omega)).symm) ?_;refine lMT rfl ?_;obtain ⟨bs,bb,hm⟩:=bZ hm;refine Zi (Z5u bb ((ag.ks ab).take (aA (ad:Int)))) ?_;rintro _ a5 ⟨rfl,ar⟩;refine ⟨_,rfl,?_⟩;replace ar:Zf ah aq ah a5:=.of_below ar;refine Uj rfl ?_;replace ac:=ac.gr ar;replace ab:=ab.grow ar;refine Yr hm (fun a1 hm=>go ?_) fun a1 hm=>go ?_
  ·refine lV (.bool true) (Ye (congrArg Value.bool a1) rfl)<|go ?_;exact ⟨rfl,_,_,hm,ab,ac,rfl⟩
  refine Yx ⟨_,_,rfl⟩ ?_;refine go ?_;refine lW ((ac.atN).nth (q:=2) rfl)<|go ?_;obtain ⟨bt,a2,hm⟩:=bZ hm;refine lI a2 ((ai.ks ab).addr a2) ?_;refine go ?_;obtain ⟨_,bc,bd⟩:=(ai.ks ab).atN a2;obtain ⟨⟨bu,bv,rfl,be⟩,_⟩:=bc;refine lW bd.one<|go ?_;obtain ⟨bf,bg,hm⟩:=bZ hm;refine Zi (Z4u bg be) ?_;rintro _ bh ⟨rfl,au⟩;refine ⟨_,rfl,?_⟩;replace au:Zf ah a5 ah bh:=.of_below au;refine lV (.bool bf) (Yd (congrArg Value.bool a1) rfl)<|go ?_;exact ⟨rfl,_,_,hm,ab.grow au,ac.gr au,rfl⟩
def Zh3 (aa:Bool) (ab:List Int) (ac:List Int):Option R1:=
  some ((aa,ab),ac)
def Zca (N:Nat) (aa:R1):Option R1:=
  (Zfh N aa.2).bind fun ab=>if (decide ((ab.length:Int)=0))=true then ((Zcc N 1).bind fun ac=>Zh3 aa.1.1 aa.1.2 ac) else (Zh3 aa.1.1 aa.1.2 aa.2)
theorem Zui {N am a1:Nat} {an a2:Option Addr} {col:Zd} {w0:World} {ad r:R1} (hm:Zca N ad=some r) (ai:Sl rU col w0 an am ad.1.2) (aj:Sl rU col w0 a2 a1 ad.2):
    Calls prog 104 #[(.agg #[.bool ad.1.1,.slice an ad.1.2.length am,.slice a2 ad.2.length a1])] w0 (fun e w'=>∃ (col':Zd) (ra1:Option Addr) (rc2:Nat) (ra4:Option Addr) (rc5:Nat),e= .returned ((.agg #[.bool r.1.1,.slice ra1 r.1.2.length rc2,.slice ra4 r.2.length rc5]))∧Zf col w0 col' w'∧Sl rU col' w' ra1 rc2 r.1.2∧Sl rU col' w' ra4 rc5 r.2):=by
 refine Y5 (m:=11) func104 rfl rfl rfl ?_;rw [Zca.eq_1] at hm;have aa:=St.start col w0;refine go ?_;refine Xi (col:=(Zj col)) 1 rfl ?_;intro a3 bj a8 a9 ab;refine Xk (col:=a8) #[.bool false,(nI),(nI)] 2 zeroValue39 ?_;intro ba bk bm a4 ac;refine Zk<|Zz ?_;replace ai:=ai.k0;replace aj:=aj.k0;replace aa:=(aa.grow a9).grow a4;replace ab:=ab.gr a4;refine Wp.cutK [1,2,1000000] (fun f ae=>∃ af ao ap aq ak ar au al,Zh3 ao ak al=some r∧St w0 (Zj col) af ae∧Sl rU af ae ap aq ak∧Sl rU af ae ar au al∧Zg 39 1 af ae a3 #[.bool ao,.slice ap ak.length aq,.slice ar al.length au]∧Zg 39 2 af ae ba #[.bool false,(nI),(nI)]) ?_ ?_
 ·intro f ae hJ;obtain ⟨af,ao,ap,aq,ak,ar,au,al,hm,aa,av,aw,ab,ac⟩:=hJ;rw [Zh3.eq_1] at hm;refine go ?_;refine lV _ (Z8 isAgg39 sizeOf39 ab)<|Zy ac ?_;intro bn ax bb bc;refine go ?_;cases hm;replace aa:=aa.kp ax bb;exact ⟨rfl,_,ra bc.atN,_,_,_,_,_,rfl,aa.fin (cm []),aa.fs (av.kp ax),aa.fs (aw.kp ax)⟩
 refine go ?_;refine Xl ab ?_;obtain ⟨bo,bd,hm⟩:=bZ hm;refine Zi (Zp8 3 bd (aj.ks aa)) ?_;rintro _ bp ⟨be,bq,br,rfl,ay,bs⟩;refine ⟨_,rfl,go ?_⟩;replace ab:=ab.gr ay;replace ac:=ac.gr ay;replace aa:=aa.grow ay;refine Zo hm (fun hb hm=>?_) fun hb hm=>?_
 ·refine Ve ?_;obtain ⟨a5,bf,hm⟩:=bZ hm;refine Zi (Zjz (col:=be) 4 bf) ?_;rintro _ bt ⟨bg,a6,a7,rfl,az,ag⟩;refine ⟨_,rfl,?_⟩;refine Yx ⟨_,_,rfl⟩ ?_;replace ab:=ab.gr az;refine Tt (off:=2) (v:=(.slice a6 a5.length a7)) ab sizeOf35 rfl rfl (by intro u hu;simp only [Value.cells,aO,bG,or_false] at hu;subst hu;rfl) rfl rfl ?_;intro bh a0 bi ah;replace ah:Zg 39 1 bg bh a3 #[.bool ad.1.1,.slice an ad.1.2.length am,.slice a6 a5.length a7]:=ah;refine Zk ?_;replace ag:=ag.kp a0;replace ac:=(ac.gr az).kp a0;replace ac:=ac.froz 4;replace aa:=(aa.grow az).kp a0 bi;replace aa:=aa.froz 4 (by decide) (by decide);exact ⟨rfl,_,_,_,_,_,_,_,_,hm,aa,(ai.ks aa),(ag).toSlF (Zh.int .u32),ah.froz 4,ac⟩
 refine Yj ?_;exact ⟨rfl,_,_,_,_,_,_,_,_,hm,aa,(ai.ks aa),(aj.ks aa),ab,ac⟩
theorem Z6y:Wa prog 39 3 56:=⟨Tryz.t39,_,rfl,rfl,rfl,rfl,rfl⟩
def Zdp (N:Nat):List R1→R4→Option R4
  | [],ab=>some ab
  | ac :: ad,ab=>(Zca N ((ac.1.1,ac.1.2),ac.2)).bind fun aa=>Z4 ((ab.length+[((aa.1.1,aa.1.2),aa.2)].length) * 56≤140737488355328∧ab.length+[((aa.1.1,aa.1.2),aa.2)].length≤maxLen) ((Zdp N ad) (ab++[((aa.1.1,aa.1.2),aa.2)]))
termination_by structural x=>x
def Zh4 (N:Nat) (aa:R4):Option R4:=
  Z4 (aa.length * 56≤281474976710656∧aa.length≤maxLen) (Zdp N aa ([]:List R1))
theorem Zuj {N ar:Nat} {a0:Option Addr} {col:Zd} {w0:World} {ac r:R4} (c1:Nat) (hm:Zh4 N ac=some r) (h0:Sl (Za.pair (Za.pair Za.bool (Za.slice rU)) (Za.slice rU)) col w0 a0 ar ac):
    Calls prog 89 #[.slice a0 ac.length ar] w0 (fun e w'=>∃ (col':Zd) (ra1:Option Addr) (rc2:Nat),e= .returned ((.slice ra1 r.length rc2))∧Zf col w0 col' w'∧Zb (Za.pair (Za.pair Za.bool (Za.slice rU)) (Za.slice rU)) 39 c1 col' w' ra1 rc2 r):=by
 refine Xe 2 (m:=22) func89 rfl rfl rfl rfl rfl ?_;rw [Zh4.eq_1] at hm;have ab:=St.start col w0;refine go ?_;obtain ⟨au,hm⟩:=Z9 hm;refine Zw4 (col:=(Zj col)) (w:=w0) (r:=(Za.pair (Za.pair Za.bool (Za.slice rU)) (Za.slice rU))) (n:=ac.length) 1 rfl underlying114 Z6y rfl rfl rfl au.1 au.2 ?_;intro bt bu bv a2 a3;refine go ?_;replace ab:=ab.grow a2;refine Zv [10,9,1000000] (fun n f ak=>∃ af ad al am ag ae,n=ae.length∧ac.drop ad=ae∧Zdp N ae ag=some r∧St w0 (Zj col) af ak∧Zb (Za.pair (Za.pair Za.bool (Za.slice rU)) (Za.slice rU)) 39 1 af ak al am ag∧[11,3].map f=[.int .i64 ad,.slice al ag.length am]) ac.length ⟨_,0,_,_,_,_,rfl,rfl,hm,ab,a3,rfl⟩ ?_;clear hm;intro n f ak hI;obtain ⟨af,ad,al,am,ag,ae,hn,hl,hm,ab,ah,hs⟩:=hI;subst hn;refine .lL [11,3] hs ?_;replace h0:=h0.k0
 cases ae with
 | nil=>
  have hk:¬ ((ad:Int)<(ac.length:Int)):=by have:=aG.1 hl;omega
  have hkb:=decide_eq_false hk;rw [Zdp.eq_1] at hm;refine go ?_;refine X0 (congrArg Value.bool hkb)<|go ?_;cases hm;exact ⟨rfl,_,_,_,rfl,ab.fin (cm [(1,c1)]),ab.fo ah⟩
 | cons an a4=>
  obtain ⟨ao,a5,a6⟩:=Yf hl;have hk:(ad:Int)<(ac.length:Int):=by omega
  have hkb:=decide_eq_true hk;rw [Zdp.eq_2] at hm;refine go ?_;refine X1 (congrArg Value.bool hkb)<|go ?_;refine lI ao ((h0.ks ab).addr ao) ?_;obtain ⟨_,a7,a8⟩:=(h0.ks ab).atN ao;obtain ⟨_,_,rfl,a9,ba⟩:=Vr a7;obtain ⟨_,_,rfl,bb,bc⟩:=Vr a9;obtain ⟨rfl,_⟩:=bb;obtain ⟨⟨bd,be,rfl,ap⟩,_⟩:=bc;obtain ⟨⟨bf,bg,rfl,aq⟩,_⟩:=ba;refine lV (.agg #[.bool an.1.1,.slice bd an.1.2.length be,.slice bf an.2.length bg]) (Y9 isAgg39 sizeOf39 rfl rfl a8)<|Xk (col:=af) #[.bool false,(nI),(nI)] 2 zeroValue39 ?_;intro bw bx bz ai bh;refine Zy bh ?_;intro b0 aj bi bj;refine go ?_;refine lV _ (Z8 isAgg39 sizeOf39 bj) ?_;obtain ⟨aa,bk,hm⟩:=bZ hm;refine Zi (Zui bk ((ap.gr ai).kp aj) ((aq.gr ai).kp aj)) ?_;rintro _ b1 ⟨bm,av,aw,ax,ay,rfl,az,bn,bo⟩;refine ⟨_,rfl,?_⟩;refine V9 (col:=bm) (r:=(Za.pair (Za.pair Za.bool (Za.slice rU)) (Za.slice rU))) (xs:=[((aa.1.1,aa.1.2),aa.2)]) [(.agg #[.bool aa.1.1,.slice av aa.1.2.length aw,.slice ax aa.2.length ay])] 3 (Wg.ofF (Rows.consF (r:=(Za.pair (Za.pair Za.bool (Za.slice rU)) (Za.slice rU))) (x:=((aa.1.1,aa.1.2),aa.2)) (cs:=[.bool aa.1.1,.slice av aa.1.2.length aw,.slice ax aa.2.length ay]) (Zgh (Zgh (Zai aa.1.1) (Zl3 bn)) (Zl3 bo)) Rows.nil0)) ?_;intro b2 b3 b4 a1 bp;obtain ⟨bq,hm⟩:=Z9 hm;refine Vy ((((ah.gr ai).kp aj).gr az).gr a1) (bp.srcN (NB.pair (NB.pair NB.bool NB.slice) NB.slice)) bq ?_;intro b5 b6 b7 b8 br bs;refine go ?_;replace ab:=((((ab.grow ai).kp aj bi).grow az).grow a1).kpp br;exact ⟨a4.length,by simp,rfl,⟨_,_,_,_,_,_,rfl,a5,hm,ab,bs,(Yl (congrArg (Value.int .i64) (Yi (aE a6 (h0.ks ab).1.1))) rfl)⟩⟩
def Zd7 (N:Nat) (ab:List R1) (ac:Int):Nat→Int→Option R9
  | 0,_=>none
  | ad+1,aa=>if (decide (aa<(ab.length:Int)))=true then (Z4 ((0:Int)≤aa∧aa≤(ab.length:Int)) (Z4 ((0:Int)≤aa∧aa≤(i64.wrap (aa+(if ((ab.drop (aA aa)).length:Int)<ac then ((ab.drop (aA aa)).length:Int) else ac)))∧(i64.wrap (aa+(if ((ab.drop (aA aa)).length:Int)<ac then ((ab.drop (aA aa)).length:Int) else ac)))≤(i64.wrap (aa+(if ((ab.drop (aA aa)).length:Int)<ac then ((ab.drop (aA aa)).length:Int) else ac)))∧(i64.wrap (aa+(if ((ab.drop (aA aa)).length:Int)<ac then ((ab.drop (aA aa)).length:Int) else ac)))≤(ab.length:Int)) (((Zd7 N ab ac ad) (i64.wrap (aa+ac))).bind fun ae=>some ((ab.take (aA (i64.wrap (aa+(if ((ab.drop (aA aa)).length:Int)<ac then ((ab.drop (aA aa)).length:Int) else ac))))).drop (aA aa) :: ae)))) else (some [])
termination_by structural x=>x
def Zn5 (N:Nat) (aa:List R1) (ab:Int):Option R9:=
  Zd7 N aa ab N 0
theorem Z5s (N:Nat) (col:Zd) (w0:World) (g0:Nat) (af0:Option Addr) (capf0:Nat) (ab:List R1) (hf0:Sl (Za.pair (Za.pair Za.bool (Za.slice rU)) (Za.slice rU)) col w0 af0 capf0 ab) (hb0:Zg 114 450 col w0 g0 #[.slice af0 ab.length capf0]) (g1:Nat) (ac:Int) (hb1:Zg 3 450 col w0 g1 #[.int .i64 ac]) (r:List R4) (hm:Zn5 N ab ac=some r):
    Zgo prog 1 196 [.pointer (some ⟨g0,0,none⟩),.pointer (some ⟨g1,0,none⟩)] (fun (y:List R1) (col:Zd) (w:World) (args:List Value)=>∃ (a0:Option Addr) (ak:Nat),args=[.slice a0 y.length ak]∧Sl (Za.pair (Za.pair Za.bool (Za.slice rU)) (Za.slice rU)) col w a0 ak y) r col w0:=by
 intro l J X hjs hxs hy ad;refine Zel (m:=31) (args:=[.func (.yield l) #[] #[],.pointer (some ⟨g0,0,none⟩),.pointer (some ⟨g1,0,none⟩)]) func196 rfl rfl rfl rfl ?_;rw [Zn5.eq_1] at hm;refine go ?_;refine Zv [0,1,2,1000000] (fun n f ah=>∃ ae r aa af,af=n∧Zd7 N ab ac af aa=some r∧J r ae ah∧Sl (Za.pair (Za.pair Za.bool (Za.slice rU)) (Za.slice rU)) ae ah af0 capf0 ab∧Zg 114 450 ae ah g0 #[.slice af0 ab.length capf0]∧Zg 3 450 ae ah g1 #[.int .i64 ac]∧[4].map f=[.int .i64 aa]) N ⟨_,_,0,_,rfl,hm,ad,hf0,hb0,hb1,rfl⟩ ?_;clear hm;intro n f ah hI;obtain ⟨ae,r,aa,af,hn,hm,ad,hf0,hb0,hb1,hs⟩:=hI;subst hn;refine .lL [4] hs ?_
 cases af with
 | zero=>rw [Zd7.eq_1] at hm;cases hm
 | succ af=>
  rw [Zd7.eq_2] at hm;refine go ?_;refine lW hb0.at1<|go ?_;refine Zo hm (fun hb hm=>go ?_) fun hb hm=>go ?_
  ·refine Vs (col:=ae) (by kernel_rfl) (by kernel_rfl)<|qW (fun _ hC=>hb1.at1.gr (hC.bl ae)) ?_;refine qW (fun _ hC=>hb0.at1.gr (hC.bl ae)) ?_;refine go ?_;obtain ⟨al,hm⟩:=Z9 hm;have ap:=hf0.drop (sz:=3) rfl (aA aa);refine qv (v:=.slice (if capf0=(aA aa) then af0 else af0.map (·.add ((aA aa) * 3))) (ab.length - (aA aa)) (capf0 - (aA aa))) rfl (fun _ hC=>Z9v underlying114 sizeOf39 rfl rfl al.1 al.2) ?_;generalize (if capf0=(aA aa) then af0 else af0.map (·.add ((aA aa) * 3)))=am at *;refine .ld (d:=16) (v:=(.slice am ((ab.drop (aA aa)).length) (capf0 - (aA aa)))) (congrArg (fun n=>Value.slice am n (capf0 - (aA aa))) (bP (i:=(aA aa)) (l:=ab)).symm) ?_;refine go ?_;refine qv (v:=(.int .i64 (if ((ab.drop (aA aa)).length:Int)<ac then ((ab.drop (aA aa)).length:Int) else ac))) rfl (fun _ hC=>Zsn ac ((ab.drop (aA aa)).length:Int) rfl rfl) ?_;refine go ?_;refine Wn ?_;intro aq hC;replace hC:=hC.bl ae;replace hf0:=hf0.gr hC;replace hb0:=hb0.gr hC;replace hb1:=hb1.gr hC;replace ad:=hjs _ _ _ _ _ ad hC.toP;refine go ?_;refine lM (.func (.yield l) #[] #[])<|lW hb0.at1<|go ?_;obtain ⟨ag,hm⟩:=Z9 hm;have an:=((hf0.take (aA (i64.wrap (aa+(if ((ab.drop (aA aa)).length:Int)<ac then ((ab.drop (aA aa)).length:Int) else ac))))).recap (show (ab.take (aA (i64.wrap (aa+(if ((ab.drop (aA aa)).length:Int)<ac then ((ab.drop (aA aa)).length:Int) else ac))))).length≤(aA (i64.wrap (aa+(if ((ab.drop (aA aa)).length:Int)<ac then ((ab.drop (aA aa)).length:Int) else ac)))) by rw [cP (i:=(aA (i64.wrap (aa+(if ((ab.drop (aA aa)).length:Int)<ac then ((ab.drop (aA aa)).length:Int) else ac))))) (l:=ab)];have:=ag.2;omega)).drop (sz:=3) rfl (aA aa);refine lv (v:=.slice (if (aA (i64.wrap (aa+(if ((ab.drop (aA aa)).length:Int)<ac then ((ab.drop (aA aa)).length:Int) else ac))))=(aA aa) then af0 else af0.map (·.add ((aA aa) * 3))) ((aA (i64.wrap (aa+(if ((ab.drop (aA aa)).length:Int)<ac then ((ab.drop (aA aa)).length:Int) else ac)))) - (aA aa)) ((aA (i64.wrap (aa+(if ((ab.drop (aA aa)).length:Int)<ac then ((ab.drop (aA aa)).length:Int) else ac)))) - (aA aa))) rfl rfl (Z9w underlying114 sizeOf39 rfl rfl rfl rfl ag.1 ag.2.1 ag.2.2.1 (by have:=hf0.1.2;have:=ag.2.2.2;omega)) ?_
   generalize (if (aA (i64.wrap (aa+(if ((ab.drop (aA aa)).length:Int)<ac then ((ab.drop (aA aa)).length:Int) else ac))))=(aA aa) then af0 else af0.map (·.add ((aA aa) * 3)))=ai at *;refine .ld (d:=28) (v:=(.slice ai (((ab.take (aA (i64.wrap (aa+(if ((ab.drop (aA aa)).length:Int)<ac then ((ab.drop (aA aa)).length:Int) else ac))))).drop (aA aa)).length) ((aA (i64.wrap (aa+(if ((ab.drop (aA aa)).length:Int)<ac then ((ab.drop (aA aa)).length:Int) else ac)))) - (aA aa)))) (congrArg (fun n=>Value.slice ai n ((aA (i64.wrap (aa+(if ((ab.drop (aA aa)).length:Int)<ac then ((ab.drop (aA aa)).length:Int) else ac)))) - (aA aa))) (show (aA (i64.wrap (aa+(if ((ab.drop (aA aa)).length:Int)<ac then ((ab.drop (aA aa)).length:Int) else ac)))) - (aA aa)=((ab.take (aA (i64.wrap (aa+(if ((ab.drop (aA aa)).length:Int)<ac then ((ab.drop (aA aa)).length:Int) else ac))))).drop (aA aa)).length by rw [bP (i:=(aA aa)) (l:=ab.take (aA (i64.wrap (aa+(if ((ab.drop (aA aa)).length:Int)<ac then ((ab.drop (aA aa)).length:Int) else ac))))),cP (i:=(aA (i64.wrap (aa+(if ((ab.drop (aA aa)).length:Int)<ac then ((ab.drop (aA aa)).length:Int) else ac))))) (l:=ab)];have:=ag.2;omega)) ?_;obtain ⟨ar,hc_14m,ao⟩:=bZ hm;cases ao;have hm:=hc_14m;refine ly1 rfl rfl rfl (hy _ _ _ _ [(.slice ai (((ab.take (aA (i64.wrap (aa+(if ((ab.drop (aA aa)).length:Int)<ac then ((ab.drop (aA aa)).length:Int) else ac))))).drop (aA aa)).length) ((aA (i64.wrap (aa+(if ((ab.drop (aA aa)).length:Int)<ac then ((ab.drop (aA aa)).length:Int) else ac)))) - (aA aa)))] ad ⟨ai,((aA (i64.wrap (aa+(if ((ab.drop (aA aa)).length:Int)<ac then ((ab.drop (aA aa)).length:Int) else ac)))) - (aA aa)),rfl,an⟩) ?_;rintro _ au ⟨av,aj,⟨rfl,hJ⟩ | ⟨rfl,hX⟩⟩
   ·refine ⟨_,rfl,?_⟩;have ad:=hJ;refine go ?_;refine X0 rfl<|go ?_;replace hb1:=hb1.kpp aj;refine lW hb1.at1<|go ?_;replace hf0:=hf0.kpp aj;replace hb0:=hb0.kpp aj;exact ⟨af,by omega,rfl,⟨_,_,_,_,rfl,hm,ad,hf0,hb0,hb1,rfl⟩⟩
   refine ⟨_,rfl,?_⟩;have ad:=hX;refine go ?_;refine X1 rfl<|Vd ?_;exact ⟨rfl,⟨_,rfl⟩,_,.inr ad⟩
  cases hm;exact ⟨rfl,⟨_,rfl⟩,_,.inl ad⟩
def Zn6 (N:Nat) (aa:R4) (ab:Int):Option R9:=
  Zn5 N aa ab
def Zn4 (N:Nat) (ab:R4) (aa:Int):Option R9:=
  if (decide (aa<1))=true then none else (Zn6 N ab aa)
theorem Z5r {N aa:Nat} {a0:Option Addr} {col:Zd} {w0:World} {ac:R4} {ad:Int} {r:R9} (hm:Zn4 N ac ad=some r) (h0:Sl (Za.pair (Za.pair Za.bool (Za.slice rU)) (Za.slice rU)) col w0 a0 aa ac):
    Calls prog 162 #[.slice a0 ac.length aa,.int .i64 ad] w0 (fun e w'=>∃ (col':Zd) (rv1:Value),e= .returned (rv1)∧Zf col w0 col' w'∧It prog 1 rv1 (fun (y:List R1) (col:Zd) (w:World) (args:List Value)=>∃ (a0:Option Addr) (aa:Nat),args=[.slice a0 y.length aa]∧Sl (Za.pair (Za.pair Za.bool (Za.slice rU)) (Za.slice rU)) col w a0 aa y) r q0 col' w'):=by
 refine Xe 4 (m:=9) func162 rfl rfl rfl rfl rfl ?_;rw [Zn4.eq_1] at hm;have ab:=St.start col w0;refine go ?_;refine Zc4 (col:=(Zj col)) (v:=(.slice a0 ac.length aa)) 1 rfl rfl ?_;intro af ap an aq ae;replace ae:Zg 114 1 an ap af #[.slice a0 ac.length aa]:=ae;refine Zc4 (col:=an) (v:=(.int .i64 ad)) 2 rfl rfl ?_;intro ag ar au ao ah;replace ah:Zg 3 2 au ar ag #[.int .i64 ad]:=ah;refine lv (v:=_) rfl rfl (T3 rfl)<|Zk<|Zz ?_;replace ab:=(ab.grow aq).grow ao;replace ae:=ae.gr ao;refine Wp.cutK [2,3,1000000] (fun f aj=>∃ ai,Zn6 N ac ad=some r∧St w0 (Zj col) ai aj∧Zg 114 1 ai aj af #[.slice a0 ac.length aa]∧Zg 3 2 ai aj ag #[.int .i64 ad]) ?_ ?_
 ·intro f aj hJ;obtain ⟨ai,hm,ab,ae,ah⟩:=hJ;rw [Zn6.eq_1] at hm;refine go ?_;refine lV (.func (.func 196) #[] #[.pointer (some ⟨af,0,none⟩),.pointer (some ⟨ag,0,none⟩)]) (Zsl rfl rfl)<|lA (.func (.func 196) #[] #[.pointer (some ⟨af,0,none⟩),.pointer (some ⟨ag,0,none⟩)])<|go ?_;have ak:=ab.finBox (G:=(fun n=>bif aI n 1 then 450 else bif aI n 2 then 450 else 0)) ae (by decide) (by decide) (show (fun n=>bif aI n 1 then 450 else bif aI n 2 then 450 else 0) 1=450 from rfl);have h0f:=ab.finSl (g:=(fun n=>bif aI n 1 then 450 else bif aI n 2 then 450 else 0)) rfl (h0.k0.ks ab);have al:=ab.finBox (G:=(fun n=>bif aI n 1 then 450 else bif aI n 2 then 450 else 0)) ah (by decide) (by decide) (show (fun n=>bif aI n 1 then 450 else bif aI n 2 then 450 else 0) 2=450 from rfl);refine ⟨rfl,V7 w0.heap.size col ai (fun n=>bif aI n 1 then 450 else bif aI n 2 then 450 else 0),_,rfl,ab.fin (fun n=>bif aI n 1 then 450 else bif aI n 2 then 450 else 0),196,[.pointer (some ⟨af,0,none⟩),.pointer (some ⟨ag,0,none⟩)],rfl,call196,?_⟩;intro col9 w9 am hk9;exact Z5s N col9 w9 af a0 aa ac (h0f.itk am hk9 rfl) (ak.itk am hk9 rfl) ag ad (al.itk am hk9 rfl) r hm
 refine go ?_;refine lW ah.at1<|go ?_;refine Zo hm (fun hb hm=>?_) fun hb hm=>?_
 ·cases hm
 refine Yj ?_;exact ⟨rfl,_,hm,ab,ae,ah⟩
def Zfa (N:Nat):Option R1:=
  (Zde N 1 1).bind fun aa=>some ((aa.1.1.1,aa.1.1.2),aa.1.2)
theorem Zp5 {N:Nat} {col:Zd} {w0:World} {r:R1} (c1 c2:Nat) (hm:Zfa N=some r):
    Calls prog 103 #[] w0 (fun e w'=>∃ (col':Zd) (ra1:Option Addr) (rc2:Nat) (ra4:Option Addr) (rc5:Nat),e= .returned ((.agg #[.bool r.1.1,.slice ra1 r.1.2.length rc2,.slice ra4 r.2.length rc5]))∧Zf col w0 col' w'∧Zb rU 95 c1 col' w' ra1 rc2 r.1.2∧Zb rU 95 c2 col' w' ra4 rc5 r.2):=by
 refine Y5 (m:=8) func103 rfl rfl rfl ?_;rw [Zfa.eq_1] at hm;have ab:=St.start col w0;refine go ?_;refine Xk (col:=(Zj col)) #[.bool false,(nI),(nI)] 1 zeroValue39 ?_;intro ay az an ao ae;refine go ?_;obtain ⟨aa,ap,hm⟩:=bZ hm;refine Zi (Zp4 (col:=an) 2 3 ap) ?_;rintro _ a0 ⟨aq,ai,aj,ak,al,rfl,am,af,ag⟩;refine ⟨_,rfl,?_⟩;refine lM (.tuple #[(.agg #[.bool aa.1.1.1,.slice ai aa.1.1.2.length aj,.slice ak aa.1.2.length al]),.int .i64 aa.2])<|lV (.agg #[.bool aa.1.1.1,.slice ai aa.1.1.2.length aj,.slice ak aa.1.2.length al]) (Xo rfl rfl)<|lV (.int .i64 aa.2) (Xo rfl rfl)<|Xk (col:=aq) #[.bool false,(nI),(nI)] 4 zeroValue39 ?_;intro a1 a2 a3 ac ar;refine Zy ar ?_;intro a4 ad au av;refine go ?_;refine lV _ (Z8 isAgg39 sizeOf39 av) ?_;refine Zy (((ae.gr am).gr ac).kp ad) ?_;intro a5 ah aw ax;refine go ?_;cases hm;replace ab:=((((ab.grow ao).grow am).grow ac).kp ad au).kp ah aw;exact ⟨rfl,_,ra ax.atN,_,_,_,_,_,rfl,ab.fin (cm [(2,c1),(3,c2)]),ab.fo (((af.gr ac).kp ad).kp ah),ab.fo (((ag.gr ac).kp ad).kp ah)⟩
def Zrg (aa:Bool):Option Bool:=
  some aa
def Zfc (N:Nat):List R4→Bool→Option Bool
  | [],ac=>some true
  | ad :: ae,ac=>(Zb2 N ad).bind fun aa=>(Zfa N).bind fun ab=>(Zhq N ((aa.1.1,aa.1.2),aa.2) ((ab.1.1,ab.1.2),ab.2)).bind fun af=>if (!decide (af=0))=true then (Zrg false) else ((Zfc N ae) ac)
termination_by structural x=>x
def Zkw (N:Nat) (aa:R4) (ab:Int):Option Bool:=
  (Zn4 N aa ab).bind fun ac=>Zfc N ac false
theorem Z4v {N ah:Nat} {a0:Option Addr} {col:Zd} {w0:World} {am:R4} {ao:Int} {r:Bool} (hm:Zkw N am ao=some r) (h0:Sl (Za.pair (Za.pair Za.bool (Za.slice rU)) (Za.slice rU)) col w0 a0 ah am):
    Calls prog 91 #[.slice a0 am.length ah,.int .i64 ao] w0 (fun e w'=>e= .returned ((.bool r))∧Below w0.heap.size w0 w'):=by
 refine Zu4 (m:=15) (args:=[.slice a0 am.length ah,.int .i64 ao]) func91 rfl rfl rfl ?_;rw [Zkw.eq_1] at hm;have aa:=St.start col w0;have hmk:Y0 499 (Zj col) w0 []:=.nil;refine go ?_;refine Zax (col:=(Zj col)) (v:=(.bool false)) 1 rfl zeroValue4 ?_;intro ai a4 a5 ax ab;replace ab:Zg 4 1 a5 a4 ai #[.bool false]:=ab;refine go ?_;obtain ⟨a6,a7,hm⟩:=bZ hm;replace aa:=aa.grow ax;refine Zi (Z5r a7 (h0.k0.ks aa)) ?_;rintro _ bq ⟨a8,br,rfl,ap,a9⟩;refine ⟨_,rfl,go ?_⟩;replace hmk:=(hmk.gr ax).gr ap;replace ab:=ab.gr ap;replace aa:=aa.grow ap;refine Zmc (psl:=[9]) (arr:=(fun (y:List R1) (col:Zd) (w:World) (args:List Value)=>∃ (a0:Option Addr) (ah:Nat),args=[.slice a0 y.length ah]∧Sl (Za.pair (Za.pair Za.bool (Za.slice rU)) (Za.slice rU)) col w a0 ah y)) (ys:=a6) (col:=a8) 498 rfl a9 rfl hmk rfl rfl (by rintro _ _ _ _ ⟨_,_,rfl,_⟩;rfl) (fun ys_ ad ae=>∃ (ac:Bool),Zfc N ys_ ac=some r∧St w0 (Zj col) ad ae∧Zg 4 1 ad ae ai #[.bool ac]) (fun c_ ad ae=>(c_= .ret∧∃ (ac:Bool),Zrg ac=some r∧St w0 (Zj col) ad ae∧Zg 4 1 ad ae ai #[.bool ac])) ?_ ?_ ⟨false,hm,aa,ab⟩ ?_ ?_ ?_
 ·intro ys_ ad ae col2_ w2_ hJ hk;obtain ⟨ac,hm,aa,ab⟩:=hJ;exact ⟨ac,hm,aa.kpp hk rfl rfl,ab.kpp hk rfl⟩
 ·intro c_ ad ae col2_ w2_ hX hk;obtain ⟨rfl,hX⟩:=hX;obtain ⟨ac,hm,aa,ab⟩:=hX;exact ⟨rfl,⟨ac,hm,aa.kpp hk rfl rfl,ab.kpp hk rfl⟩⟩
 ·intro bs bt bu bv bw ad ae args hJ hrec hmk harr;obtain ⟨ac,hm,aa,ab⟩:=hJ;rw [Zfc.eq_2] at hm;have hki:=Zt.refl (pC 1) ad ae;obtain ⟨bx,bz,rfl,aq⟩:=harr;refine go ?_;refine ⟨_,hrec,?_⟩;intro b0 b1 aj ay hrec2;have hrec:=hrec2;refine go ?_;obtain ⟨b2,ba,hm⟩:=bZ hm;refine Zi (Zms 2 3 ba (aq.kp aj)) ?_;rintro _ b3 ⟨bb,b4,b5,b6,b7,rfl,ak,ar,au⟩;refine ⟨_,rfl,?_⟩;obtain ⟨b8,bc,hm⟩:=bZ hm;refine lc rfl rfl (Zea call103) (Zp5 (col:=bb) 4 5 bc:) ?_;rintro _ bd ⟨av,b9,ca,cb,cc,rfl,af,be,bf⟩;refine ⟨_,rfl,?_⟩;obtain ⟨cd,bg,hm⟩:=bZ hm;refine Zi (Zud bg (((((ar.gr af).toSlF (Zh.int .u32)).froz 3).froz 4).froz 5) (((((au.gr af).froz 2).toSlF (Zh.int .u32)).froz 4).froz 5) ((((be.froz 2).froz 3).toSlF (Zh.int .u32)).froz 5) ((((bf.froz 2).froz 3).froz 4).toSlF (Zh.int .u32))) ?_;rintro _ bh ⟨rfl,ag⟩;refine ⟨_,rfl,?_⟩;replace ag:Zf av bd av bh:=.of_below ag;refine go ?_;replace ab:=(((ab.kp aj).gr ak).gr af).gr ag;replace hmk:=(((hmk.kp aj).gr ak).gr af).gr ag;replace hki:=(((hki.kp aj ay rfl).gr ak).gr af).gr ag;replace aa:=(((aa.kp aj ay).grow ak).grow af).grow ag;replace hrec:=((hrec.gr ak).gr af).gr ag;refine Zo hm (fun hb hm=>go ?_) fun hb hm=>?_
  ·refine Sp (v:=(.bool false)) ab sizeOf4 rfl rfl (by intro u hu;simp only [Value.cells,aO,bG,or_false] at hu;subst hu;rfl) rfl rfl ?_;intro bi an az aw;replace aw:Zg 4 1 av bi ai #[.bool false]:=aw;refine go ?_;replace hrec:=hrec.kp an;replace hmk:=hmk.kp an;replace hki:=hki.kp an az rfl;replace aa:=aa.kp an az;exact ⟨_,hki,⟨rfl,⟨false,hm,aa,aw⟩⟩,hrec,hmk⟩
  refine Yj ?_;exact ⟨_,hki,⟨ac,hm,aa,ab⟩,hrec,hmk⟩
 ·intro bj ad ae hJ hmk;obtain ⟨ac,hm,aa,ab⟩:=hJ;rw [Zfc.eq_1] at hm;refine go ?_;refine Sp (v:=(.bool true)) ab sizeOf4 rfl rfl (by intro u hu;simp only [Value.cells,aO,bG,or_false] at hu;subst hu;rfl) rfl rfl ?_;intro bk a1 bm al;replace al:Zg 4 1 ad bk ai #[.bool true]:=al;refine go ?_;cases hm;replace hmk:=hmk.kp a1;refine ⟨_,(bj :: []),rfl,hmk,?_⟩;intro ce a2 bn;replace aa:=(aa.kp a1 bm).kp a2 bn;exact ⟨_,Z0d rfl rfl isAgg4 rfl (al.kp a2).at1,rfl,aa.below⟩
 intro c_ bo ad ae hX hmk;obtain ⟨rfl,hX⟩:=hX;obtain ⟨ac,hm,aa,ab⟩:=hX;rw [Zrg.eq_1] at hm;refine Vd ?_;cases hm;refine ⟨_,(bo :: []),rfl,hmk,?_⟩;intro cf a3 bp;exact ⟨_,Z0d rfl rfl isAgg4 rfl (ab.kp a3).at1,rfl,(aa.kp a3 bp).below⟩
def Zh7 (aa:Bool):Option Bool:=
  some aa
def Zh6 (N:Nat) (aa:R1):Option Bool:=
  (Qf N ((aa.1.1,aa.1.2),aa.2)).bind fun ac=>if (decide (ac<0))=true then (Zh7 true) else ((Zfa N).bind fun ab=>(Zhq N ((aa.1.1,aa.1.2),aa.2) ((ab.1.1,ab.1.2),ab.2)).bind fun ad=>Zh7 (decide (0<ad)))
theorem Z4s {N al am:Nat} {an ao:Option Addr} {col:Zd} {w0:World} {ac:R1} {r:Bool} (hm:Zh6 N ac=some r) (ah:Sl rU col w0 an al ac.1.2) (ai:Sl rU col w0 ao am ac.2):
    Calls prog 90 #[(.agg #[.bool ac.1.1,.slice an ac.1.2.length al,.slice ao ac.2.length am])] w0 (fun e w'=>e= .returned ((.bool r))∧Below w0.heap.size w0 w'):=by
 refine Xe 2 (m:=12) func90 rfl rfl rfl rfl rfl ?_;rw [Zh6.eq_1] at hm;have aa:=St.start col w0;refine go ?_;refine Xi (col:=(Zj col)) 1 rfl ?_;intro a6 a7 ab ay aj;refine Zj9 rfl<|Zk<|Zz ?_;replace ah:=ah.k0;replace ai:=ai.k0;replace aa:=aa.grow ay;refine Wp.cutK [1000000] (fun f av=>∃ aw ap,Zh7 ap=some r∧St w0 (Zj col) aw av∧[2].map f=[.bool ap]) ?_ ?_
 ·intro f av hJ;obtain ⟨aw,ap,hm,aa,hs⟩:=hJ;rw [Zh7.eq_1] at hm;refine .lL [2] hs<|Vd ?_;cases hm;exact ⟨rfl,rfl,aa.below⟩
 refine Y8 (col:=ab) [(0,0),(1,3),(2,1),(3,1),(4,0),(5,3),(6,3),(7,1),(8,1),(9,1)] (by kernel_rfl) (by kernel_rfl)<|xv rfl rfl (fun _ hC=>Z8 isAgg39 sizeOf39 (aj.gr (hC.bl ab))) ?_;refine xe rfl rfl ?_;intro az hC0;have hC:=hC0.bl ab;obtain ⟨ae,a0,hm⟩:=bZ hm;replace aa:=aa.grow hC;refine Zi (Zmr a0 (ah.ks aa) (ai.ks aa)) ?_;rintro _ a1 ⟨rfl,ag⟩;refine ⟨_,rfl,?_⟩;replace ag:Zf ab az ab a1:=.of_below ag;refine Zk<|Xj ab hC0 ag<|xu rfl rfl (fun _=>Zo0 _ _ rfl rfl) ?_;refine xu rfl rfl (fun _=>Zsm rfl) ?_;replace aj:=(aj.gr hC).gr ag;replace aa:=aa.grow ag;refine Yr hm (fun ad hm=>?_) fun ad hm=>?_
 ·refine Zal (b:=decide (ae<0)) 6 rfl rfl rfl rfl rfl (by rw [ad];rfl)<|Zal (b:=decide (ae<0)) 6 rfl rfl rfl rfl rfl (by rw [ad];rfl)<|Zal (b:=decide (ae<0)) 6 rfl rfl rfl rfl rfl (by rw [ad];rfl)<|Zal (b:=decide (ae<0)) 6 rfl rfl rfl rfl rfl (by rw [ad];rfl)<|xu (v:=(.bool true)) rfl rfl (fun _=>Ye (congrArg Value.bool ad) rfl) ?_;refine xu rfl rfl (fun _=>Zjh rfl) ?_;refine Yz ?_;intro a8 hC;replace hC:=hC.bl ab;replace aa:=aa.grow hC;exact ⟨rfl,_,_,hm,aa,rfl⟩
 refine Zto (v:=(.agg #[.bool ac.1.1,.slice an ac.1.2.length al,.slice ao ac.2.length am])) (b:=decide (ae<0)) 6 rfl rfl rfl rfl rfl (by rw [ad];rfl) (fun _ hC=>Y9 isAgg39 sizeOf39 rfl rfl (aj.atN.gr (hC.bl ab))) ?_;refine xe rfl rfl ?_;intro a9 hC0;have hC:=hC0.bl ab;refine go ?_;obtain ⟨ba,a2,hm⟩:=bZ hm;refine lc rfl rfl (Zea call103) (Zp5 (col:=ab) 6 7 a2:) ?_;rintro _ bb ⟨af,bc,bd,be,bf,rfl,ax,aq,ar⟩;refine ⟨_,rfl,?_⟩;refine Zk<|Xj af hC0 ax<|xe rfl rfl ?_;intro a3 hC0;replace aa:=(aa.grow hC).grow ax;have hC:=hC0.bl af;refine go ?_;obtain ⟨au,a4,hm⟩:=bZ hm;replace aa:=aa.grow hC;refine Zi (Zud a4 (((ah.ks aa).froz 6).froz 7) (((ai.ks aa).froz 6).froz 7) (((aq.gr hC).toSlF (Zh.int .u32)).froz 7) (((ar.gr hC).froz 6).toSlF (Zh.int .u32))) ?_;rintro _ a5 ⟨rfl,ak⟩;refine ⟨_,rfl,?_⟩;replace ak:Zf af a3 af a5:=.of_below ak;refine Zk<|Xj af hC0 ak<|Z28 (v:=(.bool (decide (0<au)))) (b:=decide (ae<0)) 6 rfl rfl rfl rfl rfl (by rw [ad];rfl) (fun _=>Zoz au 0 rfl rfl) ?_;refine xu (v:=(.bool (decide (0<au)))) rfl rfl (fun _=>Yd (congrArg Value.bool ad) rfl) ?_;refine xu rfl rfl (fun _=>Zjh rfl) ?_;refine Yz ?_;intro bg hC;exact ⟨rfl,_,_,hm,(aa.grow ak).grow (hC.bl af),rfl⟩
def Zf7 (N:Nat):List R1→Nat→Option Int
  | [],aa=>some (-1)
  | ab :: ac,aa=>(Zh6 N ((ab.1.1,ab.1.2),ab.2)).bind fun ad=>if ad=true then (some (aa:Int)) else ((Zf7 N ac) (aa+1))
termination_by structural x=>x
def Zn8 (N:Nat) (aa:R4):Option Int:=
  Zf7 N aa 0
theorem Z5v {N aj:Nat} {a0:Option Addr} {col:Zd} {w0:World} {ab:R4} {r:Int} (hm:Zn8 N ab=some r) (h0:Sl (Za.pair (Za.pair Za.bool (Za.slice rU)) (Za.slice rU)) col w0 a0 aj ab):
    Calls prog 161 #[.slice a0 ab.length aj,(.func (.func 90) #[] #[])] w0 (fun e w'=>e= .returned ((.int .i64 r))∧Below w0.heap.size w0 w'):=by
 refine Xe 4 (m:=19) func161 rfl rfl rfl rfl rfl ?_;rw [Zn8.eq_1] at hm;have aa:=St.start col w0;refine go ?_;refine Zv [0,1,7,1000000] (fun n f af=>∃ ae ac ad,n=ad.length∧ab.drop ac=ad∧Zf7 N ad ac=some r∧St w0 (Zj col) ae af∧[8].map f=[.int .i64 ac]) ab.length ⟨_,0,_,rfl,rfl,hm,aa,rfl⟩ ?_;clear hm;intro n f af hI;obtain ⟨ae,ac,ad,hn,hl,hm,aa,hs⟩:=hI;subst hn;refine .lL [8] hs ?_;replace h0:=h0.k0
 cases ad with
 | nil=>
  have hk:¬ ((ac:Int)<(ab.length:Int)):=by have:=aG.1 hl;omega
  have hkb:=decide_eq_false hk;rw [Zf7.eq_1] at hm;refine go ?_;refine X0 (congrArg Value.bool hkb)<|go ?_;cases hm;exact ⟨rfl,rfl,aa.below⟩
 | cons ag ak=>
  obtain ⟨ah,al,am⟩:=Yf hl;have hk:(ac:Int)<(ab.length:Int):=by omega
  have hkb:=decide_eq_true hk;rw [Zf7.eq_2] at hm;refine go ?_;refine X1 (congrArg Value.bool hkb)<|go ?_;refine lM (.func (.func 90) #[] #[])<|go ?_;refine lI ah ((h0.ks aa).addr ah) ?_;obtain ⟨_,an,ao⟩:=(h0.ks aa).atN ah;obtain ⟨_,_,rfl,ap,aq⟩:=Vr an;obtain ⟨_,_,rfl,ar,au⟩:=Vr ap;obtain ⟨rfl,_⟩:=ar;obtain ⟨⟨av,aw,rfl,ax⟩,_⟩:=au;obtain ⟨⟨ay,az,rfl,a1⟩,_⟩:=aq;refine lV (.agg #[.bool ag.1.1,.slice av ag.1.2.length aw,.slice ay ag.2.length az]) (Y9 isAgg39 sizeOf39 rfl rfl ao) ?_;obtain ⟨a4,a2,hm⟩:=bZ hm;refine lc rfl rfl (Zzp call90 rfl rfl) (Z4s a2 ax a1:) ?_;rintro _ a3 ⟨rfl,ai⟩;refine ⟨_,rfl,?_⟩;replace ai:Zf ae af ae a3:=.of_below ai;refine Zk ?_;replace aa:=aa.grow ai;refine Zo hm (fun hb hm=>go ?_) fun hb hm=>go ?_
  ·cases hm;exact ⟨rfl,rfl,aa.below⟩
  exact ⟨ak.length,by simp,rfl,⟨_,_,_,rfl,al,hm,aa,(Yl (congrArg (Value.int .i64) (Yi (aE am (h0.ks aa).1.1))) rfl)⟩⟩
def Zn7 (N:Nat) (aa:R4):Option Bool:=
  (Zn8 N aa).bind fun ab=>some (decide (0≤ab))
theorem Z5t {N ad:Nat} {a0:Option Addr} {col:Zd} {w0:World} {ab:R4} {r:Bool} (hm:Zn7 N ab=some r) (h0:Sl (Za.pair (Za.pair Za.bool (Za.slice rU)) (Za.slice rU)) col w0 a0 ad ab):
    Calls prog 88 #[.slice a0 ab.length ad,(.func (.func 90) #[] #[])] w0 (fun e w'=>e= .returned ((.bool r))∧Below w0.heap.size w0 w'):=by
 refine Xe 4 (m:=9) func88 rfl rfl rfl rfl rfl ?_;rw [Zn7.eq_1] at hm;have aa:=St.start col w0;refine go ?_;refine lM (.func (.func 90) #[] #[]) ?_;obtain ⟨ag,ae,hm⟩:=bZ hm;refine Zi (Z5v ae (h0.k0.ks aa)) ?_;rintro _ af ⟨rfl,ac⟩;refine ⟨_,rfl,?_⟩;replace ac:Zf (Zj col) w0 (Zj col) af:=.of_below ac;refine go ?_;cases hm;exact ⟨rfl,rfl,(aa.grow ac).below⟩
def Zfb (ab:R0):List Int→Int→Option Int
  | [],aa=>some aa
  | ad :: ae,aa=>(Zl ab.2.2.1 ad).bind fun ac=>(Zfb ab ae) (if 1099511627776<(i64.wrap (aa * (ac.length:Int))) then 1099511627776 else (i64.wrap (aa * (ac.length:Int))))
termination_by structural x=>x
def Zh8 (aa:R0) (ab:Int):Option Int:=
  (Zl aa.2.2.2.1 ab).bind fun ac=>Zfb aa ac 1
theorem Z4t {am an ao ap:Nat} {aq ar au av:Option Addr} {col:Zd} {w0:World} {aa:R0} {a0 r:Int} (hm:Zh8 aa a0=some r) (bc:Sl Za.str col w0 aq am aa.2.1) (ai:Sl (Za.slice Za.str) col w0 ar an aa.2.2.1) (aj:Sl (Za.slice rI) col w0 au ao aa.2.2.2.1) (bd:Sl (Za.slice (Za.pair (Za.pair Za.bool (Za.slice rU)) (Za.slice rU))) col w0 av ap aa.2.2.2.2):
    Calls prog 87 #[(.agg #[.string aa.1,.slice aq aa.2.1.length am,.slice ar aa.2.2.1.length an,.slice au aa.2.2.2.1.length ao,.slice av aa.2.2.2.2.length ap]),.int .i64 a0] w0 (fun e w'=>e= .returned ((.int .i64 r))∧Below w0.heap.size w0 w'):=by
 refine Xe 4 (m:=29) func87 rfl rfl rfl rfl rfl ?_;rw [Zh8.eq_1] at hm;have ab:=St.start col w0;refine go ?_;refine Xi (col:=(Zj col)) 1 rfl ?_;intro a1 be bf a2 ae;refine go ?_;refine Xl ae<|X4 rfl ?_;obtain ⟨af,aw,hm⟩:=bZ hm;replace aj:=aj.k0;replace ab:=ab.grow a2;refine lI aw ((aj.ks ab).addr aw) ?_;obtain ⟨_,a3,a4⟩:=(aj.ks ab).atN aw;obtain ⟨⟨a5,a6,rfl,ac⟩,_⟩:=a3;refine lW a4.one<|go ?_;refine Zv [12,13,2,1000000] (fun n f ak=>∃ al ag ad ah,n=ah.length∧af.drop ag=ah∧Zfb aa ah ad=some r∧St w0 (Zj col) al ak∧Sl rI al ak a5 a6 af∧Zg 27 1 al ak a1 #[.string aa.1,.slice aq aa.2.1.length am,.slice ar aa.2.2.1.length an,.slice au aa.2.2.2.1.length ao,.slice av aa.2.2.2.2.length ap]∧[14,5].map f=[.int .i64 ag,.int .i64 ad]) af.length ⟨_,0,1,_,rfl,rfl,hm,ab,ac,ae,rfl⟩ ?_;clear hm;intro n f ak hI;obtain ⟨al,ag,ad,ah,hn,hl,hm,ab,ac,ae,hs⟩:=hI;subst hn;refine .lL [14,5] hs ?_;replace ai:=ai.k0
 cases ah with
 | nil=>
  have hk:¬ ((ag:Int)<(af.length:Int)):=by have:=aG.1 hl;omega
  have hkb:=decide_eq_false hk;rw [Zfb.eq_1] at hm;refine go ?_;refine X0 (congrArg Value.bool hkb)<|go ?_;cases hm;exact ⟨rfl,rfl,ab.below⟩
 | cons bg a7=>
  obtain ⟨ax,a8,a9⟩:=Yf hl;have hk:(ag:Int)<(af.length:Int):=by omega
  have hkb:=decide_eq_true hk;rw [Zfb.eq_2] at hm;refine go ?_;refine X1 (congrArg Value.bool hkb)<|go ?_;refine lI ax (ac.addr ax)<|lW (ac.atInt ax) ?_;refine go ?_;refine Xl ae<|X4 rfl ?_;obtain ⟨ay,az,hm⟩:=bZ hm;refine lI az ((ai.ks ab).addr az) ?_;obtain ⟨_,ba,bb⟩:=(ai.ks ab).atN az;obtain ⟨⟨bh,bi,rfl,bj⟩,_⟩:=ba;refine lW bb.one<|go ?_;refine lV (.int .i64 (if 1099511627776<(i64.wrap (ad * (ay.length:Int))) then 1099511627776 else (i64.wrap (ad * (ay.length:Int))))) (Zsn (i64.wrap (ad * (ay.length:Int))) 1099511627776 rfl rfl)<|go ?_;exact ⟨a7.length,by simp,rfl,⟨_,_,_,_,rfl,a8,hm,ab,ac,ae,(Yl (congrArg (Value.int .i64) (Yi (aE a9 ac.1.1))) rfl)⟩⟩
def Zdo (N:Nat) (ab:R0):List R4→Nat→Option Int
  | [],aa=>some 0
  | ac :: ad,aa=>(Zl ab.2.2.1 (aa:Int)).bind fun ae=>(Zh4 N ac).bind fun af=>(Zkw N af (ae.length:Int)).bind fun ag=>if (!ag)=true then (some 46) else ((Zdo N ab ad) (aa+1))
termination_by structural x=>x
def Zb9 (N:Nat) (aa:R0):List R4→Option Int
  | []=>Zdo N aa aa.2.2.2.2 0
  | ab :: ac=>(Zh4 N ab).bind fun ad=>(Zn7 N ad).bind fun ae=>if ae=true then (some 45) else (Zb9 N aa ac)
termination_by structural x=>x
def Zb8 (N:Nat) (aa:R0):List R4→Nat→Option Int
  | [],ab=>Zb9 N aa aa.2.2.2.2
  | ae :: af,ab=>(Zh8 (aa.1,aa.2.1,aa.2.2.1,aa.2.2.2.1,aa.2.2.2.2) (ab:Int)).bind fun ac=>(Zl aa.2.2.1 (ab:Int)).bind fun ad=>if (decide (65536<(i64.wrap (ac * (ad.length:Int)))))=true then (some 4) else (if (!decide ((i64.wrap (ac * (ad.length:Int)))=(ae.length:Int)))=true then (some 60) else ((Zb8 N aa af) (ab+1)))
termination_by structural x=>x
def Zb7 (N:Nat) (aa:R0) (ad:Bool):Option Int:=
  if ad=true then (some 60) else (if (decide (1024<(aa.2.1.length:Int)))=true then (some 4) else ((Ze9 (aa.1,aa.2.1,aa.2.2.1,aa.2.2.2.1,aa.2.2.2.2)).bind fun ab=>if (!decide (ab=0))=true then (some ab) else ((Q4 N aa.2.2.2.1).bind fun ac=>if (!decide (ac=0))=true then (some ac) else (Zb8 N aa aa.2.2.2.2 0))))
def Vj (N:Nat) (aa:R0):Option Int:=
  if (!decide ((aa.2.2.1.length:Int)=(aa.2.1.length:Int)))=true then (Zb7 N aa true) else (if (!decide ((aa.2.2.2.1.length:Int)=(aa.2.1.length:Int)))=true then (Zb7 N aa true) else (Zb7 N aa (!decide ((aa.2.2.2.2.length:Int)=(aa.2.1.length:Int)))))
theorem Zmv {N aj ak al am:Nat} {an ao ap aq:Option Addr} {col:Zd} {w0:World} {ab:R0} {r:Int} (hm:Vj N ab=some r) (a2:Sl Za.str col w0 an aj ab.2.1) (ag:Sl (Za.slice Za.str) col w0 ao ak ab.2.2.1) (aw:Sl (Za.slice rI) col w0 ap al ab.2.2.2.1) (ad:Sl (Za.slice (Za.pair (Za.pair Za.bool (Za.slice rU)) (Za.slice rU))) col w0 aq am ab.2.2.2.2):
    Calls prog 20 #[(.agg #[.string ab.1,.slice an ab.2.1.length aj,.slice ao ab.2.2.1.length ak,.slice ap ab.2.2.2.1.length al,.slice aq ab.2.2.2.2.length am])] w0 (fun e w'=>e= .returned ((.int .i64 r))∧Below w0.heap.size w0 w'):=by
 refine Xe 2 (m:=103) func20 rfl rfl rfl rfl rfl ?_;rw [Vj.eq_1] at hm;have aa:=St.start col w0;refine go ?_;refine Xi (col:=(Zj col)) 1 rfl ?_;intro a3 cp cq bo ac;refine go ?_;refine Xl ac<|lV _ (Qu underlying22 rfl)<|Y6 rfl<|Zk<|Zz<|Zz ?_;replace a2:=a2.k0;replace ag:=ag.k0;replace aw:=aw.k0;replace ad:=ad.k0;replace aa:=aa.grow bo;refine Wp.cutK [1,3,1000000] (fun f a4=>∃ ah a9,Zb7 N ab a9=some r∧St w0 (Zj col) ah a4∧Zg 27 1 ah a4 a3 #[.string ab.1,.slice an ab.2.1.length aj,.slice ao ab.2.2.1.length ak,.slice ap ab.2.2.2.1.length al,.slice aq ab.2.2.2.2.length am]∧[34].map f=[.bool a9]) ?_ ?_
 ·intro f a4 hJ;obtain ⟨ah,a9,hm,aa,ac,hs⟩:=hJ;rw [Zb7.eq_1] at hm;refine .lL [34] hs ?_;refine Zo hm (fun hb hm=>go ?_) fun hb hm=>go ?_
  ·cases hm;exact ⟨rfl,rfl,aa.below⟩
  refine Zo hm (fun hb hm=>go ?_) fun hb hm=>go ?_
  ·cases hm;exact ⟨rfl,rfl,aa.below⟩
  refine lV _ (Z8 isAgg27 sizeOf27 ac) ?_;obtain ⟨cr,bp,hm⟩:=bZ hm;refine Zi (Z4r bp (a2.ks aa) (ag.ks aa) (aw.ks aa) (ad.ks aa)) ?_;rintro _ bk ⟨rfl,a5⟩;refine ⟨_,rfl,?_⟩;replace a5:Zf ah a4 ah bk:=.of_below a5;refine go ?_;replace ac:=ac.gr a5;replace aa:=aa.grow a5;refine Zo hm (fun hb hm=>go ?_) fun hb hm=>go ?_
  ·cases hm;exact ⟨rfl,rfl,aa.below⟩
  refine Xl ac ?_;obtain ⟨cs,bq,hm⟩:=bZ hm;refine Zi (Z3y bq (aw.ks aa)) ?_;rintro _ br ⟨rfl,a6⟩;refine ⟨_,rfl,?_⟩;replace a6:Zf ah bk ah br:=.of_below a6;refine go ?_;replace ac:=ac.gr a6;replace aa:=aa.grow a6;refine Zo hm (fun hb hm=>go ?_) fun hb hm=>go ?_
  ·cases hm;exact ⟨rfl,rfl,aa.below⟩
  refine Xl ac ?_;refine go ?_;refine Zv [1,49,50,1000000] (fun n f ba=>∃ ae ar ax,n=ax.length∧ab.2.2.2.2.drop ar=ax∧Zb8 N ab ax ar=some r∧St w0 (Zj col) ae ba∧Zg 27 1 ae ba a3 #[.string ab.1,.slice an ab.2.1.length aj,.slice ao ab.2.2.1.length ak,.slice ap ab.2.2.2.1.length al,.slice aq ab.2.2.2.2.length am]∧[51].map f=[.int .i64 ar]) ab.2.2.2.2.length ⟨_,0,_,rfl,rfl,hm,aa,ac,rfl⟩ ?_;clear hm;intro n f ba hI;obtain ⟨ae,ar,ax,hn,hl,hm,aa,ac,hs⟩:=hI;subst hn;refine .lL [51] hs ?_
  cases ax with
  | nil=>
   have hk:¬ ((ar:Int)<(ab.2.2.2.2.length:Int)):=by have:=aG.1 hl;omega
   have hkb:=decide_eq_false hk;rw [Zb8.eq_1] at hm;refine go ?_;refine X0 (congrArg Value.bool hkb)<|go ?_;refine Xl ac ?_;refine go ?_;refine Zv [1,74,75,1000000] (fun n f bb=>∃ bc ay az,n=az.length∧ab.2.2.2.2.drop ay=az∧Zb9 N ab az=some r∧St w0 (Zj col) bc bb∧Zg 27 1 bc bb a3 #[.string ab.1,.slice an ab.2.1.length aj,.slice ao ab.2.2.1.length ak,.slice ap ab.2.2.2.1.length al,.slice aq ab.2.2.2.2.length am]∧[76].map f=[.int .i64 ay]) ab.2.2.2.2.length ⟨_,0,_,rfl,rfl,hm,aa,ac,rfl⟩ ?_;clear hm;intro n f bb hI;obtain ⟨bc,ay,az,hn,hl,hm,aa,ac,hs⟩:=hI;subst hn;refine .lL [76] hs ?_
   cases az with
   | nil=>
    have hk:¬ ((ay:Int)<(ab.2.2.2.2.length:Int)):=by have:=aG.1 hl;omega
    have hkb:=decide_eq_false hk;rw [Zb9.eq_1] at hm;refine go ?_;refine X0 (congrArg Value.bool hkb)<|go ?_;refine Xl ac ?_;refine go ?_;refine Zv [1,85,86,1000000] (fun n f bd=>∃ ai au a0,n=a0.length∧ab.2.2.2.2.drop au=a0∧Zdo N ab a0 au=some r∧St w0 (Zj col) ai bd∧Zg 27 1 ai bd a3 #[.string ab.1,.slice an ab.2.1.length aj,.slice ao ab.2.2.1.length ak,.slice ap ab.2.2.2.1.length al,.slice aq ab.2.2.2.2.length am]∧[87].map f=[.int .i64 au]) ab.2.2.2.2.length ⟨_,0,_,rfl,rfl,hm,aa,ac,rfl⟩ ?_;clear hm;intro n f bd hI;obtain ⟨ai,au,a0,hn,hl,hm,aa,ac,hs⟩:=hI;subst hn;refine .lL [87] hs ?_
    cases a0 with
    | nil=>
     have hk:¬ ((au:Int)<(ab.2.2.2.2.length:Int)):=by have:=aG.1 hl;omega
     have hkb:=decide_eq_false hk;rw [Zdo.eq_1] at hm;refine go ?_;refine X0 (congrArg Value.bool hkb)<|go ?_;cases hm;exact ⟨rfl,rfl,aa.below⟩
    | cons ct bs=>
     obtain ⟨af,bt,bu⟩:=Yf hl;have hk:(au:Int)<(ab.2.2.2.2.length:Int):=by omega
     have hkb:=decide_eq_true hk;rw [Zdo.eq_2] at hm;refine go ?_;refine X1 (congrArg Value.bool hkb)<|go ?_;refine lI af ((ad.ks aa).addr af) ?_;obtain ⟨_,bv,bw⟩:=(ad.ks aa).atN af;obtain ⟨⟨cu,cv,rfl,be⟩,_⟩:=bv;refine lW bw.one<|go ?_;refine Y8 (col:=ai) [(0,1),(2,1),(3,0),(4,1),(5,1),(6,0),(7,1),(1,3),(8,3),(9,1)] (by kernel_rfl) (by kernel_rfl)<|xu rfl rfl (fun _=>Ub rfl) ?_;refine xF ⟨_,_,rfl⟩ ?_;refine xW (fun _ hC=>((ac.atN).nth (q:=2) rfl).gr (hC.bl ai)) ?_;refine xu rfl rfl (fun _=>Yq rfl) ?_;obtain ⟨cw,a7,hm⟩:=bZ hm;refine xu rfl rfl (fun _=>Yu underlying23 sizeOf22 rfl rfl (Xa a7).1 (Xa a7).2.1 ((ag.ks aa).addr a7)) ?_;obtain ⟨_,bx,bz⟩:=(ag.ks aa).atN a7;obtain ⟨⟨cx,cy,rfl,cz⟩,_⟩:=bx;refine xW (fun _ hC=>bz.one.gr (hC.bl ai)) ?_;refine xu rfl rfl (fun _=>Qu underlying22 rfl) ?_;refine xe rfl rfl ?_;intro c0 hC0;have hC:=hC0.bl ai;obtain ⟨c1,b0,hm⟩:=bZ hm;refine Zi (Zuj 2 b0 (be.gr hC)) ?_;rintro _ c2 ⟨av,c3,c4,rfl,bf,bg⟩;refine ⟨_,rfl,?_⟩;refine Zk<|Xj av hC0 bf<|xe rfl rfl ?_;intro b1 hC0;replace ac:=(ac.gr hC).gr bf;replace aa:=(aa.grow hC).grow bf;have hC:=hC0.bl av;obtain ⟨c5,b2,hm⟩:=bZ hm;refine Zi (Z4v b2 ((bg.gr hC).toSlF (Zh.pair (Zh.pair Zh.bool Zh.slice) Zh.slice))) ?_;rintro _ b3 ⟨rfl,a1⟩;refine ⟨_,rfl,?_⟩;replace a1:Zf av b1 av b3:=.of_below a1;refine Zk<|Xj av hC0 a1<|xu rfl rfl (fun _=>Zl2 _ rfl) ?_;refine Yz ?_;replace ac:=(ac.gr hC).gr a1;replace aa:=(aa.grow hC).grow a1;intro c6 hC;replace hC:=hC.bl av;replace ac:=ac.gr hC;replace aa:=aa.grow hC;refine Zo hm (fun hb hm=>go ?_) fun hb hm=>go ?_
     ·cases hm;exact ⟨rfl,rfl,aa.below⟩
     exact ⟨bs.length,by simp,rfl,⟨_,_,_,rfl,bt,hm,aa,ac,(Yl (congrArg (Value.int .i64) (Yi (aE bu (ad.ks aa).1.1))) rfl)⟩⟩
   | cons c7 b4=>
    obtain ⟨af,b5,b6⟩:=Yf hl;have hk:(ay:Int)<(ab.2.2.2.2.length:Int):=by omega
    have hkb:=decide_eq_true hk;rw [Zb9.eq_2] at hm;refine go ?_;refine X1 (congrArg Value.bool hkb)<|go ?_;refine lI af ((ad.ks aa).addr af) ?_;obtain ⟨_,b7,b8⟩:=(ad.ks aa).atN af;obtain ⟨⟨c8,c9,rfl,b9⟩,_⟩:=b7;refine lW b8.one<|go ?_;obtain ⟨da,ca,hm⟩:=bZ hm;refine Zi (Zuj 3 ca b9) ?_;rintro _ cb ⟨bm,db,dc,rfl,bn,cc⟩;refine ⟨_,rfl,?_⟩;obtain ⟨dd,cd,hm⟩:=bZ hm;refine Zi (Z5t cd (cc.toSlF (Zh.pair (Zh.pair Zh.bool Zh.slice) Zh.slice))) ?_;rintro _ ce ⟨rfl,a8⟩;refine ⟨_,rfl,?_⟩;replace a8:Zf bm cb bm ce:=.of_below a8;refine Zk ?_;replace ac:=(ac.gr bn).gr a8;replace aa:=(aa.grow bn).grow a8;refine Zo hm (fun hb hm=>go ?_) fun hb hm=>go ?_
    ·cases hm;exact ⟨rfl,rfl,aa.below⟩
    exact ⟨b4.length,by simp,rfl,⟨_,_,_,rfl,b5,hm,aa,ac,(Yl (congrArg (Value.int .i64) (Yi (aE b6 (ad.ks aa).1.1))) rfl)⟩⟩
  | cons de cf=>
   obtain ⟨af,cg,ch⟩:=Yf hl;have hk:(ar:Int)<(ab.2.2.2.2.length:Int):=by omega
   have hkb:=decide_eq_true hk;rw [Zb8.eq_2] at hm;refine go ?_;refine X1 (congrArg Value.bool hkb)<|go ?_;refine lI af ((ad.ks aa).addr af) ?_;obtain ⟨_,ci,cj⟩:=(ad.ks aa).atN af;obtain ⟨⟨df,dg,rfl,dh⟩,_⟩:=ci;refine lW cj.one<|go ?_;refine Vs (col:=ae) (by kernel_rfl) (by kernel_rfl)<|qv rfl (fun _ hC=>Z8 isAgg27 sizeOf27 (ac.gr (hC.bl ae))) ?_;refine go ?_;obtain ⟨ck,cl,hm⟩:=bZ hm;refine qc (v:=(.int .i64 ck)) rfl (fun _ hC=>⟨_,_,Zgf call87 rfl rfl,(Z4t cl ((a2.ks aa).gr (hC.bl ae)) ((ag.ks aa).gr (hC.bl ae)) ((aw.ks aa).gr (hC.bl ae)) ((ad.ks aa).gr (hC.bl ae)):).mono fun _ _ h=>⟨h.1,hC.trans (.of_below h.2)⟩⟩) ?_;refine qF ⟨_,_,rfl⟩ ?_;refine qW (fun _ hC=>((ac.atN).nth (q:=2) rfl).gr (hC.bl ae)) ?_;refine go ?_;obtain ⟨di,bh,hm⟩:=bZ hm;refine qI bh ((ag.ks aa).addr bh) ?_;obtain ⟨_,cn,co⟩:=(ag.ks aa).atN bh;obtain ⟨⟨dj,dl,rfl,dm⟩,_⟩:=cn;refine qW (fun _ hC=>co.one.gr (hC.bl ae)) ?_;refine go ?_;refine Wn ?_;intro dn hC;replace hC:=hC.bl ae;refine go ?_;replace ac:=ac.gr hC;replace aa:=aa.grow hC;refine Zo hm (fun hb hm=>go ?_) fun hb hm=>go ?_
   ·cases hm;exact ⟨rfl,rfl,aa.below⟩
   refine Zo hm (fun hb hm=>go ?_) fun hb hm=>go ?_
   ·cases hm;exact ⟨rfl,rfl,aa.below⟩
   exact ⟨cf.length,by simp,rfl,⟨_,_,_,rfl,cg,hm,aa,ac,(Yl (congrArg (Value.int .i64) (Yi (aE ch (ad.ks aa).1.1))) rfl)⟩⟩
 refine Ve<|Xl ac ?_;refine go ?_;refine Yr hm (fun bi hm=>go ?_) fun bi hm=>go ?_
 ·refine lV (.bool true) (Ye (congrArg Value.bool bi) rfl)<|Uj rfl<|lP 28 rfl rfl<|lP 28 rfl rfl<|lP 28 rfl rfl<|lP 28 rfl rfl<|lP 28 rfl rfl<|lV (.bool true) (Ye rfl rfl)<|Zk ?_;exact ⟨rfl,_,_,hm,aa,ac,rfl⟩
 refine Yx ⟨_,_,rfl⟩ ?_;refine go ?_;refine lW ((ac.atN).nth (q:=3) rfl)<|go ?_;refine lV (.bool (!decide ((ab.2.2.2.1.length:Int)=(ab.2.1.length:Int)))) (Yd (congrArg Value.bool bi) rfl)<|Uj rfl ?_;refine Yr hm (fun bj hm=>go ?_) fun bj hm=>go ?_
 ·refine lV (.bool true) (Ye (congrArg Value.bool bj) rfl)<|Zk ?_;exact ⟨rfl,_,_,hm,aa,ac,rfl⟩
 refine Yx ⟨_,_,rfl⟩ ?_;refine go ?_;refine lW ((ac.atN).nth (q:=4) rfl)<|go ?_;refine lV (.bool (!decide ((ab.2.2.2.2.length:Int)=(ab.2.1.length:Int)))) (Yd (congrArg Value.bool bj) rfl)<|Zk ?_;exact ⟨rfl,_,_,hm,aa,ac,rfl⟩
def Zf3 (N:Nat) (ab:List ByteArray) (ac:ByteArray):Nat→Int→Option Int
  | 0,_=>none
  | ad+1,aa=>if (decide (aa<(ab.length:Int)))=true then ((Zl ab aa).bind fun ae=>if (decide (ae=ac))=true then (some aa) else ((Zf3 N ab ac ad) (i64.wrap (aa+1)))) else (some (-1))
termination_by structural x=>x
def Zlj (N:Nat) (aa:List ByteArray) (ab:ByteArray):Option Int:=
  Zf3 N aa ab N 0
theorem Zuy {N ag:Nat} {a0:Option Addr} {col:Zd} {w0:World} {ac:R3} {ad:ByteArray} {r:Int} (hm:Zlj N ac ad=some r) (h0:Sl Za.str col w0 a0 ag ac):
    Calls prog 168 #[.slice a0 ac.length ag,.string ad] w0 (fun e w'=>e= .returned ((.int .i64 r))∧Below w0.heap.size w0 w'):=by
 refine Xe 4 (m:=19) func168 rfl rfl rfl rfl rfl ?_;rw [Zlj.eq_1] at hm;have aa:=St.start col w0;refine go ?_;refine Zv [0,1,1000000] (fun n f ah=>∃ ai ae ab,ab=n∧Zf3 N ac ad ab ae=some r∧St w0 (Zj col) ai ah∧[5].map f=[.int .i64 ae]) N ⟨_,0,_,rfl,hm,aa,rfl⟩ ?_;clear hm;intro n f ah hI;obtain ⟨ai,ae,ab,hn,hm,aa,hs⟩:=hI;subst hn;refine .lL [5] hs ?_;replace h0:=h0.k0
 cases ab with
 | zero=>rw [Zf3.eq_1] at hm;cases hm
 | succ ab=>
  rw [Zf3.eq_2] at hm;refine go ?_;refine Zo hm (fun hb hm=>go ?_) fun hb hm=>go ?_
  ·obtain ⟨aj,af,hm⟩:=bZ hm;refine lI af ((h0.ks aa).addr af)<|lW ((h0.ks aa).atStr af) ?_;refine go ?_;refine Zo hm (fun hb hm=>go ?_) fun hb hm=>go ?_
   ·cases hm;exact ⟨rfl,rfl,aa.below⟩
   exact ⟨ab,by omega,rfl,⟨_,_,_,rfl,hm,aa,rfl⟩⟩
  cases hm;exact ⟨rfl,rfl,aa.below⟩
def Zf5 (N:Nat) (ab:R0):Nat→R2→Int→Option R2
  | 0,_,_=>none
  | ae+1,aa,ac=>if (decide (ac<(ab.2.2.1.length:Int)))=true then ((Zl ab.2.2.1 ac).bind fun ad=>Z4 ((aa.length+[(ad.length:Int)].length) * 8≤140737488355328∧aa.length+[(ad.length:Int)].length≤maxLen) ((Zf5 N ab ae) (aa++[(ad.length:Int)]) (i64.wrap (ac+1)))) else (some aa)
termination_by structural x=>x
def Zf4 (N:Nat) (aa:R0):Option R2:=
  Zf5 N aa N ([]:List Int) 0
theorem Z5l {N aj ak al am:Nat} {an ao ap aq:Option Addr} {col:Zd} {w0:World} {aa:R0} {r:R2} (c1:Nat) (hm:Zf4 N aa=some r) (a7:Sl Za.str col w0 an aj aa.2.1) (af:Sl (Za.slice Za.str) col w0 ao ak aa.2.2.1) (a8:Sl (Za.slice rI) col w0 ap al aa.2.2.2.1) (a9:Sl (Za.slice (Za.pair (Za.pair Za.bool (Za.slice rU)) (Za.slice rU))) col w0 aq am aa.2.2.2.2):
    Calls prog 92 #[(.agg #[.string aa.1,.slice an aa.2.1.length aj,.slice ao aa.2.2.1.length ak,.slice ap aa.2.2.2.1.length al,.slice aq aa.2.2.2.2.length am])] w0 (fun e w'=>∃ (col':Zd) (ra1:Option Addr) (rc2:Nat),e= .returned ((.slice ra1 r.length rc2))∧Zf col w0 col' w'∧Zb rI 3 c1 col' w' ra1 rc2 r):=by
 refine Xe 2 (m:=22) func92 rfl rfl rfl rfl rfl ?_;rw [Zf4.eq_1] at hm;have ab:=St.start col w0;refine go ?_;refine Xi (col:=(Zj col)) 1 rfl ?_;intro az ba bb a0 ac;refine go ?_;replace ab:=ab.grow a0;refine Zv [1,1000000] (fun n f ag=>∃ ae ar au ah av ad,ad=n∧Zf5 N aa ad ah av=some r∧St w0 (Zj col) ae ag∧Zg 27 1 ae ag az #[.string aa.1,.slice an aa.2.1.length aj,.slice ao aa.2.2.1.length ak,.slice ap aa.2.2.2.1.length al,.slice aq aa.2.2.2.2.length am]∧Zb rI 3 2 ae ag ar au ah∧[3,4].map f=[.slice ar ah.length au,.int .i64 av]) N ⟨_,none,0,_,0,_,rfl,hm,ab,ac,Zb.nil,rfl⟩ ?_;clear hm;intro n f ag hI;obtain ⟨ae,ar,au,ah,av,ad,hn,hm,ab,ac,ai,hs⟩:=hI;subst hn;refine .lL [3,4] hs ?_;replace af:=af.k0
 cases ad with
 | zero=>rw [Zf5.eq_1] at hm;cases hm
 | succ ad=>
  rw [Zf5.eq_2] at hm;refine go ?_;refine Xl ac ?_;refine go ?_;refine Zo hm (fun hb hm=>go ?_) fun hb hm=>go ?_
  ·refine Xl ac<|X4 rfl ?_;obtain ⟨a1,aw,hm⟩:=bZ hm;refine lI aw ((af.ks ab).addr aw) ?_;obtain ⟨_,a2,a3⟩:=(af.ks ab).atN aw;obtain ⟨⟨bc,bd,rfl,be⟩,_⟩:=a2;refine lW a3.one<|go ?_;refine Vz (col:=ae) [(a1.length:Int)] 3 ?_;intro bf bg bh ax a4;obtain ⟨a5,hm⟩:=Z9 hm;replace ai:=ai.gr ax;refine Vy ai (a4.srcN (NB.int (k:=.i64))) a5 ?_;intro bi bj bk bm ay a6;refine go ?_;replace ab:=(ab.grow ax).kpp ay;exact ⟨ad,by omega,rfl,⟨_,_,_,_,_,_,rfl,hm,ab,(ac.gr ax).kpp ay,a6,rfl⟩⟩
  cases hm;exact ⟨rfl,_,_,_,rfl,ab.fin (cm [(2,c1)]),ab.fo ai⟩
def Zi4 (aa:Int) (kk_L2:(Int→Int→Option Int)) (ab:Int):Option Int:=
  kk_L2 ab (i64.wrap (aa+1))
def Zcq (N:Nat) (aa:List Int) (ac:List Int):Nat→Int→Int→Option Int
  | 0,_,_=>none
  | af+1,ad,ab=>if (decide (ab<(aa.length:Int)))=true then ((Zl aa ab).bind fun ag=>(Zl ac ag).bind fun ae=>Z4 (ae≠0) (if (decide ((i64.wrap (aZ 1099511627776 ae))<ad))=true then (Zi4 ab (Zcq N aa ac af) 1099511627776) else (Zi4 ab (Zcq N aa ac af) (i64.wrap (ad * ae))))) else (some ad)
termination_by structural x=>x
def Zf2 (N:Nat) (aa:List Int) (ab:List Int):Nat→Int→Option Int
  | 0,_=>none
  | ad+1,ac=>if (decide (ac<(aa.length:Int)))=true then ((Zl aa ac).bind fun ae=>(Zl ab ae).bind fun af=>if (decide (af<1))=true then (some 0) else ((Zf2 N aa ab ad) (i64.wrap (ac+1)))) else (Zcq N aa ab N 1 0)
termination_by structural x=>x
def Zli (N:Nat) (aa:List Int) (ab:List Int):Option Int:=
  Zf2 N aa ab N 0
theorem Z5i {N an ao:Nat} {a0 a1:Option Addr} {col:Zd} {w0:World} {ac ad:R2} {r:Int} (hm:Zli N ac ad=some r) (h0:Sl rI col w0 a0 an ac) (h1:Sl rI col w0 a1 ao ad):
    Calls prog 93 #[.slice a0 ac.length an,.slice a1 ad.length ao] w0 (fun e w'=>e= .returned ((.int .i64 r))∧Below w0.heap.size w0 w'):=by
 refine Xe 4 (m:=48) func93 rfl rfl rfl rfl rfl ?_;rw [Zli.eq_1] at hm;have aa:=St.start col w0;refine go ?_;refine Zv [0,1,1000000] (fun n f ap=>∃ aq ai ae,ae=n∧Zf2 N ac ad ae ai=some r∧St w0 (Zj col) aq ap∧[5].map f=[.int .i64 ai]) N ⟨_,0,_,rfl,hm,aa,rfl⟩ ?_;clear hm;intro n f ap hI;obtain ⟨aq,ai,ae,hn,hm,aa,hs⟩:=hI;subst hn;refine .lL [5] hs ?_;replace h0:=h0.k0;replace h1:=h1.k0
 cases ae with
 | zero=>rw [Zf2.eq_1] at hm;cases hm
 | succ ae=>
  rw [Zf2.eq_2] at hm;refine go ?_;refine Zo hm (fun hb hm=>go ?_) fun hb hm=>go ?_
  ·obtain ⟨az,aj,hm⟩:=bZ hm;refine lI aj ((h0.ks aa).addr aj)<|lW ((h0.ks aa).atInt aj) ?_;obtain ⟨a2,ak,hm⟩:=bZ hm;refine lI ak ((h1.ks aa).addr ak)<|lW ((h1.ks aa).atInt ak) ?_;refine go ?_;refine Zo hm (fun hb hm=>go ?_) fun hb hm=>go ?_
   ·cases hm;exact ⟨rfl,rfl,aa.below⟩
   exact ⟨ae,by omega,rfl,⟨_,_,_,rfl,hm,aa,rfl⟩⟩
  refine Zv [0,1,1000000] (fun n f ar=>∃ au al ah ab,ab=n∧Zcq N ac ad ab al ah=some r∧St w0 (Zj col) au ar∧[6,7].map f=[.int .i64 al,.int .i64 ah]) N ⟨_,1,0,_,rfl,hm,aa,rfl⟩ ?_;clear hm;intro n f ar hI;obtain ⟨au,al,ah,ab,hn,hm,aa,hs⟩:=hI;subst hn;refine .lL [6,7] hs ?_
  cases ab with
  | zero=>rw [Zcq.eq_1] at hm;cases hm
  | succ ab=>
   rw [Zcq.eq_2] at hm;refine go ?_;refine Zo hm (fun hb hm=>?_) fun hb hm=>go ?_
   ·refine Yj<|Zz ?_;refine Wp.cutK [0,1,7,1000000] (fun f av=>∃ aw am,Zi4 ah (Zcq N ac ad ab) am=some r∧St w0 (Zj col) aw av∧[6].map f=[.int .i64 am]) ?_ ?_
    ·intro f av hJ;obtain ⟨aw,am,hm,aa,hs⟩:=hJ;rw [Zi4.eq_1] at hm;refine .lL [6] hs<|go ?_;exact ⟨ab,by omega,rfl,⟨_,_,_,_,rfl,hm,aa,rfl⟩⟩
    refine go ?_;obtain ⟨a3,af,hm⟩:=bZ hm;refine lI af ((h0.ks aa).addr af)<|lW ((h0.ks aa).atInt af) ?_;obtain ⟨ax,ag,hm⟩:=bZ hm;refine lI ag ((h1.ks aa).addr ag)<|lW ((h1.ks aa).atInt ag) ?_;obtain ⟨ay,hm⟩:=Z9 hm;refine lV (.int .i64 (i64.wrap (aZ 1099511627776 ax))) (Uc 1099511627776 ax rfl rfl ay)<|go ?_;refine Zo hm (fun hb hm=>go ?_) fun hb hm=>go ?_
    ·exact ⟨rfl,_,1099511627776,hm,aa,rfl⟩
    refine lI af ((h0.ks aa).addr af)<|lW ((h0.ks aa).atInt af)<|lI ag ((h1.ks aa).addr ag)<|lW ((h1.ks aa).atInt ag) ?_;refine go ?_;exact ⟨rfl,_,_,hm,aa,rfl⟩
   cases hm;exact ⟨rfl,rfl,aa.below⟩
def Zll (aa:Bool):Option Bool:=
  some aa
def Zlk (ab:Int) (aa:Int):Option Bool:=
  if (decide (0<aa))=true then (Z4 (aa≠0) (Zll (decide ((i64.wrap (aZ 65536 aa))<ab)))) else (Zll false)
theorem Z5k {col:Zd} {w0:World} {ac aa:Int} {r:Bool} (hm:Zlk ac aa=some r):
    Calls prog 94 #[.int .i64 ac,.int .i64 aa] w0 (fun e w'=>e= .returned ((.bool r))∧Below w0.heap.size w0 w'):=by
 refine Xe 4 (m:=13) func94 rfl rfl rfl rfl rfl ?_;rw [Zlk.eq_1] at hm;have ab:=St.start col w0;refine Zz<|Ve<|Zj9 rfl<|Zk<|Zz ?_;refine Wp.cutK [1000000] (fun f af=>∃ ag ad,Zll ad=some r∧St w0 (Zj col) ag af∧[4].map f=[.bool ad]) ?_ ?_
 ·intro f af hJ;obtain ⟨ag,ad,hm,ab,hs⟩:=hJ;rw [Zll.eq_1] at hm;refine .lL [4] hs<|Vd ?_;cases hm;exact ⟨rfl,rfl,ab.below⟩
 refine go ?_;refine Yr hm (fun ae hm=>go ?_) fun ae hm=>go ?_
 ·obtain ⟨ah,hm⟩:=Z9 hm;refine lV (.int .i64 (i64.wrap (aZ 65536 aa))) (Uc 65536 aa rfl rfl ah)<|go ?_;refine lV (.bool (decide ((i64.wrap (aZ 65536 aa))<ac))) (Ye (congrArg Value.bool ae) rfl)<|go ?_;exact ⟨rfl,_,_,hm,ab,rfl⟩
 refine lV (.bool false) (Yd (congrArg Value.bool ae) rfl)<|go ?_;exact ⟨rfl,_,_,hm,ab,rfl⟩
def Zi5 (N:Nat):Option R1:=
  (Zd0 N 1 1).bind fun aa=>some ((aa.1.1,aa.1.2),aa.2)
theorem Zuz {N:Nat} {col:Zd} {w0:World} {r:R1} (c1 c2:Nat) (hm:Zi5 N=some r):
    Calls prog 204 #[] w0 (fun e w'=>∃ (col':Zd) (ra1:Option Addr) (rc2:Nat) (ra4:Option Addr) (rc5:Nat),e= .returned ((.agg #[.bool r.1.1,.slice ra1 r.1.2.length rc2,.slice ra4 r.2.length rc5]))∧Zf col w0 col' w'∧Zb rU 95 c1 col' w' ra1 rc2 r.1.2∧Zb rU 95 c2 col' w' ra4 rc5 r.2):=by
 refine Y5 (m:=2) func204 rfl rfl rfl ?_;rw [Zi5.eq_1] at hm;have aa:=St.start col w0;refine go ?_;refine Xk (col:=(Zj col)) #[.bool false,(nI),(nI)] 1 zeroValue39 ?_;intro al am ag ah ab;refine go ?_;obtain ⟨an,ai,hm⟩:=bZ hm;refine Zi (Zuw (col:=ag) 2 3 ai) ?_;rintro _ ao ⟨ap,aq,ar,au,av,rfl,af,ac,ad⟩;refine ⟨_,rfl,?_⟩;refine Zy (ab.gr af) ?_;intro aw ae aj ak;refine go ?_;cases hm;replace aa:=((aa.grow ah).grow af).kp ae aj;exact ⟨rfl,_,ra ak.atN,_,_,_,_,_,rfl,aa.fin (cm [(2,c1),(3,c2)]),aa.fo (ac.kp ae),aa.fo (ad.kp ae)⟩
def Zi7 (aa:Bool):Option Bool:=
  some aa
def Zi6 (N:Nat) (aa:R1):Option Bool:=
  (Ziw N ((aa.1.1,aa.1.2),aa.2)).bind fun ac=>if (decide (ac<0))=true then (Zi7 true) else ((Zi5 N).bind fun ab=>(Zbh N ((aa.1.1,aa.1.2),aa.2) ((ab.1.1,ab.1.2),ab.2)).bind fun ad=>Zi7 (decide (0<ad)))
theorem Z5j {N al am:Nat} {an ao:Option Addr} {col:Zd} {w0:World} {ac:R1} {r:Bool} (hm:Zi6 N ac=some r) (ah:Sl rU col w0 an al ac.1.2) (ai:Sl rU col w0 ao am ac.2):
    Calls prog 170 #[(.agg #[.bool ac.1.1,.slice an ac.1.2.length al,.slice ao ac.2.length am])] w0 (fun e w'=>e= .returned ((.bool r))∧Below w0.heap.size w0 w'):=by
 refine Xe 2 (m:=12) func170 rfl rfl rfl rfl rfl ?_;rw [Zi6.eq_1] at hm;have aa:=St.start col w0;refine go ?_;refine Xi (col:=(Zj col)) 1 rfl ?_;intro a6 a7 ab ay aj;refine Zj9 rfl<|Zk<|Zz ?_;replace ah:=ah.k0;replace ai:=ai.k0;replace aa:=aa.grow ay;refine Wp.cutK [1000000] (fun f av=>∃ aw ap,Zi7 ap=some r∧St w0 (Zj col) aw av∧[2].map f=[.bool ap]) ?_ ?_
 ·intro f av hJ;obtain ⟨aw,ap,hm,aa,hs⟩:=hJ;rw [Zi7.eq_1] at hm;refine .lL [2] hs<|Vd ?_;cases hm;exact ⟨rfl,rfl,aa.below⟩
 refine Y8 (col:=ab) [(0,0),(1,3),(2,1),(3,1),(4,0),(5,3),(6,3),(7,1),(8,1),(9,1)] (by kernel_rfl) (by kernel_rfl)<|xv rfl rfl (fun _ hC=>Z8 isAgg39 sizeOf39 (aj.gr (hC.bl ab))) ?_;refine xe rfl rfl ?_;intro az hC0;have hC:=hC0.bl ab;obtain ⟨ae,a0,hm⟩:=bZ hm;replace aa:=aa.grow hC;refine Zi (Z5a a0 (ah.ks aa) (ai.ks aa)) ?_;rintro _ a1 ⟨rfl,ag⟩;refine ⟨_,rfl,?_⟩;replace ag:Zf ab az ab a1:=.of_below ag;refine Zk<|Xj ab hC0 ag<|xu rfl rfl (fun _=>Zo0 _ _ rfl rfl) ?_;refine xu rfl rfl (fun _=>Zsm rfl) ?_;replace aj:=(aj.gr hC).gr ag;replace aa:=aa.grow ag;refine Yr hm (fun ad hm=>?_) fun ad hm=>?_
 ·refine Zal (b:=decide (ae<0)) 6 rfl rfl rfl rfl rfl (by rw [ad];rfl)<|Zal (b:=decide (ae<0)) 6 rfl rfl rfl rfl rfl (by rw [ad];rfl)<|Zal (b:=decide (ae<0)) 6 rfl rfl rfl rfl rfl (by rw [ad];rfl)<|Zal (b:=decide (ae<0)) 6 rfl rfl rfl rfl rfl (by rw [ad];rfl)<|xu (v:=(.bool true)) rfl rfl (fun _=>Ye (congrArg Value.bool ad) rfl) ?_;refine xu rfl rfl (fun _=>Zjh rfl) ?_;refine Yz ?_;intro a8 hC;replace hC:=hC.bl ab;replace aa:=aa.grow hC;exact ⟨rfl,_,_,hm,aa,rfl⟩
 refine Zto (v:=(.agg #[.bool ac.1.1,.slice an ac.1.2.length al,.slice ao ac.2.length am])) (b:=decide (ae<0)) 6 rfl rfl rfl rfl rfl (by rw [ad];rfl) (fun _ hC=>Y9 isAgg39 sizeOf39 rfl rfl (aj.atN.gr (hC.bl ab))) ?_;refine xe rfl rfl ?_;intro a9 hC0;have hC:=hC0.bl ab;refine go ?_;obtain ⟨ba,a2,hm⟩:=bZ hm;refine lc rfl rfl (Zea call204) (Zuz (col:=ab) 6 7 a2:) ?_;rintro _ bb ⟨af,bc,bd,be,bf,rfl,ax,aq,ar⟩;refine ⟨_,rfl,?_⟩;refine Zk<|Xj af hC0 ax<|xe rfl rfl ?_;intro a3 hC0;replace aa:=(aa.grow hC).grow ax;have hC:=hC0.bl af;refine go ?_;obtain ⟨au,a4,hm⟩:=bZ hm;replace aa:=aa.grow hC;refine Zi (Zm0 a4 (((ah.ks aa).froz 6).froz 7) (((ai.ks aa).froz 6).froz 7) (((aq.gr hC).toSlF (Zh.int .u32)).froz 7) (((ar.gr hC).froz 6).toSlF (Zh.int .u32))) ?_;rintro _ a5 ⟨rfl,ak⟩;refine ⟨_,rfl,?_⟩;replace ak:Zf af a3 af a5:=.of_below ak;refine Zk<|Xj af hC0 ak<|Z28 (v:=(.bool (decide (0<au)))) (b:=decide (ae<0)) 6 rfl rfl rfl rfl rfl (by rw [ad];rfl) (fun _=>Zoz au 0 rfl rfl) ?_;refine xu (v:=(.bool (decide (0<au)))) rfl rfl (fun _=>Yd (congrArg Value.bool ad) rfl) ?_;refine xu rfl rfl (fun _=>Zjh rfl) ?_;refine Yz ?_;intro bg hC;exact ⟨rfl,_,_,hm,(aa.grow ak).grow (hC.bl af),rfl⟩
def Zd3 (N:Nat) (ac:R4) (ab:Int):Nat→Int→Option Bool
  | 0,_=>none
  | af+1,aa=>if (decide (aa<(ac.length:Int)))=true then (Z4 ((0:Int)≤aa∧aa≤(i64.wrap (aa+ab))∧(i64.wrap (aa+ab))≤(ac.length:Int)) ((Zlh N ((ac.take (aA (i64.wrap (aa+ab)))).drop (aA aa))).bind fun ad=>(Zi5 N).bind fun ae=>(Zbh N ((ad.1.1,ad.1.2),ad.2) ((ae.1.1,ae.1.2),ae.2)).bind fun ag=>if (!decide (ag=0))=true then (some false) else ((Zd3 N ac ab af) (i64.wrap (aa+ab))))) else (some true)
termination_by structural x=>x
def Zn0 (N:Nat) (aa:R4) (ab:Int):Option Bool:=
  Zd3 N aa ab N 0
theorem Z5m {N ad:Nat} {a0:Option Addr} {col:Zd} {w0:World} {ae:R4} {ac:Int} {r:Bool} (hm:Zn0 N ae ac=some r) (h0:Sl (Za.pair (Za.pair Za.bool (Za.slice rU)) (Za.slice rU)) col w0 a0 ad ae):
    Calls prog 171 #[.slice a0 ae.length ad,.int .i64 ac] w0 (fun e w'=>e= .returned ((.bool r))∧Below w0.heap.size w0 w'):=by
 refine Xe 4 (m:=23) func171 rfl rfl rfl rfl rfl ?_;rw [Zn0.eq_1] at hm;have ab:=St.start col w0;refine go ?_;refine Zv [0,1,1000000] (fun n f al=>∃ am aa af,af=n∧Zd3 N ae ac af aa=some r∧St w0 (Zj col) am al∧[5].map f=[.int .i64 aa]) N ⟨_,0,_,rfl,hm,ab,rfl⟩ ?_;clear hm;intro n f al hI;obtain ⟨am,aa,af,hn,hm,ab,hs⟩:=hI;subst hn;refine .lL [5] hs ?_;replace h0:=h0.k0
 cases af with
 | zero=>rw [Zd3.eq_1] at hm;cases hm
 | succ af=>
  rw [Zd3.eq_2] at hm;refine go ?_;refine Zo hm (fun hb hm=>go ?_) fun hb hm=>go ?_
  ·obtain ⟨ag,hm⟩:=Z9 hm;have ap:=((h0.ks ab).take (aA (i64.wrap (aa+ac)))).drop (sz:=3) rfl (aA aa);refine lv (v:=.slice (if ad=(aA aa) then a0 else a0.map (·.add ((aA aa) * 3))) ((aA (i64.wrap (aa+ac))) - (aA aa)) (ad - (aA aa))) rfl rfl (Zsp underlying114 sizeOf39 rfl rfl rfl ag.1 ag.2.1 (by have:=(h0.ks ab).1.2;have:=ag.2.2;omega)) ?_;generalize (if ad=(aA aa) then a0 else a0.map (·.add ((aA aa) * 3)))=an at *;refine .ld (d:=18) (v:=(.slice an (((ae.take (aA (i64.wrap (aa+ac)))).drop (aA aa)).length) (ad - (aA aa)))) (congrArg (fun n=>Value.slice an n (ad - (aA aa))) (show (aA (i64.wrap (aa+ac))) - (aA aa)=((ae.take (aA (i64.wrap (aa+ac)))).drop (aA aa)).length by rw [bP,nK];have:=ag.2;omega)) ?_;obtain ⟨a2,aq,hm⟩:=bZ hm;refine Zi (Z5b 1 2 aq ap) ?_;rintro _ a3 ⟨ar,a4,a5,a6,a7,rfl,au,ah,ai⟩;refine ⟨_,rfl,?_⟩;obtain ⟨a8,av,hm⟩:=bZ hm;refine lc rfl rfl (Zea call204) (Zuz (col:=ar) 3 4 av:) ?_;rintro _ aw ⟨ao,a9,ba,bb,bc,rfl,aj,ax,ay⟩;refine ⟨_,rfl,?_⟩;obtain ⟨bd,az,hm⟩:=bZ hm;refine Zi (Zm0 az (((((ah.gr aj).toSlF (Zh.int .u32)).froz 2).froz 3).froz 4) (((((ai.gr aj).froz 1).toSlF (Zh.int .u32)).froz 3).froz 4) ((((ax.froz 1).froz 2).toSlF (Zh.int .u32)).froz 4) ((((ay.froz 1).froz 2).froz 3).toSlF (Zh.int .u32))) ?_;rintro _ a1 ⟨rfl,ak⟩;refine ⟨_,rfl,?_⟩;replace ak:Zf ao aw ao a1:=.of_below ak;refine go ?_;replace ab:=((ab.grow au).grow aj).grow ak;refine Zo hm (fun hb hm=>go ?_) fun hb hm=>go ?_
   ·cases hm;exact ⟨rfl,rfl,ab.below⟩
   exact ⟨af,by omega,rfl,⟨_,_,_,rfl,hm,ab,rfl⟩⟩
  cases hm;exact ⟨rfl,rfl,ab.below⟩
def Zi3 (aa:Int) (kk_L2:(Bool→Int→Option Int)) (ab:Bool):Option Int:=
  kk_L2 ab (i64.wrap (aa+1))
def Zcn (N:Nat) (ad:R0) (ab:Int) (kk_L1:(Int→Option Int)):Nat→Bool→Int→Option Int
  | 0,_,_=>none
  | ae+1,af,aa=>(Zl ad.2.2.1 ab).bind fun ac=>if (decide (aa<(ac.length:Int)))=true then (if af=true then (Zi3 aa (Zcn N ad ab kk_L1 ae) true) else ((Zl ac aa).bind fun ag=>(Zlj N ac ag).bind fun ah=>Zi3 aa (Zcn N ad ab kk_L1 ae) (decide (ah<aa)))) else (if af=true then (some 40) else (if (decide ((ac.length:Int)=0))=true then (some 43) else (kk_L1 (i64.wrap (ab+1)))))
termination_by structural x=>x
def Zf1 (N:Nat) (ad:R0) (aa:Int) (kk_L4:(Int→Option Int)):Nat→Int→Option Int
  | 0,_=>none
  | af+1,ab=>(Zl ad.2.2.2.2 aa).bind fun ae=>if (decide (ab<(ae.length:Int)))=true then ((Zl ae ab).bind fun ac=>(Zi6 N ((ac.1.1,ac.1.2),ac.2)).bind fun ag=>if ag=true then (some 45) else ((Zf1 N ad aa kk_L4 af) (i64.wrap (ab+1)))) else (kk_L4 (i64.wrap (aa+1)))
termination_by structural x=>x
def Zcp (N:Nat) (ab:R0) (ac:List Int):Nat→Int→Option Int
  | 0,_=>none
  | ad+1,aa=>if (decide (aa<(ab.2.1.length:Int)))=true then ((Zl ab.2.2.2.2 aa).bind fun ae=>(Zl ac aa).bind fun af=>(Zn0 N ae af).bind fun ag=>if (!ag)=true then (some 46) else ((Zcp N ab ac ad) (i64.wrap (aa+1)))) else (some 0)
termination_by structural x=>x
def Zbl (N:Nat) (aa:R0) (ab:List Int):Nat→Int→Option Int
  | 0,_=>none
  | ad+1,ac=>if (decide (ac<(aa.2.1.length:Int)))=true then (Zf1 N aa ac (Zbl N aa ab ad) N 0) else (Zcp N aa ab N 0)
termination_by structural x=>x
def Zco (N:Nat) (aa:R0) (ac:List Int):Nat→Int→Option Int
  | 0,_=>none
  | af+1,ab=>if (decide (ab<(aa.2.1.length:Int)))=true then ((Zl aa.2.2.2.1 ab).bind fun ag=>(Zli N ag ac).bind fun ad=>(Zl ac ab).bind fun ae=>(Zlk ad ae).bind fun ah=>if ah=true then (some 4) else ((Zl aa.2.2.2.2 ab).bind fun ai=>if (!decide ((ai.length:Int)=(i64.wrap (ad * ae))))=true then (some 60) else ((Zco N aa ac af) (i64.wrap (ab+1))))) else (Zbl N aa ac N 0)
termination_by structural x=>x
def Qn (N:Nat) (aa:R0):Nat→Int→Option Int
  | 0,_=>none
  | ad+1,ab=>if (decide (ab<(aa.2.1.length:Int)))=true then ((Zl aa.2.1 ab).bind fun ae=>(Zlj N aa.2.1 ae).bind fun af=>Zcn N aa ab (Qn N aa ad) N (decide (af<ab)) 0) else ((Zac N aa.2.2.2.1).bind fun ac=>if (!decide (ac=0))=true then (some ac) else ((Zf4 N (aa.1,aa.2.1,aa.2.2.1,aa.2.2.2.1,aa.2.2.2.2)).bind fun ag=>Zco N aa ag N 0))
termination_by structural x=>x
def Zd2 (N:Nat) (aa:R0) (ab:Bool):Option Int:=
  if ab=true then (some 60) else (if (decide (1024<(aa.2.1.length:Int)))=true then (some 4) else (Qn N aa N 0))
def Zf0 (N:Nat) (aa:R0):Option Int:=
  if (!decide ((aa.2.2.1.length:Int)=(aa.2.1.length:Int)))=true then (Zd2 N aa true) else (if (!decide ((aa.2.2.2.1.length:Int)=(aa.2.1.length:Int)))=true then (Zd2 N aa true) else (Zd2 N aa (!decide ((aa.2.2.2.2.length:Int)=(aa.2.1.length:Int)))))
theorem Z5h {N ak al am an:Nat} {ao ap aq ar:Option Addr} {col:Zd} {w0:World} {ab:R0} {r:Int} (hm:Zf0 N ab=some r) (a0:Sl Za.str col w0 ao ak ab.2.1) (ah:Sl (Za.slice Za.str) col w0 ap al ab.2.2.1) (a1:Sl (Za.slice rI) col w0 aq am ab.2.2.2.1) (ai:Sl (Za.slice (Za.pair (Za.pair Za.bool (Za.slice rU)) (Za.slice rU))) col w0 ar an ab.2.2.2.2):
    Calls prog 117 #[(.agg #[.string ab.1,.slice ao ab.2.1.length ak,.slice ap ab.2.2.1.length al,.slice aq ab.2.2.2.1.length am,.slice ar ab.2.2.2.2.length an])] w0 (fun e w'=>e= .returned ((.int .i64 r))∧Below w0.heap.size w0 w'):=by
 refine Xe 2 (m:=175) func117 rfl rfl rfl rfl rfl ?_;rw [Zf0.eq_1] at hm;have aa:=St.start col w0;refine go ?_;refine Xi (col:=(Zj col)) 1 rfl ?_;intro av du dv cg ac;refine go ?_;refine Xl ac<|lV _ (Qu underlying22 rfl)<|Y6 rfl<|Zk<|Zz<|Zz ?_;replace a0:=a0.k0;replace ah:=ah.k0;replace a1:=a1.k0;replace ai:=ai.k0;replace aa:=aa.grow cg;refine Wp.cutK [1,3,1000000] (fun f bo=>∃ bp bq,Zd2 N ab bq=some r∧St w0 (Zj col) bp bo∧Zg 27 1 bp bo av #[.string ab.1,.slice ao ab.2.1.length ak,.slice ap ab.2.2.1.length al,.slice aq ab.2.2.2.1.length am,.slice ar ab.2.2.2.2.length an]∧[38].map f=[.bool bq]) ?_ ?_
 ·intro f bo hJ;obtain ⟨bp,bq,hm,aa,ac,hs⟩:=hJ;rw [Zd2.eq_1] at hm;refine .lL [38] hs ?_;refine Zo hm (fun hb hm=>go ?_) fun hb hm=>go ?_
  ·cases hm;exact ⟨rfl,rfl,aa.below⟩
  refine Zo hm (fun hb hm=>go ?_) fun hb hm=>go ?_
  ·cases hm;exact ⟨rfl,rfl,aa.below⟩
  refine Zv [1,3,1000000] (fun n f bf=>∃ aj a8 aw,aw=n∧Qn N ab aw a8=some r∧St w0 (Zj col) aj bf∧Zg 27 1 aj bf av #[.string ab.1,.slice ao ab.2.1.length ak,.slice ap ab.2.2.1.length al,.slice aq ab.2.2.2.1.length am,.slice ar ab.2.2.2.2.length an]∧[4].map f=[.int .i64 a8]) N ⟨_,0,_,rfl,hm,aa,ac,rfl⟩ ?_;clear hm;intro n f bf hI;obtain ⟨aj,a8,aw,hn,hm,aa,ac,hs⟩:=hI;subst hn;refine .lL [4] hs ?_
  cases aw with
  | zero=>rw [Qn.eq_1] at hm;cases hm
  | succ aw=>
   rw [Qn.eq_2] at hm;refine go ?_;refine Zo hm (fun hb hm=>go ?_) fun hb hm=>go ?_
   ·refine Vs (col:=aj) (by kernel_rfl) (by kernel_rfl)<|qF ⟨_,_,rfl⟩ ?_;refine qW (fun _ hC=>((ac.atN).nth (q:=1) rfl).gr (hC.bl aj)) ?_;refine qF ⟨_,_,rfl⟩ ?_;refine qW (fun _ hC=>((ac.atN).nth (q:=1) rfl).gr (hC.bl aj)) ?_;refine go ?_;obtain ⟨dw,br,hm⟩:=bZ hm;refine qI br ((a0.ks aa).addr br)<|qW (fun _ hC=>((a0.ks aa).gr (hC.bl aj)).atStr br) ?_;obtain ⟨ch,ci,hm⟩:=bZ hm;refine qc (v:=(.int .i64 ch)) rfl (fun _ hC=>⟨_,_,Zgf call168 rfl rfl,(Zuy ci ((a0.ks aa).gr (hC.bl aj)):).mono fun _ _ h=>⟨h.1,hC.trans (.of_below h.2)⟩⟩) ?_;refine go ?_;refine Wn ?_;intro dx hC;replace hC:=hC.bl aj;refine go ?_;replace ac:=ac.gr hC;replace aa:=aa.grow hC;refine Zv [1,3,4,1000000] (fun n f bs=>∃ af bt a9 ay,ay=n∧Zcn N ab a8 (Qn N ab aw) ay bt a9=some r∧St w0 (Zj col) af bs∧Zg 27 1 af bs av #[.string ab.1,.slice ao ab.2.1.length ak,.slice ap ab.2.2.1.length al,.slice aq ab.2.2.2.1.length am,.slice ar ab.2.2.2.2.length an]∧[5,6].map f=[.bool bt,.int .i64 a9]) N ⟨_,_,0,_,rfl,hm,aa,ac,rfl⟩ ?_;clear hm;intro n f bs hI;obtain ⟨af,bt,a9,ay,hn,hm,aa,ac,hs⟩:=hI;subst hn;refine .lL [5,6] hs ?_
    cases ay with
    | zero=>rw [Zcn.eq_1] at hm;cases hm
    | succ ay=>
     rw [Zcn.eq_2] at hm;refine go ?_;refine Xl ac<|X4 rfl ?_;obtain ⟨dy,ag,hm⟩:=bZ hm;refine lI ag ((ah.ks aa).addr ag) ?_;obtain ⟨_,cj,ck⟩:=(ah.ks aa).atN ag;obtain ⟨⟨dz,d0,rfl,d1⟩,_⟩:=cj;refine lW ck.one<|go ?_;refine Zo hm (fun hb hm=>?_) fun hb hm=>go ?_
     ·refine Yj<|Zz ?_;refine Wp.cutK [1,3,4,6,1000000] (fun f bu=>∃ bv bw,Zi3 a9 (Zcn N ab a8 (Qn N ab aw) ay) bw=some r∧St w0 (Zj col) bv bu∧Zg 27 1 bv bu av #[.string ab.1,.slice ao ab.2.1.length ak,.slice ap ab.2.2.1.length al,.slice aq ab.2.2.2.1.length am,.slice ar ab.2.2.2.2.length an]∧[5].map f=[.bool bw]) ?_ ?_
      ·intro f bu hJ;obtain ⟨bv,bw,hm,aa,ac,hs⟩:=hJ;rw [Zi3.eq_1] at hm;refine .lL [5] hs<|go ?_;exact ⟨ay,by omega,rfl,⟨_,_,_,_,rfl,hm,aa,ac,rfl⟩⟩
      refine Zgl<|Vs (col:=af) (by kernel_rfl) (by kernel_rfl)<|go ?_;refine Yr hm (fun bx hm=>go ?_) fun bx hm=>go ?_
      ·refine qv (v:=(.bool true)) rfl (fun _ hC=>Ye (congrArg Value.bool bx) rfl) ?_;refine go ?_;refine Wn ?_;intro d2 hC;replace hC:=hC.bl af;replace ac:=ac.gr hC;replace aa:=aa.grow hC;exact ⟨rfl,_,_,hm,aa,ac,rfl⟩
      refine qF ⟨_,_,rfl⟩ ?_;refine go ?_;refine qW (fun _ hC=>((ac.atN).nth (q:=2) rfl).gr (hC.bl af)) ?_;refine go ?_;refine qI ag ((ah.ks aa).addr ag) ?_;refine go ?_;obtain ⟨_,cl,cn⟩:=(ah.ks aa).atN ag;obtain ⟨⟨d3,d4,rfl,co⟩,_⟩:=cl;refine qW (fun _ hC=>cn.one.gr (hC.bl af)) ?_;refine go ?_;refine qF ⟨_,_,rfl⟩ ?_;refine go ?_;refine qW (fun _ hC=>((ac.atN).nth (q:=2) rfl).gr (hC.bl af)) ?_;refine go ?_;refine qI ag ((ah.ks aa).addr ag) ?_;refine go ?_;obtain ⟨_,cp,cq⟩:=(ah.ks aa).atN ag;obtain ⟨⟨d5,d6,rfl,cb⟩,_⟩:=cp;refine qW (fun _ hC=>cq.one.gr (hC.bl af)) ?_;refine go ?_;obtain ⟨d7,bz,hm⟩:=bZ hm;refine qI bz (cb.addr bz) ?_;refine go ?_;refine qW (fun _ hC=>(cb.gr (hC.bl af)).atStr bz) ?_;refine go ?_;obtain ⟨cc,cr,hm⟩:=bZ hm;refine qc (v:=(.int .i64 cc)) rfl (fun _ hC=>⟨_,_,Zgf call168 rfl rfl,(Zuy cr (co.gr (hC.bl af)):).mono fun _ _ h=>⟨h.1,hC.trans (.of_below h.2)⟩⟩) ?_;refine go ?_;refine qv (v:=(.bool (decide (cc<a9)))) rfl (fun _ hC=>Yd (congrArg Value.bool bx) rfl) ?_;refine go ?_;refine Wn ?_;intro d8 hC;replace hC:=hC.bl af;replace ac:=ac.gr hC;replace aa:=aa.grow hC;exact ⟨rfl,_,_,hm,aa,ac,rfl⟩
     refine Zo hm (fun hb hm=>go ?_) fun hb hm=>go ?_
     ·cases hm;exact ⟨rfl,rfl,aa.below⟩
     refine Xl ac<|X4 rfl<|lI ag ((ah.ks aa).addr ag) ?_;obtain ⟨_,cs,ct⟩:=(ah.ks aa).atN ag;obtain ⟨⟨d9,ea,rfl,eb⟩,_⟩:=cs;refine lW ct.one<|go ?_;refine Zo hm (fun hb hm=>go ?_) fun hb hm=>go ?_
     ·cases hm;exact ⟨rfl,rfl,aa.below⟩
     exact ⟨aw,by omega,rfl,⟨_,_,_,rfl,hm,aa,ac,rfl⟩⟩
   refine Xl ac ?_;obtain ⟨ec,cu,hm⟩:=bZ hm;refine Zi (Z5d cu (a1.ks aa)) ?_;rintro _ cv ⟨rfl,bg⟩;refine ⟨_,rfl,?_⟩;replace bg:Zf aj bf aj cv:=.of_below bg;refine go ?_;replace ac:=ac.gr bg;replace aa:=aa.grow bg;refine Zo hm (fun hb hm=>go ?_) fun hb hm=>go ?_
   ·cases hm;exact ⟨rfl,rfl,aa.below⟩
   refine lV _ (Z8 isAgg27 sizeOf27 ac) ?_;obtain ⟨ax,cw,hm⟩:=bZ hm;refine Zi (Z5l 2 cw (a0.ks aa) (ah.ks aa) (a1.ks aa) (ai.ks aa)) ?_;rintro _ ed ⟨ee,bh,bi,rfl,cd,ad⟩;refine ⟨_,rfl,go ?_⟩;replace ac:=ac.gr cd;replace aa:=aa.grow cd;refine Zv [1,3,8,1000000] (fun n f ba=>∃ ae b0 a2,a2=n∧Zco N ab ax a2 b0=some r∧St w0 (Zj col) ae ba∧Zg 27 1 ae ba av #[.string ab.1,.slice ao ab.2.1.length ak,.slice ap ab.2.2.1.length al,.slice aq ab.2.2.2.1.length am,.slice ar ab.2.2.2.2.length an]∧Zb rI 3 2 ae ba bh bi ax∧[9].map f=[.int .i64 b0]) N ⟨_,0,_,rfl,hm,aa,ac,ad,rfl⟩ ?_;clear hm;intro n f ba hI;obtain ⟨ae,b0,a2,hn,hm,aa,ac,ad,hs⟩:=hI;subst hn;refine .lL [9] hs ?_
   cases a2 with
   | zero=>rw [Zco.eq_1] at hm;cases hm
   | succ a2=>
    rw [Zco.eq_2] at hm;refine go ?_;refine Zo hm (fun hb hm=>go ?_) fun hb hm=>go ?_
    ·refine Xl ac<|X4 rfl ?_;obtain ⟨ef,b1,hm⟩:=bZ hm;refine lI b1 ((a1.ks aa).addr b1) ?_;obtain ⟨_,cx,cy⟩:=(a1.ks aa).atN b1;obtain ⟨⟨eg,eh,rfl,cz⟩,_⟩:=cx;refine lW cy.one<|Y2 rfl ?_;obtain ⟨ei,c0,hm⟩:=bZ hm;refine Zi (Z5i c0 (cz.froz 2) (ad.toSlF (Zh.int .i64))) ?_;rintro _ ce ⟨rfl,bb⟩;refine ⟨_,rfl,?_⟩;replace bb:Zf ae ba ae ce:=.of_below bb;refine go ?_;obtain ⟨ej,a3,hm⟩:=bZ hm;replace ad:=ad.gr bb;refine lI a3 (ad.addr a3)<|lW (ad.atInt a3) ?_;obtain ⟨ek,c1,hm⟩:=bZ hm;refine Zi (Z5k (col:=ae) c1) ?_;rintro _ c2 ⟨rfl,bc⟩;refine ⟨_,rfl,?_⟩;replace bc:Zf ae ce ae c2:=.of_below bc;refine go ?_;replace ac:=(ac.gr bb).gr bc;replace aa:=(aa.grow bb).grow bc;replace ad:=ad.gr bc;refine Zo hm (fun hb hm=>go ?_) fun hb hm=>go ?_
     ·cases hm;exact ⟨rfl,rfl,aa.below⟩
     refine Vs (col:=ae) (by kernel_rfl) (by kernel_rfl)<|qF ⟨_,_,rfl⟩ ?_;refine qW (fun _ hC=>((ac.atN).nth (q:=4) rfl).gr (hC.bl ae)) ?_;refine go ?_;obtain ⟨el,b2,hm⟩:=bZ hm;refine qI b2 ((ai.ks aa).addr b2) ?_;obtain ⟨_,c3,c4⟩:=(ai.ks aa).atN b2;obtain ⟨⟨em,en,rfl,eo⟩,_⟩:=c3;refine qW (fun _ hC=>c4.one.gr (hC.bl ae)) ?_;refine go ?_;refine qI a3 (ad.addr a3)<|qW (fun _ hC=>(ad.gr (hC.bl ae)).atInt a3) ?_;refine go ?_;refine Wn ?_;intro ep hC;replace hC:=hC.bl ae;replace ad:=ad.gr hC;replace ac:=ac.gr hC;replace aa:=aa.grow hC;refine Zo hm (fun hb hm=>go ?_) fun hb hm=>go ?_
     ·cases hm;exact ⟨rfl,rfl,aa.below⟩
     exact ⟨a2,by omega,rfl,⟨_,_,_,rfl,hm,aa,ac,ad,rfl⟩⟩
    refine Zv [1,3,8,1000000] (fun n f bj=>∃ bk bm az,az=n∧Zbl N ab ax az bm=some r∧St w0 (Zj col) bk bj∧Zg 27 1 bk bj av #[.string ab.1,.slice ao ab.2.1.length ak,.slice ap ab.2.2.1.length al,.slice aq ab.2.2.2.1.length am,.slice ar ab.2.2.2.2.length an]∧Zb rI 3 2 bk bj bh bi ax∧[12].map f=[.int .i64 bm]) N ⟨_,0,_,rfl,hm,aa,ac,ad,rfl⟩ ?_;clear hm;intro n f bj hI;obtain ⟨bk,bm,az,hn,hm,aa,ac,ad,hs⟩:=hI;subst hn;refine .lL [12] hs ?_
    cases az with
    | zero=>rw [Zbl.eq_1] at hm;cases hm
    | succ az=>
     rw [Zbl.eq_2] at hm;refine go ?_;refine Zo hm (fun hb hm=>go ?_) fun hb hm=>go ?_
     ·refine Zv [1,12,3,8,1000000] (fun n f bd=>∃ a4 b3 a5,a5=n∧Zf1 N ab bm (Zbl N ab ax az) a5 b3=some r∧St w0 (Zj col) a4 bd∧Zg 27 1 a4 bd av #[.string ab.1,.slice ao ab.2.1.length ak,.slice ap ab.2.2.1.length al,.slice aq ab.2.2.2.1.length am,.slice ar ab.2.2.2.2.length an]∧Zb rI 3 2 a4 bd bh bi ax∧[13].map f=[.int .i64 b3]) N ⟨_,0,_,rfl,hm,aa,ac,ad,rfl⟩ ?_;clear hm;intro n f bd hI;obtain ⟨a4,b3,a5,hn,hm,aa,ac,ad,hs⟩:=hI;subst hn;refine .lL [13] hs ?_
      cases a5 with
      | zero=>rw [Zf1.eq_1] at hm;cases hm
      | succ a5=>
       rw [Zf1.eq_2] at hm;refine go ?_;refine Xl ac<|X4 rfl ?_;obtain ⟨eq,a6,hm⟩:=bZ hm;refine lI a6 ((ai.ks aa).addr a6) ?_;obtain ⟨_,c5,c6⟩:=(ai.ks aa).atN a6;obtain ⟨⟨er,es,rfl,et⟩,_⟩:=c5;refine lW c6.one<|go ?_;refine Zo hm (fun hb hm=>go ?_) fun hb hm=>go ?_
       ·refine Xl ac<|X4 rfl<|lI a6 ((ai.ks aa).addr a6) ?_;obtain ⟨_,c7,c8⟩:=(ai.ks aa).atN a6;obtain ⟨⟨eu,ew,rfl,cf⟩,_⟩:=c7;refine lW c8.one<|X4 rfl ?_;obtain ⟨b4,b5,hm⟩:=bZ hm;refine lI b5 (cf.addr b5) ?_;obtain ⟨_,c9,da⟩:=cf.atN b5;obtain ⟨_,_,rfl,db,dc⟩:=Vr c9;obtain ⟨_,_,rfl,dd,de⟩:=Vr db;obtain ⟨rfl,_⟩:=dd;obtain ⟨⟨df,dg,rfl,dh⟩,_⟩:=de;obtain ⟨⟨di,dj,rfl,dl⟩,_⟩:=dc;refine lV (.agg #[.bool b4.1.1,.slice df b4.1.2.length dg,.slice di b4.2.length dj]) (Y9 isAgg39 sizeOf39 rfl rfl da) ?_;obtain ⟨ey,dm,hm⟩:=bZ hm;refine Zi (Z5j dm dh dl) ?_;rintro _ dn ⟨rfl,be⟩;refine ⟨_,rfl,?_⟩;replace be:Zf a4 bd a4 dn:=.of_below be;refine go ?_;replace ad:=ad.gr be;replace ac:=ac.gr be;replace aa:=aa.grow be;refine Zo hm (fun hb hm=>go ?_) fun hb hm=>go ?_
        ·cases hm;exact ⟨rfl,rfl,aa.below⟩
        exact ⟨a5,by omega,rfl,⟨_,_,_,rfl,hm,aa,ac,ad,rfl⟩⟩
       exact ⟨az,by omega,rfl,⟨_,_,_,rfl,hm,aa,ac,ad,rfl⟩⟩
     refine Zv [1,3,8,1000000] (fun n f bn=>∃ au b6 a7,a7=n∧Zcp N ab ax a7 b6=some r∧St w0 (Zj col) au bn∧Zg 27 1 au bn av #[.string ab.1,.slice ao ab.2.1.length ak,.slice ap ab.2.2.1.length al,.slice aq ab.2.2.2.1.length am,.slice ar ab.2.2.2.2.length an]∧Zb rI 3 2 au bn bh bi ax∧[15].map f=[.int .i64 b6]) N ⟨_,0,_,rfl,hm,aa,ac,ad,rfl⟩ ?_;clear hm;intro n f bn hI;obtain ⟨au,b6,a7,hn,hm,aa,ac,ad,hs⟩:=hI;subst hn;refine .lL [15] hs ?_
     cases a7 with
     | zero=>rw [Zcp.eq_1] at hm;cases hm
     | succ a7=>
      rw [Zcp.eq_2] at hm;refine go ?_;refine Zo hm (fun hb hm=>go ?_) fun hb hm=>go ?_
      ·refine Vs (col:=au) (by kernel_rfl) (by kernel_rfl)<|qF ⟨_,_,rfl⟩ ?_;refine qW (fun _ hC=>((ac.atN).nth (q:=4) rfl).gr (hC.bl au)) ?_;refine go ?_;obtain ⟨ez,b7,hm⟩:=bZ hm;refine qI b7 ((ai.ks aa).addr b7) ?_;obtain ⟨_,dp,dq⟩:=(ai.ks aa).atN b7;obtain ⟨⟨e0,e1,rfl,dr⟩,_⟩:=dp;refine qW (fun _ hC=>dq.one.gr (hC.bl au)) ?_;refine go ?_;obtain ⟨e2,b8,hm⟩:=bZ hm;refine qI b8 (ad.addr b8)<|qW (fun _ hC=>(ad.gr (hC.bl au)).atInt b8) ?_;obtain ⟨ds,dt,hm⟩:=bZ hm;refine qc (v:=(.bool ds)) rfl (fun _ hC=>⟨_,_,Zgf call171 rfl rfl,(Z5m dt (dr.gr (hC.bl au)):).mono fun _ _ h=>⟨h.1,hC.trans (.of_below h.2)⟩⟩) ?_;refine go ?_;refine Wn ?_;intro e3 hC;replace hC:=hC.bl au;refine go ?_;replace ac:=ac.gr hC;replace aa:=aa.grow hC;refine Zo hm (fun hb hm=>go ?_) fun hb hm=>go ?_
       ·cases hm;exact ⟨rfl,rfl,aa.below⟩
       exact ⟨a7,by omega,rfl,⟨_,_,_,rfl,hm,aa,ac,ad.gr hC,rfl⟩⟩
      cases hm;exact ⟨rfl,rfl,aa.below⟩
 refine Ve<|Xl ac ?_;refine go ?_;refine Yr hm (fun b9 hm=>go ?_) fun b9 hm=>go ?_
 ·refine lV (.bool true) (Ye (congrArg Value.bool b9) rfl)<|Uj rfl<|lP 32 rfl rfl<|lP 32 rfl rfl<|lP 32 rfl rfl<|lP 32 rfl rfl<|lP 32 rfl rfl<|lV (.bool true) (Ye rfl rfl)<|Zk ?_;exact ⟨rfl,_,_,hm,aa,ac,rfl⟩
 refine Yx ⟨_,_,rfl⟩ ?_;refine go ?_;refine lW ((ac.atN).nth (q:=3) rfl)<|go ?_;refine lV (.bool (!decide ((ab.2.2.2.1.length:Int)=(ab.2.1.length:Int)))) (Yd (congrArg Value.bool b9) rfl)<|Uj rfl ?_;refine Yr hm (fun ca hm=>go ?_) fun ca hm=>go ?_
 ·refine lV (.bool true) (Ye (congrArg Value.bool ca) rfl)<|Zk ?_;exact ⟨rfl,_,_,hm,aa,ac,rfl⟩
 refine Yx ⟨_,_,rfl⟩ ?_;refine go ?_;refine lW ((ac.atN).nth (q:=4) rfl)<|go ?_;refine lV (.bool (!decide ((ab.2.2.2.2.length:Int)=(ab.2.1.length:Int)))) (Yd (congrArg Value.bool ca) rfl)<|Zk ?_;exact ⟨rfl,_,_,hm,aa,ac,rfl⟩

end Go.Proofs.YtkhnlgdenkikoaaGreat
