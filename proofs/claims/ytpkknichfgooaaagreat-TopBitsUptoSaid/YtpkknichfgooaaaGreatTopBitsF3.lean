/-
  What functions of the program compute, as plain Lean functions (m_..), and proofs that they compute it (c_..). Printed by a program of the author; no conditions.
-/
import Derived.Test.YtpkknichfgooaaaGreatTopBitsBFloat
import Derived.Test.YtpkknichfgooaaaGreatProg
import Derived.Test.YtpkknichfgooaaaGreatTopBitsBBrief
import Derived.Test.YtpkknichfgooaaaGreatTopBitsBThree
import Derived.Test.YtpkknichfgooaaaGreatTopBitsF2
set_option linter.unusedVariables false
set_option maxRecDepth 100000
set_option maxHeartbeats 2000000
namespace Go.Proofs.YtpkknichfgooaaaGreat
open Go Go.RowKit
open Int renaming toNat_natCast→aB,tmod→aS,tmod_eq_emod_of_nonneg→bS,tdiv→aM,tdiv_eq_ediv_of_nonneg→bM,toNat_of_nonneg→bA,toNat→aA,sign_eq_one_of_pos→fN
open List renaming take_take→fT,take_length→jB,getD_eq_getElem?_getD→aD,getElem?_eq_getElem→aO,getElem?_eq_none→cR,drop_zero→bF,drop_eq_nil_of_le→aI,length_singleton→aL,replicate→aC,length_replicate→aT,drop_replicate→fZ,eq_nil_of_length_eq_zero→cJ,drop_eq_nil_iff→aF,length_drop→cH,length_take→cC
open Nat renaming min_eq_left→aZ,le_refl→aV,lt_of_lt_of_le→aG,mul_le_mul_left→aU,pow_succ→aW,mul_zero→dE,add_zero→bV,pow_zero→dD,add_assoc→dW,zero_add→cG,pow_add→cP,div_div_eq_div_mul→fL,add_mul_div_left→gA,div_eq_of_lt→eE,mul_assoc→bJ,two_pow_pos→bU,div_le_self→bY,dvd_add_left→jH,one_mul→bO,mul_comm→bP,mul_div_cancel_left→eX,le_trans→aN,gcd→cL,gcd_comm→eM,mul_le_mul_right→aX,min_eq_right→dI,max_eq_left→fF,max_eq_right→eY,le_total→iD,sub_le→gW,gcd_sub_self_right→iE,eq_zero_or_pos→eR,gcd_zero_right→iW,beq→aH
open Option renaming getD_some→cO
open Rat renaming mkRat_eq_div→dJ,inv_eq_of_mul_eq_one→fC
open Go.IntKind (i8 i16 i32 i64 u8 u16 u32 u64)
open Go.Proofs.Tryz

theorem Z04 (N:Nat) (a:List Int) (hb:a.length≤35184372088000):∀ (n j:Nat),j≤a.length→Zcr N a n (j:Int)=S8 N n (a.take j)
 | 0,j,_=>rfl
 | n+1,j,d=>by
  have b:(a.take j).length=j:=by rw [nK];omega
  have c:0<j→Zn (a.take j) ((j - 1:Nat):Int)=Zn a ((j - 1:Nat):Int):=fun h=>by rw [Zha,Zha,List.getElem?_take,if_pos (by omega)]
  rw [Zcr.eq_2,S8.eq_2,b]
  by_cases h0:0<j
  ·have e:(j:Int) - 1=((j - 1:Nat):Int):=by omega
   rw [if_pos (dT (by omega)),if_pos (dT (by omega)),Zy (by omega),e,c h0,Xd (by omega),oB,oB,Zjg,Zcm,b,Zy (by omega),e,aB,aB]
   by_cases hx:a[j - 1]=0
   ·rw [if_pos (dT hx),if_pos (dT hx),Xh (by omega),Z04 N a hb n (j - 1) (by omega),fT,aZ (by omega)]
   ·rw [if_neg (dF hx),if_neg (dF hx),Xh (by omega),Xh (by rw [b];simp only [nN,maxLen];omega),List.nil_append]
  ·have:j=0:=by omega
   subst this
   rw [if_neg (by decide),if_neg (by decide),Zjg,Zcm,if_neg (by decide),if_neg (by decide),Xh (by omega)]
   exact Xh (by simp [maxLen])
theorem Ty {N:Nat} {a:List Int} (h:Zo a) (hn:a.length<N) (hb:a.length≤35184372088000):Ul N a=some (Zf (Za a)):=by
 rw [Ul,Z04 N a hb N a.length (aV _),jB]
 exact Zqe N N a h hn (by omega)
theorem Z06 {N:Nat} {u:Int} (h:0≤u∧u<18446744073709551616) (hn:2<N):Zjh N u=some (Zf u.toNat):=by
 have a:u32.wrap (aS u 4294967296)=u % 4294967296:=by rw [bS h.1,Ux (by omega)]
 have b:u32.wrap (u64.wrap (aM u 4294967296))=u / 4294967296:=by rw [bM h.1,Xs (by omega),Ux (by omega)]
 have c:Zo [u % 4294967296,u / 4294967296]:=.cons (by omega) (.cons (by omega) .nil)
 have e:Za [u % 4294967296,u / 4294967296]=u.toNat:=by rw [Wm,Wm,Y0];omega
 rw [Zjh,a,b,Ty c (by simpa using hn) (by simp),oB,e]
theorem Ze6 {a:List Int} (h:Zo a) (k:Nat):Zaq a (k:Int)=some ((Xu a k:Nat):Int):=by
 rw [Zaq]
 by_cases hk:k<a.length
 ·have:=h.get hk
  rw [if_pos (dT (by omega)),Xd hk,oB,Xs (by omega),Xu,aD,aO hk,cO]
  congr 1;omega
 ·rw [if_neg (dF (by omega)),Xu,aD,cR (by omega)];rfl
theorem Zmw {a:List Int} (h:Zo a) (k:Nat):Za (a.take k)<4294967296 ^ k:=by
 have b:=Q3 (h.take k)
 refine aG b (Nat.pow_le_pow_right (by decide) ?_)
 rw [nK];omega
theorem Zte (N:Nat) (a b:List Int) (ha:Zo a) (hb:Zo b):∀ (n i:Nat),i<4611686018427387904→i<n→Za (a.drop i)=Za (b.drop i)→Zga N a b n ((i:Int) - 1)=some (if Za a<Za b then -1 else if Za b<Za a then 1 else 0)
 | 0,i,_,h,_=>by omega
 | n+1,i,l,m,d=>by
  rw [Zga.eq_2]
  by_cases h0:i=0
  ·subst h0
   rw [if_neg (by decide)]
   rw [bF,bF] at d
   rw [if_neg (by omega),if_neg (by omega)]
  ·have e:(i:Int) - 1=((i - 1:Nat):Int):=by omega
   have f:i - 1+1=i:=by omega
   rw [if_pos (dT (by omega)),e,Ze6 ha,Ze6 hb,oB,oB]
   have g:=Ts a (i - 1)
   have j:=Ts b (i - 1)
   rw [Tg a,f] at g
   rw [Tg b,f,← d] at j
   have o:=Zmw ha (i - 1)
   have p:=Zmw hb (i - 1)
   have c:∀ x y:Nat,x<y→4294967296 ^ (i - 1) * (x+4294967296 * Za (a.drop i))+4294967296 ^ (i - 1)≤4294967296 ^ (i - 1) * (y+4294967296 * Za (a.drop i)):=fun x y k=>by
    rw [← Nat.mul_succ];exact aU _ (by omega)
   generalize 4294967296 ^ (i - 1)=Q at *
   by_cases hlt:Xu a (i - 1)<Xu b (i - 1)
   ·have:=c _ _ hlt
    rw [if_pos (dT (by omega)),if_pos (by omega)]
   ·rw [if_neg (dF (by omega))]
    by_cases hgt:Xu b (i - 1)<Xu a (i - 1)
    ·have:=c _ _ hgt
     rw [if_pos (dT (by omega)),if_neg (by omega),if_pos (by omega)]
    ·rw [if_neg (dF (by omega)),Zy (by omega)]
     exact Zte N a b ha hb n (i - 1) (by omega) (by omega) (by rw [Tg a,Tg b,f,d];omega)
theorem Ztf {N:Nat} {a b:List Int} (ha:Zo a) (hb:Zo b) (h1:a.length<N) (h2:b.length<N) (h3:a.length≤35184372088000) (h4:b.length≤35184372088000):
  Zf9 N a b=some (if Za a<Za b then -1 else if Za b<Za a then 1 else 0):=by
 have c:∀ (l:List Int) (k:Nat),l.length≤k→Za (l.drop k)=0:=fun l k h=>by rw [aI h];rfl
 rw [Zf9]
 by_cases h:a.length<b.length
 ·rw [if_pos (dT (by omega)),Zjb,Zy (by omega)]
  exact Zte N a b ha hb N b.length (by omega) h2 (by rw [c a _ (by omega),c b _ (by omega)])
 ·rw [if_neg (dF (by omega)),Zjb,Zy (by omega)]
  exact Zte N a b ha hb N a.length (by omega) h1 (by rw [c a _ (by omega),c b _ (by omega)])
theorem Zt0 {s:Int} (h:0≤s∧s<18446744073709551616):u32.wrap (aS s 4294967296)=((s.toNat % 4294967296:Nat):Int):=by
 rw [bS h.1,Ux (by omega)];omega
theorem Ztz {s:Int} (h:0≤s∧s<18446744073709551616):u64.wrap (aM s 4294967296)=((s.toNat / 4294967296:Nat):Int):=by
 rw [bM h.1,Xs (by omega)];omega
theorem Zsv {S Q A B C:Nat} (h:A=B+4294967296 * C):S+Q * B+Q * 4294967296 * C=S+Q * A:=by
 subst h;grind
theorem Z0c (N:Nat) (a b:List Int) (k:Zo a) (h:Zo b) (q:a.length+b.length+2<N) (p:a.length+b.length<35184372087000):∀ (n i:Nat) (f:List Int) (c:Nat),f.length=i→Zo f→c≤1→i≤a.length+b.length+2→(i≤a.length+b.length+1∨c=0)→a.length+b.length+3≤n+i→
  Qy N a b n f (c:Int) (i:Int)=some (Zf (Za f+4294967296 ^ i * (c+Za (a.drop i)+Za (b.drop i))))
 | 0,i,f,c,_,_,_,g,_,j=>by omega
 | n+1,i,f,c,d,e,m,g,j,o=>by
  have go:(i<a.length∨i<b.length∨0<c)→Zl8 a b f (c:Int) (i:Int) (Qy N a b n)=some (Zf (Za f+4294967296 ^ i * (c+Za (a.drop i)+Za (b.drop i)))):=fun _=>by
   have v:=Ze5 k i
   have w:=Ze5 h i
   have t:u64.wrap (u64.wrap ((c:Int)+((Xu a i:Nat):Int))+((Xu b i:Nat):Int))=((c+Xu a i+Xu b i:Nat):Int):=by
    rw [Xs (x:=(c:Int)+_) (by omega),Xs (by omega)];omega
   rw [Zl8,Ze6 k,Ze6 h,oB,oB,t,Zt0 (by omega),Ztz (by omega),aB]
   generalize l:c+Xu a i+Xu b i=r
   rw [Xh (by simp only [aL,maxLen];omega),Zy (by omega)]
   have s:=Z0c N a b k h q p n (i+1) (f++[((r % 4294967296:Nat):Int)]) (r / 4294967296) (by simp [d]) (e.app (.cons (by omega) .nil)) (by omega) (by omega) (by
    by_cases hi:i<a.length∨i<b.length
    ·omega
    ·right
     have x:Xu a i=0:=by rw [Xu,aD,cR (by omega)];rfl
     have u:Xu b i=0:=by rw [Xu,aD,cR (by omega)];rfl
     omega) (by omega)
   rw [show ((i+1:Nat):Int)=(i:Int)+1 by omega] at s
   rw [s,Qb,d,Wm,Y0,aB,Tg a i,Tg b i,aW]
   congr 2
   rw [dE,bV]
   refine Zsv ?_
   omega
  rw [Qy.eq_2]
  by_cases hia:i<a.length
  ·rw [if_pos (dT (by omega)),Zeb,if_pos O];exact go (.inl hia)
  ·rw [if_neg (dF (by omega))]
   by_cases hib:i<b.length
   ·rw [if_pos (dT (by omega)),Zeb,if_pos O];exact go (.inr (.inl hib))
   ·rw [if_neg (dF (by omega)),Zeb]
    by_cases hcp:0<c
    ·rw [if_pos (dT (by omega))];exact go (.inr (.inr hcp))
    ·have:c=0:=by omega
     subst this
     rw [if_neg (by decide),Ty e (by omega) (by omega),oB,aI (by omega),aI (by omega),Y0]
     simp
theorem Z0d {N:Nat} {a b:List Int} (ha:Zo a) (hb:Zo b) (hN:a.length+b.length+3<N) (hs:a.length+b.length<35184372087000):Zja N a b=some (Zf (Za a+Za b)):=by
 have:=Z0c N a b ha hb (by omega) hs N 0 [] 0 rfl .nil (by omega) (by omega) (by omega) (by omega)
 rw [bF,bF,Y0,dD] at this
 rw [Zja,show (0:Int)=((0:Nat):Int) from rfl,this]
 simp
theorem Z1d (N:Nat) (a b:List Int) (k:Zo a) (j:Zo b) (r:a.length<N) (q:a.length<35184372088000):∀ (n i:Nat) (d:List Int) (c:Nat),d.length=i→Zo d→c≤1→i≤a.length→a.length<n+i→c+Za (b.drop i)≤Za (a.drop i)→
  Zap N a b n d (c:Int) (i:Int)=some (Zf (Za d+4294967296 ^ i * (Za (a.drop i) - (c+Za (b.drop i)))),true)
 | 0,i,d,c,_,_,_,l,m,_=>by omega
 | n+1,i,d,c,e,f,o,l,m,g=>by
  rw [Zap.eq_2]
  by_cases hi:i<a.length
  ·have w:=Ze5 k i
   have x:=Ze5 j i
   rw [Tg a i,Tg b i] at g
   have go:∀ (h:Nat) (p:Int),h≤1→p=((Xu a i+4294967296 * h:Nat):Int)→Xu b i+c≤Xu a i+4294967296 * h→Xu a i+4294967296 * h<Xu b i+c+4294967296→Zji d (c:Int) (i:Int) (Zap N a b n) ((Xu b i:Nat):Int) (h:Int) p=some (Zf (Za d+4294967296 ^ i * (Za (a.drop i) - (c+Za (b.drop i)))),true):=fun h p u _ _ _=>by
    have ev:u32.wrap (u64.wrap (p - u64.wrap (((Xu b i:Nat):Int)+(c:Int))))=((Xu a i+4294967296 * h - (Xu b i+c):Nat):Int):=by
     rw [Xs (x:=((Xu b i:Nat):Int)+(c:Int)) (by omega),Xs (by omega),Ux (by omega)];omega
    rw [Zji,ev,Xh (by simp only [aL,maxLen];omega),Zo2,Zy (by omega)]
    generalize v:Xu a i+4294967296 * h - (Xu b i+c)=t
    have s:=Z1d N a b k j r q n (i+1) (d++[(t:Int)]) h (by simp [e]) (f.app (.cons (by omega) .nil)) u (by omega) (by omega) (by omega)
    rw [show ((i+1:Nat):Int)=(i:Int)+1 by omega] at s
    rw [s,Qb,e,Wm,Y0,aB,Tg a i,Tg b i,aW,dE,bV]
    congr 3
    refine Zsv ?_
    omega
   rw [if_pos (dT (by omega)),Ze6 k,Ze6 j,oB,oB,Xs (x:=((Xu b i:Nat):Int)+(c:Int)) (by omega)]
   by_cases hlt:Xu a i<Xu b i+c
   ·rw [if_pos (dT (by omega))]
    exact go 1 _ (by omega) (by rw [Xs (by omega)];omega) (by omega) (by omega)
   ·rw [if_neg (dF (by omega))]
    exact go 0 _ (by omega) (by omega) (by omega) (by omega)
  ·rw [if_neg (dF (by omega)),Ty f (by omega) (by omega),oB]
   rw [aI (show a.length≤i by omega),Y0] at g ⊢
   rw [show 0 - (c+Za (b.drop i))=0 by omega]
   simp
theorem Znc {N:Nat} {a b:List Int} (ha:Zo a) (hb:Zo b) (h1:a.length<N) (h2:b.length<N) (h3:a.length<35184372088000) (h4:b.length<35184372088000):
  Zed N a b=some (if Za a<Za b then ([],false) else (Zf (Za a - Za b),true)):=by
 rw [Zed,Ztf ha hb h1 h2 (by omega) (by omega),oB]
 by_cases h:Za a<Za b
 ·rw [if_pos h,if_pos (by decide),if_pos h]
 ·have:=Z1d N a b ha hb h1 h3 N 0 [] 0 rfl .nil (by omega) (by omega) (by omega) (by simpa using Nat.le_of_not_lt h)
  rw [if_neg h,if_neg (by split <;> decide),if_neg h,show (0:Int)=((0:Nat):Int) from rfl,this]
  simp [Y0]
theorem Z0z (N:Nat) (a b:List Int) (ha:Zo a) (hb:Zo b) (i:Nat) (hi:i<a.length) (kk:List Int→Int→Option R2):∀ (n j:Nat) (p:List Int) (c:Nat),j≤b.length→b.length<n+j→i+b.length<p.length→p.length<4611686018427387904→Zo p→c<4294967296→Za (p.drop (i+b.length))=0→
  ∃ p',Zgd N a b (i:Int) kk n (j:Int) p (c:Int)=kk p' ((i:Int)+1)∧p'.length=p.length∧Zo p'∧Za p'=Za p+4294967296 ^ (i+j) * (c+Xu a i * Za (b.drop j))∧Za (p'.drop (i+b.length+1))=0
 | 0,j,p,c,e,q,_,_,_,_,_=>by omega
 | n+1,j,p,c,e,q,f,r,g,C,l=>by
  rw [Zgd.eq_2]
  by_cases hj:j<b.length
  ·have d:i+j<p.length:=by omega
   have D:=g.get d
   have m:=ha.get hi
   have o:=hb.get hj
   have s:Xu a i=(a[i]).toNat:=by rw [Xu,aD,aO hi,cO]
   have E:a[i] * b[j]≤4294967295 * 4294967295:=Int.mul_le_mul (by omega) (by omega) (by omega) (by omega)
   have A:0≤a[i] * b[j]:=Int.mul_nonneg m.1 o.1
   have F:(((a[i]).toNat * (b[j]).toNat:Nat):Int)=a[i] * b[j]:=by rw [Int.natCast_mul,bA m.1,bA o.1]
   have t:u64.wrap (u64.wrap ((c:Int)+u64.wrap (u64.wrap a[i] * u64.wrap b[j]))+u64.wrap p[i+j])=((c+((a[i]).toNat * (b[j]).toNat+(p[i+j]).toNat):Nat):Int):=by
    rw [Xs (x:=a[i]) (by omega),Xs (x:=b[j]) (by omega),Xs (x:=a[i] * b[j]) (by omega),Xs (x:=p[i+j]) (by omega),Xs (x:=(c:Int)+_) (by omega),Xs (by omega)]
    omega
   rw [if_pos (dT (by omega)),Xd hi,oB,Xd hj,oB,Zy (x:=(i:Int)+(j:Int)) (by omega),show (i:Int)+(j:Int)=((i+j:Nat):Int) by omega,Xd d,oB,oB,aB,t]
   have B:c+((a[i]).toNat * (b[j]).toNat+(p[i+j]).toNat)<18446744073709551616:=by omega
   rw [Zt0 (by omega),Ztz (by omega),aB,Zy (x:=(j:Int)+1) (by omega),show (j:Int)+1=((j+1:Nat):Int) by omega]
   generalize hS:c+((a[i]).toNat * (b[j]).toNat+(p[i+j]).toNat)=S at *
   obtain ⟨p',q1,u,v,w,y⟩:=Z0z N a b ha hb i hi kk n (j+1) (p.set (i+j) ((S % 4294967296:Nat):Int)) (S / 4294967296) (by omega) (by omega) (by rw [nS];exact f) (by rw [nS];exact r) (g.set _ (by omega)) (by omega) (by rw [Q9 _ (by omega)];exact l)
   refine ⟨p',q1,by rw [u,nS],v,?_,y⟩
   rw [w,← dW i j 1,aW,U7 hj,s]
   exact Zyz _ _ _ _ _ _ (p[i+j]).toNat (S % 4294967296) _ _ (by have:=Sb d ((S % 4294967296:Nat):Int);rw [aB] at this;exact this) (by omega)
  ·have:j=b.length:=by omega
   subst this
   have k:=drop_zero g f l
   rw [if_neg (dF (by omega)),Zy (x:=(i:Int)+(b.length:Int)) (by omega),show (i:Int)+(b.length:Int)=((i+b.length:Nat):Int) by omega,Xd f,oB,oB,aB,Ux (by omega),Zy (by omega)]
   refine ⟨_,rfl,by rw [nS],g.set _ (by omega),?_,?_⟩
   ·have e:=Sb f (c:Int)
    rw [k.1,aB] at e
    rw [List.drop_length,Y0,dE,bV]
    simpa using e
   ·rw [Q9 _ (by omega)];exact k.2
theorem Z0y (N:Nat) (a b:List Int) (ha:Zo a) (hb:Zo b) (hN:a.length+b.length<N) (hs:a.length+b.length<35184372088000):∀ (n i:Nat) (p:List Int),i≤a.length→a.length<n+i→p.length=a.length+b.length→Zo p→Za (p.drop (i+b.length))=0→
  Zcq N a b n p (i:Int)=some (Zf (Za p+4294967296 ^ i * (Za (a.drop i) * Za b)))
 | 0,i,p,e,f,_,_,_=>by omega
 | n+1,i,p,e,f,o,c,g=>by
  rw [Zcq.eq_2]
  by_cases hi:i<a.length
  ·obtain ⟨j,q1,q,k,l,m⟩:=Z0z N a b ha hb i hi (Zcq N a b n) N 0 p 0 (by omega) (by omega) (by omega) (by omega) c (by omega) g
   rw [show ((0:Nat):Int)=0 from rfl] at q1
   have d:=Z0y N a b ha hb hN hs n (i+1) j (by omega) (by omega) (by omega) k (by rw [show i+1+b.length=i+b.length+1 by omega];exact m)
   rw [show ((i+1:Nat):Int)=(i:Int)+1 by omega] at d
   rw [if_pos (dT (by omega)),q1,d,l,Tg a i,aW,bF]
   congr 2
   simp only [bV,cG]
   grind
  ·rw [if_neg (dF (by omega)),Ty c (by omega) (by omega),oB,aI (by omega),Y0];simp
theorem Z00 {N:Nat} {a b:List Int} (ha:Zo a) (hb:Zo b) (h1:a.length+b.length<N) (h3:a.length+b.length<35184372088000):Zec N a b=some (Zf (Za a * Za b)):=by
 have c:=Yk ha
 have d:=Yk hb
 rw [Zec,Ty ha (by omega) (by omega),oB,Ty hb (by omega) (by omega),oB,Zy (by omega),Xh (by simp only [maxLen];omega)]
 have:=Z0y N (Zf (Za a)) (Zf (Za b)) (Z9 _) (Z9 _) (by omega) (by omega) N 0 (aC (aA (((Zf (Za a)).length:Int)+((Zf (Za b)).length:Int))) 0) (by omega) (by omega) (by rw [aT];omega) (.zeros _) (by rw [fZ];exact Sc _)
 rw [show ((0:Nat):Int)=0 from rfl] at this
 rw [this,Sc,bF,Z6,Z6]
 simp
theorem Z0f (N:Nat):∀ (n:Nat) (c:Int) (t:Nat),Xf t<n→t<4294967296→0≤c∧c+(Xf t:Int)≤4611686018427387904→Zf8 N n c (t:Int)=some (c+(Xf t:Int))
 | 0,c,t,h,_,_=>by omega
 | n+1,c,t,h,b,d=>by
  rw [Zf8.eq_2]
  have f:Xf t≤32:=V4.2 (by omega)
  by_cases h0:0<t
  ·have e:u32.wrap (aM (t:Int) 2)=((t / 2:Nat):Int):=by rw [bM (by omega),Ux (by omega)];omega
   have a:=Zku t 1
   rw [Nat.pow_one] at a
   have g:1≤Xf t:=by rw [Xf,if_neg (by omega)];omega
   rw [if_pos (dT (by omega)),e,Zy (by omega),Z0f N n (c+1) (t / 2) (by omega) (by omega) (by omega)]
   congr 1;omega
  ·have:t=0:=by omega
   subst this
   rw [if_neg (by decide),Zhe];simp
theorem Z96 {N:Nat} {a:List Int} (h:Zo a) (hn:a.length+32<N) (hb:a.length≤35184372088000):Zma N a=some ((Xf (Za a):Nat):Int):=by
 have i:=Yk h
 rw [Zma,Ty h (by omega) hb,oB]
 by_cases h0:(Zf (Za a)).length=0
 ·have:Za a=0:=Zhw.1 (cJ h0)
  rw [if_pos (dT (by omega)),this,Zhe];rfl
 ·have b:0<(Zf (Za a)).length:=by omega
  have e:((Zf (Za a)).length:Int) - 1=(((Zf (Za a)).length - 1:Nat):Int):=by omega
  have j:=(Z9 (Za a)).get (k:=(Zf (Za a)).length - 1) (by omega)
  have f:=Zok b
  have c:=Zhu b
  have d:(Zf (Za a))[(Zf (Za a)).length - 1]=(((Zf (Za a))[(Zf (Za a)).length - 1]).toNat:Int):=by omega
  have g:Xf ((Zf (Za a))[(Zf (Za a)).length - 1]).toNat≤32:=V4.2 (by omega)
  rw [if_neg (dF (by omega)),Zy (by omega),e,Xd (by omega),oB,d,Zy (by omega),Z0f N N _ _ (by omega) (by omega) (by omega)]
  have hb:=Zun (a:=(Zf (Za a)).take ((Zf (Za a)).length - 1)) (x:=(Zf (Za a))[(Zf (Za a)).length - 1]) ((Z9 _).take _) (by omega)
  rw [c,Z6,nK,aZ (by omega)] at hb
  rw [hb]
  congr 1
theorem Zuj (T l R k s:Nat) (hT:T<4294967296 ^ k) (hs:s<32):(T+4294967296 ^ k * (l+4294967296 * R)) / 2 ^ (32 * k+s) % 2=l / 2 ^ s % 2:=by
 have e:(4294967296:Nat) ^ k=2 ^ (32 * k):=by rw [show (4294967296:Nat)=2 ^ 32 by decide,← Nat.pow_mul]
 have a:0<4294967296 ^ k:=Nat.pow_pos (by decide)
 rw [cP,← e,← fL,gA _ _ a,eE hT,cG]
 have pw:(4294967296:Nat)=2 ^ s * (2 * 2 ^ (31 - s)):=by
  rw [Nat.mul_left_comm,← cP,show s+(31 - s)=31 by omega]
 have b:l+4294967296 * R=l+2 ^ s * (2 * (2 ^ (31 - s) * R)):=by
  conv=>lhs;rw [pw]
  rw [bJ,bJ]
 rw [b,gA _ _ (bU s),Nat.add_mul_mod_self_left]
theorem Z95 {a:List Int} (h:Zo a) {i:Nat} (hi:i<4611686018427387904):Zl9 a (i:Int)=some ((Za a / 2 ^ i % 2:Nat):Int):=by
 have e:=Ze5 h (i / 32)
 have c:i64.wrap (aM (i:Int) 32)=((i / 32:Nat):Int):=by rw [bM (by omega),Zy (by omega)];omega
 have d:aS (i:Int) 32=((i % 32:Nat):Int):=by rw [bS (by omega)];omega
 rw [Zl9,c,Ze6 h,oB,d,Xh (by omega),Znd _ _ _ (by simp only [IntKind.bits];omega)]
 have f:=bY (Xu a (i / 32)) (2 ^ (i % 32))
 have b:=Zuj (Za (a.take (i / 32))) (Xu a (i / 32)) (Za (a.drop (i / 32+1))) (i / 32) (i % 32) (Zmw h _) (by omega)
 rw [← Tg a,← Ts,show 32 * (i / 32)+i % 32=i by omega] at b
 rw [b]
 generalize Xu a (i / 32) / 2 ^ (i % 32)=x at *
 rw [Ux (by omega),bS (by omega)]
 congr 1
theorem Z0j (N:Nat) (a:List Int) (ha:Zo a) (hs:a.length<35184372088000):∀ (n i:Nat) (out:List Int) (c:Nat),out.length=i→Zo out→c≤1→i≤a.length→a.length<n+i→
  ∃ o,Zge N a n out (c:Int) (i:Int)=some o∧o.length≤a.length+1∧Zo o∧Za o=Za out+4294967296 ^ i * (c+2 * Za (a.drop i))
 | 0,i,out,c,_,_,_,e,f=>by omega
 | n+1,i,out,c,b,d,p,e,f=>by
  rw [Zge.eq_2]
  by_cases hi:i<a.length
  ·have q:=ha.get hi
   have g:u64.wrap ((c:Int)+u64.wrap (2 * u64.wrap a[i]))=((c+2 * (a[i]).toNat:Nat):Int):=by
    rw [Xs (x:=a[i]) (by omega),Xs (x:=2 * _) (by omega),Xs (by omega)];omega
   rw [if_pos (dT (by omega)),Xd hi,oB,g,Zt0 (by omega),Ztz (by omega),aB]
   generalize hS:c+2 * (a[i]).toNat=S
   rw [Xh (by simp only [aL,maxLen];omega),Zy (by omega)]
   obtain ⟨o,q1,j,k,l⟩:=Z0j N a ha hs n (i+1) (out++[((S % 4294967296:Nat):Int)]) (S / 4294967296) (by simp [b]) (d.app (.cons (by omega) .nil)) (by omega) (by omega) (by omega)
   rw [show ((i+1:Nat):Int)=(i:Int)+1 by omega] at q1
   refine ⟨o,q1,j,k,?_⟩
   rw [l,Qb,b,Wm,Y0,aB,U7 hi,aW,dE,bV]
   refine Zsv ?_
   omega
  ·have m:i=a.length:=by omega
   rw [if_neg (dF (by omega))]
   by_cases hcp:0<c
   ·rw [if_pos (dT (by omega)),Xh (by simp only [aL,maxLen];omega),Zjk,Ux (by omega)]
    refine ⟨_,rfl,by simp;omega,d.app (.cons (by omega) .nil),?_⟩
    rw [Qb,b,Wm,Y0,aB,aI (by omega),Y0]
   ·have:c=0:=by omega
    subst this
    rw [if_neg (by decide),Zjk]
    refine ⟨_,rfl,by omega,d,?_⟩
    rw [aI (by omega),Y0];simp
theorem Z0k {N:Nat} {a:List Int} {c:Nat} (ha:Zo a) (hc:c≤1) (hN:a.length<N) (hs:a.length<35184372088000):∃ o,Zjj N a (c:Int)=some o∧o.length≤a.length+1∧Zo o∧Za o=2 * Za a+c:=by
 obtain ⟨o,q1,b,d,e⟩:=Z0j N a ha hs N 0 [] c rfl .nil hc (by omega) (by omega)
 refine ⟨o,?_,b,d,?_⟩
 ·rw [Zjj,Xs (by omega)];exact q1
 ·rw [e,Y0,dD,bF];omega
theorem Z7r (Q e o2 r S v L:Nat) (h:r * 4294967296+e=2 * v+o2) (hS:S=Q * (o2+2 * (v+4294967296 * L))):S=Q * e+Q * 4294967296 * (r+2 * L):=by
 subst hS
 have:Q * (r * 4294967296+e)=Q * (2 * v+o2):=by rw [h]
 grind
theorem Z0x (N:Nat) (a:List Int) (ha:Zo a) (hN:a.length<N) (hs:a.length<35184372088000):∀ (n j:Nat) (out:List Int) (r:Nat),out.length=a.length→Zo out→r≤1→j≤a.length→j<n→Za (out.take j)=0→
  ∃ v,Zgf N a n out (r:Int) ((j:Int) - 1)=some (Zf v)∧∃ ρ,ρ≤1∧2 * v+ρ=Za (a.take j)+4294967296 ^ j * (r+2 * Za (out.drop j))
 | 0,j,out,r,_,_,_,_,h,_=>by omega
 | n+1,j,out,r,i,c,k,y,A,l=>by
  rw [Zgf.eq_2]
  by_cases h0:j=0
  ·subst h0
   rw [if_neg (by decide),Ty c (by omega) (by omega),oB]
   refine ⟨_,rfl,r,k,?_⟩
   rw [List.take_zero,Y0,bF,dD];omega
  ·have e:(j:Int) - 1=((j - 1:Nat):Int):=by omega
   have m:j - 1+1=j:=by omega
   have b:j - 1<a.length:=by omega
   have g:=ha.get b
   have o:u64.wrap (u64.wrap ((r:Int) * 4294967296)+u64.wrap a[j - 1])=((r * 4294967296+(a[j - 1]).toNat:Nat):Int):=by
    rw [Xs (x:=a[j - 1]) (by omega),Xs (x:=(r:Int) * 4294967296) (by omega),Xs (by omega)];omega
   rw [if_pos (dT (by omega)),e,Xd b,oB,Xd (by omega),oB,oB,aB,o,Zy (by omega)]
   generalize hS:r * 4294967296+(a[j - 1]).toNat=S
   have p:u32.wrap (u64.wrap (aM (S:Int) 2))=((S / 2:Nat):Int):=by rw [bM (by omega),Xs (by omega),Ux (by omega)];omega
   have q:aS (S:Int) 2=((S % 2:Nat):Int):=by rw [bS (by omega)];omega
   have s:Za (out.take (j - 1))=0:=by
    have:=Ts (out.take j) (j - 1)
    rw [fT,aZ (by omega),l] at this
    omega
   rw [p,q]
   obtain ⟨v,q1,ρ,t,u⟩:=Z0x N a ha hN hs n (j - 1) (out.set (j - 1) ((S / 2:Nat):Int)) (S % 2) (by rw [nS];exact i) (c.set _ (by omega)) (by omega) (by omega) (by omega) (by rw [Zez _ (aV _)];exact s)
   refine ⟨v,q1,ρ,t,?_⟩
   rw [u]
   have d:=Zsr b
   have f:Za ((out.set (j - 1) ((S / 2:Nat):Int)).drop (j - 1))=S / 2+4294967296 * Za (out.drop (j - 1+1)):=by
    rw [U7 (by rw [nS];omega),List.getElem_set_self,Q9 _ (by omega),aB]
   rw [m] at d f
   have w:(4294967296:Nat) ^ j=4294967296 ^ (j - 1) * 4294967296:=by rw [← aW,show (j - 1).succ=j by omega]
   rw [d,f,w,dW]
   congr 1
   exact Z7r _ _ (S % 2) _ _ (S / 2) _ (by omega) rfl
theorem Zp5 {N:Nat} {a:List Int} (ha:Zo a) (hN:a.length<N) (hs:a.length<35184372088000):Zef N a=some (Zf (Za a / 2)):=by
 obtain ⟨v,q1,ρ,c,b⟩:=Z0x N a ha hN hs N a.length (aC a.length 0) 0 (by rw [aT]) (.zeros _) (by omega) (aV _) hN (by rw [List.take_replicate];exact Sc _)
 rw [Zef,Xh (by simp only [maxLen];omega),Zy (by omega)]
 rw [jB,fZ,Sc] at b
 refine Eq.trans q1 ?_
 rw [show v=Za a / 2 by omega]
theorem Z81 {a:List Int} (h:Zo a):Za a % 2=Xu a 0 % 2:=by
 have:=Tg a 0
 rw [bF] at this
 omega
theorem Zp4 {a:List Int} (h:Zo a):Zee a=some (decide (Za a % 2=0)):=by
 rw [Zee,Z81 h]
 by_cases h0:a.length=0
 ·have:a=[]:=cJ h0
  subst this
  rfl
 ·have g:=h.get (k:=0) (by omega)
  have b:Xu a 0=(a[0]).toNat:=by rw [Xu,aD,aO (by omega),cO]
  rw [if_neg (dF (by omega)),show (0:Int)=((0:Nat):Int) from rfl,Xd (by omega),oB,Zmd,bS (by omega),b]
  congr 1
  exact decide_eq_decide.2 (by omega)
theorem Z9g {q:List Int} (hq:Zo q) {i:Nat} (hi:i<32 * q.length) (hd:2 ^ (i+1) ∣ Za q):
  ∃ x:Nat,Zn q ((i / 32:Nat):Int)=some (x:Int)∧u32.wrap ((x:Int)+Xx .u32 1 ((i % 32:Nat):Int))=((x+2 ^ (i % 32):Nat):Int)∧x+2 ^ (i % 32)<4294967296∧Za (q.set (i / 32) ((x+2 ^ (i % 32):Nat):Int))=Za q+2 ^ i:=by
 have a:i / 32<q.length:=by omega
 have g:=hq.get a
 have l:i % 32<32:=Nat.mod_lt _ (by decide)
 have w:=bU (i % 32)
 have b:(4294967296:Nat) ^ (i / 32)=2 ^ (32 * (i / 32)):=by rw [show (4294967296:Nat)=2 ^ 32 by decide,← Nat.pow_mul]
 have c:(4294967296:Nat)=2 ^ (i % 32+1) * 2 ^ (31 - i % 32):=by rw [← cP,show i % 32+1+(31 - i % 32)=32 by omega]
 have m:(2:Nat) ^ (i+1)=4294967296 ^ (i / 32) * 2 ^ (i % 32+1):=by rw [b,← cP];congr 1;omega
 have e:(2:Nat) ^ i=4294967296 ^ (i / 32) * 2 ^ (i % 32):=by rw [b,← cP];congr 1;omega
 have sp:=Ts q (i / 32)
 rw [U7 a] at sp
 have n:=Zmw hq (i / 32)
 have o:0<4294967296 ^ (i / 32):=Nat.pow_pos (by decide)
 rw [m] at hd
 -- the limb's lower bits are none
 have p:2 ^ (i % 32+1) ∣ (q[i / 32]).toNat:=by
  have f:4294967296 ^ (i / 32) ∣ Za q:=Nat.dvd_trans ⟨_,rfl⟩ hd
  have r:4294967296 ^ (i / 32) ∣ Za (q.take (i / 32)):=by
   rw [sp] at f
   exact (jH ⟨_,rfl⟩).1 f
  have z:Za (q.take (i / 32))=0:=Nat.eq_zero_of_dvd_of_lt r n
  rw [z,cG] at sp
  rw [sp] at hd
  have s:=Nat.dvd_of_mul_dvd_mul_left o hd
  have t:2 ^ (i % 32+1) ∣ 4294967296 * Za (q.drop (i / 32+1)):=by
   conv=>rhs;rw [c]
   exact ⟨2 ^ (31 - i % 32) * Za (q.drop (i / 32+1)),by rw [bJ]⟩
  exact (jH t).1 s
 obtain ⟨y,j⟩:=p
 have k:(q[i / 32]).toNat+2 ^ (i % 32)<4294967296:=by
  have d:2 ^ (i % 32+1) * y<2 ^ (i % 32+1) * 2 ^ (31 - i % 32):=by rw [← j,← c];omega
  have u:=Nat.lt_of_mul_lt_mul_left d
  have v:=aU (2 ^ (i % 32+1)) (show y+1≤2 ^ (31 - i % 32) from u)
  rw [← c,Nat.mul_add,← j,aW] at v
  omega
 refine ⟨(q[i / 32]).toNat,by rw [Xd a];congr 1;omega,?_,k,?_⟩
 ·rw [show (1:Int)=((1:Nat):Int) from rfl,Ztr l (.inl rfl),bO,Ux (x:=((2 ^ (i % 32):Nat):Int)) (by omega),Ux (by omega)]
  omega
 ·have d:=Sb a (((q[i / 32]).toNat+2 ^ (i % 32):Nat):Int)
  rw [aB,Nat.mul_add,← e] at d
  omega
theorem Zth (N:Nat) (a y:List Int) (ha:Zo a) (hy:Zo y) (hy0:0<Za y) (hly:y.length+8<N) (hs:y.length<35184372000000) (hla:a.length<35184372000000) (hyc:(Zf (Za y)).length=y.length) (hNa:a.length+y.length+8<N):∀ (n j:Nat) (r q:List Int),j<n→j<4611686018427387904→j≤32 * q.length→q.length≤a.length→Zo q→r=Zf (Za r)→Za r<Za y→2 ^ j ∣ Za q→Za a / 2 ^ j=Za q / 2 ^ j * Za y+Za r→
  Zco N a y n r ((j:Int) - 1) q=some (Zf (Za a / Za y),Zf (Za a % Za y),0)
 | 0,j,r,q,h,_,_,_,_,_,_,_,_=>by omega
 | n+1,j,r,q,O,R,P,p,m,t,g,C,k=>by
  rw [Zco.eq_2]
  by_cases h0:j=0
  ·subst h0
   rw [dD,Nat.div_one,Nat.div_one] at k
   rw [if_neg (by decide),Ty m (by omega) (by omega),oB]
   have D:Za a / Za y=Za q:=by rw [k,bP,Nat.mul_add_div hy0,eE g,bV]
   have u:Za a % Za y=Za r:=by rw [k,bP,Nat.mul_add_mod,Nat.mod_eq_of_lt g]
   rw [D,u,← t]
  ·have e:(j:Int) - 1=((j - 1:Nat):Int):=by omega
   obtain ⟨i,rfl⟩:∃ i,j=i+1:=⟨j - 1,by omega⟩
   have E:i+1 - 1=i:=by omega
   rw [e,E]
   have Q:r.length≤y.length:=by
    rw [t,← hyc];exact Ws (Nat.le_of_lt g)
   have v:Zo r:=by rw [t];exact Z9 _
   have S:=Nat.mod_lt (Za a / 2 ^ i) (show 0<2 by decide)
   obtain ⟨d,F,T,o,w⟩:=Z0k (N:=N) (a:=r) (c:=Za a / 2 ^ i % 2) v (by omega) (by omega) (by omega)
   have u:Za a / 2 ^ i=2 * (Za a / 2 ^ (i+1))+Za a / 2 ^ i % 2:=by
    rw [aW,← fL];omega
   obtain ⟨qq,f⟩:=C
   have A:Za q / 2 ^ (i+1)=qq:=by rw [f,eX _ (bU _)]
   have s:Za q / 2 ^ i=2 * qq:=by rw [f,aW,bJ,eX _ (bU _)]
   rw [A] at k
   rw [if_pos (dT (by omega)),Z95 ha (by omega),oB,F,oB,Ty o (by omega) (by omega),oB,Ztf (Z9 _) hy (by have:=Yk o;omega) (by omega) (by have:=Yk o;omega) (by omega),oB,Z6,w]
   rw [k] at u
   have l:Za a / 2 ^ i=2 * qq * Za y+(2 * Za r+Za a / 2 ^ i % 2):=by
    have:2 * qq * Za y=2 * (qq * Za y):=bJ _ _ _
    omega
   generalize hbit:Za a / 2 ^ i % 2=b at *
   by_cases hge:Za y≤2 * Za r+b
   ·rw [if_pos (by rw [if_neg (by omega)];split <;> decide)]
    obtain ⟨x,G,H,I,B⟩:=Z9g m (i:=i) (by omega) ⟨qq,f⟩
    have J:i64.wrap (aM (i:Int) 32)=((i / 32:Nat):Int):=by rw [bM (by omega),Zy (by omega)];omega
    have K:aS (i:Int) 32=((i % 32:Nat):Int):=by rw [bS (by omega)];omega
    have U:(Zf (2 * Za r+b)).length≤y.length+1:=by rw [← w];exact aN (Yk o) (by omega)
    rw [Znc (Z9 _) hy (by omega) (by omega) (by omega) (by omega),oB,Z6,if_neg (by omega),J,K,G,oB,Xh (by omega),H,oB,aB,Zjd,Zy (by omega)]
    have L:=Zth N a y ha hy hy0 hly hs hla hyc hNa n i (Zf (2 * Za r+b - Za y)) (q.set (i / 32) ((x+2 ^ (i % 32):Nat):Int)) (by omega) (by omega) (by rw [nS];omega) (by rw [nS];exact p) (m.set _ ⟨Int.natCast_nonneg _,Int.ofNat_lt.2 I⟩) (by rw [Z6]) (by rw [Z6];omega) (by
     rw [B,f];exact Nat.dvd_add ⟨2 * qq,by rw [aW,bJ]⟩ (Nat.dvd_refl _)) (by
     have:Za (q.set (i / 32) ((x+2 ^ (i % 32):Nat):Int)) / 2 ^ i=2 * qq+1:=by
      rw [B,Nat.add_div_right _ (bU _),s]
     rw [this,Z6,l,Nat.add_mul,bO];omega)
    exact L
   ·rw [if_neg (by rw [if_pos (by omega)];decide),Zjd,Zy (by omega)]
    exact Zth N a y ha hy hy0 hly hs hla hyc hNa n i (Zf (2 * Za r+b)) q (by omega) (by omega) (by omega) p m (by rw [Z6]) (by rw [Z6];omega) (by rw [f];exact ⟨2 * qq,by rw [aW,bJ]⟩) (by rw [s,Z6,l])
theorem Z0i {N:Nat} {a b:List Int} (ha:Zo a) (hb:Zo b) (hN:32 * a.length+(Zf (Za b)).length+48<N) (hbN:b.length<N) (hs:a.length+(Zf (Za b)).length<35184370000000) (hbs:b.length≤35184372000000):
  Zjc N a b=some (if Za b=0 then ([],[],11) else (Zf (Za a / Za b),Zf (Za a % Za b),0)):=by
 have f:=Yk ha
 rw [Zjc,Ty hb (by omega) (by omega),oB]
 by_cases h0:Za b=0
 ·rw [h0,Vo,if_pos (by decide),if_pos rfl]
 ·have d:=S4 h0
  have e:=(Zhd (Za a)).2
  rw [if_neg (dF (by omega)),if_neg h0,Z96 ha (by omega) (by omega),oB]
  have c:i64.wrap (aM (i64.wrap (((Xf (Za a):Nat):Int)+31)) 32)=(((Xf (Za a)+31) / 32:Nat):Int):=by
   rw [Zy (x:=((Xf (Za a):Nat):Int)+31) (by omega),bM (by omega),Zy (by omega)];omega
  rw [c,Xh (by simp only [maxLen,aB];omega),aB,Zy (by omega)]
  have:=Zth N a (Zf (Za b)) ha (Z9 _) (by rw [Z6];omega) (by omega) (by omega) (by omega) (by rw [Z6]) (by omega) N (Xf (Za a)) [] (aC ((Xf (Za a)+31) / 32) 0) (by omega) (by omega) (by rw [aT];omega) (by rw [aT];omega) (.zeros _) (by rw [Y0,Vo]) (by rw [Z6,Y0];omega) (by rw [Sc];exact ⟨0,rfl⟩) (by
   rw [Sc,Y0,Nat.zero_div,Nat.zero_mul]
   exact eE (V4.1 (aV _)))
  rw [Z6] at this
  exact this
theorem Z51 {x:Nat} (h:x % 2=1):Nat.Coprime 2 x:=by
 rw [Nat.coprime_iff_gcd_eq_one,Nat.gcd_rec,h,Nat.gcd_one_left]
theorem Zxp {x y k:Nat} (h:y % 2=1):cL (2 ^ k * x) y=cL x y:=by
 induction k with
 | zero=>rw [dD,bO]
 | succ k a=>rw [aW,bP (2 ^ k),bJ,(Z51 h).gcd_mul_left_cancel,a]
theorem Z7p {x y k:Nat} (h:x % 2=1):cL x (2 ^ k * y)=cL x y:=by
 rw [eM,Zxp h,eM]
theorem Zny {x:Nat} (h:x≠0):1≤Xf x:=by rw [Xf,if_neg h];omega
theorem Znx (x:Nat):Xf (x / 2)=Xf x - 1:=by
 have:=Zku x 1
 rwa [Nat.pow_one] at this
theorem Zkt {x y:Nat} (h:x≤y):Xf x≤Xf y:=V4.2 (Nat.lt_of_le_of_lt h (V4.1 (aV _)))
theorem Zks {M x:Nat} (h:(Zf x).length≤M):Xf x≤32 * M:=by have:=(Zhd x).2;omega
theorem Zx4 {x xo k:Nat} (h:x=2 ^ k * xo):xo≤x:=by
 rw [h]
 have:=aX xo (bU k)
 omega
section
variable {N M:Nat} (hN:100 * M+64<N) (hM:M<1066000000100)
include hN hM
theorem Z0v (t:Nat):∀ (n i:Nat) (x:List Int),i≤t→t - i<n→t≤32 * M→Zo x→x.length+(t - i)≤33 * M→
  ∃ g,Zgc N (t:Int) n x (i:Int)=some g∧Zo g∧Za g=2 ^ (t - i) * Za x∧g.length≤x.length+(t - i)
 | 0,i,x,_,h,_,_,_=>by omega
 | n+1,i,x,p,q,j,b,r=>by
  rw [Zgc.eq_2]
  by_cases h0:i<t
  ·obtain ⟨d,e,s,k,l⟩:=Z0k (N:=N) (a:=x) (c:=0) b (by omega) (by omega) (by omega)
   rw [show ((0:Nat):Int)=0 from rfl] at e
   obtain ⟨g,f,m,o,u⟩:=Z0v t n (i+1) d (by omega) (by omega) j k (by omega)
   rw [show ((i+1:Nat):Int)=(i:Int)+1 by omega] at f
   rw [if_pos (dT (by omega)),e,oB,Zy (by omega)]
   refine ⟨g,f,m,?_,by omega⟩
   rw [o,l,bV (2 * Za x),← bJ,← aW]
   congr 2;omega
  ·have:i=t:=by omega
   subst this
   rw [if_neg (dF (by omega))]
   exact ⟨x,rfl,b,by simp,by omega⟩
theorem Z0u (kk:List Int→List Int→Option R2) {x:Nat} (hx:(Zf x).length≤M):∀ (n y:Nat),y≠0→Xf y<n→(Zf y).length≤M→
  ∃ yo k,y=2 ^ k * yo∧yo % 2=1∧Zbm N kk (Zf x) n (Zf y)=kk (Zf (min x yo)) (Zf (max x yo - min x yo))
 | 0,y,_,h,_=>by omega
 | n+1,y,a,f,b=>by
  have g:=S4 a
  rw [Zbm.eq_2,if_pos (dT (by omega)),Zp4 (Z9 _),Z6,oB,Zmc]
  by_cases he:y % 2=0
  ·rw [if_pos (dT he),Zp5 (Z9 _) (by omega) (by omega),oB,Z6]
   have i:=Znx y
   have j:=Zny a
   obtain ⟨yo,k,c,d,e⟩:=Z0u kk hx n (y / 2) (by omega) (by omega) (aN (Ws (bY _ _)) b)
   refine ⟨yo,k+1,?_,d,e⟩
   rw [aW,bP (2 ^ k),bJ,← c];omega
  ·rw [if_neg (dF he),Ztf (Z9 _) (Z9 _) (by omega) (by omega) (by omega) (by omega),oB,Z6,Z6]
   refine ⟨y,0,by simp,by omega,?_⟩
   by_cases hxy:y<x
   ·rw [if_pos (by rw [if_neg (by omega),if_pos hxy];decide),Zjf,Znc (Z9 _) (Z9 _) (by omega) (by omega) (by omega) (by omega),oB,Z6,Z6,if_neg (by omega),dI (by omega),fF (by omega)]
   ·rw [if_neg (by split <;> (try split) <;> simp_all <;> omega),Zjf,Znc (Z9 _) (Z9 _) (by omega) (by omega) (by omega) (by omega),oB,Z6,Z6,if_neg (by omega),aZ (by omega),eY (by omega)]
theorem Z0t (kk:List Int→List Int→Option R2) {y:Nat}:∀ (n x:Nat),x≠0→Xf x<n→(Zf x).length≤M→
  ∃ xo k,x=2 ^ k * xo∧xo % 2=1∧Zgb N (Zf y) kk n (Zf x)=Zbm N kk (Zf xo) N (Zf y)
 | 0,x,_,h,_=>by omega
 | n+1,x,a,f,b=>by
  rw [Zgb.eq_2,Zp4 (Z9 _),Z6,oB]
  by_cases he:x % 2=0
  ·rw [if_pos (dT he),Zp5 (Z9 _) (by omega) (by omega),oB,Z6]
   have g:=Znx x
   have i:=Zny a
   obtain ⟨xo,k,c,d,e⟩:=Z0t kk n (x / 2) (by omega) (by omega) (aN (Ws (bY _ _)) b)
   refine ⟨xo,k+1,?_,d,e⟩
   rw [aW,bP (2 ^ k),bJ,← c];omega
  ·rw [if_neg (dF he)]
   exact ⟨x,0,by simp,by omega,rfl⟩
theorem Z0w (t:Nat) {n x y:Nat} (hx:x≠0) (hy:y≠0) (h:x % 2=1∨y % 2=1) (lx:(Zf x).length≤M) (ly:(Zf y).length≤M):
  ∃ x' y',U5 N (t:Int) (n+1) (Zf x) (Zf y)=U5 N (t:Int) n (Zf x') (Zf y')∧x' % 2=1∧y' % 2=0∧cL x' y'=cL x y∧(Zf x').length≤M∧(Zf y').length≤M∧(Xf x'+Xf y'≤Xf x+Xf y)∧(y % 2=0→Xf x'+Xf y'+1≤Xf x+Xf y):=by
 have w:=S4 hy
 have A:=Zks lx
 have s:=Zks ly
 obtain ⟨a,k,g,j,m⟩:=Z0t hN hM (U5 N (t:Int) n) (y:=y) N x hx (by omega) lx
 have f:=Zx4 g
 obtain ⟨yo,l,d,o,p⟩:=Z0u hN hM (U5 N (t:Int) n) (x:=a) (aN (Ws f) lx) N y hy (by omega) ly
 have i:=Zx4 d
 rw [U5.eq_2,if_pos (dT (by omega)),m,p]
 have B:max a yo≤max x y:=by omega
 have lM:(Zf (max x y)).length≤M:=by
  rcases iD x y with h | h
  ·rw [eY h];exact ly
  ·rw [fF h];exact lx
 have u:Xf (min a yo)+Xf (max a yo - min a yo)≤Xf a+Xf yo:=by
  rcases iD a yo with h | h
  ·rw [aZ h,eY h]
   have:=Zkt (gW yo a);omega
  ·rw [dI h,fF h]
   have:=Zkt (gW a yo);omega
 have C:=Zkt f
 have D:=Zkt i
 refine ⟨_,_,rfl,by omega,by omega,?_,aN (Ws (by omega)) lM,aN (Ws (by omega)) lM,by omega,fun v=>?_⟩
 ·have q:cL (min a yo) (max a yo - min a yo)=cL a yo:=by
   rcases iD a yo with h | h
   ·rw [aZ h,eY h,iE h]
   ·rw [dI h,fF h,iE h,eM]
  rw [q,g,d]
  rcases h with h | h
  ·have c:k=0:=by
    rcases eR k with c | c
    ·exact c
    ·obtain ⟨b,rfl⟩:∃ b,k=b+1:=⟨k - 1,by omega⟩
     rw [g,aW,bP (2 ^ b),bJ] at h;omega
   subst c
   rw [dD,bO,Z7p j]
  ·have e:l=0:=by
    rcases eR l with c | c
    ·exact c
    ·obtain ⟨b,rfl⟩:∃ b,l=b+1:=⟨l - 1,by omega⟩
     rw [d,aW,bP (2 ^ b),bJ] at h;omega
   subst e
   rw [dD,bO,Zxp o]
 ·have:yo≤y / 2:=by
   rcases eR l with e | e
   ·subst e;rw [dD,bO] at d;omega
   ·obtain ⟨b,rfl⟩:∃ b,l=b+1:=⟨l - 1,by omega⟩
    rw [d,aW,bP (2 ^ b),bJ,eX _ (by decide)]
    have:=aX yo (bU b)
    omega
  have r:=Zkt this
  rw [Znx] at r
  have E:=Zny hy
  omega
theorem Z0s (t:Nat) (ht:t≤32 * M):∀ (n x y:Nat),x % 2=1→y % 2=0→Xf x+Xf y<n→(Zf x).length≤M→(Zf y).length≤M→
  ∃ g,U5 N (t:Int) n (Zf x) (Zf y)=some g∧Zo g∧Za g=2 ^ t * cL x y∧g.length≤33 * M
 | 0,x,y,_,_,h,_,_=>by omega
 | n+1,x,y,e,f,v,i,j=>by
  by_cases h0:y=0
  ·subst h0
   rw [U5.eq_2,Vo,if_neg (by decide)]
   obtain ⟨g,b,c,a,d⟩:=Z0v hN hM t N 0 (Zf x) (by omega) (by omega) ht (Z9 _) (by omega)
   rw [Z6,Nat.sub_zero] at a
   exact ⟨g,b,c,by rw [a,iW],by omega⟩
  ·obtain ⟨k,l,m,o,p,q,r,s,_,u⟩:=Z0w hN hM t (n:=n) (by omega) h0 (.inl e) i j
   have:=u f
   obtain ⟨g,b,c,a,d⟩:=Z0s t ht n k l o p (by omega) r s
   exact ⟨g,by rw [m,b],c,by rw [a,q],d⟩
theorem Z0r:∀ (n x y t:Nat),x≠0→y≠0→Xf x<n→t+Xf x≤32 * M→(Zf x).length≤M→(Zf y).length≤M→
  ∃ g,Zcp N n (Zf x) (Zf y) (t:Int)=some g∧Zo g∧Za g=2 ^ t * cL x y∧g.length≤33 * M
 | 0,x,y,t,_,_,h,_,_,_=>by omega
 | n+1,x,y,t,k,l,B,C,d,e=>by
  have D:=Zks d
  have w:=Zks e
  have a:(x % 2=1∨y % 2=1)→∃ g,U5 N (t:Int) N (Zf x) (Zf y)=some g∧Zo g∧Za g=2 ^ t * cL x y∧g.length≤33 * M:=fun h=>by
   obtain ⟨b,A⟩:∃ b,N=b+1:=⟨N - 1,by omega⟩
   obtain ⟨m,o,p,q,r,s,u,v,E,_⟩:=Z0w hN hM t (n:=b) k l h d e
   obtain ⟨g,c,f,i,j⟩:=Z0s hN hM t (by omega) b m o q r (by omega) u v
   refine ⟨g,?_,f,by rw [i,s],j⟩
   rw [← c,← p]
   congr 1
  rw [Zcp.eq_2,Zp4 (Z9 _),Z6,oB]
  by_cases hxe:x % 2=0
  ·rw [if_pos (dT hxe),Zp4 (Z9 _),Z6,oB,Zje]
   by_cases hye:y % 2=0
   ·rw [if_pos (dT hye),Zp5 (Z9 _) (by omega) (by omega),oB,Zp5 (Z9 _) (by omega) (by omega),oB,Z6,Z6,Zy (by omega)]
    have F:=Znx x
    have G:=Zny k
    obtain ⟨g,c,f,i,j⟩:=Z0r n (x / 2) (y / 2) (t+1) (by omega) (by omega) (by omega) (by omega) (aN (Ws (bY _ _)) d) (aN (Ws (bY _ _)) e)
    rw [show ((t+1:Nat):Int)=(t:Int)+1 by omega] at c
    refine ⟨g,c,f,?_,j⟩
    rw [i,aW,bJ,← Nat.gcd_mul_left]
    congr 2 <;> omega
   ·rw [if_neg (dF hye)]
    exact a (.inr (by omega))
  ·rw [if_neg (dF hxe),Zje,if_neg (by decide)]
   exact a (.inl (by omega))
end
theorem Xah {N M:Nat} {a b:List Int} (ha:Zo a) (hb:Zo b) (hla:a.length≤M) (hlb:b.length≤M) (hN:100 * M+64<N) (hM:M<1066000000100):∃ g,Zmb N a b=some g∧Zo g∧Za g=cL (Za a) (Za b)∧g.length≤33 * M:=by
 have i:=Yk ha
 have j:=Yk hb
 rw [Zmb,Ty ha (by omega) (by omega),oB,Ty hb (by omega) (by omega),oB]
 by_cases h1:Za a=0
 ·rw [h1,Vo,if_pos (by decide),Nat.gcd_zero_left]
  exact ⟨_,rfl,Z9 _,Z6 _,by omega⟩
 ·have p1:=S4 h1
  rw [if_neg (dF (by omega))]
  by_cases h2:Za b=0
  ·rw [h2,Vo,if_pos (by decide),iW]
   exact ⟨_,rfl,Z9 _,Z6 _,by omega⟩
  ·have p2:=S4 h2
   have k:=Zks (x:=Za a) (by omega)
   rw [if_neg (dF (by omega))]
   obtain ⟨g,c,d,e,f⟩:=Z0r hN hM N (Za a) (Za b) 0 h1 h2 (by omega) (by omega) (by omega) (by omega)
   exact ⟨g,c,d,by rw [e];simp,f⟩
def Zo4:Option R2:=
  some [1]
theorem Z4y {col:Zg} {a:World} {r:R2} (d:Nat) (c:Zo4=some r):
    Calls prog 85 #[] a (Vl .u32 119 d col a r):=by
 refine Xk 0 (m:=2) func85 O O O O O ?_;rw [Zo4.eq_1] at c;have b:=St.start col a;refine go ?_;refine Vn (col:=(Zk col)) [1] 1 fun _ _ _ e f=>go ?_;cases c;replace b:=b.grow e;exact ⟨O,_,_,1,O,b.fin (cm [(1,d)]),b.fo f⟩
def S9 (N:Nat) (b:R0):Option R2:=
  (Ul N b.2).bind fun a=>if (decide ((a.length:Int)=0))=true then ((Zo4).bind fun c=>some c) else (some a)
theorem Zb4 {N d f:Nat} {g i:Option Addr} {col:Zg} {h:World} {b:R0} {r:R2} (j:Nat) (a:S9 N b=some r) (u:Sl rU col h g d b.1.2) (c:Sl rU col h i f b.2):
    Calls prog 39 #[(.agg #[.bool b.1.1,.slice g b.1.2.length d,.slice i b.2.length f])] h (Vl .u32 119 j col h r):=by
 refine Xk 2 (m:=12) func39 O O O O O ?_;rw [S9.eq_1] at a;have e:=St.start col h;refine go ?_;refine Xj (col:=(Zk col)) 1 O fun _ _ _ v l=>go ?_;refine Xp l ?_;obtain ⟨_,m,a⟩:=bZ a;replace e:=e.grow v;refine Zh (Tn 2 m (c.k0.ks e)) ?_;rintro _ A ⟨n,B,C,rfl,o,p⟩;refine ⟨_,O,go ?_⟩;replace e:=e.grow o;refine Zp a (fun k a=>go ?_) fun k a=>go ?_
 ·obtain ⟨_,q,a⟩:=bZ a;refine lc O O (Sv call85) (Z4y (col:=n) 3 q:) ?_;rintro _ E ⟨F,G,H,rfl,s,t⟩;refine ⟨_,O,go ?_⟩;cases a;replace e:=e.grow s;exact ⟨O,_,_,_,O,e.fin (cm [(3,j)]),e.fo t⟩
 cases a;exact ⟨O,_,_,_,O,e.fin (cm [(2,j)]),e.fo p⟩
def Zbn (a:List Int):Option R3:=
  some (false,a)
theorem Zn8 {c:Nat} {g:Option Addr} {col:Zg} {f:World} {b:R2} {r:R3} (i:Zbn b=some r) (j:Sl rU col f g c b):
    Calls prog 38 #[.slice g b.length c] f (fun e w'=>∃ (col':Zg) (d:Option Addr) (a:Nat),e= .returned ((.agg #[.bool r.1,.slice d r.2.length a]))∧Zl col f col' w'∧Sl rU col' w' d a r.2):=by
 refine Yb (m:=5) func38 O O O ?_;rw [Zbn.eq_1] at i;have h:=St.start col f;refine go ?_;refine Xc (col:=(Zk col)) #[.bool false,(nI)] 1 zeroValue40 fun _ _ _ o n=>go ?_;refine lV (.agg #[.bool false,.slice g b.length c]) (Yc (l:=[_,_]) (qs:=[(0,1),(1,1)]) underlying40 zeroValue40 ⟨O,sizeOf4,O,sizeOf38,trivial⟩ O)<|Zs n ?_;intro _ k l m;refine go ?_;cases i;replace h:=(h.grow o).kp k l;exact ⟨O,_,ra m.atN,_,_,_,O,h.fin (cm []),h.fs (j.k0.ks h)⟩
def Zjm (a:Bool) (b:List Int):Option R3:=
  some (a,b)
def Qz (N:Nat) (b:Bool) (c:List Int):Option R3:=
  (Ul N c).bind fun a=>if b=true then (Zjm (decide (0<(a.length:Int))) a) else (Zjm false a)
theorem Zdc {N u:Nat} {i:Option Addr} {col:Zg} {d:World} {v:Bool} {k:R2} {r:R3} (j:Nat) (a:Qz N v k=some r) (s:Sl rU col d i u k):
    Calls prog 83 #[.bool v,.slice i k.length u] d (Tt 119 j col d r):=by
 refine Yb (m:=16) func83 O O O ?_;rw [Qz.eq_1] at a;have b:=St.start col d;refine go ?_;refine Xc (col:=(Zk col)) #[.bool false,(nI)] 1 zeroValue40 fun J _ _ C e=>go ?_;obtain ⟨l,B,a⟩:=bZ a;replace b:=b.grow C;refine Zh (Tn 2 B (s.k0.ks b)) fun _ _ ⟨_,y,z,q,t,c⟩=>⟨_,q,?_⟩;refine So O<|Zj<|Zw ?_;replace e:=e.gr t;replace b:=b.grow t;refine Wp.cutK [4,1000000] (fun G f=>∃ g m n o h,Zjm m h=some r∧St d (Zk col) g f∧Zb rU 119 3 g f n o h∧Zi 40 1 g f J #[.bool m,.slice n h.length o]) ?_ ?_
 ·intro G f A;obtain ⟨g,m,n,o,h,a,b,F,e⟩:=A;rw [Zjm.eq_1] at a;refine Y5 ?_;cases a;exact ⟨O,_,ra e.atN,_,_,_,O,b.fin (cm [(3,j)]),b.fo F⟩
 refine go ?_;refine X9 a (fun p a=>go ?_) fun p a=>go ?_
 ·refine lV (.bool (decide (0<(l.length:Int)))) (Xw (congrArg Value.bool p) O)<|Wg O<|lV (.agg #[.bool (decide (0<(l.length:Int))),.slice y l.length z]) (Yc (l:=[_,_]) (qs:=[(0,1),(1,1)]) underlying40 zeroValue40 ⟨O,sizeOf4,O,sizeOf38,trivial⟩ O)<|Zs e ?_;intro _ w D H;refine Zj ?_;replace c:=c.kp w;replace c:=c.recolSelf 3 (by decide);replace b:=b.kp w D;replace b:=b.recol 2 3 (by decide) (by decide);exact ⟨O,_,_,_,_,_,a,b,c,H.recol 2 3⟩
 refine lV (.bool false) (X0 (congrArg Value.bool p) O)<|Wg O<|lV (.agg #[.bool false,.slice y l.length z]) (Yc (l:=[_,_]) (qs:=[(0,1),(1,1)]) underlying40 zeroValue40 ⟨O,sizeOf4,O,sizeOf38,trivial⟩ O)<|Zs e ?_;intro _ x E I;refine Zj ?_;replace c:=c.kp x;replace c:=c.recolSelf 3 (by decide);replace b:=b.kp x E;replace b:=b.recol 2 3 (by decide) (by decide);exact ⟨O,_,_,_,_,_,a,b,c,I.recol 2 3⟩
def Zcs (N:Nat) (a:R3) (b:R3):Option R3:=
  (Zec N a.2 b.2).bind fun d=>(Qz N (!decide (a.1=b.1)) d).bind fun c=>some (c.1,c.2)
theorem Zk0 {N x y:Nat} {z B:Option Addr} {col:Zg} {e:World} {j k r:R3} (t:Nat) (d:Zcs N j k=some r) (p:Sl rU col e z x j.2) (s:Sl rU col e B y k.2):
    Calls prog 37 #[(.agg #[.bool j.1,.slice z j.2.length x]),(.agg #[.bool k.1,.slice B k.2.length y])] e (Tt 119 t col e r):=by
 refine Yb (m:=16) func37 O O O ?_;rw [Zcs.eq_1] at d;have c:=St.start col e;refine go ?_;refine Xj (col:=(Zk col)) 1 O fun _ _ C L o=>Xj (col:=C) 2 O fun _ _ D A q=>Xc (col:=D) #[.bool false,(nI)] 3 zeroValue40 fun _ _ g v m=>go ?_;refine Ym (col:=g) [(0,1),(1,0),(2,1),(3,0),(4,1),(5,1),(6,0),(7,1),(8,0),(9,3),(10,3),(11,2)] (by kernel_rfl) (by kernel_rfl)<|xF ⟨_,_,O⟩ ?_;replace o:=(o.gr A).gr v;refine xW (fun _ b=>((o.atN).nth (q:=0) O).gr (b.bl g)) ?_;refine xF ⟨_,_,O⟩ ?_;replace q:=q.gr v;refine xW (fun _ b=>((q.atN).nth (q:=0) O).gr (b.bl g)) ?_;refine xu O O (fun _=>Zkf _ _ underlying4 O O) ?_;refine xF ⟨_,_,O⟩ ?_;refine xW (fun _ b=>((o.atN).nth (q:=1) O).gr (b.bl g)) ?_;refine xF ⟨_,_,O⟩ ?_;refine xW (fun _ b=>((q.atN).nth (q:=1) O).gr (b.bl g)) ?_;refine xe O O ?_;intro _ a;have b:=a.bl g;obtain ⟨_,G,d⟩:=bZ d;replace c:=(((c.grow L).grow A).grow v).grow b;refine Zh (Zq1 4 G (p.k0.ks c) (s.k0.ks c)) fun _ _ ⟨i,_,_,h,u,I⟩=>⟨_,h,?_⟩;refine Zj<|Xb i a u<|xe O O ?_;intro K a;replace m:=(m.gr b).gr u;have b:=a.bl i;obtain ⟨_,E,d⟩:=bZ d;refine Zh (Zdc 5 E ((I.gr b).toSlF (Ze.int .u32))) fun _ _ ⟨H,_,_,h,f,l⟩=>⟨_,h,?_⟩;replace l:=l.thaw (Zt .u32) f ((Fz.refl (col:=i)).froz 4);replace f:=f.thawR (col:=i);generalize Z2 K.heap.size i H=n at *;refine Zj<|Xb n a f<|xe O O ?_;intro _ a;replace c:=((c.grow u).grow b).grow f;replace m:=(m.gr b).gr f;have b:=a.bl n;refine Zs (m.gr b) fun _ w F J=>Zj<|xk n<|Yf ?_;replace l:=(l.gr b).kp w;replace c:=(c.grow b).kp w F;intro _ b;replace b:=b.bl n;refine Y5 ?_;cases d;replace c:=c.grow b;exact ⟨O,_,ra (J.gr b).atN,_,_,_,O,c.fin (cm [(5,t)]),c.fo (l.gr b)⟩
def Zjl (N:Nat) (a:R3) (b:R3):Option R3:=
  if (decide (a.1=b.1))=true then ((Zja N a.2 b.2).bind fun g=>(Qz N a.1 g).bind fun c=>some (c.1,c.2)) else ((Zed N a.2 b.2).bind fun d=>if d.2=true then ((Qz N a.1 d.1).bind fun e=>some (e.1,e.2)) else ((Zed N b.2 a.2).bind fun i=>(Qz N b.1 i.1).bind fun f=>some (f.1,f.2)))
theorem Zu6 {N t w:Nat} {K L:Option Addr} {col:Zg} {h:World} {u v r:R3} (l:Nat) (a:Zjl N u v=some r) (j:Sl rU col h K t u.2) (k:Sl rU col h L w v.2):
    Calls prog 41 #[(.agg #[.bool u.1,.slice K u.2.length t]),(.agg #[.bool v.1,.slice L v.2.length w])] h (Tt 119 l col h r):=by
 refine Yb (m:=45) func41 O O O ?_;rw [Zjl.eq_1] at a;have b:=St.start col h;refine go ?_;refine Xj (col:=(Zk col)) 1 O fun _ _ z H g=>Xj (col:=z) 2 O fun _ _ A y i=>Xc (col:=A) #[.bool false,(nI)] 3 zeroValue40 fun _ _ t A f=>go ?_;refine Xt ⟨_,_,O⟩ ?_;replace g:=(g.gr y).gr A;refine lW ((g.atN).nth (q:=0) O)<|Xt ⟨_,_,O⟩ ?_;replace i:=i.gr A;refine lW ((i.atN).nth (q:=0) O)<|go ?_;replace j:=j.k0;replace k:=k.k0;replace b:=((b.grow H).grow y).grow A;refine Zp a (fun n a=>?_) fun n a=>go ?_
 ·refine Zw<|Ym (col:=t) [(0,1),(1,0),(2,1),(3,0),(4,1),(5,0),(6,3),(7,3),(8,2)] (by kernel_rfl) (by kernel_rfl)<|xF ⟨_,_,O⟩ ?_;refine xW (fun _ d=>((g.atN).nth (q:=0) O).gr (d.bl t)) ?_;refine xF ⟨_,_,O⟩ ?_;refine xW (fun _ d=>((g.atN).nth (q:=1) O).gr (d.bl t)) ?_;refine xF ⟨_,_,O⟩ ?_;refine xW (fun _ d=>((i.atN).nth (q:=1) O).gr (d.bl t)) ?_;refine xe O O ?_;intro _ c;have d:=c.bl t;obtain ⟨_,D,a⟩:=bZ a;replace b:=b.grow d;refine Zh (Zu2 4 D (j.ks b) (k.ks b)) fun _ _ ⟨q,_,_,e,D,E⟩=>⟨_,e,?_⟩;refine Zj<|Xb q c D<|xe O O ?_;intro I c;replace f:=(f.gr d).gr D;have d:=c.bl q;obtain ⟨_,H,a⟩:=bZ a;refine Zh (Zdc 5 H ((E.gr d).toSlF (Ze.int .u32))) fun _ _ ⟨V,_,_,e,m,s⟩=>⟨_,e,?_⟩;replace s:=s.thaw (Zt .u32) m ((Fz.refl (col:=q)).froz 4);replace m:=m.thawR (col:=q);generalize Z2 I.heap.size q V=z at *;refine Zj<|Xb z c m<|xe O O ?_;intro _ c;replace b:=((b.grow D).grow d).grow m;replace f:=(f.gr d).gr m;have d:=c.bl z;replace f:=f.gr d;refine Zs f fun _ h T F=>Zj<|xk z<|Yf ?_;replace s:=(s.gr d).kp h;replace b:=(b.grow d).kp h T;intro _ d;replace d:=d.bl z;refine Y5 ?_;cases a;replace b:=b.grow d;exact ⟨O,_,ra (F.gr d).atN,_,_,_,O,b.fin (cm [(5,l)]),b.fo (s.gr d)⟩
 refine Xp g<|Xp i ?_;obtain ⟨w,I,a⟩:=bZ a;refine Zh (Zn4 6 I (j.ks b) (k.ks b)) fun _ d ⟨F,m,q,e,y,Z⟩=>⟨_,e,?_⟩;refine lM (.tuple #[.slice m w.1.length q,.bool w.2])<|lV (.slice m w.1.length q) (Xl O O)<|lV (.bool w.2) (Xl O O)<|go ?_;replace g:=g.gr y;replace i:=i.gr y;replace f:=f.gr y;replace b:=b.grow y;refine Zp a (fun n a=>go ?_) fun n a=>go ?_
 ·refine Xp g<|Wg O ?_;obtain ⟨_,J,a⟩:=bZ a;refine Zh (Zdc 7 J (Z.toSlF (Ze.int .u32))) fun _ _ ⟨W,_,_,e,o,B⟩=>⟨_,e,?_⟩;replace B:=B.thaw (Zt .u32) o ((Fz.refl (col:=F)).froz 6);replace o:=o.thawR (col:=F);generalize Z2 d.heap.size F W=s at *;replace f:=f.gr o;refine Zs f fun _ x Q S=>go ?_;cases a;replace b:=(b.grow o).kp x Q;exact ⟨O,_,ra S.atN,_,_,_,O,b.fin (cm [(7,l)]),b.fo (B.kp x)⟩
 refine Xp i<|Xp g ?_;obtain ⟨x,M,a⟩:=bZ a;refine Zh (Zn4 8 M (k.ks b) (j.ks b)) fun _ c ⟨E,g,n,e,G,Y⟩=>⟨_,e,?_⟩;refine lM (.tuple #[.slice g x.1.length n,.bool x.2])<|lV (.slice g x.1.length n) (Xl O O)<|lV (.bool x.2) (Xl O O)<|go ?_;refine Xt ⟨_,_,O⟩ ?_;refine lW (((i.gr G).atN).nth (q:=0) O)<|Wg O ?_;obtain ⟨_,P,a⟩:=bZ a;refine Zh (Zdc 9 P (Y.toSlF (Ze.int .u32))) fun _ _ ⟨X,_,_,e,p,C⟩=>⟨_,e,?_⟩;replace C:=C.thaw (Zt .u32) p ((Fz.refl (col:=E)).froz 8);replace p:=p.thawR (col:=E);generalize Z2 c.heap.size E X=e at *;refine Zs ((f.gr G).gr p) fun _ ar R U=>go ?_;cases a;replace b:=((b.grow G).grow p).kp ar R;exact ⟨O,_,ra U.atN,_,_,_,O,b.fin (cm [(9,l)]),b.fo (C.kp ar)⟩
def Zjo (N:Nat) (a:R3):Option R3:=
  (Qz N a.1 a.2).bind fun b=>some (b.1,b.2)
theorem Zu8 {N i:Nat} {j:Option Addr} {col:Zg} {a:World} {b r:R3} (g:Nat) (c:Zjo N b=some r) (d:Sl rU col a j i b.2):
    Calls prog 88 #[(.agg #[.bool b.1,.slice j b.2.length i])] a (Tt 119 g col a r):=by
 refine Yb (m:=8) func88 O O O ?_;rw [Zjo.eq_1] at c;have e:=St.start col a;refine go ?_;refine Xj (col:=(Zk col)) 1 O fun _ _ n t f=>Xc (col:=n) #[.bool false,(nI)] 2 zeroValue40 fun _ _ _ m u=>go ?_;refine Xt ⟨_,_,O⟩ ?_;replace f:=f.gr m;refine lW ((f.atN).nth (q:=0) O)<|Xp f ?_;obtain ⟨_,p,c⟩:=bZ c;replace e:=(e.grow t).grow m;refine Zh (Zdc 3 p (d.k0.ks e)) fun _ _ ⟨_,_,_,h,k,s⟩=>⟨_,h,?_⟩;refine Zs (u.gr k) fun _ l o q=>go ?_;cases c;replace e:=(e.grow k).kp l o;exact ⟨O,_,ra q.atN,_,_,_,O,e.fin (cm [(3,g)]),e.fo (s.kp l)⟩
def Zei (N:Nat) (a:R3) (b:List Int):Option R0:=
  (Zmb N a.2 b).bind fun c=>(Zjc N a.2 c).bind fun e=>(Zjc N b c).bind fun f=>(Zjo N (a.1,e.1)).bind fun d=>(Ul N f.1).bind fun g=>some ((d.1,d.2),g)
theorem Zn7 {N G Z:Nat} {Y n:Option Addr} {col:Zg} {d:World} {k:R3} {v:R2} {r:R0} (o c2:Nat) (a:Zei N k v=some r) (t:Sl rU col d Y G k.2) (e:Sl rU col d n Z v):
    Calls prog 40 #[(.agg #[.bool k.1,.slice Y k.2.length G]),.slice n v.length Z] d (V7 119 o c2 col d r):=by
 refine Yb (m:=39) func40 O O O ?_;rw [Zei.eq_1] at a;have b:=St.start col d;refine go ?_;refine Xj (col:=(Zk col)) 1 O fun _ _ c C h=>Xc (col:=c) #[.bool false,(nI),(nI)] 2 zeroValue42 fun _ _ _ X ao=>go ?_;refine Xt ⟨_,_,O⟩ ?_;replace h:=h.gr X;refine lW ((h.atN).nth (q:=1) O)<|Wg O ?_;obtain ⟨_,s,a⟩:=bZ a;replace t:=t.k0;replace e:=e.k0;replace b:=(b.grow C).grow X;refine Zh (Z4p 3 s (t.ks b) (e.ks b)) ?_;rintro _ V ⟨x,aw,ax,rfl,y,u⟩;refine ⟨_,O,go ?_⟩;refine Xt ⟨_,_,O⟩ ?_;replace h:=h.gr y;refine lW ((h.atN).nth (q:=1) O)<|Wg O ?_;obtain ⟨f,i,a⟩:=bZ a;replace b:=b.grow y;refine Zh (Zu3 4 5 i ((t.ks b).froz 3) (u.toSlF (Ze.int .u32))) fun _ H ⟨B,C,D,j,q,c,i,E,_⟩=>⟨_,c,?_⟩;replace E:=E.thaw (Zt .u32) i ((Fz.refl (col:=x)).froz 3);replace i:=i.thawR (col:=x);generalize Z2 V.heap.size x B=s at *;refine lM (.tuple #[.slice C f.1.length D,.slice j f.2.1.length q,.int .i64 f.2.2])<|lV (.slice C f.1.length D) (Xl O O)<|lV (.slice j f.2.1.length q) (Xl O O)<|lV (.int .i64 f.2.2) (Xl O O)<|go ?_;obtain ⟨j,z,a⟩:=bZ a;replace b:=b.grow i;refine Zh (Zu3 6 7 z ((e.ks b).froz 3) ((u.gr i).toSlF (Ze.int .u32))) fun _ W ⟨M,d,e,n,F,c,g,B,_⟩=>⟨_,c,?_⟩;replace B:=B.thaw (Zt .u32) g ((Fz.refl (col:=s)).froz 3);replace g:=g.thawR (col:=s);generalize Z2 H.heap.size s M=z at *;refine lM (.tuple #[.slice d j.1.length e,.slice n j.2.1.length F,.int .i64 j.2.2])<|lV (.slice d j.1.length e) (Xl O O)<|lV (.slice n j.2.1.length F) (Xl O O)<|lV (.int .i64 j.2.2) (Xl O O)<|go ?_;refine Xt ⟨_,_,O⟩ ?_;refine lW ((((h.gr i).gr g).atN).nth (q:=0) O)<|Wg O<|lV (.agg #[.bool k.1,.slice C f.1.length D]) (Yc (l:=[_,_]) (qs:=[(0,1),(1,1)]) underlying40 zeroValue40 ⟨O,sizeOf4,O,sizeOf38,trivial⟩ O) ?_
 obtain ⟨f,H,a⟩:=bZ a;refine Zh (Zu8 8 H ((E.gr g).toSlF (Ze.int .u32))) fun _ S ⟨K,T,U,c,m,A⟩=>⟨_,c,?_⟩;replace A:=A.thaw (Zt .u32) m ((Fz.refl (col:=z)).froz 4);replace m:=m.thawR (col:=z);generalize Z2 W.heap.size z K=q at *;refine Wg O ?_;obtain ⟨R,F,a⟩:=bZ a;refine Zh (Tn 9 F ((B.gr m).toSlF (Ze.int .u32))) fun _ _ ⟨L,P,Q,c,l,w⟩=>⟨_,c,?_⟩;replace w:=w.thaw (Zt .u32) l ((Fz.refl (col:=q)).froz 6);replace l:=l.thawR (col:=q);generalize Z2 S.heap.size q L=h at *;refine lV (.agg #[.bool f.1,.slice T f.2.length U,.slice P R.length Q]) (Yc (l:=[_,_]) (qs:=[(0,2),(2,1)]) underlying42 zeroValue42 ⟨O,sizeOf40,O,sizeOf38,trivial⟩ O) ?_;refine Zs (((((ao.gr y).gr i).gr g).gr m).gr l) fun _ p I J=>go ?_;cases a;replace b:=(((b.grow g).grow m).grow l).kp p I;exact ⟨O,_,ra J.atN,_,_,_,_,_,O,b.fin (cm [(8,o),(9,c2)]),b.fo ((A.gr l).kp p),b.fo (w.kp p)⟩
def Zeg (N:Nat) (a:R0) (b:R0):Option R0:=
  (S9 N ((b.1.1,b.1.2),b.2)).bind fun j=>(Zbn j).bind fun d=>(Zcs N (a.1.1,a.1.2) (d.1,d.2)).bind fun e=>(S9 N ((a.1.1,a.1.2),a.2)).bind fun k=>(Zbn k).bind fun f=>(Zcs N (b.1.1,b.1.2) (f.1,f.2)).bind fun g=>(Zjl N (e.1,e.2) (g.1,g.2)).bind fun i=>(S9 N ((a.1.1,a.1.2),a.2)).bind fun l=>(S9 N ((b.1.1,b.1.2),b.2)).bind fun m=>(Zec N l m).bind fun n=>(Zei N (i.1,i.2) n).bind fun c=>some ((c.1.1,c.1.2),c.2)
theorem Zq3 {N D Y t U:Nat} {u V n T:Option Addr} {col:Zg} {B:World} {w x r:R0} (c1 c2:Nat) (e:Zeg N w x=some r) (W:Sl rU col B u D w.1.2) (H:Sl rU col B V Y w.2) (X:Sl rU col B n t x.1.2) (L:Sl rU col B T U x.2):
    Calls prog 13 #[(.agg #[.bool w.1.1,.slice u w.1.2.length D,.slice V w.2.length Y]),(.agg #[.bool x.1.1,.slice n x.1.2.length t,.slice T x.2.length U])] B (V7 119 c1 c2 col B r):=by
 refine Yb (m:=28) func13 O O O ?_;rw [Zeg.eq_1] at e;have c:=St.start col B;refine go ?_;refine Xj (col:=(Zk col)) 1 O fun P _ h Q i=>Xj (col:=h) 2 O fun R _ a l j=>Xc (col:=a) #[.bool false,(nI),(nI)] 3 zeroValue42 fun _ f S g h=>go ?_;have m:=Zu.clip (fun _=>false) S f;refine Zbz (col:=S) [(0,1),(1,0),(2,0),(3,3),(4,3),(5,3),(6,4),(7,2)] (by kernel_rfl) (by kernel_rfl) ⟨fun d=>absurd d (by decide),fun d=>absurd d (by decide),fun d=>absurd d (by decide),fun d=>absurd d (by decide),fun d=>absurd d (by decide),fun d=>absurd d (by decide),fun _=>⟨_,_,_,O,V5 zeroValue40⟩,fun d=>absurd d (by decide),trivial⟩<|X3 (v:=(.pointer ((some (⟨P,0,none⟩:Addr)).map (·.add 0)))) O O (fun _=>Un (sz:=2) (off:=0) underlying42 O sizeOf40 (by decide) O O ⟨_,_,O⟩) ?_;replace i:=((i.gr l).gr g).kpp m;refine Wa (v:=(.agg #[.bool w.1.1,.slice u w.1.2.length D])) O O (fun _ b=>Xi isAgg40 sizeOf40 O O (((i.atN).part 0 2 _ O).gr (b.bl (Zd f S)))) ?_;replace j:=(j.gr g).kpp m;refine Wa (v:=(.agg #[.bool x.1.1,.slice n x.1.2.length t,.slice T x.2.length U])) O O (fun _ b=>Xi isAgg42 sizeOf42 O O (j.atN.gr (b.bl (Zd f S)))) ?_;refine Y6 O O ?_;intro _ a;have b:=a.bl (Zd f S);obtain ⟨_,s,e⟩:=bZ e;replace X:=X.k0;replace L:=L.k0;replace c:=((((c.grow Q).grow l).grow g).kpp m).grow b;refine Zh (Zb4 4 s (X.ks c) (L.ks c)) fun _ G ⟨J,_,_,g,v,Q⟩=>⟨_,g,?_⟩;refine Zj ?_;refine ⟨fun l=>Zl (Zd G J) G (Zd G J) l,fun k=>(Zd G J) k=497,Zl.refl _ _,Y3,fun _=>⟨fun _ d=>Wt a v d,fun C s=>v.below.block C s,fun k q f=>Wy v k q (by first | exact f | (simp only [Xg,f];rfl) | (simp only [Xg,Xq,f];rfl))⟩,?_⟩;have E:=Zu.clip (fun _=>false) J G;refine Y6 O O ?_;intro _ a;replace h:=(((h.kpp m).gr b).gr v).kpp E;replace i:=((i.gr b).gr v).kpp E;replace j:=((j.gr b).gr v).kpp E;have b:=a.bl (Zd G J);replace Q:=(Q.kpp E).gr b;replace i:=i.gr b;replace i:=i.froz 4
 replace j:=j.gr b;replace j:=j.froz 4;replace h:=h.gr b;replace h:=h.froz 4;replace c:=((c.grow v).kpp E).grow b;replace c:=c.froz 4 (by decide) (by decide);obtain ⟨_,m,e⟩:=bZ e;refine Zh (Zn8 m ((Q).toSlF (Ze.int .u32))) fun _ F ⟨G,_,_,g,y,M⟩=>⟨_,g,?_⟩;refine Zj ?_;refine ⟨fun l=>Zl (Zd F G) F (Zd F G) l,fun k=>(Zd F G) k=497,Zl.refl _ _,Y3,fun _=>⟨fun _ d=>Wt a y d,fun C s=>y.below.block C s,fun k q f=>Wy y k q (by first | exact f | (simp only [Xg,f];rfl) | (simp only [Xg,Xq,f];rfl))⟩,?_⟩;have P:=Zu.clip (fun _=>false) G F;refine Y6 O O ?_;intro _ a;have b:=a.bl (Zd F G);obtain ⟨_,v,e⟩:=bZ e;replace W:=W.k0;replace c:=((c.grow y).kpp P).grow b;refine Zh (Zk0 5 v (W.ks c) ((M.kpp P).gr b)) fun _ o ⟨p,_,_,g,B,v⟩=>⟨_,g,?_⟩;refine Zj ?_;refine ⟨fun l=>Zl (Zd o p) o (Zd o p) l,fun k=>(Zd o p) k=497,Zl.refl _ _,Y3,fun _=>⟨fun _ d=>Wt a B d,fun C s=>B.below.block C s,fun k q f=>Wy B k q (by first | exact f | (simp only [Xg,f];rfl) | (simp only [Xg,Xq,f];rfl))⟩,?_⟩;have Q:=Zu.clip (fun _=>false) p o;refine Zaw O O (V5 zeroValue40) fun A E=>Y6 O O ?_;intro F ⟨a,hZ0⟩;replace i:=((((i.gr y).kpp P).gr b).gr B).kpp Q;replace j:=((((j.gr y).kpp P).gr b).gr B).kpp Q;replace h:=((((h.gr y).kpp P).gr b).gr B).kpp Q;have b:=a.bl (Zd o p);replace H:=H.k0;obtain ⟨M,P⟩:=Q7 (col:=(Zd o p)) 6 hZ0 E;replace P:Zi 40 6 (Zx A 6 (Zd o p)) F A #[.bool false,(nI)]:=P;refine Zs P fun z I G y=>Zj ?_;refine ⟨fun l=>Zl (Zd z (Zx A 6 (Zd o p))) z (Zd z (Zx A 6 (Zd o p))) l,fun k=>(Zd z (Zx A 6 (Zd o p))) k=497,Zl.refl _ _,Y3,fun d=>absurd d (by decide),?_⟩;have K:=Zu.clip (fun _=>false) (Zx A 6 (Zd o p)) z;refine Zb1 ?_;replace c:=(((((c.grow B).kpp Q).grow b).kpp M).kp I G).kpp K;replace v:=((((v.kpp Q).gr b).kpp M).kp I).kpp K
 replace i:=(((i.gr b).kpp M).kp I).kpp K;replace j:=(((j.gr b).kpp M).kp I).kpp K;replace h:=(((h.gr b).kpp M).kp I).kpp K;intro E b;replace b:Zl (Zd z (Zx A 6 (Zd o p))) z (Zd z (Zx A 6 (Zd o p))) E:=.of_below b.below;refine Zw ?_;have J:=Zu.clip (fun _=>false) (Zd z (Zx A 6 (Zd o p))) E;refine Zbz (col:=(Zd z (Zx A 6 (Zd o p)))) [(0,1),(1,0),(2,0),(3,3),(4,3),(5,3),(6,4),(7,2)] (by kernel_rfl) (by kernel_rfl) ⟨fun d=>absurd d (by decide),fun d=>absurd d (by decide),fun d=>absurd d (by decide),fun d=>absurd d (by decide),fun d=>absurd d (by decide),fun d=>absurd d (by decide),fun _=>⟨_,_,_,O,V5 zeroValue40⟩,fun d=>absurd d (by decide),trivial⟩<|X3 (v:=(.pointer ((some (⟨R,0,none⟩:Addr)).map (·.add 0)))) O O (fun _=>Un (sz:=2) (off:=0) underlying42 O sizeOf40 (by decide) O O ⟨_,_,O⟩) ?_;replace j:=(j.gr b).kpp J;refine Wa (v:=(.agg #[.bool x.1.1,.slice n x.1.2.length t])) O O (fun _ b=>Xi isAgg40 sizeOf40 O O (((j.atN).part 0 2 _ O).gr (b.bl (Zd E (Zd z (Zx A 6 (Zd o p))))))) ?_;replace i:=(i.gr b).kpp J;refine Wa (v:=(.agg #[.bool w.1.1,.slice u w.1.2.length D,.slice V w.2.length Y])) O O (fun _ b=>Xi isAgg42 sizeOf42 O O (i.atN.gr (b.bl (Zd E (Zd z (Zx A 6 (Zd o p))))))) ?_;refine Y6 O O ?_;intro B a;replace y:=((y.kpp K).gr b).kpp J;replace v:=(v.gr b).kpp J;replace h:=(h.gr b).kpp J;replace c:=(c.grow b).kpp J;have b:Zl (Zd E (Zd z (Zx A 6 (Zd o p)))) E (Zd E (Zd z (Zx A 6 (Zd o p)))) B:=.of_below a.below;obtain ⟨_,o,e⟩:=bZ e;replace c:=c.grow b;refine Zh (Zb4 7 o (W.ks c) (H.ks c)) fun _ I ⟨K,_,_,g,R,S⟩=>⟨_,g,?_⟩;refine Zj ?_;refine ⟨fun l=>Zl (Zd I K) I (Zd I K) l,fun k=>(Zd I K) k=497,Zl.refl _ _,Y3,fun _=>⟨fun _ d=>Wt a R d,fun C s=>R.below.block C s,fun k q f=>Wy R k q (by first | exact f | (simp only [Xg,f];rfl) | (simp only [Xg,Xq,f];rfl))⟩,?_⟩;have o:=Zu.clip (fun _=>false) K I;refine Y6 O O ?_;intro _ a;replace v:=((v.gr b).gr R).kpp o;replace i:=((i.gr b).gr R).kpp o
 replace j:=((j.gr b).gr R).kpp o;replace h:=((h.gr b).gr R).kpp o;replace y:=((y.gr b).gr R).kpp o;have b:=a.bl (Zd I K);replace v:=v.gr b;replace v:=v.froz 7;replace S:=(S.kpp o).gr b;replace i:=i.gr b;replace i:=i.froz 7;replace j:=j.gr b;replace j:=j.froz 7;replace h:=h.gr b;replace h:=h.froz 7;replace y:=y.gr b;replace y:=y.froz 7;replace c:=((c.grow R).kpp o).grow b;replace c:=c.froz 7 (by decide) (by decide);obtain ⟨_,n,e⟩:=bZ e;refine Zh (Zn8 n ((S).toSlF (Ze.int .u32))) fun _ A ⟨F,_,_,g,U,K⟩=>⟨_,g,?_⟩;refine Zj ?_;refine ⟨fun l=>Zl (Zd A F) A (Zd A F) l,fun k=>(Zd A F) k=497,Zl.refl _ _,Y3,fun _=>⟨fun _ d=>Wt a U d,fun C s=>U.below.block C s,fun k q f=>Wy U k q (by first | exact f | (simp only [Xg,f];rfl) | (simp only [Xg,Xq,f];rfl))⟩,?_⟩;have z:=Zu.clip (fun _=>false) F A;refine Y6 O O ?_;intro _ a;have b:=a.bl (Zd A F);obtain ⟨_,t,e⟩:=bZ e;replace c:=((c.grow U).kpp z).grow b;refine Zh (Zk0 8 t (X.ks c) ((K.kpp z).gr b)) fun _ m ⟨n,_,_,g,T,Z⟩=>⟨_,g,?_⟩;refine Zj ?_;refine ⟨fun l=>Zl (Zd m n) m (Zd m n) l,fun k=>(Zd m n) k=497,Zl.refl _ _,Y3,fun _=>⟨fun _ d=>Wt a T d,fun C s=>T.below.block C s,fun k q f=>Wy T k q (by first | exact f | (simp only [Xg,f];rfl) | (simp only [Xg,Xq,f];rfl))⟩,?_⟩;have s:=Zu.clip (fun _=>false) n m;refine Zaw O O (V5 zeroValue40) fun u D=>Y6 O O ?_;intro I ⟨a,hZ0⟩;replace v:=((((v.gr U).kpp z).gr b).gr T).kpp s;replace i:=((((i.gr U).kpp z).gr b).gr T).kpp s;replace j:=((((j.gr U).kpp z).gr b).gr T).kpp s;replace h:=((((h.gr U).kpp z).gr b).gr T).kpp s;replace y:=((((y.gr U).kpp z).gr b).gr T).kpp s;have b:=a.bl (Zd m n);obtain ⟨q,C⟩:=Q7 (col:=(Zd m n)) 9 hZ0 D;replace C:Zi 40 9 (Zx u 9 (Zd m n)) I u #[.bool false,(nI)]:=C;refine Zs C fun t p C R=>Zj ?_
 refine ⟨fun l=>Zl (Zd t (Zx u 9 (Zd m n))) t (Zd t (Zx u 9 (Zd m n))) l,fun k=>(Zd t (Zx u 9 (Zd m n))) k=497,Zl.refl _ _,Y3,fun d=>absurd d (by decide),?_⟩;have Y:=Zu.clip (fun _=>false) (Zx u 9 (Zd m n)) t;refine Zb1 ?_;replace c:=(((((c.grow T).kpp s).grow b).kpp q).kp p C).kpp Y;replace Z:=((((Z.kpp s).gr b).kpp q).kp p).kpp Y;replace v:=(((v.gr b).kpp q).kp p).kpp Y;replace i:=(((i.gr b).kpp q).kp p).kpp Y;replace j:=(((j.gr b).kpp q).kp p).kpp Y;replace h:=(((h.gr b).kpp q).kp p).kpp Y;replace y:=(((y.gr b).kpp q).kp p).kpp Y;intro k b;replace b:Zl (Zd t (Zx u 9 (Zd m n))) t (Zd t (Zx u 9 (Zd m n))) k:=.of_below b.below;refine Zw<|Ym (col:=(Zd t (Zx u 9 (Zd m n)))) [(0,0),(1,0),(3,0),(5,0),(2,3),(4,3),(6,3),(7,3),(8,3),(9,2)] (by kernel_rfl) (by kernel_rfl) ?_;replace y:=y.gr b;refine xv O O (fun _ b=>Zz isAgg40 sizeOf40 (y.gr (b.bl (Zd t (Zx u 9 (Zd m n)))))) ?_;replace R:=(R.kpp Y).gr b;refine xv O O (fun _ b=>Zz isAgg40 sizeOf40 (R.gr (b.bl (Zd t (Zx u 9 (Zd m n)))))) ?_;replace i:=i.gr b;refine xv O O (fun _ b=>Zz isAgg42 sizeOf42 (i.gr (b.bl (Zd t (Zx u 9 (Zd m n)))))) ?_;replace j:=j.gr b;refine xv O O (fun _ b=>Zz isAgg42 sizeOf42 (j.gr (b.bl (Zd t (Zx u 9 (Zd m n)))))) ?_;refine xe O O ?_;intro f a;replace v:=v.gr b;replace Z:=Z.gr b;replace h:=h.gr b;replace c:=c.grow b;have b:Zl (Zd t (Zx u 9 (Zd m n))) k (Zd t (Zx u 9 (Zd m n))) f:=.of_below a.below;obtain ⟨_,i,e⟩:=bZ e;refine Zh (Zu6 10 i (((v.gr b).toSlF (Ze.int .u32)).froz 8) (((Z.gr b).froz 5).toSlF (Ze.int .u32))) fun _ _ ⟨y,_,_,g,k,V⟩=>⟨_,g,?_⟩;replace V:=V.thaw (Zt .u32) k (((Fz.refl (col:=(Zd t (Zx u 9 (Zd m n))))).froz 5).froz 8) (by decide);replace k:=k.thawR (col:=(Zd t (Zx u 9 (Zd m n))));generalize Z2 f.heap.size (Zd t (Zx u 9 (Zd m n))) y=d at *;refine Zj<|Xb d a k<|xe O O ?_;intro _ a
 replace h:=(h.gr b).gr k;replace c:=(c.grow b).grow k;have b:=a.bl d;obtain ⟨_,p,e⟩:=bZ e;replace c:=c.grow b;refine Zh (Zb4 11 p (W.ks c) (H.ks c)) fun _ _ ⟨W,_,_,g,Z,M⟩=>⟨_,g,?_⟩;refine Zj<|Xb W a Z<|xe O O ?_;intro _ a;replace V:=(V.gr b).gr Z;replace h:=(h.gr b).gr Z;have b:=a.bl W;obtain ⟨_,q,e⟩:=bZ e;replace c:=(c.grow Z).grow b;refine Zh (Zb4 12 q (X.ks c) (L.ks c)) fun _ _ ⟨H,_,_,g,L,A⟩=>⟨_,g,?_⟩;refine Zj<|Xb H a L<|xe O O ?_;intro J a;replace V:=(V.gr b).gr L;replace M:=(M.gr b).gr L;replace h:=(h.gr b).gr L;have b:=a.bl H;obtain ⟨_,X,e⟩:=bZ e;refine Zh (Zq1 13 X (((M.gr b).toSlF (Ze.int .u32)).froz 12) (((A.gr b).froz 11).toSlF (Ze.int .u32))) fun _ _ ⟨u,_,_,g,i,l⟩=>⟨_,g,?_⟩;replace l:=l.thaw (Zt .u32) i (((Fz.refl (col:=H)).froz 11).froz 12);replace i:=i.thawR (col:=H);generalize Z2 J.heap.size H u=D at *;refine Zj<|Xb D a i<|xe O O ?_;intro H a;replace c:=((c.grow L).grow b).grow i;replace V:=(V.gr b).gr i;replace h:=(h.gr b).gr i;have b:=a.bl D;obtain ⟨_,j,e⟩:=bZ e;refine Zh (Zn7 14 15 j (((V.gr b).toSlF (Ze.int .u32)).froz 13) (((l.gr b).froz 10).toSlF (Ze.int .u32))) fun _ _ ⟨z,_,_,_,_,g,j,bl,ci⟩=>⟨_,g,?_⟩;replace bl:=bl.thaw (Zt .u32) j (((Fz.refl (col:=D)).froz 10).froz 13);replace ci:=ci.thaw (Zt .u32) j (((Fz.refl (col:=D)).froz 10).froz 13);replace j:=j.thawR (col:=D);generalize Z2 H.heap.size D z=d at *;refine Zj<|Xb d a j<|xe O O ?_;intro _ a;replace h:=(h.gr b).gr j;replace c:=(c.grow b).grow j;have b:=a.bl d;refine Zs (h.gr b) ?_
 intro _ a g bh;refine Zj<|xk d<|Yf ?_;replace bl:=(bl.gr b).kp a;replace ci:=(ci.gr b).kp a;replace c:=(c.grow b).kp a g;intro _ b;replace b:=b.bl d;refine Y5 ?_;cases e;replace c:=c.grow b;exact ⟨O,_,ra (bh.gr b).atN,_,_,_,_,_,O,c.fin (cm [(14,c1),(15,c2)]),c.fo (bl.gr b),c.fo (ci.gr b)⟩
def Zjn (N:Nat) (a:R3):Option R3:=
  (Qz N (!a.1) a.2).bind fun b=>some (b.1,b.2)
theorem Zu7 {N i:Nat} {j:Option Addr} {col:Zg} {a:World} {b r:R3} (g:Nat) (c:Zjn N b=some r) (d:Sl rU col a j i b.2):
    Calls prog 82 #[(.agg #[.bool b.1,.slice j b.2.length i])] a (Tt 119 g col a r):=by
 refine Yb (m:=9) func82 O O O ?_;rw [Zjn.eq_1] at c;have e:=St.start col a;refine go ?_;refine Xj (col:=(Zk col)) 1 O fun _ _ n t f=>Xc (col:=n) #[.bool false,(nI)] 2 zeroValue40 fun _ _ _ m u=>go ?_;refine Xt ⟨_,_,O⟩ ?_;replace f:=f.gr m;refine lW ((f.atN).nth (q:=0) O)<|go ?_;refine Xp f ?_;obtain ⟨_,p,c⟩:=bZ c;replace e:=(e.grow t).grow m;refine Zh (Zdc 3 p (d.k0.ks e)) fun _ _ ⟨_,_,_,h,k,s⟩=>⟨_,h,?_⟩;refine Zs (u.gr k) fun _ l o q=>go ?_;cases c;replace e:=(e.grow k).kp l o;exact ⟨O,_,ra q.atN,_,_,_,O,e.fin (cm [(3,g)]),e.fo (s.kp l)⟩
def Zmg (N:Nat) (a:R0):Option R0:=
  (Zjn N (a.1.1,a.1.2)).bind fun c=>(S9 N ((a.1.1,a.1.2),a.2)).bind fun d=>(Zei N (c.1,c.2) d).bind fun b=>some ((b.1.1,b.1.2),b.2)
theorem Z4t {N s B:Nat} {t C:Option Addr} {col:Zg} {f:World} {d r:R0} (v c2:Nat) (e:Zmg N d=some r) (l:Sl rU col f t s d.1.2) (u:Sl rU col f C B d.2):
    Calls prog 36 #[(.agg #[.bool d.1.1,.slice t d.1.2.length s,.slice C d.2.length B])] f (V7 119 v c2 col f r):=by
 refine Yb (m:=9) func36 O O O ?_;rw [Zmg.eq_1] at e;have c:=St.start col f;refine go ?_;refine Xj (col:=(Zk col)) 1 O fun _ _ D M o=>Xc (col:=D) #[.bool false,(nI),(nI)] 2 zeroValue42 fun _ _ p A i=>go ?_;refine Ym (col:=p) [(0,1),(1,0),(3,0),(2,3),(4,3),(5,3),(6,2)] (by kernel_rfl) (by kernel_rfl)<|xF ⟨_,_,O⟩ ?_;replace o:=o.gr A;refine xv (v:=(.agg #[.bool d.1.1,.slice t d.1.2.length s])) O O (fun _ b=>Xi isAgg40 sizeOf40 O O (((o.atN).part 0 2 _ O).gr (b.bl p))) ?_;refine xv O O (fun _ b=>Zz isAgg42 sizeOf42 (o.gr (b.bl p))) ?_;refine xe O O ?_;intro _ a;have b:=a.bl p;obtain ⟨_,G,e⟩:=bZ e;replace l:=l.k0;replace c:=((c.grow M).grow A).grow b;refine Zh (Zu7 3 G (l.ks c)) fun _ _ ⟨z,_,_,g,x,y⟩=>⟨_,g,?_⟩;refine Zj<|Xb z a x<|xe O O ?_;intro _ a;replace i:=(i.gr b).gr x;have b:=a.bl z;obtain ⟨_,F,e⟩:=bZ e;replace c:=(c.grow x).grow b;refine Zh (Zb4 4 F (l.ks c) (u.k0.ks c)) fun _ _ ⟨j,_,_,g,q,J⟩=>⟨_,g,?_⟩;refine Zj<|Xb j a q<|xe O O ?_;intro L a;replace y:=(y.gr b).gr q;replace i:=(i.gr b).gr q;have b:=a.bl j;obtain ⟨_,E,e⟩:=bZ e;refine Zh (Zn7 5 6 E (((y.gr b).toSlF (Ze.int .u32)).froz 4) (((J.gr b).froz 3).toSlF (Ze.int .u32))) fun _ _ ⟨K,_,_,_,_,g,h,k,m⟩=>⟨_,g,?_⟩;replace k:=k.thaw (Zt .u32) h (((Fz.refl (col:=j)).froz 3).froz 4);replace m:=m.thaw (Zt .u32) h (((Fz.refl (col:=j)).froz 3).froz 4);replace h:=h.thawR (col:=j);generalize Z2 L.heap.size j K=n at *;refine Zj<|Xb n a h<|xe O O ?_;intro _ a;replace c:=((c.grow q).grow b).grow h;replace i:=(i.gr b).gr h;have b:=a.bl n;refine Zs (i.gr b) fun _ w H I=>Zj<|xk n<|Yf ?_;replace k:=(k.gr b).kp w;replace m:=(m.gr b).kp w
 replace c:=(c.grow b).kp w H;intro _ b;replace b:=b.bl n;refine Y5 ?_;cases e;replace c:=c.grow b;exact ⟨O,_,ra (I.gr b).atN,_,_,_,_,_,O,c.fin (cm [(5,v),(6,c2)]),c.fo (k.gr b),c.fo (m.gr b)⟩
def Zjs (N:Nat) (a:R0) (b:R0):Option R0:=
  (Zmg N ((b.1.1,b.1.2),b.2)).bind fun c=>(Zeg N ((a.1.1,a.1.2),a.2) ((c.1.1,c.1.2),c.2)).bind fun d=>some ((d.1.1,d.1.2),d.2)
theorem Z4w {N C D E F:Nat} {G z A B:Option Addr} {col:Zg} {d:World} {i j r:R0} (u c2:Nat) (e:Zjs N i j=some r) (o:Sl rU col d G C i.1.2) (p:Sl rU col d z D i.2) (q:Sl rU col d A E j.1.2) (s:Sl rU col d B F j.2):
    Calls prog 12 #[(.agg #[.bool i.1.1,.slice G i.1.2.length C,.slice z i.2.length D]),(.agg #[.bool j.1.1,.slice A j.1.2.length E,.slice B j.2.length F])] d (V7 119 u c2 col d r):=by
 refine Yb (m:=9) func12 O O O ?_;rw [Zjs.eq_1] at e;have c:=St.start col d;refine go ?_;refine Xj (col:=(Zk col)) 1 O fun _ _ I U R=>Xj (col:=I) 2 O fun _ _ J H T=>Xc (col:=J) #[.bool false,(nI),(nI)] 3 zeroValue42 fun _ _ t y m=>go ?_;refine Ym (col:=t) [(0,0),(1,0),(2,3),(3,3),(4,2)] (by kernel_rfl) (by kernel_rfl) ?_;refine xv O O (fun _ b=>Zz isAgg42 sizeOf42 (((R.gr H).gr y).gr (b.bl t))) ?_;refine xv O O (fun _ b=>Zz isAgg42 sizeOf42 ((T.gr y).gr (b.bl t))) ?_;refine xe O O ?_;intro _ a;have b:=a.bl t;obtain ⟨_,M,e⟩:=bZ e;replace c:=(((c.grow U).grow H).grow y).grow b;refine Zh (Z4t 4 5 M (q.k0.ks c) (s.k0.ks c)) fun _ _ ⟨g,_,_,_,_,h,w,Q,S⟩=>⟨_,h,?_⟩;refine Zj<|Xb g a w<|xe O O ?_;intro V a;replace m:=(m.gr b).gr w;have b:=a.bl g;obtain ⟨_,L,e⟩:=bZ e;replace c:=(c.grow w).grow b;refine Zh (Zq3 6 7 L (((o.k0.ks c).froz 4).froz 5) (((p.k0.ks c).froz 4).froz 5) (((Q.gr b).toSlF (Ze.int .u32)).froz 5) (((S.gr b).froz 4).toSlF (Ze.int .u32))) fun _ _ ⟨P,_,_,_,_,h,f,k,l⟩=>⟨_,h,?_⟩;replace k:=k.thaw (Zt .u32) f (((Fz.refl (col:=g)).froz 4).froz 5);replace l:=l.thaw (Zt .u32) f (((Fz.refl (col:=g)).froz 4).froz 5);replace f:=f.thawR (col:=g);generalize Z2 V.heap.size g P=n at *;refine Zj<|Xb n a f<|xe O O ?_;intro _ a;replace m:=(m.gr b).gr f;have b:=a.bl n;refine Zs (m.gr b) fun _ v K x=>Zj<|xk n<|Yf ?_;replace c:=((c.grow f).grow b).kp v K;replace k:=(k.gr b).kp v;replace l:=(l.gr b).kp v;intro _ b;replace b:=b.bl n;refine Y5 ?_;cases e;replace x:=x.gr b
 replace c:=c.grow b;exact ⟨O,_,ra x.atN,_,_,_,_,_,O,c.fin (cm [(6,u),(7,c2)]),c.fo (k.gr b),c.fo (l.gr b)⟩
def Zjq (N:Nat) (a:R0) (b:R0):Option R0:=
  (Zcs N (a.1.1,a.1.2) (b.1.1,b.1.2)).bind fun d=>(S9 N ((a.1.1,a.1.2),a.2)).bind fun e=>(S9 N ((b.1.1,b.1.2),b.2)).bind fun f=>(Zec N e f).bind fun g=>(Zei N (d.1,d.2) g).bind fun c=>some ((c.1.1,c.1.2),c.2)
theorem Z4s {N C Z D P:Nat} {I Q J R:Option Addr} {col:Zg} {h:World} {f g r:R0} (z c2:Nat) (d:Zjq N f g=some r) (u:Sl rU col h I C f.1.2) (G:Sl rU col h Q Z f.2) (w:Sl rU col h J D g.1.2) (o:Sl rU col h R P g.2):
    Calls prog 43 #[(.agg #[.bool f.1.1,.slice I f.1.2.length C,.slice Q f.2.length Z]),(.agg #[.bool g.1.1,.slice J g.1.2.length D,.slice R g.2.length P])] h (V7 119 z c2 col h r):=by
 refine Yb (m:=16) func43 O O O ?_;rw [Zjq.eq_1] at d;have c:=St.start col h;refine go ?_;refine Xj (col:=(Zk col)) 1 O fun _ _ a l x=>Xj (col:=a) 2 O fun _ _ h e y=>Xc (col:=h) #[.bool false,(nI),(nI)] 3 zeroValue42 fun _ _ n H i=>go ?_;refine Ym (col:=n) [(0,1),(1,0),(2,1),(3,0),(5,0),(7,0),(4,3),(6,3),(8,3),(9,3),(10,3),(11,2)] (by kernel_rfl) (by kernel_rfl)<|xF ⟨_,_,O⟩ ?_;replace x:=(x.gr e).gr H;refine xv (v:=(.agg #[.bool f.1.1,.slice I f.1.2.length C])) O O (fun _ b=>Xi isAgg40 sizeOf40 O O (((x.atN).part 0 2 _ O).gr (b.bl n))) ?_;refine xF ⟨_,_,O⟩ ?_;replace y:=y.gr H;refine xv (v:=(.agg #[.bool g.1.1,.slice J g.1.2.length D])) O O (fun _ b=>Xi isAgg40 sizeOf40 O O (((y.atN).part 0 2 _ O).gr (b.bl n))) ?_;refine xv O O (fun _ b=>Zz isAgg42 sizeOf42 (x.gr (b.bl n))) ?_;refine xv O O (fun _ b=>Zz isAgg42 sizeOf42 (y.gr (b.bl n))) ?_;refine xe O O ?_;intro _ a;have b:=a.bl n;obtain ⟨_,k,d⟩:=bZ d;replace u:=u.k0;replace w:=w.k0;replace c:=(((c.grow l).grow e).grow H).grow b;refine Zh (Zk0 4 k (u.ks c) (w.ks c)) fun _ _ ⟨X,_,_,e,B,l⟩=>⟨_,e,?_⟩;refine Zj<|Xb X a B<|xe O O ?_;intro _ a;replace i:=(i.gr b).gr B;have b:=a.bl X;obtain ⟨_,j,d⟩:=bZ d;replace c:=(c.grow B).grow b;refine Zh (Zb4 5 j (u.ks c) (G.k0.ks c)) fun _ _ ⟨Y,_,_,e,t,F⟩=>⟨_,e,?_⟩;refine Zj<|Xb Y a t<|xe O O ?_;intro _ a;replace l:=(l.gr b).gr t;replace i:=(i.gr b).gr t;have b:=a.bl Y;obtain ⟨_,M,d⟩:=bZ d;replace c:=(c.grow t).grow b;refine Zh (Zb4 6 M (w.ks c) (o.k0.ks c)) fun _ _ ⟨o,_,_,e,p,m⟩=>⟨_,e,?_⟩;refine Zj<|Xb o a p<|xe O O ?_;intro V a;replace l:=(l.gr b).gr p;replace F:=(F.gr b).gr p
 replace i:=(i.gr b).gr p;have b:=a.bl o;obtain ⟨_,K,d⟩:=bZ d;refine Zh (Zq1 7 K (((F.gr b).toSlF (Ze.int .u32)).froz 6) (((m.gr b).froz 5).toSlF (Ze.int .u32))) fun _ _ ⟨T,_,_,e,j,E⟩=>⟨_,e,?_⟩;replace E:=E.thaw (Zt .u32) j (((Fz.refl (col:=o)).froz 5).froz 6);replace j:=j.thawR (col:=o);generalize Z2 V.heap.size o T=m at *;refine Zj<|Xb m a j<|xe O O ?_;intro W a;replace c:=((c.grow p).grow b).grow j;replace l:=(l.gr b).gr j;replace i:=(i.gr b).gr j;have b:=a.bl m;obtain ⟨_,L,d⟩:=bZ d;refine Zh (Zn7 8 9 L (((l.gr b).toSlF (Ze.int .u32)).froz 7) (((E.gr b).froz 4).toSlF (Ze.int .u32))) fun _ _ ⟨U,_,_,_,_,e,k,q,s⟩=>⟨_,e,?_⟩;replace q:=q.thaw (Zt .u32) k (((Fz.refl (col:=m)).froz 4).froz 7);replace s:=s.thaw (Zt .u32) k (((Fz.refl (col:=m)).froz 4).froz 7);replace k:=k.thawR (col:=m);generalize Z2 W.heap.size m U=v at *;refine Zj<|Xb v a k<|xe O O ?_;intro _ a;replace i:=(i.gr b).gr k;replace c:=(c.grow b).grow k;have b:=a.bl v;refine Zs (i.gr b) fun _ A S ai=>Zj<|xk v<|Yf ?_;replace q:=(q.gr b).kp A;replace s:=(s.gr b).kp A;replace c:=(c.grow b).kp A S;intro _ b;replace b:=b.bl v;refine Y5 ?_;cases d;replace c:=c.grow b;exact ⟨O,_,ra (ai.gr b).atN,_,_,_,_,_,O,c.fin (cm [(8,z),(9,c2)]),c.fo (q.gr b),c.fo (s.gr b)⟩
def Zmf (N:Nat) (a:R3) (b:R3):Option R3:=
  (Zjn N (b.1,b.2)).bind fun c=>(Zjl N (a.1,a.2) (c.1,c.2)).bind fun d=>some (d.1,d.2)
theorem Z4r {N w x:Nat} {y v:Option Addr} {col:Zg} {e:World} {i j r:R3} (q:Nat) (d:Zmf N i j=some r) (n:Sl rU col e y w i.2) (o:Sl rU col e v x j.2):
    Calls prog 128 #[(.agg #[.bool i.1,.slice y i.2.length w]),(.agg #[.bool j.1,.slice v j.2.length x])] e (Tt 119 q col e r):=by
 refine Yb (m:=9) func128 O O O ?_;rw [Zmf.eq_1] at d;have c:=St.start col e;refine go ?_;refine Xj (col:=(Zk col)) 1 O fun _ _ A L I=>Xj (col:=A) 2 O fun _ _ B z J=>Xc (col:=B) #[.bool false,(nI)] 3 zeroValue40 fun _ _ p t l=>go ?_;refine Ym (col:=p) [(0,0),(1,0),(2,3),(3,3),(4,2)] (by kernel_rfl) (by kernel_rfl) ?_;refine xv O O (fun _ b=>Zz isAgg40 sizeOf40 (((I.gr z).gr t).gr (b.bl p))) ?_;refine xv O O (fun _ b=>Zz isAgg40 sizeOf40 ((J.gr t).gr (b.bl p))) ?_;refine xe O O ?_;intro _ a;have b:=a.bl p;obtain ⟨_,E,d⟩:=bZ d;replace c:=(((c.grow L).grow z).grow t).grow b;refine Zh (Zu7 4 E (o.k0.ks c)) fun _ _ ⟨h,_,_,g,s,H⟩=>⟨_,g,?_⟩;refine Zj<|Xb h a s<|xe O O ?_;intro K a;replace l:=(l.gr b).gr s;have b:=a.bl h;obtain ⟨_,D,d⟩:=bZ d;replace c:=(c.grow s).grow b;refine Zh (Zu6 5 D ((n.k0.ks c).froz 4) ((H.gr b).toSlF (Ze.int .u32))) fun _ _ ⟨F,_,_,g,f,k⟩=>⟨_,g,?_⟩;replace k:=k.thaw (Zt .u32) f ((Fz.refl (col:=h)).froz 4);replace f:=f.thawR (col:=h);generalize Z2 K.heap.size h F=m at *;refine Zj<|Xb m a f<|xe O O ?_;intro _ a;replace l:=(l.gr b).gr f;have b:=a.bl m;refine Zs (l.gr b) fun _ u C G=>Zj<|xk m<|Yf ?_;replace c:=((c.grow f).grow b).kp u C;replace k:=(k.gr b).kp u;intro _ b;replace b:=b.bl m;refine Y5 ?_;cases d;replace c:=c.grow b;exact ⟨O,_,ra (G.gr b).atN,_,_,_,O,c.fin (cm [(5,q)]),c.fo (k.gr b)⟩
def Zgg (N:Nat) (a:R3):Option Int:=
  (Zjo N (a.1,a.2)).bind fun b=>if (decide ((b.2.length:Int)=0))=true then (some 0) else (if b.1=true then (some (-1)) else (some 1))
theorem Zq2 {N d:Nat} {f:Option Addr} {col:Zg} {g:World} {b:R3} {r:Int} (a:Zgg N b=some r) (c:Sl rU col g f d b.2):
    Calls prog 127 #[(.agg #[.bool b.1,.slice f b.2.length d])] g (W8 g r):=by
 refine Xk 2 (m:=12) func127 O O O O O ?_;rw [Zgg.eq_1] at a;have e:=St.start col g;refine go ?_;refine Xj (col:=(Zk col)) 1 O fun _ _ _ s m=>go ?_;refine lV _ (Zz isAgg40 sizeOf40 m) ?_;obtain ⟨_,n,a⟩:=bZ a;replace e:=e.grow s;refine Zh (Zu8 2 n (c.k0.ks e)) fun _ _ ⟨l,_,_,i,t,_⟩=>⟨_,i,?_⟩;refine Xc (col:=l) #[.bool false,(nI)] 3 zeroValue40 fun _ _ _ q k=>Zs k fun _ o p j=>go ?_;refine Xp j ?_;refine go ?_;replace e:=((e.grow t).grow q).kp o p;refine Zp a (fun h a=>go ?_) fun h a=>go ?_
 ·cases a;exact ⟨O,O,e.below⟩
 refine Xp j<|Zj ?_;refine Zp a (fun h a=>go ?_) fun h a=>go ?_
 ·cases a;exact ⟨O,O,e.below⟩
 cases a;exact ⟨O,O,e.below⟩
def Zme (N:Nat) (a:R3) (b:R3):Option Int:=
  (Zmf N (a.1,a.2) (b.1,b.2)).bind fun c=>(Zgg N (c.1,c.2)).bind fun d=>some d
theorem Z4q {N j k:Nat} {l n:Option Addr} {col:Zg} {e:World} {b c:R3} {r:Int} (a:Zme N b c=some r) (d:Sl rU col e l j b.2) (f:Sl rU col e n k c.2):
    Calls prog 81 #[(.agg #[.bool b.1,.slice l b.2.length j]),(.agg #[.bool c.1,.slice n c.2.length k])] e (W8 e r):=by
 refine Xk 4 (m:=9) func81 O O O O O ?_;rw [Zme.eq_1] at a;have h:=St.start col e;refine go ?_;refine Xj (col:=(Zk col)) 1 O fun _ _ o w t=>Xj (col:=o) 2 O fun _ _ _ m u=>go ?_;refine lV _ (Zz isAgg40 sizeOf40 (t.gr m))<|lV _ (Zz isAgg40 sizeOf40 u) ?_;obtain ⟨_,s,a⟩:=bZ a;replace h:=(h.grow w).grow m;refine Zh (Z4r 3 s (d.k0.ks h) (f.k0.ks h)) fun _ _ ⟨v,_,_,g,x,q⟩=>⟨_,g,?_⟩;obtain ⟨_,p,a⟩:=bZ a;refine Zh (Zq2 p (q.toSlF (Ze.int .u32))) fun _ _ ⟨g,i⟩=>⟨_,g,?_⟩;replace i:=Ru v i;refine go ?_;cases a;exact ⟨O,O,((h.grow x).grow i).below⟩
def Zeh (N:Nat) (a:R0) (b:R0):Option Int:=
  (S9 N ((b.1.1,b.1.2),b.2)).bind fun g=>(Zbn g).bind fun c=>(Zcs N (a.1.1,a.1.2) (c.1,c.2)).bind fun d=>(S9 N ((a.1.1,a.1.2),a.2)).bind fun i=>(Zbn i).bind fun e=>(Zcs N (b.1.1,b.1.2) (e.1,e.2)).bind fun f=>(Zme N (d.1,d.2) (f.1,f.2)).bind fun j=>some j
theorem Zq4 {N q Q s G:Nat} {t P u R:Option Addr} {col:Zg} {h:World} {d f:R0} {r:Int} (c:Zeh N d f=some r) (l:Sl rU col h t q d.1.2) (w:Sl rU col h P Q d.2) (n:Sl rU col h u s f.1.2) (x:Sl rU col h R G f.2):
    Calls prog 35 #[(.agg #[.bool d.1.1,.slice t d.1.2.length q,.slice P d.2.length Q]),(.agg #[.bool f.1.1,.slice u f.1.2.length s,.slice R f.2.length G])] h (W8 h r):=by
 refine Xk 4 (m:=18) func35 O O O O O ?_;rw [Zeh.eq_1] at c;have e:=St.start col h;refine go ?_;refine Xj (col:=(Zk col)) 1 O fun _ _ U g o=>Xj (col:=U) 2 O fun _ _ j T S=>go ?_;refine Ym (col:=j) [(0,1),(1,0),(2,0),(6,1),(7,0),(8,0),(3,3),(4,3),(5,3),(9,3),(10,3),(11,3),(12,3),(13,1)] (by kernel_rfl) (by kernel_rfl)<|xF ⟨_,_,O⟩ ?_;replace o:=o.gr T;refine xv (v:=(.agg #[.bool d.1.1,.slice t d.1.2.length q])) O O (fun _ b=>Xi isAgg40 sizeOf40 O O (((o.atN).part 0 2 _ O).gr (b.bl j))) ?_;refine xv O O (fun _ b=>Zz isAgg42 sizeOf42 (S.gr (b.bl j))) ?_;refine xF ⟨_,_,O⟩ ?_;refine xv (v:=(.agg #[.bool f.1.1,.slice u f.1.2.length s])) O O (fun _ b=>Xi isAgg40 sizeOf40 O O (((S.atN).part 0 2 _ O).gr (b.bl j))) ?_;refine xv O O (fun _ b=>Zz isAgg42 sizeOf42 (o.gr (b.bl j))) ?_;refine xe O O ?_;intro _ a;have b:=a.bl j;obtain ⟨_,Y,c⟩:=bZ c;replace n:=n.k0;replace e:=((e.grow g).grow T).grow b;refine Zh (Zb4 3 Y (n.ks e) (x.k0.ks e)) fun _ _ ⟨E,_,_,g,K,v⟩=>⟨_,g,?_⟩;refine Zj<|Xb E a K<|xe O O ?_;intro _ a;have b:=a.bl E;replace v:=v.gr b;replace e:=(e.grow K).grow b;replace e:=e.froz 3 (by decide) (by decide);obtain ⟨_,V,c⟩:=bZ c;refine Zh (Zn8 V ((v).toSlF (Ze.int .u32))) fun _ _ ⟨F,_,_,g,M,h⟩=>⟨_,g,?_⟩;refine Zj<|Xb F a M<|xe O O ?_;intro _ a;have b:=a.bl F;obtain ⟨_,X,c⟩:=bZ c;replace l:=l.k0;replace e:=(e.grow M).grow b;refine Zh (Zk0 4 X (l.ks e) (h.gr b)) fun _ _ ⟨H,_,_,g,L,i⟩=>⟨_,g,?_⟩;refine Zj<|Xb H a L<|xe O O ?_;intro _ a;have b:=a.bl H;obtain ⟨_,W,c⟩:=bZ c;replace e:=(e.grow L).grow b;refine Zh (Zb4 5 W (l.ks e) (w.k0.ks e)) fun _ _ ⟨J,_,_,g,p,z⟩=>⟨_,g,?_⟩
 refine Zj<|Xb J a p<|xe O O ?_;intro _ a;replace i:=(i.gr b).gr p;have b:=a.bl J;replace i:=i.gr b;replace i:=i.froz 5;replace z:=z.gr b;replace e:=(e.grow p).grow b;replace e:=e.froz 5 (by decide) (by decide);obtain ⟨_,B,c⟩:=bZ c;refine Zh (Zn8 B ((z).toSlF (Ze.int .u32))) fun _ _ ⟨I,_,_,g,y,Z⟩=>⟨_,g,?_⟩;refine Zj<|Xb I a y<|xe O O ?_;intro _ a;have b:=a.bl I;obtain ⟨_,D,c⟩:=bZ c;replace e:=(e.grow y).grow b;refine Zh (Zk0 6 D (n.ks e) (Z.gr b)) fun _ _ ⟨k,_,_,g,A,j⟩=>⟨_,g,?_⟩;refine Zj<|Xb k a A<|xe O O ?_;intro _ a;replace i:=((i.gr y).gr b).gr A;have b:=a.bl k;obtain ⟨_,C,c⟩:=bZ c;refine Zh (Z4q C (((i.gr b).toSlF (Ze.int .u32)).froz 6) (((j.gr b).froz 4).toSlF (Ze.int .u32))) fun _ _ ⟨g,m⟩=>⟨_,g,?_⟩;replace m:=Ru k m;refine Zj<|Xb k a m<|xu O O (fun _=>Zgz O) ?_;refine Yf ?_;replace e:=((e.grow A).grow b).grow m;intro _ b;refine Y5 ?_;cases c;exact ⟨O,O,(e.grow (b.bl k)).below⟩
def Zjp (N:Nat) (a:Int):Option R3:=
  if (decide (0≤a))=true then ((Zjh N (u64.wrap a)).bind fun d=>(Qz N false d).bind fun b=>some (b.1,b.2)) else ((Zjh N (u64.wrap (i64.wrap (-(i64.wrap (a+1)))))).bind fun e=>(Zja N e [1]).bind fun f=>(Qz N true f).bind fun c=>some (c.1,c.2))
theorem Zu9 {N:Nat} {col:Zg} {d:World} {q:Int} {r:R3} (e:Nat) (a:Zjp N q=some r):
    Calls prog 92 #[.int .i64 q] d (Tt 119 e col d r):=by
 refine Yb (m:=17) func92 O O O ?_;rw [Zjp.eq_1] at a;have c:=St.start col d;refine go ?_;refine Xc (col:=(Zk col)) #[.bool false,(nI)] 1 zeroValue40 fun _ _ w y i=>go ?_;replace c:=c.grow y;refine Zp a (fun s a=>go ?_) fun s a=>go ?_
 ·obtain ⟨_,C,a⟩:=bZ a;refine Zh (Zu4 (col:=w) 2 C) fun _ R ⟨l,_,_,b,v,G⟩=>⟨_,b,?_⟩;obtain ⟨_,z,a⟩:=bZ a;refine Zh (Zdc 3 z (G.toSlF (Ze.int .u32))) fun _ _ ⟨M,_,_,b,f,n⟩=>⟨_,b,?_⟩;replace n:=n.thaw (Zt .u32) f ((Fz.refl (col:=l)).froz 2);replace f:=f.thawR (col:=l);generalize Z2 R.heap.size l M=U at *;replace i:=(i.gr v).gr f;refine Zs i fun _ t F H=>go ?_;cases a;replace c:=((c.grow v).grow f).kp t F;exact ⟨O,_,ra H.atN,_,_,_,O,c.fin (cm [(3,e)]),c.fo (n.kp t)⟩
 obtain ⟨_,D,a⟩:=bZ a;refine Zh (Zu4 (col:=w) 4 D) fun _ _ ⟨E,_,_,b,x,L⟩=>⟨_,b,?_⟩;refine Vn (col:=E) [1] 5 ?_;intro _ S m p J;obtain ⟨_,A,a⟩:=bZ a;refine Zh (Zu2 6 A (((L.gr p).toSlF (Ze.int .u32)).froz 5) ((J.froz 4).toSlF (Ze.int .u32))) fun _ T ⟨Q,_,_,b,h,j⟩=>⟨_,b,?_⟩;replace j:=j.thaw (Zt .u32) h (((Fz.refl (col:=m)).froz 4).froz 5);replace h:=h.thawR (col:=m);generalize Z2 S.heap.size m Q=k at *;obtain ⟨_,B,a⟩:=bZ a;refine Zh (Zdc 7 B (j.toSlF (Ze.int .u32))) fun _ _ ⟨P,_,_,b,g,o⟩=>⟨_,b,?_⟩;replace o:=o.thaw (Zt .u32) g ((Fz.refl (col:=k)).froz 6);replace g:=g.thawR (col:=k);generalize Z2 T.heap.size k P=V at *;refine Zs ((((i.gr x).gr p).gr h).gr g) fun _ u I K=>go ?_;cases a;replace c:=((((c.grow x).grow p).grow h).grow g).kp u I;exact ⟨O,_,ra K.atN,_,_,_,O,c.fin (cm [(7,e)]),c.fo (o.kp u)⟩
def Zo3 (N:Nat) (c:R3) (a:R3):Option (R0×Int):=
  (Zgg N (a.1,a.2)).bind fun d=>if (decide (d=0))=true then (some (((false,([]:List Int)),([]:List Int)),11)) else ((Zei N (!decide (c.1=a.1),c.2) a.2).bind fun b=>some (((b.1.1,b.1.2),b.2),0))
theorem Z4u {N k u:Nat} {n v:Option Addr} {col:Zg} {d:World} {c g:R3} {r:(R0×Int)} (m c2:Nat) (a:Zo3 N c g=some r) (o:Sl rU col d n k c.2) (i:Sl rU col d v u g.2):
    Calls prog 91 #[(.agg #[.bool c.1,.slice n c.2.length k]),(.agg #[.bool g.1,.slice v g.2.length u])] d (Zkb 119 m c2 col d r):=by
 refine Yb (m:=21) func91 O O O ?_;rw [Zo3.eq_1] at a;have b:=St.start col d;refine go ?_;refine Xj (col:=(Zk col)) 1 O fun _ _ x J j=>Xj (col:=x) 2 O fun _ _ y w e=>Xc (col:=y) #[.bool false,(nI),(nI)] 3 zeroValue42 fun _ _ I q l=>go ?_;replace e:=e.gr q;refine lV _ (Zz isAgg40 sizeOf40 e) ?_;obtain ⟨_,F,a⟩:=bZ a;replace i:=i.k0;replace b:=((b.grow J).grow w).grow q;refine Zh (Zq2 F (i.ks b)) fun _ _ ⟨h,f⟩=>⟨_,h,?_⟩;replace f:=Ru I f;refine go ?_;replace j:=((j.gr w).gr q).gr f;replace e:=e.gr f;replace l:=l.gr f;replace b:=b.grow f;refine Zp a (fun s a=>go ?_) fun s a=>go ?_
 ·refine lV (.agg #[.bool false,(nI),(nI)]) (Yc (l:=[_,_]) (qs:=[(0,2),(2,1)]) underlying42 zeroValue42 ⟨O,sizeOf40,O,sizeOf38,trivial⟩ O)<|Zs l ?_;intro _ A B D;refine go ?_;cases a;replace b:=b.kp A B;exact ⟨O,_,Tw D.atN,_,none,0,none,0,O,b.fin (cm []),Zb.nil,Zb.nil⟩
 refine Xp j<|Xp e ?_;refine go ?_;refine Xp j<|lV (.agg #[.bool (!decide (c.1=g.1)),.slice n c.2.length k]) (Yc (l:=[_,_]) (qs:=[(0,1),(1,1)]) underlying40 zeroValue40 ⟨O,sizeOf4,O,sizeOf38,trivial⟩ O)<|Xp e ?_;obtain ⟨_,z,a⟩:=bZ a;refine Zh (Zn7 4 5 z (o.k0.ks b) (i.ks b)) fun _ _ ⟨_,_,_,_,_,h,t,G,H⟩=>⟨_,h,?_⟩;refine Zs (l.gr t) fun _ p C E=>go ?_;cases a;replace b:=(b.grow t).kp p C;exact ⟨O,_,Tw E.atN,_,_,_,_,_,O,b.fin (cm [(4,m),(5,c2)]),b.fo (G.kp p),b.fo (H.kp p)⟩
def Zmh (N:Nat) (d e:Int):Option (R0×Int):=
  (Zjp N d).bind fun b=>(Zjp N e).bind fun c=>(Zo3 N (b.1,b.2) (c.1,c.2)).bind fun a=>some (((a.1.1.1,a.1.1.2),a.1.2),a.2)
theorem Zva {N:Nat} {col:Zg} {d:World} {n o:Int} {r:(R0×Int)} (h c2:Nat) (a:Zmh N n o=some r):
    Calls prog 44 #[.int .i64 n,.int .i64 o] d (Zkb 119 h c2 col d r):=by
 refine Yb (m:=13) func44 O O O ?_;rw [Zmh.eq_1] at a;have e:=St.start col d;refine go ?_;refine Xc (col:=(Zk col)) #[.bool false,(nI),(nI)] 1 zeroValue42 fun _ _ t G F=>go ?_;obtain ⟨_,q,a⟩:=bZ a;refine Zh (Zu9 (col:=t) 2 q) fun _ _ ⟨v,_,_,b,m,y⟩=>⟨_,b,?_⟩;refine Xy O ?_;obtain ⟨_,s,a⟩:=bZ a;refine Zh (Zu9 (col:=v) 3 s) fun _ E ⟨f,_,_,b,l,x⟩=>⟨_,b,?_⟩;obtain ⟨g,p,a⟩:=bZ a;refine Zh (Z4u 4 5 p (((y.gr l).toSlF (Ze.int .u32)).froz 3) ((x.froz 2).toSlF (Ze.int .u32))) fun _ _ ⟨z,A,B,C,D,b,c,j,k⟩=>⟨_,b,?_⟩;replace j:=j.thaw (Zt .u32) c (((Fz.refl (col:=f)).froz 2).froz 3);replace k:=k.thaw (Zt .u32) c (((Fz.refl (col:=f)).froz 2).froz 3);replace c:=c.thawR (col:=f);generalize Z2 E.heap.size f z=H at *;refine lV (.agg #[.bool g.1.1.1,.slice A g.1.1.2.length B,.slice C g.1.2.length D]) (Xl O O)<|lV (.int .i64 g.2) (Xl O O) ?_;refine Zs (((F.gr m).gr l).gr c) fun _ i u w=>go ?_;cases a;replace e:=((((e.grow G).grow m).grow l).grow c).kp i u;exact ⟨O,_,Tw w.atN,_,_,_,_,_,O,e.fin (cm [(4,h),(5,c2)]),e.fo (j.kp i),e.fo (k.kp i)⟩
def Zct (N:Nat) (b c:Int):Option R0:=
  (Zmh N b c).bind fun a=>some ((a.1.1.1,a.1.1.2),a.1.2)
theorem Zvb {N:Nat} {col:Zg} {c:World} {k l:Int} {r:R0} (g c2:Nat) (b:Zct N k l=some r):
    Calls prog 146 #[.int .i64 k,.int .i64 l] c (V7 119 g c2 col c r):=by
 refine Yb (m:=14) func146 O O O ?_;rw [Zct.eq_1] at b;have d:=St.start col c;refine go ?_;refine Xc (col:=(Zk col)) #[.bool false,(nI),(nI)] 1 zeroValue42 fun _ _ u A z=>go ?_;obtain ⟨a,s,b⟩:=bZ b;refine Zh (Zva (col:=u) 2 3 s) fun _ _ ⟨y,j,m,n,o,i,p,B,C⟩=>⟨_,i,?_⟩;refine lM (.tuple #[(.agg #[.bool a.1.1.1,.slice j a.1.1.2.length m,.slice n a.1.2.length o]),.int .i64 a.2])<|lV (.agg #[.bool a.1.1.1,.slice j a.1.1.2.length m,.slice n a.1.2.length o]) (Xl O O)<|lV (.int .i64 a.2) (Xl O O)<|Xc (col:=y) #[.bool false,(nI),(nI)] 4 zeroValue42 ?_;intro _ _ _ f q;refine Zs q fun _ e x t=>go ?_;refine lV _ (Zz isAgg42 sizeOf42 t) ?_;refine Zs (((z.gr p).gr f).kp e) fun _ h v w=>go ?_;cases b;replace d:=((((d.grow A).grow p).grow f).kp e x).kp h v;exact ⟨O,_,ra w.atN,_,_,_,_,_,O,d.fin (cm [(2,g),(3,c2)]),d.fo (((B.gr f).kp e).kp h),d.fo (((C.gr f).kp e).kp h)⟩
def Zgh (N:Nat) (a:R6):Nat→Bool→R2→R2→Int→Option R0
  | 0,_,_,_,_=>none
  | i+1,e,f,g,b=>if (decide (b<(a.length:Int)))=true then ((Zn a b).bind fun c=>(Zeg N ((e,f),g) ((c.1.1,c.1.2),c.2)).bind fun d=>(Zgh N a i) d.1.1 d.1.2 d.2 (i64.wrap (b+1))) else (some ((e,f),g))
def Zmi (N:Nat) (b:R6):Option R0:=
  (Zct N 0 1).bind fun a=>Zgh N b N a.1.1 a.1.2 a.2 0
theorem Z4x {N Q:Nat} {s:Option Addr} {col:Zg} {h:World} {t:R6} {r:R0} (C c2:Nat) (a:Zmi N t=some r) (l:Sl rQ col h s Q t):
    Calls prog 111 #[.slice s t.length Q] h (V7 119 C c2 col h r):=by
 refine Yb (m:=19) func111 O O O ?_;rw [Zmi.eq_1] at a;have c:=St.start col h;refine go ?_;refine Xc (col:=(Zk col)) #[.bool false,(nI),(nI)] 1 zeroValue42 fun V _ y E d=>go ?_;obtain ⟨_,v,a⟩:=bZ a;refine Zh (Zvb (col:=y) 2 3 v) fun _ _ ⟨w,_,_,_,_,p,n,Y,v⟩=>⟨_,p,?_⟩;refine Xc (col:=w) #[.bool false,(nI),(nI)] 4 zeroValue42 fun L _ _ z u=>Zs u fun _ y x j=>go ?_;replace c:=(((c.grow E).grow n).grow z).kp y x;replace d:=((d.gr n).gr z).kp y;refine Z0 [0,2,3,1000000] (fun q s n=>∃ f E F G w H I x J o,o=q∧Zgh N t o E w x J=some r∧St h (Zk col) f n∧Zi 42 1 f n V #[.bool false,(nI),(nI)]∧Zb rU 119 2 f n F G w∧Zb rU 119 3 f n H I x∧Zi 42 4 f n L #[.bool E,.slice F w.length G,.slice H x.length I]∧[4].map s=[.int .i64 J]) N ⟨_,_,_,_,_,_,_,_,0,_,O,a,c,d,(Y.gr z).kp y,(v.gr z).kp y,j,O⟩ ?_;clear a;intro q s n V;obtain ⟨f,E,F,G,w,H,I,x,J,o,M,a,c,d,A,B,j,R⟩:=V;subst M;refine .lL [4] R ?_;replace l:=l.k0
 cases o with
 | zero=>rw [Zgh.eq_1] at a;cases a
 | succ o=>
  rw [Zgh.eq_2] at a;refine go ?_;refine Zp a (fun L a=>go ?_) fun L a=>go ?_
  ·refine Ym (col:=f) [(0,0),(1,1),(2,1),(3,1),(4,0),(5,3),(6,2)] (by kernel_rfl) (by kernel_rfl)<|xv O O (fun _ b=>Zz isAgg42 sizeOf42 (j.gr (b.bl f))) ?_;refine xu O O (fun _=>V8 O) ?_;refine xu O O (fun _=>Wu O) ?_;obtain ⟨K,u,a⟩:=bZ a;refine xu O O (fun _=>Wd underlying58 sizeOf42 O O (Xo u).1 (Xo u).2.1 ((l.ks c).addr u)) ?_;obtain ⟨_,U,m⟩:=(l.ks c).atN u;obtain ⟨_,_,rfl,S,k⟩:=Yw U;obtain ⟨_,_,rfl,P,W⟩:=Yw S;obtain ⟨rfl,_⟩:=P;obtain ⟨⟨e,i,rfl,aq⟩,_⟩:=W;obtain ⟨⟨Z,g,rfl,ar⟩,_⟩:=k;refine xv (v:=(.agg #[.bool K.1.1,.slice e K.1.2.length i,.slice Z K.2.length g])) O O (fun _ b=>Xi isAgg42 sizeOf42 O O (m.gr (b.bl f))) ?_;refine xe O O ?_;intro l e;have b:=e.bl f;obtain ⟨_,Y,a⟩:=bZ a;replace A:=A.gr b;replace B:=B.gr b;refine Zh (Zq3 5 6 Y ((A.toSlF (Ze.int .u32)).froz 3) ((B.froz 2).toSlF (Ze.int .u32)) (((aq.gr b).froz 2).froz 3) (((ar.gr b).froz 2).froz 3)) fun _ _ ⟨h,_,_,_,_,p,k,i,g⟩=>⟨_,p,?_⟩;replace i:=i.thaw (Zt .u32) k (((Fz.refl (col:=f)).froz 2).froz 3);replace g:=g.thaw (Zt .u32) k (((Fz.refl (col:=f)).froz 2).froz 3);replace k:=k.thawR (col:=f);generalize Z2 l.heap.size f h=v at *;refine Zj<|Xb v e k<|xe O O ?_;intro _ e;replace d:=(d.gr b).gr k;replace j:=(j.gr b).gr k;replace c:=(c.grow b).grow k;have b:=e.bl v;replace j:=j.gr b;refine Zs j fun _ q f m=>Zj<|xk v<|Yf ?_;replace i:=(i.gr b).kp q;replace g:=(g.gr b).kp q;replace d:=(d.gr b).kp q;replace c:=(c.grow b).kp q f;intro _ b;replace b:=b.bl v;refine go ?_;replace i:=i.gr b;replace i:=i.recolSelf 2 (by decide);replace g:=g.gr b;replace g:=g.recol 5 2;replace d:=d.gr b;replace d:=d.recol 5 2;replace m:=m.gr b;replace m:=m.recol 5 2;replace c:=c.grow b;replace c:=c.recol 5 2 (by decide) (by decide);replace g:=g.recolSelf 3 (by decide);replace d:=d.recol 6 3;replace m:=m.recol 6 3
   replace c:=c.recol 6 3 (by decide) (by decide);exact ⟨o,by omega,O,⟨_,_,_,_,_,_,_,_,_,_,O,a,c,d,i.recol 6 3,g,m,O⟩⟩
  refine lV _ (Zz isAgg42 sizeOf42 j)<|Zs d ?_;intro _ D T X;refine go ?_;cases a;replace c:=c.kp D T;exact ⟨O,_,ra X.atN,_,_,_,_,_,O,c.fin (cm [(2,C),(3,c2)]),c.fo (A.kp D),c.fo (B.kp D)⟩
def Zjr (N:Nat) (a:R0):Option Int:=
  (Zgg N (a.1.1,a.1.2)).bind fun b=>some b
theorem Z4v {N c i:Nat} {d j:Option Addr} {col:Zg} {b:World} {a:R0} {r:Int} (e:Zjr N a=some r) (f:Sl rU col b d c a.1.2) (s:Sl rU col b j i a.2):
    Calls prog 109 #[(.agg #[.bool a.1.1,.slice d a.1.2.length c,.slice j a.2.length i])] b (W8 b r):=by
 refine Xk 2 (m:=6) func109 O O O O O ?_;rw [Zjr.eq_1] at e;have g:=St.start col b;refine go ?_;refine Xj (col:=(Zk col)) 1 O fun _ _ o n m=>go ?_;refine Xt ⟨_,_,O⟩ ?_;refine lV (.agg #[.bool a.1.1,.slice d a.1.2.length c]) (Xi isAgg40 sizeOf40 O O ((m.atN).part 0 2 _ O)) ?_;obtain ⟨_,l,e⟩:=bZ e;replace g:=g.grow n;refine Zh (Zq2 l (f.k0.ks g)) fun _ _ ⟨k,h⟩=>⟨_,k,?_⟩;replace h:=Ru o h;refine go ?_;cases e;exact ⟨O,O,(g.grow h).below⟩
theorem Zey {N k:Nat} {neg:Bool} {m:List Int} (hm:Zo m) (hk:m.length≤k) (hr:Z8 N k):Qz N neg m=some (Xa (Zr (neg,m))):=by
 obtain ⟨a,b⟩:=hr
 rw [Qz,Ty hm (by omega) (by omega),oB,Zmx]
 have e:decide (0<((Zf (Za m)).length:Int))=decide (Za m≠0):=by
  by_cases h:Za m=0
  ·rw [h,Vo];decide
  ·have:=S4 h
   rw [decide_eq_true (by omega),decide_eq_true h]
 cases neg
 ·rw [if_neg (by decide),Zjm,Bool.false_and]
 ·rw [if_pos rfl,Zjm,e,Bool.true_and]
theorem Z03 {N k:Nat} {a:ZV} (hm:Zo a.2) (hk:a.2.length≤k) (hr:Z8 N k):Zjo N a=some (Xa (Zr a)):=by
 rw [Zjo,Zey hm hk hr];rfl
theorem Zto {N k:Nat} {a:ZV} (hm:Zo a.2) (hk:a.2.length≤k) (hr:Z8 N k):Zgg N a=some (Zr a).sign:=by
 rw [Zgg,Z03 hm hk hr,oB,Xa]
 generalize Zr a=z
 by_cases h:z=0
 ·subst h;rw [Int.natAbs_zero,Vo,if_pos (by decide)];rfl
 ·have:=S4 (n:=z.natAbs) (by omega)
  rw [if_neg (dF (by simp only;omega))]
  by_cases h2:z<0
  ·rw [if_pos (dT h2),Int.sign_eq_neg_one_of_neg h2]
  ·rw [if_neg (fun b=>h2 (of_decide_eq_true b)),fN (by omega)]
theorem Z0b {N k l:Nat} {a b:ZV} (ha:Zo a.2) (hb:Zo b.2) (hk:a.2.length≤k) (hl:b.2.length≤l) (hr:Z8 N (k+l+1)):Zjl N a b=some (Xa (Zr a+Zr b)):=by
 have d:=hr
 obtain ⟨g,i⟩:=d
 have j:=Yk ha
 have m:=Yk hb
 have c:(Zf (Za a.2+Za b.2)).length≤k+l+1:=Zhv (by omega) (by omega)
 have e:(Zf (Za a.2 - Za b.2)).length≤k+l+1:=by have:=Ws (gW (Za a.2) (Za b.2));omega
 have f:(Zf (Za b.2 - Za a.2)).length≤k+l+1:=by have:=Ws (gW (Za b.2) (Za a.2));omega
 rw [Zjl]
 by_cases h:a.1=b.1
 ·rw [if_pos (dT h),Z0d ha hb (by omega) (by omega),oB,Zey (Z9 _) c hr,oB,Zkn.1 h]
 ·rw [if_neg (dF h),Znc ha hb (by omega) (by omega) (by omega) (by omega),oB]
  by_cases hlt:Za a.2<Za b.2
  ·rw [if_pos hlt,if_neg (by decide),Znc hb ha (by omega) (by omega) (by omega) (by omega),oB,if_neg (by omega),Zey (Z9 _) f hr,oB,(Zkn.2 h).2 hlt]
  ·rw [if_neg hlt,if_pos rfl,Zey (Z9 _) e hr,oB,(Zkn.2 h).1 (by omega)]
theorem Z02 {N k:Nat} {a:ZV} (hm:Zo a.2) (hk:a.2.length≤k) (hr:Z8 N k):Zjn N a=some (Xa (-Zr a)):=by
 rw [Zjn,Zey hm hk hr,oB,Zqj]
theorem Zr6 {a:ZV} (hm:Zo a.2):(Xa (Zr a)).2.length≤a.2.length:=by
 rw [Qp,Zc7];exact Yk hm
theorem Zya {a:ZV} (hm:Zo a.2):(Xa (-Zr a)).2.length≤a.2.length:=by
 rw [Qp,Int.natAbs_neg,Zc7];exact Yk hm
theorem Xal {N k l:Nat} {a b:ZV} (ha:Zo a.2) (hb:Zo b.2) (hk:a.2.length≤k) (hl:b.2.length≤l) (hr:Z8 N (k+l+1)):Zmf N a b=some (Xa (Zr a - Zr b)):=by
 rw [Zmf,Z02 (a:=(b.1,b.2)) hb hl (hr.mono (by omega)),oB,Z0b (a:=(a.1,a.2)) (b:=Xa _) ha (Wz _) hk (aN (Zya hb) hl) hr,oB,W2,Int.sub_eq_add_neg]
theorem Zna {N k l:Nat} {a b:ZV} (ha:Zo a.2) (hb:Zo b.2) (hk:a.2.length≤k) (hl:b.2.length≤l) (hr:Z8 N (k+l)):Zcs N a b=some (Xa (Zr a * Zr b)):=by
 have c:=hr
 obtain ⟨d,e⟩:=c
 have f:=Yk ha
 have g:=Yk hb
 have:=T7 (Za a.2) (Za b.2)
 rw [Zcs,Z00 ha hb (by omega) (by omega),oB,Zey (k:=k+l) (Z9 _) (by omega) hr,oB,Zub]
theorem Xbi (a b:Int):(a - b).sign=Zax a b:=by
 rw [← Zqi];unfold Zax
 (repeat' split) <;> omega
theorem Z97 {N k l:Nat} {a b:ZV} (ha:Zo a.2) (hb:Zo b.2) (hk:a.2.length≤k) (hl:b.2.length≤l) (hr:Z8 N (k+l+1)):Zme N a b=some (Zax (Zr a) (Zr b)):=by
 have sl:(Xa (Zr a - Zr b)).2.length≤k+l+1:=Z1x (k:=k+l) (aN (Zr6 ha) (by omega)) (aN (Zr6 hb) (by omega))
 rw [Zme,Xal (a:=(a.1,a.2)) (b:=(b.1,b.2)) ha hb hk hl hr,oB,Zto (a:=Xa _) (Wz _) sl hr,oB,W2,Xbi]
theorem Z05 {N:Nat} {z:Int} (h:-9223372036854775808≤z∧z≤9223372036854775807) (hr:Z8 N 4):Zjp N z=some (Xa z):=by
 have c:=hr
 obtain ⟨i,j⟩:=c
 have a:∀ n:Nat,n<18446744073709551616→(Zf n).length≤2:=fun n d=>W0.2 (by simpa using d)
 have f:Zo [1]:=.cons (by decide) .nil
 rw [Zjp]
 by_cases hz:0≤z
 ·rw [if_pos (dT hz),Xs (by omega),Z06 (by omega) (by omega),oB,Zey (Z9 _) (a _ (by omega)) (hr.mono (by omega)),oB]
  have b:Zr (false,Zf z.toNat)=z:=by simp only [Zr,Z6];simp;omega
  rw [b]
 ·have g:=a (-z - 1).toNat (by omega)
  have e:u64.wrap (i64.wrap (-i64.wrap (z+1)))= -z - 1:=by rw [Zy (x:=z+1) (by omega),Zy (by omega),Xs (by omega)];omega
  rw [if_neg (dF hz),e,Z06 (by omega) (by omega),oB,Z0d (Z9 _) f (by simp only [aL];omega) (by simp only [aL];omega),oB,Z6,Wm,Y0,Zey (k:=4) (Z9 _) (by
   have:=a ((-z - 1).toNat+((1:Int).toNat+4294967296 * 0)) (by omega)
   omega) hr,oB]
  have b:Zr (true,Zf ((-z - 1).toNat+((1:Int).toNat+4294967296 * 0)))=z:=by simp only [Zr,Z6,if_true];omega
  rw [b]
theorem Zg3 {N k:Nat} {a:QV} (ha:RV k a) (hr:Z8 N k):S9 N a=some (Zf (X4 a.2)):=by
 obtain ⟨b,c⟩:=hr
 have:=ha.ld
 rw [S9,Ty ha.d (by omega) (by omega),oB,X4]
 by_cases h:Za a.2=0
 ·rw [h,Vo,if_pos (by decide),if_pos rfl,Zo4,oB,Uj]
 ·have:=S4 h
  rw [if_neg (dF (by omega)),if_neg h]
theorem Zp6 {N k l:Nat} {num:ZV} {den:List Int} (hn:Zo num.2) (hd:Zo den) (h0:Za den≠0) (hk:num.2.length≤k) (hl:den.length≤l) (hr:Z8 N (k+l)):
  Zei N num den=some (Zm (mkRat (Zr num) (Za den))):=by
 have c:=hr
 obtain ⟨j,m⟩:=c
 have n:=Yk hn
 have f:=Yk hd
 have d:cL (Za num.2) (Za den)≠0:=fun h=>h0 (Nat.gcd_eq_zero_iff.1 h).2
 have lg:(Zf (cL (Za num.2) (Za den))).length≤den.length:=aN (Ws (Nat.gcd_le_right _ (by omega))) f
 have o:=Ws (bY (Za num.2) (cL (Za num.2) (Za den)))
 have ld:=Ws (bY (Za den) (cL (Za num.2) (Za den)))
 obtain ⟨g,i,e,b,p⟩:=Xah (N:=N) (M:=k+l) hn hd (by omega) (by omega) (by omega) (by omega)
 rw [Zei,i,oB,Z0i hn e (by rw [b];omega) (by omega) (by rw [b];omega) (by omega),oB,Z0i hd e (by rw [b];omega) (by omega) (by rw [b];omega) (by omega),oB,b,if_neg d,if_neg d,
  Z03 (k:=k) (a:=(num.1,Zf (Za num.2 / cL (Za num.2) (Za den)))) (Z9 _) (by simp only;omega) (hr.mono (by omega)),oB,Ty (Z9 _) (by omega) (by omega),oB,Zy6 (neg:=num.1) h0,Zmx,Z6,Z6]
theorem Xad {N k:Nat} {a:QV} (ha:RV k a) (hr:Z8 N (2 * k+1)):Zmg N a=some (Zm (-Zq a)):=by
 have ld:=Te ha
 rw [Zmg,Z02 (a:=(a.1.1,a.1.2)) ha.m ha.lm (hr.mono (by omega)),oB,Zg3 ha (hr.mono (by omega)),oB,Zp6 (num:=Xa _) (k:=k) (l:=k+1) (Wz _) (Z9 _) (by rw [Z6];exact Uy _) (aN (Zya (a:=(a.1.1,a.1.2)) ha.m) ha.lm) ld (hr.mono (by omega)),oB,Z6,W2,Zq,Rat.neg_mkRat]
theorem Xae {N k:Nat} {a:QV} (ha:RV k a) (hr:Z8 N k):Zjr N a=some (Qf (Zq a)):=by
 rw [Zjr,Zto (a:=(a.1.1,a.1.2)) ha.m ha.lm hr,oB,Zz3]
theorem Znl (n:Nat):Zr (false,Zf n)=n:=by simp [Zr,Z6]
theorem Ztj {N k l:Nat} {a b:QV} (ha:RV k a) (hb:RV l b) (hr:Z8 N (2 * (k+l+3))):Zeh N a b=some (Vf (Zq a) (Zq b)):=by
 have c:=Te ha
 have d:=Te hb
 have e:=Za7 (n:=X4 b.2) ha.m ha.lm d
 have f:=Za7 (n:=X4 a.2) hb.m hb.lm c
 rw [Zeh,Zg3 hb (hr.mono (by omega)),oB,Zbn,oB,Zna (a:=(a.1.1,a.1.2)) (b:=(false,Zf (X4 b.2))) (k:=k) (l:=l+1) ha.m (Z9 _) ha.lm d (hr.mono (by omega)),oB,Zg3 ha (hr.mono (by omega)),oB,Zbn,oB,Zna (a:=(b.1.1,b.1.2)) (b:=(false,Zf (X4 a.2))) (k:=l) (l:=k+1) hb.m (Z9 _) hb.lm c (hr.mono (by omega)),oB,Znl,Znl,
  Z97 (a:=Xa _) (b:=Xa _) (Wz _) (Wz _) e f (hr.mono (by omega)),oB,W2,W2,Zq,Zq,Zsz (Uy _) (Uy _)]
theorem Z0h {N k l:Nat} {a b:QV} (ha:RV k a) (hb:RV l b) (hr:Z8 N (k+l+2)):Zec N (Zf (X4 a.2)) (Zf (X4 b.2))=some (Zf (X4 a.2 * X4 b.2)):=by
 have c:=Te ha
 have d:=Te hb
 obtain ⟨e,f⟩:=hr
 rw [Z00 (Z9 _) (Z9 _) (by omega) (by omega),Z6,Z6]
theorem Zti {N k l:Nat} {a b:QV} (ha:RV k a) (hb:RV l b) (hr:Z8 N (2 * (k+l+3))):Zeg N a b=some (Zm (Zq a+Zq b)):=by
 have c:=Te ha
 have d:=Te hb
 have f:=Za7 (n:=X4 b.2) ha.m ha.lm d
 have e:=Za7 (n:=X4 a.2) hb.m hb.lm c
 obtain ⟨_,g,i⟩:=Zk5 ha hb (hr.mono (by omega))
 have j:=Z0h ha hb (hr.mono (by omega))
 have sl:=Ztw (k:=k+l+1) (by omega) (aN e (by omega))
 rw [Zeg,Zg3 hb (hr.mono (by omega)),oB,Zbn,oB,Zna (a:=(a.1.1,a.1.2)) (b:=(false,Zf (X4 b.2))) (k:=k) (l:=l+1) ha.m (Z9 _) ha.lm d (hr.mono (by omega)),oB,Zg3 ha (hr.mono (by omega)),oB,Zbn,oB,Zna (a:=(b.1.1,b.1.2)) (b:=(false,Zf (X4 a.2))) (k:=l) (l:=k+1) hb.m (Z9 _) hb.lm c (hr.mono (by omega)),oB,Znl,Znl,
  Z0b (a:=Xa _) (b:=Xa _) (Wz _) (Wz _) f e (hr.mono (by omega)),oB,W2,W2,oB,oB,j,oB,
  Zp6 (num:=Xa _) (Wz _) (Z9 _) (by rw [Z6];exact i) sl g (hr.mono (by omega)),oB,W2,Z6,Zq,Zq,Rat.mkRat_add_mkRat _ _ (Uy _) (Uy _)]
theorem Xaf {N k l:Nat} {a b:QV} (ha:RV k a) (hb:RV l b) (hr:Z8 N (2 * (k+2 * l+4))):Zjs N a b=some (Zm (Zq a - Zq b)):=by
 have c:qs (-Zq b)≤l+1:=by rw [Zm4];have:=Zs5 hb;omega
 rw [Zjs,Xad hb (hr.mono (by omega)),oB,Zti (b:=Zm _) ha (Yi c) (hr.mono (by omega)),oB,Xz,Rat.sub_eq_add_neg]
theorem Xac {N k l:Nat} {a b:QV} (ha:RV k a) (hb:RV l b) (hr:Z8 N (2 * (k+l+3))):Zjq N a b=some (Zm (Zq a * Zq b)):=by
 obtain ⟨_,c,d⟩:=Zk5 ha hb (hr.mono (by omega))
 have e:=Z0h ha hb (hr.mono (by omega))
 have f:(Xa (Zr a.1 * Zr b.1)).2.length≤k+l:=by
  rw [Qp,Int.natAbs_mul,Zc7,Zc7]
  have g:=T7 (Za a.1.2) (Za b.1.2)
  have i:=Yk ha.m
  have j:=Yk hb.m
  have:=ha.lm;have:=hb.lm
  omega
 rw [Zjq,Zna (a:=(a.1.1,a.1.2)) (b:=(b.1.1,b.1.2)) ha.m hb.m ha.lm hb.lm (hr.mono (by omega)),oB,Zg3 ha (hr.mono (by omega)),oB,Zg3 hb (hr.mono (by omega)),oB,e,oB,
  Zp6 (num:=Xa _) (Wz _) (Z9 _) (by rw [Z6];exact d) f c (hr.mono (by omega)),oB,W2,Z6,Zq,Zq,Rat.mkRat_mul_mkRat]
theorem Ztp {N:Nat} {a b:Int} (h:-9223372036854775808≤a∧a≤9223372036854775807) (g:0<b∧b≤9223372036854775807) (hr:Z8 N 8):Zct N a b=some (Zm ((a:Rat) / (b:Rat))):=by
 have d:∀ z:Int,-9223372036854775808≤z∧z≤9223372036854775807→(Xa z).2.length≤2:=fun z n=>W0.2 (by simp;omega)
 have i:=d a h
 have f:=d b (by omega)
 have c:Za (Xa b).2≠0:=by rw [Qp,Z6];omega
 have e:=Zyt (Zr (Xa a)) 1 (Xa b) 1 (Xa a).1 (Xa a).2 rfl c
 rw [Zct,Zmh,Z05 h (hr.mono (by omega)),oB,Z05 (by omega) (hr.mono (by omega)),oB,Zo3,Zto (a:=Xa b) (Wz _) f (hr.mono (by omega)),oB,W2,fN g.1,if_neg (by decide),Zp6 (num:=(!decide ((Xa a).1=(Xa b).1),(Xa a).2)) (Wz _) (Wz _) c i f (hr.mono (by omega)),oB,oB,oB]
 rw [dJ,dJ,W2,W2] at e
 have j:(a:Rat) / ((1:Nat):Rat) / ((b:Rat) / ((1:Nat):Rat))=(a:Rat) / (b:Rat):=by
  have k:((1:Nat):Rat)=1:=rfl
  have l:(1:Rat)⁻¹=1:=fC (by grind)
  simp only [k,Rat.div_def,l,Rat.mul_one]
 rw [j,bO,Nat.mul_one] at e
 rw [e]
 have m:Zr (!decide ((Xa a).1=(Xa b).1),Zf (Za (Xa a).2))=Zr (!decide ((Xa a).1=(Xa b).1),(Xa a).2):=by simp only [Zr,Z6]
 rw [m]
theorem div_one (a:Rat):a / 1=a:=by
 have b:(1:Rat)⁻¹=1:=fC (by grind)
 rw [Rat.div_def,b,Rat.mul_one]
theorem Xat {N:Nat} (hr:Z8 N 8):Zct N 0 1=some (Zm 0):=by
 rw [Ztp (by omega) (by omega) hr]
 congr 2
 exact div_one _
theorem Xas {N:Nat} (hr:Z8 N 8):Zct N 1 1=some (Zm 1):=by
 rw [Ztp (by omega) (by omega) hr]
 congr 2
 exact div_one _
theorem Z0q {N:Nat} (l:List QV) (hl:∀ a ∈ l,Va a) (hb:l.length<4611686018427387904):∀ (n i:Nat) (q:Rat),i≤l.length→l.length<n+i→Z8 N (4 * (qs q+Ya (l.drop i)+3))→Zgh N l n (Zm q).1.1 (Zm q).1.2 (Zm q).2 (i:Int)=some (Zm (q+Y1 (l.drop i)))
 | 0,i,q,g,j,_=>by omega
 | n+1,i,q,g,j,b=>by
  rw [Zgh.eq_2]
  by_cases hi:i<l.length
  ·have d:=List.drop_eq_getElem_cons hi
   have c:=hl _ (List.getElem_mem hi)
   have o:=Zm5 c
   rw [d,Ya] at b
   have p:=Zkc q (Zq l[i])
   rw [if_pos (dT (by omega)),Xd hi,oB,Zti (k:=qs q) (l:=max (l[i]).1.2.length (l[i]).2.length) (Ztq q) (Zbw c.1 c.2) (b.mono (by omega)),oB,Zy (by omega)]
   have f:=Z0q l hl hb n (i+1) (q+Zq l[i]) (by omega) (by omega) (b.mono (by omega))
   have e:Zq ((((Zm q).1.1,(Zm q).1.2),(Zm q).2):QV)=q:=Xz q
   have m:Zq (((l[i].1.1,l[i].1.2),l[i].2):QV)=Zq l[i]:=rfl
   rw [show ((i+1:Nat):Int)=(i:Int)+1 by omega] at f
   rw [e,m,f,d,Y1,Y1,List.map_cons,List.sum_cons,Rat.add_assoc]
  ·rw [if_neg (dF (by omega)),aI (by omega),Y1,List.map_nil,List.sum_nil,Rat.add_zero]
theorem Xag {N:Nat} {l:List QV} (hl:∀ a ∈ l,Va a) (hb:l.length<4611686018427387904) (hn:l.length<N) (hr:Z8 N (4 * (Ya l+4))):Zmi N l=some (Zm (Y1 l)):=by
 rw [Zmi,Xat (hr.mono (by omega)),oB]
 have:=Z0q (N:=N) l hl hb N 0 0 (by omega) (by omega) (hr.mono (by rw [Zs6,bF];omega))
 rw [bF,Rat.zero_add] at this
 exact this
def Zgt (b:ByteArray):List ByteArray→Nat→Option Int
  | [],a=>some (-1)
  | c :: d,a=>if (decide (b=c))=true then (some (a:Int)) else ((Zgt b d) (a+1))
def Zpe (a:List ByteArray) (b:ByteArray):Option Int:=
  Zgt b a 0
theorem Z5j {j:Nat} {l:Option Addr} {col:Zg} {d:World} {b:R4} {g:ByteArray} {r:Int} (a:Zpe b g=some r) (e:Sl Zc.str col d l j b):
    Calls prog 156 #[.slice l b.length j,.string g] d (W8 d r):=by
 refine Xk 4 (m:=19) func156 O O O O O ?_;rw [Zpe.eq_1] at a;have f:=St.start col d;refine go ?_;refine Z0 [0,1,7,1000000] (fun s t u=>∃ v h k,s=k.length∧b.drop h=k∧Zgt g k h=some r∧St d (Zk col) v u∧[8].map t=[.int .i64 h]) b.length ⟨_,0,_,O,O,a,f,O⟩ ?_;clear a;intro s t u w;obtain ⟨v,h,k,p,m,a,f,q⟩:=w;subst p;refine .lL [8] q ?_;replace e:=e.k0
 cases k with
 | nil=>
  have i:¬ ((h:Int)<(b.length:Int)):=by have:=aF.1 m;omega
  have c:=decide_eq_false i;rw [Zgt.eq_1] at a;refine go ?_;refine Yd (congrArg Value.bool c)<|go ?_;cases a;exact ⟨O,O,f.below⟩
 | cons A x=>
  obtain ⟨n,y,z⟩:=Yo m;have i:(h:Int)<(b.length:Int):=by omega
  have c:=decide_eq_true i;rw [Zgt.eq_2] at a;refine go ?_;refine Ye (congrArg Value.bool c)<|go ?_;refine lI n ((e.ks f).addr n)<|lW ((e.ks f).atStr n) ?_;refine go ?_;refine Zp a (fun o a=>go ?_) fun o a=>go ?_
  ·cases a;exact ⟨O,O,f.below⟩
  exact ⟨x.length,by simp,O,⟨_,_,_,O,y,a,f,(Yv (congrArg (Value.int .i64) (Yp (aG z (e.ks f).1.1))) O)⟩⟩
def Zmq (a:List ByteArray) (b:ByteArray):Option Bool:=
  (Zpe a b).bind fun c=>some (decide (0≤c))
theorem Z5h {d:Nat} {e:Option Addr} {col:Zg} {a:World} {b:R4} {f:ByteArray} {r:Bool} (c:Zmq b f=some r) (i:Sl Zc.str col a e d b):
    Calls prog 120 #[.slice e b.length d,.string f] a (V6 a r):=by
 refine Xk 4 (m:=9) func120 O O O O O ?_;rw [Zmq.eq_1] at c;have j:=St.start col a;refine go ?_;obtain ⟨_,k,c⟩:=bZ c;refine Zh (Z5j k (i.k0.ks j)) fun _ _ ⟨h,g⟩=>⟨_,h,?_⟩;replace g:=Ru (Zk col) g;refine go ?_;cases c;exact ⟨O,O,(j.grow g).below⟩
def Zd4:List ByteArray→(List Rj)→Option Bool
  | [],a=>some false
  | b :: c,a=>if (decide (0<((W1 a b).getD 0)))=true then (some true) else ((some (Q2 a b 1)).bind fun d=>(Zd4 c) d)
def Zlw (a:List ByteArray):Option Bool:=
  Zd4 a ([]:List Rj)
theorem Z4f {s:Nat} {k:Option Addr} {col:Zg} {e:World} {b:R4} {r:Bool} (a:Zlw b=some r) (f:Sl Zc.str col e k s b):
    Calls prog 121 #[.slice k b.length s] e (V6 e r):=by
 refine Xk 2 (m:=20) func121 O O O O O ?_;rw [Zlw.eq_1] at a;have d:=St.start col e;refine go ?_;refine Z74 (col:=(Zk col)) (fk:=Value.string) (fv:=(Value.int .i64)) 1 O fun _ _ _ C G=>go ?_;replace d:=d.grow C;refine Z0 [7,8,1000000] (fun y z o=>∃ p q j i h,y=h.length∧b.drop i=h∧Zd4 h j=some r∧St e (Zk col) p o∧Ua Value.string (Value.int .i64) 1 p o q j∧[9,3].map z=[.int .i64 i,.map (some q)]) b.length ⟨_,_,_,0,_,O,O,a,d,G,O⟩ ?_;clear a;intro y z o D;obtain ⟨p,q,j,i,h,v,l,a,d,A,w⟩:=D;subst v;refine .lL [9,3] w ?_;replace f:=f.k0
 cases h with
 | nil=>
  have g:¬ ((i:Int)<(b.length:Int)):=by have:=aF.1 l;omega
  have c:=decide_eq_false g;rw [Zd4.eq_1] at a;refine go ?_;refine Yd (congrArg Value.bool c)<|go ?_;cases a;exact ⟨O,O,d.below⟩
 | cons t H=>
  obtain ⟨n,I,J⟩:=Yo l;have g:(i:Int)<(b.length:Int):=by omega
  have c:=decide_eq_true g;rw [Zd4.eq_2] at a;refine go ?_;refine Ye (congrArg Value.bool c)<|go ?_;refine lI n ((f.ks d).addr n)<|lW ((f.ks d).atStr n) ?_;refine go ?_;refine lV (.int .i64 ((W1 j t).getD 0)) (Zz7 Qj.str A underlying162 underlying9 zeroValue3 O O)<|go ?_;refine Zp a (fun u a=>go ?_) fun u a=>go ?_
  ·cases a;exact ⟨O,O,d.below⟩
  obtain ⟨B,m,a⟩:=bZ a;have m:B=Q2 j t 1:=(Option.some.inj m).symm;refine Zx1 (k:=t) (v:=1) Qj.str A underlying162 underlying9 O O O ?_;intro _ E F x;rw [← m] at x;refine go ?_;replace d:=d.kp E F;exact ⟨H.length,by simp,O,⟨_,_,_,_,_,O,I,a,d,x,(Yv (congrArg (Value.int .i64) (Yp (aG J (f.ks d).1.1))) O)⟩⟩
def Ziz (b:R1) (a:Nat) (kk_L1:(Nat→Option Int)) (c:Bool):Option Int:=
  if c=true then (some 40) else ((Zn b.2.2.1 (a:Int)).bind fun d=>if (decide ((d.length:Int)=0))=true then (some 43) else (kk_L1 (a+1)))
def Zci (a:R1):List ByteArray→Nat→Option Int
  | [],b=>some 0
  | d :: c,b=>Z1 ((0:Int)≤(b:Int)∧(b:Int)≤(a.2.1.length:Int)) ((Zmq (a.2.1.take (aA (b:Int))) d).bind fun e=>if e=true then (Ziz a b (Zci a c) true) else ((Zn a.2.2.1 (b:Int)).bind fun f=>(Zlw f).bind fun g=>Ziz a b (Zci a c) g))
def Zfv (a:R1):Option Int:=
  Zci a a.2.1 0
theorem Z4c {i s t u:Nat} {j w x y:Option Addr} {col:Zg} {d:World} {a:R1} {r:Int} (b:Zfv a=some r) (k:Sl Zc.str col d j i a.2.1) (o:Sl rV col d w s a.2.2.1) (D:Sl rP col d x t a.2.2.2.1) (E:Sl (Zc.slice rQ) col d y u a.2.2.2.2):
    Calls prog 69 #[(.agg (Rt a j i w s x t y u))] d (W8 d r):=by
 refine Xk 2 (m:=37) func69 O O O O O ?_;rw [Zfv.eq_1] at b;have c:=St.start col d;refine go ?_;refine Xj (col:=(Zk col)) 1 O fun Q _ _ Y f=>go ?_;refine Xp f ?_;refine go ?_;replace c:=c.grow Y;refine Z0 [1,6,7,1000000] (fun C q I=>∃ v g p,C=p.length∧a.2.1.drop g=p∧Zci a p g=some r∧St d (Zk col) v I∧Zi 27 1 v I Q (Rt a j i w s x t y u)∧[8].map q=[.int .i64 g]) a.2.1.length ⟨_,0,_,O,O,b,c,f,O⟩ ?_;clear b;intro C q I T;obtain ⟨v,g,p,M,B,b,c,f,n⟩:=T;subst M;refine .lL [8] n ?_;replace k:=k.k0;replace o:=o.k0
 cases p with
 | nil=>
  have l:¬ ((g:Int)<(a.2.1.length:Int)):=by have:=aF.1 B;omega
  have e:=decide_eq_false l;rw [Zci.eq_1] at b;refine go ?_;refine Yd (congrArg Value.bool e)<|go ?_;cases b;exact ⟨O,O,c.below⟩
 | cons p P=>
  obtain ⟨J,z,A⟩:=Yo B;have l:(g:Int)<(a.2.1.length:Int):=by omega
  have e:=decide_eq_true l;rw [Zci.eq_2] at b;refine go ?_;refine Ye (congrArg Value.bool e)<|go ?_;refine lI J ((k.ks c).addr J)<|lW ((k.ks c).atStr J)<|Yr O<|lAT O<|Zj<|Zg7<|Zw ?_;refine Wp.cutK [1,3,6,7,8,1000000] (fun q F=>∃ G H,Ziz a g (Zci a P) H=some r∧St d (Zk col) G F∧Zi 27 1 G F Q (Rt a j i w s x t y u)∧[13].map q=[.bool H]) ?_ ?_
  ·intro q F R;obtain ⟨G,H,b,c,f,n⟩:=R;rw [Ziz.eq_1] at b;refine .lL [13] n ?_;refine Zp b (fun h b=>go ?_) fun h b=>go ?_
   ·cases b;exact ⟨O,O,c.below⟩
   refine Xp f<|Xy O ?_;obtain ⟨_,D,b⟩:=bZ b;refine lI D ((o.ks c).addr D) ?_;obtain ⟨_,U,W⟩:=(o.ks c).atN D;obtain ⟨⟨_,_,rfl,_⟩,_⟩:=U;refine lW W.one<|go ?_;refine Zp b (fun h b=>go ?_) fun h b=>go ?_
   ·cases b;exact ⟨O,O,c.below⟩
   exact ⟨P.length,by simp,O,⟨_,_,_,O,z,b,c,f,(Yv (congrArg (Value.int .i64) (Yp (aG A (k.ks c).1.1))) O)⟩⟩
  refine Wv<|Xp f<|Xy O ?_;obtain ⟨K,b⟩:=Z5 b;refine lv (v:=.slice j (aA (g:Int)) i) O O (Zkg underlying22 sizeOf9 O O K.1 (by have:=(k.ks c).1.2;have:=K.2;omega))<|.ld (d:=17) (v:=(.slice j ((a.2.1.take (aA (g:Int))).length) i)) (congrArg (fun C=>Value.slice j C i) (List.length_take_of_le (show (aA (g:Int))≤a.2.1.length by have:=K.2;omega)).symm) ?_;refine lMT O ?_;obtain ⟨_,S,b⟩:=bZ b;refine Zh (Z5h S ((k.ks c).take (aA (g:Int)))) fun _ _ ⟨m,z⟩=>⟨_,m,?_⟩;replace z:=Ru v z;refine Td O ?_;replace f:=f.gr z;replace c:=c.grow z;refine X9 b (fun L b=>go ?_) fun L b=>go ?_
  ·refine lV (.bool true) (Xw (congrArg Value.bool L) O)<|go ?_;exact ⟨O,_,_,b,c,f,O⟩
  refine Xt ⟨_,_,O⟩ ?_;refine go ?_;refine lW ((f.atN).nth (q:=2) O)<|go ?_;obtain ⟨_,E,b⟩:=bZ b;refine lI E ((o.ks c).addr E) ?_;refine go ?_;obtain ⟨_,V,X⟩:=(o.ks c).atN E;obtain ⟨⟨_,_,rfl,Z⟩,_⟩:=V;refine lW X.one<|go ?_;obtain ⟨d,N,b⟩:=bZ b;refine Zh (Z4f N Z) fun _ _ ⟨m,A⟩=>⟨_,m,?_⟩;replace A:=Ru v A;refine lV (.bool d) (X0 (congrArg Value.bool L) O)<|go ?_;exact ⟨O,_,_,b,c.grow A,f.gr A,O⟩
def Zix (a:Bool) (b c:List Int):Option R0:=
  some ((a,b),c)
def Zd2 (N:Nat) (a:R0):Option R0:=
  (Zf2 N a.2).bind fun b=>if (decide ((b.length:Int)=0))=true then ((Zck N 1).bind fun c=>Zix a.1.1 a.1.2 c) else (Zix a.1.1 a.1.2 a.2)
theorem Zuy {N q K:Nat} {s J:Option Addr} {col:Zg} {f:World} {d r:R0} (a:Zd2 N d=some r) (l:Sl rU col f s q d.1.2) (n:Sl rU col f J K d.2):
    Calls prog 67 #[(.agg #[.bool d.1.1,.slice s d.1.2.length q,.slice J d.2.length K])] f (fun e w'=>∃ (col':Zg) (j:Option Addr) (h:Nat) (k:Option Addr) (i:Nat),e= .returned ((.agg #[.bool r.1.1,.slice j r.1.2.length h,.slice k r.2.length i]))∧Zl col f col' w'∧Sl rU col' w' j h r.1.2∧Sl rU col' w' k i r.2):=by
 refine Yb (m:=11) func67 O O O ?_;rw [Zd2.eq_1] at a;have b:=St.start col f;refine go ?_;refine Xj (col:=(Zk col)) 1 O fun Q _ R Z c=>Xc (col:=R) #[.bool false,(nI),(nI)] 2 zeroValue42 fun i _ _ I g=>Zj<|Zw ?_;replace l:=l.k0;replace n:=n.k0;replace b:=(b.grow Z).grow I;replace c:=c.gr I;refine Wp.cutK [1,2,1000000] (fun h m=>∃ o w x y p z A t,Zix w p t=some r∧St f (Zk col) o m∧Sl rU o m x y p∧Sl rU o m z A t∧Zi 42 1 o m Q #[.bool w,.slice x p.length y,.slice z t.length A]∧Zi 42 2 o m i #[.bool false,(nI),(nI)]) ?_ ?_
 ·intro h m V;obtain ⟨o,w,x,y,p,z,A,t,a,b,v,B,c,g⟩:=V;rw [Zix.eq_1] at a;refine go ?_;refine lV _ (Zz isAgg42 sizeOf42 c)<|Zs g ?_;intro _ u X Y;refine go ?_;cases a;replace b:=b.kp u X;exact ⟨O,_,ra Y.atN,_,_,_,_,_,O,b.fin (cm []),b.fs (v.kp u),b.fs (B.kp u)⟩
 refine go ?_;refine Xp c ?_;obtain ⟨_,T,a⟩:=bZ a;refine Zh (Zqy 3 T (n.ks b)) ?_;rintro _ ag ⟨W,ah,ai,rfl,E,aj⟩;refine ⟨_,O,go ?_⟩;replace c:=c.gr E;replace g:=g.gr E;replace b:=b.grow E;refine Zp a (fun G a=>?_) fun G a=>?_
 ·refine Wv ?_;obtain ⟨P,U,a⟩:=bZ a;refine Zh (Zkz (col:=W) 4 U) fun _ _ ⟨f,L,M,F,C,D⟩=>⟨_,F,?_⟩;refine Xt ⟨_,_,O⟩ ?_;replace c:=c.gr C;refine Qo (off:=2) (v:=(.slice L P.length M)) c sizeOf38 O O (Rv O O) O O ?_;intro S v H B;replace B:Zi 42 1 f S Q #[.bool d.1.1,.slice s d.1.2.length q,.slice L P.length M]:=B;refine Zj ?_;replace D:=D.kp v;replace g:=(g.gr C).kp v;replace g:=g.froz 4;replace b:=(b.grow C).kp v H;replace b:=b.froz 4 (by decide) (by decide);exact ⟨O,_,_,_,_,_,_,_,_,a,b,(l.ks b),(D).toSlF (Ze.int .u32),B.froz 4,g⟩
 refine X1 ?_;exact ⟨O,_,_,_,_,_,_,_,_,a,b,(l.ks b),(n.ks b),c,g⟩
theorem Z6x:Wk prog 42 3 56:=⟨Tryz.t42,_,rfl,rfl,rfl,rfl,rfl⟩
def Zd3 (N:Nat):List R0→R6→Option R6
  | [],b=>some b
  | c :: d,b=>(Zd2 N ((c.1.1,c.1.2),c.2)).bind fun a=>Z1 ((b.length+[((a.1.1,a.1.2),a.2)].length) * 56≤140737488355328∧b.length+[((a.1.1,a.1.2),a.2)].length≤maxLen) ((Zd3 N d) (b++[((a.1.1,a.1.2),a.2)]))
def Ziy (N:Nat) (a:R6):Option R6:=
  Z1 (a.length * 56≤281474976710656∧a.length≤maxLen) (Zd3 N a ([]:List R0))
theorem Zuz {N Q:Nat} {n:Option Addr} {col:Zg} {g:World} {c r:R6} (u:Nat) (a:Ziy N c=some r) (j:Sl rQ col g n Q c):
    Calls prog 73 #[.slice n c.length Q] g (fun e w'=>∃ (col':Zg) (i:Option Addr) (h:Nat),e= .returned ((.slice i r.length h))∧Zl col g col' w'∧Zb rQ 42 u col' w' i h r):=by
 refine Xk 2 (m:=22) func73 O O O O O ?_;rw [Ziy.eq_1] at a;have f:=St.start col g;refine go ?_;obtain ⟨P,a⟩:=Z5 a;refine Z73 (col:=(Zk col)) (w:=g) (r:=rQ) (n:=c.length) 1 O underlying58 Z6x O O O P.1 P.2 fun _ _ _ h i=>go ?_;replace f:=f.grow h;refine Z0 [10,9,1000000] (fun S T v=>∃ t m w x o l,S=l.length∧c.drop m=l∧Zd3 N l o=some r∧St g (Zk col) t v∧Zb rQ 42 1 t v w x o∧[11,3].map T=[.int .i64 m,.slice w o.length x]) c.length ⟨_,0,_,_,_,_,O,O,a,f,i,O⟩ ?_;clear a;intro S T v g;obtain ⟨t,m,w,x,o,l,B,p,a,f,Z,D⟩:=g;subst B;refine .lL [11,3] D ?_;replace j:=j.k0
 cases l with
 | nil=>
  have k:¬ ((m:Int)<(c.length:Int)):=by have:=aF.1 p;omega
  have d:=decide_eq_false k;rw [Zd3.eq_1] at a;refine go ?_;refine Yd (congrArg Value.bool d)<|go ?_;cases a;exact ⟨O,_,_,_,O,f.fin (cm [(1,u)]),f.fo Z⟩
 | cons z ak=>
  obtain ⟨y,al,am⟩:=Yo p;have k:(m:Int)<(c.length:Int):=by omega
  have d:=decide_eq_true k;rw [Zd3.eq_2] at a;refine go ?_;refine Ye (congrArg Value.bool d)<|go ?_;refine lI y ((j.ks f).addr y) ?_;obtain ⟨_,A,J⟩:=(j.ks f).atN y;obtain ⟨_,_,rfl,s,I⟩:=Yw A;obtain ⟨_,_,rfl,q,C⟩:=Yw s;obtain ⟨rfl,_⟩:=q;obtain ⟨⟨F,H,rfl,L⟩,_⟩:=C;obtain ⟨⟨E,G,rfl,K⟩,_⟩:=I;refine lV (.agg #[.bool z.1.1,.slice F z.1.2.length H,.slice E z.2.length G]) (Xi isAgg42 sizeOf42 O O J)<|Xc (col:=t) #[.bool false,(nI),(nI)] 2 zeroValue42 ?_;intro _ _ _ s b;refine Zs b fun _ q M E=>go ?_;refine lV _ (Zz isAgg42 sizeOf42 E) ?_;obtain ⟨b,C,a⟩:=bZ a;refine Zh (Zuy C ((L.gr s).kp q) ((K.gr s).kp q)) fun _ _ ⟨F,U,V,W,X,A,Y,K,L⟩=>⟨_,A,?_⟩;refine Ui (col:=F) (r:=rQ) (xs:=[((b.1.1,b.1.2),b.2)]) [(.agg #[.bool b.1.1,.slice U b.1.2.length V,.slice W b.2.length X])] 3 (Wf.ofF (Rows.consF (r:=rQ) (x:=((b.1.1,b.1.2),b.2)) (cs:=[.bool b.1.1,.slice U b.1.2.length V,.slice W b.2.length X]) (Vz (Vz (Se b.1.1) (Uv K)) (Uv L)) Rows.nil0)) ?_;intro _ _ _ R G;obtain ⟨I,a⟩:=Z5 a;refine Vw ((((Z.gr s).kp q).gr Y).gr R) (G.srcN (NB.pair (NB.pair NB.bool NB.slice) NB.slice)) I fun _ _ _ _ H J=>go ?_;replace f:=((((f.grow s).kp q M).grow Y).grow R).kpp H;exact ⟨ak.length,by simp,O,⟨_,_,_,_,_,_,O,al,a,f,J,(Yv (congrArg (Value.int .i64) (Yp (aG am (j.ks f).1.1))) O)⟩⟩
def Zep (N:Nat) (b:List R0) (c:Int):Nat→Int→Option Ri
  | 0,_=>none
  | d+1,a=>if (decide (a<(b.length:Int)))=true then (Z1 ((0:Int)≤a∧a≤(b.length:Int)) (Z1 ((0:Int)≤a∧a≤(i64.wrap (a+(if ((b.drop (aA a)).length:Int)<c then ((b.drop (aA a)).length:Int) else c)))∧(i64.wrap (a+(if ((b.drop (aA a)).length:Int)<c then ((b.drop (aA a)).length:Int) else c)))≤(i64.wrap (a+(if ((b.drop (aA a)).length:Int)<c then ((b.drop (aA a)).length:Int) else c)))∧(i64.wrap (a+(if ((b.drop (aA a)).length:Int)<c then ((b.drop (aA a)).length:Int) else c)))≤(b.length:Int)) (((Zep N b c d) (i64.wrap (a+c))).bind fun e=>some ((b.take (aA (i64.wrap (a+(if ((b.drop (aA a)).length:Int)<c then ((b.drop (aA a)).length:Int) else c))))).drop (aA a) :: e)))) else (some [])
def Zpa (N:Nat) (a:List R0) (b:Int):Option Ri:=
  Zep N a b N 0
theorem Z5f (N:Nat) (col:Zg) (n:World) (p:Nat) (e:Option Addr) (d:Nat) (b:List R0) (g:Sl rQ col n e d b) (f:Zi 58 450 col n p #[.slice e b.length d]) (o:Nat) (c:Int) (h:Zi 3 450 col n o #[.int .i64 c]) (r:List R6) (i:Zpa N b c=some r):
    Zg9 prog 1 157 [.pointer (some ⟨p,0,none⟩),.pointer (some ⟨o,0,none⟩)] (fun (y:List R0) (col:Zg) (w:World) (args:List Value)=>∃ z G,args=[.slice z y.length G]∧Sl rQ col w z G y) r col n:=by
 intro M R _ v _ F l;refine Zk1 (m:=31) (args:=[.func (.yield M) #[] #[],.pointer (some ⟨p,0,none⟩),.pointer (some ⟨o,0,none⟩)]) func157 O O O O ?_;rw [Zpa.eq_1] at i;refine go ?_;refine Z0 [0,1,2,1000000] (fun t L x=>∃ m r a u,u=t∧Zep N b c u a=some r∧R r m x∧Sl rQ m x e d b∧Zi 58 450 m x p #[.slice e b.length d]∧Zi 3 450 m x o #[.int .i64 c]∧[4].map L=[.int .i64 a]) N ⟨_,_,0,_,O,i,l,g,f,h,O⟩ ?_;clear i;intro t L x Q;obtain ⟨m,r,a,u,E,i,l,g,f,h,C⟩:=Q;subst E;refine .lL [4] C ?_
 cases u with
 | zero=>rw [Zep.eq_1] at i;cases i
 | succ u=>
  rw [Zep.eq_2] at i;refine go ?_;refine lW f.at1<|go ?_;refine Zp i (fun B i=>go ?_) fun B i=>go ?_
  ·refine Vp (col:=m) (by kernel_rfl) (by kernel_rfl)<|qW (fun _ k=>h.at1.gr (k.bl m)) ?_;refine qW (fun _ k=>f.at1.gr (k.bl m)) ?_;refine go ?_;obtain ⟨K,i⟩:=Z5 i;have T:=g.drop (sz:=3) O (aA a);refine qv (v:=.slice (if d=(aA a) then e else e.map (·.add ((aA a) * 3))) (b.length - (aA a)) (d - (aA a))) O (fun _ k=>Zz9 underlying58 sizeOf42 O O K.1 K.2) ?_;generalize (if d=(aA a) then e else e.map (·.add ((aA a) * 3)))=J at *;refine .ld (d:=16) (v:=(.slice J ((b.drop (aA a)).length) (d - (aA a)))) (congrArg (fun t=>Value.slice J t (d - (aA a))) (cH (i:=(aA a)) (l:=b)).symm) ?_;refine go ?_;refine qv (v:=(.int .i64 (if ((b.drop (aA a)).length:Int)<c then ((b.drop (aA a)).length:Int) else c))) O (fun _ k=>Ztb c ((b.drop (aA a)).length:Int) O O) ?_;refine go ?_;refine Wj ?_;intro _ k;replace k:=k.bl m;replace g:=g.gr k;replace f:=f.gr k;replace h:=h.gr k;replace l:=v _ _ _ _ _ l k.toP;refine go ?_;refine lM (.func (.yield M) #[] #[])<|lW f.at1<|go ?_;obtain ⟨q,i⟩:=Z5 i;have S:=((g.take (aA (i64.wrap (a+(if ((b.drop (aA a)).length:Int)<c then ((b.drop (aA a)).length:Int) else c))))).recap (show (b.take (aA (i64.wrap (a+(if ((b.drop (aA a)).length:Int)<c then ((b.drop (aA a)).length:Int) else c))))).length≤(aA (i64.wrap (a+(if ((b.drop (aA a)).length:Int)<c then ((b.drop (aA a)).length:Int) else c)))) by rw [cC (i:=(aA (i64.wrap (a+(if ((b.drop (aA a)).length:Int)<c then ((b.drop (aA a)).length:Int) else c))))) (l:=b)];have:=q.2;omega)).drop (sz:=3) O (aA a);refine lv (v:=.slice (if (aA (i64.wrap (a+(if ((b.drop (aA a)).length:Int)<c then ((b.drop (aA a)).length:Int) else c))))=(aA a) then e else e.map (·.add ((aA a) * 3))) ((aA (i64.wrap (a+(if ((b.drop (aA a)).length:Int)<c then ((b.drop (aA a)).length:Int) else c)))) - (aA a)) ((aA (i64.wrap (a+(if ((b.drop (aA a)).length:Int)<c then ((b.drop (aA a)).length:Int) else c)))) - (aA a))) O O (Z91 underlying58 sizeOf42 O O O O q.1 q.2.1 q.2.2.1 (by have:=g.1.2;have:=q.2.2.2;omega)) ?_
   generalize (if (aA (i64.wrap (a+(if ((b.drop (aA a)).length:Int)<c then ((b.drop (aA a)).length:Int) else c))))=(aA a) then e else e.map (·.add ((aA a) * 3)))=A at *;refine .ld (d:=28) (v:=(.slice A (((b.take (aA (i64.wrap (a+(if ((b.drop (aA a)).length:Int)<c then ((b.drop (aA a)).length:Int) else c))))).drop (aA a)).length) ((aA (i64.wrap (a+(if ((b.drop (aA a)).length:Int)<c then ((b.drop (aA a)).length:Int) else c)))) - (aA a)))) (congrArg (fun t=>Value.slice A t ((aA (i64.wrap (a+(if ((b.drop (aA a)).length:Int)<c then ((b.drop (aA a)).length:Int) else c)))) - (aA a))) (show (aA (i64.wrap (a+(if ((b.drop (aA a)).length:Int)<c then ((b.drop (aA a)).length:Int) else c)))) - (aA a)=((b.take (aA (i64.wrap (a+(if ((b.drop (aA a)).length:Int)<c then ((b.drop (aA a)).length:Int) else c))))).drop (aA a)).length by rw [cH (i:=(aA a)) (l:=b.take (aA (i64.wrap (a+(if ((b.drop (aA a)).length:Int)<c then ((b.drop (aA a)).length:Int) else c))))),cC (i:=(aA (i64.wrap (a+(if ((b.drop (aA a)).length:Int)<c then ((b.drop (aA a)).length:Int) else c))))) (l:=b)];have:=q.2;omega)) ?_;obtain ⟨_,j,P⟩:=bZ i;cases P;have i:=j;refine ly1 O O O (F _ _ _ _ [(.slice A (((b.take (aA (i64.wrap (a+(if ((b.drop (aA a)).length:Int)<c then ((b.drop (aA a)).length:Int) else c))))).drop (aA a)).length) ((aA (i64.wrap (a+(if ((b.drop (aA a)).length:Int)<c then ((b.drop (aA a)).length:Int) else c)))) - (aA a)))] l ⟨A,((aA (i64.wrap (a+(if ((b.drop (aA a)).length:Int)<c then ((b.drop (aA a)).length:Int) else c)))) - (aA a)),O,S⟩) ?_;rintro _ H ⟨I,s,⟨rfl,D⟩ | ⟨rfl,hX⟩⟩
   ·refine ⟨_,O,?_⟩;have l:=D;refine go ?_;refine Yd O<|go ?_;replace h:=h.kpp s;refine lW h.at1<|go ?_;replace g:=g.kpp s;replace f:=f.kpp s;exact ⟨u,by omega,O,⟨_,_,_,_,O,i,l,g,f,h,O⟩⟩
   refine ⟨_,O,?_⟩;have l:=hX;refine go ?_;refine Ye O<|Y5 ?_;exact ⟨O,⟨_,O⟩,_,.inr l⟩
  cases i;exact ⟨O,⟨_,O⟩,_,.inl l⟩
def Zpb (N:Nat) (a:R6) (b:Int):Option Ri:=
  Zpa N a b
def Zo9 (N:Nat) (b:R6) (a:Int):Option Ri:=
  if (decide (a<1))=true then none else (Zpb N b a)
theorem Z5e {N a:Nat} {f:Option Addr} {col:Zg} {i:World} {c:R6} {d:Int} {r:Ri} (g:Zo9 N c d=some r) (z:Sl rQ col i f a c):
    Calls prog 123 #[.slice f c.length a,.int .i64 d] i (fun e w'=>∃ (col':Zg) (k:Value),e= .returned (k)∧Zl col i col' w'∧It prog 1 k (fun (y:List R0) (col:Zg) (w:World) (args:List Value)=>∃ f a,args=[.slice f y.length a]∧Sl rQ col w f a y) r q0 col' w'):=by
 refine Xk 4 (m:=9) func123 O O O O O ?_;rw [Zo9.eq_1] at g;have l:=St.start col i;refine go ?_;refine Zdn (col:=(Zk col)) (v:=(.slice f c.length a)) 1 O O ?_;intro o F A H m;replace m:Zi 58 1 A F o #[.slice f c.length a]:=m;refine Zdn (col:=A) (v:=(.int .i64 d)) 2 O O ?_;intro n E C B p;replace p:Zi 3 2 C E n #[.int .i64 d]:=p;refine lv (v:=_) O O (Uf O)<|Zj<|Zw ?_;replace l:=(l.grow H).grow B;replace m:=m.gr B;refine Wp.cutK [2,3,1000000] (fun G t=>∃ s,Zpb N c d=some r∧St i (Zk col) s t∧Zi 58 1 s t o #[.slice f c.length a]∧Zi 3 2 s t n #[.int .i64 d]) ?_ ?_
 ·intro G t D;obtain ⟨s,g,l,m,p⟩:=D;rw [Zpb.eq_1] at g;refine go ?_;refine lV (.func (.func 157) #[] #[.pointer (some ⟨o,0,none⟩),.pointer (some ⟨n,0,none⟩)]) (Zs8 O O)<|lA (.func (.func 157) #[] #[.pointer (some ⟨o,0,none⟩),.pointer (some ⟨n,0,none⟩)])<|go ?_;have J:=l.finBox (G:=(fun b=>bif aH b 1 then 450 else bif aH b 2 then 450 else 0)) m (by decide) (by decide) (show (fun b=>bif aH b 1 then 450 else bif aH b 2 then 450 else 0) 1=450 from O);have q:=l.finSl (g:=(fun b=>bif aH b 1 then 450 else bif aH b 2 then 450 else 0)) O (z.k0.ks l);have I:=l.finBox (G:=(fun b=>bif aH b 1 then 450 else bif aH b 2 then 450 else 0)) p (by decide) (by decide) (show (fun b=>bif aH b 1 then 450 else bif aH b 2 then 450 else 0) 2=450 from O);refine ⟨O,Uc i.heap.size col s (fun b=>bif aH b 1 then 450 else bif aH b 2 then 450 else 0),_,O,l.fin (fun b=>bif aH b 1 then 450 else bif aH b 2 then 450 else 0),157,[.pointer (some ⟨o,0,none⟩),.pointer (some ⟨n,0,none⟩)],O,call157,?_⟩;intro j x u h;exact Z5f N j x o f a c (q.itk u h O) (J.itk u h O) n d (I.itk u h O) r g
 refine go ?_;refine lW p.at1<|go ?_;refine Zp g (fun v g=>?_) fun v g=>?_
 ·cases g
 refine X1 ?_;exact ⟨O,_,g,l,m,p⟩
def Zfw (N:Nat):Option R0:=
  (Zlr N 1 1).bind fun a=>some ((a.1.1.1,a.1.1.2),a.1.2)
theorem Zqv {N:Nat} {col:Zg} {c:World} {r:R0} (g c2:Nat) (b:Zfw N=some r):
    Calls prog 65 #[] c (V7 119 g c2 col c r):=by
 refine Yb (m:=8) func65 O O O ?_;rw [Zfw.eq_1] at b;have d:=St.start col c;refine go ?_;refine Xc (col:=(Zk col)) #[.bool false,(nI),(nI)] 1 zeroValue42 fun _ _ s y x=>go ?_;obtain ⟨a,p,b⟩:=bZ b;refine Zh (Z32 (col:=s) 2 3 p) fun _ _ ⟨w,j,k,l,m,i,n,z,A⟩=>⟨_,i,?_⟩;refine lM (.tuple #[(.agg #[.bool a.1.1.1,.slice j a.1.1.2.length k,.slice l a.1.2.length m]),.int .i64 a.2])<|lV (.agg #[.bool a.1.1.1,.slice j a.1.1.2.length k,.slice l a.1.2.length m]) (Xl O O)<|lV (.int .i64 a.2) (Xl O O)<|Xc (col:=w) #[.bool false,(nI),(nI)] 4 zeroValue42 ?_;intro _ _ _ f o;refine Zs o fun _ e v q=>go ?_;refine lV _ (Zz isAgg42 sizeOf42 q) ?_;refine Zs (((x.gr n).gr f).kp e) fun _ h t u=>go ?_;cases b;replace d:=((((d.grow y).grow n).grow f).kp e v).kp h t;exact ⟨O,_,ra u.atN,_,_,_,_,_,O,d.fin (cm [(2,g),(3,c2)]),d.fo (((z.gr f).kp e).kp h),d.fo (((A.gr f).kp e).kp h)⟩
def Zsd (a:Bool):Option Bool:=
  some a
def Zfy (N:Nat):List R6→Bool→Option Bool
  | [],c=>some true
  | d :: e,c=>(Zam N d).bind fun a=>(Zfw N).bind fun b=>(U1 N ((a.1.1,a.1.2),a.2) ((b.1.1,b.1.2),b.2)).bind fun f=>if (!decide (f=0))=true then (Zsd false) else ((Zfy N e) c)
def Zlx (N:Nat) (a:R6) (b:Int):Option Bool:=
  (Zo9 N a b).bind fun c=>Zfy N c false
theorem Z4g {N j:Nat} {p:Option Addr} {col:Zg} {l:World} {q:R6} {t:Int} {r:Bool} (b:Zlx N q t=some r) (V:Sl rQ col l p j q):
    Calls prog 75 #[.slice p q.length j,.int .i64 t] l (V6 l r):=by
 refine Zrb (m:=15) (args:=[.slice p q.length j,.int .i64 t]) func75 O O O ?_;rw [Zlx.eq_1] at b;have d:=St.start col l;have a:Yq 499 (Zk col) l []:=.nil;refine go ?_;refine Za5 (col:=(Zk col)) (v:=(.bool false)) 1 O zeroValue4 ?_;intro F w v i f;replace f:Zi 4 1 v w F #[.bool false]:=f;refine go ?_;obtain ⟨D,y,b⟩:=bZ b;replace d:=d.grow i;refine Zh (Z5e y (V.k0.ks d)) ?_;rintro _ ah ⟨Q,ai,rfl,x,R⟩;refine ⟨_,O,go ?_⟩;replace a:=(a.gr i).gr x;replace f:=f.gr x;replace d:=d.grow x;refine Znk (psl:=[9]) (arr:=(fun (Y:List R0) (col:Zg) (z:World) (g:List Value)=>∃ p j,g=[.slice p Y.length j]∧Sl rQ col z p j Y)) (ys:=D) (col:=Q) 498 O R O a O O (by rintro _ _ _ _ ⟨_,_,rfl,_⟩;rfl) (fun v n o=>∃ (h:Bool),Zfy N v h=some r∧St l (Zk col) n o∧Zi 4 1 n o F #[.bool h]) (fun B n o=>(B= .ret∧∃ (h:Bool),Zsd h=some r∧St l (Zk col) n o∧Zi 4 1 n o F #[.bool h])) ?_ ?_ ⟨false,b,d,f⟩ ?_ ?_ ?_
 ·intro v n o k A E u;obtain ⟨h,b,d,f⟩:=E;exact ⟨h,b,d.kpp u O O,f.kpp u O⟩
 ·intro B n o k A m u;obtain ⟨rfl,m⟩:=m;obtain ⟨h,b,d,f⟩:=m;exact ⟨O,⟨h,b,d.kpp u O O,f.kpp u O⟩⟩
 ·intro _ _ _ _ _ n o g E c a s;obtain ⟨h,b,d,f⟩:=E;rw [Zfy.eq_2] at b;have e:=Zu.refl (pC 1) n o;obtain ⟨_,_,rfl,C⟩:=s;refine go ?_;refine ⟨_,c,?_⟩;intro _ _ D g i;have c:=i;refine go ?_;obtain ⟨_,p,b⟩:=bZ b;refine Zh (Zhj 2 3 p (C.kp D)) fun _ _ ⟨u,_,_,_,_,w,C,A,J⟩=>⟨_,w,?_⟩;obtain ⟨_,s,b⟩:=bZ b;refine lc O O (Sv call65) (Zqv (col:=u) 4 5 s:) fun _ _ ⟨k,_,_,_,_,w,z,G,H⟩=>⟨_,w,?_⟩;obtain ⟨_,l,b⟩:=bZ b;refine Zh (Zdb l (((((A.gr z).toSlF (Ze.int .u32)).froz 3).froz 4).froz 5) (((((J.gr z).froz 2).toSlF (Ze.int .u32)).froz 4).froz 5) ((((G.froz 2).froz 3).toSlF (Ze.int .u32)).froz 5) ((((H.froz 2).froz 3).froz 4).toSlF (Ze.int .u32))) fun _ _ ⟨w,y⟩=>⟨_,w,?_⟩;replace y:=Ru k y;refine go ?_;replace f:=(((f.kp D).gr C).gr z).gr y;replace a:=(((a.kp D).gr C).gr z).gr y;replace e:=(((e.kp D g O).gr C).gr z).gr y;replace d:=(((d.kp D g).grow C).grow z).grow y;replace c:=((c.gr C).gr z).gr y;refine Zp b (fun J b=>go ?_) fun J b=>?_
  ·refine Ur (v:=(.bool false)) f sizeOf4 O O (Rv O O) O O ?_;intro K G Z H;replace H:Zi 4 1 k K F #[.bool false]:=H;refine go ?_;replace c:=c.kp G;replace a:=a.kp G;replace e:=e.kp G Z O;replace d:=d.kp G Z;exact ⟨_,e,⟨O,⟨false,b,d,H⟩⟩,c,a⟩
  refine X1 ?_;exact ⟨_,e,⟨h,b,d,f⟩,c,a⟩
 ·intro U n o E a;obtain ⟨h,b,d,f⟩:=E;rw [Zfy.eq_1] at b;refine go ?_;refine Ur (v:=(.bool true)) f sizeOf4 O O (Rv O O) O O ?_;intro L P T I;replace I:Zi 4 1 n L F #[.bool true]:=I;refine go ?_;cases b;replace a:=a.kp P;refine ⟨_,(U :: []),O,a,?_⟩;intro _ X M;replace d:=(d.kp P T).kp X M;exact ⟨_,Zkh O O isAgg4 O (I.kp X).at1,O,d.below⟩
 intro B S n o m a;obtain ⟨rfl,m⟩:=m;obtain ⟨h,b,d,f⟩:=m;rw [Zsd.eq_1] at b;refine Y5 ?_;cases b;refine ⟨_,(S :: []),O,a,?_⟩;intro _ W P;exact ⟨_,Zkh O O isAgg4 O (f.kp W).at1,O,(d.kp W P).below⟩
def Zi1 (a:Bool):Option Bool:=
  some a
def Zi0 (N:Nat) (a:R0):Option Bool:=
  (Zbh N ((a.1.1,a.1.2),a.2)).bind fun c=>if (decide (c<0))=true then (Zi1 true) else ((Zfw N).bind fun b=>(U1 N ((a.1.1,a.1.2),a.2) ((b.1.1,b.1.2),b.2)).bind fun d=>Zi1 (decide (0<d)))
theorem Z4d {N s t:Nat} {u w:Option Addr} {col:Zg} {e:World} {g:R0} {r:Bool} (b:Zi0 N g=some r) (n:Sl rU col e u s g.1.2) (o:Sl rU col e w t g.2):
    Calls prog 74 #[(.agg #[.bool g.1.1,.slice u g.1.2.length s,.slice w g.2.length t])] e (V6 e r):=by
 refine Xk 2 (m:=12) func74 O O O O O ?_;rw [Zi0.eq_1] at b;have c:=St.start col e;refine go ?_;refine Xj (col:=(Zk col)) 1 O fun _ _ i G p=>Zht O<|Zj<|Zw ?_;replace n:=n.k0;replace o:=o.k0;replace c:=c.grow G;refine Wp.cutK [1000000] (fun y z=>∃ A q,Zi1 q=some r∧St e (Zk col) A z∧[2].map y=[.bool q]) ?_ ?_
 ·intro y z C;obtain ⟨A,q,b,c,x⟩:=C;rw [Zi1.eq_1] at b;refine .lL [2] x<|Y5 ?_;cases b;exact ⟨O,O,c.below⟩
 refine Ym (col:=i) [(0,0),(1,3),(2,1),(3,1),(4,0),(5,3),(6,3),(7,1),(8,1),(9,1)] (by kernel_rfl) (by kernel_rfl)<|xv O O (fun _ d=>Zz isAgg42 sizeOf42 (p.gr (d.bl i))) ?_;refine xe O O ?_;intro _ a;have d:=a.bl i;obtain ⟨j,D,b⟩:=bZ b;replace c:=c.grow d;refine Zh (Zqu D (n.ks c) (o.ks c)) fun _ _ ⟨f,k⟩=>⟨_,f,?_⟩;replace k:=Ru i k;refine Zj<|Xb i a k<|xu O O (fun _=>Zm8 _ _ O O) ?_;refine xu O O (fun _=>Zm9 O) ?_;replace p:=(p.gr d).gr k;replace c:=c.grow k;refine X9 b (fun h b=>?_) fun h b=>?_
 ·refine V1 (b:=decide (j<0)) 6 O O O O O (by rw [h];rfl)<|V1 (b:=decide (j<0)) 6 O O O O O (by rw [h];rfl)<|V1 (b:=decide (j<0)) 6 O O O O O (by rw [h];rfl)<|V1 (b:=decide (j<0)) 6 O O O O O (by rw [h];rfl)<|xu (v:=(.bool true)) O O (fun _=>Xw (congrArg Value.bool h) O) ?_;refine xu O O (fun _=>Zbv O) ?_;refine Yf ?_;intro _ d;replace d:=d.bl i;replace c:=c.grow d;exact ⟨O,_,_,b,c,O⟩
 refine Zg8 (v:=(.agg #[.bool g.1.1,.slice u g.1.2.length s,.slice w g.2.length t])) (b:=decide (j<0)) 6 O O O O O (by rw [h];rfl) (fun _ d=>Xi isAgg42 sizeOf42 O O (p.atN.gr (d.bl i))) ?_;refine xe O O ?_;intro _ a;have d:=a.bl i;refine go ?_;obtain ⟨_,F,b⟩:=bZ b;refine lc O O (Sv call65) (Zqv (col:=i) 6 7 F:) fun _ _ ⟨l,_,_,_,_,f,B,H,I⟩=>⟨_,f,?_⟩;refine Zj<|Xb l a B<|xe O O ?_;intro _ a;replace c:=(c.grow d).grow B;have d:=a.bl l;refine go ?_;obtain ⟨v,E,b⟩:=bZ b;replace c:=c.grow d;refine Zh (Zdb E (((n.ks c).froz 6).froz 7) (((o.ks c).froz 6).froz 7) (((H.gr d).toSlF (Ze.int .u32)).froz 7) (((I.gr d).froz 6).toSlF (Ze.int .u32))) fun _ _ ⟨f,m⟩=>⟨_,f,?_⟩;replace m:=Ru l m;refine Zj<|Xb l a m<|Zkm (v:=(.bool (decide (0<v)))) (b:=decide (j<0)) 6 O O O O O (by rw [h];rfl) (fun _=>Zpy v 0 O O) ?_;refine xu (v:=(.bool (decide (0<v)))) O O (fun _=>X0 (congrArg Value.bool h) O) ?_;refine xu O O (fun _=>Zbv O) ?_;refine Yf ?_;intro _ d;exact ⟨O,_,_,b,(c.grow m).grow (d.bl l),O⟩
def Zgs (N:Nat):List R0→Nat→Option Int
  | [],a=>some (-1)
  | b :: c,a=>(Zi0 N ((b.1.1,b.1.2),b.2)).bind fun d=>if d=true then (some (a:Int)) else ((Zgs N c) (a+1))
def Zpd (N:Nat) (a:R6):Option Int:=
  Zgs N a 0
theorem Z5i {N o:Nat} {j:Option Addr} {col:Zg} {e:World} {b:R6} {r:Int} (a:Zpd N b=some r) (f:Sl rQ col e j o b):
    Calls prog 122 #[.slice j b.length o,(.func (.func 74) #[] #[])] e (W8 e r):=by
 refine Xk 4 (m:=19) func122 O O O O O ?_;rw [Zpd.eq_1] at a;have d:=St.start col e;refine go ?_;refine Z0 [0,1,7,1000000] (fun v w x=>∃ p g i,v=i.length∧b.drop g=i∧Zgs N i g=some r∧St e (Zk col) p x∧[8].map w=[.int .i64 g]) b.length ⟨_,0,_,O,O,a,d,O⟩ ?_;clear a;intro v w x z;obtain ⟨p,g,i,t,k,a,d,u⟩:=z;subst t;refine .lL [8] u ?_;replace f:=f.k0
 cases i with
 | nil=>
  have h:¬ ((g:Int)<(b.length:Int)):=by have:=aF.1 k;omega
  have c:=decide_eq_false h;rw [Zgs.eq_1] at a;refine go ?_;refine Yd (congrArg Value.bool c)<|go ?_;cases a;exact ⟨O,O,d.below⟩
 | cons n M=>
  obtain ⟨m,P,Q⟩:=Yo k;have h:(g:Int)<(b.length:Int):=by omega
  have c:=decide_eq_true h;rw [Zgs.eq_2] at a;refine go ?_;refine Ye (congrArg Value.bool c)<|go ?_;refine lM (.func (.func 74) #[] #[])<|go ?_;refine lI m ((f.ks d).addr m) ?_;obtain ⟨_,B,L⟩:=(f.ks d).atN m;obtain ⟨_,_,rfl,A,I⟩:=Yw B;obtain ⟨_,_,rfl,y,C⟩:=Yw A;obtain ⟨rfl,_⟩:=y;obtain ⟨⟨F,H,rfl,K⟩,_⟩:=C;obtain ⟨⟨E,G,rfl,J⟩,_⟩:=I;refine lV (.agg #[.bool n.1.1,.slice F n.1.2.length H,.slice E n.2.length G]) (Xi isAgg42 sizeOf42 O O L) ?_;obtain ⟨_,D,a⟩:=bZ a;refine lc O O (Z9q call74 O O) (Z4d D K J:) fun _ _ ⟨q,l⟩=>⟨_,q,?_⟩;replace l:=Ru p l;refine Zj ?_;replace d:=d.grow l;refine Zp a (fun s a=>go ?_) fun s a=>go ?_
  ·cases a;exact ⟨O,O,d.below⟩
  exact ⟨M.length,by simp,O,⟨_,_,_,O,P,a,d,(Yv (congrArg (Value.int .i64) (Yp (aG Q (f.ks d).1.1))) O)⟩⟩
def Zpc (N:Nat) (a:R6):Option Bool:=
  (Zpd N a).bind fun b=>some (decide (0≤b))
theorem Z5g {N d:Nat} {e:Option Addr} {col:Zg} {a:World} {b:R6} {r:Bool} (c:Zpc N b=some r) (h:Sl rQ col a e d b):
    Calls prog 72 #[.slice e b.length d,(.func (.func 74) #[] #[])] a (V6 a r):=by
 refine Xk 4 (m:=9) func72 O O O O O ?_;rw [Zpc.eq_1] at c;have i:=St.start col a;refine go ?_;refine lM (.func (.func 74) #[] #[]) ?_;obtain ⟨_,j,c⟩:=bZ c;refine Zh (Z5i j (h.k0.ks i)) fun _ _ ⟨g,f⟩=>⟨_,g,?_⟩;replace f:=Ru (Zk col) f;refine go ?_;cases c;exact ⟨O,O,(i.grow f).below⟩
def Zfx (b:R1):List Int→Int→Option Int
  | [],a=>some a
  | d :: e,a=>(Zn b.2.2.1 d).bind fun c=>(Zfx b e) (if 1099511627776<(i64.wrap (a * (c.length:Int))) then 1099511627776 else (i64.wrap (a * (c.length:Int))))
def Zi2 (a:R1) (b:Int):Option Int:=
  (Zn a.2.2.2.1 b).bind fun c=>Zfx a c 1
theorem Z4e {s t u v:Nat} {w x y D:Option Addr} {col:Zg} {c:World} {a:R1} {G r:Int} (b:Zi2 a G=some r) (S:Sl Zc.str col c w s a.2.1) (l:Sl rV col c x t a.2.2.1) (o:Sl rP col c y u a.2.2.2.1) (X:Sl (Zc.slice rQ) col c D v a.2.2.2.2):
    Calls prog 71 #[(.agg (Rt a w s x t y u D v)),.int .i64 G] c (W8 c r):=by
 refine Xk 4 (m:=29) func71 O O O O O ?_;rw [Zi2.eq_1] at b;have e:=St.start col c;refine go ?_;refine Xj (col:=(Zk col)) 1 O fun T _ _ P m=>go ?_;refine Xp m<|Xy O ?_;obtain ⟨k,A,b⟩:=bZ b;replace o:=o.k0;replace e:=e.grow P;refine lI A ((o.ks e).addr A) ?_;obtain ⟨_,K,M⟩:=(o.ks e).atN A;obtain ⟨⟨Q,R,rfl,g⟩,_⟩:=K;refine lW M.one<|go ?_;refine Z0 [12,13,2,1000000] (fun H I n=>∃ p j f i,H=i.length∧k.drop j=i∧Zfx a i f=some r∧St c (Zk col) p n∧Sl rI p n Q R k∧Zi 27 1 p n T (Rt a w s x t y u D v)∧[14,5].map I=[.int .i64 j,.int .i64 f]) k.length ⟨_,0,1,_,O,O,b,e,g,m,O⟩ ?_;clear b;intro H I n J;obtain ⟨p,j,f,i,E,q,b,e,g,m,F⟩:=J;subst E;refine .lL [14,5] F ?_;replace l:=l.k0
 cases i with
 | nil=>
  have h:¬ ((j:Int)<(k.length:Int)):=by have:=aF.1 q;omega
  have d:=decide_eq_false h;rw [Zfx.eq_1] at b;refine go ?_;refine Yd (congrArg Value.bool d)<|go ?_;cases b;exact ⟨O,O,e.below⟩
 | cons Y U=>
  obtain ⟨B,V,W⟩:=Yo q;have h:(j:Int)<(k.length:Int):=by omega
  have d:=decide_eq_true h;rw [Zfx.eq_2] at b;refine go ?_;refine Ye (congrArg Value.bool d)<|go ?_;refine lI B (g.addr B)<|lW (g.atInt B) ?_;refine go ?_;refine Xp m<|Xy O ?_;obtain ⟨C,z,b⟩:=bZ b;refine lI z ((l.ks e).addr z) ?_;obtain ⟨_,L,N⟩:=(l.ks e).atN z;obtain ⟨⟨_,_,rfl,_⟩,_⟩:=L;refine lW N.one<|go ?_;refine lV (.int .i64 (if 1099511627776<(i64.wrap (f * (C.length:Int))) then 1099511627776 else (i64.wrap (f * (C.length:Int))))) (Ztb (i64.wrap (f * (C.length:Int))) 1099511627776 O O)<|go ?_;exact ⟨U.length,by simp,O,⟨_,_,_,_,O,V,b,e,g,m,(Yv (congrArg (Value.int .i64) (Yp (aG W g.1.1))) O)⟩⟩
def Zd0 (N:Nat) (b:R1):List R6→Nat→Option Int
  | [],a=>some 0
  | c :: d,a=>(Zn b.2.2.1 (a:Int)).bind fun e=>(Ziy N c).bind fun f=>(Zlx N f (e.length:Int)).bind fun g=>if (!g)=true then (some 46) else ((Zd0 N b d) (a+1))
def Zch (N:Nat) (a:R1):List R6→Option Int
  | []=>Zd0 N a a.2.2.2.2 0
  | b :: c=>(Ziy N b).bind fun d=>(Zpc N d).bind fun e=>if e=true then (some 45) else (Zch N a c)
def Zcg (N:Nat) (a:R1):List R6→Nat→Option Int
  | [],b=>Zch N a a.2.2.2.2
  | e :: f,b=>(Zi2 (a.1,a.2.1,a.2.2.1,a.2.2.2.1,a.2.2.2.2) (b:Int)).bind fun c=>(Zn a.2.2.1 (b:Int)).bind fun d=>if (decide (65536<(i64.wrap (c * (d.length:Int)))))=true then (some 4) else (if (!decide ((i64.wrap (c * (d.length:Int)))=(e.length:Int)))=true then (some 60) else ((Zcg N a f) (b+1)))
def Zcf (N:Nat) (a:R1) (d:Bool):Option Int:=
  if d=true then (some 60) else (if (decide (1024<(a.2.1.length:Int)))=true then (some 4) else ((Zfv (a.1,a.2.1,a.2.2.1,a.2.2.2.1,a.2.2.2.2)).bind fun b=>if (!decide (b=0))=true then (some b) else ((Zal N a.2.2.2.1).bind fun c=>if (!decide (c=0))=true then (some c) else (Zcg N a a.2.2.2.2 0))))
def Ue (N:Nat) (a:R1):Option Int:=
  if (!decide ((a.2.2.1.length:Int)=(a.2.1.length:Int)))=true then (Zcf N a true) else (if (!decide ((a.2.2.2.1.length:Int)=(a.2.1.length:Int)))=true then (Zcf N a true) else (Zcf N a (!decide ((a.2.2.2.2.length:Int)=(a.2.1.length:Int)))))
theorem Zkx {N p s t u:Nat} {w x y E:Option Addr} {col:Zg} {j:World} {b:R1} {r:Int} (a:Ue N b=some r) (L:Sl Zc.str col j w p b.2.1) (k:Sl rV col j x s b.2.2.1) (U:Sl rP col j y t b.2.2.2.1) (g:Sl (Zc.slice rQ) col j E u b.2.2.2.2):
    Calls prog 30 #[(.agg (Rt b w p x s y t E u))] j (W8 j r):=by
 refine Xk 2 (m:=103) func30 O O O O O ?_;rw [Ue.eq_1] at a;have c:=St.start col j;refine go ?_;refine Xj (col:=(Zk col)) 1 O fun i _ _ G e=>go ?_;refine Xp e<|lV _ (Q4 underlying22 O)<|Yr O<|Zj<|Zw<|Zw ?_;replace L:=L.k0;replace k:=k.k0;replace U:=U.k0;replace g:=g.k0;replace c:=c.grow G;refine Wp.cutK [1,3,1000000] (fun v G=>∃ R H,Zcf N b H=some r∧St j (Zk col) R G∧Zi 27 1 R G i (Rt b w p x s y t E u)∧[34].map v=[.bool H]) ?_ ?_
 ·intro v G Q;obtain ⟨R,H,a,c,e,o⟩:=Q;rw [Zcf.eq_1] at a;refine .lL [34] o ?_;refine Zp a (fun h a=>go ?_) fun h a=>go ?_
  ·cases a;exact ⟨O,O,c.below⟩
  refine Zp a (fun h a=>go ?_) fun h a=>go ?_
  ·cases a;exact ⟨O,O,c.below⟩
  refine lV _ (Zz isAgg27 sizeOf27 e) ?_;obtain ⟨_,V,a⟩:=bZ a;refine Zh (Z4c V (L.ks c) (k.ks c) (U.ks c) (g.ks c)) fun _ _ ⟨m,V⟩=>⟨_,m,?_⟩;replace V:=Ru R V;refine go ?_;replace e:=e.gr V;replace c:=c.grow V;refine Zp a (fun h a=>go ?_) fun h a=>go ?_
  ·cases a;exact ⟨O,O,c.below⟩
  refine Xp e ?_;obtain ⟨_,W,a⟩:=bZ a;refine Zh (Z3u W (U.ks c)) fun _ _ ⟨m,W⟩=>⟨_,m,?_⟩;replace W:=Ru R W;refine go ?_;replace e:=e.gr W;replace c:=c.grow W;refine Zp a (fun h a=>go ?_) fun h a=>go ?_
  ·cases a;exact ⟨O,O,c.below⟩
  refine Xp e ?_;refine go ?_;refine Z0 [1,49,50,1000000] (fun B v J=>∃ q F M,B=M.length∧b.2.2.2.2.drop F=M∧Zcg N b M F=some r∧St j (Zk col) q J∧Zi 27 1 q J i (Rt b w p x s y t E u)∧[51].map v=[.int .i64 F]) b.2.2.2.2.length ⟨_,0,_,O,O,a,c,e,O⟩ ?_;clear a;intro B v J S;obtain ⟨q,F,M,A,n,a,c,e,o⟩:=S;subst A;refine .lL [51] o ?_
  cases M with
  | nil=>
   have l:¬ ((F:Int)<(b.2.2.2.2.length:Int)):=by have:=aF.1 n;omega
   have d:=decide_eq_false l;rw [Zcg.eq_1] at a;refine go ?_;refine Yd (congrArg Value.bool d)<|go ?_;refine Xp e ?_;refine go ?_;refine Z0 [1,74,75,1000000] (fun B v I=>∃ M T K,B=K.length∧b.2.2.2.2.drop T=K∧Zch N b K=some r∧St j (Zk col) M I∧Zi 27 1 M I i (Rt b w p x s y t E u)∧[76].map v=[.int .i64 T]) b.2.2.2.2.length ⟨_,0,_,O,O,a,c,e,O⟩ ?_;clear a;intro B v I S;obtain ⟨M,T,K,A,n,a,c,e,o⟩:=S;subst A;refine .lL [76] o ?_
   cases K with
   | nil=>
    have l:¬ ((T:Int)<(b.2.2.2.2.length:Int)):=by have:=aF.1 n;omega
    have d:=decide_eq_false l;rw [Zch.eq_1] at a;refine go ?_;refine Yd (congrArg Value.bool d)<|go ?_;refine Xp e ?_;refine go ?_;refine Z0 [1,85,86,1000000] (fun B v K=>∃ C D P,B=P.length∧b.2.2.2.2.drop D=P∧Zd0 N b P D=some r∧St j (Zk col) C K∧Zi 27 1 C K i (Rt b w p x s y t E u)∧[87].map v=[.int .i64 D]) b.2.2.2.2.length ⟨_,0,_,O,O,a,c,e,O⟩ ?_;clear a;intro B v K S;obtain ⟨C,D,P,A,n,a,c,e,o⟩:=S;subst A;refine .lL [87] o ?_
    cases P with
    | nil=>
     have l:¬ ((D:Int)<(b.2.2.2.2.length:Int)):=by have:=aF.1 n;omega
     have d:=decide_eq_false l;rw [Zd0.eq_1] at a;refine go ?_;refine Yd (congrArg Value.bool d)<|go ?_;cases a;exact ⟨O,O,c.below⟩
    | cons P al=>
     obtain ⟨z,am,an⟩:=Yo n;have l:(D:Int)<(b.2.2.2.2.length:Int):=by omega
     have d:=decide_eq_true l;rw [Zd0.eq_2] at a;refine go ?_;refine Ye (congrArg Value.bool d)<|go ?_;refine lI z ((g.ks c).addr z) ?_;obtain ⟨_,X,Y⟩:=(g.ks c).atN z;obtain ⟨⟨_,_,rfl,ae⟩,_⟩:=X;refine lW Y.one<|go ?_;refine Ym (col:=C) [(0,1),(2,1),(3,0),(4,1),(5,1),(6,0),(7,1),(1,3),(8,3),(9,1)] (by kernel_rfl) (by kernel_rfl)<|xu O O (fun _=>V8 O) ?_;refine xF ⟨_,_,O⟩ ?_;refine xW (fun _ f=>((e.atN).nth (q:=2) O).gr (f.bl C)) ?_;refine xu O O (fun _=>Wu O) ?_;obtain ⟨_,Y,a⟩:=bZ a;refine xu O O (fun _=>Wd underlying23 sizeOf22 O O (Xo Y).1 (Xo Y).2.1 ((k.ks c).addr Y)) ?_;obtain ⟨_,Z,ar⟩:=(k.ks c).atN Y;obtain ⟨⟨_,_,rfl,_⟩,_⟩:=Z;refine xW (fun _ f=>ar.one.gr (f.bl C)) ?_;refine xu O O (fun _=>Q4 underlying22 O) ?_;refine xe O O ?_;intro _ i;have f:=i.bl C;obtain ⟨_,A,a⟩:=bZ a;refine Zh (Zuz 2 A (ae.gr f)) fun _ _ ⟨Q,_,_,m,j,E⟩=>⟨_,m,?_⟩;refine Zj<|Xb Q i j<|xe O O ?_;intro _ i;replace e:=(e.gr f).gr j;replace c:=(c.grow f).grow j;have f:=i.bl Q;obtain ⟨_,o,a⟩:=bZ a;refine Zh (Z4g o ((E.gr f).toSlF (Ze.pair (Ze.pair Ze.bool Ze.slice) Ze.slice))) fun _ _ ⟨m,J⟩=>⟨_,m,?_⟩;replace J:=Ru Q J;refine Zj<|Xb Q i J<|xu O O (fun _=>Zg2 _ O) ?_;refine Yf ?_;replace e:=(e.gr f).gr J;replace c:=(c.grow f).grow J;intro _ f;replace f:=f.bl Q;replace e:=e.gr f;replace c:=c.grow f;refine Zp a (fun h a=>go ?_) fun h a=>go ?_
     ·cases a;exact ⟨O,O,c.below⟩
     exact ⟨al.length,by simp,O,⟨_,_,_,O,am,a,c,e,(Yv (congrArg (Value.int .i64) (Yp (aG an (g.ks c).1.1))) O)⟩⟩
   | cons R ay=>
    obtain ⟨z,az,a0⟩:=Yo n;have l:(T:Int)<(b.2.2.2.2.length:Int):=by omega
    have d:=decide_eq_true l;rw [Zch.eq_2] at a;refine go ?_;refine Ye (congrArg Value.bool d)<|go ?_;refine lI z ((g.ks c).addr z) ?_;obtain ⟨_,a1,a2⟩:=(g.ks c).atN z;obtain ⟨⟨_,_,rfl,a3⟩,_⟩:=a1;refine lW a2.one<|go ?_;obtain ⟨_,B,a⟩:=bZ a;refine Zh (Zuz 3 B a3) fun _ _ ⟨D,_,_,m,Z,C⟩=>⟨_,m,?_⟩;obtain ⟨_,v,a⟩:=bZ a;refine Zh (Z5g v (C.toSlF (Ze.pair (Ze.pair Ze.bool Ze.slice) Ze.slice))) fun _ _ ⟨m,X⟩=>⟨_,m,?_⟩;replace X:=Ru D X;refine Zj ?_;replace e:=(e.gr Z).gr X;replace c:=(c.grow Z).grow X;refine Zp a (fun h a=>go ?_) fun h a=>go ?_
    ·cases a;exact ⟨O,O,c.below⟩
    exact ⟨ay.length,by simp,O,⟨_,_,_,O,az,a,c,e,(Yv (congrArg (Value.int .i64) (Yp (aG a0 (g.ks c).1.1))) O)⟩⟩
  | cons S a9=>
   obtain ⟨z,ba,bb⟩:=Yo n;have l:(F:Int)<(b.2.2.2.2.length:Int):=by omega
   have d:=decide_eq_true l;rw [Zcg.eq_2] at a;refine go ?_;refine Ye (congrArg Value.bool d)<|go ?_;refine lI z ((g.ks c).addr z) ?_;obtain ⟨_,bc,bd⟩:=(g.ks c).atN z;obtain ⟨⟨_,_,rfl,_⟩,_⟩:=bc;refine lW bd.one<|go ?_;refine Vp (col:=q) (by kernel_rfl) (by kernel_rfl)<|qv O (fun _ f=>Zz isAgg27 sizeOf27 (e.gr (f.bl q))) ?_;refine go ?_;obtain ⟨d,l,a⟩:=bZ a;refine qc (v:=(.int .i64 d)) O (fun _ f=>⟨_,_,Zg1 call71 O O,(Z4e l ((L.ks c).gr (f.bl q)) ((k.ks c).gr (f.bl q)) ((U.ks c).gr (f.bl q)) ((g.ks c).gr (f.bl q)):).mono fun _ _ m=>⟨m.1,f.trans (.of_below m.2)⟩⟩) ?_;refine qF ⟨_,_,O⟩ ?_;refine qW (fun _ f=>((e.atN).nth (q:=2) O).gr (f.bl q)) ?_;refine go ?_;obtain ⟨_,G,a⟩:=bZ a;refine qI G ((k.ks c).addr G) ?_;obtain ⟨_,bg,bh⟩:=(k.ks c).atN G;obtain ⟨⟨_,_,rfl,_⟩,_⟩:=bg;refine qW (fun _ f=>bh.one.gr (f.bl q)) ?_;refine go ?_;refine Wj ?_;intro _ f;replace f:=f.bl q;refine go ?_;replace e:=e.gr f;replace c:=c.grow f;refine Zp a (fun h a=>go ?_) fun h a=>go ?_
   ·cases a;exact ⟨O,O,c.below⟩
   refine Zp a (fun h a=>go ?_) fun h a=>go ?_
   ·cases a;exact ⟨O,O,c.below⟩
   exact ⟨a9.length,by simp,O,⟨_,_,_,O,ba,a,c,e,(Yv (congrArg (Value.int .i64) (Yp (aG bb (g.ks c).1.1))) O)⟩⟩
 refine Wv<|Xp e ?_;refine go ?_;refine X9 a (fun I a=>go ?_) fun I a=>go ?_
 ·refine lV (.bool true) (Xw (congrArg Value.bool I) O)<|Td O<|lP 28 O O<|lP 28 O O<|lP 28 O O<|lP 28 O O<|lP 28 O O<|lV (.bool true) (Xw O O)<|Zj ?_;exact ⟨O,_,_,a,c,e,O⟩
 refine Xt ⟨_,_,O⟩ ?_;refine go ?_;refine lW ((e.atN).nth (q:=3) O)<|go ?_;refine lV (.bool (!decide ((b.2.2.2.1.length:Int)=(b.2.1.length:Int)))) (X0 (congrArg Value.bool I) O)<|Td O ?_;refine X9 a (fun H a=>go ?_) fun H a=>go ?_
 ·refine lV (.bool true) (Xw (congrArg Value.bool H) O)<|Zj ?_;exact ⟨O,_,_,a,c,e,O⟩
 refine Xt ⟨_,_,O⟩ ?_;refine go ?_;refine lW ((e.atN).nth (q:=4) O)<|go ?_;refine lV (.bool (!decide ((b.2.2.2.2.length:Int)=(b.2.1.length:Int)))) (X0 (congrArg Value.bool H) O)<|Zj ?_;exact ⟨O,_,_,a,c,e,O⟩
def Zgo (N:Nat) (b:List ByteArray) (c:ByteArray):Nat→Int→Option Int
  | 0,_=>none
  | d+1,a=>if (decide (a<(b.length:Int)))=true then ((Zn b a).bind fun e=>if (decide (e=c))=true then (some a) else ((Zgo N b c d) (i64.wrap (a+1)))) else (some (-1))
def Zmk (N:Nat) (a:List ByteArray) (b:ByteArray):Option Int:=
  Zgo N a b N 0
theorem Zvc {N j:Nat} {i:Option Addr} {col:Zg} {b:World} {c:R4} {d:ByteArray} {r:Int} (a:Zmk N c d=some r) (e:Sl Zc.str col b i j c):
    Calls prog 52 #[.slice i c.length j,.string d] b (W8 b r):=by
 refine Xk 4 (m:=19) func52 O O O O O ?_;rw [Zmk.eq_1] at a;have f:=St.start col b;refine go ?_;refine Z0 [0,1,1000000] (fun o p q=>∃ s l g,g=o∧Zgo N c d g l=some r∧St b (Zk col) s q∧[5].map p=[.int .i64 l]) N ⟨_,0,_,O,a,f,O⟩ ?_;clear a;intro o p q t;obtain ⟨s,l,g,m,a,f,n⟩:=t;subst m;refine .lL [5] n ?_;replace e:=e.k0
 cases g with
 | zero=>rw [Zgo.eq_1] at a;cases a
 | succ g=>
  rw [Zgo.eq_2] at a;refine go ?_;refine Zp a (fun h a=>go ?_) fun h a=>go ?_
  ·obtain ⟨_,k,a⟩:=bZ a;refine lI k ((e.ks f).addr k)<|lW ((e.ks f).atStr k) ?_;refine go ?_;refine Zp a (fun h a=>go ?_) fun h a=>go ?_
   ·cases a;exact ⟨O,O,f.below⟩
   exact ⟨g,by omega,O,⟨_,_,_,O,a,f,O⟩⟩
  cases a;exact ⟨O,O,f.below⟩
def Zgq (N:Nat) (b:R1):Nat→R2→Int→Option R2
  | 0,_,_=>none
  | e+1,a,c=>if (decide (c<(b.2.2.1.length:Int)))=true then ((Zn b.2.2.1 c).bind fun d=>Z1 ((a.length+[(d.length:Int)].length) * 8≤140737488355328∧a.length+[(d.length:Int)].length≤maxLen) ((Zgq N b e) (a++[(d.length:Int)]) (i64.wrap (c+1)))) else (some a)
def Zgp (N:Nat) (a:R1):Option R2:=
  Zgq N a N ([]:List Int) 0
theorem Z47 {N p q s t:Nat} {u v w x:Option Addr} {col:Zg} {c:World} {a:R1} {r:R2} (l:Nat) (b:Zgp N a=some r) (P:Sl Zc.str col c u p a.2.1) (i:Sl rV col c v q a.2.2.1) (Q:Sl rP col c w s a.2.2.2.1) (R:Sl (Zc.slice rQ) col c x t a.2.2.2.2):
    Calls prog 54 #[(.agg (Rt a u p v q w s x t))] c (Vl .i64 3 l col c r):=by
 refine Xk 2 (m:=22) func54 O O O O O ?_;rw [Zgp.eq_1] at b;have d:=St.start col c;refine go ?_;refine Xj (col:=(Zk col)) 1 O fun S _ _ G g=>go ?_;replace d:=d.grow G;refine Z0 [1,1000000] (fun E F h=>∃ f o y j z e,e=E∧Zgq N a e j z=some r∧St c (Zk col) f h∧Zi 27 1 f h S (Rt a u p v q w s x t)∧Zb rI 3 2 f h o y j∧[3,4].map F=[.slice o j.length y,.int .i64 z]) N ⟨_,none,0,_,0,_,O,b,d,g,Zb.nil,O⟩ ?_;clear b;intro E F h H;obtain ⟨f,o,y,j,z,e,B,b,d,g,k,C⟩:=H;subst B;refine .lL [3,4] C ?_;replace i:=i.k0
 cases e with
 | zero=>rw [Zgq.eq_1] at b;cases b
 | succ e=>
  rw [Zgq.eq_2] at b;refine go ?_;refine Xp g ?_;refine go ?_;refine Zp b (fun A b=>go ?_) fun A b=>go ?_
  ·refine Xp g<|Xy O ?_;obtain ⟨T,m,b⟩:=bZ b;refine lI m ((i.ks d).addr m) ?_;obtain ⟨_,I,K⟩:=(i.ks d).atN m;obtain ⟨⟨_,_,rfl,_⟩,_⟩:=I;refine lW K.one<|go ?_;refine Vn (col:=f) [(T.length:Int)] 3 ?_;intro _ _ _ n J;obtain ⟨L,b⟩:=Z5 b;replace k:=k.gr n;refine Vw k (J.srcN (NB.int (k:=.i64))) L fun _ _ _ _ D M=>go ?_;replace d:=(d.grow n).kpp D;exact ⟨e,by omega,O,⟨_,_,_,_,_,_,O,b,d,(g.gr n).kpp D,M,O⟩⟩
  cases b;exact ⟨O,_,_,_,O,d.fin (cm [(2,l)]),d.fo k⟩
def Zjz (a:Int) (kk_L2:(Int→Int→Option Int)) (b:Int):Option Int:=
  kk_L2 b (i64.wrap (a+1))
def Zc0 (N:Nat) (a c:List Int):Nat→Int→Int→Option Int
  | 0,_,_=>none
  | f+1,d,b=>if (decide (b<(a.length:Int)))=true then ((Zn a b).bind fun g=>(Zn c g).bind fun e=>Z1 (e≠0) (if (decide ((i64.wrap (aM 1099511627776 e))<d))=true then (Zjz b (Zc0 N a c f) 1099511627776) else (Zjz b (Zc0 N a c f) (i64.wrap (d * e))))) else (some d)
def Zgn (N:Nat) (a b:List Int):Nat→Int→Option Int
  | 0,_=>none
  | d+1,c=>if (decide (c<(a.length:Int)))=true then ((Zn a c).bind fun e=>(Zn b e).bind fun f=>if (decide (f<1))=true then (some 0) else ((Zgn N a b d) (i64.wrap (c+1)))) else (Zc0 N a b N 1 0)
def Zmj (N:Nat) (a b:List Int):Option Int:=
  Zgn N a b N 0
theorem Z44 {N u v:Nat} {q s:Option Addr} {col:Zg} {e:World} {c d:R2} {r:Int} (a:Zmj N c d=some r) (f:Sl rI col e q u c) (g:Sl rI col e s v d):
    Calls prog 55 #[.slice q c.length u,.slice s d.length v] e (W8 e r):=by
 refine Xk 4 (m:=48) func55 O O O O O ?_;rw [Zmj.eq_1] at a;have b:=St.start col e;refine go ?_;refine Z0 [0,1,1000000] (fun p j E=>∃ F z n,n=p∧Zgn N c d n z=some r∧St e (Zk col) F E∧[5].map j=[.int .i64 z]) N ⟨_,0,_,O,a,b,O⟩ ?_;clear a;intro p j E B;obtain ⟨F,z,n,o,a,b,i⟩:=B;subst o;refine .lL [5] i ?_;replace f:=f.k0;replace g:=g.k0
 cases n with
 | zero=>rw [Zgn.eq_1] at a;cases a
 | succ n=>
  rw [Zgn.eq_2] at a;refine go ?_;refine Zp a (fun h a=>go ?_) fun h a=>go ?_
  ·obtain ⟨_,w,a⟩:=bZ a;refine lI w ((f.ks b).addr w)<|lW ((f.ks b).atInt w) ?_;obtain ⟨_,x,a⟩:=bZ a;refine lI x ((g.ks b).addr x)<|lW ((g.ks b).atInt x) ?_;refine go ?_;refine Zp a (fun h a=>go ?_) fun h a=>go ?_
   ·cases a;exact ⟨O,O,b.below⟩
   exact ⟨n,by omega,O,⟨_,_,_,O,a,b,O⟩⟩
  refine Z0 [0,1,1000000] (fun p j G=>∃ H A t k,k=p∧Zc0 N c d k A t=some r∧St e (Zk col) H G∧[6,7].map j=[.int .i64 A,.int .i64 t]) N ⟨_,1,0,_,O,a,b,O⟩ ?_;clear a;intro p j G B;obtain ⟨H,A,t,k,o,a,b,i⟩:=B;subst o;refine .lL [6,7] i ?_
  cases k with
  | zero=>rw [Zc0.eq_1] at a;cases a
  | succ k=>
   rw [Zc0.eq_2] at a;refine go ?_;refine Zp a (fun h a=>?_) fun h a=>go ?_
   ·refine X1<|Zw ?_;refine Wp.cutK [0,1,7,1000000] (fun j C=>∃ D y,Zjz t (Zc0 N c d k) y=some r∧St e (Zk col) D C∧[6].map j=[.int .i64 y]) ?_ ?_
    ·intro j C J;obtain ⟨D,y,a,b,i⟩:=J;rw [Zjz.eq_1] at a;refine .lL [6] i<|go ?_;exact ⟨k,by omega,O,⟨_,_,_,_,O,a,b,O⟩⟩
    refine go ?_;obtain ⟨_,m,a⟩:=bZ a;refine lI m ((f.ks b).addr m)<|lW ((f.ks b).atInt m) ?_;obtain ⟨I,l,a⟩:=bZ a;refine lI l ((g.ks b).addr l)<|lW ((g.ks b).atInt l) ?_;obtain ⟨K,a⟩:=Z5 a;refine lV (.int .i64 (i64.wrap (aM 1099511627776 I))) (Vm 1099511627776 I O O K)<|go ?_;refine Zp a (fun h a=>go ?_) fun h a=>go ?_
    ·exact ⟨O,_,1099511627776,a,b,O⟩
    refine lI m ((f.ks b).addr m)<|lW ((f.ks b).atInt m)<|lI l ((g.ks b).addr l)<|lW ((g.ks b).atInt l) ?_;refine go ?_;exact ⟨O,_,_,a,b,O⟩
   cases a;exact ⟨O,O,b.below⟩
def Zmm (a:Bool):Option Bool:=
  some a
def Zml (b a:Int):Option Bool:=
  if (decide (0<a))=true then (Z1 (a≠0) (Zmm (decide ((i64.wrap (aM 65536 a))<b)))) else (Zmm false)
theorem Z46 {col:Zg} {d:World} {c a:Int} {r:Bool} (b:Zml c a=some r):
    Calls prog 56 #[.int .i64 c,.int .i64 a] d (V6 d r):=by
 refine Xk 4 (m:=13) func56 O O O O O ?_;rw [Zml.eq_1] at b;have e:=St.start col d;refine Zw<|Wv<|Zht O<|Zj<|Zw ?_;refine Wp.cutK [1000000] (fun i j=>∃ k f,Zmm f=some r∧St d (Zk col) k j∧[4].map i=[.bool f]) ?_ ?_
 ·intro i j l;obtain ⟨k,f,b,e,h⟩:=l;rw [Zmm.eq_1] at b;refine .lL [4] h<|Y5 ?_;cases b;exact ⟨O,O,e.below⟩
 refine go ?_;refine X9 b (fun g b=>go ?_) fun g b=>go ?_
 ·obtain ⟨m,b⟩:=Z5 b;refine lV (.int .i64 (i64.wrap (aM 65536 a))) (Vm 65536 a O O m)<|go ?_;refine lV (.bool (decide ((i64.wrap (aM 65536 a))<c))) (Xw (congrArg Value.bool g) O)<|go ?_;exact ⟨O,_,_,b,e,O⟩
 refine lV (.bool false) (X0 (congrArg Value.bool g) O)<|go ?_;exact ⟨O,_,_,b,e,O⟩
def Zj0 (N:Nat):Option R0:=
  (Zct N 1 1).bind fun a=>some ((a.1.1,a.1.2),a.2)
theorem Zvd {N:Nat} {col:Zg} {b:World} {r:R0} (d c2:Nat) (a:Zj0 N=some r):
    Calls prog 110 #[] b (V7 119 d c2 col b r):=by
 refine Yb (m:=2) func110 O O O ?_;rw [Zj0.eq_1] at a;have c:=St.start col b;refine go ?_;refine Xc (col:=(Zk col)) #[.bool false,(nI),(nI)] 1 zeroValue42 fun _ _ j n l=>go ?_;obtain ⟨_,h,a⟩:=bZ a;refine Zh (Zvb (col:=j) 2 3 h) fun _ _ ⟨_,_,_,_,_,f,g,m,o⟩=>⟨_,f,?_⟩;refine Zs (l.gr g) fun _ e i k=>go ?_;cases a;replace c:=((c.grow n).grow g).kp e i;exact ⟨O,_,ra k.atN,_,_,_,_,_,O,c.fin (cm [(2,d),(3,c2)]),c.fo (m.kp e),c.fo (o.kp e)⟩
def Zj2 (a:Bool):Option Bool:=
  some a
def Zj1 (N:Nat) (a:R0):Option Bool:=
  (Zjr N ((a.1.1,a.1.2),a.2)).bind fun c=>if (decide (c<0))=true then (Zj2 true) else ((Zj0 N).bind fun b=>(Zeh N ((a.1.1,a.1.2),a.2) ((b.1.1,b.1.2),b.2)).bind fun d=>Zj2 (decide (0<d)))
theorem Z45 {N s t:Nat} {u w:Option Addr} {col:Zg} {e:World} {g:R0} {r:Bool} (b:Zj1 N g=some r) (n:Sl rU col e u s g.1.2) (o:Sl rU col e w t g.2):
    Calls prog 57 #[(.agg #[.bool g.1.1,.slice u g.1.2.length s,.slice w g.2.length t])] e (V6 e r):=by
 refine Xk 2 (m:=12) func57 O O O O O ?_;rw [Zj1.eq_1] at b;have c:=St.start col e;refine go ?_;refine Xj (col:=(Zk col)) 1 O fun _ _ i G p=>Zht O<|Zj<|Zw ?_;replace n:=n.k0;replace o:=o.k0;replace c:=c.grow G;refine Wp.cutK [1000000] (fun y z=>∃ A q,Zj2 q=some r∧St e (Zk col) A z∧[2].map y=[.bool q]) ?_ ?_
 ·intro y z C;obtain ⟨A,q,b,c,x⟩:=C;rw [Zj2.eq_1] at b;refine .lL [2] x<|Y5 ?_;cases b;exact ⟨O,O,c.below⟩
 refine Ym (col:=i) [(0,0),(1,3),(2,1),(3,1),(4,0),(5,3),(6,3),(7,1),(8,1),(9,1)] (by kernel_rfl) (by kernel_rfl)<|xv O O (fun _ d=>Zz isAgg42 sizeOf42 (p.gr (d.bl i))) ?_;refine xe O O ?_;intro _ a;have d:=a.bl i;obtain ⟨j,D,b⟩:=bZ b;replace c:=c.grow d;refine Zh (Z4v D (n.ks c) (o.ks c)) fun _ _ ⟨f,k⟩=>⟨_,f,?_⟩;replace k:=Ru i k;refine Zj<|Xb i a k<|xu O O (fun _=>Zm8 _ _ O O) ?_;refine xu O O (fun _=>Zm9 O) ?_;replace p:=(p.gr d).gr k;replace c:=c.grow k;refine X9 b (fun h b=>?_) fun h b=>?_
 ·refine V1 (b:=decide (j<0)) 6 O O O O O (by rw [h];rfl)<|V1 (b:=decide (j<0)) 6 O O O O O (by rw [h];rfl)<|V1 (b:=decide (j<0)) 6 O O O O O (by rw [h];rfl)<|V1 (b:=decide (j<0)) 6 O O O O O (by rw [h];rfl)<|xu (v:=(.bool true)) O O (fun _=>Xw (congrArg Value.bool h) O) ?_;refine xu O O (fun _=>Zbv O) ?_;refine Yf ?_;intro _ d;replace d:=d.bl i;replace c:=c.grow d;exact ⟨O,_,_,b,c,O⟩
 refine Zg8 (v:=(.agg #[.bool g.1.1,.slice u g.1.2.length s,.slice w g.2.length t])) (b:=decide (j<0)) 6 O O O O O (by rw [h];rfl) (fun _ d=>Xi isAgg42 sizeOf42 O O (p.atN.gr (d.bl i))) ?_;refine xe O O ?_;intro _ a;have d:=a.bl i;refine go ?_;obtain ⟨_,F,b⟩:=bZ b;refine lc O O (Sv call110) (Zvd (col:=i) 6 7 F:) fun _ _ ⟨l,_,_,_,_,f,B,H,I⟩=>⟨_,f,?_⟩;refine Zj<|Xb l a B<|xe O O ?_;intro _ a;replace c:=(c.grow d).grow B;have d:=a.bl l;refine go ?_;obtain ⟨v,E,b⟩:=bZ b;replace c:=c.grow d;refine Zh (Zq4 E (((n.ks c).froz 6).froz 7) (((o.ks c).froz 6).froz 7) (((H.gr d).toSlF (Ze.int .u32)).froz 7) (((I.gr d).froz 6).toSlF (Ze.int .u32))) fun _ _ ⟨f,m⟩=>⟨_,f,?_⟩;replace m:=Ru l m;refine Zj<|Xb l a m<|Zkm (v:=(.bool (decide (0<v)))) (b:=decide (j<0)) 6 O O O O O (by rw [h];rfl) (fun _=>Zpy v 0 O O) ?_;refine xu (v:=(.bool (decide (0<v)))) O O (fun _=>X0 (congrArg Value.bool h) O) ?_;refine xu O O (fun _=>Zbv O) ?_;refine Yf ?_;intro _ d;exact ⟨O,_,_,b,(c.grow m).grow (d.bl l),O⟩
def Zel (N:Nat) (c:R6) (b:Int):Nat→Int→Option Bool
  | 0,_=>none
  | f+1,a=>if (decide (a<(c.length:Int)))=true then (Z1 ((0:Int)≤a∧a≤(i64.wrap (a+b))∧(i64.wrap (a+b))≤(c.length:Int)) ((Zmi N ((c.take (aA (i64.wrap (a+b)))).drop (aA a))).bind fun d=>(Zj0 N).bind fun e=>(Zeh N ((d.1.1,d.1.2),d.2) ((e.1.1,e.1.2),e.2)).bind fun g=>if (!decide (g=0))=true then (some false) else ((Zel N c b f) (i64.wrap (a+b))))) else (some true)
def Zo5 (N:Nat) (a:R6) (b:Int):Option Bool:=
  Zel N a b N 0
theorem Z48 {N g:Nat} {d:Option Addr} {col:Zg} {e:World} {i:R6} {c:Int} {r:Bool} (a:Zo5 N i c=some r) (j:Sl rQ col e d g i):
    Calls prog 58 #[.slice d i.length g,.int .i64 c] e (V6 e r):=by
 refine Xk 4 (m:=23) func58 O O O O O ?_;rw [Zo5.eq_1] at a;have h:=St.start col e;refine go ?_;refine Z0 [0,1,1000000] (fun n t u=>∃ v b k,k=n∧Zel N i c k b=some r∧St e (Zk col) v u∧[5].map t=[.int .i64 b]) N ⟨_,0,_,O,a,h,O⟩ ?_;clear a;intro n t u y;obtain ⟨v,b,k,q,a,h,s⟩:=y;subst q;refine .lL [5] s ?_;replace j:=j.k0
 cases k with
 | zero=>rw [Zel.eq_1] at a;cases a
 | succ k=>
  rw [Zel.eq_2] at a;refine go ?_;refine Zp a (fun l a=>go ?_) fun l a=>go ?_
  ·obtain ⟨m,a⟩:=Z5 a;have I:=((j.ks h).take (aA (i64.wrap (b+c)))).drop (sz:=3) O (aA b);refine lv (v:=.slice (if g=(aA b) then d else d.map (·.add ((aA b) * 3))) ((aA (i64.wrap (b+c))) - (aA b)) (g - (aA b))) O O (Z0a underlying58 sizeOf42 O O O m.1 m.2.1 (by have:=(j.ks h).1.2;have:=m.2.2;omega)) ?_;generalize (if g=(aA b) then d else d.map (·.add ((aA b) * 3)))=w at *;refine .ld (d:=18) (v:=(.slice w (((i.take (aA (i64.wrap (b+c)))).drop (aA b)).length) (g - (aA b)))) (congrArg (fun n=>Value.slice w n (g - (aA b))) (show (aA (i64.wrap (b+c))) - (aA b)=((i.take (aA (i64.wrap (b+c)))).drop (aA b)).length by rw [cH,nK];have:=m.2;omega)) ?_;obtain ⟨_,z,a⟩:=bZ a;refine Zh (Z4x 1 2 z I) fun _ _ ⟨B,_,_,_,_,f,H,D,F⟩=>⟨_,f,?_⟩;obtain ⟨_,A,a⟩:=bZ a;refine lc O O (Sv call110) (Zvd (col:=B) 3 4 A:) fun _ _ ⟨G,_,_,_,_,f,p,C,E⟩=>⟨_,f,?_⟩;obtain ⟨_,x,a⟩:=bZ a;refine Zh (Zq4 x (((((D.gr p).toSlF (Ze.int .u32)).froz 2).froz 3).froz 4) (((((F.gr p).froz 1).toSlF (Ze.int .u32)).froz 3).froz 4) ((((C.froz 1).froz 2).toSlF (Ze.int .u32)).froz 4) ((((E.froz 1).froz 2).froz 3).toSlF (Ze.int .u32))) fun _ _ ⟨f,o⟩=>⟨_,f,?_⟩;replace o:=Ru G o;refine go ?_;replace h:=((h.grow H).grow p).grow o;refine Zp a (fun l a=>go ?_) fun l a=>go ?_
   ·cases a;exact ⟨O,O,h.below⟩
   exact ⟨k,by omega,O,⟨_,_,_,O,a,h,O⟩⟩
  cases a;exact ⟨O,O,h.below⟩
def Zjy (a:Int) (kk_L2:(Bool→Int→Option Int)) (b:Bool):Option Int:=
  kk_L2 b (i64.wrap (a+1))
def Zcx (N:Nat) (d:R1) (b:Int) (kk_L1:(Int→Option Int)):Nat→Bool→Int→Option Int
  | 0,_,_=>none
  | e+1,f,a=>(Zn d.2.2.1 b).bind fun c=>if (decide (a<(c.length:Int)))=true then (if f=true then (Zjy a (Zcx N d b kk_L1 e) true) else ((Zn c a).bind fun g=>(Zmk N c g).bind fun i=>Zjy a (Zcx N d b kk_L1 e) (decide (i<a)))) else (if f=true then (some 40) else (if (decide ((c.length:Int)=0))=true then (some 43) else (kk_L1 (i64.wrap (b+1)))))
def Zgm (N:Nat) (d:R1) (a:Int) (kk_L4:(Int→Option Int)):Nat→Int→Option Int
  | 0,_=>none
  | f+1,b=>(Zn d.2.2.2.2 a).bind fun e=>if (decide (b<(e.length:Int)))=true then ((Zn e b).bind fun c=>(Zj1 N ((c.1.1,c.1.2),c.2)).bind fun g=>if g=true then (some 45) else ((Zgm N d a kk_L4 f) (i64.wrap (b+1)))) else (kk_L4 (i64.wrap (a+1)))
def Zcz (N:Nat) (b:R1) (c:List Int):Nat→Int→Option Int
  | 0,_=>none
  | d+1,a=>if (decide (a<(b.2.1.length:Int)))=true then ((Zn b.2.2.2.2 a).bind fun e=>(Zn c a).bind fun f=>(Zo5 N e f).bind fun g=>if (!g)=true then (some 46) else ((Zcz N b c d) (i64.wrap (a+1)))) else (some 0)
def Zbp (N:Nat) (a:R1) (b:List Int):Nat→Int→Option Int
  | 0,_=>none
  | d+1,c=>if (decide (c<(a.2.1.length:Int)))=true then (Zgm N a c (Zbp N a b d) N 0) else (Zcz N a b N 0)
def Zcy (N:Nat) (a:R1) (c:List Int):Nat→Int→Option Int
  | 0,_=>none
  | f+1,b=>if (decide (b<(a.2.1.length:Int)))=true then ((Zn a.2.2.2.1 b).bind fun g=>(Zmj N g c).bind fun d=>(Zn c b).bind fun e=>(Zml d e).bind fun i=>if i=true then (some 4) else ((Zn a.2.2.2.2 b).bind fun j=>if (!decide ((j.length:Int)=(i64.wrap (d * e))))=true then (some 60) else ((Zcy N a c f) (i64.wrap (b+1))))) else (Zbp N a c N 0)
def Q0 (N:Nat) (a:R1):Nat→Int→Option Int
  | 0,_=>none
  | d+1,b=>if (decide (b<(a.2.1.length:Int)))=true then ((Zn a.2.1 b).bind fun e=>(Zmk N a.2.1 e).bind fun f=>Zcx N a b (Q0 N a d) N (decide (f<b)) 0) else ((Zar N a.2.2.2.1).bind fun c=>if (!decide (c=0))=true then (some c) else ((Zgp N (a.1,a.2.1,a.2.2.1,a.2.2.2.1,a.2.2.2.2)).bind fun g=>Zcy N a g N 0))
def Zek (N:Nat) (a:R1) (b:Bool):Option Int:=
  if b=true then (some 60) else (if (decide (1024<(a.2.1.length:Int)))=true then (some 4) else (Q0 N a N 0))
def Zgl (N:Nat) (a:R1):Option Int:=
  if (!decide ((a.2.2.1.length:Int)=(a.2.1.length:Int)))=true then (Zek N a true) else (if (!decide ((a.2.2.2.1.length:Int)=(a.2.1.length:Int)))=true then (Zek N a true) else (Zek N a (!decide ((a.2.2.2.2.length:Int)=(a.2.1.length:Int)))))
theorem Z43 {N t u w x:Nat} {y D B C:Option Addr} {col:Zg} {i:World} {b:R1} {r:Int} (a:Zgl N b=some r) (X:Sl Zc.str col i y t b.2.1) (l:Sl rV col i D u b.2.2.1) (K:Sl rP col i B w b.2.2.2.1) (o:Sl (Zc.slice rQ) col i C x b.2.2.2.2):
    Calls prog 21 #[(.agg (Rt b y t D u B w C x))] i (W8 i r):=by
 refine Xk 2 (m:=175) func21 O O O O O ?_;rw [Zgl.eq_1] at a;have c:=St.start col i;refine go ?_;refine Xj (col:=(Zk col)) 1 O fun H _ _ Y e=>go ?_;refine Xp e<|lV _ (Q4 underlying22 O)<|Yr O<|Zj<|Zw<|Zw ?_;replace X:=X.k0;replace l:=l.k0;replace K:=K.k0;replace o:=o.k0;replace c:=c.grow Y;refine Wp.cutK [1,3,1000000] (fun j L=>∃ M Y,Zek N b Y=some r∧St i (Zk col) M L∧Zi 27 1 M L H (Rt b y t D u B w C x)∧[38].map j=[.bool Y]) ?_ ?_
 ·intro j L hJ;obtain ⟨M,Y,a,c,e,h⟩:=hJ;rw [Zek.eq_1] at a;refine .lL [38] h ?_;refine Zp a (fun f a=>go ?_) fun f a=>go ?_
  ·cases a;exact ⟨O,O,c.below⟩
  refine Zp a (fun f a=>go ?_) fun f a=>go ?_
  ·cases a;exact ⟨O,O,c.below⟩
  refine Z0 [1,3,1000000] (fun m j Y=>∃ A a8 E,E=m∧Q0 N b E a8=some r∧St i (Zk col) A Y∧Zi 27 1 A Y H (Rt b y t D u B w C x)∧[4].map j=[.int .i64 a8]) N ⟨_,0,_,O,a,c,e,O⟩ ?_;clear a;intro m j Y v;obtain ⟨A,a8,E,k,a,c,e,h⟩:=v;subst k;refine .lL [4] h ?_
  cases E with
  | zero=>rw [Q0.eq_1] at a;cases a
  | succ E=>
   rw [Q0.eq_2] at a;refine go ?_;refine Zp a (fun f a=>go ?_) fun f a=>go ?_
   ·refine Vp (col:=A) (by kernel_rfl) (by kernel_rfl)<|qF ⟨_,_,O⟩ ?_;refine qW (fun _ d=>((e.atN).nth (q:=1) O).gr (d.bl A)) ?_;refine qF ⟨_,_,O⟩ ?_;refine qW (fun _ d=>((e.atN).nth (q:=1) O).gr (d.bl A)) ?_;refine go ?_;obtain ⟨_,I,a⟩:=bZ a;refine qI I ((X.ks c).addr I)<|qW (fun _ d=>((X.ks c).gr (d.bl A)).atStr I) ?_;obtain ⟨I,L,a⟩:=bZ a;refine qc (v:=(.int .i64 I)) O (fun _ d=>⟨_,_,Zg1 call52 O O,(Zvc L ((X.ks c).gr (d.bl A)):).mono fun _ _ G=>⟨G.1,d.trans (.of_below G.2)⟩⟩) ?_;refine go ?_;refine Wj ?_;intro _ d;replace d:=d.bl A;refine go ?_;replace e:=e.gr d;replace c:=c.grow d;refine Z0 [1,3,4,1000000] (fun m j L=>∃ s M bl Q,Q=m∧Zcx N b a8 (Q0 N b E) Q M bl=some r∧St i (Zk col) s L∧Zi 27 1 s L H (Rt b y t D u B w C x)∧[5,6].map j=[.bool M,.int .i64 bl]) N ⟨_,_,0,_,O,a,c,e,O⟩ ?_;clear a;intro m j L v;obtain ⟨s,M,bl,Q,k,a,c,e,h⟩:=v;subst k;refine .lL [5,6] h ?_
    cases Q with
    | zero=>rw [Zcx.eq_1] at a;cases a
    | succ Q=>
     rw [Zcx.eq_2] at a;refine go ?_;refine Xp e<|Xy O ?_;obtain ⟨_,q,a⟩:=bZ a;refine lI q ((l.ks c).addr q) ?_;obtain ⟨_,J,Z⟩:=(l.ks c).atN q;obtain ⟨⟨_,_,rfl,_⟩,_⟩:=J;refine lW Z.one<|go ?_;refine Zp a (fun f a=>?_) fun f a=>go ?_
     ·refine X1<|Zw ?_;refine Wp.cutK [1,3,4,6,1000000] (fun j Z=>∃ I J,Zjy bl (Zcx N b a8 (Q0 N b E) Q) J=some r∧St i (Zk col) I Z∧Zi 27 1 I Z H (Rt b y t D u B w C x)∧[5].map j=[.bool J]) ?_ ?_
      ·intro j Z hJ;obtain ⟨I,J,a,c,e,h⟩:=hJ;rw [Zjy.eq_1] at a;refine .lL [5] h<|go ?_;exact ⟨Q,by omega,O,⟨_,_,_,_,O,a,c,e,O⟩⟩
      refine Zg7<|Vp (col:=s) (by kernel_rfl) (by kernel_rfl)<|go ?_;refine X9 a (fun aq a=>go ?_) fun aq a=>go ?_
      ·refine qv (v:=(.bool true)) O (fun _ d=>Xw (congrArg Value.bool aq) O) ?_;refine go ?_;refine Wj ?_;intro _ d;replace d:=d.bl s;replace e:=e.gr d;replace c:=c.grow d;exact ⟨O,_,_,a,c,e,O⟩
      refine qF ⟨_,_,O⟩ ?_;refine go ?_;refine qW (fun _ d=>((e.atN).nth (q:=2) O).gr (d.bl s)) ?_;refine go ?_;refine qI q ((l.ks c).addr q) ?_;refine go ?_;obtain ⟨_,bf,bg⟩:=(l.ks c).atN q;obtain ⟨⟨_,_,rfl,bh⟩,_⟩:=bf;refine qW (fun _ d=>bg.one.gr (d.bl s)) ?_;refine go ?_;refine qF ⟨_,_,O⟩ ?_;refine go ?_;refine qW (fun _ d=>((e.atN).nth (q:=2) O).gr (d.bl s)) ?_;refine go ?_;refine qI q ((l.ks c).addr q) ?_;refine go ?_;obtain ⟨_,bi,bj⟩:=(l.ks c).atN q;obtain ⟨⟨_,_,rfl,a5⟩,_⟩:=bi;refine qW (fun _ d=>bj.one.gr (d.bl s)) ?_;refine go ?_;obtain ⟨_,J,a⟩:=bZ a;refine qI J (a5.addr J) ?_;refine go ?_;refine qW (fun _ d=>(a5.gr (d.bl s)).atStr J) ?_;refine go ?_;obtain ⟨Q,M,a⟩:=bZ a;refine qc (v:=(.int .i64 Q)) O (fun _ d=>⟨_,_,Zg1 call52 O O,(Zvc M (bh.gr (d.bl s)):).mono fun _ _ G=>⟨G.1,d.trans (.of_below G.2)⟩⟩) ?_;refine go ?_;refine qv (v:=(.bool (decide (Q<bl)))) O (fun _ d=>X0 (congrArg Value.bool aq) O) ?_;refine go ?_;refine Wj ?_;intro _ d;replace d:=d.bl s;replace e:=e.gr d;replace c:=c.grow d;exact ⟨O,_,_,a,c,e,O⟩
     refine Zp a (fun f a=>go ?_) fun f a=>go ?_
     ·cases a;exact ⟨O,O,c.below⟩
     refine Xp e<|Xy O<|lI q ((l.ks c).addr q) ?_;obtain ⟨_,bm,bn⟩:=(l.ks c).atN q;obtain ⟨⟨_,_,rfl,_⟩,_⟩:=bm;refine lW bn.one<|go ?_;refine Zp a (fun f a=>go ?_) fun f a=>go ?_
     ·cases a;exact ⟨O,O,c.below⟩
     exact ⟨E,by omega,O,⟨_,_,_,O,a,c,e,O⟩⟩
   refine Xp e ?_;obtain ⟨_,s,a⟩:=bZ a;refine Zh (Z4z s (K.ks c)) fun _ _ ⟨n,I⟩=>⟨_,n,?_⟩;replace I:=Ru A I;refine go ?_;replace e:=e.gr I;replace c:=c.grow I;refine Zp a (fun f a=>go ?_) fun f a=>go ?_
   ·cases a;exact ⟨O,O,c.below⟩
   refine lV _ (Zz isAgg27 sizeOf27 e) ?_;obtain ⟨F,E,a⟩:=bZ a;refine Zh (Z47 2 E (X.ks c) (l.ks c) (K.ks c) (o.ks c)) ?_;rintro _ c7 ⟨c8,ab,ac,rfl,a7,g⟩;refine ⟨_,O,go ?_⟩;replace e:=e.gr a7;replace c:=c.grow a7;refine Z0 [1,3,8,1000000] (fun m j q=>∃ p A W,W=m∧Zcy N b F W A=some r∧St i (Zk col) p q∧Zi 27 1 p q H (Rt b y t D u B w C x)∧Zb rI 3 2 p q ab ac F∧[9].map j=[.int .i64 A]) N ⟨_,0,_,O,a,c,e,g,O⟩ ?_;clear a;intro m j q v;obtain ⟨p,A,W,k,a,c,e,g,h⟩:=v;subst k;refine .lL [9] h ?_
   cases W with
   | zero=>rw [Zcy.eq_1] at a;cases a
   | succ W=>
    rw [Zcy.eq_2] at a;refine go ?_;refine Zp a (fun f a=>go ?_) fun f a=>go ?_
    ·refine Xp e<|Xy O ?_;obtain ⟨_,q,a⟩:=bZ a;refine lI q ((K.ks c).addr q) ?_;obtain ⟨_,br,bs⟩:=(K.ks c).atN q;obtain ⟨⟨_,_,rfl,bt⟩,_⟩:=br;refine lW bs.one<|Wg O ?_;obtain ⟨_,A,a⟩:=bZ a;refine Zh (Z44 A (bt.froz 2) (g.toSlF (Ze.int .i64))) fun _ _ ⟨n,X⟩=>⟨_,n,?_⟩;replace X:=Ru p X;refine go ?_;obtain ⟨_,T,a⟩:=bZ a;replace g:=g.gr X;refine lI T (g.addr T)<|lW (g.atInt T) ?_;obtain ⟨_,Z,a⟩:=bZ a;refine Zh (Z46 (col:=p) Z) fun _ _ ⟨n,Q⟩=>⟨_,n,?_⟩;replace Q:=Ru p Q;refine go ?_;replace e:=(e.gr X).gr Q;replace c:=(c.grow X).grow Q;replace g:=g.gr Q;refine Zp a (fun f a=>go ?_) fun f a=>go ?_
     ·cases a;exact ⟨O,O,c.below⟩
     refine Vp (col:=p) (by kernel_rfl) (by kernel_rfl)<|qF ⟨_,_,O⟩ ?_;refine qW (fun _ d=>((e.atN).nth (q:=4) O).gr (d.bl p)) ?_;refine go ?_;obtain ⟨_,s,a⟩:=bZ a;refine qI s ((o.ks c).addr s) ?_;obtain ⟨_,bx,bz⟩:=(o.ks c).atN s;obtain ⟨⟨_,_,rfl,_⟩,_⟩:=bx;refine qW (fun _ d=>bz.one.gr (d.bl p)) ?_;refine go ?_;refine qI T (g.addr T)<|qW (fun _ d=>(g.gr (d.bl p)).atInt T) ?_;refine go ?_;refine Wj ?_;intro _ d;replace d:=d.bl p;replace g:=g.gr d;replace e:=e.gr d;replace c:=c.grow d;refine Zp a (fun f a=>go ?_) fun f a=>go ?_
     ·cases a;exact ⟨O,O,c.below⟩
     exact ⟨W,by omega,O,⟨_,_,_,O,a,c,e,g,O⟩⟩
    refine Z0 [1,3,8,1000000] (fun m j L=>∃ M P R,R=m∧Zbp N b F R P=some r∧St i (Zk col) M L∧Zi 27 1 M L H (Rt b y t D u B w C x)∧Zb rI 3 2 M L ab ac F∧[12].map j=[.int .i64 P]) N ⟨_,0,_,O,a,c,e,g,O⟩ ?_;clear a;intro m j L v;obtain ⟨M,P,R,k,a,c,e,g,h⟩:=v;subst k;refine .lL [12] h ?_
    cases R with
    | zero=>rw [Zbp.eq_1] at a;cases a
    | succ R=>
     rw [Zbp.eq_2] at a;refine go ?_;refine Zp a (fun f a=>go ?_) fun f a=>go ?_
     ·refine Z0 [1,12,3,8,1000000] (fun m j T=>∃ bp p V,V=m∧Zgm N b P (Zbp N b F R) V p=some r∧St i (Zk col) bp T∧Zi 27 1 bp T H (Rt b y t D u B w C x)∧Zb rI 3 2 bp T ab ac F∧[13].map j=[.int .i64 p]) N ⟨_,0,_,O,a,c,e,g,O⟩ ?_;clear a;intro m j T v;obtain ⟨bp,p,V,k,a,c,e,g,h⟩:=v;subst k;refine .lL [13] h ?_
      cases V with
      | zero=>rw [Zgm.eq_1] at a;cases a
      | succ V=>
       rw [Zgm.eq_2] at a;refine go ?_;refine Xp e<|Xy O ?_;obtain ⟨_,S,a⟩:=bZ a;refine lI S ((o.ks c).addr S) ?_;obtain ⟨_,b0,b1⟩:=(o.ks c).atN S;obtain ⟨⟨_,_,rfl,_⟩,_⟩:=b0;refine lW b1.one<|go ?_;refine Zp a (fun f a=>go ?_) fun f a=>go ?_
       ·refine Xp e<|Xy O<|lI S ((o.ks c).addr S) ?_;obtain ⟨_,b2,b3⟩:=(o.ks c).atN S;obtain ⟨⟨_,_,rfl,a9⟩,_⟩:=b2;refine lW b3.one<|Xy O ?_;obtain ⟨ay,Y,a⟩:=bZ a;refine lI Y (a9.addr Y) ?_;obtain ⟨_,b4,b5⟩:=a9.atN Y;obtain ⟨_,_,rfl,b6,b7⟩:=Yw b4;obtain ⟨_,_,rfl,b8,b9⟩:=Yw b6;obtain ⟨rfl,_⟩:=b8;obtain ⟨⟨ca,cb,rfl,cc⟩,_⟩:=b9;obtain ⟨⟨cd,ce,rfl,cf⟩,_⟩:=b7;refine lV (.agg #[.bool ay.1.1,.slice ca ay.1.2.length cb,.slice cd ay.2.length ce]) (Xi isAgg42 sizeOf42 O O b5) ?_;obtain ⟨_,P,a⟩:=bZ a;refine Zh (Z45 P cc cf) fun _ _ ⟨n,E⟩=>⟨_,n,?_⟩;replace E:=Ru bp E;refine go ?_;replace g:=g.gr E;replace e:=e.gr E;replace c:=c.grow E;refine Zp a (fun f a=>go ?_) fun f a=>go ?_
        ·cases a;exact ⟨O,O,c.below⟩
        exact ⟨V,by omega,O,⟨_,_,_,O,a,c,e,g,O⟩⟩
       exact ⟨R,by omega,O,⟨_,_,_,O,a,c,e,g,O⟩⟩
     refine Z0 [1,3,8,1000000] (fun m j J=>∃ z n U,U=m∧Zcz N b F U n=some r∧St i (Zk col) z J∧Zi 27 1 z J H (Rt b y t D u B w C x)∧Zb rI 3 2 z J ab ac F∧[15].map j=[.int .i64 n]) N ⟨_,0,_,O,a,c,e,g,O⟩ ?_;clear a;intro m j J v;obtain ⟨z,n,U,k,a,c,e,g,h⟩:=v;subst k;refine .lL [15] h ?_
     cases U with
     | zero=>rw [Zcz.eq_1] at a;cases a
     | succ U=>
      rw [Zcz.eq_2] at a;refine go ?_;refine Zp a (fun f a=>go ?_) fun f a=>go ?_
      ·refine Vp (col:=z) (by kernel_rfl) (by kernel_rfl)<|qF ⟨_,_,O⟩ ?_;refine qW (fun _ d=>((e.atN).nth (q:=4) O).gr (d.bl z)) ?_;refine go ?_;obtain ⟨_,h,a⟩:=bZ a;refine qI h ((o.ks c).addr h) ?_;obtain ⟨_,ci,cj⟩:=(o.ks c).atN h;obtain ⟨⟨_,_,rfl,ck⟩,_⟩:=ci;refine qW (fun _ d=>cj.one.gr (d.bl z)) ?_;refine go ?_;obtain ⟨_,Z,a⟩:=bZ a;refine qI Z (g.addr Z)<|qW (fun _ d=>(g.gr (d.bl z)).atInt Z) ?_;obtain ⟨i,j,a⟩:=bZ a;refine qc (v:=(.bool i)) O (fun _ d=>⟨_,_,Zg1 call58 O O,(Z48 j (ck.gr (d.bl z)):).mono fun _ _ G=>⟨G.1,d.trans (.of_below G.2)⟩⟩) ?_;refine go ?_;refine Wj ?_;intro _ d;replace d:=d.bl z;refine go ?_;replace e:=e.gr d;replace c:=c.grow d;refine Zp a (fun f a=>go ?_) fun f a=>go ?_
       ·cases a;exact ⟨O,O,c.below⟩
       exact ⟨U,by omega,O,⟨_,_,_,O,a,c,e,g.gr d,O⟩⟩
      cases a;exact ⟨O,O,c.below⟩
 refine Wv<|Xp e ?_;refine go ?_;refine X9 a (fun f a=>go ?_) fun f a=>go ?_
 ·refine lV (.bool true) (Xw (congrArg Value.bool f) O)<|Td O<|lP 32 O O<|lP 32 O O<|lP 32 O O<|lP 32 O O<|lP 32 O O<|lV (.bool true) (Xw O O)<|Zj ?_;exact ⟨O,_,_,a,c,e,O⟩
 refine Xt ⟨_,_,O⟩ ?_;refine go ?_;refine lW ((e.atN).nth (q:=3) O)<|go ?_;refine lV (.bool (!decide ((b.2.2.2.1.length:Int)=(b.2.1.length:Int)))) (X0 (congrArg Value.bool f) O)<|Td O ?_;refine X9 a (fun d a=>go ?_) fun d a=>go ?_
 ·refine lV (.bool true) (Xw (congrArg Value.bool d) O)<|Zj ?_;exact ⟨O,_,_,a,c,e,O⟩
 refine Xt ⟨_,_,O⟩ ?_;refine go ?_;refine lW ((e.atN).nth (q:=4) O)<|go ?_;refine lV (.bool (!decide ((b.2.2.2.2.length:Int)=(b.2.1.length:Int)))) (X0 (congrArg Value.bool d) O)<|Zj ?_;exact ⟨O,_,_,a,c,e,O⟩

end Go.Proofs.YtpkknichfgooaaaGreat
