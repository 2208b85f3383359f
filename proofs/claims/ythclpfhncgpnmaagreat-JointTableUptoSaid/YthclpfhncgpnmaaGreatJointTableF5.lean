/-
  What functions of the program compute, as plain Lean functions (m_..), and proofs that they compute it (c_..). Printed by a program of the author; no conditions.
-/
import Derived.Test.YthclpfhncgpnmaaGreatJointTableBFloat
import Derived.Test.YthclpfhncgpnmaaGreatProg
import Derived.Test.YthclpfhncgpnmaaGreatJointTableBBrief
import Derived.Test.YthclpfhncgpnmaaGreatJointTableBLibSort
import Derived.Test.YthclpfhncgpnmaaGreatShelf
import Derived.Test.YthclpfhncgpnmaaGreatJointTableBView
import Derived.Test.YthclpfhncgpnmaaGreatJointTableF4
set_option linter.unusedVariables false
set_option maxRecDepth 100000
set_option maxHeartbeats 2000000
namespace Go.Proofs.YthclpfhncgpnmaaGreat
open Go Go.RowKit
open List renaming length_map→aE,getElem_mem→aD,drop_eq_getElem_cons→aL,getElem_map→bU,drop_eq_nil_of_le→aG,take_succ_eq_append_getElem→bF,mem_append→bC,mem_singleton→bN,take_sublist→fY,drop_zero→aR,take_of_length_le→bD,all_cons→cK,length_singleton→aH,append_assoc→bK,singleton_append→eB,all_nil→fZ,append_nil→cL,map_cons→cP,map_nil→dO,mem_cons_of_mem→aO,mem_cons_self→aQ,nodup_append→cI,replicate→aC,take_length→dK,nil_append→bL,all_eq_true→cT,mem_map→cA,getD_eq_getElem?_getD→aF,mem_cons→aP,drop_eq_nil_iff→aM,range→bG,range_succ→fK,map_append→bV,map_singleton→iT,length_range→cC,not_mem_nil→bA,mem_range→eT,getElem?_eq_getElem→aI,ext_getElem→gC,getElem_range→cX,getElem_set→jE,map_congr_left→dW,length_take_of_le→bE,length_drop→cG,cons_append→cJ,mem_of_mem_take→eL
open Int renaming natCast_mul→bQ,ofNat_lt→eI,toNat_natCast→aB,toNat→aA
open Nat renaming mul_assoc→bP,le_mul_of_pos_right→dB,mul_one→gI,zero_le→aT,one_mul→bR,mul_comm→bS,le_refl→bB,zero_add→cS,add_zero→bO,mul_ne_zero→dY,add_mul→bM,mul_left_comm→jD,lt_or_ge→cO,lt_of_lt_of_le→aK,beq→aJ,zero_mul→gQ,le_of_lt→iP,le_trans→aY
open Rat renaming add_zero→fL
open Go.IntKind (i8 i16 i32 i64 u8 u16 u32 u64)
open Go.Proofs.Tryz

def V2 (n:Xa) (f:Int×Int):Bool:=decide (0≤f.1)&&(decide (f.1<(n.2.1.length:Int))&&(decide (0≤f.2)&&decide (f.2<(cnt n f.1.toNat:Int))))
def Tu (n:Xa) (v:Int):Bool:=decide (0≤v)&&decide (v<(n.2.1.length:Int))
def Vw (n:Xa) (F:List R5) (V:List Int):Int:=
 if F.all (V2 n)=true then if V.all (Tu n)=true then if (F.map (·.1)++V).Nodup then if 65536<Zp (Zg n) then 4 else 0 else 40 else 3 else 3
section
variable {N W K:Nat} {n:Xa} (hf:Y8 N n) (hs:W6 n W)
include hf hs
/-! the document -/
omit hs in
theorem Z76 (f:Int×Int):Zjm n f=some (!V2 n f):=by
 have b:=hf.ev.v
 rw [Zjm,V2]
 by_cases h1:f.1<0
 ·rw [if_pos (dT h1),decide_eq_false (show ¬ 0≤f.1 by omega)];rfl
 ·rw [if_neg (dF h1),decide_eq_true (show 0≤f.1 by omega),Bool.true_and]
  by_cases h2:(n.2.1.length:Int)≤f.1
  ·rw [if_pos (dT h2),decide_eq_false (show ¬ f.1<(n.2.1.length:Int) by omega)];rfl
  ·rw [if_neg (dF h2),decide_eq_true (show f.1<(n.2.1.length:Int) by omega),Bool.true_and]
   by_cases h3:f.2<0
   ·rw [if_pos (dT h3),decide_eq_false (show ¬ 0≤f.2 by omega)];rfl
   ·have a:Zi n.2.2.1 f.1=some (n.2.2.1.getD f.1.toNat []):=by
     have:=Vg (l:=n.2.2.1) [] (j:=f.1.toNat) (by omega)
     rwa [show ((f.1.toNat:Nat):Int)=f.1 by omega] at this
    rw [if_neg (dF h3),decide_eq_true (show 0≤f.2 by omega),Bool.true_and,a,oB,Zgu]
    rw [show ((n.2.2.1.getD f.1.toNat []).length:Int)=(cnt n f.1.toNat:Int) from rfl]
    by_cases h4:f.2<(cnt n f.1.toNat:Int)
    ·rw [decide_eq_true h4,decide_eq_false (by omega)];rfl
    ·rw [decide_eq_false h4,decide_eq_true (by omega)];rfl
theorem Zzm:∀ (f v c:Nat),v≤n.2.1.length→n.2.1.length<f+v→0<c→c≤65536→Zf9 N n f (c:Int) (v:Int)=some (if 65536<c * Zp ((Zg n).drop v) then 4 else 0)
 | 0,v,c,j,k,_,_=>by omega
 | f+1,v,c,j,k,l,m=>by
  have o:=hf.ev.v;have q:=hf.le
  have r:(Zg n).length=n.2.1.length:=by rw [Zg,aE,o]
  rw [Zf9.eq_2]
  by_cases hk:v<n.2.1.length
  ·have a:v<n.2.2.1.length:=by omega
   have p:=hs.vl _ (aD a)
   have d:=List.length_pos_iff.2 (hf.ev.ne _ (aD a))
   have t:c * n.2.2.1[v].length≤65536 * 1048576:=Nat.mul_le_mul m p
   have e:(c:Int) * (n.2.2.1[v].length:Int)=((c * n.2.2.1[v].length:Nat):Int):=(bQ _ _).symm
   have g:(Zg n).drop v=n.2.2.1[v].length :: (Zg n).drop (v+1):=by
    rw [aL (by omega)]
    simp only [Zg,bU]
   have i:=Zec ((Zg n).drop (v+1)) fun s h=>Vo hf s (List.mem_of_mem_drop h)
   have b:0<c * n.2.2.1[v].length:=Nat.mul_pos l d
   rw [if_pos (dT (by omega)),Zu a,oB,e,Zr (by omega),g,Zp,← bP]
   by_cases h4:65536<((c * n.2.2.1[v].length:Nat):Int)
   ·have:c * n.2.2.1[v].length≤c * n.2.2.1[v].length * Zp ((Zg n).drop (v+1)):=dB _ i
    rw [if_pos (dT h4),if_pos (by omega)]
   ·rw [if_neg (dF h4),wS (by omega)]
    exact Zzm f (v+1) _ (by omega) (by omega) b (by omega)
  ·rw [if_neg (dF (by omega)),aG (by omega),Zp,gI,if_neg (by omega)]
omit hf hs in
theorem Z05 (all:List Int) (hl:all.length≤4194304) (i:Nat) (hi:i<all.length) (kk:Int→Option Int):∀ (f k:Nat),k≤i→i<f+k→all[i] ∉ all.take k→Zf8 N all (i:Int) kk f (k:Int)=if all[i] ∈ all.take i then some 40 else kk ((i:Int)+1)
 | 0,k,b,c,_=>by omega
 | f+1,k,b,c,a=>by
  rw [Zf8.eq_2]
  by_cases hk:k<i
  ·rw [if_pos (dT (by omega)),Zu hi,oB,Zu (show k<all.length by omega),oB]
   by_cases he:all[i]=all[k]
   ·have:all[i] ∈ all.take i:=by
     rw [he,List.mem_take_iff_getElem]
     exact ⟨k,by omega,rfl⟩
    rw [if_pos (dT he),if_pos this]
   ·rw [if_neg (dF he),wS (by omega)]
    refine Z05 all hl i hi kk f (k+1) (by omega) (by omega) ?_
    rw [bF (show k<all.length by omega),bC,bN]
    exact fun h=>h.elim a he
  ·have:k=i:=by omega
   subst this
   rw [if_neg (dF (by omega)),if_neg a,wS (by omega)]
   rfl
theorem Z04 (all:List Int) (hl:all.length≤4194304) (hNl:4194305<N):∀ (f i:Nat),i≤all.length→all.length<f+i→(all.take i).Nodup→Zca N n all f (i:Int)=some (if all.Nodup then if 65536<Zp (Zg n) then 4 else 0 else 40)
 | 0,i,e,g,_=>by omega
 | f+1,i,e,g,b=>by
  rw [Zca.eq_2]
  by_cases hi:i<all.length
  ·have c:=Z05 (N:=N) all hl i hi (Zca N n all f) N 0 (aT _) (by omega) (by simp)
   rw [show ((0:Nat):Int)=0 from rfl] at c
   have a:=Zxh all i hi
   rw [if_pos (dT (by omega)),c]
   by_cases hm:all[i] ∈ all.take i
   ·have:¬ all.Nodup:=fun h=>(a.1 (h.sublist (fY _ _))).2 hm
    rw [if_pos hm,if_neg this]
   ·rw [if_neg hm,show (i:Int)+1=((i+1:Nat):Int) by omega]
    exact Z04 all hl hNl f (i+1) (by omega) (by omega) (a.2 ⟨b,hm⟩)
  ·have j:=hf.le
   have d:=Zzm hf hs N 0 1 (aT _) (by omega) (by decide) (by decide)
   rw [aR,bR] at d
   rw [bD (by omega)] at b
   rw [if_neg (dF (by omega)),if_pos b]
   exact d
theorem Z06 (V:List Int) (hV:V.length≤1048576) (hNl:4194305<N):∀ (f i:Nat) (all:List Int),i≤V.length→V.length<f+i→all.length≤3145728+i→Zb9 N n V f (i:Int) all=some (if (V.drop i).all (Tu n)=true then if (all++V.drop i).Nodup then if 65536<Zp (Zg n) then 4 else 0 else 40 else 3)
 | 0,i,all,a,b,_=>by omega
 | f+1,i,all,a,b,d=>by
  rw [Zb9.eq_2]
  by_cases hi:i<V.length
  ·rw [if_pos (dT (by omega)),Zu hi,oB,aL hi,cK,Tu]
   by_cases g1:V[i]<0
   ·rw [if_pos (dT g1),Zjb,if_pos rfl,decide_eq_false (show ¬ 0≤V[i] by omega)];rfl
   ·rw [if_neg (by rw [decide_eq_false g1];decide),decide_eq_true (show 0≤V[i] by omega),Bool.true_and,Zjb]
    by_cases g2:(n.2.1.length:Int)≤V[i]
    ·rw [if_pos (dT g2),decide_eq_false (show ¬ V[i]<(n.2.1.length:Int) by omega)];rfl
    ·rw [if_neg (by rw [decide_eq_false g2];decide),decide_eq_true (show V[i]<(n.2.1.length:Int) by omega),Bool.true_and,Zu hi,oB,Zx (by simp only [aH,maxLen];omega),wS (by omega),
      Z06 V hV hNl f (i+1) (all++[V[i]]) (by omega) (by omega) (by rw [nA,aH];omega),bK,eB]
  ·have c:=Z04 hf hs all (by omega) hNl N 0 (aT _) (by omega) (by simp)
   rw [if_neg (dF (by omega)),aG (by omega),fZ,if_pos rfl,cL]
   exact c
theorem Zz1 (F:List R5) (V:List Int) (hF:F.length≤2097152) (hV:V.length≤1048576) (hNl:4194305<N):∀ (f i:Nat) (all:List Int),i≤F.length→F.length<f+i→all.length=i→Zf7 N n F V f all (i:Int)=some (if (F.drop i).all (V2 n)=true then if V.all (Tu n)=true then if (all++(F.drop i).map (·.1)++V).Nodup then if 65536<Zp (Zg n) then 4 else 0 else 40 else 3 else 3)
 | 0,i,all,c,d,_=>by omega
 | f+1,i,all,c,d,j=>by
  rw [Zf7.eq_2]
  by_cases hi:i<F.length
  ·have e:Zjm (n.1,n.2.1,n.2.2.1,n.2.2.2.1,n.2.2.2.2) (F[i].1,F[i].2)=some (!V2 n F[i]):=Z76 hf F[i]
   rw [if_pos (dT (by omega)),Zu hi,oB,e,oB,aL hi,cK,cP]
   by_cases g:V2 n F[i]=true
   ·rw [if_neg (by rw [g];decide),Zx (by simp only [aH,maxLen];omega),wS (by omega),g,Bool.true_and,Zz1 F V hF hV hNl f (i+1) (all++[F[i].1]) (by omega) (by omega) (by rw [nA,aH];omega),bK all,eB]
   ·have a:V2 n F[i]=false:=by simpa using g
    rw [if_pos (by rw [a];rfl),a,Bool.false_and];rfl
  ·have b:=Z06 hf hs V hV hNl N 0 all (aT _) (by omega) (by omega)
   rw [aR] at b
   rw [if_neg (dF (by omega)),aG (by omega),fZ,if_pos rfl,dO,cL]
   exact b
/-! the program -/
omit hf hs in
theorem Zx9:∀ (ss:List Nat) (c:Nat),0<c→c≤2147483647→(∀ s ∈ ss,0<s)→∃ a b,Qb (Xb ss) (c:Int)=some (a,b)∧((b=0∧a=((c * Zp ss:Nat):Int))∨(b≠0∧65536<c * Zp ss))
 | [],c,_,_,_=>⟨_,_,by rw [Xb,dO,Qb.eq_1],.inl ⟨rfl,by rw [Zp,gI]⟩⟩
 | s :: ss,c,d,p,hs=>by
  have j:=Zec ss fun x f=>hs x (aO _ f)
  have k:=hs s aQ
  have e:Int.tdiv 2147483647 (c:Int)=((2147483647 / c:Nat):Int):=rfl
  have l:2147483647 / c≤2147483647:=Nat.div_le_self _ _
  have m:(c:Int) * (s:Int)=((c * s:Nat):Int):=(bQ c s).symm
  have o:i64.wrap ((2147483647 / c:Nat):Int)=((2147483647 / c:Nat):Int):=by
   generalize 2147483647 / c=z at l ⊢
   exact Zr (by omega)
  rw [Xb,cP,Qb.eq_2,Zx (by omega),e,o,Zp,← bP]
  by_cases h:2147483647 / c<s
  ·have i:2147483647<c * s:=by
    have:=(Nat.div_lt_iff_lt_mul d).1 h
    rwa [bS] at this
   have q:c * s≤c * s * Zp ss:=dB _ j
   rw [if_pos (dT (eI.2 h))]
   exact ⟨_,_,rfl,.inr ⟨by decide,by omega⟩⟩
  ·have i:c * s≤2147483647:=by
    have:=(Nat.le_div_iff_mul_le d).1 (Nat.not_lt.1 h)
    rwa [bS] at this
   rw [if_neg (by rw [decide_eq_false fun g=>h (eI.1 g)];decide),m,Zr (by omega)]
   exact Zx9 ss (c * s) (Nat.mul_pos d k) i fun x f=>hs x (aO _ f)
omit hs in
theorem Zx8:∀ (l S:List Int) (seen:List Bool),seen.length=n.2.1.length→(∀ x ∈ l,0≤x∧x<(n.2.1.length:Int))→S.Nodup→(∀ i,i<n.2.1.length→(seen.getD i false=true↔(i:Int) ∈ S))→
  ∃ a e,Q1 (Xb (Zg n)) l seen=some (a,e)∧e=(if (S++l).Nodup then if 65536<Zp (Zg n) then 4 else 0 else 40)∧(e=0→a=Xb (Zg n))
 | [],S,seen,g,k,m,c=>by
  obtain ⟨a,b,s,p⟩:=Zx9 (Zg n) 1 (by decide) (by decide) (Vo hf)
  rw [bR] at p
  have t:Za6 (Xb (Zg n))=some (a,b):=by
   rw [Za6,Zsb _ (Zg n) (Vo hf)];exact s
  rw [Q1.eq_1,t,oB,cL,if_pos m]
  dsimp only
  rcases p with ⟨d,o⟩ | ⟨d,q⟩
  ·subst d o
   rw [if_neg (show ¬ (!decide ((0:Int)=0))=true by decide)]
   by_cases h:65536<Zp (Zg n)
   ·rw [decide_eq_true (by omega),Zc4,if_pos rfl,if_pos h]
    exact ⟨_,_,rfl,rfl,fun h=>by cases h⟩
   ·rw [decide_eq_false (by omega),Zc4,if_neg (by decide),if_neg h]
    exact ⟨_,_,rfl,rfl,fun _=>rfl⟩
  ·rw [if_pos (by rw [decide_eq_false d];rfl),Zc4,if_pos rfl,if_pos q]
   exact ⟨_,_,rfl,rfl,fun h=>by cases h⟩
 | x :: l,S,seen,g,k,m,c=>by
  have B:=k x aQ
  obtain ⟨i,rfl⟩:∃ i:Nat,x=(i:Int):=⟨x.toNat,by omega⟩
  have u:i<n.2.1.length:=by omega
  have f:=c i u
  rw [Q1.eq_2,Vg false (by omega),oB]
  by_cases hm:(i:Int) ∈ S
  ·rw [if_pos (f.2 hm),if_neg (fun h=>by
    rw [cI] at h
    exact h.2.2 _ hm _ aQ rfl)]
   exact ⟨_,_,rfl,rfl,fun h=>by cases h⟩
  ·have r:seen.getD i false=false:=by
    cases h:seen.getD i false with
    | false=>rfl
    | true=>exact absurd (f.1 h) hm
   rw [if_neg (by rw [r];decide),oB,aB]
   have v:=Zx8 l (S++[(i:Int)]) (seen.set i true) (by rw [nS];exact g) (fun y w=>k y (aO _ w)) (by
    rw [cI]
    refine ⟨m,by simp,fun a o b d=>?_⟩
    rw [bN] at d
    intro e
    exact hm (by rw [← d,← e];exact o)) fun j A=>by
    rw [Qw seen false i _ _ (by omega),bC,bN]
    by_cases e:j=i
    ·rw [if_pos e]
     exact ⟨fun _=>.inr (by rw [e]),fun _=>rfl⟩
    ·rw [if_neg e,c j A]
     exact ⟨.inl,fun h=>h.elim id fun h=>absurd (by omega) e⟩
   rwa [bK,eB] at v
omit hs in
theorem Zx7:∀ (F:List R5) (V:List Int),V.length+F.length≤4194304→Zbj (Xb (Zg n)) F V=Q1 (Xb (Zg n)) (V++F.map (·.1)) (aC (Xb (Zg n)).length false)
 | [],V,_=>by rw [Zbj.eq_1,dO,cL]
 | f :: F,V,h=>by
  have c:=hf.ev.v;have b:=hf.le
  rw [nC] at h
  have a:V.take (aA (V.length:Int))=V:=by rw [aB,dK]
  rw [Zbj.eq_2,a,Zx (by omega),Zx (by simp only [aH,maxLen];omega),Zx7 F (V++[f.1]) (by rw [nA,aH];omega),bK,cP,eB]
omit hs in
theorem Zx6 (F:List R5) (V:List Int) (hl:V.length+F.length≤4194304):∀ l:List Int,Sz F V (Xb (Zg n)) l=if l.all (Tu n)=true then Q1 (Xb (Zg n)) (V++F.map (·.1)) (aC (Xb (Zg n)).length false) else some ([],3)
 | []=>by
  have b:=hf.ev.v;have d:=hf.le
  have a:(Xb (Zg n)).length=n.2.1.length:=by rw [Xb,Zg,aE,aE,b]
  rw [Sz.eq_1,Zx (by rw [a];simp only [maxLen];omega),Zx7 hf F V hl,fZ,if_pos rfl]
 | x :: l=>by
  have b:=hf.ev.v
  have a:(Xb (Zg n)).length=n.2.1.length:=by rw [Xb,Zg,aE,aE,b]
  have c:=Zx6 F V hl l
  rw [a] at c
  rw [Sz.eq_2,cK,Tu,a]
  by_cases g1:x<0
  ·rw [if_pos (dT g1),Zhx,if_pos rfl,decide_eq_false (show ¬ 0≤x by omega)];rfl
  ·rw [if_neg (by rw [decide_eq_false g1];decide),decide_eq_true (show 0≤x by omega),Bool.true_and,Zhx]
   by_cases g2:(n.2.1.length:Int)≤x
   ·rw [if_pos (dT g2),decide_eq_false (show ¬ x<(n.2.1.length:Int) by omega)];rfl
   ·rw [if_neg (by rw [decide_eq_false g2];decide),decide_eq_true (show x<(n.2.1.length:Int) by omega),Bool.true_and]
    exact c
omit hs in
theorem Zx5 (F:List R5) (V:List Int):∀ l:List R5,Sa F V (Xb (Zg n)) l=if l.all (V2 n)=true then Sz F V (Xb (Zg n)) V else some ([],3)
 | []=>by rw [Sa.eq_1,fZ,if_pos rfl]
 | f :: l=>by
  have e:=hf.ev.v
  have a:(Xb (Zg n)).length=n.2.1.length:=by rw [Xb,Zg,aE,aE,e]
  have g:=Zx5 F V l
  rw [Sa.eq_2,cK,V2,a]
  by_cases h1:f.1<0
  ·rw [if_pos (dT h1),Zau,if_pos rfl,decide_eq_false (show ¬ 0≤f.1 by omega)];rfl
  ·rw [if_neg (dF h1),decide_eq_true (show 0≤f.1 by omega),Bool.true_and]
   by_cases h2:(n.2.1.length:Int)≤f.1
   ·rw [if_pos (dT h2),Zau,if_pos rfl,decide_eq_false (show ¬ f.1<(n.2.1.length:Int) by omega)];rfl
   ·rw [if_neg (dF h2),decide_eq_true (show f.1<(n.2.1.length:Int) by omega),Bool.true_and]
    by_cases h3:f.2<0
    ·rw [if_pos (dT h3),Zau,if_pos rfl,decide_eq_false (show ¬ 0≤f.2 by omega)];rfl
    ·have b:f.1.toNat<(Zg n).length:=by rw [Zg,aE];omega
     have c:Zi (Xb (Zg n)) f.1=some (cnt n f.1.toNat:Int):=by
      have h:=Zju b
      rw [show ((f.1.toNat:Nat):Int)=f.1 by omega] at h
      rw [h]
      have d:f.1.toNat<n.2.2.1.length:=by omega
      congr 2
      rw [cnt,X4 b,X4 d]
      simp only [Zg,bU]
     rw [if_neg (dF h3),decide_eq_true (show 0≤f.2 by omega),Bool.true_and,c,oB,Zau]
     by_cases h4:f.2<(cnt n f.1.toNat:Int)
     ·rw [decide_eq_true h4,decide_eq_false (by omega),if_neg (by decide),Bool.true_and]
      exact g
     ·rw [decide_eq_false h4,decide_eq_true (by omega),if_pos rfl];rfl
theorem Zvt (hr:Xg N (8 * W+40)) (hN:4194305<N) (F:List R5) (V:List Int) (hF:F.length≤2097152) (hV:V.length≤1048576):
  ∃ a,Tq N n F V=some (a,Vw n F V)∧(Vw n F V=0→a=Xb (Zg n)):=by
 have k:=hf.ev.v;have s:=hf.le
 have b:(Xb (Zg n)).length=n.2.1.length:=by rw [Xb,Zg,aE,aE,k]
 have l:Sb N (n.1,n.2.1,n.2.2.1,n.2.2.2.1,n.2.2.2.2)=some 0:=Zqg hf hs hr (by omega)
 have m:Ze4 (n.1,n.2.1,n.2.2.1,n.2.2.2.1,n.2.2.2.2)=some (Xb (Zg n)):=by
  have:=Zqz n.2.2.1 [] (by simp only [nN];omega)
  rw [bL] at this
  rw [Ze4];exact this
 rw [Tq,l,oB,if_neg (by decide),m,oB,Zx5 hf,Vw]
 by_cases g1:F.all (V2 n)=true
 ·rw [if_pos g1,if_pos g1,Zx6 hf F V (by omega)]
  by_cases g2:V.all (Tu n)=true
  ·rw [if_pos g2,if_pos g2]
   have d:∀ x ∈ V++F.map (·.1),0≤x∧x<(n.2.1.length:Int):=fun x o=>by
    rcases bC.1 o with h | h
    ·have:=cT.1 g2 x h
     simp only [Tu,Bool.and_eq_true,decide_eq_true_eq] at this
     exact this
    ·obtain ⟨f,g,rfl⟩:=cA.1 h
     have:=cT.1 g1 f g
     simp only [V2,Bool.and_eq_true,decide_eq_true_eq] at this
     exact ⟨this.1,this.2.1⟩
   obtain ⟨a,e,p,c,q⟩:=Zx8 hf (V++F.map (·.1)) [] (aC (Xb (Zg n)).length false) (by rw [List.length_replicate,b]) d List.nodup_nil fun i r=>by
    rw [aF,List.getElem?_replicate,b,if_pos r]
    simp
   have j:(V++F.map (·.1)).Nodup↔(F.map (·.1)++V).Nodup:=List.perm_append_comm.nodup_iff
   rw [bL] at c
   simp only [j] at c
   subst c
   exact ⟨a,p,q⟩
  ·rw [if_neg g2,if_neg g2]
   exact ⟨_,rfl,fun h=>by cases h⟩
 ·rw [if_neg g1,if_neg g1]
  exact ⟨_,rfl,fun h=>by cases h⟩
theorem Zqy (hr:Xg N (8 * W+40)) (hN:4194305<N) (F:List R5) (V:List Int) (hF:F.length≤2097152) (hV:V.length≤1048576) (hR:Zdn N n=some 0):
  V9 N n F V=some (Vw n F V)∧∃ a,Tq N n F V=some (a,Vw n F V)∧(Vw n F V=0→a=Xb (Zg n)):=by
 have d:=hf.ev.v;have c:=hf.le
 refine ⟨?_,Zvt hf hs hr hN F V hF hV⟩
 have b:Zdn N (n.1,n.2.1,n.2.2.1,n.2.2.2.1,n.2.2.2.2)=some 0:=hR
 have h:=Zz1 hf hs F V hF hV hN N 0 [] (aT _) (by omega) rfl
 rw [aR,bL] at h
 rw [V9,b,oB,if_neg (by decide)]
 exact h
end
/-! the probability is the interval's length -/
def Wg (f:Nat→Rat):Nat→Nat→Rat
 | _,0=>0
 | k,m+1=>f k+Wg f (k+1) m
theorem Z95 {f g:Nat→Rat}:∀ (m k:Nat),(∀ i,k≤i→i<k+m→f i=g i)→Wg f k m=Wg g k m
 | 0,k,_=>rfl
 | m+1,k,h=>by rw [Wg,Wg,h k (bB _) (by omega),Z95 m (k+1) fun i a b=>h i (by omega) (by omega)]
theorem Z1r (f:Nat→Rat):∀ (m k l:Nat),Wg f k (m+l)=Wg f k m+Wg f (k+m) l
 | 0,k,l=>by rw [cS,Wg,Rat.zero_add,bO]
 | m+1,k,l=>by rw [show m+1+l=m+l+1 by omega,Wg,Wg,Z1r f m (k+1) l,show k+1+m=k+(m+1) by omega,Rat.add_assoc]
/-! a common denominator -/
def U5:List (List QV)→Nat
 | []=>1
 | t :: T=>T5 t * U5 T
theorem Zqn:∀ T:List (List QV),U5 T≠0
 | []=>by simp [U5]
 | t :: T=>dY (Znh t) (Zqn T)
theorem Zue {W:Nat}:∀ T:List (List QV),(∀ t ∈ T,Xz t≤W∧∀ x ∈ t,Vc x)→(Ze (U5 T)).length≤T.length * (W+1)+1
 | [],_=>by rw [U5,Qx];simp
 | t :: T,h=>by
  obtain ⟨c,a⟩:=h t aQ
  have d:=Zup t a
  have e:=Zue T fun u b=>h u (aO _ b)
  have f:=Tp (T5 t) (U5 T)
  rw [U5,nC,bM,bR];omega
theorem Zuo {x:QV}:∀ t:List QV,x ∈ t→∃ E,E≠0∧T5 t=Yf x.2 * E
 | y :: t,h=>by
  rcases aP.1 h with rfl | h
  ·exact ⟨T5 t,Znh t,rfl⟩
  ·obtain ⟨E,a,b⟩:=Zuo t h
   exact ⟨Yf y.2 * E,dY (U6 _) a,by rw [T5,b,jD]⟩
section
variable {N:Nat} {n:Xa} (hf:Y8 N n)
include hf
theorem Zyf {w:List Int} (hw:Us n w):∀ (T:List (List QV)) (k:Nat) (q:Rat) (D:Nat),n.2.2.2.2.drop k=T→D≠0→Bd D 1 q→Bd (D * U5 T) 1 (Uq n w T.length k q)
 | [],k,q,D,_,_,h=>by rw [U5,gI];exact h
 | t :: T,k,q,D,c,l,h=>by
  have e:k<n.2.2.2.2.length:=by
   rcases cO k n.2.2.2.2.length with h | h
   ·exact h
   ·rw [aG h] at c;cases c
  have d:k<n.2.1.length:=by have:=hf.ev.t;omega
  rw [aL e] at c
  obtain ⟨m,o⟩:=List.cons.inj c
  have u:=hw.ok k (by rw [hw.len];exact d)
  have f:(w.getD k 0).toNat<(Vv n w k).length:=by rw [hf.rowT_len hw d];omega
  have a:=Zon (aD f)
  have b:=hf.ent d _ a
  rw [X4 e,m] at a
  obtain ⟨E,p,r⟩:=Zuo t a
  have g:=(Z2j b.1 b.2).lift E (U6 _) p
  rw [← r] at g
  have s:ent n w k=Xm (Vv n w k)[(w.getD k 0).toNat]:=by rw [ent,X4 f]
  have j:=h.mul g
  rw [bR,← s] at j
  have:=Zyf hw T (k+1) (q * ent n w k) (D * T5 t) o (dY l (Znh t)) j
  rw [nC,Uq,U5,← bP]
  exact this
theorem Zrn {w:List Int} (hw:Us n w):Bd (U5 n.2.2.2.2) 1 (Uq n w n.2.1.length 0 1):=by
 have:=Zyf hf hw n.2.2.2.2 0 1 1 (by rw [aR]) (by decide) Bd.one
 rw [hf.ev.t,bR] at this
 exact this
omit hf in
theorem Z1s {f:Nat→Rat} {D:Nat} (hD:D≠0):∀ (m k:Nat),(∀ i,k≤i→i<k+m→Bd D 1 (f i))→Bd D m (Wg f k m)
 | 0,k,_=>Bd.zero D 0
 | m+1,k,h=>by
  have c:=(h k (bB _) (by omega)).add (Z1s hD m (k+1) fun i a b=>h i (by omega) (by omega)) hD
  rw [Nat.add_comm] at c
  exact c
end
def Zdq (N:Nat) (aa:R0):Nat→Rd→R6→R2→Bool→Option (Rd×R6)
  | 0,_,_,_,_=>none
  | ag+1,ad,ae,ac,ah=>if ah=true then (Zt ((ad.length+[ac].length) * 24≤140737488355328∧ad.length+[ac].length≤maxLen) ((Zja N (aa.1,aa.2.1,aa.2.2.1,aa.2.2.2.1,aa.2.2.2.2) ac).bind fun ab=>Zt ((ae.length+[((ab.1.1,ab.1.2),ab.2)].length) * 56≤140737488355328∧ae.length+[((ab.1.1,ab.1.2),ab.2)].length≤maxLen) ((Zjg N (aa.1,aa.2.1,aa.2.2.1,aa.2.2.2.1,aa.2.2.2.2) ac).bind fun af=>(Zdq N aa ag) (ad++[ac]) (ae++[((ab.1.1,ab.1.2),ab.2)]) af.1 af.2))) else (some (ad,ae))
def Zf5 (N:Nat) (aa:R0):Option (Rd×R6):=
  (V9 N (aa.1,aa.2.1,aa.2.2.1,aa.2.2.2.1,aa.2.2.2.2) ([]:List R5) ([]:List Int)).bind fun ab=>if (!decide (ab=0))=true then (some (([]:List R2),([]:List R1))) else (Zt (aa.2.1.length * 8≤281474976710656∧aa.2.1.length≤maxLen) (Zdq N aa N ([]:List R2) ([]:List R1) (aC aa.2.1.length (0:Int)) true))
theorem Z4a {N ay az a0 a1:Nat} {a2 a3 a4 a5:Option Addr} {col:Zd} {w0:World} {ac:R0} {r:(Rd×R6)} (c1 c2:Nat) (hm:Zf5 N ac=some r) (am:Sl Za.str col w0 a2 ay ac.2.1) (an:Sl rV col w0 a3 az ac.2.2.1) (ao:Sl rP col w0 a4 a0 ac.2.2.2.1) (ap:Sl (Za.slice rQ) col w0 a5 a1 ac.2.2.2.2):
    Calls prog 7 #[(.agg #[.string ac.1,.slice a2 ac.2.1.length ay,.slice a3 ac.2.2.1.length az,.slice a4 ac.2.2.2.1.length a0,.slice a5 ac.2.2.2.2.length a1])] w0 (fun e w'=>∃ col' ra1 rc2 ra4 rc5,e= .returned (.tuple #[.slice ra1 r.1.length rc2,.slice ra4 r.2.length rc5])∧Zn col w0 col' w'∧Zc rP 36 c1 col' w' ra1 rc2 r.1∧Zc (rO 45) 42 c2 col' w' ra4 rc5 r.2):=by
 refine Zcp 2 3 (m:=34) (args:=[(.agg #[.string ac.1,.slice a2 ac.2.1.length ay,.slice a3 ac.2.2.1.length az,.slice a4 ac.2.2.2.1.length a0,.slice a5 ac.2.2.2.2.length a1])]) func7 rfl rfl rfl rfl rfl ?_;rw [Zf5.eq_1] at hm;have aa:=St.start col w0;refine go ?_;refine Xl (col:=(Zf col)) 1 rfl ?_;intro bu bv bd bw ab;refine go ?_;refine lV _ (Z9 isAgg27 sizeOf27 ab) ?_;obtain ⟨ca,bx,hm⟩:=bZ hm;replace am:=am.k0;replace an:=an.k0;replace ao:=ao.k0;replace ap:=ap.k0;replace aa:=aa.grow bw;refine Zk (Zqb bx (am.ks aa) (an.ks aa) (ao.ks aa) (ap.ks aa) Sl.nil Sl.nil) fun _ bk ⟨e',a6⟩=>⟨_,e',?_⟩;replace a6:Zn bd bv bd bk:=.of_below a6;refine go ?_;replace ab:=ab.gr a6;replace aa:=aa.grow a6;refine Zm hm (fun hb hm=>go ?_) fun hb hm=>go ?_
 ·cases hm;exact ⟨rfl,_,none,0,none,0,rfl,aa.fin (cm []),Zc.nil,Zc.nil⟩
 refine Z1 ab ?_;refine go ?_;obtain ⟨bm,hm⟩:=Zv hm;refine Sv (col:=bd) (w:=bk) (r:=rI) (n:=ac.2.1.length) (x0:=0) 2 rfl underlying36 Tryz.t3 rfl rfl rfl rfl rfl rfl rfl bm.1 bm.2 (Vn .i64 0) ?_;intro cb cc cd bn bz;refine go ?_;replace ab:=ab.gr bn;replace aa:=aa.grow bn;refine Zs [1,1000000] (fun n f aj=>∃ ai be bf a7 bg bh a8 aq ar ah bi ak,ak=n∧Zdq N ac ak a7 a8 ah bi=some r∧St w0 (Zf col) ai aj∧Zj 27 1 ai aj bu #[.string ac.1,.slice a2 ac.2.1.length ay,.slice a3 ac.2.2.1.length az,.slice a4 ac.2.2.2.1.length a0,.slice a5 ac.2.2.2.2.length a1]∧Zc rP 36 3 ai aj be bf a7∧Zc (rO 45) 42 4 ai aj bg bh a8∧Zc rI 3 2 ai aj aq ar ah∧[4,5,6,7].map f=[.slice be a7.length bf,.slice bg a8.length bh,.slice aq ah.length ar,.bool bi]) N ⟨_,none,0,_,none,0,_,_,_,_,_,_,rfl,hm,aa,ab,Zc.nil,Zc.nil,bz,rfl⟩ ?_;clear hm;intro n f aj hI;obtain ⟨ai,be,bf,a7,bg,bh,a8,aq,ar,ah,bi,ak,hn,hm,aa,ab,al,ae,ad,hs⟩:=hI;subst hn;refine .lL [4,5,6,7] hs ?_
 cases ak with
 | zero=>rw [Zdq.eq_1] at hm;cases hm
 | succ ak=>
  rw [Zdq.eq_2] at hm;refine go ?_;refine Zm hm (fun hb hm=>go ?_) fun hb hm=>go ?_
  ·replace ae:=ae.froz 2;replace ad:=(ad).toSlF (Zh.int .i64);replace al:=al.froz 2;replace ab:=ab.froz 2;replace aa:=aa.froz 2 (by decide) (by decide);refine Uo (col:=(X5 2 ai)) (r:=rP) (xs:=[ah]) [.slice aq ah.length ar] 5 (W0.ofF (Rows.consF (r:=rP) (x:=ah) (cs:=[.slice aq ah.length ar]) (Zr1 ad) Rows.nil0)) ?_;intro ce cf cg au b0;obtain ⟨b1,hm⟩:=Zv hm;replace al:=al.gr au;refine Yy al (b0.srcN NB.slice) b1 ?_;intro ch ci cj ck a9 ag;refine go ?_;replace ab:=(ab.gr au).kpp a9;refine lV _ (Z9 isAgg27 sizeOf27 ab)<|Wo rfl ?_;obtain ⟨af,b2,hm⟩:=bZ hm;replace ad:=(ad.gr au).kpp a9;replace aa:=(aa.grow au).kpp a9;refine Zk (Z4b 6 7 b2 (am.ks aa) (an.ks aa) (ao.ks aa) (ap.ks aa) ad) fun _ cl ⟨b3,bo,bp,bq,br,e',av,b4,b5⟩=>⟨_,e',?_⟩;have b6:=X0.join (X0.joinL (U0 af.1.1) b4.has) b5.has (by decide) (by decide);replace ad:=ad.gr av;replace ad:=ad.recol 7 6;replace ag:=ag.gr av;replace ag:=ag.recol 7 6;replace ae:=((ae.gr au).kpp a9).gr av;replace ae:=ae.recol 7 6;replace ab:=ab.gr av;replace ab:=ab.recol 7 6;replace aa:=aa.grow av;replace aa:=aa.recol 7 6 (by decide) (by decide);refine Uo (col:=(X7 7 6 b3)) (r:=(rO 45)) (xs:=[((af.1.1,af.1.2),af.2)]) [(.agg #[.bool af.1.1,.slice bo af.1.2.length bp,.slice bq af.2.length br])] 6 (W0.cons1 (cs:=[.bool af.1.1,.slice bo af.1.2.length bp,.slice bq af.2.length br]) b6 Rows.nil0) ?_;intro cn co cp aw b7;obtain ⟨b8,hm⟩:=Zv hm;replace ae:=ae.gr aw;refine Yy (c:=4) (c2:=6) ae (b7.srcC (by decide)) b8 ?_;intro cq cr ct cu ba ax;refine go ?_;replace ab:=(ab.gr aw).kpp ba;refine lV _ (Z9 isAgg27 sizeOf27 ab)<|Wo rfl ?_;obtain ⟨bb,b9,hm⟩:=bZ hm;replace aa:=(aa.grow aw).kpp ba;refine Zk (Z4g 8 b9 (am.ks aa) (an.ks aa) (ao.ks aa) (ap.ks aa) ((ad.gr aw).kpp ba)) fun _ cv ⟨cw,bs,bt,e',bc,bj⟩=>⟨_,e',?_⟩
   refine lM (.tuple #[.slice bs bb.1.length bt,.bool bb.2])<|lV (.slice bs bb.1.length bt) (Xu rfl rfl)<|lV (.bool bb.2) (Xu rfl rfl)<|go ?_;replace ag:=((ag.gr aw).kpp ba).gr bc;replace ax:=ax.gr bc;replace bj:=bj.recolSelf 2 (by decide);replace ab:=ab.gr bc;replace aa:=aa.grow bc;replace aa:=aa.recol 8 2 (by decide) (by decide);exact ⟨ak,by omega,rfl,⟨_,_,_,_,_,_,_,_,_,_,_,_,rfl,hm,aa,ab.recol 8 2,ag.recol 8 2,ax.recol 8 2,bj,rfl⟩⟩
  cases hm;exact ⟨rfl,_,_,_,_,_,rfl,aa.fin (cm [(3,c1),(4,c2)]),aa.fo al,aa.fo ae⟩
def Zez (aa:List Int):List R5→Option Bool
  | []=>some true
  | ab :: ac=>(Zi aa ab.1).bind fun ad=>if (!decide (ad=ab.2))=true then (some false) else (Zez aa ac)
def Znr (aa:List Int) (ab:Re):Option Bool:=
  Zez aa ab
theorem Z20 {aj ak:Nat} {a0 a1:Option Addr} {col:Zd} {w0:World} {af:R2} {ab:Re} {r:Bool} (hm:Znr af ab=some r) (h0:Sl rI col w0 a0 aj af) (h1:Sl (Za.pair rI rI) col w0 a1 ak ab):
    Calls prog 83 #[.slice a0 af.length aj,.slice a1 ab.length ak] w0 (Wx w0 r):=by
 refine Z6 4 (m:=22) func83 rfl rfl rfl rfl rfl ?_;rw [Znr.eq_1] at hm;have aa:=St.start col w0;refine go ?_;refine Zs [0,7,8,1000000] (fun n f al=>∃ ag ac ad,n=ad.length∧ab.drop ac=ad∧Zez af ad=some r∧St w0 (Zf col) ag al∧[9].map f=[.int .i64 ac]) ab.length ⟨_,0,_,rfl,rfl,hm,aa,rfl⟩ ?_;clear hm;intro n f al hI;obtain ⟨ag,ac,ad,hn,hl,hm,aa,hs⟩:=hI;subst hn;refine .lL [9] hs ?_;replace h0:=h0.k0;replace h1:=h1.k0
 cases ad with
 | nil=>
  have hk:¬ ((ac:Int)<(ab.length:Int)):=by have:=aM.1 hl;omega
  have hkb:=decide_eq_false hk;rw [Zez.eq_1] at hm;refine go ?_;refine Yc (congrArg Value.bool hkb)<|go ?_;cases hm;exact ⟨rfl,rfl,aa.below⟩
 | cons am ao=>
  obtain ⟨ah,ap,aq⟩:=Yu hl;have hk:(ac:Int)<(ab.length:Int):=by omega
  have hkb:=decide_eq_true hk;rw [Zez.eq_2] at hm;refine go ?_;refine Yd (congrArg Value.bool hkb)<|go ?_;refine lI ah ((h1.ks aa).addr ah) ?_;obtain ⟨_,ar,au⟩:=(h1.ks aa).atN ah;obtain ⟨_,_,rfl,av,aw⟩:=Yb ar;obtain ⟨rfl,_⟩:=av;obtain ⟨rfl,_⟩:=aw;refine lV (.agg #[.int .i64 am.1,.int .i64 am.2]) (Ym isAgg66 sizeOf66 rfl rfl au)<|Xx (col:=ag) #[.int .i64 0,.int .i64 0] 1 zeroValue66 ?_;intro a3 a4 ae ax ay;refine Xf ay ?_;intro a5 az a2 an;refine go ?_;refine Y7 (col:=ae) (by kernel_rfl) (by kernel_rfl)<|go ?_;refine qF ⟨_,_,rfl⟩ ?_;refine qW (fun _ hC=>((an.atN).nth (q:=0) rfl).gr (hC.bl ae)) ?_;obtain ⟨a6,ai,hm⟩:=bZ hm;replace aa:=(aa.grow ax).kp az a2;refine qI ai ((h0.ks aa).addr ai)<|qW (fun _ hC=>((h0.ks aa).gr (hC.bl ae)).atInt ai) ?_;refine qF ⟨_,_,rfl⟩ ?_;refine qW (fun _ hC=>((an.atN).nth (q:=1) rfl).gr (hC.bl ae)) ?_;refine go ?_;refine X2 ?_;intro a7 hC;replace aa:=aa.grow (hC.bl ae);refine Zm hm (fun hb hm=>go ?_) fun hb hm=>go ?_
  ·cases hm;exact ⟨rfl,rfl,aa.below⟩
  exact ⟨ao.length,by simp,rfl,⟨_,_,_,rfl,ap,hm,aa,(Y2 (congrArg (Value.int .i64) (Yx (aK aq (h1.ks aa).1.1))) rfl)⟩⟩
def Zgt (N:Nat) (ac:List Int) (aa:Re):Nat→Int→Option Bool
  | 0,_=>none
  | ae+1,ab=>if (decide (ab<(aa.length:Int)))=true then ((Zi aa ab).bind fun ad=>(Zi ac ad.1).bind fun af=>if (!decide (af=ad.2))=true then (some false) else ((Zgt N ac aa ae) (i64.wrap (ab+1)))) else (some true)
def Zn9 (N:Nat) (aa:List Int) (ab:Re):Option Bool:=
  Zgt N aa ab N 0
theorem Z4j {N ai aj:Nat} {a0 a1:Option Addr} {col:Zd} {w0:World} {ae:R2} {af:Re} {r:Bool} (hm:Zn9 N ae af=some r) (h0:Sl rI col w0 a0 ai ae) (h1:Sl (Za.pair rI rI) col w0 a1 aj af):
    Calls prog 78 #[.slice a0 ae.length ai,.slice a1 af.length aj] w0 (Wx w0 r):=by
 refine Z6 4 (m:=26) func78 rfl rfl rfl rfl rfl ?_;rw [Zn9.eq_1] at hm;have aa:=St.start col w0;refine go ?_;refine Zs [0,1,1000000] (fun n f ak=>∃ ac ag ad,ad=n∧Zgt N ae af ad ag=some r∧St w0 (Zf col) ac ak∧[5].map f=[.int .i64 ag]) N ⟨_,0,_,rfl,hm,aa,rfl⟩ ?_;clear hm;intro n f ak hI;obtain ⟨ac,ag,ad,hn,hm,aa,hs⟩:=hI;subst hn;refine .lL [5] hs ?_;replace h0:=h0.k0;replace h1:=h1.k0
 cases ad with
 | zero=>rw [Zgt.eq_1] at hm;cases hm
 | succ ad=>
  rw [Zgt.eq_2] at hm;refine go ?_;refine Zm hm (fun hb hm=>go ?_) fun hb hm=>go ?_
  ·refine Y7 (col:=ac) (by kernel_rfl) (by kernel_rfl)<|go ?_;obtain ⟨av,ab,hm⟩:=bZ hm;refine qI ab ((h1.ks aa).addr ab)<|qF (X8 ((h1.ks aa).addr ab)) ?_;obtain ⟨_,al,am⟩:=(h1.ks aa).atN ab;obtain ⟨_,_,rfl,an,ao⟩:=Yb al;obtain ⟨rfl,_⟩:=an;obtain ⟨rfl,_⟩:=ao;refine qW (fun _ hC=>((am).nth (q:=0) rfl).gr (hC.bl ac)) ?_;obtain ⟨aw,ah,hm⟩:=bZ hm;refine qI ah ((h0.ks aa).addr ah)<|qW (fun _ hC=>((h0.ks aa).gr (hC.bl ac)).atInt ah) ?_;refine go ?_;refine qI ab ((h1.ks aa).addr ab)<|qF (X8 ((h1.ks aa).addr ab)) ?_;obtain ⟨_,ap,aq⟩:=(h1.ks aa).atN ab;obtain ⟨_,_,rfl,ar,au⟩:=Yb ap;obtain ⟨rfl,_⟩:=ar;obtain ⟨rfl,_⟩:=au;refine qW (fun _ hC=>((aq).nth (q:=1) rfl).gr (hC.bl ac)) ?_;refine go ?_;refine X2 ?_;intro ax hC;replace aa:=aa.grow (hC.bl ac);refine Zm hm (fun hb hm=>go ?_) fun hb hm=>go ?_
   ·cases hm;exact ⟨rfl,rfl,aa.below⟩
   exact ⟨ad,by omega,rfl,⟨_,_,_,rfl,hm,aa,rfl⟩⟩
  cases hm;exact ⟨rfl,rfl,aa.below⟩
def W4 (n:Xa) (k:Nat):Rat:=Uq n (Xh (Zg n) k) n.2.1.length 0 1
def T7 (w:List Int) (F:List R5):Bool:=F.all fun f=>decide (w.getD f.1.toNat 0=f.2)
section
variable {N W K:Nat} {n:Xa} (hf:Y8 N n)
include hf
theorem Z9m {w:List Int} (hw:U3 (Zg n) w) (hP:Zp (Zg n)≤65536) (hN:2000000<N):Zjg N n w=some (if Yl (Zg n) w+1<Zp (Zg n) then (Xh (Zg n) (Yl (Zg n) w+1),true) else ([],false)):=by
 have b:=hf.le;have a:=hf.ev.v
 obtain ⟨d,_⟩:=Zke hw
 have c:(Zg n).length=n.2.1.length:=by rw [Zg,aE,a]
 have h:=Z0i hf hw hP w.length N (bB _) (by omega) (by
  rw [aG (by omega),List.drop_length];rfl)
 rw [dK,Nat.sub_self,List.replicate_zero,cL] at h
 rw [Zjg,Zx (by simp only [nN,maxLen];omega),bL,Zr (by omega)]
 exact h
variable (hs:W6 n W) (hr:Xg N (8 * K+40)) (hWK:1025 * (W+2)+15≤K) (hN:4611686018427387903<N) (hP:Zp (Zg n)≤65536)
include hs hr hWK hN hP
theorem Zzi:∀ (m k f:Nat),k+(m+1)=Zp (Zg n)→m+1<f→Zdq N n f ((bG k).map (Xh (Zg n))) ((bG k).map fun j=>Z2 (W4 n j)) (Xh (Zg n) k) true=some ((bG (Zp (Zg n))).map (Xh (Zg n)),(bG (Zp (Zg n))).map fun j=>Z2 (W4 n j))
 | m,k,0,_,h=>by omega
 | m,k,f+1,i,l=>by
  have a:=Zcs (Zg n) k (Vo hf) (by omega)
  have b:Zja N (n.1,n.2.1,n.2.2.1,n.2.2.2.1,n.2.2.2.2) (Xh (Zg n) k)=some (Z2 (W4 n k)):=Z88 hf (Zct hf a) hs hr (by omega) (by omega)
  have c:Zjg N (n.1,n.2.1,n.2.2.1,n.2.2.2.1,n.2.2.2.2) (Xh (Zg n) k)=_:=Z9m hf a hP (by omega)
  have d:(bG k).map (Xh (Zg n))++[Xh (Zg n) k]=(bG (k+1)).map (Xh (Zg n)):=by rw [fK,bV,iT]
  have e:((bG k).map fun j=>Z2 (W4 n j))++[Z2 (W4 n k)]=(bG (k+1)).map fun j=>Z2 (W4 n j):=by rw [fK,bV,iT]
  rw [Zdq.eq_2,if_pos rfl,Zx (by simp only [aE,cC,aH,maxLen];omega),b,oB,Zx (by simp only [aE,cC,aH,maxLen];omega),c,oB,Zyc (Zg n) k (Vo hf) (by omega)]
  cases m with
  | zero=>
   rw [if_neg (by omega)]
   obtain ⟨f,rfl⟩:∃ f',f=f'+1:=⟨f - 1,by omega⟩
   rw [Zdq.eq_2]
   dsimp only
   rw [if_neg (by decide),d,← i]
   exact congrArg (fun z=>some ((bG (k+1)).map (Xh (Zg n)),z)) e
  | succ m=>
   rw [if_pos (by omega),d]
   dsimp only
   have g:=Zzi m (k+1) f (by omega) (by omega)
   rw [← e] at g
   exact g
theorem Z85 (hA:V9 N n [] []=some 0):Zf5 N n=some ((bG (Zp (Zg n))).map (Xh (Zg n)),(bG (Zp (Zg n))).map fun j=>Z2 (W4 n j)):=by
 have a:V9 N (n.1,n.2.1,n.2.2.1,n.2.2.2.1,n.2.2.2.2) [] []=some 0:=hA
 have i:=hf.le;have c:=hf.ev.v
 have d:=Zec (Zg n) (Vo hf)
 have h:=Zzi hf hs hr hWK hN hP (Zp (Zg n) - 1) 0 N (by omega) (by omega)
 have e:Xh (Zg n) 0=aC n.2.1.length 0:=by
  have f:(Zg n).length=n.2.1.length:=by rw [Zg,aE,c]
  rw [← f]
  generalize Zg n=b
  induction b with
  | nil=>rfl
  | cons s b g=>rw [Xh,Nat.zero_div,Nat.zero_mod,g,nC,List.replicate_succ];rfl
 rw [e] at h
 rw [Zf5,a,oB,if_neg (by decide),Zx (by simp only [maxLen];omega)]
 exact h
omit hf hs hr hWK hP hN in
theorem Zyb {w:List Int} (hw:Us n w):∀ F:List R5,F.all (V2 n)=true→Zez w F=some (T7 w F)
 | [],_=>rfl
 | f :: F,h=>by
  rw [cK,Bool.and_eq_true] at h
  have b:=h.1
  simp only [V2,Bool.and_eq_true,decide_eq_true_eq] at b
  have a:Zi w f.1=some (w.getD f.1.toNat 0):=by
   have:=Vg (l:=w) 0 (j:=f.1.toNat) (by rw [hw.len];omega)
   rwa [show ((f.1.toNat:Nat):Int)=f.1 by omega] at this
  have c:=Zyb hw F h.2
  rw [Zez.eq_2,a,oB,T7,cK]
  by_cases he:w.getD f.1.toNat 0=f.2
  ·rw [if_neg (by rw [decide_eq_true he];decide),c,decide_eq_true he,Bool.true_and,T7]
  ·rw [if_pos (by rw [decide_eq_false he];rfl),decide_eq_false he,Bool.false_and]
omit hf hs hr hWK hP hN in
theorem Z0a {w:List Int} (hw:Us n w) (F:List R5) (hF:F.all (V2 n)=true) (hl:F.length≤4194304):∀ (f i:Nat),i≤F.length→F.length<f+i→Zgt N w F f (i:Int)=some (T7 w (F.drop i))
 | 0,i,a,c=>by omega
 | f+1,i,a,c=>by
  rw [Zgt.eq_2]
  by_cases hi:i<F.length
  ·have a:=cT.1 hF _ (aD hi)
   simp only [V2,Bool.and_eq_true,decide_eq_true_eq] at a
   have b:Zi w F[i].1=some (w.getD F[i].1.toNat 0):=by
    have:=Vg (l:=w) 0 (j:=F[i].1.toNat) (by rw [hw.len];omega)
    rwa [show ((F[i].1.toNat:Nat):Int)=F[i].1 by omega] at this
   rw [if_pos (dT (by omega)),Zu hi,oB,b,oB,aL hi,T7,cK]
   by_cases he:w.getD F[i].1.toNat 0=F[i].2
   ·rw [if_neg (by rw [decide_eq_true he];decide),wS (by omega),Z0a hw F hF hl f (i+1) (by omega) (by omega),decide_eq_true he,Bool.true_and,T7]
   ·rw [if_pos (by rw [decide_eq_false he];rfl),decide_eq_false he,Bool.false_and]
  ·rw [if_neg (dF (by omega)),aG (by omega)];rfl
variable (h6:Zp (Zg n)≤600)
include h6
omit hN hP hr h6 in
theorem Zsh {q:Rat} {j:Nat} (hj:j≤600) (h:Bd (U5 n.2.2.2.2) j q):qs q≤K:=by
 have c:=hf.ev.t;have b:=hf.le
 have a:=Zqn n.2.2.2.2
 have d:=(h.up (K:=600) hj).qs a (by decide)
 have e:=Tp 600 (U5 n.2.2.2.2)
 have f:=Zue (W:=W) n.2.2.2.2 fun t h=>⟨hs.tq t h,hs.lim t h⟩
 have g:(Ze 600).length≤1:=W7.2 (by decide)
 have h6:n.2.2.2.2.length * (W+1)≤1024 * (W+1):=Nat.mul_le_mul_right _ (by omega)
 omega
omit hf hs hr hWK hN hP h6 in
theorem Zxs {F:List R5} {V:List Int} (h:Vw n F V=0):F.all (V2 n)=true:=by
 rw [Vw] at h
 split at h
 ·assumption
 ·cases h
end
def Zjn:List Int→Option R2
  | []=>some []
  | aa :: ab=>((Zjn ab)).bind fun ac=>some (aa :: ac)
def Zom (aa:List Int):Option R2:=
  Zjn aa
theorem Z43 (col:Zd) (w0:World) (g0:Nat) (af0:Option Addr) (capf0:Nat) (aa:List Int) (hf0:Sl rI col w0 af0 capf0 aa) (hb0:Zj 36 0 col w0 g0 #[.slice af0 aa.length capf0]) (r:List Int) (hm:Zom aa=some r):
    Zel prog 1 129 [.pointer (some ⟨g0,0,none⟩)] (fun (y:Int) (col:Zd) (w:World) (args:List Value)=>args=[.int .i64 y]) r col w0:=by
 intro l J X hjs hxs hy ab;refine Zhe (m:=16) (args:=[.func (.yield l) #[] #[],.pointer (some ⟨g0,0,none⟩)]) func129 rfl rfl rfl rfl ?_;rw [Zom.eq_1] at hm;refine go ?_;refine lW hb0.at1<|go ?_;refine Zs [0,5,6,1000000] (fun n f ae=>∃ af r ac ad,n=ad.length∧aa.drop ac=ad∧Zjn ad=some r∧J r af ae∧Sl rI af ae af0 capf0 aa∧Zj 36 0 af ae g0 #[.slice af0 aa.length capf0]∧[7].map f=[.int .i64 ac]) aa.length ⟨_,_,0,_,rfl,rfl,hm,ab,hf0,hb0,rfl⟩ ?_;clear hm;intro n f ae hI;obtain ⟨af,r,ac,ad,hn,hl,hm,ab,hf0,hb0,hs⟩:=hI;subst hn;refine .lL [7] hs ?_
 cases ad with
 | nil=>
  have hk:¬ ((ac:Int)<(aa.length:Int)):=by have:=aM.1 hl;omega
  have hkb:=decide_eq_false hk;rw [Zjn.eq_1] at hm;refine go ?_;refine Yc (congrArg Value.bool hkb)<|go ?_;cases hm;exact ⟨rfl,⟨_,rfl⟩,_,.inl ab⟩
 | cons ai aj=>
  obtain ⟨ag,ak,al⟩:=Yu hl;have hk:(ac:Int)<(aa.length:Int):=by omega
  have hkb:=decide_eq_true hk;rw [Zjn.eq_2] at hm;refine go ?_;refine Yd (congrArg Value.bool hkb)<|go ?_;refine lI ag (hf0.addr ag)<|lW (hf0.atInt ag) ?_;refine go ?_;refine lM (.func (.yield l) #[] #[])<|Xr rfl ?_;obtain ⟨an,hc_8m,am⟩:=bZ hm;cases am;have hm:=hc_8m;refine ly1 rfl rfl rfl (hy _ _ _ _ [.int .i64 ai] ab rfl) ?_;rintro _ ao ⟨ap,ah,⟨rfl,hJ⟩ | ⟨rfl,hX⟩⟩
  ·refine ⟨_,rfl,?_⟩;have ab:=hJ;refine go ?_;refine Yc rfl<|go ?_;replace hf0:=hf0.kpp ah;replace hb0:=hb0.kpp ah;exact ⟨aj.length,by simp,rfl,⟨_,_,_,_,rfl,ak,hm,ab,hf0,hb0,(Y2 (congrArg (Value.int .i64) (Yx (aK al hf0.1.1))) rfl)⟩⟩
  refine ⟨_,rfl,?_⟩;have ab:=hX;refine go ?_;refine Yd rfl<|Wh ?_;exact ⟨rfl,⟨_,rfl⟩,_,.inr ab⟩
def Zlv (aa:List Int):Option R2:=
  Zom aa
theorem Z42 {ac:Nat} {a0:Option Addr} {col:Zd} {w0:World} {aa r:R2} (hm:Zlv aa=some r) (h0:Sl rI col w0 a0 ac aa):
    Calls prog 80 #[.slice a0 aa.length ac] w0 (fun e w'=>∃ (col':Zd) (rv1:Value),e= .returned (rv1)∧Zn col w0 col' w'∧It prog 1 rv1 (fun (y:Int) (col:Zd) (w:World) (args:List Value)=>args=[.int .i64 y]) r qz col' w'):=by
 refine Z6 2 (m:=4) func80 rfl rfl rfl rfl rfl ?_;rw [Zlv.eq_1] at hm;have ab:=St.start col w0;refine go ?_;refine Zbf (col:=(Zf col)) (v:=(.slice a0 aa.length ac)) 1 rfl rfl ?_;intro ad ai ag aj ae;replace ae:Zj 36 1 ag ai ad #[.slice a0 aa.length ac]:=ae;refine lv (v:=_) rfl rfl (Tf rfl)<|go ?_;refine lV (.func (.func 129) #[] #[.pointer (some ⟨ad,0,none⟩)]) (Zy3 rfl)<|lA (.func (.func 129) #[] #[.pointer (some ⟨ad,0,none⟩)])<|go ?_;replace ab:=ab.grow aj;have af:=ab.finBox (G:=(fun n=>bif aJ n 1 then 0 else 0)) ae (by decide) (by decide) (show (fun n=>bif aJ n 1 then 0 else 0) 1=0 from rfl);have h0f:=ab.finSl (g:=(fun n=>bif aJ n 1 then 0 else 0)) rfl (h0.k0.ks ab);refine ⟨rfl,Vh w0.heap.size col ag (fun n=>bif aJ n 1 then 0 else 0),_,rfl,ab.fin (fun n=>bif aJ n 1 then 0 else 0),129,[.pointer (some ⟨ad,0,none⟩)],rfl,call129,?_⟩;intro col9 w9 ah hk9;exact Z43 col9 w9 ad a0 ac aa (h0f.itk ah hk9 rfl) (af.itk ah hk9 rfl) r hm
theorem Z51:Y1 prog 3 1 8:=⟨Tryz.t3,_,rfl,rfl,rfl,rfl,rfl⟩
def Zd5:List Int→R2→Option R2
  | [],aa=>some aa
  | ab :: ac,aa=>Zt ((aa.length+[ab].length) * 8≤140737488355328∧aa.length+[ab].length≤maxLen) ((Zd5 ac) (aa++[ab]))
def Zoc (aa:List Int):Option R2:=
  Zd5 aa ([]:List Int)
theorem Z4q {col:Zd} {w0:World} {v1:Value} {an:List Int} {r:R2} (c1:Nat) (hm:Zoc an=some r) (h1:It prog 1 v1 (fun (y:Int) (col:Zd) (w:World) (args:List Value)=>args=[.int .i64 y]) an qz col w0):
    Calls prog 166 #[.slice none 0 0,v1] w0 (W2 .i64 3 c1 col w0 r):=by
 refine Ztu 4 (mc:=499) (m:=13) (args:=[.slice none 0 0,v1]) func166 rfl rfl rfl rfl rfl ?_;rw [Zoc.eq_1] at hm;have aa:=St.start col w0;replace h1:=h1.k0;have hmk:Yp 499 (Zf col) w0 []:=.nil;refine go ?_;refine Zbf (col:=(Zf col)) (v:=(nI)) 1 rfl rfl ?_;intro ao a1 aw ap ab;replace ab:Zj 36 1 aw a1 ao #[(nI)]:=ab;refine go ?_;refine lv (v:=v1) rfl rfl (Tw rfl)<|go ?_;replace hmk:=hmk.gr ap;replace aa:=aa.grow ap;refine Zmm (psl:=[7]) (arr:=(fun (y:Int) (col:Zd) (w:World) (args:List Value)=>args=[.int .i64 y])) (ys:=an) (col:=aw) 498 rfl (h1.gr ap) rfl hmk rfl rfl (by rintro _ _ _ _ rfl;rfl) (fun ys_ ad af=>∃ (ag:Option Addr) (ah:Nat) (ac:List Int),Zd5 ys_ ac=some r∧St w0 (Zf col) ad af∧Zc rI 3 2 ad af ag ah ac∧Zj 36 1 ad af ao #[.slice ag ac.length ah]) (fun _ _ _=>False) ?_ ?_ ⟨none,0,([]:List Int),hm,aa,Zc.nil,ab⟩ ?_ ?_ ?_
 ·intro ys_ ad af col2_ w2_ hJ hk;obtain ⟨ag,ah,ac,hm,aa,ae,ab⟩:=hJ;exact ⟨ag,ah,ac,hm,aa.kpp hk rfl rfl,ae.kpp hk rfl rfl,ab.kpp hk rfl⟩
 ·intro _ _ _ _ _ h _;exact h
 ·intro ba bb bc am bd ad af args hJ hrec hmk harr;obtain ⟨ag,ah,ac,hm,aa,ae,ab⟩:=hJ;rw [Zd5.eq_2] at hm;have hki:=Z5.refl (pC 1) ad af;subst harr;refine go ?_;refine ⟨_,hrec,?_⟩;intro be bf aj ax hrec2;have hrec:=hrec2;refine go ?_;replace ab:=ab.kp aj;refine lW ab.at1<|Xr rfl<|Wj (col:=ad) [am] 3 ?_;intro bg a2 a3 ai a4;obtain ⟨ay,hm⟩:=Zv hm;replace ae:=(ae.kp aj).gr ai;refine V8 (col:=a3) (w:=a2) (r:=rI) (c:=2) (c2:=2) (ae.ex) (a4.srcN (NB.int (k:=.i64))) rfl underlying36 Z51 rfl rfl rfl ay.1 ay.2 (by decide) ?_;intro aq ar bh a5 ak au;replace hmk:=((hmk.kp aj).gr ai).kpp ak;replace hki:=(hki.kp aj ax rfl).gr ai;replace ab:=(ab.gr ai).kpp ak;replace hrec:=(hrec.gr ai).kpp ak;replace hki:=hki.trans (ak.mono (by first | exact Zl7 rfl | exact pCo_p1 rfl | exact pCo_pS rfl | exact fun _=>Zl6 | exact fun _ h=>h | exact fun _ _=>rfl));refine Qu (v:=(.slice aq ((ac++[am]).length) ar)) ab sizeOf36 rfl rfl (by intro u hu;simp only [Value.cells,aP,bA,or_false] at hu;subst hu;rfl) rfl rfl ?_;intro a6 al az av;replace av:Zj 36 1 a5 a6 ao #[.slice aq ((ac++[am]).length) ar]:=av;have a7:=(au.kp al).new;refine Zl ?_;replace aa:=(((aa.kp aj ax).grow ai).kpp ak).kp al az;replace hmk:=hmk.kp al;exact ⟨_,hki.kp al az rfl,⟨aq,ar,(ac++[am]),hm,aa,a7,av⟩,hrec.kp al,hmk⟩
 ·intro a8 ad af hJ hmk;obtain ⟨ag,ah,ac,hm,aa,ae,ab⟩:=hJ;rw [Zd5.eq_1] at hm;refine go ?_;refine lW ab.at1<|go ?_;cases hm;refine ⟨_,(a8 :: []),rfl,hmk,?_⟩;intro bi a0 a9;replace aa:=aa.kp a0 a9;exact ⟨Vh w0.heap.size col ad (fun n=>bif aJ n 2 then c1 else 0),ag,ah,rfl,aa.fin (fun n=>bif aJ n 2 then c1 else 0),aa.finOwn (g:=(fun n=>bif aJ n 2 then c1 else 0)) rfl (ae.kp a0) (by decide) (by decide) rfl⟩
 intro _ _ _ _ h;exact h.elim
def Zoi (aa:List Int):Option R2:=
  (Zoc aa).bind fun ab=>some ab
theorem Z4v {col:Zd} {w0:World} {v0:Value} {ab:List Int} {r:R2} (c1:Nat) (hm:Zoi ab=some r) (h0:It prog 1 v0 (fun (y:Int) (col:Zd) (w:World) (args:List Value)=>args=[.int .i64 y]) ab qz col w0):
    Calls prog 127 #[v0] w0 (W2 .i64 3 c1 col w0 r):=by
 refine Z6 2 (m:=5) func127 rfl rfl rfl rfl rfl ?_;rw [Zoi.eq_1] at hm;have aa:=St.start col w0;refine go ?_;refine lv (v:=v0) rfl rfl (Tw rfl) ?_;obtain ⟨af,ac,hm⟩:=bZ hm;refine Zk (Z4q 1 ac h0.k0) ?_;rintro _ ag ⟨ah,ai,aj,rfl,ad,ae⟩;refine ⟨_,rfl,go ?_⟩;cases hm;replace aa:=aa.grow ad;exact ⟨rfl,_,_,_,rfl,aa.fin (cm [(1,c1)]),aa.fo ae⟩
theorem Z40 (col:Zd) (w0:World) (qc0:Nat) (hd:Tm [qc0]=true) (a0:Option Addr) (ab:Nat) (aa:List Int) (h0:Zc rI 3 qc0 col w0 a0 ab aa) (r:List Int) (hm:Zno aa=some r):
    Calls prog 128 #[.slice a0 aa.length ab] w0 (fun e w'=>∃ col',e= .returned (.tuple #[])∧Z5 (pS [qc0]) col w0 col' w'∧Zc rI 3 qc0 col' w' a0 ab r∧r.length=aa.length):=
  Z91 Tryz.slices_Sort_int Tryz.slices_Sort_int_none col w0 qc0 hd a0 ab aa h0 r hm
def Zlu (aa:List Int):Option R2:=
  (Zoi aa).bind fun ab=>(Zno ab).bind fun ac=>some ac
theorem Z41 {col:Zd} {w0:World} {v0:Value} {af:List Int} {r:R2} (c1:Nat) (hm:Zlu af=some r) (h0:It prog 1 v0 (fun (y:Int) (col:Zd) (w:World) (args:List Value)=>args=[.int .i64 y]) af qz col w0):
    Calls prog 79 #[v0] w0 (W2 .i64 3 c1 col w0 r):=by
 refine Z6 2 (m:=9) func79 rfl rfl rfl rfl rfl ?_;rw [Zlu.eq_1] at hm;have ad:=St.start col w0;refine go ?_;refine lv (v:=v0) rfl rfl (Tw rfl) ?_;obtain ⟨ae,ah,hm⟩:=bZ hm;refine Zk (Z4v 1 ah h0.k0) ?_;rintro _ ao ⟨ai,aa,ab,rfl,aj,ak⟩;refine ⟨_,rfl,go ?_⟩;obtain ⟨ac,al,hm⟩:=bZ hm;refine Zk (Z40 ai _ 1 rfl aa ab ae ak ac al) fun _ ap ⟨aq,e',am,an,ag⟩=>⟨_,e',?_⟩;refine .ld (d:=3) (v:=(.slice aa ac.length ab)) (congrArg (fun n=>Value.slice aa n ab) (show ae.length=ac.length from ag.symm)) ?_;refine .ld (d:=6) (v:=(.slice aa ac.length ab)) (congrArg (fun n=>Value.slice aa n ab) (show ae.length=ac.length from ag.symm)) ?_;refine go ?_;cases hm;replace ad:=(ad.grow aj).kpp am;exact ⟨rfl,_,_,_,rfl,ad.fin (cm [(1,c1)]),ad.fo an⟩
def Zlq (ab:List Int) (aa:Nat) (ac:Int) (kk_L1:(Nat→Int→Option R5)) (ad:Int) (ae:Bool):Option R5:=
  if ae=true then (some (0,3)) else ((Zi ab (aa:Int)).bind fun af=>kk_L1 (aa+1) (i64.wrap ((i64.wrap (ac * af))+ad)))
def Za5 (aa:List Int):List Int→Nat→Int→Option R5
  | [],ab,ac=>some (ac,0)
  | ad :: ae,ab,ac=>if (decide (ad<0))=true then (Zlq aa ab ac (Za5 aa ae) ad true) else ((Zi aa (ab:Int)).bind fun af=>Zlq aa ab ac (Za5 aa ae) ad (decide (af≤ad)))
def Zlp (aa ab:List Int):Option R5:=
  (Za6 aa).bind fun ac=>if (!decide (ac.2=0))=true then (some (0,ac.2)) else (if (!decide ((ab.length:Int)=(aa.length:Int)))=true then (some (0,60)) else (Za5 aa ab 0 0))
theorem Z4o {ah ai:Nat} {a0 a1:Option Addr} {col:Zd} {w0:World} {ac ab:R2} {r:R5} (hm:Zlp ac ab=some r) (h0:Sl rI col w0 a0 ah ac) (h1:Sl rI col w0 a1 ai ab):
    Calls prog 84 #[.slice a0 ac.length ah,.slice a1 ab.length ai] w0 (fun e w'=>e= .returned (.tuple #[.int .i64 r.1,.int .i64 r.2])∧Below w0.heap.size w0 w'):=by
 refine Zcp 4 5 (m:=51) (args:=[.slice a0 ac.length ah,.slice a1 ab.length ai]) func84 rfl rfl rfl rfl rfl ?_;rw [Zlp.eq_1] at hm;have aa:=St.start col w0;refine go ?_;obtain ⟨af,ax,hm⟩:=bZ hm;replace h0:=h0.k0;refine Zk (Znb ax (h0.ks aa)) fun _ ay ⟨e',aj⟩=>⟨_,e',?_⟩;replace h1:=h1.k0;replace aj:Zn (Zf col) w0 (Zf col) ay:=.of_below aj;refine lM (.tuple #[.int .i64 af.1,.int .i64 af.2])<|lV (.int .i64 af.1) (Xu rfl rfl)<|lV (.int .i64 af.2) (Xu rfl rfl)<|go ?_;replace aa:=aa.grow aj;refine Zm hm (fun hb hm=>go ?_) fun hb hm=>go ?_
 ·cases hm;exact ⟨rfl,rfl,aa.below⟩
 refine Zm hm (fun hb hm=>go ?_) fun hb hm=>go ?_
 ·cases hm;exact ⟨rfl,rfl,aa.below⟩
 refine Zs [0,24,25,1000000] (fun n f ap=>∃ aq ad ag ae,n=ae.length∧ab.drop ad=ae∧Za5 ac ae ad ag=some r∧St w0 (Zf col) aq ap∧[26,8].map f=[.int .i64 ad,.int .i64 ag]) ab.length ⟨_,0,0,_,rfl,rfl,hm,aa,rfl⟩ ?_;clear hm;intro n f ap hI;obtain ⟨aq,ad,ag,ae,hn,hl,hm,aa,hs⟩:=hI;subst hn;refine .lL [26,8] hs ?_
 cases ae with
 | nil=>
  have hk:¬ ((ad:Int)<(ab.length:Int)):=by have:=aM.1 hl;omega
  have hkb:=decide_eq_false hk;rw [Za5.eq_1] at hm;refine go ?_;refine Yc (congrArg Value.bool hkb)<|go ?_;cases hm;exact ⟨rfl,rfl,aa.below⟩
 | cons ar au=>
  obtain ⟨ak,az,a2⟩:=Yu hl;have hk:(ad:Int)<(ab.length:Int):=by omega
  have hkb:=decide_eq_true hk;rw [Za5.eq_2] at hm;refine go ?_;refine Yd (congrArg Value.bool hkb)<|go ?_;refine lI ak ((h1.ks aa).addr ak)<|lW ((h1.ks aa).atInt ak)<|Y4 rfl<|Y4 rfl<|Zl<|Z0<|Z0 ?_;refine Wp.cutK [0,10,24,25,26,8,9,1000000] (fun f av=>∃ aw al,Zlq ac ad ag (Za5 ac au) ar al=some r∧St w0 (Zf col) aw av∧[40].map f=[.bool al]) ?_ ?_
  ·intro f av hJ;obtain ⟨aw,al,hm,aa,hs⟩:=hJ;rw [Zlq.eq_1] at hm;refine .lL [40] hs ?_;refine Zm hm (fun hb hm=>go ?_) fun hb hm=>go ?_
   ·cases hm;exact ⟨rfl,rfl,aa.below⟩
   obtain ⟨a4,am,hm⟩:=bZ hm;refine lI am ((h0.ks aa).addr am)<|lW ((h0.ks aa).atInt am) ?_;refine go ?_;exact ⟨au.length,by simp,rfl,⟨_,_,_,_,rfl,az,hm,aa,(Y2 (congrArg (Value.int .i64) (Yx (aK a2 (h1.ks aa).1.1))) rfl)⟩⟩
  refine go ?_;refine Xn hm (fun an hm=>go ?_) fun an hm=>go ?_
  ·refine lV (.bool true) (Zw (congrArg Value.bool an) rfl)<|Zl ?_;exact ⟨rfl,_,_,hm,aa,rfl⟩
  obtain ⟨a3,ao,hm⟩:=bZ hm;refine lI ao ((h0.ks aa).addr ao) ?_;refine go ?_;refine lW ((h0.ks aa).atInt ao)<|go ?_;refine lV (.bool (decide (a3≤ar))) (Xk (congrArg Value.bool an) rfl)<|Zl ?_;exact ⟨rfl,_,_,hm,aa,rfl⟩
theorem Z55:Y1 prog 3 1 8:=⟨Tryz.t3,_,rfl,rfl,rfl,rfl,rfl⟩
theorem Z6a:Y1 prog 42 3 56:=⟨Tryz.t42,_,rfl,rfl,rfl,rfl,rfl⟩
def Zc3 (N:Nat) (ah ac:List Int) (ad:List R1) (kk_L3:(List Int→R2→R6→Option Rb)) (aa:List Int×R1):List Int→R2→Option Rb
  | [],ab=>(Zlp ac ab).bind fun ai=>(Zi ad ai.1).bind fun ae=>(Zbi N ((ae.1.1,ae.1.2),ae.2) ((aa.2.1.1,aa.2.1.2),aa.2.2)).bind fun af=>(some (ad.set (aA ai.1) ((af.1.1,af.1.2),af.2))).bind fun aj=>kk_L3 ah ac aj
  | ak :: al,ab=>(Zi aa.1 ak).bind fun ag=>Zt ((ab.length+[ag].length) * 8≤140737488355328∧ab.length+[ag].length≤maxLen) ((Zc3 N ah ac ad kk_L3 aa al) (ab++[ag]))
def Q0 (N:Nat) (ad:Re):List Rj→R2→R2→R6→Option Rb
  | [],aa,ab,ac=>some ((aa,ab,ac),0)
  | ae :: af,aa,ab,ac=>(Znr ae.1 ad).bind fun ag=>if (!ag)=true then ((Q0 N ad af) aa ab ac) else (Zc3 N aa ab ac (Q0 N ad af) ae aa ([]:List Int))
def Zc2 (N:Nat) (ab:R0) (ad:Re) (ae:R5):Nat→R2→R2→R6→Int→Option Rb
  | 0,_,_,_,_=>none
  | ai+1,af,ag,ac,ah=>if (decide (ah<ae.1))=true then ((Zeu N ([]:List R1)).bind fun aa=>Zt ((ac.length+[((aa.1.1,aa.1.2),aa.2)].length) * 56≤140737488355328∧ac.length+[((aa.1.1,aa.1.2),aa.2)].length≤maxLen) ((Zc2 N ab ad ae ai) af ag (ac++[((aa.1.1,aa.1.2),aa.2)]) (i64.wrap (ah+1)))) else ((Zew N (ab.1,ab.2.1,ab.2.2.1,ab.2.2.2.1,ab.2.2.2.2)).bind fun aj=>Q0 N ad aj af ag ac)
def Zey (N:Nat) (ae:R0) (af:Re) (ag:Rh) (ah:List Int):Nat→R2→R2→R6→Int→Option Rb
  | 0,_,_,_,_=>none
  | aj+1,ab,aa,ai,ac=>if (decide (ac<(ah.length:Int)))=true then ((Zi ab ac).bind fun ak=>(Zi ag.1 ak).bind fun ad=>Zt ((aa.length+[ad].length) * 8≤140737488355328∧aa.length+[ad].length≤maxLen) ((Zey N ae af ag ah aj) ab (aa++[ad]) ai (i64.wrap (ac+1)))) else ((Za6 aa).bind fun al=>Zc2 N ae af al N ab aa ai 0)
def Qz (N:Nat) (aa:R0) (ac:List Int) (ad:Re):Option Rb:=
  (Tq N (aa.1,aa.2.1,aa.2.2.1,aa.2.2.2.1,aa.2.2.2.2) ad ac).bind fun ab=>if (!decide (ab.2=0))=true then (some ((([]:List Int),([]:List Int),([]:List R1)),ab.2)) else ((Zlv ac).bind fun af=>(Zlu af).bind fun ae=>Zey N aa ad ab ae N ae ([]:List Int) ([]:List R1) 0)
theorem Zm4 {N ck cl cn co d0 a8:Nat} {cp cq cr ct a1 a2:Option Addr} {col:Zd} {w0:World} {ah:R0} {di:R2} {al:Re} {r:Rb} (c1 c2 c3:Nat) (hm:Qz N ah di al=some r) (dj:Sl Za.str col w0 cp ck ah.2.1) (dk:Sl rV col w0 cq cl ah.2.2.1) (dl:Sl rP col w0 cr cn ah.2.2.2.1) (dm:Sl (Za.slice rQ) col w0 ct co ah.2.2.2.2) (h1:Sl rI col w0 a1 d0 di) (h2:Sl (Za.pair rI rI) col w0 a2 a8 al):
    Calls prog 26 #[(.agg #[.string ah.1,.slice cp ah.2.1.length ck,.slice cq ah.2.2.1.length cl,.slice cr ah.2.2.2.1.length cn,.slice ct ah.2.2.2.2.length co]),.slice a1 di.length d0,.slice a2 al.length a8] w0 (fun e w'=>∃ col' ra1 rc2 ra4 rc5 ra7 rc8,e= .returned (.tuple #[(.agg #[.slice ra1 r.1.1.length rc2,.slice ra4 r.1.2.1.length rc5,.slice ra7 r.1.2.2.length rc8]),.int .i64 r.2])∧Zn col w0 col' w'∧Zc rI 3 c1 col' w' ra1 rc2 r.1.1∧Zc rI 3 c2 col' w' ra4 rc5 r.1.2.1∧Zc (rO 45) 42 c3 col' w' ra7 rc8 r.1.2.2):=by
 refine Ztv (m:=112) (args:=[(.agg #[.string ah.1,.slice cp ah.2.1.length ck,.slice cq ah.2.2.1.length cl,.slice cr ah.2.2.2.1.length cn,.slice ct ah.2.2.2.2.length co]),.slice a1 di.length d0,.slice a2 al.length a8]) func26 rfl rfl rfl ?_;rw [Qz.eq_1] at hm;have aa:=St.start col w0;replace dj:=dj.k0;replace dk:=dk.k0;replace dl:=dl.k0;replace dm:=dm.k0;replace h1:=h1.k0;replace h2:=h2.k0;have hmk:Yp 499 (Zf col) w0 []:=.nil;refine go ?_;refine Xl (col:=(Zf col)) 1 rfl ?_;intro ey hz fp d1 ae;refine Zbf (col:=fp) (v:=(.slice a2 al.length a8)) 2 rfl rfl ?_;intro cu fq ez dn ab;replace ab:Zj 56 2 ez fq cu #[.slice a2 al.length a8]:=ab;refine Xx (col:=ez) #[(nI),(nI),(.slice none (([]:List R1).length) 0)] 3 zeroValue58 ?_;intro dp h0 h3 cv ad;refine go ?_;replace ae:=(ae.gr dn).gr cv;refine lV _ (Z9 isAgg27 sizeOf27 ae) ?_;replace ab:=ab.gr cv;refine lW ab.at1<|Wo rfl ?_;obtain ⟨cc,fr,hm⟩:=bZ hm;replace h2:=((h2.gr d1).gr dn).gr cv;replace aa:=((aa.grow d1).grow dn).grow cv;refine Zk (Zs3 4 fr (dj.ks aa) (dk.ks aa) (dl.ks aa) (dm.ks aa) h2 (h1.ks aa)) fun _ h4 ⟨ft,d2,d3,e',cd,ax⟩=>⟨_,e',?_⟩;refine lM (.tuple #[.slice d2 cc.1.length d3,.int .i64 cc.2])<|lV (.slice d2 cc.1.length d3) (Xu rfl rfl)<|lV (.int .i64 cc.2) (Xu rfl rfl)<|go ?_;replace hmk:=(((hmk.gr d1).gr dn).gr cv).gr cd;replace h2:=h2.gr cd;replace ae:=ae.gr cd;replace ab:=ab.gr cd;replace ad:=ad.gr cd;replace aa:=aa.grow cd;refine Zm hm (fun hb hm=>go ?_) fun hb hm=>go ?_
 ·refine lV (.agg #[(nI),(nI),(.slice none (([]:List R1).length) 0)]) (Wl (l:=[_,_,_]) (qs:=[(0,1),(1,1),(2,1)]) underlying58 zeroValue58 ⟨rfl,sizeOf36,rfl,sizeOf36,rfl,sizeOf29,trivial⟩ rfl)<|Xr rfl<|Xf ad ?_;intro h5 e0 fu d4;refine go ?_;cases hm;replace hmk:=hmk.kp e0;refine ⟨_,[],rfl,hmk,?_⟩;intro h6 e1 fv;replace aa:=(aa.kp e0 fu).kp e1 fv;exact ⟨_,Zr3 rfl rfl isAgg58 sizeOf58 rfl rfl (d4.kp e1).atN rfl rfl,Vh w0.heap.size col ft (fun n=>0),none,0,none,0,none,0,rfl,aa.fin (fun n=>0),Zc.nil,Zc.nil,Zc.nil⟩
 obtain ⟨h7,fw,hm⟩:=bZ hm;refine Zk (Z42 fw (h1.ks aa)) fun _ h8 ⟨h9,ia,e',b7,fx⟩=>⟨_,e',?_⟩;obtain ⟨e2,fy,hm⟩:=bZ hm;refine Zk (Z41 5 fy fx) fun _ ib ⟨fz,f0,f1,e',b8,d5⟩=>⟨_,e',?_⟩;refine lV (.agg #[.slice f0 e2.length f1,(nI),(.slice none (([]:List R1).length) 0)]) (Wl (l:=[_,_,_]) (qs:=[(0,1),(1,1),(2,1)]) underlying58 zeroValue58 ⟨rfl,sizeOf36,rfl,sizeOf36,rfl,sizeOf29,trivial⟩ rfl)<|Xx (col:=fz) #[(nI),(nI),(.slice none (([]:List R1).length) 0)] 6 zeroValue58 ?_;intro b9 ic id b4 f2;refine Xf f2 ?_;intro ie b5 f3 ac;refine go ?_;refine Z1 ac ?_;refine go ?_;replace h2:=(((h2.gr b7).gr b8).gr b4).kp b5;replace ax:=(((ax.gr b7).gr b8).gr b4).kp b5;replace ae:=(((ae.gr b7).gr b8).gr b4).kp b5;replace ab:=(((ab.gr b7).gr b8).gr b4).kp b5;replace ad:=(((ad.gr b7).gr b8).gr b4).kp b5;replace hmk:=(((hmk.gr b7).gr b8).gr b4).kp b5;replace aa:=(((aa.grow b7).grow b8).grow b4).kp b5 f3;replace d5:=(d5.gr b4).kp b5
 refine Zs [10,3,39,5,6,8,1000000] (fun n f a9=>∃ ak cw cx ce d6 d7 cf dq dr cy d8 cg,cg=n∧Zey N ah al cc e2 cg ce cf cy d8=some r∧St w0 (Zf col) ak a9∧Zc rI 3 5 ak a9 cw cx ce∧Zc rI 3 7 ak a9 d6 d7 cf∧Zc (rO 45) 42 8 ak a9 dq dr cy∧Zj 58 6 ak a9 b9 #[.slice cw ce.length cx,.slice d6 cf.length d7,.slice dq cy.length dr]∧Zj 27 1 ak a9 ey #[.string ah.1,.slice cp ah.2.1.length ck,.slice cq ah.2.2.1.length cl,.slice cr ah.2.2.2.1.length cn,.slice ct ah.2.2.2.2.length co]∧Sl (Za.pair rI rI) ak a9 a2 a8 al∧Zj 56 2 ak a9 cu #[.slice a2 al.length a8]∧Zj 58 3 ak a9 dp #[(nI),(nI),(.slice none (([]:List R1).length) 0)]∧Zc rI 3 4 ak a9 d2 d3 cc.1∧Yp 499 ak a9 []∧[38,40].map f=[.slice cw ce.length cx,.int .i64 d8]) N ⟨_,_,_,_,none,0,_,none,0,_,0,_,rfl,hm,aa,d5,Zc.nil,Zc.nil,ac,ae,h2,ab,ad,ax,hmk,rfl⟩ ?_;clear hm;intro n f a9 hI;obtain ⟨ak,cw,cx,ce,d6,d7,cf,dq,dr,cy,d8,cg,hn,hm,aa,a4,b0,bd,ac,ae,h2,ab,ad,ax,hmk,hs⟩:=hI;subst hn;refine .lL [38,40] hs ?_
 cases cg with
 | zero=>rw [Zey.eq_1] at hm;cases hm
 | succ cg=>
  rw [Zey.eq_2] at hm;refine go ?_;refine Zm hm (fun hb hm=>go ?_) fun hb hm=>go ?_
  ·obtain ⟨ig,d9,hm⟩:=bZ hm;refine lI d9 (a4.addr d9)<|lW (a4.atInt d9) ?_;refine go ?_;refine Wc (col:=ak) [(0,1),(1,0),(2,1),(3,1),(4,1),(5,0),(6,3),(7,2),(8,1),(9,2)] (by kernel_rfl) (by kernel_rfl)<|xF ⟨_,_,rfl⟩ ?_;refine xW (fun _ hC=>((ac.atN).nth (q:=1) rfl).gr (hC.bl ak)) ?_;refine xu rfl rfl (fun _=>Va rfl) ?_;refine xu rfl rfl (fun _=>Yz rfl) ?_;obtain ⟨ea,ds,hm⟩:=bZ hm;refine xu rfl rfl (fun _=>Yv underlying36 sizeOf3 rfl rfl (Xe ds).1 (Xe ds).2.1 (ax.addr ds)) ?_;refine xW (fun _ hC=>(ax.gr (hC.bl ak)).atInt ds) ?_;refine xe rfl rfl ?_;intro ih hC0;have hC:=hC0.bl ak;refine Wj (col:=ak) [ea] 9 ?_;intro ii ij eb be ec;refine Zl<|Xt eb hC0 be<|xe rfl rfl ?_;intro f4 hC0;replace a4:=(a4.gr hC).gr be;replace b0:=(b0.gr hC).gr be;replace bd:=(bd.gr hC).gr be;replace h2:=(h2.gr hC).gr be;replace ax:=(ax.gr hC).gr be;replace ac:=(ac.gr hC).gr be;replace ae:=(ae.gr hC).gr be;replace ab:=(ab.gr hC).gr be;replace ad:=(ad.gr hC).gr be;replace hmk:=(hmk.gr hC).gr be;replace aa:=(aa.grow hC).grow be;have hC:=hC0.bl eb;obtain ⟨e3,hm⟩:=Zv hm;replace b0:=b0.gr hC;refine V8 (col:=eb) (w:=f4) (r:=rI) (c:=7) (c2:=7) (b0.ex) ((ec.gr hC).srcN (NB.int (k:=.i64))) rfl underlying36 Z55 rfl rfl rfl e3.1 e3.2 (by decide) ?_;intro e4 e5 ik cz bs ed;refine Zl<|xk cz<|xF ⟨_,_,rfl⟩ ?_;refine xe rfl rfl ?_;intro il hC0;replace a4:=(a4.gr hC).kpp bs;replace bd:=(bd.gr hC).kpp bs;replace h2:=(h2.gr hC).kpp bs;replace ax:=(ax.gr hC).kpp bs;replace ac:=(ac.gr hC).kpp bs;replace ae:=(ae.gr hC).kpp bs;replace ab:=(ab.gr hC).kpp bs;replace ad:=(ad.gr hC).kpp bs;replace hmk:=(hmk.gr hC).kpp bs;replace aa:=(aa.grow hC).kpp bs;have hC:=hC0.bl cz;replace ac:=ac.gr hC;refine Ud (off:=1) (v:=(.slice e4 ((cf++[ea]).length) e5)) ac sizeOf36 rfl rfl (by intro u hu;simp only [Value.cells,aP,bA,or_false] at hu;subst hu;rfl) rfl rfl ?_;intro f5 bt f6 c0;replace c0:Zj 58 6 cz f5 b9 #[.slice cw ce.length cx,.slice e4 ((cf++[ea]).length) e5,.slice dq cy.length dr]:=c0;refine Zl<|xk cz ?_;have ee:=((ed.gr hC).kp bt).new;refine Y0 ?_;replace a4:=(a4.gr hC).kp bt;replace bd:=(bd.gr hC).kp bt;replace h2:=(h2.gr hC).kp bt;replace ax:=(ax.gr hC).kp bt;replace ae:=(ae.gr hC).kp bt;replace ab:=(ab.gr hC).kp bt;replace ad:=(ad.gr hC).kp bt
   replace hmk:=(hmk.gr hC).kp bt;replace aa:=(aa.grow hC).kp bt f6;intro im hC;replace hC:=hC.bl cz;refine go ?_;replace a4:=a4.gr hC;replace bd:=bd.gr hC;replace h2:=h2.gr hC;replace ae:=ae.gr hC;replace ab:=ab.gr hC;replace ad:=ad.gr hC;replace hmk:=hmk.gr hC;replace aa:=aa.grow hC;exact ⟨cg,by omega,rfl,⟨_,_,_,_,_,_,_,_,_,_,_,_,rfl,hm,aa,a4,ee.gr hC,bd,c0.gr hC,ae,h2,ab,ad,ax.gr hC,hmk,rfl⟩⟩
  refine Z1 ac ?_;obtain ⟨c4,f7,hm⟩:=bZ hm;refine Zk (Znb f7 (b0.toSlF (Zh.int .i64))) fun _ f8 ⟨e',bf⟩=>⟨_,e',?_⟩;replace bf:Zn ak a9 ak f8:=.of_below bf;refine lM (.tuple #[.int .i64 c4.1,.int .i64 c4.2])<|lV (.int .i64 c4.1) (Xu rfl rfl)<|lV (.int .i64 c4.2) (Xu rfl rfl)<|go ?_;replace h2:=h2.gr bf;replace ac:=ac.gr bf;replace ae:=ae.gr bf;replace ab:=ab.gr bf;replace ad:=ad.gr bf;replace hmk:=hmk.gr bf;replace aa:=aa.grow bf;refine Zs [10,3,5,6,60,1000000] (fun n f bp=>∃ ay c5 c6 ch c7 c8 ci dt du ca ef cj,cj=n∧Zc2 N ah al c4 cj ch ci ca ef=some r∧St w0 (Zf col) ay bp∧Zc rI 3 5 ay bp c5 c6 ch∧Zc rI 3 7 ay bp c7 c8 ci∧Zc (rO 45) 42 8 ay bp dt du ca∧Zj 58 6 ay bp b9 #[.slice c5 ch.length c6,.slice c7 ci.length c8,.slice dt ca.length du]∧Zj 27 1 ay bp ey #[.string ah.1,.slice cp ah.2.1.length ck,.slice cq ah.2.2.1.length cl,.slice cr ah.2.2.2.1.length cn,.slice ct ah.2.2.2.2.length co]∧Sl (Za.pair rI rI) ay bp a2 a8 al∧Zj 56 2 ay bp cu #[.slice a2 al.length a8]∧Zj 58 3 ay bp dp #[(nI),(nI),(.slice none (([]:List R1).length) 0)]∧Yp 499 ay bp []∧[61].map f=[.int .i64 ef]) N ⟨_,_,_,_,_,_,_,_,_,_,0,_,rfl,hm,aa,a4.gr bf,b0.gr bf,bd.gr bf,ac,ae,h2,ab,ad,hmk,rfl⟩ ?_;clear hm;intro n f bp hI;obtain ⟨ay,c5,c6,ch,c7,c8,ci,dt,du,ca,ef,cj,hn,hm,aa,ap,aq,bg,ac,ae,h2,ab,ad,hmk,hs⟩:=hI;subst hn;refine .lL [61] hs ?_
  cases cj with
  | zero=>rw [Zc2.eq_1] at hm;cases hm
  | succ cj=>
   rw [Zc2.eq_2] at hm;refine go ?_;refine Zm hm (fun hb hm=>go ?_) fun hb hm=>go ?_
   ·refine Wc (col:=ay) [(0,1),(1,0),(2,3),(3,3),(4,2),(5,1),(6,2)] (by kernel_rfl) (by kernel_rfl)<|xF ⟨_,_,rfl⟩ ?_;refine xW (fun _ hC=>((ac.atN).nth (q:=2) rfl).gr (hC.bl ay)) ?_;refine xe rfl rfl ?_;intro io hC0;have hC:=hC0.bl ay;obtain ⟨ar,f9,hm⟩:=bZ hm;refine Zk (Zs2 (col:=ay) 10 11 f9 Sl.nil) fun _ ip ⟨eg,e6,e7,e8,e9,e',bq,eh,ei⟩=>⟨_,e',?_⟩;refine Zl<|Xt eg hC0 bq<|xe rfl rfl ?_;intro iq hC0;replace ap:=(ap.gr hC).gr bq;replace aq:=(aq.gr hC).gr bq;replace bg:=(bg.gr hC).gr bq;replace h2:=(h2.gr hC).gr bq;replace ac:=(ac.gr hC).gr bq;replace ae:=(ae.gr hC).gr bq;replace ab:=(ab.gr hC).gr bq;replace ad:=(ad.gr hC).gr bq;replace hmk:=(hmk.gr hC).gr bq;replace aa:=(aa.grow hC).grow bq;have hC:=hC0.bl eg;have ga:=X0.join (X0.joinL (U0 ar.1.1) (eh.gr hC).has) (ei.gr hC).has (by decide) (by decide);replace ap:=ap.gr hC;replace ap:=ap.recol 11 10;replace aq:=aq.gr hC;replace aq:=aq.recol 11 10;replace bg:=bg.gr hC;replace bg:=bg.recol 11 10;replace h2:=h2.gr hC;replace h2:=h2.recol 11 10;replace ac:=ac.gr hC;replace ac:=ac.recol 11 10;replace ae:=ae.gr hC;replace ae:=ae.recol 11 10;replace ab:=ab.gr hC;replace ab:=ab.recol 11 10;replace ad:=ad.gr hC;replace ad:=ad.recol 11 10;replace hmk:=hmk.gr hC;replace hmk:=hmk.recol 11 10 (by decide);replace aa:=aa.grow hC;replace aa:=aa.recol 11 10 (by decide) (by decide);refine Uo (col:=(X7 11 10 eg)) (r:=(rO 45)) (xs:=[((ar.1.1,ar.1.2),ar.2)]) [(.agg #[.bool ar.1.1,.slice e6 ar.1.2.length e7,.slice e8 ar.2.length e9])] 10 (W0.cons1 (cs:=[.bool ar.1.1,.slice e6 ar.1.2.length e7,.slice e8 ar.2.length e9]) ga Rows.nil0) ?_;intro ir it ej br ek;refine Zl<|Xt ej hC0 br<|xe rfl rfl ?_;intro gb hC0;have hC:=hC0.bl ej;obtain ⟨fa,hm⟩:=Zv hm;replace bg:=(bg.gr br).gr hC;refine V8 (col:=ej) (w:=gb) (r:=(rO 45)) (c:=8) (c2:=10) (bg.ex) ((ek.gr hC).srcC (by decide)) rfl underlying29 Z6a rfl rfl rfl fa.1 fa.2 (by decide) ?_;intro fb fc iu c9 b1 el;refine Zl<|xk c9<|xF ⟨_,_,rfl⟩ ?_
    refine xe rfl rfl ?_;intro iv hC0;replace ap:=((ap.gr br).gr hC).kpp b1;replace aq:=((aq.gr br).gr hC).kpp b1;replace h2:=((h2.gr br).gr hC).kpp b1;replace ac:=((ac.gr br).gr hC).kpp b1;replace ae:=((ae.gr br).gr hC).kpp b1;replace ab:=((ab.gr br).gr hC).kpp b1;replace ad:=((ad.gr br).gr hC).kpp b1;replace hmk:=((hmk.gr br).gr hC).kpp b1;replace aa:=((aa.grow br).grow hC).kpp b1;have hC:=hC0.bl c9;replace ac:=ac.gr hC;refine Ud (off:=2) (v:=(.slice fb ((ca++[((ar.1.1,ar.1.2),ar.2)]).length) fc)) ac sizeOf29 rfl rfl (by intro u hu;simp only [Value.cells,aP,bA,or_false] at hu;subst hu;rfl) rfl rfl ?_;intro gc b2 gd da;replace da:Zj 58 6 c9 gc b9 #[.slice c5 ch.length c6,.slice c7 ci.length c8,(.slice fb ((ca++[((ar.1.1,ar.1.2),ar.2)]).length) fc)]:=da;refine Zl<|xk c9 ?_;have em:=((el.gr hC).kp b2).new;refine Y0 ?_;replace ap:=(ap.gr hC).kp b2;replace aq:=(aq.gr hC).kp b2;replace h2:=(h2.gr hC).kp b2;replace ae:=(ae.gr hC).kp b2;replace ab:=(ab.gr hC).kp b2;replace ad:=(ad.gr hC).kp b2;replace hmk:=(hmk.gr hC).kp b2;replace aa:=(aa.grow hC).kp b2 gd;intro iw hC;replace hC:=hC.bl c9;refine go ?_;replace ap:=ap.gr hC;replace aq:=aq.gr hC;replace h2:=h2.gr hC;replace ae:=ae.gr hC;replace ab:=ab.gr hC;replace ad:=ad.gr hC;replace hmk:=hmk.gr hC;replace aa:=aa.grow hC;exact ⟨cj,by omega,rfl,⟨_,_,_,_,_,_,_,_,_,_,_,_,rfl,hm,aa,ap,aq,em.gr hC,da.gr hC,ae,h2,ab,ad,hmk,rfl⟩⟩
   refine lV _ (Z9 isAgg27 sizeOf27 ae) ?_;obtain ⟨ge,gf,hm⟩:=bZ hm;refine Zk (Z2w 12 gf (dj.ks aa) (dk.ks aa) (dl.ks aa) (dm.ks aa)) ?_;rintro _ ix ⟨gg,iy,rfl,b3,gh⟩;refine ⟨_,rfl,go ?_⟩;replace h2:=h2.gr b3;replace ac:=ac.gr b3;replace ab:=ab.gr b3;replace ad:=ad.gr b3;replace hmk:=hmk.gr b3;replace aa:=aa.grow b3;refine Zmm (psl:=[72,73]) (arr:=(fun (y:List Int×R1) (col:Zd) (w:World) (args:List Value)=>∃ a0 fd a1_0_1 c1_0_1 fe ff,args=[.slice a0 y.1.length fd,.agg #[.bool y.2.1.1,.slice a1_0_1 y.2.1.2.length c1_0_1,.slice fe y.2.2.length ff]]∧Zc rI 3 12 col w a0 fd y.1∧Sl rU col w a1_0_1 c1_0_1 y.2.1.2∧Sl rU col w fe ff y.2.2)) (ys:=ge) (col:=gg) 498 rfl gh rfl hmk rfl rfl (by rintro _ _ _ _ ⟨_,_,_,_,_,_,rfl,_⟩;rfl) (fun ys_ az ba=>∃ (bh:Option Addr) (bi:Nat) (an:List Int) (bj:Option Addr) (bk:Nat) (bb:List Int) (bm:Option Addr) (bn:Nat) (bc:List R1),Q0 N al ys_ an bb bc=some r∧St w0 (Zf col) az ba∧Zc rI 3 5 az ba bh bi an∧Zc rI 3 7 az ba bj bk bb∧Zc (rO 45) 42 8 az ba bm bn bc∧Zj 58 6 az ba b9 #[.slice bh an.length bi,.slice bj bb.length bk,.slice bm bc.length bn]∧Sl (Za.pair rI rI) az ba a2 a8 al∧Zj 56 2 az ba cu #[.slice a2 al.length a8]∧Zj 58 3 az ba dp #[(nI),(nI),(.slice none (([]:List R1).length) 0)]) (fun _ _ _=>False) ?_ ?_ ⟨c5,c6,ch,c7,c8,ci,dt,du,ca,hm,aa,ap.gr b3,aq.gr b3,bg.gr b3,ac,h2,ab,ad⟩ ?_ ?_ ?_
   ·intro ys_ az ba col2_ w2_ hJ hk;obtain ⟨bh,bi,an,bj,bk,bb,bm,bn,bc,hm,aa,ag,ai,aj,ac,h2,ab,ad⟩:=hJ;exact ⟨bh,bi,an,bj,bk,bb,bm,bn,bc,hm,aa.kpp hk rfl rfl,ag.kpp hk rfl rfl,ai.kpp hk rfl rfl,aj.kpp hk rfl rfl,ac.kpp hk rfl,h2.kpp hk rfl,ab.kpp hk rfl,ad.kpp hk rfl⟩
   ·intro _ _ _ _ _ h _;exact h
   ·intro gi iz gj cb gk az ba args hJ hrec hmk harr;obtain ⟨bh,bi,an,bj,bk,bb,bm,bn,bc,hm,aa,ag,ai,aj,ac,h2,ab,ad⟩:=hJ;rw [Q0.eq_2] at hm;have hki:=Z5.refl (pC 2) az ba;obtain ⟨gl,gm,fg,fh,fi,fj,rfl,bo,bu,bv⟩:=harr;refine go ?_;refine Xx (col:=az) #[.bool false,(nI),(nI)] 13 zeroValue42 ?_;intro gp i0 fk a5 gs;refine Xf gs ?_;intro i1 a6 fl bw;refine Zl ?_;replace hrec:=(hrec.gr a5).kp a6;refine ⟨_,hrec,?_⟩;intro gt gu a7 fm hrec2;have hrec:=hrec2;refine go ?_;replace ab:=((ab.gr a5).kp a6).kp a7;refine lW ab.at1 ?_;obtain ⟨i2,gv,hm⟩:=bZ hm;replace h2:=((h2.gr a5).kp a6).kp a7;replace bo:=((bo.gr a5).kp a6).kp a7;refine Zk (Z20 gv (bo.toSlF (Zh.int .i64)) (h2.froz 12)) fun _ gw ⟨e',ao⟩=>⟨_,e',?_⟩;replace ao:Zn fk gt fk gw:=.of_below ao;refine go ?_;replace ag:=(((ag.gr a5).kp a6).kp a7).gr ao;replace ai:=(((ai.gr a5).kp a6).kp a7).gr ao;replace aj:=(((aj.gr a5).kp a6).kp a7).gr ao;replace bu:=(((bu.gr a5).kp a6).kp a7).gr ao;replace bv:=(((bv.gr a5).kp a6).kp a7).gr ao;replace ac:=(((ac.gr a5).kp a6).kp a7).gr ao;replace ad:=(((ad.gr a5).kp a6).kp a7).gr ao;replace hmk:=(((hmk.gr a5).kp a6).kp a7).gr ao;replace hki:=(((hki.gr a5).kp a6 fl rfl).kp a7 fm rfl).gr ao;replace aa:=(((aa.grow a5).kp a6 fl).kp a7 fm).grow ao;replace bw:=(bw.kp a7).gr ao;replace h2:=h2.gr ao;replace bo:=bo.gr ao;replace ab:=ab.gr ao;replace hrec:=hrec.gr ao;refine Zm hm (fun hb hm=>go ?_) fun hb hm=>go ?_
    ·exact ⟨_,hki,⟨bh,bi,an,bj,bk,bb,bm,bn,bc,hm,aa,ag,ai,aj,ac,h2,ab,ad⟩,hrec,hmk⟩
    refine Z1 ac ?_;refine go ?_;refine Zs [10,15,16,5,6,79,80,1000000] (fun n f am=>∃ af en eo dv db dc,n=dc.length∧an.drop db=dc∧Zc3 N an bb bc (Q0 N al gk) cb dc dv=some r∧St w0 (Zf col) af am∧Zc rI 3 5 af am bh bi an∧Zc rI 3 7 af am bj bk bb∧Zc (rO 45) 42 8 af am bm bn bc∧Zj 58 6 af am b9 #[.slice bh an.length bi,.slice bj bb.length bk,.slice bm bc.length bn]∧Zc rI 3 12 af am gl gm cb.1∧Sl rU af am fg fh cb.2.1.2∧Sl rU af am fi fj cb.2.2∧Zj 42 13 af am gp #[.bool cb.2.1.1,.slice fg cb.2.1.2.length fh,.slice fi cb.2.2.length fj]∧Zc rI 3 14 af am en eo dv∧Sl (Za.pair rI rI) af am a2 a8 al∧Zj 56 2 af am cu #[.slice a2 al.length a8]∧Zj 58 3 af am dp #[(nI),(nI),(.slice none (([]:List R1).length) 0)]∧Wt 498 af am gi gu∧Yp 499 af am gj∧Z5 (pC 2) az ba af am∧[81,17].map f=[.int .i64 db,.slice en dv.length eo]) an.length ⟨_,none,0,_,0,_,rfl,rfl,hm,aa,ag,ai,aj,ac,bo,bu,bv,bw,Zc.nil,h2,ab,ad,hrec,hmk,hki,rfl⟩ ?_;clear hm;intro n f am hI;obtain ⟨af,en,eo,dv,db,dc,hn,hl,hm,aa,ag,ai,aj,ac,bo,bu,bv,bw,dw,h2,ab,ad,hrec,hmk,hki,hs⟩:=hI;subst hn;refine .lL [81,17] hs ?_
    cases dc with
    | nil=>
     have hk:¬ ((db:Int)<(an.length:Int)):=by have:=aM.1 hl;omega
     have hkb:=decide_eq_false hk;rw [Zc3.eq_1] at hm;refine go ?_;refine Yc (congrArg Value.bool hkb)<|go ?_;refine Z1 ac<|Wo rfl ?_;obtain ⟨dd,gx,hm⟩:=bZ hm;refine Zk (Z4o gx ((ai.toSlF (Zh.int .i64)).froz 14) ((dw.froz 7).toSlF (Zh.int .i64))) fun _ gy ⟨e',au⟩=>⟨_,e',?_⟩;replace au:Zn af am af gy:=.of_below au;refine lM (.tuple #[.int .i64 dd.1,.int .i64 dd.2])<|lV (.int .i64 dd.1) (Xu rfl rfl)<|lV (.int .i64 dd.2) (Xu rfl rfl)<|go ?_;refine Wc (col:=af) [(0,1),(1,0),(2,1),(3,1),(4,0),(5,1),(6,1),(7,0),(8,0),(9,3),(10,1),(11,2)] (by kernel_rfl) (by kernel_rfl)<|xF ⟨_,_,rfl⟩ ?_;replace ac:=ac.gr au;refine xW (fun _ hC=>((ac.atN).nth (q:=2) rfl).gr (hC.bl af)) ?_;refine xu rfl rfl (fun _=>Yz rfl) ?_;refine xF ⟨_,_,rfl⟩ ?_;refine xW (fun _ hC=>((ac.atN).nth (q:=2) rfl).gr (hC.bl af)) ?_;refine xu rfl rfl (fun _=>Yz rfl) ?_;obtain ⟨ep,b6,hm⟩:=bZ hm;replace aj:=aj.gr au;refine xu rfl rfl (fun _=>Yv underlying29 sizeOf42 rfl rfl (Xe b6).1 (Xe b6).2.1 (aj.addr b6)) ?_;obtain ⟨_,gz,g0⟩:=aj.atN b6;obtain ⟨_,_,rfl,g1,g2⟩:=gz.parts;obtain ⟨_,_,rfl,g3,g4⟩:=g1.parts;obtain rfl:=g3.bool;obtain ⟨g5,g6,rfl,eq⟩:=g4.row;obtain ⟨g7,g8,rfl,er⟩:=g2.row;refine xv (v:=(.agg #[.bool ep.1.1,.slice g5 ep.1.2.length g6,.slice g7 ep.2.length g8])) rfl rfl (fun _ hC=>Ym isAgg42 sizeOf42 rfl rfl (g0.gr (hC.bl af))) ?_;replace bw:=bw.gr au;refine xv rfl rfl (fun _ hC=>Z9 isAgg42 sizeOf42 (bw.gr (hC.bl af))) ?_;refine xe rfl rfl ?_;intro g9 hC0;have hC:=hC0.bl af;obtain ⟨bx,ha,hm⟩:=bZ hm;replace bu:=(bu.gr au).gr hC;replace bv:=(bv.gr au).gr hC;refine Zk (Zp0 15 16 ha ((eq.gr hC).toSlF (Zh.int .u32)) ((er.gr hC).toSlF (Zh.int .u32)) (bu.froz 8) (bv.froz 8)) fun _ i3 ⟨hc,hd,he,hf,hg,e',av,de,df⟩=>⟨_,e',?_⟩;replace de:=de.thaw (Z3 .u32) av ((Fz.refl (col:=af)).froz 8);replace df:=df.thaw (Z3 .u32) av ((Fz.refl (col:=af)).froz 8);replace av:=av.thawR (col:=af);generalize Xj g9.heap.size af hc=fn at *;refine Zl<|Xt fn hC0 av ?_
     replace aj:=(aj.gr hC).gr av;refine xu rfl rfl (fun _=>Yv underlying29 sizeOf42 rfl rfl (Xe b6).1 (Xe b6).2.1 (aj.addr b6)) ?_;refine xe rfl rfl ?_;intro i4 hC0;replace ag:=((ag.gr au).gr hC).gr av;replace ai:=((ai.gr au).gr hC).gr av;replace h2:=((h2.gr au).gr hC).gr av;replace ab:=((ab.gr au).gr hC).gr av;replace ad:=((ad.gr au).gr hC).gr av;replace hrec:=((hrec.gr au).gr hC).gr av;replace hmk:=((hmk.gr au).gr hC).gr av;replace hki:=((hki.gr au).gr hC).gr av;replace aa:=((aa.grow au).grow hC).grow av;replace ac:=(ac.gr hC).gr av;have hC:=hC0.bl fn;have hh:=X0.join (X0.joinL (U0 bx.1.1) (de.gr hC).has) (df.gr hC).has (by decide) (by decide);replace ag:=ag.gr hC;replace ag:=ag.recol 16 15;replace ai:=ai.gr hC;replace ai:=ai.recol 16 15;replace aj:=aj.gr hC;replace aj:=aj.recol 16 15;replace h2:=h2.gr hC;replace h2:=h2.recol 16 15;replace ac:=ac.gr hC;replace ac:=ac.recol 16 15;replace ab:=ab.gr hC;replace ab:=ab.recol 16 15;replace ad:=ad.gr hC;replace ad:=ad.recol 16 15;replace hrec:=hrec.gr hC;replace hrec:=hrec.recol 16 15;replace hmk:=hmk.gr hC;replace hmk:=hmk.recol 16 15 (by decide);replace hki:=hki.gr hC;replace hki:=hki.recol 16 15 rfl;replace aa:=aa.grow hC;replace aa:=aa.recol 16 15 (by decide) (by decide);obtain ⟨dx,dy,hm⟩:=bZ hm;have dy:dx=bc.set (aA dd.1) ((bx.1.1,bx.1.2),bx.2):=(Option.some.inj dy).symm;refine Zv5 (x1:=((bx.1.1,bx.1.2),bx.2)) (v:=(.agg #[.bool bx.1.1,.slice hd bx.1.2.length he,.slice hf bx.2.length hg])) aj b6 rfl sizeOf42 hh rfl rfl (by decide) ?_;intro hi es bz dz;rw [← dy] at dz;replace ag:=ag.kpp bz;replace ai:=ai.kpp bz;replace h2:=h2.kpp bz;replace ac:=ac.kpp bz;replace ab:=ab.kpp bz;replace ad:=ad.kpp bz;replace hrec:=hrec.kpp bz;replace hmk:=hmk.kpp bz;replace hki:=hki.trans (bz.mono (by first | exact Zl7 rfl | exact pCo_p1 rfl | exact pCo_pS rfl | exact fun _=>Zl6 | exact fun _ h=>h | exact fun _ _=>rfl));replace ac:Zj 58 6 es hi b9 #[.slice bh an.length bi,.slice bj bb.length bk,.slice bm dx.length bn]:=by rw [← (show bc.length=dx.length by rw [dy,nS])];exact ac
     refine Zl<|xk es<|Y0 ?_;intro i5 hC;replace hC:=hC.bl es;replace aa:=(aa.kpp bz).grow hC;replace ag:=ag.gr hC;replace ai:=ai.gr hC;replace h2:=h2.gr hC;replace ac:=ac.gr hC;replace ab:=ab.gr hC;replace ad:=ad.gr hC;replace hrec:=hrec.gr hC;replace hmk:=hmk.gr hC;replace hki:=hki.gr hC;exact ⟨_,hki,⟨bh,bi,an,bj,bk,bb,bm,bn,dx,hm,aa,ag,ai,dz.gr hC,ac,h2,ab,ad⟩,hrec,hmk⟩
    | cons i6 hj=>
     obtain ⟨et,ho,hp⟩:=Yu hl;have hk:(db:Int)<(an.length:Int):=by omega
     have hkb:=decide_eq_true hk;rw [Zc3.eq_2] at hm;refine go ?_;refine Yd (congrArg Value.bool hkb)<|go ?_;refine lI et (ag.addr et)<|lW (ag.atInt et) ?_;refine go ?_;obtain ⟨hq,eu,hm⟩:=bZ hm;refine lI eu (bo.addr eu)<|lW (bo.atInt eu)<|Wj (col:=af) [hq] 17 ?_;intro i7 i8 i9 aw hr;obtain ⟨ht,hm⟩:=Zv hm;refine Yy (dw.gr aw) (hr.srcN (NB.int (k:=.i64))) ht ?_;intro ja jb jc jd a3 hv;replace ag:=(ag.gr aw).kpp a3;replace ai:=(ai.gr aw).kpp a3;replace aj:=(aj.gr aw).kpp a3;replace h2:=(h2.gr aw).kpp a3;replace ac:=(ac.gr aw).kpp a3;replace ab:=(ab.gr aw).kpp a3;replace ad:=(ad.gr aw).kpp a3;replace hmk:=(hmk.gr aw).kpp a3;replace hki:=hki.gr aw;replace hki:=hki.trans (a3.mono (by first | exact Zl7 rfl | exact pCo_p1 rfl | exact pCo_pS rfl | exact fun _=>Zl6 | exact fun _ h=>h | exact fun _ _=>rfl));refine go ?_;replace aa:=(aa.grow aw).kpp a3;exact ⟨hj.length,by simp,rfl,⟨_,_,_,_,_,_,rfl,ho,hm,aa,ag,ai,aj,ac,(bo.gr aw).kpp a3,(bu.gr aw).kpp a3,(bv.gr aw).kpp a3,(bw.gr aw).kpp a3,hv,h2,ab,ad,(hrec.gr aw).kpp a3,hmk,hki,(Y2 (congrArg (Value.int .i64) (Yx (aK hp ag.len))) rfl)⟩⟩
   ·intro hw az ba hJ hmk;obtain ⟨bh,bi,an,bj,bk,bb,bm,bn,bc,hm,aa,ag,ai,aj,ac,h2,ab,ad⟩:=hJ;rw [Q0.eq_1] at hm;refine go ?_;refine lV _ (Z9 isAgg58 sizeOf58 ac)<|Xf ad ?_;intro je dg hx ew;refine go ?_;cases hm;refine ⟨_,(hw :: []),rfl,hmk.kp dg,?_⟩;intro jf dh hy;replace aa:=(aa.kp dg hx).kp dh hy;exact ⟨_,Zr3 rfl rfl isAgg58 sizeOf58 rfl rfl (ew.kp dh).atN rfl rfl,Vh w0.heap.size col az (fun n=>bif aJ n 5 then c1 else bif aJ n 7 then c2 else bif aJ n 8 then c3 else 0),bh,bi,bj,bk,bm,bn,rfl,aa.fin (fun n=>bif aJ n 5 then c1 else bif aJ n 7 then c2 else bif aJ n 8 then c3 else 0),aa.finOwn (g:=(fun n=>bif aJ n 5 then c1 else bif aJ n 7 then c2 else bif aJ n 8 then c3 else 0)) rfl ((ag.kp dg).kp dh) (by decide) (by decide) rfl,aa.finOwn (g:=(fun n=>bif aJ n 5 then c1 else bif aJ n 7 then c2 else bif aJ n 8 then c3 else 0)) rfl ((ai.kp dg).kp dh) (by decide) (by decide) rfl,aa.finOwn (g:=(fun n=>bif aJ n 5 then c1 else bif aJ n 7 then c2 else bif aJ n 8 then c3 else 0)) rfl ((aj.kp dg).kp dh) (by decide) (by decide) rfl⟩
   intro _ _ _ _ h;exact h.elim
/-! values in order -/
theorem Z65 (l:List Int):Zlv l=some l:=by
 unfold Zlv Zom
 induction l with
 | nil=>rfl
 | cons x l a=>rw [Zjn.eq_2,a];rfl
theorem Zvs:∀ (l s:List Int),s.length+l.length≤17592186044000→Zd5 l s=some (s++l)
 | [],s,_=>by rw [Zd5.eq_1,cL]
 | y :: l,s,h=>by
  simp only [nC] at h
  rw [Zd5.eq_2,Zx (by simp only [aH,maxLen];omega),Zvs l _ (by simp;omega),bK];rfl
theorem Z64 (l:List Int) (h:l.length≤17592186044000):Zlu l=some (Wn l):=by
 unfold Zlu Zoi Zoc
 rw [Zvs l [] (by simpa using h)]
 simp only [bL,oB]
 unfold Zno
 rw [Zx (by omega)];rfl
/-! digits at some places -/
def Xi (Z:List Nat) (S:List Int):List Nat:=S.map fun v=>Z.getD v.toNat 0
def Tl (w S:List Int):List Int:=S.map fun v=>w.getD v.toNat 0
theorem Zne {Z:List Nat} {w:List Int} (h:U3 Z w):∀ S:List Int,(∀ v ∈ S,0≤v∧v<(w.length:Int))→U3 (Xi Z S) (Tl w S)
 | [],_=>trivial
 | v :: S,a=>by
  have c:=a v aQ
  exact ⟨(Zke h).2 v.toNat (by omega),Zne h S fun x b=>a x (aO _ b)⟩
theorem Z8j {l r:List Nat} (h:l.Perm r):Zp l=Zp r:=by
 induction h with
 | nil=>rfl
 | cons x _ c=>rw [Zp,Zp,c]
 | swap x y l=>rw [Zp,Zp,Zp,Zp,jD]
 | trans _ _ a b=>exact a.trans b
theorem Zyg {f:Int→Nat}:∀ (S R:List Int),S.Nodup→(∀ v ∈ S,v ∈ R)→(∀ v ∈ R,0<f v)→Zp (S.map f)≤Zp (R.map f)
 | [],R,_,_,h=>by
  have:=Zec (R.map f) fun s hs=>by obtain ⟨v,g,rfl⟩:=cA.1 hs;exact h v g
  rw [dO,Zp];exact this
 | v :: S,R,i,c,h=>by
  have j:R.Perm (v :: R.erase v):=List.perm_cons_erase (c v aQ)
  have b:=List.nodup_cons.1 i
  rw [Z8j (j.map f),cP,cP,Zp,Zp]
  refine Nat.mul_le_mul_left _ (Zyg S (R.erase v) b.2 (fun x a=>?_) fun x a=>h x (List.mem_of_mem_erase a))
  have d:x≠v:=fun e=>b.1 (e ▸ a)
  exact (List.mem_erase_of_ne d).2 (c x (aO _ a))
theorem Zl8 {Z:List Nat} (hZ:∀ s ∈ Z,0<s) {S:List Int} (hn:S.Nodup) (hS:∀ v ∈ S,0≤v∧v<(Z.length:Int)):Zp (Xi Z S)≤Zp Z:=by
 have h:=Zyg (f:=fun v=>Z.getD v.toNat 0) S ((bG Z.length).map fun i:Nat=>(i:Int)) hn (fun v b=>by
  have:=hS v b
  exact cA.2 ⟨v.toNat,eT.2 (by omega),by omega⟩) fun v b=>by
  obtain ⟨i,a,rfl⟩:=cA.1 b
  have a:=eT.1 a
  rw [aB,aF,aI a]
  exact hZ _ (aD a)
 have e:((bG Z.length).map fun i:Nat=>(i:Int)).map (fun v=>Z.getD v.toNat 0)=Z:=by
  rw [List.map_map]
  refine gC (by rw [aE,cC]) fun i d c=>?_
  rw [bU,cX]
  show Z.getD ((i:Int)).toNat 0=Z[i]
  rw [aB,aF,aI c];rfl
 rw [e] at h
 exact h
/-! the place of digits -/
theorem Z08 {Z:List Nat} (hb:Zp Z≤65536):∀ (d:List Int) (k a:Nat),U3 (Z.drop k) d→a * Zp (Z.drop k)+Yl (Z.drop k) d<Zp Z→Za5 (Xb Z) d k (a:Int)=some (((a * Zp (Z.drop k)+Yl (Z.drop k) d:Nat):Int),0)
 | [],k,a,b,c=>by
  have l:Z.drop k=[]:=by
   cases h:Z.drop k with
   | nil=>rfl
   | cons s t=>rw [h] at b;exact absurd b id
  rw [l,Za5.eq_1,Zp,gI,Yl,bO]
  intro s r d w h;cases h
 | x :: d,k,a,b,c=>by
  have i:k<Z.length:=by
   rcases cO k Z.length with h | h
   ·exact h
   ·rw [aG h] at b;exact absurd b id
  have j:=aL i
  rw [j] at b c ⊢
  obtain ⟨⟨u,v⟩,f⟩:=b
  have g:Zi (Xb Z) (k:Int)=some ((Z[k]:Nat):Int):=by
   rw [Zju i,aF,aI i];rfl
  have e:a * Zp (Z[k] :: Z.drop (k+1))+Yl (Z[k] :: Z.drop (k+1)) (x :: d)=(a * Z[k]+x.toNat) * Zp (Z.drop (k+1))+Yl (Z.drop (k+1)) d:=by
   rw [Zp,Yl,bM,bP];omega
  have p:=Zeb _ _ f
  have q:a * Z[k]+x.toNat≤(a * Z[k]+x.toNat) * Zp (Z.drop (k+1)):=dB _ (by omega)
  rw [e] at c ⊢
  have m:=Z08 hb d (k+1) (a * Z[k]+x.toNat) f c
  have o:(a:Int) * ((Z[k]:Nat):Int)=((a * Z[k]:Nat):Int):=(bQ _ _).symm
  rw [Za5.eq_2,if_neg (dF (by omega)),g,oB,decide_eq_false (by omega),Zlq,if_neg (by decide),g,oB,o,Zr (x:=((a * Z[k]:Nat):Int)) (by omega),Zr (by omega),
   show ((a * Z[k]:Nat):Int)+x=((a * Z[k]+x.toNat:Nat):Int) by omega]
  exact m
theorem Z9r {Z:List Nat} {d:List Int} (hZ:∀ s ∈ Z,0<s) (hb:Zp Z≤65536) (hd:U3 Z d):Zlp (Xb Z) d=some (((Yl Z d:Nat):Int),0):=by
 have a:d.length=Z.length:=(Zke hd).1.symm
 have h:=Z08 hb d 0 0 (by rw [aR];exact hd) (by rw [aR,gQ,cS];exact Zeb _ _ hd)
 rw [aR,gQ,cS] at h
 rw [Zlp,Zpb hZ hb,oB,if_neg (show ¬ (!decide ((0:Int)=0))=true by decide),if_neg (by rw [Xb,aE,a,decide_eq_true rfl];decide)]
 exact h
/-! cells -/
def Wk (n:Xa) (G:List R5) (S:List Int) (c a:Nat):Rat:=if T7 (Xh (Zg n) a) G=true then if Yl (Xi (Zg n) S) (Tl (Xh (Zg n) a) S)=c then W4 n a else 0 else 0
def Wf (n:Xa) (G:List R5) (S:List Int) (k:Nat):List QV:=(bG (Zp (Xi (Zg n) S))).map fun c=>Z2 (Wg (Wk n G S c) 0 k)
theorem Zpg (f:Nat→Rat) (k:Nat):Wg f 0 (k+1)=Wg f 0 k+f k:=by
 rw [Z1r,cS,Wg,Wg,fL]
section
variable {N W K:Nat} {n:Xa} (hf:Y8 N n)
variable (hs:W6 n W) (hr:Xg N (8 * K+40)) (hWK:1025 * (W+2)+15≤K) (h6:Zp (Zg n)≤600)
include hf hs hr hWK h6
omit hs hr hWK h6 in
theorem Zqf {G:List R5} {S:List Int} {c a:Nat} (ha:a<Zp (Zg n)):Bd (U5 n.2.2.2.2) 1 (Wk n G S c a):=by
 rw [Wk]
 split
 ·split
  ·exact Zrn hf (Zct hf (Zcs _ _ (Vo hf) ha))
  ·exact Bd.zero _ _
 ·exact Bd.zero _ _
omit hr in
theorem Zsf {f:Nat→Rat} (h:∀ a,a<Zp (Zg n)→Bd (U5 n.2.2.2.2) 1 (f a)) {k:Nat} (hk:k≤Zp (Zg n)):qs (Wg f 0 k)≤K:=
 Zsh hf hs hWK (by omega) (Z1s (Zqn _) k 0 fun i _ b=>h i (by omega))
theorem Zyk {G:List R5} {S:List Int} (hS:∀ v ∈ S,0≤v∧v<((Zg n).length:Int)) (hSl:S.length≤1048576) (hSP:Zp (Xi (Zg n) S)≤600) {k:Nat} (hk:k<Zp (Zg n)) (hh:T7 (Xh (Zg n) k) G=true) (kk:List Int→List Int→List QV→Option ((List Int×List Int×List QV)×Int)):
  ∀ (l pre:List Int),S=pre++l→Zc3 N S (Xb (Xi (Zg n) S)) (Wf n G S k) kk (Xh (Zg n) k,Z2 (W4 n k)) l (Tl (Xh (Zg n) k) pre)=kk S (Xb (Xi (Zg n) S)) (Wf n G S (k+1))
 | [],pre,e=>by
  rw [cL] at e
  subst e
  have g:=Zcs (Zg n) k (Vo hf) hk
  have b:=Znf (Zg n) k
  have q:=Zne g S (by rw [b];exact hS)
  have w:∀ s ∈ Xi (Zg n) S,0<s:=fun s hs=>by
   obtain ⟨v,r,rfl⟩:=cA.1 hs
   have:=hS v r
   rw [X4 (show v.toNat<(Zg n).length by omega)]
   exact Vo hf _ (aD _)
  have d:=Z9r w (by omega) q
  have m:=Zeb _ _ q
  generalize hc:Yl (Xi (Zg n) S) (Tl (Xh (Zg n) k) S)=c at *
  have t:c<(Wf n G S k).length:=by rw [Wf,aE,cC];exact m
  have o:(Wf n G S k)[c]=Z2 (Wg (Wk n G S c) 0 k):=by simp only [Wf,bU,cX]
  have q1:=Zsf hf hs hWK h6 (f:=Wk n G S c) (fun a x=>Zqf hf x) (iP hk)
  have y:=Zsh hf hs hWK (j:=1) (by decide) (Zrn hf (Zct hf g))
  have A:Zbi N (((Z2 (Wg (Wk n G S c) 0 k)).1.1,(Z2 (Wg (Wk n G S c) 0 k)).1.2),(Z2 (Wg (Wk n G S c) 0 k)).2) (((Z2 (W4 n k)).1.1,(Z2 (W4 n k)).1.2),(Z2 (W4 n k)).2)=some (Z2 (Wg (Wk n G S c) 0 k+W4 n k)):=by
   have:=Zqq (Zcf q1) (Zcf y) (hr.mono (by omega))
   rwa [Te,Te] at this
  have p:(Wf n G S k).set c (Z2 (Wg (Wk n G S c) 0 k+W4 n k))=Wf n G S (k+1):=by
   refine gC (by simp only [nS,Wf,aE]) fun i C D=>?_
   simp only [Wf,jE,bU,cX,Zpg]
   by_cases hi:c=i
   ·subst hi;rw [if_pos rfl,Wk,if_pos hh,if_pos hc]
   ·rw [if_neg hi,show Wk n G S i k=0 by rw [Wk,if_pos hh,hc,if_neg hi],fL]
  rw [Zc3.eq_1,d,oB]
  dsimp only
  rw [Zu t,oB,o,A,oB,oB,aB]
  exact congrArg (kk S (Xb (Xi (Zg n) S))) p
 | v :: l,pre,e=>by
  have r:=hS v (by rw [e];exact List.mem_append_right _ aQ)
  have b:=Znf (Zg n) k
  have d:Zi (Xh (Zg n) k) v=some ((Xh (Zg n) k).getD v.toNat 0):=by
   have:=Vg (l:=Xh (Zg n) k) 0 (j:=v.toNat) (by omega)
   rwa [show ((v.toNat:Nat):Int)=v by omega] at this
  have m:pre.length<S.length:=by rw [e,nA,nC];omega
  have u:=Zyk hS hSl hSP hk hh kk l (pre++[v]) (by rw [bK];exact e)
  have B:Tl (Xh (Zg n) k) (pre++[v])=Tl (Xh (Zg n) k) pre++[(Xh (Zg n) k).getD v.toNat 0]:=by rw [Tl,bV];rfl
  rw [B] at u
  rw [Zc3.eq_2]
  dsimp only
  rw [d,oB,Zx (by simp only [Tl,aE,aH,maxLen];omega)]
  exact u
theorem Zyj {G:List R5} (hG:G.all (V2 n)=true) {S:List Int} (hS:∀ v ∈ S,0≤v∧v<((Zg n).length:Int)) (hSl:S.length≤1048576) (hSP:Zp (Xi (Zg n) S)≤600):∀ (m k:Nat),k+m=Zp (Zg n)→Q0 N G (Zbd n k m) S (Xb (Xi (Zg n) S)) (Wf n G S k)=some ((S,Xb (Xi (Zg n) S),Wf n G S (Zp (Zg n))),0)
 | 0,k,a=>by rw [← a,bO];rfl
 | m+1,k,a=>by
  have d:=Zct hf (Zcs (Zg n) k (Vo hf) (by omega))
  have f:Znr (Xh (Zg n) k) G=some (T7 (Xh (Zg n) k) G):=Zyb d G hG
  have b:=Zyj hG hS hSl hSP m (k+1) (by omega)
  rw [Zbd,Q0.eq_2]
  dsimp only
  rw [f,oB]
  cases hb2:T7 (Xh (Zg n) k) G with
  | true=>
   rw [if_neg (by decide)]
   have g:=Zyk hf hs hr hWK h6 hS hSl hSP (show k<Zp (Zg n) by omega) hb2 (Q0 N G (Zbd n (k+1) m)) S [] rfl
   exact g.trans b
  | false=>
   rw [if_pos (show (!false)=true from rfl)]
   have e:Wf n G S k=Wf n G S (k+1):=by
    refine dW fun c _=>?_
    rw [Zpg,show Wk n G S c k=0 by rw [Wk,hb2,if_neg (by decide)],fL]
   rw [e]
   exact b
omit hf hs hr hWK h6 in
theorem Zyh {G:List R5} {S:List Int} {fin:Option ((List Int×List Int×List QV)×Int)} {e:Int} (hS:∀ v ∈ S,0≤v∧v<((Zg n).length:Int)) (hSl:S.length≤1048576) (hSP:Zp (Xi (Zg n) S)≤600) (hZ:∀ s ∈ Xi (Zg n) S,0<s)
  (hfin:Zc2 N n G (((Zp (Xi (Zg n) S):Nat):Int),0) N S (Xb (Xi (Zg n) S)) [] 0=fin):∀ (f i:Nat),i≤S.length→S.length<f+i→Zey N n G (Xb (Zg n),e) S f S (Xb (Xi (Zg n) (S.take i))) [] (i:Int)=fin
 | 0,i,b,c=>by omega
 | f+1,i,b,c=>by
  rw [Zey.eq_2]
  by_cases hi:i<S.length
  ·have g:=hS _ (aD hi)
   have a:Zi (Xb (Zg n)) S[i]=some (((Zg n).getD S[i].toNat 0:Nat):Int):=by
    have:=Zju (ss:=Zg n) (k:=S[i].toNat) (by omega)
    rwa [show ((S[i].toNat:Nat):Int)=S[i] by omega] at this
   have d:Xb (Xi (Zg n) (S.take i))++[(((Zg n).getD S[i].toNat 0:Nat):Int)]=Xb (Xi (Zg n) (S.take (i+1))):=by
    rw [bF hi,Xb,Xb,Xi,Xi,bV,bV];rfl
   rw [if_pos (dT (by omega)),Zu hi,oB,a,oB,Zx (by simp only [Xb,Xi,aE,nK,aH,maxLen];omega),d,wS (by omega)]
   exact Zyh hS hSl hSP hZ hfin f (i+1) (by omega) (by omega)
  ·rw [if_neg (dF (by omega)),bD (by omega),Zpb hZ (by omega),oB]
   exact hfin
omit hf hs hWK h6 in
theorem Zyi (hN:4611686018427387903<N) {G:List R5} {S:List Int} {e:Int} (hP:Zp (Xi (Zg n) S)≤600) (ja:Zew N (n.1,n.2.1,n.2.2.1,n.2.2.2.1,n.2.2.2.2)=some (Zbd n 0 (Zp (Zg n)))):∀ (f j:Nat),j≤Zp (Xi (Zg n) S)→Zp (Xi (Zg n) S)<f+j→
  Zc2 N n G (((Zp (Xi (Zg n) S):Nat):Int),e) f S (Xb (Xi (Zg n) S)) ((bG j).map fun c=>Z2 (Wg (Wk n G S c) 0 0)) (j:Int)=Q0 N G (Zbd n 0 (Zp (Zg n))) S (Xb (Xi (Zg n) S)) (Wf n G S 0)
 | 0,j,d,g=>by omega
 | f+1,j,d,g=>by
  rw [Zc2.eq_2]
  by_cases a:j<Zp (Xi (Zg n) S)
  ·have i:((bG j).map fun c=>Z2 (Wg (Wk n G S c) 0 0))++[Z2 0]=(bG (j+1)).map fun c=>Z2 (Wg (Wk n G S c) 0 0):=by
    rw [fK,bV];rfl
   have b:=Zyi hN (G:=G) (e:=e) hP ja f (j+1) (by omega) (by omega)
   rw [← i] at b
   rw [if_pos (dT (by dsimp only;omega)),Z6u (hr.mono (by omega)),oB,Zx (by simp only [aE,cC,aH,maxLen];omega),wS (by omega)]
   exact b
  ·have a:j=Zp (Xi (Zg n) S):=by omega
   rw [if_neg (by dsimp only;rw [decide_eq_false (by omega)];decide),ja,oB,a];rfl
theorem Z8k (hN:4611686018427387903<N) (hq:∀ t ∈ n.2.2.2.2,Xz (t.map W1)≤W) {G:List R5} {V:List Int} (hGl:G.length≤2097152) (hVl:V.length≤1048576) (hw:Vw n G V=0):
  Qz N n V G=some ((Wn V,Xb (Xi (Zg n) (Wn V)),Wf n G (Wn V) (Zp (Zg n))),0):=by
 have u:=hf.le;have a:=hf.ev.v
 have l:(Zg n).length=n.2.1.length:=by rw [Zg,aE,a]
 obtain ⟨m,o,p⟩:=Zvt hf hs (hr.mono (by omega)) (by omega) G V hGl hVl
 have g:Tq N (n.1,n.2.1,n.2.2.1,n.2.2.2.1,n.2.2.2.2) G V=some (m,Vw n G V):=o
 have i:=p hw
 have q:Zew N (n.1,n.2.1,n.2.2.1,n.2.2.2.1,n.2.2.2.2)=some (Zbd n 0 (Zp (Zg n))):=Z62 hf hs hr (by omega) (by omega) hq (show Zp (Zg n)≤65536 by omega)
 have j:=Zxs hw
 have f:=Zki V
 have d:V.all (Tu n)=true∧(G.map (·.1)++V).Nodup:=by
  rw [Vw,if_pos j] at hw
  by_cases h1:V.all (Tu n)=true
  ·rw [if_pos h1] at hw
   by_cases h2:(G.map (·.1)++V).Nodup
   ·exact ⟨h1,h2⟩
   ·rw [if_neg h2] at hw;exact absurd hw (by decide)
  ·rw [if_neg h1] at hw;exact absurd hw (by decide)
 have c:∀ v ∈ Wn V,0≤v∧v<((Zg n).length:Int):=fun v a=>by
  have:=cT.1 d.1 v (f.mem_iff.1 a)
  simp only [Tu,Bool.and_eq_true,decide_eq_true_eq] at this
  omega
 have k:(Wn V).Nodup:=f.nodup_iff.2 (cI.1 d.2).2.1
 have e:(Wn V).length≤1048576:=by rw [f.length_eq];exact hVl
 have b:Zp (Xi (Zg n) (Wn V))≤600:=aY (Zl8 (Vo hf) k c) h6
 have r:∀ s ∈ Xi (Zg n) (Wn V),0<s:=fun s hs=>by
  obtain ⟨v,a,rfl⟩:=cA.1 hs
  have:=c v a
  rw [X4 (show v.toNat<(Zg n).length by omega)]
  exact Vo hf _ (aD _)
 rw [Qz,g,oB]
 dsimp only
 rw [hw,if_neg (show ¬ (!decide ((0:Int)=0))=true by decide),Z65,oB,Z64 _ (by omega),oB,i]
 refine Zyh (fin:=some ((Wn V,Xb (Xi (Zg n) (Wn V)),Wf n G (Wn V) (Zp (Zg n))),0)) c e b r ?_ N 0 (aT _) (by omega)
 exact (Zyi hr hN b q N 0 (aT _) (by omega)).trans (Zyj hf hs hr hWK h6 j c e b (Zp (Zg n)) 0 (by omega))
end
def Zgv (ae ab:List Int) (ad:Int) (kk_L1:(List Int→Int→Option R2)) (aa:Int) (kk_L2:(Int→Option R2)) (af:Bool):Option R2:=
  if af=true then (kk_L2 (i64.wrap (aa+1))) else (Zt ((0:Int)≤aa∧aa≤(ab.length:Int)) (Zt ((([]:List Int).length+(ab.take (aA aa)).length) * 8≤140737488355328∧([]:List Int).length+(ab.take (aA aa)).length≤maxLen) ((Zi ae ad).bind fun ac=>Zt (((([]:List Int)++(ab.take (aA aa))).length+[ac].length) * 8≤140737488355328∧(([]:List Int)++(ab.take (aA aa))).length+[ac].length≤maxLen) (Zt ((0:Int)≤aa∧aa≤(ab.length:Int)) (Zt ((((([]:List Int)++(ab.take (aA aa)))++[ac]).length+(ab.drop (aA aa)).length) * 8≤140737488355328∧((([]:List Int)++(ab.take (aA aa)))++[ac]).length+(ab.drop (aA aa)).length≤maxLen) (kk_L1 (((([]:List Int)++(ab.take (aA aa)))++[ac])++(ab.drop (aA aa))) (i64.wrap (ad+1))))))))
def Za4 (N:Nat) (ab aa:List Int) (ac:Int) (kk_L1:(List Int→Int→Option R2)):Nat→Int→Option R2
  | 0,_=>none
  | ae+1,ad=>if (decide (ad<(aa.length:Int)))=true then ((Zi aa ad).bind fun af=>(Zi ab ac).bind fun ag=>Zgv ab aa ac kk_L1 ad (Za4 N ab aa ac kk_L1 ae) (decide (af<ag))) else (Zgv ab aa ac kk_L1 ad (Za4 N ab aa ac kk_L1 ae) false)
def Qa (N:Nat) (aa:List Int):Nat→R2→Int→Option R2
  | 0,_,_=>none
  | ad+1,ab,ac=>if (decide (ac<(aa.length:Int)))=true then (Za4 N aa ab ac (Qa N aa ad) N 0) else (some ab)
def Zoa (N:Nat) (aa:List Int):Option R2:=
  Qa N aa N ([]:List Int) 0
theorem Z4l {N a3:Nat} {a0:Option Addr} {col:Zd} {w0:World} {ag r:R2} (c1:Nat) (hm:Zoa N ag=some r) (h0:Sl rI col w0 a0 a3 ag):
    Calls prog 77 #[.slice a0 ag.length a3] w0 (W2 .i64 3 c1 col w0 r):=by
 refine Z6 2 (m:=48) func77 rfl rfl rfl rfl rfl ?_;rw [Zoa.eq_1] at hm;have aa:=St.start col w0;refine go ?_;refine Zs [0,1000000] (fun n f al=>∃ am af ae ad ak ah,ah=n∧Qa N ag ah ad ak=some r∧St w0 (Zf col) am al∧Zc rI 3 1 am al af ae ad∧[3,4].map f=[.slice af ad.length ae,.int .i64 ak]) N ⟨_,none,0,_,0,_,rfl,hm,aa,Zc.nil,rfl⟩ ?_;clear hm;intro n f al hI;obtain ⟨am,af,ae,ad,ak,ah,hn,hm,aa,ab,hs⟩:=hI;subst hn;refine .lL [3,4] hs ?_;replace h0:=h0.k0
 cases ah with
 | zero=>rw [Qa.eq_1] at hm;cases hm
 | succ ah=>
  rw [Qa.eq_2] at hm;refine go ?_;refine Zm hm (fun hb hm=>go ?_) fun hb hm=>go ?_
  ·refine Zs [0,3,4,1000000] (fun n f an=>∃ ai ac aj,aj=n∧Za4 N ag ad ak (Qa N ag ah) aj ac=some r∧St w0 (Zf col) ai an∧Zc rI 3 1 ai an af ae ad∧[5].map f=[.int .i64 ac]) N ⟨_,0,_,rfl,hm,aa,ab,rfl⟩ ?_;clear hm;intro n f an hI;obtain ⟨ai,ac,aj,hn,hm,aa,ab,hs⟩:=hI;subst hn;refine .lL [5] hs ?_
   cases aj with
   | zero=>rw [Za4.eq_1] at hm;cases hm
   | succ aj=>
    rw [Za4.eq_2] at hm;refine Z0<|Z0 ?_;refine Wp.cutK [0,3,4,5,1000000] (fun f ao=>∃ ap aq,Zgv ag ad ak (Qa N ag ah) ac (Za4 N ag ad ak (Qa N ag ah) aj) aq=some r∧St w0 (Zf col) ap ao∧Zc rI 3 1 ap ao af ae ad∧[27].map f=[.bool aq]) ?_ ?_
    ·intro f ao hJ;obtain ⟨ap,aq,hm,aa,ab,hs⟩:=hJ;rw [Zgv.eq_1] at hm;refine .lL [27] hs ?_;refine Zm hm (fun hb hm=>go ?_) fun hb hm=>go ?_
     ·exact ⟨aj,by omega,rfl,⟨_,_,_,rfl,hm,aa,ab,rfl⟩⟩
     obtain ⟨ar,hm⟩:=Zv hm;refine lv (v:=.slice af (aA ac) ae) rfl rfl (Vt underlying36 sizeOf3 rfl rfl ar.1 (by have:=ab.lecap;have:=ar.2;omega))<|.ld (d:=33) (v:=(.slice af ((ad.take (aA ac)).length) ae)) (congrArg (fun n=>Value.slice af n ae) (bE (show (aA ac)≤ad.length by have:=ar.2;omega)).symm) ?_;obtain ⟨a8,hm⟩:=Zv hm;refine Yy (c:=2) Zc.nil ((ab.take (aA ac)).srcN (NB.int (k:=.i64))) a8 ?_;intro bi bj bk a9 a4 au;refine go ?_;obtain ⟨ba,av,hm⟩:=bZ hm;replace aa:=aa.kpp a4;refine lI av ((h0.ks aa).addr av)<|lW ((h0.ks aa).atInt av)<|Wj (col:=a9) [ba] 3 ?_;intro bm bn bo aw bb;obtain ⟨bc,hm⟩:=Zv hm;refine Yy (au.gr aw) (bb.srcN (NB.int (k:=.i64))) bc ?_;intro bp bq br bs a5 ax;refine go ?_;obtain ⟨a6,hm⟩:=Zv hm;replace ab:=((ab.kpp a4).gr aw).kpp a5;replace ab:=(ab).toSlF (Zh.int .i64);replace aa:=(aa.grow aw).kpp a5;replace aa:=aa.froz 1 (by decide) (by decide);have bd:=ab.drop (sz:=1) rfl (aA ac);refine lv (v:=.slice (if ae=(aA ac) then af else af.map (·.add ((aA ac) * 1))) (ad.length - (aA ac)) (ae - (aA ac))) rfl rfl (Zzb underlying36 sizeOf3 rfl rfl a6.1 a6.2) ?_;generalize (if ae=(aA ac) then af else af.map (·.add ((aA ac) * 1)))=a7 at *;refine .ld (d:=45) (v:=(.slice a7 ((ad.drop (aA ac)).length) (ae - (aA ac)))) (congrArg (fun n=>Value.slice a7 n (ae - (aA ac))) (cG (i:=(aA ac)) (l:=ad)).symm) ?_;obtain ⟨be,hm⟩:=Zv hm;refine Yy (ax.froz 1) bd.srcC be ?_;intro bt bu bv bw bf ay;refine go ?_;replace ay:=ay.recolSelf 1 (by decide);replace aa:=aa.kpp bf;replace aa:=aa.recol 2 1 (by decide) (by decide);exact ⟨ah,by omega,rfl,⟨_,_,_,_,_,_,rfl,hm,aa,ay,rfl⟩⟩
    refine Y7 (col:=ai) (by kernel_rfl) (by kernel_rfl)<|go ?_;refine Xn hm (fun az hm=>go ?_) fun az hm=>go ?_
    ·obtain ⟨bg,a1,hm⟩:=bZ hm;refine qI a1 (ab.addr a1) ?_;refine go ?_;refine qW (fun _ hC=>(ab.gr (hC.bl ai)).atInt a1) ?_;refine go ?_;obtain ⟨bh,a2,hm⟩:=bZ hm;refine qI a2 ((h0.ks aa).addr a2) ?_;refine go ?_;refine qW (fun _ hC=>((h0.ks aa).gr (hC.bl ai)).atInt a2) ?_;refine go ?_;refine qv (v:=(.bool (decide (bg<bh)))) rfl (fun _ hC=>Zw (congrArg Value.bool az) rfl) ?_;refine X2 ?_;intro bx hC;replace hC:=hC.bl ai;replace ab:=ab.gr hC;replace aa:=aa.grow hC;exact ⟨rfl,_,_,hm,aa,ab,rfl⟩
    refine qv (v:=(.bool false)) rfl (fun _ hC=>Xk (congrArg Value.bool az) rfl) ?_;refine X2 ?_;intro bz hC;replace hC:=hC.bl ai;replace ab:=ab.gr hC;replace aa:=aa.grow hC;exact ⟨rfl,_,_,hm,aa,ab,rfl⟩
  cases hm;exact ⟨rfl,_,_,_,rfl,aa.fin (cm [(1,c1)]),aa.fo ab⟩
theorem Z54:Y1 prog 3 1 8:=⟨Tryz.t3,_,rfl,rfl,rfl,rfl,rfl⟩
theorem Z59:Y1 prog 42 3 56:=⟨Tryz.t42,_,rfl,rfl,rfl,rfl,rfl⟩
def Zjl (aa:Int) (kk_L3:(Int→R2→R2→R6→Option Rb)) (ab ac:List Int) (ad:List R1):Option Rb:=
  kk_L3 (i64.wrap (aa+1)) ab ac ad
def Zgs (N:Nat) (ad:(Rd×R6)) (aa:Int) (ab ae:List Int) (af:List R1) (kk_L3:(Int→R2→R2→R6→Option Rb)):Nat→Int→Int→Option Rb
  | 0,_,_=>none
  | ak+1,ag,ac=>if (decide (ac<(ab.length:Int)))=true then ((Zi ae ac).bind fun al=>(Zi ad.1 aa).bind fun am=>(Zi ab ac).bind fun an=>(Zi am an).bind fun ao=>(Zgs N ad aa ab ae af kk_L3 ak) (i64.wrap ((i64.wrap (ag * al))+ao)) (i64.wrap (ac+1))) else ((Zi af ag).bind fun ah=>(Zi ad.2 aa).bind fun ai=>(Zfs N ((ah.1.1,ah.1.2),ah.2) ((ai.1.1,ai.1.2),ai.2)).bind fun aj=>(some (af.set (aA ag) ((aj.1.1,aj.1.2),aj.2))).bind fun ap=>Zjl aa kk_L3 ab ae ap)
def Sf (N:Nat) (ac:Re) (aa:(Rd×R6)):Nat→Int→R2→R2→R6→Option Rb
  | 0,_,_,_,_=>none
  | ag+1,ab,ad,ae,af=>if (decide (ab<(aa.1.length:Int)))=true then ((Zi aa.1 ab).bind fun ah=>(Zn9 N ah ac).bind fun ai=>if (!ai)=true then (Zjl ab (Sf N ac aa ag) ad ae af) else (Zgs N aa ab ad ae af (Sf N ac aa ag) N 0 0)) else (some ((ad,ae,af),0))
def Zd2 (N:Nat) (ab:R0) (ad:Re) (ae:Int):Nat→Int→R2→R2→R6→Option Rb
  | 0,_,_,_,_=>none
  | ai+1,af,ag,ah,ac=>if (decide (af<ae))=true then ((Zay N 0 1).bind fun aa=>Zt ((ac.length+[((aa.1.1,aa.1.2),aa.2)].length) * 56≤140737488355328∧ac.length+[((aa.1.1,aa.1.2),aa.2)].length≤maxLen) ((Zd2 N ab ad ae ai) (i64.wrap (af+1)) ag ah (ac++[((aa.1.1,aa.1.2),aa.2)]))) else ((Zf5 N (ab.1,ab.2.1,ab.2.2.1,ab.2.2.2.1,ab.2.2.2.2)).bind fun aj=>Sf N ad aj N 0 ag ah ac)
def Zgr (N:Nat) (ae:R0) (af:Re):Nat→Int→Int→R2→R2→R6→Option Rb
  | 0,_,_,_,_,_=>none
  | ai+1,ag,ab,ac,aa,ah=>if (decide (ab<(ac.length:Int)))=true then ((Zi ac ab).bind fun aj=>(Zi ae.2.2.1 aj).bind fun ad=>Zt ((aa.length+[(ad.length:Int)].length) * 8≤140737488355328∧aa.length+[(ad.length:Int)].length≤maxLen) ((Zi (aa++[(ad.length:Int)]) ab).bind fun ak=>(Zgr N ae af ai) (i64.wrap (ag * ak)) (i64.wrap (ab+1)) ac (aa++[(ad.length:Int)]) ah)) else (Zd2 N ae af ag N 0 ac aa ah)
def Zad (N:Nat) (aa:R0) (ab:List Int) (ac:Re):Option Rb:=
  (V9 N (aa.1,aa.2.1,aa.2.2.1,aa.2.2.2.1,aa.2.2.2.2) ac ab).bind fun ad=>if (!decide (ad=0))=true then (some ((([]:List Int),([]:List Int),([]:List R1)),ad)) else ((Zoa N ab).bind fun ae=>Zgr N aa ac N 1 0 ae ([]:List Int) ([]:List R1))
theorem Zto {N cl cn co cp es et:Nat} {cq cr ct cu a1 a2:Option Addr} {col:Zd} {w0:World} {ah:R0} {dm:R2} {a7:Re} {r:Rb} (c1 c2 c3:Nat) (hm:Zad N ah dm a7=some r) (cv:Sl Za.str col w0 cq cl ah.2.1) (bj:Sl rV col w0 cr cn ah.2.2.1) (cw:Sl rP col w0 ct co ah.2.2.2.1) (cx:Sl (Za.slice rQ) col w0 cu cp ah.2.2.2.2) (h1:Sl rI col w0 a1 es dm) (h2:Sl (Za.pair rI rI) col w0 a2 et a7):
    Calls prog 24 #[(.agg #[.string ah.1,.slice cq ah.2.1.length cl,.slice cr ah.2.2.1.length cn,.slice ct ah.2.2.2.1.length co,.slice cu ah.2.2.2.2.length cp]),.slice a1 dm.length es,.slice a2 a7.length et] w0 (fun e w'=>∃ col' ra1 rc2 ra4 rc5 ra7 rc8,e= .returned (.tuple #[(.agg #[.slice ra1 r.1.1.length rc2,.slice ra4 r.1.2.1.length rc5,.slice ra7 r.1.2.2.length rc8]),.int .i64 r.2])∧Zn col w0 col' w'∧Zc rI 3 c1 col' w' ra1 rc2 r.1.1∧Zc rI 3 c2 col' w' ra4 rc5 r.1.2.1∧Zc (rO 45) 42 c3 col' w' ra7 rc8 r.1.2.2):=by
 refine We (m:=130) func24 rfl rfl rfl ?_;rw [Zad.eq_1] at hm;have aa:=St.start col w0;refine go ?_;refine Xl (col:=(Zf col)) 1 rfl ?_;intro eu hd fb fc ad;refine Xx (col:=fb) #[(nI),(nI),(.slice none (([]:List R1).length) 0)] 2 zeroValue58 ?_;intro b4 fd ew ey ac;refine go ?_;replace ad:=ad.gr ey;refine lV _ (Z9 isAgg27 sizeOf27 ad)<|go ?_;obtain ⟨he,fe,hm⟩:=bZ hm;replace cv:=cv.k0;replace bj:=bj.k0;replace cw:=cw.k0;replace cx:=cx.k0;replace h1:=h1.k0;replace h2:=h2.k0;replace aa:=(aa.grow fc).grow ey;refine Zk (Zqb fe (cv.ks aa) (bj.ks aa) (cw.ks aa) (cx.ks aa) (h2.ks aa) (h1.ks aa)) fun _ ff ⟨e',b5⟩=>⟨_,e',?_⟩;replace b5:Zn ew fd ew ff:=.of_below b5;refine go ?_;replace ad:=ad.gr b5;replace ac:=ac.gr b5;replace aa:=aa.grow b5;refine Zm hm (fun hb hm=>go ?_) fun hb hm=>go ?_
 ·refine lV (.agg #[(nI),(nI),(.slice none (([]:List R1).length) 0)]) (Wl (l:=[_,_,_]) (qs:=[(0,1),(1,1),(2,1)]) underlying58 zeroValue58 ⟨rfl,sizeOf36,rfl,sizeOf36,rfl,sizeOf29,trivial⟩ rfl)<|Xr rfl<|Xf ac ?_;intro hf fg fh fi;refine go ?_;cases hm;replace aa:=aa.kp fg fh;exact ⟨rfl,_,Qj fi.atN,_,none,0,none,0,none,0,rfl,aa.fin (cm []),Zc.nil,Zc.nil,Zc.nil⟩
 obtain ⟨fj,fk,hm⟩:=bZ hm;refine Zk (Z4l 3 fk (h1.ks aa)) fun _ hg ⟨fl,fm,fn,e',dn,dp⟩=>⟨_,e',?_⟩;refine lV (.agg #[.slice fm fj.length fn,(nI),(.slice none (([]:List R1).length) 0)]) (Wl (l:=[_,_,_]) (qs:=[(0,1),(1,1),(2,1)]) underlying58 zeroValue58 ⟨rfl,sizeOf36,rfl,sizeOf36,rfl,sizeOf29,trivial⟩ rfl)<|Xx (col:=fl) #[(nI),(nI),(.slice none (([]:List R1).length) 0)] 4 zeroValue58 ?_;intro a8 hh hi cy fp;refine Xf fp ?_;intro hj cz fq ab;refine go ?_;replace ad:=((ad.gr dn).gr cy).kp cz;replace ac:=((ac.gr dn).gr cy).kp cz;replace aa:=((aa.grow dn).grow cy).kp cz fq;refine Zs [2,3,6,9,1000000] (fun n f a9=>∃ al c0 dq c4 c5 b6 dr ds bk c6 c7 b7 bm,bm=n∧Zgr N ah a7 bm c0 dq b6 bk b7=some r∧St w0 (Zf col) al a9∧Zj 27 1 al a9 eu #[.string ah.1,.slice cq ah.2.1.length cl,.slice cr ah.2.2.1.length cn,.slice ct ah.2.2.2.1.length co,.slice cu ah.2.2.2.2.length cp]∧Zj 58 2 al a9 b4 #[(nI),(nI),(.slice none (([]:List R1).length) 0)]∧Zc rI 3 3 al a9 c4 c5 b6∧Zc rI 3 5 al a9 dr ds bk∧Zc (rO 45) 42 6 al a9 c6 c7 b7∧Zj 58 4 al a9 a8 #[.slice c4 b6.length c5,.slice dr bk.length ds,.slice c6 b7.length c7]∧[10,11].map f=[.int .i64 c0,.int .i64 dq]) N ⟨_,1,0,_,_,_,none,0,_,none,0,_,_,rfl,hm,aa,ad,ac,(dp.gr cy).kp cz,Zc.nil,Zc.nil,ab,rfl⟩ ?_;clear hm;intro n f a9 hI;obtain ⟨al,c0,dq,c4,c5,b6,dr,ds,bk,c6,c7,b7,bm,hn,hm,aa,ad,ac,ar,bn,ax,ab,hs⟩:=hI;subst hn;refine .lL [10,11] hs ?_
 cases bm with
 | zero=>rw [Zgr.eq_1] at hm;cases hm
 | succ bm=>
  rw [Zgr.eq_2] at hm;refine go ?_;refine Z1 ab ?_;refine go ?_;refine Zm hm (fun hb hm=>go ?_) fun hb hm=>go ?_
  ·refine Wc (col:=al) [(0,1),(1,0),(2,1),(3,0),(4,1),(5,0),(6,1),(7,1),(8,0),(9,1),(10,0),(11,1),(12,3),(13,2),(14,1),(15,2)] (by kernel_rfl) (by kernel_rfl)<|xF ⟨_,_,rfl⟩ ?_;refine xW (fun _ hC=>((ab.atN).nth (q:=1) rfl).gr (hC.bl al)) ?_;refine xF ⟨_,_,rfl⟩ ?_;refine xW (fun _ hC=>((ad.atN).nth (q:=2) rfl).gr (hC.bl al)) ?_;refine xF ⟨_,_,rfl⟩ ?_;refine xW (fun _ hC=>((ab.atN).nth (q:=0) rfl).gr (hC.bl al)) ?_;refine xu rfl rfl (fun _=>Yz rfl) ?_;obtain ⟨hk,c8,hm⟩:=bZ hm;refine xu rfl rfl (fun _=>Yv underlying36 sizeOf3 rfl rfl (Xe c8).1 (Xe c8).2.1 (ar.addr c8)) ?_;refine xW (fun _ hC=>(ar.gr (hC.bl al)).atInt c8) ?_;obtain ⟨dt,c9,hm⟩:=bZ hm;refine xu rfl rfl (fun _=>Yv underlying23 sizeOf22 rfl rfl (Xe c9).1 (Xe c9).2.1 ((bj.ks aa).addr c9)) ?_;obtain ⟨_,fr,ft⟩:=(bj.ks aa).atN c9;obtain ⟨⟨hl,ho,rfl,hp⟩,_⟩:=fr;refine xW (fun _ hC=>ft.one.gr (hC.bl al)) ?_;refine xu rfl rfl (fun _=>Uz underlying22 rfl) ?_;refine xe rfl rfl ?_;intro hq hC0;have hC:=hC0.bl al;refine Wj (col:=al) [(dt.length:Int)] 7 ?_;intro hr ht du ba dv;refine Zl<|Xt du hC0 ba<|xe rfl rfl ?_;intro fu hC0;replace ar:=(ar.gr hC).gr ba;replace bn:=(bn.gr hC).gr ba;replace ax:=(ax.gr hC).gr ba;replace ad:=(ad.gr hC).gr ba;replace ac:=(ac.gr hC).gr ba;replace ab:=(ab.gr hC).gr ba;replace aa:=(aa.grow hC).grow ba;have hC:=hC0.bl du;obtain ⟨ez,hm⟩:=Zv hm;replace bn:=bn.gr hC;refine V8 (col:=du) (w:=fu) (r:=rI) (c:=5) (c2:=5) (bn.ex) ((dv.gr hC).srcN (NB.int (k:=.i64))) rfl underlying36 Z54 rfl rfl rfl ez.1 ez.2 (by decide) ?_;intro e0 e1 hv b8 bo dw;refine Zl<|xk b8<|xF ⟨_,_,rfl⟩ ?_;refine xe rfl rfl ?_;intro hw hC0;replace ar:=(ar.gr hC).kpp bo;replace ax:=(ax.gr hC).kpp bo;replace ad:=(ad.gr hC).kpp bo;replace ac:=(ac.gr hC).kpp bo;replace ab:=(ab.gr hC).kpp bo;replace aa:=(aa.grow hC).kpp bo;have hC:=hC0.bl b8;replace ab:=ab.gr hC;refine Ud (off:=1) (v:=(.slice e0 ((bk++[(dt.length:Int)]).length) e1)) ab sizeOf36 rfl rfl (by intro u hu;simp only [Value.cells,aP,bA,or_false] at hu;subst hu;rfl) rfl rfl ?_;intro fv bp fw bq;replace bq:Zj 58 4 b8 fv a8 #[.slice c4 b6.length c5,.slice e0 ((bk++[(dt.length:Int)]).length) e1,.slice c6 b7.length c7]:=bq;refine Zl<|xk b8 ?_;have b9:=((dw.gr hC).kp bp).new;refine Y0 ?_;replace ar:=(ar.gr hC).kp bp
   replace ax:=(ax.gr hC).kp bp;replace ad:=(ad.gr hC).kp bp;replace ac:=(ac.gr hC).kp bp;replace aa:=(aa.grow hC).kp bp fw;intro hx hC;replace hC:=hC.bl b8;refine go ?_;refine Z7 ⟨_,_,rfl⟩ ?_;replace bq:=bq.gr hC;refine lW ((bq.atN).nth (q:=1) rfl)<|Xr rfl ?_;obtain ⟨hy,dx,hm⟩:=bZ hm;replace b9:=b9.gr hC;refine lI dx (b9.addr dx)<|lW (b9.atInt dx) ?_;refine go ?_;replace ar:=ar.gr hC;replace ax:=ax.gr hC;replace ad:=ad.gr hC;replace ac:=ac.gr hC;replace aa:=aa.grow hC;exact ⟨bm,by omega,rfl,⟨_,_,_,_,_,_,_,_,_,_,_,_,_,rfl,hm,aa,ad,ac,ar,b9,ax,bq,rfl⟩⟩
  refine Zs [10,2,3,6,9,1000000] (fun n f bb=>∃ au dy da db ca dc dd cb dz d0 br bs,bs=n∧Zd2 N ah a7 c0 bs dy ca cb br=some r∧St w0 (Zf col) au bb∧Zj 27 1 au bb eu #[.string ah.1,.slice cq ah.2.1.length cl,.slice cr ah.2.2.1.length cn,.slice ct ah.2.2.2.1.length co,.slice cu ah.2.2.2.2.length cp]∧Zj 58 2 au bb b4 #[(nI),(nI),(.slice none (([]:List R1).length) 0)]∧Zc rI 3 3 au bb da db ca∧Zc rI 3 5 au bb dc dd cb∧Zc (rO 45) 42 6 au bb dz d0 br∧Zj 58 4 au bb a8 #[.slice da ca.length db,.slice dc cb.length dd,.slice dz br.length d0]∧[12].map f=[.int .i64 dy]) N ⟨_,0,_,_,_,_,_,_,_,_,_,_,rfl,hm,aa,ad,ac,ar,bn,ax,ab,rfl⟩ ?_;clear hm;intro n f bb hI;obtain ⟨au,dy,da,db,ca,dc,dd,cb,dz,d0,br,bs,hn,hm,aa,ad,ac,am,an,av,ab,hs⟩:=hI;subst hn;refine .lL [12] hs ?_
  cases bs with
  | zero=>rw [Zd2.eq_1] at hm;cases hm
  | succ bs=>
   rw [Zd2.eq_2] at hm;refine go ?_;refine Zm hm (fun hb hm=>go ?_) fun hb hm=>go ?_
   ·refine Wc (col:=au) [(0,1),(1,0),(2,3),(3,3),(4,2),(5,1),(6,2)] (by kernel_rfl) (by kernel_rfl)<|xF ⟨_,_,rfl⟩ ?_;refine xW (fun _ hC=>((ab.atN).nth (q:=2) rfl).gr (hC.bl au)) ?_;refine xe rfl rfl ?_;intro hz hC0;have hC:=hC0.bl au;obtain ⟨ao,fx,hm⟩:=bZ hm;refine Zk (Zm9 (col:=au) 8 9 fx) fun _ h0 ⟨d1,e2,e3,e4,e5,e',bc,d2,d3⟩=>⟨_,e',?_⟩;refine Zl<|Xt d1 hC0 bc<|xe rfl rfl ?_;intro h3 hC0;replace am:=(am.gr hC).gr bc;replace an:=(an.gr hC).gr bc;replace av:=(av.gr hC).gr bc;replace ad:=(ad.gr hC).gr bc;replace ac:=(ac.gr hC).gr bc;replace ab:=(ab.gr hC).gr bc;replace aa:=(aa.grow hC).grow bc;have hC:=hC0.bl d1;have fy:=X0.join (X0.joinL (U0 ao.1.1) (d2.gr hC).has) (d3.gr hC).has (by decide) (by decide);replace am:=am.gr hC;replace am:=am.recol 9 8;replace an:=an.gr hC;replace an:=an.recol 9 8;replace av:=av.gr hC;replace av:=av.recol 9 8;replace ad:=ad.gr hC;replace ad:=ad.recol 9 8;replace ac:=ac.gr hC;replace ac:=ac.recol 9 8;replace ab:=ab.gr hC;replace ab:=ab.recol 9 8;replace aa:=aa.grow hC;replace aa:=aa.recol 9 8 (by decide) (by decide);refine Uo (col:=(X7 9 8 d1)) (r:=(rO 45)) (xs:=[((ao.1.1,ao.1.2),ao.2)]) [(.agg #[.bool ao.1.1,.slice e2 ao.1.2.length e3,.slice e4 ao.2.length e5])] 8 (W0.cons1 (cs:=[.bool ao.1.1,.slice e2 ao.1.2.length e3,.slice e4 ao.2.length e5]) fy Rows.nil0) ?_;intro h4 h5 d4 bd d5;refine Zl<|Xt d4 hC0 bd<|xe rfl rfl ?_;intro fz hC0;have hC:=hC0.bl d4;obtain ⟨e6,hm⟩:=Zv hm;replace av:=(av.gr bd).gr hC;refine V8 (col:=d4) (w:=fz) (r:=(rO 45)) (c:=6) (c2:=8) (av.ex) ((d5.gr hC).srcC (by decide)) rfl underlying29 Z59 rfl rfl rfl e6.1 e6.2 (by decide) ?_;intro e7 e8 h6 cc bt d6;refine Zl<|xk cc<|xF ⟨_,_,rfl⟩ ?_;refine xe rfl rfl ?_;intro h7 hC0;replace am:=((am.gr bd).gr hC).kpp bt;replace an:=((an.gr bd).gr hC).kpp bt;replace ad:=((ad.gr bd).gr hC).kpp bt;replace ac:=((ac.gr bd).gr hC).kpp bt;replace ab:=((ab.gr bd).gr hC).kpp bt;replace aa:=((aa.grow bd).grow hC).kpp bt;have hC:=hC0.bl cc;replace ab:=ab.gr hC
    refine Ud (off:=2) (v:=(.slice e7 ((br++[((ao.1.1,ao.1.2),ao.2)]).length) e8)) ab sizeOf29 rfl rfl (by intro u hu;simp only [Value.cells,aP,bA,or_false] at hu;subst hu;rfl) rfl rfl ?_;intro f0 bu f1 cd;replace cd:Zj 58 4 cc f0 a8 #[.slice da ca.length db,.slice dc cb.length dd,(.slice e7 ((br++[((ao.1.1,ao.1.2),ao.2)]).length) e8)]:=cd;refine Zl<|xk cc ?_;have d7:=((d6.gr hC).kp bu).new;refine Y0 ?_;replace am:=(am.gr hC).kp bu;replace an:=(an.gr hC).kp bu;replace ad:=(ad.gr hC).kp bu;replace ac:=(ac.gr hC).kp bu;replace aa:=(aa.grow hC).kp bu f1;intro h8 hC;replace hC:=hC.bl cc;refine go ?_;replace am:=am.gr hC;replace an:=an.gr hC;replace ad:=ad.gr hC;replace ac:=ac.gr hC;replace aa:=aa.grow hC;exact ⟨bs,by omega,rfl,⟨_,_,_,_,_,_,_,_,_,_,_,_,rfl,hm,aa,ad,ac,am,an,d7.gr hC,cd.gr hC,rfl⟩⟩
   refine lV _ (Z9 isAgg27 sizeOf27 ad) ?_;obtain ⟨ap,f2,hm⟩:=bZ hm;refine Zk (Z4a 10 11 f2 (cv.ks aa) (bj.ks aa) (cw.ks aa) (cx.ks aa)) fun _ h9 ⟨ia,ce,cf,cg,ch,e',bv,af,ag⟩=>⟨_,e',?_⟩;refine lM (.tuple #[.slice ce ap.1.length cf,.slice cg ap.2.length ch])<|lV (.slice ce ap.1.length cf) (Xu rfl rfl)<|lV (.slice cg ap.2.length ch) (Xu rfl rfl)<|go ?_;replace ac:=ac.gr bv;replace ab:=ab.gr bv;replace aa:=aa.grow bv;refine Zs [13,14,2,6,9,1000000] (fun n f ay=>∃ aw ci bw bx be bz b0 bf b1 b2 a3 bg,bg=n∧Sf N a7 ap bg ci be bf a3=some r∧St w0 (Zf col) aw ay∧Zc rP 36 10 aw ay ce cf ap.1∧Zc (rO 45) 42 11 aw ay cg ch ap.2∧Zj 58 2 aw ay b4 #[(nI),(nI),(.slice none (([]:List R1).length) 0)]∧Zc rI 3 3 aw ay bw bx be∧Zc rI 3 5 aw ay bz b0 bf∧Zc (rO 45) 42 6 aw ay b1 b2 a3∧Zj 58 4 aw ay a8 #[.slice bw be.length bx,.slice bz bf.length b0,.slice b1 a3.length b2]∧[15].map f=[.int .i64 ci]) N ⟨_,0,_,_,_,_,_,_,_,_,_,_,rfl,hm,aa,af,ag,ac,am.gr bv,an.gr bv,av.gr bv,ab,rfl⟩ ?_;clear hm;intro n f ay hI;obtain ⟨aw,ci,bw,bx,be,bz,b0,bf,b1,b2,a3,bg,hn,hm,aa,af,ag,ac,ai,aj,ak,ab,hs⟩:=hI;subst hn;refine .lL [15] hs ?_
   cases bg with
   | zero=>rw [Sf.eq_1] at hm;cases hm
   | succ bg=>
    rw [Sf.eq_2] at hm;refine go ?_;refine Zm hm (fun hb hm=>?_) fun hb hm=>go ?_
    ·refine Yj<|Z0 ?_;refine Wp.cutK [13,14,15,2,6,9,1000000] (fun f a4=>∃ a5 d8 d9 de ea eb df ec ed dg,Zjl ci (Sf N a7 ap bg) de df dg=some r∧St w0 (Zf col) a5 a4∧Zc rP 36 10 a5 a4 ce cf ap.1∧Zc (rO 45) 42 11 a5 a4 cg ch ap.2∧Zj 58 2 a5 a4 b4 #[(nI),(nI),(.slice none (([]:List R1).length) 0)]∧Zc rI 3 3 a5 a4 d8 d9 de∧Zc rI 3 5 a5 a4 ea eb df∧Zc (rO 45) 42 6 a5 a4 ec ed dg∧Zj 58 4 a5 a4 a8 #[.slice d8 de.length d9,.slice ea df.length eb,.slice ec dg.length ed]) ?_ ?_
     ·intro f a4 hJ;obtain ⟨a5,d8,d9,de,ea,eb,df,ec,ed,dg,hm,aa,af,ag,ac,f3,f4,f5,ab⟩:=hJ;rw [Zjl.eq_1] at hm;refine go ?_;exact ⟨bg,by omega,rfl,⟨_,_,_,_,_,_,_,_,_,_,_,_,rfl,hm,aa,af,ag,ac,f3,f4,f5,ab,rfl⟩⟩
     refine go ?_;obtain ⟨ib,ee,hm⟩:=bZ hm;refine lI ee (af.addr ee) ?_;obtain ⟨_,f6,f7⟩:=af.atN ee;obtain ⟨ic,id,rfl,f8⟩:=f6.slice;refine lW f7.one<|Wo rfl ?_;obtain ⟨ie,f9,hm⟩:=bZ hm;refine Zk (Z4j f9 f8 (h2.ks aa)) fun _ ga ⟨e',az⟩=>⟨_,e',?_⟩;replace az:Zn aw ay aw ga:=.of_below az;refine go ?_;replace af:=af.gr az;replace ag:=ag.gr az;replace ai:=ai.gr az;replace aj:=aj.gr az;replace ak:=ak.gr az;replace ac:=ac.gr az;replace ab:=ab.gr az;replace aa:=aa.grow az;refine Zm hm (fun hb hm=>go ?_) fun hb hm=>go ?_
     ·exact ⟨rfl,_,_,_,_,_,_,_,_,_,_,hm,aa,af,ag,ac,ai,aj,ak,ab⟩
     refine Zs [13,14,15,2,6,9,1000000] (fun n f a6=>∃ ae dh ef b3,b3=n∧Zgs N ap ci be bf a3 (Sf N a7 ap bg) b3 dh ef=some r∧St w0 (Zf col) ae a6∧Zc rP 36 10 ae a6 ce cf ap.1∧Zc (rO 45) 42 11 ae a6 cg ch ap.2∧Zj 58 2 ae a6 b4 #[(nI),(nI),(.slice none (([]:List R1).length) 0)]∧Zc rI 3 3 ae a6 bw bx be∧Zc rI 3 5 ae a6 bz b0 bf∧Zc (rO 45) 42 6 ae a6 b1 b2 a3∧Zj 58 4 ae a6 a8 #[.slice bw be.length bx,.slice bz bf.length b0,.slice b1 a3.length b2]∧[17,18].map f=[.int .i64 dh,.int .i64 ef]) N ⟨_,0,0,_,rfl,hm,aa,af,ag,ac,ai,aj,ak,ab,rfl⟩ ?_;clear hm;intro n f a6 hI;obtain ⟨ae,dh,ef,b3,hn,hm,aa,af,ag,ac,ai,aj,ak,ab,hs⟩:=hI;subst hn;refine .lL [17,18] hs ?_
     cases b3 with
     | zero=>rw [Zgs.eq_1] at hm;cases hm
     | succ b3=>
      rw [Zgs.eq_2] at hm;refine go ?_;refine Z1 ab ?_;refine go ?_;refine Zm hm (fun hb hm=>go ?_) fun hb hm=>go ?_
      ·refine Y7 (col:=ae) (by kernel_rfl) (by kernel_rfl)<|go ?_;refine qF ⟨_,_,rfl⟩ ?_;refine qW (fun _ hC=>((ab.atN).nth (q:=1) rfl).gr (hC.bl ae)) ?_;refine go ?_;obtain ⟨ig,eg,hm⟩:=bZ hm;refine qI eg (aj.addr eg)<|qW (fun _ hC=>(aj.gr (hC.bl ae)).atInt eg) ?_;refine go ?_;obtain ⟨ih,eh,hm⟩:=bZ hm;refine qI eh (af.addr eh) ?_;obtain ⟨_,gb,gc⟩:=af.atN eh;obtain ⟨ii,ij,rfl,e9⟩:=gb.slice;refine qW (fun _ hC=>gc.one.gr (hC.bl ae)) ?_;refine qF ⟨_,_,rfl⟩ ?_;refine qW (fun _ hC=>((ab.atN).nth (q:=0) rfl).gr (hC.bl ae)) ?_;refine go ?_;obtain ⟨ik,ei,hm⟩:=bZ hm;refine qI ei (ai.addr ei)<|qW (fun _ hC=>(ai.gr (hC.bl ae)).atInt ei) ?_;obtain ⟨il,ej,hm⟩:=bZ hm;refine qI ej (e9.addr ej)<|qW (fun _ hC=>(e9.gr (hC.bl ae)).atInt ej) ?_;refine go ?_;refine X2 ?_;intro im hC;replace hC:=hC.bl ae;refine go ?_;replace af:=af.gr hC;replace ag:=ag.gr hC;replace ai:=ai.gr hC;replace aj:=aj.gr hC;replace ak:=ak.gr hC;replace ac:=ac.gr hC;replace ab:=ab.gr hC;replace aa:=aa.grow hC;exact ⟨b3,by omega,rfl,⟨_,_,_,_,rfl,hm,aa,af,ag,ac,ai,aj,ak,ab,rfl⟩⟩
      refine Wc (col:=ae) [(0,1),(1,0),(2,1),(3,1),(4,0),(5,1),(6,1),(7,0),(8,1),(9,1),(10,1),(11,0),(12,3),(13,1),(14,2)] (by kernel_rfl) (by kernel_rfl)<|xF ⟨_,_,rfl⟩ ?_;refine xW (fun _ hC=>((ab.atN).nth (q:=2) rfl).gr (hC.bl ae)) ?_;refine xu rfl rfl (fun _=>Yz rfl) ?_;refine xF ⟨_,_,rfl⟩ ?_;refine xW (fun _ hC=>((ab.atN).nth (q:=2) rfl).gr (hC.bl ae)) ?_;refine xu rfl rfl (fun _=>Yz rfl) ?_;obtain ⟨ek,bh,hm⟩:=bZ hm;refine xu rfl rfl (fun _=>Yv underlying29 sizeOf42 rfl rfl (Xe bh).1 (Xe bh).2.1 (ak.addr bh)) ?_;obtain ⟨_,gd,ge⟩:=ak.atN bh;obtain ⟨_,_,rfl,gf,gg⟩:=gd.parts;obtain ⟨_,_,rfl,gh,gi⟩:=gf.parts;obtain rfl:=gh.bool;obtain ⟨gj,gk,rfl,el⟩:=gi.row;obtain ⟨gl,gm,rfl,em⟩:=gg.row;refine xv (v:=(.agg #[.bool ek.1.1,.slice gj ek.1.2.length gk,.slice gl ek.2.length gm])) rfl rfl (fun _ hC=>Ym isAgg42 sizeOf42 rfl rfl (ge.gr (hC.bl ae))) ?_;refine xu rfl rfl (fun _=>Va rfl) ?_;refine xu rfl rfl (fun _=>Yz rfl) ?_;obtain ⟨en,di,hm⟩:=bZ hm;refine xu rfl rfl (fun _=>Yv underlying29 sizeOf42 rfl rfl (Xe di).1 (Xe di).2.1 (ag.addr di)) ?_;obtain ⟨_,gp,gs⟩:=ag.atN di;obtain ⟨_,_,rfl,gt,gu⟩:=gp.parts;obtain ⟨_,_,rfl,gv,gw⟩:=gt.parts;obtain rfl:=gv.bool;obtain ⟨gx,gy,rfl,eo⟩:=gw.row;obtain ⟨gz,g0,rfl,ep⟩:=gu.row;refine xv (v:=(.agg #[.bool en.1.1,.slice gx en.1.2.length gy,.slice gz en.2.length g0])) rfl rfl (fun _ hC=>Ym isAgg42 sizeOf42 rfl rfl (gs.gr (hC.bl ae))) ?_;refine xe rfl rfl ?_;intro g1 hC0;have hC:=hC0.bl ae;obtain ⟨a0,g2,hm⟩:=bZ hm;refine Zk (Ztj 12 13 g2 (((el.gr hC).toSlF (Zh.int .u32)).froz 11) (((em.gr hC).toSlF (Zh.int .u32)).froz 11) (((eo.gr hC).froz 6).toSlF (Zh.int .u32)) (((ep.gr hC).froz 6).toSlF (Zh.int .u32))) fun _ io ⟨g3,g4,g5,g6,g7,e',aq,cj,ck⟩=>⟨_,e',?_⟩;replace cj:=cj.thaw (Z3 .u32) aq (((Fz.refl (col:=ae)).froz 6).froz 11);replace ck:=ck.thaw (Z3 .u32) aq (((Fz.refl (col:=ae)).froz 6).froz 11);replace aq:=aq.thawR (col:=ae);generalize Xj g1.heap.size ae g3=fa at *;refine Zl<|Xt fa hC0 aq ?_
      replace ak:=(ak.gr hC).gr aq;refine xu rfl rfl (fun _=>Yv underlying29 sizeOf42 rfl rfl (Xe bh).1 (Xe bh).2.1 (ak.addr bh)) ?_;refine xe rfl rfl ?_;intro ip hC0;replace af:=(af.gr hC).gr aq;replace ag:=(ag.gr hC).gr aq;replace ai:=(ai.gr hC).gr aq;replace aj:=(aj.gr hC).gr aq;replace ac:=(ac.gr hC).gr aq;replace ab:=(ab.gr hC).gr aq;replace aa:=(aa.grow hC).grow aq;have hC:=hC0.bl fa;have g8:=X0.join (X0.joinL (U0 a0.1.1) (cj.gr hC).has) (ck.gr hC).has (by decide) (by decide);replace af:=af.gr hC;replace af:=af.recol 13 12;replace ag:=ag.gr hC;replace ag:=ag.recol 13 12;replace ai:=ai.gr hC;replace ai:=ai.recol 13 12;replace aj:=aj.gr hC;replace aj:=aj.recol 13 12;replace ak:=ak.gr hC;replace ak:=ak.recol 13 12;replace ac:=ac.gr hC;replace ac:=ac.recol 13 12;replace ab:=ab.gr hC;replace ab:=ab.recol 13 12;replace aa:=aa.grow hC;replace aa:=aa.recol 13 12 (by decide) (by decide);obtain ⟨eq,dj,hm⟩:=bZ hm;have dj:eq=a3.set (aA dh) ((a0.1.1,a0.1.2),a0.2):=(Option.some.inj dj).symm;refine Zv5 (x1:=((a0.1.1,a0.1.2),a0.2)) (v:=(.agg #[.bool a0.1.1,.slice g4 a0.1.2.length g5,.slice g6 a0.2.length g7])) ak bh rfl sizeOf42 g8 rfl rfl (by decide) ?_;intro g9 er bi dk;rw [← dj] at dk;replace ab:=ab.kpp bi;replace ab:Zj 58 4 er g9 a8 #[.slice bw be.length bx,.slice bz bf.length b0,.slice b1 eq.length b2]:=by rw [← (show a3.length=eq.length by rw [dj,nS])];exact ab
      refine Zl<|xk er<|Y0 ?_;intro iq hC;replace hC:=hC.bl er;replace ai:=(ai.kpp bi).gr hC;replace aj:=(aj.kpp bi).gr hC;replace ac:=(ac.kpp bi).gr hC;replace aa:=(aa.kpp bi).grow hC;replace ab:=ab.gr hC;exact ⟨rfl,_,_,_,_,_,_,_,_,_,_,hm,aa,(af.kpp bi).gr hC,(ag.kpp bi).gr hC,ac,ai,aj,dk.gr hC,ab⟩
    refine lV _ (Z9 isAgg58 sizeOf58 ab)<|Xf ac ?_;intro ir dl ha hc;refine go ?_;cases hm;replace aa:=aa.kp dl ha;exact ⟨rfl,_,Qj hc.atN,_,_,_,_,_,_,_,rfl,aa.fin (cm [(3,c1),(5,c2),(6,c3)]),aa.fo (ai.kp dl),aa.fo (aj.kp dl),aa.fo (ak.kp dl)⟩
/-! a list,rising -/
theorem Z0c {N:Nat} {p out:List Int} {i:Nat} {x:Int} (hx:Zi p (i:Int)=some x) (hi:i<4611686018427387904) (ho:out.length≤1048576) (kk:List Int→Int→Option R2):
  ∀ (f j:Nat),j≤out.length→out.length<f+j→Za4 N p out (i:Int) kk f (j:Int)=kk (out.take j++Uu x (out.drop j)) ((i+1:Nat):Int)
 | 0,j,b,c=>by omega
 | f+1,j,b,c=>by
  have fin:∀ a,Zgv p out (i:Int) kk (j:Int) a false=kk (out.take j++x :: out.drop j) ((i+1:Nat):Int):=fun a=>by
   rw [Zgv,if_neg (by decide),Zx (by omega),aB,Zx (by simp only [nN,nK,maxLen];omega),hx,oB,Zx (by simp only [nN,nA,nK,nC,maxLen];omega),Zx (by omega),
    Zx (by simp only [nN,nA,nK,nC,cG,maxLen];omega),wS (by omega),bL,bK]
   rfl
  rw [Za4.eq_2]
  by_cases hj:j<out.length
  ·rw [if_pos (dT (by omega)),Zu hj,oB,hx,oB]
   by_cases h:out[j]<x
   ·have d:=Z0c (N:=N) hx hi ho kk f (j+1) (by omega) (by omega)
    rw [decide_eq_true h,Zgv,if_pos rfl,wS (by omega),d,aL hj,Uu,if_neg (by omega),bF hj,bK]
    rfl
   ·rw [decide_eq_false h,fin,aL hj,Uu,if_pos (by omega)]
  ·rw [if_neg (dF (by omega)),fin,aG (by omega),Uu]
theorem Z0b {N:Nat} {p:List Int} (hp:p.length≤1048576) (hN:1048577<N):∀ (f i:Nat) (out:List Int),out.length=i→i≤p.length→p.length<f+i→Qa N p f out (i:Int)=some ((p.drop i).foldl (fun o x=>Uu x o) out)
 | 0,i,out,a,c,d=>by omega
 | f+1,i,out,a,c,d=>by
  rw [Qa.eq_2]
  by_cases hi:i<p.length
  ·have e:(Uu p[i] out).length=i+1:=by rw [(Zkh _ _).length_eq,nC,a]
   have b:=Z0c (N:=N) (out:=out) (Zu hi) (by omega) (by omega) (Qa N p f) N 0 (aT _) (by omega)
   rw [List.take_zero,bL,aR] at b
   have g:Za4 N p out (i:Int) (Qa N p f) N 0=_:=b
   rw [if_pos (dT (by omega)),g,Z0b hp hN f (i+1) _ e (by omega) (by omega),aL hi,List.foldl_cons]
  ·rw [if_neg (dF (by omega)),aG (by omega),List.foldl_nil]
theorem Z0d:∀ (l out:List Int),out.Pairwise (· ≤·)→(l.foldl (fun o x=>Uu x o) out).Perm (l++out)∧(l.foldl (fun o x=>Uu x o) out).Pairwise (· ≤·)
 | [],out,h=>⟨.refl _,h⟩
 | x :: l,out,h=>by
  obtain ⟨a,b⟩:=Z0d l (Uu x out) (Zqx x h)
  exact ⟨a.trans ((List.Perm.append_left l (Zkh x out)).trans List.perm_middle),b⟩
theorem Z9k {N:Nat} {p:List Int} (hp:p.length≤1048576) (hN:1048577<N):Zoa N p=some (Wn p):=by
 obtain ⟨a,c⟩:=Z0d p [] .nil
 rw [cL] at a
 have b:=Z0b hp hN N 0 [] rfl (aT _) (by omega)
 rw [aR,← Zvq a c] at b
 exact b
/-! one digit more -/
theorem Zr8 (s:Nat):∀ ss:List Nat,Zp (ss++[s])=Zp ss * s
 | []=>by show s * 1=1 * s;omega
 | t :: ss=>by rw [cJ,Zp,Zp,Zr8 s ss,bP]
theorem Z0v (s:Nat) (x:Int):∀ (ss:List Nat) (d:List Int),ss.length=d.length→Yl (ss++[s]) (d++[x])=Yl ss d * s+x.toNat
 | [],[],_=>by
  show x.toNat * 1+0=0 * s+x.toNat
  omega
 | y :: ss,z :: d,h=>by
  have a:=Z0v s x ss d (by simpa using h)
  rw [cJ,cJ,Yl,Yl,a,Zr8,bM,← bP,Nat.add_assoc]
 | [],_ :: _,h=>by simp at h
 | _ :: _,[],h=>by simp at h
section
variable {N W K:Nat} {n:Xa} (hf:Y8 N n)
variable (hs:W6 n W) (hr:Xg N (8 * K+40)) (hWK:1025 * (W+2)+15≤K) (h6:Zp (Zg n)≤600)
include hf hs hr hWK h6
theorem Z03 {G:List R5} {S:List Int} (hS:∀ v ∈ S,0≤v∧v<((Zg n).length:Int)) (hnd:S.Nodup) (hSl:S.length≤1048576) {k:Nat} (hk:k<Zp (Zg n)) (hh:T7 (Xh (Zg n) k) G=true) (kk:Int→List Int→List Int→List QV→Option ((List Int×List Int×List QV)×Int)):
  ∀ (f j:Nat),j≤S.length→S.length<f+j→Zgs N ((bG (Zp (Zg n))).map (Xh (Zg n)),(bG (Zp (Zg n))).map fun j=>Z2 (W4 n j)) (k:Int) S (Xb (Xi (Zg n) S)) (Wf n G S k) kk f ((Yl (Xi (Zg n) (S.take j)) (Tl (Xh (Zg n) k) (S.take j)):Nat):Int) (j:Int)=kk ((k+1:Nat):Int) S (Xb (Xi (Zg n) S)) (Wf n G S (k+1))
 | 0,j,r,s=>by omega
 | f+1,j,r,s=>by
  have b:=Zcs (Zg n) k (Vo hf) hk
  have d:=Znf (Zg n) k
  rw [Zgs.eq_2]
  dsimp only
  by_cases hj:j<S.length
  ·have t:=hS _ (aD hj)
   have F:Zi (Xb (Xi (Zg n) S)) (j:Int)=some (((Zg n).getD S[j].toNat 0:Nat):Int):=by
    have g:j<(Xi (Zg n) S).length:=by rw [Xi,aE];exact hj
    rw [Zju g,X4 g]
    simp only [Xi,bU]
   have o:Zi ((bG (Zp (Zg n))).map (Xh (Zg n))) (k:Int)=some (Xh (Zg n) k):=by
    rw [Zu (by rw [aE,cC];exact hk),bU,cX]
   have H:Zi (Xh (Zg n) k) S[j]=some ((Xh (Zg n) k).getD S[j].toNat 0):=by
    have:=Vg (l:=Xh (Zg n) k) 0 (j:=S[j].toNat) (by omega)
    rwa [show ((S[j].toNat:Nat):Int)=S[j] by omega] at this
   have I:S.take (j+1)=S.take j++[S[j]]:=bF hj
   have m:∀ v ∈ S.take (j+1),0≤v∧v<((Zg n).length:Int):=fun v t=>hS v (eL t)
   have u:=Zne b (S.take (j+1)) (by rw [d];exact m)
   have w:=Zeb _ _ u
   have Q:Zp (Xi (Zg n) (S.take (j+1)))≤Zp (Zg n):=Zl8 (Vo hf) (hnd.sublist (fY _ _)) m
   have R:=(Zke b).2 S[j].toNat (by omega)
   have e:Yl (Xi (Zg n) (S.take (j+1))) (Tl (Xh (Zg n) k) (S.take (j+1)))=Yl (Xi (Zg n) (S.take j)) (Tl (Xh (Zg n) k) (S.take j)) * (Zg n).getD S[j].toNat 0+((Xh (Zg n) k).getD S[j].toNat 0).toNat:=by
    rw [I,Xi,Tl,bV,bV]
    exact Z0v _ _ _ _ (by rw [aE,aE])
   have y:=Z03 hS hnd hSl hk hh kk f (j+1) (by omega) (by omega)
   rw [e] at y w
   generalize hA:Yl (Xi (Zg n) (S.take j)) (Tl (Xh (Zg n) k) (S.take j))=A at *
   generalize hB:(Zg n).getD S[j].toNat 0=B at *
   generalize hC:(Xh (Zg n) k).getD S[j].toNat 0=C at *
   have J:((A:Int)) * (B:Int)=((A * B:Nat):Int):=(bQ _ _).symm
   generalize hz:A * B=z at *
   rw [if_pos (dT (by omega)),F,oB,o,oB,Zu hj,oB,H,oB,J,Zr (x:=(z:Int)) (by omega),Zr (x:=(z:Int)+C) (by omega),wS (by omega),show (z:Int)+C=((z+C.toNat:Nat):Int) by omega]
   exact y
  ·have L:=Zne b S (by rw [d];exact hS)
   have D:=Zeb _ _ L
   rw [bD (by omega)]
   generalize hc:Yl (Xi (Zg n) S) (Tl (Xh (Zg n) k) S)=c at *
   have E:c<(Wf n G S k).length:=by rw [Wf,aE,cC];exact D
   have p:(Wf n G S k)[c]=Z2 (Wg (Wk n G S c) 0 k):=by simp only [Wf,bU,cX]
   have q1:=Zsf hf hs hWK h6 (f:=Wk n G S c) (fun a M=>Zqf hf M) (iP hk)
   have O:=Zsh hf hs hWK (j:=1) (by decide) (Zrn hf (Zct hf b))
   have P:Zfs N (((Z2 (Wg (Wk n G S c) 0 k)).1.1,(Z2 (Wg (Wk n G S c) 0 k)).1.2),(Z2 (Wg (Wk n G S c) 0 k)).2) (((Z2 (W4 n k)).1.1,(Z2 (W4 n k)).1.2),(Z2 (W4 n k)).2)=some (Z2 (Wg (Wk n G S c) 0 k+W4 n k)):=by
    have:=Zzz (Zcf q1) (Zcf O) (hr.mono (by omega))
    rwa [Te,Te] at this
   have q:(Wf n G S k).set c (Z2 (Wg (Wk n G S c) 0 k+W4 n k))=Wf n G S (k+1):=by
    refine gC (by simp only [nS,Wf,aE]) fun i r s=>?_
    simp only [Wf,jE,bU,cX,Zpg]
    by_cases hi:c=i
    ·subst hi;rw [if_pos rfl,Wk,if_pos hh,if_pos hc]
    ·rw [if_neg hi,show Wk n G S i k=0 by rw [Wk,if_pos hh,hc,if_neg hi],fL]
   have o:Zi ((bG (Zp (Zg n))).map fun j=>Z2 (W4 n j)) (k:Int)=some (Z2 (W4 n k)):=by
    rw [Zu (by rw [aE,cC];exact hk),bU,cX]
   rw [if_neg (dF (by omega)),Zu E,oB,p,o,oB,P,oB,oB,aB,Zjl,wS (by omega)]
   exact congrArg (kk ((k+1:Nat):Int) S (Xb (Xi (Zg n) S))) q
theorem Z02 {G:List R5} (hG:G.all (V2 n)=true) (hGl:G.length≤4194304) {S:List Int} (hN:4611686018427387903<N) (hS:∀ v ∈ S,0≤v∧v<((Zg n).length:Int)) (hnd:S.Nodup) (hSl:S.length≤1048576):∀ (m k f:Nat),k+m=Zp (Zg n)→m<f→Sf N G ((bG (Zp (Zg n))).map (Xh (Zg n)),(bG (Zp (Zg n))).map fun j=>Z2 (W4 n j)) f (k:Int) S (Xb (Xi (Zg n) S)) (Wf n G S k)=some ((S,Xb (Xi (Zg n) S),Wf n G S (Zp (Zg n))),0)
 | m,k,0,_,h=>by omega
 | 0,k,f+1,a,_=>by
  rw [Sf.eq_2]
  dsimp only
  rw [if_neg (by rw [aE,cC,decide_eq_false (by omega)];decide),← a,bO]
 | m+1,k,f+1,a,o=>by
  have d:=Zct hf (Zcs (Zg n) k (Vo hf) (by omega))
  have g:Zn9 N (Xh (Zg n) k) G=some (T7 (Xh (Zg n) k) G):=by
   have:=Z0a (N:=N) d G hG hGl N 0 (aT _) (by omega)
   rwa [aR] at this
  have b:=Z02 hG hGl hN hS hnd hSl m (k+1) f (by omega) (by omega)
  have i:Zi ((bG (Zp (Zg n))).map (Xh (Zg n))) (k:Int)=some (Xh (Zg n) k):=by
   rw [Zu (by rw [aE,cC];omega),bU,cX]
  rw [Sf.eq_2]
  dsimp only
  rw [if_pos (dT (by rw [aE,cC];omega)),i,oB,g,oB]
  cases hb2:T7 (Xh (Zg n) k) G with
  | true=>
   rw [if_neg (by decide)]
   have l:=Z03 hf hs hr hWK h6 hS hnd hSl (show k<Zp (Zg n) by omega) hb2 (Sf N G ((bG (Zp (Zg n))).map (Xh (Zg n)),(bG (Zp (Zg n))).map fun j=>Z2 (W4 n j)) f) N 0 (aT _) (by omega)
   exact l.trans b
  | false=>
   have e:Wf n G S k=Wf n G S (k+1):=by
    refine dW fun c _=>?_
    rw [Zpg,show Wk n G S c k=0 by rw [Wk,hb2,if_neg (by decide)],fL]
   rw [if_pos (show (!false)=true from rfl),Zjl,wS (by omega),e]
   exact b
omit hf hs hWK h6 in
theorem Z01 (hN:4611686018427387903<N) {G:List R5} {S:List Int} (hP:Zp (Xi (Zg n) S)≤600) (ja:Zf5 N (n.1,n.2.1,n.2.2.1,n.2.2.2.1,n.2.2.2.2)=some ((bG (Zp (Zg n))).map (Xh (Zg n)),(bG (Zp (Zg n))).map fun j=>Z2 (W4 n j))):∀ (f j:Nat),j≤Zp (Xi (Zg n) S)→Zp (Xi (Zg n) S)<f+j→
  Zd2 N n G ((Zp (Xi (Zg n) S):Nat):Int) f (j:Int) S (Xb (Xi (Zg n) S)) ((bG j).map fun c=>Z2 (Wg (Wk n G S c) 0 0))=Sf N G ((bG (Zp (Zg n))).map (Xh (Zg n)),(bG (Zp (Zg n))).map fun j=>Z2 (W4 n j)) N 0 S (Xb (Xi (Zg n) S)) (Wf n G S 0)
 | 0,j,d,e=>by omega
 | f+1,j,d,e=>by
  rw [Zd2.eq_2]
  by_cases a:j<Zp (Xi (Zg n) S)
  ·have g:((bG j).map fun c=>Z2 (Wg (Wk n G S c) 0 0))++[Z2 0]=(bG (j+1)).map fun c=>Z2 (Wg (Wk n G S c) 0 0):=by
    rw [fK,bV];rfl
   have b:=Z01 hN (G:=G) hP ja f (j+1) (by omega) (by omega)
   rw [← g] at b
   rw [if_pos (dT (by omega)),Z1o (hr.mono (by omega)),oB,Zx (by simp only [aE,cC,aH,maxLen];omega),wS (by omega)]
   exact b
  ·have a:j=Zp (Xi (Zg n) S):=by omega
   rw [if_neg (dF (by omega)),ja,oB,a];rfl
omit hs hr hWK in
theorem Z00 {G:List R5} {S:List Int} {fin:Option ((List Int×List Int×List QV)×Int)} (hS:∀ v ∈ S,0≤v∧v<((Zg n).length:Int)) (hnd:S.Nodup) (hSl:S.length≤1048576)
  (hfin:Zd2 N n G ((Zp (Xi (Zg n) S):Nat):Int) N 0 S (Xb (Xi (Zg n) S)) []=fin):∀ (f i:Nat),i≤S.length→S.length<f+i→Zgr N n G f ((Zp (Xi (Zg n) (S.take i)):Nat):Int) (i:Int) S (Xb (Xi (Zg n) (S.take i))) []=fin
 | 0,i,m,o=>by omega
 | f+1,i,m,o=>by
  have u:=hf.ev.v
  have p:(Zg n).length=n.2.2.1.length:=by rw [Zg,aE]
  rw [Zgr.eq_2]
  by_cases hi:i<S.length
  ·have b:=hS _ (aD hi)
   have c:Zi n.2.2.1 S[i]=some (n.2.2.1.getD S[i].toNat []):=by
    have:=Vg (l:=n.2.2.1) [] (j:=S[i].toNat) (by omega)
    rwa [show ((S[i].toNat:Nat):Int)=S[i] by omega] at this
   have d:(n.2.2.1.getD S[i].toNat []).length=(Zg n).getD S[i].toNat 0:=by
    rw [X4 (show S[i].toNat<n.2.2.1.length by omega),X4 (show S[i].toNat<(Zg n).length by omega)]
    simp only [Zg,bU]
   have q:Xb (Xi (Zg n) (S.take i))++[(((Zg n).getD S[i].toNat 0:Nat):Int)]=Xb (Xi (Zg n) (S.take (i+1))):=by
    rw [bF hi,Xb,Xb,Xi,Xi,bV,bV];rfl
   have a:i<(Xi (Zg n) (S.take (i+1))).length:=by rw [Xi,aE,nK];omega
   have r:Zi (Xb (Xi (Zg n) (S.take (i+1)))) (i:Int)=some (((Zg n).getD S[i].toNat 0:Nat):Int):=by
    rw [Zju a,X4 a]
    simp only [Xi,bU,List.getElem_take]
   have e:∀ v ∈ S.take (i+1),0≤v∧v<((Zg n).length:Int):=fun v b=>hS v (eL b)
   have g:Zp (Xi (Zg n) (S.take (i+1)))≤Zp (Zg n):=Zl8 (Vo hf) (hnd.sublist (fY _ _)) e
   have s:Zp (Xi (Zg n) (S.take (i+1)))=Zp (Xi (Zg n) (S.take i)) * (Zg n).getD S[i].toNat 0:=by
    rw [bF hi,Xi,bV]
    exact Zr8 _ _
   have k:=Z00 hS hnd hSl hfin f (i+1) (by omega) (by omega)
   rw [s] at k g
   generalize hA:Zp (Xi (Zg n) (S.take i))=A at *
   have t:((A:Int)) * (((Zg n).getD S[i].toNat 0:Nat):Int)=((A * (Zg n).getD S[i].toNat 0:Nat):Int):=(bQ _ _).symm
   rw [if_pos (dT (by omega)),Zu hi,oB,c,oB,d,Zx (by simp only [Xb,Xi,aE,nK,aH,maxLen];omega),q,r,oB,t,Zr (by omega),wS (by omega)]
   exact k
  ·rw [if_neg (dF (by omega)),bD (by omega)]
   exact hfin
theorem Z9q (hN:4611686018427387903<N) {G:List R5} {V:List Int} (hGl:G.length≤2097152) (hVl:V.length≤1048576) (hw:Vw n G V=0) (hS:∀ v ∈ Wn V,0≤v∧v<((Zg n).length:Int)) (hnd:(Wn V).Nodup) (hc:V9 N n G V=some 0) (hA:V9 N n [] []=some 0):
  Zad N n V G=some ((Wn V,Xb (Xi (Zg n) (Wn V)),Wf n G (Wn V) (Zp (Zg n))),0):=by
 have b:V9 N (n.1,n.2.1,n.2.2.1,n.2.2.2.1,n.2.2.2.2) G V=some 0:=hc
 have d:=Zxs hw
 have a:(Wn V).length≤1048576:=by rw [(Zki V).length_eq];exact hVl
 have c:Zp (Xi (Zg n) (Wn V))≤600:=aY (Zl8 (Vo hf) hnd hS) h6
 have e:Zf5 N (n.1,n.2.1,n.2.2.1,n.2.2.2.1,n.2.2.2.2)=some ((bG (Zp (Zg n))).map (Xh (Zg n)),(bG (Zp (Zg n))).map fun j=>Z2 (W4 n j)):=Z85 hf hs hr hWK hN (show Zp (Zg n)≤65536 by omega) hA
 rw [Zad,b,oB,if_neg (show ¬ (!decide ((0:Int)=0))=true by decide),Z9k hVl (by omega),oB]
 refine Z00 (fin:=some ((Wn V,Xb (Xi (Zg n) (Wn V)),Wf n G (Wn V) (Zp (Zg n))),0)) hf h6 hS hnd a ?_ N 0 (aT _) (by omega)
 exact (Z01 hr hN c e N 0 (aT _) (by omega)).trans (Z02 hf hs hr hWK h6 d (by omega) hN hS hnd a (Zp (Zg n)) 0 N (by omega) (by omega))
end
def Zjc (aa:R1):Option ((Bool×R7)×R7):=
  Zt ((([]:List Int).length+aa.1.2.length) * 4≤140737488355328∧([]:List Int).length+aa.1.2.length≤maxLen) (Zt (((([]:List Int)++aa.1.2).length+[901,902].length) * 4≤140737488355328∧(([]:List Int)++aa.1.2).length+[901,902].length≤maxLen) (Zt ((([]:List Int).length+aa.2.length) * 4≤140737488355328∧([]:List Int).length+aa.2.length≤maxLen) (Zt (((([]:List Int)++aa.2).length+[903,904].length) * 4≤140737488355328∧(([]:List Int)++aa.2).length+[903,904].length≤maxLen) (Zt ((0:Int)≤(aa.1.2.length:Int)∧(aa.1.2.length:Int)≤(((([]:List Int)++aa.1.2)++[901,902]).length:Int)) (Zt ((0:Int)≤(aa.2.length:Int)∧(aa.2.length:Int)≤(((([]:List Int)++aa.2)++[903,904]).length:Int)) (some ((aa.1.1,((aA (aa.1.2.length:Int)),(([]:List Int)++aa.1.2)++[901,902])),((aA (aa.2.length:Int)),(([]:List Int)++aa.2)++[903,904]))))))))
theorem Z4c {a1 a2:Nat} {a3 a4:Option Addr} {col:Zd} {w0:World} {aa:R1} {r:((Bool×R7)×R7)} (hm:Zjc aa=some r) (ap:Sl rU col w0 a3 a1 aa.1.2) (aq:Sl rU col w0 a4 a2 aa.2):
    Calls prog 35 #[(.agg #[.bool aa.1.1,.slice a3 aa.1.2.length a1,.slice a4 aa.2.length a2])] w0 (fun e w'=>∃ col' ra1 rc2 ra4 rc5,e= .returned ((.agg #[.bool r.1.1,.slice ra1 ((r.1.2.2.take r.1.2.1).length) rc2,.slice ra4 ((r.2.2.take r.2.1).length) rc5]))∧Zn col w0 col' w'∧Sl rU col' w' ra1 rc2 r.1.2.2∧Sl rU col' w' ra4 rc5 r.2.2):=by
 refine We (m:=36) func35 rfl rfl rfl ?_;rw [Zjc.eq_1] at hm;have ab:=St.start col w0;refine go ?_;refine Xl (col:=(Zf col)) 1 rfl ?_;intro bh bi a6 a7 ad;refine Xx (col:=a6) #[.bool false,(nI),(nI)] 2 zeroValue42 ?_;intro bj bk bm a5 ar;refine go ?_;refine Z7 ⟨_,_,rfl⟩ ?_;refine Z7 (X8 ⟨_,_,rfl⟩) ?_;replace ad:=ad.gr a5;refine lW ((((ad.atN).part 0 2 _ rfl)).nth (q:=1) rfl) ?_;obtain ⟨a8,hm⟩:=Zv hm;replace ab:=(ab.grow a7).grow a5;refine Yy (c:=3) Zc.nil (ap.k0.ks ab).srcC a8 ?_;intro bn bo bp a9 au av;refine go ?_;refine Wj (col:=a9) [901,902] 4 ?_;intro bq br bs ak ba;obtain ⟨bb,hm⟩:=Zv hm;refine Yy (av.gr ak) (ba.srcN (NB.int (k:=.u32))) bb ?_;intro ah ai bt bu aw ac;refine go ?_;refine Z7 ⟨_,_,rfl⟩ ?_;replace ad:=((ad.kpp au).gr ak).kpp aw;refine lW ((ad.atN).nth (q:=2) rfl) ?_;obtain ⟨bc,hm⟩:=Zv hm;replace ab:=((ab.kpp au).grow ak).kpp aw;refine Yy (c:=5) Zc.nil (aq.k0.ks ab).srcC bc ?_;intro bv bw bx bd al ax;refine go ?_;refine Wj (col:=bd) [903,904] 6 ?_;intro bz b0 b1 aj be;obtain ⟨bf,hm⟩:=Zv hm;refine Yy (ax.gr aj) (be.srcN (NB.int (k:=.u32))) bf ?_;intro am an b2 af ao ae;refine go ?_;refine Wc (col:=af) [(0,1),(1,1),(2,0),(3,1),(4,1),(5,1),(6,0),(7,1),(8,1),(9,1),(10,1),(11,1),(12,0),(13,1),(14,1),(15,1),(16,2)] (by kernel_rfl) (by kernel_rfl)<|xF ⟨_,_,rfl⟩ ?_;refine xF (X8 ⟨_,_,rfl⟩) ?_;replace ad:=((ad.kpp al).gr aj).kpp ao;refine xW (fun _ hC=>((((ad.atN).part 0 2 _ rfl)).nth (q:=0) rfl).gr (hC.bl af)) ?_;refine xu rfl rfl (fun _=>Va rfl) ?_;refine xF ⟨_,_,rfl⟩ ?_;refine xF (X8 ⟨_,_,rfl⟩) ?_;refine xW (fun _ hC=>((((ad.atN).part 0 2 _ rfl)).nth (q:=1) rfl).gr (hC.bl af)) ?_;refine xu rfl rfl (fun _=>Uz underlying38 rfl) ?_;obtain ⟨ay,hm⟩:=Zv hm;replace ac:=((ac.kpp al).gr aj).kpp ao;refine xu (v:=.slice ah (aA (aa.1.2.length:Int)) ai) rfl rfl (fun _=>Vt underlying38 sizeOf45 rfl rfl ay.1 (by have:=ac.lecap;have:=ay.2;omega)) ?_;refine .ld (d:=28) (v:=(.slice ah ((((([]:List Int)++aa.1.2)++[901,902]).take (aA (aa.1.2.length:Int))).length) ai)) (congrArg (fun n=>Value.slice ah n ai) (bE (show (aA (aa.1.2.length:Int))≤((([]:List Int)++aa.1.2)++[901,902]).length by have:=ay.2;omega)).symm) ?_
 refine xu (v:=(.agg #[.bool aa.1.1,(.slice ah ((((([]:List Int)++aa.1.2)++[901,902]).take (aA (aa.1.2.length:Int))).length) ai)])) rfl rfl (fun _=>Wl (l:=[_,_]) (qs:=[(0,1),(1,1)]) underlying40 zeroValue40 ⟨rfl,sizeOf4,rfl,sizeOf38,trivial⟩ rfl) ?_;refine xu rfl rfl (fun _=>Va rfl) ?_;refine xF ⟨_,_,rfl⟩ ?_;refine xW (fun _ hC=>((ad.atN).nth (q:=2) rfl).gr (hC.bl af)) ?_;refine xu rfl rfl (fun _=>Uz underlying38 rfl) ?_;obtain ⟨az,hm⟩:=Zv hm;refine xu (v:=.slice am (aA (aa.2.length:Int)) an) rfl rfl (fun _=>Vt underlying38 sizeOf45 rfl rfl az.1 (by have:=ae.lecap;have:=az.2;omega)) ?_;refine .ld (d:=34) (v:=(.slice am ((((([]:List Int)++aa.2)++[903,904]).take (aA (aa.2.length:Int))).length) an)) (congrArg (fun n=>Value.slice am n an) (bE (show (aA (aa.2.length:Int))≤((([]:List Int)++aa.2)++[903,904]).length by have:=az.2;omega)).symm) ?_;refine xu (v:=(.agg #[.bool aa.1.1,(.slice ah ((((([]:List Int)++aa.1.2)++[901,902]).take (aA (aa.1.2.length:Int))).length) ai),(.slice am ((((([]:List Int)++aa.2)++[903,904]).take (aA (aa.2.length:Int))).length) an)])) rfl rfl (fun _=>Wl (l:=[_,_]) (qs:=[(0,2),(2,1)]) underlying42 zeroValue42 ⟨rfl,sizeOf40,rfl,sizeOf38,trivial⟩ rfl) ?_;refine xe rfl rfl ?_;intro b3 hC0;have hC:=hC0.bl af;refine Xf (((((((ar.kpp au).gr ak).kpp aw).kpp al).gr aj).kpp ao).gr hC) ?_;intro b4 a0 bg ag;refine Zl<|xk af<|Y0 ?_;replace ab:=((((ab.kpp al).grow aj).kpp ao).grow hC).kp a0 bg;replace ac:=(ac.gr hC).kp a0;replace ae:=(ae.gr hC).kp a0;intro b5 hC;replace hC:=hC.bl af;refine Wh ?_;replace ac:=ac.gr hC;replace ac:=(ac).toSlF (Zh.int .u32);replace ae:=ae.gr hC;replace ae:=ae.froz 3;replace ag:=ag.gr hC;replace ag:=ag.froz 3;replace ab:=ab.grow hC;replace ab:=ab.froz 3 (by decide) (by decide);replace ab:=ab.froz 5 (by decide) (by decide);cases hm;exact ⟨rfl,_,ra (ag.froz 5).atN,_,_,_,_,_,rfl,ab.fin (cm []),ab.fs (ac.froz 5),ab.fs ((ae).toSlF (Zh.int .u32))⟩
theorem Z6d:Y1 prog 9 1 16:=⟨Tryz.t9,_,rfl,rfl,rfl,rfl,rfl⟩
theorem Z5w:Y1 prog 22 1 24:=⟨Tryz.t22,_,rfl,rfl,rfl,rfl,rfl⟩
theorem Z5y:Y1 prog 29 1 24:=⟨Tryz.t29,_,rfl,rfl,rfl,rfl,rfl⟩
theorem Z50:Y1 prog 36 1 24:=⟨Tryz.t36,_,rfl,rfl,rfl,rfl,rfl⟩
def Zgm (N:Nat) (ah:R0) (ai:ByteArray) (aj:List ByteArray) (ak:List R9) (al:List R7) (ad:List Rc) (ae:Int) (kk_L3:(ByteArray→R8→(List R9)→(List R7)→(List Rc)→Int→Option R3)):Nat→Int→(List ((Bool×R7)×R7))→Option R3
  | 0,_,_=>none
  | am+1,af,ab=>(Zi ah.2.2.2.2 ae).bind fun ac=>if (decide (af<(ac.length:Int)))=true then ((Zi ac af).bind fun ag=>(Zjc ((ag.1.1,ag.1.2),ag.2)).bind fun aa=>Zt ((ab.length+[((aa.1.1,(aa.1.2.1,aa.1.2.2)),(aa.2.1,aa.2.2))].length) * 56≤140737488355328∧ab.length+[((aa.1.1,(aa.1.2.1,aa.1.2.2)),(aa.2.1,aa.2.2))].length≤maxLen) ((Zgm N ah ai aj ak al ad ae kk_L3 am) (i64.wrap (af+1)) (ab++[((aa.1.1,(aa.1.2.1,aa.1.2.2)),(aa.2.1,aa.2.2))]))) else (Zt ((ab.length+[((false,(0,([]:List Int))),([97].length,[97])),((false,(0,([]:List Int))),([98].length,[98]))].length) * 56≤140737488355328∧ab.length+[((false,(0,([]:List Int))),([97].length,[97])),((false,(0,([]:List Int))),([98].length,[98]))].length≤maxLen) (Zt ((0:Int)≤(ac.length:Int)∧(ac.length:Int)≤((ab++[((false,(0,([]:List Int))),([97].length,[97])),((false,(0,([]:List Int))),([98].length,[98]))]).length:Int)) (Zt ((ad.length+[((aA (ac.length:Int)),ab++[((false,(0,([]:List Int))),([97].length,[97])),((false,(0,([]:List Int))),([98].length,[98]))])].length) * 24≤140737488355328∧ad.length+[((aA (ac.length:Int)),ab++[((false,(0,([]:List Int))),([97].length,[97])),((false,(0,([]:List Int))),([98].length,[98]))])].length≤maxLen) (kk_L3 ai aj ak al (ad++[((aA (ac.length:Int)),ab++[((false,(0,([]:List Int))),([97].length,[97])),((false,(0,([]:List Int))),([98].length,[98]))])]) (i64.wrap (ae+1))))))
def Zdt (N:Nat) (aa:R0):Nat→ByteArray→R8→(List R9)→(List R7)→(List Rc)→Int→Option R3
  | 0,_,_,_,_,_,_=>none
  | ah+1,ab,ac,ad,ae,af,ag=>if (decide (ag<(aa.2.2.2.2.length:Int)))=true then (Zgm N aa ab ac ad ae af ag (Zdt N aa ah) N 0 ([]:List ((Bool×R7)×R7))) else (some (ab,((aA (aa.2.1.length:Int)),ac),ad,ae,af))
def Zgl (N:Nat) (ab:R0):Nat→ByteArray→R8→(List R9)→(List R7)→(List Rc)→Int→Option R3
  | 0,_,_,_,_,_,_=>none
  | ai+1,ae,af,ag,ac,ah,ad=>if (decide (ad<(ab.2.2.2.1.length:Int)))=true then ((Zi ab.2.2.2.1 ad).bind fun aa=>Zt ((([]:List Int).length+aa.length) * 8≤140737488355328∧([]:List Int).length+aa.length≤maxLen) (Zt (((([]:List Int)++aa).length+[(-95),(-96)].length) * 8≤140737488355328∧(([]:List Int)++aa).length+[(-95),(-96)].length≤maxLen) (Zt ((0:Int)≤(aa.length:Int)∧(aa.length:Int)≤(((([]:List Int)++aa)++[(-95),(-96)]).length:Int)) (Zt ((ac.length+[((aA (aa.length:Int)),(([]:List Int)++aa)++[(-95),(-96)])].length) * 24≤140737488355328∧ac.length+[((aA (aa.length:Int)),(([]:List Int)++aa)++[(-95),(-96)])].length≤maxLen) ((Zgl N ab ai) ae af ag (ac++[((aA (aa.length:Int)),(([]:List Int)++aa)++[(-95),(-96)])]) ah (i64.wrap (ad+1))))))) else (Zdt N ab N ae af ag ac ah 0)
def Zgk (N:Nat) (ab:R0):Nat→ByteArray→R8→(List R9)→(List R7)→(List Rc)→Int→Option R3
  | 0,_,_,_,_,_,_=>none
  | ai+1,ae,af,ac,ag,ah,ad=>if (decide (ad<(ab.2.2.1.length:Int)))=true then ((Zi ab.2.2.1 ad).bind fun aa=>Zt ((([]:List ByteArray).length+aa.length) * 16≤140737488355328∧([]:List ByteArray).length+aa.length≤maxLen) (Zt (((([]:List ByteArray)++aa).length+([⟨#[35,51]⟩,⟨#[35,52]⟩]:List ByteArray).length) * 16≤140737488355328∧(([]:List ByteArray)++aa).length+([⟨#[35,51]⟩,⟨#[35,52]⟩]:List ByteArray).length≤maxLen) (Zt ((0:Int)≤(aa.length:Int)∧(aa.length:Int)≤(((([]:List ByteArray)++aa)++([⟨#[35,51]⟩,⟨#[35,52]⟩]:List ByteArray)).length:Int)) (Zt ((ac.length+([((aA (aa.length:Int)),(([]:List ByteArray)++aa)++([⟨#[35,51]⟩,⟨#[35,52]⟩]:List ByteArray))]:List R9).length) * 24≤140737488355328∧ac.length+([((aA (aa.length:Int)),(([]:List ByteArray)++aa)++([⟨#[35,51]⟩,⟨#[35,52]⟩]:List ByteArray))]:List R9).length≤maxLen) ((Zgk N ab ai) ae af (ac++([((aA (aa.length:Int)),(([]:List ByteArray)++aa)++([⟨#[35,51]⟩,⟨#[35,52]⟩]:List ByteArray))]:List R9)) ag ah (i64.wrap (ad+1))))))) else (Zgl N ab N ae af ac ag ah 0)
def Zje (N:Nat) (aa:R0):Option R3:=
  Zt ((([]:List ByteArray).length+aa.2.1.length) * 16≤140737488355328∧([]:List ByteArray).length+aa.2.1.length≤maxLen) (Zt (((([]:List ByteArray)++aa.2.1).length+([⟨#[35,49]⟩,⟨#[35,50]⟩]:List ByteArray).length) * 16≤140737488355328∧(([]:List ByteArray)++aa.2.1).length+([⟨#[35,49]⟩,⟨#[35,50]⟩]:List ByteArray).length≤maxLen) (Zt ((0:Int)≤(aa.2.1.length:Int)∧(aa.2.1.length:Int)≤(((([]:List ByteArray)++aa.2.1)++([⟨#[35,49]⟩,⟨#[35,50]⟩]:List ByteArray)).length:Int)) (Zgk N aa N aa.1 ((([]:List ByteArray)++aa.2.1)++([⟨#[35,49]⟩,⟨#[35,50]⟩]:List ByteArray)) ([]:List R9) ([]:List R7) ([]:List Rc) 0)))
theorem Z4e {N b9 ca cb cc:Nat} {cd ce cf cg:Option Addr} {col:Zd} {w0:World} {ac:R0} {r:R3} (hm:Zje N ac=some r) (ei:Sl Za.str col w0 cd b9 ac.2.1) (ch:Sl rV col w0 ce ca ac.2.2.1) (ci:Sl rP col w0 cf cb ac.2.2.2.1) (bj:Sl (Za.slice rQ) col w0 cg cc ac.2.2.2.2):
    Calls prog 8 #[(.agg #[.string ac.1,.slice cd ac.2.1.length b9,.slice ce ac.2.2.1.length ca,.slice cf ac.2.2.2.1.length cb,.slice cg ac.2.2.2.2.length cc])] w0 (fun e w'=>∃ col' ra1 rc2 ra4 rc5 ra7 rc8 ra10 rc11,e= .returned ((.agg #[.string r.1,.slice ra1 ((r.2.1.2.take r.2.1.1).length) rc2,.slice ra4 r.2.2.1.length rc5,.slice ra7 r.2.2.2.1.length rc8,.slice ra10 r.2.2.2.2.length rc11]))∧Zn col w0 col' w'∧Sl Za.str col' w' ra1 rc2 r.2.1.2∧Sl (Za.view Za.str) col' w' ra4 rc5 r.2.2.1∧Sl (Za.view rI) col' w' ra7 rc8 r.2.2.2.1∧Sl (Za.view (Za.pair (Za.pair Za.bool (Za.view rU)) (Za.view rU))) col' w' ra10 rc11 r.2.2.2.2):=by
 refine We (m:=142) func8 rfl rfl rfl ?_;rw [Zje.eq_1] at hm;have aa:=St.start col w0;refine go ?_;refine Xl (col:=(Zf col)) 1 rfl ?_;intro dt ig f6 f7 ab;refine Xx (col:=f6) #[.string (⟨#[]⟩),.slice none (([]:List ByteArray).length) 0,.slice none (([]:List R9).length) 0,.slice none (([]:List R7).length) 0,(.slice none (([]:List Rc).length) 0)] 2 zeroValue27 ?_;intro du ih f8 fk ae;refine go ?_;refine Z7 ⟨_,_,rfl⟩ ?_;replace ab:=ab.gr fk;refine lW ((ab.atN).nth (q:=0) rfl)<|lV (.agg #[.string ac.1,.slice none (([]:List ByteArray).length) 0,.slice none (([]:List R9).length) 0,.slice none (([]:List R7).length) 0,(.slice none (([]:List Rc).length) 0)]) (Wl (l:=[_,_,_,_,_]) (qs:=[(0,1),(1,1),(2,1),(3,1),(4,1)]) underlying27 zeroValue27 ⟨rfl,sizeOf9,rfl,sizeOf22,rfl,sizeOf23,rfl,sizeOf24,rfl,sizeOf25,trivial⟩ rfl)<|Xx (col:=f8) #[.string (⟨#[]⟩),.slice none (([]:List ByteArray).length) 0,.slice none (([]:List R9).length) 0,.slice none (([]:List R7).length) 0,(.slice none (([]:List Rc).length) 0)] 3 zeroValue27 ?_;intro ax ii ij ej f9;refine Xf f9 ?_;intro ik ek ga dv;refine go ?_;refine Z1 dv<|Z7 ⟨_,_,rfl⟩ ?_;replace ab:=(ab.gr ej).kp ek;refine lW ((ab.atN).nth (q:=1) rfl) ?_;obtain ⟨gb,hm⟩:=Zv hm;replace aa:=(((aa.grow f7).grow fk).grow ej).kp ek ga;refine Yy (c:=4) Zc.nil (ei.k0.ks aa).srcC gb ?_;intro fl fm il fn dw el;refine Z7 ⟨_,_,rfl⟩ ?_;refine Ud (off:=1) (v:=(.slice fl ((([]:List ByteArray)++ac.2.1).length) fm)) (dv.kpp dw) sizeOf22 rfl rfl (by intro u hu;simp only [Value.cells,aP,bA,or_false] at hu;subst hu;rfl) rfl rfl ?_;intro gc dx gd cj;replace cj:Zj 27 3 fn gc ax #[.string ac.1,.slice fl ((([]:List ByteArray)++ac.2.1).length) fm,.slice none (([]:List R9).length) 0,.slice none (([]:List R7).length) 0,(.slice none (([]:List Rc).length) 0)]:=cj;refine go ?_;refine Z1 cj<|Zv3 (col:=fn) ([⟨#[35,49]⟩,⟨#[35,50]⟩]:List ByteArray) 5 ?_;intro im ge gf c5 gg;obtain ⟨fp,hm⟩:=Zv hm;replace el:=(el.kp dx).gr c5
 refine V8 (col:=gf) (w:=ge) (r:=Za.str) (c:=4) (c2:=4) (el.ex) (gg.srcN NB.str) rfl underlying22 Z6d rfl rfl rfl fp.1 fp.2 (by decide) ?_;intro bw bx io fq dy em;refine Z7 ⟨_,_,rfl⟩ ?_;refine Ud (off:=1) (v:=(.slice bw (((([]:List ByteArray)++ac.2.1)++([⟨#[35,49]⟩,⟨#[35,50]⟩]:List ByteArray)).length) bx)) ((cj.gr c5).kpp dy) sizeOf22 rfl rfl (by intro u hu;simp only [Value.cells,aP,bA,or_false] at hu;subst hu;rfl) rfl rfl ?_;intro gh dz gi d0;replace d0:Zj 27 3 fq gh ax #[.string ac.1,(.slice bw (((([]:List ByteArray)++ac.2.1)++([⟨#[35,49]⟩,⟨#[35,50]⟩]:List ByteArray)).length) bx),.slice none (([]:List R9).length) 0,.slice none (([]:List R7).length) 0,(.slice none (([]:List Rc).length) 0)]:=d0;have d1:=(em.kp dz).new;refine go ?_;refine Z1 d0<|Z7 ⟨_,_,rfl⟩ ?_;replace ab:=((((ab.kpp dw).kp dx).gr c5).kpp dy).kp dz;refine lW ((ab.atN).nth (q:=1) rfl)<|go ?_;obtain ⟨en,hm⟩:=Zv hm;refine lv (v:=.slice bw (aA (ac.2.1.length:Int)) bx) rfl rfl (Vt underlying22 sizeOf9 rfl rfl en.1 (by have:=d1.lecap;have:=en.2;omega))<|.ld (d:=30) (v:=(.slice bw ((((([]:List ByteArray)++ac.2.1)++([⟨#[35,49]⟩,⟨#[35,50]⟩]:List ByteArray)).take (aA (ac.2.1.length:Int))).length) bx)) (congrArg (fun n=>Value.slice bw n bx) (bE (show (aA (ac.2.1.length:Int))≤((([]:List ByteArray)++ac.2.1)++([⟨#[35,49]⟩,⟨#[35,50]⟩]:List ByteArray)).length by have:=en.2;omega)).symm) ?_;refine Z7 ⟨_,_,rfl⟩ ?_;refine Ud (off:=1) (v:=(.slice bw ((((([]:List ByteArray)++ac.2.1)++([⟨#[35,49]⟩,⟨#[35,50]⟩]:List ByteArray)).take (aA (ac.2.1.length:Int))).length) bx)) d0 sizeOf22 rfl rfl (by intro u hu;simp only [Value.cells,aP,bA,or_false] at hu;subst hu;rfl) rfl rfl ?_;intro gj d2 gk ad;replace ad:Zj 27 3 fq gj ax #[.string ac.1,(.slice bw ((((([]:List ByteArray)++ac.2.1)++([⟨#[35,49]⟩,⟨#[35,50]⟩]:List ByteArray)).take (aA (ac.2.1.length:Int))).length) bx),.slice none (([]:List R9).length) 0,.slice none (([]:List R7).length) 0,(.slice none (([]:List Rc).length) 0)]:=ad;refine go ?_;replace ae:=(((((((ae.gr ej).kp ek).kpp dw).kp dx).gr c5).kpp dy).kp dz).kp d2;replace aa:=(((((aa.kpp dw).kp dx gd).grow c5).kpp dy).kp dz gi).kp d2 gk
 replace ab:=ab.kp d2;refine Zs [1,2,3,1000000] (fun n f a1=>∃ a2 d3 d4 d5 c6 eo ep ck d6 d7 c7 d8 d9 c8 eq cl,cl=n∧Zgk N ac cl d3 c6 ck c7 c8 eq=some r∧St w0 (Zf col) a2 a1∧Zj 27 1 a2 a1 dt #[.string ac.1,.slice cd ac.2.1.length b9,.slice ce ac.2.2.1.length ca,.slice cf ac.2.2.2.1.length cb,.slice cg ac.2.2.2.2.length cc]∧Zj 27 2 a2 a1 du #[.string (⟨#[]⟩),.slice none (([]:List ByteArray).length) 0,.slice none (([]:List R9).length) 0,.slice none (([]:List R7).length) 0,(.slice none (([]:List Rc).length) 0)]∧Zc Za.str 9 4 a2 a1 d4 d5 c6∧Zc (Za.view Za.str) 22 6 a2 a1 eo ep ck∧Zc (Za.view rI) 36 7 a2 a1 d6 d7 c7∧Zc (Za.view (Za.pair (Za.pair Za.bool (Za.view rU)) (Za.view rU))) 29 8 a2 a1 d8 d9 c8∧Zj 27 3 a2 a1 ax #[.string d3,(.slice d4 ((c6.take (aA (ac.2.1.length:Int))).length) d5),.slice eo ck.length ep,.slice d6 c7.length d7,.slice d8 c8.length d9]∧[4].map f=[.int .i64 eq]) N ⟨_,_,_,_,_,none,0,_,none,0,_,none,0,_,0,_,rfl,hm,aa,ab,ae,d1.kp d2,Zc.nil,Zc.nil,Zc.nil,ad,rfl⟩ ?_;clear hm;intro n f a1 hI;obtain ⟨a2,d3,d4,d5,c6,eo,ep,ck,d6,d7,c7,d8,d9,c8,eq,cl,hn,hm,aa,ab,ae,am,bk,an,ao,ad,hs⟩:=hI;subst hn;refine .lL [4] hs ?_;replace ch:=ch.k0;replace ci:=ci.k0;replace bj:=bj.k0
 cases cl with
 | zero=>rw [Zgk.eq_1] at hm;cases hm
 | succ cl=>
  rw [Zgk.eq_2] at hm;refine go ?_;refine Z1 ab ?_;refine go ?_;refine Zm hm (fun hb hm=>go ?_) fun hb hm=>go ?_
  ·refine Z1 ab<|Xr rfl ?_;obtain ⟨ak,bz,hm⟩:=bZ hm;refine lI bz ((ch.ks aa).addr bz) ?_;obtain ⟨_,gl,gm⟩:=(ch.ks aa).atN bz;obtain ⟨⟨ip,iq,rfl,gp⟩,_⟩:=gl;refine lW gm.one ?_;obtain ⟨gs,hm⟩:=Zv hm;refine Yy (c:=9) Zc.nil gp.srcC gs ?_;intro ir it iu gt bm er;refine go ?_;refine Zv3 (col:=gt) ([⟨#[35,51]⟩,⟨#[35,52]⟩]:List ByteArray) 10 ?_;intro iv iw ix a3 gu;obtain ⟨gv,hm⟩:=Zv hm;refine Yy (er.gr a3) (gu.srcN NB.str) gv ?_;intro c9 da iy cn bn co;refine go ?_;refine Wc (col:=cn) [(0,1),(1,0),(2,1),(3,1),(4,0),(5,1),(6,1),(7,0),(8,1),(9,1),(10,3),(11,2),(12,1),(13,2)] (by kernel_rfl) (by kernel_rfl)<|xF ⟨_,_,rfl⟩ ?_;replace ad:=((ad.kpp bm).gr a3).kpp bn;refine xW (fun _ hC=>((ad.atN).nth (q:=2) rfl).gr (hC.bl cn)) ?_;refine xu rfl rfl (fun _=>Va rfl) ?_;refine xF ⟨_,_,rfl⟩ ?_;replace ab:=((ab.kpp bm).gr a3).kpp bn;refine xW (fun _ hC=>((ab.atN).nth (q:=2) rfl).gr (hC.bl cn)) ?_;refine xu rfl rfl (fun _=>Yz rfl) ?_;replace aa:=((aa.kpp bm).grow a3).kpp bn;refine xu rfl rfl (fun _=>Yv underlying23 sizeOf22 rfl rfl (Xe bz).1 (Xe bz).2.1 ((ch.ks aa).addr bz)) ?_;obtain ⟨_,gw,gx⟩:=(ch.ks aa).atN bz;obtain ⟨⟨iz,i0,rfl,i1⟩,_⟩:=gw;refine xW (fun _ hC=>gx.one.gr (hC.bl cn)) ?_;refine xu rfl rfl (fun _=>Uz underlying22 rfl) ?_;obtain ⟨es,hm⟩:=Zv hm;refine xu (v:=.slice c9 (aA (ak.length:Int)) da) rfl rfl (fun _=>Vt underlying22 sizeOf9 rfl rfl es.1 (by have:=co.lecap;have:=es.2;omega)) ?_;refine .ld (d:=58) (v:=(.slice c9 ((((([]:List ByteArray)++ak)++([⟨#[35,51]⟩,⟨#[35,52]⟩]:List ByteArray)).take (aA (ak.length:Int))).length) da)) (congrArg (fun n=>Value.slice c9 n da) (bE (show (aA (ak.length:Int))≤((([]:List ByteArray)++ak)++([⟨#[35,51]⟩,⟨#[35,52]⟩]:List ByteArray)).length by have:=es.2;omega)).symm) ?_;refine xe rfl rfl ?_;intro i2 hC0;have hC:=hC0.bl cn;replace am:=(((am.kpp bm).gr a3).kpp bn).gr hC;replace am:=am.froz 9;replace bk:=(((bk.kpp bm).gr a3).kpp bn).gr hC;replace bk:=bk.froz 9;replace an:=(((an.kpp bm).gr a3).kpp bn).gr hC;replace an:=an.froz 9;replace ao:=(((ao.kpp bm).gr a3).kpp bn).gr hC;replace ao:=ao.froz 9;replace co:=co.gr hC;replace ab:=ab.gr hC;replace ab:=ab.froz 9;replace ae:=(((ae.kpp bm).gr a3).kpp bn).gr hC
   replace ae:=ae.froz 9;replace ad:=ad.gr hC;replace ad:=ad.froz 9;replace aa:=aa.grow hC;replace aa:=aa.froz 9 (by decide) (by decide);refine Uo (col:=(X5 9 cn)) (r:=(Za.view Za.str)) (xs:=([((aA (ak.length:Int)),(([]:List ByteArray)++ak)++([⟨#[35,51]⟩,⟨#[35,52]⟩]:List ByteArray))]:List R9)) [(.slice c9 ((((([]:List ByteArray)++ak)++([⟨#[35,51]⟩,⟨#[35,52]⟩]:List ByteArray)).take (aA (ak.length:Int))).length) da)] 11 (W0.ofF (Rows.consF (r:=(Za.view Za.str)) (x:=((aA (ak.length:Int)),(([]:List ByteArray)++ak)++([⟨#[35,51]⟩,⟨#[35,52]⟩]:List ByteArray))) (cs:=[(.slice c9 ((((([]:List ByteArray)++ak)++([⟨#[35,51]⟩,⟨#[35,52]⟩]:List ByteArray)).take (aA (ak.length:Int))).length) da)]) (Zme ((co).toSlF Zh.str)) Rows.nil0)) ?_;intro i3 i4 et a4 eu;refine Zl<|Xt et hC0 a4<|xe rfl rfl ?_;intro gy hC0;have hC:=hC0.bl et;obtain ⟨fr,hm⟩:=Zv hm;replace bk:=(bk.gr a4).gr hC;refine V8 (col:=et) (w:=gy) (r:=(Za.view Za.str)) (c:=6) (c2:=6) (bk.ex) ((eu.gr hC).srcN NB.view) rfl underlying23 Z5w rfl rfl rfl fr.1 fr.2 (by decide) ?_;intro ft fu i5 db b0 ew;refine Zl<|xk db<|xF ⟨_,_,rfl⟩ ?_;refine xe rfl rfl ?_;intro i6 hC0;replace am:=((am.gr a4).gr hC).kpp b0;replace an:=((an.gr a4).gr hC).kpp b0;replace ao:=((ao.gr a4).gr hC).kpp b0;replace ab:=((ab.gr a4).gr hC).kpp b0;replace ae:=((ae.gr a4).gr hC).kpp b0;replace ad:=((ad.gr a4).gr hC).kpp b0;replace aa:=((aa.grow a4).grow hC).kpp b0;have hC:=hC0.bl db;replace ad:=ad.gr hC;refine Ud (off:=2) (v:=(.slice ft ((ck++([((aA (ak.length:Int)),(([]:List ByteArray)++ak)++([⟨#[35,51]⟩,⟨#[35,52]⟩]:List ByteArray))]:List R9)).length) fu)) ad sizeOf23 rfl rfl (by intro u hu;simp only [Value.cells,aP,bA,or_false] at hu;subst hu;rfl) rfl rfl ?_;intro gz b1 g0 dc;replace dc:Zj 27 3 db gz ax #[.string d3,(.slice d4 ((c6.take (aA (ac.2.1.length:Int))).length) d5),(.slice ft ((ck++([((aA (ak.length:Int)),(([]:List ByteArray)++ak)++([⟨#[35,51]⟩,⟨#[35,52]⟩]:List ByteArray))]:List R9)).length) fu),.slice d6 c7.length d7,.slice d8 c8.length d9]:=dc;refine Zl<|xk db ?_;have ey:=((ew.gr hC).kp b1).new;refine Y0 ?_;replace am:=(am.gr hC).kp b1;replace an:=(an.gr hC).kp b1;replace ao:=(ao.gr hC).kp b1
   replace ab:=(ab.gr hC).kp b1;replace ae:=(ae.gr hC).kp b1;replace aa:=(aa.grow hC).kp b1 g0;intro i7 hC;replace hC:=hC.bl db;refine go ?_;replace am:=am.gr hC;replace an:=an.gr hC;replace ao:=ao.gr hC;replace ab:=ab.gr hC;replace ae:=ae.gr hC;replace aa:=aa.grow hC;exact ⟨cl,by omega,rfl,⟨_,_,_,_,_,_,_,_,_,_,_,_,_,_,_,_,rfl,hm,aa,ab,ae,am,ey.gr hC,an,ao,dc.gr hC,rfl⟩⟩
  refine Zs [1,2,3,1000000] (fun n f a5=>∃ a6 ea eb ec dd ed ee de ez e0 cp ef eg df e1 cq,cq=n∧Zgl N ac cq ea dd de cp df e1=some r∧St w0 (Zf col) a6 a5∧Zj 27 1 a6 a5 dt #[.string ac.1,.slice cd ac.2.1.length b9,.slice ce ac.2.2.1.length ca,.slice cf ac.2.2.2.1.length cb,.slice cg ac.2.2.2.2.length cc]∧Zj 27 2 a6 a5 du #[.string (⟨#[]⟩),.slice none (([]:List ByteArray).length) 0,.slice none (([]:List R9).length) 0,.slice none (([]:List R7).length) 0,(.slice none (([]:List Rc).length) 0)]∧Zc Za.str 9 4 a6 a5 eb ec dd∧Zc (Za.view Za.str) 22 6 a6 a5 ed ee de∧Zc (Za.view rI) 36 7 a6 a5 ez e0 cp∧Zc (Za.view (Za.pair (Za.pair Za.bool (Za.view rU)) (Za.view rU))) 29 8 a6 a5 ef eg df∧Zj 27 3 a6 a5 ax #[.string ea,(.slice eb ((dd.take (aA (ac.2.1.length:Int))).length) ec),.slice ed de.length ee,.slice ez cp.length e0,.slice ef df.length eg]∧[6].map f=[.int .i64 e1]) N ⟨_,_,_,_,_,_,_,_,_,_,_,_,_,_,0,_,rfl,hm,aa,ab,ae,am,bk,an,ao,ad,rfl⟩ ?_;clear hm;intro n f a5 hI;obtain ⟨a6,ea,eb,ec,dd,ed,ee,de,ez,e0,cp,ef,eg,df,e1,cq,hn,hm,aa,ab,ae,ap,aq,bo,ar,ad,hs⟩:=hI;subst hn;refine .lL [6] hs ?_
  cases cq with
  | zero=>rw [Zgl.eq_1] at hm;cases hm
  | succ cq=>
   rw [Zgl.eq_2] at hm;refine go ?_;refine Z1 ab ?_;refine go ?_;refine Zm hm (fun hb hm=>go ?_) fun hb hm=>go ?_
   ·refine Z1 ab<|Xr rfl ?_;obtain ⟨al,b2,hm⟩:=bZ hm;refine lI b2 ((ci.ks aa).addr b2) ?_;obtain ⟨_,g1,g2⟩:=(ci.ks aa).atN b2;obtain ⟨⟨i8,i9,rfl,g3⟩,_⟩:=g1;refine lW g2.one ?_;obtain ⟨g4,hm⟩:=Zv hm;refine Yy (c:=12) Zc.nil g3.srcC g4 ?_;intro ja jb jc g5 bp e2;refine go ?_;refine Wj (col:=g5) [(-95),(-96)] 13 ?_;intro jd je jf a7 g6;obtain ⟨g7,hm⟩:=Zv hm;refine Yy (e2.gr a7) (g6.srcN (NB.int (k:=.i64))) g7 ?_;intro dg dh jg cr bq ct;refine go ?_;refine Wc (col:=cr) [(0,1),(1,0),(2,1),(3,1),(4,0),(5,1),(6,1),(7,0),(8,1),(9,1),(10,3),(11,2),(12,1),(13,2)] (by kernel_rfl) (by kernel_rfl)<|xF ⟨_,_,rfl⟩ ?_;replace ad:=((ad.kpp bp).gr a7).kpp bq;refine xW (fun _ hC=>((ad.atN).nth (q:=3) rfl).gr (hC.bl cr)) ?_;refine xu rfl rfl (fun _=>Va rfl) ?_;refine xF ⟨_,_,rfl⟩ ?_;replace ab:=((ab.kpp bp).gr a7).kpp bq;refine xW (fun _ hC=>((ab.atN).nth (q:=3) rfl).gr (hC.bl cr)) ?_;refine xu rfl rfl (fun _=>Yz rfl) ?_;replace aa:=((aa.kpp bp).grow a7).kpp bq;refine xu rfl rfl (fun _=>Yv underlying24 sizeOf36 rfl rfl (Xe b2).1 (Xe b2).2.1 ((ci.ks aa).addr b2)) ?_;obtain ⟨_,g8,g9⟩:=(ci.ks aa).atN b2;obtain ⟨⟨jh,ji,rfl,jj⟩,_⟩:=g8;refine xW (fun _ hC=>g9.one.gr (hC.bl cr)) ?_;refine xu rfl rfl (fun _=>Uz underlying36 rfl) ?_;obtain ⟨e3,hm⟩:=Zv hm;refine xu (v:=.slice dg (aA (al.length:Int)) dh) rfl rfl (fun _=>Vt underlying36 sizeOf3 rfl rfl e3.1 (by have:=ct.lecap;have:=e3.2;omega)) ?_;refine .ld (d:=88) (v:=(.slice dg ((((([]:List Int)++al)++[(-95),(-96)]).take (aA (al.length:Int))).length) dh)) (congrArg (fun n=>Value.slice dg n dh) (bE (show (aA (al.length:Int))≤((([]:List Int)++al)++[(-95),(-96)]).length by have:=e3.2;omega)).symm) ?_;refine xe rfl rfl ?_;intro jk hC0;have hC:=hC0.bl cr;replace ap:=(((ap.kpp bp).gr a7).kpp bq).gr hC;replace ap:=ap.froz 12;replace aq:=(((aq.kpp bp).gr a7).kpp bq).gr hC;replace aq:=aq.froz 12;replace bo:=(((bo.kpp bp).gr a7).kpp bq).gr hC;replace bo:=bo.froz 12;replace ar:=(((ar.kpp bp).gr a7).kpp bq).gr hC;replace ar:=ar.froz 12;replace ct:=ct.gr hC;replace ab:=ab.gr hC;replace ab:=ab.froz 12;replace ae:=(((ae.kpp bp).gr a7).kpp bq).gr hC
    replace ae:=ae.froz 12;replace ad:=ad.gr hC;replace ad:=ad.froz 12;replace aa:=aa.grow hC;replace aa:=aa.froz 12 (by decide) (by decide);refine Uo (col:=(X5 12 cr)) (r:=(Za.view rI)) (xs:=[((aA (al.length:Int)),(([]:List Int)++al)++[(-95),(-96)])]) [(.slice dg ((((([]:List Int)++al)++[(-95),(-96)]).take (aA (al.length:Int))).length) dh)] 14 (W0.ofF (Rows.consF (r:=(Za.view rI)) (x:=((aA (al.length:Int)),(([]:List Int)++al)++[(-95),(-96)])) (cs:=[(.slice dg ((((([]:List Int)++al)++[(-95),(-96)]).take (aA (al.length:Int))).length) dh)]) (Zme ((ct).toSlF (Zh.int .i64))) Rows.nil0)) ?_;intro jl jm e4 a8 e5;refine Zl<|Xt e4 hC0 a8<|xe rfl rfl ?_;intro ha hC0;have hC:=hC0.bl e4;obtain ⟨fv,hm⟩:=Zv hm;replace bo:=(bo.gr a8).gr hC;refine V8 (col:=e4) (w:=ha) (r:=(Za.view rI)) (c:=7) (c2:=7) (bo.ex) ((e5.gr hC).srcN NB.view) rfl underlying24 Z50 rfl rfl rfl fv.1 fv.2 (by decide) ?_;intro fw fx jn di b3 e6;refine Zl<|xk di<|xF ⟨_,_,rfl⟩ ?_;refine xe rfl rfl ?_;intro jo hC0;replace ap:=((ap.gr a8).gr hC).kpp b3;replace aq:=((aq.gr a8).gr hC).kpp b3;replace ar:=((ar.gr a8).gr hC).kpp b3;replace ab:=((ab.gr a8).gr hC).kpp b3;replace ae:=((ae.gr a8).gr hC).kpp b3;replace ad:=((ad.gr a8).gr hC).kpp b3;replace aa:=((aa.grow a8).grow hC).kpp b3;have hC:=hC0.bl di;replace ad:=ad.gr hC;refine Ud (off:=3) (v:=(.slice fw ((cp++[((aA (al.length:Int)),(([]:List Int)++al)++[(-95),(-96)])]).length) fx)) ad sizeOf24 rfl rfl (by intro u hu;simp only [Value.cells,aP,bA,or_false] at hu;subst hu;rfl) rfl rfl ?_;intro hc b4 hd dj;replace dj:Zj 27 3 di hc ax #[.string ea,(.slice eb ((dd.take (aA (ac.2.1.length:Int))).length) ec),.slice ed de.length ee,(.slice fw ((cp++[((aA (al.length:Int)),(([]:List Int)++al)++[(-95),(-96)])]).length) fx),.slice ef df.length eg]:=dj;refine Zl<|xk di ?_;have e7:=((e6.gr hC).kp b4).new;refine Y0 ?_;replace ap:=(ap.gr hC).kp b4;replace aq:=(aq.gr hC).kp b4;replace ar:=(ar.gr hC).kp b4;replace ab:=(ab.gr hC).kp b4;replace ae:=(ae.gr hC).kp b4;replace aa:=(aa.grow hC).kp b4 hd;intro jp hC;replace hC:=hC.bl di;refine go ?_;replace ap:=ap.gr hC;replace aq:=aq.gr hC;replace e7:=e7.gr hC
    replace ar:=ar.gr hC;replace ab:=ab.gr hC;replace ae:=ae.gr hC;replace aa:=aa.grow hC;exact ⟨cq,by omega,rfl,⟨_,_,_,_,_,_,_,_,_,_,_,_,_,_,_,_,rfl,hm,aa,ab,ae,ap,aq,e7,ar,dj.gr hC,rfl⟩⟩
   refine Zs [1,2,3,1000000] (fun n f a9=>∃ ba cu cv cw br cx cy bs cz c0 bt dk dl bb eh b5,b5=n∧Zdt N ac b5 cu br bs bt bb eh=some r∧St w0 (Zf col) ba a9∧Zj 27 1 ba a9 dt #[.string ac.1,.slice cd ac.2.1.length b9,.slice ce ac.2.2.1.length ca,.slice cf ac.2.2.2.1.length cb,.slice cg ac.2.2.2.2.length cc]∧Zj 27 2 ba a9 du #[.string (⟨#[]⟩),.slice none (([]:List ByteArray).length) 0,.slice none (([]:List R9).length) 0,.slice none (([]:List R7).length) 0,(.slice none (([]:List Rc).length) 0)]∧Zc Za.str 9 4 ba a9 cv cw br∧Zc (Za.view Za.str) 22 6 ba a9 cx cy bs∧Zc (Za.view rI) 36 7 ba a9 cz c0 bt∧Zc (Za.view (Za.pair (Za.pair Za.bool (Za.view rU)) (Za.view rU))) 29 8 ba a9 dk dl bb∧Zj 27 3 ba a9 ax #[.string cu,(.slice cv ((br.take (aA (ac.2.1.length:Int))).length) cw),.slice cx bs.length cy,.slice cz bt.length c0,.slice dk bb.length dl]∧[8].map f=[.int .i64 eh]) N ⟨_,_,_,_,_,_,_,_,_,_,_,_,_,_,0,_,rfl,hm,aa,ab,ae,ap,aq,bo,ar,ad,rfl⟩ ?_;clear hm;intro n f a9 hI;obtain ⟨ba,cu,cv,cw,br,cx,cy,bs,cz,c0,bt,dk,dl,bb,eh,b5,hn,hm,aa,ab,ae,af,ag,ah,ai,ad,hs⟩:=hI;subst hn;refine .lL [8] hs ?_
   cases b5 with
   | zero=>rw [Zdt.eq_1] at hm;cases hm
   | succ b5=>
    rw [Zdt.eq_2] at hm;refine go ?_;refine Z1 ab ?_;refine go ?_;refine Zm hm (fun hb hm=>go ?_) fun hb hm=>go ?_
    ·refine Zs [1,2,3,8,1000000] (fun n f ay=>∃ aw e8 e9 fa au c1,c1=n∧Zgm N ac cu br bs bt bb eh (Zdt N ac b5) c1 e8 au=some r∧St w0 (Zf col) aw ay∧Zj 27 1 aw ay dt #[.string ac.1,.slice cd ac.2.1.length b9,.slice ce ac.2.2.1.length ca,.slice cf ac.2.2.2.1.length cb,.slice cg ac.2.2.2.2.length cc]∧Zj 27 2 aw ay du #[.string (⟨#[]⟩),.slice none (([]:List ByteArray).length) 0,.slice none (([]:List R9).length) 0,.slice none (([]:List R7).length) 0,(.slice none (([]:List Rc).length) 0)]∧Zc Za.str 9 4 aw ay cv cw br∧Zc (Za.view Za.str) 22 6 aw ay cx cy bs∧Zc (Za.view rI) 36 7 aw ay cz c0 bt∧Zc (Za.view (Za.pair (Za.pair Za.bool (Za.view rU)) (Za.view rU))) 29 8 aw ay dk dl bb∧Zj 27 3 aw ay ax #[.string cu,(.slice cv ((br.take (aA (ac.2.1.length:Int))).length) cw),.slice cx bs.length cy,.slice cz bt.length c0,.slice dk bb.length dl]∧Zc (Za.pair (Za.pair Za.bool (Za.view rU)) (Za.view rU)) 42 15 aw ay e9 fa au∧[10,9].map f=[.int .i64 e8,.slice e9 au.length fa]) N ⟨_,0,none,0,_,_,rfl,hm,aa,ab,ae,af,ag,ah,ai,ad,Zc.nil,rfl⟩ ?_;clear hm;intro n f ay hI;obtain ⟨aw,e8,e9,fa,au,c1,hn,hm,aa,ab,ae,af,ag,ah,ai,ad,av,hs⟩:=hI;subst hn;refine .lL [10,9] hs ?_
     cases c1 with
     | zero=>rw [Zgm.eq_1] at hm;cases hm
     | succ c1=>
      rw [Zgm.eq_2] at hm;refine go ?_;refine Z1 ab<|Xr rfl ?_;obtain ⟨bc,az,hm⟩:=bZ hm;refine lI az ((bj.ks aa).addr az) ?_;obtain ⟨_,he,hf⟩:=(bj.ks aa).atN az;obtain ⟨⟨jq,jr,rfl,js⟩,_⟩:=he;refine lW hf.one<|go ?_;refine Zm hm (fun hb hm=>go ?_) fun hb hm=>go ?_
      ·refine Z1 ab<|Xr rfl<|lI az ((bj.ks aa).addr az) ?_;obtain ⟨_,hg,hh⟩:=(bj.ks aa).atN az;obtain ⟨⟨jt,ju,rfl,fy⟩,_⟩:=hg;refine lW hh.one<|Xr rfl ?_;obtain ⟨fb,fc,hm⟩:=bZ hm;refine lI fc (fy.addr fc) ?_;obtain ⟨_,hi,hj⟩:=fy.atN fc;obtain ⟨_,_,rfl,hk,hl⟩:=Yb hi;obtain ⟨_,_,rfl,ho,hp⟩:=Yb hk;obtain ⟨rfl,_⟩:=ho;obtain ⟨⟨hq,hr,rfl,ht⟩,_⟩:=hp;obtain ⟨⟨hv,hw,rfl,hx⟩,_⟩:=hl;refine lV (.agg #[.bool fb.1.1,.slice hq fb.1.2.length hr,.slice hv fb.2.length hw]) (Ym isAgg42 sizeOf42 rfl rfl hj) ?_;obtain ⟨aj,hy,hm⟩:=bZ hm;refine Zk (Z4c hy ht hx) fun _ jv ⟨hz,fz,f0,f1,f2,e',bd,h0,h1⟩=>⟨_,e',?_⟩;refine Uo (col:=hz) (r:=(Za.pair (Za.pair Za.bool (Za.view rU)) (Za.view rU))) (xs:=[((aj.1.1,(aj.1.2.1,aj.1.2.2)),(aj.2.1,aj.2.2))]) [(.agg #[.bool aj.1.1,.slice fz ((aj.1.2.2.take aj.1.2.1).length) f0,.slice f1 ((aj.2.2.take aj.2.1).length) f2])] 16 (W0.ofF (Rows.consF (r:=(Za.pair (Za.pair Za.bool (Za.view rU)) (Za.view rU))) (x:=((aj.1.1,(aj.1.2.1,aj.1.2.2)),(aj.2.1,aj.2.2))) (cs:=[.bool aj.1.1,.slice fz ((aj.1.2.2.take aj.1.2.1).length) f0,.slice f1 ((aj.2.2.take aj.2.1).length) f2]) (Tg (Tg (U0 aj.1.1) (Zme h0)) (Zme h1)) Rows.nil0)) ?_;intro jw jx jy be h2;obtain ⟨h3,hm⟩:=Zv hm;replace av:=(av.gr bd).gr be;refine Yy av (h2.srcN (NB.pair (NB.pair NB.bool NB.view) NB.view)) h3 ?_;intro jz j0 j1 j2 bu h4;refine go ?_;replace af:=((af.gr bd).gr be).kpp bu;replace ag:=((ag.gr bd).gr be).kpp bu;replace ah:=((ah.gr bd).gr be).kpp bu;replace ai:=((ai.gr bd).gr be).kpp bu;replace ab:=((ab.gr bd).gr be).kpp bu;replace ae:=((ae.gr bd).gr be).kpp bu;replace ad:=((ad.gr bd).gr be).kpp bu;replace aa:=((aa.grow bd).grow be).kpp bu;exact ⟨c1,by omega,rfl,⟨_,_,_,_,_,_,rfl,hm,aa,ab,ae,af,ag,ah,ai,ad,h4,rfl⟩⟩
      refine Wj (col:=aw) [97] 17 ?_;intro fd j3 h5 bf b6;refine lV (.agg #[.bool false,(nI),.slice fd ([97].length) 1]) (Wl (l:=[_,_]) (qs:=[(0,2),(2,1)]) underlying42 zeroValue42 ⟨rfl,sizeOf40,rfl,sizeOf38,trivial⟩ rfl)<|Wj (col:=h5) [98] 18 ?_;intro fe j4 h6 a0 dm;refine lV (.agg #[.bool false,(nI),.slice fe ([98].length) 1]) (Wl (l:=[_,_]) (qs:=[(0,2),(2,1)]) underlying42 zeroValue42 ⟨rfl,sizeOf40,rfl,sizeOf38,trivial⟩ rfl) ?_;replace af:=(af.gr bf).gr a0;replace af:=af.froz 17;replace ag:=(ag.gr bf).gr a0;replace ag:=ag.froz 17;replace ah:=(ah.gr bf).gr a0;replace ah:=ah.froz 17;replace ai:=(ai.gr bf).gr a0;replace ai:=ai.froz 17;replace av:=(av.gr bf).gr a0;replace av:=av.froz 17;replace b6:=b6.gr a0;replace b6:=(b6).toSlF (Zh.int .u32);replace dm:=dm.froz 17;replace ab:=(ab.gr bf).gr a0;replace ab:=ab.froz 17;replace ae:=(ae.gr bf).gr a0;replace ae:=ae.froz 17;replace ad:=(ad.gr bf).gr a0;replace ad:=ad.froz 17;replace aa:=(aa.grow bf).grow a0;replace aa:=aa.froz 17 (by decide) (by decide);replace af:=af.froz 18;replace ag:=ag.froz 18;replace ah:=ah.froz 18;replace ai:=ai.froz 18;replace av:=av.froz 18;replace ab:=ab.froz 18;replace ae:=ae.froz 18;replace ad:=ad.froz 18;replace aa:=aa.froz 18 (by decide) (by decide)
      refine Uo (col:=(X5 18 (X5 17 h6))) (r:=(Za.pair (Za.pair Za.bool (Za.view rU)) (Za.view rU))) (xs:=[((false,(0,([]:List Int))),([97].length,[97])),((false,(0,([]:List Int))),([98].length,[98]))]) [(.agg #[.bool false,(nI),.slice fd ([97].length) 1]),(.agg #[.bool false,(nI),.slice fe ([98].length) 1])] 19 (W0.ofF (Rows.consF (r:=(Za.pair (Za.pair Za.bool (Za.view rU)) (Za.view rU))) (x:=((false,(0,([]:List Int))),([97].length,[97]))) (cs:=[.bool false,(nI),.slice fd ([97].length) 1]) (Tg (Tg (U0 false) Zzp) (Zzq (b6.froz 18))) (Rows.consF (r:=(Za.pair (Za.pair Za.bool (Za.view rU)) (Za.view rU))) (x:=((false,(0,([]:List Int))),([98].length,[98]))) (cs:=[.bool false,(nI),.slice fe ([98].length) 1]) (Tg (Tg (U0 false) Zzp) (Zzq ((dm).toSlF (Zh.int .u32)))) Rows.nil0))) ?_;intro j5 j6 j7 bg h7;obtain ⟨h8,hm⟩:=Zv hm;refine Yy (av.gr bg) (h7.srcN (NB.pair (NB.pair NB.bool NB.view) NB.view)) h8 ?_;intro dn dp j8 c3 bv c4;refine go ?_;refine Wc (col:=c3) [(0,1),(1,0),(2,1),(3,1),(4,0),(5,1),(6,1),(7,0),(8,1),(9,1),(10,3),(11,2),(12,1),(13,2)] (by kernel_rfl) (by kernel_rfl)<|xF ⟨_,_,rfl⟩ ?_;replace ad:=(ad.gr bg).kpp bv;refine xW (fun _ hC=>((ad.atN).nth (q:=4) rfl).gr (hC.bl c3)) ?_;refine xu rfl rfl (fun _=>Va rfl) ?_;refine xF ⟨_,_,rfl⟩ ?_;replace ab:=(ab.gr bg).kpp bv;refine xW (fun _ hC=>((ab.atN).nth (q:=4) rfl).gr (hC.bl c3)) ?_;refine xu rfl rfl (fun _=>Yz rfl) ?_;replace aa:=(aa.grow bg).kpp bv;refine xu rfl rfl (fun _=>Yv underlying25 sizeOf29 rfl rfl (Xe az).1 (Xe az).2.1 ((bj.ks aa).addr az)) ?_;obtain ⟨_,h9,ia⟩:=(bj.ks aa).atN az;obtain ⟨⟨j9,ka,rfl,kb⟩,_⟩:=h9;refine xW (fun _ hC=>ia.one.gr (hC.bl c3)) ?_;refine xu rfl rfl (fun _=>Uz underlying29 rfl) ?_;obtain ⟨ff,hm⟩:=Zv hm;refine xu (v:=.slice dn (aA (bc.length:Int)) dp) rfl rfl (fun _=>Vt underlying29 sizeOf42 rfl rfl ff.1 (by have:=c4.lecap;have:=ff.2;omega)) ?_
      refine .ld (d:=137) (v:=(.slice dn (((au++[((false,(0,([]:List Int))),([97].length,[97])),((false,(0,([]:List Int))),([98].length,[98]))]).take (aA (bc.length:Int))).length) dp)) (congrArg (fun n=>Value.slice dn n dp) (bE (show (aA (bc.length:Int))≤(au++[((false,(0,([]:List Int))),([97].length,[97])),((false,(0,([]:List Int))),([98].length,[98]))]).length by have:=ff.2;omega)).symm) ?_;refine xe rfl rfl ?_;intro kc hC0;have hC:=hC0.bl c3;replace af:=((af.gr bg).kpp bv).gr hC;replace af:=af.froz 15;replace ag:=((ag.gr bg).kpp bv).gr hC;replace ag:=ag.froz 15;replace ah:=((ah.gr bg).kpp bv).gr hC;replace ah:=ah.froz 15;replace ai:=((ai.gr bg).kpp bv).gr hC;replace ai:=ai.froz 15;replace c4:=c4.gr hC;replace ab:=ab.gr hC;replace ab:=ab.froz 15;replace ae:=((ae.gr bg).kpp bv).gr hC;replace ae:=ae.froz 15;replace ad:=ad.gr hC;replace ad:=ad.froz 15;replace aa:=aa.grow hC;replace aa:=aa.froz 15 (by decide) (by decide);refine Uo (col:=(X5 15 c3)) (r:=(Za.view (Za.pair (Za.pair Za.bool (Za.view rU)) (Za.view rU)))) (xs:=[((aA (bc.length:Int)),au++[((false,(0,([]:List Int))),([97].length,[97])),((false,(0,([]:List Int))),([98].length,[98]))])]) [(.slice dn (((au++[((false,(0,([]:List Int))),([97].length,[97])),((false,(0,([]:List Int))),([98].length,[98]))]).take (aA (bc.length:Int))).length) dp)] 20 (W0.ofF (Rows.consF (r:=(Za.view (Za.pair (Za.pair Za.bool (Za.view rU)) (Za.view rU)))) (x:=((aA (bc.length:Int)),au++[((false,(0,([]:List Int))),([97].length,[97])),((false,(0,([]:List Int))),([98].length,[98]))])) (cs:=[(.slice dn (((au++[((false,(0,([]:List Int))),([97].length,[97])),((false,(0,([]:List Int))),([98].length,[98]))]).take (aA (bc.length:Int))).length) dp)]) (Zme ((c4).toSlF (Zh.pair (Zh.pair Zh.bool Zh.view) Zh.view))) Rows.nil0)) ?_;intro kd ke fg bh fh;refine Zl<|Xt fg hC0 bh<|xe rfl rfl ?_;intro ib hC0;have hC:=hC0.bl fg;obtain ⟨f3,hm⟩:=Zv hm;replace ai:=(ai.gr bh).gr hC;refine V8 (col:=fg) (w:=ib) (r:=(Za.view (Za.pair (Za.pair Za.bool (Za.view rU)) (Za.view rU)))) (c:=8) (c2:=8) (ai.ex) ((fh.gr hC).srcN NB.view) rfl underlying25 Z5y rfl rfl rfl f3.1 f3.2 (by decide) ?_;intro f4 f5 kg dq b7 fi
      refine Zl<|xk dq<|xF ⟨_,_,rfl⟩ ?_;refine xe rfl rfl ?_;intro kh hC0;replace af:=((af.gr bh).gr hC).kpp b7;replace ag:=((ag.gr bh).gr hC).kpp b7;replace ah:=((ah.gr bh).gr hC).kpp b7;replace ab:=((ab.gr bh).gr hC).kpp b7;replace ae:=((ae.gr bh).gr hC).kpp b7;replace ad:=((ad.gr bh).gr hC).kpp b7;replace aa:=((aa.grow bh).grow hC).kpp b7;have hC:=hC0.bl dq;replace ad:=ad.gr hC;refine Ud (off:=4) (v:=(.slice f4 ((bb++[((aA (bc.length:Int)),au++[((false,(0,([]:List Int))),([97].length,[97])),((false,(0,([]:List Int))),([98].length,[98]))])]).length) f5)) ad sizeOf25 rfl rfl (by intro u hu;simp only [Value.cells,aP,bA,or_false] at hu;subst hu;rfl) rfl rfl ?_;intro ic b8 id dr;replace dr:Zj 27 3 dq ic ax #[.string cu,(.slice cv ((br.take (aA (ac.2.1.length:Int))).length) cw),.slice cx bs.length cy,.slice cz bt.length c0,(.slice f4 ((bb++[((aA (bc.length:Int)),au++[((false,(0,([]:List Int))),([97].length,[97])),((false,(0,([]:List Int))),([98].length,[98]))])]).length) f5)]:=dr;refine Zl<|xk dq ?_;have fj:=((fi.gr hC).kp b8).new;refine Y0 ?_;replace af:=(af.gr hC).kp b8;replace ag:=(ag.gr hC).kp b8;replace ah:=(ah.gr hC).kp b8;replace ab:=(ab.gr hC).kp b8;replace ae:=(ae.gr hC).kp b8;replace aa:=(aa.grow hC).kp b8 id;intro ki hC;replace hC:=hC.bl dq;refine go ?_;replace af:=af.gr hC;replace ag:=ag.gr hC;replace ah:=ah.gr hC;replace ae:=ae.gr hC;replace aa:=aa.grow hC;exact ⟨b5,by omega,rfl,⟨_,_,_,_,_,_,_,_,_,_,_,_,_,_,_,_,rfl,hm,aa,ab.gr hC,ae,af,ag,ah,fj.gr hC,dr.gr hC,rfl⟩⟩
    refine lV _ (Z9 isAgg27 sizeOf27 ad)<|Xf ae ?_;intro kj ds ie bi;refine go ?_;replace af:=af.kp ds;replace af:=(af).toSlF Zh.str;replace ag:=ag.kp ds;replace ag:=ag.froz 4;replace ah:=ah.kp ds;replace ah:=ah.froz 4;replace ai:=ai.kp ds;replace ai:=ai.froz 4;replace bi:=bi.froz 4;replace aa:=aa.kp ds ie;replace aa:=aa.froz 4 (by decide) (by decide);replace af:=af.froz 6;replace ag:=(ag).toSlF Zh.view;replace ah:=ah.froz 6;replace ai:=ai.froz 6;replace bi:=bi.froz 6;replace aa:=aa.froz 6 (by decide) (by decide);replace af:=af.froz 7;replace ag:=ag.froz 7;replace ah:=(ah).toSlF Zh.view;replace ai:=ai.froz 7;replace bi:=bi.froz 7;replace aa:=aa.froz 7 (by decide) (by decide);replace aa:=aa.froz 8 (by decide) (by decide);cases hm;exact ⟨rfl,_,ra (bi.froz 8).atN,_,_,_,_,_,_,_,_,_,rfl,aa.fin (cm []),aa.fs (af.froz 8),aa.fs (ag.froz 8),aa.fs (ah.froz 8),aa.fs ((ai).toSlF Zh.view)⟩
def Zln (aa:Bool):Option Bool:=
  some aa
def Zgx (N n0:Nat) (aa:List ByteArray) (ac:List ByteArray) (ad ae:ByteArray):Nat→Int→Option Bool
  | 0,_=>none
  | af+1,ab=>if (decide (ab<(ac.length:Int)))=true then ((Zi (aa.take n0) ab).bind fun ag=>(Zi ac ab).bind fun ah=>if (!decide (ag=ah))=true then (some false) else ((Zgx N n0 aa ac ad ae af) (i64.wrap (ab+1)))) else (Zt ((0:Int)≤(i64.wrap (((aa.take n0).length:Int)+2))∧(i64.wrap (((aa.take n0).length:Int)+2))≤(aa.length:Int)) ((Zi (aa.take (aA (i64.wrap (((aa.take n0).length:Int)+2)))) ((aa.take n0).length:Int)).bind fun ai=>if (decide (ai=ad))=true then ((Zi (aa.take (aA (i64.wrap (((aa.take n0).length:Int)+2)))) (i64.wrap (((aa.take n0).length:Int)+1))).bind fun aj=>Zln (decide (aj=ae))) else (Zln false)))
def Zgw (N n0:Nat) (aa:List ByteArray) (ab:List ByteArray) (ac ad:ByteArray):Option Bool:=
  if (!decide (((aa.take n0).length:Int)=(ab.length:Int)))=true then (some false) else (Zgx N n0 aa ab ac ad N 0)
theorem Ztp {N ae n0 aq:Nat} {a0 a1:Option Addr} {col:Zd} {w0:World} {ab af:R8} {ah ag:ByteArray} {r:Bool} (hm:Zgw N n0 ab af ah ag=some r) (h0:Sl Za.str col w0 a0 ae ab) (h1:Sl Za.str col w0 a1 aq af):
    Calls prog 45 #[.slice a0 ((ab.take n0).length) ae,.slice a1 af.length aq,.string ah,.string ag] w0 (Wx w0 r):=by
 refine Z6 8 (m:=53) func45 rfl rfl rfl rfl rfl ?_;rw [Zgw.eq_1] at hm;have aa:=St.start col w0;refine go ?_;replace h0:=h0.k0;replace h1:=h1.k0;refine Zm hm (fun hb hm=>go ?_) fun hb hm=>go ?_
 ·cases hm;exact ⟨rfl,rfl,aa.below⟩
 refine Zs [0,1,2,3,1000000] (fun n f ar=>∃ ac ai ad,ad=n∧Zgx N n0 ab af ah ag ad ai=some r∧St w0 (Zf col) ac ar∧[9].map f=[.int .i64 ai]) N ⟨_,0,_,rfl,hm,aa,rfl⟩ ?_;clear hm;intro n f ar hI;obtain ⟨ac,ai,ad,hn,hm,aa,hs⟩:=hI;subst hn;refine .lL [9] hs ?_
 cases ad with
 | zero=>rw [Zgx.eq_1] at hm;cases hm
 | succ ad=>
  rw [Zgx.eq_2] at hm;refine go ?_;refine Zm hm (fun hb hm=>go ?_) fun hb hm=>go ?_
  ·refine Y7 (col:=ac) (by kernel_rfl) (by kernel_rfl)<|go ?_;obtain ⟨ax,aj,hm⟩:=bZ hm;refine qI aj (((h0.ks aa).take n0).addr aj)<|qW (fun _ hC=>(((h0.ks aa).take n0).gr (hC.bl ac)).atStr aj) ?_;refine go ?_;obtain ⟨ay,ak,hm⟩:=bZ hm;refine qI ak ((h1.ks aa).addr ak)<|qW (fun _ hC=>((h1.ks aa).gr (hC.bl ac)).atStr ak) ?_;refine go ?_;refine X2 ?_;intro az hC;replace aa:=aa.grow (hC.bl ac);refine Zm hm (fun hb hm=>go ?_) fun hb hm=>go ?_
   ·cases hm;exact ⟨rfl,rfl,aa.below⟩
   exact ⟨ad,by omega,rfl,⟨_,_,_,rfl,hm,aa,rfl⟩⟩
  obtain ⟨al,hm⟩:=Zv hm;refine lv (v:=.slice a0 (aA (i64.wrap (((ab.take n0).length:Int)+2))) ae) rfl rfl (Vt underlying22 sizeOf9 rfl rfl al.1 (by have:=(h0.ks aa).1.2;have:=al.2;omega))<|.ld (d:=35) (v:=(.slice a0 ((ab.take (aA (i64.wrap (((ab.take n0).length:Int)+2)))).length) ae)) (congrArg (fun n=>Value.slice a0 n ae) (bE (show (aA (i64.wrap (((ab.take n0).length:Int)+2)))≤ab.length by have:=al.2;omega)).symm) ?_;refine Zbe rfl<|Zl<|Z0 ?_;refine Wp.cutK [1000000] (fun f au=>∃ av am,Zln am=some r∧St w0 (Zf col) av au∧[8].map f=[.bool am]) ?_ ?_
  ·intro f au hJ;obtain ⟨av,am,hm,aa,hs⟩:=hJ;rw [Zln.eq_1] at hm;refine .lL [8] hs<|Wh ?_;cases hm;exact ⟨rfl,rfl,aa.below⟩
  refine go ?_;obtain ⟨a2,an,hm⟩:=bZ hm;refine lI an (((h0.ks aa).take (aA (i64.wrap (((ab.take n0).length:Int)+2)))).addr an)<|lW (((h0.ks aa).take (aA (i64.wrap (((ab.take n0).length:Int)+2)))).atStr an) ?_;refine go ?_;refine Xn hm (fun ao hm=>go ?_) fun ao hm=>go ?_
  ·obtain ⟨aw,ap,hm⟩:=bZ hm;refine lI ap (((h0.ks aa).take (aA (i64.wrap (((ab.take n0).length:Int)+2)))).addr ap) ?_;refine go ?_;refine lW (((h0.ks aa).take (aA (i64.wrap (((ab.take n0).length:Int)+2)))).atStr ap)<|go ?_;refine lV (.bool (decide (aw=ag))) (Zw (congrArg Value.bool ao) rfl)<|go ?_;exact ⟨rfl,_,_,hm,aa,rfl⟩
  refine lV (.bool false) (Xk (congrArg Value.bool ao) rfl)<|go ?_;exact ⟨rfl,_,_,hm,aa,rfl⟩
def Zgq (N:Nat) (ab:R1) (ac:R1):Nat→Int→Option Bool
  | 0,_=>none
  | ad+1,aa=>if (decide (aa<(ab.1.2.length:Int)))=true then ((Zi ab.1.2 aa).bind fun ae=>(Zi ac.1.2 aa).bind fun af=>if (!decide (ae=af))=true then (some false) else ((Zgq N ab ac ad) (i64.wrap (aa+1)))) else (some true)
def Zgp (N:Nat) (aa:R1) (ac:R1):Nat→Int→Option Bool
  | 0,_=>none
  | ad+1,ab=>if (decide (ab<(aa.2.length:Int)))=true then ((Zi aa.2 ab).bind fun ae=>(Zi ac.2 ab).bind fun af=>if (!decide (ae=af))=true then (some false) else ((Zgp N aa ac ad) (i64.wrap (ab+1)))) else (Zgq N aa ac N 0)
def Zjk (N:Nat) (aa:R1) (ab:R1) (ac:Bool):Option Bool:=
  if ac=true then (some false) else (Zgp N aa ab N 0)
def Zji (N:Nat) (aa:R1) (ab:R1):Option Bool:=
  if (!decide (aa.1.1=ab.1.1))=true then (Zjk N aa ab true) else (if (!decide ((aa.1.2.length:Int)=(ab.1.2.length:Int)))=true then (Zjk N aa ab true) else (Zjk N aa ab (!decide ((aa.2.length:Int)=(ab.2.length:Int)))))
theorem Z4i {N aj ak al am:Nat} {an ao ap aq:Option Addr} {col:Zd} {w0:World} {ac ad:R1} {r:Bool} (hm:Zji N ac ad=some r) (ar:Sl rU col w0 an aj ac.1.2) (au:Sl rU col w0 ao ak ac.2) (av:Sl rU col w0 ap al ad.1.2) (aw:Sl rU col w0 aq am ad.2):
    Calls prog 46 #[(.agg #[.bool ac.1.1,.slice an ac.1.2.length aj,.slice ao ac.2.length ak]),(.agg #[.bool ad.1.1,.slice ap ad.1.2.length al,.slice aq ad.2.length am])] w0 (Wx w0 r):=by
 refine Z6 4 (m:=73) func46 rfl rfl rfl rfl rfl ?_;rw [Zji.eq_1] at hm;have aa:=St.start col w0;refine go ?_;refine Xl (col:=(Zf col)) 1 rfl ?_;intro a1 bf bd be ab;refine Xl (col:=bd) 2 rfl ?_;intro a2 bg bh bc ae;refine Qt rfl<|Zl<|Z0<|Z0 ?_;replace ar:=ar.k0;replace au:=au.k0;replace av:=av.k0;replace aw:=aw.k0;replace aa:=(aa.grow be).grow bc;replace ab:=ab.gr bc;refine Wp.cutK [2,3,1000000] (fun f ax=>∃ ay a3,Zjk N ac ad a3=some r∧St w0 (Zf col) ay ax∧Zj 42 1 ay ax a1 #[.bool ac.1.1,.slice an ac.1.2.length aj,.slice ao ac.2.length ak]∧Zj 42 2 ay ax a2 #[.bool ad.1.1,.slice ap ad.1.2.length al,.slice aq ad.2.length am]∧[33].map f=[.bool a3]) ?_ ?_
 ·intro f ax hJ;obtain ⟨ay,a3,hm,aa,ab,ae,hs⟩:=hJ;rw [Zjk.eq_1] at hm;refine .lL [33] hs ?_;refine Zm hm (fun hb hm=>go ?_) fun hb hm=>go ?_
  ·cases hm;exact ⟨rfl,rfl,aa.below⟩
  refine Zs [2,3,1000000] (fun n f az=>∃ af a4 ah,ah=n∧Zgp N ac ad ah a4=some r∧St w0 (Zf col) af az∧Zj 42 1 af az a1 #[.bool ac.1.1,.slice an ac.1.2.length aj,.slice ao ac.2.length ak]∧Zj 42 2 af az a2 #[.bool ad.1.1,.slice ap ad.1.2.length al,.slice aq ad.2.length am]∧[5].map f=[.int .i64 a4]) N ⟨_,0,_,rfl,hm,aa,ab,ae,rfl⟩ ?_;clear hm;intro n f az hI;obtain ⟨af,a4,ah,hn,hm,aa,ab,ae,hs⟩:=hI;subst hn;refine .lL [5] hs ?_
  cases ah with
  | zero=>rw [Zgp.eq_1] at hm;cases hm
  | succ ah=>
   rw [Zgp.eq_2] at hm;refine go ?_;refine Z1 ab ?_;refine go ?_;refine Zm hm (fun hb hm=>go ?_) fun hb hm=>go ?_
   ·refine Y7 (col:=af) (by kernel_rfl) (by kernel_rfl)<|qF ⟨_,_,rfl⟩ ?_;refine qW (fun _ hC=>((ab.atN).nth (q:=2) rfl).gr (hC.bl af)) ?_;refine go ?_;obtain ⟨bi,a5,hm⟩:=bZ hm;refine qI a5 ((au.ks aa).addr a5)<|qW (fun _ hC=>((au.ks aa).gr (hC.bl af)).atInt a5) ?_;refine qF ⟨_,_,rfl⟩ ?_;refine qW (fun _ hC=>((ae.atN).nth (q:=2) rfl).gr (hC.bl af)) ?_;refine go ?_;obtain ⟨bj,a6,hm⟩:=bZ hm;refine qI a6 ((aw.ks aa).addr a6)<|qW (fun _ hC=>((aw.ks aa).gr (hC.bl af)).atInt a6) ?_;refine go ?_;refine X2 ?_;intro bk hC;replace hC:=hC.bl af;replace ab:=ab.gr hC;replace ae:=ae.gr hC;replace aa:=aa.grow hC;refine Zm hm (fun hb hm=>go ?_) fun hb hm=>go ?_
    ·cases hm;exact ⟨rfl,rfl,aa.below⟩
    exact ⟨ah,by omega,rfl,⟨_,_,_,rfl,hm,aa,ab,ae,rfl⟩⟩
   refine Zs [2,3,1000000] (fun n f a0=>∃ ag a7 ai,ai=n∧Zgq N ac ad ai a7=some r∧St w0 (Zf col) ag a0∧Zj 42 1 ag a0 a1 #[.bool ac.1.1,.slice an ac.1.2.length aj,.slice ao ac.2.length ak]∧Zj 42 2 ag a0 a2 #[.bool ad.1.1,.slice ap ad.1.2.length al,.slice aq ad.2.length am]∧[6].map f=[.int .i64 a7]) N ⟨_,0,_,rfl,hm,aa,ab,ae,rfl⟩ ?_;clear hm;intro n f a0 hI;obtain ⟨ag,a7,ai,hn,hm,aa,ab,ae,hs⟩:=hI;subst hn;refine .lL [6] hs ?_
   cases ai with
   | zero=>rw [Zgq.eq_1] at hm;cases hm
   | succ ai=>
    rw [Zgq.eq_2] at hm;refine go ?_;refine Z7 ⟨_,_,rfl⟩ ?_;refine Z7 (X8 ⟨_,_,rfl⟩) ?_;refine lW ((((ab.atN).part 0 2 _ rfl)).nth (q:=1) rfl)<|go ?_;refine Zm hm (fun hb hm=>go ?_) fun hb hm=>go ?_
    ·refine Y7 (col:=ag) (by kernel_rfl) (by kernel_rfl)<|qF ⟨_,_,rfl⟩ ?_;refine qF (X8 ⟨_,_,rfl⟩) ?_;refine qW (fun _ hC=>((((ab.atN).part 0 2 _ rfl)).nth (q:=1) rfl).gr (hC.bl ag)) ?_;refine go ?_;obtain ⟨bm,a8,hm⟩:=bZ hm;refine qI a8 ((ar.ks aa).addr a8)<|qW (fun _ hC=>((ar.ks aa).gr (hC.bl ag)).atInt a8) ?_;refine qF ⟨_,_,rfl⟩ ?_;refine qF (X8 ⟨_,_,rfl⟩) ?_;refine qW (fun _ hC=>((((ae.atN).part 0 2 _ rfl)).nth (q:=1) rfl).gr (hC.bl ag)) ?_;refine go ?_;obtain ⟨bn,a9,hm⟩:=bZ hm;refine qI a9 ((av.ks aa).addr a9)<|qW (fun _ hC=>((av.ks aa).gr (hC.bl ag)).atInt a9) ?_;refine go ?_;refine X2 ?_;intro bo hC;replace hC:=hC.bl ag;replace ab:=ab.gr hC;replace ae:=ae.gr hC;replace aa:=aa.grow hC;refine Zm hm (fun hb hm=>go ?_) fun hb hm=>go ?_
     ·cases hm;exact ⟨rfl,rfl,aa.below⟩
     exact ⟨ai,by omega,rfl,⟨_,_,_,rfl,hm,aa,ab,ae,rfl⟩⟩
    cases hm;exact ⟨rfl,rfl,aa.below⟩
 refine Wy<|Z7 ⟨_,_,rfl⟩ ?_;refine Z7 (X8 ⟨_,_,rfl⟩) ?_;refine lW ((((ab.atN).part 0 2 _ rfl)).nth (q:=0) rfl)<|Z7 ⟨_,_,rfl⟩ ?_;refine Z7 (X8 ⟨_,_,rfl⟩) ?_;refine lW ((((ae.atN).part 0 2 _ rfl)).nth (q:=0) rfl)<|go ?_;refine Xn hm (fun ba hm=>go ?_) fun ba hm=>go ?_
 ·refine lV (.bool true) (Zw (congrArg Value.bool ba) rfl)<|Xq rfl<|lP 25 rfl rfl<|lP 25 rfl rfl<|lP 25 rfl rfl<|lP 25 rfl rfl<|lP 25 rfl rfl<|lP 25 rfl rfl<|lP 25 rfl rfl<|lV (.bool true) (Zw rfl rfl)<|Zl ?_;exact ⟨rfl,_,_,hm,aa,ab,ae,rfl⟩
 refine Z7 ⟨_,_,rfl⟩ ?_;refine go ?_;refine Z7 (X8 ⟨_,_,rfl⟩) ?_;refine go ?_;refine lW ((((ab.atN).part 0 2 _ rfl)).nth (q:=1) rfl)<|go ?_;refine Z7 ⟨_,_,rfl⟩ ?_;refine go ?_;refine Z7 (X8 ⟨_,_,rfl⟩) ?_;refine go ?_;refine lW ((((ae.atN).part 0 2 _ rfl)).nth (q:=1) rfl)<|go ?_;refine lV (.bool (!decide ((ac.1.2.length:Int)=(ad.1.2.length:Int)))) (Xk (congrArg Value.bool ba) rfl)<|Xq rfl ?_;refine Xn hm (fun bb hm=>go ?_) fun bb hm=>go ?_
 ·refine lV (.bool true) (Zw (congrArg Value.bool bb) rfl)<|Zl ?_;exact ⟨rfl,_,_,hm,aa,ab,ae,rfl⟩
 refine Z7 ⟨_,_,rfl⟩ ?_;refine go ?_;refine lW ((ab.atN).nth (q:=2) rfl)<|go ?_;refine Z7 ⟨_,_,rfl⟩ ?_;refine go ?_;refine lW ((ae.atN).nth (q:=2) rfl)<|go ?_;refine lV (.bool (!decide ((ac.2.length:Int)=(ad.2.length:Int)))) (Xk (congrArg Value.bool bb) rfl)<|Zl ?_;exact ⟨rfl,_,_,hm,aa,ab,ae,rfl⟩

end Go.Proofs.YthclpfhncgpnmaaGreat
