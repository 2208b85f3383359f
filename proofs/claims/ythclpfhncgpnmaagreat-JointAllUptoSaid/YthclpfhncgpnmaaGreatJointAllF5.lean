/-
  What functions of the program compute, as plain Lean functions (m_..), and proofs that they compute it (c_..). Printed by a program of the author; no conditions.
-/
import Derived.Test.YthclpfhncgpnmaaGreatJointAllBFloat
import Derived.Test.YthclpfhncgpnmaaGreatProg
import Derived.Test.YthclpfhncgpnmaaGreatJointAllBBrief
import Derived.Test.YthclpfhncgpnmaaGreatJointAllBView
import Derived.Test.YthclpfhncgpnmaaGreatJointAllBVrow
import Derived.Test.YthclpfhncgpnmaaGreatJointAllF4
set_option linter.unusedVariables false
set_option maxRecDepth 100000
set_option maxHeartbeats 2000000
namespace Go.Proofs.YthclpfhncgpnmaaGreat
open Go Go.RowKit
open List renaming length_map→aH,getElem_mem→aD,drop_eq_getElem_cons→aL,getElem_map→dD,drop_eq_nil_of_le→aF,mem_append→aZ,mem_singleton→bH,drop_zero→aX,take_of_length_le→bJ,all_cons→cP,length_singleton→aN,append_assoc→bK,singleton_append→dV,all_nil→fP,append_nil→cU,map_cons→cG,map_nil→dR,mem_cons_of_mem→aP,mem_cons_self→aT,nodup_append→cD,replicate→aI,take_length→eX,nil_append→bO,all_eq_true→cX,range→cS,range_succ→iU,map_append→dK,map_singleton→iG,length_range→iN,length_take_of_le→bG,mem_cons→aM,not_mem_nil→aO,take_left→fI,map_map→fG,map_id→hH,map_congr_left→eF,take_add_one→dM,getElem?_eq_getElem→aG,getElem?_take→iH,getElem?_append_right→cW,getElem?_map→bM,mem_or_eq_of_mem_set→gI,getElem_set_self→cC,set_set→jK
open Nat renaming mul_le_mul→gS,mul_assoc→bN,le_mul_of_pos_right→dE,mul_one→iB,zero_le→bD,one_mul→bP,mul_comm→bL,add_zero→bQ,le_trans→bA
open Int renaming natCast_mul→bT,ofNat_lt→eC,toNat_natCast→aB,toNat→aA
open Option renaming toList_some→cM
open Go.IntKind (i8 i16 i32 i64 u8 u16 u32 u64)
open Go.Proofs.Tryz

def Qj (n:Z6) (f:Int×Int):Bool:=decide (0≤f.1)&&(decide (f.1<(n.2.1.length:Int))&&(decide (0≤f.2)&&decide (f.2<(cnt n f.1.toNat:Int))))
def Zc5 (n:Z6) (v:Int):Bool:=decide (0≤v)&&decide (v<(n.2.1.length:Int))
def Ss (n:Z6) (F:List Rc) (V:List Int):Int:=
 if F.all (Qj n)=true then if V.all (Zc5 n)=true then if (F.map (·.1)++V).Nodup then if 65536<Z4 (Zq n) then 4 else 0 else 40 else 3 else 3
section
variable {N W K:Nat} {n:Z6} (hf:Yv N n) (hs:Wr n W)
include hf hs
/-! the document -/
omit hs in
theorem Z32 (f:Int×Int):Zib n f=some (!Qj n f):=by
 have b:=hf.ev.v
 rw [Zib,Qj]
 by_cases h1:f.1<0
 ·rw [if_pos (dT h1),decide_eq_false (show ¬ 0≤f.1 by omega)];rfl
 ·rw [if_neg (dF h1),decide_eq_true (show 0≤f.1 by omega),Bool.true_and]
  by_cases h2:(n.2.1.length:Int)≤f.1
  ·rw [if_pos (dT h2),decide_eq_false (show ¬ f.1<(n.2.1.length:Int) by omega)];rfl
  ·rw [if_neg (dF h2),decide_eq_true (show f.1<(n.2.1.length:Int) by omega),Bool.true_and]
   by_cases h3:f.2<0
   ·rw [if_pos (dT h3),decide_eq_false (show ¬ 0≤f.2 by omega)];rfl
   ·have a:Zi n.2.2.1 f.1=some (n.2.2.1.getD f.1.toNat []):=by
     have:=Vq (l:=n.2.2.1) [] (j:=f.1.toNat) (by omega)
     rwa [show ((f.1.toNat:Nat):Int)=f.1 by omega] at this
    rw [if_neg (dF h3),decide_eq_true (show 0≤f.2 by omega),Bool.true_and,a,oB,Zfh]
    rw [show ((n.2.2.1.getD f.1.toNat []).length:Int)=(cnt n f.1.toNat:Int) from rfl]
    by_cases h4:f.2<(cnt n f.1.toNat:Int)
    ·rw [decide_eq_true h4,decide_eq_false (by omega)];rfl
    ·rw [decide_eq_false h4,decide_eq_true (by omega)];rfl
theorem Zv8:∀ (f v c:Nat),v≤n.2.1.length→n.2.1.length<f+v→0<c→c≤65536→Ze2 N n f (c:Int) (v:Int)=some (if 65536<c * Z4 ((Zq n).drop v) then 4 else 0)
 | 0,v,c,j,k,_,_=>by omega
 | f+1,v,c,j,k,l,m=>by
  have o:=hf.ev.v;have q:=hf.le
  have r:(Zq n).length=n.2.1.length:=by rw [Zq,aH,o]
  rw [Ze2.eq_2]
  by_cases hk:v<n.2.1.length
  ·have a:v<n.2.2.1.length:=by omega
   have p:=hs.vl _ (aD a)
   have d:=List.length_pos_iff.2 (hf.ev.ne _ (aD a))
   have t:c * n.2.2.1[v].length≤65536 * 1048576:=gS m p
   have e:(c:Int) * (n.2.2.1[v].length:Int)=((c * n.2.2.1[v].length:Nat):Int):=(bT _ _).symm
   have g:(Zq n).drop v=n.2.2.1[v].length :: (Zq n).drop (v+1):=by
    rw [aL (by omega)]
    simp only [Zq,dD]
   have i:=Zfq ((Zq n).drop (v+1)) fun s h=>Qn hf s (List.mem_of_mem_drop h)
   have b:0<c * n.2.2.1[v].length:=Nat.mul_pos l d
   rw [if_pos (dT (by omega)),Zs a,oB,e,Zp (by omega),g,Z4,← bN]
   by_cases h4:65536<((c * n.2.2.1[v].length:Nat):Int)
   ·have:c * n.2.2.1[v].length≤c * n.2.2.1[v].length * Z4 ((Zq n).drop (v+1)):=dE _ i
    rw [if_pos (dT h4),if_pos (by omega)]
   ·rw [if_neg (dF h4),wS (by omega)]
    exact Zv8 f (v+1) _ (by omega) (by omega) b (by omega)
  ·rw [if_neg (dF (by omega)),aF (by omega),Z4,iB,if_neg (by omega)]
omit hf hs in
theorem Zxd (all:List Int) (hl:all.length≤4194304) (i:Nat) (hi:i<all.length) (kk:Int→Option Int):∀ (f k:Nat),k≤i→i<f+k→all[i] ∉ all.take k→Ze1 N all (i:Int) kk f (k:Int)=if all[i] ∈ all.take i then some 40 else kk ((i:Int)+1)
 | 0,k,b,c,_=>by omega
 | f+1,k,b,c,a=>by
  rw [Ze1.eq_2]
  by_cases hk:k<i
  ·rw [if_pos (dT (by omega)),Zs hi,oB,Zs (show k<all.length by omega),oB]
   by_cases he:all[i]=all[k]
   ·have:all[i] ∈ all.take i:=by
     rw [he,List.mem_take_iff_getElem]
     exact ⟨k,by omega,rfl⟩
    rw [if_pos (dT he),if_pos this]
   ·rw [if_neg (dF he),wS (by omega)]
    refine Zxd all hl i hi kk f (k+1) (by omega) (by omega) ?_
    rw [List.take_succ_eq_append_getElem (show k<all.length by omega),aZ,bH]
    exact fun h=>h.elim a he
  ·have:k=i:=by omega
   subst this
   rw [if_neg (dF (by omega)),if_neg a,wS (by omega)]
   rfl
theorem Zxc (all:List Int) (hl:all.length≤4194304) (hNl:4194305<N):∀ (f i:Nat),i≤all.length→all.length<f+i→(all.take i).Nodup→Zbi N n all f (i:Int)=some (if all.Nodup then if 65536<Z4 (Zq n) then 4 else 0 else 40)
 | 0,i,e,g,_=>by omega
 | f+1,i,e,g,b=>by
  rw [Zbi.eq_2]
  by_cases hi:i<all.length
  ·have c:=Zxd (N:=N) all hl i hi (Zbi N n all f) N 0 (bD _) (by omega) (by simp)
   rw [show ((0:Nat):Int)=0 from rfl] at c
   have a:=Zum all i hi
   rw [if_pos (dT (by omega)),c]
   by_cases hm:all[i] ∈ all.take i
   ·have:¬ all.Nodup:=fun h=>(a.1 (h.sublist (List.take_sublist _ _))).2 hm
    rw [if_pos hm,if_neg this]
   ·rw [if_neg hm,show (i:Int)+1=((i+1:Nat):Int) by omega]
    exact Zxc all hl hNl f (i+1) (by omega) (by omega) (a.2 ⟨b,hm⟩)
  ·have j:=hf.le
   have d:=Zv8 hf hs N 0 1 (bD _) (by omega) (by decide) (by decide)
   rw [aX,bP] at d
   rw [bJ (by omega)] at b
   rw [if_neg (dF (by omega)),if_pos b]
   exact d
theorem Zxe (V:List Int) (hV:V.length≤1048576) (hNl:4194305<N):∀ (f i:Nat) (all:List Int),i≤V.length→V.length<f+i→all.length≤3145728+i→Zbh N n V f (i:Int) all=some (if (V.drop i).all (Zc5 n)=true then if (all++V.drop i).Nodup then if 65536<Z4 (Zq n) then 4 else 0 else 40 else 3)
 | 0,i,all,a,b,_=>by omega
 | f+1,i,all,a,b,d=>by
  rw [Zbh.eq_2]
  by_cases hi:i<V.length
  ·rw [if_pos (dT (by omega)),Zs hi,oB,aL hi,cP,Zc5]
   by_cases g1:V[i]<0
   ·rw [if_pos (dT g1),Zh2,if_pos rfl,decide_eq_false (show ¬ 0≤V[i] by omega)];rfl
   ·rw [if_neg (by rw [decide_eq_false g1];decide),decide_eq_true (show 0≤V[i] by omega),Bool.true_and,Zh2]
    by_cases g2:(n.2.1.length:Int)≤V[i]
    ·rw [if_pos (dT g2),decide_eq_false (show ¬ V[i]<(n.2.1.length:Int) by omega)];rfl
    ·rw [if_neg (by rw [decide_eq_false g2];decide),decide_eq_true (show V[i]<(n.2.1.length:Int) by omega),Bool.true_and,Zs hi,oB,Zz (by simp only [aN,maxLen];omega),wS (by omega),
      Zxe V hV hNl f (i+1) (all++[V[i]]) (by omega) (by omega) (by rw [nA,aN];omega),bK,dV]
  ·have c:=Zxc hf hs all (by omega) hNl N 0 (bD _) (by omega) (by simp)
   rw [if_neg (dF (by omega)),aF (by omega),fP,if_pos rfl,cU]
   exact c
theorem Zwk (F:List Rc) (V:List Int) (hF:F.length≤2097152) (hV:V.length≤1048576) (hNl:4194305<N):∀ (f i:Nat) (all:List Int),i≤F.length→F.length<f+i→all.length=i→Ze0 N n F V f all (i:Int)=some (if (F.drop i).all (Qj n)=true then if V.all (Zc5 n)=true then if (all++(F.drop i).map (·.1)++V).Nodup then if 65536<Z4 (Zq n) then 4 else 0 else 40 else 3 else 3)
 | 0,i,all,c,d,_=>by omega
 | f+1,i,all,c,d,j=>by
  rw [Ze0.eq_2]
  by_cases hi:i<F.length
  ·have e:Zib (n.1,n.2.1,n.2.2.1,n.2.2.2.1,n.2.2.2.2) (F[i].1,F[i].2)=some (!Qj n F[i]):=Z32 hf F[i]
   rw [if_pos (dT (by omega)),Zs hi,oB,e,oB,aL hi,cP,cG]
   by_cases g:Qj n F[i]=true
   ·rw [if_neg (by rw [g];decide),Zz (by simp only [aN,maxLen];omega),wS (by omega),g,Bool.true_and,Zwk F V hF hV hNl f (i+1) (all++[F[i].1]) (by omega) (by omega) (by rw [nA,aN];omega),bK all,dV]
   ·have a:Qj n F[i]=false:=by simpa using g
    rw [if_pos (by rw [a];rfl),a,Bool.false_and];rfl
  ·have b:=Zxe hf hs V hV hNl N 0 all (bD _) (by omega) (by omega)
   rw [aX] at b
   rw [if_neg (dF (by omega)),aF (by omega),fP,if_pos rfl,dR,cU]
   exact b
/-! the program -/
omit hf hs in
theorem Zu5:∀ (ss:List Nat) (c:Nat),0<c→c≤2147483647→(∀ s ∈ ss,0<s)→∃ a b,Sg (X1 ss) (c:Int)=some (a,b)∧((b=0∧a=((c * Z4 ss:Nat):Int))∨(b≠0∧65536<c * Z4 ss))
 | [],c,_,_,_=>⟨_,_,by rw [X1,dR,Sg.eq_1],.inl ⟨rfl,by rw [Z4,iB]⟩⟩
 | s :: ss,c,d,p,hs=>by
  have j:=Zfq ss fun x f=>hs x (aP _ f)
  have k:=hs s aT
  have e:Int.tdiv 2147483647 (c:Int)=((2147483647 / c:Nat):Int):=rfl
  have l:2147483647 / c≤2147483647:=Nat.div_le_self _ _
  have m:(c:Int) * (s:Int)=((c * s:Nat):Int):=(bT c s).symm
  have o:i64.wrap ((2147483647 / c:Nat):Int)=((2147483647 / c:Nat):Int):=by
   generalize 2147483647 / c=z at l ⊢
   exact Zp (by omega)
  rw [X1,cG,Sg.eq_2,Zz (by omega),e,o,Z4,← bN]
  by_cases h:2147483647 / c<s
  ·have i:2147483647<c * s:=by
    have:=(Nat.div_lt_iff_lt_mul d).1 h
    rwa [bL] at this
   have q:c * s≤c * s * Z4 ss:=dE _ j
   rw [if_pos (dT (eC.2 h))]
   exact ⟨_,_,rfl,.inr ⟨by decide,by omega⟩⟩
  ·have i:c * s≤2147483647:=by
    have:=(Nat.le_div_iff_mul_le d).1 (Nat.not_lt.1 h)
    rwa [bL] at this
   rw [if_neg (by rw [decide_eq_false fun g=>h (eC.1 g)];decide),m,Zp (by omega)]
   exact Zu5 ss (c * s) (Nat.mul_pos d k) i fun x f=>hs x (aP _ f)
omit hs in
theorem Zu4:∀ (l S:List Int) (seen:List Bool),seen.length=n.2.1.length→(∀ x ∈ l,0≤x∧x<(n.2.1.length:Int))→S.Nodup→(∀ i,i<n.2.1.length→(seen.getD i false=true↔(i:Int) ∈ S))→
  ∃ a e,S7 (X1 (Zq n)) l seen=some (a,e)∧e=(if (S++l).Nodup then if 65536<Z4 (Zq n) then 4 else 0 else 40)∧(e=0→a=X1 (Zq n))
 | [],S,seen,g,k,m,c=>by
  obtain ⟨a,b,s,p⟩:=Zu5 (Zq n) 1 (by decide) (by decide) (Qn hf)
  rw [bP] at p
  have t:Zcy (X1 (Zq n))=some (a,b):=by
   rw [Zcy,Zpw _ (Zq n) (Qn hf)];exact s
  rw [S7.eq_1,t,oB,cU,if_pos m]
  dsimp only
  rcases p with ⟨d,o⟩ | ⟨d,q⟩
  ·subst d o
   rw [if_neg (show ¬ (!decide ((0:Int)=0))=true by decide)]
   by_cases h:65536<Z4 (Zq n)
   ·rw [decide_eq_true (by omega),Zb5,if_pos rfl,if_pos h]
    exact ⟨_,_,rfl,rfl,fun h=>by cases h⟩
   ·rw [decide_eq_false (by omega),Zb5,if_neg (by decide),if_neg h]
    exact ⟨_,_,rfl,rfl,fun _=>rfl⟩
  ·rw [if_pos (by rw [decide_eq_false d];rfl),Zb5,if_pos rfl,if_pos q]
   exact ⟨_,_,rfl,rfl,fun h=>by cases h⟩
 | x :: l,S,seen,g,k,m,c=>by
  have B:=k x aT
  obtain ⟨i,rfl⟩:∃ i:Nat,x=(i:Int):=⟨x.toNat,by omega⟩
  have u:i<n.2.1.length:=by omega
  have f:=c i u
  rw [S7.eq_2,Vq false (by omega),oB]
  by_cases hm:(i:Int) ∈ S
  ·rw [if_pos (f.2 hm),if_neg (fun h=>by
    rw [cD] at h
    exact h.2.2 _ hm _ aT rfl)]
   exact ⟨_,_,rfl,rfl,fun h=>by cases h⟩
  ·have r:seen.getD i false=false:=by
    cases h:seen.getD i false with
    | false=>rfl
    | true=>exact absurd (f.1 h) hm
   rw [if_neg (by rw [r];decide),oB,aB]
   have v:=Zu4 l (S++[(i:Int)]) (seen.set i true) (by rw [nS];exact g) (fun y w=>k y (aP _ w)) (by
    rw [cD]
    refine ⟨m,by simp,fun a o b d=>?_⟩
    rw [bH] at d
    intro e
    exact hm (by rw [← d,← e];exact o)) fun j A=>by
    rw [S5 seen false i _ _ (by omega),aZ,bH]
    by_cases e:j=i
    ·rw [if_pos e]
     exact ⟨fun _=>.inr (by rw [e]),fun _=>rfl⟩
    ·rw [if_neg e,c j A]
     exact ⟨.inl,fun h=>h.elim id fun h=>absurd (by omega) e⟩
   rwa [bK,dV] at v
omit hs in
theorem Zu3:∀ (F:List Rc) (V:List Int),V.length+F.length≤4194304→Zap (X1 (Zq n)) F V=S7 (X1 (Zq n)) (V++F.map (·.1)) (aI (X1 (Zq n)).length false)
 | [],V,_=>by rw [Zap.eq_1,dR,cU]
 | f :: F,V,h=>by
  have c:=hf.ev.v;have b:=hf.le
  rw [nC] at h
  have a:V.take (aA (V.length:Int))=V:=by rw [aB,eX]
  rw [Zap.eq_2,a,Zz (by omega),Zz (by simp only [aN,maxLen];omega),Zu3 F (V++[f.1]) (by rw [nA,aN];omega),bK,cG,dV]
omit hs in
theorem Zu2 (F:List Rc) (V:List Int) (hl:V.length+F.length≤4194304):∀ l:List Int,T7 F V (X1 (Zq n)) l=if l.all (Zc5 n)=true then S7 (X1 (Zq n)) (V++F.map (·.1)) (aI (X1 (Zq n)).length false) else some ([],3)
 | []=>by
  have b:=hf.ev.v;have d:=hf.le
  have a:(X1 (Zq n)).length=n.2.1.length:=by rw [X1,Zq,aH,aH,b]
  rw [T7.eq_1,Zz (by rw [a];simp only [maxLen];omega),Zu3 hf F V hl,fP,if_pos rfl]
 | x :: l=>by
  have b:=hf.ev.v
  have a:(X1 (Zq n)).length=n.2.1.length:=by rw [X1,Zq,aH,aH,b]
  have c:=Zu2 F V hl l
  rw [a] at c
  rw [T7.eq_2,cP,Zc5,a]
  by_cases g1:x<0
  ·rw [if_pos (dT g1),Zgm,if_pos rfl,decide_eq_false (show ¬ 0≤x by omega)];rfl
  ·rw [if_neg (by rw [decide_eq_false g1];decide),decide_eq_true (show 0≤x by omega),Bool.true_and,Zgm]
   by_cases g2:(n.2.1.length:Int)≤x
   ·rw [if_pos (dT g2),decide_eq_false (show ¬ x<(n.2.1.length:Int) by omega)];rfl
   ·rw [if_neg (by rw [decide_eq_false g2];decide),decide_eq_true (show x<(n.2.1.length:Int) by omega),Bool.true_and]
    exact c
omit hs in
theorem Zu1 (F:List Rc) (V:List Int):∀ l:List Rc,Te F V (X1 (Zq n)) l=if l.all (Qj n)=true then T7 F V (X1 (Zq n)) V else some ([],3)
 | []=>by rw [Te.eq_1,fP,if_pos rfl]
 | f :: l=>by
  have e:=hf.ev.v
  have a:(X1 (Zq n)).length=n.2.1.length:=by rw [X1,Zq,aH,aH,e]
  have g:=Zu1 F V l
  rw [Te.eq_2,cP,Qj,a]
  by_cases h1:f.1<0
  ·rw [if_pos (dT h1),Q1,if_pos rfl,decide_eq_false (show ¬ 0≤f.1 by omega)];rfl
  ·rw [if_neg (dF h1),decide_eq_true (show 0≤f.1 by omega),Bool.true_and]
   by_cases h2:(n.2.1.length:Int)≤f.1
   ·rw [if_pos (dT h2),Q1,if_pos rfl,decide_eq_false (show ¬ f.1<(n.2.1.length:Int) by omega)];rfl
   ·rw [if_neg (dF h2),decide_eq_true (show f.1<(n.2.1.length:Int) by omega),Bool.true_and]
    by_cases h3:f.2<0
    ·rw [if_pos (dT h3),Q1,if_pos rfl,decide_eq_false (show ¬ 0≤f.2 by omega)];rfl
    ·have b:f.1.toNat<(Zq n).length:=by rw [Zq,aH];omega
     have c:Zi (X1 (Zq n)) f.1=some (cnt n f.1.toNat:Int):=by
      have h:=Zx7 b
      rw [show ((f.1.toNat:Nat):Int)=f.1 by omega] at h
      rw [h]
      have d:f.1.toNat<n.2.2.1.length:=by omega
      congr 2
      rw [cnt,Yb b,Yb d]
      simp only [Zq,dD]
     rw [if_neg (dF h3),decide_eq_true (show 0≤f.2 by omega),Bool.true_and,c,oB,Q1]
     by_cases h4:f.2<(cnt n f.1.toNat:Int)
     ·rw [decide_eq_true h4,decide_eq_false (by omega),if_neg (by decide),Bool.true_and]
      exact g
     ·rw [decide_eq_false h4,decide_eq_true (by omega),if_pos rfl];rfl
theorem Z21 (hr:Xa N (8 * W+40)) (hN:4194305<N) (F:List Rc) (V:List Int) (hF:F.length≤2097152) (hV:V.length≤1048576):
  ∃ a,T6 N n F V=some (a,Ss n F V)∧(Ss n F V=0→a=X1 (Zq n)):=by
 have k:=hf.ev.v;have s:=hf.le
 have b:(X1 (Zq n)).length=n.2.1.length:=by rw [X1,Zq,aH,aH,k]
 have l:Tf N (n.1,n.2.1,n.2.2.1,n.2.2.2.1,n.2.2.2.2)=some 0:=Zn7 hf hs hr (by omega)
 have m:Zd0 (n.1,n.2.1,n.2.2.1,n.2.2.2.1,n.2.2.2.2)=some (X1 (Zq n)):=by
  have:=Zon n.2.2.1 [] (by simp only [nN];omega)
  rw [bO] at this
  rw [Zd0];exact this
 rw [T6,l,oB,if_neg (by decide),m,oB,Zu1 hf,Ss]
 by_cases g1:F.all (Qj n)=true
 ·rw [if_pos g1,if_pos g1,Zu2 hf F V (by omega)]
  by_cases g2:V.all (Zc5 n)=true
  ·rw [if_pos g2,if_pos g2]
   have d:∀ x ∈ V++F.map (·.1),0≤x∧x<(n.2.1.length:Int):=fun x o=>by
    rcases aZ.1 o with h | h
    ·have:=cX.1 g2 x h
     simp only [Zc5,Bool.and_eq_true,decide_eq_true_eq] at this
     exact this
    ·obtain ⟨f,g,rfl⟩:=List.mem_map.1 h
     have:=cX.1 g1 f g
     simp only [Qj,Bool.and_eq_true,decide_eq_true_eq] at this
     exact ⟨this.1,this.2.1⟩
   obtain ⟨a,e,p,c,q⟩:=Zu4 hf (V++F.map (·.1)) [] (aI (X1 (Zq n)).length false) (by rw [List.length_replicate,b]) d List.nodup_nil fun i r=>by
    rw [List.getD_eq_getElem?_getD,List.getElem?_replicate,b,if_pos r]
    simp
   have j:(V++F.map (·.1)).Nodup↔(F.map (·.1)++V).Nodup:=List.perm_append_comm.nodup_iff
   rw [bO] at c
   simp only [j] at c
   subst c
   exact ⟨a,p,q⟩
  ·rw [if_neg g2,if_neg g2]
   exact ⟨_,rfl,fun h=>by cases h⟩
 ·rw [if_neg g1,if_neg g1]
  exact ⟨_,rfl,fun h=>by cases h⟩
theorem Z2z (hr:Xa N (8 * W+40)) (hN:4194305<N) (F:List Rc) (V:List Int) (hF:F.length≤2097152) (hV:V.length≤1048576) (hR:Zcn N n=some 0):
  Tj N n F V=some (Ss n F V)∧∃ a,T6 N n F V=some (a,Ss n F V)∧(Ss n F V=0→a=X1 (Zq n)):=by
 have d:=hf.ev.v;have c:=hf.le
 refine ⟨?_,Z21 hf hs hr hN F V hF hV⟩
 have b:Zcn N (n.1,n.2.1,n.2.2.1,n.2.2.2.1,n.2.2.2.2)=some 0:=hR
 have h:=Zwk hf hs F V hF hV hN N 0 [] (bD _) (by omega) rfl
 rw [aX,bO] at h
 rw [Tj,b,oB,if_neg (by decide)]
 exact h
end
/-! the probability is the interval's length -/
/-! a common denominator -/
def Zcq (N:Nat) (aa:R0):Nat→Ra→R8→R2→Bool→Option (Ra×R8)
  | 0,_,_,_,_=>none
  | ag+1,ad,ae,ac,ah=>if ah=true then (Zv ((ad.length+[ac].length) * 24≤140737488355328∧ad.length+[ac].length≤maxLen) ((Zh1 N (aa.1,aa.2.1,aa.2.2.1,aa.2.2.2.1,aa.2.2.2.2) ac).bind fun ab=>Zv ((ae.length+[((ab.1.1,ab.1.2),ab.2)].length) * 56≤140737488355328∧ae.length+[((ab.1.1,ab.1.2),ab.2)].length≤maxLen) ((Zh7 N (aa.1,aa.2.1,aa.2.2.1,aa.2.2.2.1,aa.2.2.2.2) ac).bind fun af=>(Zcq N aa ag) (ad++[ac]) (ae++[((ab.1.1,ab.1.2),ab.2)]) af.1 af.2))) else (some (ad,ae))
def Zbf (N:Nat) (aa:R0):Option (Ra×R8):=
  (Tj N (aa.1,aa.2.1,aa.2.2.1,aa.2.2.2.1,aa.2.2.2.2) ([]:List Rc) ([]:List Int)).bind fun ab=>if (!decide (ab=0))=true then (some (([]:List R2),([]:List R1))) else (Zv (aa.2.1.length * 8≤281474976710656∧aa.2.1.length≤maxLen) (Zcq N aa N ([]:List R2) ([]:List R1) (aI aa.2.1.length (0:Int)) true))
theorem Z0o {N ay az a0 a1:Nat} {a2 a3 a4 a5:Option Addr} {col:Zd} {w0:World} {ac:R0} {r:(Ra×R8)} (c1 c2:Nat) (hm:Zbf N ac=some r) (am:Sl Za.str col w0 a2 ay ac.2.1) (an:Sl rV col w0 a3 az ac.2.2.1) (ao:Sl rP col w0 a4 a0 ac.2.2.2.1) (ap:Sl (Za.slice rQ) col w0 a5 a1 ac.2.2.2.2):
    Calls prog 7 #[(.agg #[.string ac.1,.slice a2 ac.2.1.length ay,.slice a3 ac.2.2.1.length az,.slice a4 ac.2.2.2.1.length a0,.slice a5 ac.2.2.2.2.length a1])] w0 (fun e w'=>∃ col' ra1 rc2 ra4 rc5,e= .returned (.tuple #[.slice ra1 r.1.length rc2,.slice ra4 r.2.length rc5])∧Zk col w0 col' w'∧Zb rP 36 c1 col' w' ra1 rc2 r.1∧Zb (rO 45) 42 c2 col' w' ra4 rc5 r.2):=by
 refine Zdk 2 3 (m:=34) (args:=[(.agg #[.string ac.1,.slice a2 ac.2.1.length ay,.slice a3 ac.2.2.1.length az,.slice a4 ac.2.2.2.1.length a0,.slice a5 ac.2.2.2.2.length a1])]) func7 rfl rfl rfl rfl rfl ?_;rw [Zbf.eq_1] at hm;have aa:=St.start col w0;refine go ?_;refine Xf (col:=(Zg col)) 1 rfl ?_;intro bu bv bd bw ab;refine go ?_;refine lV _ (Xh isAgg27 sizeOf27 ab) ?_;obtain ⟨ca,bx,hm⟩:=bZ hm;replace am:=am.k0;replace an:=an.k0;replace ao:=ao.k0;replace ap:=ap.k0;replace aa:=aa.grow bw;refine Zh (Zq5 bx (am.ks aa) (an.ks aa) (ao.ks aa) (ap.ks aa) Sl.nil Sl.nil) fun _ bk ⟨e',a6⟩=>⟨_,e',?_⟩;replace a6:Zk bd bv bd bk:=.of_below a6;refine go ?_;replace ab:=ab.gr a6;replace aa:=aa.grow a6;refine Zl hm (fun hb hm=>go ?_) fun hb hm=>go ?_
 ·cases hm;exact ⟨rfl,_,none,0,none,0,rfl,aa.fin (cm []),Zb.nil,Zb.nil⟩
 refine Zy ab ?_;refine go ?_;obtain ⟨bm,hm⟩:=Zx hm;refine Ty (col:=bd) (w:=bk) (r:=rI) (n:=ac.2.1.length) (x0:=0) 2 rfl underlying36 Tryz.t3 rfl rfl rfl rfl rfl rfl rfl bm.1 bm.2 (Zag .i64 0) ?_;intro cb cc cd bn bz;refine go ?_;replace ab:=ab.gr bn;replace aa:=aa.grow bn;refine Zt [1,1000000] (fun n f aj=>∃ ai be bf a7 bg bh a8 aq ar ah bi ak,ak=n∧Zcq N ac ak a7 a8 ah bi=some r∧St w0 (Zg col) ai aj∧Ze 27 1 ai aj bu #[.string ac.1,.slice a2 ac.2.1.length ay,.slice a3 ac.2.2.1.length az,.slice a4 ac.2.2.2.1.length a0,.slice a5 ac.2.2.2.2.length a1]∧Zb rP 36 3 ai aj be bf a7∧Zb (rO 45) 42 4 ai aj bg bh a8∧Zb rI 3 2 ai aj aq ar ah∧[4,5,6,7].map f=[.slice be a7.length bf,.slice bg a8.length bh,.slice aq ah.length ar,.bool bi]) N ⟨_,none,0,_,none,0,_,_,_,_,_,_,rfl,hm,aa,ab,Zb.nil,Zb.nil,bz,rfl⟩ ?_;clear hm;intro n f aj hI;obtain ⟨ai,be,bf,a7,bg,bh,a8,aq,ar,ah,bi,ak,hn,hm,aa,ab,al,ae,ad,hs⟩:=hI;subst hn;refine .lL [4,5,6,7] hs ?_
 cases ak with
 | zero=>rw [Zcq.eq_1] at hm;cases hm
 | succ ak=>
  rw [Zcq.eq_2] at hm;refine go ?_;refine Zl hm (fun hb hm=>go ?_) fun hb hm=>go ?_
  ·replace ae:=ae.froz 2;replace ad:=(ad).toSlF (Zm.int .i64);replace al:=al.froz 2;replace ab:=ab.froz 2;replace aa:=aa.froz 2 (by decide) (by decide);refine Tx (col:=(Yo 2 ai)) (r:=rP) (xs:=[ah]) [.slice aq ah.length ar] 5 (Wl.ofF (Rows.consF (r:=rP) (x:=ah) (cs:=[.slice aq ah.length ar]) (Zpo ad) Rows.nil0)) ?_;intro ce cf cg au b0;obtain ⟨b1,hm⟩:=Zx hm;replace al:=al.gr au;refine Y9 al (b0.srcN NB.slice) b1 ?_;intro ch ci cj ck a9 ag;refine go ?_;replace ab:=(ab.gr au).kpp a9;refine lV _ (Xh isAgg27 sizeOf27 ab)<|Y8 rfl ?_;obtain ⟨af,b2,hm⟩:=bZ hm;replace ad:=(ad.gr au).kpp a9;replace aa:=(aa.grow au).kpp a9;refine Zh (Z0p 6 7 b2 (am.ks aa) (an.ks aa) (ao.ks aa) (ap.ks aa) ad) fun _ cl ⟨b3,bo,bp,bq,br,e',av,b4,b5⟩=>⟨_,e',?_⟩;have b6:=X0.join (X0.joinL (Zaf af.1.1) b4.has) b5.has (by decide) (by decide);replace ad:=ad.gr av;replace ad:=ad.recol 7 6;replace ag:=ag.gr av;replace ag:=ag.recol 7 6;replace ae:=((ae.gr au).kpp a9).gr av;replace ae:=ae.recol 7 6;replace ab:=ab.gr av;replace ab:=ab.recol 7 6;replace aa:=aa.grow av;replace aa:=aa.recol 7 6 (by decide) (by decide);refine Tx (col:=(Xr 7 6 b3)) (r:=(rO 45)) (xs:=[((af.1.1,af.1.2),af.2)]) [(.agg #[.bool af.1.1,.slice bo af.1.2.length bp,.slice bq af.2.length br])] 6 (Wl.cons1 (cs:=[.bool af.1.1,.slice bo af.1.2.length bp,.slice bq af.2.length br]) b6 Rows.nil0) ?_;intro cn co cp aw b7;obtain ⟨b8,hm⟩:=Zx hm;replace ae:=ae.gr aw;refine Y9 (c:=4) (c2:=6) ae (b7.srcC (by decide)) b8 ?_;intro cq cr ct cu ba ax;refine go ?_;replace ab:=(ab.gr aw).kpp ba;refine lV _ (Xh isAgg27 sizeOf27 ab)<|Y8 rfl ?_;obtain ⟨bb,b9,hm⟩:=bZ hm;replace aa:=(aa.grow aw).kpp ba;refine Zh (Z0u 8 b9 (am.ks aa) (an.ks aa) (ao.ks aa) (ap.ks aa) ((ad.gr aw).kpp ba)) fun _ cv ⟨cw,bs,bt,e',bc,bj⟩=>⟨_,e',?_⟩
   refine lM (.tuple #[.slice bs bb.1.length bt,.bool bb.2])<|lV (.slice bs bb.1.length bt) (X6 rfl rfl)<|lV (.bool bb.2) (X6 rfl rfl)<|go ?_;replace ag:=((ag.gr aw).kpp ba).gr bc;replace ax:=ax.gr bc;replace bj:=bj.recolSelf 2 (by decide);replace ab:=ab.gr bc;replace aa:=aa.grow bc;replace aa:=aa.recol 8 2 (by decide) (by decide);exact ⟨ak,by omega,rfl,⟨_,_,_,_,_,_,_,_,_,_,_,_,rfl,hm,aa,ab.recol 8 2,ag.recol 8 2,ax.recol 8 2,bj,rfl⟩⟩
  cases hm;exact ⟨rfl,_,_,_,_,_,rfl,aa.fin (cm [(3,c1),(4,c2)]),aa.fo al,aa.fo ae⟩
def Zac (n:Z6) (k:Nat):Rat:=Ui n (Ye (Zq n) k) n.2.1.length 0 1
section
variable {N W K:Nat} {n:Z6} (hf:Yv N n)
include hf
theorem Z5i {w:List Int} (hw:Su (Zq n) w) (hP:Z4 (Zq n)≤65536) (hN:2000000<N):Zh7 N n w=some (if Wo (Zq n) w+1<Z4 (Zq n) then (Ye (Zq n) (Wo (Zq n) w+1),true) else ([],false)):=by
 have b:=hf.le;have a:=hf.ev.v
 obtain ⟨d,_⟩:=Zr3 hw
 have c:(Zq n).length=n.2.1.length:=by rw [Zq,aH,a]
 have h:=Zwx hf hw hP w.length N (Nat.le_refl _) (by omega) (by
  rw [aF (by omega),List.drop_length];rfl)
 rw [eX,Nat.sub_self,List.replicate_zero,cU] at h
 rw [Zh7,Zz (by simp only [nN,maxLen];omega),bO,Zp (by omega)]
 exact h
variable (hs:Wr n W) (hr:Xa N (8 * K+40)) (hWK:1025 * (W+2)+15≤K) (hN:4611686018427387903<N) (hP:Z4 (Zq n)≤65536)
include hs hr hWK hN hP
theorem Zv3:∀ (m k f:Nat),k+(m+1)=Z4 (Zq n)→m+1<f→Zcq N n f ((cS k).map (Ye (Zq n))) ((cS k).map fun j=>Xc (Zac n j)) (Ye (Zq n) k) true=some ((cS (Z4 (Zq n))).map (Ye (Zq n)),(cS (Z4 (Zq n))).map fun j=>Xc (Zac n j))
 | m,k,0,_,h=>by omega
 | m,k,f+1,i,l=>by
  have a:=Zlk (Zq n) k (Qn hf) (by omega)
  have b:Zh1 N (n.1,n.2.1,n.2.2.1,n.2.2.2.1,n.2.2.2.2) (Ye (Zq n) k)=some (Xc (Zac n k)):=Z43 hf (Zll hf a) hs hr (by omega) (by omega)
  have c:Zh7 N (n.1,n.2.1,n.2.2.1,n.2.2.2.1,n.2.2.2.2) (Ye (Zq n) k)=_:=Z5i hf a hP (by omega)
  have d:(cS k).map (Ye (Zq n))++[Ye (Zq n) k]=(cS (k+1)).map (Ye (Zq n)):=by rw [iU,dK,iG]
  have e:((cS k).map fun j=>Xc (Zac n j))++[Xc (Zac n k)]=(cS (k+1)).map fun j=>Xc (Zac n j):=by rw [iU,dK,iG]
  rw [Zcq.eq_2,if_pos rfl,Zz (by simp only [aH,iN,aN,maxLen];omega),b,oB,Zz (by simp only [aH,iN,aN,maxLen];omega),c,oB,Zu6 (Zq n) k (Qn hf) (by omega)]
  cases m with
  | zero=>
   rw [if_neg (by omega)]
   obtain ⟨f,rfl⟩:∃ f',f=f'+1:=⟨f - 1,by omega⟩
   rw [Zcq.eq_2]
   dsimp only
   rw [if_neg (by decide),d,← i]
   exact congrArg (fun z=>some ((cS (k+1)).map (Ye (Zq n)),z)) e
  | succ m=>
   rw [if_pos (by omega),d]
   dsimp only
   have g:=Zv3 m (k+1) f (by omega) (by omega)
   rw [← e] at g
   exact g
theorem Z40 (hA:Tj N n [] []=some 0):Zbf N n=some ((cS (Z4 (Zq n))).map (Ye (Zq n)),(cS (Z4 (Zq n))).map fun j=>Xc (Zac n j)):=by
 have a:Tj N (n.1,n.2.1,n.2.2.1,n.2.2.2.1,n.2.2.2.2) [] []=some 0:=hA
 have i:=hf.le;have c:=hf.ev.v
 have d:=Zfq (Zq n) (Qn hf)
 have h:=Zv3 hf hs hr hWK hN hP (Z4 (Zq n) - 1) 0 N (by omega) (by omega)
 have e:Ye (Zq n) 0=aI n.2.1.length 0:=by
  have f:(Zq n).length=n.2.1.length:=by rw [Zq,aH,c]
  rw [← f]
  generalize Zq n=b
  induction b with
  | nil=>rfl
  | cons s b g=>rw [Ye,Nat.zero_div,Nat.zero_mod,g,nC,List.replicate_succ];rfl
 rw [e] at h
 rw [Zbf,a,oB,if_neg (by decide),Zz (by simp only [maxLen];omega)]
 exact h
variable (h6:Z4 (Zq n)≤600)
include h6
end
theorem Zu9 {N W:Nat} {n:Z6} {w:List Int} (hf:Yv N n) (hs:Wr n W) (hw:Tb n w):∀ (m k:Nat) (q:Rat),k+m=n.2.1.length→qs q≤k * (W+1)+1→qs (Ui n w m k q)≤(k+m) * (W+1)+1
 | 0,k,q,_,h=>h
 | m+1,k,q,a,h=>by
  have b:=Zog hf hw hs (k:=k) (by omega)
  have c:=Zph q (Vt n w k)
  have:=Zu9 hf hs hw m (k+1) (q * Vt n w k) (by omega) (by rw [Nat.add_mul,bP];omega)
  rw [Ui,show k+(m+1)=k+1+m by omega]
  exact this
def Zh3 (aa:R1):Option ((Bool×R6)×R6):=
  Zv ((([]:List Int).length+aa.1.2.length) * 4≤140737488355328∧([]:List Int).length+aa.1.2.length≤maxLen) (Zv (((([]:List Int)++aa.1.2).length+[901,902].length) * 4≤140737488355328∧(([]:List Int)++aa.1.2).length+[901,902].length≤maxLen) (Zv ((([]:List Int).length+aa.2.length) * 4≤140737488355328∧([]:List Int).length+aa.2.length≤maxLen) (Zv (((([]:List Int)++aa.2).length+[903,904].length) * 4≤140737488355328∧(([]:List Int)++aa.2).length+[903,904].length≤maxLen) (Zv ((0:Int)≤(aa.1.2.length:Int)∧(aa.1.2.length:Int)≤(((([]:List Int)++aa.1.2)++[901,902]).length:Int)) (Zv ((0:Int)≤(aa.2.length:Int)∧(aa.2.length:Int)≤(((([]:List Int)++aa.2)++[903,904]).length:Int)) (some ((aa.1.1,((aA (aa.1.2.length:Int)),(([]:List Int)++aa.1.2)++[901,902])),((aA (aa.2.length:Int)),(([]:List Int)++aa.2)++[903,904]))))))))
theorem Z0q {a1 a2:Nat} {a3 a4:Option Addr} {col:Zd} {w0:World} {aa:R1} {r:((Bool×R6)×R6)} (c1 c2:Nat) (hm:Zh3 aa=some r) (ao:Sl rU col w0 a3 a1 aa.1.2) (ap:Sl rU col w0 a4 a2 aa.2):
    Calls prog 35 #[(.agg #[.bool aa.1.1,.slice a3 aa.1.2.length a1,.slice a4 aa.2.length a2])] w0 (fun e w'=>∃ col' ra1 rc2 ra4 rc5,e= .returned ((.agg #[.bool r.1.1,.slice ra1 ((r.1.2.2.take r.1.2.1).length) rc2,.slice ra4 ((r.2.2.take r.2.1).length) rc5]))∧Zk col w0 col' w'∧Zb rU 45 c1 col' w' ra1 rc2 r.1.2.2∧Zb rU 45 c2 col' w' ra4 rc5 r.2.2):=by
 refine Yw (m:=36) func35 rfl rfl rfl ?_;rw [Zh3.eq_1] at hm;have ab:=St.start col w0;refine go ?_;refine Xf (col:=(Zg col)) 1 rfl ?_;intro bh bi a6 a7 ac;refine Xt (col:=a6) #[.bool false,(nI),(nI)] 2 zeroValue42 ?_;intro bj bk bm a5 aq;refine go ?_;refine Z9 ⟨_,_,rfl⟩ ?_;refine Z9 (Wg ⟨_,_,rfl⟩) ?_;replace ac:=ac.gr a5;refine lW ((((ac.atN).part 0 2 _ rfl)).nth (q:=1) rfl) ?_;obtain ⟨a8,hm⟩:=Zx hm;replace ab:=(ab.grow a7).grow a5;refine Y9 (c:=3) Zb.nil (ao.k0.ks ab).srcC a8 ?_;intro bn bo bp a9 ar au;refine go ?_;refine Wt (col:=a9) [901,902] 4 ?_;intro bq br bs aj ba;obtain ⟨bb,hm⟩:=Zx hm;refine Y9 (au.gr aj) (ba.srcN (NB.int (k:=.u32))) bb ?_;intro ag ah bt bu av ad;refine go ?_;refine Z9 ⟨_,_,rfl⟩ ?_;replace ac:=((ac.kpp ar).gr aj).kpp av;refine lW ((ac.atN).nth (q:=2) rfl) ?_;obtain ⟨bc,hm⟩:=Zx hm;replace ab:=((ab.kpp ar).grow aj).kpp av;refine Y9 (c:=5) Zb.nil (ap.k0.ks ab).srcC bc ?_;intro bv bw bx bd ak aw;refine go ?_;refine Wt (col:=bd) [903,904] 6 ?_;intro bz b0 b1 ai be;obtain ⟨bf,hm⟩:=Zx hm;refine Y9 (aw.gr ai) (be.srcN (NB.int (k:=.u32))) bf ?_;intro al am b2 ae an af;refine go ?_;refine Wc (col:=ae) [(0,1),(1,1),(2,0),(3,1),(4,1),(5,1),(6,0),(7,1),(8,1),(9,1),(10,1),(11,1),(12,0),(13,1),(14,1),(15,1),(16,2)] (by kernel_rfl) (by kernel_rfl)<|xF ⟨_,_,rfl⟩ ?_;refine xF (Wg ⟨_,_,rfl⟩) ?_;replace ac:=((ac.kpp ak).gr ai).kpp an;refine xW (fun _ hC=>((((ac.atN).part 0 2 _ rfl)).nth (q:=0) rfl).gr (hC.bl ae)) ?_;refine xu rfl rfl (fun _=>Vi rfl) ?_;refine xF ⟨_,_,rfl⟩ ?_;refine xF (Wg ⟨_,_,rfl⟩) ?_;refine xW (fun _ hC=>((((ac.atN).part 0 2 _ rfl)).nth (q:=1) rfl).gr (hC.bl ae)) ?_;refine xu rfl rfl (fun _=>Uv underlying38 rfl) ?_;obtain ⟨ax,hm⟩:=Zx hm;replace ad:=((ad.kpp ak).gr ai).kpp an;refine xu (v:=.slice ag (aA (aa.1.2.length:Int)) ah) rfl rfl (fun _=>V8 underlying38 sizeOf45 rfl rfl ax.1 (by have:=ad.lecap;have:=ax.2;omega)) ?_;refine .ld (d:=28) (v:=(.slice ag ((((([]:List Int)++aa.1.2)++[901,902]).take (aA (aa.1.2.length:Int))).length) ah)) (congrArg (fun n=>Value.slice ag n ah) (bG (show (aA (aa.1.2.length:Int))≤((([]:List Int)++aa.1.2)++[901,902]).length by have:=ax.2;omega)).symm) ?_
 refine xu (v:=(.agg #[.bool aa.1.1,(.slice ag ((((([]:List Int)++aa.1.2)++[901,902]).take (aA (aa.1.2.length:Int))).length) ah)])) rfl rfl (fun _=>Wz (l:=[_,_]) (qs:=[(0,1),(1,1)]) underlying40 zeroValue40 ⟨rfl,sizeOf4,rfl,sizeOf38,trivial⟩ rfl) ?_;refine xu rfl rfl (fun _=>Vi rfl) ?_;refine xF ⟨_,_,rfl⟩ ?_;refine xW (fun _ hC=>((ac.atN).nth (q:=2) rfl).gr (hC.bl ae)) ?_;refine xu rfl rfl (fun _=>Uv underlying38 rfl) ?_;obtain ⟨ay,hm⟩:=Zx hm;refine xu (v:=.slice al (aA (aa.2.length:Int)) am) rfl rfl (fun _=>V8 underlying38 sizeOf45 rfl rfl ay.1 (by have:=af.lecap;have:=ay.2;omega)) ?_;refine .ld (d:=34) (v:=(.slice al ((((([]:List Int)++aa.2)++[903,904]).take (aA (aa.2.length:Int))).length) am)) (congrArg (fun n=>Value.slice al n am) (bG (show (aA (aa.2.length:Int))≤((([]:List Int)++aa.2)++[903,904]).length by have:=ay.2;omega)).symm) ?_;refine xu (v:=(.agg #[.bool aa.1.1,(.slice ag ((((([]:List Int)++aa.1.2)++[901,902]).take (aA (aa.1.2.length:Int))).length) ah),(.slice al ((((([]:List Int)++aa.2)++[903,904]).take (aA (aa.2.length:Int))).length) am)])) rfl rfl (fun _=>Wz (l:=[_,_]) (qs:=[(0,2),(2,1)]) underlying42 zeroValue42 ⟨rfl,sizeOf40,rfl,sizeOf38,trivial⟩ rfl) ?_;refine xe rfl rfl ?_;intro b3 hC0;have hC:=hC0.bl ae;refine Xg (((((((aq.kpp ar).gr aj).kpp av).kpp ak).gr ai).kpp an).gr hC) ?_;intro b4 az bg a0;refine Zj<|xk ae<|Y4 ?_;replace ab:=((((ab.kpp ak).grow ai).kpp an).grow hC).kp az bg;replace ad:=(ad.gr hC).kp az;replace af:=(af.gr hC).kp az;intro b5 hC;replace hC:=hC.bl ae;refine Y1 ?_;cases hm;replace ab:=ab.grow hC;exact ⟨rfl,_,ra (a0.gr hC).atN,_,_,_,_,_,rfl,ab.fin (cm [(3,c1),(5,c2)]),ab.fo (ad.gr hC),ab.fo (af.gr hC)⟩
theorem Z2d:Y6 prog 9 1 16:=⟨Tryz.t9,_,rfl,rfl,rfl,rfl,rfl⟩
theorem Z12:Y6 prog 22 1 24:=⟨Tryz.t22,_,rfl,rfl,rfl,rfl,rfl⟩
theorem Z14:Y6 prog 29 1 24:=⟨Tryz.t29,_,rfl,rfl,rfl,rfl,rfl⟩
theorem Z16:Y6 prog 36 1 24:=⟨Tryz.t36,_,rfl,rfl,rfl,rfl,rfl⟩
def Ze8 (N:Nat) (ah:R0) (ai:ByteArray) (aj:List ByteArray) (ak:List R7) (al:List R6) (ad:List Rb) (ae:Int) (kk_L3:(ByteArray→R4→(List R7)→(List R6)→(List Rb)→Int→Option R3)):Nat→Int→(List ((Bool×R6)×R6))→Option R3
  | 0,_,_=>none
  | am+1,af,ab=>(Zi ah.2.2.2.2 ae).bind fun ac=>if (decide (af<(ac.length:Int)))=true then ((Zi ac af).bind fun ag=>(Zh3 ((ag.1.1,ag.1.2),ag.2)).bind fun aa=>Zv ((ab.length+[((aa.1.1,(aa.1.2.1,aa.1.2.2)),(aa.2.1,aa.2.2))].length) * 56≤140737488355328∧ab.length+[((aa.1.1,(aa.1.2.1,aa.1.2.2)),(aa.2.1,aa.2.2))].length≤maxLen) ((Ze8 N ah ai aj ak al ad ae kk_L3 am) (i64.wrap (af+1)) (ab++[((aa.1.1,(aa.1.2.1,aa.1.2.2)),(aa.2.1,aa.2.2))]))) else (Zv ((ab.length+[((false,(0,([]:List Int))),([97].length,[97])),((false,(0,([]:List Int))),([98].length,[98]))].length) * 56≤140737488355328∧ab.length+[((false,(0,([]:List Int))),([97].length,[97])),((false,(0,([]:List Int))),([98].length,[98]))].length≤maxLen) (Zv ((0:Int)≤(ac.length:Int)∧(ac.length:Int)≤((ab++[((false,(0,([]:List Int))),([97].length,[97])),((false,(0,([]:List Int))),([98].length,[98]))]).length:Int)) (Zv ((ad.length+[((aA (ac.length:Int)),ab++[((false,(0,([]:List Int))),([97].length,[97])),((false,(0,([]:List Int))),([98].length,[98]))])].length) * 24≤140737488355328∧ad.length+[((aA (ac.length:Int)),ab++[((false,(0,([]:List Int))),([97].length,[97])),((false,(0,([]:List Int))),([98].length,[98]))])].length≤maxLen) (kk_L3 ai aj ak al (ad++[((aA (ac.length:Int)),ab++[((false,(0,([]:List Int))),([97].length,[97])),((false,(0,([]:List Int))),([98].length,[98]))])]) (i64.wrap (ae+1))))))
def Zct (N:Nat) (aa:R0):Nat→ByteArray→R4→(List R7)→(List R6)→(List Rb)→Int→Option R3
  | 0,_,_,_,_,_,_=>none
  | ah+1,ab,ac,ad,ae,af,ag=>if (decide (ag<(aa.2.2.2.2.length:Int)))=true then (Ze8 N aa ab ac ad ae af ag (Zct N aa ah) N 0 ([]:List ((Bool×R6)×R6))) else (some (ab,((aA (aa.2.1.length:Int)),ac),ad,ae,af))
def Ze7 (N:Nat) (ab:R0):Nat→ByteArray→R4→(List R7)→(List R6)→(List Rb)→Int→Option R3
  | 0,_,_,_,_,_,_=>none
  | ai+1,ae,af,ag,ac,ah,ad=>if (decide (ad<(ab.2.2.2.1.length:Int)))=true then ((Zi ab.2.2.2.1 ad).bind fun aa=>Zv ((([]:List Int).length+aa.length) * 8≤140737488355328∧([]:List Int).length+aa.length≤maxLen) (Zv (((([]:List Int)++aa).length+[(-95),(-96)].length) * 8≤140737488355328∧(([]:List Int)++aa).length+[(-95),(-96)].length≤maxLen) (Zv ((0:Int)≤(aa.length:Int)∧(aa.length:Int)≤(((([]:List Int)++aa)++[(-95),(-96)]).length:Int)) (Zv ((ac.length+[((aA (aa.length:Int)),(([]:List Int)++aa)++[(-95),(-96)])].length) * 24≤140737488355328∧ac.length+[((aA (aa.length:Int)),(([]:List Int)++aa)++[(-95),(-96)])].length≤maxLen) ((Ze7 N ab ai) ae af ag (ac++[((aA (aa.length:Int)),(([]:List Int)++aa)++[(-95),(-96)])]) ah (i64.wrap (ad+1))))))) else (Zct N ab N ae af ag ac ah 0)
def Ze6 (N:Nat) (ab:R0):Nat→ByteArray→R4→(List R7)→(List R6)→(List Rb)→Int→Option R3
  | 0,_,_,_,_,_,_=>none
  | ai+1,ae,af,ac,ag,ah,ad=>if (decide (ad<(ab.2.2.1.length:Int)))=true then ((Zi ab.2.2.1 ad).bind fun aa=>Zv ((([]:List ByteArray).length+aa.length) * 16≤140737488355328∧([]:List ByteArray).length+aa.length≤maxLen) (Zv (((([]:List ByteArray)++aa).length+([⟨#[35,51]⟩,⟨#[35,52]⟩]:List ByteArray).length) * 16≤140737488355328∧(([]:List ByteArray)++aa).length+([⟨#[35,51]⟩,⟨#[35,52]⟩]:List ByteArray).length≤maxLen) (Zv ((0:Int)≤(aa.length:Int)∧(aa.length:Int)≤(((([]:List ByteArray)++aa)++([⟨#[35,51]⟩,⟨#[35,52]⟩]:List ByteArray)).length:Int)) (Zv ((ac.length+([((aA (aa.length:Int)),(([]:List ByteArray)++aa)++([⟨#[35,51]⟩,⟨#[35,52]⟩]:List ByteArray))]:List R7).length) * 24≤140737488355328∧ac.length+([((aA (aa.length:Int)),(([]:List ByteArray)++aa)++([⟨#[35,51]⟩,⟨#[35,52]⟩]:List ByteArray))]:List R7).length≤maxLen) ((Ze6 N ab ai) ae af (ac++([((aA (aa.length:Int)),(([]:List ByteArray)++aa)++([⟨#[35,51]⟩,⟨#[35,52]⟩]:List ByteArray))]:List R7)) ag ah (i64.wrap (ad+1))))))) else (Ze7 N ab N ae af ac ag ah 0)
def Zh5 (N:Nat) (aa:R0):Option R3:=
  Zv ((([]:List ByteArray).length+aa.2.1.length) * 16≤140737488355328∧([]:List ByteArray).length+aa.2.1.length≤maxLen) (Zv (((([]:List ByteArray)++aa.2.1).length+([⟨#[35,49]⟩,⟨#[35,50]⟩]:List ByteArray).length) * 16≤140737488355328∧(([]:List ByteArray)++aa.2.1).length+([⟨#[35,49]⟩,⟨#[35,50]⟩]:List ByteArray).length≤maxLen) (Zv ((0:Int)≤(aa.2.1.length:Int)∧(aa.2.1.length:Int)≤(((([]:List ByteArray)++aa.2.1)++([⟨#[35,49]⟩,⟨#[35,50]⟩]:List ByteArray)).length:Int)) (Ze6 N aa N aa.1 ((([]:List ByteArray)++aa.2.1)++([⟨#[35,49]⟩,⟨#[35,50]⟩]:List ByteArray)) ([]:List R7) ([]:List R6) ([]:List Rb) 0)))
theorem Z0s {N b5 b6 b7 b8:Nat} {b9 ca cb cc:Option Addr} {col:Zd} {w0:World} {ac:R0} {r:R3} (c1 c2 c3 c4:Nat) (hm:Zh5 N ac=some r) (ek:Sl Za.str col w0 b9 b5 ac.2.1) (cd:Sl rV col w0 ca b6 ac.2.2.1) (ce:Sl rP col w0 cb b7 ac.2.2.2.1) (bi:Sl (Za.slice rQ) col w0 cc b8 ac.2.2.2.2):
    Calls prog 8 #[(.agg #[.string ac.1,.slice b9 ac.2.1.length b5,.slice ca ac.2.2.1.length b6,.slice cb ac.2.2.2.1.length b7,.slice cc ac.2.2.2.2.length b8])] w0 (fun e w'=>∃ col' ra1 rc2 ra4 rc5 ra7 rc8 ra10 rc11,e= .returned ((.agg #[.string r.1,.slice ra1 ((r.2.1.2.take r.2.1.1).length) rc2,.slice ra4 r.2.2.1.length rc5,.slice ra7 r.2.2.2.1.length rc8,.slice ra10 r.2.2.2.2.length rc11]))∧Zk col w0 col' w'∧Zb Za.str 9 c1 col' w' ra1 rc2 r.2.1.2∧Zb (Za.vrow 9 Za.str) 22 c2 col' w' ra4 rc5 r.2.2.1∧Zb (Za.vrow 3 rI) 36 c3 col' w' ra7 rc8 r.2.2.2.1∧Zb (Za.vrow 42 (Za.pair (Za.pair Za.bool (Za.vrow 45 rU)) (Za.vrow 45 rU))) 29 c4 col' w' ra10 rc11 r.2.2.2.2):=by
 refine Yw (m:=142) func8 rfl rfl rfl ?_;rw [Zh5.eq_1] at hm;have aa:=St.start col w0;refine go ?_;refine Xf (col:=(Zg col)) 1 rfl ?_;intro dq ip f9 ga ab;refine Xt (col:=f9) #[.string (⟨#[]⟩),.slice none (([]:List ByteArray).length) 0,.slice none (([]:List R7).length) 0,.slice none (([]:List R6).length) 0,(.slice none (([]:List Rb).length) 0)] 2 zeroValue27 ?_;intro dr iq gb fm ae;refine go ?_;refine Z9 ⟨_,_,rfl⟩ ?_;replace ab:=ab.gr fm;refine lW ((ab.atN).nth (q:=0) rfl)<|lV (.agg #[.string ac.1,.slice none (([]:List ByteArray).length) 0,.slice none (([]:List R7).length) 0,.slice none (([]:List R6).length) 0,(.slice none (([]:List Rb).length) 0)]) (Wz (l:=[_,_,_,_,_]) (qs:=[(0,1),(1,1),(2,1),(3,1),(4,1)]) underlying27 zeroValue27 ⟨rfl,sizeOf9,rfl,sizeOf22,rfl,sizeOf23,rfl,sizeOf24,rfl,sizeOf25,trivial⟩ rfl)<|Xt (col:=gb) #[.string (⟨#[]⟩),.slice none (([]:List ByteArray).length) 0,.slice none (([]:List R7).length) 0,.slice none (([]:List R6).length) 0,(.slice none (([]:List Rb).length) 0)] 3 zeroValue27 ?_;intro ap ir it el gc;refine Xg gc ?_;intro iu em gd ds;refine go ?_;refine Zy ds<|Z9 ⟨_,_,rfl⟩ ?_;replace ab:=(ab.gr el).kp em;refine lW ((ab.atN).nth (q:=1) rfl) ?_;obtain ⟨ge,hm⟩:=Zx hm;replace aa:=(((aa.grow ga).grow fm).grow el).kp em gd;refine Y9 (c:=4) Zb.nil (ek.k0.ks aa).srcC ge ?_;intro fn fp iv fq dt en;refine Z9 ⟨_,_,rfl⟩ ?_;refine U1 (off:=1) (v:=(.slice fn ((([]:List ByteArray)++ac.2.1).length) fp)) (ds.kpp dt) sizeOf22 rfl rfl (by intro u hu;simp only [Value.cells,aM,aO,or_false] at hu;subst hu;rfl) rfl rfl ?_;intro gf du gg cf;replace cf:Ze 27 3 fq gf ap #[.string ac.1,.slice fn ((([]:List ByteArray)++ac.2.1).length) fp,.slice none (([]:List R7).length) 0,.slice none (([]:List R6).length) 0,(.slice none (([]:List Rb).length) 0)]:=cf;refine go ?_;refine Zy cf<|Zta (col:=fq) ([⟨#[35,49]⟩,⟨#[35,50]⟩]:List ByteArray) 5 ?_;intro iw gh gi cz gj;obtain ⟨fr,hm⟩:=Zx hm;replace en:=(en.kp du).gr cz
 refine Zak (col:=gi) (w:=gh) (r:=Za.str) (c:=4) (c2:=4) (en.ex) (gj.srcN NB.str) rfl underlying22 Z2d rfl rfl rfl fr.1 fr.2 (by decide) ?_;intro bt bu ix ft dv eo;refine Z9 ⟨_,_,rfl⟩ ?_;refine U1 (off:=1) (v:=(.slice bt (((([]:List ByteArray)++ac.2.1)++([⟨#[35,49]⟩,⟨#[35,50]⟩]:List ByteArray)).length) bu)) ((cf.gr cz).kpp dv) sizeOf22 rfl rfl (by intro u hu;simp only [Value.cells,aM,aO,or_false] at hu;subst hu;rfl) rfl rfl ?_;intro gk dw gl dx;replace dx:Ze 27 3 ft gk ap #[.string ac.1,(.slice bt (((([]:List ByteArray)++ac.2.1)++([⟨#[35,49]⟩,⟨#[35,50]⟩]:List ByteArray)).length) bu),.slice none (([]:List R7).length) 0,.slice none (([]:List R6).length) 0,(.slice none (([]:List Rb).length) 0)]:=dx;have dy:=(eo.kp dw).new;refine go ?_;refine Zy dx<|Z9 ⟨_,_,rfl⟩ ?_;replace ab:=((((ab.kpp dt).kp du).gr cz).kpp dv).kp dw;refine lW ((ab.atN).nth (q:=1) rfl)<|go ?_;obtain ⟨ep,hm⟩:=Zx hm;refine lv (v:=.slice bt (aA (ac.2.1.length:Int)) bu) rfl rfl (V8 underlying22 sizeOf9 rfl rfl ep.1 (by have:=dy.lecap;have:=ep.2;omega))<|.ld (d:=30) (v:=(.slice bt ((((([]:List ByteArray)++ac.2.1)++([⟨#[35,49]⟩,⟨#[35,50]⟩]:List ByteArray)).take (aA (ac.2.1.length:Int))).length) bu)) (congrArg (fun n=>Value.slice bt n bu) (bG (show (aA (ac.2.1.length:Int))≤((([]:List ByteArray)++ac.2.1)++([⟨#[35,49]⟩,⟨#[35,50]⟩]:List ByteArray)).length by have:=ep.2;omega)).symm) ?_;refine Z9 ⟨_,_,rfl⟩ ?_;refine U1 (off:=1) (v:=(.slice bt ((((([]:List ByteArray)++ac.2.1)++([⟨#[35,49]⟩,⟨#[35,50]⟩]:List ByteArray)).take (aA (ac.2.1.length:Int))).length) bu)) dx sizeOf22 rfl rfl (by intro u hu;simp only [Value.cells,aM,aO,or_false] at hu;subst hu;rfl) rfl rfl ?_;intro gm dz gp ad;replace ad:Ze 27 3 ft gm ap #[.string ac.1,(.slice bt ((((([]:List ByteArray)++ac.2.1)++([⟨#[35,49]⟩,⟨#[35,50]⟩]:List ByteArray)).take (aA (ac.2.1.length:Int))).length) bu),.slice none (([]:List R7).length) 0,.slice none (([]:List R6).length) 0,(.slice none (([]:List Rb).length) 0)]:=ad;refine go ?_;replace ae:=(((((((ae.gr el).kp em).kpp dt).kp du).gr cz).kpp dv).kp dw).kp dz;replace aa:=(((((aa.kpp dt).kp du gg).grow cz).kpp dv).kp dw gl).kp dz gp
 replace ab:=ab.kp dz;refine Zt [1,2,3,1000000] (fun n f a1=>∃ a2 d0 d1 d2 c0 eq er cg d3 d4 c5 d5 d6 c6 es ch,ch=n∧Ze6 N ac ch d0 c0 cg c5 c6 es=some r∧St w0 (Zg col) a2 a1∧Ze 27 1 a2 a1 dq #[.string ac.1,.slice b9 ac.2.1.length b5,.slice ca ac.2.2.1.length b6,.slice cb ac.2.2.2.1.length b7,.slice cc ac.2.2.2.2.length b8]∧Ze 27 2 a2 a1 dr #[.string (⟨#[]⟩),.slice none (([]:List ByteArray).length) 0,.slice none (([]:List R7).length) 0,.slice none (([]:List R6).length) 0,(.slice none (([]:List Rb).length) 0)]∧Zb Za.str 9 4 a2 a1 d1 d2 c0∧Zb (Za.vrow 9 Za.str) 22 6 a2 a1 eq er cg∧Zb (Za.vrow 3 rI) 36 7 a2 a1 d3 d4 c5∧Zb (Za.vrow 42 (Za.pair (Za.pair Za.bool (Za.vrow 45 rU)) (Za.vrow 45 rU))) 29 8 a2 a1 d5 d6 c6∧Ze 27 3 a2 a1 ap #[.string d0,(.slice d1 ((c0.take (aA (ac.2.1.length:Int))).length) d2),.slice eq cg.length er,.slice d3 c5.length d4,.slice d5 c6.length d6]∧[4].map f=[.int .i64 es]) N ⟨_,_,_,_,_,none,0,_,none,0,_,none,0,_,0,_,rfl,hm,aa,ab,ae,dy.kp dz,Zb.nil,Zb.nil,Zb.nil,ad,rfl⟩ ?_;clear hm;intro n f a1 hI;obtain ⟨a2,d0,d1,d2,c0,eq,er,cg,d3,d4,c5,d5,d6,c6,es,ch,hn,hm,aa,ab,ae,aq,ci,ar,au,ad,hs⟩:=hI;subst hn;refine .lL [4] hs ?_;replace cd:=cd.k0;replace ce:=ce.k0;replace bi:=bi.k0
 cases ch with
 | zero=>rw [Ze6.eq_1] at hm;cases hm
 | succ ch=>
  rw [Ze6.eq_2] at hm;refine go ?_;refine Zy ab ?_;refine go ?_;refine Zl hm (fun hb hm=>go ?_) fun hb hm=>go ?_
  ·refine Zy ab<|Xe rfl ?_;obtain ⟨ak,bv,hm⟩:=bZ hm;refine lI bv ((cd.ks aa).addr bv) ?_;obtain ⟨_,gs,gt⟩:=(cd.ks aa).atN bv;obtain ⟨⟨iy,iz,rfl,gu⟩,_⟩:=gs;refine lW gt.one ?_;obtain ⟨gv,hm⟩:=Zx hm;refine Y9 (c:=9) Zb.nil gu.srcC gv ?_;intro i0 i1 i2 gw bj et;refine go ?_;refine Zta (col:=gw) ([⟨#[35,51]⟩,⟨#[35,52]⟩]:List ByteArray) 10 ?_;intro i3 i4 i5 a3 gx;obtain ⟨gy,hm⟩:=Zx hm;refine Y9 (et.gr a3) (gx.srcN NB.str) gy ?_;intro c7 c8 i6 cj bk d7;refine go ?_;refine Wc (col:=cj) [(0,1),(1,0),(2,1),(3,1),(4,0),(5,1),(6,1),(7,0),(8,1),(9,1),(10,3),(11,2),(12,1),(13,2)] (by kernel_rfl) (by kernel_rfl)<|xF ⟨_,_,rfl⟩ ?_;replace ad:=((ad.kpp bj).gr a3).kpp bk;refine xW (fun _ hC=>((ad.atN).nth (q:=2) rfl).gr (hC.bl cj)) ?_;refine xu rfl rfl (fun _=>Vi rfl) ?_;refine xF ⟨_,_,rfl⟩ ?_;replace ab:=((ab.kpp bj).gr a3).kpp bk;refine xW (fun _ hC=>((ab.atN).nth (q:=2) rfl).gr (hC.bl cj)) ?_;refine xu rfl rfl (fun _=>Wb rfl) ?_;replace aa:=((aa.kpp bj).grow a3).kpp bk;refine xu rfl rfl (fun _=>Wa underlying23 sizeOf22 rfl rfl (Xm bv).1 (Xm bv).2.1 ((cd.ks aa).addr bv)) ?_;obtain ⟨_,gz,g0⟩:=(cd.ks aa).atN bv;obtain ⟨⟨i7,i8,rfl,i9⟩,_⟩:=gz;refine xW (fun _ hC=>g0.one.gr (hC.bl cj)) ?_;refine xu rfl rfl (fun _=>Uv underlying22 rfl) ?_;obtain ⟨eu,hm⟩:=Zx hm;refine xu (v:=.slice c7 (aA (ak.length:Int)) c8) rfl rfl (fun _=>V8 underlying22 sizeOf9 rfl rfl eu.1 (by have:=d7.lecap;have:=eu.2;omega)) ?_;refine .ld (d:=58) (v:=(.slice c7 ((((([]:List ByteArray)++ak)++([⟨#[35,51]⟩,⟨#[35,52]⟩]:List ByteArray)).take (aA (ak.length:Int))).length) c8)) (congrArg (fun n=>Value.slice c7 n c8) (bG (show (aA (ak.length:Int))≤((([]:List ByteArray)++ak)++([⟨#[35,51]⟩,⟨#[35,52]⟩]:List ByteArray)).length by have:=eu.2;omega)).symm) ?_;refine xe rfl rfl ?_;intro ja hC0;have hC:=hC0.bl cj;refine Tx (col:=cj) (r:=(Za.vrow 9 Za.str)) (xs:=([((aA (ak.length:Int)),(([]:List ByteArray)++ak)++([⟨#[35,51]⟩,⟨#[35,52]⟩]:List ByteArray))]:List R7)) [(.slice c7 ((((([]:List ByteArray)++ak)++([⟨#[35,51]⟩,⟨#[35,52]⟩]:List ByteArray)).take (aA (ak.length:Int))).length) c8)] 9 (Wl.cons1 (cs:=[(.slice c7 ((((([]:List ByteArray)++ak)++([⟨#[35,51]⟩,⟨#[35,52]⟩]:List ByteArray)).take (aA (ak.length:Int))).length) c8)]) ((d7.gr hC).hasV (aA (ak.length:Int))) Rows.nil0) ?_
   intro jb jc ew a4 ey;refine Zj<|Xp ew hC0 a4<|xe rfl rfl ?_;intro g1 hC0;replace aq:=((((aq.kpp bj).gr a3).kpp bk).gr hC).gr a4;replace ci:=((((ci.kpp bj).gr a3).kpp bk).gr hC).gr a4;replace ar:=((((ar.kpp bj).gr a3).kpp bk).gr hC).gr a4;replace au:=((((au.kpp bj).gr a3).kpp bk).gr hC).gr a4;replace ae:=((((ae.kpp bj).gr a3).kpp bk).gr hC).gr a4;replace ab:=(ab.gr hC).gr a4;replace ad:=(ad.gr hC).gr a4;replace aa:=(aa.grow hC).grow a4;have hC:=hC0.bl ew;obtain ⟨fu,hm⟩:=Zx hm;replace ci:=ci.gr hC;refine Zak (col:=ew) (w:=g1) (r:=(Za.vrow 9 Za.str)) (c:=6) (c2:=9) (ci.ex) ((ey.gr hC).srcC (by decide)) rfl underlying23 Z12 rfl rfl rfl fu.1 fu.2 (by decide) ?_;intro fv fw jd c9 bw ez;refine Zj<|xk c9<|xF ⟨_,_,rfl⟩ ?_;refine xe rfl rfl ?_;intro je hC0;replace aq:=(aq.gr hC).kpp bw;replace ar:=(ar.gr hC).kpp bw;replace au:=(au.gr hC).kpp bw;replace ab:=(ab.gr hC).kpp bw;replace ae:=(ae.gr hC).kpp bw;replace ad:=(ad.gr hC).kpp bw;replace aa:=(aa.grow hC).kpp bw;have hC:=hC0.bl c9;replace ad:=ad.gr hC;refine U1 (off:=2) (v:=(.slice fv ((cg++([((aA (ak.length:Int)),(([]:List ByteArray)++ak)++([⟨#[35,51]⟩,⟨#[35,52]⟩]:List ByteArray))]:List R7)).length) fw)) ad sizeOf23 rfl rfl (by intro u hu;simp only [Value.cells,aM,aO,or_false] at hu;subst hu;rfl) rfl rfl ?_;intro g2 bx g3 da;replace da:Ze 27 3 c9 g2 ap #[.string d0,(.slice d1 ((c0.take (aA (ac.2.1.length:Int))).length) d2),(.slice fv ((cg++([((aA (ak.length:Int)),(([]:List ByteArray)++ak)++([⟨#[35,51]⟩,⟨#[35,52]⟩]:List ByteArray))]:List R7)).length) fw),.slice d3 c5.length d4,.slice d5 c6.length d6]:=da;refine Zj<|xk c9 ?_;have e0:=((ez.gr hC).kp bx).new;refine Y4 ?_;replace aq:=(aq.gr hC).kp bx;replace ar:=(ar.gr hC).kp bx;replace au:=(au.gr hC).kp bx;replace ab:=(ab.gr hC).kp bx;replace ae:=(ae.gr hC).kp bx;replace aa:=(aa.grow hC).kp bx g3;intro jf hC;replace hC:=hC.bl c9;refine go ?_;replace aq:=aq.gr hC;replace ar:=ar.gr hC;replace au:=au.gr hC;replace ab:=ab.gr hC;replace ae:=ae.gr hC;replace aa:=aa.grow hC;exact ⟨ch,by omega,rfl,⟨_,_,_,_,_,_,_,_,_,_,_,_,_,_,_,_,rfl,hm,aa,ab,ae,aq,e0.gr hC,ar,au,da.gr hC,rfl⟩⟩
  refine Zt [1,2,3,1000000] (fun n f a5=>∃ a6 d8 d9 ea db eb ec dc e1 e2 ck ed ee dd e3 cl,cl=n∧Ze7 N ac cl d8 db dc ck dd e3=some r∧St w0 (Zg col) a6 a5∧Ze 27 1 a6 a5 dq #[.string ac.1,.slice b9 ac.2.1.length b5,.slice ca ac.2.2.1.length b6,.slice cb ac.2.2.2.1.length b7,.slice cc ac.2.2.2.2.length b8]∧Ze 27 2 a6 a5 dr #[.string (⟨#[]⟩),.slice none (([]:List ByteArray).length) 0,.slice none (([]:List R7).length) 0,.slice none (([]:List R6).length) 0,(.slice none (([]:List Rb).length) 0)]∧Zb Za.str 9 4 a6 a5 d9 ea db∧Zb (Za.vrow 9 Za.str) 22 6 a6 a5 eb ec dc∧Zb (Za.vrow 3 rI) 36 7 a6 a5 e1 e2 ck∧Zb (Za.vrow 42 (Za.pair (Za.pair Za.bool (Za.vrow 45 rU)) (Za.vrow 45 rU))) 29 8 a6 a5 ed ee dd∧Ze 27 3 a6 a5 ap #[.string d8,(.slice d9 ((db.take (aA (ac.2.1.length:Int))).length) ea),.slice eb dc.length ec,.slice e1 ck.length e2,.slice ed dd.length ee]∧[6].map f=[.int .i64 e3]) N ⟨_,_,_,_,_,_,_,_,_,_,_,_,_,_,0,_,rfl,hm,aa,ab,ae,aq,ci,ar,au,ad,rfl⟩ ?_;clear hm;intro n f a5 hI;obtain ⟨a6,d8,d9,ea,db,eb,ec,dc,e1,e2,ck,ed,ee,dd,e3,cl,hn,hm,aa,ab,ae,av,aw,cn,ax,ad,hs⟩:=hI;subst hn;refine .lL [6] hs ?_
  cases cl with
  | zero=>rw [Ze7.eq_1] at hm;cases hm
  | succ cl=>
   rw [Ze7.eq_2] at hm;refine go ?_;refine Zy ab ?_;refine go ?_;refine Zl hm (fun hb hm=>go ?_) fun hb hm=>go ?_
   ·refine Zy ab<|Xe rfl ?_;obtain ⟨al,bz,hm⟩:=bZ hm;refine lI bz ((ce.ks aa).addr bz) ?_;obtain ⟨_,g4,g5⟩:=(ce.ks aa).atN bz;obtain ⟨⟨jg,jh,rfl,g6⟩,_⟩:=g4;refine lW g5.one ?_;obtain ⟨g7,hm⟩:=Zx hm;refine Y9 (c:=11) Zb.nil g6.srcC g7 ?_;intro ji jj jk g8 bm e4;refine go ?_;refine Wt (col:=g8) [(-95),(-96)] 12 ?_;intro jl jm jn a7 g9;obtain ⟨ha,hm⟩:=Zx hm;refine Y9 (e4.gr a7) (g9.srcN (NB.int (k:=.i64))) ha ?_;intro de df jo co bn ef;refine go ?_;refine Wc (col:=co) [(0,1),(1,0),(2,1),(3,1),(4,0),(5,1),(6,1),(7,0),(8,1),(9,1),(10,3),(11,2),(12,1),(13,2)] (by kernel_rfl) (by kernel_rfl)<|xF ⟨_,_,rfl⟩ ?_;replace ad:=((ad.kpp bm).gr a7).kpp bn;refine xW (fun _ hC=>((ad.atN).nth (q:=3) rfl).gr (hC.bl co)) ?_;refine xu rfl rfl (fun _=>Vi rfl) ?_;refine xF ⟨_,_,rfl⟩ ?_;replace ab:=((ab.kpp bm).gr a7).kpp bn;refine xW (fun _ hC=>((ab.atN).nth (q:=3) rfl).gr (hC.bl co)) ?_;refine xu rfl rfl (fun _=>Wb rfl) ?_;replace aa:=((aa.kpp bm).grow a7).kpp bn;refine xu rfl rfl (fun _=>Wa underlying24 sizeOf36 rfl rfl (Xm bz).1 (Xm bz).2.1 ((ce.ks aa).addr bz)) ?_;obtain ⟨_,hc,hd⟩:=(ce.ks aa).atN bz;obtain ⟨⟨jp,jq,rfl,jr⟩,_⟩:=hc;refine xW (fun _ hC=>hd.one.gr (hC.bl co)) ?_;refine xu rfl rfl (fun _=>Uv underlying36 rfl) ?_;obtain ⟨e5,hm⟩:=Zx hm;refine xu (v:=.slice de (aA (al.length:Int)) df) rfl rfl (fun _=>V8 underlying36 sizeOf3 rfl rfl e5.1 (by have:=ef.lecap;have:=e5.2;omega)) ?_;refine .ld (d:=88) (v:=(.slice de ((((([]:List Int)++al)++[(-95),(-96)]).take (aA (al.length:Int))).length) df)) (congrArg (fun n=>Value.slice de n df) (bG (show (aA (al.length:Int))≤((([]:List Int)++al)++[(-95),(-96)]).length by have:=e5.2;omega)).symm) ?_;refine xe rfl rfl ?_;intro js hC0;have hC:=hC0.bl co;refine Tx (col:=co) (r:=(Za.vrow 3 rI)) (xs:=[((aA (al.length:Int)),(([]:List Int)++al)++[(-95),(-96)])]) [(.slice de ((((([]:List Int)++al)++[(-95),(-96)]).take (aA (al.length:Int))).length) df)] 11 (Wl.cons1 (cs:=[(.slice de ((((([]:List Int)++al)++[(-95),(-96)]).take (aA (al.length:Int))).length) df)]) ((ef.gr hC).hasV (aA (al.length:Int))) Rows.nil0) ?_;intro jt ju e6 a8 e7;refine Zj<|Xp e6 hC0 a8<|xe rfl rfl ?_;intro he hC0
    replace av:=((((av.kpp bm).gr a7).kpp bn).gr hC).gr a8;replace aw:=((((aw.kpp bm).gr a7).kpp bn).gr hC).gr a8;replace cn:=((((cn.kpp bm).gr a7).kpp bn).gr hC).gr a8;replace ax:=((((ax.kpp bm).gr a7).kpp bn).gr hC).gr a8;replace ae:=((((ae.kpp bm).gr a7).kpp bn).gr hC).gr a8;replace ab:=(ab.gr hC).gr a8;replace ad:=(ad.gr hC).gr a8;replace aa:=(aa.grow hC).grow a8;have hC:=hC0.bl e6;obtain ⟨fx,hm⟩:=Zx hm;replace cn:=cn.gr hC;refine Zak (col:=e6) (w:=he) (r:=(Za.vrow 3 rI)) (c:=7) (c2:=11) (cn.ex) ((e7.gr hC).srcC (by decide)) rfl underlying24 Z16 rfl rfl rfl fx.1 fx.2 (by decide) ?_;intro fy fz jv dg b0 e8;refine Zj<|xk dg<|xF ⟨_,_,rfl⟩ ?_;refine xe rfl rfl ?_;intro jw hC0;replace av:=(av.gr hC).kpp b0;replace aw:=(aw.gr hC).kpp b0;replace ax:=(ax.gr hC).kpp b0;replace ab:=(ab.gr hC).kpp b0;replace ae:=(ae.gr hC).kpp b0;replace ad:=(ad.gr hC).kpp b0;replace aa:=(aa.grow hC).kpp b0;have hC:=hC0.bl dg;replace ad:=ad.gr hC;refine U1 (off:=3) (v:=(.slice fy ((ck++[((aA (al.length:Int)),(([]:List Int)++al)++[(-95),(-96)])]).length) fz)) ad sizeOf24 rfl rfl (by intro u hu;simp only [Value.cells,aM,aO,or_false] at hu;subst hu;rfl) rfl rfl ?_;intro hf b1 hg dh;replace dh:Ze 27 3 dg hf ap #[.string d8,(.slice d9 ((db.take (aA (ac.2.1.length:Int))).length) ea),.slice eb dc.length ec,(.slice fy ((ck++[((aA (al.length:Int)),(([]:List Int)++al)++[(-95),(-96)])]).length) fz),.slice ed dd.length ee]:=dh;refine Zj<|xk dg ?_;have e9:=((e8.gr hC).kp b1).new;refine Y4 ?_;replace av:=(av.gr hC).kp b1;replace aw:=(aw.gr hC).kp b1;replace ax:=(ax.gr hC).kp b1;replace ab:=(ab.gr hC).kp b1;replace ae:=(ae.gr hC).kp b1;replace aa:=(aa.grow hC).kp b1 hg;intro jx hC;replace hC:=hC.bl dg;refine go ?_;replace av:=av.gr hC;replace aw:=aw.gr hC;replace ax:=ax.gr hC;replace ab:=ab.gr hC;replace ae:=ae.gr hC;replace aa:=aa.grow hC;exact ⟨cl,by omega,rfl,⟨_,_,_,_,_,_,_,_,_,_,_,_,_,_,_,_,rfl,hm,aa,ab,ae,av,aw,e9.gr hC,ax,dh.gr hC,rfl⟩⟩
   refine Zt [1,2,3,1000000] (fun n f a9=>∃ ba cp cq cr bo ct cu bp cv cw bq di dj bb eg b2,b2=n∧Zct N ac b2 cp bo bp bq bb eg=some r∧St w0 (Zg col) ba a9∧Ze 27 1 ba a9 dq #[.string ac.1,.slice b9 ac.2.1.length b5,.slice ca ac.2.2.1.length b6,.slice cb ac.2.2.2.1.length b7,.slice cc ac.2.2.2.2.length b8]∧Ze 27 2 ba a9 dr #[.string (⟨#[]⟩),.slice none (([]:List ByteArray).length) 0,.slice none (([]:List R7).length) 0,.slice none (([]:List R6).length) 0,(.slice none (([]:List Rb).length) 0)]∧Zb Za.str 9 4 ba a9 cq cr bo∧Zb (Za.vrow 9 Za.str) 22 6 ba a9 ct cu bp∧Zb (Za.vrow 3 rI) 36 7 ba a9 cv cw bq∧Zb (Za.vrow 42 (Za.pair (Za.pair Za.bool (Za.vrow 45 rU)) (Za.vrow 45 rU))) 29 8 ba a9 di dj bb∧Ze 27 3 ba a9 ap #[.string cp,(.slice cq ((bo.take (aA (ac.2.1.length:Int))).length) cr),.slice ct bp.length cu,.slice cv bq.length cw,.slice di bb.length dj]∧[8].map f=[.int .i64 eg]) N ⟨_,_,_,_,_,_,_,_,_,_,_,_,_,_,0,_,rfl,hm,aa,ab,ae,av,aw,cn,ax,ad,rfl⟩ ?_;clear hm;intro n f a9 hI;obtain ⟨ba,cp,cq,cr,bo,ct,cu,bp,cv,cw,bq,di,dj,bb,eg,b2,hn,hm,aa,ab,ae,af,ag,ah,ai,ad,hs⟩:=hI;subst hn;refine .lL [8] hs ?_
   cases b2 with
   | zero=>rw [Zct.eq_1] at hm;cases hm
   | succ b2=>
    rw [Zct.eq_2] at hm;refine go ?_;refine Zy ab ?_;refine go ?_;refine Zl hm (fun hb hm=>go ?_) fun hb hm=>go ?_
    ·refine Zt [1,2,3,8,1000000] (fun n f ay=>∃ an fa fb fc ao cx,cx=n∧Ze8 N ac cp bo bp bq bb eg (Zct N ac b2) cx fa ao=some r∧St w0 (Zg col) an ay∧Ze 27 1 an ay dq #[.string ac.1,.slice b9 ac.2.1.length b5,.slice ca ac.2.2.1.length b6,.slice cb ac.2.2.2.1.length b7,.slice cc ac.2.2.2.2.length b8]∧Ze 27 2 an ay dr #[.string (⟨#[]⟩),.slice none (([]:List ByteArray).length) 0,.slice none (([]:List R7).length) 0,.slice none (([]:List R6).length) 0,(.slice none (([]:List Rb).length) 0)]∧Zb Za.str 9 4 an ay cq cr bo∧Zb (Za.vrow 9 Za.str) 22 6 an ay ct cu bp∧Zb (Za.vrow 3 rI) 36 7 an ay cv cw bq∧Zb (Za.vrow 42 (Za.pair (Za.pair Za.bool (Za.vrow 45 rU)) (Za.vrow 45 rU))) 29 8 an ay di dj bb∧Ze 27 3 an ay ap #[.string cp,(.slice cq ((bo.take (aA (ac.2.1.length:Int))).length) cr),.slice ct bp.length cu,.slice cv bq.length cw,.slice di bb.length dj]∧Zb (Za.pair (Za.pair Za.bool (Za.vrow 45 rU)) (Za.vrow 45 rU)) 42 13 an ay fb fc ao∧[10,9].map f=[.int .i64 fa,.slice fb ao.length fc]) N ⟨_,0,none,0,_,_,rfl,hm,aa,ab,ae,af,ag,ah,ai,ad,Zb.nil,rfl⟩ ?_;clear hm;intro n f ay hI;obtain ⟨an,fa,fb,fc,ao,cx,hn,hm,aa,ab,ae,af,ag,ah,ai,ad,am,hs⟩:=hI;subst hn;refine .lL [10,9] hs ?_
     cases cx with
     | zero=>rw [Ze8.eq_1] at hm;cases hm
     | succ cx=>
      rw [Ze8.eq_2] at hm;refine go ?_;refine Zy ab<|Xe rfl ?_;obtain ⟨bc,az,hm⟩:=bZ hm;refine lI az ((bi.ks aa).addr az) ?_;obtain ⟨_,hh,hi⟩:=(bi.ks aa).atN az;obtain ⟨⟨jy,jz,rfl,j0⟩,_⟩:=hh;refine lW hi.one<|go ?_;refine Zl hm (fun hb hm=>go ?_) fun hb hm=>go ?_
      ·refine Zy ab<|Xe rfl<|lI az ((bi.ks aa).addr az) ?_;obtain ⟨_,hj,hk⟩:=(bi.ks aa).atN az;obtain ⟨⟨j1,j2,rfl,f0⟩,_⟩:=hj;refine lW hk.one<|Xe rfl ?_;obtain ⟨fd,fe,hm⟩:=bZ hm;refine lI fe (f0.addr fe) ?_;obtain ⟨_,hl,ho⟩:=f0.atN fe;obtain ⟨_,_,rfl,hp,hq⟩:=Yr hl;obtain ⟨_,_,rfl,hr,ht⟩:=Yr hp;obtain ⟨rfl,_⟩:=hr;obtain ⟨⟨hv,hw,rfl,hx⟩,_⟩:=ht;obtain ⟨⟨hy,hz,rfl,h0⟩,_⟩:=hq;refine lV (.agg #[.bool fd.1.1,.slice hv fd.1.2.length hw,.slice hy fd.2.length hz]) (Yq isAgg42 sizeOf42 rfl rfl ho) ?_;obtain ⟨aj,h1,hm⟩:=bZ hm;refine Zh (Z0q 14 15 h1 hx h0) fun _ j3 ⟨h2,f1,f2,f3,f4,e',bd,h3,h4⟩=>⟨_,e',?_⟩;have h5:=X0.join (X0.joinL (Zaf aj.1.1) (h3.hasV aj.1.2.1)) (h4.hasV aj.2.1) (by decide) (by decide);replace af:=af.gr bd;replace af:=af.recol 15 14;replace ag:=ag.gr bd;replace ag:=ag.recol 15 14;replace ah:=ah.gr bd;replace ah:=ah.recol 15 14;replace ai:=ai.gr bd;replace ai:=ai.recol 15 14;replace am:=am.gr bd;replace am:=am.recol 15 14;replace ab:=ab.gr bd;replace ab:=ab.recol 15 14;replace ae:=ae.gr bd;replace ae:=ae.recol 15 14;replace ad:=ad.gr bd;replace ad:=ad.recol 15 14;replace aa:=aa.grow bd;replace aa:=aa.recol 15 14 (by decide) (by decide);refine Tx (col:=(Xr 15 14 h2)) (r:=(Za.pair (Za.pair Za.bool (Za.vrow 45 rU)) (Za.vrow 45 rU))) (xs:=[((aj.1.1,(aj.1.2.1,aj.1.2.2)),(aj.2.1,aj.2.2))]) [(.agg #[.bool aj.1.1,.slice f1 ((aj.1.2.2.take aj.1.2.1).length) f2,.slice f3 ((aj.2.2.take aj.2.1).length) f4])] 14 (Wl.cons1 (cs:=[.bool aj.1.1,.slice f1 ((aj.1.2.2.take aj.1.2.1).length) f2,.slice f3 ((aj.2.2.take aj.2.1).length) f4]) h5 Rows.nil0) ?_;intro j4 j5 j6 be h6;obtain ⟨h7,hm⟩:=Zx hm;replace am:=am.gr be;refine Y9 (c:=13) (c2:=14) am (h6.srcC (by decide)) h7 ?_;intro j7 j8 j9 ka br h8;refine go ?_;replace af:=(af.gr be).kpp br;replace ag:=(ag.gr be).kpp br;replace ah:=(ah.gr be).kpp br;replace ai:=(ai.gr be).kpp br;replace ab:=(ab.gr be).kpp br;replace ae:=(ae.gr be).kpp br
       replace ad:=(ad.gr be).kpp br;replace aa:=(aa.grow be).kpp br;exact ⟨cx,by omega,rfl,⟨_,_,_,_,_,_,rfl,hm,aa,ab,ae,af,ag,ah,ai,ad,h8,rfl⟩⟩
      refine Wt (col:=an) [97] 16 ?_;intro eh kb h9 bf ff;refine lV (.agg #[.bool false,(nI),.slice eh ([97].length) 1]) (Wz (l:=[_,_]) (qs:=[(0,2),(2,1)]) underlying42 zeroValue42 ⟨rfl,sizeOf40,rfl,sizeOf38,trivial⟩ rfl)<|Wt (col:=h9) [98] 17 ?_;intro ei f5 fg a0 ia;refine lV (.agg #[.bool false,(nI),.slice ei ([98].length) 1]) (Wz (l:=[_,_]) (qs:=[(0,2),(2,1)]) underlying42 zeroValue42 ⟨rfl,sizeOf40,rfl,sizeOf38,trivial⟩ rfl) ?_;have ib:X0 (Za.pair (Za.pair Za.bool (Za.vrow 45 rU)) (Za.vrow 45 rU)) 16 fg f5 [.bool false,(nI),.slice eh ([97].length) 1] ((false,(0,([]:List Int))),([97].length,[97])):=X0.joinL (Zm6 (Zaf false) Zwa) (ff.gr a0).hasN;have ic:X0 (Za.pair (Za.pair Za.bool (Za.vrow 45 rU)) (Za.vrow 45 rU)) 17 fg f5 [.bool false,(nI),.slice ei ([98].length) 1] ((false,(0,([]:List Int))),([98].length,[98])):=X0.joinL (Zm6 (Zaf false) Zwa) ia.hasN;have id:=Wl.cons (cs:=[.bool false,(nI),.slice eh ([97].length) 1]) ib (Wl.cons1 (cs:=[.bool false,(nI),.slice ei ([98].length) 1]) ic Rows.nil0) (by decide) (by decide);replace af:=(af.gr bf).gr a0;replace af:=af.recol 16 17;replace ag:=(ag.gr bf).gr a0;replace ag:=ag.recol 16 17;replace ah:=(ah.gr bf).gr a0;replace ah:=ah.recol 16 17;replace ai:=(ai.gr bf).gr a0;replace ai:=ai.recol 16 17;replace am:=(am.gr bf).gr a0;replace am:=am.recol 16 17;replace ab:=(ab.gr bf).gr a0;replace ab:=ab.recol 16 17;replace ae:=(ae.gr bf).gr a0;replace ae:=ae.recol 16 17;replace ad:=(ad.gr bf).gr a0;replace ad:=ad.recol 16 17;replace aa:=(aa.grow bf).grow a0;replace aa:=aa.recol 16 17 (by decide) (by decide);refine Tx (col:=(Xr 16 17 fg)) (r:=(Za.pair (Za.pair Za.bool (Za.vrow 45 rU)) (Za.vrow 45 rU))) (xs:=[((false,(0,([]:List Int))),([97].length,[97])),((false,(0,([]:List Int))),([98].length,[98]))]) [(.agg #[.bool false,(nI),.slice eh ([97].length) 1]),(.agg #[.bool false,(nI),.slice ei ([98].length) 1])] 17 id ?_;intro kc kd ke bg ie
      obtain ⟨ig,hm⟩:=Zx hm;refine Y9 (c:=13) (c2:=17) (am.gr bg) (ie.srcC (by decide)) ig ?_;intro dk dl kg cy bs ej;refine go ?_;refine Wc (col:=cy) [(0,1),(1,0),(2,1),(3,1),(4,0),(5,1),(6,1),(7,0),(8,1),(9,1),(10,3),(11,2),(12,1),(13,2)] (by kernel_rfl) (by kernel_rfl)<|xF ⟨_,_,rfl⟩ ?_;replace ad:=(ad.gr bg).kpp bs;refine xW (fun _ hC=>((ad.atN).nth (q:=4) rfl).gr (hC.bl cy)) ?_;refine xu rfl rfl (fun _=>Vi rfl) ?_;refine xF ⟨_,_,rfl⟩ ?_;replace ab:=(ab.gr bg).kpp bs;refine xW (fun _ hC=>((ab.atN).nth (q:=4) rfl).gr (hC.bl cy)) ?_;refine xu rfl rfl (fun _=>Wb rfl) ?_;replace aa:=(aa.grow bg).kpp bs;refine xu rfl rfl (fun _=>Wa underlying25 sizeOf29 rfl rfl (Xm az).1 (Xm az).2.1 ((bi.ks aa).addr az)) ?_;obtain ⟨_,ih,ii⟩:=(bi.ks aa).atN az;obtain ⟨⟨kh,ki,rfl,kj⟩,_⟩:=ih;refine xW (fun _ hC=>ii.one.gr (hC.bl cy)) ?_;refine xu rfl rfl (fun _=>Uv underlying29 rfl) ?_;obtain ⟨fh,hm⟩:=Zx hm;refine xu (v:=.slice dk (aA (bc.length:Int)) dl) rfl rfl (fun _=>V8 underlying29 sizeOf42 rfl rfl fh.1 (by have:=ej.lecap;have:=fh.2;omega)) ?_;refine .ld (d:=137) (v:=(.slice dk (((ao++[((false,(0,([]:List Int))),([97].length,[97])),((false,(0,([]:List Int))),([98].length,[98]))]).take (aA (bc.length:Int))).length) dl)) (congrArg (fun n=>Value.slice dk n dl) (bG (show (aA (bc.length:Int))≤(ao++[((false,(0,([]:List Int))),([97].length,[97])),((false,(0,([]:List Int))),([98].length,[98]))]).length by have:=fh.2;omega)).symm) ?_;refine xe rfl rfl ?_;intro kk hC0;have hC:=hC0.bl cy;refine Tx (col:=cy) (r:=(Za.vrow 42 (Za.pair (Za.pair Za.bool (Za.vrow 45 rU)) (Za.vrow 45 rU)))) (xs:=[((aA (bc.length:Int)),ao++[((false,(0,([]:List Int))),([97].length,[97])),((false,(0,([]:List Int))),([98].length,[98]))])]) [(.slice dk (((ao++[((false,(0,([]:List Int))),([97].length,[97])),((false,(0,([]:List Int))),([98].length,[98]))]).take (aA (bc.length:Int))).length) dl)] 13 (Wl.cons1 (cs:=[(.slice dk (((ao++[((false,(0,([]:List Int))),([97].length,[97])),((false,(0,([]:List Int))),([98].length,[98]))]).take (aA (bc.length:Int))).length) dl)]) ((ej.gr hC).hasV (aA (bc.length:Int))) Rows.nil0) ?_;intro kl km fi bh fj;refine Zj<|Xp fi hC0 bh<|xe rfl rfl ?_;intro ij hC0;replace af:=(((af.gr bg).kpp bs).gr hC).gr bh
      replace ag:=(((ag.gr bg).kpp bs).gr hC).gr bh;replace ah:=(((ah.gr bg).kpp bs).gr hC).gr bh;replace ai:=(((ai.gr bg).kpp bs).gr hC).gr bh;replace ae:=(((ae.gr bg).kpp bs).gr hC).gr bh;replace ab:=(ab.gr hC).gr bh;replace ad:=(ad.gr hC).gr bh;replace aa:=(aa.grow hC).grow bh;have hC:=hC0.bl fi;obtain ⟨f6,hm⟩:=Zx hm;replace ai:=ai.gr hC;refine Zak (col:=fi) (w:=ij) (r:=(Za.vrow 42 (Za.pair (Za.pair Za.bool (Za.vrow 45 rU)) (Za.vrow 45 rU)))) (c:=8) (c2:=13) (ai.ex) ((fj.gr hC).srcC (by decide)) rfl underlying25 Z14 rfl rfl rfl f6.1 f6.2 (by decide) ?_;intro f7 f8 kn dm b3 fk;refine Zj<|xk dm<|xF ⟨_,_,rfl⟩ ?_;refine xe rfl rfl ?_;intro ko hC0;replace af:=(af.gr hC).kpp b3;replace ag:=(ag.gr hC).kpp b3;replace ah:=(ah.gr hC).kpp b3;replace ab:=(ab.gr hC).kpp b3;replace ae:=(ae.gr hC).kpp b3;replace ad:=(ad.gr hC).kpp b3;replace aa:=(aa.grow hC).kpp b3;have hC:=hC0.bl dm;replace ad:=ad.gr hC;refine U1 (off:=4) (v:=(.slice f7 ((bb++[((aA (bc.length:Int)),ao++[((false,(0,([]:List Int))),([97].length,[97])),((false,(0,([]:List Int))),([98].length,[98]))])]).length) f8)) ad sizeOf25 rfl rfl (by intro u hu;simp only [Value.cells,aM,aO,or_false] at hu;subst hu;rfl) rfl rfl ?_;intro ik b4 il dn;replace dn:Ze 27 3 dm ik ap #[.string cp,(.slice cq ((bo.take (aA (ac.2.1.length:Int))).length) cr),.slice ct bp.length cu,.slice cv bq.length cw,(.slice f7 ((bb++[((aA (bc.length:Int)),ao++[((false,(0,([]:List Int))),([97].length,[97])),((false,(0,([]:List Int))),([98].length,[98]))])]).length) f8)]:=dn;refine Zj<|xk dm ?_;have fl:=((fk.gr hC).kp b4).new;refine Y4 ?_;replace af:=(af.gr hC).kp b4;replace ag:=(ag.gr hC).kp b4;replace ah:=(ah.gr hC).kp b4;replace ab:=(ab.gr hC).kp b4;replace ae:=(ae.gr hC).kp b4;replace aa:=(aa.grow hC).kp b4 il;intro kq hC;replace hC:=hC.bl dm;refine go ?_;replace af:=af.gr hC;replace ag:=ag.gr hC;replace ah:=ah.gr hC;replace ae:=ae.gr hC;replace aa:=aa.grow hC;exact ⟨b2,by omega,rfl,⟨_,_,_,_,_,_,_,_,_,_,_,_,_,_,_,_,rfl,hm,aa,ab.gr hC,ae,af,ag,ah,fl.gr hC,dn.gr hC,rfl⟩⟩
    refine lV _ (Xh isAgg27 sizeOf27 ad)<|Xg ae ?_;intro kr dp im io;refine go ?_;cases hm;replace aa:=aa.kp dp im;exact ⟨rfl,_,ra io.atN,_,_,_,_,_,_,_,_,_,rfl,aa.fin (cm [(4,c1),(6,c2),(7,c3),(8,c4)]),aa.fo (af.kp dp),aa.fo (ag.kp dp),aa.fo (ah.kp dp),aa.fo (ai.kp dp)⟩
def Zj4 (aa:Bool):Option Bool:=
  some aa
def Zfj (N n0:Nat) (aa:List ByteArray) (ac:List ByteArray) (ad ae:ByteArray):Nat→Int→Option Bool
  | 0,_=>none
  | af+1,ab=>if (decide (ab<(ac.length:Int)))=true then ((Zi (aa.take n0) ab).bind fun ag=>(Zi ac ab).bind fun ah=>if (!decide (ag=ah))=true then (some false) else ((Zfj N n0 aa ac ad ae af) (i64.wrap (ab+1)))) else (Zv ((0:Int)≤(i64.wrap (((aa.take n0).length:Int)+2))∧(i64.wrap (((aa.take n0).length:Int)+2))≤(aa.length:Int)) ((Zi (aa.take (aA (i64.wrap (((aa.take n0).length:Int)+2)))) ((aa.take n0).length:Int)).bind fun ai=>if (decide (ai=ad))=true then ((Zi (aa.take (aA (i64.wrap (((aa.take n0).length:Int)+2)))) (i64.wrap (((aa.take n0).length:Int)+1))).bind fun aj=>Zj4 (decide (aj=ae))) else (Zj4 false)))
def Zfi (N n0:Nat) (aa:List ByteArray) (ab:List ByteArray) (ac ad:ByteArray):Option Bool:=
  if (!decide (((aa.take n0).length:Int)=(ab.length:Int)))=true then (some false) else (Zfj N n0 aa ab ac ad N 0)
theorem Zq7 {N ae n0 aq:Nat} {a0 a1:Option Addr} {col:Zd} {w0:World} {ab af:R4} {ah ag:ByteArray} {r:Bool} (hm:Zfi N n0 ab af ah ag=some r) (h0:Sl Za.str col w0 a0 ae ab) (h1:Sl Za.str col w0 a1 aq af):
    Calls prog 45 #[.slice a0 ((ab.take n0).length) ae,.slice a1 af.length aq,.string ah,.string ag] w0 (W1 w0 r):=by
 refine Z7 8 (m:=53) func45 rfl rfl rfl rfl rfl ?_;rw [Zfi.eq_1] at hm;have aa:=St.start col w0;refine go ?_;replace h0:=h0.k0;replace h1:=h1.k0;refine Zl hm (fun hb hm=>go ?_) fun hb hm=>go ?_
 ·cases hm;exact ⟨rfl,rfl,aa.below⟩
 refine Zt [0,1,2,3,1000000] (fun n f ar=>∃ ac ai ad,ad=n∧Zfj N n0 ab af ah ag ad ai=some r∧St w0 (Zg col) ac ar∧[9].map f=[.int .i64 ai]) N ⟨_,0,_,rfl,hm,aa,rfl⟩ ?_;clear hm;intro n f ar hI;obtain ⟨ac,ai,ad,hn,hm,aa,hs⟩:=hI;subst hn;refine .lL [9] hs ?_
 cases ad with
 | zero=>rw [Zfj.eq_1] at hm;cases hm
 | succ ad=>
  rw [Zfj.eq_2] at hm;refine go ?_;refine Zl hm (fun hb hm=>go ?_) fun hb hm=>go ?_
  ·refine Y0 (col:=ac) (by kernel_rfl) (by kernel_rfl)<|go ?_;obtain ⟨ax,aj,hm⟩:=bZ hm;refine qI aj (((h0.ks aa).take n0).addr aj)<|qW (fun _ hC=>(((h0.ks aa).take n0).gr (hC.bl ac)).atStr aj) ?_;refine go ?_;obtain ⟨ay,ak,hm⟩:=bZ hm;refine qI ak ((h1.ks aa).addr ak)<|qW (fun _ hC=>((h1.ks aa).gr (hC.bl ac)).atStr ak) ?_;refine go ?_;refine Xw ?_;intro az hC;replace aa:=aa.grow (hC.bl ac);refine Zl hm (fun hb hm=>go ?_) fun hb hm=>go ?_
   ·cases hm;exact ⟨rfl,rfl,aa.below⟩
   exact ⟨ad,by omega,rfl,⟨_,_,_,rfl,hm,aa,rfl⟩⟩
  obtain ⟨al,hm⟩:=Zx hm;refine lv (v:=.slice a0 (aA (i64.wrap (((ab.take n0).length:Int)+2))) ae) rfl rfl (V8 underlying22 sizeOf9 rfl rfl al.1 (by have:=(h0.ks aa).1.2;have:=al.2;omega))<|.ld (d:=35) (v:=(.slice a0 ((ab.take (aA (i64.wrap (((ab.take n0).length:Int)+2)))).length) ae)) (congrArg (fun n=>Value.slice a0 n ae) (bG (show (aA (i64.wrap (((ab.take n0).length:Int)+2)))≤ab.length by have:=al.2;omega)).symm) ?_;refine Zbx rfl<|Zj<|Zw ?_;refine Wp.cutK [1000000] (fun f au=>∃ av am,Zj4 am=some r∧St w0 (Zg col) av au∧[8].map f=[.bool am]) ?_ ?_
  ·intro f au hJ;obtain ⟨av,am,hm,aa,hs⟩:=hJ;rw [Zj4.eq_1] at hm;refine .lL [8] hs<|Y1 ?_;cases hm;exact ⟨rfl,rfl,aa.below⟩
  refine go ?_;obtain ⟨a2,an,hm⟩:=bZ hm;refine lI an (((h0.ks aa).take (aA (i64.wrap (((ab.take n0).length:Int)+2)))).addr an)<|lW (((h0.ks aa).take (aA (i64.wrap (((ab.take n0).length:Int)+2)))).atStr an) ?_;refine go ?_;refine Xo hm (fun ao hm=>go ?_) fun ao hm=>go ?_
  ·obtain ⟨aw,ap,hm⟩:=bZ hm;refine lI ap (((h0.ks aa).take (aA (i64.wrap (((ab.take n0).length:Int)+2)))).addr ap) ?_;refine go ?_;refine lW (((h0.ks aa).take (aA (i64.wrap (((ab.take n0).length:Int)+2)))).atStr ap)<|go ?_;refine lV (.bool (decide (aw=ag))) (Z5 (congrArg Value.bool ao) rfl)<|go ?_;exact ⟨rfl,_,_,hm,aa,rfl⟩
  refine lV (.bool false) (Xn (congrArg Value.bool ao) rfl)<|go ?_;exact ⟨rfl,_,_,hm,aa,rfl⟩
def Zfb (N:Nat) (ab:R1) (ac:R1):Nat→Int→Option Bool
  | 0,_=>none
  | ad+1,aa=>if (decide (aa<(ab.1.2.length:Int)))=true then ((Zi ab.1.2 aa).bind fun ae=>(Zi ac.1.2 aa).bind fun af=>if (!decide (ae=af))=true then (some false) else ((Zfb N ab ac ad) (i64.wrap (aa+1)))) else (some true)
def Zfa (N:Nat) (aa:R1) (ac:R1):Nat→Int→Option Bool
  | 0,_=>none
  | ad+1,ab=>if (decide (ab<(aa.2.length:Int)))=true then ((Zi aa.2 ab).bind fun ae=>(Zi ac.2 ab).bind fun af=>if (!decide (ae=af))=true then (some false) else ((Zfa N aa ac ad) (i64.wrap (ab+1)))) else (Zfb N aa ac N 0)
def Zia (N:Nat) (aa:R1) (ab:R1) (ac:Bool):Option Bool:=
  if ac=true then (some false) else (Zfa N aa ab N 0)
def Zh8 (N:Nat) (aa:R1) (ab:R1):Option Bool:=
  if (!decide (aa.1.1=ab.1.1))=true then (Zia N aa ab true) else (if (!decide ((aa.1.2.length:Int)=(ab.1.2.length:Int)))=true then (Zia N aa ab true) else (Zia N aa ab (!decide ((aa.2.length:Int)=(ab.2.length:Int)))))
theorem Z0v {N aj ak al am:Nat} {an ao ap aq:Option Addr} {col:Zd} {w0:World} {ac ad:R1} {r:Bool} (hm:Zh8 N ac ad=some r) (ar:Sl rU col w0 an aj ac.1.2) (au:Sl rU col w0 ao ak ac.2) (av:Sl rU col w0 ap al ad.1.2) (aw:Sl rU col w0 aq am ad.2):
    Calls prog 46 #[(.agg #[.bool ac.1.1,.slice an ac.1.2.length aj,.slice ao ac.2.length ak]),(.agg #[.bool ad.1.1,.slice ap ad.1.2.length al,.slice aq ad.2.length am])] w0 (W1 w0 r):=by
 refine Z7 4 (m:=73) func46 rfl rfl rfl rfl rfl ?_;rw [Zh8.eq_1] at hm;have aa:=St.start col w0;refine go ?_;refine Xf (col:=(Zg col)) 1 rfl ?_;intro a1 bf bd be ab;refine Xf (col:=bd) 2 rfl ?_;intro a2 bg bh bc ae;refine Qu rfl<|Zj<|Zw<|Zw ?_;replace ar:=ar.k0;replace au:=au.k0;replace av:=av.k0;replace aw:=aw.k0;replace aa:=(aa.grow be).grow bc;replace ab:=ab.gr bc;refine Wp.cutK [2,3,1000000] (fun f ax=>∃ ay a3,Zia N ac ad a3=some r∧St w0 (Zg col) ay ax∧Ze 42 1 ay ax a1 #[.bool ac.1.1,.slice an ac.1.2.length aj,.slice ao ac.2.length ak]∧Ze 42 2 ay ax a2 #[.bool ad.1.1,.slice ap ad.1.2.length al,.slice aq ad.2.length am]∧[33].map f=[.bool a3]) ?_ ?_
 ·intro f ax hJ;obtain ⟨ay,a3,hm,aa,ab,ae,hs⟩:=hJ;rw [Zia.eq_1] at hm;refine .lL [33] hs ?_;refine Zl hm (fun hb hm=>go ?_) fun hb hm=>go ?_
  ·cases hm;exact ⟨rfl,rfl,aa.below⟩
  refine Zt [2,3,1000000] (fun n f az=>∃ af a4 ah,ah=n∧Zfa N ac ad ah a4=some r∧St w0 (Zg col) af az∧Ze 42 1 af az a1 #[.bool ac.1.1,.slice an ac.1.2.length aj,.slice ao ac.2.length ak]∧Ze 42 2 af az a2 #[.bool ad.1.1,.slice ap ad.1.2.length al,.slice aq ad.2.length am]∧[5].map f=[.int .i64 a4]) N ⟨_,0,_,rfl,hm,aa,ab,ae,rfl⟩ ?_;clear hm;intro n f az hI;obtain ⟨af,a4,ah,hn,hm,aa,ab,ae,hs⟩:=hI;subst hn;refine .lL [5] hs ?_
  cases ah with
  | zero=>rw [Zfa.eq_1] at hm;cases hm
  | succ ah=>
   rw [Zfa.eq_2] at hm;refine go ?_;refine Zy ab ?_;refine go ?_;refine Zl hm (fun hb hm=>go ?_) fun hb hm=>go ?_
   ·refine Y0 (col:=af) (by kernel_rfl) (by kernel_rfl)<|qF ⟨_,_,rfl⟩ ?_;refine qW (fun _ hC=>((ab.atN).nth (q:=2) rfl).gr (hC.bl af)) ?_;refine go ?_;obtain ⟨bi,a5,hm⟩:=bZ hm;refine qI a5 ((au.ks aa).addr a5)<|qW (fun _ hC=>((au.ks aa).gr (hC.bl af)).atInt a5) ?_;refine qF ⟨_,_,rfl⟩ ?_;refine qW (fun _ hC=>((ae.atN).nth (q:=2) rfl).gr (hC.bl af)) ?_;refine go ?_;obtain ⟨bj,a6,hm⟩:=bZ hm;refine qI a6 ((aw.ks aa).addr a6)<|qW (fun _ hC=>((aw.ks aa).gr (hC.bl af)).atInt a6) ?_;refine go ?_;refine Xw ?_;intro bk hC;replace hC:=hC.bl af;replace ab:=ab.gr hC;replace ae:=ae.gr hC;replace aa:=aa.grow hC;refine Zl hm (fun hb hm=>go ?_) fun hb hm=>go ?_
    ·cases hm;exact ⟨rfl,rfl,aa.below⟩
    exact ⟨ah,by omega,rfl,⟨_,_,_,rfl,hm,aa,ab,ae,rfl⟩⟩
   refine Zt [2,3,1000000] (fun n f a0=>∃ ag a7 ai,ai=n∧Zfb N ac ad ai a7=some r∧St w0 (Zg col) ag a0∧Ze 42 1 ag a0 a1 #[.bool ac.1.1,.slice an ac.1.2.length aj,.slice ao ac.2.length ak]∧Ze 42 2 ag a0 a2 #[.bool ad.1.1,.slice ap ad.1.2.length al,.slice aq ad.2.length am]∧[6].map f=[.int .i64 a7]) N ⟨_,0,_,rfl,hm,aa,ab,ae,rfl⟩ ?_;clear hm;intro n f a0 hI;obtain ⟨ag,a7,ai,hn,hm,aa,ab,ae,hs⟩:=hI;subst hn;refine .lL [6] hs ?_
   cases ai with
   | zero=>rw [Zfb.eq_1] at hm;cases hm
   | succ ai=>
    rw [Zfb.eq_2] at hm;refine go ?_;refine Z9 ⟨_,_,rfl⟩ ?_;refine Z9 (Wg ⟨_,_,rfl⟩) ?_;refine lW ((((ab.atN).part 0 2 _ rfl)).nth (q:=1) rfl)<|go ?_;refine Zl hm (fun hb hm=>go ?_) fun hb hm=>go ?_
    ·refine Y0 (col:=ag) (by kernel_rfl) (by kernel_rfl)<|qF ⟨_,_,rfl⟩ ?_;refine qF (Wg ⟨_,_,rfl⟩) ?_;refine qW (fun _ hC=>((((ab.atN).part 0 2 _ rfl)).nth (q:=1) rfl).gr (hC.bl ag)) ?_;refine go ?_;obtain ⟨bm,a8,hm⟩:=bZ hm;refine qI a8 ((ar.ks aa).addr a8)<|qW (fun _ hC=>((ar.ks aa).gr (hC.bl ag)).atInt a8) ?_;refine qF ⟨_,_,rfl⟩ ?_;refine qF (Wg ⟨_,_,rfl⟩) ?_;refine qW (fun _ hC=>((((ae.atN).part 0 2 _ rfl)).nth (q:=1) rfl).gr (hC.bl ag)) ?_;refine go ?_;obtain ⟨bn,a9,hm⟩:=bZ hm;refine qI a9 ((av.ks aa).addr a9)<|qW (fun _ hC=>((av.ks aa).gr (hC.bl ag)).atInt a9) ?_;refine go ?_;refine Xw ?_;intro bo hC;replace hC:=hC.bl ag;replace ab:=ab.gr hC;replace ae:=ae.gr hC;replace aa:=aa.grow hC;refine Zl hm (fun hb hm=>go ?_) fun hb hm=>go ?_
     ·cases hm;exact ⟨rfl,rfl,aa.below⟩
     exact ⟨ai,by omega,rfl,⟨_,_,_,rfl,hm,aa,ab,ae,rfl⟩⟩
    cases hm;exact ⟨rfl,rfl,aa.below⟩
 refine Wk<|Z9 ⟨_,_,rfl⟩ ?_;refine Z9 (Wg ⟨_,_,rfl⟩) ?_;refine lW ((((ab.atN).part 0 2 _ rfl)).nth (q:=0) rfl)<|Z9 ⟨_,_,rfl⟩ ?_;refine Z9 (Wg ⟨_,_,rfl⟩) ?_;refine lW ((((ae.atN).part 0 2 _ rfl)).nth (q:=0) rfl)<|go ?_;refine Xo hm (fun ba hm=>go ?_) fun ba hm=>go ?_
 ·refine lV (.bool true) (Z5 (congrArg Value.bool ba) rfl)<|Ws rfl<|lP 25 rfl rfl<|lP 25 rfl rfl<|lP 25 rfl rfl<|lP 25 rfl rfl<|lP 25 rfl rfl<|lP 25 rfl rfl<|lP 25 rfl rfl<|lV (.bool true) (Z5 rfl rfl)<|Zj ?_;exact ⟨rfl,_,_,hm,aa,ab,ae,rfl⟩
 refine Z9 ⟨_,_,rfl⟩ ?_;refine go ?_;refine Z9 (Wg ⟨_,_,rfl⟩) ?_;refine go ?_;refine lW ((((ab.atN).part 0 2 _ rfl)).nth (q:=1) rfl)<|go ?_;refine Z9 ⟨_,_,rfl⟩ ?_;refine go ?_;refine Z9 (Wg ⟨_,_,rfl⟩) ?_;refine go ?_;refine lW ((((ae.atN).part 0 2 _ rfl)).nth (q:=1) rfl)<|go ?_;refine lV (.bool (!decide ((ac.1.2.length:Int)=(ad.1.2.length:Int)))) (Xn (congrArg Value.bool ba) rfl)<|Ws rfl ?_;refine Xo hm (fun bb hm=>go ?_) fun bb hm=>go ?_
 ·refine lV (.bool true) (Z5 (congrArg Value.bool bb) rfl)<|Zj ?_;exact ⟨rfl,_,_,hm,aa,ab,ae,rfl⟩
 refine Z9 ⟨_,_,rfl⟩ ?_;refine go ?_;refine lW ((ab.atN).nth (q:=2) rfl)<|go ?_;refine Z9 ⟨_,_,rfl⟩ ?_;refine go ?_;refine lW ((ae.atN).nth (q:=2) rfl)<|go ?_;refine lV (.bool (!decide ((ac.2.length:Int)=(ad.2.length:Int)))) (Xn (congrArg Value.bool bb) rfl)<|Zj ?_;exact ⟨rfl,_,_,hm,aa,ab,ae,rfl⟩
def Zj2 (aa:Int) (kk_L2:(Int→Option Bool)) (ab:Bool):Option Bool:=
  if ab=true then (some false) else (kk_L2 (i64.wrap (aa+1)))
def Ze5 (N:Nat) (ad:R3) (af:R0) (ab:Int) (kk_L2:(Int→Option Bool)) (aa:List Int):Nat→Int→Option Bool
  | 0,_=>none
  | ah+1,ac=>if (decide (ac<(aa.length:Int)))=true then ((Zi ad.2.2.2.1 ab).bind fun ag=>(Zi (ag.2.take ag.1) ac).bind fun ai=>(Zi af.2.2.2.1 ab).bind fun aj=>(Zi aj ac).bind fun ak=>if (!decide (ai=ak))=true then (some false) else ((Ze5 N ad af ab kk_L2 aa ah) (i64.wrap (ac+1)))) else ((Zi ad.2.2.2.1 ab).bind fun ae=>Zv ((0:Int)≤(i64.wrap ((aa.length:Int)+2))∧(i64.wrap ((aa.length:Int)+2))≤(ae.2.length:Int)) ((Zi (ae.2.take (aA (i64.wrap ((aa.length:Int)+2)))) (aa.length:Int)).bind fun al=>if (!decide (al=(-95)))=true then (Zj2 ab kk_L2 true) else ((Zi (ae.2.take (aA (i64.wrap ((aa.length:Int)+2)))) (i64.wrap ((aa.length:Int)+1))).bind fun am=>Zj2 ab kk_L2 (!decide (am=(-96))))))
def Zcs (aa:Int) (kk_L5:(Int→Option Bool)) (ab:Bool):Option Bool:=
  if ab=true then (some false) else (kk_L5 (i64.wrap (aa+1)))
def Ze3 (aa:Int) (kk_L4:(Int→Option Bool)) (ab:Bool):Option Bool:=
  if ab=true then (some false) else (kk_L4 (i64.wrap (aa+1)))
def Sf (N:Nat) (ae:R3) (af:R0) (ab:Int) (kk_L4:(Int→Option Bool)) (ac:R8):Nat→Int→Option Bool
  | 0,_=>none
  | ag+1,ad=>if (decide (ad<(ac.length:Int)))=true then ((Zi ae.2.2.2.2 ab).bind fun al=>(Zi (al.2.take al.1) ad).bind fun aa=>Zv ((0:Int)≤(i64.wrap (((aa.1.2.2.take aa.1.2.1).length:Int)+2))∧(i64.wrap (((aa.1.2.2.take aa.1.2.1).length:Int)+2))≤(aa.1.2.2.length:Int)) (Zv ((0:Int)≤(i64.wrap (((aa.2.2.take aa.2.1).length:Int)+2))∧(i64.wrap (((aa.2.2.take aa.2.1).length:Int)+2))≤(aa.2.2.length:Int)) ((Zi af.2.2.2.2 ab).bind fun am=>(Zi am ad).bind fun aj=>(Zh8 N ((aa.1.1,aa.1.2.2.take aa.1.2.1),aa.2.2.take aa.2.1) ((aj.1.1,aj.1.2),aj.2)).bind fun an=>if (!an)=true then (Zcs ad (Sf N ae af ab kk_L4 ac ag) true) else ((Zi (aa.1.2.2.take (aA (i64.wrap (((aa.1.2.2.take aa.1.2.1).length:Int)+2)))) (i64.wrap (((aa.1.2.2.take (aA (i64.wrap (((aa.1.2.2.take aa.1.2.1).length:Int)+2)))).length:Int) - 1))).bind fun ao=>if (!decide (ao=902))=true then (Zcs ad (Sf N ae af ab kk_L4 ac ag) true) else ((Zi (aa.1.2.2.take (aA (i64.wrap (((aa.1.2.2.take aa.1.2.1).length:Int)+2)))) (i64.wrap (((aa.1.2.2.take (aA (i64.wrap (((aa.1.2.2.take aa.1.2.1).length:Int)+2)))).length:Int) - 2))).bind fun ap=>if (!decide (ap=901))=true then (Zcs ad (Sf N ae af ab kk_L4 ac ag) true) else ((Zi (aa.2.2.take (aA (i64.wrap (((aa.2.2.take aa.2.1).length:Int)+2)))) (i64.wrap (((aa.2.2.take (aA (i64.wrap (((aa.2.2.take aa.2.1).length:Int)+2)))).length:Int) - 1))).bind fun aq=>if (!decide (aq=904))=true then (Zcs ad (Sf N ae af ab kk_L4 ac ag) true) else ((Zi (aa.2.2.take (aA (i64.wrap (((aa.2.2.take aa.2.1).length:Int)+2)))) (i64.wrap (((aa.2.2.take (aA (i64.wrap (((aa.2.2.take aa.2.1).length:Int)+2)))).length:Int) - 2))).bind fun ar=>Zcs ad (Sf N ae af ab kk_L4 ac ag) (!decide (ar=903))))))))) else ((Zi ae.2.2.2.2 ab).bind fun ak=>Zv ((0:Int)≤(i64.wrap ((ac.length:Int)+2))∧(i64.wrap ((ac.length:Int)+2))≤(ak.2.length:Int)) ((Zi (ak.2.take (aA (i64.wrap ((ac.length:Int)+2)))) (ac.length:Int)).bind fun ah=>if (!decide (((ah.2.2.take ah.2.1).length:Int)=1))=true then (Ze3 ab kk_L4 true) else ((Zi (ah.2.2.take ah.2.1) 0).bind fun au=>if (!decide (au=97))=true then (Ze3 ab kk_L4 true) else ((Zi (ak.2.take (aA (i64.wrap ((ac.length:Int)+2)))) (i64.wrap ((ac.length:Int)+1))).bind fun ai=>if (!decide (((ai.2.2.take ai.2.1).length:Int)=1))=true then (Ze3 ab kk_L4 true) else ((Zi (ai.2.2.take ai.2.1) 0).bind fun av=>Ze3 ab kk_L4 (!decide (av=98)))))))
def Qf (N:Nat) (ac:R3) (aa:R0):Nat→Int→Option Bool
  | 0,_=>none
  | af+1,ab=>if (decide (ab<(aa.2.2.2.2.length:Int)))=true then ((Zi aa.2.2.2.2 ab).bind fun ad=>(Zi ac.2.2.2.2 ab).bind fun ae=>if (!decide (((ae.2.take ae.1).length:Int)=(ad.length:Int)))=true then (some false) else (Sf N ac aa ab (Qf N ac aa af) ad N 0)) else (some true)
def Q7 (N:Nat) (ab:R3) (aa:R0):Nat→Int→Option Bool
  | 0,_=>none
  | af+1,ac=>if (decide (ac<(aa.2.2.2.1.length:Int)))=true then ((Zi aa.2.2.2.1 ac).bind fun ad=>(Zi ab.2.2.2.1 ac).bind fun ae=>if (!decide (((ae.2.take ae.1).length:Int)=(ad.length:Int)))=true then (some false) else (Ze5 N ab aa ac (Q7 N ab aa af) ad N 0)) else (Qf N ab aa N 0)
def Ze4 (N:Nat) (ac:R3) (aa:R0):Nat→Int→Option Bool
  | 0,_=>none
  | ae+1,ab=>if (decide (ab<(aa.2.2.1.length:Int)))=true then ((Zi ac.2.2.1 ab).bind fun ad=>(Zi aa.2.2.1 ab).bind fun af=>(Zfi N ad.1 ad.2 af (⟨#[35,51]⟩) (⟨#[35,52]⟩)).bind fun ag=>if (!ag)=true then (some false) else ((Ze4 N ac aa ae) (i64.wrap (ab+1)))) else (Q7 N ac aa N 0)
def Zcr (N:Nat) (aa:R3) (ab:R0) (ac:Bool):Option Bool:=
  if ac=true then (some false) else (Ze4 N aa ab N 0)
def Zh4 (N:Nat) (aa:R3) (ab:R0):Option Bool:=
  if (!decide (aa.1=ab.1))=true then (Zcr N aa ab true) else (if (!decide ((aa.2.2.1.length:Int)=(ab.2.2.1.length:Int)))=true then (Zcr N aa ab true) else (if (!decide ((aa.2.2.2.1.length:Int)=(ab.2.2.2.1.length:Int)))=true then (Zcr N aa ab true) else (if (!decide ((aa.2.2.2.2.length:Int)=(ab.2.2.2.2.length:Int)))=true then (Zcr N aa ab true) else ((Zfi N aa.2.1.1 aa.2.1.2 ab.2.1 (⟨#[35,49]⟩) (⟨#[35,50]⟩)).bind fun ac=>Zcr N aa ab (!ac)))))
theorem Z0r {N al am an ao ap aq ar au:Nat} {av aw ax ay az a0 a1 a2:Option Addr} {col:Zd} {w0:World} {ab:R3} {ac:R0} {r:Bool} (hm:Zh4 N ab ac=some r) (cp:Sl Za.str col w0 av al ab.2.1.2) (b1:Sl (Za.view Za.str) col w0 aw am ab.2.2.1) (ba:Sl (Za.view rI) col w0 ax an ab.2.2.2.1) (bb:Sl (Za.view (Za.pair (Za.pair Za.bool (Za.view rU)) (Za.view rU))) col w0 ay ao ab.2.2.2.2) (cq:Sl Za.str col w0 az ap ac.2.1) (b2:Sl rV col w0 a0 aq ac.2.2.1) (bi:Sl rP col w0 a1 ar ac.2.2.2.1) (bj:Sl (Za.slice rQ) col w0 a2 au ac.2.2.2.2):
    Calls prog 12 #[(.agg #[.string ab.1,.slice av ((ab.2.1.2.take ab.2.1.1).length) al,.slice aw ab.2.2.1.length am,.slice ax ab.2.2.2.1.length an,.slice ay ab.2.2.2.2.length ao]),(.agg #[.string ac.1,.slice az ac.2.1.length ap,.slice a0 ac.2.2.1.length aq,.slice a1 ac.2.2.2.1.length ar,.slice a2 ac.2.2.2.2.length au])] w0 (W1 w0 r):=by
 refine Z7 4 (m:=283) func12 rfl rfl rfl rfl rfl ?_;rw [Zh4.eq_1] at hm;have aa:=St.start col w0;refine go ?_;refine Xf (col:=(Zg col)) 1 rfl ?_;intro a7 ha ed ee ad;refine Xf (col:=ed) 2 rfl ?_;intro a8 ef d9 ea ae;refine Qu rfl<|Zj<|Zw<|Zw ?_;replace b1:=b1.k0;replace ba:=ba.k0;replace bb:=bb.k0;replace b2:=b2.k0;replace bi:=bi.k0;replace bj:=bj.k0;replace aa:=(aa.grow ee).grow ea;replace ad:=ad.gr ea;refine Wp.cutK [2,3,1000000] (fun f b3=>∃ b4 cr,Zcr N ab ac cr=some r∧St w0 (Zg col) b4 b3∧Ze 27 1 b4 b3 a7 #[.string ab.1,.slice av ((ab.2.1.2.take ab.2.1.1).length) al,.slice aw ab.2.2.1.length am,.slice ax ab.2.2.2.1.length an,.slice ay ab.2.2.2.2.length ao]∧Ze 27 2 b4 b3 a8 #[.string ac.1,.slice az ac.2.1.length ap,.slice a0 ac.2.2.1.length aq,.slice a1 ac.2.2.2.1.length ar,.slice a2 ac.2.2.2.2.length au]∧[56].map f=[.bool cr]) ?_ ?_
 ·intro f b3 hJ;obtain ⟨b4,cr,hm,aa,ad,ae,hs⟩:=hJ;rw [Zcr.eq_1] at hm;refine .lL [56] hs ?_;refine Zl hm (fun hb hm=>go ?_) fun hb hm=>go ?_
  ·cases hm;exact ⟨rfl,rfl,aa.below⟩
  refine Zt [2,3,1000000] (fun n f bp=>∃ ak cs bk,bk=n∧Ze4 N ab ac bk cs=some r∧St w0 (Zg col) ak bp∧Ze 27 1 ak bp a7 #[.string ab.1,.slice av ((ab.2.1.2.take ab.2.1.1).length) al,.slice aw ab.2.2.1.length am,.slice ax ab.2.2.2.1.length an,.slice ay ab.2.2.2.2.length ao]∧Ze 27 2 ak bp a8 #[.string ac.1,.slice az ac.2.1.length ap,.slice a0 ac.2.2.1.length aq,.slice a1 ac.2.2.2.1.length ar,.slice a2 ac.2.2.2.2.length au]∧[5].map f=[.int .i64 cs]) N ⟨_,0,_,rfl,hm,aa,ad,ae,rfl⟩ ?_;clear hm;intro n f bp hI;obtain ⟨ak,cs,bk,hn,hm,aa,ad,ae,hs⟩:=hI;subst hn;refine .lL [5] hs ?_
  cases bk with
  | zero=>rw [Ze4.eq_1] at hm;cases hm
  | succ bk=>
   rw [Ze4.eq_2] at hm;refine go ?_;refine Zy ae ?_;refine go ?_;refine Zl hm (fun hb hm=>go ?_) fun hb hm=>go ?_
   ·refine Y0 (col:=ak) (by kernel_rfl) (by kernel_rfl)<|qF ⟨_,_,rfl⟩ ?_;refine qW (fun _ hC=>((ad.atN).nth (q:=2) rfl).gr (hC.bl ak)) ?_;refine go ?_;obtain ⟨eg,ct,hm⟩:=bZ hm;refine qI ct ((b1.ks aa).addr ct) ?_;obtain ⟨_,eh,ei⟩:=(b1.ks aa).atN ct;obtain ⟨⟨ej,ek,rfl,cu⟩,_⟩:=eh;replace cu:Sl Za.str ak bp ej ek eg.2:=cu;refine qW (fun _ hC=>ei.one.gr (hC.bl ak)) ?_;refine qF ⟨_,_,rfl⟩ ?_;refine qW (fun _ hC=>((ae.atN).nth (q:=2) rfl).gr (hC.bl ak)) ?_;refine go ?_;obtain ⟨hc,cv,hm⟩:=bZ hm;refine qI cv ((b2.ks aa).addr cv) ?_;obtain ⟨_,el,em⟩:=(b2.ks aa).atN cv;obtain ⟨⟨hd,he,rfl,en⟩,_⟩:=el;refine qW (fun _ hC=>em.one.gr (hC.bl ak)) ?_;obtain ⟨eo,ep,hm⟩:=bZ hm;refine qc (v:=(.bool eo)) rfl (fun _ hC=>⟨_,_,Zvn call45 rfl rfl rfl rfl,(Zq7 ep (cu.gr (hC.bl ak)) (en.gr (hC.bl ak)):).mono fun _ _ h=>⟨h.1,hC.trans (.of_below h.2)⟩⟩) ?_;refine go ?_;refine Xw ?_;intro hf hC;replace hC:=hC.bl ak;replace ad:=ad.gr hC;replace ae:=ae.gr hC;replace aa:=aa.grow hC;refine Zl hm (fun hb hm=>go ?_) fun hb hm=>go ?_
    ·cases hm;exact ⟨rfl,rfl,aa.below⟩
    exact ⟨bk,by omega,rfl,⟨_,_,_,rfl,hm,aa,ad,ae,rfl⟩⟩
   refine Zt [2,3,1000000] (fun n f b5=>∃ b6 bq bc,bc=n∧Q7 N ab ac bc bq=some r∧St w0 (Zg col) b6 b5∧Ze 27 1 b6 b5 a7 #[.string ab.1,.slice av ((ab.2.1.2.take ab.2.1.1).length) al,.slice aw ab.2.2.1.length am,.slice ax ab.2.2.2.1.length an,.slice ay ab.2.2.2.2.length ao]∧Ze 27 2 b6 b5 a8 #[.string ac.1,.slice az ac.2.1.length ap,.slice a0 ac.2.2.1.length aq,.slice a1 ac.2.2.2.1.length ar,.slice a2 ac.2.2.2.2.length au]∧[6].map f=[.int .i64 bq]) N ⟨_,0,_,rfl,hm,aa,ad,ae,rfl⟩ ?_;clear hm;intro n f b5 hI;obtain ⟨b6,bq,bc,hn,hm,aa,ad,ae,hs⟩:=hI;subst hn;refine .lL [6] hs ?_
   cases bc with
   | zero=>rw [Q7.eq_1] at hm;cases hm
   | succ bc=>
    rw [Q7.eq_2] at hm;refine go ?_;refine Zy ae ?_;refine go ?_;refine Zl hm (fun hb hm=>go ?_) fun hb hm=>go ?_
    ·refine Zy ae<|Xe rfl ?_;obtain ⟨bd,cw,hm⟩:=bZ hm;refine lI cw ((bi.ks aa).addr cw) ?_;obtain ⟨_,eq,er⟩:=(bi.ks aa).atN cw;obtain ⟨⟨hg,hh,rfl,hi⟩,_⟩:=eq;refine lW er.one<|go ?_;refine Zy ad<|Xe rfl ?_;obtain ⟨hj,cx,hm⟩:=bZ hm;refine lI cx ((ba.ks aa).addr cx) ?_;obtain ⟨_,es,et⟩:=(ba.ks aa).atN cx;obtain ⟨⟨hk,hl,rfl,ho⟩,_⟩:=es;refine lW et.one<|go ?_;refine Zl hm (fun hb hm=>go ?_) fun hb hm=>go ?_
     ·cases hm;exact ⟨rfl,rfl,aa.below⟩
     refine Zt [2,3,6,7,1000000] (fun n f bm=>∃ aj cy bn,bn=n∧Ze5 N ab ac bq (Q7 N ab ac bc) bd bn cy=some r∧St w0 (Zg col) aj bm∧Ze 27 1 aj bm a7 #[.string ab.1,.slice av ((ab.2.1.2.take ab.2.1.1).length) al,.slice aw ab.2.2.1.length am,.slice ax ab.2.2.2.1.length an,.slice ay ab.2.2.2.2.length ao]∧Ze 27 2 aj bm a8 #[.string ac.1,.slice az ac.2.1.length ap,.slice a0 ac.2.2.1.length aq,.slice a1 ac.2.2.2.1.length ar,.slice a2 ac.2.2.2.2.length au]∧[8].map f=[.int .i64 cy]) N ⟨_,0,_,rfl,hm,aa,ad,ae,rfl⟩ ?_;clear hm;intro n f bm hI;obtain ⟨aj,cy,bn,hn,hm,aa,ad,ae,hs⟩:=hI;subst hn;refine .lL [8] hs ?_
     cases bn with
     | zero=>rw [Ze5.eq_1] at hm;cases hm
     | succ bn=>
      rw [Ze5.eq_2] at hm;refine go ?_;refine Zl hm (fun hb hm=>go ?_) fun hb hm=>go ?_
      ·refine Y0 (col:=aj) (by kernel_rfl) (by kernel_rfl)<|qF ⟨_,_,rfl⟩ ?_;refine qW (fun _ hC=>((ad.atN).nth (q:=3) rfl).gr (hC.bl aj)) ?_;refine go ?_;obtain ⟨cz,c0,hm⟩:=bZ hm;refine qI c0 ((ba.ks aa).addr c0) ?_;obtain ⟨_,eu,ew⟩:=(ba.ks aa).atN c0;obtain ⟨⟨ey,ez,rfl,b7⟩,_⟩:=eu;replace b7:Sl rI aj bm ey ez cz.2:=b7;refine qW (fun _ hC=>ew.one.gr (hC.bl aj)) ?_;refine go ?_;obtain ⟨hp,c1,hm⟩:=bZ hm;refine qI c1 ((b7.take cz.1).addr c1)<|qW (fun _ hC=>((b7.take cz.1).gr (hC.bl aj)).atInt c1) ?_;refine qF ⟨_,_,rfl⟩ ?_;refine qW (fun _ hC=>((ae.atN).nth (q:=3) rfl).gr (hC.bl aj)) ?_;refine go ?_;obtain ⟨hq,c2,hm⟩:=bZ hm;refine qI c2 ((bi.ks aa).addr c2) ?_;obtain ⟨_,e0,e1⟩:=(bi.ks aa).atN c2;obtain ⟨⟨hr,ht,rfl,eb⟩,_⟩:=e0;refine qW (fun _ hC=>e1.one.gr (hC.bl aj)) ?_;refine go ?_;obtain ⟨hu,c3,hm⟩:=bZ hm;refine qI c3 (eb.addr c3)<|qW (fun _ hC=>(eb.gr (hC.bl aj)).atInt c3) ?_;refine go ?_;refine Xw ?_;intro hv hC;replace hC:=hC.bl aj;replace ad:=ad.gr hC;replace ae:=ae.gr hC;replace aa:=aa.grow hC;refine Zl hm (fun hb hm=>go ?_) fun hb hm=>go ?_
       ·cases hm;exact ⟨rfl,rfl,aa.below⟩
       exact ⟨bn,by omega,rfl,⟨_,_,_,rfl,hm,aa,ad,ae,rfl⟩⟩
      refine Zy ad<|Xe rfl ?_;obtain ⟨c4,c5,hm⟩:=bZ hm;refine lI c5 ((ba.ks aa).addr c5) ?_;obtain ⟨_,e2,e3⟩:=(ba.ks aa).atN c5;obtain ⟨⟨b8,b9,rfl,bg⟩,_⟩:=e2;replace bg:Sl rI aj bm b8 b9 c4.2:=bg;refine lW e3.one<|go ?_;obtain ⟨c6,hm⟩:=Zx hm;refine lv (v:=.slice b8 (aA (i64.wrap ((bd.length:Int)+2))) b9) rfl rfl (V8 underlying36 sizeOf3 rfl rfl c6.1 (by have:=bg.1.2;have:=c6.2;omega))<|.ld (d:=126) (v:=(.slice b8 ((c4.2.take (aA (i64.wrap ((bd.length:Int)+2)))).length) b9)) (congrArg (fun n=>Value.slice b8 n b9) (bG (show (aA (i64.wrap ((bd.length:Int)+2)))≤c4.2.length by have:=c6.2;omega)).symm) ?_;refine Zbx rfl<|Zj<|Zw ?_;refine Wp.cutK [2,3,6,1000000] (fun f ca=>∃ cb c7,Zj2 bq (Q7 N ab ac bc) c7=some r∧St w0 (Zg col) cb ca∧Ze 27 1 cb ca a7 #[.string ab.1,.slice av ((ab.2.1.2.take ab.2.1.1).length) al,.slice aw ab.2.2.1.length am,.slice ax ab.2.2.2.1.length an,.slice ay ab.2.2.2.2.length ao]∧Ze 27 2 cb ca a8 #[.string ac.1,.slice az ac.2.1.length ap,.slice a0 ac.2.2.1.length aq,.slice a1 ac.2.2.2.1.length ar,.slice a2 ac.2.2.2.2.length au]∧[139].map f=[.bool c7]) ?_ ?_
      ·intro f ca hJ;obtain ⟨cb,c7,hm,aa,ad,ae,hs⟩:=hJ;rw [Zj2.eq_1] at hm;refine .lL [139] hs ?_;refine Zl hm (fun hb hm=>go ?_) fun hb hm=>go ?_
       ·cases hm;exact ⟨rfl,rfl,aa.below⟩
       exact ⟨bc,by omega,rfl,⟨_,_,_,rfl,hm,aa,ad,ae,rfl⟩⟩
      refine go ?_;obtain ⟨hw,c8,hm⟩:=bZ hm;refine lI c8 ((bg.take (aA (i64.wrap ((bd.length:Int)+2)))).addr c8)<|lW ((bg.take (aA (i64.wrap ((bd.length:Int)+2)))).atInt c8) ?_;refine go ?_;refine Xo hm (fun c9 hm=>go ?_) fun c9 hm=>go ?_
      ·refine lV (.bool true) (Z5 (congrArg Value.bool c9) rfl)<|Zj ?_;exact ⟨rfl,_,_,hm,aa,ad,ae,rfl⟩
      obtain ⟨e4,da,hm⟩:=bZ hm;refine lI da ((bg.take (aA (i64.wrap ((bd.length:Int)+2)))).addr da) ?_;refine go ?_;refine lW ((bg.take (aA (i64.wrap ((bd.length:Int)+2)))).atInt da)<|go ?_;refine lV (.bool (!decide (e4=(-96)))) (Xn (congrArg Value.bool c9) rfl)<|Zj ?_;exact ⟨rfl,_,_,hm,aa,ad,ae,rfl⟩
    refine Zt [2,3,1000000] (fun n f cc=>∃ cd bo a9,a9=n∧Qf N ab ac a9 bo=some r∧St w0 (Zg col) cd cc∧Ze 27 1 cd cc a7 #[.string ab.1,.slice av ((ab.2.1.2.take ab.2.1.1).length) al,.slice aw ab.2.2.1.length am,.slice ax ab.2.2.2.1.length an,.slice ay ab.2.2.2.2.length ao]∧Ze 27 2 cd cc a8 #[.string ac.1,.slice az ac.2.1.length ap,.slice a0 ac.2.2.1.length aq,.slice a1 ac.2.2.2.1.length ar,.slice a2 ac.2.2.2.2.length au]∧[10].map f=[.int .i64 bo]) N ⟨_,0,_,rfl,hm,aa,ad,ae,rfl⟩ ?_;clear hm;intro n f cc hI;obtain ⟨cd,bo,a9,hn,hm,aa,ad,ae,hs⟩:=hI;subst hn;refine .lL [10] hs ?_
    cases a9 with
    | zero=>rw [Qf.eq_1] at hm;cases hm
    | succ a9=>
     rw [Qf.eq_2] at hm;refine go ?_;refine Zy ae ?_;refine go ?_;refine Zl hm (fun hb hm=>go ?_) fun hb hm=>go ?_
     ·refine Zy ae<|Xe rfl ?_;obtain ⟨ah,db,hm⟩:=bZ hm;refine lI db ((bj.ks aa).addr db) ?_;obtain ⟨_,e5,e6⟩:=(bj.ks aa).atN db;obtain ⟨⟨hx,hy,rfl,hz⟩,_⟩:=e5;refine lW e6.one<|go ?_;refine Zy ad<|Xe rfl ?_;obtain ⟨h0,dc,hm⟩:=bZ hm;refine lI dc ((bb.ks aa).addr dc) ?_;obtain ⟨_,e7,e8⟩:=(bb.ks aa).atN dc;obtain ⟨⟨h1,h2,rfl,h3⟩,_⟩:=e7;refine lW e8.one<|go ?_;refine Zl hm (fun hb hm=>go ?_) fun hb hm=>go ?_
      ·cases hm;exact ⟨rfl,rfl,aa.below⟩
      refine Zt [10,11,2,3,1000000] (fun n f a4=>∃ a3 ce bh,bh=n∧Sf N ab ac bo (Qf N ab ac a9) ah bh ce=some r∧St w0 (Zg col) a3 a4∧Ze 27 1 a3 a4 a7 #[.string ab.1,.slice av ((ab.2.1.2.take ab.2.1.1).length) al,.slice aw ab.2.2.1.length am,.slice ax ab.2.2.2.1.length an,.slice ay ab.2.2.2.2.length ao]∧Ze 27 2 a3 a4 a8 #[.string ac.1,.slice az ac.2.1.length ap,.slice a0 ac.2.2.1.length aq,.slice a1 ac.2.2.2.1.length ar,.slice a2 ac.2.2.2.2.length au]∧[12].map f=[.int .i64 ce]) N ⟨_,0,_,rfl,hm,aa,ad,ae,rfl⟩ ?_;clear hm;intro n f a4 hI;obtain ⟨a3,ce,bh,hn,hm,aa,ad,ae,hs⟩:=hI;subst hn;refine .lL [12] hs ?_
      cases bh with
      | zero=>rw [Sf.eq_1] at hm;cases hm
      | succ bh=>
       rw [Sf.eq_2] at hm;refine go ?_;refine Zl hm (fun hb hm=>go ?_) fun hb hm=>go ?_
       ·refine Zy ad<|Xe rfl ?_;obtain ⟨dd,de,hm⟩:=bZ hm;refine lI de ((bb.ks aa).addr de) ?_;obtain ⟨_,e9,fa⟩:=(bb.ks aa).atN de;obtain ⟨⟨fb,fc,rfl,cf⟩,_⟩:=e9;replace cf:Sl (Za.pair (Za.pair Za.bool (Za.view rU)) (Za.view rU)) a3 a4 fb fc dd.2:=cf;refine lW fa.one<|Xe rfl ?_;obtain ⟨af,df,hm⟩:=bZ hm;refine lI df ((cf.take dd.1).addr df) ?_;obtain ⟨_,fd,fe⟩:=(cf.take dd.1).atN df;obtain ⟨_,_,rfl,ff,fg⟩:=Yr fd;obtain ⟨_,_,rfl,fh,fi⟩:=Yr ff;obtain ⟨rfl,_⟩:=fh;obtain ⟨⟨br,bs,rfl,a5⟩,_⟩:=fi;replace a5:Sl rU a3 a4 br bs af.1.2.2:=a5;obtain ⟨⟨bt,bu,rfl,a6⟩,_⟩:=fg;replace a6:Sl rU a3 a4 bt bu af.2.2:=a6;refine lV (.agg #[.bool af.1.1,.slice br ((af.1.2.2.take af.1.2.1).length) bs,.slice bt ((af.2.2.take af.2.1).length) bu]) (Yq isAgg42 sizeOf42 rfl rfl fe)<|Xt (col:=a3) #[.bool false,(nI),(nI)] 3 zeroValue42 ?_;intro h4 h5 ag bv fj;refine Xg fj ?_;intro h6 bw fk bx;refine go ?_;refine Z9 ⟨_,_,rfl⟩ ?_;refine Z9 (Wg ⟨_,_,rfl⟩) ?_;refine lW ((((bx.atN).part 0 2 _ rfl)).nth (q:=1) rfl)<|Z9 ⟨_,_,rfl⟩ ?_;refine Z9 (Wg ⟨_,_,rfl⟩) ?_;refine lW ((((bx.atN).part 0 2 _ rfl)).nth (q:=1) rfl)<|go ?_;obtain ⟨dg,hm⟩:=Zx hm;replace a5:=(a5.gr bv).kp bw;refine lv (v:=.slice br (aA (i64.wrap (((af.1.2.2.take af.1.2.1).length:Int)+2))) bs) rfl rfl (V8 underlying38 sizeOf45 rfl rfl dg.1 (by have:=a5.1.2;have:=dg.2;omega))<|.ld (d:=182) (v:=(.slice br ((af.1.2.2.take (aA (i64.wrap (((af.1.2.2.take af.1.2.1).length:Int)+2)))).length) bs)) (congrArg (fun n=>Value.slice br n bs) (bG (show (aA (i64.wrap (((af.1.2.2.take af.1.2.1).length:Int)+2)))≤af.1.2.2.length by have:=dg.2;omega)).symm) ?_;refine go ?_;refine Zy bx<|Zy bx ?_;refine go ?_;obtain ⟨dh,hm⟩:=Zx hm;replace a6:=(a6.gr bv).kp bw
        refine lv (v:=.slice bt (aA (i64.wrap (((af.2.2.take af.2.1).length:Int)+2))) bu) rfl rfl (V8 underlying38 sizeOf45 rfl rfl dh.1 (by have:=a6.1.2;have:=dh.2;omega))<|.ld (d:=189) (v:=(.slice bt ((af.2.2.take (aA (i64.wrap (((af.2.2.take af.2.1).length:Int)+2)))).length) bu)) (congrArg (fun n=>Value.slice bt n bu) (bG (show (aA (i64.wrap (((af.2.2.take af.2.1).length:Int)+2)))≤af.2.2.length by have:=dh.2;omega)).symm) ?_;refine Zbx rfl<|Zj<|Zw ?_;replace ad:=(ad.gr bv).kp bw;replace ae:=(ae.gr bv).kp bw;replace aa:=(aa.grow bv).kp bw fk;refine Wp.cutK [10,11,12,2,3,1000000] (fun f cg=>∃ ch di,Zcs ce (Sf N ab ac bo (Qf N ab ac a9) ah bh) di=some r∧St w0 (Zg col) ch cg∧Ze 27 1 ch cg a7 #[.string ab.1,.slice av ((ab.2.1.2.take ab.2.1.1).length) al,.slice aw ab.2.2.1.length am,.slice ax ab.2.2.2.1.length an,.slice ay ab.2.2.2.2.length ao]∧Ze 27 2 ch cg a8 #[.string ac.1,.slice az ac.2.1.length ap,.slice a0 ac.2.2.1.length aq,.slice a1 ac.2.2.2.1.length ar,.slice a2 ac.2.2.2.2.length au]∧[236].map f=[.bool di]) ?_ ?_
        ·intro f cg hJ;obtain ⟨ch,di,hm,aa,ad,ae,hs⟩:=hJ;rw [Zcs.eq_1] at hm;refine .lL [236] hs ?_;refine Zl hm (fun hb hm=>go ?_) fun hb hm=>go ?_
         ·cases hm;exact ⟨rfl,rfl,aa.below⟩
         exact ⟨bh,by omega,rfl,⟨_,_,_,rfl,hm,aa,ad,ae,rfl⟩⟩
        refine Y0 (col:=ag) (by kernel_rfl) (by kernel_rfl)<|qv rfl (fun _ hC=>Xh isAgg42 sizeOf42 (bx.gr (hC.bl ag))) ?_;refine qF ⟨_,_,rfl⟩ ?_;refine qW (fun _ hC=>((ae.atN).nth (q:=4) rfl).gr (hC.bl ag)) ?_;refine go ?_;obtain ⟨h7,dj,hm⟩:=bZ hm;refine qI dj ((bj.ks aa).addr dj) ?_;obtain ⟨_,fl,fm⟩:=(bj.ks aa).atN dj;obtain ⟨⟨h8,h9,rfl,ec⟩,_⟩:=fl;refine qW (fun _ hC=>fm.one.gr (hC.bl ag)) ?_;refine go ?_;obtain ⟨dk,dl,hm⟩:=bZ hm;refine qI dl (ec.addr dl) ?_;obtain ⟨_,fn,fp⟩:=ec.atN dl;obtain ⟨_,_,rfl,fq,fr⟩:=Yr fn;obtain ⟨_,_,rfl,ft,fu⟩:=Yr fq;obtain ⟨rfl,_⟩:=ft;obtain ⟨⟨fv,fw,rfl,fx⟩,_⟩:=fu;obtain ⟨⟨fy,fz,rfl,f0⟩,_⟩:=fr;refine qv (v:=(.agg #[.bool dk.1.1,.slice fv dk.1.2.length fw,.slice fy dk.2.length fz])) rfl (fun _ hC=>Yq isAgg42 sizeOf42 rfl rfl (fp.gr (hC.bl ag))) ?_;obtain ⟨f1,f2,hm⟩:=bZ hm;refine qc (v:=(.bool f1)) rfl (fun _ hC=>⟨_,_,Sn call46 rfl rfl,(Z0v f2 ((a5.take af.1.2.1).gr (hC.bl ag)) ((a6.take af.2.1).gr (hC.bl ag)) (fx.gr (hC.bl ag)) (f0.gr (hC.bl ag)):).mono fun _ _ h=>⟨h.1,hC.trans (.of_below h.2)⟩⟩) ?_;refine go ?_;refine Xo hm (fun dm hm=>go ?_) fun dm hm=>go ?_
        ·refine qv (v:=(.bool true)) rfl (fun _ hC=>Z5 (congrArg Value.bool dm) rfl) ?_;refine go ?_;refine qP 210 rfl rfl<|qP 210 rfl rfl<|qP 210 rfl rfl<|qP 210 rfl rfl<|qP 210 rfl rfl<|qP 210 rfl rfl<|qP 210 rfl rfl<|qv (v:=(.bool true)) rfl (fun _ hC=>Z5 rfl rfl) ?_;refine go ?_;refine qP 219 rfl rfl<|qP 219 rfl rfl<|qP 219 rfl rfl<|qP 219 rfl rfl<|qP 219 rfl rfl<|qP 219 rfl rfl<|qP 219 rfl rfl<|qv (v:=(.bool true)) rfl (fun _ hC=>Z5 rfl rfl) ?_;refine go ?_;refine qP 228 rfl rfl<|qP 228 rfl rfl<|qP 228 rfl rfl<|qP 228 rfl rfl<|qP 228 rfl rfl<|qP 228 rfl rfl<|qP 228 rfl rfl<|qv (v:=(.bool true)) rfl (fun _ hC=>Z5 rfl rfl) ?_;refine Xw ?_;intro ia hC;replace hC:=hC.bl ag;replace ad:=ad.gr hC;replace ae:=ae.gr hC;replace aa:=aa.grow hC;exact ⟨rfl,_,_,hm,aa,ad,ae,rfl⟩
        obtain ⟨f3,dn,hm⟩:=bZ hm;refine qI dn ((a5.take (aA (i64.wrap (((af.1.2.2.take af.1.2.1).length:Int)+2)))).addr dn) ?_;refine go ?_;refine qW (fun _ hC=>((a5.take (aA (i64.wrap (((af.1.2.2.take af.1.2.1).length:Int)+2)))).gr (hC.bl ag)).atInt dn) ?_;refine go ?_;refine qv (v:=(.bool (!decide (f3=902)))) rfl (fun _ hC=>Xn (congrArg Value.bool dm) rfl) ?_;refine go ?_;refine Xo hm (fun dp hm=>go ?_) fun dp hm=>go ?_
        ·refine qv (v:=(.bool true)) rfl (fun _ hC=>Z5 (congrArg Value.bool dp) rfl) ?_;refine go ?_;refine qP 219 rfl rfl<|qP 219 rfl rfl<|qP 219 rfl rfl<|qP 219 rfl rfl<|qP 219 rfl rfl<|qP 219 rfl rfl<|qP 219 rfl rfl<|qv (v:=(.bool true)) rfl (fun _ hC=>Z5 rfl rfl) ?_;refine go ?_;refine qP 228 rfl rfl<|qP 228 rfl rfl<|qP 228 rfl rfl<|qP 228 rfl rfl<|qP 228 rfl rfl<|qP 228 rfl rfl<|qP 228 rfl rfl<|qv (v:=(.bool true)) rfl (fun _ hC=>Z5 rfl rfl) ?_;refine Xw ?_;intro ib hC;replace hC:=hC.bl ag;replace ad:=ad.gr hC;replace ae:=ae.gr hC;replace aa:=aa.grow hC;exact ⟨rfl,_,_,hm,aa,ad,ae,rfl⟩
        obtain ⟨f4,dq,hm⟩:=bZ hm;refine qI dq ((a5.take (aA (i64.wrap (((af.1.2.2.take af.1.2.1).length:Int)+2)))).addr dq) ?_;refine go ?_;refine qW (fun _ hC=>((a5.take (aA (i64.wrap (((af.1.2.2.take af.1.2.1).length:Int)+2)))).gr (hC.bl ag)).atInt dq) ?_;refine go ?_;refine qv (v:=(.bool (!decide (f4=901)))) rfl (fun _ hC=>Xn (congrArg Value.bool dp) rfl) ?_;refine go ?_;refine Xo hm (fun dr hm=>go ?_) fun dr hm=>go ?_
        ·refine qv (v:=(.bool true)) rfl (fun _ hC=>Z5 (congrArg Value.bool dr) rfl) ?_;refine go ?_;refine qP 228 rfl rfl<|qP 228 rfl rfl<|qP 228 rfl rfl<|qP 228 rfl rfl<|qP 228 rfl rfl<|qP 228 rfl rfl<|qP 228 rfl rfl<|qv (v:=(.bool true)) rfl (fun _ hC=>Z5 rfl rfl) ?_;refine Xw ?_;intro ic hC;replace hC:=hC.bl ag;replace ad:=ad.gr hC;replace ae:=ae.gr hC;replace aa:=aa.grow hC;exact ⟨rfl,_,_,hm,aa,ad,ae,rfl⟩
        obtain ⟨f5,ds,hm⟩:=bZ hm;refine qI ds ((a6.take (aA (i64.wrap (((af.2.2.take af.2.1).length:Int)+2)))).addr ds) ?_;refine go ?_;refine qW (fun _ hC=>((a6.take (aA (i64.wrap (((af.2.2.take af.2.1).length:Int)+2)))).gr (hC.bl ag)).atInt ds) ?_;refine go ?_;refine qv (v:=(.bool (!decide (f5=904)))) rfl (fun _ hC=>Xn (congrArg Value.bool dr) rfl) ?_;refine go ?_;refine Xo hm (fun dt hm=>go ?_) fun dt hm=>go ?_
        ·refine qv (v:=(.bool true)) rfl (fun _ hC=>Z5 (congrArg Value.bool dt) rfl) ?_;refine Xw ?_;intro id hC;replace hC:=hC.bl ag;replace ad:=ad.gr hC;replace ae:=ae.gr hC;replace aa:=aa.grow hC;exact ⟨rfl,_,_,hm,aa,ad,ae,rfl⟩
        obtain ⟨f6,du,hm⟩:=bZ hm;refine qI du ((a6.take (aA (i64.wrap (((af.2.2.take af.2.1).length:Int)+2)))).addr du) ?_;refine go ?_;refine qW (fun _ hC=>((a6.take (aA (i64.wrap (((af.2.2.take af.2.1).length:Int)+2)))).gr (hC.bl ag)).atInt du) ?_;refine go ?_;refine qv (v:=(.bool (!decide (f6=903)))) rfl (fun _ hC=>Xn (congrArg Value.bool dt) rfl) ?_;refine Xw ?_;intro ie hC;replace hC:=hC.bl ag;replace ad:=ad.gr hC;replace ae:=ae.gr hC;replace aa:=aa.grow hC;exact ⟨rfl,_,_,hm,aa,ad,ae,rfl⟩
       refine Zy ad<|Xe rfl ?_;obtain ⟨dv,dw,hm⟩:=bZ hm;refine lI dw ((bb.ks aa).addr dw) ?_;obtain ⟨_,f7,f8⟩:=(bb.ks aa).atN dw;obtain ⟨⟨ci,cj,rfl,ai⟩,_⟩:=f7;replace ai:Sl (Za.pair (Za.pair Za.bool (Za.view rU)) (Za.view rU)) a3 a4 ci cj dv.2:=ai;refine lW f8.one<|go ?_;obtain ⟨dx,hm⟩:=Zx hm;refine lv (v:=.slice ci (aA (i64.wrap ((ah.length:Int)+2))) cj) rfl rfl (V8 underlying29 sizeOf42 rfl rfl dx.1 (by have:=ai.1.2;have:=dx.2;omega))<|.ld (d:=244) (v:=(.slice ci ((dv.2.take (aA (i64.wrap ((ah.length:Int)+2)))).length) cj)) (congrArg (fun n=>Value.slice ci n cj) (bG (show (aA (i64.wrap ((ah.length:Int)+2)))≤dv.2.length by have:=dx.2;omega)).symm) ?_;refine Zbx rfl<|Zj<|Zw ?_;refine Wp.cutK [10,2,3,1000000] (fun f ck=>∃ cl dy,Ze3 bo (Qf N ab ac a9) dy=some r∧St w0 (Zg col) cl ck∧Ze 27 1 cl ck a7 #[.string ab.1,.slice av ((ab.2.1.2.take ab.2.1.1).length) al,.slice aw ab.2.2.1.length am,.slice ax ab.2.2.2.1.length an,.slice ay ab.2.2.2.2.length ao]∧Ze 27 2 cl ck a8 #[.string ac.1,.slice az ac.2.1.length ap,.slice a0 ac.2.2.1.length aq,.slice a1 ac.2.2.2.1.length ar,.slice a2 ac.2.2.2.2.length au]∧[282].map f=[.bool dy]) ?_ ?_
       ·intro f ck hJ;obtain ⟨cl,dy,hm,aa,ad,ae,hs⟩:=hJ;rw [Ze3.eq_1] at hm;refine .lL [282] hs ?_;refine Zl hm (fun hb hm=>go ?_) fun hb hm=>go ?_
        ·cases hm;exact ⟨rfl,rfl,aa.below⟩
        exact ⟨a9,by omega,rfl,⟨_,_,_,rfl,hm,aa,ad,ae,rfl⟩⟩
       refine go ?_;obtain ⟨dz,be,hm⟩:=bZ hm;refine lI be ((ai.take (aA (i64.wrap ((ah.length:Int)+2)))).addr be)<|Z9 (Wg ((ai.take (aA (i64.wrap ((ah.length:Int)+2)))).addr be)) ?_;obtain ⟨_,f9,ga⟩:=(ai.take (aA (i64.wrap ((ah.length:Int)+2)))).atN be;obtain ⟨_,_,rfl,gb,gc⟩:=Yr f9;obtain ⟨_,_,rfl,gd,ge⟩:=Yr gb;obtain ⟨rfl,_⟩:=gd;obtain ⟨⟨ig,ih,rfl,ii⟩,_⟩:=ge;obtain ⟨⟨ij,ik,rfl,il⟩,_⟩:=gc;refine lW ((ga).nth (q:=2) rfl)<|go ?_;refine Xo hm (fun d0 hm=>go ?_) fun d0 hm=>go ?_
       ·refine lV (.bool true) (Z5 (congrArg Value.bool d0) rfl)<|Ws rfl<|lP 262 rfl rfl<|lP 262 rfl rfl<|lP 262 rfl rfl<|lP 262 rfl rfl<|lP 262 rfl rfl<|lP 262 rfl rfl<|lP 262 rfl rfl<|lP 262 rfl rfl<|lV (.bool true) (Z5 rfl rfl)<|Ws rfl<|lP 272 rfl rfl<|lP 272 rfl rfl<|lP 272 rfl rfl<|lP 272 rfl rfl<|lP 272 rfl rfl<|lP 272 rfl rfl<|lP 272 rfl rfl<|lP 272 rfl rfl<|lP 272 rfl rfl<|lV (.bool true) (Z5 rfl rfl)<|Zj ?_;exact ⟨rfl,_,_,hm,aa,ad,ae,rfl⟩
       refine lI be ((ai.take (aA (i64.wrap ((ah.length:Int)+2)))).addr be) ?_;refine go ?_;refine Z9 (Wg ((ai.take (aA (i64.wrap ((ah.length:Int)+2)))).addr be)) ?_;refine go ?_;obtain ⟨_,gf,gg⟩:=(ai.take (aA (i64.wrap ((ah.length:Int)+2)))).atN be;obtain ⟨_,_,rfl,gh,gi⟩:=Yr gf;obtain ⟨_,_,rfl,gj,gk⟩:=Yr gh;obtain ⟨rfl,_⟩:=gj;obtain ⟨⟨im,io,rfl,ip⟩,_⟩:=gk;obtain ⟨⟨gl,gm,rfl,cn⟩,_⟩:=gi;replace cn:Sl rU a3 a4 gl gm dz.2.2:=cn;refine lW ((gg).nth (q:=2) rfl)<|go ?_;obtain ⟨gp,d1,hm⟩:=bZ hm;refine lI d1 ((cn.take dz.2.1).addr d1) ?_;refine go ?_;refine lW ((cn.take dz.2.1).atInt d1)<|go ?_;refine lV (.bool (!decide (gp=97))) (Xn (congrArg Value.bool d0) rfl)<|Ws rfl ?_;refine Xo hm (fun d2 hm=>go ?_) fun d2 hm=>go ?_
       ·refine lV (.bool true) (Z5 (congrArg Value.bool d2) rfl)<|Ws rfl<|lP 272 rfl rfl<|lP 272 rfl rfl<|lP 272 rfl rfl<|lP 272 rfl rfl<|lP 272 rfl rfl<|lP 272 rfl rfl<|lP 272 rfl rfl<|lP 272 rfl rfl<|lP 272 rfl rfl<|lV (.bool true) (Z5 rfl rfl)<|Zj ?_;exact ⟨rfl,_,_,hm,aa,ad,ae,rfl⟩
       obtain ⟨bz,bf,hm⟩:=bZ hm;refine lI bf ((ai.take (aA (i64.wrap ((ah.length:Int)+2)))).addr bf) ?_;refine go ?_;refine Z9 (Wg ((ai.take (aA (i64.wrap ((ah.length:Int)+2)))).addr bf)) ?_;refine go ?_;obtain ⟨_,gs,gt⟩:=(ai.take (aA (i64.wrap ((ah.length:Int)+2)))).atN bf;obtain ⟨_,_,rfl,gu,gv⟩:=Yr gs;obtain ⟨_,_,rfl,gw,gx⟩:=Yr gu;obtain ⟨rfl,_⟩:=gw;obtain ⟨⟨iq,ir,rfl,it⟩,_⟩:=gx;obtain ⟨⟨iu,iv,rfl,iw⟩,_⟩:=gv;refine lW ((gt).nth (q:=2) rfl)<|go ?_;refine lV (.bool (!decide (((bz.2.2.take bz.2.1).length:Int)=1))) (Xn (congrArg Value.bool d2) rfl)<|Ws rfl ?_;refine Xo hm (fun d3 hm=>go ?_) fun d3 hm=>go ?_
       ·refine lV (.bool true) (Z5 (congrArg Value.bool d3) rfl)<|Zj ?_;exact ⟨rfl,_,_,hm,aa,ad,ae,rfl⟩
       refine lI bf ((ai.take (aA (i64.wrap ((ah.length:Int)+2)))).addr bf) ?_;refine go ?_;refine Z9 (Wg ((ai.take (aA (i64.wrap ((ah.length:Int)+2)))).addr bf)) ?_;refine go ?_;obtain ⟨_,gy,gz⟩:=(ai.take (aA (i64.wrap ((ah.length:Int)+2)))).atN bf;obtain ⟨_,_,rfl,g0,g1⟩:=Yr gy;obtain ⟨_,_,rfl,g2,g3⟩:=Yr g0;obtain ⟨rfl,_⟩:=g2;obtain ⟨⟨ix,iy,rfl,iz⟩,_⟩:=g3;obtain ⟨⟨g4,g5,rfl,co⟩,_⟩:=g1;replace co:Sl rU a3 a4 g4 g5 bz.2.2:=co;refine lW ((gz).nth (q:=2) rfl)<|go ?_;obtain ⟨g6,d4,hm⟩:=bZ hm;refine lI d4 ((co.take bz.2.1).addr d4) ?_;refine go ?_;refine lW ((co.take bz.2.1).atInt d4)<|go ?_;refine lV (.bool (!decide (g6=98))) (Xn (congrArg Value.bool d3) rfl)<|Zj ?_;exact ⟨rfl,_,_,hm,aa,ad,ae,rfl⟩
     cases hm;exact ⟨rfl,rfl,aa.below⟩
 refine Wk<|Zy ad<|Zy ae ?_;refine go ?_;refine Xo hm (fun d5 hm=>go ?_) fun d5 hm=>go ?_
 ·refine lV (.bool true) (Z5 (congrArg Value.bool d5) rfl)<|Ws rfl<|lP 31 rfl rfl<|lP 31 rfl rfl<|lP 31 rfl rfl<|lP 31 rfl rfl<|lP 31 rfl rfl<|lP 31 rfl rfl<|lP 31 rfl rfl<|lV (.bool true) (Z5 rfl rfl)<|Ws rfl<|lP 40 rfl rfl<|lP 40 rfl rfl<|lP 40 rfl rfl<|lP 40 rfl rfl<|lP 40 rfl rfl<|lP 40 rfl rfl<|lP 40 rfl rfl<|lV (.bool true) (Z5 rfl rfl)<|Ws rfl<|lP 49 rfl rfl<|lP 49 rfl rfl<|lP 49 rfl rfl<|lP 49 rfl rfl<|lP 49 rfl rfl<|lP 49 rfl rfl<|lV (.bool true) (Z5 rfl rfl)<|Zj ?_;exact ⟨rfl,_,_,hm,aa,ad,ae,rfl⟩
 refine Z9 ⟨_,_,rfl⟩ ?_;refine go ?_;refine lW ((ad.atN).nth (q:=2) rfl)<|go ?_;refine Z9 ⟨_,_,rfl⟩ ?_;refine go ?_;refine lW ((ae.atN).nth (q:=2) rfl)<|go ?_;refine lV (.bool (!decide ((ab.2.2.1.length:Int)=(ac.2.2.1.length:Int)))) (Xn (congrArg Value.bool d5) rfl)<|Ws rfl ?_;refine Xo hm (fun d6 hm=>go ?_) fun d6 hm=>go ?_
 ·refine lV (.bool true) (Z5 (congrArg Value.bool d6) rfl)<|Ws rfl<|lP 40 rfl rfl<|lP 40 rfl rfl<|lP 40 rfl rfl<|lP 40 rfl rfl<|lP 40 rfl rfl<|lP 40 rfl rfl<|lP 40 rfl rfl<|lV (.bool true) (Z5 rfl rfl)<|Ws rfl<|lP 49 rfl rfl<|lP 49 rfl rfl<|lP 49 rfl rfl<|lP 49 rfl rfl<|lP 49 rfl rfl<|lP 49 rfl rfl<|lV (.bool true) (Z5 rfl rfl)<|Zj ?_;exact ⟨rfl,_,_,hm,aa,ad,ae,rfl⟩
 refine Z9 ⟨_,_,rfl⟩ ?_;refine go ?_;refine lW ((ad.atN).nth (q:=3) rfl)<|go ?_;refine Z9 ⟨_,_,rfl⟩ ?_;refine go ?_;refine lW ((ae.atN).nth (q:=3) rfl)<|go ?_;refine lV (.bool (!decide ((ab.2.2.2.1.length:Int)=(ac.2.2.2.1.length:Int)))) (Xn (congrArg Value.bool d6) rfl)<|Ws rfl ?_;refine Xo hm (fun d7 hm=>go ?_) fun d7 hm=>go ?_
 ·refine lV (.bool true) (Z5 (congrArg Value.bool d7) rfl)<|Ws rfl<|lP 49 rfl rfl<|lP 49 rfl rfl<|lP 49 rfl rfl<|lP 49 rfl rfl<|lP 49 rfl rfl<|lP 49 rfl rfl<|lV (.bool true) (Z5 rfl rfl)<|Zj ?_;exact ⟨rfl,_,_,hm,aa,ad,ae,rfl⟩
 refine Z9 ⟨_,_,rfl⟩ ?_;refine go ?_;refine lW ((ad.atN).nth (q:=4) rfl)<|go ?_;refine Z9 ⟨_,_,rfl⟩ ?_;refine go ?_;refine lW ((ae.atN).nth (q:=4) rfl)<|go ?_;refine lV (.bool (!decide ((ab.2.2.2.2.length:Int)=(ac.2.2.2.2.length:Int)))) (Xn (congrArg Value.bool d7) rfl)<|Ws rfl ?_;refine Xo hm (fun d8 hm=>go ?_) fun d8 hm=>go ?_
 ·refine lV (.bool true) (Z5 (congrArg Value.bool d8) rfl)<|Zj ?_;exact ⟨rfl,_,_,hm,aa,ad,ae,rfl⟩
 refine Z9 ⟨_,_,rfl⟩ ?_;refine go ?_;refine lW ((ad.atN).nth (q:=1) rfl)<|go ?_;refine Z9 ⟨_,_,rfl⟩ ?_;refine go ?_;refine lW ((ae.atN).nth (q:=1) rfl)<|go ?_;obtain ⟨g7,g8,hm⟩:=bZ hm;refine Zh (Zq7 g8 (cp.k0.ks aa) (cq.k0.ks aa)) fun _ g9 ⟨e',b0⟩=>⟨_,e',?_⟩;replace b0:Zk d9 ef d9 g9:=.of_below b0;refine go ?_;refine lV (.bool (!g7)) (Xn (congrArg Value.bool d8) rfl)<|Zj ?_;exact ⟨rfl,_,_,hm,aa.grow b0,ad.gr b0,ae.gr b0,rfl⟩
abbrev Zfx:=ByteArray×List ByteArray×List R4×List R2×List (List QV)
abbrev VQ:=(Bool×R6)×R6
def We {α:Type} (ms l:List α):Nat×List α:=(l.length,l++ms)
def Vg (x:QV):VQ:=((x.1.1,We [901,902] x.1.2),We [903,904] x.2)
def Zaa (k:Int):VQ:=((false,(0,[])),([k].length,[k]))
def W6 (t:List QV):Nat×List VQ:=(t.length,t.map Vg++[Zaa 97,Zaa 98])
def Yf (n:Zfx):ByteArray×R7×List R7×List R6×List (Nat×List VQ):=
 (n.1,We [⟨#[35,49]⟩,⟨#[35,50]⟩] n.2.1,n.2.2.1.map (We [⟨#[35,51]⟩,⟨#[35,52]⟩]),n.2.2.2.1.map (We [-95,-96]),n.2.2.2.2.map W6)
structure Zfy (n:Zfx):Prop where
 nm:n.2.1.length≤1048576
 vn:n.2.2.1.length≤1048576
 vl:∀ l ∈ n.2.2.1,l.length≤1048576
 pn:n.2.2.2.1.length≤1048576
 pl:∀ l ∈ n.2.2.2.1,l.length≤1048576
 tn:n.2.2.2.2.length≤1048576
 tl:∀ t ∈ n.2.2.2.2,t.length≤1048576
 tm:∀ t ∈ n.2.2.2.2,∀ x ∈ t,x.1.2.length≤1048576∧x.2.length≤1048576
theorem Zik {α:Type} (ms l:List α):Xs (We ms l)=l:=by rw [Xs,We];exact fI
theorem Z3l {α:Type} (ms:List α) (L:List (List α)):(L.map (We ms)).map Xs=L:=by
 rw [fG]
 conv=>rhs;rw [← hH L]
 exact eF fun l _=>Zik ms l
theorem Z5z (x:QV):Prod.map (Prod.map id Xs) Xs (Vg x)=x:=by
 rw [Vg];simp only [Prod.map,id,Zik]
theorem Z50 (t:List QV):Ua (Prod.map (Prod.map id Xs) Xs) (W6 t)=t:=by
 rw [Ua,W6]
 show List.map _ (List.take t.length (t.map Vg++_))=t
 rw [show t.length=(t.map Vg).length by rw [aH],fI,fG]
 conv=>rhs;rw [← hH t]
 exact eF fun x _=>Z5z x
theorem Z3m (T:List (List QV)):(T.map W6).map (Ua (Prod.map (Prod.map id Xs) Xs))=T:=by
 rw [fG]
 conv=>rhs;rw [← hH T]
 exact eF fun t _=>Z50 t
theorem Zyk (n:Zfx):((Yf n).1,(Yf n).2.1.2.take (Yf n).2.1.1,(Yf n).2.2.1.map Xs,(Yf n).2.2.2.1.map Xs,(Yf n).2.2.2.2.map (Ua (Prod.map (Prod.map id Xs) Xs)))=n:=by
 rw [Yf]
 simp only [Z3l,Z3m]
 have:=Zik [⟨#[35,49]⟩,⟨#[35,50]⟩] n.2.1
 rw [Xs] at this
 rw [this]
theorem Z1n {x:QV} (h1:x.1.2.length≤1048576) (h2:x.2.length≤1048576):Zh3 x=some (Vg x):=by
 rw [Zh3,Zz (by simp only [nN,maxLen];omega),Zz (by simp only [nA,nN,nC,maxLen];omega),Zz (by simp only [nN,maxLen];omega),Zz (by simp only [nA,nN,nC,maxLen];omega),Zz (by simp only [nA,nN,nC];omega),Zz (by simp only [nA,nN,nC];omega),Vg,We,We,bO,bO,aB,aB]
section
variable {N:Nat} {n:Zfx} (hs:Zfy n) (hN:1048577<N)
include hs hN
omit hN in
theorem Ztn {m4:ByteArray} {m5:List ByteArray} {m9:List R7} {m13:List R6} {m17:List (Nat×List VQ)} {i:Nat} (hi:i<n.2.2.2.2.length) (hm:m17.length≤1048576) (hib:i≤1048576) (kk:ByteArray→List ByteArray→List R7→List R6→List (Nat×List VQ)→Int→Option (ByteArray×R7×List R7×List R6×List (Nat×List VQ))):∀ (f k:Nat) (l:List VQ),k≤n.2.2.2.2[i].length→n.2.2.2.2[i].length<f+k→l=(n.2.2.2.2[i].take k).map Vg→
  Ze8 N n m4 m5 m9 m13 m17 (i:Int) kk f (k:Int) l=kk m4 m5 m9 m13 (m17++[W6 n.2.2.2.2[i]]) ((i:Int)+1)
 | 0,k,l,c,d,_=>by omega
 | f+1,k,l,c,d,a=>by
  have m:=hs.tl _ (aD hi)
  have o:l.length=k:=by rw [a,aH,nK];omega
  rw [Ze8.eq_2,Zs hi,oB]
  by_cases hk:k<n.2.2.2.2[i].length
  ·obtain ⟨e,g⟩:=hs.tm _ (aD hi) _ (aD hk)
   have j:Zh3 (((n.2.2.2.2[i][k]).1.1,(n.2.2.2.2[i][k]).1.2),(n.2.2.2.2[i][k]).2)=some (Vg n.2.2.2.2[i][k]):=Z1n (x:=n.2.2.2.2[i][k]) e g
   rw [if_pos (dT (by omega)),Zs hk,oB,j,oB,Zz (by simp only [aN,maxLen];omega),Zp (by omega)]
   exact Ztn hi hm hib kk f (k+1) _ (by omega) (by omega) (by rw [a,dM,aG hk,cM,dK];rfl)
  ·have b:k=n.2.2.2.2[i].length:=by omega
   rw [if_neg (dF (by omega)),Zz (by simp only [nC,nN,maxLen];omega),Zz (by simp only [nA,nC,nN];omega),Zz (by simp only [aN,maxLen];omega),Zp (by omega),aB,a,b,eX]
   rfl
theorem Ztm {m4:ByteArray} {m5:List ByteArray} {m9:List R7} {m13:List R6}:∀ (f i:Nat) (m17:List (Nat×List VQ)),i≤n.2.2.2.2.length→n.2.2.2.2.length<f+i→m17=(n.2.2.2.2.take i).map W6→
  Zct N n f m4 m5 m9 m13 m17 (i:Int)=some (m4,(n.2.1.length,m5),m9,m13,n.2.2.2.2.map W6)
 | 0,i,m17,b,c,_=>by omega
 | f+1,i,m17,b,c,a=>by
  have d:=hs.tn
  have e:m17.length=i:=by rw [a,aH,nK];omega
  rw [Zct.eq_2]
  by_cases hi:i<n.2.2.2.2.length
  ·have g:=hs.tl _ (aD hi)
   rw [if_pos (dT (by omega)),show (0:Int)=((0:Nat):Int) from rfl,Ztn hs hi (by omega) (by omega) _ N 0 [] (by omega) (by omega) (by simp)]
   exact Ztm f (i+1) _ (by omega) (by omega) (by rw [a,dM,aG hi,cM,dK];rfl)
  ·rw [if_neg (dF (by omega)),a,bJ (by omega),aB]
theorem Ztl {m4:ByteArray} {m5:List ByteArray} {m9:List R7}:∀ (f i:Nat) (m13:List R6),i≤n.2.2.2.1.length→n.2.2.2.1.length<f+i→m13=(n.2.2.2.1.take i).map (We [-95,-96])→
  Ze7 N n f m4 m5 m9 m13 [] (i:Int)=some (m4,(n.2.1.length,m5),m9,n.2.2.2.1.map (We [-95,-96]),n.2.2.2.2.map W6)
 | 0,i,m13,b,c,_=>by omega
 | f+1,i,m13,b,c,a=>by
  have d:=hs.pn;have e:=hs.tn
  have g:m13.length=i:=by rw [a,aH,nK];omega
  rw [Ze7.eq_2]
  by_cases hi:i<n.2.2.2.1.length
  ·have j:=hs.pl _ (aD hi)
   rw [if_pos (dT (by omega)),Zs hi,oB,Zz (by simp only [nN,maxLen];omega),Zz (by simp only [nA,nN,nC,maxLen];omega),Zz (by simp only [nA,nN,nC];omega),Zz (by simp only [aN,maxLen];omega),Zp (by omega)]
   exact Ztl f (i+1) _ (by omega) (by omega) (by rw [a,dM,aG hi,cM,dK];rfl)
  ·rw [if_neg (dF (by omega)),show (0:Int)=((0:Nat):Int) from rfl,Ztm hs hN N 0 [] (by omega) (by omega) (by simp),a,bJ (by omega)]
theorem Ztk {m4:ByteArray} {m5:List ByteArray}:∀ (f i:Nat) (m9:List R7),i≤n.2.2.1.length→n.2.2.1.length<f+i→m9=(n.2.2.1.take i).map (We [⟨#[35,51]⟩,⟨#[35,52]⟩])→
  Ze6 N n f m4 m5 m9 [] [] (i:Int)=some (m4,(n.2.1.length,m5),n.2.2.1.map (We [⟨#[35,51]⟩,⟨#[35,52]⟩]),n.2.2.2.1.map (We [-95,-96]),n.2.2.2.2.map W6)
 | 0,i,m9,b,c,_=>by omega
 | f+1,i,m9,b,c,a=>by
  have d:=hs.vn;have e:=hs.pn
  have g:m9.length=i:=by rw [a,aH,nK];omega
  rw [Ze6.eq_2]
  by_cases hi:i<n.2.2.1.length
  ·have j:=hs.vl _ (aD hi)
   rw [if_pos (dT (by omega)),Zs hi,oB,Zz (by simp only [nN,maxLen];omega),Zz (by simp only [nA,nN,nC,maxLen];omega),Zz (by simp only [nA,nN,nC];omega),Zz (by simp only [aN,maxLen];omega),Zp (by omega)]
   exact Ztk f (i+1) _ (by omega) (by omega) (by rw [a,dM,aG hi,cM,dK];rfl)
  ·rw [if_neg (dF (by omega)),show (0:Int)=((0:Nat):Int) from rfl,Ztl hs hN N 0 [] (by omega) (by omega) (by simp),a,bJ (by omega)]
theorem Z3e:Zh5 N n=some (Yf n):=by
 have a:=hs.nm;have b:=hs.vn
 rw [Zh5,Zz (by simp only [nN,maxLen];omega),Zz (by simp only [nA,nN,nC,maxLen];omega),Zz (by simp only [nA,nN,nC];omega),show (0:Int)=((0:Nat):Int) from rfl,Ztk hs hN N 0 [] (by omega) (by omega) (by simp)]
 rfl
end
theorem Zx9 {α:Type} (ms l:List α):(We ms l).2.take (We ms l).1=l:=Zik ms l
theorem Zor {α:Type} (ms l:List α):(We ms l).2.length=l.length+ms.length:=by rw [We];exact List.length_append
theorem Zf0 {α:Type} {ms l:List α} {j k:Nat} (hj:j<ms.length) (hk:l.length+j<k):Zi ((l++ms).take k) ((l.length+j:Nat):Int)=some ms[j]:=by
 rw [Uo,iH,if_pos hk,cW (by omega),show l.length+j - l.length=j by omega,aG hj]
theorem Zya {N:Nat} {l:List ByteArray} {one two:ByteArray} (hl:l.length≤1048576):∀ (f i:Nat),i≤l.length→l.length<f+i→Zfj N l.length (l++[one,two]) l one two f (i:Int)=some true
 | 0,i,b,c=>by omega
 | f+1,i,b,c=>by
  have e:(l++[one,two]).take l.length=l:=fI
  rw [Zfj.eq_2,e]
  by_cases hi:i<l.length
  ·rw [if_pos (dT (by omega)),Zs hi,oB,oB,if_neg (by rw [decide_eq_true rfl];decide),Zp (by omega)]
   exact Zya hl f (i+1) (by omega) (by omega)
  ·have a:=Zf0 (ms:=[one,two]) (l:=l) (j:=0) (k:=l.length+2) (by simp) (by omega)
   have d:=Zf0 (ms:=[one,two]) (l:=l) (j:=1) (k:=l.length+2) (by simp) (by omega)
   rw [if_neg (dF (by omega)),Zp (x:=(l.length:Int)+2) (by omega),Zz (by simp only [nA,nC,nN];omega),show aA ((l.length:Int)+2)=l.length+2 by omega]
   simp only [bQ] at a
   rw [a,oB,show [one,two][0]=one from rfl,if_pos (dT rfl),Zp (by omega),show (l.length:Int)+1=((l.length+1:Nat):Int) by omega,d,oB,Zj4]
   simp
theorem Zyb {N:Nat} {l:List ByteArray} {one two:ByteArray} (hl:l.length≤1048576) (hN:1048577<N):Zfi N (We [one,two] l).1 (We [one,two] l).2 l one two=some true:=by
 have e:(l++[one,two]).take l.length=l:=fI
 rw [Zfi,We,e,if_neg (by rw [decide_eq_true rfl];decide)]
 exact Zya hl N 0 (by omega) (by omega)
theorem Zxo {N:Nat} {x:QV} (h1:x.1.2.length≤1048576):∀ (f i:Nat),i≤x.1.2.length→x.1.2.length<f+i→Zfb N x x f (i:Int)=some true
 | 0,i,a,b=>by omega
 | f+1,i,a,b=>by
  rw [Zfb.eq_2]
  by_cases hi:i<x.1.2.length
  ·rw [if_pos (dT (by omega)),Zs hi,oB,oB,if_neg (by rw [decide_eq_true rfl];decide),Zp (by omega)]
   exact Zxo h1 f (i+1) (by omega) (by omega)
  ·rw [if_neg (dF (by omega))]
theorem Zxn {N:Nat} {x:QV} (h1:x.1.2.length≤1048576) (h2:x.2.length≤1048576) (hN:1048577<N):∀ (f i:Nat),i≤x.2.length→x.2.length<f+i→Zfa N x x f (i:Int)=some true
 | 0,i,a,b=>by omega
 | f+1,i,a,b=>by
  rw [Zfa.eq_2]
  by_cases hi:i<x.2.length
  ·rw [if_pos (dT (by omega)),Zs hi,oB,oB,if_neg (by rw [decide_eq_true rfl];decide),Zp (by omega)]
   exact Zxn h1 h2 hN f (i+1) (by omega) (by omega)
  ·rw [if_neg (dF (by omega))]
   exact Zxo h1 N 0 (by omega) (by omega)
theorem Z5m {N:Nat} {x:QV} (h1:x.1.2.length≤1048576) (h2:x.2.length≤1048576) (hN:1048577<N):Zh8 N x x=some true:=by
 rw [Zh8,if_neg (by rw [decide_eq_true rfl];decide),if_neg (by rw [decide_eq_true rfl];decide),Zia,if_neg (by rw [decide_eq_true rfl];decide)]
 exact Zxn h1 h2 hN N 0 (by omega) (by omega)
section
variable {N:Nat} {n:Zfx} (hs:Zfy n) (hN:1048577<N)
include hs hN
theorem Zs7 {i:Nat} (hi:i<n.2.2.2.2.length) (kk:Int→Option Bool):∀ (f j:Nat),j≤n.2.2.2.2[i].length→n.2.2.2.2[i].length<f+j→
  Sf N (Yf n) n (i:Int) kk n.2.2.2.2[i] f (j:Int)=kk ((i:Int)+1)
 | 0,j,v,w=>by omega
 | f+1,j,v,w=>by
  have J:=hs.tl _ (aD hi)
  have I:=hs.tn
  have y:Zi (Yf n).2.2.2.2 (i:Int)=some (W6 n.2.2.2.2[i]):=by
   rw [Uo]
   show (n.2.2.2.2.map W6)[i]?=_
   rw [bM,aG hi];rfl
  rw [Sf.eq_2,y,oB,oB]
  generalize hT:n.2.2.2.2[i]=t at *
  by_cases hj:j<t.length
  ·have c:t ∈ n.2.2.2.2:=by rw [← hT];exact aD hi
   obtain ⟨d,e⟩:=hs.tm _ c _ (aD hj)
   have A:Zi ((W6 t).2.take (W6 t).1) (j:Int)=some (Vg t[j]):=by
    rw [Uo,W6,iH,if_pos hj,List.getElem?_append_left (by rw [aH];exact hj),bM,aG hj];rfl
   rw [if_pos (dT (by omega)),A,oB]
   obtain ⟨x,g⟩:∃ x,x=t[j]:=⟨_,rfl⟩
   rw [← g] at d e ⊢
   have B:(Vg x).1.2.2.take (Vg x).1.2.1=x.1.2:=Zik _ _
   have C:(Vg x).2.2.take (Vg x).2.1=x.2:=Zik _ _
   have m:(Vg x).1.2.2.length=x.1.2.length+2:=Zor _ _
   have o:(Vg x).2.2.length=x.2.length+2:=Zor _ _
   have p:Zi n.2.2.2.2 (i:Int)=some t:=by rw [Zs hi,hT]
   have D:Zh8 N (((Vg x).1.1,x.1.2),x.2) ((x.1.1,x.1.2),x.2)=some true:=Z5m (x:=x) d e hN
   have E:(Vg x).1.2.2.take (x.1.2.length+2)=x.1.2++[901,902]:=bJ (by rw [m];omega)
   have F:(Vg x).2.2.take (x.2.length+2)=x.2++[903,904]:=bJ (by rw [o];omega)
   have q:∀ (l:List Int) (a b:Int),Zi (l++[a,b]) ((l.length:Int)+2 - 1)=some b∧Zi (l++[a,b]) ((l.length:Int)+2 - 2)=some a:=fun l a b=>by
    constructor
    ·rw [show (l.length:Int)+2 - 1=((l.length+1:Nat):Int) by omega,Uo,cW (by omega),show l.length+1 - l.length=1 by omega];rfl
    ·rw [show (l.length:Int)+2 - 2=((l.length:Nat):Int) by omega,Uo,cW (by omega),show l.length - l.length=0 by omega];rfl
   have r:∀ (l:List Int) (a b:Int),((l++[a,b]).length:Int)=(l.length:Int)+2:=fun l a b=>by simp
   rw [B,C,m,o,Zp (x:=(x.1.2.length:Int)+2) (by omega),Zp (x:=(x.2.length:Int)+2) (by omega),Zz (by omega),Zz (by omega),p,oB,Zs hj,oB,← g,D,oB,if_neg (by decide),
    show aA ((x.1.2.length:Int)+2)=x.1.2.length+2 by omega,show aA ((x.2.length:Int)+2)=x.2.length+2 by omega,E,F,r,r,Zp (x:=(x.1.2.length:Int)+2 - 1) (by omega),Zp (x:=(x.1.2.length:Int)+2 - 2) (by omega),Zp (x:=(x.2.length:Int)+2 - 1) (by omega),Zp (x:=(x.2.length:Int)+2 - 2) (by omega),
    (q x.1.2 901 902).1,oB,if_neg (by decide),(q x.1.2 901 902).2,oB,if_neg (by decide),(q x.2 903 904).1,oB,if_neg (by decide),(q x.2 903 904).2,oB,Zcs,if_neg (by decide),Zp (by omega)]
   have s:=Zs7 hi kk f (j+1) (by rw [hT];omega) (by rw [hT];omega)
   rw [hT] at s
   exact s
  ·have G:Zi ((W6 t).2.take (t.length+2)) (t.length:Int)=some (Zaa 97):=by
    have:=Zf0 (ms:=[Zaa 97,Zaa 98]) (l:=t.map Vg) (j:=0) (k:=t.length+2) (by simp) (by rw [aH];omega)
    rw [aH,bQ] at this
    exact this
   have H:Zi ((W6 t).2.take (t.length+2)) ((t.length:Int)+1)=some (Zaa 98):=by
    have:=Zf0 (ms:=[Zaa 97,Zaa 98]) (l:=t.map Vg) (j:=1) (k:=t.length+2) (by simp) (by rw [aH];omega)
    rw [aH] at this
    exact this
   have bl:(W6 t).2.length=t.length+2:=by rw [W6];simp
   have u:∀ k:Int,(Zaa k).2.2.take (Zaa k).2.1=[k]:=fun k=>rfl
   rw [if_neg (dF (by omega)),Zp (x:=(t.length:Int)+2) (by omega),Zz (by omega),show aA ((t.length:Int)+2)=t.length+2 by omega,G,oB,u,if_neg (by decide),show Zi [(97:Int)] 0=some 97 from rfl,oB,if_neg (by decide),Zp (x:=(t.length:Int)+1) (by omega),H,oB,u,if_neg (by decide),show Zi [(98:Int)] 0=some 98 from rfl,oB,Ze3,if_neg (by decide),Zp (by omega)]
theorem Zs6:∀ (f i:Nat),i≤n.2.2.2.2.length→n.2.2.2.2.length<f+i→Qf N (Yf n) n f (i:Int)=some true
 | 0,i,b,c=>by omega
 | f+1,i,b,c=>by
  have g:=hs.tn
  rw [Qf.eq_2]
  by_cases hi:i<n.2.2.2.2.length
  ·have j:=hs.tl _ (aD hi)
   have d:Zi (Yf n).2.2.2.2 (i:Int)=some (W6 n.2.2.2.2[i]):=by
    rw [Uo]
    show (n.2.2.2.2.map W6)[i]?=_
    rw [bM,aG hi];rfl
   have e:((W6 n.2.2.2.2[i]).2.take (W6 n.2.2.2.2[i]).1).length=n.2.2.2.2[i].length:=by rw [W6,nK];simp
   have a:=Zs7 hs hN hi (Qf N (Yf n) n f) N 0 (by omega) (by omega)
   rw [show ((0:Nat):Int)=0 from rfl] at a
   rw [if_pos (dT (by omega)),Zs hi,oB,d,oB,e,if_neg (by rw [decide_eq_true rfl];decide),a]
   exact Zs6 f (i+1) (by omega) (by omega)
  ·rw [if_neg (dF (by omega))]
omit hN in
theorem Zs5 {i:Nat} (hi:i<n.2.2.2.1.length) (kk:Int→Option Bool):∀ (f j:Nat),j≤n.2.2.2.1[i].length→n.2.2.2.1[i].length<f+j→Ze5 N (Yf n) n (i:Int) kk n.2.2.2.1[i] f (j:Int)=kk ((i:Int)+1)
 | 0,j,b,c=>by omega
 | f+1,j,b,c=>by
  have o:=hs.pl _ (aD hi)
  have m:=hs.pn
  have d:Zi (Yf n).2.2.2.1 (i:Int)=some (We [-95,-96] n.2.2.2.1[i]):=by
   rw [Uo]
   show (n.2.2.2.1.map (We [-95,-96]))[i]?=_
   rw [bM,aG hi];rfl
  rw [Ze5.eq_2,d,oB,oB,Zx9]
  by_cases hj:j<n.2.2.2.1[i].length
  ·rw [if_pos (dT (by omega)),Zs hj,oB,Zs hi,oB,Zs hj,oB,if_neg (by rw [decide_eq_true rfl];decide),Zp (by omega)]
   exact Zs5 hi kk f (j+1) (by omega) (by omega)
  ·have a:=Zf0 (ms:=[-95,-96]) (l:=n.2.2.2.1[i]) (j:=0) (k:=n.2.2.2.1[i].length+2) (by simp) (by omega)
   have e:=Zf0 (ms:=[-95,-96]) (l:=n.2.2.2.1[i]) (j:=1) (k:=n.2.2.2.1[i].length+2) (by simp) (by omega)
   simp only [bQ] at a
   have g:(We [-95,-96] n.2.2.2.1[i]).2=n.2.2.2.1[i]++[-95,-96]:=rfl
   rw [if_neg (dF (by omega)),Zp (x:=(n.2.2.2.1[i].length:Int)+2) (by omega),Zz (by rw [Zor];simp only [nC,nN];omega),show aA ((n.2.2.2.1[i].length:Int)+2)=n.2.2.2.1[i].length+2 by omega,g,a,oB,if_neg (by decide),Zp (by omega),show (n.2.2.2.1[i].length:Int)+1=((n.2.2.2.1[i].length+1:Nat):Int) by omega,e,oB,Zj2,if_neg (by decide),Zp (by omega)]
theorem Zs4:∀ (f i:Nat),i≤n.2.2.2.1.length→n.2.2.2.1.length<f+i→Q7 N (Yf n) n f (i:Int)=some true
 | 0,i,b,c=>by omega
 | f+1,i,b,c=>by
  have g:=hs.pn;have d:=hs.tn
  rw [Q7.eq_2]
  by_cases hi:i<n.2.2.2.1.length
  ·have j:=hs.pl _ (aD hi)
   have e:Zi (Yf n).2.2.2.1 (i:Int)=some (We [-95,-96] n.2.2.2.1[i]):=by
    rw [Uo]
    show (n.2.2.2.1.map (We [-95,-96]))[i]?=_
    rw [bM,aG hi];rfl
   have a:=Zs5 (N:=N) hs hi (Q7 N (Yf n) n f) N 0 (by omega) (by omega)
   rw [show ((0:Nat):Int)=0 from rfl] at a
   rw [if_pos (dT (by omega)),Zs hi,oB,e,oB,Zx9,if_neg (by rw [decide_eq_true rfl];decide),a]
   exact Zs4 f (i+1) (by omega) (by omega)
  ·rw [if_neg (dF (by omega))]
   exact Zs6 hs hN N 0 (by omega) (by omega)
theorem Zs3:∀ (f i:Nat),i≤n.2.2.1.length→n.2.2.1.length<f+i→Ze4 N (Yf n) n f (i:Int)=some true
 | 0,i,a,b=>by omega
 | f+1,i,a,b=>by
  have g:=hs.vn;have c:=hs.pn
  rw [Ze4.eq_2]
  by_cases hi:i<n.2.2.1.length
  ·have d:=hs.vl _ (aD hi)
   have e:Zi (Yf n).2.2.1 (i:Int)=some (We [⟨#[35,51]⟩,⟨#[35,52]⟩] n.2.2.1[i]):=by
    rw [Uo]
    show (n.2.2.1.map (We [⟨#[35,51]⟩,⟨#[35,52]⟩]))[i]?=_
    rw [bM,aG hi];rfl
   rw [if_pos (dT (by omega)),e,oB,Zs hi,oB,Zyb d hN,oB,if_neg (by decide),Zp (by omega)]
   exact Zs3 f (i+1) (by omega) (by omega)
  ·rw [if_neg (dF (by omega))]
   exact Zs4 hs hN N 0 (by omega) (by omega)
theorem Z22:Zh4 N (Yf n) n=some true:=by
 have a:=hs.nm;have f:=hs.vn
 have b:(Yf n).2.2.1.length=n.2.2.1.length:=by show (n.2.2.1.map _).length=_;rw [aH]
 have c:(Yf n).2.2.2.1.length=n.2.2.2.1.length:=by show (n.2.2.2.1.map _).length=_;rw [aH]
 have d:(Yf n).2.2.2.2.length=n.2.2.2.2.length:=by show (n.2.2.2.2.map _).length=_;rw [aH]
 have e:Zfi N (Yf n).2.1.1 (Yf n).2.1.2 n.2.1 (⟨#[35,49]⟩) (⟨#[35,50]⟩)=some true:=Zyb a hN
 rw [Zh4,b,c,d,if_neg (by rw [show (Yf n).1=n.1 from rfl,decide_eq_true rfl];decide),if_neg (by rw [decide_eq_true rfl];decide),if_neg (by rw [decide_eq_true rfl];decide),if_neg (by rw [decide_eq_true rfl];decide),e,oB,Zcr,if_neg (by decide)]
 exact Zs3 hs hN N 0 (by omega) (by omega)
end
def Zh6 (ae:R0) (aa:Int) (kk_L1:(Int→Int→Option Int)) (ab ac:Int) (kk_L2:(Int→Int→Option Int)) (af:Bool):Option Int:=
  if af=true then ((Zi ae.2.2.2.2 aa).bind fun ag=>(Zi ag ac).bind fun ad=>kk_L2 (i64.wrap ((i64.wrap (ab+(ad.1.2.length:Int)))+(ad.2.length:Int))) (i64.wrap (ac+1))) else (kk_L1 ab (i64.wrap (aa+1)))
def Zbj (N:Nat) (aa:R0) (ab:Int) (kk_L1:(Int→Int→Option Int)):Nat→Int→Int→Option Int
  | 0,_,_=>none
  | ae+1,ac,ad=>(Zi aa.2.2.2.2 ab).bind fun af=>if (decide (ad<(af.length:Int)))=true then (Zh6 aa ab kk_L1 ac ad (Zbj N aa ab kk_L1 ae) (decide (ac<10000))) else (Zh6 aa ab kk_L1 ac ad (Zbj N aa ab kk_L1 ae) false)
def Qg (N:Nat) (aa:R0):Nat→Int→Int→Option Int
  | 0,_,_=>none
  | ad+1,ab,ac=>if (decide (ac<(aa.2.2.2.2.length:Int)))=true then (Zbj N aa ac (Qg N aa ad) N ab 0) else (some (if 10000<ab then 10000 else ab))
def Zma (N:Nat) (aa:R0):Option Int:=
  Qg N aa N 0 0
theorem Z0t {N al am an ao:Nat} {ap aq ar au:Option Addr} {col:Zd} {w0:World} {aa:R0} {r:Int} (hm:Zma N aa=some r) (bs:Sl Za.str col w0 ap al aa.2.1) (bt:Sl rV col w0 aq am aa.2.2.1) (bu:Sl rP col w0 ar an aa.2.2.2.1) (ag:Sl (Za.slice rQ) col w0 au ao aa.2.2.2.2):
    Calls prog 86 #[(.agg #[.string aa.1,.slice ap aa.2.1.length al,.slice aq aa.2.2.1.length am,.slice ar aa.2.2.2.1.length an,.slice au aa.2.2.2.2.length ao])] w0 (Wq w0 r):=by
 refine Z7 2 (m:=53) func86 rfl rfl rfl rfl rfl ?_;rw [Zma.eq_1] at hm;have ab:=St.start col w0;refine go ?_;refine Xf (col:=(Zg col)) 1 rfl ?_;intro ay bv bw a8 ac;refine go ?_;replace ab:=ab.grow a8;refine Zt [1,1000000] (fun n f az=>∃ a0 ai aj ae,ae=n∧Qg N aa ae ai aj=some r∧St w0 (Zg col) a0 az∧Ze 27 1 a0 az ay #[.string aa.1,.slice ap aa.2.1.length al,.slice aq aa.2.2.1.length am,.slice ar aa.2.2.2.1.length an,.slice au aa.2.2.2.2.length ao]∧[3,4].map f=[.int .i64 ai,.int .i64 aj]) N ⟨_,0,0,_,rfl,hm,ab,ac,rfl⟩ ?_;clear hm;intro n f az hI;obtain ⟨a0,ai,aj,ae,hn,hm,ab,ac,hs⟩:=hI;subst hn;refine .lL [3,4] hs ?_;replace ag:=ag.k0
 cases ae with
 | zero=>rw [Qg.eq_1] at hm;cases hm
 | succ ae=>
  rw [Qg.eq_2] at hm;refine go ?_;refine Zy ac ?_;refine go ?_;refine Zl hm (fun hb hm=>go ?_) fun hb hm=>go ?_
  ·refine Zt [1,4,1000000] (fun n f a1=>∃ a2 av aw ah,ah=n∧Zbj N aa aj (Qg N aa ae) ah av aw=some r∧St w0 (Zg col) a2 a1∧Ze 27 1 a2 a1 ay #[.string aa.1,.slice ap aa.2.1.length al,.slice aq aa.2.2.1.length am,.slice ar aa.2.2.2.1.length an,.slice au aa.2.2.2.2.length ao]∧[3,5].map f=[.int .i64 av,.int .i64 aw]) N ⟨_,_,0,_,rfl,hm,ab,ac,rfl⟩ ?_;clear hm;intro n f a1 hI;obtain ⟨a2,av,aw,ah,hn,hm,ab,ac,hs⟩:=hI;subst hn;refine .lL [3,5] hs ?_
   cases ah with
   | zero=>rw [Zbj.eq_1] at hm;cases hm
   | succ ah=>
    rw [Zbj.eq_2] at hm;refine Zw<|Zw ?_;refine Wp.cutK [1,3,4,5,1000000] (fun f a3=>∃ ad a4,Zh6 aa aj (Qg N aa ae) av aw (Zbj N aa aj (Qg N aa ae) ah) a4=some r∧St w0 (Zg col) ad a3∧Ze 27 1 ad a3 ay #[.string aa.1,.slice ap aa.2.1.length al,.slice aq aa.2.2.1.length am,.slice ar aa.2.2.2.1.length an,.slice au aa.2.2.2.2.length ao]∧[24].map f=[.bool a4]) ?_ ?_
    ·intro f a3 hJ;obtain ⟨ad,a4,hm,ab,ac,hs⟩:=hJ;rw [Zh6.eq_1] at hm;refine .lL [24] hs ?_;refine Zl hm (fun hb hm=>go ?_) fun hb hm=>go ?_
     ·refine Y0 (col:=ad) (by kernel_rfl) (by kernel_rfl)<|go ?_;refine qF ⟨_,_,rfl⟩ ?_;refine qW (fun _ hC=>((ac.atN).nth (q:=4) rfl).gr (hC.bl ad)) ?_;refine go ?_;obtain ⟨bx,ak,hm⟩:=bZ hm;refine qI ak ((ag.ks ab).addr ak) ?_;obtain ⟨_,a9,ba⟩:=(ag.ks ab).atN ak;obtain ⟨⟨bz,b0,rfl,ax⟩,_⟩:=a9;refine qW (fun _ hC=>ba.one.gr (hC.bl ad)) ?_;refine go ?_;obtain ⟨b1,af,hm⟩:=bZ hm;refine qI af (ax.addr af)<|qF (Wg (ax.addr af)) ?_;refine qF (Wg (Wg (ax.addr af))) ?_;obtain ⟨_,bb,bc⟩:=ax.atN af;obtain ⟨_,_,rfl,bd,be⟩:=Yr bb;obtain ⟨_,_,rfl,bf,bg⟩:=Yr bd;obtain ⟨rfl,_⟩:=bf;obtain ⟨⟨b2,b3,rfl,b4⟩,_⟩:=bg;obtain ⟨⟨b5,b6,rfl,b7⟩,_⟩:=be;refine qW (fun _ hC=>((((bc).part 0 2 _ rfl)).nth (q:=1) rfl).gr (hC.bl ad)) ?_;refine go ?_;refine qF ⟨_,_,rfl⟩ ?_;refine qW (fun _ hC=>((ac.atN).nth (q:=4) rfl).gr (hC.bl ad)) ?_;refine go ?_;refine qI ak ((ag.ks ab).addr ak) ?_;obtain ⟨_,bh,bi⟩:=(ag.ks ab).atN ak;obtain ⟨⟨b8,b9,rfl,a5⟩,_⟩:=bh;refine qW (fun _ hC=>bi.one.gr (hC.bl ad)) ?_;refine go ?_;refine qI af (a5.addr af)<|qF (Wg (a5.addr af)) ?_;obtain ⟨_,bj,bk⟩:=a5.atN af;obtain ⟨_,_,rfl,bm,bn⟩:=Yr bj;obtain ⟨_,_,rfl,bo,bp⟩:=Yr bm;obtain ⟨rfl,_⟩:=bo;obtain ⟨⟨ca,cb,rfl,cc⟩,_⟩:=bp;obtain ⟨⟨cd,ce,rfl,cf⟩,_⟩:=bn;refine qW (fun _ hC=>((bk).nth (q:=2) rfl).gr (hC.bl ad)) ?_;refine go ?_;refine Xw ?_;intro cg hC;replace hC:=hC.bl ad;refine go ?_;replace ac:=ac.gr hC;replace ab:=ab.grow hC;exact ⟨ah,by omega,rfl,⟨_,_,_,_,rfl,hm,ab,ac,rfl⟩⟩
     exact ⟨ae,by omega,rfl,⟨_,_,_,_,rfl,hm,ab,ac,rfl⟩⟩
    refine go ?_;refine Zy ac<|Xe rfl ?_;obtain ⟨ch,a6,hm⟩:=bZ hm;refine lI a6 ((ag.ks ab).addr a6) ?_;obtain ⟨_,bq,br⟩:=(ag.ks ab).atN a6;obtain ⟨⟨ci,cj,rfl,ck⟩,_⟩:=bq;refine lW br.one<|go ?_;refine Xo hm (fun a7 hm=>go ?_) fun a7 hm=>go ?_
    ·refine lV (.bool (decide (av<10000))) (Z5 (congrArg Value.bool a7) rfl)<|Zj ?_;exact ⟨rfl,_,_,hm,ab,ac,rfl⟩
    refine lV (.bool false) (Xn (congrArg Value.bool a7) rfl)<|Zj ?_;exact ⟨rfl,_,_,hm,ab,ac,rfl⟩
  refine lV (.int .i64 (if 10000<ai then 10000 else ai)) (Zkl ai 10000 rfl rfl)<|go ?_;cases hm;exact ⟨rfl,rfl,ab.below⟩
def Ze9 (N:Nat) (ab ac:List Int):Nat→Int→Option Bool
  | 0,_=>none
  | ad+1,aa=>if (decide (aa<(ab.length:Int)))=true then ((Zi ab aa).bind fun ae=>(Zi ac aa).bind fun af=>if (!decide (ae=af))=true then (some false) else ((Ze9 N ab ac ad) (i64.wrap (aa+1)))) else (some true)
def Zh9 (N:Nat) (aa ab:List Int):Option Bool:=
  if (!decide ((aa.length:Int)=(ab.length:Int)))=true then (some false) else (Ze9 N aa ab N 0)
theorem Zq6 {N ai aj:Nat} {a0 a1:Option Addr} {col:Zd} {w0:World} {ad ae:R2} {r:Bool} (hm:Zh9 N ad ae=some r) (h0:Sl rI col w0 a0 ai ad) (h1:Sl rI col w0 a1 aj ae):
    Calls prog 10 #[.slice a0 ad.length ai,.slice a1 ae.length aj] w0 (W1 w0 r):=by
 refine Z7 4 (m:=26) func10 rfl rfl rfl rfl rfl ?_;rw [Zh9.eq_1] at hm;have aa:=St.start col w0;refine go ?_;replace h0:=h0.k0;replace h1:=h1.k0;refine Zl hm (fun hb hm=>go ?_) fun hb hm=>go ?_
 ·cases hm;exact ⟨rfl,rfl,aa.below⟩
 refine Zt [0,1,1000000] (fun n f ak=>∃ ab af ac,ac=n∧Ze9 N ad ae ac af=some r∧St w0 (Zg col) ab ak∧[5].map f=[.int .i64 af]) N ⟨_,0,_,rfl,hm,aa,rfl⟩ ?_;clear hm;intro n f ak hI;obtain ⟨ab,af,ac,hn,hm,aa,hs⟩:=hI;subst hn;refine .lL [5] hs ?_
 cases ac with
 | zero=>rw [Ze9.eq_1] at hm;cases hm
 | succ ac=>
  rw [Ze9.eq_2] at hm;refine go ?_;refine Zl hm (fun hb hm=>go ?_) fun hb hm=>go ?_
  ·refine Y0 (col:=ab) (by kernel_rfl) (by kernel_rfl)<|go ?_;obtain ⟨al,ag,hm⟩:=bZ hm;refine qI ag ((h0.ks aa).addr ag)<|qW (fun _ hC=>((h0.ks aa).gr (hC.bl ab)).atInt ag) ?_;refine go ?_;obtain ⟨am,ah,hm⟩:=bZ hm;refine qI ah ((h1.ks aa).addr ah)<|qW (fun _ hC=>((h1.ks aa).gr (hC.bl ab)).atInt ah) ?_;refine go ?_;refine Xw ?_;intro an hC;replace aa:=aa.grow (hC.bl ab);refine Zl hm (fun hb hm=>go ?_) fun hb hm=>go ?_
   ·cases hm;exact ⟨rfl,rfl,aa.below⟩
   exact ⟨ac,by omega,rfl,⟨_,_,_,rfl,hm,aa,rfl⟩⟩
  cases hm;exact ⟨rfl,rfl,aa.below⟩
theorem Zxp {N:Nat} {l:List Int} (hl:l.length≤1048576):∀ (f i:Nat),i≤l.length→l.length<f+i→Ze9 N l l f (i:Int)=some true
 | 0,i,a,b=>by omega
 | f+1,i,a,b=>by
  rw [Ze9.eq_2]
  by_cases hi:i<l.length
  ·rw [if_pos (dT (by omega)),Zs hi,oB,oB,if_neg (by rw [decide_eq_true rfl];decide),wS (by omega)]
   exact Zxp hl f (i+1) (by omega) (by omega)
  ·rw [if_neg (dF (by omega))]
theorem Zxq {N:Nat} {l:List Int} (hl:l.length≤1048576) (hN:1048577<N):Zh9 N l l=some true:=by
 rw [Zh9,if_neg (by rw [decide_eq_true rfl];decide)]
 exact Zxp hl N 0 (bD _) (by omega)
/-! which networks are gone through -/
theorem Ztt {N:Nat} {n:Z6} (hb:∀ t ∈ n.2.2.2.2,t.length≤1048576∧∀ x ∈ t,x.1.2.length≤1048576∧x.2.length≤1048576) {i:Nat} (hi:i<n.2.2.2.2.length) (hib:i<4611686018427387904) (kk:Int→Int→Option Int) (hkk:∀ s:Int,0≤s→s≤3000000→∃ r,kk s ((i+1:Nat):Int)=some r):∀ (f k:Nat) (s:Int),0≤s→s≤3000000→k≤n.2.2.2.2[i].length→n.2.2.2.2[i].length<f+k→∃ r,Zbj N n (i:Int) kk f s (k:Int)=some r
 | 0,k,s,_,_,c,d=>by omega
 | f+1,k,s,a,b,c,d=>by
  have e:=hb _ (aD hi)
  rw [Zbj.eq_2,Zs hi,oB]
  by_cases hk:k<n.2.2.2.2[i].length
  ·have g:=e.2 _ (aD hk)
   rw [if_pos (dT (by omega)),Zh6]
   by_cases hs:s<10000
   ·rw [decide_eq_true hs,if_pos rfl,Zs hi,oB,Zs hk,oB,Zp (x:=s+_) (by omega),Zp (by omega),wS (by omega)]
    exact Ztt hb hi hib kk hkk f (k+1) _ (by omega) (by omega) (by omega) (by omega)
   ·rw [decide_eq_false hs,if_neg (by decide),wS (by omega)]
    exact hkk s a b
  ·rw [if_neg (dF (by omega)),Zh6,if_neg (by decide),wS (by omega)]
   exact hkk s a b
theorem Zts {N:Nat} {n:Z6} (hb:∀ t ∈ n.2.2.2.2,t.length≤1048576∧∀ x ∈ t,x.1.2.length≤1048576∧x.2.length≤1048576) (hl:n.2.2.2.2.length≤1048576) (hN:1048577<N):∀ (f i:Nat) (s:Int),0≤s→s≤3000000→i≤n.2.2.2.2.length→n.2.2.2.2.length<f+i→∃ r,Qg N n f s (i:Int)=some r
 | 0,i,s,_,_,c,d=>by omega
 | f+1,i,s,e,g,c,d=>by
  rw [Qg.eq_2]
  by_cases hi:i<n.2.2.2.2.length
  ·rw [if_pos (dT (by omega))]
   have k:=hb _ (aD hi)
   have:=Ztt (N:=N) hb hi (by omega) (Qg N n f) (fun j a b=>Zts hb hl hN f (i+1) j a b (by omega) (by omega)) N 0 s e g (bD _) (by omega)
   exact this
  ·rw [if_neg (dF (by omega))]
   exact ⟨_,rfl⟩
def Zek (N:Nat) (ab ac:List Int):Nat→Int→Option Bool
  | 0,_=>none
  | ad+1,aa=>if (decide (aa<(ab.length:Int)))=true then ((Zi ab aa).bind fun ae=>(Zi ac aa).bind fun af=>if (!decide (ae=af))=true then (some false) else ((Zek N ab ac ad) (i64.wrap (aa+1)))) else (some true)
def Zhg (N:Nat) (aa ab:List Int):Option Bool:=
  if (!decide ((aa.length:Int)=(ab.length:Int)))=true then (some false) else (Zek N aa ab N 0)
theorem Zqw {N ai aj:Nat} {a0 a1:Option Addr} {col:Zd} {w0:World} {ad ae:R2} {r:Bool} (hm:Zhg N ad ae=some r) (h0:Sl rU col w0 a0 ai ad) (h1:Sl rU col w0 a1 aj ae):
    Calls prog 44 #[.slice a0 ad.length ai,.slice a1 ae.length aj] w0 (W1 w0 r):=by
 refine Z7 4 (m:=26) func44 rfl rfl rfl rfl rfl ?_;rw [Zhg.eq_1] at hm;have aa:=St.start col w0;refine go ?_;replace h0:=h0.k0;replace h1:=h1.k0;refine Zl hm (fun hb hm=>go ?_) fun hb hm=>go ?_
 ·cases hm;exact ⟨rfl,rfl,aa.below⟩
 refine Zt [0,1,1000000] (fun n f ak=>∃ ab af ac,ac=n∧Zek N ad ae ac af=some r∧St w0 (Zg col) ab ak∧[5].map f=[.int .i64 af]) N ⟨_,0,_,rfl,hm,aa,rfl⟩ ?_;clear hm;intro n f ak hI;obtain ⟨ab,af,ac,hn,hm,aa,hs⟩:=hI;subst hn;refine .lL [5] hs ?_
 cases ac with
 | zero=>rw [Zek.eq_1] at hm;cases hm
 | succ ac=>
  rw [Zek.eq_2] at hm;refine go ?_;refine Zl hm (fun hb hm=>go ?_) fun hb hm=>go ?_
  ·refine Y0 (col:=ab) (by kernel_rfl) (by kernel_rfl)<|go ?_;obtain ⟨al,ag,hm⟩:=bZ hm;refine qI ag ((h0.ks aa).addr ag)<|qW (fun _ hC=>((h0.ks aa).gr (hC.bl ab)).atInt ag) ?_;refine go ?_;obtain ⟨am,ah,hm⟩:=bZ hm;refine qI ah ((h1.ks aa).addr ah)<|qW (fun _ hC=>((h1.ks aa).gr (hC.bl ab)).atInt ah) ?_;refine go ?_;refine Xw ?_;intro an hC;replace aa:=aa.grow (hC.bl ab);refine Zl hm (fun hb hm=>go ?_) fun hb hm=>go ?_
   ·cases hm;exact ⟨rfl,rfl,aa.below⟩
   exact ⟨ac,by omega,rfl,⟨_,_,_,rfl,hm,aa,rfl⟩⟩
  cases hm;exact ⟨rfl,rfl,aa.below⟩
def Zjt (aa:Bool):Option Bool:=
  some aa
def Zl5 (N:Nat) (aa:R5) (ab:R5):Option Bool:=
  if (decide (aa.1=ab.1))=true then ((Zhg N aa.2 ab.2).bind fun ac=>Zjt ac) else (Zjt false)
theorem Zz5 {N aj ak:Nat} {al am:Option Addr} {col:Zd} {w0:World} {ab ac:R5} {r:Bool} (hm:Zl5 N ab ac=some r) (ae:Sl rU col w0 al aj ab.2) (af:Sl rU col w0 am ak ac.2):
    Calls prog 43 #[(.agg #[.bool ab.1,.slice al ab.2.length aj]),(.agg #[.bool ac.1,.slice am ac.2.length ak])] w0 (W1 w0 r):=by
 refine Z7 4 (m:=17) func43 rfl rfl rfl rfl rfl ?_;rw [Zl5.eq_1] at hm;have aa:=St.start col w0;refine go ?_;refine Xf (col:=(Zg col)) 1 rfl ?_;intro a0 a1 au av ad;refine Xf (col:=au) 2 rfl ?_;intro a2 aw an ao ap;refine Qu rfl<|Zj<|Zw ?_;replace aa:=(aa.grow av).grow ao;replace ad:=ad.gr ao;refine Wp.cutK [1000000] (fun f aq=>∃ ar ag,Zjt ag=some r∧St w0 (Zg col) ar aq∧[4].map f=[.bool ag]) ?_ ?_
 ·intro f aq hJ;obtain ⟨ar,ag,hm,aa,hs⟩:=hJ;rw [Zjt.eq_1] at hm;refine .lL [4] hs<|Y1 ?_;cases hm;exact ⟨rfl,rfl,aa.below⟩
 refine Wk<|Zy ad<|Zy ap ?_;refine go ?_;refine Xo hm (fun ah hm=>go ?_) fun ah hm=>go ?_
 ·refine Z9 ⟨_,_,rfl⟩ ?_;refine go ?_;refine lW ((ad.atN).nth (q:=1) rfl)<|go ?_;refine Z9 ⟨_,_,rfl⟩ ?_;refine go ?_;refine lW ((ap.atN).nth (q:=1) rfl)<|go ?_;obtain ⟨ax,ay,hm⟩:=bZ hm;refine Zh (Zqw ay (ae.k0.ks aa) (af.k0.ks aa)) fun _ az ⟨e',ai⟩=>⟨_,e',?_⟩;replace ai:Zk an aw an az:=.of_below ai;refine lV (.bool ax) (Z5 (congrArg Value.bool ah) rfl)<|go ?_;replace aa:=aa.grow ai;exact ⟨rfl,_,_,hm,aa,rfl⟩
 refine lV (.bool false) (Xn (congrArg Value.bool ah) rfl)<|go ?_;exact ⟨rfl,_,_,hm,aa,rfl⟩
def Zjw (aa:Bool):Option Bool:=
  some aa
def Zhp (N:Nat) (aa:R1) (ab:R1):Option Bool:=
  (Zl5 N (aa.1.1,aa.1.2) (ab.1.1,ab.1.2)).bind fun ac=>if ac=true then ((Zhg N aa.2 ab.2).bind fun ad=>Zjw ad) else (Zjw false)
theorem Zq2 {N ah au ai av:Nat} {aj aw ak ax:Option Addr} {col:Zd} {w0:World} {ab ac:R1} {r:Bool} (hm:Zhp N ab ac=some r) (al:Sl rU col w0 aj ah ab.1.2) (am:Sl rU col w0 aw au ab.2) (an:Sl rU col w0 ak ai ac.1.2) (ao:Sl rU col w0 ax av ac.2):
    Calls prog 11 #[(.agg #[.bool ab.1.1,.slice aj ab.1.2.length ah,.slice aw ab.2.length au]),(.agg #[.bool ac.1.1,.slice ak ac.1.2.length ai,.slice ax ac.2.length av])] w0 (W1 w0 r):=by
 refine Z7 4 (m:=17) func11 rfl rfl rfl rfl rfl ?_;rw [Zhp.eq_1] at hm;have aa:=St.start col w0;refine go ?_;refine Xf (col:=(Zg col)) 1 rfl ?_;intro a9 ba a2 a3 ad;refine Xf (col:=a2) 2 rfl ?_;intro bb a4 af ay ag;refine Qu rfl<|Zj<|Zw ?_;replace aa:=(aa.grow a3).grow ay;replace ad:=ad.gr ay;refine Wp.cutK [1000000] (fun f az=>∃ a0 ap,Zjw ap=some r∧St w0 (Zg col) a0 az∧[4].map f=[.bool ap]) ?_ ?_
 ·intro f az hJ;obtain ⟨a0,ap,hm,aa,hs⟩:=hJ;rw [Zjw.eq_1] at hm;refine .lL [4] hs<|Y1 ?_;cases hm;exact ⟨rfl,rfl,aa.below⟩
 refine Wk<|Z9 ⟨_,_,rfl⟩ ?_;refine lV (.agg #[.bool ab.1.1,.slice aj ab.1.2.length ah]) (Yq isAgg40 sizeOf40 rfl rfl ((ad.atN).part 0 2 _ rfl))<|Z9 ⟨_,_,rfl⟩ ?_;refine lV (.agg #[.bool ac.1.1,.slice ak ac.1.2.length ai]) (Yq isAgg40 sizeOf40 rfl rfl ((ag.atN).part 0 2 _ rfl)) ?_;obtain ⟨bc,a5,hm⟩:=bZ hm;refine Zh (Zz5 a5 (al.k0.ks aa) (an.k0.ks aa)) fun _ a1 ⟨e',ae⟩=>⟨_,e',?_⟩;replace ae:Zk af a4 af a1:=.of_below ae;refine Ws rfl ?_;replace aa:=aa.grow ae;refine Xo hm (fun aq hm=>go ?_) fun aq hm=>go ?_
 ·refine Z9 ⟨_,_,rfl⟩ ?_;refine go ?_;refine lW (((ad.gr ae).atN).nth (q:=2) rfl)<|go ?_;refine Z9 ⟨_,_,rfl⟩ ?_;refine go ?_;refine lW (((ag.gr ae).atN).nth (q:=2) rfl)<|go ?_;obtain ⟨a6,a7,hm⟩:=bZ hm;refine Zh (Zqw a7 (am.k0.ks aa) (ao.k0.ks aa)) fun _ a8 ⟨e',ar⟩=>⟨_,e',?_⟩;replace ar:Zk af a1 af a8:=.of_below ar;refine lV (.bool a6) (Z5 (congrArg Value.bool aq) rfl)<|go ?_;replace aa:=aa.grow ar;exact ⟨rfl,_,_,hm,aa,rfl⟩
 refine lV (.bool false) (Xn (congrArg Value.bool aq) rfl)<|go ?_;exact ⟨rfl,_,_,hm,aa,rfl⟩
/-! fractions that are the same -/
theorem Zxk {N:Nat} {l:List Int} (hl:l.length≤1099511627776):∀ (f i:Nat),i≤l.length→l.length<f+i→Zek N l l f (i:Int)=some true
 | 0,i,a,b=>by omega
 | f+1,i,a,b=>by
  rw [Zek.eq_2]
  by_cases hi:i<l.length
  ·rw [if_pos (dT (by omega)),Zs hi,oB,oB,if_neg (by rw [decide_eq_true rfl];decide),wS (by omega)]
   exact Zxk hl f (i+1) (by omega) (by omega)
  ·rw [if_neg (dF (by omega))]
theorem Zxl {N:Nat} {l:List Int} (hl:l.length≤1099511627776) (hN:1099511627777<N):Zhg N l l=some true:=by
 rw [Zhg,if_neg (by rw [decide_eq_true rfl];decide)]
 exact Zxk hl N 0 (bD _) (by omega)
theorem Zxm {N:Nat} {x:QV} (h:x.1.2.length≤1099511627776∧x.2.length≤1099511627776) (hN:1099511627777<N):Zhp N ((x.1.1,x.1.2),x.2) ((x.1.1,x.1.2),x.2)=some true:=by
 rw [Zhp,Zl5,if_pos (dT rfl),Zxl h.1 hN,oB,Zjt,oB,if_pos rfl,Zxl h.2 hN,oB,Zjw]
def AnsQ (x:QV×Int):Prop:=x.1.1.2.length≤1099511627776∧x.1.2.length≤1099511627776
theorem Z36 {q:Rat} {K:Nat} (h:qs q≤K) (hK:K≤1099511627776) (e:Int):AnsQ (Xc q,e):=
 ⟨bA (Nat.le_max_left _ _) (bA h hK),bA (Nat.le_max_right _ _) (bA h hK)⟩
def Zly (aa:Bool):Option Bool:=
  some aa
def Zdy (N:Nat) (aa:R0):Nat→Int→Int→Option Bool
  | 0,_,_=>none
  | ad+1,ac,ab=>if (decide (ab<(aa.2.2.2.2.length:Int)))=true then ((Zi aa.2.2.2.2 ab).bind fun ae=>(Zdy N aa ad) (i64.wrap (ac+(ae.length:Int))) (i64.wrap (ab+1))) else (if (decide (3000<ac))=true then (Zly true) else ((Zma N (aa.1,aa.2.1,aa.2.2.1,aa.2.2.2.1,aa.2.2.2.2)).bind fun af=>Zly (decide (6000<af))))
def Zdx (N:Nat) (aa:R0):Nat→Int→Int→Option Bool
  | 0,_,_=>none
  | ae+1,ad,ac=>if (decide (ac<(aa.2.2.1.length:Int)))=true then ((Zi aa.2.2.1 ac).bind fun ab=>if (decide (600<(i64.wrap (ad * (if (ab.length:Int)>1 then (ab.length:Int) else 1)))))=true then (some true) else ((Zdx N aa ae) (i64.wrap (ad * (if (ab.length:Int)>1 then (ab.length:Int) else 1))) (i64.wrap (ac+1)))) else (Zdy N aa N 0 0)
def Zlx (N:Nat) (aa:R0):Option Bool:=
  Zdx N aa N 1 0
theorem Zzl {N ai aj ak al:Nat} {am an ao ap:Option Addr} {col:Zd} {w0:World} {ab:R0} {r:Bool} (hm:Zlx N ab=some r) (ar:Sl Za.str col w0 am ai ab.2.1) (af:Sl rV col w0 an aj ab.2.2.1) (au:Sl rP col w0 ao ak ab.2.2.2.1) (ag:Sl (Za.slice rQ) col w0 ap al ab.2.2.2.2):
    Calls prog 30 #[(.agg #[.string ab.1,.slice am ab.2.1.length ai,.slice an ab.2.2.1.length aj,.slice ao ab.2.2.2.1.length ak,.slice ap ab.2.2.2.2.length al])] w0 (W1 w0 r):=by
 refine Z7 2 (m:=47) func30 rfl rfl rfl rfl rfl ?_;rw [Zlx.eq_1] at hm;have aa:=St.start col w0;refine go ?_;refine Xf (col:=(Zg col)) 1 rfl ?_;intro a7 bi bj ba ac;refine go ?_;replace aa:=aa.grow ba;refine Zt [1,1000000] (fun n f av=>∃ aw ax ay ad,ad=n∧Zdx N ab ad ax ay=some r∧St w0 (Zg col) aw av∧Ze 27 1 aw av a7 #[.string ab.1,.slice am ab.2.1.length ai,.slice an ab.2.2.1.length aj,.slice ao ab.2.2.2.1.length ak,.slice ap ab.2.2.2.2.length al]∧[3,4].map f=[.int .i64 ax,.int .i64 ay]) N ⟨_,1,0,_,rfl,hm,aa,ac,rfl⟩ ?_;clear hm;intro n f av hI;obtain ⟨aw,ax,ay,ad,hn,hm,aa,ac,hs⟩:=hI;subst hn;refine .lL [3,4] hs ?_;replace af:=af.k0;replace ag:=ag.k0
 cases ad with
 | zero=>rw [Zdx.eq_1] at hm;cases hm
 | succ ad=>
  rw [Zdx.eq_2] at hm;refine go ?_;refine Zy ac ?_;refine go ?_;refine Zl hm (fun hb hm=>go ?_) fun hb hm=>go ?_
  ·refine Zy ac<|Xe rfl ?_;obtain ⟨az,a0,hm⟩:=bZ hm;refine lI a0 ((af.ks aa).addr a0) ?_;obtain ⟨_,bb,bc⟩:=(af.ks aa).atN a0;obtain ⟨⟨bk,bm,rfl,bn⟩,_⟩:=bb;refine lW bc.one<|go ?_;refine lV (.int .i64 (if (az.length:Int)>1 then (az.length:Int) else 1)) (Z4u 1 (az.length:Int) rfl rfl)<|go ?_;refine Zl hm (fun hb hm=>go ?_) fun hb hm=>go ?_
   ·cases hm;exact ⟨rfl,rfl,aa.below⟩
   exact ⟨ad,by omega,rfl,⟨_,_,_,_,rfl,hm,aa,ac,rfl⟩⟩
  refine Zt [1,1000000] (fun n f aq=>∃ ah a1 a2 ae,ae=n∧Zdy N ab ae a1 a2=some r∧St w0 (Zg col) ah aq∧Ze 27 1 ah aq a7 #[.string ab.1,.slice am ab.2.1.length ai,.slice an ab.2.2.1.length aj,.slice ao ab.2.2.2.1.length ak,.slice ap ab.2.2.2.2.length al]∧[5,6].map f=[.int .i64 a1,.int .i64 a2]) N ⟨_,0,0,_,rfl,hm,aa,ac,rfl⟩ ?_;clear hm;intro n f aq hI;obtain ⟨ah,a1,a2,ae,hn,hm,aa,ac,hs⟩:=hI;subst hn;refine .lL [5,6] hs ?_
  cases ae with
  | zero=>rw [Zdy.eq_1] at hm;cases hm
  | succ ae=>
   rw [Zdy.eq_2] at hm;refine go ?_;refine Zy ac ?_;refine go ?_;refine Zl hm (fun hb hm=>go ?_) fun hb hm=>?_
   ·refine Zy ac<|Xe rfl ?_;obtain ⟨bo,a3,hm⟩:=bZ hm;refine lI a3 ((ag.ks aa).addr a3) ?_;obtain ⟨_,bd,be⟩:=(ag.ks aa).atN a3;obtain ⟨⟨bp,bq,rfl,br⟩,_⟩:=bd;refine lW be.one<|go ?_;exact ⟨ae,by omega,rfl,⟨_,_,_,_,rfl,hm,aa,ac,rfl⟩⟩
   refine Zil (Ziz ?_);refine Zw ?_;refine Wp.cutK [1000000] (fun f a8=>∃ a9 a4,Zly a4=some r∧St w0 (Zg col) a9 a8∧[2].map f=[.bool a4]) ?_ ?_
   ·intro f a8 hJ;obtain ⟨a9,a4,hm,aa,hs⟩:=hJ;rw [Zly.eq_1] at hm;refine .lL [2] hs<|Y1 ?_;cases hm;exact ⟨rfl,rfl,aa.below⟩
   refine go ?_;refine Xo hm (fun a5 hm=>go ?_) fun a5 hm=>go ?_
   ·refine lV (.bool true) (Z5 (congrArg Value.bool a5) rfl)<|go ?_;exact ⟨rfl,_,_,hm,aa,rfl⟩
   refine lV _ (Xh isAgg27 sizeOf27 ac)<|go ?_;obtain ⟨bf,bg,hm⟩:=bZ hm;refine Zh (Z0t bg (ar.k0.ks aa) (af.ks aa) (au.k0.ks aa) (ag.ks aa)) fun _ bh ⟨e',a6⟩=>⟨_,e',?_⟩;replace a6:Zk ah aq ah bh:=.of_below a6;refine go ?_;refine lV (.bool (decide (6000<bf))) (Xn (congrArg Value.bool a5) rfl)<|go ?_;exact ⟨rfl,_,_,hm,aa.grow a6,rfl⟩
/-! which networks are gone through -/
theorem Ztz {N:Nat} {n:Z6} (hb:∀ t ∈ n.2.2.2.2,t.length≤1048576∧∀ x ∈ t,x.1.2.length≤1048576∧x.2.length≤1048576) (hl:n.2.2.2.2.length≤1048576) (hN:1048577<N):∀ (f i:Nat) (s:Int),0≤s→s≤1048576 * (i:Int)→i≤n.2.2.2.2.length→n.2.2.2.2.length<f+i→∃ r,Zdy N n f s (i:Int)=some r
 | 0,i,s,_,_,b,c=>by omega
 | f+1,i,s,e,g,b,c=>by
  rw [Zdy.eq_2]
  by_cases hi:i<n.2.2.2.2.length
  ·have j:=hb _ (aD hi)
   rw [if_pos (dT (by omega)),Zs hi,oB,Zp (x:=s+_) (by omega),wS (by omega)]
   exact Ztz hb hl hN f (i+1) _ (by omega) (by omega) (by omega) (by omega)
  ·rw [if_neg (dF (by omega))]
   by_cases h3:3000<s
   ·rw [if_pos (dT h3)];exact ⟨_,rfl⟩
   ·rw [if_neg (dF h3)]
    obtain ⟨r,d⟩:=Zts (N:=N) hb hl hN N 0 0 (by omega) (by omega) (bD _) (by omega)
    have a:Zma N (n.1,n.2.1,n.2.2.1,n.2.2.2.1,n.2.2.2.2)=some r:=d
    rw [a,oB];exact ⟨_,rfl⟩
theorem Zty {N:Nat} {n:Z6} (hvl:∀ l ∈ n.2.2.1,l.length≤1048576) (hvn:n.2.2.1.length≤1048576) (hb:∀ t ∈ n.2.2.2.2,t.length≤1048576∧∀ x ∈ t,x.1.2.length≤1048576∧x.2.length≤1048576) (hl:n.2.2.2.2.length≤1048576) (hN:1048577<N):∀ (f v c:Nat),v≤n.2.2.1.length→c≤600→n.2.2.1.length<f+v→∃ r,Zdx N n f (c:Int) (v:Int)=some r∧(r=false→c * Z4 ((n.2.2.1.drop v).map fun l=>max l.length 1)≤600)
 | 0,v,c,b,a,d=>by omega
 | f+1,v,c,b,a,d=>by
  rw [Zdx.eq_2]
  by_cases hk:v<n.2.2.1.length
  ·have o:=hvl _ (aD hk)
   have g:(if (n.2.2.1[v].length:Int)>1 then (n.2.2.1[v].length:Int) else 1)=((max n.2.2.1[v].length 1:Nat):Int):=by
    split <;> omega
   have i:c * max n.2.2.1[v].length 1≤600 * 1048576:=gS a (by omega)
   have e:(c:Int) * ((max n.2.2.1[v].length 1:Nat):Int)=((c * max n.2.2.1[v].length 1:Nat):Int):=(bT _ _).symm
   rw [if_pos (dT (by omega)),Zs hk,oB,g,e]
   generalize hz:c * max n.2.2.1[v].length 1=z at i ⊢
   rw [Zp (by omega)]
   by_cases h4:600<(z:Int)
   ·rw [if_pos (dT h4)];exact ⟨_,rfl,fun h=>Bool.noConfusion h⟩
   ·rw [if_neg (dF h4),wS (by omega)]
    obtain ⟨r,j,k⟩:=Zty hvl hvn hb hl hN f (v+1) z (by omega) (by omega) (by omega)
    exact ⟨r,j,fun h=>by rw [aL hk,cG,Z4,← bN,hz];exact k h⟩
  ·rw [if_neg (dF (by omega))]
   obtain ⟨r,m⟩:=Ztz (N:=N) hb hl hN N 0 0 (by omega) (by omega) (bD _) (by omega)
   exact ⟨r,m,fun _=>by rw [aF (by omega),dR,Z4,iB];exact a⟩
def Zfd (N:Nat) (aa:Int) (kk_L2:(ByteArray→R4→Ri→Ra→Rh→Int→Option Unit)):Nat→ByteArray→R4→Ri→Ra→Rh→Int→Option Unit
  | 0,_,_,_,_,_,_=>none
  | ai+1,ae,af,ac,ag,ah,ab=>(Zi ac aa).bind fun ad=>if (decide (ab<(ad.length:Int)))=true then ((Zi ad ab).bind fun ak=>(some (ad.set (aA ab) (⟨#[35]⟩))).bind fun aj=>(Zfd N aa kk_L2 ai) ae af (ac.set (aA aa) aj) ag ah (i64.wrap (ab+1))) else (kk_L2 ae af ac ag ah (i64.wrap (aa+1)))
def Zfe (N:Nat) (aa:Int) (kk_L4:(ByteArray→R4→Ri→Ra→Rh→Int→Option Unit)):Nat→ByteArray→R4→Ri→Ra→Rh→Int→Option Unit
  | 0,_,_,_,_,_,_=>none
  | ai+1,ae,af,ag,ac,ah,ab=>(Zi ac aa).bind fun ad=>if (decide (ab<(ad.length:Int)))=true then ((Zi ad ab).bind fun ak=>(some (ad.set (aA ab) (-9))).bind fun aj=>(Zfe N aa kk_L4 ai) ae af ag (ac.set (aA aa) aj) ah (i64.wrap (ab+1))) else (kk_L4 ae af ag ac ah (i64.wrap (aa+1)))
def Zfg (N:Nat) (ab:Int) (ae:List R8) (aa:Int) (kk_L7:(ByteArray→R4→Ri→Ra→Rh→Int→Option Unit)) (af:R8) (ag:R1):Nat→ByteArray→R4→Ri→Ra→R2→R2→Int→Bool→Option Unit
  | 0,_,_,_,_,_,_,_,_=>none
  | an+1,ai,aj,ak,al,ah,ac,ad,ao=>if (decide (ad<(ac.length:Int)))=true then ((Zi ac ad).bind fun ar=>(some (ac.set (aA ad) 6)).bind fun ap=>(Zfg N ab ae aa kk_L7 af ag an) ai aj ak al ah ap (i64.wrap (ad+1)) ao) else ((Zi (ae.set (aA ab) (af.set (aA aa) ((ag.1.1,ah),ac))) ab).bind fun am=>(Zi am aa).bind fun au=>(some (am.set (aA aa) ((true,[9]),[2]))).bind fun aq=>kk_L7 ai aj ak al ((ae.set (aA ab) (af.set (aA aa) ((ag.1.1,ah),ac))).set (aA ab) aq) (i64.wrap (aa+1)))
def Zff (N:Nat) (ac:Int) (ad:List R8) (ae:Int) (kk_L7:(ByteArray→R4→Ri→Ra→Rh→Int→Option Unit)) (af:R8) (ag:R1):Nat→ByteArray→R4→Ri→Ra→R2→R2→Int→Bool→Option Unit
  | 0,_,_,_,_,_,_,_,_=>none
  | an+1,ah,ai,aj,ak,aa,al,ab,am=>if (decide (ab<(aa.length:Int)))=true then ((Zi aa ab).bind fun ap=>(some (aa.set (aA ab) 5)).bind fun ao=>(Zff N ac ad ae kk_L7 af ag an) ah ai aj ak ao al (i64.wrap (ab+1)) am) else (Zfg N ac ad ae kk_L7 af ag N ah ai aj ak aa al 0 am)
def Zbk (N:Nat) (aa:Int) (kk_L6:(ByteArray→R4→Ri→Ra→Rh→Int→Option Unit)):Nat→ByteArray→R4→Ri→Ra→Rh→Int→Option Unit
  | 0,_,_,_,_,_,_=>none
  | aj+1,af,ag,ah,ai,ac,ad=>(Zi ac aa).bind fun ae=>if (decide (ad<(ae.length:Int)))=true then ((Zi ae ad).bind fun ab=>Zff N aa ac ad (Zbk N aa kk_L6 aj) ae ab N af ag ah ai ab.1.2 ab.2 0 ab.1.1) else (kk_L6 af ag ah ai ac (i64.wrap (aa+1)))
def Q8 (N:Nat):Nat→ByteArray→R4→Ri→Ra→Rh→Int→Option Unit
  | 0,_,_,_,_,_,_=>none
  | ac+1,ad,ae,af,ag,aa,ab=>if (decide (ab<(aa.length:Int)))=true then (Zbk N ab (Q8 N ac) N ad ae af ag aa 0) else (some ())
def Zcw (N:Nat):Nat→ByteArray→R4→Ri→Ra→Rh→Int→Option Unit
  | 0,_,_,_,_,_,_=>none
  | ag+1,ab,ac,ad,aa,ae,af=>if (decide (af<(aa.length:Int)))=true then (Zfe N af (Zcw N ag) N ab ac ad aa ae 0) else (Q8 N N ab ac ad aa ae 0)
def Zcv (N:Nat):Nat→ByteArray→R4→Ri→Ra→Rh→Int→Option Unit
  | 0,_,_,_,_,_,_=>none
  | ag+1,ab,ac,aa,ad,ae,af=>if (decide (af<(aa.length:Int)))=true then (Zfd N af (Zcv N ag) N ab ac aa ad ae 0) else (Zcw N N ab ac aa ad ae 0)
def Zfc (N:Nat):Nat→ByteArray→R4→Ri→Ra→Rh→Int→Option Unit
  | 0,_,_,_,_,_,_=>none
  | ag+1,ac,aa,ad,ae,af,ab=>if (decide (ab<(aa.length:Int)))=true then ((Zi aa ab).bind fun ai=>(some (aa.set (aA ab) (⟨#[35]⟩))).bind fun ah=>(Zfc N ag) ac ah ad ae af (i64.wrap (ab+1))) else (Zcv N N ac aa ad ae af 0)
def Zj3 (N:Nat) (aa:R0):Option Unit:=
  Zfc N N aa.1 aa.2.1 aa.2.2.1 aa.2.2.2.1 aa.2.2.2.2 0
theorem Z0w {N ga gb gc gd:Nat} {ge gf gg gh:Option Addr} {col:Zd} {w0:World} {av:R0} {r:Unit} (qc0 ax ay az:Nat) (hm:Zj3 N av=some r) (hd:Sy [qc0,ax,ay,az]=true) (dh:Zb Za.str 9 qc0 col w0 ge ga av.2.1) (di:Zb (Za.row 9 Za.str) 22 ax col w0 gf gb av.2.2.1) (dj:Zb (Za.row 3 rI) 36 ay col w0 gg gc av.2.2.2.1) (dk:Zb (Za.row 42 (rO 45)) 29 az col w0 gh gd av.2.2.2.2):
    Calls prog 13 #[(.agg #[.string av.1,.slice ge av.2.1.length ga,.slice gf av.2.2.1.length gb,.slice gg av.2.2.2.1.length gc,.slice gh av.2.2.2.2.length gd])] w0 (fun e w'=>∃ col',e= .returned (.tuple #[])∧Z1 (pS [qc0,ax,ay,az]) col w0 col' w'):=by
 refine Zf4 (m:=131) (args:=[(.agg #[.string av.1,.slice ge av.2.1.length ga,.slice gf av.2.2.1.length gb,.slice gg av.2.2.2.1.length gc,.slice gh av.2.2.2.2.length gd])]) func13 rfl rfl rfl rfl ?_;rw [Zj3.eq_1] at hm;have ab:=St.startL (l:=[qc0,ax,ay,az]) rfl col w0;replace dh:=dh.startL (Tu hd 0 rfl) (Tt hd 0 rfl);replace di:=di.startL (Tu hd 1 rfl) (Tt hd 1 rfl);replace dj:=dj.startL (Tu hd 2 rfl) (Tt hd 2 rfl);replace dk:=dk.startL (Tu hd 3 rfl) (Tt hd 3 rfl);refine go ?_;refine Xf (col:=(Xl [qc0,ax,ay,az] col)) 1 rfl ?_;intro aj kc kd dl aa;refine go ?_;replace ab:=ab.grow dl;refine Zt [1,1000000] (fun n f bz=>∃ bg em en eo ci ep eq dm er es dn et eu dp ew cj,cj=n∧Zfc N cj em ci dm dn dp ew=some r∧St w0 (Xl [qc0,ax,ay,az] col) bg bz∧Zb Za.str 9 440 bg bz en eo ci∧Zb (Za.row 9 Za.str) 22 441 bg bz ep eq dm∧Zb (Za.row 3 rI) 36 442 bg bz er es dn∧Zb (Za.row 42 (rO 45)) 29 443 bg bz et eu dp∧Ze 27 1 bg bz aj #[.string em,.slice en ci.length eo,.slice ep dm.length eq,.slice er dn.length es,.slice et dp.length eu]∧[2].map f=[.int .i64 ew]) N ⟨_,_,_,_,_,_,_,_,_,_,_,_,_,_,0,_,rfl,hm,ab,dh.gr dl,di.gr dl,dj.gr dl,dk.gr dl,aa,rfl⟩ ?_;clear hm;intro n f bz hI;obtain ⟨bg,em,en,eo,ci,ep,eq,dm,er,es,dn,et,eu,dp,ew,cj,hn,hm,ab,gi,ey,ez,e0,aa,hs⟩:=hI;subst hn;refine .lL [2] hs ?_
 cases cj with
 | zero=>rw [Zfc.eq_1] at hm;cases hm
 | succ cj=>
  rw [Zfc.eq_2] at hm;refine go ?_;refine Zy aa ?_;refine go ?_;refine Zl hm (fun hb hm=>go ?_) fun hb hm=>go ?_
  ·refine Zy aa<|Xe rfl ?_;obtain ⟨ke,gj,hm⟩:=bZ hm;refine lI gj (gi.addr gj) ?_;obtain ⟨gk,e1,hm⟩:=bZ hm;have e1:gk=ci.set (aA ew) (⟨#[35]⟩):=(Option.some.inj e1).symm;refine Zlr (x1:=⟨#[35]⟩) (v:=(.string (⟨#[35]⟩))) gi gj rfl sizeOf9 (Zwb (⟨#[35]⟩)) rfl rfl (by decide) ?_;intro jc dq jd ie;rw [← e1] at ie;replace aa:=aa.kp dq;replace aa:Ze 27 1 bg jc aj #[.string em,.slice en gk.length eo,.slice ep dm.length eq,.slice er dn.length es,.slice et dp.length eu]:=by rw [← (show ci.length=gk.length by rw [e1,nS])];exact aa
   refine go ?_;replace ey:=ey.kp dq;replace ez:=ez.kp dq;replace e0:=e0.kp dq;replace ab:=ab.kp dq jd;exact ⟨cj,by omega,rfl,⟨_,_,_,_,_,_,_,_,_,_,_,_,_,_,_,_,rfl,hm,ab,ie,ey,ez,e0,aa,rfl⟩⟩
  refine Zt [1,1000000] (fun n f b0=>∃ b1 gl gm gp e2 gs gt e3 gu gv e4 gw gx e5 bh b2,b2=n∧Zcv N b2 gl e2 e3 e4 e5 bh=some r∧St w0 (Xl [qc0,ax,ay,az] col) b1 b0∧Zb Za.str 9 440 b1 b0 gm gp e2∧Zb (Za.row 9 Za.str) 22 441 b1 b0 gs gt e3∧Zb (Za.row 3 rI) 36 442 b1 b0 gu gv e4∧Zb (Za.row 42 (rO 45)) 29 443 b1 b0 gw gx e5∧Ze 27 1 b1 b0 aj #[.string gl,.slice gm e2.length gp,.slice gs e3.length gt,.slice gu e4.length gv,.slice gw e5.length gx]∧[3].map f=[.int .i64 bh]) N ⟨_,_,_,_,_,_,_,_,_,_,_,_,_,_,0,_,rfl,hm,ab,gi,ey,ez,e0,aa,rfl⟩ ?_;clear hm;intro n f b0 hI;obtain ⟨b1,gl,gm,gp,e2,gs,gt,e3,gu,gv,e4,gw,gx,e5,bh,b2,hn,hm,ab,ig,ih,ii,ij,aa,hs⟩:=hI;subst hn;refine .lL [3] hs ?_
  cases b2 with
  | zero=>rw [Zcv.eq_1] at hm;cases hm
  | succ b2=>
   rw [Zcv.eq_2] at hm;refine go ?_;refine Zy aa ?_;refine go ?_;refine Zl hm (fun hb hm=>go ?_) fun hb hm=>go ?_
   ·refine Zt [1,3,1000000] (fun n f bi=>∃ b3 dr ds dt ck b4 b5 a3 du dv cl dw dx cn e6 co,co=n∧Zfd N bh (Zcv N b2) co dr ck a3 cl cn e6=some r∧St w0 (Xl [qc0,ax,ay,az] col) b3 bi∧Zb Za.str 9 440 b3 bi ds dt ck∧Zb (Za.row 9 Za.str) 22 441 b3 bi b4 b5 a3∧Zb (Za.row 3 rI) 36 442 b3 bi du dv cl∧Zb (Za.row 42 (rO 45)) 29 443 b3 bi dw dx cn∧Ze 27 1 b3 bi aj #[.string dr,.slice ds ck.length dt,.slice b4 a3.length b5,.slice du cl.length dv,.slice dw cn.length dx]∧[4].map f=[.int .i64 e6]) N ⟨_,_,_,_,_,_,_,_,_,_,_,_,_,_,0,_,rfl,hm,ab,ig,ih,ii,ij,aa,rfl⟩ ?_;clear hm;intro n f bi hI;obtain ⟨b3,dr,ds,dt,ck,b4,b5,a3,du,dv,cl,dw,dx,cn,e6,co,hn,hm,ab,cp,dy,cq,cr,aa,hs⟩:=hI;subst hn;refine .lL [4] hs ?_
    cases co with
    | zero=>rw [Zfd.eq_1] at hm;cases hm
    | succ co=>
     rw [Zfd.eq_2] at hm;refine go ?_;refine Zy aa<|Xe rfl ?_;obtain ⟨gy,cs,hm⟩:=bZ hm;refine lI cs (dy.addr cs) ?_;obtain ⟨_,je,jf⟩:=dy.atN cs;obtain ⟨kg,kh,rfl,ki⟩:=je.row;refine lW jf.one<|go ?_;refine Zl hm (fun hb hm=>go ?_) fun hb hm=>go ?_
     ·refine Zy aa<|Xe rfl<|lI cs (dy.addr cs) ?_;obtain ⟨_,e7,dz,bj,jg⟩:=dy.open_ 2 (by decide) cs;obtain ⟨ik,il,rfl,im⟩:=jg.row;replace bj:X2 (Za.row 9 Za.str) 22 441 e7 bi b4 b5 a3 (aA bh) [.slice ik gy.length il]:=bj;refine lW bj.atN.one<|Xe rfl ?_;obtain ⟨kj,gz,hm⟩:=bZ hm;refine lI gz (im.addr gz) ?_;obtain ⟨d0,e8,hm⟩:=bZ hm;have e8:d0=gy.set (aA e6) (⟨#[35]⟩):=(Option.some.inj e8).symm;refine Zlr (x1:=⟨#[35]⟩) (v:=(.string (⟨#[35]⟩))) im gz rfl sizeOf9 (Zwb (⟨#[35]⟩)) rfl rfl (by decide) ?_;intro g0 ct jh io;rw [← e8] at io;replace aa:=(aa.kpp dz).kp ct;replace aa:Ze 27 1 e7 g0 aj #[.string dr,.slice ds ck.length dt,.slice b4 a3.length b5,.slice du cl.length dv,.slice dw cn.length dx]:=by rw [];exact aa
      replace bj:=bj.kp ct;replace bj:X2 (Za.row 9 Za.str) 22 441 e7 g0 b4 b5 a3 (aA bh) [.slice ik d0.length il]:=by rw [← (show gy.length=d0.length by rw [e8,nS])];exact bj
      have ji:=bj.close io.has (by decide) (by decide);replace cp:=(cp.kpp dz).kp ct;replace cp:=cp.recol 2 441;replace cq:=(cq.kpp dz).kp ct;replace cq:=cq.recol 2 441;replace cr:=(cr.kpp dz).kp ct;replace cr:=cr.recol 2 441;replace aa:=aa.recol 2 441;replace ab:=(ab.kpp dz).kp ct jh;replace ab:=ab.recol 2 441 (by decide) (by decide);replace aa:Ze 27 1 (Xr 2 441 e7) g0 aj #[.string dr,.slice ds ck.length dt,.slice b4 ((a3.set (aA bh) d0).length) b5,.slice du cl.length dv,.slice dw cn.length dx]:=by rw [← (show a3.length=(a3.set (aA bh) d0).length by simp only [nS])];exact aa
      refine go ?_;exact ⟨co,by omega,rfl,⟨_,_,_,_,_,_,_,_,_,_,_,_,_,_,_,_,rfl,hm,ab,cp,ji,cq,cr,aa,rfl⟩⟩
     exact ⟨b2,by omega,rfl,⟨_,_,_,_,_,_,_,_,_,_,_,_,_,_,_,_,rfl,hm,ab,cp,dy,cq,cr,aa,rfl⟩⟩
   refine Zt [1,1000000] (fun n f b6=>∃ b7 g1 g2 g3 e9 g4 g5 fa g6 g7 fb g8 g9 fc bk b8,b8=n∧Zcw N b8 g1 e9 fa fb fc bk=some r∧St w0 (Xl [qc0,ax,ay,az] col) b7 b6∧Zb Za.str 9 440 b7 b6 g2 g3 e9∧Zb (Za.row 9 Za.str) 22 441 b7 b6 g4 g5 fa∧Zb (Za.row 3 rI) 36 442 b7 b6 g6 g7 fb∧Zb (Za.row 42 (rO 45)) 29 443 b7 b6 g8 g9 fc∧Ze 27 1 b7 b6 aj #[.string g1,.slice g2 e9.length g3,.slice g4 fa.length g5,.slice g6 fb.length g7,.slice g8 fc.length g9]∧[5].map f=[.int .i64 bk]) N ⟨_,_,_,_,_,_,_,_,_,_,_,_,_,_,0,_,rfl,hm,ab,ig,ih,ii,ij,aa,rfl⟩ ?_;clear hm;intro n f b6 hI;obtain ⟨b7,g1,g2,g3,e9,g4,g5,fa,g6,g7,fb,g8,g9,fc,bk,b8,hn,hm,ab,ip,iq,ir,it,aa,hs⟩:=hI;subst hn;refine .lL [5] hs ?_
   cases b8 with
   | zero=>rw [Zcw.eq_1] at hm;cases hm
   | succ b8=>
    rw [Zcw.eq_2] at hm;refine go ?_;refine Zy aa ?_;refine go ?_;refine Zl hm (fun hb hm=>go ?_) fun hb hm=>go ?_
    ·refine Zt [1,5,1000000] (fun n f bm=>∃ b9 d1 d2 d3 cu d4 d5 cv ca cb a4 d6 d7 cw fd cx,cx=n∧Zfe N bk (Zcw N b8) cx d1 cu cv a4 cw fd=some r∧St w0 (Xl [qc0,ax,ay,az] col) b9 bm∧Zb Za.str 9 440 b9 bm d2 d3 cu∧Zb (Za.row 9 Za.str) 22 441 b9 bm d4 d5 cv∧Zb (Za.row 3 rI) 36 442 b9 bm ca cb a4∧Zb (Za.row 42 (rO 45)) 29 443 b9 bm d6 d7 cw∧Ze 27 1 b9 bm aj #[.string d1,.slice d2 cu.length d3,.slice d4 cv.length d5,.slice ca a4.length cb,.slice d6 cw.length d7]∧[6].map f=[.int .i64 fd]) N ⟨_,_,_,_,_,_,_,_,_,_,_,_,_,_,0,_,rfl,hm,ab,ip,iq,ir,it,aa,rfl⟩ ?_;clear hm;intro n f bm hI;obtain ⟨b9,d1,d2,d3,cu,d4,d5,cv,ca,cb,a4,d6,d7,cw,fd,cx,hn,hm,ab,cy,cz,d8,c0,aa,hs⟩:=hI;subst hn;refine .lL [6] hs ?_
     cases cx with
     | zero=>rw [Zfe.eq_1] at hm;cases hm
     | succ cx=>
      rw [Zfe.eq_2] at hm;refine go ?_;refine Zy aa<|Xe rfl ?_;obtain ⟨ha,c1,hm⟩:=bZ hm;refine lI c1 (d8.addr c1) ?_;obtain ⟨_,jj,jk⟩:=d8.atN c1;obtain ⟨kk,kl,rfl,km⟩:=jj.row;refine lW jk.one<|go ?_;refine Zl hm (fun hb hm=>go ?_) fun hb hm=>go ?_
      ·refine Zy aa<|Xe rfl<|lI c1 (d8.addr c1) ?_;obtain ⟨_,fe,d9,bn,jl⟩:=d8.open_ 3 (by decide) c1;obtain ⟨iu,iv,rfl,iw⟩:=jl.row;replace bn:X2 (Za.row 3 rI) 36 442 fe bm ca cb a4 (aA bk) [.slice iu ha.length iv]:=bn;refine lW bn.atN.one<|Xe rfl ?_;obtain ⟨kn,hc,hm⟩:=bZ hm;refine lI hc (iw.addr hc) ?_;obtain ⟨ea,ff,hm⟩:=bZ hm;have ff:ea=ha.set (aA fd) (-9):=(Option.some.inj ff).symm;refine Yp (x1:=(-9)) iw hc ?_;intro he c2 jm ix;rw [← ff] at ix;replace aa:=(aa.kpp d9).kp c2;replace aa:Ze 27 1 fe he aj #[.string d1,.slice d2 cu.length d3,.slice d4 cv.length d5,.slice ca a4.length cb,.slice d6 cw.length d7]:=by rw [];exact aa
       replace bn:=bn.kp c2;replace bn:X2 (Za.row 3 rI) 36 442 fe he ca cb a4 (aA bk) [.slice iu ea.length iv]:=by rw [← (show ha.length=ea.length by rw [ff,nS])];exact bn
       have jn:=bn.close ix.has (by decide) (by decide);replace cy:=(cy.kpp d9).kp c2;replace cy:=cy.recol 3 442;replace cz:=(cz.kpp d9).kp c2;replace cz:=cz.recol 3 442;replace c0:=(c0.kpp d9).kp c2;replace c0:=c0.recol 3 442;replace aa:=aa.recol 3 442;replace ab:=(ab.kpp d9).kp c2 jm;replace ab:=ab.recol 3 442 (by decide) (by decide);replace aa:Ze 27 1 (Xr 3 442 fe) he aj #[.string d1,.slice d2 cu.length d3,.slice d4 cv.length d5,.slice ca ((a4.set (aA bk) ea).length) cb,.slice d6 cw.length d7]:=by rw [← (show a4.length=(a4.set (aA bk) ea).length by simp only [nS])];exact aa
       refine go ?_;exact ⟨cx,by omega,rfl,⟨_,_,_,_,_,_,_,_,_,_,_,_,_,_,_,_,rfl,hm,ab,cy,cz,jn,c0,aa,rfl⟩⟩
      exact ⟨b8,by omega,rfl,⟨_,_,_,_,_,_,_,_,_,_,_,_,_,_,_,_,rfl,hm,ab,cy,cz,d8,c0,aa,rfl⟩⟩
    refine Zt [1,1000000] (fun n f cc=>∃ cd hf hg hh fg hi hj fh hk hl fi ho hp fj ac a5,a5=n∧Q8 N a5 hf fg fh fi fj ac=some r∧St w0 (Xl [qc0,ax,ay,az] col) cd cc∧Zb Za.str 9 440 cd cc hg hh fg∧Zb (Za.row 9 Za.str) 22 441 cd cc hi hj fh∧Zb (Za.row 3 rI) 36 442 cd cc hk hl fi∧Zb (Za.row 42 (rO 45)) 29 443 cd cc ho hp fj∧Ze 27 1 cd cc aj #[.string hf,.slice hg fg.length hh,.slice hi fh.length hj,.slice hk fi.length hl,.slice ho fj.length hp]∧[7].map f=[.int .i64 ac]) N ⟨_,_,_,_,_,_,_,_,_,_,_,_,_,_,0,_,rfl,hm,ab,ip,iq,ir,it,aa,rfl⟩ ?_;clear hm;intro n f cc hI;obtain ⟨cd,hf,hg,hh,fg,hi,hj,fh,hk,hl,fi,ho,hp,fj,ac,a5,hn,hm,ab,jo,jp,jq,jr,aa,hs⟩:=hI;subst hn;refine .lL [7] hs ?_
    cases a5 with
    | zero=>rw [Q8.eq_1] at hm;cases hm
    | succ a5=>
     rw [Q8.eq_2] at hm;refine go ?_;refine Zy aa ?_;refine go ?_;refine Zl hm (fun hb hm=>go ?_) fun hb hm=>go ?_
     ·refine Zt [1,7,1000000] (fun n f a6=>∃ ce hq hr ht fk hu hv fl hw hx fm ap aq ad ah bo,bo=n∧Zbk N ac (Q8 N a5) bo hq fk fl fm ad ah=some r∧St w0 (Xl [qc0,ax,ay,az] col) ce a6∧Zb Za.str 9 440 ce a6 hr ht fk∧Zb (Za.row 9 Za.str) 22 441 ce a6 hu hv fl∧Zb (Za.row 3 rI) 36 442 ce a6 hw hx fm∧Zb (Za.row 42 (rO 45)) 29 443 ce a6 ap aq ad∧Ze 27 1 ce a6 aj #[.string hq,.slice hr fk.length ht,.slice hu fl.length hv,.slice hw fm.length hx,.slice ap ad.length aq]∧[8].map f=[.int .i64 ah]) N ⟨_,_,_,_,_,_,_,_,_,_,_,_,_,_,0,_,rfl,hm,ab,jo,jp,jq,jr,aa,rfl⟩ ?_;clear hm;intro n f a6 hI;obtain ⟨ce,hq,hr,ht,fk,hu,hv,fl,hw,hx,fm,ap,aq,ad,ah,bo,hn,hm,ab,fn,fp,fq,eb,aa,hs⟩:=hI;subst hn;refine .lL [8] hs ?_
      cases bo with
      | zero=>rw [Zbk.eq_1] at hm;cases hm
      | succ bo=>
       rw [Zbk.eq_2] at hm;refine go ?_;refine Zy aa<|Xe rfl ?_;obtain ⟨ai,c3,hm⟩:=bZ hm;refine lI c3 (eb.addr c3) ?_;obtain ⟨_,js,jt⟩:=eb.atN c3;obtain ⟨ko,kq,rfl,kr⟩:=js.row;refine lW jt.one<|go ?_;refine Zl hm (fun hb hm=>go ?_) fun hb hm=>go ?_
       ·refine Zy aa<|Xe rfl<|lI c3 (eb.addr c3) ?_;obtain ⟨_,ju,ec,ag,jv⟩:=eb.open_ 4 (by decide) c3;obtain ⟨a7,a8,rfl,iy⟩:=jv.row;replace ag:X2 (Za.row 42 (rO 45)) 29 443 ju a6 ap aq ad (aA ac) [.slice a7 ai.length a8]:=ag;refine lW ag.atN.one<|Xe rfl ?_;obtain ⟨af,hy,hm⟩:=bZ hm;refine lI hy (iy.addr hy) ?_;obtain ⟨_,kt,c4,ae,jw⟩:=iy.open_ 5 (by decide) hy;obtain ⟨_,_,iz,rfl,cf,jx,jy⟩:=jw.split 6 (by decide);obtain ⟨_,_,rfl,jz,j0⟩:=jx.parts;obtain rfl:=jz.bool;obtain ⟨i0,i1,rfl,hz⟩:=j0.row;obtain ⟨i2,i3,rfl,h0⟩:=jy.row;replace ae:=ae.kpp cf;replace ae:X2 (rO 45) 42 4 iz a6 a7 a8 ai (aA ah) [.bool af.1.1,.slice i0 af.1.2.length i1,.slice i2 af.2.length i3]:=ae;refine lV (.agg #[.bool af.1.1,.slice i0 af.1.2.length i1,.slice i2 af.2.length i3]) (Yq isAgg42 sizeOf42 rfl rfl ae.atN)<|Xt (col:=iz) #[.bool false,(nI),(nI)] 7 zeroValue42 ?_;intro fr ku kv a9 j1;refine Xg j1 ?_;intro kw ba j2 ak;refine go ?_;replace fn:=((((fn.kpp ec).kpp c4).kpp cf).gr a9).kp ba;replace fp:=((((fp.kpp ec).kpp c4).kpp cf).gr a9).kp ba;replace fq:=((((fq.kpp ec).kpp c4).kpp cf).gr a9).kp ba;replace aa:=((((aa.kpp ec).kpp c4).kpp cf).gr a9).kp ba;replace ab:=((((ab.kpp ec).kpp c4).kpp cf).grow a9).kp ba j2;replace ag:=(((ag.kpp c4).kpp cf).gr a9).kp ba;replace ae:=(ae.gr a9).kp ba;replace h0:=(h0.gr a9).kp ba
        refine Zt [1,7,8,9,1000000] (fun n f a2=>∃ a0 ft fu fv ed fw fx ee fy fz ef c5 c6 bp c7 c8 cg f0 f1 c9,c9=n∧Zff N ac ad ah (Zbk N ac (Q8 N a5) bo) ai af c9 ft ed ee ef bp cg f0 f1=some r∧St w0 (Xl [qc0,ax,ay,az] col) a0 a2∧Zb Za.str 9 440 a0 a2 fu fv ed∧Zb (Za.row 9 Za.str) 22 441 a0 a2 fw fx ee∧Zb (Za.row 3 rI) 36 442 a0 a2 fy fz ef∧Zb rU 45 5 a0 a2 c5 c6 bp∧Zb rU 45 6 a0 a2 c7 c8 cg∧X2 (rO 45) 42 4 a0 a2 a7 a8 ai (aA ah) [.bool af.1.1,.slice c5 bp.length c6,.slice c7 cg.length c8]∧X2 (Za.row 42 (rO 45)) 29 443 a0 a2 ap aq ad (aA ac) [.slice a7 ai.length a8]∧Ze 27 1 a0 a2 aj #[.string ft,.slice fu ed.length fv,.slice fw ee.length fx,.slice fy ef.length fz,.slice ap ad.length aq]∧Ze 42 7 a0 a2 fr #[.bool f1,.slice c5 bp.length c6,.slice c7 cg.length c8]∧[10].map f=[.int .i64 f0]) N ⟨_,_,_,_,_,_,_,_,_,_,_,_,_,_,_,_,_,0,_,_,rfl,hm,ab,fn,fp,fq,(hz.gr a9).kp ba,h0,ae,ag,aa,ak,rfl⟩ ?_;clear hm;intro n f a2 hI;obtain ⟨a0,ft,fu,fv,ed,fw,fx,ee,fy,fz,ef,c5,c6,bp,c7,c8,cg,f0,f1,c9,hn,hm,ab,f2,f3,f4,h1,f5,ae,ag,aa,ak,hs⟩:=hI;subst hn;refine .lL [10] hs ?_
        cases c9 with
        | zero=>rw [Zff.eq_1] at hm;cases hm
        | succ c9=>
         rw [Zff.eq_2] at hm;refine go ?_;refine Z9 ⟨_,_,rfl⟩ ?_;refine Z9 (Wg ⟨_,_,rfl⟩) ?_;refine lW ((((ak.atN).part 0 2 _ rfl)).nth (q:=1) rfl)<|go ?_;refine Zl hm (fun hb hm=>go ?_) fun hb hm=>go ?_
         ·refine Z9 ⟨_,_,rfl⟩ ?_;refine Z9 (Wg ⟨_,_,rfl⟩) ?_;refine lW ((((ak.atN).part 0 2 _ rfl)).nth (q:=1) rfl)<|Xe rfl ?_;obtain ⟨kx,h2,hm⟩:=bZ hm;refine lI h2 (h1.addr h2) ?_;obtain ⟨eg,eh,hm⟩:=bZ hm;have eh:eg=bp.set (aA f0) 5:=(Option.some.inj eh).symm;refine Yp (x1:=5) h1 h2 ?_;intro h3 bb j3 i4;rw [← eh] at i4;replace aa:=aa.kp bb;replace aa:Ze 27 1 a0 h3 aj #[.string ft,.slice fu ed.length fv,.slice fw ee.length fx,.slice fy ef.length fz,.slice ap ad.length aq]:=by rw [];exact aa
          replace ak:=ak.kp bb;replace ak:Ze 42 7 a0 h3 fr #[.bool f1,.slice c5 eg.length c6,.slice c7 cg.length c8]:=by rw [← (show bp.length=eg.length by rw [eh,nS])];exact ak
          replace ae:=ae.kp bb;replace ae:X2 (rO 45) 42 4 a0 h3 a7 a8 ai (aA ah) [.bool af.1.1,.slice c5 eg.length c6,.slice c7 cg.length c8]:=by rw [← (show bp.length=eg.length by rw [eh,nS])];exact ae
          refine go ?_;replace f2:=f2.kp bb;replace f3:=f3.kp bb;replace f4:=f4.kp bb;replace ag:=ag.kp bb;replace f5:=f5.kp bb;replace ab:=ab.kp bb j3;exact ⟨c9,by omega,rfl,⟨_,_,_,_,_,_,_,_,_,_,_,_,_,_,_,_,_,_,_,_,rfl,hm,ab,f2,f3,f4,i4,f5,ae,ag,aa,ak,rfl⟩⟩
         refine Zt [1,7,8,9,1000000] (fun n f aw=>∃ ar bq br bs bc bt bu bd bv bw be da db au dc dd al f6 f7 de,de=n∧Zfg N ac ad ah (Zbk N ac (Q8 N a5) bo) ai af de bq bc bd be au al f6 f7=some r∧St w0 (Xl [qc0,ax,ay,az] col) ar aw∧Zb Za.str 9 440 ar aw br bs bc∧Zb (Za.row 9 Za.str) 22 441 ar aw bt bu bd∧Zb (Za.row 3 rI) 36 442 ar aw bv bw be∧Zb rU 45 5 ar aw da db au∧Zb rU 45 6 ar aw dc dd al∧X2 (rO 45) 42 4 ar aw a7 a8 ai (aA ah) [.bool af.1.1,.slice da au.length db,.slice dc al.length dd]∧X2 (Za.row 42 (rO 45)) 29 443 ar aw ap aq ad (aA ac) [.slice a7 ai.length a8]∧Ze 27 1 ar aw aj #[.string bq,.slice br bc.length bs,.slice bt bd.length bu,.slice bv be.length bw,.slice ap ad.length aq]∧Ze 42 7 ar aw fr #[.bool f7,.slice da au.length db,.slice dc al.length dd]∧[11].map f=[.int .i64 f6]) N ⟨_,_,_,_,_,_,_,_,_,_,_,_,_,_,_,_,_,0,_,_,rfl,hm,ab,f2,f3,f4,h1,f5,ae,ag,aa,ak,rfl⟩ ?_;clear hm;intro n f aw hI;obtain ⟨ar,bq,br,bs,bc,bt,bu,bd,bv,bw,be,da,db,au,dc,dd,al,f6,f7,de,hn,hm,ab,am,an,ao,f8,h4,ae,ag,aa,ak,hs⟩:=hI;subst hn;refine .lL [11] hs ?_
         cases de with
         | zero=>rw [Zfg.eq_1] at hm;cases hm
         | succ de=>
          rw [Zfg.eq_2] at hm;refine go ?_;refine Zy ak ?_;refine go ?_;refine Zl hm (fun hb hm=>go ?_) fun hb hm=>go ?_
          ·refine Zy ak<|Xe rfl ?_;obtain ⟨ky,h5,hm⟩:=bZ hm;refine lI h5 (h4.addr h5) ?_;obtain ⟨ei,ej,hm⟩:=bZ hm;have ej:ei=al.set (aA f6) 6:=(Option.some.inj ej).symm;refine Yp (x1:=6) h4 h5 ?_;intro h6 bf j4 i5;rw [← ej] at i5;replace aa:=aa.kp bf;replace aa:Ze 27 1 ar h6 aj #[.string bq,.slice br bc.length bs,.slice bt bd.length bu,.slice bv be.length bw,.slice ap ad.length aq]:=by rw [];exact aa
           replace ak:=ak.kp bf;replace ak:Ze 42 7 ar h6 fr #[.bool f7,.slice da au.length db,.slice dc ei.length dd]:=by rw [← (show al.length=ei.length by rw [ej,nS])];exact ak
           replace ae:=ae.kp bf;replace ae:X2 (rO 45) 42 4 ar h6 a7 a8 ai (aA ah) [.bool af.1.1,.slice da au.length db,.slice dc ei.length dd]:=by rw [← (show al.length=ei.length by rw [ej,nS])];exact ae
           refine go ?_;replace am:=am.kp bf;replace an:=an.kp bf;replace ao:=ao.kp bf;replace ag:=ag.kp bf;replace f8:=f8.kp bf;replace ab:=ab.kp bf j4;exact ⟨de,by omega,rfl,⟨_,_,_,_,_,_,_,_,_,_,_,_,_,_,_,_,_,_,_,_,rfl,hm,ab,am,an,ao,f8,i5,ae,ag,aa,ak,rfl⟩⟩
          refine Z9 ⟨_,_,rfl⟩ ?_;have j5:=X0.join (X0.joinL (Zaf af.1.1) f8.has) h4.has (by decide) (by decide);replace am:=am.recol 6 5;replace an:=an.recol 6 5;replace ao:=ao.recol 6 5;replace ag:=ag.recol 6 5;replace aa:=aa.recol 6 5;replace ab:=ab.recol 6 5 (by decide) (by decide);have j6:=(ae.recol 6 5).close j5 (by decide) (by decide);replace am:=am.recol 5 4;replace an:=an.recol 5 4;replace ao:=ao.recol 5 4;replace ag:=ag.recol 5 4;replace aa:=aa.recol 5 4;replace ab:=ab.recol 5 4 (by decide) (by decide);replace aa:Ze 27 1 (Xr 5 4 (Xr 6 5 ar)) aw aj #[.string bq,.slice br bc.length bs,.slice bt bd.length bu,.slice bv be.length bw,.slice ap ad.length aq]:=by rw [];exact aa
          replace ag:X2 (Za.row 42 (rO 45)) 29 443 (Xr 5 4 (Xr 6 5 ar)) aw ap aq ad (aA ac) [(.slice a7 ((ai.set (aA ah) ((af.1.1,au),al)).length) a8)]:=by rw [← (show ai.length=(ai.set (aA ah) ((af.1.1,au),al)).length by simp only [nS])];exact ag
          have i6:=ag.close j6.has (by decide) (by decide);replace am:=am.recol 4 443;replace an:=an.recol 4 443;replace ao:=ao.recol 4 443;replace aa:=aa.recol 4 443;replace ab:=ab.recol 4 443 (by decide) (by decide);replace aa:Ze 27 1 (Xr 4 443 (Xr 5 4 (Xr 6 5 ar))) aw aj #[.string bq,.slice br bc.length bs,.slice bt bd.length bu,.slice bv be.length bw,(.slice ap ((ad.set (aA ac) (ai.set (aA ah) ((af.1.1,au),al))).length) aq)]:=by rw [← (show ad.length=(ad.set (aA ac) (ai.set (aA ah) ((af.1.1,au),al))).length by simp only [nS])];exact aa
          refine lW ((aa.atN).nth (q:=4) rfl)<|Xe rfl ?_;obtain ⟨h7,h8,hm⟩:=bZ hm;refine lI h8 (i6.addr h8) ?_;obtain ⟨_,i7,ek,a1,j7⟩:=i6.open_ 8 (by decide) h8;obtain ⟨i8,i9,rfl,df⟩:=j7.row;replace a1:X2 (Za.row 42 (rO 45)) 29 443 i7 aw ap aq (ad.set (aA ac) (ai.set (aA ah) ((af.1.1,au),al))) (aA ac) [.slice i8 h7.length i9]:=a1;refine lW a1.atN.one<|Xe rfl<|Wt (col:=i7) [9] 9 ?_;intro h9 kz j8 ch ia;refine lV (.agg #[.bool true,.slice h9 ([9].length) 1]) (Wz (l:=[_,_]) (qs:=[(0,1),(1,1)]) underlying40 zeroValue40 ⟨rfl,sizeOf4,rfl,sizeOf38,trivial⟩ rfl)<|Wt (col:=j8) [2] 10 ?_;intro ja k0 k1 bx j9;refine lV (.agg #[.bool true,.slice h9 ([9].length) 1,.slice ja ([2].length) 1]) (Wz (l:=[_,_]) (qs:=[(0,2),(2,1)]) underlying42 zeroValue42 ⟨rfl,sizeOf40,rfl,sizeOf38,trivial⟩ rfl) ?_;obtain ⟨k2,ib,hm⟩:=bZ hm;replace df:=(df.gr ch).gr bx;refine lI ib (df.addr ib) ?_;have ka:=X0.join (X0.joinL (Zaf true) (ia.gr bx).has) j9.has (by decide) (by decide);replace am:=((am.kpp ek).gr ch).gr bx;replace am:=am.recol 10 9;replace an:=((an.kpp ek).gr ch).gr bx;replace an:=an.recol 10 9;replace ao:=((ao.kpp ek).gr ch).gr bx;replace ao:=ao.recol 10 9;replace a1:=(a1.gr ch).gr bx;replace a1:=a1.recol 10 9;replace aa:=((aa.kpp ek).gr ch).gr bx;replace aa:=aa.recol 10 9;replace ab:=((ab.kpp ek).grow ch).grow bx;replace ab:=ab.recol 10 9 (by decide) (by decide);obtain ⟨el,f9,hm⟩:=bZ hm;have f9:el=h7.set (aA ah) ((true,[9]),[2]):=(Option.some.inj f9).symm;refine Z3a (x1:=((true,[9]),[2])) (v:=(.agg #[.bool true,.slice h9 ([9].length) 1,.slice ja ([2].length) 1])) (df.recol 10 9) ib rfl sizeOf42 ka rfl rfl (by decide) ?_;intro ic id dg jb;rw [← f9] at jb;replace aa:=aa.kpp dg;replace aa:Ze 27 1 id ic aj #[.string bq,.slice br bc.length bs,.slice bt bd.length bu,.slice bv be.length bw,(.slice ap ((ad.set (aA ac) (ai.set (aA ah) ((af.1.1,au),al))).length) aq)]:=by rw [];exact aa
          replace a1:=a1.kpp dg;replace a1:X2 (Za.row 42 (rO 45)) 29 443 id ic ap aq (ad.set (aA ac) (ai.set (aA ah) ((af.1.1,au),al))) (aA ac) [.slice i8 el.length i9]:=by rw [← (show h7.length=el.length by rw [f9,nS])];exact a1
          have kb:=a1.close jb.has (by decide) (by decide);replace am:=am.kpp dg;replace an:=an.kpp dg;replace ao:=ao.kpp dg;replace aa:=aa.recol 8 443;replace ab:=ab.kpp dg;replace ab:=ab.recol 8 443 (by decide) (by decide);replace aa:Ze 27 1 (Xr 8 443 id) ic aj #[.string bq,.slice br bc.length bs,.slice bt bd.length bu,.slice bv be.length bw,(.slice ap (((ad.set (aA ac) (ai.set (aA ah) ((af.1.1,au),al))).set (aA ac) el).length) aq)]:=by rw [← (show (ad.set (aA ac) (ai.set (aA ah) ((af.1.1,au),al))).length=((ad.set (aA ac) (ai.set (aA ah) ((af.1.1,au),al))).set (aA ac) el).length by simp only [nS])];exact aa
          refine go ?_;exact ⟨bo,by omega,rfl,⟨_,_,_,_,_,_,_,_,_,_,_,_,_,_,_,_,rfl,hm,ab,am.recol 8 443,an.recol 8 443,ao.recol 8 443,kb,aa,rfl⟩⟩
       exact ⟨a5,by omega,rfl,⟨_,_,_,_,_,_,_,_,_,_,_,_,_,_,_,_,rfl,hm,ab,fn,fp,fq,eb,aa,rfl⟩⟩
     cases hm;exact ⟨rfl,_,rfl,ab.finL rfl (cm [])⟩
def Zaj (t:List QV):Prop:=t.length≤1048576∧∀ x ∈ t,x.1.2.length≤1048576∧x.2.length≤1048576
theorem Zaj.set {t:List QV} (h:Zaj t) (k:Nat) {x:QV} (hx:x.1.2.length≤1048576∧x.2.length≤1048576):Zaj (t.set k x):=
 ⟨by rw [nS];exact h.1,fun y d=>by
  rcases gI d with c | c
  ·exact h.2 y c
  ·rw [c];exact hx⟩
theorem Znn {α:Type} {p:α→Prop} {l:List α} (h:∀ x ∈ l,p x) (k:Nat) {x:α} (hx:p x):∀ y ∈ l.set k x,p y:=fun y d=>by
 rcases gI d with c | c
 ·exact h y c
 ·rw [c];exact hx
theorem Zqe {α:Type} {l:List α} {i:Nat} (h:i<l.length) (x:α):Zi (l.set i x) (i:Int)=some x:=by
 rw [Zs (by rw [nS];exact h),cC]
section
variable {N:Nat} {a:ByteArray} {b:List ByteArray} {V:List R4} {P:List R2}
theorem Zx4 {T:List (List QV)} {t:List QV} {x:QV} {i k:Nat} {kk} (hi:i<T.length) (hk:k<t.length) (hkb:k≤1048576):∀ (f j:Nat) (m d:List Int) (s:Bool),j≤d.length→d.length<f+j→d.length≤1048576→
  Zfg N (i:Int) T (k:Int) kk t x f a b V P m d (j:Int) s=kk a b V P (T.set i (t.set k ((true,[9]),[2]))) ((k+1:Nat):Int)
 | 0,j,m,d,s,c,e,g=>by omega
 | f+1,j,m,d,s,c,e,g=>by
  rw [Zfg.eq_2]
  by_cases hj:j<d.length
  ·rw [if_pos (dT (by omega)),Zs hj,oB,oB,aB,wS (by omega)]
   exact Zx4 hi hk hkb f (j+1) m _ s (by rw [nS];omega) (by rw [nS];omega) (by rw [nS];omega)
  ·rw [if_neg (dF (by omega)),aB,aB,Zqe hi,oB,Zqe hk,oB,oB,jK,jK,wS (by omega)]
theorem Zx3 {T:List (List QV)} {t:List QV} {x:QV} {i k:Nat} {kk} (hi:i<T.length) (hk:k<t.length) (hkb:k≤1048576) (hN:1048577<N):∀ (f j:Nat) (m d:List Int) (s:Bool),j≤m.length→m.length<f+j→m.length≤1048576→d.length≤1048576→
  Zff N (i:Int) T (k:Int) kk t x f a b V P m d (j:Int) s=kk a b V P (T.set i (t.set k ((true,[9]),[2]))) ((k+1:Nat):Int)
 | 0,j,m,d,s,e,g,l,c=>by omega
 | f+1,j,m,d,s,e,g,l,c=>by
  rw [Zff.eq_2]
  by_cases hj:j<m.length
  ·rw [if_pos (dT (by omega)),Zs hj,oB,oB,aB,wS (by omega)]
   exact Zx3 hi hk hkb hN f (j+1) _ d s (by rw [nS];omega) (by rw [nS];omega) (by rw [nS];omega) c
  ·rw [if_neg (dF (by omega))]
   exact Zx4 hi hk hkb N 0 m d s (bD _) (by omega) c
theorem Zx2 {i:Nat} {kk} (hib:i≤1048576) (hN:1048577<N):∀ (f k:Nat) (T:List (List QV)) (hi:i<T.length),(∀ t ∈ T,Zaj t)→k≤T[i].length→T[i].length<f+k→
  (∀ T':List (List QV),T'.length=T.length→(∀ t ∈ T',Zaj t)→kk a b V P T' ((i+1:Nat):Int)=some ())→Zbk N (i:Int) kk f a b V P T (k:Int)=some ()
 | 0,k,T,hi,c,j,l,hk=>by omega
 | f+1,k,T,hi,c,j,l,d=>by
  have e:=c _ (aD hi)
  have o:=e.1
  rw [Zbk.eq_2,Zs hi,oB]
  by_cases hk:k<T[i].length
  ·have g:=e.2 _ (aD hk)
   rw [if_pos (dT (by omega)),Zs hk,oB]
   refine (Zx3 hi hk (by omega) hN N 0 _ _ _ (bD _) (by omega) g.1 g.2).trans ?_
   exact Zx2 hib hN f (k+1) _ (by rw [nS];exact hi) (Znn c i (e.set k (by decide))) (by rw [cC,nS];omega) (by rw [cC,nS];omega) fun T' m n=>d T' (by rw [m,nS]) n
  ·rw [if_neg (dF (by omega)),wS (by omega)]
   exact d T rfl c
theorem Zx1 (hN:1048577<N):∀ (f i:Nat) (T:List (List QV)),(∀ t ∈ T,Zaj t)→T.length≤1048576→i≤T.length→T.length<f+i→Q8 N f a b V P T (i:Int)=some ()
 | 0,i,T,_,_,d,e=>by omega
 | f+1,i,T,c,k,d,e=>by
  rw [Q8.eq_2]
  by_cases hi:i<T.length
  ·have l:=(c _ (aD hi)).1
   rw [if_pos (dT (by omega))]
   exact Zx2 (by omega) hN N 0 T hi c (bD _) (by omega) fun g m j=>Zx1 hN f (i+1) g j (by omega) (by omega) (by omega)
  ·rw [if_neg (dF (by omega))]
theorem Zx0 {T:List (List QV)} {i:Nat} {kk} (hib:i≤1048576):∀ (f k:Nat) (P:List R2) (hi:i<P.length),(∀ t ∈ P,t.length≤1048576)→k≤P[i].length→P[i].length<f+k→
  (∀ P':List R2,P'.length=P.length→(∀ t ∈ P',t.length≤1048576)→kk a b V P' T ((i+1:Nat):Int)=some ())→Zfe N (i:Int) kk f a b V P T (k:Int)=some ()
 | 0,k,P,hi,c,e,g,hk=>by omega
 | f+1,k,P,hi,c,e,g,d=>by
  have j:=c _ (aD hi)
  rw [Zfe.eq_2,Zs hi,oB]
  by_cases hk:k<P[i].length
  ·rw [if_pos (dT (by omega)),Zs hk,oB,oB,aB,aB,wS (by omega)]
   exact Zx0 hib f (k+1) _ (by rw [nS];exact hi) (Znn c i (by rw [nS];exact j)) (by rw [cC,nS];omega) (by rw [cC,nS];omega) fun P' l m=>d P' (by rw [l,nS]) m
  ·rw [if_neg (dF (by omega)),wS (by omega)]
   exact d P rfl c
theorem Zxz {T:List (List QV)} (hN:1048577<N) (hT:∀ t ∈ T,Zaj t) (hTl:T.length≤1048576):∀ (f i:Nat) (P:List R2),(∀ t ∈ P,t.length≤1048576)→P.length≤1048576→i≤P.length→P.length<f+i→Zcw N f a b V P T (i:Int)=some ()
 | 0,i,P,_,_,d,e=>by omega
 | f+1,i,P,c,k,d,e=>by
  rw [Zcw.eq_2]
  by_cases hi:i<P.length
  ·have l:=c _ (aD hi)
   rw [if_pos (dT (by omega))]
   exact Zx0 (by omega) N 0 P hi c (bD _) (by omega) fun g m j=>Zxz hN hT hTl f (i+1) g j (by omega) (by omega) (by omega)
  ·rw [if_neg (dF (by omega))]
   exact Zx1 hN N 0 T hT hTl (bD _) (by omega)
theorem Zxy {T:List (List QV)} {i:Nat} {kk} (hib:i≤1048576):∀ (f k:Nat) (V:List R4) (hi:i<V.length),(∀ t ∈ V,t.length≤1048576)→k≤V[i].length→V[i].length<f+k→
  (∀ V':List R4,V'.length=V.length→(∀ t ∈ V',t.length≤1048576)→kk a b V' P T ((i+1:Nat):Int)=some ())→Zfd N (i:Int) kk f a b V P T (k:Int)=some ()
 | 0,k,V,hi,c,e,g,hk=>by omega
 | f+1,k,V,hi,c,e,g,d=>by
  have j:=c _ (aD hi)
  rw [Zfd.eq_2,Zs hi,oB]
  by_cases hk:k<V[i].length
  ·rw [if_pos (dT (by omega)),Zs hk,oB,oB,aB,aB,wS (by omega)]
   exact Zxy hib f (k+1) _ (by rw [nS];exact hi) (Znn c i (by rw [nS];exact j)) (by rw [cC,nS];omega) (by rw [cC,nS];omega) fun V' l m=>d V' (by rw [l,nS]) m
  ·rw [if_neg (dF (by omega)),wS (by omega)]
   exact d V rfl c
theorem Zxx {T:List (List QV)} (hN:1048577<N) (hT:∀ t ∈ T,Zaj t) (hTl:T.length≤1048576) (hP:∀ t ∈ P,t.length≤1048576) (hPl:P.length≤1048576):∀ (f i:Nat) (V:List R4),(∀ t ∈ V,t.length≤1048576)→V.length≤1048576→i≤V.length→V.length<f+i→Zcv N f a b V P T (i:Int)=some ()
 | 0,i,V,_,_,d,e=>by omega
 | f+1,i,V,c,k,d,e=>by
  rw [Zcv.eq_2]
  by_cases hi:i<V.length
  ·have l:=c _ (aD hi)
   rw [if_pos (dT (by omega))]
   exact Zxy (by omega) N 0 V hi c (bD _) (by omega) fun g m j=>Zxx hN hT hTl hP hPl f (i+1) g j (by omega) (by omega) (by omega)
  ·rw [if_neg (dF (by omega))]
   exact Zxz hN hT hTl N 0 P hP hPl (bD _) (by omega)
theorem Zxw {T:List (List QV)} (hN:1048577<N) (hT:∀ t ∈ T,Zaj t) (hTl:T.length≤1048576) (hP:∀ t ∈ P,t.length≤1048576) (hPl:P.length≤1048576) (hV:∀ t ∈ V,t.length≤1048576) (hVl:V.length≤1048576):∀ (f i:Nat) (b:List ByteArray),b.length≤1048576→i≤b.length→b.length<f+i→Zfc N f a b V P T (i:Int)=some ()
 | 0,i,b,_,c,d=>by omega
 | f+1,i,b,e,c,d=>by
  rw [Zfc.eq_2]
  by_cases hi:i<b.length
  ·rw [if_pos (dT (by omega)),Zs hi,oB,oB,aB,wS (by omega)]
   exact Zxw hN hT hTl hP hPl hV hVl f (i+1) _ (by rw [nS];exact e) (by rw [nS];omega) (by rw [nS];omega)
  ·rw [if_neg (dF (by omega))]
   exact Zxx hN hT hTl hP hPl N 0 V hV hVl (bD _) (by omega)
end
theorem Z5u {N:Nat} {n:Zfx} (hs:Zfy n) (hN:1048577<N):Zj3 N n=some ():=by
 have h:=hs.nm
 rw [Zj3]
 exact Zxw hN (fun t c=>⟨hs.tl t c,hs.tm t c⟩) hs.tn hs.pl hs.pn hs.vl hs.vn N 0 _ h (bD _) (by omega)
def Zi8 (N:Nat) (aa:R0):Option Bool:=
  (Tj N (aa.1,aa.2.1,aa.2.2.1,aa.2.2.2.1,aa.2.2.2.2) ([]:List Rc) ([]:List Int)).bind fun ab=>some (decide (ab=4))
theorem Zzk {N ah ai aj ak:Nat} {al am an ao:Option Addr} {col:Zd} {w0:World} {aa:R0} {r:Bool} (hm:Zi8 N aa=some r) (ac:Sl Za.str col w0 al ah aa.2.1) (ad:Sl rV col w0 am ai aa.2.2.1) (ae:Sl rP col w0 an aj aa.2.2.2.1) (af:Sl (Za.slice rQ) col w0 ao ak aa.2.2.2.2):
    Calls prog 31 #[(.agg #[.string aa.1,.slice al aa.2.1.length ah,.slice am aa.2.2.1.length ai,.slice an aa.2.2.2.1.length aj,.slice ao aa.2.2.2.2.length ak])] w0 (W1 w0 r):=by
 refine Z7 2 (m:=6) func31 rfl rfl rfl rfl rfl ?_;rw [Zi8.eq_1] at hm;have ab:=St.start col w0;refine go ?_;refine Xf (col:=(Zg col)) 1 rfl ?_;intro ax aq ap ar au;refine go ?_;refine lV _ (Xh isAgg27 sizeOf27 au) ?_;obtain ⟨ay,av,hm⟩:=bZ hm;replace ab:=ab.grow ar;refine Zh (Zq5 av (ac.k0.ks ab) (ad.k0.ks ab) (ae.k0.ks ab) (af.k0.ks ab) Sl.nil Sl.nil) fun _ aw ⟨e',ag⟩=>⟨_,e',?_⟩;replace ag:Zk ap aq ap aw:=.of_below ag;refine go ?_;cases hm;exact ⟨rfl,rfl,(ab.grow ag).below⟩
def Zlw (aa:Bool):Option Bool:=
  some aa
def Zi7 (N:Nat) (aa:R0):Option Bool:=
  (Zlx N (aa.1,aa.2.1,aa.2.2.1,aa.2.2.2.1,aa.2.2.2.2)).bind fun ab=>(Zi8 N (aa.1,aa.2.1,aa.2.2.1,aa.2.2.2.1,aa.2.2.2.2)).bind fun ac=>if ab=true then (Zlw (!ac)) else (Zlw false)
theorem Zzj {N am an ao ap:Nat} {aq ar au av:Option Addr} {col:Zd} {w0:World} {ab:R0} {r:Bool} (hm:Zi7 N ab=some r) (ac:Sl Za.str col w0 aq am ab.2.1) (ad:Sl rV col w0 ar an ab.2.2.1) (ae:Sl rP col w0 au ao ab.2.2.2.1) (af:Sl (Za.slice rQ) col w0 av ap ab.2.2.2.2):
    Calls prog 6 #[(.agg #[.string ab.1,.slice aq ab.2.1.length am,.slice ar ab.2.2.1.length an,.slice au ab.2.2.2.1.length ao,.slice av ab.2.2.2.2.length ap])] w0 (W1 w0 r):=by
 refine Z7 2 (m:=14) func6 rfl rfl rfl rfl rfl ?_;rw [Zi7.eq_1] at hm;have aa:=St.start col w0;refine go ?_;refine Xf (col:=(Zg col)) 1 rfl ?_;intro a5 az ag a0 ah;refine go ?_;refine lV _ (Xh isAgg27 sizeOf27 ah) ?_;obtain ⟨a6,a1,hm⟩:=bZ hm;replace ac:=ac.k0;replace ad:=ad.k0;replace ae:=ae.k0;replace af:=af.k0;replace aa:=aa.grow a0;refine Zh (Zzl a1 (ac.ks aa) (ad.ks aa) (ae.ks aa) (af.ks aa)) fun _ aw ⟨e',ai⟩=>⟨_,e',?_⟩;replace ai:Zk ag az ag aw:=.of_below ai;refine go ?_;refine lV _ (Xh isAgg27 sizeOf27 (ah.gr ai)) ?_;obtain ⟨a2,a3,hm⟩:=bZ hm;replace aa:=aa.grow ai;refine Zh (Zzk a3 (ac.ks aa) (ad.ks aa) (ae.ks aa) (af.ks aa)) fun _ a4 ⟨e',aj⟩=>⟨_,e',?_⟩;replace aj:Zk ag aw ag a4:=.of_below aj;refine Qu rfl<|Zj<|Zw ?_;replace aa:=aa.grow aj;refine Wp.cutK [1000000] (fun f ax=>∃ ay ak,Zlw ak=some r∧St w0 (Zg col) ay ax∧[2].map f=[.bool ak]) ?_ ?_
 ·intro f ax hJ;obtain ⟨ay,ak,hm,aa,hs⟩:=hJ;rw [Zlw.eq_1] at hm;refine .lL [2] hs<|Y1 ?_;cases hm;exact ⟨rfl,rfl,aa.below⟩
 refine go ?_;refine Xo hm (fun al hm=>go ?_) fun al hm=>go ?_
 ·refine lV (.bool (!a2)) (Z5 (congrArg Value.bool al) rfl)<|go ?_;exact ⟨rfl,_,_,hm,aa,rfl⟩
 refine lV (.bool false) (Xn (congrArg Value.bool al) rfl)<|go ?_;exact ⟨rfl,_,_,hm,aa,rfl⟩

end Go.Proofs.YthclpfhncgpnmaaGreat
