/-
  What functions of the program compute, as plain Lean functions (m_..), and proofs that they compute it (c_..). Printed by a program of the author; no conditions.
-/
import Derived.Test.YthclpfhncgpnmaaGreatLearnStepBFloat
import Derived.Test.YthclpfhncgpnmaaGreatProg
import Derived.Test.YthclpfhncgpnmaaGreatLearnStepBBrief
import Derived.Test.YthclpfhncgpnmaaGreatLearnStepBMixD
import Derived.Test.YthclpfhncgpnmaaGreatLearnStepBThree
import Derived.Test.YthclpfhncgpnmaaGreatLearnStepBView
import Derived.Test.YthclpfhncgpnmaaGreatLearnStepF3
set_option linter.unusedVariables false
set_option maxRecDepth 100000
set_option maxHeartbeats 2000000
namespace Go.Proofs.YthclpfhncgpnmaaGreat
open Go Go.RowKit
open List renaming mem_cons_self→aO,mem_cons_of_mem→aN,mem_cons→bL,take_add_one→cO,getElem?_eq_getElem→aL,nodup_append→dE,mem_singleton→bO,mem_iff_getElem→jC,getElem_take→fP,append_nil→cV,append_assoc→bC,nil_append→bF,drop_eq_nil_of_le→aG,drop_eq_getElem_cons→aF,getElem_mem→aB,length_map→aH,length_singleton→aK,map_append→dI,take_of_length_le→bA,length_pos_iff→cD,map_cons→bJ,take_append_drop→cT,any_cons→eC,mem_map→cY,drop_zero→aM,length_drop→bH,drop_take→iO,drop_drop→dK,map_map→gJ,map_congr_left→fC,mem_of_mem_take→cL,mem_of_mem_drop→cI,any_eq_false→jQ,getElem_drop→gV,drop_eq_nil_iff→aJ,getD_eq_getElem?_getD→aE,getElem_append_right→fK,set_append_right→eE,map_singleton→eO,replicate→aD,map_nil→dD,getElem?_map→cQ,length_replicate→aS,map→fX,all_cons→cN,take_succ_eq_append_getElem→cB,take_zero→eI
open Option renaming toList_some→bX
open Nat renaming lt_or_ge→bU,min_eq_right→dN,min_eq_left→aZ,div_le_self→cJ,div_lt_iff_lt_mul→dQ,add_mul→bB,one_mul→aV,le_mul_of_pos_right→dX,le_refl→aX,le_trans→aT,min_le_right→jY,mul_le_mul_right→bD,zero_le→aQ,lt_of_lt_of_le→aI,zero_mul→dP,add_comm→fO,add_zero→bR,add_sub_cancel_left→gB,sub_self→eX,beq→aP,mul_comm→bS
open Int renaming toNat_natCast→aC,natCast_mul→bN,tdiv→aR,tdiv_eq_ediv_of_nonneg→bV,natCast_ediv→iE,natCast_nonneg→fJ,ofNat_lt→gF,natCast_add→dS,toNat→aA,tmod→bK
open Rat renaming not_lt→iK,lt_irrefl→cZ
open Go.IntKind (i8 i16 i32 i64 u8 u16 u32 u64)
open Go.Proofs.Tryz

abbrev Zq:=ByteArray×List ByteArray×List R3×List R2×List (List QV)
instance decMemB:∀ (s:ByteArray) (l:List ByteArray),Decidable (s ∈ l)
 | _,[]=>isFalse (by simp)
 | s,x :: l=>if h:s=x then isTrue (by rw [h];exact aO) else match decMemB s l with
  | isTrue h2=>isTrue (aN _ h2)
  | isFalse h2=>isFalse (by rw [bL];rintro (h3 | h3) <;> contradiction)
theorem Z94 {α:Type} (l:List α) (k:Nat) (hk:k<l.length):(l.take (k+1)).Nodup↔(l.take k).Nodup∧l[k] ∉ l.take k:=by
 rw [cO,aL hk,bX,dE]
 constructor
 ·rintro ⟨c,_,f⟩
  exact ⟨c,fun g=>f _ g _ (by simp) rfl⟩
 ·rintro ⟨c,i⟩
  refine ⟨c,by simp,fun a j b d e=>?_⟩
  rw [bO] at d
  subst d;subst e
  exact i j
theorem Zw3 (N:Nat) (l:List ByteArray) (hl:l.length<4611686018427387904) (v:Nat) (hv:v<l.length):∀ (n k:Nat),k≤v→v<n+k→l[v] ∉ l.take k→∃ j:Nat,Zhp N l l[v] n (k:Int)=some (j:Int)∧j≤v∧(j<v↔l[v] ∈ l.take v)
 | 0,k,b,e,_=>by omega
 | n+1,k,b,e,c=>by
  have d:k<l.length:=by omega
  rw [Zhp.eq_2,if_pos (dT (by omega)),Zs d,oB]
  by_cases he:l[k]=l[v]
  ·rw [if_pos (dT he)]
   refine ⟨k,rfl,b,fun h=>?_,fun h=>?_⟩
   ·rw [← he]
    exact jC.2 ⟨k,by rw [nK];omega,by rw [fP]⟩
   ·rcases bU k v with a | a
    ·exact a
    ·have:k=v:=by omega
     subst this;exact absurd h c
  ·have f:k<v:=by
    rcases bU k v with a | a
    ·exact a
    ·have:k=v:=by omega
     subst this;exact absurd rfl he
   rw [if_neg (dF he),Zv (by omega)]
   have:=Zw3 N l hl v hv n (k+1) (by omega) (by omega) (by
    rw [cO,aL d,bX,List.mem_append,bO]
    rintro (h | h)
    ·exact c h
    ·exact he h.symm)
   exact this
theorem Zw4 {N:Nat} {l:List ByteArray} (hl:l.length<4611686018427387904) {v:Nat} (hv:v<l.length) (hN:l.length<N):∃ j:Nat,Zm3 N l l[v]=some (j:Int)∧(j<v↔l[v] ∈ l.take v):=by
 obtain ⟨j,a,_,b⟩:=Zw3 N l hl v hv N 0 (by omega) (by omega) (by simp)
 exact ⟨j,a,b⟩
theorem Zxt (s:ByteArray):∀ (l:List ByteArray) (k:Nat),∃ j:Int,Zh4 s l k=some j∧(0≤j↔s ∈ l)
 | [],k=>⟨-1,rfl,by simp⟩
 | x :: l,k=>by
  rw [Zh4.eq_2]
  by_cases h:s=x
  ·rw [if_pos (dT h)];exact ⟨_,rfl,by simp [h]⟩
  ·rw [if_neg (dF h)]
   obtain ⟨j,a,b⟩:=Zxt s l (k+1)
   exact ⟨j,a,by rw [b,bL];simp [h]⟩
theorem Z7m (s:ByteArray) (l:List ByteArray):Znd l s=some (decide (s ∈ l)):=by
 obtain ⟨j,a,b⟩:=Zxt s l 0
 rw [Znd,Zp1,a,oB]
 congr 1
 exact decide_eq_decide.2 b
theorem Zy3:∀ (l:List ByteArray) (seen:List (ByteArray×Int)) (S:List ByteArray),S.Nodup→(∀ k,Wz seen k=if k ∈ S then some 1 else none)→Zev l seen=some (!decide (S++l).Nodup)
 | [],seen,S,c,d=>by rw [Zev.eq_1,cV,decide_eq_true c];rfl
 | x :: l,seen,S,c,d=>by
  rw [Zev.eq_2,d x]
  by_cases hx:x ∈ S
  ·rw [if_pos hx,if_pos (by decide),decide_eq_false]
   ·rfl
   intro h
   exact (dE.1 h).2.2 x hx x aO rfl
  ·rw [if_neg hx,if_neg (by decide),oB,Zy3 l _ (S++[x]) (by
    rw [dE]
    refine ⟨c,by simp,fun a g b f e=>?_⟩
    rw [bO] at f;subst f;subst e;exact hx g) (fun k=>by
    rw [Zyt,d k]
    by_cases hk:k=x
    ·subst hk;rw [if_pos rfl,if_pos (by simp)]
    ·rw [if_neg hk]
     by_cases hs:k ∈ S
     ·rw [if_pos hs,if_pos (by simp [hs])]
     ·rw [if_neg hs,if_neg (by simp [hs,hk])])]
   rw [bC];rfl
theorem Z9v (l:List ByteArray):Zmc l=some (!decide l.Nodup):=by
 rw [Zmc,Zy3 l [] [] .nil (fun k=>by simp [Wz]),bF]
def S5 (names:List ByteArray) (vals:List R3):Nat→Nat→Int
 | 0,_=>0
 | m+1,v=>if names.getD v ⟨#[]⟩ ∈ names.take v∨¬ (vals.getD v []).Nodup then 40 else if vals.getD v []=[] then 43 else S5 names vals m (v+1)
theorem Zy8 (n:Zq) (hl:n.2.2.1.length=n.2.1.length):∀ (l:List ByteArray) (k:Nat),n.2.1.drop k=l→k≤n.2.1.length→Zcx n l k=some (S5 n.2.1 n.2.2.1 l.length k)
 | [],k,_,_=>rfl
 | x :: l,k,c,f=>by
  have a:k<n.2.1.length:=by
   rcases bU k n.2.1.length with h | h
   ·exact h
   ·rw [aG h] at c;cases c
  have b:=aF a
  rw [c] at b
  obtain ⟨e,d⟩:=List.cons.inj b
  rw [Zcx.eq_2,Z7 (by omega),aC,Z7m,oB,nC,S5,Xl a,← e,Xl (by omega)]
  by_cases h1:x ∈ n.2.1.take k
  ·rw [if_pos (dT h1),Zjs,if_pos rfl,if_pos (.inl h1)]
  ·rw [if_neg (dF h1),Zs (by omega),oB,Z9v,oB,Zjs]
   by_cases h2:(n.2.2.1[k]'(by omega)).Nodup
   ·rw [decide_eq_true h2,if_neg (by decide),if_neg (by simp [h1,h2]),Zs (by omega),oB]
    by_cases h3:n.2.2.1[k]'(by omega)=[]
    ·rw [if_pos (by rw [h3];decide),if_pos h3]
    ·rw [if_neg (by simpa using h3),if_neg h3]
     exact Zy8 n hl l (k+1) d.symm (by omega)
   ·rw [decide_eq_false h2,if_pos (by decide),if_pos (.inr h2)]
theorem Z9y (n:Zq) (hl:n.2.2.1.length=n.2.1.length):Zjr n=some (S5 n.2.1 n.2.2.1 n.2.1.length 0):=by
 rw [Zjr];exact Zy8 n hl n.2.1 0 (by simp) (by omega)
theorem Zt2 (N:Nat) (n:Zq) (v:Nat) (hv:v<n.2.2.1.length) (hb:n.2.2.1[v].length≤1048576) (hN:1048577<N) (hvb:v<4611686018427387904) (kk:Int→Option Int) (A:Prop) [Decidable A]:∀ (m i:Nat) (a:Bool),i≤n.2.2.1[v].length→n.2.2.1[v].length<m+i→(a=true→A∨¬ (n.2.2.1[v]).Nodup)→(a=false→¬ A∧((n.2.2.1[v]).take i).Nodup)→
  Zdg N n (v:Int) kk m a (i:Int)=if A∨¬ (n.2.2.1[v]).Nodup then some 40 else if n.2.2.1[v]=[] then some 43 else kk ((v:Int)+1)
 | 0,i,a,o,p,_,_=>by omega
 | m+1,i,a,o,p,e,f=>by
  rw [Zdg.eq_2,Zs hv,oB]
  by_cases hi:i<n.2.2.1[v].length
  ·rw [if_pos (dT (by omega))]
   cases a with
   | true=>
    rw [if_pos rfl,Zks,Zv (by omega)]
    exact Zt2 N n v hv hb hN hvb kk A m (i+1) true (by omega) (by omega) e (fun h=>by cases h)
   | false=>
    obtain ⟨j,q,g⟩:=Zw4 (N:=N) (l:=n.2.2.1[v]) (by omega) hi (by omega)
    have st:=Z94 n.2.2.1[v] i hi
    have c:=f rfl
    rw [if_neg (by decide),Zs hi,oB,q,oB,Zks,Zv (by omega)]
    have:=Zt2 N n v hv hb hN hvb kk A m (i+1) (decide ((j:Int)<(i:Int))) (by omega) (by omega) (fun h=>.inr fun r=>by
     have d:=of_decide_eq_true h
     have b:=(r.sublist (List.take_sublist (i+1) _))
     exact (st.1 b).2 (g.1 (by omega))) (fun h=>⟨c.1,st.2 ⟨c.2,fun s=>by
     have d:=of_decide_eq_false h
     have:=g.2 s
     omega⟩⟩)
    exact this
  ·have k:i=n.2.2.1[v].length:=by omega
   rw [if_neg (dF (by omega))]
   cases a with
   | true=>rw [if_pos rfl,if_pos (e rfl)]
   | false=>
    obtain ⟨c,d⟩:=f rfl
    rw [k,List.take_length] at d
    have t:¬ (A∨¬ (n.2.2.1[v]).Nodup):=fun h=>h.elim c (fun h=>h d)
    rw [if_neg (by decide),if_neg t,Zv (by omega)]
    by_cases b:n.2.2.1[v]=[]
    ·rw [if_pos (by rw [b];decide),if_pos b]
    ·rw [if_neg (by simpa using b),if_neg b]
theorem Z1s (N:Nat) (n:Zq) (hl:n.2.2.1.length=n.2.1.length) (hn:n.2.1.length≤1048576) (hb:∀ l ∈ n.2.2.1,l.length≤1048576) (hN:1048577<N):∀ (m fuel v:Nat),m+v=n.2.1.length→m<fuel→
  Q1 N n fuel (v:Int)=if S5 n.2.1 n.2.2.1 m v=0 then Q1 N n (fuel - m) (n.2.1.length:Int) else some (S5 n.2.1 n.2.2.1 m v)
 | 0,fuel,v,c,_=>by
  have:v=n.2.1.length:=by omega
  rw [S5,if_pos rfl,this,Nat.sub_zero]
 | m+1,0,v,c,f=>by omega
 | m+1,fuel+1,v,c,f=>by
  have b:v<n.2.1.length:=by omega
  have a:v<n.2.2.1.length:=by omega
  obtain ⟨j,g,d⟩:=Zw4 (N:=N) (l:=n.2.1) (by omega) b (by omega)
  rw [Q1.eq_2,if_pos (dT (by omega)),Zs b,oB,g,oB,S5,Xl b,Xl a,show (0:Int)=((0:Nat):Int) from rfl,
   Zt2 N n v a (hb _ (aB a)) hN (by omega) (Q1 N n fuel) (n.2.1[v] ∈ n.2.1.take v) N 0 _ (by omega) (by have:=hb _ (aB a);omega) (fun h=>.inl (d.1 (by have:=of_decide_eq_true h;omega))) (fun h=>⟨fun i=>by have:=of_decide_eq_false h;have:=d.2 i;omega,by simp⟩)]
  by_cases h3:n.2.1[v] ∈ n.2.1.take v∨¬ (n.2.2.1[v]).Nodup
  ·rw [if_pos h3,if_pos h3,if_neg (by decide)]
  ·rw [if_neg h3,if_neg h3]
   by_cases h4:n.2.2.1[v]=[]
   ·rw [if_pos h4,if_pos h4,if_neg (by decide)]
   ·rw [if_neg h4,if_neg h4]
    have e:=Z1s N n hl hn hb hN m fuel (v+1) (by omega) (by omega)
    rw [show ((v+1:Nat):Int)=(v:Int)+1 by omega] at e
    rw [e,show fuel+1 - (m+1)=fuel - m by omega]
    rfl
theorem Zza {names:List ByteArray} {vals:List R3}:∀ (m v:Nat),S5 names vals m v=0→∀ i,v≤i→i<v+m→vals.getD i []≠[]∧(vals.getD i []).Nodup∧names.getD i ⟨#[]⟩ ∉ names.take i
 | 0,v,_,i,a,b=>by omega
 | m+1,v,h,i,a,b=>by
  rw [S5] at h
  by_cases h3:names.getD v ⟨#[]⟩ ∈ names.take v∨¬ (vals.getD v []).Nodup
  ·rw [if_pos h3] at h;cases h
  ·rw [if_neg h3] at h
   by_cases h4:vals.getD v []=[]
   ·rw [if_pos h4] at h;cases h
   ·rw [if_neg h4] at h
    rcases bU v i with c | c
    ·exact Zza m (v+1) h i (by omega) (by omega)
    ·have:i=v:=by omega
     subst this
     exact ⟨h4,by simpa using (not_or.1 h3).2,(not_or.1 h3).1⟩
def Yu (vals:List R3):List Int→Nat→Nat
 | [],k=>k
 | p :: ps,k=>Yu vals ps (min (k * (vals.getD p.toNat []).length) 1099511627776)
theorem Zt5 (vals:List R3):∀ (ps:List Int) (k:Nat),k≤1099511627776→Yu vals ps k≤1099511627776
 | [],k,h=>h
 | p :: ps,k,h=>Zt5 vals ps _ (by omega)
theorem Zp5 {a b:Nat} (h:a≤1099511627776) (g:b≤1048576):a * b≤1152921504606846976:=by
 have:=Nat.mul_le_mul h g
 simpa using this
theorem Zy0 (n:Zq) (hb:∀ l ∈ n.2.2.1,l.length≤1048576):∀ (ps:List Int) (k:Nat),k≤1099511627776→(∀ p ∈ ps,0≤p∧p<(n.2.2.1.length:Int))→Zgv n ps (k:Int)=some (Yu n.2.2.1 ps k:Int)
 | [],k,_,_=>rfl
 | p :: ps,k,c,b=>by
  have g:=b p aO
  have a:p.toNat<n.2.2.1.length:=by omega
  have d:=hb _ (aB a)
  have i:=Zp5 c d
  rw [Zgv.eq_2,show p=((p.toNat:Nat):Int) by omega,Zs a,oB,Yu,aC,Xl a,← bN,Zv (by omega)]
  have e:=Zy0 n hb ps (min (k * n.2.2.1[p.toNat].length) 1099511627776) (by omega) (fun q f=>b q (aN _ f))
  rw [← e]
  congr 1
  by_cases h5:1099511627776<k * n.2.2.1[p.toNat].length
  ·rw [if_pos (by omega),dN (by omega)];rfl
  ·rw [if_neg (by omega),aZ (by omega)]
theorem Z20 (N:Nat) (n:Zq) (hl:n.2.2.1.length≤1048576):∀ (m i:Nat) (out:List Int),i≤n.2.2.1.length→n.2.2.1.length<m+i→out=(n.2.2.1.take i).map (fun l=>(l.length:Int))→Zhu N n m out (i:Int)=some (n.2.2.1.map fun l=>(l.length:Int))
 | 0,i,out,b,c,_=>by omega
 | m+1,i,out,b,c,a=>by
  rw [Zhu.eq_2]
  have d:out.length=i:=by rw [a,aH,nK];omega
  by_cases hi:i<n.2.2.1.length
  ·rw [if_pos (dT (by omega)),Zs hi,oB,Z7 (by simp only [aK,maxLen];omega),Zv (by omega)]
   exact Z20 N n hl m (i+1) _ (by omega) (by omega) (by rw [a,cO,aL hi,bX,dI];rfl)
  ·rw [if_neg (dF (by omega)),a,bA (by omega)]
theorem Z21 {N:Nat} {n:Zq} (hl:n.2.2.1.length≤1048576) (hN:1048576<N):Zdl N n=some (n.2.2.1.map fun l=>(l.length:Int)):=by
 rw [Zdl]
 exact Z20 N n hl N 0 [] (by omega) (by omega) (by simp)
theorem Zq8 {vals:List R3} {i:Nat} (h:i<vals.length):Zk (vals.map fun l=>(l.length:Int)) (i:Int)=some (vals[i].length:Int):=by
 rw [Zs (by rw [aH];exact h),List.getElem_map]
theorem Zsd (N:Nat) (ps:List Int) (vals:List R3) (hb:∀ l ∈ vals,l.length≤1048576) (hne:∀ l ∈ vals,l≠[]) (hp:∀ p ∈ ps,0≤p∧p<(vals.length:Int)) (hps:ps.length≤1048576):∀ (m i k:Nat),i≤ps.length→ps.length<m+i→k≤1099511627776→
  Zdj N ps (vals.map fun l=>(l.length:Int)) m (k:Int) (i:Int)=some (Yu vals (ps.drop i) k:Int)
 | 0,i,k,c,d,_=>by omega
 | m+1,i,k,c,d,f=>by
  rw [Zdj.eq_2]
  by_cases hi:i<ps.length
  ·have n:=hp _ (aB hi)
   have a:(ps[i]).toNat<vals.length:=by omega
   have g:=hb _ (aB a)
   have j:0<vals[(ps[i]).toNat].length:=cD.2 (hne _ (aB a))
   have o:=Zp5 f g
   rw [if_pos (dT (by omega)),Zs hi,oB]
   conv=>lhs;rw [show ps[i]=(((ps[i]).toNat:Nat):Int) by omega]
   rw [Zq8 a,oB,Z7 (by omega),aF hi,Yu,Xl a]
   have e:i64.wrap (aR 1099511627776 (vals[(ps[i]).toNat].length:Int))=((1099511627776 / vals[(ps[i]).toNat].length:Nat):Int):=by
    rw [bV (by decide),show (1099511627776:Int)=((1099511627776:Nat):Int) from rfl,← iE]
    refine Zv ⟨by have:=fJ (1099511627776 / vals[(ps[i]).toNat].length);omega,?_⟩
    have:=cJ 1099511627776 vals[(ps[i]).toNat].length
    omega
   rw [e]
   have b:1099511627776 / vals[(ps[i]).toNat].length<k↔1099511627776<k * vals[(ps[i]).toNat].length:=dQ j
   by_cases h9:1099511627776<k * vals[(ps[i]).toNat].length
   ·rw [if_pos (dT (gF.2 (b.2 h9))),Zkt,Zv (by omega),dN (by omega)]
    exact Zsd N ps vals hb hne hp hps m (i+1) 1099511627776 (by omega) (by omega) (by omega)
   ·rw [if_neg (by rw [decide_eq_false (fun h=>h9 (b.1 (gF.1 h)))];decide),Zkt,← bN,Zv (by omega),Zv (by omega),aZ (by omega)]
    exact Zsd N ps vals hb hne hp hps m (i+1) _ (by omega) (by omega) (by omega)
  ·rw [if_neg (dF (by omega)),aG (by omega),Yu]
theorem Zwb (N:Nat) (ps:List Int) (vals:List R3) (hb:∀ l ∈ vals,l.length≤1048576) (hne:∀ l ∈ vals,l≠[]) (hp:∀ p ∈ ps,0≤p∧p<(vals.length:Int)) (hps:ps.length≤1048576) (hN:1048577<N):∀ (m i:Nat),i≤ps.length→ps.length<m+i→
  Zho N ps (vals.map fun l=>(l.length:Int)) m (i:Int)=some (Yu vals ps 1:Int)
 | 0,i,b,c=>by omega
 | m+1,i,b,c=>by
  rw [Zho.eq_2]
  by_cases hi:i<ps.length
  ·have d:=hp _ (aB hi)
   have a:(ps[i]).toNat<vals.length:=by omega
   have e:0<vals[(ps[i]).toNat].length:=cD.2 (hne _ (aB a))
   rw [if_pos (dT (by omega)),Zs hi,oB]
   conv=>lhs;rw [show ps[i]=(((ps[i]).toNat:Nat):Int) by omega]
   rw [Zq8 a,oB,if_neg (dF (by omega)),Zv (by omega)]
   exact Zwb N ps vals hb hne hp hps hN m (i+1) (by omega) (by omega)
  ·rw [if_neg (dF (by omega))]
   exact Zsd N ps vals hb hne hp hps N 0 1 (by omega) (by omega) (by omega)
theorem Z7e {N:Nat} {ps:List Int} {vals:List R3} (hb:∀ l ∈ vals,l.length≤1048576) (hne:∀ l ∈ vals,l≠[]) (hp:∀ p ∈ ps,0≤p∧p<(vals.length:Int)) (hps:ps.length≤1048576) (hN:1048577<N):Zm2 N ps (vals.map fun l=>(l.length:Int))=some (Yu vals ps 1:Int):=by
 rw [Zm2]
 exact Zwb N ps vals hb hne hp hps hN N 0 (by omega) (by omega)
theorem Xad {r c:Nat} (hc:0<c):Zm4 (r:Int) (c:Int)=some (decide (65536<r * c)):=by
 have e:i64.wrap (aR 65536 (c:Int))=((65536 / c:Nat):Int):=by
  rw [bV (by decide),show (65536:Int)=((65536:Nat):Int) from rfl,← iE]
  refine Zv ⟨by have:=fJ (65536 / c);omega,?_⟩
  have:=cJ 65536 c
  omega
 rw [Zm4,if_pos (dT (by omega)),Z7 (by omega),e,Zm5]
 congr 1
 refine decide_eq_decide.2 ?_
 rw [gF]
 exact dQ hc
def Qa (vals:List R3) (P:List R2) (T:List (List QV)):Nat→Nat→Int
 | 0,_=>0
 | m+1,v=>if 65536<Yu vals (P.getD v []) 1 * (vals.getD v []).length then 4 else if Yu vals (P.getD v []) 1 * (vals.getD v []).length≠(T.getD v []).length then 60 else Qa vals P T m (v+1)
structure W8 (n:Zq) (W:Nat):Prop where
 nm:n.2.1.length≤1048575
 vl:∀ l ∈ n.2.2.1,l.length≤1048576
 pn:Zlm n.2.2.2.1
 tl:∀ t ∈ n.2.2.2.2,t.length≤1048576
 tq:∀ t ∈ n.2.2.2.2,X6 t≤W
 lim:∀ t ∈ n.2.2.2.2,∀ x ∈ t,W2 x
structure Uo (n:Zq):Prop where
 v:n.2.2.1.length=n.2.1.length
 p:n.2.2.2.1.length=n.2.1.length
 t:n.2.2.2.2.length=n.2.1.length
 i:U5 n.2.2.2.1.length n.2.2.2.1=true
 ne:∀ l ∈ n.2.2.1,l≠[]
theorem Uo.par {n:Zq} (h:Uo n) {ps:List Int} (hp:ps ∈ n.2.2.2.1):∀ p ∈ ps,0≤p∧p<(n.2.2.1.length:Int):=by
 have:=Zxu h.i ps hp
 rw [h.p] at this
 rw [h.v];exact this
theorem Zy1 {N W:Nat} {n:Zq} (hs:W8 n W) (he:Uo n):∀ (l:List (List QV)) (k:Nat),n.2.2.2.2.drop k=l→k≤n.2.1.length→Zcv N n l k=if Qa n.2.2.1 n.2.2.2.1 n.2.2.2.2 l.length k=0 then Zcw N n n.2.2.2.2 else some (Qa n.2.2.1 n.2.2.2.1 n.2.2.2.2 l.length k)
 | [],k,_,_=>by rw [Zcv.eq_1];rfl
 | t :: l,k,d,o=>by
  have q:=he.t;have r:=he.v;have s:=he.p
  have b:k<n.2.2.2.2.length:=by
   rcases bU k n.2.2.2.2.length with h | h
   ·exact h
   ·rw [aG h] at d;cases d
  have c:=aF b
  rw [d] at c
  obtain ⟨i,g⟩:=List.cons.inj c
  have e:k<n.2.2.1.length:=by omega
  have kp:k<n.2.2.2.1.length:=by omega
  have j:=Zt5 n.2.2.1 (n.2.2.2.1[k]) 1 (by omega)
  have m:=hs.vl _ (aB e)
  have u:=Zp5 j m
  have f:Zjv n (k:Int)=some (Yu n.2.2.1 n.2.2.2.1[k] 1:Int):=by
   rw [Zjv,Zs kp,oB]
   exact Zy0 n hs.vl _ 1 (by omega) (he.par (aB kp))
  rw [Zcv.eq_2]
  have a:Zjv (n.1,n.2.1,n.2.2.1,n.2.2.2.1,n.2.2.2.2) (k:Int)=some (Yu n.2.2.1 n.2.2.2.1[k] 1:Int):=f
  rw [a,oB,Zs e,oB,← bN,Zv (by omega),nC,Qa,Xl kp,Xl e,Xl b,← i]
  generalize Yu n.2.2.1 n.2.2.2.1[k] 1 * n.2.2.1[k].length=rc at *
  by_cases h1:65536<rc
  ·rw [if_pos (dT (by omega)),if_pos h1,if_neg (by decide)]
  ·rw [if_neg (dF (by omega)),if_neg h1]
   by_cases h2:rc=t.length
   ·rw [if_neg (by rw [decide_eq_true (by omega)];decide),if_neg (show ¬ rc≠t.length from fun h=>h h2)]
    exact Zy1 hs he l (k+1) g.symm (by omega)
   ·rw [if_pos (by rw [decide_eq_false (by omega)];decide),if_pos h2,if_neg (by decide)]
theorem Z13 {N W:Nat} {n:Zq} (hN:1048577<N) (hs:W8 n W) (he:Uo n):∀ (m fuel v:Nat),m+v=n.2.1.length→m<fuel→
  Zdh N n (n.2.2.1.map fun l=>(l.length:Int)) fuel (v:Int)=if Qa n.2.2.1 n.2.2.2.1 n.2.2.2.2 m v=0 then Zb3 N n (n.2.2.1.map fun l=>(l.length:Int)) N 0 else some (Qa n.2.2.1 n.2.2.2.1 n.2.2.2.2 m v)
 | 0,0,v,_,h=>by omega
 | 0,fuel+1,v,c,_=>by
  rw [Zdh.eq_2,if_neg (dF (by omega))];rfl
 | m+1,0,v,_,h=>by omega
 | m+1,fuel+1,v,c,i=>by
  have j:=he.t;have k:=he.v;have o:=he.p;have g:=hs.nm
  have b:v<n.2.2.2.2.length:=by omega
  have a:v<n.2.2.1.length:=by omega
  have kp:v<n.2.2.2.1.length:=by omega
  have d:=Zt5 n.2.2.1 (n.2.2.2.1[v]) 1 (by omega)
  have e:=hs.vl _ (aB a)
  have f:0<n.2.2.1[v].length:=cD.2 (he.ne _ (aB a))
  have q:=Zp5 d e
  rw [Zdh.eq_2,if_pos (dT (by omega)),Zs kp,oB,Z7e hs.vl he.ne (he.par (aB kp)) (hs.pn.ls _ (aB kp)) hN,oB,Zq8 a,oB,Xad f,oB,Qa,Xl kp,Xl a,Xl b,← bN,Zv (by omega)]
  generalize Yu n.2.2.1 n.2.2.2.1[v] 1 * n.2.2.1[v].length=rc at *
  by_cases h3:65536<rc
  ·rw [if_pos (dT (by omega)),if_pos h3,if_neg (by decide)]
  ·rw [if_neg (dF (by omega)),if_neg h3,Zs b,oB]
   by_cases h4:rc=n.2.2.2.2[v].length
   ·rw [if_neg (by rw [decide_eq_true (by omega)];decide),if_neg (show ¬ rc≠n.2.2.2.2[v].length from fun h=>h h4),Zv (by omega)]
    exact Z13 hN hs he m fuel (v+1) (by omega) (by omega)
   ·rw [if_pos (by rw [decide_eq_false (by omega)];decide),if_pos h4,if_neg (by decide)]
def Ub (x:QV):Bool:=decide (Zr x<0)||decide (1<Zr x)
theorem Zz2 {a b:Rat}:0<Ty a b↔b<a:=by
 rw [Ty]
 by_cases h:a<b
 ·rw [if_pos h]
  constructor
  ·intro c;omega
  ·intro c;exact absurd (Rat.le_of_lt c) (Rat.not_le.2 h)
 ·rw [if_neg h]
  by_cases c:b<a
  ·simp [c]
  ·simp [c]
theorem Zqj {a b:Rat}:Ty a b=0↔a=b:=by
 rw [Ty]
 constructor
 ·intro h
  split at h
  ·cases h
  ·split at h
   ·cases h
   ·rename_i c d
    exact Rat.le_antisymm (iK.1 d) (iK.1 c)
 ·rintro rfl
  rw [if_neg cZ,if_neg cZ]
theorem Zs4 {N:Nat} (hr:Z3 N 8):Zgu N=some (Zn 1):=by
 rw [Zgu,Zsp (by omega) (by omega) (hr.mono (by omega)),oB,if_neg (by decide)]
 have:((1:Int):Rat) / ((1:Int):Rat)=1:=div_one _
 rw [this]
theorem Zt3 {N:Nat} (hr:Z3 N 8):Zhq N=some (Zn 1):=by
 rw [Zhq,Xb5 hr];rfl
theorem Zq5:RV 1 (Zn 1):=W7 (by rw [Zft];omega)
theorem Z9u {N k:Nat} {x:QV} (hx:RV k x) (hr:Z3 N (2 * k+16)):Zjt N x=some (Ub x):=by
 have c:Qp N ((x.1.1,x.1.2),x.2)=some (Tz (Zr x)):=Zly hx (hr.mono (by omega))
 rw [Zjt,c,oB,Ub]
 by_cases h:Zr x<0
 ·rw [if_pos (dT (Zqk.2 h)),Zju,decide_eq_true h,Bool.true_or]
 ·rw [if_neg (dF (fun d=>h (Zqk.1 d))),decide_eq_false h,Bool.false_or,Zs4 (hr.mono (by omega)),oB,Zw1 (a:=((x.1.1,x.1.2),x.2)) (b:=Zn 1) hx Zq5 (hr.mono (by omega)),oB,Zju,Y5]
  congr 1
  exact decide_eq_decide.2 Zz2
theorem Xbn {N k:Nat} {x:QV} (hx:RV k x) (hr:Z3 N (2 * k+16)):Zku N x=some (Ub x):=by
 have c:Zat N ((x.1.1,x.1.2),x.2)=some (Tz (Zr x)):=Zqy hx (hr.mono (by omega))
 rw [Zku,c,oB,Ub]
 by_cases h:Zr x<0
 ·rw [if_pos (dT (Zqk.2 h)),Zkv,decide_eq_true h,Bool.true_or]
 ·rw [if_neg (dF (fun d=>h (Zqk.1 d))),decide_eq_false h,Bool.false_or,Zt3 (hr.mono (by omega)),oB,Zqx (a:=((x.1.1,x.1.2),x.2)) (b:=Zn 1) hx Zq5 (hr.mono (by omega)),oB,Zkv,Y5]
  congr 1
  exact decide_eq_decide.2 Zz2
def Va (x:QV):QV:=if Zc x.2=0 then (x.1,[1]) else x
theorem Zw5 {x:QV} (h:W2 x):W2 (Va x):=by
 rw [Va];split
 ·exact ⟨h.1,.cons (by decide) .nil⟩
 ·exact h
theorem Zsl (x:QV):Zr (Va x)=Zr x:=by
 rw [Va];split
 ·rename_i h
  rw [Zr,Zr]
  show mkRat (Zw x.1) (Xx [1])=mkRat (Zw x.1) (Xx x.2)
  rw [Xx,Xx,if_pos h]
  congr 1
 ·rfl
theorem Z8l (x:QV):Ub (Va x)=Ub x:=by rw [Ub,Ub,Zsl]
theorem Z8k (x:QV):max (Va x).1.2.length (Va x).2.length≤max x.1.2.length x.2.length+1:=by
 rw [Va];split
 ·show max x.1.2.length [(1:Int)].length≤_
  simp only [aK];omega
 ·omega
theorem Ztm:∀ l:List QV,2 * l.length≤X6 l
 | []=>by simp [X6]
 | a :: l=>by rw [X6,nC];have:=Ztm l;omega
theorem Ztj:∀ l:List QV,X6 (l.map Va)≤X6 l+l.length
 | []=>by simp [X6]
 | a :: l=>by
  rw [bJ,X6,X6,nC]
  have:=Ztj l;have:=Z8k a;omega
theorem Zz4 (a b:List QV):X6 (a++b)=X6 a+X6 b:=by
 induction a with
 | nil=>simp [X6]
 | cons x a c=>rw [List.cons_append,X6,X6,c];omega
theorem Zz7 (l:List QV) (k:Nat):X6 (l.take k)≤X6 l:=by
 have:=Zz4 (l.take k) (l.drop k)
 rw [cT] at this;omega
theorem Zz5 (l:List QV) (k:Nat):X6 (l.drop k)≤X6 l:=by
 have:=Zz4 (l.take k) (l.drop k)
 rw [cT] at this;omega
theorem Ztl {l:List QV} {x:QV} (h:x ∈ l):max x.1.2.length x.2.length≤X6 l:=by
 induction l with
 | nil=>simp at h
 | cons y l a=>
  rw [X6]
  rcases bL.1 h with rfl | h
  ·omega
  ·have:=a h;omega
theorem Zxa {N k:Nat} {x:QV} (h:W2 x) (hk:max x.1.2.length x.2.length≤k) (hr:Z3 N k):Zet N x=some (Va x):=by
 obtain ⟨a,b⟩:=hr
 rw [Zet,Zs7 h.2 (by omega) (by omega),oB,Va]
 by_cases h0:Zc x.2=0
 ·rw [h0,Vh,if_pos (by decide),if_pos rfl,Zk9 (by decide) (by omega),oB,Zjp,show (1:Int).toNat=1 from rfl,Sd]
 ·have:=U8 h0
  rw [if_neg (dF (by omega)),if_neg h0,Zjp]
theorem Zxb {N W:Nat} (hr:Z3 N W):∀ (l out:List QV),(∀ x ∈ l,W2 x)→X6 l≤W→out.length+l.length≤1048576→Zeu N l out=some (out++l.map Va)
 | [],out,_,_,_=>by rw [Zeu.eq_1];simp
 | x :: l,out,b,c,a=>by
  rw [X6] at c
  rw [nC] at a
  have d:Zet N ((x.1.1,x.1.2),x.2)=some (Va x):=Zxa (x:=x) (b x aO) (k:=W) (by omega) hr
  rw [Zeu.eq_2,d,oB,Z7 (by simp only [aK,maxLen];omega),Zxb hr l _ (fun y e=>b y (aN _ e)) (by omega) (by simp only [nA,aK];omega)]
  simp
theorem Zxc {N W:Nat} {l:List QV} (hr:Z3 N W) (hl:∀ x ∈ l,W2 x) (hq:X6 l≤W) (hlen:l.length≤1048576):Zjq N l=some (l.map Va):=by
 rw [Zjq,Z7 (by simp only [maxLen];omega),Zxb hr l [] hl hq (by simpa using hlen),bF]
theorem Zxr {N W:Nat} (hr:Z3 N (2 * W+16)):∀ (l:List QV) (k:Nat),(∀ x ∈ l,W2 x)→X6 l≤W→∃ j:Int,Zh3 N l k=some j∧(0≤j↔l.any Ub=true)
 | [],k,_,_=>⟨-1,rfl,by simp⟩
 | x :: l,k,b,d=>by
  rw [X6] at d
  have c:=b x aO
  have a:Zjt N ((x.1.1,x.1.2),x.2)=some (Ub x):=Z9u (x:=x) (Zab c.1 c.2) (hr.mono (by omega))
  rw [Zh3.eq_2,a,oB,eC]
  cases Ub x with
  | true=>rw [if_pos rfl];exact ⟨_,rfl,by simp⟩
  | false=>
   rw [if_neg (by decide)]
   obtain ⟨j,a,e⟩:=Zxr hr l (k+1) (fun y f=>b y (aN _ f)) (by omega)
   exact ⟨j,a,by rw [e];simp⟩
def Zga (T:List (List QV)):Bool:=T.any fun t=>t.any Ub
theorem Z4o (l:List QV):(l.map Va).any Ub=l.any Ub:=by
 induction l with
 | nil=>rfl
 | cons x l a=>rw [bJ,eC,eC,a,Z8l]
theorem Zyr {N W:Nat} {n:Zq} (hr:Z3 N (4 * W+16)):∀ l:List (List QV),(∀ t ∈ l,t.length≤1048576∧X6 t≤W∧∀ x ∈ t,W2 x)→Zcw N n l=if Zga l=true then some 45 else Zes N n n.2.2.2.2 0
 | [],_=>by rw [Zcw.eq_1];rfl
 | t :: l,h=>by
  obtain ⟨d,e,c⟩:=h t aO
  have i:=Ztm t
  have k:=Ztj t
  obtain ⟨j,f,a⟩:=Zxr (N:=N) (W:=2 * W) (hr.mono (by omega)) (t.map Va) 0 (fun x b=>by
   obtain ⟨y,g,rfl⟩:=cY.1 b
   exact Zw5 (c y g)) (by omega)
  rw [Zcw.eq_2,Zxc (W:=W) (hr.mono (by omega)) c e d,oB,Zpz,Zp0,f,oB,oB,Zga,eC]
  rw [Z4o] at a
  by_cases ho:t.any Ub=true
  ·rw [if_pos (dT (a.2 ho)),ho,Bool.true_or,if_pos rfl]
  ·rw [if_neg (dF (fun h=>ho (a.1 h))),Bool.eq_false_iff.2 ho,Bool.false_or]
   exact Zyr hr l fun x b=>h x (aN _ b)
theorem Z1b {N W:Nat} {n:Zq} (sz:List Int) (hr:Z3 N (4 * W+16)) {v:Nat} (hv:v<n.2.2.2.2.length) (hvs:v<1048576) (h1:n.2.2.2.2[v].length≤1048576) (h2:X6 n.2.2.2.2[v]≤W) (h3:∀ x ∈ n.2.2.2.2[v],W2 x) (kk:Int→Option Int):∀ (m i:Nat),i≤n.2.2.2.2[v].length→n.2.2.2.2[v].length<m+i→
  Zhn N n (v:Int) kk m (i:Int)=if ((n.2.2.2.2[v]).drop i).any Ub=true then some 45 else kk ((v:Int)+1)
 | 0,i,b,c=>by omega
 | m+1,i,b,c=>by
  rw [Zhn.eq_2,Zs hv,oB]
  by_cases hi:i<n.2.2.2.2[v].length
  ·have a:=h3 _ (aB hi)
   have d:=Ztl (aB hi)
   have e:Zku N (((n.2.2.2.2[v][i]).1.1,(n.2.2.2.2[v][i]).1.2),(n.2.2.2.2[v][i]).2)=some (Ub n.2.2.2.2[v][i]):=Xbn (x:=n.2.2.2.2[v][i]) (Zab a.1 a.2) (hr.mono (by omega))
   rw [if_pos (dT (by omega)),Zs hi,oB,e,oB,aF hi,eC]
   cases Ub n.2.2.2.2[v][i] with
   | true=>rw [if_pos rfl,Bool.true_or,if_pos rfl]
   | false=>
    rw [if_neg (by decide),Bool.false_or,Zv (by omega)]
    exact Z1b sz hr hv hvs h1 h2 h3 kk m (i+1) (by omega) (by omega)
  ·rw [if_neg (dF (by omega)),aG (by omega),List.any_nil,if_neg (by decide),Zv (by omega)]
theorem Z1a {N W:Nat} {n:Zq} (sz:List Int) (hs:W8 n W) (he:n.2.2.2.2.length=n.2.1.length) (hr:Z3 N (4 * W+16)) (hN:1048577<N):∀ (m fuel v:Nat),m+v=n.2.1.length→m<fuel→
  Zb3 N n sz fuel (v:Int)=if Zga (n.2.2.2.2.drop v)=true then some 45 else Zdi N n sz N 0
 | 0,0,v,_,h=>by omega
 | 0,fuel+1,v,c,_=>by
  rw [Zb3.eq_2,if_neg (dF (by omega)),aG (by omega)];rfl
 | m+1,0,v,_,h=>by omega
 | m+1,fuel+1,v,c,e=>by
  have b:v<n.2.2.2.2.length:=by omega
  have d:=hs.nm
  have a:=aB b
  rw [Zb3.eq_2,if_pos (dT (by omega)),show (0:Int)=((0:Nat):Int) from rfl,Z1b sz hr b (by omega) (hs.tl _ a) (hs.tq _ a) (hs.lim _ a) _ N 0 (by omega) (by have:=hs.tl _ a;omega),aM,aF b,Zga,eC]
  cases n.2.2.2.2[v].any Ub with
  | true=>rw [if_pos rfl,Bool.true_or,if_pos rfl]
  | false=>
   rw [if_neg (by decide),Bool.false_or]
   exact Z1a sz hs he hr hN m fuel (v+1) (by omega) (by omega)
def Th (c:Nat):Nat→List QV→Bool
 | 0,_=>true
 | m+1,l=>decide (Xj (l.take c)=1)&&Th c m (l.drop c)
def Zlu (c:Nat):Nat→List QV→List (List QV)
 | 0,_=>[]
 | m+1,l=>l.take c :: Zlu c m (l.drop c)
theorem Zwc (N:Nat) (l:List QV) (c:Nat) (hc:0<c) (hl:l.length≤1048576) (hcs:c≤1048576):∀ (m fuel i:Nat),i+m * c=l.length→m<fuel→Zfn N l (c:Int) fuel (i:Int)=some (Zlu c m (l.drop i))
 | 0,0,i,_,h=>by omega
 | 0,fuel+1,i,a,_=>by
  rw [Zfn.eq_2,if_neg (dF (by omega))];rfl
 | m+1,0,i,_,h=>by omega
 | m+1,fuel+1,i,a,b=>by
  have d:i+c+m * c=l.length:=by rw [bB,aV] at a;omega
  have e:(if ((l.drop i).length:Int)<(c:Int) then ((l.drop i).length:Int) else (c:Int))=(c:Int):=by
   rw [bH]
   by_cases h:((l.length - i:Nat):Int)<(c:Int)
   ·omega
   ·rw [if_neg h]
  rw [Zfn.eq_2,if_pos (dT (by omega)),aC,e,Zv (by omega),Z7 (by omega),Z7 (by omega),show (i:Int)+(c:Int)=((i+c:Nat):Int) by omega,Zwc N l c hc hl hcs m fuel (i+c) (by omega) (by omega),oB,aC,Zlu,iO,show i+c - i=c by omega,dK]
theorem Xaq (l:List QV):Xj (l.map Va)=Xj l:=by
 rw [Xj,Xj,gJ]
 congr 1
 exact fC fun x _=>Zsl x
theorem Zzm (c:Nat):∀ (m:Nat) (l:List QV),Th c m (l.map Va)=Th c m l
 | 0,l=>rfl
 | m+1,l=>by rw [Th,Th,← List.map_take,← List.map_drop,Xaq,Zzm c m]
theorem Zy7 {N W:Nat} (hr:Z3 N (4 * W+40)) (c:Nat) (b:Bool):∀ (m:Nat) (l:List QV),(∀ x ∈ l,W2 x)→X6 l≤W→Zgw N (Zlu c m l) b=some (Th c m l)
 | 0,l,_,_=>rfl
 | m+1,l,e,j=>by
  have k:=Zz7 l c
  have n:=Zz5 l c
  obtain ⟨f,g⟩:=Zo4 (N:=N) (l:=l.take c) (fun x d=>e x (cL d)) (hr.mono (by omega))
  rw [Zlu,Zgw.eq_2,f,oB,Zs4 (hr.mono (by omega)),oB,Zw1 (a:=Zn _) (b:=Zn 1) (W7 g) Zq5 (hr.mono (by omega)),oB,Y5,Y5,Th]
  by_cases h:Xj (l.take c)=1
  ·rw [if_neg (by rw [Zqj.2 h];decide),decide_eq_true h,Bool.true_and]
   exact Zy7 hr c b m _ (fun x d=>e x (cI d)) (by omega)
  ·rw [if_pos (by rw [decide_eq_false (fun i=>h (Zqj.1 i))];decide),decide_eq_false h,Bool.false_and];rfl
theorem Z9w {N W c m:Nat} {l:List QV} (hr:Z3 N (4 * W+40)) (hl:∀ x ∈ l,W2 x) (hq:X6 l≤W) (hc:0<c) (hcs:c≤1048576) (hll:l.length≤1048576) (hm:m * c=l.length) (hN:1048577<N):Zmd N l (c:Int)=some (Th c m l):=by
 have a:m≤l.length:=by rw [← hm];exact dX m hc
 rw [Zmd,Zpw,if_neg (dF (by omega)),Zpy,Zpx,show (0:Int)=((0:Nat):Int) from rfl,Zwc N l c hc hll hcs m N 0 (by omega) (by omega),oB,aM]
 exact Zy7 hr c false m l hl hq
theorem Z17 {N W c:Nat} {l:List QV} (hr:Z3 N (4 * W+40)) (hl:∀ x ∈ l,W2 x) (hq:X6 l≤W) (hc:0<c) (hcs:c≤1048576) (hll:l.length≤1048576) (hN:1048577<N):∀ (m fuel i:Nat),i+m * c=l.length→m<fuel→Zff N l (c:Int) fuel (i:Int)=some (Th c m (l.drop i))
 | 0,0,i,_,h=>by omega
 | 0,fuel+1,i,e,_=>by
  rw [Zff.eq_2,if_neg (dF (by omega))];rfl
 | m+1,0,i,_,h=>by omega
 | m+1,fuel+1,i,e,f=>by
  have n:i+c+m * c=l.length:=by rw [bB,aV] at e;omega
  have o:=Zz7 (l.drop i) c
  have p:=Zz5 l i
  have d:∀ x ∈ (l.drop i).take c,W2 x:=fun x g=>hl x (cI (cL g))
  obtain ⟨_,j⟩:=Zo4 (N:=N) (l:=(l.drop i).take c) d (hr.mono (by omega))
  have k:((l.drop i).take c).length≤1048576:=by rw [nK,bH];omega
  rw [Zff.eq_2,if_pos (dT (by omega)),Zv (by omega),Z7 (by omega),show (i:Int)+(c:Int)=((i+c:Nat):Int) by omega,aC,aC,iO,show i+c - i=c by omega,Z1h d (by omega) (by omega) (hr.mono (by omega)),oB,Zt3 (hr.mono (by omega)),oB,Zqx (a:=Zn _) (b:=Zn 1) (W7 j) Zq5 (hr.mono (by omega)),oB,Y5,Y5,Th]
  by_cases h:Xj ((l.drop i).take c)=1
  ·rw [if_neg (by rw [Zqj.2 h];decide),decide_eq_true h,Bool.true_and,dK]
   exact Z17 hr hl hq hc hcs hll hN m fuel (i+c) (by omega) (by omega)
  ·rw [if_pos (by rw [decide_eq_false (fun f=>h (Zqj.1 f))];decide),decide_eq_false h,Bool.false_and]
def Zfy (vals:List R3) (P:List R2) (T:List (List QV)):Nat→Nat→Int
 | 0,_=>0
 | m+1,v=>if Th (vals.getD v []).length (Yu vals (P.getD v []) 1) (T.getD v [])=true then Zfy vals P T m (v+1) else 46
theorem Zq6 {vals:List R3} {P:List R2} {T:List (List QV)}:∀ (m v:Nat),Qa vals P T m v=0→∀ i,v≤i→i<v+m→Yu vals (P.getD i []) 1 * (vals.getD i []).length=(T.getD i []).length∧(T.getD i []).length≤65536
 | 0,v,_,i,a,b=>by omega
 | m+1,v,h,i,a,b=>by
  rw [Qa] at h
  by_cases h3:65536<Yu vals (P.getD v []) 1 * (vals.getD v []).length
  ·rw [if_pos h3] at h;cases h
  ·rw [if_neg h3] at h
   by_cases h4:Yu vals (P.getD v []) 1 * (vals.getD v []).length=(T.getD v []).length
   ·rw [if_neg (show ¬ Yu vals (P.getD v []) 1 * (vals.getD v []).length≠(T.getD v []).length from fun h=>h h4)] at h
    rcases bU v i with c | c
    ·exact Zq6 m (v+1) h i (by omega) (by omega)
    ·have:i=v:=by omega
     subst this
     exact ⟨h4,by omega⟩
   ·rw [if_pos h4] at h;cases h
theorem Zy2 {N W:Nat} {n:Zq} (hs:W8 n W) (he:Uo n) (hsh:Qa n.2.2.1 n.2.2.2.1 n.2.2.2.2 n.2.1.length 0=0) (hr:Z3 N (8 * W+40)) (hN:1048577<N):∀ (l:List (List QV)) (k:Nat),n.2.2.2.2.drop k=l→k≤n.2.1.length→Zes N n l k=some (Zfy n.2.2.1 n.2.2.2.1 n.2.2.2.2 l.length k)
 | [],k,_,_=>rfl
 | t :: l,k,f,w=>by
  have A:=he.t;have B:=he.v;have C:=he.p
  have a:k<n.2.2.2.2.length:=by
   rcases bU k n.2.2.2.2.length with h | h
   ·exact h
   ·rw [aG h] at f;cases f
  have e:=aF a
  rw [f] at e
  obtain ⟨b,g⟩:=List.cons.inj e
  have c:k<n.2.2.1.length:=by omega
  have kp:k<n.2.2.2.1.length:=by omega
  have d:t ∈ n.2.2.2.2:=by rw [b];exact aB a
  have j:=hs.vl _ (aB c)
  have o:0<n.2.2.1[k].length:=cD.2 (he.ne _ (aB c))
  obtain ⟨i,q⟩:=Zq6 _ 0 hsh k (by omega) (by omega)
  rw [Xl c,Xl a,← b] at i
  rw [Xl a,← b] at q
  have r:=hs.tq t d
  have u:=Ztm t
  have D:=Ztj t
  rw [Zes.eq_2,Zs c,oB,Zxc (W:=W) (hr.mono (by omega)) (hs.lim t d) r (hs.tl t d),oB,
   Z9w (W:=2 * W) (m:=Yu n.2.2.1 (n.2.2.2.1.getD k []) 1) (hr.mono (by omega)) (fun x b=>by
    obtain ⟨y,s,rfl⟩:=cY.1 b
    exact Zw5 (hs.lim t d y s)) (by omega) o j (by rw [aH];omega) (by rw [aH];exact i) hN,oB,Zzm,nC,Zfy,Xl c,Xl a,← b]
  cases Th n.2.2.1[k].length (Yu n.2.2.1 (n.2.2.2.1.getD k []) 1) t with
  | true=>
   rw [if_neg (by decide),if_pos rfl]
   exact Zy2 hs he hsh hr hN l (k+1) g.symm (by omega)
  | false=>rw [if_pos (by decide),if_neg (by decide)]
theorem Z16 {N W:Nat} {n:Zq} (hs:W8 n W) (he:Uo n) (hsh:Qa n.2.2.1 n.2.2.2.1 n.2.2.2.2 n.2.1.length 0=0) (hr:Z3 N (8 * W+40)) (hN:1048577<N):∀ (m fuel v:Nat),m+v=n.2.1.length→m<fuel→
  Zdi N n (n.2.2.1.map fun l=>(l.length:Int)) fuel (v:Int)=some (Zfy n.2.2.1 n.2.2.2.1 n.2.2.2.2 m v)
 | 0,0,v,_,h=>by omega
 | 0,fuel+1,v,i,_=>by
  rw [Zdi.eq_2,if_neg (dF (by omega))];rfl
 | m+1,0,v,_,h=>by omega
 | m+1,fuel+1,v,i,r=>by
  have s:=he.t;have u:=he.v;have w:=he.p;have o:=hs.nm
  have a:v<n.2.2.2.2.length:=by omega
  have b:v<n.2.2.1.length:=by omega
  have d:=aB a
  have j:=hs.vl _ (aB b)
  have e:0<n.2.2.1[v].length:=cD.2 (he.ne _ (aB b))
  obtain ⟨f,k⟩:=Zq6 _ 0 hsh v (by omega) (by omega)
  rw [Xl b,Xl a] at f
  rw [Xl a] at k
  have q:Yu n.2.2.1 (n.2.2.2.1.getD v []) 1≤n.2.2.2.2[v].length:=by rw [← f];exact dX _ e
  have g:=Z17 (N:=N) (W:=W) (c:=n.2.2.1[v].length) (l:=n.2.2.2.2[v]) (hr.mono (by omega)) (hs.lim _ d) (hs.tq _ d) e j (hs.tl _ d) hN (Yu n.2.2.1 (n.2.2.2.1.getD v []) 1) N 0 (by omega) (by omega)
  rw [aM,show ((0:Nat):Int)=0 from rfl] at g
  rw [Zdi.eq_2,if_pos (dT (by omega)),Zs a,oB,Zq8 b,oB,Zpr,g,oB,Zfy,Xl b,Xl a]
  cases Th n.2.2.1[v].length (Yu n.2.2.1 (n.2.2.2.1.getD v []) 1) n.2.2.2.2[v] with
  | true=>
   rw [if_neg (by decide),if_pos rfl,Zv (by omega)]
   exact Z16 hs he hsh hr hN m fuel (v+1) (by omega) (by omega)
  | false=>rw [if_pos (by decide),if_neg (by decide)]
structure X2 (N:Nat) (n:Zq):Prop where
 ev:Uo n
 le:n.2.1.length≤1024
 nm:S5 n.2.1 n.2.2.1 n.2.1.length 0=0
 sh:Qa n.2.2.1 n.2.2.2.1 n.2.2.2.2 n.2.1.length 0=0
 en:Zga n.2.2.2.2=false
 su:Zfy n.2.2.1 n.2.2.2.1 n.2.2.2.2 n.2.1.length 0=0
 tw:T6 n.2.2.2.1=false
 or:∃ l,Zcl N n.2.2.2.1=some (l,0)∧Zaw N n.2.2.2.1=some l∧Zav N n.2.2.2.1=some 0∧Su n.2.2.2.1 l∧l.length=n.2.2.2.1.length
theorem Z7c {N W:Nat} {n:Zq} (hs:W8 n W) (hr:Z3 N (8 * W+40)) (hN:2000000<N):∃ e,Vx N n=some e∧Zdf N n=some e∧(e=0→X2 N n):=by
 have L:=hs.nm
 -- shapes of the lists
 have J:∀ b:Bool,(b=true→Zer N n b=some 60∧Zfb N n b=some 60):=fun b u=>by
  subst u
  exact ⟨by rw [Zer,if_pos rfl],by rw [Zfb,if_pos rfl]⟩
 have a:=J true rfl
 rw [Vx,Zdf]
 by_cases hv:n.2.2.1.length=n.2.1.length
 ·by_cases hp:n.2.2.2.1.length=n.2.1.length
  ·by_cases ht:n.2.2.2.2.length=n.2.1.length
   ·rw [if_neg (by rw [decide_eq_true (by omega)];decide),if_neg (by rw [decide_eq_true (by omega)];decide),if_neg (by rw [decide_eq_true (by omega)];decide),if_neg (by rw [decide_eq_true (by omega)];decide),show (!decide ((n.2.2.2.2.length:Int)=(n.2.1.length:Int)))=false by rw [decide_eq_true (by omega)];rfl,Zer,Zfb,if_neg (show ¬ (false=true) by decide),if_neg (show ¬ (false=true) by decide)]
    by_cases hk:1024<n.2.1.length
    ·rw [if_pos (dT (by omega)),if_pos (dT (by omega))]
     exact ⟨4,rfl,rfl,fun h=>by cases h⟩
    ·rw [if_neg (dF (by omega)),if_neg (dF (by omega))]
     have v:Zjr (n.1,n.2.1,n.2.2.1,n.2.2.2.1,n.2.2.2.2)=some (S5 n.2.1 n.2.2.1 n.2.1.length 0):=Z9y n hv
     have j:=Z1s N n hv (by omega) hs.vl (by omega) n.2.1.length N 0 (by omega) (by omega)
     rw [show ((0:Nat):Int)=0 from rfl] at j
     rw [v,oB,j]
     by_cases hnms:S5 n.2.1 n.2.2.1 n.2.1.length 0=0
     ·rw [if_neg (by rw [decide_eq_true hnms];decide),if_pos hnms]
      obtain ⟨f,w⟩:∃ f,N - n.2.1.length=f+1:=⟨N - n.2.1.length - 1,by omega⟩
      rw [w,Q1.eq_2,if_neg (dF (by omega))]
      have k:∀ l ∈ n.2.2.1,l≠[]:=fun l x=>by
       obtain ⟨i,y,rfl⟩:=jC.1 x
       have:=(Zza _ 0 hnms i (by omega) (by omega)).1
       rw [Xl y] at this;exact this
      have fin:∀ e,Zck N n.2.2.2.1=some e→Zav N n.2.2.2.1=some e→e≠0→∃ e,((Zck N n.2.2.2.1).bind fun r_17=>if (!decide (r_17=0))=true then some r_17 else Zcv N n n.2.2.2.2 0)=some e∧((Zav N n.2.2.2.1).bind fun r_76=>if (!decide (r_76=0))=true then some r_76 else (Zdl N (n.1,n.2.1,n.2.2.1,n.2.2.2.1,n.2.2.2.2)).bind fun g=>Zdh N n g N 0)=some e∧(e=0→X2 N n):=fun e A B c=>by
       rw [A,B,oB,oB,if_pos (by rw [decide_eq_false c];decide),if_pos (by rw [decide_eq_false c];decide)]
       exact ⟨e,rfl,rfl,fun h=>absurd h c⟩
      rcases Z2s hs.pn hN with ⟨e,D,R,c⟩ | ⟨_,_,l,_,_,_,_,D,R⟩ | ⟨C,E,l,F,m,M,o,D,R⟩
      ·exact fin e (by rw [Zck,D];rfl) R (by rcases c with h | h <;> omega)
      ·exact fin 42 (by rw [Zck,D];rfl) R (by decide)
      ·have G:Zck N n.2.2.2.1=some 0:=by rw [Zck,D];rfl
       have d:Uo n:=⟨hv,hp,ht,C,k⟩
       have p:Zdl N (n.1,n.2.1,n.2.2.1,n.2.2.2.1,n.2.2.2.2)=some (n.2.2.1.map fun l=>(l.length:Int)):=Z21 (n:=n) (by omega) (by omega)
       have H:=Zy1 (N:=N) hs d n.2.2.2.2 0 (by simp) (by omega)
       have q:=Z13 (N:=N) (by omega) hs d n.2.1.length N 0 (by omega) (by omega)
       rw [show ((0:Nat):Int)=0 from rfl] at q
       rw [G,R,oB,oB,if_neg (by decide),if_neg (by decide),p,oB,H,q,ht]
       by_cases hsh:Qa n.2.2.1 n.2.2.2.1 n.2.2.2.2 n.2.1.length 0=0
       ·have I:=Zyr (N:=N) (n:=n) (W:=W) (hr.mono (by omega)) n.2.2.2.2 (fun t h=>⟨hs.tl t h,hs.tq t h,hs.lim t h⟩)
        have r:=Z1a (N:=N) (n.2.2.1.map fun l=>(l.length:Int)) hs ht (hr.mono (by omega)) (by omega) n.2.1.length N 0 (by omega) (by omega)
        rw [show ((0:Nat):Int)=0 from rfl,aM] at r
        rw [if_pos hsh,if_pos hsh,I,r]
        by_cases hen:Zga n.2.2.2.2=true
        ·rw [if_pos hen,if_pos hen]
         exact ⟨45,rfl,rfl,fun h=>by cases h⟩
        ·have K:=Zy2 (N:=N) hs d hsh hr (by omega) n.2.2.2.2 0 (by simp) (by omega)
         have s:=Z16 (N:=N) hs d hsh hr (by omega) n.2.1.length N 0 (by omega) (by omega)
         rw [show ((0:Nat):Int)=0 from rfl] at s
         rw [if_neg hen,if_neg hen,K,s,ht]
         exact ⟨_,rfl,rfl,fun h=>⟨d,by omega,hnms,hsh,Bool.eq_false_iff.2 hen,h,E,l,D,F,R,m,o⟩⟩
       ·rw [if_neg hsh,if_neg hsh]
        exact ⟨_,rfl,rfl,fun h=>absurd h hsh⟩
     ·rw [if_pos (by rw [decide_eq_false hnms];decide),if_neg hnms]
      exact ⟨_,rfl,rfl,fun h=>absurd h hnms⟩
   ·rw [if_neg (by rw [decide_eq_true (by omega)];decide),if_neg (by rw [decide_eq_true (by omega)];decide),if_neg (by rw [decide_eq_true (by omega)];decide),if_neg (by rw [decide_eq_true (by omega)];decide),decide_eq_false (by omega)]
    exact ⟨60,a.1,a.2,fun h=>by cases h⟩
  ·rw [if_neg (by rw [decide_eq_true (by omega)];decide),if_pos (by rw [decide_eq_false (by omega)];decide),if_neg (by rw [decide_eq_true (by omega)];decide),if_pos (by rw [decide_eq_false (by omega)];decide)]
   exact ⟨60,a.1,a.2,fun h=>by cases h⟩
 ·rw [if_pos (by rw [decide_eq_false (by omega)];decide),if_pos (by rw [decide_eq_false (by omega)];decide)]
  exact ⟨60,a.1,a.2,fun h=>by cases h⟩
def cnt (n:Zq) (v:Nat):Nat:=(n.2.2.1.getD v []).length
def T3 (n:Zq) (w:List Int):List Int→Nat→Nat
 | [],r=>r
 | p :: ps,r=>T3 n w ps (r * cnt n p.toNat+(w.getD p.toNat 0).toNat)
def Wr (n:Zq) (w:List Int) (v:Nat):Nat:=T3 n w (n.2.2.2.1.getD v []) 0
def T4 (n:Zq) (w:List Int) (v:Nat):List QV:=((n.2.2.2.2.getD v []).drop (Wr n w v * cnt n v)).take (cnt n v)
structure Yk (n:Zq) (w:List Int):Prop where
 len:w.length=n.2.1.length
 ok:∀ i,i<w.length→0≤w.getD i 0∧w.getD i 0<(cnt n i:Int)
theorem Zae {n:Zq} (he:Uo n) {v:Nat} (hv:v<n.2.1.length):0<cnt n v:=by
 have a:v<n.2.2.1.length:=by rw [he.v];exact hv
 rw [cnt,Xl a]
 exact cD.2 (he.ne _ (aB a))
theorem Zq4 {n:Zq} (he:Uo n):∀ (ps:List Int) (k:Nat),(∀ p ∈ ps,0≤p∧p<(n.2.1.length:Int))→k≤1099511627776→k≤Yu n.2.2.1 ps k
 | [],k,_,_=>aX _
 | p :: ps,k,a,b=>by
  have f:=a p aO
  have c:0<(n.2.2.1.getD p.toNat []).length:=Zae he (by omega)
  rw [Yu]
  have d:k≤min (k * (n.2.2.1.getD p.toNat []).length) 1099511627776:=Nat.le_min.2 ⟨dX k c,b⟩
  exact aT d (Zq4 he ps _ (fun q e=>a q (aN _ e)) (jY _ _))
theorem Zq2 {n:Zq} (he:Uo n) {w:List Int} (hw:Yk n w) {p:Int} {ps:List Int} {r k:Nat} (hp:∀ q ∈ p :: ps,0≤q∧q<(n.2.1.length:Int)) (hr:r<k) (hk:k≤65536) (hb:Yu n.2.2.1 (p :: ps) k≤65536):
  r * cnt n p.toNat+(w.getD p.toNat 0).toNat<k * cnt n p.toNat∧k * cnt n p.toNat≤65536∧Yu n.2.2.1 ps (k * cnt n p.toNat)≤65536:=by
 have d:=hp p aO
 have e:=hw.ok p.toNat (by rw [hw.len];omega)
 have f:r * cnt n p.toNat+cnt n p.toNat≤k * cnt n p.toNat:=by
  have:=bD (cnt n p.toNat) (show r+1≤k by omega)
  rwa [bB,aV] at this
 rw [Yu] at hb
 have a:=Zq4 he ps (min (k * (n.2.2.1.getD p.toNat []).length) 1099511627776) (fun q b=>hp q (aN _ b)) (jY _ _)
 have c:k * (n.2.2.1.getD p.toNat []).length≤1099511627776:=by
  rcases Nat.le_total (k * (n.2.2.1.getD p.toNat []).length) 1099511627776 with h | h
  ·exact h
  ·rw [dN h] at a hb;omega
 rw [aZ c] at a hb
 exact ⟨by omega,aT a hb,hb⟩
theorem Z10 {n:Zq} (he:Uo n) {w:List Int} (hw:Yk n w):∀ (ps:List Int) (r k:Nat),(∀ q ∈ ps,0≤q∧q<(n.2.1.length:Int))→r<k→k≤65536→Yu n.2.2.1 ps k≤65536→T3 n w ps r<Yu n.2.2.1 ps k
 | [],r,k,_,a,_,_=>a
 | p :: ps,r,k,b,a,d,e=>by
  obtain ⟨f,c,g⟩:=Zq2 he hw b a d e
  have:=Z10 he hw ps _ _ (fun q i=>b q (aN _ i)) f c g
  rw [T3,Yu,aZ (by rw [cnt] at c;omega)]
  exact this
section
variable {N:Nat} {n:Zq} (hf:X2 N n)
include hf
theorem X2.pars {v:Nat} (hv:v<n.2.1.length):∀ p ∈ n.2.2.2.1.getD v [],0≤p∧p<(n.2.1.length:Int):=fun p a=>by
 have b:v<n.2.2.2.1.length:=by rw [hf.ev.p];exact hv
 rw [Xl b] at a
 have:=hf.ev.par (aB b) p a
 rwa [hf.ev.v] at this
theorem X2.rows {v:Nat} (hv:v<n.2.1.length):Yu n.2.2.1 (n.2.2.2.1.getD v []) 1 * cnt n v=(n.2.2.2.2.getD v []).length∧(n.2.2.2.2.getD v []).length≤65536∧Yu n.2.2.1 (n.2.2.2.1.getD v []) 1≤65536:=by
 have a:=Zq6 _ 0 hf.sh v (aQ _) (by omega)
 have b:=Zae hf.ev hv
 refine ⟨a.1,a.2,?_⟩
 have c:Yu n.2.2.1 (n.2.2.2.1.getD v []) 1≤Yu n.2.2.1 (n.2.2.2.1.getD v []) 1 * cnt n v:=dX _ b
 have d:Yu n.2.2.1 (n.2.2.2.1.getD v []) 1 * cnt n v≤65536:=by
  have:=a.1;rw [cnt,this];exact a.2
 omega
theorem X2.row {w:List Int} (hw:Yk n w) {v:Nat} (hv:v<n.2.1.length):Wr n w v * cnt n v+cnt n v≤(n.2.2.2.2.getD v []).length∧Wr n w v<65536:=by
 obtain ⟨d,e,a⟩:=hf.rows hv
 have b:=Z10 hf.ev hw _ 0 1 (hf.pars hv) (by omega) (by omega) a
 have c:=bD (cnt n v) (show Wr n w v+1≤Yu n.2.2.1 (n.2.2.2.1.getD v []) 1 from b)
 rw [bB,aV,d] at c
 exact ⟨c,aI b a⟩
theorem X2.rowT_len {w:List Int} (hw:Yk n w) {v:Nat} (hv:v<n.2.1.length):(T4 n w v).length=cnt n v:=by
 have:=(hf.row hw hv).1
 rw [T4,nK,bH];omega
theorem X2.ent {v:Nat} (hv:v<n.2.1.length):∀ x ∈ n.2.2.2.2.getD v [],0≤Zr x∧Zr x≤1:=fun x b=>by
 have c:v<n.2.2.2.2.length:=by rw [hf.ev.t];exact hv
 rw [Xl c] at b
 have d:=hf.en
 rw [Zga,jQ] at d
 have e:=d _ (aB c)
 rw [Bool.not_eq_true,jQ] at e
 have a:=e x b
 simp only [Ub,Bool.or_eq_true,decide_eq_true_eq,not_or] at a
 exact ⟨iK.1 a.1,iK.1 a.2⟩
end
theorem Zp3 {n:Zq} {w:List Int} {v:Nat} {x:QV} (h:x ∈ T4 n w v):x ∈ n.2.2.2.2.getD v []:=cI (cL h)
theorem Xbo {n:Zq} {w:List Int} {v j:Nat} (hj:j<(T4 n w v).length):Zk (n.2.2.2.2.getD v []) ((Wr n w v * cnt n v+j:Nat):Int)=some (T4 n w v)[j]:=by
 have a:Wr n w v * cnt n v+j<(n.2.2.2.2.getD v []).length:=by
  rw [T4,nK,bH] at hj;omega
 rw [Zs a]
 simp only [T4,fP,gV]
section
variable {N W:Nat} {n:Zq} (hf:X2 N n) (hs:W8 n W)
include hf hs
theorem Ziv {v:Nat} (hv:v<n.2.1.length):∀ x ∈ n.2.2.2.2.getD v [],W2 x∧max x.1.2.length x.2.length≤W:=fun x a=>by
 have b:v<n.2.2.2.2.length:=by rw [hf.ev.t];exact hv
 rw [Xl b] at a
 have c:=hs.tq _ (aB b)
 exact ⟨hs.lim _ (aB b) x a,aT (Ztl a) c⟩
end
/-! the document's loops -/
/-! a row's entries are 1 together -/
theorem Zzl {c:Nat}:∀ (m:Nat) (l:List QV),Th c m l=true→∀ r,r<m→Xj ((l.drop (r * c)).take c)=1
 | 0,l,_,r,h=>by omega
 | m+1,l,h,r,a=>by
  rw [Th,Bool.and_eq_true,decide_eq_true_iff] at h
  cases r with
  | zero=>rw [dP,aM];exact h.1
  | succ r=>
   have:=Zzl m (l.drop c) h.2 r (by omega)
   rw [dK] at this
   rw [bB,aV,fO]
   exact this
theorem Z3w {vals:List R3} {P:List R2} {T:List (List QV)}:∀ (m v:Nat),Zfy vals P T m v=0→∀ i,v≤i→i<v+m→Th (vals.getD i []).length (Yu vals (P.getD i []) 1) (T.getD i [])=true
 | 0,v,_,i,a,b=>by omega
 | m+1,v,h,i,a,b=>by
  rw [Zfy] at h
  split at h
  ·rename_i c
   rcases bU v i with d | d
   ·exact Z3w m (v+1) h i (by omega) (by omega)
   ·have:i=v:=by omega
    subst this
    exact c
  ·cases h
/-! parts side by side -/
def Qk (n:Zq):List Int→Nat→Bool
 | [],_=>true
 | x :: l,k=>!decide (x<0)&&(!decide ((cnt n k:Int)≤x)&&Qk n l (k+1))
theorem Zxs {n:Zq}:∀ (l:List Int) (k:Nat),Qk n l k=true→∀ i,i<l.length→0≤l.getD i 0∧l.getD i 0<(cnt n (k+i):Int)
 | [],_,_,i,a=>by simp at a
 | x :: l,k,h,i,a=>by
  simp only [Qk,Bool.and_eq_true,Bool.not_eq_true',decide_eq_false_iff_not] at h
  cases i with
  | zero=>rw [List.getD_cons_zero,bR];omega
  | succ i=>
   rw [List.getD_cons_succ,show k+(i+1)=k+1+i by omega]
   exact Zxs l (k+1) h.2.2 i (by simpa using a)
theorem Z80 {n:Zq} {w:List Int} (hl:w.length=n.2.1.length) (h:Qk n w 0=true):Yk n w:=⟨hl,fun i a=>by have:=Zxs w 0 h i a;rwa [Nat.zero_add] at this⟩
def Zcu (N:Nat) (b:R0) (c:List Int) (a:Nat) (i:Bool) (j k:List Int) (kk_L2:(Nat→Bool→R2→R2→Option (R1×Int))) (l:R4):List Int→Int→Option (R1×Int)
  | [],d=>(Zk b.2.2.1 (a:Int)).bind fun n=>(Zk c (a:Int)).bind fun o=>(Zk l (i64.wrap ((i64.wrap (d * (n.length:Int)))+o))).bind fun e=>(Zet N ((e.1.1,e.1.2),e.2)).bind fun f=>(Zbr N ((i,j),k) ((f.1.1,f.1.2),f.2)).bind fun g=>kk_L2 (a+1) g.1.1 g.1.2 g.2
  | m :: p,d=>(Zk b.2.2.1 m).bind fun q=>(Zk c m).bind fun r=>(Zcu N b c a i j k kk_L2 l p) (i64.wrap ((i64.wrap (d * (q.length:Int)))+r))
def Zct (N:Nat) (a:R0) (f:List Int):List R4→Nat→Bool→R2→R2→Option (R1×Int)
  | [],b,c,d,e=>some (((c,d),e),0)
  | g :: i,b,c,d,e=>(Zk a.2.2.2.1 (b:Int)).bind fun j=>Zcu N a f b c d e (Zct N a f i) g j 0
def Zjo (a:Nat) (b:Bool) (c d:List Int) (kk_L1:(Nat→Bool→R2→R2→Option (R1×Int))) (e:Bool):Option (R1×Int):=
  if e=true then (some (((false,([]:List Int)),([]:List Int)),3)) else (kk_L1 (a+1) b c d)
def Zao (N:Nat) (a:R0) (c:List Int):List Int→Nat→Bool→R2→R2→Option (R1×Int)
  | [],b,d,e,f=>(Zgu N).bind fun g=>Zct N a c a.2.2.2.2 0 g.1.1 g.1.2 g.2
  | i :: j,b,d,e,f=>if (decide (i<0))=true then (Zjo b d e f (Zao N a c j) true) else ((Zk a.2.2.1 (b:Int)).bind fun k=>Zjo b d e f (Zao N a c j) (decide ((k.length:Int)≤i)))
def Zan (N:Nat) (a:R0) (b:List Int):Option (R1×Int):=
  (Vx N (a.1,a.2.1,a.2.2.1,a.2.2.2.1,a.2.2.2.2)).bind fun c=>if (!decide (c=0))=true then (some (((false,([]:List Int)),([]:List Int)),c)) else (if (!decide ((b.length:Int)=(a.2.1.length:Int)))=true then (some (((false,([]:List Int)),([]:List Int)),60)) else (Zao N a b b 0 false ([]:List Int) ([]:List Int)))
theorem Z5m {N bl bw bz M T:Nat} {I J K L Q:Option Addr} {col:Ze} {l:World} {b:R0} {s:R2} {r:(R1×Int)} (c1 c2:Nat) (c:Zan N b s=some r) (a6:Sl Za.str col l I bl b.2.1) (C:Sl rV col l J bw b.2.2.1) (v:Sl rP col l K bz b.2.2.2.1) (af:Sl (Za.slice rQ) col l L M b.2.2.2.2) (n:Sl rI col l Q T s):
    Calls prog 41 #[(.agg (Rq b I bl J bw K bz L M)),.slice Q s.length T] l (Zfr 45 c1 c2 col l r):=by
 refine Yx (m:=103) func41 rfl rfl rfl ?_;rw [Zan.eq_1] at c;have d:=St.start col l;refine go ?_;refine Xg (col:=(Zh col)) 1 rfl fun az _ W T f=>Xr (col:=W) #[.bool false,(nI),(nI)] 2 zeroValue42 fun a0 _ W O g=>go ?_;replace f:=f.gr O;refine lV _ (Z5 isAgg27 sizeOf27 f) ?_;obtain ⟨_,Q,c⟩:=bZ c;replace C:=C.k0;replace v:=v.k0;replace af:=af.k0;replace d:=(d.grow T).grow O;refine Zi (Zrx Q (a6.k0.ks d) (C.ks d) (v.ks d) (af.ks d)) fun _ _ ⟨q,O⟩=>⟨_,q,?_⟩;replace O:=Rr W O;refine go ?_;replace n:=n.k0;replace f:=f.gr O;replace g:=g.gr O;replace d:=d.grow O;refine Zm c (fun hb c=>go ?_) fun hb c=>go ?_
 ·refine lV (.agg #[.bool false,(nI),(nI)]) (Wo (l:=[_,_]) (qs:=[(0,2),(2,1)]) underlying42 zeroValue42 ⟨rfl,sizeOf40,rfl,sizeOf38,trivial⟩ rfl)<|Xk rfl<|Z6 g ?_;intro _ G b1 b2;refine go ?_;cases c;replace d:=d.kp G b1;exact ⟨rfl,_,Vm b2.atN,_,none,0,none,0,rfl,d.fin (cm []),Zb.nil,Zb.nil⟩
 refine Z9 f ?_;refine go ?_;refine Zm c (fun hb c=>go ?_) fun hb c=>go ?_
 ·refine lV (.agg #[.bool false,(nI),(nI)]) (Wo (l:=[_,_]) (qs:=[(0,2),(2,1)]) underlying42 zeroValue42 ⟨rfl,sizeOf40,rfl,sizeOf38,trivial⟩ rfl)<|Z6 g ?_;intro _ b3 b4 b5;refine go ?_;cases c;replace d:=d.kp b3 b4;exact ⟨rfl,_,Vm b5.atN,_,none,0,none,0,rfl,d.fin (cm []),Zb.nil,Zb.nil⟩
 refine Zt [1,2,28,29,4,1000000] (fun H D G=>∃ S dk dl dm dn A dp dq B R,H=R.length∧s.drop dk=R∧Zao N b s R dk dl A B=some r∧St l (Zh col) S G∧Zd 27 1 S G az (Rq b I bl J bw K bz L M)∧Zb rU 45 3 S G dm dn A∧Zb rU 45 4 S G dp dq B∧Zd 42 2 S G a0 #[.bool dl,.slice dm A.length dn,.slice dp B.length dq]∧[30].map D=[.int .i64 dk]) s.length ⟨_,0,_,none,0,_,none,0,_,_,rfl,rfl,c,d,f,Zb.nil,Zb.nil,g,rfl⟩ ?_;clear c;intro H D G E;obtain ⟨S,dk,dl,dm,dn,A,dp,dq,B,R,w,p,c,d,f,h,i,g,t⟩:=E;subst w;refine .lL [30] t ?_
 cases R with
 | nil=>
  have m:¬ ((dk:Int)<(s.length:Int)):=by have:=aJ.1 p;omega
  have e:=decide_eq_false m;rw [Zao.eq_1] at c;refine go ?_;refine Ym (congrArg Value.bool e)<|go ?_;obtain ⟨_,O,c⟩:=bZ c;refine lc rfl rfl (Zfu call94) (Zry (col:=S) 5 6 O:) fun _ _ ⟨S,_,_,_,_,q,Q,G,O⟩=>⟨_,q,?_⟩;refine Xr (col:=S) #[.bool false,(nI),(nI)] 7 zeroValue42 fun bq _ _ W R=>Z6 R fun _ R S o=>go ?_;refine Xy ⟨_,_,rfl⟩ ?_;replace f:=((f.gr Q).gr W).kp R;refine lW ((f.atN).nth (q:=4) rfl)<|go ?_;replace h:=((h.gr Q).gr W).kp R;replace i:=((i.gr Q).gr W).kp R;replace g:=((g.gr Q).gr W).kp R;replace d:=((d.grow Q).grow W).kp R S;refine Zt [1,2,4,51,52,9,1000000] (fun H D S=>∃ T P X Y Z dr j u ds U,H=U.length∧b.2.2.2.2.drop P=U∧Zct N b s U P X dr ds=some r∧St l (Zh col) T S∧Zd 27 1 T S az (Rq b I bl J bw K bz L M)∧Zb rU 45 3 T S dm dn A∧Zb rU 45 4 T S dp dq B∧Zd 42 2 T S a0 #[.bool dl,.slice dm A.length dn,.slice dp B.length dq]∧Zb rU 45 5 T S Y Z dr∧Zb rU 45 6 T S j u ds∧Zd 42 7 T S bq #[.bool X,.slice Y dr.length Z,.slice j ds.length u]∧[53].map D=[.int .i64 P]) b.2.2.2.2.length ⟨_,0,_,_,_,_,_,_,_,_,rfl,rfl,c,d,f,h,i,g,(G.gr W).kp R,(O.gr W).kp R,o,rfl⟩ ?_;clear c;intro H D S E;obtain ⟨T,P,X,Y,Z,dr,j,u,ds,U,w,p,c,d,f,h,i,g,y,z,o,t⟩:=E;subst w;refine .lL [53] t ?_
  cases U with
  | nil=>
   have m:¬ ((P:Int)<(b.2.2.2.2.length:Int)):=by have:=aJ.1 p;omega
   have e:=decide_eq_false m;rw [Zct.eq_1] at c;refine go ?_;refine Ym (congrArg Value.bool e)<|go ?_;refine lV _ (Z5 isAgg42 sizeOf42 o)<|Z6 g ?_;intro _ a9 ca cb;refine go ?_;cases c;replace y:=y.kp a9;replace z:=z.kp a9;replace d:=d.kp a9 ca;exact ⟨rfl,_,Vm cb.atN,_,_,_,_,_,rfl,d.fin (cm [(5,c1),(6,c2)]),d.fo y,d.fo z⟩
  | cons br bs=>
   obtain ⟨x,cc,cd⟩:=Yt p;have m:(P:Int)<(b.2.2.2.2.length:Int):=by omega
   have e:=decide_eq_true m;rw [Zct.eq_2] at c;refine go ?_;refine Yn (congrArg Value.bool e)<|go ?_;refine lI x ((af.ks d).addr x) ?_;obtain ⟨_,ce,cf⟩:=(af.ks d).atN x;obtain ⟨⟨cg,ch,rfl,dt⟩,_⟩:=ce;refine lW cf.one<|go ?_;refine Z9 f<|Xk rfl ?_;obtain ⟨aw,U,c⟩:=bZ c;refine lI U ((v.ks d).addr U) ?_;obtain ⟨_,ci,cj⟩:=(v.ks d).atN U;obtain ⟨⟨ck,cl,rfl,du⟩,_⟩:=ci;refine lW cj.one<|go ?_;refine Zt [1,10,11,2,4,51,52,53,62,63,9,1000000] (fun H D v=>∃ k G F V,H=V.length∧aw.drop F=V∧Zcu N b s P X dr ds (Zct N b s bs) br V G=some r∧St l (Zh col) k v∧Sl rQ k v cg ch br∧Zd 27 1 k v az (Rq b I bl J bw K bz L M)∧Zb rU 45 3 k v dm dn A∧Zb rU 45 4 k v dp dq B∧Zd 42 2 k v a0 #[.bool dl,.slice dm A.length dn,.slice dp B.length dq]∧Sl rI k v ck cl aw∧Zb rU 45 5 k v Y Z dr∧Zb rU 45 6 k v j u ds∧Zd 42 7 k v bq #[.bool X,.slice Y dr.length Z,.slice j ds.length u]∧[64,12].map D=[.int .i64 F,.int .i64 G]) aw.length ⟨_,0,0,_,rfl,rfl,c,d,dt,f,h,i,g,du,y,z,o,rfl⟩ ?_;clear c;intro H D v E;obtain ⟨k,G,F,V,w,p,c,d,dt,f,h,i,g,du,y,z,o,t⟩:=E;subst w;refine .lL [64,12] t ?_
   cases V with
   | nil=>
    have m:¬ ((F:Int)<(aw.length:Int)):=by have:=aJ.1 p;omega
    have e:=decide_eq_false m;rw [Zcu.eq_1] at c;refine go ?_;refine Ym (congrArg Value.bool e)<|go ?_;refine Y8 (col:=k) [(0,0),(1,1),(2,1),(3,1),(4,0),(5,1),(6,1),(7,0),(8,1),(9,1),(10,1),(11,1),(12,1),(13,0),(14,1),(15,1),(16,0),(17,3),(18,3),(19,2)] (by kernel_rfl) (by kernel_rfl)<|xv rfl rfl (fun _ a=>Z5 isAgg42 sizeOf42 (o.gr (a.bl k))) ?_;refine xu rfl rfl (fun _=>Vd rfl) ?_;refine xu rfl rfl (fun _=>Yd rfl) ?_;refine xF ⟨_,_,rfl⟩ ?_;refine xW (fun _ a=>((f.atN).nth (q:=2) rfl).gr (a.bl k)) ?_;refine xu rfl rfl (fun _=>Yd rfl) ?_;obtain ⟨_,O,c⟩:=bZ c;refine xu rfl rfl (fun _=>X8 underlying23 sizeOf22 rfl rfl (Z0 O).1 (Z0 O).2.1 ((C.ks d).addr O)) ?_;obtain ⟨_,cn,co⟩:=(C.ks d).atN O;obtain ⟨⟨_,_,rfl,_⟩,_⟩:=cn;refine xW (fun _ a=>co.one.gr (a.bl k)) ?_;refine xu rfl rfl (fun _=>Q8 underlying22 rfl) ?_;refine xu rfl rfl (fun _=>Zic _ _ rfl rfl) ?_;refine xu rfl rfl (fun _=>Vd rfl) ?_;refine xu rfl rfl (fun _=>Yd rfl) ?_;obtain ⟨_,P,c⟩:=bZ c;refine xu rfl rfl (fun _=>X8 underlying36 sizeOf3 rfl rfl (Z0 P).1 (Z0 P).2.1 ((n.ks d).addr P)) ?_;refine xW (fun _ a=>((n.ks d).gr (a.bl k)).atInt P) ?_;refine xu rfl rfl (fun _=>S8 _ _ rfl rfl) ?_;obtain ⟨bc,G,c⟩:=bZ c;refine xu rfl rfl (fun _=>X8 underlying29 sizeOf42 rfl rfl (Z0 G).1 (Z0 G).2.1 (dt.addr G)) ?_;obtain ⟨_,cp,cq⟩:=dt.atN G;obtain ⟨_,_,rfl,cr,cs⟩:=Wq cp;obtain ⟨_,_,rfl,ct,cu⟩:=Wq cr;obtain ⟨rfl,_⟩:=ct;obtain ⟨⟨cv,cw,rfl,bd⟩,_⟩:=cu;obtain ⟨⟨cx,cy,rfl,be⟩,_⟩:=cs;refine xv (v:=(.agg #[.bool bc.1.1,.slice cv bc.1.2.length cw,.slice cx bc.2.length cy])) rfl rfl (fun _ a=>Yl isAgg42 sizeOf42 rfl rfl (cq.gr (a.bl k))) ?_;refine xe rfl rfl ?_;intro _ j;have a:=j.bl k;obtain ⟨_,Y,c⟩:=bZ c;refine Zi (Zve Y (bd.gr a) (be.gr a)) fun _ _ ⟨H,_,_,_,_,q,P,u,w⟩=>⟨_,q,?_⟩;refine Zl<|Xo H j P<|xe rfl rfl ?_;intro E j;replace h:=(h.gr a).gr P;replace i:=(i.gr a).gr P;replace y:=(y.gr a).gr P;replace z:=(z.gr a).gr P;replace f:=(f.gr a).gr P;replace g:=(g.gr a).gr P;replace o:=(o.gr a).gr P;replace d:=(d.grow a).grow P
    have a:=j.bl H;obtain ⟨_,Z,c⟩:=bZ c;replace y:=y.gr a;replace z:=z.gr a;refine Zi (Zru 8 9 Z ((y.toSlF (Zg.int .u32)).froz 6) ((z.froz 5).toSlF (Zg.int .u32)) (((u.gr a).froz 5).froz 6) (((w.gr a).froz 5).froz 6)) fun _ _ ⟨v,_,_,_,_,q,u,W,w⟩=>⟨_,q,?_⟩;replace W:=W.thaw (Z1 .u32) u (((Fz.refl (col:=H)).froz 5).froz 6);replace w:=w.thaw (Z1 .u32) u (((Fz.refl (col:=H)).froz 5).froz 6);replace u:=u.thawR (col:=H);generalize Xa E.heap.size H v=q at *;refine Zl<|Xo q j u<|xe rfl rfl ?_;intro _ j;replace h:=(h.gr a).gr u;replace i:=(i.gr a).gr u;replace f:=(f.gr a).gr u;replace g:=(g.gr a).gr u;replace o:=(o.gr a).gr u;replace d:=(d.grow a).grow u;have a:=j.bl q;replace o:=o.gr a;refine Z6 o fun _ Q j X=>Zl<|xk q<|Y4 ?_;replace h:=(h.gr a).kp Q;replace i:=(i.gr a).kp Q;replace W:=(W.gr a).kp Q;replace w:=(w.gr a).kp Q;replace f:=(f.gr a).kp Q;replace g:=(g.gr a).kp Q;replace d:=(d.grow a).kp Q j;intro _ a;replace a:=a.bl q;refine go ?_;replace h:=h.gr a;replace h:=h.recol 8 5;replace i:=i.gr a;replace i:=i.recol 8 5;replace W:=W.gr a;replace W:=W.recolSelf 5 (by decide);replace w:=w.gr a;replace w:=w.recol 8 5;replace f:=f.gr a;replace f:=f.recol 8 5;replace g:=g.gr a;replace g:=g.recol 8 5;replace X:=X.gr a;replace X:=X.recol 8 5;replace d:=d.grow a;replace d:=d.recol 8 5 (by decide) (by decide);replace h:=h.recol 9 6;replace i:=i.recol 9 6;replace w:=w.recolSelf 6 (by decide);replace f:=f.recol 9 6;replace g:=g.recol 9 6;replace d:=d.recol 9 6 (by decide) (by decide);exact ⟨bs.length,by simp,rfl,⟨_,_,_,_,_,_,_,_,_,_,rfl,cc,c,d,f,h,i,g,W.recol 9 6,w,X.recol 9 6,(Yz (congrArg (Value.int .i64) (Yv (aI cd (af.ks d).1.1))) rfl)⟩⟩
   | cons q c6=>
    obtain ⟨x,c7,c8⟩:=Yt p;have m:(F:Int)<(aw.length:Int):=by omega
    have e:=decide_eq_true m;rw [Zcu.eq_2] at c;refine go ?_;refine Yn (congrArg Value.bool e)<|go ?_;refine lI x (du.addr x)<|lW (du.atInt x) ?_;refine go ?_;refine Wg (col:=k) (by kernel_rfl) (by kernel_rfl)<|go ?_;refine qF ⟨_,_,rfl⟩ ?_;refine qW (fun _ a=>((f.atN).nth (q:=2) rfl).gr (a.bl k)) ?_;refine go ?_;obtain ⟨_,T,c⟩:=bZ c;refine qI T ((C.ks d).addr T) ?_;obtain ⟨_,c9,da⟩:=(C.ks d).atN T;obtain ⟨⟨_,_,rfl,_⟩,_⟩:=c9;refine qW (fun _ a=>da.one.gr (a.bl k)) ?_;refine go ?_;obtain ⟨_,V,c⟩:=bZ c;refine qI V ((n.ks d).addr V)<|qW (fun _ a=>((n.ks d).gr (a.bl k)).atInt V) ?_;refine go ?_;refine Y1 ?_;intro _ a;replace a:=a.bl k;refine go ?_;replace h:=h.gr a;replace i:=i.gr a;replace du:=du.gr a;replace f:=f.gr a;replace g:=g.gr a;replace d:=d.grow a;exact ⟨c6.length,by simp,rfl,⟨_,_,_,_,rfl,c7,c,d,dt.gr a,f,h,i,g,du,y.gr a,z.gr a,o.gr a,(Yz (congrArg (Value.int .i64) (Yv (aI c8 du.1.1))) rfl)⟩⟩
 | cons db bt=>
  obtain ⟨x,dc,dd⟩:=Yt p;have m:(dk:Int)<(s.length:Int):=by omega
  have e:=decide_eq_true m;rw [Zao.eq_2] at c;refine go ?_;refine Yn (congrArg Value.bool e)<|go ?_;refine lI x ((n.ks d).addr x)<|lW ((n.ks d).atInt x)<|Y6 rfl<|Y6 rfl<|Zl<|Zx ?_;refine Wp.cutK [1,2,28,29,30,4,1000000] (fun D E=>∃ F e,Zjo dk dl A B (Zao N b s bt) e=some r∧St l (Zh col) F E∧Zd 27 1 F E az (Rq b I bl J bw K bz L M)∧Zb rU 45 3 F E dm dn A∧Zb rU 45 4 F E dp dq B∧Zd 42 2 F E a0 #[.bool dl,.slice dm A.length dn,.slice dp B.length dq]∧[46].map D=[.bool e]) ?_ ?_
  ·intro D E k;obtain ⟨F,e,c,d,f,h,i,g,t⟩:=k;rw [Zjo.eq_1] at c;refine .lL [46] t ?_;refine Zm c (fun hb c=>go ?_) fun hb c=>go ?_
   ·refine lV (.agg #[.bool false,(nI),(nI)]) (Wo (l:=[_,_]) (qs:=[(0,2),(2,1)]) underlying42 zeroValue42 ⟨rfl,sizeOf40,rfl,sizeOf38,trivial⟩ rfl)<|Z6 g ?_;intro _ de df dg;refine go ?_;cases c;replace d:=d.kp de df;exact ⟨rfl,_,Vm dg.atN,_,none,0,none,0,rfl,d.fin (cm []),Zb.nil,Zb.nil⟩
   exact ⟨bt.length,by simp,rfl,⟨_,_,_,_,_,_,_,_,_,_,rfl,dc,c,d,f,h,i,g,(Yz (congrArg (Value.int .i64) (Yv (aI dd (n.ks d).1.1))) rfl)⟩⟩
  refine go ?_;refine Ye c (fun bk c=>go ?_) fun bk c=>go ?_
  ·refine lV (.bool true) (X0 (congrArg Value.bool bk) rfl)<|Zl ?_;exact ⟨rfl,_,_,c,d,f,h,i,g,rfl⟩
  refine Xy ⟨_,_,rfl⟩ ?_;refine go ?_;refine lW ((f.atN).nth (q:=2) rfl)<|go ?_;obtain ⟨dh,a,c⟩:=bZ c;refine lI a ((C.ks d).addr a) ?_;refine go ?_;obtain ⟨_,di,dj⟩:=(C.ks d).atN a;obtain ⟨⟨_,_,rfl,_⟩,_⟩:=di;refine lW dj.one<|go ?_;refine lV (.bool (decide ((dh.length:Int)≤db))) (X7 (congrArg Value.bool bk) rfl)<|Zl ?_;exact ⟨rfl,_,_,c,d,f,h,i,g,rfl⟩
def ent (n:Zq) (w:List Int) (v:Nat):Rat:=Zr ((T4 n w v).getD (w.getD v 0).toNat ((false,[]),[]))
def Ti (n:Zq) (w:List Int):Nat→Nat→Rat→Rat
 | 0,_,q=>q
 | m+1,k,q=>Ti n w m (k+1) (q * ent n w k)
section
variable {N:Nat} {n:Zq} (hf:X2 N n) {w:List Int} (hw:Yk n w)
include hf hw
variable {W K:Nat} (hs:W8 n W) (hr:Z3 N (8 * K+40)) (hWK:1025 * (W+2)+4≤K)
include hs hr hWK
omit hr hWK in
theorem Z8f {k:Nat} (hk:k<n.2.1.length):qs (ent n w k)≤W+1:=by
 have c:=hw.ok k (by rw [hw.len];exact hk)
 have a:(w.getD k 0).toNat<(T4 n w k).length:=by rw [hf.rowT_len hw hk];omega
 rw [ent,Xl a]
 obtain ⟨b,d⟩:=Ziv hf hs hk _ (Zp3 (aB a))
 have:=Zto b
 omega
omit hs hr hWK in
theorem Zv8 {k:Nat} (hk:k<n.2.1.length) (a:Bool) (b c:List Int) (kk:Nat→Bool→List Int→List Int→Option (QV×Int)) (t:List QV):∀ (ps:List Int) (r kb:Nat),(∀ q ∈ ps,0≤q∧q<(n.2.1.length:Int))→r<kb→kb≤65536→Yu n.2.2.1 ps kb≤65536→
  Zcu N n w k a b c kk t ps (r:Int)=Zcu N n w k a b c kk t [] (T3 n w ps r:Int)
 | [],r,kb,_,_,_,_=>rfl
 | p :: ps,r,kb,d,e,f,g=>by
  obtain ⟨i,m,o⟩:=Zq2 hf.ev hw d e f g
  have A:=d p aO
  have B:=hw.ok p.toNat (by rw [hw.len];omega)
  have C:r * cnt n p.toNat≤kb * cnt n p.toNat:=bD _ (by omega)
  have q1:Zk n.2.2.1 p=some (n.2.2.1.getD p.toNat []):=by
   have:=Yo (l:=n.2.2.1) [] (j:=p.toNat) (by rw [hf.ev.v];omega)
   rwa [show ((p.toNat:Nat):Int)=p by omega] at this
  have s:Zk w p=some (w.getD p.toNat 0):=by
   have:=Yo (l:=w) 0 (j:=p.toNat) (by rw [hw.len];omega)
   rwa [show ((p.toNat:Nat):Int)=p by omega] at this
  have u:i64.wrap ((r:Int) * ((n.2.2.1.getD p.toNat []).length:Int))=((r * cnt n p.toNat:Nat):Int):=by
   rw [show ((n.2.2.1.getD p.toNat []).length:Int)=((cnt n p.toNat:Nat):Int) from rfl,← bN]
   exact Zv (by omega)
  have x:i64.wrap (((r * cnt n p.toNat:Nat):Int)+w.getD p.toNat 0)=((r * cnt n p.toNat+(w.getD p.toNat 0).toNat:Nat):Int):=by
   rw [dS,show (((w.getD p.toNat 0).toNat:Nat):Int)=w.getD p.toNat 0 by omega]
   exact Zv (by omega)
  rw [Zcu.eq_2,q1,oB,s,oB,u,x]
  exact Zv8 hk a b c kk t ps _ _ (fun q y=>d q (aN _ y)) i m o
theorem Zv7:∀ (l:List (List QV)) (k:Nat) (q:Rat),n.2.2.2.2.drop k=l→k≤n.2.1.length→qs q≤k * (W+1)+1→Zct N n w l k (Zn q).1.1 (Zn q).1.2 (Zn q).2=some (Zn (Ti n w l.length k q),0)
 | [],k,q,_,_,_=>rfl
 | t :: l,k,q,c,P,s=>by
  have Q:=hf.ev.t
  have J:=hf.le
  have e:k<n.2.2.2.2.length:=by
   rcases bU k n.2.2.2.2.length with h | h
   ·exact h
   ·rw [aG h] at c;cases c
  have a:k<n.2.1.length:=by omega
  rw [aF e] at c
  obtain ⟨u,x⟩:=List.cons.inj c
  have j:n.2.2.2.2.getD k []=t:=by rw [Xl e];exact u
  have d:=hf.rows a
  have A:=hf.row hw a
  have L:=hw.ok k (by rw [hw.len];exact a)
  have m:=Zv8 hf hw a (Zn q).1.1 (Zn q).1.2 (Zn q).2 (Zct N n w l) t (n.2.2.2.1.getD k []) 0 1 (hf.pars a) (by omega) (by omega) d.2.2
  rw [show ((0:Nat):Int)=0 from rfl] at m
  have f:(w.getD k 0).toNat<(T4 n w k).length:=by rw [hf.rowT_len hw a];omega
  have B:i64.wrap ((Wr n w k:Int) * ((n.2.2.1.getD k []).length:Int))=((Wr n w k * cnt n k:Nat):Int):=by
   rw [show ((n.2.2.1.getD k []).length:Int)=((cnt n k:Nat):Int) from rfl,← bN]
   exact Zv (by omega)
  have C:i64.wrap (((Wr n w k * cnt n k:Nat):Int)+w.getD k 0)=((Wr n w k * cnt n k+(w.getD k 0).toNat:Nat):Int):=by
   rw [dS,show (((w.getD k 0).toNat:Nat):Int)=w.getD k 0 by omega]
   exact Zv (by omega)
  have o:Zk t ((Wr n w k * cnt n k+(w.getD k 0).toNat:Nat):Int)=some (T4 n w k)[(w.getD k 0).toNat]:=by
   rw [← j];exact Xbo f
  obtain ⟨y,g⟩:∃ y,y=(T4 n w k)[(w.getD k 0).toNat]:=⟨_,rfl⟩
  obtain ⟨i,D⟩:=Ziv hf hs a y (Zp3 (g ▸ aB f))
  have E:ent n w k=Zr y:=by rw [ent,Xl f,g]
  have F:k * (W+1)≤1024 * (W+1):=bD _ (by omega)
  have b:W2 (Va y):=by
   rw [Va];split
   ·exact ⟨i.1,by simp [Zp]⟩
   ·exact i
  have r:RV (W+1) (Va y):=by
   refine ⟨b.1,b.2,?_,?_⟩
   ·rw [Va];split
    ·simp only;omega
    ·omega
   ·rw [Va];split
    ·simp
    ·omega
  have G:Zet N ((y.1.1,y.1.2),y.2)=some (Va y):=Zxa i D (hr.mono (by omega))
  have H:Zbr N (((Zn q).1.1,(Zn q).1.2),(Zn q).2) (((Va y).1.1,(Va y).1.2),(Va y).2)=some (Zn (q * ent n w k)):=by
   have:=Zso (W7 s) r (hr.mono (by omega))
   rwa [Y5,Zsl,← E] at this
  have M:=Znp q (ent n w k)
  have O:=Z8f hf hw hs a
  have I:=Zv7 l (k+1) (q * ent n w k) x (by omega) (by rw [bB,aV];omega)
  rw [Zct.eq_2,Yo [] (by rw [hf.ev.p];exact a),oB,m,← Wr,Zcu.eq_1,Yo [] (by rw [hf.ev.v];exact a),oB,Yo 0 (by rw [hw.len];exact a),oB,B,C,o,← g,oB,G,oB,H,oB,nC,Ti]
  exact I
end
theorem Zv6 {N:Nat} {n:Zq} (he:Uo n) (hl:n.2.1.length≤1048576) (w:List Int) (hw:w.length=n.2.1.length):∀ (l:List Int) (k:Nat) (b:Bool) (l1 l2:List Int),w.drop k=l→k≤w.length→Zao N n w l k b l1 l2=if Qk n l k=true then Zao N n w [] w.length b l1 l2 else some (((false,([]:List Int)),([]:List Int)),3)
 | [],k,b,l1,l2,a,c=>by
  have:=aJ.1 a
  rw [Qk,if_pos rfl,show k=w.length by omega]
 | x :: l,k,b,l1,l2,a,c=>by
  have d:k<w.length:=by
   rcases bU k w.length with h | h
   ·exact h
   ·rw [aG h] at a;cases a
  rw [aF d] at a
  obtain ⟨f,e⟩:=List.cons.inj a
  rw [Zao.eq_2,Qk]
  by_cases hx:x<0
  ·rw [if_pos (dT hx),Zjo,if_pos rfl,decide_eq_true hx];rfl
  ·rw [if_neg (dF hx),Yo [] (by rw [he.v];omega),oB,Zjo,decide_eq_false hx]
   by_cases hc:(cnt n k:Int)≤x
   ·rw [show ((n.2.2.1.getD k []).length:Int)=(cnt n k:Int) from rfl,decide_eq_true hc,if_pos rfl];rfl
   ·rw [show ((n.2.2.1.getD k []).length:Int)=(cnt n k:Int) from rfl,decide_eq_false hc,if_neg (by decide),Zv6 he hl w hw l (k+1) b l1 l2 e (by omega)];rfl
theorem Z7b {N W K:Nat} {n:Zq} (hf:X2 N n) (hs:W8 n W) (hr:Z3 N (8 * K+40)) (hWK:1025 * (W+2)+4≤K) (hN:2000000<N) (hC:Vx N n=some 0) (w:List Int):
  ∃ p e,Zan N n w=some (p,e)∧((e≠0∧(decide (w.length=n.2.1.length)&&Qk n w 0)=false)∨(e=0∧Yk n w∧p=Zn (Ti n w n.2.1.length 0 1))):=by
 have a:Vx N (n.1,n.2.1,n.2.2.1,n.2.2.2.1,n.2.2.2.2)=some 0:=hC
 have c:=hf.le
 rw [Zan,a,oB,if_neg (by decide)]
 by_cases hlen:w.length=n.2.1.length
 ·rw [if_neg (show ¬ (!decide ((w.length:Int)=(n.2.1.length:Int)))=true by rw [decide_eq_true (by omega)];decide),Zv6 hf.ev (by omega) w hlen w 0 false [] [] rfl (aQ _)]
  cases hin:Qk n w 0 with
  | false=>rw [if_neg (show ¬ false=true by decide)];exact ⟨_,3,rfl,.inl ⟨by decide,by simp⟩⟩
  | true=>
   have hw:=Z80 hlen hin
   have b:=Zv7 hf hw hs hr hWK n.2.2.2.2 0 1 rfl (aQ _) (by rw [Zft];omega)
   rw [if_pos rfl,Zao.eq_1,Zs4 (hr.mono (by omega)),oB,b,hf.ev.t]
   exact ⟨_,0,rfl,.inr ⟨rfl,hw,rfl⟩⟩
 ·rw [if_pos (show (!decide ((w.length:Int)=(n.2.1.length:Int)))=true by rw [decide_eq_false (by omega)];rfl)]
  exact ⟨_,60,rfl,.inl ⟨by decide,by rw [decide_eq_false hlen];rfl⟩⟩
theorem Z81 {n:Zq} {w:List Int} (hd:Yk n w):(decide (w.length=n.2.1.length)&&Qk n w 0)=true:=by
 have:∀ (l:List Int) (j:Nat),w.drop j=l→Qk n l j=true:=by
  intro l
  induction l with
  | nil=>intro j _;rfl
  | cons x l c=>
   intro j b
   have a:j<w.length:=by
    rcases bU j w.length with h | h
    ·exact h
    ·rw [aG h] at b;cases b
   rw [aF a] at b
   obtain ⟨e,f⟩:=List.cons.inj b
   have d:=hd.ok j a
   rw [Xl a,e] at d
   rw [Qk,c (j+1) f,decide_eq_false (by omega),decide_eq_false (by omega)];rfl
 rw [this w 0 (by rw [aM]),Bool.and_true]
 exact decide_eq_true hd.len
def Zie (n:Zq) (T:List (List QV)):Zq:=(n.1,n.2.1,n.2.2.1,n.2.2.2.1,T)
structure Zn8 (n:Zq) (T:List (List QV)):Prop where
 len:T.length=n.2.1.length
 sz:∀ v,v<n.2.1.length→(T.getD v []).length=(n.2.2.2.2.getD v []).length
 ent:∀ v,v<n.2.1.length→∀ x ∈ T.getD v [],0≤Zr x∧Zr x≤1
 row:∀ v,v<n.2.1.length→∀ j,j<Yu n.2.2.1 (n.2.2.2.1.getD v []) 1→Xj (((T.getD v []).drop (j * cnt n v)).take (cnt n v))=1
section
variable {N:Nat} {n:Zq} {T:List (List QV)} (hf:X2 N n)
include hf
theorem Xco:Zn8 n n.2.2.2.2 where
 len:=hf.ev.t
 sz:=fun v _=>rfl
 ent:=fun v hv=>hf.ent hv
 row:=fun v hv=>Zzl _ _ (Z3w _ _ hf.su v (aQ _) (by omega))
variable (h:Zn8 n T)
include h
omit hf h in
theorem Xbf (w:List Int) (v:Nat):Wr (Zie n T) w v=Wr n w v:=by
 have b:∀ (a:List Int) (r:Nat),T3 (Zie n T) w a r=T3 n w a r:=fun a=>by
  induction a with
  | nil=>intro r;rfl
  | cons p a c=>intro r;rw [T3,T3,c];rfl
 exact b _ _
omit hf h in
theorem Z09 {w:List Int} {v:Nat} (hx:(w.getD v 0).toNat<cnt n v):ent (Zie n T) w v=Zr ((T.getD v []).getD (Wr n w v * cnt n v+(w.getD v 0).toNat) ((false,[]),[])):=by
 rw [ent,T4,Xbf]
 show Zr (((((T.getD v []).drop (Wr n w v * cnt n v)).take (cnt n v)).getD (w.getD v 0).toNat ((false,[]),[])))=_
 congr 1
 generalize T.getD v []=t
 generalize (w.getD v 0).toNat=x at *
 rw [aE,aE,List.getElem?_take,if_pos hx,List.getElem?_drop]
end
def Zjk (a b:Int) (kk_L1:(R4→Int→Option R4)) (c:List R1):Option R4:=
  kk_L1 c (i64.wrap (b+a))
def Zeq (N:Nat) (i:R4) (c d:Int) (kk_L1:(R4→Int→Option R4)) (b:R1):Nat→R4→Int→Option R4
  | 0,_,_=>none
  | j+1,e,a=>if (decide (a<(i64.wrap (d+c))))=true then ((Zk i a).bind fun f=>(Zcn N ((f.1.1,f.1.2),f.2) ((b.1.1,b.1.2),b.2)).bind fun g=>(Zk e a).bind fun l=>(some (e.set (aA a) ((g.1.1.1,g.1.1.2),g.1.2))).bind fun k=>(Zeq N i c d kk_L1 b j) k (i64.wrap (a+1))) else (Zjk c d kk_L1 e)
def S0 (N:Nat) (c:R4) (b:Int):Nat→R4→Int→Option R4
  | 0,_,_=>none
  | f+1,d,a=>if (decide (a<(d.length:Int)))=true then (Z2 ((0:Int)≤a∧a≤(i64.wrap (a+b))∧(i64.wrap (a+b))≤(c.length:Int)) ((Qq N ((c.take (aA (i64.wrap (a+b)))).drop (aA a))).bind fun e=>(Qp N ((e.1.1,e.1.2),e.2)).bind fun g=>if (decide (g=0))=true then (Zjk b a (S0 N c b f) d) else (Zeq N c b a (S0 N c b f) e N d a))) else (some d)
def Zl9 (N:Nat) (a:R4) (b:R4) (c:Int):Option R4:=
  S0 N b c N a 0
theorem Z5i {N p x:Nat} {g t:Option Addr} {col:Ze} {j:World} {q s:R4} {o:Int} {r:R4} (c:Nat) (a:Zl9 N q s o=some r) (l:Up [c]=true) (V:Zb (rO 45) 42 c col j g p q) (u:Sl rQ col j t x s):
    Calls prog 73 #[.slice g q.length p,.slice t s.length x,.int .i64 o] j (fun e w'=>∃ (col':Ze),e= .returned (.tuple #[])∧Zu (pS [c]) col j col' w'∧Zb (rO 45) 42 c col' w' g p r∧r.length=q.length):=by
 refine Zf8 (m:=46) (args:=[.slice g q.length p,.slice t s.length x,.int .i64 o]) func73 rfl rfl rfl rfl ?_;rw [Zl9.eq_1] at a;have d:=St.startL (l:=[c]) rfl col j;refine go ?_;refine Zt [1,2,1000000] (fun C E y=>∃ z H f D,D=C∧S0 N s o D H f=some r∧St j (Xe [c] col) z y∧Zb (rO 45) 42 440 z y g p H∧H.length=q.length∧H.length=q.length∧[0,6].map E=[.slice g H.length p,.int .i64 f]) N ⟨_,_,0,_,rfl,a,d,V.startL (Ur l 0 rfl) (Uq l 0 rfl),rfl,rfl,rfl⟩ ?_;clear a;intro C E y L;obtain ⟨z,H,f,D,R,a,d,V,H,a5,z⟩:=L;subst R;refine .lL [0,6] z ?_;replace u:=u.keep (X5.startL [c] col j)
 cases D with
 | zero=>rw [S0.eq_1] at a;cases a
 | succ D=>
  rw [S0.eq_2] at a;refine go ?_;refine Zm a (fun y a=>?_) fun y a=>go ?_
  ·refine Xz<|Zx ?_;refine Wp.cutK [1,2,6,1000000] (fun E n=>∃ w G,Zjk o f (S0 N s o D) G=some r∧St j (Xe [c] col) w n∧Zb (rO 45) 42 440 w n g p G∧G.length=q.length∧G.length=q.length∧[0].map E=[.slice g G.length p]) ?_ ?_
   ·intro E n J;obtain ⟨w,G,a,d,U,W,X,z⟩:=J;rw [Zjk.eq_1] at a;refine .lL [0] z<|go ?_;exact ⟨D,by omega,rfl,⟨_,_,_,_,rfl,a,d,U,W,X,rfl⟩⟩
   refine go ?_;obtain ⟨k,a⟩:=Z4 a;have l:=((u.ks d).take (aA (i64.wrap (f+o)))).drop (sz:=3) rfl (aA f);refine lv (v:=.slice (if x=(aA f) then t else t.map (·.add ((aA f) * 3))) ((aA (i64.wrap (f+o))) - (aA f)) (x - (aA f))) rfl rfl (Zqu underlying29 sizeOf42 rfl rfl rfl k.1 k.2.1 (by have:=(u.ks d).1.2;have:=k.2.2;omega)) ?_;generalize (if x=(aA f) then t else t.map (·.add ((aA f) * 3)))=W at *;refine .ld (d:=21) (v:=(.slice W (((s.take (aA (i64.wrap (f+o)))).drop (aA f)).length) (x - (aA f)))) (congrArg (fun C=>Value.slice W C (x - (aA f))) (show (aA (i64.wrap (f+o))) - (aA f)=((s.take (aA (i64.wrap (f+o)))).drop (aA f)).length by rw [bH,nK];have:=k.2;omega)) ?_;obtain ⟨J,I,a⟩:=bZ a;refine Zi (Zrw 1 2 I l) fun _ _ ⟨K,t,v,A,G,w,i,k,l⟩=>⟨_,w,?_⟩;refine Xr (col:=K) #[.bool false,(nI),(nI)] 3 zeroValue42 fun M _ h b B=>Z6 B fun _ Z m n=>go ?_;refine lV _ (Z5 isAgg42 sizeOf42 n) ?_;obtain ⟨_,S,a⟩:=bZ a;replace k:=(k.gr b).kp Z;replace l:=(l.gr b).kp Z;refine Zi (Zoi S ((k.toSlF (Zg.int .u32)).froz 2) ((l.froz 1).toSlF (Zg.int .u32))) fun _ _ ⟨w,F⟩=>⟨_,w,?_⟩;replace F:=Rr h F;refine go ?_;replace V:=(((V.gr i).gr b).kp Z).gr F;replace d:=(((d.grow i).grow b).kp Z m).grow F;replace k:=k.gr F;replace l:=l.gr F;replace n:=n.gr F;refine Zm a (fun y a=>go ?_) fun y a=>go ?_
   ·exact ⟨rfl,_,_,a,d,V,H,a5,rfl⟩
   refine Zt [1,2,6,7,1000000] (fun C E I=>∃ m B F K,K=C∧Zeq N s o f (S0 N s o D) J K B F=some r∧St j (Xe [c] col) m I∧Zb (rO 45) 42 440 m I g p B∧B.length=q.length∧Zb rU 45 1 m I t v J.1.2∧Zb rU 45 2 m I A G J.2∧Zd 42 3 m I M #[.bool J.1.1,.slice t J.1.2.length v,.slice A J.2.length G]∧B.length=q.length∧[0,8].map E=[.slice g B.length p,.int .i64 F]) N ⟨_,_,_,_,rfl,a,d,V,H,k,l,n,a5,rfl⟩ ?_;clear a;intro C E I L;obtain ⟨m,B,F,K,R,a,d,A,D,k,l,n,G,z⟩:=L;subst R;refine .lL [0,8] z ?_
   cases K with
   | zero=>rw [Zeq.eq_1] at a;cases a
   | succ K=>
    rw [Zeq.eq_2] at a;refine go ?_;refine Zm a (fun y a=>go ?_) fun y a=>go ?_
    ·refine Y8 (col:=m) [(0,1),(1,1),(2,1),(3,1),(4,1),(5,0),(6,0),(7,3),(8,1),(9,1),(10,1),(11,1),(12,2)] (by kernel_rfl) (by kernel_rfl)<|xu rfl rfl (fun _=>Vd rfl) ?_;refine xu rfl rfl (fun _=>Yd rfl) ?_;refine xu rfl rfl (fun _=>Vd rfl) ?_;refine xu rfl rfl (fun _=>Yd rfl) ?_;obtain ⟨L,X,a⟩:=bZ a;refine xu rfl rfl (fun _=>X8 underlying29 sizeOf42 rfl rfl (Z0 X).1 (Z0 X).2.1 ((u.ks d).addr X)) ?_;obtain ⟨_,O,i⟩:=(u.ks d).atN X;obtain ⟨_,_,rfl,M,b⟩:=Wq O;obtain ⟨_,_,rfl,E,P⟩:=Wq M;obtain ⟨rfl,_⟩:=E;obtain ⟨⟨T,Z,rfl,t⟩,_⟩:=P;obtain ⟨⟨R,Y,rfl,j⟩,_⟩:=b;refine xv (v:=(.agg #[.bool L.1.1,.slice T L.1.2.length Z,.slice R L.2.length Y])) rfl rfl (fun _ b=>Yl isAgg42 sizeOf42 rfl rfl (i.gr (b.bl m))) ?_;refine xv rfl rfl (fun _ b=>Z5 isAgg42 sizeOf42 (n.gr (b.bl m))) ?_;refine xe rfl rfl ?_;intro y i;have b:=i.bl m;obtain ⟨h,Q,a⟩:=bZ a;replace k:=k.gr b;replace l:=l.gr b;refine Zi (Zvb 4 5 Q (((t.gr b).froz 1).froz 2) (((j.gr b).froz 1).froz 2) ((k.toSlF (Zg.int .u32)).froz 2) ((l.froz 1).toSlF (Zg.int .u32))) fun _ _ ⟨f,M,O,P,Q,w,v,u,U⟩=>⟨_,w,?_⟩;replace u:=u.thaw (Z1 .u32) v (((Fz.refl (col:=m)).froz 1).froz 2);replace U:=U.thaw (Z1 .u32) v (((Fz.refl (col:=m)).froz 1).froz 2);replace v:=v.thawR (col:=m);generalize Xa y.heap.size m f=j at *;refine Zl<|Xo j i v<|xu (v:=(.tuple #[(.agg #[.bool h.1.1.1,.slice M h.1.1.2.length O,.slice P h.1.2.length Q]),.int .i64 h.2])) rfl rfl (fun _=>Vl rfl) ?_;refine xu (v:=(.agg #[.bool h.1.1.1,.slice M h.1.1.2.length O,.slice P h.1.2.length Q])) rfl rfl (fun _=>Xt rfl rfl) ?_;refine xu (v:=(.int .i64 h.2)) rfl rfl (fun _=>Xt rfl rfl) ?_;obtain ⟨_,m,a⟩:=bZ a;replace A:=(A.gr b).gr v;refine xu rfl rfl (fun _=>X8 underlying29 sizeOf42 rfl rfl (Z0 m).1 (Z0 m).2.1 (A.addr m)) ?_;refine xe rfl rfl ?_;intro _ i;replace n:=(n.gr b).gr v;replace d:=(d.grow b).grow v;have b:=i.bl j;replace U:=U.gr b
     have w:=Yg.join (Yg.joinL (Zaa h.1.1.1) (u.gr b).has) U.has (by decide) (by decide);replace A:=A.gr b;replace A:=A.recol 5 4;replace k:=(k.gr v).gr b;replace k:=k.recol 5 4;replace l:=(l.gr v).gr b;replace l:=l.recol 5 4;replace n:=n.gr b;replace n:=n.recol 5 4;replace d:=d.grow b;replace d:=d.recol 5 4 (by decide) (by decide);obtain ⟨S,T,a⟩:=bZ a;have T:S=B.set (aA F) ((h.1.1.1,h.1.1.2),h.1.2):=(Option.some.inj T).symm;refine Zsy (x1:=((h.1.1.1,h.1.1.2),h.1.2)) (v:=(.agg #[.bool h.1.1.1,.slice M h.1.1.2.length O,.slice P h.1.2.length Q])) A m rfl sizeOf42 w rfl rfl (by decide) ?_;intro _ Y h u;rw [← T] at u;have f:S.length=q.length:=(show B.length=S.length by rw [T,nS]).symm.trans D;refine .ld (d:=0) (v:=(.slice g S.length p)) (congrArg (fun C=>Value.slice g C p) (show B.length=S.length by rw [T,nS])) ?_;refine Zl<|xk Y<|Y4 ?_;intro _ b;replace b:=b.bl Y;refine go ?_;replace d:=(d.kpp h).grow b;exact ⟨K,by omega,rfl,⟨_,_,_,_,rfl,a,d,u.gr b,f,(k.kpp h).gr b,(l.kpp h).gr b,(n.kpp h).gr b,f,rfl⟩⟩
    exact ⟨rfl,_,_,a,d,A,D,G,rfl⟩
  cases a;exact ⟨rfl,_,rfl,d.finL rfl (cm [(440,c)]),d.foL V,a5⟩
def Sp (t q:List QV):List QV:=if Xj q=0 then t else q.map fun x=>Zn (Zr x / Xj q)
def Wv (k:Nat):Nat→List QV→List QV→List QV
 | 0,t,_=>t
 | m+1,t,q=>Sp (t.take k) (q.take k)++Wv k m (t.drop k) (q.drop k)
theorem Z2y {t q:List QV} (h:t.length=q.length):(Sp t q).length=t.length:=by
 rw [Sp];split
 ·rfl
 ·rw [aH,h]
theorem Zuc {k:Nat}:∀ (m:Nat) (t q:List QV),t.length=m * k→q.length=m * k→(Wv k m t q).length=t.length
 | 0,t,q,_,_=>rfl
 | m+1,t,q,b,c=>by
  rw [bB,aV] at b c
  have a:(t.drop k).length=m * k:=by rw [bH];omega
  rw [Wv,nA,Z2y (by rw [nK,nK];omega),Zuc m _ _ a (by rw [bH];omega),a,nK];omega
theorem Z2x {k:Nat}:∀ (m:Nat) (t q:List QV),t.length=m * k→q.length=m * k→∀ j,j<m→((Wv k m t q).drop (j * k)).take k=Sp ((t.drop (j * k)).take k) ((q.drop (j * k)).take k)
 | 0,t,q,_,_,j,a=>by omega
 | m+1,t,q,b,c,j,a=>by
  rw [bB,aV] at b c
  have d:(Sp (t.take k) (q.take k)).length=k:=by
   rw [Z2y (by rw [nK,nK];omega),nK];omega
  cases j with
  | zero=>
   rw [dP,aM,aM,aM,Wv,List.take_append_of_le_length (by omega),bA (by omega)]
  | succ j=>
   have f:=Z2x (k:=k) m (t.drop k) (q.drop k) (by rw [bH];omega) (by rw [bH];omega) j (by omega)
   have e:(j+1) * k=k+j * k:=by rw [bB,aV,fO]
   rw [Wv,e,← dK,List.drop_left' d,f,dK,dK]
section
variable {N B:Nat} (hr:Z3 N (8 * B+64)) {q:List QV} {k:Nat} (hk:1≤k) (hq:∀ x ∈ q,RV B x) (hql:q.length≤1048576)
include hr hk hq hql
theorem Zym {at0:Nat} (hat:at0+k≤q.length) (kk:List QV→Int→Option (List QV)) {S:Rat} (hS:S≠0) (hSq:qs S≤B) (A t:List QV) (hA:A.length=at0) (ht:k≤t.length):∀ (m u f:Nat),u+m=k→m<f→
  Zeq N q (k:Int) (at0:Int) kk (Zn S) f (A++((((q.drop at0).take k).take u).map (fun x=>Zn (Zr x / S))++t.drop u)) ((at0+u:Nat):Int)=kk (A++((((q.drop at0).take k).map fun x=>Zn (Zr x / S))++t.drop k)) ((at0+k:Nat):Int)
 | m,u,0,_,h=>by omega
 | 0,u,f+1,e,_=>by
  obtain rfl:u=k:=by omega
  rw [Zeq.eq_2,Zv (by omega),if_neg (dF (by omega)),Zjk,Zv (by omega),bA (l:=(q.drop at0).take u) (by rw [nK];omega),dS]
 | m+1,u,f+1,e,o=>by
  have d:at0+u<q.length:=by omega
  have g:((q.drop at0).take k).length=k:=by rw [nK,bH];omega
  have j:((q.drop at0).take k)[u]'(by omega)=q[at0+u]:=by rw [fP,gV]
  have n:Zcn N ((q[at0+u].1.1,q[at0+u].1.2),q[at0+u].2) (((Zn S).1.1,(Zn S).1.2),(Zn S).2)=some (Zn (Zr q[at0+u] / S),0):=by
   have:=Zw2 (N:=N) (hq _ (aB d)) (W7 hSq) (hr.mono (by omega))
   rwa [Y5,if_neg hS] at this
  have a:((((q.drop at0).take k).take u).map (fun x=>Zn (Zr x / S))).length=u:=by rw [aH,nK];omega
  have b:Zk (A++((((q.drop at0).take k).take u).map (fun x=>Zn (Zr x / S))++t.drop u)) ((at0+u:Nat):Int)=some (t[u]'(by omega)):=by
   rw [Zs (by simp only [nA,a,bH];omega),fK (by omega)]
   simp only [hA,gB]
   rw [fK (by omega)]
   simp only [a,eX,gV,bR]
  have c:(A++((((q.drop at0).take k).take u).map (fun x=>Zn (Zr x / S))++t.drop u)).set (at0+u) (Zn (Zr q[at0+u] / S))=A++((((q.drop at0).take k).take (u+1)).map (fun x=>Zn (Zr x / S))++t.drop (u+1)):=by
   rw [eE _ _ (by omega),hA,gB,eE _ _ (by omega),a,eX,aF (l:=t) (i:=u) (by omega),List.set_cons_zero,cO,aL (by omega),bX,dI,eO,j,bC]
   rfl
  rw [Zeq.eq_2,Zv (by omega),if_pos (dT (by omega)),Zs d,oB,n,oB,b,oB,oB,aC]
  dsimp only
  rw [show (((Zn (Zr q[at0+u] / S)).1.1,(Zn (Zr q[at0+u] / S)).1.2),(Zn (Zr q[at0+u] / S)).2)=Zn (Zr q[at0+u] / S) from rfl,c,wS (by omega)]
  exact Zym hat kk hS hSq A t hA ht m (u+1) f (by omega) (by omega)
end
theorem Z77:Wt prog 3 1 8:=⟨Tryz.t3,_,rfl,rfl,rfl,rfl,rfl⟩
def Za5 (a:List Int):Option R2:=
  Z2 ((([]:List Int).length+a.length) * 8≤140737488355328∧([]:List Int).length+a.length≤maxLen) (some (([]:List Int)++a))
theorem Zos {f:Nat} {e:Option Addr} {col:Ze} {d:World} {c r:R2} (i:Nat) (a:Za5 c=some r) (b:Sl rI col d e f c):
    Calls prog 42 #[.slice e c.length f] d (Vr .i64 3 i col d r):=by
 refine Xc 2 (m:=8) func42 rfl rfl rfl rfl rfl ?_;rw [Za5.eq_1] at a;have g:=St.start col d;refine go ?_;replace b:=b.k0;rcases Zs5 b with h | h
 ·replace a:some ([]:List Int)=some r:=by have b:=h.2;subst b;simpa [Z2,maxLen] using a
  refine lv (v:=.bool e.isNone) rfl rfl (Zlb underlying36 rfl)<|.ld (d:=4) (v:=.bool true) (congrArg Value.bool h.1)<|Zl<|Yn rfl<|go ?_;cases a;exact ⟨rfl,_,none,0,rfl,g.fin (cm []),Zb.nil⟩
 refine lv (v:=.bool e.isNone) rfl rfl (Zlb underlying36 rfl)<|.ld (d:=4) (v:=.bool false) (congrArg Value.bool h)<|Zl<|Ym rfl<|go ?_;refine Zsx (col:=(Zh col)) (r:=rI) 1 rfl underlying36 Z77 rfl fun _ _ _ j l=>Y3 rfl ?_;obtain ⟨k,a⟩:=Z4 a;refine Wy l (b.gr j).srcC k fun _ _ _ _ m n=>go ?_;cases a;replace g:=(g.grow j).kpp m;exact ⟨rfl,_,_,_,rfl,g.fin (cm [(1,i)]),g.fo n⟩
def Zds:List Int→Int→Option Rc
  | [],a=>some (a,0)
  | b :: c,a=>Z2 (a≠0) (if (decide ((i64.wrap (aR 2147483647 a))<b))=true then (some (0,4)) else ((Zds c) (i64.wrap (a * b))))
def Znb (kk_L1:(Bool→Option Rc)) (a:Bool):Option Rc:=
  kk_L1 a
def Zb7 (a:List Int):List Int→Bool→Option Rc
  | [],b=>if b=true then (some (0,0)) else (Zds a 1)
  | c :: d,b=>if (decide (c<0))=true then (some (0,3)) else (if b=true then (Znb (Zb7 a d) true) else (Znb (Zb7 a d) (decide (c=0))))
def Zna (a:List Int):Option Rc:=
  Zb7 a a false
theorem Z6u {l:Nat} {o:Option Addr} {col:Ze} {f:World} {b:R2} {r:Rc} (a:Zna b=some r) (g:Sl rI col f o l b):
    Calls prog 81 #[.slice o b.length l] f (fun e w'=>e= .returned (.tuple #[.int .i64 r.1,.int .i64 r.2])∧Below f.heap.size f w'):=by
 refine Zis 2 3 (m:=40) (args:=[.slice o b.length l]) func81 rfl rfl rfl rfl rfl ?_;rw [Zna.eq_1] at a;have d:=St.start col f;refine go ?_;refine Zt [0,10,11,1000000] (fun u m D=>∃ F w y s,u=s.length∧b.drop w=s∧Zb7 b s y=some r∧St f (Zh col) F D∧[12,4].map m=[.int .i64 w,.bool y]) b.length ⟨_,0,_,_,rfl,rfl,a,d,rfl⟩ ?_;clear a;intro u m D A;obtain ⟨F,w,y,s,p,i,a,d,k⟩:=A;subst p;refine .lL [12,4] k ?_;replace g:=g.k0
 cases s with
 | nil=>
  have h:¬ ((w:Int)<(b.length:Int)):=by have:=aJ.1 i;omega
  have c:=decide_eq_false h;rw [Zb7.eq_1] at a;refine go ?_;refine Ym (congrArg Value.bool c)<|go ?_;refine Zm a (fun j a=>go ?_) fun j a=>go ?_
  ·cases a;exact ⟨rfl,rfl,d.below⟩
  refine Zt [25,26,1000000] (fun u m E=>∃ G t v q,u=q.length∧b.drop t=q∧Zds q v=some r∧St f (Zh col) G E∧[27,7].map m=[.int .i64 t,.int .i64 v]) b.length ⟨_,0,1,_,rfl,rfl,a,d,rfl⟩ ?_;clear a;intro u m E A;obtain ⟨G,t,v,q,p,i,a,d,k⟩:=A;subst p;refine .lL [27,7] k ?_
  cases q with
  | nil=>
   have h:¬ ((t:Int)<(b.length:Int)):=by have:=aJ.1 i;omega
   have c:=decide_eq_false h;rw [Zds.eq_1] at a;refine go ?_;refine Ym (congrArg Value.bool c)<|go ?_;cases a;exact ⟨rfl,rfl,d.below⟩
  | cons Q L=>
   obtain ⟨n,N,O⟩:=Yt i;have h:(t:Int)<(b.length:Int):=by omega
   have c:=decide_eq_true h;rw [Zds.eq_2] at a;refine go ?_;refine Yn (congrArg Value.bool c)<|go ?_;refine lI n ((g.ks d).addr n)<|lW ((g.ks d).atInt n) ?_;refine go ?_;obtain ⟨J,a⟩:=Z4 a;refine lV (.int .i64 (i64.wrap (aR 2147483647 v))) (Vy 2147483647 v rfl rfl J)<|go ?_;refine Zm a (fun j a=>go ?_) fun j a=>go ?_
   ·cases a;exact ⟨rfl,rfl,d.below⟩
   exact ⟨L.length,by simp,rfl,⟨_,_,_,_,rfl,N,a,d,(Yz (congrArg (Value.int .i64) (Yv (aI O (g.ks d).1.1))) rfl)⟩⟩
 | cons P H=>
  obtain ⟨n,K,M⟩:=Yt i;have h:(w:Int)<(b.length:Int):=by omega
  have c:=decide_eq_true h;rw [Zb7.eq_2] at a;refine go ?_;refine Yn (congrArg Value.bool c)<|Xz<|Zx ?_;refine Wp.cutK [0,10,11,12,1000000] (fun m B=>∃ C x,Znb (Zb7 b H) x=some r∧St f (Zh col) C B∧[4].map m=[.bool x]) ?_ ?_
  ·intro m B I;obtain ⟨C,x,a,d,k⟩:=I;rw [Znb.eq_1] at a;refine .lL [4] k<|go ?_;exact ⟨H.length,by simp,rfl,⟨_,_,_,_,rfl,K,a,d,(Yz (congrArg (Value.int .i64) (Yv (aI M (g.ks d).1.1))) rfl)⟩⟩
  refine go ?_;refine lI n ((g.ks d).addr n)<|lW ((g.ks d).atInt n) ?_;refine go ?_;refine Zm a (fun j a=>go ?_) fun j a=>go ?_
  ·cases a;exact ⟨rfl,rfl,d.below⟩
  refine Ye a (fun z a=>go ?_) fun z a=>go ?_
  ·refine lV (.bool true) (X0 (congrArg Value.bool z) rfl)<|go ?_;exact ⟨rfl,_,_,a,d,rfl⟩
  refine lV (.bool (decide (P=0))) (X7 (congrArg Value.bool z) rfl)<|go ?_;exact ⟨rfl,_,_,a,d,rfl⟩
def Zfm (N:Nat) (b:List Int):Nat→Int→Option (List Rc)
  | 0,_=>none
  | c+1,a=>if (decide (0≤a))=true then ((Zk b a).bind fun d=>((Zfm N b c) (i64.wrap (a - 1))).bind fun e=>some ((a,d) :: e)) else (some [])
def Zpv (N:Nat) (a:List Int):Option (List Rc):=
  Zfm N a N (i64.wrap ((a.length:Int) - 1))
theorem Z6x (N:Nat) (col:Ze) (l:World) (i:Nat) (f:Option Addr) (a:Nat) (b:List Int) (e:Sl rI col l f a b) (d:Zd 36 450 col l i #[.slice f b.length a]) (r:List Rc) (c:Zpv N b=some r):
    Zn2 prog 1 175 [.pointer (some ⟨i,0,none⟩)] (fun (y:Int×Int) (col:Ze) (w:World) (args:List Value)=>args=[.int .i64 y.1,.int .i64 y.2]) r col l:=by
 intro C G _ _ _ z h;refine Zf8 (m:=19) (args:=[.func (.yield C) #[] #[],.pointer (some ⟨i,0,none⟩)]) func175 rfl rfl rfl rfl ?_;rw [Zpv.eq_1] at c;refine go ?_;refine lW d.at1<|go ?_;refine Zt [0,1,1000000] (fun A B m=>∃ n r o k,k=A∧Zfm N b k o=some r∧G r n m∧Sl rI n m f a b∧Zd 36 450 n m i #[.slice f b.length a]∧[3].map B=[.int .i64 o]) N ⟨_,_,_,_,rfl,c,h,e,d,rfl⟩ ?_;clear c;intro A B m E;obtain ⟨n,r,o,k,v,c,h,e,d,x⟩:=E;subst v;refine .lL [3] x ?_
 cases k with
 | zero=>rw [Zfm.eq_1] at c;cases c
 | succ k=>
  rw [Zfm.eq_2] at c;refine go ?_;refine Zm c (fun s c=>go ?_) fun s c=>go ?_
  ·refine lM (.func (.yield C) #[] #[])<|Xk rfl<|lW d.at1<|Xk rfl ?_;obtain ⟨F,p,c⟩:=bZ c;refine lI p (e.addr p)<|lW (e.atInt p) ?_;obtain ⟨_,g,D⟩:=bZ c;cases D;have c:=g;refine ly2 rfl rfl rfl rfl (z _ _ _ _ [.int .i64 o,.int .i64 F] h rfl) ?_;rintro _ t ⟨u,j,⟨rfl,q⟩ | ⟨rfl,hX⟩⟩
   ·refine ⟨_,rfl,?_⟩;have h:=q;refine go ?_;refine Ym rfl<|go ?_;replace e:=e.kpp j;replace d:=d.kpp j;exact ⟨k,by omega,rfl,⟨_,_,_,_,rfl,c,h,e,d,rfl⟩⟩
   refine ⟨_,rfl,?_⟩;have h:=hX;refine go ?_;refine Yn rfl<|W1 ?_;exact ⟨rfl,⟨_,rfl⟩,_,.inr h⟩
  cases c;exact ⟨rfl,⟨_,rfl⟩,_,.inl h⟩
def Zpu (N:Nat) (a:List Int):Option (List Rc):=
  Zpv N a
theorem Z6w {N c:Nat} {i:Option Addr} {col:Ze} {h:World} {a:R2} {r:(List Rc)} (m:Zpu N a=some r) (p:Sl rI col h i c a):
    Calls prog 138 #[.slice i a.length c] h (fun e w'=>∃ (col':Ze) (d:Value),e= .returned (d)∧Zj col h col' w'∧It prog 1 d (fun (y:Int×Int) (col:Ze) (w:World) (args:List Value)=>args=[.int .i64 y.1,.int .i64 y.2]) r q0 col' w'):=by
 refine Xc 2 (m:=4) func138 rfl rfl rfl rfl rfl ?_;rw [Zpu.eq_1] at m;have j:=St.start col h;refine go ?_;refine Ziz (col:=(Zh col)) (v:=(.slice i a.length c)) 1 rfl rfl ?_;intro l t s u n;replace n:Zd 36 1 s t l #[.slice i a.length c]:=n;refine lv (v:=_) rfl rfl (T0 rfl)<|go ?_;refine lV (.func (.func 175) #[] #[.pointer (some ⟨l,0,none⟩)]) (Xav rfl)<|lA (.func (.func 175) #[] #[.pointer (some ⟨l,0,none⟩)])<|go ?_;replace j:=j.grow u;have v:=j.finBox (G:=(fun g=>bif aP g 1 then 450 else 0)) n (by decide) (by decide) (show (fun g=>bif aP g 1 then 450 else 0) 1=450 from rfl);have k:=j.finSl (g:=(fun g=>bif aP g 1 then 450 else 0)) rfl (p.k0.ks j);refine ⟨rfl,U4 h.heap.size col s (fun g=>bif aP g 1 then 450 else 0),_,rfl,j.fin (fun g=>bif aP g 1 then 450 else 0),175,[.pointer (some ⟨l,0,none⟩)],rfl,call175,?_⟩;intro b o q f;exact Z6x N b o l i c a (k.itk q f rfl) (v.itk q f rfl) r m
def Zfl:List Rc→Int→R2→Option R2
  | [],c,b=>some b
  | a :: d,c,b=>Z2 (a.2≠0) ((Zk b a.1).bind fun f=>(some (b.set (aA a.1) (bK c a.2))).bind fun e=>Z2 (a.2≠0) ((Zfl d) (i64.wrap (aR c a.2)) e))
def Znc (N:Nat) (a:List Int) (b:Int):Option R2:=
  if (decide ((a.length:Int)=0))=true then (some ([]:List Int)) else (Z2 (a.length * 8≤281474976710656∧a.length≤maxLen) ((Zpu N a).bind fun c=>Zfl c b (aD a.length (0:Int))))
theorem Z6v {N S:Nat} {G:Option Addr} {col:Ze} {l:World} {j:R2} {s:Int} {r:R2} (z:Nat) (b:Znc N j s=some r) (u:Sl rI col l G S j):
    Calls prog 93 #[.slice G j.length S,.int .i64 s] l (Vr .i64 3 z col l r):=by
 refine Z69 4 (mc:=499) (m:=28) (args:=[.slice G j.length S,.int .i64 s]) func93 rfl rfl rfl rfl rfl ?_;rw [Znc.eq_1] at b;have e:=St.start col l;have a:Wh 499 (Zh col) l []:=.nil;refine go ?_;refine Ziz (col:=(Zh col)) (v:=(.int .i64 s)) 1 rfl rfl ?_;intro X E T w g;replace g:Zd 3 1 T E X #[.int .i64 s]:=g;refine go ?_;replace a:=a.gr w;replace e:=e.grow w;refine Zm b (fun Y b=>go ?_) fun Y b=>go ?_
 ·cases b;refine ⟨_,[],rfl,a,?_⟩;intro _ c d;replace e:=e.kp c d;exact ⟨U4 l.heap.size col T (fun A=>0),none,0,rfl,e.fin (fun A=>0),Zb.nil⟩
 obtain ⟨x,b⟩:=Z4 b;refine Sc (col:=T) (w:=E) (r:=rI) (n:=j.length) (x0:=0) 2 rfl underlying36 Tryz.t3 rfl rfl rfl rfl rfl rfl rfl x.1 x.2 (Zcb .i64 0) fun V _ Z U H=>Zcj (col:=Z) (v:=(nI)) 3 rfl zeroValue36 ?_;intro P f y M Q;replace Q:Zd 36 3 y f P #[(nI)]:=Q;refine Ql (v:=(.slice V ((aD j.length (0:Int)).length) j.length)) Q sizeOf36 rfl rfl (Rs rfl rfl) rfl rfl ?_;intro h L o f;replace f:Zd 36 3 y h P #[.slice V ((aD j.length (0:Int)).length) j.length]:=f;refine go ?_;obtain ⟨p,i,b⟩:=bZ b;replace e:=((e.grow U).grow M).kp L o;refine Zi (Z6w i (u.k0.ks e)) ?_;rintro _ av ⟨aj,aw,rfl,B,ak⟩;refine ⟨_,rfl,go ?_⟩;replace g:=(((g.gr U).gr M).kp L).gr B;replace a:=(((a.gr U).gr M).kp L).gr B;replace f:=f.gr B;replace e:=e.grow B;refine Zut (psl:=[16,17]) (arr:=(fun (v:Int×Int) (col:Ze) (I:World) (k:List Value)=>k=[.int .i64 v.1,.int .i64 v.2])) (ys:=p) (col:=aj) 498 rfl ak rfl a rfl rfl (by rintro _ _ _ _ rfl;rfl) (fun t h x=>∃ (i:Int) (w:Option Addr) (v:Nat) (u:List Int),Zfl t i u=some r∧St l (Zh col) h x∧Zd 3 1 h x X #[.int .i64 i]∧Zb rI 3 2 h x w v u∧Zd 36 3 h x P #[.slice w u.length v]) (fun _ _ _=>False) ?_ ?_ ⟨s,V,j.length,(aD j.length (0:Int)),b,e,g,((H.gr M).kp L).gr B,f⟩ ?_ ?_ ?_
 ·intro t h x _ _ H y;obtain ⟨i,w,v,u,b,e,g,p,f⟩:=H;exact ⟨i,w,v,u,b,e.kpp y rfl rfl,g.kpp y rfl,p.kpp y rfl rfl,f.kpp y rfl⟩
 ·intro _ _ _ _ _ W _;exact W
 ·intro _ _ _ o _ h x k H d a q;obtain ⟨i,w,v,u,b,e,g,p,f⟩:=H;rw [Zfl.eq_2] at b;have n:=Zu.refl (pC 1) h x;subst q;refine go ?_;refine ⟨_,d,?_⟩;intro _ _ E G m;have d:=m;refine go ?_;refine Y8 (col:=h) [(0,0),(1,1),(2,0),(3,1),(4,1),(5,1),(6,2)] (by kernel_rfl) (by kernel_rfl) ?_;replace f:=f.kp E;refine xW (fun _ c=>f.at1.gr (c.bl h)) ?_;refine xu rfl rfl (fun _=>Yd rfl) ?_;replace g:=g.kp E;refine xW (fun _ c=>g.at1.gr (c.bl h)) ?_;refine xu rfl rfl (fun _=>Yd rfl) ?_;obtain ⟨t,b⟩:=Z4 b;refine xu (v:=(.int .i64 (bK i o.2))) rfl rfl (fun _=>S9 i o.2 rfl rfl t) ?_;obtain ⟨_,K,b⟩:=bZ b;replace p:=p.kp E;refine xu rfl rfl (fun _=>X8 underlying36 sizeOf3 rfl rfl (Z0 K).1 (Z0 K).2.1 (p.addr K)) ?_;refine xe rfl rfl ?_;intro _ F;have c:=F.bl h;obtain ⟨O,J,b⟩:=bZ b;have J:O=u.set (aA o.1) (bK i o.2):=(Option.some.inj J).symm;replace p:=p.gr c;refine Wb (x1:=bK i o.2) p K ?_;intro m D C F;rw [← J] at F;replace f:=(f.gr c).kp D;replace f:Zd 36 3 h m P #[.slice w O.length v]:=by rw [← (show u.length=O.length by rw [J,nS])];exact f
  refine Zl<|xk h<|Y4 ?_;replace a:=((a.kp E).gr c).kp D;replace n:=((n.kp E G rfl).gr c).kp D C rfl;replace e:=((e.kp E G).grow c).kp D C;replace g:=(g.gr c).kp D;replace d:=(d.gr c).kp D;intro _ c;replace c:=c.bl h;refine W0 ?_;replace g:=g.gr c;refine lW g.at1<|Xk rfl ?_;obtain ⟨q,b⟩:=Z4 b;refine lV (.int .i64 (i64.wrap (aR i o.2))) (Vy i o.2 rfl rfl q)<|Ql (v:=(.int .i64 (i64.wrap (aR i o.2)))) g sizeOf3 rfl rfl (Rs rfl rfl) rfl rfl ?_;intro k C D R;replace R:Zd 3 1 h k X #[.int .i64 (i64.wrap (aR i o.2))]:=R;refine Zl ?_;replace f:=(f.gr c).kp C;replace a:=(a.gr c).kp C;replace e:=(e.grow c).kp C D;exact ⟨_,(n.gr c).kp C D rfl,⟨(i64.wrap (aR i o.2)),w,v,O,b,e,R,(F.gr c).kp C,f⟩,(d.gr c).kp C,a⟩
 ·intro n h x H a;obtain ⟨i,w,v,u,b,e,g,p,f⟩:=H;rw [Zfl.eq_1] at b;refine go ?_;refine lW f.at1<|go ?_;cases b;refine ⟨_,(n :: []),rfl,a,?_⟩;intro _ I a;replace e:=e.kp I a;exact ⟨U4 l.heap.size col h (fun A=>bif aP A 2 then z else 0),w,v,rfl,e.fin (fun A=>bif aP A 2 then z else 0),e.finOwn (g:=(fun A=>bif aP A 2 then z else 0)) rfl (p.kp I) (by decide) (by decide) rfl⟩
 intro _ _ _ _ W;exact W.elim
def Zfk (N:Nat) (b:Int) (c:List Int):Nat→Int→Option (List R8)
  | 0,_=>none
  | d+1,a=>if (decide (a<b))=true then ((Znc N c a).bind fun e=>((Zfk N b c d) (i64.wrap (a+1))).bind fun f=>some ((a,e) :: f)) else (some [])
def Zpt (N:Nat) (a:Int) (b:List Int):Option (List R8):=
  Zfk N a b N 0
theorem Z6t (N k:Nat) (col:Ze) (n:World) (q:Nat) (j:Int) (c:Zd 3 450 col n q #[.int .i64 j]) (p:Nat) (h:Option Addr) (e:Nat) (d:List Int) (b:Zb rI 3 450 col n h e d) (a:Zd 36 450 col n p #[.slice h d.length e]) (r:List R8) (f:Zpt N j d=some r):
    Zn2 prog 1 92 [.pointer (some ⟨q,0,none⟩),.pointer (some ⟨p,0,none⟩)] (fun (y:Int×List Int) (col:Ze) (w:World) (args:List Value)=>∃ x I,args=[.int .i64 y.1,.slice x y.2.length I]∧Zb rI 3 k col w x I y.2) r col n:=by
 intro O T _ l _ H i;refine Zf8 (m:=17) (args:=[.func (.yield O) #[] #[],.pointer (some ⟨q,0,none⟩),.pointer (some ⟨p,0,none⟩)]) func92 rfl rfl rfl rfl ?_;rw [Zpt.eq_1] at f;refine go ?_;refine lW c.at1<|go ?_;refine Zt [0,2,5,1000000] (fun J K t=>∃ m r z u,u=J∧Zfk N j d u z=some r∧T r m t∧Zb rI 3 450 m t h e d∧Zd 36 450 m t p #[.slice h d.length e]∧Zd 3 450 m t q #[.int .i64 j]∧[6].map K=[.int .i64 z]) N ⟨_,_,0,_,rfl,f,i,b,a,c,rfl⟩ ?_;clear f;intro J K t R;obtain ⟨m,r,z,u,E,f,i,b,a,c,D⟩:=R;subst E;refine .lL [6] D ?_
 cases u with
 | zero=>rw [Zfk.eq_1] at f;cases f
 | succ u=>
  rw [Zfk.eq_2] at f;refine go ?_;refine Zm f (fun C f=>go ?_) fun C f=>go ?_
  ·refine lM (.func (.yield O) #[] #[])<|Xk rfl<|lW a.at1<|Xk rfl ?_;obtain ⟨U,Q,f⟩:=bZ f;refine Zi (Z6v 501 Q (b.toSlF (Zg.int .i64))) fun _ _ ⟨S,L,M,A,s,v⟩=>⟨_,A,?_⟩;replace v:=v.thaw (Z1 .i64) s ((Fz.refl (col:=m)).froz 450);replace s:=s.thawR (col:=m);generalize Xa t.heap.size m S=V at *;replace b:=b.gr s;replace a:=a.gr s;replace c:=c.gr s;replace i:=l _ _ _ _ _ i s.toP;replace b:=b.recol 501 k (by decide);replace v:=v.recolSelf k (by decide);replace a:=a.recol 501 k (by decide);replace c:=c.recol 501 k (by decide);replace i:=l _ _ _ _ _ i ((Zu.refl _ _ _).recol 501 k rfl);obtain ⟨_,g,P⟩:=bZ f;cases P;have f:=g;refine ly2 rfl rfl rfl rfl (H _ _ _ _ [.int .i64 z,.slice L U.length M] i ⟨L,M,rfl,v⟩) ?_;rintro _ F ⟨G,o,⟨rfl,B⟩ | ⟨rfl,hX⟩⟩
   ·refine ⟨_,rfl,?_⟩;have i:=B;refine go ?_;refine Ym rfl<|go ?_;replace b:=b.kpp o;replace a:=a.kpp o;replace c:=c.kpp o;exact ⟨u,by omega,rfl,⟨_,_,_,_,rfl,f,i,b,a,c,rfl⟩⟩
   refine ⟨_,rfl,?_⟩;have i:=hX;refine go ?_;refine Yn rfl<|W1 ?_;exact ⟨rfl,⟨_,rfl⟩,_,.inr i⟩
  cases f;exact ⟨rfl,⟨_,rfl⟩,_,.inl i⟩
def Zm9 (N:Nat) (b:List Int):Option (List R8):=
  (Za5 b).bind fun a=>(Zna a).bind fun c=>Zpt N c.1 a
theorem Z6s {N K:Nat} {q:Option Addr} {col:Ze} {g:World} {l:R2} {r:(List R8)} (u:Nat) (c:Zm9 N l=some r) (I:Sl rI col g q K l):
    Calls prog 40 #[.slice q l.length K] g (fun e w'=>∃ (col':Ze) (f:Value),e= .returned (f)∧Zj col g col' w'∧It prog 1 f (fun (y:Int×List Int) (col:Ze) (w:World) (args:List Value)=>∃ p J,args=[.int .i64 y.1,.slice p y.2.length J]∧Zb rI 3 u col w p J y.2) r q1 col' w'):=by
 refine Xc 2 (m:=14) func40 rfl rfl rfl rfl rfl ?_;rw [Zm9.eq_1] at c;have i:=St.start col g;refine go ?_;refine lv (v:=_) rfl rfl (T0 rfl)<|go ?_;obtain ⟨G,S,c⟩:=bZ c;refine Zi (Zos 1 S (I.k0.ks i)) fun _ _ ⟨T,E,F,n,Z,k⟩=>⟨_,n,?_⟩;refine Zcj (col:=T) (v:=(nI)) 2 rfl zeroValue36 ?_;intro m Q s M v;replace v:Zd 36 2 s Q m #[(nI)]:=v;refine Ql (v:=(.slice E G.length F)) v sizeOf36 rfl rfl (Rs rfl rfl) rfl rfl ?_;intro R L X t;replace t:Zd 36 2 s R m #[.slice E G.length F]:=t;refine go ?_;refine lW t.at1 ?_;obtain ⟨h,U,c⟩:=bZ c;replace k:=(k.gr M).kp L;refine Zi (Z6u U (k.toSlF (Zg.int .i64))) fun _ _ ⟨n,o⟩=>⟨_,n,?_⟩;replace o:=Rr s o;refine lM (.tuple #[.int .i64 h.1,.int .i64 h.2])<|lV (.int .i64 h.1) (Xt rfl rfl)<|lV (.int .i64 h.2) (Xt rfl rfl)<|Zcj (col:=s) (v:=(.int .i64 0)) 3 rfl zeroValue3 ?_;intro j O D C x;replace x:Zd 3 3 D O j #[.int .i64 0]:=x;refine Ql (v:=(.int .i64 h.1)) x sizeOf3 rfl rfl (Rs rfl rfl) rfl rfl ?_;intro P B V A;replace A:Zd 3 3 D P j #[.int .i64 h.1]:=A;refine go ?_;refine lV (.func (.func 92) #[] #[.pointer (some ⟨j,0,none⟩),.pointer (some ⟨m,0,none⟩)]) (Z0m rfl rfl)<|lA (.func (.func 92) #[] #[.pointer (some ⟨j,0,none⟩),.pointer (some ⟨m,0,none⟩)])<|go ?_;replace i:=(((((i.grow Z).grow M).kp L X).grow o).grow C).kp B V;have f:=i.finBox (G:=(fun a=>bif aP a 3 then 450 else bif aP a 2 then 450 else bif aP a 1 then 450 else 0)) A (by decide) (by decide) (show (fun a=>bif aP a 3 then 450 else bif aP a 2 then 450 else bif aP a 1 then 450 else 0) 3=450 from rfl);have Y:=i.finBox (G:=(fun a=>bif aP a 3 then 450 else bif aP a 2 then 450 else bif aP a 1 then 450 else 0)) (((t.gr o).gr C).kp B) (by decide) (by decide) (show (fun a=>bif aP a 3 then 450 else bif aP a 2 then 450 else bif aP a 1 then 450 else 0) 2=450 from rfl);replace k:=((k.gr o).gr C).kp B
 have W:=i.finOwn (g:=(fun a=>bif aP a 3 then 450 else bif aP a 2 then 450 else bif aP a 1 then 450 else 0)) rfl k (by decide) (by decide) (show (fun a=>bif aP a 3 then 450 else bif aP a 2 then 450 else bif aP a 1 then 450 else 0) 1=450 from rfl);refine ⟨rfl,U4 g.heap.size col D (fun a=>bif aP a 3 then 450 else bif aP a 2 then 450 else bif aP a 1 then 450 else 0),_,rfl,i.fin (fun a=>bif aP a 3 then 450 else bif aP a 2 then 450 else bif aP a 1 then 450 else 0),92,[.pointer (some ⟨j,0,none⟩),.pointer (some ⟨m,0,none⟩)],rfl,call92,?_⟩;intro d H z b;exact Z6t N u d H j h.1 (f.itk z b rfl) m E F G (W.itk z b rfl (Z1 .i64)) (Y.itk z b rfl) r c
def Xi:List Nat→Nat
 | []=>1
 | s :: ss=>s * Xi ss
def Wa:List Nat→Nat→List Int
 | [],_=>[]
 | s :: ss,a=>((a / Xi ss:Nat):Int) :: Wa ss (a % Xi ss)
theorem Ztg:∀ ss:List Nat,(∀ s ∈ ss,0<s)→0<Xi ss
 | [],_=>by rw [Xi];decide
 | s :: ss,h=>Nat.mul_pos (h s aO) (Ztg ss fun x a=>h x (aN _ a))
theorem Zoz:∀ (ss:List Nat) (a:Nat),(Wa ss a).length=ss.length
 | [],_=>rfl
 | s :: ss,a=>by rw [Wa,nC,nC,Zoz ss]
def Yc (ss:List Nat):List Int:=ss.map fun s:Nat=>(s:Int)
theorem Zou {l:List Int} (h:l.length≤1099511627776):Za5 l=some l:=by
 rw [Za5,Z7 (by simp only [nN,maxLen];omega),bF]
theorem Z2c:∀ (ss:List Nat) (c:Nat),0<c→(∀ s ∈ ss,0<s)→c * Xi ss≤65536→Zds (Yc ss) (c:Int)=some (((c * Xi ss:Nat):Int),0)
 | [],c,_,_,_=>by rw [Yc,dD,Zds.eq_1,Xi,Nat.mul_one]
 | s :: ss,c,d,a,f=>by
  have g:=Ztg ss fun x b=>a x (aN _ b)
  have i:=a s aO
  rw [Xi,← Nat.mul_assoc] at f ⊢
  have k:c * s≤c * s * Xi ss:=dX _ g
  have e:aR 2147483647 (c:Int)=((2147483647 / c:Nat):Int):=rfl
  have l:s≤2147483647 / c:=by
   rw [Nat.le_div_iff_mul_le d,bS];omega
  have m:2147483647 / c≤2147483647:=cJ _ _
  have j:(c:Int) * (s:Int)=((c * s:Nat):Int):=(bN c s).symm
  rw [Yc,bJ,Zds.eq_2,Z7 (by omega),e,Zv (x:=((2147483647 / c:Nat):Int)) (by omega),if_neg (dF (by omega)),j,Zv (by omega)]
  exact Z2c ss (c * s) (Nat.mul_pos d i) (fun x b=>a x (aN _ b)) f
theorem Z2b (p:List Int):∀ (ss:List Nat),(∀ s ∈ ss,0<s)→Zb7 p (Yc ss) false=Zds p 1
 | [],_=>by rw [Yc,dD,Zb7.eq_1,if_neg (by decide)]
 | s :: ss,a=>by
  have c:=a s aO
  rw [Yc,bJ,Zb7.eq_2,if_neg (dF (by omega)),if_neg (by decide),Znb,decide_eq_false (by omega)]
  exact Z2b p ss fun x b=>a x (aN _ b)
theorem Xbu {ss:List Nat} (hs:∀ s ∈ ss,0<s) (hb:Xi ss≤65536):Zna (Yc ss)=some ((Xi ss:Int),0):=by
 have:=Z2c ss 1 (by decide) hs (by rw [aV];exact hb)
 rw [Zna,Z2b _ ss hs,show (1:Int)=((1:Nat):Int) from rfl,this,aV]
def Ziq (ss:List Nat):Nat→List Rc
 | 0=>[]
 | k+1=>((k:Int),((ss.getD k 0:Nat):Int)) :: Ziq ss k
theorem Xcm {ss:List Nat} {k:Nat} (h:k<ss.length):Zk (Yc ss) (k:Int)=some ((ss.getD k 0:Nat):Int):=by
 rw [Zcf,Yc,cQ,aL h,aE,aL h];rfl
theorem Z2a (N:Nat) (ss:List Nat) (hl:ss.length≤1099511627776):∀ (f k:Nat),k≤ss.length→k<f→Zfm N (Yc ss) f ((k:Int) - 1)=some (Ziq ss k)
 | 0,k,_,h=>by omega
 | f+1,0,a,b=>by rw [Zfm.eq_2,if_neg (by decide)];rfl
 | f+1,k+1,a,b=>by
  rw [Zfm.eq_2,show ((k+1:Nat):Int) - 1=(k:Int) by omega,if_pos (dT (by omega)),Xcm (by omega),oB,Zv (by omega),Z2a N ss hl f k (by omega) (by omega),oB,Ziq]
theorem Z2d (ss:List Nat) (hs:∀ s ∈ ss,0<s) (a:Nat) (ha:a<4611686018427387904):∀ k,k≤ss.length→Zfl (Ziq ss k) ((a / Xi (ss.drop k):Nat):Int) (aD k 0++Wa (ss.drop k) (a % Xi (ss.drop k)))=some (Wa ss (a % Xi ss))
 | 0,_=>by rw [Ziq,Zfl.eq_1,aM];rfl
 | k+1,l=>by
  have b:k<ss.length:=by omega
  have c:ss.drop k=ss.getD k 0 :: ss.drop (k+1):=by
   rw [aF b,aE,aL b];rfl
  have d:=Z2d ss hs a ha k (by omega)
  have m:0<ss.getD k 0:=by
   rw [aE,aL b]
   exact hs _ (aB b)
  rw [c,Xi,Wa,Nat.mod_mul_left_mod,bS,Nat.mod_mul_right_div_self,← Nat.div_div_eq_div_mul] at d
  have j:=cJ a (Xi (ss.drop (k+1)))
  generalize a / Xi (ss.drop (k+1))=q at *
  generalize Wa (ss.drop (k+1)) (a % Xi (ss.drop (k+1)))=D at *
  have e:bK (q:Int) ((ss.getD k 0:Nat):Int)=((q % ss.getD k 0:Nat):Int):=rfl
  have f:aR (q:Int) ((ss.getD k 0:Nat):Int)=((q / ss.getD k 0:Nat):Int):=rfl
  have n:q / ss.getD k 0≤q:=cJ _ _
  have g:(aD (k+1) (0:Int)++D).set k ((q % ss.getD k 0:Nat):Int)=aD k 0++((q % ss.getD k 0:Nat):Int) :: D:=by
   rw [List.replicate_succ',bC,eE (i:=k) _ (by rw [aS];exact aX _),aS,eX];rfl
  generalize q / ss.getD k 0=z at *
  rw [Ziq,Zfl.eq_2,Z7 (by simp only;omega)]
  dsimp only
  rw [Zs (by rw [nA,aS];omega),oB,e,f,aC,g,oB,Z7 (by omega),Zv (by omega)]
  exact d
theorem Z7s {N:Nat} {ss:List Nat} (hs:∀ s ∈ ss,0<s) (hl:ss.length≤1048576) (hN:1048577<N) {a:Nat} (ha:a<Xi ss) (hb:Xi ss≤65536):Znc N (Yc ss) (a:Int)=some (Wa ss a):=by
 have b:(Yc ss).length=ss.length:=by rw [Yc,aH]
 rw [Znc,b]
 by_cases h0:ss.length=0
 ·have:ss=[]:=List.eq_nil_of_length_eq_zero h0
  rw [if_pos (dT (by omega)),this,Wa]
 ·have c:=Z2a N ss (by omega) N ss.length (aX _) (by omega)
  have d:=Z2d ss hs a (by omega) ss.length (aX _)
  rw [List.drop_length,Xi,Nat.div_one,Wa,cV,Nat.mod_eq_of_lt ha] at d
  rw [if_neg (dF (by omega)),Z7 (by simp only [maxLen];omega),Zpu,Zpv,b,Zv (by omega),c,oB]
  exact d
def Zd8 (ss:List Nat):Nat→Nat→List R8
 | _,0=>[]
 | k,m+1=>((k:Int),Wa ss k) :: Zd8 ss (k+1) m
theorem Z0x {N:Nat} {ss:List Nat} (hs:∀ s ∈ ss,0<s) (hl:ss.length≤1048576) (hN:1048577<N) (hb:Xi ss≤65536):∀ (m k f:Nat),k+m=Xi ss→m<f→Zfk N (Xi ss:Int) (Yc ss) f (k:Int)=some (Zd8 ss k m)
 | m,k,0,_,h=>by omega
 | 0,k,f+1,a,b=>by rw [Zfk.eq_2,if_neg (dF (by omega))];rfl
 | m+1,k,f+1,a,b=>by
  rw [Zfk.eq_2,if_pos (dT (by omega)),Z7s hs hl hN (by omega) hb,oB,wS (by omega),Z0x hs hl hN hb m (k+1) f (by omega) (by omega),oB,Zd8]
theorem Xa6 {N:Nat} {ss:List Nat} (hs:∀ s ∈ ss,0<s) (hl:ss.length≤1048576) (hN:1048577<N) (hb:Xi ss≤65536):Zm9 N (Yc ss)=some (Zd8 ss 0 (Xi ss)):=by
 have a:(Yc ss).length=ss.length:=by rw [Yc,aH]
 rw [Zm9,Zou (by omega),oB,Xbu hs hb,oB,Zpt]
 exact Z0x hs hl hN hb (Xi ss) 0 N (by omega) (by omega)
theorem Z8d:Wt prog 9 1 16:=⟨Tryz.t9,_,rfl,rfl,rfl,rfl,rfl⟩
def Zh2 (a:List ByteArray):Option R3:=
  Z2 ((([]:List ByteArray).length+a.length) * 16≤140737488355328∧([]:List ByteArray).length+a.length≤maxLen) (some (([]:List ByteArray)++a))
theorem Zv3 {f:Nat} {i:Option Addr} {col:Ze} {h:World} {c r:R3} (l:Nat) (a:Zh2 c=some r) (b:Sl Za.str col h i f c):
    Calls prog 91 #[.slice i c.length f] h (fun e w'=>∃ (col':Ze) (g:Option Addr) (d:Nat),e= .returned ((.slice g r.length d))∧Zj col h col' w'∧Zb Za.str 9 l col' w' g d r):=by
 refine Xc 2 (m:=8) func91 rfl rfl rfl rfl rfl ?_;rw [Zh2.eq_1] at a;have j:=St.start col h;refine go ?_;replace b:=b.k0;rcases Zs5 b with k | k
 ·replace a:some ([]:List ByteArray)=some r:=by have b:=k.2;subst b;simpa [Z2,maxLen] using a
  refine lv (v:=.bool i.isNone) rfl rfl (Zlb underlying22 rfl)<|.ld (d:=4) (v:=.bool true) (congrArg Value.bool k.1)<|Zl<|Yn rfl<|go ?_;cases a;exact ⟨rfl,_,none,0,rfl,j.fin (cm []),Zb.nil⟩
 refine lv (v:=.bool i.isNone) rfl rfl (Zlb underlying22 rfl)<|.ld (d:=4) (v:=.bool false) (congrArg Value.bool k)<|Zl<|Ym rfl<|go ?_;refine Zsx (col:=(Zh col)) (r:=Za.str) 1 rfl underlying22 Z8d rfl fun _ _ _ m o=>Y3 rfl ?_;obtain ⟨n,a⟩:=Z4 a;refine Wy o (b.gr m).srcC n fun _ _ _ _ p q=>go ?_;cases a;replace j:=(j.grow m).kpp p;exact ⟨rfl,_,_,_,rfl,j.fin (cm [(1,l)]),j.fo q⟩
/-! j network whose lists are its Zno -/
def Yy (x:QV):QV:=Zn (Zr x)
def Wk (n:Zq):Zq:=(n.1,n.2.1,n.2.2.1,n.2.2.2.1,n.2.2.2.2.map (fX Yy))
theorem Zwg (x:QV):Zr (Yy x)=Zr x:=Y5 _
theorem Z7o (T:List (List QV)) (v:Nat):(T.map (fX Yy)).getD v []=(T.getD v []).map Yy:=by
 rw [aE,aE,cQ]
 cases T[v]? with
 | none=>rfl
 | some t=>rfl
section
variable {N W K:Nat} {n:Zq} (hf:X2 N n) (hs:W8 n W) (hr:Z3 N (8 * K+40)) (hWK:1025 * (W+2)+4≤K) (hN:2000000<N)
include hf hs hr hWK hN
def Zdv (n:Zq):List Nat:=n.2.2.1.map List.length
omit hs hr hWK hN in
theorem Xcn:∀ s ∈ Zdv n,0<s:=fun s h=>by
 obtain ⟨l,a,rfl⟩:=cY.1 h
 exact cD.2 (hf.ev.ne l a)
end
def Zjl (a:Nat) (kk_L2:(Nat→Option Int)) (b:Bool):Option Int:=
  if b=true then (some 71) else (kk_L2 (a+1))
def Zbx (b:R0) (kk_L1:(Option Int)):List Int→Nat→Option Int
  | [],a=>kk_L1
  | c :: d,a=>if (decide (c<(-1)))=true then (Zjl a (Zbx b kk_L1 d) true) else ((Zk b.2.2.1 (a:Int)).bind fun e=>Zjl a (Zbx b kk_L1 d) (decide ((e.length:Int)≤c)))
def Zbw (a:R0):List R2→Option Int
  | []=>some 0
  | b :: c=>if (!decide ((b.length:Int)=(a.2.1.length:Int)))=true then (some 71) else (Zbx a (Zbw a c) b 0)
def Qu (N:Nat) (a:R0) (c:R6):Option Int:=
  (Vx N (a.1,a.2.1,a.2.2.1,a.2.2.2.1,a.2.2.2.2)).bind fun b=>if (!decide (b=0))=true then (some b) else (Zbw a c)
theorem Z5k {N l o p s T:Nat} {t u v w L:Option Addr} {col:Ze} {e:World} {a:R0} {g:R6} {r:Int} (b:Qu N a g=some r) (q:Sl Za.str col e t l a.2.1) (x:Sl rV col e u o a.2.2.1) (n:Sl rP col e v p a.2.2.2.1) (k:Sl (Za.slice rQ) col e w s a.2.2.2.2) (m:Sl rP col e L T g):
    Calls prog 62 #[(.agg (Rq a t l u o v p w s)),.slice L g.length T] e (Wn e r):=by
 refine Xc 4 (m:=48) func62 rfl rfl rfl rfl rfl ?_;rw [Qu.eq_1] at b;have c:=St.start col e;refine go ?_;refine Xg (col:=(Zh col)) 1 rfl fun V _ j i f=>go ?_;refine lV _ (Z5 isAgg27 sizeOf27 f) ?_;obtain ⟨_,h,b⟩:=bZ b;replace x:=x.k0;replace c:=c.grow i;refine Zi (Zrx h (q.k0.ks c) (x.ks c) (n.k0.ks c) (k.k0.ks c)) fun _ _ ⟨W,G⟩=>⟨_,W,?_⟩;replace G:=Rr j G;refine go ?_;replace m:=m.k0;replace f:=f.gr G;replace c:=c.grow G;refine Zm b (fun n b=>go ?_) fun n b=>go ?_
 ·cases b;exact ⟨rfl,rfl,c.below⟩
 refine Zt [15,16,2,1000000] (fun F q P=>∃ Q E C,F=C.length∧g.drop E=C∧Zbw a C=some r∧St e (Zh col) Q P∧Zd 27 1 Q P V (Rq a t l u o v p w s)∧[17].map q=[.int .i64 E]) g.length ⟨_,0,_,rfl,rfl,b,c,f,rfl⟩ ?_;clear b;intro F q P S;obtain ⟨Q,E,C,B,i,b,c,f,j⟩:=S;subst B;refine .lL [17] j ?_
 cases C with
 | nil=>
  have h:¬ ((E:Int)<(g.length:Int)):=by have:=aJ.1 i;omega
  have d:=decide_eq_false h;rw [Zbw.eq_1] at b;refine go ?_;refine Ym (congrArg Value.bool d)<|go ?_;cases b;exact ⟨rfl,rfl,c.below⟩
 | cons A U=>
  obtain ⟨z,C,G⟩:=Yt i;have h:(E:Int)<(g.length:Int):=by omega
  have d:=decide_eq_true h;rw [Zbw.eq_2] at b;refine go ?_;refine Yn (congrArg Value.bool d)<|go ?_;refine lI z ((m.ks c).addr z) ?_;obtain ⟨_,Z,y⟩:=(m.ks c).atN z;obtain ⟨⟨L,M,rfl,k⟩,_⟩:=Z;refine lW y.one<|go ?_;refine Z9 f ?_;refine go ?_;refine Zm b (fun n b=>go ?_) fun n b=>go ?_
  ·cases b;exact ⟨rfl,rfl,c.below⟩
  refine Zt [15,16,17,2,27,28,1000000] (fun F q J=>∃ K y D,F=D.length∧A.drop y=D∧Zbx a (Zbw a U) D y=some r∧St e (Zh col) K J∧Zd 27 1 K J V (Rq a t l u o v p w s)∧Sl rI K J L M A∧[29].map q=[.int .i64 y]) A.length ⟨_,0,_,rfl,rfl,b,c,f,k,rfl⟩ ?_;clear b;intro F q J S;obtain ⟨K,y,D,B,i,b,c,f,k,j⟩:=S;subst B;refine .lL [29] j ?_
  cases D with
  | nil=>
   have h:¬ ((y:Int)<(A.length:Int)):=by have:=aJ.1 i;omega
   have d:=decide_eq_false h;rw [Zbx.eq_1] at b;refine go ?_;refine Ym (congrArg Value.bool d)<|go ?_;exact ⟨U.length,by simp,rfl,⟨_,_,_,rfl,C,b,c,f,(Yz (congrArg (Value.int .i64) (Yv (aI G (m.ks c).1.1))) rfl)⟩⟩
  | cons D E=>
   obtain ⟨z,m,B⟩:=Yt i;have h:(y:Int)<(A.length:Int):=by omega
   have d:=decide_eq_true h;rw [Zbx.eq_2] at b;refine go ?_;refine Yn (congrArg Value.bool d)<|go ?_;refine lI z (k.addr z)<|lW (k.atInt z)<|Y6 rfl<|Y6 rfl<|Zl<|Zx ?_;refine Wp.cutK [15,16,17,2,27,28,29,1000000] (fun q H=>∃ I O,Zjl y (Zbx a (Zbw a U) E) O=some r∧St e (Zh col) I H∧Zd 27 1 I H V (Rq a t l u o v p w s)∧Sl rI I H L M A∧[45].map q=[.bool O]) ?_ ?_
   ·intro q H X;obtain ⟨I,O,b,c,f,k,j⟩:=X;rw [Zjl.eq_1] at b;refine .lL [45] j ?_;refine Zm b (fun n b=>go ?_) fun n b=>go ?_
    ·cases b;exact ⟨rfl,rfl,c.below⟩
    exact ⟨E.length,by simp,rfl,⟨_,_,_,rfl,m,b,c,f,k,(Yz (congrArg (Value.int .i64) (Yv (aI B k.1.1))) rfl)⟩⟩
   refine go ?_;refine Ye b (fun R b=>go ?_) fun R b=>go ?_
   ·refine lV (.bool true) (X0 (congrArg Value.bool R) rfl)<|Zl ?_;exact ⟨rfl,_,_,b,c,f,k,rfl⟩
   refine Xy ⟨_,_,rfl⟩ ?_;refine go ?_;refine lW ((f.atN).nth (q:=2) rfl)<|go ?_;obtain ⟨e,M,b⟩:=bZ b;refine lI M ((x.ks c).addr M) ?_;refine go ?_;obtain ⟨_,Y,d⟩:=(x.ks c).atN M;obtain ⟨⟨_,_,rfl,_⟩,_⟩:=Y;refine lW d.one<|go ?_;refine lV (.bool (decide ((e.length:Int)≤D))) (X7 (congrArg Value.bool R) rfl)<|Zl ?_;exact ⟨rfl,_,_,b,c,f,k,rfl⟩
def Zjc (a:Nat) (kk_L2:(Nat→Option Int)) (b:Bool):Option Int:=
  if b=true then (some 71) else (kk_L2 (a+1))
def Zbq (b:R0) (kk_L1:(Option Int)):List Int→Nat→Option Int
  | [],a=>kk_L1
  | c :: d,a=>if (decide (c<(-1)))=true then (Zjc a (Zbq b kk_L1 d) true) else ((Zk b.2.2.1 (a:Int)).bind fun e=>Zjc a (Zbq b kk_L1 d) (decide ((e.length:Int)≤c)))
def Zbp (a:R0):List R2→Option Int
  | []=>some 0
  | b :: c=>if (!decide ((b.length:Int)=(a.2.1.length:Int)))=true then (some 71) else (Zbq a (Zbp a c) b 0)
def Zgg (N:Nat) (a:R0) (c:R6):Option Int:=
  (Vx N (a.1,a.2.1,a.2.2.1,a.2.2.2.1,a.2.2.2.2)).bind fun b=>if (!decide (b=0))=true then (some b) else (Zbp a c)
theorem Z45 {N l o p s T:Nat} {t u v w L:Option Addr} {col:Ze} {e:World} {a:R0} {g:R6} {r:Int} (b:Zgg N a g=some r) (q:Sl Za.str col e t l a.2.1) (x:Sl rV col e u o a.2.2.1) (n:Sl rP col e v p a.2.2.2.1) (k:Sl (Za.slice rQ) col e w s a.2.2.2.2) (m:Sl rP col e L T g):
    Calls prog 114 #[(.agg (Rq a t l u o v p w s)),.slice L g.length T] e (Wn e r):=by
 refine Xc 4 (m:=48) func114 rfl rfl rfl rfl rfl ?_;rw [Zgg.eq_1] at b;have c:=St.start col e;refine go ?_;refine Xg (col:=(Zh col)) 1 rfl fun V _ j i f=>go ?_;refine lV _ (Z5 isAgg27 sizeOf27 f) ?_;obtain ⟨_,h,b⟩:=bZ b;replace x:=x.k0;replace c:=c.grow i;refine Zi (Zrx h (q.k0.ks c) (x.ks c) (n.k0.ks c) (k.k0.ks c)) fun _ _ ⟨W,G⟩=>⟨_,W,?_⟩;replace G:=Rr j G;refine go ?_;replace m:=m.k0;replace f:=f.gr G;replace c:=c.grow G;refine Zm b (fun n b=>go ?_) fun n b=>go ?_
 ·cases b;exact ⟨rfl,rfl,c.below⟩
 refine Zt [15,16,2,1000000] (fun F q P=>∃ Q E C,F=C.length∧g.drop E=C∧Zbp a C=some r∧St e (Zh col) Q P∧Zd 27 1 Q P V (Rq a t l u o v p w s)∧[17].map q=[.int .i64 E]) g.length ⟨_,0,_,rfl,rfl,b,c,f,rfl⟩ ?_;clear b;intro F q P S;obtain ⟨Q,E,C,B,i,b,c,f,j⟩:=S;subst B;refine .lL [17] j ?_
 cases C with
 | nil=>
  have h:¬ ((E:Int)<(g.length:Int)):=by have:=aJ.1 i;omega
  have d:=decide_eq_false h;rw [Zbp.eq_1] at b;refine go ?_;refine Ym (congrArg Value.bool d)<|go ?_;cases b;exact ⟨rfl,rfl,c.below⟩
 | cons A U=>
  obtain ⟨z,C,G⟩:=Yt i;have h:(E:Int)<(g.length:Int):=by omega
  have d:=decide_eq_true h;rw [Zbp.eq_2] at b;refine go ?_;refine Yn (congrArg Value.bool d)<|go ?_;refine lI z ((m.ks c).addr z) ?_;obtain ⟨_,Z,y⟩:=(m.ks c).atN z;obtain ⟨⟨L,M,rfl,k⟩,_⟩:=Z;refine lW y.one<|go ?_;refine Z9 f ?_;refine go ?_;refine Zm b (fun n b=>go ?_) fun n b=>go ?_
  ·cases b;exact ⟨rfl,rfl,c.below⟩
  refine Zt [15,16,17,2,27,28,1000000] (fun F q J=>∃ K y D,F=D.length∧A.drop y=D∧Zbq a (Zbp a U) D y=some r∧St e (Zh col) K J∧Zd 27 1 K J V (Rq a t l u o v p w s)∧Sl rI K J L M A∧[29].map q=[.int .i64 y]) A.length ⟨_,0,_,rfl,rfl,b,c,f,k,rfl⟩ ?_;clear b;intro F q J S;obtain ⟨K,y,D,B,i,b,c,f,k,j⟩:=S;subst B;refine .lL [29] j ?_
  cases D with
  | nil=>
   have h:¬ ((y:Int)<(A.length:Int)):=by have:=aJ.1 i;omega
   have d:=decide_eq_false h;rw [Zbq.eq_1] at b;refine go ?_;refine Ym (congrArg Value.bool d)<|go ?_;exact ⟨U.length,by simp,rfl,⟨_,_,_,rfl,C,b,c,f,(Yz (congrArg (Value.int .i64) (Yv (aI G (m.ks c).1.1))) rfl)⟩⟩
  | cons D E=>
   obtain ⟨z,m,B⟩:=Yt i;have h:(y:Int)<(A.length:Int):=by omega
   have d:=decide_eq_true h;rw [Zbq.eq_2] at b;refine go ?_;refine Yn (congrArg Value.bool d)<|go ?_;refine lI z (k.addr z)<|lW (k.atInt z)<|Y6 rfl<|Y6 rfl<|Zl<|Zx ?_;refine Wp.cutK [15,16,17,2,27,28,29,1000000] (fun q H=>∃ I O,Zjc y (Zbq a (Zbp a U) E) O=some r∧St e (Zh col) I H∧Zd 27 1 I H V (Rq a t l u o v p w s)∧Sl rI I H L M A∧[45].map q=[.bool O]) ?_ ?_
   ·intro q H X;obtain ⟨I,O,b,c,f,k,j⟩:=X;rw [Zjc.eq_1] at b;refine .lL [45] j ?_;refine Zm b (fun n b=>go ?_) fun n b=>go ?_
    ·cases b;exact ⟨rfl,rfl,c.below⟩
    exact ⟨E.length,by simp,rfl,⟨_,_,_,rfl,m,b,c,f,k,(Yz (congrArg (Value.int .i64) (Yv (aI B k.1.1))) rfl)⟩⟩
   refine go ?_;refine Ye b (fun R b=>go ?_) fun R b=>go ?_
   ·refine lV (.bool true) (X0 (congrArg Value.bool R) rfl)<|Zl ?_;exact ⟨rfl,_,_,b,c,f,k,rfl⟩
   refine Xy ⟨_,_,rfl⟩ ?_;refine go ?_;refine lW ((f.atN).nth (q:=2) rfl)<|go ?_;obtain ⟨e,M,b⟩:=bZ b;refine lI M ((x.ks c).addr M) ?_;refine go ?_;obtain ⟨_,Y,d⟩:=(x.ks c).atN M;obtain ⟨⟨_,_,rfl,_⟩,_⟩:=Y;refine lW d.one<|go ?_;refine lV (.bool (decide ((e.length:Int)≤D))) (X7 (congrArg Value.bool R) rfl)<|Zl ?_;exact ⟨rfl,_,_,b,c,f,k,rfl⟩
def Zk3 (a:Int) (kk_L2:(Int→Option Int)) (b:Bool):Option Int:=
  if b=true then (some 71) else (kk_L2 (i64.wrap (a+1)))
def Zdq (N:Nat) (c:R0) (d:R6) (b:Int) (kk_L1:(Int→Option Int)):Nat→Int→Option Int
  | 0,_=>none
  | e+1,a=>(Zk d b).bind fun f=>if (decide (a<(f.length:Int)))=true then ((Zk f a).bind fun g=>if (decide (g<(-1)))=true then (Zk3 a (Zdq N c d b kk_L1 e) true) else ((Zk c.2.2.1 a).bind fun i=>Zk3 a (Zdq N c d b kk_L1 e) (decide ((i.length:Int)≤g)))) else (kk_L1 (i64.wrap (b+1)))
def Zb6 (N:Nat) (b:R0) (a:R6):Nat→Int→Option Int
  | 0,_=>none
  | d+1,c=>if (decide (c<(a.length:Int)))=true then ((Zk a c).bind fun e=>if (!decide ((e.length:Int)=(b.2.1.length:Int)))=true then (some 71) else (Zdq N b a c (Zb6 N b a d) N 0)) else (some 0)
def Q3 (N:Nat) (a:R0) (c:R6):Option Int:=
  (Zdf N (a.1,a.2.1,a.2.2.1,a.2.2.2.1,a.2.2.2.2)).bind fun b=>if (!decide (b=0))=true then (some b) else (Zb6 N a c N 0)
theorem Zv2 {N p s t u T:Nat} {w x y D F:Option Addr} {col:Ze} {f:World} {b:R0} {i:R6} {r:Int} (a:Q3 N b i=some r) (C:Sl Za.str col f w p b.2.1) (B:Sl rV col f x s b.2.2.1) (G:Sl rP col f y t b.2.2.2.1) (A:Sl (Za.slice rQ) col f D u b.2.2.2.2) (g:Sl rP col f F T i):
    Calls prog 50 #[(.agg (Rq b w p x s y t D u)),.slice F i.length T] f (Wn f r):=by
 refine Xc 4 (m:=61) func50 rfl rfl rfl rfl rfl ?_;rw [Q3.eq_1] at a;have d:=St.start col f;refine go ?_;refine Xg (col:=(Zh col)) 1 rfl fun S _ v n e=>go ?_;refine lV _ (Z5 isAgg27 sizeOf27 e) ?_;obtain ⟨_,c,a⟩:=bZ a;replace B:=B.k0;replace d:=d.grow n;refine Zi (Zvw c (C.k0.ks d) (B.ks d) (G.k0.ks d) (A.k0.ks d)) fun _ _ ⟨U,E⟩=>⟨_,U,?_⟩;replace E:=Rr v E;refine go ?_;replace g:=g.k0;replace e:=e.gr E;replace d:=d.grow E;refine Zm a (fun h a=>go ?_) fun h a=>go ?_
 ·cases a;exact ⟨rfl,rfl,d.below⟩
 refine Zt [1,2,1000000] (fun A m O=>∃ o C n,n=A∧Zb6 N b i n C=some r∧St f (Zh col) o O∧Zd 27 1 o O S (Rq b w p x s y t D u)∧[6].map m=[.int .i64 C]) N ⟨_,0,_,rfl,a,d,e,rfl⟩ ?_;clear a;intro A m O R;obtain ⟨o,C,n,z,a,d,e,l⟩:=R;subst z;refine .lL [6] l ?_
 cases n with
 | zero=>rw [Zb6.eq_1] at a;cases a
 | succ n=>
  rw [Zb6.eq_2] at a;refine go ?_;refine Zm a (fun h a=>go ?_) fun h a=>go ?_
  ·refine Wg (col:=o) (by kernel_rfl) (by kernel_rfl)<|go ?_;obtain ⟨_,I,a⟩:=bZ a;refine qI I ((g.ks d).addr I) ?_;obtain ⟨_,X,j⟩:=(g.ks d).atN I;obtain ⟨⟨_,_,rfl,_⟩,_⟩:=X;refine qW (fun _ c=>j.one.gr (c.bl o)) ?_;refine go ?_;refine qF ⟨_,_,rfl⟩ ?_;refine qW (fun _ c=>((e.atN).nth (q:=1) rfl).gr (c.bl o)) ?_;refine go ?_;refine Y1 ?_;intro _ c;replace c:=c.bl o;replace e:=e.gr c;replace d:=d.grow c;refine Zm a (fun h a=>go ?_) fun h a=>go ?_
   ·cases a;exact ⟨rfl,rfl,d.below⟩
   refine Zt [1,2,6,1000000] (fun A m P=>∃ j H q,q=A∧Zdq N b i C (Zb6 N b i n) q H=some r∧St f (Zh col) j P∧Zd 27 1 j P S (Rq b w p x s y t D u)∧[7].map m=[.int .i64 H]) N ⟨_,0,_,rfl,a,d,e,rfl⟩ ?_;clear a;intro A m P R;obtain ⟨j,H,q,z,a,d,e,l⟩:=R;subst z;refine .lL [7] l ?_
   cases q with
   | zero=>rw [Zdq.eq_1] at a;cases a
   | succ q=>
    rw [Zdq.eq_2] at a;refine go ?_;obtain ⟨_,k,a⟩:=bZ a;refine lI k ((g.ks d).addr k) ?_;obtain ⟨_,Y,o⟩:=(g.ks d).atN k;obtain ⟨⟨_,_,rfl,_⟩,_⟩:=Y;refine lW o.one<|go ?_;refine Zm a (fun h a=>?_) fun h a=>go ?_
    ·refine Xz<|Zx<|Zf1<|Zx ?_;refine Wp.cutK [1,2,6,7,1000000] (fun m K=>∃ L M,Zk3 H (Zdq N b i C (Zb6 N b i n) q) M=some r∧St f (Zh col) L K∧Zd 27 1 L K S (Rq b w p x s y t D u)∧[60].map m=[.bool M]) ?_ ?_
     ·intro m K V;obtain ⟨L,M,a,d,e,l⟩:=V;rw [Zk3.eq_1] at a;refine .lL [60] l ?_;refine Zm a (fun h a=>go ?_) fun h a=>go ?_
      ·cases a;exact ⟨rfl,rfl,d.below⟩
      exact ⟨q,by omega,rfl,⟨_,_,_,rfl,a,d,e,rfl⟩⟩
     refine Wg (col:=j) (by kernel_rfl) (by kernel_rfl)<|go ?_;refine qI k ((g.ks d).addr k) ?_;obtain ⟨_,Z,h⟩:=(g.ks d).atN k;obtain ⟨⟨_,_,rfl,z⟩,_⟩:=Z;refine qW (fun _ c=>h.one.gr (c.bl j)) ?_;refine go ?_;obtain ⟨m,v,a⟩:=bZ a;refine qI v (z.addr v)<|qW (fun _ c=>(z.gr (c.bl j)).atInt v) ?_;refine go ?_;refine Ye a (fun Q a=>go ?_) fun Q a=>go ?_
     ·refine qv (v:=(.bool true)) rfl (fun _ c=>X0 (congrArg Value.bool Q) rfl) ?_;refine Y1 ?_;intro _ c;replace c:=c.bl j;replace e:=e.gr c;replace d:=d.grow c;exact ⟨rfl,_,_,a,d,e,rfl⟩
     refine qI k ((g.ks d).addr k) ?_;refine go ?_;obtain ⟨_,f,l⟩:=(g.ks d).atN k;obtain ⟨⟨_,_,rfl,q⟩,_⟩:=f;refine qW (fun _ c=>l.one.gr (c.bl j)) ?_;refine go ?_;refine qI v (q.addr v) ?_;refine go ?_;refine qW (fun _ c=>(q.gr (c.bl j)).atInt v) ?_;refine go ?_;refine qF ⟨_,_,rfl⟩ ?_;refine go ?_;refine qW (fun _ c=>((e.atN).nth (q:=2) rfl).gr (c.bl j)) ?_;refine go ?_;obtain ⟨k,J,a⟩:=bZ a;refine qI J ((B.ks d).addr J) ?_;refine go ?_;obtain ⟨_,W,g⟩:=(B.ks d).atN J;obtain ⟨⟨_,_,rfl,_⟩,_⟩:=W;refine qW (fun _ c=>g.one.gr (c.bl j)) ?_;refine go ?_;refine qv (v:=(.bool (decide ((k.length:Int)≤m)))) rfl (fun _ c=>X7 (congrArg Value.bool Q) rfl) ?_;refine Y1 ?_;intro _ c;replace c:=c.bl j;replace e:=e.gr c;replace d:=d.grow c;exact ⟨rfl,_,_,a,d,e,rfl⟩
    exact ⟨n,by omega,rfl,⟨_,_,_,rfl,a,d,e,rfl⟩⟩
  cases a;exact ⟨rfl,rfl,d.below⟩
def Zhs (N:Nat) (a:R0) (c:Int) (d:List Int):Nat→Int→Int→Option Int
  | 0,_,_=>none
  | i+1,e,b=>(Zk a.2.2.2.1 c).bind fun f=>if (decide (b<(f.length:Int)))=true then ((Zk f b).bind fun g=>(Zk a.2.2.1 g).bind fun j=>(Zk d g).bind fun k=>(Zhs N a c d i) (i64.wrap ((i64.wrap (e * (j.length:Int)))+k)) (i64.wrap (b+1))) else (some e)
def Zkw (N:Nat) (a:R0) (b:Int) (c:List Int):Option Int:=
  Zhs N a b c N 0 0
theorem Zvy {N o p s t G:Nat} {u v w x n:Option Addr} {col:Ze} {e:World} {a:R0} {y:Int} {k:R2} {r:Int} (b:Zkw N a y k=some r) (S:Sl Za.str col e u o a.2.1) (l:Sl rV col e v p a.2.2.1) (g:Sl rP col e w s a.2.2.2.1) (T:Sl (Za.slice rQ) col e x t a.2.2.2.2) (h:Sl rI col e n G k):
    Calls prog 105 #[(.agg (Rq a u o v p w s x t)),.int .i64 y,.slice n k.length G] e (Wn e r):=by
 refine Xc 6 (m:=42) func105 rfl rfl rfl rfl rfl ?_;rw [Zkw.eq_1] at b;have d:=St.start col e;refine go ?_;refine Xg (col:=(Zh col)) 1 rfl fun W _ _ L m=>go ?_;replace d:=d.grow L;refine Zt [1,2,3,1000000] (fun J K B=>∃ f C D j,j=J∧Zhs N a y k j C D=some r∧St e (Zh col) f B∧Zd 27 1 f B W (Rq a u o v p w s x t)∧[7,8].map K=[.int .i64 C,.int .i64 D]) N ⟨_,0,0,_,rfl,b,d,m,rfl⟩ ?_;clear b;intro J K B M;obtain ⟨f,C,D,j,F,b,d,m,H⟩:=M;subst F;refine .lL [7,8] H ?_;replace l:=l.k0;replace g:=g.k0;replace h:=h.k0
 cases j with
 | zero=>rw [Zhs.eq_1] at b;cases b
 | succ j=>
  rw [Zhs.eq_2] at b;refine go ?_;refine Z9 m<|Xk rfl ?_;obtain ⟨_,i,b⟩:=bZ b;refine lI i ((g.ks d).addr i) ?_;obtain ⟨_,O,R⟩:=(g.ks d).atN i;obtain ⟨⟨_,_,rfl,_⟩,_⟩:=O;refine lW R.one<|go ?_;refine Zm b (fun E b=>go ?_) fun E b=>go ?_
  ·refine Z9 m<|Xk rfl<|lI i ((g.ks d).addr i) ?_;obtain ⟨_,P,U⟩:=(g.ks d).atN i;obtain ⟨⟨_,_,rfl,I⟩,_⟩:=P;refine lW U.one<|Xk rfl ?_;obtain ⟨_,q,b⟩:=bZ b;refine lI q (I.addr q)<|lW (I.atInt q) ?_;refine go ?_;refine Wg (col:=f) (by kernel_rfl) (by kernel_rfl)<|go ?_;refine qF ⟨_,_,rfl⟩ ?_;refine qW (fun _ c=>((m.atN).nth (q:=2) rfl).gr (c.bl f)) ?_;refine go ?_;obtain ⟨_,z,b⟩:=bZ b;refine qI z ((l.ks d).addr z) ?_;obtain ⟨_,Q,V⟩:=(l.ks d).atN z;obtain ⟨⟨_,_,rfl,_⟩,_⟩:=Q;refine qW (fun _ c=>V.one.gr (c.bl f)) ?_;refine go ?_;obtain ⟨_,A,b⟩:=bZ b;refine qI A ((h.ks d).addr A)<|qW (fun _ c=>((h.ks d).gr (c.bl f)).atInt A) ?_;refine go ?_;refine Y1 ?_;intro _ c;replace c:=c.bl f;refine go ?_;replace d:=d.grow c;exact ⟨j,by omega,rfl,⟨_,_,_,_,rfl,b,d,m.gr c,rfl⟩⟩
  cases b;exact ⟨rfl,rfl,d.below⟩
def Zk4 (N:Nat) (a:R0) (b:Int) (c:List Int):Option Int:=
  (Zkw N (a.1,a.2.1,a.2.2.1,a.2.2.2.1,a.2.2.2.2) b c).bind fun d=>(Zk a.2.2.1 b).bind fun e=>(Zk c b).bind fun f=>some (i64.wrap ((i64.wrap (d * (e.length:Int)))+f))
theorem Z6p {N n o p s t:Nat} {u w x y m:Option Addr} {col:Ze} {b:World} {c:R0} {A:Int} {f:R2} {r:Int} (e:Zk4 N c A f=some r) (g:Sl Za.str col b u n c.2.1) (d:Sl rV col b w o c.2.2.1) (i:Sl rP col b x p c.2.2.2.1) (j:Sl (Za.slice rQ) col b y s c.2.2.2.2) (l:Sl rI col b m t f):
    Calls prog 58 #[(.agg (Rq c u n w o x p y s)),.int .i64 A,.slice m f.length t] b (Wn b r):=by
 refine Xc 6 (m:=23) func58 rfl rfl rfl rfl rfl ?_;rw [Zk4.eq_1] at e;have h:=St.start col b;refine go ?_;refine Xg (col:=(Zh col)) 1 rfl fun _ _ k G B=>go ?_;refine Wg (col:=k) (by kernel_rfl) (by kernel_rfl)<|qv rfl (fun _ a=>Z5 isAgg27 sizeOf27 (B.gr (a.bl k))) ?_;refine go ?_;obtain ⟨E,F,e⟩:=bZ e;replace d:=d.k0;replace l:=l.k0;replace h:=h.grow G;refine qc (v:=(.int .i64 E)) rfl (fun _ a=>⟨_,_,Zqp call105 rfl rfl rfl,(Zvy F ((g.k0.ks h).gr (a.bl k)) ((d.ks h).gr (a.bl k)) ((i.k0.ks h).gr (a.bl k)) ((j.k0.ks h).gr (a.bl k)) ((l.ks h).gr (a.bl k)):).mono fun _ _ z=>⟨z.1,a.trans (.of_below z.2)⟩⟩) ?_;refine qF ⟨_,_,rfl⟩ ?_;refine qW (fun _ a=>((B.atN).nth (q:=2) rfl).gr (a.bl k)) ?_;refine go ?_;obtain ⟨_,q,e⟩:=bZ e;refine qI q ((d.ks h).addr q) ?_;obtain ⟨_,C,D⟩:=(d.ks h).atN q;obtain ⟨⟨_,_,rfl,_⟩,_⟩:=C;refine qW (fun _ a=>D.one.gr (a.bl k)) ?_;refine go ?_;obtain ⟨_,v,e⟩:=bZ e;refine qI v ((l.ks h).addr v)<|qW (fun _ a=>((l.ks h).gr (a.bl k)).atInt v) ?_;refine go ?_;refine Y1 fun _ a=>W1 ?_;cases e;exact ⟨rfl,rfl,(h.grow (a.bl k)).below⟩
/-! which observations may be -/
def Uk (n:Zq):List Int→Nat→Bool
 | [],_=>true
 | x :: l,k=>decide (-1≤x)&&(decide (x<(cnt n k:Int))&&Uk n l (k+1))
def Ul (n:Zq) (r:List R2):Bool:=r.all fun row=>decide (row.length=n.2.1.length)&&Uk n row 0
theorem Zyo {n:Zq} (kk:Option Int):∀ (l:List Int) (k:Nat),k+l.length≤n.2.2.1.length→Zbx n kk l k=if Uk n l k=true then kk else some 71
 | [],k,_=>by rw [Zbx.eq_1,Uk,if_pos rfl]
 | x :: l,k,h=>by
  simp only [nC] at h
  have b:=Zyo (n:=n) kk l (k+1) (by omega)
  have a:Zk n.2.2.1 (k:Int)=some (n.2.2.1.getD k []):=Yo (l:=n.2.2.1) [] (j:=k) (by omega)
  have c:cnt n k=(n.2.2.1.getD k []).length:=rfl
  rw [Zbx.eq_2,Uk]
  by_cases h1:x< -1
  ·rw [if_pos (dT h1),Zjl,if_pos rfl,decide_eq_false (show ¬ -1≤x by omega)];rfl
  ·rw [if_neg (dF h1),a,oB,decide_eq_true (show -1≤x by omega),Bool.true_and,Zjl]
   by_cases h2:x<(cnt n k:Int)
   ·rw [decide_eq_true h2,decide_eq_false (by omega),if_neg (by decide),Bool.true_and];exact b
   ·rw [decide_eq_false h2,decide_eq_true (by omega),if_pos rfl];rfl
theorem Zl1 {n:Zq} (hv:n.2.2.1.length=n.2.1.length):∀ r:List R2,Zbw n r=some (if Ul n r=true then 0 else 71)
 | []=>by rw [Zbw.eq_1];rfl
 | row :: r=>by
  have a:=Zl1 hv r
  rw [Zbw.eq_2,Ul,cN]
  by_cases h:row.length=n.2.1.length
  ·rw [if_neg (by rw [decide_eq_true (by omega)];decide),Zyo _ row 0 (by omega),decide_eq_true h,Bool.true_and]
   by_cases h2:Uk n row 0=true
   ·rw [if_pos h2,h2,Bool.true_and];exact a
   ·rw [if_neg h2,Bool.eq_false_iff.2 h2];rfl
  ·rw [if_pos (by rw [decide_eq_false (by omega)];rfl),decide_eq_false h];rfl
theorem Zwt {n:Zq} (kk:Option Int):∀ (l:List Int) (k:Nat),k+l.length≤n.2.2.1.length→Zbq n kk l k=if Uk n l k=true then kk else some 71
 | [],k,_=>by rw [Zbq.eq_1,Uk,if_pos rfl]
 | x :: l,k,h=>by
  simp only [nC] at h
  have b:=Zwt (n:=n) kk l (k+1) (by omega)
  have a:Zk n.2.2.1 (k:Int)=some (n.2.2.1.getD k []):=Yo (l:=n.2.2.1) [] (j:=k) (by omega)
  have c:cnt n k=(n.2.2.1.getD k []).length:=rfl
  rw [Zbq.eq_2,Uk]
  by_cases h1:x< -1
  ·rw [if_pos (dT h1),Zjc,if_pos rfl,decide_eq_false (show ¬ -1≤x by omega)];rfl
  ·rw [if_neg (dF h1),a,oB,decide_eq_true (show -1≤x by omega),Bool.true_and,Zjc]
   by_cases h2:x<(cnt n k:Int)
   ·rw [decide_eq_true h2,decide_eq_false (by omega),if_neg (by decide),Bool.true_and];exact b
   ·rw [decide_eq_false h2,decide_eq_true (by omega),if_pos rfl];rfl
theorem Zsj {n:Zq} (hv:n.2.2.1.length=n.2.1.length):∀ r:List R2,Zbp n r=some (if Ul n r=true then 0 else 71)
 | []=>by rw [Zbp.eq_1];rfl
 | row :: r=>by
  have a:=Zsj hv r
  rw [Zbp.eq_2,Ul,cN]
  by_cases h:row.length=n.2.1.length
  ·rw [if_neg (by rw [decide_eq_true (by omega)];decide),Zwt _ row 0 (by omega),decide_eq_true h,Bool.true_and]
   by_cases h2:Uk n row 0=true
   ·rw [if_pos h2,h2,Bool.true_and];exact a
   ·rw [if_neg h2,Bool.eq_false_iff.2 h2];rfl
  ·rw [if_pos (by rw [decide_eq_false (by omega)];rfl),decide_eq_false h];rfl
theorem Z19 {N:Nat} {n:Zq} {r:List R2} {i:Nat} (hi:i<r.length) (hl:r[i].length=n.2.2.1.length) (hb:n.2.2.1.length≤1048576) (hr:r.length≤1048576) (kk:Int→Option Int):∀ (f v:Nat),v≤r[i].length→r[i].length<f+v→Zdq N n r (i:Int) kk f (v:Int)=if Uk n (r[i].drop v) v=true then kk ((i:Int)+1) else some 71
 | 0,v,b,c=>by omega
 | f+1,v,b,c=>by
  rw [Zdq.eq_2,Zs hi,oB]
  by_cases hv:v<r[i].length
  ·have a:Zk n.2.2.1 (v:Int)=some (n.2.2.1.getD v []):=Yo (l:=n.2.2.1) [] (j:=v) (by omega)
   have e:cnt n v=(n.2.2.1.getD v []).length:=rfl
   have d:=Z19 (N:=N) hi hl hb hr kk f (v+1) (by omega) (by omega)
   rw [if_pos (dT (by omega)),Zs hv,oB,aF hv,Uk]
   by_cases h3:r[i][v]< -1
   ·rw [if_pos (dT h3),Zk3,if_pos rfl,decide_eq_false (show ¬ -1≤r[i][v] by omega)];rfl
   ·rw [if_neg (dF h3),a,oB,decide_eq_true (show -1≤r[i][v] by omega),Bool.true_and,Zk3]
    by_cases h4:r[i][v]<(cnt n v:Int)
    ·rw [decide_eq_true h4,decide_eq_false (by omega),if_neg (by decide),Bool.true_and,wS (by omega)];exact d
    ·rw [decide_eq_false h4,decide_eq_true (by omega),if_pos rfl];rfl
  ·rw [if_neg (dF (by omega)),aG (by omega),Uk,if_pos rfl,Zv (by omega)]
theorem Z18 {N:Nat} {n:Zq} {r:List R2} (hv:n.2.2.1.length=n.2.1.length) (hb:n.2.2.1.length≤1048576) (hr:r.length≤1048576) (hN:1048577<N):∀ (f i:Nat),i≤r.length→r.length<f+i→Zb6 N n r f (i:Int)=some (if Ul n (r.drop i)=true then 0 else 71)
 | 0,i,b,a=>by omega
 | f+1,i,b,a=>by
  rw [Zb6.eq_2]
  by_cases hi:i<r.length
  ·have c:=Z18 hv hb hr hN f (i+1) (by omega) (by omega)
   rw [if_pos (dT (by omega)),Zs hi,oB,aF hi,Ul,cN]
   by_cases h:r[i].length=n.2.1.length
   ·have a:=Z19 (N:=N) hi (by omega) hb hr (Zb6 N n r f) N 0 (aQ _) (by omega)
    rw [aM] at a
    rw [if_neg (by rw [decide_eq_true (by omega)];decide),decide_eq_true h,Bool.true_and]
    refine a.trans ?_
    by_cases h3:Uk n r[i] 0=true
    ·rw [if_pos h3,h3,Bool.true_and];exact c
    ·rw [if_neg h3,Bool.eq_false_iff.2 h3];rfl
   ·rw [if_pos (by rw [decide_eq_false (by omega)];rfl),decide_eq_false h];rfl
  ·rw [if_neg (dF (by omega)),aG (by omega)];rfl
/-! observations of which all is known -/
theorem Z1t {n:Zq}:∀ {l:List Int} {k:Nat},Uk n l k=true→∀ x ∈ l,-1≤x
 | x :: l,k,h,y,a=>by
  rw [Uk,Bool.and_eq_true,Bool.and_eq_true,decide_eq_true_eq] at h
  rcases bL.1 a with rfl | a
  ·exact h.1
  ·exact Z1t h.2.2 y a
theorem Z1u {n:Zq}:∀ {l:List Int} {k:Nat},Uk n l k=true→∀ i,i<l.length→l.getD i 0<(cnt n (k+i):Int)
 | x :: l,k,h,0,_=>by
  rw [Uk,Bool.and_eq_true,Bool.and_eq_true,decide_eq_true_eq,decide_eq_true_eq] at h
  exact h.2.1
 | x :: l,k,h,i+1,a=>by
  rw [Uk,Bool.and_eq_true,Bool.and_eq_true] at h
  have:=Z1u h.2.2 i (by simpa using a)
  rw [show k+1+i=k+(i+1) by omega] at this
  exact this
def X3 (n:Zq) (v:Nat) (row:List Int):Nat:=Wr n row v * cnt n v+(row.getD v 0).toNat
section
variable {N:Nat} {n:Zq} (hf:X2 N n)
include hf
theorem Zia {v:Nat} (hv:v<n.2.1.length) {row:List Int} (hw:Yk n row):X3 n v row<(n.2.2.2.2.getD v []).length:=by
 have a:=hf.row hw hv
 have b:=hw.ok v (by rw [hw.len];exact hv)
 rw [X3];omega
/-! the document -/
theorem Zt6 {v:Nat} (hv:v<n.2.1.length) (hps:(n.2.2.2.1.getD v []).length≤1048576) {w:List Int} (hw:Yk n w):∀ (f i r k:Nat),i≤(n.2.2.2.1.getD v []).length→(n.2.2.2.1.getD v []).length<f+i→r<k→k≤65536→Yu n.2.2.1 ((n.2.2.2.1.getD v []).drop i) k≤65536→T3 n w ((n.2.2.2.1.getD v []).drop i) r=Wr n w v→
  Zhs N n (v:Int) w f (r:Int) (i:Int)=some ((Wr n w v:Nat):Int)
 | 0,i,r,k,d,e,_,_,_,_=>by omega
 | f+1,i,r,k,d,e,g,m,c,a=>by
  rw [Zhs.eq_2,Yo [] (by rw [hf.ev.p];exact hv),oB]
  by_cases hi:i<(n.2.2.2.1.getD v []).length
  ·have b:∀ q ∈ (n.2.2.2.1.getD v []).drop i,0≤q∧q<(n.2.1.length:Int):=fun q o=>hf.pars hv q (cI o)
   rw [aF hi] at c b a
   obtain ⟨s,t,u⟩:=Zq2 hf.ev hw b g m c
   rw [T3] at a
   generalize he:(n.2.2.2.1.getD v [])[i]=p at *
   have B:=b p aO
   have C:=hw.ok p.toNat (by rw [hw.len];omega)
   have D:r * cnt n p.toNat≤k * cnt n p.toNat:=bD _ (by omega)
   have q1:Zk n.2.2.1 p=some (n.2.2.1.getD p.toNat []):=by
    have:=Yo (l:=n.2.2.1) [] (j:=p.toNat) (by rw [hf.ev.v];omega)
    rwa [show ((p.toNat:Nat):Int)=p by omega] at this
   have x:Zk w p=some (w.getD p.toNat 0):=by
    have:=Yo (l:=w) 0 (j:=p.toNat) (by rw [hw.len];omega)
    rwa [show ((p.toNat:Nat):Int)=p by omega] at this
   have y:i64.wrap ((r:Int) * ((n.2.2.1.getD p.toNat []).length:Int))=((r * cnt n p.toNat:Nat):Int):=by
    rw [show ((n.2.2.1.getD p.toNat []).length:Int)=((cnt n p.toNat:Nat):Int) from rfl,← bN]
    exact Zv (by omega)
   have A:i64.wrap (((r * cnt n p.toNat:Nat):Int)+w.getD p.toNat 0)=((r * cnt n p.toNat+(w.getD p.toNat 0).toNat:Nat):Int):=by
    rw [dS,show (((w.getD p.toNat 0).toNat:Nat):Int)=w.getD p.toNat 0 by omega]
    exact Zv (by omega)
   rw [if_pos (dT (by omega)),Zs hi,he,oB,q1,oB,x,oB,y,A,wS (by omega)]
   exact Zt6 hv hps hw f (i+1) _ _ (by omega) (by omega) s t u a
  ·rw [aG (by omega),T3] at a
   rw [if_neg (dF (by omega)),a]
theorem Xbr {v:Nat} (hv:v<n.2.1.length) (hps:(n.2.2.2.1.getD v []).length≤1048576) {w:List Int} (hw:Yk n w) (hN:1048577<N):Zk4 N n (v:Int) w=some ((X3 n v w:Nat):Int):=by
 obtain ⟨g,i,a⟩:=hf.rows hv
 have R:=Zt6 hf hv hps hw N 0 0 1 (aQ _) (by omega) (by omega) (by omega) (by rw [aM];exact a) (by rw [aM];rfl)
 have b:Zkw N (n.1,n.2.1,n.2.2.1,n.2.2.2.1,n.2.2.2.2) (v:Int) w=some ((Wr n w v:Nat):Int):=R
 have c:=hf.row hw hv
 have f:=hw.ok v (by rw [hw.len];exact hv)
 have d:i64.wrap ((Wr n w v:Int) * ((n.2.2.1.getD v []).length:Int))=((Wr n w v * cnt n v:Nat):Int):=by
  rw [show ((n.2.2.1.getD v []).length:Int)=((cnt n v:Nat):Int) from rfl,← bN]
  exact Zv (by omega)
 have e:i64.wrap (((Wr n w v * cnt n v:Nat):Int)+w.getD v 0)=((X3 n v w:Nat):Int):=by
  rw [X3,dS,show (((w.getD v 0).toNat:Nat):Int)=w.getD v 0 by omega]
  exact Zv (by omega)
 rw [Zk4,b,oB,Yo [] (by rw [hf.ev.v];exact hv),oB,Yo 0 (by rw [hw.len];exact hv),oB,d,e]
end
def Zo2:Nat→Nat
 | 0=>1
 | n+1=>(n+1) * Zo2 n
def Zw0:List Int→Nat
 | []=>1
 | x :: l=>Zo2 x.toNat * Zw0 l
def Xq:List Int→Nat
 | []=>0
 | x :: l=>x.toNat+Xq l
def U1 (n:Zq) (v:Nat):Nat:=Yu n.2.2.1 (n.2.2.2.1.getD v []) 1
def gC (k:Nat):List R2→Nat
 | []=>1
 | q :: l=>Zo2 (k - 1) * Zw0 q * gC k l
def hC (k:Nat):List R2→Nat
 | []=>1
 | q :: l=>Zo2 (Xq q+k - 1) * hC k l
theorem Z3r (m:Nat):Xq (aD m 0)=0:=by
 induction m with
 | zero=>rfl
 | succ m a=>rw [List.replicate_succ,Xq,a];rfl
def Zma (N:Nat) (b:Int):Option R1:=
  (Zeh N b 1).bind fun a=>some ((a.1.1.1,a.1.1.2),a.1.2)
theorem Z5j {N:Nat} {col:Ze} {c:World} {k:Int} {r:R1} (g c2:Nat) (b:Zma N k=some r):
    Calls prog 69 #[.int .i64 k] c (Sm 45 g c2 col c r):=by
 refine Yx (m:=11) func69 rfl rfl rfl ?_;rw [Zma.eq_1] at b;have d:=St.start col c;refine go ?_;refine Xr (col:=(Zh col)) #[.bool false,(nI),(nI)] 1 zeroValue42 fun _ _ t z y=>go ?_;obtain ⟨a,q,b⟩:=bZ b;refine Zi (Zrv (col:=t) 2 3 q) fun _ _ ⟨x,j,l,m,n,i,o,A,B⟩=>⟨_,i,?_⟩;refine lM (.tuple #[(.agg #[.bool a.1.1.1,.slice j a.1.1.2.length l,.slice m a.1.2.length n]),.int .i64 a.2])<|lV (.agg #[.bool a.1.1.1,.slice j a.1.1.2.length l,.slice m a.1.2.length n]) (Xt rfl rfl)<|lV (.int .i64 a.2) (Xt rfl rfl)<|Xr (col:=x) #[.bool false,(nI),(nI)] 4 zeroValue42 ?_;intro _ _ _ f p;refine Z6 p fun _ e w s=>go ?_;refine lV _ (Z5 isAgg42 sizeOf42 s) ?_;refine Z6 (((y.gr o).gr f).kp e) fun _ h u v=>go ?_;cases b;replace d:=((((d.grow z).grow o).grow f).kp e w).kp h u;exact ⟨rfl,_,ra v.atN,_,_,_,_,_,rfl,d.fin (cm [(2,g),(3,c2)]),d.fo (((A.gr f).kp e).kp h),d.fo (((B.gr f).kp e).kp h)⟩
theorem Z7z:Wt prog 22 1 24:=⟨Tryz.t22,_,rfl,rfl,rfl,rfl,rfl⟩
theorem Z72:Wt prog 29 1 24:=⟨Tryz.t29,_,rfl,rfl,rfl,rfl,rfl⟩
theorem Z74:Wt prog 36 1 24:=⟨Tryz.t36,_,rfl,rfl,rfl,rfl,rfl⟩
theorem Z8b:Wt prog 42 3 56:=⟨Tryz.t42,_,rfl,rfl,rfl,rfl,rfl⟩
def Zen (N:Nat) (e:Int) (f:ByteArray) (g:List ByteArray) (i:List R3) (j:List R2) (c:List R4) (kk_L1:(Int→ByteArray→R3→Rb→R6→R9→Option R0)) (k:List ByteArray) (l:List Int):List R1→R4→Option R0
  | [],b=>Z2 ((c.length+[b].length) * 24≤140737488355328∧c.length+[b].length≤maxLen) (kk_L1 (i64.wrap (e+1)) f g (i++[k]) (j++[l]) (c++[b]))
  | d :: m,b=>(Qo N ((d.1.1,d.1.2),d.2) ((false,([]:List Int)),([]:List Int))).bind fun a=>Z2 ((b.length+[((a.1.1,a.1.2),a.2)].length) * 56≤140737488355328∧b.length+[((a.1.1,a.1.2),a.2)].length≤maxLen) ((Zen N e f g i j c kk_L1 k l m) (b++[((a.1.1,a.1.2),a.2)]))
def Zcs (N:Nat) (a:R0):Nat→Int→ByteArray→R3→Rb→R6→R9→Option R0
  | 0,_,_,_,_,_,_=>none
  | l+1,b,i,j,c,d,k=>if (decide (b<(a.2.1.length:Int)))=true then ((Zk a.2.2.1 b).bind fun m=>(Zh2 m).bind fun e=>Z2 ((c.length+[e].length) * 24≤140737488355328∧c.length+[e].length≤maxLen) ((Zk a.2.2.2.1 b).bind fun n=>(Za5 n).bind fun f=>Z2 ((d.length+[f].length) * 24≤140737488355328∧d.length+[f].length≤maxLen) ((Zk a.2.2.2.2 b).bind fun g=>Z2 (g.length * 56≤281474976710656∧g.length≤maxLen) (Zen N b i j c d k (Zcs N a l) e f g ([]:List R1))))) else (some (i,j,c,d,k))
def Zjh (N:Nat) (a:R0):Option R0:=
  (Zh2 a.2.1).bind fun b=>Zcs N a N 0 a.1 b ([]:List R3) ([]:List R2) ([]:List R4)
theorem Z5f {N av be bf bg:Nat} {P bh bi bj:Option Addr} {col:Ze} {s:World} {o r:R0} (c1 c2 c3 c4:Nat) (c:Zjh N o=some r) (Z:Sl Za.str col s P av o.2.1) (bk:Sl rV col s bh be o.2.2.1) (bm:Sl rP col s bi bf o.2.2.2.1) (O:Sl (Za.slice rQ) col s bj bg o.2.2.2.2):
    Calls prog 65 #[(.agg (Rq o P av bh be bi bf bj bg))] s (fun e q=>∃ (col':Ze) (B:Option Addr) (y:Nat) (I:Option Addr) (F:Nat) (L:Option Addr) (K:Nat) (w:Option Addr) (v:Nat),e= .returned ((.agg (Rq r B y I F L K w v)))∧Zj col s col' q∧Zb Za.str 9 c1 col' q B y r.2.1∧Zb (Za.row 9 Za.str) 22 c2 col' q I F r.2.2.1∧Zb (Za.row 3 rI) 36 c3 col' q L K r.2.2.2.1∧Zb (Za.row 42 (rO 45)) 29 c4 col' q w v r.2.2.2.2):=by
 refine Yx (m:=74) func65 rfl rfl rfl ?_;rw [Zjh.eq_1] at c;have d:=St.start col s;refine go ?_;refine Xg (col:=(Zh col)) 1 rfl fun bn _ K B f=>Xr (col:=K) #[.string (⟨#[]⟩),.slice none (([]:List ByteArray).length) 0,.slice none (([]:List R3).length) 0,.slice none (([]:List R2).length) 0,(.slice none (([]:List R4).length) 0)] 2 zeroValue27 fun cl y n F g=>go ?_;have v:=Zu.clip (fun _=>false) n y;refine Zih (col:=n) [(0,1),(1,0),(2,1),(3,0),(4,3),(5,1),(6,4),(7,2)] (by kernel_rfl) (by kernel_rfl) ⟨fun l=>absurd l (by decide),fun l=>absurd l (by decide),fun l=>absurd l (by decide),fun l=>absurd l (by decide),fun l=>absurd l (by decide),fun l=>absurd l (by decide),fun _=>⟨_,_,_,rfl,Sa zeroValue27⟩,fun l=>absurd l (by decide),trivial⟩<|Vf (v:=(.pointer ((some (⟨bn,0,none⟩:Addr)).map (·.add 0)))) rfl rfl (fun _=>Uc (sz:=1) (off:=0) underlying27 rfl sizeOf9 (by decide) rfl rfl ⟨_,_,rfl⟩) ?_;replace f:=(f.gr F).kpp v;refine Ta (v:=(.string o.1)) rfl rfl (fun _ a=>Sn isAgg9 rfl (((f.atN).nth (q:=0) (v:=(.string o.1)) rfl).gr (a.bl (Zo y n)))) ?_;refine Vf (v:=(.pointer ((some (⟨bn,0,none⟩:Addr)).map (·.add 1)))) rfl rfl (fun _=>Uc (sz:=1) (off:=1) underlying27 rfl sizeOf22 (by decide) rfl rfl ⟨_,_,rfl⟩) ?_;refine Ta (v:=(.slice P o.2.1.length av)) rfl rfl (fun _ a=>Sn isAgg22 rfl (((f.atN).nth (q:=1) (v:=(.slice P o.2.1.length av)) rfl).gr (a.bl (Zo y n)))) ?_;refine Vz rfl rfl ?_;intro _ b;have a:=b.bl (Zo y n);obtain ⟨L,w,c⟩:=bZ c;replace d:=(((d.grow B).grow F).kpp v).grow a;refine Zi (Zv3 3 w (Z.k0.ks d)) fun _ B ⟨F,w,y,T,n,a5⟩=>⟨_,T,?_⟩;refine Zl ?_;refine ⟨fun q=>Zj (Zo B F) B (Zo B F) q,fun Z=>(Zo B F) Z=497,Zj.refl _ _,Vt,fun _=>⟨fun _ l=>V4 b n l,fun I hb=>n.below.block I hb,fun Z I K=>Ts n Z I (by first | exact K | (simp only [Ya,K];rfl) | (simp only [Ya,Xv,K];rfl))⟩,?_⟩;have I:=Zu.clip (fun _=>false) F B
 refine Vf (v:=(.agg #[.string o.1,.slice w L.length y,.slice none (([]:List R3).length) 0,.slice none (([]:List R2).length) 0,(.slice none (([]:List R4).length) 0)])) rfl rfl (fun _=>Wo (l:=[_,_,_,_,_]) (qs:=[(0,1),(1,1),(2,1),(3,1),(4,1)]) underlying27 zeroValue27 ⟨rfl,sizeOf9,rfl,sizeOf22,rfl,sizeOf23,rfl,sizeOf24,rfl,sizeOf25,trivial⟩ rfl) ?_;refine Zik rfl rfl (Sa zeroValue27) fun H y=>Vz rfl rfl ?_;intro K ⟨b,hZ0⟩;replace g:=(((g.kpp v).gr a).gr n).kpp I;replace f:=((f.gr a).gr n).kpp I;have a:=b.bl (Zo B F);replace bk:=bk.k0;replace bm:=bm.k0;replace O:=O.k0;obtain ⟨w,L⟩:=Zf5 (col:=(Zo B F)) 4 hZ0 y;replace L:Zd 27 4 (Xm H 4 (Zo B F)) K H #[.string (⟨#[]⟩),.slice none (([]:List ByteArray).length) 0,.slice none (([]:List R3).length) 0,.slice none (([]:List R2).length) 0,(.slice none (([]:List R4).length) 0)]:=L;refine Z6 L fun y v L u=>Zl ?_;refine ⟨fun q=>Zj (Zo y (Xm H 4 (Zo B F))) y (Zo y (Xm H 4 (Zo B F))) q,fun Z=>(Zo y (Xm H 4 (Zo B F))) Z=497,Zj.refl _ _,Vt,fun l=>absurd l (by decide),?_⟩;have Z:=Zu.clip (fun _=>false) (Xm H 4 (Zo B F)) y;refine Zil ?_;replace d:=(((((d.grow n).kpp I).grow a).kpp w).kp v L).kpp Z;replace a5:=((((a5.kpp I).gr a).kpp w).kp v).kpp Z;replace f:=(((f.gr a).kpp w).kp v).kpp Z;replace g:=(((g.gr a).kpp w).kp v).kpp Z;intro n a;replace a:Zj (Zo y (Xm H 4 (Zo B F))) y (Zo y (Xm H 4 (Zo B F))) n:=.of_below a.below;refine go ?_;refine Xy ⟨_,_,rfl⟩ ?_;replace f:=f.gr a;refine lW ((f.atN).nth (q:=1) rfl)<|go ?_;replace u:=(u.kpp Z).gr a;replace g:=g.gr a;replace d:=d.grow a
 refine Zt [1,16,2,3,1000000] (fun bl dk l=>∃ A bs C D E ex Z n m bt bu U Q R V S,S=bl∧Zcs N o S bs C ex m U V=some r∧St s (Zh col) A l∧Zd 27 1 A l bn (Rq o P av bh be bi bf bj bg)∧Zd 27 2 A l cl #[.string (⟨#[]⟩),.slice none (([]:List ByteArray).length) 0,.slice none (([]:List R3).length) 0,.slice none (([]:List R2).length) 0,(.slice none (([]:List R4).length) 0)]∧Zb Za.str 9 3 A l D E ex∧Zb (Za.row 9 Za.str) 22 5 A l Z n m∧Zb (Za.row 3 rI) 36 6 A l bt bu U∧Zb (Za.row 42 (rO 45)) 29 7 A l Q R V∧Zd 27 4 A l H #[.string C,.slice D ex.length E,.slice Z m.length n,.slice bt U.length bu,.slice Q V.length R]∧[17].map dk=[.int .i64 bs]) N ⟨_,0,_,_,_,_,none,0,_,none,0,_,none,0,_,_,rfl,c,d,f,g,a5.gr a,Zb.nil,Zb.nil,Zb.nil,u,rfl⟩ ?_;clear c;intro bl dk l hI;obtain ⟨A,bs,C,D,E,ex,Z,n,m,bt,bu,U,Q,R,V,S,hn,c,d,f,g,h,e2,k,i,u,hs⟩:=hI;subst hn;refine .lL [17] hs ?_
 cases S with
 | zero=>rw [Zcs.eq_1] at c;cases c
 | succ S=>
  rw [Zcs.eq_2] at c;refine go ?_;refine Zm c (fun hb c=>go ?_) fun hb c=>go ?_
  ·refine Y8 (col:=A) [(0,1),(1,0),(2,1),(3,0),(4,1),(5,1),(6,0),(7,3),(8,3),(9,2),(10,1),(11,2)] (by kernel_rfl) (by kernel_rfl)<|xF ⟨_,_,rfl⟩ ?_;refine xW (fun _ a=>((u.atN).nth (q:=2) rfl).gr (a.bl A)) ?_;refine xF ⟨_,_,rfl⟩ ?_;refine xW (fun _ a=>((f.atN).nth (q:=2) rfl).gr (a.bl A)) ?_;refine xu rfl rfl (fun _=>Yd rfl) ?_;obtain ⟨_,q,c⟩:=bZ c;refine xu rfl rfl (fun _=>X8 underlying23 sizeOf22 rfl rfl (Z0 q).1 (Z0 q).2.1 ((bk.ks d).addr q)) ?_;obtain ⟨_,dh,di⟩:=(bk.ks d).atN q;obtain ⟨⟨_,_,rfl,b3⟩,_⟩:=dh;refine xW (fun _ a=>di.one.gr (a.bl A)) ?_;refine xe rfl rfl ?_;intro _ b;have a:=b.bl A;obtain ⟨e3,L,c⟩:=bZ c;refine Zi (Zv3 8 L (b3.gr a)) fun _ _ ⟨A,w,B,T,v,Z⟩=>⟨_,T,?_⟩;refine Zl<|Xo A b v<|xe rfl rfl ?_;intro _ b;replace h:=(h.gr a).gr v;replace e2:=(e2.gr a).gr v;replace k:=(k.gr a).gr v;replace i:=(i.gr a).gr v;replace f:=(f.gr a).gr v;replace g:=(g.gr a).gr v;replace u:=(u.gr a).gr v;replace d:=(d.grow a).grow v;have a:=b.bl A;refine U6 (col:=A) (r:=(Za.row 9 Za.str)) (xs:=[e3]) [.slice w e3.length B] 8 (W5.cons1 (cs:=[.slice w e3.length B]) (Z.gr a).has Rows.nil0) fun _ _ F q B=>Zl<|Xo F b q<|xe rfl rfl ?_;intro v b;replace h:=(h.gr a).gr q;replace e2:=(e2.gr a).gr q;replace k:=(k.gr a).gr q;replace i:=(i.gr a).gr q;replace f:=(f.gr a).gr q;replace g:=(g.gr a).gr q;replace u:=(u.gr a).gr q;replace d:=(d.grow a).grow q;have a:=b.bl F;obtain ⟨q,c⟩:=Z4 c;replace e2:=e2.gr a;refine Sy (col:=F) (w:=v) (r:=(Za.row 9 Za.str)) (c:=5) (c2:=8) (e2.ex) ((B.gr a).srcC (by decide)) rfl underlying23 Z7z rfl rfl rfl q.1 q.2 (by decide) fun az a0 _ J I n=>Zl<|xk J<|xF ⟨_,_,rfl⟩ ?_;refine xe rfl rfl ?_;intro _ b;replace h:=(h.gr a).kpp I;replace k:=(k.gr a).kpp I;replace i:=(i.gr a).kpp I;replace f:=(f.gr a).kpp I;replace g:=(g.gr a).kpp I;replace u:=(u.gr a).kpp I;replace d:=(d.grow a).kpp I;have a:=b.bl J;replace u:=u.gr a
   refine Zah (off:=2) (v:=(.slice az ((m++[e3]).length) a0)) u sizeOf23 rfl rfl (Rs rfl rfl) rfl rfl ?_;intro l K A W;replace W:Zd 27 4 J l H #[.string C,.slice D ex.length E,.slice az ((m++[e3]).length) a0,.slice bt U.length bu,.slice Q V.length R]:=W;refine Zl<|xk J ?_;have j:=((n.gr a).kp K).new;refine Y4 ?_;replace h:=(h.gr a).kp K;replace k:=(k.gr a).kp K;replace i:=(i.gr a).kp K;replace f:=(f.gr a).kp K;replace g:=(g.gr a).kp K;replace d:=(d.grow a).kp K A;intro _ a;replace a:=a.bl J;refine Zx<|Y8 (col:=J) [(0,1),(1,0),(2,1),(3,0),(4,1),(5,1),(6,0),(7,3),(8,3),(9,2),(10,1),(11,2)] (by kernel_rfl) (by kernel_rfl)<|xF ⟨_,_,rfl⟩ ?_;replace W:=W.gr a;refine xW (fun _ a=>((W.atN).nth (q:=3) rfl).gr (a.bl J)) ?_;refine xF ⟨_,_,rfl⟩ ?_;replace f:=f.gr a;refine xW (fun _ a=>((f.atN).nth (q:=3) rfl).gr (a.bl J)) ?_;refine xu rfl rfl (fun _=>Yd rfl) ?_;obtain ⟨_,A,c⟩:=bZ c;replace d:=d.grow a;refine xu rfl rfl (fun _=>X8 underlying24 sizeOf36 rfl rfl (Z0 A).1 (Z0 A).2.1 ((bm.ks d).addr A)) ?_;obtain ⟨_,dp,dq⟩:=(bm.ks d).atN A;obtain ⟨⟨_,_,rfl,b9⟩,_⟩:=dp;refine xW (fun _ a=>dq.one.gr (a.bl J)) ?_;refine xe rfl rfl ?_;intro _ b;replace h:=h.gr a;replace j:=j.gr a;replace k:=k.gr a;replace i:=i.gr a;replace g:=g.gr a;have a:=b.bl J;obtain ⟨e4,J,c⟩:=bZ c;refine Zi (Zos 9 J (b9.gr a)) fun _ _ ⟨B,y,A,T,w,I⟩=>⟨_,T,?_⟩;refine Zl<|Xo B b w<|xe rfl rfl ?_;intro _ b;replace h:=(h.gr a).gr w;replace j:=(j.gr a).gr w;replace k:=(k.gr a).gr w;replace i:=(i.gr a).gr w;replace f:=(f.gr a).gr w;replace g:=(g.gr a).gr w;replace W:=(W.gr a).gr w;replace d:=(d.grow a).grow w;have a:=b.bl B;refine U6 (col:=B) (r:=(Za.row 3 rI)) (xs:=[e4]) [.slice y e4.length A] 9 (W5.cons1 (cs:=[.slice y e4.length A]) (I.gr a).has Rows.nil0) fun _ _ J n F=>Zl<|Xo J b n<|xe rfl rfl ?_;intro q b;replace h:=(h.gr a).gr n;replace j:=(j.gr a).gr n;replace k:=(k.gr a).gr n
   replace i:=(i.gr a).gr n;replace f:=(f.gr a).gr n;replace g:=(g.gr a).gr n;replace W:=(W.gr a).gr n;replace d:=(d.grow a).grow n;have a:=b.bl J;obtain ⟨l,c⟩:=Z4 c;replace k:=k.gr a;refine Sy (col:=J) (w:=q) (r:=(Za.row 3 rI)) (c:=6) (c2:=9) (k.ex) ((F.gr a).srcC (by decide)) rfl underlying24 Z74 rfl rfl rfl l.1 l.2 (by decide) fun a7 a8 _ M J l=>Zl<|xk M<|xF ⟨_,_,rfl⟩ ?_;refine xe rfl rfl ?_;intro _ b;replace h:=(h.gr a).kpp J;replace j:=(j.gr a).kpp J;replace i:=(i.gr a).kpp J;replace f:=(f.gr a).kpp J;replace g:=(g.gr a).kpp J;replace W:=(W.gr a).kpp J;replace d:=(d.grow a).kpp J;have a:=b.bl M;refine Zah (off:=3) (v:=(.slice a7 ((U++[e4]).length) a8)) (W.gr a) sizeOf24 rfl rfl (Rs rfl rfl) rfl rfl ?_;intro b L W t;replace t:Zd 27 4 M b H #[.string C,.slice D ex.length E,.slice az ((m++[e3]).length) a0,.slice a7 ((U++[e4]).length) a8,.slice Q V.length R]:=t;refine Zl<|xk M ?_;have Y:=((l.gr a).kp L).new;refine Y4 ?_;replace h:=(h.gr a).kp L;replace j:=(j.gr a).kp L;replace i:=(i.gr a).kp L;replace f:=(f.gr a).kp L;replace g:=(g.gr a).kp L;replace d:=(d.grow a).kp L W;intro dv a;replace a:=a.bl M;refine go ?_;refine Xy ⟨_,_,rfl⟩ ?_;replace f:=f.gr a;refine lW ((f.atN).nth (q:=4) rfl)<|Xk rfl ?_;obtain ⟨a2,z,c⟩:=bZ c;replace d:=d.grow a;refine lI z ((O.ks d).addr z) ?_;obtain ⟨_,dw,dx⟩:=(O.ks d).atN z;obtain ⟨⟨_,_,rfl,_⟩,_⟩:=dw;refine lW dx.one<|go ?_;obtain ⟨W,c⟩:=Z4 c;refine Zx0 (col:=M) (w:=dv) (r:=(rO 45)) (n:=a2.length) 10 rfl underlying29 Z8b rfl rfl rfl W.1 W.2 fun _ _ _ x dy=>go ?_;refine Xy ⟨_,_,rfl⟩ ?_;replace f:=f.gr x;refine lW ((f.atN).nth (q:=4) rfl)<|Xk rfl ?_;replace d:=d.grow x;refine lI z ((O.ks d).addr z) ?_;obtain ⟨_,dz,d0⟩:=(O.ks d).atN z;obtain ⟨⟨d1,d2,rfl,X⟩,_⟩:=dz;refine lW d0.one<|go ?_;replace h:=(h.gr a).gr x;replace j:=(j.gr a).gr x
   replace Y:=(Y.gr a).gr x;replace i:=(i.gr a).gr x;replace g:=(g.gr a).gr x;replace t:=(t.gr a).gr x;refine Zt [1,16,17,2,3,53,54,1000000] (fun bl dk Z=>∃ G a9 ba p bb bc,bl=bc.length∧a2.drop bb=bc∧Zen N bs C ex m U V (Zcs N o S) e3 e4 bc p=some r∧St s (Zh col) G Z∧Zd 27 1 G Z bn (Rq o P av bh be bi bf bj bg)∧Zd 27 2 G Z cl #[.string (⟨#[]⟩),.slice none (([]:List ByteArray).length) 0,.slice none (([]:List R3).length) 0,.slice none (([]:List R2).length) 0,(.slice none (([]:List R4).length) 0)]∧Zb Za.str 9 3 G Z D E ex∧Zb (Za.row 9 Za.str) 22 5 G Z az a0 (m++[e3])∧Zb (Za.row 3 rI) 36 6 G Z a7 a8 (U++[e4])∧Zb (Za.row 42 (rO 45)) 29 7 G Z Q R V∧Zd 27 4 G Z H #[.string C,.slice D ex.length E,.slice az ((m++[e3]).length) a0,.slice a7 ((U++[e4]).length) a8,.slice Q V.length R]∧Zb (rO 45) 42 10 G Z a9 ba p∧Sl rQ G Z d1 d2 a2∧[55,5].map dk=[.int .i64 bb,.slice a9 p.length ba]) a2.length ⟨_,_,_,_,0,_,rfl,rfl,c,d,f,g,h,j,Y,i,t,dy,X,rfl⟩ ?_;clear c;intro bl dk Z hI;obtain ⟨G,a9,ba,p,bb,bc,hn,hl,c,d,f,g,h,j,Y,i,t,ai,X,hs⟩:=hI;subst hn;refine .lL [55,5] hs ?_
   cases bc with
   | nil=>
    have x:¬ ((bb:Int)<(a2.length:Int)):=by have:=aJ.1 hl;omega
    have P:=decide_eq_false x;rw [Zen.eq_1] at c;refine go ?_;refine Ym (congrArg Value.bool P)<|go ?_;refine Z9 t<|Y3 rfl<|U6 (col:=G) (r:=(Za.row 42 (rO 45))) (xs:=[p]) [.slice a9 p.length ba] 10 (W5.cons1 (cs:=[.slice a9 p.length ba]) ai.has Rows.nil0) ?_;intro _ O M z R;obtain ⟨Q,c⟩:=Z4 c;replace i:=i.gr z;refine Sy (col:=M) (w:=O) (r:=(Za.row 42 (rO 45))) (c:=7) (c2:=10) (i.ex) (R.srcC (by decide)) rfl underlying25 Z72 rfl rfl rfl Q.1 Q.2 (by decide) fun R a _ W O b=>Xy ⟨_,_,rfl⟩ ?_;replace t:=(t.gr z).kpp O;refine Zah (off:=4) (v:=(.slice R ((V++[p]).length) a)) t sizeOf25 rfl rfl (Rs rfl rfl) rfl rfl ?_;intro Q M J s;replace s:Zd 27 4 W Q H #[.string C,.slice D ex.length E,.slice az ((m++[e3]).length) a0,.slice a7 ((U++[e4]).length) a8,.slice R ((V++[p]).length) a]:=s;have C:=(b.kp M).new;refine go ?_;replace h:=((h.gr z).kpp O).kp M;replace j:=((j.gr z).kpp O).kp M;replace Y:=((Y.gr z).kpp O).kp M;replace f:=((f.gr z).kpp O).kp M;replace g:=((g.gr z).kpp O).kp M;replace d:=((d.grow z).kpp O).kp M J;exact ⟨S,by omega,rfl,⟨_,_,_,_,_,_,_,_,_,_,_,_,_,_,_,_,rfl,c,d,f,g,h,j,Y,C,s,rfl⟩⟩
   | cons ch ea=>
    obtain ⟨p,eb,ec⟩:=Yt hl;have x:(bb:Int)<(a2.length:Int):=by omega
    have P:=decide_eq_true x;rw [Zen.eq_2] at c;refine go ?_;refine Yn (congrArg Value.bool P)<|go ?_;refine lI p (X.addr p) ?_;obtain ⟨_,ed,ee⟩:=X.atN p;obtain ⟨_,_,rfl,ef,eg⟩:=Wq ed;obtain ⟨_,_,rfl,eh,ei⟩:=Wq ef;obtain ⟨rfl,_⟩:=eh;obtain ⟨⟨ej,ek,rfl,cj⟩,_⟩:=ei;obtain ⟨⟨el,em,rfl,ck⟩,_⟩:=eg;refine lV (.agg #[.bool ch.1.1,.slice ej ch.1.2.length ek,.slice el ch.2.length em]) (Yl isAgg42 sizeOf42 rfl rfl ee)<|Xr (col:=G) #[.bool false,(nI),(nI)] 11 zeroValue42 ?_;intro _ _ _ V H;refine Z6 H fun _ U a m=>go ?_;refine lV _ (Z5 isAgg42 sizeOf42 m)<|lV (.agg #[.bool false,(nI),(nI)]) (Wo (l:=[_,_]) (qs:=[(0,2),(2,1)]) underlying42 zeroValue42 ⟨rfl,sizeOf40,rfl,sizeOf38,trivial⟩ rfl) ?_;obtain ⟨l,S,c⟩:=bZ c;refine Zi (Zoh 12 13 S ((cj.gr V).kp U) ((ck.gr V).kp U) Sl.nil Sl.nil) fun _ _ ⟨H,C,D,E,G,T,b,p,s⟩=>⟨_,T,?_⟩;have P:=Yg.join (Yg.joinL (Zaa l.1.1) p.has) s.has (by decide) (by decide);replace h:=((h.gr V).kp U).gr b;replace h:=h.recol 13 12;replace j:=((j.gr V).kp U).gr b;replace j:=j.recol 13 12;replace Y:=((Y.gr V).kp U).gr b;replace Y:=Y.recol 13 12;replace i:=((i.gr V).kp U).gr b;replace i:=i.recol 13 12;replace X:=((X.gr V).kp U).gr b;replace X:=X.recol 13 12;replace ai:=((ai.gr V).kp U).gr b;replace ai:=ai.recol 13 12;replace f:=((f.gr V).kp U).gr b;replace f:=f.recol 13 12;replace g:=((g.gr V).kp U).gr b;replace g:=g.recol 13 12;replace t:=((t.gr V).kp U).gr b;replace t:=t.recol 13 12;replace d:=((d.grow V).kp U a).grow b;replace d:=d.recol 13 12 (by decide) (by decide)
    refine U6 (col:=(Xv 13 12 H)) (r:=(rO 45)) (xs:=[((l.1.1,l.1.2),l.2)]) [(.agg #[.bool l.1.1,.slice C l.1.2.length D,.slice E l.2.length G])] 12 (W5.cons1 (cs:=[.bool l.1.1,.slice C l.1.2.length D,.slice E l.2.length G]) P Rows.nil0) ?_;intro _ _ _ a T;obtain ⟨x,c⟩:=Z4 c;refine Wy (c:=10) (c2:=12) (ai.gr a) (T.srcC (by decide)) x fun _ _ _ _ m z=>go ?_;replace h:=(h.gr a).kpp m;replace i:=(i.gr a).kpp m;replace X:=(X.gr a).kpp m;replace g:=(g.gr a).kpp m;replace d:=(d.grow a).kpp m;exact ⟨ea.length,by simp,rfl,⟨_,_,_,_,_,_,rfl,eb,c,d,(f.gr a).kpp m,g,h,(j.gr a).kpp m,(Y.gr a).kpp m,i,(t.gr a).kpp m,z,X,(Yz (congrArg (Value.int .i64) (Yv (aI ec X.1.1))) rfl)⟩⟩
  refine lV _ (Z5 isAgg27 sizeOf27 u)<|Z6 g ?_;intro _ bd e0 e1;refine go ?_;cases c;replace d:=d.kp bd e0;exact ⟨rfl,_,ra e1.atN,_,_,_,_,_,_,_,_,_,rfl,d.fin (cm [(3,c1),(5,c2),(6,c3),(7,c4)]),d.fo (h.kp bd),d.fo (e2.kp bd),d.fo (k.kp bd),d.fo (i.kp bd)⟩
section
variable {N W K:Nat} {n:Zq} (hf:X2 N n) (hs:W8 n W) (hr:Z3 N (8 * K+40)) (hWK:1025 * (W+2)+4≤K) (hN:2000000<N)
include hf hs hr hWK hN
omit hf hs hN in
theorem Zx5 (v:Int) (m1:ByteArray) (m2:List ByteArray) (m3:List R3) (m4:List R2) (m5:List (List QV)) (h5:m5.length≤1048576) (kk:Int→ByteArray→List ByteArray→List R3→List R2→List (List QV)→Option Zq) (r1:List ByteArray) (r2:List Int):∀ (l out:List QV),(∀ x ∈ l,W2 x∧max x.1.2.length x.2.length≤W)→out.length+l.length≤1048576→
  Zen N v m1 m2 m3 m4 m5 kk r1 r2 l out=kk (i64.wrap (v+1)) m1 m2 (m3++[r1]) (m4++[r2]) (m5++[out++l.map Yy])
 | [],out,_,a=>by
  rw [Zen.eq_1,Z7 (by simp only [aK,maxLen];omega),dD,cV]
 | x :: l,out,b,a=>by
  obtain ⟨c,f⟩:=b x aO
  have g:RV 0 ((false,([]:List Int)),([]:List Int)):=⟨by simp [Zp],by simp [Zp],by simp,by simp⟩
  have d:Zr ((false,([]:List Int)),([]:List Int))=0:=by rw [Zr];simp [Zw,Zc]
  have i:Qo N ((x.1.1,x.1.2),x.2) ((false,([]:List Int)),([]:List Int))=some (Yy x):=by
   have:=Zlx ((Zab c.1 c.2).mono f) g (hr.mono (by omega))
   rwa [d,Rat.add_zero] at this
  rw [nC] at a
  rw [Zen.eq_2,i,oB,Z7 (by simp only [aK,maxLen];omega)]
  have e:=Zx5 v m1 m2 m3 m4 m5 h5 kk r1 r2 l (out++[Yy x]) (fun y j=>b y (aN _ j)) (by rw [nA,aK];omega)
  rw [bC] at e
  exact e
omit hN in
theorem Zx4:∀ (f v:Nat),v≤n.2.1.length→n.2.1.length<f+v→Zcs N n f (v:Int) n.1 n.2.1 (n.2.2.1.take v) (n.2.2.2.1.take v) ((n.2.2.2.2.take v).map (fX Yy))=some (Wk n)
 | 0,v,g,i=>by omega
 | f+1,v,g,i=>by
  have q:=hf.ev.v;have s:=hf.ev.p;have u:=hf.ev.t;have o:=hf.le
  rw [Zcs.eq_2]
  by_cases hk:v<n.2.1.length
  ·have b:v<n.2.2.1.length:=by omega
   have c:v<n.2.2.2.1.length:=by omega
   have a:v<n.2.2.2.2.length:=by omega
   have j:Zh2 n.2.2.1[v]=some n.2.2.1[v]:=by
    have:=hs.vl _ (aB b)
    rw [Zh2,Z7 (by simp only [nN,maxLen];omega),bF]
   have k:Za5 n.2.2.2.1[v]=some n.2.2.2.1[v]:=Zou (by have:=hs.pn.ls _ (aB c);omega)
   have d:=fun x l=>Ziv hf hs hk x (by rw [Xl a];exact l)
   have m:=Zx5 hr hWK (v:Int) n.1 n.2.1 (n.2.2.1.take v) (n.2.2.2.1.take v) ((n.2.2.2.2.take v).map (fX Yy)) (by rw [aH,nK];omega) (Zcs N n f) n.2.2.1[v] n.2.2.2.1[v] n.2.2.2.2[v] [] d (by have:=hs.tl _ (aB a);simpa using this)
   have e:=Zx4 f (v+1) (by omega) (by omega)
   rw [cB b,cB c,cB a,dI,eO] at e
   rw [if_pos (dT (by omega)),Zs b,oB,j,oB,Z7 (by simp only [nK,aK,maxLen];omega),Zs c,oB,k,oB,Z7 (by simp only [nK,aK,maxLen];omega),Zs a,oB,Z7 (by have:=hs.tl _ (aB a);simp only [maxLen];omega),m,wS (by omega),bF]
   exact e
  ·rw [if_neg (dF (by omega)),bA (by omega),bA (by omega),bA (by omega)];rfl
theorem Z9a:Zjh N n=some (Wk n):=by
 have a:=hf.le
 have h:=Zx4 hf hs hr hWK N 0 (aQ _) (by omega)
 rw [eI,eI,eI,dD] at h
 rw [Zjh,Zh2,Z7 (by simp only [nN,maxLen];omega),oB,bF]
 exact h
end
theorem Zz3 {b:Nat}:∀ l:List QV,(∀ x ∈ l,RV b x)→X6 l≤(b+2) * l.length
 | [],_=>by rw [X6];omega
 | x :: l,h=>by
  have a:=h x aO
  have d:=a.lm;have e:=a.ld
  have f:=Zz3 l fun y c=>h y (aN _ c)
  rw [X6,nC,Nat.mul_add,Nat.mul_one];omega
def Ua (M:Rat) (c:List Int):List QV:=c.map fun x:Int=>Zn ((x:Rat)+M)
abbrev Zro:=ByteArray×List ByteArray×List R3×List R2×List (List QV)
def Se {α:Type} (ms l:List α):Nat×List α:=(l.length,l++ms)
structure Zln (n:Zro):Prop where
 nm:n.2.1.length≤1048576
 vn:n.2.2.1.length≤1048576
 vl:∀ l ∈ n.2.2.1,l.length≤1048576
 pn:n.2.2.2.1.length≤1048576
 pl:∀ l ∈ n.2.2.2.1,l.length≤1048576
 tn:n.2.2.2.2.length≤1048576
 tl:∀ t ∈ n.2.2.2.2,t.length≤1048576
 tm:∀ t ∈ n.2.2.2.2,∀ x ∈ t,x.1.2.length≤1048576∧x.2.length≤1048576
theorem Xcs {α:Type} (ms l:List α):Zdx (Se ms l)=l:=by rw [Zdx,Se];exact List.take_left
theorem Z9l {α:Type} (ms:List α) (L:List (List α)):(L.map (Se ms)).map Zdx=L:=by
 rw [gJ]
 conv=>rhs;rw [← List.map_id L]
 exact fC fun l _=>Xcs ms l
def Zhc (N:Nat) (b c:List Int):Nat→Int→Option Bool
  | 0,_=>none
  | d+1,a=>if (decide (a<(b.length:Int)))=true then ((Zk b a).bind fun e=>(Zk c a).bind fun f=>if (!decide (e=f))=true then (some false) else ((Zhc N b c d) (i64.wrap (a+1)))) else (some true)
def Zkc (N:Nat) (a b:List Int):Option Bool:=
  if (!decide ((a.length:Int)=(b.length:Int)))=true then (some false) else (Zhc N a b N 0)
theorem Zvm {N l o:Nat} {m n:Option Addr} {col:Ze} {c:World} {d g:R2} {r:Bool} (a:Zkc N d g=some r) (h:Sl rU col c m l d) (i:Sl rU col c n o g):
    Calls prog 44 #[.slice m d.length l,.slice n g.length o] c (Vk c r):=by
 refine Xc 4 (m:=26) func44 rfl rfl rfl rfl rfl ?_;rw [Zkc.eq_1] at a;have b:=St.start col c;refine go ?_;replace h:=h.k0;replace i:=i.k0;refine Zm a (fun f a=>go ?_) fun f a=>go ?_
 ·cases a;exact ⟨rfl,rfl,b.below⟩
 refine Zt [0,1,1000000] (fun v w x=>∃ j s k,k=v∧Zhc N d g k s=some r∧St c (Zh col) j x∧[5].map w=[.int .i64 s]) N ⟨_,0,_,rfl,a,b,rfl⟩ ?_;clear a;intro v w x y;obtain ⟨j,s,k,t,a,b,u⟩:=y;subst t;refine .lL [5] u ?_
 cases k with
 | zero=>rw [Zhc.eq_1] at a;cases a
 | succ k=>
  rw [Zhc.eq_2] at a;refine go ?_;refine Zm a (fun f a=>go ?_) fun f a=>go ?_
  ·refine Wg (col:=j) (by kernel_rfl) (by kernel_rfl)<|go ?_;obtain ⟨_,p,a⟩:=bZ a;refine qI p ((h.ks b).addr p)<|qW (fun _ e=>((h.ks b).gr (e.bl j)).atInt p) ?_;refine go ?_;obtain ⟨_,q,a⟩:=bZ a;refine qI q ((i.ks b).addr q)<|qW (fun _ e=>((i.ks b).gr (e.bl j)).atInt q) ?_;refine go ?_;refine Y1 ?_;intro _ e;replace b:=b.grow (e.bl j);refine Zm a (fun f a=>go ?_) fun f a=>go ?_
   ·cases a;exact ⟨rfl,rfl,b.below⟩
   exact ⟨k,by omega,rfl,⟨_,_,_,rfl,a,b,rfl⟩⟩
  cases a;exact ⟨rfl,rfl,b.below⟩
def Zmv (a:Bool):Option Bool:=
  some a
def Zpn (N:Nat) (a:R5) (b:R5):Option Bool:=
  if (decide (a.1=b.1))=true then ((Zkc N a.2 b.2).bind fun c=>Zmv c) else (Zmv false)
theorem Z53 {N n o:Nat} {p s:Option Addr} {col:Ze} {d:World} {b c:R5} {r:Bool} (a:Zpn N b c=some r) (g:Sl rU col d p n b.2) (i:Sl rU col d s o c.2):
    Calls prog 43 #[(.agg #[.bool b.1,.slice p b.2.length n]),(.agg #[.bool c.1,.slice s c.2.length o])] d (Vk d r):=by
 refine Xc 4 (m:=17) func43 rfl rfl rfl rfl rfl ?_;rw [Zpn.eq_1] at a;have e:=St.start col d;refine go ?_;refine Xg (col:=(Zh col)) 1 rfl fun _ _ x A f=>Xg (col:=x) 2 rfl fun _ _ C q w=>Zd9 rfl<|Zl<|Zx ?_;replace e:=(e.grow A).grow q;replace f:=f.gr q;refine Wp.cutK [1000000] (fun t u=>∃ v h,Zmv h=some r∧St d (Zh col) v u∧[4].map t=[.bool h]) ?_ ?_
 ·intro t u y;obtain ⟨v,h,a,e,m⟩:=y;rw [Zmv.eq_1] at a;refine .lL [4] m<|W1 ?_;cases a;exact ⟨rfl,rfl,e.below⟩
 refine W0<|Z9 f<|Z9 w ?_;refine go ?_;refine Ye a (fun k a=>go ?_) fun k a=>go ?_
 ·refine Xy ⟨_,_,rfl⟩ ?_;refine go ?_;refine lW ((f.atN).nth (q:=1) rfl)<|go ?_;refine Xy ⟨_,_,rfl⟩ ?_;refine go ?_;refine lW ((w.atN).nth (q:=1) rfl)<|go ?_;obtain ⟨B,z,a⟩:=bZ a;refine Zi (Zvm z (g.k0.ks e) (i.k0.ks e)) fun _ _ ⟨l,j⟩=>⟨_,l,?_⟩;replace j:=Rr C j;refine lV (.bool B) (X0 (congrArg Value.bool k) rfl)<|go ?_;replace e:=e.grow j;exact ⟨rfl,_,_,a,e,rfl⟩
 refine lV (.bool false) (X7 (congrArg Value.bool k) rfl)<|go ?_;exact ⟨rfl,_,_,a,e,rfl⟩
def Zmy (a:Bool):Option Bool:=
  some a
def Zmx (N:Nat) (a:R1) (b:R1):Option Bool:=
  (Zpn N (a.1.1,a.1.2) (b.1.1,b.1.2)).bind fun c=>if c=true then ((Zkc N a.2 b.2).bind fun d=>Zmy d) else (Zmy false)
theorem Z58 {N k y l A:Nat} {n B o C:Option Addr} {col:Ze} {d:World} {b c:R1} {r:Bool} (a:Zmx N b c=some r) (p:Sl rU col d n k b.1.2) (s:Sl rU col d B y b.2) (t:Sl rU col d o l c.1.2) (u:Sl rU col d C A c.2):
    Calls prog 11 #[(.agg #[.bool b.1.1,.slice n b.1.2.length k,.slice B b.2.length y]),(.agg #[.bool c.1.1,.slice o c.1.2.length l,.slice C c.2.length A])] d (Vk d r):=by
 refine Xc 4 (m:=17) func11 rfl rfl rfl rfl rfl ?_;rw [Zmx.eq_1] at a;have e:=St.start col d;refine go ?_;refine Xg (col:=(Zh col)) 1 rfl fun _ _ F J h=>Xg (col:=F) 2 rfl fun _ _ E v D=>Zd9 rfl<|Zl<|Zx ?_;replace e:=(e.grow J).grow v;replace h:=h.gr v;refine Wp.cutK [1000000] (fun w x=>∃ z i,Zmy i=some r∧St d (Zh col) z x∧[4].map w=[.bool i]) ?_ ?_
 ·intro w x G;obtain ⟨z,i,a,e,q⟩:=G;rw [Zmy.eq_1] at a;refine .lL [4] q<|W1 ?_;cases a;exact ⟨rfl,rfl,e.below⟩
 refine W0<|Xy ⟨_,_,rfl⟩ ?_;refine lV (.agg #[.bool b.1.1,.slice n b.1.2.length k]) (Yl isAgg40 sizeOf40 rfl rfl ((h.atN).part 0 2 _ rfl))<|Xy ⟨_,_,rfl⟩ ?_;refine lV (.agg #[.bool c.1.1,.slice o c.1.2.length l]) (Yl isAgg40 sizeOf40 rfl rfl ((D.atN).part 0 2 _ rfl)) ?_;obtain ⟨_,H,a⟩:=bZ a;refine Zi (Z53 H (p.k0.ks e) (t.k0.ks e)) fun _ _ ⟨f,g⟩=>⟨_,f,?_⟩;replace g:=Rr E g;refine Vb rfl ?_;replace e:=e.grow g;refine Ye a (fun m a=>go ?_) fun m a=>go ?_
 ·refine Xy ⟨_,_,rfl⟩ ?_;refine go ?_;refine lW (((h.gr g).atN).nth (q:=2) rfl)<|go ?_;refine Xy ⟨_,_,rfl⟩ ?_;refine go ?_;refine lW (((D.gr g).atN).nth (q:=2) rfl)<|go ?_;obtain ⟨K,I,a⟩:=bZ a;refine Zi (Zvm I (s.k0.ks e) (u.k0.ks e)) fun _ _ ⟨f,j⟩=>⟨_,f,?_⟩;replace j:=Rr E j;refine lV (.bool K) (X0 (congrArg Value.bool m) rfl)<|go ?_;replace e:=e.grow j;exact ⟨rfl,_,_,a,e,rfl⟩
 refine lV (.bool false) (X7 (congrArg Value.bool m) rfl)<|go ?_;exact ⟨rfl,_,_,a,e,rfl⟩
/-! fractions that are the same -/
theorem Z2i {N:Nat} {l:List Int} (hl:l.length≤1099511627776):∀ (f i:Nat),i≤l.length→l.length<f+i→Zhc N l l f (i:Int)=some true
 | 0,i,a,b=>by omega
 | f+1,i,a,b=>by
  rw [Zhc.eq_2]
  by_cases hi:i<l.length
  ·rw [if_pos (dT (by omega)),Zs hi,oB,oB,if_neg (by rw [decide_eq_true rfl];decide),wS (by omega)]
   exact Z2i hl f (i+1) (by omega) (by omega)
  ·rw [if_neg (dF (by omega))]
theorem Z2j {N:Nat} {l:List Int} (hl:l.length≤1099511627776) (hN:1099511627777<N):Zkc N l l=some true:=by
 rw [Zkc,if_neg (by rw [decide_eq_true rfl];decide)]
 exact Z2i hl N 0 (aQ _) (by omega)
theorem Z2k {N:Nat} {x:QV} (h:x.1.2.length≤1099511627776∧x.2.length≤1099511627776) (hN:1099511627777<N):Zmx N ((x.1.1,x.1.2),x.2) ((x.1.1,x.1.2),x.2)=some true:=by
 rw [Zmx,Zpn,if_pos (dT rfl),Z2j h.1 hN,oB,Zmv,oB,if_pos rfl,Z2j h.2 hN,oB,Zmy]
theorem Z7y:Wt prog 22 1 24:=⟨Tryz.t22,_,rfl,rfl,rfl,rfl,rfl⟩
theorem Z70:Wt prog 29 1 24:=⟨Tryz.t29,_,rfl,rfl,rfl,rfl,rfl⟩
theorem Z73:Wt prog 36 1 24:=⟨Tryz.t36,_,rfl,rfl,rfl,rfl,rfl⟩
def Zhx (N:Nat) (f:R0) (g:ByteArray) (i:List ByteArray) (j:List R3) (k:List R2) (c:List R4) (d:Int) (kk_L3:(ByteArray→R3→Rb→R6→R9→Int→Option R0)):Nat→Int→R4→Option R0
  | 0,_,_=>none
  | m+1,e,b=>(Zk f.2.2.2.2 d).bind fun l=>if (decide (e<(l.length:Int)))=true then ((Zk l e).bind fun a=>Z2 ((([]:List Int).length+a.1.2.length) * 4≤140737488355328∧([]:List Int).length+a.1.2.length≤maxLen) (Z2 ((([]:List Int).length+a.2.length) * 4≤140737488355328∧([]:List Int).length+a.2.length≤maxLen) (Z2 ((b.length+[((a.1.1,([]:List Int)++a.1.2),([]:List Int)++a.2)].length) * 56≤140737488355328∧b.length+[((a.1.1,([]:List Int)++a.1.2),([]:List Int)++a.2)].length≤maxLen) ((Zhx N f g i j k c d kk_L3 m) (i64.wrap (e+1)) (b++[((a.1.1,([]:List Int)++a.1.2),([]:List Int)++a.2)]))))) else (Z2 ((c.length+[b].length) * 24≤140737488355328∧c.length+[b].length≤maxLen) (kk_L3 g i j k (c++[b]) (i64.wrap (d+1))))
def Zdm (N:Nat) (a:R0):Nat→ByteArray→R3→Rb→R6→R9→Int→Option R0
  | 0,_,_,_,_,_,_=>none
  | i+1,b,c,d,e,f,g=>if (decide (g<(a.2.2.2.2.length:Int)))=true then (Zhx N a b c d e f g (Zdm N a i) N 0 ([]:List R1)) else (some (b,c,d,e,f))
def Zhw (N:Nat) (b:R0):Nat→ByteArray→R3→Rb→R6→R9→Int→Option R0
  | 0,_,_,_,_,_,_=>none
  | j+1,e,f,g,c,i,d=>if (decide (d<(b.2.2.2.1.length:Int)))=true then ((Zk b.2.2.2.1 d).bind fun a=>Z2 ((([]:List Int).length+a.length) * 8≤140737488355328∧([]:List Int).length+a.length≤maxLen) (Z2 ((c.length+[([]:List Int)++a].length) * 24≤140737488355328∧c.length+[([]:List Int)++a].length≤maxLen) ((Zhw N b j) e f g (c++[([]:List Int)++a]) i (i64.wrap (d+1))))) else (Zdm N b N e f g c i 0)
def Zhv (N:Nat) (b:R0):Nat→ByteArray→R3→Rb→R6→R9→Int→Option R0
  | 0,_,_,_,_,_,_=>none
  | j+1,e,f,c,g,i,d=>if (decide (d<(b.2.2.1.length:Int)))=true then ((Zk b.2.2.1 d).bind fun a=>Z2 ((([]:List ByteArray).length+a.length) * 16≤140737488355328∧([]:List ByteArray).length+a.length≤maxLen) (Z2 ((c.length+[([]:List ByteArray)++a].length) * 24≤140737488355328∧c.length+[([]:List ByteArray)++a].length≤maxLen) ((Zhv N b j) e f (c++[([]:List ByteArray)++a]) g i (i64.wrap (d+1))))) else (Zhw N b N e f c g i 0)
def Zb4 (N:Nat) (a:R0):Option R0:=
  Z2 ((([]:List ByteArray).length+a.2.1.length) * 16≤140737488355328∧([]:List ByteArray).length+a.2.1.length≤maxLen) (Zhv N a N a.1 (([]:List ByteArray)++a.2.1) ([]:List R3) ([]:List R2) ([]:List R4) 0)
theorem Zv0 {N a1 O P a2:Nat} {a3 V W a4:Option Addr} {col:Ze} {n:World} {i r:R0} (c1 c2 c3 c4:Nat) (b:Zb4 N i=some r) (A:Sl Za.str col n a3 a1 i.2.1) (R:Sl rV col n V O i.2.2.1) (cb:Sl rP col n W P i.2.2.2.1) (a5:Sl (Za.slice rQ) col n a4 a2 i.2.2.2.2):
    Calls prog 17 #[(.agg (Rq i a3 a1 V O W P a4 a2))] n (fun e c=>∃ (col':Ze) (j:Option Addr) (d:Nat) (T:Option Addr) (k:Nat) (f:Option Addr) (a:Nat) (z:Option Addr) (y:Nat),e= .returned ((.agg (Rq r j d T k f a z y)))∧Zj col n col' c∧Zb Za.str 9 c1 col' c j d r.2.1∧Zb (Za.row 9 Za.str) 22 c2 col' c T k r.2.2.1∧Zb (Za.row 3 rI) 36 c3 col' c f a r.2.2.2.1∧Zb (Za.row 42 (rO 45)) 29 c4 col' c z y r.2.2.2.2):=by
 refine Yx (m:=109) func17 rfl rfl rfl ?_;rw [Zb4.eq_1] at b;have d:=St.start col n;refine go ?_;refine Xg (col:=(Zh col)) 1 rfl fun a6 _ j z g=>Xr (col:=j) #[.string (⟨#[]⟩),.slice none (([]:List ByteArray).length) 0,.slice none (([]:List R3).length) 0,.slice none (([]:List R2).length) 0,(.slice none (([]:List R4).length) 0)] 2 zeroValue27 fun cc _ k B j=>go ?_;refine Xy ⟨_,_,rfl⟩ ?_;replace g:=g.gr B;refine lW ((g.atN).nth (q:=0) rfl)<|lV (.agg #[.string i.1,.slice none (([]:List ByteArray).length) 0,.slice none (([]:List R3).length) 0,.slice none (([]:List R2).length) 0,(.slice none (([]:List R4).length) 0)]) (Wo (l:=[_,_,_,_,_]) (qs:=[(0,1),(1,1),(2,1),(3,1),(4,1)]) underlying27 zeroValue27 ⟨rfl,sizeOf9,rfl,sizeOf22,rfl,sizeOf23,rfl,sizeOf24,rfl,sizeOf25,trivial⟩ rfl)<|Xr (col:=k) #[.string (⟨#[]⟩),.slice none (([]:List ByteArray).length) 0,.slice none (([]:List R3).length) 0,.slice none (([]:List R2).length) 0,(.slice none (([]:List R4).length) 0)] 3 zeroValue27 ?_;intro bl _ _ h k;refine Z6 k fun _ f L k=>go ?_;refine Z9 k<|Xy ⟨_,_,rfl⟩ ?_;replace g:=(g.gr h).kp f;refine lW ((g.atN).nth (q:=1) rfl) ?_;obtain ⟨K,b⟩:=Z4 b;replace d:=(((d.grow z).grow B).grow h).kp f L;refine Wy (c:=4) Zb.nil (A.k0.ks d).srcC K fun x A _ K z u=>Xy ⟨_,_,rfl⟩ ?_;refine Zah (off:=1) (v:=(.slice x ((([]:List ByteArray)++i.2.1).length) A)) (k.kpp z) sizeOf22 rfl rfl (Rs rfl rfl) rfl rfl ?_;intro E y T k;replace k:Zd 27 3 K E bl #[.string i.1,.slice x ((([]:List ByteArray)++i.2.1).length) A,.slice none (([]:List R3).length) 0,.slice none (([]:List R2).length) 0,(.slice none (([]:List R4).length) 0)]:=k;refine go ?_;replace j:=(((j.gr h).kp f).kpp z).kp y;replace g:=(g.kpp z).kp y;replace d:=(d.kpp z).kp y T;replace u:=u.kp y
 refine Zt [1,2,3,1000000] (fun B U Q=>∃ w Y s v F h l D C T K cl cn L q E,E=B∧Zhv N i E Y F D K L q=some r∧St n (Zh col) w Q∧Zd 27 1 w Q a6 (Rq i a3 a1 V O W P a4 a2)∧Zd 27 2 w Q cc #[.string (⟨#[]⟩),.slice none (([]:List ByteArray).length) 0,.slice none (([]:List R3).length) 0,.slice none (([]:List R2).length) 0,(.slice none (([]:List R4).length) 0)]∧Zb Za.str 9 4 w Q s v F∧Zb (Za.row 9 Za.str) 22 5 w Q h l D∧Zb (Za.row 3 rI) 36 6 w Q C T K∧Zb (Za.row 42 (rO 45)) 29 7 w Q cl cn L∧Zd 27 3 w Q bl #[.string Y,.slice s F.length v,.slice h D.length l,.slice C K.length T,.slice cl L.length cn]∧[4].map U=[.int .i64 q]) N ⟨_,_,_,_,_,none,0,_,none,0,_,none,0,_,0,_,rfl,b,d,g,j,u,Zb.nil,Zb.nil,Zb.nil,k,rfl⟩ ?_;clear b;intro B U Q z;obtain ⟨w,Y,s,v,F,h,l,D,C,T,K,cl,cn,L,q,E,y,b,d,g,j,H,S,I,J,k,x⟩:=z;subst y;refine .lL [4] x ?_;replace R:=R.k0;replace cb:=cb.k0;replace a5:=a5.k0
 cases E with
 | zero=>rw [Zhv.eq_1] at b;cases b
 | succ E=>
  rw [Zhv.eq_2] at b;refine go ?_;refine Z9 g ?_;refine go ?_;refine Zm b (fun A b=>go ?_) fun A b=>go ?_
  ·refine Zrf (col:=w) (pS [8]) [(0,1),(1,5),(2,1),(3,1),(4,0),(5,1),(6,1),(7,0),(8,4),(9,3),(10,2),(11,1),(12,2)] (by kernel_rfl) (by kernel_rfl)<|Tm (v:=(.pointer ((some (⟨bl,0,none⟩:Addr)).map (·.add 2)))) rfl rfl (fun _=>Uc (sz:=1) (off:=2) underlying27 rfl sizeOf23 (by decide) rfl rfl ⟨_,_,rfl⟩) ?_;refine Zri (v:=(.slice h D.length l)) rfl rfl (fun _ a=>Sn isAgg23 rfl (((k.dk a rfl rfl).atN).nth (q:=2) (v:=(.slice h D.length l)) rfl)) ?_;refine Tm (v:=(.slice none (([]:List ByteArray).length) 0)) rfl rfl (fun _=>Vl rfl) ?_;refine Tm (v:=(.pointer ((some (⟨a6,0,none⟩:Addr)).map (·.add 2)))) rfl rfl (fun _=>Uc (sz:=1) (off:=2) underlying27 rfl sizeOf23 (by decide) rfl rfl ⟨_,_,rfl⟩) ?_;refine Zlh (v:=(.slice V i.2.2.1.length O)) rfl rfl (fun _ a=>Sn isAgg23 rfl (((g.atN).nth (q:=2) (v:=(.slice V i.2.2.1.length O)) rfl).gr (a.bl w))) ?_;refine Tm (v:=(.int .i64 q)) rfl rfl (fun _=>Vl rfl) ?_;obtain ⟨u,M,b⟩:=bZ b;refine Tm (v:=(Yj V (aA q * 1))) rfl rfl (fun _=>X8 underlying23 sizeOf22 rfl rfl (Z0 M).1 (Z0 M).2.1 ((R.ks d).addr M)) ?_;obtain ⟨_,t,X⟩:=(R.ks d).atN M;obtain ⟨⟨Z,G,rfl,h⟩,_⟩:=t;refine Zlh (v:=(.slice Z u.length G)) rfl rfl (fun _ a=>Sn isAgg22 rfl (X.one.gr (a.bl w))) ?_;refine T7 rfl rfl ?_;intro R f;have a:=f.bl w;replace H:=H.gr a;replace S:=S.gr a;replace I:=I.gr a;replace J:=J.gr a;replace g:=g.gr a;replace j:=j.gr a;replace k:=k.gr a;replace d:=d.grow a;have t:Zu (pS [8]) w Q w R:=a.toP;obtain ⟨M,b⟩:=Z4 b;refine Wy (c:=8) Zb.nil (h.gr a).srcC M ?_;intro G X w o p Q;replace H:=H.kpp p;replace S:=S.kpp p;replace I:=I.kpp p;replace J:=J.kpp p;replace g:=g.kpp p;replace j:=j.kpp p;replace k:=k.kpp p;replace t:=t.trans (p.mono (by first | exact Zqg rfl | exact pS_p1 rfl | exact Zqh rfl));refine Zl ?_;refine ⟨fun c=>Zj o w o c,fun c=>∃ l,Zu (pS [8]) o w l c,Zj.refl _ _,fun _ h=>⟨_,h.toP⟩,fun h=>absurd h (by decide),fun _ _ ⟨q,h⟩=>⟨q,t.trans h⟩,?_⟩;refine T7 rfl rfl ?_;intro Z f;have a:=f.bl o;replace d:=(d.kpp p).grow a;replace H:=H.gr a;replace S:=S.gr a;replace I:=I.gr a;replace J:=J.gr a;replace g:=g.gr a;replace j:=j.gr a;replace k:=k.gr a
   have M:Zu (pS [8]) o w o Z:=a.toP;refine U6 (col:=o) (r:=(Za.row 9 Za.str)) (xs:=[([]:List ByteArray)++u]) [.slice G ((([]:List ByteArray)++u).length) X] 8 (W5.cons1 (cs:=[.slice G ((([]:List ByteArray)++u).length) X]) (Q.gr a).has Rows.nil0) fun _ Q m G t=>Zl ?_;refine ⟨fun c=>Zj m Q m c,fun c=>∃ l,Zu (pS [8]) m Q l c,Zj.refl _ _,fun _ h=>⟨_,h.toP⟩,fun _ _ h=>V4 f G h,fun _ _ ⟨q,h⟩=>⟨q,(M.gr G).trans h⟩,?_⟩;refine T7 rfl rfl ?_;intro Q f;have a:=f.bl m;obtain ⟨R,b⟩:=Z4 b;replace S:=(S.gr G).gr a;refine Sy (col:=m) (w:=Q) (r:=(Za.row 9 Za.str)) (c:=5) (c2:=8) (S.ex) ((t.gr a).srcC (by decide)) rfl underlying23 Z7y rfl rfl rfl R.1 R.2 (by decide) fun o w M t Z R=>Zl ?_;refine ⟨fun c=>Zj t M t c,fun c=>∃ l,Zu (pS [8]) t M l c,Zj.refl _ _,fun _ h=>⟨_,h.toP⟩,fun h=>absurd h (by decide),fun h=>absurd h (by decide),?_⟩;refine Tm (v:=(.pointer ((some (⟨bl,0,none⟩:Addr)).map (·.add 2)))) rfl rfl (fun _=>Uc (sz:=1) (off:=2) underlying27 rfl sizeOf23 (by decide) rfl rfl ⟨_,_,rfl⟩) ?_;refine T7 rfl rfl ?_;intro _ f;replace H:=((H.gr G).gr a).kpp Z;replace I:=((I.gr G).gr a).kpp Z;replace J:=((J.gr G).gr a).kpp Z;replace g:=((g.gr G).gr a).kpp Z;replace j:=((j.gr G).gr a).kpp Z;replace k:=((k.gr G).gr a).kpp Z;replace d:=((d.grow G).grow a).kpp Z;have a:=f.bl t;replace k:=k.gr a;refine Zah (off:=2) (v:=(.slice o ((D++[([]:List ByteArray)++u]).length) w)) k sizeOf23 rfl rfl (Rs rfl rfl) rfl rfl ?_;intro m X G p;replace p:Zd 27 3 t m bl #[.string Y,.slice s F.length v,.slice o ((D++[([]:List ByteArray)++u]).length) w,.slice C K.length T,.slice cl L.length cn]:=p;refine Zl ?_;refine ⟨fun c=>Zj t m t c,fun c=>∃ l,Zu (pS [8]) t m l c,Zj.refl _ _,fun _ h=>⟨_,h.toP⟩,fun h=>absurd h (by decide),fun h=>absurd h (by decide),?_⟩;have D:=((R.gr a).kp X).new;refine Zrh ?_;replace H:=(H.gr a).kp X;replace I:=(I.gr a).kp X;replace J:=(J.gr a).kp X;replace g:=(g.gr a).kp X;replace j:=(j.gr a).kp X;replace d:=(d.grow a).kp X G;intro _ a;replace a:=a.bl t;refine go ?_
   replace H:=H.gr a;replace I:=I.gr a;replace J:=J.gr a;replace g:=g.gr a;replace j:=j.gr a;replace d:=d.grow a;exact ⟨E,by omega,rfl,⟨_,_,_,_,_,_,_,_,_,_,_,_,_,_,_,_,rfl,b,d,g,j,H,D.gr a,I,J,p.gr a,rfl⟩⟩
  refine Zt [1,2,3,1000000] (fun B U M=>∃ v Z cq cr Q ct cu T u w C cv cw X D K,K=B∧Zhw N i K Z Q T C X D=some r∧St n (Zh col) v M∧Zd 27 1 v M a6 (Rq i a3 a1 V O W P a4 a2)∧Zd 27 2 v M cc #[.string (⟨#[]⟩),.slice none (([]:List ByteArray).length) 0,.slice none (([]:List R3).length) 0,.slice none (([]:List R2).length) 0,(.slice none (([]:List R4).length) 0)]∧Zb Za.str 9 4 v M cq cr Q∧Zb (Za.row 9 Za.str) 22 5 v M ct cu T∧Zb (Za.row 3 rI) 36 6 v M u w C∧Zb (Za.row 42 (rO 45)) 29 7 v M cv cw X∧Zd 27 3 v M bl #[.string Z,.slice cq Q.length cr,.slice ct T.length cu,.slice u C.length w,.slice cv X.length cw]∧[6].map U=[.int .i64 D]) N ⟨_,_,_,_,_,_,_,_,_,_,_,_,_,_,0,_,rfl,b,d,g,j,H,S,I,J,k,rfl⟩ ?_;clear b;intro B U M z;obtain ⟨v,Z,cq,cr,Q,ct,cu,T,u,w,C,cv,cw,X,D,K,y,b,d,g,j,E,F,R,G,k,x⟩:=z;subst y;refine .lL [6] x ?_
  cases K with
  | zero=>rw [Zhw.eq_1] at b;cases b
  | succ K=>
   rw [Zhw.eq_2] at b;refine go ?_;refine Z9 g ?_;refine go ?_;refine Zm b (fun A b=>go ?_) fun A b=>go ?_
   ·refine Zrf (col:=v) (pS [9]) [(0,1),(1,5),(2,1),(3,1),(4,0),(5,1),(6,1),(7,0),(8,4),(9,3),(10,2),(11,1),(12,2)] (by kernel_rfl) (by kernel_rfl)<|Tm (v:=(.pointer ((some (⟨bl,0,none⟩:Addr)).map (·.add 3)))) rfl rfl (fun _=>Uc (sz:=1) (off:=3) underlying27 rfl sizeOf24 (by decide) rfl rfl ⟨_,_,rfl⟩) ?_;refine Zri (v:=(.slice u C.length w)) rfl rfl (fun _ a=>Sn isAgg24 rfl (((k.dk a rfl rfl).atN).nth (q:=3) (v:=(.slice u C.length w)) rfl)) ?_;refine Tm (v:=(nI)) rfl rfl (fun _=>Vl rfl) ?_;refine Tm (v:=(.pointer ((some (⟨a6,0,none⟩:Addr)).map (·.add 3)))) rfl rfl (fun _=>Uc (sz:=1) (off:=3) underlying27 rfl sizeOf24 (by decide) rfl rfl ⟨_,_,rfl⟩) ?_;refine Zlh (v:=(.slice W i.2.2.2.1.length P)) rfl rfl (fun _ a=>Sn isAgg24 rfl (((g.atN).nth (q:=3) (v:=(.slice W i.2.2.2.1.length P)) rfl).gr (a.bl v))) ?_;refine Tm (v:=(.int .i64 D)) rfl rfl (fun _=>Vl rfl) ?_;obtain ⟨t,H,b⟩:=bZ b;refine Tm (v:=(Yj W (aA D * 1))) rfl rfl (fun _=>X8 underlying24 sizeOf36 rfl rfl (Z0 H).1 (Z0 H).2.1 ((cb.ks d).addr H)) ?_;obtain ⟨_,u,I⟩:=(cb.ks d).atN H;obtain ⟨⟨m,D,rfl,w⟩,_⟩:=u;refine Zlh (v:=(.slice m t.length D)) rfl rfl (fun _ a=>Sn isAgg36 rfl (I.one.gr (a.bl v))) ?_;refine T7 rfl rfl ?_;intro S f;have a:=f.bl v;replace E:=E.gr a;replace F:=F.gr a;replace R:=R.gr a;replace G:=G.gr a;replace g:=g.gr a;replace j:=j.gr a;replace k:=k.gr a;replace d:=d.grow a;have J:Zu (pS [9]) v M v S:=a.toP;obtain ⟨H,b⟩:=Z4 b;refine Wy (c:=9) Zb.nil (w.gr a).srcC H ?_;intro L Y S p s H;replace E:=E.kpp s;replace F:=F.kpp s;replace R:=R.kpp s;replace G:=G.kpp s;replace g:=g.kpp s;replace j:=j.kpp s;replace k:=k.kpp s;replace J:=J.trans (s.mono (by first | exact Zqg rfl | exact pS_p1 rfl | exact Zqh rfl));refine Zl ?_;refine ⟨fun c=>Zj p S p c,fun c=>∃ l,Zu (pS [9]) p S l c,Zj.refl _ _,fun _ h=>⟨_,h.toP⟩,fun h=>absurd h (by decide),fun _ _ ⟨q,h⟩=>⟨q,J.trans h⟩,?_⟩;refine T7 rfl rfl ?_;intro m f;have a:=f.bl p;replace d:=(d.kpp s).grow a;replace E:=E.gr a;replace F:=F.gr a;replace R:=R.gr a;replace G:=G.gr a;replace g:=g.gr a;replace j:=j.gr a
    replace k:=k.gr a;have u:Zu (pS [9]) p S p m:=a.toP;refine U6 (col:=p) (r:=(Za.row 3 rI)) (xs:=[([]:List Int)++t]) [.slice L ((([]:List Int)++t).length) Y] 9 (W5.cons1 (cs:=[.slice L ((([]:List Int)++t).length) Y]) (H.gr a).has Rows.nil0) fun _ D o L s=>Zl ?_;refine ⟨fun c=>Zj o D o c,fun c=>∃ l,Zu (pS [9]) o D l c,Zj.refl _ _,fun _ h=>⟨_,h.toP⟩,fun _ _ h=>V4 f L h,fun _ _ ⟨q,h⟩=>⟨q,(u.gr L).trans h⟩,?_⟩;refine T7 rfl rfl ?_;intro J f;have a:=f.bl o;obtain ⟨I,b⟩:=Z4 b;replace R:=(R.gr L).gr a;refine Sy (col:=o) (w:=J) (r:=(Za.row 3 rI)) (c:=6) (c2:=9) (R.ex) ((s.gr a).srcC (by decide)) rfl underlying24 Z73 rfl rfl rfl I.1 I.2 (by decide) fun J S H s m o=>Zl ?_;refine ⟨fun c=>Zj s H s c,fun c=>∃ l,Zu (pS [9]) s H l c,Zj.refl _ _,fun _ h=>⟨_,h.toP⟩,fun h=>absurd h (by decide),fun h=>absurd h (by decide),?_⟩;refine Tm (v:=(.pointer ((some (⟨bl,0,none⟩:Addr)).map (·.add 3)))) rfl rfl (fun _=>Uc (sz:=1) (off:=3) underlying27 rfl sizeOf24 (by decide) rfl rfl ⟨_,_,rfl⟩) ?_;refine T7 rfl rfl ?_;intro _ f;replace E:=((E.gr L).gr a).kpp m;replace F:=((F.gr L).gr a).kpp m;replace G:=((G.gr L).gr a).kpp m;replace g:=((g.gr L).gr a).kpp m;replace j:=((j.gr L).gr a).kpp m;replace k:=((k.gr L).gr a).kpp m;replace d:=((d.grow L).grow a).kpp m;have a:=f.bl s;replace k:=k.gr a;refine Zah (off:=3) (v:=(.slice J ((C++[([]:List Int)++t]).length) S)) k sizeOf24 rfl rfl (Rs rfl rfl) rfl rfl ?_;intro I Y f q;replace q:Zd 27 3 s I bl #[.string Z,.slice cq Q.length cr,.slice ct T.length cu,.slice J ((C++[([]:List Int)++t]).length) S,.slice cv X.length cw]:=q;refine Zl ?_;refine ⟨fun c=>Zj s I s c,fun c=>∃ l,Zu (pS [9]) s I l c,Zj.refl _ _,fun _ h=>⟨_,h.toP⟩,fun h=>absurd h (by decide),fun h=>absurd h (by decide),?_⟩;have c:=((o.gr a).kp Y).new;refine Zrh ?_;replace E:=(E.gr a).kp Y;replace F:=(F.gr a).kp Y;replace G:=(G.gr a).kp Y;replace g:=(g.gr a).kp Y
    replace j:=(j.gr a).kp Y;replace d:=(d.grow a).kp Y f;intro _ a;replace a:=a.bl s;refine go ?_;replace E:=E.gr a;replace F:=F.gr a;replace G:=G.gr a;replace g:=g.gr a;replace j:=j.gr a;replace d:=d.grow a;exact ⟨K,by omega,rfl,⟨_,_,_,_,_,_,_,_,_,_,_,_,_,_,_,_,rfl,b,d,g,j,E,F,c.gr a,G,q.gr a,rfl⟩⟩
   refine Zt [1,2,3,1000000] (fun B U p=>∃ q H I J K X Y L Z bh M v C u a c,c=B∧Zdm N i c H K L M u a=some r∧St n (Zh col) q p∧Zd 27 1 q p a6 (Rq i a3 a1 V O W P a4 a2)∧Zd 27 2 q p cc #[.string (⟨#[]⟩),.slice none (([]:List ByteArray).length) 0,.slice none (([]:List R3).length) 0,.slice none (([]:List R2).length) 0,(.slice none (([]:List R4).length) 0)]∧Zb Za.str 9 4 q p I J K∧Zb (Za.row 9 Za.str) 22 5 q p X Y L∧Zb (Za.row 3 rI) 36 6 q p Z bh M∧Zb (Za.row 42 (rO 45)) 29 7 q p v C u∧Zd 27 3 q p bl #[.string H,.slice I K.length J,.slice X L.length Y,.slice Z M.length bh,.slice v u.length C]∧[8].map U=[.int .i64 a]) N ⟨_,_,_,_,_,_,_,_,_,_,_,_,_,_,0,_,rfl,b,d,g,j,E,F,R,G,k,rfl⟩ ?_;clear b;intro B U p z;obtain ⟨q,H,I,J,K,X,Y,L,Z,bh,M,v,C,u,a,c,y,b,d,g,j,Q,R,S,T,k,x⟩:=z;subst y;refine .lL [8] x ?_
   cases c with
   | zero=>rw [Zdm.eq_1] at b;cases b
   | succ c=>
    rw [Zdm.eq_2] at b;refine go ?_;refine Z9 g ?_;refine go ?_;refine Zm b (fun A b=>go ?_) fun A b=>go ?_
    ·refine Zt [1,2,3,8,1000000] (fun B U F=>∃ f l E G t D,D=B∧Zhx N i H K L M u a (Zdm N i c) D l t=some r∧St n (Zh col) f F∧Zd 27 1 f F a6 (Rq i a3 a1 V O W P a4 a2)∧Zd 27 2 f F cc #[.string (⟨#[]⟩),.slice none (([]:List ByteArray).length) 0,.slice none (([]:List R3).length) 0,.slice none (([]:List R2).length) 0,(.slice none (([]:List R4).length) 0)]∧Zb Za.str 9 4 f F I J K∧Zb (Za.row 9 Za.str) 22 5 f F X Y L∧Zb (Za.row 3 rI) 36 6 f F Z bh M∧Zb (Za.row 42 (rO 45)) 29 7 f F v C u∧Zd 27 3 f F bl #[.string H,.slice I K.length J,.slice X L.length Y,.slice Z M.length bh,.slice v u.length C]∧Zb (rO 45) 42 10 f F E G t∧[10,9].map U=[.int .i64 l,.slice E t.length G]) N ⟨_,0,none,0,_,_,rfl,b,d,g,j,Q,R,S,T,k,Zb.nil,rfl⟩ ?_;clear b;intro B U F z;obtain ⟨f,l,E,G,t,D,y,b,d,g,j,Q,R,S,T,k,B,x⟩:=z;subst y;refine .lL [10,9] x ?_
     cases D with
     | zero=>rw [Zhx.eq_1] at b;cases b
     | succ D=>
      rw [Zhx.eq_2] at b;refine go ?_;refine Z9 g<|Xk rfl ?_;obtain ⟨_,C,b⟩:=bZ b;refine lI C ((a5.ks d).addr C) ?_;obtain ⟨_,n,y⟩:=(a5.ks d).atN C;obtain ⟨⟨_,_,rfl,_⟩,_⟩:=n;refine lW y.one<|go ?_;refine Zm b (fun A b=>go ?_) fun A b=>go ?_
      ·refine Z9 g<|Xk rfl<|lI C ((a5.ks d).addr C) ?_;obtain ⟨_,v,z⟩:=(a5.ks d).atN C;obtain ⟨⟨_,_,rfl,O⟩,_⟩:=v;refine lW z.one<|Xk rfl ?_;obtain ⟨m,n,b⟩:=bZ b;refine lI n (O.addr n) ?_;obtain ⟨_,s,p⟩:=O.atN n;obtain ⟨_,_,rfl,l,h⟩:=Wq s;obtain ⟨_,_,rfl,P,x⟩:=Wq l;obtain ⟨rfl,_⟩:=P;obtain ⟨⟨P,a,rfl,C⟩,_⟩:=x;obtain ⟨⟨F,U,rfl,l⟩,_⟩:=h;refine lV (.agg #[.bool m.1.1,.slice P m.1.2.length a,.slice F m.2.length U]) (Yl isAgg42 sizeOf42 rfl rfl p)<|Xr (col:=f) #[.bool false,(nI),(nI)] 11 zeroValue42 ?_;intro a _ _ w O;refine Z6 O fun _ v f1 z=>go ?_;refine Xy ⟨_,_,rfl⟩ ?_;refine Xy (Tl ⟨_,_,rfl⟩) ?_;refine lW ((((z.atN).part 0 2 _ rfl)).nth (q:=1) rfl) ?_;obtain ⟨A,b⟩:=Z4 b;refine Wy (c:=12) Zb.nil ((C.gr w).kp v).srcC A fun O P _ o s dz=>Xy ⟨_,_,rfl⟩ ?_;refine Xy (Tl ⟨_,_,rfl⟩) ?_;refine Zah (off:=1) (v:=(.slice O ((([]:List Int)++m.1.2).length) P)) (z.kpp s) sizeOf38 rfl rfl (Rs rfl rfl) rfl rfl ?_;intro h n z x;replace x:Zd 42 11 o h a #[.bool m.1.1,.slice O ((([]:List Int)++m.1.2).length) P,.slice F m.2.length U]:=x;refine go ?_;refine Z9 x ?_;obtain ⟨C,b⟩:=Z4 b;refine Wy (c:=13) Zb.nil ((((l.gr w).kp v).kpp s).kp n).srcC C fun A U _ p l y=>Xy ⟨_,_,rfl⟩ ?_;refine Zah (off:=2) (v:=(.slice A ((([]:List Int)++m.2).length) U)) (x.kpp l) sizeOf38 rfl rfl (Rs rfl rfl) rfl rfl ?_;intro q h x o;replace o:Zd 42 11 p q a #[.bool m.1.1,.slice O ((([]:List Int)++m.1.2).length) P,.slice A ((([]:List Int)++m.2).length) U]:=o;refine go ?_;refine lV _ (Z5 isAgg42 sizeOf42 o) ?_;have F:=Yg.join (Yg.joinL (Zaa m.1.1) (((dz.kp n).kpp l).kp h).has) (y.kp h).has (by decide) (by decide)
       replace Q:=(((((Q.gr w).kp v).kpp s).kp n).kpp l).kp h;replace Q:=Q.recol 13 12;replace R:=(((((R.gr w).kp v).kpp s).kp n).kpp l).kp h;replace R:=R.recol 13 12;replace S:=(((((S.gr w).kp v).kpp s).kp n).kpp l).kp h;replace S:=S.recol 13 12;replace T:=(((((T.gr w).kp v).kpp s).kp n).kpp l).kp h;replace T:=T.recol 13 12;replace B:=(((((B.gr w).kp v).kpp s).kp n).kpp l).kp h;replace B:=B.recol 13 12;replace g:=(((((g.gr w).kp v).kpp s).kp n).kpp l).kp h;replace g:=g.recol 13 12;replace j:=(((((j.gr w).kp v).kpp s).kp n).kpp l).kp h;replace j:=j.recol 13 12;replace k:=(((((k.gr w).kp v).kpp s).kp n).kpp l).kp h;replace k:=k.recol 13 12;replace d:=(((((d.grow w).kp v f1).kpp s).kp n z).kpp l).kp h x;replace d:=d.recol 13 12 (by decide) (by decide);refine U6 (col:=(Xv 13 12 p)) (r:=(rO 45)) (xs:=[((m.1.1,([]:List Int)++m.1.2),([]:List Int)++m.2)]) [(.agg #[.bool m.1.1,.slice O ((([]:List Int)++m.1.2).length) P,.slice A ((([]:List Int)++m.2).length) U])] 12 (W5.cons1 (cs:=[.bool m.1.1,.slice O ((([]:List Int)++m.1.2).length) P,.slice A ((([]:List Int)++m.2).length) U]) F Rows.nil0) ?_;intro _ _ _ o F;obtain ⟨O,b⟩:=Z4 b;replace B:=B.gr o;refine Wy (c:=10) (c2:=12) B (F.srcC (by decide)) O fun _ _ _ _ x n=>go ?_;replace Q:=(Q.gr o).kpp x;replace R:=(R.gr o).kpp x;replace S:=(S.gr o).kpp x;replace T:=(T.gr o).kpp x;replace g:=(g.gr o).kpp x;replace j:=(j.gr o).kpp x;replace k:=(k.gr o).kpp x;replace d:=(d.grow o).kpp x;exact ⟨D,by omega,rfl,⟨_,_,_,_,_,_,rfl,b,d,g,j,Q,R,S,T,k,n,rfl⟩⟩
      refine Z9 k<|Y3 rfl<|U6 (col:=f) (r:=(Za.row 42 (rO 45))) (xs:=[t]) [.slice E t.length G] 10 (W5.cons1 (cs:=[.slice E t.length G]) B.has Rows.nil0) ?_;intro _ E B A U;obtain ⟨P,b⟩:=Z4 b;replace T:=T.gr A;refine Sy (col:=B) (w:=E) (r:=(Za.row 42 (rO 45))) (c:=7) (c2:=10) (T.ex) (U.srcC (by decide)) rfl underlying25 Z70 rfl rfl rfl P.1 P.2 (by decide) fun n y _ l a q=>Xy ⟨_,_,rfl⟩ ?_;replace k:=(k.gr A).kpp a;refine Zah (off:=4) (v:=(.slice n ((u++[t]).length) y)) k sizeOf25 rfl rfl (Rs rfl rfl) rfl rfl ?_;intro f U v B;replace B:Zd 27 3 l f bl #[.string H,.slice I K.length J,.slice X L.length Y,.slice Z M.length bh,.slice n ((u++[t]).length) y]:=B;have Y:=(q.kp U).new;refine go ?_;replace Q:=((Q.gr A).kpp a).kp U;replace R:=((R.gr A).kpp a).kp U;replace S:=((S.gr A).kpp a).kp U;replace j:=((j.gr A).kpp a).kp U;replace d:=((d.grow A).kpp a).kp U v;exact ⟨c,by omega,rfl,⟨_,_,_,_,_,_,_,_,_,_,_,_,_,_,_,_,rfl,b,d,((g.gr A).kpp a).kp U,j,Q,R,S,Y,B,rfl⟩⟩
    refine lV _ (Z5 isAgg27 sizeOf27 k)<|Z6 j ?_;intro _ g c j;refine go ?_;cases b;replace d:=d.kp g c;exact ⟨rfl,_,ra j.atN,_,_,_,_,_,_,_,_,_,rfl,d.fin (cm [(4,c1),(5,c2),(6,c3),(7,c4)]),d.fo (Q.kp g),d.fo (R.kp g),d.fo (S.kp g),d.fo (T.kp g)⟩
def Zhi (N:Nat) (b:List ByteArray) (c:List ByteArray):Nat→Int→Option Bool
  | 0,_=>none
  | d+1,a=>if (decide (a<(b.length:Int)))=true then ((Zk b a).bind fun e=>(Zk c a).bind fun f=>if (!decide (e=f))=true then (some false) else ((Zhi N b c d) (i64.wrap (a+1)))) else (some true)
def Zkl (N:Nat) (a:List ByteArray) (b:List ByteArray):Option Bool:=
  if (!decide ((a.length:Int)=(b.length:Int)))=true then (some false) else (Zhi N a b N 0)
theorem Zvu {N l o:Nat} {m n:Option Addr} {col:Ze} {c:World} {d g:R3} {r:Bool} (a:Zkl N d g=some r) (h:Sl Za.str col c m l d) (i:Sl Za.str col c n o g):
    Calls prog 124 #[.slice m d.length l,.slice n g.length o] c (Vk c r):=by
 refine Xc 4 (m:=26) func124 rfl rfl rfl rfl rfl ?_;rw [Zkl.eq_1] at a;have b:=St.start col c;refine go ?_;replace h:=h.k0;replace i:=i.k0;refine Zm a (fun f a=>go ?_) fun f a=>go ?_
 ·cases a;exact ⟨rfl,rfl,b.below⟩
 refine Zt [0,1,1000000] (fun v w x=>∃ j s k,k=v∧Zhi N d g k s=some r∧St c (Zh col) j x∧[5].map w=[.int .i64 s]) N ⟨_,0,_,rfl,a,b,rfl⟩ ?_;clear a;intro v w x y;obtain ⟨j,s,k,t,a,b,u⟩:=y;subst t;refine .lL [5] u ?_
 cases k with
 | zero=>rw [Zhi.eq_1] at a;cases a
 | succ k=>
  rw [Zhi.eq_2] at a;refine go ?_;refine Zm a (fun f a=>go ?_) fun f a=>go ?_
  ·refine Wg (col:=j) (by kernel_rfl) (by kernel_rfl)<|go ?_;obtain ⟨_,p,a⟩:=bZ a;refine qI p ((h.ks b).addr p)<|qW (fun _ e=>((h.ks b).gr (e.bl j)).atStr p) ?_;refine go ?_;obtain ⟨_,q,a⟩:=bZ a;refine qI q ((i.ks b).addr q)<|qW (fun _ e=>((i.ks b).gr (e.bl j)).atStr q) ?_;refine go ?_;refine Y1 ?_;intro _ e;replace b:=b.grow (e.bl j);refine Zm a (fun f a=>go ?_) fun f a=>go ?_
   ·cases a;exact ⟨rfl,rfl,b.below⟩
   exact ⟨k,by omega,rfl,⟨_,_,_,rfl,a,b,rfl⟩⟩
  cases a;exact ⟨rfl,rfl,b.below⟩

end Go.Proofs.YthclpfhncgpnmaaGreat
