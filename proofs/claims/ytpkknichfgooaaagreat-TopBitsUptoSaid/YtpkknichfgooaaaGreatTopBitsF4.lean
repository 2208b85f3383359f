/-
  What functions of the program compute, as plain Lean functions (m_..), and proofs that they compute it (c_..). Printed by a program of the author; no conditions.
-/
import Derived.Test.YtpkknichfgooaaaGreatTopBitsBFloat
import Derived.Test.YtpkknichfgooaaaGreatProg
import Derived.Test.YtpkknichfgooaaaGreatTopBitsBBrief
import Derived.Test.YtpkknichfgooaaaGreatTopBitsBThree
import Derived.Test.YtpkknichfgooaaaGreatTopBitsF3
set_option linter.unusedVariables false
set_option maxRecDepth 100000
set_option maxHeartbeats 2000000
namespace Go.Proofs.YtpkknichfgooaaaGreat
open Go Go.RowKit
open List renaming mem_cons_self→aK,mem_cons_of_mem→aE,mem_cons→bK,take_add_one→gE,getElem?_eq_getElem→aO,nodup_append→cN,mem_singleton→bD,mem_iff_getElem→iI,getElem_take→gG,mem_append→aY,append_nil→dA,append_assoc→bB,nil_append→cB,drop_eq_nil_of_le→aI,drop_eq_getElem_cons→aP,getElem_mem→aJ,length_map→bE,length_singleton→aL,getElem_map→fG,length_pos_iff→cA,map_cons→bX,cons_append→cK,take_append_drop→fK,any_cons→dL,mem_map→cD,drop_zero→bF,length_drop→cH,drop_take→jN,drop_drop→dZ,mem_of_mem_take→fO,mem_of_mem_drop→fP,any_eq_false→iX,append_inj'→jC,replicate→aC,length_replicate→aT,getD_eq_getElem?_getD→aD,map_nil→cX,sum_nil→kB,drop_eq_nil_iff→aF,getD_cons_zero→dP,getD_cons_succ→cM,sum_cons→dU,ext_getElem→jD,mem_range→eN,range'→iN,mem_range'_1→iY
open Option renaming toList_some→dQ
open Nat renaming lt_or_ge→bW,min_eq_right→dI,min_eq_left→aZ,div_le_self→bY,div_lt_iff_lt_mul→cZ,add_mul→bI,one_mul→bO,le_mul_of_pos_right→dG,le_refl→aV,le_trans→aN,min_le_right→jI,mul_le_mul_right→aX,zero_le→bL,lt_of_lt_of_le→aG,zero_add→cG,add_zero→bV,beq→aH,mul_comm→bP,mod_eq_of_lt→dR
open Int renaming toNat_natCast→aB,natCast_mul→bH,tdiv→aM,tdiv_eq_ediv_of_nonneg→bM,natCast_ediv→gP,natCast_nonneg→cY,ofNat_lt→eL,toNat→aA,natCast_add→cS,tmod→aS
open Rat renaming le_of_lt→dS,not_le→fE,not_lt→bQ,lt_irrefl→fJ,mul_nonneg→jV,add_zero→kL,le_refl→dX,le_trans→bR,le_iff_sub_nonneg→dM,add_assoc→kC,mul_assoc→fB
open Go.IntKind (i8 i16 i32 i64 u8 u16 u32 u64)
open Go.Proofs.Tryz

abbrev Z4:=ByteArray×List ByteArray×List R4×List R2×List (List QV)
instance decMemB:∀ (s:ByteArray) (l:List ByteArray),Decidable (s ∈ l)
 | _,[]=>isFalse (by simp)
 | s,x :: l=>if h:s=x then isTrue (by rw [h];exact aK) else match decMemB s l with
  | isTrue h2=>isTrue (aE _ h2)
  | isFalse h2=>isFalse (by rw [bK];rintro (h3 | h3) <;> contradiction)
theorem Z8y {α:Type} (l:List α) (k:Nat) (hk:k<l.length):(l.take (k+1)).Nodup↔(l.take k).Nodup∧l[k] ∉ l.take k:=by
 rw [gE,aO hk,dQ,cN]
 constructor
 ·rintro ⟨c,_,f⟩
  exact ⟨c,fun g=>f _ g _ (by simp) rfl⟩
 ·rintro ⟨c,i⟩
  refine ⟨c,by simp,fun a j b d e=>?_⟩
  rw [bD] at d
  subst d;subst e
  exact i j
theorem Zw3 (N:Nat) (l:List ByteArray) (hl:l.length<4611686018427387904) (v:Nat) (hv:v<l.length):∀ (n k:Nat),k≤v→v<n+k→l[v] ∉ l.take k→∃ j:Nat,Zgo N l l[v] n (k:Int)=some (j:Int)∧j≤v∧(j<v↔l[v] ∈ l.take v)
 | 0,k,b,e,_=>by omega
 | n+1,k,b,e,c=>by
  have d:k<l.length:=by omega
  rw [Zgo.eq_2,if_pos (dT (by omega)),Xd d,oB]
  by_cases he:l[k]=l[v]
  ·rw [if_pos (dT he)]
   refine ⟨k,rfl,b,fun h=>?_,fun h=>?_⟩
   ·rw [← he]
    exact iI.2 ⟨k,by rw [nK];omega,by rw [gG]⟩
   ·rcases bW k v with a | a
    ·exact a
    ·have:k=v:=by omega
     subst this;exact absurd h c
  ·have f:k<v:=by
    rcases bW k v with a | a
    ·exact a
    ·have:k=v:=by omega
     subst this;exact absurd rfl he
   rw [if_neg (dF he),Zy (by omega)]
   have:=Zw3 N l hl v hv n (k+1) (by omega) (by omega) (by
    rw [gE,aO d,dQ,aY,bD]
    rintro (h | h)
    ·exact c h
    ·exact he h.symm)
   exact this
theorem Zw4 {N:Nat} {l:List ByteArray} (hl:l.length<4611686018427387904) {v:Nat} (hv:v<l.length) (hN:l.length<N):∃ j:Nat,Zmk N l l[v]=some (j:Int)∧(j<v↔l[v] ∈ l.take v):=by
 obtain ⟨j,a,_,b⟩:=Zw3 N l hl v hv N 0 (by omega) (by omega) (by simp)
 exact ⟨j,a,b⟩
theorem Zxu (s:ByteArray):∀ (l:List ByteArray) (k:Nat),∃ j:Int,Zgt s l k=some j∧(0≤j↔s ∈ l)
 | [],k=>⟨-1,rfl,by simp⟩
 | x :: l,k=>by
  rw [Zgt.eq_2]
  by_cases h:s=x
  ·rw [if_pos (dT h)];exact ⟨_,rfl,by simp [h]⟩
  ·rw [if_neg (dF h)]
   obtain ⟨j,a,b⟩:=Zxu s l (k+1)
   exact ⟨j,a,by rw [b,bK];simp [h]⟩
theorem Z50 (s:ByteArray) (l:List ByteArray):Zmq l s=some (decide (s ∈ l)):=by
 obtain ⟨j,a,b⟩:=Zxu s l 0
 rw [Zmq,Zpe,a,oB]
 congr 1
 exact decide_eq_decide.2 b
theorem Zyw:∀ (l:List ByteArray) (seen:List Rj) (S:List ByteArray),S.Nodup→(∀ k,W1 seen k=if k ∈ S then some 1 else none)→Zd4 l seen=some (!decide (S++l).Nodup)
 | [],seen,S,c,d=>by rw [Zd4.eq_1,dA,decide_eq_true c];rfl
 | x :: l,seen,S,c,d=>by
  rw [Zd4.eq_2,d x]
  by_cases hx:x ∈ S
  ·rw [if_pos hx,if_pos (by decide),decide_eq_false]
   ·rfl
   intro h
   exact (cN.1 h).2.2 x hx x aK rfl
  ·rw [if_neg hx,if_neg (by decide),oB,Zyw l _ (S++[x]) (by
    rw [cN]
    refine ⟨c,by simp,fun a g b f e=>?_⟩
    rw [bD] at f;subst f;subst e;exact hx g) (fun k=>by
    rw [Zyp,d k]
    by_cases hk:k=x
    ·subst hk;rw [if_pos rfl,if_pos (by simp)]
    ·rw [if_neg hk]
     by_cases hs:k ∈ S
     ·rw [if_pos hs,if_pos (by simp [hs])]
     ·rw [if_neg hs,if_neg (by simp [hs,hk])])]
   rw [bB];rfl
theorem Z8q (l:List ByteArray):Zlw l=some (!decide l.Nodup):=by
 rw [Zlw,Zyw l [] [] .nil (fun k=>by simp [W1]),cB]
def Ss (names:List ByteArray) (vals:List R4):Nat→Nat→Int
 | 0,_=>0
 | m+1,v=>if names.getD v ⟨#[]⟩ ∈ names.take v∨¬ (vals.getD v []).Nodup then 40 else if vals.getD v []=[] then 43 else Ss names vals m (v+1)
theorem Zy1 (n:Z4) (hl:n.2.2.1.length=n.2.1.length):∀ (l:List ByteArray) (k:Nat),n.2.1.drop k=l→k≤n.2.1.length→Zci n l k=some (Ss n.2.1 n.2.2.1 l.length k)
 | [],k,_,_=>rfl
 | x :: l,k,c,f=>by
  have a:k<n.2.1.length:=by
   rcases bW k n.2.1.length with h | h
   ·exact h
   ·rw [aI h] at c;cases c
  have b:=aP a
  rw [c] at b
  obtain ⟨e,d⟩:=List.cons.inj b
  rw [Zci.eq_2,Xh (by omega),aB,Z50,oB,nC,Ss,Yj a,← e,Yj (by omega)]
  by_cases h1:x ∈ n.2.1.take k
  ·rw [if_pos (dT h1),Ziz,if_pos rfl,if_pos (.inl h1)]
  ·rw [if_neg (dF h1),Xd (by omega),oB,Z8q,oB,Ziz]
   by_cases h2:(n.2.2.1[k]'(by omega)).Nodup
   ·rw [decide_eq_true h2,if_neg (by decide),if_neg (by simp [h1,h2]),Xd (by omega),oB]
    by_cases h3:n.2.2.1[k]'(by omega)=[]
    ·rw [if_pos (by rw [h3];decide),if_pos h3]
    ·rw [if_neg (by simpa using h3),if_neg h3]
     exact Zy1 n hl l (k+1) d.symm (by omega)
   ·rw [decide_eq_false h2,if_pos (by decide),if_pos (.inr h2)]
theorem Zy2 (n:Z4) (hl:n.2.2.1.length=n.2.1.length):Zfv n=some (Ss n.2.1 n.2.2.1 n.2.1.length 0):=by
 rw [Zfv];exact Zy1 n hl n.2.1 0 (by simp) (by omega)
theorem Ztk (N:Nat) (n:Z4) (v:Nat) (hv:v<n.2.2.1.length) (hb:n.2.2.1[v].length≤1048576) (hN:1048577<N) (hvb:v<4611686018427387904) (kk:Int→Option Int) (A:Prop) [Decidable A]:∀ (m i:Nat) (a:Bool),i≤n.2.2.1[v].length→n.2.2.1[v].length<m+i→(a=true→A∨¬ (n.2.2.1[v]).Nodup)→(a=false→¬ A∧((n.2.2.1[v]).take i).Nodup)→
  Zcx N n (v:Int) kk m a (i:Int)=if A∨¬ (n.2.2.1[v]).Nodup then some 40 else if n.2.2.1[v]=[] then some 43 else kk ((v:Int)+1)
 | 0,i,a,o,p,_,_=>by omega
 | m+1,i,a,o,p,e,f=>by
  rw [Zcx.eq_2,Xd hv,oB]
  by_cases hi:i<n.2.2.1[v].length
  ·rw [if_pos (dT (by omega))]
   cases a with
   | true=>
    rw [if_pos rfl,Zjy,Zy (by omega)]
    exact Ztk N n v hv hb hN hvb kk A m (i+1) true (by omega) (by omega) e (fun h=>by cases h)
   | false=>
    obtain ⟨j,q,g⟩:=Zw4 (N:=N) (l:=n.2.2.1[v]) (by omega) hi (by omega)
    have st:=Z8y n.2.2.1[v] i hi
    have c:=f rfl
    rw [if_neg (by decide),Xd hi,oB,q,oB,Zjy,Zy (by omega)]
    have:=Ztk N n v hv hb hN hvb kk A m (i+1) (decide ((j:Int)<(i:Int))) (by omega) (by omega) (fun h=>.inr fun r=>by
     have d:=of_decide_eq_true h
     have b:=(r.sublist (List.take_sublist (i+1) _))
     exact (st.1 b).2 (g.1 (by omega))) (fun h=>⟨c.1,st.2 ⟨c.2,fun s=>by
     have d:=of_decide_eq_false h
     have:=g.2 s
     omega⟩⟩)
    exact this
  ·have k:i=n.2.2.1[v].length:=by omega
   rw [if_neg (dF (by omega))]
   cases a with
   | true=>rw [if_pos rfl,if_pos (e rfl)]
   | false=>
    obtain ⟨c,d⟩:=f rfl
    rw [k,List.take_length] at d
    have t:¬ (A∨¬ (n.2.2.1[v]).Nodup):=fun h=>h.elim c (fun h=>h d)
    rw [if_neg (by decide),if_neg t,Zy (by omega)]
    by_cases b:n.2.2.1[v]=[]
    ·rw [if_pos (by rw [b];decide),if_pos b]
    ·rw [if_neg (by simpa using b),if_neg b]
theorem Z01 (N:Nat) (n:Z4) (hl:n.2.2.1.length=n.2.1.length) (hn:n.2.1.length≤1048576) (hb:∀ l ∈ n.2.2.1,l.length≤1048576) (hN:1048577<N):∀ (m fuel v:Nat),m+v=n.2.1.length→m<fuel→
  Q0 N n fuel (v:Int)=if Ss n.2.1 n.2.2.1 m v=0 then Q0 N n (fuel - m) (n.2.1.length:Int) else some (Ss n.2.1 n.2.2.1 m v)
 | 0,fuel,v,c,_=>by
  have:v=n.2.1.length:=by omega
  rw [Ss,if_pos rfl,this,Nat.sub_zero]
 | m+1,0,v,c,f=>by omega
 | m+1,fuel+1,v,c,f=>by
  have b:v<n.2.1.length:=by omega
  have a:v<n.2.2.1.length:=by omega
  obtain ⟨j,g,d⟩:=Zw4 (N:=N) (l:=n.2.1) (by omega) b (by omega)
  rw [Q0.eq_2,if_pos (dT (by omega)),Xd b,oB,g,oB,Ss,Yj b,Yj a,show (0:Int)=((0:Nat):Int) from rfl,
   Ztk N n v a (hb _ (aJ a)) hN (by omega) (Q0 N n fuel) (n.2.1[v] ∈ n.2.1.take v) N 0 _ (by omega) (by have:=hb _ (aJ a);omega) (fun h=>.inl (d.1 (by have:=of_decide_eq_true h;omega))) (fun h=>⟨fun i=>by have:=of_decide_eq_false h;have:=d.2 i;omega,by simp⟩)]
  by_cases h3:n.2.1[v] ∈ n.2.1.take v∨¬ (n.2.2.1[v]).Nodup
  ·rw [if_pos h3,if_pos h3,if_neg (by decide)]
  ·rw [if_neg h3,if_neg h3]
   by_cases h4:n.2.2.1[v]=[]
   ·rw [if_pos h4,if_pos h4,if_neg (by decide)]
   ·rw [if_neg h4,if_neg h4]
    have e:=Z01 N n hl hn hb hN m fuel (v+1) (by omega) (by omega)
    rw [show ((v+1:Nat):Int)=(v:Int)+1 by omega] at e
    rw [e,show fuel+1 - (m+1)=fuel - m by omega]
    rfl
theorem Zy3 {names:List ByteArray} {vals:List R4}:∀ (m v:Nat),Ss names vals m v=0→∀ i,v≤i→i<v+m→vals.getD i []≠[]∧(vals.getD i []).Nodup∧names.getD i ⟨#[]⟩ ∉ names.take i
 | 0,v,_,i,a,b=>by omega
 | m+1,v,h,i,a,b=>by
  rw [Ss] at h
  by_cases h3:names.getD v ⟨#[]⟩ ∈ names.take v∨¬ (vals.getD v []).Nodup
  ·rw [if_pos h3] at h;cases h
  ·rw [if_neg h3] at h
   by_cases h4:vals.getD v []=[]
   ·rw [if_pos h4] at h;cases h
   ·rw [if_neg h4] at h
    rcases bW v i with c | c
    ·exact Zy3 m (v+1) h i (by omega) (by omega)
    ·have:i=v:=by omega
     subst this
     exact ⟨h4,by simpa using (not_or.1 h3).2,(not_or.1 h3).1⟩
def Y2 (vals:List R4):List Int→Nat→Nat
 | [],k=>k
 | p :: ps,k=>Y2 vals ps (min (k * (vals.getD p.toNat []).length) 1099511627776)
theorem Ztn (vals:List R4):∀ (ps:List Int) (k:Nat),k≤1099511627776→Y2 vals ps k≤1099511627776
 | [],k,h=>h
 | p :: ps,k,h=>Ztn vals ps _ (by omega)
theorem Zpi {a b:Nat} (h:a≤1099511627776) (g:b≤1048576):a * b≤1152921504606846976:=by
 have:=Nat.mul_le_mul h g
 simpa using this
theorem Zyv (n:Z4) (hb:∀ l ∈ n.2.2.1,l.length≤1048576):∀ (ps:List Int) (k:Nat),k≤1099511627776→(∀ p ∈ ps,0≤p∧p<(n.2.2.1.length:Int))→Zfx n ps (k:Int)=some (Y2 n.2.2.1 ps k:Int)
 | [],k,_,_=>rfl
 | p :: ps,k,c,b=>by
  have g:=b p aK
  have a:p.toNat<n.2.2.1.length:=by omega
  have d:=hb _ (aJ a)
  have i:=Zpi c d
  rw [Zfx.eq_2,show p=((p.toNat:Nat):Int) by omega,Xd a,oB,Y2,aB,Yj a,← bH,Zy (by omega)]
  have e:=Zyv n hb ps (min (k * n.2.2.1[p.toNat].length) 1099511627776) (by omega) (fun q f=>b q (aE _ f))
  rw [← e]
  congr 1
  by_cases h5:1099511627776<k * n.2.2.1[p.toNat].length
  ·rw [if_pos (by omega),dI (by omega)];rfl
  ·rw [if_neg (by omega),aZ (by omega)]
theorem Z1n (N:Nat) (n:Z4) (hl:n.2.2.1.length≤1048576):∀ (m i:Nat) (out:List Int),i≤n.2.2.1.length→n.2.2.1.length<m+i→out=(n.2.2.1.take i).map (fun l=>(l.length:Int))→Zgq N n m out (i:Int)=some (n.2.2.1.map fun l=>(l.length:Int))
 | 0,i,out,b,c,_=>by omega
 | m+1,i,out,b,c,a=>by
  rw [Zgq.eq_2]
  have d:out.length=i:=by rw [a,bE,nK];omega
  by_cases hi:i<n.2.2.1.length
  ·rw [if_pos (dT (by omega)),Xd hi,oB,Xh (by simp only [aL,maxLen];omega),Zy (by omega)]
   exact Z1n N n hl m (i+1) _ (by omega) (by omega) (by rw [a,gE,aO hi,dQ,List.map_append];rfl)
  ·rw [if_neg (dF (by omega)),a,List.take_of_length_le (by omega)]
theorem Xaq {N:Nat} {n:Z4} (hl:n.2.2.1.length≤1048576) (hN:1048576<N):Zgp N n=some (n.2.2.1.map fun l=>(l.length:Int)):=by
 rw [Zgp]
 exact Z1n N n hl N 0 [] (by omega) (by omega) (by simp)
theorem Zqa {vals:List R4} {i:Nat} (h:i<vals.length):Zn (vals.map fun l=>(l.length:Int)) (i:Int)=some (vals[i].length:Int):=by
 rw [Xd (by rw [bE];exact h),fG]
theorem Zrc (N:Nat) (ps:List Int) (vals:List R4) (hb:∀ l ∈ vals,l.length≤1048576) (hne:∀ l ∈ vals,l≠[]) (hp:∀ p ∈ ps,0≤p∧p<(vals.length:Int)) (hps:ps.length≤1048576):∀ (m i k:Nat),i≤ps.length→ps.length<m+i→k≤1099511627776→
  Zc0 N ps (vals.map fun l=>(l.length:Int)) m (k:Int) (i:Int)=some (Y2 vals (ps.drop i) k:Int)
 | 0,i,k,c,d,_=>by omega
 | m+1,i,k,c,d,f=>by
  rw [Zc0.eq_2]
  by_cases hi:i<ps.length
  ·have n:=hp _ (aJ hi)
   have a:(ps[i]).toNat<vals.length:=by omega
   have g:=hb _ (aJ a)
   have j:0<vals[(ps[i]).toNat].length:=cA.2 (hne _ (aJ a))
   have o:=Zpi f g
   rw [if_pos (dT (by omega)),Xd hi,oB]
   conv=>lhs;rw [show ps[i]=(((ps[i]).toNat:Nat):Int) by omega]
   rw [Zqa a,oB,Xh (by omega),aP hi,Y2,Yj a]
   have e:i64.wrap (aM 1099511627776 (vals[(ps[i]).toNat].length:Int))=((1099511627776 / vals[(ps[i]).toNat].length:Nat):Int):=by
    rw [bM (by decide),show (1099511627776:Int)=((1099511627776:Nat):Int) from rfl,← gP]
    refine Zy ⟨by have:=cY (1099511627776 / vals[(ps[i]).toNat].length);omega,?_⟩
    have:=bY 1099511627776 vals[(ps[i]).toNat].length
    omega
   rw [e]
   have b:1099511627776 / vals[(ps[i]).toNat].length<k↔1099511627776<k * vals[(ps[i]).toNat].length:=cZ j
   by_cases h9:1099511627776<k * vals[(ps[i]).toNat].length
   ·rw [if_pos (dT (eL.2 (b.2 h9))),Zjz,Zy (by omega),dI (by omega)]
    exact Zrc N ps vals hb hne hp hps m (i+1) 1099511627776 (by omega) (by omega) (by omega)
   ·rw [if_neg (by rw [decide_eq_false (fun h=>h9 (b.1 (eL.1 h)))];decide),Zjz,← bH,Zy (by omega),Zy (by omega),aZ (by omega)]
    exact Zrc N ps vals hb hne hp hps m (i+1) _ (by omega) (by omega) (by omega)
  ·rw [if_neg (dF (by omega)),aI (by omega),Y2]
theorem Zvq (N:Nat) (ps:List Int) (vals:List R4) (hb:∀ l ∈ vals,l.length≤1048576) (hne:∀ l ∈ vals,l≠[]) (hp:∀ p ∈ ps,0≤p∧p<(vals.length:Int)) (hps:ps.length≤1048576) (hN:1048577<N):∀ (m i:Nat),i≤ps.length→ps.length<m+i→
  Zgn N ps (vals.map fun l=>(l.length:Int)) m (i:Int)=some (Y2 vals ps 1:Int)
 | 0,i,b,c=>by omega
 | m+1,i,b,c=>by
  rw [Zgn.eq_2]
  by_cases hi:i<ps.length
  ·have d:=hp _ (aJ hi)
   have a:(ps[i]).toNat<vals.length:=by omega
   have e:0<vals[(ps[i]).toNat].length:=cA.2 (hne _ (aJ a))
   rw [if_pos (dT (by omega)),Xd hi,oB]
   conv=>lhs;rw [show ps[i]=(((ps[i]).toNat:Nat):Int) by omega]
   rw [Zqa a,oB,if_neg (dF (by omega)),Zy (by omega)]
   exact Zvq N ps vals hb hne hp hps hN m (i+1) (by omega) (by omega)
  ·rw [if_neg (dF (by omega))]
   exact Zrc N ps vals hb hne hp hps N 0 1 (by omega) (by omega) (by omega)
theorem Z5w {N:Nat} {ps:List Int} {vals:List R4} (hb:∀ l ∈ vals,l.length≤1048576) (hne:∀ l ∈ vals,l≠[]) (hp:∀ p ∈ ps,0≤p∧p<(vals.length:Int)) (hps:ps.length≤1048576) (hN:1048577<N):Zmj N ps (vals.map fun l=>(l.length:Int))=some (Y2 vals ps 1:Int):=by
 rw [Zmj]
 exact Zvq N ps vals hb hne hp hps hN N 0 (by omega) (by omega)
theorem Z9b {r c:Nat} (hc:0<c):Zml (r:Int) (c:Int)=some (decide (65536<r * c)):=by
 have e:i64.wrap (aM 65536 (c:Int))=((65536 / c:Nat):Int):=by
  rw [bM (by decide),show (65536:Int)=((65536:Nat):Int) from rfl,← gP]
  refine Zy ⟨by have:=cY (65536 / c);omega,?_⟩
  have:=bY 65536 c
  omega
 rw [Zml,if_pos (dT (by omega)),Xh (by omega),e,Zmm]
 congr 1
 refine decide_eq_decide.2 ?_
 rw [eL]
 exact cZ hc
def Th (vals:List R4) (P:List R2) (T:List (List QV)):Nat→Nat→Int
 | 0,_=>0
 | m+1,v=>if 65536<Y2 vals (P.getD v []) 1 * (vals.getD v []).length then 4 else if Y2 vals (P.getD v []) 1 * (vals.getD v []).length≠(T.getD v []).length then 60 else Th vals P T m (v+1)
structure Ww (n:Z4) (W:Nat):Prop where
 nm:n.2.1.length≤1048575
 vl:∀ l ∈ n.2.2.1,l.length≤1048576
 pn:Znq n.2.2.2.1
 tl:∀ t ∈ n.2.2.2.2,t.length≤1048576
 tq:∀ t ∈ n.2.2.2.2,Ya t≤W
 lim:∀ t ∈ n.2.2.2.2,∀ x ∈ t,Va x
structure Ti (n:Z4):Prop where
 v:n.2.2.1.length=n.2.1.length
 p:n.2.2.2.1.length=n.2.1.length
 t:n.2.2.2.2.length=n.2.1.length
 i:Tc n.2.2.2.1.length n.2.2.2.1=true
 ne:∀ l ∈ n.2.2.1,l≠[]
theorem Ti.par {n:Z4} (h:Ti n) {ps:List Int} (hp:ps ∈ n.2.2.2.1):∀ p ∈ ps,0≤p∧p<(n.2.2.1.length:Int):=by
 have:=Zxv h.i ps hp
 rw [h.p] at this
 rw [h.v];exact this
theorem Zsk {N W:Nat} {n:Z4} (hs:Ww n W) (he:Ti n):∀ (l:List (List QV)) (k:Nat),n.2.2.2.2.drop k=l→k≤n.2.1.length→Zcg N n l k=if Th n.2.2.1 n.2.2.2.1 n.2.2.2.2 l.length k=0 then Zch N n n.2.2.2.2 else some (Th n.2.2.1 n.2.2.2.1 n.2.2.2.2 l.length k)
 | [],k,_,_=>by rw [Zcg.eq_1];rfl
 | t :: l,k,d,o=>by
  have q:=he.t;have r:=he.v;have s:=he.p
  have b:k<n.2.2.2.2.length:=by
   rcases bW k n.2.2.2.2.length with h | h
   ·exact h
   ·rw [aI h] at d;cases d
  have c:=aP b
  rw [d] at c
  obtain ⟨i,g⟩:=List.cons.inj c
  have e:k<n.2.2.1.length:=by omega
  have kp:k<n.2.2.2.1.length:=by omega
  have j:=Ztn n.2.2.1 (n.2.2.2.1[k]) 1 (by omega)
  have m:=hs.vl _ (aJ e)
  have u:=Zpi j m
  have f:Zi2 n (k:Int)=some (Y2 n.2.2.1 n.2.2.2.1[k] 1:Int):=by
   rw [Zi2,Xd kp,oB]
   exact Zyv n hs.vl _ 1 (by omega) (he.par (aJ kp))
  rw [Zcg.eq_2]
  have a:Zi2 (n.1,n.2.1,n.2.2.1,n.2.2.2.1,n.2.2.2.2) (k:Int)=some (Y2 n.2.2.1 n.2.2.2.1[k] 1:Int):=f
  rw [a,oB,Xd e,oB,← bH,Zy (by omega),nC,Th,Yj kp,Yj e,Yj b,← i]
  generalize Y2 n.2.2.1 n.2.2.2.1[k] 1 * n.2.2.1[k].length=rc at *
  by_cases h1:65536<rc
  ·rw [if_pos (dT (by omega)),if_pos h1,if_neg (by decide)]
  ·rw [if_neg (dF (by omega)),if_neg h1]
   by_cases h2:rc=t.length
   ·rw [if_neg (by rw [decide_eq_true (by omega)];decide),if_neg (show ¬ rc≠t.length from fun h=>h h2)]
    exact Zsk hs he l (k+1) g.symm (by omega)
   ·rw [if_pos (by rw [decide_eq_false (by omega)];decide),if_pos h2,if_neg (by decide)]
theorem Z1c {N W:Nat} {n:Z4} (hN:1048577<N) (hs:Ww n W) (he:Ti n):∀ (m fuel v:Nat),m+v=n.2.1.length→m<fuel→
  Zcy N n (n.2.2.1.map fun l=>(l.length:Int)) fuel (v:Int)=if Th n.2.2.1 n.2.2.2.1 n.2.2.2.2 m v=0 then Zbp N n (n.2.2.1.map fun l=>(l.length:Int)) N 0 else some (Th n.2.2.1 n.2.2.2.1 n.2.2.2.2 m v)
 | 0,0,v,_,h=>by omega
 | 0,fuel+1,v,c,_=>by
  rw [Zcy.eq_2,if_neg (dF (by omega))];rfl
 | m+1,0,v,_,h=>by omega
 | m+1,fuel+1,v,c,i=>by
  have j:=he.t;have k:=he.v;have o:=he.p;have g:=hs.nm
  have b:v<n.2.2.2.2.length:=by omega
  have a:v<n.2.2.1.length:=by omega
  have kp:v<n.2.2.2.1.length:=by omega
  have d:=Ztn n.2.2.1 (n.2.2.2.1[v]) 1 (by omega)
  have e:=hs.vl _ (aJ a)
  have f:0<n.2.2.1[v].length:=cA.2 (he.ne _ (aJ a))
  have q:=Zpi d e
  rw [Zcy.eq_2,if_pos (dT (by omega)),Xd kp,oB,Z5w hs.vl he.ne (he.par (aJ kp)) (hs.pn.ls _ (aJ kp)) hN,oB,Zqa a,oB,Z9b f,oB,Th,Yj kp,Yj a,Yj b,← bH,Zy (by omega)]
  generalize Y2 n.2.2.1 n.2.2.2.1[v] 1 * n.2.2.1[v].length=rc at *
  by_cases h3:65536<rc
  ·rw [if_pos (dT (by omega)),if_pos h3,if_neg (by decide)]
  ·rw [if_neg (dF (by omega)),if_neg h3,Xd b,oB]
   by_cases h4:rc=n.2.2.2.2[v].length
   ·rw [if_neg (by rw [decide_eq_true (by omega)];decide),if_neg (show ¬ rc≠n.2.2.2.2[v].length from fun h=>h h4),Zy (by omega)]
    exact Z1c hN hs he m fuel (v+1) (by omega) (by omega)
   ·rw [if_pos (by rw [decide_eq_false (by omega)];decide),if_pos h4,if_neg (by decide)]
def Vk (x:QV):Bool:=decide (Zq x<0)||decide (1<Zq x)
theorem Zzx {a b:Rat}:0<Vf a b↔b<a:=by
 rw [Vf]
 by_cases h:a<b
 ·rw [if_pos h]
  constructor
  ·intro c;omega
  ·intro c;exact absurd (dS c) (fE.2 h)
 ·rw [if_neg h]
  by_cases c:b<a
  ·simp [c]
  ·simp [c]
theorem Zm3 {a b:Rat}:Vf a b=0↔a=b:=by
 rw [Vf]
 constructor
 ·intro h
  split at h
  ·cases h
  ·split at h
   ·cases h
   ·rename_i c d
    exact Rat.le_antisymm (bQ.1 d) (bQ.1 c)
 ·rintro rfl
  rw [if_neg fJ,if_neg fJ]
theorem Zsj {N:Nat} (hr:Z8 N 8):Zfw N=some (Zm 1):=by
 rw [Zfw,Z7k (by omega) (by omega) (hr.mono (by omega)),oB,if_neg (by decide)]
 have:((1:Int):Rat) / ((1:Int):Rat)=1:=div_one _
 rw [this]
theorem Z07 {N:Nat} (hr:Z8 N 8):Zj0 N=some (Zm 1):=by
 rw [Zj0,Xas hr];rfl
theorem Zp8:RV 1 (Zm 1):=Yi (by rw [Zkd];omega)
theorem Z8p {N k:Nat} {x:QV} (hx:RV k x) (hr:Z8 N (2 * k+16)):Zi0 N x=some (Vk x):=by
 have c:Zbh N ((x.1.1,x.1.2),x.2)=some (Qf (Zq x)):=Zru hx (hr.mono (by omega))
 rw [Zi0,c,oB,Vk]
 by_cases h:Zq x<0
 ·rw [if_pos (dT (Zpu.2 h)),Zi1,decide_eq_true h,Bool.true_or]
 ·rw [if_neg (dF (fun d=>h (Zpu.1 d))),decide_eq_false h,Bool.false_or,Zsj (hr.mono (by omega)),oB,Zdk (a:=((x.1.1,x.1.2),x.2)) (b:=Zm 1) hx Zp8 (hr.mono (by omega)),oB,Zi1,Xz]
  congr 1
  exact decide_eq_decide.2 Zzx
theorem Xai {N k:Nat} {x:QV} (hx:RV k x) (hr:Z8 N (2 * k+16)):Zj1 N x=some (Vk x):=by
 have c:Zjr N ((x.1.1,x.1.2),x.2)=some (Qf (Zq x)):=Xae hx (hr.mono (by omega))
 rw [Zj1,c,oB,Vk]
 by_cases h:Zq x<0
 ·rw [if_pos (dT (Zpu.2 h)),Zj2,decide_eq_true h,Bool.true_or]
 ·rw [if_neg (dF (fun d=>h (Zpu.1 d))),decide_eq_false h,Bool.false_or,Z07 (hr.mono (by omega)),oB,Ztj (a:=((x.1.1,x.1.2),x.2)) (b:=Zm 1) hx Zp8 (hr.mono (by omega)),oB,Zj2,Xz]
  congr 1
  exact decide_eq_decide.2 Zzx
def Ve (x:QV):QV:=if Za x.2=0 then (x.1,[1]) else x
theorem Zw9 {x:QV} (h:Va x):Va (Ve x):=by
 rw [Ve];split
 ·exact ⟨h.1,.cons (by decide) .nil⟩
 ·exact h
theorem Zrs (x:QV):Zq (Ve x)=Zq x:=by
 rw [Ve];split
 ·rename_i h
  rw [Zq,Zq]
  show mkRat (Zr x.1) (X4 [1])=mkRat (Zr x.1) (X4 x.2)
  rw [X4,X4,if_pos h]
  congr 1
 ·rfl
theorem Z7d (x:QV):Vk (Ve x)=Vk x:=by rw [Vk,Vk,Zrs]
theorem Z7a (x:QV):max (Ve x).1.2.length (Ve x).2.length≤max x.1.2.length x.2.length+1:=by
 rw [Ve];split
 ·show max x.1.2.length [(1:Int)].length≤_
  simp only [aL];omega
 ·omega
theorem Zs2:∀ l:List QV,2 * l.length≤Ya l
 | []=>by simp [Ya]
 | a :: l=>by rw [Ya,nC];have:=Zs2 l;omega
theorem Zs1:∀ l:List QV,Ya (l.map Ve)≤Ya l+l.length
 | []=>by simp [Ya]
 | a :: l=>by
  rw [bX,Ya,Ya,nC]
  have:=Zs1 l;have:=Z7a a;omega
theorem Zzy (a b:List QV):Ya (a++b)=Ya a+Ya b:=by
 induction a with
 | nil=>simp [Ya]
 | cons x a c=>rw [cK,Ya,Ya,c];omega
theorem Zs3 (l:List QV) (k:Nat):Ya (l.take k)≤Ya l:=by
 have:=Zzy (l.take k) (l.drop k)
 rw [fK] at this;omega
theorem Zs0 (l:List QV) (k:Nat):Ya (l.drop k)≤Ya l:=by
 have:=Zzy (l.take k) (l.drop k)
 rw [fK] at this;omega
theorem Zz0 {l:List QV} {x:QV} (h:x ∈ l):max x.1.2.length x.2.length≤Ya l:=by
 induction l with
 | nil=>simp at h
 | cons y l a=>
  rw [Ya]
  rcases bK.1 h with rfl | h
  ·omega
  ·have:=a h;omega
theorem Zxe {N k:Nat} {x:QV} (h:Va x) (hk:max x.1.2.length x.2.length≤k) (hr:Z8 N k):Zd2 N x=some (Ve x):=by
 obtain ⟨a,b⟩:=hr
 rw [Zd2,Zsq h.2 (by omega) (by omega),oB,Ve]
 by_cases h0:Za x.2=0
 ·rw [h0,Vo,if_pos (by decide),if_pos rfl,Zmy (by decide) (by omega),oB,Zix,show (1:Int).toNat=1 from rfl,Uj]
 ·have:=S4 h0
  rw [if_neg (dF (by omega)),if_neg h0,Zix]
theorem Zxf {N W:Nat} (hr:Z8 N W):∀ (l out:List QV),(∀ x ∈ l,Va x)→Ya l≤W→out.length+l.length≤1048576→Zd3 N l out=some (out++l.map Ve)
 | [],out,_,_,_=>by rw [Zd3.eq_1];simp
 | x :: l,out,b,c,a=>by
  rw [Ya] at c
  rw [nC] at a
  have d:Zd2 N ((x.1.1,x.1.2),x.2)=some (Ve x):=Zxe (x:=x) (b x aK) (k:=W) (by omega) hr
  rw [Zd3.eq_2,d,oB,Xh (by simp only [aL,maxLen];omega),Zxf hr l _ (fun y e=>b y (aE _ e)) (by omega) (by simp only [nA,aL];omega)]
  simp
theorem Zxg {N W:Nat} {l:List QV} (hr:Z8 N W) (hl:∀ x ∈ l,Va x) (hq:Ya l≤W) (hlen:l.length≤1048576):Ziy N l=some (l.map Ve):=by
 rw [Ziy,Xh (by simp only [maxLen];omega),Zxf hr l [] hl hq (by simpa using hlen),cB]
theorem Zxr {N W:Nat} (hr:Z8 N (2 * W+16)):∀ (l:List QV) (k:Nat),(∀ x ∈ l,Va x)→Ya l≤W→∃ j:Int,Zgs N l k=some j∧(0≤j↔l.any Vk=true)
 | [],k,_,_=>⟨-1,rfl,by simp⟩
 | x :: l,k,b,d=>by
  rw [Ya] at d
  have c:=b x aK
  have a:Zi0 N ((x.1.1,x.1.2),x.2)=some (Vk x):=Z8p (x:=x) (Zbw c.1 c.2) (hr.mono (by omega))
  rw [Zgs.eq_2,a,oB,dL]
  cases Vk x with
  | true=>rw [if_pos rfl];exact ⟨_,rfl,by simp⟩
  | false=>
   rw [if_neg (by decide)]
   obtain ⟨j,a,e⟩:=Zxr hr l (k+1) (fun y f=>b y (aE _ f)) (by omega)
   exact ⟨j,a,by rw [e];simp⟩
def Zaa (T:List (List QV)):Bool:=T.any fun t=>t.any Vk
theorem Z2x (l:List QV):(l.map Ve).any Vk=l.any Vk:=by
 induction l with
 | nil=>rfl
 | cons x l a=>rw [bX,dL,dL,a,Z7d]
theorem Zsh {N W:Nat} {n:Z4} (hr:Z8 N (4 * W+16)):∀ l:List (List QV),(∀ t ∈ l,t.length≤1048576∧Ya t≤W∧∀ x ∈ t,Va x)→Zch N n l=if Zaa l=true then some 45 else Zd0 N n n.2.2.2.2 0
 | [],_=>by rw [Zch.eq_1];rfl
 | t :: l,h=>by
  obtain ⟨d,e,c⟩:=h t aK
  have i:=Zs2 t
  have k:=Zs1 t
  obtain ⟨j,f,a⟩:=Zxr (N:=N) (W:=2 * W) (hr.mono (by omega)) (t.map Ve) 0 (fun x b=>by
   obtain ⟨y,g,rfl⟩:=cD.1 b
   exact Zw9 (c y g)) (by omega)
  rw [Zch.eq_2,Zxg (W:=W) (hr.mono (by omega)) c e d,oB,Zpc,Zpd,f,oB,oB,Zaa,dL]
  rw [Z2x] at a
  by_cases ho:t.any Vk=true
  ·rw [if_pos (dT (a.2 ho)),ho,Bool.true_or,if_pos rfl]
  ·rw [if_neg (dF (fun h=>ho (a.1 h))),Bool.eq_false_iff.2 ho,Bool.false_or]
   exact Zsh hr l fun x b=>h x (aE _ b)
theorem Z0o {N W:Nat} {n:Z4} (sz:List Int) (hr:Z8 N (4 * W+16)) {v:Nat} (hv:v<n.2.2.2.2.length) (hvs:v<1048576) (h1:n.2.2.2.2[v].length≤1048576) (h2:Ya n.2.2.2.2[v]≤W) (h3:∀ x ∈ n.2.2.2.2[v],Va x) (kk:Int→Option Int):∀ (m i:Nat),i≤n.2.2.2.2[v].length→n.2.2.2.2[v].length<m+i→
  Zgm N n (v:Int) kk m (i:Int)=if ((n.2.2.2.2[v]).drop i).any Vk=true then some 45 else kk ((v:Int)+1)
 | 0,i,b,c=>by omega
 | m+1,i,b,c=>by
  rw [Zgm.eq_2,Xd hv,oB]
  by_cases hi:i<n.2.2.2.2[v].length
  ·have a:=h3 _ (aJ hi)
   have d:=Zz0 (aJ hi)
   have e:Zj1 N (((n.2.2.2.2[v][i]).1.1,(n.2.2.2.2[v][i]).1.2),(n.2.2.2.2[v][i]).2)=some (Vk n.2.2.2.2[v][i]):=Xai (x:=n.2.2.2.2[v][i]) (Zbw a.1 a.2) (hr.mono (by omega))
   rw [if_pos (dT (by omega)),Xd hi,oB,e,oB,aP hi,dL]
   cases Vk n.2.2.2.2[v][i] with
   | true=>rw [if_pos rfl,Bool.true_or,if_pos rfl]
   | false=>
    rw [if_neg (by decide),Bool.false_or,Zy (by omega)]
    exact Z0o sz hr hv hvs h1 h2 h3 kk m (i+1) (by omega) (by omega)
  ·rw [if_neg (dF (by omega)),aI (by omega),List.any_nil,if_neg (by decide),Zy (by omega)]
theorem Z0n {N W:Nat} {n:Z4} (sz:List Int) (hs:Ww n W) (he:n.2.2.2.2.length=n.2.1.length) (hr:Z8 N (4 * W+16)) (hN:1048577<N):∀ (m fuel v:Nat),m+v=n.2.1.length→m<fuel→
  Zbp N n sz fuel (v:Int)=if Zaa (n.2.2.2.2.drop v)=true then some 45 else Zcz N n sz N 0
 | 0,0,v,_,h=>by omega
 | 0,fuel+1,v,c,_=>by
  rw [Zbp.eq_2,if_neg (dF (by omega)),aI (by omega)];rfl
 | m+1,0,v,_,h=>by omega
 | m+1,fuel+1,v,c,e=>by
  have b:v<n.2.2.2.2.length:=by omega
  have d:=hs.nm
  have a:=aJ b
  rw [Zbp.eq_2,if_pos (dT (by omega)),show (0:Int)=((0:Nat):Int) from rfl,Z0o sz hr b (by omega) (hs.tl _ a) (hs.tq _ a) (hs.lim _ a) _ N 0 (by omega) (by have:=hs.tl _ a;omega),bF,aP b,Zaa,dL]
  cases n.2.2.2.2[v].any Vk with
  | true=>rw [if_pos rfl,Bool.true_or,if_pos rfl]
  | false=>
   rw [if_neg (by decide),Bool.false_or]
   exact Z0n sz hs he hr hN m fuel (v+1) (by omega) (by omega)
def Um (c:Nat):Nat→List QV→Bool
 | 0,_=>true
 | m+1,l=>decide (Y1 (l.take c)=1)&&Um c m (l.drop c)
def Zk4 (c:Nat):Nat→List QV→List (List QV)
 | 0,_=>[]
 | m+1,l=>l.take c :: Zk4 c m (l.drop c)
theorem Zvr (N:Nat) (l:List QV) (c:Nat) (hc:0<c) (hl:l.length≤1048576) (hcs:c≤1048576):∀ (m fuel i:Nat),i+m * c=l.length→m<fuel→Zep N l (c:Int) fuel (i:Int)=some (Zk4 c m (l.drop i))
 | 0,0,i,_,h=>by omega
 | 0,fuel+1,i,a,_=>by
  rw [Zep.eq_2,if_neg (dF (by omega))];rfl
 | m+1,0,i,_,h=>by omega
 | m+1,fuel+1,i,a,b=>by
  have d:i+c+m * c=l.length:=by rw [bI,bO] at a;omega
  have e:(if ((l.drop i).length:Int)<(c:Int) then ((l.drop i).length:Int) else (c:Int))=(c:Int):=by
   rw [cH]
   by_cases h:((l.length - i:Nat):Int)<(c:Int)
   ·omega
   ·rw [if_neg h]
  rw [Zep.eq_2,if_pos (dT (by omega)),aB,e,Zy (by omega),Xh (by omega),Xh (by omega),show (i:Int)+(c:Int)=((i+c:Nat):Int) by omega,Zvr N l c hc hl hcs m fuel (i+c) (by omega) (by omega),oB,aB,Zk4,jN,show i+c - i=c by omega,dZ]
theorem Z9i (l:List QV):Y1 (l.map Ve)=Y1 l:=by
 rw [Y1,Y1,List.map_map]
 congr 1
 exact List.map_congr_left fun x _=>Zrs x
theorem Zzc (c:Nat):∀ (m:Nat) (l:List QV),Um c m (l.map Ve)=Um c m l
 | 0,l=>rfl
 | m+1,l=>by rw [Um,Um,← List.map_take,← List.map_drop,Z9i,Zzc c m]
theorem Zy0 {N W:Nat} (hr:Z8 N (4 * W+40)) (c:Nat) (b:Bool):∀ (m:Nat) (l:List QV),(∀ x ∈ l,Va x)→Ya l≤W→Zfy N (Zk4 c m l) b=some (Um c m l)
 | 0,l,_,_=>rfl
 | m+1,l,e,j=>by
  have k:=Zs3 l c
  have n:=Zs0 l c
  obtain ⟨f,g⟩:=Zrw (N:=N) (l:=l.take c) (fun x d=>e x (fO d)) (hr.mono (by omega))
  rw [Zk4,Zfy.eq_2,f,oB,Zsj (hr.mono (by omega)),oB,Zdk (a:=Zm _) (b:=Zm 1) (Yi g) Zp8 (hr.mono (by omega)),oB,Xz,Xz,Um]
  by_cases h:Y1 (l.take c)=1
  ·rw [if_neg (by rw [Zm3.2 h];decide),decide_eq_true h,Bool.true_and]
   exact Zy0 hr c b m _ (fun x d=>e x (fP d)) (by omega)
  ·rw [if_pos (by rw [decide_eq_false (fun i=>h (Zm3.1 i))];decide),decide_eq_false h,Bool.false_and];rfl
theorem Z8r {N W c m:Nat} {l:List QV} (hr:Z8 N (4 * W+40)) (hl:∀ x ∈ l,Va x) (hq:Ya l≤W) (hc:0<c) (hcs:c≤1048576) (hll:l.length≤1048576) (hm:m * c=l.length) (hN:1048577<N):Zlx N l (c:Int)=some (Um c m l):=by
 have a:m≤l.length:=by rw [← hm];exact dG m hc
 rw [Zlx,Zo9,if_neg (dF (by omega)),Zpb,Zpa,show (0:Int)=((0:Nat):Int) from rfl,Zvr N l c hc hll hcs m N 0 (by omega) (by omega),oB,bF]
 exact Zy0 hr c false m l hl hq
theorem Z1f {N W c:Nat} {l:List QV} (hr:Z8 N (4 * W+40)) (hl:∀ x ∈ l,Va x) (hq:Ya l≤W) (hc:0<c) (hcs:c≤1048576) (hll:l.length≤1048576) (hN:1048577<N):∀ (m fuel i:Nat),i+m * c=l.length→m<fuel→Zel N l (c:Int) fuel (i:Int)=some (Um c m (l.drop i))
 | 0,0,i,_,h=>by omega
 | 0,fuel+1,i,e,_=>by
  rw [Zel.eq_2,if_neg (dF (by omega))];rfl
 | m+1,0,i,_,h=>by omega
 | m+1,fuel+1,i,e,f=>by
  have n:i+c+m * c=l.length:=by rw [bI,bO] at e;omega
  have o:=Zs3 (l.drop i) c
  have p:=Zs0 l i
  have d:∀ x ∈ (l.drop i).take c,Va x:=fun x g=>hl x (fP (fO g))
  obtain ⟨_,j⟩:=Zrw (N:=N) (l:=(l.drop i).take c) d (hr.mono (by omega))
  have k:((l.drop i).take c).length≤1048576:=by rw [nK,cH];omega
  rw [Zel.eq_2,if_pos (dT (by omega)),Zy (by omega),Xh (by omega),show (i:Int)+(c:Int)=((i+c:Nat):Int) by omega,aB,aB,jN,show i+c - i=c by omega,Xag d (by omega) (by omega) (hr.mono (by omega)),oB,Z07 (hr.mono (by omega)),oB,Ztj (a:=Zm _) (b:=Zm 1) (Yi j) Zp8 (hr.mono (by omega)),oB,Xz,Xz,Um]
  by_cases h:Y1 ((l.drop i).take c)=1
  ·rw [if_neg (by rw [Zm3.2 h];decide),decide_eq_true h,Bool.true_and,dZ]
   exact Z1f hr hl hq hc hcs hll hN m fuel (i+c) (by omega) (by omega)
  ·rw [if_pos (by rw [decide_eq_false (fun f=>h (Zm3.1 f))];decide),decide_eq_false h,Bool.false_and]
def Q6 (vals:List R4) (P:List R2) (T:List (List QV)):Nat→Nat→Int
 | 0,_=>0
 | m+1,v=>if Um (vals.getD v []).length (Y2 vals (P.getD v []) 1) (T.getD v [])=true then Q6 vals P T m (v+1) else 46
theorem Zp9 {vals:List R4} {P:List R2} {T:List (List QV)}:∀ (m v:Nat),Th vals P T m v=0→∀ i,v≤i→i<v+m→Y2 vals (P.getD i []) 1 * (vals.getD i []).length=(T.getD i []).length∧(T.getD i []).length≤65536
 | 0,v,_,i,a,b=>by omega
 | m+1,v,h,i,a,b=>by
  rw [Th] at h
  by_cases h3:65536<Y2 vals (P.getD v []) 1 * (vals.getD v []).length
  ·rw [if_pos h3] at h;cases h
  ·rw [if_neg h3] at h
   by_cases h4:Y2 vals (P.getD v []) 1 * (vals.getD v []).length=(T.getD v []).length
   ·rw [if_neg (show ¬ Y2 vals (P.getD v []) 1 * (vals.getD v []).length≠(T.getD v []).length from fun h=>h h4)] at h
    rcases bW v i with c | c
    ·exact Zp9 m (v+1) h i (by omega) (by omega)
    ·have:i=v:=by omega
     subst this
     exact ⟨h4,by omega⟩
   ·rw [if_pos h4] at h;cases h
theorem Zsl {N W:Nat} {n:Z4} (hs:Ww n W) (he:Ti n) (hsh:Th n.2.2.1 n.2.2.2.1 n.2.2.2.2 n.2.1.length 0=0) (hr:Z8 N (8 * W+40)) (hN:1048577<N):∀ (l:List (List QV)) (k:Nat),n.2.2.2.2.drop k=l→k≤n.2.1.length→Zd0 N n l k=some (Q6 n.2.2.1 n.2.2.2.1 n.2.2.2.2 l.length k)
 | [],k,_,_=>rfl
 | t :: l,k,f,w=>by
  have A:=he.t;have B:=he.v;have C:=he.p
  have a:k<n.2.2.2.2.length:=by
   rcases bW k n.2.2.2.2.length with h | h
   ·exact h
   ·rw [aI h] at f;cases f
  have e:=aP a
  rw [f] at e
  obtain ⟨b,g⟩:=List.cons.inj e
  have c:k<n.2.2.1.length:=by omega
  have kp:k<n.2.2.2.1.length:=by omega
  have d:t ∈ n.2.2.2.2:=by rw [b];exact aJ a
  have j:=hs.vl _ (aJ c)
  have o:0<n.2.2.1[k].length:=cA.2 (he.ne _ (aJ c))
  obtain ⟨i,q⟩:=Zp9 _ 0 hsh k (by omega) (by omega)
  rw [Yj c,Yj a,← b] at i
  rw [Yj a,← b] at q
  have r:=hs.tq t d
  have u:=Zs2 t
  have D:=Zs1 t
  rw [Zd0.eq_2,Xd c,oB,Zxg (W:=W) (hr.mono (by omega)) (hs.lim t d) r (hs.tl t d),oB,
   Z8r (W:=2 * W) (m:=Y2 n.2.2.1 (n.2.2.2.1.getD k []) 1) (hr.mono (by omega)) (fun x b=>by
    obtain ⟨y,s,rfl⟩:=cD.1 b
    exact Zw9 (hs.lim t d y s)) (by omega) o j (by rw [bE];omega) (by rw [bE];exact i) hN,oB,Zzc,nC,Q6,Yj c,Yj a,← b]
  cases Um n.2.2.1[k].length (Y2 n.2.2.1 (n.2.2.2.1.getD k []) 1) t with
  | true=>
   rw [if_neg (by decide),if_pos rfl]
   exact Zsl hs he hsh hr hN l (k+1) g.symm (by omega)
  | false=>rw [if_pos (by decide),if_neg (by decide)]
theorem Z1e {N W:Nat} {n:Z4} (hs:Ww n W) (he:Ti n) (hsh:Th n.2.2.1 n.2.2.2.1 n.2.2.2.2 n.2.1.length 0=0) (hr:Z8 N (8 * W+40)) (hN:1048577<N):∀ (m fuel v:Nat),m+v=n.2.1.length→m<fuel→
  Zcz N n (n.2.2.1.map fun l=>(l.length:Int)) fuel (v:Int)=some (Q6 n.2.2.1 n.2.2.2.1 n.2.2.2.2 m v)
 | 0,0,v,_,h=>by omega
 | 0,fuel+1,v,i,_=>by
  rw [Zcz.eq_2,if_neg (dF (by omega))];rfl
 | m+1,0,v,_,h=>by omega
 | m+1,fuel+1,v,i,r=>by
  have s:=he.t;have u:=he.v;have w:=he.p;have o:=hs.nm
  have a:v<n.2.2.2.2.length:=by omega
  have b:v<n.2.2.1.length:=by omega
  have d:=aJ a
  have j:=hs.vl _ (aJ b)
  have e:0<n.2.2.1[v].length:=cA.2 (he.ne _ (aJ b))
  obtain ⟨f,k⟩:=Zp9 _ 0 hsh v (by omega) (by omega)
  rw [Yj b,Yj a] at f
  rw [Yj a] at k
  have q:Y2 n.2.2.1 (n.2.2.2.1.getD v []) 1≤n.2.2.2.2[v].length:=by rw [← f];exact dG _ e
  have g:=Z1f (N:=N) (W:=W) (c:=n.2.2.1[v].length) (l:=n.2.2.2.2[v]) (hr.mono (by omega)) (hs.lim _ d) (hs.tq _ d) e j (hs.tl _ d) hN (Y2 n.2.2.1 (n.2.2.2.1.getD v []) 1) N 0 (by omega) (by omega)
  rw [bF,show ((0:Nat):Int)=0 from rfl] at g
  rw [Zcz.eq_2,if_pos (dT (by omega)),Xd a,oB,Zqa b,oB,Zo5,g,oB,Q6,Yj b,Yj a]
  cases Um n.2.2.1[v].length (Y2 n.2.2.1 (n.2.2.2.1.getD v []) 1) n.2.2.2.2[v] with
  | true=>
   rw [if_neg (by decide),if_pos rfl,Zy (by omega)]
   exact Z1e hs he hsh hr hN m fuel (v+1) (by omega) (by omega)
  | false=>rw [if_pos (by decide),if_neg (by decide)]
structure Y7 (N:Nat) (n:Z4):Prop where
 ev:Ti n
 le:n.2.1.length≤1024
 nm:Ss n.2.1 n.2.2.1 n.2.1.length 0=0
 sh:Th n.2.2.1 n.2.2.2.1 n.2.2.2.2 n.2.1.length 0=0
 en:Zaa n.2.2.2.2=false
 su:Q6 n.2.2.1 n.2.2.2.1 n.2.2.2.2 n.2.1.length 0=0
 tw:Sh n.2.2.2.1=false
 or:∃ l,Tr N n.2.2.2.1=some (l,0)∧Qa N n.2.2.2.1=some l∧Zar N n.2.2.2.1=some 0∧Tl n.2.2.2.1 l∧l.length=n.2.2.2.1.length
theorem Z5u {N W:Nat} {n:Z4} (hs:Ww n W) (hr:Z8 N (8 * W+40)) (hN:2000000<N):∃ e,Ue N n=some e∧Zgl N n=some e∧(e=0→Y7 N n):=by
 have L:=hs.nm
 -- shapes of the lists
 have J:∀ b:Bool,(b=true→Zcf N n b=some 60∧Zek N n b=some 60):=fun b u=>by
  subst u
  exact ⟨by rw [Zcf,if_pos rfl],by rw [Zek,if_pos rfl]⟩
 have a:=J true rfl
 rw [Ue,Zgl]
 by_cases hv:n.2.2.1.length=n.2.1.length
 ·by_cases hp:n.2.2.2.1.length=n.2.1.length
  ·by_cases ht:n.2.2.2.2.length=n.2.1.length
   ·rw [if_neg (by rw [decide_eq_true (by omega)];decide),if_neg (by rw [decide_eq_true (by omega)];decide),if_neg (by rw [decide_eq_true (by omega)];decide),if_neg (by rw [decide_eq_true (by omega)];decide),show (!decide ((n.2.2.2.2.length:Int)=(n.2.1.length:Int)))=false by rw [decide_eq_true (by omega)];rfl,Zcf,Zek,if_neg (show ¬ (false=true) by decide),if_neg (show ¬ (false=true) by decide)]
    by_cases hk:1024<n.2.1.length
    ·rw [if_pos (dT (by omega)),if_pos (dT (by omega))]
     exact ⟨4,rfl,rfl,fun h=>by cases h⟩
    ·rw [if_neg (dF (by omega)),if_neg (dF (by omega))]
     have v:Zfv (n.1,n.2.1,n.2.2.1,n.2.2.2.1,n.2.2.2.2)=some (Ss n.2.1 n.2.2.1 n.2.1.length 0):=Zy2 n hv
     have j:=Z01 N n hv (by omega) hs.vl (by omega) n.2.1.length N 0 (by omega) (by omega)
     rw [show ((0:Nat):Int)=0 from rfl] at j
     rw [v,oB,j]
     by_cases hnms:Ss n.2.1 n.2.2.1 n.2.1.length 0=0
     ·rw [if_neg (by rw [decide_eq_true hnms];decide),if_pos hnms]
      obtain ⟨f,w⟩:∃ f,N - n.2.1.length=f+1:=⟨N - n.2.1.length - 1,by omega⟩
      rw [w,Q0.eq_2,if_neg (dF (by omega))]
      have k:∀ l ∈ n.2.2.1,l≠[]:=fun l x=>by
       obtain ⟨i,y,rfl⟩:=iI.1 x
       have:=(Zy3 _ 0 hnms i (by omega) (by omega)).1
       rw [Yj y] at this;exact this
      have fin:∀ e,Zal N n.2.2.2.1=some e→Zar N n.2.2.2.1=some e→e≠0→∃ e,((Zal N n.2.2.2.1).bind fun r_17=>if (!decide (r_17=0))=true then some r_17 else Zcg N n n.2.2.2.2 0)=some e∧((Zar N n.2.2.2.1).bind fun r_76=>if (!decide (r_76=0))=true then some r_76 else (Zgp N (n.1,n.2.1,n.2.2.1,n.2.2.2.1,n.2.2.2.2)).bind fun g=>Zcy N n g N 0)=some e∧(e=0→Y7 N n):=fun e A B c=>by
       rw [A,B,oB,oB,if_pos (by rw [decide_eq_false c];decide),if_pos (by rw [decide_eq_false c];decide)]
       exact ⟨e,rfl,rfl,fun h=>absurd h c⟩
      rcases Z1l hs.pn hN with ⟨e,D,R,c⟩ | ⟨_,_,l,_,_,_,_,D,R⟩ | ⟨C,E,l,F,m,M,o,D,R⟩
      ·exact fin e (by rw [Zal,D];rfl) R (by rcases c with h | h <;> omega)
      ·exact fin 42 (by rw [Zal,D];rfl) R (by decide)
      ·have G:Zal N n.2.2.2.1=some 0:=by rw [Zal,D];rfl
       have d:Ti n:=⟨hv,hp,ht,C,k⟩
       have p:Zgp N (n.1,n.2.1,n.2.2.1,n.2.2.2.1,n.2.2.2.2)=some (n.2.2.1.map fun l=>(l.length:Int)):=Xaq (n:=n) (by omega) (by omega)
       have H:=Zsk (N:=N) hs d n.2.2.2.2 0 (by simp) (by omega)
       have q:=Z1c (N:=N) (by omega) hs d n.2.1.length N 0 (by omega) (by omega)
       rw [show ((0:Nat):Int)=0 from rfl] at q
       rw [G,R,oB,oB,if_neg (by decide),if_neg (by decide),p,oB,H,q,ht]
       by_cases hsh:Th n.2.2.1 n.2.2.2.1 n.2.2.2.2 n.2.1.length 0=0
       ·have I:=Zsh (N:=N) (n:=n) (W:=W) (hr.mono (by omega)) n.2.2.2.2 (fun t h=>⟨hs.tl t h,hs.tq t h,hs.lim t h⟩)
        have r:=Z0n (N:=N) (n.2.2.1.map fun l=>(l.length:Int)) hs ht (hr.mono (by omega)) (by omega) n.2.1.length N 0 (by omega) (by omega)
        rw [show ((0:Nat):Int)=0 from rfl,bF] at r
        rw [if_pos hsh,if_pos hsh,I,r]
        by_cases hen:Zaa n.2.2.2.2=true
        ·rw [if_pos hen,if_pos hen]
         exact ⟨45,rfl,rfl,fun h=>by cases h⟩
        ·have K:=Zsl (N:=N) hs d hsh hr (by omega) n.2.2.2.2 0 (by simp) (by omega)
         have s:=Z1e (N:=N) hs d hsh hr (by omega) n.2.1.length N 0 (by omega) (by omega)
         rw [show ((0:Nat):Int)=0 from rfl] at s
         rw [if_neg hen,if_neg hen,K,s,ht]
         exact ⟨_,rfl,rfl,fun h=>⟨d,by omega,hnms,hsh,Bool.eq_false_iff.2 hen,h,E,l,D,F,R,m,o⟩⟩
       ·rw [if_neg hsh,if_neg hsh]
        exact ⟨_,rfl,rfl,fun h=>absurd h hsh⟩
     ·rw [if_pos (by rw [decide_eq_false hnms];decide),if_neg hnms]
      exact ⟨_,rfl,rfl,fun h=>absurd h hnms⟩
   ·rw [if_neg (by rw [decide_eq_true (by omega)];decide),if_neg (by rw [decide_eq_true (by omega)];decide),if_neg (by rw [decide_eq_true (by omega)];decide),if_neg (by rw [decide_eq_true (by omega)];decide),decide_eq_false (by omega)]
    exact ⟨60,a.1,a.2,fun h=>by cases h⟩
  ·rw [if_neg (by rw [decide_eq_true (by omega)];decide),if_pos (by rw [decide_eq_false (by omega)];decide),if_neg (by rw [decide_eq_true (by omega)];decide),if_pos (by rw [decide_eq_false (by omega)];decide)]
   exact ⟨60,a.1,a.2,fun h=>by cases h⟩
 ·rw [if_pos (by rw [decide_eq_false (by omega)];decide),if_pos (by rw [decide_eq_false (by omega)];decide)]
  exact ⟨60,a.1,a.2,fun h=>by cases h⟩
def Xn (p:Rat×Rat):QV×QV:=(Zm p.1,Zm p.2)
def cnt (n:Z4) (v:Nat):Nat:=(n.2.2.1.getD v []).length
def Sf (n:Z4) (w:List Int):List Int→Nat→Nat
 | [],r=>r
 | p :: ps,r=>Sf n w ps (r * cnt n p.toNat+(w.getD p.toNat 0).toNat)
def Wb (n:Z4) (w:List Int) (v:Nat):Nat:=Sf n w (n.2.2.2.1.getD v []) 0
def Z7 (n:Z4) (w:List Int) (v:Nat):List QV:=((n.2.2.2.2.getD v []).drop (Wb n w v * cnt n v)).take (cnt n v)
structure Xr (n:Z4) (w:List Int):Prop where
 len:w.length=n.2.1.length
 ok:∀ i,i<w.length→0≤w.getD i 0∧w.getD i 0<(cnt n i:Int)
theorem Zrg {n:Z4} (he:Ti n) {v:Nat} (hv:v<n.2.1.length):0<cnt n v:=by
 have a:v<n.2.2.1.length:=by rw [he.v];exact hv
 rw [cnt,Yj a]
 exact cA.2 (he.ne _ (aJ a))
theorem Z1a {n:Z4} (he:Ti n):∀ (ps:List Int) (k:Nat),(∀ p ∈ ps,0≤p∧p<(n.2.1.length:Int))→k≤1099511627776→k≤Y2 n.2.2.1 ps k
 | [],k,_,_=>aV _
 | p :: ps,k,a,b=>by
  have f:=a p aK
  have c:0<(n.2.2.1.getD p.toNat []).length:=Zrg he (by omega)
  rw [Y2]
  have d:k≤min (k * (n.2.2.1.getD p.toNat []).length) 1099511627776:=Nat.le_min.2 ⟨dG k c,b⟩
  exact aN d (Z1a he ps _ (fun q e=>a q (aE _ e)) (jI _ _))
theorem Zp7 {n:Z4} (he:Ti n) {w:List Int} (hw:Xr n w) {p:Int} {ps:List Int} {r k:Nat} (hp:∀ q ∈ p :: ps,0≤q∧q<(n.2.1.length:Int)) (hr:r<k) (hk:k≤65536) (hb:Y2 n.2.2.1 (p :: ps) k≤65536):
  r * cnt n p.toNat+(w.getD p.toNat 0).toNat<k * cnt n p.toNat∧k * cnt n p.toNat≤65536∧Y2 n.2.2.1 ps (k * cnt n p.toNat)≤65536:=by
 have d:=hp p aK
 have e:=hw.ok p.toNat (by rw [hw.len];omega)
 have f:r * cnt n p.toNat+cnt n p.toNat≤k * cnt n p.toNat:=by
  have:=aX (cnt n p.toNat) (show r+1≤k by omega)
  rwa [bI,bO] at this
 rw [Y2] at hb
 have a:=Z1a he ps (min (k * (n.2.2.1.getD p.toNat []).length) 1099511627776) (fun q b=>hp q (aE _ b)) (jI _ _)
 have c:k * (n.2.2.1.getD p.toNat []).length≤1099511627776:=by
  rcases Nat.le_total (k * (n.2.2.1.getD p.toNat []).length) 1099511627776 with h | h
  ·exact h
  ·rw [dI h] at a hb;omega
 rw [aZ c] at a hb
 exact ⟨by omega,aN a hb,hb⟩
theorem Ztm {n:Z4} (he:Ti n) {w:List Int} (hw:Xr n w):∀ (ps:List Int) (r k:Nat),(∀ q ∈ ps,0≤q∧q<(n.2.1.length:Int))→r<k→k≤65536→Y2 n.2.2.1 ps k≤65536→Sf n w ps r<Y2 n.2.2.1 ps k
 | [],r,k,_,a,_,_=>a
 | p :: ps,r,k,b,a,d,e=>by
  obtain ⟨f,c,g⟩:=Zp7 he hw b a d e
  have:=Ztm he hw ps _ _ (fun q i=>b q (aE _ i)) f c g
  rw [Sf,Y2,aZ (by rw [cnt] at c;omega)]
  exact this
theorem Znb {n:Z4} {w u:List Int}:∀ (ps:List Int) (r:Nat),(∀ p ∈ ps,w.getD p.toNat 0=u.getD p.toNat 0)→Sf n w ps r=Sf n u ps r
 | [],_,_=>rfl
 | p :: ps,r,h=>by rw [Sf,Sf,h p aK];exact Znb ps _ fun q a=>h q (aE _ a)
section
variable {N:Nat} {n:Z4} (hf:Y7 N n)
include hf
theorem Y7.pars {v:Nat} (hv:v<n.2.1.length):∀ p ∈ n.2.2.2.1.getD v [],0≤p∧p<(n.2.1.length:Int):=fun p a=>by
 have b:v<n.2.2.2.1.length:=by rw [hf.ev.p];exact hv
 rw [Yj b] at a
 have:=hf.ev.par (aJ b) p a
 rwa [hf.ev.v] at this
theorem Y7.rows {v:Nat} (hv:v<n.2.1.length):Y2 n.2.2.1 (n.2.2.2.1.getD v []) 1 * cnt n v=(n.2.2.2.2.getD v []).length∧(n.2.2.2.2.getD v []).length≤65536∧Y2 n.2.2.1 (n.2.2.2.1.getD v []) 1≤65536:=by
 have a:=Zp9 _ 0 hf.sh v (bL _) (by omega)
 have b:=Zrg hf.ev hv
 refine ⟨a.1,a.2,?_⟩
 have c:Y2 n.2.2.1 (n.2.2.2.1.getD v []) 1≤Y2 n.2.2.1 (n.2.2.2.1.getD v []) 1 * cnt n v:=dG _ b
 have d:Y2 n.2.2.1 (n.2.2.2.1.getD v []) 1 * cnt n v≤65536:=by
  have:=a.1;rw [cnt,this];exact a.2
 omega
theorem Y7.row {w:List Int} (hw:Xr n w) {v:Nat} (hv:v<n.2.1.length):Wb n w v * cnt n v+cnt n v≤(n.2.2.2.2.getD v []).length∧Wb n w v<65536:=by
 obtain ⟨d,e,a⟩:=hf.rows hv
 have b:=Ztm hf.ev hw _ 0 1 (hf.pars hv) (by omega) (by omega) a
 have c:=aX (cnt n v) (show Wb n w v+1≤Y2 n.2.2.1 (n.2.2.2.1.getD v []) 1 from b)
 rw [bI,bO,d] at c
 exact ⟨c,aG b a⟩
theorem Y7.rowT_len {w:List Int} (hw:Xr n w) {v:Nat} (hv:v<n.2.1.length):(Z7 n w v).length=cnt n v:=by
 have:=(hf.row hw hv).1
 rw [Z7,nK,cH];omega
theorem Y7.ent {v:Nat} (hv:v<n.2.1.length):∀ x ∈ n.2.2.2.2.getD v [],0≤Zq x∧Zq x≤1:=fun x b=>by
 have c:v<n.2.2.2.2.length:=by rw [hf.ev.t];exact hv
 rw [Yj c] at b
 have d:=hf.en
 rw [Zaa,iX] at d
 have e:=d _ (aJ c)
 rw [Bool.not_eq_true,iX] at e
 have a:=e x b
 simp only [Vk,Bool.or_eq_true,decide_eq_true_eq,not_or] at a
 exact ⟨bQ.1 a.1,bQ.1 a.2⟩
end
theorem Zas {n:Z4} {w:List Int} {v:Nat} {x:QV} (h:x ∈ Z7 n w v):x ∈ n.2.2.2.2.getD v []:=fP (fO h)
theorem Ztl {n:Z4} {w:List Int} {v j:Nat} (hj:j<(Z7 n w v).length):Zn (n.2.2.2.2.getD v []) ((Wb n w v * cnt n v+j:Nat):Int)=some (Z7 n w v)[j]:=by
 have a:Wb n w v * cnt n v+j<(n.2.2.2.2.getD v []).length:=by
  rw [Z7,nK,cH] at hj;omega
 rw [Xd a]
 simp only [Z7,gG,List.getElem_drop]
def Up (P:List R2) (l:List Int):Prop:=∀ (a:List Int) (v:Int) (b:List Int),l=a++v :: b→∀ p ∈ P.getD v.toNat [],p ∈ a
theorem Up.step {P:List R2} {l:List Int} {j:Nat} (h:Up P l) (hn:Vx P l 0=some j):Up P (l++[(j:Int)]):=by
 obtain ⟨_,f,i,_⟩:=Zsn hn
 obtain ⟨q,k⟩:=(Z0m f).1 i
 intro a v b e p d
 rcases List.eq_nil_or_concat b with rfl | ⟨m,c,rfl⟩
 ·obtain ⟨o,g⟩:=jC e rfl
  rw [List.cons.injEq] at g
  obtain ⟨rfl,-⟩:=g
  subst o
  rw [aB,Yj f] at d
  exact k p d
 ·rw [List.concat_eq_append,← cK,← bB] at e
  exact h a v m (jC e rfl).1 p d
theorem Zzg {N:Nat} {P:List R2} (hP:P.length<1048576) (hls:∀ x ∈ P,x.length≤1048576) (hN:1048576<N):∀ (n:Nat) (l r:List Int),Tl P l→Up P l→U6 N P n l=some r→Up P r
 | 0,l,r,_,_,h=>by rw [U6.eq_1] at h;cases h
 | n+1,l,r,a,b,h=>by
  have c:=a.len
  rw [Zst (by omega) hls (by omega) hN] at h
  cases hnx:Vx P l 0 with
  | none=>rw [hnx] at h;cases h;exact b
  | some j=>
   rw [hnx] at h
   exact Zzg hP hls hN n (l++[(j:Int)]) r (a.step hnx).1 (b.step hnx) h
structure Ug (P:List R2) (l:List Int):Prop where
 rg:∀ x ∈ l,0≤x∧x<(P.length:Int)
 nd:l.Nodup
 up:Up P l
theorem Z87 {N:Nat} {P:List R2} {l:List Int} (hP:P.length<1048576) (hls:∀ x ∈ P,x.length≤1048576) (hN:1048576<N) (h:Qa N P=some l) (ho:Tl P l):Ug P l:=
 ⟨ho.2.1,ho.1,Zzg hP hls hN N [] l ⟨.nil,by simp,by simp⟩ (fun a v b e=>by cases a <;> simp at e) (by rwa [Qa] at h)⟩
def Xm (n:Z4) (w:List Int):List Int→Rat×Rat→Rat×Rat
 | [],s=>s
 | v :: l,s=>Xm n w l ((Xv (s.2 - s.1) (Z7 n w v.toNat) s.1).getD (w.getD v.toNat 0).toNat (0,0))
structure Tj (D M:Nat) (s:Rat×Rat):Prop where
 d:D≠0
 m:1≤M
 a:Bd D M s.1
 b:Bd D M s.2
theorem Tj.zero:Tj 1 1 (0,1):=⟨by decide,by decide,.zero 1 1,.one⟩
theorem Zr5 (M D:Nat):(Zf (M * D)).length≤(Zf M).length+(Zf D).length:=T7 M D
section
variable {N W:Nat} {n:Z4} (hf:Y7 N n) (hs:Ww n W)
include hf hs
theorem Zhm {v:Nat} (hv:v<n.2.1.length):∀ x ∈ n.2.2.2.2.getD v [],Va x∧max x.1.2.length x.2.length≤W:=fun x a=>by
 have b:v<n.2.2.2.2.length:=by rw [hf.ev.t];exact hv
 rw [Yj b] at a
 have c:=hs.tq _ (aJ b)
 exact ⟨hs.lim _ (aJ b) x a,aN (Zz0 a) c⟩
theorem Xaj {v:Nat} (hv:v<n.2.1.length) (w:List Int):Ya (Z7 n w v)≤W:=by
 have a:v<n.2.2.2.2.length:=by rw [hf.ev.t];exact hv
 have b:=hs.tq _ (aJ a)
 rw [Z7,Yj a]
 exact aN (Zs3 _ _) (aN (Zs0 _ _) b)
theorem Zr7 {w:List Int} (hw:Xr n w) {v:Nat} (hv:v<n.2.1.length) {D M:Nat} {s:Rat×Rat} (h:Tj D M s):∃ D' M',(Zf M').length+(Zf D').length≤(Zf M).length+(Zf D).length+(W+2)∧
  (∀ p ∈ Xv (s.2 - s.1) (Z7 n w v) s.1,Tj D' M' p)∧qs (s.2 - s.1)≤(Zf M).length+(Zf D).length+1:=by
 have i:Bd D (M+M) (s.2 - s.1):=h.b.sub h.a h.d
 have l:=Zoc (Z7 n w v)
 have f:∀ x ∈ Z7 n w v,Va x:=fun x g=>(Zhm hf hs hv x (Zas g)).1
 have t:=Zwt (Z7 n w v) f
 have u:=Xaj hf hs hv w
 have o:(Z7 n w v).length≤65536:=by
  have c:=(hf.rows hv).2.1
  have e:=(hf.row hw hv).1
  rw [hf.rowT_len hw hv];omega
 have j:=Zzo (M:=M) h.d i (Z7 n w v) 1 s.1 M (by decide) (fun x g=>hf.ent hv x (Zas g)) (by rw [Nat.mul_one];exact h.a)
 rw [bO] at j
 have k:M+(M+M) * (Z7 n w v).length≤M * 262144:=by
  have c:(M+M) * (Z7 n w v).length≤(M+M) * 65536:=Nat.mul_le_mul_left _ o
  omega
 refine ⟨D * Sm (Z7 n w v),M * 262144,?_,fun p q=>?_,?_⟩
 ·have c:=T7 D (Sm (Z7 n w v))
  have e:=T7 M 262144
  have r:(Zf 262144).length≤1:=W0.2 (by decide)
  omega
 ·obtain ⟨c,e⟩:=j p q
  have:=h.m
  exact ⟨Nat.mul_ne_zero h.d l,by omega,c.up k,e.up k⟩
 ·have c:=i.qs h.d (by have:=h.m;omega)
  have e:=Zr5 (M+M) D
  have r:(Zf (M+M)).length≤(Zf M).length+1:=Zhv (aV _) (aV _)
  omega
end
theorem Tj.qa {D M:Nat} {s:Rat×Rat} (h:Tj D M s):qs s.1≤(Zf M).length+(Zf D).length:=aN (h.a.qs h.d h.m) (Zr5 M D)
theorem Tj.qb {D M:Nat} {s:Rat×Rat} (h:Tj D M s):qs s.2≤(Zf M).length+(Zf D).length:=aN (h.b.qs h.d h.m) (Zr5 M D)
theorem Xr.set {n:Z4} {w:List Int} (h:Xr n w) {v:Nat} {k:Int} (hk:0≤k∧k<(cnt n v:Int)):Xr n (w.set v k):=by
 refine ⟨by rw [nS];exact h.len,fun i a=>?_⟩
 rw [nS] at a
 by_cases hv:v<w.length
 ·rw [Us w 0 v i k hv]
  split
  ·rename_i e;rw [e];exact hk
  ·exact h.ok i a
 ·rw [List.set_eq_of_length_le (by omega)];exact h.ok i a
theorem Zyl {l:List (Rat×Rat)} {j:Nat} (hj:j<l.length):Zn (l.map Xn) (j:Int)=some (Xn (l.getD j (0,0))):=by
 rw [Xd (by rw [bE];exact hj),fG,Yj hj]
theorem Zeu {l:List (Rat×Rat)} {j:Nat} (hj:j<l.length):l.getD j (0,0) ∈ l:=by rw [Yj hj];exact aJ hj
def Za9:Option R0:=
  some ((false,[1]),[1])
theorem Zhg {col:Zg} {a:World} {r:R0} (d c2:Nat) (c:Za9=some r):
    Calls prog 47 #[] a (V7 119 d c2 col a r):=by
 refine Yb (m:=5) func47 O O O ?_;rw [Za9.eq_1] at c;have b:=St.start col a;refine go ?_;refine Xc (col:=(Zk col)) #[.bool false,(nI),(nI)] 1 zeroValue42 fun _ _ i p o=>go ?_;refine Vn (col:=i) [1] 2 fun g _ m h q=>lV (.agg #[.bool false,.slice g ([1].length) 1]) (Yc (l:=[_,_]) (qs:=[(0,1),(1,1)]) underlying40 zeroValue40 ⟨O,sizeOf4,O,sizeOf38,trivial⟩ O)<|Vn (col:=m) [1] 3 ?_;intro k _ _ f n;refine lV (.agg #[.bool false,.slice g ([1].length) 1,.slice k ([1].length) 1]) (Yc (l:=[_,_]) (qs:=[(0,2),(2,1)]) underlying42 zeroValue42 ⟨O,sizeOf40,O,sizeOf38,trivial⟩ O) ?_;refine Zs ((o.gr h).gr f) fun _ e j l=>go ?_;cases c;replace b:=(((b.grow p).grow h).grow f).kp e j;exact ⟨O,_,ra l.atN,_,_,1,_,1,O,b.fin (cm [(2,d),(3,c2)]),b.fo ((q.gr f).kp e),b.fo (n.kp e)⟩
abbrev T3:=Option (List Int×(QV×QV)×Bool)
theorem Zhn:Za9=some (Zm 1):=by
 rw [Za9,show Zm 1=((false,[1]),[1]) by rw [Zm,Xa];simp [Uj]]
theorem Xr.zero {n:Z4} (he:Ti n):Xr n (aC n.2.1.length 0):=by
 refine ⟨aT,fun i a=>?_⟩
 rw [aT] at a
 have:=Zrg he a
 rw [aD,List.getElem?_replicate,if_pos a]
 simp;exact this
theorem Zoe {N:Nat} (hr:Z8 N 16):Zam N ([]:List QV)=some (Zm 0):=by
 have:=(Zrw (N:=N) (l:=[]) (by simp) hr).1
 rwa [Y1,cX,kB] at this
abbrev noS:QV×QV:=(((false,([]:List Int)),([]:List Int)),((false,([]:List Int)),([]:List Int)))
def Vi (n:Z4) (ch:List (Rat×Rat)→Int):List Int→List Int→Rat×Rat→Option (List Int×(Rat×Rat))
 | [],w,s=>some (w,s)
 | v :: l,w,s=>if ch (Xv (s.2 - s.1) (Z7 n w v.toNat) s.1)<0 then none else
   Vi n ch l (w.set v.toNat (ch (Xv (s.2 - s.1) (Z7 n w v.toNat) s.1))) ((Xv (s.2 - s.1) (Z7 n w v.toNat) s.1).getD (ch (Xv (s.2 - s.1) (Z7 n w v.toNat) s.1)).toNat (0,0))
def Ze3:Option (List Int×(Rat×Rat))→T3
 | none=>some ([],noS,false)
 | some (w,s)=>some (w,Xn s,true)
def Zuc (ch:List (Rat×Rat)→Int):Prop:=∀ P,ch P<(P.length:Int)
/-! the program's loops,the chooser left open -/
def Zdm (N:Nat) (n:Z4) (ch:Int→List (QV×QV)→Option Int) (w:List Int) (kk:QV→QV→List Int→T3) (x row:Int) (d:QV) (e:List ByteArray):Nat→QV→List (QV×QV)→Int→T3
 | 0,_,_,_=>none
 | f+1,a,ps,k=>if decide (k<(e.length:Int))=true then (Zn n.2.2.2.2 x).bind fun t=>(Zn n.2.2.1 x).bind fun e2=>(Zn t (i64.wrap (i64.wrap (row * (e2.length:Int))+k))).bind fun y=>(U2 N d y).bind fun z=>(Uk N a z).bind fun b=>
   Z1 ((ps.length+[(a,b)].length) * 112≤140737488355328∧ps.length+[(a,b)].length≤maxLen) (Zdm N n ch w kk x row d e f b (ps++[(a,b)]) (i64.wrap (k+1)))
  else (ch x ps).bind fun r=>if decide (r<0)=true then some ([],noS,false) else (Zn ps r).bind fun p=>(Zn w x).bind fun _=>(some (w.set (aA x) r)).bind fun xs=>kk p.1 p.2 xs
def Qn (N:Nat) (n:Z4) (ch:Int→List (QV×QV)→Option Int) (s:QV×QV) (w:List Int) (kk:QV→QV→List Int→T3) (x:Int):List Int→Int→T3
 | [],row=>(Qu N s.2 s.1).bind fun d=>(Zn n.2.2.1 x).bind fun e=>Zdm N n ch w kk x row d e N s.1 [] 0
 | p :: l,row=>(Zn n.2.2.1 p).bind fun e=>(Zn w p).bind fun y=>Qn N n ch s w kk x l (i64.wrap (i64.wrap (row * (e.length:Int))+y))
def Zac (N:Nat) (n:Z4) (ch:Int→List (QV×QV)→Option Int):List Int→QV→QV→List Int→T3
 | [],a,b,w=>some (w,(a,b),true)
 | x :: l,a,b,w=>(Zn n.2.2.2.1 x).bind fun ps=>Qn N n ch (a,b) w (Zac N n ch l) x ps 0
section
variable {N K:Nat} {n:Z4} (hf:Y7 N n) (hr:Z8 N (8 * K+40))
include hf hr
theorem Zxo (ch:Int→List (QV×QV)→Option Int) (w:List Int) (hw:Xr n w) (kk:QV→QV→List Int→T3) {v:Nat} (hv:v<n.2.1.length) (hl:∀ x ∈ Z7 n w v,Va x∧max x.1.2.length x.2.length≤K) {long:Rat} (hlong:qs long≤K) (F:List (QV×QV)→T3)
  (hF:∀ P:List (QV×QV),((ch (v:Int) P).bind fun r=>if decide (r<0)=true then some ([],noS,false) else (Zn P r).bind fun p=>(Zn w (v:Int)).bind fun _=>(some (w.set (aA (v:Int)) r)).bind fun xs=>kk p.1 p.2 xs)=F P):
  ∀ (l:List QV) (f j:Nat) (a:Rat) (parts:List (QV×QV)),(Z7 n w v).drop j=l→j≤cnt n v→cnt n v<f+j→qs a≤K→(∀ p ∈ Xv long l a,qs p.1≤K∧qs p.2≤K)→parts.length=j→
   Zdm N n ch w kk (v:Int) (Wb n w v:Int) (Zm long) (n.2.2.1.getD v []) f (Zm a) parts (j:Int)=F (parts++(Xv long l a).map Xn)
 | l,0,j,a,parts,_,i,s,_,_,_=>by omega
 | l,f+1,j,a,parts,c,i,s,u,k,J=>by
  have d:=hf.rowT_len hw hv
  have A:=hf.row hw hv
  have q:=hf.rows hv
  rw [Zdm]
  cases l with
  | nil=>
   have L:=aF.1 c
   rw [if_neg (dF (by rw [cnt] at i d;omega)),hF,Xv,cX,dA]
  | cons y l=>
   have e:j<(Z7 n w v).length:=by
    rcases bW j (Z7 n w v).length with h | h
    ·exact h
    ·rw [aI h] at c;cases c
   have g:(Z7 n w v)[j]=y∧(Z7 n w v).drop (j+1)=l:=by
    rw [aP e] at c
    exact List.cons.inj c
   have b:=hl y (g.1 ▸ aJ e)
   have m:j<cnt n v:=by omega
   have B:=k _ aK
   have M:(0:Int)≤((Wb n w v * cnt n v:Nat):Int):=cY _
   have C:i64.wrap ((Wb n w v:Int) * ((n.2.2.1.getD v []).length:Int))=((Wb n w v * cnt n v:Nat):Int):=by
    rw [show ((n.2.2.1.getD v []).length:Int)=((cnt n v:Nat):Int) from rfl,← bH]
    exact Zy (by omega)
   have D:i64.wrap (((Wb n w v * cnt n v:Nat):Int)+(j:Int))=((Wb n w v * cnt n v+j:Nat):Int):=by
    rw [← cS]
    exact Zy (by omega)
   have E:=Zbw b.1.1 b.1.2
   have G:U2 N (Zm long) y=some (Zm (long * Zq y)):=by
    have:=Zk9 (Yi hlong) (E.mono b.2) (hr.mono (by omega))
    rwa [Xz] at this
   have H:qs (long * Zq y)≤K+(K+1):=by
    have O:=Zgy long (Zq y)
    have Q:=Zm5 b.1
    omega
   have I:Uk N (Zm a) (Zm (long * Zq y))=some (Zm (a+long * Zq y)):=by
    have:=Ze4 (Yi u) (Yi H) (hr.mono (by omega))
    rwa [Xz,Xz] at this
   rw [if_pos (dT (by rw [cnt] at m;omega)),Vb [] (by rw [hf.ev.t];exact hv),oB,Vb [] (by rw [hf.ev.v];exact hv),oB,C,D,Ztl e,g.1,oB,G,oB,I,oB,
    Xh (by simp only [aL,maxLen];omega),Zy (x:=(j:Int)+1) (by omega)]
   have o:=Zxo ch w hw kk hv hl hlong F hF l f (j+1) (a+long * Zq y) (parts++[Xn (a,a+long * Zq y)]) g.2 (by omega) (by omega) B.2 (fun p h=>k p (aE _ h)) (by rw [nA,aL];omega)
   rw [bB] at o
   exact o
omit hr in
theorem Zxn (ch:Int→List (QV×QV)→Option Int) (s:QV×QV) (w:List Int) (hw:Xr n w) (kk:QV→QV→List Int→T3) (x:Int):∀ (ps:List Int) (r k:Nat),(∀ q ∈ ps,0≤q∧q<(n.2.1.length:Int))→r<k→k≤65536→Y2 n.2.2.1 ps k≤65536→
  Qn N n ch s w kk x ps (r:Int)=Qn N n ch s w kk x [] (Sf n w ps r:Int)
 | [],r,k,_,_,_,_=>rfl
 | p :: ps,r,k,a,b,c,d=>by
  obtain ⟨e,f,g⟩:=Zp7 hf.ev hw a b c d
  have u:=a p aK
  have y:=hw.ok p.toNat (by rw [hw.len];omega)
  have A:r * cnt n p.toNat≤k * cnt n p.toNat:=aX _ (by omega)
  have q1:Zn n.2.2.1 p=some (n.2.2.1.getD p.toNat []):=by
   have:=Vb (l:=n.2.2.1) [] (j:=p.toNat) (by rw [hf.ev.v];omega)
   rwa [show ((p.toNat:Nat):Int)=p by omega] at this
  have i:Zn w p=some (w.getD p.toNat 0):=by
   have:=Vb (l:=w) 0 (j:=p.toNat) (by rw [hw.len];omega)
   rwa [show ((p.toNat:Nat):Int)=p by omega] at this
  have m:i64.wrap ((r:Int) * ((n.2.2.1.getD p.toNat []).length:Int))=((r * cnt n p.toNat:Nat):Int):=by
   rw [show ((n.2.2.1.getD p.toNat []).length:Int)=((cnt n p.toNat:Nat):Int) from rfl,← bH]
   exact Zy (by omega)
  have o:i64.wrap (((r * cnt n p.toNat:Nat):Int)+w.getD p.toNat 0)=((r * cnt n p.toNat+(w.getD p.toNat 0).toNat:Nat):Int):=by
   rw [cS,show (((w.getD p.toNat 0).toNat:Nat):Int)=w.getD p.toNat 0 by omega]
   exact Zy (by omega)
  rw [Qn.eq_2,q1,oB,i,oB,m,o]
  exact Zxn ch s w hw kk x ps _ _ (fun q t=>a q (aE _ t)) e f g
end
section
variable {N W K:Nat} {n:Z4} (hf:Y7 N n) (hs:Ww n W) (hr:Z8 N (8 * K+40)) (hWK:W≤K) {ord:List Int} (ho:Ug n.2.2.2.1 ord) {cF:List (Rat×Rat)→Int} (hF:Zuc cF)
include hf hs hr hWK ho hF
theorem Zrx {ch:Int→List (QV×QV)→Option Int} (hN:65536<N) (hch:∀ (v:Nat) (P:List (Rat×Rat)),(∀ p ∈ P,qs p.1≤K∧qs p.2≤K)→P.length≤65536→ch (v:Int) (P.map Xn)=some (cF P)):
  ∀ (l:List Int) (w:List Int) (s:Rat×Rat) (D M:Nat),(∀ x ∈ l,x ∈ ord)→Xr n w→Tj D M s→(Zf M).length+(Zf D).length+l.length * (W+2)+2≤K→
  Zac N n ch l (Zm s.1) (Zm s.2) w=Ze3 (Vi n cF l w s)
 | [],w,s,D,M,_,_,_,_=>rfl
 | v :: l,w,s,D,M,r,b,e,C=>by
  have t:=ho.rg v (r v aK)
  rw [hf.ev.p] at t
  obtain ⟨k,rfl⟩:∃ k:Nat,v=(k:Int):=⟨v.toNat,by omega⟩
  have a:k<n.2.1.length:=by omega
  obtain ⟨E,F,I,c,J⟩:=Zr7 hf hs b a e
  have u:(l.length+1) * (W+2)=l.length * (W+2)+(W+2):=by rw [bI,bO]
  rw [nC,u] at C
  have f:=hf.rows a
  have H:cnt n k≤65536:=by have:=(hf.row b a).1;omega
  have j:Qu N (Zm s.2) (Zm s.1)=some (Zm (s.2 - s.1)):=by
   have:=Zrv (Yi e.qb) (Yi e.qa) (hr.mono (s:=2 * ((Zf M).length+(Zf D).length+((Zf M).length+(Zf D).length)+3)) (by omega))
   rwa [Xz,Xz] at this
  rw [Zac,Vb [] (by rw [hf.ev.p];exact a),oB]
  have y:=Zxn (N:=N) hf ch (Zm s.1,Zm s.2) w b (Zac N n ch l) (k:Int) (n.2.2.2.1.getD k []) 0 1 (hf.pars a) (by omega) (by omega) f.2.2
  rw [show ((0:Nat):Int)=0 from rfl] at y
  rw [y,Qn,j,oB,Vb [] (by rw [hf.ev.v];exact a),oB]
  have A:=Zxo hf hr ch w b (Zac N n ch l) a (fun x m=>by have:=Zhm hf hs a x (Zas m);exact ⟨this.1,by omega⟩) (long:=s.2 - s.1) (by omega) _ (fun _=>rfl) (Z7 n w k) N 0 s.1 [] rfl (bL _) (by omega) (by have:=e.qa;omega) (fun p d=>⟨by have:=(c p d).qa;omega,by have:=(c p d).qb;omega⟩) rfl
  rw [show ((0:Nat):Int)=0 from rfl] at A
  have g:=A
  rw [Wb] at g
  rw [g,cB]
  have G:(Xv (s.2 - s.1) (Z7 n w k) s.1).length=cnt n k:=by rw [Su,hf.rowT_len b a]
  have o:=hF (Xv (s.2 - s.1) (Z7 n w k) s.1)
  rw [hch k _ (fun p d=>⟨by have:=(c p d).qa;omega,by have:=(c p d).qb;omega⟩) (by omega),oB,Vi,aB]
  by_cases hneg:cF (Xv (s.2 - s.1) (Z7 n w k) s.1)<0
  ·rw [if_pos (dT hneg),if_pos hneg];rfl
  ·obtain ⟨q,B⟩:∃ q:Nat,cF (Xv (s.2 - s.1) (Z7 n w k) s.1)=(q:Int):=⟨(cF (Xv (s.2 - s.1) (Z7 n w k) s.1)).toNat,by omega⟩
   rw [B] at o
   have i:q<(Xv (s.2 - s.1) (Z7 n w k) s.1).length:=by omega
   rw [B,if_neg (dF (by omega)),if_neg (by omega),Zyl i,oB,Vb 0 (by rw [b.len];exact a),oB,oB,aB]
   exact Zrx hN hch l (w.set k q) _ E F (fun x m=>r x (aE _ m)) (b.set (by omega)) (c _ (Zeu i)) (by omega)
end
theorem Zps {a b:Rat}:Vf a b≤0↔a≤b:=by
 rw [Vf,← bQ]
 by_cases h:a<b
 ·rw [if_pos h];exact ⟨fun _ g=>absurd (dS h) (fE.2 g),fun _=>by decide⟩
 ·rw [if_neg h]
  by_cases g:b<a
  ·rw [if_pos g];exact ⟨fun e=>absurd e (by decide),fun e=>absurd g e⟩
  ·rw [if_neg g];exact ⟨fun _=>g,fun _=>by decide⟩
theorem Zm2 {a b:Rat}:Vf a b<0↔a<b:=by
 rw [Vf]
 by_cases h:a<b
 ·rw [if_pos h];exact ⟨fun _=>h,fun _=>by decide⟩
 ·rw [if_neg h]
  by_cases g:b<a
  ·rw [if_pos g];exact ⟨fun e=>absurd e (by decide),fun e=>absurd e h⟩
  ·rw [if_neg g];exact ⟨fun e=>absurd e (by decide),fun e=>absurd e h⟩
def Tb (c:Rat×Rat→Bool):List (Rat×Rat)→Nat→Int
 | [],_=> -1
 | p :: l,k=>if c p=true then (k:Int) else Tb c l (k+1)
def Vj (c:Rat×Rat→Bool):List (Rat×Rat)→Nat→Int→Int
 | [],_,f=>f
 | p :: l,k,f=>Vj c l (k+1) (if c p=true then (k:Int) else f)
theorem Zw6 (c:Rat×Rat→Bool):∀ (l:List (Rat×Rat)) (k:Nat),Tb c l k<((k+l.length:Nat):Int)
 | [],k=>by rw [Tb];omega
 | p :: l,k=>by
  have:=Zw6 c l (k+1)
  rw [Tb,nC]
  split
  ·omega
  ·omega
theorem Zw5 (c:Rat×Rat→Bool):Zuc fun P=>Tb c P 0:=fun P=>by have:=Zw6 c P 0;rwa [cG] at this
theorem Zoi {c:Rat×Rat→Bool}:∀ (l:List (Rat×Rat)) (k:Nat) (f:Int),(∀ p ∈ l,c p=false)→Vj c l k f=f
 | [],k,f,_=>rfl
 | p :: l,k,f,h=>by rw [Vj,h p aK,if_neg (by decide)];exact Zoi l _ _ fun q a=>h q (aE _ a)
theorem Zw8 {c:Rat×Rat→Bool}:∀ (l:List (Rat×Rat)) (k:Nat),(∀ p ∈ l,c p=false)→Tb c l k= -1
 | [],k,_=>rfl
 | p :: l,k,h=>by rw [Tb,h p aK,if_neg (by decide)];exact Zw8 l _ fun q a=>h q (aE _ a)
theorem Z7q {long a:Rat} {x:QV} (hl:0≤long) (hx:0≤Zq x):a≤a+long * Zq x:=by
 have b:=Rat.add_le_add_left (c:=a) |>.2 (jV hl hx)
 rwa [kL] at b
theorem Zm1 {long:Rat} (hl:0≤long):∀ (t:List QV) (a:Rat),(∀ x ∈ t,0≤Zq x)→∀ p ∈ Xv long t a,a≤p.1∧p.1≤p.2
 | [],a,_,p,b=>by rw [Xv] at b;cases b
 | x :: t,a,c,p,b=>by
  have d:=Z7q (a:=a) hl (c x aK)
  rw [Xv] at b
  rcases bK.1 b with rfl | b
  ·exact ⟨dX,d⟩
  ·obtain ⟨e,f⟩:=Zm1 hl t _ (fun y g=>c y (aE _ g)) p b
   exact ⟨bR d e,f⟩
def Vq (x:Rat×Rat) (p:Rat×Rat):Bool:=decide (p.1≤x.1)&&decide (x.1<p.2)&&decide (x.2≤p.2)
theorem S3 {x p:Rat×Rat}:Vq x p=true↔p.1≤x.1∧x.1<p.2∧x.2≤p.2:=by simp [Vq,and_assoc]
structure Znm (x:Rat×Rat) (c:Rat×Rat→Bool):Prop where
 same:∀ p,p.1≤x.1→c p=Vq x p
 far:∀ p,x.1<p.2→c p=false→∀ q,x.1<q.1→c q=false
theorem Zw7 {x:Rat×Rat} {c:Rat×Rat→Bool} (h:Znm x c) {long:Rat} (hl:0≤long):∀ (t:List QV) (a:Rat) (k:Nat),(∀ y ∈ t,0≤Zq y)→a≤x.1→Tb c (Xv long t a) k=Vj (Vq x) (Xv long t a) k (-1)
 | [],a,k,_,_=>rfl
 | y :: t,a,k,i,j=>by
  have f:∀ z ∈ t,0≤Zq z:=fun z l=>i z (aE _ l)
  have d:=Zm1 hl t (a+long * Zq y) f
  rw [Xv,Tb,Vj]
  have hs:=h.same (a,a+long * Zq y) j
  by_cases hc:c (a,a+long * Zq y)=true
  ·rw [if_pos hc,if_pos (hs ▸ hc),Zoi]
   intro p e
   have m:=(S3.1 (hs ▸ hc)).2.1
   rw [Bool.eq_false_iff]
   intro g
   exact absurd (S3.1 g).1 (fE.2 (Std.lt_of_lt_of_le m (d p e).1))
  ·rw [if_neg hc,if_neg (hs ▸ hc)]
   by_cases b:a+long * Zq y≤x.1
   ·exact Zw7 h hl t _ (k+1) f b
   ·have b:=fE.1 b
    rw [Zw8,Zoi]
    ·intro p e
     rw [Bool.eq_false_iff]
     intro g
     exact absurd (S3.1 g).1 (fE.2 (Std.lt_of_lt_of_le b (d p e).1))
    ·intro p e
     exact h.far _ b (by simpa using hc) p (Std.lt_of_lt_of_le b (d p e).1)
theorem Zr3 {c:Rat×Rat→Bool}:∀ (l:List (Rat×Rat)) (k:Nat) (f:Int),Vj c l k f=f∨∃ j,∃ h:j<l.length,Vj c l k f=((k+j:Nat):Int)∧c l[j]=true
 | [],k,f=>.inl rfl
 | p :: l,k,f=>by
  rw [Vj]
  rcases Zr3 (c:=c) l (k+1) (if c p=true then (k:Int) else f) with h | ⟨j,a,b,d⟩
  ·rw [h]
   by_cases hc:c p=true
   ·rw [if_pos hc];exact .inr ⟨0,by simp,by omega,hc⟩
   ·rw [if_neg hc];exact .inl rfl
  ·exact .inr ⟨j+1,by simpa using a,by rw [b];omega,d⟩
section
variable {N W K:Nat} {n:Z4} (hf:Y7 N n) {ord:List Int} (ho:Ug n.2.2.2.1 ord)
include hf ho
theorem Zrk {x:Rat×Rat} {c:Rat×Rat→Bool} (h:Znm x c):∀ (l w:List Int) (s:Rat×Rat),(∀ y ∈ l,y ∈ ord)→s.1≤x.1→s.1≤s.2→
  Vi n (fun P=>Tb c P 0) l w s=Vi n (fun P=>Vj (Vq x) P 0 (-1)) l w s
 | [],w,s,_,_,_=>rfl
 | v :: l,w,s,g,q,i=>by
  have k:=ho.rg v (g v aK)
  rw [hf.ev.p] at k
  have b:∀ y ∈ Z7 n w v.toNat,0≤Zq y:=fun y f=>(hf.ent (v:=v.toNat) (by omega) y (Zas f)).1
  have a:0≤s.2 - s.1:=by rw [dM] at i;exact i
  have m:=Zw7 h a (Z7 n w v.toNat) s.1 0 b q
  rw [Vi,Vi,m]
  split
  ·rfl
  ·rename_i d
   rcases Zr3 (c:=Vq x) (Xv (s.2 - s.1) (Z7 n w v.toNat) s.1) 0 (-1) with e | ⟨j,o,r,t⟩
   ·rw [e] at d;exact absurd (by decide) d
   ·have u:(Xv (s.2 - s.1) (Z7 n w v.toNat) s.1)[j] ∈ Xv (s.2 - s.1) (Z7 n w v.toNat) s.1:=aJ o
    rw [r,cG,aB,Yj o]
    exact Zrk h l _ _ (fun y f=>g y (aE _ f)) (S3.1 t).1 (Zm1 a _ _ b _ u).2
end
/-! the document's loops -/
/-! a row's entries are 1 together -/
theorem Zzb {c:Nat}:∀ (m:Nat) (l:List QV),Um c m l=true→∀ r,r<m→Y1 ((l.drop (r * c)).take c)=1
 | 0,l,_,r,h=>by omega
 | m+1,l,h,r,a=>by
  rw [Um,Bool.and_eq_true,decide_eq_true_iff] at h
  cases r with
  | zero=>rw [Nat.zero_mul,bF];exact h.1
  | succ r=>
   have:=Zzb m (l.drop c) h.2 r (by omega)
   rw [dZ] at this
   rw [bI,bO,Nat.add_comm]
   exact this
theorem Z1y {vals:List R4} {P:List R2} {T:List (List QV)}:∀ (m v:Nat),Q6 vals P T m v=0→∀ i,v≤i→i<v+m→Um (vals.getD i []).length (Y2 vals (P.getD i []) 1) (T.getD i [])=true
 | 0,v,_,i,a,b=>by omega
 | m+1,v,h,i,a,b=>by
  rw [Q6] at h
  split at h
  ·rename_i c
   rcases bW v i with d | d
   ·exact Z1y m (v+1) h i (by omega) (by omega)
   ·have:i=v:=by omega
    subst this
    exact c
  ·cases h
section
variable {N:Nat} {n:Z4} (hf:Y7 N n)
include hf
theorem Z1z {w:List Int} (hw:Xr n w) {v:Nat} (hv:v<n.2.1.length):Y1 (Z7 n w v)=1:=by
 have a:=Z1y _ 0 hf.su v (bL _) (by omega)
 have b:=Ztm hf.ev hw (n.2.2.2.1.getD v []) 0 1 (hf.pars hv) (by omega) (by omega) (hf.rows hv).2.2
 exact Zzb _ _ a _ b
end
/-! parts side by side -/
theorem Zzq (long:Rat):∀ (t:List QV) (a:Rat) (j:Nat) (hj:j<t.length),((Xv long t a).getD j (0,0)).2=((Xv long t a).getD j (0,0)).1+long * Zq t[j]
 | [],a,j,hj=>by simp at hj
 | x :: t,a,0,hj=>by rw [Xv,dP];rfl
 | x :: t,a,j+1,hj=>by
  rw [Xv,cM]
  exact Zzq long t _ j (by simpa using hj)
theorem Zzp {long:Rat} (hl:0≤long):∀ (t:List QV) (a:Rat),(∀ x ∈ t,0≤Zq x)→∀ p ∈ Xv long t a,p.2≤a+long * Y1 t
 | [],a,_,p,b=>by rw [Xv] at b;cases b
 | x :: t,a,d,p,b=>by
  have c:∀ y ∈ t,0≤Zq y:=fun y f=>d y (aE _ f)
  have g:0≤Y1 t:=by
   rw [Y1]
   clear b d
   induction t with
   | nil=>simp
   | cons y t j=>
    rw [bX,dU]
    exact Rat.add_nonneg (c y aK) (j fun z k=>c z (aE _ k))
  have e:a+long * Y1 (x :: t)=a+long * Zq x+long * Y1 t:=by
   rw [Y1,bX,dU,← Y1,Rat.mul_add,kC]
  rw [Xv] at b
  rw [e]
  rcases bK.1 b with rfl | b
  ·have:=jV hl g
   show a+long * Zq x≤_
   grind
  ·exact Zzp hl t _ c p b
theorem Zpp {long:Rat} (hl:0≤long):∀ (t:List QV) (a:Rat) (i j:Nat),(∀ x ∈ t,0≤Zq x)→i<j→j<t.length→((Xv long t a).getD i (0,0)).2≤((Xv long t a).getD j (0,0)).1
 | [],a,i,j,_,_,h=>by simp at h
 | x :: t,a,i,0,_,h,_=>by omega
 | x :: t,a,i,j+1,d,g,e=>by
  have b:∀ y ∈ t,0≤Zq y:=fun y f=>d y (aE _ f)
  have c:j<t.length:=by simpa using e
  rw [Xv,cM]
  cases i with
  | zero=>
   rw [dP]
   exact (Zm1 hl t _ b _ (Zeu (by rw [Su];exact c))).1
  | succ i=>
   rw [cM]
   exact Zpp hl t _ i j b (by omega) c
theorem Zoj {c:Rat×Rat→Bool}:∀ (l:List (Rat×Rat)) (k:Nat) (f:Int) (j:Nat),j<l.length→c (l.getD j (0,0))=true→(∀ i,j<i→i<l.length→c (l.getD i (0,0))=false)→Vj c l k f=((k+j:Nat):Int)
 | [],k,f,j,h,_,_=>by simp at h
 | p :: l,k,f,0,h,a,b=>by
  rw [dP] at a
  rw [Vj,if_pos a,Zoi l (k+1) _ fun q m=>?_]
  ·omega
  ·obtain ⟨i,d,e⟩:=List.getElem_of_mem m
   have:=b (i+1) (by omega) (by simpa using d)
   rw [cM,Yj d,e] at this
   exact this
 | p :: l,k,f,j+1,h,a,b=>by
  rw [cM] at a
  rw [Vj,Zoj l (k+1) _ j (by simpa using h) a fun i d g=>by
   have:=b (i+1) (by omega) (by simpa using g)
   rwa [cM] at this]
  omega
section
variable {N:Nat} {n:Z4} (hf:Y7 N n)
include hf
theorem Zpo {w:List Int} (hw:Xr n w) {v:Nat} (hv:v<n.2.1.length) {s:Rat×Rat} (hs:s.1≤s.2) {p:Rat×Rat} (hp:p ∈ Xv (s.2 - s.1) (Z7 n w v) s.1):s.1≤p.1∧p.1≤p.2∧p.2≤s.2:=by
 have b:∀ y ∈ Z7 n w v,0≤Zq y:=fun y c=>(hf.ent hv y (Zas c)).1
 have a:0≤s.2 - s.1:=by rw [dM] at hs;exact hs
 obtain ⟨d,e⟩:=Zm1 a _ _ b _ hp
 have f:=Zzp a _ _ b _ hp
 rw [Z1z hf hw hv] at f
 exact ⟨d,e,by grind⟩
variable {ord:List Int} (ho:Ug n.2.2.2.1 ord)
include ho
theorem Zbx {w:List Int} (hw:Xr n w):∀ (l:List Int) (s:Rat×Rat),(∀ y ∈ l,y ∈ ord)→s.1≤s.2→s.1≤(Xm n w l s).1∧(Xm n w l s).1≤(Xm n w l s).2∧(Xm n w l s).2≤s.2
 | [],s,_,h=>⟨dX,h,dX⟩
 | v :: l,s,b,h=>by
  have c:=ho.rg v (b v aK)
  rw [hf.ev.p] at c
  have a:v.toNat<n.2.1.length:=by omega
  have q:=hw.ok v.toNat (by rw [hw.len];exact a)
  have d:(Xv (s.2 - s.1) (Z7 n w v.toNat) s.1).getD (w.getD v.toNat 0).toNat (0,0) ∈ Xv (s.2 - s.1) (Z7 n w v.toNat) s.1:=Zeu (by rw [Su,hf.rowT_len hw a];omega)
  obtain ⟨e,f,g⟩:=Zpo hf hw a h d
  obtain ⟨j,k,m⟩:=Zbx hw l _ (fun y o=>b y (aE _ o)) f
  rw [Xm]
  exact ⟨bR e j,k,bR m g⟩
theorem Zwg {x:Rat×Rat} (hx:x.1<x.2) {w:List Int} (hw:Xr n w):∀ (l pre u:List Int) (s:Rat×Rat),ord=pre++l→Xr n u→(∀ p ∈ pre,u.getD p.toNat 0=w.getD p.toNat 0)→s.1≤s.2→(Xm n w l s).1≤x.1→x.2≤(Xm n w l s).2→
  ∃ u',Vi n (fun P=>Vj (Vq x) P 0 (-1)) l u s=some (u',Xm n w l s)∧Xr n u'∧∀ p ∈ ord,u'.getD p.toNat 0=w.getD p.toNat 0
 | [],pre,u,s,d,m,b,o,r,f=>⟨u,rfl,m,by rw [d,dA];exact b⟩
 | v :: l,pre,u,s,d,m,b,o,r,f=>by
  have D:∀ y ∈ l,y ∈ ord:=fun y E=>by rw [d];simp [E]
  have K:=ho.rg v (by rw [d];simp)
  rw [hf.ev.p] at K
  obtain ⟨k,rfl⟩:∃ k:Nat,v=(k:Int):=⟨v.toNat,by omega⟩
  have j:k<n.2.1.length:=by omega
  have F:∀ p ∈ n.2.2.2.1.getD k [],u.getD p.toNat 0=w.getD p.toNat 0:=fun p a=>b p (ho.up pre k l d p (by rw [aB];exact a))
  have G:Wb n u k=Wb n w k:=Znb _ _ F
  have L:Z7 n u k=Z7 n w k:=by rw [Z7,Z7,G]
  have V:=hw.ok k (by rw [hw.len];exact j)
  obtain ⟨q,t⟩:∃ q:Nat,w.getD k 0=(q:Int):=⟨(w.getD k 0).toNat,by omega⟩
  have C:q<(Z7 n w k).length:=by rw [hf.rowT_len hw j];omega
  have A:0≤s.2 - s.1:=by rw [dM] at o;exact o
  have H:∀ y ∈ Z7 n w k,0≤Zq y:=fun y E=>(hf.ent j y (Zas E)).1
  rw [Xm,aB,t,aB] at r f
  obtain ⟨p1,p2,W⟩:=Zpo hf hw j o (Zeu (by rw [Su];exact C))
  obtain ⟨O,X,I⟩:=Zbx hf ho hw l _ D p2
  have B:Vj (Vq x) (Xv (s.2 - s.1) (Z7 n w k) s.1) 0 (-1)=(q:Int):=by
   have:=Zoj (c:=Vq x) (Xv (s.2 - s.1) (Z7 n w k) s.1) 0 (-1) q (by rw [Su];exact C) (S3.2 ⟨bR O r,Std.lt_of_lt_of_le hx (bR f I),bR f I⟩) fun i Q M=>?_
   ·rw [this,cG]
   ·rw [Bool.eq_false_iff]
    intro g
    have J:=Zpp A (Z7 n w k) s.1 q i H Q (by rwa [Su] at M)
    have:=(S3.1 g).1
    exact absurd (Std.lt_of_lt_of_le hx (bR f (bR I J))) (bQ.2 this)
  have R:=Zwg hx hw l (pre++[(k:Int)]) (u.set k q) _ (by rw [d,bB];rfl) (m.set (v:=k) (by omega)) (fun p a=>?_) p2 r f
  ·obtain ⟨u',S,T,U⟩:=R
   refine ⟨u',?_,T,U⟩
   rw [Vi,Xm,aB,L]
   simp only [B]
   rw [if_neg (by omega),aB,t,aB]
   exact S
  ·rcases aY.1 a with a | a
   ·rw [Us u 0 k _ _ (by rw [m.len];exact j)]
    split
    ·rename_i e;rw [e,t]
    ·exact b p a
   ·rw [bD] at a
    rw [a,aB,Us u 0 k _ _ (by rw [m.len];exact j),if_pos rfl,t]
theorem Zwh {x y:Rat×Rat} (hx:x.1<x.2) (h1:y.1≤x.1) (h2:x.2≤y.2):∀ (l u:List Int) (s:Rat×Rat) (r:List Int×(Rat×Rat)),(∀ z ∈ l,z ∈ ord)→Xr n u→s.1≤s.2→s.1≤y.1→y.2≤s.2→Vi n (fun P=>Vj (Vq y) P 0 (-1)) l u s=some r→
  Vi n (fun P=>Vj (Vq x) P 0 (-1)) l u s=some r∧r.2.1≤y.1∧y.2≤r.2.2
 | [],u,s,r,_,_,_,B,C,h=>by
  rw [Vi,Option.some.injEq] at h
  subst h
  exact ⟨rfl,B,C⟩
 | v :: l,u,s,r,D,o,q,B,C,h=>by
  have E:=ho.rg v (D v aK)
  rw [hf.ev.p] at E
  have t:v.toNat<n.2.1.length:=by omega
  have b:0≤s.2 - s.1:=by rw [dM] at q;exact q
  have w:∀ y ∈ Z7 n u v.toNat,0≤Zq y:=fun y I=>(hf.ent t y (Zas I)).1
  rw [Vi] at h
  split at h
  ·cases h
  ·rename_i a
   rcases Zr3 (c:=Vq y) (Xv (s.2 - s.1) (Z7 n u v.toNat) s.1) 0 (-1) with e | ⟨j,f,J,F⟩
   ·rw [e] at a;exact absurd (by decide) a
   ·rw [J,cG,aB] at h
    rw [← Yj (d:=((0:Rat),(0:Rat))) f] at F
    have K:(Xv (s.2 - s.1) (Z7 n u v.toNat) s.1).getD j (0,0) ∈ Xv (s.2 - s.1) (Z7 n u v.toNat) s.1:=Zeu f
    obtain ⟨p1,p2,T⟩:=Zpo hf o t q K
    obtain ⟨G,U,k⟩:=S3.1 F
    have S:j<cnt n v.toNat:=by rwa [Su,hf.rowT_len o t] at f
    have m:Vj (Vq x) (Xv (s.2 - s.1) (Z7 n u v.toNat) s.1) 0 (-1)=(j:Int):=by
     have:=Zoj (c:=Vq x) (Xv (s.2 - s.1) (Z7 n u v.toNat) s.1) 0 (-1) j f (S3.2 ⟨bR G h1,Std.lt_of_lt_of_le hx (bR h2 k),bR h2 k⟩) fun i L H=>?_
     ·rw [this,cG]
     ·rw [Bool.eq_false_iff]
      intro g
      have A:=Zpp b (Z7 n u v.toNat) s.1 j i w L (by rwa [Su] at H)
      have:=(S3.1 g).1
      exact absurd (Std.lt_of_lt_of_le hx (bR h2 (bR k A))) (bQ.2 this)
    obtain ⟨M,O,Q⟩:=Zwh hx h1 h2 l (u.set v.toNat j) _ r (fun z R=>D z (aE _ R)) (o.set (by omega)) p2 G k h
    refine ⟨?_,O,Q⟩
    rw [Vi]
    simp only [m]
    rw [if_neg (by omega),aB]
    exact M
variable (hall:∀ i,i<n.2.1.length→(i:Int) ∈ ord)
include hall
theorem Zwf {x:Rat×Rat} (hx:x.1<x.2) {w:List Int} (hw:Xr n w) (h1:(Xm n w ord (0,1)).1≤x.1) (h2:x.2≤(Xm n w ord (0,1)).2):Vi n (fun P=>Vj (Vq x) P 0 (-1)) ord (aC n.2.1.length 0) (0,1)=some (w,Xm n w ord (0,1)):=by
 obtain ⟨u,c,a,d⟩:=Zwg hf ho hx hw ord [] (aC n.2.1.length 0) (0,1) rfl (Xr.zero hf.ev) (by simp) (show (0:Rat)≤1 by decide) h1 h2
 have:u=w:=by
  refine jD (by rw [a.len,hw.len]) fun i b e=>?_
  have:=d (i:Int) (hall i (by rw [← a.len];exact b))
  rwa [aB,Yj b,Yj e] at this
 rw [c,this]
theorem Z6c {x y:Rat×Rat} (hx:x.1<x.2) {w:List Int} (hw:Xr n w) (h1:(Xm n w ord (0,1)).1≤x.1) (h2:x.2≤(Xm n w ord (0,1)).2) (g1:y.1≤x.1) (g2:x.2≤y.2) (g0:0≤y.1) (g3:y.2≤1)
  (hn:¬ ((Xm n w ord (0,1)).1≤y.1∧y.2≤(Xm n w ord (0,1)).2)):Vi n (fun P=>Vj (Vq y) P 0 (-1)) ord (aC n.2.1.length 0) (0,1)=none:=by
 cases hd:Vi n (fun P=>Vj (Vq y) P 0 (-1)) ord (aC n.2.1.length 0) (0,1) with
 | none=>rfl
 | some r=>
  obtain ⟨a,b,c⟩:=Zwh hf ho hx g1 g2 ord _ _ r (fun _ h=>h) (Xr.zero hf.ev) (show (0:Rat)≤1 by decide) g0 g3 hd
  rw [Zwf hf ho hall hx hw h1 h2,Option.some.injEq] at a
  subst a
  exact absurd ⟨b,c⟩ hn
end
def Zhy (a:Int) (d:Rc) (b:List Int):Option Int:=
  (Zn b a).bind fun c=>some c
theorem Z3c (col:Zg) (e:World) (f:Nat) (d:f≠0) (g:Int) (n:Option Addr) (i:Nat) (b:Rc) (m:Nat) (c:List Int) (j:Option Addr) (k:Nat) (q:Sl (Zc.pair rQ rQ) col e n i b) (a:Sl rI col e j k c) (l:Zi 28 f col e m #[.slice j c.length k]) (r:Int) (h:Zhy g b c=some r):
    Calls prog 33 #[.int .i64 g,.slice n b.length i,.pointer (some ⟨m,0,none⟩)] e (W8 e r):=by
 refine Xk 5 (m:=10) func33 O O O O O ?_;rw [Zhy.eq_1] at h;have p:=St.start col e;refine go ?_;refine lW (l.start0 d).at1<|Xy O ?_;obtain ⟨_,o,h⟩:=bZ h;replace a:=a.k0;refine lI o ((a.ks p).addr o)<|lW ((a.ks p).atInt o) ?_;refine go ?_;cases h;exact ⟨O,O,p.below⟩
def Zfc (N:Nat) (j:R1) (k:List Int) (q:Bool) (r s:List Int) (t:Bool) (u v l:List Int) (kk_L1:(Bool→R2→R2→Bool→R2→R2→R2→Bool→R2→R2→Bool→R2→R2→R2→Option R7)) (b w:Int) (e:R0) (y:List ByteArray):Nat→Bool→R2→R2→Rc→Int→Option R7
  | 0,_,_,_,_,_=>none
  | A+1,f,g,i,d,m=>if (decide (m<(y.length:Int)))=true then ((Zn j.2.2.2.2 b).bind fun B=>(Zn j.2.2.1 b).bind fun C=>(Zn B (i64.wrap ((i64.wrap (w * (C.length:Int)))+m))).bind fun n=>(U2 N ((e.1.1,e.1.2),e.2) ((n.1.1,n.1.2),n.2)).bind fun o=>(Uk N ((f,g),i) ((o.1.1,o.1.2),o.2)).bind fun a=>Z1 ((d.length+[(((f,g),i),((a.1.1,a.1.2),a.2))].length) * 112≤140737488355328∧d.length+[(((f,g),i),((a.1.1,a.1.2),a.2))].length≤maxLen) ((Zfc N j k q r s t u v l kk_L1 b w e y A) a.1.1 a.1.2 a.2 (d++[(((f,g),i),((a.1.1,a.1.2),a.2))]) (i64.wrap (m+1)))) else ((Zhy b d k).bind fun p=>if (decide (p<0))=true then (some (([]:List Int),(((false,([]:List Int)),([]:List Int)),((false,([]:List Int)),([]:List Int))),false)) else ((Zn d p).bind fun c=>(Zn l b).bind fun E=>(some (l.set (aA b) p)).bind fun D=>kk_L1 c.1.1.1 c.1.1.2 c.1.2 c.2.1.1 c.2.1.2 c.2.2 k q r s t u v D))
termination_by structural x=>x
def Zb7 (N:Nat) (a:R1) (b:Bool) (c d:List Int) (i:Bool) (j k l:List Int) (m:Bool) (n o:List Int) (p:Bool) (q r e:List Int) (kk_L1:(Bool→R2→R2→Bool→R2→R2→R2→Bool→R2→R2→Bool→R2→R2→R2→Option R7)) (f:Int):List Int→Int→Option R7
  | [],g=>(Qu N ((i,j),k) ((b,c),d)).bind fun t=>(Zn a.2.2.1 f).bind fun u=>Zfc N a l m n o p q r e kk_L1 f g t u N b c d ([]:List (R0×R0)) 0
  | s :: v,g=>(Zn a.2.2.1 s).bind fun w=>(Zn e s).bind fun y=>(Zb7 N a b c d i j k l m n o p q r e kk_L1 f v) (i64.wrap ((i64.wrap (g * (w.length:Int)))+y))
termination_by structural x=>x
def Zag (N:Nat) (a:R1):List Int→Bool→R2→R2→Bool→R2→R2→R2→Bool→R2→R2→Bool→R2→R2→R2→Option R7
  | [],b,c,d,e,f,g,j,k,l,m,n,o,p,i=>some (i,(((b,c),d),((e,f),g)),true)
  | q :: r,b,c,d,e,f,g,j,k,l,m,n,o,p,i=>(Zn a.2.2.2.1 q).bind fun s=>Zb7 N a b c d e f g j k l m n o p i (Zag N a r) q s 0
termination_by structural x=>x
def Zh0 (N:Nat) (a:R1) (d e:List Int):Option R7:=
  Z1 (a.2.1.length * 8≤281474976710656∧a.2.1.length≤maxLen) ((Zam N ([]:List R0)).bind fun b=>(Za9).bind fun c=>Zag N a d b.1.1 b.1.2 b.2 c.1.1 c.1.2 c.2 e false ([]:List Int) ([]:List Int) false ([]:List Int) ([]:List Int) (aC a.2.1.length (0:Int)))
theorem Z3e {N cw b3 cx b4 el g3 em:Nat} {cy bq cz br a1 en:Option Addr} {col:Zg} {W:World} {s:R1} {b5 dm:R2} {r:R7} (c1 B:Nat) (c:Zh0 N s b5 dm=some r) (hqqc3:B≠0) (h2:Sl Zc.str col W cy cw s.2.1) (bs:Sl rV col W bq b3 s.2.2.1) (db:Sl rP col W cz cx s.2.2.2.1) (dc:Sl (Zc.slice rQ) col W br b4 s.2.2.2.2) (h1:Sl rI col W a1 el b5) (dn:Sl rI col W en em dm) (b:Zi 28 B col W g3 #[.slice en dm.length em]):
    Calls prog 32 #[(.agg (Rt s cy cw bq b3 cz cx br b4)),.slice a1 b5.length el,(.func (.func 33) #[] #[.pointer (some ⟨g3,0,none⟩)])] W (fun e K=>∃ (col':Zg) (ra1:Option Addr) (rc2:Nat) (ra4:Option Addr) (rc5:Nat) (ra7:Option Addr) (rc8:Nat) (ra10:Option Addr) (B:Nat) (ra13:Option Addr) (rc14:Nat),e= .returned (.tuple #[.slice ra1 r.1.length rc2,(.agg #[.bool r.2.1.1.1.1,.slice ra4 r.2.1.1.1.2.length rc5,.slice ra7 r.2.1.1.2.length rc8,.bool r.2.1.2.1.1,.slice ra10 r.2.1.2.1.2.length B,.slice ra13 r.2.1.2.2.length rc14]),.bool r.2.2])∧Zl col W col' K∧Zb rI 3 c1 col' K ra1 rc2 r.1∧Sl rU col' K ra4 rc5 r.2.1.1.1.2∧Sl rU col' K ra7 rc8 r.2.1.1.2∧Sl rU col' K ra10 B r.2.1.2.1.2∧Sl rU col' K ra13 rc14 r.2.1.2.2):=by
 refine Yb (m:=122) func32 O O O ?_;rw [Zh0.eq_1] at c;have d:=St.start col W;replace b:=b.start0 hqqc3;refine go ?_;refine Xj (col:=(Zk col)) 1 O fun c0 _ B eo g=>So O<|Xc (col:=B) #[.bool false,(nI),(nI),.bool false,(nI),(nI)] 2 zeroValue44 ?_;intro dp et eu dq i;refine go ?_;refine Xt ⟨_,_,O⟩ ?_;replace g:=g.gr dq;refine lW ((g.atN).nth (q:=1) O)<|go ?_;obtain ⟨B,c⟩:=Z5 c;refine T6 (col:=eu) (w:=et) (r:=rI) (n:=s.2.1.length) (x0:=0) 3 O underlying28 Tryz.t3 O O O O O O O B.1 B.2 (Tx .i64 0) fun _ _ ew dd ar=>go ?_;obtain ⟨dr,B,c⟩:=bZ c;refine Zh (Zhj (col:=ew) 4 5 B Sl.nil) fun _ _ ⟨ez,e0,e1,e2,e3,e',c2,au,av⟩=>⟨_,e',?_⟩;obtain ⟨B,e4,c⟩:=bZ c;refine lc O O (Sv call47) (Zhg (col:=ez) 6 7 e4:) fun _ _ ⟨e5,e6,e7,e8,e9,e',b6,aw,ax⟩=>⟨_,e',?_⟩;refine lV (.agg #[.bool dr.1.1,.slice e0 dr.1.2.length e1,.slice e2 dr.2.length e3,.bool B.1.1,.slice e6 B.1.2.length e7,.slice e8 B.2.length e9]) (Yc (l:=[_,_]) (qs:=[(0,3),(3,3)]) underlying44 zeroValue44 ⟨O,sizeOf42,O,sizeOf42,trivial⟩ O)<|Xc (col:=e5) #[.bool false,(nI),(nI),.bool false,(nI),(nI)] 8 zeroValue44 ?_;intro dt _ _ bf B;refine Zs B fun _ B fb h=>go ?_;replace ar:=(((ar.gr c2).gr b6).gr bf).kp B;replace ar:=ar.froz 4;replace au:=((au.gr b6).gr bf).kp B;replace au:=(au).toSlF (Ze.int .u32);replace av:=((av.gr b6).gr bf).kp B;replace av:=av.froz 4;replace aw:=(aw.gr bf).kp B;replace aw:=aw.froz 4;replace ax:=(ax.gr bf).kp B;replace ax:=ax.froz 4;replace b:=((((((b.gr eo).gr dq).gr dd).gr c2).gr b6).gr bf).kp B;replace b:=b.froz 4;replace g:=((((g.gr dd).gr c2).gr b6).gr bf).kp B;replace g:=g.froz 4;replace i:=((((i.gr dd).gr c2).gr b6).gr bf).kp B;replace i:=i.froz 4;replace h:=h.froz 4
 replace d:=((((((d.grow eo).grow dq).grow dd).grow c2).grow b6).grow bf).kp B fb;replace d:=d.froz 4 (by decide) (by decide);replace ar:=ar.froz 5;replace au:=au.froz 5;replace av:=(av).toSlF (Ze.int .u32);replace aw:=aw.froz 5;replace ax:=ax.froz 5;replace b:=b.froz 5;replace g:=g.froz 5;replace i:=i.froz 5;replace h:=h.froz 5;replace d:=d.froz 5 (by decide) (by decide);replace ar:=ar.froz 6;replace au:=au.froz 6;replace av:=av.froz 6;replace aw:=(aw).toSlF (Ze.int .u32);replace ax:=ax.froz 6;replace b:=b.froz 6;replace g:=g.froz 6;replace i:=i.froz 6;replace h:=h.froz 6;replace d:=d.froz 6 (by decide) (by decide);replace b:=b.froz 7;replace g:=g.froz 7;replace i:=i.froz 7;replace h:=h.froz 7;replace d:=d.froz 7 (by decide) (by decide);replace dn:=dn.k0
 refine Z0 [10,2,29,3,30,7,1000000] (fun bl dk B=>∃ p bt bh bi u bj bk v b7 bu bv C bw bx I bz b0 a0 c3 b8 b9 ca Q cb cc R cd ce cf S cg ch T ci cj a8 c4,bl=c4.length∧b5.drop c3=c4∧Zag N s c4 bt u v b7 C I a0 b8 Q R cd S T a8=some r∧St W (Zk col) p B∧Sl rU p B bh bi u∧Sl rU p B bj bk v∧Sl rU p B bu bv C∧Sl rU p B bw bx I∧Zi 44 8 p B dt #[.bool bt,.slice bh u.length bi,.slice bj v.length bk,.bool b7,.slice bu C.length bv,.slice bw I.length bx]∧Sl rI p B bz b0 a0∧Zi 28 999 p B g3 #[.slice bz a0.length b0]∧Zi 27 1 p B c0 (Rt s cy cw bq b3 cz cx br b4)∧Zb rU 119 9 p B b9 ca Q∧Zb rU 119 10 p B cb cc R∧Zb rU 119 11 p B ce cf S∧Zb rU 119 12 p B cg ch T∧Zi 44 2 p B dp #[.bool b8,.slice b9 Q.length ca,.slice cb R.length cc,.bool cd,.slice ce S.length cf,.slice cg T.length ch]∧Zb rI 3 3 p B ci cj a8∧[31,9].map dk=[.int .i64 c3,.slice ci a8.length cj]) b5.length ⟨_,_,_,_,_,_,_,_,_,_,_,_,_,_,_,_,_,_,0,_,none,0,_,none,0,_,_,none,0,_,none,0,_,_,_,_,_,O,O,c,d,au.froz 7,av.froz 7,aw.froz 7,(ax).toSlF (Ze.int .u32),h,(dn.ks d),b,g,Zb.nil,Zb.nil,Zb.nil,Zb.nil,i,ar.froz 7,O⟩ ?_;clear c;intro bl dk B hI;obtain ⟨p,bt,bh,bi,u,bj,bk,v,b7,bu,bv,C,bw,bx,I,bz,b0,a0,c3,b8,b9,ca,Q,cb,cc,R,cd,ce,cf,S,cg,ch,T,ci,cj,a8,c4,hn,hl,c,d,w,x,y,z,h,A,b,g,D,E,F,G,i,l,hs⟩:=hI;subst hn;refine .lL [31,9] hs ?_;replace bs:=bs.k0;replace db:=db.k0;replace dc:=dc.k0;replace h1:=h1.k0
 cases c4 with
 | nil=>
  have hk:¬ ((c3:Int)<(b5.length:Int)):=by have:=aF.1 hl;omega
  have J:=decide_eq_false hk;rw [Zag.eq_1] at c;refine go ?_;refine Yd (congrArg Value.bool J)<|go ?_;refine Ym (col:=p) [(0,1),(1,0),(2,1),(3,2),(4,1)] (by kernel_rfl) (by kernel_rfl)<|xu O O (fun _=>V8 O) ?_;refine xv O O (fun _ a=>Zz isAgg44 sizeOf44 (h.gr (a.bl p))) ?_;refine xu O O (fun _=>Zm6 O) ?_;refine xe O O ?_;intro _ m;have a:=m.bl p;replace i:=i.gr a;refine Zs i fun _ B fc du=>Zj<|xk p<|xu O O (fun _=>Zbv O) ?_;refine Yf ?_;replace w:=(w.gr a).kp B;replace x:=(x.gr a).kp B;replace y:=(y.gr a).kp B;replace z:=(z.gr a).kp B;replace l:=(l.gr a).kp B;replace d:=(d.grow a).kp B fc;intro _ a;replace a:=a.bl p;refine Y5 ?_;cases c;replace w:=w.gr a;replace x:=x.gr a;replace y:=y.gr a;replace z:=z.gr a;replace l:=l.gr a;replace d:=d.grow a;exact ⟨O,_,Zki O O O O isAgg44 sizeOf44 O O (du.gr a).atN O O,_,_,_,_,_,_,_,_,_,_,_,O,d.fin (cm [(3,c1)]),d.fo l,d.fs w,d.fs x,d.fs y,d.fs z⟩
 | cons b1 dv=>
  obtain ⟨ck,fd,fe⟩:=Yo hl;have hk:(c3:Int)<(b5.length:Int):=by omega
  have J:=decide_eq_true hk;rw [Zag.eq_2] at c;refine go ?_;refine Ye (congrArg Value.bool J)<|go ?_;refine lI ck ((h1.ks d).addr ck)<|lW ((h1.ks d).atInt ck) ?_;refine go ?_;refine Xp g<|Xy O ?_;obtain ⟨c5,p,c⟩:=bZ c;refine lI p ((db.ks d).addr p) ?_;obtain ⟨_,ff,fg⟩:=(db.ks d).atN p;obtain ⟨⟨fh,fi,rfl,b2⟩,_⟩:=ff;refine lW fg.one<|go ?_;refine Z0 [10,12,2,29,3,30,31,39,40,7,9,1000000] (fun bl dk p=>∃ Z U c6 c7,bl=c7.length∧c5.drop c6=c7∧Zb7 N s bt u v b7 C I a0 b8 Q R cd S T a8 (Zag N s dv) b1 c7 U=some r∧St W (Zk col) Z p∧Sl rU Z p bh bi u∧Sl rU Z p bj bk v∧Sl rU Z p bu bv C∧Sl rU Z p bw bx I∧Zi 44 8 Z p dt #[.bool bt,.slice bh u.length bi,.slice bj v.length bk,.bool b7,.slice bu C.length bv,.slice bw I.length bx]∧Sl rI Z p bz b0 a0∧Zi 28 999 Z p g3 #[.slice bz a0.length b0]∧Zi 27 1 Z p c0 (Rt s cy cw bq b3 cz cx br b4)∧Sl rI Z p fh fi c5∧Zb rU 119 9 Z p b9 ca Q∧Zb rU 119 10 Z p cb cc R∧Zb rU 119 11 Z p ce cf S∧Zb rU 119 12 Z p cg ch T∧Zi 44 2 Z p dp #[.bool b8,.slice b9 Q.length ca,.slice cb R.length cc,.bool cd,.slice ce S.length cf,.slice cg T.length ch]∧Zb rI 3 3 Z p ci cj a8∧[41,13].map dk=[.int .i64 c6,.int .i64 U]) c5.length ⟨_,0,0,_,O,O,c,d,w,x,y,z,h,A,b,g,b2,D,E,F,G,i,l,O⟩ ?_;clear c;intro bl dk p hI;obtain ⟨Z,U,c6,c7,hn,hl,c,d,w,x,y,z,h,A,b,g,b2,D,E,F,G,i,l,hs⟩:=hI;subst hn;refine .lL [41,13] hs ?_
  cases c7 with
  | nil=>
   have hk:¬ ((c6:Int)<(c5.length:Int)):=by have:=aF.1 hl;omega
   have J:=decide_eq_false hk;rw [Zb7.eq_1] at c;refine go ?_;refine Yd (congrArg Value.bool J)<|go ?_;refine Xt ⟨_,_,O⟩ ?_;refine lV (.agg #[.bool b7,.slice bu C.length bv,.slice bw I.length bx]) (Xi isAgg42 sizeOf42 O O ((h.atN).part 3 3 _ O))<|Xt ⟨_,_,O⟩ ?_;refine lV (.agg #[.bool bt,.slice bh u.length bi,.slice bj v.length bk]) (Xi isAgg42 sizeOf42 O O ((h.atN).part 0 3 _ O)) ?_;obtain ⟨bm,p,c⟩:=bZ c;refine Zh (Zn2 13 14 p y z w x) fun _ _ ⟨p,dx,dy,dz,d0,e',H,ex,fo⟩=>⟨_,e',?_⟩;refine Xc (col:=p) #[.bool false,(nI),(nI)] 15 zeroValue42 fun fl _ B t p=>Zs p fun _ q fp fs=>go ?_;refine Xt ⟨_,_,O⟩ ?_;replace h:=((h.gr H).gr t).kp q;refine lV (.agg #[.bool bt,.slice bh u.length bi,.slice bj v.length bk]) (Xi isAgg42 sizeOf42 O O ((h.atN).part 0 3 _ O))<|Xc (col:=B) #[.bool false,(nI),(nI)] 16 zeroValue42 ?_;intro fq _ _ o p;refine Zs p fun _ n B gn=>go ?_;refine Xt ⟨_,_,O⟩ ?_;replace g:=((((g.gr H).gr t).kp q).gr o).kp n;refine lW ((g.atN).nth (q:=2) O)<|Xy O ?_;obtain ⟨fu,p,c⟩:=bZ c;replace d:=((((d.grow H).grow t).kp q fp).grow o).kp n B;refine lI p ((bs.ks d).addr p) ?_;obtain ⟨_,fv,fw⟩:=(bs.ks d).atN p;obtain ⟨⟨_,_,rfl,_⟩,_⟩:=fv;refine lW fw.one<|go ?_;replace w:=((((w.gr H).gr t).kp q).gr o).kp n;replace x:=((((x.gr H).gr t).kp q).gr o).kp n;replace y:=((((y.gr H).gr t).kp q).gr o).kp n;replace z:=((((z.gr H).gr t).kp q).gr o).kp n;replace A:=((((A.gr H).gr t).kp q).gr o).kp n;replace D:=((((D.gr H).gr t).kp q).gr o).kp n;replace E:=((((E.gr H).gr t).kp q).gr o).kp n;replace F:=((((F.gr H).gr t).kp q).gr o).kp n;replace G:=((((G.gr H).gr t).kp q).gr o).kp n;replace l:=((((l.gr H).gr t).kp q).gr o).kp n;replace b:=((((b.gr H).gr t).kp q).gr o).kp n
   replace i:=((((i.gr H).gr t).kp q).gr o).kp n;replace ex:=(((ex.gr t).kp q).gr o).kp n;replace fo:=(((fo.gr t).kp q).gr o).kp n;replace h:=(h.gr o).kp n;replace fs:=(fs.gr o).kp n;refine Z0 [10,12,13,16,17,2,29,3,30,31,7,71,9,1000000] (fun bl dk k=>∃ j ba cl cn V co cp X de df c8 cq cu,cu=bl∧Zfc N s a0 b8 Q R cd S T a8 (Zag N s dv) b1 U bm fu cu ba V X c8 cq=some r∧St W (Zk col) j k∧Sl rU j k bh bi u∧Sl rU j k bj bk v∧Sl rU j k bu bv C∧Sl rU j k bw bx I∧Zi 44 8 j k dt #[.bool bt,.slice bh u.length bi,.slice bj v.length bk,.bool b7,.slice bu C.length bv,.slice bw I.length bx]∧Zb rU 119 13 j k dx dy bm.1.2∧Zb rU 119 14 j k dz d0 bm.2∧Zi 42 15 j k fl #[.bool bm.1.1,.slice dx bm.1.2.length dy,.slice dz bm.2.length d0]∧Sl rU j k cl cn V∧Sl rU j k co cp X∧Zi 42 16 j k fq #[.bool ba,.slice cl V.length cn,.slice co X.length cp]∧Zb (Zc.pair rQ rQ) 44 17 j k de df c8∧Sl rI j k bz b0 a0∧Zi 28 999 j k g3 #[.slice bz a0.length b0]∧Zi 27 1 j k c0 (Rt s cy cw bq b3 cz cx br b4)∧Zb rU 119 9 j k b9 ca Q∧Zb rU 119 10 j k cb cc R∧Zb rU 119 11 j k ce cf S∧Zb rU 119 12 j k cg ch T∧Zi 44 2 j k dp #[.bool b8,.slice b9 Q.length ca,.slice cb R.length cc,.bool cd,.slice ce S.length cf,.slice cg T.length ch]∧Zb rI 3 3 j k ci cj a8∧[18,72].map dk=[.slice de c8.length df,.int .i64 cq]) N ⟨_,_,_,_,_,_,_,_,none,0,_,0,_,O,c,d,w,x,y,z,h,ex,fo,fs,w,x,gn,Zb.nil,A,b,g,D,E,F,G,i,l,O⟩ ?_;clear c;intro bl dk k hI
   obtain ⟨j,ba,cl,cn,V,co,cp,X,de,df,c8,cq,cu,hn,c,d,w,x,y,z,h,ex,fo,fs,L,M,gn,P,A,b,g,D,E,F,G,i,l,hs⟩:=hI;subst hn;refine .lL [18,72] hs ?_
   cases cu with
   | zero=>rw [Zfc.eq_1] at c;cases c
   | succ cu=>
    rw [Zfc.eq_2] at c;refine go ?_;refine Zp c (fun hb c=>go ?_) fun hb c=>go ?_
    ·have Y:=Zu.clip (fun _=>false) j k;refine Zbz (col:=j) [(0,0),(1,0),(2,1),(3,0),(4,1),(5,1),(6,0),(7,1),(8,1),(9,0),(10,1),(11,1),(12,0),(13,1),(14,1),(15,1),(16,1),(17,1),(18,0),(19,3),(20,3),(21,4),(22,2)] (by kernel_rfl) (by kernel_rfl) ⟨fun f=>absurd f (by decide),fun f=>absurd f (by decide),fun f=>absurd f (by decide),fun f=>absurd f (by decide),fun f=>absurd f (by decide),fun f=>absurd f (by decide),fun f=>absurd f (by decide),fun f=>absurd f (by decide),fun f=>absurd f (by decide),fun f=>absurd f (by decide),fun f=>absurd f (by decide),fun f=>absurd f (by decide),fun f=>absurd f (by decide),fun f=>absurd f (by decide),fun f=>absurd f (by decide),fun f=>absurd f (by decide),fun f=>absurd f (by decide),fun f=>absurd f (by decide),fun f=>absurd f (by decide),fun f=>absurd f (by decide),fun f=>absurd f (by decide),fun _=>⟨_,_,_,O,V5 zeroValue42⟩,fun f=>absurd f (by decide),trivial⟩ ?_;replace gn:=gn.kpp Y;refine Wa (v:=(.agg #[.bool ba,.slice cl V.length cn,.slice co X.length cp])) O O (fun _ a=>Xi isAgg42 sizeOf42 O O (gn.atN.gr (a.bl (Zd k j)))) ?_;replace fs:=fs.kpp Y;refine Wa (v:=(.agg #[.bool bm.1.1,.slice dx bm.1.2.length dy,.slice dz bm.2.length d0])) O O (fun _ a=>Xi isAgg42 sizeOf42 O O (fs.atN.gr (a.bl (Zd k j)))) ?_;refine X3 (v:=(.pointer ((some (⟨c0,0,none⟩:Addr)).map (·.add 4)))) O O (fun _=>Un (sz:=1) (off:=4) underlying27 O sizeOf25 (by decide) O O ⟨_,_,O⟩) ?_;replace g:=g.kpp Y;refine Wa (v:=(.slice br s.2.2.2.2.length b4)) O O (fun _ a=>Tu isAgg25 O (((g.atN).nth (q:=4) (v:=(.slice br s.2.2.2.2.length b4)) O).gr (a.bl (Zd k j)))) ?_;refine X3 (v:=(.int .i64 b1)) O O (fun _=>Wn O) ?_;obtain ⟨fx,o,c⟩:=bZ c;replace d:=d.kpp Y;refine X3 (v:=(X5 br (aA b1 * 1))) O O (fun _=>Wd underlying25 sizeOf58 O O (Xo o).1 (Xo o).2.1 ((dc.ks d).addr o)) ?_;obtain ⟨_,fy,fz⟩:=(dc.ks d).atN o;obtain ⟨⟨eq,f0,rfl,er⟩,_⟩:=fy;refine Wa (v:=(.slice eq fx.length f0)) O O (fun _ a=>Tu isAgg58 O (fz.one.gr (a.bl (Zd k j)))) ?_;refine X3 (v:=(.int .i64 U)) O O (fun _=>Wn O) ?_;refine X3 (v:=(.pointer ((some (⟨c0,0,none⟩:Addr)).map (·.add 2)))) O O (fun _=>Un (sz:=1) (off:=2) underlying27 O sizeOf23 (by decide) O O ⟨_,_,O⟩) ?_
     refine Wa (v:=(.slice bq s.2.2.1.length b3)) O O (fun _ a=>Tu isAgg23 O (((g.atN).nth (q:=2) (v:=(.slice bq s.2.2.1.length b3)) O).gr (a.bl (Zd k j)))) ?_;refine X3 (v:=(.int .i64 b1)) O O (fun _=>Wn O) ?_;obtain ⟨cr,n,c⟩:=bZ c;refine X3 (v:=(X5 bq (aA b1 * 1))) O O (fun _=>Wd underlying23 sizeOf22 O O (Xo n).1 (Xo n).2.1 ((bs.ks d).addr n)) ?_;obtain ⟨_,f1,f2⟩:=(bs.ks d).atN n;obtain ⟨⟨f3,f4,rfl,_⟩,_⟩:=f1;refine Wa (v:=(.slice f3 cr.length f4)) O O (fun _ a=>Tu isAgg22 O (f2.one.gr (a.bl (Zd k j)))) ?_;refine X3 (v:=(.int .i64 cr.length)) O O (fun _=>Q4 underlying22 O) ?_;refine X3 (v:=(.int .i64 (i64.wrap (U * (cr.length:Int))))) O O (fun _=>Zew U (cr.length:Int) O O) ?_;refine X3 (v:=(.int .i64 cq)) O O (fun _=>Wn O) ?_;refine X3 (v:=(.int .i64 (i64.wrap ((i64.wrap (U * (cr.length:Int)))+cq)))) O O (fun _=>Qg (i64.wrap (U * (cr.length:Int))) cq O O) ?_;obtain ⟨d2,q,c⟩:=bZ c;refine X3 (v:=(X5 eq (aA (i64.wrap ((i64.wrap (U * (cr.length:Int)))+cq)) * 3))) O O (fun _=>Wd underlying58 sizeOf42 O O (Xo q).1 (Xo q).2.1 (er.addr q)) ?_;obtain ⟨_,f5,f6⟩:=er.atN q;obtain ⟨_,_,rfl,f7,f8⟩:=Yw f5;obtain ⟨_,_,rfl,f9,ga⟩:=Yw f7;obtain ⟨rfl,_⟩:=f9;obtain ⟨⟨gb,gc,rfl,d3⟩,_⟩:=ga;obtain ⟨⟨gd,ge,rfl,d4⟩,_⟩:=f8;refine Wa (v:=(.agg #[.bool d2.1.1,.slice gb d2.1.2.length gc,.slice gd d2.2.length ge])) O O (fun _ a=>Xi isAgg42 sizeOf42 O O (f6.gr (a.bl (Zd k j)))) ?_;refine Y6 O O ?_;intro n m;have a:=m.bl (Zd k j);obtain ⟨_,T,c⟩:=bZ c;replace ex:=(ex.kpp Y).gr a;replace fo:=(fo.kpp Y).gr a;refine Zh (Ze1 18 19 T ((ex.toSlF (Ze.int .u32)).froz 14) ((fo.froz 13).toSlF (Ze.int .u32)) (((d3.gr a).froz 13).froz 14) (((d4.gr a).froz 13).froz 14)) fun _ o ⟨U,_,_,_,_,e',v,u,H⟩=>⟨_,e',?_⟩;replace u:=u.thaw (Zt .u32) v (((Fz.refl (col:=(Zd k j))).froz 13).froz 14)
     replace H:=H.thaw (Zt .u32) v (((Fz.refl (col:=(Zd k j))).froz 13).froz 14);replace v:=v.thawR (col:=(Zd k j));generalize Z2 n.heap.size (Zd k j) U=q at *;refine Zj ?_;refine ⟨fun K=>Zl (Zd o q) o (Zd o q) K,fun p=>(Zd o q) p=497,Zl.refl _ _,Y3,fun _=>⟨fun _ f=>Wt m v f,fun R hb=>v.below.block R hb,fun p Q W=>Wy v p Q (by first | exact W | (simp only [Xg,W];rfl) | (simp only [Xg,Xq,W];rfl))⟩,?_⟩;have T:=Zu.clip (fun _=>false) q o;refine Y6 O O ?_;intro S m;replace w:=(((w.kpp Y).gr a).gr v).kpp T;replace x:=(((x.kpp Y).gr a).gr v).kpp T;replace y:=(((y.kpp Y).gr a).gr v).kpp T;replace z:=(((z.kpp Y).gr a).gr v).kpp T;replace L:=(((L.kpp Y).gr a).gr v).kpp T;replace M:=(((M.kpp Y).gr a).gr v).kpp T;replace P:=(((P.kpp Y).gr a).gr v).kpp T;replace A:=(((A.kpp Y).gr a).gr v).kpp T;replace D:=(((D.kpp Y).gr a).gr v).kpp T;replace E:=(((E.kpp Y).gr a).gr v).kpp T;replace F:=(((F.kpp Y).gr a).gr v).kpp T;replace G:=(((G.kpp Y).gr a).gr v).kpp T;replace l:=(((l.kpp Y).gr a).gr v).kpp T;replace h:=(((h.kpp Y).gr a).gr v).kpp T;replace b:=(((b.kpp Y).gr a).gr v).kpp T;replace i:=(((i.kpp Y).gr a).gr v).kpp T;replace fs:=((fs.gr a).gr v).kpp T;replace gn:=((gn.gr a).gr v).kpp T;replace g:=((g.gr a).gr v).kpp T;replace d:=((d.grow a).grow v).kpp T;have a:=m.bl (Zd o q);obtain ⟨C,I,c⟩:=bZ c;replace L:=L.gr a;replace M:=M.gr a;refine Zh (Zb3 20 21 I ((L.froz 18).froz 19) ((M.froz 18).froz 19) ((((u.kpp T).gr a).toSlF (Ze.int .u32)).froz 19) ((((H.kpp T).gr a).froz 18).toSlF (Ze.int .u32))) fun _ I ⟨t,Y,B,d7,d8,e',u,k,n⟩=>⟨_,e',?_⟩;replace k:=k.thaw (Zt .u32) u (((Fz.refl (col:=(Zd o q))).froz 18).froz 19);replace n:=n.thaw (Zt .u32) u (((Fz.refl (col:=(Zd o q))).froz 18).froz 19);replace u:=u.thawR (col:=(Zd o q))
     generalize Z2 S.heap.size (Zd o q) t=U at *;refine Zj ?_;refine ⟨fun K=>Zl (Zd I U) I (Zd I U) K,fun p=>(Zd I U) p=497,Zl.refl _ _,Y3,fun _=>⟨fun _ f=>Wt m u f,fun R hb=>u.below.block R hb,fun p Q W=>Wy u p Q (by first | exact W | (simp only [Xg,W];rfl) | (simp only [Xg,Xq,W];rfl))⟩,?_⟩;have R:=Zu.clip (fun _=>false) U I;refine Zaw O O (V5 zeroValue42) fun t q=>Y6 O O ?_;intro H ⟨m,hZ0⟩;replace ex:=((((ex.gr v).kpp T).gr a).gr u).kpp R;replace fo:=((((fo.gr v).kpp T).gr a).gr u).kpp R;replace w:=((w.gr a).gr u).kpp R;replace x:=((x.gr a).gr u).kpp R;replace y:=((y.gr a).gr u).kpp R;replace z:=((z.gr a).gr u).kpp R;replace P:=((P.gr a).gr u).kpp R;replace A:=((A.gr a).gr u).kpp R;replace D:=((D.gr a).gr u).kpp R;replace E:=((E.gr a).gr u).kpp R;replace F:=((F.gr a).gr u).kpp R;replace G:=((G.gr a).gr u).kpp R;replace l:=((l.gr a).gr u).kpp R;replace h:=((h.gr a).gr u).kpp R;replace fs:=((fs.gr a).gr u).kpp R;replace gn:=((gn.gr a).gr u).kpp R;replace b:=((b.gr a).gr u).kpp R;replace g:=((g.gr a).gr u).kpp R;replace i:=((i.gr a).gr u).kpp R;replace d:=((d.grow a).grow u).kpp R;have a:=m.bl (Zd I U);obtain ⟨S,m⟩:=Q7 (col:=(Zd I U)) 22 hZ0 q;replace m:Zi 42 22 (Zx t 22 (Zd I U)) H t #[.bool false,(nI),(nI)]:=m;refine Zs m fun m Q v H=>Zj ?_;refine ⟨fun K=>Zl (Zd m (Zx t 22 (Zd I U))) m (Zd m (Zx t 22 (Zd I U))) K,fun p=>(Zd m (Zx t 22 (Zd I U))) p=497,Zl.refl _ _,Y3,fun f=>absurd f (by decide),?_⟩;have K:=Zu.clip (fun _=>false) (Zx t 22 (Zd I U)) m;refine Zb1 ?_;replace L:=(((((L.gr u).kpp R).gr a).kpp S).kp Q).kpp K;replace M:=(((((M.gr u).kpp R).gr a).kpp S).kp Q).kpp K;replace k:=((((k.kpp R).gr a).kpp S).kp Q).kpp K;replace n:=((((n.kpp R).gr a).kpp S).kp Q).kpp K;replace w:=(((w.gr a).kpp S).kp Q).kpp K;replace x:=(((x.gr a).kpp S).kp Q).kpp K
     replace y:=(((y.gr a).kpp S).kp Q).kpp K;replace z:=(((z.gr a).kpp S).kp Q).kpp K;replace ex:=(((ex.gr a).kpp S).kp Q).kpp K;replace fo:=(((fo.gr a).kpp S).kp Q).kpp K;replace P:=(((P.gr a).kpp S).kp Q).kpp K;replace A:=(((A.gr a).kpp S).kp Q).kpp K;replace D:=(((D.gr a).kpp S).kp Q).kpp K;replace E:=(((E.gr a).kpp S).kp Q).kpp K;replace F:=(((F.gr a).kpp S).kp Q).kpp K;replace G:=(((G.gr a).kpp S).kp Q).kpp K;replace l:=(((l.gr a).kpp S).kp Q).kpp K;replace h:=(((h.gr a).kpp S).kp Q).kpp K;replace fs:=(((fs.gr a).kpp S).kp Q).kpp K;replace gn:=(((gn.gr a).kpp S).kp Q).kpp K;replace b:=(((b.gr a).kpp S).kp Q).kpp K;replace g:=(((g.gr a).kpp S).kp Q).kpp K;replace i:=(((i.gr a).kpp S).kp Q).kpp K;replace d:=(((d.grow a).kpp S).kp Q v).kpp K;intro S a;replace a:Zl (Zd m (Zx t 22 (Zd I U))) m (Zd m (Zx t 22 (Zd I U))) S:=.of_below a.below;refine go ?_;replace gn:=gn.gr a;refine lV _ (Zz isAgg42 sizeOf42 gn) ?_;replace H:=(H.kpp K).gr a;refine lV _ (Zz isAgg42 sizeOf42 H)<|lV (.agg #[.bool ba,.slice cl V.length cn,.slice co X.length cp,.bool C.1.1,.slice Y C.1.2.length B,.slice d7 C.2.length d8]) (Yc (l:=[_,_]) (qs:=[(0,3),(3,3)]) underlying44 zeroValue44 ⟨O,sizeOf42,O,sizeOf42,trivial⟩ O) ?_;replace w:=w.gr a;replace w:=w.froz 21;replace x:=x.gr a;replace x:=x.froz 21;replace y:=y.gr a;replace y:=y.froz 21;replace z:=z.gr a;replace z:=z.froz 21;replace ex:=ex.gr a;replace ex:=ex.froz 21;replace fo:=fo.gr a;replace fo:=fo.froz 21;replace L:=L.gr a;replace L:=L.froz 21;replace M:=M.gr a;replace M:=M.froz 21;replace A:=A.gr a;replace A:=A.froz 21;replace D:=D.gr a;replace D:=D.froz 21;replace E:=E.gr a;replace E:=E.froz 21;replace F:=F.gr a;replace F:=F.froz 21;replace G:=G.gr a;replace G:=G.froz 21;replace l:=l.gr a;replace l:=l.froz 21;replace k:=k.gr a;replace k:=k.froz 21;replace n:=n.gr a;replace n:=(n).toSlF (Ze.int .u32);replace P:=P.gr a
     replace P:=P.froz 21;replace h:=h.gr a;replace h:=h.froz 21;replace fs:=fs.gr a;replace fs:=fs.froz 21;replace gn:=gn.froz 21;replace b:=b.gr a;replace b:=b.froz 21;replace g:=g.gr a;replace g:=g.froz 21;replace i:=i.gr a;replace i:=i.froz 21;replace H:=H.froz 21;replace d:=d.grow a;replace d:=d.froz 21 (by decide) (by decide);replace w:=w.froz 20;replace x:=x.froz 20;replace y:=y.froz 20;replace z:=z.froz 20;replace ex:=ex.froz 20;replace fo:=fo.froz 20;replace A:=A.froz 20;replace D:=D.froz 20;replace E:=E.froz 20;replace F:=F.froz 20;replace G:=G.froz 20;replace l:=l.froz 20;replace k:=(k).toSlF (Ze.int .u32);replace n:=n.froz 20;replace P:=P.froz 20;replace h:=h.froz 20;replace fs:=fs.froz 20;replace gn:=gn.froz 20;replace b:=b.froz 20;replace g:=g.froz 20;replace i:=i.froz 20;replace H:=H.froz 20;replace d:=d.froz 20 (by decide) (by decide);refine Ui (col:=(Xg 20 (Xg 21 (Zd m (Zx t 22 (Zd I U)))))) (r:=(Zc.pair rQ rQ)) (xs:=[(((ba,V),X),((C.1.1,C.1.2),C.2))]) [(.agg #[.bool ba,.slice cl V.length cn,.slice co X.length cp,.bool C.1.1,.slice Y C.1.2.length B,.slice d7 C.2.length d8])] 23 (Wf.ofF (Rows.consF (r:=(Zc.pair rQ rQ)) (x:=(((ba,V),X),((C.1.1,C.1.2),C.2))) (cs:=[.bool ba,.slice cl V.length cn,.slice co X.length cp,.bool C.1.1,.slice Y C.1.2.length B,.slice d7 C.2.length d8]) (Vz (Vz (Vz (Se ba) (Uv (L.froz 20))) (Uv (M.froz 20))) (Vz (Vz (Se C.1.1) (Uv k)) (Uv n))) Rows.nil0)) ?_;intro _ _ _ V C;obtain ⟨K,c⟩:=Z5 c;replace P:=P.gr V
     refine Vw P (C.srcN (NB.pair (NB.pair (NB.pair NB.bool NB.slice) NB.slice) (NB.pair (NB.pair NB.bool NB.slice) NB.slice))) K fun _ _ _ _ X o=>go ?_;refine lV _ (Zz isAgg42 sizeOf42 ((H.gr V).kpp X)) ?_;refine Zs ((gn.gr V).kpp X) fun _ f M m=>go ?_;replace w:=((w.gr V).kpp X).kp f;replace x:=((x.gr V).kpp X).kp f;replace y:=((y.gr V).kpp X).kp f;replace z:=((z.gr V).kpp X).kp f;replace A:=((A.gr V).kpp X).kp f;replace D:=((D.gr V).kpp X).kp f;replace E:=((E.gr V).kpp X).kp f;replace F:=((F.gr V).kpp X).kp f;replace G:=((G.gr V).kpp X).kp f;replace l:=((l.gr V).kpp X).kp f;replace h:=((h.gr V).kpp X).kp f;replace b:=((b.gr V).kpp X).kp f;replace g:=((g.gr V).kpp X).kp f;replace i:=((i.gr V).kpp X).kp f;replace d:=((d.grow V).kpp X).kp f M;exact ⟨cu,by omega,O,⟨_,_,_,_,_,_,_,_,_,_,_,_,_,O,c,d,w,x,y,z,h,((ex.gr V).kpp X).kp f,((fo.gr V).kpp X).kp f,((fs.gr V).kpp X).kp f,((k.gr V).kpp X).kp f,((n.gr V).kpp X).kp f,m,o.kp f,A,b,g,D,E,F,G,i,l,O⟩⟩
    refine lM (.func (.func 33) #[] #[.pointer (some ⟨g3,0,none⟩)])<|go ?_;obtain ⟨eb,L,c⟩:=bZ c;refine lc O O (Zs7 call33 O O O) (Z3c (Xg 17 j) _ 999 (by decide) b1 de df c8 g3 a0 bz b0 (P.toSlF (Ze.pair (Ze.pair (Ze.pair Ze.bool Ze.slice) Ze.slice) (Ze.pair (Ze.pair Ze.bool Ze.slice) Ze.slice))) (A.froz 17) (b.froz 17) eb L) fun _ _ ⟨e',L⟩=>⟨_,e',?_⟩;replace L:=Ru j L;refine go ?_;replace P:=P.gr L;replace A:=A.gr L;replace D:=D.gr L;replace E:=E.gr L;replace F:=F.gr L;replace G:=G.gr L;replace l:=l.gr L;replace h:=h.gr L;replace b:=b.gr L;replace g:=g.gr L;replace i:=i.gr L;replace d:=d.grow L;refine Zp c (fun hb c=>go ?_) fun hb c=>go ?_
    ·refine lV (.agg #[.bool false,(nI),(nI),.bool false,(nI),(nI)]) (Yc (l:=[_,_]) (qs:=[(0,3),(3,3)]) underlying44 zeroValue44 ⟨O,sizeOf42,O,sizeOf42,trivial⟩ O)<|So O<|Zs i ?_;intro _ gz g0 g1;refine go ?_;cases c;replace d:=d.kp gz g0;exact ⟨O,_,Zki O O O O isAgg44 sizeOf44 O O g1.atN O O,_,none,0,none,0,none,0,none,0,none,0,O,d.fin (cm []),Zb.nil,Sl.nil,Sl.nil,Sl.nil,Sl.nil⟩
    obtain ⟨cv,Y,c⟩:=bZ c;refine lI Y (P.addr Y) ?_;obtain ⟨_,g2,g4⟩:=P.atN Y;obtain ⟨_,_,rfl,g5,g6⟩:=g2.parts;obtain ⟨_,_,rfl,g7,g8⟩:=g5.parts;obtain ⟨_,_,rfl,g9,ha⟩:=g7.parts;obtain rfl:=g9.bool;obtain ⟨hc,hd,rfl,ed⟩:=ha.slice;obtain ⟨he,hf,rfl,ee⟩:=g8.slice;obtain ⟨_,_,rfl,hg,hh⟩:=g6.parts;obtain ⟨_,_,rfl,hi,hj⟩:=hg.parts;obtain rfl:=hi.bool;obtain ⟨ho,hp,rfl,ef⟩:=hj.slice;obtain ⟨hq,hr,rfl,eg⟩:=hh.slice;refine lV (.agg #[.bool cv.1.1.1,.slice hc cv.1.1.2.length hd,.slice he cv.1.2.length hf,.bool cv.2.1.1,.slice ho cv.2.1.2.length hp,.slice hq cv.2.2.length hr]) (Xi isAgg44 sizeOf44 O O g4) ?_;obtain ⟨_,k,c⟩:=bZ c;refine lI k (l.addr k) ?_;obtain ⟨t,j,c⟩:=bZ c;have j:t=a8.set (aA b1) eb:=(Option.some.inj j).symm;refine Wc (x1:=eb) l k ?_;intro _ P V v;rw [← j] at v;refine .ld (d:=9) (v:=(.slice ci t.length cj)) (congrArg (fun bl=>Value.slice ci bl cj) (show a8.length=t.length by rw [j,nS])) ?_;replace h:=h.kp P;refine Zs h fun _ M j W=>go ?_;replace A:=(A.kp P).kp M;replace D:=(D.kp P).kp M;replace E:=(E.kp P).kp M;replace F:=(F.kp P).kp M;replace G:=(G.kp P).kp M;replace b:=(b.kp P).kp M;replace g:=(g.kp P).kp M;replace i:=(i.kp P).kp M;replace d:=(d.kp P V).kp M j;exact ⟨dv.length,by simp,O,⟨_,_,_,_,_,_,_,_,_,_,_,_,_,_,_,_,_,_,_,_,_,_,_,_,_,_,_,_,_,_,_,_,_,_,_,_,_,O,fd,c,d,(ed.kp P).kp M,(ee.kp P).kp M,(ef.kp P).kp M,(eg.kp P).kp M,W,A,b,g,D,E,F,G,i,v.kp M,(Yv (congrArg (Value.int .i64) (Yp (aG fe (h1.ks d).1.1))) O)⟩⟩
  | cons P hw=>
   obtain ⟨ck,hx,hy⟩:=Yo hl;have hk:(c6:Int)<(c5.length:Int):=by omega
   have J:=decide_eq_true hk;rw [Zb7.eq_2] at c;refine go ?_;refine Ye (congrArg Value.bool J)<|go ?_;refine lI ck (b2.addr ck)<|lW (b2.atInt ck) ?_;refine go ?_;refine Vp (col:=Z) (by kernel_rfl) (by kernel_rfl)<|go ?_;refine qF ⟨_,_,O⟩ ?_;refine qW (fun _ a=>((g.atN).nth (q:=2) O).gr (a.bl Z)) ?_;refine go ?_;obtain ⟨_,f,c⟩:=bZ c;refine qI f ((bs.ks d).addr f) ?_;obtain ⟨_,hz,h0⟩:=(bs.ks d).atN f;obtain ⟨⟨_,_,rfl,_⟩,_⟩:=hz;refine qW (fun _ a=>h0.one.gr (a.bl Z)) ?_;refine go ?_;obtain ⟨_,J,c⟩:=bZ c;refine qI J (l.addr J)<|qW (fun _ a=>(l.gr (a.bl Z)).atInt J) ?_;refine go ?_;refine Wj ?_;intro _ a;replace a:=a.bl Z;refine go ?_;replace b2:=b2.gr a;exact ⟨hw.length,by simp,O,⟨_,_,_,_,O,hx,c,d.grow a,w.gr a,x.gr a,y.gr a,z.gr a,h.gr a,A.gr a,b.gr a,g.gr a,b2,D.gr a,E.gr a,F.gr a,G.gr a,i.gr a,l.gr a,(Yv (congrArg (Value.int .i64) (Yp (aG hy b2.1.1))) O)⟩⟩
def Zdr (N:Nat) (a:R0):Option R0:=
  (Uk N ((a.1.1,a.1.2),a.2) ((false,([]:List Int)),([]:List Int))).bind fun b=>some ((b.1.1,b.1.2),b.2)
theorem Zur {N n o:Nat} {p q:Option Addr} {col:Zg} {a:World} {b r:R0} (g c2:Nat) (f:Zdr N b=some r) (c:Sl rU col a p n b.1.2) (d:Sl rU col a q o b.2):
    Calls prog 34 #[(.agg #[.bool b.1.1,.slice p b.1.2.length n,.slice q b.2.length o])] a (V7 119 g c2 col a r):=by
 refine Yb (m:=6) func34 O O O ?_;rw [Zdr.eq_1] at f;have e:=St.start col a;refine go ?_;refine Xj (col:=(Zk col)) 1 O fun _ _ l x u=>Xc (col:=l) #[.bool false,(nI),(nI)] 2 zeroValue42 fun _ _ _ k y=>go ?_;refine lV _ (Zz isAgg42 sizeOf42 (u.gr k))<|lV (.agg #[.bool false,(nI),(nI)]) (Yc (l:=[_,_]) (qs:=[(0,2),(2,1)]) underlying42 zeroValue42 ⟨O,sizeOf40,O,sizeOf38,trivial⟩ O) ?_;obtain ⟨_,s,f⟩:=bZ f;replace e:=(e.grow x).grow k;refine Zh (Zb3 3 4 s (c.k0.ks e) (d.k0.ks e) Sl.nil Sl.nil) fun _ _ ⟨_,_,_,_,_,i,j,v,w⟩=>⟨_,i,?_⟩;refine Zs (y.gr j) fun _ h m t=>go ?_;cases f;replace e:=(e.grow j).kp h m;exact ⟨O,_,ra t.atN,_,_,_,_,_,O,e.fin (cm [(3,g),(4,c2)]),e.fo (v.kp h),e.fo (w.kp h)⟩
def Zhz (a:Nat) (b:Bool) (c d:List Int) (e:Bool) (f g:List Int) (kk_L1:(Nat→Bool→R2→R2→Bool→R2→R2→Option Rh)) (i:Bool):Option Rh:=
  if i=true then (some ((((false,([]:List Int)),([]:List Int)),((false,([]:List Int)),([]:List Int))),3)) else (kk_L1 (a+1) b c d e f g)
def Zae (N:Nat) (a:R1) (d:List Int):List Int→Nat→Bool→R2→R2→Bool→R2→R2→Option Rh
  | [],c,e,f,g,i,j,k=>(Tr N a.2.2.2.1).bind fun p=>(Zh0 N (a.1,a.2.1,a.2.2.1,a.2.2.2.1,a.2.2.2.2) p.1 d).bind fun b=>(Zdr N ((b.2.1.1.1.1,b.2.1.1.1.2),b.2.1.1.2)).bind fun l=>(Zdr N ((b.2.1.2.1.1,b.2.1.2.1.2),b.2.1.2.2)).bind fun m=>some ((((l.1.1,l.1.2),l.2),((m.1.1,m.1.2),m.2)),0)
  | n :: o,c,e,f,g,i,j,k=>if (decide (n<0))=true then (Zhz c e f g i j k (Zae N a d o) true) else ((Zn a.2.2.1 (c:Int)).bind fun q=>Zhz c e f g i j k (Zae N a d o) (decide ((q.length:Int)≤n)))
def Za8 (N:Nat) (a:R1) (b:List Int):Option Rh:=
  (Ue N (a.1,a.2.1,a.2.2.1,a.2.2.2.1,a.2.2.2.2)).bind fun c=>if (!decide (c=0))=true then (some ((((false,([]:List Int)),([]:List Int)),((false,([]:List Int)),([]:List Int))),c)) else (if (!decide ((b.length:Int)=(a.2.1.length:Int)))=true then (some ((((false,([]:List Int)),([]:List Int)),((false,([]:List Int)),([]:List Int))),3)) else (Zae N a b b 0 false ([]:List Int) ([]:List Int) false ([]:List Int) ([]:List Int)))
theorem Zuq {N X Y Z af D:Nat} {T U V W q:Option Addr} {col:Zg} {i:World} {c:R1} {k:R2} {r:Rh} (c1 c2 c3 c4:Nat) (a:Za8 N c k=some r) (L:Sl Zc.str col i T X c.2.1) (bl:Sl rV col i U Y c.2.2.1) (t:Sl rP col i V Z c.2.2.2.1) (K:Sl (Zc.slice rQ) col i W af c.2.2.2.2) (s:Sl rI col i q D k):
    Calls prog 9 #[(.agg (Rt c T X U Y V Z W af)),.slice q k.length D] i (fun e w'=>∃ (col':Zg) (w:Option Addr) (u:Nat) (y:Option Addr) (v:Nat) (z:Option Addr) (x:Nat) (o:Option Addr) (n:Nat),e= .returned (.tuple #[(.agg #[.bool r.1.1.1.1,.slice w r.1.1.1.2.length u,.slice y r.1.1.2.length v,.bool r.1.2.1.1,.slice z r.1.2.1.2.length x,.slice o r.1.2.2.length n]),.int .i64 r.2])∧Zl col i col' w'∧Zb rU 119 c1 col' w' w u r.1.1.1.2∧Zb rU 119 c2 col' w' y v r.1.1.2∧Zb rU 119 c3 col' w' z x r.1.2.1.2∧Zb rU 119 c4 col' w' o n r.1.2.2):=by
 refine Yb (m:=69) func9 O O O ?_;rw [Za8.eq_1] at a;have b:=St.start col i;refine go ?_;refine Xj (col:=(Zk col)) 1 O fun bh _ w x l=>Zdn (col:=w) (v:=(.slice q k.length D)) 2 O O ?_;intro S y f v j;replace j:Zi 28 2 f y S #[.slice q k.length D]:=j;refine Xc (col:=f) #[.bool false,(nI),(nI),.bool false,(nI),(nI)] 3 zeroValue44 fun bk _ w u h=>go ?_;replace l:=(l.gr v).gr u;refine lV _ (Zz isAgg27 sizeOf27 l) ?_;obtain ⟨_,n,a⟩:=bZ a;replace L:=L.k0;replace bl:=bl.k0;replace t:=t.k0;replace K:=K.k0;replace b:=((b.grow x).grow v).grow u;refine Zh (Zkx n (L.ks b) (bl.ks b) (t.ks b) (K.ks b)) fun _ _ ⟨m,f⟩=>⟨_,m,?_⟩;replace f:=Ru w f;refine go ?_;replace s:=s.k0;replace j:=(j.gr u).gr f;replace l:=l.gr f;replace h:=h.gr f;replace b:=b.grow f;refine Zp a (fun F a=>go ?_) fun F a=>go ?_
 ·refine lV (.agg #[.bool false,(nI),(nI),.bool false,(nI),(nI)]) (Yc (l:=[_,_]) (qs:=[(0,3),(3,3)]) underlying44 zeroValue44 ⟨O,sizeOf42,O,sizeOf42,trivial⟩ O)<|Xy O<|Zs h ?_;intro _ E I C;refine go ?_;cases a;replace b:=b.kp E I;exact ⟨O,_,Tw C.atN,_,none,0,none,0,none,0,none,0,O,b.fin (cm []),Zb.nil,Zb.nil,Zb.nil,Zb.nil⟩
 refine lW j.at1<|go ?_;refine Xp l ?_;refine go ?_;refine Zp a (fun F a=>go ?_) fun F a=>go ?_
 ·refine lV (.agg #[.bool false,(nI),(nI),.bool false,(nI),(nI)]) (Yc (l:=[_,_]) (qs:=[(0,3),(3,3)]) underlying44 zeroValue44 ⟨O,sizeOf42,O,sizeOf42,trivial⟩ O)<|Zs h ?_;intro _ g B H;refine go ?_;cases a;replace b:=b.kp g B;exact ⟨O,_,Tw H.atN,_,none,0,none,0,none,0,none,0,O,b.fin (cm []),Zb.nil,Zb.nil,Zb.nil,Zb.nil⟩
 refine lW j.at1<|go ?_;refine Z0 [2,27,28,3,4,1000000] (fun I bz C=>∃ E b1 cy cz c0 c5 c6 c7 c8 c9 da db dc dd de df J,I=J.length∧k.drop b1=J∧Zae N c k J b1 cy c5 c8 c9 dc df=some r∧St i (Zk col) E C∧Zi 27 1 E C bh (Rt c T X U Y V Z W af)∧Zi 28 2 E C S #[.slice q k.length D]∧Zb rU 119 4 E C cz c0 c5∧Zb rU 119 5 E C c6 c7 c8∧Zb rU 119 6 E C da db dc∧Zb rU 119 7 E C dd de df∧Zi 44 3 E C bk #[.bool cy,.slice cz c5.length c0,.slice c6 c8.length c7,.bool c9,.slice da dc.length db,.slice dd df.length de]∧[29].map bz=[.int .i64 b1]) k.length ⟨_,0,_,none,0,_,none,0,_,_,none,0,_,none,0,_,_,O,O,a,b,l,j,Zb.nil,Zb.nil,Zb.nil,Zb.nil,h,O⟩ ?_;clear a;intro I bz C f;obtain ⟨E,b1,cy,cz,c0,c5,c6,c7,c8,c9,da,db,dc,dd,de,df,J,G,hl,a,b,l,j,M,P,Q,R,h,hs⟩:=f;subst G;refine .lL [29] hs ?_
 cases J with
 | nil=>
  have hk:¬ ((b1:Int)<(k.length:Int)):=by have:=aF.1 hl;omega
  have p:=decide_eq_false hk;rw [Zae.eq_1] at a;refine go ?_;refine Yd (congrArg Value.bool p)<|go ?_;refine Xp l ?_;obtain ⟨G,x,a⟩:=bZ a;refine Zh (Zn1 8 x (t.ks b)) fun _ _ ⟨_,g,n,m,H,v⟩=>⟨_,m,?_⟩;refine lM (.tuple #[.slice g G.1.length n,.int .i64 G.2])<|lV (.slice g G.1.length n) (Xl O O)<|lV (.int .i64 G.2) (Xl O O)<|go ?_;replace l:=l.gr H;refine lV _ (Zz isAgg27 sizeOf27 l)<|Wg O<|lV (.func (.func 33) #[] #[.pointer (some ⟨S,0,none⟩)]) (Zpx O) ?_;replace j:=j.gr H;replace j:=j.froz 8;replace h:=h.gr H;replace h:=h.froz 8;replace b:=b.grow H;replace b:=b.froz 8 (by decide) (by decide);obtain ⟨g,z,a⟩:=bZ a;refine Zh (Z3e 9 2 z (by decide) (L.ks b) (bl.ks b) (t.ks b) (K.ks b) ((v).toSlF (Ze.int .i64)) (s.ks b) j) fun _ _ ⟨t,L,o,w,x,y,z,B,C,E,G,m,J,_,K,a9,dg,dh⟩=>⟨_,m,?_⟩;refine lM (.tuple #[.slice L g.1.length o,(.agg #[.bool g.2.1.1.1.1,.slice w g.2.1.1.1.2.length x,.slice y g.2.1.1.2.length z,.bool g.2.1.2.1.1,.slice B g.2.1.2.1.2.length C,.slice E g.2.1.2.2.length G]),.bool g.2.2])<|lV (.slice L g.1.length o) (Xl O O)<|lV (.agg #[.bool g.2.1.1.1.1,.slice w g.2.1.1.1.2.length x,.slice y g.2.1.1.2.length z,.bool g.2.1.2.1.1,.slice B g.2.1.2.1.2.length C,.slice E g.2.1.2.2.length G]) (Xl O O)<|lV (.bool g.2.2) (Xl O O)<|Xc (col:=t) #[.bool false,(nI),(nI),.bool false,(nI),(nI)] 10 zeroValue44 ?_;intro _ _ I o H;refine So O<|Zs H ?_;intro _ n L u;refine go ?_;refine Ym (col:=I) [(0,1),(1,0),(3,1),(4,0),(2,3),(5,3),(6,1),(7,2),(8,1)] (by kernel_rfl) (by kernel_rfl)<|xF ⟨_,_,O⟩ ?_;refine xv (v:=(.agg #[.bool g.2.1.1.1.1,.slice w g.2.1.1.1.2.length x,.slice y g.2.1.1.2.length z])) O O (fun _ d=>Xi isAgg42 sizeOf42 O O (((u.atN).part 0 3 _ O).gr (d.bl I))) ?_;refine xF ⟨_,_,O⟩ ?_
  refine xv (v:=(.agg #[.bool g.2.1.2.1.1,.slice B g.2.1.2.1.2.length C,.slice E g.2.1.2.2.length G])) O O (fun _ d=>Xi isAgg42 sizeOf42 O O (((u.atN).part 3 3 _ O).gr (d.bl I))) ?_;refine xe O O ?_;intro _ f;have d:=f.bl I;obtain ⟨v,B,a⟩:=bZ a;refine Zh (Zur 11 12 B (((K.gr o).kp n).gr d) (((a9.gr o).kp n).gr d)) fun _ _ ⟨K,y,z,E,G,m,H,di,dj⟩=>⟨_,m,?_⟩;refine Zj<|Xb K f H<|xe O O ?_;intro _ f;replace h:=((((h.gr J).gr o).kp n).gr d).gr H;replace b:=((((b.grow J).grow o).kp n L).grow d).grow H;replace dg:=(((dg.gr o).kp n).gr d).gr H;replace dh:=(((dh.gr o).kp n).gr d).gr H;have d:=f.bl K;obtain ⟨t,C,a⟩:=bZ a;refine Zh (Zur 13 14 C (dg.gr d) (dh.gr d)) fun _ _ ⟨J,K,L,o,u,m,I,dk,A⟩=>⟨_,m,?_⟩;refine Zj<|Xb J f I<|xu (v:=(.agg #[.bool v.1.1,.slice y v.1.2.length z,.slice E v.2.length G,.bool t.1.1,.slice K t.1.2.length L,.slice o t.2.length u])) O O (fun _=>Yc (l:=[_,_]) (qs:=[(0,3),(3,3)]) underlying44 zeroValue44 ⟨O,sizeOf42,O,sizeOf42,trivial⟩ O) ?_;refine xe O O ?_;intro _ f;replace di:=(di.gr d).gr I;replace dj:=(dj.gr d).gr I;replace h:=(h.gr d).gr I;replace b:=(b.grow d).grow I;have d:=f.bl J;replace h:=h.gr d;refine Zs h fun _ t m bc=>Zj<|xk J<|xu O O (fun _=>Zgz O) ?_;refine Yf ?_;replace di:=(di.gr d).kp t;replace dj:=(dj.gr d).kp t;replace dk:=(dk.gr d).kp t;replace A:=(A.gr d).kp t;replace b:=(b.grow d).kp t m;intro _ d;replace d:=d.bl J;refine Y5 ?_;cases a;replace b:=b.grow d;exact ⟨O,_,Tw (bc.gr d).atN,_,_,_,_,_,_,_,_,_,O,b.fin (cm [(11,c1),(12,c2),(13,c3),(14,c4)]),b.fo (di.gr d),b.fo (dj.gr d),b.fo (dk.gr d),b.fo (A.gr d)⟩
 | cons cp bu=>
  obtain ⟨g,cq,cr⟩:=Yo hl;have hk:(b1:Int)<(k.length:Int):=by omega
  have p:=decide_eq_true hk;rw [Zae.eq_2] at a;refine go ?_;refine Ye (congrArg Value.bool p)<|go ?_;refine lI g ((s.ks b).addr g)<|lW ((s.ks b).atInt g)<|Yr O<|Yr O<|Zj<|Zw ?_;refine Wp.cutK [2,27,28,29,3,4,1000000] (fun bz A=>∃ B m,Zhz b1 cy c5 c8 c9 dc df (Zae N c k bu) m=some r∧St i (Zk col) B A∧Zi 27 1 B A bh (Rt c T X U Y V Z W af)∧Zi 28 2 B A S #[.slice q k.length D]∧Zb rU 119 4 B A cz c0 c5∧Zb rU 119 5 B A c6 c7 c8∧Zb rU 119 6 B A da db dc∧Zb rU 119 7 B A dd de df∧Zi 44 3 B A bk #[.bool cy,.slice cz c5.length c0,.slice c6 c8.length c7,.bool c9,.slice da dc.length db,.slice dd df.length de]∧[45].map bz=[.bool m]) ?_ ?_
  ·intro bz A i;obtain ⟨B,m,a,b,l,j,M,P,Q,R,h,hs⟩:=i;rw [Zhz.eq_1] at a;refine .lL [45] hs ?_;refine Zp a (fun F a=>go ?_) fun F a=>go ?_
   ·refine lV (.agg #[.bool false,(nI),(nI),.bool false,(nI),(nI)]) (Yc (l:=[_,_]) (qs:=[(0,3),(3,3)]) underlying44 zeroValue44 ⟨O,sizeOf42,O,sizeOf42,trivial⟩ O)<|Zs h ?_;intro _ cs ct cu;refine go ?_;cases a;replace b:=b.kp cs ct;exact ⟨O,_,Tw cu.atN,_,none,0,none,0,none,0,none,0,O,b.fin (cm []),Zb.nil,Zb.nil,Zb.nil,Zb.nil⟩
   exact ⟨bu.length,by simp,O,⟨_,_,_,_,_,_,_,_,_,_,_,_,_,_,_,_,_,O,cq,a,b,l,j,M,P,Q,R,h,(Yv (congrArg (Value.int .i64) (Yp (aG cr (s.ks b).1.1))) O)⟩⟩
  refine go ?_;refine X9 a (fun bf a=>go ?_) fun bf a=>go ?_
  ·refine lV (.bool true) (Xw (congrArg Value.bool bf) O)<|Zj ?_;exact ⟨O,_,_,a,b,l,j,M,P,Q,R,h,O⟩
  refine Xt ⟨_,_,O⟩ ?_;refine go ?_;refine lW ((l.atN).nth (q:=2) O)<|go ?_;obtain ⟨cv,d,a⟩:=bZ a;refine lI d ((bl.ks b).addr d) ?_;refine go ?_;obtain ⟨_,cw,cx⟩:=(bl.ks b).atN d;obtain ⟨⟨_,_,rfl,_⟩,_⟩:=cw;refine lW cx.one<|go ?_;refine lV (.bool (decide ((cv.length:Int)≤cp))) (X0 (congrArg Value.bool bf) O)<|Zj ?_;exact ⟨O,_,_,a,b,l,j,M,P,Q,R,h,O⟩
section
variable {N K:Nat} {n:Z4} (hf:Y7 N n) (hr:Z8 N (8 * K+40))
include hf hr
variable (nv:List Int) (b1:Bool) (l1 l2:List Int) (b3:Bool) (l3 l4:List Int) (w:List Int) (hw:Xr n w)
 (kk:Bool→List Int→List Int→Bool→List Int→List Int→List Int→Bool→List Int→List Int→Bool→List Int→List Int→List Int→T3)
include hw
theorem Zwa {v:Nat} (hv:v<n.2.1.length) (hl:∀ x ∈ Z7 n w v,Va x∧max x.1.2.length x.2.length≤K) {long:Rat} (hlong:qs long≤K) (F:List (QV×QV)→T3)
  (hF:∀ P:List (QV×QV),((Zhy (v:Int) P nv).bind fun r=>if (decide (r<0))=true then (some (([]:List Int),(((false,([]:List Int)),([]:List Int)),((false,([]:List Int)),([]:List Int))),false)) else ((Zn P r).bind fun e=>(Zn w (v:Int)).bind fun _=>(some (w.set (aA (v:Int)) r)).bind fun xs=>kk e.1.1.1 e.1.1.2 e.1.2 e.2.1.1 e.2.1.2 e.2.2 nv b1 l1 l2 b3 l3 l4 xs))=F P):
  ∀ (l:List QV) (f j:Nat) (a:Rat) (parts:List (QV×QV)),(Z7 n w v).drop j=l→j≤cnt n v→cnt n v<f+j→qs a≤K→(∀ p ∈ Xv long l a,qs p.1≤K∧qs p.2≤K)→parts.length=j→
   Zfc N n nv b1 l1 l2 b3 l3 l4 w kk (v:Int) (Wb n w v:Int) (Zm long) (n.2.2.1.getD v []) f (Zm a).1.1 (Zm a).1.2 (Zm a).2 parts (j:Int)=F (parts++(Xv long l a).map Xn)
 | l,0,j,a,parts,_,k,u,_,_,_=>by omega
 | l,f+1,j,a,parts,c,k,u,A,m,L=>by
  have d:=hf.rowT_len hw hv
  have B:=hf.row hw hv
  have s:=hf.rows hv
  rw [Zfc.eq_2]
  cases l with
  | nil=>
   have M:=aF.1 c
   rw [if_neg (dF (by rw [cnt] at k d;omega)),hF,Xv,cX,dA]
  | cons y l=>
   have g:j<(Z7 n w v).length:=by
    rcases bW j (Z7 n w v).length with h | h
    ·exact h
    ·rw [aI h] at c;cases c
   have i:(Z7 n w v)[j]=y∧(Z7 n w v).drop (j+1)=l:=by
    rw [aP g] at c
    exact List.cons.inj c
   have b:=hl y (i.1 ▸ aJ g)
   have o:j<cnt n v:=by omega
   have C:=m _ aK
   have O:(0:Int)≤((Wb n w v * cnt n v:Nat):Int):=cY _
   have D:i64.wrap ((Wb n w v:Int) * ((n.2.2.1.getD v []).length:Int))=((Wb n w v * cnt n v:Nat):Int):=by
    rw [show ((n.2.2.1.getD v []).length:Int)=((cnt n v:Nat):Int) from rfl,← bH]
    exact Zy (by omega)
   have E:i64.wrap (((Wb n w v * cnt n v:Nat):Int)+(j:Int))=((Wb n w v * cnt n v+j:Nat):Int):=by
    rw [← cS]
    exact Zy (by omega)
   have G:=Zbw b.1.1 b.1.2
   have H:U2 N (((Zm long).1.1,(Zm long).1.2),(Zm long).2) ((y.1.1,y.1.2),y.2)=some (Zm (long * Zq y)):=by
    have:=Zk9 (Yi hlong) (G.mono b.2) (hr.mono (by omega))
    rwa [Xz] at this
   have I:qs (long * Zq y)≤K+(K+1):=by
    have Q:=Zgy long (Zq y)
    have R:=Zm5 b.1
    omega
   have J:Uk N (((Zm a).1.1,(Zm a).1.2),(Zm a).2) (((Zm (long * Zq y)).1.1,(Zm (long * Zq y)).1.2),(Zm (long * Zq y)).2)=some (Zm (a+long * Zq y)):=by
    have:=Ze4 (Yi A) (Yi I) (hr.mono (by omega))
    rwa [Xz,Xz] at this
   rw [if_pos (dT (by rw [cnt] at o;omega)),Vb [] (by rw [hf.ev.t];exact hv),oB,Vb [] (by rw [hf.ev.v];exact hv),oB,D,E,Ztl g,i.1,oB,H,oB,J,oB,
    Xh (by simp only [aL,maxLen];omega),Zy (x:=(j:Int)+1) (by omega)]
   have q:=Zwa hv hl hlong F hF l f (j+1) (a+long * Zq y) (parts++[Xn (a,a+long * Zq y)]) i.2 (by omega) (by omega) C.2 (fun p h=>m p (aE _ h)) (by rw [nA,aL];omega)
   rw [bB] at q
   exact q
omit hr in
theorem Zv9 (a b:QV) (x:Int):∀ (ps:List Int) (r k:Nat),(∀ q ∈ ps,0≤q∧q<(n.2.1.length:Int))→r<k→k≤65536→Y2 n.2.2.1 ps k≤65536→
  Zb7 N n a.1.1 a.1.2 a.2 b.1.1 b.1.2 b.2 nv b1 l1 l2 b3 l3 l4 w kk x ps (r:Int)=Zb7 N n a.1.1 a.1.2 a.2 b.1.1 b.1.2 b.2 nv b1 l1 l2 b3 l3 l4 w kk x [] (Sf n w ps r:Int)
 | [],r,k,_,_,_,_=>rfl
 | p :: ps,r,k,c,d,e,f=>by
  obtain ⟨g,i,m⟩:=Zp7 hf.ev hw c d e f
  have y:=c p aK
  have A:=hw.ok p.toNat (by rw [hw.len];omega)
  have B:r * cnt n p.toNat≤k * cnt n p.toNat:=aX _ (by omega)
  have q1:Zn n.2.2.1 p=some (n.2.2.1.getD p.toNat []):=by
   have:=Vb (l:=n.2.2.1) [] (j:=p.toNat) (by rw [hf.ev.v];omega)
   rwa [show ((p.toNat:Nat):Int)=p by omega] at this
  have o:Zn w p=some (w.getD p.toNat 0):=by
   have:=Vb (l:=w) 0 (j:=p.toNat) (by rw [hw.len];omega)
   rwa [show ((p.toNat:Nat):Int)=p by omega] at this
  have s:i64.wrap ((r:Int) * ((n.2.2.1.getD p.toNat []).length:Int))=((r * cnt n p.toNat:Nat):Int):=by
   rw [show ((n.2.2.1.getD p.toNat []).length:Int)=((cnt n p.toNat:Nat):Int) from rfl,← bH]
   exact Zy (by omega)
  have t:i64.wrap (((r * cnt n p.toNat:Nat):Int)+w.getD p.toNat 0)=((r * cnt n p.toNat+(w.getD p.toNat 0).toNat:Nat):Int):=by
   rw [cS,show (((w.getD p.toNat 0).toNat:Nat):Int)=w.getD p.toNat 0 by omega]
   exact Zy (by omega)
  rw [Zb7.eq_2,q1,oB,o,oB,s,t]
  exact Zv9 a b x ps _ _ (fun q u=>c q (aE _ u)) g i m
end
theorem Zv8 {N W K:Nat} {n:Z4} (hf:Y7 N n) (hs:Ww n W) (hr:Z8 N (8 * K+40)) (hWK:W≤K) (hN:65536<N) {nv:List Int} (hnv:Xr n nv) {ord:List Int} (ho:Ug n.2.2.2.1 ord):∀ (l pre w:List Int) (s:Rat×Rat) (D M:Nat) (b1:Bool) (l1 l2:List Int) (b3:Bool) (l3 l4:List Int),ord=pre++l→Xr n w→(∀ p ∈ pre,w.getD p.toNat 0=nv.getD p.toNat 0)→Tj D M s→
  (Zf M).length+(Zf D).length+l.length * (W+2)+2≤K→
  ∃ w',Zag N n l (Zm s.1).1.1 (Zm s.1).1.2 (Zm s.1).2 (Zm s.2).1.1 (Zm s.2).1.2 (Zm s.2).2 nv b1 l1 l2 b3 l3 l4 w=some (w',Xn (Xm n nv l s),true)
 | [],pre,w,s,D,M,b1,l1,l2,b3,l3,l4,_,_,_,_,_=>⟨w,rfl⟩
 | v :: l,pre,w,s,D,M,b1,l1,l2,b3,l3,l4,m,hw,g,c,I=>by
  have A:=ho.rg v (by rw [m];simp)
  rw [hf.ev.p] at A
  obtain ⟨k,rfl⟩:∃ k:Nat,v=(k:Int):=⟨v.toNat,by omega⟩
  have a:k<n.2.1.length:=by omega
  have o:∀ p ∈ n.2.2.2.1.getD k [],w.getD p.toNat 0=nv.getD p.toNat 0:=fun p b=>g p (ho.up pre k l m p (by rw [aB];exact b))
  have r:Wb n w k=Wb n nv k:=Znb _ _ o
  have B:Z7 n w k=Z7 n nv k:=by rw [Z7,Z7,r]
  obtain ⟨J,L,S,t,T⟩:=Zr7 hf hs hw a c
  have C:(l.length+1) * (W+2)=l.length * (W+2)+(W+2):=by rw [bI,bO]
  rw [nC,C] at I
  have d:=hf.rows a
  have Q:cnt n k≤65536:=by have:=(hf.row hw a).1;omega
  have u:Qu N (((Zm s.2).1.1,(Zm s.2).1.2),(Zm s.2).2) (((Zm s.1).1.1,(Zm s.1).1.2),(Zm s.1).2)=some (Zm (s.2 - s.1)):=by
   have:=Zrv (Yi c.qb) (Yi c.qa) (hr.mono (s:=2 * ((Zf M).length+(Zf D).length+((Zf M).length+(Zf D).length)+3)) (by omega))
   rwa [Xz,Xz] at this
  rw [Zag.eq_2,Vb [] (by rw [hf.ev.p];exact a),oB]
  have E:=Zv9 hf nv b1 l1 l2 b3 l3 l4 w hw (Zag N n l) (Zm s.1) (Zm s.2) (k:Int) (n.2.2.2.1.getD k []) 0 1 (hf.pars a) (by omega) (by omega) d.2.2
  rw [show ((0:Nat):Int)=0 from rfl] at E
  rw [E,Zb7.eq_1,u,oB,Vb [] (by rw [hf.ev.v];exact a),oB]
  have F:=Zwa hf hr nv b1 l1 l2 b3 l3 l4 w hw (Zag N n l) a (fun x O=>by have:=Zhm hf hs a x (Zas O);exact ⟨this.1,by omega⟩) (long:=s.2 - s.1) (by omega) _ (fun _=>rfl) (Z7 n w k) N 0 s.1 [] rfl (bL _) (by omega) (by have:=c.qa;omega) (fun p b=>⟨by have:=(t p b).qa;omega,by have:=(t p b).qb;omega⟩) rfl
  rw [show ((0:Nat):Int)=0 from rfl] at F
  have i:=F
  rw [Wb] at i
  rw [i,cB]
  have R:=hnv.ok k (by rw [hnv.len];exact a)
  obtain ⟨q,f⟩:∃ q:Nat,nv.getD k 0=(q:Int):=⟨(nv.getD k 0).toNat,by omega⟩
  have j:q<(Xv (s.2 - s.1) (Z7 n w k) s.1).length:=by rw [Su,hf.rowT_len hw a];omega
  have G:Zhy (k:Int) ((Xv (s.2 - s.1) (Z7 n w k) s.1).map Xn) nv=some (q:Int):=by
   rw [Zhy,Vb 0 (by rw [hnv.len];exact a),f];rfl
  rw [G,oB,if_neg (dF (by omega)),Zyl j,oB,Vb 0 (by rw [hw.len];exact a),oB,oB,aB]
  have y:=hw.set (v:=k) (k:=(q:Int)) (by omega)
  have P:=Zv8 hf hs hr hWK hN hnv ho l (pre++[(k:Int)]) (w.set k q) _ J L b1 l1 l2 b3 l3 l4 (by rw [m,bB];rfl) y (fun p b=>?_) (t _ (Zeu j)) (by omega)
  ·obtain ⟨w',H⟩:=P
   refine ⟨w',?_⟩
   rw [Xm,aB,f,aB,← B]
   exact H
  ·rcases aY.1 b with b | b
   ·rw [Us w 0 k _ _ (by rw [hw.len];exact a)]
    split
    ·rename_i e;rw [e,f]
    ·exact g p b
   ·rw [bD] at b
    rw [b,aB,Us w 0 k _ _ (by rw [hw.len];exact a),if_pos rfl,f]
theorem Z59 {N W K:Nat} {n:Z4} (hf:Y7 N n) (hs:Ww n W) (hr:Z8 N (8 * K+40)) (hWK:1025 * (W+2)+4≤K) (hN:65536<N) {nv:List Int} (hnv:Xr n nv) {ord:List Int} (ho:Ug n.2.2.2.1 ord) (hol:ord.length≤1024):
  ∃ w',Zh0 N n ord nv=some (w',Xn (Xm n nv ord (0,1)),true):=by
 have b:=hf.le
 have a:ord.length * (W+2)≤1024 * (W+2):=aX _ hol
 have c:(Zf 1).length=1:=by rw [Uj];rfl
 obtain ⟨w',h⟩:=Zv8 hf hs hr (by omega) hN hnv ho ord [] (aC n.2.1.length 0) (0,1) 1 1 false [] [] false [] [] rfl (Xr.zero hf.ev) (by simp) Tj.zero (by omega)
 refine ⟨w',?_⟩
 rw [Zh0,Xh (by simp only [maxLen];omega),Zoe (hr.mono (by omega)),oB,Zhn,oB]
 exact h
def Vr (n:Z4):List Int→Nat→Bool
 | [],_=>true
 | x :: l,k=>!decide (x<0)&&(!decide ((cnt n k:Int)≤x)&&Vr n l (k+1))
theorem Zxt {n:Z4}:∀ (l:List Int) (k:Nat),Vr n l k=true→∀ i,i<l.length→0≤l.getD i 0∧l.getD i 0<(cnt n (k+i):Int)
 | [],_,_,i,a=>by simp at a
 | x :: l,k,h,i,a=>by
  simp only [Vr,Bool.and_eq_true,Bool.not_eq_true',decide_eq_false_iff_not] at h
  cases i with
  | zero=>rw [dP,bV];omega
  | succ i=>
   rw [cM,show k+(i+1)=k+1+i by omega]
   exact Zxt l (k+1) h.2.2 i (by simpa using a)
theorem Z7v {n:Z4} {w:List Int} (hl:w.length=n.2.1.length) (h:Vr n w 0=true):Xr n w:=⟨hl,fun i a=>by have:=Zxt w 0 h i a;rwa [cG] at this⟩
section
variable {N:Nat} {n:Z4} (he:Ti n)
include he
theorem Z1q (hl:n.2.1.length≤1048576) (w:List Int) (hw:w.length=n.2.1.length):∀ (l:List Int) (k:Nat) (b1:Bool) (l1 l2:List Int) (b3:Bool) (l3 l4:List Int),w.drop k=l→k≤w.length→Zae N n w l k b1 l1 l2 b3 l3 l4=if Vr n l k=true then Zae N n w [] w.length b1 l1 l2 b3 l3 l4 else some ((((false,([]:List Int)),([]:List Int)),((false,([]:List Int)),([]:List Int))),3)
 | [],k,b1,l1,l2,b3,l3,l4,a,b=>by
  have:=aF.1 a
  rw [Vr,if_pos rfl,show k=w.length by omega]
 | x :: l,k,b1,l1,l2,b3,l3,l4,a,b=>by
  have c:k<w.length:=by
   rcases bW k w.length with h | h
   ·exact h
   ·rw [aI h] at a;cases a
  rw [aP c] at a
  obtain ⟨e,d⟩:=List.cons.inj a
  rw [Zae.eq_2,Vr]
  by_cases hx:x<0
  ·rw [if_pos (dT hx),Zhz,if_pos rfl,decide_eq_true hx];rfl
  ·rw [if_neg (dF hx),Vb [] (by rw [he.v];omega),oB,Zhz,decide_eq_false hx]
   by_cases hc:(cnt n k:Int)≤x
   ·rw [show ((n.2.2.1.getD k []).length:Int)=(cnt n k:Int) from rfl,decide_eq_true hc,if_pos rfl];rfl
   ·rw [show ((n.2.2.1.getD k []).length:Int)=(cnt n k:Int) from rfl,decide_eq_false hc,if_neg (by decide),Z1q hl w hw l (k+1) b1 l1 l2 b3 l3 l4 d (by omega)];rfl
end
def Zrq (k:Int):(QV×QV)×Int:=((((false,([]:List Int)),([]:List Int)),((false,([]:List Int)),([]:List Int))),k)
theorem Zxj {N K:Nat} {q:Rat} (hr:Z8 N (8 * K+40)) (hq:qs q≤K):Zdr N (((Zm q).1.1,(Zm q).1.2),(Zm q).2)=some (Zm q):=by
 have b:RV 0 ((false,([]:List Int)),([]:List Int)):=⟨by simp [Zo],by simp [Zo],by simp,by simp⟩
 have a:=Ze4 (Yi hq) b (hr.mono (by omega))
 have c:Zq ((false,([]:List Int)),([]:List Int))=0:=by rw [Zq];simp [Zr,Za]
 rw [Xz,c,kL] at a
 rw [Zdr]
 have d:Uk N (((Zm q).1.1,(Zm q).1.2),(Zm q).2) ((false,([]:List Int)),([]:List Int))=some (Zm q):=a
 rw [d];rfl
def Zce (N:Nat) (b:R1) (c:List Int) (a:Nat) (i:Bool) (j k:List Int) (kk_L2:(Nat→Bool→R2→R2→Option (R0×Int))) (l:R6):List Int→Int→Option (R0×Int)
  | [],d=>(Zn b.2.2.1 (a:Int)).bind fun n=>(Zn c (a:Int)).bind fun o=>(Zn l (i64.wrap ((i64.wrap (d * (n.length:Int)))+o))).bind fun e=>(Zd2 N ((e.1.1,e.1.2),e.2)).bind fun f=>(U2 N ((i,j),k) ((f.1.1,f.1.2),f.2)).bind fun g=>kk_L2 (a+1) g.1.1 g.1.2 g.2
  | m :: p,d=>(Zn b.2.2.1 m).bind fun q=>(Zn c m).bind fun r=>(Zce N b c a i j k kk_L2 l p) (i64.wrap ((i64.wrap (d * (q.length:Int)))+r))
def Zcd (N:Nat) (a:R1) (f:List Int):List R6→Nat→Bool→R2→R2→Option (R0×Int)
  | [],b,c,d,e=>some (((c,d),e),0)
  | g :: i,b,c,d,e=>(Zn a.2.2.2.1 (b:Int)).bind fun j=>Zce N a f b c d e (Zcd N a f i) g j 0
def Ziw (a:Nat) (b:Bool) (c d:List Int) (kk_L1:(Nat→Bool→R2→R2→Option (R0×Int))) (e:Bool):Option (R0×Int):=
  if e=true then (some (((false,([]:List Int)),([]:List Int)),3)) else (kk_L1 (a+1) b c d)
def Zan (N:Nat) (a:R1) (c:List Int):List Int→Nat→Bool→R2→R2→Option (R0×Int)
  | [],b,d,e,f=>(Zfw N).bind fun g=>Zcd N a c a.2.2.2.2 0 g.1.1 g.1.2 g.2
  | i :: j,b,d,e,f=>if (decide (i<0))=true then (Ziw b d e f (Zan N a c j) true) else ((Zn a.2.2.1 (b:Int)).bind fun k=>Ziw b d e f (Zan N a c j) (decide ((k.length:Int)≤i)))
def Ziv (N:Nat) (a:R1) (b:List Int):Option (R0×Int):=
  (Ue N (a.1,a.2.1,a.2.2.1,a.2.2.2.1,a.2.2.2.2)).bind fun c=>if (!decide (c=0))=true then (some (((false,([]:List Int)),([]:List Int)),c)) else (if (!decide ((b.length:Int)=(a.2.1.length:Int)))=true then (some (((false,([]:List Int)),([]:List Int)),60)) else (Zan N a b b 0 false ([]:List Int) ([]:List Int)))
theorem Z4a {N bl bx M P Y:Nat} {J K L af V:Option Addr} {col:Zg} {l:World} {c:R1} {t:R2} {r:(R0×Int)} (c1 c2:Nat) (a:Ziv N c t=some r) (Q:Sl Zc.str col l J bl c.2.1) (D:Sl rV col l K bx c.2.2.1) (v:Sl rP col l L M c.2.2.2.1) (I:Sl (Zc.slice rQ) col l af P c.2.2.2.2) (n:Sl rI col l V Y t):
    Calls prog 27 #[(.agg (Rt c J bl K bx L M af P)),.slice V t.length Y] l (Zkb 119 c1 c2 col l r):=by
 refine Yb (m:=103) func27 O O O ?_;rw [Ziv.eq_1] at a;have d:=St.start col l;refine go ?_;refine Xj (col:=(Zk col)) 1 O fun a0 _ G Y f=>Xc (col:=G) #[.bool false,(nI),(nI)] 2 zeroValue42 fun a2 _ G S g=>go ?_;replace f:=f.gr S;refine lV _ (Zz isAgg27 sizeOf27 f) ?_;obtain ⟨_,V,a⟩:=bZ a;replace D:=D.k0;replace v:=v.k0;replace I:=I.k0;replace d:=(d.grow Y).grow S;refine Zh (Zkx V (Q.k0.ks d) (D.ks d) (v.ks d) (I.ks d)) fun _ _ ⟨q,Q⟩=>⟨_,q,?_⟩;replace Q:=Ru G Q;refine go ?_;replace n:=n.k0;replace f:=f.gr Q;replace g:=g.gr Q;replace d:=d.grow Q;refine Zp a (fun hb a=>go ?_) fun hb a=>go ?_
 ·refine lV (.agg #[.bool false,(nI),(nI)]) (Yc (l:=[_,_]) (qs:=[(0,2),(2,1)]) underlying42 zeroValue42 ⟨O,sizeOf40,O,sizeOf38,trivial⟩ O)<|Xy O<|Zs g ?_;intro _ b1 b2 b3;refine go ?_;cases a;replace d:=d.kp b1 b2;exact ⟨O,_,Tw b3.atN,_,none,0,none,0,O,d.fin (cm []),Zb.nil,Zb.nil⟩
 refine Xp f ?_;refine go ?_;refine Zp a (fun hb a=>go ?_) fun hb a=>go ?_
 ·refine lV (.agg #[.bool false,(nI),(nI)]) (Yc (l:=[_,_]) (qs:=[(0,2),(2,1)]) underlying42 zeroValue42 ⟨O,sizeOf40,O,sizeOf38,trivial⟩ O)<|Zs g ?_;intro _ b4 b5 b6;refine go ?_;cases a;replace d:=d.kp b4 b5;exact ⟨O,_,Tw b6.atN,_,none,0,none,0,O,d.fin (cm []),Zb.nil,Zb.nil⟩
 refine Z0 [1,2,28,29,4,1000000] (fun R C G=>∃ U b0 dk dm dn A dp dq B T,R=T.length∧t.drop b0=T∧Zan N c t T b0 dk A B=some r∧St l (Zk col) U G∧Zi 27 1 U G a0 (Rt c J bl K bx L M af P)∧Zb rU 119 3 U G dm dn A∧Zb rU 119 4 U G dp dq B∧Zi 42 2 U G a2 #[.bool dk,.slice dm A.length dn,.slice dp B.length dq]∧[30].map C=[.int .i64 b0]) t.length ⟨_,0,_,none,0,_,none,0,_,_,O,O,a,d,f,Zb.nil,Zb.nil,g,O⟩ ?_;clear a;intro R C G H;obtain ⟨U,b0,dk,dm,dn,A,dp,dq,B,T,F,p,a,d,f,h,i,g,s⟩:=H;subst F;refine .lL [30] s ?_
 cases T with
 | nil=>
  have m:¬ ((b0:Int)<(t.length:Int)):=by have:=aF.1 p;omega
  have e:=decide_eq_false m;rw [Zan.eq_1] at a;refine go ?_;refine Yd (congrArg Value.bool e)<|go ?_;obtain ⟨_,Q,a⟩:=bZ a;refine lc O O (Sv call65) (Zqv (col:=U) 5 6 Q:) fun _ _ ⟨U,_,_,_,_,q,S,Q,a9⟩=>⟨_,q,?_⟩;refine Xc (col:=U) #[.bool false,(nI),(nI)] 7 zeroValue42 fun br _ _ G T=>Zs T fun _ Y T o=>go ?_;refine Xt ⟨_,_,O⟩ ?_;replace f:=((f.gr S).gr G).kp Y;refine lW ((f.atN).nth (q:=4) O)<|go ?_;replace h:=((h.gr S).gr G).kp Y;replace i:=((i.gr S).gr G).kp Y;replace g:=((g.gr S).gr G).kp Y;replace d:=((d.grow S).grow G).kp Y T;refine Z0 [1,2,4,51,52,9,1000000] (fun R C U=>∃ V dr Z j u ds w E dt W,R=W.length∧c.2.2.2.2.drop dr=W∧Zcd N c t W dr Z ds dt=some r∧St l (Zk col) V U∧Zi 27 1 V U a0 (Rt c J bl K bx L M af P)∧Zb rU 119 3 V U dm dn A∧Zb rU 119 4 V U dp dq B∧Zi 42 2 V U a2 #[.bool dk,.slice dm A.length dn,.slice dp B.length dq]∧Zb rU 119 5 V U j u ds∧Zb rU 119 6 V U w E dt∧Zi 42 7 V U br #[.bool Z,.slice j ds.length u,.slice w dt.length E]∧[53].map C=[.int .i64 dr]) c.2.2.2.2.length ⟨_,0,_,_,_,_,_,_,_,_,O,O,a,d,f,h,i,g,(Q.gr G).kp Y,(a9.gr G).kp Y,o,O⟩ ?_;clear a;intro R C U H;obtain ⟨V,dr,Z,j,u,ds,w,E,dt,W,F,p,a,d,f,h,i,g,y,z,o,s⟩:=H;subst F;refine .lL [53] s ?_
  cases W with
  | nil=>
   have m:¬ ((dr:Int)<(c.2.2.2.2.length:Int)):=by have:=aF.1 p;omega
   have e:=decide_eq_false m;rw [Zcd.eq_1] at a;refine go ?_;refine Yd (congrArg Value.bool e)<|go ?_;refine lV _ (Zz isAgg42 sizeOf42 o)<|Zs g ?_;intro _ ba cb cc;refine go ?_;cases a;replace y:=y.kp ba;replace z:=z.kp ba;replace d:=d.kp ba cb;exact ⟨O,_,Tw cc.atN,_,_,_,_,_,O,d.fin (cm [(5,c1),(6,c2)]),d.fo y,d.fo z⟩
  | cons bs bt=>
   obtain ⟨x,cd,ce⟩:=Yo p;have m:(dr:Int)<(c.2.2.2.2.length:Int):=by omega
   have e:=decide_eq_true m;rw [Zcd.eq_2] at a;refine go ?_;refine Ye (congrArg Value.bool e)<|go ?_;refine lI x ((I.ks d).addr x) ?_;obtain ⟨_,cf,cg⟩:=(I.ks d).atN x;obtain ⟨⟨ch,ci,rfl,du⟩,_⟩:=cf;refine lW cg.one<|go ?_;refine Xp f<|Xy O ?_;obtain ⟨ax,V,a⟩:=bZ a;refine lI V ((v.ks d).addr V) ?_;obtain ⟨_,cj,ck⟩:=(v.ks d).atN V;obtain ⟨⟨cl,cn,rfl,dv⟩,_⟩:=cj;refine lW ck.one<|go ?_;refine Z0 [1,10,11,2,4,51,52,53,62,63,9,1000000] (fun R C v=>∃ k Q ay X,R=X.length∧ax.drop ay=X∧Zce N c t dr Z ds dt (Zcd N c t bt) bs X Q=some r∧St l (Zk col) k v∧Sl rQ k v ch ci bs∧Zi 27 1 k v a0 (Rt c J bl K bx L M af P)∧Zb rU 119 3 k v dm dn A∧Zb rU 119 4 k v dp dq B∧Zi 42 2 k v a2 #[.bool dk,.slice dm A.length dn,.slice dp B.length dq]∧Sl rI k v cl cn ax∧Zb rU 119 5 k v j u ds∧Zb rU 119 6 k v w E dt∧Zi 42 7 k v br #[.bool Z,.slice j ds.length u,.slice w dt.length E]∧[64,12].map C=[.int .i64 ay,.int .i64 Q]) ax.length ⟨_,0,0,_,O,O,a,d,du,f,h,i,g,dv,y,z,o,O⟩ ?_;clear a;intro R C v H;obtain ⟨k,Q,ay,X,F,p,a,d,du,f,h,i,g,dv,y,z,o,s⟩:=H;subst F;refine .lL [64,12] s ?_
   cases X with
   | nil=>
    have m:¬ ((ay:Int)<(ax.length:Int)):=by have:=aF.1 p;omega
    have e:=decide_eq_false m;rw [Zce.eq_1] at a;refine go ?_;refine Yd (congrArg Value.bool e)<|go ?_;refine Ym (col:=k) [(0,0),(1,1),(2,1),(3,1),(4,0),(5,1),(6,1),(7,0),(8,1),(9,1),(10,1),(11,1),(12,1),(13,0),(14,1),(15,1),(16,0),(17,3),(18,3),(19,2)] (by kernel_rfl) (by kernel_rfl)<|xv O O (fun _ b=>Zz isAgg42 sizeOf42 (o.gr (b.bl k))) ?_;refine xu O O (fun _=>V8 O) ?_;refine xu O O (fun _=>Wu O) ?_;refine xF ⟨_,_,O⟩ ?_;refine xW (fun _ b=>((f.atN).nth (q:=2) O).gr (b.bl k)) ?_;refine xu O O (fun _=>Wu O) ?_;obtain ⟨_,Q,a⟩:=bZ a;refine xu O O (fun _=>Wd underlying23 sizeOf22 O O (Xo Q).1 (Xo Q).2.1 ((D.ks d).addr Q)) ?_;obtain ⟨_,co,cp⟩:=(D.ks d).atN Q;obtain ⟨⟨_,_,rfl,_⟩,_⟩:=co;refine xW (fun _ b=>cp.one.gr (b.bl k)) ?_;refine xu O O (fun _=>Q4 underlying22 O) ?_;refine xu O O (fun _=>Zew _ _ O O) ?_;refine xu O O (fun _=>V8 O) ?_;refine xu O O (fun _=>Wu O) ?_;obtain ⟨_,S,a⟩:=bZ a;refine xu O O (fun _=>Wd underlying28 sizeOf3 O O (Xo S).1 (Xo S).2.1 ((n.ks d).addr S)) ?_;refine xW (fun _ b=>((n.ks d).gr (b.bl k)).atInt S) ?_;refine xu O O (fun _=>Qg _ _ O O) ?_;obtain ⟨bd,G,a⟩:=bZ a;refine xu O O (fun _=>Wd underlying58 sizeOf42 O O (Xo G).1 (Xo G).2.1 (du.addr G)) ?_;obtain ⟨_,cq,cr⟩:=du.atN G;obtain ⟨_,_,rfl,cs,ct⟩:=Yw cq;obtain ⟨_,_,rfl,cu,cv⟩:=Yw cs;obtain ⟨rfl,_⟩:=cu;obtain ⟨⟨cw,cx,rfl,be⟩,_⟩:=cv;obtain ⟨⟨cy,cz,rfl,bf⟩,_⟩:=ct;refine xv (v:=(.agg #[.bool bd.1.1,.slice cw bd.1.2.length cx,.slice cy bd.2.length cz])) O O (fun _ b=>Xi isAgg42 sizeOf42 O O (cr.gr (b.bl k))) ?_;refine xe O O ?_;intro _ j;have b:=j.bl k;obtain ⟨_,Z,a⟩:=bZ a;refine Zh (Zuy Z (be.gr b) (bf.gr b)) fun _ _ ⟨H,_,_,_,_,q,R,w,E⟩=>⟨_,q,?_⟩;refine Zj<|Xb H j R<|xe O O ?_;intro F j;replace h:=(h.gr b).gr R;replace i:=(i.gr b).gr R;replace y:=(y.gr b).gr R;replace z:=(z.gr b).gr R;replace f:=(f.gr b).gr R;replace g:=(g.gr b).gr R;replace o:=(o.gr b).gr R;replace d:=(d.grow b).grow R
    have b:=j.bl H;obtain ⟨_,u,a⟩:=bZ a;replace y:=y.gr b;replace z:=z.gr b;refine Zh (Ze1 8 9 u ((y.toSlF (Ze.int .u32)).froz 6) ((z.froz 5).toSlF (Ze.int .u32)) (((w.gr b).froz 5).froz 6) (((E.gr b).froz 5).froz 6)) fun _ _ ⟨v,_,_,_,_,q,u,Y,w⟩=>⟨_,q,?_⟩;replace Y:=Y.thaw (Zt .u32) u (((Fz.refl (col:=H)).froz 5).froz 6);replace w:=w.thaw (Zt .u32) u (((Fz.refl (col:=H)).froz 5).froz 6);replace u:=u.thawR (col:=H);generalize Z2 F.heap.size H v=q at *;refine Zj<|Xb q j u<|xe O O ?_;intro _ j;replace h:=(h.gr b).gr u;replace i:=(i.gr b).gr u;replace f:=(f.gr b).gr u;replace g:=(g.gr b).gr u;replace o:=(o.gr b).gr u;replace d:=(d.grow b).grow u;have b:=j.bl q;replace o:=o.gr b;refine Zs o fun _ T j X=>Zj<|xk q<|Yf ?_;replace h:=(h.gr b).kp T;replace i:=(i.gr b).kp T;replace Y:=(Y.gr b).kp T;replace w:=(w.gr b).kp T;replace f:=(f.gr b).kp T;replace g:=(g.gr b).kp T;replace d:=(d.grow b).kp T j;intro _ b;replace b:=b.bl q;refine go ?_;replace h:=h.gr b;replace h:=h.recol 8 5;replace i:=i.gr b;replace i:=i.recol 8 5;replace Y:=Y.gr b;replace Y:=Y.recolSelf 5 (by decide);replace w:=w.gr b;replace w:=w.recol 8 5;replace f:=f.gr b;replace f:=f.recol 8 5;replace g:=g.gr b;replace g:=g.recol 8 5;replace X:=X.gr b;replace X:=X.recol 8 5;replace d:=d.grow b;replace d:=d.recol 8 5 (by decide) (by decide);replace h:=h.recol 9 6;replace i:=i.recol 9 6;replace w:=w.recolSelf 6 (by decide);replace f:=f.recol 9 6;replace g:=g.recol 9 6;replace d:=d.recol 9 6 (by decide) (by decide);exact ⟨bt.length,by simp,O,⟨_,_,_,_,_,_,_,_,_,_,O,cd,a,d,f,h,i,g,Y.recol 9 6,w,X.recol 9 6,(Yv (congrArg (Value.int .i64) (Yp (aG ce (I.ks d).1.1))) O)⟩⟩
   | cons q c7=>
    obtain ⟨x,c8,c9⟩:=Yo p;have m:(ay:Int)<(ax.length:Int):=by omega
    have e:=decide_eq_true m;rw [Zce.eq_2] at a;refine go ?_;refine Ye (congrArg Value.bool e)<|go ?_;refine lI x (dv.addr x)<|lW (dv.atInt x) ?_;refine go ?_;refine Vp (col:=k) (by kernel_rfl) (by kernel_rfl)<|go ?_;refine qF ⟨_,_,O⟩ ?_;refine qW (fun _ b=>((f.atN).nth (q:=2) O).gr (b.bl k)) ?_;refine go ?_;obtain ⟨_,I,a⟩:=bZ a;refine qI I ((D.ks d).addr I) ?_;obtain ⟨_,da,db⟩:=(D.ks d).atN I;obtain ⟨⟨_,_,rfl,_⟩,_⟩:=da;refine qW (fun _ b=>db.one.gr (b.bl k)) ?_;refine go ?_;obtain ⟨_,W,a⟩:=bZ a;refine qI W ((n.ks d).addr W)<|qW (fun _ b=>((n.ks d).gr (b.bl k)).atInt W) ?_;refine go ?_;refine Wj ?_;intro _ b;replace b:=b.bl k;refine go ?_;replace h:=h.gr b;replace i:=i.gr b;replace dv:=dv.gr b;replace f:=f.gr b;replace g:=g.gr b;replace d:=d.grow b;exact ⟨c7.length,by simp,O,⟨_,_,_,_,O,c8,a,d,du.gr b,f,h,i,g,dv,y.gr b,z.gr b,o.gr b,(Yv (congrArg (Value.int .i64) (Yp (aG c9 dv.1.1))) O)⟩⟩
 | cons dc bu=>
  obtain ⟨x,dd,de⟩:=Yo p;have m:(b0:Int)<(t.length:Int):=by omega
  have e:=decide_eq_true m;rw [Zan.eq_2] at a;refine go ?_;refine Ye (congrArg Value.bool e)<|go ?_;refine lI x ((n.ks d).addr x)<|lW ((n.ks d).atInt x)<|Yr O<|Yr O<|Zj<|Zw ?_;refine Wp.cutK [1,2,28,29,30,4,1000000] (fun C E=>∃ F e,Ziw b0 dk A B (Zan N c t bu) e=some r∧St l (Zk col) F E∧Zi 27 1 F E a0 (Rt c J bl K bx L M af P)∧Zb rU 119 3 F E dm dn A∧Zb rU 119 4 F E dp dq B∧Zi 42 2 F E a2 #[.bool dk,.slice dm A.length dn,.slice dp B.length dq]∧[46].map C=[.bool e]) ?_ ?_
  ·intro C E k;obtain ⟨F,e,a,d,f,h,i,g,s⟩:=k;rw [Ziw.eq_1] at a;refine .lL [46] s ?_;refine Zp a (fun hb a=>go ?_) fun hb a=>go ?_
   ·refine lV (.agg #[.bool false,(nI),(nI)]) (Yc (l:=[_,_]) (qs:=[(0,2),(2,1)]) underlying42 zeroValue42 ⟨O,sizeOf40,O,sizeOf38,trivial⟩ O)<|Zs g ?_;intro _ df dg dh;refine go ?_;cases a;replace d:=d.kp df dg;exact ⟨O,_,Tw dh.atN,_,none,0,none,0,O,d.fin (cm []),Zb.nil,Zb.nil⟩
   exact ⟨bu.length,by simp,O,⟨_,_,_,_,_,_,_,_,_,_,O,dd,a,d,f,h,i,g,(Yv (congrArg (Value.int .i64) (Yp (aG de (n.ks d).1.1))) O)⟩⟩
  refine go ?_;refine X9 a (fun bm a=>go ?_) fun bm a=>go ?_
  ·refine lV (.bool true) (Xw (congrArg Value.bool bm) O)<|Zj ?_;exact ⟨O,_,_,a,d,f,h,i,g,O⟩
  refine Xt ⟨_,_,O⟩ ?_;refine go ?_;refine lW ((f.atN).nth (q:=2) O)<|go ?_;obtain ⟨di,b,a⟩:=bZ a;refine lI b ((D.ks d).addr b) ?_;refine go ?_;obtain ⟨_,dj,dl⟩:=(D.ks d).atN b;obtain ⟨⟨_,_,rfl,_⟩,_⟩:=dj;refine lW dl.one<|go ?_;refine lV (.bool (decide ((di.length:Int)≤dc))) (X0 (congrArg Value.bool bm) O)<|Zj ?_;exact ⟨O,_,_,a,d,f,h,i,g,O⟩
def ent (n:Z4) (w:List Int) (v:Nat):Rat:=Zq ((Z7 n w v).getD (w.getD v 0).toNat ((false,[]),[]))
def Sd (n:Z4) (w:List Int):List Int→Rat
 | []=>1
 | v :: l=>ent n w v.toNat * Sd n w l
def Y9 (n:Z4) (w:List Int):Nat→Nat→Rat→Rat
 | 0,_,q=>q
 | m+1,k,q=>Y9 n w m (k+1) (q * ent n w k)
section
variable {N:Nat} {n:Z4} (hf:Y7 N n) {w:List Int} (hw:Xr n w)
include hf hw
theorem Z1r {ord:List Int} (ho:Ug n.2.2.2.1 ord):∀ (l:List Int) (s:Rat×Rat),(∀ y ∈ l,y ∈ ord)→(Xm n w l s).2 - (Xm n w l s).1=(s.2 - s.1) * Sd n w l
 | [],s,_=>by rw [Sd,Rat.mul_one];rfl
 | v :: l,s,a=>by
  have b:=ho.rg v (a v aK)
  rw [hf.ev.p] at b
  have c:v.toNat<n.2.1.length:=by omega
  have g:=hw.ok v.toNat (by rw [hw.len];exact c)
  have d:(w.getD v.toNat 0).toNat<(Z7 n w v.toNat).length:=by rw [hf.rowT_len hw c];omega
  have e:=Zzq (s.2 - s.1) (Z7 n w v.toNat) s.1 _ d
  rw [Xm,Z1r ho l _ fun y f=>a y (aE _ f),Sd,ent,Yj d,← fB]
  congr 1
  generalize (Xv (s.2 - s.1) (Z7 n w v.toNat) s.1).getD (w.getD v.toNat 0).toNat (0,0)=p at *
  rw [e]
  grind
variable {W K:Nat} (hs:Ww n W) (hr:Z8 N (8 * K+40)) (hWK:1025 * (W+2)+4≤K)
include hs hr hWK
omit hr hWK in
theorem Z65 {k:Nat} (hk:k<n.2.1.length):qs (ent n w k)≤W+1:=by
 have c:=hw.ok k (by rw [hw.len];exact hk)
 have a:(w.getD k 0).toNat<(Z7 n w k).length:=by rw [hf.rowT_len hw hk];omega
 rw [ent,Yj a]
 obtain ⟨b,d⟩:=Zhm hf hs hk _ (Zas (aJ a))
 have:=Zm5 b
 omega
omit hs hr hWK in
theorem Zvm {k:Nat} (hk:k<n.2.1.length) (a:Bool) (b c:List Int) (kk:Nat→Bool→List Int→List Int→Option (QV×Int)) (t:List QV):∀ (ps:List Int) (r kb:Nat),(∀ q ∈ ps,0≤q∧q<(n.2.1.length:Int))→r<kb→kb≤65536→Y2 n.2.2.1 ps kb≤65536→
  Zce N n w k a b c kk t ps (r:Int)=Zce N n w k a b c kk t [] (Sf n w ps r:Int)
 | [],r,kb,_,_,_,_=>rfl
 | p :: ps,r,kb,d,e,f,g=>by
  obtain ⟨i,m,o⟩:=Zp7 hf.ev hw d e f g
  have A:=d p aK
  have B:=hw.ok p.toNat (by rw [hw.len];omega)
  have C:r * cnt n p.toNat≤kb * cnt n p.toNat:=aX _ (by omega)
  have q1:Zn n.2.2.1 p=some (n.2.2.1.getD p.toNat []):=by
   have:=Vb (l:=n.2.2.1) [] (j:=p.toNat) (by rw [hf.ev.v];omega)
   rwa [show ((p.toNat:Nat):Int)=p by omega] at this
  have s:Zn w p=some (w.getD p.toNat 0):=by
   have:=Vb (l:=w) 0 (j:=p.toNat) (by rw [hw.len];omega)
   rwa [show ((p.toNat:Nat):Int)=p by omega] at this
  have u:i64.wrap ((r:Int) * ((n.2.2.1.getD p.toNat []).length:Int))=((r * cnt n p.toNat:Nat):Int):=by
   rw [show ((n.2.2.1.getD p.toNat []).length:Int)=((cnt n p.toNat:Nat):Int) from rfl,← bH]
   exact Zy (by omega)
  have x:i64.wrap (((r * cnt n p.toNat:Nat):Int)+w.getD p.toNat 0)=((r * cnt n p.toNat+(w.getD p.toNat 0).toNat:Nat):Int):=by
   rw [cS,show (((w.getD p.toNat 0).toNat:Nat):Int)=w.getD p.toNat 0 by omega]
   exact Zy (by omega)
  rw [Zce.eq_2,q1,oB,s,oB,u,x]
  exact Zvm hk a b c kk t ps _ _ (fun q y=>d q (aE _ y)) i m o
theorem Zvl:∀ (l:List (List QV)) (k:Nat) (q:Rat),n.2.2.2.2.drop k=l→k≤n.2.1.length→qs q≤k * (W+1)+1→Zcd N n w l k (Zm q).1.1 (Zm q).1.2 (Zm q).2=some (Zm (Y9 n w l.length k q),0)
 | [],k,q,_,_,_=>rfl
 | t :: l,k,q,c,P,s=>by
  have Q:=hf.ev.t
  have J:=hf.le
  have e:k<n.2.2.2.2.length:=by
   rcases bW k n.2.2.2.2.length with h | h
   ·exact h
   ·rw [aI h] at c;cases c
  have a:k<n.2.1.length:=by omega
  rw [aP e] at c
  obtain ⟨u,x⟩:=List.cons.inj c
  have j:n.2.2.2.2.getD k []=t:=by rw [Yj e];exact u
  have d:=hf.rows a
  have A:=hf.row hw a
  have L:=hw.ok k (by rw [hw.len];exact a)
  have m:=Zvm hf hw a (Zm q).1.1 (Zm q).1.2 (Zm q).2 (Zcd N n w l) t (n.2.2.2.1.getD k []) 0 1 (hf.pars a) (by omega) (by omega) d.2.2
  rw [show ((0:Nat):Int)=0 from rfl] at m
  have f:(w.getD k 0).toNat<(Z7 n w k).length:=by rw [hf.rowT_len hw a];omega
  have B:i64.wrap ((Wb n w k:Int) * ((n.2.2.1.getD k []).length:Int))=((Wb n w k * cnt n k:Nat):Int):=by
   rw [show ((n.2.2.1.getD k []).length:Int)=((cnt n k:Nat):Int) from rfl,← bH]
   exact Zy (by omega)
  have C:i64.wrap (((Wb n w k * cnt n k:Nat):Int)+w.getD k 0)=((Wb n w k * cnt n k+(w.getD k 0).toNat:Nat):Int):=by
   rw [cS,show (((w.getD k 0).toNat:Nat):Int)=w.getD k 0 by omega]
   exact Zy (by omega)
  have o:Zn t ((Wb n w k * cnt n k+(w.getD k 0).toNat:Nat):Int)=some (Z7 n w k)[(w.getD k 0).toNat]:=by
   rw [← j];exact Ztl f
  obtain ⟨y,g⟩:∃ y,y=(Z7 n w k)[(w.getD k 0).toNat]:=⟨_,rfl⟩
  obtain ⟨i,D⟩:=Zhm hf hs a y (Zas (g ▸ aJ f))
  have E:ent n w k=Zq y:=by rw [ent,Yj f,g]
  have F:k * (W+1)≤1024 * (W+1):=aX _ (by omega)
  have b:Va (Ve y):=by
   rw [Ve];split
   ·exact ⟨i.1,by simp [Zo]⟩
   ·exact i
  have r:RV (W+1) (Ve y):=by
   refine ⟨b.1,b.2,?_,?_⟩
   ·rw [Ve];split
    ·simp only;omega
    ·omega
   ·rw [Ve];split
    ·simp
    ·omega
  have G:Zd2 N ((y.1.1,y.1.2),y.2)=some (Ve y):=Zxe i D (hr.mono (by omega))
  have H:U2 N (((Zm q).1.1,(Zm q).1.2),(Zm q).2) (((Ve y).1.1,(Ve y).1.2),(Ve y).2)=some (Zm (q * ent n w k)):=by
   have:=Zk9 (Yi s) r (hr.mono (by omega))
   rwa [Xz,Zrs,← E] at this
  have M:=Zgy q (ent n w k)
  have O:=Z65 hf hw hs a
  have I:=Zvl l (k+1) (q * ent n w k) x (by omega) (by rw [bI,bO];omega)
  rw [Zcd.eq_2,Vb [] (by rw [hf.ev.p];exact a),oB,m,← Wb,Zce.eq_1,Vb [] (by rw [hf.ev.v];exact a),oB,Vb 0 (by rw [hw.len];exact a),oB,B,C,o,← g,oB,G,oB,H,oB,nC,Y9]
  exact I
end
theorem Zvk {N:Nat} {n:Z4} (he:Ti n) (hl:n.2.1.length≤1048576) (w:List Int) (hw:w.length=n.2.1.length):∀ (l:List Int) (k:Nat) (b:Bool) (l1 l2:List Int),w.drop k=l→k≤w.length→Zan N n w l k b l1 l2=if Vr n l k=true then Zan N n w [] w.length b l1 l2 else some (((false,([]:List Int)),([]:List Int)),3)
 | [],k,b,l1,l2,a,c=>by
  have:=aF.1 a
  rw [Vr,if_pos rfl,show k=w.length by omega]
 | x :: l,k,b,l1,l2,a,c=>by
  have d:k<w.length:=by
   rcases bW k w.length with h | h
   ·exact h
   ·rw [aI h] at a;cases a
  rw [aP d] at a
  obtain ⟨f,e⟩:=List.cons.inj a
  rw [Zan.eq_2,Vr]
  by_cases hx:x<0
  ·rw [if_pos (dT hx),Ziw,if_pos rfl,decide_eq_true hx];rfl
  ·rw [if_neg (dF hx),Vb [] (by rw [he.v];omega),oB,Ziw,decide_eq_false hx]
   by_cases hc:(cnt n k:Int)≤x
   ·rw [show ((n.2.2.1.getD k []).length:Int)=(cnt n k:Int) from rfl,decide_eq_true hc,if_pos rfl];rfl
   ·rw [show ((n.2.2.1.getD k []).length:Int)=(cnt n k:Int) from rfl,decide_eq_false hc,if_neg (by decide),Zvk he hl w hw l (k+1) b l1 l2 e (by omega)];rfl
theorem Z5t {N W K:Nat} {n:Z4} (hf:Y7 N n) (hs:Ww n W) (hr:Z8 N (8 * K+40)) (hWK:1025 * (W+2)+4≤K) (hN:2000000<N) (hC:Ue N n=some 0) (w:List Int):
  ∃ p e,Ziv N n w=some (p,e)∧((e≠0∧(decide (w.length=n.2.1.length)&&Vr n w 0)=false)∨(e=0∧Xr n w∧p=Zm (Y9 n w n.2.1.length 0 1))):=by
 have a:Ue N (n.1,n.2.1,n.2.2.1,n.2.2.2.1,n.2.2.2.2)=some 0:=hC
 have c:=hf.le
 rw [Ziv,a,oB,if_neg (by decide)]
 by_cases hlen:w.length=n.2.1.length
 ·rw [if_neg (show ¬ (!decide ((w.length:Int)=(n.2.1.length:Int)))=true by rw [decide_eq_true (by omega)];decide),Zvk hf.ev (by omega) w hlen w 0 false [] [] rfl (bL _)]
  cases hin:Vr n w 0 with
  | false=>rw [if_neg (show ¬ false=true by decide)];exact ⟨_,3,rfl,.inl ⟨by decide,by simp⟩⟩
  | true=>
   have hw:=Z7v hlen hin
   have b:=Zvl hf hw hs hr hWK n.2.2.2.2 0 1 rfl (bL _) (by rw [Zkd];omega)
   rw [if_pos rfl,Zan.eq_1,Zsj (hr.mono (by omega)),oB,b,hf.ev.t]
   exact ⟨_,0,rfl,.inr ⟨rfl,hw,rfl⟩⟩
 ·rw [if_pos (show (!decide ((w.length:Int)=(n.2.1.length:Int)))=true by rw [decide_eq_false (by omega)];rfl)]
  exact ⟨_,60,rfl,.inl ⟨by decide,by rw [decide_eq_false hlen];rfl⟩⟩
theorem Z86 {n:Z4} {l:List Int} (ho:Tl n.2.2.2.1 l) (hl:l.length=n.2.2.2.1.length) (hp:n.2.2.2.1.length=n.2.1.length):∀ i,i<n.2.1.length→(i:Int) ∈ l:=fun i d=>by
 apply Classical.byContradiction
 intro b
 have c:=Zj9 (l:=(i:Int) :: l) (r:=(List.range n.2.2.2.1.length).map fun j:Nat=>(j:Int)) (List.nodup_cons.2 ⟨b,ho.1⟩) fun x a=>by
  rw [cD]
  rcases bK.1 a with rfl | a
  ·exact ⟨i,eN.2 (by omega),rfl⟩
  ·have:=ho.2.1 x a
   exact ⟨x.toNat,eN.2 (by omega),by omega⟩
 rw [bE,List.length_range,nC] at c
 omega
theorem Zxs {n:Z4} {w:List Int} (hd:Xr n w):(decide (w.length=n.2.1.length)&&Vr n w 0)=true:=by
 have:∀ (l:List Int) (j:Nat),w.drop j=l→Vr n l j=true:=by
  intro l
  induction l with
  | nil=>intro j _;rfl
  | cons x l c=>
   intro j b
   have a:j<w.length:=by
    rcases bW j w.length with h | h
    ·exact h
    ·rw [aI h] at b;cases b
   rw [aP a] at b
   obtain ⟨e,f⟩:=List.cons.inj b
   have d:=hd.ok j a
   rw [Yj a,e] at d
   rw [Vr,c (j+1) f,decide_eq_false (by omega),decide_eq_false (by omega)];rfl
 rw [this w 0 (by rw [bF]),Bool.and_true]
 exact decide_eq_true hd.len
/-! the probability is the interval's length -/
theorem Z9f {n:Z4} {w:List Int} {l r:List Int} (h:l.Perm r):Sd n w l=Sd n w r:=by
 induction h with
 | nil=>rfl
 | cons x _ a=>rw [Sd,Sd,a]
 | swap x y l=>rw [Sd,Sd,Sd,Sd,← fB,← fB,Rat.mul_comm (ent n w y.toNat)]
 | trans _ _ b c=>rw [b,c]
theorem Zzt (n:Z4) (w:List Int):∀ (m k:Nat) (q:Rat),Y9 n w m k q=q * Sd n w ((iN k m).map fun i:Nat=>(i:Int))
 | 0,k,q=>by rw [Y9,List.range'_zero,cX,Sd,Rat.mul_one]
 | m+1,k,q=>by rw [Y9,Zzt n w m,List.range'_succ,bX,Sd,aB,fB]
theorem Z88 {n:Z4} {ord:List Int} (he:Ti n) (ho:Ug n.2.2.2.1 ord) (hall:∀ i,i<n.2.1.length→(i:Int) ∈ ord):ord.Perm ((iN 0 n.2.1.length).map fun i:Nat=>(i:Int)):=by
 refine (List.perm_ext_iff_of_nodup ho.nd ?_).2 fun x=>?_
 ·rw [← List.range_eq_range']
  refine List.Pairwise.map _ (fun a b c=>?_) List.nodup_range
  intro h;exact c (Int.ofNat.inj h)
 ·rw [cD]
  constructor
  ·intro d
   have:=ho.rg x d
   rw [he.p] at this
   exact ⟨x.toNat,by rw [iY];omega,by omega⟩
  ·rintro ⟨i,e,rfl⟩
   rw [iY] at e
   exact hall i (by omega)
section
variable {N:Nat} {n:Z4} (hf:Y7 N n) {ord:List Int} (ho:Ug n.2.2.2.1 ord)
include hf ho
theorem Z1t {w:List Int} (hw:Xr n w) (hall:∀ i,i<n.2.1.length→(i:Int) ∈ ord):(Xm n w ord (0,1)).2 - (Xm n w ord (0,1)).1=Y9 n w n.2.1.length 0 1:=by
 have h:=Z1r hf hw ho ord (0,1) fun _ h=>h
 have e:((0:Rat),(1:Rat)).2 - ((0:Rat),(1:Rat)).1=1:=by show (1:Rat) - 0=1;grind
 rw [e,Rat.one_mul] at h
 rw [h,Zzt,Rat.one_mul,Z9f (Z88 hf.ev ho hall)]
/-! a point of an interval -/
theorem Zwi {x:Rat×Rat} {w:List Int} (hw:Xr n w):∀ (l pre u:List Int) (s:Rat×Rat),ord=pre++l→Xr n u→(∀ p ∈ pre,u.getD p.toNat 0=w.getD p.toNat 0)→s.1≤s.2→(Xm n w l s).1≤x.1→x.1<(Xm n w l s).2→x.2≤(Xm n w l s).2→
  ∃ u',Vi n (fun P=>Vj (Vq x) P 0 (-1)) l u s=some (u',Xm n w l s)∧Xr n u'∧∀ p ∈ ord,u'.getD p.toNat 0=w.getD p.toNat 0
 | [],pre,u,s,d,j,b,o,r,m,t=>⟨u,rfl,j,by rw [d,dA];exact b⟩
 | v :: l,pre,u,s,d,j,b,o,r,m,t=>by
  have E:∀ y ∈ l,y ∈ ord:=fun y F=>by rw [d];simp [F]
  have L:=ho.rg v (by rw [d];simp)
  rw [hf.ev.p] at L
  obtain ⟨k,rfl⟩:∃ k:Nat,v=(k:Int):=⟨v.toNat,by omega⟩
  have f:k<n.2.1.length:=by omega
  have G:∀ p ∈ n.2.2.2.1.getD k [],u.getD p.toNat 0=w.getD p.toNat 0:=fun p a=>b p (ho.up pre k l d p (by rw [aB];exact a))
  have H:Wb n u k=Wb n w k:=Znb _ _ G
  have M:Z7 n u k=Z7 n w k:=by rw [Z7,Z7,H]
  have W:=hw.ok k (by rw [hw.len];exact f)
  obtain ⟨q,A⟩:∃ q:Nat,w.getD k 0=(q:Int):=⟨(w.getD k 0).toNat,by omega⟩
  have D:q<(Z7 n w k).length:=by rw [hf.rowT_len hw f];omega
  have B:0≤s.2 - s.1:=by rw [dM] at o;exact o
  have I:∀ y ∈ Z7 n w k,0≤Zq y:=fun y F=>(hf.ent f y (Zas F)).1
  rw [Xm,aB,A,aB] at r t m
  obtain ⟨p1,p2,X⟩:=Zpo hf hw f o (Zeu (by rw [Su];exact D))
  obtain ⟨Q,Y,J⟩:=Zbx hf ho hw l _ E p2
  have C:Vj (Vq x) (Xv (s.2 - s.1) (Z7 n w k) s.1) 0 (-1)=(q:Int):=by
   have:=Zoj (c:=Vq x) (Xv (s.2 - s.1) (Z7 n w k) s.1) 0 (-1) q (by rw [Su];exact D) (S3.2 ⟨bR Q r,Std.lt_of_lt_of_le m J,bR t J⟩) fun i R O=>?_
   ·rw [this,cG]
   ·rw [Bool.eq_false_iff]
    intro g
    have K:=Zpp B (Z7 n w k) s.1 q i I R (by rwa [Su] at O)
    have:=(S3.1 g).1
    exact absurd (Std.lt_of_lt_of_le m (bR J K)) (bQ.2 this)
  have S:=Zwi hw l (pre++[(k:Int)]) (u.set k q) _ (by rw [d,bB];rfl) (j.set (v:=k) (by omega)) (fun p a=>?_) p2 r m t
  ·obtain ⟨u',T,U,V⟩:=S
   refine ⟨u',?_,U,V⟩
   rw [Vi,Xm,aB,M]
   simp only [C]
   rw [if_neg (by omega),aB,A,aB]
   exact T
  ·rcases aY.1 a with a | a
   ·rw [Us u 0 k _ _ (by rw [j.len];exact f)]
    split
    ·rename_i e;rw [e,A]
    ·exact b p a
   ·rw [bD] at a
    rw [a,aB,Us u 0 k _ _ (by rw [j.len];exact f),if_pos rfl,A]
/-! each number has its part -/
omit hf ho in
theorem Zzn {long:Rat} (x:Rat):∀ (t:List QV) (a:Rat),a≤x→x<a+long * Y1 t→∃ j,j<t.length∧((Xv long t a).getD j (0,0)).1≤x∧x<((Xv long t a).getD j (0,0)).2
 | [],a,c,b=>by
  have e:a+long * Y1 []=a:=by rw [Y1,cX,kB];grind
  rw [e] at b
  exact absurd c (fE.2 b)
 | y :: t,a,c,b=>by
  have e:a+long * Y1 (y :: t)=a+long * Zq y+long * Y1 t:=by
   rw [Y1,bX,dU,← Y1,Rat.mul_add,kC]
  rw [e] at b
  by_cases h:x<a+long * Zq y
  ·exact ⟨0,by simp,by rw [Xv,dP];exact ⟨c,h⟩⟩
  ·obtain ⟨j,d,f⟩:=Zzn x t _ (bQ.1 h) b
   exact ⟨j+1,by simpa using d,by rw [Xv,cM];exact f⟩
theorem Zvy {x:Rat}:∀ (l pre u:List Int) (s:Rat×Rat),ord=pre++l→Xr n u→s.1≤x→x<s.2→∃ w,Xr n w∧(∀ p ∈ pre,w.getD p.toNat 0=u.getD p.toNat 0)∧(Xm n w l s).1≤x∧x<(Xm n w l s).2
 | [],pre,u,s,b,a,g,j=>⟨u,a,fun _ _=>rfl,g,j⟩
 | v :: l,pre,u,s,b,a,g,j=>by
  have r:=ho.rg v (by rw [b];simp)
  rw [hf.ev.p] at r
  obtain ⟨k,rfl⟩:∃ k:Nat,v=(k:Int):=⟨v.toNat,by omega⟩
  have d:k<n.2.1.length:=by omega
  have e:s.1+(s.2 - s.1) * Y1 (Z7 n u k)=s.2:=by rw [Z1z hf a d];grind
  obtain ⟨q,q1,D,E⟩:=Zzn (long:=s.2 - s.1) x (Z7 n u k) s.1 g (by rw [e];exact j)
  have H:q<cnt n k:=by rwa [hf.rowT_len a d] at q1
  have m:=a.set (v:=k) (k:=(q:Int)) (by omega)
  obtain ⟨w,F,t,G⟩:=Zvy l (pre++[(k:Int)]) (u.set k q) _ (by rw [b,bB];rfl) m D E
  have y:w.getD k 0=(q:Int):=by
   have:=t (k:Int) (by simp)
   rw [aB,Us u 0 k _ _ (by rw [a.len];exact d),if_pos rfl] at this
   exact this
  have A:(k:Int) ∉ pre:=fun h=>by
   have B:=ho.nd
   rw [b,cN] at B
   exact B.2.2 _ h _ aK rfl
  have f:∀ p ∈ pre,w.getD p.toNat 0=u.getD p.toNat 0:=fun p c=>by
   have:=t p (List.mem_append_left _ c)
   rw [Us u 0 k _ _ (by rw [a.len];exact d),if_neg (fun h=>A (by
    have I:=ho.rg p (by rw [b];simp [c])
    have:p=(k:Int):=by omega
    rwa [this] at c))] at this
   exact this
  have C:Z7 n w k=Z7 n u k:=by
   have o:Wb n w k=Wb n u k:=Znb _ _ fun p c=>f p (ho.up pre k l b p (by rw [aB];exact c))
   rw [Z7,Z7,o]
  refine ⟨w,F,f,?_⟩
  rw [Xm,aB,C,y,aB]
  exact G
theorem Zvz {x:Rat} (h1:0≤x) (h2:x<1):∃ w,Xr n w∧(Xm n w ord (0,1)).1≤x∧x<(Xm n w ord (0,1)).2:=by
 obtain ⟨w,a,_,b⟩:=Zvy hf ho ord [] (aC n.2.1.length 0) (0,1) rfl (Xr.zero hf.ev) h1 h2
 exact ⟨w,a,b⟩
variable (hall:∀ i,i<n.2.1.length→(i:Int) ∈ ord)
include hall
theorem Zrj {x:Rat×Rat} {w:List Int} (hw:Xr n w) (h1:(Xm n w ord (0,1)).1≤x.1) (h3:x.1<(Xm n w ord (0,1)).2) (h2:x.2≤(Xm n w ord (0,1)).2):Vi n (fun P=>Vj (Vq x) P 0 (-1)) ord (aC n.2.1.length 0) (0,1)=some (w,Xm n w ord (0,1)):=by
 obtain ⟨u,c,a,d⟩:=Zwi hf ho hw ord [] (aC n.2.1.length 0) (0,1) rfl (Xr.zero hf.ev) (by simp) (show (0:Rat)≤1 by decide) h1 h3 h2
 have:u=w:=by
  refine jD (by rw [a.len,hw.len]) fun i b e=>?_
  have:=d (i:Int) (hall i (by rw [← a.len];exact b))
  rwa [aB,Yj b,Yj e] at this
 rw [c,this]
theorem Z1s {x:Rat} {w u:List Int} (hw:Xr n w) (hu:Xr n u) (w1:(Xm n w ord (0,1)).1≤x) (w2:x<(Xm n w ord (0,1)).2) (u1:(Xm n u ord (0,1)).1≤x) (u2:x<(Xm n u ord (0,1)).2):w=u:=by
 have a:=Zrj hf ho hall (x:=(x,x)) hw w1 w2 (dS w2)
 have b:=Zrj hf ho hall (x:=(x,x)) hu u1 u2 (dS u2)
 rw [a,Option.some.injEq,Prod.mk.injEq] at b
 exact b.1
end
theorem Z6v:Wk prog 3 1 8:=⟨Tryz.t3,_,rfl,rfl,rfl,rfl,rfl⟩
def Zer (a:List Int):Option R2:=
  Z1 ((([]:List Int).length+a.length) * 8≤140737488355328∧([]:List Int).length+a.length≤maxLen) (some (([]:List Int)++a))
theorem Zq6 {f:Nat} {e:Option Addr} {col:Zg} {d:World} {c r:R2} (i:Nat) (a:Zer c=some r) (b:Sl rI col d e f c):
    Calls prog 28 #[.slice e c.length f] d (Vl .i64 3 i col d r):=by
 refine Xk 2 (m:=8) func28 O O O O O ?_;rw [Zer.eq_1] at a;have g:=St.start col d;refine go ?_;replace b:=b.k0;rcases Zso b with h | h
 ·replace a:some ([]:List Int)=some r:=by have b:=h.2;subst b;simpa [Z1,maxLen] using a
  refine lv (v:=.bool e.isNone) O O (Zke underlying28 O)<|.ld (d:=4) (v:=.bool true) (congrArg Value.bool h.1)<|Zj<|Ye O<|go ?_;cases a;exact ⟨O,_,none,0,O,g.fin (cm []),Zb.nil⟩
 refine lv (v:=.bool e.isNone) O O (Zke underlying28 O)<|.ld (d:=4) (v:=.bool false) (congrArg Value.bool h)<|Zj<|Yd O<|go ?_;refine Zr2 (col:=(Zk col)) (r:=rI) 1 O underlying28 Z6v O fun _ _ _ j l=>Wg O ?_;obtain ⟨k,a⟩:=Z5 a;refine Vw l (b.gr j).srcC k fun _ _ _ _ m n=>go ?_;cases a;replace g:=(g.grow j).kpp m;exact ⟨O,_,_,_,O,g.fin (cm [(1,i)]),g.fo n⟩
def Zc1:List Int→Int→Option Rb
  | [],a=>some (a,0)
  | b :: c,a=>Z1 (a≠0) (if (decide ((i64.wrap (aM 2147483647 a))<b))=true then (some (0,4)) else ((Zc1 c) (i64.wrap (a * b))))
def Zmo (kk_L1:(Bool→Option Rb)) (a:Bool):Option Rb:=
  kk_L1 a
def Zbq (a:List Int):List Int→Bool→Option Rb
  | [],b=>if b=true then (some (0,0)) else (Zc1 a 1)
  | c :: d,b=>if (decide (c<0))=true then (some (0,3)) else (if b=true then (Zmo (Zbq a d) true) else (Zmo (Zbq a d) (decide (c=0))))
def Zj3 (a:List Int):Option Rb:=
  Zbq a a false
theorem Zve {l:Nat} {o:Option Addr} {col:Zg} {f:World} {b:R2} {r:Rb} (a:Zj3 b=some r) (g:Sl rI col f o l b):
    Calls prog 60 #[.slice o b.length l] f (fun e w'=>e= .returned (.tuple #[.int .i64 r.1,.int .i64 r.2])∧Below f.heap.size f w'):=by
 refine Zde 2 3 (m:=40) (args:=[.slice o b.length l]) func60 O O O O O ?_;rw [Zj3.eq_1] at a;have d:=St.start col f;refine go ?_;refine Z0 [0,10,11,1000000] (fun u m D=>∃ F w y s,u=s.length∧b.drop w=s∧Zbq b s y=some r∧St f (Zk col) F D∧[12,4].map m=[.int .i64 w,.bool y]) b.length ⟨_,0,_,_,O,O,a,d,O⟩ ?_;clear a;intro u m D A;obtain ⟨F,w,y,s,p,i,a,d,k⟩:=A;subst p;refine .lL [12,4] k ?_;replace g:=g.k0
 cases s with
 | nil=>
  have h:¬ ((w:Int)<(b.length:Int)):=by have:=aF.1 i;omega
  have c:=decide_eq_false h;rw [Zbq.eq_1] at a;refine go ?_;refine Yd (congrArg Value.bool c)<|go ?_;refine Zp a (fun j a=>go ?_) fun j a=>go ?_
  ·cases a;exact ⟨O,O,d.below⟩
  refine Z0 [25,26,1000000] (fun u m E=>∃ G t v q,u=q.length∧b.drop t=q∧Zc1 q v=some r∧St f (Zk col) G E∧[27,7].map m=[.int .i64 t,.int .i64 v]) b.length ⟨_,0,1,_,O,O,a,d,O⟩ ?_;clear a;intro u m E A;obtain ⟨G,t,v,q,p,i,a,d,k⟩:=A;subst p;refine .lL [27,7] k ?_
  cases q with
  | nil=>
   have h:¬ ((t:Int)<(b.length:Int)):=by have:=aF.1 i;omega
   have c:=decide_eq_false h;rw [Zc1.eq_1] at a;refine go ?_;refine Yd (congrArg Value.bool c)<|go ?_;cases a;exact ⟨O,O,d.below⟩
  | cons R L=>
   obtain ⟨n,N,P⟩:=Yo i;have h:(t:Int)<(b.length:Int):=by omega
   have c:=decide_eq_true h;rw [Zc1.eq_2] at a;refine go ?_;refine Ye (congrArg Value.bool c)<|go ?_;refine lI n ((g.ks d).addr n)<|lW ((g.ks d).atInt n) ?_;refine go ?_;obtain ⟨J,a⟩:=Z5 a;refine lV (.int .i64 (i64.wrap (aM 2147483647 v))) (Vm 2147483647 v O O J)<|go ?_;refine Zp a (fun j a=>go ?_) fun j a=>go ?_
   ·cases a;exact ⟨O,O,d.below⟩
   exact ⟨L.length,by simp,O,⟨_,_,_,_,O,N,a,d,(Yv (congrArg (Value.int .i64) (Yp (aG P (g.ks d).1.1))) O)⟩⟩
 | cons Q H=>
  obtain ⟨n,K,M⟩:=Yo i;have h:(w:Int)<(b.length:Int):=by omega
  have c:=decide_eq_true h;rw [Zbq.eq_2] at a;refine go ?_;refine Ye (congrArg Value.bool c)<|X1<|Zw ?_;refine Wp.cutK [0,10,11,12,1000000] (fun m B=>∃ C x,Zmo (Zbq b H) x=some r∧St f (Zk col) C B∧[4].map m=[.bool x]) ?_ ?_
  ·intro m B I;obtain ⟨C,x,a,d,k⟩:=I;rw [Zmo.eq_1] at a;refine .lL [4] k<|go ?_;exact ⟨H.length,by simp,O,⟨_,_,_,_,O,K,a,d,(Yv (congrArg (Value.int .i64) (Yp (aG M (g.ks d).1.1))) O)⟩⟩
  refine go ?_;refine lI n ((g.ks d).addr n)<|lW ((g.ks d).atInt n) ?_;refine go ?_;refine Zp a (fun j a=>go ?_) fun j a=>go ?_
  ·cases a;exact ⟨O,O,d.below⟩
  refine X9 a (fun z a=>go ?_) fun z a=>go ?_
  ·refine lV (.bool true) (Xw (congrArg Value.bool z) O)<|go ?_;exact ⟨O,_,_,a,d,O⟩
  refine lV (.bool (decide (Q=0))) (X0 (congrArg Value.bool z) O)<|go ?_;exact ⟨O,_,_,a,d,O⟩
def Zeo (N:Nat) (b:List Int):Nat→Int→Option Rg
  | 0,_=>none
  | c+1,a=>if (decide (0≤a))=true then ((Zn b a).bind fun d=>((Zeo N b c) (i64.wrap (a - 1))).bind fun e=>some ((a,d) :: e)) else (some [])
def Zo8 (N:Nat) (a:List Int):Option Rg:=
  Zeo N a N (i64.wrap ((a.length:Int) - 1))
theorem Z5d (N:Nat) (col:Zg) (l:World) (i:Nat) (f:Option Addr) (a:Nat) (b:List Int) (e:Sl rI col l f a b) (d:Zi 28 450 col l i #[.slice f b.length a]) (r:List Rb) (c:Zo8 N b=some r):
    Zg9 prog 1 153 [.pointer (some ⟨i,0,none⟩)] (fun (y:Int×Int) (col:Zg) (w:World) (args:List Value)=>args=[.int .i64 y.1,.int .i64 y.2]) r col l:=by
 intro C G _ _ _ z h;refine Zk1 (m:=19) (args:=[.func (.yield C) #[] #[],.pointer (some ⟨i,0,none⟩)]) func153 O O O O ?_;rw [Zo8.eq_1] at c;refine go ?_;refine lW d.at1<|go ?_;refine Z0 [0,1,1000000] (fun A B m=>∃ n r o k,k=A∧Zeo N b k o=some r∧G r n m∧Sl rI n m f a b∧Zi 28 450 n m i #[.slice f b.length a]∧[3].map B=[.int .i64 o]) N ⟨_,_,_,_,O,c,h,e,d,O⟩ ?_;clear c;intro A B m E;obtain ⟨n,r,o,k,v,c,h,e,d,x⟩:=E;subst v;refine .lL [3] x ?_
 cases k with
 | zero=>rw [Zeo.eq_1] at c;cases c
 | succ k=>
  rw [Zeo.eq_2] at c;refine go ?_;refine Zp c (fun s c=>go ?_) fun s c=>go ?_
  ·refine lM (.func (.yield C) #[] #[])<|Xy O<|lW d.at1<|Xy O ?_;obtain ⟨F,p,c⟩:=bZ c;refine lI p (e.addr p)<|lW (e.atInt p) ?_;obtain ⟨_,g,D⟩:=bZ c;cases D;have c:=g;refine ly2 O O O O (z _ _ _ _ [.int .i64 o,.int .i64 F] h O) ?_;rintro _ t ⟨u,j,⟨rfl,q⟩ | ⟨rfl,hX⟩⟩
   ·refine ⟨_,O,?_⟩;have h:=q;refine go ?_;refine Yd O<|go ?_;replace e:=e.kpp j;replace d:=d.kpp j;exact ⟨k,by omega,O,⟨_,_,_,_,O,c,h,e,d,O⟩⟩
   refine ⟨_,O,?_⟩;have h:=hX;refine go ?_;refine Ye O<|Y5 ?_;exact ⟨O,⟨_,O⟩,_,.inr h⟩
  cases c;exact ⟨O,⟨_,O⟩,_,.inl h⟩
def Zo7 (N:Nat) (a:List Int):Option Rg:=
  Zo8 N a
theorem Z5c {N c:Nat} {i:Option Addr} {col:Zg} {h:World} {a:R2} {r:Rg} (m:Zo7 N a=some r) (p:Sl rI col h i c a):
    Calls prog 115 #[.slice i a.length c] h (fun e w'=>∃ (col':Zg) (d:Value),e= .returned (d)∧Zl col h col' w'∧It prog 1 d (fun (y:Int×Int) (col:Zg) (w:World) (args:List Value)=>args=[.int .i64 y.1,.int .i64 y.2]) r q0 col' w'):=by
 refine Xk 2 (m:=4) func115 O O O O O ?_;rw [Zo7.eq_1] at m;have j:=St.start col h;refine go ?_;refine Zdn (col:=(Zk col)) (v:=(.slice i a.length c)) 1 O O ?_;intro l t s u n;replace n:Zi 28 1 s t l #[.slice i a.length c]:=n;refine lv (v:=_) O O (Uf O)<|go ?_;refine lV (.func (.func 153) #[] #[.pointer (some ⟨l,0,none⟩)]) (Zpx O)<|lA (.func (.func 153) #[] #[.pointer (some ⟨l,0,none⟩)])<|go ?_;replace j:=j.grow u;have v:=j.finBox (G:=(fun g=>bif aH g 1 then 450 else 0)) n (by decide) (by decide) (show (fun g=>bif aH g 1 then 450 else 0) 1=450 from O);have k:=j.finSl (g:=(fun g=>bif aH g 1 then 450 else 0)) O (p.k0.ks j);refine ⟨O,Uc h.heap.size col s (fun g=>bif aH g 1 then 450 else 0),_,O,j.fin (fun g=>bif aH g 1 then 450 else 0),153,[.pointer (some ⟨l,0,none⟩)],O,call153,?_⟩;intro b o q f;exact Z5d N b o l i c a (k.itk q f O) (v.itk q f O) r m
def Zen:List Rb→Int→R2→Option R2
  | [],c,b=>some b
  | a :: d,c,b=>Z1 (a.2≠0) ((Zn b a.1).bind fun f=>(some (b.set (aA a.1) (aS c a.2))).bind fun e=>Z1 (a.2≠0) ((Zen d) (i64.wrap (aM c a.2)) e))
def Zmp (N:Nat) (a:List Int) (b:Int):Option R2:=
  if (decide ((a.length:Int)=0))=true then (some ([]:List Int)) else (Z1 (a.length * 8≤281474976710656∧a.length≤maxLen) ((Zo7 N a).bind fun c=>Zen c b (aC a.length (0:Int))))
theorem Z5b {N L:Nat} {G:Option Addr} {col:Zg} {l:World} {k:R2} {t:Int} {r:R2} (z:Nat) (b:Zmp N k t=some r) (M:Sl rI col l G L k):
    Calls prog 64 #[.slice G k.length L,.int .i64 t] l (Vl .i64 3 z col l r):=by
 refine Z5q 4 (mc:=499) (m:=28) (args:=[.slice G k.length L,.int .i64 t]) func64 O O O O O ?_;rw [Zmp.eq_1] at b;have d:=St.start col l;have a:Yq 499 (Zk col) l []:=.nil;refine go ?_;refine Zdn (col:=(Zk col)) (v:=(.int .i64 t)) 1 O O ?_;intro Z m V T g;replace g:Zi 3 1 V m Z #[.int .i64 t]:=g;refine go ?_;replace a:=a.gr T;replace d:=d.grow T;refine Zp b (fun e b=>go ?_) fun e b=>go ?_
 ·cases b;refine ⟨_,[],O,a,?_⟩;intro _ s y;replace d:=d.kp s y;exact ⟨Uc l.heap.size col V (fun A=>0),none,0,O,d.fin (fun A=>0),Zb.nil⟩
 obtain ⟨U,b⟩:=Z5 b;refine T6 (col:=V) (w:=m) (r:=rI) (n:=k.length) (x0:=0) 2 O underlying28 Tryz.t3 O O O O O O O U.1 U.2 (Tx .i64 0) fun X _ m W F=>Za5 (col:=m) (v:=(nI)) 3 O zeroValue28 ?_;intro S B V R T;replace T:Zi 28 3 V B S #[(nI)]:=T;refine Ur (v:=(.slice X ((aC k.length (0:Int)).length) k.length)) T sizeOf28 O O (Rv O O) O O ?_;intro D P I f;replace f:Zi 28 3 V D S #[.slice X ((aC k.length (0:Int)).length) k.length]:=f;refine go ?_;obtain ⟨K,E,b⟩:=bZ b;replace d:=((d.grow W).grow R).kp P I;refine Zh (Z5c E (M.k0.ks d)) ?_;rintro _ aw ⟨ak,ax,rfl,C,al⟩;refine ⟨_,O,go ?_⟩;replace g:=(((g.gr W).gr R).kp P).gr C;replace a:=(((a.gr W).gr R).kp P).gr C;replace f:=f.gr C;replace d:=d.grow C;refine Znk (psl:=[16,17]) (arr:=(fun (Q:Int×Int) (col:Zg) (e:World) (j:List Value)=>j=[.int .i64 Q.1,.int .i64 Q.2])) (ys:=K) (col:=ak) 498 O al O a O O (by rintro _ _ _ _ rfl;rfl) (fun s h x=>∃ (i:Int) (w:Option Addr) (v:Nat) (u:List Int),Zen s i u=some r∧St l (Zk col) h x∧Zi 3 1 h x Z #[.int .i64 i]∧Zb rI 3 2 h x w v u∧Zi 28 3 h x S #[.slice w u.length v]) (fun _ _ _=>False) ?_ ?_ ⟨t,X,k.length,(aC k.length (0:Int)),b,d,g,((F.gr R).kp P).gr C,f⟩ ?_ ?_ ?_
 ·intro s h x _ _ H y;obtain ⟨i,w,v,u,b,d,g,p,f⟩:=H;exact ⟨i,w,v,u,b,d.kpp y O O,g.kpp y O,p.kpp y O O,f.kpp y O⟩
 ·intro _ _ _ _ _ Y _;exact Y
 ·intro _ _ _ o _ h x j H c a q;obtain ⟨i,w,v,u,b,d,g,p,f⟩:=H;rw [Zen.eq_2] at b;have n:=Zu.refl (pC 1) h x;subst q;refine go ?_;refine ⟨_,c,?_⟩;intro _ _ E W m;have c:=m;refine go ?_;refine Ym (col:=h) [(0,0),(1,1),(2,0),(3,1),(4,1),(5,1),(6,2)] (by kernel_rfl) (by kernel_rfl) ?_;replace f:=f.kp E;refine xW (fun _ e=>f.at1.gr (e.bl h)) ?_;refine xu O O (fun _=>Wu O) ?_;replace g:=g.kp E;refine xW (fun _ e=>g.at1.gr (e.bl h)) ?_;refine xu O O (fun _=>Wu O) ?_;obtain ⟨G,b⟩:=Z5 b;refine xu (v:=(.int .i64 (aS i o.2))) O O (fun _=>Tv i o.2 O O G) ?_;obtain ⟨_,M,b⟩:=bZ b;replace p:=p.kp E;refine xu O O (fun _=>Wd underlying28 sizeOf3 O O (Xo M).1 (Xo M).2.1 (p.addr M)) ?_;refine xe O O ?_;intro _ F;have e:=F.bl h;obtain ⟨Q,K,b⟩:=bZ b;have K:Q=u.set (aA o.1) (aS i o.2):=(Option.some.inj K).symm;replace p:=p.gr e;refine Wc (x1:=aS i o.2) p M ?_;intro q D P R;rw [← K] at R;replace f:=(f.gr e).kp D;replace f:Zi 28 3 h q S #[.slice w Q.length v]:=by rw [← (show u.length=Q.length by rw [K,nS])];exact f
  refine Zj<|xk h<|Yf ?_;replace a:=((a.kp E).gr e).kp D;replace n:=((n.kp E W O).gr e).kp D P O;replace d:=((d.kp E W).grow e).kp D P;replace g:=(g.gr e).kp D;replace c:=(c.gr e).kp D;intro _ e;replace e:=e.bl h;refine Wv ?_;replace g:=g.gr e;refine lW g.at1<|Xy O ?_;obtain ⟨F,b⟩:=Z5 b;refine lV (.int .i64 (i64.wrap (aM i o.2))) (Vm i o.2 O O F)<|Ur (v:=(.int .i64 (i64.wrap (aM i o.2)))) g sizeOf3 O O (Rv O O) O O ?_;intro j B I U;replace U:Zi 3 1 h j Z #[.int .i64 (i64.wrap (aM i o.2))]:=U;refine Zj ?_;replace f:=(f.gr e).kp B;replace a:=(a.gr e).kp B;replace d:=(d.grow e).kp B I;exact ⟨_,(n.gr e).kp B I O,⟨(i64.wrap (aM i o.2)),w,v,Q,b,d,U,(R.gr e).kp B,f⟩,(c.gr e).kp B,a⟩
 ·intro J h x H a;obtain ⟨i,w,v,u,b,d,g,p,f⟩:=H;rw [Zen.eq_1] at b;refine go ?_;refine lW f.at1<|go ?_;cases b;refine ⟨_,(J :: []),O,a,?_⟩;intro _ J a;replace d:=d.kp J a;exact ⟨Uc l.heap.size col h (fun A=>bif aH A 2 then z else 0),w,v,O,d.fin (fun A=>bif aH A 2 then z else 0),d.finOwn (g:=(fun A=>bif aH A 2 then z else 0)) O (p.kp J) (by decide) (by decide) O⟩
 intro _ _ _ _ Y;exact Y.elim
def Zem (N:Nat) (b:Int) (c:List Int):Nat→Int→Option (List R5)
  | 0,_=>none
  | d+1,a=>if (decide (a<b))=true then ((Zmp N c a).bind fun e=>((Zem N b c d) (i64.wrap (a+1))).bind fun f=>some ((a,e) :: f)) else (some [])
def Zo6 (N:Nat) (a:Int) (b:List Int):Option (List R5):=
  Zem N a b N 0
theorem Z5a (N k:Nat) (col:Zg) (n:World) (q:Nat) (j:Int) (c:Zi 3 450 col n q #[.int .i64 j]) (p:Nat) (h:Option Addr) (e:Nat) (d:List Int) (b:Zb rI 3 450 col n h e d) (a:Zi 28 450 col n p #[.slice h d.length e]) (r:List R5) (f:Zo6 N j d=some r):
    Zg9 prog 1 63 [.pointer (some ⟨q,0,none⟩),.pointer (some ⟨p,0,none⟩)] (fun (y:Int×List Int) (col:Zg) (w:World) (args:List Value)=>∃ x I,args=[.int .i64 y.1,.slice x y.2.length I]∧Zb rI 3 k col w x I y.2) r col n:=by
 intro P U _ l _ H i;refine Zk1 (m:=17) (args:=[.func (.yield P) #[] #[],.pointer (some ⟨q,0,none⟩),.pointer (some ⟨p,0,none⟩)]) func63 O O O O ?_;rw [Zo6.eq_1] at f;refine go ?_;refine lW c.at1<|go ?_;refine Z0 [0,2,5,1000000] (fun J K t=>∃ m r z u,u=J∧Zem N j d u z=some r∧U r m t∧Zb rI 3 450 m t h e d∧Zi 28 450 m t p #[.slice h d.length e]∧Zi 3 450 m t q #[.int .i64 j]∧[6].map K=[.int .i64 z]) N ⟨_,_,0,_,O,f,i,b,a,c,O⟩ ?_;clear f;intro J K t S;obtain ⟨m,r,z,u,E,f,i,b,a,c,D⟩:=S;subst E;refine .lL [6] D ?_
 cases u with
 | zero=>rw [Zem.eq_1] at f;cases f
 | succ u=>
  rw [Zem.eq_2] at f;refine go ?_;refine Zp f (fun C f=>go ?_) fun C f=>go ?_
  ·refine lM (.func (.yield P) #[] #[])<|Xy O<|lW a.at1<|Xy O ?_;obtain ⟨V,R,f⟩:=bZ f;refine Zh (Z5b 501 R (b.toSlF (Ze.int .i64))) fun _ _ ⟨T,L,M,A,s,v⟩=>⟨_,A,?_⟩;replace v:=v.thaw (Zt .i64) s ((Fz.refl (col:=m)).froz 450);replace s:=s.thawR (col:=m);generalize Z2 t.heap.size m T=W at *;replace b:=b.gr s;replace a:=a.gr s;replace c:=c.gr s;replace i:=l _ _ _ _ _ i s.toP;replace b:=b.recol 501 k (by decide);replace v:=v.recolSelf k (by decide);replace a:=a.recol 501 k (by decide);replace c:=c.recol 501 k (by decide);replace i:=l _ _ _ _ _ i ((Zu.refl _ _ _).recol 501 k O);obtain ⟨_,g,Q⟩:=bZ f;cases Q;have f:=g;refine ly2 O O O O (H _ _ _ _ [.int .i64 z,.slice L V.length M] i ⟨L,M,O,v⟩) ?_;rintro _ F ⟨G,o,⟨rfl,B⟩ | ⟨rfl,hX⟩⟩
   ·refine ⟨_,O,?_⟩;have i:=B;refine go ?_;refine Yd O<|go ?_;replace b:=b.kpp o;replace a:=a.kpp o;replace c:=c.kpp o;exact ⟨u,by omega,O,⟨_,_,_,_,O,f,i,b,a,c,O⟩⟩
   refine ⟨_,O,?_⟩;have i:=hX;refine go ?_;refine Ye O<|Y5 ?_;exact ⟨O,⟨_,O⟩,_,.inr i⟩
  cases f;exact ⟨O,⟨_,O⟩,_,.inl i⟩
def Zmn (N:Nat) (b:List Int):Option (List R5):=
  (Zer b).bind fun a=>(Zj3 a).bind fun c=>Zo6 N c.1 a
theorem Z49 {N K:Nat} {q:Option Addr} {col:Zg} {g:World} {l:R2} {r:(List R5)} (u:Nat) (c:Zmn N l=some r) (I:Sl rI col g q K l):
    Calls prog 26 #[.slice q l.length K] g (fun e w'=>∃ (col':Zg) (f:Value),e= .returned (f)∧Zl col g col' w'∧It prog 1 f (fun (y:Int×List Int) (col:Zg) (w:World) (args:List Value)=>∃ p J,args=[.int .i64 y.1,.slice p y.2.length J]∧Zb rI 3 u col w p J y.2) r q1 col' w'):=by
 refine Xk 2 (m:=14) func26 O O O O O ?_;rw [Zmn.eq_1] at c;have i:=St.start col g;refine go ?_;refine lv (v:=_) O O (Uf O)<|go ?_;obtain ⟨G,T,c⟩:=bZ c;refine Zh (Zq6 1 T (I.k0.ks i)) fun _ _ ⟨U,E,F,n,a,k⟩=>⟨_,n,?_⟩;refine Za5 (col:=U) (v:=(nI)) 2 O zeroValue28 ?_;intro m R s M v;replace v:Zi 28 2 s R m #[(nI)]:=v;refine Ur (v:=(.slice E G.length F)) v sizeOf28 O O (Rv O O) O O ?_;intro S L Y t;replace t:Zi 28 2 s S m #[.slice E G.length F]:=t;refine go ?_;refine lW t.at1 ?_;obtain ⟨h,V,c⟩:=bZ c;replace k:=(k.gr M).kp L;refine Zh (Zve V (k.toSlF (Ze.int .i64))) fun _ _ ⟨n,o⟩=>⟨_,n,?_⟩;replace o:=Ru s o;refine lM (.tuple #[.int .i64 h.1,.int .i64 h.2])<|lV (.int .i64 h.1) (Xl O O)<|lV (.int .i64 h.2) (Xl O O)<|Za5 (col:=s) (v:=(.int .i64 0)) 3 O zeroValue3 ?_;intro j P D C x;replace x:Zi 3 3 D P j #[.int .i64 0]:=x;refine Ur (v:=(.int .i64 h.1)) x sizeOf3 O O (Rv O O) O O ?_;intro Q B W A;replace A:Zi 3 3 D Q j #[.int .i64 h.1]:=A;refine go ?_;refine lV (.func (.func 63) #[] #[.pointer (some ⟨j,0,none⟩),.pointer (some ⟨m,0,none⟩)]) (Zs8 O O)<|lA (.func (.func 63) #[] #[.pointer (some ⟨j,0,none⟩),.pointer (some ⟨m,0,none⟩)])<|go ?_;replace i:=(((((i.grow a).grow M).kp L Y).grow o).grow C).kp B W;have f:=i.finBox (G:=(fun a=>bif aH a 3 then 450 else bif aH a 2 then 450 else bif aH a 1 then 450 else 0)) A (by decide) (by decide) (show (fun a=>bif aH a 3 then 450 else bif aH a 2 then 450 else bif aH a 1 then 450 else 0) 3=450 from O);have Z:=i.finBox (G:=(fun a=>bif aH a 3 then 450 else bif aH a 2 then 450 else bif aH a 1 then 450 else 0)) (((t.gr o).gr C).kp B) (by decide) (by decide) (show (fun a=>bif aH a 3 then 450 else bif aH a 2 then 450 else bif aH a 1 then 450 else 0) 2=450 from O);replace k:=((k.gr o).gr C).kp B
 have X:=i.finOwn (g:=(fun a=>bif aH a 3 then 450 else bif aH a 2 then 450 else bif aH a 1 then 450 else 0)) O k (by decide) (by decide) (show (fun a=>bif aH a 3 then 450 else bif aH a 2 then 450 else bif aH a 1 then 450 else 0) 1=450 from O);refine ⟨O,Uc g.heap.size col D (fun a=>bif aH a 3 then 450 else bif aH a 2 then 450 else bif aH a 1 then 450 else 0),_,O,i.fin (fun a=>bif aH a 3 then 450 else bif aH a 2 then 450 else bif aH a 1 then 450 else 0),63,[.pointer (some ⟨j,0,none⟩),.pointer (some ⟨m,0,none⟩)],O,call63,?_⟩;intro d H z b;exact Z5a N u d H j h.1 (f.itk z b O) m E F G (X.itk z b O (Zt .i64)) (Z.itk z b O) r c
def X2:List Nat→Nat
 | []=>1
 | s :: ss=>s * X2 ss
def W6:List Nat→Nat→List Int
 | [],_=>[]
 | s :: ss,a=>((a / X2 ss:Nat):Int) :: W6 ss (a % X2 ss)
def Qd:List Nat→List Int→Nat
 | s :: ss,d :: w=>d.toNat * X2 ss+Qd ss w
 | _,_=>0
theorem Zpr:∀ ss:List Nat,(∀ s ∈ ss,0<s)→0<X2 ss
 | [],_=>by rw [X2];decide
 | s :: ss,h=>Nat.mul_pos (h s aK) (Zpr ss fun x a=>h x (aE _ a))
def Zc8:List Nat→List Int→Prop
 | [],[]=>True
 | s :: ss,d :: w=>(0≤d∧d<(s:Int))∧Zc8 ss w
 | _,_=>False
theorem Zob:∀ (ss:List Nat) (a:Nat),(∀ s ∈ ss,0<s)→a<X2 ss→Zc8 ss (W6 ss a)
 | [],_,_,_=>trivial
 | s :: ss,a,h,c=>by
  have d:=Zpr ss fun x b=>h x (aE _ b)
  rw [X2] at c
  refine ⟨⟨cY _,eL.2 ((cZ d).2 c)⟩,Zob ss _ (fun x b=>h x (aE _ b)) (Nat.mod_lt _ d)⟩
theorem Zsw:∀ (ss:List Nat) (a:Nat),(∀ s ∈ ss,0<s)→a<X2 ss→Qd ss (W6 ss a)=a
 | [],a,_,c=>by rw [X2] at c;rw [W6,Qd];omega;intro s ss d w h;cases h
 | s :: ss,a,h,c=>by
  have e:=Zpr ss fun x b=>h x (aE _ b)
  rw [W6,Qd,aB,Zsw ss _ (fun x b=>h x (aE _ b)) (Nat.mod_lt _ e),bP]
  exact Nat.div_add_mod a (X2 ss)
theorem Zsx:∀ (ss:List Nat) (w:List Int),Zc8 ss w→Qd ss w<X2 ss
 | [],[],_=>by rw [Qd,X2];decide;intro s ss d w h;cases h
 | s :: ss,d :: w,h=>by
  have c:=Zsx ss w h.2
  have a:d.toNat+1≤s:=by have:=h.1;omega
  have b:=aX (X2 ss) a
  rw [bI,bO] at b
  rw [Qd,X2];omega
theorem Zwp:∀ (ss:List Nat) (w:List Int),Zc8 ss w→W6 ss (Qd ss w)=w
 | [],[],_=>rfl
 | s :: ss,d :: w,h=>by
  have a:=Zsx ss w h.2
  have b:0<X2 ss:=by omega
  have c:(d.toNat * X2 ss+Qd ss w) / X2 ss=d.toNat:=by
   rw [bP,Nat.mul_add_div b,Nat.div_eq_of_lt a,bV]
  have e:(d.toNat * X2 ss+Qd ss w) % X2 ss=Qd ss w:=by
   rw [bP,Nat.mul_add_mod,dR a]
  rw [Qd,W6,c,e,Zwp ss w h.2]
  have:=h.1
  congr 1;omega
/-! the program -/
def Vt (ss:List Nat):List Int:=ss.map fun s:Nat=>(s:Int)
theorem Zre {l:List Int} (h:l.length≤1099511627776):Zer l=some l:=by
 rw [Zer,Xh (by simp only [nN,maxLen];omega),cB]
theorem Z1i:∀ (ss:List Nat) (c:Nat),0<c→(∀ s ∈ ss,0<s)→c * X2 ss≤65536→Zc1 (Vt ss) (c:Int)=some (((c * X2 ss:Nat):Int),0)
 | [],c,_,_,_=>by rw [Vt,cX,Zc1.eq_1,X2,Nat.mul_one]
 | s :: ss,c,d,a,f=>by
  have g:=Zpr ss fun x b=>a x (aE _ b)
  have i:=a s aK
  rw [X2,← Nat.mul_assoc] at f ⊢
  have k:c * s≤c * s * X2 ss:=dG _ g
  have e:aM 2147483647 (c:Int)=((2147483647 / c:Nat):Int):=rfl
  have l:s≤2147483647 / c:=by
   rw [Nat.le_div_iff_mul_le d,bP];omega
  have m:2147483647 / c≤2147483647:=bY _ _
  have j:(c:Int) * (s:Int)=((c * s:Nat):Int):=(bH c s).symm
  rw [Vt,bX,Zc1.eq_2,Xh (by omega),e,Zy (x:=((2147483647 / c:Nat):Int)) (by omega),if_neg (dF (by omega)),j,Zy (by omega)]
  exact Z1i ss (c * s) (Nat.mul_pos d i) (fun x b=>a x (aE _ b)) f
theorem Z1h (p:List Int):∀ (ss:List Nat),(∀ s ∈ ss,0<s)→Zbq p (Vt ss) false=Zc1 p 1
 | [],_=>by rw [Vt,cX,Zbq.eq_1,if_neg (by decide)]
 | s :: ss,a=>by
  have c:=a s aK
  rw [Vt,bX,Zbq.eq_2,if_neg (dF (by omega)),if_neg (by decide),Zmo,decide_eq_false (by omega)]
  exact Z1h p ss fun x b=>a x (aE _ b)
theorem Z1j {ss:List Nat} (hs:∀ s ∈ ss,0<s) (hb:X2 ss≤65536):Zj3 (Vt ss)=some ((X2 ss:Int),0):=by
 have:=Z1i ss 1 (by decide) hs (by rw [bO];exact hb)
 rw [Zj3,Z1h _ ss hs,show (1:Int)=((1:Nat):Int) from rfl,this,bO]
def Zhf (ss:List Nat):Nat→List Rb
 | 0=>[]
 | k+1=>((k:Int),((ss.getD k 0:Nat):Int)) :: Zhf ss k
theorem Xay {ss:List Nat} {k:Nat} (h:k<ss.length):Zn (Vt ss) (k:Int)=some ((ss.getD k 0:Nat):Int):=by
 rw [Zha,Vt,List.getElem?_map,aO h,aD,aO h];rfl
theorem Z1g (N:Nat) (ss:List Nat) (hl:ss.length≤1099511627776):∀ (f k:Nat),k≤ss.length→k<f→Zeo N (Vt ss) f ((k:Int) - 1)=some (Zhf ss k)
 | 0,k,_,h=>by omega
 | f+1,0,a,b=>by rw [Zeo.eq_2,if_neg (by decide)];rfl
 | f+1,k+1,a,b=>by
  rw [Zeo.eq_2,show ((k+1:Nat):Int) - 1=(k:Int) by omega,if_pos (dT (by omega)),Xay (by omega),oB,Zy (by omega),Z1g N ss hl f k (by omega) (by omega),oB,Zhf]
theorem Z1k (ss:List Nat) (hs:∀ s ∈ ss,0<s) (a:Nat) (ha:a<4611686018427387904):∀ k,k≤ss.length→Zen (Zhf ss k) ((a / X2 (ss.drop k):Nat):Int) (aC k 0++W6 (ss.drop k) (a % X2 (ss.drop k)))=some (W6 ss (a % X2 ss))
 | 0,_=>by rw [Zhf,Zen.eq_1,bF];rfl
 | k+1,l=>by
  have b:k<ss.length:=by omega
  have c:ss.drop k=ss.getD k 0 :: ss.drop (k+1):=by
   rw [aP b,aD,aO b];rfl
  have d:=Z1k ss hs a ha k (by omega)
  have m:0<ss.getD k 0:=by
   rw [aD,aO b]
   exact hs _ (aJ b)
  rw [c,X2,W6,Nat.mod_mul_left_mod,bP,Nat.mod_mul_right_div_self,← Nat.div_div_eq_div_mul] at d
  have j:=bY a (X2 (ss.drop (k+1)))
  generalize a / X2 (ss.drop (k+1))=q at *
  generalize W6 (ss.drop (k+1)) (a % X2 (ss.drop (k+1)))=D at *
  have e:aS (q:Int) ((ss.getD k 0:Nat):Int)=((q % ss.getD k 0:Nat):Int):=rfl
  have f:aM (q:Int) ((ss.getD k 0:Nat):Int)=((q / ss.getD k 0:Nat):Int):=rfl
  have n:q / ss.getD k 0≤q:=bY _ _
  have g:(aC (k+1) (0:Int)++D).set k ((q % ss.getD k 0:Nat):Int)=aC k 0++((q % ss.getD k 0:Nat):Int) :: D:=by
   rw [List.replicate_succ',bB,List.set_append_right (i:=k) _ (by rw [aT];exact aV _),aT,Nat.sub_self];rfl
  generalize q / ss.getD k 0=z at *
  rw [Zhf,Zen.eq_2,Xh (by simp only;omega)]
  dsimp only
  rw [Xd (by rw [nA,aT];omega),oB,e,f,aB,g,oB,Xh (by omega),Zy (by omega)]
  exact d
theorem Z6h {N:Nat} {ss:List Nat} (hs:∀ s ∈ ss,0<s) (hl:ss.length≤1048576) (hN:1048577<N) {a:Nat} (ha:a<X2 ss) (hb:X2 ss≤65536):Zmp N (Vt ss) (a:Int)=some (W6 ss a):=by
 have b:(Vt ss).length=ss.length:=by rw [Vt,bE]
 rw [Zmp,b]
 by_cases h0:ss.length=0
 ·have:ss=[]:=List.eq_nil_of_length_eq_zero h0
  rw [if_pos (dT (by omega)),this,W6]
 ·have c:=Z1g N ss (by omega) N ss.length (aV _) (by omega)
  have d:=Z1k ss hs a (by omega) ss.length (aV _)
  rw [List.drop_length,X2,Nat.div_one,W6,dA,dR ha] at d
  rw [if_neg (dF (by omega)),Xh (by simp only [maxLen];omega),Zo7,Zo8,b,Zy (by omega),c,oB]
  exact d
def Zhs (ss:List Nat):Nat→Nat→List R5
 | _,0=>[]
 | k,m+1=>((k:Int),W6 ss k) :: Zhs ss (k+1) m
theorem Z0e {N:Nat} {ss:List Nat} (hs:∀ s ∈ ss,0<s) (hl:ss.length≤1048576) (hN:1048577<N) (hb:X2 ss≤65536):∀ (m k f:Nat),k+m=X2 ss→m<f→Zem N (X2 ss:Int) (Vt ss) f (k:Int)=some (Zhs ss k m)
 | m,k,0,_,h=>by omega
 | 0,k,f+1,a,b=>by rw [Zem.eq_2,if_neg (dF (by omega))];rfl
 | m+1,k,f+1,a,b=>by
  rw [Zem.eq_2,if_pos (dT (by omega)),Z6h hs hl hN (by omega) hb,oB,wS (by omega),Z0e hs hl hN hb m (k+1) f (by omega) (by omega),oB,Zhs]
theorem Z94 {N:Nat} {ss:List Nat} (hs:∀ s ∈ ss,0<s) (hl:ss.length≤1048576) (hN:1048577<N) (hb:X2 ss≤65536):Zmn N (Vt ss)=some (Zhs ss 0 (X2 ss)):=by
 have a:(Vt ss).length=ss.length:=by rw [Vt,bE]
 rw [Zmn,Zre (by omega),oB,Z1j hs hb,oB,Zo6]
 exact Z0e hs hl hN hb (X2 ss) 0 N (by omega) (by omega)
theorem Zvn {N W:Nat} {n:Z4} (hf:Y7 N n) (hs:Ww n W) (hr:Z8 N (8 * W+40)) (hN:2000000<N):Ue N n=some 0:=by
 obtain ⟨l,b,k,m,o,q⟩:=hf.or
 have c:=hf.ev.v;have r:=hf.ev.p;have a:=hf.ev.t;have j:=hf.le
 have d:Zfv (n.1,n.2.1,n.2.2.1,n.2.2.2.1,n.2.2.2.2)=some (Ss n.2.1 n.2.2.1 n.2.1.length 0):=Zy2 n c
 have e:Zal N n.2.2.2.1=some 0:=by rw [Zal,b];rfl
 have f:=Zsk (N:=N) hs hf.ev n.2.2.2.2 0 (by simp) (by omega)
 have g:=Zsh (N:=N) (n:=n) (W:=W) (hr.mono (by omega)) n.2.2.2.2 (fun t h=>⟨hs.tl t h,hs.tq t h,hs.lim t h⟩)
 have i:=Zsl (N:=N) hs hf.ev hf.sh hr (by omega) n.2.2.2.2 0 (by simp) (by omega)
 rw [Ue,if_neg (by rw [decide_eq_true (by omega)];decide),if_neg (by rw [decide_eq_true (by omega)];decide),show (!decide ((n.2.2.2.2.length:Int)=(n.2.1.length:Int)))=false by rw [decide_eq_true (by omega)];rfl,Zcf,if_neg (show ¬ (false=true) by decide),if_neg (dF (by omega)),
  d,oB,hf.nm,if_neg (by decide),e,oB,if_neg (by decide),f,a,if_pos hf.sh,g,hf.en,if_neg (by decide),i,a,hf.su]
def Zd1:List R4→R2→Option R2
  | [],a=>some a
  | b :: c,a=>Z1 ((a.length+[(b.length:Int)].length) * 8≤140737488355328∧a.length+[(b.length:Int)].length≤maxLen) ((Zd1 c) (a++[(b.length:Int)]))
def Zlv (a:R1):Option R2:=
  Zd1 a.2.2.1 ([]:List Int)
theorem Z4b {t u v w:Nat} {x y E B:Option Addr} {col:Zg} {d:World} {a:R1} {r:R2} (m:Nat) (b:Zlv a=some r) (Q:Sl Zc.str col d x t a.2.1) (c:Sl rV col d y u a.2.2.1) (R:Sl rP col d E v a.2.2.2.1) (S:Sl (Zc.slice rQ) col d B w a.2.2.2.2):
    Calls prog 59 #[(.agg (Rt a x t y u E v B w))] d (Vl .i64 3 m col d r):=by
 refine Xk 2 (m:=20) func59 O O O O O ?_;rw [Zlv.eq_1] at b;have f:=St.start col d;refine go ?_;refine Xj (col:=(Zk col)) 1 O fun _ _ _ M G=>go ?_;refine Xp G ?_;refine go ?_;replace f:=f.grow M;refine Z0 [7,8,1000000] (fun C D n=>∃ l p q j i h,C=h.length∧a.2.2.1.drop i=h∧Zd1 h j=some r∧St d (Zk col) l n∧Zb rI 3 2 l n p q j∧[9,3].map D=[.int .i64 i,.slice p j.length q]) a.2.2.1.length ⟨_,none,0,_,0,_,O,O,b,f,Zb.nil,O⟩ ?_;clear b;intro C D n I;obtain ⟨l,p,q,j,i,h,s,k,b,f,F,z⟩:=I;subst s;refine .lL [9,3] z ?_;replace c:=c.k0
 cases h with
 | nil=>
  have g:¬ ((i:Int)<(a.2.2.1.length:Int)):=by have:=aF.1 k;omega
  have e:=decide_eq_false g;rw [Zd1.eq_1] at b;refine go ?_;refine Yd (congrArg Value.bool e)<|go ?_;cases b;exact ⟨O,_,_,_,O,f.fin (cm [(2,m)]),f.fo F⟩
 | cons T U=>
  obtain ⟨o,V,W⟩:=Yo k;have g:(i:Int)<(a.2.2.1.length:Int):=by omega
  have e:=decide_eq_true g;rw [Zd1.eq_2] at b;refine go ?_;refine Ye (congrArg Value.bool e)<|go ?_;refine lI o ((c.ks f).addr o) ?_;obtain ⟨_,K,L⟩:=(c.ks f).atN o;obtain ⟨⟨_,_,rfl,_⟩,_⟩:=K;refine lW L.one<|go ?_;refine Vn (col:=l) [(T.length:Int)] 3 ?_;intro _ _ _ A J;obtain ⟨N,b⟩:=Z5 b;refine Vw (F.gr A) (J.srcN (NB.int (k:=.i64))) N fun _ _ _ _ H P=>go ?_;replace f:=(f.grow A).kpp H;exact ⟨U.length,by simp,O,⟨_,_,_,_,_,_,O,V,b,f,P,(Yv (congrArg (Value.int .i64) (Yp (aG W (c.ks f).1.1))) O)⟩⟩

end Go.Proofs.YtpkknichfgooaaaGreat
