/-
  What functions of the program compute, as plain Lean functions (m_..), and proofs that they compute it (c_..). Printed by a program of the author; no conditions.
-/
import Derived.Test.YtkhnlgdenkikoaaGreatTopStepBFloat
import Derived.Test.YtkhnlgdenkikoaaGreatProg
import Derived.Test.YtkhnlgdenkikoaaGreatTopStepBBrief
import Derived.Test.YtkhnlgdenkikoaaGreatTopStepBThree
import Derived.Test.YtkhnlgdenkikoaaGreatTopStepF3
set_option linter.unusedVariables false
set_option maxRecDepth 100000
set_option maxHeartbeats 2000000
namespace Go.Proofs.YtkhnlgdenkikoaaGreat
open Go Go.RowKit
open List renaming mem_cons_self→aC,mem_cons_of_mem→aB,mem_cons→aO,take_add_one→fO,getElem?_eq_getElem→aL,nodup_append→dE,mem_singleton→bR,mem_iff_getElem→jR,getElem_take→fX,append_nil→eG,append_assoc→bO,nil_append→bN,drop_eq_nil_of_le→aK,drop_eq_getElem_cons→aJ,getElem_mem→aH,length_map→aN,length_singleton→aQ,map_append→eF,take_of_length_le→bF,length_pos_iff→cO,map_cons→aS,cons_append→bX,take_append_drop→dK,any_cons→eC,mem_map→cA,drop_zero→aP,length_drop→bP,drop_take→iQ,drop_drop→dR,mem_of_mem_take→dB,mem_of_mem_drop→dC,any_eq_false→fP,getElem_drop→iF,append_inj'→kJ,drop_eq_nil_iff→aG,mem_range→fK,getD_eq_getElem?_getD→aF,getElem_append_right→fU,set_append_right→gN,map_nil→bW,replicate→aM,not_mem_nil→bG,getElem?_map→cW,length_replicate→bI,length_take→cP,all_cons→dQ
open Option renaming toList_some→dX
open Nat renaming lt_or_ge→cJ,min_eq_right→dZ,min_eq_left→bD,div_le_self→cS,div_lt_iff_lt_mul→eH,add_mul→aV,one_mul→aX,le_mul_of_pos_right→dN,le_refl→bB,le_trans→aU,min_le_right→kO,mul_le_mul_right→bC,zero_le→bK,lt_of_lt_of_le→aE,zero_mul→dD,add_comm→eM,add_zero→bU,zero_add→cR,add_sub_cancel_left→gF,sub_self→hO,beq→aI,mul_comm→bY
open Int renaming toNat_natCast→aD,natCast_mul→bV,tdiv→aZ,tdiv_eq_ediv_of_nonneg→cD,natCast_ediv→iN,natCast_nonneg→fT,ofNat_lt→gS,natCast_add→eL,toNat→aA,tmod→bM
open Rat renaming not_lt→fC,lt_irrefl→dY
open Go.IntKind (i8 i16 i32 i64 u8 u16 u32 u64)
open Go.Proofs.Tryz

abbrev Zq:=ByteArray×List ByteArray×List R3×List R2×List (List QV)
instance decMemB:∀ (s:ByteArray) (l:List ByteArray),Decidable (s ∈ l)
 | _,[]=>isFalse (by simp)
 | s,x :: l=>if h:s=x then isTrue (by rw [h];exact aC) else match decMemB s l with
  | isTrue h2=>isTrue (aB _ h2)
  | isFalse h2=>isFalse (by rw [aO];rintro (h3 | h3) <;> contradiction)
theorem Z8u {α:Type} (l:List α) (k:Nat) (hk:k<l.length):(l.take (k+1)).Nodup↔(l.take k).Nodup∧l[k] ∉ l.take k:=by
 rw [fO,aL hk,dX,dE]
 constructor
 ·rintro ⟨c,_,f⟩
  exact ⟨c,fun g=>f _ g _ (by simp) rfl⟩
 ·rintro ⟨c,i⟩
  refine ⟨c,by simp,fun a j b d e=>?_⟩
  rw [bR] at d
  subst d;subst e
  exact i j
theorem Zv5 (N:Nat) (l:List ByteArray) (hl:l.length<4611686018427387904) (v:Nat) (hv:v<l.length):∀ (n k:Nat),k≤v→v<n+k→l[v] ∉ l.take k→∃ j:Nat,Zf3 N l l[v] n (k:Int)=some (j:Int)∧j≤v∧(j<v↔l[v] ∈ l.take v)
 | 0,k,b,e,_=>by omega
 | n+1,k,b,e,c=>by
  have d:k<l.length:=by omega
  rw [Zf3.eq_2,if_pos (dT (by omega)),Z0 d,oB]
  by_cases he:l[k]=l[v]
  ·rw [if_pos (dT he)]
   refine ⟨k,rfl,b,fun h=>?_,fun h=>?_⟩
   ·rw [← he]
    exact jR.2 ⟨k,by rw [nK];omega,by rw [fX]⟩
   ·rcases cJ k v with a | a
    ·exact a
    ·have:k=v:=by omega
     subst this;exact absurd h c
  ·have f:k<v:=by
    rcases cJ k v with a | a
    ·exact a
    ·have:k=v:=by omega
     subst this;exact absurd rfl he
   rw [if_neg (dF he),Zw (by omega)]
   have:=Zv5 N l hl v hv n (k+1) (by omega) (by omega) (by
    rw [fO,aL d,dX,List.mem_append,bR]
    rintro (h | h)
    ·exact c h
    ·exact he h.symm)
   exact this
theorem Zv6 {N:Nat} {l:List ByteArray} (hl:l.length<4611686018427387904) {v:Nat} (hv:v<l.length) (hN:l.length<N):∃ j:Nat,Zlj N l l[v]=some (j:Int)∧(j<v↔l[v] ∈ l.take v):=by
 obtain ⟨j,a,_,b⟩:=Zv5 N l hl v hv N 0 (by omega) (by omega) (by simp)
 exact ⟨j,a,b⟩
theorem Zwy (s:ByteArray):∀ (l:List ByteArray) (k:Nat),∃ j:Int,Zf8 s l k=some j∧(0≤j↔s ∈ l)
 | [],k=>⟨-1,rfl,by simp⟩
 | x :: l,k=>by
  rw [Zf8.eq_2]
  by_cases h:s=x
  ·rw [if_pos (dT h)];exact ⟨_,rfl,by simp [h]⟩
  ·rw [if_neg (dF h)]
   obtain ⟨j,a,b⟩:=Zwy s l (k+1)
   exact ⟨j,a,by rw [b,aO];simp [h]⟩
theorem Z6c (s:ByteArray) (l:List ByteArray):Zlo l s=some (decide (s ∈ l)):=by
 obtain ⟨j,a,b⟩:=Zwy s l 0
 rw [Zlo,Zn9,a,oB]
 congr 1
 exact decide_eq_decide.2 b
theorem Zx2:∀ (l:List ByteArray) (seen:List (ByteArray×Int)) (S:List ByteArray),S.Nodup→(∀ k,W0 seen k=if k ∈ S then some 1 else none)→Zdq l seen=some (!decide (S++l).Nodup)
 | [],seen,S,c,d=>by rw [Zdq.eq_1,eG,decide_eq_true c];rfl
 | x :: l,seen,S,c,d=>by
  rw [Zdq.eq_2,d x]
  by_cases hx:x ∈ S
  ·rw [if_pos hx,if_pos (by decide),decide_eq_false]
   ·rfl
   intro h
   exact (dE.1 h).2.2 x hx x aC rfl
  ·rw [if_neg hx,if_neg (by decide),oB,Zx2 l _ (S++[x]) (by
    rw [dE]
    refine ⟨c,by simp,fun a g b f e=>?_⟩
    rw [bR] at f;subst f;subst e;exact hx g) (fun k=>by
    rw [Zxv,d k]
    by_cases hk:k=x
    ·subst hk;rw [if_pos rfl,if_pos (by simp)]
    ·rw [if_neg hk]
     by_cases hs:k ∈ S
     ·rw [if_pos hs,if_pos (by simp [hs])]
     ·rw [if_neg hs,if_neg (by simp [hs,hk])])]
   rw [bO];rfl
theorem Z8m (l:List ByteArray):Zkv l=some (!decide l.Nodup):=by
 rw [Zkv,Zx2 l [] [] .nil (fun k=>by simp [W0]),bN]
def Se (names:List ByteArray) (vals:List R3):Nat→Nat→Int
 | 0,_=>0
 | m+1,v=>if names.getD v ⟨#[]⟩ ∈ names.take v∨¬ (vals.getD v []).Nodup then 40 else if vals.getD v []=[] then 43 else Se names vals m (v+1)
theorem Zx7 (n:Zq) (hl:n.2.2.1.length=n.2.1.length):∀ (l:List ByteArray) (k:Nat),n.2.1.drop k=l→k≤n.2.1.length→Zcb n l k=some (Se n.2.1 n.2.2.1 l.length k)
 | [],k,_,_=>rfl
 | x :: l,k,c,f=>by
  have a:k<n.2.1.length:=by
   rcases cJ k n.2.1.length with h | h
   ·exact h
   ·rw [aK h] at c;cases c
  have b:=aJ a
  rw [c] at b
  obtain ⟨e,d⟩:=List.cons.inj b
  rw [Zcb.eq_2,Xf (by omega),aD,Z6c,oB,nC,Se,Xn a,← e,Xn (by omega)]
  by_cases h1:x ∈ n.2.1.take k
  ·rw [if_pos (dT h1),Zh5,if_pos rfl,if_pos (.inl h1)]
  ·rw [if_neg (dF h1),Z0 (by omega),oB,Z8m,oB,Zh5]
   by_cases h2:(n.2.2.1[k]'(by omega)).Nodup
   ·rw [decide_eq_true h2,if_neg (by decide),if_neg (by simp [h1,h2]),Z0 (by omega),oB]
    by_cases h3:n.2.2.1[k]'(by omega)=[]
    ·rw [if_pos (by rw [h3];decide),if_pos h3]
    ·rw [if_neg (by simpa using h3),if_neg h3]
     exact Zx7 n hl l (k+1) d.symm (by omega)
   ·rw [decide_eq_false h2,if_pos (by decide),if_pos (.inr h2)]
theorem Zx8 (n:Zq) (hl:n.2.2.1.length=n.2.1.length):Ze9 n=some (Se n.2.1 n.2.2.1 n.2.1.length 0):=by
 rw [Ze9];exact Zx7 n hl n.2.1 0 (by simp) (by omega)
theorem Zsw (N:Nat) (n:Zq) (v:Nat) (hv:v<n.2.2.1.length) (hb:n.2.2.1[v].length≤1048576) (hN:1048577<N) (hvb:v<4611686018427387904) (kk:Int→Option Int) (A:Prop) [Decidable A]:∀ (m i:Nat) (a:Bool),i≤n.2.2.1[v].length→n.2.2.1[v].length<m+i→(a=true→A∨¬ (n.2.2.1[v]).Nodup)→(a=false→¬ A∧((n.2.2.1[v]).take i).Nodup)→
  Zcn N n (v:Int) kk m a (i:Int)=if A∨¬ (n.2.2.1[v]).Nodup then some 40 else if n.2.2.1[v]=[] then some 43 else kk ((v:Int)+1)
 | 0,i,a,o,p,_,_=>by omega
 | m+1,i,a,o,p,e,f=>by
  rw [Zcn.eq_2,Z0 hv,oB]
  by_cases hi:i<n.2.2.1[v].length
  ·rw [if_pos (dT (by omega))]
   cases a with
   | true=>
    rw [if_pos rfl,Zi3,Zw (by omega)]
    exact Zsw N n v hv hb hN hvb kk A m (i+1) true (by omega) (by omega) e (fun h=>by cases h)
   | false=>
    obtain ⟨j,q,g⟩:=Zv6 (N:=N) (l:=n.2.2.1[v]) (by omega) hi (by omega)
    have st:=Z8u n.2.2.1[v] i hi
    have c:=f rfl
    rw [if_neg (by decide),Z0 hi,oB,q,oB,Zi3,Zw (by omega)]
    have:=Zsw N n v hv hb hN hvb kk A m (i+1) (decide ((j:Int)<(i:Int))) (by omega) (by omega) (fun h=>.inr fun r=>by
     have d:=of_decide_eq_true h
     have b:=(r.sublist (List.take_sublist (i+1) _))
     exact (st.1 b).2 (g.1 (by omega))) (fun h=>⟨c.1,st.2 ⟨c.2,fun s=>by
     have d:=of_decide_eq_false h
     have:=g.2 s
     omega⟩⟩)
    exact this
  ·have k:i=n.2.2.1[v].length:=by omega
   rw [if_neg (dF (by omega))]
   cases a with
   | true=>rw [if_pos rfl,if_pos (e rfl)]
   | false=>
    obtain ⟨c,d⟩:=f rfl
    rw [k,List.take_length] at d
    have t:¬ (A∨¬ (n.2.2.1[v]).Nodup):=fun h=>h.elim c (fun h=>h d)
    rw [if_neg (by decide),if_neg t,Zw (by omega)]
    by_cases b:n.2.2.1[v]=[]
    ·rw [if_pos (by rw [b];decide),if_pos b]
    ·rw [if_neg (by simpa using b),if_neg b]
theorem Z0q (N:Nat) (n:Zq) (hl:n.2.2.1.length=n.2.1.length) (hn:n.2.1.length≤1048576) (hb:∀ l ∈ n.2.2.1,l.length≤1048576) (hN:1048577<N):∀ (m fuel v:Nat),m+v=n.2.1.length→m<fuel→
  Qn N n fuel (v:Int)=if Se n.2.1 n.2.2.1 m v=0 then Qn N n (fuel - m) (n.2.1.length:Int) else some (Se n.2.1 n.2.2.1 m v)
 | 0,fuel,v,c,_=>by
  have:v=n.2.1.length:=by omega
  rw [Se,if_pos rfl,this,Nat.sub_zero]
 | m+1,0,v,c,f=>by omega
 | m+1,fuel+1,v,c,f=>by
  have b:v<n.2.1.length:=by omega
  have a:v<n.2.2.1.length:=by omega
  obtain ⟨j,g,d⟩:=Zv6 (N:=N) (l:=n.2.1) (by omega) b (by omega)
  rw [Qn.eq_2,if_pos (dT (by omega)),Z0 b,oB,g,oB,Se,Xn b,Xn a,show (0:Int)=((0:Nat):Int) from rfl,
   Zsw N n v a (hb _ (aH a)) hN (by omega) (Qn N n fuel) (n.2.1[v] ∈ n.2.1.take v) N 0 _ (by omega) (by have:=hb _ (aH a);omega) (fun h=>.inl (d.1 (by have:=of_decide_eq_true h;omega))) (fun h=>⟨fun i=>by have:=of_decide_eq_false h;have:=d.2 i;omega,by simp⟩)]
  by_cases h3:n.2.1[v] ∈ n.2.1.take v∨¬ (n.2.2.1[v]).Nodup
  ·rw [if_pos h3,if_pos h3,if_neg (by decide)]
  ·rw [if_neg h3,if_neg h3]
   by_cases h4:n.2.2.1[v]=[]
   ·rw [if_pos h4,if_pos h4,if_neg (by decide)]
   ·rw [if_neg h4,if_neg h4]
    have e:=Z0q N n hl hn hb hN m fuel (v+1) (by omega) (by omega)
    rw [show ((v+1:Nat):Int)=(v:Int)+1 by omega] at e
    rw [e,show fuel+1 - (m+1)=fuel - m by omega]
    rfl
theorem Zx9 {names:List ByteArray} {vals:List R3}:∀ (m v:Nat),Se names vals m v=0→∀ i,v≤i→i<v+m→vals.getD i []≠[]∧(vals.getD i []).Nodup∧names.getD i ⟨#[]⟩ ∉ names.take i
 | 0,v,_,i,a,b=>by omega
 | m+1,v,h,i,a,b=>by
  rw [Se] at h
  by_cases h3:names.getD v ⟨#[]⟩ ∈ names.take v∨¬ (vals.getD v []).Nodup
  ·rw [if_pos h3] at h;cases h
  ·rw [if_neg h3] at h
   by_cases h4:vals.getD v []=[]
   ·rw [if_pos h4] at h;cases h
   ·rw [if_neg h4] at h
    rcases cJ v i with c | c
    ·exact Zx9 m (v+1) h i (by omega) (by omega)
    ·have:i=v:=by omega
     subst this
     exact ⟨h4,by simpa using (not_or.1 h3).2,(not_or.1 h3).1⟩
def Yo (vals:List R3):List Int→Nat→Nat
 | [],k=>k
 | p :: ps,k=>Yo vals ps (min (k * (vals.getD p.toNat []).length) 1099511627776)
theorem Zsy (vals:List R3):∀ (ps:List Int) (k:Nat),k≤1099511627776→Yo vals ps k≤1099511627776
 | [],k,h=>h
 | p :: ps,k,h=>Zsy vals ps _ (by omega)
theorem Zoe {a b:Nat} (h:a≤1099511627776) (g:b≤1048576):a * b≤1152921504606846976:=by
 have:=Nat.mul_le_mul h g
 simpa using this
theorem Zx1 (n:Zq) (hb:∀ l ∈ n.2.2.1,l.length≤1048576):∀ (ps:List Int) (k:Nat),k≤1099511627776→(∀ p ∈ ps,0≤p∧p<(n.2.2.1.length:Int))→Zfb n ps (k:Int)=some (Yo n.2.2.1 ps k:Int)
 | [],k,_,_=>rfl
 | p :: ps,k,c,b=>by
  have g:=b p aC
  have a:p.toNat<n.2.2.1.length:=by omega
  have d:=hb _ (aH a)
  have i:=Zoe c d
  rw [Zfb.eq_2,show p=((p.toNat:Nat):Int) by omega,Z0 a,oB,Yo,aD,Xn a,← bV,Zw (by omega)]
  have e:=Zx1 n hb ps (min (k * n.2.2.1[p.toNat].length) 1099511627776) (by omega) (fun q f=>b q (aB _ f))
  rw [← e]
  congr 1
  by_cases h5:1099511627776<k * n.2.2.1[p.toNat].length
  ·rw [if_pos (by omega),dZ (by omega)];rfl
  ·rw [if_neg (by omega),bD (by omega)]
theorem Z1p (N:Nat) (n:Zq) (hl:n.2.2.1.length≤1048576):∀ (m i:Nat) (out:List Int),i≤n.2.2.1.length→n.2.2.1.length<m+i→out=(n.2.2.1.take i).map (fun l=>(l.length:Int))→Zf5 N n m out (i:Int)=some (n.2.2.1.map fun l=>(l.length:Int))
 | 0,i,out,b,c,_=>by omega
 | m+1,i,out,b,c,a=>by
  rw [Zf5.eq_2]
  have d:out.length=i:=by rw [a,aN,nK];omega
  by_cases hi:i<n.2.2.1.length
  ·rw [if_pos (dT (by omega)),Z0 hi,oB,Xf (by simp only [aQ,maxLen];omega),Zw (by omega)]
   exact Z1p N n hl m (i+1) _ (by omega) (by omega) (by rw [a,fO,aL hi,dX,eF];rfl)
  ·rw [if_neg (dF (by omega)),a,bF (by omega)]
theorem Xap {N:Nat} {n:Zq} (hl:n.2.2.1.length≤1048576) (hN:1048576<N):Zf4 N n=some (n.2.2.1.map fun l=>(l.length:Int)):=by
 rw [Zf4]
 exact Z1p N n hl N 0 [] (by omega) (by omega) (by simp)
theorem Zpd {vals:List R3} {i:Nat} (h:i<vals.length):Zl (vals.map fun l=>(l.length:Int)) (i:Int)=some (vals[i].length:Int):=by
 rw [Z0 (by rw [aN];exact h),List.getElem_map]
theorem Zqh (N:Nat) (ps:List Int) (vals:List R3) (hb:∀ l ∈ vals,l.length≤1048576) (hne:∀ l ∈ vals,l≠[]) (hp:∀ p ∈ ps,0≤p∧p<(vals.length:Int)) (hps:ps.length≤1048576):∀ (m i k:Nat),i≤ps.length→ps.length<m+i→k≤1099511627776→
  Zcq N ps (vals.map fun l=>(l.length:Int)) m (k:Int) (i:Int)=some (Yo vals (ps.drop i) k:Int)
 | 0,i,k,c,d,_=>by omega
 | m+1,i,k,c,d,f=>by
  rw [Zcq.eq_2]
  by_cases hi:i<ps.length
  ·have n:=hp _ (aH hi)
   have a:(ps[i]).toNat<vals.length:=by omega
   have g:=hb _ (aH a)
   have j:0<vals[(ps[i]).toNat].length:=cO.2 (hne _ (aH a))
   have o:=Zoe f g
   rw [if_pos (dT (by omega)),Z0 hi,oB]
   conv=>lhs;rw [show ps[i]=(((ps[i]).toNat:Nat):Int) by omega]
   rw [Zpd a,oB,Xf (by omega),aJ hi,Yo,Xn a]
   have e:i64.wrap (aZ 1099511627776 (vals[(ps[i]).toNat].length:Int))=((1099511627776 / vals[(ps[i]).toNat].length:Nat):Int):=by
    rw [cD (by decide),show (1099511627776:Int)=((1099511627776:Nat):Int) from rfl,← iN]
    refine Zw ⟨by have:=fT (1099511627776 / vals[(ps[i]).toNat].length);omega,?_⟩
    have:=cS 1099511627776 vals[(ps[i]).toNat].length
    omega
   rw [e]
   have b:1099511627776 / vals[(ps[i]).toNat].length<k↔1099511627776<k * vals[(ps[i]).toNat].length:=eH j
   by_cases h9:1099511627776<k * vals[(ps[i]).toNat].length
   ·rw [if_pos (dT (gS.2 (b.2 h9))),Zi4,Zw (by omega),dZ (by omega)]
    exact Zqh N ps vals hb hne hp hps m (i+1) 1099511627776 (by omega) (by omega) (by omega)
   ·rw [if_neg (by rw [decide_eq_false (fun h=>h9 (b.1 (gS.1 h)))];decide),Zi4,← bV,Zw (by omega),Zw (by omega),bD (by omega)]
    exact Zqh N ps vals hb hne hp hps m (i+1) _ (by omega) (by omega) (by omega)
  ·rw [if_neg (dF (by omega)),aK (by omega),Yo]
theorem Zva (N:Nat) (ps:List Int) (vals:List R3) (hb:∀ l ∈ vals,l.length≤1048576) (hne:∀ l ∈ vals,l≠[]) (hp:∀ p ∈ ps,0≤p∧p<(vals.length:Int)) (hps:ps.length≤1048576) (hN:1048577<N):∀ (m i:Nat),i≤ps.length→ps.length<m+i→
  Zf2 N ps (vals.map fun l=>(l.length:Int)) m (i:Int)=some (Yo vals ps 1:Int)
 | 0,i,b,c=>by omega
 | m+1,i,b,c=>by
  rw [Zf2.eq_2]
  by_cases hi:i<ps.length
  ·have d:=hp _ (aH hi)
   have a:(ps[i]).toNat<vals.length:=by omega
   have e:0<vals[(ps[i]).toNat].length:=cO.2 (hne _ (aH a))
   rw [if_pos (dT (by omega)),Z0 hi,oB]
   conv=>lhs;rw [show ps[i]=(((ps[i]).toNat:Nat):Int) by omega]
   rw [Zpd a,oB,if_neg (dF (by omega)),Zw (by omega)]
   exact Zva N ps vals hb hne hp hps hN m (i+1) (by omega) (by omega)
  ·rw [if_neg (dF (by omega))]
   exact Zqh N ps vals hb hne hp hps N 0 1 (by omega) (by omega) (by omega)
theorem Z55 {N:Nat} {ps:List Int} {vals:List R3} (hb:∀ l ∈ vals,l.length≤1048576) (hne:∀ l ∈ vals,l≠[]) (hp:∀ p ∈ ps,0≤p∧p<(vals.length:Int)) (hps:ps.length≤1048576) (hN:1048577<N):Zli N ps (vals.map fun l=>(l.length:Int))=some (Yo vals ps 1:Int):=by
 rw [Zli]
 exact Zva N ps vals hb hne hp hps hN N 0 (by omega) (by omega)
theorem Z85 {r c:Nat} (hc:0<c):Zlk (r:Int) (c:Int)=some (decide (65536<r * c)):=by
 have e:i64.wrap (aZ 65536 (c:Int))=((65536 / c:Nat):Int):=by
  rw [cD (by decide),show (65536:Int)=((65536:Nat):Int) from rfl,← iN]
  refine Zw ⟨by have:=fT (65536 / c);omega,?_⟩
  have:=cS 65536 c
  omega
 rw [Zlk,if_pos (dT (by omega)),Xf (by omega),e,Zll]
 congr 1
 refine decide_eq_decide.2 ?_
 rw [gS]
 exact eH hc
def Ta (vals:List R3) (P:List R2) (T:List (List QV)):Nat→Nat→Int
 | 0,_=>0
 | m+1,v=>if 65536<Yo vals (P.getD v []) 1 * (vals.getD v []).length then 4 else if Yo vals (P.getD v []) 1 * (vals.getD v []).length≠(T.getD v []).length then 60 else Ta vals P T m (v+1)
structure Ww (n:Zq) (W:Nat):Prop where
 nm:n.2.1.length≤1048575
 vl:∀ l ∈ n.2.2.1,l.length≤1048576
 pn:Zjs n.2.2.2.1
 tl:∀ t ∈ n.2.2.2.2,t.length≤1048576
 tq:∀ t ∈ n.2.2.2.2,Xx t≤W
 lim:∀ t ∈ n.2.2.2.2,∀ x ∈ t,Vf x
structure V6 (n:Zq):Prop where
 v:n.2.2.1.length=n.2.1.length
 p:n.2.2.2.1.length=n.2.1.length
 t:n.2.2.2.2.length=n.2.1.length
 i:U6 n.2.2.2.1.length n.2.2.2.1=true
 ne:∀ l ∈ n.2.2.1,l≠[]
theorem V6.par {n:Zq} (h:V6 n) {ps:List Int} (hp:ps ∈ n.2.2.2.1):∀ p ∈ ps,0≤p∧p<(n.2.2.1.length:Int):=by
 have:=Zwz h.i ps hp
 rw [h.p] at this
 rw [h.v];exact this
theorem Zrm {N W:Nat} {n:Zq} (hs:Ww n W) (he:V6 n):∀ (l:List (List QV)) (k:Nat),n.2.2.2.2.drop k=l→k≤n.2.1.length→Zb8 N n l k=if Ta n.2.2.1 n.2.2.2.1 n.2.2.2.2 l.length k=0 then Zb9 N n n.2.2.2.2 else some (Ta n.2.2.1 n.2.2.2.1 n.2.2.2.2 l.length k)
 | [],k,_,_=>by rw [Zb8.eq_1];rfl
 | t :: l,k,d,o=>by
  have q:=he.t;have r:=he.v;have s:=he.p
  have b:k<n.2.2.2.2.length:=by
   rcases cJ k n.2.2.2.2.length with h | h
   ·exact h
   ·rw [aK h] at d;cases d
  have c:=aJ b
  rw [d] at c
  obtain ⟨i,g⟩:=List.cons.inj c
  have e:k<n.2.2.1.length:=by omega
  have kp:k<n.2.2.2.1.length:=by omega
  have j:=Zsy n.2.2.1 (n.2.2.2.1[k]) 1 (by omega)
  have m:=hs.vl _ (aH e)
  have u:=Zoe j m
  have f:Zh8 n (k:Int)=some (Yo n.2.2.1 n.2.2.2.1[k] 1:Int):=by
   rw [Zh8,Z0 kp,oB]
   exact Zx1 n hs.vl _ 1 (by omega) (he.par (aH kp))
  rw [Zb8.eq_2]
  have a:Zh8 (n.1,n.2.1,n.2.2.1,n.2.2.2.1,n.2.2.2.2) (k:Int)=some (Yo n.2.2.1 n.2.2.2.1[k] 1:Int):=f
  rw [a,oB,Z0 e,oB,← bV,Zw (by omega),nC,Ta,Xn kp,Xn e,Xn b,← i]
  generalize Yo n.2.2.1 n.2.2.2.1[k] 1 * n.2.2.1[k].length=rc at *
  by_cases h1:65536<rc
  ·rw [if_pos (dT (by omega)),if_pos h1,if_neg (by decide)]
  ·rw [if_neg (dF (by omega)),if_neg h1]
   by_cases h2:rc=t.length
   ·rw [if_neg (by rw [decide_eq_true (by omega)];decide),if_neg (show ¬ rc≠t.length from fun h=>h h2)]
    exact Zrm hs he l (k+1) g.symm (by omega)
   ·rw [if_pos (by rw [decide_eq_false (by omega)];decide),if_pos h2,if_neg (by decide)]
theorem Z05 {N W:Nat} {n:Zq} (hN:1048577<N) (hs:Ww n W) (he:V6 n):∀ (m fuel v:Nat),m+v=n.2.1.length→m<fuel→
  Zco N n (n.2.2.1.map fun l=>(l.length:Int)) fuel (v:Int)=if Ta n.2.2.1 n.2.2.2.1 n.2.2.2.2 m v=0 then Zbl N n (n.2.2.1.map fun l=>(l.length:Int)) N 0 else some (Ta n.2.2.1 n.2.2.2.1 n.2.2.2.2 m v)
 | 0,0,v,_,h=>by omega
 | 0,fuel+1,v,c,_=>by
  rw [Zco.eq_2,if_neg (dF (by omega))];rfl
 | m+1,0,v,_,h=>by omega
 | m+1,fuel+1,v,c,i=>by
  have j:=he.t;have k:=he.v;have o:=he.p;have g:=hs.nm
  have b:v<n.2.2.2.2.length:=by omega
  have a:v<n.2.2.1.length:=by omega
  have kp:v<n.2.2.2.1.length:=by omega
  have d:=Zsy n.2.2.1 (n.2.2.2.1[v]) 1 (by omega)
  have e:=hs.vl _ (aH a)
  have f:0<n.2.2.1[v].length:=cO.2 (he.ne _ (aH a))
  have q:=Zoe d e
  rw [Zco.eq_2,if_pos (dT (by omega)),Z0 kp,oB,Z55 hs.vl he.ne (he.par (aH kp)) (hs.pn.ls _ (aH kp)) hN,oB,Zpd a,oB,Z85 f,oB,Ta,Xn kp,Xn a,Xn b,← bV,Zw (by omega)]
  generalize Yo n.2.2.1 n.2.2.2.1[v] 1 * n.2.2.1[v].length=rc at *
  by_cases h3:65536<rc
  ·rw [if_pos (dT (by omega)),if_pos h3,if_neg (by decide)]
  ·rw [if_neg (dF (by omega)),if_neg h3,Z0 b,oB]
   by_cases h4:rc=n.2.2.2.2[v].length
   ·rw [if_neg (by rw [decide_eq_true (by omega)];decide),if_neg (show ¬ rc≠n.2.2.2.2[v].length from fun h=>h h4),Zw (by omega)]
    exact Z05 hN hs he m fuel (v+1) (by omega) (by omega)
   ·rw [if_pos (by rw [decide_eq_false (by omega)];decide),if_pos h4,if_neg (by decide)]
def V2 (x:QV):Bool:=decide (Zr x<0)||decide (1<Zr x)
theorem Zze {a b:Rat}:0<Sg a b↔b<a:=by
 rw [Sg]
 by_cases h:a<b
 ·rw [if_pos h]
  constructor
  ·intro c;omega
  ·intro c;exact absurd (Rat.le_of_lt c) (Rat.not_le.2 h)
 ·rw [if_neg h]
  by_cases c:b<a
  ·simp [c]
  ·simp [c]
theorem Zov {a b:Rat}:Sg a b=0↔a=b:=by
 rw [Sg]
 constructor
 ·intro h
  split at h
  ·cases h
  ·split at h
   ·cases h
   ·rename_i c d
    exact Rat.le_antisymm (fC.1 d) (fC.1 c)
 ·rintro rfl
  rw [if_neg dY,if_neg dY]
theorem Zod {N:Nat} (hr:Z5 N 8):Zfa N=some (Zp 1):=by
 rw [Zfa,Zqv (by omega) (by omega) (hr.mono (by omega)),oB,if_neg (by decide)]
 have:((1:Int):Rat) / ((1:Int):Rat)=1:=div_one _
 rw [this]
theorem Z0y {N:Nat} (hr:Z5 N 8):Zi5 N=some (Zp 1):=by
 rw [Zi5,Xar hr];rfl
theorem Zpa:RV 1 (Zp 1):=V5 (by rw [Zcu];omega)
theorem Z8l {N k:Nat} {x:QV} (hx:RV k x) (hr:Z5 N (2 * k+16)):Zh6 N x=some (V2 x):=by
 have c:Qf N ((x.1.1,x.1.2),x.2)=some (S1 (Zr x)):=Zj7 hx (hr.mono (by omega))
 rw [Zh6,c,oB,V2]
 by_cases h:Zr x<0
 ·rw [if_pos (dT (Zox.2 h)),Zh7,decide_eq_true h,Bool.true_or]
 ·rw [if_neg (dF (fun d=>h (Zox.1 d))),decide_eq_false h,Bool.false_or,Zod (hr.mono (by omega)),oB,Zv2 (a:=((x.1.1,x.1.2),x.2)) (b:=Zp 1) hx Zpa (hr.mono (by omega)),oB,Zh7,Wo]
  congr 1
  exact decide_eq_decide.2 Zze
theorem Xad {N k:Nat} {x:QV} (hx:RV k x) (hr:Z5 N (2 * k+16)):Zi6 N x=some (V2 x):=by
 have c:Ziw N ((x.1.1,x.1.2),x.2)=some (S1 (Zr x)):=Z99 hx (hr.mono (by omega))
 rw [Zi6,c,oB,V2]
 by_cases h:Zr x<0
 ·rw [if_pos (dT (Zox.2 h)),Zi7,decide_eq_true h,Bool.true_or]
 ·rw [if_neg (dF (fun d=>h (Zox.1 d))),decide_eq_false h,Bool.false_or,Z0y (hr.mono (by omega)),oB,Zo6 (a:=((x.1.1,x.1.2),x.2)) (b:=Zp 1) hx Zpa (hr.mono (by omega)),oB,Zi7,Wo]
  congr 1
  exact decide_eq_decide.2 Zze
def Wk (x:QV):QV:=if Zc x.2=0 then (x.1,[1]) else x
theorem Zv7 {x:QV} (h:Vf x):Vf (Wk x):=by
 rw [Wk];split
 ·exact ⟨h.1,.cons (by decide) .nil⟩
 ·exact h
theorem Zna (x:QV):Zr (Wk x)=Zr x:=by
 rw [Wk];split
 ·rename_i h
  rw [Zr,Zr]
  show mkRat (Zu x.1) (Yg [1])=mkRat (Zu x.1) (Yg x.2)
  rw [Yg,Yg,if_pos h]
  congr 1
 ·rfl
theorem Z7f (x:QV):V2 (Wk x)=V2 x:=by rw [V2,V2,Zna]
theorem Z7e (x:QV):max (Wk x).1.2.length (Wk x).2.length≤max x.1.2.length x.2.length+1:=by
 rw [Wk];split
 ·show max x.1.2.length [(1:Int)].length≤_
  simp only [aQ];omega
 ·omega
theorem Zse:∀ l:List QV,2 * l.length≤Xx l
 | []=>by simp [Xx]
 | a :: l=>by rw [Xx,nC];have:=Zse l;omega
theorem Zsb:∀ l:List QV,Xx (l.map Wk)≤Xx l+l.length
 | []=>by simp [Xx]
 | a :: l=>by
  rw [aS,Xx,Xx,nC]
  have:=Zsb l;have:=Z7e a;omega
theorem Zzf (a b:List QV):Xx (a++b)=Xx a+Xx b:=by
 induction a with
 | nil=>simp [Xx]
 | cons x a c=>rw [bX,Xx,Xx,c];omega
theorem Zzi (l:List QV) (k:Nat):Xx (l.take k)≤Xx l:=by
 have:=Zzf (l.take k) (l.drop k)
 rw [dK] at this;omega
theorem Zzg (l:List QV) (k:Nat):Xx (l.drop k)≤Xx l:=by
 have:=Zzf (l.take k) (l.drop k)
 rw [dK] at this;omega
theorem Zsd {l:List QV} {x:QV} (h:x ∈ l):max x.1.2.length x.2.length≤Xx l:=by
 induction l with
 | nil=>simp at h
 | cons y l a=>
  rw [Xx]
  rcases aO.1 h with rfl | h
  ·omega
  ·have:=a h;omega
theorem Zqs {N k:Nat} {x:QV} (h:Vf x) (hk:max x.1.2.length x.2.length≤k) (hr:Z5 N k):Zca N x=some (Wk x):=by
 obtain ⟨a,b⟩:=hr
 rw [Zca,Zrs h.2 (by omega) (by omega),oB,Wk]
 by_cases h0:Zc x.2=0
 ·rw [h0,Vi,if_pos (by decide),if_pos rfl,Zlw (by decide) (by omega),oB,Zh3,show (1:Int).toNat=1 from rfl,Qc]
 ·have:=Tv h0
  rw [if_neg (dF (by omega)),if_neg h0,Zh3]
theorem Zwc {N W:Nat} (hr:Z5 N W):∀ (l out:List QV),(∀ x ∈ l,Vf x)→Xx l≤W→out.length+l.length≤1048576→Zdp N l out=some (out++l.map Wk)
 | [],out,_,_,_=>by rw [Zdp.eq_1];simp
 | x :: l,out,b,c,a=>by
  rw [Xx] at c
  rw [nC] at a
  have d:Zca N ((x.1.1,x.1.2),x.2)=some (Wk x):=Zqs (x:=x) (b x aC) (k:=W) (by omega) hr
  rw [Zdp.eq_2,d,oB,Xf (by simp only [aQ,maxLen];omega),Zwc hr l _ (fun y e=>b y (aB _ e)) (by omega) (by simp only [nA,aQ];omega)]
  simp
theorem Zwd {N W:Nat} {l:List QV} (hr:Z5 N W) (hl:∀ x ∈ l,Vf x) (hq:Xx l≤W) (hlen:l.length≤1048576):Zh4 N l=some (l.map Wk):=by
 rw [Zh4,Xf (by simp only [maxLen];omega),Zwc hr l [] hl hq (by simpa using hlen),bN]
theorem Zwv {N W:Nat} (hr:Z5 N (2 * W+16)):∀ (l:List QV) (k:Nat),(∀ x ∈ l,Vf x)→Xx l≤W→∃ j:Int,Zf7 N l k=some j∧(0≤j↔l.any V2=true)
 | [],k,_,_=>⟨-1,rfl,by simp⟩
 | x :: l,k,b,d=>by
  rw [Xx] at d
  have c:=b x aC
  have a:Zh6 N ((x.1.1,x.1.2),x.2)=some (V2 x):=Z8l (x:=x) (Zed c.1 c.2) (hr.mono (by omega))
  rw [Zf7.eq_2,a,oB,eC]
  cases V2 x with
  | true=>rw [if_pos rfl];exact ⟨_,rfl,by simp⟩
  | false=>
   rw [if_neg (by decide)]
   obtain ⟨j,a,e⟩:=Zwv hr l (k+1) (fun y f=>b y (aB _ f)) (by omega)
   exact ⟨j,a,by rw [e];simp⟩
def Zbu (T:List (List QV)):Bool:=T.any fun t=>t.any V2
theorem Z3h (l:List QV):(l.map Wk).any V2=l.any V2:=by
 induction l with
 | nil=>rfl
 | cons x l a=>rw [aS,eC,eC,a,Z7f]
theorem Zrj {N W:Nat} {n:Zq} (hr:Z5 N (4 * W+16)):∀ l:List (List QV),(∀ t ∈ l,t.length≤1048576∧Xx t≤W∧∀ x ∈ t,Vf x)→Zb9 N n l=if Zbu l=true then some 45 else Zdo N n n.2.2.2.2 0
 | [],_=>by rw [Zb9.eq_1];rfl
 | t :: l,h=>by
  obtain ⟨d,e,c⟩:=h t aC
  have i:=Zse t
  have k:=Zsb t
  obtain ⟨j,f,a⟩:=Zwv (N:=N) (W:=2 * W) (hr.mono (by omega)) (t.map Wk) 0 (fun x b=>by
   obtain ⟨y,g,rfl⟩:=cA.1 b
   exact Zv7 (c y g)) (by omega)
  rw [Zb9.eq_2,Zwd (W:=W) (hr.mono (by omega)) c e d,oB,Zn7,Zn8,f,oB,oB,Zbu,eC]
  rw [Z3h] at a
  by_cases ho:t.any V2=true
  ·rw [if_pos (dT (a.2 ho)),ho,Bool.true_or,if_pos rfl]
  ·rw [if_neg (dF (fun h=>ho (a.1 h))),Bool.eq_false_iff.2 ho,Bool.false_or]
   exact Zrj hr l fun x b=>h x (aB _ b)
theorem Z0b {N W:Nat} {n:Zq} (sz:List Int) (hr:Z5 N (4 * W+16)) {v:Nat} (hv:v<n.2.2.2.2.length) (hvs:v<1048576) (h1:n.2.2.2.2[v].length≤1048576) (h2:Xx n.2.2.2.2[v]≤W) (h3:∀ x ∈ n.2.2.2.2[v],Vf x) (kk:Int→Option Int):∀ (m i:Nat),i≤n.2.2.2.2[v].length→n.2.2.2.2[v].length<m+i→
  Zf1 N n (v:Int) kk m (i:Int)=if ((n.2.2.2.2[v]).drop i).any V2=true then some 45 else kk ((v:Int)+1)
 | 0,i,b,c=>by omega
 | m+1,i,b,c=>by
  rw [Zf1.eq_2,Z0 hv,oB]
  by_cases hi:i<n.2.2.2.2[v].length
  ·have a:=h3 _ (aH hi)
   have d:=Zsd (aH hi)
   have e:Zi6 N (((n.2.2.2.2[v][i]).1.1,(n.2.2.2.2[v][i]).1.2),(n.2.2.2.2[v][i]).2)=some (V2 n.2.2.2.2[v][i]):=Xad (x:=n.2.2.2.2[v][i]) (Zed a.1 a.2) (hr.mono (by omega))
   rw [if_pos (dT (by omega)),Z0 hi,oB,e,oB,aJ hi,eC]
   cases V2 n.2.2.2.2[v][i] with
   | true=>rw [if_pos rfl,Bool.true_or,if_pos rfl]
   | false=>
    rw [if_neg (by decide),Bool.false_or,Zw (by omega)]
    exact Z0b sz hr hv hvs h1 h2 h3 kk m (i+1) (by omega) (by omega)
  ·rw [if_neg (dF (by omega)),aK (by omega),List.any_nil,if_neg (by decide),Zw (by omega)]
theorem Z0a {N W:Nat} {n:Zq} (sz:List Int) (hs:Ww n W) (he:n.2.2.2.2.length=n.2.1.length) (hr:Z5 N (4 * W+16)) (hN:1048577<N):∀ (m fuel v:Nat),m+v=n.2.1.length→m<fuel→
  Zbl N n sz fuel (v:Int)=if Zbu (n.2.2.2.2.drop v)=true then some 45 else Zcp N n sz N 0
 | 0,0,v,_,h=>by omega
 | 0,fuel+1,v,c,_=>by
  rw [Zbl.eq_2,if_neg (dF (by omega)),aK (by omega)];rfl
 | m+1,0,v,_,h=>by omega
 | m+1,fuel+1,v,c,e=>by
  have b:v<n.2.2.2.2.length:=by omega
  have d:=hs.nm
  have a:=aH b
  rw [Zbl.eq_2,if_pos (dT (by omega)),show (0:Int)=((0:Nat):Int) from rfl,Z0b sz hr b (by omega) (hs.tl _ a) (hs.tq _ a) (hs.lim _ a) _ N 0 (by omega) (by have:=hs.tl _ a;omega),aP,aJ b,Zbu,eC]
  cases n.2.2.2.2[v].any V2 with
  | true=>rw [if_pos rfl,Bool.true_or,if_pos rfl]
  | false=>
   rw [if_neg (by decide),Bool.false_or]
   exact Z0a sz hs he hr hN m fuel (v+1) (by omega) (by omega)
def Ul (c:Nat):Nat→List QV→Bool
 | 0,_=>true
 | m+1,l=>decide (Yn (l.take c)=1)&&Ul c m (l.drop c)
def Zj1 (c:Nat):Nat→List QV→List (List QV)
 | 0,_=>[]
 | m+1,l=>l.take c :: Zj1 c m (l.drop c)
theorem Zvb (N:Nat) (l:List QV) (c:Nat) (hc:0<c) (hl:l.length≤1048576) (hcs:c≤1048576):∀ (m fuel i:Nat),i+m * c=l.length→m<fuel→Zd7 N l (c:Int) fuel (i:Int)=some (Zj1 c m (l.drop i))
 | 0,0,i,_,h=>by omega
 | 0,fuel+1,i,a,_=>by
  rw [Zd7.eq_2,if_neg (dF (by omega))];rfl
 | m+1,0,i,_,h=>by omega
 | m+1,fuel+1,i,a,b=>by
  have d:i+c+m * c=l.length:=by rw [aV,aX] at a;omega
  have e:(if ((l.drop i).length:Int)<(c:Int) then ((l.drop i).length:Int) else (c:Int))=(c:Int):=by
   rw [bP]
   by_cases h:((l.length - i:Nat):Int)<(c:Int)
   ·omega
   ·rw [if_neg h]
  rw [Zd7.eq_2,if_pos (dT (by omega)),aD,e,Zw (by omega),Xf (by omega),Xf (by omega),show (i:Int)+(c:Int)=((i+c:Nat):Int) by omega,Zvb N l c hc hl hcs m fuel (i+c) (by omega) (by omega),oB,aD,Zj1,iQ,show i+c - i=c by omega,dR]
theorem Z9g (l:List QV):Yn (l.map Wk)=Yn l:=by
 rw [Yn,Yn,List.map_map]
 congr 1
 exact List.map_congr_left fun x _=>Zna x
theorem Zyi (c:Nat):∀ (m:Nat) (l:List QV),Ul c m (l.map Wk)=Ul c m l
 | 0,l=>rfl
 | m+1,l=>by rw [Ul,Ul,← List.map_take,← List.map_drop,Z9g,Zyi c m]
theorem Zx6 {N W:Nat} (hr:Z5 N (4 * W+40)) (c:Nat) (b:Bool):∀ (m:Nat) (l:List QV),(∀ x ∈ l,Vf x)→Xx l≤W→Zfc N (Zj1 c m l) b=some (Ul c m l)
 | 0,l,_,_=>rfl
 | m+1,l,e,j=>by
  have k:=Zzi l c
  have n:=Zzg l c
  obtain ⟨f,g⟩:=Znc (N:=N) (l:=l.take c) (fun x d=>e x (dB d)) (hr.mono (by omega))
  rw [Zj1,Zfc.eq_2,f,oB,Zod (hr.mono (by omega)),oB,Zv2 (a:=Zp _) (b:=Zp 1) (V5 g) Zpa (hr.mono (by omega)),oB,Wo,Wo,Ul]
  by_cases h:Yn (l.take c)=1
  ·rw [if_neg (by rw [Zov.2 h];decide),decide_eq_true h,Bool.true_and]
   exact Zx6 hr c b m _ (fun x d=>e x (dC d)) (by omega)
  ·rw [if_pos (by rw [decide_eq_false (fun i=>h (Zov.1 i))];decide),decide_eq_false h,Bool.false_and];rfl
theorem Z8n {N W c m:Nat} {l:List QV} (hr:Z5 N (4 * W+40)) (hl:∀ x ∈ l,Vf x) (hq:Xx l≤W) (hc:0<c) (hcs:c≤1048576) (hll:l.length≤1048576) (hm:m * c=l.length) (hN:1048577<N):Zkw N l (c:Int)=some (Ul c m l):=by
 have a:m≤l.length:=by rw [← hm];exact dN m hc
 rw [Zkw,Zn4,if_neg (dF (by omega)),Zn6,Zn5,show (0:Int)=((0:Nat):Int) from rfl,Zvb N l c hc hll hcs m N 0 (by omega) (by omega),oB,aP]
 exact Zx6 hr c false m l hl hq
theorem Z09 {N W c:Nat} {l:List QV} (hr:Z5 N (4 * W+40)) (hl:∀ x ∈ l,Vf x) (hq:Xx l≤W) (hc:0<c) (hcs:c≤1048576) (hll:l.length≤1048576) (hN:1048577<N):∀ (m fuel i:Nat),i+m * c=l.length→m<fuel→Zd3 N l (c:Int) fuel (i:Int)=some (Ul c m (l.drop i))
 | 0,0,i,_,h=>by omega
 | 0,fuel+1,i,e,_=>by
  rw [Zd3.eq_2,if_neg (dF (by omega))];rfl
 | m+1,0,i,_,h=>by omega
 | m+1,fuel+1,i,e,f=>by
  have n:i+c+m * c=l.length:=by rw [aV,aX] at e;omega
  have o:=Zzi (l.drop i) c
  have p:=Zzg l i
  have d:∀ x ∈ (l.drop i).take c,Vf x:=fun x g=>hl x (dC (dB g))
  obtain ⟨_,j⟩:=Znc (N:=N) (l:=(l.drop i).take c) d (hr.mono (by omega))
  have k:((l.drop i).take c).length≤1048576:=by rw [nK,bP];omega
  rw [Zd3.eq_2,if_pos (dT (by omega)),Zw (by omega),Xf (by omega),show (i:Int)+(c:Int)=((i+c:Nat):Int) by omega,aD,aD,iQ,show i+c - i=c by omega,Xaa d (by omega) (by omega) (hr.mono (by omega)),oB,Z0y (hr.mono (by omega)),oB,Zo6 (a:=Zp _) (b:=Zp 1) (V5 j) Zpa (hr.mono (by omega)),oB,Wo,Wo,Ul]
  by_cases h:Yn ((l.drop i).take c)=1
  ·rw [if_neg (by rw [Zov.2 h];decide),decide_eq_true h,Bool.true_and,dR]
   exact Z09 hr hl hq hc hcs hll hN m fuel (i+c) (by omega) (by omega)
  ·rw [if_pos (by rw [decide_eq_false (fun f=>h (Zov.1 f))];decide),decide_eq_false h,Bool.false_and]
def Zbs (vals:List R3) (P:List R2) (T:List (List QV)):Nat→Nat→Int
 | 0,_=>0
 | m+1,v=>if Ul (vals.getD v []).length (Yo vals (P.getD v []) 1) (T.getD v [])=true then Zbs vals P T m (v+1) else 46
theorem Zpb {vals:List R3} {P:List R2} {T:List (List QV)}:∀ (m v:Nat),Ta vals P T m v=0→∀ i,v≤i→i<v+m→Yo vals (P.getD i []) 1 * (vals.getD i []).length=(T.getD i []).length∧(T.getD i []).length≤65536
 | 0,v,_,i,a,b=>by omega
 | m+1,v,h,i,a,b=>by
  rw [Ta] at h
  by_cases h3:65536<Yo vals (P.getD v []) 1 * (vals.getD v []).length
  ·rw [if_pos h3] at h;cases h
  ·rw [if_neg h3] at h
   by_cases h4:Yo vals (P.getD v []) 1 * (vals.getD v []).length=(T.getD v []).length
   ·rw [if_neg (show ¬ Yo vals (P.getD v []) 1 * (vals.getD v []).length≠(T.getD v []).length from fun h=>h h4)] at h
    rcases cJ v i with c | c
    ·exact Zpb m (v+1) h i (by omega) (by omega)
    ·have:i=v:=by omega
     subst this
     exact ⟨h4,by omega⟩
   ·rw [if_pos h4] at h;cases h
theorem Zrn {N W:Nat} {n:Zq} (hs:Ww n W) (he:V6 n) (hsh:Ta n.2.2.1 n.2.2.2.1 n.2.2.2.2 n.2.1.length 0=0) (hr:Z5 N (8 * W+40)) (hN:1048577<N):∀ (l:List (List QV)) (k:Nat),n.2.2.2.2.drop k=l→k≤n.2.1.length→Zdo N n l k=some (Zbs n.2.2.1 n.2.2.2.1 n.2.2.2.2 l.length k)
 | [],k,_,_=>rfl
 | t :: l,k,f,w=>by
  have A:=he.t;have B:=he.v;have C:=he.p
  have a:k<n.2.2.2.2.length:=by
   rcases cJ k n.2.2.2.2.length with h | h
   ·exact h
   ·rw [aK h] at f;cases f
  have e:=aJ a
  rw [f] at e
  obtain ⟨b,g⟩:=List.cons.inj e
  have c:k<n.2.2.1.length:=by omega
  have kp:k<n.2.2.2.1.length:=by omega
  have d:t ∈ n.2.2.2.2:=by rw [b];exact aH a
  have j:=hs.vl _ (aH c)
  have o:0<n.2.2.1[k].length:=cO.2 (he.ne _ (aH c))
  obtain ⟨i,q⟩:=Zpb _ 0 hsh k (by omega) (by omega)
  rw [Xn c,Xn a,← b] at i
  rw [Xn a,← b] at q
  have r:=hs.tq t d
  have u:=Zse t
  have D:=Zsb t
  rw [Zdo.eq_2,Z0 c,oB,Zwd (W:=W) (hr.mono (by omega)) (hs.lim t d) r (hs.tl t d),oB,
   Z8n (W:=2 * W) (m:=Yo n.2.2.1 (n.2.2.2.1.getD k []) 1) (hr.mono (by omega)) (fun x b=>by
    obtain ⟨y,s,rfl⟩:=cA.1 b
    exact Zv7 (hs.lim t d y s)) (by omega) o j (by rw [aN];omega) (by rw [aN];exact i) hN,oB,Zyi,nC,Zbs,Xn c,Xn a,← b]
  cases Ul n.2.2.1[k].length (Yo n.2.2.1 (n.2.2.2.1.getD k []) 1) t with
  | true=>
   rw [if_neg (by decide),if_pos rfl]
   exact Zrn hs he hsh hr hN l (k+1) g.symm (by omega)
  | false=>rw [if_pos (by decide),if_neg (by decide)]
theorem Z08 {N W:Nat} {n:Zq} (hs:Ww n W) (he:V6 n) (hsh:Ta n.2.2.1 n.2.2.2.1 n.2.2.2.2 n.2.1.length 0=0) (hr:Z5 N (8 * W+40)) (hN:1048577<N):∀ (m fuel v:Nat),m+v=n.2.1.length→m<fuel→
  Zcp N n (n.2.2.1.map fun l=>(l.length:Int)) fuel (v:Int)=some (Zbs n.2.2.1 n.2.2.2.1 n.2.2.2.2 m v)
 | 0,0,v,_,h=>by omega
 | 0,fuel+1,v,i,_=>by
  rw [Zcp.eq_2,if_neg (dF (by omega))];rfl
 | m+1,0,v,_,h=>by omega
 | m+1,fuel+1,v,i,r=>by
  have s:=he.t;have u:=he.v;have w:=he.p;have o:=hs.nm
  have a:v<n.2.2.2.2.length:=by omega
  have b:v<n.2.2.1.length:=by omega
  have d:=aH a
  have j:=hs.vl _ (aH b)
  have e:0<n.2.2.1[v].length:=cO.2 (he.ne _ (aH b))
  obtain ⟨f,k⟩:=Zpb _ 0 hsh v (by omega) (by omega)
  rw [Xn b,Xn a] at f
  rw [Xn a] at k
  have q:Yo n.2.2.1 (n.2.2.2.1.getD v []) 1≤n.2.2.2.2[v].length:=by rw [← f];exact dN _ e
  have g:=Z09 (N:=N) (W:=W) (c:=n.2.2.1[v].length) (l:=n.2.2.2.2[v]) (hr.mono (by omega)) (hs.lim _ d) (hs.tq _ d) e j (hs.tl _ d) hN (Yo n.2.2.1 (n.2.2.2.1.getD v []) 1) N 0 (by omega) (by omega)
  rw [aP,show ((0:Nat):Int)=0 from rfl] at g
  rw [Zcp.eq_2,if_pos (dT (by omega)),Z0 a,oB,Zpd b,oB,Zn0,g,oB,Zbs,Xn b,Xn a]
  cases Ul n.2.2.1[v].length (Yo n.2.2.1 (n.2.2.2.1.getD v []) 1) n.2.2.2.2[v] with
  | true=>
   rw [if_neg (by decide),if_pos rfl,Zw (by omega)]
   exact Z08 hs he hsh hr hN m fuel (v+1) (by omega) (by omega)
  | false=>rw [if_pos (by decide),if_neg (by decide)]
structure X7 (N:Nat) (n:Zq):Prop where
 ev:V6 n
 le:n.2.1.length≤1024
 nm:Se n.2.1 n.2.2.1 n.2.1.length 0=0
 sh:Ta n.2.2.1 n.2.2.2.1 n.2.2.2.2 n.2.1.length 0=0
 en:Zbu n.2.2.2.2=false
 su:Zbs n.2.2.1 n.2.2.2.1 n.2.2.2.2 n.2.1.length 0=0
 tw:Tm n.2.2.2.1=false
 or:∃ l,Zbz N n.2.2.2.1=some (l,0)∧Sy N n.2.2.2.1=some l∧Zac N n.2.2.2.1=some 0∧Td n.2.2.2.1 l∧l.length=n.2.2.2.1.length
theorem Zu7 {N W:Nat} {n:Zq} (hs:Ww n W) (hr:Z5 N (8 * W+40)) (hN:2000000<N):∃ e,Vj N n=some e∧Zf0 N n=some e∧(e=0→X7 N n):=by
 have L:=hs.nm
 -- shapes of the lists
 have J:∀ b:Bool,(b=true→Zb7 N n b=some 60∧Zd2 N n b=some 60):=fun b u=>by
  subst u
  exact ⟨by rw [Zb7,if_pos rfl],by rw [Zd2,if_pos rfl]⟩
 have a:=J true rfl
 rw [Vj,Zf0]
 by_cases hv:n.2.2.1.length=n.2.1.length
 ·by_cases hp:n.2.2.2.1.length=n.2.1.length
  ·by_cases ht:n.2.2.2.2.length=n.2.1.length
   ·rw [if_neg (by rw [decide_eq_true (by omega)];decide),if_neg (by rw [decide_eq_true (by omega)];decide),if_neg (by rw [decide_eq_true (by omega)];decide),if_neg (by rw [decide_eq_true (by omega)];decide),show (!decide ((n.2.2.2.2.length:Int)=(n.2.1.length:Int)))=false by rw [decide_eq_true (by omega)];rfl,Zb7,Zd2,if_neg (show ¬ (false=true) by decide),if_neg (show ¬ (false=true) by decide)]
    by_cases hk:1024<n.2.1.length
    ·rw [if_pos (dT (by omega)),if_pos (dT (by omega))]
     exact ⟨4,rfl,rfl,fun h=>by cases h⟩
    ·rw [if_neg (dF (by omega)),if_neg (dF (by omega))]
     have v:Ze9 (n.1,n.2.1,n.2.2.1,n.2.2.2.1,n.2.2.2.2)=some (Se n.2.1 n.2.2.1 n.2.1.length 0):=Zx8 n hv
     have j:=Z0q N n hv (by omega) hs.vl (by omega) n.2.1.length N 0 (by omega) (by omega)
     rw [show ((0:Nat):Int)=0 from rfl] at j
     rw [v,oB,j]
     by_cases hnms:Se n.2.1 n.2.2.1 n.2.1.length 0=0
     ·rw [if_neg (by rw [decide_eq_true hnms];decide),if_pos hnms]
      obtain ⟨f,w⟩:∃ f,N - n.2.1.length=f+1:=⟨N - n.2.1.length - 1,by omega⟩
      rw [w,Qn.eq_2,if_neg (dF (by omega))]
      have k:∀ l ∈ n.2.2.1,l≠[]:=fun l x=>by
       obtain ⟨i,y,rfl⟩:=jR.1 x
       have:=(Zx9 _ 0 hnms i (by omega) (by omega)).1
       rw [Xn y] at this;exact this
      have fin:∀ e,Q4 N n.2.2.2.1=some e→Zac N n.2.2.2.1=some e→e≠0→∃ e,((Q4 N n.2.2.2.1).bind fun r_17=>if (!decide (r_17=0))=true then some r_17 else Zb8 N n n.2.2.2.2 0)=some e∧((Zac N n.2.2.2.1).bind fun r_76=>if (!decide (r_76=0))=true then some r_76 else (Zf4 N (n.1,n.2.1,n.2.2.1,n.2.2.2.1,n.2.2.2.2)).bind fun g=>Zco N n g N 0)=some e∧(e=0→X7 N n):=fun e A B c=>by
       rw [A,B,oB,oB,if_pos (by rw [decide_eq_false c];decide),if_pos (by rw [decide_eq_false c];decide)]
       exact ⟨e,rfl,rfl,fun h=>absurd h c⟩
      rcases Z1i hs.pn hN with ⟨e,D,R,c⟩ | ⟨_,_,l,_,_,_,_,D,R⟩ | ⟨C,E,l,F,m,M,o,D,R⟩
      ·exact fin e (by rw [Q4,D];rfl) R (by rcases c with h | h <;> omega)
      ·exact fin 42 (by rw [Q4,D];rfl) R (by decide)
      ·have G:Q4 N n.2.2.2.1=some 0:=by rw [Q4,D];rfl
       have d:V6 n:=⟨hv,hp,ht,C,k⟩
       have p:Zf4 N (n.1,n.2.1,n.2.2.1,n.2.2.2.1,n.2.2.2.2)=some (n.2.2.1.map fun l=>(l.length:Int)):=Xap (n:=n) (by omega) (by omega)
       have H:=Zrm (N:=N) hs d n.2.2.2.2 0 (by simp) (by omega)
       have q:=Z05 (N:=N) (by omega) hs d n.2.1.length N 0 (by omega) (by omega)
       rw [show ((0:Nat):Int)=0 from rfl] at q
       rw [G,R,oB,oB,if_neg (by decide),if_neg (by decide),p,oB,H,q,ht]
       by_cases hsh:Ta n.2.2.1 n.2.2.2.1 n.2.2.2.2 n.2.1.length 0=0
       ·have I:=Zrj (N:=N) (n:=n) (W:=W) (hr.mono (by omega)) n.2.2.2.2 (fun t h=>⟨hs.tl t h,hs.tq t h,hs.lim t h⟩)
        have r:=Z0a (N:=N) (n.2.2.1.map fun l=>(l.length:Int)) hs ht (hr.mono (by omega)) (by omega) n.2.1.length N 0 (by omega) (by omega)
        rw [show ((0:Nat):Int)=0 from rfl,aP] at r
        rw [if_pos hsh,if_pos hsh,I,r]
        by_cases hen:Zbu n.2.2.2.2=true
        ·rw [if_pos hen,if_pos hen]
         exact ⟨45,rfl,rfl,fun h=>by cases h⟩
        ·have K:=Zrn (N:=N) hs d hsh hr (by omega) n.2.2.2.2 0 (by simp) (by omega)
         have s:=Z08 (N:=N) hs d hsh hr (by omega) n.2.1.length N 0 (by omega) (by omega)
         rw [show ((0:Nat):Int)=0 from rfl] at s
         rw [if_neg hen,if_neg hen,K,s,ht]
         exact ⟨_,rfl,rfl,fun h=>⟨d,by omega,hnms,hsh,Bool.eq_false_iff.2 hen,h,E,l,D,F,R,m,o⟩⟩
       ·rw [if_neg hsh,if_neg hsh]
        exact ⟨_,rfl,rfl,fun h=>absurd h hsh⟩
     ·rw [if_pos (by rw [decide_eq_false hnms];decide),if_neg hnms]
      exact ⟨_,rfl,rfl,fun h=>absurd h hnms⟩
   ·rw [if_neg (by rw [decide_eq_true (by omega)];decide),if_neg (by rw [decide_eq_true (by omega)];decide),if_neg (by rw [decide_eq_true (by omega)];decide),if_neg (by rw [decide_eq_true (by omega)];decide),decide_eq_false (by omega)]
    exact ⟨60,a.1,a.2,fun h=>by cases h⟩
  ·rw [if_neg (by rw [decide_eq_true (by omega)];decide),if_pos (by rw [decide_eq_false (by omega)];decide),if_neg (by rw [decide_eq_true (by omega)];decide),if_pos (by rw [decide_eq_false (by omega)];decide)]
   exact ⟨60,a.1,a.2,fun h=>by cases h⟩
 ·rw [if_pos (by rw [decide_eq_false (by omega)];decide),if_pos (by rw [decide_eq_false (by omega)];decide)]
  exact ⟨60,a.1,a.2,fun h=>by cases h⟩
def cnt (n:Zq) (v:Nat):Nat:=(n.2.2.1.getD v []).length
def Qx (n:Zq) (w:List Int):List Int→Nat→Nat
 | [],r=>r
 | p :: ps,r=>Qx n w ps (r * cnt n p.toNat+(w.getD p.toNat 0).toNat)
def Vb (n:Zq) (w:List Int) (v:Nat):Nat:=Qx n w (n.2.2.2.1.getD v []) 0
def Uz (n:Zq) (w:List Int) (v:Nat):List QV:=((n.2.2.2.2.getD v []).drop (Vb n w v * cnt n v)).take (cnt n v)
structure X9 (n:Zq) (w:List Int):Prop where
 len:w.length=n.2.1.length
 ok:∀ i,i<w.length→0≤w.getD i 0∧w.getD i 0<(cnt n i:Int)
theorem Qa {n:Zq} (he:V6 n) {v:Nat} (hv:v<n.2.1.length):0<cnt n v:=by
 have a:v<n.2.2.1.length:=by rw [he.v];exact hv
 rw [cnt,Xn a]
 exact cO.2 (he.ne _ (aH a))
theorem Zl5 {n:Zq} (he:V6 n):∀ (ps:List Int) (k:Nat),(∀ p ∈ ps,0≤p∧p<(n.2.1.length:Int))→k≤1099511627776→k≤Yo n.2.2.1 ps k
 | [],k,_,_=>bB _
 | p :: ps,k,a,b=>by
  have f:=a p aC
  have c:0<(n.2.2.1.getD p.toNat []).length:=Qa he (by omega)
  rw [Yo]
  have d:k≤min (k * (n.2.2.1.getD p.toNat []).length) 1099511627776:=Nat.le_min.2 ⟨dN k c,b⟩
  exact aU d (Zl5 he ps _ (fun q e=>a q (aB _ e)) (kO _ _))
theorem Zsx {n:Zq} (he:V6 n) {w:List Int} (hw:X9 n w) {p:Int} {ps:List Int} {r k:Nat} (hp:∀ q ∈ p :: ps,0≤q∧q<(n.2.1.length:Int)) (hr:r<k) (hk:k≤65536) (hb:Yo n.2.2.1 (p :: ps) k≤65536):
  r * cnt n p.toNat+(w.getD p.toNat 0).toNat<k * cnt n p.toNat∧k * cnt n p.toNat≤65536∧Yo n.2.2.1 ps (k * cnt n p.toNat)≤65536:=by
 have d:=hp p aC
 have e:=hw.ok p.toNat (by rw [hw.len];omega)
 have f:r * cnt n p.toNat+cnt n p.toNat≤k * cnt n p.toNat:=by
  have:=bC (cnt n p.toNat) (show r+1≤k by omega)
  rwa [aV,aX] at this
 rw [Yo] at hb
 have a:=Zl5 he ps (min (k * (n.2.2.1.getD p.toNat []).length) 1099511627776) (fun q b=>hp q (aB _ b)) (kO _ _)
 have c:k * (n.2.2.1.getD p.toNat []).length≤1099511627776:=by
  rcases Nat.le_total (k * (n.2.2.1.getD p.toNat []).length) 1099511627776 with h | h
  ·exact h
  ·rw [dZ h] at a hb;omega
 rw [bD c] at a hb
 exact ⟨by omega,aU a hb,hb⟩
theorem Z01 {n:Zq} (he:V6 n) {w:List Int} (hw:X9 n w):∀ (ps:List Int) (r k:Nat),(∀ q ∈ ps,0≤q∧q<(n.2.1.length:Int))→r<k→k≤65536→Yo n.2.2.1 ps k≤65536→Qx n w ps r<Yo n.2.2.1 ps k
 | [],r,k,_,a,_,_=>a
 | p :: ps,r,k,b,a,d,e=>by
  obtain ⟨f,c,g⟩:=Zsx he hw b a d e
  have:=Z01 he hw ps _ _ (fun q i=>b q (aB _ i)) f c g
  rw [Qx,Yo,bD (by rw [cnt] at c;omega)]
  exact this
section
variable {N:Nat} {n:Zq} (hf:X7 N n)
include hf
theorem X7.pars {v:Nat} (hv:v<n.2.1.length):∀ p ∈ n.2.2.2.1.getD v [],0≤p∧p<(n.2.1.length:Int):=fun p a=>by
 have b:v<n.2.2.2.1.length:=by rw [hf.ev.p];exact hv
 rw [Xn b] at a
 have:=hf.ev.par (aH b) p a
 rwa [hf.ev.v] at this
theorem X7.rows {v:Nat} (hv:v<n.2.1.length):Yo n.2.2.1 (n.2.2.2.1.getD v []) 1 * cnt n v=(n.2.2.2.2.getD v []).length∧(n.2.2.2.2.getD v []).length≤65536∧Yo n.2.2.1 (n.2.2.2.1.getD v []) 1≤65536:=by
 have a:=Zpb _ 0 hf.sh v (bK _) (by omega)
 have b:=Qa hf.ev hv
 refine ⟨a.1,a.2,?_⟩
 have c:Yo n.2.2.1 (n.2.2.2.1.getD v []) 1≤Yo n.2.2.1 (n.2.2.2.1.getD v []) 1 * cnt n v:=dN _ b
 have d:Yo n.2.2.1 (n.2.2.2.1.getD v []) 1 * cnt n v≤65536:=by
  have:=a.1;rw [cnt,this];exact a.2
 omega
theorem X7.row {w:List Int} (hw:X9 n w) {v:Nat} (hv:v<n.2.1.length):Vb n w v * cnt n v+cnt n v≤(n.2.2.2.2.getD v []).length∧Vb n w v<65536:=by
 obtain ⟨d,e,a⟩:=hf.rows hv
 have b:=Z01 hf.ev hw _ 0 1 (hf.pars hv) (by omega) (by omega) a
 have c:=bC (cnt n v) (show Vb n w v+1≤Yo n.2.2.1 (n.2.2.2.1.getD v []) 1 from b)
 rw [aV,aX,d] at c
 exact ⟨c,aE b a⟩
theorem X7.rowT_len {w:List Int} (hw:X9 n w) {v:Nat} (hv:v<n.2.1.length):(Uz n w v).length=cnt n v:=by
 have:=(hf.row hw hv).1
 rw [Uz,nK,bP];omega
theorem X7.ent {v:Nat} (hv:v<n.2.1.length):∀ x ∈ n.2.2.2.2.getD v [],0≤Zr x∧Zr x≤1:=fun x b=>by
 have c:v<n.2.2.2.2.length:=by rw [hf.ev.t];exact hv
 rw [Xn c] at b
 have d:=hf.en
 rw [Zbu,fP] at d
 have e:=d _ (aH c)
 rw [Bool.not_eq_true,fP] at e
 have a:=e x b
 simp only [V2,Bool.or_eq_true,decide_eq_true_eq,not_or] at a
 exact ⟨fC.1 a.1,fC.1 a.2⟩
end
theorem Zlt {n:Zq} {w:List Int} {v:Nat} {x:QV} (h:x ∈ Uz n w v):x ∈ n.2.2.2.2.getD v []:=dC (dB h)
theorem Z0z {n:Zq} {w:List Int} {v j:Nat} (hj:j<(Uz n w v).length):Zl (n.2.2.2.2.getD v []) ((Vb n w v * cnt n v+j:Nat):Int)=some (Uz n w v)[j]:=by
 have a:Vb n w v * cnt n v+j<(n.2.2.2.2.getD v []).length:=by
  rw [Uz,nK,bP] at hj;omega
 rw [Z0 a]
 simp only [Uz,fX,iF]
def Up (P:List R2) (l:List Int):Prop:=∀ (a:List Int) (v:Int) (b:List Int),l=a++v :: b→∀ p ∈ P.getD v.toNat [],p ∈ a
theorem Up.step {P:List R2} {l:List Int} {j:Nat} (h:Up P l) (hn:Vp P l 0=some j):Up P (l++[(j:Int)]):=by
 obtain ⟨_,f,i,_⟩:=Zrp hn
 obtain ⟨q,k⟩:=(Zz8 f).1 i
 intro a v b e p d
 rcases List.eq_nil_or_concat b with rfl | ⟨m,c,rfl⟩
 ·obtain ⟨o,g⟩:=kJ e rfl
  rw [List.cons.injEq] at g
  obtain ⟨rfl,-⟩:=g
  subst o
  rw [aD,Xn f] at d
  exact k p d
 ·rw [List.concat_eq_append,← bX,← bO] at e
  exact h a v m (kJ e rfl).1 p d
theorem Zyq {N:Nat} {P:List R2} (hP:P.length<1048576) (hls:∀ x ∈ P,x.length≤1048576) (hN:1048576<N):∀ (n:Nat) (l r:List Int),Td P l→Up P l→Uv N P n l=some r→Up P r
 | 0,l,r,_,_,h=>by rw [Uv.eq_1] at h;cases h
 | n+1,l,r,a,b,h=>by
  have c:=a.len
  rw [Zry (by omega) hls (by omega) hN] at h
  cases hnx:Vp P l 0 with
  | none=>rw [hnx] at h;cases h;exact b
  | some j=>
   rw [hnx] at h
   exact Zyq hP hls hN n (l++[(j:Int)]) r (a.step hnx).1 (b.step hnx) h
structure Zgp (P:List R2) (l:List Int):Prop where
 rg:∀ x ∈ l,0≤x∧x<(P.length:Int)
 nd:l.Nodup
 up:Up P l
theorem Z82 {N:Nat} {P:List R2} {l:List Int} (hP:P.length<1048576) (hls:∀ x ∈ P,x.length≤1048576) (hN:1048576<N) (h:Sy N P=some l) (ho:Td P l):Zgp P l:=
 ⟨ho.2.1,ho.1,Zyq hP hls hN N [] l ⟨.nil,by simp,by simp⟩ (fun a v b e=>by cases a <;> simp at e) (by rwa [Sy] at h)⟩
section
variable {N W:Nat} {n:Zq} (hf:X7 N n) (hs:Ww n W)
include hf hs
theorem Zj5 {v:Nat} (hv:v<n.2.1.length):∀ x ∈ n.2.2.2.2.getD v [],Vf x∧max x.1.2.length x.2.length≤W:=fun x a=>by
 have b:v<n.2.2.2.2.length:=by rw [hf.ev.t];exact hv
 rw [Xn b] at a
 have c:=hs.tq _ (aH b)
 exact ⟨hs.lim _ (aH b) x a,aU (Zsd a) c⟩
end
/-! the document's loops -/
/-! a row's entries are 1 together -/
theorem Zyh {c:Nat}:∀ (m:Nat) (l:List QV),Ul c m l=true→∀ r,r<m→Yn ((l.drop (r * c)).take c)=1
 | 0,l,_,r,h=>by omega
 | m+1,l,h,r,a=>by
  rw [Ul,Bool.and_eq_true,decide_eq_true_iff] at h
  cases r with
  | zero=>rw [dD,aP];exact h.1
  | succ r=>
   have:=Zyh m (l.drop c) h.2 r (by omega)
   rw [dR] at this
   rw [aV,aX,eM]
   exact this
theorem Z17 {vals:List R3} {P:List R2} {T:List (List QV)}:∀ (m v:Nat),Zbs vals P T m v=0→∀ i,v≤i→i<v+m→Ul (vals.getD i []).length (Yo vals (P.getD i []) 1) (T.getD i [])=true
 | 0,v,_,i,a,b=>by omega
 | m+1,v,h,i,a,b=>by
  rw [Zbs] at h
  split at h
  ·rename_i c
   rcases cJ v i with d | d
   ·exact Z17 m (v+1) h i (by omega) (by omega)
   ·have:i=v:=by omega
    subst this
    exact c
  ·cases h
/-! parts side by side -/
def Qb (n:Zq):List Int→Nat→Bool
 | [],_=>true
 | x :: l,k=>!decide (x<0)&&(!decide ((cnt n k:Int)≤x)&&Qb n l (k+1))
theorem Zwx {n:Zq}:∀ (l:List Int) (k:Nat),Qb n l k=true→∀ i,i<l.length→0≤l.getD i 0∧l.getD i 0<(cnt n (k+i):Int)
 | [],_,_,i,a=>by simp at a
 | x :: l,k,h,i,a=>by
  simp only [Qb,Bool.and_eq_true,Bool.not_eq_true',decide_eq_false_iff_not] at h
  cases i with
  | zero=>rw [List.getD_cons_zero,bU];omega
  | succ i=>
   rw [List.getD_cons_succ,show k+(i+1)=k+1+i by omega]
   exact Zwx l (k+1) h.2.2 i (by simpa using a)
theorem Z7s {n:Zq} {w:List Int} (hl:w.length=n.2.1.length) (h:Qb n w 0=true):X9 n w:=⟨hl,fun i a=>by have:=Zwx w 0 h i a;rwa [cR] at this⟩
def Zbe (N:Nat) (ab:R0) (ac:List Int) (aa:Nat) (ah:Bool) (ai:List Int) (aj:List Int) (kk_L2:(Nat→Bool→R2→R2→Option (R1×Int))) (ak:R4):List Int→Int→Option (R1×Int)
  | [],ad=>(Zl ab.2.2.1 (aa:Int)).bind fun am=>(Zl ac (aa:Int)).bind fun an=>(Zl ak (i64.wrap ((i64.wrap (ad * (am.length:Int)))+an))).bind fun ae=>(Zca N ((ae.1.1,ae.1.2),ae.2)).bind fun af=>(Q5 N ((ah,ai),aj) ((af.1.1,af.1.2),af.2)).bind fun ag=>kk_L2 (aa+1) ag.1.1 ag.1.2 ag.2
  | al :: ao,ad=>(Zl ab.2.2.1 al).bind fun ap=>(Zl ac al).bind fun aq=>(Zbe N ab ac aa ah ai aj kk_L2 ak ao) (i64.wrap ((i64.wrap (ad * (ap.length:Int)))+aq))
termination_by structural x=>x
def Qh (N:Nat) (aa:R0) (af:List Int):List R4→Nat→Bool→R2→R2→Option (R1×Int)
  | [],ab,ac,ad,ae=>some (((ac,ad),ae),0)
  | ag :: ah,ab,ac,ad,ae=>(Zl aa.2.2.2.1 (ab:Int)).bind fun ai=>Zbe N aa af ab ac ad ae (Qh N aa af ah) ag ai 0
termination_by structural x=>x
def Zh2 (aa:Nat) (ab:Bool) (ac:List Int) (ad:List Int) (kk_L1:(Nat→Bool→R2→R2→Option (R1×Int))) (ae:Bool):Option (R1×Int):=
  if ae=true then (some (((false,([]:List Int)),([]:List Int)),3)) else (kk_L1 (aa+1) ab ac ad)
def Qg (N:Nat) (aa:R0) (ac:List Int):List Int→Nat→Bool→R2→R2→Option (R1×Int)
  | [],ab,ad,ae,af=>(Zfa N).bind fun ag=>Qh N aa ac aa.2.2.2.2 0 ag.1.1 ag.1.2 ag.2
  | ah :: ai,ab,ad,ae,af=>if (decide (ah<0))=true then (Zh2 ab ad ae af (Qg N aa ac ai) true) else ((Zl aa.2.2.1 (ab:Int)).bind fun aj=>Zh2 ab ad ae af (Qg N aa ac ai) (decide ((aj.length:Int)≤ah)))
termination_by structural x=>x
def Su (N:Nat) (aa:R0) (ab:List Int):Option (R1×Int):=
  (Vj N (aa.1,aa.2.1,aa.2.2.1,aa.2.2.2.1,aa.2.2.2.2)).bind fun ac=>if (!decide (ac=0))=true then (some (((false,([]:List Int)),([]:List Int)),ac)) else (if (!decide ((ab.length:Int)=(aa.2.1.length:Int)))=true then (some (((false,([]:List Int)),([]:List Int)),60)) else (Qg N aa ab ab 0 false ([]:List Int) ([]:List Int)))
theorem Zuh {N bf bg bh bi cu:Nat} {bj bk bm bn a1:Option Addr} {col:Zd} {w0:World} {ab:R0} {ak:R2} {r:(R1×Int)} (c1 c2:Nat) (hm:Su N ab ak=some r) (cd:Sl Za.str col w0 bj bf ab.2.1) (au:Sl (Za.slice Za.str) col w0 bk bg ab.2.2.1) (bt:Sl (Za.slice rI) col w0 bm bh ab.2.2.2.1) (bo:Sl (Za.slice (Za.pair (Za.pair Za.bool (Za.slice rU)) (Za.slice rU))) col w0 bn bi ab.2.2.2.2) (h1:Sl rI col w0 a1 cu ak):
    Calls prog 26 #[(.agg #[.string ab.1,.slice bj ab.2.1.length bf,.slice bk ab.2.2.1.length bg,.slice bm ab.2.2.2.1.length bh,.slice bn ab.2.2.2.2.length bi]),.slice a1 ak.length cu] w0 (fun e w'=>∃ (col':Zd) (ra1:Option Addr) (rc2:Nat) (ra4:Option Addr) (rc5:Nat),e= .returned (.tuple #[(.agg #[.bool r.1.1.1,.slice ra1 r.1.1.2.length rc2,.slice ra4 r.1.2.length rc5]),.int .i64 r.2])∧Zf col w0 col' w'∧Zb rU 95 c1 col' w' ra1 rc2 r.1.1.2∧Zb rU 95 c2 col' w' ra4 rc5 r.1.2):=by
 refine Y5 (m:=103) func26 rfl rfl rfl ?_;rw [Su.eq_1] at hm;have aa:=St.start col w0;refine go ?_;refine Xi (col:=(Zj col)) 1 rfl ?_;intro b7 er c3 c4 ac;refine Xk (col:=c3) #[.bool false,(nI),(nI)] 2 zeroValue39 ?_;intro b8 c5 cv cw ad;refine go ?_;replace ac:=ac.gr cw;refine lV _ (Z8 isAgg27 sizeOf27 ac) ?_;obtain ⟨es,c6,hm⟩:=bZ hm;replace au:=au.k0;replace bt:=bt.k0;replace bo:=bo.k0;replace aa:=(aa.grow c4).grow cw;refine Zi (Zmv c6 (cd.k0.ks aa) (au.ks aa) (bt.ks aa) (bo.ks aa)) ?_;rintro _ c7 ⟨rfl,bu⟩;refine ⟨_,rfl,?_⟩;replace bu:Zf cv c5 cv c7:=.of_below bu;refine go ?_;replace h1:=h1.k0;replace ac:=ac.gr bu;replace ad:=ad.gr bu;replace aa:=aa.grow bu;refine Zo hm (fun hb hm=>go ?_) fun hb hm=>go ?_
 ·refine lV (.agg #[.bool false,(nI),(nI)]) (Wq (l:=[_,_]) (qs:=[(0,2),(2,1)]) underlying39 zeroValue39 ⟨rfl,sizeOf37,rfl,sizeOf35,trivial⟩ rfl)<|X4 rfl<|Zy ad ?_;intro et c8 c9 da;refine go ?_;cases hm;replace aa:=aa.kp c8 c9;exact ⟨rfl,_,V3 da.atN,_,none,0,none,0,rfl,aa.fin (cm []),Zb.nil,Zb.nil⟩
 refine Xl ac ?_;refine go ?_;refine Zo hm (fun hb hm=>go ?_) fun hb hm=>go ?_
 ·refine lV (.agg #[.bool false,(nI),(nI)]) (Wq (l:=[_,_]) (qs:=[(0,2),(2,1)]) underlying39 zeroValue39 ⟨rfl,sizeOf37,rfl,sizeOf35,trivial⟩ rfl)<|Zy ad ?_;intro eu db dc dd;refine go ?_;cases hm;replace aa:=aa.kp db dc;exact ⟨rfl,_,V3 dd.atN,_,none,0,none,0,rfl,aa.fin (cm []),Zb.nil,Zb.nil⟩
 refine Zv [1,2,28,29,4,1000000] (fun n f bp=>∃ a4 a5 a6 av aw al ax ay am bv,n=bv.length∧ak.drop a5=bv∧Qg N ab ak bv a5 a6 al am=some r∧St w0 (Zj col) a4 bp∧Zg 27 1 a4 bp b7 #[.string ab.1,.slice bj ab.2.1.length bf,.slice bk ab.2.2.1.length bg,.slice bm ab.2.2.2.1.length bh,.slice bn ab.2.2.2.2.length bi]∧Zb rU 95 3 a4 bp av aw al∧Zb rU 95 4 a4 bp ax ay am∧Zg 39 2 a4 bp b8 #[.bool a6,.slice av al.length aw,.slice ax am.length ay]∧[30].map f=[.int .i64 a5]) ak.length ⟨_,0,_,none,0,_,none,0,_,_,rfl,rfl,hm,aa,ac,Zb.nil,Zb.nil,ad,rfl⟩ ?_;clear hm;intro n f bp hI;obtain ⟨a4,a5,a6,av,aw,al,ax,ay,am,bv,hn,hl,hm,aa,ac,ae,af,ad,hs⟩:=hI;subst hn;refine .lL [30] hs ?_
 cases bv with
 | nil=>
  have hk:¬ ((a5:Int)<(ak.length:Int)):=by have:=aG.1 hl;omega
  have hkb:=decide_eq_false hk;rw [Qg.eq_1] at hm;refine go ?_;refine X0 (congrArg Value.bool hkb)<|go ?_;obtain ⟨ew,de,hm⟩:=bZ hm;refine lc rfl rfl (Zea call103) (Zp5 (col:=a4) 5 6 de:) ?_;rintro _ ey ⟨df,ez,e0,e1,e2,rfl,bw,ce,cf⟩;refine ⟨_,rfl,?_⟩;refine Xk (col:=df) #[.bool false,(nI),(nI)] 7 zeroValue39 ?_;intro cx e3 e4 a7 dg;refine Zy dg ?_;intro e5 a8 dh ah;refine go ?_;refine Yx ⟨_,_,rfl⟩ ?_;replace ac:=((ac.gr bw).gr a7).kp a8;refine lW ((ac.atN).nth (q:=4) rfl)<|go ?_;replace ae:=((ae.gr bw).gr a7).kp a8;replace af:=((af.gr bw).gr a7).kp a8;replace ad:=((ad.gr bw).gr a7).kp a8;replace aa:=((aa.grow bw).grow a7).kp a8 dh;refine Zv [1,2,4,51,52,9,1000000] (fun n f az=>∃ a0 a9 bx bz b0 ba b1 b2 bb b3,n=b3.length∧ab.2.2.2.2.drop a9=b3∧Qh N ab ak b3 a9 bx ba bb=some r∧St w0 (Zj col) a0 az∧Zg 27 1 a0 az b7 #[.string ab.1,.slice bj ab.2.1.length bf,.slice bk ab.2.2.1.length bg,.slice bm ab.2.2.2.1.length bh,.slice bn ab.2.2.2.2.length bi]∧Zb rU 95 3 a0 az av aw al∧Zb rU 95 4 a0 az ax ay am∧Zg 39 2 a0 az b8 #[.bool a6,.slice av al.length aw,.slice ax am.length ay]∧Zb rU 95 5 a0 az bz b0 ba∧Zb rU 95 6 a0 az b1 b2 bb∧Zg 39 7 a0 az cx #[.bool bx,.slice bz ba.length b0,.slice b1 bb.length b2]∧[53].map f=[.int .i64 a9]) ab.2.2.2.2.length ⟨_,0,_,_,_,_,_,_,_,_,rfl,rfl,hm,aa,ac,ae,af,ad,(ce.gr a7).kp a8,(cf.gr a7).kp a8,ah,rfl⟩ ?_;clear hm;intro n f az hI;obtain ⟨a0,a9,bx,bz,b0,ba,b1,b2,bb,b3,hn,hl,hm,aa,ac,ae,af,ad,ai,aj,ah,hs⟩:=hI;subst hn;refine .lL [53] hs ?_
  cases b3 with
  | nil=>
   have hk:¬ ((a9:Int)<(ab.2.2.2.2.length:Int)):=by have:=aG.1 hl;omega
   have hkb:=decide_eq_false hk;rw [Qh.eq_1] at hm;refine go ?_;refine X0 (congrArg Value.bool hkb)<|go ?_;refine lV _ (Z8 isAgg39 sizeOf39 ah)<|Zy ad ?_;intro e6 cg di dj;refine go ?_;cases hm;replace ai:=ai.kp cg;replace aj:=aj.kp cg;replace aa:=aa.kp cg di;exact ⟨rfl,_,V3 dj.atN,_,_,_,_,_,rfl,aa.fin (cm [(5,c1),(6,c2)]),aa.fo ai,aa.fo aj⟩
  | cons cy cz=>
   obtain ⟨an,dl,dm⟩:=Yf hl;have hk:(a9:Int)<(ab.2.2.2.2.length:Int):=by omega
   have hkb:=decide_eq_true hk;rw [Qh.eq_2] at hm;refine go ?_;refine X1 (congrArg Value.bool hkb)<|go ?_;refine lI an ((bo.ks aa).addr an) ?_;obtain ⟨_,dn,dp⟩:=(bo.ks aa).atN an;obtain ⟨⟨dq,dr,rfl,bc⟩,_⟩:=dn;refine lW dp.one<|go ?_;refine Xl ac<|X4 rfl ?_;obtain ⟨b4,ch,hm⟩:=bZ hm;refine lI ch ((bt.ks aa).addr ch) ?_;obtain ⟨_,ds,dt⟩:=(bt.ks aa).atN ch;obtain ⟨⟨du,dv,rfl,a3⟩,_⟩:=ds;refine lW dt.one<|go ?_;refine Zv [1,10,11,2,4,51,52,53,62,63,9,1000000] (fun n f ao=>∃ ag ci b5 b6,n=b6.length∧b4.drop b5=b6∧Zbe N ab ak a9 bx ba bb (Qh N ab ak cz) cy b6 ci=some r∧St w0 (Zj col) ag ao∧Sl (Za.pair (Za.pair Za.bool (Za.slice rU)) (Za.slice rU)) ag ao dq dr cy∧Zg 27 1 ag ao b7 #[.string ab.1,.slice bj ab.2.1.length bf,.slice bk ab.2.2.1.length bg,.slice bm ab.2.2.2.1.length bh,.slice bn ab.2.2.2.2.length bi]∧Zb rU 95 3 ag ao av aw al∧Zb rU 95 4 ag ao ax ay am∧Zg 39 2 ag ao b8 #[.bool a6,.slice av al.length aw,.slice ax am.length ay]∧Sl rI ag ao du dv b4∧Zb rU 95 5 ag ao bz b0 ba∧Zb rU 95 6 ag ao b1 b2 bb∧Zg 39 7 ag ao cx #[.bool bx,.slice bz ba.length b0,.slice b1 bb.length b2]∧[64,12].map f=[.int .i64 b5,.int .i64 ci]) b4.length ⟨_,0,0,_,rfl,rfl,hm,aa,bc,ac,ae,af,ad,a3,ai,aj,ah,rfl⟩ ?_;clear hm;intro n f ao hI;obtain ⟨ag,ci,b5,b6,hn,hl,hm,aa,bc,ac,ae,af,ad,a3,ai,aj,ah,hs⟩:=hI;subst hn;refine .lL [64,12] hs ?_
   cases b6 with
   | nil=>
    have hk:¬ ((b5:Int)<(b4.length:Int)):=by have:=aG.1 hl;omega
    have hkb:=decide_eq_false hk;rw [Zbe.eq_1] at hm;refine go ?_;refine X0 (congrArg Value.bool hkb)<|go ?_;refine Y8 (col:=ag) [(0,0),(1,1),(2,1),(3,1),(4,0),(5,1),(6,1),(7,0),(8,1),(9,1),(10,1),(11,1),(12,1),(13,0),(14,1),(15,1),(16,0),(17,3),(18,3),(19,2)] (by kernel_rfl) (by kernel_rfl)<|xv rfl rfl (fun _ hC=>Z8 isAgg39 sizeOf39 (ah.gr (hC.bl ag))) ?_;refine xu rfl rfl (fun _=>Ub rfl) ?_;refine xu rfl rfl (fun _=>Yq rfl) ?_;refine xF ⟨_,_,rfl⟩ ?_;refine xW (fun _ hC=>((ac.atN).nth (q:=2) rfl).gr (hC.bl ag)) ?_;refine xu rfl rfl (fun _=>Yq rfl) ?_;obtain ⟨e7,b9,hm⟩:=bZ hm;refine xu rfl rfl (fun _=>Yu underlying23 sizeOf22 rfl rfl (Xa b9).1 (Xa b9).2.1 ((au.ks aa).addr b9)) ?_;obtain ⟨_,dw,dx⟩:=(au.ks aa).atN b9;obtain ⟨⟨e8,e9,rfl,fa⟩,_⟩:=dw;refine xW (fun _ hC=>dx.one.gr (hC.bl ag)) ?_;refine xu rfl rfl (fun _=>Qu underlying22 rfl) ?_;refine xu rfl rfl (fun _=>Zjk _ _ rfl rfl) ?_;refine xu rfl rfl (fun _=>Ub rfl) ?_;refine xu rfl rfl (fun _=>Yq rfl) ?_;obtain ⟨fb,ca,hm⟩:=bZ hm;refine xu rfl rfl (fun _=>Yu underlying33 sizeOf3 rfl rfl (Xa ca).1 (Xa ca).2.1 ((h1.ks aa).addr ca)) ?_;refine xW (fun _ hC=>((h1.ks aa).gr (hC.bl ag)).atInt ca) ?_;refine xu rfl rfl (fun _=>Qt _ _ rfl rfl) ?_;obtain ⟨cj,cb,hm⟩:=bZ hm;refine xu rfl rfl (fun _=>Yu underlying114 sizeOf39 rfl rfl (Xa cb).1 (Xa cb).2.1 (bc.addr cb)) ?_;obtain ⟨_,dy,dz⟩:=bc.atN cb;obtain ⟨_,_,rfl,d0,d1⟩:=Vr dy;obtain ⟨_,_,rfl,d2,d3⟩:=Vr d0;obtain ⟨rfl,_⟩:=d2;obtain ⟨⟨d4,d5,rfl,ck⟩,_⟩:=d3;obtain ⟨⟨d6,d7,rfl,cl⟩,_⟩:=d1;refine xv (v:=(.agg #[.bool cj.1.1,.slice d4 cj.1.2.length d5,.slice d6 cj.2.length d7])) rfl rfl (fun _ hC=>Y9 isAgg39 sizeOf39 rfl rfl (dz.gr (hC.bl ag))) ?_;refine xe rfl rfl ?_;intro fc hC0;have hC:=hC0.bl ag;obtain ⟨fd,d8,hm⟩:=bZ hm;refine Zi (Zui d8 (ck.gr hC) (cl.gr hC)) ?_;rintro _ fe ⟨bq,ff,fg,fh,fi,rfl,a2,cn,co⟩;refine ⟨_,rfl,?_⟩;refine Zk<|Xj bq hC0 a2<|xe rfl rfl ?_;intro d9 hC0;replace ae:=(ae.gr hC).gr a2;replace af:=(af.gr hC).gr a2;replace ai:=(ai.gr hC).gr a2;replace aj:=(aj.gr hC).gr a2;replace ac:=(ac.gr hC).gr a2;replace ad:=(ad.gr hC).gr a2;replace ah:=(ah.gr hC).gr a2;replace aa:=(aa.grow hC).grow a2
    have hC:=hC0.bl bq;obtain ⟨fj,ea,hm⟩:=bZ hm;replace ai:=ai.gr hC;replace aj:=aj.gr hC;refine Zi (Zp3 8 9 ea ((ai.toSlF (Zh.int .u32)).froz 6) ((aj.froz 5).toSlF (Zh.int .u32)) (((cn.gr hC).froz 5).froz 6) (((co.gr hC).froz 5).froz 6)) ?_;rintro _ fk ⟨eb,fl,fm,fn,fp,rfl,ap,aq,ar⟩;refine ⟨_,rfl,?_⟩;replace aq:=aq.thaw (Z1 .u32) ap (((Fz.refl (col:=bq)).froz 5).froz 6);replace ar:=ar.thaw (Z1 .u32) ap (((Fz.refl (col:=bq)).froz 5).froz 6);replace ap:=ap.thawR (col:=bq);generalize Xc d9.heap.size bq eb=cc at *;refine Zk<|Xj cc hC0 ap<|xe rfl rfl ?_;intro fq hC0;replace ae:=(ae.gr hC).gr ap;replace af:=(af.gr hC).gr ap;replace ac:=(ac.gr hC).gr ap;replace ad:=(ad.gr hC).gr ap;replace ah:=(ah.gr hC).gr ap;replace aa:=(aa.grow hC).grow ap;have hC:=hC0.bl cc;replace ah:=ah.gr hC;refine Zy ah ?_;intro fr bd ec be;refine Zk<|xk cc<|Yz ?_;replace ae:=(ae.gr hC).kp bd;replace af:=(af.gr hC).kp bd;replace aq:=(aq.gr hC).kp bd;replace ar:=(ar.gr hC).kp bd;replace ac:=(ac.gr hC).kp bd;replace ad:=(ad.gr hC).kp bd;replace aa:=(aa.grow hC).kp bd ec;intro ft hC;replace hC:=hC.bl cc;refine go ?_;replace ae:=ae.gr hC;replace ae:=ae.recol 8 5;replace af:=af.gr hC;replace af:=af.recol 8 5;replace aq:=aq.gr hC;replace aq:=aq.recolSelf 5 (by decide);replace ar:=ar.gr hC;replace ar:=ar.recol 8 5;replace ac:=ac.gr hC;replace ac:=ac.recol 8 5;replace ad:=ad.gr hC;replace ad:=ad.recol 8 5;replace be:=be.gr hC;replace be:=be.recol 8 5;replace aa:=aa.grow hC;replace aa:=aa.recol 8 5 (by decide) (by decide);replace ae:=ae.recol 9 6;replace af:=af.recol 9 6;replace ar:=ar.recolSelf 6 (by decide);replace ac:=ac.recol 9 6;replace ad:=ad.recol 9 6;replace aa:=aa.recol 9 6 (by decide) (by decide);exact ⟨cz.length,by simp,rfl,⟨_,_,_,_,_,_,_,_,_,_,rfl,dl,hm,aa,ac,ae,af,ad,aq.recol 9 6,ar,be.recol 9 6,(Yl (congrArg (Value.int .i64) (Yi (aE dm (bo.ks aa).1.1))) rfl)⟩⟩
   | cons fu ed=>
    obtain ⟨an,ee,ef⟩:=Yf hl;have hk:(b5:Int)<(b4.length:Int):=by omega
    have hkb:=decide_eq_true hk;rw [Zbe.eq_2] at hm;refine go ?_;refine X1 (congrArg Value.bool hkb)<|go ?_;refine lI an (a3.addr an)<|lW (a3.atInt an) ?_;refine go ?_;refine Vs (col:=ag) (by kernel_rfl) (by kernel_rfl)<|go ?_;refine qF ⟨_,_,rfl⟩ ?_;refine qW (fun _ hC=>((ac.atN).nth (q:=2) rfl).gr (hC.bl ag)) ?_;refine go ?_;obtain ⟨fv,cp,hm⟩:=bZ hm;refine qI cp ((au.ks aa).addr cp) ?_;obtain ⟨_,eg,eh⟩:=(au.ks aa).atN cp;obtain ⟨⟨fw,fx,rfl,fy⟩,_⟩:=eg;refine qW (fun _ hC=>eh.one.gr (hC.bl ag)) ?_;refine go ?_;obtain ⟨fz,cq,hm⟩:=bZ hm;refine qI cq ((h1.ks aa).addr cq)<|qW (fun _ hC=>((h1.ks aa).gr (hC.bl ag)).atInt cq) ?_;refine go ?_;refine Wn ?_;intro f0 hC;replace hC:=hC.bl ag;refine go ?_;replace ae:=ae.gr hC;replace af:=af.gr hC;replace a3:=a3.gr hC;replace ac:=ac.gr hC;replace ad:=ad.gr hC;replace aa:=aa.grow hC;exact ⟨ed.length,by simp,rfl,⟨_,_,_,_,rfl,ee,hm,aa,bc.gr hC,ac,ae,af,ad,a3,ai.gr hC,aj.gr hC,ah.gr hC,(Yl (congrArg (Value.int .i64) (Yi (aE ef a3.1.1))) rfl)⟩⟩
 | cons ei c0=>
  obtain ⟨an,ej,ek⟩:=Yf hl;have hk:(a5:Int)<(ak.length:Int):=by omega
  have hkb:=decide_eq_true hk;rw [Qg.eq_2] at hm;refine go ?_;refine X1 (congrArg Value.bool hkb)<|go ?_;refine lI an ((h1.ks aa).addr an)<|lW ((h1.ks aa).atInt an)<|Y6 rfl<|Y6 rfl<|Zk<|Zz ?_;refine Wp.cutK [1,2,28,29,30,4,1000000] (fun f br=>∃ bs cr,Zh2 a5 a6 al am (Qg N ab ak c0) cr=some r∧St w0 (Zj col) bs br∧Zg 27 1 bs br b7 #[.string ab.1,.slice bj ab.2.1.length bf,.slice bk ab.2.2.1.length bg,.slice bm ab.2.2.2.1.length bh,.slice bn ab.2.2.2.2.length bi]∧Zb rU 95 3 bs br av aw al∧Zb rU 95 4 bs br ax ay am∧Zg 39 2 bs br b8 #[.bool a6,.slice av al.length aw,.slice ax am.length ay]∧[46].map f=[.bool cr]) ?_ ?_
  ·intro f br hJ;obtain ⟨bs,cr,hm,aa,ac,ae,af,ad,hs⟩:=hJ;rw [Zh2.eq_1] at hm;refine .lL [46] hs ?_;refine Zo hm (fun hb hm=>go ?_) fun hb hm=>go ?_
   ·refine lV (.agg #[.bool false,(nI),(nI)]) (Wq (l:=[_,_]) (qs:=[(0,2),(2,1)]) underlying39 zeroValue39 ⟨rfl,sizeOf37,rfl,sizeOf35,trivial⟩ rfl)<|Zy ad ?_;intro f1 el em en;refine go ?_;cases hm;replace aa:=aa.kp el em;exact ⟨rfl,_,V3 en.atN,_,none,0,none,0,rfl,aa.fin (cm []),Zb.nil,Zb.nil⟩
   exact ⟨c0.length,by simp,rfl,⟨_,_,_,_,_,_,_,_,_,_,rfl,ej,hm,aa,ac,ae,af,ad,(Yl (congrArg (Value.int .i64) (Yi (aE ek (h1.ks aa).1.1))) rfl)⟩⟩
  refine go ?_;refine Yr hm (fun cs hm=>go ?_) fun cs hm=>go ?_
  ·refine lV (.bool true) (Ye (congrArg Value.bool cs) rfl)<|Zk ?_;exact ⟨rfl,_,_,hm,aa,ac,ae,af,ad,rfl⟩
  refine Yx ⟨_,_,rfl⟩ ?_;refine go ?_;refine lW ((ac.atN).nth (q:=2) rfl)<|go ?_;obtain ⟨eo,ct,hm⟩:=bZ hm;refine lI ct ((au.ks aa).addr ct) ?_;refine go ?_;obtain ⟨_,ep,eq⟩:=(au.ks aa).atN ct;obtain ⟨⟨f2,f3,rfl,f4⟩,_⟩:=ep;refine lW eq.one<|go ?_;refine lV (.bool (decide ((eo.length:Int)≤ei))) (Yd (congrArg Value.bool cs) rfl)<|Zk ?_;exact ⟨rfl,_,_,hm,aa,ac,ae,af,ad,rfl⟩
def ent (n:Zq) (w:List Int) (v:Nat):Rat:=Zr ((Uz n w v).getD (w.getD v 0).toNat ((false,[]),[]))
def Ux (n:Zq) (w:List Int):Nat→Nat→Rat→Rat
 | 0,_,q=>q
 | m+1,k,q=>Ux n w m (k+1) (q * ent n w k)
section
variable {N:Nat} {n:Zq} (hf:X7 N n) {w:List Int} (hw:X9 n w)
include hf hw
variable {W K:Nat} (hs:Ww n W) (hr:Z5 N (8 * K+40)) (hWK:1025 * (W+2)+4≤K)
include hs hr hWK
omit hr hWK in
theorem Z69 {k:Nat} (hk:k<n.2.1.length):qs (ent n w k)≤W+1:=by
 have c:=hw.ok k (by rw [hw.len];exact hk)
 have a:(w.getD k 0).toNat<(Uz n w k).length:=by rw [hf.rowT_len hw hk];omega
 rw [ent,Xn a]
 obtain ⟨b,d⟩:=Zj5 hf hs hk _ (Zlt (aH a))
 have:=Zsg b
 omega
omit hs hr hWK in
theorem Zqg {k:Nat} (hk:k<n.2.1.length) (a:Bool) (b c:List Int) (kk:Nat→Bool→List Int→List Int→Option (QV×Int)) (t:List QV):∀ (ps:List Int) (r kb:Nat),(∀ q ∈ ps,0≤q∧q<(n.2.1.length:Int))→r<kb→kb≤65536→Yo n.2.2.1 ps kb≤65536→
  Zbe N n w k a b c kk t ps (r:Int)=Zbe N n w k a b c kk t [] (Qx n w ps r:Int)
 | [],r,kb,_,_,_,_=>rfl
 | p :: ps,r,kb,d,e,f,g=>by
  obtain ⟨i,m,o⟩:=Zsx hf.ev hw d e f g
  have A:=d p aC
  have B:=hw.ok p.toNat (by rw [hw.len];omega)
  have C:r * cnt n p.toNat≤kb * cnt n p.toNat:=bC _ (by omega)
  have q1:Zl n.2.2.1 p=some (n.2.2.1.getD p.toNat []):=by
   have:=Wx (l:=n.2.2.1) [] (j:=p.toNat) (by rw [hf.ev.v];omega)
   rwa [show ((p.toNat:Nat):Int)=p by omega] at this
  have s:Zl w p=some (w.getD p.toNat 0):=by
   have:=Wx (l:=w) 0 (j:=p.toNat) (by rw [hw.len];omega)
   rwa [show ((p.toNat:Nat):Int)=p by omega] at this
  have u:i64.wrap ((r:Int) * ((n.2.2.1.getD p.toNat []).length:Int))=((r * cnt n p.toNat:Nat):Int):=by
   rw [show ((n.2.2.1.getD p.toNat []).length:Int)=((cnt n p.toNat:Nat):Int) from rfl,← bV]
   exact Zw (by omega)
  have x:i64.wrap (((r * cnt n p.toNat:Nat):Int)+w.getD p.toNat 0)=((r * cnt n p.toNat+(w.getD p.toNat 0).toNat:Nat):Int):=by
   rw [eL,show (((w.getD p.toNat 0).toNat:Nat):Int)=w.getD p.toNat 0 by omega]
   exact Zw (by omega)
  rw [Zbe.eq_2,q1,oB,s,oB,u,x]
  exact Zqg hk a b c kk t ps _ _ (fun q y=>d q (aB _ y)) i m o
theorem Zu5:∀ (l:List (List QV)) (k:Nat) (q:Rat),n.2.2.2.2.drop k=l→k≤n.2.1.length→qs q≤k * (W+1)+1→Qh N n w l k (Zp q).1.1 (Zp q).1.2 (Zp q).2=some (Zp (Ux n w l.length k q),0)
 | [],k,q,_,_,_=>rfl
 | t :: l,k,q,c,P,s=>by
  have Q:=hf.ev.t
  have J:=hf.le
  have e:k<n.2.2.2.2.length:=by
   rcases cJ k n.2.2.2.2.length with h | h
   ·exact h
   ·rw [aK h] at c;cases c
  have a:k<n.2.1.length:=by omega
  rw [aJ e] at c
  obtain ⟨u,x⟩:=List.cons.inj c
  have j:n.2.2.2.2.getD k []=t:=by rw [Xn e];exact u
  have d:=hf.rows a
  have A:=hf.row hw a
  have L:=hw.ok k (by rw [hw.len];exact a)
  have m:=Zqg hf hw a (Zp q).1.1 (Zp q).1.2 (Zp q).2 (Qh N n w l) t (n.2.2.2.1.getD k []) 0 1 (hf.pars a) (by omega) (by omega) d.2.2
  rw [show ((0:Nat):Int)=0 from rfl] at m
  have f:(w.getD k 0).toNat<(Uz n w k).length:=by rw [hf.rowT_len hw a];omega
  have B:i64.wrap ((Vb n w k:Int) * ((n.2.2.1.getD k []).length:Int))=((Vb n w k * cnt n k:Nat):Int):=by
   rw [show ((n.2.2.1.getD k []).length:Int)=((cnt n k:Nat):Int) from rfl,← bV]
   exact Zw (by omega)
  have C:i64.wrap (((Vb n w k * cnt n k:Nat):Int)+w.getD k 0)=((Vb n w k * cnt n k+(w.getD k 0).toNat:Nat):Int):=by
   rw [eL,show (((w.getD k 0).toNat:Nat):Int)=w.getD k 0 by omega]
   exact Zw (by omega)
  have o:Zl t ((Vb n w k * cnt n k+(w.getD k 0).toNat:Nat):Int)=some (Uz n w k)[(w.getD k 0).toNat]:=by
   rw [← j];exact Z0z f
  obtain ⟨y,g⟩:∃ y,y=(Uz n w k)[(w.getD k 0).toNat]:=⟨_,rfl⟩
  obtain ⟨i,D⟩:=Zj5 hf hs a y (Zlt (g ▸ aH f))
  have E:ent n w k=Zr y:=by rw [ent,Xn f,g]
  have F:k * (W+1)≤1024 * (W+1):=bC _ (by omega)
  have b:Vf (Wk y):=by
   rw [Wk];split
   ·exact ⟨i.1,by simp [Zn]⟩
   ·exact i
  have r:RV (W+1) (Wk y):=by
   refine ⟨b.1,b.2,?_,?_⟩
   ·rw [Wk];split
    ·simp only;omega
    ·omega
   ·rw [Wk];split
    ·simp
    ·omega
  have G:Zca N ((y.1.1,y.1.2),y.2)=some (Wk y):=Zqs i D (hr.mono (by omega))
  have H:Q5 N (((Zp q).1.1,(Zp q).1.2),(Zp q).2) (((Wk y).1.1,(Wk y).1.2),(Wk y).2)=some (Zp (q * ent n w k)):=by
   have:=Znb (V5 s) r (hr.mono (by omega))
   rwa [Wo,Zna,← E] at this
  have M:=Zl0 q (ent n w k)
  have O:=Z69 hf hw hs a
  have I:=Zu5 l (k+1) (q * ent n w k) x (by omega) (by rw [aV,aX];omega)
  rw [Qh.eq_2,Wx [] (by rw [hf.ev.p];exact a),oB,m,← Vb,Zbe.eq_1,Wx [] (by rw [hf.ev.v];exact a),oB,Wx 0 (by rw [hw.len];exact a),oB,B,C,o,← g,oB,G,oB,H,oB,nC,Ux]
  exact I
end
theorem Zqf {N:Nat} {n:Zq} (he:V6 n) (hl:n.2.1.length≤1048576) (w:List Int) (hw:w.length=n.2.1.length):∀ (l:List Int) (k:Nat) (b:Bool) (l1 l2:List Int),w.drop k=l→k≤w.length→Qg N n w l k b l1 l2=if Qb n l k=true then Qg N n w [] w.length b l1 l2 else some (((false,([]:List Int)),([]:List Int)),3)
 | [],k,b,l1,l2,a,c=>by
  have:=aG.1 a
  rw [Qb,if_pos rfl,show k=w.length by omega]
 | x :: l,k,b,l1,l2,a,c=>by
  have d:k<w.length:=by
   rcases cJ k w.length with h | h
   ·exact h
   ·rw [aK h] at a;cases a
  rw [aJ d] at a
  obtain ⟨f,e⟩:=List.cons.inj a
  rw [Qg.eq_2,Qb]
  by_cases hx:x<0
  ·rw [if_pos (dT hx),Zh2,if_pos rfl,decide_eq_true hx];rfl
  ·rw [if_neg (dF hx),Wx [] (by rw [he.v];omega),oB,Zh2,decide_eq_false hx]
   by_cases hc:(cnt n k:Int)≤x
   ·rw [show ((n.2.2.1.getD k []).length:Int)=(cnt n k:Int) from rfl,decide_eq_true hc,if_pos rfl];rfl
   ·rw [show ((n.2.2.1.getD k []).length:Int)=(cnt n k:Int) from rfl,decide_eq_false hc,if_neg (by decide),Zqf he hl w hw l (k+1) b l1 l2 e (by omega)];rfl
theorem Z52 {N W K:Nat} {n:Zq} (hf:X7 N n) (hs:Ww n W) (hr:Z5 N (8 * K+40)) (hWK:1025 * (W+2)+4≤K) (hN:2000000<N) (hC:Vj N n=some 0) (w:List Int):
  ∃ p e,Su N n w=some (p,e)∧((e≠0∧(decide (w.length=n.2.1.length)&&Qb n w 0)=false)∨(e=0∧X9 n w∧p=Zp (Ux n w n.2.1.length 0 1))):=by
 have a:Vj N (n.1,n.2.1,n.2.2.1,n.2.2.2.1,n.2.2.2.2)=some 0:=hC
 have c:=hf.le
 rw [Su,a,oB,if_neg (by decide)]
 by_cases hlen:w.length=n.2.1.length
 ·rw [if_neg (show ¬ (!decide ((w.length:Int)=(n.2.1.length:Int)))=true by rw [decide_eq_true (by omega)];decide),Zqf hf.ev (by omega) w hlen w 0 false [] [] rfl (bK _)]
  cases hin:Qb n w 0 with
  | false=>rw [if_neg (show ¬ false=true by decide)];exact ⟨_,3,rfl,.inl ⟨by decide,by simp⟩⟩
  | true=>
   have hw:=Z7s hlen hin
   have b:=Zu5 hf hw hs hr hWK n.2.2.2.2 0 1 rfl (bK _) (by rw [Zcu];omega)
   rw [if_pos rfl,Qg.eq_1,Zod (hr.mono (by omega)),oB,b,hf.ev.t]
   exact ⟨_,0,rfl,.inr ⟨rfl,hw,rfl⟩⟩
 ·rw [if_pos (show (!decide ((w.length:Int)=(n.2.1.length:Int)))=true by rw [decide_eq_false (by omega)];rfl)]
  exact ⟨_,60,rfl,.inl ⟨by decide,by rw [decide_eq_false hlen];rfl⟩⟩
theorem Z81 {n:Zq} {l:List Int} (ho:Td n.2.2.2.1 l) (hl:l.length=n.2.2.2.1.length) (hp:n.2.2.2.1.length=n.2.1.length):∀ i,i<n.2.1.length→(i:Int) ∈ l:=fun i d=>by
 apply Classical.byContradiction
 intro b
 have c:=Zjd (l:=(i:Int) :: l) (r:=(List.range n.2.2.2.1.length).map fun j:Nat=>(j:Int)) (List.nodup_cons.2 ⟨b,ho.1⟩) fun x a=>by
  rw [cA]
  rcases aO.1 a with rfl | a
  ·exact ⟨i,fK.2 (by omega),rfl⟩
  ·have:=ho.2.1 x a
   exact ⟨x.toNat,fK.2 (by omega),by omega⟩
 rw [aN,List.length_range,nC] at c
 omega
theorem Zww {n:Zq} {w:List Int} (hd:X9 n w):(decide (w.length=n.2.1.length)&&Qb n w 0)=true:=by
 have:∀ (l:List Int) (j:Nat),w.drop j=l→Qb n l j=true:=by
  intro l
  induction l with
  | nil=>intro j _;rfl
  | cons x l c=>
   intro j b
   have a:j<w.length:=by
    rcases cJ j w.length with h | h
    ·exact h
    ·rw [aK h] at b;cases b
   rw [aJ a] at b
   obtain ⟨e,f⟩:=List.cons.inj b
   have d:=hd.ok j a
   rw [Xn a,e] at d
   rw [Qb,c (j+1) f,decide_eq_false (by omega),decide_eq_false (by omega)];rfl
 rw [this w 0 (by rw [aP]),Bool.and_true]
 exact decide_eq_true hd.len
def Xz (n:Zq) (T:List (List QV)):Zq:=(n.1,n.2.1,n.2.2.1,n.2.2.2.1,T)
structure Zaq (n:Zq) (T:List (List QV)):Prop where
 len:T.length=n.2.1.length
 sz:∀ v,v<n.2.1.length→(T.getD v []).length=(n.2.2.2.2.getD v []).length
 ent:∀ v,v<n.2.1.length→∀ x ∈ T.getD v [],0≤Zr x∧Zr x≤1
 row:∀ v,v<n.2.1.length→∀ j,j<Yo n.2.2.1 (n.2.2.2.1.getD v []) 1→Yn (((T.getD v []).drop (j * cnt n v)).take (cnt n v))=1
theorem Zyj {c:Nat}:∀ (m:Nat) (l:List QV),(∀ j,j<m→Yn ((l.drop (j * c)).take c)=1)→Ul c m l=true
 | 0,l,_=>rfl
 | m+1,l,h=>by
  have a:=h 0 (by omega)
  rw [dD,aP] at a
  rw [Ul,decide_eq_true a,Bool.true_and]
  refine Zyj m _ fun j b=>?_
  have:=h (j+1) (by omega)
  rw [dR,show c+j * c=(j+1) * c by rw [aV,aX,eM]]
  exact this
theorem Z1n {vals:List R3} {P:List R2} {T T':List (List QV)}:∀ m v,(∀ i,v≤i→i<v+m→(T.getD i []).length=(T'.getD i []).length)→Ta vals P T m v=Ta vals P T' m v
 | 0,v,_=>rfl
 | m+1,v,h=>by
  rw [Ta,Ta,h v (bB _) (by omega),Z1n m (v+1) fun i a b=>h i (by omega) (by omega)]
theorem Z18 {vals:List R3} {P:List R2} {T:List (List QV)}:∀ m v,(∀ i,v≤i→i<v+m→Ul (vals.getD i []).length (Yo vals (P.getD i []) 1) (T.getD i [])=true)→Zbs vals P T m v=0
 | 0,v,_=>rfl
 | m+1,v,h=>by
  rw [Zbs,if_pos (h v (bB _) (by omega)),Z18 m (v+1) fun i a b=>h i (by omega) (by omega)]
section
variable {N:Nat} {n:Zq} {T:List (List QV)} (hf:X7 N n)
include hf
theorem Z2d:Zaq n n.2.2.2.2 where
 len:=hf.ev.t
 sz:=fun v _=>rfl
 ent:=fun v hv=>hf.ent hv
 row:=fun v hv=>Zyh _ _ (Z17 _ _ hf.su v (bK _) (by omega))
variable (h:Zaq n T)
include h
theorem Zo4:X7 N (Xz n T) where
 ev:=⟨hf.ev.v,hf.ev.p,h.len,hf.ev.i,hf.ev.ne⟩
 le:=hf.le
 nm:=hf.nm
 sh:=(Z1n n.2.1.length 0 fun i _ b=>h.sz i (by omega)).trans hf.sh
 en:=by
  show Zbu T=false
  rw [Zbu,fP]
  intro t ht
  obtain ⟨v,hv,rfl⟩:=List.getElem_of_mem ht
  have hv2:v<n.2.1.length:=by rw [← h.len];exact hv
  rw [Bool.not_eq_true,fP]
  intro x hx
  have:=h.ent v hv2 x (by rw [Xn hv];exact hx)
  rw [V2,decide_eq_false (fC.2 this.1),decide_eq_false (fC.2 this.2)]
  decide
 su:=Z18 n.2.1.length 0 fun i _ b=>Zyj _ _ (h.row i (by omega))
 tw:=hf.tw
 or:=hf.or
omit hf h in
theorem Zsv {w:List Int} (hw:X9 n w):X9 (Xz n T) w:=⟨hw.len,hw.ok⟩
omit hf h in
theorem Z95 (w:List Int) (v:Nat):Vb (Xz n T) w v=Vb n w v:=by
 have b:∀ (a:List Int) (r:Nat),Qx (Xz n T) w a r=Qx n w a r:=fun a=>by
  induction a with
  | nil=>intro r;rfl
  | cons p a c=>intro r;rw [Qx,Qx,c];rfl
 exact b _ _
omit hf h in
theorem Zz9 {w:List Int} {v:Nat} (hx:(w.getD v 0).toNat<cnt n v):ent (Xz n T) w v=Zr ((T.getD v []).getD (Vb n w v * cnt n v+(w.getD v 0).toNat) ((false,[]),[])):=by
 rw [ent,Uz,Z95]
 show Zr (((((T.getD v []).drop (Vb n w v * cnt n v)).take (cnt n v)).getD (w.getD v 0).toNat ((false,[]),[])))=_
 congr 1
 generalize T.getD v []=t
 generalize (w.getD v 0).toNat=x at *
 rw [aF,aF,List.getElem?_take,if_pos hx,List.getElem?_drop]
end
def Zhy (aa:Int) (ab:Int) (kk_L1:(R4→Int→Option R4)) (ac:List R1):Option R4:=
  kk_L1 ac (i64.wrap (ab+aa))
def Zdn (N:Nat) (ah:R4) (ac:Int) (ad:Int) (kk_L1:(R4→Int→Option R4)) (ab:R1):Nat→R4→Int→Option R4
  | 0,_,_=>none
  | ai+1,ae,aa=>if (decide (aa<(i64.wrap (ad+ac))))=true then ((Zl ah aa).bind fun af=>(Zb1 N ((af.1.1,af.1.2),af.2) ((ab.1.1,ab.1.2),ab.2)).bind fun ag=>(Zl ae aa).bind fun ak=>(some (ae.set (aA aa) ((ag.1.1.1,ag.1.1.2),ag.1.2))).bind fun aj=>(Zdn N ah ac ad kk_L1 ab ai) aj (i64.wrap (aa+1))) else (Zhy ac ad kk_L1 ae)
termination_by structural x=>x
def Ss (N:Nat) (ac:R4) (ab:Int):Nat→R4→Int→Option R4
  | 0,_,_=>none
  | af+1,ad,aa=>if (decide (aa<(ad.length:Int)))=true then (Z4 ((0:Int)≤aa∧aa≤(i64.wrap (aa+ab))∧(i64.wrap (aa+ab))≤(ac.length:Int)) ((Zb2 N ((ac.take (aA (i64.wrap (aa+ab)))).drop (aA aa))).bind fun ae=>(Qf N ((ae.1.1,ae.1.2),ae.2)).bind fun ag=>if (decide (ag=0))=true then (Zhy ab aa (Ss N ac ab af) ad) else (Zdn N ac ab aa (Ss N ac ab af) ae N ad aa))) else (some ad)
termination_by structural x=>x
def Zkr (N:Nat) (aa:R4) (ab:R4) (ac:Int):Option R4:=
  Ss N ab ac N aa 0
theorem Z4m {N ai ao:Nat} {a0 a1:Option Addr} {col:Zd} {w0:World} {aj ak:R4} {ah:Int} {r:R4} (qc0:Nat) (hm:Zkr N aj ak ah=some r) (hd:U4 [qc0]=true) (h0:Zb (Za.pair (Za.pair Za.bool (Za.row 95 rU)) (Za.row 95 rU)) 39 qc0 col w0 a0 ai aj) (h1:Sl (Za.pair (Za.pair Za.bool (Za.slice rU)) (Za.slice rU)) col w0 a1 ao ak):
    Calls prog 102 #[.slice a0 aj.length ai,.slice a1 ak.length ao,.int .i64 ah] w0 (fun e w'=>∃ (col':Zd),e= .returned (.tuple #[])∧Zt (pS [qc0]) col w0 col' w'∧Zb (Za.pair (Za.pair Za.bool (Za.row 95 rU)) (Za.row 95 rU)) 39 qc0 col' w' a0 ai r∧r.length=aj.length):=by
 refine Zel (m:=46) (args:=[.slice a0 aj.length ai,.slice a1 ak.length ao,.int .i64 ah]) func102 rfl rfl rfl rfl ?_;rw [Zkr.eq_1] at hm;have aa:=St.startL (l:=[qc0]) rfl col w0;refine go ?_;refine Zv [1,2,1000000] (fun n f bd=>∃ be ar ab ap,ap=n∧Ss N ak ah ap ar ab=some r∧St w0 (Xh [qc0] col) be bd∧Zb (Za.pair (Za.pair Za.bool (Za.row 95 rU)) (Za.row 95 rU)) 39 440 be bd a0 ai ar∧ar.length=aj.length∧ar.length=aj.length∧[0,6].map f=[.slice a0 ar.length ai,.int .i64 ab]) N ⟨_,_,0,_,rfl,hm,aa,h0.startL (T7 hd 0 rfl) (T6 hd 0 rfl),rfl,rfl,rfl⟩ ?_;clear hm;intro n f bd hI;obtain ⟨be,ar,ab,ap,hn,hm,aa,ay,bq,bf,hs⟩:=hI;subst hn;refine .lL [0,6] hs ?_;replace h1:=h1.keep (Xw.startL [qc0] col w0)
 cases ap with
 | zero=>rw [Ss.eq_1] at hm;cases hm
 | succ ap=>
  rw [Ss.eq_2] at hm;refine go ?_;refine Zo hm (fun hb hm=>?_) fun hb hm=>go ?_
  ·refine Yj<|Zz ?_;refine Wp.cutK [1,2,6,1000000] (fun f bg=>∃ bh au,Zhy ah ab (Ss N ak ah ap) au=some r∧St w0 (Xh [qc0] col) bh bg∧Zb (Za.pair (Za.pair Za.bool (Za.row 95 rU)) (Za.row 95 rU)) 39 440 bh bg a0 ai au∧au.length=aj.length∧au.length=aj.length∧[0].map f=[.slice a0 au.length ai]) ?_ ?_
   ·intro f bg hJ;obtain ⟨bh,au,hm,aa,b3,b4,b5,hs⟩:=hJ;rw [Zhy.eq_1] at hm;refine .lL [0] hs<|go ?_;exact ⟨ap,by omega,rfl,⟨_,_,_,_,rfl,hm,aa,b3,b4,b5,rfl⟩⟩
   refine go ?_;obtain ⟨a5,hm⟩:=Z9 hm;have b6:=((h1.ks aa).take (aA (i64.wrap (ab+ah)))).drop (sz:=3) rfl (aA ab);refine lv (v:=.slice (if ao=(aA ab) then a1 else a1.map (·.add ((aA ab) * 3))) ((aA (i64.wrap (ab+ah))) - (aA ab)) (ao - (aA ab))) rfl rfl (Zsp underlying114 sizeOf39 rfl rfl rfl a5.1 a5.2.1 (by have:=(h1.ks aa).1.2;have:=a5.2.2;omega)) ?_;generalize (if ao=(aA ab) then a1 else a1.map (·.add ((aA ab) * 3)))=br at *;refine .ld (d:=21) (v:=(.slice br (((ak.take (aA (i64.wrap (ab+ah)))).drop (aA ab)).length) (ao - (aA ab)))) (congrArg (fun n=>Value.slice br n (ao - (aA ab))) (show (aA (i64.wrap (ab+ah))) - (aA ab)=((ak.take (aA (i64.wrap (ab+ah)))).drop (aA ab)).length by rw [bP,nK];have:=a5.2;omega)) ?_;obtain ⟨av,b7,hm⟩:=bZ hm;refine Zi (Zms 1 2 b7 b6) ?_;rintro _ cv ⟨b8,bs,bt,bu,bv,rfl,bw,ad,ae⟩;refine ⟨_,rfl,?_⟩;refine Xk (col:=b8) #[.bool false,(nI),(nI)] 3 zeroValue39 ?_;intro b9 cw bx a6 ca;refine Zy ca ?_;intro cb a7 cc af;refine go ?_;refine lV _ (Z8 isAgg39 sizeOf39 af) ?_;obtain ⟨cx,cd,hm⟩:=bZ hm;replace ad:=(ad.gr a6).kp a7;replace ae:=(ae.gr a6).kp a7;refine Zi (Zmr cd ((ad.toSlF (Zh.int .u32)).froz 2) ((ae.froz 1).toSlF (Zh.int .u32))) ?_;rintro _ ce ⟨rfl,aq⟩;refine ⟨_,rfl,?_⟩;replace aq:Zf bx cb bx ce:=.of_below aq;refine go ?_;replace ay:=(((ay.gr bw).gr a6).kp a7).gr aq;replace aa:=(((aa.grow bw).grow a6).kp a7 cc).grow aq;replace ad:=ad.gr aq;replace ae:=ae.gr aq;replace af:=af.gr aq;refine Zo hm (fun hb hm=>go ?_) fun hb hm=>go ?_
   ·exact ⟨rfl,_,_,hm,aa,ay,bq,bf,rfl⟩
   refine Zv [1,2,6,7,1000000] (fun n f aw=>∃ ag am a8 ax,ax=n∧Zdn N ak ah ab (Ss N ak ah ap) av ax am a8=some r∧St w0 (Xh [qc0] col) ag aw∧Zb (Za.pair (Za.pair Za.bool (Za.row 95 rU)) (Za.row 95 rU)) 39 440 ag aw a0 ai am∧am.length=aj.length∧Zb rU 95 1 ag aw bs bt av.1.2∧Zb rU 95 2 ag aw bu bv av.2∧Zg 39 3 ag aw b9 #[.bool av.1.1,.slice bs av.1.2.length bt,.slice bu av.2.length bv]∧am.length=aj.length∧[0,8].map f=[.slice a0 am.length ai,.int .i64 a8]) N ⟨_,_,_,_,rfl,hm,aa,ay,bq,ad,ae,af,bf,rfl⟩ ?_;clear hm;intro n f aw hI;obtain ⟨ag,am,a8,ax,hn,hm,aa,an,bz,ad,ae,af,cf,hs⟩:=hI;subst hn;refine .lL [0,8] hs ?_
   cases ax with
   | zero=>rw [Zdn.eq_1] at hm;cases hm
   | succ ax=>
    rw [Zdn.eq_2] at hm;refine go ?_;refine Zo hm (fun hb hm=>go ?_) fun hb hm=>go ?_
    ·refine Y8 (col:=ag) [(0,1),(1,1),(2,1),(3,1),(4,1),(5,0),(6,0),(7,3),(8,1),(9,1),(10,1),(11,1),(12,2)] (by kernel_rfl) (by kernel_rfl)<|xu rfl rfl (fun _=>Ub rfl) ?_;refine xu rfl rfl (fun _=>Yq rfl) ?_;refine xu rfl rfl (fun _=>Ub rfl) ?_;refine xu rfl rfl (fun _=>Yq rfl) ?_;obtain ⟨bi,a9,hm⟩:=bZ hm;refine xu rfl rfl (fun _=>Yu underlying114 sizeOf39 rfl rfl (Xa a9).1 (Xa a9).2.1 ((h1.ks aa).addr a9)) ?_;obtain ⟨_,cg,ch⟩:=(h1.ks aa).atN a9;obtain ⟨_,_,rfl,ci,cj⟩:=Vr cg;obtain ⟨_,_,rfl,ck,cl⟩:=Vr ci;obtain ⟨rfl,_⟩:=ck;obtain ⟨⟨cn,co,rfl,bj⟩,_⟩:=cl;obtain ⟨⟨cp,cq,rfl,bk⟩,_⟩:=cj;refine xv (v:=(.agg #[.bool bi.1.1,.slice cn bi.1.2.length co,.slice cp bi.2.length cq])) rfl rfl (fun _ hC=>Y9 isAgg39 sizeOf39 rfl rfl (ch.gr (hC.bl ag))) ?_;refine xv rfl rfl (fun _ hC=>Z8 isAgg39 sizeOf39 (af.gr (hC.bl ag))) ?_;refine xe rfl rfl ?_;intro cr hC0;have hC:=hC0.bl ag;obtain ⟨ac,cs,hm⟩:=bZ hm;replace ad:=ad.gr hC;replace ae:=ae.gr hC;refine Zi (Zue 4 5 cs (((bj.gr hC).froz 1).froz 2) (((bk.gr hC).froz 1).froz 2) ((ad.toSlF (Zh.int .u32)).froz 2) ((ae.froz 1).toSlF (Zh.int .u32))) ?_;rintro _ cy ⟨ct,bm,bn,bo,bp,rfl,al,az,a2⟩;refine ⟨_,rfl,?_⟩;replace az:=az.thaw (Z1 .u32) al (((Fz.refl (col:=ag)).froz 1).froz 2);replace a2:=a2.thaw (Z1 .u32) al (((Fz.refl (col:=ag)).froz 1).froz 2);replace al:=al.thawR (col:=ag);generalize Xc cr.heap.size ag ct=b0 at *;refine Zk<|Xj b0 hC0 al<|xu (v:=(.tuple #[(.agg #[.bool ac.1.1.1,.slice bm ac.1.1.2.length bn,.slice bo ac.1.2.length bp]),.int .i64 ac.2])) rfl rfl (fun _=>U9 rfl) ?_;refine xu (v:=(.agg #[.bool ac.1.1.1,.slice bm ac.1.1.2.length bn,.slice bo ac.1.2.length bp])) rfl rfl (fun _=>Xo rfl rfl) ?_;refine xu (v:=(.int .i64 ac.2)) rfl rfl (fun _=>Xo rfl rfl) ?_;obtain ⟨cz,ba,hm⟩:=bZ hm;replace an:=(an.gr hC).gr al;refine xu rfl rfl (fun _=>Yu underlying114 sizeOf39 rfl rfl (Xa ba).1 (Xa ba).2.1 (an.addr ba)) ?_;refine xe rfl rfl ?_;intro c0 hC0;replace af:=(af.gr hC).gr al;replace aa:=(aa.grow hC).grow al;have hC:=hC0.bl b0;replace a2:=a2.gr hC
     have cu:=Yk.join (Yk.joinL (Zai ac.1.1.1) (az.gr hC).has) a2.has (by decide) (by decide);replace an:=an.gr hC;replace an:=an.recol 5 4;replace ad:=(ad.gr al).gr hC;replace ad:=ad.recol 5 4;replace ae:=(ae.gr al).gr hC;replace ae:=ae.recol 5 4;replace af:=af.gr hC;replace af:=af.recol 5 4;replace aa:=aa.grow hC;replace aa:=aa.recol 5 4 (by decide) (by decide);obtain ⟨a3,a4,hm⟩:=bZ hm;have a4:a3=am.set (aA a8) ((ac.1.1.1,ac.1.1.2),ac.1.2):=(Option.some.inj a4).symm;refine Zw6 (x1:=((ac.1.1.1,ac.1.1.2),ac.1.2)) (v:=(.agg #[.bool ac.1.1.1,.slice bm ac.1.1.2.length bn,.slice bo ac.1.2.length bp])) an ba rfl sizeOf39 cu rfl rfl (by decide) ?_;intro c1 b1 bb bc;rw [← a4] at bc;have b2:a3.length=aj.length:=(show am.length=a3.length by rw [a4,nS]).symm.trans bz;refine .ld (d:=0) (v:=(.slice a0 a3.length ai)) (congrArg (fun n=>Value.slice a0 n ai) (show am.length=a3.length by rw [a4,nS])) ?_;refine Zk<|xk b1<|Yz ?_;intro c2 hC;replace hC:=hC.bl b1;refine go ?_;replace aa:=(aa.kpp bb).grow hC;exact ⟨ax,by omega,rfl,⟨_,_,_,_,rfl,hm,aa,bc.gr hC,b2,(ad.kpp bb).gr hC,(ae.kpp bb).gr hC,(af.kpp bb).gr hC,b2,rfl⟩⟩
    exact ⟨rfl,_,_,hm,aa,an,bz,cf,rfl⟩
  cases hm;exact ⟨rfl,_,rfl,aa.finL rfl (cm [(440,qc0)]),aa.foL ay,bf⟩
def T4 (t q:List QV):List QV:=if Yn q=0 then t else q.map fun x=>Zp (Zr x / Yn q)
def Vl (k:Nat):Nat→List QV→List QV→List QV
 | 0,t,_=>t
 | m+1,t,q=>T4 (t.take k) (q.take k)++Vl k m (t.drop k) (q.drop k)
theorem Xal {t q:List QV} (h:t.length=q.length):(T4 t q).length=t.length:=by
 rw [T4];split
 ·rfl
 ·rw [aN,h]
section
variable {N B:Nat} (hr:Z5 N (8 * B+64)) {q:List QV} {k:Nat} (hk:1≤k) (hq:∀ x ∈ q,RV B x) (hql:q.length≤1048576)
include hr hk hq hql
theorem Zxp {at0:Nat} (hat:at0+k≤q.length) (kk:List QV→Int→Option (List QV)) {S:Rat} (hS:S≠0) (hSq:qs S≤B) (A t:List QV) (hA:A.length=at0) (ht:k≤t.length):∀ (m u f:Nat),u+m=k→m<f→
  Zdn N q (k:Int) (at0:Int) kk (Zp S) f (A++((((q.drop at0).take k).take u).map (fun x=>Zp (Zr x / S))++t.drop u)) ((at0+u:Nat):Int)=kk (A++((((q.drop at0).take k).map fun x=>Zp (Zr x / S))++t.drop k)) ((at0+k:Nat):Int)
 | m,u,0,_,h=>by omega
 | 0,u,f+1,e,_=>by
  obtain rfl:u=k:=by omega
  rw [Zdn.eq_2,Zw (by omega),if_neg (dF (by omega)),Zhy,Zw (by omega),bF (l:=(q.drop at0).take u) (by rw [nK];omega),eL]
 | m+1,u,f+1,e,o=>by
  have d:at0+u<q.length:=by omega
  have g:((q.drop at0).take k).length=k:=by rw [nK,bP];omega
  have j:((q.drop at0).take k)[u]'(by omega)=q[at0+u]:=by rw [fX,iF]
  have n:Zb1 N ((q[at0+u].1.1,q[at0+u].1.2),q[at0+u].2) (((Zp S).1.1,(Zp S).1.2),(Zp S).2)=some (Zp (Zr q[at0+u] / S),0):=by
   have:=Zv3 (N:=N) (hq _ (aH d)) (V5 hSq) (hr.mono (by omega))
   rwa [Wo,if_neg hS] at this
  have a:((((q.drop at0).take k).take u).map (fun x=>Zp (Zr x / S))).length=u:=by rw [aN,nK];omega
  have b:Zl (A++((((q.drop at0).take k).take u).map (fun x=>Zp (Zr x / S))++t.drop u)) ((at0+u:Nat):Int)=some (t[u]'(by omega)):=by
   rw [Z0 (by simp only [nA,a,bP];omega),fU (by omega)]
   simp only [hA,gF]
   rw [fU (by omega)]
   simp only [a,hO,iF,bU]
  have c:(A++((((q.drop at0).take k).take u).map (fun x=>Zp (Zr x / S))++t.drop u)).set (at0+u) (Zp (Zr q[at0+u] / S))=A++((((q.drop at0).take k).take (u+1)).map (fun x=>Zp (Zr x / S))++t.drop (u+1)):=by
   rw [gN _ _ (by omega),hA,gF,gN _ _ (by omega),a,hO,aJ (l:=t) (i:=u) (by omega),List.set_cons_zero,fO,aL (by omega),dX,eF,List.map_singleton,j,bO]
   rfl
  rw [Zdn.eq_2,Zw (by omega),if_pos (dT (by omega)),Z0 d,oB,n,oB,b,oB,oB,aD]
  dsimp only
  rw [show (((Zp (Zr q[at0+u] / S)).1.1,(Zp (Zr q[at0+u] / S)).1.2),(Zp (Zr q[at0+u] / S)).2)=Zp (Zr q[at0+u] / S) from rfl,c,wS (by omega)]
  exact Zxp hat kk hS hSq A t hA ht m (u+1) f (by omega) (by omega)
theorem Zxo (hsq:∀ j,Xx ((q.drop (j * k)).take k)+1≤B):∀ (m j f:Nat) (A t:List QV),A.length=j * k→t.length=m * k→q.length=(j+m) * k→m<f→k<N→
  Ss N q (k:Int) f (A++t) ((j * k:Nat):Int)=some (A++Vl k m t (q.drop (j * k)))
 | m,j,0,_,_,_,_,_,h,_=>by omega
 | 0,j,f+1,A,t,g,c,i,_,_=>by
  rw [dD] at c
  rw [Ss.eq_2,if_neg (dF (by simp only [nA];omega)),Vl]
 | m+1,j,f+1,A,t,g,c,i,E,b=>by
  have u:(j+1) * k=j * k+k:=by rw [aV,aX]
  have F:(j+(m+1)) * k=j * k+(m * k+k):=by rw [aV,aV,aX]
  rw [aV,aX] at c
  have n:j * k+k≤q.length:=by omega
  obtain ⟨v,w⟩:=Znc (N:=N) (l:=(q.drop (j * k)).take k) (fun a y=>let h:=hq a (dC (dB y));⟨h.m,h.d⟩) (hr.mono (by have:=hsq j;omega))
  have D:=hsq j
  have C:Qf N (((Zp (Yn ((q.drop (j * k)).take k))).1.1,(Zp (Yn ((q.drop (j * k)).take k))).1.2),(Zp (Yn ((q.drop (j * k)).take k))).2)=some (S1 (Yn ((q.drop (j * k)).take k))):=by
   have:=Zj7 (N:=N) (V5 w) (hr.mono (by omega))
   rwa [Wo] at this
  have o:(q.take (j * k+k)).drop (j * k)=(q.drop (j * k)).take k:=by rw [iQ,gF]
  have step:∀ R:List QV,R.length=k→R=T4 (t.take k) ((q.drop (j * k)).take k)→Ss N q (k:Int) f (A++(R++t.drop k)) ((j * k+k:Nat):Int)=some (A++Vl k (m+1) t (q.drop (j * k))):=fun R G p=>by
   have r:=Zxo hsq m (j+1) f (A++R) (t.drop k) (by rw [nA];omega) (by rw [bP];omega) (by rw [i];congr 1;omega) (by omega) b
   rw [u,bO] at r
   rw [r,Vl,← p,dR,bO]
  rw [Ss.eq_2,if_pos (dT (by simp only [nA];omega)),Zw (by omega),Xf (by omega),show aA (((j * k:Nat):Int)+(k:Int))=j * k+k by omega,aD,o,v,oB,C,oB]
  by_cases h0:Yn ((q.drop (j * k)).take k)=0
  ·have:=step (t.take k) (by rw [nK];omega) (by rw [T4,if_pos h0])
   rw [dK] at this
   rw [if_pos (dT (Zjg.2 h0)),Zhy,Zw (by omega)]
   exact this
  ·have s:=Zxp hr hk hq hql n (Ss N q (k:Int) f) h0 (by omega) A t g (by omega) k 0 N (by omega) b
   rw [List.take_zero,bW,bN,aP,bU] at s
   rw [if_neg (by rw [decide_eq_false fun e=>h0 (Zjg.1 e)];decide)]
   refine s.trans ?_
   exact step _ (by rw [aN,nK,bP];omega) (by rw [T4,if_neg h0])
theorem Z8b {R:Nat} {t:List QV} (ht:t.length=R * k) (hqR:q.length=R * k) (hsq:∀ j,Xx ((q.drop (j * k)).take k)+1≤B) (hkN:k<N) (hRN:R<N):Zkr N t q (k:Int)=some (Vl k R t q):=by
 have:=Zxo hr hk hq hql hsq R 0 N [] t (by rw [dD];rfl) ht (by rw [cR];exact hqR) hRN hkN
 rw [dD,bN,bN,aP] at this
 rw [Zkr]
 exact this
end
theorem Z64:Wa prog 3 1 8:=⟨Tryz.t3,_,rfl,rfl,rfl,rfl,rfl⟩
def Sz (aa:List Int):Option R2:=
  Z4 ((([]:List Int).length+aa.length) * 8≤140737488355328∧([]:List Int).length+aa.length≤maxLen) (some (([]:List Int)++aa))
theorem Zgz {ad:Nat} {a0:Option Addr} {col:Zd} {w0:World} {ac r:R2} (c1:Nat) (hm:Sz ac=some r) (h0:Sl rI col w0 a0 ad ac):
    Calls prog 61 #[.slice a0 ac.length ad] w0 (fun e w'=>∃ (col':Zd) (ra1:Option Addr) (rc2:Nat),e= .returned ((.slice ra1 r.length rc2))∧Zf col w0 col' w'∧Zb rI 3 c1 col' w' ra1 rc2 r):=by
 refine Xe 2 (m:=8) func61 rfl rfl rfl rfl rfl ?_;rw [Sz.eq_1] at hm;have aa:=St.start col w0;refine go ?_;replace h0:=h0.k0;rcases Zrq h0 with ab | ab
 ·replace hm:some ([]:List Int)=some r:=by have h0:=ab.2;subst h0;simpa [Z4,maxLen] using hm
  refine lv (v:=.bool a0.isNone) rfl rfl (Zji underlying33 rfl)<|.ld (d:=4) (v:=.bool true) (congrArg Value.bool ab.1)<|Zk<|X1 rfl<|go ?_;cases hm;exact ⟨rfl,_,none,0,rfl,aa.fin (cm []),Zb.nil⟩
 refine lv (v:=.bool a0.isNone) rfl rfl (Zji underlying33 rfl)<|.ld (d:=4) (v:=.bool false) (congrArg Value.bool ab)<|Zk<|X0 rfl<|go ?_;refine Zq4 (col:=(Zj col)) (r:=rI) 1 rfl underlying33 Z64 rfl ?_;intro aj ak al ae af;refine Y2 rfl ?_;obtain ⟨ag,hm⟩:=Z9 hm;refine Vy af (h0.gr ae).srcC ag ?_;intro am an ao ap ah ai;refine go ?_;cases hm;replace aa:=(aa.grow ae).kpp ah;exact ⟨rfl,_,_,_,rfl,aa.fin (cm [(1,c1)]),aa.fo ai⟩
def Zcr:List Int→Int→Option Rb
  | [],aa=>some (aa,0)
  | ab :: ac,aa=>Z4 (aa≠0) (if (decide ((i64.wrap (aZ 2147483647 aa))<ab))=true then (some (0,4)) else ((Zcr ac) (i64.wrap (aa * ab))))
termination_by structural x=>x
def Zlm (kk_L1:(Bool→Option Rb)) (aa:Bool):Option Rb:=
  kk_L1 aa
def Zbm (aa:List Int):List Int→Bool→Option Rb
  | [],ab=>if ab=true then (some (0,0)) else (Zcr aa 1)
  | ac :: ad,ab=>if (decide (ac<0))=true then (some (0,3)) else (if ab=true then (Zlm (Zbm aa ad) true) else (Zlm (Zbm aa ad) (decide (ac=0))))
termination_by structural x=>x
def Zi9 (aa:List Int):Option Rb:=
  Zbm aa aa false
theorem Zu1 {ai:Nat} {a0:Option Addr} {col:Zd} {w0:World} {ab:R2} {r:Rb} (hm:Zi9 ab=some r) (h0:Sl rI col w0 a0 ai ab):
    Calls prog 137 #[.slice a0 ab.length ai] w0 (fun e w'=>e= .returned (.tuple #[.int .i64 r.1,.int .i64 r.2])∧Below w0.heap.size w0 w'):=by
 refine Zj0 2 3 (m:=40) (args:=[.slice a0 ab.length ai]) func137 rfl rfl rfl rfl rfl ?_;rw [Zi9.eq_1] at hm;have aa:=St.start col w0;refine go ?_;refine Zv [0,10,11,1000000] (fun n f am=>∃ an ad aj ae,n=ae.length∧ab.drop ad=ae∧Zbm ab ae aj=some r∧St w0 (Zj col) an am∧[12,4].map f=[.int .i64 ad,.bool aj]) ab.length ⟨_,0,_,_,rfl,rfl,hm,aa,rfl⟩ ?_;clear hm;intro n f am hI;obtain ⟨an,ad,aj,ae,hn,hl,hm,aa,hs⟩:=hI;subst hn;refine .lL [12,4] hs ?_;replace h0:=h0.k0
 cases ae with
 | nil=>
  have hk:¬ ((ad:Int)<(ab.length:Int)):=by have:=aG.1 hl;omega
  have hkb:=decide_eq_false hk;rw [Zbm.eq_1] at hm;refine go ?_;refine X0 (congrArg Value.bool hkb)<|go ?_;refine Zo hm (fun hb hm=>go ?_) fun hb hm=>go ?_
  ·cases hm;exact ⟨rfl,rfl,aa.below⟩
  refine Zv [25,26,1000000] (fun n f ao=>∃ ap af ag ah,n=ah.length∧ab.drop af=ah∧Zcr ah ag=some r∧St w0 (Zj col) ap ao∧[27,7].map f=[.int .i64 af,.int .i64 ag]) ab.length ⟨_,0,1,_,rfl,rfl,hm,aa,rfl⟩ ?_;clear hm;intro n f ao hI;obtain ⟨ap,af,ag,ah,hn,hl,hm,aa,hs⟩:=hI;subst hn;refine .lL [27,7] hs ?_
  cases ah with
  | nil=>
   have hk:¬ ((af:Int)<(ab.length:Int)):=by have:=aG.1 hl;omega
   have hkb:=decide_eq_false hk;rw [Zcr.eq_1] at hm;refine go ?_;refine X0 (congrArg Value.bool hkb)<|go ?_;cases hm;exact ⟨rfl,rfl,aa.below⟩
  | cons a3 av=>
   obtain ⟨ac,aw,ax⟩:=Yf hl;have hk:(af:Int)<(ab.length:Int):=by omega
   have hkb:=decide_eq_true hk;rw [Zcr.eq_2] at hm;refine go ?_;refine X1 (congrArg Value.bool hkb)<|go ?_;refine lI ac ((h0.ks aa).addr ac)<|lW ((h0.ks aa).atInt ac) ?_;refine go ?_;obtain ⟨ay,hm⟩:=Z9 hm;refine lV (.int .i64 (i64.wrap (aZ 2147483647 ag))) (Uc 2147483647 ag rfl rfl ay)<|go ?_;refine Zo hm (fun hb hm=>go ?_) fun hb hm=>go ?_
   ·cases hm;exact ⟨rfl,rfl,aa.below⟩
   exact ⟨av.length,by simp,rfl,⟨_,_,_,_,rfl,aw,hm,aa,(Yl (congrArg (Value.int .i64) (Yi (aE ax (h0.ks aa).1.1))) rfl)⟩⟩
 | cons az aq=>
  obtain ⟨ac,a1,a2⟩:=Yf hl;have hk:(ad:Int)<(ab.length:Int):=by omega
  have hkb:=decide_eq_true hk;rw [Zbm.eq_2] at hm;refine go ?_;refine X1 (congrArg Value.bool hkb)<|Yj<|Zz ?_;refine Wp.cutK [0,10,11,12,1000000] (fun f ar=>∃ au ak,Zlm (Zbm ab aq) ak=some r∧St w0 (Zj col) au ar∧[4].map f=[.bool ak]) ?_ ?_
  ·intro f ar hJ;obtain ⟨au,ak,hm,aa,hs⟩:=hJ;rw [Zlm.eq_1] at hm;refine .lL [4] hs<|go ?_;exact ⟨aq.length,by simp,rfl,⟨_,_,_,_,rfl,a1,hm,aa,(Yl (congrArg (Value.int .i64) (Yi (aE a2 (h0.ks aa).1.1))) rfl)⟩⟩
  refine go ?_;refine lI ac ((h0.ks aa).addr ac)<|lW ((h0.ks aa).atInt ac) ?_;refine go ?_;refine Zo hm (fun hb hm=>go ?_) fun hb hm=>go ?_
  ·cases hm;exact ⟨rfl,rfl,aa.below⟩
  refine Yr hm (fun al hm=>go ?_) fun al hm=>go ?_
  ·refine lV (.bool true) (Ye (congrArg Value.bool al) rfl)<|go ?_;exact ⟨rfl,_,_,hm,aa,rfl⟩
  refine lV (.bool (decide (az=0))) (Yd (congrArg Value.bool al) rfl)<|go ?_;exact ⟨rfl,_,_,hm,aa,rfl⟩
def Zd6 (N:Nat) (ab:List Int):Nat→Int→Option Rf
  | 0,_=>none
  | ac+1,aa=>if (decide (0≤aa))=true then ((Zl ab aa).bind fun ad=>((Zd6 N ab ac) (i64.wrap (aa - 1))).bind fun ae=>some ((aa,ad) :: ae)) else (some [])
termination_by structural x=>x
def Zn3 (N:Nat) (aa:List Int):Option Rf:=
  Zd6 N aa N (i64.wrap ((aa.length:Int) - 1))
theorem Z5q (N:Nat) (col:Zd) (w0:World) (g0:Nat) (af0:Option Addr) (capf0:Nat) (ab:List Int) (hf0:Sl rI col w0 af0 capf0 ab) (hb0:Zg 33 450 col w0 g0 #[.slice af0 ab.length capf0]) (r:List Rb) (hm:Zn3 N ab=some r):
    Zgo prog 1 215 [.pointer (some ⟨g0,0,none⟩)] (fun (y:Int×Int) (col:Zd) (w:World) (args:List Value)=>args=[.int .i64 y.1,.int .i64 y.2]) r col w0:=by
 intro l J X hjs hxs hy aa;refine Zel (m:=19) (args:=[.func (.yield l) #[] #[],.pointer (some ⟨g0,0,none⟩)]) func215 rfl rfl rfl rfl ?_;rw [Zn3.eq_1] at hm;refine go ?_;refine lW hb0.at1<|go ?_;refine Zv [0,1,1000000] (fun n f ad=>∃ ae r af ac,ac=n∧Zd6 N ab ac af=some r∧J r ae ad∧Sl rI ae ad af0 capf0 ab∧Zg 33 450 ae ad g0 #[.slice af0 ab.length capf0]∧[3].map f=[.int .i64 af]) N ⟨_,_,_,_,rfl,hm,aa,hf0,hb0,rfl⟩ ?_;clear hm;intro n f ad hI;obtain ⟨ae,r,af,ac,hn,hm,aa,hf0,hb0,hs⟩:=hI;subst hn;refine .lL [3] hs ?_
 cases ac with
 | zero=>rw [Zd6.eq_1] at hm;cases hm
 | succ ac=>
  rw [Zd6.eq_2] at hm;refine go ?_;refine Zo hm (fun hb hm=>go ?_) fun hb hm=>go ?_
  ·refine lM (.func (.yield l) #[] #[])<|X4 rfl<|lW hb0.at1<|X4 rfl ?_;obtain ⟨ai,ag,hm⟩:=bZ hm;refine lI ag (hf0.addr ag)<|lW (hf0.atInt ag) ?_;obtain ⟨ak,hc_8m,aj⟩:=bZ hm;cases aj;have hm:=hc_8m;refine ly2 rfl rfl rfl rfl (hy _ _ _ _ [.int .i64 af,.int .i64 ai] aa rfl) ?_;rintro _ al ⟨am,ah,⟨rfl,hJ⟩ | ⟨rfl,hX⟩⟩
   ·refine ⟨_,rfl,?_⟩;have aa:=hJ;refine go ?_;refine X0 rfl<|go ?_;replace hf0:=hf0.kpp ah;replace hb0:=hb0.kpp ah;exact ⟨ac,by omega,rfl,⟨_,_,_,_,rfl,hm,aa,hf0,hb0,rfl⟩⟩
   refine ⟨_,rfl,?_⟩;have aa:=hX;refine go ?_;refine X1 rfl<|Vd ?_;exact ⟨rfl,⟨_,rfl⟩,_,.inr aa⟩
  cases hm;exact ⟨rfl,⟨_,rfl⟩,_,.inl aa⟩
def Zn2 (N:Nat) (aa:List Int):Option Rf:=
  Zn3 N aa
theorem Z5p {N ac:Nat} {a0:Option Addr} {col:Zd} {w0:World} {aa:R2} {r:Rf} (hm:Zn2 N aa=some r) (h0:Sl rI col w0 a0 ac aa):
    Calls prog 186 #[.slice a0 aa.length ac] w0 (fun e w'=>∃ (col':Zd) (rv1:Value),e= .returned (rv1)∧Zf col w0 col' w'∧It prog 1 rv1 (fun (y:Int×Int) (col:Zd) (w:World) (args:List Value)=>args=[.int .i64 y.1,.int .i64 y.2]) r q0 col' w'):=by
 refine Xe 2 (m:=4) func186 rfl rfl rfl rfl rfl ?_;rw [Zn2.eq_1] at hm;have ab:=St.start col w0;refine go ?_;refine Zc4 (col:=(Zj col)) (v:=(.slice a0 aa.length ac)) 1 rfl rfl ?_;intro ad ai ag aj ae;replace ae:Zg 33 1 ag ai ad #[.slice a0 aa.length ac]:=ae;refine lv (v:=_) rfl rfl (T3 rfl)<|go ?_;refine lV (.func (.func 215) #[] #[.pointer (some ⟨ad,0,none⟩)]) (Z9m rfl)<|lA (.func (.func 215) #[] #[.pointer (some ⟨ad,0,none⟩)])<|go ?_;replace ab:=ab.grow aj;have af:=ab.finBox (G:=(fun n=>bif aI n 1 then 450 else 0)) ae (by decide) (by decide) (show (fun n=>bif aI n 1 then 450 else 0) 1=450 from rfl);have h0f:=ab.finSl (g:=(fun n=>bif aI n 1 then 450 else 0)) rfl (h0.k0.ks ab);refine ⟨rfl,V7 w0.heap.size col ag (fun n=>bif aI n 1 then 450 else 0),_,rfl,ab.fin (fun n=>bif aI n 1 then 450 else 0),215,[.pointer (some ⟨ad,0,none⟩)],rfl,call215,?_⟩;intro col9 w9 ah hk9;exact Z5q N col9 w9 ad a0 ac aa (h0f.itk ah hk9 rfl) (af.itk ah hk9 rfl) r hm
def Zd5:List Rb→Int→R2→Option R2
  | [],ac,ab=>some ab
  | aa :: ad,ac,ab=>Z4 (aa.2≠0) ((Zl ab aa.1).bind fun af=>(some (ab.set (aA aa.1) (bM ac aa.2))).bind fun ae=>Z4 (aa.2≠0) ((Zd5 ad) (i64.wrap (aZ ac aa.2)) ae))
termination_by structural x=>x
def Zln (N:Nat) (aa:List Int) (ab:Int):Option R2:=
  if (decide ((aa.length:Int)=0))=true then (some ([]:List Int)) else (Z4 (aa.length * 8≤281474976710656∧aa.length≤maxLen) ((Zn2 N aa).bind fun ac=>Zd5 ac ab (aM aa.length (0:Int))))
theorem Z5o {N a1:Nat} {a0:Option Addr} {col:Zd} {w0:World} {ag:R2} {am:Int} {r:R2} (c1:Nat) (hm:Zln N ag am=some r) (h0:Sl rI col w0 a0 a1 ag):
    Calls prog 140 #[.slice a0 ag.length a1,.int .i64 am] w0 (fun e w'=>∃ (col':Zd) (ra1:Option Addr) (rc2:Nat),e= .returned ((.slice ra1 r.length rc2))∧Zf col w0 col' w'∧Zb rI 3 c1 col' w' ra1 rc2 r):=by
 refine Z51 4 (mc:=499) (m:=28) (args:=[.slice a0 ag.length a1,.int .i64 am]) func140 rfl rfl rfl rfl rfl ?_;rw [Zln.eq_1] at hm;have aa:=St.start col w0;have hmk:Y0 499 (Zj col) w0 []:=.nil;refine go ?_;refine Zc4 (col:=(Zj col)) (v:=(.int .i64 am)) 1 rfl rfl ?_;intro a2 a9 a3 ba ac;replace ac:Zg 3 1 a3 a9 a2 #[.int .i64 am]:=ac;refine go ?_;replace hmk:=hmk.gr ba;replace aa:=aa.grow ba;refine Zo hm (fun hb hm=>go ?_) fun hb hm=>go ?_
 ·cases hm;refine ⟨_,[],rfl,hmk,?_⟩;intro bz bh bi;replace aa:=aa.kp bh bi;exact ⟨V7 w0.heap.size col a3 (fun n=>0),none,0,rfl,aa.fin (fun n=>0),Zb.nil⟩
 obtain ⟨bb,hm⟩:=Z9 hm;refine Sq (col:=a3) (w:=a9) (r:=rI) (n:=ag.length) (x0:=0) 2 rfl underlying33 Tryz.t3 rfl rfl rfl rfl rfl rfl rfl bb.1 bb.2 (Zaj .i64 0) ?_;intro a4 b0 bj a5 a6;refine Zax (col:=bj) (v:=(nI)) 3 rfl zeroValue33 ?_;intro ar bk bc au a7;replace a7:Zg 33 3 bc bk ar #[(nI)]:=a7;refine Sp (v:=(.slice a4 ((aM ag.length (0:Int)).length) ag.length)) a7 sizeOf33 rfl rfl (by intro u hu;simp only [Value.cells,aO,bG,or_false] at hu;subst hu;rfl) rfl rfl ?_;intro bm av bn ab;replace ab:Zg 33 3 bc bm ar #[.slice a4 ((aM ag.length (0:Int)).length) ag.length]:=ab;refine go ?_;obtain ⟨bo,bp,hm⟩:=bZ hm;replace aa:=((aa.grow a5).grow au).kp av bn;refine Zi (Z5p bp (h0.k0.ks aa)) ?_;rintro _ b1 ⟨bq,b2,rfl,aq,br⟩;refine ⟨_,rfl,go ?_⟩;replace ac:=(((ac.gr a5).gr au).kp av).gr aq;replace hmk:=(((hmk.gr a5).gr au).kp av).gr aq;replace ab:=ab.gr aq;replace aa:=aa.grow aq;refine Zmc (psl:=[16,17]) (arr:=(fun (y:Int×Int) (col:Zd) (w:World) (args:List Value)=>args=[.int .i64 y.1,.int .i64 y.2])) (ys:=bo) (col:=bq) 498 rfl br rfl hmk rfl rfl (by rintro _ _ _ _ rfl;rfl) (fun ys_ ad al=>∃ (ae:Int) (ai:Option Addr) (aj:Nat) (ak:List Int),Zd5 ys_ ae ak=some r∧St w0 (Zj col) ad al∧Zg 3 1 ad al a2 #[.int .i64 ae]∧Zb rI 3 2 ad al ai aj ak∧Zg 33 3 ad al ar #[.slice ai ak.length aj]) (fun _ _ _=>False) ?_ ?_ ⟨am,a4,ag.length,(aM ag.length (0:Int)),hm,aa,ac,((a6.gr au).kp av).gr aq,ab⟩ ?_ ?_ ?_
 ·intro ys_ ad al col2_ w2_ hJ hk;obtain ⟨ae,ai,aj,ak,hm,aa,ac,af,ab⟩:=hJ;exact ⟨ae,ai,aj,ak,hm,aa.kpp hk rfl rfl,ac.kpp hk rfl,af.kpp hk rfl rfl,ab.kpp hk rfl⟩
 ·intro _ _ _ _ _ h _;exact h
 ·intro b3 b4 b5 ah b6 ad al args hJ hrec hmk harr;obtain ⟨ae,ai,aj,ak,hm,aa,ac,af,ab⟩:=hJ;rw [Zd5.eq_2] at hm;have hki:=Zt.refl (pC 1) ad al;subst harr;refine go ?_;refine ⟨_,hrec,?_⟩;intro b7 b8 an bd hrec2;have hrec:=hrec2;refine go ?_;refine Y8 (col:=ad) [(0,0),(1,1),(2,0),(3,1),(4,1),(5,1),(6,2)] (by kernel_rfl) (by kernel_rfl) ?_;replace ab:=ab.kp an;refine xW (fun _ hC=>ab.at1.gr (hC.bl ad)) ?_;refine xu rfl rfl (fun _=>Yq rfl) ?_;replace ac:=ac.kp an;refine xW (fun _ hC=>ac.at1.gr (hC.bl ad)) ?_;refine xu rfl rfl (fun _=>Yq rfl) ?_;obtain ⟨bs,hm⟩:=Z9 hm;refine xu (v:=(.int .i64 (bM ae ah.2))) rfl rfl (fun _=>Qv ae ah.2 rfl rfl bs) ?_;obtain ⟨b9,aw,hm⟩:=bZ hm;replace af:=af.kp an;refine xu rfl rfl (fun _=>Yu underlying33 sizeOf3 rfl rfl (Xa aw).1 (Xa aw).2.1 (af.addr aw)) ?_;refine xe rfl rfl ?_;intro ca hC0;have hC:=hC0.bl ad;obtain ⟨ax,ay,hm⟩:=bZ hm;have ay:ax=ak.set (aA ah.1) (bM ae ah.2):=(Option.some.inj ay).symm;replace af:=af.gr hC;refine Wl (x1:=bM ae ah.2) af aw ?_;intro bt ao be az;rw [← ay] at az;replace ab:=(ab.gr hC).kp ao;replace ab:Zg 33 3 ad bt ar #[.slice ai ax.length aj]:=by rw [← (show ak.length=ax.length by rw [ay,nS])];exact ab
  refine Zk<|xk ad<|Yz ?_;replace hmk:=((hmk.kp an).gr hC).kp ao;replace hki:=((hki.kp an bd rfl).gr hC).kp ao be rfl;replace aa:=((aa.kp an bd).grow hC).kp ao be;replace ac:=(ac.gr hC).kp ao;replace hrec:=(hrec.gr hC).kp ao;intro cb hC;replace hC:=hC.bl ad;refine Ve ?_;replace ac:=ac.gr hC;refine lW ac.at1<|X4 rfl ?_;obtain ⟨bu,hm⟩:=Z9 hm;refine lV (.int .i64 (i64.wrap (aZ ae ah.2))) (Uc ae ah.2 rfl rfl bu)<|Sp (v:=(.int .i64 (i64.wrap (aZ ae ah.2)))) ac sizeOf3 rfl rfl (by intro u hu;simp only [Value.cells,aO,bG,or_false] at hu;subst hu;rfl) rfl rfl ?_;intro bv ap bf a8;replace a8:Zg 3 1 ad bv a2 #[.int .i64 (i64.wrap (aZ ae ah.2))]:=a8;refine Zk ?_;replace ab:=(ab.gr hC).kp ap;replace hmk:=(hmk.gr hC).kp ap;replace aa:=(aa.grow hC).kp ap bf;exact ⟨_,(hki.gr hC).kp ap bf rfl,⟨(i64.wrap (aZ ae ah.2)),ai,aj,ax,hm,aa,a8,(az.gr hC).kp ap,ab⟩,(hrec.gr hC).kp ap,hmk⟩
 ·intro bw ad al hJ hmk;obtain ⟨ae,ai,aj,ak,hm,aa,ac,af,ab⟩:=hJ;rw [Zd5.eq_1] at hm;refine go ?_;refine lW ab.at1<|go ?_;cases hm;refine ⟨_,(bw :: []),rfl,hmk,?_⟩;intro cc bg bx;replace aa:=aa.kp bg bx;exact ⟨V7 w0.heap.size col ad (fun n=>bif aI n 2 then c1 else 0),ai,aj,rfl,aa.fin (fun n=>bif aI n 2 then c1 else 0),aa.finOwn (g:=(fun n=>bif aI n 2 then c1 else 0)) rfl (af.kp bg) (by decide) (by decide) rfl⟩
 intro _ _ _ _ h;exact h.elim
def Zd4 (N:Nat) (ab:Int) (ac:List Int):Nat→Int→Option (List R6)
  | 0,_=>none
  | ad+1,aa=>if (decide (aa<ab))=true then ((Zln N ac aa).bind fun ae=>((Zd4 N ab ac ad) (i64.wrap (aa+1))).bind fun af=>some ((aa,ae) :: af)) else (some [])
termination_by structural x=>x
def Zn1 (N:Nat) (aa:Int) (ab:List Int):Option (List R6):=
  Zd4 N aa ab N 0
theorem Z5n (N:Nat) (cy:Nat) (col:Zd) (w0:World) (g0:Nat) (ah:Int) (hb0:Zg 3 450 col w0 g0 #[.int .i64 ah]) (g1:Nat) (af1:Option Addr) (capf1:Nat) (ad:List Int) (hf1:Zb rI 3 450 col w0 af1 capf1 ad) (hb1:Zg 33 450 col w0 g1 #[.slice af1 ad.length capf1]) (r:List R6) (hm:Zn1 N ah ad=some r):
    Zgo prog 1 139 [.pointer (some ⟨g0,0,none⟩),.pointer (some ⟨g1,0,none⟩)] (fun (y:Int×List Int) (col:Zd) (w:World) (args:List Value)=>∃ (a1:Option Addr) (ak:Nat),args=[.int .i64 y.1,.slice a1 y.2.length ak]∧Zb rI 3 cy col w a1 ak y.2) r col w0:=by
 intro l J X hjs hxs hy aa;refine Zel (m:=17) (args:=[.func (.yield l) #[] #[],.pointer (some ⟨g0,0,none⟩),.pointer (some ⟨g1,0,none⟩)]) func139 rfl rfl rfl rfl ?_;rw [Zn1.eq_1] at hm;refine go ?_;refine lW hb0.at1<|go ?_;refine Zv [0,2,5,1000000] (fun n f ae=>∃ ab r ai af,af=n∧Zd4 N ah ad af ai=some r∧J r ab ae∧Zb rI 3 450 ab ae af1 capf1 ad∧Zg 33 450 ab ae g1 #[.slice af1 ad.length capf1]∧Zg 3 450 ab ae g0 #[.int .i64 ah]∧[6].map f=[.int .i64 ai]) N ⟨_,_,0,_,rfl,hm,aa,hf1,hb1,hb0,rfl⟩ ?_;clear hm;intro n f ae hI;obtain ⟨ab,r,ai,af,hn,hm,aa,hf1,hb1,hb0,hs⟩:=hI;subst hn;refine .lL [6] hs ?_
 cases af with
 | zero=>rw [Zd4.eq_1] at hm;cases hm
 | succ af=>
  rw [Zd4.eq_2] at hm;refine go ?_;refine Zo hm (fun hb hm=>go ?_) fun hb hm=>go ?_
  ·refine lM (.func (.yield l) #[] #[])<|X4 rfl<|lW hb1.at1<|X4 rfl ?_;obtain ⟨an,ao,hm⟩:=bZ hm;refine Zi (Z5o 501 ao (hf1.toSlF (Zh.int .i64))) ?_;rintro _ ar ⟨ap,al,am,rfl,ac,ag⟩;refine ⟨_,rfl,?_⟩;replace ag:=ag.thaw (Z1 .i64) ac ((Fz.refl (col:=ab)).froz 450);replace ac:=ac.thawR (col:=ab);generalize Xc ae.heap.size ab ap=au at *;replace hf1:=hf1.gr ac;replace hb1:=hb1.gr ac;replace hb0:=hb0.gr ac;replace aa:=hjs _ _ _ _ _ aa ac.toP;replace hf1:=hf1.recol 501 cy (by decide);replace ag:=ag.recolSelf cy (by decide);replace hb1:=hb1.recol 501 cy (by decide);replace hb0:=hb0.recol 501 cy (by decide);replace aa:=hjs _ _ _ _ _ aa ((Zt.refl _ _ _).recol 501 cy rfl);obtain ⟨av,hc_15m,aq⟩:=bZ hm;cases aq;have hm:=hc_15m;refine ly2 rfl rfl rfl rfl (hy _ _ _ _ [.int .i64 ai,.slice al an.length am] aa ⟨al,am,rfl,ag⟩) ?_;rintro _ aw ⟨ax,aj,⟨rfl,hJ⟩ | ⟨rfl,hX⟩⟩
   ·refine ⟨_,rfl,?_⟩;have aa:=hJ;refine go ?_;refine X0 rfl<|go ?_;replace hf1:=hf1.kpp aj;replace hb1:=hb1.kpp aj;replace hb0:=hb0.kpp aj;exact ⟨af,by omega,rfl,⟨_,_,_,_,rfl,hm,aa,hf1,hb1,hb0,rfl⟩⟩
   refine ⟨_,rfl,?_⟩;have aa:=hX;refine go ?_;refine X1 rfl<|Vd ?_;exact ⟨rfl,⟨_,rfl⟩,_,.inr aa⟩
  cases hm;exact ⟨rfl,⟨_,rfl⟩,_,.inl aa⟩
def Zi8 (N:Nat) (ab:List Int):Option (List R6):=
  (Sz ab).bind fun aa=>(Zi9 aa).bind fun ac=>Zn1 N ac.1 aa
theorem Zu0 {N ay:Nat} {a0:Option Addr} {col:Zd} {w0:World} {ai:R2} {r:(List R6)} (cy:Nat) (hm:Zi8 N ai=some r) (h0:Sl rI col w0 a0 ay ai):
    Calls prog 60 #[.slice a0 ai.length ay] w0 (fun e w'=>∃ (col':Zd) (rv1:Value),e= .returned (rv1)∧Zf col w0 col' w'∧It prog 1 rv1 (fun (y:Int×List Int) (col:Zd) (w:World) (args:List Value)=>∃ (a1:Option Addr) (az:Nat),args=[.int .i64 y.1,.slice a1 y.2.length az]∧Zb rI 3 cy col w a1 az y.2) r q1 col' w'):=by
 refine Xe 2 (m:=14) func60 rfl rfl rfl rfl rfl ?_;rw [Zi8.eq_1] at hm;have aa:=St.start col w0;refine go ?_;refine lv (v:=_) rfl rfl (T3 rfl)<|go ?_;obtain ⟨aj,a5,hm⟩:=bZ hm;refine Zi (Zgz 1 a5 (h0.k0.ks aa)) ?_;rintro _ bf ⟨a6,ak,al,rfl,a7,ac⟩;refine ⟨_,rfl,?_⟩;refine Zax (col:=a6) (v:=(nI)) 2 rfl zeroValue33 ?_;intro ad a8 ag a2 am;replace am:Zg 33 2 ag a8 ad #[(nI)]:=am;refine Sp (v:=(.slice ak aj.length al)) am sizeOf33 rfl rfl (by intro u hu;simp only [Value.cells,aO,bG,or_false] at hu;subst hu;rfl) rfl rfl ?_;intro a3 a4 a9 ae;replace ae:Zg 33 2 ag a3 ad #[.slice ak aj.length al]:=ae;refine go ?_;refine lW ae.at1 ?_;obtain ⟨ab,ba,hm⟩:=bZ hm;replace ac:=(ac.gr a2).kp a4;refine Zi (Zu1 ba (ac.toSlF (Zh.int .i64))) ?_;rintro _ bb ⟨rfl,ah⟩;refine ⟨_,rfl,?_⟩;replace ah:Zf ag a3 ag bb:=.of_below ah;refine lM (.tuple #[.int .i64 ab.1,.int .i64 ab.2])<|lV (.int .i64 ab.1) (Xo rfl rfl)<|lV (.int .i64 ab.2) (Xo rfl rfl)<|Zax (col:=ag) (v:=(.int .i64 0)) 3 rfl zeroValue3 ?_;intro af bc an ao ap;replace ap:Zg 3 3 an bc af #[.int .i64 0]:=ap;refine Sp (v:=(.int .i64 ab.1)) ap sizeOf3 rfl rfl (by intro u hu;simp only [Value.cells,aO,bG,or_false] at hu;subst hu;rfl) rfl rfl ?_;intro bd aq be ar;replace ar:Zg 3 3 an bd af #[.int .i64 ab.1]:=ar;refine go ?_;refine lV (.func (.func 139) #[] #[.pointer (some ⟨af,0,none⟩),.pointer (some ⟨ad,0,none⟩)]) (Zsl rfl rfl)<|lA (.func (.func 139) #[] #[.pointer (some ⟨af,0,none⟩),.pointer (some ⟨ad,0,none⟩)])<|go ?_;replace aa:=(((((aa.grow a7).grow a2).kp a4 a9).grow ah).grow ao).kp aq be;have au:=aa.finBox (G:=(fun n=>bif aI n 3 then 450 else bif aI n 2 then 450 else bif aI n 1 then 450 else 0)) ar (by decide) (by decide) (show (fun n=>bif aI n 3 then 450 else bif aI n 2 then 450 else bif aI n 1 then 450 else 0) 3=450 from rfl);have av:=aa.finBox (G:=(fun n=>bif aI n 3 then 450 else bif aI n 2 then 450 else bif aI n 1 then 450 else 0)) (((ae.gr ah).gr ao).kp aq) (by decide) (by decide) (show (fun n=>bif aI n 3 then 450 else bif aI n 2 then 450 else bif aI n 1 then 450 else 0) 2=450 from rfl);replace ac:=((ac.gr ah).gr ao).kp aq
 have aw:=aa.finOwn (g:=(fun n=>bif aI n 3 then 450 else bif aI n 2 then 450 else bif aI n 1 then 450 else 0)) rfl ac (by decide) (by decide) (show (fun n=>bif aI n 3 then 450 else bif aI n 2 then 450 else bif aI n 1 then 450 else 0) 1=450 from rfl);refine ⟨rfl,V7 w0.heap.size col an (fun n=>bif aI n 3 then 450 else bif aI n 2 then 450 else bif aI n 1 then 450 else 0),_,rfl,aa.fin (fun n=>bif aI n 3 then 450 else bif aI n 2 then 450 else bif aI n 1 then 450 else 0),139,[.pointer (some ⟨af,0,none⟩),.pointer (some ⟨ad,0,none⟩)],rfl,call139,?_⟩;intro col9 w9 ax hk9;exact Z5n N cy col9 w9 af ab.1 (au.itk ax hk9 rfl) ad ak al aj (aw.itk ax hk9 rfl (Z1 .i64)) (av.itk ax hk9 rfl) r hm
def X5:List Nat→Nat
 | []=>1
 | s :: ss=>s * X5 ss
def Vo:List Nat→Nat→List Int
 | [],_=>[]
 | s :: ss,a=>((a / X5 ss:Nat):Int) :: Vo ss (a % X5 ss)
theorem Zy2:∀ ss:List Nat,(∀ s ∈ ss,0<s)→0<X5 ss
 | [],_=>by rw [X5];decide
 | s :: ss,h=>Nat.mul_pos (h s aC) (Zy2 ss fun x a=>h x (aB _ a))
theorem Zqm:∀ (ss:List Nat) (a:Nat),(Vo ss a).length=ss.length
 | [],_=>rfl
 | s :: ss,a=>by rw [Vo,nC,nC,Zqm ss]
def Vm (ss:List Nat):List Int:=ss.map fun s:Nat=>(s:Int)
theorem Zm4 {l:List Int} (h:l.length≤1099511627776):Sz l=some l:=by
 rw [Sz,Xf (by simp only [nN,maxLen];omega),bN]
theorem Z1c:∀ (ss:List Nat) (c:Nat),0<c→(∀ s ∈ ss,0<s)→c * X5 ss≤65536→Zcr (Vm ss) (c:Int)=some (((c * X5 ss:Nat):Int),0)
 | [],c,_,_,_=>by rw [Vm,bW,Zcr.eq_1,X5,Nat.mul_one]
 | s :: ss,c,d,a,f=>by
  have g:=Zy2 ss fun x b=>a x (aB _ b)
  have i:=a s aC
  rw [X5,← Nat.mul_assoc] at f ⊢
  have k:c * s≤c * s * X5 ss:=dN _ g
  have e:aZ 2147483647 (c:Int)=((2147483647 / c:Nat):Int):=rfl
  have l:s≤2147483647 / c:=by
   rw [Nat.le_div_iff_mul_le d,bY];omega
  have m:2147483647 / c≤2147483647:=cS _ _
  have j:(c:Int) * (s:Int)=((c * s:Nat):Int):=(bV c s).symm
  rw [Vm,aS,Zcr.eq_2,Xf (by omega),e,Zw (x:=((2147483647 / c:Nat):Int)) (by omega),if_neg (dF (by omega)),j,Zw (by omega)]
  exact Z1c ss (c * s) (Nat.mul_pos d i) (fun x b=>a x (aB _ b)) f
theorem Z1b (p:List Int):∀ (ss:List Nat),(∀ s ∈ ss,0<s)→Zbm p (Vm ss) false=Zcr p 1
 | [],_=>by rw [Vm,bW,Zbm.eq_1,if_neg (by decide)]
 | s :: ss,a=>by
  have c:=a s aC
  rw [Vm,aS,Zbm.eq_2,if_neg (dF (by omega)),if_neg (by decide),Zlm,decide_eq_false (by omega)]
  exact Z1b p ss fun x b=>a x (aB _ b)
theorem Xaj {ss:List Nat} (hs:∀ s ∈ ss,0<s) (hb:X5 ss≤65536):Zi9 (Vm ss)=some ((X5 ss:Int),0):=by
 have:=Z1c ss 1 (by decide) hs (by rw [aX];exact hb)
 rw [Zi9,Z1b _ ss hs,show (1:Int)=((1:Nat):Int) from rfl,this,aX]
def Zgv (ss:List Nat):Nat→List Rb
 | 0=>[]
 | k+1=>((k:Int),((ss.getD k 0:Nat):Int)) :: Zgv ss k
theorem Xbe {ss:List Nat} {k:Nat} (h:k<ss.length):Zl (Vm ss) (k:Int)=some ((ss.getD k 0:Nat):Int):=by
 rw [Zgq,Vm,cW,aL h,aF,aL h];rfl
theorem Z1a (N:Nat) (ss:List Nat) (hl:ss.length≤1099511627776):∀ (f k:Nat),k≤ss.length→k<f→Zd6 N (Vm ss) f ((k:Int) - 1)=some (Zgv ss k)
 | 0,k,_,h=>by omega
 | f+1,0,a,b=>by rw [Zd6.eq_2,if_neg (by decide)];rfl
 | f+1,k+1,a,b=>by
  rw [Zd6.eq_2,show ((k+1:Nat):Int) - 1=(k:Int) by omega,if_pos (dT (by omega)),Xbe (by omega),oB,Zw (by omega),Z1a N ss hl f k (by omega) (by omega),oB,Zgv]
theorem Z1d (ss:List Nat) (hs:∀ s ∈ ss,0<s) (a:Nat) (ha:a<4611686018427387904):∀ k,k≤ss.length→Zd5 (Zgv ss k) ((a / X5 (ss.drop k):Nat):Int) (aM k 0++Vo (ss.drop k) (a % X5 (ss.drop k)))=some (Vo ss (a % X5 ss))
 | 0,_=>by rw [Zgv,Zd5.eq_1,aP];rfl
 | k+1,l=>by
  have b:k<ss.length:=by omega
  have c:ss.drop k=ss.getD k 0 :: ss.drop (k+1):=by
   rw [aJ b,aF,aL b];rfl
  have d:=Z1d ss hs a ha k (by omega)
  have m:0<ss.getD k 0:=by
   rw [aF,aL b]
   exact hs _ (aH b)
  rw [c,X5,Vo,Nat.mod_mul_left_mod,bY,Nat.mod_mul_right_div_self,← Nat.div_div_eq_div_mul] at d
  have j:=cS a (X5 (ss.drop (k+1)))
  generalize a / X5 (ss.drop (k+1))=q at *
  generalize Vo (ss.drop (k+1)) (a % X5 (ss.drop (k+1)))=D at *
  have e:bM (q:Int) ((ss.getD k 0:Nat):Int)=((q % ss.getD k 0:Nat):Int):=rfl
  have f:aZ (q:Int) ((ss.getD k 0:Nat):Int)=((q / ss.getD k 0:Nat):Int):=rfl
  have n:q / ss.getD k 0≤q:=cS _ _
  have g:(aM (k+1) (0:Int)++D).set k ((q % ss.getD k 0:Nat):Int)=aM k 0++((q % ss.getD k 0:Nat):Int) :: D:=by
   rw [List.replicate_succ',bO,gN (i:=k) _ (by rw [bI];exact bB _),bI,hO];rfl
  generalize q / ss.getD k 0=z at *
  rw [Zgv,Zd5.eq_2,Xf (by simp only;omega)]
  dsimp only
  rw [Z0 (by rw [nA,bI];omega),oB,e,f,aD,g,oB,Xf (by omega),Zw (by omega)]
  exact d
theorem Z6i {N:Nat} {ss:List Nat} (hs:∀ s ∈ ss,0<s) (hl:ss.length≤1048576) (hN:1048577<N) {a:Nat} (ha:a<X5 ss) (hb:X5 ss≤65536):Zln N (Vm ss) (a:Int)=some (Vo ss a):=by
 have b:(Vm ss).length=ss.length:=by rw [Vm,aN]
 rw [Zln,b]
 by_cases h0:ss.length=0
 ·have:ss=[]:=List.eq_nil_of_length_eq_zero h0
  rw [if_pos (dT (by omega)),this,Vo]
 ·have c:=Z1a N ss (by omega) N ss.length (bB _) (by omega)
  have d:=Z1d ss hs a (by omega) ss.length (bB _)
  rw [List.drop_length,X5,Nat.div_one,Vo,eG,Nat.mod_eq_of_lt ha] at d
  rw [if_neg (dF (by omega)),Xf (by simp only [maxLen];omega),Zn2,Zn3,b,Zw (by omega),c,oB]
  exact d
def Zc3 (ss:List Nat):Nat→Nat→List R6
 | _,0=>[]
 | k,m+1=>((k:Int),Vo ss k) :: Zc3 ss (k+1) m
theorem Zz0 {N:Nat} {ss:List Nat} (hs:∀ s ∈ ss,0<s) (hl:ss.length≤1048576) (hN:1048577<N) (hb:X5 ss≤65536):∀ (m k f:Nat),k+m=X5 ss→m<f→Zd4 N (X5 ss:Int) (Vm ss) f (k:Int)=some (Zc3 ss k m)
 | m,k,0,_,h=>by omega
 | 0,k,f+1,a,b=>by rw [Zd4.eq_2,if_neg (dF (by omega))];rfl
 | m+1,k,f+1,a,b=>by
  rw [Zd4.eq_2,if_pos (dT (by omega)),Z6i hs hl hN (by omega) hb,oB,wS (by omega),Zz0 hs hl hN hb m (k+1) f (by omega) (by omega),oB,Zc3]
theorem Z9y {N:Nat} {ss:List Nat} (hs:∀ s ∈ ss,0<s) (hl:ss.length≤1048576) (hN:1048577<N) (hb:X5 ss≤65536):Zi8 N (Vm ss)=some (Zc3 ss 0 (X5 ss)):=by
 have a:(Vm ss).length=ss.length:=by rw [Vm,aN]
 rw [Zi8,Zm4 (by omega),oB,Xaj hs hb,oB,Zn1]
 exact Zz0 hs hl hN hb (X5 ss) 0 N (by omega) (by omega)
theorem Z53 {N W:Nat} {n:Zq} (hf:X7 N n) (hs:Ww n W) (hr:Z5 N (8 * W+40)) (hN:2000000<N):Vj N n=some 0:=by
 obtain ⟨l,b,k,m,o,q⟩:=hf.or
 have c:=hf.ev.v;have r:=hf.ev.p;have a:=hf.ev.t;have j:=hf.le
 have d:Ze9 (n.1,n.2.1,n.2.2.1,n.2.2.2.1,n.2.2.2.2)=some (Se n.2.1 n.2.2.1 n.2.1.length 0):=Zx8 n c
 have e:Q4 N n.2.2.2.1=some 0:=by rw [Q4,b];rfl
 have f:=Zrm (N:=N) hs hf.ev n.2.2.2.2 0 (by simp) (by omega)
 have g:=Zrj (N:=N) (n:=n) (W:=W) (hr.mono (by omega)) n.2.2.2.2 (fun t h=>⟨hs.tl t h,hs.tq t h,hs.lim t h⟩)
 have i:=Zrn (N:=N) hs hf.ev hf.sh hr (by omega) n.2.2.2.2 0 (by simp) (by omega)
 rw [Vj,if_neg (by rw [decide_eq_true (by omega)];decide),if_neg (by rw [decide_eq_true (by omega)];decide),show (!decide ((n.2.2.2.2.length:Int)=(n.2.1.length:Int)))=false by rw [decide_eq_true (by omega)];rfl,Zb7,if_neg (show ¬ (false=true) by decide),if_neg (dF (by omega)),
  d,oB,hf.nm,if_neg (by decide),e,oB,if_neg (by decide),f,a,if_pos hf.sh,g,hf.en,if_neg (by decide),i,a,hf.su]
def Zku:List R3→R2→Option R2
  | [],aa=>some aa
  | ab :: ac,aa=>Z4 ((aa.length+[(ab.length:Int)].length) * 8≤140737488355328∧aa.length+[(ab.length:Int)].length≤maxLen) ((Zku ac) (aa++[(ab.length:Int)]))
termination_by structural x=>x
def Zrf (aa:R0):Option R2:=
  Zku aa.2.2.1 ([]:List Int)
theorem Z4q {am an ao ap:Nat} {aq ar au av:Option Addr} {col:Zd} {w0:World} {aa:R0} {r:R2} (c1:Nat) (hm:Zrf aa=some r) (a9:Sl Za.str col w0 aq am aa.2.1) (ac:Sl (Za.slice Za.str) col w0 ar an aa.2.2.1) (ba:Sl (Za.slice rI) col w0 au ao aa.2.2.2.1) (bb:Sl (Za.slice (Za.pair (Za.pair Za.bool (Za.slice rU)) (Za.slice rU))) col w0 av ap aa.2.2.2.2):
    Calls prog 105 #[(.agg #[.string aa.1,.slice aq aa.2.1.length am,.slice ar aa.2.2.1.length an,.slice au aa.2.2.2.1.length ao,.slice av aa.2.2.2.2.length ap])] w0 (fun e w'=>∃ (col':Zd) (ra1:Option Addr) (rc2:Nat),e= .returned ((.slice ra1 r.length rc2))∧Zf col w0 col' w'∧Zb rI 3 c1 col' w' ra1 rc2 r):=by
 refine Xe 2 (m:=20) func105 rfl rfl rfl rfl rfl ?_;rw [Zrf.eq_1] at hm;have ab:=St.start col w0;refine go ?_;refine Xi (col:=(Zj col)) 1 rfl ?_;intro bc bd be ax ay;refine go ?_;refine Xl ay ?_;refine go ?_;replace ab:=ab.grow ax;refine Zv [7,8,1000000] (fun n f ai=>∃ af aj ak ag ad ae,n=ae.length∧aa.2.2.1.drop ad=ae∧Zku ae ag=some r∧St w0 (Zj col) af ai∧Zb rI 3 2 af ai aj ak ag∧[9,3].map f=[.int .i64 ad,.slice aj ag.length ak]) aa.2.2.1.length ⟨_,none,0,_,0,_,rfl,rfl,hm,ab,Zb.nil,rfl⟩ ?_;clear hm;intro n f ai hI;obtain ⟨af,aj,ak,ag,ad,ae,hn,hl,hm,ab,ah,hs⟩:=hI;subst hn;refine .lL [9,3] hs ?_;replace ac:=ac.k0
 cases ae with
 | nil=>
  have hk:¬ ((ad:Int)<(aa.2.2.1.length:Int)):=by have:=aG.1 hl;omega
  have hkb:=decide_eq_false hk;rw [Zku.eq_1] at hm;refine go ?_;refine X0 (congrArg Value.bool hkb)<|go ?_;cases hm;exact ⟨rfl,_,_,_,rfl,ab.fin (cm [(2,c1)]),ab.fo ah⟩
 | cons az a0=>
  obtain ⟨al,a1,a2⟩:=Yf hl;have hk:(ad:Int)<(aa.2.2.1.length:Int):=by omega
  have hkb:=decide_eq_true hk;rw [Zku.eq_2] at hm;refine go ?_;refine X1 (congrArg Value.bool hkb)<|go ?_;refine lI al ((ac.ks ab).addr al) ?_;obtain ⟨_,a3,a4⟩:=(ac.ks ab).atN al;obtain ⟨⟨bf,bg,rfl,bh⟩,_⟩:=a3;refine lW a4.one<|go ?_;refine Vz (col:=af) [(az.length:Int)] 3 ?_;intro bi bj bk aw a5;obtain ⟨a6,hm⟩:=Z9 hm;refine Vy (ah.gr aw) (a5.srcN (NB.int (k:=.i64))) a6 ?_;intro bm bn bo bp a7 a8;refine go ?_;replace ab:=(ab.grow aw).kpp a7;exact ⟨a0.length,by simp,rfl,⟨_,_,_,_,_,_,rfl,a1,hm,ab,a8,(Yl (congrArg (Value.int .i64) (Yi (aE a2 (ac.ks ab).1.1))) rfl)⟩⟩
theorem Z63:Wa prog 3 1 8:=⟨Tryz.t3,_,rfl,rfl,rfl,rfl,rfl⟩
def Znq (aa:List Int) (ab:Bool):Option Rc:=
  if ab=true then (some (([]:List Int),4)) else (some (aa,0))
def Zkn (aa:List Int):List Int→(List Bool)→Option Rc
  | [],ab=>(Zi9 aa).bind fun ac=>if (!decide (ac.2=0))=true then (Znq aa true) else (Znq aa (decide (65536<ac.1)))
  | ad :: ae,ab=>(Zl ab ad).bind fun af=>if af=true then (some (([]:List Int),40)) else ((some (ab.set (aA ad) true)).bind fun ag=>(Zkn aa ae) ag)
termination_by structural x=>x
def Zkm (ab:List Int):List Rb→R2→Option Rc
  | [],aa=>Zkn ab aa (aM ab.length (false:Bool))
  | ac :: ad,aa=>Z4 ((0:Int)≤0∧0≤(aa.length:Int)∧(aa.length:Int)≤(aa.length:Int)∧(aa.length:Int)≤(aa.length:Int)) (Z4 (((aa.take (aA (aa.length:Int))).length+[ac.1].length) * 8≤140737488355328∧(aa.take (aA (aa.length:Int))).length+[ac.1].length≤maxLen) ((Zkm ab ad) ((aa.take (aA (aa.length:Int)))++[ac.1])))
termination_by structural x=>x
def Znr (kk_L2:(Option Rc)) (aa:Bool):Option Rc:=
  if aa=true then (some (([]:List Int),3)) else kk_L2
def Ze5 (ab:Rf) (ac:List Int) (aa:List Int):List Int→Option Rc
  | []=>Z4 (aa.length * 1≤281474976710656∧aa.length≤maxLen) (Zkm aa ab ac)
  | ad :: ae=>if (decide (ad<0))=true then (Znr (Ze5 ab ac aa ae) true) else (Znr (Ze5 ab ac aa ae) (decide ((aa.length:Int)≤ad)))
termination_by structural x=>x
def Zhr (kk_L1:(Option Rc)) (aa:Bool):Option Rc:=
  if aa=true then (some (([]:List Int),3)) else kk_L1
def Zb3 (ac:Rf) (ab:List Int) (aa:List Int):List Rb→Option Rc
  | []=>Ze5 ac ab aa ab
  | ad :: ae=>if (decide (ad.1<0))=true then (Zhr (Zb3 ac ab aa ae) true) else (if (decide ((aa.length:Int)≤ad.1))=true then (Zhr (Zb3 ac ab aa ae) true) else (if (decide (ad.2<0))=true then (Zhr (Zb3 ac ab aa ae) true) else ((Zl aa ad.1).bind fun af=>Zhr (Zb3 ac ab aa ae) (decide (af≤ad.2)))))
termination_by structural x=>x
def Znp (N:Nat) (aa:R0) (ab:Rf) (ad:List Int):Option Rc:=
  (Vj N (aa.1,aa.2.1,aa.2.2.1,aa.2.2.2.1,aa.2.2.2.2)).bind fun ac=>if (!decide (ac=0))=true then (some (([]:List Int),ac)) else ((Zrf (aa.1,aa.2.1,aa.2.2.1,aa.2.2.2.1,aa.2.2.2.2)).bind fun ae=>Zb3 ab ad ae ab)
theorem Zuf {N bx bz b0 b1 b2 b3:Nat} {b4 b5 b6 b7 a1 a2:Option Addr} {col:Zd} {w0:World} {af:R0} {ae:Rf} {ah:R2} {r:Rc} (c1:Nat) (hm:Znp N af ae ah=some r) (bf:Sl Za.str col w0 b4 bx af.2.1) (bg:Sl (Za.slice Za.str) col w0 b5 bz af.2.2.1) (bh:Sl (Za.slice rI) col w0 b6 b0 af.2.2.2.1) (bi:Sl (Za.slice (Za.pair (Za.pair Za.bool (Za.slice rU)) (Za.slice rU))) col w0 b7 b1 af.2.2.2.2) (h1:Sl (Za.pair rI rI) col w0 a1 b2 ae) (h2:Sl rI col w0 a2 b3 ah):
    Calls prog 56 #[(.agg #[.string af.1,.slice b4 af.2.1.length bx,.slice b5 af.2.2.1.length bz,.slice b6 af.2.2.2.1.length b0,.slice b7 af.2.2.2.2.length b1]),.slice a1 ae.length b2,.slice a2 ah.length b3] w0 (fun e w'=>∃ (col':Zd) (ra1:Option Addr) (rc2:Nat),e= .returned (.tuple #[.slice ra1 r.1.length rc2,.int .i64 r.2])∧Zf col w0 col' w'∧Zb rI 3 c1 col' w' ra1 rc2 r.1):=by
 refine Zj0 6 7 (m:=121) (args:=[(.agg #[.string af.1,.slice b4 af.2.1.length bx,.slice b5 af.2.2.1.length bz,.slice b6 af.2.2.2.1.length b0,.slice b7 af.2.2.2.2.length b1]),.slice a1 ae.length b2,.slice a2 ah.length b3]) func56 rfl rfl rfl rfl rfl ?_;rw [Znp.eq_1] at hm;have aa:=St.start col w0;refine go ?_;refine Xi (col:=(Zj col)) 1 rfl ?_;intro ea c6 cu c7 bj;refine go ?_;refine lV _ (Z8 isAgg27 sizeOf27 bj) ?_;obtain ⟨eb,c8,hm⟩:=bZ hm;replace bf:=bf.k0;replace bg:=bg.k0;replace bh:=bh.k0;replace bi:=bi.k0;replace aa:=aa.grow c7;refine Zi (Zmv c8 (bf.ks aa) (bg.ks aa) (bh.ks aa) (bi.ks aa)) ?_;rintro _ c9 ⟨rfl,bk⟩;refine ⟨_,rfl,?_⟩;replace bk:Zf cu c6 cu c9:=.of_below bk;refine go ?_;replace h1:=h1.k0;replace h2:=h2.k0;replace aa:=aa.grow bk;refine Zo hm (fun hb hm=>go ?_) fun hb hm=>go ?_
 ·cases hm;exact ⟨rfl,_,none,0,rfl,aa.fin (cm []),Zb.nil⟩
 refine lV _ (Z8 isAgg27 sizeOf27 (bj.gr bk)) ?_;obtain ⟨ad,da,hm⟩:=bZ hm;refine Zi (Z4q 2 da (bf.ks aa) (bg.ks aa) (bh.ks aa) (bi.ks aa)) ?_;rintro _ ec ⟨ed,al,am,rfl,db,ab⟩;refine ⟨_,rfl,go ?_⟩;replace aa:=aa.grow db;refine Zv [1,2,28,29,9,1000000] (fun n f b8=>∃ bm aw ax,n=ax.length∧ae.drop aw=ax∧Zb3 ae ah ad ax=some r∧St w0 (Zj col) bm b8∧Zb rI 3 2 bm b8 al am ad∧[30].map f=[.int .i64 aw]) ae.length ⟨_,0,_,rfl,rfl,hm,aa,ab,rfl⟩ ?_;clear hm;intro n f b8 hI;obtain ⟨bm,aw,ax,hn,hl,hm,aa,ab,hs⟩:=hI;subst hn;refine .lL [30] hs ?_
 cases ax with
 | nil=>
  have hk:¬ ((aw:Int)<(ae.length:Int)):=by have:=aG.1 hl;omega
  have hkb:=decide_eq_false hk;rw [Zb3.eq_1] at hm;refine go ?_;refine X0 (congrArg Value.bool hkb)<|go ?_;refine Zv [1,2,60,61,9,1000000] (fun n f bn=>∃ bo ay az,n=az.length∧ah.drop ay=az∧Ze5 ae ah ad az=some r∧St w0 (Zj col) bo bn∧Zb rI 3 2 bo bn al am ad∧[62].map f=[.int .i64 ay]) ah.length ⟨_,0,_,rfl,rfl,hm,aa,ab,rfl⟩ ?_;clear hm;intro n f bn hI;obtain ⟨bo,ay,az,hn,hl,hm,aa,ab,hs⟩:=hI;subst hn;refine .lL [62] hs ?_
  cases az with
  | nil=>
   have hk:¬ ((ay:Int)<(ah.length:Int)):=by have:=aG.1 hl;omega
   have hkb:=decide_eq_false hk;rw [Ze5.eq_1] at hm;refine go ?_;refine X0 (congrArg Value.bool hkb)<|go ?_;obtain ⟨cv,hm⟩:=Z9 hm;refine Sq (col:=bo) (w:=bn) (r:=Za.bool) (n:=ad.length) (x0:=false) 3 rfl underlying151 Tryz.t4 rfl rfl rfl rfl rfl rfl rfl cv.1 cv.2 (Zai false) ?_;intro dc ee ef cw ai;refine go ?_;replace ab:=ab.gr cw;replace aa:=aa.grow cw;refine Zv [14,78,79,9,1000000] (fun n f a0=>∃ ap an bp ac a3 a4,n=a4.length∧ae.drop a3=a4∧Zkm ad a4 ac=some r∧St w0 (Zj col) ap a0∧Zb Za.bool 4 3 ap a0 dc ad.length (aM ad.length (false:Bool))∧Sl rI ap a0 an bp ac∧Zb rI 3 2 ap a0 al am ad∧[80,2].map f=[.int .i64 a3,.slice an ac.length bp]) ae.length ⟨_,_,_,_,0,_,rfl,rfl,hm,aa,ai,(h2.ks aa),ab,rfl⟩ ?_;clear hm;intro n f a0 hI;obtain ⟨ap,an,bp,ac,a3,a4,hn,hl,hm,aa,ai,aj,ab,hs⟩:=hI;subst hn;refine .lL [80,2] hs ?_
   cases a4 with
   | nil=>
    have hk:¬ ((a3:Int)<(ae.length:Int)):=by have:=aG.1 hl;omega
    have hkb:=decide_eq_false hk;rw [Zkm.eq_1] at hm;refine go ?_;refine X0 (congrArg Value.bool hkb)<|go ?_;refine Zv [9,95,96,1000000] (fun n f aq=>∃ ao a5 a6 ar a7 a8,n=a8.length∧ac.drop a7=a8∧Zkn ad a8 ar=some r∧St w0 (Zj col) ao aq∧Zb Za.bool 4 3 ao aq a5 a6 ar∧Zb rI 3 2 ao aq al am ad∧Sl rI ao aq an bp ac∧[97,14].map f=[.int .i64 a7,.slice a5 ar.length a6]) ac.length ⟨_,_,_,_,0,_,rfl,rfl,hm,aa,ai,ab,aj,rfl⟩ ?_;clear hm;intro n f aq hI;obtain ⟨ao,a5,a6,ar,a7,a8,hn,hl,hm,aa,bq,ab,aj,hs⟩:=hI;subst hn;refine .lL [97,14] hs ?_
    cases a8 with
    | nil=>
     have hk:¬ ((a7:Int)<(ac.length:Int)):=by have:=aG.1 hl;omega
     have hkb:=decide_eq_false hk;rw [Zkn.eq_1] at hm;refine go ?_;refine X0 (congrArg Value.bool hkb)<|go ?_;obtain ⟨a9,dd,hm⟩:=bZ hm;refine Zi (Zu1 dd (ab.toSlF (Zh.int .i64))) ?_;rintro _ de ⟨rfl,br⟩;refine ⟨_,rfl,?_⟩;replace br:Zf ao aq ao de:=.of_below br;refine lM (.tuple #[.int .i64 a9.1,.int .i64 a9.2])<|lV (.int .i64 a9.1) (Xo rfl rfl)<|lV (.int .i64 a9.2) (Xo rfl rfl)<|Y6 rfl<|Y6 rfl<|Zk<|Zz ?_;replace ab:=ab.gr br;replace aa:=aa.grow br;refine Wp.cutK [9,1000000] (fun f b9=>∃ ca cb,Znq ad cb=some r∧St w0 (Zj col) ca b9∧Zb rI 3 2 ca b9 al am ad∧[119].map f=[.bool cb]) ?_ ?_
     ·intro f b9 hJ;obtain ⟨ca,cb,hm,aa,ab,hs⟩:=hJ;rw [Znq.eq_1] at hm;refine .lL [119] hs ?_;refine Zo hm (fun hb hm=>go ?_) fun hb hm=>go ?_
      ·cases hm;exact ⟨rfl,_,none,0,rfl,aa.fin (cm []),Zb.nil⟩
      cases hm;exact ⟨rfl,_,_,_,rfl,aa.fin (cm [(2,c1)]),aa.fo ab⟩
     refine go ?_;refine Yr hm (fun cc hm=>go ?_) fun cc hm=>go ?_
     ·refine lV (.bool true) (Ye (congrArg Value.bool cc) rfl)<|Zk ?_;exact ⟨rfl,_,_,hm,aa,ab,rfl⟩
     refine lV (.bool (decide (65536<a9.1))) (Yd (congrArg Value.bool cc) rfl)<|Zk ?_;exact ⟨rfl,_,_,hm,aa,ab,rfl⟩
    | cons df dg=>
     obtain ⟨ag,dh,di⟩:=Yf hl;have hk:(a7:Int)<(ac.length:Int):=by omega
     have hkb:=decide_eq_true hk;rw [Zkn.eq_2] at hm;refine go ?_;refine X1 (congrArg Value.bool hkb)<|go ?_;refine lI ag (aj.addr ag)<|lW (aj.atInt ag) ?_;refine go ?_;obtain ⟨eg,au,hm⟩:=bZ hm;refine lI au (bq.addr au)<|lW (bq.atBool au)<|Zk ?_;refine Zo hm (fun hb hm=>go ?_) fun hb hm=>go ?_
     ·cases hm;exact ⟨rfl,_,none,0,rfl,aa.fin (cm []),Zb.nil⟩
     refine lI au (bq.addr au) ?_;obtain ⟨cd,bs,hm⟩:=bZ hm;have bs:cd=ar.set (aA df) true:=(Option.some.inj bs).symm;refine Zq5 (x1:=true) (v:=(.bool true)) bq au rfl sizeOf4 (Zai true) rfl rfl (by decide) ?_;intro eh ce dj cx;rw [← bs] at cx;refine .ld (d:=14) (v:=(.slice a5 cd.length a6)) (congrArg (fun n=>Value.slice a5 n a6) (show ar.length=cd.length by rw [bs,nS])) ?_;refine go ?_;replace ab:=ab.kp ce;replace aj:=aj.kp ce;replace aa:=aa.kp ce dj;exact ⟨dg.length,by simp,rfl,⟨_,_,_,_,_,_,rfl,dh,hm,aa,cx,ab,aj,(Yl (congrArg (Value.int .i64) (Yi (aE di aj.1.1))) rfl)⟩⟩
   | cons bt dl=>
    obtain ⟨ag,dm,dn⟩:=Yf hl;have hk:(a3:Int)<(ae.length:Int):=by omega
    have hkb:=decide_eq_true hk;rw [Zkm.eq_2] at hm;refine go ?_;refine X1 (congrArg Value.bool hkb)<|go ?_;refine lI ag ((h1.ks aa).addr ag) ?_;obtain ⟨_,dp,dq⟩:=(h1.ks aa).atN ag;obtain ⟨_,_,rfl,dr,ds⟩:=Vr dp;obtain ⟨rfl,_⟩:=dr;obtain ⟨rfl,_⟩:=ds;refine lV (.agg #[.int .i64 bt.1,.int .i64 bt.2]) (Y9 isAgg142 sizeOf142 rfl rfl dq)<|Xk (col:=ap) #[.int .i64 0,.int .i64 0] 4 zeroValue142 ?_;intro ei ej bu bv dt;refine Zy dt ?_;intro ek bw du dv;refine Zk<|Y8 (col:=bu) [(0,1),(1,1),(2,1),(3,1),(4,1),(5,1),(6,1),(7,0),(8,3),(9,2),(10,1)] (by kernel_rfl) (by kernel_rfl)<|xu rfl rfl (fun _=>Ub rfl) ?_;refine xu rfl rfl (fun _=>Ub rfl) ?_;refine xu rfl rfl (fun _=>Qu underlying33 rfl) ?_;refine xu rfl rfl (fun _=>Ub rfl) ?_;refine xu rfl rfl (fun _=>Qu underlying33 rfl) ?_;obtain ⟨ba,hm⟩:=Z9 hm;replace aj:=(aj.gr bv).kp bw;have av:=(aj.take (aA (ac.length:Int))).recap (show (ac.take (aA (ac.length:Int))).length≤(aA (ac.length:Int)) by rw [cP (i:=(aA (ac.length:Int))) (l:=ac)];have:=ba.2;omega);refine xu (v:=.slice an (aA (ac.length:Int)) (aA (ac.length:Int))) rfl rfl (fun _=>Z9u underlying33 sizeOf3 rfl rfl rfl ba.2.1 ba.2.2.1 (by have:=aj.1.2;have:=ba.2.2.2;omega)) ?_;refine .ld (d:=89) (v:=(.slice an ((ac.take (aA (ac.length:Int))).length) (aA (ac.length:Int)))) (congrArg (fun n=>Value.slice an n (aA (ac.length:Int))) (show (aA (ac.length:Int))=(ac.take (aA (ac.length:Int))).length by rw [cP (i:=(aA (ac.length:Int))) (l:=ac)];have:=ba.2;omega)) ?_;refine xF ⟨_,_,rfl⟩ ?_;refine xW (fun _ hC=>((dv.atN).nth (q:=0) rfl).gr (hC.bl bu)) ?_;refine xe rfl rfl ?_;intro el hC0;have hC:=hC0.bl bu;refine Vz (col:=bu) [bt.1] 5 ?_;intro em en cf bb cg;refine Zk<|Xj cf hC0 bb<|xe rfl rfl ?_;intro dw hC0;replace ai:=(((ai.gr bv).kp bw).gr hC).gr bb;replace ab:=(((ab.gr bv).kp bw).gr hC).gr bb;replace aa:=(((aa.grow bv).kp bw du).grow hC).grow bb;replace av:=(av.gr hC).gr bb;have hC:=hC0.bl cf;obtain ⟨cy,hm⟩:=Z9 hm;replace av:=av.gr hC;have dx:(aA (ac.length:Int))=(ac.take (aA (ac.length:Int))).length:=by have:=av.1.2;rw [cP (i:=(aA (ac.length:Int))) (l:=ac)] at this ⊢;omega
    refine Z7w (col:=cf) (w:=dw) (r:=rI) (c:=6) (c2:=6) 6 (xs:=ac.take (aA (ac.length:Int))) (ys:=[bt.1]) av dx (NB.int (k:=.i64)) (by simp) ((cg.gr hC).srcN (NB.int (k:=.i64))) rfl underlying33 Z63 rfl rfl rfl cy.1 cy.2 ?_;intro eo ep eq cz ch bc;refine Zk<|xk cz<|xu rfl rfl (fun _=>Zzn rfl) ?_;refine Yz ?_;replace ai:=(ai.gr hC).gr ch;replace ab:=(ab.gr hC).gr ch;replace aa:=(aa.grow hC).grow ch;intro er hC;replace hC:=hC.bl cz;refine go ?_;replace ai:=ai.gr hC;replace bc:=bc.gr hC;replace ab:=ab.gr hC;replace ab:=ab.froz 6;replace aa:=aa.grow hC;replace aa:=aa.froz 6 (by decide) (by decide);exact ⟨dl.length,by simp,rfl,⟨_,_,_,_,_,_,rfl,dm,hm,aa,ai.froz 6,(bc).toSlF (Zh.int .i64),ab,(Yl (congrArg (Value.int .i64) (Yi (aE dn (h1.ks aa).1.1))) rfl)⟩⟩
  | cons dy c0=>
   obtain ⟨ag,dz,d0⟩:=Yf hl;have hk:(ay:Int)<(ah.length:Int):=by omega
   have hkb:=decide_eq_true hk;rw [Ze5.eq_2] at hm;refine go ?_;refine X1 (congrArg Value.bool hkb)<|go ?_;refine lI ag ((h2.ks aa).addr ag)<|lW ((h2.ks aa).atInt ag)<|Y6 rfl<|Zk<|Zz ?_;refine Wp.cutK [1,2,60,61,62,9,1000000] (fun f ci=>∃ cj ck,Znr (Ze5 ae ah ad c0) ck=some r∧St w0 (Zj col) cj ci∧Zb rI 3 2 cj ci al am ad∧[73].map f=[.bool ck]) ?_ ?_
   ·intro f ci hJ;obtain ⟨cj,ck,hm,aa,ab,hs⟩:=hJ;rw [Znr.eq_1] at hm;refine .lL [73] hs ?_;refine Zo hm (fun hb hm=>go ?_) fun hb hm=>go ?_
    ·cases hm;exact ⟨rfl,_,none,0,rfl,aa.fin (cm []),Zb.nil⟩
    exact ⟨c0.length,by simp,rfl,⟨_,_,_,rfl,dz,hm,aa,ab,(Yl (congrArg (Value.int .i64) (Yi (aE d0 (h2.ks aa).1.1))) rfl)⟩⟩
   refine go ?_;refine Yr hm (fun cl hm=>go ?_) fun cl hm=>go ?_
   ·refine lV (.bool true) (Ye (congrArg Value.bool cl) rfl)<|Zk ?_;exact ⟨rfl,_,_,hm,aa,ab,rfl⟩
   refine lV (.bool (decide ((ad.length:Int)≤dy))) (Yd (congrArg Value.bool cl) rfl)<|Zk ?_;exact ⟨rfl,_,_,hm,aa,ab,rfl⟩
 | cons bd c3=>
  obtain ⟨ag,d1,d2⟩:=Yf hl;have hk:(aw:Int)<(ae.length:Int):=by omega
  have hkb:=decide_eq_true hk;rw [Zb3.eq_2] at hm;refine go ?_;refine X1 (congrArg Value.bool hkb)<|go ?_;refine lI ag ((h1.ks aa).addr ag) ?_;obtain ⟨_,d3,d4⟩:=(h1.ks aa).atN ag;obtain ⟨_,_,rfl,d5,d6⟩:=Vr d3;obtain ⟨rfl,_⟩:=d5;obtain ⟨rfl,_⟩:=d6;refine lV (.agg #[.int .i64 bd.1,.int .i64 bd.2]) (Y9 isAgg142 sizeOf142 rfl rfl d4)<|Xk (col:=bm) #[.int .i64 0,.int .i64 0] 7 zeroValue142 ?_;intro es et ak c4 d7;refine Zy d7 ?_;intro eu c5 d8 be;refine Zk<|Zz ?_;replace ab:=(ab.gr c4).kp c5;replace aa:=(aa.grow c4).kp c5 d8;refine Wp.cutK [1,2,28,29,30,9,1000000] (fun f cn=>∃ co cp,Zhr (Zb3 ae ah ad c3) cp=some r∧St w0 (Zj col) co cn∧Zb rI 3 2 co cn al am ad∧[58].map f=[.bool cp]) ?_ ?_
  ·intro f cn hJ;obtain ⟨co,cp,hm,aa,ab,hs⟩:=hJ;rw [Zhr.eq_1] at hm;refine .lL [58] hs ?_;refine Zo hm (fun hb hm=>go ?_) fun hb hm=>go ?_
   ·cases hm;exact ⟨rfl,_,none,0,rfl,aa.fin (cm []),Zb.nil⟩
   exact ⟨c3.length,by simp,rfl,⟨_,_,_,rfl,d1,hm,aa,ab,(Yl (congrArg (Value.int .i64) (Yi (aE d2 (h1.ks aa).1.1))) rfl)⟩⟩
  refine Vs (col:=ak) (by kernel_rfl) (by kernel_rfl)<|qF ⟨_,_,rfl⟩ ?_;refine qW (fun _ hC=>((be.atN).nth (q:=0) rfl).gr (hC.bl ak)) ?_;refine go ?_;refine Yr hm (fun cq hm=>go ?_) fun cq hm=>go ?_
  ·refine qv (v:=(.bool true)) rfl (fun _ hC=>Ye (congrArg Value.bool cq) rfl) ?_;refine go ?_;refine qP 44 rfl rfl<|qP 44 rfl rfl<|qP 44 rfl rfl<|qv (v:=(.bool true)) rfl (fun _ hC=>Ye rfl rfl) ?_;refine go ?_;refine qP 49 rfl rfl<|qP 49 rfl rfl<|qP 49 rfl rfl<|qP 49 rfl rfl<|qP 49 rfl rfl<|qP 49 rfl rfl<|qP 49 rfl rfl<|qP 49 rfl rfl<|qv (v:=(.bool true)) rfl (fun _ hC=>Ye rfl rfl) ?_;refine Wn ?_;intro ew hC;replace hC:=hC.bl ak;replace ab:=ab.gr hC;replace aa:=aa.grow hC;exact ⟨rfl,_,_,hm,aa,ab,rfl⟩
  refine qF ⟨_,_,rfl⟩ ?_;refine go ?_;refine qW (fun _ hC=>((be.atN).nth (q:=0) rfl).gr (hC.bl ak)) ?_;refine go ?_;refine qv (v:=(.bool (decide ((ad.length:Int)≤bd.1)))) rfl (fun _ hC=>Yd (congrArg Value.bool cq) rfl) ?_;refine go ?_;refine Yr hm (fun cr hm=>go ?_) fun cr hm=>go ?_
  ·refine qv (v:=(.bool true)) rfl (fun _ hC=>Ye (congrArg Value.bool cr) rfl) ?_;refine go ?_;refine qP 49 rfl rfl<|qP 49 rfl rfl<|qP 49 rfl rfl<|qP 49 rfl rfl<|qP 49 rfl rfl<|qP 49 rfl rfl<|qP 49 rfl rfl<|qP 49 rfl rfl<|qv (v:=(.bool true)) rfl (fun _ hC=>Ye rfl rfl) ?_;refine Wn ?_;intro ey hC;replace hC:=hC.bl ak;replace ab:=ab.gr hC;replace aa:=aa.grow hC;exact ⟨rfl,_,_,hm,aa,ab,rfl⟩
  refine qF ⟨_,_,rfl⟩ ?_;refine go ?_;refine qW (fun _ hC=>((be.atN).nth (q:=1) rfl).gr (hC.bl ak)) ?_;refine go ?_;refine qv (v:=(.bool (decide (bd.2<0)))) rfl (fun _ hC=>Yd (congrArg Value.bool cr) rfl) ?_;refine go ?_;refine Yr hm (fun cs hm=>go ?_) fun cs hm=>go ?_
  ·refine qv (v:=(.bool true)) rfl (fun _ hC=>Ye (congrArg Value.bool cs) rfl) ?_;refine Wn ?_;intro ez hC;replace hC:=hC.bl ak;replace ab:=ab.gr hC;replace aa:=aa.grow hC;exact ⟨rfl,_,_,hm,aa,ab,rfl⟩
  refine qF ⟨_,_,rfl⟩ ?_;refine go ?_;refine qW (fun _ hC=>((be.atN).nth (q:=1) rfl).gr (hC.bl ak)) ?_;refine go ?_;refine qF ⟨_,_,rfl⟩ ?_;refine go ?_;refine qW (fun _ hC=>((be.atN).nth (q:=0) rfl).gr (hC.bl ak)) ?_;refine go ?_;obtain ⟨d9,ct,hm⟩:=bZ hm;refine qI ct (ab.addr ct) ?_;refine go ?_;refine qW (fun _ hC=>(ab.gr (hC.bl ak)).atInt ct) ?_;refine go ?_;refine qv (v:=(.bool (decide (d9≤bd.2)))) rfl (fun _ hC=>Yd (congrArg Value.bool cs) rfl) ?_;refine Wn ?_;intro e0 hC;replace hC:=hC.bl ak;exact ⟨rfl,_,_,hm,aa.grow hC,ab.gr hC,rfl⟩
def Zq9:Option (List Rh):=
  some []
theorem Z4b (cy:Nat) (col:Zd) (w0:World) (r:List Rh) (hm:Zq9=some r):
    Zgo prog 2 57 [] (fun (y:List Int×R1) (col:Zd) (w:World) (args:List Value)=>∃ (a0:Option Addr) (ab:Nat) (a1_0_1:Option Addr) (c1_0_1:Nat) (ac:Option Addr) (ad:Nat),args=[.slice a0 y.1.length ab,.agg #[.bool y.2.1.1,.slice a1_0_1 y.2.1.2.length c1_0_1,.slice ac y.2.2.length ad]]∧Zb rI 3 cy col w a0 ab y.1∧Sl rU col w a1_0_1 c1_0_1 y.2.1.2∧Sl rU col w ac ad y.2.2) r col w0:=by
 intro l J X hjs hxs hy aa;refine Zqe (mc:=1998) (m:=2) (args:=[.func (.yield l) #[] #[]]) func57 rfl rfl rfl rfl ?_;rw [Zq9.eq_1] at hm;have hmk:Y0 1998 col w0 []:=.nil;refine Yj ?_;cases hm;refine ⟨_,[],rfl,hmk,?_⟩;intro ag ae af;replace aa:=hjs _ _ _ _ _ aa (ae.toP af rfl);exact ⟨⟨_,rfl⟩,_,.inl aa⟩
theorem Z66:Wa prog 9 1 16:=⟨Tryz.t9,_,rfl,rfl,rfl,rfl,rfl⟩
def Zcs (aa:List ByteArray):Option R3:=
  Z4 ((([]:List ByteArray).length+aa.length) * 16≤140737488355328∧([]:List ByteArray).length+aa.length≤maxLen) (some (([]:List ByteArray)++aa))
theorem Zm2 {ad:Nat} {a0:Option Addr} {col:Zd} {w0:World} {ac r:R3} (c1:Nat) (hm:Zcs ac=some r) (h0:Sl Za.str col w0 a0 ad ac):
    Calls prog 138 #[.slice a0 ac.length ad] w0 (fun e w'=>∃ (col':Zd) (ra1:Option Addr) (rc2:Nat),e= .returned ((.slice ra1 r.length rc2))∧Zf col w0 col' w'∧Zb Za.str 9 c1 col' w' ra1 rc2 r):=by
 refine Xe 2 (m:=8) func138 rfl rfl rfl rfl rfl ?_;rw [Zcs.eq_1] at hm;have aa:=St.start col w0;refine go ?_;replace h0:=h0.k0;rcases Zrq h0 with ab | ab
 ·replace hm:some ([]:List ByteArray)=some r:=by have h0:=ab.2;subst h0;simpa [Z4,maxLen] using hm
  refine lv (v:=.bool a0.isNone) rfl rfl (Zji underlying22 rfl)<|.ld (d:=4) (v:=.bool true) (congrArg Value.bool ab.1)<|Zk<|X1 rfl<|go ?_;cases hm;exact ⟨rfl,_,none,0,rfl,aa.fin (cm []),Zb.nil⟩
 refine lv (v:=.bool a0.isNone) rfl rfl (Zji underlying22 rfl)<|.ld (d:=4) (v:=.bool false) (congrArg Value.bool ab)<|Zk<|X0 rfl<|go ?_;refine Zq4 (col:=(Zj col)) (r:=Za.str) 1 rfl underlying22 Z66 rfl ?_;intro aj ak al ae af;refine Y2 rfl ?_;obtain ⟨ag,hm⟩:=Z9 hm;refine Vy af (h0.gr ae).srcC ag ?_;intro am an ao ap ah ai;refine go ?_;cases hm;replace aa:=(aa.grow ae).kpp ah;exact ⟨rfl,_,_,_,rfl,aa.fin (cm [(1,c1)]),aa.fo ai⟩
theorem Z6t:Wa prog 22 1 24:=⟨Tryz.t22,_,rfl,rfl,rfl,rfl,rfl⟩
theorem Z6w:Wa prog 33 1 24:=⟨Tryz.t33,_,rfl,rfl,rfl,rfl,rfl⟩
theorem Z6q:Wa prog 114 1 24:=⟨Tryz.t114,_,rfl,rfl,rfl,rfl,rfl⟩
def Zko (N:Nat) (ae:Int) (af:ByteArray) (ag:List ByteArray) (ah:List R3) (ai:List R2) (ac:List R4) (kk_L1:(Int→ByteArray→R3→Rg→R7→R9→Option R0)) (aj:List ByteArray) (ak:List Int):List R1→R4→Option R0
  | [],ab=>Z4 ((ac.length+[ab].length) * 24≤140737488355328∧ac.length+[ab].length≤maxLen) (kk_L1 (i64.wrap (ae+1)) af ag (ah++[aj]) (ai++[ak]) (ac++[ab]))
  | ad :: al,ab=>(Sr N ((ad.1.1,ad.1.2),ad.2) ((false,([]:List Int)),([]:List Int))).bind fun aa=>Z4 ((ab.length+[((aa.1.1,aa.1.2),aa.2)].length) * 56≤140737488355328∧ab.length+[((aa.1.1,aa.1.2),aa.2)].length≤maxLen) ((Zko N ae af ag ah ai ac kk_L1 aj ak al) (ab++[((aa.1.1,aa.1.2),aa.2)]))
termination_by structural x=>x
def Zhs (N:Nat) (aa:R0):Nat→Int→ByteArray→R3→Rg→R7→R9→Option R0
  | 0,_,_,_,_,_,_=>none
  | aj+1,ab,ag,ah,ac,ad,ai=>if (decide (ab<(aa.2.1.length:Int)))=true then ((Zl aa.2.2.1 ab).bind fun ak=>(Zcs ak).bind fun ae=>Z4 ((ac.length+[ae].length) * 24≤140737488355328∧ac.length+[ae].length≤maxLen) ((Zl aa.2.2.2.1 ab).bind fun al=>(Sz al).bind fun af=>Z4 ((ad.length+[af].length) * 24≤140737488355328∧ad.length+[af].length≤maxLen) ((Zl aa.2.2.2.2 ab).bind fun am=>Zko N ab ag ah ac ad ai (Zhs N aa aj) ae af am ([]:List R1)))) else (some (ag,ah,ac,ad,ai))
termination_by structural x=>x
def Zrc (N:Nat) (aa:R0):Option R0:=
  (Zcs aa.2.1).bind fun ab=>Zhs N aa N 0 aa.1 ab ([]:List R3) ([]:List R2) ([]:List R4)
theorem Z4e {N cd bz bu bi:Nat} {ce b0 bv bj:Option Addr} {col:Zd} {w0:World} {af r:R0} (c1 c2 c3 c4:Nat) (hm:Zrc N af=some r) (cv:Sl Za.str col w0 ce cd af.2.1) (cf:Sl (Za.slice Za.str) col w0 b0 bz af.2.2.1) (cg:Sl (Za.slice rI) col w0 bv bu af.2.2.2.1) (ch:Sl (Za.slice (Za.pair (Za.pair Za.bool (Za.slice rU)) (Za.slice rU))) col w0 bj bi af.2.2.2.2):
    Calls prog 58 #[(.agg #[.string af.1,.slice ce af.2.1.length cd,.slice b0 af.2.2.1.length bz,.slice bv af.2.2.2.1.length bu,.slice bj af.2.2.2.2.length bi])] w0 (fun e w'=>∃ (col':Zd) (ra1:Option Addr) (rc2:Nat) (ra4:Option Addr) (rc5:Nat) (ra7:Option Addr) (rc8:Nat) (ra10:Option Addr) (rc11:Nat),e= .returned ((.agg #[.string r.1,.slice ra1 r.2.1.length rc2,.slice ra4 r.2.2.1.length rc5,.slice ra7 r.2.2.2.1.length rc8,.slice ra10 r.2.2.2.2.length rc11]))∧Zf col w0 col' w'∧Zb Za.str 9 c1 col' w' ra1 rc2 r.2.1∧Zb (Za.row 9 Za.str) 22 c2 col' w' ra4 rc5 r.2.2.1∧Zb (Za.row 3 rI) 33 c3 col' w' ra7 rc8 r.2.2.2.1∧Zb (Za.row 39 (Za.pair (Za.pair Za.bool (Za.row 95 rU)) (Za.row 95 rU))) 114 c4 col' w' ra10 rc11 r.2.2.2.2):=by
 refine Y5 (m:=69) func58 rfl rfl rfl ?_;rw [Zrc.eq_1] at hm;have aa:=St.start col w0;refine go ?_;refine Xi (col:=(Zj col)) 1 rfl ?_;intro du f5 ea eb ab;refine Xk (col:=ea) #[.string (⟨#[]⟩),.slice none (([]:List ByteArray).length) 0,.slice none (([]:List R3).length) 0,.slice none (([]:List R2).length) 0,(.slice none (([]:List R4).length) 0)] 2 zeroValue27 ?_;intro dv f6 ec dw ac;refine go ?_;replace ab:=ab.gr dw;refine lV _ (Z8 isAgg27 sizeOf27 ab)<|Xk (col:=ec) #[.string (⟨#[]⟩),.slice none (([]:List ByteArray).length) 0,.slice none (([]:List R3).length) 0,.slice none (([]:List R2).length) 0,(.slice none (([]:List R4).length) 0)] 3 zeroValue27 ?_;intro a4 f7 f8 cw ed;refine Zy ed ?_;intro f9 cx ee cy;refine go ?_;refine Yx ⟨_,_,rfl⟩ ?_;replace ab:=(ab.gr cw).kp cx;refine lW ((ab.atN).nth (q:=1) rfl) ?_;obtain ⟨b1,ef,hm⟩:=bZ hm;replace aa:=(((aa.grow eb).grow dw).grow cw).kp cx ee;refine Zi (Zm2 4 ef (cv.k0.ks aa)) ?_;rintro _ ga ⟨ci,b2,b3,rfl,cj,cz⟩;refine ⟨_,rfl,?_⟩;refine Yx ⟨_,_,rfl⟩ ?_;refine Tt (off:=1) (v:=(.slice b2 b1.length b3)) (cy.gr cj) sizeOf22 rfl rfl (by intro u hu;simp only [Value.cells,aO,bG,or_false] at hu;subst hu;rfl) rfl rfl ?_;intro eg ck eh c0;replace c0:Zg 27 3 ci eg a4 #[.string af.1,.slice b2 b1.length b3,.slice b0 af.2.2.1.length bz,.slice bv af.2.2.2.1.length bu,.slice bj af.2.2.2.2.length bi]:=c0;refine go ?_;refine Yx ⟨_,_,rfl⟩ ?_;refine Tt (off:=2) (v:=(.slice none (([]:List R3).length) 0)) c0 sizeOf23 rfl rfl (by intro u hu;simp only [Value.cells,aO,bG,or_false] at hu;subst hu;rfl) rfl rfl ?_;intro ei cl ej c5;replace c5:Zg 27 3 ci ei a4 #[.string af.1,.slice b2 b1.length b3,.slice none (([]:List R3).length) 0,.slice bv af.2.2.2.1.length bu,.slice bj af.2.2.2.2.length bi]:=c5;refine Yx ⟨_,_,rfl⟩ ?_;refine Tt (off:=3) (v:=(.slice none (([]:List R2).length) 0)) c5 sizeOf24 rfl rfl (by intro u hu;simp only [Value.cells,aO,bG,or_false] at hu;subst hu;rfl) rfl rfl ?_;intro ek cn el c6
 replace c6:Zg 27 3 ci ek a4 #[.string af.1,.slice b2 b1.length b3,.slice none (([]:List R3).length) 0,.slice none (([]:List R2).length) 0,.slice bj af.2.2.2.2.length bi]:=c6;refine Yx ⟨_,_,rfl⟩ ?_;refine Tt (off:=4) (v:=(.slice none (([]:List R4).length) 0)) c6 sizeOf25 rfl rfl (by intro u hu;simp only [Value.cells,aO,bG,or_false] at hu;subst hu;rfl) rfl rfl ?_;intro em co en aj;replace aj:Zg 27 3 ci em a4 #[.string af.1,.slice b2 b1.length b3,.slice none (([]:List R3).length) 0,.slice none (([]:List R2).length) 0,(.slice none (([]:List R4).length) 0)]:=aj;refine go ?_;refine Yx ⟨_,_,rfl⟩ ?_;replace ab:=((((ab.gr cj).kp ck).kp cl).kp cn).kp co;refine lW ((ab.atN).nth (q:=1) rfl)<|go ?_;replace ac:=((((((ac.gr cw).kp cx).gr cj).kp ck).kp cl).kp cn).kp co;replace aa:=((((aa.grow cj).kp ck eh).kp cl ej).kp cn el).kp co en;refine Zv [1,18,2,3,1000000] (fun n f a5=>∃ ak cp bd be bf ax c7 c8 ar cq cr au bk bm av bn,bn=n∧Zhs N af bn cp bd ax ar au av=some r∧St w0 (Zj col) ak a5∧Zg 27 1 ak a5 du #[.string af.1,.slice ce af.2.1.length cd,.slice b0 af.2.2.1.length bz,.slice bv af.2.2.2.1.length bu,.slice bj af.2.2.2.2.length bi]∧Zg 27 2 ak a5 dv #[.string (⟨#[]⟩),.slice none (([]:List ByteArray).length) 0,.slice none (([]:List R3).length) 0,.slice none (([]:List R2).length) 0,(.slice none (([]:List R4).length) 0)]∧Zb Za.str 9 4 ak a5 be bf ax∧Zb (Za.row 9 Za.str) 22 5 ak a5 c7 c8 ar∧Zb (Za.row 3 rI) 33 6 ak a5 cq cr au∧Zb (Za.row 39 (Za.pair (Za.pair Za.bool (Za.row 95 rU)) (Za.row 95 rU))) 114 7 ak a5 bk bm av∧Zg 27 3 ak a5 a4 #[.string bd,.slice be ax.length bf,.slice c7 ar.length c8,.slice cq au.length cr,.slice bk av.length bm]∧[19].map f=[.int .i64 cp]) N ⟨_,0,_,_,_,_,none,0,_,none,0,_,none,0,_,_,rfl,hm,aa,ab,ac,(((cz.kp ck).kp cl).kp cn).kp co,Zb.nil,Zb.nil,Zb.nil,aj,rfl⟩ ?_;clear hm;intro n f a5 hI;obtain ⟨ak,cp,bd,be,bf,ax,c7,c8,ar,cq,cr,au,bk,bm,av,bn,hn,hm,aa,ab,ac,ad,ay,ah,ae,aj,hs⟩:=hI;subst hn;refine .lL [19] hs ?_;replace cf:=cf.k0
 replace cg:=cg.k0;replace ch:=ch.k0
 cases bn with
 | zero=>rw [Zhs.eq_1] at hm;cases hm
 | succ bn=>
  rw [Zhs.eq_2] at hm;refine go ?_;refine Zo hm (fun hb hm=>go ?_) fun hb hm=>go ?_
  ·refine Y8 (col:=ak) [(0,1),(1,0),(2,1),(3,0),(4,1),(5,1),(6,0),(7,3),(8,3),(9,2),(10,1),(11,2)] (by kernel_rfl) (by kernel_rfl)<|xF ⟨_,_,rfl⟩ ?_;refine xW (fun _ hC=>((aj.atN).nth (q:=2) rfl).gr (hC.bl ak)) ?_;refine xF ⟨_,_,rfl⟩ ?_;refine xW (fun _ hC=>((ab.atN).nth (q:=2) rfl).gr (hC.bl ak)) ?_;refine xu rfl rfl (fun _=>Yq rfl) ?_;obtain ⟨gb,ct,hm⟩:=bZ hm;refine xu rfl rfl (fun _=>Yu underlying23 sizeOf22 rfl rfl (Xa ct).1 (Xa ct).2.1 ((cf.ks aa).addr ct)) ?_;obtain ⟨_,eo,ep⟩:=(cf.ks aa).atN ct;obtain ⟨⟨gc,gd,rfl,c9⟩,_⟩:=eo;refine xW (fun _ hC=>ep.one.gr (hC.bl ak)) ?_;refine xe rfl rfl ?_;intro ge hC0;have hC:=hC0.bl ak;obtain ⟨az,eq,hm⟩:=bZ hm;refine Zi (Zm2 8 eq (c9.gr hC)) ?_;rintro _ gf ⟨da,dx,dy,rfl,a6,db⟩;refine ⟨_,rfl,?_⟩;refine Zk<|Xj da hC0 a6<|xe rfl rfl ?_;intro gg hC0;replace ad:=(ad.gr hC).gr a6;replace ay:=(ay.gr hC).gr a6;replace ah:=(ah.gr hC).gr a6;replace ae:=(ae.gr hC).gr a6;replace ab:=(ab.gr hC).gr a6;replace ac:=(ac.gr hC).gr a6;replace aj:=(aj.gr hC).gr a6;replace aa:=(aa.grow hC).grow a6;have hC:=hC0.bl da;refine V9 (col:=da) (r:=(Za.row 9 Za.str)) (xs:=[az]) [.slice dx az.length dy] 8 (Wg.cons1 (cs:=[.slice dx az.length dy]) (db.gr hC).has Rows.nil0) ?_;intro gh gi dc a7 dd;refine Zk<|Xj dc hC0 a7<|xe rfl rfl ?_;intro er hC0;replace ad:=(ad.gr hC).gr a7;replace ay:=(ay.gr hC).gr a7;replace ah:=(ah.gr hC).gr a7;replace ae:=(ae.gr hC).gr a7;replace ab:=(ab.gr hC).gr a7;replace ac:=(ac.gr hC).gr a7;replace aj:=(aj.gr hC).gr a7;replace aa:=(aa.grow hC).grow a7;have hC:=hC0.bl dc;obtain ⟨dz,hm⟩:=Z9 hm;replace ay:=ay.gr hC;refine Sb (col:=dc) (w:=er) (r:=(Za.row 9 Za.str)) (c:=5) (c2:=8) (ay.ex) ((dd.gr hC).srcC (by decide)) rfl underlying23 Z6t rfl rfl rfl dz.1 dz.2 (by decide) ?_;intro bw bx gj a0 bo de;refine Zk<|xk a0<|xF ⟨_,_,rfl⟩ ?_;refine xe rfl rfl ?_;intro gk hC0;replace ad:=(ad.gr hC).kpp bo;replace ah:=(ah.gr hC).kpp bo;replace ae:=(ae.gr hC).kpp bo;replace ab:=(ab.gr hC).kpp bo;replace ac:=(ac.gr hC).kpp bo;replace aj:=(aj.gr hC).kpp bo;replace aa:=(aa.grow hC).kpp bo;have hC:=hC0.bl a0;replace aj:=aj.gr hC
   refine Tt (off:=2) (v:=(.slice bw ((ar++[az]).length) bx)) aj sizeOf23 rfl rfl (by intro u hu;simp only [Value.cells,aO,bG,or_false] at hu;subst hu;rfl) rfl rfl ?_;intro es bp et al;replace al:Zg 27 3 a0 es a4 #[.string bd,.slice be ax.length bf,.slice bw ((ar++[az]).length) bx,.slice cq au.length cr,.slice bk av.length bm]:=al;refine Zk<|xk a0 ?_;have ag:=((de.gr hC).kp bp).new;refine Yz ?_;replace ad:=(ad.gr hC).kp bp;replace ah:=(ah.gr hC).kp bp;replace ae:=(ae.gr hC).kp bp;replace ab:=(ab.gr hC).kp bp;replace ac:=(ac.gr hC).kp bp;replace aa:=(aa.grow hC).kp bp et;intro gl hC;replace hC:=hC.bl a0;refine Zz<|Y8 (col:=a0) [(0,1),(1,0),(2,1),(3,0),(4,1),(5,1),(6,0),(7,3),(8,3),(9,2),(10,1),(11,2)] (by kernel_rfl) (by kernel_rfl)<|xF ⟨_,_,rfl⟩ ?_;replace al:=al.gr hC;refine xW (fun _ hC=>((al.atN).nth (q:=3) rfl).gr (hC.bl a0)) ?_;refine xF ⟨_,_,rfl⟩ ?_;replace ab:=ab.gr hC;refine xW (fun _ hC=>((ab.atN).nth (q:=3) rfl).gr (hC.bl a0)) ?_;refine xu rfl rfl (fun _=>Yq rfl) ?_;obtain ⟨gm,cu,hm⟩:=bZ hm;replace aa:=aa.grow hC;refine xu rfl rfl (fun _=>Yu underlying24 sizeOf33 rfl rfl (Xa cu).1 (Xa cu).2.1 ((cg.ks aa).addr cu)) ?_;obtain ⟨_,eu,ew⟩:=(cg.ks aa).atN cu;obtain ⟨⟨gp,gs,rfl,df⟩,_⟩:=eu;refine xW (fun _ hC=>ew.one.gr (hC.bl a0)) ?_;refine xe rfl rfl ?_;intro gt hC0;replace ad:=ad.gr hC;replace ag:=ag.gr hC;replace ah:=ah.gr hC;replace ae:=ae.gr hC;replace ac:=ac.gr hC;have hC:=hC0.bl a0;obtain ⟨a8,ey,hm⟩:=bZ hm;refine Zi (Zgz 9 ey (df.gr hC)) ?_;rintro _ gu ⟨dg,d0,d1,rfl,a9,dh⟩;refine ⟨_,rfl,?_⟩;refine Zk<|Xj dg hC0 a9<|xe rfl rfl ?_;intro gv hC0;replace ad:=(ad.gr hC).gr a9;replace ag:=(ag.gr hC).gr a9;replace ah:=(ah.gr hC).gr a9;replace ae:=(ae.gr hC).gr a9;replace ab:=(ab.gr hC).gr a9;replace ac:=(ac.gr hC).gr a9;replace al:=(al.gr hC).gr a9;replace aa:=(aa.grow hC).grow a9;have hC:=hC0.bl dg;refine V9 (col:=dg) (r:=(Za.row 3 rI)) (xs:=[a8]) [.slice d0 a8.length d1] 9 (Wg.cons1 (cs:=[.slice d0 a8.length d1]) (dh.gr hC).has Rows.nil0) ?_;intro gw gx di ba dj;refine Zk<|Xj di hC0 ba<|xe rfl rfl ?_;intro ez hC0;replace ad:=(ad.gr hC).gr ba;replace ag:=(ag.gr hC).gr ba
   replace ah:=(ah.gr hC).gr ba;replace ae:=(ae.gr hC).gr ba;replace ab:=(ab.gr hC).gr ba;replace ac:=(ac.gr hC).gr ba;replace al:=(al.gr hC).gr ba;replace aa:=(aa.grow hC).grow ba;have hC:=hC0.bl di;obtain ⟨d2,hm⟩:=Z9 hm;replace ah:=ah.gr hC;refine Sb (col:=di) (w:=ez) (r:=(Za.row 3 rI)) (c:=6) (c2:=9) (ah.ex) ((dj.gr hC).srcC (by decide)) rfl underlying24 Z6w rfl rfl rfl d2.1 d2.2 (by decide) ?_;intro b4 b5 gy b6 bq dl;refine Zk<|xk b6<|xF ⟨_,_,rfl⟩ ?_;refine xe rfl rfl ?_;intro gz hC0;replace ad:=(ad.gr hC).kpp bq;replace ag:=(ag.gr hC).kpp bq;replace ae:=(ae.gr hC).kpp bq;replace ab:=(ab.gr hC).kpp bq;replace ac:=(ac.gr hC).kpp bq;replace al:=(al.gr hC).kpp bq;replace aa:=(aa.grow hC).kpp bq;have hC:=hC0.bl b6;refine Tt (off:=3) (v:=(.slice b4 ((au++[a8]).length) b5)) (al.gr hC) sizeOf24 rfl rfl (by intro u hu;simp only [Value.cells,aO,bG,or_false] at hu;subst hu;rfl) rfl rfl ?_;intro e0 br e1 ai;replace ai:Zg 27 3 b6 e0 a4 #[.string bd,.slice be ax.length bf,.slice bw ((ar++[az]).length) bx,.slice b4 ((au++[a8]).length) b5,.slice bk av.length bm]:=ai;refine Zk<|xk b6 ?_;have am:=((dl.gr hC).kp br).new;refine Yz ?_;replace ad:=(ad.gr hC).kp br;replace ag:=(ag.gr hC).kp br;replace ae:=(ae.gr hC).kp br;replace ab:=(ab.gr hC).kp br;replace ac:=(ac.gr hC).kp br;replace aa:=(aa.grow hC).kp br e1;intro g0 hC;replace hC:=hC.bl b6;refine go ?_;refine Yx ⟨_,_,rfl⟩ ?_;replace ab:=ab.gr hC;refine lW ((ab.atN).nth (q:=4) rfl)<|X4 rfl ?_;obtain ⟨b7,dm,hm⟩:=bZ hm;replace aa:=aa.grow hC;refine lI dm ((ch.ks aa).addr dm) ?_;obtain ⟨_,e2,e3⟩:=(ch.ks aa).atN dm;obtain ⟨⟨e4,e5,rfl,ao⟩,_⟩:=e2;refine lW e3.one<|go ?_;replace ad:=ad.gr hC;replace ag:=ag.gr hC;replace am:=am.gr hC;replace ae:=ae.gr hC;replace ac:=ac.gr hC;replace ai:=ai.gr hC
   refine Zv [1,18,19,2,3,48,49,1000000] (fun n f aw=>∃ an b8 b9 bb ca cb,n=cb.length∧b7.drop ca=cb∧Zko N cp bd ax ar au av (Zhs N af bn) az a8 cb bb=some r∧St w0 (Zj col) an aw∧Zg 27 1 an aw du #[.string af.1,.slice ce af.2.1.length cd,.slice b0 af.2.2.1.length bz,.slice bv af.2.2.2.1.length bu,.slice bj af.2.2.2.2.length bi]∧Zg 27 2 an aw dv #[.string (⟨#[]⟩),.slice none (([]:List ByteArray).length) 0,.slice none (([]:List R3).length) 0,.slice none (([]:List R2).length) 0,(.slice none (([]:List R4).length) 0)]∧Zb Za.str 9 4 an aw be bf ax∧Zb (Za.row 9 Za.str) 22 5 an aw bw bx (ar++[az])∧Zb (Za.row 3 rI) 33 6 an aw b4 b5 (au++[a8])∧Zb (Za.row 39 (Za.pair (Za.pair Za.bool (Za.row 95 rU)) (Za.row 95 rU))) 114 7 an aw bk bm av∧Zg 27 3 an aw a4 #[.string bd,.slice be ax.length bf,.slice bw ((ar++[az]).length) bx,.slice b4 ((au++[a8]).length) b5,.slice bk av.length bm]∧Sl (Za.pair (Za.pair Za.bool (Za.slice rU)) (Za.slice rU)) an aw e4 e5 b7∧Zb (Za.pair (Za.pair Za.bool (Za.row 95 rU)) (Za.row 95 rU)) 39 10 an aw b8 b9 bb∧[50,5].map f=[.int .i64 ca,.slice b8 bb.length b9]) b7.length ⟨_,none,0,_,0,_,rfl,rfl,hm,aa,ab,ac,ad,ag,am,ae,ai,ao,Zb.nil,rfl⟩ ?_;clear hm;intro n f aw hI;obtain ⟨an,b8,b9,bb,ca,cb,hn,hl,hm,aa,ab,ac,ad,ag,am,ae,ai,ao,bg,hs⟩:=hI;subst hn;refine .lL [50,5] hs ?_
   cases cb with
   | nil=>
    have hk:¬ ((ca:Int)<(b7.length:Int)):=by have:=aG.1 hl;omega
    have hkb:=decide_eq_false hk;rw [Zko.eq_1] at hm;refine go ?_;refine X0 (congrArg Value.bool hkb)<|go ?_;refine Xl ai<|Y2 rfl<|V9 (col:=an) (r:=(Za.row 39 (Za.pair (Za.pair Za.bool (Za.row 95 rU)) (Za.row 95 rU)))) (xs:=[bb]) [.slice b8 bb.length b9] 10 (Wg.cons1 (cs:=[.slice b8 bb.length b9]) bg.has Rows.nil0) ?_;intro g1 e6 e7 bh e8;obtain ⟨d3,hm⟩:=Z9 hm;replace ae:=ae.gr bh;refine Sb (col:=e7) (w:=e6) (r:=(Za.row 39 (Za.pair (Za.pair Za.bool (Za.row 95 rU)) (Za.row 95 rU)))) (c:=7) (c2:=10) (ae.ex) (e8.srcC (by decide)) rfl underlying25 Z6q rfl rfl rfl d3.1 d3.2 (by decide) ?_;intro d4 d5 g2 e9 bs dn;refine Yx ⟨_,_,rfl⟩ ?_;replace ai:=(ai.gr bh).kpp bs;refine Tt (off:=4) (v:=(.slice d4 ((av++[bb]).length) d5)) ai sizeOf25 rfl rfl (by intro u hu;simp only [Value.cells,aO,bG,or_false] at hu;subst hu;rfl) rfl rfl ?_;intro fa bt fb dp;replace dp:Zg 27 3 e9 fa a4 #[.string bd,.slice be ax.length bf,.slice bw ((ar++[az]).length) bx,.slice b4 ((au++[a8]).length) b5,.slice d4 ((av++[bb]).length) d5]:=dp;have fc:=(dn.kp bt).new;refine go ?_;replace ad:=((ad.gr bh).kpp bs).kp bt;replace ag:=((ag.gr bh).kpp bs).kp bt;replace am:=((am.gr bh).kpp bs).kp bt;replace ab:=((ab.gr bh).kpp bs).kp bt;replace ac:=((ac.gr bh).kpp bs).kp bt;replace aa:=((aa.grow bh).kpp bs).kp bt fb;exact ⟨bn,by omega,rfl,⟨_,_,_,_,_,_,_,_,_,_,_,_,_,_,_,_,rfl,hm,aa,ab,ac,ad,ag,am,fc,dp,rfl⟩⟩
   | cons dq fd=>
    obtain ⟨dr,fe,ff⟩:=Yf hl;have hk:(ca:Int)<(b7.length:Int):=by omega
    have hkb:=decide_eq_true hk;rw [Zko.eq_2] at hm;refine go ?_;refine X1 (congrArg Value.bool hkb)<|go ?_;refine lI dr (ao.addr dr) ?_;obtain ⟨_,fg,fh⟩:=ao.atN dr;obtain ⟨_,_,rfl,fi,fj⟩:=Vr fg;obtain ⟨_,_,rfl,fk,fl⟩:=Vr fi;obtain ⟨rfl,_⟩:=fk;obtain ⟨⟨fm,fn,rfl,ds⟩,_⟩:=fl;obtain ⟨⟨fp,fq,rfl,dt⟩,_⟩:=fj;refine lV (.agg #[.bool dq.1.1,.slice fm dq.1.2.length fn,.slice fp dq.2.length fq]) (Y9 isAgg39 sizeOf39 rfl rfl fh)<|Xk (col:=an) #[.bool false,(nI),(nI)] 11 zeroValue39 ?_;intro g3 g4 g5 ap fr;refine Zy fr ?_;intro g6 aq ft fu;refine go ?_;refine lV _ (Z8 isAgg39 sizeOf39 fu)<|lV (.agg #[.bool false,(nI),(nI)]) (Wq (l:=[_,_]) (qs:=[(0,2),(2,1)]) underlying39 zeroValue39 ⟨rfl,sizeOf37,rfl,sizeOf35,trivial⟩ rfl) ?_;obtain ⟨a1,fv,hm⟩:=bZ hm;refine Zi (Zgw 12 13 fv ((ds.gr ap).kp aq) ((dt.gr ap).kp aq) Sl.nil Sl.nil) ?_;rintro _ g7 ⟨fw,d6,d7,d8,d9,rfl,a2,fx,fy⟩;refine ⟨_,rfl,?_⟩;have fz:=Yk.join (Yk.joinL (Zai a1.1.1) fx.has) fy.has (by decide) (by decide);replace ad:=((ad.gr ap).kp aq).gr a2;replace ad:=ad.recol 13 12;replace ag:=((ag.gr ap).kp aq).gr a2;replace ag:=ag.recol 13 12;replace am:=((am.gr ap).kp aq).gr a2;replace am:=am.recol 13 12;replace ae:=((ae.gr ap).kp aq).gr a2;replace ae:=ae.recol 13 12;replace ao:=((ao.gr ap).kp aq).gr a2;replace ao:=ao.recol 13 12;replace bg:=((bg.gr ap).kp aq).gr a2;replace bg:=bg.recol 13 12;replace ab:=((ab.gr ap).kp aq).gr a2;replace ab:=ab.recol 13 12;replace ac:=((ac.gr ap).kp aq).gr a2;replace ac:=ac.recol 13 12;replace ai:=((ai.gr ap).kp aq).gr a2;replace ai:=ai.recol 13 12;replace aa:=((aa.grow ap).kp aq ft).grow a2;replace aa:=aa.recol 13 12 (by decide) (by decide)
    refine V9 (col:=(Xu 13 12 fw)) (r:=(Za.pair (Za.pair Za.bool (Za.row 95 rU)) (Za.row 95 rU))) (xs:=[((a1.1.1,a1.1.2),a1.2)]) [(.agg #[.bool a1.1.1,.slice d6 a1.1.2.length d7,.slice d8 a1.2.length d9])] 12 (Wg.cons1 (cs:=[.bool a1.1.1,.slice d6 a1.1.2.length d7,.slice d8 a1.2.length d9]) fz Rows.nil0) ?_;intro g8 g9 ha a3 f0;obtain ⟨f1,hm⟩:=Z9 hm;refine Vy (c:=10) (c2:=12) (bg.gr a3) (f0.srcC (by decide)) f1 ?_;intro hc hd he hf bc f2;refine go ?_;replace ad:=(ad.gr a3).kpp bc;replace ae:=(ae.gr a3).kpp bc;replace ao:=(ao.gr a3).kpp bc;replace ac:=(ac.gr a3).kpp bc;replace aa:=(aa.grow a3).kpp bc;exact ⟨fd.length,by simp,rfl,⟨_,_,_,_,_,_,rfl,fe,hm,aa,(ab.gr a3).kpp bc,ac,ad,(ag.gr a3).kpp bc,(am.gr a3).kpp bc,ae,(ai.gr a3).kpp bc,ao,f2,(Yl (congrArg (Value.int .i64) (Yi (aE ff ao.1.1))) rfl)⟩⟩
  refine lV _ (Z8 isAgg27 sizeOf27 aj)<|Zy ac ?_;intro hg cc f3 f4;refine go ?_;cases hm;replace aa:=aa.kp cc f3;exact ⟨rfl,_,ra f4.atN,_,_,_,_,_,_,_,_,_,rfl,aa.fin (cm [(4,c1),(5,c2),(6,c3),(7,c4)]),aa.fo (ad.kp cc),aa.fo (ay.kp cc),aa.fo (ah.kp cc),aa.fo (ae.kp cc)⟩
def Zkl (N:Nat) (aa:R0):List R6→Option (List Rh)
  | []=>some []
  | ac :: ad=>(Su N (aa.1,aa.2.1,aa.2.2.1,aa.2.2.2.1,aa.2.2.2.2) ac.2).bind fun ab=>(Sz ac.2).bind fun ae=>((Zkl N aa ad)).bind fun af=>some ((ae,((ab.1.1.1,ab.1.1.2),ab.1.2)) :: af)
termination_by structural x=>x
def Zra (N:Nat) (aa:List Int) (ab:R0):Option (List Rh):=
  (Zi8 N aa).bind fun ac=>Zkl N ab ac
theorem Z4c (N:Nat) (cy:Nat) (col:Zd) (w0:World) (g0:Nat) (af0:Option Addr) (capf0:Nat) (az:List Int) (hf0:Sl rI col w0 af0 capf0 az) (hb0:Zg 33 450 col w0 g0 #[.slice af0 az.length capf0]) (g1:Nat) (a2:Option Addr) (a3:Nat) (a4:Option Addr) (a5:Nat) (a6:Option Addr) (a7:Nat) (a8:Option Addr) (a9:Nat) (ah:R0) (ab:Sl Za.str col w0 a2 a3 ah.2.1) (ac:Sl (Za.slice Za.str) col w0 a4 a5 ah.2.2.1) (ad:Sl (Za.slice rI) col w0 a6 a7 ah.2.2.2.1) (ae:Sl (Za.slice (Za.pair (Za.pair Za.bool (Za.slice rU)) (Za.slice rU))) col w0 a8 a9 ah.2.2.2.2) (hb1:Zg 27 450 col w0 g1 #[.string ah.1,.slice a2 ah.2.1.length a3,.slice a4 ah.2.2.1.length a5,.slice a6 ah.2.2.2.1.length a7,.slice a8 ah.2.2.2.2.length a9]) (r:List Rh) (hm:Zra N az ah=some r):
    Zgo prog 2 59 [.pointer (some ⟨g0,0,none⟩),.pointer (some ⟨g1,0,none⟩)] (fun (y:List Int×R1) (col:Zd) (w:World) (args:List Value)=>∃ (a0:Option Addr) (bf:Nat) (a1_0_1:Option Addr) (c1_0_1:Nat) (bg:Option Addr) (bh:Nat),args=[.slice a0 y.1.length bf,.agg #[.bool y.2.1.1,.slice a1_0_1 y.2.1.2.length c1_0_1,.slice bg y.2.2.length bh]]∧Zb rI 3 cy col w a0 bf y.1∧Sl rU col w a1_0_1 c1_0_1 y.2.1.2∧Sl rU col w bg bh y.2.2) r col w0:=by
 intro l J X hjs hxs hy aa;refine Zqe (mc:=1998) (m:=24) (args:=[.func (.yield l) #[] #[],.pointer (some ⟨g0,0,none⟩),.pointer (some ⟨g1,0,none⟩)]) func59 rfl rfl rfl rfl ?_;rw [Zra.eq_1] at hm;have hmk:Y0 1998 col w0 []:=.nil;refine go ?_;refine Zc4 (col:=col) (v:=(.func (.yield l) #[] #[])) 1001 rfl rfl ?_;intro bi bq br ax af;replace hf0:=hf0.gr ax;replace ab:=ab.gr ax;replace ac:=ac.gr ax;replace ad:=ad.gr ax;replace ae:=ae.gr ax;replace hb0:=hb0.gr ax;replace hb1:=hb1.gr ax;replace hmk:=hmk.gr ax;replace aa:=hjs _ _ _ _ _ aa ax.toP;replace af:Zg 85 1001 br bq bi #[(.func (.yield l) #[] #[])]:=af;refine go ?_;refine lW hb0.at1 ?_;obtain ⟨bs,bt,hm⟩:=bZ hm;refine Zi (Zu0 1002 bt hf0) ?_;rintro _ cf ⟨bu,cg,rfl,aw,bv⟩;refine ⟨_,rfl,?_⟩;replace ab:=ab.gr aw;replace ac:=ac.gr aw;replace ad:=ad.gr aw;replace ae:=ae.gr aw;replace hf0:=hf0.gr aw;replace hb0:=hb0.gr aw;replace hb1:=hb1.gr aw;replace af:=af.gr aw;replace hmk:=hmk.gr aw;replace aa:=hjs _ _ _ _ _ aa aw.toP;refine go ?_;refine Zmc (psl:=[10,11]) (arr:=(fun (y:Int×List Int) (col:Zd) (w:World) (args:List Value)=>∃ (a1:Option Addr) (bj:Nat),args=[.int .i64 y.1,.slice a1 y.2.length bj]∧Zb rI 3 1002 col w a1 bj y.2)) (ys:=bs) (col:=bu) 1999 rfl bv rfl hmk rfl rfl (by rintro _ _ _ _ ⟨_,_,rfl,_⟩;rfl) (fun ys_ ag al=>∃ (r:List Rh),Zkl N ah ys_=some r∧J r ag al∧Sl Za.str ag al a2 a3 ah.2.1∧Sl (Za.slice Za.str) ag al a4 a5 ah.2.2.1∧Sl (Za.slice rI) ag al a6 a7 ah.2.2.2.1∧Sl (Za.slice (Za.pair (Za.pair Za.bool (Za.slice rU)) (Za.slice rU))) ag al a8 a9 ah.2.2.2.2∧Zg 27 450 ag al g1 #[.string ah.1,.slice a2 ah.2.1.length a3,.slice a4 ah.2.2.1.length a5,.slice a6 ah.2.2.2.1.length a7,.slice a8 ah.2.2.2.2.length a9]∧Zg 85 1001 ag al bi #[(.func (.yield l) #[] #[])]∧Sl rI ag al af0 capf0 az∧Zg 33 450 ag al g0 #[.slice af0 az.length capf0]) (fun c_ ag al=>(c_= .ret∧X ag al)) ?_ ?_ ⟨r,hm,aa,ab,ac,ad,ae,hb1,af,hf0,hb0⟩ ?_ ?_ ?_
 ·intro ys_ ag al col2_ w2_ hJ hk;obtain ⟨r,hm,aa,ab,ac,ad,ae,hb1,af,hf0,hb0⟩:=hJ;exact ⟨r,hm,(hjs _ _ _ _ _ aa (hk.mono fun _=>Zyw)),ab.kpp hk rfl,ac.kpp hk rfl,ad.kpp hk rfl,ae.kpp hk rfl,hb1.kpp hk rfl,af.kpp hk rfl,hf0.kpp hk rfl,hb0.kpp hk rfl⟩
 ·intro c_ ag al col2_ w2_ hX hk;obtain ⟨rfl,hX⟩:=hX;exact ⟨rfl,hxs _ _ _ _ hX (hk.mono fun _=>Zyw)⟩
 ·intro ch ci cj ck cl ag al args hJ hrec hmk harr;obtain ⟨r,hm,aa,ab,ac,ad,ae,hb1,af,hf0,hb0⟩:=hJ;rw [Zkl.eq_2] at hm;have hki:=Zt.refl (pC 1) ag al;obtain ⟨cn,co,rfl,aq⟩:=harr;refine go ?_;refine ⟨_,hrec,?_⟩;intro bw cp ar bk hrec2;replace ab:=ab.kp ar;replace ac:=ac.kp ar;replace ad:=ad.kp ar;replace ae:=ae.kp ar;replace aq:=aq.kp ar;replace hf0:=hf0.kp ar;replace hb1:=hb1.kp ar;replace af:=af.kp ar;replace hb0:=hb0.kp ar;replace hmk:=hmk.kp ar;replace hki:=hki.kp ar bk rfl;replace aa:=hjs _ _ _ _ _ aa (ar.toP bk rfl);have hrec:=hrec2;refine go ?_;refine lV _ (Z8 isAgg27 sizeOf27 hb1)<|Y2 rfl ?_;obtain ⟨au,bx,hm⟩:=bZ hm;refine Zi (Zuh 1003 1004 bx (ab.froz 1002) (ac.froz 1002) (ad.froz 1002) (ae.froz 1002) (aq.toSlF (Zh.int .i64))) ?_;rintro _ cq ⟨bz,ba,bb,bc,bd,rfl,am,ai,aj⟩;refine ⟨_,rfl,?_⟩;replace ai:=ai.thaw (Z1 .u32) am ((Fz.refl (col:=ag)).froz 1002);replace aj:=aj.thaw (Z1 .u32) am ((Fz.refl (col:=ag)).froz 1002);replace am:=am.thawR (col:=ag);generalize Xc bw.heap.size ag bz=b0 at *;replace ab:=ab.gr am;replace ac:=ac.gr am;replace ad:=ad.gr am;replace ae:=ae.gr am;replace aq:=aq.gr am;replace hf0:=hf0.gr am;replace hb1:=hb1.gr am;replace af:=af.gr am;replace hb0:=hb0.gr am;replace hrec:=hrec.gr am;replace hmk:=hmk.gr am;replace hki:=hki.gr am;replace aa:=hjs _ _ _ _ _ aa am.toP;refine lM (.tuple #[(.agg #[.bool au.1.1.1,.slice ba au.1.1.2.length bb,.slice bc au.1.2.length bd]),.int .i64 au.2])<|lV (.agg #[.bool au.1.1.1,.slice ba au.1.1.2.length bb,.slice bc au.1.2.length bd]) (Xo rfl rfl)<|lV (.int .i64 au.2) (Xo rfl rfl)<|Xk (col:=b0) #[.bool false,(nI),(nI)] 1005 zeroValue39 ?_;intro cr cs ay an b1;replace ab:=ab.gr an;replace ac:=ac.gr an;replace ad:=ad.gr an;replace ae:=ae.gr an;replace aq:=aq.gr an;replace ai:=ai.gr an;replace aj:=aj.gr an;replace hf0:=hf0.gr an;replace hb1:=hb1.gr an;replace af:=af.gr an;replace hb0:=hb0.gr an;replace hrec:=hrec.gr an;replace hmk:=hmk.gr an;replace hki:=hki.gr an;replace aa:=hjs _ _ _ _ _ aa an.toP;refine Zy b1 ?_;intro ct ao bm b2
  replace ab:=ab.kp ao;replace ac:=ac.kp ao;replace ad:=ad.kp ao;replace ae:=ae.kp ao;replace aq:=aq.kp ao;replace ai:=ai.kp ao;replace aj:=aj.kp ao;replace hf0:=hf0.kp ao;replace hb1:=hb1.kp ao;replace af:=af.kp ao;replace hb0:=hb0.kp ao;replace hrec:=hrec.kp ao;replace hmk:=hmk.kp ao;replace hki:=hki.kp ao bm rfl;replace aa:=hjs _ _ _ _ _ aa (ao.toP bm rfl);refine go ?_;refine Y8 (col:=ay) [(0,0),(1,1),(3,0),(2,3),(4,2),(5,1)] (by kernel_rfl) (by kernel_rfl)<|xW (fun _ hC=>af.at1.gr (hC.bl ay)) ?_;refine xu rfl rfl (fun _=>Ub rfl) ?_;refine xv rfl rfl (fun _ hC=>Z8 isAgg39 sizeOf39 (b2.gr (hC.bl ay))) ?_;refine xe rfl rfl ?_;intro b3 hC0;have hC:=hC0.bl ay;replace ab:=ab.gr hC;replace ac:=ac.gr hC;replace ad:=ad.gr hC;replace ae:=ae.gr hC;replace aq:=aq.gr hC;replace ai:=ai.gr hC;replace aj:=aj.gr hC;replace hf0:=hf0.gr hC;replace hb1:=hb1.gr hC;replace af:=af.gr hC;replace hb0:=hb0.gr hC;replace hrec:=hrec.gr hC;replace hmk:=hmk.gr hC;replace hki:=hki.gr hC;replace aa:=hjs _ _ _ _ _ aa hC.toP;obtain ⟨b4,b5,hm⟩:=bZ hm;refine Zi (Zgz 1006 b5 (aq.toSlF (Zh.int .i64))) ?_;rintro _ cu ⟨b6,bn,bo,rfl,ak,av⟩;refine ⟨_,rfl,?_⟩;replace av:=av.thaw (Z1 .i64) ak ((Fz.refl (col:=ay)).froz 1002);replace ak:=ak.thawR (col:=ay);generalize Xc b3.heap.size ay b6=bp at *;replace ab:=ab.gr ak;replace ac:=ac.gr ak;replace ad:=ad.gr ak;replace ae:=ae.gr ak;replace ai:=ai.gr ak;replace aj:=aj.gr ak;replace hf0:=hf0.gr ak;replace hb1:=hb1.gr ak;replace af:=af.gr ak;replace hb0:=hb0.gr ak;replace hrec:=hrec.gr ak;replace hmk:=hmk.gr ak;replace hki:=hki.gr ak;replace aa:=hjs _ _ _ _ _ aa ak.toP;refine Zk<|Xj bp hC0 ak<|xe rfl rfl ?_;intro cv hC0;have hC:=hC0.bl bp;replace ab:=ab.gr hC;replace ac:=ac.gr hC;replace ad:=ad.gr hC;replace ae:=ae.gr hC;replace ai:=ai.gr hC;replace aj:=aj.gr hC;replace av:=av.gr hC;replace hf0:=hf0.gr hC;replace hb1:=hb1.gr hC;replace af:=af.gr hC;replace hb0:=hb0.gr hC;replace hrec:=hrec.gr hC;replace hmk:=hmk.gr hC;replace hki:=hki.gr hC;replace aa:=hjs _ _ _ _ _ aa hC.toP;replace ab:=ab.froz 1003;replace ac:=ac.froz 1003;replace ad:=ad.froz 1003;replace ae:=ae.froz 1003;replace ai:=(ai).toSlF (Zh.int .u32);replace aj:=aj.froz 1003;replace av:=av.froz 1003;replace hf0:=hf0.froz 1003
  replace hb1:=hb1.froz 1003;replace af:=af.froz 1003;replace hb0:=hb0.froz 1003;replace hrec:=hrec.froz 1003;replace hmk:=hmk.froz 1003 (by decide);replace hki:=hki.froz 1003 rfl;replace aa:=hjs _ _ _ _ _ aa ((Zt.refl _ _ _).froz 1003 rfl);replace ab:=ab.froz 1004;replace ac:=ac.froz 1004;replace ad:=ad.froz 1004;replace ae:=ae.froz 1004;replace ai:=ai.froz 1004;replace aj:=(aj).toSlF (Zh.int .u32);replace av:=av.froz 1004;replace hf0:=hf0.froz 1004;replace hb1:=hb1.froz 1004;replace af:=af.froz 1004;replace hb0:=hb0.froz 1004;replace hrec:=hrec.froz 1004;replace hmk:=hmk.froz 1004 (by decide);replace hki:=hki.froz 1004 rfl;replace aa:=hjs _ _ _ _ _ aa ((Zt.refl _ _ _).froz 1004 rfl);replace ab:=ab.recol 1006 cy (by decide);replace ac:=ac.recol 1006 cy (by decide);replace ad:=ad.recol 1006 cy (by decide);replace ae:=ae.recol 1006 cy (by decide);replace ai:=ai.recol 1006 cy (by decide);replace aj:=aj.recol 1006 cy (by decide);replace av:=av.recolSelf cy (by decide);replace hf0:=hf0.recol 1006 cy (by decide);replace hb1:=hb1.recol 1006 cy (by decide);replace af:=af.recol 1006 cy (by decide);replace hb0:=hb0.recol 1006 cy (by decide);replace hrec:=hrec.recol 1006 cy (by decide);replace hmk:=hmk.recol 1006 cy (by decide);replace hki:=hki.recol 1006 cy rfl;replace aa:=hjs _ _ _ _ _ aa ((Zt.refl _ _ _).recol 1006 cy rfl);obtain ⟨b7,hc_68m,b8⟩:=bZ hm;cases b8;have hm:=hc_68m;refine ly2 rfl rfl rfl rfl (hy _ _ _ _ [.slice bn b4.length bo,(.agg #[.bool au.1.1.1,.slice ba au.1.1.2.length bb,.slice bc au.1.2.length bd])] aa ⟨bn,bo,ba,bb,bc,bd,rfl,av,ai,aj⟩) ?_;rintro _ cw ⟨be,ap,⟨rfl,hJ⟩ | ⟨rfl,hX⟩⟩
  ·refine ⟨_,rfl,?_⟩;replace ab:=ab.kpp ap;replace ac:=ac.kpp ap;replace ad:=ad.kpp ap;replace ae:=ae.kpp ap;replace hf0:=hf0.kpp ap;replace hb1:=hb1.kpp ap;replace af:=af.kpp ap;replace hb0:=hb0.kpp ap;replace hrec:=hrec.kpp ap;replace hmk:=hmk.kpp ap;replace hki:=hki.trans (ap.mono (by first | exact pCo_p2 rfl | exact pCo_p1 rfl | exact Zr1 rfl | exact fun _=>Zr0 | exact fun _ h=>h | exact fun _ _=>rfl));have aa:=hJ;refine Zk<|xk be<|xu rfl rfl (fun _=>Zl2 _ rfl) ?_;refine Yz ?_;intro cx hC;replace hC:=hC.bl be;replace ab:=ab.gr hC;replace ac:=ac.gr hC;replace ad:=ad.gr hC;replace ae:=ae.gr hC;replace hf0:=hf0.gr hC;replace hb1:=hb1.gr hC;replace af:=af.gr hC;replace hb0:=hb0.gr hC;replace hrec:=hrec.gr hC;replace hmk:=hmk.gr hC;replace hki:=hki.gr hC;replace aa:=hjs _ _ _ _ _ aa hC.toP;refine X0 rfl<|Yj ?_;exact ⟨_,hki,⟨b7,hm,aa,ab,ac,ad,ae,hb1,af,hf0,hb0⟩,hrec,hmk⟩
  refine ⟨_,rfl,?_⟩;replace hrec:=hrec.kpp ap;replace hmk:=hmk.kpp ap;replace hki:=hki.trans (ap.mono (by first | exact pCo_p2 rfl | exact pCo_p1 rfl | exact Zr1 rfl | exact fun _=>Zr0 | exact fun _ h=>h | exact fun _ _=>rfl));have aa:=hX;refine Zk<|xk be<|xu rfl rfl (fun _=>Zl2 _ rfl) ?_;refine Yz ?_;intro cz hC;replace hC:=hC.bl be;replace hrec:=hrec.gr hC;replace hmk:=hmk.gr hC;replace hki:=hki.gr hC;replace aa:=hxs _ _ _ _ aa hC.toP;refine X1 rfl<|Vd ?_;exact ⟨_,hki,⟨rfl,aa⟩,hrec,hmk⟩
 ·intro b9 ag al hJ hmk;obtain ⟨r,hm,aa,ab,ac,ad,ae,hb1,af,hf0,hb0⟩:=hJ;rw [Zkl.eq_1] at hm;cases hm;refine ⟨_,(b9 :: []),rfl,hmk,?_⟩;intro c0 ca cb;replace aa:=hjs _ _ _ _ _ aa (ca.toP cb rfl);exact ⟨⟨_,rfl⟩,_,.inl aa⟩
 intro c_ cc ag al hX hmk;obtain ⟨rfl,hX⟩:=hX;have aa:=hX;refine Vd ?_;refine ⟨_,(cc :: []),rfl,hmk,?_⟩;intro c1 cd ce;replace aa:=hxs _ _ _ _ aa (cd.toP ce rfl);exact ⟨⟨_,rfl⟩,_,.inr aa⟩
def Zq8 (N:Nat) (aa:R0):Option (List Rh):=
  (Znp N (aa.1,aa.2.1,aa.2.2.1,aa.2.2.2.1,aa.2.2.2.2) ([]:List Rb) ([]:List Int)).bind fun ac=>if (!decide (ac.2=0))=true then Zq9 else ((Zrc N (aa.1,aa.2.1,aa.2.2.1,aa.2.2.2.1,aa.2.2.2.2)).bind fun ab=>Zra N ac.1 (ab.1,ab.2.1,ab.2.2.1,ab.2.2.2.1,ab.2.2.2.2))
theorem Z4a {N bc bd be bf:Nat} {bg bh bi bj:Option Addr} {col:Zd} {w0:World} {ai:R0} {r:(List Rh)} (cy:Nat) (hm:Zq8 N ai=some r) (ar:Sl Za.str col w0 bg bc ai.2.1) (au:Sl (Za.slice Za.str) col w0 bh bd ai.2.2.1) (av:Sl (Za.slice rI) col w0 bi be ai.2.2.2.1) (aw:Sl (Za.slice (Za.pair (Za.pair Za.bool (Za.slice rU)) (Za.slice rU))) col w0 bj bf ai.2.2.2.2):
    Calls prog 11 #[(.agg #[.string ai.1,.slice bg ai.2.1.length bc,.slice bh ai.2.2.1.length bd,.slice bi ai.2.2.2.1.length be,.slice bj ai.2.2.2.2.length bf])] w0 (fun e w'=>∃ (col':Zd) (rv1:Value),e= .returned (rv1)∧Zf col w0 col' w'∧It prog 2 rv1 (fun (y:List Int×R1) (col:Zd) (w:World) (args:List Value)=>∃ (a0:Option Addr) (bk:Nat) (a1_0_1:Option Addr) (c1_0_1:Nat) (bm:Option Addr) (bn:Nat),args=[.slice a0 y.1.length bk,.agg #[.bool y.2.1.1,.slice a1_0_1 y.2.1.2.length c1_0_1,.slice bm y.2.2.length bn]]∧Zb rI 3 cy col w a0 bk y.1∧Sl rU col w a1_0_1 c1_0_1 y.2.1.2∧Sl rU col w bm bn y.2.2) r q0 col' w'):=by
 refine Xe 2 (m:=16) func11 rfl rfl rfl rfl rfl ?_;rw [Zq8.eq_1] at hm;have aa:=St.start col w0;refine go ?_;refine Xi (col:=(Zj col)) 1 rfl ?_;intro b9 ca cb bp ax;refine lv (v:=_) rfl rfl (T3 rfl)<|go ?_;refine lV _ (Z8 isAgg27 sizeOf27 ax) ?_;obtain ⟨ak,bq,hm⟩:=bZ hm;replace ar:=ar.k0;replace au:=au.k0;replace av:=av.k0;replace aw:=aw.k0;replace aa:=aa.grow bp;refine Zi (Zuf 2 bq (ar.ks aa) (au.ks aa) (av.ks aa) (aw.ks aa) Sl.nil Sl.nil) ?_;rintro _ cc ⟨br,ao,ap,rfl,bo,ab⟩;refine ⟨_,rfl,?_⟩;refine lM (.tuple #[.slice ao ak.1.length ap,.int .i64 ak.2])<|lV (.slice ao ak.1.length ap) (Xo rfl rfl)<|lV (.int .i64 ak.2) (Xo rfl rfl)<|Zax (col:=br) (v:=(nI)) 3 rfl zeroValue33 ?_;intro an bs az a1 a2;replace a2:Zg 33 3 az bs an #[(nI)]:=a2;refine Sp (v:=(.slice ao ak.1.length ap)) a2 sizeOf33 rfl rfl (by intro u hu;simp only [Value.cells,aO,bG,or_false] at hu;subst hu;rfl) rfl rfl ?_;intro bt a3 bu ac;replace ac:Zg 33 3 az bt an #[.slice ao ak.1.length ap]:=ac;refine go ?_;replace aa:=((aa.grow bo).grow a1).kp a3 bu;replace ab:=(ab.gr a1).kp a3;refine Zo hm (fun hb hm=>go ?_) fun hb hm=>go ?_
 ·refine lA (.func (.func 57) #[] #[])<|go ?_;refine ⟨rfl,V7 w0.heap.size col az (fun n=>0),_,rfl,aa.fin (fun n=>0),57,[],rfl,call57,?_⟩;intro col9 w9 aj hk9;exact Z4b cy col9 w9 r hm
 refine lV _ (Z8 isAgg27 sizeOf27 (((ax.gr bo).gr a1).kp a3)) ?_;obtain ⟨aq,bv,hm⟩:=bZ hm;refine Zi (Z4e 4 5 6 7 bv (ar.ks aa) (au.ks aa) (av.ks aa) (aw.ks aa)) ?_;rintro _ cd ⟨bw,bx,bz,b0,b1,b2,b3,b4,b5,rfl,a4,ad,ae,af,ag⟩;refine ⟨_,rfl,?_⟩;refine Xk (col:=bw) #[.string (⟨#[]⟩),.slice none (([]:List ByteArray).length) 0,.slice none (([]:List R3).length) 0,.slice none (([]:List R2).length) 0,(.slice none (([]:List R4).length) 0)] 8 zeroValue27 ?_;intro ay ce b6 al b7;refine Zy b7 ?_;intro cf am b8 ah;refine go ?_;refine lV (.func (.func 59) #[] #[.pointer (some ⟨an,0,none⟩),.pointer (some ⟨ay,0,none⟩)]) (Zsl rfl rfl)<|lA (.func (.func 59) #[] #[.pointer (some ⟨an,0,none⟩),.pointer (some ⟨ay,0,none⟩)])<|go ?_;replace ab:=((ab.gr a4).gr al).kp am;replace ab:=(ab).toSlF (Zh.int .i64);replace ad:=(ad.gr al).kp am;replace ad:=ad.froz 2;replace ae:=(ae.gr al).kp am;replace ae:=ae.froz 2;replace af:=(af.gr al).kp am;replace af:=af.froz 2;replace ag:=(ag.gr al).kp am;replace ag:=ag.froz 2;replace ac:=((ac.gr a4).gr al).kp am;replace ac:=ac.froz 2;replace ah:=ah.froz 2;replace aa:=((aa.grow a4).grow al).kp am b8;replace aa:=aa.froz 2 (by decide) (by decide);replace ab:=ab.froz 4;replace ad:=(ad).toSlF Zh.str;replace ae:=ae.froz 4;replace af:=af.froz 4;replace ag:=ag.froz 4;replace ac:=ac.froz 4;replace ah:=ah.froz 4;replace aa:=aa.froz 4 (by decide) (by decide);replace ab:=ab.froz 5;replace ad:=ad.froz 5;replace ae:=(ae).toSlF (Zh.row Zh.str);replace af:=af.froz 5;replace ag:=ag.froz 5;replace ac:=ac.froz 5;replace ah:=ah.froz 5;replace aa:=aa.froz 5 (by decide) (by decide);replace ab:=ab.froz 6;replace ad:=ad.froz 6;replace ae:=ae.froz 6;replace af:=(af).toSlF (Zh.row (Zh.int .i64));replace ag:=ag.froz 6;replace ac:=ac.froz 6;replace ah:=ah.froz 6;replace aa:=aa.froz 6 (by decide) (by decide);replace af:=af.froz 7
 replace aa:=aa.froz 7 (by decide) (by decide);have a5:=aa.finBox (G:=(fun n=>bif aI n 3 then 450 else bif aI n 8 then 450 else 0)) (ac.froz 7) (by decide) (by decide) (show (fun n=>bif aI n 3 then 450 else bif aI n 8 then 450 else 0) 3=450 from rfl);have a6:=aa.finSl (g:=(fun n=>bif aI n 3 then 450 else bif aI n 8 then 450 else 0)) rfl (ab.froz 7);have a7:=aa.finBox (G:=(fun n=>bif aI n 3 then 450 else bif aI n 8 then 450 else 0)) (ah.froz 7) (by decide) (by decide) (show (fun n=>bif aI n 3 then 450 else bif aI n 8 then 450 else 0) 8=450 from rfl);have a8:=aa.finSl (g:=(fun n=>bif aI n 3 then 450 else bif aI n 8 then 450 else 0)) rfl (ad.froz 7);have a9:=aa.finSl (g:=(fun n=>bif aI n 3 then 450 else bif aI n 8 then 450 else 0)) rfl (ae.froz 7);have ba:=aa.finSl (g:=(fun n=>bif aI n 3 then 450 else bif aI n 8 then 450 else 0)) rfl af;have bb:=aa.finSl (g:=(fun n=>bif aI n 3 then 450 else bif aI n 8 then 450 else 0)) rfl ((ag).toSlF (Zh.row (Zh.pair (Zh.pair Zh.bool (Zh.row (Zh.int .u32))) (Zh.row (Zh.int .u32)))));refine ⟨rfl,V7 w0.heap.size col (Xp 7 (Xp 6 (Xp 5 (Xp 4 (Xp 2 b6))))) (fun n=>bif aI n 3 then 450 else bif aI n 8 then 450 else 0),_,rfl,aa.fin (fun n=>bif aI n 3 then 450 else bif aI n 8 then 450 else 0),59,[.pointer (some ⟨an,0,none⟩),.pointer (some ⟨ay,0,none⟩)],rfl,call59,?_⟩;intro col9 w9 aj hk9;exact Z4c N cy col9 w9 an ao ap ak.1 (a6.itk aj hk9 rfl) (a5.itk aj hk9 rfl) ay bx bz b0 b1 b2 b3 b4 b5 (aq.1,aq.2.1,aq.2.2.1,aq.2.2.2.1,aq.2.2.2.2) (a8.itk aj hk9 rfl) (a9.itk aj hk9 rfl) (ba.itk aj hk9 rfl) (bb.itk aj hk9 rfl) (a7.itk aj hk9 rfl) r hm
/-! a network whose lists are its own -/
def Wy (x:QV):QV:=Zp (Zr x)
def Ws (n:Zq):Zq:=(n.1,n.2.1,n.2.2.1,n.2.2.2.1,n.2.2.2.2.map (List.map Wy))
theorem Zvg (x:QV):Zr (Wy x)=Zr x:=Wo _
theorem Z6e (T:List (List QV)) (v:Nat):(T.map (List.map Wy)).getD v []=(T.getD v []).map Wy:=by
 rw [aF,aF,cW]
 cases T[v]? with
 | none=>rfl
 | some t=>rfl
section
variable {N W K:Nat} {n:Zq} (hf:X7 N n) (hs:Ww n W) (hr:Z5 N (8 * K+40)) (hWK:1025 * (W+2)+4≤K) (hN:2000000<N)
include hf hs hr hWK hN
def W3 (n:Zq):List Nat:=n.2.2.1.map List.length
end
def Zhz (aa:Nat) (kk_L2:(Nat→Option Int)) (ab:Bool):Option Int:=
  if ab=true then (some 71) else (kk_L2 (aa+1))
def Zbd (ab:R0) (kk_L1:(Option Int)):List Int→Nat→Option Int
  | [],aa=>kk_L1
  | ac :: ad,aa=>if (decide (ac<(-1)))=true then (Zhz aa (Zbd ab kk_L1 ad) true) else ((Zl ab.2.2.1 (aa:Int)).bind fun ae=>Zhz aa (Zbd ab kk_L1 ad) (decide ((ae.length:Int)≤ac)))
termination_by structural x=>x
def Zbc (aa:R0):List R2→Option Int
  | []=>some 0
  | ab :: ac=>if (!decide ((ab.length:Int)=(aa.2.1.length:Int)))=true then (some 71) else (Zbd aa (Zbc aa ac) ab 0)
termination_by structural x=>x
def Ze7 (N:Nat) (aa:R0) (ac:R7):Option Int:=
  (Vj N (aa.1,aa.2.1,aa.2.2.1,aa.2.2.2.1,aa.2.2.2.2)).bind fun ab=>if (!decide (ab=0))=true then (some ab) else (Zbc aa ac)
theorem Z4o {N ai aj ak al bc:Nat} {am an ao ap a1:Option Addr} {col:Zd} {w0:World} {aa:R0} {ae:R7} {r:Int} (hm:Ze7 N aa ae=some r) (a2:Sl Za.str col w0 am ai aa.2.1) (aq:Sl (Za.slice Za.str) col w0 an aj aa.2.2.1) (a3:Sl (Za.slice rI) col w0 ao ak aa.2.2.2.1) (a4:Sl (Za.slice (Za.pair (Za.pair Za.bool (Za.slice rU)) (Za.slice rU))) col w0 ap al aa.2.2.2.2) (h1:Sl (Za.slice rI) col w0 a1 bc ae):
    Calls prog 95 #[(.agg #[.string aa.1,.slice am aa.2.1.length ai,.slice an aa.2.2.1.length aj,.slice ao aa.2.2.2.1.length ak,.slice ap aa.2.2.2.2.length al]),.slice a1 ae.length bc] w0 (fun e w'=>e= .returned ((.int .i64 r))∧Below w0.heap.size w0 w'):=by
 refine Xe 4 (m:=48) func95 rfl rfl rfl rfl rfl ?_;rw [Ze7.eq_1] at hm;have ab:=St.start col w0;refine go ?_;refine Xi (col:=(Zj col)) 1 rfl ?_;intro a5 bh bd bi ac;refine go ?_;refine lV _ (Z8 isAgg27 sizeOf27 ac) ?_;obtain ⟨bw,bj,hm⟩:=bZ hm;replace aq:=aq.k0;replace ab:=ab.grow bi;refine Zi (Zmv bj (a2.k0.ks ab) (aq.ks ab) (a3.k0.ks ab) (a4.k0.ks ab)) ?_;rintro _ bk ⟨rfl,aw⟩;refine ⟨_,rfl,?_⟩;replace aw:Zf bd bh bd bk:=.of_below aw;refine go ?_;replace h1:=h1.k0;replace ac:=ac.gr aw;replace ab:=ab.grow aw;refine Zo hm (fun hb hm=>go ?_) fun hb hm=>go ?_
 ·cases hm;exact ⟨rfl,rfl,ab.below⟩
 refine Zv [15,16,2,1000000] (fun n f a6=>∃ a7 ar au,n=au.length∧ae.drop ar=au∧Zbc aa au=some r∧St w0 (Zj col) a7 a6∧Zg 27 1 a7 a6 a5 #[.string aa.1,.slice am aa.2.1.length ai,.slice an aa.2.2.1.length aj,.slice ao aa.2.2.2.1.length ak,.slice ap aa.2.2.2.2.length al]∧[17].map f=[.int .i64 ar]) ae.length ⟨_,0,_,rfl,rfl,hm,ab,ac,rfl⟩ ?_;clear hm;intro n f a6 hI;obtain ⟨a7,ar,au,hn,hl,hm,ab,ac,hs⟩:=hI;subst hn;refine .lL [17] hs ?_
 cases au with
 | nil=>
  have hk:¬ ((ar:Int)<(ae.length:Int)):=by have:=aG.1 hl;omega
  have hkb:=decide_eq_false hk;rw [Zbc.eq_1] at hm;refine go ?_;refine X0 (congrArg Value.bool hkb)<|go ?_;cases hm;exact ⟨rfl,rfl,ab.below⟩
 | cons ah a8=>
  obtain ⟨af,bm,bn⟩:=Yf hl;have hk:(ar:Int)<(ae.length:Int):=by omega
  have hkb:=decide_eq_true hk;rw [Zbc.eq_2] at hm;refine go ?_;refine X1 (congrArg Value.bool hkb)<|go ?_;refine lI af ((h1.ks ab).addr af) ?_;obtain ⟨_,bo,bp⟩:=(h1.ks ab).atN af;obtain ⟨⟨be,bf,rfl,ad⟩,_⟩:=bo;refine lW bp.one<|go ?_;refine Xl ac ?_;refine go ?_;refine Zo hm (fun hb hm=>go ?_) fun hb hm=>go ?_
  ·cases hm;exact ⟨rfl,rfl,ab.below⟩
  refine Zv [15,16,17,2,27,28,1000000] (fun n f ax=>∃ ay ag av,n=av.length∧ah.drop ag=av∧Zbd aa (Zbc aa a8) av ag=some r∧St w0 (Zj col) ay ax∧Zg 27 1 ay ax a5 #[.string aa.1,.slice am aa.2.1.length ai,.slice an aa.2.2.1.length aj,.slice ao aa.2.2.2.1.length ak,.slice ap aa.2.2.2.2.length al]∧Sl rI ay ax be bf ah∧[29].map f=[.int .i64 ag]) ah.length ⟨_,0,_,rfl,rfl,hm,ab,ac,ad,rfl⟩ ?_;clear hm;intro n f ax hI;obtain ⟨ay,ag,av,hn,hl,hm,ab,ac,ad,hs⟩:=hI;subst hn;refine .lL [29] hs ?_
  cases av with
  | nil=>
   have hk:¬ ((ag:Int)<(ah.length:Int)):=by have:=aG.1 hl;omega
   have hkb:=decide_eq_false hk;rw [Zbd.eq_1] at hm;refine go ?_;refine X0 (congrArg Value.bool hkb)<|go ?_;exact ⟨a8.length,by simp,rfl,⟨_,_,_,rfl,bm,hm,ab,ac,(Yl (congrArg (Value.int .i64) (Yi (aE bn (h1.ks ab).1.1))) rfl)⟩⟩
  | cons bq bg=>
   obtain ⟨af,br,bs⟩:=Yf hl;have hk:(ag:Int)<(ah.length:Int):=by omega
   have hkb:=decide_eq_true hk;rw [Zbd.eq_2] at hm;refine go ?_;refine X1 (congrArg Value.bool hkb)<|go ?_;refine lI af (ad.addr af)<|lW (ad.atInt af)<|Y6 rfl<|Y6 rfl<|Zk<|Zz ?_;refine Wp.cutK [15,16,17,2,27,28,29,1000000] (fun f az=>∃ a0 a9,Zhz ag (Zbd aa (Zbc aa a8) bg) a9=some r∧St w0 (Zj col) a0 az∧Zg 27 1 a0 az a5 #[.string aa.1,.slice am aa.2.1.length ai,.slice an aa.2.2.1.length aj,.slice ao aa.2.2.2.1.length ak,.slice ap aa.2.2.2.2.length al]∧Sl rI a0 az be bf ah∧[45].map f=[.bool a9]) ?_ ?_
   ·intro f az hJ;obtain ⟨a0,a9,hm,ab,ac,ad,hs⟩:=hJ;rw [Zhz.eq_1] at hm;refine .lL [45] hs ?_;refine Zo hm (fun hb hm=>go ?_) fun hb hm=>go ?_
    ·cases hm;exact ⟨rfl,rfl,ab.below⟩
    exact ⟨bg.length,by simp,rfl,⟨_,_,_,rfl,br,hm,ab,ac,ad,(Yl (congrArg (Value.int .i64) (Yi (aE bs ad.1.1))) rfl)⟩⟩
   refine go ?_;refine Yr hm (fun ba hm=>go ?_) fun ba hm=>go ?_
   ·refine lV (.bool true) (Ye (congrArg Value.bool ba) rfl)<|Zk ?_;exact ⟨rfl,_,_,hm,ab,ac,ad,rfl⟩
   refine Yx ⟨_,_,rfl⟩ ?_;refine go ?_;refine lW ((ac.atN).nth (q:=2) rfl)<|go ?_;obtain ⟨bt,bb,hm⟩:=bZ hm;refine lI bb ((aq.ks ab).addr bb) ?_;refine go ?_;obtain ⟨_,bu,bv⟩:=(aq.ks ab).atN bb;obtain ⟨⟨bx,bz,rfl,b0⟩,_⟩:=bu;refine lW bv.one<|go ?_;refine lV (.bool (decide ((bt.length:Int)≤bq))) (Yd (congrArg Value.bool ba) rfl)<|Zk ?_;exact ⟨rfl,_,_,hm,ab,ac,ad,rfl⟩
def Zhp (aa:Nat) (kk_L2:(Nat→Option Int)) (ab:Bool):Option Int:=
  if ab=true then (some 71) else (kk_L2 (aa+1))
def Za9 (ab:R0) (kk_L1:(Option Int)):List Int→Nat→Option Int
  | [],aa=>kk_L1
  | ac :: ad,aa=>if (decide (ac<(-1)))=true then (Zhp aa (Za9 ab kk_L1 ad) true) else ((Zl ab.2.2.1 (aa:Int)).bind fun ae=>Zhp aa (Za9 ab kk_L1 ad) (decide ((ae.length:Int)≤ac)))
termination_by structural x=>x
def Za8 (aa:R0):List R2→Option Int
  | []=>some 0
  | ab :: ac=>if (!decide ((ab.length:Int)=(aa.2.1.length:Int)))=true then (some 71) else (Za9 aa (Za8 aa ac) ab 0)
termination_by structural x=>x
def Zkj (N:Nat) (aa:R0) (ac:R7):Option Int:=
  (Vj N (aa.1,aa.2.1,aa.2.2.1,aa.2.2.2.1,aa.2.2.2.2)).bind fun ab=>if (!decide (ab=0))=true then (some ab) else (Za8 aa ac)
theorem Z38 {N ai aj ak al bc:Nat} {am an ao ap a1:Option Addr} {col:Zd} {w0:World} {aa:R0} {ae:R7} {r:Int} (hm:Zkj N aa ae=some r) (a2:Sl Za.str col w0 am ai aa.2.1) (aq:Sl (Za.slice Za.str) col w0 an aj aa.2.2.1) (a3:Sl (Za.slice rI) col w0 ao ak aa.2.2.2.1) (a4:Sl (Za.slice (Za.pair (Za.pair Za.bool (Za.slice rU)) (Za.slice rU))) col w0 ap al aa.2.2.2.2) (h1:Sl (Za.slice rI) col w0 a1 bc ae):
    Calls prog 106 #[(.agg #[.string aa.1,.slice am aa.2.1.length ai,.slice an aa.2.2.1.length aj,.slice ao aa.2.2.2.1.length ak,.slice ap aa.2.2.2.2.length al]),.slice a1 ae.length bc] w0 (fun e w'=>e= .returned ((.int .i64 r))∧Below w0.heap.size w0 w'):=by
 refine Xe 4 (m:=48) func106 rfl rfl rfl rfl rfl ?_;rw [Zkj.eq_1] at hm;have ab:=St.start col w0;refine go ?_;refine Xi (col:=(Zj col)) 1 rfl ?_;intro a5 bh bd bi ac;refine go ?_;refine lV _ (Z8 isAgg27 sizeOf27 ac) ?_;obtain ⟨bw,bj,hm⟩:=bZ hm;replace aq:=aq.k0;replace ab:=ab.grow bi;refine Zi (Zmv bj (a2.k0.ks ab) (aq.ks ab) (a3.k0.ks ab) (a4.k0.ks ab)) ?_;rintro _ bk ⟨rfl,aw⟩;refine ⟨_,rfl,?_⟩;replace aw:Zf bd bh bd bk:=.of_below aw;refine go ?_;replace h1:=h1.k0;replace ac:=ac.gr aw;replace ab:=ab.grow aw;refine Zo hm (fun hb hm=>go ?_) fun hb hm=>go ?_
 ·cases hm;exact ⟨rfl,rfl,ab.below⟩
 refine Zv [15,16,2,1000000] (fun n f a6=>∃ a7 ar au,n=au.length∧ae.drop ar=au∧Za8 aa au=some r∧St w0 (Zj col) a7 a6∧Zg 27 1 a7 a6 a5 #[.string aa.1,.slice am aa.2.1.length ai,.slice an aa.2.2.1.length aj,.slice ao aa.2.2.2.1.length ak,.slice ap aa.2.2.2.2.length al]∧[17].map f=[.int .i64 ar]) ae.length ⟨_,0,_,rfl,rfl,hm,ab,ac,rfl⟩ ?_;clear hm;intro n f a6 hI;obtain ⟨a7,ar,au,hn,hl,hm,ab,ac,hs⟩:=hI;subst hn;refine .lL [17] hs ?_
 cases au with
 | nil=>
  have hk:¬ ((ar:Int)<(ae.length:Int)):=by have:=aG.1 hl;omega
  have hkb:=decide_eq_false hk;rw [Za8.eq_1] at hm;refine go ?_;refine X0 (congrArg Value.bool hkb)<|go ?_;cases hm;exact ⟨rfl,rfl,ab.below⟩
 | cons ah a8=>
  obtain ⟨af,bm,bn⟩:=Yf hl;have hk:(ar:Int)<(ae.length:Int):=by omega
  have hkb:=decide_eq_true hk;rw [Za8.eq_2] at hm;refine go ?_;refine X1 (congrArg Value.bool hkb)<|go ?_;refine lI af ((h1.ks ab).addr af) ?_;obtain ⟨_,bo,bp⟩:=(h1.ks ab).atN af;obtain ⟨⟨be,bf,rfl,ad⟩,_⟩:=bo;refine lW bp.one<|go ?_;refine Xl ac ?_;refine go ?_;refine Zo hm (fun hb hm=>go ?_) fun hb hm=>go ?_
  ·cases hm;exact ⟨rfl,rfl,ab.below⟩
  refine Zv [15,16,17,2,27,28,1000000] (fun n f ax=>∃ ay ag av,n=av.length∧ah.drop ag=av∧Za9 aa (Za8 aa a8) av ag=some r∧St w0 (Zj col) ay ax∧Zg 27 1 ay ax a5 #[.string aa.1,.slice am aa.2.1.length ai,.slice an aa.2.2.1.length aj,.slice ao aa.2.2.2.1.length ak,.slice ap aa.2.2.2.2.length al]∧Sl rI ay ax be bf ah∧[29].map f=[.int .i64 ag]) ah.length ⟨_,0,_,rfl,rfl,hm,ab,ac,ad,rfl⟩ ?_;clear hm;intro n f ax hI;obtain ⟨ay,ag,av,hn,hl,hm,ab,ac,ad,hs⟩:=hI;subst hn;refine .lL [29] hs ?_
  cases av with
  | nil=>
   have hk:¬ ((ag:Int)<(ah.length:Int)):=by have:=aG.1 hl;omega
   have hkb:=decide_eq_false hk;rw [Za9.eq_1] at hm;refine go ?_;refine X0 (congrArg Value.bool hkb)<|go ?_;exact ⟨a8.length,by simp,rfl,⟨_,_,_,rfl,bm,hm,ab,ac,(Yl (congrArg (Value.int .i64) (Yi (aE bn (h1.ks ab).1.1))) rfl)⟩⟩
  | cons bq bg=>
   obtain ⟨af,br,bs⟩:=Yf hl;have hk:(ag:Int)<(ah.length:Int):=by omega
   have hkb:=decide_eq_true hk;rw [Za9.eq_2] at hm;refine go ?_;refine X1 (congrArg Value.bool hkb)<|go ?_;refine lI af (ad.addr af)<|lW (ad.atInt af)<|Y6 rfl<|Y6 rfl<|Zk<|Zz ?_;refine Wp.cutK [15,16,17,2,27,28,29,1000000] (fun f az=>∃ a0 a9,Zhp ag (Za9 aa (Za8 aa a8) bg) a9=some r∧St w0 (Zj col) a0 az∧Zg 27 1 a0 az a5 #[.string aa.1,.slice am aa.2.1.length ai,.slice an aa.2.2.1.length aj,.slice ao aa.2.2.2.1.length ak,.slice ap aa.2.2.2.2.length al]∧Sl rI a0 az be bf ah∧[45].map f=[.bool a9]) ?_ ?_
   ·intro f az hJ;obtain ⟨a0,a9,hm,ab,ac,ad,hs⟩:=hJ;rw [Zhp.eq_1] at hm;refine .lL [45] hs ?_;refine Zo hm (fun hb hm=>go ?_) fun hb hm=>go ?_
    ·cases hm;exact ⟨rfl,rfl,ab.below⟩
    exact ⟨bg.length,by simp,rfl,⟨_,_,_,rfl,br,hm,ab,ac,ad,(Yl (congrArg (Value.int .i64) (Yi (aE bs ad.1.1))) rfl)⟩⟩
   refine go ?_;refine Yr hm (fun ba hm=>go ?_) fun ba hm=>go ?_
   ·refine lV (.bool true) (Ye (congrArg Value.bool ba) rfl)<|Zk ?_;exact ⟨rfl,_,_,hm,ab,ac,ad,rfl⟩
   refine Yx ⟨_,_,rfl⟩ ?_;refine go ?_;refine lW ((ac.atN).nth (q:=2) rfl)<|go ?_;obtain ⟨bt,bb,hm⟩:=bZ hm;refine lI bb ((aq.ks ab).addr bb) ?_;refine go ?_;obtain ⟨_,bu,bv⟩:=(aq.ks ab).atN bb;obtain ⟨⟨bx,bz,rfl,b0⟩,_⟩:=bu;refine lW bv.one<|go ?_;refine lV (.bool (decide ((bt.length:Int)≤bq))) (Yd (congrArg Value.bool ba) rfl)<|Zk ?_;exact ⟨rfl,_,_,hm,ab,ac,ad,rfl⟩
/-! which observations may be -/
def V4 (n:Zq):List Int→Nat→Bool
 | [],_=>true
 | x :: l,k=>decide (-1≤x)&&(decide (x<(cnt n k:Int))&&V4 n l (k+1))
def Ud (n:Zq) (r:List R2):Bool:=r.all fun row=>decide (row.length=n.2.1.length)&&V4 n row 0
theorem Zxr {n:Zq} (kk:Option Int):∀ (l:List Int) (k:Nat),k+l.length≤n.2.2.1.length→Zbd n kk l k=if V4 n l k=true then kk else some 71
 | [],k,_=>by rw [Zbd.eq_1,V4,if_pos rfl]
 | x :: l,k,h=>by
  simp only [nC] at h
  have b:=Zxr (n:=n) kk l (k+1) (by omega)
  have a:Zl n.2.2.1 (k:Int)=some (n.2.2.1.getD k []):=Wx (l:=n.2.2.1) [] (j:=k) (by omega)
  have c:cnt n k=(n.2.2.1.getD k []).length:=rfl
  rw [Zbd.eq_2,V4]
  by_cases h1:x< -1
  ·rw [if_pos (dT h1),Zhz,if_pos rfl,decide_eq_false (show ¬ -1≤x by omega)];rfl
  ·rw [if_neg (dF h1),a,oB,decide_eq_true (show -1≤x by omega),Bool.true_and,Zhz]
   by_cases h2:x<(cnt n k:Int)
   ·rw [decide_eq_true h2,decide_eq_false (by omega),if_neg (by decide),Bool.true_and];exact b
   ·rw [decide_eq_false h2,decide_eq_true (by omega),if_pos rfl];rfl
theorem Zq6 {n:Zq} (hv:n.2.2.1.length=n.2.1.length):∀ r:List R2,Zbc n r=some (if Ud n r=true then 0 else 71)
 | []=>by rw [Zbc.eq_1];rfl
 | row :: r=>by
  have a:=Zq6 hv r
  rw [Zbc.eq_2,Ud,dQ]
  by_cases h:row.length=n.2.1.length
  ·rw [if_neg (by rw [decide_eq_true (by omega)];decide),Zxr _ row 0 (by omega),decide_eq_true h,Bool.true_and]
   by_cases h2:V4 n row 0=true
   ·rw [if_pos h2,h2,Bool.true_and];exact a
   ·rw [if_neg h2,Bool.eq_false_iff.2 h2];rfl
  ·rw [if_pos (by rw [decide_eq_false (by omega)];rfl),decide_eq_false h];rfl
theorem Zvu {n:Zq} (kk:Option Int):∀ (l:List Int) (k:Nat),k+l.length≤n.2.2.1.length→Za9 n kk l k=if V4 n l k=true then kk else some 71
 | [],k,_=>by rw [Za9.eq_1,V4,if_pos rfl]
 | x :: l,k,h=>by
  simp only [nC] at h
  have b:=Zvu (n:=n) kk l (k+1) (by omega)
  have a:Zl n.2.2.1 (k:Int)=some (n.2.2.1.getD k []):=Wx (l:=n.2.2.1) [] (j:=k) (by omega)
  have c:cnt n k=(n.2.2.1.getD k []).length:=rfl
  rw [Za9.eq_2,V4]
  by_cases h1:x< -1
  ·rw [if_pos (dT h1),Zhp,if_pos rfl,decide_eq_false (show ¬ -1≤x by omega)];rfl
  ·rw [if_neg (dF h1),a,oB,decide_eq_true (show -1≤x by omega),Bool.true_and,Zhp]
   by_cases h2:x<(cnt n k:Int)
   ·rw [decide_eq_true h2,decide_eq_false (by omega),if_neg (by decide),Bool.true_and];exact b
   ·rw [decide_eq_false h2,decide_eq_true (by omega),if_pos rfl];rfl
theorem Zvt {n:Zq} (hv:n.2.2.1.length=n.2.1.length):∀ r:List R2,Za8 n r=some (if Ud n r=true then 0 else 71)
 | []=>by rw [Za8.eq_1];rfl
 | row :: r=>by
  have a:=Zvt hv r
  rw [Za8.eq_2,Ud,dQ]
  by_cases h:row.length=n.2.1.length
  ·rw [if_neg (by rw [decide_eq_true (by omega)];decide),Zvu _ row 0 (by omega),decide_eq_true h,Bool.true_and]
   by_cases h2:V4 n row 0=true
   ·rw [if_pos h2,h2,Bool.true_and];exact a
   ·rw [if_neg h2,Bool.eq_false_iff.2 h2];rfl
  ·rw [if_pos (by rw [decide_eq_false (by omega)];rfl),decide_eq_false h];rfl
/-! observations of which all is known -/
theorem Z0r {n:Zq}:∀ {l:List Int} {k:Nat},V4 n l k=true→∀ x ∈ l,-1≤x
 | x :: l,k,h,y,a=>by
  rw [V4,Bool.and_eq_true,Bool.and_eq_true,decide_eq_true_eq] at h
  rcases aO.1 a with rfl | a
  ·exact h.1
  ·exact Z0r h.2.2 y a
theorem Z0s {n:Zq}:∀ {l:List Int} {k:Nat},V4 n l k=true→∀ i,i<l.length→l.getD i 0<(cnt n (k+i):Int)
 | x :: l,k,h,0,_=>by
  rw [V4,Bool.and_eq_true,Bool.and_eq_true,decide_eq_true_eq,decide_eq_true_eq] at h
  exact h.2.1
 | x :: l,k,h,i+1,a=>by
  rw [V4,Bool.and_eq_true,Bool.and_eq_true] at h
  have:=Z0s h.2.2 i (by simpa using a)
  rw [show k+1+i=k+(i+1) by omega] at this
  exact this
def Y4 (n:Zq) (v:Nat) (row:List Int):Nat:=Vb n row v * cnt n v+(row.getD v 0).toNat
section
variable {N:Nat} {n:Zq} (hf:X7 N n)
include hf
theorem Zje {v:Nat} (hv:v<n.2.1.length) {row:List Int} (hw:X9 n row):Y4 n v row<(n.2.2.2.2.getD v []).length:=by
 have a:=hf.row hw hv
 have b:=hw.ok v (by rw [hw.len];exact hv)
 rw [Y4];omega
end
def Zm8:Nat→Nat
 | 0=>1
 | n+1=>(n+1) * Zm8 n
def Zks (N:Nat) (ab:Int):Option R1:=
  (Zde N ab 1).bind fun aa=>some ((aa.1.1.1,aa.1.1.2),aa.1.2)
theorem Z4n {N:Nat} {col:Zd} {w0:World} {ai:Int} {r:R1} (c1 c2:Nat) (hm:Zks N ai=some r):
    Calls prog 97 #[.int .i64 ai] w0 (fun e w'=>∃ (col':Zd) (ra1:Option Addr) (rc2:Nat) (ra4:Option Addr) (rc5:Nat),e= .returned ((.agg #[.bool r.1.1,.slice ra1 r.1.2.length rc2,.slice ra4 r.2.length rc5]))∧Zf col w0 col' w'∧Zb rU 95 c1 col' w' ra1 rc2 r.1.2∧Zb rU 95 c2 col' w' ra4 rc5 r.2):=by
 refine Y5 (m:=11) func97 rfl rfl rfl ?_;rw [Zks.eq_1] at hm;have ab:=St.start col w0;refine go ?_;refine Xk (col:=(Zj col)) #[.bool false,(nI),(nI)] 1 zeroValue39 ?_;intro az a0 ao ap ae;refine go ?_;obtain ⟨aa,aq,hm⟩:=bZ hm;refine Zi (Zp4 (col:=ao) 2 3 aq) ?_;rintro _ a1 ⟨ar,aj,ak,al,am,rfl,an,af,ag⟩;refine ⟨_,rfl,?_⟩;refine lM (.tuple #[(.agg #[.bool aa.1.1.1,.slice aj aa.1.1.2.length ak,.slice al aa.1.2.length am]),.int .i64 aa.2])<|lV (.agg #[.bool aa.1.1.1,.slice aj aa.1.1.2.length ak,.slice al aa.1.2.length am]) (Xo rfl rfl)<|lV (.int .i64 aa.2) (Xo rfl rfl)<|Xk (col:=ar) #[.bool false,(nI),(nI)] 4 zeroValue39 ?_;intro a2 a3 a4 ac au;refine Zy au ?_;intro a5 ad av aw;refine go ?_;refine lV _ (Z8 isAgg39 sizeOf39 aw) ?_;refine Zy (((ae.gr an).gr ac).kp ad) ?_;intro a6 ah ax ay;refine go ?_;cases hm;replace ab:=((((ab.grow ap).grow an).grow ac).kp ad av).kp ah ax;exact ⟨rfl,_,ra ay.atN,_,_,_,_,_,rfl,ab.fin (cm [(2,c1),(3,c2)]),ab.fo (((af.gr ac).kp ad).kp ah),ab.fo (((ag.gr ac).kp ad).kp ah)⟩
def Zv1:List Int→Nat
 | []=>1
 | x :: l=>Zm8 x.toNat * Zv1 l
def Xv:List Int→Nat
 | []=>0
 | x :: l=>x.toNat+Xv l
def Tl (n:Zq) (v:Nat):Nat:=Yo n.2.2.1 (n.2.2.2.1.getD v []) 1
def gC (k:Nat):List R2→Nat
 | []=>1
 | q :: l=>Zm8 (k - 1) * Zv1 q * gC k l
def hC (k:Nat):List R2→Nat
 | []=>1
 | q :: l=>Zm8 (Xv q+k - 1) * hC k l
theorem Xba (m:Nat):Xv (aM m 0)=0:=by
 induction m with
 | zero=>rfl
 | succ m a=>rw [List.replicate_succ,Xv,a];rfl
end Go.Proofs.YtkhnlgdenkikoaaGreat
