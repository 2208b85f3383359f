/-
  What functions of the program compute, as plain Lean functions (m_..), and proofs that they compute it (c_..). Printed by a program of the author; no conditions.
-/
import Derived.Test.YtkhnlgdenkikoaaGreatTopStepBFloat
import Derived.Test.YtkhnlgdenkikoaaGreatProg
import Derived.Test.YtkhnlgdenkikoaaGreatTopStepBBrief
import Derived.Test.YtkhnlgdenkikoaaGreatTopStepBBulk
import Derived.Test.YtkhnlgdenkikoaaGreatTopStepF5
set_option linter.unusedVariables false
set_option maxRecDepth 100000
set_option maxHeartbeats 2000000
namespace Go.Proofs.YtkhnlgdenkikoaaGreat
open Go Go.RowKit
open Int renaming natCast_mul→bV,natCast_add→eL,natAbs_natCast→eS,toNat_natCast→aD,toNat→aA
open List renaming length_singleton→aQ,mem_cons_self→aC,mem_cons_of_mem→aB,length_map→aN,length_range→cU,map_append→eF,map_singleton→fF,nil_append→bN,cons_append→bX,foldl_cons→fE,mem_or_eq_of_mem_set→iW,getElem_mem→aH,getElem?_eq_none→cQ,replicate→aM,eq_of_mem_replicate→eJ,drop_of_length_le→cH,getElem_map→cZ,getElem_range→kB,drop_eq_getElem_cons→aJ,map→iG,drop_zero→aP,mem_cons→aO,getElem?_set_ne→gV,getElem?_set_self'→jE,getElem?_eq_getElem→aL,flatMap_cons→dM,range'→cI,range'_succ→eX,map_map→jG,map_nil→bW,map_cons→aS,map_congr_left→iC,mem_range'_1→eD,drop_eq_nil_of_le→aK,append_nil→eG,mem_map→cA,append_assoc→bO,singleton_append→gP,map_take→jB,map_drop→jC,mem_of_mem_take→dB,mem_of_mem_drop→dC,length_replicate→bI,getElem_replicate→jH,foldl_nil→kV,length_drop→bP,set_cons_zero→iE,take_of_length_le→bF,flatMap_nil→gA,take_zero→fL,all_cons→dQ,all_nil→lJ,mem_singleton→bR,nodup_cons→cL,take_append_drop→dK,getElem_of_mem→hH,not_mem_nil→bG,take_succ_eq_append_getElem→bH,sum_cons→eY
open Nat renaming mul_le_mul_right→bC,zero_add→cR,add_assoc→dS,add_zero→bU,lt_or_ge→cJ,le_trans→aU,le_refl→bB,zero_le→bK,zero_mul→dD,add_mul→aV,one_mul→aX,add_comm→eM,mul_comm→bY,mul_one→eN,mul_assoc→cC,le_mul_of_pos_right→dN,mul_pos→jV,mul_le_mul→iB,sub_self→hO,mul_le_mul_left→aT,beq→aI
open Rat renaming div_def→bT,mkRat_eq_div→dI,mul_one→bQ,mul_assoc→bJ,one_mul→cX,lt_irrefl→dY,mul_inv_cancel→cM,mul_comm→iJ,zero_mul→cT,not_lt→fC,mul_le_mul_of_nonneg_right→cB,le_of_lt→fM,mul_pos→gG,mul_nonneg→bS
open Go.IntKind (i8 i16 i32 i64 u8 u16 u32 u64)
open Go.Proofs.Tryz

/-! the places of an assignment -/
section
variable {N:Nat} {n:Zq} (hf:X7 N n) {x:List Int} (hw:X9 n x)
include hf hw
theorem Zyy {v:Nat} (hv:v<n.2.1.length) {out:List Int} (ho:out.length≤1024) (kk:Int→List Int→Option R2):∀ (ps:List Int) (r k:Nat),(∀ q ∈ ps,0≤q∧q<(n.2.1.length:Int))→r<k→k≤65536→Yo n.2.2.1 ps k≤65536→Qx n x ps r=Vb n x v→
  Zdm n x (v:Int) out kk ps (r:Int)=kk ((v+1:Nat):Int) (out++[((Y4 n v x:Nat):Int)])
 | [],r,k,_,_,_,_,e=>by
  rw [Qx] at e
  subst e
  have B:=hf.le
  have c:=hf.row hw hv
  have b:=hf.rows hv
  have C:=hw.ok v (by rw [hw.len];exact hv)
  have d:i64.wrap ((Vb n x v:Int) * ((n.2.2.1.getD v []).length:Int))=((Vb n x v * cnt n v:Nat):Int):=by
   rw [show ((n.2.2.1.getD v []).length:Int)=((cnt n v:Nat):Int) from rfl,← bV]
   exact Zw (by omega)
  have f:i64.wrap (((Vb n x v * cnt n v:Nat):Int)+x.getD v 0)=((Y4 n v x:Nat):Int):=by
   rw [Y4,eL,show (((x.getD v 0).toNat:Nat):Int)=x.getD v 0 by omega]
   exact Zw (by omega)
  rw [Zdm.eq_1,Wx [] (by rw [hf.ev.v];exact hv),oB,Wx 0 (by rw [hw.len];exact hv),oB,d,f,Xf (by simp only [aQ,maxLen];omega),wS (by omega)]
 | p :: ps,r,k,a,g,i,m,e=>by
  obtain ⟨o,s,t⟩:=Zsx hf.ev hw a g i m
  rw [Qx] at e
  have E:=a p aC
  have F:=hw.ok p.toNat (by rw [hw.len];omega)
  have H:r * cnt n p.toNat≤k * cnt n p.toNat:=bC _ (by omega)
  have q1:Zl n.2.2.1 p=some (n.2.2.1.getD p.toNat []):=by
   have:=Wx (l:=n.2.2.1) [] (j:=p.toNat) (by rw [hf.ev.v];omega)
   rwa [show ((p.toNat:Nat):Int)=p by omega] at this
  have u:Zl x p=some (x.getD p.toNat 0):=by
   have:=Wx (l:=x) 0 (j:=p.toNat) (by rw [hw.len];omega)
   rwa [show ((p.toNat:Nat):Int)=p by omega] at this
  have w:i64.wrap ((r:Int) * ((n.2.2.1.getD p.toNat []).length:Int))=((r * cnt n p.toNat:Nat):Int):=by
   rw [show ((n.2.2.1.getD p.toNat []).length:Int)=((cnt n p.toNat:Nat):Int) from rfl,← bV]
   exact Zw (by omega)
  have y:i64.wrap (((r * cnt n p.toNat:Nat):Int)+x.getD p.toNat 0)=((r * cnt n p.toNat+(x.getD p.toNat 0).toNat:Nat):Int):=by
   rw [eL,show (((x.getD p.toNat 0).toNat:Nat):Int)=x.getD p.toNat 0 by omega]
   exact Zw (by omega)
  rw [Zdm.eq_2,q1,oB,u,oB,w,y]
  exact Zyy hv ho kk ps _ _ (fun q A=>a q (aB _ A)) o s t e
def Vk (n:Zq) (x:List Int) (m:Nat):List Int:=(List.range m).map fun v=>((Y4 n v x:Nat):Int)
theorem Z89 (hN:2000000<N):Zkq N n x=some (Vk n x n.2.1.length):=by
 have k:=hf.le
 have c:∀ (m v f:Nat),v+m=n.2.1.length→m<f→Zbb N n x f (v:Int) (Vk n x v)=some (Vk n x n.2.1.length):=by
  intro m
  induction m with
  | zero=>
   intro v f d b
   obtain ⟨g,rfl⟩:∃ g,f=g+1:=⟨f - 1,by omega⟩
   rw [Zbb.eq_2,if_neg (dF (by omega)),show v=n.2.1.length by omega]
  | succ m i=>
   intro v f d b
   obtain ⟨g,rfl⟩:∃ g,f=g+1:=⟨f - 1,by omega⟩
   have a:v<n.2.1.length:=by omega
   have j:=Zyy hf hw a (out:=Vk n x v) (by rw [Vk,aN,cU];omega) (Zbb N n x g) (n.2.2.2.1.getD v []) 0 1 (hf.pars a) (by omega) (by omega) (hf.rows a).2.2 rfl
   rw [Zbb.eq_2,if_pos (dT (by omega)),Wx [] (by rw [hf.ev.p];exact a),oB]
   refine j.trans ?_
   have e:Vk n x v++[((Y4 n v x:Nat):Int)]=Vk n x (v+1):=by rw [Vk,Vk,List.range_succ,eF,fF]
   rw [e]
   exact i (v+1) g (by omega) (by omega)
 exact c n.2.1.length 0 N (by omega) (by omega)
end
structure U1 (n:Zq) (D G:Nat) (L:List R8) (E:List (List QV)):Prop where
 len:E.length=n.2.1.length
 sz:∀ v,v<n.2.1.length→(E.getD v []).length=(n.2.2.2.2.getD v []).length
 val:∀ v,v<n.2.1.length→∀ i,i<(n.2.2.2.2.getD v []).length→Zr ((E.getD v []).getD i ((false,[]),[]))=((Wr n v L).getD i 0:Rat) / (D:Rat)
 rv:∀ v,v<n.2.1.length→∀ y ∈ E.getD v [],RV G y
def Wc:List R8→Nat
 | []=>0
 | p :: l=>p.1+Wc l
theorem Zpn:∀ a b:List R8,Wc (a++b)=Wc a+Wc b
 | [],b=>by rw [bN,Wc,cR]
 | p :: a,b=>by rw [bX,Wc,Wc,Zpn a b,dS]
theorem Zwk (n:Zq) (v:Nat):∀ (L:List R8) (c:List Int) (b:Nat),(∀ x ∈ c,x≤(b:Int))→∀ x ∈ L.foldl (Tj n v) c,x≤((b+Wc L:Nat):Int)
 | [],c,b,h=>by rw [Wc,bU];exact h
 | p :: L,c,b,h=>by
  rw [fE,Wc,← dS]
  refine Zwk n v L _ _ fun x d=>?_
  rw [Tj] at d
  rcases iW d with e | rfl
  ·have:=h x e;omega
  ·have:c.getD (Y4 n v p.2) 0≤(b:Int):=by
    rcases cJ (Y4 n v p.2) c.length with a | a
    ·rw [Xn a];exact h _ (aH a)
    ·rw [List.getD_eq_getElem?_getD,cQ a];exact Int.natCast_nonneg b
   omega
theorem Z58 (n:Zq) (v:Nat) (L:List R8):∀ x ∈ Wr n v L,x≤((Wc L:Nat):Int):=by
 have:=Zwk n v L (aM (n.2.2.2.2.getD v []).length 0) 0 fun x a=>by rw [eJ a];decide
 rw [cR] at this
 exact this
section
variable {N:Nat} {n:Zq} (hf:X7 N n) {D G:Nat} (hD:D≠0)
include hf hD
theorem U1.put {L:List R8} {E E':List (List QV)} (h:U1 n D G L E) {p:Nat×List Int} (hw:X9 n p.2) {q:Rat} (hq:q=(p.1:Rat) / (D:Rat)) (hG1:(Ze (Wc L+p.1)).length≤G) (hG2:(Ze D).length≤G)
  (hl:E'.length=n.2.1.length) (hE:∀ v,v<n.2.1.length→E'.getD v []=(E.getD v []).set (Y4 n v p.2) (Zp (Zr ((E.getD v []).getD (Y4 n v p.2) ((false,[]),[]))+q))):U1 n D G (L++[p]) E':=by
 have d:∀ v,v<n.2.1.length→Zr ((E.getD v []).getD (Y4 n v p.2) ((false,[]),[]))+q=(((Wr n v L).getD (Y4 n v p.2) 0+(p.1:Int):Int):Rat) / (D:Rat):=fun v a=>by
  rw [h.val v a _ (Zje hf a hw),hq,Rat.intCast_add,bT,bT,bT,Rat.add_mul];rfl
 refine ⟨hl,fun v a=>?_,fun v a i k=>?_,fun v a y f=>?_⟩
 ·rw [hE v a,nS];exact h.sz v a
 ·have g:=Zje hf a hw
  have b:Y4 n v p.2<(Wr n v L).length:=by rw [Zg1];exact g
  have j:Y4 n v p.2<(E.getD v []).length:=by rw [h.sz v a];exact g
  rw [hE v a,Zve,Tj,V1 _ _ _ _ _ j,V1 _ _ _ _ _ b]
  by_cases e:i=Y4 n v p.2
  ·rw [if_pos e,if_pos e,Wo,d v a]
  ·rw [if_neg e,if_neg e];exact h.val v a i k
 ·rw [hE v a] at f
  rcases iW f with l | rfl
  ·exact h.rv v a y l
  ·have b:Y4 n v p.2<(Wr n v L).length:=by rw [Zg1];exact Zje hf a hw
   have r:=Zj2 n v L _ (aH b)
   have m:=Z58 n v L _ (aH b)
   rw [d v a]
   refine V5 ?_
   rw [Xn b]
   obtain ⟨c,o⟩:∃ c:Nat,(Wr n v L)[Y4 n v p.2]=(c:Int):=⟨((Wr n v L)[Y4 n v p.2]).toNat,by omega⟩
   rw [o] at m ⊢
   have e:(((c:Int)+(p.1:Int):Int):Rat) / (D:Rat)=mkRat ((c+p.1:Nat):Int) D:=by rw [dI,eL]
   rw [e]
   have s:=Wu (show c+p.1≤Wc L+p.1 by omega)
   exact Zjf (by rw [eS];omega) hG2 (aU (Tv hD) hG2)
omit hD in
theorem Z1f {x:List Int} (hw:X9 n x) {q:Rat} {V0:List (List QV)} (hr:Z5 N (4 * G+20)) (hqG:qs q≤G) (e45:Int):∀ (m k:Nat) (V:List (List QV)),k+m=n.2.1.length→V.length=n.2.1.length→(∀ v,v<n.2.1.length→(V.getD v []).length=(n.2.2.2.2.getD v []).length)→(∀ v,k≤v→v<n.2.1.length→∀ y ∈ V.getD v [],RV G y)→
  ∃ V',Zb4 N (Zp q,e45) ((Vk n x n.2.1.length).drop k) k V=some V'∧V'.length=n.2.1.length∧(∀ j,j<k→V'.getD j []=V.getD j [])∧∀ j,k≤j→j<n.2.1.length→V'.getD j []=(V.getD j []).set (Y4 n j x) (Zp (Zr ((V.getD j []).getD (Y4 n j x) ((false,[]),[]))+q))
 | 0,k,V,s,c,_,_=>by
  rw [cH (by rw [Vk,aN,cU];omega),Zb4.eq_1]
  exact ⟨V,rfl,c,fun _ _=>rfl,fun j t g=>by omega⟩
 | m+1,k,V,s,c,d,i=>by
  have l:k<(Vk n x n.2.1.length).length:=by rw [Vk,aN,cU];omega
  have a:k<V.length:=by omega
  have e:(Vk n x n.2.1.length)[k]=((Y4 n k x:Nat):Int):=by simp only [Vk,cZ,kB]
  have f:Y4 n k x<(V.getD k []).length:=by rw [d k (by omega)];exact Zje hf (by omega) hw
  have b:=i k (bB _) (by omega) _ (aH f)
  have u:Sr N (((V.getD k [])[Y4 n k x].1.1,(V.getD k [])[Y4 n k x].1.2),(V.getD k [])[Y4 n k x].2) (((Zp q).1.1,(Zp q).1.2),(Zp q).2)=some (Zp (Zr (V.getD k [])[Y4 n k x]+q)):=by
   have:=Zm9 (N:=N) b (V5 hqG) (hr.mono (by omega))
   rwa [Wo] at this
  obtain ⟨V',w,A,o,B⟩:=Z1f hw (V0:=V0) hr hqG e45 m (k+1) (V.set k ((V.getD k []).set (Y4 n k x) (Zp (Zr (V.getD k [])[Y4 n k x]+q)))) (by omega) (by rw [nS];exact c) (fun v p=>by
    rw [V1 V [] k v _ a]
    split
    ·rename_i h;subst h;rw [nS];exact d v p
    ·exact d v p) (fun v C r y b=>by
    rw [V1 V [] k v _ a,if_neg (by omega)] at b
    exact i v (by omega) r y b)
  refine ⟨V',?_,A,fun j E=>?_,fun j t g=>?_⟩
  ·rw [aJ l,Zb4.eq_2,e,Wx [] a,oB,Z0 f,oB,u,oB,oB,aD,aD]
   exact w
  ·rw [o j (by omega),V1 V [] k j _ a,if_neg (by omega)]
  ·by_cases e2:j=k
   ·subst e2
    rw [o j (by omega),V1 V [] j j _ a,if_pos rfl,Xn f]
   ·rw [B j (by omega) g,V1 V [] k j _ a,if_neg e2]
omit hD in
theorem Z1e {x:List Int} (hw:X9 n x) {B:Nat→Nat} (hB:Zao n B) {Q:Nat} (hr:Z5 N (4 * Q+20)) (p:QV) (E:List (List QV)):∀ (m k:Nat) (q:Rat),k+m=n.2.1.length→qs q+W2 B m k≤Q→
  Zdi N (Ws n) p E (Vk n x n.2.1.length) ((Vk n x n.2.1.length).drop k) k (Zp q).1.1 (Zp q).1.2 (Zp q).2=(Zb1 N (Zp (q * Z2 n x m k)) ((p.1.1,p.1.2),p.2)).bind fun r=>Zb4 N r (Vk n x n.2.1.length) 0 E
 | 0,k,q,f,_=>by
  rw [cH (by rw [Vk,aN,cU];omega),Zdi.eq_1,Z2,bQ]
 | m+1,k,q,f,g=>by
  rw [W2] at g
  have a:k<n.2.1.length:=by omega
  have b:k<(Vk n x n.2.1.length).length:=by rw [Vk,aN,cU];omega
  have e:(Vk n x n.2.1.length)[k]=((Y4 n k x:Nat):Int):=by simp only [Vk,cZ,kB]
  have c:=Zje hf a hw
  have i:(x.getD k 0).toNat<cnt n k:=by
   have:=hw.ok k (by rw [hw.len];exact a)
   omega
  have d:ent n x k=Zr ((n.2.2.2.2.getD k []).getD (Y4 n k x) ((false,[]),[])):=Zz9 (n:=n) (T:=n.2.2.2.2) i
  rw [Xn c] at d
  have j:Wy (n.2.2.2.2.getD k [])[Y4 n k x]=Zp (ent n x k):=by rw [Wy,d]
  have l:=Zqr hf hB hw a
  have w:=Zl0 q (ent n x k)
  have o:Q5 N (((Zp q).1.1,(Zp q).1.2),(Zp q).2) (((Zp (ent n x k)).1.1,(Zp (ent n x k)).1.2),(Zp (ent n x k)).2)=some (Zp (q * ent n x k)):=by
   have:=Znb (N:=N) (Zjn q) (V5 l) (hr.mono (by omega))
   rwa [Wo,Wo] at this
  have s:=Z1e hw hB hr p E m (k+1) (q * ent n x k) (by omega) (by omega)
  have u:Zl (Ws n).2.2.2.2 (k:Int)=some ((n.2.2.2.2.getD k []).map Wy):=by
   rw [Wx [] (by show k<(n.2.2.2.2.map (iG Wy)).length;rw [aN,hf.ev.t];exact a)]
   exact congrArg some (Z6e n.2.2.2.2 k)
  have v:Zl ((n.2.2.2.2.getD k []).map Wy) ((Y4 n k x:Nat):Int)=some (Zp (ent n x k)):=by
   rw [Z0 (by rw [aN];exact c),cZ,j]
  rw [aJ b,Zdi.eq_2,e,u,oB,v,oB,o,oB,Z2,← bJ]
  exact s
theorem Xaw {L:List R8} {E:List (List QV)} (h:U1 n D G L E) {x:List Int} (hw:X9 n x) {p:Rat} {a Q P:Nat} (hr:Z5 N (4 * (G+Q+P)+60)) (hN:2000000<N) {B:Nat→Nat} (hB:Zao n B) (hQ:W2 B n.2.1.length 0+1≤Q) (hp0:p≠0) (hpP:qs p≤P)
  (ha:Z2 n x n.2.1.length 0 / p=(a:Rat) / (D:Rat)) (hqG:qs (Z2 n x n.2.1.length 0 / p)≤G) (hG1:(Ze (Wc L+a)).length≤G) (hG2:(Ze D).length≤G):
  ∃ E',Zhu N x n (Ws n) (Zp p) E=some E'∧U1 n D G (L++[(a,x)]) E':=by
 have g:Zkq N (n.1,n.2.1,n.2.2.1,n.2.2.2.1,n.2.2.2.2) x=some (Vk n x n.2.1.length):=Z89 hf hw hN
 have i:Zks N 1=some (Zp 1):=by
  have:=Zqv (N:=N) (a:=1) (b:=1) (by omega) (by omega) (hr.mono (by omega))
  rw [if_neg (by decide)] at this
  have e:(((1:Int):Rat) / ((1:Int):Rat))=1:=div_one _
  rw [Zks,this,oB,e]
 have d:=Z1e hf hw hB (Q:=Q) (hr.mono (by omega)) (Zp p) E n.2.1.length 0 1 (by omega) (by rw [Zcu];omega)
 rw [aP,cX] at d
 have qP:qs (Z2 n x n.2.1.length 0)≤Q:=by
  have:=Zr6 hf hB hw n.2.1.length 0 1 (by omega)
  rw [Zot,cX,Zcu] at this
  omega
 have j:Zb1 N (Zp (Z2 n x n.2.1.length 0)) (((Zp p).1.1,(Zp p).1.2),(Zp p).2)=some (Zp (Z2 n x n.2.1.length 0 / p),0):=by
  have:=Zv3 (N:=N) (V5 qP) (V5 hpP) (hr.mono (by omega))
  rwa [Wo,Wo,if_neg hp0] at this
 obtain ⟨k,f,l,_,m⟩:=Z1f hf hw (V0:=E) (G:=G) (hr.mono (by omega)) hqG 0 n.2.1.length 0 E (by omega) h.len h.sz (fun v _ c=>h.rv v c)
 rw [aP] at f
 refine ⟨k,?_,h.put hf hD hw (p:=(a,x)) ha hG1 hG2 l fun v c=>m v (bK _) c⟩
 rw [Zhu,g,oB,i,oB]
 refine d.trans ?_
 rw [j,oB]
 exact f
end
/-! all assignments of what is not known,in the order of their digits -/
def Vc:List Int→List Nat→List Int→List Int
 | w,[],_=>w
 | w,_ :: _,[]=>w
 | w,o :: os,d :: ds=>Vc (w.set o d) os ds
def Yh:List Int→Nat→List Nat
 | [],_=>[]
 | x :: l,k=>if x<0 then k :: Yh l (k+1) else Yh l (k+1)
theorem Zon:∀ (l:List Int) (k:Nat),∀ o ∈ Yh l k,k≤o∧o<k+l.length
 | [],k,o,h=>by rw [Yh] at h;cases h
 | x :: l,k,o,h=>by
  rw [Yh] at h
  rw [nC]
  split at h
  ·rcases aO.1 h with rfl | h
   ·omega
   ·have:=Zon l (k+1) o h;omega
  ·have:=Zon l (k+1) o h;omega
theorem Zyk:∀ (l:List Int) (k:Nat),(Yh l k).length≤l.length
 | [],k=>by rw [Yh];exact bB _
 | x :: l,k=>by
  have:=Zyk l (k+1)
  rw [Yh,nC]
  split
  ·rw [nC];omega
  ·omega
theorem Z1l:∀ (os:List Nat) (w ds:List Int) (i:Nat),i ∉ os→(Vc w os ds)[i]?=w[i]?
 | [],w,ds,i,_=>by rw [Vc]
 | _ :: _,w,[],i,_=>by rw [Vc]
 | o :: os,w,d :: ds,i,h=>by
  rw [aO,not_or] at h
  rw [Vc,Z1l os _ ds i h.2,gV (Ne.symm h.1)]
theorem Z1k:∀ (os:List Nat) (w ds:List Int),(Vc w os ds).length=w.length
 | [],w,ds=>by rw [Vc]
 | _ :: _,w,[]=>by rw [Vc]
 | o :: os,w,d :: ds=>by rw [Vc,Z1k os,nS]
theorem Z1j:∀ (os:List Nat) (V w ds:List Int),V.length=w.length→os.length=ds.length→(∀ i,i ∉ os→V[i]?=w[i]?)→Vc V os ds=Vc w os ds
 | [],V,w,[],b,_,h=>List.ext_getElem? fun i=>h i (by simp)
 | o :: os,V,w,d :: ds,b,c,h=>by
  rw [Vc,Vc]
  refine Z1j os _ _ ds (by rw [nS,nS,b]) (by simpa using c) fun i f=>?_
  by_cases e:i=o
  ·subst e
   rw [jE,jE]
   rcases cJ i V.length with a | a
   ·rw [aL a,aL (by omega)];rfl
   ·rw [cQ a,cQ (by omega)]
  ·rw [gV (Ne.symm e),gV (Ne.symm e)]
   exact h i (by rw [aO,not_or];exact ⟨e,f⟩)
theorem Zqt {α β:Type} {f g:α→List β}:∀ {l:List α},(∀ x ∈ l,f x=g x)→l.flatMap f=l.flatMap g
 | [],_=>rfl
 | x :: l,h=>by rw [dM,dM,h x aC,Zqt fun y a=>h y (aB _ a)]
theorem Zz1 {α:Type} (g:Nat→α) (P:Nat):∀ c j,(cI (j * P) (c * P)).map g=(cI j c).flatMap fun x=>(cI 0 P).map fun a=>g (x * P+a)
 | 0,j=>by rw [dD];rfl
 | c+1,j=>by
  have b:cI (j * P) ((c+1) * P)=cI (j * P) P++cI ((j+1) * P) (c * P):=by
   rw [aV c,aX,aV j,aX,eM (c * P) P,List.range'_append_1]
  have d:cI (j * P) P=(cI 0 P).map (j * P+·):=by rw [List.map_add_range',bU]
  rw [b,eF,Zz1 g P c (j+1),eX,dM,d,jG];rfl
theorem Zj3 {n:Zq}:∀ (m k:Nat) (w:List Int),k+m=w.length→w.length=n.2.1.length→Z7 n m k w=(cI 0 (X5 ((Yh (w.drop k) k).map (cnt n)))).map fun a=>Vc w (Yh (w.drop k) k) (Vo ((Yh (w.drop k) k).map (cnt n)) a)
 | 0,k,w,d,_=>by
  rw [cH (by omega),Yh,bW,X5,Z7];rfl
 | m+1,k,w,d,c=>by
  have b:k<w.length:=by omega
  rw [aJ b,Yh,Z7,Xn b]
  by_cases hc:0≤w[k]
  ·rw [if_pos hc,if_neg (by omega)]
   exact Zj3 m (k+1) w (by omega) c
  ·rw [if_neg hc,if_pos (by omega),aS,X5]
   have R:=Zz1 (fun a=>Vc w (k :: Yh (w.drop (k+1)) (k+1)) (Vo (cnt n k :: (Yh (w.drop (k+1)) (k+1)).map (cnt n)) a)) (X5 ((Yh (w.drop (k+1)) (k+1)).map (cnt n))) (cnt n k) 0
   rw [dD] at R
   rw [R]
   refine Zqt fun y o=>?_
   have e:(w.set k (y:Int)).drop (k+1)=w.drop (k+1):=List.drop_set_of_lt (by omega)
   rw [Zj3 m (k+1) (w.set k (y:Int)) (by rw [nS];omega) (by rw [nS];exact c),e]
   refine iC fun a f=>?_
   have l:=eD.1 f
   have g:0<X5 ((Yh (w.drop (k+1)) (k+1)).map (cnt n)):=by omega
   have i:(y * X5 ((Yh (w.drop (k+1)) (k+1)).map (cnt n))+a) / X5 ((Yh (w.drop (k+1)) (k+1)).map (cnt n))=y:=by
    rw [bY,Nat.mul_add_div g,Nat.div_eq_of_lt (by omega),bU]
   have j:(y * X5 ((Yh (w.drop (k+1)) (k+1)).map (cnt n))+a) % X5 ((Yh (w.drop (k+1)) (k+1)).map (cnt n))=a:=by
    rw [bY,Nat.mul_add_mod,Nat.mod_eq_of_lt (by omega)]
   rw [Vo,Vc,i,j]
def Yw (n:Zq):List R2→Rat
 | []=>1
 | w :: r=>Z6 n (Z7 n n.2.1.length 0 w) * Yw n r
theorem Zqz {n:Zq} (he:V6 n) {w:List Int} (hw:PV n w):∀ (m k c:Nat),k+m=n.2.1.length→1≤c→c * Xq n w m k≤65536→Za6 n (w.drop k) k (c:Int)=some ((c * Xq n w m k:Nat):Int)
 | 0,k,c,i,_,_=>by
  rw [cH (by rw [hw.len];omega),Za6.eq_1,Xq,eN]
 | m+1,k,c,i,f,a=>by
  have b:k<w.length:=by rw [hw.len];omega
  have j:=Zoo he w m (k+1) (by omega)
  have g:=Qa he (v:=k) (by omega)
  have l:k<n.2.2.1.length:=by rw [he.v];omega
  rw [aJ b,Za6.eq_2,← Xn (d:=0) b,Xq]
  rw [Xq] at a
  by_cases h:0≤w.getD k 0
  ·rw [if_pos h,aX] at a ⊢
   rw [if_neg (dF (by omega)),Zho]
   exact Zqz he hw m (k+1) c (by omega) f a
  ·rw [if_neg h,← cC] at a ⊢
   have o:c * cnt n k≤c * cnt n k * Xq n w m (k+1):=dN _ j
   have e:i64.wrap ((c:Int) * ((n.2.2.1.getD k []).length:Int))=((c * cnt n k:Nat):Int):=by
    rw [show ((n.2.2.1.getD k []).length:Int)=((cnt n k:Nat):Int) from rfl,← bV]
    exact Zw (by omega)
   rw [if_pos (dT (by omega)),Wx [] l,oB,e,if_neg (by omega),Zho]
   exact Zqz he hw m (k+1) (c * cnt n k) (by omega) (jV f g) a
section
variable {N W:Nat} {n:Zq} (hf:X7 N n) (hN:2000000<N) {Q C S:Nat} (hC:Vj N n=some 0)
variable (hch:∀ w,X9 n w→Su N n w=some (Zp (Ux n w n.2.1.length 0 1),0)) (hQ:∀ w,X9 n w→qs (Z2 n w n.2.1.length 0)≤Q) (hC6:C≤65536) (hS:C * (Q+2048)≤S) (hr:Z5 N (26 * S+60))
include hf hN hC hch hQ hC6 hS hr
omit hC hC6 in
theorem Z7p {w:List Int} (hw:PV n w) (ho:Xq n w n.2.1.length 0≤C):Zki N n w 0=some (Zp (Z6 n (Z7 n n.2.1.length 0 w)),w)∧qs (Z6 n (Z7 n n.2.1.length 0 w))≤S:=by
 have d:=hf.le
 have c:Xq n w n.2.1.length 0 * (Q+2 * n.2.1.length)≤S:=aU (iB ho (by omega)) hS
 obtain ⟨a,b⟩:=Zwu hf hN hch hQ N n.2.1.length 0 w (by omega) (by omega) hw (fun i e=>by omega) (hr.mono (by omega))
 rw [Zen] at b
 exact ⟨by rw [Zki];exact a,aU b c⟩
omit hC hC6 in
theorem Zws:∀ (l:List R2) (q:Rat),(∀ w ∈ l,PV n w∧Xq n w n.2.1.length 0≤C)→qs q+l.length * S≤1+12 * S→Ze4 N n l (Zp q).1.1 (Zp q).1.2 (Zp q).2=some (Zp (q * Yw n l),0)∧qs (q * Yw n l)≤qs q+l.length * S
 | [],q,_,_=>by
  rw [Yw,bQ,nN,dD]
  exact ⟨rfl,bB _⟩
 | w :: l,q,a,d=>by
  rw [nC,aV,aX] at d
  obtain ⟨b,e⟩:=a w aC
  have p:w.length≤1024:=by rw [b.len];exact hf.le
  obtain ⟨f,g⟩:=Z7p hf hN hch hQ hS hr b e
  have r:=Zl0 q (Z6 n (Z7 n n.2.1.length 0 w))
  have i:Sz w=some w:=Zm4 (by omega)
  have j:Zki N (n.1,n.2.1,n.2.2.1,n.2.2.2.1,n.2.2.2.2) w 0=_:=f
  have k:Q5 N (((Zp q).1.1,(Zp q).1.2),(Zp q).2) (((Zp (Z6 n (Z7 n n.2.1.length 0 w))).1.1,(Zp (Z6 n (Z7 n n.2.1.length 0 w))).1.2),(Zp (Z6 n (Z7 n n.2.1.length 0 w))).2)=some (Zp (q * Z6 n (Z7 n n.2.1.length 0 w))):=by
   have:=Znb (N:=N) (Zjn q) (V5 g) (hr.mono (by omega))
   rwa [Wo,Wo] at this
  obtain ⟨c,m⟩:=Zws l (q * Z6 n (Z7 n n.2.1.length 0 w)) (fun x o=>a x (aB _ o)) (by omega)
  rw [bJ] at c m
  rw [Ze4.eq_2,i,oB,j,oB,k,oB,Yw,nC,aV,aX]
  exact ⟨c,by omega⟩
theorem Zj8 {r:List R2} (hw:Ud n r=true) (ho:∀ w ∈ r,Xq n w n.2.1.length 0≤C) (hl:r.length≤12):Tx N n r=some (Zp (Yw n r),0)∧qs (Yw n r)≤1+12 * S:=by
 have d:=Zo9 hw
 have f:Vj N (n.1,n.2.1,n.2.2.1,n.2.2.2.1,n.2.2.2.2)=some 0:=hC
 have m:Zkj N (n.1,n.2.1,n.2.2.1,n.2.2.2.1,n.2.2.2.2) r=some 0:=by
  rw [Zkj,f,oB,if_neg (by decide)]
  have:=Zvt (n:=n) hf.ev.v r
  rw [if_pos hw] at this
  exact this
 have one:Zde N 1 1=some (Zp 1,0):=by
  have:=Zqv (N:=N) (a:=1) (b:=1) (by omega) (by omega) (hr.mono (by omega))
  rw [if_neg (by decide)] at this
  have e:(((1:Int):Rat) / ((1:Int):Rat))=1:=div_one _
  rw [this,e]
 have t:r.length * S≤12 * S:=bC _ hl
 obtain ⟨g,i⟩:=Zws hf hN hch hQ hS hr r 1 (fun w h=>⟨d w h,ho w h⟩) (by rw [Zcu];omega)
 rw [cX] at g i
 rw [Zcu] at i
 have o:∀ (l:List R2) (a:Bool) (b c:List Int),(∀ w ∈ l,PV n w∧Xq n w n.2.1.length 0≤C)→Zdb N n r l a b c=some (Zp (Yw n r),0):=fun l=>by
  induction l with
  | nil=>
   intro a b c _
   rw [Zdb.eq_1,one,oB]
   exact g
  | cons w l p=>
   intro a b c h
   obtain ⟨q,u⟩:=h w aC
   have j:=Zqz hf.ev q n.2.1.length 0 1 (by omega) (by omega) (by omega)
   rw [aP,aX] at j
   have k:Znn (n.1,n.2.1,n.2.2.1,n.2.2.2.1,n.2.2.2.2) w=some ((Xq n w n.2.1.length 0:Nat):Int):=j
   rw [Zdb.eq_2,k,oB,if_neg (dF (by omega))]
   exact p a b c fun x s=>h x (aB _ s)
 refine ⟨?_,by omega⟩
 rw [Tx,m,oB,if_neg (by decide)]
 exact o r _ _ _ fun w h=>⟨d w h,ho w h⟩
end
theorem Z26 (a:List Int→Nat) (g:List Int→Rat):∀ C:List R2,Wc (C.map fun x=>(a x,x))=Wi (C.map fun x=>(a x,g x))
 | []=>rfl
 | x :: C=>by rw [aS,Wc,aS,Wi,Z26 a g C]
theorem Zpw {n:Zq} {D:Nat} {C:List R2} (hp:0<Z6 n C) (hI:∀ x ∈ C,∃ z:Nat,(D:Rat) * Z2 n x n.2.1.length 0 / Z6 n C=(z:Rat)):∀ x ∈ C,(aW D n (Z6 n C) x:Rat) * Z6 n C=(D:Rat) * Z2 n x n.2.1.length 0:=fun x c=>by
 have a:Z6 n C≠0:=fun e=>by rw [e] at hp;exact absurd hp dY
 obtain ⟨z,b⟩:=hI x c
 have:aW D n (Z6 n C) x=z:=by rw [aW,b];simp
 rw [this,← b,Q1 a]
theorem Ztn {n:Zq} {D:Nat} {C:List R2} (hp:0<Z6 n C) (hI:∀ x ∈ C,∃ z:Nat,(D:Rat) * Z2 n x n.2.1.length 0 / Z6 n C=(z:Rat)):Wc (Sj D n C)=D:=by
 have b:Z6 n C≠0:=fun e=>by rw [e] at hp;exact absurd hp dY
 have a:=Zqq (aW D n (Z6 n C)) (fun x=>Z2 n x n.2.1.length 0) (fun _=>0) C (Zpw hp hI)
 have d:Xt (C.map fun x=>Z2 n x n.2.1.length 0)=Z6 n C:=rfl
 rw [d] at a
 have c:=congrArg (· * (Z6 n C)⁻¹) a
 simp only [bJ,cM _ b,bQ] at c
 rw [Sj,Z26 _ fun x=>(fun _=>(0:Rat)) x / Z2 n x n.2.1.length 0]
 exact Rat.natCast_inj.1 c
def X8 (D:Nat) (n:Zq) (r:List R2):List R8:=r.flatMap fun w=>Sj D n (Z7 n n.2.1.length 0 w)
section
variable {N:Nat} {n:Zq} (hf:X7 N n) {D G:Nat} (hD:D≠0)
variable {Q P:Nat} (hr:Z5 N (4 * (G+Q+P)+60)) (hN:2000000<N) {B:Nat→Nat} (hB:Zao n B) (hQ:W2 B n.2.1.length 0+1≤Q)
include hf hD hr hN hB hQ
omit hf hD hr hN hB hQ in
theorem Zvw (p:QV) (E:List (List QV)) (kk:List Int→ByteArray→R3→Rg→R7→(List (List QV))→ByteArray→R3→Rg→R7→(List (List QV))→Bool→R2→R2→(List (List QV))→Option (List (List QV))) (y:Int×List Int):∀ (os:List Nat) (k:Nat) (V ds:List Int),y.2.drop k=ds→ds.length=os.length→(∀ o ∈ os,o<V.length)→
  Zdl N n.1 n.2.1 n.2.2.1 n.2.2.2.1 n.2.2.2.2 (Ws n).1 (Ws n).2.1 (Ws n).2.2.1 (Ws n).2.2.2.1 (Ws n).2.2.2.2 p.1.1 p.1.2 p.2 E kk y (os.map fun o:Nat=>(o:Int)) k V=
   (Zhu N (Vc V os ds) n (Ws n) p E).bind fun r=>kk (Vc V os ds) n.1 n.2.1 n.2.2.1 n.2.2.2.1 n.2.2.2.2 (Ws n).1 (Ws n).2.1 (Ws n).2.2.1 (Ws n).2.2.2.1 (Ws n).2.2.2.2 p.1.1 p.1.2 p.2 r
 | [],k,V,ds,_,_,_=>by
  rw [bW,Zdl.eq_1,Vc]
 | o :: os,k,V,[],_,h,_=>by simp at h
 | o :: os,k,V,d :: ds,a,f,b=>by
  have c:k<y.2.length:=by
   rcases cJ k y.2.length with h | h
   ·exact h
   ·rw [aK h] at a;cases a
  rw [aJ c] at a
  obtain ⟨g,i⟩:=List.cons.inj a
  have e:=b o aC
  rw [aS,Zdl.eq_2,Z0 c,oB,Z0 e,oB,oB,aD,g,Vc]
  exact Zvw p E kk y os (k+1) (V.set o d) ds i (by simpa using f) fun q j=>by rw [nS];exact b q (aB _ j)
theorem Zvv {w:List Int} (hw:PV n w) {p:Rat} (hp:0<p) (hpP:qs p≤P) {M:Nat} (hM:(Ze M).length≤G) (hG2:(Ze D).length≤G)
  (hI:∀ x ∈ Z7 n n.2.1.length 0 w,(aW D n p x:Rat) * p=(D:Rat) * Z2 n x n.2.1.length 0):∀ (m k:Nat) (V:List Int) (E:List (List QV)) (L:List R8),k+m=X5 ((Yh w 0).map (cnt n))→V.length=w.length→(∀ i,i ∉ Yh w 0→V[i]?=w[i]?)→U1 n D G L E→
  Wc L+Wc (((cI k m).map fun a=>Vc w (Yh w 0) (Vo ((Yh w 0).map (cnt n)) a)).map fun x=>(aW D n p x,x))≤M→
  ∃ E',Zba N ((Yh w 0).map fun o:Nat=>(o:Int)) (Zc3 ((Yh w 0).map (cnt n)) k m) V n.1 n.2.1 n.2.2.1 n.2.2.2.1 n.2.2.2.2 (Ws n).1 (Ws n).2.1 (Ws n).2.2.1 (Ws n).2.2.2.1 (Ws n).2.2.2.2 (Zp p).1.1 (Zp p).1.2 (Zp p).2 E=some E'∧
   U1 n D G (L++((cI k m).map fun a=>Vc w (Yh w 0) (Vo ((Yh w 0).map (cnt n)) a)).map fun x=>(aW D n p x,x)) E'
 | 0,k,V,E,L,_,_,_,l,_=>by
  rw [Zc3,Zba.eq_1]
  refine ⟨E,rfl,?_⟩
  have:((cI k 0).map fun a=>Vc w (Yh w 0) (Vo ((Yh w 0).map (cnt n)) a)).map (fun x=>(aW D n p x,x))=[]:=rfl
  rw [this,eG];exact l
 | m+1,k,V,E,L,U,F,r,l,c=>by
  rw [eX,aS,aS,Wc] at c
  have s:=hw.len
  have t:Vc w (Yh w 0) (Vo ((Yh w 0).map (cnt n)) k) ∈ Z7 n n.2.1.length 0 w:=by
   rw [Zj3 n.2.1.length 0 w (by omega) s,aP]
   exact cA.2 ⟨k,eD.2 (by omega),rfl⟩
  obtain ⟨x,b⟩:∃ x,x=Vc w (Yh w 0) (Vo ((Yh w 0).map (cnt n)) k):=⟨_,rfl⟩
  have d:=Zg2 n.2.1.length 0 w hw (by omega) (fun i u=>by omega) _ t
  have f:=hI _ t
  have q:Vc V (Yh w 0) (Vo ((Yh w 0).map (cnt n)) k)=x:=by
   rw [b]
   exact Z1j _ _ _ _ F (by rw [Zqm,aN]) r
  rw [← b] at d f c
  have g:p≠0:=fun e=>by rw [e] at hp;exact absurd hp dY
  have v:=Zgb hD
  have j:Z2 n x n.2.1.length 0 / p=(aW D n p x:Rat) / (D:Rat):=by
   have H:Z2 n x n.2.1.length 0 * (D:Rat)=(aW D n p x:Rat) * p:=by rw [f,iJ]
   have I:Z2 n x n.2.1.length 0=(aW D n p x:Rat) * p / (D:Rat):=by
    rw [← H,bT,bJ,cM _ v,bQ]
   rw [I,bT,bT,bT,bJ _ p,iJ p,← bJ,bJ _ p,cM _ g,bQ]
  have J:aW D n p x≤M:=by omega
  have y:qs (Z2 n x n.2.1.length 0 / p)≤G:=by
   have e:(aW D n p x:Rat) / (D:Rat)=mkRat ((aW D n p x:Nat):Int) D:=by rw [dI];rfl
   rw [j,e]
   have:=Wu J
   exact Zjf (by rw [eS];omega) hG2 (aU (Tv hD) hG2)
  obtain ⟨K,O,R⟩:=Xaw hf hD l d hr hN hB hQ g hpP j y (aU (Wu (show Wc L+aW D n p x≤M by omega)) hM) hG2
  obtain ⟨E',S,A⟩:=Zvv hw hp hpP hM hG2 hI m (k+1) x K (L++[(aW D n p x,x)]) (by omega) (by rw [b,Z1k]) (fun i u=>by rw [b];exact Z1l _ _ _ i u) R (by rw [Zpn,Wc,Wc];omega)
  have C:=Zvw (N:=N) (n:=n) (Zp p) E (Zba N ((Yh w 0).map fun o:Nat=>(o:Int)) (Zc3 ((Yh w 0).map (cnt n)) (k+1) m)) ((k:Int),Vo ((Yh w 0).map (cnt n)) k) (Yh w 0) 0 V (Vo ((Yh w 0).map (cnt n)) k) (aP) (by rw [Zqm,aN]) fun o T=>by
   have:=Zon w 0 o T;omega
  rw [q,O,oB] at C
  refine ⟨E',?_,?_⟩
  ·rw [Zc3,Zba.eq_2]
   exact C.trans S
  ·rw [bO,gP] at A
   rw [eX,aS,aS,← b]
   exact A
theorem Z6m {w:List Int} (hw:PV n w) (ho:Xq n w n.2.1.length 0≤65536) (hp:0<Z6 n (Z7 n n.2.1.length 0 w)) (hpP:qs (Z6 n (Z7 n n.2.1.length 0 w))≤P) {M:Nat} (hM:(Ze M).length≤G) (hG2:(Ze D).length≤G)
  (hI:∀ x ∈ Z7 n n.2.1.length 0 w,∃ z:Nat,(D:Rat) * Z2 n x n.2.1.length 0 / Z6 n (Z7 n n.2.1.length 0 w)=(z:Rat)) {L:List R8} {E:List (List QV)} (hE:U1 n D G L E) (hM2:Wc L+D≤M):
  ∃ E',Zhw N n w n (Ws n) (Zp (Z6 n (Z7 n n.2.1.length 0 w))) E=some E'∧U1 n D G (L++Sj D n (Z7 n n.2.1.length 0 w)) E':=by
 have d:=hw.len
 have H:=hf.le
 have g:X5 ((Yh w 0).map (cnt n))=Xq n w n.2.1.length 0:=by
  have c:=Zen n n.2.1.length 0 w
  rw [Zj3 n.2.1.length 0 w (by omega) d,aP,aN,List.length_range'] at c
  exact c
 have I:=Zyk w 0
 have f:∀ s ∈ (Yh w 0).map (cnt n),0<s:=fun s r=>by
  obtain ⟨o,c,rfl⟩:=cA.1 r
  have:=Zon w 0 o c
  exact Qa hf.ev (by omega)
 have i:=Z9y (N:=N) f (by rw [aN];omega) (by omega) (by rw [g];exact ho)
 have t:Sz w=some w:=Zm4 (by omega)
 have e:Z7 n n.2.1.length 0 w=(cI 0 (X5 ((Yh w 0).map (cnt n)))).map fun a=>Vc w (Yh w 0) (Vo ((Yh w 0).map (cnt n)) a):=by
  have:=Zj3 n.2.1.length 0 w (by omega) d
  rwa [aP] at this
 have J:=Ztn hp hI
 obtain ⟨E',u,j⟩:=Zvv hf hD hr hN hB hQ hw hp hpP hM hG2 (Zpw hp hI) (X5 ((Yh w 0).map (cnt n))) 0 w E L (by omega) rfl (fun _ _=>rfl) hE (by
  rw [← e]
  show Wc L+Wc (Sj D n (Z7 n n.2.1.length 0 w))≤M
  omega)
 refine ⟨E',?_,?_⟩
 ·have y:∀ (m k:Nat) (b:List Nat),k+m=n.2.1.length→b.length≤k→Q7 N n w n (Ws n) (Zp (Z6 n (Z7 n n.2.1.length 0 w))) E (w.drop k) k (b.map fun o:Nat=>(o:Int)) (Vm (b.map (cnt n)))=
    Q7 N n w n (Ws n) (Zp (Z6 n (Z7 n n.2.1.length 0 w))) E [] n.2.1.length ((b++Yh (w.drop k) k).map fun o:Nat=>(o:Int)) (Vm ((b++Yh (w.drop k) k).map (cnt n))):=by
   intro m
   induction m with
   | zero=>
    intro k b A _
    rw [cH (by omega),Yh,eG,show k=n.2.1.length by omega]
   | succ m l=>
    intro k b A K
    have p:k<w.length:=by omega
    have C:k<n.2.2.1.length:=by rw [hf.ev.v];omega
    rw [aJ p,Q7.eq_2,Yh]
    by_cases hc:w[k]<0
    ·have q:=l (k+1) (b++[k]) (by omega) (by rw [nA,aQ];omega)
     have q1:((b++[k]).map fun o:Nat=>(o:Int))=(b.map fun o:Nat=>(o:Int))++[(k:Int)]:=by rw [eF,fF]
     have F:Vm ((b++[k]).map (cnt n))=Vm (b.map (cnt n))++[((n.2.2.1.getD k []).length:Int)]:=by rw [Vm,Vm,eF,fF,eF,fF];rfl
     rw [q1,F,bO,gP] at q
     rw [if_pos (dT hc),if_pos hc,Xf (by simp only [aN,aQ,maxLen];omega),Wx [] C,oB,Xf (by simp only [Vm,aN,aQ,maxLen];omega),Zhx]
     exact q
    ·rw [if_neg (dF hc),if_neg hc,Zhx]
     exact l (k+1) b (by omega) (by omega)
  have c:=y n.2.1.length 0 [] (by omega) (bK _)
  rw [aP,bN] at c
  rw [Zhw]
  refine c.trans ?_
  rw [Q7.eq_1,t,oB,i,oB]
  exact u
 ·rw [← e] at j
  exact j
end
theorem Zzk:∀ l:List QV,Yn l=Xt (l.map Zr)
 | []=>rfl
 | x :: l=>by rw [Zge,aS,Xt,Zzk l]
theorem Z10 (D:Rat):∀ c:List Int,(∀ x ∈ c,0≤x)→Xt (c.map fun x:Int=>(x:Rat) / D)=((Xv c:Nat):Rat) / D
 | [],_=>by rw [bW,Xt,Xv,bT];exact (cT _).symm
 | x :: c,h=>by
  have b:=h x aC
  obtain ⟨d,rfl⟩:∃ d:Nat,x=(d:Int):=⟨x.toNat,by omega⟩
  rw [aS,Xt,Z10 D c fun y a=>h y (aB _ a),Xv,aD,Rat.natCast_add,bT,bT,bT,Rat.add_mul];rfl
theorem Z6j {x S D:Rat} (hS:S≠0) (hD:D≠0):x / D / (S / D)=x / S:=by
 have a:S / D≠0:=fun e=>by
  have:=congrArg (· * D) e
  simp only [cT] at this
  rw [Q1 hD] at this;exact hS this
 have c:x / D / (S / D) * (S / D) * D=x / S * (S / D) * D:=by
  rw [Q1 a,Q1 hD,bJ,Q1 hD,Q1 hS]
 have b:=congrArg (· * D⁻¹ * (S / D)⁻¹) c
 simp only [bJ,cM _ hD,bQ,cM _ a] at b
 exact b
theorem Xan {D:Nat} (hD:D≠0) {t q:List QV} {c:List Int} (h0:∀ x ∈ c,0≤x) (hq:q.map Zr=c.map fun x:Int=>(x:Rat) / (D:Rat)):T4 t q=T4 t (W1 0 c):=by
 have e:Yn q=((Xv c:Nat):Rat) / (D:Rat):=by rw [Zzk,hq,Z10 _ c h0]
 have a:=Zgb hD
 rw [Zs1 h0,T4,e]
 by_cases h:Xv c=0
 ·rw [if_pos h,if_pos (by rw [h,bT];exact cT _)]
 ·have hS:=Zgb h
  have b:¬ ((Xv c:Nat):Rat) / (D:Rat)=0:=fun e=>by
   have:=congrArg (· * (D:Rat)) e
   simp only [cT] at this
   rw [Q1 a] at this;exact hS this
  have d:(q.map fun x=>Zp (Zr x / (((Xv c:Nat):Rat) / (D:Rat))))=(q.map Zr).map fun y=>Zp (y / (((Xv c:Nat):Rat) / (D:Rat))):=by rw [jG];rfl
  rw [if_neg h,if_neg b,d,hq,Zbp,jG]
  refine iC fun x _=>?_
  show Zp ((x:Rat) / (D:Rat) / (((Xv c:Nat):Rat) / (D:Rat)))=Zp ((x:Rat) / (((Xv c:Nat):Int):Rat))
  rw [Z6j hS a];rfl
theorem Z1o {D k:Nat} (hD:D≠0):∀ (m:Nat) (t q:List QV) (c:List Int),(∀ x ∈ c,0≤x)→(q.map Zr=c.map fun x:Int=>(x:Rat) / (D:Rat))→Vl k m t q=Vl k m t (W1 0 c)
 | 0,t,q,c,_,_=>rfl
 | m+1,t,q,c,b,d=>by
  have e:(q.take k).map Zr=(c.take k).map fun x:Int=>(x:Rat) / (D:Rat):=by rw [jB,jB,d]
  have f:(q.drop k).map Zr=(c.drop k).map fun x:Int=>(x:Rat) / (D:Rat):=by rw [jC,jC,d]
  rw [Vl,Vl,Zru,Zrt,Xan hD (fun x a=>b x (dB a)) e,Z1o hD m _ _ _ (fun x a=>b x (dC a)) f]
theorem U1.map {n:Zq} {D G:Nat} {L:List R8} {E:List (List QV)} (h:U1 n D G L E) {v:Nat} (hv:v<n.2.1.length):(E.getD v []).map Zr=(Wr n v L).map fun x:Int=>(x:Rat) / (D:Rat):=by
 refine List.ext_getElem (by rw [aN,aN,h.sz v hv,Zg1]) fun i a b=>?_
 rw [aN] at a b
 have:=h.val v hv i (by rw [← h.sz v hv];exact a)
 rw [Xn a,Xn b] at this
 rw [cZ,cZ];exact this
theorem U1.none {n:Zq} {D G:Nat} {E:List (List QV)} (hl:E.length=n.2.1.length) (hE:∀ v,v<n.2.1.length→E.getD v []=aM (n.2.2.2.2.getD v []).length ((false,([]:List Int)),([]:List Int))):U1 n D G [] E:=by
 have b:Zr ((false,([]:List Int)),([]:List Int))=0:=by rw [Zr];simp [Zu,Zc]
 refine ⟨hl,fun v a=>by rw [hE v a,bI],fun v a i c=>?_,fun v a y d=>?_⟩
 ·rw [hE v a,Xn (by rw [bI];exact c),jH,b,Wr,kV,Xn (by rw [bI];exact c),jH,bT]
  exact (cT _).symm
 ·rw [hE v a] at d
  rw [eJ d]
  exact ⟨by simp [Zn],by simp [Zn],by simp,by simp⟩
section
variable {N:Nat} {n:Zq} (hf:X7 N n) {D G C:Nat} (hD:D≠0) (hC6:C≤65536) (hcn:∀ v,v<n.2.1.length→cnt n v≤C) (hN:2000000<N)
include hf hD hC6 hcn hN
theorem Z1h (hr:Z5 N (8 * ((G+2) * C+2)+64)) {L:List R8} {E:List (List QV)} (hE:U1 n D G L E):∀ (f v:Nat) (A:List (List QV)),v≤n.2.1.length→n.2.1.length<f+v→A=(X6 n L).take v→
  Ze6 N n E f (v:Int) n.1 n.2.1 n.2.2.1 n.2.2.2.1 (A++((n.2.2.2.2.map (iG Wy)).drop v))=some (Xz n (X6 n L),0)
 | 0,v,A,J,M,_=>by omega
 | f+1,v,A,J,M,e=>by
  have U:=hf.le
  have V:=hf.ev.v;have X:=hf.ev.t
  have Y:(X6 n L).length=n.2.1.length:=by rw [X6,aN,cU]
  have a:A.length=v:=by rw [e,nK];omega
  rw [Ze6.eq_2]
  by_cases hv:v<n.2.1.length
  ·have c:v<n.2.2.1.length:=by omega
   have m:v<n.2.2.2.2.length:=by omega
   obtain ⟨o,c2,O⟩:=hf.rows hv
   have p:=Qa hf.ev hv
   have Z:=hcn v hv
   have a0:(A++(n.2.2.2.2.map (iG Wy)).drop v).length=n.2.1.length:=by
    rw [nA,bP,aN];omega
   have g:(A++(n.2.2.2.2.map (iG Wy)).drop v)[v]'(by omega)=(n.2.2.2.2.getD v []).map Wy:=by
    rw [List.getElem_append_right (by omega)]
    simp only [a,hO,List.getElem_drop,bU,cZ,Xn m]
   have d:=hE.sz v hv
   have s:∀ k:Nat,k≤C→(G+2) * k≤(G+2) * C:=fun k P=>aT _ P
   have u:G≤(G+2) * C+2:=by
    have:=dN (G+2) (show 0<C by omega)
    omega
   have y:=Z8b (N:=N) (B:=(G+2) * C+2) hr (k:=cnt n v) (q:=E.getD v []) p (fun x i=>(hE.rv v hv x i).mono u) (by rw [d];omega) (R:=Tl n v) (t:=(n.2.2.2.2.getD v []).map Wy) (by rw [aN];exact o.symm) (by rw [d];exact o.symm) (fun j=>by
    have h5:=Zsa (b:=G) (((E.getD v []).drop (j * cnt n v)).take (cnt n v)) fun x i=>hE.rv v hv x (dC (dB i))
    have T:(((E.getD v []).drop (j * cnt n v)).take (cnt n v)).length≤C:=by rw [nK];omega
    have h7:=s _ T
    omega) (by omega) (by have:Tl n v≤65536:=O;omega)
   have F:(n.2.2.1[v].length:Int)=(cnt n v:Int):=by rw [cnt,Xn c]
   have H:=Z1o (k:=cnt n v) hD (Tl n v) ((n.2.2.2.2.getD v []).map Wy) (E.getD v []) (Wr n v L) (Zj2 n v L) (hE.map hv)
   rw [H] at y
   have l:(A++(n.2.2.2.2.map (iG Wy)).drop v).set v (Vl (cnt n v) (Tl n v) ((n.2.2.2.2.getD v []).map Wy) (W1 0 (Wr n v L)))=(A++[Vl (cnt n v) (Tl n v) ((n.2.2.2.2.getD v []).map Wy) (W1 0 (Wr n v L))])++(n.2.2.2.2.map (iG Wy)).drop (v+1):=by
    rw [List.set_append_right _ _ (by omega),a,hO,aJ (by rw [aN];omega),iE,bO,gP]
   have I:(X6 n L).take (v+1)=A++[Vl (cnt n v) (Tl n v) ((n.2.2.2.2.getD v []).map Wy) (W1 0 (Wr n v L))]:=by
    rw [List.take_add_one,aL (by omega),Option.toList_some,← e,← Zs4 hv,Xn (by omega)]
   rw [if_pos (dT (by omega)),Z0 (by omega),g,oB,Wx [] (by rw [hE.len];exact hv),oB,Z0 c,oB,F,y,oB,wS (by omega),aD,l]
   exact Z1h hr hE f (v+1) _ (by omega) (by omega) I.symm
  ·rw [if_neg (dF (by omega)),cH (by rw [aN];omega),eG,e,bF (by omega)];rfl
omit hD hC6 hcn hN in
theorem Z1g (r:List R2) (cp:Zq):∀ (m v f:Nat) (E:List (List QV)),v+m=n.2.1.length→m<f→E.length=n.2.1.length→(∀ i,i<v→E.getD i []=aM (n.2.2.2.2.getD i []).length ((false,([]:List Int)),([]:List Int)))→
  ∃ E',Zdj N n r cp f E (v:Int)=Zb5 N n cp r E'∧E'.length=n.2.1.length∧∀ i,i<n.2.1.length→E'.getD i []=aM (n.2.2.2.2.getD i []).length ((false,([]:List Int)),([]:List Int))
 | m,v,0,E,_,h,_,_=>by omega
 | 0,v,f+1,E,e,_,hl,c=>by
  rw [Zdj.eq_2,if_neg (dF (by omega))]
  exact ⟨E,rfl,hl,fun i g=>c i (by omega)⟩
 | m+1,v,f+1,E,e,o,hl,c=>by
  have p:=hf.le
  have a:v<n.2.1.length:=by omega
  have d:v<n.2.2.2.2.length:=by rw [hf.ev.t];exact a
  obtain ⟨q,s,u⟩:=hf.rows a
  have b:v<E.length:=by omega
  obtain ⟨E',j,k,l⟩:=Z1g r cp m (v+1) f (E.set v (aM (n.2.2.2.2.getD v []).length ((false,([]:List Int)),([]:List Int)))) (by omega) (by omega) (by rw [nS];exact hl) fun i g=>by
   rw [V1 E [] v i _ b]
   split
   ·rename_i h;rw [h]
   ·exact c i (by omega)
  refine ⟨E',?_,k,l⟩
  rw [Zdj.eq_2,if_pos (dT (by omega)),Wx [] d,oB,Xf (by simp only [maxLen];omega),Z0 b,oB,oB,aD,wS (by omega)]
  exact j
end
section
variable {N W K:Nat} {n:Zq} (hf:X7 N n) (hs:Ww n W) (hr:Z5 N (8 * K+40)) (hWK:1025 * (W+2)+4≤K) (hN:2000000<N) (hC:Vj N n=some 0)
variable {Q C S:Nat} {B:Nat→Nat} (hch:∀ w,X9 n w→Su N n w=some (Zp (Ux n w n.2.1.length 0 1),0)) (hB:Zao n B) (hQ:W2 B n.2.1.length 0+1≤Q) (hC6:C≤65536) (hS:C * (Q+2048)≤S) (hrS:Z5 N (26 * S+60)) (hcn:∀ v,v<n.2.1.length→cnt n v≤C)
variable {r:List R2} (hw:Ud n r=true) (ho:∀ w ∈ r,Xq n w n.2.1.length 0≤C) (hl:r.length≤12)
variable {G:Nat} (hrG:Z5 N (4 * (G+Q+(1+12 * S))+60)) (hrC:Z5 N (8 * ((G+2) * C+2)+64))
include hf hs hr hWK hN hC hch hB hQ hC6 hS hrS hcn hw ho hl hrG hrC
omit hs hr hWK hC hch hS hrS hw ho hl hrG hrC hcn hC6 hN in
theorem Zou:∀ w,X9 n w→qs (Z2 n w n.2.1.length 0)≤Q:=fun w hw=>by
 have:=Zr6 hf hB hw n.2.1.length 0 1 (by omega)
 rw [Zot,cX,Zcu] at this
 omega
theorem Xaz (hpos:∀ w ∈ r,0<Z6 n (Z7 n n.2.1.length 0 w)) (hne:Yw n r≠0) {D:Nat} (hD:D≠0) (hM:(Ze (12 * D)).length≤G)
  (hI:∀ w ∈ r,∀ x ∈ Z7 n n.2.1.length 0 w,∃ z:Nat,(D:Rat) * Z2 n x n.2.1.length 0 / Z6 n (Z7 n n.2.1.length 0 w)=(z:Rat)):
  Q6 N n r=some (Xz n (X6 n (X8 D n r)),0):=by
 have a2:=hf.le
 have H:=Zo9 hw
 have d:=Zou hf hB hQ
 have k:Vj N (n.1,n.2.1,n.2.2.1,n.2.2.2.1,n.2.2.2.2)=some 0:=hC
 have I:Ze7 N (n.1,n.2.1,n.2.2.1,n.2.2.2.1,n.2.2.2.2) r=some 0:=by
  rw [Ze7,k,oB,if_neg (by decide)]
  have:=Zq6 (n:=n) hf.ev.v r
  rw [if_pos hw] at this
  exact this
 obtain ⟨J,O⟩:=Zj8 hf hN hC hch d hC6 hS hrS hw ho hl
 have m:Tx N (n.1,n.2.1,n.2.2.1,n.2.2.2.1,n.2.2.2.2) r=some (Zp (Yw n r),0):=J
 have P:Qf N (((Zp (Yw n r)).1.1,(Zp (Yw n r)).1.2),(Zp (Yw n r)).2)=some (S1 (Yw n r)):=by
  have:=Zj7 (N:=N) (V5 O) (hrS.mono (by omega))
  rwa [Wo] at this
 have R:Zhv N (n.1,n.2.1,n.2.2.1,n.2.2.2.1,n.2.2.2.2)=some (Ws n):=Z72 hf hs hr hWK hN
 obtain ⟨E0,T,U,V⟩:=Z1g hf r (Ws n) n.2.1.length 0 N (aM n.2.1.length []) (by omega) (by omega) (bI ..) fun i hi=>by omega
 have o:U1 n D G [] E0:=U1.none U V
 have X:∀ (l:List R2) (E:List (List QV)) (L:List R8),(∀ w ∈ l,w ∈ r)→U1 n D G L E→Wc L+l.length * D≤12 * D→
   Zb5 N n (Ws n) l E=some (Xz n (X6 n (L++X8 D n l)),0):=by
  intro l
  induction l with
  | nil=>
   intro E L _ j _
   rw [Zb5.eq_1,X8,gA,eG]
   have:=Z1h hf hD hC6 hcn hN hrC j N 0 [] (bK _) (by omega) (by rw [fL])
   rw [bN,aP] at this
   exact this
  | cons w l Y=>
   intro E L b j p
   rw [nC,aV,aX] at p
   have a:=b w aC
   have q:=H w a
   have s:=hpos w a
   have f:=ho w a
   have t:Ud n [w]=true:=by
    have:=List.all_eq_true.1 hw w a
    rw [Ud,dQ,lJ,this];rfl
   obtain ⟨u,y⟩:=Zj8 hf hN hC hch d hC6 hS hrS t (fun x c=>by rw [bR] at c;rw [c];exact f) (by rw [aQ];omega)
   have Z:Yw n [w]=Z6 n (Z7 n n.2.1.length 0 w):=by rw [Yw,Yw,bQ]
   rw [Z] at u y
   have A:Tx N (n.1,n.2.1,n.2.2.1,n.2.2.2.1,n.2.2.2.2) [w]=_:=u
   obtain ⟨E',f1,f2⟩:=Z6m hf hD hrG hN hB hQ q (aU f hC6) s y (M:=12 * D) hM (aU (Wu (by omega)) hM) (hI w a) j (by omega)
   have F:Zhw N (n.1,n.2.1,n.2.2.1,n.2.2.2.1,n.2.2.2.2) w (n.1,n.2.1,n.2.2.1,n.2.2.2.1,n.2.2.2.2) ((Ws n).1,(Ws n).2.1,(Ws n).2.2.1,(Ws n).2.2.2.1,(Ws n).2.2.2.2) (((Zp (Z6 n (Z7 n n.2.1.length 0 w))).1.1,(Zp (Z6 n (Z7 n n.2.1.length 0 w))).1.2),(Zp (Z6 n (Z7 n n.2.1.length 0 w))).2) E=some E':=f1
   have g:=Y E' (L++Sj D n (Z7 n n.2.1.length 0 w)) (fun x c=>b x (aB _ c)) f2 (by rw [Zpn,Ztn s (hI w a)];omega)
   rw [bO] at g
   rw [Zb5.eq_2,A,oB]
   dsimp only
   rw [F,oB,X8,dM]
   exact g
 have fin:=X r E0 [] (fun w h=>h) o (by rw [Wc,cR];exact bC _ hl)
 rw [bN] at fin
 rw [Q6,I,oB,if_neg (by decide),m,oB]
 dsimp only
 rw [if_neg (by rw [decide_eq_true rfl];decide),P,oB,if_neg (by rw [decide_eq_false fun e=>hne (Zjg.1 e)];decide),R,oB,Xf (by simp only [maxLen];omega)]
 exact T.trans fin
omit hs hr hWK hcn hrG hrC in
theorem Xa1 (hne:Yw n r=0):∃ m,Q6 N n r=some (m,52):=by
 have a:=Zou hf hB hQ
 have b:Vj N (n.1,n.2.1,n.2.2.1,n.2.2.2.1,n.2.2.2.2)=some 0:=hC
 have d:Ze7 N (n.1,n.2.1,n.2.2.1,n.2.2.2.1,n.2.2.2.2) r=some 0:=by
  rw [Ze7,b,oB,if_neg (by decide)]
  have:=Zq6 (n:=n) hf.ev.v r
  rw [if_pos hw] at this
  exact this
 obtain ⟨e,f⟩:=Zj8 hf hN hC hch a hC6 hS hrS hw ho hl
 have c:Tx N (n.1,n.2.1,n.2.2.1,n.2.2.2.1,n.2.2.2.2) r=some (Zp (Yw n r),0):=e
 have g:Qf N (((Zp (Yw n r)).1.1,(Zp (Yw n r)).1.2),(Zp (Yw n r)).2)=some (S1 (Yw n r)):=by
  have:=Zj7 (N:=N) (V5 f) (hrS.mono (by omega))
  rwa [Wo] at this
 rw [Q6,d,oB,if_neg (by decide),c,oB]
 dsimp only
 rw [if_neg (by rw [decide_eq_true rfl];decide),g,oB,if_pos (dT (Zjg.2 hne))]
 exact ⟨_,rfl⟩
end
/-! the probability of an assignment -/
section
variable {N:Nat} {n:Zq} (hf:X7 N n) {G Q:Nat} {B:Nat→Nat} (hE:∀ v,v<n.2.1.length→∀ y ∈ n.2.2.2.2.getD v [],RV G y) (hB:Zao n B) (hr:Z5 N (4 * (Q+G)+40))
include hf hE hB hr
theorem Zu6 {w:List Int} (hw:X9 n w):∀ (l:List (List QV)) (k:Nat) (q:Rat),n.2.2.2.2.drop k=l→k≤n.2.1.length→qs q+W2 B l.length k≤Q→Qh N n w l k (Zp q).1.1 (Zp q).1.2 (Zp q).2=some (Zp (Ux n w l.length k q),0)
 | [],k,q,_,_,_=>rfl
 | t :: l,k,q,c,R,u=>by
  have S:=hf.ev.t
  have L:=hf.le
  have f:k<n.2.2.2.2.length:=by
   rcases cJ k n.2.2.2.2.length with h | h
   ·exact h
   ·rw [aK h] at c;cases c
  have a:k<n.2.1.length:=by omega
  rw [aJ f] at c
  obtain ⟨A,C⟩:=List.cons.inj c
  have j:n.2.2.2.2.getD k []=t:=by rw [Xn f];exact A
  have e:=hf.rows a
  have D:=hf.row hw a
  have M:=hw.ok k (by rw [hw.len];exact a)
  have o:=Zqg hf hw a (Zp q).1.1 (Zp q).1.2 (Zp q).2 (Qh N n w l) t (n.2.2.2.1.getD k []) 0 1 (hf.pars a) (by omega) (by omega) e.2.2
  rw [show ((0:Nat):Int)=0 from rfl] at o
  have g:(w.getD k 0).toNat<(Uz n w k).length:=by rw [hf.rowT_len hw a];omega
  have E:i64.wrap ((Vb n w k:Int) * ((n.2.2.1.getD k []).length:Int))=((Vb n w k * cnt n k:Nat):Int):=by
   rw [show ((n.2.2.1.getD k []).length:Int)=((cnt n k:Nat):Int) from rfl,← bV]
   exact Zw (by omega)
  have F:i64.wrap (((Vb n w k * cnt n k:Nat):Int)+w.getD k 0)=((Vb n w k * cnt n k+(w.getD k 0).toNat:Nat):Int):=by
   rw [eL,show (((w.getD k 0).toNat:Nat):Int)=w.getD k 0 by omega]
   exact Zw (by omega)
  have r:Zl t ((Vb n w k * cnt n k+(w.getD k 0).toNat:Nat):Int)=some (Uz n w k)[(w.getD k 0).toNat]:=by
   rw [← j];exact Z0z g
  obtain ⟨y,i⟩:∃ y,y=(Uz n w k)[(w.getD k 0).toNat]:=⟨_,rfl⟩
  have b:=hE k a y (Zlt (i ▸ aH g))
  have T:=b.lm
  have U:=b.ld
  have H:ent n w k=Zr y:=by rw [ent,Xn g,i]
  have s:RV (G+1) (Wk y):=by
   rw [Wk];split
   ·exact ⟨b.m,by simp [Zn],by simp only;omega,by simp⟩
   ·exact ⟨b.m,b.d,by omega,by omega⟩
  have I:Zca N ((y.1.1,y.1.2),y.2)=some (Wk y):=Zqs (x:=y) (k:=G) ⟨b.m,b.d⟩ (by omega) (hr.mono (by omega))
  have O:=Zqr hf hB hw a
  rw [nC,W2] at u
  have J:Q5 N (((Zp q).1.1,(Zp q).1.2),(Zp q).2) (((Wk y).1.1,(Wk y).1.2),(Wk y).2)=some (Zp (q * ent n w k)):=by
   have:=Znb (Zjn q) s (hr.mono (by omega))
   rwa [Wo,Zna,← H] at this
  have P:=Zl0 q (ent n w k)
  have K:=Zu6 hw l (k+1) (q * ent n w k) C (by omega) (by omega)
  rw [Qh.eq_2,Wx [] (by rw [hf.ev.p];exact a),oB,o,← Vb,Zbe.eq_1,Wx [] (by rw [hf.ev.v];exact a),oB,Wx 0 (by rw [hw.len];exact a),oB,E,F,r,← i,oB,I,oB,J,oB,nC,Ux]
  exact K
theorem Z88 (hQ:W2 B n.2.1.length 0+1≤Q) (hC:Vj N n=some 0):∀ w,X9 n w→Su N n w=some (Zp (Ux n w n.2.1.length 0 1),0):=fun w b=>by
 have d:Vj N (n.1,n.2.1,n.2.2.1,n.2.2.2.1,n.2.2.2.2)=some 0:=hC
 have f:=hf.le
 have c:=b.len
 have a:=Zww b
 rw [Bool.and_eq_true] at a
 have e:=Zu6 hf hE hB hr b n.2.2.2.2 0 1 rfl (bK _) (by rw [Zcu,hf.ev.t];omega)
 rw [Su,d,oB,if_neg (by decide),if_neg (show ¬ (!decide ((w.length:Int)=(n.2.1.length:Int)))=true by rw [decide_eq_true (by omega)];decide),Zqf hf.ev (by omega) w c w 0 false [] [] rfl (bK _),if_pos a.2,Qg.eq_1,Zod (hr.mono (by omega)),oB,e,hf.ev.t]
end
/-! products over some variables -/
def Um (f:Nat→Nat):List Nat→Nat
 | []=>1
 | x :: l=>f x * Um f l
theorem Z9c (f:Nat→Nat) {l r:List Nat} (h:l.Perm r):Um f l=Um f r:=by
 induction h with
 | nil=>rfl
 | cons x _ c=>rw [Um,Um,c]
 | swap x y l=>simp only [Um];grind
 | trans _ _ a b=>exact a.trans b
theorem Zy3 {f:Nat→Nat}:∀ l:List Nat,(∀ x ∈ l,1≤f x)→1≤Um f l
 | [],_=>bB _
 | x :: l,h=>jV (h x aC) (Zy3 l fun y a=>h y (aB _ a))
theorem Zr8 {f:Nat→Nat}:∀ (l s:List Nat),l.Nodup→(∀ x ∈ l,x ∈ s)→(∀ x ∈ s,1≤f x)→Um f l≤Um f s
 | [],s,_,_,b=>Zy3 s b
 | x :: l,s,c,hs,b=>by
  obtain ⟨d,g⟩:=cL.1 c
  have i:=hs x aC
  rw [Z9c f (List.perm_cons_erase i),Um,Um]
  refine aT _ (Zr8 l (s.erase x) g (fun y a=>?_) fun y a=>b y (List.mem_of_mem_erase a))
  exact (List.mem_erase_of_ne (fun e:y=x=>d (e ▸ a))).2 (hs y (aB _ a))
theorem Zr7 (n:Zq) (hv:n.2.2.1.length=n.2.1.length):∀ m k,k+m=n.2.1.length→X5 ((W3 n).drop k)=Um (cnt n) (cI k m)
 | 0,k,h=>by rw [cH (by rw [W3,aN,hv];omega)];rfl
 | m+1,k,h=>by
  have a:k<(W3 n).length:=by rw [W3,aN,hv];omega
  have e:(W3 n)[k]=cnt n k:=by
   have:k<n.2.2.1.length:=by rw [hv];omega
   simp only [W3,cZ,cnt,Xn this]
  rw [aJ a,X5,e,Zr7 n hv m (k+1) (by omega),eX,Um]
theorem Z03 {n:Zq} (he:V6 n):∀ (ps:List Int) (k:Nat),(∀ p ∈ ps,0≤p∧p<(n.2.1.length:Int))→k≤65536→Yo n.2.2.1 ps k≤65536→Yo n.2.2.1 ps k=k * Um (cnt n) (ps.map aA)
 | [],k,_,_,_=>by rw [Yo,bW,Um,eN]
 | p :: ps,k,b,g,a=>by
  have f:=b p aC
  have i:=Qa he (v:=p.toNat) (by omega)
  rw [Yo] at a ⊢
  have c:=Zl5 he ps (min (k * (n.2.2.1.getD p.toNat []).length) 1099511627776) (fun q d=>b q (aB _ d)) (Nat.min_le_right _ _)
  have e:k * (n.2.2.1.getD p.toNat []).length≤1099511627776:=by
   rcases Nat.le_total (k * (n.2.2.1.getD p.toNat []).length) 1099511627776 with h | h
   ·exact h
   ·rw [Nat.min_eq_right h] at c a;omega
  rw [Nat.min_eq_left e] at c a ⊢
  rw [Z03 he ps _ (fun q d=>b q (aB _ d)) (aU c a) a,aS,Um,cC];rfl
section
variable {N:Nat} {n:Zq} (hf:X7 N n) (hs:Zjs n.2.2.2.1) (hN:2000000<N)
include hf hs hN
theorem Z7a {v:Nat} (hv:v<n.2.1.length):(v :: (n.2.2.2.1.getD v []).map aA).Nodup:=by
 obtain ⟨l,O,A,P,s,C⟩:=hf.or
 have i:v<n.2.2.2.1.length:=by rw [hf.ev.p];exact hv
 have j:=hf.pars hv
 have D:(n.2.2.2.1.getD v []).Nodup:=by
  have c:=hf.tw
  rw [Tm,List.any_eq_false] at c
  have:=c _ (aH i)
  rw [Xn i]
  simpa using this
 have t:∀ {d:List Int},(∀ p ∈ d,0≤p∧p<(n.2.1.length:Int))→d.Nodup→(d.map aA).Nodup:=by
  intro d
  induction d with
  | nil=>intro _ _;exact List.nodup_nil
  | cons p d E=>
   intro c f
   obtain ⟨F,H⟩:=cL.1 f
   rw [aS]
   refine cL.2 ⟨fun o=>?_,E (fun q g=>c q (aB _ g)) H⟩
   obtain ⟨q,g,e⟩:=cA.1 o
   have a:=c p aC
   have b:=c q (aB _ g)
   exact F (by rw [show p=q by omega];exact g)
 refine cL.2 ⟨fun o=>?_,t j D⟩
 obtain ⟨p,u,e⟩:=cA.1 o
 have K:=j p u
 have w:p=(v:Int):=by omega
 have L:=hf.le
 have M:=hf.ev.p
 have k:=Z82 (N:=N) (l:=l) (by omega) (fun x I=>by have:=hs.ls x I;omega) (by omega) A s
 have r:=Z81 s C hf.ev.p v hv
 obtain ⟨a,b,m⟩:=List.append_of_mem r
 have c:=k.up a (v:Int) b m p (by rw [aD];exact u)
 have f:=k.nd
 rw [m] at f
 have J:=(List.nodup_append.1 f).2.2 (v:Int) (w ▸ c) (v:Int) aC
 exact J rfl
theorem Xbf {v:Nat} (hv:v<n.2.1.length):(n.2.2.2.2.getD v []).length≤X5 (W3 n):=by
 obtain ⟨d,j,e⟩:=hf.rows hv
 have g:=Z03 hf.ev (n.2.2.2.1.getD v []) 1 (hf.pars hv) (by omega) e
 have b:=Zr7 n hf.ev.v n.2.1.length 0 (by omega)
 rw [aP] at b
 have c:=Zr8 (f:=cnt n) (v :: (n.2.2.2.1.getD v []).map aA) (cI 0 n.2.1.length) (Z7a hf hs hN hv) (fun x a=>by
  rw [eD]
  rcases aO.1 a with rfl | a
  ·omega
  ·obtain ⟨p,i,rfl⟩:=cA.1 a
   have:=hf.pars hv p i
   omega) fun x a=>Qa hf.ev (by have:=eD.1 a;omega)
 rw [Um] at c
 rw [← d,g,aX,b,bY]
 exact c
end
theorem Z1x {n:Zq} (he:V6 n) (G:Nat):∀ m k,k+m=n.2.1.length→∃ j,W2 (fun v=>if cnt n v=1 then 1 else G) m k≤m+j * G∧2 ^ j≤X5 ((W3 n).drop k)
 | 0,k,h=>⟨0,by rw [W2];omega,by rw [cH (by rw [W3,aN,he.v];omega),X5];decide⟩
 | m+1,k,h=>by
  obtain ⟨j,c,a⟩:=Z1x he G m (k+1) (by omega)
  have b:k<(W3 n).length:=by rw [W3,aN,he.v];omega
  have d:=Qa he (v:=k) (by omega)
  have e:(W3 n)[k]=cnt n k:=by
   have:k<n.2.2.1.length:=by rw [he.v];omega
   simp only [W3,cZ,cnt,Xn this]
  rw [aJ b,X5,e,W2]
  by_cases h3:cnt n k=1
  ·exact ⟨j,by simp only [if_pos h3];omega,by rw [h3,aX];exact a⟩
  ·refine ⟨j+1,by simp only [if_neg h3];rw [aV,aX];omega,?_⟩
   rw [Nat.pow_succ,bY]
   exact iB (by omega) a
theorem Z6a {n:Zq} (he:V6 n) {v:Nat} (hv:v<n.2.1.length):cnt n v≤X5 (W3 n):=by
 have b:=Zr7 n he.v n.2.1.length 0 (by omega)
 rw [aP] at b
 have c:=Zr8 (f:=cnt n) [v] (cI 0 n.2.1.length) (by simp) (fun x a=>by rw [bR] at a;rw [a,eD];omega) fun x a=>Qa he (by have:=eD.1 a;omega)
 rw [Um,Um,eN] at c
 omega
/-! it may be -/
theorem Z1z:∀ (q:List Int) (x:Nat) (c:Int) (a:Nat),q[x]?=some c→0≤c→Xv (q.set x (c+(a:Int)))=Xv q+a
 | [],x,c,a,h,_=>by simp at h
 | y :: q,0,c,a,h,b=>by
  simp only [List.getElem?_cons_zero,Option.some.injEq] at h
  subst h
  rw [iE,Xv,Xv];omega
 | y :: q,x+1,c,a,h,b=>by
  rw [List.set_cons_succ,Xv,Xv,Z1z q x c a (by simpa using h) b,dS]
theorem Xbb (m:Nat):Xv (aM m 0)=0:=Xba m
theorem Zwm (n:Zq) (v:Nat):∀ (L:List R8) (c:List Int),(∀ x ∈ c,0≤x)→Xv (L.foldl (Tj n v) c)≤Xv c+Wc L
 | [],c,_=>by rw [kV,Wc];omega
 | p :: L,c,h=>by
  have b:∀ x ∈ Tj n v c p,0≤x:=fun x d=>Zqw n v [p] c h x d
  have e:=Zwm n v L (Tj n v c p) b
  have:Xv (Tj n v c p)≤Xv c+p.1:=by
   rw [Tj]
   rcases cJ (Y4 n v p.2) c.length with a | a
   ·rw [Xn a,Z1z c _ _ p.1 (aL a) (h _ (aH a))];exact bB _
   ·rw [List.set_eq_of_length_le a];omega
  rw [fE,Wc];omega
theorem Z59 (n:Zq) (v:Nat) (L:List R8):Xv (Wr n v L)≤Wc L:=by
 have:=Zwm n v L (aM (n.2.2.2.2.getD v []).length 0) fun x a=>by rw [eJ a];exact Int.le_refl _
 rw [Xbb,cR] at this
 exact this
theorem Xbc (k:Nat) (l:List Int):Xv (l.take k)≤Xv l:=by
 have:=Zs6 (l.take k) (l.drop k)
 rw [dK] at this;omega
theorem Xa8 (k:Nat) (l:List Int):Xv (l.drop k)≤Xv l:=by
 have:=Zs6 (l.take k) (l.drop k)
 rw [dK] at this;omega
theorem Xae {b:Nat} {l:List Int} (hl:∀ x ∈ l,0≤x) (h1:Xv l≠0) (h2:(Ze (Xv l)).length≤b):(∀ x ∈ Zbp ((Xv l:Nat):Int) l,0≤Zr x∧Zr x≤1∧RV b x)∧Yn (Zbp ((Xv l:Nat):Int) l)=1:=by
 constructor
 ·intro x f
  obtain ⟨w,a,rfl⟩:=cA.1 f
  have g:=hl w a
  have c:=Z1y a
  obtain ⟨d,rfl⟩:∃ d:Nat,w=(d:Int):=⟨w.toNat,by omega⟩
  rw [aD] at c
  have e:(((d:Int):Rat) / (((Xv l:Nat):Int):Rat))=mkRat (d:Int) (Xv l):=(dI _ _).symm
  rw [e,Wo]
  have i:=Wu c
  refine ⟨?_,?_,V5 (Zjf (by rw [eS];omega) h2 (aU (Tv h1) h2))⟩
  ·rw [← fC,show (0:Rat)=mkRat 0 1 from rfl,Zga h1 (by decide)];omega
  ·rw [← fC,show (1:Rat)=mkRat 1 1 from rfl,Zga (by decide) h1];omega
 ·rw [Z00 _ l hl,bT]
  exact cM _ (Zgb h1)
theorem Z1s {b k:Nat}:∀ (m:Nat) (t:List QV) (c:List Int),t.length=m * k→c.length=m * k→(∀ x ∈ c,0≤x)→(Ze (Xv c)).length≤b→(∀ x ∈ t,0≤Zr x∧Zr x≤1∧RV b (Wy x))→(∀ j,j<m→Yn ((t.drop (j * k)).take k)=1)→Zei b k m (Vl k m (t.map Wy) (W1 0 c))
 | 0,t,c,d,_,_,_,_,_=>by
  rw [dD] at d
  rw [Vl,List.length_eq_zero_iff.1 d]
  exact ⟨by rw [dD];rfl,fun x a=>(by cases a),fun j p=>(by omega)⟩
 | m+1,t,c,d,q,f,w,g,hs=>by
  rw [aV,aX] at d q
  have i:(c.take k).length=k:=by rw [nK];omega
  have e:∀ x ∈ c.take k,0≤x:=fun x a=>f x (dB a)
  have l:=hs 0 (by omega)
  rw [dD,aP] at l
  have A:=Wu (Xbc k c)
  have B:=Wu (Xa8 k c)
  have o:=Z1s (b:=b) (k:=k) m (t.drop k) (c.drop k) (by rw [bP];omega) (by rw [bP];omega) (fun x a=>f x (dC a)) (by omega) (fun x a=>g x (dC a)) fun j p=>by
   have:=hs (j+1) (by omega)
   rw [show (j+1) * k=k+j * k by rw [aV,aX,eM],← List.drop_drop] at this
   exact this
  rw [Vl,Zru,Zrt,Zs1 e,← jB,← jC]
  by_cases h:Xv (c.take k)=0
  ·rw [if_pos h]
   refine Zei.cons (fun x a=>?_) (by rw [Zzl];exact l) (by rw [aN,nK];omega) o
   obtain ⟨y,r,rfl⟩:=cA.1 a
   have:=g y (dB r)
   rw [Zvg];exact this
  ·obtain ⟨s,u⟩:=Xae (b:=b) e h (by omega)
   rw [if_neg h]
   exact Zei.cons s u (by rw [Zbp,aN,i]) o
section
variable {N W:Nat} {n:Zq} (hf:X7 N n) (hs:Ww n W) {L:List R8} {G:Nat} (hG:(Ze (Wc L)).length≤G) (hqG:∀ v,v<n.2.1.length→Xx (n.2.2.2.2.getD v [])+1≤G)
include hf hs hG hqG
theorem Zbr {v:Nat} (hv:v<n.2.1.length):Zei G (cnt n v) (Tl n v) ((X6 n L).getD v []):=by
 obtain ⟨a,e,f⟩:=hf.rows hv
 rw [Zs4 hv]
 refine Z1s _ _ _ a.symm (by rw [Zg1];exact a.symm) (Zj2 n v L) (aU (Wu (Z59 n v L)) hG) (fun x b=>?_) ((Z2d hf).row v hv)
 have c:=hf.ent hv x b
 have d:=Zv0 hf hs hv x b
 exact ⟨c.1,c.2,V5 (aU d (hqG v hv))⟩
theorem Xa2:Zaq n (X6 n L) where
 len:=by rw [X6,aN,cU]
 sz:=fun v hv=>(Zbr hf hs hG hqG hv).len.trans (hf.rows hv).1
 ent:=fun v hv x hx=>⟨((Zbr hf hs hG hqG hv).ent x hx).1,((Zbr hf hs hG hqG hv).ent x hx).2.1⟩
 row:=fun v hv=>(Zbr hf hs hG hqG hv).row
theorem Xay:Zao (Xz n (X6 n L)) (fun v=>if cnt n v=1 then 1 else G):=fun v c x d=>by
 have T:=Zbr hf hs hG hqG (v:=v) c
 have a:x ∈ (X6 n L).getD v []:=d
 by_cases h:cnt n v=1
 ·simp only [if_pos h]
  obtain ⟨i,f,rfl⟩:=hH a
  have g:=T.len
  rw [h,eN] at g
  have b:=T.row i (by omega)
  rw [h,eN,aJ f,List.take_succ_cons,fL,Zge] at b
  have:Zr ((X6 n L).getD v [])[i]=1:=by
   have e:Yn ([]:List QV)=0:=rfl
   rw [e,Rat.add_zero] at b;exact b
  rw [this,Zcu];exact bB _
 ·simp only [if_neg h]
  have j:=Zsh (T.ent x a).2.2
  have:=hqG v c
  omega
theorem Xa4 (hN:2000000<N) {C:Nat} (hC:X5 (W3 n)≤C):Ww (Xz n (X6 n L)) ((G+2) * C):=by
 have j:(X6 n L).length=n.2.1.length:=by rw [X6,aN,cU]
 have get:∀ t ∈ X6 n L,∃ v,v<n.2.1.length∧t=(X6 n L).getD v []:=fun t c=>by
  obtain ⟨v,a,rfl⟩:=hH c
  exact ⟨v,by omega,(Xn a).symm⟩
 have e:Ww n W:=hs
 refine ⟨e.nm,e.vl,e.pn,fun t c=>?_,fun t c=>?_,fun t c x f=>?_⟩
 ·obtain ⟨v,a,rfl⟩:=get t c
  have g:=(Zbr hf hs hG hqG a).len
  obtain ⟨i,l,_⟩:=hf.rows a
  rw [Tl] at g;omega
 ·obtain ⟨v,a,rfl⟩:=get t c
  have T:=Zbr hf hs hG hqG a
  have g:=T.len
  obtain ⟨i,_,_⟩:=hf.rows a
  have o:=Xbf hf hs.pn hN a
  rw [Tl,i] at g
  have k:=Zsa (b:=G) _ fun x f=>(T.ent x f).2.2
  exact aU k (aT _ (by omega))
 ·obtain ⟨v,a,rfl⟩:=get t c
  have:=((Zbr hf hs hG hqG a).ent x f).2.2
  exact ⟨this.m,this.d⟩
end
/-! it is not less likely -/
theorem Zqk (n:Zq) (T:List (List QV)):∀ m k w,Z7 (Xz n T) m k w=Z7 n m k w
 | 0,_,_=>rfl
 | m+1,k,w=>by
  rw [Z7,Z7]
  split
  ·exact Zqk n T m (k+1) w
  ·exact Zqt fun x _=>Zqk n T m (k+1) _
theorem Zym (n:Zq) (T:List (List QV)) (w:List Int):∀ m k,Xq (Xz n T) w m k=Xq n w m k
 | 0,_=>rfl
 | m+1,k=>by rw [Xq,Xq,Zym n T w m (k+1)];rfl
theorem Zpk (n:Zq):∀ a b:List R8,wP n (a++b)=wP n a * wP n b
 | [],b=>by rw [bN,wP,cX]
 | p :: a,b=>by rw [bX,wP,wP,Zpk n a b,bJ]
theorem Zy0 {a b:Rat} (ha:0≤a) (h:a<b):∀ m,Zx a (m+1)<Zx b (m+1)
 | 0=>by rw [Zx,Zx,Zx,Zx,cX,cX];exact h
 | m+1=>by
  have c:=Zy0 ha h m
  have d:0<b:=Std.lt_of_le_of_lt ha h
  have e:Zx a (m+1) * a≤Zx b (m+1) * a:=cB (fM c) ha
  have f:Zx b (m+1) * a<Zx b (m+1) * b:=by
   have:=gG (Zlz d (m+1)) (show 0<b - a by grind)
   grind
  show Zx a (m+1) * a<Zx b (m+1) * b
  exact Std.lt_of_le_of_lt e f
section
variable {N:Nat} {n:Zq} (hf:X7 N n)
include hf
theorem Zos {w:List Int} (hw:X9 n w):0≤Z2 n w n.2.1.length 0:=(Zr5 hf hw n.2.1.length 0 (by omega)).2
theorem Zs5:∀ C:List R2,(∀ w ∈ C,X9 n w)→0≤Z6 n C
 | [],_=>by rw [Z6,bW,Xt];exact Rat.le_refl
 | w :: C,h=>by
  have a:=Zs5 C fun x b=>h x (aB _ b)
  rw [Z6,aS,Xt]
  exact Rat.add_nonneg (Zos hf (h w aC)) a
omit hf in
theorem Zem {w:List Int} (hw:PV n w):∀ x ∈ Z7 n n.2.1.length 0 w,X9 n x:=Zg2 n.2.1.length 0 w hw (by omega) fun i a=>by omega
theorem Zoh:∀ r:List R2,(∀ w ∈ r,PV n w)→0≤Yw n r
 | [],_=>by rw [Yw];decide
 | w :: r,h=>by
  rw [Yw]
  exact bS (Zs5 hf _ (Zem (h w aC))) (Zoh r fun x a=>h x (aB _ a))
theorem Zti:∀ L:List R8,(∀ p ∈ L,X9 n p.2)→0≤wP n L
 | [],_=>by rw [wP];decide
 | p :: L,h=>by
  rw [wP]
  exact bS (Qs (Zos hf (h p aC)) _) (Zti L fun x a=>h x (aB _ a))
omit hf in
theorem Ztu {D:Nat} {r:List R2} (hR:∀ w ∈ r,∀ x ∈ Z7 n n.2.1.length 0 w,X9 n x):∀ p ∈ X8 D n r,X9 n p.2:=fun p b=>by
 obtain ⟨w,c,a⟩:=List.mem_flatMap.1 b
 obtain ⟨x,d,rfl⟩:=cA.1 a
 exact hR w c x d
variable {D:Nat} (hD:D≠0)
include hD
omit hD in
theorem Xbo {C:List R2} (hC:∀ x ∈ C,X9 n x) {p:Rat} (hp:0<p) (ha:∀ x ∈ C,(aW D n p x:Rat) * p=(D:Rat) * Z2 n x n.2.1.length 0):0<wP n (C.map fun x=>(aW D n p x,x)):=by
 induction C with
 | nil=>rw [bW,wP];decide
 | cons x C a=>
  have a:=a (fun y b=>hC y (aB _ b)) fun y b=>ha y (aB _ b)
  have c:=Zos hf (hC x aC)
  rw [aS,wP]
  refine gG ?_ a
  show 0<Zx (Z2 n x n.2.1.length 0) (aW D n p x)
  by_cases hz:Z2 n x n.2.1.length 0=0
  ·have:aW D n p x=0:=Zvx hp (aW D n p) (fun x=>Z2 n x n.2.1.length 0) (ha x aC) hz
   rw [this,Zx];decide
  ·exact Zlz (by grind) _
omit hD in
theorem Ztv:∀ r:List R2,(∀ w ∈ r,PV n w)→(∀ w ∈ r,0<Z6 n (Z7 n n.2.1.length 0 w))→(∀ w ∈ r,∀ x ∈ Z7 n n.2.1.length 0 w,∃ z:Nat,(D:Rat) * Z2 n x n.2.1.length 0 / Z6 n (Z7 n n.2.1.length 0 w)=(z:Rat))→0<wP n (X8 D n r)
 | [],_,_,_=>by rw [X8,gA,wP];decide
 | w :: r,c,b,d=>by
  have e:=Ztv r (fun x a=>c x (aB _ a)) (fun x a=>b x (aB _ a)) fun x a=>d x (aB _ a)
  rw [X8,dM,Zpk]
  exact gG (Xbo hf (Zem (c w aC)) (b w aC) (Zpw (b w aC) (d w aC))) e
theorem Zvy {T:List (List QV)} (hT:Zaq n T):∀ r:List R2,(∀ w ∈ r,PV n w)→(∀ w ∈ r,0<Z6 n (Z7 n n.2.1.length 0 w))→(∀ w ∈ r,∀ x ∈ Z7 n n.2.1.length 0 w,∃ z:Nat,(D:Rat) * Z2 n x n.2.1.length 0 / Z6 n (Z7 n n.2.1.length 0 w)=(z:Rat))→
  wP (Xz n T) (X8 D n r) * Zx (Yw n r) D≤Zx (Yw (Xz n T) r) D * wP n (X8 D n r)
 | [],_,_,_=>by rw [X8,gA,Yw,Yw,wP,wP,Zly,bQ];exact Rat.le_refl
 | w :: r,c,f,j=>by
  have B:=Zvy hT r (fun x a=>c x (aB _ a)) (fun x a=>f x (aB _ a)) fun x a=>j x (aB _ a)
  have b:=Zo4 hf hT
  have d:=Zem (c w aC)
  have C:=Xag (n:=n) (n':=Xz n T) hD (f w aC) (j w aC) fun x a=>Zos b (Zsv (d x a))
  have e:Z7 (Xz n T) (Xz n T).2.1.length 0 w=Z7 n n.2.1.length 0 w:=Zqk n T _ _ _
  rw [X8,dM,Yw,Yw,e,Zpk,Zpk,Zag,Zag]
  have E:0≤wP (Xz n T) (Sj D n (Z7 n n.2.1.length 0 w)) * Zx (Z6 n (Z7 n n.2.1.length 0 w)) D:=bS (Zti b _ fun p g=>by
   obtain ⟨x,a,rfl⟩:=cA.1 g
   exact Zsv (d x a)) (Qs (fM (f w aC)) _)
  have F:0≤wP (Xz n T) (X8 D n r) * Zx (Yw n r) D:=bS (Zti b _ fun p g=>Zsv (Ztu (fun u i=>Zem (c u (aB _ i))) p g)) (Qs (Zoh hf r fun u i=>c u (aB _ i)) _)
  have m:=Zro E C F B
  rw [X8] at m
  generalize wP (Xz n T) (Sj D n (Z7 n n.2.1.length 0 w))=k at *
  generalize Zx (Z6 n (Z7 n n.2.1.length 0 w)) D=l at *
  generalize wP (Xz n T) (r.flatMap fun w=>Sj D n (Z7 n n.2.1.length 0 w))=o at *
  generalize Zx (Yw n r) D=q at *
  generalize Zx (Z6 (Xz n T) (Z7 n n.2.1.length 0 w)) D=s at *
  generalize wP n (Sj D n (Z7 n n.2.1.length 0 w))=t at *
  generalize Zx (Yw (Xz n T) r) D=y at *
  generalize wP n (r.flatMap fun w=>Sj D n (Z7 n n.2.1.length 0 w))=A at *
  have H:k * o * (l * q)=k * l * (o * q):=by grind
  have I:s * y * (t * A)=s * t * (y * A):=by grind
  rw [H,I];exact m
theorem Xa3 {r:List R2} (h1:∀ w ∈ r,PV n w) (h2:∀ w ∈ r,0<Z6 n (Z7 n n.2.1.length 0 w)) (h3:∀ w ∈ r,∀ x ∈ Z7 n n.2.1.length 0 w,∃ z:Nat,(D:Rat) * Z2 n x n.2.1.length 0 / Z6 n (Z7 n n.2.1.length 0 w)=(z:Rat))
  (hok:Zaq n (X6 n (X8 D n r))):Yw n r≤Yw (Xz n (X6 n (X8 D n r))) r:=by
 have a:∀ p ∈ X8 D n r,X9 n p.2:=Ztu fun u e=>Zem (h1 u e)
 have f:=Zvy hf hD hok r h1 h2 h3
 have g:wP n (X8 D n r)≤wP (Xz n (X6 n (X8 D n r))) (X8 D n r):=Xa0 hf (Z2d hf) hok a
 have i:=Ztv hf r h1 h2 h3
 have j:=Zoh hf r h1
 have q0:=Zoh (Zo4 hf hok) r fun w b=>⟨(h1 w b).len,(h1 w b).ok⟩
 refine Classical.byContradiction fun k=>?_
 have c:=Rat.not_le.1 k
 obtain ⟨d,rfl⟩:∃ d,D=d+1:=⟨D - 1,by omega⟩
 have o:=Zy0 q0 c d
 have l:=cB g (Qs j (d+1))
 have m:=Rat.le_trans l f
 generalize wP n (X8 (d+1) n r)=A at *
 generalize Zx (Yw n r) (d+1)=X at *
 generalize Zx (Yw (Xz n (X6 n (X8 (d+1) n r))) r) (d+1)=Y at *
 have q:0<A * (X - Y):=gG i (by grind)
 have s:0<A * X - Y * A:=by grind
 exact absurd m (Rat.not_le.2 (by grind))
end
theorem Zyc {N:Nat} {n:Zq} (hf:X7 N n):∀ r:List R2,(∀ w ∈ r,PV n w)→Yw n r≠0→∀ w ∈ r,0<Z6 n (Z7 n n.2.1.length 0 w)
 | u :: r,h,hne,w,a=>by
  rw [Yw] at hne
  have b:=Zs5 hf _ (Zem (h u aC))
  have c:Z6 n (Z7 n n.2.1.length 0 u)≠0:=fun e=>hne (by rw [e,cT])
  have d:Yw n r≠0:=fun e=>hne (by rw [e,Rat.mul_zero])
  rcases aO.1 a with rfl | a
  ·rcases Rat.le_iff_lt_or_eq.1 b with h | h
   ·exact h
   ·exact absurd h.symm c
  ·exact Zyc hf r (fun x f=>h x (aB _ f)) d w a
section
variable {N:Nat} {n:Zq} (hf:X7 N n) (hs:Ww n 1048576) (hqt:(n.2.2.2.2.map Xx).sum≤1048576) (hC:Vj N n=some 0) (hp:X5 (W3 n)≤300) (hr:Z5 N 800000000000)
include hf hs hqt hC hp hr
theorem Xax {r:List R2} (hw:Ud n r=true) (hl:r.length≤12):
    ∃ x,Tx N n r=some (Zp x,0)∧qs x≤3787372801∧
      ((x=0∧∃ m,Q6 N n r=some (m,52))∨
       (x≠0∧∃ D y,D≠0∧Q6 N n r=some (Xz n (X6 n (X8 D n r)),0)∧Zaq n (X6 n (X8 D n r))∧Vj N (Xz n (X6 n (X8 D n r)))=some 0∧Tx N (Xz n (X6 n (X8 D n r))) r=some (Zp y,0)∧qs y≤362894572801∧x≤y∧
        (∀ w ∈ r,0<Z6 n (Z7 n n.2.1.length 0 w))∧(∀ w ∈ r,∀ x ∈ Z7 n n.2.1.length 0 w,∃ z:Nat,(D:Rat) * Z2 n x n.2.1.length 0 / Z6 n (Z7 n n.2.1.length 0 w)=(z:Rat))∧
        Ww (Xz n (X6 n (X8 D n r))) 3780000600∧∀ t ∈ X6 n (X8 D n r),t.length≤65536∧∀ x ∈ t,RV 12600000 x)):=by
  have b7:=hf.le
  have d:2000000<N:=by obtain ⟨r1,r2⟩:=hr;omega
  have f:=Zo9 hw
  have J:Z5 N (8 * 1074792460+40):=hr.mono (by decide)
  have K:1025 * (1048576+2)+4≤1074792460:=by decide
  have k:=fun w (h:X9 n w)=>Z87 hf hs J K d hC h
  obtain ⟨B,o⟩:∃ B:Nat→Nat,B=fun v=>Xx (n.2.2.2.2.getD v [])+1:=⟨_,rfl⟩
  have b8:W2 B n.2.1.length 0≤1049600:=by
    rw [o,Z1w,Z1v Xx n.2.2.2.2 n.2.1.length 0 (by rw [hf.ev.t];omega),aP];omega
  have U:W2 B n.2.1.length 0+1≤1050000:=by omega
  have V:Zao n B:=fun v b x g=>by rw [o];exact Zv0 hf hs b x g
  have a1:∀ v,v<n.2.1.length→cnt n v≤300:=fun v b=>aU (Z6a hf.ev b) hp
  have p:∀ w ∈ r,Xq n w n.2.1.length 0≤300:=fun w h=>by
    have:=Zyl hf.ev w n.2.1.length 0 (by omega)
    rw [aP] at this;omega
  have a2:=Zou hf V U
  have W:300 * (1050000+2048)≤315614400:=by decide
  have q:Z5 N (26 * 315614400+60):=hr.mono (by decide)
  obtain ⟨d1,d2⟩:=Zj8 hf d hC k a2 (show 300≤65536 by decide) W q hw p hl
  refine ⟨Yw n r,d1,d2,?_⟩
  by_cases hne:Yw n r=0
  · exact .inl ⟨hne,Xa1 hf d hC k V U (show 300≤65536 by decide) W q hw p hl hne⟩
  · refine .inr ⟨hne,?_⟩
    have a:=Zyc hf r f hne
    obtain ⟨D,s⟩:∃ D,D=S7 n r:=⟨_,rfl⟩
    have X:D≠0:=by rw [s];exact Zt2 hf r fun w h=>⟨f w h,a w h⟩
    have H:∀ w ∈ r,∀ x ∈ Z7 n n.2.1.length 0 w,∃ z:Nat,(D:Rat) * Z2 n x n.2.1.length 0 / Z6 n (Z7 n n.2.1.length 0 w)=(z:Rat):=fun w h=>by
      obtain ⟨E,e⟩:=Zt0 (n:=n) r w h
      exact Z7u hf (Zem (f w h)) (a w h) (s.trans e)
    have lA:=Zvh (n:=n) (fun v b x g=>(Zj5 hf hs b x g).1) n.2.1.length 0 (by omega)
    rw [← o] at lA
    have lD:=Zt1 hf (G:=1049602) (by omega) r fun w h=>⟨f w h,by have:=p w h;omega⟩
    rw [← s] at lD
    have L:(Ze (12 * D)).length≤12600000:=by
      have u:=U7 12 D
      have h2:(Ze 12).length≤1:=W8.2 (by decide)
      have h3:r.length * 1049602≤12 * 1049602:=bC _ hl
      omega
    have st:=Xaz hf hs J K d hC k V U (show 300≤65536 by decide) W q a1 hw p hl (G:=12600000) (hr.mono (by decide)) (hr.mono (by decide)) a hne X L H
    have wt:Wc (X8 D n r)≤12 * D:=by
      have:∀ l:List R2,(∀ w ∈ l,w ∈ r)→Wc (X8 D n l)=l.length * D:=fun l=>by
        induction l with
        | nil=>intro _;rw [X8,gA,Wc,nN,dD]
        | cons w l I=>
          intro h
          have I:=I fun x g=>h x (aB _ g)
          rw [X8] at I
          have M:=h w aC
          rw [X8,dM,Zpn,I,Ztn (a w M) (H w M),nC,aV,aX,eM]
      rw [this r fun _ h=>h];exact bC _ hl
    have A:(Ze (Wc (X8 D n r))).length≤12600000:=aU (Wu wt) L
    have c:∀ v,v<n.2.1.length→Xx (n.2.2.2.2.getD v [])+1≤12600000:=fun v b=>by
      have u:v<n.2.2.2.2.length:=by rw [hf.ev.t];exact b
      have h2:=hs.tq _ (aH u)
      rw [Xn u];omega
    have Y:=Xa2 hf hs A c
    have i:=Zo4 hf Y
    have O:=Xa4 hf hs A c d hp
    have F:=Z53 i O (hr.mono (by decide)) d
    have B2:=Xay hf hs A c
    obtain ⟨j,j1,j2⟩:=Z1x hf.ev 12600000 n.2.1.length 0 (by omega)
    rw [aP] at j2
    have hj:j≤8:=by
      refine Nat.not_lt.1 fun h=>?_
      have:2 ^ 9≤2 ^ j:=Nat.pow_le_pow_right (by decide) h
      omega
    have P:W2 (fun v=>if cnt n v=1 then 1 else 12600000) n.2.1.length 0+1≤100802000:=by
      have:j * 12600000≤8 * 12600000:=bC _ hj
      omega
    have a4:∀ v,v<(Xz n (X6 n (X8 D n r))).2.1.length→∀ y ∈ (Xz n (X6 n (X8 D n r))).2.2.2.2.getD v [],RV 12600000 y:=fun v b y hy=>((Zbr hf hs A c (v:=v) b).ent y hy).2.2
    have Z:=Z88 i a4 B2 (Q:=100802000) (hr.mono (by decide)) P F
    have a0:=Zou i B2 P
    have a5:Ud (Xz n (X6 n (X8 D n r))) r=true:=Z3b fun w h=>⟨(f w h).len,(f w h).ok⟩
    obtain ⟨y1,y2⟩:=Zj8 i d F Z a0 (C:=300) (S:=30241214400) (by decide) (by decide) (hr.mono (by decide)) a5 (fun w h=>by
      have:=p w h
      show Xq (Xz n (X6 n (X8 D n r))) w n.2.1.length 0≤300
      rw [Zym];exact this) hl
    refine ⟨D,_,X,st,Y,F,y1,y2,Xa3 hf X f a H Y,a,H,O,fun t ht=>?_⟩
    have b6:(X6 n (X8 D n r)).length=n.2.1.length:=by rw [X6,aN,cU]
    obtain ⟨v,b,rfl⟩:=hH ht
    have R:v<n.2.1.length:=by omega
    have T:=Zbr hf hs A c R
    rw [Xn b] at T
    have u:=T.len
    obtain ⟨c1,c2,_⟩:=hf.rows R
    rw [Tl] at u
    exact ⟨by omega,fun x g=>(T.ent x g).2.2⟩
end
def Zew (N:Nat) (ab:List Int):Nat→R2→Int→Option R2
  | 0,_,_=>none
  | ae+1,aa,ac=>if (decide (ac<(ab.length:Int)))=true then ((Zl ab ac).bind fun ad=>Z4 ((aa.length+[ad].length) * 8≤140737488355328∧aa.length+[ad].length≤maxLen) ((Zew N ab ae) (aa++[ad]) (i64.wrap (ac+1)))) else (some aa)
termination_by structural x=>x
def Zke (N:Nat) (aa:List Int):Option R2:=
  Zew N aa N ([]:List Int) 0
theorem Zua {N al:Nat} {a0:Option Addr} {col:Zd} {w0:World} {ac r:R2} (c1:Nat) (hm:Zke N ac=some r) (h0:Sl rI col w0 a0 al ac):
    Calls prog 38 #[.slice a0 ac.length al] w0 (fun e w'=>∃ (col':Zd) (ra1:Option Addr) (rc2:Nat),e= .returned ((.slice ra1 r.length rc2))∧Zf col w0 col' w'∧Zb rI 3 c1 col' w' ra1 rc2 r):=by
 refine Xe 2 (m:=19) func38 rfl rfl rfl rfl rfl ?_;rw [Zke.eq_1] at hm;have aa:=St.start col w0;refine go ?_;refine Zv [0,1000000] (fun n f ag=>∃ ad ah ai ae aj ab,ab=n∧Zew N ac ab ae aj=some r∧St w0 (Zj col) ad ag∧Zb rI 3 1 ad ag ah ai ae∧[3,4].map f=[.slice ah ae.length ai,.int .i64 aj]) N ⟨_,none,0,_,0,_,rfl,hm,aa,Zb.nil,rfl⟩ ?_;clear hm;intro n f ag hI;obtain ⟨ad,ah,ai,ae,aj,ab,hn,hm,aa,af,hs⟩:=hI;subst hn;refine .lL [3,4] hs ?_;replace h0:=h0.k0
 cases ab with
 | zero=>rw [Zew.eq_1] at hm;cases hm
 | succ ab=>
  rw [Zew.eq_2] at hm;refine go ?_;refine Zo hm (fun hb hm=>go ?_) fun hb hm=>go ?_
  ·obtain ⟨an,ak,hm⟩:=bZ hm;refine lI ak ((h0.ks aa).addr ak)<|lW ((h0.ks aa).atInt ak)<|Vz (col:=ad) [an] 2 ?_;intro au av aw am ao;obtain ⟨ap,hm⟩:=Z9 hm;replace af:=af.gr am;refine Vy af (ao.srcN (NB.int (k:=.i64))) ap ?_;intro ax ay az a1 aq ar;refine go ?_;replace aa:=(aa.grow am).kpp aq;exact ⟨ab,by omega,rfl,⟨_,_,_,_,_,_,rfl,hm,aa,ar,rfl⟩⟩
  cases hm;exact ⟨rfl,_,_,_,rfl,aa.fin (cm [(1,c1)]),aa.fo af⟩
def Zex (N:Nat) (ab:List Int):Nat→R2→Int→Option R2
  | 0,_,_=>none
  | ae+1,aa,ac=>if (decide (ac<(ab.length:Int)))=true then ((Zl ab ac).bind fun ad=>Z4 ((aa.length+[ad].length) * 4≤140737488355328∧aa.length+[ad].length≤maxLen) ((Zex N ab ae) (aa++[ad]) (i64.wrap (ac+1)))) else (some aa)
termination_by structural x=>x
def Zkf (N:Nat) (aa:List Int):Option R2:=
  Zex N aa N ([]:List Int) 0
theorem Zub {N al:Nat} {a0:Option Addr} {col:Zd} {w0:World} {ac r:R2} (c1:Nat) (hm:Zkf N ac=some r) (h0:Sl rU col w0 a0 al ac):
    Calls prog 206 #[.slice a0 ac.length al] w0 (fun e w'=>∃ (col':Zd) (ra1:Option Addr) (rc2:Nat),e= .returned ((.slice ra1 r.length rc2))∧Zf col w0 col' w'∧Zb rU 95 c1 col' w' ra1 rc2 r):=by
 refine Xe 2 (m:=19) func206 rfl rfl rfl rfl rfl ?_;rw [Zkf.eq_1] at hm;have aa:=St.start col w0;refine go ?_;refine Zv [0,1000000] (fun n f ag=>∃ ad ah ai ae aj ab,ab=n∧Zex N ac ab ae aj=some r∧St w0 (Zj col) ad ag∧Zb rU 95 1 ad ag ah ai ae∧[3,4].map f=[.slice ah ae.length ai,.int .i64 aj]) N ⟨_,none,0,_,0,_,rfl,hm,aa,Zb.nil,rfl⟩ ?_;clear hm;intro n f ag hI;obtain ⟨ad,ah,ai,ae,aj,ab,hn,hm,aa,af,hs⟩:=hI;subst hn;refine .lL [3,4] hs ?_;replace h0:=h0.k0
 cases ab with
 | zero=>rw [Zex.eq_1] at hm;cases hm
 | succ ab=>
  rw [Zex.eq_2] at hm;refine go ?_;refine Zo hm (fun hb hm=>go ?_) fun hb hm=>go ?_
  ·obtain ⟨an,ak,hm⟩:=bZ hm;refine lI ak ((h0.ks aa).addr ak)<|lW ((h0.ks aa).atInt ak)<|Vz (col:=ad) [an] 2 ?_;intro au av aw am ao;obtain ⟨ap,hm⟩:=Z9 hm;replace af:=af.gr am;refine Vy af (ao.srcN (NB.int (k:=.u32))) ap ?_;intro ax ay az a1 aq ar;refine go ?_;replace aa:=(aa.grow am).kpp aq;exact ⟨ab,by omega,rfl,⟨_,_,_,_,_,_,rfl,hm,aa,ar,rfl⟩⟩
  cases hm;exact ⟨rfl,_,_,_,rfl,aa.fin (cm [(1,c1)]),aa.fo af⟩
def Zkg (N:Nat) (aa:R1):Option R1:=
  (Zkf N aa.1.2).bind fun ab=>(Zkf N aa.2).bind fun ac=>some ((aa.1.1,ab),ac)
theorem Z3w {N ao ap:Nat} {aq ar:Option Addr} {col:Zd} {w0:World} {ab r:R1} (c1 c2:Nat) (hm:Zkg N ab=some r) (aj:Sl rU col w0 aq ao ab.1.2) (ak:Sl rU col w0 ar ap ab.2):
    Calls prog 172 #[(.agg #[.bool ab.1.1,.slice aq ab.1.2.length ao,.slice ar ab.2.length ap])] w0 (fun e w'=>∃ (col':Zd) (ra1:Option Addr) (rc2:Nat) (ra4:Option Addr) (rc5:Nat),e= .returned ((.agg #[.bool r.1.1,.slice ra1 r.1.2.length rc2,.slice ra4 r.2.length rc5]))∧Zf col w0 col' w'∧Zb rU 95 c1 col' w' ra1 rc2 r.1.2∧Zb rU 95 c2 col' w' ra4 rc5 r.2):=by
 refine Y5 (m:=15) func172 rfl rfl rfl ?_;rw [Zkg.eq_1] at hm;have aa:=St.start col w0;refine go ?_;refine Xi (col:=(Zj col)) 1 rfl ?_;intro a7 a8 az a0 ae;refine Xk (col:=az) #[.bool false,(nI),(nI)] 2 zeroValue39 ?_;intro a9 ba af au ac;refine go ?_;refine Y8 (col:=af) [(0,1),(1,1),(2,0),(3,1),(4,1),(5,0),(8,1),(9,0),(6,3),(7,1),(10,3),(11,1),(12,2)] (by kernel_rfl) (by kernel_rfl)<|xF ⟨_,_,rfl⟩ ?_;refine xF (Zbq ⟨_,_,rfl⟩) ?_;replace ae:=ae.gr au;refine xW (fun _ hC=>((((ae.atN).part 0 2 _ rfl)).nth (q:=0) rfl).gr (hC.bl af)) ?_;refine xF ⟨_,_,rfl⟩ ?_;refine xF (Zbq ⟨_,_,rfl⟩) ?_;refine xW (fun _ hC=>((((ae.atN).part 0 2 _ rfl)).nth (q:=1) rfl).gr (hC.bl af)) ?_;refine xF ⟨_,_,rfl⟩ ?_;refine xW (fun _ hC=>((ae.atN).nth (q:=2) rfl).gr (hC.bl af)) ?_;refine xe rfl rfl ?_;intro bb hC0;have hC:=hC0.bl af;obtain ⟨av,a1,hm⟩:=bZ hm;replace aa:=((aa.grow a0).grow au).grow hC;refine Zi (Zub 3 a1 (aj.k0.ks aa)) ?_;rintro _ bc ⟨aw,ax,ay,rfl,al,ad⟩;refine ⟨_,rfl,?_⟩;refine Zk<|Xj aw hC0 al<|xu (v:=(.agg #[.bool ab.1.1,.slice ax av.length ay])) rfl rfl (fun _=>Wq (l:=[_,_]) (qs:=[(0,1),(1,1)]) underlying37 zeroValue37 ⟨rfl,sizeOf4,rfl,sizeOf35,trivial⟩ rfl) ?_;refine xe rfl rfl ?_;intro bd hC0;replace ac:=(ac.gr hC).gr al;have hC:=hC0.bl aw;obtain ⟨a2,a3,hm⟩:=bZ hm;replace aa:=(aa.grow al).grow hC;refine Zi (Zub 4 a3 (ak.k0.ks aa)) ?_;rintro _ be ⟨ah,a4,a5,rfl,ai,ag⟩;refine ⟨_,rfl,?_⟩;refine Zk<|Xj ah hC0 ai<|xu (v:=(.agg #[.bool ab.1.1,.slice ax av.length ay,.slice a4 a2.length a5])) rfl rfl (fun _=>Wq (l:=[_,_]) (qs:=[(0,2),(2,1)]) underlying39 zeroValue39 ⟨rfl,sizeOf37,rfl,sizeOf35,trivial⟩ rfl) ?_;refine xe rfl rfl ?_;intro bf hC0;replace ad:=(ad.gr hC).gr ai;replace ac:=(ac.gr hC).gr ai;have hC:=hC0.bl ah;refine Zy (ac.gr hC) ?_;intro bg am a6 an;refine Zk<|xk ah<|Yz ?_;replace aa:=((aa.grow ai).grow hC).kp am a6;replace ad:=(ad.gr hC).kp am;replace ag:=(ag.gr hC).kp am;intro bh hC;replace hC:=hC.bl ah;refine Vd ?_;cases hm;replace aa:=aa.grow hC
 exact ⟨rfl,_,ra (an.gr hC).atN,_,_,_,_,_,rfl,aa.fin (cm [(3,c1),(4,c2)]),aa.fo (ad.gr hC),aa.fo (ag.gr hC)⟩
def Ze2 (N:Nat) (ac:R4):Nat→R4→Int→Option R4
  | 0,_,_=>none
  | af+1,ab,ad=>if (decide (ad<(ac.length:Int)))=true then ((Zl ac ad).bind fun ae=>(Zkg N ((ae.1.1,ae.1.2),ae.2)).bind fun aa=>Z4 ((ab.length+[((aa.1.1,aa.1.2),aa.2)].length) * 56≤140737488355328∧ab.length+[((aa.1.1,aa.1.2),aa.2)].length≤maxLen) ((Ze2 N ac af) (ab++[((aa.1.1,aa.1.2),aa.2)]) (i64.wrap (ad+1)))) else (some ab)
termination_by structural x=>x
def Znm (N:Nat) (aa:R4):Option R4:=
  Ze2 N aa N ([]:List R1) 0
theorem Z3x {N an:Nat} {a0:Option Addr} {col:Zd} {w0:World} {ae r:R4} (c1:Nat) (hm:Znm N ae=some r) (h0:Sl (Za.pair (Za.pair Za.bool (Za.slice rU)) (Za.slice rU)) col w0 a0 an ae):
    Calls prog 118 #[.slice a0 ae.length an] w0 (fun e w'=>∃ (col':Zd) (ra1:Option Addr) (rc2:Nat),e= .returned ((.slice ra1 r.length rc2))∧Zf col w0 col' w'∧Zb (Za.pair (Za.pair Za.bool (Za.row 95 rU)) (Za.row 95 rU)) 39 c1 col' w' ra1 rc2 r):=by
 refine Xe 2 (m:=20) func118 rfl rfl rfl rfl rfl ?_;rw [Znm.eq_1] at hm;have aa:=St.start col w0;refine go ?_;refine Zv [0,1000000] (fun n f ag=>∃ ah ai aj af ak ad,ad=n∧Ze2 N ae ad af ak=some r∧St w0 (Zj col) ah ag∧Zb (Za.pair (Za.pair Za.bool (Za.row 95 rU)) (Za.row 95 rU)) 39 1 ah ag ai aj af∧[3,4].map f=[.slice ai af.length aj,.int .i64 ak]) N ⟨_,none,0,_,0,_,rfl,hm,aa,Zb.nil,rfl⟩ ?_;clear hm;intro n f ag hI;obtain ⟨ah,ai,aj,af,ak,ad,hn,hm,aa,ac,hs⟩:=hI;subst hn;refine .lL [3,4] hs ?_;replace h0:=h0.k0
 cases ad with
 | zero=>rw [Ze2.eq_1] at hm;cases hm
 | succ ad=>
  rw [Ze2.eq_2] at hm;refine go ?_;refine Zo hm (fun hb hm=>go ?_) fun hb hm=>go ?_
  ·obtain ⟨al,am,hm⟩:=bZ hm;refine lI am ((h0.ks aa).addr am) ?_;obtain ⟨_,aw,ax⟩:=(h0.ks aa).atN am;obtain ⟨_,_,rfl,ay,az⟩:=Vr aw;obtain ⟨_,_,rfl,a1,a2⟩:=Vr ay;obtain ⟨rfl,_⟩:=a1;obtain ⟨⟨a3,a4,rfl,a5⟩,_⟩:=a2;obtain ⟨⟨a6,a7,rfl,a8⟩,_⟩:=az;refine lV (.agg #[.bool al.1.1,.slice a3 al.1.2.length a4,.slice a6 al.2.length a7]) (Y9 isAgg39 sizeOf39 rfl rfl ax) ?_;obtain ⟨ab,a9,hm⟩:=bZ hm;refine Zi (Z3w 2 3 a9 a5 a8) ?_;rintro _ bi ⟨ba,ao,ap,aq,ar,rfl,au,bb,bc⟩;refine ⟨_,rfl,?_⟩;have bd:=Yk.join (Yk.joinL (Zai ab.1.1) bb.has) bc.has (by decide) (by decide);replace ac:=ac.gr au;replace ac:=ac.recol 3 2;replace aa:=aa.grow au;replace aa:=aa.recol 3 2 (by decide) (by decide);refine V9 (col:=(Xu 3 2 ba)) (r:=(Za.pair (Za.pair Za.bool (Za.row 95 rU)) (Za.row 95 rU))) (xs:=[((ab.1.1,ab.1.2),ab.2)]) [(.agg #[.bool ab.1.1,.slice ao ab.1.2.length ap,.slice aq ab.2.length ar])] 2 (Wg.cons1 (cs:=[.bool ab.1.1,.slice ao ab.1.2.length ap,.slice aq ab.2.length ar]) bd Rows.nil0) ?_;intro bj bk bm av be;obtain ⟨bf,hm⟩:=Z9 hm;replace ac:=ac.gr av;refine Vy (c:=1) (c2:=2) ac (be.srcC (by decide)) bf ?_;intro bn bo bp bq bg bh;refine go ?_;replace aa:=(aa.grow av).kpp bg;exact ⟨ad,by omega,rfl,⟨_,_,_,_,_,_,rfl,hm,aa,bh,rfl⟩⟩
  cases hm;exact ⟨rfl,_,_,_,rfl,aa.fin (cm [(1,c1)]),aa.fo ac⟩
theorem Z67:Wa prog 9 1 16:=⟨Tryz.t9,_,rfl,rfl,rfl,rfl,rfl⟩
theorem Z6s:Wa prog 22 1 24:=⟨Tryz.t22,_,rfl,rfl,rfl,rfl,rfl⟩
theorem Z6v:Wa prog 33 1 24:=⟨Tryz.t33,_,rfl,rfl,rfl,rfl,rfl⟩
theorem Z6p:Wa prog 114 1 24:=⟨Tryz.t114,_,rfl,rfl,rfl,rfl,rfl⟩
def Zez (N:Nat) (af:R0) (ag:ByteArray) (ah:List ByteArray) (ab:List R3) (ai:List R2) (aj:List R4) (ac:Int) (kk_L2:(ByteArray→R3→Rg→R7→R9→Int→Option R0)):Nat→R3→Int→Option R0
  | 0,_,_=>none
  | al+1,aa,ad=>(Zl af.2.2.1 ac).bind fun ak=>if (decide (ad<(ak.length:Int)))=true then ((Zl ak ad).bind fun ae=>Z4 ((aa.length+([ae]:List ByteArray).length) * 16≤140737488355328∧aa.length+([ae]:List ByteArray).length≤maxLen) ((Zez N af ag ah ab ai aj ac kk_L2 al) (aa++([ae]:List ByteArray)) (i64.wrap (ad+1)))) else (Z4 ((ab.length+[aa].length) * 24≤140737488355328∧ab.length+[aa].length≤maxLen) (kk_L2 ag ah (ab++[aa]) ai aj (i64.wrap (ac+1))))
termination_by structural x=>x
def Ze1 (N:Nat) (ab:R0):Nat→ByteArray→R3→Rg→R7→R9→Int→Option R0
  | 0,_,_,_,_,_,_=>none
  | ai+1,ae,af,ag,ah,aa,ac=>if (decide (ac<(ab.2.2.2.2.length:Int)))=true then ((Zl ab.2.2.2.2 ac).bind fun aj=>(Znm N aj).bind fun ad=>Z4 ((aa.length+[ad].length) * 24≤140737488355328∧aa.length+[ad].length≤maxLen) ((Ze1 N ab ai) ae af ag ah (aa++[ad]) (i64.wrap (ac+1)))) else (some (ae,af,ag,ah,aa))
termination_by structural x=>x
def Ze0 (N:Nat) (aa:R0):Nat→ByteArray→R3→Rg→R7→R9→Int→Option R0
  | 0,_,_,_,_,_,_=>none
  | ai+1,ae,af,ag,ab,ah,ac=>if (decide (ac<(aa.2.2.2.1.length:Int)))=true then ((Zl aa.2.2.2.1 ac).bind fun aj=>(Zke N aj).bind fun ad=>Z4 ((ab.length+[ad].length) * 24≤140737488355328∧ab.length+[ad].length≤maxLen) ((Ze0 N aa ai) ae af ag (ab++[ad]) ah (i64.wrap (ac+1)))) else (Ze1 N aa N ae af ag ab ah 0)
termination_by structural x=>x
def Zby (N:Nat) (aa:R0):Nat→ByteArray→R3→Rg→R7→R9→Int→Option R0
  | 0,_,_,_,_,_,_=>none
  | ah+1,ab,ac,ad,ae,af,ag=>if (decide (ag<(aa.2.2.1.length:Int)))=true then (Zez N aa ab ac ad ae af ag (Zby N aa ah) N ([]:List ByteArray) 0) else (Ze0 N aa N ab ac ad ae af 0)
termination_by structural x=>x
def Zey (N:Nat) (aa:R0):Nat→ByteArray→R3→Rg→R7→R9→Int→Option R0
  | 0,_,_,_,_,_,_=>none
  | ai+1,ae,ab,af,ag,ah,ac=>if (decide (ac<(aa.2.1.length:Int)))=true then ((Zl aa.2.1 ac).bind fun ad=>Z4 ((ab.length+([ad]:List ByteArray).length) * 16≤140737488355328∧ab.length+([ad]:List ByteArray).length≤maxLen) ((Zey N aa ai) ae (ab++([ad]:List ByteArray)) af ag ah (i64.wrap (ac+1)))) else (Zby N aa N ae ab af ag ah 0)
termination_by structural x=>x
def Zbx (N:Nat) (aa:R0):Option R0:=
  Zey N aa N aa.1 ([]:List ByteArray) ([]:List R3) ([]:List R2) ([]:List R4) 0
theorem Zp1 {N bk bm bn bo:Nat} {bp bq br bs:Option Addr} {col:Zd} {w0:World} {ae r:R0} (c1 c2 c3 c4:Nat) (hm:Zbx N ae=some r) (de:Sl Za.str col w0 bp bk ae.2.1) (b3:Sl (Za.slice Za.str) col w0 bq bm ae.2.2.1) (df:Sl (Za.slice rI) col w0 br bn ae.2.2.2.1) (dg:Sl (Za.slice (Za.pair (Za.pair Za.bool (Za.slice rU)) (Za.slice rU))) col w0 bs bo ae.2.2.2.2):
    Calls prog 36 #[(.agg #[.string ae.1,.slice bp ae.2.1.length bk,.slice bq ae.2.2.1.length bm,.slice br ae.2.2.2.1.length bn,.slice bs ae.2.2.2.2.length bo])] w0 (fun e w'=>∃ (col':Zd) (ra1:Option Addr) (rc2:Nat) (ra4:Option Addr) (rc5:Nat) (ra7:Option Addr) (rc8:Nat) (ra10:Option Addr) (rc11:Nat),e= .returned ((.agg #[.string r.1,.slice ra1 r.2.1.length rc2,.slice ra4 r.2.2.1.length rc5,.slice ra7 r.2.2.2.1.length rc8,.slice ra10 r.2.2.2.2.length rc11]))∧Zf col w0 col' w'∧Zb Za.str 9 c1 col' w' ra1 rc2 r.2.1∧Zb (Za.row 9 Za.str) 22 c2 col' w' ra4 rc5 r.2.2.1∧Zb (Za.row 3 rI) 33 c3 col' w' ra7 rc8 r.2.2.2.1∧Zb (Za.row 39 (Za.pair (Za.pair Za.bool (Za.row 95 rU)) (Za.row 95 rU))) 114 c4 col' w' ra10 rc11 r.2.2.2.2):=by
 refine Y5 (m:=101) func36 rfl rfl rfl ?_;rw [Zbx.eq_1] at hm;have aa:=St.start col w0;refine go ?_;refine Xi (col:=(Zj col)) 1 rfl ?_;intro ck gy ft fu ab;refine Xk (col:=ft) #[.string (⟨#[]⟩),.slice none (([]:List ByteArray).length) 0,.slice none (([]:List R3).length) 0,.slice none (([]:List R2).length) 0,(.slice none (([]:List R4).length) 0)] 2 zeroValue27 ?_;intro cl gz fv e9 ac;refine go ?_;refine Yx ⟨_,_,rfl⟩ ?_;replace ab:=ab.gr e9;refine lW ((ab.atN).nth (q:=0) rfl)<|lV (.agg #[.string ae.1,.slice none (([]:List ByteArray).length) 0,.slice none (([]:List R3).length) 0,.slice none (([]:List R2).length) 0,(.slice none (([]:List R4).length) 0)]) (Wq (l:=[_,_,_,_,_]) (qs:=[(0,1),(1,1),(2,1),(3,1),(4,1)]) underlying27 zeroValue27 ⟨rfl,sizeOf9,rfl,sizeOf22,rfl,sizeOf23,rfl,sizeOf24,rfl,sizeOf25,trivial⟩ rfl)<|Xk (col:=fv) #[.string (⟨#[]⟩),.slice none (([]:List ByteArray).length) 0,.slice none (([]:List R3).length) 0,.slice none (([]:List R2).length) 0,(.slice none (([]:List R4).length) 0)] 3 zeroValue27 ?_;intro aw g0 g1 d9 fw;refine Zy fw ?_;intro g2 ea fx ad;refine go ?_;replace aa:=(((aa.grow fu).grow e9).grow d9).kp ea fx;replace ab:=(ab.gr d9).kp ea;replace ac:=(ac.gr d9).kp ea
 refine Zv [1,2,3,1000000] (fun n f ax=>∃ af dh eb ec b4 di dj cn dl dm co dn dp cp ed b5,b5=n∧Zey N ae b5 dh b4 cn co cp ed=some r∧St w0 (Zj col) af ax∧Zg 27 1 af ax ck #[.string ae.1,.slice bp ae.2.1.length bk,.slice bq ae.2.2.1.length bm,.slice br ae.2.2.2.1.length bn,.slice bs ae.2.2.2.2.length bo]∧Zg 27 2 af ax cl #[.string (⟨#[]⟩),.slice none (([]:List ByteArray).length) 0,.slice none (([]:List R3).length) 0,.slice none (([]:List R2).length) 0,(.slice none (([]:List R4).length) 0)]∧Zb Za.str 9 4 af ax eb ec b4∧Zb (Za.row 9 Za.str) 22 5 af ax di dj cn∧Zb (Za.row 3 rI) 33 6 af ax dl dm co∧Zb (Za.row 39 (Za.pair (Za.pair Za.bool (Za.row 95 rU)) (Za.row 95 rU))) 114 7 af ax dn dp cp∧Zg 27 3 af ax aw #[.string dh,.slice eb b4.length ec,.slice di cn.length dj,.slice dl co.length dm,.slice dn cp.length dp]∧[4].map f=[.int .i64 ed]) N ⟨_,_,none,0,_,none,0,_,none,0,_,none,0,_,0,_,rfl,hm,aa,ab,ac,Zb.nil,Zb.nil,Zb.nil,Zb.nil,ad,rfl⟩ ?_;clear hm;intro n f ax hI;obtain ⟨af,dh,eb,ec,b4,di,dj,cn,dl,dm,co,dn,dp,cp,ed,b5,hn,hm,aa,ab,ac,b6,ap,aq,ar,ad,hs⟩:=hI;subst hn;refine .lL [4] hs ?_;replace de:=de.k0;replace b3:=b3.k0;replace df:=df.k0;replace dg:=dg.k0
 cases b5 with
 | zero=>rw [Zey.eq_1] at hm;cases hm
 | succ b5=>
  rw [Zey.eq_2] at hm;refine go ?_;refine Xl ab ?_;refine go ?_;refine Zo hm (fun hb hm=>go ?_) fun hb hm=>go ?_
  ·refine Y8 (col:=af) [(0,1),(1,0),(2,1),(3,0),(4,1),(5,1),(6,0),(7,3),(8,2),(9,1),(10,2)] (by kernel_rfl) (by kernel_rfl)<|xF ⟨_,_,rfl⟩ ?_;refine xW (fun _ hC=>((ad.atN).nth (q:=1) rfl).gr (hC.bl af)) ?_;refine xF ⟨_,_,rfl⟩ ?_;refine xW (fun _ hC=>((ab.atN).nth (q:=1) rfl).gr (hC.bl af)) ?_;refine xu rfl rfl (fun _=>Yq rfl) ?_;obtain ⟨ee,dq,hm⟩:=bZ hm;refine xu rfl rfl (fun _=>Yu underlying22 sizeOf9 rfl rfl (Xa dq).1 (Xa dq).2.1 ((de.ks aa).addr dq)) ?_;refine xW (fun _ hC=>((de.ks aa).gr (hC.bl af)).atStr dq) ?_;refine xe rfl rfl ?_;intro g3 hC0;have hC:=hC0.bl af;refine Zng (col:=af) ([ee]:List ByteArray) 8 ?_;intro g4 g5 ef ay eg;refine Zk<|Xj ef hC0 ay<|xe rfl rfl ?_;intro fy hC0;replace b6:=(b6.gr hC).gr ay;replace ap:=(ap.gr hC).gr ay;replace aq:=(aq.gr hC).gr ay;replace ar:=(ar.gr hC).gr ay;replace ab:=(ab.gr hC).gr ay;replace ac:=(ac.gr hC).gr ay;replace ad:=(ad.gr hC).gr ay;replace aa:=(aa.grow hC).grow ay;have hC:=hC0.bl ef;obtain ⟨fa,hm⟩:=Z9 hm;replace b6:=b6.gr hC;refine Sb (col:=ef) (w:=fy) (r:=Za.str) (c:=4) (c2:=4) (b6.ex) ((eg.gr hC).srcN NB.str) rfl underlying22 Z67 rfl rfl rfl fa.1 fa.2 (by decide) ?_;intro fb fc g6 cq bt eh;refine Zk<|xk cq<|xF ⟨_,_,rfl⟩ ?_;refine xe rfl rfl ?_;intro g7 hC0;replace ap:=(ap.gr hC).kpp bt;replace aq:=(aq.gr hC).kpp bt;replace ar:=(ar.gr hC).kpp bt;replace ab:=(ab.gr hC).kpp bt;replace ac:=(ac.gr hC).kpp bt;replace ad:=(ad.gr hC).kpp bt;replace aa:=(aa.grow hC).kpp bt;have hC:=hC0.bl cq;replace ad:=ad.gr hC;refine Tt (off:=1) (v:=(.slice fb ((b4++([ee]:List ByteArray)).length) fc)) ad sizeOf22 rfl rfl (by intro u hu;simp only [Value.cells,aO,bG,or_false] at hu;subst hu;rfl) rfl rfl ?_;intro fz bu f0 cr;replace cr:Zg 27 3 cq fz aw #[.string dh,.slice fb ((b4++([ee]:List ByteArray)).length) fc,.slice di cn.length dj,.slice dl co.length dm,.slice dn cp.length dp]:=cr;refine Zk<|xk cq ?_;have ei:=((eh.gr hC).kp bu).new;refine Yz ?_;replace ap:=(ap.gr hC).kp bu;replace aq:=(aq.gr hC).kp bu;replace ar:=(ar.gr hC).kp bu;replace ab:=(ab.gr hC).kp bu;replace ac:=(ac.gr hC).kp bu;replace aa:=(aa.grow hC).kp bu f0;intro g8 hC;replace hC:=hC.bl cq;refine go ?_;replace ap:=ap.gr hC;replace aq:=aq.gr hC;replace ar:=ar.gr hC;replace ab:=ab.gr hC;replace ac:=ac.gr hC
   replace aa:=aa.grow hC;exact ⟨b5,by omega,rfl,⟨_,_,_,_,_,_,_,_,_,_,_,_,_,_,_,_,rfl,hm,aa,ab,ac,ei.gr hC,ap,aq,ar,cr.gr hC,rfl⟩⟩
  refine Zv [1,2,3,1000000] (fun n f az=>∃ a0 b7 b8 b9 be ct cu a1 ca cb bf cc cd bg dr bv,bv=n∧Zby N ae bv b7 be a1 bf bg dr=some r∧St w0 (Zj col) a0 az∧Zg 27 1 a0 az ck #[.string ae.1,.slice bp ae.2.1.length bk,.slice bq ae.2.2.1.length bm,.slice br ae.2.2.2.1.length bn,.slice bs ae.2.2.2.2.length bo]∧Zg 27 2 a0 az cl #[.string (⟨#[]⟩),.slice none (([]:List ByteArray).length) 0,.slice none (([]:List R3).length) 0,.slice none (([]:List R2).length) 0,(.slice none (([]:List R4).length) 0)]∧Zb Za.str 9 4 a0 az b8 b9 be∧Zb (Za.row 9 Za.str) 22 5 a0 az ct cu a1∧Zb (Za.row 3 rI) 33 6 a0 az ca cb bf∧Zb (Za.row 39 (Za.pair (Za.pair Za.bool (Za.row 95 rU)) (Za.row 95 rU))) 114 7 a0 az cc cd bg∧Zg 27 3 a0 az aw #[.string b7,.slice b8 be.length b9,.slice ct a1.length cu,.slice ca bf.length cb,.slice cc bg.length cd]∧[5].map f=[.int .i64 dr]) N ⟨_,_,_,_,_,_,_,_,_,_,_,_,_,_,0,_,rfl,hm,aa,ab,ac,b6,ap,aq,ar,ad,rfl⟩ ?_;clear hm;intro n f az hI;obtain ⟨a0,b7,b8,b9,be,ct,cu,a1,ca,cb,bf,cc,cd,bg,dr,bv,hn,hm,aa,ab,ac,a2,a3,a4,a5,ad,hs⟩:=hI;subst hn;refine .lL [5] hs ?_
  cases bv with
  | zero=>rw [Zby.eq_1] at hm;cases hm
  | succ bv=>
   rw [Zby.eq_2] at hm;refine go ?_;refine Xl ab ?_;refine go ?_;refine Zo hm (fun hb hm=>go ?_) fun hb hm=>go ?_
   ·refine Zv [1,2,3,5,1000000] (fun n f au=>∃ al cv cw a6 ej ce,ce=n∧Zez N ae b7 be a1 bf bg dr (Zby N ae bv) ce a6 ej=some r∧St w0 (Zj col) al au∧Zg 27 1 al au ck #[.string ae.1,.slice bp ae.2.1.length bk,.slice bq ae.2.2.1.length bm,.slice br ae.2.2.2.1.length bn,.slice bs ae.2.2.2.2.length bo]∧Zg 27 2 al au cl #[.string (⟨#[]⟩),.slice none (([]:List ByteArray).length) 0,.slice none (([]:List R3).length) 0,.slice none (([]:List R2).length) 0,(.slice none (([]:List R4).length) 0)]∧Zb Za.str 9 4 al au b8 b9 be∧Zb (Za.row 9 Za.str) 22 5 al au ct cu a1∧Zb (Za.row 3 rI) 33 6 al au ca cb bf∧Zb (Za.row 39 (Za.pair (Za.pair Za.bool (Za.row 95 rU)) (Za.row 95 rU))) 114 7 al au cc cd bg∧Zg 27 3 al au aw #[.string b7,.slice b8 be.length b9,.slice ct a1.length cu,.slice ca bf.length cb,.slice cc bg.length cd]∧Zb Za.str 9 9 al au cv cw a6∧[6,7].map f=[.slice cv a6.length cw,.int .i64 ej]) N ⟨_,none,0,_,0,_,rfl,hm,aa,ab,ac,a2,a3,a4,a5,ad,Zb.nil,rfl⟩ ?_;clear hm;intro n f au hI;obtain ⟨al,cv,cw,a6,ej,ce,hn,hm,aa,ab,ac,a2,a3,a4,a5,ad,ds,hs⟩:=hI;subst hn;refine .lL [6,7] hs ?_
    cases ce with
    | zero=>rw [Zez.eq_1] at hm;cases hm
    | succ ce=>
     rw [Zez.eq_2] at hm;refine go ?_;refine Xl ab<|X4 rfl ?_;obtain ⟨g9,cf,hm⟩:=bZ hm;refine lI cf ((b3.ks aa).addr cf) ?_;obtain ⟨_,f1,f2⟩:=(b3.ks aa).atN cf;obtain ⟨⟨ha,hc,rfl,hd⟩,_⟩:=f1;refine lW f2.one<|go ?_;refine Zo hm (fun hb hm=>go ?_) fun hb hm=>go ?_
     ·refine Xl ab<|X4 rfl<|lI cf ((b3.ks aa).addr cf) ?_;obtain ⟨_,f3,f4⟩:=(b3.ks aa).atN cf;obtain ⟨⟨he,hf,rfl,fd⟩,_⟩:=f3;refine lW f4.one<|X4 rfl ?_;obtain ⟨f5,ek,hm⟩:=bZ hm;refine lI ek (fd.addr ek)<|lW (fd.atStr ek)<|Zng (col:=al) ([f5]:List ByteArray) 10 ?_;intro hg hh hi a7 f6;obtain ⟨f7,hm⟩:=Z9 hm;replace ds:=ds.gr a7;refine Vy ds (f6.srcN NB.str) f7 ?_;intro hj hk hl ho bh f8;refine go ?_;replace a2:=(a2.gr a7).kpp bh;replace a3:=(a3.gr a7).kpp bh;replace a4:=(a4.gr a7).kpp bh;replace a5:=(a5.gr a7).kpp bh;replace ab:=(ab.gr a7).kpp bh;replace ac:=(ac.gr a7).kpp bh;replace ad:=(ad.gr a7).kpp bh;replace aa:=(aa.grow a7).kpp bh;exact ⟨ce,by omega,rfl,⟨_,_,_,_,_,_,rfl,hm,aa,ab,ac,a2,a3,a4,a5,ad,f8,rfl⟩⟩
     refine Xl ad<|Y2 rfl<|V9 (col:=al) (r:=(Za.row 9 Za.str)) (xs:=[a6]) [.slice cv a6.length cw] 9 (Wg.cons1 (cs:=[.slice cv a6.length cw]) ds.has Rows.nil0) ?_;intro hp f9 ga bi gb;obtain ⟨fe,hm⟩:=Z9 hm;replace a3:=a3.gr bi;refine Sb (col:=ga) (w:=f9) (r:=(Za.row 9 Za.str)) (c:=5) (c2:=9) (a3.ex) (gb.srcC (by decide)) rfl underlying23 Z6s rfl rfl rfl fe.1 fe.2 (by decide) ?_;intro ff fg hq gc bw el;refine Yx ⟨_,_,rfl⟩ ?_;replace ad:=(ad.gr bi).kpp bw;refine Tt (off:=2) (v:=(.slice ff ((a1++[a6]).length) fg)) ad sizeOf23 rfl rfl (by intro u hu;simp only [Value.cells,aO,bG,or_false] at hu;subst hu;rfl) rfl rfl ?_;intro gd bx ge em;replace em:Zg 27 3 gc gd aw #[.string b7,.slice b8 be.length b9,.slice ff ((a1++[a6]).length) fg,.slice ca bf.length cb,.slice cc bg.length cd]:=em;have gf:=(el.kp bx).new;refine go ?_;replace a2:=((a2.gr bi).kpp bw).kp bx;replace a4:=((a4.gr bi).kpp bw).kp bx;replace a5:=((a5.gr bi).kpp bw).kp bx;replace ab:=((ab.gr bi).kpp bw).kp bx;replace ac:=((ac.gr bi).kpp bw).kp bx;replace aa:=((aa.grow bi).kpp bw).kp bx ge;exact ⟨bv,by omega,rfl,⟨_,_,_,_,_,_,_,_,_,_,_,_,_,_,_,_,rfl,hm,aa,ab,ac,a2,gf,a4,a5,em,rfl⟩⟩
   refine Zv [1,2,3,1000000] (fun n f a8=>∃ ag dt du dv cx dw dx cy en eo cg dy dz cz ep ch,ch=n∧Ze0 N ae ch dt cx cy cg cz ep=some r∧St w0 (Zj col) ag a8∧Zg 27 1 ag a8 ck #[.string ae.1,.slice bp ae.2.1.length bk,.slice bq ae.2.2.1.length bm,.slice br ae.2.2.2.1.length bn,.slice bs ae.2.2.2.2.length bo]∧Zg 27 2 ag a8 cl #[.string (⟨#[]⟩),.slice none (([]:List ByteArray).length) 0,.slice none (([]:List R3).length) 0,.slice none (([]:List R2).length) 0,(.slice none (([]:List R4).length) 0)]∧Zb Za.str 9 4 ag a8 du dv cx∧Zb (Za.row 9 Za.str) 22 5 ag a8 dw dx cy∧Zb (Za.row 3 rI) 33 6 ag a8 en eo cg∧Zb (Za.row 39 (Za.pair (Za.pair Za.bool (Za.row 95 rU)) (Za.row 95 rU))) 114 7 ag a8 dy dz cz∧Zg 27 3 ag a8 aw #[.string dt,.slice du cx.length dv,.slice dw cy.length dx,.slice en cg.length eo,.slice dy cz.length dz]∧[8].map f=[.int .i64 ep]) N ⟨_,_,_,_,_,_,_,_,_,_,_,_,_,_,0,_,rfl,hm,aa,ab,ac,a2,a3,a4,a5,ad,rfl⟩ ?_;clear hm;intro n f a8 hI;obtain ⟨ag,dt,du,dv,cx,dw,dx,cy,en,eo,cg,dy,dz,cz,ep,ch,hn,hm,aa,ab,ac,am,an,bj,ao,ad,hs⟩:=hI;subst hn;refine .lL [8] hs ?_
   cases ch with
   | zero=>rw [Ze0.eq_1] at hm;cases hm
   | succ ch=>
    rw [Ze0.eq_2] at hm;refine go ?_;refine Xl ab ?_;refine go ?_;refine Zo hm (fun hb hm=>go ?_) fun hb hm=>go ?_
    ·refine Y8 (col:=ag) [(0,1),(1,0),(2,1),(3,0),(4,1),(5,1),(6,0),(7,3),(8,3),(9,2),(10,1),(11,2)] (by kernel_rfl) (by kernel_rfl)<|xF ⟨_,_,rfl⟩ ?_;refine xW (fun _ hC=>((ad.atN).nth (q:=3) rfl).gr (hC.bl ag)) ?_;refine xF ⟨_,_,rfl⟩ ?_;refine xW (fun _ hC=>((ab.atN).nth (q:=3) rfl).gr (hC.bl ag)) ?_;refine xu rfl rfl (fun _=>Yq rfl) ?_;obtain ⟨hr,d0,hm⟩:=bZ hm;refine xu rfl rfl (fun _=>Yu underlying24 sizeOf33 rfl rfl (Xa d0).1 (Xa d0).2.1 ((df.ks aa).addr d0)) ?_;obtain ⟨_,gg,gh⟩:=(df.ks aa).atN d0;obtain ⟨⟨ht,hv,rfl,eq⟩,_⟩:=gg;refine xW (fun _ hC=>gh.one.gr (hC.bl ag)) ?_;refine xe rfl rfl ?_;intro hw hC0;have hC:=hC0.bl ag;obtain ⟨c0,gi,hm⟩:=bZ hm;refine Zi (Zua 11 gi (eq.gr hC)) ?_;rintro _ hx ⟨er,fh,fi,rfl,a9,es⟩;refine ⟨_,rfl,?_⟩;refine Zk<|Xj er hC0 a9<|xe rfl rfl ?_;intro hy hC0;replace am:=(am.gr hC).gr a9;replace an:=(an.gr hC).gr a9;replace bj:=(bj.gr hC).gr a9;replace ao:=(ao.gr hC).gr a9;replace ab:=(ab.gr hC).gr a9;replace ac:=(ac.gr hC).gr a9;replace ad:=(ad.gr hC).gr a9;replace aa:=(aa.grow hC).grow a9;have hC:=hC0.bl er;refine V9 (col:=er) (r:=(Za.row 3 rI)) (xs:=[c0]) [.slice fh c0.length fi] 11 (Wg.cons1 (cs:=[.slice fh c0.length fi]) (es.gr hC).has Rows.nil0) ?_;intro hz h0 et ba eu;refine Zk<|Xj et hC0 ba<|xe rfl rfl ?_;intro gj hC0;replace am:=(am.gr hC).gr ba;replace an:=(an.gr hC).gr ba;replace bj:=(bj.gr hC).gr ba;replace ao:=(ao.gr hC).gr ba;replace ab:=(ab.gr hC).gr ba;replace ac:=(ac.gr hC).gr ba;replace ad:=(ad.gr hC).gr ba;replace aa:=(aa.grow hC).grow ba;have hC:=hC0.bl et;obtain ⟨fj,hm⟩:=Z9 hm;replace bj:=bj.gr hC;refine Sb (col:=et) (w:=gj) (r:=(Za.row 3 rI)) (c:=6) (c2:=11) (bj.ex) ((eu.gr hC).srcC (by decide)) rfl underlying24 Z6v rfl rfl rfl fj.1 fj.2 (by decide) ?_;intro fk fl h1 c5 bz ew;refine Zk<|xk c5<|xF ⟨_,_,rfl⟩ ?_;refine xe rfl rfl ?_;intro h2 hC0;replace am:=(am.gr hC).kpp bz;replace an:=(an.gr hC).kpp bz;replace ao:=(ao.gr hC).kpp bz;replace ab:=(ab.gr hC).kpp bz;replace ac:=(ac.gr hC).kpp bz;replace ad:=(ad.gr hC).kpp bz;replace aa:=(aa.grow hC).kpp bz;have hC:=hC0.bl c5;replace ad:=ad.gr hC
     refine Tt (off:=3) (v:=(.slice fk ((cg++[c0]).length) fl)) ad sizeOf24 rfl rfl (by intro u hu;simp only [Value.cells,aO,bG,or_false] at hu;subst hu;rfl) rfl rfl ?_;intro gk b0 gl c6;replace c6:Zg 27 3 c5 gk aw #[.string dt,.slice du cx.length dv,.slice dw cy.length dx,.slice fk ((cg++[c0]).length) fl,.slice dy cz.length dz]:=c6;refine Zk<|xk c5 ?_;have ey:=((ew.gr hC).kp b0).new;refine Yz ?_;replace am:=(am.gr hC).kp b0;replace an:=(an.gr hC).kp b0;replace ao:=(ao.gr hC).kp b0;replace ab:=(ab.gr hC).kp b0;replace ac:=(ac.gr hC).kp b0;replace aa:=(aa.grow hC).kp b0 gl;intro h3 hC;replace hC:=hC.bl c5;refine go ?_;replace am:=am.gr hC;replace an:=an.gr hC;replace ao:=ao.gr hC;replace ab:=ab.gr hC;replace ac:=ac.gr hC;replace aa:=aa.grow hC;exact ⟨ch,by omega,rfl,⟨_,_,_,_,_,_,_,_,_,_,_,_,_,_,_,_,rfl,hm,aa,ab,ac,am,an,ey.gr hC,ao,c6.gr hC,rfl⟩⟩
    refine Zv [1,2,3,1000000] (fun n f bb=>∃ ah d1 d2 d3 c7 d4 d5 c8 d6 d7 c9 ez e0 ci e1 cj,cj=n∧Ze1 N ae cj d1 c7 c8 c9 ci e1=some r∧St w0 (Zj col) ah bb∧Zg 27 1 ah bb ck #[.string ae.1,.slice bp ae.2.1.length bk,.slice bq ae.2.2.1.length bm,.slice br ae.2.2.2.1.length bn,.slice bs ae.2.2.2.2.length bo]∧Zg 27 2 ah bb cl #[.string (⟨#[]⟩),.slice none (([]:List ByteArray).length) 0,.slice none (([]:List R3).length) 0,.slice none (([]:List R2).length) 0,(.slice none (([]:List R4).length) 0)]∧Zb Za.str 9 4 ah bb d2 d3 c7∧Zb (Za.row 9 Za.str) 22 5 ah bb d4 d5 c8∧Zb (Za.row 3 rI) 33 6 ah bb d6 d7 c9∧Zb (Za.row 39 (Za.pair (Za.pair Za.bool (Za.row 95 rU)) (Za.row 95 rU))) 114 7 ah bb ez e0 ci∧Zg 27 3 ah bb aw #[.string d1,.slice d2 c7.length d3,.slice d4 c8.length d5,.slice d6 c9.length d7,.slice ez ci.length e0]∧[9].map f=[.int .i64 e1]) N ⟨_,_,_,_,_,_,_,_,_,_,_,_,_,_,0,_,rfl,hm,aa,ab,ac,am,an,bj,ao,ad,rfl⟩ ?_;clear hm;intro n f bb hI;obtain ⟨ah,d1,d2,d3,c7,d4,d5,c8,d6,d7,c9,ez,e0,ci,e1,cj,hn,hm,aa,ab,ac,ai,aj,ak,av,ad,hs⟩:=hI;subst hn;refine .lL [9] hs ?_
    cases cj with
    | zero=>rw [Ze1.eq_1] at hm;cases hm
    | succ cj=>
     rw [Ze1.eq_2] at hm;refine go ?_;refine Xl ab ?_;refine go ?_;refine Zo hm (fun hb hm=>go ?_) fun hb hm=>go ?_
     ·refine Y8 (col:=ah) [(0,1),(1,0),(2,1),(3,0),(4,1),(5,1),(6,0),(7,3),(8,3),(9,2),(10,1),(11,2)] (by kernel_rfl) (by kernel_rfl)<|xF ⟨_,_,rfl⟩ ?_;refine xW (fun _ hC=>((ad.atN).nth (q:=4) rfl).gr (hC.bl ah)) ?_;refine xF ⟨_,_,rfl⟩ ?_;refine xW (fun _ hC=>((ab.atN).nth (q:=4) rfl).gr (hC.bl ah)) ?_;refine xu rfl rfl (fun _=>Yq rfl) ?_;obtain ⟨h4,d8,hm⟩:=bZ hm;refine xu rfl rfl (fun _=>Yu underlying25 sizeOf114 rfl rfl (Xa d8).1 (Xa d8).2.1 ((dg.ks aa).addr d8)) ?_;obtain ⟨_,gm,gp⟩:=(dg.ks aa).atN d8;obtain ⟨⟨h5,h6,rfl,e2⟩,_⟩:=gm;refine xW (fun _ hC=>gp.one.gr (hC.bl ah)) ?_;refine xe rfl rfl ?_;intro h7 hC0;have hC:=hC0.bl ah;obtain ⟨da,gs,hm⟩:=bZ hm;refine Zi (Z3x 12 gs (e2.gr hC)) ?_;rintro _ h8 ⟨e3,fm,fn,rfl,bc,e4⟩;refine ⟨_,rfl,?_⟩;refine Zk<|Xj e3 hC0 bc<|xe rfl rfl ?_;intro h9 hC0;replace ai:=(ai.gr hC).gr bc;replace aj:=(aj.gr hC).gr bc;replace ak:=(ak.gr hC).gr bc;replace av:=(av.gr hC).gr bc;replace ab:=(ab.gr hC).gr bc;replace ac:=(ac.gr hC).gr bc;replace ad:=(ad.gr hC).gr bc;replace aa:=(aa.grow hC).grow bc;have hC:=hC0.bl e3;refine V9 (col:=e3) (r:=(Za.row 39 (Za.pair (Za.pair Za.bool (Za.row 95 rU)) (Za.row 95 rU)))) (xs:=[da]) [.slice fm da.length fn] 12 (Wg.cons1 (cs:=[.slice fm da.length fn]) (e4.gr hC).has Rows.nil0) ?_;intro ia ib e5 bd e6;refine Zk<|Xj e5 hC0 bd<|xe rfl rfl ?_;intro gt hC0;replace ai:=(ai.gr hC).gr bd;replace aj:=(aj.gr hC).gr bd;replace ak:=(ak.gr hC).gr bd;replace av:=(av.gr hC).gr bd;replace ab:=(ab.gr hC).gr bd;replace ac:=(ac.gr hC).gr bd;replace ad:=(ad.gr hC).gr bd;replace aa:=(aa.grow hC).grow bd;have hC:=hC0.bl e5;obtain ⟨fp,hm⟩:=Z9 hm;replace av:=av.gr hC;refine Sb (col:=e5) (w:=gt) (r:=(Za.row 39 (Za.pair (Za.pair Za.bool (Za.row 95 rU)) (Za.row 95 rU)))) (c:=7) (c2:=12) (av.ex) ((e6.gr hC).srcC (by decide)) rfl underlying25 Z6p rfl rfl rfl fp.1 fp.2 (by decide) ?_;intro fq fr ic db b1 e7;refine Zk<|xk db<|xF ⟨_,_,rfl⟩ ?_;refine xe rfl rfl ?_;intro id hC0;replace ai:=(ai.gr hC).kpp b1;replace aj:=(aj.gr hC).kpp b1;replace ak:=(ak.gr hC).kpp b1;replace ab:=(ab.gr hC).kpp b1;replace ac:=(ac.gr hC).kpp b1
      replace ad:=(ad.gr hC).kpp b1;replace aa:=(aa.grow hC).kpp b1;have hC:=hC0.bl db;replace ad:=ad.gr hC;refine Tt (off:=4) (v:=(.slice fq ((ci++[da]).length) fr)) ad sizeOf25 rfl rfl (by intro u hu;simp only [Value.cells,aO,bG,or_false] at hu;subst hu;rfl) rfl rfl ?_;intro gu b2 gv dc;replace dc:Zg 27 3 db gu aw #[.string d1,.slice d2 c7.length d3,.slice d4 c8.length d5,.slice d6 c9.length d7,.slice fq ((ci++[da]).length) fr]:=dc;refine Zk<|xk db ?_;have e8:=((e7.gr hC).kp b2).new;refine Yz ?_;replace ai:=(ai.gr hC).kp b2;replace aj:=(aj.gr hC).kp b2;replace ak:=(ak.gr hC).kp b2;replace ab:=(ab.gr hC).kp b2;replace ac:=(ac.gr hC).kp b2;replace aa:=(aa.grow hC).kp b2 gv;intro ie hC;replace hC:=hC.bl db;refine go ?_;replace ai:=ai.gr hC;replace aj:=aj.gr hC;replace ak:=ak.gr hC;replace ac:=ac.gr hC;replace aa:=aa.grow hC;exact ⟨cj,by omega,rfl,⟨_,_,_,_,_,_,_,_,_,_,_,_,_,_,_,_,rfl,hm,aa,ab.gr hC,ac,ai,aj,ak,e8.gr hC,dc.gr hC,rfl⟩⟩
     refine lV _ (Z8 isAgg27 sizeOf27 ad)<|Zy ac ?_;intro ig dd gw gx;refine go ?_;cases hm;replace aa:=aa.kp dd gw;exact ⟨rfl,_,ra gx.atN,_,_,_,_,_,_,_,_,_,rfl,aa.fin (cm [(4,c1),(5,c2),(6,c3),(7,c4)]),aa.fo (ai.kp dd),aa.fo (aj.kp dd),aa.fo (ak.kp dd),aa.fo (av.kp dd)⟩
def Ze3 (N:Nat) (ab:R7):Nat→R7→Int→Option R7
  | 0,_,_=>none
  | ae+1,aa,ac=>if (decide (ac<(ab.length:Int)))=true then ((Zl ab ac).bind fun af=>(Zke N af).bind fun ad=>Z4 ((aa.length+[ad].length) * 24≤140737488355328∧aa.length+[ad].length≤maxLen) ((Ze3 N ab ae) (aa++[ad]) (i64.wrap (ac+1)))) else (some aa)
termination_by structural x=>x
def Zhe (N:Nat) (aa:R7):Option R7:=
  Ze3 N aa N ([]:List R2) 0
theorem Zp2 {N am:Nat} {a0:Option Addr} {col:Zd} {w0:World} {ac r:R7} (c1:Nat) (hm:Zhe N ac=some r) (h0:Sl (Za.slice rI) col w0 a0 am ac):
    Calls prog 49 #[.slice a0 ac.length am] w0 (fun e w'=>∃ (col':Zd) (ra1:Option Addr) (rc2:Nat),e= .returned ((.slice ra1 r.length rc2))∧Zf col w0 col' w'∧Zb (Za.row 3 rI) 33 c1 col' w' ra1 rc2 r):=by
 refine Xe 2 (m:=20) func49 rfl rfl rfl rfl rfl ?_;rw [Zhe.eq_1] at hm;have aa:=St.start col w0;refine go ?_;refine Zv [0,1000000] (fun n f af=>∃ ag ah ai ad aj ab,ab=n∧Ze3 N ac ab ad aj=some r∧St w0 (Zj col) ag af∧Zb (Za.row 3 rI) 33 1 ag af ah ai ad∧[3,4].map f=[.slice ah ad.length ai,.int .i64 aj]) N ⟨_,none,0,_,0,_,rfl,hm,aa,Zb.nil,rfl⟩ ?_;clear hm;intro n f af hI;obtain ⟨ag,ah,ai,ad,aj,ab,hn,hm,aa,ae,hs⟩:=hI;subst hn;refine .lL [3,4] hs ?_;replace h0:=h0.k0
 cases ab with
 | zero=>rw [Ze3.eq_1] at hm;cases hm
 | succ ab=>
  rw [Ze3.eq_2] at hm;refine go ?_;refine Zo hm (fun hb hm=>go ?_) fun hb hm=>go ?_
  ·obtain ⟨a4,ak,hm⟩:=bZ hm;refine lI ak ((h0.ks aa).addr ak) ?_;obtain ⟨_,ar,au⟩:=(h0.ks aa).atN ak;obtain ⟨⟨a5,a6,rfl,av⟩,_⟩:=ar;refine lW au.one ?_;obtain ⟨al,aw,hm⟩:=bZ hm;refine Zi (Zua 2 aw av) ?_;rintro _ a7 ⟨ax,an,ao,rfl,ap,ay⟩;refine ⟨_,rfl,?_⟩;refine V9 (col:=ax) (r:=(Za.row 3 rI)) (xs:=[al]) [.slice an al.length ao] 2 (Wg.cons1 (cs:=[.slice an al.length ao]) ay.has Rows.nil0) ?_;intro a8 a9 ba aq az;obtain ⟨a1,hm⟩:=Z9 hm;replace ae:=(ae.gr ap).gr aq;refine Vy (c:=1) (c2:=2) ae (az.srcC (by decide)) a1 ?_;intro bb bc bd be a2 a3;refine go ?_;replace aa:=((aa.grow ap).grow aq).kpp a2;exact ⟨ab,by omega,rfl,⟨_,_,_,_,_,_,rfl,hm,aa,a3,rfl⟩⟩
  cases hm;exact ⟨rfl,_,_,_,rfl,aa.fin (cm [(1,c1)]),aa.fo ae⟩
def Zc7 (N:Nat) (aa:R0):Option Bool:=
  (Zbx N (aa.1,aa.2.1,aa.2.2.1,aa.2.2.2.1,aa.2.2.2.2)).bind fun ab=>(Zf0 N (ab.1,ab.2.1,ab.2.2.1,ab.2.2.2.1,ab.2.2.2.2)).bind fun ac=>some (decide (ac=0))
theorem Zt9 {N ah ai aj ak:Nat} {al am an ao:Option Addr} {col:Zd} {w0:World} {aa:R0} {r:Bool} (hm:Zc7 N aa=some r) (ac:Sl Za.str col w0 al ah aa.2.1) (ad:Sl (Za.slice Za.str) col w0 am ai aa.2.2.1) (ae:Sl (Za.slice rI) col w0 an aj aa.2.2.2.1) (af:Sl (Za.slice (Za.pair (Za.pair Za.bool (Za.slice rU)) (Za.slice rU))) col w0 ao ak aa.2.2.2.2):
    Calls prog 34 #[(.agg #[.string aa.1,.slice al aa.2.1.length ah,.slice am aa.2.2.1.length ai,.slice an aa.2.2.2.1.length aj,.slice ao aa.2.2.2.2.length ak])] w0 (fun e w'=>e= .returned ((.bool r))∧Below w0.heap.size w0 w'):=by
 refine Xe 2 (m:=7) func34 rfl rfl rfl rfl rfl ?_;rw [Zc7.eq_1] at hm;have ab:=St.start col w0;refine go ?_;refine Xi (col:=(Zj col)) 1 rfl ?_;intro a3 a4 a5 aq ar;refine go ?_;refine lV _ (Z8 isAgg27 sizeOf27 ar) ?_;obtain ⟨a6,au,hm⟩:=bZ hm;replace ab:=ab.grow aq;refine Zi (Zp1 2 3 4 5 au (ac.k0.ks ab) (ad.k0.ks ab) (ae.k0.ks ab) (af.k0.ks ab)) ?_;rintro _ av ⟨ap,a7,a8,a9,ba,bb,bc,bd,be,rfl,aw,ax,ay,az,a0⟩;refine ⟨_,rfl,?_⟩;obtain ⟨bf,a1,hm⟩:=bZ hm;refine Zi (Z5h a1 ((((ax.toSlF Zh.str).froz 3).froz 4).froz 5) ((((ay.froz 2).toSlF (Zh.row Zh.str)).froz 4).froz 5) ((((az.froz 2).froz 3).toSlF (Zh.row (Zh.int .i64))).froz 5) ((((a0.froz 2).froz 3).froz 4).toSlF (Zh.row (Zh.pair (Zh.pair Zh.bool (Zh.row (Zh.int .u32))) (Zh.row (Zh.int .u32)))))) ?_;rintro _ a2 ⟨rfl,ag⟩;refine ⟨_,rfl,?_⟩;replace ag:Zf ap av ap a2:=.of_below ag;refine go ?_;cases hm;exact ⟨rfl,rfl,((ab.grow aw).grow ag).below⟩
def Zeu (N:Nat) (aa:R0) (ac:Int):Nat→Int→Int→Option Bool
  | 0,_,_=>none
  | af+1,ad,ab=>if (decide (ab<(aa.2.2.1.length:Int)))=true then ((Zl aa.2.2.1 ab).bind fun ae=>if (decide (ac<(i64.wrap (ad * (ae.length:Int)))))=true then (some false) else ((Zeu N aa ac af) (i64.wrap (ad * (ae.length:Int))) (i64.wrap (ab+1)))) else (some true)
termination_by structural x=>x
def Zha (N:Nat) (aa:R0) (ab:Int):Option Bool:=
  Zeu N aa ab N 1 0
theorem Z3s {N af ag ah ai:Nat} {aj ak al am:Option Addr} {col:Zd} {w0:World} {aa:R0} {an:Int} {r:Bool} (hm:Zha N aa an=some r) (az:Sl Za.str col w0 aj af aa.2.1) (ae:Sl (Za.slice Za.str) col w0 ak ag aa.2.2.1) (a0:Sl (Za.slice rI) col w0 al ah aa.2.2.2.1) (a1:Sl (Za.slice (Za.pair (Za.pair Za.bool (Za.slice rU)) (Za.slice rU))) col w0 am ai aa.2.2.2.2):
    Calls prog 35 #[(.agg #[.string aa.1,.slice aj aa.2.1.length af,.slice ak aa.2.2.1.length ag,.slice al aa.2.2.2.1.length ah,.slice am aa.2.2.2.2.length ai]),.int .i64 an] w0 (fun e w'=>e= .returned ((.bool r))∧Below w0.heap.size w0 w'):=by
 refine Xe 4 (m:=25) func35 rfl rfl rfl rfl rfl ?_;rw [Zha.eq_1] at hm;have ab:=St.start col w0;refine go ?_;refine Xi (col:=(Zj col)) 1 rfl ?_;intro av a2 a3 aw ad;refine go ?_;replace ab:=ab.grow aw;refine Zv [1,2,1000000] (fun n f ao=>∃ ap aq ar ac,ac=n∧Zeu N aa an ac aq ar=some r∧St w0 (Zj col) ap ao∧Zg 27 1 ap ao av #[.string aa.1,.slice aj aa.2.1.length af,.slice ak aa.2.2.1.length ag,.slice al aa.2.2.2.1.length ah,.slice am aa.2.2.2.2.length ai]∧[5,6].map f=[.int .i64 aq,.int .i64 ar]) N ⟨_,1,0,_,rfl,hm,ab,ad,rfl⟩ ?_;clear hm;intro n f ao hI;obtain ⟨ap,aq,ar,ac,hn,hm,ab,ad,hs⟩:=hI;subst hn;refine .lL [5,6] hs ?_;replace ae:=ae.k0
 cases ac with
 | zero=>rw [Zeu.eq_1] at hm;cases hm
 | succ ac=>
  rw [Zeu.eq_2] at hm;refine go ?_;refine Xl ad ?_;refine go ?_;refine Zo hm (fun hb hm=>go ?_) fun hb hm=>go ?_
  ·refine Xl ad<|X4 rfl ?_;obtain ⟨a4,au,hm⟩:=bZ hm;refine lI au ((ae.ks ab).addr au) ?_;obtain ⟨_,ax,ay⟩:=(ae.ks ab).atN au;obtain ⟨⟨a5,a6,rfl,a7⟩,_⟩:=ax;refine lW ay.one<|go ?_;refine Zo hm (fun hb hm=>go ?_) fun hb hm=>go ?_
   ·cases hm;exact ⟨rfl,rfl,ab.below⟩
   exact ⟨ac,by omega,rfl,⟨_,_,_,_,rfl,hm,ab,ad,rfl⟩⟩
  cases hm;exact ⟨rfl,rfl,ab.below⟩
def Zhd (aa:Int) (kk_L2:(Int→Option Bool)) (ab:Bool):Option Bool:=
  if ab=true then (some false) else (kk_L2 (i64.wrap (aa+1)))
def Zbw (N:Nat) (ac:R0) (ad:R7) (ab:Int) (kk_L1:(Int→Option Bool)):Nat→Int→Option Bool
  | 0,_=>none
  | ae+1,aa=>(Zl ad ab).bind fun af=>if (decide (aa<(af.length:Int)))=true then ((Zl af aa).bind fun ag=>if (decide (ag<(-1)))=true then (Zhd aa (Zbw N ac ad ab kk_L1 ae) true) else ((Zl ac.2.2.1 aa).bind fun ah=>Zhd aa (Zbw N ac ad ab kk_L1 ae) (decide ((ah.length:Int)≤ag)))) else (kk_L1 (i64.wrap (ab+1)))
termination_by structural x=>x
def Zaz (N:Nat) (ab:R0) (aa:R7) (ad:Int):Nat→Int→Option Bool
  | 0,_=>none
  | ae+1,ac=>if (decide (ac<(aa.length:Int)))=true then ((Zl aa ac).bind fun af=>if (!decide ((af.length:Int)=(ab.2.1.length:Int)))=true then (some false) else (Zbw N ab aa ac (Zaz N ab aa ad ae) N 0)) else (some (decide ((aa.length:Int)≤ad)))
termination_by structural x=>x
def Zhc (N:Nat) (aa:R0) (ab:R7) (ac:Int):Option Bool:=
  Zaz N aa ab ac N 0
theorem Z3v {N ak al am an a8:Nat} {ao ap aq ar a1:Option Addr} {col:Zd} {w0:World} {aa:R0} {af:R7} {au:Int} {r:Bool} (hm:Zhc N aa af au=some r) (bp:Sl Za.str col w0 ao ak aa.2.1) (aw:Sl (Za.slice Za.str) col w0 ap al aa.2.2.1) (bq:Sl (Za.slice rI) col w0 aq am aa.2.2.2.1) (br:Sl (Za.slice (Za.pair (Za.pair Za.bool (Za.slice rU)) (Za.slice rU))) col w0 ar an aa.2.2.2.2) (h1:Sl (Za.slice rI) col w0 a1 a8 af):
    Calls prog 48 #[(.agg #[.string aa.1,.slice ao aa.2.1.length ak,.slice ap aa.2.2.1.length al,.slice aq aa.2.2.2.1.length am,.slice ar aa.2.2.2.2.length an]),.slice a1 af.length a8,.int .i64 au] w0 (fun e w'=>e= .returned ((.bool r))∧Below w0.heap.size w0 w'):=by
 refine Xe 6 (m:=61) func48 rfl rfl rfl rfl rfl ?_;rw [Zhc.eq_1] at hm;have ab:=St.start col w0;refine go ?_;refine Xi (col:=(Zj col)) 1 rfl ?_;intro ay bs bt bb ac;refine go ?_;replace ab:=ab.grow bb;refine Zv [1,2,3,1000000] (fun n f az=>∃ ah av ag,ag=n∧Zaz N aa af au ag av=some r∧St w0 (Zj col) ah az∧Zg 27 1 ah az ay #[.string aa.1,.slice ao aa.2.1.length ak,.slice ap aa.2.2.1.length al,.slice aq aa.2.2.2.1.length am,.slice ar aa.2.2.2.2.length an]∧[7].map f=[.int .i64 av]) N ⟨_,0,_,rfl,hm,ab,ac,rfl⟩ ?_;clear hm;intro n f az hI;obtain ⟨ah,av,ag,hn,hm,ab,ac,hs⟩:=hI;subst hn;refine .lL [7] hs ?_;replace aw:=aw.k0;replace h1:=h1.k0
 cases ag with
 | zero=>rw [Zaz.eq_1] at hm;cases hm
 | succ ag=>
  rw [Zaz.eq_2] at hm;refine go ?_;refine Zo hm (fun hb hm=>go ?_) fun hb hm=>go ?_
  ·refine Vs (col:=ah) (by kernel_rfl) (by kernel_rfl)<|go ?_;obtain ⟨bu,a0,hm⟩:=bZ hm;refine qI a0 ((h1.ks ab).addr a0) ?_;obtain ⟨_,bc,bd⟩:=(h1.ks ab).atN a0;obtain ⟨⟨bv,bw,rfl,bx⟩,_⟩:=bc;refine qW (fun _ hC=>bd.one.gr (hC.bl ah)) ?_;refine go ?_;refine qF ⟨_,_,rfl⟩ ?_;refine qW (fun _ hC=>((ac.atN).nth (q:=1) rfl).gr (hC.bl ah)) ?_;refine go ?_;refine Wn ?_;intro bz hC;replace hC:=hC.bl ah;replace ac:=ac.gr hC;replace ab:=ab.grow hC;refine Zo hm (fun hb hm=>go ?_) fun hb hm=>go ?_
   ·cases hm;exact ⟨rfl,rfl,ab.below⟩
   refine Zv [1,2,3,7,1000000] (fun n f a2=>∃ ad ax ai,ai=n∧Zbw N aa af av (Zaz N aa af au ag) ai ax=some r∧St w0 (Zj col) ad a2∧Zg 27 1 ad a2 ay #[.string aa.1,.slice ao aa.2.1.length ak,.slice ap aa.2.2.1.length al,.slice aq aa.2.2.2.1.length am,.slice ar aa.2.2.2.2.length an]∧[8].map f=[.int .i64 ax]) N ⟨_,0,_,rfl,hm,ab,ac,rfl⟩ ?_;clear hm;intro n f a2 hI;obtain ⟨ad,ax,ai,hn,hm,ab,ac,hs⟩:=hI;subst hn;refine .lL [8] hs ?_
   cases ai with
   | zero=>rw [Zbw.eq_1] at hm;cases hm
   | succ ai=>
    rw [Zbw.eq_2] at hm;refine go ?_;obtain ⟨b0,ae,hm⟩:=bZ hm;refine lI ae ((h1.ks ab).addr ae) ?_;obtain ⟨_,be,bf⟩:=(h1.ks ab).atN ae;obtain ⟨⟨b1,b2,rfl,b3⟩,_⟩:=be;refine lW bf.one<|go ?_;refine Zo hm (fun hb hm=>?_) fun hb hm=>go ?_
    ·refine Yj<|Zz<|Zgl<|Zz ?_;refine Wp.cutK [1,2,3,7,8,1000000] (fun f a3=>∃ a4 a5,Zhd ax (Zbw N aa af av (Zaz N aa af au ag) ai) a5=some r∧St w0 (Zj col) a4 a3∧Zg 27 1 a4 a3 ay #[.string aa.1,.slice ao aa.2.1.length ak,.slice ap aa.2.2.1.length al,.slice aq aa.2.2.2.1.length am,.slice ar aa.2.2.2.2.length an]∧[56].map f=[.bool a5]) ?_ ?_
     ·intro f a3 hJ;obtain ⟨a4,a5,hm,ab,ac,hs⟩:=hJ;rw [Zhd.eq_1] at hm;refine .lL [56] hs ?_;refine Zo hm (fun hb hm=>go ?_) fun hb hm=>go ?_
      ·cases hm;exact ⟨rfl,rfl,ab.below⟩
      exact ⟨ai,by omega,rfl,⟨_,_,_,rfl,hm,ab,ac,rfl⟩⟩
     refine Vs (col:=ad) (by kernel_rfl) (by kernel_rfl)<|go ?_;refine qI ae ((h1.ks ab).addr ae) ?_;obtain ⟨_,bg,bh⟩:=(h1.ks ab).atN ae;obtain ⟨⟨b4,b5,rfl,a9⟩,_⟩:=bg;refine qW (fun _ hC=>bh.one.gr (hC.bl ad)) ?_;refine go ?_;obtain ⟨bi,aj,hm⟩:=bZ hm;refine qI aj (a9.addr aj)<|qW (fun _ hC=>(a9.gr (hC.bl ad)).atInt aj) ?_;refine go ?_;refine Yr hm (fun a6 hm=>go ?_) fun a6 hm=>go ?_
     ·refine qv (v:=(.bool true)) rfl (fun _ hC=>Ye (congrArg Value.bool a6) rfl) ?_;refine Wn ?_;intro b6 hC;replace hC:=hC.bl ad;replace ac:=ac.gr hC;replace ab:=ab.grow hC;exact ⟨rfl,_,_,hm,ab,ac,rfl⟩
     refine qI ae ((h1.ks ab).addr ae) ?_;refine go ?_;obtain ⟨_,bj,bk⟩:=(h1.ks ab).atN ae;obtain ⟨⟨b7,b8,rfl,ba⟩,_⟩:=bj;refine qW (fun _ hC=>bk.one.gr (hC.bl ad)) ?_;refine go ?_;refine qI aj (ba.addr aj) ?_;refine go ?_;refine qW (fun _ hC=>(ba.gr (hC.bl ad)).atInt aj) ?_;refine go ?_;refine qF ⟨_,_,rfl⟩ ?_;refine go ?_;refine qW (fun _ hC=>((ac.atN).nth (q:=2) rfl).gr (hC.bl ad)) ?_;refine go ?_;obtain ⟨bm,a7,hm⟩:=bZ hm;refine qI a7 ((aw.ks ab).addr a7) ?_;refine go ?_;obtain ⟨_,bn,bo⟩:=(aw.ks ab).atN a7;obtain ⟨⟨b9,ca,rfl,cb⟩,_⟩:=bn;refine qW (fun _ hC=>bo.one.gr (hC.bl ad)) ?_;refine go ?_;refine qv (v:=(.bool (decide ((bm.length:Int)≤bi)))) rfl (fun _ hC=>Yd (congrArg Value.bool a6) rfl) ?_;refine Wn ?_;intro cc hC;replace hC:=hC.bl ad;replace ac:=ac.gr hC;replace ab:=ab.grow hC;exact ⟨rfl,_,_,hm,ab,ac,rfl⟩
    exact ⟨ag,by omega,rfl,⟨_,_,_,rfl,hm,ab,ac,rfl⟩⟩
  cases hm;exact ⟨rfl,rfl,ab.below⟩
def Zet (N:Nat) (aa:R1) (ab:R1):Option Bool:=
  (Zbh N ((aa.1.1,aa.1.2),aa.2) ((ab.1.1,ab.1.2),ab.2)).bind fun ac=>some (decide (ac=0))
theorem Zt8 {N aj ak al am:Nat} {an ao ap aq:Option Addr} {col:Zd} {w0:World} {ab ac:R1} {r:Bool} (hm:Zet N ab ac=some r) (ad:Sl rU col w0 an aj ab.1.2) (ae:Sl rU col w0 ao ak ab.2) (af:Sl rU col w0 ap al ac.1.2) (ag:Sl rU col w0 aq am ac.2):
    Calls prog 39 #[(.agg #[.bool ab.1.1,.slice an ab.1.2.length aj,.slice ao ab.2.length ak]),(.agg #[.bool ac.1.1,.slice ap ac.1.2.length al,.slice aq ac.2.length am])] w0 (fun e w'=>e= .returned ((.bool r))∧Below w0.heap.size w0 w'):=by
 refine Xe 4 (m:=9) func39 rfl rfl rfl rfl rfl ?_;rw [Zet.eq_1] at hm;have aa:=St.start col w0;refine go ?_;refine Xi (col:=(Zj col)) 1 rfl ?_;intro a1 a2 av aw ah;refine Xi (col:=av) 2 rfl ?_;intro a3 ax ar au ay;refine go ?_;refine lV _ (Z8 isAgg39 sizeOf39 (ah.gr au))<|lV _ (Z8 isAgg39 sizeOf39 ay) ?_;obtain ⟨a4,az,hm⟩:=bZ hm;replace aa:=(aa.grow aw).grow au;refine Zi (Zm0 az (ad.k0.ks aa) (ae.k0.ks aa) (af.k0.ks aa) (ag.k0.ks aa)) ?_;rintro _ a0 ⟨rfl,ai⟩;refine ⟨_,rfl,?_⟩;replace ai:Zf ar ax ar a0:=.of_below ai;refine go ?_;cases hm;exact ⟨rfl,rfl,(aa.grow ai).below⟩
def Zg9 (N:Nat) (aa:R1) (ab:R1):Option Bool:=
  (Zbh N ((aa.1.1,aa.1.2),aa.2) ((ab.1.1,ab.1.2),ab.2)).bind fun ac=>some (decide (ac≤0))
theorem Z3r {N aj ak al am:Nat} {an ao ap aq:Option Addr} {col:Zd} {w0:World} {ab ac:R1} {r:Bool} (hm:Zg9 N ab ac=some r) (ad:Sl rU col w0 an aj ab.1.2) (ae:Sl rU col w0 ao ak ab.2) (af:Sl rU col w0 ap al ac.1.2) (ag:Sl rU col w0 aq am ac.2):
    Calls prog 51 #[(.agg #[.bool ab.1.1,.slice an ab.1.2.length aj,.slice ao ab.2.length ak]),(.agg #[.bool ac.1.1,.slice ap ac.1.2.length al,.slice aq ac.2.length am])] w0 (fun e w'=>e= .returned ((.bool r))∧Below w0.heap.size w0 w'):=by
 refine Xe 4 (m:=9) func51 rfl rfl rfl rfl rfl ?_;rw [Zg9.eq_1] at hm;have aa:=St.start col w0;refine go ?_;refine Xi (col:=(Zj col)) 1 rfl ?_;intro a1 a2 av aw ah;refine Xi (col:=av) 2 rfl ?_;intro a3 ax ar au ay;refine go ?_;refine lV _ (Z8 isAgg39 sizeOf39 (ah.gr au))<|lV _ (Z8 isAgg39 sizeOf39 ay) ?_;obtain ⟨a4,az,hm⟩:=bZ hm;replace aa:=(aa.grow aw).grow au;refine Zi (Zm0 az (ad.k0.ks aa) (ae.k0.ks aa) (af.k0.ks aa) (ag.k0.ks aa)) ?_;rintro _ a0 ⟨rfl,ai⟩;refine ⟨_,rfl,?_⟩;replace ai:Zf ar ax ar a0:=.of_below ai;refine go ?_;cases hm;exact ⟨rfl,rfl,(aa.grow ai).below⟩
def Zev (N:Nat) (ab:List Int) (ac:List Int):Nat→Int→Option Bool
  | 0,_=>none
  | ad+1,aa=>if (decide (aa<(ab.length:Int)))=true then ((Zl ab aa).bind fun ae=>(Zl ac aa).bind fun af=>if (!decide (ae=af))=true then (some false) else ((Zev N ab ac ad) (i64.wrap (aa+1)))) else (some true)
termination_by structural x=>x
def Zkc (N:Nat) (aa:List Int) (ab:List Int):Option Bool:=
  if (!decide ((aa.length:Int)=(ab.length:Int)))=true then (some false) else (Zev N aa ab N 0)
theorem Z3t {N ai aj:Nat} {a0 a1:Option Addr} {col:Zd} {w0:World} {ad ae:R2} {r:Bool} (hm:Zkc N ad ae=some r) (h0:Sl rI col w0 a0 ai ad) (h1:Sl rI col w0 a1 aj ae):
    Calls prog 45 #[.slice a0 ad.length ai,.slice a1 ae.length aj] w0 (fun e w'=>e= .returned ((.bool r))∧Below w0.heap.size w0 w'):=by
 refine Xe 4 (m:=26) func45 rfl rfl rfl rfl rfl ?_;rw [Zkc.eq_1] at hm;have aa:=St.start col w0;refine go ?_;replace h0:=h0.k0;replace h1:=h1.k0;refine Zo hm (fun hb hm=>go ?_) fun hb hm=>go ?_
 ·cases hm;exact ⟨rfl,rfl,aa.below⟩
 refine Zv [0,1,1000000] (fun n f ak=>∃ ab af ac,ac=n∧Zev N ad ae ac af=some r∧St w0 (Zj col) ab ak∧[5].map f=[.int .i64 af]) N ⟨_,0,_,rfl,hm,aa,rfl⟩ ?_;clear hm;intro n f ak hI;obtain ⟨ab,af,ac,hn,hm,aa,hs⟩:=hI;subst hn;refine .lL [5] hs ?_
 cases ac with
 | zero=>rw [Zev.eq_1] at hm;cases hm
 | succ ac=>
  rw [Zev.eq_2] at hm;refine go ?_;refine Zo hm (fun hb hm=>go ?_) fun hb hm=>go ?_
  ·refine Vs (col:=ab) (by kernel_rfl) (by kernel_rfl)<|go ?_;obtain ⟨al,ag,hm⟩:=bZ hm;refine qI ag ((h0.ks aa).addr ag)<|qW (fun _ hC=>((h0.ks aa).gr (hC.bl ab)).atInt ag) ?_;refine go ?_;obtain ⟨am,ah,hm⟩:=bZ hm;refine qI ah ((h1.ks aa).addr ah)<|qW (fun _ hC=>((h1.ks aa).gr (hC.bl ab)).atInt ah) ?_;refine go ?_;refine Wn ?_;intro an hC;replace aa:=aa.grow (hC.bl ab);refine Zo hm (fun hb hm=>go ?_) fun hb hm=>go ?_
   ·cases hm;exact ⟨rfl,rfl,aa.below⟩
   exact ⟨ac,by omega,rfl,⟨_,_,_,rfl,hm,aa,rfl⟩⟩
  cases hm;exact ⟨rfl,rfl,aa.below⟩
def Zkd (aa:Int) (kk_L1:(Int→Option Bool)) (ab:Bool):Option Bool:=
  if ab=true then (some false) else (kk_L1 (i64.wrap (aa+1)))
def Zbv (N:Nat) (ab:R0) (ac:R0):Nat→Int→Option Bool
  | 0,_=>none
  | ad+1,aa=>if (decide (aa<(ab.2.1.length:Int)))=true then ((Zl ab.2.2.1 aa).bind fun ae=>(Zl ac.2.2.1 aa).bind fun af=>if (!decide ((ae.length:Int)=(af.length:Int)))=true then (Zkd aa (Zbv N ab ac ad) true) else ((Zl ab.2.2.2.1 aa).bind fun ag=>(Zl ac.2.2.2.1 aa).bind fun ah=>(Zkc N ag ah).bind fun ai=>Zkd aa (Zbv N ab ac ad) (!ai))) else (some true)
termination_by structural x=>x
def Zhb (N:Nat) (aa:R0) (ab:R0):Option Bool:=
  if (!decide ((aa.2.1.length:Int)=(ab.2.1.length:Int)))=true then (some false) else (Zbv N aa ab N 0)
theorem Z3u {N ah ai aj ak al am an ao:Nat} {ap aq ar au av aw ax ay:Option Addr} {col:Zd} {w0:World} {ab ac:R0} {r:Bool} (hm:Zhb N ab ac=some r) (bv:Sl Za.str col w0 ap ah ab.2.1) (az:Sl (Za.slice Za.str) col w0 aq ai ab.2.2.1) (a0:Sl (Za.slice rI) col w0 ar aj ab.2.2.2.1) (bw:Sl (Za.slice (Za.pair (Za.pair Za.bool (Za.slice rU)) (Za.slice rU))) col w0 au ak ab.2.2.2.2) (bx:Sl Za.str col w0 av al ac.2.1) (a1:Sl (Za.slice Za.str) col w0 aw am ac.2.2.1) (a2:Sl (Za.slice rI) col w0 ax an ac.2.2.2.1) (bz:Sl (Za.slice (Za.pair (Za.pair Za.bool (Za.slice rU)) (Za.slice rU))) col w0 ay ao ac.2.2.2.2):
    Calls prog 50 #[(.agg #[.string ab.1,.slice ap ab.2.1.length ah,.slice aq ab.2.2.1.length ai,.slice ar ab.2.2.2.1.length aj,.slice au ab.2.2.2.2.length ak]),(.agg #[.string ac.1,.slice av ac.2.1.length al,.slice aw ac.2.2.1.length am,.slice ax ac.2.2.2.1.length an,.slice ay ac.2.2.2.2.length ao])] w0 (fun e w'=>e= .returned ((.bool r))∧Below w0.heap.size w0 w'):=by
 refine Xe 4 (m:=47) func50 rfl rfl rfl rfl rfl ?_;rw [Zhb.eq_1] at hm;have aa:=St.start col w0;refine go ?_;refine Xi (col:=(Zj col)) 1 rfl ?_;intro bd b0 bh bi ae;refine Xi (col:=bh) 2 rfl ?_;intro be b1 b2 bf af;refine go ?_;refine Yx ⟨_,_,rfl⟩ ?_;replace ae:=ae.gr bf;refine lW ((ae.atN).nth (q:=1) rfl)<|go ?_;refine Xl af ?_;refine go ?_;replace az:=az.k0;replace a0:=a0.k0;replace a1:=a1.k0;replace a2:=a2.k0;replace aa:=(aa.grow bi).grow bf;refine Zo hm (fun hb hm=>go ?_) fun hb hm=>go ?_
 ·cases hm;exact ⟨rfl,rfl,aa.below⟩
 refine Zv [2,3,1000000] (fun n f a3=>∃ ad a4 ag,ag=n∧Zbv N ab ac ag a4=some r∧St w0 (Zj col) ad a3∧Zg 27 1 ad a3 bd #[.string ab.1,.slice ap ab.2.1.length ah,.slice aq ab.2.2.1.length ai,.slice ar ab.2.2.2.1.length aj,.slice au ab.2.2.2.2.length ak]∧Zg 27 2 ad a3 be #[.string ac.1,.slice av ac.2.1.length al,.slice aw ac.2.2.1.length am,.slice ax ac.2.2.2.1.length an,.slice ay ac.2.2.2.2.length ao]∧[5].map f=[.int .i64 a4]) N ⟨_,0,_,rfl,hm,aa,ae,af,rfl⟩ ?_;clear hm;intro n f a3 hI;obtain ⟨ad,a4,ag,hn,hm,aa,ae,af,hs⟩:=hI;subst hn;refine .lL [5] hs ?_
 cases ag with
 | zero=>rw [Zbv.eq_1] at hm;cases hm
 | succ ag=>
  rw [Zbv.eq_2] at hm;refine go ?_;refine Xl ae ?_;refine go ?_;refine Zo hm (fun hb hm=>?_) fun hb hm=>go ?_
  ·refine Yj<|Zz<|Zgl<|Zz ?_;refine Wp.cutK [2,3,5,1000000] (fun f a5=>∃ a6 a7,Zkd a4 (Zbv N ab ac ag) a7=some r∧St w0 (Zj col) a6 a5∧Zg 27 1 a6 a5 bd #[.string ab.1,.slice ap ab.2.1.length ah,.slice aq ab.2.2.1.length ai,.slice ar ab.2.2.2.1.length aj,.slice au ab.2.2.2.2.length ak]∧Zg 27 2 a6 a5 be #[.string ac.1,.slice av ac.2.1.length al,.slice aw ac.2.2.1.length am,.slice ax ac.2.2.2.1.length an,.slice ay ac.2.2.2.2.length ao]∧[46].map f=[.bool a7]) ?_ ?_
   ·intro f a5 hJ;obtain ⟨a6,a7,hm,aa,ae,af,hs⟩:=hJ;rw [Zkd.eq_1] at hm;refine .lL [46] hs ?_;refine Zo hm (fun hb hm=>go ?_) fun hb hm=>go ?_
    ·cases hm;exact ⟨rfl,rfl,aa.below⟩
    exact ⟨ag,by omega,rfl,⟨_,_,_,rfl,hm,aa,ae,af,rfl⟩⟩
   refine Vs (col:=ad) (by kernel_rfl) (by kernel_rfl)<|qF ⟨_,_,rfl⟩ ?_;refine qW (fun _ hC=>((ae.atN).nth (q:=2) rfl).gr (hC.bl ad)) ?_;refine go ?_;obtain ⟨b3,a8,hm⟩:=bZ hm;refine qI a8 ((az.ks aa).addr a8) ?_;obtain ⟨_,bj,bk⟩:=(az.ks aa).atN a8;obtain ⟨⟨b4,b5,rfl,b6⟩,_⟩:=bj;refine qW (fun _ hC=>bk.one.gr (hC.bl ad)) ?_;refine go ?_;refine qF ⟨_,_,rfl⟩ ?_;refine qW (fun _ hC=>((af.atN).nth (q:=2) rfl).gr (hC.bl ad)) ?_;refine go ?_;obtain ⟨b7,a9,hm⟩:=bZ hm;refine qI a9 ((a1.ks aa).addr a9) ?_;obtain ⟨_,bm,bn⟩:=(a1.ks aa).atN a9;obtain ⟨⟨b8,b9,rfl,ca⟩,_⟩:=bm;refine qW (fun _ hC=>bn.one.gr (hC.bl ad)) ?_;refine go ?_;refine Yr hm (fun ba hm=>go ?_) fun ba hm=>go ?_
   ·refine qv (v:=(.bool true)) rfl (fun _ hC=>Ye (congrArg Value.bool ba) rfl) ?_;refine Wn ?_;intro cb hC;replace hC:=hC.bl ad;replace ae:=ae.gr hC;replace af:=af.gr hC;replace aa:=aa.grow hC;exact ⟨rfl,_,_,hm,aa,ae,af,rfl⟩
   refine qF ⟨_,_,rfl⟩ ?_;refine go ?_;refine qW (fun _ hC=>((ae.atN).nth (q:=3) rfl).gr (hC.bl ad)) ?_;refine go ?_;obtain ⟨cc,bb,hm⟩:=bZ hm;refine qI bb ((a0.ks aa).addr bb) ?_;refine go ?_;obtain ⟨_,bo,bp⟩:=(a0.ks aa).atN bb;obtain ⟨⟨cd,ce,rfl,bq⟩,_⟩:=bo;refine qW (fun _ hC=>bp.one.gr (hC.bl ad)) ?_;refine go ?_;refine qF ⟨_,_,rfl⟩ ?_;refine go ?_;refine qW (fun _ hC=>((af.atN).nth (q:=3) rfl).gr (hC.bl ad)) ?_;refine go ?_;obtain ⟨cf,bc,hm⟩:=bZ hm;refine qI bc ((a2.ks aa).addr bc) ?_;refine go ?_;obtain ⟨_,br,bs⟩:=(a2.ks aa).atN bc;obtain ⟨⟨cg,ch,rfl,bt⟩,_⟩:=br;refine qW (fun _ hC=>bs.one.gr (hC.bl ad)) ?_;refine go ?_;obtain ⟨bg,bu,hm⟩:=bZ hm;refine qc (v:=(.bool bg)) rfl (fun _ hC=>⟨_,_,Zgf call45 rfl rfl,(Z3t bu (bq.gr (hC.bl ad)) (bt.gr (hC.bl ad)):).mono fun _ _ h=>⟨h.1,hC.trans (.of_below h.2)⟩⟩) ?_;refine go ?_;refine qv (v:=(.bool (!bg))) rfl (fun _ hC=>Yd (congrArg Value.bool ba) rfl) ?_;refine Wn ?_;intro ci hC;replace hC:=hC.bl ad;replace aa:=aa.grow hC;exact ⟨rfl,_,_,hm,aa,ae.gr hC,af.gr hC,rfl⟩
  cases hm;exact ⟨rfl,rfl,aa.below⟩
section
variable {N:Nat} (hN:1066000000001<N)
include hN
theorem Z2f {a:List Int} (h:a.length≤1066000000000):Zkf N a=some a:=by
 have L:∀ (f i:Nat),i≤a.length→a.length<f+i→Zex N a f (a.take i) (i:Int)=some a:=by
  intro f
  induction f with
  | zero=>intro i b c;omega
  | succ f d=>
   intro i b c
   rw [Zex.eq_2]
   by_cases hi:i<a.length
   ·have:=d (i+1) (by omega) (by omega)
    rw [bH hi] at this
    rw [if_pos (dT (by omega)),Z0 hi,oB,Xf (by simp only [nK,aQ,maxLen];omega),wS (by omega)]
    exact this
   ·rw [if_neg (dF (by omega)),bF (by omega)]
 exact L N 0 (bK _) (by omega)
theorem Z2e {a:List Int} (h:a.length≤1048576):Zke N a=some a:=by
 have L:∀ (f i:Nat),i≤a.length→a.length<f+i→Zew N a f (a.take i) (i:Int)=some a:=by
  intro f
  induction f with
  | zero=>intro i b c;omega
  | succ f d=>
   intro i b c
   rw [Zew.eq_2]
   by_cases hi:i<a.length
   ·have:=d (i+1) (by omega) (by omega)
    rw [bH hi] at this
    rw [if_pos (dT (by omega)),Z0 hi,oB,Xf (by simp only [nK,aQ,maxLen];omega),wS (by omega)]
    exact this
   ·rw [if_neg (dF (by omega)),bF (by omega)]
 exact L N 0 (bK _) (by omega)
theorem Xbl {r:List R2} (h:r.length≤1048576) (hl:∀ l ∈ r,l.length≤1048576):Zhe N r=some r:=by
 have L:∀ (f i:Nat),i≤r.length→r.length<f+i→Ze3 N r f (r.take i) (i:Int)=some r:=by
  intro f
  induction f with
  | zero=>intro i a b;omega
  | succ f c=>
   intro i a b
   rw [Ze3.eq_2]
   by_cases hi:i<r.length
   ·have:=c (i+1) (by omega) (by omega)
    rw [bH hi] at this
    rw [if_pos (dT (by omega)),Z0 hi,oB,Z2e hN (hl _ (aH hi)),oB,Xf (by simp only [nK,aQ,maxLen];omega),wS (by omega)]
    exact this
   ·rw [if_neg (dF (by omega)),bF (by omega)]
 exact L N 0 (bK _) (by omega)
theorem Xbk {t:List QV} (h:t.length≤1048576) (hx:∀ x ∈ t,x.1.2.length≤1066000000000∧x.2.length≤1066000000000):Znm N t=some t:=by
 have L:∀ (f i:Nat),i≤t.length→t.length<f+i→Ze2 N t f (t.take i) (i:Int)=some t:=by
  intro f
  induction f with
  | zero=>intro i b c;omega
  | succ f d=>
   intro i b c
   rw [Ze2.eq_2]
   by_cases hi:i<t.length
   ·have:=d (i+1) (by omega) (by omega)
    have a:=hx _ (aH hi)
    have e:Zkg N ((t[i].1.1,t[i].1.2),t[i].2)=some t[i]:=by
     rw [Zkg,Z2f hN a.1,oB,Z2f hN a.2];rfl
    rw [bH hi] at this
    rw [if_pos (dT (by omega)),Z0 hi,oB,e,oB,Xf (by simp only [nK,aQ,maxLen];omega),wS (by omega)]
    exact this
   ·rw [if_neg (dF (by omega)),bF (by omega)]
 exact L N 0 (bK _) (by omega)
structure Zpu (n:Zq):Prop where
 nm:n.2.1.length≤1048576
 vn:n.2.2.1.length≤1048576
 vl:∀ l ∈ n.2.2.1,l.length≤1048576
 pn:n.2.2.2.1.length≤1048576
 pl:∀ l ∈ n.2.2.2.1,l.length≤1048576
 tn:n.2.2.2.2.length≤1048576
 tl:∀ t ∈ n.2.2.2.2,t.length≤1048576
 tm:∀ t ∈ n.2.2.2.2,∀ x ∈ t,x.1.2.length≤1066000000000∧x.2.length≤1066000000000
variable {n:Zq} (hb:Zpu n)
include hb
theorem Z2k:∀ (f i:Nat),i≤n.2.2.2.2.length→n.2.2.2.2.length<f+i→Ze1 N n f n.1 n.2.1 n.2.2.1 n.2.2.2.1 (n.2.2.2.2.take i) (i:Int)=some n
 | 0,i,b,c=>by omega
 | f+1,i,b,c=>by
  have d:=hb.tn
  rw [Ze1.eq_2]
  by_cases hi:i<n.2.2.2.2.length
  ·have a:=Z2k f (i+1) (by omega) (by omega)
   rw [bH hi] at a
   rw [if_pos (dT (by omega)),Z0 hi,oB,Xbk hN (hb.tl _ (aH hi)) (hb.tm _ (aH hi)),oB,Xf (by simp only [nK,aQ,maxLen];omega),wS (by omega)]
   exact a
  ·rw [if_neg (dF (by omega)),bF (by omega)]
theorem Z2j:∀ (f i:Nat),i≤n.2.2.2.1.length→n.2.2.2.1.length<f+i→Ze0 N n f n.1 n.2.1 n.2.2.1 (n.2.2.2.1.take i) [] (i:Int)=some n
 | 0,i,b,c=>by omega
 | f+1,i,b,c=>by
  have d:=hb.pn
  rw [Ze0.eq_2]
  by_cases hi:i<n.2.2.2.1.length
  ·have a:=Z2j f (i+1) (by omega) (by omega)
   rw [bH hi] at a
   rw [if_pos (dT (by omega)),Z0 hi,oB,Z2e hN (hb.pl _ (aH hi)),oB,Xf (by simp only [nK,aQ,maxLen];omega),wS (by omega)]
   exact a
  ·have e:=hb.tn
   rw [if_neg (dF (by omega)),bF (by omega)]
   exact Z2k hN hb N 0 (bK _) (by omega)
omit hN hb in
theorem Z2i {i:Nat} (hi:i<n.2.2.1.length) (hl:n.2.2.1[i].length≤1048576) (m1:ByteArray) (m2:List ByteArray) (m3:List R3) (m4:List R2) (m5:List (List QV)) (h3:m3.length≤1048576) (h6:n.2.2.1.length≤1048576) (kk:ByteArray→List ByteArray→List R3→List R2→List (List QV)→Int→Option Zq):∀ (f k:Nat),k≤n.2.2.1[i].length→n.2.2.1[i].length<f+k→Zez N n m1 m2 m3 m4 m5 (i:Int) kk f (n.2.2.1[i].take k) (k:Int)=kk m1 m2 (m3++[n.2.2.1[i]]) m4 m5 ((i+1:Nat):Int)
 | 0,k,b,c=>by omega
 | f+1,k,b,c=>by
  rw [Zez.eq_2,Z0 hi,oB]
  by_cases hk:k<n.2.2.1[i].length
  ·have a:=Z2i hi hl m1 m2 m3 m4 m5 h3 h6 kk f (k+1) (by omega) (by omega)
   rw [bH hk] at a
   rw [if_pos (dT (by omega)),Z0 hk,oB,Xf (by simp only [nK,aQ,maxLen];omega),wS (by omega)]
   exact a
  ·rw [if_neg (dF (by omega)),bF (by omega),Xf (by simp only [aQ,maxLen];omega),wS (by omega)]
theorem Z2h:∀ (f i:Nat),i≤n.2.2.1.length→n.2.2.1.length<f+i→Zby N n f n.1 n.2.1 (n.2.2.1.take i) [] [] (i:Int)=some n
 | 0,i,e,g=>by omega
 | f+1,i,e,g=>by
  have a:=hb.vn
  rw [Zby.eq_2]
  by_cases hi:i<n.2.2.1.length
  ·have b:=hb.vl _ (aH hi)
   have c:=Z2h f (i+1) (by omega) (by omega)
   rw [bH hi] at c
   have d:=Z2i (N:=N) hi b n.1 n.2.1 (n.2.2.1.take i) [] [] (by rw [nK];omega) a (Zby N n f) N 0 (bK _) (by omega)
   rw [fL] at d
   rw [if_pos (dT (by omega))]
   exact d.trans c
  ·have j:=hb.pn
   rw [if_neg (dF (by omega)),bF (by omega)]
   exact Z2j hN hb N 0 (bK _) (by omega)
theorem Z2g:∀ (f i:Nat),i≤n.2.1.length→n.2.1.length<f+i→Zey N n f n.1 (n.2.1.take i) [] [] [] (i:Int)=some n
 | 0,i,b,c=>by omega
 | f+1,i,b,c=>by
  have d:=hb.nm
  rw [Zey.eq_2]
  by_cases hi:i<n.2.1.length
  ·have a:=Z2g f (i+1) (by omega) (by omega)
   rw [bH hi] at a
   rw [if_pos (dT (by omega)),Z0 hi,oB,Xf (by simp only [nK,aQ,maxLen];omega),wS (by omega)]
   exact a
  ·have e:=hb.vn
   rw [if_neg (dF (by omega)),bF (by omega)]
   exact Z2h hN hb N 0 (bK _) (by omega)
theorem Z2l:Zbx N n=some n:=by
 have a:=hb.nm
 rw [Zbx]
 exact Z2g hN hb N 0 (bK _) (by omega)
theorem Z2r {e:Int} (h:Zf0 N n=some e):Zc7 N n=some (decide (e=0)):=by
 have a:Zbx N (n.1,n.2.1,n.2.2.1,n.2.2.2.1,n.2.2.2.2)=some n:=Z2l hN hb
 have b:Zf0 N (n.1,n.2.1,n.2.2.1,n.2.2.2.1,n.2.2.2.2)=some e:=h
 rw [Zc7,a,oB,b];rfl
end
/-! how many assignments -/
theorem Zv4 (N:Nat) {n:Zq} (hv:n.2.2.1.length≤1048576) (hl:∀ l ∈ n.2.2.1,0<l.length∧l.length≤1048576):∀ (f i k:Nat),i≤n.2.2.1.length→n.2.2.1.length<f+i→1≤k→k≤300→∃ b,Zeu N n 300 f (k:Int) (i:Int)=some b∧(b=true→k * X5 ((W3 n).drop i)≤300)
 | 0,i,k,d,g,_,_=>by omega
 | f+1,i,k,d,g,j,m=>by
  rw [Zeu.eq_2]
  by_cases hi:i<n.2.2.1.length
  ·obtain ⟨o,p⟩:=hl _ (aH hi)
   have t:k * n.2.2.1[i].length≤300 * 1048576:=iB m p
   have a:1≤k * n.2.2.1[i].length:=jV j o
   have c:i<(W3 n).length:=by rw [W3,aN];exact hi
   have e:(W3 n)[i]=n.2.2.1[i].length:=by simp only [W3,cZ]
   have q:i64.wrap ((k:Int) * (n.2.2.1[i].length:Int))=((k * n.2.2.1[i].length:Nat):Int):=by
    rw [← bV];exact Zw (by omega)
   rw [if_pos (dT (by omega)),Z0 hi,oB,q]
   by_cases h:300<k * n.2.2.1[i].length
   ·rw [if_pos (dT (by omega))]
    exact ⟨false,rfl,fun h=>by cases h⟩
   ·obtain ⟨b,r,s⟩:=Zv4 N hv hl f (i+1) (k * n.2.2.1[i].length) (by omega) (by omega) a (by omega)
    rw [if_neg (dF (by omega)),wS (by omega)]
    refine ⟨b,r,fun hb=>?_⟩
    rw [aJ c,X5,e,← cC]
    exact s hb
  ·rw [if_neg (dF (by omega))]
   exact ⟨true,rfl,fun _=>by rw [cH (by rw [W3,aN];omega),X5];omega⟩
theorem Z7c {N:Nat} {n:Zq} (hN:2000000<N) (hv:n.2.2.1.length≤1048576) (hl:∀ l ∈ n.2.2.1,0<l.length∧l.length≤1048576):∃ b,Zha N n 300=some b∧(b=true→X5 (W3 n)≤300):=by
 obtain ⟨b,c,a⟩:=Zv4 N hv hl N 0 1 (bK _) (by omega) (by omega) (by omega)
 rw [aP,aX] at a
 exact ⟨b,by rw [Zha];exact c,a⟩
/-! which observations may be -/
theorem Z2m {N:Nat} {n:Zq} {r:List R2} {i:Nat} (hi:i<r.length) (hl:r[i].length=n.2.2.1.length) (hb:n.2.2.1.length≤1048576) (hr:r.length≤1048576) (kk:Int→Option Bool):∀ (f v:Nat),v≤r[i].length→r[i].length<f+v→Zbw N n r (i:Int) kk f (v:Int)=if V4 n (r[i].drop v) v=true then kk ((i+1:Nat):Int) else some false
 | 0,v,b,c=>by omega
 | f+1,v,b,c=>by
  rw [Zbw.eq_2,Z0 hi,oB]
  by_cases hv:v<r[i].length
  ·have a:Zl n.2.2.1 (v:Int)=some (n.2.2.1.getD v []):=Wx (l:=n.2.2.1) [] (j:=v) (by omega)
   have e:cnt n v=(n.2.2.1.getD v []).length:=rfl
   have d:=Z2m (N:=N) hi hl hb hr kk f (v+1) (by omega) (by omega)
   rw [if_pos (dT (by omega)),Z0 hv,oB,aJ hv,V4]
   by_cases h3:r[i][v]< -1
   ·rw [if_pos (dT h3),Zhd,if_pos rfl,decide_eq_false (show ¬ -1≤r[i][v] by omega)];rfl
   ·rw [if_neg (dF h3),a,oB,decide_eq_true (show -1≤r[i][v] by omega),Bool.true_and,Zhd]
    by_cases h4:r[i][v]<(cnt n v:Int)
    ·rw [decide_eq_true h4,decide_eq_false (by omega),if_neg (by decide),Bool.true_and,wS (by omega)];exact d
    ·rw [decide_eq_false h4,decide_eq_true (by omega),if_pos rfl];rfl
  ·rw [if_neg (dF (by omega)),aK (by omega),V4,if_pos rfl,wS (by omega)]
theorem Xbj {N:Nat} {n:Zq} {r:List R2} (hv:n.2.2.1.length=n.2.1.length) (hb:n.2.2.1.length≤1048576) (hr:r.length≤1048576) (hN:1048577<N):Zhc N n r 12=some (Ud n r&&decide (r.length≤12)):=by
 have L:∀ (f i:Nat),i≤r.length→r.length<f+i→Zaz N n r 12 f (i:Int)=some (Ud n (r.drop i)&&decide (r.length≤12)):=by
  intro f
  induction f with
  | zero=>intro i c a;omega
  | succ f b=>
   intro i c a
   rw [Zaz.eq_2]
   by_cases hi:i<r.length
   ·have b:=b (i+1) (by omega) (by omega)
    rw [if_pos (dT (by omega)),Z0 hi,oB,aJ hi,Ud,dQ]
    by_cases h:r[i].length=n.2.1.length
    ·have a:=Z2m (N:=N) hi (by omega) hb hr (Zaz N n r 12 f) N 0 (bK _) (by omega)
     rw [aP] at a
     rw [if_neg (by rw [decide_eq_true (by omega)];decide),decide_eq_true h,Bool.true_and]
     refine a.trans ?_
     by_cases h3:V4 n r[i] 0=true
     ·rw [if_pos h3,h3,Bool.true_and];exact b
     ·rw [if_neg h3,Bool.eq_false_iff.2 h3];rfl
    ·rw [if_pos (by rw [decide_eq_false (by omega)];rfl),decide_eq_false h];rfl
   ·rw [if_neg (dF (by omega)),aK (by omega),Ud,lJ,Bool.true_and]
    congr 2
    exact propext (by omega)
 have:=L N 0 (bK _) (by omega)
 rw [aP] at this
 rw [Zhc];exact this
/-! fractions held against one another -/
theorem Z3f {N k l:Nat} {a b:QV} (ha:RV k a) (hb:RV l b) (hr:Z5 N (2 * (k+l+3))):Zet N a b=some (decide (Sg (Zr a) (Zr b)=0)):=by
 have h:Zbh N ((a.1.1,a.1.2),a.2) ((b.1.1,b.1.2),b.2)=_:=Zo6 ha hb hr
 rw [Zet,h];rfl
theorem Z3i {N k l:Nat} {a b:QV} (ha:RV k a) (hb:RV l b) (hr:Z5 N (2 * (k+l+3))):Zg9 N a b=some (decide (Sg (Zr a) (Zr b)≤0)):=by
 have h:Zbh N ((a.1.1,a.1.2),a.2) ((b.1.1,b.1.2),b.2)=_:=Zo6 ha hb hr
 rw [Zg9,h];rfl
theorem Xao {N:Nat} {l:List Int} (hl:l.length≤1048576) (hN:1048577<N):Zkc N l l=some true:=by
 have L:∀ (f i:Nat),i≤l.length→l.length<f+i→Zev N l l f (i:Int)=some true:=by
  intro f
  induction f with
  | zero=>intro i a b;omega
  | succ f c=>
   intro i a b
   rw [Zev.eq_2]
   by_cases hi:i<l.length
   ·rw [if_pos (dT (by omega)),Z0 hi,oB,oB,if_neg (by rw [decide_eq_true rfl];decide),wS (by omega)]
    exact c (i+1) (by omega) (by omega)
   ·rw [if_neg (dF (by omega))]
 rw [Zkc,if_neg (by rw [decide_eq_true rfl];decide)]
 exact L N 0 (bK _) (by omega)
theorem Xav {N:Nat} {n:Zq} (he:n.2.2.1.length=n.2.1.length) (hp:n.2.2.2.1.length=n.2.1.length) (hn:n.2.1.length≤1048576) (hpl:∀ l ∈ n.2.2.2.1,l.length≤1048576) (hN:1048577<N) (T:List (List QV)):Zhb N n (Xz n T)=some true:=by
 have L:∀ (f i:Nat),i≤n.2.1.length→n.2.1.length<f+i→Zbv N n (Xz n T) f (i:Int)=some true:=by
  intro f
  induction f with
  | zero=>intro i b a;omega
  | succ f c=>
   intro i b a
   rw [Zbv.eq_2]
   by_cases hi:i<n.2.1.length
   ·have b:i<n.2.2.1.length:=by omega
    have a:i<n.2.2.2.1.length:=by omega
    rw [if_pos (dT (by omega)),Z0 b,oB]
    show (Zl n.2.2.1 (i:Int)).bind _=_
    rw [Z0 b,oB,if_neg (by rw [decide_eq_true rfl];decide),Z0 a,oB]
    show (Zl n.2.2.2.1 (i:Int)).bind _=_
    rw [Z0 a,oB,Xao (hpl _ (aH a)) hN,oB,Zkd,if_neg (by decide),wS (by omega)]
    exact c (i+1) (by omega) (by omega)
   ·rw [if_neg (dF (by omega))]
 have e:(Xz n T).2.1.length=n.2.1.length:=rfl
 rw [Zhb,e,if_neg (by rw [decide_eq_true rfl];decide)]
 exact L N 0 (bK _) (by omega)
def Zkb (N:Nat) (ab:Int) (ac:Int):Option R1:=
  (Zlg N ab ac).bind fun aa=>some ((aa.1.1.1,aa.1.1.2),aa.1.2)
theorem Zp0 {N:Nat} {col:Zd} {w0:World} {ai aj:Int} {r:R1} (c1 c2:Nat) (hm:Zkb N ai aj=some r):
    Calls prog 43 #[.int .i64 ai,.int .i64 aj] w0 (fun e w'=>∃ (col':Zd) (ra1:Option Addr) (rc2:Nat) (ra4:Option Addr) (rc5:Nat),e= .returned ((.agg #[.bool r.1.1,.slice ra1 r.1.2.length rc2,.slice ra4 r.2.length rc5]))∧Zf col w0 col' w'∧Zb rU 95 c1 col' w' ra1 rc2 r.1.2∧Zb rU 95 c2 col' w' ra4 rc5 r.2):=by
 refine Y5 (m:=14) func43 rfl rfl rfl ?_;rw [Zkb.eq_1] at hm;have ab:=St.start col w0;refine go ?_;refine Xk (col:=(Zj col)) #[.bool false,(nI),(nI)] 1 zeroValue39 ?_;intro a0 a1 ap aq ae;refine go ?_;obtain ⟨aa,ar,hm⟩:=bZ hm;refine Zi (Zuv (col:=ap) 2 3 ar) ?_;rintro _ a2 ⟨au,ak,al,am,an,rfl,ao,af,ag⟩;refine ⟨_,rfl,?_⟩;refine lM (.tuple #[(.agg #[.bool aa.1.1.1,.slice ak aa.1.1.2.length al,.slice am aa.1.2.length an]),.int .i64 aa.2])<|lV (.agg #[.bool aa.1.1.1,.slice ak aa.1.1.2.length al,.slice am aa.1.2.length an]) (Xo rfl rfl)<|lV (.int .i64 aa.2) (Xo rfl rfl)<|Xk (col:=au) #[.bool false,(nI),(nI)] 4 zeroValue39 ?_;intro a3 a4 a5 ac av;refine Zy av ?_;intro a6 ad aw ax;refine go ?_;refine lV _ (Z8 isAgg39 sizeOf39 ax) ?_;refine Zy (((ae.gr ao).gr ac).kp ad) ?_;intro a7 ah ay az;refine go ?_;cases hm;replace ab:=((((ab.grow aq).grow ao).grow ac).kp ad aw).kp ah ay;exact ⟨rfl,_,ra az.atN,_,_,_,_,_,rfl,ab.fin (cm [(2,c1),(3,c2)]),ab.fo (((af.gr ac).kp ad).kp ah),ab.fo (((ag.gr ac).kp ad).kp ah)⟩
def Zkp (aa:List Int):List Rb→Option Bool
  | []=>some true
  | ab :: ac=>(Zl aa ab.1).bind fun ad=>if (!decide (ad=ab.2))=true then (some false) else (Zkp aa ac)
termination_by structural x=>x
def Zrd (aa:List Int) (ab:Rf):Option Bool:=
  Zkp aa ab
theorem Z4f {aj ak:Nat} {a0 a1:Option Addr} {col:Zd} {w0:World} {af:R2} {ab:Rf} {r:Bool} (hm:Zrd af ab=some r) (h0:Sl rI col w0 a0 aj af) (h1:Sl (Za.pair rI rI) col w0 a1 ak ab):
    Calls prog 199 #[.slice a0 af.length aj,.slice a1 ab.length ak] w0 (fun e w'=>e= .returned ((.bool r))∧Below w0.heap.size w0 w'):=by
 refine Xe 4 (m:=22) func199 rfl rfl rfl rfl rfl ?_;rw [Zrd.eq_1] at hm;have aa:=St.start col w0;refine go ?_;refine Zv [0,7,8,1000000] (fun n f al=>∃ ag ac ad,n=ad.length∧ab.drop ac=ad∧Zkp af ad=some r∧St w0 (Zj col) ag al∧[9].map f=[.int .i64 ac]) ab.length ⟨_,0,_,rfl,rfl,hm,aa,rfl⟩ ?_;clear hm;intro n f al hI;obtain ⟨ag,ac,ad,hn,hl,hm,aa,hs⟩:=hI;subst hn;refine .lL [9] hs ?_;replace h0:=h0.k0;replace h1:=h1.k0
 cases ad with
 | nil=>
  have hk:¬ ((ac:Int)<(ab.length:Int)):=by have:=List.drop_eq_nil_iff.1 hl;omega
  have hkb:=decide_eq_false hk;rw [Zkp.eq_1] at hm;refine go ?_;refine X0 (congrArg Value.bool hkb)<|go ?_;cases hm;exact ⟨rfl,rfl,aa.below⟩
 | cons am ao=>
  obtain ⟨ah,ap,aq⟩:=Yf hl;have hk:(ac:Int)<(ab.length:Int):=by omega
  have hkb:=decide_eq_true hk;rw [Zkp.eq_2] at hm;refine go ?_;refine X1 (congrArg Value.bool hkb)<|go ?_;refine lI ah ((h1.ks aa).addr ah) ?_;obtain ⟨_,ar,au⟩:=(h1.ks aa).atN ah;obtain ⟨_,_,rfl,av,aw⟩:=Vr ar;obtain ⟨rfl,_⟩:=av;obtain ⟨rfl,_⟩:=aw;refine lV (.agg #[.int .i64 am.1,.int .i64 am.2]) (Y9 isAgg142 sizeOf142 rfl rfl au)<|Xk (col:=ag) #[.int .i64 0,.int .i64 0] 1 zeroValue142 ?_;intro a3 a4 ae ax ay;refine Zy ay ?_;intro a5 az a2 an;refine go ?_;refine Vs (col:=ae) (by kernel_rfl) (by kernel_rfl)<|go ?_;refine qF ⟨_,_,rfl⟩ ?_;refine qW (fun _ hC=>((an.atN).nth (q:=0) rfl).gr (hC.bl ae)) ?_;obtain ⟨a6,ai,hm⟩:=bZ hm;replace aa:=(aa.grow ax).kp az a2;refine qI ai ((h0.ks aa).addr ai)<|qW (fun _ hC=>((h0.ks aa).gr (hC.bl ae)).atInt ai) ?_;refine qF ⟨_,_,rfl⟩ ?_;refine qW (fun _ hC=>((an.atN).nth (q:=1) rfl).gr (hC.bl ae)) ?_;refine go ?_;refine Wn ?_;intro a7 hC;replace aa:=aa.grow (hC.bl ae);refine Zo hm (fun hb hm=>go ?_) fun hb hm=>go ?_
  ·cases hm;exact ⟨rfl,rfl,aa.below⟩
  exact ⟨ao.length,by simp,rfl,⟨_,_,_,rfl,ap,hm,aa,(Yl (congrArg (Value.int .i64) (Yi (Nat.lt_of_lt_of_le aq (h1.ks aa).1.1))) rfl)⟩⟩
def Zht (N:Nat) (ae:Rf):List Rh→Bool→R2→R2→Option R1
  | [],aa,ab,ac=>some ((aa,ab),ac)
  | ad :: ag,aa,ab,ac=>(Zrd ad.1 ae).bind fun ah=>if ah=true then ((Sr N ((aa,ab),ac) ((ad.2.1.1,ad.2.1.2),ad.2.2)).bind fun af=>(Zht N ae ag) af.1.1 af.1.2 af.2) else ((Zht N ae ag) aa ab ac)
termination_by structural x=>x
def Zre (N:Nat) (aa:R0) (ac:Rf):Option R1:=
  (Zb2 N ([]:List R1)).bind fun ab=>(Zq8 N (aa.1,aa.2.1,aa.2.2.1,aa.2.2.2.1,aa.2.2.2.2)).bind fun ad=>Zht N ac ad ab.1.1 ab.1.2 ab.2
theorem Z4g {N be bf bg bh a5:Nat} {bi bj bk bm a1:Option Addr} {col:Zd} {w0:World} {ad:R0} {ao:Rf} {r:R1} (c1 c2:Nat) (hm:Zre N ad ao=some r) (bn:Sl Za.str col w0 bi be ad.2.1) (bo:Sl (Za.slice Za.str) col w0 bj bf ad.2.2.1) (bp:Sl (Za.slice rI) col w0 bk bg ad.2.2.2.1) (bq:Sl (Za.slice (Za.pair (Za.pair Za.bool (Za.slice rU)) (Za.slice rU))) col w0 bm bh ad.2.2.2.2) (h1:Sl (Za.pair rI rI) col w0 a1 a5 ao):
    Calls prog 167 #[(.agg #[.string ad.1,.slice bi ad.2.1.length be,.slice bj ad.2.2.1.length bf,.slice bk ad.2.2.2.1.length bg,.slice bm ad.2.2.2.2.length bh]),.slice a1 ao.length a5] w0 (fun e w'=>∃ (col':Zd) (ra1:Option Addr) (rc2:Nat) (ra4:Option Addr) (rc5:Nat),e= .returned ((.agg #[.bool r.1.1,.slice ra1 r.1.2.length rc2,.slice ra4 r.2.length rc5]))∧Zf col w0 col' w'∧Zb rU 95 c1 col' w' ra1 rc2 r.1.2∧Zb rU 95 c2 col' w' ra4 rc5 r.2):=by
 refine Zu4 (m:=20) (args:=[(.agg #[.string ad.1,.slice bi ad.2.1.length be,.slice bj ad.2.2.1.length bf,.slice bk ad.2.2.2.1.length bg,.slice bm ad.2.2.2.2.length bh]),.slice a1 ao.length a5]) func167 rfl rfl rfl ?_;rw [Zre.eq_1] at hm;have aa:=St.start col w0;replace h1:=h1.k0;have hmk:Y0 499 (Zj col) w0 []:=.nil;refine go ?_;refine Xi (col:=(Zj col)) 1 rfl ?_;intro c8 c9 cc br bs;refine Zc4 (col:=cc) (v:=(.slice a1 ao.length a5)) 2 rfl rfl ?_;intro b3 cd b4 bb ab;replace ab:Zg 143 2 b4 cd b3 #[.slice a1 ao.length a5]:=ab;refine Xk (col:=b4) #[.bool false,(nI),(nI)] 3 zeroValue39 ?_;intro ce da cf a9 ac;refine go ?_;obtain ⟨bt,cg,hm⟩:=bZ hm;refine Zi (Zms (col:=cf) 4 5 cg Sl.nil) ?_;rintro _ db ⟨ch,ci,cj,ck,cl,rfl,a7,bu,bv⟩;refine ⟨_,rfl,?_⟩;refine Xk (col:=ch) #[.bool false,(nI),(nI)] 6 zeroValue39 ?_;intro cn dc dd au co;refine Zy co ?_;intro de av cp ae;refine go ?_;refine lV _ (Z8 isAgg27 sizeOf27 (((((bs.gr bb).gr a9).gr a7).gr au).kp av)) ?_;obtain ⟨cq,cr,hm⟩:=bZ hm;replace aa:=(((((aa.grow br).grow bb).grow a9).grow a7).grow au).kp av cp;refine Zi (Z4a 7 cr (bn.k0.ks aa) (bo.k0.ks aa) (bp.k0.ks aa) (bq.k0.ks aa)) ?_;rintro _ df ⟨cs,dg,rfl,aw,ct⟩;refine ⟨_,rfl,go ?_⟩;replace h1:=((((((h1.gr br).gr bb).gr a9).gr a7).gr au).kp av).gr aw;replace hmk:=((((((hmk.gr br).gr bb).gr a9).gr a7).gr au).kp av).gr aw;replace ab:=((((ab.gr a9).gr a7).gr au).kp av).gr aw;replace ac:=(((ac.gr a7).gr au).kp av).gr aw;replace ae:=ae.gr aw;replace aa:=aa.grow aw
 refine Zmc (psl:=[11,12]) (arr:=(fun (y:List Int×R1) (col:Zd) (w:World) (args:List Value)=>∃ (a0:Option Addr) (b5:Nat) (a1_0_1:Option Addr) (c1_0_1:Nat) (b6:Option Addr) (b7:Nat),args=[.slice a0 y.1.length b5,.agg #[.bool y.2.1.1,.slice a1_0_1 y.2.1.2.length c1_0_1,.slice b6 y.2.2.length b7]]∧Zb rI 3 7 col w a0 b5 y.1∧Sl rU col w a1_0_1 c1_0_1 y.2.1.2∧Sl rU col w b6 b7 y.2.2)) (ys:=cq) (col:=cs) 498 rfl ct rfl hmk rfl rfl (by rintro _ _ _ _ ⟨_,_,_,_,_,_,rfl,_⟩;rfl) (fun ys_ ag al=>∃ (a6:Bool) (ax:Option Addr) (ay:Nat) (az:List Int) (a2:Option Addr) (a3:Nat) (a4:List Int),Zht N ao ys_ a6 az a4=some r∧St w0 (Zj col) ag al∧Sl (Za.pair rI rI) ag al a1 a5 ao∧Zg 143 2 ag al b3 #[.slice a1 ao.length a5]∧Zg 39 3 ag al ce #[.bool false,(nI),(nI)]∧Zb rU 95 4 ag al ax ay az∧Zb rU 95 5 ag al a2 a3 a4∧Zg 39 6 ag al cn #[.bool a6,.slice ax az.length ay,.slice a2 a4.length a3]) (fun _ _ _=>False) ?_ ?_ ⟨bt.1.1,ci,cj,bt.1.2,ck,cl,bt.2,hm,aa,h1,ab,ac,((bu.gr au).kp av).gr aw,((bv.gr au).kp av).gr aw,ae⟩ ?_ ?_ ?_
 ·intro ys_ ag al col2_ w2_ hJ hk;obtain ⟨a6,ax,ay,az,a2,a3,a4,hm,aa,h1,ab,ac,am,an,ae⟩:=hJ;exact ⟨a6,ax,ay,az,a2,a3,a4,hm,aa.kpp hk rfl rfl,h1.kpp hk rfl,ab.kpp hk rfl,ac.kpp hk rfl,am.kpp hk rfl rfl,an.kpp hk rfl rfl,ae.kpp hk rfl⟩
 ·intro _ _ _ _ _ h _;exact h
 ·intro dh di dj dl dm ag al args hJ hrec hmk harr;obtain ⟨a6,ax,ay,az,a2,a3,a4,hm,aa,h1,ab,ac,am,an,ae⟩:=hJ;rw [Zht.eq_2] at hm;have hki:=Zt.refl (pC 2) ag al;obtain ⟨dn,dp,dq,dr,ds,dt,rfl,bw,bx,bz⟩:=harr;refine go ?_;refine Xk (col:=ag) #[.bool false,(nI),(nI)] 8 zeroValue39 ?_;intro du dv a8 ah cu;refine Zy cu ?_;intro dw ai b8 b0;refine Zk ?_;replace hrec:=(hrec.gr ah).kp ai;refine ⟨_,hrec,?_⟩;intro cv dx aj b9 hrec2;have hrec:=hrec2;refine go ?_;replace ab:=((ab.gr ah).kp ai).kp aj;refine lW ab.at1 ?_;obtain ⟨dy,cw,hm⟩:=bZ hm;replace h1:=((h1.gr ah).kp ai).kp aj;refine Zi (Z4f cw ((((bw.gr ah).kp ai).kp aj).toSlF (Zh.int .i64)) (h1.froz 7)) ?_;rintro _ ca ⟨rfl,af⟩;refine ⟨_,rfl,?_⟩;replace af:Zf a8 cv a8 ca:=.of_below af;refine Zk ?_;replace am:=(((am.gr ah).kp ai).kp aj).gr af;replace an:=(((an.gr ah).kp ai).kp aj).gr af;replace ac:=(((ac.gr ah).kp ai).kp aj).gr af;replace ae:=(((ae.gr ah).kp ai).kp aj).gr af;replace hmk:=(((hmk.gr ah).kp ai).kp aj).gr af;replace hki:=(((hki.gr ah).kp ai b8 rfl).kp aj b9 rfl).gr af;replace aa:=(((aa.grow ah).kp ai b8).kp aj b9).grow af;replace h1:=h1.gr af;replace ab:=ab.gr af;replace hrec:=hrec.gr af;refine Zo hm (fun hb hm=>?_) fun hb hm=>?_
  ·refine Ve<|lV _ (Z8 isAgg39 sizeOf39 ae)<|lV _ (Z8 isAgg39 sizeOf39 ((b0.kp aj).gr af)) ?_;obtain ⟨b1,cx,hm⟩:=bZ hm;refine Zi (Zgw 9 10 cx ((am.toSlF (Zh.int .u32)).froz 5) ((an.froz 4).toSlF (Zh.int .u32)) ((((((bx.gr ah).kp ai).kp aj).gr af).froz 4).froz 5) ((((((bz.gr ah).kp ai).kp aj).gr af).froz 4).froz 5)) ?_;rintro _ dz ⟨cy,cz,c0,c3,c4,rfl,ak,ap,aq⟩;refine ⟨_,rfl,?_⟩;replace ap:=ap.thaw (Z1 .u32) ak (((Fz.refl (col:=a8)).froz 4).froz 5);replace aq:=aq.thaw (Z1 .u32) ak (((Fz.refl (col:=a8)).froz 4).froz 5);replace ak:=ak.thawR (col:=a8);generalize Xc ca.heap.size a8 cy=d0 at *;replace ae:=ae.gr ak;refine Zy ae ?_;intro d1 ar cb ba;refine Zk ?_;replace h1:=(h1.gr ak).kp ar;replace h1:=h1.recol 9 4;replace ap:=ap.kp ar;replace ap:=ap.recolSelf 4 (by decide);replace aq:=aq.kp ar;replace aq:=aq.recol 9 4;replace ab:=(ab.gr ak).kp ar;replace ab:=ab.recol 9 4;replace ac:=(ac.gr ak).kp ar;replace ac:=ac.recol 9 4;replace ba:=ba.recol 9 4;replace hrec:=(hrec.gr ak).kp ar;replace hrec:=hrec.recol 9 4;replace hmk:=(hmk.gr ak).kp ar;replace hmk:=hmk.recol 9 4 (by decide);replace hki:=(hki.gr ak).kp ar cb rfl;replace hki:=hki.recol 9 4 rfl;replace aa:=(aa.grow ak).kp ar cb;replace aa:=aa.recol 9 4 (by decide) (by decide);replace h1:=h1.recol 10 5;replace aq:=aq.recolSelf 5 (by decide);replace ab:=ab.recol 10 5;replace ac:=ac.recol 10 5;replace hrec:=hrec.recol 10 5;replace hmk:=hmk.recol 10 5 (by decide);replace hki:=hki.recol 10 5 rfl;replace aa:=aa.recol 10 5 (by decide) (by decide);exact ⟨_,hki,⟨b1.1.1,cz,c0,b1.1.2,c3,c4,b1.2,hm,aa,h1,ab,ac,ap.recol 10 5,aq,ba.recol 10 5⟩,hrec,hmk⟩
  refine Yj ?_;exact ⟨_,hki,⟨a6,ax,ay,az,a2,a3,a4,hm,aa,h1,ab,ac,am,an,ae⟩,hrec,hmk⟩
 ·intro c5 ag al hJ hmk;obtain ⟨a6,ax,ay,az,a2,a3,a4,hm,aa,h1,ab,ac,am,an,ae⟩:=hJ;rw [Zht.eq_1] at hm;refine go ?_;refine lV _ (Z8 isAgg39 sizeOf39 ae)<|Zy ac ?_;intro d2 bc c6 b2;refine go ?_;cases hm;refine ⟨_,(c5 :: []),rfl,hmk.kp bc,?_⟩;intro d3 bd c7;replace aa:=(aa.kp bc c6).kp bd c7;exact ⟨_,Z0c rfl rfl isAgg39 sizeOf39 rfl rfl (b2.kp bd).atN,V7 w0.heap.size col ag (fun n=>bif aI n 4 then c1 else bif aI n 5 then c2 else 0),ax,ay,a2,a3,rfl,aa.fin (fun n=>bif aI n 4 then c1 else bif aI n 5 then c2 else 0),aa.finOwn (g:=(fun n=>bif aI n 4 then c1 else bif aI n 5 then c2 else 0)) rfl ((am.kp bc).kp bd) (by decide) (by decide) rfl,aa.finOwn (g:=(fun n=>bif aI n 4 then c1 else bif aI n 5 then c2 else 0)) rfl ((an.kp bc).kp bd) (by decide) (by decide) rfl⟩
 intro _ _ _ _ h;exact h.elim
def Zrb (N:Nat) (aa:R0) (ac:Rf):Option (R1×Int):=
  (Znp N (aa.1,aa.2.1,aa.2.2.1,aa.2.2.2.1,aa.2.2.2.2) ac ([]:List Int)).bind fun ad=>if (!decide (ad.2=0))=true then (some (((false,([]:List Int)),([]:List Int)),ad.2)) else ((Zre N (aa.1,aa.2.1,aa.2.2.1,aa.2.2.2.1,aa.2.2.2.2) ac).bind fun ab=>some (((ab.1.1,ab.1.2),ab.2),0))
theorem Z4d {N ao ap aq ar au:Nat} {av aw ax ay a1:Option Addr} {col:Zd} {w0:World} {ab:R0} {aj:Rf} {r:(R1×Int)} (c1 c2:Nat) (hm:Zrb N ab aj=some r) (ae:Sl Za.str col w0 av ao ab.2.1) (af:Sl (Za.slice Za.str) col w0 aw ap ab.2.2.1) (ag:Sl (Za.slice rI) col w0 ax aq ab.2.2.2.1) (ah:Sl (Za.slice (Za.pair (Za.pair Za.bool (Za.slice rU)) (Za.slice rU))) col w0 ay ar ab.2.2.2.2) (h1:Sl (Za.pair rI rI) col w0 a1 au aj):
    Calls prog 116 #[(.agg #[.string ab.1,.slice av ab.2.1.length ao,.slice aw ab.2.2.1.length ap,.slice ax ab.2.2.2.1.length aq,.slice ay ab.2.2.2.2.length ar]),.slice a1 aj.length au] w0 (fun e w'=>∃ (col':Zd) (ra1:Option Addr) (rc2:Nat) (ra4:Option Addr) (rc5:Nat),e= .returned (.tuple #[(.agg #[.bool r.1.1.1,.slice ra1 r.1.1.2.length rc2,.slice ra4 r.1.2.length rc5]),.int .i64 r.2])∧Zf col w0 col' w'∧Zb rU 95 c1 col' w' ra1 rc2 r.1.1.2∧Zb rU 95 c2 col' w' ra4 rc5 r.1.2):=by
 refine Y5 (m:=21) func116 rfl rfl rfl ?_;rw [Zrb.eq_1] at hm;have aa:=St.start col w0;refine go ?_;refine Xi (col:=(Zj col)) 1 rfl ?_;intro bd be a4 a5 ac;refine Xk (col:=a4) #[.bool false,(nI),(nI)] 2 zeroValue39 ?_;intro bf bg bh az ad;refine go ?_;replace ac:=ac.gr az;refine lV _ (Z8 isAgg27 sizeOf27 ac)<|Y2 rfl ?_;obtain ⟨ai,a6,hm⟩:=bZ hm;replace ae:=ae.k0;replace af:=af.k0;replace ag:=ag.k0;replace ah:=ah.k0;replace h1:=h1.k0;replace aa:=(aa.grow a5).grow az;refine Zi (Zuf 3 a6 (ae.ks aa) (af.ks aa) (ag.ks aa) (ah.ks aa) (h1.ks aa) Sl.nil) ?_;rintro _ bi ⟨bj,a0,a2,rfl,ak,bk⟩;refine ⟨_,rfl,?_⟩;refine lM (.tuple #[.slice a0 ai.1.length a2,.int .i64 ai.2])<|lV (.slice a0 ai.1.length a2) (Xo rfl rfl)<|lV (.int .i64 ai.2) (Xo rfl rfl)<|go ?_;replace ad:=ad.gr ak;replace aa:=aa.grow ak;refine Zo hm (fun hb hm=>go ?_) fun hb hm=>go ?_
 ·refine lV (.agg #[.bool false,(nI),(nI)]) (Wq (l:=[_,_]) (qs:=[(0,2),(2,1)]) underlying39 zeroValue39 ⟨rfl,sizeOf37,rfl,sizeOf35,trivial⟩ rfl)<|X4 rfl<|Zy ad ?_;intro bm a7 a8 a9;refine go ?_;cases hm;replace aa:=aa.kp a7 a8;exact ⟨rfl,_,V3 a9.atN,_,none,0,none,0,rfl,aa.fin (cm []),Zb.nil,Zb.nil⟩
 refine lV _ (Z8 isAgg27 sizeOf27 (ac.gr ak))<|Y2 rfl ?_;obtain ⟨bn,ba,hm⟩:=bZ hm;refine Zi (Z4g 4 5 ba (ae.ks aa) (af.ks aa) (ag.ks aa) (ah.ks aa) (h1.ks aa)) ?_;rintro _ bo ⟨bp,bq,br,bs,bt,rfl,a3,al,am⟩;refine ⟨_,rfl,?_⟩;refine Zy (ad.gr a3) ?_;intro bu an bb bc;refine go ?_;cases hm;replace aa:=(aa.grow a3).kp an bb;exact ⟨rfl,_,V3 bc.atN,_,_,_,_,_,rfl,aa.fin (cm [(4,c1),(5,c2)]),aa.fo (al.kp an),aa.fo (am.kp an)⟩
def Znl (aa:Bool):Option Bool:=
  some aa
def Zq7 (N:Nat):Option Bool:=
  (Zkb N 1 3).bind fun ab=>(Zkb N 2 3).bind fun ac=>(Zrb N (⟨#[99]⟩,([⟨#[99]⟩]:List ByteArray),([([⟨#[104]⟩,⟨#[116]⟩]:List ByteArray)]:List R3),[([]:List Int)],[[((ab.1.1,ab.1.2),ab.2),((ac.1.1,ac.1.2),ac.2)]]) [(0,1)]).bind fun aa=>if (decide (aa.2=0))=true then ((Zkb N 2 3).bind fun ad=>(Zet N ((aa.1.1.1,aa.1.1.2),aa.1.2) ((ad.1.1,ad.1.2),ad.2)).bind fun ae=>Znl ae) else (Znl false)
theorem Z3q (N:Nat) (col:Zd) (w0:World) (r:Bool) (hm:Zq7 N=some r):
    Calls prog 33 #[] w0 (fun e w'=>e= .returned ((.bool r))∧Below w0.heap.size w0 w'):=by
 refine Xe 0 (m:=27) func33 rfl rfl rfl rfl rfl ?_;rw [Zq7.eq_1] at hm;have ac:=St.start col w0;refine go ?_;refine Zng (col:=(Zj col)) ([⟨#[99]⟩]:List ByteArray) 1 ?_;intro bw c0 bx bz ae;refine Zng (col:=bx) ([⟨#[104]⟩,⟨#[116]⟩]:List ByteArray) 2 ?_;intro bp c1 b0 bq b1;refine V9 (col:=b0) (r:=(Za.row 9 Za.str)) (xs:=([([⟨#[104]⟩,⟨#[116]⟩]:List ByteArray)]:List R3)) [.slice bp (([⟨#[104]⟩,⟨#[116]⟩]:List ByteArray).length) 2] 2 (Wg.cons1 (cs:=[.slice bp (([⟨#[104]⟩,⟨#[116]⟩]:List ByteArray).length) 2]) b1.has Rows.nil0) ?_;intro b2 c2 b3 br af;refine V9 (col:=b3) (r:=(Za.row 3 rI)) (xs:=[([]:List Int)]) [(nI)] 3 (Wg.ofF (Rows.consF (r:=(Za.row 3 rI)) (x:=([]:List Int)) (cs:=[(nI)]) Zst Rows.nil0)) ?_;intro b4 c3 b5 az ag;obtain ⟨aa,b6,hm⟩:=bZ hm;refine Zi (Zp0 (col:=b5) 4 5 b6) ?_;rintro _ c4 ⟨b7,a0,a1,a2,a3,rfl,ar,a4,a5⟩;refine ⟨_,rfl,?_⟩;obtain ⟨ab,b8,hm⟩:=bZ hm;refine Zi (Zp0 (col:=b7) 6 7 b8) ?_;rintro _ bs ⟨a6,a7,a8,a9,ba,rfl,ak,bb,bc⟩;refine ⟨_,rfl,?_⟩;have b9:=Yk.join (Yk.joinL (Zai aa.1.1) (a4.gr ak).has) (a5.gr ak).has (by decide) (by decide);replace ae:=((((ae.gr bq).gr br).gr az).gr ar).gr ak;replace ae:=ae.recol 5 4;replace af:=((af.gr az).gr ar).gr ak;replace af:=af.recol 5 4;replace ag:=(ag.gr ar).gr ak;replace ag:=ag.recol 5 4;replace ac:=(((((ac.grow bz).grow bq).grow br).grow az).grow ar).grow ak;replace ac:=ac.recol 5 4 (by decide) (by decide);have bd:Yk (Za.pair (Za.pair Za.bool (Za.row 95 rU)) (Za.row 95 rU)) 4 (Xu 5 4 a6) bs [.bool aa.1.1,.slice a0 aa.1.2.length a1,.slice a2 aa.2.length a3] ((aa.1.1,aa.1.2),aa.2):=b9;have ca:=Yk.join (Yk.joinL (Zai ab.1.1) (bb.recol 5 4).has) (bc.recol 5 4).has (by decide) (by decide);replace ae:=ae.recol 7 6;replace af:=af.recol 7 6;replace ag:=ag.recol 7 6;replace ac:=ac.recol 7 6 (by decide) (by decide);have cb:Yk (Za.pair (Za.pair Za.bool (Za.row 95 rU)) (Za.row 95 rU)) 6 (Xu 7 6 (Xu 5 4 a6)) bs [.bool ab.1.1,.slice a7 ab.1.2.length a8,.slice a9 ab.2.length ba] ((ab.1.1,ab.1.2),ab.2):=ca
 have cc:=Wg.cons (cs:=[.bool aa.1.1,.slice a0 aa.1.2.length a1,.slice a2 aa.2.length a3]) (bd.recol 7 6) (Wg.cons1 (cs:=[.bool ab.1.1,.slice a7 ab.1.2.length a8,.slice a9 ab.2.length ba]) cb Rows.nil0) (by decide) (by decide);replace ae:=ae.recol 4 6;replace af:=af.recol 4 6;replace ag:=ag.recol 4 6;replace ac:=ac.recol 4 6 (by decide) (by decide);refine V9 (col:=(Xu 4 6 (Xu 7 6 (Xu 5 4 a6)))) (r:=(Za.pair (Za.pair Za.bool (Za.row 95 rU)) (Za.row 95 rU))) (xs:=[((aa.1.1,aa.1.2),aa.2),((ab.1.1,ab.1.2),ab.2)]) [(.agg #[.bool aa.1.1,.slice a0 aa.1.2.length a1,.slice a2 aa.2.length a3]),(.agg #[.bool ab.1.1,.slice a7 ab.1.2.length a8,.slice a9 ab.2.length ba])] 6 cc ?_;intro bt c5 cd au ce;refine V9 (col:=cd) (r:=(Za.row 39 (Za.pair (Za.pair Za.bool (Za.row 95 rU)) (Za.row 95 rU)))) (xs:=[[((aa.1.1,aa.1.2),aa.2),((ab.1.1,ab.1.2),ab.2)]]) [.slice bt ([((aa.1.1,aa.1.2),aa.2),((ab.1.1,ab.1.2),ab.2)].length) 2] 6 (Wg.cons1 (cs:=[.slice bt ([((aa.1.1,aa.1.2),aa.2),((ab.1.1,ab.1.2),ab.2)].length) 2]) ce.has Rows.nil0) ?_;intro cf c6 cg av be;refine lV (.agg #[.string (⟨#[99]⟩),.slice bw (([⟨#[99]⟩]:List ByteArray).length) 1,.slice b2 (([([⟨#[104]⟩,⟨#[116]⟩]:List ByteArray)]:List R3).length) 1,.slice b4 ([([]:List Int)].length) 1,.slice cf ([[((aa.1.1,aa.1.2),aa.2),((ab.1.1,ab.1.2),ab.2)]].length) 1]) (Wq (l:=[_,_,_,_,_]) (qs:=[(0,1),(1,1),(2,1),(3,1),(4,1)]) underlying27 zeroValue27 ⟨rfl,sizeOf9,rfl,sizeOf22,rfl,sizeOf23,rfl,sizeOf24,rfl,sizeOf25,trivial⟩ rfl)<|Xk (col:=cg) #[.string (⟨#[]⟩),.slice none (([]:List ByteArray).length) 0,.slice none (([]:List R3).length) 0,.slice none (([]:List R2).length) 0,(.slice none (([]:List R4).length) 0)] 8 zeroValue27 ?_;intro c7 c8 ch am ci;refine Zy ci ?_;intro c9 an cj ck;refine go ?_;refine lV _ (Z8 isAgg27 sizeOf27 ck)<|lV (.agg #[.int .i64 0,.int .i64 1]) (Wq (l:=[_,_]) (qs:=[(0,1),(1,1)]) underlying142 zeroValue142 ⟨rfl,sizeOf3,rfl,sizeOf3,trivial⟩ rfl)<|V9 (col:=ch) (r:=(Za.pair rI rI)) (xs:=[(0,1)]) [(.agg #[.int .i64 0,.int .i64 1])] 9 (Wg.ofF (Rows.consF (r:=(Za.pair rI rI)) (x:=(0,1)) (cs:=[.int .i64 0,.int .i64 1]) (Zgh (Zaj .i64 0) (Zaj .i64 1)) Rows.nil0)) ?_;intro da cl aw ao cn
 obtain ⟨ad,co,hm⟩:=bZ hm;refine Zi (Z4d 10 11 co ((((((((((ae.gr au).gr av).gr am).kp an).gr ao).toSlF Zh.str).froz 2).froz 3).froz 6).froz 9) ((((((((((af.gr au).gr av).gr am).kp an).gr ao).froz 1).toSlF (Zh.row Zh.str)).froz 3).froz 6).froz 9) ((((((((((ag.gr au).gr av).gr am).kp an).gr ao).froz 1).froz 2).toSlF (Zh.row (Zh.int .i64))).froz 6).froz 9) ((((((((be.gr am).kp an).gr ao).froz 1).froz 2).froz 3).toSlF (Zh.row (Zh.pair (Zh.pair Zh.bool (Zh.row (Zh.int .u32))) (Zh.row (Zh.int .u32))))).froz 9) (((((cn.froz 1).froz 2).froz 3).froz 6).toSlF (Zh.pair (Zh.int .i64) (Zh.int .i64)))) ?_;rintro _ db ⟨cp,bf,bg,bh,bi,rfl,ap,ah,ai⟩;refine ⟨_,rfl,?_⟩;replace ah:=ah.thaw (Z1 .u32) ap ((((((Fz.refl (col:=aw)).froz 1).froz 2).froz 3).froz 6).froz 9) (by decide);replace ai:=ai.thaw (Z1 .u32) ap ((((((Fz.refl (col:=aw)).froz 1).froz 2).froz 3).froz 6).froz 9) (by decide);replace ap:=ap.thawR (col:=aw);generalize Xc cl.heap.size aw cp=cq at *;refine lM (.tuple #[(.agg #[.bool ad.1.1.1,.slice bf ad.1.1.2.length bg,.slice bh ad.1.2.length bi]),.int .i64 ad.2])<|lV (.agg #[.bool ad.1.1.1,.slice bf ad.1.1.2.length bg,.slice bh ad.1.2.length bi]) (Xo rfl rfl)<|lV (.int .i64 ad.2) (Xo rfl rfl)<|Xk (col:=cq) #[.bool false,(nI),(nI)] 12 zeroValue39 ?_;intro dc dd aq bj cr;refine Zy cr ?_;intro de bk ct cu;refine Y6 rfl<|Zk<|Zz ?_;replace ac:=(((((((ac.grow au).grow av).grow am).kp an cj).grow ao).grow ap).grow bj).kp bk ct;replace ah:=(ah.gr bj).kp bk;replace ai:=(ai.gr bj).kp bk;refine Wp.cutK [1000000] (fun f bu=>∃ bv bm,Znl bm=some r∧St w0 (Zj col) bv bu∧[0].map f=[.bool bm]) ?_ ?_
 ·intro f bu hJ;obtain ⟨bv,bm,hm,ac,hs⟩:=hJ;rw [Znl.eq_1] at hm;refine .lL [0] hs<|Vd ?_;cases hm;exact ⟨rfl,rfl,ac.below⟩
 refine Y8 (col:=aq) [(0,1),(1,1),(2,1),(3,0),(4,3),(5,3),(6,1),(7,1)] (by kernel_rfl) (by kernel_rfl)<|xu rfl rfl (fun _=>Yq rfl) ?_;refine xu rfl rfl (fun _=>Zsk _ _ rfl rfl) ?_;refine xu rfl rfl (fun _=>Zsm rfl) ?_;refine Yr hm (fun aj hm=>?_) fun aj hm=>?_
 ·refine Zto (v:=(.agg #[.bool ad.1.1.1,.slice bf ad.1.1.2.length bg,.slice bh ad.1.2.length bi])) (b:=decide (ad.2=0)) 22 rfl rfl rfl rfl rfl (by rw [aj];rfl) (fun _ hC=>Y9 isAgg39 sizeOf39 rfl rfl (cu.atN.gr (hC.bl aq))) ?_;refine xe rfl rfl ?_;intro df hC0;have hC:=hC0.bl aq;refine go ?_;obtain ⟨dg,cv,hm⟩:=bZ hm;refine Zi (Zp0 (col:=aq) 17 18 cv) ?_;rintro _ dh ⟨al,di,dj,dl,dm,rfl,ax,bn,bo⟩;refine ⟨_,rfl,?_⟩;refine Zk<|Xj al hC0 ax<|xe rfl rfl ?_;intro cw hC0;replace ah:=(ah.gr hC).gr ax;replace ai:=(ai.gr hC).gr ax;replace ac:=(ac.grow hC).grow ax;have hC:=hC0.bl al;refine go ?_;obtain ⟨cx,cy,hm⟩:=bZ hm;refine Zi (Zt8 cy (((((ah.gr hC).toSlF (Zh.int .u32)).froz 11).froz 17).froz 18) (((((ai.gr hC).froz 10).toSlF (Zh.int .u32)).froz 17).froz 18) (((((bn.gr hC).froz 10).froz 11).toSlF (Zh.int .u32)).froz 18) (((((bo.gr hC).froz 10).froz 11).froz 17).toSlF (Zh.int .u32))) ?_;rintro _ cz ⟨rfl,ay⟩;refine ⟨_,rfl,?_⟩;replace ay:Zf al cw al cz:=.of_below ay;refine Zk<|Xj al hC0 ay<|xu (v:=(.bool cx)) rfl rfl (fun _=>Ye (congrArg Value.bool aj) rfl) ?_;refine xu rfl rfl (fun _=>Zjh rfl) ?_;refine Yz ?_;replace ac:=(ac.grow hC).grow ay;intro dn hC;replace hC:=hC.bl al;replace ac:=ac.grow hC;exact ⟨rfl,_,_,hm,ac,rfl⟩
 refine Zal (b:=decide (ad.2=0)) 22 rfl rfl rfl rfl rfl (by rw [aj];rfl)<|Zal (b:=decide (ad.2=0)) 22 rfl rfl rfl rfl rfl (by rw [aj];rfl)<|Zal (b:=decide (ad.2=0)) 22 rfl rfl rfl rfl rfl (by rw [aj];rfl)<|xu (v:=(.bool false)) rfl rfl (fun _=>Yd (congrArg Value.bool aj) rfl) ?_;refine xu rfl rfl (fun _=>Zjh rfl) ?_;refine Yz ?_;intro dp hC;exact ⟨rfl,_,_,hm,ac.grow (hC.bl aq),rfl⟩
theorem Xbn:Zq7 3000000=some true:=by decide+kernel
def Ztj:Option Bool:=some true
theorem Z7v (col:Zd) (w0:World) (r:Bool) (hm:Ztj=some r):Calls prog 33 #[] w0 (fun e w'=>e= .returned ((.bool r))∧Below w0.heap.size w0 w'):=by
 cases hm;exact Z3q 3000000 col w0 true Xbn
def Zes (aa:Bool):Option Bool:=
  some aa
def Zg8 (N:Nat) (ac:R0) (ae:R7) (ab:(R1×Int)) (aa:(R0×Int)) (af:Bool):Option Bool:=
  if af=true then (some false) else ((Zet N ((ab.1.1.1,ab.1.1.2),ab.1.2) ((false,([]:List Int)),([]:List Int))).bind fun ag=>if ag=true then (some (decide (aa.2=52))) else ((Zhe N ae).bind fun ah=>(Tx N (aa.1.1,aa.1.2.1,aa.1.2.2.1,aa.1.2.2.2.1,aa.1.2.2.2.2) ah).bind fun ad=>if (decide (aa.2=0))=true then (if (decide (ad.2=0))=true then ((Zc7 N (aa.1.1,aa.1.2.1,aa.1.2.2.1,aa.1.2.2.2.1,aa.1.2.2.2.2)).bind fun ai=>if ai=true then ((Zhb N (ac.1,ac.2.1,ac.2.2.1,ac.2.2.2.1,ac.2.2.2.2) (aa.1.1,aa.1.2.1,aa.1.2.2.1,aa.1.2.2.2.1,aa.1.2.2.2.2)).bind fun aj=>if aj=true then ((Zg9 N ((ab.1.1.1,ab.1.1.2),ab.1.2) ((ad.1.1.1,ad.1.1.2),ad.1.2)).bind fun ak=>Zes ak) else (Zes false)) else (Zes false)) else (Zes false)) else (Zes false)))
def Zc6 (N:Nat) (aa:R0) (ad:R7) (af:Bool) (ah:Bool):Option Bool:=
  if ah=true then (some af) else ((Zbx N (aa.1,aa.2.1,aa.2.2.1,aa.2.2.2.1,aa.2.2.2.2)).bind fun ab=>(Zhe N ad).bind fun ai=>(Tx N (ab.1,ab.2.1,ab.2.2.1,ab.2.2.2.1,ab.2.2.2.2) ai).bind fun ae=>(Zbx N (aa.1,aa.2.1,aa.2.2.1,aa.2.2.2.1,aa.2.2.2.2)).bind fun ac=>(Zhe N ad).bind fun aj=>(Q6 N (ac.1,ac.2.1,ac.2.2.1,ac.2.2.2.1,ac.2.2.2.2) aj).bind fun ag=>if (!af)=true then (Zg8 N aa ad ae ag true) else (Zg8 N aa ad ae ag (!decide (ae.2=0))))
def Znk (N:Nat) (aa:R0) (ab:R7):Option Bool:=
  (Ztj).bind fun ac=>(Zc7 N (aa.1,aa.2.1,aa.2.2.1,aa.2.2.2.1,aa.2.2.2.2)).bind fun ad=>if (!ad)=true then (Zc6 N aa ab ac true) else ((Zha N (aa.1,aa.2.1,aa.2.2.1,aa.2.2.2.1,aa.2.2.2.2) 300).bind fun ae=>if (!ae)=true then (Zc6 N aa ab ac true) else ((Zhc N (aa.1,aa.2.1,aa.2.2.1,aa.2.2.2.1,aa.2.2.2.2) ab 12).bind fun af=>Zc6 N aa ab ac (!af)))
theorem Z3p (N:Nat) (col:Zd) (w0:World) (b1:Option Addr) (b2:Nat) (b3:Option Addr) (b4:Nat) (b5:Option Addr) (b6:Nat) (b7:Option Addr) (b8:Nat) (af:R0) (a1:Option Addr) (cl:Nat) (bn:R7) (bh:Sl Za.str col w0 b1 b2 af.2.1) (bi:Sl (Za.slice Za.str) col w0 b3 b4 af.2.2.1) (bj:Sl (Za.slice rI) col w0 b5 b6 af.2.2.2.1) (bk:Sl (Za.slice (Za.pair (Za.pair Za.bool (Za.slice rU)) (Za.slice rU))) col w0 b7 b8 af.2.2.2.2) (h1:Sl (Za.slice rI) col w0 a1 cl bn) (r:Bool) (hm:Znk N af bn=some r):
    Calls prog 8 #[(.agg #[.string af.1,.slice b1 af.2.1.length b2,.slice b3 af.2.2.1.length b4,.slice b5 af.2.2.2.1.length b6,.slice b7 af.2.2.2.2.length b8]),.slice a1 bn.length cl] w0 (fun e w'=>e= .returned ((.bool r))∧Below w0.heap.size w0 w'):=by
 refine Xe 4 (m:=82) func8 rfl rfl rfl rfl rfl ?_;rw [Znk.eq_1] at hm;have aa:=St.start col w0;refine go ?_;refine Xi (col:=(Zj col)) 1 rfl ?_;intro da dr bb ds ab;refine go ?_;obtain ⟨db,dt,hm⟩:=bZ hm;refine lc rfl rfl (Zea call33) (Z7v bb _ db dt) ?_;rintro _ dc ⟨rfl,b9⟩;refine ⟨_,rfl,?_⟩;replace b9:Zf bb dr bb dc:=.of_below b9;refine Zj9 rfl<|Zk<|Zz<|Zz ?_;replace bh:=bh.k0;replace bi:=bi.k0;replace bj:=bj.k0;replace bk:=bk.k0;replace h1:=h1.k0;replace aa:=(aa.grow ds).grow b9;replace ab:=ab.gr b9;refine Wp.cutK [1,2,5,1000000] (fun f cn=>∃ co cp,Zc6 N af bn db cp=some r∧St w0 (Zj col) co cn∧Zg 27 1 co cn da #[.string af.1,.slice b1 af.2.1.length b2,.slice b3 af.2.2.1.length b4,.slice b5 af.2.2.2.1.length b6,.slice b7 af.2.2.2.2.length b8]∧[26].map f=[.bool cp]) ?_ ?_
 ·intro f cn hJ;obtain ⟨co,cp,hm,aa,ab,hs⟩:=hJ;rw [Zc6.eq_1] at hm;refine .lL [26] hs ?_;refine Zo hm (fun hb hm=>go ?_) fun hb hm=>go ?_
  ·cases hm;exact ⟨rfl,rfl,aa.below⟩
  refine lV _ (Z8 isAgg27 sizeOf27 ab) ?_;obtain ⟨e1,du,hm⟩:=bZ hm;refine Zi (Zp1 2 3 4 5 du (bh.ks aa) (bi.ks aa) (bj.ks aa) (bk.ks aa)) ?_;rintro _ e2 ⟨e3,e4,e5,e6,e7,e8,e9,fa,fb,rfl,dd,cq,cr,cs,ct⟩;refine ⟨_,rfl,?_⟩;refine Y2 rfl ?_;obtain ⟨fc,dv,hm⟩:=bZ hm;replace aa:=aa.grow dd;refine Zi (Zp2 6 dv (h1.ks aa)) ?_;rintro _ dw ⟨ca,fd,fe,rfl,bo,dx⟩;refine ⟨_,rfl,?_⟩;obtain ⟨aq,dy,hm⟩:=bZ hm;refine Zi (Zmq 7 8 dy ((((((cq.gr bo).toSlF Zh.str).froz 3).froz 4).froz 5).froz 6) ((((((cr.gr bo).froz 2).toSlF (Zh.row Zh.str)).froz 4).froz 5).froz 6) ((((((cs.gr bo).froz 2).froz 3).toSlF (Zh.row (Zh.int .i64))).froz 5).froz 6) ((((((ct.gr bo).froz 2).froz 3).froz 4).toSlF (Zh.row (Zh.pair (Zh.pair Zh.bool (Zh.row (Zh.int .u32))) (Zh.row (Zh.int .u32))))).froz 6) (((((dx.froz 2).froz 3).froz 4).froz 5).toSlF (Zh.row (Zh.int .i64)))) ?_;rintro _ ff ⟨dz,cb,cc,cd,ce,rfl,bp,ad,ae⟩;refine ⟨_,rfl,?_⟩;replace ad:=ad.thaw (Z1 .u32) bp ((((((Fz.refl (col:=ca)).froz 2).froz 3).froz 4).froz 5).froz 6) (by decide);replace ae:=ae.thaw (Z1 .u32) bp ((((((Fz.refl (col:=ca)).froz 2).froz 3).froz 4).froz 5).froz 6) (by decide);replace bp:=bp.thawR (col:=ca);generalize Xc dw.heap.size ca dz=d0 at *;refine lM (.tuple #[(.agg #[.bool aq.1.1.1,.slice cb aq.1.1.2.length cc,.slice cd aq.1.2.length ce]),.int .i64 aq.2])<|lV (.agg #[.bool aq.1.1.1,.slice cb aq.1.1.2.length cc,.slice cd aq.1.2.length ce]) (Xo rfl rfl)<|lV (.int .i64 aq.2) (Xo rfl rfl)<|Xk (col:=d0) #[.bool false,(nI),(nI)] 9 zeroValue39 ?_;intro d1 fg fh cf d2;refine Zy d2 ?_;intro fi cg d3 ak;refine go ?_;replace ab:=((((ab.gr dd).gr bo).gr bp).gr cf).kp cg;refine lV _ (Z8 isAgg27 sizeOf27 ab) ?_;obtain ⟨fj,d4,hm⟩:=bZ hm;replace aa:=(((aa.grow bo).grow bp).grow cf).kp cg d3
  refine Zi (Zp1 10 11 12 13 d4 (bh.ks aa) (bi.ks aa) (bj.ks aa) (bk.ks aa)) ?_;rintro _ fk ⟨fl,fm,fn,fp,fq,fr,ft,fu,fv,rfl,br,cu,cv,cw,cx⟩;refine ⟨_,rfl,?_⟩;refine Y2 rfl ?_;obtain ⟨fw,d5,hm⟩:=bZ hm;replace aa:=aa.grow br;refine Zi (Zp2 14 d5 (h1.ks aa)) ?_;rintro _ d6 ⟨bq,fx,fy,rfl,bc,d7⟩;refine ⟨_,rfl,?_⟩;obtain ⟨ac,d8,hm⟩:=bZ hm;refine Zi (Z4h 15 16 17 18 d8 ((((((cu.gr bc).toSlF Zh.str).froz 11).froz 12).froz 13).froz 14) ((((((cv.gr bc).froz 10).toSlF (Zh.row Zh.str)).froz 12).froz 13).froz 14) ((((((cw.gr bc).froz 10).froz 11).toSlF (Zh.row (Zh.int .i64))).froz 13).froz 14) ((((((cx.gr bc).froz 10).froz 11).froz 12).toSlF (Zh.row (Zh.pair (Zh.pair Zh.bool (Zh.row (Zh.int .u32))) (Zh.row (Zh.int .u32))))).froz 14) (((((d7.froz 10).froz 11).froz 12).froz 13).toSlF (Zh.row (Zh.int .i64)))) ?_;rintro _ fz ⟨d9,bs,bt,bu,bv,bw,bx,bz,b0,rfl,a4,ag,ah,ai,aj⟩;refine ⟨_,rfl,?_⟩;replace ag:=ag.thaw Zwj a4 ((((((Fz.refl (col:=bq)).froz 10).froz 11).froz 12).froz 13).froz 14) (by decide);replace ah:=ah.thaw (Zj6 Zwj) a4 ((((((Fz.refl (col:=bq)).froz 10).froz 11).froz 12).froz 13).froz 14) (by decide);replace ai:=ai.thaw (Zj6 (Z1 .i64)) a4 ((((((Fz.refl (col:=bq)).froz 10).froz 11).froz 12).froz 13).froz 14) (by decide);replace aj:=aj.thaw (Zj6 (Zwi (Zwi Z7h (Zj6 (Z1 .u32))) (Zj6 (Z1 .u32)))) a4 ((((((Fz.refl (col:=bq)).froz 10).froz 11).froz 12).froz 13).froz 14) (by decide);replace a4:=a4.thawR (col:=bq);generalize Xc d6.heap.size bq d9=ea at *
  refine lM (.tuple #[(.agg #[.string ac.1.1,.slice bs ac.1.2.1.length bt,.slice bu ac.1.2.2.1.length bv,.slice bw ac.1.2.2.2.1.length bx,.slice bz ac.1.2.2.2.2.length b0]),.int .i64 ac.2])<|lV (.agg #[.string ac.1.1,.slice bs ac.1.2.1.length bt,.slice bu ac.1.2.2.1.length bv,.slice bw ac.1.2.2.2.1.length bx,.slice bz ac.1.2.2.2.2.length b0]) (Xo rfl rfl)<|lV (.int .i64 ac.2) (Xo rfl rfl)<|Xk (col:=ea) #[.string (⟨#[]⟩),.slice none (([]:List ByteArray).length) 0,.slice none (([]:List R3).length) 0,.slice none (([]:List R2).length) 0,(.slice none (([]:List R4).length) 0)] 19 zeroValue27 ?_;intro eb f0 f1 bd ec;refine Zy ec ?_;intro f2 be ed al;refine Y6 rfl<|Zk<|Zz<|Zz ?_;replace ad:=((((((ad.gr cf).kp cg).gr br).gr bc).gr a4).gr bd).kp be;replace ae:=((((((ae.gr cf).kp cg).gr br).gr bc).gr a4).gr bd).kp be;replace ab:=((((ab.gr br).gr bc).gr a4).gr bd).kp be;replace ak:=((((ak.gr br).gr bc).gr a4).gr bd).kp be;replace aa:=(((aa.grow bc).grow a4).grow bd).kp be ed;replace ag:=(ag.gr bd).kp be;replace ah:=(ah.gr bd).kp be;replace ai:=(ai.gr bd).kp be;replace aj:=(aj.gr bd).kp be;refine Wp.cutK [1,2,6,8,9,1000000] (fun f ay=>∃ ao cy,Zg8 N af bn aq ac cy=some r∧St w0 (Zj col) ao ay∧Zg 27 1 ao ay da #[.string af.1,.slice b1 af.2.1.length b2,.slice b3 af.2.2.1.length b4,.slice b5 af.2.2.2.1.length b6,.slice b7 af.2.2.2.2.length b8]∧Zb rU 95 7 ao ay cb cc aq.1.1.2∧Zb rU 95 8 ao ay cd ce aq.1.2∧Zg 39 9 ao ay d1 #[.bool aq.1.1.1,.slice cb aq.1.1.2.length cc,.slice cd aq.1.2.length ce]∧Zb Za.str 9 15 ao ay bs bt ac.1.2.1∧Zb (Za.row 9 Za.str) 22 16 ao ay bu bv ac.1.2.2.1∧Zb (Za.row 3 rI) 33 17 ao ay bw bx ac.1.2.2.2.1∧Zb (Za.row 39 (Za.pair (Za.pair Za.bool (Za.row 95 rU)) (Za.row 95 rU))) 114 18 ao ay bz b0 ac.1.2.2.2.2∧Zg 27 19 ao ay eb #[.string ac.1.1,.slice bs ac.1.2.1.length bt,.slice bu ac.1.2.2.1.length bv,.slice bw ac.1.2.2.2.1.length bx,.slice bz ac.1.2.2.2.2.length b0]∧[49].map f=[.bool cy]) ?_ ?_
  ·intro f ay hJ;obtain ⟨ao,cy,hm,aa,ab,ad,ae,ak,ag,ah,ai,aj,al,hs⟩:=hJ;rw [Zg8.eq_1] at hm;refine .lL [49] hs ?_;refine Zo hm (fun hb hm=>go ?_) fun hb hm=>go ?_
   ·cases hm;exact ⟨rfl,rfl,aa.below⟩
   refine lV _ (Z8 isAgg39 sizeOf39 ak)<|lV (.agg #[.bool false,(nI),(nI)]) (Wq (l:=[_,_]) (qs:=[(0,2),(2,1)]) underlying39 zeroValue39 ⟨rfl,sizeOf37,rfl,sizeOf35,trivial⟩ rfl) ?_;obtain ⟨f3,ee,hm⟩:=bZ hm;refine Zi (Zt8 ee ((ad.toSlF (Zh.int .u32)).froz 8) ((ae.froz 7).toSlF (Zh.int .u32)) Sl.nil Sl.nil) ?_;rintro _ ch ⟨rfl,az⟩;refine ⟨_,rfl,?_⟩;replace az:Zf ao ay ao ch:=.of_below az;refine Zk ?_;replace ad:=ad.gr az;replace ae:=ae.gr az;replace ag:=ag.gr az;replace ah:=ah.gr az;replace ai:=ai.gr az;replace aj:=aj.gr az;replace ab:=ab.gr az;replace ak:=ak.gr az;replace al:=al.gr az;replace aa:=aa.grow az;refine Zo hm (fun hb hm=>go ?_) fun hb hm=>go ?_
   ·cases hm;exact ⟨rfl,rfl,aa.below⟩
   have a8:=Zt.clip (fun _=>false) ao ch;refine Zmb (col:=ao) [(0,0),(1,1),(2,3),(3,3),(4,1),(5,1),(6,1),(7,4),(8,2),(9,1)] (by kernel_rfl) (by kernel_rfl) ⟨fun h=>absurd h (by decide),fun h=>absurd h (by decide),fun h=>absurd h (by decide),fun h=>absurd h (by decide),fun h=>absurd h (by decide),fun h=>absurd h (by decide),fun h=>absurd h (by decide),fun _=>⟨_,_,_,rfl,Zaw zeroValue39⟩,fun h=>absurd h (by decide),fun h=>absurd h (by decide),trivial⟩ ?_;replace al:=al.kpp a8;refine Zam (v:=(.agg #[.string ac.1.1,.slice bs ac.1.2.1.length bt,.slice bu ac.1.2.2.1.length bv,.slice bw ac.1.2.2.2.1.length bx,.slice bz ac.1.2.2.2.2.length b0])) rfl rfl (fun _ hC=>Y9 isAgg27 sizeOf27 rfl rfl (al.atN.gr (hC.bl (Zm ch ao)))) ?_;refine Qz (v:=(.slice a1 bn.length cl)) rfl rfl (fun _=>U9 rfl) ?_;refine Uq rfl rfl ?_;intro f4 hC0;have hC:=hC0.bl (Zm ch ao);obtain ⟨f5,ef,hm⟩:=bZ hm;replace aa:=(aa.kpp a8).grow hC;refine Zi (Zp2 20 ef (h1.ks aa)) ?_;rintro _ a9 ⟨bf,f6,f7,rfl,aw,cz⟩;refine ⟨_,rfl,?_⟩;refine Zk ?_;refine ⟨fun w'=>Zf (Zm a9 bf) a9 (Zm a9 bf) w',fun g=>(Zm a9 bf) g=497,Zf.refl _ _,V8,fun _=>⟨fun _ h=>Ur hC0 aw h,fun b hb=>aw.below.block b hb,fun g x1 x2=>T8 aw g x1 (by first | exact x2 | (simp only [Xp,x2];rfl) | (simp only [Xp,Xu,x2];rfl))⟩,?_⟩;have a5:=Zt.clip (fun _=>false) bf a9;refine Uq rfl rfl ?_;intro eg hC0;replace ad:=(((ad.kpp a8).gr hC).gr aw).kpp a5;replace ae:=(((ae.kpp a8).gr hC).gr aw).kpp a5;replace ag:=(((ag.kpp a8).gr hC).gr aw).kpp a5;replace ah:=(((ah.kpp a8).gr hC).gr aw).kpp a5;replace ai:=(((ai.kpp a8).gr hC).gr aw).kpp a5;replace aj:=(((aj.kpp a8).gr hC).gr aw).kpp a5;replace ab:=(((ab.kpp a8).gr hC).gr aw).kpp a5;replace ak:=(((ak.kpp a8).gr hC).gr aw).kpp a5;replace al:=((al.gr hC).gr aw).kpp a5;have hC:=hC0.bl (Zm a9 bf);obtain ⟨ba,eh,hm⟩:=bZ hm;replace ag:=ag.gr hC;replace ah:=ah.gr hC;replace ai:=ai.gr hC;replace aj:=aj.gr hC
   refine Zi (Zmq 21 22 eh (((((ag.toSlF Zh.str).froz 16).froz 17).froz 18).froz 20) (((((ah.froz 15).toSlF (Zh.row Zh.str)).froz 17).froz 18).froz 20) (((((ai.froz 15).froz 16).toSlF (Zh.row (Zh.int .i64))).froz 18).froz 20) (((((aj.froz 15).froz 16).froz 17).toSlF (Zh.row (Zh.pair (Zh.pair Zh.bool (Zh.row (Zh.int .u32))) (Zh.row (Zh.int .u32))))).froz 20) (((((((cz.kpp a5).gr hC).froz 15).froz 16).froz 17).froz 18).toSlF (Zh.row (Zh.int .i64)))) ?_;rintro _ am ⟨ei,de,df,dg,dh,rfl,ap,a6,a7⟩;refine ⟨_,rfl,?_⟩;replace a6:=a6.thaw (Z1 .u32) ap ((((((Fz.refl (col:=(Zm a9 bf))).froz 15).froz 16).froz 17).froz 18).froz 20) (by decide);replace a7:=a7.thaw (Z1 .u32) ap ((((((Fz.refl (col:=(Zm a9 bf))).froz 15).froz 16).froz 17).froz 18).froz 20) (by decide);replace ap:=ap.thawR (col:=(Zm a9 bf));generalize Xc eg.heap.size (Zm a9 bf) ei=an at *;refine Zk ?_;refine ⟨fun w'=>Zf (Zm am an) am (Zm am an) w',fun g=>(Zm am an) g=497,Zf.refl _ _,V8,fun _=>⟨fun _ h=>Ur hC0 ap h,fun b hb=>ap.below.block b hb,fun g x1 x2=>T8 ap g x1 (by first | exact x2 | (simp only [Xp,x2];rfl) | (simp only [Xp,Xu,x2];rfl))⟩,?_⟩;have a0:=Zt.clip (fun _=>false) an am;refine Qz (v:=(.tuple #[(.agg #[.bool ba.1.1.1,.slice de ba.1.1.2.length df,.slice dg ba.1.2.length dh]),.int .i64 ba.2])) rfl rfl (fun _=>U9 rfl) ?_;refine Qz (v:=(.agg #[.bool ba.1.1.1,.slice de ba.1.1.2.length df,.slice dg ba.1.2.length dh])) rfl rfl (fun _=>Xo rfl rfl) ?_;refine Qz (v:=(.int .i64 ba.2)) rfl rfl (fun _=>Xo rfl rfl) ?_;refine Zmd rfl rfl (Zaw zeroValue39) ?_;intro au ej;refine Uq rfl rfl ?_;intro ek ⟨hC0,hZ0⟩;replace aa:=((((aa.grow aw).kpp a5).grow hC).grow ap).kpp a0;replace ad:=((ad.gr hC).gr ap).kpp a0;replace ae:=((ae.gr hC).gr ap).kpp a0;replace ab:=((ab.gr hC).gr ap).kpp a0;replace ak:=((ak.gr hC).gr ap).kpp a0;replace al:=((al.gr hC).gr ap).kpp a0;have hC:=hC0.bl (Zm am an);obtain ⟨a2,c0⟩:=Zjy (col:=(Zm am an)) 23 hZ0 ej
   replace c0:Zg 39 23 (Xr au 23 (Zm am an)) ek au #[.bool false,(nI),(nI)]:=c0;refine Zy c0 ?_;intro av a3 el bm;refine Zk ?_;refine ⟨fun w'=>Zf (Zm av (Xr au 23 (Zm am an))) av (Zm av (Xr au 23 (Zm am an))) w',fun g=>(Zm av (Xr au 23 (Zm am an))) g=497,Zf.refl _ _,V8,fun h=>absurd h (by decide),?_⟩;have ax:=Zt.clip (fun _=>false) (Xr au 23 (Zm am an)) av;refine Qz (v:=(.int .i64 ba.2)) rfl rfl (fun _=>T3 rfl) ?_;refine Zme ?_;replace ag:=(((((ag.gr ap).kpp a0).gr hC).kpp a2).kp a3).kpp ax;replace ah:=(((((ah.gr ap).kpp a0).gr hC).kpp a2).kp a3).kpp ax;replace ai:=(((((ai.gr ap).kpp a0).gr hC).kpp a2).kp a3).kpp ax;replace aj:=(((((aj.gr ap).kpp a0).gr hC).kpp a2).kp a3).kpp ax;replace a6:=((((a6.kpp a0).gr hC).kpp a2).kp a3).kpp ax;replace a7:=((((a7.kpp a0).gr hC).kpp a2).kp a3).kpp ax;replace ad:=(((ad.gr hC).kpp a2).kp a3).kpp ax;replace ae:=(((ae.gr hC).kpp a2).kp a3).kpp ax;replace ab:=(((ab.gr hC).kpp a2).kp a3).kpp ax;replace ak:=(((ak.gr hC).kpp a2).kp a3).kpp ax;replace al:=(((al.gr hC).kpp a2).kp a3).kpp ax;replace aa:=(((aa.grow hC).kpp a2).kp a3 el).kpp ax;intro di hC;replace hC:Zf (Zm av (Xr au 23 (Zm am an))) av (Zm av (Xr au 23 (Zm am an))) di:=.of_below hC.below;refine Zz ?_;replace bm:=(bm.kpp ax).gr hC;replace ad:=ad.gr hC;replace ae:=ae.gr hC;replace ag:=ag.gr hC;replace ah:=ah.gr hC;replace ai:=ai.gr hC;replace aj:=aj.gr hC;replace a6:=a6.gr hC;replace a7:=a7.gr hC;replace ab:=ab.gr hC;replace ak:=ak.gr hC;replace al:=al.gr hC;replace aa:=aa.grow hC;refine Wp.cutK [1000000] (fun f dj=>∃ dl c1,Zes c1=some r∧St w0 (Zj col) dl dj∧[4].map f=[.bool c1]) ?_ ?_
   ·intro f dj hJ;obtain ⟨dl,c1,hm,aa,hs⟩:=hJ;rw [Zes.eq_1] at hm;refine .lL [4] hs<|Vd ?_;cases hm;exact ⟨rfl,rfl,aa.below⟩
   refine go ?_;refine Yr hm (fun c2 hm=>go ?_) fun c2 hm=>go ?_
   ·refine lV (.bool (decide (ba.2=0))) (Ye (congrArg Value.bool c2) rfl)<|Uj rfl ?_;refine Yr hm (fun c3 hm=>go ?_) fun c3 hm=>go ?_
    ·refine lV _ (Z8 isAgg27 sizeOf27 al)<|go ?_;obtain ⟨em,en,hm⟩:=bZ hm;refine Zi (Zt9 en ((((ag.toSlF Zh.str).froz 16).froz 17).froz 18) ((((ah.froz 15).toSlF (Zh.row Zh.str)).froz 17).froz 18) ((((ai.froz 15).froz 16).toSlF (Zh.row (Zh.int .i64))).froz 18) ((((aj.froz 15).froz 16).froz 17).toSlF (Zh.row (Zh.pair (Zh.pair Zh.bool (Zh.row (Zh.int .u32))) (Zh.row (Zh.int .u32)))))) ?_;rintro _ dm ⟨rfl,ar⟩;refine ⟨_,rfl,?_⟩;replace ar:Zf (Zm av (Xr au 23 (Zm am an))) di (Zm av (Xr au 23 (Zm am an))) dm:=.of_below ar;refine lV (.bool em) (Ye (congrArg Value.bool c3) rfl)<|Uj rfl ?_;replace ad:=ad.gr ar;replace ae:=ae.gr ar;replace ag:=ag.gr ar;replace ah:=ah.gr ar;replace ai:=ai.gr ar;replace aj:=aj.gr ar;replace a6:=a6.gr ar;replace a7:=a7.gr ar;replace ab:=ab.gr ar;replace ak:=ak.gr ar;replace al:=al.gr ar;replace bm:=bm.gr ar;replace aa:=aa.grow ar;refine Yr hm (fun c4 hm=>go ?_) fun c4 hm=>go ?_
     ·refine lV _ (Z8 isAgg27 sizeOf27 ab)<|go ?_;refine lV _ (Z8 isAgg27 sizeOf27 al)<|go ?_;obtain ⟨eo,ep,hm⟩:=bZ hm;refine Zi (Z3u ep (((((bh.ks aa).froz 15).froz 16).froz 17).froz 18) (((((bi.ks aa).froz 15).froz 16).froz 17).froz 18) (((((bj.ks aa).froz 15).froz 16).froz 17).froz 18) (((((bk.ks aa).froz 15).froz 16).froz 17).froz 18) ((((ag.toSlF Zh.str).froz 16).froz 17).froz 18) ((((ah.froz 15).toSlF (Zh.row Zh.str)).froz 17).froz 18) ((((ai.froz 15).froz 16).toSlF (Zh.row (Zh.int .i64))).froz 18) ((((aj.froz 15).froz 16).froz 17).toSlF (Zh.row (Zh.pair (Zh.pair Zh.bool (Zh.row (Zh.int .u32))) (Zh.row (Zh.int .u32)))))) ?_;rintro _ dn ⟨rfl,bg⟩;refine ⟨_,rfl,?_⟩;replace bg:Zf (Zm av (Xr au 23 (Zm am an))) dm (Zm av (Xr au 23 (Zm am an))) dn:=.of_below bg;refine lV (.bool eo) (Ye (congrArg Value.bool c4) rfl)<|Uj rfl ?_;replace ad:=ad.gr bg;replace ae:=ae.gr bg;replace ak:=ak.gr bg;replace aa:=aa.grow bg;refine Yr hm (fun c5 hm=>go ?_) fun c5 hm=>go ?_
      ·refine lV _ (Z8 isAgg39 sizeOf39 ak)<|go ?_;refine lV _ (Z8 isAgg39 sizeOf39 (bm.gr bg))<|go ?_;obtain ⟨eq,er,hm⟩:=bZ hm;refine Zi (Z3r er ((((ad.toSlF (Zh.int .u32)).froz 8).froz 21).froz 22) ((((ae.froz 7).toSlF (Zh.int .u32)).froz 21).froz 22) (((((a6.gr bg).froz 7).froz 8).toSlF (Zh.int .u32)).froz 22) (((((a7.gr bg).froz 7).froz 8).froz 21).toSlF (Zh.int .u32))) ?_;rintro _ es ⟨rfl,c6⟩;refine ⟨_,rfl,?_⟩;replace c6:Zf (Zm av (Xr au 23 (Zm am an))) dn (Zm av (Xr au 23 (Zm am an))) es:=.of_below c6;refine lV (.bool eq) (Ye (congrArg Value.bool c5) rfl)<|go ?_;replace aa:=aa.grow c6;exact ⟨rfl,_,_,hm,aa,rfl⟩
      refine lV (.bool false) (Yd (congrArg Value.bool c5) rfl)<|go ?_;exact ⟨rfl,_,_,hm,aa,rfl⟩
     refine lV (.bool false) (Yd (congrArg Value.bool c4) rfl)<|Uj rfl<|lP 77 rfl rfl<|lP 77 rfl rfl<|lP 77 rfl rfl<|lV (.bool false) (Yd rfl rfl)<|go ?_;exact ⟨rfl,_,_,hm,aa,rfl⟩
    refine lV (.bool false) (Yd (congrArg Value.bool c3) rfl)<|Uj rfl<|lP 72 rfl rfl<|lP 72 rfl rfl<|lP 72 rfl rfl<|lV (.bool false) (Yd rfl rfl)<|Uj rfl<|lP 77 rfl rfl<|lP 77 rfl rfl<|lP 77 rfl rfl<|lV (.bool false) (Yd rfl rfl)<|go ?_;exact ⟨rfl,_,_,hm,aa,rfl⟩
   refine lV (.bool false) (Yd (congrArg Value.bool c2) rfl)<|Uj rfl<|lP 68 rfl rfl<|lP 68 rfl rfl<|lV (.bool false) (Yd rfl rfl)<|Uj rfl<|lP 72 rfl rfl<|lP 72 rfl rfl<|lP 72 rfl rfl<|lV (.bool false) (Yd rfl rfl)<|Uj rfl<|lP 77 rfl rfl<|lP 77 rfl rfl<|lP 77 rfl rfl<|lV (.bool false) (Yd rfl rfl)<|go ?_;exact ⟨rfl,_,_,hm,aa,rfl⟩
  refine go ?_;refine Yr hm (fun c7 hm=>go ?_) fun c7 hm=>go ?_
  ·refine lV (.bool true) (Ye (congrArg Value.bool c7) rfl)<|Zk ?_;exact ⟨rfl,_,_,hm,aa,ab,ad,ae,ak,ag,ah,ai,aj,al,rfl⟩
  refine lV (.bool (!decide (aq.2=0))) (Yd (congrArg Value.bool c7) rfl)<|Zk ?_;exact ⟨rfl,_,_,hm,aa,ab,ad,ae,ak,ag,ah,ai,aj,al,rfl⟩
 refine Ve<|lV _ (Z8 isAgg27 sizeOf27 ab) ?_;obtain ⟨f8,et,hm⟩:=bZ hm;refine Zi (Zt9 et (bh.ks aa) (bi.ks aa) (bj.ks aa) (bk.ks aa)) ?_;rintro _ dp ⟨rfl,ci⟩;refine ⟨_,rfl,?_⟩;replace ci:Zf bb dc bb dp:=.of_below ci;refine go ?_;replace ab:=ab.gr ci;replace aa:=aa.grow ci;refine Yr hm (fun c8 hm=>go ?_) fun c8 hm=>go ?_
 ·refine lV (.bool true) (Ye (congrArg Value.bool c8) rfl)<|Uj rfl<|lP 21 rfl rfl<|lP 21 rfl rfl<|lP 21 rfl rfl<|lP 21 rfl rfl<|lV (.bool true) (Ye rfl rfl)<|Zk ?_;exact ⟨rfl,_,_,hm,aa,ab,rfl⟩
 refine lV _ (Z8 isAgg27 sizeOf27 ab)<|go ?_;obtain ⟨eu,ew,hm⟩:=bZ hm;refine Zi (Z3s ew (bh.ks aa) (bi.ks aa) (bj.ks aa) (bk.ks aa)) ?_;rintro _ dq ⟨rfl,cj⟩;refine ⟨_,rfl,?_⟩;replace cj:Zf bb dp bb dq:=.of_below cj;refine go ?_;refine lV (.bool (!eu)) (Yd (congrArg Value.bool c8) rfl)<|Uj rfl ?_;replace ab:=ab.gr cj;replace aa:=aa.grow cj;refine Yr hm (fun c9 hm=>go ?_) fun c9 hm=>go ?_
 ·refine lV (.bool true) (Ye (congrArg Value.bool c9) rfl)<|Zk ?_;exact ⟨rfl,_,_,hm,aa,ab,rfl⟩
 refine lV _ (Z8 isAgg27 sizeOf27 ab)<|go ?_;obtain ⟨ey,ez,hm⟩:=bZ hm;refine Zi (Z3v ez (bh.ks aa) (bi.ks aa) (bj.ks aa) (bk.ks aa) (h1.ks aa)) ?_;rintro _ e0 ⟨rfl,ck⟩;refine ⟨_,rfl,?_⟩;replace ck:Zf bb dq bb e0:=.of_below ck;refine go ?_;refine lV (.bool (!ey)) (Yd (congrArg Value.bool c9) rfl)<|Zk ?_;exact ⟨rfl,_,_,hm,aa.grow ck,ab.gr ck,rfl⟩
section
variable {N:Nat} {n:Zq} (hs:Ww n 1048576) (hb:Zjt n) (hqt:(n.2.2.2.2.map Xx).sum≤1048576) (hr:Z5 N 800000000000)
include hs hb hqt hr
theorem Z3c {r:List R2} (hrl:r.length≤1048576):Znk N n r=some true:=by
 have f:1066000000001<N:=by obtain ⟨r1,r2⟩:=hr;omega
 obtain ⟨e,P,Q,fine⟩:=Zu7 (N:=N) hs (hr.mono (by decide)) (by omega)
 have k:Zpu n:=⟨hb.nm,hb.vn,hb.vl,hb.pn,hb.pl,hb.tn,hb.tl,fun t h x R=>by have:=hb.tm t h x R;omega⟩
 have S:Zc7 N (n.1,n.2.1,n.2.2.1,n.2.2.2.1,n.2.2.2.2)=_:=Z2r f k Q
 rw [Znk,Ztj,oB,S,oB]
 by_cases he:e=0
 ·subst he
  have a:=fine rfl
  have a9:=a.le
  have o:=a.ev.v
  obtain ⟨b,T,U⟩:=Z7c (N:=N) (n:=n) (by omega) (by omega) fun l q=>⟨List.length_pos_iff.2 (a.ev.ne l q),hs.vl l q⟩
  have s:Zha N (n.1,n.2.1,n.2.2.1,n.2.2.2.1,n.2.2.2.2) 300=_:=T
  rw [if_neg (by decide),s,oB]
  cases b with
  | false=>rw [if_pos (show (!false)=true from rfl),Zc6,if_pos rfl]
  | true=>
   have V:=U rfl
   have W:Zhc N (n.1,n.2.1,n.2.2.1,n.2.2.2.1,n.2.2.2.2) r 12=_:=Xbj (n:=n) o (by omega) hrl (by omega)
   rw [if_neg (by decide),W,oB,Zc6]
   by_cases hw:(Ud n r&&decide (r.length≤12))=true
   ·rw [Bool.and_eq_true,decide_eq_true_eq] at hw
    obtain ⟨c,i⟩:=hw
    have X:=Zo9 c
    have Y:Zbx N (n.1,n.2.1,n.2.2.1,n.2.2.2.1,n.2.2.2.2)=some n:=Z2l f k
    have u:=Xbl f hrl fun w h=>by have:=(X w h).len;omega
    obtain ⟨x,Z,A,x3⟩:=Xax a hs hqt P V hr c i
    have B:Tx N (n.1,n.2.1,n.2.2.1,n.2.2.2.1,n.2.2.2.2) r=_:=Z
    have g:RV 0 ((false,([]:List Int)),([]:List Int)):=⟨by simp [Zn],by simp [Zn],by simp,by simp⟩
    have C:Zr ((false,([]:List Int)),([]:List Int))=0:=by rw [Zr];simp [Zu,Zc]
    have E:Zet N (((Zp x).1.1,(Zp x).1.2),(Zp x).2) ((false,([]:List Int)),([]:List Int))=some (decide (x=0)):=by
     have h:=Z3f (N:=N) (V5 A) g (hr.mono (by decide))
     rw [Wo,C] at h
     rw [show (((Zp x).1.1,(Zp x).1.2),(Zp x).2)=Zp x from rfl,h]
     congr 1
     exact decide_eq_decide.2 Zjg
    rw [c,decide_eq_true i,Bool.and_self,Bool.not_true,if_neg (by decide),Y,oB,u,oB,B,oB,oB,oB]
    rcases x3 with ⟨rfl,m,st⟩ | ⟨F,D,y,hD,st,ok,G,y1,y2,H,_,_,I,j⟩
    ·have d:Q6 N (n.1,n.2.1,n.2.2.1,n.2.2.2.1,n.2.2.2.2) r=_:=st
     rw [d,oB,if_neg (by decide)]
     dsimp only
     rw [decide_eq_true rfl,Bool.not_true,Zg8,if_neg (by decide),E,oB,if_pos (dT rfl),decide_eq_true rfl]
    ·have d:Q6 N (n.1,n.2.1,n.2.2.1,n.2.2.2.1,n.2.2.2.2) r=_:=st
     have J:Tx N ((Xz n (X6 n (X8 D n r))).1,(Xz n (X6 n (X8 D n r))).2.1,(Xz n (X6 n (X8 D n r))).2.2.1,(Xz n (X6 n (X8 D n r))).2.2.2.1,(Xz n (X6 n (X8 D n r))).2.2.2.2) r=_:=y1
     have K:=Zo4 a ok
     obtain ⟨e2,L,c2,_⟩:=Zu7 (N:=N) I (hr.mono (by decide)) (by omega)
     rw [G] at L
     have M:Zpu (Xz n (X6 n (X8 D n r))):=⟨hb.nm,hb.vn,hb.vl,hb.pn,hb.pl,by have:=K.ev.t;show (X6 n (X8 D n r)).length≤1048576;rw [X6,aN,cU];omega,fun t h=>by have:=(j t h).1;omega,fun t h z g=>by
      have h1:=((j t h).2 z g).lm
      have h2:=((j t h).2 z g).ld
      omega⟩
     have O:Zc7 N ((Xz n (X6 n (X8 D n r))).1,(Xz n (X6 n (X8 D n r))).2.1,(Xz n (X6 n (X8 D n r))).2.2.1,(Xz n (X6 n (X8 D n r))).2.2.2.1,(Xz n (X6 n (X8 D n r))).2.2.2.2)=_:=Z2r f M c2
     have e0:e2=0:=(Option.some.inj L).symm
     have sh:Zhb N (n.1,n.2.1,n.2.2.1,n.2.2.2.1,n.2.2.2.2) ((Xz n (X6 n (X8 D n r))).1,(Xz n (X6 n (X8 D n r))).2.1,(Xz n (X6 n (X8 D n r))).2.2.1,(Xz n (X6 n (X8 D n r))).2.2.2.1,(Xz n (X6 n (X8 D n r))).2.2.2.2)=some true:=Xav o a.ev.p (by omega) hb.pl (by omega) _
     have am:Zg9 N (((Zp x).1.1,(Zp x).1.2),(Zp x).2) (((Zp y).1.1,(Zp y).1.2),(Zp y).2)=some true:=by
      have h:=Z3i (N:=N) (V5 A) (V5 y2) (hr.mono (by decide))
      rw [Wo,Wo] at h
      rw [show (((Zp x).1.1,(Zp x).1.2),(Zp x).2)=Zp x from rfl,show (((Zp y).1.1,(Zp y).1.2),(Zp y).2)=Zp y from rfl,h]
      congr 1
      refine decide_eq_true ?_
      rw [Sg]
      split
      ·decide
      ·rw [if_neg (fC.2 H)];decide
     rw [d,oB,if_neg (by decide)]
     dsimp only
     rw [decide_eq_true rfl,Bool.not_true,Zg8,if_neg (by decide),E,oB,if_neg (by rw [decide_eq_false F];decide),u,oB]
     dsimp only
     rw [J,oB,if_pos (dT rfl)]
     dsimp only
     rw [if_pos (dT rfl),O,oB,if_pos (dT e0),sh,oB,if_pos rfl,am,oB]
     rfl
   ·rw [Bool.eq_false_iff.2 hw,Bool.not_false,if_pos rfl]
 ·rw [decide_eq_false he,Bool.not_false,if_pos rfl,Zc6,if_pos rfl]
end
theorem Zay {α:Type} {b:α→Nat} (hb:∀ x,1≤b x):∀ (l:List α),l.length+1≤Xy b l
 | []=>by simp [Xy]
 | x :: l=>by
  have h:=Zay hb l
  have:=hb x
  simp only [Xy,aS,eY,nC] at h ⊢
  omega
theorem Zob {α:Type} {b:α→Nat} {x:α}:∀ {l:List α},x ∈ l→b x+1≤Xy b l
 | y :: l,h=>by
  simp only [Xy,aS,eY]
  rcases aO.1 h with rfl | h
  ·omega
  ·have:=Zob (b:=b) h
   simp only [Xy] at this
   omega
theorem Zml {α:Type} {b:α→Nat} (l:List α):1≤Xy b l:=by simp only [Xy];omega
theorem Zpz (s:ByteArray):1≤U3 s:=by simp only [U3];omega
theorem Zpy {α:Type} (s:α):1≤W6 s:=by simp only [W6];omega
theorem Z3o {α:Type} {b:α→Nat} (s:α):1≤Te b s:=by simp only [Te];omega
abbrev Zbt:QV→Nat:=Te (Vn (Te (Vn W6 (Xy W6))) (Xy W6))
abbrev qQ:QV→Prop:=S0 (S0 (fun _=>True) (Vg (Zak .u32))) (Vg (Zak .u32))
abbrev Zgs:Zq→Nat:=Te (Vn U3 (Vn (Xy U3) (Vn (Xy (Xy U3)) (Vn (Xy (Xy W6)) (Xy (Xy Zbt))))))
abbrev Zzd:Zq→Prop:=S0 (fun _=>True) (S0 (Vg (fun _=>True)) (S0 (Vg (Vg (fun _=>True))) (S0 (Vg (Vg (Zak .i64))) (Vg (Vg qQ)))))
theorem Zxk {l:List Int} (h:Vg (Zak .u32) l):Zn l:=by
 intro d a
 have b:=h d a
 simp [Zak,Lit.wf,IntKind.min,IntKind.max,IntKind.signed,IntKind.bits] at b
 omega
theorem Z78 {x:QV} (h:qQ x):Vf x:=⟨Zxk h.1.2,Zxk h.2⟩
theorem Zt3 (x:QV):x.1.2.length+x.2.length+4≤Zbt x:=by
 have a:=Zay (b:=W6) Zpy x.1.2
 have c:=Zay (b:=W6) Zpy x.2
 simp only [Te,Vn]
 have d:W6 x.1.1=1:=rfl
 omega
theorem Zsc:∀ t:List QV,Xx t≤Xy Zbt t
 | []=>by rw [Xx];omega
 | x :: t=>by
  have a:=Zsc t
  have b:=Zt3 x
  rw [Xx]
  simp only [Xy,aS,eY] at a ⊢
  omega
theorem Z2q:∀ P:List R2,T5 P+P.length≤Xy (Xy W6) P
 | []=>by simp [T5,Xy]
 | l :: P=>by
  have a:=Z2q P
  have c:=Zay (b:=W6) Zpy l
  rw [Zl8,nC]
  simp only [Xy,aS,eY] at a c ⊢
  omega
theorem Z8q {n:Zq} (hb:Zgs n≤1048576) (hq:Zzd n):Ww n 1048576∧Zjt n:=by
 have m:=Zpz n.1
 have o:=Zay (b:=U3) Zpz n.2.1
 have p:=Zay (b:=Xy U3) Zml n.2.2.1
 have q:=Z2q n.2.2.2.1
 have r:=Zay (b:=Xy Zbt) Zml n.2.2.2.2
 have s:=Zml (b:=Xy W6) n.2.2.2.1
 simp only [Zgs,Te,Vn] at hb
 have g:∀ l ∈ n.2.2.1,l.length≤1048576:=fun l d=>by
  have c:=Zob (b:=Xy U3) d
  have i:=Zay (b:=U3) Zpz l
  omega
 have k:∀ l ∈ n.2.2.2.1,l.length≤1048576:=fun l d=>by
  have c:=Zpg d
  omega
 have e:∀ t ∈ n.2.2.2.2,Xy Zbt t≤1048576:=fun t a=>by
  have c:=Zob (b:=Xy Zbt) a
  omega
 have j:∀ t ∈ n.2.2.2.2,t.length≤1048576:=fun t a=>by
  have c:=e t a
  have i:=Zay (b:=Zbt) Z3o t
  omega
 refine ⟨⟨by omega,g,⟨by omega,by omega⟩,j,fun t a=>aU (Zsc t) (e t a),fun t a x f=>Z78 (hq.2.2.2.2 t a x f)⟩,⟨by omega,by omega,g,by omega,k,by omega,j,fun t a x f=>?_⟩⟩
 have c:=e t a
 have i:=Zob (b:=Zbt) f
 have u:=Zt3 x
 omega
theorem Zzh:∀ T:List (List QV),(T.map Xx).sum≤Xy (Xy Zbt) T
 | []=>by simp [Xy]
 | t :: T=>by
  have a:=Zzh T
  have b:=Zsc t
  simp only [Xy,aS,eY] at a b ⊢
  omega
theorem Z8p {n:Zq} (hb:Zgs n≤1048576):(n.2.2.2.2.map Xx).sum≤1048576:=by
 have a:=Zzh n.2.2.2.2
 simp only [Zgs,Te,Vn] at hb
 omega

end Go.Proofs.YtkhnlgdenkikoaaGreat
