/-
  What functions of the program compute, as plain Lean functions (m_..), and proofs that they compute it (c_..). Printed by a program of the author; no conditions.
-/
import Derived.Test.YtkhnlgdenkikoaaGreatLearnRisesBFloat
import Derived.Test.YtkhnlgdenkikoaaGreatProg
import Derived.Test.YtkhnlgdenkikoaaGreatLearnRisesBBrief
import Derived.Test.YtkhnlgdenkikoaaGreatLearnRisesBMixD
import Derived.Test.YtkhnlgdenkikoaaGreatLearnRisesF4
set_option linter.unusedVariables false
set_option maxRecDepth 100000
set_option maxHeartbeats 2000000
namespace Go.Proofs.YtkhnlgdenkikoaaGreat
open Go Go.RowKit
open List renaming replicate→aM,foldl_cons→eR,length_replicate→bD,mem_or_eq_of_mem_set→fT,getElem_mem→aG,getD_eq_getElem?_getD→aE,getElem?_eq_none→cJ,eq_of_mem_replicate→dV,getElem?_cons_zero→jF,set_cons_zero→fQ,set_cons_succ→kE,getElem?_eq_getElem→aN,foldl_nil→iV,append_nil→dD,mem_cons_self→aC,mem_cons_of_mem→aB,append_assoc→bG,singleton_append→dS,nil_append→aV,length_map→aI,length_range→bW,getElem_map→cC,getElem_range→eT,map_nil→bN,map_cons→aQ,mem_map→bO,drop_eq_nil_iff→aH,drop_of_length_le→cK,drop_eq_getElem_cons→aK,all_eq_true→cV,set_eq_of_length_le→jD,range'→cH,getElem?_set_ne→fD,range'_succ→eM,flatMap_cons→dG,mem_singleton→bT,mem_flatMap→kP,mem_range'_1→dU,map_append→eE,length_singleton→aL,mem_cons→aP,not_mem_nil→bL,map_singleton→fN,cons_append→bY,map→eL,drop_zero→aT,getElem?_set_self'→jG,map_map→iJ,map_congr_left→eQ,drop_eq_nil_of_le→aO,map_take→iE,map_drop→iF,mem_of_mem_take→cR,mem_of_mem_drop→cM,getElem_replicate→jK,length_drop→bI,flatMap_nil→iK,take_zero→eX,nodup_cons→cP,take_append_drop→dM,getElem_of_mem→jX
open Nat renaming lt_or_ge→cQ,zero_le→bK,lt_of_lt_of_le→aF,zero_add→cW,add_zero→bQ,add_mul→aZ,one_mul→aX,add_comm→eW,le_refl→aY,mul_pos→iO,le_trans→aU,le_mul_of_pos_left→eF,mul_le_mul_left→aR,mul_le_mul_right→bC,mul_add→dZ,mul_one→eU,mul_comm→cB,mul_le_mul→iD,mul_ne_zero→eG,beq→aJ,add_assoc→dW,zero_mul→cT,mul_assoc→cE,le_mul_of_pos_right→eC,sub_self→fO
open Int renaming le_refl→gI,toNat→aA,toNat_natCast→aD,natCast_add→eB,natCast_mul→bU,natAbs_natCast→eY
open Rat renaming mul_assoc→bH,le_refl→cS,mul_nonneg→bV,mul_one→bR,one_mul→cZ,natCast_inj→eH,div_def→bS,mul_zero→fL,zero_mul→dC,natCast_add→hH,add_mul→gM,mul_eq_zero→lB,lt_irrefl→dO,mul_inv_cancel→cN,le_of_lt→fM,mul_pos→gE,not_le→gB,add_nonneg→jJ,mul_le_mul_of_nonneg_right→cD,le_trans→eO,add_zero→gY,zero_mkRat→lJ,mkRat_eq_div→dA,natCast_mul→lC,mul_comm→iN
open Go.IntKind (i8 i16 i32 i64 u8 u16 u32 u64)
open Go.Proofs.Tryz

/-! assignments with weights -/
def wP (n:Zp):List R8→Rat
 | []=>1
 | p :: l=>Zw (Zx n p.2 n.2.1.length 0) p.1 * wP n l
def Ui (n:Zp) (v:Nat) (c:List Int) (p:Nat×List Int):List Int:=c.set (Xt n v p.2) (c.getD (Xt n v p.2) 0+(p.1:Int))
def Wj (n:Zp) (v:Nat) (L:List R8):List Int:=L.foldl (Ui n v) (aM (n.2.2.2.2.getD v []).length 0)
theorem Zut (n:Zp) (v:Nat) (L:List R8) (p:Nat×List Int):Wj n v (L++[p])=Ui n v (Wj n v L) p:=by
 rw [Wj,List.foldl_append];rfl
theorem Z8s (n:Zp) (v:Nat) (c:List Int) (p:Nat×List Int):(Ui n v c p).length=c.length:=by rw [Ui,nS]
theorem Zv0 (n:Zp) (v:Nat):∀ (L:List R8) (c:List Int),(L.foldl (Ui n v) c).length=c.length
 | [],c=>rfl
 | p :: L,c=>by rw [eR,Zv0 n v L,Z8s]
theorem Zgk (n:Zp) (v:Nat) (L:List R8):(Wj n v L).length=(n.2.2.2.2.getD v []).length:=by rw [Wj,Zv0,bD]
theorem Zqg (n:Zp) (v:Nat):∀ (L:List R8) (c:List Int),(∀ x ∈ c,0≤x)→∀ x ∈ L.foldl (Ui n v) c,0≤x
 | [],c,h=>h
 | p :: L,c,h=>by
  rw [eR]
  refine Zqg n v L _ fun x d=>?_
  rw [Ui] at d
  rcases fT d with e | rfl
  ·exact h x e
  ·have:0≤c.getD (Xt n v p.2) 0:=by
    rcases cQ (Xt n v p.2) c.length with b | b
    ·rw [Xi b];exact h _ (aG b)
    ·rw [aE,cJ b];exact gI _
   omega
theorem Zjh (n:Zp) (v:Nat) (L:List R8):∀ x ∈ Wj n v L,0≤x:=
 Zqg n v L _ fun x b=>by rw [dV b];exact gI _
theorem Z19:∀ (t:List QV) (c:List Int) (i:Nat) (x:QV) (k:Int) (a:Nat),t[i]?=some x→c[i]?=some k→0≤k→Wc t (c.set i (k+(a:Int)))=Wc t c * Zw (Zr x) a
 | [],_,i,x,k,a,h,_,_=>by simp at h
 | _ :: _,[],i,x,k,a,_,h,_=>by simp at h
 | y :: t,d :: c,0,x,k,a,b,e,f=>by
  simp only [jF,Option.some.injEq] at b e
  subst b e
  rw [fQ,Wc,Wc,show (d+(a:Int)).toNat=d.toNat+a by omega,Zrr]
  generalize Zw (Zr y) d.toNat=A
  generalize Zw (Zr y) a=E
  generalize Wc t c=B
  grind
 | y :: t,d :: c,i+1,x,k,a,b,e,f=>by
  rw [kE,Wc,Wc,Z19 t c i x k a (by simpa using b) (by simpa using e) f,bH]
def V9 (T:List (List QV)) (C:Nat→List Int):Nat→Nat→Rat
 | 0,_=>1
 | m+1,v=>Wc (T.getD v []) (C v) * V9 T C m (v+1)
theorem Z2p {T T':List (List QV)} {C:Nat→List Int} {s:Nat} (hn:∀ v,v<s→∀ x ∈ T.getD v [],0≤Zr x) (hle:∀ v,v<s→Wc (T.getD v []) (C v)≤Wc (T'.getD v []) (C v)):∀ m v,v+m≤s→0≤V9 T C m v∧V9 T C m v≤V9 T' C m v
 | 0,v,_=>by rw [V9,V9];exact ⟨by decide,cS⟩
 | m+1,v,d=>by
  obtain ⟨b,c⟩:=Z2p hn hle m (v+1) (by omega)
  have a:=Zow (T.getD v []) (C v) (hn v (by omega))
  rw [V9,V9]
  exact ⟨bV a b,Zrd a (hle v (by omega)) b c⟩
section
variable {N:Nat} {n:Zp} (hf:Xu N n) {T:List (List QV)} (h:Zap n T)
include hf h
theorem Z2q {p:Nat×List Int} (hw:Xn n p.2) (L:List R8):∀ m v,v+m≤n.2.1.length→V9 T (fun v=>Wj n v (L++[p])) m v=V9 T (fun v=>Wj n v L) m v * Zw (Zx (Xp n T) p.2 m v) p.1
 | 0,v,_=>by rw [V9,V9,Zx,Zle,bR]
 | m+1,v,i=>by
  have d:(p.2.getD v 0).toNat<cnt n v:=by
   have:=hw.ok v (by rw [hw.len];omega)
   omega
  have hp:=Zd6 hf (v:=v) (by omega) hw
  have f:=h.sz v (by omega)
  have e:ent (Xp n T) p.2 v=Zr ((T.getD v []).getD (Xt n v p.2) ((false,[]),[])):=Zz4 (T:=T) d
  have c:Xt n v p.2<(T.getD v []).length:=by rw [f];exact hp
  have b:Xt n v p.2<(Wj n v L).length:=by rw [Zgk];exact hp
  have g:=Zjh n v L _ (aG b)
  rw [V9,V9,Zx,Z2q hw L m (v+1) (by omega),Zut,Ui,Xi b,Z19 _ _ _ _ _ _ (aN (l:=T.getD v []) c) (aN b) g,e,Xi c,Zah]
  generalize Wc (T.getD v []) (Wj n v L)=A
  generalize V9 T (fun v=>Wj n v L) m (v+1)=B
  generalize Zw (Zx (Xp n T) p.2 m (v+1)) p.1=C
  generalize Zw (Zr (T.getD v [])[Xt n v p.2]) p.1=D
  grind
omit hf h in
theorem Z2r:∀ m v,V9 T (fun v=>Wj n v []) m v=1
 | 0,v=>rfl
 | m+1,v=>by
  rw [V9,Z2r m (v+1),bR]
  exact Zov _ _ fun x b=>by rw [Wj,iV] at b;rw [dV b];rfl
theorem Z2s:∀ (l pre:List R8),(∀ p ∈ l,Xn n p.2)→V9 T (fun v=>Wj n v pre) n.2.1.length 0 * wP (Xp n T) l=V9 T (fun v=>Wj n v (pre++l)) n.2.1.length 0
 | [],pre,_=>by rw [wP,bR,dD]
 | p :: l,pre,b=>by
  have d:=Z2q hf h (b p aC) pre n.2.1.length 0 (by omega)
  have c:=Z2s l (pre++[p]) fun x e=>b x (aB _ e)
  rw [bG,dS,d] at c
  rw [wP,← c,bH];rfl
theorem Z2t {l:List R8} (hl:∀ p ∈ l,Xn n p.2):wP (Xp n T) l=V9 T (fun v=>Wj n v l) n.2.1.length 0:=by
 have:=Z2s hf h l [] hl
 rwa [Z2r,cZ,aV] at this
end
def Yo (n:Zp) (L:List R8):List (List QV):=(List.range n.2.1.length).map fun v=>Wb (cnt n v) (Wu n v) ((n.2.2.2.2.getD v []).map Yp) (Yj 0 (Wj n v L))
theorem Zsq {n:Zp} {L:List R8} {v:Nat} (hv:v<n.2.1.length):(Yo n L).getD v []=Wb (cnt n v) (Wu n v) ((n.2.2.2.2.getD v []).map Yp) (Yj 0 (Wj n v L)):=by
 rw [Xi (by rw [Yo,aI,bW];exact hv)]
 simp only [Yo,cC,eT]
theorem Xai {N:Nat} {n:Zp} (hf:Xu N n) {L:List R8} {T:List (List QV)} (h:Zap n T) (h0:Zap n (Yo n L)) (hL:∀ p ∈ L,Xn n p.2):wP (Xp n T) L≤wP (Xp n (Yo n L)) L:=by
 rw [Z2t hf h hL,Z2t hf h0 hL]
 refine (Z2p (s:=n.2.1.length) (fun v b x c=>(h.ent v b x c).1) (fun v b=>?_) n.2.1.length 0 (by omega)).2
 have d:=(hf.rows b).1
 rw [Zsq b]
 exact Z2a _ _ _ _ (by rw [aI];exact d.symm) ((h.sz v b).trans d.symm) (by rw [Zgk];exact d.symm) (Zjh n v L) (fun x c=>(h.ent v b x c).1) (h.row v b)
/-! one observation:its assignments -/
def Zz (n:Zp) (C:List R2):Rat:=Xq (C.map fun x=>Zx n x n.2.1.length 0)
def aW (D:Nat) (n:Zp) (p:Rat) (x:List Int):Nat:=((D:Rat) * Zx n x n.2.1.length 0 / p).num.toNat
def Tk (D:Nat) (n:Zp) (C:List R2):List R8:=C.map fun x=>(aW D n (Zz n C) x,x)
theorem Zcj {n:Nat} (h:n≠0):(n:Rat)≠0:=fun e=>h (by
 have:((n:Nat):Rat)=((0:Nat):Rat):=e
 exact eH.1 this)
theorem natCast_pos {n:Nat} (h:n≠0):(0:Rat)<(n:Rat):=by
 have:((0:Nat):Rat)<((n:Nat):Rat):=Rat.natCast_lt_natCast.2 (by omega)
 exact this
theorem Zn1 (n:Nat):(0:Rat)≤(n:Rat):=by
 have:((0:Nat):Rat)≤(n:Rat):=Rat.natCast_le_natCast.2 (bK _)
 exact this
theorem Sp {a b:Rat} (h:b≠0):a / b * b=a:=by rw [bS,bH,Rat.inv_mul_cancel _ h,bR]
section
variable {D:Nat} {p:Rat} (hp:0<p) (a:List Int→Nat)
variable (P P':List Int→Rat)
theorem Zqa:∀ C:List R2,(∀ x ∈ C,(a x:Rat) * p=(D:Rat) * P x)→((Wh (C.map fun x=>(a x,P' x / P x)):Nat):Rat) * p=(D:Rat) * Xq (C.map P)
 | [],_=>by rw [bN,Wh,bN,Xq,fL];exact dC p
 | x :: C,h=>by
  rw [aQ,Wh,aQ,Xq,hH,gM,Zqa C fun y b=>h y (aB _ b),h x aC,Rat.mul_add]
theorem Zvg:∀ C:List R2,(∀ x ∈ C,(a x:Rat) * p=(D:Rat) * P x)→(∀ x ∈ C,0≤P' x)→U6 (C.map fun x=>(a x,P' x / P x)) * p≤(D:Rat) * Xq (C.map P')
 | [],_,_=>by rw [bN,U6,bN,Xq,fL,dC];exact cS
 | x :: C,h,c=>by
  have i:=Zvg C (fun y b=>h y (aB _ b)) fun y b=>c y (aB _ b)
  have g:=h x aC
  have d:=c x aC
  have f:=Zn1 D
  have j:(a x:Rat) * (P' x / P x) * p≤(D:Rat) * P' x:=by
   have e:(a x:Rat) * (P' x / P x) * p=(D:Rat) * (P' x / P x * P x):=by
    have:(a x:Rat) * (P' x / P x) * p=(a x:Rat) * p * (P' x / P x):=by grind
    rw [this,g];grind
   rw [e]
   by_cases hz:P x=0
   ·rw [hz,fL,fL];exact bV f d
   ·rw [Sp hz];exact cS
  rw [aQ,U6,aQ,Xq,gM,Rat.mul_add]
  grind
include hp in
theorem Zve {x:List Int} (h:(a x:Rat) * p=(D:Rat) * P x) (hz:P x=0):a x=0:=by
 rw [hz,fL] at h
 rcases lB.1 h with h | h
 ·exact eH.1 h
 ·rw [h] at hp;exact absurd hp dO
end
section
variable {n n':Zp} {D:Nat} (hD:D≠0)
include hD
theorem Z9x {C:List R2} (hp:0<Zz n C) (hI:∀ x ∈ C,∃ z:Nat,(D:Rat) * Zx n x n.2.1.length 0 / Zz n C=(z:Rat)) (h0:∀ x ∈ C,0≤Zx n' x n'.2.1.length 0):
  wP n' (Tk D n C) * Zw (Zz n C) D≤Zw (Zz n' C) D * wP n (Tk D n C):=by
 have g:Zz n C≠0:=fun e=>by rw [e] at hp;exact absurd hp dO
 have f:∀ x ∈ C,(aW D n (Zz n C) x:Rat) * Zz n C=(D:Rat) * Zx n x n.2.1.length 0:=fun x b=>by
  obtain ⟨z,i⟩:=hI x b
  have:aW D n (Zz n C) x=z:=by rw [aW,i];simp
  rw [this,← i,Sp g]
 obtain ⟨p,j⟩:∃ p,p=Zz n C:=⟨_,rfl⟩
 rw [← j] at hp f g
 have s:=Zqa (aW D n p) (fun x=>Zx n x n.2.1.length 0) (fun x=>Zx n' x n'.2.1.length 0) C f
 have F:=Zvg (aW D n p) (fun x=>Zx n x n.2.1.length 0) (fun x=>Zx n' x n'.2.1.length 0) C f h0
 have K:Xq (C.map fun x=>Zx n x n.2.1.length 0)=p:=j.symm
 rw [K] at s
 have L:Wh (C.map fun x=>(aW D n p x,Zx n' x n'.2.1.length 0 / Zx n x n.2.1.length 0))=D:=by
  have c:=congrArg (· * p⁻¹) s
  simp only [bH,cN _ g,bR] at c
  exact eH.1 c
 have M:∀ q ∈ C.map fun x=>(aW D n p x,Zx n' x n'.2.1.length 0 / Zx n x n.2.1.length 0),0≤q.2∨q.1=0:=fun q r=>by
  obtain ⟨x,b,rfl⟩:=bO.1 r
  by_cases H:0≤Zx n x n.2.1.length 0
  ·exact .inl (by rw [bS];exact bV (h0 x b) (Zqo H))
  ·exfalso
   have c:=f x b
   have d:=bV (Zn1 (aW D n p x)) (fM hp)
   rw [c] at d
   have m:(D:Rat) * Zx n x n.2.1.length 0<0:=by
    have o:=natCast_pos hD
    have O:0<(D:Rat) * (-Zx n x n.2.1.length 0):=gE o (by grind)
    grind
   exact absurd d (gB.2 m)
 have t:∀ q ∈ C.map fun x=>(aW D n p x,Zx n' x n'.2.1.length 0 / Zx n x n.2.1.length 0),0≤q.2:=fun q r=>by
  obtain ⟨x,b,rfl⟩:=bO.1 r
  rcases M _ r with h | h
  ·exact h
  ·have c:=f x b
   rw [show aW D n p x=0 from h] at c
   have d:Zx n x n.2.1.length 0=0:=by
    have m:(D:Rat) * Zx n x n.2.1.length 0=0:=by rw [← c];exact dC p
    rcases lB.1 m with o | o
    ·exact absurd o (Zcj hD)
    ·exact o
   show 0≤Zx n' x n'.2.1.length 0 / Zx n x n.2.1.length 0
   rw [d,bS,Rat.inv_zero,fL];exact cS
 have I:=Ztl _ t
 rw [L] at I
 -- the sum of the weighted shares
 have Q:0≤U6 (C.map fun x=>(aW D n p x,Zx n' x n'.2.1.length 0 / Zx n x n.2.1.length 0)):=by
  have:∀ l:List (Nat×Rat),(∀ q ∈ l,0≤q.2)→0≤U6 l:=fun l=>by
   induction l with
   | nil=>intro _;rw [U6];exact cS
   | cons q l v=>intro h;rw [U6];exact jJ (bV (Zn1 _) (h q aC)) (v fun y w=>h y (aB _ w))
  exact this _ t
 have R:Xq (C.map fun x=>Zx n' x n'.2.1.length 0)=Zz n' C:=rfl
 rw [R] at F
 -- powers
 have S:Zw (U6 (C.map fun x=>(aW D n p x,Zx n' x n'.2.1.length 0 / Zx n x n.2.1.length 0))) D * Zw p D≤Zw (D:Rat) D * Zw (Zz n' C) D:=by
  rw [← Zah,← Zah]
  exact Zrs (bV Q (fM hp)) F D
 have U:=cD I (Qv (fM hp) D)
 have k3:=eO U S
 have V:=Zlf (natCast_pos hD) D
 have W:Vh (C.map fun x=>(aW D n p x,Zx n' x n'.2.1.length 0 / Zx n x n.2.1.length 0)) * Zw p D≤Zw (Zz n' C) D:=by
  refine Rat.le_of_mul_le_mul_right ?_ V
  generalize Vh (C.map fun x=>(aW D n p x,Zx n' x n'.2.1.length 0 / Zx n x n.2.1.length 0))=A at *
  generalize Zw (D:Rat) D=B at *
  generalize Zw p D=E at *
  generalize Zw (Zz n' C) D=G at *
  grind
 -- back to the products
 have split:∀ l:List R2,(∀ x ∈ l,x ∈ C)→wP n' (l.map fun x=>(aW D n p x,x))=Vh (l.map fun x=>(aW D n p x,Zx n' x n'.2.1.length 0 / Zx n x n.2.1.length 0)) * wP n (l.map fun x=>(aW D n p x,x))∧0≤wP n (l.map fun x=>(aW D n p x,x)):=fun l=>by
  induction l with
  | nil=>intro _;rw [bN,bN,wP,Vh,wP,bR];exact ⟨rfl,by decide⟩
  | cons x l v=>
   intro J
   obtain ⟨X,Y⟩:=v fun y w=>J y (aB _ w)
   have b:=J x aC
   have u:=f x b
   have k:Zw (Zx n' x n'.2.1.length 0) (aW D n p x)=Zw (Zx n' x n'.2.1.length 0 / Zx n x n.2.1.length 0) (aW D n p x) * Zw (Zx n x n.2.1.length 0) (aW D n p x)∧0≤Zw (Zx n x n.2.1.length 0) (aW D n p x):=by
    by_cases i:Zx n x n.2.1.length 0=0
    ·have:aW D n p x=0:=Zve hp (aW D n p) (fun x=>Zx n x n.2.1.length 0) u i
     rw [this,Zw,Zw,Zw,bR];exact ⟨rfl,by decide⟩
    ·refine ⟨by rw [← Zah,Sp i],Qv ?_ _⟩
     refine Classical.byContradiction fun H=>?_
     have d:=bV (Zn1 (aW D n p x)) (fM hp)
     rw [u] at d
     have O:0<(D:Rat) * (-Zx n x n.2.1.length 0):=gE (natCast_pos hD) (by grind)
     have m:(D:Rat) * Zx n x n.2.1.length 0<0:=by grind
     exact absurd d (gB.2 m)
   rw [aQ,aQ,wP,Vh,wP,X]
   refine ⟨?_,bV k.2 Y⟩
   show Zw (Zx n' x n'.2.1.length 0) (aW D n p x) * _=Zw (Zx n' x n'.2.1.length 0 / Zx n x n.2.1.length 0) (aW D n p x) * _ * (Zw (Zx n x n.2.1.length 0) (aW D n p x) * _)
   rw [k.1]
   generalize Zw (Zx n' x n'.2.1.length 0 / Zx n x n.2.1.length 0) (aW D n p x)=A1
   generalize Zw (Zx n x n.2.1.length 0) (aW D n p x)=A2
   generalize Vh (l.map fun x=>(aW D n p x,Zx n' x n'.2.1.length 0 / Zx n x n.2.1.length 0))=A3
   generalize wP n (l.map fun x=>(aW D n p x,x))=A4
   grind
 obtain ⟨Z,f2⟩:=split C fun _ h=>h
 rw [Tk,← j,Z]
 have:=cD W f2
 generalize Vh (C.map fun x=>(aW D n p x,Zx n' x n'.2.1.length 0 / Zx n x n.2.1.length 0))=A at *
 generalize wP n (C.map fun x=>(aW D n p x,x))=B at *
 generalize Zw p D=E at *
 generalize Zw (Zz n' C) D=G at *
 grind
end
def Zc6 (N:Nat) (rc:(R0→R2→Int→Option Rb)) (aa:R0) (ab:Int) (ag:List ByteArray):Nat→R2→Int→Bool→R2→R2→Option Rb
  | 0,_,_,_,_,_=>none
  | ak+1,ac,ae,ah,ai,aj=>if (decide (ae<(ag.length:Int)))=true then ((Zm ac ab).bind fun an=>(some (ac.set (aA ab) ae)).bind fun al=>(rc (aa.1,aa.2.1,aa.2.2.1,aa.2.2.2.1,aa.2.2.2.2) al (i64.wrap (ab+1))).bind fun ad=>(Su N ((ah,ai),aj) ((ad.1.1.1,ad.1.1.2),ad.1.2)).bind fun af=>(Zc6 N rc aa ab ag ak) ad.2 (i64.wrap (ae+1)) af.1.1 af.1.2 af.2) else ((Zm ac ab).bind fun ao=>(some (ac.set (aA ab) (-1))).bind fun am=>some (((ah,ai),aj),am))
termination_by structural x=>x
def Zc5 (N:Nat) (rc:(R0→R2→Int→Option Rb)) (aa:R0):Nat→R2→Bool→R2→R2→Int→Option Rb
  | 0,_,_,_,_,_=>none
  | af+1,ab,ag,ah,ai,ac=>if (decide (ac<(ab.length:Int)))=true then ((Zm ab ac).bind fun aj=>if (decide (0≤aj))=true then ((Zc5 N rc aa af) ab ag ah ai (i64.wrap (ac+1))) else ((Zc8 N ([]:List R1)).bind fun ad=>(Zm aa.2.2.1 ac).bind fun ak=>Zc6 N rc aa ac ak N ab 0 ad.1.1 ad.1.2 ad.2)) else ((Qi N (aa.1,aa.2.1,aa.2.2.1,aa.2.2.2.1,aa.2.2.2.2) ab).bind fun ae=>some (((ae.1.1.1,ae.1.1.2),ae.1.2),ab))
termination_by structural x=>x
def Zmt (N:Nat) (rc:(R0→R2→Int→Option Rb)) (aa:R0) (ab:List Int) (ac:Int):Option Rb:=
  Zc5 N rc aa N ab false ([]:List Int) ([]:List Int) ac
theorem Z3n (N:Nat) (rc:(R0→R2→Int→Option Rb)) (IH:∀ (c1:Nat) (c2:Nat) (col:Ze) (w0:World) (qc1:Nat) (hd:U1 [qc1]=true) (ay:Option Addr) (az:Nat) (a0:Option Addr) (a2:Nat) (a3:Option Addr) (a4:Nat) (a5:Option Addr) (a6:Nat) (ab:R0) (a1:Option Addr) (ag:Nat) (ai:List Int) (br:Int) (bs:Sl Za.str col w0 ay az ab.2.1) (bg:Sl (Za.slice Za.str) col w0 a0 a2 ab.2.2.1) (bt:Sl (Za.slice (Za.int .i64)) col w0 a3 a4 ab.2.2.2.1) (bu:Sl (Za.slice (Za.pair (Za.pair Za.bool (Za.slice (Za.int .u32))) (Za.slice (Za.int .u32)))) col w0 a5 a6 ab.2.2.2.2) (h1:Zb (Za.int .i64) 3 qc1 col w0 a1 ag ai) (r:Rb) (hm:rc ab ai br=some r),Calls prog 108 #[(.agg #[.string ab.1,.slice ay ab.2.1.length az,.slice a0 ab.2.2.1.length a2,.slice a3 ab.2.2.2.1.length a4,.slice a5 ab.2.2.2.2.length a6]),.slice a1 ai.length ag,.int .i64 br] w0 (fun e w'=>∃ (col':Ze) (ra1:Option Addr) (rc2:Nat) (ra4:Option Addr) (rc5:Nat),e= .returned ((.agg #[.bool r.1.1.1,.slice ra1 r.1.1.2.length rc2,.slice ra4 r.1.2.length rc5]))∧Zu (pS [qc1]) col w0 col' w'∧Zb (Za.int .u32) 95 c1 col' w' ra1 rc2 r.1.1.2∧Zb (Za.int .u32) 95 c2 col' w' ra4 rc5 r.1.2∧Zb (Za.int .i64) 3 qc1 col' w' a1 ag r.2∧r.2.length=ai.length)) (c1:Nat) (c2:Nat) (col:Ze) (w0:World) (qc1:Nat) (hd:U1 [qc1]=true) (ay:Option Addr) (az:Nat) (a0:Option Addr) (a2:Nat) (a3:Option Addr) (a4:Nat) (a5:Option Addr) (a6:Nat) (ab:R0) (a1:Option Addr) (ag:Nat) (ai:List Int) (br:Int) (bs:Sl Za.str col w0 ay az ab.2.1) (bg:Sl (Za.slice Za.str) col w0 a0 a2 ab.2.2.1) (bt:Sl (Za.slice (Za.int .i64)) col w0 a3 a4 ab.2.2.2.1) (bu:Sl (Za.slice (Za.pair (Za.pair Za.bool (Za.slice (Za.int .u32))) (Za.slice (Za.int .u32)))) col w0 a5 a6 ab.2.2.2.2) (h1:Zb (Za.int .i64) 3 qc1 col w0 a1 ag ai) (r:Rb) (hm:Zmt N rc ab ai br=some r):
    Calls prog 108 #[(.agg #[.string ab.1,.slice ay ab.2.1.length az,.slice a0 ab.2.2.1.length a2,.slice a3 ab.2.2.2.1.length a4,.slice a5 ab.2.2.2.2.length a6]),.slice a1 ai.length ag,.int .i64 br] w0 (fun e w'=>∃ (col':Ze) (ra1:Option Addr) (rc2:Nat) (ra4:Option Addr) (rc5:Nat),e= .returned ((.agg #[.bool r.1.1.1,.slice ra1 r.1.1.2.length rc2,.slice ra4 r.1.2.length rc5]))∧Zu (pS [qc1]) col w0 col' w'∧Zb (Za.int .u32) 95 c1 col' w' ra1 rc2 r.1.1.2∧Zb (Za.int .u32) 95 c2 col' w' ra4 rc5 r.1.2∧Zb (Za.int .i64) 3 qc1 col' w' a1 ag r.2∧r.2.length=ai.length):=by
 refine Wq (m:=57) func108 rfl rfl rfl ?_;rw [Zmt.eq_1] at hm;have aa:=St.startL (l:=[qc1]) rfl col w0;replace bs:=bs.keep (Zi.startL [qc1] col w0);replace bg:=bg.keep (Zi.startL [qc1] col w0);replace bt:=bt.keep (Zi.startL [qc1] col w0);replace bu:=bu.keep (Zi.startL [qc1] col w0);replace h1:=h1.startL (T9 hd 0 rfl) (T8 hd 0 rfl);refine go ?_;refine Xs (col:=(Xh [qc1] col)) 1 rfl ?_;intro c3 ed dg c4 ac;refine Xr (col:=dg) #[.bool false,.slice none (([]:List Int).length) 0,.slice none (([]:List Int).length) 0] 2 zeroValue39 ?_;intro c5 ee ef cl ad;refine go ?_;replace h1:=(h1.gr c4).gr cl;replace aa:=(aa.grow c4).grow cl;replace ac:=ac.gr cl;refine Z4 [3,6,1000000] (fun n f a9=>∃ al bj b9 bv bw bk bx bz bm aq bn,bn=n∧Zc5 N rc ab bn bj b9 bk bm aq=some r∧St w0 (Xh [qc1] col) al a9∧Zb (Za.int .i64) 3 440 al a9 a1 ag bj∧bj.length=ai.length∧Zf 27 1 al a9 c3 #[.string ab.1,.slice ay ab.2.1.length az,.slice a0 ab.2.2.1.length a2,.slice a3 ab.2.2.2.1.length a4,.slice a5 ab.2.2.2.2.length a6]∧Zb (Za.int .u32) 95 3 al a9 bv bw bk∧Zb (Za.int .u32) 95 4 al a9 bx bz bm∧Zf 39 2 al a9 c5 #[.bool b9,.slice bv bk.length bw,.slice bx bm.length bz]∧bj.length=ai.length∧[1,7].map f=[.slice a1 bj.length ag,.int .i64 aq]) N ⟨_,_,_,none,0,_,none,0,_,_,_,rfl,hm,aa,h1,rfl,ac,Zb.nil,Zb.nil,ad,rfl,rfl⟩ ?_;clear hm;intro n f a9 hI;obtain ⟨al,bj,b9,bv,bw,bk,bx,bz,bm,aq,bn,hn,hm,aa,ar,c6,ac,ae,af,ad,cn,hs⟩:=hI;subst hn;refine .lL [1,7] hs ?_
 cases bn with
 | zero=>rw [Zc5.eq_1] at hm;cases hm
 | succ bn=>
  rw [Zc5.eq_2] at hm;refine go ?_;refine Zq hm (fun hb hm=>go ?_) fun hb hm=>go ?_
  ·obtain ⟨eg,co,hm⟩:=bZ hm;refine lI co (ar.addr co)<|lW (ar.atInt co) ?_;refine go ?_;refine Zq hm (fun hb hm=>go ?_) fun hb hm=>go ?_
   ·exact ⟨bn,by omega,rfl,⟨_,_,_,_,_,_,_,_,_,_,_,rfl,hm,aa,ar,c6,ac,ae,af,ad,cn,rfl⟩⟩
   obtain ⟨eh,dh,hm⟩:=bZ hm;refine Zj (Zpm (col:=al) 5 6 dh Sl.nil) ?_;rintro _ ei ⟨di,ej,ek,el,em,rfl,bo,cp,cq⟩;refine ⟨_,rfl,?_⟩;refine Xr (col:=di) #[.bool false,.slice none (([]:List Int).length) 0,.slice none (([]:List Int).length) 0] 7 zeroValue39 ?_;intro dj en eo ba dl;refine Z5 dl ?_;intro ep bb dm ah;refine go ?_;refine Yk ⟨_,_,rfl⟩ ?_;replace ac:=((ac.gr bo).gr ba).kp bb;refine lW ((ac.atN).nth (q:=2) rfl)<|X1 rfl ?_;obtain ⟨dn,cr,hm⟩:=bZ hm;replace aa:=((aa.grow bo).grow ba).kp bb dm;refine lI cr ((bg.ks aa).addr cr) ?_;obtain ⟨_,dp,dq⟩:=(bg.ks aa).atN cr;obtain ⟨⟨eq,er,rfl,es⟩,_⟩:=dp;refine lW dq.one<|go ?_;replace ar:=((ar.gr bo).gr ba).kp bb;replace ae:=((ae.gr bo).gr ba).kp bb;replace af:=((af.gr bo).gr ba).kp bb;replace ad:=((ad.gr bo).gr ba).kp bb;replace cp:=(cp.gr ba).kp bb;replace cq:=(cq.gr ba).kp bb;refine Z4 [3,30,6,7,8,1000000] (fun n f au=>∃ aj am b0 ca cb cc b1 cd ce b2 bp,bp=n∧Zc6 N rc ab aq dn bp am b0 ca b1 b2=some r∧St w0 (Xh [qc1] col) aj au∧Zb (Za.int .i64) 3 440 aj au a1 ag am∧am.length=ai.length∧Zf 27 1 aj au c3 #[.string ab.1,.slice ay ab.2.1.length az,.slice a0 ab.2.2.1.length a2,.slice a3 ab.2.2.2.1.length a4,.slice a5 ab.2.2.2.2.length a6]∧Zb (Za.int .u32) 95 3 aj au bv bw bk∧Zb (Za.int .u32) 95 4 aj au bx bz bm∧Zf 39 2 aj au c5 #[.bool b9,.slice bv bk.length bw,.slice bx bm.length bz]∧Zb (Za.int .u32) 95 5 aj au cb cc b1∧Zb (Za.int .u32) 95 6 aj au cd ce b2∧Zf 39 7 aj au dj #[.bool ca,.slice cb b1.length cc,.slice cd b2.length ce]∧am.length=ai.length∧[1,31].map f=[.slice a1 am.length ag,.int .i64 b0]) N ⟨_,_,0,_,_,_,_,_,_,_,_,rfl,hm,aa,ar,c6,ac,ae,af,ad,cp,cq,ah,cn,rfl⟩ ?_;clear hm;intro n f au hI;obtain ⟨aj,am,b0,ca,cb,cc,b1,cd,ce,b2,bp,hn,hm,aa,cf,dr,ac,ae,af,ad,av,aw,ah,ds,hs⟩:=hI;subst hn;refine .lL [1,31] hs ?_
   cases bp with
   | zero=>rw [Zc6.eq_1] at hm;cases hm
   | succ bp=>
    rw [Zc6.eq_2] at hm;refine go ?_;refine Zq hm (fun hb hm=>go ?_) fun hb hm=>go ?_
    ·obtain ⟨et,cs,hm⟩:=bZ hm;refine lI cs (cf.addr cs) ?_;obtain ⟨a7,b3,hm⟩:=bZ hm;have b3:a7=am.set (aA aq) b0:=(Option.some.inj b3).symm;refine Wr (x1:=b0) cf cs ?_;intro dt bc du cg;rw [← b3] at cg;have dv:a7.length=ai.length:=(show am.length=a7.length by rw [b3,nS]).symm.trans dr;refine .ld (d:=1) (v:=(.slice a1 a7.length ag)) (congrArg (fun n=>Value.slice a1 n ag) (show am.length=a7.length by rw [b3,nS])) ?_;refine Zl<|Zo2 (col:=aj) (pS [440]) [(0,5),(1,0),(2,1),(3,1),(4,1),(5,4),(6,3),(7,2)] (by kernel_rfl) (by kernel_rfl) ?_;replace ah:=ah.kp bc;refine Zo8 (v:=(.agg #[.bool ca,.slice cb b1.length cc,.slice cd b2.length ce])) rfl rfl (fun _ hC=>W4 isAgg39 sizeOf39 rfl rfl (ah.dk hC rfl rfl).atN) ?_;replace ac:=ac.kp bc;refine Ziz (v:=(.agg #[.string ab.1,.slice ay ab.2.1.length az,.slice a0 ab.2.2.1.length a2,.slice a3 ab.2.2.2.1.length a4,.slice a5 ab.2.2.2.2.length a6])) rfl rfl (fun _ hC=>W4 isAgg27 sizeOf27 rfl rfl (ac.atN.gr (hC.bl aj))) ?_;refine Tl (v:=(.slice a1 a7.length ag)) rfl rfl (fun _=>V3 rfl) ?_;refine Tl (v:=(.int .i64 aq)) rfl rfl (fun _=>V3 rfl) ?_;refine Tl (v:=(.int .i64 (i64.wrap (aq+1)))) rfl rfl (fun _=>Zai aq 1 rfl rfl) ?_;refine T5 rfl rfl ?_;intro dw hC0;have hC:=hC0.bl aj;replace ae:=(ae.kp bc).gr hC;replace af:=(af.kp bc).gr hC;replace av:=(av.kp bc).gr hC;replace aw:=(aw.kp bc).gr hC;replace ad:=(ad.kp bc).gr hC;replace aa:=(aa.kp bc du).grow hC;replace cg:=cg.gr hC;replace ac:=ac.gr hC;replace ah:=ah.gr hC;have ct:Zu (pS [440]) aj dt aj dw:=hC.toP;obtain ⟨bq,dx,hm⟩:=bZ hm;refine lc rfl rfl (Zzf call108 rfl rfl rfl) (IH 8 9 aj _ 440 rfl ay az a0 a2 a3 a4 a5 a6 (ab.1,ab.2.1,ab.2.2.1,ab.2.2.2.1,ab.2.2.2.2) a1 ag a7 (i64.wrap (aq+1)) (bs.ks aa) (bg.ks aa) (bt.ks aa) (bu.ks aa) cg bq dx) ?_;rintro _ cu ⟨ax,eu,ew,ey,ez,rfl,a8,cv,cw,an,cx⟩;refine ⟨_,rfl,?_⟩;replace ae:=ae.kpp a8;replace af:=af.kpp a8;replace av:=av.kpp a8;replace aw:=aw.kpp a8;replace ac:=ac.kpp a8;replace ad:=ad.kpp a8;replace ah:=ah.kpp a8;replace ct:=ct.trans (a8.mono (by first | exact Zoe rfl | exact pS_p1 rfl | exact Zof rfl));have c7:bq.2.length=ai.length:=cx.trans dv
     refine .ld (d:=1) (v:=(.slice a1 bq.2.length ag)) (congrArg (fun n=>Value.slice a1 n ag) (show a7.length=bq.2.length from cx.symm)) ?_;refine .ld (d:=40) (v:=(.slice a1 bq.2.length ag)) (congrArg (fun n=>Value.slice a1 n ag) (show a7.length=bq.2.length from cx.symm)) ?_;refine Zl ?_;refine ⟨fun w'=>Zh ax cu ax w',fun w'=>∃ c',Zu (pS [440]) ax cu c' w',Zh.refl _ _,fun _ h=>⟨_,h.toP⟩,fun h=>absurd h (by decide),fun _ _ ⟨c9,h⟩=>⟨c9,ct.trans h⟩,?_⟩;refine T5 rfl rfl ?_;intro c8 hC0;have hC:=hC0.bl ax;replace aa:=(aa.kpp a8).grow hC;replace an:=an.gr hC;replace ae:=ae.gr hC;replace af:=af.gr hC;replace av:=av.gr hC;replace aw:=aw.gr hC;replace cv:=cv.gr hC;replace cw:=cw.gr hC;replace ac:=ac.gr hC;replace ad:=ad.gr hC;replace ah:=ah.gr hC;have cy:Zu (pS [440]) ax cu ax c8:=hC.toP;obtain ⟨e0,dy,hm⟩:=bZ hm;refine Zj (Zja 10 11 dy ((((av.toSlF (Zd.int .u32)).froz 6).froz 8).froz 9) ((((aw.froz 5 (by decide)).toSlF (Zd.int .u32)).froz 8).froz 9) ((((cv.froz 5 (by decide)).froz 6 (by decide)).toSlF (Zd.int .u32)).froz 9) ((((cw.froz 5 (by decide)).froz 6 (by decide)).froz 8 (by decide)).toSlF (Zd.int .u32))) ?_;rintro _ da ⟨dz,e1,e2,e3,e4,rfl,ak,ao,ap⟩;refine ⟨_,rfl,?_⟩;replace ao:=ao.thaw (Z7 .u32) ak (((((Fz.refl (col:=ax)).froz 5).froz 6).froz 8).froz 9) (by decide);replace ap:=ap.thaw (Z7 .u32) ak (((((Fz.refl (col:=ax)).froz 5).froz 6).froz 8).froz 9) (by decide);replace ak:=ak.thawR (col:=ax);generalize Xj c8.heap.size ax dz=bd at *;replace cy:=cy.gr ak;refine Zl ?_;refine ⟨fun w'=>Zh bd da bd w',fun w'=>∃ c',Zu (pS [440]) bd da c' w',Zh.refl _ _,fun _ h=>⟨_,h.toP⟩,fun _ _ h=>Qc hC0 ak h,fun _ _ ⟨c9,h⟩=>⟨c9,cy.trans h⟩,?_⟩;refine T5 rfl rfl ?_;intro e5 hC0;have hC:=hC0.bl bd;replace ah:=(ah.gr ak).gr hC;refine Z5 ah ?_;intro db be d0 bh;refine Zl ?_;refine ⟨fun w'=>Zh bd db bd w',fun w'=>∃ c',Zu (pS [440]) bd db c' w',Zh.refl _ _,fun _ h=>⟨_,h.toP⟩,fun h=>absurd h (by decide),fun h=>absurd h (by decide),?_⟩;refine Zo7 ?_;replace an:=((an.gr ak).gr hC).kp be;replace ae:=((ae.gr ak).gr hC).kp be;replace af:=((af.gr ak).gr hC).kp be;replace ac:=((ac.gr ak).gr hC).kp be;replace ad:=((ad.gr ak).gr hC).kp be;replace aa:=((aa.grow ak).grow hC).kp be d0
     replace ao:=(ao.gr hC).kp be;replace ap:=(ap.gr hC).kp be;intro e6 hC;replace hC:=hC.bl bd;refine go ?_;replace an:=an.gr hC;replace an:=an.recol 10 5 (by decide);replace ae:=ae.gr hC;replace ae:=ae.recol 10 5 (by decide);replace af:=af.gr hC;replace af:=af.recol 10 5 (by decide);replace ao:=ao.gr hC;replace ao:=ao.recolSelf 5 (by decide);replace ap:=ap.gr hC;replace ap:=ap.recol 10 5 (by decide);replace ac:=ac.gr hC;replace ac:=ac.recol 10 5 (by decide);replace ad:=ad.gr hC;replace ad:=ad.recol 10 5 (by decide);replace bh:=bh.gr hC;replace bh:=bh.recol 10 5 (by decide);replace aa:=aa.grow hC;replace aa:=aa.recol 10 5 (by decide) (by decide);replace an:=an.recol 11 6 (by decide);replace ae:=ae.recol 11 6 (by decide);replace af:=af.recol 11 6 (by decide);replace ao:=ao.recol 11 6 (by decide);replace ap:=ap.recolSelf 6 (by decide);replace ac:=ac.recol 11 6 (by decide);replace ad:=ad.recol 11 6 (by decide);replace bh:=bh.recol 11 6 (by decide);replace aa:=aa.recol 11 6 (by decide) (by decide);exact ⟨bp,by omega,rfl,⟨_,_,_,_,_,_,_,_,_,_,_,rfl,hm,aa,an,c7,ac,ae,af,ad,ao,ap,bh,c7,rfl⟩⟩
    obtain ⟨e7,cz,hm⟩:=bZ hm;refine lI cz (cf.addr cz) ?_;obtain ⟨c0,ch,hm⟩:=bZ hm;have ch:c0=am.set (aA aq) (-1):=(Option.some.inj ch).symm;refine Wr (x1:=(-1)) cf cz ?_;intro e8 b4 d1 ci;rw [← ch] at ci;have d2:c0.length=ai.length:=(show am.length=c0.length by rw [ch,nS]).symm.trans ds;refine go ?_;replace ah:=ah.kp b4;refine lV _ (Xd isAgg39 sizeOf39 ah) ?_;replace ad:=ad.kp b4;refine Z5 ad ?_;intro e9 cj d3 d4;refine go ?_;cases hm;replace av:=(av.kp b4).kp cj;replace aw:=(aw.kp b4).kp cj;replace aa:=(aa.kp b4 d1).kp cj d3;replace ci:=ci.kp cj;exact ⟨rfl,_,ra d4.atN,_,_,_,_,_,rfl,aa.finL rfl (cm [(5,c1),(6,c2),(440,qc1)]),aa.foL av,aa.foL aw,aa.foL ci,d2⟩
  refine lV _ (Xd isAgg27 sizeOf27 ac)<|Y2 rfl ?_;obtain ⟨bf,d5,hm⟩:=bZ hm;refine Zj (Z3y 12 13 d5 ((bs.ks aa).froz 440) ((bg.ks aa).froz 440) ((bt.ks aa).froz 440) ((bu.ks aa).froz 440) (ar.toSlF (Zd.int .i64))) ?_;rintro _ fa ⟨d6,dc,dd,de,df,rfl,bi,b5,b6⟩;refine ⟨_,rfl,?_⟩;replace b5:=b5.thaw (Z7 .u32) bi ((Fz.refl (col:=al)).froz 440) (by decide);replace b6:=b6.thaw (Z7 .u32) bi ((Fz.refl (col:=al)).froz 440) (by decide);replace bi:=bi.thawR (col:=al);generalize Xj a9.heap.size al d6=d7 at *;refine lM (.tuple #[(.agg #[.bool bf.1.1.1,.slice dc bf.1.1.2.length dd,.slice de bf.1.2.length df]),.int .i64 bf.2])<|lV (.agg #[.bool bf.1.1.1,.slice dc bf.1.1.2.length dd,.slice de bf.1.2.length df]) (Xx rfl rfl)<|lV (.int .i64 bf.2) (Xx rfl rfl)<|Xr (col:=d7) #[.bool false,.slice none (([]:List Int).length) 0,.slice none (([]:List Int).length) 0] 14 zeroValue39 ?_;intro fb fc fd b7 d8;refine Z5 d8 ?_;intro fe b8 d9 ea;refine go ?_;refine lV _ (Xd isAgg39 sizeOf39 ea) ?_;replace ad:=((ad.gr bi).gr b7).kp b8;refine Z5 ad ?_;intro ff ck eb ec;refine go ?_;cases hm;replace ar:=(((ar.gr bi).gr b7).kp b8).kp ck;replace aa:=(((aa.grow bi).grow b7).kp b8 d9).kp ck eb;replace b5:=((b5.gr b7).kp b8).kp ck;replace b6:=((b6.gr b7).kp b8).kp ck;exact ⟨rfl,_,ra ec.atN,_,_,_,_,_,rfl,aa.finL rfl (cm [(12,c1),(13,c2),(440,qc1)]),aa.foL b5,aa.foL b6,aa.foL ar,cn⟩
def Za5 (N:Nat):Nat→R0→R2→Int→Option Rb
  | 0,_,_,_=>none
  | n+1,aa,ab,ac=>Zmt N (Za5 N n) aa ab ac
theorem Z3o (N:Nat):∀ (n:Nat) (c1:Nat) (c2:Nat) (col:Ze) (w0:World) (qc1:Nat) (hd:U1 [qc1]=true) (ad:Option Addr) (ae:Nat) (af:Option Addr) (ag:Nat) (ah:Option Addr) (ai:Nat) (aj:Option Addr) (ak:Nat) (aa:R0) (a1:Option Addr) (ac:Nat) (ab:List Int) (al:Int) (am:Sl Za.str col w0 ad ae aa.2.1) (an:Sl (Za.slice Za.str) col w0 af ag aa.2.2.1) (ao:Sl (Za.slice (Za.int .i64)) col w0 ah ai aa.2.2.2.1) (ap:Sl (Za.slice (Za.pair (Za.pair Za.bool (Za.slice (Za.int .u32))) (Za.slice (Za.int .u32)))) col w0 aj ak aa.2.2.2.2) (h1:Zb (Za.int .i64) 3 qc1 col w0 a1 ac ab) (r:Rb) (hm:Za5 N n aa ab al=some r),Calls prog 108 #[(.agg #[.string aa.1,.slice ad aa.2.1.length ae,.slice af aa.2.2.1.length ag,.slice ah aa.2.2.2.1.length ai,.slice aj aa.2.2.2.2.length ak]),.slice a1 ab.length ac,.int .i64 al] w0 (fun e w'=>∃ (col':Ze) (ra1:Option Addr) (rc2:Nat) (ra4:Option Addr) (rc5:Nat),e= .returned ((.agg #[.bool r.1.1.1,.slice ra1 r.1.1.2.length rc2,.slice ra4 r.1.2.length rc5]))∧Zu (pS [qc1]) col w0 col' w'∧Zb (Za.int .u32) 95 c1 col' w' ra1 rc2 r.1.1.2∧Zb (Za.int .u32) 95 c2 col' w' ra4 rc5 r.1.2∧Zb (Za.int .i64) 3 qc1 col' w' a1 ac r.2∧r.2.length=ab.length):=by
 intro n;induction n with
 | zero=>intro c1 c2 col w0 qc1 hd ad ae af ag ah ai aj ak aa a1 ac ab al am an ao ap h1 r hm;rw [Za5.eq_1] at hm;cases hm;| succ n ih=>intro c1 c2 col w0 qc1 hd ad ae af ag ah ai aj ak aa a1 ac ab al am an ao ap h1 r hm;rw [Za5.eq_2] at hm;exact Z3n N (Za5 N n) ih c1 c2 col w0 qc1 hd ad ae af ag ah ai aj ak aa a1 ac ab al am an ao ap h1 r hm
def Zjp (N:Nat) (aa:R0) (ab:List Int) (ac:Int):Option Rb:=Za5 N N aa ab ac
theorem Z3m (N:Nat) (c1:Nat) (c2:Nat) (col:Ze) (w0:World) (qc1:Nat) (hd:U1 [qc1]=true) (ad:Option Addr) (ae:Nat) (af:Option Addr) (ag:Nat) (ah:Option Addr) (ai:Nat) (aj:Option Addr) (ak:Nat) (aa:R0) (a1:Option Addr) (ac:Nat) (ab:List Int) (al:Int) (am:Sl Za.str col w0 ad ae aa.2.1) (an:Sl (Za.slice Za.str) col w0 af ag aa.2.2.1) (ao:Sl (Za.slice (Za.int .i64)) col w0 ah ai aa.2.2.2.1) (ap:Sl (Za.slice (Za.pair (Za.pair Za.bool (Za.slice (Za.int .u32))) (Za.slice (Za.int .u32)))) col w0 aj ak aa.2.2.2.2) (h1:Zb (Za.int .i64) 3 qc1 col w0 a1 ac ab) (r:Rb) (hm:Zjp N aa ab al=some r):
    Calls prog 108 #[(.agg #[.string aa.1,.slice ad aa.2.1.length ae,.slice af aa.2.2.1.length ag,.slice ah aa.2.2.2.1.length ai,.slice aj aa.2.2.2.2.length ak]),.slice a1 ab.length ac,.int .i64 al] w0 (fun e w'=>∃ (col':Ze) (ra1:Option Addr) (rc2:Nat) (ra4:Option Addr) (rc5:Nat),e= .returned ((.agg #[.bool r.1.1.1,.slice ra1 r.1.1.2.length rc2,.slice ra4 r.1.2.length rc5]))∧Zu (pS [qc1]) col w0 col' w'∧Zb (Za.int .u32) 95 c1 col' w' ra1 rc2 r.1.1.2∧Zb (Za.int .u32) 95 c2 col' w' ra4 rc5 r.1.2∧Zb (Za.int .i64) 3 qc1 col' w' a1 ac r.2∧r.2.length=ab.length):=Z3o N N c1 c2 col w0 qc1 hd ad ae af ag ah ai aj ak aa a1 ac ab al am an ao ap h1 r hm
def Zg2 (aa:Nat) (kk_L1:(Nat→Int→Option Int)) (ab:Int):Option Int:=
  kk_L1 (aa+1) ab
def Za4 (ac:R0):List Int→Nat→Int→Option Int
  | [],ab,aa=>some aa
  | af :: ad,ab,aa=>if (decide (af<0))=true then ((Zm ac.2.2.1 (ab:Int)).bind fun ae=>Zg2 ab (Za4 ac ad) (if 65537<(i64.wrap (aa * (ae.length:Int))) then 65537 else (i64.wrap (aa * (ae.length:Int))))) else (Zg2 ab (Za4 ac ad) aa)
termination_by structural x=>x
def Zms (aa:R0) (ab:List Int):Option Int:=
  Za4 aa ab 0 1
theorem Z3l {ah ai aj ak a0:Nat} {al am an ao a1:Option Addr} {col:Ze} {w0:World} {aa:R0} {ac:R2} {r:Int} (hm:Zms aa ac=some r) (a9:Sl Za.str col w0 al ah aa.2.1) (ap:Sl (Za.slice Za.str) col w0 am ai aa.2.2.1) (ba:Sl (Za.slice (Za.int .i64)) col w0 an aj aa.2.2.2.1) (bb:Sl (Za.slice (Za.pair (Za.pair Za.bool (Za.slice (Za.int .u32))) (Za.slice (Za.int .u32)))) col w0 ao ak aa.2.2.2.2) (h1:Sl (Za.int .i64) col w0 a1 a0 ac):
    Calls prog 107 #[(.agg #[.string aa.1,.slice al aa.2.1.length ah,.slice am aa.2.2.1.length ai,.slice an aa.2.2.2.1.length aj,.slice ao aa.2.2.2.2.length ak]),.slice a1 ac.length a0] w0 (fun e w'=>e= .returned ((.int .i64 r))∧Below w0.heap.size w0 w'):=by
 refine Xl 4 (m:=28) func107 rfl rfl rfl rfl rfl ?_;rw [Zms.eq_1] at hm;have ab:=St.start col w0;refine go ?_;refine Xs (col:=(Zk col)) 1 rfl ?_;intro a2 bc bd a4 ad;refine go ?_;replace ab:=ab.grow a4;refine Z4 [2,8,9,1000000] (fun n f aq=>∃ ar ae af ag,n=ag.length∧ac.drop ae=ag∧Za4 aa ag ae af=some r∧St w0 (Zk col) ar aq∧Zf 27 1 ar aq a2 #[.string aa.1,.slice al aa.2.1.length ah,.slice am aa.2.2.1.length ai,.slice an aa.2.2.2.1.length aj,.slice ao aa.2.2.2.2.length ak]∧[10,5].map f=[.int .i64 ae,.int .i64 af]) ac.length ⟨_,0,1,_,rfl,rfl,hm,ab,ad,rfl⟩ ?_;clear hm;intro n f aq hI;obtain ⟨ar,ae,af,ag,hn,hl,hm,ab,ad,hs⟩:=hI;subst hn;refine .lL [10,5] hs ?_;replace ap:=ap.keep (Zi.start col w0);replace h1:=h1.keep (Zi.start col w0)
 cases ag with
 | nil=>
  have hk:¬ ((ae:Int)<(ac.length:Int)):=by have:=aH.1 hl;omega
  have hkb:=decide_eq_false hk;rw [Za4.eq_1] at hm;refine go ?_;refine X2 (congrArg Value.bool hkb)<|go ?_;cases hm;exact ⟨rfl,rfl,ab.below⟩
 | cons be a3=>
  obtain ⟨au,a5,a6⟩:=Yd hl;have hk:(ae:Int)<(ac.length:Int):=by omega
  have hkb:=decide_eq_true hk;rw [Za4.eq_2] at hm;refine go ?_;refine X3 (congrArg Value.bool hkb)<|Yl<|Z0 ?_;refine Wp.cutK [10,2,8,9,1000000] (fun f av=>∃ aw ax,Zg2 ae (Za4 aa a3) ax=some r∧St w0 (Zk col) aw av∧Zf 27 1 aw av a2 #[.string aa.1,.slice al aa.2.1.length ah,.slice am aa.2.2.1.length ai,.slice an aa.2.2.2.1.length aj,.slice ao aa.2.2.2.2.length ak]∧[5].map f=[.int .i64 ax]) ?_ ?_
  ·intro f av hJ;obtain ⟨aw,ax,hm,ab,ad,hs⟩:=hJ;rw [Zg2.eq_1] at hm;refine .lL [5] hs<|go ?_;exact ⟨a3.length,by simp,rfl,⟨_,_,_,_,rfl,a5,hm,ab,ad,(Yg (congrArg (Value.int .i64) (Yb (aF a6 (h1.ks ab).1.1))) rfl)⟩⟩
  refine go ?_;refine lI au ((h1.ks ab).addr au)<|lW ((h1.ks ab).atInt au) ?_;refine go ?_;refine Zq hm (fun hb hm=>go ?_) fun hb hm=>?_
  ·refine Xk ad<|X1 rfl ?_;obtain ⟨ay,az,hm⟩:=bZ hm;refine lI az ((ap.ks ab).addr az) ?_;obtain ⟨_,a7,a8⟩:=(ap.ks ab).atN az;obtain ⟨⟨bf,bg,rfl,bh⟩,_⟩:=a7;refine lW a8.one<|go ?_;refine lV (.int .i64 (if 65537<(i64.wrap (af * (ay.length:Int))) then 65537 else (i64.wrap (af * (ay.length:Int))))) (Zlj (i64.wrap (af * (ay.length:Int))) 65537 rfl rfl)<|go ?_;exact ⟨rfl,_,_,hm,ab,ad,rfl⟩
  refine Yl ?_;exact ⟨rfl,_,_,hm,ab,ad,rfl⟩
def Zev (N:Nat) (aa:R0):List R2→Bool→R2→R2→Option (R1×Int)
  | [],ab,ac,ad=>some (((ab,ac),ad),0)
  | ag :: ah,ab,ac,ad=>(Qq ag).bind fun ai=>(Zjp N (aa.1,aa.2.1,aa.2.2.1,aa.2.2.2.1,aa.2.2.2.2) ai 0).bind fun ae=>(Qg N ((ab,ac),ad) ((ae.1.1.1,ae.1.1.2),ae.1.2)).bind fun af=>(Zev N aa ah) af.1.1 af.1.2 af.2
termination_by structural x=>x
def Zc4 (N:Nat) (aa:R0) (ac:R6):List R2→Bool→R2→R2→Option (R1×Int)
  | [],ad,ae,af=>(Zbt N 1 1).bind fun ab=>Zev N aa ac ab.1.1.1 ab.1.1.2 ab.1.2
  | ag :: ah,ad,ae,af=>(Zms (aa.1,aa.2.1,aa.2.2.1,aa.2.2.2.1,aa.2.2.2.2) ag).bind fun ai=>if (decide (65536<ai))=true then (some (((false,([]:List Int)),([]:List Int)),4)) else ((Zc4 N aa ac ah) ad ae af)
termination_by structural x=>x
def Tv (N:Nat) (aa:R0) (ab:R6):Option (R1×Int):=
  (Zc7 N (aa.1,aa.2.1,aa.2.2.1,aa.2.2.2.1,aa.2.2.2.2) ab).bind fun ac=>if (!decide (ac=0))=true then (some (((false,([]:List Int)),([]:List Int)),ac)) else (Zc4 N aa ab ab false ([]:List Int) ([]:List Int))
theorem Zl5 {N a6 a7 a8 a9 cj:Nat} {ba bb bc bd a1:Option Addr} {col:Ze} {w0:World} {ac:R0} {ai:R6} {r:(R1×Int)} (c1 c2:Nat) (hm:Tv N ac ai=some r) (bg:Sl Za.str col w0 ba a6 ac.2.1) (bh:Sl (Za.slice Za.str) col w0 bb a7 ac.2.2.1) (bi:Sl (Za.slice (Za.int .i64)) col w0 bc a8 ac.2.2.2.1) (bj:Sl (Za.slice (Za.pair (Za.pair Za.bool (Za.slice (Za.int .u32))) (Za.slice (Za.int .u32)))) col w0 bd a9 ac.2.2.2.2) (h1:Sl (Za.slice (Za.int .i64)) col w0 a1 cj ai):
    Calls prog 30 #[(.agg #[.string ac.1,.slice ba ac.2.1.length a6,.slice bb ac.2.2.1.length a7,.slice bc ac.2.2.2.1.length a8,.slice bd ac.2.2.2.2.length a9]),.slice a1 ai.length cj] w0 (fun e w'=>∃ (col':Ze) (ra1:Option Addr) (rc2:Nat) (ra4:Option Addr) (rc5:Nat),e= .returned (.tuple #[(.agg #[.bool r.1.1.1,.slice ra1 r.1.1.2.length rc2,.slice ra4 r.1.2.length rc5]),.int .i64 r.2])∧Zh col w0 col' w'∧Zb (Za.int .u32) 95 c1 col' w' ra1 rc2 r.1.1.2∧Zb (Za.int .u32) 95 c2 col' w' ra4 rc5 r.1.2):=by
 refine Wq (m:=50) func30 rfl rfl rfl ?_;rw [Tv.eq_1] at hm;have aa:=St.start col w0;refine go ?_;refine Xs (col:=(Zk col)) 1 rfl ?_;intro ck d8 cx cy ab;refine Xr (col:=cx) #[.bool false,.slice none (([]:List Int).length) 0,.slice none (([]:List Int).length) 0] 2 zeroValue39 ?_;intro cl cz cn co ad;refine go ?_;replace ab:=ab.gr co;refine lV _ (Xd isAgg27 sizeOf27 ab)<|Y2 rfl ?_;obtain ⟨d9,c0,hm⟩:=bZ hm;replace bg:=bg.keep (Zi.start col w0);replace bh:=bh.keep (Zi.start col w0);replace bi:=bi.keep (Zi.start col w0);replace bj:=bj.keep (Zi.start col w0);replace h1:=h1.keep (Zi.start col w0);replace aa:=(aa.grow cy).grow co;refine Zj (Ztx c0 (bg.ks aa) (bh.ks aa) (bi.ks aa) (bj.ks aa) (h1.ks aa)) ?_;rintro _ c3 ⟨rfl,bk⟩;refine ⟨_,rfl,?_⟩;replace bk:Zh cn cz cn c3:=.of_below bk;refine go ?_;replace ab:=ab.gr bk;replace ad:=ad.gr bk;replace aa:=aa.grow bk;refine Zq hm (fun hb hm=>go ?_) fun hb hm=>go ?_
 ·refine lV (.agg #[.bool false,.slice none (([]:List Int).length) 0,.slice none (([]:List Int).length) 0]) (Wy (l:=[_,_]) (qs:=[(0,2),(2,1)]) underlying39 zeroValue39 ⟨rfl,sizeOf37,rfl,sizeOf35,trivial⟩ rfl)<|X1 rfl<|Z5 ad ?_;intro ea c4 c5 c6;refine go ?_;cases hm;replace aa:=aa.kp c4 c5;exact ⟨rfl,_,Uj c6.atN,_,none,0,none,0,rfl,aa.fin (cm []),Zb.nil,Zb.nil⟩
 refine Z4 [1,2,20,21,4,1000000] (fun n f ax=>∃ ar bm bx bn bo be bp bq bf br,n=br.length∧ai.drop bm=br∧Zc4 N ac ai br bx be bf=some r∧St w0 (Zk col) ar ax∧Zf 27 1 ar ax ck #[.string ac.1,.slice ba ac.2.1.length a6,.slice bb ac.2.2.1.length a7,.slice bc ac.2.2.2.1.length a8,.slice bd ac.2.2.2.2.length a9]∧Zb (Za.int .u32) 95 3 ar ax bn bo be∧Zb (Za.int .u32) 95 4 ar ax bp bq bf∧Zf 39 2 ar ax cl #[.bool bx,.slice bn be.length bo,.slice bp bf.length bq]∧[22].map f=[.int .i64 bm]) ai.length ⟨_,0,_,none,0,_,none,0,_,_,rfl,rfl,hm,aa,ab,Zb.nil,Zb.nil,ad,rfl⟩ ?_;clear hm;intro n f ax hI;obtain ⟨ar,bm,bx,bn,bo,be,bp,bq,bf,br,hn,hl,hm,aa,ab,ae,af,ad,hs⟩:=hI;subst hn;refine .lL [22] hs ?_
 cases br with
 | nil=>
  have hk:¬ ((bm:Int)<(ai.length:Int)):=by have:=aH.1 hl;omega
  have hkb:=decide_eq_false hk;rw [Zc4.eq_1] at hm;refine go ?_;refine X2 (congrArg Value.bool hkb)<|go ?_;obtain ⟨av,c7,hm⟩:=bZ hm;refine Zj (Zl8 (col:=ar) 5 6 c7) ?_;rintro _ eb ⟨c8,cp,cq,cr,cs,rfl,bs,b4,b5⟩;refine ⟨_,rfl,?_⟩;refine lM (.tuple #[(.agg #[.bool av.1.1.1,.slice cp av.1.1.2.length cq,.slice cr av.1.2.length cs]),.int .i64 av.2])<|lV (.agg #[.bool av.1.1.1,.slice cp av.1.1.2.length cq,.slice cr av.1.2.length cs]) (Xx rfl rfl)<|lV (.int .i64 av.2) (Xx rfl rfl)<|Xr (col:=c8) #[.bool false,.slice none (([]:List Int).length) 0,.slice none (([]:List Int).length) 0] 7 zeroValue39 ?_;intro da ec ed ay db;refine Z5 db ?_;intro ee az dc ag;refine go ?_;replace ae:=((ae.gr bs).gr ay).kp az;replace af:=((af.gr bs).gr ay).kp az;replace ab:=((ab.gr bs).gr ay).kp az;replace ad:=((ad.gr bs).gr ay).kp az;replace aa:=((aa.grow bs).grow ay).kp az dc;replace b4:=(b4.gr ay).kp az;replace b5:=(b5.gr ay).kp az;refine Z4 [2,36,37,4,9,1000000] (fun n f ao=>∃ ah bt bz b0 b1 bu b2 b3 bv bw,n=bw.length∧ai.drop bt=bw∧Zev N ac bw bz bu bv=some r∧St w0 (Zk col) ah ao∧Zf 27 1 ah ao ck #[.string ac.1,.slice ba ac.2.1.length a6,.slice bb ac.2.2.1.length a7,.slice bc ac.2.2.2.1.length a8,.slice bd ac.2.2.2.2.length a9]∧Zb (Za.int .u32) 95 3 ah ao bn bo be∧Zb (Za.int .u32) 95 4 ah ao bp bq bf∧Zf 39 2 ah ao cl #[.bool bx,.slice bn be.length bo,.slice bp bf.length bq]∧Zb (Za.int .u32) 95 5 ah ao b0 b1 bu∧Zb (Za.int .u32) 95 6 ah ao b2 b3 bv∧Zf 39 7 ah ao da #[.bool bz,.slice b0 bu.length b1,.slice b2 bv.length b3]∧[38].map f=[.int .i64 bt]) ai.length ⟨_,0,_,_,_,_,_,_,_,_,rfl,rfl,hm,aa,ab,ae,af,ad,b4,b5,ag,rfl⟩ ?_;clear hm;intro n f ao hI;obtain ⟨ah,bt,bz,b0,b1,bu,b2,b3,bv,bw,hn,hl,hm,aa,ab,ae,af,ad,aj,ak,ag,hs⟩:=hI;subst hn;refine .lL [38] hs ?_
  cases bw with
  | nil=>
   have hk:¬ ((bt:Int)<(ai.length:Int)):=by have:=aH.1 hl;omega
   have hkb:=decide_eq_false hk;rw [Zev.eq_1] at hm;refine go ?_;refine X2 (congrArg Value.bool hkb)<|go ?_;refine lV _ (Xd isAgg39 sizeOf39 ag)<|Z5 ad ?_;intro ef b6 dd de;refine go ?_;cases hm;replace aj:=aj.kp b6;replace ak:=ak.kp b6;replace aa:=aa.kp b6 dd;exact ⟨rfl,_,Uj de.atN,_,_,_,_,_,rfl,aa.fin (cm [(5,c1),(6,c2)]),aa.fo aj,aa.fo ak⟩
  | cons df dg=>
   obtain ⟨a0,dh,di⟩:=Yd hl;have hk:(bt:Int)<(ai.length:Int):=by omega
   have hkb:=decide_eq_true hk;rw [Zev.eq_2] at hm;refine go ?_;refine X3 (congrArg Value.bool hkb)<|go ?_;refine lI a0 ((h1.ks aa).addr a0) ?_;obtain ⟨_,dj,dl⟩:=(h1.ks aa).atN a0;obtain ⟨⟨dm,dn,rfl,b7⟩,_⟩:=dj;refine lW dl.one<|go ?_;refine Zo2 (col:=ah) (pS [8]) [(0,5),(1,0),(2,1),(3,3),(4,4),(5,3),(6,2)] (by kernel_rfl) (by kernel_rfl)<|Zo8 (v:=(.agg #[.bool bz,.slice b0 bu.length b1,.slice b2 bv.length b3])) rfl rfl (fun _ hC=>W4 isAgg39 sizeOf39 rfl rfl (ag.dk hC rfl rfl).atN) ?_;refine Ziz (v:=(.agg #[.string ac.1,.slice ba ac.2.1.length a6,.slice bb ac.2.2.1.length a7,.slice bc ac.2.2.2.1.length a8,.slice bd ac.2.2.2.2.length a9])) rfl rfl (fun _ hC=>W4 isAgg27 sizeOf27 rfl rfl (ab.atN.gr (hC.bl ah))) ?_;refine Tl (v:=(.slice dm df.length dn)) rfl rfl (fun _=>V3 rfl) ?_;refine T5 rfl rfl ?_;intro dp hC0;have hC:=hC0.bl ah;replace ae:=ae.gr hC;replace af:=af.gr hC;replace aj:=aj.gr hC;replace ak:=ak.gr hC;replace b7:=b7.gr hC;replace ab:=ab.gr hC;replace ad:=ad.gr hC;replace ag:=ag.gr hC;replace aa:=aa.grow hC;have b8:Zu (pS [8]) ah ao ah dp:=hC.toP;obtain ⟨ct,dq,hm⟩:=bZ hm;refine Zj (Zjd 8 dq b7) ?_;rintro _ b9 ⟨a2,ca,cb,rfl,ap,cc⟩;refine ⟨_,rfl,?_⟩;replace b8:=b8.gr ap;refine Zl ?_;refine ⟨fun w'=>Zh a2 b9 a2 w',fun w'=>∃ c',Zu (pS [8]) a2 b9 c' w',Zh.refl _ _,fun _ h=>⟨_,h.toP⟩,fun _ _ h=>Qc hC0 ap h,fun _ _ ⟨c9,h⟩=>⟨c9,b8.trans h⟩,?_⟩;refine T5 rfl rfl ?_;intro dr hC0;have hC:=hC0.bl a2;replace ae:=(ae.gr ap).gr hC;replace af:=(af.gr ap).gr hC;replace aj:=(aj.gr ap).gr hC;replace ak:=(ak.gr ap).gr hC;replace ab:=(ab.gr ap).gr hC;replace ad:=(ad.gr ap).gr hC;replace ag:=(ag.gr ap).gr hC;replace aa:=(aa.grow ap).grow hC;replace cc:=cc.gr hC;have cd:Zu (pS [8]) a2 b9 a2 dr:=hC.toP;obtain ⟨ce,ds,hm⟩:=bZ hm;refine Zj (Z3m N 9 10 a2 _ 8 rfl ba a6 bb a7 bc a8 bd a9 (ac.1,ac.2.1,ac.2.2.1,ac.2.2.2.1,ac.2.2.2.2) ca cb ct 0 (bg.ks aa) (bh.ks aa) (bi.ks aa) (bj.ks aa) cc ce ds) ?_;rintro _ cf ⟨aq,eg,eh,ei,ej,rfl,au,cg,ch,ek,dt⟩;refine ⟨_,rfl,?_⟩;replace ae:=ae.kpp au;replace af:=af.kpp au;replace aj:=aj.kpp au;replace ak:=ak.kpp au;replace ab:=ab.kpp au;replace ad:=ad.kpp au;replace ag:=ag.kpp au
   replace cd:=cd.trans (au.mono (by first | exact Zoe rfl | exact pS_p1 rfl | exact Zof rfl));refine .ld (d:=45) (v:=(.slice ca ce.2.length cb)) (congrArg (fun n=>Value.slice ca n cb) (show ct.length=ce.2.length from dt.symm)) ?_;refine Zl ?_;refine ⟨fun w'=>Zh aq cf aq w',fun w'=>∃ c',Zu (pS [8]) aq cf c' w',Zh.refl _ _,fun _ h=>⟨_,h.toP⟩,fun h=>absurd h (by decide),fun _ _ ⟨c9,h⟩=>⟨c9,cd.trans h⟩,?_⟩;refine T5 rfl rfl ?_;intro cu hC0;have hC:=hC0.bl aq;replace aa:=(aa.kpp au).grow hC;replace ae:=ae.gr hC;replace af:=af.gr hC;replace aj:=aj.gr hC;replace ak:=ak.gr hC;replace cg:=cg.gr hC;replace ch:=ch.gr hC;replace ab:=ab.gr hC;replace ad:=ad.gr hC;replace ag:=ag.gr hC;have ci:Zu (pS [8]) aq cf aq cu:=hC.toP;obtain ⟨el,du,hm⟩:=bZ hm;refine Zj (Zl7 11 12 du ((((aj.toSlF (Zd.int .u32)).froz 6).froz 9).froz 10) ((((ak.froz 5 (by decide)).toSlF (Zd.int .u32)).froz 9).froz 10) ((((cg.froz 5 (by decide)).froz 6 (by decide)).toSlF (Zd.int .u32)).froz 10) ((((ch.froz 5 (by decide)).froz 6 (by decide)).froz 9 (by decide)).toSlF (Zd.int .u32))) ?_;rintro _ cv ⟨dv,em,en,eo,ep,rfl,al,am,an⟩;refine ⟨_,rfl,?_⟩;replace am:=am.thaw (Z7 .u32) al (((((Fz.refl (col:=aq)).froz 5).froz 6).froz 9).froz 10) (by decide);replace an:=an.thaw (Z7 .u32) al (((((Fz.refl (col:=aq)).froz 5).froz 6).froz 9).froz 10) (by decide);replace al:=al.thawR (col:=aq);generalize Xj cu.heap.size aq dv=aw at *;replace ci:=ci.gr al;refine Zl ?_;refine ⟨fun w'=>Zh aw cv aw w',fun w'=>∃ c',Zu (pS [8]) aw cv c' w',Zh.refl _ _,fun _ h=>⟨_,h.toP⟩,fun _ _ h=>Qc hC0 al h,fun _ _ ⟨c9,h⟩=>⟨c9,ci.trans h⟩,?_⟩;refine T5 rfl rfl ?_;intro eq hC0;have hC:=hC0.bl aw;replace ag:=(ag.gr al).gr hC;refine Z5 ag ?_;intro cw a3 dw a4;refine Zl ?_;refine ⟨fun w'=>Zh aw cw aw w',fun w'=>∃ c',Zu (pS [8]) aw cw c' w',Zh.refl _ _,fun _ h=>⟨_,h.toP⟩,fun h=>absurd h (by decide),fun h=>absurd h (by decide),?_⟩;refine Zo7 ?_;replace ae:=((ae.gr al).gr hC).kp a3;replace af:=((af.gr al).gr hC).kp a3;replace ab:=((ab.gr al).gr hC).kp a3;replace ad:=((ad.gr al).gr hC).kp a3;replace aa:=((aa.grow al).grow hC).kp a3 dw;replace am:=(am.gr hC).kp a3;replace an:=(an.gr hC).kp a3;intro er hC
   replace hC:=hC.bl aw;refine go ?_;replace ae:=ae.gr hC;replace ae:=ae.recol 11 5 (by decide);replace af:=af.gr hC;replace af:=af.recol 11 5 (by decide);replace am:=am.gr hC;replace am:=am.recolSelf 5 (by decide);replace an:=an.gr hC;replace an:=an.recol 11 5 (by decide);replace ab:=ab.gr hC;replace ab:=ab.recol 11 5 (by decide);replace ad:=ad.gr hC;replace ad:=ad.recol 11 5 (by decide);replace a4:=a4.gr hC;replace a4:=a4.recol 11 5 (by decide);replace aa:=aa.grow hC;replace aa:=aa.recol 11 5 (by decide) (by decide);replace ae:=ae.recol 12 6 (by decide);replace af:=af.recol 12 6 (by decide);replace am:=am.recol 12 6 (by decide);replace an:=an.recolSelf 6 (by decide);replace ab:=ab.recol 12 6 (by decide);replace ad:=ad.recol 12 6 (by decide);replace a4:=a4.recol 12 6 (by decide);replace aa:=aa.recol 12 6 (by decide) (by decide);exact ⟨dg.length,by simp,rfl,⟨_,_,_,_,_,_,_,_,_,_,rfl,dh,hm,aa,ab,ae,af,ad,am,an,a4,(Yg (congrArg (Value.int .i64) (Yb (aF di (h1.ks aa).1.1))) rfl)⟩⟩
 | cons es dx=>
  obtain ⟨a0,dy,dz⟩:=Yd hl;have hk:(bm:Int)<(ai.length:Int):=by omega
  have hkb:=decide_eq_true hk;rw [Zc4.eq_2] at hm;refine go ?_;refine X3 (congrArg Value.bool hkb)<|go ?_;refine lI a0 ((h1.ks aa).addr a0) ?_;obtain ⟨_,d0,d1⟩:=(h1.ks aa).atN a0;obtain ⟨⟨et,eu,rfl,d2⟩,_⟩:=d0;refine lW d1.one<|go ?_;refine lV _ (Xd isAgg27 sizeOf27 ab)<|Y2 rfl ?_;obtain ⟨ew,d3,hm⟩:=bZ hm;refine Zj (Z3l d3 (bg.ks aa) (bh.ks aa) (bi.ks aa) (bj.ks aa) d2) ?_;rintro _ d4 ⟨rfl,a5⟩;refine ⟨_,rfl,?_⟩;replace a5:Zh ar ax ar d4:=.of_below a5;refine go ?_;replace ae:=ae.gr a5;replace af:=af.gr a5;replace ab:=ab.gr a5;replace ad:=ad.gr a5;replace aa:=aa.grow a5;refine Zq hm (fun hb hm=>go ?_) fun hb hm=>go ?_
  ·refine lV (.agg #[.bool false,.slice none (([]:List Int).length) 0,.slice none (([]:List Int).length) 0]) (Wy (l:=[_,_]) (qs:=[(0,2),(2,1)]) underlying39 zeroValue39 ⟨rfl,sizeOf37,rfl,sizeOf35,trivial⟩ rfl)<|Z5 ad ?_;intro ey d5 d6 d7;refine go ?_;cases hm;replace aa:=aa.kp d5 d6;exact ⟨rfl,_,Uj d7.atN,_,none,0,none,0,rfl,aa.fin (cm []),Zb.nil,Zb.nil⟩
  exact ⟨dx.length,by simp,rfl,⟨_,_,_,_,_,_,_,_,_,_,rfl,dy,hm,aa,ab,ae,af,ad,(Yg (congrArg (Value.int .i64) (Yb (aF dz (h1.ks aa).1.1))) rfl)⟩⟩
/-! how long products are:bounds variable by variable -/
def W5 (B:Nat→Nat):Nat→Nat→Nat
 | 0,_=>0
 | m+1,k=>B k+W5 B m (k+1)
theorem Z1q {α:Type} (f:List α→Nat) (T:List (List α)):∀ m k,k+m=T.length→W5 (fun v=>f (T.getD v [])) m k=((T.drop k).map f).sum
 | 0,k,h=>by rw [W5,cK (by omega)];rfl
 | m+1,k,h=>by
  rw [W5,Z1q f T m (k+1) (by omega),aK (i:=k) (by omega),aQ,List.sum_cons,Xi (by omega)]
theorem Z1r (B:Nat→Nat):∀ m k,W5 (fun v=>B v+1) m k=W5 B m k+m
 | 0,k=>rfl
 | m+1,k=>by rw [W5,W5,Z1r B m (k+1)];omega
def Zan (n:Zp) (B:Nat→Nat):Prop:=∀ v,v<n.2.1.length→∀ x ∈ n.2.2.2.2.getD v [],qs (Zr x)≤B v
theorem Zqb {N:Nat} {n:Zp} {B:Nat→Nat} (hf:Xu N n) (hB:Zan n B) {w:List Int} (hw:Xn n w) {k:Nat} (hk:k<n.2.1.length):qs (ent n w k)≤B k:=by
 have b:=hw.ok k (by rw [hw.len];exact hk)
 have a:(w.getD k 0).toNat<(Ux n w k).length:=by rw [hf.rowT_len hw hk];omega
 rw [ent,Xi a]
 exact hB k hk _ (Zk9 (aG a))
theorem Zru {N:Nat} {n:Zp} {B:Nat→Nat} (hf:Xu N n) (hB:Zan n B) {w:List Int} (hw:Xn n w):∀ (m k:Nat) (q:Rat),k+m≤n.2.1.length→qs (Uu n w m k q)≤qs q+W5 B m k
 | 0,k,q,h=>by rw [Uu,W5];omega
 | m+1,k,q,h=>by
  have a:=Zqb hf hB hw (k:=k) (by omega)
  have b:=Zlg q (ent n w k)
  have c:=Zru hf hB hw m (k+1) (q * ent n w k) (by omega)
  rw [Uu,W5];omega
section
variable {N W K:Nat} {n:Zp} (hf:Xu N n) (hs:Ve n W) (hr:Z9 N (8 * K+40)) (hWK:1025 * (W+2)+4≤K) (hN:2000000<N) (hC:W1 N n=some 0)
include hf hs hr hWK hN hC
theorem Z8l {w:List Int} (hw:Xn n w):Qi N n w=some (Zo (Uu n w n.2.1.length 0 1),0):=by
 obtain ⟨p,e,a,b⟩:=Z5g hf hs hr hWK hN hC w
 have c:=Zwb hw
 rcases b with ⟨_,h⟩ | ⟨rfl,_,rfl⟩
 ·rw [c] at h;cases h
 ·exact a
variable {B:Nat→Nat} {S:Nat} (hB:Zan n B) (hS:W5 B n.2.1.length 0+1≤S) (hSK:12 * S+10≤K)
include hB hS hSK
end
structure PV (n:Zp) (w:List Int):Prop where
 len:w.length=n.2.1.length
 ok:∀ i,i<w.length→ -1≤w.getD i 0∧w.getD i 0<(cnt n i:Int)
theorem Zsk {n:Zp} {r:List R2} (h:Ti n r=true):∀ row ∈ r,PV n row:=fun row c=>by
 have a:=cV.1 h row c
 rw [Bool.and_eq_true,decide_eq_true_eq] at a
 refine ⟨a.1,fun i b=>⟨?_,?_⟩⟩
 ·rw [Xi b];exact Z0g a.2 _ (aG b)
 ·have:=Z0h a.2 i b
  rwa [cW] at this
theorem Z0i {n:Zp}:∀ (l:List Int) (k:Nat),(∀ i,i<l.length→ -1≤l.getD i 0∧l.getD i 0<(cnt n (k+i):Int))→U4 n l k=true
 | [],k,_=>rfl
 | x :: l,k,h=>by
  have a:=h 0 (by simp)
  have b:=Z0i (n:=n) l (k+1) fun i c=>by
   have:=h (i+1) (by rw [nC];omega)
   rw [show k+(i+1)=k+1+i by omega] at this
   exact this
  rw [bQ] at a
  rw [U4,b,Bool.and_true,decide_eq_true (show -1≤x from a.1),Bool.true_and]
  exact decide_eq_true a.2
theorem Zpe {n:Zp} {o:List R2} (h:∀ q ∈ o,PV n q):Ti n o=true:=by
 rw [Ti,cV]
 intro q b
 have a:=h q b
 rw [decide_eq_true a.len,Bool.true_and]
 refine Z0i q 0 fun i c=>?_
 have:=a.ok i c
 rw [cW];omega
theorem PV.set {n:Zp} {w:List Int} (h:PV n w) {v:Nat} {k:Int} (hk:-1≤k∧k<(cnt n v:Int)):PV n (w.set v k):=by
 refine ⟨by rw [nS];exact h.len,fun i a=>?_⟩
 rw [nS] at a
 by_cases hv:v<w.length
 ·rw [V2 w 0 v i k hv]
  split
  ·rename_i e;rw [e];exact hk
  ·exact h.ok i a
 ·rw [jD (by omega)];exact h.ok i a
def Zy (n:Zp):Nat→Nat→List Int→List R2
 | 0,_,w=>[w]
 | m+1,k,w=>if 0≤w.getD k 0 then Zy n m (k+1) w else (cH 0 (cnt n k)).flatMap fun x:Nat=>Zy n m (k+1) (w.set k (x:Int))
def Xo (n:Zp) (w:List Int):Nat→Nat→Nat
 | 0,_=>1
 | m+1,k=>(if 0≤w.getD k 0 then 1 else cnt n k) * Xo n w m (k+1)
theorem Zob {n:Zp} {w:List Int} {v:Nat} {x:Int}:∀ m k,v<k→Xo n (w.set v x) m k=Xo n w m k
 | 0,k,_=>rfl
 | m+1,k,h=>by
  have e:(w.set v x).getD k 0=w.getD k 0:=by
   rw [aE,aE,fD (by omega)]
  rw [Xo,Xo,e,Zob m (k+1) (by omega)]
theorem Zqf {α:Type} (f:Nat→List α) (c:Nat):∀ m j,(∀ x,(f x).length=c)→((cH j m).flatMap f).length=m * c
 | 0,j,_=>by simp
 | m+1,j,h=>by
  rw [eM,dG,nA,Zqf f c m (j+1) h,h,aZ,aX,eW]
theorem Zen (n:Zp):∀ m k w,(Zy n m k w).length=Xo n w m k
 | 0,k,w=>rfl
 | m+1,k,w=>by
  rw [Zy,Xo]
  split
  ·rw [Zen n m,aX]
  ·rw [Zqf _ (Xo n w m (k+1)) _ _ fun x=>by rw [Zen n m,Zob _ _ (by omega)]]
theorem Zgl {n:Zp}:∀ m k w,PV n w→k+m=n.2.1.length→(∀ i,i<k→0≤w.getD i 0)→∀ x ∈ Zy n m k w,Xn n x
 | 0,k,w,a,j,c,x,b=>by
  rw [Zy,bT] at b
  subst b
  exact ⟨a.len,fun i d=>⟨c i (by have:=a.len;omega),(a.ok i d).2⟩⟩
 | m+1,k,w,a,j,c,x,b=>by
  rw [Zy] at b
  have f:k<w.length:=by rw [a.len];omega
  split at b
  ·rename_i l
   refine Zgl m (k+1) w a (by omega) (fun i d=>?_) x b
   by_cases e:i=k
   ·subst e;exact l
   ·exact c i (by omega)
  ·obtain ⟨y,o,g⟩:=kP.1 b
   have p:=dU.1 o
   refine Zgl m (k+1) _ (a.set (v:=k) (k:=(y:Int)) (by omega)) (by omega) (fun i d=>?_) x g
   rw [V2 w 0 k i _ f]
   split
   ·omega
   ·exact c i (by omega)
theorem Zoa {n:Zp} (he:Um n) (w:List Int):∀ m k,k+m≤n.2.1.length→1≤Xo n w m k
 | 0,k,_=>aY _
 | m+1,k,h=>by
  have a:=Zoa he w m (k+1) (by omega)
  have b:=Uo he (v:=k) (by omega)
  rw [Xo]
  split
  ·omega
  ·exact iO b a
theorem Zyf {n:Zp} (he:Um n) (w:List Int):∀ m k,k+m=n.2.1.length→Xo n w m k≤Xw ((W6 n).drop k)
 | 0,k,h=>by
  rw [Xo,cK (by rw [W6,aI,he.v];omega),Xw];exact aY _
 | m+1,k,h=>by
  have b:k<(W6 n).length:=by rw [W6,aI,he.v];omega
  have a:=Zyf he w m (k+1) (by omega)
  have e:(W6 n)[k]=cnt n k:=by
   have:k<n.2.2.1.length:=by rw [he.v];omega
   simp only [W6,cC,cnt,Xi this]
  have c:=Uo he (v:=k) (by omega)
  rw [Xo,aK b,Xw,e]
  split
  ·rw [aX];exact aU a (eF _ c)
  ·exact aR _ a
theorem Xao (n:Zp) (a b:List R2):Zz n (a++b)=Zz n a+Zz n b:=by rw [Zz,eE,Zsv,Zz,Zz]
theorem Xap (n:Zp) (x:List Int):Zz n [x]=Zx n x n.2.1.length 0:=by rw [Zz,aQ,bN,Xq,Xq,gY]
theorem set_set {w:List Int} {k:Nat} {a b:Int}:(w.set k a).set k b=w.set k b:=by rw [List.set_set]
theorem Z1b {w:List Int} {k:Nat} (hk:k<w.length) {a:Int} (h:w.getD k 0=a):w.set k a=w:=by
 rw [Xi hk] at h
 rw [← h,List.set_getElem_self]
/-! the program -/
section
variable {N W K:Nat} {n:Zp} (hf:Xu N n) (hN:2000000<N) {Q:Nat}
variable (hch:∀ w,Xn n w→Qi N n w=some (Zo (Uu n w n.2.1.length 0 1),0)) (hQ:∀ w,Xn n w→qs (Zx n w n.2.1.length 0)≤Q)
include hf hN hch hQ
omit hN hch hQ in
theorem Zv8 {m k:Nat} (hkm:k+(m+1)=n.2.1.length) {w:List Int} (hw:PV n w) (h0:∀ i,i<k→0≤w.getD i 0) (hk0:w.getD k 0= -1) (rc:Zp→List Int→Int→Option (QV×List Int))
  (hrc:∀ u,PV n u→(∀ i,i<k+1→0≤u.getD i 0)→Xo n u m (k+1)=Xo n w m (k+1)→rc n u ((k+1:Nat):Int)=some (Zo (Zz n (Zy n m (k+1) u)),u)∧qs (Zz n (Zy n m (k+1) u))≤(Zy n m (k+1) u).length * (Q+2 * m))
  (hr:Z9 N (2 * (Xo n w (m+1) k * (Q+2 * (m+1))+(Q+2 * m) * Xo n w m (k+1)+10))):
  ∀ (j x f:Nat) (acc:Rat),x+j=cnt n k→j<f→qs acc≤1+x * Xo n w m (k+1) * (Q+2 * m+1)→
  Zc6 N rc n (k:Int) (n.2.2.1.getD k []) f (w.set k ((x:Int) - 1)) (x:Int) (Zo acc).1.1 (Zo acc).1.2 (Zo acc).2=some (Zo (acc+Zz n ((cH x j).flatMap fun y:Nat=>Zy n m (k+1) (w.set k (y:Int)))),w)∧
   qs (acc+Zz n ((cH x j).flatMap fun y:Nat=>Zy n m (k+1) (w.set k (y:Int))))≤1+cnt n k * Xo n w m (k+1) * (Q+2 * m+1)
 | j,x,0,acc,_,h,_=>by omega
 | 0,x,f+1,acc,F,_,c=>by
  have p:=hf.le
  have a:k<w.length:=by rw [hw.len];omega
  have q:(n.2.2.1.getD k []).length=cnt n k:=rfl
  have d:k<(w.set k ((x:Int) - 1)).length:=by rw [nS];exact a
  obtain rfl:x=cnt n k:=by omega
  rw [Zc6.eq_2,if_neg (dF (by omega)),Z1 d,oB,oB,aD,set_set,Z1b a hk0]
  have e:Zz n ((cH (cnt n k) 0).flatMap fun y:Nat=>Zy n m (k+1) (w.set k (y:Int)))=0:=rfl
  rw [e,gY]
  exact ⟨rfl,c⟩
 | j+1,x,f+1,acc,F,J,c=>by
  have p:=hf.le
  have a:k<w.length:=by rw [hw.len];omega
  have q:(n.2.2.1.getD k []).length=cnt n k:=rfl
  have L:cnt n k≤65536:=by
   have r:k<n.2.1.length:=by omega
   obtain ⟨P,R,S⟩:=hf.rows r
   have s:0<Wu n k:=Zf3 hf.ev (n.2.2.2.1.getD k []) 1 (hf.pars r) (by omega)
   have:=eF (cnt n k) s
   rw [Wu] at this;omega
  have d:k<(w.set k ((x:Int) - 1)).length:=by rw [nS];exact a
  have G:PV n (w.set k (x:Int)):=hw.set (by omega)
  have o:Xo n (w.set k (x:Int)) m (k+1)=Xo n w m (k+1):=Zob _ _ (by omega)
  obtain ⟨H,l⟩:=hrc (w.set k (x:Int)) G (fun i T=>by
   rw [V2 w 0 k i _ a]
   split
   ·omega
   ·exact h0 i (by omega)) o
  rw [Zen,o] at l
  have t:Xo n w (m+1) k=cnt n k * Xo n w m (k+1):=by rw [Xo,if_neg (by rw [hk0];decide)]
  rw [t] at hr
  obtain ⟨O,b⟩:∃ O,O=Xo n w m (k+1):=⟨_,rfl⟩
  have M:1≤O:=by rw [b];exact Zoa hf.ev w m (k+1) (by omega)
  rw [← b] at hr l c ⊢
  obtain ⟨B,g⟩:∃ B,B=Q+2 * m:=⟨_,rfl⟩
  rw [show Q+2 * (m+1)=B+2 by omega,← g] at hr
  rw [← g] at l c ⊢
  -- sizes
  have U:(x+1) * O * (B+1)≤cnt n k * O * (B+1):=bC _ (bC _ (by omega))
  have V:(x+1) * O * (B+1)=x * O * (B+1)+O * (B+1):=by rw [aZ,aX,aZ]
  have X:O * (B+1)=O * B+O:=by rw [dZ,eU]
  have v:cnt n k * O * (B+2)=cnt n k * O * (B+1)+cnt n k * O:=by rw [show B+2=(B+1)+1 by omega,dZ _ (B+1) 1,eU]
  have A:B * O=O * B:=cB _ _
  rw [v,A] at hr
  have I:Su N (((Zo acc).1.1,(Zo acc).1.2),(Zo acc).2) (((Zo (Zz n (Zy n m (k+1) (w.set k (x:Int))))).1.1,(Zo (Zz n (Zy n m (k+1) (w.set k (x:Int))))).1.2),(Zo (Zz n (Zy n m (k+1) (w.set k (x:Int))))).2)=some (Zo (acc+Zz n (Zy n m (k+1) (w.set k (x:Int))))):=by
   have:=Zjk (N:=N) (Vo c) (Vo l) (hr.mono (by omega))
   rwa [Wt,Wt] at this
  have Y:=Zr2 acc (Zz n (Zy n m (k+1) (w.set k (x:Int))))
  obtain ⟨C,D⟩:=Zv8 hkm hw h0 hk0 rc hrc (by rw [t,← b,show Q+2 * (m+1)=B+2 by omega,← g,v,A];exact hr) j (x+1) f (acc+Zz n (Zy n m (k+1) (w.set k (x:Int)))) (by omega) (by omega) (by rw [← b,← g];omega)
  rw [← b,← g] at D
  have E:rc (n.1,n.2.1,n.2.2.1,n.2.2.2.1,n.2.2.2.2) (w.set k (x:Int)) ((k:Int)+1)=some (Zo (Zz n (Zy n m (k+1) (w.set k (x:Int)))),w.set k (x:Int)):=H
  rw [Zc6.eq_2,if_pos (dT (by omega)),Z1 d,oB,oB,aD,set_set,Zv (x:=(k:Int)+1) (by omega),E,oB,I,oB,wS (by omega),eM,dG,Xao,← Rat.add_assoc]
  rw [show (((x+1:Nat):Int) - 1)=(x:Int) by omega] at C
  exact ⟨C,D⟩
theorem Zv9:∀ (F m k:Nat) (w:List Int),m<F→k+m=n.2.1.length→PV n w→(∀ i,i<k→0≤w.getD i 0)→Z9 N (4 * (Xo n w m k * (Q+2 * m)+10))→
  Za5 N F n w (k:Int)=some (Zo (Zz n (Zy n m k w)),w)∧qs (Zz n (Zy n m k w))≤(Zy n m k w).length * (Q+2 * m)
 | 0,m,k,w,h,_,_,_,_=>by omega
 | F+1,m,k,w,hF,A,p,j,d=>by
  have Z:=hf.le
  have B:=p.len
  rw [Za5,Zmt]
  have P:∀ (m k f:Nat) (a:Bool) (b c:List Int),m≤F→m<f→k+m=n.2.1.length→(∀ i,i<k→0≤w.getD i 0)→Z9 N (4 * (Xo n w m k * (Q+2 * m)+10))→
    Zc5 N (Za5 N F) n f w a b c (k:Int)=some (Zo (Zz n (Zy n m k w)),w)∧qs (Zz n (Zy n m k w))≤(Zy n m k w).length * (Q+2 * m):=by
   intro m
   induction m with
   | zero=>
    intro k f a b c _ C D j _
    obtain ⟨g,rfl⟩:∃ g,f=g+1:=⟨f - 1,by omega⟩
    have q:Xn n w:=⟨B,fun i E=>⟨j i (by omega),(p.ok i E).2⟩⟩
    have R:Qi N (n.1,n.2.1,n.2.2.1,n.2.2.2.1,n.2.2.2.2) w=some (Zo (Uu n w n.2.1.length 0 1),0):=hch w q
    have hq:=hQ w q
    rw [Zc5.eq_2,if_neg (dF (by omega)),R,Zy,Xap,aL,Zoh,cZ]
    exact ⟨rfl,by omega⟩
   | succ m S=>
    intro k f a b c a0 C D j d
    obtain ⟨g,rfl⟩:∃ g,f=g+1:=⟨f - 1,by omega⟩
    have o:k<w.length:=by omega
    rw [Zc5.eq_2,if_pos (dT (by omega)),Wf 0 o,oB]
    by_cases hc:0≤w.getD k 0
    ·have t:Xo n w (m+1) k=Xo n w m (k+1):=by rw [Xo,if_pos hc,aX]
     rw [t] at d
     have T:Xo n w m (k+1) * (Q+2 * m)≤Xo n w m (k+1) * (Q+2 * (m+1)):=aR _ (by omega)
     obtain ⟨U,i2⟩:=S (k+1) g a b c (by omega) (by omega) (by omega) (fun i E=>by
      by_cases e:i=k
      ·subst e;exact hc
      ·exact j i (by omega)) (d.mono (by omega))
     rw [if_pos (dT hc),wS (by omega),Zy,if_pos hc]
     have O:(Zy n m (k+1) w).length * (Q+2 * m)≤(Zy n m (k+1) w).length * (Q+2 * (m+1)):=aR _ (by omega)
     exact ⟨U,by omega⟩
    ·have r:w.getD k 0= -1:=by have:=(p.ok k o).1;omega
     have t:Xo n w (m+1) k=cnt n k * Xo n w m (k+1):=by rw [Xo,if_neg hc]
     have s:=Uo hf.ev (v:=k) (by omega)
     have G:=Zoa hf.ev w m (k+1) (by omega)
     have H:Xo n w m (k+1)≤Xo n w (m+1) k:=by rw [t];exact eF _ s
     have a1:Xo n w m (k+1) * (Q+2 * m)≤Xo n w (m+1) k * (Q+2 * (m+1)):=iD H (by omega)
     have V:Zc8 N ([]:List QV)=some (Zo 0):=by
      have:=(Zqi (N:=N) (l:=[]) (fun a X=>by cases X) (d.mono (by rw [X6];omega))).1
      rw [this];rfl
     have I:k<n.2.2.1.length:=by rw [hf.ev.v];omega
     have y:=Zv8 hf D p j r (Za5 N F) (fun u Y J L=>Zv9 F m (k+1) u (by omega) (by omega) Y J (by rw [L];exact d.mono (by omega))) (d.mono (by rw [cB (Q+2 * m)];omega)) (cnt n k) 0 N 0 (cW _) (by
      obtain ⟨c1,c2,c3⟩:=hf.rows (v:=k) (by omega)
      have M:0<Wu n k:=Zf3 hf.ev (n.2.2.2.1.getD k []) 1 (hf.pars (by omega)) (by omega)
      have:=eF (cnt n k) M
      rw [Wu] at this;omega) (by rw [Zol];omega)
     rw [show w.set k (((0:Nat):Int) - 1)=w from Z1b o r,Rat.zero_add] at y
     rw [if_neg (dF hc),V,oB,Wf [] I,oB,Zy,if_neg hc]
     refine ⟨y.1,aU y.2 ?_⟩
     rw [Zqf _ (Xo n w m (k+1)) _ _ fun x=>by rw [Zen,Zob _ _ (by omega)]]
     have a2:1≤cnt n k * Xo n w m (k+1):=iO s G
     have:cnt n k * Xo n w m (k+1) * (Q+2 * (m+1))=cnt n k * Xo n w m (k+1) * (Q+2 * m+1)+cnt n k * Xo n w m (k+1):=by
      rw [show Q+2 * (m+1)=(Q+2 * m+1)+1 by omega,dZ _ (Q+2 * m+1) 1,eU]
     omega
  exact P m k N _ _ _ (by omega) (by omega) A j d
end
def Vl (n:Zp):Nat→Nat→Nat
 | 0,_=>1
 | m+1,k=>Sq (n.2.2.2.2.getD k []) * Vl n m (k+1)
theorem Zeo (n:Zp):∀ m k,Vl n m k≠0
 | 0,k=>by rw [Vl];decide
 | m+1,k=>eG (Zp7 _) (Zeo n m (k+1))
theorem Zu9:∀ {t:List QV} {x:QV},x ∈ t→∃ E,E≠0∧Sq t=Yv x.2 * E
 | y :: t,x,h=>by
  rcases aP.1 h with rfl | h
  ·exact ⟨Sq t,Zp7 t,rfl⟩
  ·obtain ⟨E,a,b⟩:=Zu9 h
   exact ⟨Yv y.2 * E,eG (Tq _) a,by rw [Sq,b];grind⟩
section
variable {N W:Nat} {n:Zp} (hf:Xu N n) (hs:Ve n W)
include hf
theorem Z6k {w:List Int} (hw:Xn n w) {v:Nat} (hv:v<n.2.1.length):Bd (Sq (n.2.2.2.2.getD v [])) 1 (ent n w v)∧0≤ent n w v:=by
 have f:=hw.ok v (by rw [hw.len];exact hv)
 have b:(w.getD v 0).toNat<(Ux n w v).length:=by rw [hf.rowT_len hw hv];omega
 have c:=Zk9 (aG b)
 have a:=hf.ent hv _ c
 obtain ⟨E,d,e⟩:=Zu9 c
 rw [ent,Xi b,e]
 exact ⟨(Z3b a.1 a.2).lift E (Tq _) d,a.1⟩
theorem Zrt {w:List Int} (hw:Xn n w):∀ m k,k+m≤n.2.1.length→Bd (Vl n m k) 1 (Zx n w m k)∧0≤Zx n w m k
 | 0,k,_=>by rw [Vl,Zx];exact ⟨Bd.one,by decide⟩
 | m+1,k,h=>by
  obtain ⟨a,b⟩:=Z6k hf hw (v:=k) (by omega)
  obtain ⟨c,d⟩:=Zrt hw m (k+1) (by omega)
  rw [Vl,Zx]
  exact ⟨a.mul c,bV b d⟩
omit hf in
theorem Z3a {D:Nat} (hD:D≠0) {q:Rat} (h:Bd D 1 q) (h0:0≤q):∃ z:Nat,q=mkRat (z:Int) D∧z≤D:=by
 obtain ⟨z,e,b⟩:=h
 have a:¬ z<0:=fun c=>by
  have:q<0:=by rw [e,show (0:Rat)=mkRat 0 1 from rfl,Zci hD (by decide)];omega
  exact absurd h0 (gB.2 this)
 exact ⟨z.toNat,by rw [e];congr 1;omega,by omega⟩
theorem Zyv {w:List Int} (hw:Xn n w):∃ z:Nat,Zx n w n.2.1.length 0=mkRat (z:Int) (Vl n n.2.1.length 0)∧z≤Vl n n.2.1.length 0:=by
 obtain ⟨a,b⟩:=Zrt hf hw n.2.1.length 0 (by omega)
 exact Z3a (Zeo _ _ _) a b
theorem Z1p:∀ C:List R2,(∀ w ∈ C,Xn n w)→∃ A:Nat,Zz n C=mkRat (A:Int) (Vl n n.2.1.length 0)∧A≤C.length * Vl n n.2.1.length 0
 | [],_=>⟨0,by rw [Zz,bN,Xq];exact (lJ _).symm,bK _⟩
 | w :: C,h=>by
  obtain ⟨z,a,d⟩:=Zyv hf (h w aC)
  obtain ⟨A,b,f⟩:=Z1p C fun x c=>h x (aB _ c)
  have e:Zz n (w :: C)=Zx n w n.2.1.length 0+Zz n C:=by rw [Zz,aQ,Xq];rfl
  refine ⟨z+A,?_,?_⟩
  ·rw [e,a,b,Z7u _ _ (Zeo _ _ _),eB]
  ·rw [nC,aZ,aX];omega
def Tp (n:Zp) (C:List R2):Nat:=(Zz n C * (Vl n n.2.1.length 0:Rat)).num.toNat
omit hf in
theorem Zra {A D:Nat} (hD:D≠0):mkRat (A:Int) D * (D:Rat)=(A:Rat):=by
 rw [dA]
 exact Sp (Zcj hD)
theorem Zpf {C:List R2} (h:∀ w ∈ C,Xn n w):Zz n C=mkRat (Tp n C:Int) (Vl n n.2.1.length 0)∧Tp n C≤C.length * Vl n n.2.1.length 0:=by
 obtain ⟨A,a,b⟩:=Z1p hf C h
 have:Tp n C=A:=by rw [Tp,a,Zra (Zeo _ _ _)];simp
 rw [this];exact ⟨a,b⟩
theorem Z65 {C:List R2} (h:∀ w ∈ C,Xn n w) (hp:0<Zz n C) {D E:Nat} (hD:D=Tp n C * E):∀ x ∈ C,∃ z:Nat,(D:Rat) * Zx n x n.2.1.length 0 / Zz n C=(z:Rat):=fun x c=>by
 obtain ⟨z,d,_⟩:=Zyv hf (h x c)
 obtain ⟨a,_⟩:=Zpf hf h
 have f:=Zcj (Zeo n n.2.1.length 0)
 have m:((Tp n C:Nat):Rat)≠0:=fun e=>by
  have:Zz n C=0:=by rw [a,dA];show ((Tp n C:Nat):Rat) / _=0;rw [e,bS,dC]
  rw [this] at hp;exact absurd hp dO
 have b:Zz n C≠0:=fun e=>by rw [e] at hp;exact absurd hp dO
 refine ⟨E * z,?_⟩
 have g:Zz n C * (Vl n n.2.1.length 0:Rat)=((Tp n C:Nat):Rat):=by rw [a];exact Zra (Zeo _ _ _)
 have i:Zx n x n.2.1.length 0 * (Vl n n.2.1.length 0:Rat)=((z:Nat):Rat):=by rw [d];exact Zra (Zeo _ _ _)
 have j:(D:Rat)=((Tp n C:Nat):Rat) * (E:Rat):=by rw [hD,lC]
 have k:(D:Rat) * Zx n x n.2.1.length 0=((E * z:Nat):Rat) * Zz n C:=by
  have l:((D:Rat) * Zx n x n.2.1.length 0) * (Vl n n.2.1.length 0:Rat)=((E * z:Nat):Rat) * Zz n C * (Vl n n.2.1.length 0:Rat):=by
   rw [lC,bH,i,bH _ (Zz n C),g,j]
   generalize ((Tp n C:Nat):Rat)=A
   generalize (E:Rat)=B
   generalize (z:Rat)=Z
   grind
  have:=congrArg (· * (Vl n n.2.1.length 0:Rat)⁻¹) l
  simp only [bH,cN _ f,bR] at this
  exact this
 rw [k,bS,bH,cN _ b,bR]
def S9 (n:Zp):List R2→Nat
 | []=>1
 | w :: r=>Tp n (Zy n n.2.1.length 0 w) * S9 n r
omit hf in
theorem Ztm:∀ (r:List R2) (w:List Int),w ∈ r→∃ E,S9 n r=Tp n (Zy n n.2.1.length 0 w) * E
 | u :: r,w,h=>by
  rcases aP.1 h with rfl | h
  ·exact ⟨S9 n r,rfl⟩
  ·obtain ⟨E,e⟩:=Ztm r w h
   exact ⟨Tp n (Zy n n.2.1.length 0 u) * E,by rw [S9,e];grind⟩
omit hf in
theorem Zuz (hlim:∀ v,v<n.2.1.length→∀ x ∈ n.2.2.2.2.getD v [],Vx x):∀ m k,k+m≤n.2.1.length→(Zg (Vl n m k)).length≤W5 (fun v=>X6 (n.2.2.2.2.getD v [])+1) m k+1
 | 0,k,_=>by rw [Vl,Ss,W5];simp
 | m+1,k,h=>by
  have a:=Zu8 (n.2.2.2.2.getD k []) (hlim k (by omega))
  have b:=Zuz hlim m (k+1) (by omega)
  have c:=U3 (Sq (n.2.2.2.2.getD k [])) (Vl n m (k+1))
  rw [Vl,W5];omega
theorem Zto:∀ r:List R2,(∀ w ∈ r,PV n w∧0<Zz n (Zy n n.2.1.length 0 w))→S9 n r≠0
 | [],_=>by rw [S9];decide
 | w :: r,h=>by
  obtain ⟨c,a⟩:=h w aC
  have d:=Zgl n.2.1.length 0 w c (by omega) fun i g=>by omega
  obtain ⟨b,_⟩:=Zpf hf d
  rw [S9]
  refine eG (fun e=>?_) (Zto r fun x f=>h x (aB _ f))
  rw [e] at b
  rw [b] at a
  rw [show (((0:Nat):Int))=0 from rfl,lJ] at a
  exact absurd a dO
theorem Ztn {G:Nat} (hG:(Zg (Vl n n.2.1.length 0)).length+1≤G):∀ r:List R2,(∀ w ∈ r,PV n w∧Xo n w n.2.1.length 0≤65536)→(Zg (S9 n r)).length≤r.length * G+1
 | [],_=>by rw [S9,Ss];simp
 | w :: r,h=>by
  obtain ⟨b,c⟩:=h w aC
  have d:=Zgl n.2.1.length 0 w b (by omega) fun i g=>by omega
  obtain ⟨_,a⟩:=Zpf hf d
  rw [Zen] at a
  have e:Tp n (Zy n n.2.1.length 0 w)≤65536 * Vl n n.2.1.length 0:=aU a (bC _ c)
  have j:=Wx e
  have k:=U3 65536 (Vl n n.2.1.length 0)
  have l:(Zg 65536).length≤1:=W0.2 (by decide)
  have m:=U3 (Tp n (Zy n n.2.1.length 0 w)) (S9 n r)
  have o:=Ztn hG r fun x f=>h x (aB _ f)
  rw [S9,nC,aZ,aX];omega
end
theorem Z6e:Wv prog 3 1 8:=⟨Tryz.t3,_,rfl,rfl,rfl,rfl,rfl⟩
def Zdm (ad:R0) (ae:List Int) (ab:Int) (ac:List Int) (kk_L1:(Int→R2→Option R2)):List Int→Int→Option R2
  | [],aa=>(Zm ad.2.2.1 ab).bind fun af=>(Zm ae ab).bind fun ag=>Z2 ((ac.length+[i64.wrap ((i64.wrap (aa * (af.length:Int)))+ag)].length) * 8≤140737488355328∧ac.length+[i64.wrap ((i64.wrap (aa * (af.length:Int)))+ag)].length≤maxLen) (kk_L1 (i64.wrap (ab+1)) (ac++[i64.wrap ((i64.wrap (aa * (af.length:Int)))+ag)]))
  | ah :: ai,aa=>(Zm ad.2.2.1 ah).bind fun aj=>(Zm ae ah).bind fun ak=>(Zdm ad ae ab ac kk_L1 ai) (i64.wrap ((i64.wrap (aa * (aj.length:Int)))+ak))
termination_by structural x=>x
def Za9 (N:Nat) (aa:R0) (ac:List Int):Nat→Int→R2→Option R2
  | 0,_,_=>none
  | ae+1,ab,ad=>if (decide (ab<(aa.2.1.length:Int)))=true then ((Zm aa.2.2.2.1 ab).bind fun af=>Zdm aa ac ab ad (Za9 N aa ac ae) af 0) else (some ad)
termination_by structural x=>x
def Zjx (N:Nat) (aa:R0) (ab:List Int):Option R2:=
  Za9 N aa ab N 0 ([]:List Int)
theorem Z3w {N ao ap aq ar bg:Nat} {au av aw ax a1:Option Addr} {col:Ze} {w0:World} {ab:R0} {ah r:R2} (c1:Nat) (hm:Zjx N ab ah=some r) (b3:Sl Za.str col w0 au ao ab.2.1) (ai:Sl (Za.slice Za.str) col w0 av ap ab.2.2.1) (ay:Sl (Za.slice (Za.int .i64)) col w0 aw aq ab.2.2.2.1) (b4:Sl (Za.slice (Za.pair (Za.pair Za.bool (Za.slice (Za.int .u32))) (Za.slice (Za.int .u32)))) col w0 ax ar ab.2.2.2.2) (h1:Sl (Za.int .i64) col w0 a1 bg ah):
    Calls prog 111 #[(.agg #[.string ab.1,.slice au ab.2.1.length ao,.slice av ab.2.2.1.length ap,.slice aw ab.2.2.2.1.length aq,.slice ax ab.2.2.2.2.length ar]),.slice a1 ah.length bg] w0 (fun e w'=>∃ (col':Ze) (ra1:Option Addr) (rc2:Nat),e= .returned ((.slice ra1 r.length rc2))∧Zh col w0 col' w'∧Zb (Za.int .i64) 3 c1 col' w' ra1 rc2 r):=by
 refine Xl 4 (m:=58) func111 rfl rfl rfl rfl rfl ?_;rw [Zjx.eq_1] at hm;have aa:=St.start col w0;refine go ?_;refine Xs (col:=(Zk col)) 1 rfl ?_;intro bh b5 b6 bm ac;refine go ?_;refine Xk ac ?_;refine go ?_;replace aa:=aa.grow bm;refine Z4 [1,12,2,1000000] (fun n f az=>∃ a0 a2 a3 a4 aj ag,ag=n∧Za9 N ab ah ag a2 aj=some r∧St w0 (Zk col) a0 az∧Zf 27 1 a0 az bh #[.string ab.1,.slice au ab.2.1.length ao,.slice av ab.2.2.1.length ap,.slice aw ab.2.2.2.1.length aq,.slice ax ab.2.2.2.2.length ar]∧Zb (Za.int .i64) 3 2 a0 az a3 a4 aj∧[13,5].map f=[.int .i64 a2,.slice a3 aj.length a4]) N ⟨_,0,none,0,_,_,rfl,hm,aa,ac,Zb.nil,rfl⟩ ?_;clear hm;intro n f az hI;obtain ⟨a0,a2,a3,a4,aj,ag,hn,hm,aa,ac,ae,hs⟩:=hI;subst hn;refine .lL [13,5] hs ?_;replace ai:=ai.keep (Zi.start col w0);replace ay:=ay.keep (Zi.start col w0);replace h1:=h1.keep (Zi.start col w0)
 cases ag with
 | zero=>rw [Za9.eq_1] at hm;cases hm
 | succ ag=>
  rw [Za9.eq_2] at hm;refine go ?_;refine Zq hm (fun hb hm=>go ?_) fun hb hm=>go ?_
  ·refine Xk ac<|X1 rfl ?_;obtain ⟨ak,a9,hm⟩:=bZ hm;refine lI a9 ((ay.ks aa).addr a9) ?_;obtain ⟨_,bn,bo⟩:=(ay.ks aa).atN a9;obtain ⟨⟨bp,bq,rfl,af⟩,_⟩:=bn;refine lW bo.one<|go ?_;refine Z4 [1,12,13,2,20,21,5,6,1000000] (fun n f al=>∃ ad am a5 an,n=an.length∧ak.drop am=an∧Zdm ab ah a2 aj (Za9 N ab ah ag) an a5=some r∧St w0 (Zk col) ad al∧Zf 27 1 ad al bh #[.string ab.1,.slice au ab.2.1.length ao,.slice av ab.2.2.1.length ap,.slice aw ab.2.2.2.1.length aq,.slice ax ab.2.2.2.2.length ar]∧Sl (Za.int .i64) ad al bp bq ak∧Zb (Za.int .i64) 3 2 ad al a3 a4 aj∧[22,7].map f=[.int .i64 am,.int .i64 a5]) ak.length ⟨_,0,0,_,rfl,rfl,hm,aa,ac,af,ae,rfl⟩ ?_;clear hm;intro n f al hI;obtain ⟨ad,am,a5,an,hn,hl,hm,aa,ac,af,ae,hs⟩:=hI;subst hn;refine .lL [22,7] hs ?_
   cases an with
   | nil=>
    have hk:¬ ((am:Int)<(ak.length:Int)):=by have:=aH.1 hl;omega
    have hkb:=decide_eq_false hk;rw [Zdm.eq_1] at hm;refine go ?_;refine X2 (congrArg Value.bool hkb)<|go ?_;refine W7 (col:=ad) [(0,1),(1,1),(2,1),(3,0),(4,1),(5,1),(6,0),(7,1),(8,1),(9,1),(10,1),(11,1),(12,0),(13,1),(14,3),(15,2),(16,1)] (by kernel_rfl) (by kernel_rfl)<|xu rfl rfl (fun _=>T0 rfl) ?_;refine xu rfl rfl (fun _=>Y4 rfl) ?_;refine xF ⟨_,_,rfl⟩ ?_;refine xW (fun _ hC=>((ac.atN).nth (q:=2) rfl).gr (hC.bl ad)) ?_;refine xu rfl rfl (fun _=>Y4 rfl) ?_;obtain ⟨br,a6,hm⟩:=bZ hm;refine xu rfl rfl (fun _=>Y3 underlying23 sizeOf22 rfl rfl (Xe a6).1 (Xe a6).2.1 ((ai.ks aa).addr a6)) ?_;obtain ⟨_,bs,bt⟩:=(ai.ks aa).atN a6;obtain ⟨⟨b7,b8,rfl,b9⟩,_⟩:=bs;refine xW (fun _ hC=>bt.one.gr (hC.bl ad)) ?_;refine xu rfl rfl (fun _=>Zaj underlying22 rfl) ?_;refine xu rfl rfl (fun _=>Zis _ _ rfl rfl) ?_;refine xu rfl rfl (fun _=>T0 rfl) ?_;refine xu rfl rfl (fun _=>Y4 rfl) ?_;obtain ⟨bu,a7,hm⟩:=bZ hm;refine xu rfl rfl (fun _=>Y3 underlying33 sizeOf3 rfl rfl (Xe a7).1 (Xe a7).2.1 ((h1.ks aa).addr a7)) ?_;refine xW (fun _ hC=>((h1.ks aa).gr (hC.bl ad)).atInt a7) ?_;refine xu rfl rfl (fun _=>Zai _ _ rfl rfl) ?_;refine xe rfl rfl ?_;intro ca hC0;have hC:=hC0.bl ad;refine V7 (col:=ad) [i64.wrap ((i64.wrap (a5 * (br.length:Int)))+bu)] 3 ?_;intro cb cc ba a8 bb;refine Zl<|Xz ba hC0 a8<|xe rfl rfl ?_;intro bv hC0;replace ae:=(ae.gr hC).gr a8;replace ac:=(ac.gr hC).gr a8;replace aa:=(aa.grow hC).grow a8;have hC:=hC0.bl ba;obtain ⟨bi,hm⟩:=Z8 hm;replace ae:=ae.gr hC;replace bb:=bb.gr hC;refine Q2 (col:=ba) (w:=bv) (r:=(Za.int .i64)) (c:=2) (c2:=2) (ae.ex) (bb.srcN (NB.int (k:=.i64))) rfl underlying33 Z6e rfl rfl rfl bi.1 bi.2 (by decide) ?_;intro cd ce cf bj bk bw;refine Zl<|xk bj<|xu rfl rfl (fun _=>Zze rfl) ?_;have bc:=bw.new;refine Wi ?_;replace ac:=(ac.gr hC).kpp bk;replace aa:=(aa.grow hC).kpp bk;intro cg hC;replace hC:=hC.bl bj;refine go ?_;replace bc:=bc.gr hC;replace ac:=ac.gr hC;replace aa:=aa.grow hC;exact ⟨ag,by omega,rfl,⟨_,_,_,_,_,_,rfl,hm,aa,ac,bc,rfl⟩⟩
   | cons ch bx=>
    obtain ⟨bd,bz,b0⟩:=Yd hl;have hk:(am:Int)<(ak.length:Int):=by omega
    have hkb:=decide_eq_true hk;rw [Zdm.eq_2] at hm;refine go ?_;refine X3 (congrArg Value.bool hkb)<|go ?_;refine lI bd (af.addr bd)<|lW (af.atInt bd) ?_;refine go ?_;refine V4 (col:=ad) (by kernel_rfl) (by kernel_rfl)<|go ?_;refine qF ⟨_,_,rfl⟩ ?_;refine qW (fun _ hC=>((ac.atN).nth (q:=2) rfl).gr (hC.bl ad)) ?_;refine go ?_;obtain ⟨ci,be,hm⟩:=bZ hm;refine qI be ((ai.ks aa).addr be) ?_;obtain ⟨_,b1,b2⟩:=(ai.ks aa).atN be;obtain ⟨⟨cj,ck,rfl,cl⟩,_⟩:=b1;refine qW (fun _ hC=>b2.one.gr (hC.bl ad)) ?_;refine go ?_;obtain ⟨cn,bf,hm⟩:=bZ hm;refine qI bf ((h1.ks aa).addr bf)<|qW (fun _ hC=>((h1.ks aa).gr (hC.bl ad)).atInt bf) ?_;refine go ?_;refine Vc ?_;intro co hC;replace hC:=hC.bl ad;refine go ?_;replace af:=af.gr hC;replace ae:=ae.gr hC;replace ac:=ac.gr hC;replace aa:=aa.grow hC;exact ⟨bx.length,by simp,rfl,⟨_,_,_,_,rfl,bz,hm,aa,ac,af,ae,(Yg (congrArg (Value.int .i64) (Yb (aF b0 af.1.1))) rfl)⟩⟩
  cases hm;exact ⟨rfl,_,_,_,rfl,aa.fin (cm [(2,c1)]),aa.fo ae⟩
def Zbw (N:Nat) (aa:(R1×Int)):List Int→Nat→R9→Option R9
  | [],ab,ac=>some ac
  | af :: ah,ab,ac=>(Zm ac (ab:Int)).bind fun ag=>(Zm ag af).bind fun ad=>(Su N ((ad.1.1,ad.1.2),ad.2) ((aa.1.1.1,aa.1.1.2),aa.1.2)).bind fun ae=>(some (ag.set (aA af) ((ae.1.1,ae.1.2),ae.2))).bind fun ai=>(Zbw N aa ah) (ab+1) (ac.set (aA (ab:Int)) ai)
termination_by structural x=>x
def Zdh (N:Nat) (ah:R0) (aa:R1) (ai:R9) (aj:List Int):List Int→Nat→Bool→R2→R2→Option R9
  | [],ab,ac,ad,ae=>(Zbs N ((ac,ad),ae) ((aa.1.1,aa.1.2),aa.2)).bind fun ak=>Zbw N ak aj 0 ai
  | al :: am,ab,ac,ad,ae=>(Zm ah.2.2.2.2 (ab:Int)).bind fun an=>(Zm an al).bind fun af=>(Qg N ((ac,ad),ae) ((af.1.1,af.1.2),af.2)).bind fun ag=>(Zdh N ah aa ai aj am) (ab+1) ag.1.1 ag.1.2 ag.2
termination_by structural x=>x
def Zg9 (N:Nat) (ad:List Int) (aa:R0) (ae:R0) (af:R1) (ag:R9):Option R9:=
  (Zjx N (aa.1,aa.2.1,aa.2.2.1,aa.2.2.2.1,aa.2.2.2.2) ad).bind fun ac=>(Zbz N 1).bind fun ab=>Zdh N ae af ag ac ac 0 ab.1.1 ab.1.2 ab.2
theorem Z3u (N:Nat) (col:Ze) (w0:World) (qc0:Nat) (qc1:Nat) (qc2:Nat) (c0:Nat) (c1:Nat) (c2:Nat) (c3:Nat) (qc3:Nat) (c4:Nat) (c5:Nat) (qc4:Nat) (aj:Nat) (hd:U1 [qc4,aj]=true) (hqqc0:qc0≠0∧pS [qc4,aj] qc0=false) (hqqc1:qc1≠0∧pS [qc4,aj] qc1=false) (hqqc2:qc2≠0∧pS [qc4,aj] qc2=false) (dt:c0≠0∧pS [qc4,aj] c0=false) (du:c1≠0∧pS [qc4,aj] c1=false) (dv:c2≠0∧pS [qc4,aj] c2=false) (dw:c3≠0∧pS [qc4,aj] c3=false) (hqqc3:qc3≠0∧pS [qc4,aj] qc3=false) (dx:c4≠0∧pS [qc4,aj] c4=false) (dy:c5≠0∧pS [qc4,aj] c5=false) (a0:Option Addr) (c6:Nat) (cb:List Int) (g1:Nat) (ao:R0) (cc:Option Addr) (cd:Nat) (ce:Option Addr) (cf:Nat) (cg:Option Addr) (ch:Nat) (ci:Option Addr) (cj:Nat) (g2:Nat) (ak:R0) (bs:Option Addr) (bt:Nat) (bu:Option Addr) (bv:Nat) (bw:Option Addr) (bx:Nat) (bz:Option Addr) (b0:Nat) (g3:Nat) (az:R1) (b1:Option Addr) (b2:Nat) (b3:Option Addr) (b4:Nat) (g4:Nat) (b5:R9) (ck:Option Addr) (cl:Nat) (h0:Zb (Za.int .i64) 3 qc0 col w0 a0 c6 cb) (c7:Sl Za.str col w0 cc cd ao.2.1) (c8:Sl (Za.slice Za.str) col w0 ce cf ao.2.2.1) (c9:Sl (Za.slice (Za.int .i64)) col w0 cg ch ao.2.2.2.1) (da:Sl (Za.slice (Za.pair (Za.pair Za.bool (Za.slice (Za.int .u32))) (Za.slice (Za.int .u32)))) col w0 ci cj ao.2.2.2.2) (hb1:Zf 27 qc1 col w0 g1 #[.string ao.1,.slice cc ao.2.1.length cd,.slice ce ao.2.2.1.length cf,.slice cg ao.2.2.2.1.length ch,.slice ci ao.2.2.2.2.length cj]) (af:Zb Za.str 9 c0 col w0 bs bt ak.2.1) (ag:Zb (Za.row 9 Za.str) 22 c1 col w0 bu bv ak.2.2.1) (ah:Zb (Za.row 3 (Za.int .i64)) 33 c2 col w0 bw bx ak.2.2.2.1) (ac:Zb (Za.row 39 (Za.pair (Za.pair Za.bool (Za.row 95 (Za.int .u32))) (Za.row 95 (Za.int .u32)))) 114 c3 col w0 bz b0 ak.2.2.2.2) (hb2:Zf 27 qc2 col w0 g2 #[.string ak.1,.slice bs ak.2.1.length bt,.slice bu ak.2.2.1.length bv,.slice bw ak.2.2.2.1.length bx,.slice bz ak.2.2.2.2.length b0]) (ad:Zb (Za.int .u32) 95 c4 col w0 b1 b2 az.1.2) (ae:Zb (Za.int .u32) 95 c5 col w0 b3 b4 az.2) (hb3:Zf 39 qc3 col w0 g3 #[.bool az.1.1,.slice b1 az.1.2.length b2,.slice b3 az.2.length b4]) (ap:Zb (Za.row 39 (Za.pair (Za.pair Za.bool (Za.slice (Za.int .u32))) (Za.slice (Za.int .u32)))) 114 aj col w0 ck cl b5) (hb4:Zf 25 qc4 col w0 g4 #[.slice ck b5.length cl]) (r:R9) (hm:Zg9 N cb ao ak az b5=some r):
    Calls prog 110 #[.slice a0 cb.length c6,.pointer (some ⟨g1,0,none⟩),.pointer (some ⟨g2,0,none⟩),.pointer (some ⟨g3,0,none⟩),.pointer (some ⟨g4,0,none⟩)] w0 (fun e w'=>∃ (col':Ze) (oa1:Option Addr) (oc2:Nat),e= .returned (.tuple #[])∧Zu (pS [qc4,aj]) col w0 col' w'∧Zb (Za.row 39 (Za.pair (Za.pair Za.bool (Za.slice (Za.int .u32))) (Za.slice (Za.int .u32)))) 114 aj col' w' oa1 oc2 r∧Zf 25 qc4 col' w' g4 #[.slice oa1 r.length oc2]):=by
 refine Zcs (m:=63) (args:=[.slice a0 cb.length c6,.pointer (some ⟨g1,0,none⟩),.pointer (some ⟨g2,0,none⟩),.pointer (some ⟨g3,0,none⟩),.pointer (some ⟨g4,0,none⟩)]) func110 rfl rfl rfl rfl ?_;rw [Zg9.eq_1] at hm;have ab:=St.startL (l:=[qc4,aj]) rfl col w0;replace h0:=h0.startB hqqc0.1 hqqc0.2;replace hb1:=hb1.startB hqqc1.1 hqqc1.2;replace hb2:=hb2.startB hqqc2.1 hqqc2.2;replace af:=af.startB dt.1 dt.2;replace ag:=ag.startB du.1 du.2;replace ah:=ah.startB dv.1 dv.2;replace ac:=ac.startB dw.1 dw.2;replace hb3:=hb3.startB hqqc3.1 hqqc3.2;replace ad:=ad.startB dx.1 dx.2;replace ae:=ae.startB dy.1 dy.2;replace c7:=c7.keep (Zi.startL [qc4,aj] col w0);replace c8:=c8.keep (Zi.startL [qc4,aj] col w0);replace c9:=c9.keep (Zi.startL [qc4,aj] col w0);replace da:=da.keep (Zi.startL [qc4,aj] col w0);replace hb4:=hb4.startL (T9 hd 0 rfl) (T8 hd 0 rfl);replace ap:=ap.startL (T9 hd 1 rfl) (T8 hd 1 rfl);refine go ?_;refine lV _ (Xd isAgg27 sizeOf27 hb1)<|Y2 rfl ?_;obtain ⟨bc,d6,hm⟩:=bZ hm;refine Zj (Z3w 1 d6 ((c7.ks ab).froz 999) ((c8.ks ab).froz 999) ((c9.ks ab).froz 999) ((da.ks ab).froz 999) (h0.toSlF (Zd.int .i64))) ?_;rintro _ fp ⟨d7,dz,d0,rfl,a2,aa⟩;refine ⟨_,rfl,?_⟩;replace aa:=aa.thaw (Z7 .i64) a2 ((Fz.refl (col:=(Xh [qc4,aj] col))).froz 999) (by decide);replace a2:=a2.thawR (col:=(Xh [qc4,aj] col));generalize Xj w0.heap.size (Xh [qc4,aj] col) d7=d8 at *;refine go ?_;obtain ⟨fq,d9,hm⟩:=bZ hm;refine Zj (Zpp (col:=d8) 2 3 d9) ?_;rintro _ fr ⟨ea,ft,fu,fv,fw,rfl,a9,db,dc⟩;refine ⟨_,rfl,?_⟩;refine Xr (col:=ea) #[.bool false,.slice none (([]:List Int).length) 0,.slice none (([]:List Int).length) 0] 4 zeroValue39 ?_;intro d1 fx fy a3 eb;refine Z5 eb ?_;intro fz a4 ec ba;refine go ?_;replace af:=(((af.gr a2).gr a9).gr a3).kp a4;replace ag:=(((ag.gr a2).gr a9).gr a3).kp a4;replace ah:=(((ah.gr a2).gr a9).gr a3).kp a4;replace ac:=(((ac.gr a2).gr a9).gr a3).kp a4;replace ad:=(((ad.gr a2).gr a9).gr a3).kp a4;replace ae:=(((ae.gr a2).gr a9).gr a3).kp a4;replace ap:=(((ap.gr a2).gr a9).gr a3).kp a4;replace hb1:=(((hb1.gr a2).gr a9).gr a3).kp a4;replace hb2:=(((hb2.gr a2).gr a9).gr a3).kp a4;replace hb3:=(((hb3.gr a2).gr a9).gr a3).kp a4
 replace hb4:=(((hb4.gr a2).gr a9).gr a3).kp a4;replace ab:=(((ab.grow a2).grow a9).grow a3).kp a4 ec;replace aa:=((aa.gr a9).gr a3).kp a4;replace db:=(db.gr a3).kp a4;replace dc:=(dc.gr a3).kp a4;refine Z4 [16,17,2,3,4,6,7,1000000] (fun n f av=>∃ ai b6 dd de df cn dg dh co b8,n=b8.length∧bc.drop b6=b8∧Zdh N ak az b5 bc b8 b6 dd cn co=some r∧St w0 (Xh [qc4,aj] col) ai av∧Zb (Za.int .i64) 3 1 ai av dz d0 bc∧Zb Za.str 9 999 ai av bs bt ak.2.1∧Zb (Za.row 9 Za.str) 22 999 ai av bu bv ak.2.2.1∧Zb (Za.row 3 (Za.int .i64)) 33 999 ai av bw bx ak.2.2.2.1∧Zb (Za.row 39 (Za.pair (Za.pair Za.bool (Za.row 95 (Za.int .u32))) (Za.row 95 (Za.int .u32)))) 114 999 ai av bz b0 ak.2.2.2.2∧Zf 27 999 ai av g2 #[.string ak.1,.slice bs ak.2.1.length bt,.slice bu ak.2.2.1.length bv,.slice bw ak.2.2.2.1.length bx,.slice bz ak.2.2.2.2.length b0]∧Zb (Za.int .u32) 95 999 ai av b1 b2 az.1.2∧Zb (Za.int .u32) 95 999 ai av b3 b4 az.2∧Zf 39 999 ai av g3 #[.bool az.1.1,.slice b1 az.1.2.length b2,.slice b3 az.2.length b4]∧Zb (Za.row 39 (Za.pair (Za.pair Za.bool (Za.slice (Za.int .u32))) (Za.slice (Za.int .u32)))) 114 441 ai av ck cl b5∧Zf 25 440 ai av g4 #[.slice ck b5.length cl]∧Zb (Za.int .u32) 95 2 ai av de df cn∧Zb (Za.int .u32) 95 3 ai av dg dh co∧Zf 39 4 ai av d1 #[.bool dd,.slice de cn.length df,.slice dg co.length dh]∧Zf 27 999 ai av g1 #[.string ao.1,.slice cc ao.2.1.length cd,.slice ce ao.2.2.1.length cf,.slice cg ao.2.2.2.1.length ch,.slice ci ao.2.2.2.2.length cj]∧[18].map f=[.int .i64 b6]) bc.length ⟨_,0,_,_,_,_,_,_,_,_,rfl,rfl,hm,ab,aa,af,ag,ah,ac,hb2,ad,ae,hb3,ap,hb4,db,dc,ba,hb1,rfl⟩ ?_;clear hm;intro n f av hI;obtain ⟨ai,b6,dd,de,df,cn,dg,dh,co,b8,hn,hl,hm,ab,aa,af,ag,ah,ac,hb2,ad,ae,hb3,ap,hb4,cp,cq,ba,hb1,hs⟩:=hI;subst hn;refine .lL [18] hs ?_
 cases b8 with
 | nil=>
  have hk:¬ ((b6:Int)<(bc.length:Int)):=by have:=aH.1 hl;omega
  have hkb:=decide_eq_false hk;rw [Zdh.eq_1] at hm;refine go ?_;refine X2 (congrArg Value.bool hkb)<|go ?_;refine lV _ (Xd isAgg39 sizeOf39 ba)<|lV _ (Xd isAgg39 sizeOf39 hb3) ?_;obtain ⟨a8,ed,hm⟩:=bZ hm;refine Zj (Zty 5 6 ed (((cp.toSlF (Zd.int .u32)).froz 3).froz 999) (((cq.froz 2 (by decide)).toSlF (Zd.int .u32)).froz 999) (((ad.froz 2 (by decide)).froz 3 (by decide)).toSlF (Zd.int .u32)) (((ae.froz 2 (by decide)).froz 3 (by decide)).toSlF (Zd.int .u32))) ?_;rintro _ f0 ⟨ee,cr,cs,ct,cu,rfl,aw,al,am⟩;refine ⟨_,rfl,?_⟩;replace al:=al.thaw (Z7 .u32) aw ((((Fz.refl (col:=ai)).froz 2).froz 3).froz 999) (by decide);replace am:=am.thaw (Z7 .u32) aw ((((Fz.refl (col:=ai)).froz 2).froz 3).froz 999) (by decide);replace aw:=aw.thawR (col:=ai);generalize Xj av.heap.size ai ee=f1 at *;refine lM (.tuple #[(.agg #[.bool a8.1.1.1,.slice cr a8.1.1.2.length cs,.slice ct a8.1.2.length cu]),.int .i64 a8.2])<|lV (.agg #[.bool a8.1.1.1,.slice cr a8.1.1.2.length cs,.slice ct a8.1.2.length cu]) (Xx rfl rfl)<|lV (.int .i64 a8.2) (Xx rfl rfl) ?_;replace ba:=ba.gr aw;refine Z5 ba ?_;intro f2 a5 ef aq;refine go ?_;replace ap:=(ap.gr aw).kp a5;replace aa:=(aa.gr aw).kp a5;replace ad:=(ad.gr aw).kp a5;replace ae:=(ae.gr aw).kp a5;replace af:=(af.gr aw).kp a5;replace ag:=(ag.gr aw).kp a5;replace ah:=(ah.gr aw).kp a5;replace ac:=(ac.gr aw).kp a5;replace hb2:=(hb2.gr aw).kp a5;replace hb3:=(hb3.gr aw).kp a5;replace hb4:=(hb4.gr aw).kp a5;replace hb1:=(hb1.gr aw).kp a5;replace ab:=(ab.grow aw).kp a5 ef;replace al:=al.kp a5;replace am:=am.kp a5
  refine Z4 [4,40,41,7,1000000] (fun n f ax=>∃ ar bm bn bg bh b9,n=b9.length∧bc.drop bh=b9∧Zbw N a8 b9 bh bg=some r∧St w0 (Xh [qc4,aj] col) ar ax∧Zb (Za.row 39 (Za.pair (Za.pair Za.bool (Za.slice (Za.int .u32))) (Za.slice (Za.int .u32)))) 114 441 ar ax bm bn bg∧Zf 25 440 ar ax g4 #[.slice bm bg.length bn]∧Zb (Za.int .i64) 3 1 ar ax dz d0 bc∧Zb (Za.int .u32) 95 5 ar ax cr cs a8.1.1.2∧Zb (Za.int .u32) 95 6 ar ax ct cu a8.1.2∧Zf 39 4 ar ax d1 #[.bool a8.1.1.1,.slice cr a8.1.1.2.length cs,.slice ct a8.1.2.length cu]∧Zb Za.str 9 999 ar ax bs bt ak.2.1∧Zb (Za.row 9 Za.str) 22 999 ar ax bu bv ak.2.2.1∧Zb (Za.row 3 (Za.int .i64)) 33 999 ar ax bw bx ak.2.2.2.1∧Zb (Za.row 39 (Za.pair (Za.pair Za.bool (Za.row 95 (Za.int .u32))) (Za.row 95 (Za.int .u32)))) 114 999 ar ax bz b0 ak.2.2.2.2∧Zf 27 999 ar ax g2 #[.string ak.1,.slice bs ak.2.1.length bt,.slice bu ak.2.2.1.length bv,.slice bw ak.2.2.2.1.length bx,.slice bz ak.2.2.2.2.length b0]∧Zb (Za.int .u32) 95 999 ar ax b1 b2 az.1.2∧Zb (Za.int .u32) 95 999 ar ax b3 b4 az.2∧Zf 39 999 ar ax g3 #[.bool az.1.1,.slice b1 az.1.2.length b2,.slice b3 az.2.length b4]∧Zf 27 999 ar ax g1 #[.string ao.1,.slice cc ao.2.1.length cd,.slice ce ao.2.2.1.length cf,.slice cg ao.2.2.2.1.length ch,.slice ci ao.2.2.2.2.length cj]∧[42].map f=[.int .i64 bh]) bc.length ⟨_,_,_,_,0,_,rfl,rfl,hm,ab,ap,hb4,aa,al,am,aq,af,ag,ah,ac,hb2,ad,ae,hb3,hb1,rfl⟩ ?_;clear hm;intro n f ax hI;obtain ⟨ar,bm,bn,bg,bh,b9,hn,hl,hm,ab,di,hb4,aa,al,am,aq,af,ag,ah,ac,hb2,ad,ae,hb3,hb1,hs⟩:=hI;subst hn;refine .lL [42] hs ?_
  cases b9 with
  | nil=>
   have hk:¬ ((bh:Int)<(bc.length:Int)):=by have:=aH.1 hl;omega
   have hkb:=decide_eq_false hk;rw [Zbw.eq_1] at hm;refine go ?_;refine X2 (congrArg Value.bool hkb)<|go ?_;cases hm;exact ⟨rfl,So w0.heap.size [qc4,aj] col ar (fun n=>bif aJ n 441 then aj else bif aJ n 440 then qc4 else 0),bm,bn,rfl,ab.finL rfl (fun n=>bif aJ n 441 then aj else bif aJ n 440 then qc4 else 0),ab.finOwnL (g:=(fun n=>bif aJ n 441 then aj else bif aJ n 440 then qc4 else 0)) rfl di (by decide) (by decide) rfl,ab.finBoxL (g:=(fun n=>bif aJ n 441 then aj else bif aJ n 440 then qc4 else 0)) hb4 (by decide) (by decide) rfl⟩
  | cons eg eh=>
   obtain ⟨bq,ei,ej⟩:=Yd hl;have hk:(bh:Int)<(bc.length:Int):=by omega
   have hkb:=decide_eq_true hk;rw [Zbw.eq_2] at hm;refine go ?_;refine X3 (congrArg Value.bool hkb)<|go ?_;refine lI bq (aa.addr bq)<|lW (aa.atInt bq) ?_;refine go ?_;refine W7 (col:=ar) [(0,0),(1,1),(2,1),(3,0),(4,1),(5,0),(6,1),(7,1),(8,0),(9,1),(10,1),(11,0),(12,0),(13,3),(14,1),(15,2)] (by kernel_rfl) (by kernel_rfl)<|xW (fun _ hC=>hb4.at1.gr (hC.bl ar)) ?_;refine xu rfl rfl (fun _=>Y4 rfl) ?_;obtain ⟨dj,b7,hm⟩:=bZ hm;refine xu rfl rfl (fun _=>Y3 underlying25 sizeOf114 rfl rfl (Xe b7).1 (Xe b7).2.1 (di.addr b7)) ?_;obtain ⟨_,bd,a6,ay,ek⟩:=di.open_ 7 (by decide) b7;obtain ⟨d2,d3,rfl,bb⟩:=ek.row;replace ay:Y1 (Za.row 39 (Za.pair (Za.pair Za.bool (Za.slice (Za.int .u32))) (Za.slice (Za.int .u32)))) 114 441 bd ax bm bn bg (aA (bh:Int)) [.slice d2 dj.length d3]:=ay;refine xW (fun _ hC=>ay.atN.one.gr (hC.bl bd)) ?_;refine xu rfl rfl (fun _=>Y4 rfl) ?_;replace hb4:=hb4.kpp a6;refine xW (fun _ hC=>hb4.at1.gr (hC.bl bd)) ?_;refine xu rfl rfl (fun _=>Y4 rfl) ?_;refine xu rfl rfl (fun _=>Y3 underlying25 sizeOf114 rfl rfl (Xe b7).1 (Xe b7).2.1 (ay.addr)) ?_;refine xW (fun _ hC=>ay.atN.one.gr (hC.bl bd)) ?_;refine xu rfl rfl (fun _=>Y4 rfl) ?_;obtain ⟨dl,bo,hm⟩:=bZ hm;refine xu rfl rfl (fun _=>Y3 underlying114 sizeOf39 rfl rfl (Xe bo).1 (Xe bo).2.1 (bb.addr bo)) ?_;obtain ⟨_,el,em⟩:=bb.atN bo;obtain ⟨_,_,rfl,en,eo⟩:=el.parts;obtain ⟨_,_,rfl,ep,eq⟩:=en.parts;obtain rfl:=ep.bool;obtain ⟨er,es,rfl,dm⟩:=eq.slice;obtain ⟨et,eu,rfl,dn⟩:=eo.slice;refine xv (v:=(.agg #[.bool dl.1.1,.slice er dl.1.2.length es,.slice et dl.2.length eu])) rfl rfl (fun _ hC=>W4 isAgg39 sizeOf39 rfl rfl (em.gr (hC.bl bd))) ?_;replace aq:=aq.kpp a6;refine xv rfl rfl (fun _ hC=>Xd isAgg39 sizeOf39 (aq.gr (hC.bl bd))) ?_;refine xe rfl rfl ?_;intro ew hC0;have hC:=hC0.bl bd;obtain ⟨bi,ey,hm⟩:=bZ hm;replace al:=(al.kpp a6).gr hC;replace am:=(am.kpp a6).gr hC;replace dm:=dm.gr hC;replace dn:=dn.gr hC;refine Zj (Zja 8 9 ey ((dm.froz 5).froz 6) ((dn.froz 5).froz 6) ((al.toSlF (Zd.int .u32)).froz 6) ((am.froz 5 (by decide)).toSlF (Zd.int .u32))) ?_;rintro _ f3 ⟨ez,e0,e1,e2,e3,rfl,an,bj,bk⟩;refine ⟨_,rfl,?_⟩
   replace bj:=bj.thaw (Z7 .u32) an (((Fz.refl (col:=bd)).froz 5).froz 6) (by decide);replace bk:=bk.thaw (Z7 .u32) an (((Fz.refl (col:=bd)).froz 5).froz 6) (by decide);replace an:=an.thawR (col:=bd);generalize Xj ew.heap.size bd ez=bp at *;refine Zl<|Xz bp hC0 an ?_;replace bb:=(bb.gr hC).gr an;refine xu rfl rfl (fun _=>Y3 underlying114 sizeOf39 rfl rfl (Xe bo).1 (Xe bo).2.1 (bb.addr bo)) ?_;refine xe rfl rfl ?_;intro f4 hC0;replace aa:=((aa.kpp a6).gr hC).gr an;replace af:=((af.kpp a6).gr hC).gr an;replace ag:=((ag.kpp a6).gr hC).gr an;replace ah:=((ah.kpp a6).gr hC).gr an;replace ac:=((ac.kpp a6).gr hC).gr an;replace ad:=((ad.kpp a6).gr hC).gr an;replace ae:=((ae.kpp a6).gr hC).gr an;replace hb2:=((hb2.kpp a6).gr hC).gr an;replace hb3:=((hb3.kpp a6).gr hC).gr an;replace hb1:=((hb1.kpp a6).gr hC).gr an;replace ab:=((ab.kpp a6).grow hC).grow an;replace ay:=(ay.gr hC).gr an;replace hb4:=(hb4.gr hC).gr an;replace aq:=(aq.gr hC).gr an;have hC:=hC0.bl bp;replace ay:=ay.gr hC;replace ay:=ay.froz 9 (by decide);replace bb:=bb.gr hC;replace bb:=bb.froz 9 (by decide);replace aa:=aa.gr hC;replace aa:=aa.froz 9 (by decide);replace al:=(al.gr an).gr hC;replace al:=al.froz 9 (by decide);replace am:=(am.gr an).gr hC;replace am:=am.froz 9 (by decide);replace bj:=bj.gr hC;replace bj:=bj.froz 9 (by decide);replace bk:=bk.gr hC;replace bk:=(bk).toSlF (Zd.int .u32);replace af:=af.gr hC;replace af:=af.froz 9 (by decide);replace ag:=ag.gr hC;replace ag:=ag.froz 9 (by decide);replace ah:=ah.gr hC;replace ah:=ah.froz 9 (by decide);replace ac:=ac.gr hC;replace ac:=ac.froz 9 (by decide);replace ad:=ad.gr hC;replace ad:=ad.froz 9 (by decide);replace ae:=ae.gr hC;replace ae:=ae.froz 9 (by decide);replace hb4:=hb4.gr hC;replace hb4:=hb4.froz 9 (by decide);replace aq:=aq.gr hC;replace aq:=aq.froz 9 (by decide);replace hb2:=hb2.gr hC;replace hb2:=hb2.froz 9 (by decide);replace hb3:=hb3.gr hC;replace hb3:=hb3.froz 9 (by decide);replace hb1:=hb1.gr hC;replace hb1:=hb1.froz 9 (by decide);replace ab:=ab.grow hC;replace ab:=ab.froz 9 (by decide) (by decide);replace ay:=ay.froz 8 (by decide);replace bb:=bb.froz 8 (by decide);replace aa:=aa.froz 8 (by decide);replace al:=al.froz 8 (by decide);replace am:=am.froz 8 (by decide);replace bj:=(bj).toSlF (Zd.int .u32);replace bk:=bk.froz 8;replace af:=af.froz 8 (by decide);replace ag:=ag.froz 8 (by decide)
   replace ah:=ah.froz 8 (by decide);replace ac:=ac.froz 8 (by decide);replace ad:=ad.froz 8 (by decide);replace ae:=ae.froz 8 (by decide);replace hb4:=hb4.froz 8 (by decide);replace aq:=aq.froz 8 (by decide);replace hb2:=hb2.froz 8 (by decide);replace hb3:=hb3.froz 8 (by decide);replace hb1:=hb1.froz 8 (by decide);replace ab:=ab.froz 8 (by decide) (by decide);obtain ⟨ca,cv,hm⟩:=bZ hm;have cv:ca=dj.set (aA eg) ((bi.1.1,bi.1.2),bi.2):=(Option.some.inj cv).symm;refine Zwn (x1:=((bi.1.1,bi.1.2),bi.2)) (v:=(.agg #[.bool bi.1.1,.slice e0 bi.1.2.length e1,.slice e2 bi.2.length e3])) bb bo rfl sizeOf39 (Ziw (Ziw (Zcl bi.1.1) (Zll bj)) (Zll bk)) rfl rfl (by decide) ?_;intro cw a1 e4 d4;rw [← cv] at d4;replace hb4:=hb4.kp a1;replace hb4:Zf 25 440 (Y0 8 (Y0 9 bp)) cw g4 #[.slice bm bg.length bn]:=by rw [];exact hb4
   replace ay:=ay.kp a1;replace ay:Y1 (Za.row 39 (Za.pair (Za.pair Za.bool (Za.slice (Za.int .u32))) (Za.slice (Za.int .u32)))) 114 441 (Y0 8 (Y0 9 bp)) cw bm bn bg (aA (bh:Int)) [.slice d2 ca.length d3]:=by rw [← (show dj.length=ca.length by rw [cv,nS])];exact ay
   refine Zl ?_;refine ⟨fun w'=>Zh (Y0 8 (Y0 9 bp)) cw (Y0 8 (Y0 9 bp)) w',Zh.refl _ _,fun h=>absurd h (by decide),?_⟩;have dp:=ay.close d4.has (by decide) (by decide);replace aa:=aa.kp a1;replace aa:=aa.recol 7 441 (by decide);replace al:=al.kp a1;replace al:=al.recol 7 441 (by decide);replace am:=am.kp a1;replace am:=am.recol 7 441 (by decide);replace af:=af.kp a1;replace af:=af.recol 7 441 (by decide);replace ag:=ag.kp a1;replace ag:=ag.recol 7 441 (by decide);replace ah:=ah.kp a1;replace ah:=ah.recol 7 441 (by decide);replace ac:=ac.kp a1;replace ac:=ac.recol 7 441 (by decide);replace ad:=ad.kp a1;replace ad:=ad.recol 7 441 (by decide);replace ae:=ae.kp a1;replace ae:=ae.recol 7 441 (by decide);replace hb4:=hb4.recol 7 441 (by decide);replace aq:=aq.kp a1;replace aq:=aq.recol 7 441 (by decide);replace hb2:=hb2.kp a1;replace hb2:=hb2.recol 7 441 (by decide);replace hb3:=hb3.kp a1;replace hb3:=hb3.recol 7 441 (by decide);replace hb1:=hb1.kp a1;replace hb1:=hb1.recol 7 441 (by decide);replace ab:=ab.kp a1 e4;replace ab:=ab.recol 7 441 (by decide) (by decide);replace hb4:Zf 25 440 (Xy 7 441 (Y0 8 (Y0 9 bp))) cw g4 #[(.slice bm ((bg.set (aA (bh:Int)) ca).length) bn)]:=by rw [← (show bg.length=(bg.set (aA (bh:Int)) ca).length by simp only [nS])];exact hb4
   refine Wi ?_;intro f5 hC;replace hC:=hC.bl (Xy 7 441 (Y0 8 (Y0 9 bp)));refine go ?_;replace dp:=dp.gr hC;replace aa:=aa.gr hC;replace al:=al.gr hC;replace am:=am.gr hC;replace af:=af.gr hC;replace ag:=ag.gr hC;replace ah:=ah.gr hC;replace ac:=ac.gr hC;replace ad:=ad.gr hC;replace ae:=ae.gr hC;replace hb4:=hb4.gr hC;replace aq:=aq.gr hC;replace hb2:=hb2.gr hC;replace hb3:=hb3.gr hC;replace hb1:=hb1.gr hC;replace ab:=ab.grow hC;exact ⟨eh.length,by simp,rfl,⟨_,_,_,_,_,_,rfl,ei,hm,ab,dp,hb4,aa,al,am,aq,af,ag,ah,ac,hb2,ad,ae,hb3,hb1,(Yg (congrArg (Value.int .i64) (Yb (aF ej aa.len))) rfl)⟩⟩
 | cons f6 e5=>
  obtain ⟨bq,e6,e7⟩:=Yd hl;have hk:(b6:Int)<(bc.length:Int):=by omega
  have hkb:=decide_eq_true hk;rw [Zdh.eq_2] at hm;refine go ?_;refine X3 (congrArg Value.bool hkb)<|go ?_;refine lI bq (aa.addr bq)<|lW (aa.atInt bq) ?_;refine go ?_;refine W7 (col:=ai) [(0,0),(1,1),(2,0),(3,1),(4,1),(5,0),(6,1),(7,1),(8,0),(9,3),(10,2)] (by kernel_rfl) (by kernel_rfl)<|xv rfl rfl (fun _ hC=>Xd isAgg39 sizeOf39 (ba.gr (hC.bl ai))) ?_;refine xF ⟨_,_,rfl⟩ ?_;refine xW (fun _ hC=>((hb2.atN).nth (q:=4) rfl).gr (hC.bl ai)) ?_;refine xu rfl rfl (fun _=>Y4 rfl) ?_;obtain ⟨f7,cx,hm⟩:=bZ hm;refine xu rfl rfl (fun _=>Y3 underlying25 sizeOf114 rfl rfl (Xe cx).1 (Xe cx).2.1 (ac.addr cx)) ?_;obtain ⟨_,e8,e9⟩:=ac.atN cx;obtain ⟨f8,f9,rfl,d5⟩:=e8.row;refine xW (fun _ hC=>e9.one.gr (hC.bl ai)) ?_;refine xu rfl rfl (fun _=>Y4 rfl) ?_;obtain ⟨dq,cy,hm⟩:=bZ hm;refine xu rfl rfl (fun _=>Y3 underlying114 sizeOf39 rfl rfl (Xe cy).1 (Xe cy).2.1 (d5.addr cy)) ?_;obtain ⟨_,fa,fb⟩:=d5.atN cy;obtain ⟨_,_,rfl,fc,fd⟩:=fa.parts;obtain ⟨_,_,rfl,fe,ff⟩:=fc.parts;obtain rfl:=fe.bool;obtain ⟨fg,fh,rfl,dr⟩:=ff.row;obtain ⟨fi,fj,rfl,ds⟩:=fd.row;refine xv (v:=(.agg #[.bool dq.1.1,.slice fg dq.1.2.length fh,.slice fi dq.2.length fj])) rfl rfl (fun _ hC=>W4 isAgg39 sizeOf39 rfl rfl (fb.gr (hC.bl ai))) ?_;refine xe rfl rfl ?_;intro fk hC0;have hC:=hC0.bl ai;obtain ⟨ga,fl,hm⟩:=bZ hm;replace cp:=cp.gr hC;replace cq:=cq.gr hC;replace dr:=dr.gr hC;replace ds:=ds.gr hC;refine Zj (Zl7 10 11 fl (((cp.toSlF (Zd.int .u32)).froz 3).froz 999) (((cq.froz 2 (by decide)).toSlF (Zd.int .u32)).froz 999) (((dr.froz 2 (by decide)).froz 3 (by decide)).toSlF (Zd.int .u32)) (((ds.froz 2 (by decide)).froz 3 (by decide)).toSlF (Zd.int .u32))) ?_;rintro _ gb ⟨fm,gc,gd,ge,gf,rfl,au,be,bf⟩;refine ⟨_,rfl,?_⟩;replace be:=be.thaw (Z7 .u32) au ((((Fz.refl (col:=ai)).froz 2).froz 3).froz 999) (by decide);replace bf:=bf.thaw (Z7 .u32) au ((((Fz.refl (col:=ai)).froz 2).froz 3).froz 999) (by decide);replace au:=au.thawR (col:=ai);generalize Xj fk.heap.size ai fm=cz at *;refine Zl<|Xz cz hC0 au<|xe rfl rfl ?_;intro gg hC0;replace aa:=(aa.gr hC).gr au;replace af:=(af.gr hC).gr au;replace ag:=(ag.gr hC).gr au;replace ah:=(ah.gr hC).gr au
  replace ac:=(ac.gr hC).gr au;replace ad:=(ad.gr hC).gr au;replace ae:=(ae.gr hC).gr au;replace ap:=(ap.gr hC).gr au;replace hb2:=(hb2.gr hC).gr au;replace hb3:=(hb3.gr hC).gr au;replace hb4:=(hb4.gr hC).gr au;replace ba:=(ba.gr hC).gr au;replace hb1:=(hb1.gr hC).gr au;replace ab:=(ab.grow hC).grow au;have hC:=hC0.bl cz;replace ba:=ba.gr hC;refine Z5 ba ?_;intro gh a7 fn br;refine Zl<|xk cz<|Wi ?_;replace aa:=(aa.gr hC).kp a7;replace af:=(af.gr hC).kp a7;replace ag:=(ag.gr hC).kp a7;replace ah:=(ah.gr hC).kp a7;replace ac:=(ac.gr hC).kp a7;replace ad:=(ad.gr hC).kp a7;replace ae:=(ae.gr hC).kp a7;replace ap:=(ap.gr hC).kp a7;replace be:=(be.gr hC).kp a7;replace bf:=(bf.gr hC).kp a7;replace hb2:=(hb2.gr hC).kp a7;replace hb3:=(hb3.gr hC).kp a7;replace hb4:=(hb4.gr hC).kp a7;replace hb1:=(hb1.gr hC).kp a7;replace ab:=(ab.grow hC).kp a7 fn;intro gi hC;replace hC:=hC.bl cz;refine go ?_;replace aa:=aa.gr hC;replace aa:=aa.recol 10 2 (by decide);replace af:=af.gr hC;replace af:=af.recol 10 2 (by decide);replace ag:=ag.gr hC;replace ag:=ag.recol 10 2 (by decide);replace ah:=ah.gr hC;replace ah:=ah.recol 10 2 (by decide);replace ac:=ac.gr hC;replace ac:=ac.recol 10 2 (by decide);replace ad:=ad.gr hC;replace ad:=ad.recol 10 2 (by decide);replace ae:=ae.gr hC;replace ae:=ae.recol 10 2 (by decide);replace ap:=ap.gr hC;replace ap:=ap.recol 10 2 (by decide);replace be:=be.gr hC;replace be:=be.recolSelf 2 (by decide);replace bf:=bf.gr hC;replace bf:=bf.recol 10 2 (by decide);replace hb2:=hb2.gr hC;replace hb2:=hb2.recol 10 2 (by decide);replace hb3:=hb3.gr hC;replace hb3:=hb3.recol 10 2 (by decide);replace hb4:=hb4.gr hC;replace hb4:=hb4.recol 10 2 (by decide);replace br:=br.gr hC;replace br:=br.recol 10 2 (by decide);replace hb1:=hb1.gr hC;replace hb1:=hb1.recol 10 2 (by decide);replace ab:=ab.grow hC;replace ab:=ab.recol 10 2 (by decide) (by decide);replace aa:=aa.recol 11 3 (by decide);replace af:=af.recol 11 3 (by decide);replace ag:=ag.recol 11 3 (by decide);replace ah:=ah.recol 11 3 (by decide);replace ac:=ac.recol 11 3 (by decide);replace ad:=ad.recol 11 3 (by decide);replace ae:=ae.recol 11 3 (by decide);replace ap:=ap.recol 11 3 (by decide);replace be:=be.recol 11 3 (by decide);replace bf:=bf.recolSelf 3 (by decide);replace hb2:=hb2.recol 11 3 (by decide);replace hb3:=hb3.recol 11 3 (by decide);replace hb4:=hb4.recol 11 3 (by decide);replace br:=br.recol 11 3 (by decide);replace hb1:=hb1.recol 11 3 (by decide)
  replace ab:=ab.recol 11 3 (by decide) (by decide);exact ⟨e5.length,by simp,rfl,⟨_,_,_,_,_,_,_,_,_,_,rfl,e6,hm,ab,aa,af,ag,ah,ac,hb2,ad,ae,hb3,ap,hb4,be,bf,br,hb1,(Yg (congrArg (Value.int .i64) (Yb (aF e7 aa.len))) rfl)⟩⟩
theorem Z6d:Wv prog 3 1 8:=⟨Tryz.t3,_,rfl,rfl,rfl,rfl,rfl⟩
def Zdl (N:Nat) (ab:ByteArray) (ac:List ByteArray) (ad:List R3) (ae:List R2) (af:List R4) (ag:ByteArray) (ah:List ByteArray) (ai:List R3) (aj:List R2) (ak:List R4) (al:Bool) (am:List Int) (an:List Int) (ap:List R4) (kk_L2:(List Int→ByteArray→R3→Rf→R6→R9→ByteArray→R3→Rf→R6→R9→Bool→R2→R2→R9→Option R9)) (aq:Int×List Int):List Int→Nat→R2→Option R9
  | [],ao,aa=>(Zg9 N aa (ab,ac,ad,ae,af) (ag,ah,ai,aj,ak) ((al,am),an) ap).bind fun au=>kk_L2 aa ab ac ad ae af ag ah ai aj ak al am an au
  | ar :: av,ao,aa=>(Zm aq.2 (ao:Int)).bind fun aw=>(Zm aa ar).bind fun ay=>(some (aa.set (aA ar) aw)).bind fun ax=>(Zdl N ab ac ad ae af ag ah ai aj ak al am an ap kk_L2 aq av) (ao+1) ax
termination_by structural x=>x
def Za8 (N:Nat) (ab:List Int):List R7→R2→ByteArray→R3→Rf→R6→R9→ByteArray→R3→Rf→R6→R9→Bool→R2→R2→R9→Option R9
  | [],ac,ad,ae,af,ag,ah,ai,aj,ak,al,am,an,ao,ap,aa=>some aa
  | aq :: ar,ac,ad,ae,af,ag,ah,ai,aj,ak,al,am,an,ao,ap,aa=>Zdl N ad ae af ag ah ai aj ak al am an ao ap aa (Za8 N ab ar) aq ab 0 ac
termination_by structural x=>x
def Zhb (aa:Nat) (kk_L1:(Nat→R2→R2→Option R9)) (ab:List Int) (ac:List Int):Option R9:=
  kk_L1 (aa+1) ab ac
def Q7 (N:Nat) (ag:R0) (ah:List Int) (aa:R0) (ab:R0) (af:R1) (ai:R9):List Int→Nat→R2→R2→Option R9
  | [],ac,ad,ae=>(Qq ah).bind fun al=>(Zky N ae).bind fun am=>Za8 N ad am al aa.1 aa.2.1 aa.2.2.1 aa.2.2.2.1 aa.2.2.2.2 ab.1 ab.2.1 ab.2.2.1 ab.2.2.2.1 ab.2.2.2.2 af.1.1 af.1.2 af.2 ai
  | an :: ak,ac,ad,ae=>if (decide (an<0))=true then (Z2 ((ad.length+[(ac:Int)].length) * 8≤140737488355328∧ad.length+[(ac:Int)].length≤maxLen) ((Zm ag.2.2.1 (ac:Int)).bind fun aj=>Z2 ((ae.length+[(aj.length:Int)].length) * 8≤140737488355328∧ae.length+[(aj.length:Int)].length≤maxLen) (Zhb ac (Q7 N ag ah aa ab af ai ak) (ad++[(ac:Int)]) (ae++[(aj.length:Int)])))) else (Zhb ac (Q7 N ag ah aa ab af ai ak) ad ae)
termination_by structural x=>x
def Zha (N:Nat) (ab:R0) (aa:List Int) (ac:R0) (ad:R0) (ae:R1) (af:R9):Option R9:=
  Q7 N ab aa ac ad ae af aa 0 ([]:List Int) ([]:List Int)
theorem Z3v {N dx dy dz d0 dp g3 d1 d2 d3 d4 g4 c4 c5 c6 c7 g5 c8 c9 g6 da:Nat} {d5 d6 d7 d8 a1 d9 ea eb ec db dc dd de df dg dh:Option Addr} {col:Ze} {w0:World} {ag:R0} {b8:R2} {ah ab:R0} {aq:R1} {b9 r:R9} (qc3 qc4 er es et eu qc5 ew ey qc6 ae:Nat) (hm:Zha N ag b8 ah ab aq b9=some r) (hd:U1 [qc6,ae]=true) (hqqc3:qc3≠0∧pS [qc6,ae] qc3=false) (hqqc4:qc4≠0∧pS [qc6,ae] qc4=false) (fk:er≠0∧pS [qc6,ae] er=false) (fl:es≠0∧pS [qc6,ae] es=false) (fm:et≠0∧pS [qc6,ae] et=false) (fn:eu≠0∧pS [qc6,ae] eu=false) (hqqc5:qc5≠0∧pS [qc6,ae] qc5=false) (fp:ew≠0∧pS [qc6,ae] ew=false) (fq:ey≠0∧pS [qc6,ae] ey=false) (ht:Sl Za.str col w0 d5 dx ag.2.1) (ej:Sl (Za.slice Za.str) col w0 d6 dy ag.2.2.1) (hv:Sl (Za.slice (Za.int .i64)) col w0 d7 dz ag.2.2.2.1) (hw:Sl (Za.slice (Za.pair (Za.pair Za.bool (Za.slice (Za.int .u32))) (Za.slice (Za.int .u32)))) col w0 d8 d0 ag.2.2.2.2) (h1:Sl (Za.int .i64) col w0 a1 dp b8) (ez:Sl Za.str col w0 d9 d1 ah.2.1) (e0:Sl (Za.slice Za.str) col w0 ea d2 ah.2.2.1) (e1:Sl (Za.slice (Za.int .i64)) col w0 eb d3 ah.2.2.2.1) (e2:Sl (Za.slice (Za.pair (Za.pair Za.bool (Za.slice (Za.int .u32))) (Za.slice (Za.int .u32)))) col w0 ec d4 ah.2.2.2.2) (hb3:Zf 27 qc3 col w0 g3 #[.string ah.1,.slice d9 ah.2.1.length d1,.slice ea ah.2.2.1.length d2,.slice eb ah.2.2.2.1.length d3,.slice ec ah.2.2.2.2.length d4]) (bj:Zb Za.str 9 er col w0 db c4 ab.2.1) (bk:Zb (Za.row 9 Za.str) 22 es col w0 dc c5 ab.2.2.1) (bm:Zb (Za.row 3 (Za.int .i64)) 33 et col w0 dd c6 ab.2.2.2.1) (bn:Zb (Za.row 39 (Za.pair (Za.pair Za.bool (Za.row 95 (Za.int .u32))) (Za.row 95 (Za.int .u32)))) 114 eu col w0 de c7 ab.2.2.2.2) (hb4:Zf 27 qc4 col w0 g4 #[.string ab.1,.slice db ab.2.1.length c4,.slice dc ab.2.2.1.length c5,.slice dd ab.2.2.2.1.length c6,.slice de ab.2.2.2.2.length c7]) (bo:Zb (Za.int .u32) 95 ew col w0 df c8 aq.1.2) (bp:Zb (Za.int .u32) 95 ey col w0 dg c9 aq.2) (hb5:Zf 39 qc5 col w0 g5 #[.bool aq.1.1,.slice df aq.1.2.length c8,.slice dg aq.2.length c9]) (bq:Zb (Za.row 39 (Za.pair (Za.pair Za.bool (Za.slice (Za.int .u32))) (Za.slice (Za.int .u32)))) 114 ae col w0 dh da b9) (hb6:Zf 25 qc6 col w0 g6 #[.slice dh b9.length da]):
    Calls prog 109 #[(.agg #[.string ag.1,.slice d5 ag.2.1.length dx,.slice d6 ag.2.2.1.length dy,.slice d7 ag.2.2.2.1.length dz,.slice d8 ag.2.2.2.2.length d0]),.slice a1 b8.length dp,(.func (.func 110) #[] #[.pointer (some ⟨g3,0,none⟩),.pointer (some ⟨g4,0,none⟩),.pointer (some ⟨g5,0,none⟩),.pointer (some ⟨g6,0,none⟩)])] w0 (fun e w'=>∃ (col':Ze) (oa1:Option Addr) (oc2:Nat),e= .returned (.tuple #[])∧Zu (pS [qc6,ae]) col w0 col' w'∧Zb (Za.row 39 (Za.pair (Za.pair Za.bool (Za.slice (Za.int .u32))) (Za.slice (Za.int .u32)))) 114 ae col' w' oa1 oc2 r∧Zf 25 qc6 col' w' g6 #[.slice oa1 r.length oc2]):=by
 refine Z5e (mc:=499) (m:=62) (args:=[(.agg #[.string ag.1,.slice d5 ag.2.1.length dx,.slice d6 ag.2.2.1.length dy,.slice d7 ag.2.2.2.1.length dz,.slice d8 ag.2.2.2.2.length d0]),.slice a1 b8.length dp,(.func (.func 110) #[] #[.pointer (some ⟨g3,0,none⟩),.pointer (some ⟨g4,0,none⟩),.pointer (some ⟨g5,0,none⟩),.pointer (some ⟨g6,0,none⟩)])]) func109 rfl rfl rfl rfl ?_;rw [Zha.eq_1] at hm;have aa:=St.startL (l:=[qc6,ae]) rfl col w0;replace hb3:=hb3.startB hqqc3.1 hqqc3.2;replace hb4:=hb4.startB hqqc4.1 hqqc4.2;replace bj:=bj.startB fk.1 fk.2;replace bk:=bk.startB fl.1 fl.2;replace bm:=bm.startB fm.1 fm.2;replace bn:=bn.startB fn.1 fn.2;replace hb5:=hb5.startB hqqc5.1 hqqc5.2;replace bo:=bo.startB fp.1 fp.2;replace bp:=bp.startB fq.1 fq.2;replace ej:=ej.keep (Zi.startL [qc6,ae] col w0);replace h1:=h1.keep (Zi.startL [qc6,ae] col w0);replace ez:=ez.keep (Zi.startL [qc6,ae] col w0);replace e0:=e0.keep (Zi.startL [qc6,ae] col w0);replace e1:=e1.keep (Zi.startL [qc6,ae] col w0);replace e2:=e2.keep (Zi.startL [qc6,ae] col w0);replace hb6:=hb6.startL (T9 hd 0 rfl) (T8 hd 0 rfl);replace bq:=bq.startL (T9 hd 1 rfl) (T8 hd 1 rfl);have hmk:Yy 499 (Xh [qc6,ae] col) w0 []:=.nil;refine go ?_;refine Xs (col:=(Xh [qc6,ae] col)) 1 rfl ?_;intro fr hx f5 bt bu;refine Zc0 (col:=f5) (v:=(.func (.func 110) #[] #[.pointer (some ⟨g3,0,none⟩),.pointer (some ⟨g4,0,none⟩),.pointer (some ⟨g5,0,none⟩),.pointer (some ⟨g6,0,none⟩)])) 2 rfl rfl ?_;intro ed f6 ft bs ad;replace ad:Zf 137 2 ft f6 ed #[(.func (.func 110) #[] #[.pointer (some ⟨g3,0,none⟩),.pointer (some ⟨g4,0,none⟩),.pointer (some ⟨g5,0,none⟩),.pointer (some ⟨g6,0,none⟩)])]:=ad;refine go ?_;refine Zav (col:=ft) (v:=(.slice none (([]:List Int).length) 0)) 3 rfl zeroValue33 ?_;intro dq f7 f8 br af;replace af:Zf 33 3 f8 f7 dq #[.slice none (([]:List Int).length) 0]:=af;refine go ?_;replace bj:=((bj.gr bt).gr bs).gr br;replace bk:=((bk.gr bt).gr bs).gr br;replace bm:=((bm.gr bt).gr bs).gr br;replace bn:=((bn.gr bt).gr bs).gr br;replace bo:=((bo.gr bt).gr bs).gr br;replace bp:=((bp.gr bt).gr bs).gr br;replace bq:=((bq.gr bt).gr bs).gr br;replace hb3:=((hb3.gr bt).gr bs).gr br;replace hb4:=((hb4.gr bt).gr bs).gr br;replace hb5:=((hb5.gr bt).gr bs).gr br;replace hb6:=((hb6.gr bt).gr bs).gr br;replace hmk:=((hmk.gr bt).gr bs).gr br;replace aa:=((aa.grow bt).grow bs).grow br
 replace bu:=(bu.gr bs).gr br;replace ad:=ad.gr br;refine Z4 [1,15,16,3,5,6,1000000] (fun n f av=>∃ au ca di dj a7 e3 e4 ek ee,n=ee.length∧b8.drop ca=ee∧Q7 N ag b8 ah ab aq b9 ee ca a7 ek=some r∧St w0 (Xh [qc6,ae] col) au av∧Zf 27 1 au av fr #[.string ag.1,.slice d5 ag.2.1.length dx,.slice d6 ag.2.2.1.length dy,.slice d7 ag.2.2.2.1.length dz,.slice d8 ag.2.2.2.2.length d0]∧Zf 27 999 au av g3 #[.string ah.1,.slice d9 ah.2.1.length d1,.slice ea ah.2.2.1.length d2,.slice eb ah.2.2.2.1.length d3,.slice ec ah.2.2.2.2.length d4]∧Zb Za.str 9 999 au av db c4 ab.2.1∧Zb (Za.row 9 Za.str) 22 999 au av dc c5 ab.2.2.1∧Zb (Za.row 3 (Za.int .i64)) 33 999 au av dd c6 ab.2.2.2.1∧Zb (Za.row 39 (Za.pair (Za.pair Za.bool (Za.row 95 (Za.int .u32))) (Za.row 95 (Za.int .u32)))) 114 999 au av de c7 ab.2.2.2.2∧Zf 27 999 au av g4 #[.string ab.1,.slice db ab.2.1.length c4,.slice dc ab.2.2.1.length c5,.slice dd ab.2.2.2.1.length c6,.slice de ab.2.2.2.2.length c7]∧Zb (Za.int .u32) 95 999 au av df c8 aq.1.2∧Zb (Za.int .u32) 95 999 au av dg c9 aq.2∧Zf 39 999 au av g5 #[.bool aq.1.1,.slice df aq.1.2.length c8,.slice dg aq.2.length c9]∧Zb (Za.row 39 (Za.pair (Za.pair Za.bool (Za.slice (Za.int .u32))) (Za.slice (Za.int .u32)))) 114 441 au av dh da b9∧Zf 25 440 au av g6 #[.slice dh b9.length da]∧Zf 137 2 au av ed #[(.func (.func 110) #[] #[.pointer (some ⟨g3,0,none⟩),.pointer (some ⟨g4,0,none⟩),.pointer (some ⟨g5,0,none⟩),.pointer (some ⟨g6,0,none⟩)])]∧Zb (Za.int .i64) 3 4 au av di dj a7∧Zf 33 3 au av dq #[.slice di a7.length dj]∧Zb (Za.int .i64) 3 5 au av e3 e4 ek∧Yy 499 au av []∧[17,7].map f=[.int .i64 ca,.slice e3 ek.length e4]) b8.length ⟨_,0,none,0,_,none,0,_,_,rfl,rfl,hm,aa,bu,hb3,bj,bk,bm,bn,hb4,bo,bp,hb5,bq,hb6,ad,Zb.nil,af,Zb.nil,hmk,rfl⟩ ?_;clear hm;intro n f av hI;obtain ⟨au,ca,di,dj,a7,e3,e4,ek,ee,hn,hl,hm,aa,bu,hb3,bj,bk,bm,bn,hb4,bo,bp,hb5,bq,hb6,ad,aj,af,dl,hmk,hs⟩:=hI;subst hn;refine .lL [17,7] hs ?_
 cases ee with
 | nil=>
  have hk:¬ ((ca:Int)<(b8.length:Int)):=by have:=aH.1 hl;omega
  have hkb:=decide_eq_false hk;rw [Q7.eq_1] at hm;refine go ?_;refine X2 (congrArg Value.bool hkb)<|go ?_;obtain ⟨e5,f9,hm⟩:=bZ hm;refine Zj (Zjd 6 f9 (h1.ks aa)) ?_;rintro _ hy ⟨ga,e6,e7,rfl,a3,e8⟩;refine ⟨_,rfl,?_⟩;refine Zav (col:=ga) (v:=(.slice none (([]:List Int).length) 0)) 7 rfl zeroValue33 ?_;intro ef gb eg ay e9;replace e9:Zf 33 7 eg gb ef #[.slice none (([]:List Int).length) 0]:=e9;refine Sr (v:=(.slice e6 e5.length e7)) e9 sizeOf33 rfl rfl (by intro u hu;simp only [Value.cells,aP,bL,or_false] at hu;subst hu;rfl) rfl rfl ?_;intro fu az gc am;replace am:Zf 33 7 eg fu ef #[.slice e6 e5.length e7]:=am;refine go ?_;obtain ⟨gd,ge,hm⟩:=bZ hm;replace dl:=((dl.gr a3).gr ay).kp az;refine Zj (Z4t 8 ge (dl.toSlF (Zd.int .i64))) ?_;rintro _ hz ⟨gf,h0,rfl,ar,fa⟩;refine ⟨_,rfl,?_⟩;replace fa:=fa.thaw ar ((Fz.refl (col:=eg)).froz 5);replace ar:=ar.thawR (col:=eg);generalize Xj fu.heap.size eg gf=gg at *;refine go ?_;replace bj:=(((bj.gr a3).gr ay).kp az).gr ar;replace bk:=(((bk.gr a3).gr ay).kp az).gr ar;replace bm:=(((bm.gr a3).gr ay).kp az).gr ar;replace bn:=(((bn.gr a3).gr ay).kp az).gr ar;replace bo:=(((bo.gr a3).gr ay).kp az).gr ar;replace bp:=(((bp.gr a3).gr ay).kp az).gr ar;replace bq:=(((bq.gr a3).gr ay).kp az).gr ar;replace aj:=(((aj.gr a3).gr ay).kp az).gr ar;replace ad:=(((ad.gr a3).gr ay).kp az).gr ar;replace hb3:=(((hb3.gr a3).gr ay).kp az).gr ar;replace hb4:=(((hb4.gr a3).gr ay).kp az).gr ar;replace hb5:=(((hb5.gr a3).gr ay).kp az).gr ar;replace hb6:=(((hb6.gr a3).gr ay).kp az).gr ar;replace af:=(((af.gr a3).gr ay).kp az).gr ar;replace hmk:=(((hmk.gr a3).gr ay).kp az).gr ar;replace aa:=(((aa.grow a3).grow ay).kp az gc).grow ar;replace e8:=((e8.gr ay).kp az).gr ar;replace am:=am.gr ar
  refine Zo3 (psl:=[42,43]) (arr:=(fun (y:Int×List Int) (col:Ze) (w:World) (args:List Value)=>∃ (a1:Option Addr) (dp:Nat),args=[.int .i64 y.1,.slice a1 y.2.length dp]∧Zb (Za.int .i64) 3 8 col w a1 dp y.2)) (ys:=gd) (col:=gg) 498 rfl fa rfl hmk rfl rfl (by rintro _ _ _ _ ⟨_,_,rfl,_⟩;rfl) (fun ys_ ai ak=>∃ (dr:Option Addr) (ds:Nat) (dm:List Int) (cb:ByteArray) (cc:Option Addr) (cd:Nat) (bv:List ByteArray) (ce:Option Addr) (cf:Nat) (bw:List R3) (cg:Option Addr) (ch:Nat) (bx:List R2) (ci:Option Addr) (cj:Nat) (bz:List R4) (ck:ByteArray) (cl:Option Addr) (cn:Nat) (b0:List ByteArray) (co:Option Addr) (cp:Nat) (b1:List R3) (cq:Option Addr) (cr:Nat) (b2:List R2) (cs:Option Addr) (ct:Nat) (b3:List R4) (cu:Bool) (cv:Option Addr) (cw:Nat) (b4:List Int) (cx:Option Addr) (cy:Nat) (b5:List Int) (cz:Option Addr) (c0:Nat) (b6:List R4),Za8 N a7 ys_ dm cb bv bw bx bz ck b0 b1 b2 b3 cu b4 b5 b6=some r∧St w0 (Xh [qc6,ae] col) ai ak∧Zb (Za.int .i64) 3 6 ai ak dr ds dm∧Zf 33 7 ai ak ef #[.slice dr dm.length ds]∧Sl Za.str ai ak cc cd bv∧Sl (Za.slice Za.str) ai ak ce cf bw∧Sl (Za.slice (Za.int .i64)) ai ak cg ch bx∧Sl (Za.slice (Za.pair (Za.pair Za.bool (Za.slice (Za.int .u32))) (Za.slice (Za.int .u32)))) ai ak ci cj bz∧Zf 27 999 ai ak g3 #[.string cb,.slice cc bv.length cd,.slice ce bw.length cf,.slice cg bx.length ch,.slice ci bz.length cj]∧Zb Za.str 9 999 ai ak cl cn b0∧Zb (Za.row 9 Za.str) 22 999 ai ak co cp b1∧Zb (Za.row 3 (Za.int .i64)) 33 999 ai ak cq cr b2∧Zb (Za.row 39 (Za.pair (Za.pair Za.bool (Za.row 95 (Za.int .u32))) (Za.row 95 (Za.int .u32)))) 114 999 ai ak cs ct b3∧Zf 27 999 ai ak g4 #[.string ck,.slice cl b0.length cn,.slice co b1.length cp,.slice cq b2.length cr,.slice cs b3.length ct]∧Zb (Za.int .u32) 95 999 ai ak cv cw b4∧Zb (Za.int .u32) 95 999 ai ak cx cy b5∧Zf 39 999 ai ak g5 #[.bool cu,.slice cv b4.length cw,.slice cx b5.length cy]∧Zb (Za.row 39 (Za.pair (Za.pair Za.bool (Za.slice (Za.int .u32))) (Za.slice (Za.int .u32)))) 114 441 ai ak cz c0 b6∧Zf 25 440 ai ak g6 #[.slice cz b6.length c0]∧Zf 137 2 ai ak ed #[(.func (.func 110) #[] #[.pointer (some ⟨g3,0,none⟩),.pointer (some ⟨g4,0,none⟩),.pointer (some ⟨g5,0,none⟩),.pointer (some ⟨g6,0,none⟩)])]∧Zb (Za.int .i64) 3 4 ai ak di dj a7∧Zf 33 3 ai ak dq #[.slice di a7.length dj]) (fun _ _ _=>False) ?_ ?_ ⟨e6,e7,e5,ah.1,d9,d1,ah.2.1,ea,d2,ah.2.2.1,eb,d3,ah.2.2.2.1,ec,d4,ah.2.2.2.2,ab.1,db,c4,ab.2.1,dc,c5,ab.2.2.1,dd,c6,ab.2.2.2.1,de,c7,ab.2.2.2.2,aq.1.1,df,c8,aq.1.2,dg,c9,aq.2,dh,da,b9,hm,aa,e8,am,(ez.ks aa),(e0.ks aa),(e1.ks aa),(e2.ks aa),hb3,bj,bk,bm,bn,hb4,bo,bp,hb5,bq,hb6,ad,aj,af⟩ ?_ ?_ ?_
  ·intro ys_ ai ak col2_ w2_ hJ hk;obtain ⟨dr,ds,dm,cb,cc,cd,bv,ce,cf,bw,cg,ch,bx,ci,cj,bz,ck,cl,cn,b0,co,cp,b1,cq,cr,b2,cs,ct,b3,cu,cv,cw,b4,cx,cy,b5,cz,c0,b6,hm,aa,dt,am,a8,a9,ba,bb,hb3,bc,bd,be,bf,hb4,bg,bh,hb5,bi,hb6,ad,aj,af⟩:=hJ;exact ⟨dr,ds,dm,cb,cc,cd,bv,ce,cf,bw,cg,ch,bx,ci,cj,bz,ck,cl,cn,b0,co,cp,b1,cq,cr,b2,cs,ct,b3,cu,cv,cw,b4,cx,cy,b5,cz,c0,b6,hm,aa.kpp hk rfl rfl,dt.kpp hk rfl rfl,am.kpp hk rfl,a8.kpp hk rfl,a9.kpp hk rfl,ba.kpp hk rfl,bb.kpp hk rfl,hb3.kpp hk rfl,bc.kpp hk rfl rfl,bd.kpp hk rfl rfl,be.kpp hk rfl rfl,bf.kpp hk rfl rfl,hb4.kpp hk rfl,bg.kpp hk rfl rfl,bh.kpp hk rfl rfl,hb5.kpp hk rfl,bi.kpp hk rfl rfl,hb6.kpp hk rfl,ad.kpp hk rfl,aj.kpp hk rfl rfl,af.kpp hk rfl⟩
  ·intro _ _ _ _ _ h _;exact h
  ·intro gh h2 gi fv gj ai ak args hJ hrec hmk harr;obtain ⟨dr,ds,dm,cb,cc,cd,bv,ce,cf,bw,cg,ch,bx,ci,cj,bz,ck,cl,cn,b0,co,cp,b1,cq,cr,b2,cs,ct,b3,cu,cv,cw,b4,cx,cy,b5,cz,c0,b6,hm,aa,dt,am,a8,a9,ba,bb,hb3,bc,bd,be,bf,hb4,bg,bh,hb5,bi,hb6,ad,aj,af⟩:=hJ;rw [Za8.eq_2] at hm;have hki:=Zu.refl (pC 1) ai ak;obtain ⟨gk,gl,rfl,b7⟩:=harr;refine go ?_;refine ⟨_,hrec,?_⟩;intro h3 gm an fw hrec2;have hrec:=hrec2;refine go ?_;replace af:=af.kp an;refine lW af.at1<|go ?_;replace dt:=dt.kp an;replace a8:=a8.kp an;replace a9:=a9.kp an;replace ba:=ba.kp an;replace bb:=bb.kp an;replace bc:=bc.kp an;replace bd:=bd.kp an;replace be:=be.kp an;replace bf:=bf.kp an;replace bg:=bg.kp an;replace bh:=bh.kp an;replace bi:=bi.kp an;replace aj:=aj.kp an;replace b7:=b7.kp an;replace am:=am.kp an;replace ad:=ad.kp an;replace hb3:=hb3.kp an;replace hb4:=hb4.kp an;replace hb5:=hb5.kp an;replace hb6:=hb6.kp an;replace hmk:=hmk.kp an;replace hki:=hki.kp an fw rfl;replace aa:=aa.kp an fw
   refine Z4 [10,12,44,45,5,6,1000000] (fun n f al=>∃ ac du dv c1 dw eh,n=eh.length∧a7.drop dw=eh∧Zdl N cb bv bw bx bz ck b0 b1 b2 b3 cu b4 b5 b6 (Za8 N a7 gj) fv eh dw c1=some r∧St w0 (Xh [qc6,ae] col) ac al∧Zb (Za.int .i64) 3 6 ac al du dv c1∧Zf 33 7 ac al ef #[.slice du c1.length dv]∧Zb (Za.int .i64) 3 8 ac al gk gl fv.2∧Zb (Za.int .i64) 3 4 ac al di dj a7∧Sl Za.str ac al cc cd bv∧Sl (Za.slice Za.str) ac al ce cf bw∧Sl (Za.slice (Za.int .i64)) ac al cg ch bx∧Sl (Za.slice (Za.pair (Za.pair Za.bool (Za.slice (Za.int .u32))) (Za.slice (Za.int .u32)))) ac al ci cj bz∧Zf 27 999 ac al g3 #[.string cb,.slice cc bv.length cd,.slice ce bw.length cf,.slice cg bx.length ch,.slice ci bz.length cj]∧Zb Za.str 9 999 ac al cl cn b0∧Zb (Za.row 9 Za.str) 22 999 ac al co cp b1∧Zb (Za.row 3 (Za.int .i64)) 33 999 ac al cq cr b2∧Zb (Za.row 39 (Za.pair (Za.pair Za.bool (Za.row 95 (Za.int .u32))) (Za.row 95 (Za.int .u32)))) 114 999 ac al cs ct b3∧Zf 27 999 ac al g4 #[.string ck,.slice cl b0.length cn,.slice co b1.length cp,.slice cq b2.length cr,.slice cs b3.length ct]∧Zb (Za.int .u32) 95 999 ac al cv cw b4∧Zb (Za.int .u32) 95 999 ac al cx cy b5∧Zf 39 999 ac al g5 #[.bool cu,.slice cv b4.length cw,.slice cx b5.length cy]∧Zb (Za.row 39 (Za.pair (Za.pair Za.bool (Za.slice (Za.int .u32))) (Za.slice (Za.int .u32)))) 114 441 ac al cz c0 b6∧Zf 25 440 ac al g6 #[.slice cz b6.length c0]∧Zf 137 2 ac al ed #[(.func (.func 110) #[] #[.pointer (some ⟨g3,0,none⟩),.pointer (some ⟨g4,0,none⟩),.pointer (some ⟨g5,0,none⟩),.pointer (some ⟨g6,0,none⟩)])]∧Zf 33 3 ac al dq #[.slice di a7.length dj]∧W9 498 ac al gh gm∧Yy 499 ac al gi∧Zu (pC 1) ai ak ac al∧[46].map f=[.int .i64 dw]) a7.length ⟨_,_,_,_,0,_,rfl,rfl,hm,aa,dt,am,b7,aj,a8,a9,ba,bb,hb3,bc,bd,be,bf,hb4,bg,bh,hb5,bi,hb6,ad,af,hrec,hmk,hki,rfl⟩ ?_;clear hm;intro n f al hI
   obtain ⟨ac,du,dv,c1,dw,eh,hn,hl,hm,aa,c3,am,b7,aj,a8,a9,ba,bb,hb3,bc,bd,be,bf,hb4,bg,bh,hb5,bi,hb6,ad,af,hrec,hmk,hki,hs⟩:=hI;subst hn;refine .lL [46] hs ?_
   cases eh with
   | nil=>
    have hk:¬ ((dw:Int)<(a7.length:Int)):=by have:=aH.1 hl;omega
    have hkb:=decide_eq_false hk;rw [Zdl.eq_1] at hm;refine go ?_;refine X2 (congrArg Value.bool hkb)<|go ?_;refine lW ad.at1<|lW am.at1 ?_;obtain ⟨fx,gp,hm⟩:=bZ hm;refine lc rfl rfl (Zzg call110 rfl rfl) (Z3u N ac _ 6 999 999 999 999 999 999 999 999 999 440 441 rfl ⟨by decide,rfl⟩ ⟨by decide,rfl⟩ ⟨by decide,rfl⟩ ⟨by decide,rfl⟩ ⟨by decide,rfl⟩ ⟨by decide,rfl⟩ ⟨by decide,rfl⟩ ⟨by decide,rfl⟩ ⟨by decide,rfl⟩ ⟨by decide,rfl⟩ du dv c1 g3 (cb,bv,bw,bx,bz) cc cd ce cf cg ch ci cj g4 (ck,b0,b1,b2,b3) cl cn co cp cq cr cs ct g5 ((cu,b4),b5) cv cw cx cy g6 b6 cz c0 c3 a8 a9 ba bb hb3 bc bd be bf hb4 bg bh hb5 bi hb6 fx gp) ?_;rintro _ h4 ⟨h5,gs,gt,rfl,ap,gu,gv⟩;refine ⟨_,rfl,?_⟩;replace c3:=c3.kpp ap;replace a8:=a8.kpp ap;replace a9:=a9.kpp ap;replace ba:=ba.kpp ap;replace bb:=bb.kpp ap;replace bc:=bc.kpp ap;replace bd:=bd.kpp ap;replace be:=be.kpp ap;replace bf:=bf.kpp ap;replace bg:=bg.kpp ap;replace bh:=bh.kpp ap;replace aj:=aj.kpp ap;replace am:=am.kpp ap;replace ad:=ad.kpp ap;replace hb3:=hb3.kpp ap;replace hb4:=hb4.kpp ap;replace hb5:=hb5.kpp ap;replace af:=af.kpp ap;replace hrec:=hrec.kpp ap;replace hmk:=hmk.kpp ap;replace hki:=hki.trans (ap.mono (by first | exact pCo_p2 rfl | exact pCo_p1 rfl | exact Z8k rfl | exact fun _=>Z8j | exact fun _ h=>h | exact fun _ _=>rfl));refine Zl ?_;replace aa:=aa.kpp ap;exact ⟨_,hki,⟨du,dv,c1,cb,cc,cd,bv,ce,cf,bw,cg,ch,bx,ci,cj,bz,ck,cl,cn,b0,co,cp,b1,cq,cr,b2,cs,ct,b3,cu,cv,cw,b4,cx,cy,b5,gs,gt,fx,hm,aa,c3,am,a8,a9,ba,bb,hb3,bc,bd,be,bf,hb4,bg,bh,hb5,gu,gv,ad,aj,af⟩,hrec,hmk⟩
   | cons gw gx=>
    obtain ⟨dn,gy,gz⟩:=Yd hl;have hk:(dw:Int)<(a7.length:Int):=by omega
    have hkb:=decide_eq_true hk;rw [Zdl.eq_2] at hm;refine go ?_;refine X3 (congrArg Value.bool hkb)<|go ?_;refine lI dn (aj.addr dn)<|lW (aj.atInt dn) ?_;refine go ?_;refine W7 (col:=ac) [(0,0),(1,1),(2,1),(3,1),(4,1),(5,0),(6,1),(7,2)] (by kernel_rfl) (by kernel_rfl)<|xW (fun _ hC=>am.at1.gr (hC.bl ac)) ?_;refine xu rfl rfl (fun _=>Y4 rfl) ?_;refine xu rfl rfl (fun _=>T0 rfl) ?_;refine xu rfl rfl (fun _=>Y4 rfl) ?_;obtain ⟨fy,el,hm⟩:=bZ hm;refine xu rfl rfl (fun _=>Y3 underlying33 sizeOf3 rfl rfl (Xe el).1 (Xe el).2.1 (b7.addr el)) ?_;refine xW (fun _ hC=>(b7.gr (hC.bl ac)).atInt el) ?_;obtain ⟨h6,em,hm⟩:=bZ hm;refine xu rfl rfl (fun _=>Y3 underlying33 sizeOf3 rfl rfl (Xe em).1 (Xe em).2.1 (c3.addr em)) ?_;refine xe rfl rfl ?_;intro h7 hC0;have hC:=hC0.bl ac;obtain ⟨fb,en,hm⟩:=bZ hm;have en:fb=c1.set (aA gw) fy:=(Option.some.inj en).symm;replace c3:=c3.gr hC;refine Wr (x1:=fy) c3 em ?_;intro g0 ao fz eo;rw [← en] at eo;replace am:=(am.gr hC).kp ao;replace am:Zf 33 7 ac g0 ef #[.slice du fb.length dv]:=by rw [← (show c1.length=fb.length by rw [en,nS])];exact am
    refine Zl<|xk ac<|Wi ?_;replace b7:=(b7.gr hC).kp ao;replace aj:=(aj.gr hC).kp ao;replace a8:=(a8.gr hC).kp ao;replace a9:=(a9.gr hC).kp ao;replace ba:=(ba.gr hC).kp ao;replace bb:=(bb.gr hC).kp ao;replace bc:=(bc.gr hC).kp ao;replace bd:=(bd.gr hC).kp ao;replace be:=(be.gr hC).kp ao;replace bf:=(bf.gr hC).kp ao;replace bg:=(bg.gr hC).kp ao;replace bh:=(bh.gr hC).kp ao;replace bi:=(bi.gr hC).kp ao;replace ad:=(ad.gr hC).kp ao;replace hb3:=(hb3.gr hC).kp ao;replace hb4:=(hb4.gr hC).kp ao;replace hb5:=(hb5.gr hC).kp ao;replace hb6:=(hb6.gr hC).kp ao;replace af:=(af.gr hC).kp ao;replace hrec:=(hrec.gr hC).kp ao;replace hmk:=(hmk.gr hC).kp ao;replace hki:=(hki.gr hC).kp ao fz rfl;replace aa:=(aa.grow hC).kp ao fz;intro h8 hC;replace hC:=hC.bl ac;refine go ?_;replace eo:=eo.gr hC;replace b7:=b7.gr hC;replace aj:=aj.gr hC;replace a8:=a8.gr hC;replace a9:=a9.gr hC;replace ba:=ba.gr hC;replace bb:=bb.gr hC;replace bc:=bc.gr hC;replace bd:=bd.gr hC;replace be:=be.gr hC;replace bf:=bf.gr hC;replace bg:=bg.gr hC;replace bh:=bh.gr hC;replace bi:=bi.gr hC;replace am:=am.gr hC;replace ad:=ad.gr hC;replace hb3:=hb3.gr hC;replace hb4:=hb4.gr hC;replace hb5:=hb5.gr hC;replace hb6:=hb6.gr hC;replace af:=af.gr hC;replace hrec:=hrec.gr hC;replace hmk:=hmk.gr hC;replace hki:=hki.gr hC;replace aa:=aa.grow hC;exact ⟨gx.length,by simp,rfl,⟨_,_,_,_,_,_,rfl,gy,hm,aa,eo,am,b7,aj,a8,a9,ba,bb,hb3,bc,bd,be,bf,hb4,bg,bh,hb5,bi,hb6,ad,af,hrec,hmk,hki,(Yg (congrArg (Value.int .i64) (Yb (aF gz aj.len))) rfl)⟩⟩
  ·intro g1 ai ak hJ hmk;obtain ⟨dr,ds,dm,cb,cc,cd,bv,ce,cf,bw,cg,ch,bx,ci,cj,bz,ck,cl,cn,b0,co,cp,b1,cq,cr,b2,cs,ct,b3,cu,cv,cw,b4,cx,cy,b5,cz,c0,b6,hm,aa,dt,am,a8,a9,ba,bb,hb3,bc,bd,be,bf,hb4,bg,bh,hb5,bi,hb6,ad,aj,af⟩:=hJ;rw [Za8.eq_1] at hm;cases hm;refine ⟨_,(g1 :: []),rfl,hmk,?_⟩;intro h9 fc g2;replace bi:=bi.kp fc;replace hb6:=hb6.kp fc;replace aa:=aa.kp fc g2;exact ⟨So w0.heap.size [qc6,ae] col ai (fun n=>bif aJ n 441 then ae else bif aJ n 440 then qc6 else 0),cz,c0,rfl,aa.finL rfl (fun n=>bif aJ n 441 then ae else bif aJ n 440 then qc6 else 0),aa.finOwnL (g:=(fun n=>bif aJ n 441 then ae else bif aJ n 440 then qc6 else 0)) rfl bi (by decide) (by decide) rfl,aa.finBoxL (g:=(fun n=>bif aJ n 441 then ae else bif aJ n 440 then qc6 else 0)) hb6 (by decide) (by decide) rfl⟩
  intro _ _ _ _ h;exact h.elim
 | cons ia f0=>
  obtain ⟨dn,g7,g8⟩:=Yd hl;have hk:(ca:Int)<(b8.length:Int):=by omega
  have hkb:=decide_eq_true hk;rw [Q7.eq_2] at hm;refine go ?_;refine X3 (congrArg Value.bool hkb)<|Yl<|Z0 ?_;refine Wp.cutK [1,15,16,17,3,5,6,1000000] (fun f aw=>∃ ax fd fe ep ff fg eq,Zhb ca (Q7 N ag b8 ah ab aq b9 f0) ep eq=some r∧St w0 (Xh [qc6,ae] col) ax aw∧Zf 27 1 ax aw fr #[.string ag.1,.slice d5 ag.2.1.length dx,.slice d6 ag.2.2.1.length dy,.slice d7 ag.2.2.2.1.length dz,.slice d8 ag.2.2.2.2.length d0]∧Zf 27 999 ax aw g3 #[.string ah.1,.slice d9 ah.2.1.length d1,.slice ea ah.2.2.1.length d2,.slice eb ah.2.2.2.1.length d3,.slice ec ah.2.2.2.2.length d4]∧Zb Za.str 9 999 ax aw db c4 ab.2.1∧Zb (Za.row 9 Za.str) 22 999 ax aw dc c5 ab.2.2.1∧Zb (Za.row 3 (Za.int .i64)) 33 999 ax aw dd c6 ab.2.2.2.1∧Zb (Za.row 39 (Za.pair (Za.pair Za.bool (Za.row 95 (Za.int .u32))) (Za.row 95 (Za.int .u32)))) 114 999 ax aw de c7 ab.2.2.2.2∧Zf 27 999 ax aw g4 #[.string ab.1,.slice db ab.2.1.length c4,.slice dc ab.2.2.1.length c5,.slice dd ab.2.2.2.1.length c6,.slice de ab.2.2.2.2.length c7]∧Zb (Za.int .u32) 95 999 ax aw df c8 aq.1.2∧Zb (Za.int .u32) 95 999 ax aw dg c9 aq.2∧Zf 39 999 ax aw g5 #[.bool aq.1.1,.slice df aq.1.2.length c8,.slice dg aq.2.length c9]∧Zb (Za.row 39 (Za.pair (Za.pair Za.bool (Za.slice (Za.int .u32))) (Za.slice (Za.int .u32)))) 114 441 ax aw dh da b9∧Zf 25 440 ax aw g6 #[.slice dh b9.length da]∧Zf 137 2 ax aw ed #[(.func (.func 110) #[] #[.pointer (some ⟨g3,0,none⟩),.pointer (some ⟨g4,0,none⟩),.pointer (some ⟨g5,0,none⟩),.pointer (some ⟨g6,0,none⟩)])]∧Zb (Za.int .i64) 3 4 ax aw fd fe ep∧Zf 33 3 ax aw dq #[.slice fd ep.length fe]∧Zb (Za.int .i64) 3 5 ax aw ff fg eq∧Yy 499 ax aw []∧[7].map f=[.slice ff eq.length fg]) ?_ ?_
  ·intro f aw hJ;obtain ⟨ax,fd,fe,ep,ff,fg,eq,hm,aa,bu,hb3,bj,bk,bm,bn,hb4,bo,bp,hb5,bq,hb6,ad,g9,af,ha,hmk,hs⟩:=hJ;rw [Zhb.eq_1] at hm;refine .lL [7] hs<|go ?_;exact ⟨f0.length,by simp,rfl,⟨_,_,_,_,_,_,_,_,_,rfl,g7,hm,aa,bu,hb3,bj,bk,bm,bn,hb4,bo,bp,hb5,bq,hb6,ad,g9,af,ha,hmk,(Yg (congrArg (Value.int .i64) (Yb (aF g8 (h1.ks aa).1.1))) rfl)⟩⟩
  refine go ?_;refine lI dn ((h1.ks aa).addr dn)<|lW ((h1.ks aa).atInt dn) ?_;refine go ?_;refine Zq hm (fun hb hm=>go ?_) fun hb hm=>?_
  ·refine lW af.at1<|X1 rfl<|V7 (col:=au) [(ca:Int)] 9 ?_;intro ib hc he a0 hf;obtain ⟨f1,hm⟩:=Z8 hm;replace aj:=aj.gr a0;refine Q2 (col:=he) (w:=hc) (r:=(Za.int .i64)) (c:=4) (c2:=4) (aj.ex) (hf.srcN (NB.int (k:=.i64))) rfl underlying33 Z6d rfl rfl rfl f1.1 f1.2 (by decide) ?_;intro f2 f3 ic f4 a4 fh;replace af:=(af.gr a0).kpp a4;refine Sr (v:=(.slice f2 ((a7++[(ca:Int)]).length) f3)) af sizeOf33 rfl rfl (by intro u hu;simp only [Value.cells,aP,bL,or_false] at hu;subst hu;rfl) rfl rfl ?_;intro hg a5 hh ei;replace ei:Zf 33 3 f4 hg dq #[.slice f2 ((a7++[(ca:Int)]).length) f3]:=ei;replace fh:=fh.kp a5;have fi:=fh.new;refine go ?_;refine Yk ⟨_,_,rfl⟩ ?_;replace bu:=((bu.gr a0).kpp a4).kp a5;refine lW ((bu.atN).nth (q:=2) rfl)<|X1 rfl ?_;obtain ⟨hi,fj,hm⟩:=bZ hm;replace aa:=((aa.grow a0).kpp a4).kp a5 hh;refine lI fj ((ej.ks aa).addr fj) ?_;obtain ⟨_,hj,ho⟩:=(ej.ks aa).atN fj;obtain ⟨⟨id,ie,rfl,ig⟩,_⟩:=hj;refine lW ho.one<|go ?_;refine V7 (col:=f4) [(hi.length:Int)] 10 ?_;intro ih ii ij a2 hp;obtain ⟨hq,hm⟩:=Z8 hm;replace dl:=(((dl.gr a0).kpp a4).kp a5).gr a2;refine V1 dl (hp.srcN (NB.int (k:=.i64))) hq ?_;intro ik il im io a6 hr;refine go ?_;replace bj:=((((bj.gr a0).kpp a4).kp a5).gr a2).kpp a6;replace bk:=((((bk.gr a0).kpp a4).kp a5).gr a2).kpp a6;replace bm:=((((bm.gr a0).kpp a4).kp a5).gr a2).kpp a6;replace bn:=((((bn.gr a0).kpp a4).kp a5).gr a2).kpp a6;replace bo:=((((bo.gr a0).kpp a4).kp a5).gr a2).kpp a6;replace bp:=((((bp.gr a0).kpp a4).kp a5).gr a2).kpp a6;replace bq:=((((bq.gr a0).kpp a4).kp a5).gr a2).kpp a6;replace ad:=((((ad.gr a0).kpp a4).kp a5).gr a2).kpp a6;replace hb3:=((((hb3.gr a0).kpp a4).kp a5).gr a2).kpp a6;replace hb4:=((((hb4.gr a0).kpp a4).kp a5).gr a2).kpp a6;replace hb5:=((((hb5.gr a0).kpp a4).kp a5).gr a2).kpp a6;replace hb6:=((((hb6.gr a0).kpp a4).kp a5).gr a2).kpp a6;replace hmk:=((((hmk.gr a0).kpp a4).kp a5).gr a2).kpp a6;replace fi:=(fi.gr a2).kpp a6;replace bu:=(bu.gr a2).kpp a6;replace ei:=(ei.gr a2).kpp a6;replace aa:=(aa.grow a2).kpp a6
   exact ⟨rfl,_,_,_,_,_,_,_,hm,aa,bu,hb3,bj,bk,bm,bn,hb4,bo,bp,hb5,bq,hb6,ad,fi,ei,hr,hmk,rfl⟩
  refine Yl ?_;exact ⟨rfl,_,_,_,_,_,_,_,hm,aa,bu,hb3,bj,bk,bm,bn,hb4,bo,bp,hb5,bq,hb6,ad,aj,af,dl,hmk,rfl⟩
def Ze2 (N:Nat) (ab:R0) (ad:List R4):Nat→Int→ByteArray→R3→Rf→R6→R9→Option (R0×Int)
  | 0,_,_,_,_,_,_=>none
  | ai+1,aa,ae,af,ag,ah,ac=>if (decide (aa<(ab.2.1.length:Int)))=true then ((Zm ac aa).bind fun aj=>(Zm ad aa).bind fun ak=>(Zm ab.2.2.1 aa).bind fun al=>(Ze3 N aj ak (al.length:Int)).bind fun am=>(Ze2 N ab ad ai) (i64.wrap (aa+1)) ae af ag ah (ac.set (aA aa) am)) else (some ((ae,af,ag,ah,ac),0))
termination_by structural x=>x
def Zbx (N:Nat) (aa:R0) (ab:R0):List R2→R9→Option (R0×Int)
  | [],ac=>Ze2 N aa ac N 0 ab.1 ab.2.1 ab.2.2.1 ab.2.2.2.1 ab.2.2.2.2
  | ae :: af,ac=>(Tv N (aa.1,aa.2.1,aa.2.2.1,aa.2.2.2.1,aa.2.2.2.2) [ae]).bind fun ad=>(Zha N (aa.1,aa.2.1,aa.2.2.1,aa.2.2.2.1,aa.2.2.2.2) ae (aa.1,aa.2.1,aa.2.2.1,aa.2.2.2.1,aa.2.2.2.2) (ab.1,ab.2.1,ab.2.2.1,ab.2.2.2.1,ab.2.2.2.2) ((ad.1.1.1,ad.1.1.2),ad.1.2) ac).bind fun ag=>(Zbx N aa ab af) ag
termination_by structural x=>x
def Zdi (N:Nat) (ab:R0) (ae:R6) (af:R0):Nat→R9→Int→Option (R0×Int)
  | 0,_,_=>none
  | ag+1,ac,aa=>if (decide (aa<(ab.2.1.length:Int)))=true then ((Zm ab.2.2.2.2 aa).bind fun ad=>Z2 (ad.length * 56≤281474976710656∧ad.length≤maxLen) ((Zm ac aa).bind fun ai=>(some (ac.set (aA aa) (aM ad.length (((false,([]:List Int)),([]:List Int)):R1)))).bind fun ah=>(Zdi N ab ae af ag) ah (i64.wrap (aa+1)))) else (Zbx N ab af ae ac)
termination_by structural x=>x
def Qh (N:Nat) (aa:R0) (ac:R6):Option (R0×Int):=
  (Q8 N (aa.1,aa.2.1,aa.2.2.1,aa.2.2.2.1,aa.2.2.2.2) ac).bind fun ad=>if (!decide (ad=0))=true then (some ((⟨#[]⟩,([]:List ByteArray),([]:List R3),([]:List R2),([]:List R4)),ad)) else ((Tv N (aa.1,aa.2.1,aa.2.2.1,aa.2.2.2.1,aa.2.2.2.2) ac).bind fun ab=>if (!decide (ab.2=0))=true then (some ((⟨#[]⟩,([]:List ByteArray),([]:List R3),([]:List R2),([]:List R4)),ab.2)) else ((Ta N ((ab.1.1.1,ab.1.1.2),ab.1.2)).bind fun ae=>if (decide (ae=0))=true then (some ((⟨#[]⟩,([]:List ByteArray),([]:List R3),([]:List R2),([]:List R4)),52)) else ((Zdj N (aa.1,aa.2.1,aa.2.2.1,aa.2.2.2.1,aa.2.2.2.2)).bind fun af=>Z2 (aa.2.1.length * 24≤281474976710656∧aa.2.1.length≤maxLen) (Zdi N aa ac af N (aM aa.2.1.length (([]:List R1):R4)) 0))))
theorem Zt1 {N b2 b3 b4 b5 d7:Nat} {b6 b7 b8 b9 a1:Option Addr} {col:Ze} {w0:World} {ae:R0} {bb:R6} {r:(R0×Int)} (c1 c2 c3 c4:Nat) (hm:Qh N ae bb=some r) (bc:Sl Za.str col w0 b6 b2 ae.2.1) (az:Sl (Za.slice Za.str) col w0 b7 b3 ae.2.2.1) (bd:Sl (Za.slice (Za.int .i64)) col w0 b8 b4 ae.2.2.2.1) (a0:Sl (Za.slice (Za.pair (Za.pair Za.bool (Za.slice (Za.int .u32))) (Za.slice (Za.int .u32)))) col w0 b9 b5 ae.2.2.2.2) (h1:Sl (Za.slice (Za.int .i64)) col w0 a1 d7 bb):
    Calls prog 31 #[(.agg #[.string ae.1,.slice b6 ae.2.1.length b2,.slice b7 ae.2.2.1.length b3,.slice b8 ae.2.2.2.1.length b4,.slice b9 ae.2.2.2.2.length b5]),.slice a1 bb.length d7] w0 (fun e w'=>∃ (col':Ze) (ra1:Option Addr) (rc2:Nat) (ra4:Option Addr) (rc5:Nat) (ra7:Option Addr) (rc8:Nat) (ra10:Option Addr) (rc11:Nat),e= .returned (.tuple #[(.agg #[.string r.1.1,.slice ra1 r.1.2.1.length rc2,.slice ra4 r.1.2.2.1.length rc5,.slice ra7 r.1.2.2.2.1.length rc8,.slice ra10 r.1.2.2.2.2.length rc11]),.int .i64 r.2])∧Zh col w0 col' w'∧Zb Za.str 9 c1 col' w' ra1 rc2 r.1.2.1∧Zb (Za.row 9 Za.str) 22 c2 col' w' ra4 rc5 r.1.2.2.1∧Zb (Za.row 3 (Za.int .i64)) 33 c3 col' w' ra7 rc8 r.1.2.2.2.1∧Zb (Za.row 39 (Za.pair (Za.pair Za.bool (Za.row 95 (Za.int .u32))) (Za.row 95 (Za.int .u32)))) 114 c4 col' w' ra10 rc11 r.1.2.2.2.2):=by
 refine Wq (m:=105) func31 rfl rfl rfl ?_;rw [Qh.eq_1] at hm;have aa:=St.start col w0;refine go ?_;refine Xs (col:=(Zk col)) 1 rfl ?_;intro cx gm er es ab;refine Xr (col:=er) #[.string (⟨#[]⟩),.slice none (([]:List ByteArray).length) 0,.slice none (([]:List R3).length) 0,.slice none (([]:List R2).length) 0,(.slice none (([]:List R4).length) 0)] 2 zeroValue27 ?_;intro dr et d8 d9 ac;refine go ?_;replace ab:=ab.gr d9;refine lV _ (Xd isAgg27 sizeOf27 ab)<|Y2 rfl ?_;obtain ⟨gp,eu,hm⟩:=bZ hm;replace bc:=bc.keep (Zi.start col w0);replace az:=az.keep (Zi.start col w0);replace bd:=bd.keep (Zi.start col w0);replace a0:=a0.keep (Zi.start col w0);replace h1:=h1.keep (Zi.start col w0);replace aa:=(aa.grow es).grow d9;refine Zj (Zpq eu (bc.ks aa) (az.ks aa) (bd.ks aa) (a0.ks aa) (h1.ks aa)) ?_;rintro _ ew ⟨rfl,ca⟩;refine ⟨_,rfl,?_⟩;replace ca:Zh d8 et d8 ew:=.of_below ca;refine go ?_;replace ab:=ab.gr ca;replace ac:=ac.gr ca;replace aa:=aa.grow ca;refine Zq hm (fun hb hm=>go ?_) fun hb hm=>go ?_
 ·refine lV (.agg #[.string (⟨#[]⟩),.slice none (([]:List ByteArray).length) 0,.slice none (([]:List R3).length) 0,.slice none (([]:List R2).length) 0,(.slice none (([]:List R4).length) 0)]) (Wy (l:=[_,_,_,_,_]) (qs:=[(0,1),(1,1),(2,1),(3,1),(4,1)]) underlying27 zeroValue27 ⟨rfl,sizeOf9,rfl,sizeOf22,rfl,sizeOf23,rfl,sizeOf24,rfl,sizeOf25,trivial⟩ rfl)<|X1 rfl<|Z5 ac ?_;intro gs ey ez e0;refine go ?_;cases hm;replace aa:=aa.kp ey ez;exact ⟨rfl,_,Uj e0.atN,_,none,0,none,0,none,0,none,0,rfl,aa.fin (cm []),Zb.nil,Zb.nil,Zb.nil,Zb.nil⟩
 refine lV _ (Xd isAgg27 sizeOf27 ab)<|Y2 rfl ?_;obtain ⟨be,e1,hm⟩:=bZ hm;refine Zj (Zl5 3 4 e1 (bc.ks aa) (az.ks aa) (bd.ks aa) (a0.ks aa) (h1.ks aa)) ?_;rintro _ gt ⟨e2,ea,eb,ec,ed,rfl,ds,dt,du⟩;refine ⟨_,rfl,?_⟩;refine lM (.tuple #[(.agg #[.bool be.1.1.1,.slice ea be.1.1.2.length eb,.slice ec be.1.2.length ed]),.int .i64 be.2])<|lV (.agg #[.bool be.1.1.1,.slice ea be.1.1.2.length eb,.slice ec be.1.2.length ed]) (Xx rfl rfl)<|lV (.int .i64 be.2) (Xx rfl rfl)<|Xr (col:=e2) #[.bool false,.slice none (([]:List Int).length) 0,.slice none (([]:List Int).length) 0] 5 zeroValue39 ?_;intro gu gv ee cb e3;refine Z5 e3 ?_;intro e4 cc e5 e6;refine go ?_;replace ab:=((ab.gr ds).gr cb).kp cc;replace ac:=((ac.gr ds).gr cb).kp cc;replace aa:=((aa.grow ds).grow cb).kp cc e5;replace dt:=(dt.gr cb).kp cc;replace du:=(du.gr cb).kp cc;refine Zq hm (fun hb hm=>go ?_) fun hb hm=>go ?_
 ·refine lV (.agg #[.string (⟨#[]⟩),.slice none (([]:List ByteArray).length) 0,.slice none (([]:List R3).length) 0,.slice none (([]:List R2).length) 0,(.slice none (([]:List R4).length) 0)]) (Wy (l:=[_,_,_,_,_]) (qs:=[(0,1),(1,1),(2,1),(3,1),(4,1)]) underlying27 zeroValue27 ⟨rfl,sizeOf9,rfl,sizeOf22,rfl,sizeOf23,rfl,sizeOf24,rfl,sizeOf25,trivial⟩ rfl)<|X1 rfl<|Z5 ac ?_;intro gw e7 e8 e9;refine go ?_;cases hm;replace aa:=aa.kp e7 e8;exact ⟨rfl,_,Uj e9.atN,_,none,0,none,0,none,0,none,0,rfl,aa.fin (cm []),Zb.nil,Zb.nil,Zb.nil,Zb.nil⟩
 refine lV _ (Xd isAgg39 sizeOf39 e6) ?_;obtain ⟨gx,fa,hm⟩:=bZ hm;refine Zj (Zgg fa ((dt.toSlF (Zd.int .u32)).froz 4) ((du.froz 3 (by decide)).toSlF (Zd.int .u32))) ?_;rintro _ fb ⟨rfl,cd⟩;refine ⟨_,rfl,?_⟩;replace cd:Zh ee e4 ee fb:=.of_below cd;refine go ?_;replace ab:=ab.gr cd;replace ac:=ac.gr cd;replace aa:=aa.grow cd;refine Zq hm (fun hb hm=>go ?_) fun hb hm=>go ?_
 ·refine lV (.agg #[.string (⟨#[]⟩),.slice none (([]:List ByteArray).length) 0,.slice none (([]:List R3).length) 0,.slice none (([]:List R2).length) 0,(.slice none (([]:List R4).length) 0)]) (Wy (l:=[_,_,_,_,_]) (qs:=[(0,1),(1,1),(2,1),(3,1),(4,1)]) underlying27 zeroValue27 ⟨rfl,sizeOf9,rfl,sizeOf22,rfl,sizeOf23,rfl,sizeOf24,rfl,sizeOf25,trivial⟩ rfl)<|Z5 ac ?_;intro gy fc fd fe;refine go ?_;cases hm;replace aa:=aa.kp fc fd;exact ⟨rfl,_,Uj fe.atN,_,none,0,none,0,none,0,none,0,rfl,aa.fin (cm []),Zb.nil,Zb.nil,Zb.nil,Zb.nil⟩
 refine lV _ (Xd isAgg27 sizeOf27 ab) ?_;obtain ⟨ak,ff,hm⟩:=bZ hm;refine Zj (Zt2 6 7 8 9 ff (bc.ks aa) (az.ks aa) (bd.ks aa) (a0.ks aa)) ?_;rintro _ gz ⟨fg,cy,cz,c0,c5,c6,c7,c8,c9,rfl,dv,ag,ah,ai,aj⟩;refine ⟨_,rfl,?_⟩;refine Xr (col:=fg) #[.string (⟨#[]⟩),.slice none (([]:List ByteArray).length) 0,.slice none (([]:List R3).length) 0,.slice none (([]:List R2).length) 0,(.slice none (([]:List R4).length) 0)] 10 zeroValue27 ?_;intro bt g0 fh bj fi;refine Z5 fi ?_;intro fj bk fk ad;refine go ?_;refine Yk ⟨_,_,rfl⟩ ?_;replace ab:=((ab.gr dv).gr bj).kp bk;refine lW ((ab.atN).nth (q:=1) rfl)<|go ?_;obtain ⟨ef,hm⟩:=Z8 hm;refine Q3 (col:=fh) (w:=fj) (r:=(Za.row 39 (Za.pair (Za.pair Za.bool (Za.slice (Za.int .u32))) (Za.slice (Za.int .u32))))) (n:=ae.2.1.length) (x0:=([]:List R1)) 11 rfl underlying25 Tryz.t114 rfl rfl rfl rfl rfl rfl rfl ef.1 ef.2 Zsf ?_;intro eg g1 fl bf dw;refine Zav (col:=fl) (v:=(.slice none (([]:List R4).length) 0)) 12 rfl zeroValue25 ?_;intro bm fm eh a7 dx;replace dx:Zf 25 12 eh fm bm #[(.slice none (([]:List R4).length) 0)]:=dx;refine Sr (v:=(.slice eg ((aM ae.2.1.length (([]:List R1):R4)).length) ae.2.1.length)) dx sizeOf25 rfl rfl (by intro u hu;simp only [Value.cells,aP,bL,or_false] at hu;subst hu;rfl) rfl rfl ?_;intro fn a8 fp af;replace af:Zf 25 12 eh fn bm #[(.slice eg ((aM ae.2.1.length (([]:List R1):R4)).length) ae.2.1.length)]:=af;refine go ?_;refine Yk ⟨_,_,rfl⟩ ?_;replace ab:=((ab.gr bf).gr a7).kp a8;refine lW ((ab.atN).nth (q:=1) rfl)<|go ?_;replace ac:=(((((ac.gr dv).gr bj).kp bk).gr bf).gr a7).kp a8;replace aa:=(((((aa.grow dv).grow bj).kp bk fk).grow bf).grow a7).kp a8 fp;replace ag:=((((ag.gr bj).kp bk).gr bf).gr a7).kp a8;replace ah:=((((ah.gr bj).kp bk).gr bf).gr a7).kp a8;replace ai:=((((ai.gr bj).kp bk).gr bf).gr a7).kp a8;replace aj:=((((aj.gr bj).kp bk).gr bf).gr a7).kp a8;replace ad:=((ad.gr bf).gr a7).kp a8;replace dw:=(dw.gr a7).kp a8
 refine Z4 [1,10,2,4,48,9,1000000] (fun n f av=>∃ am da db bu dc bv,bv=n∧Zdi N ae bb ak bv bu dc=some r∧St w0 (Zk col) am av∧Zb (Za.row 39 (Za.pair (Za.pair Za.bool (Za.slice (Za.int .u32))) (Za.slice (Za.int .u32)))) 114 11 am av da db bu∧Zf 25 12 am av bm #[.slice da bu.length db]∧Zf 27 1 am av cx #[.string ae.1,.slice b6 ae.2.1.length b2,.slice b7 ae.2.2.1.length b3,.slice b8 ae.2.2.2.1.length b4,.slice b9 ae.2.2.2.2.length b5]∧Zf 27 2 am av dr #[.string (⟨#[]⟩),.slice none (([]:List ByteArray).length) 0,.slice none (([]:List R3).length) 0,.slice none (([]:List R2).length) 0,(.slice none (([]:List R4).length) 0)]∧Zb Za.str 9 6 am av cy cz ak.2.1∧Zb (Za.row 9 Za.str) 22 7 am av c0 c5 ak.2.2.1∧Zb (Za.row 3 (Za.int .i64)) 33 8 am av c6 c7 ak.2.2.2.1∧Zb (Za.row 39 (Za.pair (Za.pair Za.bool (Za.row 95 (Za.int .u32))) (Za.row 95 (Za.int .u32)))) 114 9 am av c8 c9 ak.2.2.2.2∧Zf 27 10 am av bt #[.string ak.1,.slice cy ak.2.1.length cz,.slice c0 ak.2.2.1.length c5,.slice c6 ak.2.2.2.1.length c7,.slice c8 ak.2.2.2.2.length c9]∧[49].map f=[.int .i64 dc]) N ⟨_,_,_,_,0,_,rfl,hm,aa,dw,af,ab,ac,ag,ah,ai,aj,ad,rfl⟩ ?_;clear hm;intro n f av hI;obtain ⟨am,da,db,bu,dc,bv,hn,hm,aa,bn,af,ab,ac,ag,ah,ai,aj,ad,hs⟩:=hI;subst hn;refine .lL [49] hs ?_
 cases bv with
 | zero=>rw [Zdi.eq_1] at hm;cases hm
 | succ bv=>
  rw [Zdi.eq_2] at hm;refine go ?_;refine Zq hm (fun hb hm=>go ?_) fun hb hm=>go ?_
  ·refine W7 (col:=am) [(0,0),(1,1),(2,1),(3,0),(4,1),(5,1),(6,0),(7,1),(8,3),(9,1),(10,2)] (by kernel_rfl) (by kernel_rfl)<|xW (fun _ hC=>af.at1.gr (hC.bl am)) ?_;refine xu rfl rfl (fun _=>Y4 rfl) ?_;refine xF ⟨_,_,rfl⟩ ?_;refine xW (fun _ hC=>((ab.atN).nth (q:=4) rfl).gr (hC.bl am)) ?_;refine xu rfl rfl (fun _=>Y4 rfl) ?_;obtain ⟨ce,dd,hm⟩:=bZ hm;refine xu rfl rfl (fun _=>Y3 underlying25 sizeOf114 rfl rfl (Xe dd).1 (Xe dd).2.1 ((a0.ks aa).addr dd)) ?_;obtain ⟨_,fq,fr⟩:=(a0.ks aa).atN dd;obtain ⟨⟨g2,g3,rfl,g4⟩,_⟩:=fq;refine xW (fun _ hC=>fr.one.gr (hC.bl am)) ?_;refine xu rfl rfl (fun _=>Zaj underlying114 rfl) ?_;refine xe rfl rfl ?_;intro ft hC0;have hC:=hC0.bl am;obtain ⟨ei,hm⟩:=Z8 hm;refine Q3 (col:=am) (w:=ft) (r:=(Za.pair (Za.pair Za.bool (Za.slice (Za.int .u32))) (Za.slice (Za.int .u32)))) (n:=ce.length) (x0:=((false,([]:List Int)),([]:List Int))) 13 rfl underlying114 Tryz.t39 rfl rfl rfl rfl rfl rfl rfl ei.1 ei.2 (Ziw (Ziw (Zcl false) Zzx) Zzx) ?_;intro fu g5 ej aw dy;refine Zl<|Xz ej hC0 aw ?_;obtain ⟨g6,de,hm⟩:=bZ hm;replace bn:=(bn.gr hC).gr aw;refine xu rfl rfl (fun _=>Y3 underlying25 sizeOf114 rfl rfl (Xe de).1 (Xe de).2.1 (bn.addr de)) ?_;refine xe rfl rfl ?_;intro g7 hC0;replace ag:=(ag.gr hC).gr aw;replace ah:=(ah.gr hC).gr aw;replace ai:=(ai.gr hC).gr aw;replace aj:=(aj.gr hC).gr aw;replace af:=(af.gr hC).gr aw;replace ab:=(ab.gr hC).gr aw;replace ac:=(ac.gr hC).gr aw;replace ad:=(ad.gr hC).gr aw;replace aa:=(aa.grow hC).grow aw;have hC:=hC0.bl ej;obtain ⟨dz,df,hm⟩:=bZ hm;have df:dz=bu.set (aA dc) (aM ce.length (((false,([]:List Int)),([]:List Int)):R1)):=(Option.some.inj df).symm;replace bn:=bn.gr hC;replace dy:=dy.gr hC;refine Zwo (x1:=aM ce.length (((false,([]:List Int)),([]:List Int)):R1)) (v:=(.slice fu ((aM ce.length (((false,([]:List Int)),([]:List Int)):R1)).length) ce.length)) bn de rfl sizeOf114 dy.has rfl rfl (by decide) ?_;intro fv d0 a9 dg;rw [← df] at dg;replace af:=(af.gr hC).kpp a9;replace af:Zf 25 12 d0 fv bm #[.slice da dz.length db]:=by rw [← (show bu.length=dz.length by rw [df,nS])];exact af
   refine Zl<|xk d0<|Wi ?_;replace ag:=(ag.gr hC).kpp a9;replace ah:=(ah.gr hC).kpp a9;replace ai:=(ai.gr hC).kpp a9;replace aj:=(aj.gr hC).kpp a9;replace ab:=(ab.gr hC).kpp a9;replace ac:=(ac.gr hC).kpp a9;replace ad:=(ad.gr hC).kpp a9;replace aa:=(aa.grow hC).kpp a9;intro g8 hC;replace hC:=hC.bl d0;refine go ?_;replace dg:=dg.gr hC;replace ag:=ag.gr hC;replace ah:=ah.gr hC;replace ai:=ai.gr hC;replace aj:=aj.gr hC;replace af:=af.gr hC;replace ab:=ab.gr hC;replace ac:=ac.gr hC;replace ad:=ad.gr hC;replace aa:=aa.grow hC;exact ⟨bv,by omega,rfl,⟨_,_,_,_,_,_,rfl,hm,aa,dg,af,ab,ac,ag,ah,ai,aj,ad,rfl⟩⟩
  refine Z4 [10,2,4,63,64,9,1000000] (fun n f ax=>∃ ar cf cg bo ch ci,n=ci.length∧bb.drop ch=ci∧Zbx N ae ak ci bo=some r∧St w0 (Zk col) ar ax∧Zb (Za.row 39 (Za.pair (Za.pair Za.bool (Za.slice (Za.int .u32))) (Za.slice (Za.int .u32)))) 114 11 ar ax cf cg bo∧Zf 25 12 ar ax bm #[.slice cf bo.length cg]∧Zf 27 1 ar ax cx #[.string ae.1,.slice b6 ae.2.1.length b2,.slice b7 ae.2.2.1.length b3,.slice b8 ae.2.2.2.1.length b4,.slice b9 ae.2.2.2.2.length b5]∧Zf 27 2 ar ax dr #[.string (⟨#[]⟩),.slice none (([]:List ByteArray).length) 0,.slice none (([]:List R3).length) 0,.slice none (([]:List R2).length) 0,(.slice none (([]:List R4).length) 0)]∧Zb Za.str 9 6 ar ax cy cz ak.2.1∧Zb (Za.row 9 Za.str) 22 7 ar ax c0 c5 ak.2.2.1∧Zb (Za.row 3 (Za.int .i64)) 33 8 ar ax c6 c7 ak.2.2.2.1∧Zb (Za.row 39 (Za.pair (Za.pair Za.bool (Za.row 95 (Za.int .u32))) (Za.row 95 (Za.int .u32)))) 114 9 ar ax c8 c9 ak.2.2.2.2∧Zf 27 10 ar ax bt #[.string ak.1,.slice cy ak.2.1.length cz,.slice c0 ak.2.2.1.length c5,.slice c6 ak.2.2.2.1.length c7,.slice c8 ak.2.2.2.2.length c9]∧[65].map f=[.int .i64 ch]) bb.length ⟨_,_,_,_,0,_,rfl,rfl,hm,aa,bn,af,ab,ac,ag,ah,ai,aj,ad,rfl⟩ ?_;clear hm;intro n f ax hI;obtain ⟨ar,cf,cg,bo,ch,ci,hn,hl,hm,aa,al,af,ab,ac,ag,ah,ai,aj,ad,hs⟩:=hI;subst hn;refine .lL [65] hs ?_
  cases ci with
  | nil=>
   have hk:¬ ((ch:Int)<(bb.length:Int)):=by have:=aH.1 hl;omega
   have hkb:=decide_eq_false hk;rw [Zbx.eq_1] at hm;refine go ?_;refine X2 (congrArg Value.bool hkb)<|go ?_;refine Xk ab ?_;refine go ?_;replace al:=(al).toSlF (Zd.row (Zd.pair (Zd.pair Zd.bool Zd.slice) Zd.slice));replace ag:=ag.froz 11 (by decide);replace ah:=ah.froz 11 (by decide);replace ai:=ai.froz 11 (by decide);replace aj:=aj.froz 11 (by decide);replace af:=af.froz 11 (by decide);replace ab:=ab.froz 11 (by decide);replace ac:=ac.froz 11 (by decide);replace ad:=ad.froz 11 (by decide);replace aa:=aa.froz 11 (by decide) (by decide);refine Z4 [10,2,4,83,9,1000000] (fun n f au=>∃ ao bp cj ck cl bw cn co bx cp cq bz bq br a2 b0,b0=n∧Ze2 N ae bo b0 bp cj bw bx bz a2=some r∧St w0 (Zk col) ao au∧Sl (Za.slice (Za.pair (Za.pair Za.bool (Za.slice (Za.int .u32))) (Za.slice (Za.int .u32)))) ao au cf cg bo∧Zf 25 12 ao au bm #[.slice cf bo.length cg]∧Zf 27 1 ao au cx #[.string ae.1,.slice b6 ae.2.1.length b2,.slice b7 ae.2.2.1.length b3,.slice b8 ae.2.2.2.1.length b4,.slice b9 ae.2.2.2.2.length b5]∧Zf 27 2 ao au dr #[.string (⟨#[]⟩),.slice none (([]:List ByteArray).length) 0,.slice none (([]:List R3).length) 0,.slice none (([]:List R2).length) 0,(.slice none (([]:List R4).length) 0)]∧Zb Za.str 9 6 ao au ck cl bw∧Zb (Za.row 9 Za.str) 22 7 ao au cn co bx∧Zb (Za.row 3 (Za.int .i64)) 33 8 ao au cp cq bz∧Zb (Za.row 39 (Za.pair (Za.pair Za.bool (Za.row 95 (Za.int .u32))) (Za.row 95 (Za.int .u32)))) 114 9 ao au bq br a2∧Zf 27 10 ao au bt #[.string cj,.slice ck bw.length cl,.slice cn bx.length co,.slice cp bz.length cq,.slice bq a2.length br]∧[84].map f=[.int .i64 bp]) N ⟨_,0,_,_,_,_,_,_,_,_,_,_,_,_,_,_,rfl,hm,aa,al,af,ab,ac,ag,ah,ai,aj,ad,rfl⟩ ?_;clear hm;intro n f au hI;obtain ⟨ao,bp,cj,ck,cl,bw,cn,co,bx,cp,cq,bz,bq,br,a2,b0,hn,hm,aa,al,af,ab,ac,a3,a4,a5,cr,ad,hs⟩:=hI;subst hn;refine .lL [84] hs ?_
   cases b0 with
   | zero=>rw [Ze2.eq_1] at hm;cases hm
   | succ b0=>
    rw [Ze2.eq_2] at hm;refine go ?_;refine Zq hm (fun hb hm=>go ?_) fun hb hm=>go ?_
    ·refine W7 (col:=ao) [(0,1),(1,0),(2,1),(3,1),(4,0),(5,0),(6,1),(7,1),(8,0),(9,1),(10,0),(11,1),(12,1),(13,0),(14,1),(15,2)] (by kernel_rfl) (by kernel_rfl)<|xF ⟨_,_,rfl⟩ ?_;refine xW (fun _ hC=>((ad.atN).nth (q:=4) rfl).gr (hC.bl ao)) ?_;refine xu rfl rfl (fun _=>Y4 rfl) ?_;obtain ⟨d1,dh,hm⟩:=bZ hm;refine xu rfl rfl (fun _=>Y3 underlying25 sizeOf114 rfl rfl (Xe dh).1 (Xe dh).2.1 (cr.addr dh)) ?_;obtain ⟨_,bs,ba,bg,fw⟩:=cr.open_ 14 (by decide) dh;obtain ⟨di,dj,rfl,d2⟩:=fw.row;replace bg:Y1 (Za.row 39 (Za.pair (Za.pair Za.bool (Za.row 95 (Za.int .u32))) (Za.row 95 (Za.int .u32)))) 114 9 bs au bq br a2 (aA bp) [.slice di d1.length dj]:=bg;refine xW (fun _ hC=>bg.atN.one.gr (hC.bl bs)) ?_;replace af:=af.kpp ba;refine xW (fun _ hC=>af.at1.gr (hC.bl bs)) ?_;refine xu rfl rfl (fun _=>Y4 rfl) ?_;obtain ⟨g9,dl,hm⟩:=bZ hm;replace al:=al.kpp ba;refine xu rfl rfl (fun _=>Y3 underlying25 sizeOf114 rfl rfl (Xe dl).1 (Xe dl).2.1 (al.addr dl)) ?_;obtain ⟨_,fx,fy⟩:=al.atN dl;obtain ⟨⟨ha,hc,rfl,d3⟩,_⟩:=fx;refine xW (fun _ hC=>fy.one.gr (hC.bl bs)) ?_;refine xF ⟨_,_,rfl⟩ ?_;replace ab:=ab.kpp ba;refine xW (fun _ hC=>((ab.atN).nth (q:=2) rfl).gr (hC.bl bs)) ?_;refine xu rfl rfl (fun _=>Y4 rfl) ?_;obtain ⟨hd,dm,hm⟩:=bZ hm;replace aa:=aa.kpp ba;refine xu rfl rfl (fun _=>Y3 underlying23 sizeOf22 rfl rfl (Xe dm).1 (Xe dm).2.1 ((az.ks aa).addr dm)) ?_;obtain ⟨_,fz,f0⟩:=(az.ks aa).atN dm;obtain ⟨⟨he,hf,rfl,hg⟩,_⟩:=fz;refine xW (fun _ hC=>f0.one.gr (hC.bl bs)) ?_;refine xu rfl rfl (fun _=>Zaj underlying22 rfl) ?_;refine xe rfl rfl ?_;intro hh hC0;have hC:=hC0.bl bs;obtain ⟨b1,f1,hm⟩:=bZ hm;replace d2:=d2.gr hC;replace d3:=d3.gr hC;refine Zj (Zt3 14 f1 rfl d2 d3) ?_;rintro _ d4 ⟨ct,rfl,a6,f2,ek⟩;refine ⟨_,rfl,?_⟩;refine .ld (d:=91) (v:=(.slice di b1.length dj)) (congrArg (fun n=>Value.slice di n dj) (show d1.length=b1.length from ek.symm)) ?_;replace ad:=((ad.kpp ba).gr hC).kpp a6;replace ad:Zf 27 10 ct d4 bt #[.string cj,.slice ck bw.length cl,.slice cn bx.length co,.slice cp bz.length cq,.slice bq a2.length br]:=by rw [];exact ad
     replace bg:=(bg.gr hC).kpp a6;replace bg:Y1 (Za.row 39 (Za.pair (Za.pair Za.bool (Za.row 95 (Za.int .u32))) (Za.row 95 (Za.int .u32)))) 114 9 ct d4 bq br a2 (aA bp) [.slice di b1.length dj]:=by rw [← (show d1.length=b1.length from ek.symm)];exact bg
     refine Zl<|xk ct ?_;have d5:=bg.close f2.has (by decide) (by decide);replace al:=(al.gr hC).kpp a6;replace al:=al.recol 14 9 (by decide);replace a3:=((a3.kpp ba).gr hC).kpp a6;replace a3:=a3.recol 14 9 (by decide);replace a4:=((a4.kpp ba).gr hC).kpp a6;replace a4:=a4.recol 14 9 (by decide);replace a5:=((a5.kpp ba).gr hC).kpp a6;replace a5:=a5.recol 14 9 (by decide);replace af:=(af.gr hC).kpp a6;replace af:=af.recol 14 9 (by decide);replace ab:=(ab.gr hC).kpp a6;replace ab:=ab.recol 14 9 (by decide);replace ac:=((ac.kpp ba).gr hC).kpp a6;replace ac:=ac.recol 14 9 (by decide);replace ad:=ad.recol 14 9 (by decide);replace aa:=(aa.grow hC).kpp a6;replace aa:=aa.recol 14 9 (by decide) (by decide);replace ad:Zf 27 10 (Xy 14 9 ct) d4 bt #[.string cj,.slice ck bw.length cl,.slice cn bx.length co,.slice cp bz.length cq,.slice bq ((a2.set (aA bp) b1).length) br]:=by rw [← (show a2.length=(a2.set (aA bp) b1).length by simp only [nS])];exact ad
     refine Wi ?_;intro hi hC;replace hC:=hC.bl (Xy 14 9 ct);refine go ?_;replace al:=al.gr hC;replace a3:=a3.gr hC;replace a4:=a4.gr hC;replace a5:=a5.gr hC;replace d5:=d5.gr hC;replace af:=af.gr hC;replace ab:=ab.gr hC;replace ac:=ac.gr hC;replace ad:=ad.gr hC;replace aa:=aa.grow hC;exact ⟨b0,by omega,rfl,⟨_,_,_,_,_,_,_,_,_,_,_,_,_,_,_,_,rfl,hm,aa,al,af,ab,ac,a3,a4,a5,d5,ad,rfl⟩⟩
    refine lV _ (Xd isAgg27 sizeOf27 ad)<|Z5 ac ?_;intro hj cu f3 f4;refine go ?_;cases hm;replace a3:=a3.kp cu;replace a4:=a4.kp cu;replace a5:=a5.kp cu;replace cr:=cr.kp cu;replace aa:=aa.kp cu f3;exact ⟨rfl,_,Uj f4.atN,_,_,_,_,_,_,_,_,_,rfl,aa.fin (cm [(6,c1),(7,c2),(8,c3),(9,c4)]),aa.fo a3,aa.fo a4,aa.fo a5,aa.fo cr⟩
  | cons dn f5=>
   obtain ⟨d6,f6,f7⟩:=Yd hl;have hk:(ch:Int)<(bb.length:Int):=by omega
   have hkb:=decide_eq_true hk;rw [Zbx.eq_2] at hm;refine go ?_;refine X3 (congrArg Value.bool hkb)<|go ?_;refine lI d6 ((h1.ks aa).addr d6) ?_;obtain ⟨_,f8,f9⟩:=(h1.ks aa).atN d6;obtain ⟨⟨el,em,rfl,dp⟩,_⟩:=f8;refine lW f9.one<|go ?_;refine lV _ (Xd isAgg27 sizeOf27 ab)<|Y2 rfl<|Ur (col:=ar) (r:=(Za.slice (Za.int .i64))) (xs:=[dn]) [.slice el dn.length em] 15 (Wa.ofF (Rows.consF (r:=(Za.slice (Za.int .i64))) (x:=dn) (cs:=[.slice el dn.length em]) (Zll dp) Rows.nil0)) ?_;intro ho ga dq ay gb;obtain ⟨bh,gc,hm⟩:=bZ hm;replace aa:=aa.grow ay;refine Zj (Zl5 16 17 gc ((bc.ks aa).froz 15) ((az.ks aa).froz 15) ((bd.ks aa).froz 15) ((a0.ks aa).froz 15) (gb.toSlF Zd.slice)) ?_;rintro _ hp ⟨gd,en,eo,ep,eq,rfl,an,cv,cw⟩;refine ⟨_,rfl,?_⟩;replace cv:=cv.thaw (Z7 .u32) an ((Fz.refl (col:=dq)).froz 15) (by decide);replace cw:=cw.thaw (Z7 .u32) an ((Fz.refl (col:=dq)).froz 15) (by decide);replace an:=an.thawR (col:=dq);generalize Xj ga.heap.size dq gd=ge at *;refine lM (.tuple #[(.agg #[.bool bh.1.1.1,.slice en bh.1.1.2.length eo,.slice ep bh.1.2.length eq]),.int .i64 bh.2])<|lV (.agg #[.bool bh.1.1.1,.slice en bh.1.1.2.length eo,.slice ep bh.1.2.length eq]) (Xx rfl rfl)<|lV (.int .i64 bh.2) (Xx rfl rfl)<|Xr (col:=ge) #[.bool false,.slice none (([]:List Int).length) 0,.slice none (([]:List Int).length) 0] 18 zeroValue39 ?_;intro gf hq hr ap gg;refine Z5 gg ?_;intro ht aq gh gi;refine go ?_;replace ab:=(((ab.gr ay).gr an).gr ap).kp aq;refine lV _ (Xd isAgg27 sizeOf27 ab)<|Y2 rfl<|lV (.func (.func 110) #[] #[.pointer (some ⟨cx,0,none⟩),.pointer (some ⟨bt,0,none⟩),.pointer (some ⟨gf,0,none⟩),.pointer (some ⟨bm,0,none⟩)]) (Z87 rfl rfl rfl rfl) ?_;obtain ⟨hv,gj,hm⟩:=bZ hm;replace al:=(((al.gr ay).gr an).gr ap).kp aq;replace ag:=(((ag.gr ay).gr an).gr ap).kp aq;replace ah:=(((ah.gr ay).gr an).gr ap).kp aq;replace ai:=(((ai.gr ay).gr an).gr ap).kp aq;replace aj:=(((aj.gr ay).gr an).gr ap).kp aq;replace dp:=(((dp.gr ay).gr an).gr ap).kp aq;replace af:=(((af.gr ay).gr an).gr ap).kp aq;replace ad:=(((ad.gr ay).gr an).gr ap).kp aq
   replace aa:=((aa.grow an).grow ap).kp aq gh;replace cv:=(cv.gr ap).kp aq;replace cw:=(cw.gr ap).kp aq;refine Zj (Z3v 1 10 6 7 8 9 18 16 17 12 11 gj rfl ⟨by decide,rfl⟩ ⟨by decide,rfl⟩ ⟨by decide,rfl⟩ ⟨by decide,rfl⟩ ⟨by decide,rfl⟩ ⟨by decide,rfl⟩ ⟨by decide,rfl⟩ ⟨by decide,rfl⟩ ⟨by decide,rfl⟩ (bc.ks aa) (az.ks aa) (bd.ks aa) (a0.ks aa) dp (bc.ks aa) (az.ks aa) (bd.ks aa) (a0.ks aa) ab ag ah ai aj ad cv cw gi al af) ?_;rintro _ hw ⟨hx,hy,hz,rfl,bi,gk,gl⟩;refine ⟨_,rfl,go ?_⟩;replace ac:=((((ac.gr ay).gr an).gr ap).kp aq).kpp bi;replace ag:=ag.kpp bi;replace ah:=ah.kpp bi;replace ai:=ai.kpp bi;replace aj:=aj.kpp bi;replace ab:=ab.kpp bi;replace ad:=ad.kpp bi;replace aa:=aa.kpp bi;exact ⟨f5.length,by simp,rfl,⟨_,_,_,_,_,_,rfl,f6,hm,aa,gk,gl,ab,ac,ag,ah,ai,aj,ad,(Yg (congrArg (Value.int .i64) (Yb (aF f7 (h1.ks aa).1.1))) rfl)⟩⟩
/-! the places of an assignment -/
section
variable {N:Nat} {n:Zp} (hf:Xu N n) {x:List Int} (hw:Xn n x)
include hf hw
theorem Zys {v:Nat} (hv:v<n.2.1.length) {out:List Int} (ho:out.length≤1024) (kk:Int→List Int→Option R2):∀ (ps:List Int) (r k:Nat),(∀ q ∈ ps,0≤q∧q<(n.2.1.length:Int))→r<k→k≤65536→Yn n.2.2.1 ps k≤65536→T3 n x ps r=Wz n x v→
  Zdm n x (v:Int) out kk ps (r:Int)=kk ((v+1:Nat):Int) (out++[((Xt n v x:Nat):Int)])
 | [],r,k,_,_,_,_,e=>by
  rw [T3] at e
  subst e
  have B:=hf.le
  have c:=hf.row hw hv
  have b:=hf.rows hv
  have C:=hw.ok v (by rw [hw.len];exact hv)
  have d:i64.wrap ((Wz n x v:Int) * ((n.2.2.1.getD v []).length:Int))=((Wz n x v * cnt n v:Nat):Int):=by
   rw [show ((n.2.2.1.getD v []).length:Int)=((cnt n v:Nat):Int) from rfl,← bU]
   exact Zv (by omega)
  have f:i64.wrap (((Wz n x v * cnt n v:Nat):Int)+x.getD v 0)=((Xt n v x:Nat):Int):=by
   rw [Xt,eB,show (((x.getD v 0).toNat:Nat):Int)=x.getD v 0 by omega]
   exact Zv (by omega)
  rw [Zdm.eq_1,Wf [] (by rw [hf.ev.v];exact hv),oB,Wf 0 (by rw [hw.len];exact hv),oB,d,f,Z6 (by simp only [aL,maxLen];omega),wS (by omega)]
 | p :: ps,r,k,a,g,i,m,e=>by
  obtain ⟨o,s,t⟩:=Zos hf.ev hw a g i m
  rw [T3] at e
  have E:=a p aC
  have F:=hw.ok p.toNat (by rw [hw.len];omega)
  have H:r * cnt n p.toNat≤k * cnt n p.toNat:=bC _ (by omega)
  have q1:Zm n.2.2.1 p=some (n.2.2.1.getD p.toNat []):=by
   have:=Wf (l:=n.2.2.1) [] (j:=p.toNat) (by rw [hf.ev.v];omega)
   rwa [show ((p.toNat:Nat):Int)=p by omega] at this
  have u:Zm x p=some (x.getD p.toNat 0):=by
   have:=Wf (l:=x) 0 (j:=p.toNat) (by rw [hw.len];omega)
   rwa [show ((p.toNat:Nat):Int)=p by omega] at this
  have w:i64.wrap ((r:Int) * ((n.2.2.1.getD p.toNat []).length:Int))=((r * cnt n p.toNat:Nat):Int):=by
   rw [show ((n.2.2.1.getD p.toNat []).length:Int)=((cnt n p.toNat:Nat):Int) from rfl,← bU]
   exact Zv (by omega)
  have y:i64.wrap (((r * cnt n p.toNat:Nat):Int)+x.getD p.toNat 0)=((r * cnt n p.toNat+(x.getD p.toNat 0).toNat:Nat):Int):=by
   rw [eB,show (((x.getD p.toNat 0).toNat:Nat):Int)=x.getD p.toNat 0 by omega]
   exact Zv (by omega)
  rw [Zdm.eq_2,q1,oB,u,oB,w,y]
  exact Zys hv ho kk ps _ _ (fun q A=>a q (aB _ A)) o s t e
def Vn (n:Zp) (x:List Int) (m:Nat):List Int:=(List.range m).map fun v=>((Xt n v x:Nat):Int)
theorem Z8o (hN:2000000<N):Zjx N n x=some (Vn n x n.2.1.length):=by
 have k:=hf.le
 have c:∀ (m v f:Nat),v+m=n.2.1.length→m<f→Za9 N n x f (v:Int) (Vn n x v)=some (Vn n x n.2.1.length):=by
  intro m
  induction m with
  | zero=>
   intro v f d b
   obtain ⟨g,rfl⟩:∃ g,f=g+1:=⟨f - 1,by omega⟩
   rw [Za9.eq_2,if_neg (dF (by omega)),show v=n.2.1.length by omega]
  | succ m i=>
   intro v f d b
   obtain ⟨g,rfl⟩:∃ g,f=g+1:=⟨f - 1,by omega⟩
   have a:v<n.2.1.length:=by omega
   have j:=Zys hf hw a (out:=Vn n x v) (by rw [Vn,aI,bW];omega) (Za9 N n x g) (n.2.2.2.1.getD v []) 0 1 (hf.pars a) (by omega) (by omega) (hf.rows a).2.2 rfl
   rw [Za9.eq_2,if_pos (dT (by omega)),Wf [] (by rw [hf.ev.p];exact a),oB]
   refine j.trans ?_
   have e:Vn n x v++[((Xt n v x:Nat):Int)]=Vn n x (v+1):=by rw [Vn,Vn,List.range_succ,eE,fN]
   rw [e]
   exact i (v+1) g (by omega) (by omega)
 exact c n.2.1.length 0 N (by omega) (by omega)
end
structure Uy (n:Zp) (D G:Nat) (L:List R8) (E:List (List QV)):Prop where
 len:E.length=n.2.1.length
 sz:∀ v,v<n.2.1.length→(E.getD v []).length=(n.2.2.2.2.getD v []).length
 val:∀ v,v<n.2.1.length→∀ i,i<(n.2.2.2.2.getD v []).length→Zr ((E.getD v []).getD i ((false,[]),[]))=((Wj n v L).getD i 0:Rat) / (D:Rat)
 rv:∀ v,v<n.2.1.length→∀ y ∈ E.getD v [],RV G y
def Y8:List R8→Nat
 | []=>0
 | p :: l=>p.1+Y8 l
theorem Zo5:∀ a b:List R8,Y8 (a++b)=Y8 a+Y8 b
 | [],b=>by rw [aV,Y8,cW]
 | p :: a,b=>by rw [bY,Y8,Y8,Zo5 a b,dW]
theorem Zvz (n:Zp) (v:Nat):∀ (L:List R8) (c:List Int) (b:Nat),(∀ x ∈ c,x≤(b:Int))→∀ x ∈ L.foldl (Ui n v) c,x≤((b+Y8 L:Nat):Int)
 | [],c,b,h=>by rw [Y8,bQ];exact h
 | p :: L,c,b,h=>by
  rw [eR,Y8,← dW]
  refine Zvz n v L _ _ fun x d=>?_
  rw [Ui] at d
  rcases fT d with e | rfl
  ·have:=h x e;omega
  ·have:c.getD (Xt n v p.2) 0≤(b:Int):=by
    rcases cQ (Xt n v p.2) c.length with a | a
    ·rw [Xi a];exact h _ (aG a)
    ·rw [aE,cJ a];exact Int.natCast_nonneg b
   omega
theorem Z5o (n:Zp) (v:Nat) (L:List R8):∀ x ∈ Wj n v L,x≤((Y8 L:Nat):Int):=by
 have:=Zvz n v L (aM (n.2.2.2.2.getD v []).length 0) 0 fun x a=>by rw [dV a];decide
 rw [cW] at this
 exact this
section
variable {N:Nat} {n:Zp} (hf:Xu N n) {D G:Nat} (hD:D≠0)
include hf hD
theorem Uy.put {L:List R8} {E E':List (List QV)} (h:Uy n D G L E) {p:Nat×List Int} (hw:Xn n p.2) {q:Rat} (hq:q=(p.1:Rat) / (D:Rat)) (hG1:(Zg (Y8 L+p.1)).length≤G) (hG2:(Zg D).length≤G)
  (hl:E'.length=n.2.1.length) (hE:∀ v,v<n.2.1.length→E'.getD v []=(E.getD v []).set (Xt n v p.2) (Zo (Zr ((E.getD v []).getD (Xt n v p.2) ((false,[]),[]))+q))):Uy n D G (L++[p]) E':=by
 have d:∀ v,v<n.2.1.length→Zr ((E.getD v []).getD (Xt n v p.2) ((false,[]),[]))+q=(((Wj n v L).getD (Xt n v p.2) 0+(p.1:Int):Int):Rat) / (D:Rat):=fun v a=>by
  rw [h.val v a _ (Zd6 hf a hw),hq,Rat.intCast_add,bS,bS,bS,gM];rfl
 refine ⟨hl,fun v a=>?_,fun v a i k=>?_,fun v a y f=>?_⟩
 ·rw [hE v a,nS];exact h.sz v a
 ·have g:=Zd6 hf a hw
  have b:Xt n v p.2<(Wj n v L).length:=by rw [Zgk];exact g
  have j:Xt n v p.2<(E.getD v []).length:=by rw [h.sz v a];exact g
  rw [hE v a,Zut,Ui,V2 _ _ _ _ _ j,V2 _ _ _ _ _ b]
  by_cases e:i=Xt n v p.2
  ·rw [if_pos e,if_pos e,Wt,d v a]
  ·rw [if_neg e,if_neg e];exact h.val v a i k
 ·rw [hE v a] at f
  rcases fT f with l | rfl
  ·exact h.rv v a y l
  ·have b:Xt n v p.2<(Wj n v L).length:=by rw [Zgk];exact Zd6 hf a hw
   have r:=Zjh n v L _ (aG b)
   have m:=Z5o n v L _ (aG b)
   rw [d v a]
   refine Vo ?_
   rw [Xi b]
   obtain ⟨c,o⟩:∃ c:Nat,(Wj n v L)[Xt n v p.2]=(c:Int):=⟨((Wj n v L)[Xt n v p.2]).toNat,by omega⟩
   rw [o] at m ⊢
   have e:(((c:Int)+(p.1:Int):Int):Rat) / (D:Rat)=mkRat ((c+p.1:Nat):Int) D:=by rw [dA,eB]
   rw [e]
   have s:=Wx (show c+p.1≤Y8 L+p.1 by omega)
   exact Zd7 (by rw [eY];omega) hG2 (aU (Tt hD) hG2)
omit hD in
theorem Z01 {x:List Int} (hw:Xn n x) {q:Rat} {V0:List (List QV)} (hr:Z9 N (4 * G+20)) (hqG:qs q≤G) (e45:Int):∀ (m k:Nat) (V:List (List QV)),k+m=n.2.1.length→V.length=n.2.1.length→(∀ v,v<n.2.1.length→(V.getD v []).length=(n.2.2.2.2.getD v []).length)→(∀ v,k≤v→v<n.2.1.length→∀ y ∈ V.getD v [],RV G y)→
  ∃ V',Zbw N (Zo q,e45) ((Vn n x n.2.1.length).drop k) k V=some V'∧V'.length=n.2.1.length∧(∀ j,j<k→V'.getD j []=V.getD j [])∧∀ j,k≤j→j<n.2.1.length→V'.getD j []=(V.getD j []).set (Xt n j x) (Zo (Zr ((V.getD j []).getD (Xt n j x) ((false,[]),[]))+q))
 | 0,k,V,s,c,_,_=>by
  rw [cK (by rw [Vn,aI,bW];omega),Zbw.eq_1]
  exact ⟨V,rfl,c,fun _ _=>rfl,fun j t g=>by omega⟩
 | m+1,k,V,s,c,d,i=>by
  have l:k<(Vn n x n.2.1.length).length:=by rw [Vn,aI,bW];omega
  have a:k<V.length:=by omega
  have e:(Vn n x n.2.1.length)[k]=((Xt n k x:Nat):Int):=by simp only [Vn,cC,eT]
  have f:Xt n k x<(V.getD k []).length:=by rw [d k (by omega)];exact Zd6 hf (by omega) hw
  have b:=i k (aY _) (by omega) _ (aG f)
  have u:Su N (((V.getD k [])[Xt n k x].1.1,(V.getD k [])[Xt n k x].1.2),(V.getD k [])[Xt n k x].2) (((Zo q).1.1,(Zo q).1.2),(Zo q).2)=some (Zo (Zr (V.getD k [])[Xt n k x]+q)):=by
   have:=Zjk (N:=N) b (Vo hqG) (hr.mono (by omega))
   rwa [Wt] at this
  obtain ⟨V',w,A,o,B⟩:=Z01 hw (V0:=V0) hr hqG e45 m (k+1) (V.set k ((V.getD k []).set (Xt n k x) (Zo (Zr (V.getD k [])[Xt n k x]+q)))) (by omega) (by rw [nS];exact c) (fun v p=>by
    rw [V2 V [] k v _ a]
    split
    ·rename_i h;subst h;rw [nS];exact d v p
    ·exact d v p) (fun v C r y b=>by
    rw [V2 V [] k v _ a,if_neg (by omega)] at b
    exact i v (by omega) r y b)
  refine ⟨V',?_,A,fun j E=>?_,fun j t g=>?_⟩
  ·rw [aK l,Zbw.eq_2,e,Wf [] a,oB,Z1 f,oB,u,oB,oB,aD,aD]
   exact w
  ·rw [o j (by omega),V2 V [] k j _ a,if_neg (by omega)]
  ·by_cases e2:j=k
   ·subst e2
    rw [o j (by omega),V2 V [] j j _ a,if_pos rfl,Xi f]
   ·rw [B j (by omega) g,V2 V [] k j _ a,if_neg e2]
omit hD in
theorem Z00 {x:List Int} (hw:Xn n x) {B:Nat→Nat} (hB:Zan n B) {Q:Nat} (hr:Z9 N (4 * Q+20)) (p:QV) (E:List (List QV)):∀ (m k:Nat) (q:Rat),k+m=n.2.1.length→qs q+W5 B m k≤Q→
  Zdh N (Wl n) p E (Vn n x n.2.1.length) ((Vn n x n.2.1.length).drop k) k (Zo q).1.1 (Zo q).1.2 (Zo q).2=(Zbs N (Zo (q * Zx n x m k)) ((p.1.1,p.1.2),p.2)).bind fun r=>Zbw N r (Vn n x n.2.1.length) 0 E
 | 0,k,q,f,_=>by
  rw [cK (by rw [Vn,aI,bW];omega),Zdh.eq_1,Zx,bR]
 | m+1,k,q,f,g=>by
  rw [W5] at g
  have a:k<n.2.1.length:=by omega
  have b:k<(Vn n x n.2.1.length).length:=by rw [Vn,aI,bW];omega
  have e:(Vn n x n.2.1.length)[k]=((Xt n k x:Nat):Int):=by simp only [Vn,cC,eT]
  have c:=Zd6 hf a hw
  have i:(x.getD k 0).toNat<cnt n k:=by
   have:=hw.ok k (by rw [hw.len];exact a)
   omega
  have d:ent n x k=Zr ((n.2.2.2.2.getD k []).getD (Xt n k x) ((false,[]),[])):=Zz4 (n:=n) (T:=n.2.2.2.2) i
  rw [Xi c] at d
  have j:Yp (n.2.2.2.2.getD k [])[Xt n k x]=Zo (ent n x k):=by rw [Yp,d]
  have l:=Zqb hf hB hw a
  have w:=Zlg q (ent n x k)
  have o:Qg N (((Zo q).1.1,(Zo q).1.2),(Zo q).2) (((Zo (ent n x k)).1.1,(Zo (ent n x k)).1.2),(Zo (ent n x k)).2)=some (Zo (q * ent n x k)):=by
   have:=Zmi (N:=N) (Zlo q) (Vo l) (hr.mono (by omega))
   rwa [Wt,Wt] at this
  have s:=Z00 hw hB hr p E m (k+1) (q * ent n x k) (by omega) (by omega)
  have u:Zm (Wl n).2.2.2.2 (k:Int)=some ((n.2.2.2.2.getD k []).map Yp):=by
   rw [Wf [] (by show k<(n.2.2.2.2.map (eL Yp)).length;rw [aI,hf.ev.t];exact a)]
   exact congrArg some (Z5u n.2.2.2.2 k)
  have v:Zm ((n.2.2.2.2.getD k []).map Yp) ((Xt n k x:Nat):Int)=some (Zo (ent n x k)):=by
   rw [Z1 (by rw [aI];exact c),cC,j]
  rw [aK b,Zdh.eq_2,e,u,oB,v,oB,o,oB,Zx,← bH]
  exact s
theorem Xac {L:List R8} {E:List (List QV)} (h:Uy n D G L E) {x:List Int} (hw:Xn n x) {p:Rat} {a Q P:Nat} (hr:Z9 N (4 * (G+Q+P)+60)) (hN:2000000<N) {B:Nat→Nat} (hB:Zan n B) (hQ:W5 B n.2.1.length 0+1≤Q) (hp0:p≠0) (hpP:qs p≤P)
  (ha:Zx n x n.2.1.length 0 / p=(a:Rat) / (D:Rat)) (hqG:qs (Zx n x n.2.1.length 0 / p)≤G) (hG1:(Zg (Y8 L+a)).length≤G) (hG2:(Zg D).length≤G):
  ∃ E',Zg9 N x n (Wl n) (Zo p) E=some E'∧Uy n D G (L++[(a,x)]) E':=by
 have g:Zjx N (n.1,n.2.1,n.2.2.1,n.2.2.2.1,n.2.2.2.2) x=some (Vn n x n.2.1.length):=Z8o hf hw hN
 have i:Zbz N 1=some (Zo 1):=by
  have:=Zmj (N:=N) (a:=1) (b:=1) (by omega) (by omega) (hr.mono (by omega))
  rw [if_neg (by decide)] at this
  have e:(((1:Int):Rat) / ((1:Int):Rat))=1:=div_one _
  rw [Zbz,this,oB,e]
 have d:=Z00 hf hw hB (Q:=Q) (hr.mono (by omega)) (Zo p) E n.2.1.length 0 1 (by omega) (by rw [Zck];omega)
 rw [aT,cZ] at d
 have qP:qs (Zx n x n.2.1.length 0)≤Q:=by
  have:=Zru hf hB hw n.2.1.length 0 1 (by omega)
  rw [Zoh,cZ,Zck] at this
  omega
 have j:Zbs N (Zo (Zx n x n.2.1.length 0)) (((Zo p).1.1,(Zo p).1.2),(Zo p).2)=some (Zo (Zx n x n.2.1.length 0 / p),0):=by
  have:=Zvj (N:=N) (Vo qP) (Vo hpP) (hr.mono (by omega))
  rwa [Wt,Wt,if_neg hp0] at this
 obtain ⟨k,f,l,_,m⟩:=Z01 hf hw (V0:=E) (G:=G) (hr.mono (by omega)) hqG 0 n.2.1.length 0 E (by omega) h.len h.sz (fun v _ c=>h.rv v c)
 rw [aT] at f
 refine ⟨k,?_,h.put hf hD hw (p:=(a,x)) ha hG1 hG2 l fun v c=>m v (bK _) c⟩
 rw [Zg9,g,oB,i,oB]
 refine d.trans ?_
 rw [j,oB]
 exact f
end
/-! all assignments of what is not known,in the order of their digits -/
def Vj:List Int→List Nat→List Int→List Int
 | w,[],_=>w
 | w,_ :: _,[]=>w
 | w,o :: os,d :: ds=>Vj (w.set o d) os ds
def Ye:List Int→Nat→List Nat
 | [],_=>[]
 | x :: l,k=>if x<0 then k :: Ye l (k+1) else Ye l (k+1)
theorem Zn9:∀ (l:List Int) (k:Nat),∀ o ∈ Ye l k,k≤o∧o<k+l.length
 | [],k,o,h=>by rw [Ye] at h;cases h
 | x :: l,k,o,h=>by
  rw [Ye] at h
  rw [nC]
  split at h
  ·rcases aP.1 h with rfl | h
   ·omega
   ·have:=Zn9 l (k+1) o h;omega
  ·have:=Zn9 l (k+1) o h;omega
theorem Zye:∀ (l:List Int) (k:Nat),(Ye l k).length≤l.length
 | [],k=>by rw [Ye];exact aY _
 | x :: l,k=>by
  have:=Zye l (k+1)
  rw [Ye,nC]
  split
  ·rw [nC];omega
  ·omega
theorem Z1a:∀ (os:List Nat) (w ds:List Int) (i:Nat),i ∉ os→(Vj w os ds)[i]?=w[i]?
 | [],w,ds,i,_=>by rw [Vj]
 | _ :: _,w,[],i,_=>by rw [Vj]
 | o :: os,w,d :: ds,i,h=>by
  rw [aP,not_or] at h
  rw [Vj,Z1a os _ ds i h.2,fD (Ne.symm h.1)]
theorem Z09:∀ (os:List Nat) (w ds:List Int),(Vj w os ds).length=w.length
 | [],w,ds=>by rw [Vj]
 | _ :: _,w,[]=>by rw [Vj]
 | o :: os,w,d :: ds=>by rw [Vj,Z09 os,nS]
theorem Z08:∀ (os:List Nat) (V w ds:List Int),V.length=w.length→os.length=ds.length→(∀ i,i ∉ os→V[i]?=w[i]?)→Vj V os ds=Vj w os ds
 | [],V,w,[],b,_,h=>List.ext_getElem? fun i=>h i (by simp)
 | o :: os,V,w,d :: ds,b,c,h=>by
  rw [Vj,Vj]
  refine Z08 os _ _ ds (by rw [nS,nS,b]) (by simpa using c) fun i f=>?_
  by_cases e:i=o
  ·subst e
   rw [jG,jG]
   rcases cQ i V.length with a | a
   ·rw [aN a,aN (by omega)];rfl
   ·rw [cJ a,cJ (by omega)]
  ·rw [fD (Ne.symm e),fD (Ne.symm e)]
   exact h i (by rw [aP,not_or];exact ⟨e,f⟩)
theorem Zqe {α β:Type} {f g:α→List β}:∀ {l:List α},(∀ x ∈ l,f x=g x)→l.flatMap f=l.flatMap g
 | [],_=>rfl
 | x :: l,h=>by rw [dG,dG,h x aC,Zqe fun y a=>h y (aB _ a)]
theorem Zzv {α:Type} (g:Nat→α) (P:Nat):∀ c j,(cH (j * P) (c * P)).map g=(cH j c).flatMap fun x=>(cH 0 P).map fun a=>g (x * P+a)
 | 0,j=>by rw [cT];rfl
 | c+1,j=>by
  have b:cH (j * P) ((c+1) * P)=cH (j * P) P++cH ((j+1) * P) (c * P):=by
   rw [aZ c,aX,aZ j,aX,eW (c * P) P,List.range'_append_1]
  have d:cH (j * P) P=(cH 0 P).map (j * P+·):=by rw [List.map_add_range',bQ]
  rw [b,eE,Zzv g P c (j+1),eM,dG,d,iJ];rfl
theorem Zji {n:Zp}:∀ (m k:Nat) (w:List Int),k+m=w.length→w.length=n.2.1.length→Zy n m k w=(cH 0 (Xw ((Ye (w.drop k) k).map (cnt n)))).map fun a=>Vj w (Ye (w.drop k) k) (Vq ((Ye (w.drop k) k).map (cnt n)) a)
 | 0,k,w,d,_=>by
  rw [cK (by omega),Ye,bN,Xw,Zy];rfl
 | m+1,k,w,d,c=>by
  have b:k<w.length:=by omega
  rw [aK b,Ye,Zy,Xi b]
  by_cases hc:0≤w[k]
  ·rw [if_pos hc,if_neg (by omega)]
   exact Zji m (k+1) w (by omega) c
  ·rw [if_neg hc,if_pos (by omega),aQ,Xw]
   have R:=Zzv (fun a=>Vj w (k :: Ye (w.drop (k+1)) (k+1)) (Vq (cnt n k :: (Ye (w.drop (k+1)) (k+1)).map (cnt n)) a)) (Xw ((Ye (w.drop (k+1)) (k+1)).map (cnt n))) (cnt n k) 0
   rw [cT] at R
   rw [R]
   refine Zqe fun y o=>?_
   have e:(w.set k (y:Int)).drop (k+1)=w.drop (k+1):=List.drop_set_of_lt (by omega)
   rw [Zji m (k+1) (w.set k (y:Int)) (by rw [nS];omega) (by rw [nS];exact c),e]
   refine eQ fun a f=>?_
   have l:=dU.1 f
   have g:0<Xw ((Ye (w.drop (k+1)) (k+1)).map (cnt n)):=by omega
   have i:(y * Xw ((Ye (w.drop (k+1)) (k+1)).map (cnt n))+a) / Xw ((Ye (w.drop (k+1)) (k+1)).map (cnt n))=y:=by
    rw [cB,Nat.mul_add_div g,Nat.div_eq_of_lt (by omega),bQ]
   have j:(y * Xw ((Ye (w.drop (k+1)) (k+1)).map (cnt n))+a) % Xw ((Ye (w.drop (k+1)) (k+1)).map (cnt n))=a:=by
    rw [cB,Nat.mul_add_mod,Nat.mod_eq_of_lt (by omega)]
   rw [Vq,Vj,i,j]
def Yx (n:Zp):List R2→Rat
 | []=>1
 | w :: r=>Zz n (Zy n n.2.1.length 0 w) * Yx n r
theorem Zqk {n:Zp} (he:Um n) {w:List Int} (hw:PV n w):∀ (m k c:Nat),k+m=n.2.1.length→1≤c→c * Xo n w m k≤65536→Za4 n (w.drop k) k (c:Int)=some ((c * Xo n w m k:Nat):Int)
 | 0,k,c,i,_,_=>by
  rw [cK (by rw [hw.len];omega),Za4.eq_1,Xo,eU]
 | m+1,k,c,i,f,a=>by
  have b:k<w.length:=by rw [hw.len];omega
  have j:=Zoa he w m (k+1) (by omega)
  have g:=Uo he (v:=k) (by omega)
  have l:k<n.2.2.1.length:=by rw [he.v];omega
  rw [aK b,Za4.eq_2,← Xi (d:=0) b,Xo]
  rw [Xo] at a
  by_cases h:0≤w.getD k 0
  ·rw [if_pos h,aX] at a ⊢
   rw [if_neg (dF (by omega)),Zg2]
   exact Zqk he hw m (k+1) c (by omega) f a
  ·rw [if_neg h,← cE] at a ⊢
   have o:c * cnt n k≤c * cnt n k * Xo n w m (k+1):=eC _ j
   have e:i64.wrap ((c:Int) * ((n.2.2.1.getD k []).length:Int))=((c * cnt n k:Nat):Int):=by
    rw [show ((n.2.2.1.getD k []).length:Int)=((cnt n k:Nat):Int) from rfl,← bU]
    exact Zv (by omega)
   rw [if_pos (dT (by omega)),Wf [] l,oB,e,if_neg (by omega),Zg2]
   exact Zqk he hw m (k+1) (c * cnt n k) (by omega) (iO f g) a
section
variable {N W:Nat} {n:Zp} (hf:Xu N n) (hN:2000000<N) {Q C S:Nat} (hC:W1 N n=some 0)
variable (hch:∀ w,Xn n w→Qi N n w=some (Zo (Uu n w n.2.1.length 0 1),0)) (hQ:∀ w,Xn n w→qs (Zx n w n.2.1.length 0)≤Q) (hC6:C≤65536) (hS:C * (Q+2048)≤S) (hr:Z9 N (26 * S+60))
include hf hN hC hch hQ hC6 hS hr
omit hC hC6 in
theorem Z61 {w:List Int} (hw:PV n w) (ho:Xo n w n.2.1.length 0≤C):Zjp N n w 0=some (Zo (Zz n (Zy n n.2.1.length 0 w)),w)∧qs (Zz n (Zy n n.2.1.length 0 w))≤S:=by
 have d:=hf.le
 have c:Xo n w n.2.1.length 0 * (Q+2 * n.2.1.length)≤S:=aU (iD ho (by omega)) hS
 obtain ⟨a,b⟩:=Zv9 hf hN hch hQ N n.2.1.length 0 w (by omega) (by omega) hw (fun i e=>by omega) (hr.mono (by omega))
 rw [Zen] at b
 exact ⟨by rw [Zjp];exact a,aU b c⟩
omit hC hC6 in
theorem Zv7:∀ (l:List R2) (q:Rat),(∀ w ∈ l,PV n w∧Xo n w n.2.1.length 0≤C)→qs q+l.length * S≤1+12 * S→Zev N n l (Zo q).1.1 (Zo q).1.2 (Zo q).2=some (Zo (q * Yx n l),0)∧qs (q * Yx n l)≤qs q+l.length * S
 | [],q,_,_=>by
  rw [Yx,bR,nN,cT]
  exact ⟨rfl,aY _⟩
 | w :: l,q,a,d=>by
  rw [nC,aZ,aX] at d
  obtain ⟨b,e⟩:=a w aC
  have p:w.length≤1024:=by rw [b.len];exact hf.le
  obtain ⟨f,g⟩:=Z61 hf hN hch hQ hS hr b e
  have r:=Zlg q (Zz n (Zy n n.2.1.length 0 w))
  have i:Qq w=some w:=Zjg (by omega)
  have j:Zjp N (n.1,n.2.1,n.2.2.1,n.2.2.2.1,n.2.2.2.2) w 0=_:=f
  have k:Qg N (((Zo q).1.1,(Zo q).1.2),(Zo q).2) (((Zo (Zz n (Zy n n.2.1.length 0 w))).1.1,(Zo (Zz n (Zy n n.2.1.length 0 w))).1.2),(Zo (Zz n (Zy n n.2.1.length 0 w))).2)=some (Zo (q * Zz n (Zy n n.2.1.length 0 w))):=by
   have:=Zmi (N:=N) (Zlo q) (Vo g) (hr.mono (by omega))
   rwa [Wt,Wt] at this
  obtain ⟨c,m⟩:=Zv7 l (q * Zz n (Zy n n.2.1.length 0 w)) (fun x o=>a x (aB _ o)) (by omega)
  rw [bH] at c m
  rw [Zev.eq_2,i,oB,j,oB,k,oB,Yx,nC,aZ,aX]
  exact ⟨c,by omega⟩
theorem Zjl {r:List R2} (hw:Ti n r=true) (ho:∀ w ∈ r,Xo n w n.2.1.length 0≤C) (hl:r.length≤12):Tv N n r=some (Zo (Yx n r),0)∧qs (Yx n r)≤1+12 * S:=by
 have d:=Zsk hw
 have f:W1 N (n.1,n.2.1,n.2.2.1,n.2.2.2.1,n.2.2.2.2)=some 0:=hC
 have m:Zc7 N (n.1,n.2.1,n.2.2.1,n.2.2.2.1,n.2.2.2.2) r=some 0:=by
  rw [Zc7,f,oB,if_neg (by decide)]
  have:=Zp8 (n:=n) hf.ev.v r
  rw [if_pos hw] at this
  exact this
 have one:Zbt N 1 1=some (Zo 1,0):=by
  have:=Zmj (N:=N) (a:=1) (b:=1) (by omega) (by omega) (hr.mono (by omega))
  rw [if_neg (by decide)] at this
  have e:(((1:Int):Rat) / ((1:Int):Rat))=1:=div_one _
  rw [this,e]
 have t:r.length * S≤12 * S:=bC _ hl
 obtain ⟨g,i⟩:=Zv7 hf hN hch hQ hS hr r 1 (fun w h=>⟨d w h,ho w h⟩) (by rw [Zck];omega)
 rw [cZ] at g i
 rw [Zck] at i
 have o:∀ (l:List R2) (a:Bool) (b c:List Int),(∀ w ∈ l,PV n w∧Xo n w n.2.1.length 0≤C)→Zc4 N n r l a b c=some (Zo (Yx n r),0):=fun l=>by
  induction l with
  | nil=>
   intro a b c _
   rw [Zc4.eq_1,one,oB]
   exact g
  | cons w l p=>
   intro a b c h
   obtain ⟨q,u⟩:=h w aC
   have j:=Zqk hf.ev q n.2.1.length 0 1 (by omega) (by omega) (by omega)
   rw [aT,aX] at j
   have k:Zms (n.1,n.2.1,n.2.2.1,n.2.2.2.1,n.2.2.2.2) w=some ((Xo n w n.2.1.length 0:Nat):Int):=j
   rw [Zc4.eq_2,k,oB,if_neg (dF (by omega))]
   exact p a b c fun x s=>h x (aB _ s)
 refine ⟨?_,by omega⟩
 rw [Tv,m,oB,if_neg (by decide)]
 exact o r _ _ _ fun w h=>⟨d w h,ho w h⟩
end
theorem Z2y (a:List Int→Nat) (g:List Int→Rat):∀ C:List R2,Y8 (C.map fun x=>(a x,x))=Wh (C.map fun x=>(a x,g x))
 | []=>rfl
 | x :: C=>by rw [aQ,Y8,aQ,Wh,Z2y a g C]
theorem Zpg {n:Zp} {D:Nat} {C:List R2} (hp:0<Zz n C) (hI:∀ x ∈ C,∃ z:Nat,(D:Rat) * Zx n x n.2.1.length 0 / Zz n C=(z:Rat)):∀ x ∈ C,(aW D n (Zz n C) x:Rat) * Zz n C=(D:Rat) * Zx n x n.2.1.length 0:=fun x c=>by
 have a:Zz n C≠0:=fun e=>by rw [e] at hp;exact absurd hp dO
 obtain ⟨z,b⟩:=hI x c
 have:aW D n (Zz n C) x=z:=by rw [aW,b];simp
 rw [this,← b,Sp a]
theorem Zo6 {n:Zp} {D:Nat} {C:List R2} (hp:0<Zz n C) (hI:∀ x ∈ C,∃ z:Nat,(D:Rat) * Zx n x n.2.1.length 0 / Zz n C=(z:Rat)):Y8 (Tk D n C)=D:=by
 have b:Zz n C≠0:=fun e=>by rw [e] at hp;exact absurd hp dO
 have a:=Zqa (aW D n (Zz n C)) (fun x=>Zx n x n.2.1.length 0) (fun _=>0) C (Zpg hp hI)
 have d:Xq (C.map fun x=>Zx n x n.2.1.length 0)=Zz n C:=rfl
 rw [d] at a
 have c:=congrArg (· * (Zz n C)⁻¹) a
 simp only [bH,cN _ b,bR] at c
 rw [Tk,Z2y _ fun x=>(fun _=>(0:Rat)) x / Zx n x n.2.1.length 0]
 exact eH.1 c
def Yc (D:Nat) (n:Zp) (r:List R2):List R8:=r.flatMap fun w=>Tk D n (Zy n n.2.1.length 0 w)
section
variable {N:Nat} {n:Zp} (hf:Xu N n) {D G:Nat} (hD:D≠0)
variable {Q P:Nat} (hr:Z9 N (4 * (G+Q+P)+60)) (hN:2000000<N) {B:Nat→Nat} (hB:Zan n B) (hQ:W5 B n.2.1.length 0+1≤Q)
include hf hD hr hN hB hQ
omit hf hD hr hN hB hQ in
theorem Zvd (p:QV) (E:List (List QV)) (kk:List Int→ByteArray→R3→Rf→R6→(List (List QV))→ByteArray→R3→Rf→R6→(List (List QV))→Bool→R2→R2→(List (List QV))→Option (List (List QV))) (y:Int×List Int):∀ (os:List Nat) (k:Nat) (V ds:List Int),y.2.drop k=ds→ds.length=os.length→(∀ o ∈ os,o<V.length)→
  Zdl N n.1 n.2.1 n.2.2.1 n.2.2.2.1 n.2.2.2.2 (Wl n).1 (Wl n).2.1 (Wl n).2.2.1 (Wl n).2.2.2.1 (Wl n).2.2.2.2 p.1.1 p.1.2 p.2 E kk y (os.map fun o:Nat=>(o:Int)) k V=
   (Zg9 N (Vj V os ds) n (Wl n) p E).bind fun r=>kk (Vj V os ds) n.1 n.2.1 n.2.2.1 n.2.2.2.1 n.2.2.2.2 (Wl n).1 (Wl n).2.1 (Wl n).2.2.1 (Wl n).2.2.2.1 (Wl n).2.2.2.2 p.1.1 p.1.2 p.2 r
 | [],k,V,ds,_,_,_=>by
  rw [bN,Zdl.eq_1,Vj]
 | o :: os,k,V,[],_,h,_=>by simp at h
 | o :: os,k,V,d :: ds,a,f,b=>by
  have c:k<y.2.length:=by
   rcases cQ k y.2.length with h | h
   ·exact h
   ·rw [aO h] at a;cases a
  rw [aK c] at a
  obtain ⟨g,i⟩:=List.cons.inj a
  have e:=b o aC
  rw [aQ,Zdl.eq_2,Z1 c,oB,Z1 e,oB,oB,aD,g,Vj]
  exact Zvd p E kk y os (k+1) (V.set o d) ds i (by simpa using f) fun q j=>by rw [nS];exact b q (aB _ j)
theorem Zvc {w:List Int} (hw:PV n w) {p:Rat} (hp:0<p) (hpP:qs p≤P) {M:Nat} (hM:(Zg M).length≤G) (hG2:(Zg D).length≤G)
  (hI:∀ x ∈ Zy n n.2.1.length 0 w,(aW D n p x:Rat) * p=(D:Rat) * Zx n x n.2.1.length 0):∀ (m k:Nat) (V:List Int) (E:List (List QV)) (L:List R8),k+m=Xw ((Ye w 0).map (cnt n))→V.length=w.length→(∀ i,i ∉ Ye w 0→V[i]?=w[i]?)→Uy n D G L E→
  Y8 L+Y8 (((cH k m).map fun a=>Vj w (Ye w 0) (Vq ((Ye w 0).map (cnt n)) a)).map fun x=>(aW D n p x,x))≤M→
  ∃ E',Za8 N ((Ye w 0).map fun o:Nat=>(o:Int)) (Zcz ((Ye w 0).map (cnt n)) k m) V n.1 n.2.1 n.2.2.1 n.2.2.2.1 n.2.2.2.2 (Wl n).1 (Wl n).2.1 (Wl n).2.2.1 (Wl n).2.2.2.1 (Wl n).2.2.2.2 (Zo p).1.1 (Zo p).1.2 (Zo p).2 E=some E'∧
   Uy n D G (L++((cH k m).map fun a=>Vj w (Ye w 0) (Vq ((Ye w 0).map (cnt n)) a)).map fun x=>(aW D n p x,x)) E'
 | 0,k,V,E,L,_,_,_,l,_=>by
  rw [Zcz,Za8.eq_1]
  refine ⟨E,rfl,?_⟩
  have:((cH k 0).map fun a=>Vj w (Ye w 0) (Vq ((Ye w 0).map (cnt n)) a)).map (fun x=>(aW D n p x,x))=[]:=rfl
  rw [this,dD];exact l
 | m+1,k,V,E,L,U,F,r,l,c=>by
  rw [eM,aQ,aQ,Y8] at c
  have s:=hw.len
  have t:Vj w (Ye w 0) (Vq ((Ye w 0).map (cnt n)) k) ∈ Zy n n.2.1.length 0 w:=by
   rw [Zji n.2.1.length 0 w (by omega) s,aT]
   exact bO.2 ⟨k,dU.2 (by omega),rfl⟩
  obtain ⟨x,b⟩:∃ x,x=Vj w (Ye w 0) (Vq ((Ye w 0).map (cnt n)) k):=⟨_,rfl⟩
  have d:=Zgl n.2.1.length 0 w hw (by omega) (fun i u=>by omega) _ t
  have f:=hI _ t
  have q:Vj V (Ye w 0) (Vq ((Ye w 0).map (cnt n)) k)=x:=by
   rw [b]
   exact Z08 _ _ _ _ F (by rw [Zp5,aI]) r
  rw [← b] at d f c
  have g:p≠0:=fun e=>by rw [e] at hp;exact absurd hp dO
  have v:=Zcj hD
  have j:Zx n x n.2.1.length 0 / p=(aW D n p x:Rat) / (D:Rat):=by
   have H:Zx n x n.2.1.length 0 * (D:Rat)=(aW D n p x:Rat) * p:=by rw [f,iN]
   have I:Zx n x n.2.1.length 0=(aW D n p x:Rat) * p / (D:Rat):=by
    rw [← H,bS,bH,cN _ v,bR]
   rw [I,bS,bS,bS,bH _ p,iN p,← bH,bH _ p,cN _ g,bR]
  have J:aW D n p x≤M:=by omega
  have y:qs (Zx n x n.2.1.length 0 / p)≤G:=by
   have e:(aW D n p x:Rat) / (D:Rat)=mkRat ((aW D n p x:Nat):Int) D:=by rw [dA];rfl
   rw [j,e]
   have:=Wx J
   exact Zd7 (by rw [eY];omega) hG2 (aU (Tt hD) hG2)
  obtain ⟨K,O,R⟩:=Xac hf hD l d hr hN hB hQ g hpP j y (aU (Wx (show Y8 L+aW D n p x≤M by omega)) hM) hG2
  obtain ⟨E',S,A⟩:=Zvc hw hp hpP hM hG2 hI m (k+1) x K (L++[(aW D n p x,x)]) (by omega) (by rw [b,Z09]) (fun i u=>by rw [b];exact Z1a _ _ _ i u) R (by rw [Zo5,Y8,Y8];omega)
  have C:=Zvd (N:=N) (n:=n) (Zo p) E (Za8 N ((Ye w 0).map fun o:Nat=>(o:Int)) (Zcz ((Ye w 0).map (cnt n)) (k+1) m)) ((k:Int),Vq ((Ye w 0).map (cnt n)) k) (Ye w 0) 0 V (Vq ((Ye w 0).map (cnt n)) k) (aT) (by rw [Zp5,aI]) fun o T=>by
   have:=Zn9 w 0 o T;omega
  rw [q,O,oB] at C
  refine ⟨E',?_,?_⟩
  ·rw [Zcz,Za8.eq_2]
   exact C.trans S
  ·rw [bG,dS] at A
   rw [eM,aQ,aQ,← b]
   exact A
theorem Z52 {w:List Int} (hw:PV n w) (ho:Xo n w n.2.1.length 0≤65536) (hp:0<Zz n (Zy n n.2.1.length 0 w)) (hpP:qs (Zz n (Zy n n.2.1.length 0 w))≤P) {M:Nat} (hM:(Zg M).length≤G) (hG2:(Zg D).length≤G)
  (hI:∀ x ∈ Zy n n.2.1.length 0 w,∃ z:Nat,(D:Rat) * Zx n x n.2.1.length 0 / Zz n (Zy n n.2.1.length 0 w)=(z:Rat)) {L:List R8} {E:List (List QV)} (hE:Uy n D G L E) (hM2:Y8 L+D≤M):
  ∃ E',Zha N n w n (Wl n) (Zo (Zz n (Zy n n.2.1.length 0 w))) E=some E'∧Uy n D G (L++Tk D n (Zy n n.2.1.length 0 w)) E':=by
 have d:=hw.len
 have H:=hf.le
 have g:Xw ((Ye w 0).map (cnt n))=Xo n w n.2.1.length 0:=by
  have c:=Zen n n.2.1.length 0 w
  rw [Zji n.2.1.length 0 w (by omega) d,aT,aI,List.length_range'] at c
  exact c
 have I:=Zye w 0
 have f:∀ s ∈ (Ye w 0).map (cnt n),0<s:=fun s r=>by
  obtain ⟨o,c,rfl⟩:=bO.1 r
  have:=Zn9 w 0 o c
  exact Uo hf.ev (by omega)
 have i:=Z9g (N:=N) f (by rw [aI];omega) (by omega) (by rw [g];exact ho)
 have t:Qq w=some w:=Zjg (by omega)
 have e:Zy n n.2.1.length 0 w=(cH 0 (Xw ((Ye w 0).map (cnt n)))).map fun a=>Vj w (Ye w 0) (Vq ((Ye w 0).map (cnt n)) a):=by
  have:=Zji n.2.1.length 0 w (by omega) d
  rwa [aT] at this
 have J:=Zo6 hp hI
 obtain ⟨E',u,j⟩:=Zvc hf hD hr hN hB hQ hw hp hpP hM hG2 (Zpg hp hI) (Xw ((Ye w 0).map (cnt n))) 0 w E L (by omega) rfl (fun _ _=>rfl) hE (by
  rw [← e]
  show Y8 L+Y8 (Tk D n (Zy n n.2.1.length 0 w))≤M
  omega)
 refine ⟨E',?_,?_⟩
 ·have y:∀ (m k:Nat) (b:List Nat),k+m=n.2.1.length→b.length≤k→Q7 N n w n (Wl n) (Zo (Zz n (Zy n n.2.1.length 0 w))) E (w.drop k) k (b.map fun o:Nat=>(o:Int)) (W2 (b.map (cnt n)))=
    Q7 N n w n (Wl n) (Zo (Zz n (Zy n n.2.1.length 0 w))) E [] n.2.1.length ((b++Ye (w.drop k) k).map fun o:Nat=>(o:Int)) (W2 ((b++Ye (w.drop k) k).map (cnt n))):=by
   intro m
   induction m with
   | zero=>
    intro k b A _
    rw [cK (by omega),Ye,dD,show k=n.2.1.length by omega]
   | succ m l=>
    intro k b A K
    have p:k<w.length:=by omega
    have C:k<n.2.2.1.length:=by rw [hf.ev.v];omega
    rw [aK p,Q7.eq_2,Ye]
    by_cases hc:w[k]<0
    ·have q:=l (k+1) (b++[k]) (by omega) (by rw [nA,aL];omega)
     have q1:((b++[k]).map fun o:Nat=>(o:Int))=(b.map fun o:Nat=>(o:Int))++[(k:Int)]:=by rw [eE,fN]
     have F:W2 ((b++[k]).map (cnt n))=W2 (b.map (cnt n))++[((n.2.2.1.getD k []).length:Int)]:=by rw [W2,W2,eE,fN,eE,fN];rfl
     rw [q1,F,bG,dS] at q
     rw [if_pos (dT hc),if_pos hc,Z6 (by simp only [aI,aL,maxLen];omega),Wf [] C,oB,Z6 (by simp only [W2,aI,aL,maxLen];omega),Zhb]
     exact q
    ·rw [if_neg (dF hc),if_neg hc,Zhb]
     exact l (k+1) b (by omega) (by omega)
  have c:=y n.2.1.length 0 [] (by omega) (bK _)
  rw [aT,aV] at c
  rw [Zha]
  refine c.trans ?_
  rw [Q7.eq_1,t,oB,i,oB]
  exact u
 ·rw [← e] at j
  exact j
end
theorem Zzc:∀ l:List QV,Yu l=Xq (l.map Zr)
 | []=>rfl
 | x :: l=>by rw [Zf2,aQ,Xq,Zzc l]
theorem Z1w (D:Rat):∀ c:List Int,(∀ x ∈ c,0≤x)→Xq (c.map fun x:Int=>(x:Rat) / D)=((Xa c:Nat):Rat) / D
 | [],_=>by rw [bN,Xq,Xa,bS];exact (dC _).symm
 | x :: c,h=>by
  have b:=h x aC
  obtain ⟨d,rfl⟩:∃ d:Nat,x=(d:Int):=⟨x.toNat,by omega⟩
  rw [aQ,Xq,Z1w D c fun y a=>h y (aB _ a),Xa,aD,hH,bS,bS,bS,gM];rfl
theorem Z5z {x S D:Rat} (hS:S≠0) (hD:D≠0):x / D / (S / D)=x / S:=by
 have a:S / D≠0:=fun e=>by
  have:=congrArg (· * D) e
  simp only [dC] at this
  rw [Sp hD] at this;exact hS this
 have c:x / D / (S / D) * (S / D) * D=x / S * (S / D) * D:=by
  rw [Sp a,Sp hD,bH,Sp hD,Sp hS]
 have b:=congrArg (· * D⁻¹ * (S / D)⁻¹) c
 simp only [bH,cN _ hD,bR,cN _ a] at b
 exact b
theorem Z1i {D:Nat} (hD:D≠0) {t q:List QV} {c:List Int} (h0:∀ x ∈ c,0≤x) (hq:q.map Zr=c.map fun x:Int=>(x:Rat) / (D:Rat)):U5 t q=U5 t (Yj 0 c):=by
 have e:Yu q=((Xa c:Nat):Rat) / (D:Rat):=by rw [Zzc,hq,Z1w _ c h0]
 have a:=Zcj hD
 rw [Zix h0,U5,e]
 by_cases h:Xa c=0
 ·rw [if_pos h,if_pos (by rw [h,bS];exact dC _)]
 ·have hS:=Zcj h
  have b:¬ ((Xa c:Nat):Rat) / (D:Rat)=0:=fun e=>by
   have:=congrArg (· * (D:Rat)) e
   simp only [dC] at this
   rw [Sp a] at this;exact hS this
  have d:(q.map fun x=>Zo (Zr x / (((Xa c:Nat):Rat) / (D:Rat))))=(q.map Zr).map fun y=>Zo (y / (((Xa c:Nat):Rat) / (D:Rat))):=by rw [iJ];rfl
  rw [if_neg h,if_neg b,d,hq,Sj,iJ]
  refine eQ fun x _=>?_
  show Zo ((x:Rat) / (D:Rat) / (((Xa c:Nat):Rat) / (D:Rat)))=Zo ((x:Rat) / (((Xa c:Nat):Int):Rat))
  rw [Z5z hS a];rfl
theorem Z1h {D k:Nat} (hD:D≠0):∀ (m:Nat) (t q:List QV) (c:List Int),(∀ x ∈ c,0≤x)→(q.map Zr=c.map fun x:Int=>(x:Rat) / (D:Rat))→Wb k m t q=Wb k m t (Yj 0 c)
 | 0,t,q,c,_,_=>rfl
 | m+1,t,q,c,b,d=>by
  have e:(q.take k).map Zr=(c.take k).map fun x:Int=>(x:Rat) / (D:Rat):=by rw [iE,iE,d]
  have f:(q.drop k).map Zr=(c.drop k).map fun x:Int=>(x:Rat) / (D:Rat):=by rw [iF,iF,d]
  rw [Wb,Wb,Zio,Zin,Z1i hD (fun x a=>b x (cR a)) e,Z1h hD m _ _ _ (fun x a=>b x (cM a)) f]
theorem Uy.map {n:Zp} {D G:Nat} {L:List R8} {E:List (List QV)} (h:Uy n D G L E) {v:Nat} (hv:v<n.2.1.length):(E.getD v []).map Zr=(Wj n v L).map fun x:Int=>(x:Rat) / (D:Rat):=by
 refine List.ext_getElem (by rw [aI,aI,h.sz v hv,Zgk]) fun i a b=>?_
 rw [aI] at a b
 have:=h.val v hv i (by rw [← h.sz v hv];exact a)
 rw [Xi a,Xi b] at this
 rw [cC,cC];exact this
theorem Uy.none {n:Zp} {D G:Nat} {E:List (List QV)} (hl:E.length=n.2.1.length) (hE:∀ v,v<n.2.1.length→E.getD v []=aM (n.2.2.2.2.getD v []).length ((false,([]:List Int)),([]:List Int))):Uy n D G [] E:=by
 have b:Zr ((false,([]:List Int)),([]:List Int))=0:=by rw [Zr];simp [Zt,Zc]
 refine ⟨hl,fun v a=>by rw [hE v a,bD],fun v a i c=>?_,fun v a y d=>?_⟩
 ·rw [hE v a,Xi (by rw [bD];exact c),jK,b,Wj,iV,Xi (by rw [bD];exact c),jK,bS]
  exact (dC _).symm
 ·rw [hE v a] at d
  rw [dV d]
  exact ⟨by simp [Zn],by simp [Zn],by simp,by simp⟩
section
variable {N:Nat} {n:Zp} (hf:Xu N n) {D G C:Nat} (hD:D≠0) (hC6:C≤65536) (hcn:∀ v,v<n.2.1.length→cnt n v≤C) (hN:2000000<N)
include hf hD hC6 hcn hN
theorem Z03 (hr:Z9 N (8 * ((G+2) * C+2)+64)) {L:List R8} {E:List (List QV)} (hE:Uy n D G L E):∀ (f v:Nat) (A:List (List QV)),v≤n.2.1.length→n.2.1.length<f+v→A=(Yo n L).take v→
  Ze2 N n E f (v:Int) n.1 n.2.1 n.2.2.1 n.2.2.2.1 (A++((n.2.2.2.2.map (eL Yp)).drop v))=some (Xp n (Yo n L),0)
 | 0,v,A,J,M,_=>by omega
 | f+1,v,A,J,M,e=>by
  have U:=hf.le
  have V:=hf.ev.v;have X:=hf.ev.t
  have Y:(Yo n L).length=n.2.1.length:=by rw [Yo,aI,bW]
  have a:A.length=v:=by rw [e,nK];omega
  rw [Ze2.eq_2]
  by_cases hv:v<n.2.1.length
  ·have c:v<n.2.2.1.length:=by omega
   have m:v<n.2.2.2.2.length:=by omega
   obtain ⟨o,c2,O⟩:=hf.rows hv
   have p:=Uo hf.ev hv
   have Z:=hcn v hv
   have a0:(A++(n.2.2.2.2.map (eL Yp)).drop v).length=n.2.1.length:=by
    rw [nA,bI,aI];omega
   have g:(A++(n.2.2.2.2.map (eL Yp)).drop v)[v]'(by omega)=(n.2.2.2.2.getD v []).map Yp:=by
    rw [List.getElem_append_right (by omega)]
    simp only [a,fO,List.getElem_drop,bQ,cC,Xi m]
   have d:=hE.sz v hv
   have s:∀ k:Nat,k≤C→(G+2) * k≤(G+2) * C:=fun k P=>aR _ P
   have u:G≤(G+2) * C+2:=by
    have:=eC (G+2) (show 0<C by omega)
    omega
   have y:=Zxa (N:=N) (B:=(G+2) * C+2) hr (k:=cnt n v) (q:=E.getD v []) p (fun x i=>(hE.rv v hv x i).mono u) (by rw [d];omega) (R:=Wu n v) (t:=(n.2.2.2.2.getD v []).map Yp) (by rw [aI];exact o.symm) (by rw [d];exact o.symm) (fun j=>by
    have h5:=Zoj (b:=G) (((E.getD v []).drop (j * cnt n v)).take (cnt n v)) fun x i=>hE.rv v hv x (cM (cR i))
    have T:(((E.getD v []).drop (j * cnt n v)).take (cnt n v)).length≤C:=by rw [nK];omega
    have h7:=s _ T
    omega) (by omega) (by have:Wu n v≤65536:=O;omega)
   have F:(n.2.2.1[v].length:Int)=(cnt n v:Int):=by rw [cnt,Xi c]
   have H:=Z1h (k:=cnt n v) hD (Wu n v) ((n.2.2.2.2.getD v []).map Yp) (E.getD v []) (Wj n v L) (Zjh n v L) (hE.map hv)
   rw [H] at y
   have l:(A++(n.2.2.2.2.map (eL Yp)).drop v).set v (Wb (cnt n v) (Wu n v) ((n.2.2.2.2.getD v []).map Yp) (Yj 0 (Wj n v L)))=(A++[Wb (cnt n v) (Wu n v) ((n.2.2.2.2.getD v []).map Yp) (Yj 0 (Wj n v L))])++(n.2.2.2.2.map (eL Yp)).drop (v+1):=by
    rw [List.set_append_right _ _ (by omega),a,fO,aK (by rw [aI];omega),fQ,bG,dS]
   have I:(Yo n L).take (v+1)=A++[Wb (cnt n v) (Wu n v) ((n.2.2.2.2.getD v []).map Yp) (Yj 0 (Wj n v L))]:=by
    rw [List.take_add_one,aN (by omega),Option.toList_some,← e,← Zsq hv,Xi (by omega)]
   rw [if_pos (dT (by omega)),Z1 (by omega),g,oB,Wf [] (by rw [hE.len];exact hv),oB,Z1 c,oB,F,y,oB,wS (by omega),aD,l]
   exact Z03 hr hE f (v+1) _ (by omega) (by omega) I.symm
  ·rw [if_neg (dF (by omega)),cK (by rw [aI];omega),dD,e,List.take_of_length_le (by omega)];rfl
omit hD hC6 hcn hN in
theorem Z02 (r:List R2) (cp:Zp):∀ (m v f:Nat) (E:List (List QV)),v+m=n.2.1.length→m<f→E.length=n.2.1.length→(∀ i,i<v→E.getD i []=aM (n.2.2.2.2.getD i []).length ((false,([]:List Int)),([]:List Int)))→
  ∃ E',Zdi N n r cp f E (v:Int)=Zbx N n cp r E'∧E'.length=n.2.1.length∧∀ i,i<n.2.1.length→E'.getD i []=aM (n.2.2.2.2.getD i []).length ((false,([]:List Int)),([]:List Int))
 | m,v,0,E,_,h,_,_=>by omega
 | 0,v,f+1,E,e,_,hl,c=>by
  rw [Zdi.eq_2,if_neg (dF (by omega))]
  exact ⟨E,rfl,hl,fun i g=>c i (by omega)⟩
 | m+1,v,f+1,E,e,o,hl,c=>by
  have p:=hf.le
  have a:v<n.2.1.length:=by omega
  have d:v<n.2.2.2.2.length:=by rw [hf.ev.t];exact a
  obtain ⟨q,s,u⟩:=hf.rows a
  have b:v<E.length:=by omega
  obtain ⟨E',j,k,l⟩:=Z02 r cp m (v+1) f (E.set v (aM (n.2.2.2.2.getD v []).length ((false,([]:List Int)),([]:List Int)))) (by omega) (by omega) (by rw [nS];exact hl) fun i g=>by
   rw [V2 E [] v i _ b]
   split
   ·rename_i h;rw [h]
   ·exact c i (by omega)
  refine ⟨E',?_,k,l⟩
  rw [Zdi.eq_2,if_pos (dT (by omega)),Wf [] d,oB,Z6 (by simp only [maxLen];omega),Z1 b,oB,oB,aD,wS (by omega)]
  exact j
end
section
variable {N W K:Nat} {n:Zp} (hf:Xu N n) (hs:Ve n W) (hr:Z9 N (8 * K+40)) (hWK:1025 * (W+2)+4≤K) (hN:2000000<N) (hC:W1 N n=some 0)
variable {Q C S:Nat} {B:Nat→Nat} (hch:∀ w,Xn n w→Qi N n w=some (Zo (Uu n w n.2.1.length 0 1),0)) (hB:Zan n B) (hQ:W5 B n.2.1.length 0+1≤Q) (hC6:C≤65536) (hS:C * (Q+2048)≤S) (hrS:Z9 N (26 * S+60)) (hcn:∀ v,v<n.2.1.length→cnt n v≤C)
variable {r:List R2} (hw:Ti n r=true) (ho:∀ w ∈ r,Xo n w n.2.1.length 0≤C) (hl:r.length≤12)
variable {G:Nat} (hrG:Z9 N (4 * (G+Q+(1+12 * S))+60)) (hrC:Z9 N (8 * ((G+2) * C+2)+64))
include hf hs hr hWK hN hC hch hB hQ hC6 hS hrS hcn hw ho hl hrG hrC
omit hs hr hWK hC hch hS hrS hw ho hl hrG hrC hcn hC6 hN in
theorem Zoi:∀ w,Xn n w→qs (Zx n w n.2.1.length 0)≤Q:=fun w hw=>by
 have:=Zru hf hB hw n.2.1.length 0 1 (by omega)
 rw [Zoh,cZ,Zck] at this
 omega
theorem Xag (hpos:∀ w ∈ r,0<Zz n (Zy n n.2.1.length 0 w)) (hne:Yx n r≠0) {D:Nat} (hD:D≠0) (hM:(Zg (12 * D)).length≤G)
  (hI:∀ w ∈ r,∀ x ∈ Zy n n.2.1.length 0 w,∃ z:Nat,(D:Rat) * Zx n x n.2.1.length 0 / Zz n (Zy n n.2.1.length 0 w)=(z:Rat)):
  Qh N n r=some (Xp n (Yo n (Yc D n r)),0):=by
 have a2:=hf.le
 have H:=Zsk hw
 have d:=Zoi hf hB hQ
 have k:W1 N (n.1,n.2.1,n.2.2.1,n.2.2.2.1,n.2.2.2.2)=some 0:=hC
 have I:Q8 N (n.1,n.2.1,n.2.2.1,n.2.2.2.1,n.2.2.2.2) r=some 0:=by
  rw [Q8,k,oB,if_neg (by decide)]
  have:=Zmr (n:=n) hf.ev.v r
  rw [if_pos hw] at this
  exact this
 obtain ⟨J,O⟩:=Zjl hf hN hC hch d hC6 hS hrS hw ho hl
 have m:Tv N (n.1,n.2.1,n.2.2.1,n.2.2.2.1,n.2.2.2.2) r=some (Zo (Yx n r),0):=J
 have P:Ta N (((Zo (Yx n r)).1.1,(Zo (Yx n r)).1.2),(Zo (Yx n r)).2)=some (S1 (Yx n r)):=by
  have:=Zer (N:=N) (Vo O) (hrS.mono (by omega))
  rwa [Wt] at this
 have R:Zdj N (n.1,n.2.1,n.2.2.1,n.2.2.2.1,n.2.2.2.2)=some (Wl n):=Zws hf hs hr hWK hN
 obtain ⟨E0,T,U,V⟩:=Z02 hf r (Wl n) n.2.1.length 0 N (aM n.2.1.length []) (by omega) (by omega) (bD ..) fun i hi=>by omega
 have o:Uy n D G [] E0:=Uy.none U V
 have X:∀ (l:List R2) (E:List (List QV)) (L:List R8),(∀ w ∈ l,w ∈ r)→Uy n D G L E→Y8 L+l.length * D≤12 * D→
   Zbx N n (Wl n) l E=some (Xp n (Yo n (L++Yc D n l)),0):=by
  intro l
  induction l with
  | nil=>
   intro E L _ j _
   rw [Zbx.eq_1,Yc,iK,dD]
   have:=Z03 hf hD hC6 hcn hN hrC j N 0 [] (bK _) (by omega) (by rw [eX])
   rw [aV,aT] at this
   exact this
  | cons w l Y=>
   intro E L b j p
   rw [nC,aZ,aX] at p
   have a:=b w aC
   have q:=H w a
   have s:=hpos w a
   have f:=ho w a
   have t:Ti n [w]=true:=by
    have:=cV.1 hw w a
    rw [Ti,List.all_cons,List.all_nil,this];rfl
   obtain ⟨u,y⟩:=Zjl hf hN hC hch d hC6 hS hrS t (fun x c=>by rw [bT] at c;rw [c];exact f) (by rw [aL];omega)
   have Z:Yx n [w]=Zz n (Zy n n.2.1.length 0 w):=by rw [Yx,Yx,bR]
   rw [Z] at u y
   have A:Tv N (n.1,n.2.1,n.2.2.1,n.2.2.2.1,n.2.2.2.2) [w]=_:=u
   obtain ⟨E',f1,f2⟩:=Z52 hf hD hrG hN hB hQ q (aU f hC6) s y (M:=12 * D) hM (aU (Wx (by omega)) hM) (hI w a) j (by omega)
   have F:Zha N (n.1,n.2.1,n.2.2.1,n.2.2.2.1,n.2.2.2.2) w (n.1,n.2.1,n.2.2.1,n.2.2.2.1,n.2.2.2.2) ((Wl n).1,(Wl n).2.1,(Wl n).2.2.1,(Wl n).2.2.2.1,(Wl n).2.2.2.2) (((Zo (Zz n (Zy n n.2.1.length 0 w))).1.1,(Zo (Zz n (Zy n n.2.1.length 0 w))).1.2),(Zo (Zz n (Zy n n.2.1.length 0 w))).2) E=some E':=f1
   have g:=Y E' (L++Tk D n (Zy n n.2.1.length 0 w)) (fun x c=>b x (aB _ c)) f2 (by rw [Zo5,Zo6 s (hI w a)];omega)
   rw [bG] at g
   rw [Zbx.eq_2,A,oB]
   dsimp only
   rw [F,oB,Yc,dG]
   exact g
 have fin:=X r E0 [] (fun w h=>h) o (by rw [Y8,cW];exact bC _ hl)
 rw [aV] at fin
 rw [Qh,I,oB,if_neg (by decide),m,oB]
 dsimp only
 rw [if_neg (by rw [decide_eq_true rfl];decide),P,oB,if_neg (by rw [decide_eq_false fun e=>hne (Zf1.1 e)];decide),R,oB,Z6 (by simp only [maxLen];omega)]
 exact T.trans fin
omit hs hr hWK hcn hrG hrC in
theorem Xaj (hne:Yx n r=0):∃ m,Qh N n r=some (m,52):=by
 have a:=Zoi hf hB hQ
 have b:W1 N (n.1,n.2.1,n.2.2.1,n.2.2.2.1,n.2.2.2.2)=some 0:=hC
 have d:Q8 N (n.1,n.2.1,n.2.2.1,n.2.2.2.1,n.2.2.2.2) r=some 0:=by
  rw [Q8,b,oB,if_neg (by decide)]
  have:=Zmr (n:=n) hf.ev.v r
  rw [if_pos hw] at this
  exact this
 obtain ⟨e,f⟩:=Zjl hf hN hC hch a hC6 hS hrS hw ho hl
 have c:Tv N (n.1,n.2.1,n.2.2.1,n.2.2.2.1,n.2.2.2.2) r=some (Zo (Yx n r),0):=e
 have g:Ta N (((Zo (Yx n r)).1.1,(Zo (Yx n r)).1.2),(Zo (Yx n r)).2)=some (S1 (Yx n r)):=by
  have:=Zer (N:=N) (Vo f) (hrS.mono (by omega))
  rwa [Wt] at this
 rw [Qh,d,oB,if_neg (by decide),c,oB]
 dsimp only
 rw [if_neg (by rw [decide_eq_true rfl];decide),g,oB,if_pos (dT (Zf1.2 hne))]
 exact ⟨_,rfl⟩
end
/-! the probability of an assignment -/
section
variable {N:Nat} {n:Zp} (hf:Xu N n) {G Q:Nat} {B:Nat→Nat} (hE:∀ v,v<n.2.1.length→∀ y ∈ n.2.2.2.2.getD v [],RV G y) (hB:Zan n B) (hr:Z9 N (4 * (Q+G)+40))
include hf hE hB hr
theorem Zuj {w:List Int} (hw:Xn n w):∀ (l:List (List QV)) (k:Nat) (q:Rat),n.2.2.2.2.drop k=l→k≤n.2.1.length→qs q+W5 B l.length k≤Q→Qk N n w l k (Zo q).1.1 (Zo q).1.2 (Zo q).2=some (Zo (Uu n w l.length k q),0)
 | [],k,q,_,_,_=>rfl
 | t :: l,k,q,c,R,u=>by
  have S:=hf.ev.t
  have L:=hf.le
  have f:k<n.2.2.2.2.length:=by
   rcases cQ k n.2.2.2.2.length with h | h
   ·exact h
   ·rw [aO h] at c;cases c
  have a:k<n.2.1.length:=by omega
  rw [aK f] at c
  obtain ⟨A,C⟩:=List.cons.inj c
  have j:n.2.2.2.2.getD k []=t:=by rw [Xi f];exact A
  have e:=hf.rows a
  have D:=hf.row hw a
  have M:=hw.ok k (by rw [hw.len];exact a)
  have o:=Zpz hf hw a (Zo q).1.1 (Zo q).1.2 (Zo q).2 (Qk N n w l) t (n.2.2.2.1.getD k []) 0 1 (hf.pars a) (by omega) (by omega) e.2.2
  rw [show ((0:Nat):Int)=0 from rfl] at o
  have g:(w.getD k 0).toNat<(Ux n w k).length:=by rw [hf.rowT_len hw a];omega
  have E:i64.wrap ((Wz n w k:Int) * ((n.2.2.1.getD k []).length:Int))=((Wz n w k * cnt n k:Nat):Int):=by
   rw [show ((n.2.2.1.getD k []).length:Int)=((cnt n k:Nat):Int) from rfl,← bU]
   exact Zv (by omega)
  have F:i64.wrap (((Wz n w k * cnt n k:Nat):Int)+w.getD k 0)=((Wz n w k * cnt n k+(w.getD k 0).toNat:Nat):Int):=by
   rw [eB,show (((w.getD k 0).toNat:Nat):Int)=w.getD k 0 by omega]
   exact Zv (by omega)
  have r:Zm t ((Wz n w k * cnt n k+(w.getD k 0).toNat:Nat):Int)=some (Ux n w k)[(w.getD k 0).toNat]:=by
   rw [← j];exact Z0n g
  obtain ⟨y,i⟩:∃ y,y=(Ux n w k)[(w.getD k 0).toNat]:=⟨_,rfl⟩
  have b:=hE k a y (Zk9 (i ▸ aG g))
  have T:=b.lm
  have U:=b.ld
  have H:ent n w k=Zr y:=by rw [ent,Xi g,i]
  have s:RV (G+1) (Wm y):=by
   rw [Wm];split
   ·exact ⟨b.m,by simp [Zn],by simp only;omega,by simp⟩
   ·exact ⟨b.m,b.d,by omega,by omega⟩
  have I:Zb2 N ((y.1.1,y.1.2),y.2)=some (Wm y):=Zqd (x:=y) (k:=G) ⟨b.m,b.d⟩ (by omega) (hr.mono (by omega))
  have O:=Zqb hf hB hw a
  rw [nC,W5] at u
  have J:Qg N (((Zo q).1.1,(Zo q).1.2),(Zo q).2) (((Wm y).1.1,(Wm y).1.2),(Wm y).2)=some (Zo (q * ent n w k)):=by
   have:=Zmi (Zlo q) s (hr.mono (by omega))
   rwa [Wt,Zmg,← H] at this
  have P:=Zlg q (ent n w k)
  have K:=Zuj hw l (k+1) (q * ent n w k) C (by omega) (by omega)
  rw [Qk.eq_2,Wf [] (by rw [hf.ev.p];exact a),oB,o,← Wz,Zbc.eq_1,Wf [] (by rw [hf.ev.v];exact a),oB,Wf 0 (by rw [hw.len];exact a),oB,E,F,r,← i,oB,I,oB,J,oB,nC,Uu]
  exact K
theorem Z8m (hQ:W5 B n.2.1.length 0+1≤Q) (hC:W1 N n=some 0):∀ w,Xn n w→Qi N n w=some (Zo (Uu n w n.2.1.length 0 1),0):=fun w b=>by
 have d:W1 N (n.1,n.2.1,n.2.2.1,n.2.2.2.1,n.2.2.2.2)=some 0:=hC
 have f:=hf.le
 have c:=b.len
 have a:=Zwb b
 rw [Bool.and_eq_true] at a
 have e:=Zuj hf hE hB hr b n.2.2.2.2 0 1 rfl (bK _) (by rw [Zck,hf.ev.t];omega)
 rw [Qi,d,oB,if_neg (by decide),if_neg (show ¬ (!decide ((w.length:Int)=(n.2.1.length:Int)))=true by rw [decide_eq_true (by omega)];decide),Zpy hf.ev (by omega) w c w 0 false [] [] rfl (bK _),if_pos a.2,Qj.eq_1,Zn0 (hr.mono (by omega)),oB,e,hf.ev.t]
end
/-! products over some variables -/
def Uh (f:Nat→Nat):List Nat→Nat
 | []=>1
 | x :: l=>f x * Uh f l
theorem Z8r (f:Nat→Nat) {l r:List Nat} (h:l.Perm r):Uh f l=Uh f r:=by
 induction h with
 | nil=>rfl
 | cons x _ c=>rw [Uh,Uh,c]
 | swap x y l=>simp only [Uh];grind
 | trans _ _ a b=>exact a.trans b
theorem Zyw {f:Nat→Nat}:∀ l:List Nat,(∀ x ∈ l,1≤f x)→1≤Uh f l
 | [],_=>aY _
 | x :: l,h=>iO (h x aC) (Zyw l fun y a=>h y (aB _ a))
theorem Zrx {f:Nat→Nat}:∀ (l s:List Nat),l.Nodup→(∀ x ∈ l,x ∈ s)→(∀ x ∈ s,1≤f x)→Uh f l≤Uh f s
 | [],s,_,_,b=>Zyw s b
 | x :: l,s,c,hs,b=>by
  obtain ⟨d,g⟩:=cP.1 c
  have i:=hs x aC
  rw [Z8r f (List.perm_cons_erase i),Uh,Uh]
  refine aR _ (Zrx l (s.erase x) g (fun y a=>?_) fun y a=>b y (List.mem_of_mem_erase a))
  exact (List.mem_erase_of_ne (fun e:y=x=>d (e ▸ a))).2 (hs y (aB _ a))
theorem Zrv (n:Zp) (hv:n.2.2.1.length=n.2.1.length):∀ m k,k+m=n.2.1.length→Xw ((W6 n).drop k)=Uh (cnt n) (cH k m)
 | 0,k,h=>by rw [cK (by rw [W6,aI,hv];omega)];rfl
 | m+1,k,h=>by
  have a:k<(W6 n).length:=by rw [W6,aI,hv];omega
  have e:(W6 n)[k]=cnt n k:=by
   have:k<n.2.2.1.length:=by rw [hv];omega
   simp only [W6,cC,cnt,Xi this]
  rw [aK a,Xw,e,Zrv n hv m (k+1) (by omega),eM,Uh]
theorem Z0q {n:Zp} (he:Um n):∀ (ps:List Int) (k:Nat),(∀ p ∈ ps,0≤p∧p<(n.2.1.length:Int))→k≤65536→Yn n.2.2.1 ps k≤65536→Yn n.2.2.1 ps k=k * Uh (cnt n) (ps.map aA)
 | [],k,_,_,_=>by rw [Yn,bN,Uh,eU]
 | p :: ps,k,b,g,a=>by
  have f:=b p aC
  have i:=Uo he (v:=p.toNat) (by omega)
  rw [Yn] at a ⊢
  have c:=Zf3 he ps (min (k * (n.2.2.1.getD p.toNat []).length) 1099511627776) (fun q d=>b q (aB _ d)) (Nat.min_le_right _ _)
  have e:k * (n.2.2.1.getD p.toNat []).length≤1099511627776:=by
   rcases Nat.le_total (k * (n.2.2.1.getD p.toNat []).length) 1099511627776 with h | h
   ·exact h
   ·rw [Nat.min_eq_right h] at c a;omega
  rw [Nat.min_eq_left e] at c a ⊢
  rw [Z0q he ps _ (fun q d=>b q (aB _ d)) (aU c a) a,aQ,Uh,cE];rfl
section
variable {N:Nat} {n:Zp} (hf:Xu N n) (hs:Zi5 n.2.2.2.1) (hN:2000000<N)
include hf hs hN
theorem Z6m {v:Nat} (hv:v<n.2.1.length):(v :: (n.2.2.2.1.getD v []).map aA).Nodup:=by
 obtain ⟨l,O,A,P,s,C⟩:=hf.or
 have i:v<n.2.2.2.1.length:=by rw [hf.ev.p];exact hv
 have j:=hf.pars hv
 have D:(n.2.2.2.1.getD v []).Nodup:=by
  have c:=hf.tw
  rw [Tj,List.any_eq_false] at c
  have:=c _ (aG i)
  rw [Xi i]
  simpa using this
 have t:∀ {d:List Int},(∀ p ∈ d,0≤p∧p<(n.2.1.length:Int))→d.Nodup→(d.map aA).Nodup:=by
  intro d
  induction d with
  | nil=>intro _ _;exact List.nodup_nil
  | cons p d E=>
   intro c f
   obtain ⟨F,H⟩:=cP.1 f
   rw [aQ]
   refine cP.2 ⟨fun o=>?_,E (fun q g=>c q (aB _ g)) H⟩
   obtain ⟨q,g,e⟩:=bO.1 o
   have a:=c p aC
   have b:=c q (aB _ g)
   exact F (by rw [show p=q by omega];exact g)
 refine cP.2 ⟨fun o=>?_,t j D⟩
 obtain ⟨p,u,e⟩:=bO.1 o
 have K:=j p u
 have w:p=(v:Int):=by omega
 have L:=hf.le
 have M:=hf.ev.p
 have k:=Z8e (N:=N) (l:=l) (by omega) (fun x I=>by have:=hs.ls x I;omega) (by omega) A s
 have r:=Z8d s C hf.ev.p v hv
 obtain ⟨a,b,m⟩:=List.append_of_mem r
 have c:=k.up a (v:Int) b m p (by rw [aD];exact u)
 have f:=k.nd
 rw [m] at f
 have J:=(List.nodup_append.1 f).2.2 (v:Int) (w ▸ c) (v:Int) aC
 exact J rfl
theorem Xaw {v:Nat} (hv:v<n.2.1.length):(n.2.2.2.2.getD v []).length≤Xw (W6 n):=by
 obtain ⟨d,j,e⟩:=hf.rows hv
 have g:=Z0q hf.ev (n.2.2.2.1.getD v []) 1 (hf.pars hv) (by omega) e
 have b:=Zrv n hf.ev.v n.2.1.length 0 (by omega)
 rw [aT] at b
 have c:=Zrx (f:=cnt n) (v :: (n.2.2.2.1.getD v []).map aA) (cH 0 n.2.1.length) (Z6m hf hs hN hv) (fun x a=>by
  rw [dU]
  rcases aP.1 a with rfl | a
  ·omega
  ·obtain ⟨p,i,rfl⟩:=bO.1 a
   have:=hf.pars hv p i
   omega) fun x a=>Uo hf.ev (by have:=dU.1 a;omega)
 rw [Uh] at c
 rw [← d,g,aX,b,cB]
 exact c
end
theorem Z1s {n:Zp} (he:Um n) (G:Nat):∀ m k,k+m=n.2.1.length→∃ j,W5 (fun v=>if cnt n v=1 then 1 else G) m k≤m+j * G∧2 ^ j≤Xw ((W6 n).drop k)
 | 0,k,h=>⟨0,by rw [W5];omega,by rw [cK (by rw [W6,aI,he.v];omega),Xw];decide⟩
 | m+1,k,h=>by
  obtain ⟨j,c,a⟩:=Z1s he G m (k+1) (by omega)
  have b:k<(W6 n).length:=by rw [W6,aI,he.v];omega
  have d:=Uo he (v:=k) (by omega)
  have e:(W6 n)[k]=cnt n k:=by
   have:k<n.2.2.1.length:=by rw [he.v];omega
   simp only [W6,cC,cnt,Xi this]
  rw [aK b,Xw,e,W5]
  by_cases h3:cnt n k=1
  ·exact ⟨j,by simp only [if_pos h3];omega,by rw [h3,aX];exact a⟩
  ·refine ⟨j+1,by simp only [if_neg h3];rw [aZ,aX];omega,?_⟩
   rw [Nat.pow_succ,cB]
   exact iD (by omega) a
theorem Z5q {n:Zp} (he:Um n) {v:Nat} (hv:v<n.2.1.length):cnt n v≤Xw (W6 n):=by
 have b:=Zrv n he.v n.2.1.length 0 (by omega)
 rw [aT] at b
 have c:=Zrx (f:=cnt n) [v] (cH 0 n.2.1.length) (by simp) (fun x a=>by rw [bT] at a;rw [a,dU];omega) fun x a=>Uo he (by have:=dU.1 a;omega)
 rw [Uh,Uh,eU] at c
 omega
/-! it may be -/
theorem Z1v:∀ (q:List Int) (x:Nat) (c:Int) (a:Nat),q[x]?=some c→0≤c→Xa (q.set x (c+(a:Int)))=Xa q+a
 | [],x,c,a,h,_=>by simp at h
 | y :: q,0,c,a,h,b=>by
  simp only [jF,Option.some.injEq] at h
  subst h
  rw [fQ,Xa,Xa];omega
 | y :: q,x+1,c,a,h,b=>by
  rw [kE,Xa,Xa,Z1v q x c a (by simpa using h) b,dW]
theorem Xat (m:Nat):Xa (aM m 0)=0:=Xas m
theorem Zv1 (n:Zp) (v:Nat):∀ (L:List R8) (c:List Int),(∀ x ∈ c,0≤x)→Xa (L.foldl (Ui n v) c)≤Xa c+Y8 L
 | [],c,_=>by rw [iV,Y8];omega
 | p :: L,c,h=>by
  have b:∀ x ∈ Ui n v c p,0≤x:=fun x d=>Zqg n v [p] c h x d
  have e:=Zv1 n v L (Ui n v c p) b
  have:Xa (Ui n v c p)≤Xa c+p.1:=by
   rw [Ui]
   rcases cQ (Xt n v p.2) c.length with a | a
   ·rw [Xi a,Z1v c _ _ p.1 (aN a) (h _ (aG a))];exact aY _
   ·rw [jD a];omega
  rw [eR,Y8];omega
theorem Z5p (n:Zp) (v:Nat) (L:List R8):Xa (Wj n v L)≤Y8 L:=by
 have:=Zv1 n v L (aM (n.2.2.2.2.getD v []).length 0) fun x a=>by rw [dV a];exact gI _
 rw [Xat,cW] at this
 exact this
theorem Xau (k:Nat) (l:List Int):Xa (l.take k)≤Xa l:=by
 have:=Zss (l.take k) (l.drop k)
 rw [dM] at this;omega
theorem Xaq (k:Nat) (l:List Int):Xa (l.drop k)≤Xa l:=by
 have:=Zss (l.take k) (l.drop k)
 rw [dM] at this;omega
theorem Z9u {b:Nat} {l:List Int} (hl:∀ x ∈ l,0≤x) (h1:Xa l≠0) (h2:(Zg (Xa l)).length≤b):(∀ x ∈ Sj ((Xa l:Nat):Int) l,0≤Zr x∧Zr x≤1∧RV b x)∧Yu (Sj ((Xa l:Nat):Int) l)=1:=by
 constructor
 ·intro x f
  obtain ⟨w,a,rfl⟩:=bO.1 f
  have g:=hl w a
  have c:=Zst a
  obtain ⟨d,rfl⟩:∃ d:Nat,w=(d:Int):=⟨w.toNat,by omega⟩
  rw [aD] at c
  have e:(((d:Int):Rat) / (((Xa l:Nat):Int):Rat))=mkRat (d:Int) (Xa l):=(dA _ _).symm
  rw [e,Wt]
  have i:=Wx c
  refine ⟨?_,?_,Vo (Zd7 (by rw [eY];omega) h2 (aU (Tt h1) h2))⟩
  ·rw [← Rat.not_lt,show (0:Rat)=mkRat 0 1 from rfl,Zci h1 (by decide)];omega
  ·rw [← Rat.not_lt,show (1:Rat)=mkRat 1 1 from rfl,Zci (by decide) h1];omega
 ·rw [Zsj _ l hl,bS]
  exact cN _ (Zcj h1)
theorem Z1m {b k:Nat}:∀ (m:Nat) (t:List QV) (c:List Int),t.length=m * k→c.length=m * k→(∀ x ∈ c,0≤x)→(Zg (Xa c)).length≤b→(∀ x ∈ t,0≤Zr x∧Zr x≤1∧RV b (Yp x))→(∀ j,j<m→Yu ((t.drop (j * k)).take k)=1)→S8 b k m (Wb k m (t.map Yp) (Yj 0 c))
 | 0,t,c,d,_,_,_,_,_=>by
  rw [cT] at d
  rw [Wb,List.length_eq_zero_iff.1 d]
  exact ⟨by rw [cT];rfl,fun x a=>(by cases a),fun j p=>(by omega)⟩
 | m+1,t,c,d,q,f,w,g,hs=>by
  rw [aZ,aX] at d q
  have i:(c.take k).length=k:=by rw [nK];omega
  have e:∀ x ∈ c.take k,0≤x:=fun x a=>f x (cR a)
  have l:=hs 0 (by omega)
  rw [cT,aT] at l
  have A:=Wx (Xau k c)
  have B:=Wx (Xaq k c)
  have o:=Z1m (b:=b) (k:=k) m (t.drop k) (c.drop k) (by rw [bI];omega) (by rw [bI];omega) (fun x a=>f x (cM a)) (by omega) (fun x a=>g x (cM a)) fun j p=>by
   have:=hs (j+1) (by omega)
   rw [show (j+1) * k=k+j * k by rw [aZ,aX,eW],← List.drop_drop] at this
   exact this
  rw [Wb,Zio,Zin,Zix e,← iE,← iF]
  by_cases h:Xa (c.take k)=0
  ·rw [if_pos h]
   refine S8.cons (fun x a=>?_) (by rw [Zr4];exact l) (by rw [aI,nK];omega) o
   obtain ⟨y,r,rfl⟩:=bO.1 a
   have:=g y (cR r)
   rw [Zp4];exact this
  ·obtain ⟨s,u⟩:=Z9u (b:=b) e h (by omega)
   rw [if_neg h]
   exact S8.cons s u (by rw [Sj,aI,i]) o
section
variable {N W:Nat} {n:Zp} (hf:Xu N n) (hs:Ve n W) {L:List R8} {G:Nat} (hG:(Zg (Y8 L)).length≤G) (hqG:∀ v,v<n.2.1.length→X6 (n.2.2.2.2.getD v [])+1≤G)
include hf hs hG hqG
theorem Zco {v:Nat} (hv:v<n.2.1.length):S8 G (cnt n v) (Wu n v) ((Yo n L).getD v []):=by
 obtain ⟨a,e,f⟩:=hf.rows hv
 rw [Zsq hv]
 refine Z1m _ _ _ a.symm (by rw [Zgk];exact a.symm) (Zjh n v L) (aU (Wx (Z5p n v L)) hG) (fun x b=>?_) ((Zsz hf).row v hv)
 have c:=hf.ent hv x b
 have d:=Zvh hf hs hv x b
 exact ⟨c.1,c.2,Vo (aU d (hqG v hv))⟩
theorem Xak:Zap n (Yo n L) where
 len:=by rw [Yo,aI,bW]
 sz:=fun v hv=>(Zco hf hs hG hqG hv).len.trans (hf.rows hv).1
 ent:=fun v hv x hx=>⟨((Zco hf hs hG hqG hv).ent x hx).1,((Zco hf hs hG hqG hv).ent x hx).2.1⟩
 row:=fun v hv=>(Zco hf hs hG hqG hv).row
theorem Xaf:Zan (Xp n (Yo n L)) (fun v=>if cnt n v=1 then 1 else G):=fun v c x d=>by
 have T:=Zco hf hs hG hqG (v:=v) c
 have a:x ∈ (Yo n L).getD v []:=d
 by_cases h:cnt n v=1
 ·simp only [if_pos h]
  obtain ⟨i,f,rfl⟩:=jX a
  have g:=T.len
  rw [h,eU] at g
  have b:=T.row i (by omega)
  rw [h,eU,aK f,List.take_succ_cons,eX,Zf2] at b
  have:Zr ((Yo n L).getD v [])[i]=1:=by
   have e:Yu ([]:List QV)=0:=rfl
   rw [e,gY] at b;exact b
  rw [this,Zck];exact aY _
 ·simp only [if_neg h]
  have j:=Zok (T.ent x a).2.2
  have:=hqG v c
  omega
theorem Xam (hN:2000000<N) {C:Nat} (hC:Xw (W6 n)≤C):Ve (Xp n (Yo n L)) ((G+2) * C):=by
 have j:(Yo n L).length=n.2.1.length:=by rw [Yo,aI,bW]
 have get:∀ t ∈ Yo n L,∃ v,v<n.2.1.length∧t=(Yo n L).getD v []:=fun t c=>by
  obtain ⟨v,a,rfl⟩:=jX c
  exact ⟨v,by omega,(Xi a).symm⟩
 have e:Ve n W:=hs
 refine ⟨e.nm,e.vl,e.pn,fun t c=>?_,fun t c=>?_,fun t c x f=>?_⟩
 ·obtain ⟨v,a,rfl⟩:=get t c
  have g:=(Zco hf hs hG hqG a).len
  obtain ⟨i,l,_⟩:=hf.rows a
  rw [Wu] at g;omega
 ·obtain ⟨v,a,rfl⟩:=get t c
  have T:=Zco hf hs hG hqG a
  have g:=T.len
  obtain ⟨i,_,_⟩:=hf.rows a
  have o:=Xaw hf hs.pn hN a
  rw [Wu,i] at g
  have k:=Zoj (b:=G) _ fun x f=>(T.ent x f).2.2
  exact aU k (aR _ (by omega))
 ·obtain ⟨v,a,rfl⟩:=get t c
  have:=((Zco hf hs hG hqG a).ent x f).2.2
  exact ⟨this.m,this.d⟩
end
/-! it is not less likely -/
theorem Zp3 (n:Zp) (T:List (List QV)):∀ m k w,Zy (Xp n T) m k w=Zy n m k w
 | 0,_,_=>rfl
 | m+1,k,w=>by
  rw [Zy,Zy]
  split
  ·exact Zp3 n T m (k+1) w
  ·exact Zqe fun x _=>Zp3 n T m (k+1) _
theorem Zyg (n:Zp) (T:List (List QV)) (w:List Int):∀ m k,Xo (Xp n T) w m k=Xo n w m k
 | 0,_=>rfl
 | m+1,k=>by rw [Xo,Xo,Zyg n T w m (k+1)];rfl
theorem Zo1 (n:Zp):∀ a b:List R8,wP n (a++b)=wP n a * wP n b
 | [],b=>by rw [aV,wP,cZ]
 | p :: a,b=>by rw [bY,wP,wP,Zo1 n a b,bH]
theorem Zyu {a b:Rat} (ha:0≤a) (h:a<b):∀ m,Zw a (m+1)<Zw b (m+1)
 | 0=>by rw [Zw,Zw,Zw,Zw,cZ,cZ];exact h
 | m+1=>by
  have c:=Zyu ha h m
  have d:0<b:=Std.lt_of_le_of_lt ha h
  have e:Zw a (m+1) * a≤Zw b (m+1) * a:=cD (fM c) ha
  have f:Zw b (m+1) * a<Zw b (m+1) * b:=by
   have:=gE (Zlf d (m+1)) (show 0<b - a by grind)
   grind
  show Zw a (m+1) * a<Zw b (m+1) * b
  exact Std.lt_of_le_of_lt e f
section
variable {N:Nat} {n:Zp} (hf:Xu N n)
include hf
theorem Zog {w:List Int} (hw:Xn n w):0≤Zx n w n.2.1.length 0:=(Zrt hf hw n.2.1.length 0 (by omega)).2
theorem Zsr:∀ C:List R2,(∀ w ∈ C,Xn n w)→0≤Zz n C
 | [],_=>by rw [Zz,bN,Xq];exact cS
 | w :: C,h=>by
  have a:=Zsr C fun x b=>h x (aB _ b)
  rw [Zz,aQ,Xq]
  exact jJ (Zog hf (h w aC)) a
omit hf in
theorem Zem {w:List Int} (hw:PV n w):∀ x ∈ Zy n n.2.1.length 0 w,Xn n x:=Zgl n.2.1.length 0 w hw (by omega) fun i a=>by omega
theorem Zn3:∀ r:List R2,(∀ w ∈ r,PV n w)→0≤Yx n r
 | [],_=>by rw [Yx];decide
 | w :: r,h=>by
  rw [Yx]
  exact bV (Zsr hf _ (Zem (h w aC))) (Zn3 r fun x a=>h x (aB _ a))
theorem Zs5:∀ L:List R8,(∀ p ∈ L,Xn n p.2)→0≤wP n L
 | [],_=>by rw [wP];decide
 | p :: L,h=>by
  rw [wP]
  exact bV (Qv (Zog hf (h p aC)) _) (Zs5 L fun x a=>h x (aB _ a))
omit hf in
theorem Ztg {D:Nat} {r:List R2} (hR:∀ w ∈ r,∀ x ∈ Zy n n.2.1.length 0 w,Xn n x):∀ p ∈ Yc D n r,Xn n p.2:=fun p b=>by
 obtain ⟨w,c,a⟩:=kP.1 b
 obtain ⟨x,d,rfl⟩:=bO.1 a
 exact hR w c x d
variable {D:Nat} (hD:D≠0)
include hD
omit hD in
theorem Xa2 {C:List R2} (hC:∀ x ∈ C,Xn n x) {p:Rat} (hp:0<p) (ha:∀ x ∈ C,(aW D n p x:Rat) * p=(D:Rat) * Zx n x n.2.1.length 0):0<wP n (C.map fun x=>(aW D n p x,x)):=by
 induction C with
 | nil=>rw [bN,wP];decide
 | cons x C a=>
  have a:=a (fun y b=>hC y (aB _ b)) fun y b=>ha y (aB _ b)
  have c:=Zog hf (hC x aC)
  rw [aQ,wP]
  refine gE ?_ a
  show 0<Zw (Zx n x n.2.1.length 0) (aW D n p x)
  by_cases hz:Zx n x n.2.1.length 0=0
  ·have:aW D n p x=0:=Zve hp (aW D n p) (fun x=>Zx n x n.2.1.length 0) (ha x aC) hz
   rw [this,Zw];decide
  ·exact Zlf (by grind) _
omit hD in
theorem Zth:∀ r:List R2,(∀ w ∈ r,PV n w)→(∀ w ∈ r,0<Zz n (Zy n n.2.1.length 0 w))→(∀ w ∈ r,∀ x ∈ Zy n n.2.1.length 0 w,∃ z:Nat,(D:Rat) * Zx n x n.2.1.length 0 / Zz n (Zy n n.2.1.length 0 w)=(z:Rat))→0<wP n (Yc D n r)
 | [],_,_,_=>by rw [Yc,iK,wP];decide
 | w :: r,c,b,d=>by
  have e:=Zth r (fun x a=>c x (aB _ a)) (fun x a=>b x (aB _ a)) fun x a=>d x (aB _ a)
  rw [Yc,dG,Zo1]
  exact gE (Xa2 hf (Zem (c w aC)) (b w aC) (Zpg (b w aC) (d w aC))) e
theorem Zvf {T:List (List QV)} (hT:Zap n T):∀ r:List R2,(∀ w ∈ r,PV n w)→(∀ w ∈ r,0<Zz n (Zy n n.2.1.length 0 w))→(∀ w ∈ r,∀ x ∈ Zy n n.2.1.length 0 w,∃ z:Nat,(D:Rat) * Zx n x n.2.1.length 0 / Zz n (Zy n n.2.1.length 0 w)=(z:Rat))→
  wP (Xp n T) (Yc D n r) * Zw (Yx n r) D≤Zw (Yx (Xp n T) r) D * wP n (Yc D n r)
 | [],_,_,_=>by rw [Yc,iK,Yx,Yx,wP,wP,Zle,bR];exact cS
 | w :: r,c,f,j=>by
  have B:=Zvf hT r (fun x a=>c x (aB _ a)) (fun x a=>f x (aB _ a)) fun x a=>j x (aB _ a)
  have b:=Zsi hf hT
  have d:=Zem (c w aC)
  have C:=Z9x (n:=n) (n':=Xp n T) hD (f w aC) (j w aC) fun x a=>Zog b (Zsh (d x a))
  have e:Zy (Xp n T) (Xp n T).2.1.length 0 w=Zy n n.2.1.length 0 w:=Zp3 n T _ _ _
  rw [Yc,dG,Yx,Yx,e,Zo1,Zo1,Zah,Zah]
  have E:0≤wP (Xp n T) (Tk D n (Zy n n.2.1.length 0 w)) * Zw (Zz n (Zy n n.2.1.length 0 w)) D:=bV (Zs5 b _ fun p g=>by
   obtain ⟨x,a,rfl⟩:=bO.1 g
   exact Zsh (d x a)) (Qv (fM (f w aC)) _)
  have F:0≤wP (Xp n T) (Yc D n r) * Zw (Yx n r) D:=bV (Zs5 b _ fun p g=>Zsh (Ztg (fun u i=>Zem (c u (aB _ i))) p g)) (Qv (Zn3 hf r fun u i=>c u (aB _ i)) _)
  have m:=Zrd E C F B
  rw [Yc] at m
  generalize wP (Xp n T) (Tk D n (Zy n n.2.1.length 0 w))=k at *
  generalize Zw (Zz n (Zy n n.2.1.length 0 w)) D=l at *
  generalize wP (Xp n T) (r.flatMap fun w=>Tk D n (Zy n n.2.1.length 0 w))=o at *
  generalize Zw (Yx n r) D=q at *
  generalize Zw (Zz (Xp n T) (Zy n n.2.1.length 0 w)) D=s at *
  generalize wP n (Tk D n (Zy n n.2.1.length 0 w))=t at *
  generalize Zw (Yx (Xp n T) r) D=y at *
  generalize wP n (r.flatMap fun w=>Tk D n (Zy n n.2.1.length 0 w))=A at *
  have H:k * o * (l * q)=k * l * (o * q):=by grind
  have I:s * y * (t * A)=s * t * (y * A):=by grind
  rw [H,I];exact m
theorem Xal {r:List R2} (h1:∀ w ∈ r,PV n w) (h2:∀ w ∈ r,0<Zz n (Zy n n.2.1.length 0 w)) (h3:∀ w ∈ r,∀ x ∈ Zy n n.2.1.length 0 w,∃ z:Nat,(D:Rat) * Zx n x n.2.1.length 0 / Zz n (Zy n n.2.1.length 0 w)=(z:Rat))
  (hok:Zap n (Yo n (Yc D n r))):Yx n r≤Yx (Xp n (Yo n (Yc D n r))) r:=by
 have a:∀ p ∈ Yc D n r,Xn n p.2:=Ztg fun u e=>Zem (h1 u e)
 have f:=Zvf hf hD hok r h1 h2 h3
 have g:wP n (Yc D n r)≤wP (Xp n (Yo n (Yc D n r))) (Yc D n r):=Xai hf (Zsz hf) hok a
 have i:=Zth hf r h1 h2 h3
 have j:=Zn3 hf r h1
 have q0:=Zn3 (Zsi hf hok) r fun w b=>⟨(h1 w b).len,(h1 w b).ok⟩
 refine Classical.byContradiction fun k=>?_
 have c:=gB.1 k
 obtain ⟨d,rfl⟩:∃ d,D=d+1:=⟨D - 1,by omega⟩
 have o:=Zyu q0 c d
 have l:=cD g (Qv j (d+1))
 have m:=eO l f
 generalize wP n (Yc (d+1) n r)=A at *
 generalize Zw (Yx n r) (d+1)=X at *
 generalize Zw (Yx (Xp n (Yo n (Yc (d+1) n r))) r) (d+1)=Y at *
 have q:0<A * (X - Y):=gE i (by grind)
 have s:0<A * X - Y * A:=by grind
 exact absurd m (gB.2 (by grind))
end

end Go.Proofs.YtkhnlgdenkikoaaGreat
