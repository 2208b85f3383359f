/-
  What functions of the program compute, as plain Lean functions (m_..), and proofs that they compute it (c_..). Printed by a program of the author; no conditions.
-/
import Derived.Test.YtlchacnggnhhbaaGreatCodeBackBFloat
import Derived.Test.YtlchacnggnhhbaaGreatProg
import Derived.Test.YtlchacnggnhhbaaGreatCodeBackBBrief
import Derived.Test.YtlchacnggnhhbaaGreatCodeBackBMixD
import Derived.Test.YtlchacnggnhhbaaGreatCodeBackBThree
import Derived.Test.YtlchacnggnhhbaaGreatCodeBackF3
set_option linter.unusedVariables false
set_option maxRecDepth 100000
set_option maxHeartbeats 20000000
namespace Go.Proofs.YtlchacnggnhhbaaGreat
open Go Go.RowKit
open Go.IntKind (i8 i16 i32 i64 u8 u16 u32 u64)
open Go.Proofs.Tryz

/-! a row's entries are 1 together -/
theorem Zvl {c:Nat}:∀ (m:Nat) (l:List QV),Uz c m l=true→∀ r,r<m→Wc ((l.drop (r * c)).take c)=1
 | 0,l,_,r,h=>by omega
 | m+1,l,h,r,hr=>by
  rw [Uz,Bool.and_eq_true,decide_eq_true_iff] at h
  cases r with
  | zero=>rw [Nat.zero_mul,List.drop_zero];exact h.1
  | succ r=>
   have:=Zvl m (l.drop c) h.2 r (by omega)
   rw [List.drop_drop] at this
   rw [Nat.add_mul,Nat.one_mul,Nat.add_comm]
   exact this
theorem Zx7 {vals:List R5} {P:List R2} {T:List (List QV)}:∀ (m v:Nat),Zc4 vals P T m v=0→∀ i,v≤i→i<v+m→Uz (vals.getD i []).length (Yj vals (P.getD i []) 1) (T.getD i [])=true
 | 0,v,_,i,h1,h2=>by omega
 | m+1,v,h,i,h1,h2=>by
  rw [Zc4] at h
  split at h
  ·rename_i h3
   rcases Nat.lt_or_ge v i with h5 | h5
   ·exact Zx7 m (v+1) h i (by omega) (by omega)
   ·have:i=v:=by omega
    subst this
    exact h3
  ·cases h
section
variable {N:Nat} {n:Z8} (hf:Y9 N n)
include hf
theorem Z5e {w:List Int} (hw:Yo n w) {v:Nat} (hv:v<n.2.1.length):Wc (Xb n w v)=1:=by
 have h1:=Zx7 _ 0 hf.su v (Nat.zero_le _) (by omega)
 have h2:=Zqj hf.ev hw (n.2.2.2.1.getD v []) 0 1 (hf.pars hv) (by omega) (by omega) (hf.rows hv).2.2
 exact Zvl _ _ h1 _ h2
end
/-! parts side by side -/
theorem Zvy (long:Rat):∀ (t:List QV) (a:Rat) (j:Nat) (hj:j<t.length),((Xs long t a).getD j (0,0)).2=((Xs long t a).getD j (0,0)).1+long * Zt t[j]
 | [],a,j,hj=>by simp at hj
 | x :: t,a,0,hj=>by rw [Xs,List.getD_cons_zero];rfl
 | x :: t,a,j+1,hj=>by
  rw [Xs,List.getD_cons_succ]
  exact Zvy long t _ j (by simpa using hj)
theorem Zvx {long:Rat} (hl:0≤long):∀ (t:List QV) (a:Rat),(∀ x ∈ t,0≤Zt x)→∀ p ∈ Xs long t a,p.2≤a+long * Wc t
 | [],a,_,p,hp=>by rw [Xs] at hp;cases hp
 | x :: t,a,ht,p,hp=>by
  have ht':∀ y ∈ t,0≤Zt y:=fun y hy=>ht y (List.mem_cons_of_mem _ hy)
  have hs:0≤Wc t:=by
   rw [Wc]
   clear hp ht
   induction t with
   | nil=>simp
   | cons y t ih=>
    rw [List.map_cons,List.sum_cons]
    exact Rat.add_nonneg (ht' y List.mem_cons_self) (ih fun z hz=>ht' z (List.mem_cons_of_mem _ hz))
  have e:a+long * Wc (x :: t)=a+long * Zt x+long * Wc t:=by
   rw [Wc,List.map_cons,List.sum_cons,← Wc,Rat.mul_add,Rat.add_assoc]
  rw [Xs] at hp
  rw [e]
  rcases List.mem_cons.1 hp with rfl | hp
  ·have:=Rat.mul_nonneg hl hs
   show a+long * Zt x≤_
   grind
  ·exact Zvx hl t _ ht' p hp
theorem Zps {long:Rat} (hl:0≤long):∀ (t:List QV) (a:Rat) (i j:Nat),(∀ x ∈ t,0≤Zt x)→i<j→j<t.length→((Xs long t a).getD i (0,0)).2≤((Xs long t a).getD j (0,0)).1
 | [],a,i,j,_,_,h=>by simp at h
 | x :: t,a,i,0,_,h,_=>by omega
 | x :: t,a,i,j+1,ht,h1,h2=>by
  have ht':∀ y ∈ t,0≤Zt y:=fun y hy=>ht y (List.mem_cons_of_mem _ hy)
  have h2':j<t.length:=by simpa using h2
  rw [Xs,List.getD_cons_succ]
  cases i with
  | zero=>
   rw [List.getD_cons_zero]
   exact (Zjl hl t _ ht' _ (Zef (by rw [Qr];exact h2'))).1
  | succ i=>
   rw [List.getD_cons_succ]
   exact Zps hl t _ i j ht' (by omega) h2'
theorem Zot {c:Rat×Rat→Bool}:∀ (l:List (Rat×Rat)) (k:Nat) (f:Int) (j:Nat),j<l.length→c (l.getD j (0,0))=true→(∀ i,j<i→i<l.length→c (l.getD i (0,0))=false)→Vc c l k f=((k+j:Nat):Int)
 | [],k,f,j,h,_,_=>by simp at h
 | p :: l,k,f,0,h,h1,h2=>by
  rw [List.getD_cons_zero] at h1
  rw [Vc,if_pos h1,Zkv l (k+1) _ fun q hq=>?_]
  ·omega
  ·obtain ⟨i,hi,e⟩:=List.getElem_of_mem hq
   have:=h2 (i+1) (by omega) (by simpa using hi)
   rw [List.getD_cons_succ,Ye hi,e] at this
   exact this
 | p :: l,k,f,j+1,h,h1,h2=>by
  rw [List.getD_cons_succ] at h1
  rw [Vc,Zot l (k+1) _ j (by simpa using h) h1 fun i hi hil=>by
   have:=h2 (i+1) (by omega) (by simpa using hil)
   rwa [List.getD_cons_succ] at this]
  omega
section
variable {N:Nat} {n:Z8} (hf:Y9 N n)
include hf
theorem Zpr {w:List Int} (hw:Yo n w) {v:Nat} (hv:v<n.2.1.length) {s:Rat×Rat} (hs:s.1≤s.2) {p:Rat×Rat} (hp:p ∈ Xs (s.2 - s.1) (Xb n w v) s.1):s.1≤p.1∧p.1≤p.2∧p.2≤s.2:=by
 have hent:∀ y ∈ Xb n w v,0≤Zt y:=fun y hy=>(hf.ent hv y (Zao hy)).1
 have hlong:0≤s.2 - s.1:=by rw [Rat.le_iff_sub_nonneg] at hs;exact hs
 obtain ⟨h1,h2⟩:=Zjl hlong _ _ hent _ hp
 have h3:=Zvx hlong _ _ hent _ hp
 rw [Z5e hf hw hv] at h3
 exact ⟨h1,h2,by grind⟩
variable {ord:List Int} (ho:Uh n.2.2.2.1 ord)
include ho
theorem Zqp {w:List Int} (hw:Yo n w):∀ (l:List Int) (s:Rat×Rat),(∀ y ∈ l,y ∈ ord)→s.1≤s.2→s.1≤(X6 n w l s).1∧(X6 n w l s).1≤(X6 n w l s).2∧(X6 n w l s).2≤s.2
 | [],s,_,h=>⟨Rat.le_refl,h,Rat.le_refl⟩
 | v :: l,s,he,h=>by
  have hvr:=ho.rg v (he v List.mem_cons_self)
  rw [hf.ev.p] at hvr
  have hv:v.toNat<n.2.1.length:=by omega
  have hwv:=hw.ok v.toNat (by rw [hw.len];exact hv)
  have hm:(Xs (s.2 - s.1) (Xb n w v.toNat) s.1).getD (w.getD v.toNat 0).toNat (0,0) ∈ Xs (s.2 - s.1) (Xb n w v.toNat) s.1:=Zef (by rw [Qr,hf.rowT_len hw hv];omega)
  obtain ⟨h1,h2,h3⟩:=Zpr hf hw hv h hm
  obtain ⟨g1,g2,g3⟩:=Zqp hw l _ (fun y hy=>he y (List.mem_cons_of_mem _ hy)) h2
  rw [X6]
  exact ⟨Rat.le_trans h1 g1,g2,Rat.le_trans g3 h3⟩
theorem Zsl {x:Rat×Rat} (hx:x.1<x.2) {w:List Int} (hw:Yo n w):∀ (l pre u:List Int) (s:Rat×Rat),ord=pre++l→Yo n u→(∀ p ∈ pre,u.getD p.toNat 0=w.getD p.toNat 0)→s.1≤s.2→(X6 n w l s).1≤x.1→x.2≤(X6 n w l s).2→
  ∃ u',Vs n (fun P=>Vc (Vx x) P 0 (-1)) l u s=some (u',X6 n w l s)∧Yo n u'∧∀ p ∈ ord,u'.getD p.toNat 0=w.getD p.toNat 0
 | [],pre,u,s,he,hu,hag,hs,h1,h2=>⟨u,rfl,hu,by rw [he,List.append_nil];exact hag⟩
 | v :: l,pre,u,s,he,hu,hag,hs,h1,h2=>by
  have hsub:∀ y ∈ l,y ∈ ord:=fun y hy=>by rw [he];simp [hy]
  have hvr:=ho.rg v (by rw [he];simp)
  rw [hf.ev.p] at hvr
  obtain ⟨k,rfl⟩:∃ k:Nat,v=(k:Int):=⟨v.toNat,by omega⟩
  have hv:k<n.2.1.length:=by omega
  have hpar:∀ p ∈ n.2.2.2.1.getD k [],u.getD p.toNat 0=w.getD p.toNat 0:=fun p hp=>hag p (ho.up pre k l he p (by rw [Int.toNat_natCast];exact hp))
  have hrow:Wf n u k=Wf n w k:=Zqh _ _ hpar
  have hrT:Xb n u k=Xb n w k:=by rw [Xb,Xb,hrow]
  have hwk:=hw.ok k (by rw [hw.len];exact hv)
  obtain ⟨q,hq⟩:∃ q:Nat,w.getD k 0=(q:Int):=⟨(w.getD k 0).toNat,by omega⟩
  have hql:q<(Xb n w k).length:=by rw [hf.rowT_len hw hv];omega
  have hlong:0≤s.2 - s.1:=by rw [Rat.le_iff_sub_nonneg] at hs;exact hs
  have hent:∀ y ∈ Xb n w k,0≤Zt y:=fun y hy=>(hf.ent hv y (Zao hy)).1
  rw [X6,Int.toNat_natCast,hq,Int.toNat_natCast] at h1 h2
  obtain ⟨p1,p2,p3⟩:=Zpr hf hw hv hs (Zef (by rw [Qr];exact hql))
  obtain ⟨g1,g2,g3⟩:=Zqp hf ho hw l _ hsub p2
  have hpick:Vc (Vx x) (Xs (s.2 - s.1) (Xb n w k) s.1) 0 (-1)=(q:Int):=by
   have:=Zot (c:=Vx x) (Xs (s.2 - s.1) (Xb n w k) s.1) 0 (-1) q (by rw [Qr];exact hql) (Q4.2 ⟨Rat.le_trans g1 h1,Std.lt_of_lt_of_le hx (Rat.le_trans h2 g3),Rat.le_trans h2 g3⟩) fun i hi hil=>?_
   ·rw [this,Nat.zero_add]
   ·rw [Bool.eq_false_iff]
    intro g
    have hsep:=Zps hlong (Xb n w k) s.1 q i hent hi (by rwa [Qr] at hil)
    have:=(Q4.1 g).1
    exact absurd (Std.lt_of_lt_of_le hx (Rat.le_trans h2 (Rat.le_trans g3 hsep))) (Rat.not_lt.2 this)
  have ih:=Zsl hx hw l (pre++[(k:Int)]) (u.set k q) _ (by rw [he,List.append_assoc];rfl) (hu.set (v:=k) (by omega)) (fun p hp=>?_) p2 h1 h2
  ·obtain ⟨u',e1,e2,e3⟩:=ih
   refine ⟨u',?_,e2,e3⟩
   rw [Vs,X6,Int.toNat_natCast,hrT]
   simp only [hpick]
   rw [if_neg (by omega),Int.toNat_natCast,hq,Int.toNat_natCast]
   exact e1
  ·rcases List.mem_append.1 hp with hp | hp
   ·rw [Tb u 0 k _ _ (by rw [hu.len];exact hv)]
    split
    ·rename_i e;rw [e,hq]
    ·exact hag p hp
   ·rw [List.mem_singleton] at hp
    rw [hp,Int.toNat_natCast,Tb u 0 k _ _ (by rw [hu.len];exact hv),if_pos rfl,hq]
theorem Zsm {x y:Rat×Rat} (hx:x.1<x.2) (h1:y.1≤x.1) (h2:x.2≤y.2):∀ (l u:List Int) (s:Rat×Rat) (r:List Int×(Rat×Rat)),(∀ z ∈ l,z ∈ ord)→Yo n u→s.1≤s.2→s.1≤y.1→y.2≤s.2→Vs n (fun P=>Vc (Vx y) P 0 (-1)) l u s=some r→
  Vs n (fun P=>Vc (Vx x) P 0 (-1)) l u s=some r∧r.2.1≤y.1∧y.2≤r.2.2
 | [],u,s,r,_,_,_,g1,g2,h=>by
  rw [Vs,Option.some.injEq] at h
  subst h
  exact ⟨rfl,g1,g2⟩
 | v :: l,u,s,r,he,hu,hs,g1,g2,h=>by
  have hvr:=ho.rg v (he v List.mem_cons_self)
  rw [hf.ev.p] at hvr
  have hv:v.toNat<n.2.1.length:=by omega
  have hlong:0≤s.2 - s.1:=by rw [Rat.le_iff_sub_nonneg] at hs;exact hs
  have hent:∀ y ∈ Xb n u v.toNat,0≤Zt y:=fun y hy=>(hf.ent hv y (Zao hy)).1
  rw [Vs] at h
  split at h
  ·cases h
  ·rename_i hneg
   rcases Zos (c:=Vx y) (Xs (s.2 - s.1) (Xb n u v.toNat) s.1) 0 (-1) with e | ⟨j,hj,e1,e2⟩
   ·rw [e] at hneg;exact absurd (by decide) hneg
   ·rw [e1,Nat.zero_add,Int.toNat_natCast] at h
    rw [← Ye (d:=((0:Rat),(0:Rat))) hj] at e2
    have hm:(Xs (s.2 - s.1) (Xb n u v.toNat) s.1).getD j (0,0) ∈ Xs (s.2 - s.1) (Xb n u v.toNat) s.1:=Zef hj
    obtain ⟨p1,p2,p3⟩:=Zpr hf hu hv hs hm
    obtain ⟨d1,d2,d3⟩:=Q4.1 e2
    have hjr:j<cnt n v.toNat:=by rwa [Qr,hf.rowT_len hu hv] at hj
    have hpick:Vc (Vx x) (Xs (s.2 - s.1) (Xb n u v.toNat) s.1) 0 (-1)=(j:Int):=by
     have:=Zot (c:=Vx x) (Xs (s.2 - s.1) (Xb n u v.toNat) s.1) 0 (-1) j hj (Q4.2 ⟨Rat.le_trans d1 h1,Std.lt_of_lt_of_le hx (Rat.le_trans h2 d3),Rat.le_trans h2 d3⟩) fun i hi hil=>?_
     ·rw [this,Nat.zero_add]
     ·rw [Bool.eq_false_iff]
      intro g
      have hsep:=Zps hlong (Xb n u v.toNat) s.1 j i hent hi (by rwa [Qr] at hil)
      have:=(Q4.1 g).1
      exact absurd (Std.lt_of_lt_of_le hx (Rat.le_trans h2 (Rat.le_trans d3 hsep))) (Rat.not_lt.2 this)
    obtain ⟨r1,r2,r3⟩:=Zsm hx h1 h2 l (u.set v.toNat j) _ r (fun z hz=>he z (List.mem_cons_of_mem _ hz)) (hu.set (by omega)) p2 d1 d3 h
    refine ⟨?_,r2,r3⟩
    rw [Vs]
    simp only [hpick]
    rw [if_neg (by omega),Int.toNat_natCast]
    exact r1
variable (hall:∀ i,i<n.2.1.length→(i:Int) ∈ ord)
include hall
theorem Zsk {x:Rat×Rat} (hx:x.1<x.2) {w:List Int} (hw:Yo n w) (h1:(X6 n w ord (0,1)).1≤x.1) (h2:x.2≤(X6 n w ord (0,1)).2):Vs n (fun P=>Vc (Vx x) P 0 (-1)) ord (List.replicate n.2.1.length 0) (0,1)=some (w,X6 n w ord (0,1)):=by
 obtain ⟨u,e1,e2,e3⟩:=Zsl hf ho hx hw ord [] (List.replicate n.2.1.length 0) (0,1) rfl (Yo.zero hf.ev) (by simp) (show (0:Rat)≤1 by decide) h1 h2
 have:u=w:=by
  refine List.ext_getElem (by rw [e2.len,hw.len]) fun i g1 g2=>?_
  have:=e3 (i:Int) (hall i (by rw [← e2.len];exact g1))
  rwa [Int.toNat_natCast,Ye g1,Ye g2] at this
 rw [e1,this]
theorem Z03 {x y:Rat×Rat} (hx:x.1<x.2) {w:List Int} (hw:Yo n w) (h1:(X6 n w ord (0,1)).1≤x.1) (h2:x.2≤(X6 n w ord (0,1)).2) (g1:y.1≤x.1) (g2:x.2≤y.2) (g0:0≤y.1) (g3:y.2≤1)
  (hn:¬ ((X6 n w ord (0,1)).1≤y.1∧y.2≤(X6 n w ord (0,1)).2)):Vs n (fun P=>Vc (Vx y) P 0 (-1)) ord (List.replicate n.2.1.length 0) (0,1)=none:=by
 cases hd:Vs n (fun P=>Vc (Vx y) P 0 (-1)) ord (List.replicate n.2.1.length 0) (0,1) with
 | none=>rfl
 | some r=>
  obtain ⟨e1,e2,e3⟩:=Zsm hf ho hx g1 g2 ord _ _ r (fun _ h=>h) (Yo.zero hf.ev) (show (0:Rat)≤1 by decide) g0 g3 hd
  rw [Zsk hf ho hall hx hw h1 h2,Option.some.injEq] at e1
  subst e1
  exact absurd ⟨e2,e3⟩ hn
end
section
variable {N K:Nat} {n:Z8} (hf:Y9 N n) (w:List Int) (hw:Yo n w)
include hf hw
end
section
variable {N W K:Nat} {n:Z8} (hf:Y9 N n) (hs:Wz n W) (hr:Z4 N (8 * K+40)) (hWK:W≤K) (hN:1048577<N)
include hf hs hr hWK hN
end
def Zfe (aa:Int) (ad:Rg) (ab:List Int):Option Int:=
  (Zp ab aa).bind fun ac=>some ac
theorem Zy6 (col:Ze) (w0:World) (qc2:Nat) (hqqc2:qc2≠0) (af:Int) (a1:Option Addr) (ag:Nat) (ab:Rg) (g2:Nat) (ac:List Int) (ah:Option Addr) (ai:Nat) (h1:Sl (Za.pair (Za.pair (Za.pair Za.bool (Za.slice (Za.int .u32))) (Za.slice (Za.int .u32))) (Za.pair (Za.pair Za.bool (Za.slice (Za.int .u32))) (Za.slice (Za.int .u32)))) col w0 a1 ag ab) (aa:Sl (Za.int .i64) col w0 ah ai ac) (hb2:Zo 39 qc2 col w0 g2 #[.slice ah ac.length ai]) (r:Int) (hm:Zfe af ab ac=some r):
    Calls Tryz.prog 63 #[.int .i64 af,.slice a1 ab.length ag,.pointer (some ⟨g2,0,none⟩)] w0 (fun e w'=>e= .returned ((.int .i64 r))∧Below w0.heap.size w0 w'):=by
 refine Xo 5 (m:=10) func63 rfl rfl rfl rfl rfl ?_;rw [Zfe.eq_1] at hm;have ad:=St.start col w0;replace hb2:=hb2.start0 hqqc2;refine go ?_;refine lW hb2.at1<|Yn rfl ?_;obtain ⟨aj,ae,hm⟩:=bZ hm;replace aa:=aa.keep (Zl.start col w0);refine lI ae ((aa.ks ad).addr ae)<|lW ((aa.ks ad).atInt ae) ?_;refine go ?_;cases hm;exact ⟨rfl,rfl,ad.below⟩
def Zdi (N:Nat) (ai:R1) (aj:List Int) (ap:Bool) (aq:List Int) (ar:List Int) (au:Bool) (av:List Int) (aw:List Int) (ak:List Int) (kk_L1:(Bool→R2→R2→Bool→R2→R2→R2→Bool→R2→R2→Bool→R2→R2→R2→Option R7)) (ab:Int) (ax:Int) (ae:R0) (ay:List ByteArray):Nat→Bool→R2→R2→Rg→Int→Option R7
  | 0,_,_,_,_,_=>none
  | az+1,af,ag,ah,ad,al=>if (decide (al<(ay.length:Int)))=true then ((Zp ai.2.2.2.2 ab).bind fun a0=>(Zp ai.2.2.1 ab).bind fun a1=>(Zp a0 (i64.wrap ((i64.wrap (ax * (a1.length:Int)))+al))).bind fun am=>(Ul N ((ae.1.1,ae.1.2),ae.2) ((am.1.1,am.1.2),am.2)).bind fun an=>(Uv N ((af,ag),ah) ((an.1.1,an.1.2),an.2)).bind fun aa=>Z7 ((ad.length+[(((af,ag),ah),((aa.1.1,aa.1.2),aa.2))].length) * 112≤140737488355328∧ad.length+[(((af,ag),ah),((aa.1.1,aa.1.2),aa.2))].length≤maxLen) ((Zdi N ai aj ap aq ar au av aw ak kk_L1 ab ax ae ay az) aa.1.1 aa.1.2 aa.2 (ad++[(((af,ag),ah),((aa.1.1,aa.1.2),aa.2))]) (i64.wrap (al+1)))) else ((Zfe ab ad aj).bind fun ao=>if (decide (ao<0))=true then (some (([]:List Int),(((false,([]:List Int)),([]:List Int)),((false,([]:List Int)),([]:List Int))),false)) else ((Zp ad ao).bind fun ac=>(Zp ak ab).bind fun a3=>(some (ak.set (Int.toNat ab) ao)).bind fun a2=>kk_L1 ac.1.1.1 ac.1.1.2 ac.1.2 ac.2.1.1 ac.2.1.2 ac.2.2 aj ap aq ar au av aw a2))
termination_by structural x=>x
def Za1 (N:Nat) (aa:R1) (ab:Bool) (ac:List Int) (ad:List Int) (ah:Bool) (ai:List Int) (aj:List Int) (ak:List Int) (al:Bool) (am:List Int) (an:List Int) (ao:Bool) (ap:List Int) (aq:List Int) (ae:List Int) (kk_L1:(Bool→R2→R2→Bool→R2→R2→R2→Bool→R2→R2→Bool→R2→R2→R2→Option R7)) (af:Int):List Int→Int→Option R7
  | [],ag=>(Qj N ((ah,ai),aj) ((ab,ac),ad)).bind fun au=>(Zp aa.2.2.1 af).bind fun av=>Zdi N aa ak al am an ao ap aq ae kk_L1 af ag au av N ab ac ad ([]:List (R0×R0)) 0
  | ar :: aw,ag=>(Zp aa.2.2.1 ar).bind fun ax=>(Zp ae ar).bind fun ay=>(Za1 N aa ab ac ad ah ai aj ak al am an ao ap aq ae kk_L1 af aw) (i64.wrap ((i64.wrap (ag * (ax.length:Int)))+ay))
termination_by structural x=>x
def Qh (N:Nat) (aa:R1):List Int→Bool→R2→R2→Bool→R2→R2→R2→Bool→R2→R2→Bool→R2→R2→R2→Option R7
  | [],ab,ac,ad,ae,af,ag,ai,aj,ak,al,am,an,ao,ah=>some (ah,(((ab,ac),ad),((ae,af),ag)),true)
  | ap :: aq,ab,ac,ad,ae,af,ag,ai,aj,ak,al,am,an,ao,ah=>(Zp aa.2.2.2.1 ap).bind fun ar=>Za1 N aa ab ac ad ae af ag ai aj ak al am an ao ah (Qh N aa aq) ap ar 0
termination_by structural x=>x
def Zfg (N:Nat) (aa:R1) (ad:List Int) (ae:List Int):Option R7:=
  Z7 (aa.2.1.length * 8≤281474976710656∧aa.2.1.length≤maxLen) ((Za4 N ([]:List R0)).bind fun ab=>(Zb3).bind fun ac=>Qh N aa ad ab.1.1 ab.1.2 ab.2 ac.1.1 ac.1.2 ac.2 ae false ([]:List Int) ([]:List Int) false ([]:List Int) ([]:List Int) (List.replicate aa.2.1.length (0:Int)))
theorem Zy8 {N dy c5 dz c6 fm g3 fn:Nat} {d0 cr d1 ct a1 fp:Option Addr} {col:Ze} {w0:World} {ag:R1} {c7 em:R2} {r:R7} (c1 qc3:Nat) (hm:Zfg N ag c7 em=some r) (hqqc3:qc3≠0) (i4:Sl Za.str col w0 d0 dy ag.2.1) (cu:Sl (Za.slice Za.str) col w0 cr c5 ag.2.2.1) (ec:Sl (Za.slice (Za.int .i64)) col w0 d1 dz ag.2.2.2.1) (ed:Sl (Za.slice (Za.pair (Za.pair Za.bool (Za.slice (Za.int .u32))) (Za.slice (Za.int .u32)))) col w0 ct c6 ag.2.2.2.2) (h1:Sl (Za.int .i64) col w0 a1 fm c7) (en:Sl (Za.int .i64) col w0 fp fn em) (hb3:Zo 39 qc3 col w0 g3 #[.slice fp em.length fn]):
    Calls Tryz.prog 46 #[(.agg #[.string ag.1,.slice d0 ag.2.1.length dy,.slice cr ag.2.2.1.length c5,.slice d1 ag.2.2.2.1.length dz,.slice ct ag.2.2.2.2.length c6]),.slice a1 c7.length fm,(.func (.func 63) #[] #[.pointer (some ⟨g3,0,none⟩)])] w0 (fun e w'=>∃ (col':Ze) (ra1:Option Addr) (rc2:Nat) (ra4:Option Addr) (rc5:Nat) (ra7:Option Addr) (rc8:Nat) (ra10:Option Addr) (rc11:Nat) (ra13:Option Addr) (rc14:Nat),e= .returned (.tuple #[.slice ra1 r.1.length rc2,(.agg #[.bool r.2.1.1.1.1,.slice ra4 r.2.1.1.1.2.length rc5,.slice ra7 r.2.1.1.2.length rc8,.bool r.2.1.2.1.1,.slice ra10 r.2.1.2.1.2.length rc11,.slice ra13 r.2.1.2.2.length rc14]),.bool r.2.2])∧Zg col w0 col' w'∧Zc (Za.int .i64) 3 c1 col' w' ra1 rc2 r.1∧Sl (Za.int .u32) col' w' ra4 rc5 r.2.1.1.1.2∧Sl (Za.int .u32) col' w' ra7 rc8 r.2.1.1.2∧Sl (Za.int .u32) col' w' ra10 rc11 r.2.1.2.1.2∧Sl (Za.int .u32) col' w' ra13 rc14 r.2.1.2.2):=by
 refine Yu (m:=122) func46 rfl rfl rfl ?_;rw [Zfg.eq_1] at hm;have aa:=St.start col w0;replace hb3:=hb3.start0 hqqc3;refine go ?_;refine Xy (col:=(Zk col)) 1 rfl ?_;intro d2 i5 fv fq ab;refine Sv rfl<|Xl (col:=fv) #[.bool false,.slice none (([]:List Int).length) 0,.slice none (([]:List Int).length) 0,.bool false,.slice none (([]:List Int).length) 0,.slice none (([]:List Int).length) 0] 2 zeroValue55 ?_;intro eo fw fx ep ac;refine go ?_;refine X8 ⟨_,_,rfl⟩ ?_;replace ab:=ab.gr ep;refine lW ((ab.atN).nth (q:=1) rfl)<|go ?_;obtain ⟨fr,hm⟩:=Xc hm;refine Qe (col:=fx) (w:=fw) (r:=(Za.int .i64)) (n:=ag.2.1.length) (x0:=0) 3 rfl underlying39 Tryz.t3 rfl rfl rfl rfl rfl rfl rfl fr.1 fr.2 (Qu .i64 0) ?_;intro i6 i7 fy ee bu;refine go ?_;obtain ⟨eq,fz,hm⟩:=bZ hm;refine Zi (Zkg (col:=fy) 4 5 fz Sl.nil) ?_;rintro _ i8 ⟨f0,f1,f2,f3,f4,rfl,d3,bv,bw⟩;refine ⟨_,rfl,?_⟩;obtain ⟨er,f5,hm⟩:=bZ hm;refine lc rfl rfl (Zap call42) (Zkf (col:=f0) 6 7 f5:) ?_;rintro _ i9 ⟨f6,f7,f8,f9,ga,rfl,c8,bx,bz⟩;refine ⟨_,rfl,?_⟩;refine lV (.agg #[.bool eq.1.1,.slice f1 eq.1.2.length f2,.slice f3 eq.2.length f4,.bool er.1.1,.slice f7 er.1.2.length f8,.slice f9 er.2.length ga]) (Yk (l:=[_,_]) (qs:=[(0,3),(3,3)]) underlying55 zeroValue55 ⟨rfl,sizeOf35,rfl,sizeOf35,trivial⟩ rfl)<|Xl (col:=f6) #[.bool false,.slice none (([]:List Int).length) 0,.slice none (([]:List Int).length) 0,.bool false,.slice none (([]:List Int).length) 0,.slice none (([]:List Int).length) 0] 8 zeroValue55 ?_;intro es ja jb cg gb;refine Z2 gb ?_;intro jc ch gc ad;refine go ?_;replace bu:=(((bu.gr d3).gr c8).gr cg).kp ch;replace bu:=bu.froz 4 (by decide);replace bv:=((bv.gr c8).gr cg).kp ch;replace bv:=(bv).toSlF (Zh.int .u32);replace bw:=((bw.gr c8).gr cg).kp ch;replace bw:=bw.froz 4 (by decide);replace bx:=(bx.gr cg).kp ch;replace bx:=bx.froz 4 (by decide);replace bz:=(bz.gr cg).kp ch;replace bz:=bz.froz 4 (by decide);replace hb3:=((((((hb3.gr fq).gr ep).gr ee).gr d3).gr c8).gr cg).kp ch;replace hb3:=hb3.froz 4 (by decide);replace ab:=((((ab.gr ee).gr d3).gr c8).gr cg).kp ch;replace ab:=ab.froz 4 (by decide);replace ac:=((((ac.gr ee).gr d3).gr c8).gr cg).kp ch;replace ac:=ac.froz 4 (by decide);replace ad:=ad.froz 4 (by decide)
 replace aa:=((((((aa.grow fq).grow ep).grow ee).grow d3).grow c8).grow cg).kp ch gc;replace aa:=aa.froz 4 (by decide) (by decide);replace bu:=bu.froz 5 (by decide);replace bv:=bv.froz 5;replace bw:=(bw).toSlF (Zh.int .u32);replace bx:=bx.froz 5 (by decide);replace bz:=bz.froz 5 (by decide);replace hb3:=hb3.froz 5 (by decide);replace ab:=ab.froz 5 (by decide);replace ac:=ac.froz 5 (by decide);replace ad:=ad.froz 5 (by decide);replace aa:=aa.froz 5 (by decide) (by decide);replace bu:=bu.froz 6 (by decide);replace bv:=bv.froz 6;replace bw:=bw.froz 6;replace bx:=(bx).toSlF (Zh.int .u32);replace bz:=bz.froz 6 (by decide);replace hb3:=hb3.froz 6 (by decide);replace ab:=ab.froz 6 (by decide);replace ac:=ac.froz 6 (by decide);replace ad:=ad.froz 6 (by decide);replace aa:=aa.froz 6 (by decide) (by decide);replace bu:=bu.froz 7 (by decide);replace bv:=bv.froz 7;replace bw:=bw.froz 7;replace bx:=bx.froz 7;replace bz:=(bz).toSlF (Zh.int .u32);replace hb3:=hb3.froz 7 (by decide);replace ab:=ab.froz 7 (by decide);replace ac:=ac.froz 7 (by decide);replace ad:=ad.froz 7 (by decide);replace aa:=aa.froz 7 (by decide) (by decide);replace en:=en.keep (Zl.start col w0)
 refine Xe [10,2,29,3,30,7,1000000] (fun n f bh=>∃ a6 cv ci cj b0 ck cl b1 c9 cw cx b3 cy cz b4 c0 c2 b2 d4 da db dc b5 dd de b6 df dg dh b7 di dj b8 dl dm b9 d5,n=d5.length∧c7.drop d4=d5∧Qh N ag d5 cv b0 b1 c9 b3 b4 b2 da b5 b6 df b7 b8 b9=some r∧St w0 (Zk col) a6 bh∧Sl (Za.int .u32) a6 bh ci cj b0∧Sl (Za.int .u32) a6 bh ck cl b1∧Sl (Za.int .u32) a6 bh cw cx b3∧Sl (Za.int .u32) a6 bh cy cz b4∧Zo 55 8 a6 bh es #[.bool cv,.slice ci b0.length cj,.slice ck b1.length cl,.bool c9,.slice cw b3.length cx,.slice cy b4.length cz]∧Sl (Za.int .i64) a6 bh c0 c2 b2∧Zo 39 999 a6 bh g3 #[.slice c0 b2.length c2]∧Zo 27 1 a6 bh d2 #[.string ag.1,.slice d0 ag.2.1.length dy,.slice cr ag.2.2.1.length c5,.slice d1 ag.2.2.2.1.length dz,.slice ct ag.2.2.2.2.length c6]∧Zc (Za.int .u32) 77 9 a6 bh db dc b5∧Zc (Za.int .u32) 77 10 a6 bh dd de b6∧Zc (Za.int .u32) 77 11 a6 bh dg dh b7∧Zc (Za.int .u32) 77 12 a6 bh di dj b8∧Zo 55 2 a6 bh eo #[.bool da,.slice db b5.length dc,.slice dd b6.length de,.bool df,.slice dg b7.length dh,.slice di b8.length dj]∧Zc (Za.int .i64) 3 3 a6 bh dl dm b9∧[31,9].map f=[.int .i64 d4,.slice dl b9.length dm]) c7.length ⟨_,_,_,_,_,_,_,_,_,_,_,_,_,_,_,_,_,_,0,_,none,0,_,none,0,_,_,none,0,_,none,0,_,_,_,_,_,rfl,rfl,hm,aa,bv,bw,bx,bz,ad,(en.ks aa),hb3,ab,Zc.nil,Zc.nil,Zc.nil,Zc.nil,ac,bu,rfl⟩ ?_;clear hm;intro n f bh hI;obtain ⟨a6,cv,ci,cj,b0,ck,cl,b1,c9,cw,cx,b3,cy,cz,b4,c0,c2,b2,d4,da,db,dc,b5,dd,de,b6,df,dg,dh,b7,di,dj,b8,dl,dm,b9,d5,hn,hl,hm,aa,ai,aj,ak,al,ad,am,hb3,ab,an,ao,ap,aq,ac,ah,hs⟩:=hI;subst hn;refine .lL [31,9] hs ?_;replace cu:=cu.keep (Zl.start col w0);replace ec:=ec.keep (Zl.start col w0);replace ed:=ed.keep (Zl.start col w0);replace h1:=h1.keep (Zl.start col w0)
 cases d5 with
 | nil=>
  have hk:¬ ((d4:Int)<(c7.length:Int)):=by have:=List.drop_eq_nil_iff.1 hl;omega
  have hkb:=decide_eq_false hk;rw [Qh.eq_1] at hm;refine go ?_;refine Yv (congrArg Value.bool hkb)<|go ?_;refine W6 (col:=a6) [(0,1),(1,0),(2,1),(3,2),(4,1)] (by kernel_rfl) (by kernel_rfl)<|xu rfl rfl (fun _=>Ug rfl) ?_;refine xv rfl rfl (fun _ hC=>Xj isAgg55 sizeOf55 (ad.gr (hC.bl a6))) ?_;refine xu rfl rfl (fun _=>Zwf rfl) ?_;refine xe rfl rfl ?_;intro jd hC0;have hC:=hC0.bl a6;replace ac:=ac.gr hC;refine Z2 ac ?_;intro je dv gd et;refine Zm<|xk a6<|xu rfl rfl (fun _=>Zmn rfl) ?_;refine W3 ?_;replace ai:=(ai.gr hC).kp dv;replace aj:=(aj.gr hC).kp dv;replace ak:=(ak.gr hC).kp dv;replace al:=(al.gr hC).kp dv;replace ah:=(ah.gr hC).kp dv;replace aa:=(aa.grow hC).kp dv gd;intro jf hC;replace hC:=hC.bl a6;refine Vp ?_;cases hm;replace ai:=ai.gr hC;replace aj:=aj.gr hC;replace ak:=ak.gr hC;replace al:=al.gr hC;replace ah:=ah.gr hC;replace et:=et.gr hC;replace aa:=aa.grow hC;exact ⟨rfl,_,Zmy rfl rfl rfl rfl isAgg55 sizeOf55 rfl rfl et.atN rfl rfl,_,_,_,_,_,_,_,_,_,_,_,rfl,aa.fin (cm [(3,c1)]),aa.fo ah,aa.fs ai,aa.fs aj,aa.fs ak,aa.fs al⟩
 | cons c3 eu=>
  obtain ⟨dn,ge,gf⟩:=Y1 hl;have hk:(d4:Int)<(c7.length:Int):=by omega
  have hkb:=decide_eq_true hk;rw [Qh.eq_2] at hm;refine go ?_;refine Yw (congrArg Value.bool hkb)<|go ?_;refine lI dn ((h1.ks aa).addr dn)<|lW ((h1.ks aa).atInt dn) ?_;refine go ?_;refine X3 ab<|Yn rfl ?_;obtain ⟨d6,ew,hm⟩:=bZ hm;refine lI ew ((ec.ks aa).addr ew) ?_;obtain ⟨_,gg,gh⟩:=(ec.ks aa).atN ew;obtain ⟨⟨gi,gj,rfl,c4⟩,_⟩:=gg;refine lW gh.one<|go ?_;refine Xe [10,12,2,29,3,30,31,39,40,7,9,1000000] (fun n f be=>∃ a2 ca d7 d8,n=d8.length∧d6.drop d7=d8∧Za1 N ag cv b0 b1 c9 b3 b4 b2 da b5 b6 df b7 b8 b9 (Qh N ag eu) c3 d8 ca=some r∧St w0 (Zk col) a2 be∧Sl (Za.int .u32) a2 be ci cj b0∧Sl (Za.int .u32) a2 be ck cl b1∧Sl (Za.int .u32) a2 be cw cx b3∧Sl (Za.int .u32) a2 be cy cz b4∧Zo 55 8 a2 be es #[.bool cv,.slice ci b0.length cj,.slice ck b1.length cl,.bool c9,.slice cw b3.length cx,.slice cy b4.length cz]∧Sl (Za.int .i64) a2 be c0 c2 b2∧Zo 39 999 a2 be g3 #[.slice c0 b2.length c2]∧Zo 27 1 a2 be d2 #[.string ag.1,.slice d0 ag.2.1.length dy,.slice cr ag.2.2.1.length c5,.slice d1 ag.2.2.2.1.length dz,.slice ct ag.2.2.2.2.length c6]∧Sl (Za.int .i64) a2 be gi gj d6∧Zc (Za.int .u32) 77 9 a2 be db dc b5∧Zc (Za.int .u32) 77 10 a2 be dd de b6∧Zc (Za.int .u32) 77 11 a2 be dg dh b7∧Zc (Za.int .u32) 77 12 a2 be di dj b8∧Zo 55 2 a2 be eo #[.bool da,.slice db b5.length dc,.slice dd b6.length de,.bool df,.slice dg b7.length dh,.slice di b8.length dj]∧Zc (Za.int .i64) 3 3 a2 be dl dm b9∧[41,13].map f=[.int .i64 d7,.int .i64 ca]) d6.length ⟨_,0,0,_,rfl,rfl,hm,aa,ai,aj,ak,al,ad,am,hb3,ab,c4,an,ao,ap,aq,ac,ah,rfl⟩ ?_;clear hm;intro n f be hI;obtain ⟨a2,ca,d7,d8,hn,hl,hm,aa,ai,aj,ak,al,ad,am,hb3,ab,c4,an,ao,ap,aq,ac,ah,hs⟩:=hI;subst hn;refine .lL [41,13] hs ?_
  cases d8 with
  | nil=>
   have hk:¬ ((d7:Int)<(d6.length:Int)):=by have:=List.drop_eq_nil_iff.1 hl;omega
   have hkb:=decide_eq_false hk;rw [Za1.eq_1] at hm;refine go ?_;refine Yv (congrArg Value.bool hkb)<|go ?_;refine X8 ⟨_,_,rfl⟩ ?_;refine lV (.agg #[.bool c9,.slice cw b3.length cx,.slice cy b4.length cz]) (Xt isAgg35 sizeOf35 rfl rfl ((ad.atN).part 3 3 _ rfl))<|X8 ⟨_,_,rfl⟩ ?_;refine lV (.agg #[.bool cv,.slice ci b0.length cj,.slice ck b1.length cl]) (Xt isAgg35 sizeOf35 rfl rfl ((ad.atN).part 0 3 _ rfl)) ?_;obtain ⟨cn,gk,hm⟩:=bZ hm;refine Zi (Znq 13 14 gk ak al ai aj) ?_;rintro _ jg ⟨gl,ey,ez,e0,e1,rfl,bj,a9,ba⟩;refine ⟨_,rfl,?_⟩;refine Xl (col:=gl) #[.bool false,.slice none (([]:List Int).length) 0,.slice none (([]:List Int).length) 0] 15 zeroValue35 ?_;intro gm jh gp bf gs;refine Z2 gs ?_;intro ji bg gt a3;refine go ?_;refine X8 ⟨_,_,rfl⟩ ?_;replace ad:=((ad.gr bj).gr bf).kp bg;refine lV (.agg #[.bool cv,.slice ci b0.length cj,.slice ck b1.length cl]) (Xt isAgg35 sizeOf35 rfl rfl ((ad.atN).part 0 3 _ rfl))<|Xl (col:=gp) #[.bool false,.slice none (([]:List Int).length) 0,.slice none (([]:List Int).length) 0] 16 zeroValue35 ?_;intro gu jj jk bc gv;refine Z2 gv ?_;intro jl bd gw a7;refine go ?_;refine X8 ⟨_,_,rfl⟩ ?_;replace ab:=((((ab.gr bj).gr bf).kp bg).gr bc).kp bd;refine lW ((ab.atN).nth (q:=2) rfl)<|Yn rfl ?_;obtain ⟨gx,e2,hm⟩:=bZ hm;replace aa:=((((aa.grow bj).grow bf).kp bg gt).grow bc).kp bd gw;refine lI e2 ((cu.ks aa).addr e2) ?_;obtain ⟨_,gy,gz⟩:=(cu.ks aa).atN e2;obtain ⟨⟨jm,jn,rfl,jo⟩,_⟩:=gy;refine lW gz.one<|go ?_;replace ai:=((((ai.gr bj).gr bf).kp bg).gr bc).kp bd;replace aj:=((((aj.gr bj).gr bf).kp bg).gr bc).kp bd;replace ak:=((((ak.gr bj).gr bf).kp bg).gr bc).kp bd;replace al:=((((al.gr bj).gr bf).kp bg).gr bc).kp bd;replace am:=((((am.gr bj).gr bf).kp bg).gr bc).kp bd;replace an:=((((an.gr bj).gr bf).kp bg).gr bc).kp bd;replace ao:=((((ao.gr bj).gr bf).kp bg).gr bc).kp bd;replace ap:=((((ap.gr bj).gr bf).kp bg).gr bc).kp bd;replace aq:=((((aq.gr bj).gr bf).kp bg).gr bc).kp bd;replace ah:=((((ah.gr bj).gr bf).kp bg).gr bc).kp bd;replace hb3:=((((hb3.gr bj).gr bf).kp bg).gr bc).kp bd
   replace ac:=((((ac.gr bj).gr bf).kp bg).gr bc).kp bd;replace a9:=(((a9.gr bf).kp bg).gr bc).kp bd;replace ba:=(((ba.gr bf).kp bg).gr bc).kp bd;replace ad:=(ad.gr bc).kp bd;replace a3:=(a3.gr bc).kp bd;refine Xe [10,12,13,16,17,2,29,3,30,31,7,71,9,1000000] (fun n f af=>∃ ae cb dp dq cc dr ds cd ef eg d9 dt dw,dw=n∧Zdi N ag b2 da b5 b6 df b7 b8 b9 (Qh N ag eu) c3 ca cn gx dw cb cc cd d9 dt=some r∧St w0 (Zk col) ae af∧Sl (Za.int .u32) ae af ci cj b0∧Sl (Za.int .u32) ae af ck cl b1∧Sl (Za.int .u32) ae af cw cx b3∧Sl (Za.int .u32) ae af cy cz b4∧Zo 55 8 ae af es #[.bool cv,.slice ci b0.length cj,.slice ck b1.length cl,.bool c9,.slice cw b3.length cx,.slice cy b4.length cz]∧Zc (Za.int .u32) 77 13 ae af ey ez cn.1.2∧Zc (Za.int .u32) 77 14 ae af e0 e1 cn.2∧Zo 35 15 ae af gm #[.bool cn.1.1,.slice ey cn.1.2.length ez,.slice e0 cn.2.length e1]∧Sl (Za.int .u32) ae af dp dq cc∧Sl (Za.int .u32) ae af dr ds cd∧Zo 35 16 ae af gu #[.bool cb,.slice dp cc.length dq,.slice dr cd.length ds]∧Zc (Za.pair (Za.pair (Za.pair Za.bool (Za.slice (Za.int .u32))) (Za.slice (Za.int .u32))) (Za.pair (Za.pair Za.bool (Za.slice (Za.int .u32))) (Za.slice (Za.int .u32)))) 55 17 ae af ef eg d9∧Sl (Za.int .i64) ae af c0 c2 b2∧Zo 39 999 ae af g3 #[.slice c0 b2.length c2]∧Zo 27 1 ae af d2 #[.string ag.1,.slice d0 ag.2.1.length dy,.slice cr ag.2.2.1.length c5,.slice d1 ag.2.2.2.1.length dz,.slice ct ag.2.2.2.2.length c6]∧Zc (Za.int .u32) 77 9 ae af db dc b5∧Zc (Za.int .u32) 77 10 ae af dd de b6∧Zc (Za.int .u32) 77 11 ae af dg dh b7∧Zc (Za.int .u32) 77 12 ae af di dj b8∧Zo 55 2 ae af eo #[.bool da,.slice db b5.length dc,.slice dd b6.length de,.bool df,.slice dg b7.length dh,.slice di b8.length dj]∧Zc (Za.int .i64) 3 3 ae af dl dm b9∧[18,72].map f=[.slice ef d9.length eg,.int .i64 dt]) N ⟨_,_,_,_,_,_,_,_,none,0,_,0,_,rfl,hm,aa,ai,aj,ak,al,ad,a9,ba,a3,ai,aj,a7,Zc.nil,am,hb3,ab,an,ao,ap,aq,ac,ah,rfl⟩ ?_;clear hm;intro n f af hI
   obtain ⟨ae,cb,dp,dq,cc,dr,ds,cd,ef,eg,d9,dt,dw,hn,hm,aa,ai,aj,ak,al,ad,a9,ba,a3,bm,bn,a7,bb,am,hb3,ab,an,ao,ap,aq,ac,ah,hs⟩:=hI;subst hn;refine .lL [18,72] hs ?_
   cases dw with
   | zero=>rw [Zdi.eq_1] at hm;cases hm
   | succ dw=>
    rw [Zdi.eq_2] at hm;refine go ?_;refine Zs hm (fun hb hm=>go ?_) fun hb hm=>go ?_
    ·have a4:=Zz.clip (fun _=>false) ae af;refine Zeq (col:=ae) [(0,0),(1,0),(2,1),(3,0),(4,1),(5,1),(6,0),(7,1),(8,1),(9,0),(10,1),(11,1),(12,0),(13,1),(14,1),(15,1),(16,1),(17,1),(18,0),(19,3),(20,3),(21,4),(22,2)] (by kernel_rfl) (by kernel_rfl) ⟨fun h=>absurd h (by decide),fun h=>absurd h (by decide),fun h=>absurd h (by decide),fun h=>absurd h (by decide),fun h=>absurd h (by decide),fun h=>absurd h (by decide),fun h=>absurd h (by decide),fun h=>absurd h (by decide),fun h=>absurd h (by decide),fun h=>absurd h (by decide),fun h=>absurd h (by decide),fun h=>absurd h (by decide),fun h=>absurd h (by decide),fun h=>absurd h (by decide),fun h=>absurd h (by decide),fun h=>absurd h (by decide),fun h=>absurd h (by decide),fun h=>absurd h (by decide),fun h=>absurd h (by decide),fun h=>absurd h (by decide),fun h=>absurd h (by decide),fun _=>⟨_,_,_,rfl,Uu zeroValue35⟩,fun h=>absurd h (by decide),trivial⟩ ?_;replace a7:=a7.kpp a4;refine Wn (v:=(.agg #[.bool cb,.slice dp cc.length dq,.slice dr cd.length ds])) rfl rfl (fun _ hC=>Xt isAgg35 sizeOf35 rfl rfl (a7.atN.gr (hC.bl (Zf af ae)))) ?_;replace a3:=a3.kpp a4;refine Wn (v:=(.agg #[.bool cn.1.1,.slice ey cn.1.2.length ez,.slice e0 cn.2.length e1])) rfl rfl (fun _ hC=>Xt isAgg35 sizeOf35 rfl rfl (a3.atN.gr (hC.bl (Zf af ae)))) ?_;refine X9 (v:=(.pointer ((some (⟨d2,0,none⟩:Addr)).map (·.add 4)))) rfl rfl (fun _=>Sj (sz:=1) (off:=4) underlying27 rfl sizeOf25 (by decide) rfl rfl ⟨_,_,rfl⟩) ?_;replace ab:=ab.kpp a4;refine Wn (v:=(.slice ct ag.2.2.2.2.length c6)) rfl rfl (fun _ hC=>Sk isAgg25 rfl (((ab.atN).nth (q:=4) (v:=(.slice ct ag.2.2.2.2.length c6)) rfl).gr (hC.bl (Zf af ae)))) ?_;refine X9 (v:=(.int .i64 c3)) rfl rfl (fun _=>Wm rfl) ?_;obtain ⟨g0,eh,hm⟩:=bZ hm;replace aa:=aa.kpp a4;refine X9 (v:=(X0 ct (Int.toNat c3 * 1))) rfl rfl (fun _=>We underlying25 sizeOf71 rfl rfl (Xk eh).1 (Xk eh).2.1 ((ed.ks aa).addr eh)) ?_;obtain ⟨_,g1,g2⟩:=(ed.ks aa).atN eh;obtain ⟨⟨ft,g4,rfl,fu⟩,_⟩:=g1;refine Wn (v:=(.slice ft g0.length g4)) rfl rfl (fun _ hC=>Sk isAgg71 rfl (g2.one.gr (hC.bl (Zf af ae)))) ?_;refine X9 (v:=(.int .i64 ca)) rfl rfl (fun _=>Wm rfl) ?_;refine X9 (v:=(.pointer ((some (⟨d2,0,none⟩:Addr)).map (·.add 2)))) rfl rfl (fun _=>Sj (sz:=1) (off:=2) underlying27 rfl sizeOf23 (by decide) rfl rfl ⟨_,_,rfl⟩) ?_
     refine Wn (v:=(.slice cr ag.2.2.1.length c5)) rfl rfl (fun _ hC=>Sk isAgg23 rfl (((ab.atN).nth (q:=2) (v:=(.slice cr ag.2.2.1.length c5)) rfl).gr (hC.bl (Zf af ae)))) ?_;refine X9 (v:=(.int .i64 c3)) rfl rfl (fun _=>Wm rfl) ?_;obtain ⟨du,ei,hm⟩:=bZ hm;refine X9 (v:=(X0 cr (Int.toNat c3 * 1))) rfl rfl (fun _=>We underlying23 sizeOf22 rfl rfl (Xk ei).1 (Xk ei).2.1 ((cu.ks aa).addr ei)) ?_;obtain ⟨_,g5,g6⟩:=(cu.ks aa).atN ei;obtain ⟨⟨g7,g8,rfl,jp⟩,_⟩:=g5;refine Wn (v:=(.slice g7 du.length g8)) rfl rfl (fun _ hC=>Sk isAgg22 rfl (g6.one.gr (hC.bl (Zf af ae)))) ?_;refine X9 (v:=(.int .i64 du.length)) rfl rfl (fun _=>Zc0 underlying22 rfl) ?_;refine X9 (v:=(.int .i64 (i64.wrap (ca * (du.length:Int))))) rfl rfl (fun _=>Zel ca (du.length:Int) rfl rfl) ?_;refine X9 (v:=(.int .i64 dt)) rfl rfl (fun _=>Wm rfl) ?_;refine X9 (v:=(.int .i64 (i64.wrap ((i64.wrap (ca * (du.length:Int)))+dt)))) rfl rfl (fun _=>S8 (i64.wrap (ca * (du.length:Int))) dt rfl rfl) ?_;obtain ⟨e3,ej,hm⟩:=bZ hm;refine X9 (v:=(X0 ft (Int.toNat (i64.wrap ((i64.wrap (ca * (du.length:Int)))+dt)) * 3))) rfl rfl (fun _=>We underlying71 sizeOf35 rfl rfl (Xk ej).1 (Xk ej).2.1 (fu.addr ej)) ?_;obtain ⟨_,g9,ha⟩:=fu.atN ej;obtain ⟨_,_,rfl,hc,hd⟩:=Vu g9;obtain ⟨_,_,rfl,he,hf⟩:=Vu hc;obtain ⟨rfl,_⟩:=he;obtain ⟨⟨hg,hh,rfl,e4⟩,_⟩:=hf;obtain ⟨⟨hi,hj,rfl,e5⟩,_⟩:=hd;refine Wn (v:=(.agg #[.bool e3.1.1,.slice hg e3.1.2.length hh,.slice hi e3.2.length hj])) rfl rfl (fun _ hC=>Xt isAgg35 sizeOf35 rfl rfl (ha.gr (hC.bl (Zf af ae)))) ?_;refine Ww rfl rfl ?_;intro ho hC0;have hC:=hC0.bl (Zf af ae);obtain ⟨jq,hp,hm⟩:=bZ hm;replace a9:=(a9.kpp a4).gr hC;replace ba:=(ba.kpp a4).gr hC;replace e4:=e4.gr hC;replace e5:=e5.gr hC;refine Zi (Zex 18 19 hp ((a9.toSlF (Zh.int .u32)).froz 14) ((ba.froz 13 (by decide)).toSlF (Zh.int .u32)) ((e4.froz 13).froz 14) ((e5.froz 13).froz 14)) ?_;rintro _ ce ⟨hq,jr,js,jt,ju,rfl,ar,ea,eb⟩;refine ⟨_,rfl,?_⟩;replace ea:=ea.thaw (Z0 .u32) ar (((Fz.refl (col:=(Zf af ae))).froz 13).froz 14) (by decide)
     replace eb:=eb.thaw (Z0 .u32) ar (((Fz.refl (col:=(Zf af ae))).froz 13).froz 14) (by decide);replace ar:=ar.thawR (col:=(Zf af ae));generalize Xa ho.heap.size (Zf af ae) hq=co at *;refine Zm ?_;refine ⟨fun w'=>Zg (Zf ce co) ce (Zf ce co) w',fun g=>(Zf ce co) g=497,Zg.refl _ _,Wk,fun _=>⟨fun _ h=>Vw hC0 ar h,fun b hb=>ar.below.block b hb,fun g x1 x2=>V3 ar g x1 (by first | exact x2 | (simp only [Xr,x2];rfl) | (simp only [Xr,Xf,x2];rfl))⟩,?_⟩;have aw:=Zz.clip (fun _=>false) co ce;refine Ww rfl rfl ?_;intro hr hC0;replace ai:=(((ai.kpp a4).gr hC).gr ar).kpp aw;replace aj:=(((aj.kpp a4).gr hC).gr ar).kpp aw;replace ak:=(((ak.kpp a4).gr hC).gr ar).kpp aw;replace al:=(((al.kpp a4).gr hC).gr ar).kpp aw;replace bm:=(((bm.kpp a4).gr hC).gr ar).kpp aw;replace bn:=(((bn.kpp a4).gr hC).gr ar).kpp aw;replace bb:=(((bb.kpp a4).gr hC).gr ar).kpp aw;replace am:=(((am.kpp a4).gr hC).gr ar).kpp aw;replace an:=(((an.kpp a4).gr hC).gr ar).kpp aw;replace ao:=(((ao.kpp a4).gr hC).gr ar).kpp aw;replace ap:=(((ap.kpp a4).gr hC).gr ar).kpp aw;replace aq:=(((aq.kpp a4).gr hC).gr ar).kpp aw;replace ah:=(((ah.kpp a4).gr hC).gr ar).kpp aw;replace ad:=(((ad.kpp a4).gr hC).gr ar).kpp aw;replace hb3:=(((hb3.kpp a4).gr hC).gr ar).kpp aw;replace ac:=(((ac.kpp a4).gr hC).gr ar).kpp aw;replace a3:=((a3.gr hC).gr ar).kpp aw;replace a7:=((a7.gr hC).gr ar).kpp aw;replace ab:=((ab.gr hC).gr ar).kpp aw;replace aa:=((aa.grow hC).grow ar).kpp aw;have hC:=hC0.bl (Zf ce co);obtain ⟨bi,ht,hm⟩:=bZ hm;replace ea:=(ea.kpp aw).gr hC;replace eb:=(eb.kpp aw).gr hC;replace bm:=bm.gr hC;replace bn:=bn.gr hC;refine Zi (Zev 20 21 ht ((bm.froz 18).froz 19) ((bn.froz 18).froz 19) ((ea.toSlF (Zh.int .u32)).froz 19) ((eb.froz 18 (by decide)).toSlF (Zh.int .u32))) ?_;rintro _ bk ⟨hu,e6,e7,e8,e9,rfl,au,bo,bp⟩;refine ⟨_,rfl,?_⟩;replace bo:=bo.thaw (Z0 .u32) au (((Fz.refl (col:=(Zf ce co))).froz 18).froz 19) (by decide);replace bp:=bp.thaw (Z0 .u32) au (((Fz.refl (col:=(Zf ce co))).froz 18).froz 19) (by decide);replace au:=au.thawR (col:=(Zf ce co))
     generalize Xa hr.heap.size (Zf ce co) hu=bq at *;refine Zm ?_;refine ⟨fun w'=>Zg (Zf bk bq) bk (Zf bk bq) w',fun g=>(Zf bk bq) g=497,Zg.refl _ _,Wk,fun _=>⟨fun _ h=>Vw hC0 au h,fun b hb=>au.below.block b hb,fun g x1 x2=>V3 au g x1 (by first | exact x2 | (simp only [Xr,x2];rfl) | (simp only [Xr,Xf,x2];rfl))⟩,?_⟩;have ax:=Zz.clip (fun _=>false) bq bk;refine Zc6 rfl rfl (Uu zeroValue35) ?_;intro cp hv;refine Ww rfl rfl ?_;intro hw ⟨hC0,hZ0⟩;replace a9:=((((a9.gr ar).kpp aw).gr hC).gr au).kpp ax;replace ba:=((((ba.gr ar).kpp aw).gr hC).gr au).kpp ax;replace ai:=((ai.gr hC).gr au).kpp ax;replace aj:=((aj.gr hC).gr au).kpp ax;replace ak:=((ak.gr hC).gr au).kpp ax;replace al:=((al.gr hC).gr au).kpp ax;replace bb:=((bb.gr hC).gr au).kpp ax;replace am:=((am.gr hC).gr au).kpp ax;replace an:=((an.gr hC).gr au).kpp ax;replace ao:=((ao.gr hC).gr au).kpp ax;replace ap:=((ap.gr hC).gr au).kpp ax;replace aq:=((aq.gr hC).gr au).kpp ax;replace ah:=((ah.gr hC).gr au).kpp ax;replace ad:=((ad.gr hC).gr au).kpp ax;replace a3:=((a3.gr hC).gr au).kpp ax;replace a7:=((a7.gr hC).gr au).kpp ax;replace hb3:=((hb3.gr hC).gr au).kpp ax;replace ab:=((ab.gr hC).gr au).kpp ax;replace ac:=((ac.gr hC).gr au).kpp ax;replace aa:=((aa.grow hC).grow au).kpp ax;have hC:=hC0.bl (Zf bk bq);obtain ⟨ay,fa⟩:=Zbu (col:=(Zf bk bq)) 22 hZ0 hv;replace fa:Zo 35 22 (Z3 cp 22 (Zf bk bq)) hw cp #[.bool false,.slice none (([]:List Int).length) 0,.slice none (([]:List Int).length) 0]:=fa;refine Z2 fa ?_;intro cq az hx cf;refine Zm ?_;refine ⟨fun w'=>Zg (Zf cq (Z3 cp 22 (Zf bk bq))) cq (Zf cq (Z3 cp 22 (Zf bk bq))) w',fun g=>(Zf cq (Z3 cp 22 (Zf bk bq))) g=497,Zg.refl _ _,Wk,fun h=>absurd h (by decide),?_⟩;have av:=Zz.clip (fun _=>false) (Z3 cp 22 (Zf bk bq)) cq;refine Zer ?_;replace bm:=(((((bm.gr au).kpp ax).gr hC).kpp ay).kp az).kpp av;replace bn:=(((((bn.gr au).kpp ax).gr hC).kpp ay).kp az).kpp av;replace bo:=((((bo.kpp ax).gr hC).kpp ay).kp az).kpp av;replace bp:=((((bp.kpp ax).gr hC).kpp ay).kp az).kpp av;replace ai:=(((ai.gr hC).kpp ay).kp az).kpp av;replace aj:=(((aj.gr hC).kpp ay).kp az).kpp av
     replace ak:=(((ak.gr hC).kpp ay).kp az).kpp av;replace al:=(((al.gr hC).kpp ay).kp az).kpp av;replace a9:=(((a9.gr hC).kpp ay).kp az).kpp av;replace ba:=(((ba.gr hC).kpp ay).kp az).kpp av;replace bb:=(((bb.gr hC).kpp ay).kp az).kpp av;replace am:=(((am.gr hC).kpp ay).kp az).kpp av;replace an:=(((an.gr hC).kpp ay).kp az).kpp av;replace ao:=(((ao.gr hC).kpp ay).kp az).kpp av;replace ap:=(((ap.gr hC).kpp ay).kp az).kpp av;replace aq:=(((aq.gr hC).kpp ay).kp az).kpp av;replace ah:=(((ah.gr hC).kpp ay).kp az).kpp av;replace ad:=(((ad.gr hC).kpp ay).kp az).kpp av;replace a3:=(((a3.gr hC).kpp ay).kp az).kpp av;replace a7:=(((a7.gr hC).kpp ay).kp az).kpp av;replace hb3:=(((hb3.gr hC).kpp ay).kp az).kpp av;replace ab:=(((ab.gr hC).kpp ay).kp az).kpp av;replace ac:=(((ac.gr hC).kpp ay).kp az).kpp av;replace aa:=(((aa.grow hC).kpp ay).kp az hx).kpp av;intro hy hC;replace hC:Zg (Zf cq (Z3 cp 22 (Zf bk bq))) cq (Zf cq (Z3 cp 22 (Zf bk bq))) hy:=.of_below hC.below;refine go ?_;replace a7:=a7.gr hC;refine lV _ (Xj isAgg35 sizeOf35 a7) ?_;replace cf:=(cf.kpp av).gr hC;refine lV _ (Xj isAgg35 sizeOf35 cf)<|lV (.agg #[.bool cb,.slice dp cc.length dq,.slice dr cd.length ds,.bool bi.1.1,.slice e6 bi.1.2.length e7,.slice e8 bi.2.length e9]) (Yk (l:=[_,_]) (qs:=[(0,3),(3,3)]) underlying55 zeroValue55 ⟨rfl,sizeOf35,rfl,sizeOf35,trivial⟩ rfl) ?_;replace ai:=ai.gr hC;replace ai:=ai.froz 21;replace aj:=aj.gr hC;replace aj:=aj.froz 21;replace ak:=ak.gr hC;replace ak:=ak.froz 21;replace al:=al.gr hC;replace al:=al.froz 21;replace a9:=a9.gr hC;replace a9:=a9.froz 21 (by decide);replace ba:=ba.gr hC;replace ba:=ba.froz 21 (by decide);replace bm:=bm.gr hC;replace bm:=bm.froz 21;replace bn:=bn.gr hC;replace bn:=bn.froz 21;replace am:=am.gr hC;replace am:=am.froz 21;replace an:=an.gr hC;replace an:=an.froz 21 (by decide);replace ao:=ao.gr hC;replace ao:=ao.froz 21 (by decide);replace ap:=ap.gr hC;replace ap:=ap.froz 21 (by decide);replace aq:=aq.gr hC;replace aq:=aq.froz 21 (by decide);replace ah:=ah.gr hC;replace ah:=ah.froz 21 (by decide);replace bo:=bo.gr hC;replace bo:=bo.froz 21 (by decide);replace bp:=bp.gr hC;replace bp:=(bp).toSlF (Zh.int .u32);replace bb:=bb.gr hC
     replace bb:=bb.froz 21 (by decide);replace ad:=ad.gr hC;replace ad:=ad.froz 21 (by decide);replace a3:=a3.gr hC;replace a3:=a3.froz 21 (by decide);replace a7:=a7.froz 21 (by decide);replace hb3:=hb3.gr hC;replace hb3:=hb3.froz 21 (by decide);replace ab:=ab.gr hC;replace ab:=ab.froz 21 (by decide);replace ac:=ac.gr hC;replace ac:=ac.froz 21 (by decide);replace cf:=cf.froz 21 (by decide);replace aa:=aa.grow hC;replace aa:=aa.froz 21 (by decide) (by decide);replace ai:=ai.froz 20;replace aj:=aj.froz 20;replace ak:=ak.froz 20;replace al:=al.froz 20;replace a9:=a9.froz 20 (by decide);replace ba:=ba.froz 20 (by decide);replace bm:=bm.froz 20;replace bn:=bn.froz 20;replace am:=am.froz 20;replace an:=an.froz 20 (by decide);replace ao:=ao.froz 20 (by decide);replace ap:=ap.froz 20 (by decide);replace aq:=aq.froz 20 (by decide);replace ah:=ah.froz 20 (by decide);replace bo:=(bo).toSlF (Zh.int .u32);replace bp:=bp.froz 20;replace bb:=bb.froz 20 (by decide);replace ad:=ad.froz 20 (by decide);replace a3:=a3.froz 20 (by decide);replace a7:=a7.froz 20 (by decide);replace hb3:=hb3.froz 20 (by decide);replace ab:=ab.froz 20 (by decide);replace ac:=ac.froz 20 (by decide);replace cf:=cf.froz 20 (by decide);replace aa:=aa.froz 20 (by decide) (by decide);refine Zay (col:=(Xr 20 (Xr 21 (Zf cq (Z3 cp 22 (Zf bk bq)))))) (r:=(Za.pair (Za.pair (Za.pair Za.bool (Za.slice (Za.int .u32))) (Za.slice (Za.int .u32))) (Za.pair (Za.pair Za.bool (Za.slice (Za.int .u32))) (Za.slice (Za.int .u32))))) (xs:=[(((cb,cc),cd),((bi.1.1,bi.1.2),bi.2))]) [(.agg #[.bool cb,.slice dp cc.length dq,.slice dr cd.length ds,.bool bi.1.1,.slice e6 bi.1.2.length e7,.slice e8 bi.2.length e9])] 23 (Wd.ofF (Rows.consF (r:=(Za.pair (Za.pair (Za.pair Za.bool (Za.slice (Za.int .u32))) (Za.slice (Za.int .u32))) (Za.pair (Za.pair Za.bool (Za.slice (Za.int .u32))) (Za.slice (Za.int .u32))))) (x:=(((cb,cc),cd),((bi.1.1,bi.1.2),bi.2))) (cs:=[.bool cb,.slice dp cc.length dq,.slice dr cd.length ds,.bool bi.1.1,.slice e6 bi.1.2.length e7,.slice e8 bi.2.length e9]) (S9 (S9 (S9 (Qt cb) (Qv bm)) (Qv bn)) (S9 (S9 (Qt bi.1.1) (Qv bo)) (Qv bp))) Rows.nil0)) ?_;intro jv jw jx a0 hz;obtain ⟨h0,hm⟩:=Xc hm;replace bb:=bb.gr a0
     refine T7 bb (hz.srcN (NB.pair (NB.pair (NB.pair NB.bool NB.slice) NB.slice) (NB.pair (NB.pair NB.bool NB.slice) NB.slice))) h0 ?_;intro jy jz j0 j1 a5 fb;refine go ?_;replace cf:=(cf.gr a0).kpp a5;refine lV _ (Xj isAgg35 sizeOf35 cf) ?_;replace a7:=(a7.gr a0).kpp a5;refine Z2 a7 ?_;intro j2 a8 h2 h3;refine go ?_;replace ai:=((ai.gr a0).kpp a5).kp a8;replace aj:=((aj.gr a0).kpp a5).kp a8;replace ak:=((ak.gr a0).kpp a5).kp a8;replace al:=((al.gr a0).kpp a5).kp a8;replace a9:=((a9.gr a0).kpp a5).kp a8;replace ba:=((ba.gr a0).kpp a5).kp a8;replace am:=((am.gr a0).kpp a5).kp a8;replace an:=((an.gr a0).kpp a5).kp a8;replace ao:=((ao.gr a0).kpp a5).kp a8;replace ap:=((ap.gr a0).kpp a5).kp a8;replace aq:=((aq.gr a0).kpp a5).kp a8;replace ah:=((ah.gr a0).kpp a5).kp a8;replace bo:=((bo.gr a0).kpp a5).kp a8;replace bp:=((bp.gr a0).kpp a5).kp a8;replace ad:=((ad.gr a0).kpp a5).kp a8;replace a3:=((a3.gr a0).kpp a5).kp a8;replace hb3:=((hb3.gr a0).kpp a5).kp a8;replace ab:=((ab.gr a0).kpp a5).kp a8;replace ac:=((ac.gr a0).kpp a5).kp a8;replace aa:=((aa.grow a0).kpp a5).kp a8 h2;replace fb:=fb.kp a8;exact ⟨dw,by omega,rfl,⟨_,_,_,_,_,_,_,_,_,_,_,_,_,rfl,hm,aa,ai,aj,ak,al,ad,a9,ba,a3,bo,bp,h3,fb,am,hb3,ab,an,ao,ap,aq,ac,ah,rfl⟩⟩
    refine lM (.func (.func 63) #[] #[.pointer (some ⟨g3,0,none⟩)])<|go ?_;obtain ⟨fc,h4,hm⟩:=bZ hm;refine lc rfl rfl (Zwh call63 rfl rfl rfl) (Zy6 (Xr 17 ae) _ 999 (by decide) c3 ef eg d9 g3 b2 c0 c2 (bb.toSlF (Zh.pair (Zh.pair (Zh.pair Zh.bool Zh.slice) Zh.slice) (Zh.pair (Zh.pair Zh.bool Zh.slice) Zh.slice))) (am.froz 17) (hb3.froz 17 (by decide)) fc h4) ?_;rintro _ h5 ⟨rfl,br⟩;refine ⟨_,rfl,?_⟩;replace br:Zg ae af ae h5:=.of_below br;refine go ?_;replace bb:=bb.gr br;replace am:=am.gr br;replace an:=an.gr br;replace ao:=ao.gr br;replace ap:=ap.gr br;replace aq:=aq.gr br;replace ah:=ah.gr br;replace ad:=ad.gr br;replace hb3:=hb3.gr br;replace ab:=ab.gr br;replace ac:=ac.gr br;replace aa:=aa.grow br;refine Zs hm (fun hb hm=>go ?_) fun hb hm=>go ?_
    ·refine lV (.agg #[.bool false,.slice none (([]:List Int).length) 0,.slice none (([]:List Int).length) 0,.bool false,.slice none (([]:List Int).length) 0,.slice none (([]:List Int).length) 0]) (Yk (l:=[_,_]) (qs:=[(0,3),(3,3)]) underlying55 zeroValue55 ⟨rfl,sizeOf35,rfl,sizeOf35,trivial⟩ rfl)<|Sv rfl<|Z2 ac ?_;intro j3 h6 h7 h8;refine go ?_;cases hm;replace aa:=aa.kp h6 h7;exact ⟨rfl,_,Zmy rfl rfl rfl rfl isAgg55 sizeOf55 rfl rfl h8.atN rfl rfl,_,none,0,none,0,none,0,none,0,none,0,rfl,aa.fin (cm []),Zc.nil,Sl.nil,Sl.nil,Sl.nil,Sl.nil⟩
    obtain ⟨dx,fd,hm⟩:=bZ hm;refine lI fd (bb.addr fd) ?_;obtain ⟨_,h9,ia⟩:=bb.atN fd;obtain ⟨_,_,rfl,ib,ic⟩:=h9.parts;obtain ⟨_,_,rfl,id,ie⟩:=ib.parts;obtain ⟨_,_,rfl,ig,ih⟩:=id.parts;obtain rfl:=ig.bool;obtain ⟨ii,ij,rfl,fe⟩:=ih.slice;obtain ⟨ik,il,rfl,ff⟩:=ie.slice;obtain ⟨_,_,rfl,im,io⟩:=ic.parts;obtain ⟨_,_,rfl,ip,iq⟩:=im.parts;obtain rfl:=ip.bool;obtain ⟨ir,it,rfl,fg⟩:=iq.slice;obtain ⟨iu,iv,rfl,fh⟩:=io.slice;refine lV (.agg #[.bool dx.1.1.1,.slice ii dx.1.1.2.length ij,.slice ik dx.1.2.length il,.bool dx.2.1.1,.slice ir dx.2.1.2.length it,.slice iu dx.2.2.length iv]) (Xt isAgg55 sizeOf55 rfl rfl ia) ?_;obtain ⟨j4,fi,hm⟩:=bZ hm;refine lI fi (ah.addr fi) ?_;obtain ⟨fj,ek,hm⟩:=bZ hm;have ek:fj=b9.set (Int.toNat c3) fc:=(Option.some.inj ek).symm;refine Y4 (x1:=fc) ah fi ?_;intro j5 bs iw el;rw [← ek] at el;refine .ld (d:=9) (v:=(.slice dl fj.length dm)) (congrArg (fun n=>Value.slice dl n dm) (show b9.length=fj.length by rw [ek,List.length_set])) ?_;replace ad:=ad.kp bs;refine Z2 ad ?_;intro j6 bt ix iy;refine go ?_;replace am:=(am.kp bs).kp bt;replace an:=(an.kp bs).kp bt;replace ao:=(ao.kp bs).kp bt;replace ap:=(ap.kp bs).kp bt;replace aq:=(aq.kp bs).kp bt;replace fe:=(fe.kp bs).kp bt;replace ff:=(ff.kp bs).kp bt;replace fg:=(fg.kp bs).kp bt;replace fh:=(fh.kp bs).kp bt;replace hb3:=(hb3.kp bs).kp bt;replace ab:=(ab.kp bs).kp bt;replace ac:=(ac.kp bs).kp bt;replace aa:=(aa.kp bs iw).kp bt ix;replace el:=el.kp bt;exact ⟨eu.length,by simp,rfl,⟨_,_,_,_,_,_,_,_,_,_,_,_,_,_,_,_,_,_,_,_,_,_,_,_,_,_,_,_,_,_,_,_,_,_,_,_,_,rfl,ge,hm,aa,fe,ff,fg,fh,iy,am,hb3,ab,an,ao,ap,aq,ac,el,(Y7 (congrArg (Value.int .i64) (Y3 (Nat.lt_of_lt_of_le gf (h1.ks aa).1.1))) rfl)⟩⟩
  | cons j7 iz=>
   obtain ⟨dn,i0,i1⟩:=Y1 hl;have hk:(d7:Int)<(d6.length:Int):=by omega
   have hkb:=decide_eq_true hk;rw [Za1.eq_2] at hm;refine go ?_;refine Yw (congrArg Value.bool hkb)<|go ?_;refine lI dn (c4.addr dn)<|lW (c4.atInt dn) ?_;refine go ?_;refine Ur (col:=a2) (by kernel_rfl) (by kernel_rfl)<|go ?_;refine qF ⟨_,_,rfl⟩ ?_;refine qW (fun _ hC=>((ab.atN).nth (q:=2) rfl).gr (hC.bl a2)) ?_;refine go ?_;obtain ⟨j8,fk,hm⟩:=bZ hm;refine qI fk ((cu.ks aa).addr fk) ?_;obtain ⟨_,i2,i3⟩:=(cu.ks aa).atN fk;obtain ⟨⟨j9,ka,rfl,kb⟩,_⟩:=i2;refine qW (fun _ hC=>i3.one.gr (hC.bl a2)) ?_;refine go ?_;obtain ⟨kc,fl,hm⟩:=bZ hm;refine qI fl (ah.addr fl)<|qW (fun _ hC=>(ah.gr (hC.bl a2)).atInt fl) ?_;refine go ?_;refine Vn ?_;intro kd hC;replace hC:=hC.bl a2;refine go ?_;replace ai:=ai.gr hC;replace aj:=aj.gr hC;replace ak:=ak.gr hC;replace al:=al.gr hC;replace am:=am.gr hC;replace c4:=c4.gr hC;replace an:=an.gr hC;replace ao:=ao.gr hC;replace ap:=ap.gr hC;replace aq:=aq.gr hC;replace ah:=ah.gr hC;replace ad:=ad.gr hC;replace hb3:=hb3.gr hC;replace ab:=ab.gr hC;replace ac:=ac.gr hC;replace aa:=aa.grow hC;exact ⟨iz.length,by simp,rfl,⟨_,_,_,_,rfl,i0,hm,aa,ai,aj,ak,al,ad,am,hb3,ab,c4,an,ao,ap,aq,ac,ah,(Y7 (congrArg (Value.int .i64) (Y3 (Nat.lt_of_lt_of_le i1 c4.1.1))) rfl)⟩⟩
def Zb2 (N:Nat) (aa:R0):Option R0:=
  (Uv N ((aa.1.1,aa.1.2),aa.2) ((false,([]:List Int)),([]:List Int))).bind fun ab=>some ((ab.1.1,ab.1.2),ab.2)
theorem Zrl {N aj ak:Nat} {al am:Option Addr} {col:Ze} {w0:World} {ab r:R0} (c1 c2:Nat) (hm:Zb2 N ab=some r) (ac:Sl (Za.int .u32) col w0 al aj ab.1.2) (ad:Sl (Za.int .u32) col w0 am ak ab.2):
    Calls Tryz.prog 64 #[(.agg #[.bool ab.1.1,.slice al ab.1.2.length aj,.slice am ab.2.length ak])] w0 (fun e w'=>∃ (col':Ze) (ra1:Option Addr) (rc2:Nat) (ra4:Option Addr) (rc5:Nat),e= .returned ((.agg #[.bool r.1.1,.slice ra1 r.1.2.length rc2,.slice ra4 r.2.length rc5]))∧Zg col w0 col' w'∧Zc (Za.int .u32) 77 c1 col' w' ra1 rc2 r.1.2∧Zc (Za.int .u32) 77 c2 col' w' ra4 rc5 r.2):=by
 refine Yu (m:=6) func64 rfl rfl rfl ?_;rw [Zb2.eq_1] at hm;have aa:=St.start col w0;refine go ?_;refine Xy (col:=(Zk col)) 1 rfl ?_;intro aw ax ap aq ae;refine Xl (col:=ap) #[.bool false,.slice none (([]:List Int).length) 0,.slice none (([]:List Int).length) 0] 2 zeroValue35 ?_;intro ay az a0 an af;refine go ?_;replace ae:=ae.gr an;refine lV _ (Xj isAgg35 sizeOf35 ae)<|lV (.agg #[.bool false,.slice none (([]:List Int).length) 0,.slice none (([]:List Int).length) 0]) (Yk (l:=[_,_]) (qs:=[(0,2),(2,1)]) underlying35 zeroValue35 ⟨rfl,sizeOf33,rfl,sizeOf31,trivial⟩ rfl) ?_;obtain ⟨a1,ar,hm⟩:=bZ hm;replace ac:=ac.keep (Zl.start col w0);replace ad:=ad.keep (Zl.start col w0);replace aa:=(aa.grow aq).grow an;refine Zi (Zev 3 4 ar (ac.ks aa) (ad.ks aa) Sl.nil Sl.nil) ?_;rintro _ a2 ⟨a3,a4,a5,a6,a7,rfl,ao,ag,ah⟩;refine ⟨_,rfl,?_⟩;replace af:=af.gr ao;refine Z2 af ?_;intro a8 ai au av;refine go ?_;cases hm;replace aa:=(aa.grow ao).kp ai au;replace ag:=ag.kp ai;replace ah:=ah.kp ai;exact ⟨rfl,_,ra av.atN,_,_,_,_,_,rfl,aa.fin (cm [(3,c1),(4,c2)]),aa.fo ag,aa.fo ah⟩
def Zff (aa:Nat) (ab:Bool) (ac:List Int) (ad:List Int) (ae:Bool) (af:List Int) (ag:List Int) (kk_L1:(Nat→Bool→R2→R2→Bool→R2→R2→Option Rf)) (ah:Bool):Option Rf:=
  if ah=true then (some ((((false,([]:List Int)),([]:List Int)),((false,([]:List Int)),([]:List Int))),3)) else (kk_L1 (aa+1) ab ac ad ae af ag)
def Qf (N:Nat) (aa:R1) (ad:List Int):List Int→Nat→Bool→R2→R2→Bool→R2→R2→Option Rf
  | [],ac,ae,af,ag,ah,ai,aj=>(Tm N aa.2.2.2.1).bind fun ao=>(Zfg N (aa.1,aa.2.1,aa.2.2.1,aa.2.2.2.1,aa.2.2.2.2) ao.1 ad).bind fun ab=>(Zb2 N ((ab.2.1.1.1.1,ab.2.1.1.1.2),ab.2.1.1.2)).bind fun ak=>(Zb2 N ((ab.2.1.2.1.1,ab.2.1.2.1.2),ab.2.1.2.2)).bind fun al=>some ((((ak.1.1,ak.1.2),ak.2),((al.1.1,al.1.2),al.2)),0)
  | am :: an,ac,ae,af,ag,ah,ai,aj=>if (decide (am<0))=true then (Zff ac ae af ag ah ai aj (Qf N aa ad an) true) else ((Zp aa.2.2.1 (ac:Int)).bind fun ap=>Zff ac ae af ag ah ai aj (Qf N aa ad an) (decide ((ap.length:Int)≤am)))
termination_by structural x=>x
def Za0 (N:Nat) (aa:R1) (ab:List Int):Option Rf:=
  (Um N (aa.1,aa.2.1,aa.2.2.1,aa.2.2.2.1,aa.2.2.2.2)).bind fun ac=>if (!decide (ac=0))=true then (some ((((false,([]:List Int)),([]:List Int)),((false,([]:List Int)),([]:List Int))),ac)) else (if (!decide ((ab.length:Int)=(aa.2.1.length:Int)))=true then (some ((((false,([]:List Int)),([]:List Int)),((false,([]:List Int)),([]:List Int))),3)) else (Qf N aa ab ab 0 false ([]:List Int) ([]:List Int) false ([]:List Int) ([]:List Int)))
theorem Zrk {N bj bk bm bn au:Nat} {bo bp bq br a1:Option Addr} {col:Ze} {w0:World} {ab:R1} {ag:R2} {r:Rf} (c1 c2 c3 c4:Nat) (hm:Za0 N ab ag=some r) (bs:Sl Za.str col w0 bo bj ab.2.1) (av:Sl (Za.slice Za.str) col w0 bp bk ab.2.2.1) (az:Sl (Za.slice (Za.int .i64)) col w0 bq bm ab.2.2.2.1) (bt:Sl (Za.slice (Za.pair (Za.pair Za.bool (Za.slice (Za.int .u32))) (Za.slice (Za.int .u32)))) col w0 br bn ab.2.2.2.2) (h1:Sl (Za.int .i64) col w0 a1 au ag):
    Calls Tryz.prog 19 #[(.agg #[.string ab.1,.slice bo ab.2.1.length bj,.slice bp ab.2.2.1.length bk,.slice bq ab.2.2.2.1.length bm,.slice br ab.2.2.2.2.length bn]),.slice a1 ag.length au] w0 (fun e w'=>∃ (col':Ze) (ra1:Option Addr) (rc2:Nat) (ra4:Option Addr) (rc5:Nat) (ra7:Option Addr) (rc8:Nat) (ra10:Option Addr) (rc11:Nat),e= .returned (.tuple #[(.agg #[.bool r.1.1.1.1,.slice ra1 r.1.1.1.2.length rc2,.slice ra4 r.1.1.2.length rc5,.bool r.1.2.1.1,.slice ra7 r.1.2.1.2.length rc8,.slice ra10 r.1.2.2.length rc11]),.int .i64 r.2])∧Zg col w0 col' w'∧Zc (Za.int .u32) 77 c1 col' w' ra1 rc2 r.1.1.1.2∧Zc (Za.int .u32) 77 c2 col' w' ra4 rc5 r.1.1.2∧Zc (Za.int .u32) 77 c3 col' w' ra7 rc8 r.1.2.1.2∧Zc (Za.int .u32) 77 c4 col' w' ra10 rc11 r.1.2.2):=by
 refine Yu (m:=69) func19 rfl rfl rfl ?_;rw [Za0.eq_1] at hm;have aa:=St.start col w0;refine go ?_;refine Xy (col:=(Zk col)) 1 rfl ?_;intro co d8 c5 c6 ae;refine Zku (col:=c5) (v:=(.slice a1 ag.length au)) 2 rfl rfl ?_;intro bu c7 cp cq af;replace af:Zo 39 2 cp c7 bu #[.slice a1 ag.length au]:=af;refine Xl (col:=cp) #[.bool false,.slice none (([]:List Int).length) 0,.slice none (([]:List Int).length) 0,.bool false,.slice none (([]:List Int).length) 0,.slice none (([]:List Int).length) 0] 3 zeroValue55 ?_;intro cr c8 cs b4 ac;refine go ?_;replace ae:=(ae.gr cq).gr b4;refine lV _ (Xj isAgg27 sizeOf27 ae) ?_;obtain ⟨d9,c9,hm⟩:=bZ hm;replace bs:=bs.keep (Zl.start col w0);replace av:=av.keep (Zl.start col w0);replace az:=az.keep (Zl.start col w0);replace bt:=bt.keep (Zl.start col w0);replace aa:=((aa.grow c6).grow cq).grow b4;refine Zi (Zkh c9 (bs.ks aa) (av.ks aa) (az.ks aa) (bt.ks aa)) ?_;rintro _ da ⟨rfl,aw⟩;refine ⟨_,rfl,?_⟩;replace aw:Zg cs c8 cs da:=.of_below aw;refine go ?_;replace h1:=h1.keep (Zl.start col w0);replace af:=(af.gr b4).gr aw;replace ae:=ae.gr aw;replace ac:=ac.gr aw;replace aa:=aa.grow aw;refine Zs hm (fun hb hm=>go ?_) fun hb hm=>go ?_
 ·refine lV (.agg #[.bool false,.slice none (([]:List Int).length) 0,.slice none (([]:List Int).length) 0,.bool false,.slice none (([]:List Int).length) 0,.slice none (([]:List Int).length) 0]) (Yk (l:=[_,_]) (qs:=[(0,3),(3,3)]) underlying55 zeroValue55 ⟨rfl,sizeOf35,rfl,sizeOf35,trivial⟩ rfl)<|Yn rfl<|Z2 ac ?_;intro ea db dc dd;refine go ?_;cases hm;replace aa:=aa.kp db dc;exact ⟨rfl,_,Tw dd.atN,_,none,0,none,0,none,0,none,0,rfl,aa.fin (cm []),Zc.nil,Zc.nil,Zc.nil,Zc.nil⟩
 refine lW af.at1<|go ?_;refine X3 ae ?_;refine go ?_;refine Zs hm (fun hb hm=>go ?_) fun hb hm=>go ?_
 ·refine lV (.agg #[.bool false,.slice none (([]:List Int).length) 0,.slice none (([]:List Int).length) 0,.bool false,.slice none (([]:List Int).length) 0,.slice none (([]:List Int).length) 0]) (Yk (l:=[_,_]) (qs:=[(0,3),(3,3)]) underlying55 zeroValue55 ⟨rfl,sizeOf35,rfl,sizeOf35,trivial⟩ rfl)<|Z2 ac ?_;intro eb de df dg;refine go ?_;cases hm;replace aa:=aa.kp de df;exact ⟨rfl,_,Tw dg.atN,_,none,0,none,0,none,0,none,0,rfl,aa.fin (cm []),Zc.nil,Zc.nil,Zc.nil,Zc.nil⟩
 refine lW af.at1<|go ?_;refine Xe [2,27,28,3,4,1000000] (fun n f ah=>∃ ai al a0 a2 a3 am a4 a5 an a6 a7 a8 ao a9 ba ap bb,n=bb.length∧ag.drop al=bb∧Qf N ab ag bb al a0 am an a6 ao ap=some r∧St w0 (Zk col) ai ah∧Zo 27 1 ai ah co #[.string ab.1,.slice bo ab.2.1.length bj,.slice bp ab.2.2.1.length bk,.slice bq ab.2.2.2.1.length bm,.slice br ab.2.2.2.2.length bn]∧Zo 39 2 ai ah bu #[.slice a1 ag.length au]∧Zc (Za.int .u32) 77 4 ai ah a2 a3 am∧Zc (Za.int .u32) 77 5 ai ah a4 a5 an∧Zc (Za.int .u32) 77 6 ai ah a7 a8 ao∧Zc (Za.int .u32) 77 7 ai ah a9 ba ap∧Zo 55 3 ai ah cr #[.bool a0,.slice a2 am.length a3,.slice a4 an.length a5,.bool a6,.slice a7 ao.length a8,.slice a9 ap.length ba]∧[29].map f=[.int .i64 al]) ag.length ⟨_,0,_,none,0,_,none,0,_,_,none,0,_,none,0,_,_,rfl,rfl,hm,aa,ae,af,Zc.nil,Zc.nil,Zc.nil,Zc.nil,ac,rfl⟩ ?_;clear hm;intro n f ah hI;obtain ⟨ai,al,a0,a2,a3,am,a4,a5,an,a6,a7,a8,ao,a9,ba,ap,bb,hn,hl,hm,aa,ae,af,bv,bw,bx,bz,ac,hs⟩:=hI;subst hn;refine .lL [29] hs ?_
 cases bb with
 | nil=>
  have hk:¬ ((al:Int)<(ag.length:Int)):=by have:=List.drop_eq_nil_iff.1 hl;omega
  have hkb:=decide_eq_false hk;rw [Qf.eq_1] at hm;refine go ?_;refine Yv (congrArg Value.bool hkb)<|go ?_;refine X3 ae ?_;obtain ⟨b0,dh,hm⟩:=bZ hm;refine Zi (Zno 8 dh (az.ks aa)) ?_;rintro _ ec ⟨ed,ct,cu,rfl,b1,b5⟩;refine ⟨_,rfl,?_⟩;refine lM (.tuple #[.slice ct b0.1.length cu,.int .i64 b0.2])<|lV (.slice ct b0.1.length cu) (Xh rfl rfl)<|lV (.int .i64 b0.2) (Xh rfl rfl)<|go ?_;replace ae:=ae.gr b1;refine lV _ (Xj isAgg27 sizeOf27 ae)<|Va rfl<|lV (.func (.func 63) #[] #[.pointer (some ⟨bu,0,none⟩)]) (Zwl rfl) ?_;replace b5:=(b5).toSlF (Zh.int .i64);replace af:=af.gr b1;replace af:=af.froz 8 (by decide);replace ac:=ac.gr b1;replace ac:=ac.froz 8 (by decide);replace aa:=aa.grow b1;replace aa:=aa.froz 8 (by decide) (by decide);obtain ⟨ad,di,hm⟩:=bZ hm;refine Zi (Zy8 9 2 di (by decide) (bs.ks aa) (av.ks aa) (az.ks aa) (bt.ks aa) b5 (h1.ks aa) af) ?_;rintro _ ee ⟨dj,cv,cw,b6,b7,b8,b9,ca,cb,cc,cd,rfl,cx,ef,ce,cf,bc,bd⟩;refine ⟨_,rfl,?_⟩;refine lM (.tuple #[.slice cv ad.1.length cw,(.agg #[.bool ad.2.1.1.1.1,.slice b6 ad.2.1.1.1.2.length b7,.slice b8 ad.2.1.1.2.length b9,.bool ad.2.1.2.1.1,.slice ca ad.2.1.2.1.2.length cb,.slice cc ad.2.1.2.2.length cd]),.bool ad.2.2])<|lV (.slice cv ad.1.length cw) (Xh rfl rfl)<|lV (.agg #[.bool ad.2.1.1.1.1,.slice b6 ad.2.1.1.1.2.length b7,.slice b8 ad.2.1.1.2.length b9,.bool ad.2.1.2.1.1,.slice ca ad.2.1.2.1.2.length cb,.slice cc ad.2.1.2.2.length cd]) (Xh rfl rfl)<|lV (.bool ad.2.2) (Xh rfl rfl)<|Xl (col:=dj) #[.bool false,.slice none (([]:List Int).length) 0,.slice none (([]:List Int).length) 0,.bool false,.slice none (([]:List Int).length) 0,.slice none (([]:List Int).length) 0] 10 zeroValue55 ?_;intro eg eh b2 ax dl;refine Sv rfl<|Z2 dl ?_;intro ei ay dm cy;refine go ?_;refine W6 (col:=b2) [(0,1),(1,0),(3,1),(4,0),(2,3),(5,3),(6,1),(7,2),(8,1)] (by kernel_rfl) (by kernel_rfl)<|xF ⟨_,_,rfl⟩ ?_;refine xv (v:=(.agg #[.bool ad.2.1.1.1.1,.slice b6 ad.2.1.1.1.2.length b7,.slice b8 ad.2.1.1.2.length b9])) rfl rfl (fun _ hC=>Xt isAgg35 sizeOf35 rfl rfl (((cy.atN).part 0 3 _ rfl).gr (hC.bl b2))) ?_;refine xF ⟨_,_,rfl⟩ ?_
  refine xv (v:=(.agg #[.bool ad.2.1.2.1.1,.slice ca ad.2.1.2.1.2.length cb,.slice cc ad.2.1.2.2.length cd])) rfl rfl (fun _ hC=>Xt isAgg35 sizeOf35 rfl rfl (((cy.atN).part 3 3 _ rfl).gr (hC.bl b2))) ?_;refine xe rfl rfl ?_;intro ej hC0;have hC:=hC0.bl b2;obtain ⟨cg,dn,hm⟩:=bZ hm;replace ce:=((ce.gr ax).kp ay).gr hC;replace cf:=((cf.gr ax).kp ay).gr hC;refine Zi (Zrl 11 12 dn ce cf) ?_;rintro _ ek ⟨cz,dp,dq,dr,ds,rfl,be,aq,ar⟩;refine ⟨_,rfl,?_⟩;refine Zm<|Yd cz hC0 be<|xe rfl rfl ?_;intro el hC0;replace ac:=((((ac.gr cx).gr ax).kp ay).gr hC).gr be;replace aa:=((((aa.grow cx).grow ax).kp ay dm).grow hC).grow be;replace bc:=(((bc.gr ax).kp ay).gr hC).gr be;replace bd:=(((bd.gr ax).kp ay).gr hC).gr be;have hC:=hC0.bl cz;obtain ⟨ch,dt,hm⟩:=bZ hm;replace bc:=bc.gr hC;replace bd:=bd.gr hC;refine Zi (Zrl 13 14 dt bc bd) ?_;rintro _ em ⟨b3,du,dv,dw,dx,rfl,bf,bg,bh⟩;refine ⟨_,rfl,?_⟩;refine Zm<|Yd b3 hC0 bf<|xu (v:=(.agg #[.bool cg.1.1,.slice dp cg.1.2.length dq,.slice dr cg.2.length ds,.bool ch.1.1,.slice du ch.1.2.length dv,.slice dw ch.2.length dx])) rfl rfl (fun _=>Yk (l:=[_,_]) (qs:=[(0,3),(3,3)]) underlying55 zeroValue55 ⟨rfl,sizeOf35,rfl,sizeOf35,trivial⟩ rfl) ?_;refine xe rfl rfl ?_;intro en hC0;replace aq:=(aq.gr hC).gr bf;replace ar:=(ar.gr hC).gr bf;replace ac:=(ac.gr hC).gr bf;replace aa:=(aa.grow hC).grow bf;have hC:=hC0.bl b3;replace ac:=ac.gr hC;refine Z2 ac ?_;intro eo bi dy ci;refine Zm<|xk b3<|xu rfl rfl (fun _=>Zmo rfl) ?_;refine W3 ?_;replace aq:=(aq.gr hC).kp bi;replace ar:=(ar.gr hC).kp bi;replace bg:=(bg.gr hC).kp bi;replace bh:=(bh.gr hC).kp bi;replace aa:=(aa.grow hC).kp bi dy;intro ep hC;replace hC:=hC.bl b3;refine Vp ?_;cases hm;replace aq:=aq.gr hC;replace ar:=ar.gr hC;replace bg:=bg.gr hC;replace bh:=bh.gr hC;replace ci:=ci.gr hC;replace aa:=aa.grow hC;exact ⟨rfl,_,Tw ci.atN,_,_,_,_,_,_,_,_,_,rfl,aa.fin (cm [(11,c1),(12,c2),(13,c3),(14,c4)]),aa.fo aq,aa.fo ar,aa.fo bg,aa.fo bh⟩
 | cons dz c0=>
  obtain ⟨cj,d0,d1⟩:=Y1 hl;have hk:(al:Int)<(ag.length:Int):=by omega
  have hkb:=decide_eq_true hk;rw [Qf.eq_2] at hm;refine go ?_;refine Yw (congrArg Value.bool hkb)<|go ?_;refine lI cj ((h1.ks aa).addr cj)<|lW ((h1.ks aa).atInt cj)<|Ym rfl<|Ym rfl<|Zm<|Zw ?_;refine Wp.cutK [2,27,28,29,3,4,1000000] (fun f aj=>∃ ak ck,Zff al a0 am an a6 ao ap (Qf N ab ag c0) ck=some r∧St w0 (Zk col) ak aj∧Zo 27 1 ak aj co #[.string ab.1,.slice bo ab.2.1.length bj,.slice bp ab.2.2.1.length bk,.slice bq ab.2.2.2.1.length bm,.slice br ab.2.2.2.2.length bn]∧Zo 39 2 ak aj bu #[.slice a1 ag.length au]∧Zc (Za.int .u32) 77 4 ak aj a2 a3 am∧Zc (Za.int .u32) 77 5 ak aj a4 a5 an∧Zc (Za.int .u32) 77 6 ak aj a7 a8 ao∧Zc (Za.int .u32) 77 7 ak aj a9 ba ap∧Zo 55 3 ak aj cr #[.bool a0,.slice a2 am.length a3,.slice a4 an.length a5,.bool a6,.slice a7 ao.length a8,.slice a9 ap.length ba]∧[45].map f=[.bool ck]) ?_ ?_
  ·intro f aj hJ;obtain ⟨ak,ck,hm,aa,ae,af,bv,bw,bx,bz,ac,hs⟩:=hJ;rw [Zff.eq_1] at hm;refine .lL [45] hs ?_;refine Zs hm (fun hb hm=>go ?_) fun hb hm=>go ?_
   ·refine lV (.agg #[.bool false,.slice none (([]:List Int).length) 0,.slice none (([]:List Int).length) 0,.bool false,.slice none (([]:List Int).length) 0,.slice none (([]:List Int).length) 0]) (Yk (l:=[_,_]) (qs:=[(0,3),(3,3)]) underlying55 zeroValue55 ⟨rfl,sizeOf35,rfl,sizeOf35,trivial⟩ rfl)<|Z2 ac ?_;intro eq d2 d3 d4;refine go ?_;cases hm;replace aa:=aa.kp d2 d3;exact ⟨rfl,_,Tw d4.atN,_,none,0,none,0,none,0,none,0,rfl,aa.fin (cm []),Zc.nil,Zc.nil,Zc.nil,Zc.nil⟩
   exact ⟨c0.length,by simp,rfl,⟨_,_,_,_,_,_,_,_,_,_,_,_,_,_,_,_,_,rfl,d0,hm,aa,ae,af,bv,bw,bx,bz,ac,(Y7 (congrArg (Value.int .i64) (Y3 (Nat.lt_of_lt_of_le d1 (h1.ks aa).1.1))) rfl)⟩⟩
  refine go ?_;refine X1 hm (fun cl hm=>go ?_) fun cl hm=>go ?_
  ·refine lV (.bool true) (Xm (congrArg Value.bool cl) rfl)<|Zm ?_;exact ⟨rfl,_,_,hm,aa,ae,af,bv,bw,bx,bz,ac,rfl⟩
  refine X8 ⟨_,_,rfl⟩ ?_;refine go ?_;refine lW ((ae.atN).nth (q:=2) rfl)<|go ?_;obtain ⟨d5,cn,hm⟩:=bZ hm;refine lI cn ((av.ks aa).addr cn) ?_;refine go ?_;obtain ⟨_,d6,d7⟩:=(av.ks aa).atN cn;obtain ⟨⟨er,es,rfl,et⟩,_⟩:=d6;refine lW d7.one<|go ?_;refine lV (.bool (decide ((d5.length:Int)≤dz))) (Xd (congrArg Value.bool cl) rfl)<|Zm ?_;exact ⟨rfl,_,_,hm,aa,ae,af,bv,bw,bx,bz,ac,rfl⟩
section
variable {N K:Nat} {n:Z8} (hf:Y9 N n) (hr:Z4 N (8 * K+40))
include hf hr
variable (nv:List Int) (b1:Bool) (l1 l2:List Int) (b3:Bool) (l3 l4:List Int) (w:List Int) (hw:Yo n w)
 (kk:Bool→List Int→List Int→Bool→List Int→List Int→List Int→Bool→List Int→List Int→Bool→List Int→List Int→List Int→T0)
include hw
theorem Zsf {v:Nat} (hv:v<n.2.1.length) (hl:∀ x ∈ Xb n w v,Wy x∧max x.1.2.length x.2.length≤K) {long:Rat} (hlong:qs long≤K) (F:List (QV×QV)→T0)
  (hF:∀ P:List (QV×QV),((Zfe (v:Int) P nv).bind fun r=>if (decide (r<0))=true then (some (([]:List Int),(((false,([]:List Int)),([]:List Int)),((false,([]:List Int)),([]:List Int))),false)) else ((Zp P r).bind fun e=>(Zp w (v:Int)).bind fun _=>(some (w.set (Int.toNat (v:Int)) r)).bind fun xs=>kk e.1.1.1 e.1.1.2 e.1.2 e.2.1.1 e.2.1.2 e.2.2 nv b1 l1 l2 b3 l3 l4 xs))=F P):
  ∀ (l:List QV) (f j:Nat) (a:Rat) (parts:List (QV×QV)),(Xb n w v).drop j=l→j≤cnt n v→cnt n v<f+j→qs a≤K→(∀ p ∈ Xs long l a,qs p.1≤K∧qs p.2≤K)→parts.length=j→
   Zdi N n nv b1 l1 l2 b3 l3 l4 w kk (v:Int) (Wf n w v:Int) (Zj long) (n.2.2.1.getD v []) f (Zj a).1.1 (Zj a).1.2 (Zj a).2 parts (j:Int)=F (parts++(Xs long l a).map Ys)
 | l,0,j,a,parts,_,h1,h2,_,_,_=>by omega
 | l,f+1,j,a,parts,hd,h1,h2,ha,hp,hpl=>by
  have hlen:=hf.rowT_len hw hv
  have hrow:=hf.row hw hv
  have hrows:=hf.rows hv
  rw [Zdi.eq_2]
  cases l with
  | nil=>
   have h3:=List.drop_eq_nil_iff.1 hd
   rw [if_neg (by rw [decide_eq_false (by rw [cnt] at h1 hlen;omega)];decide),hF,Xs,List.map_nil,List.append_nil]
  | cons y l=>
   have hj:j<(Xb n w v).length:=by
    rcases Nat.lt_or_ge j (Xb n w v).length with h | h
    ·exact h
    ·rw [List.drop_eq_nil_of_le h] at hd;cases hd
   have hy:(Xb n w v)[j]=y∧(Xb n w v).drop (j+1)=l:=by
    rw [List.drop_eq_getElem_cons hj] at hd
    exact List.cons.inj hd
   have hyK:=hl y (hy.1 ▸ List.getElem_mem hj)
   have hjc:j<cnt n v:=by omega
   have hq:=hp _ List.mem_cons_self
   have e0:(0:Int)≤((Wf n w v * cnt n v:Nat):Int):=Int.natCast_nonneg _
   have e1:i64.wrap ((Wf n w v:Int) * ((n.2.2.1.getD v []).length:Int))=((Wf n w v * cnt n v:Nat):Int):=by
    rw [show ((n.2.2.1.getD v []).length:Int)=((cnt n v:Nat):Int) from rfl,← Int.natCast_mul]
    exact Zv (by omega)
   have e2:i64.wrap (((Wf n w v * cnt n v:Nat):Int)+(j:Int))=((Wf n w v * cnt n v+j:Nat):Int):=by
    rw [← Int.natCast_add]
    exact Zv (by omega)
   have r1:=Zc3 hyK.1.1 hyK.1.2
   have m1:Ul N (((Zj long).1.1,(Zj long).1.2),(Zj long).2) ((y.1.1,y.1.2),y.2)=some (Zj (long * Zt y)):=by
    have:=Zh0 (Yr hlong) (r1.mono hyK.2) (hr.mono (by omega))
    rwa [Yi] at this
   have s1:qs (long * Zt y)≤K+(K+1):=by
    have h4:=Zcz long (Zt y)
    have h5:=Zjp hyK.1
    omega
   have a1:Uv N (((Zj a).1.1,(Zj a).1.2),(Zj a).2) (((Zj (long * Zt y)).1.1,(Zj (long * Zt y)).1.2),(Zj (long * Zt y)).2)=some (Zj (a+long * Zt y)):=by
    have:=Ze3 (Yr ha) (Yr s1) (hr.mono (by omega))
    rwa [Yi,Yi] at this
   rw [if_pos (decide_eq_true (by rw [cnt] at hjc;omega)),Wr [] (by rw [hf.ev.t];exact hv),Option.bind_some,Wr [] (by rw [hf.ev.v];exact hv),Option.bind_some,e1,e2,Zqi hj,hy.1,Option.bind_some,m1,Option.bind_some,a1,Option.bind_some,
    Xg (by simp only [List.length_singleton,maxLen];omega),Zv (x:=(j:Int)+1) (by omega)]
   have ih:=Zsf hv hl hlong F hF l f (j+1) (a+long * Zt y) (parts++[Ys (a,a+long * Zt y)]) hy.2 (by omega) (by omega) hq.2 (fun p h=>hp p (List.mem_cons_of_mem _ h)) (by rw [List.length_append,List.length_singleton];omega)
   rw [List.append_assoc] at ih
   exact ih
omit hr in
theorem Zse (a b:QV) (x:Int):∀ (ps:List Int) (r k:Nat),(∀ q ∈ ps,0≤q∧q<(n.2.1.length:Int))→r<k→k≤65536→Yj n.2.2.1 ps k≤65536→
  Za1 N n a.1.1 a.1.2 a.2 b.1.1 b.1.2 b.2 nv b1 l1 l2 b3 l3 l4 w kk x ps (r:Int)=Za1 N n a.1.1 a.1.2 a.2 b.1.1 b.1.2 b.2 nv b1 l1 l2 b3 l3 l4 w kk x [] (Qw n w ps r:Int)
 | [],r,k,_,_,_,_=>rfl
 | p :: ps,r,k,hp,h1,h2,h3=>by
  obtain ⟨g1,g2,g3⟩:=Zm1 hf.ev hw hp h1 h2 h3
  have hpp:=hp p List.mem_cons_self
  have hwp:=hw.ok p.toNat (by rw [hw.len];omega)
  have g4:r * cnt n p.toNat≤k * cnt n p.toNat:=Nat.mul_le_mul_right _ (by omega)
  have q1:Zp n.2.2.1 p=some (n.2.2.1.getD p.toNat []):=by
   have:=Wr (l:=n.2.2.1) [] (j:=p.toNat) (by rw [hf.ev.v];omega)
   rwa [show ((p.toNat:Nat):Int)=p by omega] at this
  have q2:Zp w p=some (w.getD p.toNat 0):=by
   have:=Wr (l:=w) 0 (j:=p.toNat) (by rw [hw.len];omega)
   rwa [show ((p.toNat:Nat):Int)=p by omega] at this
  have e1:i64.wrap ((r:Int) * ((n.2.2.1.getD p.toNat []).length:Int))=((r * cnt n p.toNat:Nat):Int):=by
   rw [show ((n.2.2.1.getD p.toNat []).length:Int)=((cnt n p.toNat:Nat):Int) from rfl,← Int.natCast_mul]
   exact Zv (by omega)
  have e2:i64.wrap (((r * cnt n p.toNat:Nat):Int)+w.getD p.toNat 0)=((r * cnt n p.toNat+(w.getD p.toNat 0).toNat:Nat):Int):=by
   rw [Int.natCast_add,show (((w.getD p.toNat 0).toNat:Nat):Int)=w.getD p.toNat 0 by omega]
   exact Zv (by omega)
  rw [Za1.eq_2,q1,Option.bind_some,q2,Option.bind_some,e1,e2]
  exact Zse a b x ps _ _ (fun q hq=>hp q (List.mem_cons_of_mem _ hq)) g1 g2 g3
end
theorem Zsd {N W K:Nat} {n:Z8} (hf:Y9 N n) (hs:Wz n W) (hr:Z4 N (8 * K+40)) (hWK:W≤K) (hN:65536<N) {nv:List Int} (hnv:Yo n nv) {ord:List Int} (ho:Uh n.2.2.2.1 ord):∀ (l pre w:List Int) (s:Rat×Rat) (D M:Nat) (b1:Bool) (l1 l2:List Int) (b3:Bool) (l3 l4:List Int),ord=pre++l→Yo n w→(∀ p ∈ pre,w.getD p.toNat 0=nv.getD p.toNat 0)→U4 D M s→
  (Zd M).length+(Zd D).length+l.length * (W+2)+2≤K→
  ∃ w',Qh N n l (Zj s.1).1.1 (Zj s.1).1.2 (Zj s.1).2 (Zj s.2).1.1 (Zj s.2).1.2 (Zj s.2).2 nv b1 l1 l2 b3 l3 l4 w=some (w',Ys (X6 n nv l s),true)
 | [],pre,w,s,D,M,b1,l1,l2,b3,l3,l4,_,_,_,_,_=>⟨w,rfl⟩
 | v :: l,pre,w,s,D,M,b1,l1,l2,b3,l3,l4,he,hw,hag,hL,hK=>by
  have hvr:=ho.rg v (by rw [he];simp)
  rw [hf.ev.p] at hvr
  obtain ⟨k,rfl⟩:∃ k:Nat,v=(k:Int):=⟨v.toNat,by omega⟩
  have hv:k<n.2.1.length:=by omega
  have hpar:∀ p ∈ n.2.2.2.1.getD k [],w.getD p.toNat 0=nv.getD p.toNat 0:=fun p hp=>hag p (ho.up pre k l he p (by rw [Int.toNat_natCast];exact hp))
  have hrow:Wf n w k=Wf n nv k:=Zqh _ _ hpar
  have hrT:Xb n w k=Xb n nv k:=by rw [Xb,Xb,hrow]
  obtain ⟨D',M',c1,c2,c3⟩:=Zox hf hs hw hv hL
  have hKs:(l.length+1) * (W+2)=l.length * (W+2)+(W+2):=by rw [Nat.add_mul,Nat.one_mul]
  rw [List.length_cons,hKs] at hK
  have hrows:=hf.rows hv
  have hcl:cnt n k≤65536:=by have:=(hf.row hw hv).1;omega
  have hsub:Qj N (((Zj s.2).1.1,(Zj s.2).1.2),(Zj s.2).2) (((Zj s.1).1.1,(Zj s.1).1.2),(Zj s.1).2)=some (Zj (s.2 - s.1)):=by
   have:=Zoj (Yr hL.qb) (Yr hL.qa) (hr.mono (s:=2 * ((Zd M).length+(Zd D).length+((Zd M).length+(Zd D).length)+3)) (by omega))
   rwa [Yi,Yi] at this
  rw [Qh.eq_2,Wr [] (by rw [hf.ev.p];exact hv),Option.bind_some]
  have h2:=Zse hf nv b1 l1 l2 b3 l3 l4 w hw (Qh N n l) (Zj s.1) (Zj s.2) (k:Int) (n.2.2.2.1.getD k []) 0 1 (hf.pars hv) (by omega) (by omega) hrows.2.2
  rw [show ((0:Nat):Int)=0 from rfl] at h2
  rw [h2,Za1.eq_1,hsub,Option.bind_some,Wr [] (by rw [hf.ev.v];exact hv),Option.bind_some]
  have h3:=Zsf hf hr nv b1 l1 l2 b3 l3 l4 w hw (Qh N n l) hv (fun x hx=>by have:=Zhz hf hs hv x (Zao hx);exact ⟨this.1,by omega⟩) (long:=s.2 - s.1) (by omega) _ (fun _=>rfl) (Xb n w k) N 0 s.1 [] rfl (Nat.zero_le _) (by omega) (by have:=hL.qa;omega) (fun p hp=>⟨by have:=(c2 p hp).qa;omega,by have:=(c2 p hp).qb;omega⟩) rfl
  rw [show ((0:Nat):Int)=0 from rfl] at h3
  have h3':=h3
  rw [Wf] at h3'
  rw [h3',List.nil_append]
  have hnk:=hnv.ok k (by rw [hnv.len];exact hv)
  obtain ⟨q,hq⟩:∃ q:Nat,nv.getD k 0=(q:Int):=⟨(nv.getD k 0).toNat,by omega⟩
  have hql:q<(Xs (s.2 - s.1) (Xb n w k) s.1).length:=by rw [Qr,hf.rowT_len hw hv];omega
  have hch:Zfe (k:Int) ((Xs (s.2 - s.1) (Xb n w k) s.1).map Ys) nv=some (q:Int):=by
   rw [Zfe,Wr 0 (by rw [hnv.len];exact hv),hq];rfl
  rw [hch,Option.bind_some,if_neg (by rw [decide_eq_false (by omega)];decide),Zuq hql,Option.bind_some,Wr 0 (by rw [hw.len];exact hv),Option.bind_some,Option.bind_some,Int.toNat_natCast]
  have hset:=hw.set (v:=k) (k:=(q:Int)) (by omega)
  have ih:=Zsd hf hs hr hWK hN hnv ho l (pre++[(k:Int)]) (w.set k q) _ D' M' b1 l1 l2 b3 l3 l4 (by rw [he,List.append_assoc];rfl) hset (fun p hp=>?_) (c2 _ (Zef hql)) (by omega)
  ·obtain ⟨w',hw'⟩:=ih
   refine ⟨w',?_⟩
   rw [X6,Int.toNat_natCast,hq,Int.toNat_natCast,← hrT]
   exact hw'
  ·rcases List.mem_append.1 hp with hp | hp
   ·rw [Tb w 0 k _ _ (by rw [hw.len];exact hv)]
    split
    ·rename_i e;rw [e,hq]
    ·exact hag p hp
   ·rw [List.mem_singleton] at hp
    rw [hp,Int.toNat_natCast,Tb w 0 k _ _ (by rw [hw.len];exact hv),if_pos rfl,hq]
theorem Z00 {N W K:Nat} {n:Z8} (hf:Y9 N n) (hs:Wz n W) (hr:Z4 N (8 * K+40)) (hWK:1025 * (W+2)+4≤K) (hN:65536<N) {nv:List Int} (hnv:Yo n nv) {ord:List Int} (ho:Uh n.2.2.2.1 ord) (hol:ord.length≤1024):
  ∃ w',Zfg N n ord nv=some (w',Ys (X6 n nv ord (0,1)),true):=by
 have hnm:=hf.le
 have hmul:ord.length * (W+2)≤1024 * (W+2):=Nat.mul_le_mul_right _ hol
 have h1:(Zd 1).length=1:=by rw [W5];rfl
 obtain ⟨w',h⟩:=Zsd hf hs hr (by omega) hN hnv ho ord [] (List.replicate n.2.1.length 0) (0,1) 1 1 false [] [] false [] [] rfl (Yo.zero hf.ev) (by simp) U4.zero (by omega)
 refine ⟨w',?_⟩
 rw [Zfg,Xg (by simp only [maxLen];omega),Zol (hr.mono (by omega)),Option.bind_some,Zkr,Option.bind_some]
 exact h
def Vl (n:Z8):List Int→Nat→Bool
 | [],_=>true
 | x :: l,k=>!decide (x<0)&&(!decide ((cnt n k:Int)≤x)&&Vl n l (k+1))
theorem Ztw {n:Z8}:∀ (l:List Int) (k:Nat),Vl n l k=true→∀ i,i<l.length→0≤l.getD i 0∧l.getD i 0<(cnt n (k+i):Int)
 | [],_,_,i,hi=>by simp at hi
 | x :: l,k,h,i,hi=>by
  simp only [Vl,Bool.and_eq_true,Bool.not_eq_true',decide_eq_false_iff_not] at h
  cases i with
  | zero=>rw [List.getD_cons_zero,Nat.add_zero];omega
  | succ i=>
   rw [List.getD_cons_succ,show k+(i+1)=k+1+i by omega]
   exact Ztw l (k+1) h.2.2 i (by simpa using hi)
theorem Z17 {n:Z8} {w:List Int} (hl:w.length=n.2.1.length) (h:Vl n w 0=true):Yo n w:=⟨hl,fun i hi=>by have:=Ztw w 0 h i hi;rwa [Nat.zero_add] at this⟩
section
variable {N:Nat} {n:Z8} (he:U3 n)
include he
theorem Zx2 (hl:n.2.1.length≤1048576) (w:List Int) (hw:w.length=n.2.1.length):∀ (l:List Int) (k:Nat) (b1:Bool) (l1 l2:List Int) (b3:Bool) (l3 l4:List Int),w.drop k=l→k≤w.length→Qf N n w l k b1 l1 l2 b3 l3 l4=if Vl n l k=true then Qf N n w [] w.length b1 l1 l2 b3 l3 l4 else some ((((false,([]:List Int)),([]:List Int)),((false,([]:List Int)),([]:List Int))),3)
 | [],k,b1,l1,l2,b3,l3,l4,hd,h1=>by
  have:=List.drop_eq_nil_iff.1 hd
  rw [Vl,if_pos rfl,show k=w.length by omega]
 | x :: l,k,b1,l1,l2,b3,l3,l4,hd,h1=>by
  have hk:k<w.length:=by
   rcases Nat.lt_or_ge k w.length with h | h
   ·exact h
   ·rw [List.drop_eq_nil_of_le h] at hd;cases hd
  rw [List.drop_eq_getElem_cons hk] at hd
  obtain ⟨e1,e2⟩:=List.cons.inj hd
  rw [Qf.eq_2,Vl]
  by_cases hx:x<0
  ·rw [if_pos (decide_eq_true hx),Zff,if_pos rfl,decide_eq_true hx];rfl
  ·rw [if_neg (by rw [decide_eq_false hx];decide),Wr [] (by rw [he.v];omega),Option.bind_some,Zff,decide_eq_false hx]
   by_cases hc:(cnt n k:Int)≤x
   ·rw [show ((n.2.2.1.getD k []).length:Int)=(cnt n k:Int) from rfl,decide_eq_true hc,if_pos rfl];rfl
   ·rw [show ((n.2.2.1.getD k []).length:Int)=(cnt n k:Int) from rfl,decide_eq_false hc,if_neg (by decide),Zx2 hl w hw l (k+1) b1 l1 l2 b3 l3 l4 e2 (by omega)];rfl
end
section
variable {N W K:Nat} {n:Z8} (hf:Y9 N n) (hs:Wz n W) (hr:Z4 N (8 * K+40)) (hN:1048577<N)
include hf hs hr hN
end
def Zod (k:Int):(QV×QV)×Int:=((((false,([]:List Int)),([]:List Int)),((false,([]:List Int)),([]:List Int))),k)
theorem Ztm {N K:Nat} {q:Rat} (hr:Z4 N (8 * K+40)) (hq:qs q≤K):Zb2 N (((Zj q).1.1,(Zj q).1.2),(Zj q).2)=some (Zj q):=by
 have hz:RV 0 ((false,([]:List Int)),([]:List Int)):=⟨by simp [Zn],by simp [Zn],by simp,by simp⟩
 have h1:=Ze3 (Yr hq) hz (hr.mono (by omega))
 have h2:Zt ((false,([]:List Int)),([]:List Int))=0:=by rw [Zt];simp [Zq,Zb]
 rw [Yi,h2,Rat.add_zero] at h1
 rw [Zb2]
 have h3:Uv N (((Zj q).1.1,(Zj q).1.2),(Zj q).2) ((false,([]:List Int)),([]:List Int))=some (Zj q):=h1
 rw [h3];rfl
def Za6 (N:Nat) (ab:R1) (ac:List Int) (aa:Nat) (ah:Bool) (ai:List Int) (aj:List Int) (kk_L2:(Nat→Bool→R2→R2→Option (R0×Int))) (ak:R9):List Int→Int→Option (R0×Int)
  | [],ad=>(Zp ab.2.2.1 (aa:Int)).bind fun am=>(Zp ac (aa:Int)).bind fun an=>(Zp ak (i64.wrap ((i64.wrap (ad * (am.length:Int)))+an))).bind fun ae=>(Zcc N ((ae.1.1,ae.1.2),ae.2)).bind fun af=>(Ul N ((ah,ai),aj) ((af.1.1,af.1.2),af.2)).bind fun ag=>kk_L2 (aa+1) ag.1.1 ag.1.2 ag.2
  | al :: ao,ad=>(Zp ab.2.2.1 al).bind fun ap=>(Zp ac al).bind fun aq=>(Za6 N ab ac aa ah ai aj kk_L2 ak ao) (i64.wrap ((i64.wrap (ad * (ap.length:Int)))+aq))
termination_by structural x=>x
def Za5 (N:Nat) (aa:R1) (af:List Int):List R9→Nat→Bool→R2→R2→Option (R0×Int)
  | [],ab,ac,ad,ae=>some (((ac,ad),ae),0)
  | ag :: ah,ab,ac,ad,ae=>(Zp aa.2.2.2.1 (ab:Int)).bind fun ai=>Za6 N aa af ab ac ad ae (Za5 N aa af ah) ag ai 0
termination_by structural x=>x
def Zf3 (aa:Nat) (ab:Bool) (ac:List Int) (ad:List Int) (kk_L1:(Nat→Bool→R2→R2→Option (R0×Int))) (ae:Bool):Option (R0×Int):=
  if ae=true then (some (((false,([]:List Int)),([]:List Int)),3)) else (kk_L1 (aa+1) ab ac ad)
def Qk (N:Nat) (aa:R1) (ac:List Int):List Int→Nat→Bool→R2→R2→Option (R0×Int)
  | [],ab,ad,ae,af=>(Zdp N).bind fun ag=>Za5 N aa ac aa.2.2.2.2 0 ag.1.1 ag.1.2 ag.2
  | ah :: ai,ab,ad,ae,af=>if (decide (ah<0))=true then (Zf3 ab ad ae af (Qk N aa ac ai) true) else ((Zp aa.2.2.1 (ab:Int)).bind fun aj=>Zf3 ab ad ae af (Qk N aa ac ai) (decide ((aj.length:Int)≤ah)))
termination_by structural x=>x
def Zf2 (N:Nat) (aa:R1) (ab:List Int):Option (R0×Int):=
  (Um N (aa.1,aa.2.1,aa.2.2.1,aa.2.2.2.1,aa.2.2.2.2)).bind fun ac=>if (!decide (ac=0))=true then (some (((false,([]:List Int)),([]:List Int)),ac)) else (if (!decide ((ab.length:Int)=(aa.2.1.length:Int)))=true then (some (((false,([]:List Int)),([]:List Int)),60)) else (Qk N aa ab ab 0 false ([]:List Int) ([]:List Int)))
theorem Zzs {N bf bg bh bi cu:Nat} {bj bk bm bn a1:Option Addr} {col:Ze} {w0:World} {ab:R1} {ak:R2} {r:(R0×Int)} (c1 c2:Nat) (hm:Zf2 N ab ak=some r) (cd:Sl Za.str col w0 bj bf ab.2.1) (au:Sl (Za.slice Za.str) col w0 bk bg ab.2.2.1) (bt:Sl (Za.slice (Za.int .i64)) col w0 bm bh ab.2.2.2.1) (bo:Sl (Za.slice (Za.pair (Za.pair Za.bool (Za.slice (Za.int .u32))) (Za.slice (Za.int .u32)))) col w0 bn bi ab.2.2.2.2) (h1:Sl (Za.int .i64) col w0 a1 cu ak):
    Calls Tryz.prog 10 #[(.agg #[.string ab.1,.slice bj ab.2.1.length bf,.slice bk ab.2.2.1.length bg,.slice bm ab.2.2.2.1.length bh,.slice bn ab.2.2.2.2.length bi]),.slice a1 ak.length cu] w0 (fun e w'=>∃ (col':Ze) (ra1:Option Addr) (rc2:Nat) (ra4:Option Addr) (rc5:Nat),e= .returned (.tuple #[(.agg #[.bool r.1.1.1,.slice ra1 r.1.1.2.length rc2,.slice ra4 r.1.2.length rc5]),.int .i64 r.2])∧Zg col w0 col' w'∧Zc (Za.int .u32) 77 c1 col' w' ra1 rc2 r.1.1.2∧Zc (Za.int .u32) 77 c2 col' w' ra4 rc5 r.1.2):=by
 refine Yu (m:=103) func10 rfl rfl rfl ?_;rw [Zf2.eq_1] at hm;have aa:=St.start col w0;refine go ?_;refine Xy (col:=(Zk col)) 1 rfl ?_;intro b7 er c3 c4 ac;refine Xl (col:=c3) #[.bool false,.slice none (([]:List Int).length) 0,.slice none (([]:List Int).length) 0] 2 zeroValue35 ?_;intro b8 c5 cv cw ad;refine go ?_;replace ac:=ac.gr cw;refine lV _ (Xj isAgg27 sizeOf27 ac) ?_;obtain ⟨es,c6,hm⟩:=bZ hm;replace cd:=cd.keep (Zl.start col w0);replace au:=au.keep (Zl.start col w0);replace bt:=bt.keep (Zl.start col w0);replace bo:=bo.keep (Zl.start col w0);replace aa:=(aa.grow c4).grow cw;refine Zi (Zkh c6 (cd.ks aa) (au.ks aa) (bt.ks aa) (bo.ks aa)) ?_;rintro _ c7 ⟨rfl,bu⟩;refine ⟨_,rfl,?_⟩;replace bu:Zg cv c5 cv c7:=.of_below bu;refine go ?_;replace h1:=h1.keep (Zl.start col w0);replace ac:=ac.gr bu;replace ad:=ad.gr bu;replace aa:=aa.grow bu;refine Zs hm (fun hb hm=>go ?_) fun hb hm=>go ?_
 ·refine lV (.agg #[.bool false,.slice none (([]:List Int).length) 0,.slice none (([]:List Int).length) 0]) (Yk (l:=[_,_]) (qs:=[(0,2),(2,1)]) underlying35 zeroValue35 ⟨rfl,sizeOf33,rfl,sizeOf31,trivial⟩ rfl)<|Yn rfl<|Z2 ad ?_;intro et c8 c9 da;refine go ?_;cases hm;replace aa:=aa.kp c8 c9;exact ⟨rfl,_,Tw da.atN,_,none,0,none,0,rfl,aa.fin (cm []),Zc.nil,Zc.nil⟩
 refine X3 ac ?_;refine go ?_;refine Zs hm (fun hb hm=>go ?_) fun hb hm=>go ?_
 ·refine lV (.agg #[.bool false,.slice none (([]:List Int).length) 0,.slice none (([]:List Int).length) 0]) (Yk (l:=[_,_]) (qs:=[(0,2),(2,1)]) underlying35 zeroValue35 ⟨rfl,sizeOf33,rfl,sizeOf31,trivial⟩ rfl)<|Z2 ad ?_;intro eu db dc dd;refine go ?_;cases hm;replace aa:=aa.kp db dc;exact ⟨rfl,_,Tw dd.atN,_,none,0,none,0,rfl,aa.fin (cm []),Zc.nil,Zc.nil⟩
 refine Xe [1,2,28,29,4,1000000] (fun n f bp=>∃ a4 a5 a6 av aw al ax ay am bv,n=bv.length∧ak.drop a5=bv∧Qk N ab ak bv a5 a6 al am=some r∧St w0 (Zk col) a4 bp∧Zo 27 1 a4 bp b7 #[.string ab.1,.slice bj ab.2.1.length bf,.slice bk ab.2.2.1.length bg,.slice bm ab.2.2.2.1.length bh,.slice bn ab.2.2.2.2.length bi]∧Zc (Za.int .u32) 77 3 a4 bp av aw al∧Zc (Za.int .u32) 77 4 a4 bp ax ay am∧Zo 35 2 a4 bp b8 #[.bool a6,.slice av al.length aw,.slice ax am.length ay]∧[30].map f=[.int .i64 a5]) ak.length ⟨_,0,_,none,0,_,none,0,_,_,rfl,rfl,hm,aa,ac,Zc.nil,Zc.nil,ad,rfl⟩ ?_;clear hm;intro n f bp hI;obtain ⟨a4,a5,a6,av,aw,al,ax,ay,am,bv,hn,hl,hm,aa,ac,ae,af,ad,hs⟩:=hI;subst hn;refine .lL [30] hs ?_
 cases bv with
 | nil=>
  have hk:¬ ((a5:Int)<(ak.length:Int)):=by have:=List.drop_eq_nil_iff.1 hl;omega
  have hkb:=decide_eq_false hk;rw [Qk.eq_1] at hm;refine go ?_;refine Yv (congrArg Value.bool hkb)<|go ?_;obtain ⟨ew,de,hm⟩:=bZ hm;refine lc rfl rfl (Zap call35) (Znr (col:=a4) 5 6 de:) ?_;rintro _ ey ⟨df,ez,e0,e1,e2,rfl,bw,ce,cf⟩;refine ⟨_,rfl,?_⟩;refine Xl (col:=df) #[.bool false,.slice none (([]:List Int).length) 0,.slice none (([]:List Int).length) 0] 7 zeroValue35 ?_;intro cx e3 e4 a7 dg;refine Z2 dg ?_;intro e5 a8 dh ah;refine go ?_;refine X8 ⟨_,_,rfl⟩ ?_;replace ac:=((ac.gr bw).gr a7).kp a8;refine lW ((ac.atN).nth (q:=4) rfl)<|go ?_;replace ae:=((ae.gr bw).gr a7).kp a8;replace af:=((af.gr bw).gr a7).kp a8;replace ad:=((ad.gr bw).gr a7).kp a8;replace aa:=((aa.grow bw).grow a7).kp a8 dh;replace ce:=(ce.gr a7).kp a8;replace cf:=(cf.gr a7).kp a8;refine Xe [1,2,4,51,52,9,1000000] (fun n f az=>∃ a0 a9 bx bz b0 ba b1 b2 bb b3,n=b3.length∧ab.2.2.2.2.drop a9=b3∧Za5 N ab ak b3 a9 bx ba bb=some r∧St w0 (Zk col) a0 az∧Zo 27 1 a0 az b7 #[.string ab.1,.slice bj ab.2.1.length bf,.slice bk ab.2.2.1.length bg,.slice bm ab.2.2.2.1.length bh,.slice bn ab.2.2.2.2.length bi]∧Zc (Za.int .u32) 77 3 a0 az av aw al∧Zc (Za.int .u32) 77 4 a0 az ax ay am∧Zo 35 2 a0 az b8 #[.bool a6,.slice av al.length aw,.slice ax am.length ay]∧Zc (Za.int .u32) 77 5 a0 az bz b0 ba∧Zc (Za.int .u32) 77 6 a0 az b1 b2 bb∧Zo 35 7 a0 az cx #[.bool bx,.slice bz ba.length b0,.slice b1 bb.length b2]∧[53].map f=[.int .i64 a9]) ab.2.2.2.2.length ⟨_,0,_,_,_,_,_,_,_,_,rfl,rfl,hm,aa,ac,ae,af,ad,ce,cf,ah,rfl⟩ ?_;clear hm;intro n f az hI;obtain ⟨a0,a9,bx,bz,b0,ba,b1,b2,bb,b3,hn,hl,hm,aa,ac,ae,af,ad,ai,aj,ah,hs⟩:=hI;subst hn;refine .lL [53] hs ?_
  cases b3 with
  | nil=>
   have hk:¬ ((a9:Int)<(ab.2.2.2.2.length:Int)):=by have:=List.drop_eq_nil_iff.1 hl;omega
   have hkb:=decide_eq_false hk;rw [Za5.eq_1] at hm;refine go ?_;refine Yv (congrArg Value.bool hkb)<|go ?_;refine lV _ (Xj isAgg35 sizeOf35 ah)<|Z2 ad ?_;intro e6 cg di dj;refine go ?_;cases hm;replace ai:=ai.kp cg;replace aj:=aj.kp cg;replace aa:=aa.kp cg di;exact ⟨rfl,_,Tw dj.atN,_,_,_,_,_,rfl,aa.fin (cm [(5,c1),(6,c2)]),aa.fo ai,aa.fo aj⟩
  | cons cy cz=>
   obtain ⟨an,dl,dm⟩:=Y1 hl;have hk:(a9:Int)<(ab.2.2.2.2.length:Int):=by omega
   have hkb:=decide_eq_true hk;rw [Za5.eq_2] at hm;refine go ?_;refine Yw (congrArg Value.bool hkb)<|go ?_;refine lI an ((bo.ks aa).addr an) ?_;obtain ⟨_,dn,dp⟩:=(bo.ks aa).atN an;obtain ⟨⟨dq,dr,rfl,bc⟩,_⟩:=dn;refine lW dp.one<|go ?_;refine X3 ac<|Yn rfl ?_;obtain ⟨b4,ch,hm⟩:=bZ hm;refine lI ch ((bt.ks aa).addr ch) ?_;obtain ⟨_,ds,dt⟩:=(bt.ks aa).atN ch;obtain ⟨⟨du,dv,rfl,a3⟩,_⟩:=ds;refine lW dt.one<|go ?_;refine Xe [1,10,11,2,4,51,52,53,62,63,9,1000000] (fun n f ao=>∃ ag ci b5 b6,n=b6.length∧b4.drop b5=b6∧Za6 N ab ak a9 bx ba bb (Za5 N ab ak cz) cy b6 ci=some r∧St w0 (Zk col) ag ao∧Sl (Za.pair (Za.pair Za.bool (Za.slice (Za.int .u32))) (Za.slice (Za.int .u32))) ag ao dq dr cy∧Zo 27 1 ag ao b7 #[.string ab.1,.slice bj ab.2.1.length bf,.slice bk ab.2.2.1.length bg,.slice bm ab.2.2.2.1.length bh,.slice bn ab.2.2.2.2.length bi]∧Zc (Za.int .u32) 77 3 ag ao av aw al∧Zc (Za.int .u32) 77 4 ag ao ax ay am∧Zo 35 2 ag ao b8 #[.bool a6,.slice av al.length aw,.slice ax am.length ay]∧Sl (Za.int .i64) ag ao du dv b4∧Zc (Za.int .u32) 77 5 ag ao bz b0 ba∧Zc (Za.int .u32) 77 6 ag ao b1 b2 bb∧Zo 35 7 ag ao cx #[.bool bx,.slice bz ba.length b0,.slice b1 bb.length b2]∧[64,12].map f=[.int .i64 b5,.int .i64 ci]) b4.length ⟨_,0,0,_,rfl,rfl,hm,aa,bc,ac,ae,af,ad,a3,ai,aj,ah,rfl⟩ ?_;clear hm;intro n f ao hI;obtain ⟨ag,ci,b5,b6,hn,hl,hm,aa,bc,ac,ae,af,ad,a3,ai,aj,ah,hs⟩:=hI;subst hn;refine .lL [64,12] hs ?_
   cases b6 with
   | nil=>
    have hk:¬ ((b5:Int)<(b4.length:Int)):=by have:=List.drop_eq_nil_iff.1 hl;omega
    have hkb:=decide_eq_false hk;rw [Za6.eq_1] at hm;refine go ?_;refine Yv (congrArg Value.bool hkb)<|go ?_;refine W6 (col:=ag) [(0,0),(1,1),(2,1),(3,1),(4,0),(5,1),(6,1),(7,0),(8,1),(9,1),(10,1),(11,1),(12,1),(13,0),(14,1),(15,1),(16,0),(17,3),(18,3),(19,2)] (by kernel_rfl) (by kernel_rfl)<|xv rfl rfl (fun _ hC=>Xj isAgg35 sizeOf35 (ah.gr (hC.bl ag))) ?_;refine xu rfl rfl (fun _=>Ug rfl) ?_;refine xu rfl rfl (fun _=>Vg rfl) ?_;refine xF ⟨_,_,rfl⟩ ?_;refine xW (fun _ hC=>((ac.atN).nth (q:=2) rfl).gr (hC.bl ag)) ?_;refine xu rfl rfl (fun _=>Vg rfl) ?_;obtain ⟨e7,b9,hm⟩:=bZ hm;refine xu rfl rfl (fun _=>We underlying23 sizeOf22 rfl rfl (Xk b9).1 (Xk b9).2.1 ((au.ks aa).addr b9)) ?_;obtain ⟨_,dw,dx⟩:=(au.ks aa).atN b9;obtain ⟨⟨e8,e9,rfl,fa⟩,_⟩:=dw;refine xW (fun _ hC=>dx.one.gr (hC.bl ag)) ?_;refine xu rfl rfl (fun _=>Zc0 underlying22 rfl) ?_;refine xu rfl rfl (fun _=>Zel _ _ rfl rfl) ?_;refine xu rfl rfl (fun _=>Ug rfl) ?_;refine xu rfl rfl (fun _=>Vg rfl) ?_;obtain ⟨fb,ca,hm⟩:=bZ hm;refine xu rfl rfl (fun _=>We underlying39 sizeOf3 rfl rfl (Xk ca).1 (Xk ca).2.1 ((h1.ks aa).addr ca)) ?_;refine xW (fun _ hC=>((h1.ks aa).gr (hC.bl ag)).atInt ca) ?_;refine xu rfl rfl (fun _=>S8 _ _ rfl rfl) ?_;obtain ⟨cj,cb,hm⟩:=bZ hm;refine xu rfl rfl (fun _=>We underlying71 sizeOf35 rfl rfl (Xk cb).1 (Xk cb).2.1 (bc.addr cb)) ?_;obtain ⟨_,dy,dz⟩:=bc.atN cb;obtain ⟨_,_,rfl,d0,d1⟩:=Vu dy;obtain ⟨_,_,rfl,d2,d3⟩:=Vu d0;obtain ⟨rfl,_⟩:=d2;obtain ⟨⟨d4,d5,rfl,ck⟩,_⟩:=d3;obtain ⟨⟨d6,d7,rfl,cl⟩,_⟩:=d1;refine xv (v:=(.agg #[.bool cj.1.1,.slice d4 cj.1.2.length d5,.slice d6 cj.2.length d7])) rfl rfl (fun _ hC=>Xt isAgg35 sizeOf35 rfl rfl (dz.gr (hC.bl ag))) ?_;refine xe rfl rfl ?_;intro fc hC0;have hC:=hC0.bl ag;obtain ⟨fd,d8,hm⟩:=bZ hm;replace ck:=ck.gr hC;replace cl:=cl.gr hC;refine Zi (Zrp d8 ck cl) ?_;rintro _ fe ⟨bq,ff,fg,fh,fi,rfl,a2,cn,co⟩;refine ⟨_,rfl,?_⟩;refine Zm<|Yd bq hC0 a2<|xe rfl rfl ?_;intro d9 hC0;replace ae:=(ae.gr hC).gr a2;replace af:=(af.gr hC).gr a2;replace ai:=(ai.gr hC).gr a2;replace aj:=(aj.gr hC).gr a2;replace ac:=(ac.gr hC).gr a2;replace ad:=(ad.gr hC).gr a2;replace ah:=(ah.gr hC).gr a2;replace aa:=(aa.grow hC).grow a2
    have hC:=hC0.bl bq;obtain ⟨fj,ea,hm⟩:=bZ hm;replace ai:=ai.gr hC;replace aj:=aj.gr hC;replace cn:=cn.gr hC;replace co:=co.gr hC;refine Zi (Zex 8 9 ea ((ai.toSlF (Zh.int .u32)).froz 6) ((aj.froz 5 (by decide)).toSlF (Zh.int .u32)) ((cn.froz 5).froz 6) ((co.froz 5).froz 6)) ?_;rintro _ fk ⟨eb,fl,fm,fn,fp,rfl,ap,aq,ar⟩;refine ⟨_,rfl,?_⟩;replace aq:=aq.thaw (Z0 .u32) ap (((Fz.refl (col:=bq)).froz 5).froz 6) (by decide);replace ar:=ar.thaw (Z0 .u32) ap (((Fz.refl (col:=bq)).froz 5).froz 6) (by decide);replace ap:=ap.thawR (col:=bq);generalize Xa d9.heap.size bq eb=cc at *;refine Zm<|Yd cc hC0 ap<|xe rfl rfl ?_;intro fq hC0;replace ae:=(ae.gr hC).gr ap;replace af:=(af.gr hC).gr ap;replace ac:=(ac.gr hC).gr ap;replace ad:=(ad.gr hC).gr ap;replace ah:=(ah.gr hC).gr ap;replace aa:=(aa.grow hC).grow ap;have hC:=hC0.bl cc;replace ah:=ah.gr hC;refine Z2 ah ?_;intro fr bd ec be;refine Zm<|xk cc<|W3 ?_;replace ae:=(ae.gr hC).kp bd;replace af:=(af.gr hC).kp bd;replace aq:=(aq.gr hC).kp bd;replace ar:=(ar.gr hC).kp bd;replace ac:=(ac.gr hC).kp bd;replace ad:=(ad.gr hC).kp bd;replace aa:=(aa.grow hC).kp bd ec;intro ft hC;replace hC:=hC.bl cc;refine go ?_;replace ae:=ae.gr hC;replace ae:=ae.recol 8 5 (by decide);replace af:=af.gr hC;replace af:=af.recol 8 5 (by decide);replace aq:=aq.gr hC;replace aq:=aq.recolSelf 5 (by decide);replace ar:=ar.gr hC;replace ar:=ar.recol 8 5 (by decide);replace ac:=ac.gr hC;replace ac:=ac.recol 8 5 (by decide);replace ad:=ad.gr hC;replace ad:=ad.recol 8 5 (by decide);replace be:=be.gr hC;replace be:=be.recol 8 5 (by decide);replace aa:=aa.grow hC;replace aa:=aa.recol 8 5 (by decide) (by decide);replace ae:=ae.recol 9 6 (by decide);replace af:=af.recol 9 6 (by decide);replace aq:=aq.recol 9 6 (by decide);replace ar:=ar.recolSelf 6 (by decide);replace ac:=ac.recol 9 6 (by decide);replace ad:=ad.recol 9 6 (by decide);replace be:=be.recol 9 6 (by decide);replace aa:=aa.recol 9 6 (by decide) (by decide);exact ⟨cz.length,by simp,rfl,⟨_,_,_,_,_,_,_,_,_,_,rfl,dl,hm,aa,ac,ae,af,ad,aq,ar,be,(Y7 (congrArg (Value.int .i64) (Y3 (Nat.lt_of_lt_of_le dm (bo.ks aa).1.1))) rfl)⟩⟩
   | cons fu ed=>
    obtain ⟨an,ee,ef⟩:=Y1 hl;have hk:(b5:Int)<(b4.length:Int):=by omega
    have hkb:=decide_eq_true hk;rw [Za6.eq_2] at hm;refine go ?_;refine Yw (congrArg Value.bool hkb)<|go ?_;refine lI an (a3.addr an)<|lW (a3.atInt an) ?_;refine go ?_;refine Ur (col:=ag) (by kernel_rfl) (by kernel_rfl)<|go ?_;refine qF ⟨_,_,rfl⟩ ?_;refine qW (fun _ hC=>((ac.atN).nth (q:=2) rfl).gr (hC.bl ag)) ?_;refine go ?_;obtain ⟨fv,cp,hm⟩:=bZ hm;refine qI cp ((au.ks aa).addr cp) ?_;obtain ⟨_,eg,eh⟩:=(au.ks aa).atN cp;obtain ⟨⟨fw,fx,rfl,fy⟩,_⟩:=eg;refine qW (fun _ hC=>eh.one.gr (hC.bl ag)) ?_;refine go ?_;obtain ⟨fz,cq,hm⟩:=bZ hm;refine qI cq ((h1.ks aa).addr cq)<|qW (fun _ hC=>((h1.ks aa).gr (hC.bl ag)).atInt cq) ?_;refine go ?_;refine Vn ?_;intro f0 hC;replace hC:=hC.bl ag;refine go ?_;replace bc:=bc.gr hC;replace ae:=ae.gr hC;replace af:=af.gr hC;replace a3:=a3.gr hC;replace ai:=ai.gr hC;replace aj:=aj.gr hC;replace ac:=ac.gr hC;replace ad:=ad.gr hC;replace ah:=ah.gr hC;replace aa:=aa.grow hC;exact ⟨ed.length,by simp,rfl,⟨_,_,_,_,rfl,ee,hm,aa,bc,ac,ae,af,ad,a3,ai,aj,ah,(Y7 (congrArg (Value.int .i64) (Y3 (Nat.lt_of_lt_of_le ef a3.1.1))) rfl)⟩⟩
 | cons ei c0=>
  obtain ⟨an,ej,ek⟩:=Y1 hl;have hk:(a5:Int)<(ak.length:Int):=by omega
  have hkb:=decide_eq_true hk;rw [Qk.eq_2] at hm;refine go ?_;refine Yw (congrArg Value.bool hkb)<|go ?_;refine lI an ((h1.ks aa).addr an)<|lW ((h1.ks aa).atInt an)<|Ym rfl<|Ym rfl<|Zm<|Zw ?_;refine Wp.cutK [1,2,28,29,30,4,1000000] (fun f br=>∃ bs cr,Zf3 a5 a6 al am (Qk N ab ak c0) cr=some r∧St w0 (Zk col) bs br∧Zo 27 1 bs br b7 #[.string ab.1,.slice bj ab.2.1.length bf,.slice bk ab.2.2.1.length bg,.slice bm ab.2.2.2.1.length bh,.slice bn ab.2.2.2.2.length bi]∧Zc (Za.int .u32) 77 3 bs br av aw al∧Zc (Za.int .u32) 77 4 bs br ax ay am∧Zo 35 2 bs br b8 #[.bool a6,.slice av al.length aw,.slice ax am.length ay]∧[46].map f=[.bool cr]) ?_ ?_
  ·intro f br hJ;obtain ⟨bs,cr,hm,aa,ac,ae,af,ad,hs⟩:=hJ;rw [Zf3.eq_1] at hm;refine .lL [46] hs ?_;refine Zs hm (fun hb hm=>go ?_) fun hb hm=>go ?_
   ·refine lV (.agg #[.bool false,.slice none (([]:List Int).length) 0,.slice none (([]:List Int).length) 0]) (Yk (l:=[_,_]) (qs:=[(0,2),(2,1)]) underlying35 zeroValue35 ⟨rfl,sizeOf33,rfl,sizeOf31,trivial⟩ rfl)<|Z2 ad ?_;intro f1 el em en;refine go ?_;cases hm;replace aa:=aa.kp el em;exact ⟨rfl,_,Tw en.atN,_,none,0,none,0,rfl,aa.fin (cm []),Zc.nil,Zc.nil⟩
   exact ⟨c0.length,by simp,rfl,⟨_,_,_,_,_,_,_,_,_,_,rfl,ej,hm,aa,ac,ae,af,ad,(Y7 (congrArg (Value.int .i64) (Y3 (Nat.lt_of_lt_of_le ek (h1.ks aa).1.1))) rfl)⟩⟩
  refine go ?_;refine X1 hm (fun cs hm=>go ?_) fun cs hm=>go ?_
  ·refine lV (.bool true) (Xm (congrArg Value.bool cs) rfl)<|Zm ?_;exact ⟨rfl,_,_,hm,aa,ac,ae,af,ad,rfl⟩
  refine X8 ⟨_,_,rfl⟩ ?_;refine go ?_;refine lW ((ac.atN).nth (q:=2) rfl)<|go ?_;obtain ⟨eo,ct,hm⟩:=bZ hm;refine lI ct ((au.ks aa).addr ct) ?_;refine go ?_;obtain ⟨_,ep,eq⟩:=(au.ks aa).atN ct;obtain ⟨⟨f2,f3,rfl,f4⟩,_⟩:=ep;refine lW eq.one<|go ?_;refine lV (.bool (decide ((eo.length:Int)≤ei))) (Xd (congrArg Value.bool cs) rfl)<|Zm ?_;exact ⟨rfl,_,_,hm,aa,ac,ae,af,ad,rfl⟩
def ent (n:Z8) (w:List Int) (v:Nat):Rat:=Zt ((Xb n w v).getD (w.getD v 0).toNat ((false,[]),[]))
def Zej (n:Z8) (w:List Int):List Int→Rat
 | []=>1
 | v :: l=>ent n w v.toNat * Zej n w l
def U0 (n:Z8) (w:List Int):Nat→Nat→Rat→Rat
 | 0,_,q=>q
 | m+1,k,q=>U0 n w m (k+1) (q * ent n w k)
theorem Zv2 {n:Z8} {w:List Int}:∀ (m k:Nat) (q:Rat),U0 n w m k q=0↔q=0∨∃ i,k≤i∧i<k+m∧ent n w i=0
 | 0,k,q=>by
  rw [U0]
  exact ⟨.inl,fun h=>h.elim id fun ⟨i,a,b,_⟩=>by omega⟩
 | m+1,k,q=>by
  rw [U0,Zv2 m (k+1),Rat.mul_eq_zero]
  constructor
  ·rintro ((h | h) | ⟨i,a,b,c⟩)
   ·exact .inl h
   ·exact .inr ⟨k,Nat.le_refl _,by omega,h⟩
   ·exact .inr ⟨i,by omega,by omega,c⟩
  ·rintro (h | ⟨i,a,b,c⟩)
   ·exact .inl (.inl h)
   ·by_cases e:i=k
    ·subst e;exact .inl (.inr c)
    ·exact .inr ⟨i,by omega,by omega,c⟩
theorem Zpu {n:Z8} {w:List Int}:∀ l:List Int,Zej n w l=0↔∃ v ∈ l,ent n w v.toNat=0
 | []=>by rw [Zej];simp
 | v :: l=>by
  rw [Zej,Rat.mul_eq_zero,Zpu l]
  simp
section
variable {N:Nat} {n:Z8} (hf:Y9 N n) {w:List Int} (hw:Yo n w)
include hf hw
theorem Zx3 {ord:List Int} (ho:Uh n.2.2.2.1 ord):∀ (l:List Int) (s:Rat×Rat),(∀ y ∈ l,y ∈ ord)→(X6 n w l s).2 - (X6 n w l s).1=(s.2 - s.1) * Zej n w l
 | [],s,_=>by rw [Zej,Rat.mul_one];rfl
 | v :: l,s,he=>by
  have hvr:=ho.rg v (he v List.mem_cons_self)
  rw [hf.ev.p] at hvr
  have hv:v.toNat<n.2.1.length:=by omega
  have hwv:=hw.ok v.toNat (by rw [hw.len];exact hv)
  have hq:(w.getD v.toNat 0).toNat<(Xb n w v.toNat).length:=by rw [hf.rowT_len hw hv];omega
  have hp:=Zvy (s.2 - s.1) (Xb n w v.toNat) s.1 _ hq
  rw [X6,Zx3 ho l _ fun y hy=>he y (List.mem_cons_of_mem _ hy),Zej,ent,Ye hq,← Rat.mul_assoc]
  congr 1
  generalize (Xs (s.2 - s.1) (Xb n w v.toNat) s.1).getD (w.getD v.toNat 0).toNat (0,0)=p at *
  rw [hp]
  grind
theorem Z5c {ord:List Int} (ho:Uh n.2.2.2.1 ord) (hall:∀ i,i<n.2.1.length→(i:Int) ∈ ord):(X6 n w ord (0,1)).1=(X6 n w ord (0,1)).2↔U0 n w n.2.1.length 0 1=0:=by
 have h:=Zx3 hf hw ho ord (0,1) fun _ h=>h
 have e:((0:Rat),(1:Rat)).2 - ((0:Rat),(1:Rat)).1=1:=by show (1:Rat) - 0=1;grind
 rw [e,Rat.one_mul] at h
 rw [Zv2]
 constructor
 ·intro g
  rw [g,Rat.sub_self] at h
  obtain ⟨v,h1,h2⟩:=(Zpu ord).1 h.symm
  have:=ho.rg v h1
  rw [hf.ev.p] at this
  exact .inr ⟨v.toNat,Nat.zero_le _,by omega,h2⟩
 ·rintro (g | ⟨i,_,h1,h2⟩)
  ·exact absurd g (by decide)
  ·have:=(Zpu (n:=n) (w:=w) ord).2 ⟨(i:Int),hall i (by omega),by rw [Int.toNat_natCast];exact h2⟩
   rw [this] at h
   grind
variable {W K:Nat} (hs:Wz n W) (hr:Z4 N (8 * K+40)) (hWK:1025 * (W+2)+4≤K)
include hs hr hWK
omit hr hWK in
theorem Zs7 {k:Nat} (hk:k<n.2.1.length):qs (ent n w k)≤W+1:=by
 have hwv:=hw.ok k (by rw [hw.len];exact hk)
 have hq:(w.getD k 0).toNat<(Xb n w k).length:=by rw [hf.rowT_len hw hk];omega
 rw [ent,Ye hq]
 obtain ⟨h1,h2⟩:=Zhz hf hs hk _ (Zao (List.getElem_mem hq))
 have:=Zjp h1
 omega
omit hs hr hWK in
theorem Zr4 {k:Nat} (hk:k<n.2.1.length) (a:Bool) (b c:List Int) (kk:Nat→Bool→List Int→List Int→Option (QV×Int)) (t:List QV):∀ (ps:List Int) (r kb:Nat),(∀ q ∈ ps,0≤q∧q<(n.2.1.length:Int))→r<kb→kb≤65536→Yj n.2.2.1 ps kb≤65536→
  Za6 N n w k a b c kk t ps (r:Int)=Za6 N n w k a b c kk t [] (Qw n w ps r:Int)
 | [],r,kb,_,_,_,_=>rfl
 | p :: ps,r,kb,hp,h1,h2,h3=>by
  obtain ⟨g1,g2,g3⟩:=Zm1 hf.ev hw hp h1 h2 h3
  have hpp:=hp p List.mem_cons_self
  have hwp:=hw.ok p.toNat (by rw [hw.len];omega)
  have g4:r * cnt n p.toNat≤kb * cnt n p.toNat:=Nat.mul_le_mul_right _ (by omega)
  have q1:Zp n.2.2.1 p=some (n.2.2.1.getD p.toNat []):=by
   have:=Wr (l:=n.2.2.1) [] (j:=p.toNat) (by rw [hf.ev.v];omega)
   rwa [show ((p.toNat:Nat):Int)=p by omega] at this
  have q2:Zp w p=some (w.getD p.toNat 0):=by
   have:=Wr (l:=w) 0 (j:=p.toNat) (by rw [hw.len];omega)
   rwa [show ((p.toNat:Nat):Int)=p by omega] at this
  have e1:i64.wrap ((r:Int) * ((n.2.2.1.getD p.toNat []).length:Int))=((r * cnt n p.toNat:Nat):Int):=by
   rw [show ((n.2.2.1.getD p.toNat []).length:Int)=((cnt n p.toNat:Nat):Int) from rfl,← Int.natCast_mul]
   exact Zv (by omega)
  have e2:i64.wrap (((r * cnt n p.toNat:Nat):Int)+w.getD p.toNat 0)=((r * cnt n p.toNat+(w.getD p.toNat 0).toNat:Nat):Int):=by
   rw [Int.natCast_add,show (((w.getD p.toNat 0).toNat:Nat):Int)=w.getD p.toNat 0 by omega]
   exact Zv (by omega)
  rw [Za6.eq_2,q1,Option.bind_some,q2,Option.bind_some,e1,e2]
  exact Zr4 hk a b c kk t ps _ _ (fun q hq=>hp q (List.mem_cons_of_mem _ hq)) g1 g2 g3
theorem Zr3:∀ (l:List (List QV)) (k:Nat) (q:Rat),n.2.2.2.2.drop k=l→k≤n.2.1.length→qs q≤k * (W+1)+1→Za5 N n w l k (Zj q).1.1 (Zj q).1.2 (Zj q).2=some (Zj (U0 n w l.length k q),0)
 | [],k,q,_,_,_=>rfl
 | t :: l,k,q,hd,hk,hq=>by
  have ht:=hf.ev.t
  have hle:=hf.le
  have hk1:k<n.2.2.2.2.length:=by
   rcases Nat.lt_or_ge k n.2.2.2.2.length with h | h
   ·exact h
   ·rw [List.drop_eq_nil_of_le h] at hd;cases hd
  have hv:k<n.2.1.length:=by omega
  rw [List.drop_eq_getElem_cons hk1] at hd
  obtain ⟨e1,e2⟩:=List.cons.inj hd
  have htd:n.2.2.2.2.getD k []=t:=by rw [Ye hk1];exact e1
  have hrows:=hf.rows hv
  have hrow:=hf.row hw hv
  have hwk:=hw.ok k (by rw [hw.len];exact hv)
  have h2:=Zr4 hf hw hv (Zj q).1.1 (Zj q).1.2 (Zj q).2 (Za5 N n w l) t (n.2.2.2.1.getD k []) 0 1 (hf.pars hv) (by omega) (by omega) hrows.2.2
  rw [show ((0:Nat):Int)=0 from rfl] at h2
  have hj:(w.getD k 0).toNat<(Xb n w k).length:=by rw [hf.rowT_len hw hv];omega
  have e3:i64.wrap ((Wf n w k:Int) * ((n.2.2.1.getD k []).length:Int))=((Wf n w k * cnt n k:Nat):Int):=by
   rw [show ((n.2.2.1.getD k []).length:Int)=((cnt n k:Nat):Int) from rfl,← Int.natCast_mul]
   exact Zv (by omega)
  have e4:i64.wrap (((Wf n w k * cnt n k:Nat):Int)+w.getD k 0)=((Wf n w k * cnt n k+(w.getD k 0).toNat:Nat):Int):=by
   rw [Int.natCast_add,show (((w.getD k 0).toNat:Nat):Int)=w.getD k 0 by omega]
   exact Zv (by omega)
  have hat:Zp t ((Wf n w k * cnt n k+(w.getD k 0).toNat:Nat):Int)=some (Xb n w k)[(w.getD k 0).toNat]:=by
   rw [← htd];exact Zqi hj
  obtain ⟨y,hy⟩:∃ y,y=(Xb n w k)[(w.getD k 0).toNat]:=⟨_,rfl⟩
  obtain ⟨y1,y2⟩:=Zhz hf hs hv y (Zao (hy ▸ List.getElem_mem hj))
  have he:ent n w k=Zt y:=by rw [ent,Ye hj,hy]
  have hmul:k * (W+1)≤1024 * (W+1):=Nat.mul_le_mul_right _ (by omega)
  have hfit:Wy (Ws y):=by
   rw [Ws];split
   ·exact ⟨y1.1,by simp [Zn]⟩
   ·exact y1
  have hfk:RV (W+1) (Ws y):=by
   refine ⟨hfit.1,hfit.2,?_,?_⟩
   ·rw [Ws];split
    ·simp only;omega
    ·omega
   ·rw [Ws];split
    ·simp
    ·omega
  have f1:Zcc N ((y.1.1,y.1.2),y.2)=some (Ws y):=Zti y1 y2 (hr.mono (by omega))
  have m1:Ul N (((Zj q).1.1,(Zj q).1.2),(Zj q).2) (((Ws y).1.1,(Ws y).1.2),(Ws y).2)=some (Zj (q * ent n w k)):=by
   have:=Zh0 (Yr hq) hfk (hr.mono (by omega))
   rwa [Yi,Zof,← he] at this
  have hqs:=Zcz q (ent n w k)
  have hqe:=Zs7 hf hw hs hv
  have ih:=Zr3 l (k+1) (q * ent n w k) e2 (by omega) (by rw [Nat.add_mul,Nat.one_mul];omega)
  rw [Za5.eq_2,Wr [] (by rw [hf.ev.p];exact hv),Option.bind_some,h2,← Wf,Za6.eq_1,Wr [] (by rw [hf.ev.v];exact hv),Option.bind_some,Wr 0 (by rw [hw.len];exact hv),Option.bind_some,e3,e4,hat,← hy,Option.bind_some,f1,Option.bind_some,m1,Option.bind_some,List.length_cons,U0]
  exact ih
end
theorem Zr2 {N:Nat} {n:Z8} (he:U3 n) (hl:n.2.1.length≤1048576) (w:List Int) (hw:w.length=n.2.1.length):∀ (l:List Int) (k:Nat) (b:Bool) (l1 l2:List Int),w.drop k=l→k≤w.length→Qk N n w l k b l1 l2=if Vl n l k=true then Qk N n w [] w.length b l1 l2 else some (((false,([]:List Int)),([]:List Int)),3)
 | [],k,b,l1,l2,hd,h1=>by
  have:=List.drop_eq_nil_iff.1 hd
  rw [Vl,if_pos rfl,show k=w.length by omega]
 | x :: l,k,b,l1,l2,hd,h1=>by
  have hk:k<w.length:=by
   rcases Nat.lt_or_ge k w.length with h | h
   ·exact h
   ·rw [List.drop_eq_nil_of_le h] at hd;cases hd
  rw [List.drop_eq_getElem_cons hk] at hd
  obtain ⟨e1,e2⟩:=List.cons.inj hd
  rw [Qk.eq_2,Vl]
  by_cases hx:x<0
  ·rw [if_pos (decide_eq_true hx),Zf3,if_pos rfl,decide_eq_true hx];rfl
  ·rw [if_neg (by rw [decide_eq_false hx];decide),Wr [] (by rw [he.v];omega),Option.bind_some,Zf3,decide_eq_false hx]
   by_cases hc:(cnt n k:Int)≤x
   ·rw [show ((n.2.2.1.getD k []).length:Int)=(cnt n k:Int) from rfl,decide_eq_true hc,if_pos rfl];rfl
   ·rw [show ((n.2.2.1.getD k []).length:Int)=(cnt n k:Int) from rfl,decide_eq_false hc,if_neg (by decide),Zr2 he hl w hw l (k+1) b l1 l2 e2 (by omega)];rfl
theorem Zr5 {N W K:Nat} {n:Z8} (hf:Y9 N n) (hs:Wz n W) (hr:Z4 N (8 * K+40)) (hWK:1025 * (W+2)+4≤K) (hN:2000000<N) (hC:Um N n=some 0) (w:List Int):
  ∃ p e,Zf2 N n w=some (p,e)∧((e≠0∧(decide (w.length=n.2.1.length)&&Vl n w 0)=false)∨(e=0∧Yo n w∧p=Zj (U0 n w n.2.1.length 0 1))):=by
 have hC':Um N (n.1,n.2.1,n.2.2.1,n.2.2.2.1,n.2.2.2.2)=some 0:=hC
 have hle:=hf.le
 rw [Zf2,hC',Option.bind_some,if_neg (by decide)]
 by_cases hlen:w.length=n.2.1.length
 ·rw [if_neg (show ¬ (!decide ((w.length:Int)=(n.2.1.length:Int)))=true by rw [decide_eq_true (by omega)];decide),Zr2 hf.ev (by omega) w hlen w 0 false [] [] rfl (Nat.zero_le _)]
  cases hin:Vl n w 0 with
  | false=>rw [if_neg (show ¬ false=true by decide)];exact ⟨_,3,rfl,.inl ⟨by decide,by simp⟩⟩
  | true=>
   have hw:=Z17 hlen hin
   have h2:=Zr3 hf hw hs hr hWK n.2.2.2.2 0 1 rfl (Nat.zero_le _) (by rw [Zjo];omega)
   rw [if_pos rfl,Qk.eq_1,Zpi (hr.mono (by omega)),Option.bind_some,h2,hf.ev.t]
   exact ⟨_,0,rfl,.inr ⟨rfl,hw,rfl⟩⟩
 ·rw [if_pos (show (!decide ((w.length:Int)=(n.2.1.length:Int)))=true by rw [decide_eq_false (by omega)];rfl)]
  exact ⟨_,60,rfl,.inl ⟨by decide,by rw [decide_eq_false hlen];rfl⟩⟩
def Zg7 (N:Nat) (ab:R3) (ac:R3):Option Rd:=
  (Zcg N ab.2 ac.2).bind fun aa=>if (!decide (aa.2.2=0))=true then (some ((false,([]:List Int)),(false,([]:List Int)),aa.2.2)) else ((Tr N (!decide (ab.1=ac.1)) aa.1).bind fun ad=>(Tr N ab.1 aa.2.1).bind fun ae=>some ((ad.1,ad.2),(ae.1,ae.2),0))
theorem Z0p {N a3 a4:Nat} {a5 a6:Option Addr} {col:Ze} {w0:World} {aq ar:R3} {r:Rd} (c1 c2:Nat) (hm:Zg7 N aq ar=some r) (ax:Sl (Za.int .u32) col w0 a5 a3 aq.2) (ay:Sl (Za.int .u32) col w0 a6 a4 ar.2):
    Calls Tryz.prog 154 #[(.agg #[.bool aq.1,.slice a5 aq.2.length a3]),(.agg #[.bool ar.1,.slice a6 ar.2.length a4])] w0 (fun e w'=>∃ (col':Ze) (ra1:Option Addr) (rc2:Nat) (ra4:Option Addr) (rc5:Nat),e= .returned (.tuple #[(.agg #[.bool r.1.1,.slice ra1 r.1.2.length rc2]),(.agg #[.bool r.2.1.1,.slice ra4 r.2.1.2.length rc5]),.int .i64 r.2.2])∧Zg col w0 col' w'∧Zc (Za.int .u32) 77 c1 col' w' ra1 rc2 r.1.2∧Zc (Za.int .u32) 77 c2 col' w' ra4 rc5 r.2.1.2):=by
 refine Yu (m:=35) func154 rfl rfl rfl ?_;rw [Zg7.eq_1] at hm;have aa:=St.start col w0;refine go ?_;refine Xy (col:=(Zk col)) 1 rfl ?_;intro bv bw be bf ai;refine Xy (col:=be) 2 rfl ?_;intro bx bz bg a7 aj;refine Xl (col:=bg) #[.bool false,.slice none (([]:List Int).length) 0] 3 zeroValue33 ?_;intro b0 b1 bh az ad;refine Xl (col:=bh) #[.bool false,.slice none (([]:List Int).length) 0] 4 zeroValue33 ?_;intro b2 b3 b4 au ab;refine go ?_;refine X8 ⟨_,_,rfl⟩ ?_;replace ai:=((ai.gr a7).gr az).gr au;refine lW ((ai.atN).nth (q:=1) rfl)<|X8 ⟨_,_,rfl⟩ ?_;replace aj:=(aj.gr az).gr au;refine lW ((aj.atN).nth (q:=1) rfl) ?_;obtain ⟨ak,bi,hm⟩:=bZ hm;replace ax:=ax.keep (Zl.start col w0);replace ay:=ay.keep (Zl.start col w0);replace aa:=(((aa.grow bf).grow a7).grow az).grow au;refine Zi (Zkj 5 6 bi (ax.ks aa) (ay.ks aa)) ?_;rintro _ b5 ⟨af,a8,a9,ba,bb,rfl,am,a0,an⟩;refine ⟨_,rfl,?_⟩;refine lM (.tuple #[.slice a8 ak.1.length a9,.slice ba ak.2.1.length bb,.int .i64 ak.2.2])<|lV (.slice a8 ak.1.length a9) (Xh rfl rfl)<|lV (.slice ba ak.2.1.length bb) (Xh rfl rfl)<|lV (.int .i64 ak.2.2) (Xh rfl rfl)<|go ?_;replace ad:=(ad.gr au).gr am;replace ai:=ai.gr am;replace aj:=aj.gr am;replace ab:=ab.gr am;replace aa:=aa.grow am;refine Zs hm (fun hb hm=>go ?_) fun hb hm=>go ?_
 ·refine lV (.agg #[.bool false,.slice none (([]:List Int).length) 0]) (Yk (l:=[_,_]) (qs:=[(0,1),(1,1)]) underlying33 zeroValue33 ⟨rfl,sizeOf4,rfl,sizeOf31,trivial⟩ rfl)<|lV (.agg #[.bool false,.slice none (([]:List Int).length) 0]) (Yk (l:=[_,_]) (qs:=[(0,1),(1,1)]) underlying33 zeroValue33 ⟨rfl,sizeOf4,rfl,sizeOf31,trivial⟩ rfl)<|Yn rfl<|Z2 ad ?_;intro b6 bc bj a1;replace ab:=ab.kp bc;refine Z2 ab ?_;intro b7 bd bk bm;refine go ?_;cases hm;replace aa:=(aa.kp bc bj).kp bd bk;replace a1:=a1.kp bd;exact ⟨rfl,_,Zmx rfl rfl isAgg33 sizeOf33 rfl rfl a1.atN rfl isAgg33 sizeOf33 rfl rfl bm.atN rfl rfl,_,none,0,none,0,rfl,aa.fin (cm []),Zc.nil,Zc.nil⟩
 refine W6 (col:=af) [(0,1),(1,0),(2,1),(3,0),(4,1),(5,1),(7,1),(8,0),(9,1),(6,3),(10,3),(11,2),(12,2),(13,1)] (by kernel_rfl) (by kernel_rfl)<|xF ⟨_,_,rfl⟩ ?_;refine xW (fun _ hC=>((ai.atN).nth (q:=0) rfl).gr (hC.bl af)) ?_;refine xF ⟨_,_,rfl⟩ ?_;refine xW (fun _ hC=>((aj.atN).nth (q:=0) rfl).gr (hC.bl af)) ?_;refine xu rfl rfl (fun _=>Zjr _ _ underlying4 rfl rfl) ?_;refine xu rfl rfl (fun _=>Ug rfl) ?_;refine xF ⟨_,_,rfl⟩ ?_;refine xW (fun _ hC=>((ai.atN).nth (q:=0) rfl).gr (hC.bl af)) ?_;refine xu rfl rfl (fun _=>Ug rfl) ?_;refine xe rfl rfl ?_;intro bn hC0;have hC:=hC0.bl af;obtain ⟨b8,bo,hm⟩:=bZ hm;replace a0:=a0.gr hC;refine Zi (Q3 7 bo (a0.toSlF (Zh.int .u32))) ?_;rintro _ b9 ⟨bp,ca,cb,rfl,ag,ac⟩;refine ⟨_,rfl,?_⟩;replace ac:=ac.thaw (Z0 .u32) ag ((Fz.refl (col:=af)).froz 5) (by decide);replace ag:=ag.thawR (col:=af);generalize Xa bn.heap.size af bp=ao at *;refine Zm<|Yd ao hC0 ag<|xe rfl rfl ?_;intro bq hC0;replace an:=(an.gr hC).gr ag;replace ad:=(ad.gr hC).gr ag;replace ab:=(ab.gr hC).gr ag;replace aa:=(aa.grow hC).grow ag;have hC:=hC0.bl ao;obtain ⟨cc,br,hm⟩:=bZ hm;replace an:=an.gr hC;refine Zi (Q3 8 br (an.toSlF (Zh.int .u32))) ?_;rintro _ cd ⟨bs,ce,cf,rfl,ah,ae⟩;refine ⟨_,rfl,?_⟩;replace ae:=ae.thaw (Z0 .u32) ah ((Fz.refl (col:=ao)).froz 6) (by decide);replace ah:=ah.thawR (col:=ao);generalize Xa bq.heap.size ao bs=al at *;refine Zm<|Yd al hC0 ah<|xe rfl rfl ?_;intro cg hC0;replace ac:=(ac.gr hC).gr ah;replace ad:=(ad.gr hC).gr ah;replace ab:=(ab.gr hC).gr ah;replace aa:=(aa.grow hC).grow ah;have hC:=hC0.bl al;replace ad:=ad.gr hC;refine Z2 ad ?_;intro ch av bt ap;refine Zm<|xk al<|xe rfl rfl ?_;intro ci hC0;replace ac:=(ac.gr hC).kp av;replace ae:=(ae.gr hC).kp av;replace ab:=(ab.gr hC).kp av;replace aa:=(aa.grow hC).kp av bt;have hC:=hC0.bl al;replace ab:=ab.gr hC;refine Z2 ab ?_;intro cj aw bu a2;refine Zm<|xk al<|xu rfl rfl (fun _=>Zmo rfl) ?_;refine W3 ?_;replace ac:=(ac.gr hC).kp aw;replace ae:=(ae.gr hC).kp aw;replace ap:=(ap.gr hC).kp aw;replace aa:=(aa.grow hC).kp aw bu;intro ck hC;replace hC:=hC.bl al;refine Vp ?_;cases hm;replace ac:=ac.gr hC;replace ae:=ae.gr hC;replace ap:=ap.gr hC;replace a2:=a2.gr hC;replace aa:=aa.grow hC
 exact ⟨rfl,_,Zmx rfl rfl isAgg33 sizeOf33 rfl rfl ap.atN rfl isAgg33 sizeOf33 rfl rfl a2.atN rfl rfl,_,_,_,_,_,rfl,aa.fin (cm [(7,c1),(8,c2)]),aa.fo ac,aa.fo ae⟩
def Zg5 (N:Nat) (ab:R3) (aa:Rd) (af:Bool):Option Rd:=
  if af=true then (some ((aa.1.1,aa.1.2),(aa.2.1.1,aa.2.1.2),aa.2.2)) else ((Zcv N 1).bind fun ac=>(Zee N (aa.1.1,aa.1.2) (ac.1,ac.2)).bind fun ad=>(Zcu N (aa.2.1.1,aa.2.1.2) (ab.1,ab.2)).bind fun ae=>some ((ad.1,ad.2),(ae.1,ae.2),0))
def Zje (N:Nat) (ac:R3) (aa:R3):Option Rd:=
  (Zg7 N (ac.1,ac.2) (aa.1,aa.2)).bind fun ab=>if (!decide (ab.2.2=0))=true then (Zg5 N aa ab true) else ((Se N (ab.2.1.1,ab.2.1.2)).bind fun ad=>(Se N (aa.1,aa.2)).bind fun ae=>Zg5 N aa ab (decide (0≤(i64.wrap (ad * ae)))))
theorem Z0l {N bt bf:Nat} {bu bg:Option Addr} {col:Ze} {w0:World} {a9 ap:R3} {r:Rd} (c1 c2:Nat) (hm:Zje N a9 ap=some r) (bh:Sl (Za.int .u32) col w0 bu bt a9.2) (az:Sl (Za.int .u32) col w0 bg bf ap.2):
    Calls Tryz.prog 100 #[(.agg #[.bool a9.1,.slice bu a9.2.length bt]),(.agg #[.bool ap.1,.slice bg ap.2.length bf])] w0 (fun e w'=>∃ (col':Ze) (ra1:Option Addr) (rc2:Nat) (ra4:Option Addr) (rc5:Nat),e= .returned (.tuple #[(.agg #[.bool r.1.1,.slice ra1 r.1.2.length rc2]),(.agg #[.bool r.2.1.1,.slice ra4 r.2.1.2.length rc5]),.int .i64 r.2.2])∧Zg col w0 col' w'∧Zc (Za.int .u32) 77 c1 col' w' ra1 rc2 r.1.2∧Zc (Za.int .u32) 77 c2 col' w' ra4 rc5 r.2.1.2):=by
 refine Yu (m:=36) func100 rfl rfl rfl ?_;rw [Zje.eq_1] at hm;have aa:=St.start col w0;refine go ?_;refine Xy (col:=(Zk col)) 1 rfl ?_;intro cu cv b2 b3 bi;refine Xy (col:=b2) 2 rfl ?_;intro b4 cw b5 bv ah;refine Xl (col:=b5) #[.bool false,.slice none (([]:List Int).length) 0] 3 zeroValue33 ?_;intro b6 cx b7 bj af;refine Xl (col:=b7) #[.bool false,.slice none (([]:List Int).length) 0] 4 zeroValue33 ?_;intro b8 cy cz ba ac;refine go ?_;replace bi:=((bi.gr bv).gr bj).gr ba;refine lV _ (Xj isAgg33 sizeOf33 bi) ?_;replace ah:=(ah.gr bj).gr ba;refine lV _ (Xj isAgg33 sizeOf33 ah) ?_;obtain ⟨ae,b9,hm⟩:=bZ hm;replace bh:=bh.keep (Zl.start col w0);replace az:=az.keep (Zl.start col w0);replace aa:=(((aa.grow b3).grow bv).grow bj).grow ba;refine Zi (Z0p 5 6 b9 (bh.ks aa) (az.ks aa)) ?_;rintro _ c0 ⟨ca,a0,a1,a2,a3,rfl,bb,ag,ad⟩;refine ⟨_,rfl,?_⟩;refine lM (.tuple #[(.agg #[.bool ae.1.1,.slice a0 ae.1.2.length a1]),(.agg #[.bool ae.2.1.1,.slice a2 ae.2.1.2.length a3]),.int .i64 ae.2.2])<|lV (.agg #[.bool ae.1.1,.slice a0 ae.1.2.length a1]) (Xh rfl rfl)<|lV (.agg #[.bool ae.2.1.1,.slice a2 ae.2.1.2.length a3]) (Xh rfl rfl)<|lV (.int .i64 ae.2.2) (Xh rfl rfl)<|Xl (col:=ca) #[.bool false,.slice none (([]:List Int).length) 0] 7 zeroValue33 ?_;intro cb c3 cc aw bk;refine Xl (col:=cc) #[.bool false,.slice none (([]:List Int).length) 0] 8 zeroValue33 ?_;intro cd c4 aq ar bm;replace bk:=bk.gr ar;refine Z2 bk ?_;intro c5 au ce ai;replace bm:=bm.kp au;refine Z2 bm ?_;intro c6 av cf ak;refine Ym rfl<|Zm<|Zw<|Zw ?_;replace af:=(((((af.gr ba).gr bb).gr aw).gr ar).kp au).kp av;replace ah:=((((ah.gr bb).gr aw).gr ar).kp au).kp av;replace ac:=((((ac.gr bb).gr aw).gr ar).kp au).kp av;replace aa:=((((aa.grow bb).grow aw).grow ar).kp au ce).kp av cf;replace ag:=(((ag.gr aw).gr ar).kp au).kp av;replace ad:=(((ad.gr aw).gr ar).kp au).kp av;replace ai:=ai.kp av
 refine Wp.cutK [3,4,5,7,8,9,1000000] (fun f al=>∃ ab bn,Zg5 N ap ae bn=some r∧St w0 (Zk col) ab al∧Zo 33 2 ab al b4 #[.bool ap.1,.slice bg ap.2.length bf]∧Zo 33 3 ab al b6 #[.bool false,.slice none (([]:List Int).length) 0]∧Zo 33 4 ab al b8 #[.bool false,.slice none (([]:List Int).length) 0]∧Zc (Za.int .u32) 77 5 ab al a0 a1 ae.1.2∧Zo 33 7 ab al cb #[.bool ae.1.1,.slice a0 ae.1.2.length a1]∧Zc (Za.int .u32) 77 6 ab al a2 a3 ae.2.1.2∧Zo 33 8 ab al cd #[.bool ae.2.1.1,.slice a2 ae.2.1.2.length a3]∧[26].map f=[.bool bn]) ?_ ?_
 ·intro f al hJ;obtain ⟨ab,bn,hm,aa,ah,af,ac,ag,ai,ad,ak,hs⟩:=hJ;rw [Zg5.eq_1] at hm;refine .lL [26] hs ?_;refine Zs hm (fun hb hm=>?_) fun hb hm=>go ?_
  ·refine Zw<|Z5k (col:=ab) (pS [3]) [(0,0),(1,5),(2,1),(3,4),(4,2),(5,1)] (by kernel_rfl) (by kernel_rfl)<|xvD (v:=(.agg #[.bool ae.1.1,.slice a0 ae.1.2.length a1])) rfl rfl (fun _ hC=>Xt isAgg33 sizeOf33 rfl rfl (ai.atN.gr (hC.bl ab))) ?_;refine xsD (v:=(.agg #[.bool ae.2.1.1,.slice a2 ae.2.1.2.length a3])) rfl rfl (fun _ hC=>Xt isAgg33 sizeOf33 rfl rfl (ak.dk hC rfl rfl).atN) ?_;refine xuD (v:=(.int .i64 ae.2.2)) rfl rfl (fun _=>Wm rfl) ?_;refine xeD rfl rfl ?_;intro cg hC0;have hC:=hC0.bl ab;replace ag:=ag.gr hC;replace ad:=ad.gr hC;replace af:=af.gr hC;replace ac:=ac.gr hC;replace aa:=aa.grow hC;have bo:Zz (pS [3]) ab al ab cg:=hC.toP;refine Z2 af ?_;intro bw a4 bx a5;replace bo:=bo.kp a4 bx rfl;refine Zm ?_;refine ⟨fun w'=>Zg ab bw ab w',fun w'=>∃ c',Zz (pS [3]) ab bw c' w',Zg.refl _ _,fun _ h=>⟨_,h.toP⟩,fun h=>absurd h (by decide),fun _ _ ⟨c9,h⟩=>⟨c9,bo.trans h⟩,?_⟩;refine xeD rfl rfl ?_;intro c7 hC0;have hC:=hC0.bl ab;replace ac:=(ac.kp a4).gr hC;refine Z2 ac ?_;intro bz bc ch bp;refine Zm ?_;refine ⟨fun w'=>Zg ab bz ab w',fun w'=>∃ c',Zz (pS [3]) ab bz c' w',Zg.refl _ _,fun _ h=>⟨_,h.toP⟩,fun h=>absurd h (by decide),fun h=>absurd h (by decide),?_⟩;refine xuD (v:=(.int .i64 ae.2.2)) rfl rfl (fun _=>Uq rfl) ?_;refine Z5s ?_;replace ag:=((ag.kp a4).gr hC).kp bc;replace ad:=((ad.kp a4).gr hC).kp bc;replace aa:=((aa.kp a4 bx).grow hC).kp bc ch;replace a5:=(a5.gr hC).kp bc;intro c8 hC;replace hC:=hC.bl ab;refine Vp ?_;cases hm;replace ag:=ag.gr hC;replace ad:=ad.gr hC;replace a5:=a5.gr hC;replace bp:=bp.gr hC;replace aa:=aa.grow hC;exact ⟨rfl,_,Zmx rfl rfl isAgg33 sizeOf33 rfl rfl a5.atN rfl isAgg33 sizeOf33 rfl rfl bp.atN rfl rfl,_,_,_,_,_,rfl,aa.fin (cm [(5,c1),(6,c2)]),aa.fo ag,aa.fo ad⟩
  refine W6 (col:=ab) [(0,0),(3,0),(4,0),(1,3),(2,3),(5,3),(6,2),(7,2),(8,1)] (by kernel_rfl) (by kernel_rfl)<|xv rfl rfl (fun _ hC=>Xj isAgg33 sizeOf33 (ai.gr (hC.bl ab))) ?_;refine xv rfl rfl (fun _ hC=>Xj isAgg33 sizeOf33 (ak.gr (hC.bl ab))) ?_;refine xv rfl rfl (fun _ hC=>Xj isAgg33 sizeOf33 (ah.gr (hC.bl ab))) ?_;refine xe rfl rfl ?_;intro da hC0;have hC:=hC0.bl ab;obtain ⟨db,ci,hm⟩:=bZ hm;refine Zi (Zn1 (col:=ab) 9 ci) ?_;rintro _ dc ⟨a6,dd,de,rfl,ax,bq⟩;refine ⟨_,rfl,?_⟩;refine Zm<|Yd a6 hC0 ax<|xe rfl rfl ?_;intro cj hC0;replace ag:=(ag.gr hC).gr ax;replace ad:=(ad.gr hC).gr ax;replace af:=(af.gr hC).gr ax;replace ac:=(ac.gr hC).gr ax;replace aa:=(aa.grow hC).grow ax;have hC:=hC0.bl a6;obtain ⟨df,ck,hm⟩:=bZ hm;replace ag:=ag.gr hC;replace bq:=bq.gr hC;refine Zi (Zrz 10 ck ((ag.toSlF (Zh.int .u32)).froz 9) ((bq.froz 5 (by decide)).toSlF (Zh.int .u32))) ?_;rintro _ dg ⟨cl,dh,di,rfl,an,aj⟩;refine ⟨_,rfl,?_⟩;replace aj:=aj.thaw (Z0 .u32) an (((Fz.refl (col:=a6)).froz 5).froz 9) (by decide);replace an:=an.thawR (col:=a6);generalize Xa cj.heap.size a6 cl=a7 at *;refine Zm<|Yd a7 hC0 an<|xe rfl rfl ?_;intro cn hC0;replace ad:=(ad.gr hC).gr an;replace af:=(af.gr hC).gr an;replace ac:=(ac.gr hC).gr an;replace aa:=(aa.grow hC).grow an;have hC:=hC0.bl a7;obtain ⟨dj,co,hm⟩:=bZ hm;replace ad:=ad.gr hC;replace aa:=aa.grow hC;refine Zi (Zn0 11 co (ad.toSlF (Zh.int .u32)) ((az.ks aa).froz 6)) ?_;rintro _ dl ⟨cp,dm,dn,rfl,ao,am⟩;refine ⟨_,rfl,?_⟩;replace am:=am.thaw (Z0 .u32) ao ((Fz.refl (col:=a7)).froz 6) (by decide);replace ao:=ao.thawR (col:=a7);generalize Xa cn.heap.size a7 cp=ay at *;refine Zm<|Yd ay hC0 ao<|xe rfl rfl ?_;intro dp hC0;replace aj:=(aj.gr hC).gr ao;replace af:=(af.gr hC).gr ao;replace ac:=(ac.gr hC).gr ao;have hC:=hC0.bl ay;replace af:=af.gr hC;refine Z2 af ?_;intro dq bd cq a8;refine Zm<|xk ay<|xe rfl rfl ?_;intro dr hC0;replace aa:=((aa.grow ao).grow hC).kp bd cq;replace aj:=(aj.gr hC).kp bd;replace am:=(am.gr hC).kp bd;replace ac:=(ac.gr hC).kp bd;have hC:=hC0.bl ay;replace ac:=ac.gr hC;refine Z2 ac ?_
  intro ds be cr br;refine Zm<|xk ay<|xu rfl rfl (fun _=>Zmo rfl) ?_;refine W3 ?_;replace aj:=(aj.gr hC).kp be;replace am:=(am.gr hC).kp be;replace a8:=(a8.gr hC).kp be;replace aa:=(aa.grow hC).kp be cr;intro dt hC;replace hC:=hC.bl ay;refine Vp ?_;cases hm;replace aj:=aj.gr hC;replace am:=am.gr hC;replace a8:=a8.gr hC;replace br:=br.gr hC;replace aa:=aa.grow hC;exact ⟨rfl,_,Zmx rfl rfl isAgg33 sizeOf33 rfl rfl a8.atN rfl isAgg33 sizeOf33 rfl rfl br.atN rfl rfl,_,_,_,_,_,rfl,aa.fin (cm [(10,c1),(11,c2)]),aa.fo aj,aa.fo am⟩
 refine Ur (col:=aq) (by kernel_rfl) (by kernel_rfl)<|go ?_;refine X1 hm (fun bs hm=>go ?_) fun bs hm=>go ?_
 ·refine qv (v:=(.bool true)) rfl (fun _ hC=>Xm (congrArg Value.bool bs) rfl) ?_;refine Vn ?_;intro du hC;replace hC:=hC.bl aq;replace ag:=ag.gr hC;replace ad:=ad.gr hC;replace ah:=ah.gr hC;replace af:=af.gr hC;replace ac:=ac.gr hC;replace ai:=ai.gr hC;replace ak:=ak.gr hC;replace aa:=aa.grow hC;exact ⟨rfl,_,_,hm,aa,ah,af,ac,ag,ai,ad,ak,rfl⟩
 refine qv rfl (fun _ hC=>Xj isAgg33 sizeOf33 (ak.gr (hC.bl aq))) ?_;refine go ?_;obtain ⟨b0,cs,hm⟩:=bZ hm;refine qc (v:=(.int .i64 b0)) rfl (fun _ hC=>⟨_,_,Zek call44 rfl,(Zc9 cs ((ad.gr (hC.bl aq)).toSlF (Zh.int .u32)):).mono fun _ _ h=>⟨h.1,hC.trans (.of_below h.2)⟩⟩) ?_;refine go ?_;refine qv rfl (fun _ hC=>Xj isAgg33 sizeOf33 (ah.gr (hC.bl aq))) ?_;refine go ?_;obtain ⟨b1,ct,hm⟩:=bZ hm;refine qc (v:=(.int .i64 b1)) rfl (fun _ hC=>⟨_,_,Zek call44 rfl,(Zc9 ct ((az.ks aa).gr (hC.bl aq)):).mono fun _ _ h=>⟨h.1,hC.trans (.of_below h.2)⟩⟩) ?_;refine go ?_;refine qv (v:=(.bool (decide (0≤(i64.wrap (b0 * b1)))))) rfl (fun _ hC=>Xd (congrArg Value.bool bs) rfl) ?_;refine Vn ?_;intro dv hC;replace hC:=hC.bl aq;replace ag:=ag.gr hC;replace ad:=ad.gr hC;replace ah:=ah.gr hC;replace af:=af.gr hC;replace ac:=ac.gr hC;replace ai:=ai.gr hC;replace ak:=ak.gr hC;replace aa:=aa.grow hC;exact ⟨rfl,_,_,hm,aa,ah,af,ac,ag,ai,ad,ak,rfl⟩
def Zh8 (N:Nat) (aa:R0):Option R3:=
  (Vy N ((aa.1.1,aa.1.2),aa.2)).bind fun ac=>(Zje N (aa.1.1,aa.1.2) (false,ac)).bind fun ab=>some (ab.1.1,ab.1.2)
theorem Zzj {N aw a5:Nat} {ax a6:Option Addr} {col:Ze} {w0:World} {ag:R0} {r:R3} (c1:Nat) (hm:Zh8 N ag=some r) (ay:Sl (Za.int .u32) col w0 ax aw ag.1.2) (a7:Sl (Za.int .u32) col w0 a6 a5 ag.2):
    Calls Tryz.prog 40 #[(.agg #[.bool ag.1.1,.slice ax ag.1.2.length aw,.slice a6 ag.2.length a5])] w0 (fun e w'=>∃ (col':Ze) (ra1:Option Addr) (rc2:Nat),e= .returned ((.agg #[.bool r.1,.slice ra1 r.2.length rc2]))∧Zg col w0 col' w'∧Zc (Za.int .u32) 77 c1 col' w' ra1 rc2 r.2):=by
 refine Yu (m:=17) func40 rfl rfl rfl ?_;rw [Zh8.eq_1] at hm;have ad:=St.start col w0;refine go ?_;refine Xy (col:=(Zk col)) 1 rfl ?_;intro bm b4 bn bo az;refine Xl (col:=bn) #[.bool false,.slice none (([]:List Int).length) 0] 2 zeroValue33 ?_;intro b5 a0 ao bd ah;refine go ?_;have a8:=Zz.clip (fun _=>false) ao a0;refine Zeq (col:=ao) [(0,1),(1,0),(2,0),(3,3),(4,1),(5,3),(6,1),(7,1),(8,1),(9,1),(10,4),(11,4),(12,2),(13,2),(14,1)] (by kernel_rfl) (by kernel_rfl) ⟨fun h=>absurd h (by decide),fun h=>absurd h (by decide),fun h=>absurd h (by decide),fun h=>absurd h (by decide),fun h=>absurd h (by decide),fun h=>absurd h (by decide),fun h=>absurd h (by decide),fun h=>absurd h (by decide),fun h=>absurd h (by decide),fun h=>absurd h (by decide),fun _=>⟨_,_,_,rfl,Uu zeroValue33⟩,fun _=>⟨_,_,_,rfl,Uu zeroValue33⟩,fun h=>absurd h (by decide),fun h=>absurd h (by decide),fun h=>absurd h (by decide),trivial⟩<|X9 (v:=(.pointer ((some (⟨bm,0,none⟩:Addr)).map (·.add 0)))) rfl rfl (fun _=>Sj (sz:=2) (off:=0) underlying35 rfl sizeOf33 (by decide) rfl rfl ⟨_,_,rfl⟩) ?_;replace az:=(az.gr bd).kpp a8;refine Wn (v:=(.agg #[.bool ag.1.1,.slice ax ag.1.2.length aw])) rfl rfl (fun _ hC=>Xt isAgg33 sizeOf33 rfl rfl (((az.atN).part 0 2 _ rfl).gr (hC.bl (Zf a0 ao)))) ?_;refine Wn (v:=(.agg #[.bool ag.1.1,.slice ax ag.1.2.length aw,.slice a6 ag.2.length a5])) rfl rfl (fun _ hC=>Xt isAgg35 sizeOf35 rfl rfl (az.atN.gr (hC.bl (Zf a0 ao)))) ?_;refine Ww rfl rfl ?_;intro b6 hC0;have hC:=hC0.bl (Zf a0 ao);obtain ⟨bp,bq,hm⟩:=bZ hm;replace ay:=ay.keep (Zl.start col w0);replace a7:=a7.keep (Zl.start col w0);replace ad:=(((ad.grow bo).grow bd).kpp a8).grow hC;refine Zi (U7 3 bq (ay.ks ad) (a7.ks ad)) ?_;rintro _ aj ⟨al,br,bs,rfl,ap,a9⟩;refine ⟨_,rfl,?_⟩;refine Zm ?_;refine ⟨fun w'=>Zg (Zf aj al) aj (Zf aj al) w',fun g=>(Zf aj al) g=497,Zg.refl _ _,Wk,fun _=>⟨fun _ h=>Vw hC0 ap h,fun b hb=>ap.below.block b hb,fun g x1 x2=>V3 ap g x1 (by first | exact x2 | (simp only [Xr,x2];rfl) | (simp only [Xr,Xf,x2];rfl))⟩,?_⟩;have ba:=Zz.clip (fun _=>false) al aj;refine X9 (v:=(.agg #[.bool false,.slice br bp.length bs])) rfl rfl (fun _=>Yk (l:=[_,_]) (qs:=[(0,1),(1,1)]) underlying33 zeroValue33 ⟨rfl,sizeOf4,rfl,sizeOf31,trivial⟩ rfl) ?_;refine Ww rfl rfl ?_;intro bt hC0
 replace ah:=(((ah.kpp a8).gr hC).gr ap).kpp ba;have hC:=hC0.bl (Zf aj al);obtain ⟨ai,bu,hm⟩:=bZ hm;replace ad:=((ad.grow ap).kpp ba).grow hC;replace a9:=(a9.kpp ba).gr hC;refine Zi (Z0l 4 5 bu ((ay.ks ad).froz 3) (a9.toSlF (Zh.int .u32))) ?_;rintro _ aa ⟨bv,be,bf,bg,bh,rfl,am,ak,b7⟩;refine ⟨_,rfl,?_⟩;replace ak:=ak.thaw (Z0 .u32) am ((Fz.refl (col:=(Zf aj al))).froz 3) (by decide);replace am:=am.thawR (col:=(Zf aj al));generalize Xa bt.heap.size (Zf aj al) bv=ab at *;refine Zm ?_;refine ⟨fun w'=>Zg (Zf aa ab) aa (Zf aa ab) w',fun g=>(Zf aa ab) g=497,Zg.refl _ _,Wk,fun _=>⟨fun _ h=>Vw hC0 am h,fun b hb=>am.below.block b hb,fun g x1 x2=>V3 am g x1 (by first | exact x2 | (simp only [Xr,x2];rfl) | (simp only [Xr,Xf,x2];rfl))⟩,?_⟩;have bb:=Zz.clip (fun _=>false) ab aa;refine X9 (v:=(.tuple #[(.agg #[.bool ai.1.1,.slice be ai.1.2.length bf]),(.agg #[.bool ai.2.1.1,.slice bg ai.2.1.2.length bh]),.int .i64 ai.2.2])) rfl rfl (fun _=>Wm rfl) ?_;refine X9 (v:=(.agg #[.bool ai.1.1,.slice be ai.1.2.length bf])) rfl rfl (fun _=>Xh rfl rfl) ?_;refine X9 (v:=(.agg #[.bool ai.2.1.1,.slice bg ai.2.1.2.length bh])) rfl rfl (fun _=>Xh rfl rfl) ?_;refine X9 (v:=(.int .i64 ai.2.2)) rfl rfl (fun _=>Xh rfl rfl) ?_;refine Zc6 rfl rfl (Uu zeroValue33) ?_;intro ac bw;refine Zc6 rfl rfl (Uu zeroValue33) ?_;intro ae bi;refine Ww rfl rfl ?_;intro bj ⟨⟨hC0,hZ0⟩,hZ1⟩;replace ah:=((ah.gr hC).gr am).kpp bb;have hC:=hC0.bl (Zf aa ab);obtain ⟨bc,aq⟩:=Zbu (col:=(Zf aa ab)) 6 hZ0 bw;replace aq:Zo 33 6 (Z3 ac 6 (Zf aa ab)) bj ac #[.bool false,.slice none (([]:List Int).length) 0]:=aq;obtain ⟨a1,ar⟩:=Zbu (col:=(Z3 ac 6 (Zf aa ab))) 7 hZ1 ((if_neg bi.2:Z3 ac 6 _ ae=_).trans bi.1);replace ar:Zo 33 7 (Z3 ae 7 (Z3 ac 6 (Zf aa ab))) bj ae #[.bool false,.slice none (([]:List Int).length) 0]:=ar;replace aq:=aq.kpp a1;refine Z2 aq ?_;intro af a2 bx au;refine Zm ?_;refine ⟨fun w'=>Zg (Zf af (Z3 ae 7 (Z3 ac 6 (Zf aa ab)))) af (Zf af (Z3 ae 7 (Z3 ac 6 (Zf aa ab)))) w',fun g=>(Zf af (Z3 ae 7 (Z3 ac 6 (Zf aa ab)))) g=497,Zg.refl _ _,Wk,fun h=>absurd h (by decide),?_⟩;have av:=Zz.clip (fun _=>false) (Z3 ae 7 (Z3 ac 6 (Zf aa ab))) af
 refine Ww rfl rfl ?_;intro bz hC0;replace ad:=((((((ad.grow am).kpp bb).grow hC).kpp bc).kpp a1).kp a2 bx).kpp av;replace ak:=(((((ak.kpp bb).gr hC).kpp bc).kpp a1).kp a2).kpp av;replace ah:=((((ah.gr hC).kpp bc).kpp a1).kp a2).kpp av;have hC:Zg (Zf af (Z3 ae 7 (Z3 ac 6 (Zf aa ab)))) af (Zf af (Z3 ae 7 (Z3 ac 6 (Zf aa ab)))) bz:=.of_below hC0.below;replace ar:=((ar.kp a2).kpp av).gr hC;refine Z2 ar ?_;intro an a3 b0 b8;refine Zm ?_;refine ⟨fun w'=>Zg (Zf an (Zf af (Z3 ae 7 (Z3 ac 6 (Zf aa ab))))) an (Zf an (Zf af (Z3 ae 7 (Z3 ac 6 (Zf aa ab))))) w',fun g=>(Zf an (Zf af (Z3 ae 7 (Z3 ac 6 (Zf aa ab))))) g=497,Zg.refl _ _,Wk,fun h=>absurd h (by decide),?_⟩;have a4:=Zz.clip (fun _=>false) (Zf af (Z3 ae 7 (Z3 ac 6 (Zf aa ab)))) an;refine X9 (v:=(.int .i64 ai.2.2)) rfl rfl (fun _=>Uq rfl) ?_;refine Zer ?_;replace au:=(((au.kpp av).gr hC).kp a3).kpp a4;replace ak:=((ak.gr hC).kp a3).kpp a4;replace ah:=((ah.gr hC).kp a3).kpp a4;replace ad:=((ad.grow hC).kp a3 b0).kpp a4;intro b1 hC;replace hC:Zg (Zf an (Zf af (Z3 ae 7 (Z3 ac 6 (Zf aa ab))))) an (Zf an (Zf af (Z3 ae 7 (Z3 ac 6 (Zf aa ab))))) b1:=.of_below hC.below;refine go ?_;replace au:=au.gr hC;refine lV _ (Xj isAgg33 sizeOf33 au) ?_;replace ah:=ah.gr hC;refine Z2 ah ?_;intro b9 bk b2 b3;refine go ?_;cases hm;replace ak:=(ak.gr hC).kp bk;replace ad:=(ad.grow hC).kp bk b2;exact ⟨rfl,_,ra b3.atN,_,_,_,rfl,ad.fin (cm [(4,c1)]),ad.fo ak⟩
def Zlc (N:Nat) (aa:R3) (ac:R3):Option Rd:=
  (Zd2 N aa.2 ac.2).bind fun ab=>if (!decide (ab.2.2=0))=true then (some ((false,([]:List Int)),(false,([]:List Int)),11)) else ((Tp N (!decide (aa.1=ac.1)) ab.1).bind fun ad=>(Tp N aa.1 ab.2.1).bind fun ae=>some ((ad.1,ad.2),(ae.1,ae.2),0))
def Ziy (aa:Bool) (ab:List Int) (ac:Bool) (ad:List Int):Option Rd:=
  some ((aa,ab),(ac,ad),0)
def Ziz (N:Nat) (ab:R3) (aa:Rd) (af:Bool):Option Rd:=
  if af=true then ((S5 N 1).bind fun ac=>(Zi0 N (aa.1.1,aa.1.2) (ac.1,ac.2)).bind fun ad=>(Zcr N (aa.2.1.1,aa.2.1.2) (ab.1,ab.2)).bind fun ae=>Ziy ad.1 ad.2 ae.1 ae.2) else (Ziy aa.1.1 aa.1.2 aa.2.1.1 aa.2.1.2)
def Zo3 (N:Nat) (ac:R3) (ab:R3):Option Rd:=
  (Zlc N (ac.1,ac.2) (ab.1,ab.2)).bind fun aa=>if (!decide (aa.2.2=0))=true then (some ((aa.1.1,aa.1.2),(aa.2.1.1,aa.2.1.2),aa.2.2)) else ((Sc N (aa.2.1.1,aa.2.1.2)).bind fun ad=>if (!decide (ad=0))=true then ((Sc N (aa.2.1.1,aa.2.1.2)).bind fun ae=>(Sc N (ab.1,ab.2)).bind fun af=>Ziz N ab aa (!decide (ae=af))) else (Ziz N ab aa false))
def Zo5 (N:Nat) (aa:R0):Option R3:=
  (Sd N ((aa.1.1,aa.1.2),aa.2)).bind fun ad=>(Zan ad).bind fun ab=>(Zo3 N (aa.1.1,aa.1.2) (ab.1,ab.2)).bind fun ac=>some (ac.1.1,ac.1.2)
theorem Zsx (s:Bool) (n d:Nat) (hd:d≠0):(if Zq (s,Zd (n % d))<0 then Zq (s,Zd (n / d)) - 1 else Zq (s,Zd (n / d)))=Zq (s,Zd n) / (d:Int):=by
 have h1:=Nat.div_add_mod n d
 have h2:=Nat.mod_lt n (Nat.pos_of_ne_zero hd)
 generalize hq:n / d=q at *
 generalize hr:n % d=r at *
 have e:(n:Int)=(d:Int) * (q:Int)+(r:Int):=by rw [← h1];simp
 simp only [Zq,Zx]
 cases s with
 | false=>
  simp only [Bool.false_eq_true,↓reduceIte]
  rw [if_neg (by omega)]
  refine ((Int.ediv_emod_unique (a:=(n:Int)) (r:=(r:Int)) (q:=(q:Int)) (show (0:Int)<d by omega)).2 ⟨?_,by omega,by omega⟩).1.symm
  rw [e,Int.add_comm]
 | true=>
  rw [if_pos rfl,if_pos rfl,if_pos rfl]
  by_cases h0:r=0
  ·subst h0
   rw [if_neg (by omega)]
   refine ((Int.ediv_emod_unique (a:= -(n:Int)) (r:=0) (q:= -(q:Int)) (show (0:Int)<d by omega)).2 ⟨?_,by omega,by omega⟩).1.symm
   rw [e,Int.mul_neg];omega
  ·rw [if_pos (by omega)]
   refine ((Int.ediv_emod_unique (a:= -(n:Int)) (r:=(d:Int) - r) (q:= -(q:Int) - 1) (show (0:Int)<d by omega)).2 ⟨?_,by omega,by omega⟩).1.symm
   rw [e,Int.mul_sub,Int.mul_neg,Int.mul_one];omega
theorem Zyo (a:ZV):Zq (a.1,Zd (Zb a.2))=Zq a:=by
 simp only [Zq,Zx]
theorem Zkw (s:Bool) (n:Nat):(Zr (Zq (s,Zd n))).2.length≤(Zd n).length:=Zow (a:=(s,Zd n)) (Zy _)
section
variable {N k l:Nat} {a:ZV} {d:Nat} (hm:Zn a.2) (hk:a.2.length≤k) (hd:d≠0) (hl:(Zd d).length≤l) (hr:Z4 N (k+l+8))
include hm hk hd hl hr
theorem Z5q:Zg7 N a (false,Zd d)=some (Zr (Zq (a.1,Zd (Zb a.2 / d))),Zr (Zq (a.1,Zd (Zb a.2 % d))),0):=by
 have h1:(Zd (Zb a.2 / d)).length≤k:=Nat.le_trans (Y2 (Nat.div_le_self _ _)) (Nat.le_trans (Xz hm) hk)
 have h2:(Zd (Zb a.2 % d)).length≤k:=Nat.le_trans (Y2 (Nat.mod_le _ _)) (Nat.le_trans (Xz hm) hk)
 have e:=Zhx (N:=N) hm (Zy d) (by have:=hr.1;omega) (by have:=hr.2;omega)
 have f:(!decide (a.1=false))=a.1:=by cases a.1 <;> rfl
 rw [Zx,if_neg hd] at e
 rw [Zg7,e,Option.bind_some,if_neg (show ¬ (!decide ((0:Int)=0))=true by decide),f,Zas (Zy _) h1 (hr.mono (by omega)),Option.bind_some,Zas (Zy _) h2 (hr.mono (by omega)),Option.bind_some]
theorem Z4z:Zlc N a (false,Zd d)=some (Zr (Zq (a.1,Zd (Zb a.2 / d))),Zr (Zq (a.1,Zd (Zb a.2 % d))),0):=by
 have h1:(Zd (Zb a.2 / d)).length≤k:=Nat.le_trans (Y2 (Nat.div_le_self _ _)) (Nat.le_trans (Xz hm) hk)
 have h2:(Zd (Zb a.2 % d)).length≤k:=Nat.le_trans (Y2 (Nat.mod_le _ _)) (Nat.le_trans (Xz hm) hk)
 have e:=Zqd (N:=N) hm (Zy d) (by rw [Zx];have:=hr.1;omega) (by have:=hr.1;omega) (by rw [Zx];have:=hr.2;omega) (by have:=hr.2;omega)
 have f:(!decide (a.1=false))=a.1:=by cases a.1 <;> rfl
 rw [Zx,if_neg hd] at e
 rw [Zlc,e,Option.bind_some,if_neg (show ¬ (!decide ((0:Int)=0))=true by decide),f,Zaq (Zy _) h1 (hr.mono (by omega)),Option.bind_some,Zaq (Zy _) h2 (hr.mono (by omega)),Option.bind_some]
theorem Z5j:∃ t,Zje N a (false,Zd d)=some (Zr (Zq a / (d:Int)),t):=by
 have h1:(Zd (Zb a.2 / d)).length≤k:=Nat.le_trans (Y2 (Nat.div_le_self _ _)) (Nat.le_trans (Xz hm) hk)
 have h2:(Zd (Zb a.2 % d)).length≤k:=Nat.le_trans (Y2 (Nat.mod_le _ _)) (Nat.le_trans (Xz hm) hk)
 have l1:=Nat.le_trans (Zkw a.1 (Zb a.2 / d)) h1
 have l2:=Nat.le_trans (Zkw a.1 (Zb a.2 % d)) h2
 have h:=Zsx a.1 (Zb a.2) d hd
 rw [Zyo] at h
 have hq:Zg7 N (a.1,a.2) ((false,Zd d).1,(false,Zd d).2)=_:=Z5q hm hk hd hl hr
 have s1:Se N (((Zr (Zq (a.1,Zd (Zb a.2 % d)))).1,(Zr (Zq (a.1,Zd (Zb a.2 % d)))).2))=some (Zq (a.1,Zd (Zb a.2 % d))).sign:=by
  have:=Zhh (N:=N) (a:=Zr (Zq (a.1,Zd (Zb a.2 % d)))) (Yq _) l2 (hr.mono (by omega))
  rwa [Yx] at this
 have s2:Se N (((false,Zd d):ZV).1,((false,Zd d):ZV).2)=some 1:=by
  have:=Zhh (N:=N) (a:=(false,Zd d)) (Zy _) hl (hr.mono (by omega))
  rw [Zhj,Int.sign_eq_one_of_pos (by omega)] at this
  exact this
 have hz:-1≤(Zq (a.1,Zd (Zb a.2 % d))).sign∧(Zq (a.1,Zd (Zb a.2 % d))).sign≤1:=by
  rcases Int.lt_trichotomy (Zq (a.1,Zd (Zb a.2 % d))) 0 with g | g | g
  ·rw [Int.sign_eq_neg_one_of_neg g];decide
  ·rw [g];decide
  ·rw [Int.sign_eq_one_of_pos g];decide
 rw [Zje,hq,Option.bind_some,if_neg (show ¬ (!decide ((0:Int)=0))=true by decide),s1,Option.bind_some,s2,Option.bind_some,Int.mul_one,Zv (by omega)]
 by_cases hn:Zq (a.1,Zd (Zb a.2 % d))<0
 ·rw [if_pos hn] at h
  have o1:Zcv N 1=some (Zr 1):=Zqy (by omega) (hr.mono (by omega))
  have lo:(Zr 1).2.length≤1:=by rw [Vt];simp [W5]
  have su:=Zyn (N:=N) (a:=Zr (Zq (a.1,Zd (Zb a.2 / d)))) (b:=Zr 1) (Yq _) (Yq _) l1 lo (hr.mono (by omega))
  have ad:=Zqv (N:=N) (a:=Zr (Zq (a.1,Zd (Zb a.2 % d)))) (b:=(false,Zd d)) (Yq _) (Zy _) l2 hl (hr.mono (by omega))
  rw [Yx,Yx,h] at su
  have su':Zee N ((Zr (Zq (a.1,Zd (Zb a.2 / d)))).1,(Zr (Zq (a.1,Zd (Zb a.2 / d)))).2) ((Zr 1).1,(Zr 1).2)=_:=su
  have ad':Zcu N ((Zr (Zq (a.1,Zd (Zb a.2 % d)))).1,(Zr (Zq (a.1,Zd (Zb a.2 % d)))).2) (((false,Zd d):ZV).1,((false,Zd d):ZV).2)=_:=ad
  rw [Int.sign_eq_neg_one_of_neg hn,Zg5,if_neg (by decide),o1,Option.bind_some,su',Option.bind_some,ad',Option.bind_some]
  exact ⟨_,rfl⟩
 ·rw [if_neg hn] at h
  rw [decide_eq_true (Int.sign_nonneg_iff.2 (by omega)),Zg5,if_pos rfl,h]
  exact ⟨_,rfl⟩
theorem Z4p:∃ t,Zo3 N a (false,Zd d)=some (Zr (Zq a / (d:Int)),t):=by
 have h1:(Zd (Zb a.2 / d)).length≤k:=Nat.le_trans (Y2 (Nat.div_le_self _ _)) (Nat.le_trans (Xz hm) hk)
 have h2:(Zd (Zb a.2 % d)).length≤k:=Nat.le_trans (Y2 (Nat.mod_le _ _)) (Nat.le_trans (Xz hm) hk)
 have l1:=Nat.le_trans (Zkw a.1 (Zb a.2 / d)) h1
 have l2:=Nat.le_trans (Zkw a.1 (Zb a.2 % d)) h2
 have h:=Zsx a.1 (Zb a.2) d hd
 rw [Zyo] at h
 have hq:Zlc N (a.1,a.2) ((false,Zd d).1,(false,Zd d).2)=_:=Z4z hm hk hd hl hr
 have s1:Sc N (((Zr (Zq (a.1,Zd (Zb a.2 % d)))).1,(Zr (Zq (a.1,Zd (Zb a.2 % d)))).2))=some (Zq (a.1,Zd (Zb a.2 % d))).sign:=by
  have:=Zen (N:=N) (a:=Zr (Zq (a.1,Zd (Zb a.2 % d)))) (Yq _) l2 (hr.mono (by omega))
  rwa [Yx] at this
 have s2:Sc N (((false,Zd d):ZV).1,((false,Zd d):ZV).2)=some 1:=by
  have:=Zen (N:=N) (a:=(false,Zd d)) (Zy _) hl (hr.mono (by omega))
  rw [Zhj,Int.sign_eq_one_of_pos (by omega)] at this
  exact this
 rw [Zo3,hq,Option.bind_some,if_neg (show ¬ (!decide ((0:Int)=0))=true by decide),s1,Option.bind_some]
 by_cases hn:Zq (a.1,Zd (Zb a.2 % d))<0
 ·rw [if_pos hn] at h
  have o1:S5 N 1=some (Zr 1):=Zju (by omega) (hr.mono (by omega))
  have lo:(Zr 1).2.length≤1:=by rw [Vt];simp [W5]
  have su:=Zxr (N:=N) (a:=Zr (Zq (a.1,Zd (Zb a.2 / d)))) (b:=Zr 1) (Yq _) (Yq _) l1 lo (hr.mono (by omega))
  have ad:=Zmv (N:=N) (a:=Zr (Zq (a.1,Zd (Zb a.2 % d)))) (b:=(false,Zd d)) (Yq _) (Zy _) l2 hl (hr.mono (by omega))
  rw [Yx,Yx,h] at su
  have su':Zi0 N ((Zr (Zq (a.1,Zd (Zb a.2 / d)))).1,(Zr (Zq (a.1,Zd (Zb a.2 / d)))).2) ((Zr 1).1,(Zr 1).2)=_:=su
  have ad':Zcr N ((Zr (Zq (a.1,Zd (Zb a.2 % d)))).1,(Zr (Zq (a.1,Zd (Zb a.2 % d)))).2) (((false,Zd d):ZV).1,((false,Zd d):ZV).2)=_:=ad
  rw [Int.sign_eq_neg_one_of_neg hn,if_pos (by decide),Option.bind_some,s2,Option.bind_some,Ziz,if_pos (by decide),o1,Option.bind_some,su',Option.bind_some,ad',Option.bind_some,Ziy]
  exact ⟨_,rfl⟩
 ·rw [if_neg hn] at h
  by_cases hz:Zq (a.1,Zd (Zb a.2 % d))=0
  ·rw [hz,if_neg (by decide),Ziz,if_neg (by decide),Ziy,h]
   exact ⟨_,rfl⟩
  ·rw [Int.sign_eq_one_of_pos (by omega),if_pos (by decide),Option.bind_some,s2,Option.bind_some,Ziz,if_neg (by decide),Ziy,h]
   exact ⟨_,rfl⟩
end
def W1 (q:Rat):Int:=q.num / (q.den:Int)
theorem Zvg (q:Rat):Zq (Zj q).1=q.num:=by
 rw [Zj];exact Yx _
theorem Zve (q:Rat):Xw (Zj q).2=q.den:=by
 rw [Zj];exact Zs0 q.den_nz
theorem Z1j {N k:Nat} {q:Rat} (hq:qs q≤k) (hr:Z4 N (2 * k+16)):Zh8 N (((Zj q).1.1,(Zj q).1.2),(Zj q).2)=some (Zr (W1 q)):=by
 have hv:=Yr hq
 have u:Vy N (((Zj q).1.1,(Zj q).1.2),(Zj q).2)=some (Zd q.den):=by
  have:=Zar hv (N:=N) (hr.mono (by omega))
  rwa [Zve] at this
 have hl:(Zd q.den).length≤k:=Nat.le_trans (Nat.le_max_right _ _) hq
 obtain ⟨t,ht⟩:=Z5j (N:=N) (a:=((Zj q).1.1,(Zj q).1.2)) hv.m hv.lm q.den_nz hl (hr.mono (by omega))
 rw [Zh8,u,Option.bind_some,ht,Option.bind_some]
 have:Zq ((Zj q).1.1,(Zj q).1.2)=q.num:=Zvg q
 rw [this];rfl
theorem Z4o {N k:Nat} {q:Rat} (hq:qs q≤k) (hr:Z4 N (2 * k+16)):Zo5 N (((Zj q).1.1,(Zj q).1.2),(Zj q).2)=some (Zr (W1 q)):=by
 have hv:=Yr hq
 have u:Sd N (((Zj q).1.1,(Zj q).1.2),(Zj q).2)=some (Zd q.den):=by
  have:=Zc2 hv (N:=N) (hr.mono (by omega))
  rwa [Zve] at this
 have hl:(Zd q.den).length≤k:=Nat.le_trans (Nat.le_max_right _ _) hq
 obtain ⟨t,ht⟩:=Z4p (N:=N) (a:=((Zj q).1.1,(Zj q).1.2)) hv.m hv.lm q.den_nz hl (hr.mono (by omega))
 rw [Zo5,u,Option.bind_some,Zan,Option.bind_some,ht,Option.bind_some]
 have:Zq ((Zj q).1.1,(Zj q).1.2)=q.num:=Zvg q
 rw [this];rfl
theorem Z1s (q:Rat):q<(W1 q:Rat)+1:=by
 have hd:(0:Int)<q.den:=by have:=q.den_nz;omega
 have h:q.num<(W1 q+1) * (q.den:Int):=by
  have h1:=Int.emod_lt_of_pos q.num hd
  have h2:=Int.mul_ediv_add_emod q.num q.den
  rw [W1,Int.add_mul,Int.one_mul,Int.mul_comm];omega
 have e:(W1 q:Rat)+1=mkRat (W1 q+1) 1:=by
  rw [Rat.mkRat_one];simp
 rw [e]
 conv=>lhs;rw [← Rat.mkRat_self q]
 rw [Vm q.den_nz (by decide)]
 simpa using h
theorem Zog (q:Rat):(Zr (W1 q)).2.length≤qs q+1:=by
 rw [Vt]
 have hd:(0:Int)<q.den:=by have:=q.den_nz;omega
 have h:(W1 q).natAbs≤q.num.natAbs+1:=by
  have h1:=Int.natAbs_ediv_le_natAbs q.num q.den
  rw [W1];omega
 refine Nat.le_trans (Y2 h) (Zfb (Nat.le_max_left _ _) ?_)
 rw [W5]
 exact Zwc q
def Zo0 (aa:Int) (kk_L1:(Int→R2→Option Rb)) (ab:List Int):Option Rb:=
  kk_L1 (i64.wrap (aa+1)) ab
def Zk6 (ab:Int) (aa:Int) (ac:List Int) (kk_L1:(Int→R2→Option Rb)) (ad:Int):Option Rb:=
  (Zp ac aa).bind fun ae=>Z7 (0≤(Int.tmod (i64.wrap (-ab)) 32)) ((some (ac.set (Int.toNat aa) (u32.wrap (X7 .u64 (Yp .u64 (Xp .u64 ad 32) (u64.wrap ae)) (Int.tmod (i64.wrap (-ab)) 32))))).bind fun af=>Zo0 aa kk_L1 af)
def Zcj (N:Nat) (ac:Int) (ad:List Int):Nat→Int→R2→Option Rb
  | 0,_,_=>none
  | ae+1,aa,ab=>if (decide (aa<(ad.length:Int)))=true then (if (decide ((i64.wrap (aa+1))<(ab.length:Int)))=true then ((Zp ab (i64.wrap (aa+1))).bind fun af=>Zk6 ac aa ab (Zcj N ac ad ae) (u64.wrap af)) else (Zk6 ac aa ab (Zcj N ac ad ae) 0)) else ((V4 N ab).bind fun ag=>some (ag,0))
termination_by structural x=>x
def Zik (N:Nat) (ae:List Int) (aa:Int) (af:Bool):Option Rb:=
  if af=true then (some (([]:List Int),3)) else ((Un N ae).bind fun ab=>if (decide (0≤aa))=true then (Z7 (((Int.toNat (i64.wrap ((i64.wrap ((i64.wrap (Int.tdiv aa 32))+(ab.length:Int)))+1))) * 4≤281474976710656∧(Int.toNat (i64.wrap ((i64.wrap ((i64.wrap (Int.tdiv aa 32))+(ab.length:Int)))+1)))≤maxLen∧0≤(i64.wrap ((i64.wrap ((i64.wrap (Int.tdiv aa 32))+(ab.length:Int)))+1)))∧0≤(i64.wrap (Int.tdiv aa 32))∧(Int.toNat (i64.wrap (Int.tdiv aa 32)))≤(Int.toNat (i64.wrap ((i64.wrap ((i64.wrap (Int.tdiv aa 32))+(ab.length:Int)))+1)))) ((Zdx ab (Int.tmod aa 32)).bind fun ac=>Z7 (((List.replicate (Int.toNat (i64.wrap (Int.tdiv aa 32))) (0:Int)).length+ac.length) * 4≤140737488355328∧(List.replicate (Int.toNat (i64.wrap (Int.tdiv aa 32))) (0:Int)).length+ac.length≤maxLen) ((V4 N ((List.replicate (Int.toNat (i64.wrap (Int.tdiv aa 32))) (0:Int))++ac)).bind fun ag=>some (ag,0)))) else (if (decide ((ab.length:Int)≤(i64.wrap (Int.tdiv (i64.wrap (-aa)) 32))))=true then (some (([]:List Int),0)) else (Z7 ((0:Int)≤(i64.wrap (Int.tdiv (i64.wrap (-aa)) 32))∧(i64.wrap (Int.tdiv (i64.wrap (-aa)) 32))≤(ab.length:Int)) ((Zct (ab.drop (Int.toNat (i64.wrap (Int.tdiv (i64.wrap (-aa)) 32))))).bind fun ad=>Zcj N aa ad N 0 ad))))
def Zij (N:Nat) (ab:List Int) (aa:Int):Option Rb:=
  if (decide (aa<(-262144)))=true then (Zik N ab aa true) else (Zik N ab aa (decide (262144<aa)))
theorem Zz0 {N az:Nat} {a0:Option Addr} {col:Ze} {w0:World} {al:R2} {aa:Int} {r:Rb} (c1:Nat) (hm:Zij N al aa=some r) (h0:Sl (Za.int .u32) col w0 a0 az al):
    Calls Tryz.prog 98 #[.slice a0 al.length az,.int .i64 aa] w0 (fun e w'=>∃ (col':Ze) (ra1:Option Addr) (rc2:Nat),e= .returned (.tuple #[.slice ra1 r.1.length rc2,.int .i64 r.2])∧Zg col w0 col' w'∧Zc (Za.int .u32) 77 c1 col' w' ra1 rc2 r.1):=by
 refine Zhs 4 5 (m:=82) (args:=[.slice a0 al.length az,.int .i64 aa]) func98 rfl rfl rfl rfl rfl ?_;rw [Zij.eq_1] at hm;have ab:=St.start col w0;refine Zw<|Wv<|Sv rfl<|Ym rfl<|Zm<|Zw<|Zw ?_;replace h0:=h0.keep (Zl.start col w0);refine Wp.cutK [0,1,1000000] (fun f bg=>∃ bh a1,Zik N al aa a1=some r∧St w0 (Zk col) bh bg∧[15].map f=[.bool a1]) ?_ ?_
 ·intro f bg hJ;obtain ⟨bh,a1,hm,ab,hs⟩:=hJ;rw [Zik.eq_1] at hm;refine .lL [15] hs ?_;refine Zs hm (fun hb hm=>go ?_) fun hb hm=>go ?_
  ·cases hm;exact ⟨rfl,_,none,0,rfl,ab.fin (cm []),Zc.nil⟩
  obtain ⟨ao,bo,hm⟩:=bZ hm;refine Zi (T4 bo (h0.ks ab)) ?_;rintro _ bp ⟨bq,ap,am,rfl,br,aq⟩;refine ⟨_,rfl,go ?_⟩;replace ab:=ab.grow br;refine Zs hm (fun hb hm=>go ?_) fun hb hm=>go ?_
  ·refine lV (.int .i64 (i64.wrap (Int.tdiv aa 32))) (Vo aa 32 rfl rfl (by decide))<|Yn rfl<|lV (.int .i64 (i64.wrap (Int.tdiv aa 32))) (Vo aa 32 rfl rfl (by decide))<|go ?_;obtain ⟨an,hm⟩:=Xc hm;refine Z2g (col:=bq) (w:=bp) (r:=(Za.int .u32)) (l:=(Int.toNat (i64.wrap (Int.tdiv aa 32)))) (n:=(Int.toNat (i64.wrap ((i64.wrap ((i64.wrap (Int.tdiv aa 32))+(ao.length:Int)))+1)))) (x0:=0) 1 rfl underlying31 Tryz.t77 rfl rfl rfl rfl rfl (congrArg (Value.int _) (Int.toNat_of_nonneg an.2.1).symm) (congrArg (Value.int _) (Int.toNat_of_nonneg an.1.2.2).symm) an.1.1 an.1.2.1 an.2.2 (Qu .u32 0) ?_;intro cb cc cd bi a2;refine go ?_;refine lV (.int .i64 (Int.tmod aa 32)) (Tu aa 32 rfl rfl (by decide)) ?_;obtain ⟨ce,bs,hm⟩:=bZ hm;replace aq:=aq.gr bi;refine Zi (Znv 2 bs aq) ?_;rintro _ cf ⟨cg,ch,ci,rfl,bj,bt⟩;refine ⟨_,rfl,?_⟩;obtain ⟨bu,hm⟩:=Xc hm;replace a2:=a2.gr bj;refine T7 a2 (bt.srcN (NB.int (k:=.u32))) bu ?_;intro cj ck bv a3 bw bx;obtain ⟨cl,bz,hm⟩:=bZ hm;refine Zi (U8 3 bz (bx.toSlF (Zh.int .u32))) ?_;rintro _ cn ⟨b0,co,cp,rfl,ar,a4⟩;refine ⟨_,rfl,?_⟩;replace a4:=a4.thaw (Z0 .u32) ar ((Fz.refl (col:=a3)).froz 1) (by decide);replace ar:=ar.thawR (col:=a3);generalize Xa bv.heap.size a3 b0=cq at *;refine go ?_;cases hm;replace ab:=(((ab.grow bi).grow bj).kpp bw).grow ar;exact ⟨rfl,_,_,_,rfl,ab.fin (cm [(3,c1)]),ab.fo a4⟩
  refine lV (.int .i64 (i64.wrap (Int.tdiv (i64.wrap (-aa)) 32))) (Vo (i64.wrap (-aa)) 32 rfl rfl (by decide))<|go ?_;refine Zs hm (fun hb hm=>go ?_) fun hb hm=>go ?_
  ·cases hm;exact ⟨rfl,_,none,0,rfl,ab.fin (cm []),Zc.nil⟩
  refine lV (.int .i64 (i64.wrap (Int.tdiv (i64.wrap (-aa)) 32))) (Vo (i64.wrap (-aa)) 32 rfl rfl (by decide)) ?_;obtain ⟨bk,hm⟩:=Xc hm;have b1:=aq.drop (sz:=1) rfl (Int.toNat (i64.wrap (Int.tdiv (i64.wrap (-aa)) 32)));refine lv (v:=.slice (if am=(Int.toNat (i64.wrap (Int.tdiv (i64.wrap (-aa)) 32))) then ap else ap.map (·.add ((Int.toNat (i64.wrap (Int.tdiv (i64.wrap (-aa)) 32))) * 1))) (ao.length - (Int.toNat (i64.wrap (Int.tdiv (i64.wrap (-aa)) 32)))) (am - (Int.toNat (i64.wrap (Int.tdiv (i64.wrap (-aa)) 32))))) rfl rfl (Zwr underlying31 sizeOf77 rfl rfl bk.1 bk.2) ?_;generalize (if am=(Int.toNat (i64.wrap (Int.tdiv (i64.wrap (-aa)) 32))) then ap else ap.map (·.add ((Int.toNat (i64.wrap (Int.tdiv (i64.wrap (-aa)) 32))) * 1)))=bm at *;refine .ld (d:=46) (v:=(.slice bm ((ao.drop (Int.toNat (i64.wrap (Int.tdiv (i64.wrap (-aa)) 32)))).length) (am - (Int.toNat (i64.wrap (Int.tdiv (i64.wrap (-aa)) 32)))))) (congrArg (fun n=>Value.slice bm n (am - (Int.toNat (i64.wrap (Int.tdiv (i64.wrap (-aa)) 32))))) (List.length_drop (i:=(Int.toNat (i64.wrap (Int.tdiv (i64.wrap (-aa)) 32)))) (l:=ao)).symm) ?_;obtain ⟨a5,b2,hm⟩:=bZ hm;refine Zi (Zkm 4 b2 b1) ?_;rintro _ cr ⟨cs,ct,cu,rfl,b3,b4⟩;refine ⟨_,rfl,go ?_⟩;replace ab:=ab.grow b3;refine Xe [1,49,1000000] (fun n f au=>∃ ag ah ai aj ae af,af=n∧Zcj N aa a5 af ah ae=some r∧St w0 (Zk col) ag au∧Zc (Za.int .u32) 77 4 ag au ai aj ae∧[50,7].map f=[.int .i64 ah,.slice ai ae.length aj]) N ⟨_,0,_,_,_,_,rfl,hm,ab,b4,rfl⟩ ?_;clear hm;intro n f au hI;obtain ⟨ag,ah,ai,aj,ae,af,hn,hm,ab,ac,hs⟩:=hI;subst hn;refine .lL [50,7] hs ?_
  cases af with
  | zero=>rw [Zcj.eq_1] at hm;cases hm
  | succ af=>
   rw [Zcj.eq_2] at hm;refine go ?_;refine Zs hm (fun hb hm=>?_) fun hb hm=>go ?_
   ·refine Yc<|Zw ?_;refine Wp.cutK [1,49,50,1000000] (fun f a6=>∃ a7 a8 a9 av,Zo0 ah (Zcj N aa a5 af) av=some r∧St w0 (Zk col) a7 a6∧Zc (Za.int .u32) 77 4 a7 a6 a8 a9 av∧[7].map f=[.slice a8 av.length a9]) ?_ ?_
    ·intro f a6 hJ;obtain ⟨a7,a8,a9,av,hm,ab,b5,hs⟩:=hJ;rw [Zo0.eq_1] at hm;refine .lL [7] hs<|go ?_;exact ⟨af,by omega,rfl,⟨_,_,_,_,_,_,rfl,hm,ab,b5,rfl⟩⟩
    refine Zhg<|Zw<|Wv<|Yn rfl<|Ym rfl<|Zm<|Zw<|Wv<|Ym rfl<|Zm<|Zw ?_;refine Wp.cutK [1,49,50,7,8,1000000] (fun f ba=>∃ bb ad,Zk6 aa ah ae (Zcj N aa a5 af) ad=some r∧St w0 (Zk col) bb ba∧Zc (Za.int .u32) 77 4 bb ba ai aj ae∧[9].map f=[.int .u64 ad]) ?_ ?_
    ·intro f ba hJ;obtain ⟨bb,ad,hm,ab,ac,hs⟩:=hJ;rw [Zk6.eq_1] at hm;refine .lL [9] hs<|go ?_;refine lV (.int .u64 (Xp .u64 ad 32)) (Zc1 ad 32 rfl rfl (by decide))<|go ?_;obtain ⟨aw,ak,hm⟩:=bZ hm;refine lI ak (ac.addr ak)<|lW (ac.atInt ak) ?_;refine go ?_;refine lV (.int .i64 (Int.tmod (i64.wrap (-aa)) 32)) (Tu (i64.wrap (-aa)) 32 rfl rfl (by decide)) ?_;obtain ⟨b6,hm⟩:=Xc hm;refine lV (.int .u64 (X7 .u64 (Yp .u64 (Xp .u64 ad 32) (u64.wrap aw)) (Int.tmod (i64.wrap (-aa)) 32))) (Tv (Yp .u64 (Xp .u64 ad 32) (u64.wrap aw)) (Int.tmod (i64.wrap (-aa)) 32) rfl rfl b6)<|go ?_;refine lI ak (ac.addr ak) ?_;obtain ⟨bc,ax,hm⟩:=bZ hm;have ax:bc=ae.set (Int.toNat ah) (u32.wrap (X7 .u64 (Yp .u64 (Xp .u64 ad 32) (u64.wrap aw)) (Int.tmod (i64.wrap (-aa)) 32))):=(Option.some.inj ax).symm;refine Y4 (x1:=u32.wrap (X7 .u64 (Yp .u64 (Xp .u64 ad 32) (u64.wrap aw)) (Int.tmod (i64.wrap (-aa)) 32))) ac ak ?_;intro cv b7 b8 bn;rw [← ax] at bn;refine .ld (d:=7) (v:=(.slice ai bc.length aj)) (congrArg (fun n=>Value.slice ai n aj) (show ae.length=bc.length by rw [ax,List.length_set])) ?_;refine Zm ?_;replace ab:=ab.kp b7 b8;exact ⟨rfl,_,_,_,_,hm,ab,bn,rfl⟩
    refine go ?_;refine Zs hm (fun hb hm=>go ?_) fun hb hm=>?_
    ·obtain ⟨cw,bd,hm⟩:=bZ hm;refine lI bd (ac.addr bd)<|lW (ac.atInt bd) ?_;refine go ?_;exact ⟨rfl,_,_,hm,ab,ac,rfl⟩
    refine Yc ?_;exact ⟨rfl,_,0,hm,ab,ac,rfl⟩
   obtain ⟨cx,b9,hm⟩:=bZ hm;refine Zi (U8 5 b9 (ac.toSlF (Zh.int .u32))) ?_;rintro _ cy ⟨ca,cz,c0,rfl,ay,be⟩;refine ⟨_,rfl,?_⟩;replace be:=be.thaw (Z0 .u32) ay ((Fz.refl (col:=ag)).froz 4) (by decide);replace ay:=ay.thawR (col:=ag);generalize Xa au.heap.size ag ca=c2 at *;refine go ?_;cases hm;replace ab:=ab.grow ay;exact ⟨rfl,_,_,_,rfl,ab.fin (cm [(5,c1)]),ab.fo be⟩
 refine go ?_;refine X1 hm (fun bf hm=>go ?_) fun bf hm=>go ?_
 ·refine lV (.bool true) (Xm (congrArg Value.bool bf) rfl)<|Zm ?_;exact ⟨rfl,_,_,hm,ab,rfl⟩
 refine lV (.bool (decide (262144<aa))) (Xd (congrArg Value.bool bf) rfl)<|Zm ?_;exact ⟨rfl,_,_,hm,ab,rfl⟩
def Zdj (N:Nat):Nat→Int→R2→Option R0
  | 0,_,_=>none
  | ac+1,aa,ab=>if (decide (0<aa))=true then ((Zij N ab (if 262144<aa then 262144 else aa)).bind fun ad=>(Zdj N ac) (i64.wrap (aa - (if 262144<aa then 262144 else aa))) ad.1) else (some ((false,ab),[1]))
termination_by structural x=>x
def Zh5 (N:Nat) (aa:Int):Option R0:=
  Zdj N N aa [1]
theorem Zzb {N:Nat} {col:Ze} {w0:World} {aq:Int} {r:R0} (c1 c2:Nat) (hm:Zh5 N aq=some r):
    Calls Tryz.prog 38 #[.int .i64 aq] w0 (fun e w'=>∃ (col':Ze) (ra1:Option Addr) (rc2:Nat) (ra4:Option Addr) (rc5:Nat),e= .returned ((.agg #[.bool r.1.1,.slice ra1 r.1.2.length rc2,.slice ra4 r.2.length rc5]))∧Zg col w0 col' w'∧Zc (Za.int .u32) 77 c1 col' w' ra1 rc2 r.1.2∧Zc (Za.int .u32) 77 c2 col' w' ra4 rc5 r.2):=by
 refine Yu (m:=23) func38 rfl rfl rfl ?_;rw [Zh5.eq_1] at hm;have aa:=St.start col w0;refine go ?_;refine Xl (col:=(Zk col)) #[.bool false,.slice none (([]:List Int).length) 0,.slice none (([]:List Int).length) 0] 1 zeroValue35 ?_;intro aw a5 ax ay ab;refine go ?_;refine Vb (col:=ax) [1] 2 ?_;intro a6 a7 a8 ar az;refine go ?_;replace aa:=(aa.grow ay).grow ar;replace ab:=ab.gr ar;refine Xe [2,1000000] (fun n f ag=>∃ ac ad ah ai ae af,af=n∧Zdj N af ad ae=some r∧St w0 (Zk col) ac ag∧Zo 35 1 ac ag aw #[.bool false,.slice none (([]:List Int).length) 0,.slice none (([]:List Int).length) 0]∧Zc (Za.int .u32) 77 2 ac ag ah ai ae∧[0,3].map f=[.int .i64 ad,.slice ah ae.length ai]) N ⟨_,_,_,1,_,_,rfl,hm,aa,ab,az,rfl⟩ ?_;clear hm;intro n f ag hI;obtain ⟨ac,ad,ah,ai,ae,af,hn,hm,aa,ab,al,hs⟩:=hI;subst hn;refine .lL [0,3] hs ?_
 cases af with
 | zero=>rw [Zdj.eq_1] at hm;cases hm
 | succ af=>
  rw [Zdj.eq_2] at hm;refine go ?_;refine Zs hm (fun hb hm=>go ?_) fun hb hm=>go ?_
  ·refine lV (.int .i64 (if 262144<ad then 262144 else ad)) (Zms ad 262144 rfl rfl)<|go ?_;obtain ⟨am,a0,hm⟩:=bZ hm;refine Zi (Zz0 3 a0 (al.toSlF (Zh.int .u32))) ?_;rintro _ a9 ⟨a1,au,av,rfl,aj,ak⟩;refine ⟨_,rfl,?_⟩;replace ak:=ak.thaw (Z0 .u32) aj ((Fz.refl (col:=ac)).froz 2) (by decide);replace aj:=aj.thawR (col:=ac);generalize Xa ag.heap.size ac a1=ba at *;refine lM (.tuple #[.slice au am.1.length av,.int .i64 am.2])<|lV (.slice au am.1.length av) (Xh rfl rfl)<|lV (.int .i64 am.2) (Xh rfl rfl)<|go ?_;replace ak:=ak.recolSelf 2 (by decide);replace ab:=ab.gr aj;replace ab:=ab.recol 3 2 (by decide);replace aa:=aa.grow aj;replace aa:=aa.recol 3 2 (by decide) (by decide);exact ⟨af,by omega,rfl,⟨_,_,_,_,_,_,rfl,hm,aa,ab,ak,rfl⟩⟩
  refine lV (.agg #[.bool false,.slice ah ae.length ai]) (Yk (l:=[_,_]) (qs:=[(0,1),(1,1)]) underlying33 zeroValue33 ⟨rfl,sizeOf4,rfl,sizeOf31,trivial⟩ rfl)<|Vb (col:=ac) [1] 4 ?_;intro a2 bb bc an ao;refine lV (.agg #[.bool false,.slice ah ae.length ai,.slice a2 ([1].length) 1]) (Yk (l:=[_,_]) (qs:=[(0,2),(2,1)]) underlying35 zeroValue35 ⟨rfl,sizeOf33,rfl,sizeOf31,trivial⟩ rfl) ?_;replace ab:=ab.gr an;refine Z2 ab ?_;intro bd ap a3 a4;refine go ?_;cases hm;replace al:=(al.gr an).kp ap;replace aa:=(aa.grow an).kp ap a3;replace ao:=ao.kp ap;exact ⟨rfl,_,ra a4.atN,_,_,_,_,1,rfl,aa.fin (cm [(2,c1),(4,c2)]),aa.fo al,aa.fo ao⟩
theorem Z41 {N x n:Nat} (hn:n≤262144) (hx:(Zd x).length+8400≤1099511627776) (hN:(Zd x).length+8400<N):Zij N (Zd x) (n:Int)=some (Zd (x * 2 ^ n),0):=by
 have e1:i64.wrap (Int.tdiv (n:Int) 32)=((n / 32:Nat):Int):=by rw [Int.tdiv_eq_ediv_of_nonneg (by omega),Zv (by omega)];omega
 have e2:Int.tmod (n:Int) 32=((n % 32:Nat):Int):=by rw [Int.tmod_eq_emod_of_nonneg (by omega)];omega
 have e3:i64.wrap (i64.wrap (((n / 32:Nat):Int)+((Zd x).length:Int))+1)=((n / 32+(Zd x).length+1:Nat):Int):=by
  rw [Zv (x:=((n / 32:Nat):Int)+((Zd x).length:Int)) (by omega),Zv (by omega)];omega
 obtain ⟨o,o1,o2,o3,o4,_⟩:=Zou (a:=Zd x) (s:=n % 32) (by omega) (Zy _) (by omega)
 have ow:=Sh (N:=N) (a:=List.replicate (n / 32) 0++o) ((Zn.zeros _).app o3) (by rw [List.length_append,List.length_replicate,o2];omega) (by rw [List.length_append,List.length_replicate,o2];omega)
 have v:Zb (List.replicate (n / 32) 0++o)=x * 2 ^ n:=by
  rw [Sg,Uy,List.length_replicate,o4,Zx,Nat.zero_add,show (4294967296:Nat)=2 ^ 32 from rfl,← Nat.pow_mul,← Nat.mul_assoc,← Nat.pow_add,show 32 * (n / 32)+n % 32=n by omega,Nat.mul_comm]
 rw [v] at ow
 rw [Zij,if_neg (by rw [decide_eq_false (by omega)];decide),decide_eq_false (show ¬ 262144<(n:Int) by omega),Zik,if_neg (by decide),Sn (Zy _) (by omega) (by omega),Zx,Option.bind_some,if_pos (decide_eq_true (by omega)),e1,e2,e3,Int.toNat_natCast,Int.toNat_natCast,
  Xg (by simp only [maxLen];omega),o1,Option.bind_some,Xg (by simp only [List.length_replicate,o2,maxLen];omega),ow,Option.bind_some]
theorem Zv0 {N:Nat}:∀ (f k x:Nat),k<f→k<4611686018427387904→(Zd (x * 2 ^ k)).length+8400≤1099511627776→(Zd (x * 2 ^ k)).length+8400<N→Zdj N f (k:Int) (Zd x)=some ((false,Zd (x * 2 ^ k)),[1])
 | 0,k,x,h1,_,_,_=>by omega
 | f+1,k,x,h1,h2,h3,h4=>by
  rw [Zdj.eq_2]
  by_cases hk:0<k
  ·obtain ⟨s,s1,s2,s3,s4⟩:∃ s:Nat,(if 262144<(k:Int) then 262144 else (k:Int))=(s:Int)∧s≤262144∧s≤k∧0<s:=by
    by_cases h:262144<(k:Int)
    ·rw [if_pos h];exact ⟨262144,rfl,Nat.le_refl _,by omega,by decide⟩
    ·rw [if_neg h];exact ⟨k,rfl,by omega,Nat.le_refl _,hk⟩
   have hle:x≤x * 2 ^ k:=Nat.le_mul_of_pos_right _ (Nat.pow_pos (by decide))
   have hl:=Y2 hle
   have e:x * 2 ^ s * 2 ^ (k - s)=x * 2 ^ k:=by rw [Nat.mul_assoc,← Nat.pow_add,show s+(k - s)=k by omega]
   have ih:=Zv0 (N:=N) f (k - s) (x * 2 ^ s) (by omega) (by omega) (by rw [e];exact h3) (by rw [e];exact h4)
   rw [e] at ih
   rw [if_pos (decide_eq_true (by omega)),s1,Z41 s2 (by omega) (by omega),Option.bind_some,Zv (x:=(k:Int) - (s:Int)) (by omega),show (k:Int) - (s:Int)=((k - s:Nat):Int) by omega]
   exact ih
  ·have:k=0:=by omega
   subst this
   rw [if_neg (by rw [decide_eq_false (by omega)];decide),Nat.pow_zero,Nat.mul_one]
theorem Zjm (k:Nat):(Zd (2 ^ k)).length≤k / 32+1:=by
 rw [Wt,show (4294967296:Nat)=2 ^ 32 from rfl,← Nat.pow_mul]
 exact Nat.pow_lt_pow_right (by decide) (by omega)
def pw (k:Nat):QV:=((false,Zd (2 ^ k)),[1])
theorem Z3q {N k:Nat} (hk:k≤1099511627776) (hN:2199023255552<N):Zh5 N (k:Int)=some (pw k):=by
 have h:=Zjm k
 have:=Zv0 (N:=N) N k 1 (by omega) (by omega) (by rw [Nat.one_mul];omega) (by rw [Nat.one_mul];omega)
 rw [W5,Nat.one_mul] at this
 rw [Zh5,this];rfl
theorem Z40 (k:Nat):RV (k / 32+1) (pw k):=⟨Zy _,by simp [Zn,pw],Zjm k,by simp [pw]⟩
theorem Z3v (k:Nat):Zt (pw k)=mkRat ((2 ^ k:Nat):Int) 1:=by
 have:Zq (false,Zd (2 ^ k))=((2 ^ k:Nat):Int):=by simp only [Zq,Zx];rfl
 rw [Zt,pw,this];rfl
def Zl2 (aa:Int):Option R2:=
  Z7 ((Int.toNat (i64.wrap ((i64.wrap (Int.tdiv aa 32))+1))) * 4≤281474976710656∧(Int.toNat (i64.wrap ((i64.wrap (Int.tdiv aa 32))+1)))≤maxLen∧0≤(i64.wrap ((i64.wrap (Int.tdiv aa 32))+1))) (Z7 (0≤(Int.tmod aa 32)) ((Zp (List.replicate (Int.toNat (i64.wrap ((i64.wrap (Int.tdiv aa 32))+1))) (0:Int)) (i64.wrap (Int.tdiv aa 32))).bind fun ac=>(some ((List.replicate (Int.toNat (i64.wrap ((i64.wrap (Int.tdiv aa 32))+1))) (0:Int)).set (Int.toNat (i64.wrap (Int.tdiv aa 32))) (Xp .u32 1 (Int.tmod aa 32)))).bind fun ab=>some ab))
def Zl1 (N:Nat) (ab:R3) (ac:Int):Option R0:=
  (Zl2 ac).bind fun ad=>(Zbj N (ab.1,ab.2) (false,ad)).bind fun aa=>some ((aa.1.1.1,aa.1.1.2),aa.1.2)
theorem Z43 {r:Nat} (h:r<32):Xp .u32 1 (r:Int)=((2 ^ r:Nat):Int):=by
 have:∀ q:Fin 32,Xp .u32 1 (q.val:Int)=((2 ^ q.val:Nat):Int):=by decide
 exact this ⟨r,h⟩
theorem Zyj {k:Nat} (hk:k≤1099511627776):∃ l,Zl2 (k:Int)=some l∧Zn l∧Zb l=2 ^ k∧l.length=k / 32+1:=by
 have e1:Int.tdiv (k:Int) 32=((k / 32:Nat):Int):=rfl
 have e2:Int.tmod (k:Int) 32=((k % 32:Nat):Int):=rfl
 have hr:=Nat.mod_lt k (show 0<32 by decide)
 have hd:=Nat.div_add_mod k 32
 generalize hq:k / 32=q at *
 generalize hs:k % 32=r at *
 have hp:(2 ^ r:Nat)<4294967296:=by
  have:=Nat.pow_lt_pow_right (show 1<2 by decide) hr
  exact this
 have hlen:((List.replicate (q+1) (0:Int)).set q ((2 ^ r:Nat):Int)).length=q+1:=by simp
 refine ⟨(List.replicate (q+1) (0:Int)).set q ((2 ^ r:Nat):Int),?_,?_,?_,hlen⟩
 ·rw [Zl2,e1,e2,Zv (x:=(q:Int)) (by omega),wS (by omega),Int.toNat_natCast,Xg (by simp only [maxLen];omega),Xg (by omega),Z9 (by simp),Option.bind_some,Option.bind_some,Z43 hr,Int.toNat_natCast]
 ·intro d hd'
  rcases List.mem_or_eq_of_mem_set hd' with h | h
  ·rw [(List.mem_replicate.1 h).2];omega
  ·obtain ⟨Z,hZ⟩:∃ Z,Z=2 ^ r:=⟨_,rfl⟩
   rw [← hZ] at h hp
   rw [h];omega
 ·have h:=Uw (l:=List.replicate (q+1) (0:Int)) (k:=q) (by simp) ((2 ^ r:Nat):Int)
  rw [List.getElem_replicate,Uy,Int.toNat_natCast] at h
  rw [show Zb ((List.replicate (q+1) (0:Int)).set q ((2 ^ r:Nat):Int))=4294967296 ^ q * 2 ^ r by simpa using h,show (4294967296:Nat)=2 ^ 32 from rfl,← Nat.pow_mul,← Nat.pow_add,hd]
theorem Z4w {N L k:Nat} {b:ZV} (hb:Zn b.2) (hl:b.2.length≤L) (hk:k≤1099511627776) (hr:Z4 N (L+(k / 32+1))):Zl1 N b (k:Int)=some (Zj (mkRat (Zq b) (2 ^ k))):=by
 obtain ⟨l,h1,h2,h3,h4⟩:=Zyj hk
 have hpos:0<2 ^ k:=Nat.pow_pos (by decide)
 generalize (2 ^ k:Nat)=Z at *
 have hs:(Zq (false,l)).sign=1:=by
  rw [Zq,if_neg (by simp),h3]
  exact Int.sign_eq_one_of_pos (by omega)
 have hb':(!decide (b.1=false))=b.1:=by cases b.1 <;> rfl
 have e:=Zhf (N:=N) (num:=(b.1,b.2)) (den:=l) hb h2 (by omega) hl (by omega) hr
 rw [Zl1,h1,Option.bind_some,Zbj,Zen (a:=(false,l)) (k:=k / 32+1) h2 (by simp only;omega) (hr.mono (by omega)),Option.bind_some,hs,if_neg (by decide),hb',e,Option.bind_some,Option.bind_some,h3]
def Zfi (aa:Int) (kk_L1:(Int→R2→Option ByteArray)) (ab:List Int):Option ByteArray:=
  kk_L1 (i64.wrap (aa+1)) ab
def Zfj (aa:Int) (kk_L1:(Int→R2→Option ByteArray)) (ab:List Int) (ac:Bool):Option ByteArray:=
  if ac=true then ((Zp ab aa).bind fun ae=>(some (ab.set (Int.toNat aa) 49)).bind fun ad=>Zfi aa kk_L1 ad) else (Zfi aa kk_L1 ab)
def Sw (N:Nat) (ac:List Int) (ab:Int):Nat→Int→R2→Option ByteArray
  | 0,_,_=>none
  | ae+1,aa,ad=>if (decide (aa<((List.replicate (Int.toNat ab) (0:Int)).length:Int)))=true then ((Zp ad aa).bind fun ah=>(some (ad.set (Int.toNat aa) 48)).bind fun af=>if (decide ((i64.wrap (Int.tdiv (i64.wrap ((i64.wrap (ab - 1)) - aa)) 32))<(ac.length:Int)))=true then ((Zp ac (i64.wrap (Int.tdiv (i64.wrap ((i64.wrap (ab - 1)) - aa)) 32))).bind fun ag=>Z7 (0≤(Int.tmod (i64.wrap ((i64.wrap (ab - 1)) - aa)) 32)) (Zfj aa (Sw N ac ab ae) af (decide ((Ua .u32 (X7 .u32 ag (Int.tmod (i64.wrap ((i64.wrap (ab - 1)) - aa)) 32)) 1)=1)))) else (Zfj aa (Sw N ac ab ae) af false)) else (some (Y6 ad))
termination_by structural x=>x
def Zfh (N:Nat) (ab:List Int) (aa:Int):Option ByteArray:=
  Z7 ((Int.toNat aa) * 1≤281474976710656∧(Int.toNat aa)≤maxLen∧0≤aa) (Sw N ab aa N 0 (List.replicate (Int.toNat aa) (0:Int)))
theorem Zy9 {N a7:Nat} {a0:Option Addr} {col:Ze} {w0:World} {aj:R2} {ac:Int} {r:ByteArray} (hm:Zfh N aj ac=some r) (h0:Sl (Za.int .u32) col w0 a0 a7 aj):
    Calls Tryz.prog 43 #[.slice a0 aj.length a7,.int .i64 ac] w0 (fun e w'=>e= .returned ((.string r))∧Below w0.heap.size w0 w'):=by
 refine Xo 4 (m:=45) func43 rfl rfl rfl rfl rfl ?_;rw [Zfh.eq_1] at hm;have aa:=St.start col w0;refine go ?_;obtain ⟨ak,hm⟩:=Xc hm;refine Qe (col:=(Zk col)) (w:=w0) (r:=(Za.int .u8)) (n:=(Int.toNat ac)) (x0:=0) 1 rfl underlying127 Tryz.t5 rfl rfl rfl rfl rfl (congrArg (Value.int _) (Int.toNat_of_nonneg ak.2.2).symm) (congrArg (Value.int _) (Int.toNat_of_nonneg ak.2.2).symm) ak.1 ak.2.1 (Qu .u8 0) ?_;intro bh bi bj a9 ba;refine go ?_;replace aa:=aa.grow a9;refine Xe [0,1,11,1000000] (fun n f ao=>∃ ap ab ad ae ag af,af=n∧Sw N aj ac af ab ag=some r∧St w0 (Zk col) ap ao∧Zc (Za.int .u8) 5 1 ap ao ad ae ag∧[12,5].map f=[.int .i64 ab,.slice ad ag.length ae]) N ⟨_,0,_,_,_,_,rfl,hm,aa,ba,rfl⟩ ?_;clear hm;intro n f ao hI;obtain ⟨ap,ab,ad,ae,ag,af,hn,hm,aa,aq,hs⟩:=hI;subst hn;refine .lL [12,5] hs ?_;replace h0:=h0.keep (Zl.start col w0)
 cases af with
 | zero=>rw [Sw.eq_1] at hm;cases hm
 | succ af=>
  rw [Sw.eq_2] at hm;refine go ?_;refine Zs hm (fun hb hm=>?_) fun hb hm=>go ?_
  ·refine Yc<|Zw ?_;refine Wp.cutK [0,1,11,12,1000000] (fun f ar=>∃ au av aw al,Zfi ab (Sw N aj ac af) al=some r∧St w0 (Zk col) au ar∧Zc (Za.int .u8) 5 1 au ar av aw al∧[5].map f=[.slice av al.length aw]) ?_ ?_
   ·intro f ar hJ;obtain ⟨au,av,aw,al,hm,aa,bb,hs⟩:=hJ;rw [Zfi.eq_1] at hm;refine .lL [5] hs<|go ?_;exact ⟨af,by omega,rfl,⟨_,_,_,_,_,_,rfl,hm,aa,bb,rfl⟩⟩
   refine go ?_;obtain ⟨bk,ax,hm⟩:=bZ hm;refine lI ax (aq.addr ax) ?_;obtain ⟨ah,am,hm⟩:=bZ hm;have am:ah=ag.set (Int.toNat ab) 48:=(Option.some.inj am).symm;refine Y4 (x1:=48) aq ax ?_;intro bm bc bd ai;rw [← am] at ai;refine .ld (d:=5) (v:=(.slice ad ah.length ae)) (congrArg (fun n=>Value.slice ad n ae) (show ag.length=ah.length by rw [am,List.length_set])) ?_;refine Zm<|Zw ?_;replace aa:=aa.kp bc bd;refine Wp.cutK [0,1,11,12,5,6,1000000] (fun f ay=>∃ az a1,Zfj ab (Sw N aj ac af) ah a1=some r∧St w0 (Zk col) az ay∧Zc (Za.int .u8) 5 1 az ay ad ae ah∧[38].map f=[.bool a1]) ?_ ?_
   ·intro f ay hJ;obtain ⟨az,a1,hm,aa,ai,hs⟩:=hJ;rw [Zfj.eq_1] at hm;refine .lL [38] hs ?_;refine Zs hm (fun hb hm=>go ?_) fun hb hm=>?_
    ·obtain ⟨bn,a2,hm⟩:=bZ hm;refine lI a2 (ai.addr a2) ?_;obtain ⟨a3,an,hm⟩:=bZ hm;have an:a3=ah.set (Int.toNat ab) 49:=(Option.some.inj an).symm;refine Y4 (x1:=49) ai a2 ?_;intro bo be bf a8;rw [← an] at a8;refine .ld (d:=5) (v:=(.slice ad a3.length ae)) (congrArg (fun n=>Value.slice ad n ae) (show ah.length=a3.length by rw [an,List.length_set])) ?_;refine Zm ?_;replace aa:=aa.kp be bf;exact ⟨rfl,_,_,_,_,hm,aa,a8,rfl⟩
    refine Yc ?_;exact ⟨rfl,_,_,_,_,hm,aa,ai,rfl⟩
   refine go ?_;refine lV (.int .i64 (i64.wrap (Int.tdiv (i64.wrap ((i64.wrap (ac - 1)) - ab)) 32))) (Vo (i64.wrap ((i64.wrap (ac - 1)) - ab)) 32 rfl rfl (by decide))<|go ?_;refine X1 hm (fun a4 hm=>go ?_) fun a4 hm=>go ?_
   ·refine lV (.int .i64 (i64.wrap (Int.tdiv (i64.wrap ((i64.wrap (ac - 1)) - ab)) 32))) (Vo (i64.wrap ((i64.wrap (ac - 1)) - ab)) 32 rfl rfl (by decide))<|go ?_;obtain ⟨a5,a6,hm⟩:=bZ hm;refine lI a6 ((h0.ks aa).addr a6) ?_;refine go ?_;refine lW ((h0.ks aa).atInt a6)<|go ?_;refine lV (.int .i64 (Int.tmod (i64.wrap ((i64.wrap (ac - 1)) - ab)) 32)) (Tu (i64.wrap ((i64.wrap (ac - 1)) - ab)) 32 rfl rfl (by decide))<|go ?_;obtain ⟨bg,hm⟩:=Xc hm;refine lV (.int .u32 (X7 .u32 a5 (Int.tmod (i64.wrap ((i64.wrap (ac - 1)) - ab)) 32))) (Tv a5 (Int.tmod (i64.wrap ((i64.wrap (ac - 1)) - ab)) 32) rfl rfl bg)<|go ?_;refine lV (.bool (decide ((Ua .u32 (X7 .u32 a5 (Int.tmod (i64.wrap ((i64.wrap (ac - 1)) - ab)) 32)) 1)=1))) (Xm (congrArg Value.bool a4) rfl)<|Zm ?_;exact ⟨rfl,_,_,hm,aa,ai,rfl⟩
   refine lV (.bool false) (Xd (congrArg Value.bool a4) rfl)<|Zm ?_;exact ⟨rfl,_,_,hm,aa,ai,rfl⟩
  refine lV (.string (Y6 ag)) (Zwg (c:=1) (c2:=1) (aq.srcN NB.int) underlying127 underlying5 underlying9 rfl)<|go ?_;cases hm;exact ⟨rfl,rfl,aa.below⟩
def Zja (N:Nat) (ad:R3):Nat→R2→Int→Option ByteArray
  | 0,_,_=>none
  | ae+1,aa,ab=>if (decide (0≤ab))=true then ((Zgk ad.2 ab).bind fun ac=>Z7 ((aa.length+[u8.wrap (48+(u8.wrap ac))].length) * 1≤140737488355328∧aa.length+[u8.wrap (48+(u8.wrap ac))].length≤maxLen) ((Zja N ad ae) (aa++[u8.wrap (48+(u8.wrap ac))]) (i64.wrap (ab - 1)))) else (some (Y6 aa))
termination_by structural x=>x
def Zl0 (N:Nat) (aa:R3) (ab:Int):Option ByteArray:=
  Zja N aa N ([]:List Int) (i64.wrap (ab - 1))
def Y0 (v:Nat):Nat→List Int
 | 0=>[]
 | m+1=>(48+((v / 2 ^ m % 2:Nat):Int)) :: Y0 v m
theorem Zy3 {a:List Int} (h:Zn a) (i:Nat):Zb a / 2 ^ i % 2=Xn a (i / 32) / 2 ^ (i % 32) % 2:=by
 have e3:=Zrb (Zb (a.take (i / 32))) (Xn a (i / 32)) (Zb (a.drop (i / 32+1))) (i / 32) (i % 32) (Zjh h _) (by omega)
 rwa [← Uo a,← Ux,show 32 * (i / 32)+i % 32=i by omega] at e3
theorem Zyu {y:Nat} (h:y<4294967296):Ua .u32 (y:Int) 1=((y % 2:Nat):Int):=by
 rw [Ua,BitVec.toNat_and,Zbv _ _ (by simp only [IntKind.bits];omega),show (1:Int)=((1:Nat):Int) from rfl,Zbv _ _ (by simp only [IntKind.bits];omega),Nat.and_one_is_mod,Zq0]
 omega
theorem Zsu {N k:Nat} {a:List Int} (ha:Zn a) (hk:k≤1099511627776) (hl:a.length≤1099511627776):∀ (f m:Nat) (pre:List Int),pre.length+m=k→m<f→
  Sw N a (k:Int) f (pre.length:Int) (pre++List.replicate m 0)=some (Y6 (pre++Y0 (Zb a) m))
 | 0,m,pre,h1,h2=>by omega
 | f+1,0,pre,h1,h2=>by
  rw [Sw.eq_2,List.length_replicate,Int.toNat_natCast,if_neg (by rw [decide_eq_false (by omega)];decide)];rfl
 | f+1,m+1,pre,h1,h2=>by
  have e0:i64.wrap (i64.wrap ((k:Int) - 1) - (pre.length:Int))=(m:Int):=by
   rw [Zv (x:=(k:Int) - 1) (by omega),Zv (by omega)];omega
  have e1:i64.wrap (Int.tdiv (m:Int) 32)=((m / 32:Nat):Int):=by rw [Int.tdiv_eq_ediv_of_nonneg (by omega),Zv (by omega)];omega
  have e2:Int.tmod (m:Int) 32=((m % 32:Nat):Int):=by rw [Int.tmod_eq_emod_of_nonneg (by omega)];omega
  have sett:∀ x c:Int,(pre++x :: List.replicate m 0).set pre.length c=(pre++[c])++List.replicate m 0:=fun x c=>by
   rw [List.set_append_right (i:=pre.length) c (Nat.le_refl _),Nat.sub_self,List.set_cons_zero,List.append_assoc];rfl
  have ih:=fun c:Int=>Zsu (N:=N) ha hk hl f m (pre++[c]) (by rw [List.length_append,List.length_singleton];omega) (by omega)
  simp only [List.length_append,List.length_singleton] at ih
  have hJ:∀ b:Bool,(b=decide (Zb a / 2 ^ m % 2=1))→Zfj (pre.length:Int) (Sw N a (k:Int) f) ((pre++[48])++List.replicate m 0) b=some (Y6 (pre++Y0 (Zb a) (m+1))):=by
   intro b hb
   rw [Zfj,Y0]
   by_cases h:Zb a / 2 ^ m % 2=1
   ·rw [decide_eq_true h] at hb
    rw [if_pos hb,Z9 (by rw [List.length_append,List.length_append,List.length_singleton];omega),Option.bind_some,Int.toNat_natCast,List.append_assoc,List.singleton_append,sett,Option.bind_some,Zfi,wS (by omega),ih 49,h,List.append_assoc];rfl
   ·rw [decide_eq_false h] at hb
    have h0:Zb a / 2 ^ m % 2=0:=by omega
    rw [if_neg (by rw [hb];decide),Zfi,wS (by omega),ih 48,h0,List.append_assoc];rfl
  rw [Sw.eq_2,List.length_replicate,Int.toNat_natCast,if_pos (decide_eq_true (by omega)),Z9 (by rw [List.length_append,List.length_replicate];omega),Option.bind_some,Int.toNat_natCast,List.replicate_succ,sett,Option.bind_some,e0,e1,e2]
  have hbit:=Zy3 ha m
  by_cases hp:m / 32<a.length
  ·have he:=ha.get hp
   obtain ⟨y,hy⟩:∃ y:Nat,a[m / 32]=(y:Int):=⟨(a[m / 32]).toNat,by omega⟩
   have hla:Xn a (m / 32)=y:=by rw [Xn,List.getD_eq_getElem?_getD,List.getElem?_eq_getElem hp,Option.getD_some,hy,Int.toNat_natCast]
   rw [hla] at hbit
   have hd:=Nat.div_le_self y (2 ^ (m % 32))
   rw [if_pos (decide_eq_true (by omega)),Z9 hp,hy,Option.bind_some,Xg (by omega),Zjw _ _ _ (by simp only [IntKind.bits];omega)]
   refine hJ _ ?_
   rw [hbit]
   generalize y / 2 ^ (m % 32)=z at *
   rw [Zyu (by omega)]
   rw [Bool.eq_iff_iff,decide_eq_true_iff,decide_eq_true_iff]
   omega
  ·have hla:Xn a (m / 32)=0:=by rw [Xn,List.getD_eq_getElem?_getD,List.getElem?_eq_none (by omega)];rfl
   rw [hla,Nat.zero_div] at hbit
   rw [if_neg (by rw [decide_eq_false (by omega)];decide)]
   refine hJ _ ?_
   rw [hbit];rfl
theorem Z07 {N k:Nat} {a:List Int} (ha:Zn a) (hk:k≤1099511627776) (hl:a.length≤1099511627776) (hN:k<N):Zfh N a (k:Int)=some (Y6 (Y0 (Zb a) k)):=by
 rw [Zfh,Xg (by rw [Int.toNat_natCast];simp only [maxLen];omega),Int.toNat_natCast]
 exact Zsu ha hk hl N k [] (by simp) hN
theorem Zwv {N:Nat} {b:ZV} (hb:Zn b.2):∀ (f m:Nat) (out:List Int),m<f→out.length+m≤1099511627776→Zja N b f out ((m:Int) - 1)=some (Y6 (out++Y0 (Zb b.2) m))
 | 0,m,out,h1,h2=>by omega
 | f+1,0,out,h1,h2=>by
  rw [Zja.eq_2,if_neg (by decide),Y0,List.append_nil]
 | f+1,m+1,out,h1,h2=>by
  have ih:=fun c:Int=>Zwv (N:=N) hb f m (out++[c]) (by omega) (by rw [List.length_append,List.length_singleton];omega)
  have e:u8.wrap (48+u8.wrap ((Zb b.2 / 2 ^ m % 2:Nat):Int))=48+((Zb b.2 / 2 ^ m % 2:Nat):Int):=by
   rcases Nat.mod_two_eq_zero_or_one (Zb b.2 / 2 ^ m) with h | h
   ·rw [h];decide
   ·rw [h];decide
  rw [Zja.eq_2,show ((m+1:Nat):Int) - 1=(m:Int) by omega,if_pos (decide_eq_true (by omega)),Zwu hb (by omega),Option.bind_some,e,Xg (by simp only [List.length_singleton,maxLen];omega),Zv (by omega),ih,List.append_assoc]
  rfl
theorem Z4e {N k:Nat} {b:ZV} (hb:Zn b.2) (hk:k≤1099511627776) (hN:k<N):Zl0 N b (k:Int)=some (Y6 (Y0 (Zb b.2) k)):=by
 rw [Zl0,Zv (by omega)]
 exact Zwv hb N k [] hN (by simpa using hk)
def Zpc (N:Nat) (aa:R0) (ah:Int):Option R3:=
  (Zl2 ah).bind fun ai=>(S5 N 1).bind fun ae=>(Zbj N (false,ai) (ae.1,ae.2)).bind fun ab=>(Zld N ((aa.1.1,aa.1.2),aa.2) ((ab.1.1.1,ab.1.1.2),ab.1.2)).bind fun ac=>(Zle N ((ac.1.1,ac.1.2),ac.2)).bind fun ad=>(Zo5 N ((ad.1.1,ad.1.2),ad.2)).bind fun af=>(Zgw N (af.1,af.2)).bind fun ag=>some (ag.1,ag.2)
def Zlz (N:Nat) (aa:Rf):Nat→Int→Option Re
  | 0,_=>none
  | ag+1,ab=>(Zpc N ((aa.1.1.1.1,aa.1.1.1.2),aa.1.1.2) ab).bind fun ac=>(S5 N 1).bind fun ae=>(Zcr N (ac.1,ac.2) (ae.1,ae.2)).bind fun af=>(Zl1 N (af.1,af.2) ab).bind fun ad=>(Zgy N ((ad.1.1,ad.1.2),ad.2) ((aa.1.2.1.1,aa.1.2.1.2),aa.1.2.2)).bind fun ah=>if (decide (ah≤0))=true then ((Zl0 N (ac.1,ac.2) ab).bind fun ai=>some (ai,0)) else ((Zlz N aa ag) (i64.wrap (ab+1)))
termination_by structural x=>x
def Zaz (N:Nat) (aa:Rf):Nat→Int→Option Re
  | 0,_=>none
  | ak+1,ac=>(Zh5 N ac).bind fun ab=>(Ul N ((aa.1.1.1.1,aa.1.1.1.2),aa.1.1.2) ((ab.1.1,ab.1.2),ab.2)).bind fun ad=>(Zfv N ((ad.1.1,ad.1.2),ad.2)).bind fun ae=>(Zh8 N ((ae.1.1,ae.1.2),ae.2)).bind fun aj=>(Zg6 N (aj.1,aj.2)).bind fun af=>(Zb3).bind fun ag=>(Uv N ((af.1,af.2),[1]) ((ag.1.1,ag.1.2),ag.2)).bind fun ah=>(Ul N ((aa.1.2.1.1,aa.1.2.1.2),aa.1.2.2) ((ab.1.1,ab.1.2),ab.2)).bind fun ai=>(Tn N ((ah.1.1,ah.1.2),ah.2) ((ai.1.1,ai.1.2),ai.2)).bind fun al=>if (decide (al≤0))=true then ((Zfh N af.2 ac).bind fun am=>some (am,0)) else ((Zaz N aa ak) (i64.wrap (ac+1)))
termination_by structural x=>x
def Tl (N:Nat) (ab:R1) (af:List Int):Option Re:=
  (Za0 N (ab.1,ab.2.1,ab.2.2.1,ab.2.2.2.1,ab.2.2.2.2) af).bind fun aa=>if (!decide (aa.2=0))=true then (some (⟨#[]⟩,aa.2)) else ((Qj N ((aa.1.2.1.1,aa.1.2.1.2),aa.1.2.2) ((aa.1.1.1.1,aa.1.1.1.2),aa.1.1.2)).bind fun ac=>(Zae N ((ac.1.1,ac.1.2),ac.2)).bind fun ag=>if (decide (ag≤0))=true then (some (⟨#[]⟩,52)) else ((Zba N ac.2).bind fun ad=>(Zba N ac.1.2).bind fun ae=>Zaz N aa N (if 0>(i64.wrap ((i64.wrap (ad - ae)) - 1)) then 0 else (i64.wrap ((i64.wrap (ad - ae)) - 1)))))
theorem Zrj {N b6 b7 b8 b9 ca:Nat} {cb cc cd ce a1:Option Addr} {col:Ze} {w0:World} {ah:R1} {bz:R2} {r:Re} (hm:Tl N ah bz=some r) (cf:Sl Za.str col w0 cb b6 ah.2.1) (cg:Sl (Za.slice Za.str) col w0 cc b7 ah.2.2.1) (ch:Sl (Za.slice (Za.int .i64)) col w0 cd b8 ah.2.2.2.1) (ci:Sl (Za.slice (Za.pair (Za.pair Za.bool (Za.slice (Za.int .u32))) (Za.slice (Za.int .u32)))) col w0 ce b9 ah.2.2.2.2) (h1:Sl (Za.int .i64) col w0 a1 ca bz):
    Calls Tryz.prog 11 #[(.agg #[.string ah.1,.slice cb ah.2.1.length b6,.slice cc ah.2.2.1.length b7,.slice cd ah.2.2.2.1.length b8,.slice ce ah.2.2.2.2.length b9]),.slice a1 bz.length ca] w0 (fun e w'=>e= .returned (.tuple #[.string r.1,.int .i64 r.2])∧Below w0.heap.size w0 w'):=by
 refine Zhs 4 5 (m:=66) (args:=[(.agg #[.string ah.1,.slice cb ah.2.1.length b6,.slice cc ah.2.2.1.length b7,.slice cd ah.2.2.2.1.length b8,.slice ce ah.2.2.2.2.length b9]),.slice a1 bz.length ca]) func11 rfl rfl rfl rfl rfl ?_;rw [Tl.eq_1] at hm;have ab:=St.start col w0;refine go ?_;refine Xy (col:=(Zk col)) 1 rfl ?_;intro eh ei ej cw cx;refine go ?_;refine lV _ (Xj isAgg27 sizeOf27 cx)<|Va rfl ?_;obtain ⟨aa,cy,hm⟩:=bZ hm;replace cf:=cf.keep (Zl.start col w0);replace cg:=cg.keep (Zl.start col w0);replace ch:=ch.keep (Zl.start col w0);replace ci:=ci.keep (Zl.start col w0);replace h1:=h1.keep (Zl.start col w0);replace ab:=ab.grow cw;refine Zi (Zrk 2 3 4 5 cy (cf.ks ab) (cg.ks ab) (ch.ks ab) (ci.ks ab) (h1.ks ab)) ?_;rintro _ ek ⟨cz,be,bf,bg,bh,bi,bj,bk,bm,rfl,c0,ad,ae,af,ag⟩;refine ⟨_,rfl,?_⟩;refine lM (.tuple #[(.agg #[.bool aa.1.1.1.1,.slice be aa.1.1.1.2.length bf,.slice bg aa.1.1.2.length bh,.bool aa.1.2.1.1,.slice bi aa.1.2.1.2.length bj,.slice bk aa.1.2.2.length bm]),.int .i64 aa.2])<|lV (.agg #[.bool aa.1.1.1.1,.slice be aa.1.1.1.2.length bf,.slice bg aa.1.1.2.length bh,.bool aa.1.2.1.1,.slice bi aa.1.2.1.2.length bj,.slice bk aa.1.2.2.length bm]) (Xh rfl rfl)<|lV (.int .i64 aa.2) (Xh rfl rfl)<|Xl (col:=cz) #[.bool false,.slice none (([]:List Int).length) 0,.slice none (([]:List Int).length) 0,.bool false,.slice none (([]:List Int).length) 0,.slice none (([]:List Int).length) 0] 6 zeroValue55 ?_;intro c1 el b0 bs c2;refine Z2 c2 ?_;intro c3 bt c4 ac;refine go ?_;replace ab:=((ab.grow c0).grow bs).kp bt c4;replace ad:=(ad.gr bs).kp bt;replace ae:=(ae.gr bs).kp bt;replace af:=(af.gr bs).kp bt;replace ag:=(ag.gr bs).kp bt;refine Zs hm (fun hb hm=>go ?_) fun hb hm=>go ?_
 ·cases hm;exact ⟨rfl,rfl,ab.below⟩
 refine X8 ⟨_,_,rfl⟩ ?_;refine lV (.agg #[.bool aa.1.2.1.1,.slice bi aa.1.2.1.2.length bj,.slice bk aa.1.2.2.length bm]) (Xt isAgg35 sizeOf35 rfl rfl ((ac.atN).part 3 3 _ rfl))<|X8 ⟨_,_,rfl⟩ ?_;refine lV (.agg #[.bool aa.1.1.1.1,.slice be aa.1.1.1.2.length bf,.slice bg aa.1.1.2.length bh]) (Xt isAgg35 sizeOf35 rfl rfl ((ac.atN).part 0 3 _ rfl)) ?_;obtain ⟨em,c5,hm⟩:=bZ hm;refine Zi (Znq 7 8 c5 ((((af.toSlF (Zh.int .u32)).froz 5).froz 2).froz 3) ((((ag.froz 4 (by decide)).toSlF (Zh.int .u32)).froz 2).froz 3) ((((ad.froz 4 (by decide)).froz 5 (by decide)).toSlF (Zh.int .u32)).froz 3) ((((ae.froz 4 (by decide)).froz 5 (by decide)).froz 2 (by decide)).toSlF (Zh.int .u32))) ?_;rintro _ en ⟨c6,eo,ep,eq,er,rfl,ax,a2,a3⟩;refine ⟨_,rfl,?_⟩;replace a2:=a2.thaw (Z0 .u32) ax (((((Fz.refl (col:=b0)).froz 4).froz 5).froz 2).froz 3) (by decide);replace a3:=a3.thaw (Z0 .u32) ax (((((Fz.refl (col:=b0)).froz 4).froz 5).froz 2).froz 3) (by decide);replace ax:=ax.thawR (col:=b0);generalize Xa c3.heap.size b0 c6=c7 at *;refine Xl (col:=c7) #[.bool false,.slice none (([]:List Int).length) 0,.slice none (([]:List Int).length) 0] 9 zeroValue35 ?_;intro es et a4 a5 c8;refine Z2 c8 ?_;intro c9 a6 da bu;refine go ?_;refine lV _ (Xj isAgg35 sizeOf35 bu) ?_;obtain ⟨eu,db,hm⟩:=bZ hm;replace a2:=(a2.gr a5).kp a6;replace a3:=(a3.gr a5).kp a6;refine Zi (Znp db ((a2.toSlF (Zh.int .u32)).froz 8) ((a3.froz 7 (by decide)).toSlF (Zh.int .u32))) ?_;rintro _ dc ⟨rfl,ar⟩;refine ⟨_,rfl,?_⟩;replace ar:Zg a4 c9 a4 dc:=.of_below ar;refine go ?_;replace ad:=(((ad.gr ax).gr a5).kp a6).gr ar;replace ae:=(((ae.gr ax).gr a5).kp a6).gr ar;replace af:=(((af.gr ax).gr a5).kp a6).gr ar;replace ag:=(((ag.gr ax).gr a5).kp a6).gr ar;replace ac:=(((ac.gr ax).gr a5).kp a6).gr ar;replace ab:=(((ab.grow ax).grow a5).kp a6 da).grow ar;replace a2:=a2.gr ar;replace a3:=a3.gr ar;replace bu:=bu.gr ar;refine Zs hm (fun hb hm=>go ?_) fun hb hm=>go ?_
 ·cases hm;exact ⟨rfl,rfl,ab.below⟩
 refine Ur (col:=a4) (by kernel_rfl) (by kernel_rfl)<|qF ⟨_,_,rfl⟩ ?_;refine qW (fun _ hC=>((bu.atN).nth (q:=2) rfl).gr (hC.bl a4)) ?_;obtain ⟨b1,dd,hm⟩:=bZ hm;refine qc (v:=(.int .i64 b1)) rfl (fun _ hC=>⟨_,_,Zek call37 rfl,(Zns dd ((a3.gr (hC.bl a4)).toSlF (Zh.int .u32)):).mono fun _ _ h=>⟨h.1,hC.trans (.of_below h.2)⟩⟩) ?_;refine qF ⟨_,_,rfl⟩ ?_;refine qF (Ty ⟨_,_,rfl⟩) ?_;refine qW (fun _ hC=>((((bu.atN).part 0 2 _ rfl)).nth (q:=1) rfl).gr (hC.bl a4)) ?_;obtain ⟨b2,de,hm⟩:=bZ hm;refine qc (v:=(.int .i64 b2)) rfl (fun _ hC=>⟨_,_,Zek call37 rfl,(Zns de ((a2.gr (hC.bl a4)).toSlF (Zh.int .u32)):).mono fun _ _ h=>⟨h.1,hC.trans (.of_below h.2)⟩⟩) ?_;refine go ?_;refine qv (v:=(.int .i64 (if 0>(i64.wrap ((i64.wrap (b1 - b2)) - 1)) then 0 else (i64.wrap ((i64.wrap (b1 - b2)) - 1))))) rfl (fun _ hC=>Z39 (i64.wrap ((i64.wrap (b1 - b2)) - 1)) 0 rfl rfl) ?_;refine go ?_;refine Vn ?_;intro ew hC;replace hC:=hC.bl a4;refine Zhg ?_;replace ad:=ad.gr hC;replace ae:=ae.gr hC;replace af:=af.gr hC;replace ag:=ag.gr hC;replace ac:=ac.gr hC;replace ab:=ab.grow hC;refine Xe [6,1000000] (fun n f bb=>∃ a7 cj bn,bn=n∧Zaz N aa bn cj=some r∧St w0 (Zk col) a7 bb∧Zc (Za.int .u32) 77 2 a7 bb be bf aa.1.1.1.2∧Zc (Za.int .u32) 77 3 a7 bb bg bh aa.1.1.2∧Zc (Za.int .u32) 77 4 a7 bb bi bj aa.1.2.1.2∧Zc (Za.int .u32) 77 5 a7 bb bk bm aa.1.2.2∧Zo 55 6 a7 bb c1 #[.bool aa.1.1.1.1,.slice be aa.1.1.1.2.length bf,.slice bg aa.1.1.2.length bh,.bool aa.1.2.1.1,.slice bi aa.1.2.1.2.length bj,.slice bk aa.1.2.2.length bm]∧[9].map f=[.int .i64 cj]) N ⟨_,_,_,rfl,hm,ab,ad,ae,af,ag,ac,rfl⟩ ?_;clear hm;intro n f bb hI;obtain ⟨a7,cj,bn,hn,hm,ab,ad,ae,af,ag,ac,hs⟩:=hI;subst hn;refine .lL [9] hs ?_
 cases bn with
 | zero=>rw [Zaz.eq_1] at hm;cases hm
 | succ bn=>
  rw [Zaz.eq_2] at hm;refine go ?_;obtain ⟨ey,df,hm⟩:=bZ hm;refine Zi (Zzb (col:=a7) 10 11 df) ?_;rintro _ ez ⟨dg,e0,e1,e2,e3,rfl,bo,ay,az⟩;refine ⟨_,rfl,?_⟩;refine Xl (col:=dg) #[.bool false,.slice none (([]:List Int).length) 0,.slice none (([]:List Int).length) 0] 12 zeroValue35 ?_;intro e4 e5 b3 a8 dh;refine Z2 dh ?_;intro di a9 dj b4;refine go ?_;refine X8 ⟨_,_,rfl⟩ ?_;replace ac:=((ac.gr bo).gr a8).kp a9;refine lV (.agg #[.bool aa.1.1.1.1,.slice be aa.1.1.1.2.length bf,.slice bg aa.1.1.2.length bh]) (Xt isAgg35 sizeOf35 rfl rfl ((ac.atN).part 0 3 _ rfl))<|lV _ (Xj isAgg35 sizeOf35 b4) ?_;obtain ⟨e6,dl,hm⟩:=bZ hm;replace ad:=((ad.gr bo).gr a8).kp a9;replace ae:=((ae.gr bo).gr a8).kp a9;replace ay:=(ay.gr a8).kp a9;replace az:=(az.gr a8).kp a9;refine Zi (Zex 13 14 dl ((((ad.toSlF (Zh.int .u32)).froz 3).froz 10).froz 11) ((((ae.froz 2 (by decide)).toSlF (Zh.int .u32)).froz 10).froz 11) ((((ay.froz 2 (by decide)).froz 3 (by decide)).toSlF (Zh.int .u32)).froz 11) ((((az.froz 2 (by decide)).froz 3 (by decide)).froz 10 (by decide)).toSlF (Zh.int .u32))) ?_;rintro _ dm ⟨dn,e7,e8,e9,fa,rfl,al,ck,cl⟩;refine ⟨_,rfl,?_⟩;replace ck:=ck.thaw (Z0 .u32) al (((((Fz.refl (col:=b3)).froz 2).froz 3).froz 10).froz 11) (by decide);replace cl:=cl.thaw (Z0 .u32) al (((((Fz.refl (col:=b3)).froz 2).froz 3).froz 10).froz 11) (by decide);replace al:=al.thawR (col:=b3);generalize Xa di.heap.size b3 dn=b5 at *;obtain ⟨fb,dp,hm⟩:=bZ hm;refine Zi (Zzk 15 16 dp ((ck.toSlF (Zh.int .u32)).froz 14) ((cl.froz 13 (by decide)).toSlF (Zh.int .u32))) ?_;rintro _ dq ⟨dr,fc,fd,fe,ff,rfl,am,cn,co⟩;refine ⟨_,rfl,?_⟩;replace cn:=cn.thaw (Z0 .u32) am (((Fz.refl (col:=b5)).froz 13).froz 14) (by decide);replace co:=co.thaw (Z0 .u32) am (((Fz.refl (col:=b5)).froz 13).froz 14) (by decide);replace am:=am.thawR (col:=b5);generalize Xa dm.heap.size b5 dr=cp at *;obtain ⟨fg,ds,hm⟩:=bZ hm;refine Zi (Zzj 17 ds ((cn.toSlF (Zh.int .u32)).froz 16) ((co.froz 15 (by decide)).toSlF (Zh.int .u32))) ?_
  rintro _ dt ⟨du,fh,fi,rfl,an,cq⟩;refine ⟨_,rfl,?_⟩;replace cq:=cq.thaw (Z0 .u32) an (((Fz.refl (col:=cp)).froz 15).froz 16) (by decide);replace an:=an.thawR (col:=cp);generalize Xa dq.heap.size cp du=cr at *;obtain ⟨cv,dv,hm⟩:=bZ hm;refine Zi (Z0n 18 dv (cq.toSlF (Zh.int .u32))) ?_;rintro _ fj ⟨dw,dx,dy,rfl,ao,ak⟩;refine ⟨_,rfl,?_⟩;replace ak:=ak.thaw (Z0 .u32) ao ((Fz.refl (col:=cr)).froz 17) (by decide);replace ao:=ao.thawR (col:=cr);generalize Xa dt.heap.size cr dw=dz at *;refine Vb (col:=dz) [1] 19 ?_;intro d0 fk d1 a0 bv;refine lV (.agg #[.bool cv.1,.slice dx cv.2.length dy,.slice d0 ([1].length) 1]) (Yk (l:=[_,_]) (qs:=[(0,2),(2,1)]) underlying35 zeroValue35 ⟨rfl,sizeOf33,rfl,sizeOf31,trivial⟩ rfl)<|Xl (col:=d1) #[.bool false,.slice none (([]:List Int).length) 0,.slice none (([]:List Int).length) 0] 20 zeroValue35 ?_;intro fl fm bp au d2;refine Z2 d2 ?_;intro fn av d3 ap;refine go ?_;refine W6 (col:=bp) [(0,0),(3,1),(4,0),(5,0),(1,3),(2,3),(6,3),(7,3),(8,1)] (by kernel_rfl) (by kernel_rfl)<|xv rfl rfl (fun _ hC=>Xj isAgg35 sizeOf35 (ap.gr (hC.bl bp))) ?_;refine xF ⟨_,_,rfl⟩ ?_;replace ac:=((((((ac.gr al).gr am).gr an).gr ao).gr a0).gr au).kp av;refine xv (v:=(.agg #[.bool aa.1.2.1.1,.slice bi aa.1.2.1.2.length bj,.slice bk aa.1.2.2.length bm])) rfl rfl (fun _ hC=>Xt isAgg35 sizeOf35 rfl rfl (((ac.atN).part 3 3 _ rfl).gr (hC.bl bp))) ?_;replace b4:=((((((b4.gr al).gr am).gr an).gr ao).gr a0).gr au).kp av;refine xv rfl rfl (fun _ hC=>Xj isAgg35 sizeOf35 (b4.gr (hC.bl bp))) ?_;refine xe rfl rfl ?_;intro fp hC0;have hC:=hC0.bl bp;obtain ⟨fq,d4,hm⟩:=bZ hm;refine lc rfl rfl (Zap call42) (Zkf (col:=bp) 21 22 d4:) ?_;rintro _ fr ⟨bq,ft,fu,fv,fw,rfl,aq,cs,ct⟩;refine ⟨_,rfl,?_⟩;refine Zm<|Yd bq hC0 aq<|xe rfl rfl ?_;intro d5 hC0;replace af:=(((((((((((af.gr bo).gr a8).kp a9).gr al).gr am).gr an).gr ao).gr a0).gr au).kp av).gr hC).gr aq;replace ag:=(((((((((((ag.gr bo).gr a8).kp a9).gr al).gr am).gr an).gr ao).gr a0).gr au).kp av).gr hC).gr aq
  replace ab:=(((((((((((ab.grow bo).grow a8).kp a9 dj).grow al).grow am).grow an).grow ao).grow a0).grow au).kp av d3).grow hC).grow aq;replace ad:=((((((((ad.gr al).gr am).gr an).gr ao).gr a0).gr au).kp av).gr hC).gr aq;replace ae:=((((((((ae.gr al).gr am).gr an).gr ao).gr a0).gr au).kp av).gr hC).gr aq;replace ay:=((((((((ay.gr al).gr am).gr an).gr ao).gr a0).gr au).kp av).gr hC).gr aq;replace az:=((((((((az.gr al).gr am).gr an).gr ao).gr a0).gr au).kp av).gr hC).gr aq;replace ak:=((((ak.gr a0).gr au).kp av).gr hC).gr aq;replace bv:=(((bv.gr au).kp av).gr hC).gr aq;replace ac:=(ac.gr hC).gr aq;replace ap:=(ap.gr hC).gr aq;have hC:=hC0.bl bq;obtain ⟨fx,d6,hm⟩:=bZ hm;replace ak:=ak.gr hC;replace bv:=bv.gr hC;replace cs:=cs.gr hC;replace ct:=ct.gr hC;refine Zi (Zev 23 24 d6 ((((ak.toSlF (Zh.int .u32)).froz 19).froz 21).froz 22) ((((bv.froz 18 (by decide)).toSlF (Zh.int .u32)).froz 21).froz 22) ((((cs.froz 18 (by decide)).froz 19 (by decide)).toSlF (Zh.int .u32)).froz 22) ((((ct.froz 18 (by decide)).froz 19 (by decide)).froz 21 (by decide)).toSlF (Zh.int .u32))) ?_;rintro _ fy ⟨d7,fz,f0,f1,f2,rfl,ai,bc,bd⟩;refine ⟨_,rfl,?_⟩;replace bc:=bc.thaw (Z0 .u32) ai (((((Fz.refl (col:=bq)).froz 18).froz 19).froz 21).froz 22) (by decide);replace bd:=bd.thaw (Z0 .u32) ai (((((Fz.refl (col:=bq)).froz 18).froz 19).froz 21).froz 22) (by decide);replace ai:=ai.thawR (col:=bq);generalize Xa d5.heap.size bq d7=br at *;refine Zm<|Yd br hC0 ai<|xe rfl rfl ?_;intro d8 hC0;replace ad:=(ad.gr hC).gr ai;replace ae:=(ae.gr hC).gr ai;replace af:=(af.gr hC).gr ai;replace ag:=(ag.gr hC).gr ai;replace ay:=(ay.gr hC).gr ai;replace az:=(az.gr hC).gr ai;replace ac:=(ac.gr hC).gr ai;replace ap:=(ap.gr hC).gr ai;replace ab:=(ab.grow hC).grow ai;have hC:=hC0.bl br;obtain ⟨f3,d9,hm⟩:=bZ hm;replace af:=af.gr hC;replace ag:=ag.gr hC;replace ay:=ay.gr hC;replace az:=az.gr hC
  refine Zi (Zex 25 26 d9 ((((af.toSlF (Zh.int .u32)).froz 5).froz 10).froz 11) ((((ag.froz 4 (by decide)).toSlF (Zh.int .u32)).froz 10).froz 11) ((((ay.froz 4 (by decide)).froz 5 (by decide)).toSlF (Zh.int .u32)).froz 11) ((((az.froz 4 (by decide)).froz 5 (by decide)).froz 10 (by decide)).toSlF (Zh.int .u32))) ?_;rintro _ f4 ⟨ea,f5,f6,f7,f8,rfl,aj,bw,bx⟩;refine ⟨_,rfl,?_⟩;replace bw:=bw.thaw (Z0 .u32) aj (((((Fz.refl (col:=br)).froz 4).froz 5).froz 10).froz 11) (by decide);replace bx:=bx.thaw (Z0 .u32) aj (((((Fz.refl (col:=br)).froz 4).froz 5).froz 10).froz 11) (by decide);replace aj:=aj.thawR (col:=br);generalize Xa d8.heap.size br ea=ba at *;refine Zm<|Yd ba hC0 aj<|xe rfl rfl ?_;intro eb hC0;replace ak:=((ak.gr ai).gr hC).gr aj;replace ad:=(ad.gr hC).gr aj;replace ae:=(ae.gr hC).gr aj;replace bc:=(bc.gr hC).gr aj;replace bd:=(bd.gr hC).gr aj;replace ac:=(ac.gr hC).gr aj;replace ap:=(ap.gr hC).gr aj;replace ab:=(ab.grow hC).grow aj;have hC:=hC0.bl ba;obtain ⟨f9,ec,hm⟩:=bZ hm;replace bc:=bc.gr hC;replace bd:=bd.gr hC;replace bw:=bw.gr hC;replace bx:=bx.gr hC;refine Zi (Zew ec ((((bc.toSlF (Zh.int .u32)).froz 24).froz 25).froz 26) ((((bd.froz 23 (by decide)).toSlF (Zh.int .u32)).froz 25).froz 26) ((((bw.froz 23 (by decide)).froz 24 (by decide)).toSlF (Zh.int .u32)).froz 26) ((((bx.froz 23 (by decide)).froz 24 (by decide)).froz 25 (by decide)).toSlF (Zh.int .u32))) ?_;rintro _ ed ⟨rfl,aw⟩;refine ⟨_,rfl,?_⟩;replace aw:Zg ba eb ba ed:=.of_below aw;refine Zm<|Yd ba hC0 aw<|xu rfl rfl (fun _=>Zp5 _ _ rfl rfl) ?_;refine W3 ?_;replace af:=((af.gr aj).gr hC).gr aw;replace ag:=((ag.gr aj).gr hC).gr aw;replace ad:=(ad.gr hC).gr aw;replace ae:=(ae.gr hC).gr aw;replace ak:=(ak.gr hC).gr aw;replace ac:=(ac.gr hC).gr aw;replace ap:=(ap.gr hC).gr aw;replace ab:=(ab.grow hC).grow aw;intro ee hC;replace hC:=hC.bl ba;replace ad:=ad.gr hC;replace ae:=ae.gr hC;replace af:=af.gr hC;replace ag:=ag.gr hC;replace ak:=ak.gr hC;replace ac:=ac.gr hC;replace ap:=ap.gr hC;replace ab:=ab.grow hC
  refine Zs hm (fun hb hm=>go ?_) fun hb hm=>go ?_
  ·refine X8 ⟨_,_,rfl⟩ ?_;refine X8 (Ty ⟨_,_,rfl⟩) ?_;refine lW ((((ap.atN).part 0 2 _ rfl)).nth (q:=1) rfl)<|Yn rfl ?_;obtain ⟨ga,ef,hm⟩:=bZ hm;refine Zi (Zy9 ef (ak.toSlF (Zh.int .u32))) ?_;rintro _ eg ⟨rfl,cu⟩;refine ⟨_,rfl,?_⟩;replace cu:Zg ba ee ba eg:=.of_below cu;refine go ?_;cases hm;replace ab:=ab.grow cu;exact ⟨rfl,rfl,ab.below⟩
  exact ⟨bn,by omega,rfl,⟨_,_,_,rfl,hm,ab,ad,ae,af,ag,ac,rfl⟩⟩
theorem Zhc {a b:Rat}:Ve a b≤0↔a≤b:=by
 rw [Ve,← Rat.not_lt]
 by_cases h:a<b
 ·rw [if_pos h];exact ⟨fun _ g=>absurd (Rat.le_of_lt h) (Rat.not_le.2 g),fun _=>by decide⟩
 ·rw [if_neg h]
  by_cases g:b<a
  ·rw [if_pos g];exact ⟨fun e=>absurd e (by decide),fun e=>absurd g e⟩
  ·rw [if_neg g];exact ⟨fun _=>g,fun _=>by decide⟩
abbrev X4 (k:Nat):Rat:=mkRat ((2 ^ k:Nat):Int) 1
def bN (f:Rat) (k:Nat):Int:= -W1 (-(f * X4 k))
theorem Z3g (b:Int):mkRat b 1+1=mkRat (b+1) 1:=Zmc b 1 (D:=1) (by decide)
theorem Zoe {b:Int} {t:Rat} {Z:Nat} (hZ:Z≠0):Ve (mkRat b 1+1) (t * mkRat (Z:Int) 1)≤0↔mkRat (b+1) Z≤t:=by
 have ht:=Rat.mkRat_self t
 have hd:=t.den_nz
 generalize t.num=n at ht
 generalize t.den=d at ht hd
 subst ht
 rw [Zhc,Z3g,Rat.mkRat_mul_mkRat,← Rat.not_lt,← Rat.not_lt,Vm (by omega) (by decide),Vm hd hZ]
 simp
theorem Zy2 {q:Rat} (h:0<q) {Z:Nat} (hZ:2 * q.den≤Z):2≤q * mkRat (Z:Int) 1:=by
 have hn:mkRat 0 1<mkRat q.num q.den:=by rw [Rat.mkRat_self];exact h
 rw [Vm (by decide) q.den_nz] at hn
 have ht:=Rat.mkRat_self q
 have hd:=q.den_nz
 generalize q.num=n at *
 generalize q.den=d at *
 subst ht
 rw [Rat.mkRat_mul_mkRat,← Rat.not_lt,show (2:Rat)=mkRat 2 1 from rfl,Vm (by omega) (by decide)]
 have h1:1 * (Z:Int)≤n * (Z:Int):=Int.mul_le_mul_of_nonneg_right (by simp at hn;omega) (by omega)
 have e:((d * 1:Nat):Int)=(d:Int):=by rw [Nat.mul_one]
 rw [e]
 have e1:((1:Nat):Int)=1:=rfl
 rw [e1,Int.mul_one]
 omega
theorem Z1q {f t:Rat} (h:f<t):mkRat (bN f (Z6 (t - f).den+1)+1) (2 ^ (Z6 (t - f).den+1))≤t:=by
 have hl:0<t - f:=by grind
 have hZ:2 * (t - f).den≤2 ^ (Z6 (t - f).den+1):=by
  have:=Vk.1 (Nat.le_refl (Z6 (t - f).den))
  rw [Nat.pow_succ];omega
 have h2:=Zy2 hl hZ
 have hne:(2 ^ (Z6 (t - f).den+1):Nat)≠0:=Nat.pos_iff_ne_zero.1 (Nat.pow_pos (by decide))
 rw [← Zoe hne,Zhc,bN]
 generalize (Z6 (t - f).den+1)=k at *
 have h3:=Z1s (-(f * X4 k))
 generalize hF:W1 (-(f * X4 k))=F at *
 have e:mkRat (-F) 1= -(F:Rat):=by rw [Rat.mkRat_one];simp
 rw [e]
 have h4:2≤t * X4 k - f * X4 k:=by
  have e2:t * X4 k - f * X4 k=(t - f) * X4 k:=by grind
  rw [e2];exact h2
 generalize f * X4 k=x at *
 generalize t * X4 k=y at *
 have h5:2≤y - x:=h4
 have h6:-x<(F:Rat)+1:=h3
 show -(F:Rat)+1≤y
 grind
section
variable {N K:Nat} {f t:Rat} (hf:qs f≤K) (ht:qs t≤K) (hr:Z4 N (13 * K+64)) {k:Nat} (hk:k / 32+1≤2 * K+3)
theorem Zp0 (k:Nat):qs (X4 k)≤k / 32+1:=by
 refine Zbp ?_ ?_ (by omega)
 ·rw [Int.natAbs_natCast];exact Zjm k
 ·rw [W5];simp
include hf hr hk
omit hr in
theorem Znh:(Zr (bN f k)).2.length≤3 * K+4:=by
 have h1:=Zog (-(f * X4 k))
 rw [Zhd] at h1
 have h2:=Zcz f (X4 k)
 have h3:=Zp0 k
 rw [Vt] at h1 ⊢
 rw [bN,Int.natAbs_neg]
 omega
omit hr in
theorem Zyx:(Zr (bN f k+1)).2.length≤3 * K+5:=by
 have h1:=Znh (f:=f) hf hk
 exact Zm5 h1 (y:=1) (by rw [Vt];simp [W5])
theorem Z2k:Zpc N (((Zj f).1.1,(Zj f).1.2),(Zj f).2) (k:Int)=some (Zr (bN f k)):=by
 have hroom:=hr.2
 obtain ⟨l,h1,h2,h3,h4⟩:=Zyj (k:=k) (by omega)
 have q2:=Zp0 k
 have q3:=Zcz f (X4 k)
 have o1:S5 N 1=some (Zr 1):=Zju (by omega) (hr.mono (by omega))
 have hs:Sc N ((Zr 1).1,(Zr 1).2)=some 1:=by
  have:=Zen (N:=N) (a:=Zr 1) (k:=1) (Yq _) (by rw [Vt];simp [W5]) (hr.mono (by omega))
  rw [Yx] at this
  exact this
 have low:Zbk N (!decide (false=(Zr 1).1),l) (Zr 1).2=some (Zj (X4 k)):=by
  have e:=Zhf (N:=N) (num:=(false,l)) (den:=(Zr 1).2) (k:=k / 32+1) (l:=1) h2 (Yq _) (by rw [Vt,Zx];decide) (by simp only;omega) (by rw [Vt];simp [W5]) (hr.mono (by omega))
  have z:Zq (false,l)=((2 ^ k:Nat):Int):=by simp only [Zq,h3];rfl
  have d:Zb (Zr 1).2=1:=by rw [Vt,Zx];rfl
  rw [z,d] at e
  exact e
 have nw:Zbj N (false,l) ((Zr 1).1,(Zr 1).2)=some (Zj (X4 k),0):=by
  rw [Zbj,hs,Option.bind_some,if_neg (by decide),low,Option.bind_some]
 have mu:Zld N (((Zj f).1.1,(Zj f).1.2),(Zj f).2) (((Zj (X4 k)).1.1,(Zj (X4 k)).1.2),(Zj (X4 k)).2)=some (Zj (f * X4 k)):=by
  have:=Z4q (Yr hf) (Yr q2) (hr.mono (by omega))
  rwa [Yi,Yi] at this
 have ne:Zle N (((Zj (f * X4 k)).1.1,(Zj (f * X4 k)).1.2),(Zj (f * X4 k)).2)=some (Zj (-(f * X4 k))):=by
  have:=Z4r (Yr (Nat.le_refl (qs (f * X4 k)))) (hr.mono (by omega))
  rwa [Yi] at this
 have fl:=Z4o (N:=N) (q:= -(f * X4 k)) (Nat.le_refl _) (hr.mono (by rw [Zhd];omega))
 have wn:Zgw N ((Zr (W1 (-(f * X4 k)))).1,(Zr (W1 (-(f * X4 k)))).2)=some (Zr (bN f k)):=by
  have hl:=Zog (-(f * X4 k))
  rw [Zhd] at hl
  have:=Zqg (N:=N) (a:=Zr (W1 (-(f * X4 k)))) (Yq _) hl (hr.mono (by omega))
  rwa [Yx] at this
 rw [Zpc,h1,Option.bind_some,o1,Option.bind_some,nw,Option.bind_some,mu,Option.bind_some,ne,Option.bind_some,fl,Option.bind_some,wn,Option.bind_some]
include ht
theorem Z5v (g:Nat):Zlz N ((Zj f,Zj t),0) (g+1) (k:Int)=if mkRat (bN f k+1) (2 ^ k)≤t then some (Y6 (Y0 (bN f k).natAbs k),0) else Zlz N ((Zj f,Zj t),0) g ((k+1:Nat):Int):=by
 have hroom:=hr.2
 have hroom1:=hr.1
 have lb:=Znh (f:=f) hf hk
 have lb1:=Zyx (f:=f) hf hk
 have o1:S5 N 1=some (Zr 1):=Zju (by omega) (hr.mono (by omega))
 have ad:Zcr N ((Zr (bN f k)).1,(Zr (bN f k)).2) ((Zr 1).1,(Zr 1).2)=some (Zr (bN f k+1)):=by
  have:=Zmv (N:=N) (a:=Zr (bN f k)) (b:=Zr 1) (l:=1) (Yq _) (Yq _) lb (by rw [Vt];simp [W5]) (hr.mono (by omega))
  rwa [Yx,Yx] at this
 have ov:Zl1 N ((Zr (bN f k+1)).1,(Zr (bN f k+1)).2) (k:Int)=some (Zj (mkRat (bN f k+1) (2 ^ k))):=by
  have:=Z4w (N:=N) (b:=Zr (bN f k+1)) (Yq _) lb1 (k:=k) (by omega) (hr.mono (by omega))
  rwa [Yx] at this
 have q1:qs (mkRat (bN f k+1) (2 ^ k))≤3 * K+5:=by
  refine Zbp ?_ ?_ (by omega)
  ·rwa [Vt] at lb1
  ·have:=Zjm k;omega
 have cm:Zgy N (((Zj (mkRat (bN f k+1) (2 ^ k))).1.1,(Zj (mkRat (bN f k+1) (2 ^ k))).1.2),(Zj (mkRat (bN f k+1) (2 ^ k))).2) (((Zj t).1.1,(Zj t).1.2),(Zj t).2)=some (Ve (mkRat (bN f k+1) (2 ^ k)) t):=by
  have:=Zqe (Yr q1) (Yr ht) (hr.mono (by omega))
  rwa [Yi,Yi] at this
 have bi:Zl0 N ((Zr (bN f k)).1,(Zr (bN f k)).2) (k:Int)=some (Y6 (Y0 (bN f k).natAbs k)):=by
  have:=Z4e (N:=N) (k:=k) (b:=Zr (bN f k)) (Yq _) (by omega) (by omega)
  rwa [Vt,Zx] at this
 rw [Zlz.eq_2]
 dsimp only
 rw [Z2k hf hr hk,Option.bind_some,o1,Option.bind_some,ad,Option.bind_some,ov,Option.bind_some,cm,Option.bind_some]
 by_cases h:mkRat (bN f k+1) (2 ^ k)≤t
 ·rw [if_pos (decide_eq_true (Zhc.2 h)),if_pos h,bi,Option.bind_some]
 ·rw [if_neg (by rw [decide_eq_false (fun e=>h (Zhc.1 e))];decide),if_neg h,wS (by omega)]
theorem Zs6 (hN:2199023255552<N) (g:Nat):Zaz N ((Zj f,Zj t),0) (g+1) (k:Int)=if mkRat (bN f k+1) (2 ^ k)≤t then some (Y6 (Y0 (bN f k).natAbs k),0) else Zaz N ((Zj f,Zj t),0) g ((k+1:Nat):Int):=by
 have hroom:=hr.2
 have hroom1:=hr.1
 have lb:=Znh (f:=f) hf hk
 have q2:=Zp0 k
 have q3:=Zcz f (X4 k)
 have q4:=Zcz t (X4 k)
 have hp:RV (2 * K+3) (pw k):=(Z40 k).mono hk
 have mul:∀ q:Rat,qs q≤K→Ul N (((Zj q).1.1,(Zj q).1.2),(Zj q).2) (((pw k).1.1,(pw k).1.2),(pw k).2)=some (Zj (q * X4 k)):=fun q hq=>by
  have:=Zh0 (Yr hq) hp (hr.mono (by omega))
  rwa [Yi,Z3v] at this
 have ne:Zfv N (((Zj (f * X4 k)).1.1,(Zj (f * X4 k)).1.2),(Zj (f * X4 k)).2)=some (Zj (-(f * X4 k))):=by
  have:=Z1u (Yr (Nat.le_refl (qs (f * X4 k)))) (hr.mono (by omega))
  rwa [Yi] at this
 have fl:=Z1j (N:=N) (q:= -(f * X4 k)) (Nat.le_refl _) (hr.mono (by rw [Zhd];omega))
 have wn:Zg6 N ((Zr (W1 (-(f * X4 k)))).1,(Zr (W1 (-(f * X4 k)))).2)=some (Zr (bN f k)):=by
  have hl:=Zog (-(f * X4 k))
  rw [Zhd] at hl
  have:=Z5m (N:=N) (a:=Zr (W1 (-(f * X4 k)))) (Yq _) hl (hr.mono (by omega))
  rwa [Yx] at this
 have hb:RV (3 * K+4) (Zr (bN f k),[1]):=⟨Yq _,by simp [Zn],lb,by simp⟩
 have vb:Zt (Zr (bN f k),[1])=mkRat (bN f k) 1:=by
  rw [Zt];simp only [Yx];rfl
 have ad:Uv N (((Zr (bN f k)).1,(Zr (bN f k)).2),[1]) (((Zj 1).1.1,(Zj 1).1.2),(Zj 1).2)=some (Zj (mkRat (bN f k) 1+1)):=by
  have:=Ze3 hb (Yr (Nat.le_of_eq Zjo)) (hr.mono (by omega))
  rwa [Yi,vb] at this
 have q1:qs (mkRat (bN f k) 1+1)≤3 * K+6:=by
  have h1:=Zjn (mkRat (bN f k) 1) 1
  rw [Zjo] at h1
  have h2:qs (mkRat (bN f k) 1)≤3 * K+4:=Zbp (by rwa [Vt] at lb) (by rw [W5];simp) (by omega)
  omega
 have cm:Tn N (((Zj (mkRat (bN f k) 1+1)).1.1,(Zj (mkRat (bN f k) 1+1)).1.2),(Zj (mkRat (bN f k) 1+1)).2) (((Zj (t * X4 k)).1.1,(Zj (t * X4 k)).1.2),(Zj (t * X4 k)).2)=some (Ve (mkRat (bN f k) 1+1) (t * X4 k)):=by
  have:=Ze4 (Yr q1) (Yr (k:=3 * K+3) (q:=t * X4 k) (by omega)) (hr.mono (by omega))
  rwa [Yi,Yi] at this
 have bi:Zfh N (Zr (bN f k)).2 (k:Int)=some (Y6 (Y0 (bN f k).natAbs k)):=by
  have:=Z07 (N:=N) (k:=k) (a:=(Zr (bN f k)).2) (Yq _) (by omega) (by omega) (by omega)
  rwa [Vt,Zx] at this
 have hne:(2 ^ k:Nat)≠0:=Nat.pos_iff_ne_zero.1 (Nat.pow_pos (by decide))
 rw [Zaz.eq_2,Z3q (by omega) (by omega),Option.bind_some]
 dsimp only
 rw [mul f hf,Option.bind_some,ne,Option.bind_some,fl,Option.bind_some,wn,Option.bind_some,Zkr,Option.bind_some,ad,Option.bind_some,mul t ht,Option.bind_some,cm,Option.bind_some]
 by_cases h:mkRat (bN f k+1) (2 ^ k)≤t
 ·rw [if_pos (decide_eq_true ((Zoe hne).2 h)),if_pos h,bi,Option.bind_some]
 ·rw [if_neg (by rw [decide_eq_false (fun e=>h ((Zoe hne).1 e))];decide),if_neg h,wS (by omega)]
end
def Zfl (aa:Nat) (kk_L1:(Nat→Option Int)):Option Int:=
  kk_L1 (aa+1)
def Zb4 (aa:Nat) (kk_L1:(Nat→Option Int)) (ab:Bool):Option Int:=
  if ab=true then (some (aa:Int)) else (Zfl aa kk_L1)
def Qi (N:Nat) (ab:(R0×R0)):List (R0×R0)→Nat→Option Int
  | [],ac=>some (-1)
  | aa :: ad,ac=>(Tn N ((aa.1.1.1,aa.1.1.2),aa.1.2) ((ab.1.1.1,ab.1.1.2),ab.1.2)).bind fun ae=>if (decide (ae≤0))=true then ((Tn N ((ab.2.1.1,ab.2.1.2),ab.2.2) ((aa.2.1.1,aa.2.1.2),aa.2.2)).bind fun af=>if (decide (af≤0))=true then ((Tn N ((aa.1.1.1,aa.1.1.2),aa.1.2) ((aa.2.1.1,aa.2.1.2),aa.2.2)).bind fun ag=>Zb4 ac (Qi N ab ad) (decide (ag<0))) else (Zb4 ac (Qi N ab ad) false)) else (Zb4 ac (Qi N ab ad) false)
termination_by structural x=>x
def Zk0 (N:Nat) (ac:Int) (aa:Rg) (ab:(R0×R0)):Option Int:=
  Qi N ab aa 0
theorem Zzd (N:Nat) (col:Ze) (w0:World) (qc2:Nat) (hqqc2:qc2≠0) (bq:Int) (a1:Option Addr) (br:Nat) (al:Rg) (g2:Nat) (aa:(R0×R0)) (am:Option Addr) (an:Nat) (ao:Option Addr) (ap:Nat) (aq:Option Addr) (ar:Nat) (au:Option Addr) (av:Nat) (h1:Sl (Za.pair (Za.pair (Za.pair Za.bool (Za.slice (Za.int .u32))) (Za.slice (Za.int .u32))) (Za.pair (Za.pair Za.bool (Za.slice (Za.int .u32))) (Za.slice (Za.int .u32)))) col w0 a1 br al) (a3:Sl (Za.int .u32) col w0 am an aa.1.1.2) (a4:Sl (Za.int .u32) col w0 ao ap aa.1.2) (a5:Sl (Za.int .u32) col w0 aq ar aa.2.1.2) (a6:Sl (Za.int .u32) col w0 au av aa.2.2) (hb2:Zo 55 qc2 col w0 g2 #[.bool aa.1.1.1,.slice am aa.1.1.2.length an,.slice ao aa.1.2.length ap,.bool aa.2.1.1,.slice aq aa.2.1.2.length ar,.slice au aa.2.2.length av]) (r:Int) (hm:Zk0 N bq al aa=some r):
    Calls Tryz.prog 104 #[.int .i64 bq,.slice a1 al.length br,.pointer (some ⟨g2,0,none⟩)] w0 (fun e w'=>e= .returned ((.int .i64 r))∧Below w0.heap.size w0 w'):=by
 refine Xo 5 (m:=39) func104 rfl rfl rfl rfl rfl ?_;rw [Zk0.eq_1] at hm;have ab:=St.start col w0;replace hb2:=hb2.start0 hqqc2;refine go ?_;refine Xe [2,8,9,1000000] (fun n f a7=>∃ a0 af az,n=az.length∧al.drop af=az∧Qi N aa az af=some r∧St w0 (Zk col) a0 a7∧Zo 55 999 a0 a7 g2 #[.bool aa.1.1.1,.slice am aa.1.1.2.length an,.slice ao aa.1.2.length ap,.bool aa.2.1.1,.slice aq aa.2.1.2.length ar,.slice au aa.2.2.length av]∧[10].map f=[.int .i64 af]) al.length ⟨_,0,_,rfl,rfl,hm,ab,hb2,rfl⟩ ?_;clear hm;intro n f a7 hI;obtain ⟨a0,af,az,hn,hl,hm,ab,hb2,hs⟩:=hI;subst hn;refine .lL [10] hs ?_;replace h1:=h1.keep (Zl.start col w0);replace a3:=a3.keep (Zl.start col w0);replace a4:=a4.keep (Zl.start col w0);replace a5:=a5.keep (Zl.start col w0);replace a6:=a6.keep (Zl.start col w0)
 cases az with
 | nil=>
  have hk:¬ ((af:Int)<(al.length:Int)):=by have:=List.drop_eq_nil_iff.1 hl;omega
  have hkb:=decide_eq_false hk;rw [Qi.eq_1] at hm;refine go ?_;refine Yv (congrArg Value.bool hkb)<|go ?_;cases hm;exact ⟨rfl,rfl,ab.below⟩
 | cons ac a8=>
  obtain ⟨a9,bu,bv⟩:=Y1 hl;have hk:(af:Int)<(al.length:Int):=by omega
  have hkb:=decide_eq_true hk;rw [Qi.eq_2] at hm;refine go ?_;refine Yw (congrArg Value.bool hkb)<|Yc<|Zw ?_;refine Wp.cutK [10,2,8,9,1000000] (fun f ba=>∃ bb,Zfl af (Qi N aa a8)=some r∧St w0 (Zk col) bb ba∧Zo 55 999 bb ba g2 #[.bool aa.1.1.1,.slice am aa.1.1.2.length an,.slice ao aa.1.2.length ap,.bool aa.2.1.1,.slice aq aa.2.1.2.length ar,.slice au aa.2.2.length av]) ?_ ?_
  ·intro f ba hJ;obtain ⟨bb,hm,ab,hb2⟩:=hJ;rw [Zfl.eq_1] at hm;refine go ?_;exact ⟨a8.length,by simp,rfl,⟨_,_,_,rfl,bu,hm,ab,hb2,(Y7 (congrArg (Value.int .i64) (Y3 (Nat.lt_of_lt_of_le bv (h1.ks ab).1.1))) rfl)⟩⟩
  refine go ?_;refine lI a9 ((h1.ks ab).addr a9) ?_;obtain ⟨_,bw,bx⟩:=(h1.ks ab).atN a9;obtain ⟨_,_,rfl,bz,b0⟩:=Vu bw;obtain ⟨_,_,rfl,b1,b2⟩:=Vu bz;obtain ⟨_,_,rfl,b3,b4⟩:=Vu b1;obtain ⟨rfl,_⟩:=b3;obtain ⟨⟨bc,bd,rfl,ag⟩,_⟩:=b4;obtain ⟨⟨be,bf,rfl,ah⟩,_⟩:=b2;obtain ⟨_,_,rfl,b5,b6⟩:=Vu b0;obtain ⟨_,_,rfl,b7,b8⟩:=Vu b5;obtain ⟨rfl,_⟩:=b7;obtain ⟨⟨bg,bh,rfl,ai⟩,_⟩:=b8;obtain ⟨⟨bi,bj,rfl,aj⟩,_⟩:=b6;refine lV (.agg #[.bool ac.1.1.1,.slice bc ac.1.1.2.length bd,.slice be ac.1.2.length bf,.bool ac.2.1.1,.slice bg ac.2.1.2.length bh,.slice bi ac.2.2.length bj]) (Xt isAgg55 sizeOf55 rfl rfl bx)<|Xl (col:=a0) #[.bool false,.slice none (([]:List Int).length) 0,.slice none (([]:List Int).length) 0,.bool false,.slice none (([]:List Int).length) 0,.slice none (([]:List Int).length) 0] 1 zeroValue55 ?_;intro ci cj aw ax b9;refine Ym rfl<|Z2 b9 ?_;intro ca ay cb ak;refine Zm<|Zw ?_;replace ag:=(ag.gr ax).kp ay;replace ah:=(ah.gr ax).kp ay;replace ai:=(ai.gr ax).kp ay;replace aj:=(aj.gr ax).kp ay;replace hb2:=(hb2.gr ax).kp ay;replace ab:=(ab.grow ax).kp ay cb;refine Wp.cutK [10,2,6,8,9,1000000] (fun f bk=>∃ bm bn,Zb4 af (Qi N aa a8) bn=some r∧St w0 (Zk col) bm bk∧Zo 55 999 bm bk g2 #[.bool aa.1.1.1,.slice am aa.1.1.2.length an,.slice ao aa.1.2.length ap,.bool aa.2.1.1,.slice aq aa.2.1.2.length ar,.slice au aa.2.2.length av]∧[36].map f=[.bool bn]) ?_ ?_
  ·intro f bk hJ;obtain ⟨bm,bn,hm,ab,hb2,hs⟩:=hJ;rw [Zb4.eq_1] at hm;refine .lL [36] hs ?_;refine Zs hm (fun hb hm=>go ?_) fun hb hm=>?_
   ·cases hm;exact ⟨rfl,rfl,ab.below⟩
   refine Yc ?_;exact ⟨rfl,_,hm,ab,hb2⟩
  refine Wv<|X8 ⟨_,_,rfl⟩ ?_;refine lV (.agg #[.bool ac.1.1.1,.slice bc ac.1.1.2.length bd,.slice be ac.1.2.length bf]) (Xt isAgg35 sizeOf35 rfl rfl ((ak.atN).part 0 3 _ rfl))<|X8 ⟨_,_,rfl⟩ ?_;refine lV (.agg #[.bool aa.1.1.1,.slice am aa.1.1.2.length an,.slice ao aa.1.2.length ap]) (Xt isAgg35 sizeOf35 rfl rfl ((hb2.atN).part 0 3 _ rfl)) ?_;obtain ⟨ck,cc,hm⟩:=bZ hm;refine Zi (Zew cc ag ah (a3.ks ab) (a4.ks ab)) ?_;rintro _ bs ⟨rfl,ad⟩;refine ⟨_,rfl,?_⟩;replace ad:Zg aw ca aw bs:=.of_below ad;refine go ?_;replace ag:=ag.gr ad;replace ah:=ah.gr ad;replace ai:=ai.gr ad;replace aj:=aj.gr ad;replace hb2:=hb2.gr ad;replace ak:=ak.gr ad;replace ab:=ab.grow ad;refine X1 hm (fun bo hm=>go ?_) fun bo hm=>go ?_
  ·refine X8 ⟨_,_,rfl⟩ ?_;refine go ?_;refine lV (.agg #[.bool aa.2.1.1,.slice aq aa.2.1.2.length ar,.slice au aa.2.2.length av]) (Xt isAgg35 sizeOf35 rfl rfl ((hb2.atN).part 3 3 _ rfl))<|go ?_;refine X8 ⟨_,_,rfl⟩ ?_;refine go ?_;refine lV (.agg #[.bool ac.2.1.1,.slice bg ac.2.1.2.length bh,.slice bi ac.2.2.length bj]) (Xt isAgg35 sizeOf35 rfl rfl ((ak.atN).part 3 3 _ rfl))<|go ?_;obtain ⟨cd,ce,hm⟩:=bZ hm;refine Zi (Zew ce (a5.ks ab) (a6.ks ab) ai aj) ?_;rintro _ bt ⟨rfl,ae⟩;refine ⟨_,rfl,?_⟩;replace ae:Zg aw bs aw bt:=.of_below ae;refine go ?_;refine lV (.bool (decide (cd≤0))) (Xm (congrArg Value.bool bo) rfl)<|X5 rfl ?_;replace ag:=ag.gr ae;replace ah:=ah.gr ae;replace ai:=ai.gr ae;replace aj:=aj.gr ae;replace hb2:=hb2.gr ae;replace ak:=ak.gr ae;replace ab:=ab.grow ae;refine X1 hm (fun bp hm=>go ?_) fun bp hm=>go ?_
   ·refine X8 ⟨_,_,rfl⟩ ?_;refine go ?_;refine lV (.agg #[.bool ac.1.1.1,.slice bc ac.1.1.2.length bd,.slice be ac.1.2.length bf]) (Xt isAgg35 sizeOf35 rfl rfl ((ak.atN).part 0 3 _ rfl))<|go ?_;refine X8 ⟨_,_,rfl⟩ ?_;refine go ?_;refine lV (.agg #[.bool ac.2.1.1,.slice bg ac.2.1.2.length bh,.slice bi ac.2.2.length bj]) (Xt isAgg35 sizeOf35 rfl rfl ((ak.atN).part 3 3 _ rfl))<|go ?_;obtain ⟨cf,cg,hm⟩:=bZ hm;refine Zi (Zew cg ag ah ai aj) ?_;rintro _ ch ⟨rfl,a2⟩;refine ⟨_,rfl,?_⟩;replace a2:Zg aw bt aw ch:=.of_below a2;refine go ?_;refine lV (.bool (decide (cf<0))) (Xm (congrArg Value.bool bp) rfl)<|Zm ?_;replace hb2:=hb2.gr a2;replace ab:=ab.grow a2;exact ⟨rfl,_,_,hm,ab,hb2,rfl⟩
   refine lV (.bool false) (Xd (congrArg Value.bool bp) rfl)<|Zm ?_;exact ⟨rfl,_,_,hm,ab,hb2,rfl⟩
  refine lV (.bool false) (Xd (congrArg Value.bool bo) rfl)<|X5 rfl<|lP 29 rfl rfl<|lP 29 rfl rfl<|lP 29 rfl rfl<|lP 29 rfl rfl<|lP 29 rfl rfl<|lP 29 rfl rfl<|lV (.bool false) (Xd rfl rfl)<|Zm ?_;exact ⟨rfl,_,_,hm,ab,hb2,rfl⟩

end Go.Proofs.YtlchacnggnhhbaaGreat
