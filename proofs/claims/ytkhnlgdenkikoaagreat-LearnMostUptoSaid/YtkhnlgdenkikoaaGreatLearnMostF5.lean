/-
  What functions of the program compute, as plain Lean functions (m_..), and proofs that they compute it (c_..). Printed by a program of the author; no conditions.
-/
import Derived.Test.YtkhnlgdenkikoaaGreatLearnMostBFloat
import Derived.Test.YtkhnlgdenkikoaaGreatProg
import Derived.Test.YtkhnlgdenkikoaaGreatLearnMostBBrief
import Derived.Test.YtkhnlgdenkikoaaGreatLearnMostBMixD
import Derived.Test.YtkhnlgdenkikoaaGreatLearnMostF4
set_option linter.unusedVariables false
set_option maxRecDepth 100000
set_option maxHeartbeats 2000000
namespace Go.Proofs.YtkhnlgdenkikoaaGreat
open Go Go.RowKit
open Go.IntKind (i8 i16 i32 i64 u8 u16 u32 u64)
open Go.Proofs.Tryz

def Yr:List QV→List Int→Rat
 | [],_=>1
 | _ :: _,[]=>1
 | x :: t,c :: cs=>Xw (Zv x) c.toNat * Yr t cs
def Ul:List QV→List Int→List (Nat×Rat)
 | [],_=>[]
 | _ :: _,[]=>[]
 | x :: t,c :: cs=>(c.toNat,Zv x) :: Ul t cs
theorem Zq7:∀ (t:List QV) (c:List Int),Yr t c=Vo (Ul t c)
 | [],_=>rfl
 | _ :: _,[]=>rfl
 | x :: t,c :: cs=>by rw [Yr,Ul,Vo,Zq7 t cs]
theorem Zq8:∀ (t:List QV) (c:List Int),t.length=c.length→Wk (Ul t c)=X7 c
 | [],[],_=>rfl
 | x :: t,c :: cs,h=>by rw [Ul,Wk,X7,Zq8 t cs (by simpa using h)]
theorem Zyv:∀ (t:List QV) (c:List Int),t.length=c.length→Zel (Ul t c)=Yu t
 | [],[],_=>rfl
 | x :: t,c :: cs,h=>by rw [Ul,Zel,Zjq,Zyv t cs (by simpa using h)]
theorem Zzv (S:Rat):∀ (t:List QV) (c:List Int),t.length=c.length→(∀ x ∈ c,0≤x)→Ul (c.map fun x:Int=>Zw ((x:Rat) / S)) c=(Ul t c).map fun p=>(p.1,(p.1:Rat) / S)
 | [],[],_,_=>rfl
 | x :: t,c :: cs,h,h0=>by
  have hc:=h0 c List.mem_cons_self
  obtain ⟨d,rfl⟩:∃ d:Nat,c=(d:Int):=⟨c.toNat,by omega⟩
  rw [List.map_cons,Ul,Ul,List.map_cons,Zzv S t cs (by simpa using h) fun y hy=>h0 y (List.mem_cons_of_mem _ hy),V3,Int.toNat_natCast]
  rfl
theorem Zzu:∀ (t:List QV) (c:List Int),(∀ x ∈ t,0≤Zv x)→∀ p ∈ Ul t c,0≤p.2
 | [],_,_,p,hp=>by rw [Ul] at hp;cases hp
 | _ :: _,[],_,p,hp=>by rw [Ul] at hp;cases hp
 | x :: t,c :: cs,h,p,hp=>by
  rw [Ul] at hp
  rcases List.mem_cons.1 hp with rfl | hp
  ·exact h x List.mem_cons_self
  ·exact Zzu t cs (fun y hy=>h y (List.mem_cons_of_mem _ hy)) p hp
theorem Znc:∀ (t:List QV) (c:List Int),(∀ x ∈ t,0≤Zv x)→0≤Yr t c
 | [],_,_=>by rw [Yr];decide
 | _ :: _,[],_=>by rw [Yr];decide
 | x :: t,c :: cs,h=>by
  rw [Yr]
  exact Rat.mul_nonneg (Zgt (h x List.mem_cons_self) _) (Znc t cs fun y hy=>h y (List.mem_cons_of_mem _ hy))
theorem Zg4:∀ (t:List QV) (c:List Int),(∀ x ∈ c,x.toNat=0)→Yr t c=1
 | [],_,_=>rfl
 | _ :: _,[],_=>rfl
 | x :: t,c :: cs,h=>by
  rw [Yr,h c List.mem_cons_self,Xw,Rat.one_mul,Zg4 t cs fun y hy=>h y (List.mem_cons_of_mem _ hy)]
theorem Znb:∀ (a b:List QV) (c d:List Int),a.length=c.length→Yr (a++b) (c++d)=Yr a c * Yr b d
 | [],b,[],d,_=>by rw [List.nil_append,List.nil_append,Yr,Rat.one_mul]
 | x :: a,b,c :: cs,d,h=>by
  rw [List.cons_append,List.cons_append,Yr,Yr,Znb a b cs d (by simpa using h),Rat.mul_assoc]
theorem Zy1:∀ (t:List QV) (c:List Int) (i:Nat) (x:QV) (k:Int),t[i]?=some x→c[i]?=some k→0≤k→Yr t (c.set i (k+1))=Yr t c * Zv x
 | [],_,i,x,k,h,_,_=>by simp at h
 | _ :: _,[],i,x,k,_,h,_=>by simp at h
 | y :: t,d :: c,0,x,k,h1,h2,h3=>by
  simp only [List.getElem?_cons_zero,Option.some.injEq] at h1 h2
  subst h1 h2
  rw [List.set_cons_zero,Yr,Yr,show (d+1).toNat=d.toNat+1 by omega,Xw]
  generalize Xw (Zv y) d.toNat=A
  generalize Yr t c=B
  grind
 | y :: t,d :: c,i+1,x,k,h1,h2,h3=>by
  rw [List.set_cons_succ,Yr,Yr,Zy1 t c i x k (by simpa using h1) (by simpa using h2) h3,Rat.mul_assoc]
theorem Zjy:∀ {c:List Int},X7 c=0→∀ x ∈ c,x.toNat=0
 | y :: c,h,x,hx=>by
  rw [X7] at h
  rcases List.mem_cons.1 hx with rfl | hx
  ·omega
  ·exact Zjy (c:=c) (by omega) x hx
theorem Z4r (c:List Int):X9 0 c=c.map fun y:Int=>Zw (y:Rat):=by
 rw [X9]
 refine List.map_congr_left fun x _=>?_
 rw [Rat.add_zero]
theorem Zjx {t:List QV} {c:List Int} (h0:∀ x ∈ c,0≤x):Uc t (X9 0 c)=if X7 c=0 then t else Wy ((X7 c:Nat):Int) c:=by
 have e:=Zw3 c h0
 rw [Uc,Z4r,e]
 by_cases h:X7 c=0
 ·rw [if_pos h,if_pos (by rw [h];rfl)]
 ·have h':¬ ((X7 c:Nat):Rat)=0:=fun h2=>h (Rat.natCast_inj.1 h2)
  rw [if_neg h,if_neg h',Wy,List.map_map]
  refine List.map_congr_left fun x _=>?_
  show Zw (Zv (Zw (x:Rat)) / _)=_
  rw [V3];rfl
theorem Z56 {t t':List QV} {c:List Int} (h0:∀ x ∈ c,0≤x) (hl:t'.length=c.length) (hn:∀ x ∈ t',0≤Zv x) (hs:Yu t'=1):Yr t' c≤Yr (Uc t (X9 0 c)) c:=by
 rw [Zjx h0]
 by_cases h:X7 c=0
 ·rw [if_pos h,Zg4 _ _ (Zjy h),Zg4 _ _ (Zjy h)];exact Rat.le_refl
 ·have g:=Z3n (Ul t' c) (Zzu t' c hn) (by rw [Zyv _ _ hl,hs];exact Rat.le_refl) (by rw [Zq8 _ _ hl];exact h)
  rw [if_neg h,Zq7,Zq7,Wy,Zzv _ t' c hl h0]
  rw [Zq8 _ _ hl] at g
  exact g
theorem Z57 {t t':List QV} {c:List Int} (h0:∀ x ∈ c,0≤x):Yr (Uc t (X9 0 c)) c=Yr (Uc t' (X9 0 c)) c:=by
 rw [Zjx h0,Zjx h0]
 by_cases h:X7 c=0
 ·rw [Zg4 _ _ (Zjy h),Zg4 _ _ (Zjy h)]
 ·rw [if_neg h,if_neg h]
theorem Zvi {a b c d:Rat} (ha:0≤a) (hab:a≤b) (hc:0≤c) (hcd:c≤d):a * c≤b * d:=
 Rat.le_trans (Rat.mul_le_mul_of_nonneg_right hab hc) (Rat.mul_le_mul_of_nonneg_left hcd (Rat.le_trans ha hab))
theorem Z6l (k:Nat) (t:List QV) (c:List Int) (h:t.length=c.length):Yr t c=Yr (t.take k) (c.take k) * Yr (t.drop k) (c.drop k):=by
 have:=Znb (t.take k) (t.drop k) (c.take k) (c.drop k) (by rw [nK,nK,h])
 rw [List.take_append_drop,List.take_append_drop] at this
 exact this
theorem Zy2 {k:Nat}:∀ (m:Nat) (t t':List QV) (c:List Int),t.length=m * k→t'.length=m * k→c.length=m * k→(∀ x ∈ c,0≤x)→(∀ x ∈ t',0≤Zv x)→(∀ j,j<m→Yu ((t'.drop (j * k)).take k)=1)→Yr t' c≤Yr (Wf k m t (X9 0 c)) c
 | 0,t,t',c,h1,h2,h3,_,_,_=>by
  rw [Nat.zero_mul] at h2 h1
  rw [Wf,List.length_eq_zero_iff.1 h2,List.length_eq_zero_iff.1 h1];exact Rat.le_refl
 | m+1,t,t',c,h1,h2,h3,h0,hn,hs=>by
  rw [Nat.add_mul,Nat.one_mul] at h1 h2 h3
  have hq:(X9 0 c).length=c.length:=by rw [X9,List.length_map]
  have l1:(Uc (t.take k) ((X9 0 c).take k)).length=k:=by rw [Zyh (by rw [nK,nK];omega),nK];omega
  have a0:∀ x ∈ c.take k,0≤x:=fun x hx=>h0 x (List.mem_of_mem_take hx)
  have b0:∀ x ∈ c.drop k,0≤x:=fun x hx=>h0 x (List.mem_of_mem_drop hx)
  have an:∀ x ∈ t'.take k,0≤Zv x:=fun x hx=>hn x (List.mem_of_mem_take hx)
  have bn:∀ x ∈ t'.drop k,0≤Zv x:=fun x hx=>hn x (List.mem_of_mem_drop hx)
  have s0:=hs 0 (by omega)
  rw [Nat.zero_mul,List.drop_zero] at s0
  have r1:=Z56 (t:=t.take k) a0 (by rw [nK,nK];omega) an s0
  have ih:=Zy2 (k:=k) m (t.drop k) (t'.drop k) (c.drop k) (by rw [List.length_drop];omega) (by rw [List.length_drop];omega) (by rw [List.length_drop];omega) b0 bn fun j hj=>by
   have:=hs (j+1) (by omega)
   rw [show (j+1) * k=k+j * k by rw [Nat.add_mul,Nat.one_mul,Nat.add_comm],← List.drop_drop] at this
   exact this
  have e:Yr (Wf k (m+1) t (X9 0 c)) c=Yr (Uc (t.take k) (X9 0 (c.take k))) (c.take k) * Yr (Wf k m (t.drop k) (X9 0 (c.drop k))) (c.drop k):=by
   have:=Znb (Uc (t.take k) ((X9 0 c).take k)) (Wf k m (t.drop k) ((X9 0 c).drop k)) (c.take k) (c.drop k) (by rw [l1,nK];omega)
   rw [List.take_append_drop] at this
   rw [Wf,this,Zmn,Zmm]
  rw [e,Z6l k t' c (by omega)]
  exact Zvi (Znc _ _ an) r1 (Znc _ _ bn) ih
theorem Zy3 {k:Nat}:∀ (m:Nat) (t t':List QV) (c:List Int),t.length=m * k→t'.length=m * k→c.length=m * k→(∀ x ∈ c,0≤x)→Yr (Wf k m t (X9 0 c)) c=Yr (Wf k m t' (X9 0 c)) c
 | 0,t,t',c,h1,h2,_,_=>by
  rw [Nat.zero_mul] at h2 h1
  rw [Wf,Wf,List.length_eq_zero_iff.1 h2,List.length_eq_zero_iff.1 h1]
 | m+1,t,t',c,h1,h2,h3,h0=>by
  rw [Nat.add_mul,Nat.one_mul] at h1 h2 h3
  have hq:(X9 0 c).length=c.length:=by rw [X9,List.length_map]
  have a0:∀ x ∈ c.take k,0≤x:=fun x hx=>h0 x (List.mem_of_mem_take hx)
  have b0:∀ x ∈ c.drop k,0≤x:=fun x hx=>h0 x (List.mem_of_mem_drop hx)
  have ih:=Zy3 (k:=k) m (t.drop k) (t'.drop k) (c.drop k) (by rw [List.length_drop];omega) (by rw [List.length_drop];omega) (by rw [List.length_drop];omega) b0
  have e:∀ u:List QV,u.length=m * k+k→Yr (Wf k (m+1) u (X9 0 c)) c=Yr (Uc (u.take k) (X9 0 (c.take k))) (c.take k) * Yr (Wf k m (u.drop k) (X9 0 (c.drop k))) (c.drop k):=fun u hu=>by
   have l1:(Uc (u.take k) ((X9 0 c).take k)).length=k:=by rw [Zyh (by rw [nK,nK];omega),nK];omega
   have:=Znb (Uc (u.take k) ((X9 0 c).take k)) (Wf k m (u.drop k) ((X9 0 c).drop k)) (c.take k) (c.drop k) (by rw [l1,nK];omega)
   rw [List.take_append_drop] at this
   rw [Wf,this,Zmn,Zmm]
  rw [e t h1,e t' h2,Z57 a0 (t':=t'.take k),ih]
/-! all observations -/
def Zcl (n:Zr) (w:List Int):Nat→Nat→Rat
 | 0,_=>1
 | m+1,k=>ent n w k * Zcl n w m (k+1)
theorem Zwl (n:Zr) (w:List Int):∀ m k q,Va n w m k q=q * Zcl n w m k
 | 0,k,q=>by rw [Va,Zcl,Rat.mul_one]
 | m+1,k,q=>by rw [Va,Zwl n w m,Zcl,Rat.mul_assoc]
def W4 (n:Zr):List R5→Rat
 | []=>1
 | w :: r=>Va n w n.2.1.length 0 1 * W4 n r
def W1 (n:Zr) (T:List (List QV)) (r:List R5):Nat→Nat→Rat
 | 0,_=>1
 | m+1,v=>Yr (T.getD v []) (Yd n v r) * W1 n T r m (v+1)
section
variable {N:Nat} {n:Zr} (hf:Yo N n) {T:List (List QV)} (h:Zag n T)
include hf h
theorem Zzn {row:List Int} (hw:Yp n row) (r:List R5):∀ m v,v+m≤n.2.1.length→W1 n T (r++[row]) m v=W1 n T r m v * Zcl (Z7 n T) row m v
 | 0,v,_=>by rw [W1,W1,Zcl,Rat.mul_one]
 | m+1,v,hv=>by
  obtain ⟨h1,h2,h3⟩:=Z2g hf hw (v:=v) (by omega) r
  have hp:=Zqa hf (v:=v) (by omega) hw
  have hz:=h.sz v (by omega)
  have e:=Z50 (T:=T) h1
  have hlt:Wx n row v * cnt n v+(row.getD v 0).toNat<(T.getD v []).length:=by rw [hz];exact hp
  rw [W1,W1,Zcl,Zzn hw r m (v+1) (by omega),h3,Zy1 _ _ _ _ _ (List.getElem?_eq_getElem hlt) h2 (by omega),e,Xx hlt]
  generalize Yr (T.getD v []) (Yd n v r)=A
  generalize W1 n T r m (v+1)=B
  generalize Zcl (Z7 n T) row m (v+1)=C
  generalize Zv (T.getD v [])[Wx n row v * cnt n v+(row.getD v 0).toNat]=D
  grind
omit hf h in
theorem Zzo:∀ m v,W1 n T [] m v=1
 | 0,v=>rfl
 | m+1,v=>by
  rw [W1,Zzo m (v+1),Rat.mul_one,← Zso]
  exact Zg4 _ _ fun x hx=>by rw [List.eq_of_mem_replicate hx];rfl
theorem Zx7:∀ (r pre:List R5),(∀ row ∈ r,Yp n row)→W1 n T pre n.2.1.length 0 * W4 (Z7 n T) r=W1 n T (pre++r) n.2.1.length 0
 | [],pre,_=>by rw [W4,Rat.mul_one,List.append_nil]
 | row :: r,pre,hr=>by
  have hn:=Zzn hf h (hr row List.mem_cons_self) pre n.2.1.length 0 (by omega)
  have ih:=Zx7 r (pre++[row]) fun x hx=>hr x (List.mem_cons_of_mem _ hx)
  rw [List.append_assoc,List.singleton_append,hn] at ih
  rw [W4,Zwl,Rat.one_mul,← ih,Rat.mul_assoc];rfl
theorem Zm7 {r:List R5} (hr:∀ row ∈ r,Yp n row):W4 (Z7 n T) r=W1 n T r n.2.1.length 0:=by
 have:=Zx7 hf h r [] hr
 rwa [Zzo,Rat.one_mul,List.nil_append] at this
omit hf h in
theorem Zzm {T':List (List QV)} {r:List R5} (hn:∀ v,v<n.2.1.length→∀ x ∈ T.getD v [],0≤Zv x) (hle:∀ v,v<n.2.1.length→Yr (T.getD v []) (Yd n v r)≤Yr (T'.getD v []) (Yd n v r)):∀ m v,v+m≤n.2.1.length→0≤W1 n T r m v∧W1 n T r m v≤W1 n T' r m v
 | 0,v,_=>by rw [W1,W1];exact ⟨by decide,Rat.le_refl⟩
 | m+1,v,hv=>by
  obtain ⟨i1,i2⟩:=Zzm hn hle m (v+1) (by omega)
  have a:=Znc (T.getD v []) (Yd n v r) (hn v (by omega))
  rw [W1,W1]
  exact ⟨Rat.mul_nonneg a i1,Zvi a (hle v (by omega)) i1 i2⟩
end
theorem Y8.wide {n:Zr} {W k:Nat} (h:Y8 n W):Y8 n (W+k):=⟨h.nm,h.vl,h.pn,h.tl,fun t ht=>Nat.le_trans (h.tq t ht) (by omega),h.lim⟩
theorem Y8.le {n:Zr} {W V:Nat} (h:Y8 n W) (hV:W≤V):Y8 n V:=⟨h.nm,h.vl,h.pn,h.tl,fun t ht=>Nat.le_trans (h.tq t ht) hV,h.lim⟩
/-! what is learnt -/
structure Zaf (b k m:Nat) (l:List QV):Prop where
 len:l.length=m * k
 ent:∀ x ∈ l,0≤Zv x∧Zv x≤1∧RV b x
 row:∀ j,j<m→Yu ((l.drop (j * k)).take k)=1
theorem Zaf.cons {b k m:Nat} {R l:List QV} (hR:∀ x ∈ R,0≤Zv x∧Zv x≤1∧RV b x) (hs:Yu R=1) (hl:R.length=k) (h:Zaf b k m l):Zaf b k (m+1) (R++l) where
 len:=by rw [nA,hl,h.len,Nat.add_mul,Nat.one_mul,Nat.add_comm]
 ent:=fun x hx=>(List.mem_append.1 hx).elim (hR x) (h.ent x)
 row:=fun j hj=>by
  cases j with
  | zero=>rw [Nat.zero_mul,List.drop_zero,List.take_append_of_le_length (by omega),List.take_of_length_le (by omega)];exact hs
  | succ j=>
   have:=h.row j (by omega)
   rw [show (j+1) * k=k+j * k by rw [Nat.add_mul,Nat.one_mul,Nat.add_comm],← List.drop_drop,List.drop_left' hl]
   exact this
theorem Zw2:∀ l:List QV,Yu (l.map Y9)=Yu l
 | []=>rfl
 | x :: l=>by rw [List.map_cons,Zjq,Zjq,Zst,Zw2 l]
theorem Ztc {b k:Nat} (hb:1≤b) (hk1:1≤k) (hk:k≤65536):∀ (m:Nat) (t:List QV) (c:List Int),t.length=m * k→c.length=m * k→(∀ x ∈ c,0≤x∧x≤12)→(∀ x ∈ t,0≤Zv x∧Zv x≤1∧RV b (Y9 x))→(∀ j,j<m→Yu ((t.drop (j * k)).take k)=1)→Zaf b k m (Wf k m (t.map Y9) (X9 0 c))
 | 0,t,c,h1,_,_,_,_=>by
  rw [Nat.zero_mul] at h1
  rw [Wf,List.length_eq_zero_iff.1 h1]
  exact ⟨by rw [Nat.zero_mul];rfl,fun x hx=>(by cases hx),fun j hj=>(by omega)⟩
 | m+1,t,c,h1,h2,hc,ht,hs=>by
  rw [Nat.add_mul,Nat.one_mul] at h1 h2
  have hcl:(c.take k).length=k:=by rw [nK];omega
  have hct:∀ x ∈ c.take k,0≤x∧x≤12:=fun x hx=>hc x (List.mem_of_mem_take hx)
  have s0:=hs 0 (by omega)
  rw [Nat.zero_mul,List.drop_zero] at s0
  have ih:=Ztc hb hk1 hk m (t.drop k) (c.drop k) (by rw [List.length_drop];omega) (by rw [List.length_drop];omega) (fun x hx=>hc x (List.mem_of_mem_drop hx)) (fun x hx=>ht x (List.mem_of_mem_drop hx)) fun j hj=>by
   have:=hs (j+1) (by omega)
   rw [show (j+1) * k=k+j * k by rw [Nat.add_mul,Nat.one_mul,Nat.add_comm],← List.drop_drop] at this
   exact this
  rw [Wf,Zmn,Zmm,Zjx fun x hx=>(hct x hx).1,← List.map_take,← List.map_drop]
  by_cases h:X7 (c.take k)=0
  ·rw [if_pos h]
   refine Zaf.cons (fun x hx=>?_) (by rw [Zw2];exact s0) (by rw [List.length_map,nK];omega) ih
   obtain ⟨y,hy,rfl⟩:=List.mem_map.1 hx
   have:=ht y (List.mem_of_mem_take hy)
   rw [Zst];exact this
  ·have hl:=Zg3 (c:=12) (c.take k) fun x hx=>(hct x hx).2
   have g:=Zqy (s:=((X7 (c.take k):Nat):Int)) (l:=c.take k) (fun x hx=>(hct x hx).1) rfl (by omega) (by omega)
   rw [if_neg h]
   exact Zaf.cons (fun x hx=>⟨(g.ent x hx).1,(g.ent x hx).2.1,(g.ent x hx).2.2.mono hb⟩) g.sum (by rw [Wy,List.length_map,hcl]) ih
theorem Ztb {k:Nat}:∀ (m:Nat) (t:List QV) (c:List Int),t.length=m * k→c.length=m * k→(∀ x ∈ c,0≤x∧x≤12)→k≤65536→Xn (Wf k m t (X9 0 c))≤Xn t+3 * t.length
 | 0,t,c,_,_,_,_=>by rw [Wf];omega
 | m+1,t,c,h1,h2,hc,hk=>by
  rw [Nat.add_mul,Nat.one_mul] at h1 h2
  have hcl:(c.take k).length=k:=by rw [nK];omega
  have hct:∀ x ∈ c.take k,0≤x∧x≤12:=fun x hx=>hc x (List.mem_of_mem_take hx)
  have ih:=Ztb (k:=k) m (t.drop k) (c.drop k) (by rw [List.length_drop];omega) (by rw [List.length_drop];omega) (fun x hx=>hc x (List.mem_of_mem_drop hx)) hk
  have hq:=Zmz (t.take k) (t.drop k)
  rw [List.take_append_drop] at hq
  rw [List.length_drop] at ih
  rw [Wf,Zmn,Zmm,Zjx fun x hx=>(hct x hx).1,Zmz]
  by_cases h:X7 (c.take k)=0
  ·rw [if_pos h];omega
  ·have hl:=Zg3 (c:=12) (c.take k) fun x hx=>(hct x hx).2
   have g:=Zqy (s:=((X7 (c.take k):Nat):Int)) (l:=c.take k) (fun x hx=>(hct x hx).1) rfl (by omega) (by omega)
   have h3:=Zmy (b:=1) (Wy ((X7 (c.take k):Nat):Int) (c.take k)) fun x hx=>(g.ent x hx).2.2
   have h4:(Wy ((X7 (c.take k):Nat):Int) (c.take k)).length=k:=by rw [Wy,List.length_map,hcl]
   rw [h4] at h3
   rw [if_neg h];omega
section
variable {N W:Nat} {n:Zr} (hf:Yo N n) (hs:Y8 n W) {r:List R5} (hl:r.length≤12)
include hf hs hl
omit hs in
theorem Ztd {v:Nat} (hv:v<n.2.1.length) {b:Nat} (hb:1≤b) (hx:∀ x ∈ n.2.2.2.2.getD v [],RV b (Y9 x)):Zaf b (cnt n v) (Vb n v) ((X4 n r 0).getD v []):=by
 obtain ⟨c1,c2,c3⟩:=hf.rows hv
 have hcp:=Zah hf.ev hv
 have hrw:0<Vb n v:=Zg1 hf.ev (n.2.2.2.1.getD v []) 1 (hf.pars hv) (by omega)
 have hkb:cnt n v≤65536:=by
  have:=Nat.le_mul_of_pos_left (cnt n v) hrw
  rw [Vb] at this;omega
 rw [Zez hv]
 exact Ztc hb hcp hkb _ _ _ c1.symm (by rw [Yd,List.length_map,List.length_range];exact c1.symm) (Zhp hl) (fun x h=>⟨(hf.ent hv x h).1,(hf.ent hv x h).2,hx x h⟩) ((Zy4 hf).row v hv)
omit hl in
theorem Zs8 {v:Nat} (hv:v<n.2.1.length):∀ x ∈ n.2.2.2.2.getD v [],qs (Zv x)≤Xn (n.2.2.2.2.getD v [])+1:=fun x hx=>by
 have h2:=(Zkt hf hs hv x hx).1
 have h3:=Zej (Zg2 h2.1 h2.2)
 have h4:=Zwy hx
 omega
theorem Zc1 {v:Nat} (hv:v<n.2.1.length):Zaf (Xn (n.2.2.2.2.getD v [])+1) (cnt n v) (Vb n v) ((X4 n r 0).getD v []):=
 Ztd hf hl hv (by omega) fun x hx=>Su (Zs8 hf hs hv x hx)
theorem Zta:Zag n (X4 n r 0) where
 len:=by rw [X4,List.length_map,List.length_range]
 sz:=fun v hv=>(Zc1 hf hs hl hv).len.trans (hf.rows hv).1
 ent:=fun v hv x hx=>⟨((Zc1 hf hs hl hv).ent x hx).1,((Zc1 hf hs hl hv).ent x hx).2.1⟩
 row:=fun v hv=>(Zc1 hf hs hl hv).row
theorem Z3d (hcp:∀ t ∈ n.2.2.2.2,Xn (t.map Y9)≤W):Y8 (Z7 n (X4 n r 0)) (W+196608):=by
 have hlen:(X4 n r 0).length=n.2.1.length:=by rw [X4,List.length_map,List.length_range]
 have get:∀ t ∈ X4 n r 0,∃ v,v<n.2.1.length∧t=(X4 n r 0).getD v []:=fun t ht=>by
  obtain ⟨v,hv,rfl⟩:=List.getElem_of_mem ht
  exact ⟨v,by omega,(Xx hv).symm⟩
 refine Zxq hs.wide (fun t ht=>?_) (fun t ht=>?_) fun t ht x hx=>?_
 ·obtain ⟨v,hv,rfl⟩:=get t ht
  have h1:=(Zc1 hf hs hl hv (r:=r)).len
  obtain ⟨c1,c2,_⟩:=hf.rows hv
  rw [Vb] at h1;omega
 ·obtain ⟨v,hv,rfl⟩:=get t ht
  obtain ⟨c1,c2,c3⟩:=hf.rows hv
  have hcp0:=Zah hf.ev hv
  have hrw:0<Vb n v:=Zg1 hf.ev (n.2.2.2.1.getD v []) 1 (hf.pars hv) (by omega)
  have hkb:cnt n v≤65536:=by
   have:=Nat.le_mul_of_pos_left (cnt n v) hrw
   rw [Vb] at this;omega
  have htv:v<n.2.2.2.2.length:=by rw [hf.ev.t];exact hv
  have h2:=hcp _ (List.getElem_mem htv)
  have h3:=Ztb (k:=cnt n v) (Vb n v) ((n.2.2.2.2.getD v []).map Y9) (Yd n v r) (by rw [List.length_map];exact c1.symm) (by rw [Yd,List.length_map,List.length_range];exact c1.symm) (Zhp hl) hkb
  rw [List.length_map] at h3
  rw [Zez hv]
  rw [← Xx (d:=[]) htv] at h2
  omega
 ·obtain ⟨v,hv,rfl⟩:=get t ht
  have:=((Zc1 hf hs hl hv).ent x hx).2.2
  exact ⟨this.m,this.d⟩
omit hs in
theorem Zvb {T:List (List QV)} (h:Zag n T) (h0:Zag n (X4 n r 0)) (hr:∀ row ∈ r,Yp n row):W4 (Z7 n T) r≤W4 (Z7 n (X4 n r 0)) r:=by
 rw [Zm7 hf h hr,Zm7 hf h0 hr]
 refine (Zzm (fun v hv x hx=>(h.ent v hv x hx).1) (fun v hv=>?_) n.2.1.length 0 (by omega)).2
 have c1:=(hf.rows hv).1
 rw [Zez hv]
 exact Zy2 _ _ _ _ (by rw [List.length_map];exact c1.symm) ((h.sz v hv).trans c1.symm) (by rw [Yd,List.length_map,List.length_range];exact c1.symm) (fun x hx=>(Zhp hl x hx).1) (fun x hx=>(h.ent v hv x hx).1) (h.row v hv)
end
/-! other tables:what is learnt is as likely -/
theorem Z2h {n:Zr} {T:List (List QV)} (h:Zag n T) {v:Nat} (hv:v<n.2.1.length) (r:List R5):Yd (Z7 n T) v r=Yd n v r:=by
 have e:∀ w,W9 (Z7 n T) v w=W9 n v w:=fun w=>by rw [W9,W9,Zxp];rfl
 rw [Yd,Yd]
 show (List.range (T.getD v []).length).map _=_
 rw [h.sz v hv]
 refine List.map_congr_left fun i _=>?_
 simp only [e]
theorem Zvc {N:Nat} {n:Zr} (hf:Yo N n) {T:List (List QV)} (h:Zag n T) {r:List R5} (hl:r.length≤12):∀ m v,v+m≤n.2.1.length→W1 (Z7 n T) (X4 (Z7 n T) r 0) r m v=W1 n (X4 n r 0) r m v
 | 0,v,_=>rfl
 | m+1,v,hv=>by
  have hv2:v<(Z7 n T).2.1.length:=by show v<n.2.1.length;omega
  have c1:=(hf.rows (v:=v) (by omega)).1
  rw [W1,W1,Zvc hf h hl m (v+1) (by omega),Zez hv2,Zez (n:=n) (by omega),Z2h h (by omega)]
  congr 1
  exact Zy3 _ _ _ _ (by rw [List.length_map];exact (h.sz v (by omega)).trans c1.symm) (by rw [List.length_map];exact c1.symm) (by rw [Yd,List.length_map,List.length_range];exact c1.symm) (fun x hx=>(Zhp hl x hx).1)
def Zhw (N:Nat) (rc:(R0→R5→Int→Option Rd)) (aa:R0) (ab:Int) (ag:List ByteArray):Nat→R5→Int→Bool→R5→R5→Option Rd
  | 0,_,_,_,_,_=>none
  | ak+1,ac,ae,ah,ai,aj=>if (decide (ae<(ag.length:Int)))=true then ((Zm ac ab).bind fun an=>(some (ac.set (Int.toNat ab) ae)).bind fun al=>(rc (aa.1,aa.2.1,aa.2.2.1,aa.2.2.2.1,aa.2.2.2.2) al (i64.wrap (ab+1))).bind fun ad=>(S4 N ((ah,ai),aj) ((ad.1.1.1,ad.1.1.2),ad.1.2)).bind fun af=>(Zhw N rc aa ab ag ak) ad.2 (i64.wrap (ae+1)) af.1.1 af.1.2 af.2) else ((Zm ac ab).bind fun ao=>(some (ac.set (Int.toNat ab) (-1))).bind fun am=>some (((ah,ai),aj),am))
termination_by structural x=>x
def Zc7 (N:Nat) (rc:(R0→R5→Int→Option Rd)) (aa:R0):Nat→R5→Bool→R5→R5→Int→Option Rd
  | 0,_,_,_,_,_=>none
  | af+1,ab,ag,ah,ai,ac=>if (decide (ac<(ab.length:Int)))=true then ((Zm ab ac).bind fun aj=>if (decide (0≤aj))=true then ((Zc7 N rc aa af) ab ag ah ai (i64.wrap (ac+1))) else ((Zda N ([]:List R4)).bind fun ad=>(Zm aa.2.2.1 ac).bind fun ak=>Zhw N rc aa ac ak N ab 0 ad.1.1 ad.1.2 ad.2)) else ((Zdm N (aa.1,aa.2.1,aa.2.2.1,aa.2.2.2.1,aa.2.2.2.2) ab).bind fun ae=>some (((ae.1.1.1,ae.1.1.2),ae.1.2),ab))
termination_by structural x=>x
def Zk7 (N:Nat) (rc:(R0→R5→Int→Option Rd)) (aa:R0) (ab:List Int) (ac:Int):Option Rd:=
  Zc7 N rc aa N ab false ([]:List Int) ([]:List Int) ac
theorem Z0f (N:Nat) (rc:(R0→R5→Int→Option Rd)) (IH:∀ (c1:Nat) (c2:Nat) (col:Ze) (w0:World) (qc1:Nat) (hd:V9 [qc1]=true) (ay:Option Addr) (az:Nat) (a0:Option Addr) (a2:Nat) (a3:Option Addr) (a4:Nat) (a5:Option Addr) (a6:Nat) (ab:R0) (a1:Option Addr) (ag:Nat) (ai:List Int) (br:Int) (bs:Sl Za.str col w0 ay az ab.2.1) (bg:Sl (Za.slice Za.str) col w0 a0 a2 ab.2.2.1) (bt:Sl (Za.slice (Za.int .i64)) col w0 a3 a4 ab.2.2.2.1) (bu:Sl (Za.slice (Za.pair (Za.pair Za.bool (Za.slice (Za.int .u32))) (Za.slice (Za.int .u32)))) col w0 a5 a6 ab.2.2.2.2) (h1:Zb (Za.int .i64) 3 qc1 col w0 a1 ag ai) (r:Rd) (hm:rc ab ai br=some r),Calls prog 108 #[(.agg #[.string ab.1,.slice ay ab.2.1.length az,.slice a0 ab.2.2.1.length a2,.slice a3 ab.2.2.2.1.length a4,.slice a5 ab.2.2.2.2.length a6]),.slice a1 ai.length ag,.int .i64 br] w0 (fun e w'=>∃ (col':Ze) (ra1:Option Addr) (rc2:Nat) (ra4:Option Addr) (rc5:Nat),e= .returned ((.agg #[.bool r.1.1.1,.slice ra1 r.1.1.2.length rc2,.slice ra4 r.1.2.length rc5]))∧Zq (pS [qc1]) col w0 col' w'∧Zb (Za.int .u32) 95 c1 col' w' ra1 rc2 r.1.1.2∧Zb (Za.int .u32) 95 c2 col' w' ra4 rc5 r.1.2∧Zb (Za.int .i64) 3 qc1 col' w' a1 ag r.2∧r.2.length=ai.length)) (c1:Nat) (c2:Nat) (col:Ze) (w0:World) (qc1:Nat) (hd:V9 [qc1]=true) (ay:Option Addr) (az:Nat) (a0:Option Addr) (a2:Nat) (a3:Option Addr) (a4:Nat) (a5:Option Addr) (a6:Nat) (ab:R0) (a1:Option Addr) (ag:Nat) (ai:List Int) (br:Int) (bs:Sl Za.str col w0 ay az ab.2.1) (bg:Sl (Za.slice Za.str) col w0 a0 a2 ab.2.2.1) (bt:Sl (Za.slice (Za.int .i64)) col w0 a3 a4 ab.2.2.2.1) (bu:Sl (Za.slice (Za.pair (Za.pair Za.bool (Za.slice (Za.int .u32))) (Za.slice (Za.int .u32)))) col w0 a5 a6 ab.2.2.2.2) (h1:Zb (Za.int .i64) 3 qc1 col w0 a1 ag ai) (r:Rd) (hm:Zk7 N rc ab ai br=some r):
    Calls prog 108 #[(.agg #[.string ab.1,.slice ay ab.2.1.length az,.slice a0 ab.2.2.1.length a2,.slice a3 ab.2.2.2.1.length a4,.slice a5 ab.2.2.2.2.length a6]),.slice a1 ai.length ag,.int .i64 br] w0 (fun e w'=>∃ (col':Ze) (ra1:Option Addr) (rc2:Nat) (ra4:Option Addr) (rc5:Nat),e= .returned ((.agg #[.bool r.1.1.1,.slice ra1 r.1.1.2.length rc2,.slice ra4 r.1.2.length rc5]))∧Zq (pS [qc1]) col w0 col' w'∧Zb (Za.int .u32) 95 c1 col' w' ra1 rc2 r.1.1.2∧Zb (Za.int .u32) 95 c2 col' w' ra4 rc5 r.1.2∧Zb (Za.int .i64) 3 qc1 col' w' a1 ag r.2∧r.2.length=ai.length):=by
 refine Y5 (m:=57) func108 rfl rfl rfl ?_;rw [Zk7.eq_1] at hm;have aa:=St.startL (l:=[qc1]) rfl col w0;replace bs:=bs.keep (Zi.startL [qc1] col w0);replace bg:=bg.keep (Zi.startL [qc1] col w0);replace bt:=bt.keep (Zi.startL [qc1] col w0);replace bu:=bu.keep (Zi.startL [qc1] col w0);replace h1:=h1.startL (U6 hd 0 rfl) (U5 hd 0 rfl);refine go ?_;refine Xl (col:=(Xc [qc1] col)) 1 rfl ?_;intro c3 ed dg c4 ac;refine Xg (col:=dg) #[.bool false,.slice none (([]:List Int).length) 0,.slice none (([]:List Int).length) 0] 2 zeroValue39 ?_;intro c5 ee ef cl ad;refine go ?_;replace h1:=(h1.gr c4).gr cl;replace aa:=(aa.grow c4).grow cl;replace ac:=ac.gr cl;refine Zu [3,6,1000000] (fun n f a9=>∃ al bj b9 bv bw bk bx bz bm aq bn,bn=n∧Zc7 N rc ab bn bj b9 bk bm aq=some r∧St w0 (Xc [qc1] col) al a9∧Zb (Za.int .i64) 3 440 al a9 a1 ag bj∧bj.length=ai.length∧Zf 27 1 al a9 c3 #[.string ab.1,.slice ay ab.2.1.length az,.slice a0 ab.2.2.1.length a2,.slice a3 ab.2.2.2.1.length a4,.slice a5 ab.2.2.2.2.length a6]∧Zb (Za.int .u32) 95 3 al a9 bv bw bk∧Zb (Za.int .u32) 95 4 al a9 bx bz bm∧Zf 39 2 al a9 c5 #[.bool b9,.slice bv bk.length bw,.slice bx bm.length bz]∧bj.length=ai.length∧[1,7].map f=[.slice a1 bj.length ag,.int .i64 aq]) N ⟨_,_,_,none,0,_,none,0,_,_,_,rfl,hm,aa,h1,rfl,ac,Zb.nil,Zb.nil,ad,rfl,rfl⟩ ?_;clear hm;intro n f a9 hI;obtain ⟨al,bj,b9,bv,bw,bk,bx,bz,bm,aq,bn,hn,hm,aa,ar,c6,ac,ae,af,ad,cn,hs⟩:=hI;subst hn;refine .lL [1,7] hs ?_
 cases bn with
 | zero=>rw [Zc7.eq_1] at hm;cases hm
 | succ bn=>
  rw [Zc7.eq_2] at hm;refine go ?_;refine Zo hm (fun hb hm=>go ?_) fun hb hm=>go ?_
  ·obtain ⟨eg,co,hm⟩:=bZ hm;refine lI co (ar.addr co)<|lW (ar.atInt co) ?_;refine go ?_;refine Zo hm (fun hb hm=>go ?_) fun hb hm=>go ?_
   ·exact ⟨bn,by omega,rfl,⟨_,_,_,_,_,_,_,_,_,_,_,rfl,hm,aa,ar,c6,ac,ae,af,ad,cn,rfl⟩⟩
   obtain ⟨eh,dh,hm⟩:=bZ hm;refine Zk (Znw (col:=al) 5 6 dh Sl.nil) ?_;rintro _ ei ⟨di,ej,ek,el,em,rfl,bo,cp,cq⟩;refine ⟨_,rfl,?_⟩;refine Xg (col:=di) #[.bool false,.slice none (([]:List Int).length) 0,.slice none (([]:List Int).length) 0] 7 zeroValue39 ?_;intro dj en eo ba dl;refine Zz dl ?_;intro ep bb dm ah;refine go ?_;refine Ya ⟨_,_,rfl⟩ ?_;replace ac:=((ac.gr bo).gr ba).kp bb;refine lW ((ac.atN).nth (q:=2) rfl)<|Xp rfl ?_;obtain ⟨dn,cr,hm⟩:=bZ hm;replace aa:=((aa.grow bo).grow ba).kp bb dm;refine lI cr ((bg.ks aa).addr cr) ?_;obtain ⟨_,dp,dq⟩:=(bg.ks aa).atN cr;obtain ⟨⟨eq,er,rfl,es⟩,_⟩:=dp;refine lW dq.one<|go ?_;replace ar:=((ar.gr bo).gr ba).kp bb;replace ae:=((ae.gr bo).gr ba).kp bb;replace af:=((af.gr bo).gr ba).kp bb;replace ad:=((ad.gr bo).gr ba).kp bb;replace cp:=(cp.gr ba).kp bb;replace cq:=(cq.gr ba).kp bb;refine Zu [3,30,6,7,8,1000000] (fun n f au=>∃ aj am b0 ca cb cc b1 cd ce b2 bp,bp=n∧Zhw N rc ab aq dn bp am b0 ca b1 b2=some r∧St w0 (Xc [qc1] col) aj au∧Zb (Za.int .i64) 3 440 aj au a1 ag am∧am.length=ai.length∧Zf 27 1 aj au c3 #[.string ab.1,.slice ay ab.2.1.length az,.slice a0 ab.2.2.1.length a2,.slice a3 ab.2.2.2.1.length a4,.slice a5 ab.2.2.2.2.length a6]∧Zb (Za.int .u32) 95 3 aj au bv bw bk∧Zb (Za.int .u32) 95 4 aj au bx bz bm∧Zf 39 2 aj au c5 #[.bool b9,.slice bv bk.length bw,.slice bx bm.length bz]∧Zb (Za.int .u32) 95 5 aj au cb cc b1∧Zb (Za.int .u32) 95 6 aj au cd ce b2∧Zf 39 7 aj au dj #[.bool ca,.slice cb b1.length cc,.slice cd b2.length ce]∧am.length=ai.length∧[1,31].map f=[.slice a1 am.length ag,.int .i64 b0]) N ⟨_,_,0,_,_,_,_,_,_,_,_,rfl,hm,aa,ar,c6,ac,ae,af,ad,cp,cq,ah,cn,rfl⟩ ?_;clear hm;intro n f au hI;obtain ⟨aj,am,b0,ca,cb,cc,b1,cd,ce,b2,bp,hn,hm,aa,cf,dr,ac,ae,af,ad,av,aw,ah,ds,hs⟩:=hI;subst hn;refine .lL [1,31] hs ?_
   cases bp with
   | zero=>rw [Zhw.eq_1] at hm;cases hm
   | succ bp=>
    rw [Zhw.eq_2] at hm;refine go ?_;refine Zo hm (fun hb hm=>go ?_) fun hb hm=>go ?_
    ·obtain ⟨et,cs,hm⟩:=bZ hm;refine lI cs (cf.addr cs) ?_;obtain ⟨a7,b3,hm⟩:=bZ hm;have b3:a7=am.set (Int.toNat aq) b0:=(Option.some.inj b3).symm;refine Y6 (x1:=b0) cf cs ?_;intro dt bc du cg;rw [← b3] at cg;have dv:a7.length=ai.length:=(show am.length=a7.length by rw [b3,nS]).symm.trans dr;refine .ld (d:=1) (v:=(.slice a1 a7.length ag)) (congrArg (fun n=>Value.slice a1 n ag) (show am.length=a7.length by rw [b3,nS])) ?_;refine Zl<|Zni (col:=aj) (pS [440]) [(0,5),(1,0),(2,1),(3,1),(4,1),(5,4),(6,3),(7,2)] (by kernel_rfl) (by kernel_rfl) ?_;replace ah:=ah.kp bc;refine Znm (v:=(.agg #[.bool ca,.slice cb b1.length cc,.slice cd b2.length ce])) rfl rfl (fun _ hC=>Wj isAgg39 sizeOf39 rfl rfl (ah.dk hC rfl rfl).atN) ?_;replace ac:=ac.kp bc;refine Zg6 (v:=(.agg #[.string ab.1,.slice ay ab.2.1.length az,.slice a0 ab.2.2.1.length a2,.slice a3 ab.2.2.2.1.length a4,.slice a5 ab.2.2.2.2.length a6])) rfl rfl (fun _ hC=>Wj isAgg27 sizeOf27 rfl rfl (ac.atN.gr (hC.bl aj))) ?_;refine Uk (v:=(.slice a1 a7.length ag)) rfl rfl (fun _=>Vi rfl) ?_;refine Uk (v:=(.int .i64 aq)) rfl rfl (fun _=>Vi rfl) ?_;refine Uk (v:=(.int .i64 (i64.wrap (aq+1)))) rfl rfl (fun _=>Sn aq 1 rfl rfl) ?_;refine U0 rfl rfl ?_;intro dw hC0;have hC:=hC0.bl aj;replace ae:=(ae.kp bc).gr hC;replace af:=(af.kp bc).gr hC;replace av:=(av.kp bc).gr hC;replace aw:=(aw.kp bc).gr hC;replace ad:=(ad.kp bc).gr hC;replace aa:=(aa.kp bc du).grow hC;replace cg:=cg.gr hC;replace ac:=ac.gr hC;replace ah:=ah.gr hC;have ct:Zq (pS [440]) aj dt aj dw:=hC.toP;obtain ⟨bq,dx,hm⟩:=bZ hm;refine lc rfl rfl (Zw5 call108 rfl rfl rfl) (IH 8 9 aj _ 440 rfl ay az a0 a2 a3 a4 a5 a6 (ab.1,ab.2.1,ab.2.2.1,ab.2.2.2.1,ab.2.2.2.2) a1 ag a7 (i64.wrap (aq+1)) (bs.ks aa) (bg.ks aa) (bt.ks aa) (bu.ks aa) cg bq dx) ?_;rintro _ cu ⟨ax,eu,ew,ey,ez,rfl,a8,cv,cw,an,cx⟩;refine ⟨_,rfl,?_⟩;replace ae:=ae.kpp a8;replace af:=af.kpp a8;replace av:=av.kpp a8;replace aw:=aw.kpp a8;replace ac:=ac.kpp a8;replace ad:=ad.kpp a8;replace ah:=ah.kpp a8;replace ct:=ct.trans (a8.mono (by first | exact Zmw rfl | exact pS_p1 rfl | exact Zmx rfl));have c7:bq.2.length=ai.length:=cx.trans dv
     refine .ld (d:=1) (v:=(.slice a1 bq.2.length ag)) (congrArg (fun n=>Value.slice a1 n ag) (show a7.length=bq.2.length from cx.symm)) ?_;refine .ld (d:=40) (v:=(.slice a1 bq.2.length ag)) (congrArg (fun n=>Value.slice a1 n ag) (show a7.length=bq.2.length from cx.symm)) ?_;refine Zl ?_;refine ⟨fun w'=>Zh ax cu ax w',fun w'=>∃ c',Zq (pS [440]) ax cu c' w',Zh.refl _ _,fun _ h=>⟨_,h.toP⟩,fun h=>absurd h (by decide),fun _ _ ⟨c9,h⟩=>⟨c9,ct.trans h⟩,?_⟩;refine U0 rfl rfl ?_;intro c8 hC0;have hC:=hC0.bl ax;replace aa:=(aa.kpp a8).grow hC;replace an:=an.gr hC;replace ae:=ae.gr hC;replace af:=af.gr hC;replace av:=av.gr hC;replace aw:=aw.gr hC;replace cv:=cv.gr hC;replace cw:=cw.gr hC;replace ac:=ac.gr hC;replace ad:=ad.gr hC;replace ah:=ah.gr hC;have cy:Zq (pS [440]) ax cu ax c8:=hC.toP;obtain ⟨e0,dy,hm⟩:=bZ hm;refine Zk (Zhi 10 11 dy ((((av.toSlF (Zd.int .u32)).froz 6).froz 8).froz 9) ((((aw.froz 5 (by decide)).toSlF (Zd.int .u32)).froz 8).froz 9) ((((cv.froz 5 (by decide)).froz 6 (by decide)).toSlF (Zd.int .u32)).froz 9) ((((cw.froz 5 (by decide)).froz 6 (by decide)).froz 8 (by decide)).toSlF (Zd.int .u32))) ?_;rintro _ da ⟨dz,e1,e2,e3,e4,rfl,ak,ao,ap⟩;refine ⟨_,rfl,?_⟩;replace ao:=ao.thaw (Z1 .u32) ak (((((Fz.refl (col:=ax)).froz 5).froz 6).froz 8).froz 9) (by decide);replace ap:=ap.thaw (Z1 .u32) ak (((((Fz.refl (col:=ax)).froz 5).froz 6).froz 8).froz 9) (by decide);replace ak:=ak.thawR (col:=ax);generalize Xe c8.heap.size ax dz=bd at *;replace cy:=cy.gr ak;refine Zl ?_;refine ⟨fun w'=>Zh bd da bd w',fun w'=>∃ c',Zq (pS [440]) bd da c' w',Zh.refl _ _,fun _ h=>⟨_,h.toP⟩,fun _ _ h=>T6 hC0 ak h,fun _ _ ⟨c9,h⟩=>⟨c9,cy.trans h⟩,?_⟩;refine U0 rfl rfl ?_;intro e5 hC0;have hC:=hC0.bl bd;replace ah:=(ah.gr ak).gr hC;refine Zz ah ?_;intro db be d0 bh;refine Zl ?_;refine ⟨fun w'=>Zh bd db bd w',fun w'=>∃ c',Zq (pS [440]) bd db c' w',Zh.refl _ _,fun _ h=>⟨_,h.toP⟩,fun h=>absurd h (by decide),fun h=>absurd h (by decide),?_⟩;refine Znl ?_;replace an:=((an.gr ak).gr hC).kp be;replace ae:=((ae.gr ak).gr hC).kp be;replace af:=((af.gr ak).gr hC).kp be;replace ac:=((ac.gr ak).gr hC).kp be;replace ad:=((ad.gr ak).gr hC).kp be;replace aa:=((aa.grow ak).grow hC).kp be d0
     replace ao:=(ao.gr hC).kp be;replace ap:=(ap.gr hC).kp be;intro e6 hC;replace hC:=hC.bl bd;refine go ?_;replace an:=an.gr hC;replace an:=an.recol 10 5 (by decide);replace ae:=ae.gr hC;replace ae:=ae.recol 10 5 (by decide);replace af:=af.gr hC;replace af:=af.recol 10 5 (by decide);replace ao:=ao.gr hC;replace ao:=ao.recolSelf 5 (by decide);replace ap:=ap.gr hC;replace ap:=ap.recol 10 5 (by decide);replace ac:=ac.gr hC;replace ac:=ac.recol 10 5 (by decide);replace ad:=ad.gr hC;replace ad:=ad.recol 10 5 (by decide);replace bh:=bh.gr hC;replace bh:=bh.recol 10 5 (by decide);replace aa:=aa.grow hC;replace aa:=aa.recol 10 5 (by decide) (by decide);replace an:=an.recol 11 6 (by decide);replace ae:=ae.recol 11 6 (by decide);replace af:=af.recol 11 6 (by decide);replace ao:=ao.recol 11 6 (by decide);replace ap:=ap.recolSelf 6 (by decide);replace ac:=ac.recol 11 6 (by decide);replace ad:=ad.recol 11 6 (by decide);replace bh:=bh.recol 11 6 (by decide);replace aa:=aa.recol 11 6 (by decide) (by decide);exact ⟨bp,by omega,rfl,⟨_,_,_,_,_,_,_,_,_,_,_,rfl,hm,aa,an,c7,ac,ae,af,ad,ao,ap,bh,c7,rfl⟩⟩
    obtain ⟨e7,cz,hm⟩:=bZ hm;refine lI cz (cf.addr cz) ?_;obtain ⟨c0,ch,hm⟩:=bZ hm;have ch:c0=am.set (Int.toNat aq) (-1):=(Option.some.inj ch).symm;refine Y6 (x1:=(-1)) cf cz ?_;intro e8 b4 d1 ci;rw [← ch] at ci;have d2:c0.length=ai.length:=(show am.length=c0.length by rw [ch,nS]).symm.trans ds;refine go ?_;replace ah:=ah.kp b4;refine lV _ (Z2 isAgg39 sizeOf39 ah) ?_;replace ad:=ad.kp b4;refine Zz ad ?_;intro e9 cj d3 d4;refine go ?_;cases hm;replace av:=(av.kp b4).kp cj;replace aw:=(aw.kp b4).kp cj;replace aa:=(aa.kp b4 d1).kp cj d3;replace ci:=ci.kp cj;exact ⟨rfl,_,ra d4.atN,_,_,_,_,_,rfl,aa.finL rfl (cm [(5,c1),(6,c2),(440,qc1)]),aa.foL av,aa.foL aw,aa.foL ci,d2⟩
  refine lV _ (Z2 isAgg27 sizeOf27 ac)<|Yk rfl ?_;obtain ⟨bf,d5,hm⟩:=bZ hm;refine Zk (Z0s 12 13 d5 ((bs.ks aa).froz 440) ((bg.ks aa).froz 440) ((bt.ks aa).froz 440) ((bu.ks aa).froz 440) (ar.toSlF (Zd.int .i64))) ?_;rintro _ fa ⟨d6,dc,dd,de,df,rfl,bi,b5,b6⟩;refine ⟨_,rfl,?_⟩;replace b5:=b5.thaw (Z1 .u32) bi ((Fz.refl (col:=al)).froz 440) (by decide);replace b6:=b6.thaw (Z1 .u32) bi ((Fz.refl (col:=al)).froz 440) (by decide);replace bi:=bi.thawR (col:=al);generalize Xe a9.heap.size al d6=d7 at *;refine lM (.tuple #[(.agg #[.bool bf.1.1.1,.slice dc bf.1.1.2.length dd,.slice de bf.1.2.length df]),.int .i64 bf.2])<|lV (.agg #[.bool bf.1.1.1,.slice dc bf.1.1.2.length dd,.slice de bf.1.2.length df]) (Xk rfl rfl)<|lV (.int .i64 bf.2) (Xk rfl rfl)<|Xg (col:=d7) #[.bool false,.slice none (([]:List Int).length) 0,.slice none (([]:List Int).length) 0] 14 zeroValue39 ?_;intro fb fc fd b7 d8;refine Zz d8 ?_;intro fe b8 d9 ea;refine go ?_;refine lV _ (Z2 isAgg39 sizeOf39 ea) ?_;replace ad:=((ad.gr bi).gr b7).kp b8;refine Zz ad ?_;intro ff ck eb ec;refine go ?_;cases hm;replace ar:=(((ar.gr bi).gr b7).kp b8).kp ck;replace aa:=(((aa.grow bi).grow b7).kp b8 d9).kp ck eb;replace b5:=((b5.gr b7).kp b8).kp ck;replace b6:=((b6.gr b7).kp b8).kp ck;exact ⟨rfl,_,ra ec.atN,_,_,_,_,_,rfl,aa.finL rfl (cm [(12,c1),(13,c2),(440,qc1)]),aa.foL b5,aa.foL b6,aa.foL ar,cn⟩
def Zc8 (N:Nat):Nat→R0→R5→Int→Option Rd
  | 0,_,_,_=>none
  | n+1,aa,ab,ac=>Zk7 N (Zc8 N n) aa ab ac
theorem Z0g (N:Nat):∀ (n:Nat) (c1:Nat) (c2:Nat) (col:Ze) (w0:World) (qc1:Nat) (hd:V9 [qc1]=true) (ad:Option Addr) (ae:Nat) (af:Option Addr) (ag:Nat) (ah:Option Addr) (ai:Nat) (aj:Option Addr) (ak:Nat) (aa:R0) (a1:Option Addr) (ac:Nat) (ab:List Int) (al:Int) (am:Sl Za.str col w0 ad ae aa.2.1) (an:Sl (Za.slice Za.str) col w0 af ag aa.2.2.1) (ao:Sl (Za.slice (Za.int .i64)) col w0 ah ai aa.2.2.2.1) (ap:Sl (Za.slice (Za.pair (Za.pair Za.bool (Za.slice (Za.int .u32))) (Za.slice (Za.int .u32)))) col w0 aj ak aa.2.2.2.2) (h1:Zb (Za.int .i64) 3 qc1 col w0 a1 ac ab) (r:Rd) (hm:Zc8 N n aa ab al=some r),Calls prog 108 #[(.agg #[.string aa.1,.slice ad aa.2.1.length ae,.slice af aa.2.2.1.length ag,.slice ah aa.2.2.2.1.length ai,.slice aj aa.2.2.2.2.length ak]),.slice a1 ab.length ac,.int .i64 al] w0 (fun e w'=>∃ (col':Ze) (ra1:Option Addr) (rc2:Nat) (ra4:Option Addr) (rc5:Nat),e= .returned ((.agg #[.bool r.1.1.1,.slice ra1 r.1.1.2.length rc2,.slice ra4 r.1.2.length rc5]))∧Zq (pS [qc1]) col w0 col' w'∧Zb (Za.int .u32) 95 c1 col' w' ra1 rc2 r.1.1.2∧Zb (Za.int .u32) 95 c2 col' w' ra4 rc5 r.1.2∧Zb (Za.int .i64) 3 qc1 col' w' a1 ac r.2∧r.2.length=ab.length):=by
 intro n;induction n with
 | zero=>intro c1 c2 col w0 qc1 hd ad ae af ag ah ai aj ak aa a1 ac ab al am an ao ap h1 r hm;rw [Zc8.eq_1] at hm;cases hm;| succ n ih=>intro c1 c2 col w0 qc1 hd ad ae af ag ah ai aj ak aa a1 ac ab al am an ao ap h1 r hm;rw [Zc8.eq_2] at hm;exact Z0f N (Zc8 N n) ih c1 c2 col w0 qc1 hd ad ae af ag ah ai aj ak aa a1 ac ab al am an ao ap h1 r hm
def Zhv (N:Nat) (aa:R0) (ab:List Int) (ac:Int):Option Rd:=Zc8 N N aa ab ac
theorem Z0e (N:Nat) (c1:Nat) (c2:Nat) (col:Ze) (w0:World) (qc1:Nat) (hd:V9 [qc1]=true) (ad:Option Addr) (ae:Nat) (af:Option Addr) (ag:Nat) (ah:Option Addr) (ai:Nat) (aj:Option Addr) (ak:Nat) (aa:R0) (a1:Option Addr) (ac:Nat) (ab:List Int) (al:Int) (am:Sl Za.str col w0 ad ae aa.2.1) (an:Sl (Za.slice Za.str) col w0 af ag aa.2.2.1) (ao:Sl (Za.slice (Za.int .i64)) col w0 ah ai aa.2.2.2.1) (ap:Sl (Za.slice (Za.pair (Za.pair Za.bool (Za.slice (Za.int .u32))) (Za.slice (Za.int .u32)))) col w0 aj ak aa.2.2.2.2) (h1:Zb (Za.int .i64) 3 qc1 col w0 a1 ac ab) (r:Rd) (hm:Zhv N aa ab al=some r):
    Calls prog 108 #[(.agg #[.string aa.1,.slice ad aa.2.1.length ae,.slice af aa.2.2.1.length ag,.slice ah aa.2.2.2.1.length ai,.slice aj aa.2.2.2.2.length ak]),.slice a1 ab.length ac,.int .i64 al] w0 (fun e w'=>∃ (col':Ze) (ra1:Option Addr) (rc2:Nat) (ra4:Option Addr) (rc5:Nat),e= .returned ((.agg #[.bool r.1.1.1,.slice ra1 r.1.1.2.length rc2,.slice ra4 r.1.2.length rc5]))∧Zq (pS [qc1]) col w0 col' w'∧Zb (Za.int .u32) 95 c1 col' w' ra1 rc2 r.1.1.2∧Zb (Za.int .u32) 95 c2 col' w' ra4 rc5 r.1.2∧Zb (Za.int .i64) 3 qc1 col' w' a1 ac r.2∧r.2.length=ab.length):=Z0g N N c1 c2 col w0 qc1 hd ad ae af ag ah ai aj ak aa a1 ac ab al am an ao ap h1 r hm
def Zhu (aa:Nat) (kk_L1:(Nat→Int→Option Int)) (ab:Int):Option Int:=
  kk_L1 (aa+1) ab
def Zaq (ac:R0):List Int→Nat→Int→Option Int
  | [],ab,aa=>some aa
  | af :: ad,ab,aa=>if (decide (af<0))=true then ((Zm ac.2.2.1 (ab:Int)).bind fun ae=>Zhu ab (Zaq ac ad) (if 65537<(i64.wrap (aa * (ae.length:Int))) then 65537 else (i64.wrap (aa * (ae.length:Int))))) else (Zhu ab (Zaq ac ad) aa)
termination_by structural x=>x
def Zk6 (aa:R0) (ab:List Int):Option Int:=
  Zaq aa ab 0 1
theorem Z0d {ah ai aj ak a0:Nat} {al am an ao a1:Option Addr} {col:Ze} {w0:World} {aa:R0} {ac:R5} {r:Int} (hm:Zk6 aa ac=some r) (a9:Sl Za.str col w0 al ah aa.2.1) (ap:Sl (Za.slice Za.str) col w0 am ai aa.2.2.1) (ba:Sl (Za.slice (Za.int .i64)) col w0 an aj aa.2.2.2.1) (bb:Sl (Za.slice (Za.pair (Za.pair Za.bool (Za.slice (Za.int .u32))) (Za.slice (Za.int .u32)))) col w0 ao ak aa.2.2.2.2) (h1:Sl (Za.int .i64) col w0 a1 a0 ac):
    Calls prog 107 #[(.agg #[.string aa.1,.slice al aa.2.1.length ah,.slice am aa.2.2.1.length ai,.slice an aa.2.2.2.1.length aj,.slice ao aa.2.2.2.2.length ak]),.slice a1 ac.length a0] w0 (fun e w'=>e= .returned ((.int .i64 r))∧Below w0.heap.size w0 w'):=by
 refine Xf 4 (m:=28) func107 rfl rfl rfl rfl rfl ?_;rw [Zk6.eq_1] at hm;have ab:=St.start col w0;refine go ?_;refine Xl (col:=(Zj col)) 1 rfl ?_;intro a2 bc bd a4 ad;refine go ?_;replace ab:=ab.grow a4;refine Zu [2,8,9,1000000] (fun n f aq=>∃ ar ae af ag,n=ag.length∧ac.drop ae=ag∧Zaq aa ag ae af=some r∧St w0 (Zj col) ar aq∧Zf 27 1 ar aq a2 #[.string aa.1,.slice al aa.2.1.length ah,.slice am aa.2.2.1.length ai,.slice an aa.2.2.2.1.length aj,.slice ao aa.2.2.2.2.length ak]∧[10,5].map f=[.int .i64 ae,.int .i64 af]) ac.length ⟨_,0,1,_,rfl,rfl,hm,ab,ad,rfl⟩ ?_;clear hm;intro n f aq hI;obtain ⟨ar,ae,af,ag,hn,hl,hm,ab,ad,hs⟩:=hI;subst hn;refine .lL [10,5] hs ?_;replace ap:=ap.keep (Zi.start col w0);replace h1:=h1.keep (Zi.start col w0)
 cases ag with
 | nil=>
  have hk:¬ ((ae:Int)<(ac.length:Int)):=by have:=List.drop_eq_nil_iff.1 hl;omega
  have hkb:=decide_eq_false hk;rw [Zaq.eq_1] at hm;refine go ?_;refine Xs (congrArg Value.bool hkb)<|go ?_;cases hm;exact ⟨rfl,rfl,ab.below⟩
 | cons be a3=>
  obtain ⟨au,a5,a6⟩:=X3 hl;have hk:(ae:Int)<(ac.length:Int):=by omega
  have hkb:=decide_eq_true hk;rw [Zaq.eq_2] at hm;refine go ?_;refine Xt (congrArg Value.bool hkb)<|X0<|Zs ?_;refine Wp.cutK [10,2,8,9,1000000] (fun f av=>∃ aw ax,Zhu ae (Zaq aa a3) ax=some r∧St w0 (Zj col) aw av∧Zf 27 1 aw av a2 #[.string aa.1,.slice al aa.2.1.length ah,.slice am aa.2.2.1.length ai,.slice an aa.2.2.2.1.length aj,.slice ao aa.2.2.2.2.length ak]∧[5].map f=[.int .i64 ax]) ?_ ?_
  ·intro f av hJ;obtain ⟨aw,ax,hm,ab,ad,hs⟩:=hJ;rw [Zhu.eq_1] at hm;refine .lL [5] hs<|go ?_;exact ⟨a3.length,by simp,rfl,⟨_,_,_,_,rfl,a5,hm,ab,ad,(X5 (congrArg (Value.int .i64) (X2 (Nat.lt_of_lt_of_le a6 (h1.ks ab).1.1))) rfl)⟩⟩
  refine go ?_;refine lI au ((h1.ks ab).addr au)<|lW ((h1.ks ab).atInt au) ?_;refine go ?_;refine Zo hm (fun hb hm=>go ?_) fun hb hm=>?_
  ·refine Xd ad<|Xp rfl ?_;obtain ⟨ay,az,hm⟩:=bZ hm;refine lI az ((ap.ks ab).addr az) ?_;obtain ⟨_,a7,a8⟩:=(ap.ks ab).atN az;obtain ⟨⟨bf,bg,rfl,bh⟩,_⟩:=a7;refine lW a8.one<|go ?_;refine lV (.int .i64 (if 65537<(i64.wrap (af * (ay.length:Int))) then 65537 else (i64.wrap (af * (ay.length:Int))))) (Zjt (i64.wrap (af * (ay.length:Int))) 65537 rfl rfl)<|go ?_;exact ⟨rfl,_,_,hm,ab,ad,rfl⟩
  refine X0 ?_;exact ⟨rfl,_,_,hm,ab,ad,rfl⟩
def Zc5 (N:Nat) (aa:R0):List R5→Bool→R5→R5→Option (R4×Int)
  | [],ab,ac,ad=>some (((ab,ac),ad),0)
  | ag :: ah,ab,ac,ad=>(Qc ag).bind fun ai=>(Zhv N (aa.1,aa.2.1,aa.2.2.1,aa.2.2.2.1,aa.2.2.2.2) ai 0).bind fun ae=>(Q2 N ((ab,ac),ad) ((ae.1.1.1,ae.1.1.2),ae.1.2)).bind fun af=>(Zc5 N aa ah) af.1.1 af.1.2 af.2
termination_by structural x=>x
def Zbt (N:Nat) (aa:R0) (ac:R9):List R5→Bool→R5→R5→Option (R4×Int)
  | [],ad,ae,af=>(Zar N 1 1).bind fun ab=>Zc5 N aa ac ab.1.1.1 ab.1.1.2 ab.1.2
  | ag :: ah,ad,ae,af=>(Zk6 (aa.1,aa.2.1,aa.2.2.1,aa.2.2.2.1,aa.2.2.2.2) ag).bind fun ai=>if (decide (65536<ai))=true then (some (((false,([]:List Int)),([]:List Int)),4)) else ((Zbt N aa ac ah) ad ae af)
termination_by structural x=>x
def U9 (N:Nat) (aa:R0) (ab:R9):Option (R4×Int):=
  (Zbu N (aa.1,aa.2.1,aa.2.2.1,aa.2.2.2.1,aa.2.2.2.2) ab).bind fun ac=>if (!decide (ac=0))=true then (some (((false,([]:List Int)),([]:List Int)),ac)) else (Zbt N aa ab ab false ([]:List Int) ([]:List Int))
theorem Zet {N a6 a7 a8 a9 cj:Nat} {ba bb bc bd a1:Option Addr} {col:Ze} {w0:World} {ac:R0} {ai:R9} {r:(R4×Int)} (c1 c2:Nat) (hm:U9 N ac ai=some r) (bg:Sl Za.str col w0 ba a6 ac.2.1) (bh:Sl (Za.slice Za.str) col w0 bb a7 ac.2.2.1) (bi:Sl (Za.slice (Za.int .i64)) col w0 bc a8 ac.2.2.2.1) (bj:Sl (Za.slice (Za.pair (Za.pair Za.bool (Za.slice (Za.int .u32))) (Za.slice (Za.int .u32)))) col w0 bd a9 ac.2.2.2.2) (h1:Sl (Za.slice (Za.int .i64)) col w0 a1 cj ai):
    Calls prog 30 #[(.agg #[.string ac.1,.slice ba ac.2.1.length a6,.slice bb ac.2.2.1.length a7,.slice bc ac.2.2.2.1.length a8,.slice bd ac.2.2.2.2.length a9]),.slice a1 ai.length cj] w0 (fun e w'=>∃ (col':Ze) (ra1:Option Addr) (rc2:Nat) (ra4:Option Addr) (rc5:Nat),e= .returned (.tuple #[(.agg #[.bool r.1.1.1,.slice ra1 r.1.1.2.length rc2,.slice ra4 r.1.2.length rc5]),.int .i64 r.2])∧Zh col w0 col' w'∧Zb (Za.int .u32) 95 c1 col' w' ra1 rc2 r.1.1.2∧Zb (Za.int .u32) 95 c2 col' w' ra4 rc5 r.1.2):=by
 refine Y5 (m:=50) func30 rfl rfl rfl ?_;rw [U9.eq_1] at hm;have aa:=St.start col w0;refine go ?_;refine Xl (col:=(Zj col)) 1 rfl ?_;intro ck d8 cx cy ab;refine Xg (col:=cx) #[.bool false,.slice none (([]:List Int).length) 0,.slice none (([]:List Int).length) 0] 2 zeroValue39 ?_;intro cl cz cn co ad;refine go ?_;replace ab:=ab.gr co;refine lV _ (Z2 isAgg27 sizeOf27 ab)<|Yk rfl ?_;obtain ⟨d9,c0,hm⟩:=bZ hm;replace bg:=bg.keep (Zi.start col w0);replace bh:=bh.keep (Zi.start col w0);replace bi:=bi.keep (Zi.start col w0);replace bj:=bj.keep (Zi.start col w0);replace h1:=h1.keep (Zi.start col w0);replace aa:=(aa.grow cy).grow co;refine Zk (Zrv c0 (bg.ks aa) (bh.ks aa) (bi.ks aa) (bj.ks aa) (h1.ks aa)) ?_;rintro _ c3 ⟨rfl,bk⟩;refine ⟨_,rfl,?_⟩;replace bk:Zh cn cz cn c3:=.of_below bk;refine go ?_;replace ab:=ab.gr bk;replace ad:=ad.gr bk;replace aa:=aa.grow bk;refine Zo hm (fun hb hm=>go ?_) fun hb hm=>go ?_
 ·refine lV (.agg #[.bool false,.slice none (([]:List Int).length) 0,.slice none (([]:List Int).length) 0]) (Wc (l:=[_,_]) (qs:=[(0,2),(2,1)]) underlying39 zeroValue39 ⟨rfl,sizeOf37,rfl,sizeOf35,trivial⟩ rfl)<|Xp rfl<|Zz ad ?_;intro ea c4 c5 c6;refine go ?_;cases hm;replace aa:=aa.kp c4 c5;exact ⟨rfl,_,Vw c6.atN,_,none,0,none,0,rfl,aa.fin (cm []),Zb.nil,Zb.nil⟩
 refine Zu [1,2,20,21,4,1000000] (fun n f ax=>∃ ar bm bx bn bo be bp bq bf br,n=br.length∧ai.drop bm=br∧Zbt N ac ai br bx be bf=some r∧St w0 (Zj col) ar ax∧Zf 27 1 ar ax ck #[.string ac.1,.slice ba ac.2.1.length a6,.slice bb ac.2.2.1.length a7,.slice bc ac.2.2.2.1.length a8,.slice bd ac.2.2.2.2.length a9]∧Zb (Za.int .u32) 95 3 ar ax bn bo be∧Zb (Za.int .u32) 95 4 ar ax bp bq bf∧Zf 39 2 ar ax cl #[.bool bx,.slice bn be.length bo,.slice bp bf.length bq]∧[22].map f=[.int .i64 bm]) ai.length ⟨_,0,_,none,0,_,none,0,_,_,rfl,rfl,hm,aa,ab,Zb.nil,Zb.nil,ad,rfl⟩ ?_;clear hm;intro n f ax hI;obtain ⟨ar,bm,bx,bn,bo,be,bp,bq,bf,br,hn,hl,hm,aa,ab,ae,af,ad,hs⟩:=hI;subst hn;refine .lL [22] hs ?_
 cases br with
 | nil=>
  have hk:¬ ((bm:Int)<(ai.length:Int)):=by have:=List.drop_eq_nil_iff.1 hl;omega
  have hkb:=decide_eq_false hk;rw [Zbt.eq_1] at hm;refine go ?_;refine Xs (congrArg Value.bool hkb)<|go ?_;obtain ⟨av,c7,hm⟩:=bZ hm;refine Zk (Zkk (col:=ar) 5 6 c7) ?_;rintro _ eb ⟨c8,cp,cq,cr,cs,rfl,bs,b4,b5⟩;refine ⟨_,rfl,?_⟩;refine lM (.tuple #[(.agg #[.bool av.1.1.1,.slice cp av.1.1.2.length cq,.slice cr av.1.2.length cs]),.int .i64 av.2])<|lV (.agg #[.bool av.1.1.1,.slice cp av.1.1.2.length cq,.slice cr av.1.2.length cs]) (Xk rfl rfl)<|lV (.int .i64 av.2) (Xk rfl rfl)<|Xg (col:=c8) #[.bool false,.slice none (([]:List Int).length) 0,.slice none (([]:List Int).length) 0] 7 zeroValue39 ?_;intro da ec ed ay db;refine Zz db ?_;intro ee az dc ag;refine go ?_;replace ae:=((ae.gr bs).gr ay).kp az;replace af:=((af.gr bs).gr ay).kp az;replace ab:=((ab.gr bs).gr ay).kp az;replace ad:=((ad.gr bs).gr ay).kp az;replace aa:=((aa.grow bs).grow ay).kp az dc;replace b4:=(b4.gr ay).kp az;replace b5:=(b5.gr ay).kp az;refine Zu [2,36,37,4,9,1000000] (fun n f ao=>∃ ah bt bz b0 b1 bu b2 b3 bv bw,n=bw.length∧ai.drop bt=bw∧Zc5 N ac bw bz bu bv=some r∧St w0 (Zj col) ah ao∧Zf 27 1 ah ao ck #[.string ac.1,.slice ba ac.2.1.length a6,.slice bb ac.2.2.1.length a7,.slice bc ac.2.2.2.1.length a8,.slice bd ac.2.2.2.2.length a9]∧Zb (Za.int .u32) 95 3 ah ao bn bo be∧Zb (Za.int .u32) 95 4 ah ao bp bq bf∧Zf 39 2 ah ao cl #[.bool bx,.slice bn be.length bo,.slice bp bf.length bq]∧Zb (Za.int .u32) 95 5 ah ao b0 b1 bu∧Zb (Za.int .u32) 95 6 ah ao b2 b3 bv∧Zf 39 7 ah ao da #[.bool bz,.slice b0 bu.length b1,.slice b2 bv.length b3]∧[38].map f=[.int .i64 bt]) ai.length ⟨_,0,_,_,_,_,_,_,_,_,rfl,rfl,hm,aa,ab,ae,af,ad,b4,b5,ag,rfl⟩ ?_;clear hm;intro n f ao hI;obtain ⟨ah,bt,bz,b0,b1,bu,b2,b3,bv,bw,hn,hl,hm,aa,ab,ae,af,ad,aj,ak,ag,hs⟩:=hI;subst hn;refine .lL [38] hs ?_
  cases bw with
  | nil=>
   have hk:¬ ((bt:Int)<(ai.length:Int)):=by have:=List.drop_eq_nil_iff.1 hl;omega
   have hkb:=decide_eq_false hk;rw [Zc5.eq_1] at hm;refine go ?_;refine Xs (congrArg Value.bool hkb)<|go ?_;refine lV _ (Z2 isAgg39 sizeOf39 ag)<|Zz ad ?_;intro ef b6 dd de;refine go ?_;cases hm;replace aj:=aj.kp b6;replace ak:=ak.kp b6;replace aa:=aa.kp b6 dd;exact ⟨rfl,_,Vw de.atN,_,_,_,_,_,rfl,aa.fin (cm [(5,c1),(6,c2)]),aa.fo aj,aa.fo ak⟩
  | cons df dg=>
   obtain ⟨a0,dh,di⟩:=X3 hl;have hk:(bt:Int)<(ai.length:Int):=by omega
   have hkb:=decide_eq_true hk;rw [Zc5.eq_2] at hm;refine go ?_;refine Xt (congrArg Value.bool hkb)<|go ?_;refine lI a0 ((h1.ks aa).addr a0) ?_;obtain ⟨_,dj,dl⟩:=(h1.ks aa).atN a0;obtain ⟨⟨dm,dn,rfl,b7⟩,_⟩:=dj;refine lW dl.one<|go ?_;refine Zni (col:=ah) (pS [8]) [(0,5),(1,0),(2,1),(3,3),(4,4),(5,3),(6,2)] (by kernel_rfl) (by kernel_rfl)<|Znm (v:=(.agg #[.bool bz,.slice b0 bu.length b1,.slice b2 bv.length b3])) rfl rfl (fun _ hC=>Wj isAgg39 sizeOf39 rfl rfl (ag.dk hC rfl rfl).atN) ?_;refine Zg6 (v:=(.agg #[.string ac.1,.slice ba ac.2.1.length a6,.slice bb ac.2.2.1.length a7,.slice bc ac.2.2.2.1.length a8,.slice bd ac.2.2.2.2.length a9])) rfl rfl (fun _ hC=>Wj isAgg27 sizeOf27 rfl rfl (ab.atN.gr (hC.bl ah))) ?_;refine Uk (v:=(.slice dm df.length dn)) rfl rfl (fun _=>Vi rfl) ?_;refine U0 rfl rfl ?_;intro dp hC0;have hC:=hC0.bl ah;replace ae:=ae.gr hC;replace af:=af.gr hC;replace aj:=aj.gr hC;replace ak:=ak.gr hC;replace b7:=b7.gr hC;replace ab:=ab.gr hC;replace ad:=ad.gr hC;replace ag:=ag.gr hC;replace aa:=aa.grow hC;have b8:Zq (pS [8]) ah ao ah dp:=hC.toP;obtain ⟨ct,dq,hm⟩:=bZ hm;refine Zk (Zhm 8 dq b7) ?_;rintro _ b9 ⟨a2,ca,cb,rfl,ap,cc⟩;refine ⟨_,rfl,?_⟩;replace b8:=b8.gr ap;refine Zl ?_;refine ⟨fun w'=>Zh a2 b9 a2 w',fun w'=>∃ c',Zq (pS [8]) a2 b9 c' w',Zh.refl _ _,fun _ h=>⟨_,h.toP⟩,fun _ _ h=>T6 hC0 ap h,fun _ _ ⟨c9,h⟩=>⟨c9,b8.trans h⟩,?_⟩;refine U0 rfl rfl ?_;intro dr hC0;have hC:=hC0.bl a2;replace ae:=(ae.gr ap).gr hC;replace af:=(af.gr ap).gr hC;replace aj:=(aj.gr ap).gr hC;replace ak:=(ak.gr ap).gr hC;replace ab:=(ab.gr ap).gr hC;replace ad:=(ad.gr ap).gr hC;replace ag:=(ag.gr ap).gr hC;replace aa:=(aa.grow ap).grow hC;replace cc:=cc.gr hC;have cd:Zq (pS [8]) a2 b9 a2 dr:=hC.toP;obtain ⟨ce,ds,hm⟩:=bZ hm;refine Zk (Z0e N 9 10 a2 _ 8 rfl ba a6 bb a7 bc a8 bd a9 (ac.1,ac.2.1,ac.2.2.1,ac.2.2.2.1,ac.2.2.2.2) ca cb ct 0 (bg.ks aa) (bh.ks aa) (bi.ks aa) (bj.ks aa) cc ce ds) ?_;rintro _ cf ⟨aq,eg,eh,ei,ej,rfl,au,cg,ch,ek,dt⟩;refine ⟨_,rfl,?_⟩;replace ae:=ae.kpp au;replace af:=af.kpp au;replace aj:=aj.kpp au;replace ak:=ak.kpp au;replace ab:=ab.kpp au;replace ad:=ad.kpp au;replace ag:=ag.kpp au
   replace cd:=cd.trans (au.mono (by first | exact Zmw rfl | exact pS_p1 rfl | exact Zmx rfl));refine .ld (d:=45) (v:=(.slice ca ce.2.length cb)) (congrArg (fun n=>Value.slice ca n cb) (show ct.length=ce.2.length from dt.symm)) ?_;refine Zl ?_;refine ⟨fun w'=>Zh aq cf aq w',fun w'=>∃ c',Zq (pS [8]) aq cf c' w',Zh.refl _ _,fun _ h=>⟨_,h.toP⟩,fun h=>absurd h (by decide),fun _ _ ⟨c9,h⟩=>⟨c9,cd.trans h⟩,?_⟩;refine U0 rfl rfl ?_;intro cu hC0;have hC:=hC0.bl aq;replace aa:=(aa.kpp au).grow hC;replace ae:=ae.gr hC;replace af:=af.gr hC;replace aj:=aj.gr hC;replace ak:=ak.gr hC;replace cg:=cg.gr hC;replace ch:=ch.gr hC;replace ab:=ab.gr hC;replace ad:=ad.gr hC;replace ag:=ag.gr hC;have ci:Zq (pS [8]) aq cf aq cu:=hC.toP;obtain ⟨el,du,hm⟩:=bZ hm;refine Zk (Zkj 11 12 du ((((aj.toSlF (Zd.int .u32)).froz 6).froz 9).froz 10) ((((ak.froz 5 (by decide)).toSlF (Zd.int .u32)).froz 9).froz 10) ((((cg.froz 5 (by decide)).froz 6 (by decide)).toSlF (Zd.int .u32)).froz 10) ((((ch.froz 5 (by decide)).froz 6 (by decide)).froz 9 (by decide)).toSlF (Zd.int .u32))) ?_;rintro _ cv ⟨dv,em,en,eo,ep,rfl,al,am,an⟩;refine ⟨_,rfl,?_⟩;replace am:=am.thaw (Z1 .u32) al (((((Fz.refl (col:=aq)).froz 5).froz 6).froz 9).froz 10) (by decide);replace an:=an.thaw (Z1 .u32) al (((((Fz.refl (col:=aq)).froz 5).froz 6).froz 9).froz 10) (by decide);replace al:=al.thawR (col:=aq);generalize Xe cu.heap.size aq dv=aw at *;replace ci:=ci.gr al;refine Zl ?_;refine ⟨fun w'=>Zh aw cv aw w',fun w'=>∃ c',Zq (pS [8]) aw cv c' w',Zh.refl _ _,fun _ h=>⟨_,h.toP⟩,fun _ _ h=>T6 hC0 al h,fun _ _ ⟨c9,h⟩=>⟨c9,ci.trans h⟩,?_⟩;refine U0 rfl rfl ?_;intro eq hC0;have hC:=hC0.bl aw;replace ag:=(ag.gr al).gr hC;refine Zz ag ?_;intro cw a3 dw a4;refine Zl ?_;refine ⟨fun w'=>Zh aw cw aw w',fun w'=>∃ c',Zq (pS [8]) aw cw c' w',Zh.refl _ _,fun _ h=>⟨_,h.toP⟩,fun h=>absurd h (by decide),fun h=>absurd h (by decide),?_⟩;refine Znl ?_;replace ae:=((ae.gr al).gr hC).kp a3;replace af:=((af.gr al).gr hC).kp a3;replace ab:=((ab.gr al).gr hC).kp a3;replace ad:=((ad.gr al).gr hC).kp a3;replace aa:=((aa.grow al).grow hC).kp a3 dw;replace am:=(am.gr hC).kp a3;replace an:=(an.gr hC).kp a3;intro er hC
   replace hC:=hC.bl aw;refine go ?_;replace ae:=ae.gr hC;replace ae:=ae.recol 11 5 (by decide);replace af:=af.gr hC;replace af:=af.recol 11 5 (by decide);replace am:=am.gr hC;replace am:=am.recolSelf 5 (by decide);replace an:=an.gr hC;replace an:=an.recol 11 5 (by decide);replace ab:=ab.gr hC;replace ab:=ab.recol 11 5 (by decide);replace ad:=ad.gr hC;replace ad:=ad.recol 11 5 (by decide);replace a4:=a4.gr hC;replace a4:=a4.recol 11 5 (by decide);replace aa:=aa.grow hC;replace aa:=aa.recol 11 5 (by decide) (by decide);replace ae:=ae.recol 12 6 (by decide);replace af:=af.recol 12 6 (by decide);replace am:=am.recol 12 6 (by decide);replace an:=an.recolSelf 6 (by decide);replace ab:=ab.recol 12 6 (by decide);replace ad:=ad.recol 12 6 (by decide);replace a4:=a4.recol 12 6 (by decide);replace aa:=aa.recol 12 6 (by decide) (by decide);exact ⟨dg.length,by simp,rfl,⟨_,_,_,_,_,_,_,_,_,_,rfl,dh,hm,aa,ab,ae,af,ad,am,an,a4,(X5 (congrArg (Value.int .i64) (X2 (Nat.lt_of_lt_of_le di (h1.ks aa).1.1))) rfl)⟩⟩
 | cons es dx=>
  obtain ⟨a0,dy,dz⟩:=X3 hl;have hk:(bm:Int)<(ai.length:Int):=by omega
  have hkb:=decide_eq_true hk;rw [Zbt.eq_2] at hm;refine go ?_;refine Xt (congrArg Value.bool hkb)<|go ?_;refine lI a0 ((h1.ks aa).addr a0) ?_;obtain ⟨_,d0,d1⟩:=(h1.ks aa).atN a0;obtain ⟨⟨et,eu,rfl,d2⟩,_⟩:=d0;refine lW d1.one<|go ?_;refine lV _ (Z2 isAgg27 sizeOf27 ab)<|Yk rfl ?_;obtain ⟨ew,d3,hm⟩:=bZ hm;refine Zk (Z0d d3 (bg.ks aa) (bh.ks aa) (bi.ks aa) (bj.ks aa) d2) ?_;rintro _ d4 ⟨rfl,a5⟩;refine ⟨_,rfl,?_⟩;replace a5:Zh ar ax ar d4:=.of_below a5;refine go ?_;replace ae:=ae.gr a5;replace af:=af.gr a5;replace ab:=ab.gr a5;replace ad:=ad.gr a5;replace aa:=aa.grow a5;refine Zo hm (fun hb hm=>go ?_) fun hb hm=>go ?_
  ·refine lV (.agg #[.bool false,.slice none (([]:List Int).length) 0,.slice none (([]:List Int).length) 0]) (Wc (l:=[_,_]) (qs:=[(0,2),(2,1)]) underlying39 zeroValue39 ⟨rfl,sizeOf37,rfl,sizeOf35,trivial⟩ rfl)<|Zz ad ?_;intro ey d5 d6 d7;refine go ?_;cases hm;replace aa:=aa.kp d5 d6;exact ⟨rfl,_,Vw d7.atN,_,none,0,none,0,rfl,aa.fin (cm []),Zb.nil,Zb.nil⟩
  exact ⟨dx.length,by simp,rfl,⟨_,_,_,_,_,_,_,_,_,_,rfl,dy,hm,aa,ab,ae,af,ad,(X5 (congrArg (Value.int .i64) (X2 (Nat.lt_of_lt_of_le dz (h1.ks aa).1.1))) rfl)⟩⟩
/-! how long products are:bounds variable by variable -/
def Tv (B:Nat→Nat):Nat→Nat→Nat
 | 0,_=>0
 | m+1,k=>B k+Tv B m (k+1)
theorem Zym {α:Type} (f:List α→Nat) (T:List (List α)):∀ m k,k+m=T.length→Tv (fun v=>f (T.getD v [])) m k=((T.drop k).map f).sum
 | 0,k,h=>by rw [Tv,List.drop_of_length_le (by omega)];rfl
 | m+1,k,h=>by
  rw [Tv,Zym f T m (k+1) (by omega),List.drop_eq_getElem_cons (i:=k) (by omega),List.map_cons,List.sum_cons,Xx (by omega)]
theorem Zyn (B:Nat→Nat):∀ m k,Tv (fun v=>B v+1) m k=Tv B m k+m
 | 0,k=>rfl
 | m+1,k=>by rw [Tv,Tv,Zyn B m (k+1)];omega
def Zcv (n:Zr) (B:Nat→Nat):Prop:=∀ v,v<n.2.1.length→∀ x ∈ n.2.2.2.2.getD v [],qs (Zv x)≤B v
theorem Z28 {N:Nat} {n:Zr} {B:Nat→Nat} (hf:Yo N n) (hB:Zcv n B) {w:List Int} (hw:Yp n w) {k:Nat} (hk:k<n.2.1.length):qs (ent n w k)≤B k:=by
 have hwv:=hw.ok k (by rw [hw.len];exact hk)
 have hq:(w.getD k 0).toNat<(Te n w k).length:=by rw [hf.rowT_len hw hk];omega
 rw [ent,Xx hq]
 exact hB k hk _ (Zpt (List.getElem_mem hq))
theorem Zwk {N:Nat} {n:Zr} {B:Nat→Nat} (hf:Yo N n) (hB:Zcv n B) {w:List Int} (hw:Yp n w):∀ (m k:Nat) (q:Rat),k+m≤n.2.1.length→qs (Va n w m k q)≤qs q+Tv B m k
 | 0,k,q,h=>by rw [Va,Tv];omega
 | m+1,k,q,h=>by
  have h1:=Z28 hf hB hw (k:=k) (by omega)
  have h2:=Zqg q (ent n w k)
  have h3:=Zwk hf hB hw m (k+1) (q * ent n w k) (by omega)
  rw [Va,Tv];omega
theorem Zs4 (n:Zr):∀ (l:List Int) (k:Nat) (c:Int),(∀ x ∈ l,0≤x)→Zaq n l k c=some c
 | [],k,c,_=>rfl
 | x :: l,k,c,h=>by
  have h0:=h x List.mem_cons_self
  rw [Zaq.eq_2,if_neg (dF (by omega)),Zhu]
  exact Zs4 n l (k+1) c fun y hy=>h y (List.mem_cons_of_mem _ hy)
theorem Yp.mem {n:Zr} {w:List Int} (hw:Yp n w):∀ x ∈ w,0≤x:=fun x hx=>by
 obtain ⟨i,hi,rfl⟩:=List.getElem_of_mem hx
 have:=(hw.ok i hi).1
 rwa [Xx hi] at this
section
variable {N W K:Nat} {n:Zr} (hf:Yo N n) (hs:Y8 n W) (hr:Xh N (8 * K+40)) (hWK:1025 * (W+2)+4≤K) (hN:2000000<N) (hC:W8 N n=some 0)
include hf hs hr hWK hN hC
theorem Z45 {w:List Int} (hw:Yp n w):Zdm N n w=some (Zw (Va n w n.2.1.length 0 1),0):=by
 obtain ⟨p,e,h1,h2⟩:=Z19 hf hs hr hWK hN hC w
 have h3:=Z3q hw
 rcases h2 with ⟨_,h⟩ | ⟨rfl,_,rfl⟩
 ·rw [h3] at h;cases h
 ·exact h1
theorem Zs6 (rc:Zr→List Int→Int→Option (QV×List Int)) {w:List Int} (hw:Yp n w):∀ (f i:Nat) (a:Bool) (b c:List Int),i≤w.length→w.length<f+i→Zc7 N rc n f w a b c (i:Int)=some (Zw (Va n w n.2.1.length 0 1),w)
 | 0,i,_,_,_,h1,h2=>by omega
 | f+1,i,a,b,c,h1,h2=>by
  have hle:=hf.le
  have hl:=hw.len
  rw [Zc7.eq_2]
  by_cases hi:i<w.length
  ·have h0:=hw.mem _ (List.getElem_mem hi)
   rw [if_pos (dT (by omega)),Z5 hi,oB,if_pos (dT h0),wS (by omega)]
   exact Zs6 rc hw f (i+1) a b c (by omega) (by omega)
  ·have pc:Zdm N (n.1,n.2.1,n.2.2.1,n.2.2.2.1,n.2.2.2.2) w=some (Zw (Va n w n.2.1.length 0 1),0):=Z45 hf hs hr hWK hN hC hw
   rw [if_neg (dF (by omega)),pc];rfl
theorem Z2p {w:List Int} (hw:Yp n w):Zhv N n w 0=some (Zw (Va n w n.2.1.length 0 1),w):=by
 have hle:=hf.le
 have hl:=hw.len
 obtain ⟨M,rfl⟩:∃ M,N=M+1:=⟨N - 1,by omega⟩
 rw [Zhv,Zc8,Zk7]
 exact Zs6 hf hs hr hWK hN hC _ hw _ 0 _ _ _ (Nat.zero_le _) (by omega)
variable {B:Nat→Nat} {S:Nat} (hB:Zcv n B) (hS:Tv B n.2.1.length 0+1≤S) (hSK:12 * S+10≤K)
include hB hS hSK
omit hSK in
theorem Zsu:∀ (l:List R5) (q:Rat),(∀ w ∈ l,Yp n w)→qs q+l.length * S≤K→Zc5 N n l (Zw q).1.1 (Zw q).1.2 (Zw q).2=some (Zw (q * W4 n l),0)∧qs (q * W4 n l)≤qs q+l.length * S
 | [],q,_,_=>by
  rw [W4,Rat.mul_one,nN,Nat.zero_mul]
  exact ⟨rfl,Nat.le_refl _⟩
 | w :: l,q,hl,hq=>by
  rw [nC,Nat.add_mul,Nat.one_mul] at hq
  have hw:=hl w List.mem_cons_self
  have hwl:w.length≤1024:=by rw [hw.len];exact hf.le
  have h1:=Zwk hf hB hw n.2.1.length 0 1 (by omega)
  rw [Zjp] at h1
  have h2:=Zqg q (Va n w n.2.1.length 0 1)
  have c1:Qc w=some w:=Zoa (by omega)
  have ds:Zhv N (n.1,n.2.1,n.2.2.1,n.2.2.2.1,n.2.2.2.2) w 0=_:=Z2p hf hs hr hWK hN hC hw
  have ml:Q2 N (((Zw q).1.1,(Zw q).1.2),(Zw q).2) (((Zw (Va n w n.2.1.length 0 1)).1.1,(Zw (Va n w n.2.1.length 0 1)).1.2),(Zw (Va n w n.2.1.length 0 1)).2)=some (Zw (q * Va n w n.2.1.length 0 1)):=by
   have:=Ztt (N:=N) (Zm8 q) (Zm8 (Va n w n.2.1.length 0 1)) (hr.mono (by omega))
   rwa [V3,V3] at this
  obtain ⟨i1,i2⟩:=Zsu l (q * Va n w n.2.1.length 0 1) (fun x hx=>hl x (List.mem_cons_of_mem _ hx)) (by omega)
  rw [Rat.mul_assoc] at i1 i2
  rw [Zc5.eq_2,c1,oB,ds,oB,ml,oB,W4,nC,Nat.add_mul,Nat.one_mul]
  exact ⟨i1,by omega⟩
theorem Zkq {r:List R5} (hR:∀ w ∈ r,Yp n w) (hw:Zac n r=true) (hl:r.length≤12):U9 N n r=some (Zw (W4 n r),0)∧qs (W4 n r)≤1+12 * S:=by
 have hC':W8 N (n.1,n.2.1,n.2.2.1,n.2.2.2.1,n.2.2.2.2)=some 0:=hC
 have dw:Zbu N (n.1,n.2.1,n.2.2.1,n.2.2.2.1,n.2.2.2.2) r=some 0:=by
  rw [Zbu,hC',oB,if_neg (by decide)]
  have:=Zod (n:=n) hf.ev.v r
  rw [if_pos hw] at this
  exact this
 have one:Zar N 1 1=some (Zw 1,0):=by
  have:=Zkw (N:=N) (a:=1) (b:=1) (by omega) (by omega) (hr.mono (by omega))
  rw [if_neg (by decide)] at this
  have e:(((1:Int):Rat) / ((1:Int):Rat))=1:=div_one _
  rw [this,e]
 have hlS:r.length * S≤12 * S:=Nat.mul_le_mul_right _ hl
 obtain ⟨a1,a2⟩:=Zsu hf hs hr hWK hN hC hB hS r 1 hR (by rw [Zjp];omega)
 rw [Rat.one_mul] at a1 a2
 rw [Zjp] at a2
 have L1:∀ (l:List R5) (a:Bool) (b c:List Int),(∀ w ∈ l,Yp n w)→Zbt N n r l a b c=some (Zw (W4 n r),0):=fun l=>by
  induction l with
  | nil=>
   intro a b c _
   rw [Zbt.eq_1,one,oB]
   exact a1
  | cons w l ih=>
   intro a b c h
   have op:Zk6 (n.1,n.2.1,n.2.2.1,n.2.2.2.1,n.2.2.2.2) w=some 1:=Zs4 n w 0 1 (h w List.mem_cons_self).mem
   rw [Zbt.eq_2,op,oB,if_neg (by decide)]
   exact ih a b c fun x hx=>h x (List.mem_cons_of_mem _ hx)
 refine ⟨?_,by omega⟩
 rw [U9,dw,oB,if_neg (by decide)]
 exact L1 r _ _ _ hR
end
def Zk9 (aa:Int) (kk_L2:(Int→R5→Option R9)) (ab:List Int):Option R9:=
  kk_L2 (i64.wrap (aa+1)) ab
def Zhz (ac:Int) (aa:List Int) (kk_L2:(Int→R5→Option R9)) (ab:Int):Option R9:=
  Zt ((aa.length+[ab].length) * 8≤140737488355328∧aa.length+[ab].length≤maxLen) (Zk9 ac kk_L2 (aa++[ab]))
def Zfj (ae:R0) (aa:Int) (ab:List Int) (kk_L2:(Int→R5→Option R9)) (ac:Int):Option R9:=
  if (decide (0≤ac))=true then ((Zm ae.2.2.1 aa).bind fun ad=>Zt ((ad.length:Int)≠0) (Zhz aa ab kk_L2 (Int.tmod ac (ad.length:Int)))) else (Zhz aa ab kk_L2 (-1))
def Zfk (aa:R0) (ab:Int) (ac:List Int) (kk_L2:(Int→R5→Option R9)) (ad:Int) (ae:Bool):Option R9:=
  if ae=true then (Zfj aa ab ac kk_L2 (i64.wrap (-(i64.wrap (ad+1))))) else (Zfj aa ab ac kk_L2 ad)
def Zdd (ab:R0) (ae:Bool) (ac:Int) (ad:List Int) (kk_L2:(Int→R5→Option R9)) (aa:Int):Option R9:=
  if (decide (aa<0))=true then (Zfk ab ac ad kk_L2 aa ae) else (Zfk ab ac ad kk_L2 aa false)
def Uq (N:Nat) (aa:R0) (ag:R9) (ae:Bool) (ab:List R5) (af:Int) (kk_L1:(R9→Int→Option R9)):Nat→Int→R5→Option R9
  | 0,_,_=>none
  | ah+1,ac,ad=>if (decide (ac<(aa.2.1.length:Int)))=true then ((Zm ag af).bind fun ai=>if (decide (ac<(ai.length:Int)))=true then ((Zm ai ac).bind fun aj=>Zdd aa ae ac ad (Uq N aa ag ae ab af kk_L1 ah) aj) else (Zdd aa ae ac ad (Uq N aa ag ae ab af kk_L1 ah) 0)) else (Zt ((ab.length+[ad].length) * 24≤140737488355328∧ab.length+[ad].length≤maxLen) (kk_L1 (ab++[ad]) (i64.wrap (af+1))))
termination_by structural x=>x
def Zfi (N:Nat) (ab:R0) (ac:R9) (ad:Bool) (aa:List R5) (ae:Int) (kk_L1:(R9→Int→Option R9)) (af:Bool):Option R9:=
  if af=true then (Uq N ab ac ad aa ae kk_L1 N 0 ([]:List Int)) else (some aa)
def Ue (N:Nat) (ab:R0) (aa:R9) (ac:Bool):Nat→R9→Int→Option R9
  | 0,_,_=>none
  | ae+1,af,ad=>if (decide (ad<(aa.length:Int)))=true then (Zfi N ab aa ac af ad (Ue N ab aa ac ae) (decide (ad<8))) else (Zfi N ab aa ac af ad (Ue N ab aa ac ae) false)
termination_by structural x=>x
def Zfh (N:Nat) (aa:R0) (ab:R9) (ac:Bool):Option R9:=
  Ue N aa ab ac N ([]:List R5) 0
theorem Z0k {N ap aq ar au a3:Nat} {av aw ax ay a1:Option Addr} {col:Ze} {w0:World} {aa:R0} {af:R9} {ae:Bool} {r:R9} (c1:Nat) (hm:Zfh N aa af ae=some r) (cl:Sl Za.str col w0 av ap aa.2.1) (bi:Sl (Za.slice Za.str) col w0 aw aq aa.2.2.1) (cn:Sl (Za.slice (Za.int .i64)) col w0 ax ar aa.2.2.2.1) (co:Sl (Za.slice (Za.pair (Za.pair Za.bool (Za.slice (Za.int .u32))) (Za.slice (Za.int .u32)))) col w0 ay au aa.2.2.2.2) (h1:Sl (Za.slice (Za.int .i64)) col w0 a1 a3 af):
    Calls prog 22 #[(.agg #[.string aa.1,.slice av aa.2.1.length ap,.slice aw aa.2.2.1.length aq,.slice ax aa.2.2.2.1.length ar,.slice ay aa.2.2.2.2.length au]),.slice a1 af.length a3,.bool ae] w0 (fun e w'=>∃ (col':Ze) (ra1:Option Addr) (rc2:Nat),e= .returned ((.slice ra1 r.length rc2))∧Zh col w0 col' w'∧Zb (Za.row 3 (Za.int .i64)) 33 c1 col' w' ra1 rc2 r):=by
 refine Xf 6 (m:=70) func22 rfl rfl rfl rfl rfl ?_;rw [Zfh.eq_1] at hm;have ab:=St.start col w0;refine go ?_;refine Xl (col:=(Zj col)) 1 rfl ?_;intro an cp cq b6 ac;refine go ?_;replace ab:=ab.grow b6;refine Zu [] (fun n f bj=>∃ bk ak al ag aj am,am=n∧Ue N aa af ae am ag aj=some r∧St w0 (Zj col) bk bj∧Zf 27 1 bk bj an #[.string aa.1,.slice av aa.2.1.length ap,.slice aw aa.2.2.1.length aq,.slice ax aa.2.2.2.1.length ar,.slice ay aa.2.2.2.2.length au]∧Zb (Za.row 3 (Za.int .i64)) 33 2 bk bj ak al ag∧[1,2,3,7,8,1000000].map f=[.slice a1 af.length a3,.bool ae,.pointer (some ⟨an,0,none⟩),.slice ak ag.length al,.int .i64 aj,enc []]) N ⟨_,none,0,_,0,_,rfl,hm,ab,ac,Zb.nil,rfl⟩ ?_;clear hm;intro n f bj hI;obtain ⟨bk,ak,al,ag,aj,am,hn,hm,ab,ac,ad,hs⟩:=hI;subst hn;refine .lL [1,2,3,7,8,1000000] hs ?_;replace bi:=bi.keep (Zi.start col w0);replace h1:=h1.keep (Zi.start col w0)
 cases am with
 | zero=>rw [Ue.eq_1] at hm;cases hm
 | succ am=>
  rw [Ue.eq_2] at hm;refine Zs<|Zs ?_;refine Wp.cutK [] (fun f bm=>∃ bn bs,Zfi N aa af ae ag aj (Ue N aa af ae am) bs=some r∧St w0 (Zj col) bn bm∧Zf 27 1 bn bm an #[.string aa.1,.slice av aa.2.1.length ap,.slice aw aa.2.2.1.length aq,.slice ax aa.2.2.2.1.length ar,.slice ay aa.2.2.2.2.length au]∧Zb (Za.row 3 (Za.int .i64)) 33 2 bn bm ak al ag∧[1,19,2,3,7,8,1000000].map f=[.slice a1 af.length a3,.bool bs,.bool ae,.pointer (some ⟨an,0,none⟩),.slice ak ag.length al,.int .i64 aj,enc []]) ?_ ?_
  ·intro f bm hJ;obtain ⟨bn,bs,hm,ab,ac,ad,hs⟩:=hJ;rw [Zfi.eq_1] at hm;refine .lL [1,19,2,3,7,8,1000000] hs ?_;refine Zo hm (fun hb hm=>go ?_) fun hb hm=>go ?_
   ·refine Zu [] (fun n f a7=>∃ a4 az a0 a2 ai ao,ao=n∧Uq N aa af ae ag aj (Ue N aa af ae am) ao az ai=some r∧St w0 (Zj col) a4 a7∧Zf 27 1 a4 a7 an #[.string aa.1,.slice av aa.2.1.length ap,.slice aw aa.2.2.1.length aq,.slice ax aa.2.2.2.1.length ar,.slice ay aa.2.2.2.2.length au]∧Zb (Za.row 3 (Za.int .i64)) 33 2 a4 a7 ak al ag∧Zb (Za.int .i64) 3 3 a4 a7 a0 a2 ai∧[1,10,2,3,7,8,9,1000000].map f=[.slice a1 af.length a3,.int .i64 az,.bool ae,.pointer (some ⟨an,0,none⟩),.slice ak ag.length al,.int .i64 aj,.slice a0 ai.length a2,enc []]) N ⟨_,0,none,0,_,_,rfl,hm,ab,ac,ad,Zb.nil,rfl⟩ ?_;clear hm;intro n f a7 hI;obtain ⟨a4,az,a0,a2,ai,ao,hn,hm,ab,ac,ad,ah,hs⟩:=hI;subst hn;refine .lL [1,10,2,3,7,8,9,1000000] hs ?_
    cases ao with
    | zero=>rw [Uq.eq_1] at hm;cases hm
    | succ ao=>
     rw [Uq.eq_2] at hm;refine go ?_;refine Xd ac ?_;refine go ?_;refine Zo hm (fun hb hm=>?_) fun hb hm=>go ?_
     ·refine X0<|Zs ?_;refine Wp.cutK [] (fun f a8=>∃ a9 bt bu bo,Zk9 az (Uq N aa af ae ag aj (Ue N aa af ae am) ao) bo=some r∧St w0 (Zj col) a9 a8∧Zf 27 1 a9 a8 an #[.string aa.1,.slice av aa.2.1.length ap,.slice aw aa.2.2.1.length aq,.slice ax aa.2.2.2.1.length ar,.slice ay aa.2.2.2.2.length au]∧Zb (Za.row 3 (Za.int .i64)) 33 2 a9 a8 ak al ag∧Zb (Za.int .i64) 3 3 a9 a8 bt bu bo∧[1,10,2,3,7,8,9,1000000].map f=[.slice a1 af.length a3,.int .i64 az,.bool ae,.pointer (some ⟨an,0,none⟩),.slice ak ag.length al,.int .i64 aj,.slice bt bo.length bu,enc []]) ?_ ?_
      ·intro f a8 hJ;obtain ⟨a9,bt,bu,bo,hm,ab,ac,ad,b7,hs⟩:=hJ;rw [Zk9.eq_1] at hm;refine .lL [1,10,2,3,7,8,9,1000000] hs<|go ?_;exact ⟨ao,by omega,rfl,⟨_,_,_,_,_,_,rfl,hm,ab,ac,ad,b7,rfl⟩⟩
      refine Zbd<|Zs<|Wl<|Yv rfl<|Zl<|Zs ?_;refine Wp.cutK [1,10,2,3,7,8,9,1000000] (fun f ba=>∃ bb bp,Zdd aa ae az ai (Uq N aa af ae ag aj (Ue N aa af ae am) ao) bp=some r∧St w0 (Zj col) bb ba∧Zf 27 1 bb ba an #[.string aa.1,.slice av aa.2.1.length ap,.slice aw aa.2.2.1.length aq,.slice ax aa.2.2.2.1.length ar,.slice ay aa.2.2.2.2.length au]∧Zb (Za.row 3 (Za.int .i64)) 33 2 bb ba ak al ag∧Zb (Za.int .i64) 3 3 bb ba a0 a2 ai∧[11].map f=[.int .i64 bp]) ?_ ?_
      ·intro f ba hJ;obtain ⟨bb,bp,hm,ab,ac,ad,ah,hs⟩:=hJ;rw [Zdd.eq_1] at hm;refine .lL [11] hs<|Zs ?_;refine Wp.cutK [1,10,2,3,7,8,9,1000000] (fun f bc=>∃ bd be,Zfj aa az ai (Uq N aa af ae ag aj (Ue N aa af ae am) ao) be=some r∧St w0 (Zj col) bd bc∧Zf 27 1 bd bc an #[.string aa.1,.slice av aa.2.1.length ap,.slice aw aa.2.2.1.length aq,.slice ax aa.2.2.2.1.length ar,.slice ay aa.2.2.2.2.length au]∧Zb (Za.row 3 (Za.int .i64)) 33 2 bd bc ak al ag∧Zb (Za.int .i64) 3 3 bd bc a0 a2 ai∧[11].map f=[.int .i64 be]) ?_ ?_
       ·intro f bc hJ;obtain ⟨bd,be,hm,ab,ac,ad,ah,hs⟩:=hJ;rw [Zfj.eq_1] at hm;refine .lL [11] hs<|Zs ?_;refine Wp.cutK [1,10,2,3,7,8,9,1000000] (fun f bf=>∃ a5 bq,Zhz az ai (Uq N aa af ae ag aj (Ue N aa af ae am) ao) bq=some r∧St w0 (Zj col) a5 bf∧Zf 27 1 a5 bf an #[.string aa.1,.slice av aa.2.1.length ap,.slice aw aa.2.2.1.length aq,.slice ax aa.2.2.2.1.length ar,.slice ay aa.2.2.2.2.length au]∧Zb (Za.row 3 (Za.int .i64)) 33 2 a5 bf ak al ag∧Zb (Za.int .i64) 3 3 a5 bf a0 a2 ai∧[11].map f=[.int .i64 bq]) ?_ ?_
        ·intro f bf hJ;obtain ⟨a5,bq,hm,ab,ac,ad,ah,hs⟩:=hJ;rw [Zhz.eq_1] at hm;refine .lL [11] hs<|go ?_;refine Vg (col:=a5) [bq] 4 ?_;intro cr ct cu br b8;obtain ⟨b9,hm⟩:=Z3 hm;replace ah:=ah.gr br;refine W7 ah (b8.srcN (NB.int (k:=.i64))) b9 ?_;intro cv cw cx cy bv ca;refine go ?_;replace ad:=(ad.gr br).kpp bv;replace ac:=(ac.gr br).kpp bv;replace ab:=(ab.grow br).kpp bv;exact ⟨rfl,_,_,_,_,hm,ab,ac,ad,ca,rfl⟩
        refine go ?_;refine Zo hm (fun hb hm=>go ?_) fun hb hm=>go ?_
        ·refine Xd ac<|Xp rfl ?_;obtain ⟨b3,bw,hm⟩:=bZ hm;refine lI bw ((bi.ks ab).addr bw) ?_;obtain ⟨_,cb,cc⟩:=(bi.ks ab).atN bw;obtain ⟨⟨cz,c0,rfl,c3⟩,_⟩:=cb;refine lW cc.one<|go ?_;obtain ⟨cd,hm⟩:=Z3 hm;refine lV (.int .i64 (Int.tmod be (b3.length:Int))) (Zcn be (b3.length:Int) rfl rfl cd)<|go ?_;exact ⟨rfl,_,_,hm,ab,ac,ad,ah,rfl⟩
        exact ⟨rfl,_,_,hm,ab,ac,ad,ah,rfl⟩
       refine Zs ?_;refine Wp.cutK [1,10,11,2,3,7,8,9,1000000] (fun f bg=>∃ bh bx,Zfk aa az ai (Uq N aa af ae ag aj (Ue N aa af ae am) ao) bp bx=some r∧St w0 (Zj col) bh bg∧Zf 27 1 bh bg an #[.string aa.1,.slice av aa.2.1.length ap,.slice aw aa.2.2.1.length aq,.slice ax aa.2.2.2.1.length ar,.slice ay aa.2.2.2.2.length au]∧Zb (Za.row 3 (Za.int .i64)) 33 2 bh bg ak al ag∧Zb (Za.int .i64) 3 3 bh bg a0 a2 ai∧[47].map f=[.bool bx]) ?_ ?_
       ·intro f bg hJ;obtain ⟨bh,bx,hm,ab,ac,ad,ah,hs⟩:=hJ;rw [Zfk.eq_1] at hm;refine .lL [47] hs ?_;refine Zo hm (fun hb hm=>go ?_) fun hb hm=>?_
        ·exact ⟨rfl,_,_,hm,ab,ac,ad,ah,rfl⟩
        refine X0 ?_;exact ⟨rfl,_,_,hm,ab,ac,ad,ah,rfl⟩
       refine go ?_;refine Yc hm (fun bz hm=>go ?_) fun bz hm=>go ?_
       ·refine lV (.bool ae) (Xr (congrArg Value.bool bz) rfl)<|Zl ?_;exact ⟨rfl,_,_,hm,ab,ac,ad,ah,rfl⟩
       refine lV (.bool false) (Xq (congrArg Value.bool bz) rfl)<|Zl ?_;exact ⟨rfl,_,_,hm,ab,ac,ad,ah,rfl⟩
      refine go ?_;obtain ⟨c4,a6,hm⟩:=bZ hm;refine lI a6 ((h1.ks ab).addr a6) ?_;obtain ⟨_,ce,cf⟩:=(h1.ks ab).atN a6;obtain ⟨⟨c5,c6,rfl,c7⟩,_⟩:=ce;refine lW cf.one<|go ?_;refine Zo hm (fun hb hm=>go ?_) fun hb hm=>?_
      ·refine lI a6 ((h1.ks ab).addr a6) ?_;obtain ⟨_,cg,ch⟩:=(h1.ks ab).atN a6;obtain ⟨⟨c8,c9,rfl,b4⟩,_⟩:=cg;refine lW ch.one<|Xp rfl ?_;obtain ⟨da,b0,hm⟩:=bZ hm;refine lI b0 (b4.addr b0)<|lW (b4.atInt b0) ?_;refine go ?_;exact ⟨rfl,_,_,hm,ab,ac,ad,ah,rfl⟩
      refine X0 ?_;exact ⟨rfl,_,0,hm,ab,ac,ad,ah,rfl⟩
     refine V0 (col:=a4) (r:=(Za.row 3 (Za.int .i64))) (xs:=[ai]) [.slice a0 ai.length a2] 3 (Y1.cons1 (cs:=[.slice a0 ai.length a2]) ah.has Rows.nil0) ?_;intro db dc dd b1 ci;obtain ⟨cj,hm⟩:=Z3 hm;replace ad:=ad.gr b1;refine W7 (c:=2) (c2:=3) ad (ci.srcC (by decide)) cj ?_;intro de df dg dh b5 ck;refine go ?_;replace ac:=(ac.gr b1).kpp b5;replace ab:=(ab.grow b1).kpp b5;exact ⟨am,by omega,rfl,⟨_,_,_,_,_,_,rfl,hm,ab,ac,ck,rfl⟩⟩
   cases hm;exact ⟨rfl,_,_,_,rfl,ab.fin (cm [(2,c1)]),ab.fo ad⟩
  refine go ?_;refine Yc hm (fun b2 hm=>go ?_) fun b2 hm=>go ?_
  ·refine lV (.bool (decide (aj<8))) (Xr (congrArg Value.bool b2) rfl)<|Zl ?_;exact ⟨rfl,_,_,hm,ab,ac,ad,rfl⟩
  refine lV (.bool false) (Xq (congrArg Value.bool b2) rfl)<|Zl ?_;exact ⟨rfl,_,_,hm,ab,ac,ad,rfl⟩
theorem Zxz {n:Zr}:∀ (l:List Int) (k:Nat),(∀ i,i<l.length→ -1≤l.getD i 0∧l.getD i 0<(cnt n (k+i):Int))→Sq n l k=true
 | [],k,_=>rfl
 | x :: l,k,h=>by
  have h0:=h 0 (by simp)
  have ih:=Zxz (n:=n) l (k+1) fun i hi=>by
   have:=h (i+1) (by rw [nC];omega)
   rw [show k+(i+1)=k+1+i by omega] at this
   exact this
  rw [Nat.add_zero] at h0
  rw [Sq,ih,Bool.and_true,decide_eq_true (show -1≤x from h0.1),Bool.true_and]
  exact decide_eq_true h0.2
theorem Zj7 {n:Zr} {o:List R5} (h:∀ q ∈ o,Yp n q):Zac n o=true∧Zty o=true:=by
 constructor
 ·rw [Zac,List.all_eq_true]
  intro q hq
  have h1:=h q hq
  rw [decide_eq_true h1.len,Bool.true_and]
  refine Zxz q 0 fun i hi=>?_
  have:=h1.ok i hi
  rw [Nat.zero_add];omega
 ·rw [Zty,List.all_eq_true]
  intro q hq
  rw [List.all_eq_true]
  intro x hx
  obtain ⟨i,hi,rfl⟩:=List.getElem_of_mem hx
  have:=(h q hq).ok i hi
  rw [Xx hi] at this
  exact decide_eq_true this.1
section
variable {N:Nat} {n:Zr} (hf:Yo N n) (hN:2000000<N)
include hf
theorem Zvr {v:Nat} (hv:v<n.2.1.length) {row:List Int} (hrow:row.length=v) (kk:Int→List Int→Option R9) {x:Int} (hx:0≤x):∃ z:Int,0≤z∧z<(cnt n v:Int)∧Zfj n (v:Int) row kk x=kk ((v+1:Nat):Int) (row++[z]):=by
 have hle:=hf.le
 have hvv:v<n.2.2.1.length:=by rw [hf.ev.v];exact hv
 have hc:=Zah hf.ev hv
 have e:cnt n v=n.2.2.1[v].length:=by rw [cnt,Xx hvv]
 rw [e] at hc ⊢
 refine ⟨Int.tmod x (n.2.2.1[v].length:Int),Int.tmod_nonneg _ hx,Int.tmod_lt_of_pos _ (by omega),?_⟩
 rw [Zfj,if_pos (dT hx),Z5 hvv,oB,Z9 (by omega),Zhz,Z9 (by simp only [List.length_singleton,maxLen];omega),Zk9,wS (by omega)]
theorem Z4u {v:Nat} (hv:v<n.2.1.length) {row:List Int} (hrow:row.length=v) (kk:Int→List Int→Option R9) {x:Int} (h1:-9223372036854775808≤x) (h2:x≤9223372036854775807):∃ z:Int,0≤z∧z<(cnt n v:Int)∧Zdd n true (v:Int) row kk x=kk ((v+1:Nat):Int) (row++[z]):=by
 rw [Zdd]
 by_cases h:x<0
 ·rw [if_pos (dT h),Zfk,if_pos rfl,Z0 (x:=x+1) (by omega),Z0 (by omega)]
  exact Zvr hf hv hrow kk (by omega)
 ·rw [if_neg (dF h),Zfk,if_neg (by decide)]
  exact Zvr hf hv hrow kk (by omega)
theorem Zvt {r:List R5} {i:Nat} (hi:i<r.length) (hq:∀ x ∈ r[i],-9223372036854775808≤x∧x≤9223372036854775807) {out:List R5} (hout:out.length≤8) (hi8:i≤8) (kk:List R5→Int→Option R9):∀ (f v:Nat) (row:List Int),v≤n.2.1.length→n.2.1.length<f+v→row.length=v→(∀ j,j<v→0≤row.getD j 0∧row.getD j 0<(cnt n j:Int))→
  ∃ R,Yp n R∧Uq N n r true out (i:Int) kk f (v:Int) row=kk (out++[R]) ((i+1:Nat):Int)
 | 0,v,row,h1,h2,_,_=>by omega
 | f+1,v,row,h1,h2,h3,h4=>by
  rw [Uq.eq_2]
  by_cases hv:v<n.2.1.length
  ·have fin:∀ x:Int,-9223372036854775808≤x→x≤9223372036854775807→∃ R,Yp n R∧Zdd n true (v:Int) row (Uq N n r true out (i:Int) kk f) x=kk (out++[R]) ((i+1:Nat):Int):=fun x x1 x2=>by
    obtain ⟨z,z1,z2,z3⟩:=Z4u hf hv h3 (Uq N n r true out (i:Int) kk f) x1 x2
    obtain ⟨R,R1,R2⟩:=Zvt hi hq hout hi8 kk f (v+1) (row++[z]) (by omega) (by omega) (by rw [nA,List.length_singleton,h3]) fun j hj=>by
     rw [List.getD_eq_getElem?_getD]
     by_cases e:j=v
     ·subst e
      rw [List.getElem?_append_right (by omega),h3,Nat.sub_self]
      exact ⟨z1,z2⟩
     ·rw [List.getElem?_append_left (by omega),← List.getD_eq_getElem?_getD]
      exact h4 j (by omega)
    exact ⟨R,R1,z3.trans R2⟩
   rw [if_pos (dT (by omega)),Z5 hi,oB]
   by_cases hx:v<r[i].length
   ·have:=hq _ (List.getElem_mem hx)
    rw [if_pos (dT (by omega)),Z5 hx,oB]
    exact fin _ this.1 this.2
   ·rw [if_neg (dF (by omega))]
    exact fin 0 (by decide) (by decide)
  ·refine ⟨row,⟨by omega,fun j hj=>h4 j (by omega)⟩,?_⟩
   rw [if_neg (dF (by omega)),Z9 (by simp only [List.length_singleton,maxLen];omega),wS (by omega)]
include hN
theorem Zvs {r:List R5} (hq:∀ l ∈ r,∀ x ∈ l,-9223372036854775808≤x∧x≤9223372036854775807):∀ (m f i:Nat) (out:List R5),i+m=8→m<f→out.length=i→(∀ q ∈ out,Yp n q)→
  ∃ o,Ue N n r true f out (i:Int)=some o∧(∀ q ∈ o,Yp n q)∧o.length≤8
 | m,0,i,out,_,h2,_,_=>by omega
 | m,f+1,i,out,h1,h2,h3,h4=>by
  rw [Ue.eq_2]
  by_cases hi:i<r.length
  ·rw [if_pos (dT (by omega)),Zfi]
   cases m with
   | zero=>rw [if_neg (dF (by omega))];exact ⟨out,rfl,h4,by omega⟩
   | succ m=>
    have hle:=hf.le
    obtain ⟨R,R1,R2⟩:=Zvt hf hi (hq _ (List.getElem_mem hi)) (out:=out) (by omega) (by omega) (Ue N n r true f) N 0 [] (Nat.zero_le _) (by omega) rfl fun j hj=>by omega
    obtain ⟨o,o1,o2,o3⟩:=Zvs hq m f (i+1) (out++[R]) (by omega) (by omega) (by rw [nA,List.length_singleton,h3]) fun q hq=>by
     rcases List.mem_append.1 hq with h | h
     ·exact h4 q h
     ·rw [List.mem_singleton] at h;subst h;exact R1
    rw [if_pos (dT (by omega))]
    exact ⟨o,R2.trans o1,o2,o3⟩
  ·rw [if_neg (dF (by omega)),Zfi,if_neg (by decide)]
   exact ⟨out,rfl,h4,by omega⟩
theorem Z4v {r:List R5} (hq:∀ l ∈ r,∀ x ∈ l,-9223372036854775808≤x∧x≤9223372036854775807):∃ o,Zfh N n r true=some o∧(∀ q ∈ o,Yp n q)∧o.length≤8:=by
 rw [Zfh]
 exact Zvs hf hN hq 8 N 0 [] (by omega) (by omega) rfl fun q hq=>by cases hq
end
def Zi3 (aa:Int) (kk_L2:(Int→Option Bool)) (ab:Bool):Option Bool:=
  if ab=true then (some false) else (kk_L2 (i64.wrap (aa+1)))
def Za6 (N:Nat) (aa:R0) (ab:Int) (kk_L1:(Int→Option Bool)):Nat→Int→Option Bool
  | 0,_=>none
  | ad+1,ac=>(Zm aa.2.2.2.1 ab).bind fun ae=>if (decide (ac<(ae.length:Int)))=true then ((Zm ae ac).bind fun af=>if (decide (af<0))=true then (Zi3 ac (Za6 N aa ab kk_L1 ad) true) else (Zi3 ac (Za6 N aa ab kk_L1 ad) (decide ((aa.2.1.length:Int)≤af)))) else ((Zm aa.2.2.1 ab).bind fun ag=>if (decide ((ag.length:Int)=0))=true then (some false) else (kk_L1 (i64.wrap (ab+1))))
termination_by structural x=>x
def Zi4 (aa:Int) (kk_L3:(Int→Option Bool)) (ab:Bool):Option Bool:=
  if ab=true then (some false) else (kk_L3 (i64.wrap (aa+1)))
def Za7 (N:Nat) (ab:R0) (ac:List Int):Nat→Int→Option Bool
  | 0,_=>none
  | ad+1,aa=>if (decide (aa<(ab.2.1.length:Int)))=true then ((Zm ab.2.2.2.1 aa).bind fun ag=>(Ziz N ag ac).bind fun ae=>(Zm ac aa).bind fun af=>(Zi0 ae af).bind fun ah=>if ah=true then (Zi4 aa (Za7 N ab ac ad) true) else ((Zm ab.2.2.2.2 aa).bind fun ai=>Zi4 aa (Za7 N ab ac ad) (!decide ((ai.length:Int)=(i64.wrap (ae * af)))))) else (some true)
termination_by structural x=>x
def Q8 (N:Nat) (aa:R0):Nat→Int→Option Bool
  | 0,_=>none
  | ac+1,ab=>if (decide (ab<(aa.2.1.length:Int)))=true then (Za6 N aa ab (Q8 N aa ac) N 0) else ((Zgp N (aa.1,aa.2.1,aa.2.2.1,aa.2.2.2.1,aa.2.2.2.2)).bind fun ad=>Za7 N aa ad N 0)
termination_by structural x=>x
def Zgo (N:Nat) (aa:R0) (ab:Bool):Option Bool:=
  if ab=true then (some false) else (Q8 N aa N 0)
def Zgn (N:Nat) (aa:R0):Option Bool:=
  if (!decide ((aa.2.2.1.length:Int)=(aa.2.1.length:Int)))=true then (Zgo N aa true) else (if (!decide ((aa.2.2.2.1.length:Int)=(aa.2.1.length:Int)))=true then (Zgo N aa true) else (Zgo N aa (!decide ((aa.2.2.2.2.length:Int)=(aa.2.1.length:Int)))))
theorem Z1j {N ah ai aj ak:Nat} {al am an ao:Option Addr} {col:Ze} {w0:World} {aa:R0} {r:Bool} (hm:Zgn N aa=some r) (a8:Sl Za.str col w0 al ah aa.2.1) (ax:Sl (Za.slice Za.str) col w0 am ai aa.2.2.1) (af:Sl (Za.slice (Za.int .i64)) col w0 an aj aa.2.2.2.1) (ay:Sl (Za.slice (Za.pair (Za.pair Za.bool (Za.slice (Za.int .u32))) (Za.slice (Za.int .u32)))) col w0 ao ak aa.2.2.2.2):
    Calls prog 21 #[(.agg #[.string aa.1,.slice al aa.2.1.length ah,.slice am aa.2.2.1.length ai,.slice an aa.2.2.2.1.length aj,.slice ao aa.2.2.2.2.length ak])] w0 (fun e w'=>e= .returned ((.bool r))∧Below w0.heap.size w0 w'):=by
 refine Xf 2 (m:=111) func21 rfl rfl rfl rfl rfl ?_;rw [Zgn.eq_1] at hm;have ab:=St.start col w0;refine go ?_;refine Xl (col:=(Zj col)) 1 rfl ?_;intro au cl cn bz ac;refine go ?_;refine Xd ac<|lV _ (Qg underlying22 rfl)<|Yv rfl<|Zl<|Zs<|Zs ?_;replace a8:=a8.keep (Zi.start col w0);replace ax:=ax.keep (Zi.start col w0);replace af:=af.keep (Zi.start col w0);replace ay:=ay.keep (Zi.start col w0);replace ab:=ab.grow bz;refine Wp.cutK [1,3,1000000] (fun f a9=>∃ ba bb,Zgo N aa bb=some r∧St w0 (Zj col) ba a9∧Zf 27 1 ba a9 au #[.string aa.1,.slice al aa.2.1.length ah,.slice am aa.2.2.1.length ai,.slice an aa.2.2.2.1.length aj,.slice ao aa.2.2.2.2.length ak]∧[31].map f=[.bool bb]) ?_ ?_
 ·intro f a9 hJ;obtain ⟨ba,bb,hm,ab,ac,hs⟩:=hJ;rw [Zgo.eq_1] at hm;refine .lL [31] hs ?_;refine Zo hm (fun hb hm=>go ?_) fun hb hm=>go ?_
  ·cases hm;exact ⟨rfl,rfl,ab.below⟩
  refine Zu [1,3,1000000] (fun n f bc=>∃ bd az ap,ap=n∧Q8 N aa ap az=some r∧St w0 (Zj col) bd bc∧Zf 27 1 bd bc au #[.string aa.1,.slice al aa.2.1.length ah,.slice am aa.2.2.1.length ai,.slice an aa.2.2.2.1.length aj,.slice ao aa.2.2.2.2.length ak]∧[4].map f=[.int .i64 az]) N ⟨_,0,_,rfl,hm,ab,ac,rfl⟩ ?_;clear hm;intro n f bc hI;obtain ⟨bd,az,ap,hn,hm,ab,ac,hs⟩:=hI;subst hn;refine .lL [4] hs ?_
  cases ap with
  | zero=>rw [Q8.eq_1] at hm;cases hm
  | succ ap=>
   rw [Q8.eq_2] at hm;refine go ?_;refine Zo hm (fun hb hm=>go ?_) fun hb hm=>go ?_
   ·refine Zu [1,3,4,1000000] (fun n f be=>∃ bf a3 aq,aq=n∧Za6 N aa az (Q8 N aa ap) aq a3=some r∧St w0 (Zj col) bf be∧Zf 27 1 bf be au #[.string aa.1,.slice al aa.2.1.length ah,.slice am aa.2.2.1.length ai,.slice an aa.2.2.2.1.length aj,.slice ao aa.2.2.2.2.length ak]∧[5].map f=[.int .i64 a3]) N ⟨_,0,_,rfl,hm,ab,ac,rfl⟩ ?_;clear hm;intro n f be hI;obtain ⟨bf,a3,aq,hn,hm,ab,ac,hs⟩:=hI;subst hn;refine .lL [5] hs ?_
    cases aq with
    | zero=>rw [Za6.eq_1] at hm;cases hm
    | succ aq=>
     rw [Za6.eq_2] at hm;refine go ?_;refine Xd ac<|Xp rfl ?_;obtain ⟨co,ag,hm⟩:=bZ hm;refine lI ag ((af.ks ab).addr ag) ?_;obtain ⟨_,b0,b1⟩:=(af.ks ab).atN ag;obtain ⟨⟨cp,cq,rfl,cr⟩,_⟩:=b0;refine lW b1.one<|go ?_;refine Zo hm (fun hb hm=>?_) fun hb hm=>go ?_
     ·refine X0<|Zs<|Zbd<|Zs ?_;refine Wp.cutK [1,3,4,5,1000000] (fun f bg=>∃ bh bi,Zi3 a3 (Za6 N aa az (Q8 N aa ap) aq) bi=some r∧St w0 (Zj col) bh bg∧Zf 27 1 bh bg au #[.string aa.1,.slice al aa.2.1.length ah,.slice am aa.2.2.1.length ai,.slice an aa.2.2.2.1.length aj,.slice ao aa.2.2.2.2.length ak]∧[67].map f=[.bool bi]) ?_ ?_
      ·intro f bg hJ;obtain ⟨bh,bi,hm,ab,ac,hs⟩:=hJ;rw [Zi3.eq_1] at hm;refine .lL [67] hs ?_;refine Zo hm (fun hb hm=>go ?_) fun hb hm=>go ?_
       ·cases hm;exact ⟨rfl,rfl,ab.below⟩
       exact ⟨aq,by omega,rfl,⟨_,_,_,rfl,hm,ab,ac,rfl⟩⟩
      refine Wl<|Xd ac<|Xp rfl<|lI ag ((af.ks ab).addr ag) ?_;obtain ⟨_,b2,b3⟩:=(af.ks ab).atN ag;obtain ⟨⟨cs,ct,rfl,bs⟩,_⟩:=b2;refine lW b3.one<|Xp rfl ?_;obtain ⟨b4,av,hm⟩:=bZ hm;refine lI av (bs.addr av)<|lW (bs.atInt av) ?_;refine go ?_;refine Yc hm (fun bj hm=>go ?_) fun bj hm=>go ?_
      ·refine lV (.bool true) (Xr (congrArg Value.bool bj) rfl)<|Zl ?_;exact ⟨rfl,_,_,hm,ab,ac,rfl⟩
      refine Ya ⟨_,_,rfl⟩ ?_;refine go ?_;refine lW ((ac.atN).nth (q:=3) rfl)<|go ?_;refine lI ag ((af.ks ab).addr ag) ?_;refine go ?_;obtain ⟨_,b5,b6⟩:=(af.ks ab).atN ag;obtain ⟨⟨cu,cv,rfl,bt⟩,_⟩:=b5;refine lW b6.one<|go ?_;refine lI av (bt.addr av) ?_;refine go ?_;refine lW (bt.atInt av)<|go ?_;refine lV (.bool (decide ((aa.2.1.length:Int)≤b4))) (Xq (congrArg Value.bool bj) rfl)<|Zl ?_;exact ⟨rfl,_,_,hm,ab,ac,rfl⟩
     refine Xd ac<|Xp rfl ?_;obtain ⟨cw,bk,hm⟩:=bZ hm;refine lI bk ((ax.ks ab).addr bk) ?_;obtain ⟨_,b7,b8⟩:=(ax.ks ab).atN bk;obtain ⟨⟨cx,cy,rfl,cz⟩,_⟩:=b7;refine lW b8.one<|go ?_;refine Zo hm (fun hb hm=>go ?_) fun hb hm=>go ?_
     ·cases hm;exact ⟨rfl,rfl,ab.below⟩
     exact ⟨ap,by omega,rfl,⟨_,_,_,rfl,hm,ab,ac,rfl⟩⟩
   refine lV _ (Z2 isAgg27 sizeOf27 ac) ?_;obtain ⟨a4,b9,hm⟩:=bZ hm;refine Zk (Z1k 2 b9 (a8.ks ab) (ax.ks ab) (af.ks ab) (ay.ks ab)) ?_;rintro _ c0 ⟨c1,bu,bv,rfl,bw,ad⟩;refine ⟨_,rfl,go ?_⟩;replace ac:=ac.gr bw;replace ab:=ab.grow bw;refine Zu [1,3,6,1000000] (fun n f a0=>∃ ae a5 ar,ar=n∧Za7 N aa a4 ar a5=some r∧St w0 (Zj col) ae a0∧Zf 27 1 ae a0 au #[.string aa.1,.slice al aa.2.1.length ah,.slice am aa.2.2.1.length ai,.slice an aa.2.2.2.1.length aj,.slice ao aa.2.2.2.2.length ak]∧Zb (Za.int .i64) 3 2 ae a0 bu bv a4∧[7].map f=[.int .i64 a5]) N ⟨_,0,_,rfl,hm,ab,ac,ad,rfl⟩ ?_;clear hm;intro n f a0 hI;obtain ⟨ae,a5,ar,hn,hm,ab,ac,ad,hs⟩:=hI;subst hn;refine .lL [7] hs ?_
   cases ar with
   | zero=>rw [Za7.eq_1] at hm;cases hm
   | succ ar=>
    rw [Za7.eq_2] at hm;refine go ?_;refine Zo hm (fun hb hm=>go ?_) fun hb hm=>go ?_
    ·refine Xd ac<|Xp rfl ?_;obtain ⟨c2,bm,hm⟩:=bZ hm;refine lI bm ((af.ks ab).addr bm) ?_;obtain ⟨_,ca,cb⟩:=(af.ks ab).atN bm;obtain ⟨⟨c3,c4,rfl,cc⟩,_⟩:=ca;refine lW cb.one<|Yk rfl ?_;obtain ⟨cd,ce,hm⟩:=bZ hm;refine Zk (Z1h ce (cc.froz 2) (ad.toSlF (Zd.int .i64))) ?_;rintro _ bx ⟨rfl,a1⟩;refine ⟨_,rfl,?_⟩;replace a1:Zh ae a0 ae bx:=.of_below a1;refine go ?_;obtain ⟨cf,aw,hm⟩:=bZ hm;replace ad:=ad.gr a1;refine lI aw (ad.addr aw)<|lW (ad.atInt aw) ?_;obtain ⟨c5,cg,hm⟩:=bZ hm;refine Zk (Z1i (col:=ae) cg) ?_;rintro _ ch ⟨rfl,a2⟩;refine ⟨_,rfl,?_⟩;replace a2:Zh ae bx ae ch:=.of_below a2;refine Zk1 rfl<|Zl<|Zs ?_;replace ac:=(ac.gr a1).gr a2;replace ab:=(ab.grow a1).grow a2;replace ad:=ad.gr a2;refine Wp.cutK [1,3,6,7,1000000] (fun f a6=>∃ a7 bn,Zi4 a5 (Za7 N aa a4 ar) bn=some r∧St w0 (Zj col) a7 a6∧Zf 27 1 a7 a6 au #[.string aa.1,.slice al aa.2.1.length ah,.slice am aa.2.2.1.length ai,.slice an aa.2.2.2.1.length aj,.slice ao aa.2.2.2.2.length ak]∧Zb (Za.int .i64) 3 2 a7 a6 bu bv a4∧[110].map f=[.bool bn]) ?_ ?_
     ·intro f a6 hJ;obtain ⟨a7,bn,hm,ab,ac,ad,hs⟩:=hJ;rw [Zi4.eq_1] at hm;refine .lL [110] hs ?_;refine Zo hm (fun hb hm=>go ?_) fun hb hm=>go ?_
      ·cases hm;exact ⟨rfl,rfl,ab.below⟩
      exact ⟨ar,by omega,rfl,⟨_,_,_,rfl,hm,ab,ac,ad,rfl⟩⟩
     refine Vj (col:=ae) (by kernel_rfl) (by kernel_rfl)<|go ?_;refine Yc hm (fun bo hm=>go ?_) fun bo hm=>go ?_
     ·refine qv (v:=(.bool true)) rfl (fun _ hC=>Xr (congrArg Value.bool bo) rfl) ?_;refine Ws ?_;intro c6 hC;replace hC:=hC.bl ae;replace ad:=ad.gr hC;replace ac:=ac.gr hC;replace ab:=ab.grow hC;exact ⟨rfl,_,_,hm,ab,ac,ad,rfl⟩
     refine qF ⟨_,_,rfl⟩ ?_;refine go ?_;refine qW (fun _ hC=>((ac.atN).nth (q:=4) rfl).gr (hC.bl ae)) ?_;refine go ?_;obtain ⟨ci,bp,hm⟩:=bZ hm;refine qI bp ((ay.ks ab).addr bp) ?_;refine go ?_;obtain ⟨_,cj,ck⟩:=(ay.ks ab).atN bp;obtain ⟨⟨c7,c8,rfl,c9⟩,_⟩:=cj;refine qW (fun _ hC=>ck.one.gr (hC.bl ae)) ?_;refine go ?_;refine qI aw (ad.addr aw) ?_;refine go ?_;refine qW (fun _ hC=>(ad.gr (hC.bl ae)).atInt aw) ?_;refine go ?_;refine qv (v:=(.bool (!decide ((ci.length:Int)=(i64.wrap (cd * cf)))))) rfl (fun _ hC=>Xq (congrArg Value.bool bo) rfl) ?_;refine Ws ?_;intro da hC;replace hC:=hC.bl ae;replace ad:=ad.gr hC;replace ac:=ac.gr hC;replace ab:=ab.grow hC;exact ⟨rfl,_,_,hm,ab,ac,ad,rfl⟩
    cases hm;exact ⟨rfl,rfl,ab.below⟩
 refine Wl<|Xd ac ?_;refine go ?_;refine Yc hm (fun bq hm=>go ?_) fun bq hm=>go ?_
 ·refine lV (.bool true) (Xr (congrArg Value.bool bq) rfl)<|W2 rfl<|lP 25 rfl rfl<|lP 25 rfl rfl<|lP 25 rfl rfl<|lP 25 rfl rfl<|lP 25 rfl rfl<|lV (.bool true) (Xr rfl rfl)<|Zl ?_;exact ⟨rfl,_,_,hm,ab,ac,rfl⟩
 refine Ya ⟨_,_,rfl⟩ ?_;refine go ?_;refine lW ((ac.atN).nth (q:=3) rfl)<|go ?_;refine lV (.bool (!decide ((aa.2.2.2.1.length:Int)=(aa.2.1.length:Int)))) (Xq (congrArg Value.bool bq) rfl)<|W2 rfl ?_;refine Yc hm (fun br hm=>go ?_) fun br hm=>go ?_
 ·refine lV (.bool true) (Xr (congrArg Value.bool br) rfl)<|Zl ?_;exact ⟨rfl,_,_,hm,ab,ac,rfl⟩
 refine Ya ⟨_,_,rfl⟩ ?_;refine go ?_;refine lW ((ac.atN).nth (q:=4) rfl)<|go ?_;refine lV (.bool (!decide ((aa.2.2.2.2.length:Int)=(aa.2.1.length:Int)))) (Xq (congrArg Value.bool br) rfl)<|Zl ?_;exact ⟨rfl,_,_,hm,ab,ac,rfl⟩
section
variable {N W:Nat} {n:Zr} (hf:Yo N n) (hs:Y8 n W) (hN:2000000<N)
include hf hs hN
theorem Zyg:∀ (f v:Nat),v≤n.2.1.length→n.2.1.length<f+v→Za7 N n (n.2.2.1.map fun l=>(l.length:Int)) f (v:Int)=some true
 | 0,v,h1,h2=>by omega
 | f+1,v,h1,h2=>by
  have hle:=hf.le
  rw [Za7.eq_2]
  by_cases hv:v<n.2.1.length
  ·have hvv:v<n.2.2.1.length:=by rw [hf.ev.v];exact hv
   have hpv:v<n.2.2.2.1.length:=by rw [hf.ev.p];exact hv
   have htv:v<n.2.2.2.2.length:=by rw [hf.ev.t];exact hv
   obtain ⟨c1,c2,c3⟩:=hf.rows hv
   have hcp:=Zah hf.ev hv
   have hk:n.2.2.1[v].length=cnt n v:=by rw [cnt,Xx hvv]
   have ch:=Z2c (N:=N) (ps:=n.2.2.2.1[v]) (vals:=n.2.2.1) hs.vl hf.ev.ne (hf.ev.par (List.getElem_mem hpv)) (by have:=hs.pn.ls _ (List.getElem_mem hpv);omega) (by omega)
   have ov:=Z41 (r:=Yg n.2.2.1 n.2.2.2.1[v] 1) (c:=n.2.2.1[v].length) (by omega)
   rw [Xx hpv,Xx htv,← hk] at c1
   rw [Xx htv] at c2
   rw [if_pos (dT (by omega)),Z5 hpv,oB,ch,oB,Zq3 hvv,oB,ov,oB,if_neg (dF (by omega)),Z5 htv,oB,← Int.natCast_mul,c1,Z0 (by omega),decide_eq_true rfl,Zi4,if_neg (by decide),wS (by omega)]
   exact Zyg f (v+1) (by omega) (by omega)
  ·rw [if_neg (dF (by omega))]
omit hN in
theorem Zyf {v:Nat} (hv:v<n.2.1.length) (kk:Int→Option Bool):∀ (f i:Nat),i≤(n.2.2.2.1.getD v []).length→(n.2.2.2.1.getD v []).length<f+i→Za6 N n (v:Int) kk f (i:Int)=kk ((v+1:Nat):Int)
 | 0,i,h1,h2=>by omega
 | f+1,i,h1,h2=>by
  have hle:=hf.le
  have hvv:v<n.2.2.1.length:=by rw [hf.ev.v];exact hv
  have hpv:v<n.2.2.2.1.length:=by rw [hf.ev.p];exact hv
  have hcp:=Zah hf.ev hv
  have hk:n.2.2.1[v].length=cnt n v:=by rw [cnt,Xx hvv]
  have ih:=Zyf hv kk f (i+1)
  rw [Xx hpv] at h1 h2 ih
  have hpl:=hs.pn.ls _ (List.getElem_mem hpv)
  rw [Za6.eq_2,Z5 hpv,oB]
  by_cases hi:i<n.2.2.2.1[v].length
  ·have hp:=hf.pars hv n.2.2.2.1[v][i] (by rw [Xx hpv];exact List.getElem_mem hi)
   rw [if_pos (dT (by omega)),Z5 hi,oB,if_neg (dF (by omega)),decide_eq_false (show ¬ (n.2.1.length:Int)≤n.2.2.2.1[v][i] by omega),Zi3,if_neg (by decide),wS (by omega)]
   exact ih (by omega) (by omega)
  ·rw [if_neg (dF (by omega)),Z5 hvv,oB,if_neg (dF (by omega)),wS (by omega)]
theorem Zye:∀ (f v:Nat),v≤n.2.1.length→n.2.1.length<f+v→Q8 N n f (v:Int)=some true
 | 0,v,h1,h2=>by omega
 | f+1,v,h1,h2=>by
  have hle:=hf.le
  have hv':=hf.ev.v
  rw [Q8.eq_2]
  by_cases hv:v<n.2.1.length
  ·have hpv:v<n.2.2.2.1.length:=by rw [hf.ev.p];exact hv
   have hpl:=hs.pn.ls _ (List.getElem_mem hpv)
   rw [if_pos (dT (by omega))]
   exact (Zyf hf hs hv (Q8 N n f) N 0 (Nat.zero_le _) (by rw [Xx hpv];omega)).trans (Zye f (v+1) (by omega) (by omega))
  ·have sz:Zgp N (n.1,n.2.1,n.2.2.1,n.2.2.2.1,n.2.2.2.2)=some (n.2.2.1.map fun l=>(l.length:Int)):=Z6d (n:=n) (by omega) (by omega)
   rw [if_neg (dF (by omega)),sz,oB]
   exact Zyg hf hs hN N 0 (Nat.zero_le _) (by omega)
theorem Z6a:Zgn N n=some true:=by
 have hle:=hf.le
 have hv:=hf.ev.v;have hp:=hf.ev.p;have ht:=hf.ev.t
 rw [Zgn,if_neg (by rw [decide_eq_true (by omega)];decide),if_neg (by rw [decide_eq_true (by omega)];decide),decide_eq_true (show (n.2.2.2.2.length:Int)=(n.2.1.length:Int) by omega),Zgo,if_neg (by decide)]
 exact Zye hf hs hN N 0 (Nat.zero_le _) (by omega)
end
theorem Z2a {N W:Nat} {n:Zr} (hs:Y8 n W) (hr:Xh N (8 * W+40)) (hN:2000000<N):∃ e,W8 N n=some e∧(e=0→Yo N n):=by
 have hnm:=hs.nm
 rw [W8]
 by_cases hv:n.2.2.1.length=n.2.1.length
 ·by_cases hp:n.2.2.2.1.length=n.2.1.length
  ·by_cases ht:n.2.2.2.2.length=n.2.1.length
   ·rw [if_neg (by rw [decide_eq_true (by omega)];decide),if_neg (by rw [decide_eq_true (by omega)];decide),show (!decide ((n.2.2.2.2.length:Int)=(n.2.1.length:Int)))=false by rw [decide_eq_true (by omega)];rfl,Q5,if_neg (show ¬ (false=true) by decide)]
    by_cases hk:1024<n.2.1.length
    ·rw [if_pos (dT (by omega))]
     exact ⟨4,rfl,fun h=>by cases h⟩
    ·rw [if_neg (dF (by omega))]
     have nn:Zdn (n.1,n.2.1,n.2.2.1,n.2.2.2.1,n.2.2.2.2)=some (Q9 n.2.1 n.2.2.1 n.2.1.length 0):=Zvl n hv
     rw [nn,oB]
     by_cases hnms:Q9 n.2.1 n.2.2.1 n.2.1.length 0=0
     ·rw [if_neg (by rw [decide_eq_true hnms];decide)]
      have hne:∀ l ∈ n.2.2.1,l≠[]:=fun l hl=>by
       obtain ⟨i,hi,rfl⟩:=List.mem_iff_getElem.1 hl
       have:=(Zvn _ 0 hnms i (by omega) (by omega)).1
       rw [Xx hi] at this;exact this
      have fin:∀ e,S3 N n.2.2.2.1=some e→e≠0→∃ e,((S3 N n.2.2.2.1).bind fun r_17=>if (!decide (r_17=0))=true then some r_17 else Zax N n n.2.2.2.2 0)=some e∧(e=0→Yo N n):=fun e h1 h3=>by
       rw [h1,oB,if_pos (by rw [decide_eq_false h3];decide)]
       exact ⟨e,rfl,fun h=>absurd h h3⟩
      rcases Zyc hs.pn hN with ⟨e,D,R,h3⟩ | ⟨_,_,l,_,_,_,_,D,R⟩ | ⟨hI,hT,l,ho,hok,hmx,hle,D,R⟩
      ·exact fin e (by rw [S3,D];rfl) (by rcases h3 with h | h <;> omega)
      ·exact fin 42 (by rw [S3,D];rfl) (by decide)
      ·have D':S3 N n.2.2.2.1=some 0:=by rw [S3,D];rfl
       have he:Tw n:=⟨hv,hp,ht,hI,hne⟩
       have ms:=Zpx (N:=N) hs he n.2.2.2.2 0 (by simp) (by omega)
       rw [D',oB,if_neg (by decide),ms,ht]
       by_cases hsh:Tu n.2.2.1 n.2.2.2.1 n.2.2.2.2 n.2.1.length 0=0
       ·have me:=Zpu (N:=N) (n:=n) (W:=W) (hr.mono (by omega)) n.2.2.2.2 (fun t h=>⟨hs.tl t h,hs.tq t h,hs.lim t h⟩)
        rw [if_pos hsh,me]
        by_cases hen:Zc0 n.2.2.2.2=true
        ·rw [if_pos hen]
         exact ⟨45,rfl,fun h=>by cases h⟩
        ·have m6:=Zpy (N:=N) hs he hsh hr (by omega) n.2.2.2.2 0 (by simp) (by omega)
         rw [if_neg hen,m6,ht]
         exact ⟨_,rfl,fun h=>⟨he,by omega,hnms,hsh,Bool.eq_false_iff.2 hen,h,hT,l,D,ho,R,hok,hle⟩⟩
       ·rw [if_neg hsh]
        exact ⟨_,rfl,fun h=>absurd h hsh⟩
     ·rw [if_pos (by rw [decide_eq_false hnms];decide)]
      exact ⟨_,rfl,fun h=>absurd h hnms⟩
   ·rw [if_neg (by rw [decide_eq_true (by omega)];decide),if_neg (by rw [decide_eq_true (by omega)];decide),decide_eq_false (by omega),Q5,if_pos (by decide)]
    exact ⟨60,rfl,fun h=>by cases h⟩
  ·rw [if_neg (by rw [decide_eq_true (by omega)];decide),if_pos (by rw [decide_eq_false (by omega)];decide),Q5,if_pos rfl]
   exact ⟨60,rfl,fun h=>by cases h⟩
 ·rw [if_pos (by rw [decide_eq_false (by omega)];decide),Q5,if_pos rfl]
  exact ⟨60,rfl,fun h=>by cases h⟩
def Zdb (N:Nat) (aa:Int) (ab:Int):Option R0:=
  (Zb0 N aa (i64.wrap (aa+ab))).bind fun ac=>(Zb0 N ab (i64.wrap (aa+ab))).bind fun ad=>some (⟨#[110]⟩,([⟨#[97]⟩]:List ByteArray),([([⟨#[120]⟩,⟨#[121]⟩]:List ByteArray)]:List R6),[([]:List Int)],[[((ac.1.1,ac.1.2),ac.2),((ad.1.1,ad.1.2),ad.2)]])
theorem Zhk {N:Nat} {col:Ze} {w0:World} {a6 a7:Int} {r:R0} (c1 c2 c3 c4:Nat) (hm:Zdb N a6 a7=some r):
    Calls prog 84 #[.int .i64 a6,.int .i64 a7] w0 (fun e w'=>∃ (col':Ze) (ra1:Option Addr) (rc2:Nat) (ra4:Option Addr) (rc5:Nat) (ra7:Option Addr) (rc8:Nat) (ra10:Option Addr) (rc11:Nat),e= .returned ((.agg #[.string r.1,.slice ra1 r.2.1.length rc2,.slice ra4 r.2.2.1.length rc5,.slice ra7 r.2.2.2.1.length rc8,.slice ra10 r.2.2.2.2.length rc11]))∧Zh col w0 col' w'∧Zb Za.str 9 c1 col' w' ra1 rc2 r.2.1∧Zb (Za.row 9 Za.str) 22 c2 col' w' ra4 rc5 r.2.2.1∧Zb (Za.row 3 (Za.int .i64)) 33 c3 col' w' ra7 rc8 r.2.2.2.1∧Zb (Za.row 39 (Za.pair (Za.pair Za.bool (Za.row 95 (Za.int .u32))) (Za.row 95 (Za.int .u32)))) 114 c4 col' w' ra10 rc11 r.2.2.2.2):=by
 refine Y5 (m:=22) func84 rfl rfl rfl ?_;rw [Zdb.eq_1] at hm;have ac:=St.start col w0;refine go ?_;refine Xg (col:=(Zj col)) #[.string (⟨#[]⟩),.slice none (([]:List ByteArray).length) 0,.slice none (([]:List R6).length) 0,.slice none (([]:List R5).length) 0,(.slice none (([]:List R7).length) 0)] 1 zeroValue27 ?_;intro b0 b1 bc bd ad;refine go ?_;refine Zub (col:=bc) ([⟨#[97]⟩]:List ByteArray) 2 ?_;intro be b2 bf a8 ae;refine Zub (col:=bf) ([⟨#[120]⟩,⟨#[121]⟩]:List ByteArray) 3 ?_;intro a9 b3 bg an bh;refine V0 (col:=bg) (r:=(Za.row 9 Za.str)) (xs:=([([⟨#[120]⟩,⟨#[121]⟩]:List ByteArray)]:List R6)) [.slice a9 (([⟨#[120]⟩,⟨#[121]⟩]:List ByteArray).length) 2] 3 (Y1.cons1 (cs:=[.slice a9 (([⟨#[120]⟩,⟨#[121]⟩]:List ByteArray).length) 2]) bh.has Rows.nil0) ?_;intro bi b4 bj ao af;refine V0 (col:=bj) (r:=(Za.row 3 (Za.int .i64))) (xs:=[([]:List Int)]) [.slice none (([]:List Int).length) 0] 4 (Y1.ofF (Rows.consF (r:=(Za.row 3 (Za.int .i64))) (x:=([]:List Int)) (cs:=[.slice none (([]:List Int).length) 0]) Zqt Rows.nil0)) ?_;intro bk b5 bm am ag;refine go ?_;obtain ⟨aa,bn,hm⟩:=bZ hm;refine Zk (Zkn (col:=bm) 5 6 bn) ?_;rintro _ b6 ⟨bo,ap,aq,ar,au,rfl,ai,av,aw⟩;refine ⟨_,rfl,go ?_⟩;obtain ⟨ab,bp,hm⟩:=bZ hm;refine Zk (Zkn (col:=bo) 7 8 bp) ?_;rintro _ ba ⟨ax,ay,az,a0,a1,rfl,ah,a2,a3⟩;refine ⟨_,rfl,?_⟩;replace av:=av.gr ah;replace aw:=aw.gr ah;have bq:=Xu.join (Xu.joinL (Zab aa.1.1) av.has) aw.has (by decide) (by decide);replace ae:=((((ae.gr an).gr ao).gr am).gr ai).gr ah;replace ae:=ae.recol 6 5 (by decide);replace af:=((af.gr am).gr ai).gr ah;replace af:=af.recol 6 5 (by decide);replace ag:=(ag.gr ai).gr ah;replace ag:=ag.recol 6 5 (by decide);replace a2:=a2.recol 6 5 (by decide);replace a3:=a3.recol 6 5 (by decide);replace ad:=(((((ad.gr a8).gr an).gr ao).gr am).gr ai).gr ah;replace ad:=ad.recol 6 5 (by decide);replace ac:=((((((ac.grow bd).grow a8).grow an).grow ao).grow am).grow ai).grow ah;replace ac:=ac.recol 6 5 (by decide) (by decide);have a4:Xu (Za.pair (Za.pair Za.bool (Za.row 95 (Za.int .u32))) (Za.row 95 (Za.int .u32))) 5 (Xm 6 5 ax) ba [.bool aa.1.1,.slice ap aa.1.2.length aq,.slice ar aa.2.length au] ((aa.1.1,aa.1.2),aa.2):=bq
 have br:=Xu.join (Xu.joinL (Zab ab.1.1) a2.has) a3.has (by decide) (by decide);replace ae:=ae.recol 8 7 (by decide);replace af:=af.recol 8 7 (by decide);replace ag:=ag.recol 8 7 (by decide);replace ad:=ad.recol 8 7 (by decide);replace ac:=ac.recol 8 7 (by decide) (by decide);replace a4:=a4.recol 8 7 (by decide);have bs:Xu (Za.pair (Za.pair Za.bool (Za.row 95 (Za.int .u32))) (Za.row 95 (Za.int .u32))) 7 (Xm 8 7 (Xm 6 5 ax)) ba [.bool ab.1.1,.slice ay ab.1.2.length az,.slice a0 ab.2.length a1] ((ab.1.1,ab.1.2),ab.2):=br;have bt:=Y1.cons (cs:=[.bool aa.1.1,.slice ap aa.1.2.length aq,.slice ar aa.2.length au]) a4 (Y1.cons1 (cs:=[.bool ab.1.1,.slice ay ab.1.2.length az,.slice a0 ab.2.length a1]) bs Rows.nil0) (by decide) (by decide);replace ae:=ae.recol 5 7 (by decide);replace af:=af.recol 5 7 (by decide);replace ag:=ag.recol 5 7 (by decide);replace ad:=ad.recol 5 7 (by decide);replace ac:=ac.recol 5 7 (by decide) (by decide);refine V0 (col:=(Xm 5 7 (Xm 8 7 (Xm 6 5 ax)))) (r:=(Za.pair (Za.pair Za.bool (Za.row 95 (Za.int .u32))) (Za.row 95 (Za.int .u32)))) (xs:=[((aa.1.1,aa.1.2),aa.2),((ab.1.1,ab.1.2),ab.2)]) [(.agg #[.bool aa.1.1,.slice ap aa.1.2.length aq,.slice ar aa.2.length au]),(.agg #[.bool ab.1.1,.slice ay ab.1.2.length az,.slice a0 ab.2.length a1])] 7 bt ?_;intro bb b7 bu aj bv;refine V0 (col:=bu) (r:=(Za.row 39 (Za.pair (Za.pair Za.bool (Za.row 95 (Za.int .u32))) (Za.row 95 (Za.int .u32))))) (xs:=[[((aa.1.1,aa.1.2),aa.2),((ab.1.1,ab.1.2),ab.2)]]) [.slice bb ([((aa.1.1,aa.1.2),aa.2),((ab.1.1,ab.1.2),ab.2)].length) 2] 7 (Y1.cons1 (cs:=[.slice bb ([((aa.1.1,aa.1.2),aa.2),((ab.1.1,ab.1.2),ab.2)].length) 2]) bv.has Rows.nil0) ?_;intro bw b8 b9 ak a5;refine lV (.agg #[.string (⟨#[110]⟩),.slice be (([⟨#[97]⟩]:List ByteArray).length) 1,.slice bi (([([⟨#[120]⟩,⟨#[121]⟩]:List ByteArray)]:List R6).length) 1,.slice bk ([([]:List Int)].length) 1,.slice bw ([[((aa.1.1,aa.1.2),aa.2),((ab.1.1,ab.1.2),ab.2)]].length) 1]) (Wc (l:=[_,_,_,_,_]) (qs:=[(0,1),(1,1),(2,1),(3,1),(4,1)]) underlying27 zeroValue27 ⟨rfl,sizeOf9,rfl,sizeOf22,rfl,sizeOf23,rfl,sizeOf24,rfl,sizeOf25,trivial⟩ rfl) ?_;replace ad:=(ad.gr aj).gr ak;refine Zz ad ?_;intro ca al bx bz;refine go ?_;cases hm;replace ae:=((ae.gr aj).gr ak).kp al;replace af:=((af.gr aj).gr ak).kp al;replace ag:=((ag.gr aj).gr ak).kp al;replace ac:=((ac.grow aj).grow ak).kp al bx
 replace a5:=a5.kp al;exact ⟨rfl,_,ra bz.atN,_,_,1,_,1,_,1,_,1,rfl,ac.fin (cm [(2,c1),(3,c2),(4,c3),(7,c4)]),ac.fo ae,ac.fo af,ac.fo ag,ac.fo a5⟩
theorem Z22:Wd prog 3 1 8:=⟨Tryz.t3,_,rfl,rfl,rfl,rfl,rfl⟩
def Zia (ad:R0) (ae:List Int) (ab:Int) (ac:List Int) (kk_L1:(Int→R5→Option R5)):List Int→Int→Option R5
  | [],aa=>(Zm ad.2.2.1 ab).bind fun af=>(Zm ae ab).bind fun ag=>Zt ((ac.length+[i64.wrap ((i64.wrap (aa * (af.length:Int)))+ag)].length) * 8≤140737488355328∧ac.length+[i64.wrap ((i64.wrap (aa * (af.length:Int)))+ag)].length≤maxLen) (kk_L1 (i64.wrap (ab+1)) (ac++[i64.wrap ((i64.wrap (aa * (af.length:Int)))+ag)]))
  | ah :: ai,aa=>(Zm ad.2.2.1 ah).bind fun aj=>(Zm ae ah).bind fun ak=>(Zia ad ae ab ac kk_L1 ai) (i64.wrap ((i64.wrap (aa * (aj.length:Int)))+ak))
termination_by structural x=>x
def Zfp (N:Nat) (aa:R0) (ac:List Int):Nat→Int→R5→Option R5
  | 0,_,_=>none
  | ae+1,ab,ad=>if (decide (ab<(aa.2.1.length:Int)))=true then ((Zm aa.2.2.2.1 ab).bind fun af=>Zia aa ac ab ad (Zfp N aa ac ae) af 0) else (some ad)
termination_by structural x=>x
def Zoy (N:Nat) (aa:R0) (ab:List Int):Option R5:=
  Zfp N aa ab N 0 ([]:List Int)
theorem Z0q {N ao ap aq ar bg:Nat} {au av aw ax a1:Option Addr} {col:Ze} {w0:World} {ab:R0} {ah r:R5} (c1:Nat) (hm:Zoy N ab ah=some r) (b3:Sl Za.str col w0 au ao ab.2.1) (ai:Sl (Za.slice Za.str) col w0 av ap ab.2.2.1) (ay:Sl (Za.slice (Za.int .i64)) col w0 aw aq ab.2.2.2.1) (b4:Sl (Za.slice (Za.pair (Za.pair Za.bool (Za.slice (Za.int .u32))) (Za.slice (Za.int .u32)))) col w0 ax ar ab.2.2.2.2) (h1:Sl (Za.int .i64) col w0 a1 bg ah):
    Calls prog 111 #[(.agg #[.string ab.1,.slice au ab.2.1.length ao,.slice av ab.2.2.1.length ap,.slice aw ab.2.2.2.1.length aq,.slice ax ab.2.2.2.2.length ar]),.slice a1 ah.length bg] w0 (fun e w'=>∃ (col':Ze) (ra1:Option Addr) (rc2:Nat),e= .returned ((.slice ra1 r.length rc2))∧Zh col w0 col' w'∧Zb (Za.int .i64) 3 c1 col' w' ra1 rc2 r):=by
 refine Xf 4 (m:=58) func111 rfl rfl rfl rfl rfl ?_;rw [Zoy.eq_1] at hm;have aa:=St.start col w0;refine go ?_;refine Xl (col:=(Zj col)) 1 rfl ?_;intro bh b5 b6 bm ac;refine go ?_;refine Xd ac ?_;refine go ?_;replace aa:=aa.grow bm;refine Zu [1,12,2,1000000] (fun n f az=>∃ a0 a2 a3 a4 aj ag,ag=n∧Zfp N ab ah ag a2 aj=some r∧St w0 (Zj col) a0 az∧Zf 27 1 a0 az bh #[.string ab.1,.slice au ab.2.1.length ao,.slice av ab.2.2.1.length ap,.slice aw ab.2.2.2.1.length aq,.slice ax ab.2.2.2.2.length ar]∧Zb (Za.int .i64) 3 2 a0 az a3 a4 aj∧[13,5].map f=[.int .i64 a2,.slice a3 aj.length a4]) N ⟨_,0,none,0,_,_,rfl,hm,aa,ac,Zb.nil,rfl⟩ ?_;clear hm;intro n f az hI;obtain ⟨a0,a2,a3,a4,aj,ag,hn,hm,aa,ac,ae,hs⟩:=hI;subst hn;refine .lL [13,5] hs ?_;replace ai:=ai.keep (Zi.start col w0);replace ay:=ay.keep (Zi.start col w0);replace h1:=h1.keep (Zi.start col w0)
 cases ag with
 | zero=>rw [Zfp.eq_1] at hm;cases hm
 | succ ag=>
  rw [Zfp.eq_2] at hm;refine go ?_;refine Zo hm (fun hb hm=>go ?_) fun hb hm=>go ?_
  ·refine Xd ac<|Xp rfl ?_;obtain ⟨ak,a9,hm⟩:=bZ hm;refine lI a9 ((ay.ks aa).addr a9) ?_;obtain ⟨_,bn,bo⟩:=(ay.ks aa).atN a9;obtain ⟨⟨bp,bq,rfl,af⟩,_⟩:=bn;refine lW bo.one<|go ?_;refine Zu [1,12,13,2,20,21,5,6,1000000] (fun n f al=>∃ ad am a5 an,n=an.length∧ak.drop am=an∧Zia ab ah a2 aj (Zfp N ab ah ag) an a5=some r∧St w0 (Zj col) ad al∧Zf 27 1 ad al bh #[.string ab.1,.slice au ab.2.1.length ao,.slice av ab.2.2.1.length ap,.slice aw ab.2.2.2.1.length aq,.slice ax ab.2.2.2.2.length ar]∧Sl (Za.int .i64) ad al bp bq ak∧Zb (Za.int .i64) 3 2 ad al a3 a4 aj∧[22,7].map f=[.int .i64 am,.int .i64 a5]) ak.length ⟨_,0,0,_,rfl,rfl,hm,aa,ac,af,ae,rfl⟩ ?_;clear hm;intro n f al hI;obtain ⟨ad,am,a5,an,hn,hl,hm,aa,ac,af,ae,hs⟩:=hI;subst hn;refine .lL [22,7] hs ?_
   cases an with
   | nil=>
    have hk:¬ ((am:Int)<(ak.length:Int)):=by have:=List.drop_eq_nil_iff.1 hl;omega
    have hkb:=decide_eq_false hk;rw [Zia.eq_1] at hm;refine go ?_;refine Xs (congrArg Value.bool hkb)<|go ?_;refine Wh (col:=ad) [(0,1),(1,1),(2,1),(3,0),(4,1),(5,1),(6,0),(7,1),(8,1),(9,1),(10,1),(11,1),(12,0),(13,1),(14,3),(15,2),(16,1)] (by kernel_rfl) (by kernel_rfl)<|xu rfl rfl (fun _=>Uj rfl) ?_;refine xu rfl rfl (fun _=>Yh rfl) ?_;refine xF ⟨_,_,rfl⟩ ?_;refine xW (fun _ hC=>((ac.atN).nth (q:=2) rfl).gr (hC.bl ad)) ?_;refine xu rfl rfl (fun _=>Yh rfl) ?_;obtain ⟨br,a6,hm⟩:=bZ hm;refine xu rfl rfl (fun _=>Ym underlying23 sizeOf22 rfl rfl (Z4 a6).1 (Z4 a6).2.1 ((ai.ks aa).addr a6)) ?_;obtain ⟨_,bs,bt⟩:=(ai.ks aa).atN a6;obtain ⟨⟨b7,b8,rfl,b9⟩,_⟩:=bs;refine xW (fun _ hC=>bt.one.gr (hC.bl ad)) ?_;refine xu rfl rfl (fun _=>Qg underlying22 rfl) ?_;refine xu rfl rfl (fun _=>Zgx _ _ rfl rfl) ?_;refine xu rfl rfl (fun _=>Uj rfl) ?_;refine xu rfl rfl (fun _=>Yh rfl) ?_;obtain ⟨bu,a7,hm⟩:=bZ hm;refine xu rfl rfl (fun _=>Ym underlying33 sizeOf3 rfl rfl (Z4 a7).1 (Z4 a7).2.1 ((h1.ks aa).addr a7)) ?_;refine xW (fun _ hC=>((h1.ks aa).gr (hC.bl ad)).atInt a7) ?_;refine xu rfl rfl (fun _=>Sn _ _ rfl rfl) ?_;refine xe rfl rfl ?_;intro ca hC0;have hC:=hC0.bl ad;refine Vg (col:=ad) [i64.wrap ((i64.wrap (a5 * (br.length:Int)))+bu)] 3 ?_;intro cb cc ba a8 bb;refine Zl<|Xo ba hC0 a8<|xe rfl rfl ?_;intro bv hC0;replace ae:=(ae.gr hC).gr a8;replace ac:=(ac.gr hC).gr a8;replace aa:=(aa.grow hC).grow a8;have hC:=hC0.bl ba;obtain ⟨bi,hm⟩:=Z3 hm;replace ae:=ae.gr hC;replace bb:=bb.gr hC;refine Sy (col:=ba) (w:=bv) (r:=(Za.int .i64)) (c:=2) (c2:=2) (ae.ex) (bb.srcN (NB.int (k:=.i64))) rfl underlying33 Z22 rfl rfl rfl bi.1 bi.2 (by decide) ?_;intro cd ce cf bj bk bw;refine Zl<|xk bj<|xu rfl rfl (fun _=>Zw4 rfl) ?_;have bc:=bw.new;refine Y2 ?_;replace ac:=(ac.gr hC).kpp bk;replace aa:=(aa.grow hC).kpp bk;intro cg hC;replace hC:=hC.bl bj;refine go ?_;replace bc:=bc.gr hC;replace ac:=ac.gr hC;replace aa:=aa.grow hC;exact ⟨ag,by omega,rfl,⟨_,_,_,_,_,_,rfl,hm,aa,ac,bc,rfl⟩⟩
   | cons ch bx=>
    obtain ⟨bd,bz,b0⟩:=X3 hl;have hk:(am:Int)<(ak.length:Int):=by omega
    have hkb:=decide_eq_true hk;rw [Zia.eq_2] at hm;refine go ?_;refine Xt (congrArg Value.bool hkb)<|go ?_;refine lI bd (af.addr bd)<|lW (af.atInt bd) ?_;refine go ?_;refine Vj (col:=ad) (by kernel_rfl) (by kernel_rfl)<|go ?_;refine qF ⟨_,_,rfl⟩ ?_;refine qW (fun _ hC=>((ac.atN).nth (q:=2) rfl).gr (hC.bl ad)) ?_;refine go ?_;obtain ⟨ci,be,hm⟩:=bZ hm;refine qI be ((ai.ks aa).addr be) ?_;obtain ⟨_,b1,b2⟩:=(ai.ks aa).atN be;obtain ⟨⟨cj,ck,rfl,cl⟩,_⟩:=b1;refine qW (fun _ hC=>b2.one.gr (hC.bl ad)) ?_;refine go ?_;obtain ⟨cn,bf,hm⟩:=bZ hm;refine qI bf ((h1.ks aa).addr bf)<|qW (fun _ hC=>((h1.ks aa).gr (hC.bl ad)).atInt bf) ?_;refine go ?_;refine Ws ?_;intro co hC;replace hC:=hC.bl ad;refine go ?_;replace af:=af.gr hC;replace ae:=ae.gr hC;replace ac:=ac.gr hC;replace aa:=aa.grow hC;exact ⟨bx.length,by simp,rfl,⟨_,_,_,_,rfl,bz,hm,aa,ac,af,ae,(X5 (congrArg (Value.int .i64) (X2 (Nat.lt_of_lt_of_le b0 af.1.1))) rfl)⟩⟩
  cases hm;exact ⟨rfl,_,_,_,rfl,aa.fin (cm [(2,c1)]),aa.fo ae⟩
def Zh3 (N:Nat) (aa:(R4×Int)):List Int→Nat→Rb→Option Rb
  | [],ab,ac=>some ac
  | af :: ah,ab,ac=>(Zm ac (ab:Int)).bind fun ag=>(Zm ag af).bind fun ad=>(S4 N ((ad.1.1,ad.1.2),ad.2) ((aa.1.1.1,aa.1.1.2),aa.1.2)).bind fun ae=>(some (ag.set (Int.toNat af) ((ae.1.1,ae.1.2),ae.2))).bind fun ai=>(Zh3 N aa ah) (ab+1) (ac.set (Int.toNat (ab:Int)) ai)
termination_by structural x=>x
def Zh2 (N:Nat) (ah:R0) (aa:R4) (ai:Rb) (aj:List Int):List Int→Nat→Bool→R5→R5→Option Rb
  | [],ab,ac,ad,ae=>(Zc9 N ((ac,ad),ae) ((aa.1.1,aa.1.2),aa.2)).bind fun ak=>Zh3 N ak aj 0 ai
  | al :: am,ab,ac,ad,ae=>(Zm ah.2.2.2.2 (ab:Int)).bind fun an=>(Zm an al).bind fun af=>(Q2 N ((ac,ad),ae) ((af.1.1,af.1.2),af.2)).bind fun ag=>(Zh2 N ah aa ai aj am) (ab+1) ag.1.1 ag.1.2 ag.2
termination_by structural x=>x
def Zow (N:Nat) (ad:List Int) (aa:R0) (ae:R0) (af:R4) (ag:Rb):Option Rb:=
  (Zoy N (aa.1,aa.2.1,aa.2.2.1,aa.2.2.2.1,aa.2.2.2.2) ad).bind fun ac=>(Zdj N 1).bind fun ab=>Zh2 N ae af ag ac ac 0 ab.1.1 ab.1.2 ab.2
theorem Z0o (N:Nat) (col:Ze) (w0:World) (qc0:Nat) (qc1:Nat) (qc2:Nat) (c0:Nat) (c1:Nat) (c2:Nat) (c3:Nat) (qc3:Nat) (c4:Nat) (c5:Nat) (qc4:Nat) (aj:Nat) (hd:V9 [qc4,aj]=true) (hqqc0:qc0≠0∧pS [qc4,aj] qc0=false) (hqqc1:qc1≠0∧pS [qc4,aj] qc1=false) (hqqc2:qc2≠0∧pS [qc4,aj] qc2=false) (dt:c0≠0∧pS [qc4,aj] c0=false) (du:c1≠0∧pS [qc4,aj] c1=false) (dv:c2≠0∧pS [qc4,aj] c2=false) (dw:c3≠0∧pS [qc4,aj] c3=false) (hqqc3:qc3≠0∧pS [qc4,aj] qc3=false) (dx:c4≠0∧pS [qc4,aj] c4=false) (dy:c5≠0∧pS [qc4,aj] c5=false) (a0:Option Addr) (c6:Nat) (cb:List Int) (g1:Nat) (ao:R0) (cc:Option Addr) (cd:Nat) (ce:Option Addr) (cf:Nat) (cg:Option Addr) (ch:Nat) (ci:Option Addr) (cj:Nat) (g2:Nat) (ak:R0) (bs:Option Addr) (bt:Nat) (bu:Option Addr) (bv:Nat) (bw:Option Addr) (bx:Nat) (bz:Option Addr) (b0:Nat) (g3:Nat) (az:R4) (b1:Option Addr) (b2:Nat) (b3:Option Addr) (b4:Nat) (g4:Nat) (b5:Rb) (ck:Option Addr) (cl:Nat) (h0:Zb (Za.int .i64) 3 qc0 col w0 a0 c6 cb) (c7:Sl Za.str col w0 cc cd ao.2.1) (c8:Sl (Za.slice Za.str) col w0 ce cf ao.2.2.1) (c9:Sl (Za.slice (Za.int .i64)) col w0 cg ch ao.2.2.2.1) (da:Sl (Za.slice (Za.pair (Za.pair Za.bool (Za.slice (Za.int .u32))) (Za.slice (Za.int .u32)))) col w0 ci cj ao.2.2.2.2) (hb1:Zf 27 qc1 col w0 g1 #[.string ao.1,.slice cc ao.2.1.length cd,.slice ce ao.2.2.1.length cf,.slice cg ao.2.2.2.1.length ch,.slice ci ao.2.2.2.2.length cj]) (af:Zb Za.str 9 c0 col w0 bs bt ak.2.1) (ag:Zb (Za.row 9 Za.str) 22 c1 col w0 bu bv ak.2.2.1) (ah:Zb (Za.row 3 (Za.int .i64)) 33 c2 col w0 bw bx ak.2.2.2.1) (ac:Zb (Za.row 39 (Za.pair (Za.pair Za.bool (Za.row 95 (Za.int .u32))) (Za.row 95 (Za.int .u32)))) 114 c3 col w0 bz b0 ak.2.2.2.2) (hb2:Zf 27 qc2 col w0 g2 #[.string ak.1,.slice bs ak.2.1.length bt,.slice bu ak.2.2.1.length bv,.slice bw ak.2.2.2.1.length bx,.slice bz ak.2.2.2.2.length b0]) (ad:Zb (Za.int .u32) 95 c4 col w0 b1 b2 az.1.2) (ae:Zb (Za.int .u32) 95 c5 col w0 b3 b4 az.2) (hb3:Zf 39 qc3 col w0 g3 #[.bool az.1.1,.slice b1 az.1.2.length b2,.slice b3 az.2.length b4]) (ap:Zb (Za.row 39 (Za.pair (Za.pair Za.bool (Za.slice (Za.int .u32))) (Za.slice (Za.int .u32)))) 114 aj col w0 ck cl b5) (hb4:Zf 25 qc4 col w0 g4 #[.slice ck b5.length cl]) (r:Rb) (hm:Zow N cb ao ak az b5=some r):
    Calls prog 110 #[.slice a0 cb.length c6,.pointer (some ⟨g1,0,none⟩),.pointer (some ⟨g2,0,none⟩),.pointer (some ⟨g3,0,none⟩),.pointer (some ⟨g4,0,none⟩)] w0 (fun e w'=>∃ (col':Ze) (oa1:Option Addr) (oc2:Nat),e= .returned (.tuple #[])∧Zq (pS [qc4,aj]) col w0 col' w'∧Zb (Za.row 39 (Za.pair (Za.pair Za.bool (Za.slice (Za.int .u32))) (Za.slice (Za.int .u32)))) 114 aj col' w' oa1 oc2 r∧Zf 25 qc4 col' w' g4 #[.slice oa1 r.length oc2]):=by
 refine Zbh (m:=63) (args:=[.slice a0 cb.length c6,.pointer (some ⟨g1,0,none⟩),.pointer (some ⟨g2,0,none⟩),.pointer (some ⟨g3,0,none⟩),.pointer (some ⟨g4,0,none⟩)]) func110 rfl rfl rfl rfl ?_;rw [Zow.eq_1] at hm;have ab:=St.startL (l:=[qc4,aj]) rfl col w0;replace h0:=h0.startB hqqc0.1 hqqc0.2;replace hb1:=hb1.startB hqqc1.1 hqqc1.2;replace hb2:=hb2.startB hqqc2.1 hqqc2.2;replace af:=af.startB dt.1 dt.2;replace ag:=ag.startB du.1 du.2;replace ah:=ah.startB dv.1 dv.2;replace ac:=ac.startB dw.1 dw.2;replace hb3:=hb3.startB hqqc3.1 hqqc3.2;replace ad:=ad.startB dx.1 dx.2;replace ae:=ae.startB dy.1 dy.2;replace c7:=c7.keep (Zi.startL [qc4,aj] col w0);replace c8:=c8.keep (Zi.startL [qc4,aj] col w0);replace c9:=c9.keep (Zi.startL [qc4,aj] col w0);replace da:=da.keep (Zi.startL [qc4,aj] col w0);replace hb4:=hb4.startL (U6 hd 0 rfl) (U5 hd 0 rfl);replace ap:=ap.startL (U6 hd 1 rfl) (U5 hd 1 rfl);refine go ?_;refine lV _ (Z2 isAgg27 sizeOf27 hb1)<|Yk rfl ?_;obtain ⟨bc,d6,hm⟩:=bZ hm;refine Zk (Z0q 1 d6 ((c7.ks ab).froz 999) ((c8.ks ab).froz 999) ((c9.ks ab).froz 999) ((da.ks ab).froz 999) (h0.toSlF (Zd.int .i64))) ?_;rintro _ fp ⟨d7,dz,d0,rfl,a2,aa⟩;refine ⟨_,rfl,?_⟩;replace aa:=aa.thaw (Z1 .i64) a2 ((Fz.refl (col:=(Xc [qc4,aj] col))).froz 999) (by decide);replace a2:=a2.thawR (col:=(Xc [qc4,aj] col));generalize Xe w0.heap.size (Xc [qc4,aj] col) d7=d8 at *;refine go ?_;obtain ⟨fq,d9,hm⟩:=bZ hm;refine Zk (Znz (col:=d8) 2 3 d9) ?_;rintro _ fr ⟨ea,ft,fu,fv,fw,rfl,a9,db,dc⟩;refine ⟨_,rfl,?_⟩;refine Xg (col:=ea) #[.bool false,.slice none (([]:List Int).length) 0,.slice none (([]:List Int).length) 0] 4 zeroValue39 ?_;intro d1 fx fy a3 eb;refine Zz eb ?_;intro fz a4 ec ba;refine go ?_;replace af:=(((af.gr a2).gr a9).gr a3).kp a4;replace ag:=(((ag.gr a2).gr a9).gr a3).kp a4;replace ah:=(((ah.gr a2).gr a9).gr a3).kp a4;replace ac:=(((ac.gr a2).gr a9).gr a3).kp a4;replace ad:=(((ad.gr a2).gr a9).gr a3).kp a4;replace ae:=(((ae.gr a2).gr a9).gr a3).kp a4;replace ap:=(((ap.gr a2).gr a9).gr a3).kp a4;replace hb1:=(((hb1.gr a2).gr a9).gr a3).kp a4;replace hb2:=(((hb2.gr a2).gr a9).gr a3).kp a4;replace hb3:=(((hb3.gr a2).gr a9).gr a3).kp a4
 replace hb4:=(((hb4.gr a2).gr a9).gr a3).kp a4;replace ab:=(((ab.grow a2).grow a9).grow a3).kp a4 ec;replace aa:=((aa.gr a9).gr a3).kp a4;replace db:=(db.gr a3).kp a4;replace dc:=(dc.gr a3).kp a4;refine Zu [16,17,2,3,4,6,7,1000000] (fun n f av=>∃ ai b6 dd de df cn dg dh co b8,n=b8.length∧bc.drop b6=b8∧Zh2 N ak az b5 bc b8 b6 dd cn co=some r∧St w0 (Xc [qc4,aj] col) ai av∧Zb (Za.int .i64) 3 1 ai av dz d0 bc∧Zb Za.str 9 999 ai av bs bt ak.2.1∧Zb (Za.row 9 Za.str) 22 999 ai av bu bv ak.2.2.1∧Zb (Za.row 3 (Za.int .i64)) 33 999 ai av bw bx ak.2.2.2.1∧Zb (Za.row 39 (Za.pair (Za.pair Za.bool (Za.row 95 (Za.int .u32))) (Za.row 95 (Za.int .u32)))) 114 999 ai av bz b0 ak.2.2.2.2∧Zf 27 999 ai av g2 #[.string ak.1,.slice bs ak.2.1.length bt,.slice bu ak.2.2.1.length bv,.slice bw ak.2.2.2.1.length bx,.slice bz ak.2.2.2.2.length b0]∧Zb (Za.int .u32) 95 999 ai av b1 b2 az.1.2∧Zb (Za.int .u32) 95 999 ai av b3 b4 az.2∧Zf 39 999 ai av g3 #[.bool az.1.1,.slice b1 az.1.2.length b2,.slice b3 az.2.length b4]∧Zb (Za.row 39 (Za.pair (Za.pair Za.bool (Za.slice (Za.int .u32))) (Za.slice (Za.int .u32)))) 114 441 ai av ck cl b5∧Zf 25 440 ai av g4 #[.slice ck b5.length cl]∧Zb (Za.int .u32) 95 2 ai av de df cn∧Zb (Za.int .u32) 95 3 ai av dg dh co∧Zf 39 4 ai av d1 #[.bool dd,.slice de cn.length df,.slice dg co.length dh]∧Zf 27 999 ai av g1 #[.string ao.1,.slice cc ao.2.1.length cd,.slice ce ao.2.2.1.length cf,.slice cg ao.2.2.2.1.length ch,.slice ci ao.2.2.2.2.length cj]∧[18].map f=[.int .i64 b6]) bc.length ⟨_,0,_,_,_,_,_,_,_,_,rfl,rfl,hm,ab,aa,af,ag,ah,ac,hb2,ad,ae,hb3,ap,hb4,db,dc,ba,hb1,rfl⟩ ?_;clear hm;intro n f av hI;obtain ⟨ai,b6,dd,de,df,cn,dg,dh,co,b8,hn,hl,hm,ab,aa,af,ag,ah,ac,hb2,ad,ae,hb3,ap,hb4,cp,cq,ba,hb1,hs⟩:=hI;subst hn;refine .lL [18] hs ?_
 cases b8 with
 | nil=>
  have hk:¬ ((b6:Int)<(bc.length:Int)):=by have:=List.drop_eq_nil_iff.1 hl;omega
  have hkb:=decide_eq_false hk;rw [Zh2.eq_1] at hm;refine go ?_;refine Xs (congrArg Value.bool hkb)<|go ?_;refine lV _ (Z2 isAgg39 sizeOf39 ba)<|lV _ (Z2 isAgg39 sizeOf39 hb3) ?_;obtain ⟨a8,ed,hm⟩:=bZ hm;refine Zk (Zrw 5 6 ed (((cp.toSlF (Zd.int .u32)).froz 3).froz 999) (((cq.froz 2 (by decide)).toSlF (Zd.int .u32)).froz 999) (((ad.froz 2 (by decide)).froz 3 (by decide)).toSlF (Zd.int .u32)) (((ae.froz 2 (by decide)).froz 3 (by decide)).toSlF (Zd.int .u32))) ?_;rintro _ f0 ⟨ee,cr,cs,ct,cu,rfl,aw,al,am⟩;refine ⟨_,rfl,?_⟩;replace al:=al.thaw (Z1 .u32) aw ((((Fz.refl (col:=ai)).froz 2).froz 3).froz 999) (by decide);replace am:=am.thaw (Z1 .u32) aw ((((Fz.refl (col:=ai)).froz 2).froz 3).froz 999) (by decide);replace aw:=aw.thawR (col:=ai);generalize Xe av.heap.size ai ee=f1 at *;refine lM (.tuple #[(.agg #[.bool a8.1.1.1,.slice cr a8.1.1.2.length cs,.slice ct a8.1.2.length cu]),.int .i64 a8.2])<|lV (.agg #[.bool a8.1.1.1,.slice cr a8.1.1.2.length cs,.slice ct a8.1.2.length cu]) (Xk rfl rfl)<|lV (.int .i64 a8.2) (Xk rfl rfl) ?_;replace ba:=ba.gr aw;refine Zz ba ?_;intro f2 a5 ef aq;refine go ?_;replace ap:=(ap.gr aw).kp a5;replace aa:=(aa.gr aw).kp a5;replace ad:=(ad.gr aw).kp a5;replace ae:=(ae.gr aw).kp a5;replace af:=(af.gr aw).kp a5;replace ag:=(ag.gr aw).kp a5;replace ah:=(ah.gr aw).kp a5;replace ac:=(ac.gr aw).kp a5;replace hb2:=(hb2.gr aw).kp a5;replace hb3:=(hb3.gr aw).kp a5;replace hb4:=(hb4.gr aw).kp a5;replace hb1:=(hb1.gr aw).kp a5;replace ab:=(ab.grow aw).kp a5 ef;replace al:=al.kp a5;replace am:=am.kp a5
  refine Zu [4,40,41,7,1000000] (fun n f ax=>∃ ar bm bn bg bh b9,n=b9.length∧bc.drop bh=b9∧Zh3 N a8 b9 bh bg=some r∧St w0 (Xc [qc4,aj] col) ar ax∧Zb (Za.row 39 (Za.pair (Za.pair Za.bool (Za.slice (Za.int .u32))) (Za.slice (Za.int .u32)))) 114 441 ar ax bm bn bg∧Zf 25 440 ar ax g4 #[.slice bm bg.length bn]∧Zb (Za.int .i64) 3 1 ar ax dz d0 bc∧Zb (Za.int .u32) 95 5 ar ax cr cs a8.1.1.2∧Zb (Za.int .u32) 95 6 ar ax ct cu a8.1.2∧Zf 39 4 ar ax d1 #[.bool a8.1.1.1,.slice cr a8.1.1.2.length cs,.slice ct a8.1.2.length cu]∧Zb Za.str 9 999 ar ax bs bt ak.2.1∧Zb (Za.row 9 Za.str) 22 999 ar ax bu bv ak.2.2.1∧Zb (Za.row 3 (Za.int .i64)) 33 999 ar ax bw bx ak.2.2.2.1∧Zb (Za.row 39 (Za.pair (Za.pair Za.bool (Za.row 95 (Za.int .u32))) (Za.row 95 (Za.int .u32)))) 114 999 ar ax bz b0 ak.2.2.2.2∧Zf 27 999 ar ax g2 #[.string ak.1,.slice bs ak.2.1.length bt,.slice bu ak.2.2.1.length bv,.slice bw ak.2.2.2.1.length bx,.slice bz ak.2.2.2.2.length b0]∧Zb (Za.int .u32) 95 999 ar ax b1 b2 az.1.2∧Zb (Za.int .u32) 95 999 ar ax b3 b4 az.2∧Zf 39 999 ar ax g3 #[.bool az.1.1,.slice b1 az.1.2.length b2,.slice b3 az.2.length b4]∧Zf 27 999 ar ax g1 #[.string ao.1,.slice cc ao.2.1.length cd,.slice ce ao.2.2.1.length cf,.slice cg ao.2.2.2.1.length ch,.slice ci ao.2.2.2.2.length cj]∧[42].map f=[.int .i64 bh]) bc.length ⟨_,_,_,_,0,_,rfl,rfl,hm,ab,ap,hb4,aa,al,am,aq,af,ag,ah,ac,hb2,ad,ae,hb3,hb1,rfl⟩ ?_;clear hm;intro n f ax hI;obtain ⟨ar,bm,bn,bg,bh,b9,hn,hl,hm,ab,di,hb4,aa,al,am,aq,af,ag,ah,ac,hb2,ad,ae,hb3,hb1,hs⟩:=hI;subst hn;refine .lL [42] hs ?_
  cases b9 with
  | nil=>
   have hk:¬ ((bh:Int)<(bc.length:Int)):=by have:=List.drop_eq_nil_iff.1 hl;omega
   have hkb:=decide_eq_false hk;rw [Zh3.eq_1] at hm;refine go ?_;refine Xs (congrArg Value.bool hkb)<|go ?_;cases hm;exact ⟨rfl,Tk w0.heap.size [qc4,aj] col ar (fun n=>bif Nat.beq n 441 then aj else bif Nat.beq n 440 then qc4 else 0),bm,bn,rfl,ab.finL rfl (fun n=>bif Nat.beq n 441 then aj else bif Nat.beq n 440 then qc4 else 0),ab.finOwnL (g:=(fun n=>bif Nat.beq n 441 then aj else bif Nat.beq n 440 then qc4 else 0)) rfl di (by decide) (by decide) rfl,ab.finBoxL (g:=(fun n=>bif Nat.beq n 441 then aj else bif Nat.beq n 440 then qc4 else 0)) hb4 (by decide) (by decide) rfl⟩
  | cons eg eh=>
   obtain ⟨bq,ei,ej⟩:=X3 hl;have hk:(bh:Int)<(bc.length:Int):=by omega
   have hkb:=decide_eq_true hk;rw [Zh3.eq_2] at hm;refine go ?_;refine Xt (congrArg Value.bool hkb)<|go ?_;refine lI bq (aa.addr bq)<|lW (aa.atInt bq) ?_;refine go ?_;refine Wh (col:=ar) [(0,0),(1,1),(2,1),(3,0),(4,1),(5,0),(6,1),(7,1),(8,0),(9,1),(10,1),(11,0),(12,0),(13,3),(14,1),(15,2)] (by kernel_rfl) (by kernel_rfl)<|xW (fun _ hC=>hb4.at1.gr (hC.bl ar)) ?_;refine xu rfl rfl (fun _=>Yh rfl) ?_;obtain ⟨dj,b7,hm⟩:=bZ hm;refine xu rfl rfl (fun _=>Ym underlying25 sizeOf114 rfl rfl (Z4 b7).1 (Z4 b7).2.1 (di.addr b7)) ?_;obtain ⟨_,bd,a6,ay,ek⟩:=di.open_ 7 (by decide) b7;obtain ⟨d2,d3,rfl,bb⟩:=ek.row;replace ay:Yf (Za.row 39 (Za.pair (Za.pair Za.bool (Za.slice (Za.int .u32))) (Za.slice (Za.int .u32)))) 114 441 bd ax bm bn bg (Int.toNat (bh:Int)) [.slice d2 dj.length d3]:=ay;refine xW (fun _ hC=>ay.atN.one.gr (hC.bl bd)) ?_;refine xu rfl rfl (fun _=>Yh rfl) ?_;replace hb4:=hb4.kpp a6;refine xW (fun _ hC=>hb4.at1.gr (hC.bl bd)) ?_;refine xu rfl rfl (fun _=>Yh rfl) ?_;refine xu rfl rfl (fun _=>Ym underlying25 sizeOf114 rfl rfl (Z4 b7).1 (Z4 b7).2.1 (ay.addr)) ?_;refine xW (fun _ hC=>ay.atN.one.gr (hC.bl bd)) ?_;refine xu rfl rfl (fun _=>Yh rfl) ?_;obtain ⟨dl,bo,hm⟩:=bZ hm;refine xu rfl rfl (fun _=>Ym underlying114 sizeOf39 rfl rfl (Z4 bo).1 (Z4 bo).2.1 (bb.addr bo)) ?_;obtain ⟨_,el,em⟩:=bb.atN bo;obtain ⟨_,_,rfl,en,eo⟩:=el.parts;obtain ⟨_,_,rfl,ep,eq⟩:=en.parts;obtain rfl:=ep.bool;obtain ⟨er,es,rfl,dm⟩:=eq.slice;obtain ⟨et,eu,rfl,dn⟩:=eo.slice;refine xv (v:=(.agg #[.bool dl.1.1,.slice er dl.1.2.length es,.slice et dl.2.length eu])) rfl rfl (fun _ hC=>Wj isAgg39 sizeOf39 rfl rfl (em.gr (hC.bl bd))) ?_;replace aq:=aq.kpp a6;refine xv rfl rfl (fun _ hC=>Z2 isAgg39 sizeOf39 (aq.gr (hC.bl bd))) ?_;refine xe rfl rfl ?_;intro ew hC0;have hC:=hC0.bl bd;obtain ⟨bi,ey,hm⟩:=bZ hm;replace al:=(al.kpp a6).gr hC;replace am:=(am.kpp a6).gr hC;replace dm:=dm.gr hC;replace dn:=dn.gr hC;refine Zk (Zhi 8 9 ey ((dm.froz 5).froz 6) ((dn.froz 5).froz 6) ((al.toSlF (Zd.int .u32)).froz 6) ((am.froz 5 (by decide)).toSlF (Zd.int .u32))) ?_;rintro _ f3 ⟨ez,e0,e1,e2,e3,rfl,an,bj,bk⟩;refine ⟨_,rfl,?_⟩
   replace bj:=bj.thaw (Z1 .u32) an (((Fz.refl (col:=bd)).froz 5).froz 6) (by decide);replace bk:=bk.thaw (Z1 .u32) an (((Fz.refl (col:=bd)).froz 5).froz 6) (by decide);replace an:=an.thawR (col:=bd);generalize Xe ew.heap.size bd ez=bp at *;refine Zl<|Xo bp hC0 an ?_;replace bb:=(bb.gr hC).gr an;refine xu rfl rfl (fun _=>Ym underlying114 sizeOf39 rfl rfl (Z4 bo).1 (Z4 bo).2.1 (bb.addr bo)) ?_;refine xe rfl rfl ?_;intro f4 hC0;replace aa:=((aa.kpp a6).gr hC).gr an;replace af:=((af.kpp a6).gr hC).gr an;replace ag:=((ag.kpp a6).gr hC).gr an;replace ah:=((ah.kpp a6).gr hC).gr an;replace ac:=((ac.kpp a6).gr hC).gr an;replace ad:=((ad.kpp a6).gr hC).gr an;replace ae:=((ae.kpp a6).gr hC).gr an;replace hb2:=((hb2.kpp a6).gr hC).gr an;replace hb3:=((hb3.kpp a6).gr hC).gr an;replace hb1:=((hb1.kpp a6).gr hC).gr an;replace ab:=((ab.kpp a6).grow hC).grow an;replace ay:=(ay.gr hC).gr an;replace hb4:=(hb4.gr hC).gr an;replace aq:=(aq.gr hC).gr an;have hC:=hC0.bl bp;replace ay:=ay.gr hC;replace ay:=ay.froz 9 (by decide);replace bb:=bb.gr hC;replace bb:=bb.froz 9 (by decide);replace aa:=aa.gr hC;replace aa:=aa.froz 9 (by decide);replace al:=(al.gr an).gr hC;replace al:=al.froz 9 (by decide);replace am:=(am.gr an).gr hC;replace am:=am.froz 9 (by decide);replace bj:=bj.gr hC;replace bj:=bj.froz 9 (by decide);replace bk:=bk.gr hC;replace bk:=(bk).toSlF (Zd.int .u32);replace af:=af.gr hC;replace af:=af.froz 9 (by decide);replace ag:=ag.gr hC;replace ag:=ag.froz 9 (by decide);replace ah:=ah.gr hC;replace ah:=ah.froz 9 (by decide);replace ac:=ac.gr hC;replace ac:=ac.froz 9 (by decide);replace ad:=ad.gr hC;replace ad:=ad.froz 9 (by decide);replace ae:=ae.gr hC;replace ae:=ae.froz 9 (by decide);replace hb4:=hb4.gr hC;replace hb4:=hb4.froz 9 (by decide);replace aq:=aq.gr hC;replace aq:=aq.froz 9 (by decide);replace hb2:=hb2.gr hC;replace hb2:=hb2.froz 9 (by decide);replace hb3:=hb3.gr hC;replace hb3:=hb3.froz 9 (by decide);replace hb1:=hb1.gr hC;replace hb1:=hb1.froz 9 (by decide);replace ab:=ab.grow hC;replace ab:=ab.froz 9 (by decide) (by decide);replace ay:=ay.froz 8 (by decide);replace bb:=bb.froz 8 (by decide);replace aa:=aa.froz 8 (by decide);replace al:=al.froz 8 (by decide);replace am:=am.froz 8 (by decide);replace bj:=(bj).toSlF (Zd.int .u32);replace bk:=bk.froz 8;replace af:=af.froz 8 (by decide);replace ag:=ag.froz 8 (by decide)
   replace ah:=ah.froz 8 (by decide);replace ac:=ac.froz 8 (by decide);replace ad:=ad.froz 8 (by decide);replace ae:=ae.froz 8 (by decide);replace hb4:=hb4.froz 8 (by decide);replace aq:=aq.froz 8 (by decide);replace hb2:=hb2.froz 8 (by decide);replace hb3:=hb3.froz 8 (by decide);replace hb1:=hb1.froz 8 (by decide);replace ab:=ab.froz 8 (by decide) (by decide);obtain ⟨ca,cv,hm⟩:=bZ hm;have cv:ca=dj.set (Int.toNat eg) ((bi.1.1,bi.1.2),bi.2):=(Option.some.inj cv).symm;refine Zue (x1:=((bi.1.1,bi.1.2),bi.2)) (v:=(.agg #[.bool bi.1.1,.slice e0 bi.1.2.length e1,.slice e2 bi.2.length e3])) bb bo rfl sizeOf39 (Zg0 (Zg0 (Zab bi.1.1) (Zjv bj)) (Zjv bk)) rfl rfl (by decide) ?_;intro cw a1 e4 d4;rw [← cv] at d4;replace hb4:=hb4.kp a1;replace hb4:Zf 25 440 (Ys 8 (Ys 9 bp)) cw g4 #[.slice bm bg.length bn]:=by rw [];exact hb4
   replace ay:=ay.kp a1;replace ay:Yf (Za.row 39 (Za.pair (Za.pair Za.bool (Za.slice (Za.int .u32))) (Za.slice (Za.int .u32)))) 114 441 (Ys 8 (Ys 9 bp)) cw bm bn bg (Int.toNat (bh:Int)) [.slice d2 ca.length d3]:=by rw [← (show dj.length=ca.length by rw [cv,nS])];exact ay
   refine Zl ?_;refine ⟨fun w'=>Zh (Ys 8 (Ys 9 bp)) cw (Ys 8 (Ys 9 bp)) w',Zh.refl _ _,fun h=>absurd h (by decide),?_⟩;have dp:=ay.close d4.has (by decide) (by decide);replace aa:=aa.kp a1;replace aa:=aa.recol 7 441 (by decide);replace al:=al.kp a1;replace al:=al.recol 7 441 (by decide);replace am:=am.kp a1;replace am:=am.recol 7 441 (by decide);replace af:=af.kp a1;replace af:=af.recol 7 441 (by decide);replace ag:=ag.kp a1;replace ag:=ag.recol 7 441 (by decide);replace ah:=ah.kp a1;replace ah:=ah.recol 7 441 (by decide);replace ac:=ac.kp a1;replace ac:=ac.recol 7 441 (by decide);replace ad:=ad.kp a1;replace ad:=ad.recol 7 441 (by decide);replace ae:=ae.kp a1;replace ae:=ae.recol 7 441 (by decide);replace hb4:=hb4.recol 7 441 (by decide);replace aq:=aq.kp a1;replace aq:=aq.recol 7 441 (by decide);replace hb2:=hb2.kp a1;replace hb2:=hb2.recol 7 441 (by decide);replace hb3:=hb3.kp a1;replace hb3:=hb3.recol 7 441 (by decide);replace hb1:=hb1.kp a1;replace hb1:=hb1.recol 7 441 (by decide);replace ab:=ab.kp a1 e4;replace ab:=ab.recol 7 441 (by decide) (by decide);replace hb4:Zf 25 440 (Xm 7 441 (Ys 8 (Ys 9 bp))) cw g4 #[(.slice bm ((bg.set (Int.toNat (bh:Int)) ca).length) bn)]:=by rw [← (show bg.length=(bg.set (Int.toNat (bh:Int)) ca).length by simp only [nS])];exact hb4
   refine Y2 ?_;intro f5 hC;replace hC:=hC.bl (Xm 7 441 (Ys 8 (Ys 9 bp)));refine go ?_;replace dp:=dp.gr hC;replace aa:=aa.gr hC;replace al:=al.gr hC;replace am:=am.gr hC;replace af:=af.gr hC;replace ag:=ag.gr hC;replace ah:=ah.gr hC;replace ac:=ac.gr hC;replace ad:=ad.gr hC;replace ae:=ae.gr hC;replace hb4:=hb4.gr hC;replace aq:=aq.gr hC;replace hb2:=hb2.gr hC;replace hb3:=hb3.gr hC;replace hb1:=hb1.gr hC;replace ab:=ab.grow hC;exact ⟨eh.length,by simp,rfl,⟨_,_,_,_,_,_,rfl,ei,hm,ab,dp,hb4,aa,al,am,aq,af,ag,ah,ac,hb2,ad,ae,hb3,hb1,(X5 (congrArg (Value.int .i64) (X2 (Nat.lt_of_lt_of_le ej aa.len))) rfl)⟩⟩
 | cons f6 e5=>
  obtain ⟨bq,e6,e7⟩:=X3 hl;have hk:(b6:Int)<(bc.length:Int):=by omega
  have hkb:=decide_eq_true hk;rw [Zh2.eq_2] at hm;refine go ?_;refine Xt (congrArg Value.bool hkb)<|go ?_;refine lI bq (aa.addr bq)<|lW (aa.atInt bq) ?_;refine go ?_;refine Wh (col:=ai) [(0,0),(1,1),(2,0),(3,1),(4,1),(5,0),(6,1),(7,1),(8,0),(9,3),(10,2)] (by kernel_rfl) (by kernel_rfl)<|xv rfl rfl (fun _ hC=>Z2 isAgg39 sizeOf39 (ba.gr (hC.bl ai))) ?_;refine xF ⟨_,_,rfl⟩ ?_;refine xW (fun _ hC=>((hb2.atN).nth (q:=4) rfl).gr (hC.bl ai)) ?_;refine xu rfl rfl (fun _=>Yh rfl) ?_;obtain ⟨f7,cx,hm⟩:=bZ hm;refine xu rfl rfl (fun _=>Ym underlying25 sizeOf114 rfl rfl (Z4 cx).1 (Z4 cx).2.1 (ac.addr cx)) ?_;obtain ⟨_,e8,e9⟩:=ac.atN cx;obtain ⟨f8,f9,rfl,d5⟩:=e8.row;refine xW (fun _ hC=>e9.one.gr (hC.bl ai)) ?_;refine xu rfl rfl (fun _=>Yh rfl) ?_;obtain ⟨dq,cy,hm⟩:=bZ hm;refine xu rfl rfl (fun _=>Ym underlying114 sizeOf39 rfl rfl (Z4 cy).1 (Z4 cy).2.1 (d5.addr cy)) ?_;obtain ⟨_,fa,fb⟩:=d5.atN cy;obtain ⟨_,_,rfl,fc,fd⟩:=fa.parts;obtain ⟨_,_,rfl,fe,ff⟩:=fc.parts;obtain rfl:=fe.bool;obtain ⟨fg,fh,rfl,dr⟩:=ff.row;obtain ⟨fi,fj,rfl,ds⟩:=fd.row;refine xv (v:=(.agg #[.bool dq.1.1,.slice fg dq.1.2.length fh,.slice fi dq.2.length fj])) rfl rfl (fun _ hC=>Wj isAgg39 sizeOf39 rfl rfl (fb.gr (hC.bl ai))) ?_;refine xe rfl rfl ?_;intro fk hC0;have hC:=hC0.bl ai;obtain ⟨ga,fl,hm⟩:=bZ hm;replace cp:=cp.gr hC;replace cq:=cq.gr hC;replace dr:=dr.gr hC;replace ds:=ds.gr hC;refine Zk (Zkj 10 11 fl (((cp.toSlF (Zd.int .u32)).froz 3).froz 999) (((cq.froz 2 (by decide)).toSlF (Zd.int .u32)).froz 999) (((dr.froz 2 (by decide)).froz 3 (by decide)).toSlF (Zd.int .u32)) (((ds.froz 2 (by decide)).froz 3 (by decide)).toSlF (Zd.int .u32))) ?_;rintro _ gb ⟨fm,gc,gd,ge,gf,rfl,au,be,bf⟩;refine ⟨_,rfl,?_⟩;replace be:=be.thaw (Z1 .u32) au ((((Fz.refl (col:=ai)).froz 2).froz 3).froz 999) (by decide);replace bf:=bf.thaw (Z1 .u32) au ((((Fz.refl (col:=ai)).froz 2).froz 3).froz 999) (by decide);replace au:=au.thawR (col:=ai);generalize Xe fk.heap.size ai fm=cz at *;refine Zl<|Xo cz hC0 au<|xe rfl rfl ?_;intro gg hC0;replace aa:=(aa.gr hC).gr au;replace af:=(af.gr hC).gr au;replace ag:=(ag.gr hC).gr au;replace ah:=(ah.gr hC).gr au
  replace ac:=(ac.gr hC).gr au;replace ad:=(ad.gr hC).gr au;replace ae:=(ae.gr hC).gr au;replace ap:=(ap.gr hC).gr au;replace hb2:=(hb2.gr hC).gr au;replace hb3:=(hb3.gr hC).gr au;replace hb4:=(hb4.gr hC).gr au;replace ba:=(ba.gr hC).gr au;replace hb1:=(hb1.gr hC).gr au;replace ab:=(ab.grow hC).grow au;have hC:=hC0.bl cz;replace ba:=ba.gr hC;refine Zz ba ?_;intro gh a7 fn br;refine Zl<|xk cz<|Y2 ?_;replace aa:=(aa.gr hC).kp a7;replace af:=(af.gr hC).kp a7;replace ag:=(ag.gr hC).kp a7;replace ah:=(ah.gr hC).kp a7;replace ac:=(ac.gr hC).kp a7;replace ad:=(ad.gr hC).kp a7;replace ae:=(ae.gr hC).kp a7;replace ap:=(ap.gr hC).kp a7;replace be:=(be.gr hC).kp a7;replace bf:=(bf.gr hC).kp a7;replace hb2:=(hb2.gr hC).kp a7;replace hb3:=(hb3.gr hC).kp a7;replace hb4:=(hb4.gr hC).kp a7;replace hb1:=(hb1.gr hC).kp a7;replace ab:=(ab.grow hC).kp a7 fn;intro gi hC;replace hC:=hC.bl cz;refine go ?_;replace aa:=aa.gr hC;replace aa:=aa.recol 10 2 (by decide);replace af:=af.gr hC;replace af:=af.recol 10 2 (by decide);replace ag:=ag.gr hC;replace ag:=ag.recol 10 2 (by decide);replace ah:=ah.gr hC;replace ah:=ah.recol 10 2 (by decide);replace ac:=ac.gr hC;replace ac:=ac.recol 10 2 (by decide);replace ad:=ad.gr hC;replace ad:=ad.recol 10 2 (by decide);replace ae:=ae.gr hC;replace ae:=ae.recol 10 2 (by decide);replace ap:=ap.gr hC;replace ap:=ap.recol 10 2 (by decide);replace be:=be.gr hC;replace be:=be.recolSelf 2 (by decide);replace bf:=bf.gr hC;replace bf:=bf.recol 10 2 (by decide);replace hb2:=hb2.gr hC;replace hb2:=hb2.recol 10 2 (by decide);replace hb3:=hb3.gr hC;replace hb3:=hb3.recol 10 2 (by decide);replace hb4:=hb4.gr hC;replace hb4:=hb4.recol 10 2 (by decide);replace br:=br.gr hC;replace br:=br.recol 10 2 (by decide);replace hb1:=hb1.gr hC;replace hb1:=hb1.recol 10 2 (by decide);replace ab:=ab.grow hC;replace ab:=ab.recol 10 2 (by decide) (by decide);replace aa:=aa.recol 11 3 (by decide);replace af:=af.recol 11 3 (by decide);replace ag:=ag.recol 11 3 (by decide);replace ah:=ah.recol 11 3 (by decide);replace ac:=ac.recol 11 3 (by decide);replace ad:=ad.recol 11 3 (by decide);replace ae:=ae.recol 11 3 (by decide);replace ap:=ap.recol 11 3 (by decide);replace be:=be.recol 11 3 (by decide);replace bf:=bf.recolSelf 3 (by decide);replace hb2:=hb2.recol 11 3 (by decide);replace hb3:=hb3.recol 11 3 (by decide);replace hb4:=hb4.recol 11 3 (by decide);replace br:=br.recol 11 3 (by decide);replace hb1:=hb1.recol 11 3 (by decide)
  replace ab:=ab.recol 11 3 (by decide) (by decide);exact ⟨e5.length,by simp,rfl,⟨_,_,_,_,_,_,_,_,_,_,rfl,e6,hm,ab,aa,af,ag,ah,ac,hb2,ad,ae,hb3,ap,hb4,be,bf,br,hb1,(X5 (congrArg (Value.int .i64) (X2 (Nat.lt_of_lt_of_le e7 aa.len))) rfl)⟩⟩
theorem Z21:Wd prog 3 1 8:=⟨Tryz.t3,_,rfl,rfl,rfl,rfl,rfl⟩
def Zh7 (N:Nat) (ab:ByteArray) (ac:List ByteArray) (ad:List R6) (ae:List R5) (af:List R7) (ag:ByteArray) (ah:List ByteArray) (ai:List R6) (aj:List R5) (ak:List R7) (al:Bool) (am:List Int) (an:List Int) (ap:List R7) (kk_L2:(List Int→ByteArray→R6→Re→R9→Rb→ByteArray→R6→Re→R9→Rb→Bool→R5→R5→Rb→Option Rb)) (aq:Int×List Int):List Int→Nat→R5→Option Rb
  | [],ao,aa=>(Zow N aa (ab,ac,ad,ae,af) (ag,ah,ai,aj,ak) ((al,am),an) ap).bind fun au=>kk_L2 aa ab ac ad ae af ag ah ai aj ak al am an au
  | ar :: av,ao,aa=>(Zm aq.2 (ao:Int)).bind fun aw=>(Zm aa ar).bind fun ay=>(some (aa.set (Int.toNat ar) aw)).bind fun ax=>(Zh7 N ab ac ad ae af ag ah ai aj ak al am an ap kk_L2 aq av) (ao+1) ax
termination_by structural x=>x
def Zfo (N:Nat) (ab:List Int):List Ra→R5→ByteArray→R6→Re→R9→Rb→ByteArray→R6→Re→R9→Rb→Bool→R5→R5→Rb→Option Rb
  | [],ac,ad,ae,af,ag,ah,ai,aj,ak,al,am,an,ao,ap,aa=>some aa
  | aq :: ar,ac,ad,ae,af,ag,ah,ai,aj,ak,al,am,an,ao,ap,aa=>Zh7 N ad ae af ag ah ai aj ak al am an ao ap aa (Zfo N ab ar) aq ab 0 ac
termination_by structural x=>x
def Zlc (aa:Nat) (kk_L1:(Nat→R5→R5→Option Rb)) (ab:List Int) (ac:List Int):Option Rb:=
  kk_L1 (aa+1) ab ac
def Zdh (N:Nat) (ag:R0) (ah:List Int) (aa:R0) (ab:R0) (af:R4) (ai:Rb):List Int→Nat→R5→R5→Option Rb
  | [],ac,ad,ae=>(Qc ah).bind fun al=>(Zpg N ae).bind fun am=>Zfo N ad am al aa.1 aa.2.1 aa.2.2.1 aa.2.2.2.1 aa.2.2.2.2 ab.1 ab.2.1 ab.2.2.1 ab.2.2.2.1 ab.2.2.2.2 af.1.1 af.1.2 af.2 ai
  | an :: ak,ac,ad,ae=>if (decide (an<0))=true then (Zt ((ad.length+[(ac:Int)].length) * 8≤140737488355328∧ad.length+[(ac:Int)].length≤maxLen) ((Zm ag.2.2.1 (ac:Int)).bind fun aj=>Zt ((ae.length+[(aj.length:Int)].length) * 8≤140737488355328∧ae.length+[(aj.length:Int)].length≤maxLen) (Zlc ac (Zdh N ag ah aa ab af ai ak) (ad++[(ac:Int)]) (ae++[(aj.length:Int)])))) else (Zlc ac (Zdh N ag ah aa ab af ai ak) ad ae)
termination_by structural x=>x
def Zox (N:Nat) (ab:R0) (aa:List Int) (ac:R0) (ad:R0) (ae:R4) (af:Rb):Option Rb:=
  Zdh N ab aa ac ad ae af aa 0 ([]:List Int) ([]:List Int)
theorem Z0p {N dx dy dz d0 dp g3 d1 d2 d3 d4 g4 c4 c5 c6 c7 g5 c8 c9 g6 da:Nat} {d5 d6 d7 d8 a1 d9 ea eb ec db dc dd de df dg dh:Option Addr} {col:Ze} {w0:World} {ag:R0} {b8:R5} {ah ab:R0} {aq:R4} {b9 r:Rb} (qc3 qc4 er es et eu qc5 ew ey qc6 ae:Nat) (hm:Zox N ag b8 ah ab aq b9=some r) (hd:V9 [qc6,ae]=true) (hqqc3:qc3≠0∧pS [qc6,ae] qc3=false) (hqqc4:qc4≠0∧pS [qc6,ae] qc4=false) (fk:er≠0∧pS [qc6,ae] er=false) (fl:es≠0∧pS [qc6,ae] es=false) (fm:et≠0∧pS [qc6,ae] et=false) (fn:eu≠0∧pS [qc6,ae] eu=false) (hqqc5:qc5≠0∧pS [qc6,ae] qc5=false) (fp:ew≠0∧pS [qc6,ae] ew=false) (fq:ey≠0∧pS [qc6,ae] ey=false) (ht:Sl Za.str col w0 d5 dx ag.2.1) (ej:Sl (Za.slice Za.str) col w0 d6 dy ag.2.2.1) (hv:Sl (Za.slice (Za.int .i64)) col w0 d7 dz ag.2.2.2.1) (hw:Sl (Za.slice (Za.pair (Za.pair Za.bool (Za.slice (Za.int .u32))) (Za.slice (Za.int .u32)))) col w0 d8 d0 ag.2.2.2.2) (h1:Sl (Za.int .i64) col w0 a1 dp b8) (ez:Sl Za.str col w0 d9 d1 ah.2.1) (e0:Sl (Za.slice Za.str) col w0 ea d2 ah.2.2.1) (e1:Sl (Za.slice (Za.int .i64)) col w0 eb d3 ah.2.2.2.1) (e2:Sl (Za.slice (Za.pair (Za.pair Za.bool (Za.slice (Za.int .u32))) (Za.slice (Za.int .u32)))) col w0 ec d4 ah.2.2.2.2) (hb3:Zf 27 qc3 col w0 g3 #[.string ah.1,.slice d9 ah.2.1.length d1,.slice ea ah.2.2.1.length d2,.slice eb ah.2.2.2.1.length d3,.slice ec ah.2.2.2.2.length d4]) (bj:Zb Za.str 9 er col w0 db c4 ab.2.1) (bk:Zb (Za.row 9 Za.str) 22 es col w0 dc c5 ab.2.2.1) (bm:Zb (Za.row 3 (Za.int .i64)) 33 et col w0 dd c6 ab.2.2.2.1) (bn:Zb (Za.row 39 (Za.pair (Za.pair Za.bool (Za.row 95 (Za.int .u32))) (Za.row 95 (Za.int .u32)))) 114 eu col w0 de c7 ab.2.2.2.2) (hb4:Zf 27 qc4 col w0 g4 #[.string ab.1,.slice db ab.2.1.length c4,.slice dc ab.2.2.1.length c5,.slice dd ab.2.2.2.1.length c6,.slice de ab.2.2.2.2.length c7]) (bo:Zb (Za.int .u32) 95 ew col w0 df c8 aq.1.2) (bp:Zb (Za.int .u32) 95 ey col w0 dg c9 aq.2) (hb5:Zf 39 qc5 col w0 g5 #[.bool aq.1.1,.slice df aq.1.2.length c8,.slice dg aq.2.length c9]) (bq:Zb (Za.row 39 (Za.pair (Za.pair Za.bool (Za.slice (Za.int .u32))) (Za.slice (Za.int .u32)))) 114 ae col w0 dh da b9) (hb6:Zf 25 qc6 col w0 g6 #[.slice dh b9.length da]):
    Calls prog 109 #[(.agg #[.string ag.1,.slice d5 ag.2.1.length dx,.slice d6 ag.2.2.1.length dy,.slice d7 ag.2.2.2.1.length dz,.slice d8 ag.2.2.2.2.length d0]),.slice a1 b8.length dp,(.func (.func 110) #[] #[.pointer (some ⟨g3,0,none⟩),.pointer (some ⟨g4,0,none⟩),.pointer (some ⟨g5,0,none⟩),.pointer (some ⟨g6,0,none⟩)])] w0 (fun e w'=>∃ (col':Ze) (oa1:Option Addr) (oc2:Nat),e= .returned (.tuple #[])∧Zq (pS [qc6,ae]) col w0 col' w'∧Zb (Za.row 39 (Za.pair (Za.pair Za.bool (Za.slice (Za.int .u32))) (Za.slice (Za.int .u32)))) 114 ae col' w' oa1 oc2 r∧Zf 25 qc6 col' w' g6 #[.slice oa1 r.length oc2]):=by
 refine Z17 (mc:=499) (m:=62) (args:=[(.agg #[.string ag.1,.slice d5 ag.2.1.length dx,.slice d6 ag.2.2.1.length dy,.slice d7 ag.2.2.2.1.length dz,.slice d8 ag.2.2.2.2.length d0]),.slice a1 b8.length dp,(.func (.func 110) #[] #[.pointer (some ⟨g3,0,none⟩),.pointer (some ⟨g4,0,none⟩),.pointer (some ⟨g5,0,none⟩),.pointer (some ⟨g6,0,none⟩)])]) func109 rfl rfl rfl rfl ?_;rw [Zox.eq_1] at hm;have aa:=St.startL (l:=[qc6,ae]) rfl col w0;replace hb3:=hb3.startB hqqc3.1 hqqc3.2;replace hb4:=hb4.startB hqqc4.1 hqqc4.2;replace bj:=bj.startB fk.1 fk.2;replace bk:=bk.startB fl.1 fl.2;replace bm:=bm.startB fm.1 fm.2;replace bn:=bn.startB fn.1 fn.2;replace hb5:=hb5.startB hqqc5.1 hqqc5.2;replace bo:=bo.startB fp.1 fp.2;replace bp:=bp.startB fq.1 fq.2;replace ej:=ej.keep (Zi.startL [qc6,ae] col w0);replace h1:=h1.keep (Zi.startL [qc6,ae] col w0);replace ez:=ez.keep (Zi.startL [qc6,ae] col w0);replace e0:=e0.keep (Zi.startL [qc6,ae] col w0);replace e1:=e1.keep (Zi.startL [qc6,ae] col w0);replace e2:=e2.keep (Zi.startL [qc6,ae] col w0);replace hb6:=hb6.startL (U6 hd 0 rfl) (U5 hd 0 rfl);replace bq:=bq.startL (U6 hd 1 rfl) (U5 hd 1 rfl);have hmk:Yq 499 (Xc [qc6,ae] col) w0 []:=.nil;refine go ?_;refine Xl (col:=(Xc [qc6,ae] col)) 1 rfl ?_;intro fr hx f5 bt bu;refine Zbo (col:=f5) (v:=(.func (.func 110) #[] #[.pointer (some ⟨g3,0,none⟩),.pointer (some ⟨g4,0,none⟩),.pointer (some ⟨g5,0,none⟩),.pointer (some ⟨g6,0,none⟩)])) 2 rfl rfl ?_;intro ed f6 ft bs ad;replace ad:Zf 137 2 ft f6 ed #[(.func (.func 110) #[] #[.pointer (some ⟨g3,0,none⟩),.pointer (some ⟨g4,0,none⟩),.pointer (some ⟨g5,0,none⟩),.pointer (some ⟨g6,0,none⟩)])]:=ad;refine go ?_;refine Qq (col:=ft) (v:=(.slice none (([]:List Int).length) 0)) 3 rfl zeroValue33 ?_;intro dq f7 f8 br af;replace af:Zf 33 3 f8 f7 dq #[.slice none (([]:List Int).length) 0]:=af;refine go ?_;replace bj:=((bj.gr bt).gr bs).gr br;replace bk:=((bk.gr bt).gr bs).gr br;replace bm:=((bm.gr bt).gr bs).gr br;replace bn:=((bn.gr bt).gr bs).gr br;replace bo:=((bo.gr bt).gr bs).gr br;replace bp:=((bp.gr bt).gr bs).gr br;replace bq:=((bq.gr bt).gr bs).gr br;replace hb3:=((hb3.gr bt).gr bs).gr br;replace hb4:=((hb4.gr bt).gr bs).gr br;replace hb5:=((hb5.gr bt).gr bs).gr br;replace hb6:=((hb6.gr bt).gr bs).gr br;replace hmk:=((hmk.gr bt).gr bs).gr br;replace aa:=((aa.grow bt).grow bs).grow br
 replace bu:=(bu.gr bs).gr br;replace ad:=ad.gr br;refine Zu [1,15,16,3,5,6,1000000] (fun n f av=>∃ au ca di dj a7 e3 e4 ek ee,n=ee.length∧b8.drop ca=ee∧Zdh N ag b8 ah ab aq b9 ee ca a7 ek=some r∧St w0 (Xc [qc6,ae] col) au av∧Zf 27 1 au av fr #[.string ag.1,.slice d5 ag.2.1.length dx,.slice d6 ag.2.2.1.length dy,.slice d7 ag.2.2.2.1.length dz,.slice d8 ag.2.2.2.2.length d0]∧Zf 27 999 au av g3 #[.string ah.1,.slice d9 ah.2.1.length d1,.slice ea ah.2.2.1.length d2,.slice eb ah.2.2.2.1.length d3,.slice ec ah.2.2.2.2.length d4]∧Zb Za.str 9 999 au av db c4 ab.2.1∧Zb (Za.row 9 Za.str) 22 999 au av dc c5 ab.2.2.1∧Zb (Za.row 3 (Za.int .i64)) 33 999 au av dd c6 ab.2.2.2.1∧Zb (Za.row 39 (Za.pair (Za.pair Za.bool (Za.row 95 (Za.int .u32))) (Za.row 95 (Za.int .u32)))) 114 999 au av de c7 ab.2.2.2.2∧Zf 27 999 au av g4 #[.string ab.1,.slice db ab.2.1.length c4,.slice dc ab.2.2.1.length c5,.slice dd ab.2.2.2.1.length c6,.slice de ab.2.2.2.2.length c7]∧Zb (Za.int .u32) 95 999 au av df c8 aq.1.2∧Zb (Za.int .u32) 95 999 au av dg c9 aq.2∧Zf 39 999 au av g5 #[.bool aq.1.1,.slice df aq.1.2.length c8,.slice dg aq.2.length c9]∧Zb (Za.row 39 (Za.pair (Za.pair Za.bool (Za.slice (Za.int .u32))) (Za.slice (Za.int .u32)))) 114 441 au av dh da b9∧Zf 25 440 au av g6 #[.slice dh b9.length da]∧Zf 137 2 au av ed #[(.func (.func 110) #[] #[.pointer (some ⟨g3,0,none⟩),.pointer (some ⟨g4,0,none⟩),.pointer (some ⟨g5,0,none⟩),.pointer (some ⟨g6,0,none⟩)])]∧Zb (Za.int .i64) 3 4 au av di dj a7∧Zf 33 3 au av dq #[.slice di a7.length dj]∧Zb (Za.int .i64) 3 5 au av e3 e4 ek∧Yq 499 au av []∧[17,7].map f=[.int .i64 ca,.slice e3 ek.length e4]) b8.length ⟨_,0,none,0,_,none,0,_,_,rfl,rfl,hm,aa,bu,hb3,bj,bk,bm,bn,hb4,bo,bp,hb5,bq,hb6,ad,Zb.nil,af,Zb.nil,hmk,rfl⟩ ?_;clear hm;intro n f av hI;obtain ⟨au,ca,di,dj,a7,e3,e4,ek,ee,hn,hl,hm,aa,bu,hb3,bj,bk,bm,bn,hb4,bo,bp,hb5,bq,hb6,ad,aj,af,dl,hmk,hs⟩:=hI;subst hn;refine .lL [17,7] hs ?_
 cases ee with
 | nil=>
  have hk:¬ ((ca:Int)<(b8.length:Int)):=by have:=List.drop_eq_nil_iff.1 hl;omega
  have hkb:=decide_eq_false hk;rw [Zdh.eq_1] at hm;refine go ?_;refine Xs (congrArg Value.bool hkb)<|go ?_;obtain ⟨e5,f9,hm⟩:=bZ hm;refine Zk (Zhm 6 f9 (h1.ks aa)) ?_;rintro _ hy ⟨ga,e6,e7,rfl,a3,e8⟩;refine ⟨_,rfl,?_⟩;refine Qq (col:=ga) (v:=(.slice none (([]:List Int).length) 0)) 7 rfl zeroValue33 ?_;intro ef gb eg ay e9;replace e9:Zf 33 7 eg gb ef #[.slice none (([]:List Int).length) 0]:=e9;refine Tl (v:=(.slice e6 e5.length e7)) e9 sizeOf33 rfl rfl (by intro u hu;simp only [Value.cells,List.mem_cons,List.not_mem_nil,or_false] at hu;subst hu;rfl) rfl rfl ?_;intro fu az gc am;replace am:Zf 33 7 eg fu ef #[.slice e6 e5.length e7]:=am;refine go ?_;obtain ⟨gd,ge,hm⟩:=bZ hm;replace dl:=((dl.gr a3).gr ay).kp az;refine Zk (Z1m 8 ge (dl.toSlF (Zd.int .i64))) ?_;rintro _ hz ⟨gf,h0,rfl,ar,fa⟩;refine ⟨_,rfl,?_⟩;replace fa:=fa.thaw ar ((Fz.refl (col:=eg)).froz 5);replace ar:=ar.thawR (col:=eg);generalize Xe fu.heap.size eg gf=gg at *;refine go ?_;replace bj:=(((bj.gr a3).gr ay).kp az).gr ar;replace bk:=(((bk.gr a3).gr ay).kp az).gr ar;replace bm:=(((bm.gr a3).gr ay).kp az).gr ar;replace bn:=(((bn.gr a3).gr ay).kp az).gr ar;replace bo:=(((bo.gr a3).gr ay).kp az).gr ar;replace bp:=(((bp.gr a3).gr ay).kp az).gr ar;replace bq:=(((bq.gr a3).gr ay).kp az).gr ar;replace aj:=(((aj.gr a3).gr ay).kp az).gr ar;replace ad:=(((ad.gr a3).gr ay).kp az).gr ar;replace hb3:=(((hb3.gr a3).gr ay).kp az).gr ar;replace hb4:=(((hb4.gr a3).gr ay).kp az).gr ar;replace hb5:=(((hb5.gr a3).gr ay).kp az).gr ar;replace hb6:=(((hb6.gr a3).gr ay).kp az).gr ar;replace af:=(((af.gr a3).gr ay).kp az).gr ar;replace hmk:=(((hmk.gr a3).gr ay).kp az).gr ar;replace aa:=(((aa.grow a3).grow ay).kp az gc).grow ar;replace e8:=((e8.gr ay).kp az).gr ar;replace am:=am.gr ar
  refine Znj (psl:=[42,43]) (arr:=(fun (y:Int×List Int) (col:Ze) (w:World) (args:List Value)=>∃ (a1:Option Addr) (dp:Nat),args=[.int .i64 y.1,.slice a1 y.2.length dp]∧Zb (Za.int .i64) 3 8 col w a1 dp y.2)) (ys:=gd) (col:=gg) 498 rfl fa rfl hmk rfl rfl (by rintro _ _ _ _ ⟨_,_,rfl,_⟩;rfl) (fun ys_ ai ak=>∃ (dr:Option Addr) (ds:Nat) (dm:List Int) (cb:ByteArray) (cc:Option Addr) (cd:Nat) (bv:List ByteArray) (ce:Option Addr) (cf:Nat) (bw:List R6) (cg:Option Addr) (ch:Nat) (bx:List R5) (ci:Option Addr) (cj:Nat) (bz:List R7) (ck:ByteArray) (cl:Option Addr) (cn:Nat) (b0:List ByteArray) (co:Option Addr) (cp:Nat) (b1:List R6) (cq:Option Addr) (cr:Nat) (b2:List R5) (cs:Option Addr) (ct:Nat) (b3:List R7) (cu:Bool) (cv:Option Addr) (cw:Nat) (b4:List Int) (cx:Option Addr) (cy:Nat) (b5:List Int) (cz:Option Addr) (c0:Nat) (b6:List R7),Zfo N a7 ys_ dm cb bv bw bx bz ck b0 b1 b2 b3 cu b4 b5 b6=some r∧St w0 (Xc [qc6,ae] col) ai ak∧Zb (Za.int .i64) 3 6 ai ak dr ds dm∧Zf 33 7 ai ak ef #[.slice dr dm.length ds]∧Sl Za.str ai ak cc cd bv∧Sl (Za.slice Za.str) ai ak ce cf bw∧Sl (Za.slice (Za.int .i64)) ai ak cg ch bx∧Sl (Za.slice (Za.pair (Za.pair Za.bool (Za.slice (Za.int .u32))) (Za.slice (Za.int .u32)))) ai ak ci cj bz∧Zf 27 999 ai ak g3 #[.string cb,.slice cc bv.length cd,.slice ce bw.length cf,.slice cg bx.length ch,.slice ci bz.length cj]∧Zb Za.str 9 999 ai ak cl cn b0∧Zb (Za.row 9 Za.str) 22 999 ai ak co cp b1∧Zb (Za.row 3 (Za.int .i64)) 33 999 ai ak cq cr b2∧Zb (Za.row 39 (Za.pair (Za.pair Za.bool (Za.row 95 (Za.int .u32))) (Za.row 95 (Za.int .u32)))) 114 999 ai ak cs ct b3∧Zf 27 999 ai ak g4 #[.string ck,.slice cl b0.length cn,.slice co b1.length cp,.slice cq b2.length cr,.slice cs b3.length ct]∧Zb (Za.int .u32) 95 999 ai ak cv cw b4∧Zb (Za.int .u32) 95 999 ai ak cx cy b5∧Zf 39 999 ai ak g5 #[.bool cu,.slice cv b4.length cw,.slice cx b5.length cy]∧Zb (Za.row 39 (Za.pair (Za.pair Za.bool (Za.slice (Za.int .u32))) (Za.slice (Za.int .u32)))) 114 441 ai ak cz c0 b6∧Zf 25 440 ai ak g6 #[.slice cz b6.length c0]∧Zf 137 2 ai ak ed #[(.func (.func 110) #[] #[.pointer (some ⟨g3,0,none⟩),.pointer (some ⟨g4,0,none⟩),.pointer (some ⟨g5,0,none⟩),.pointer (some ⟨g6,0,none⟩)])]∧Zb (Za.int .i64) 3 4 ai ak di dj a7∧Zf 33 3 ai ak dq #[.slice di a7.length dj]) (fun _ _ _=>False) ?_ ?_ ⟨e6,e7,e5,ah.1,d9,d1,ah.2.1,ea,d2,ah.2.2.1,eb,d3,ah.2.2.2.1,ec,d4,ah.2.2.2.2,ab.1,db,c4,ab.2.1,dc,c5,ab.2.2.1,dd,c6,ab.2.2.2.1,de,c7,ab.2.2.2.2,aq.1.1,df,c8,aq.1.2,dg,c9,aq.2,dh,da,b9,hm,aa,e8,am,(ez.ks aa),(e0.ks aa),(e1.ks aa),(e2.ks aa),hb3,bj,bk,bm,bn,hb4,bo,bp,hb5,bq,hb6,ad,aj,af⟩ ?_ ?_ ?_
  ·intro ys_ ai ak col2_ w2_ hJ hk;obtain ⟨dr,ds,dm,cb,cc,cd,bv,ce,cf,bw,cg,ch,bx,ci,cj,bz,ck,cl,cn,b0,co,cp,b1,cq,cr,b2,cs,ct,b3,cu,cv,cw,b4,cx,cy,b5,cz,c0,b6,hm,aa,dt,am,a8,a9,ba,bb,hb3,bc,bd,be,bf,hb4,bg,bh,hb5,bi,hb6,ad,aj,af⟩:=hJ;exact ⟨dr,ds,dm,cb,cc,cd,bv,ce,cf,bw,cg,ch,bx,ci,cj,bz,ck,cl,cn,b0,co,cp,b1,cq,cr,b2,cs,ct,b3,cu,cv,cw,b4,cx,cy,b5,cz,c0,b6,hm,aa.kpp hk rfl rfl,dt.kpp hk rfl rfl,am.kpp hk rfl,a8.kpp hk rfl,a9.kpp hk rfl,ba.kpp hk rfl,bb.kpp hk rfl,hb3.kpp hk rfl,bc.kpp hk rfl rfl,bd.kpp hk rfl rfl,be.kpp hk rfl rfl,bf.kpp hk rfl rfl,hb4.kpp hk rfl,bg.kpp hk rfl rfl,bh.kpp hk rfl rfl,hb5.kpp hk rfl,bi.kpp hk rfl rfl,hb6.kpp hk rfl,ad.kpp hk rfl,aj.kpp hk rfl rfl,af.kpp hk rfl⟩
  ·intro _ _ _ _ _ h _;exact h
  ·intro gh h2 gi fv gj ai ak args hJ hrec hmk harr;obtain ⟨dr,ds,dm,cb,cc,cd,bv,ce,cf,bw,cg,ch,bx,ci,cj,bz,ck,cl,cn,b0,co,cp,b1,cq,cr,b2,cs,ct,b3,cu,cv,cw,b4,cx,cy,b5,cz,c0,b6,hm,aa,dt,am,a8,a9,ba,bb,hb3,bc,bd,be,bf,hb4,bg,bh,hb5,bi,hb6,ad,aj,af⟩:=hJ;rw [Zfo.eq_2] at hm;have hki:=Zq.refl (pC 1) ai ak;obtain ⟨gk,gl,rfl,b7⟩:=harr;refine go ?_;refine ⟨_,hrec,?_⟩;intro h3 gm an fw hrec2;have hrec:=hrec2;refine go ?_;replace af:=af.kp an;refine lW af.at1<|go ?_;replace dt:=dt.kp an;replace a8:=a8.kp an;replace a9:=a9.kp an;replace ba:=ba.kp an;replace bb:=bb.kp an;replace bc:=bc.kp an;replace bd:=bd.kp an;replace be:=be.kp an;replace bf:=bf.kp an;replace bg:=bg.kp an;replace bh:=bh.kp an;replace bi:=bi.kp an;replace aj:=aj.kp an;replace b7:=b7.kp an;replace am:=am.kp an;replace ad:=ad.kp an;replace hb3:=hb3.kp an;replace hb4:=hb4.kp an;replace hb5:=hb5.kp an;replace hb6:=hb6.kp an;replace hmk:=hmk.kp an;replace hki:=hki.kp an fw rfl;replace aa:=aa.kp an fw
   refine Zu [10,12,44,45,5,6,1000000] (fun n f al=>∃ ac du dv c1 dw eh,n=eh.length∧a7.drop dw=eh∧Zh7 N cb bv bw bx bz ck b0 b1 b2 b3 cu b4 b5 b6 (Zfo N a7 gj) fv eh dw c1=some r∧St w0 (Xc [qc6,ae] col) ac al∧Zb (Za.int .i64) 3 6 ac al du dv c1∧Zf 33 7 ac al ef #[.slice du c1.length dv]∧Zb (Za.int .i64) 3 8 ac al gk gl fv.2∧Zb (Za.int .i64) 3 4 ac al di dj a7∧Sl Za.str ac al cc cd bv∧Sl (Za.slice Za.str) ac al ce cf bw∧Sl (Za.slice (Za.int .i64)) ac al cg ch bx∧Sl (Za.slice (Za.pair (Za.pair Za.bool (Za.slice (Za.int .u32))) (Za.slice (Za.int .u32)))) ac al ci cj bz∧Zf 27 999 ac al g3 #[.string cb,.slice cc bv.length cd,.slice ce bw.length cf,.slice cg bx.length ch,.slice ci bz.length cj]∧Zb Za.str 9 999 ac al cl cn b0∧Zb (Za.row 9 Za.str) 22 999 ac al co cp b1∧Zb (Za.row 3 (Za.int .i64)) 33 999 ac al cq cr b2∧Zb (Za.row 39 (Za.pair (Za.pair Za.bool (Za.row 95 (Za.int .u32))) (Za.row 95 (Za.int .u32)))) 114 999 ac al cs ct b3∧Zf 27 999 ac al g4 #[.string ck,.slice cl b0.length cn,.slice co b1.length cp,.slice cq b2.length cr,.slice cs b3.length ct]∧Zb (Za.int .u32) 95 999 ac al cv cw b4∧Zb (Za.int .u32) 95 999 ac al cx cy b5∧Zf 39 999 ac al g5 #[.bool cu,.slice cv b4.length cw,.slice cx b5.length cy]∧Zb (Za.row 39 (Za.pair (Za.pair Za.bool (Za.slice (Za.int .u32))) (Za.slice (Za.int .u32)))) 114 441 ac al cz c0 b6∧Zf 25 440 ac al g6 #[.slice cz b6.length c0]∧Zf 137 2 ac al ed #[(.func (.func 110) #[] #[.pointer (some ⟨g3,0,none⟩),.pointer (some ⟨g4,0,none⟩),.pointer (some ⟨g5,0,none⟩),.pointer (some ⟨g6,0,none⟩)])]∧Zf 33 3 ac al dq #[.slice di a7.length dj]∧Wn 498 ac al gh gm∧Yq 499 ac al gi∧Zq (pC 1) ai ak ac al∧[46].map f=[.int .i64 dw]) a7.length ⟨_,_,_,_,0,_,rfl,rfl,hm,aa,dt,am,b7,aj,a8,a9,ba,bb,hb3,bc,bd,be,bf,hb4,bg,bh,hb5,bi,hb6,ad,af,hrec,hmk,hki,rfl⟩ ?_;clear hm;intro n f al hI
   obtain ⟨ac,du,dv,c1,dw,eh,hn,hl,hm,aa,c3,am,b7,aj,a8,a9,ba,bb,hb3,bc,bd,be,bf,hb4,bg,bh,hb5,bi,hb6,ad,af,hrec,hmk,hki,hs⟩:=hI;subst hn;refine .lL [46] hs ?_
   cases eh with
   | nil=>
    have hk:¬ ((dw:Int)<(a7.length:Int)):=by have:=List.drop_eq_nil_iff.1 hl;omega
    have hkb:=decide_eq_false hk;rw [Zh7.eq_1] at hm;refine go ?_;refine Xs (congrArg Value.bool hkb)<|go ?_;refine lW ad.at1<|lW am.at1 ?_;obtain ⟨fx,gp,hm⟩:=bZ hm;refine lc rfl rfl (Zw6 call110 rfl rfl) (Z0o N ac _ 6 999 999 999 999 999 999 999 999 999 440 441 rfl ⟨by decide,rfl⟩ ⟨by decide,rfl⟩ ⟨by decide,rfl⟩ ⟨by decide,rfl⟩ ⟨by decide,rfl⟩ ⟨by decide,rfl⟩ ⟨by decide,rfl⟩ ⟨by decide,rfl⟩ ⟨by decide,rfl⟩ ⟨by decide,rfl⟩ du dv c1 g3 (cb,bv,bw,bx,bz) cc cd ce cf cg ch ci cj g4 (ck,b0,b1,b2,b3) cl cn co cp cq cr cs ct g5 ((cu,b4),b5) cv cw cx cy g6 b6 cz c0 c3 a8 a9 ba bb hb3 bc bd be bf hb4 bg bh hb5 bi hb6 fx gp) ?_;rintro _ h4 ⟨h5,gs,gt,rfl,ap,gu,gv⟩;refine ⟨_,rfl,?_⟩;replace c3:=c3.kpp ap;replace a8:=a8.kpp ap;replace a9:=a9.kpp ap;replace ba:=ba.kpp ap;replace bb:=bb.kpp ap;replace bc:=bc.kpp ap;replace bd:=bd.kpp ap;replace be:=be.kpp ap;replace bf:=bf.kpp ap;replace bg:=bg.kpp ap;replace bh:=bh.kpp ap;replace aj:=aj.kpp ap;replace am:=am.kpp ap;replace ad:=ad.kpp ap;replace hb3:=hb3.kpp ap;replace hb4:=hb4.kpp ap;replace hb5:=hb5.kpp ap;replace af:=af.kpp ap;replace hrec:=hrec.kpp ap;replace hmk:=hmk.kpp ap;replace hki:=hki.trans (ap.mono (by first | exact pCo_p2 rfl | exact pCo_p1 rfl | exact Z44 rfl | exact fun _=>Z43 | exact fun _ h=>h | exact fun _ _=>rfl));refine Zl ?_;replace aa:=aa.kpp ap;exact ⟨_,hki,⟨du,dv,c1,cb,cc,cd,bv,ce,cf,bw,cg,ch,bx,ci,cj,bz,ck,cl,cn,b0,co,cp,b1,cq,cr,b2,cs,ct,b3,cu,cv,cw,b4,cx,cy,b5,gs,gt,fx,hm,aa,c3,am,a8,a9,ba,bb,hb3,bc,bd,be,bf,hb4,bg,bh,hb5,gu,gv,ad,aj,af⟩,hrec,hmk⟩
   | cons gw gx=>
    obtain ⟨dn,gy,gz⟩:=X3 hl;have hk:(dw:Int)<(a7.length:Int):=by omega
    have hkb:=decide_eq_true hk;rw [Zh7.eq_2] at hm;refine go ?_;refine Xt (congrArg Value.bool hkb)<|go ?_;refine lI dn (aj.addr dn)<|lW (aj.atInt dn) ?_;refine go ?_;refine Wh (col:=ac) [(0,0),(1,1),(2,1),(3,1),(4,1),(5,0),(6,1),(7,2)] (by kernel_rfl) (by kernel_rfl)<|xW (fun _ hC=>am.at1.gr (hC.bl ac)) ?_;refine xu rfl rfl (fun _=>Yh rfl) ?_;refine xu rfl rfl (fun _=>Uj rfl) ?_;refine xu rfl rfl (fun _=>Yh rfl) ?_;obtain ⟨fy,el,hm⟩:=bZ hm;refine xu rfl rfl (fun _=>Ym underlying33 sizeOf3 rfl rfl (Z4 el).1 (Z4 el).2.1 (b7.addr el)) ?_;refine xW (fun _ hC=>(b7.gr (hC.bl ac)).atInt el) ?_;obtain ⟨h6,em,hm⟩:=bZ hm;refine xu rfl rfl (fun _=>Ym underlying33 sizeOf3 rfl rfl (Z4 em).1 (Z4 em).2.1 (c3.addr em)) ?_;refine xe rfl rfl ?_;intro h7 hC0;have hC:=hC0.bl ac;obtain ⟨fb,en,hm⟩:=bZ hm;have en:fb=c1.set (Int.toNat gw) fy:=(Option.some.inj en).symm;replace c3:=c3.gr hC;refine Y6 (x1:=fy) c3 em ?_;intro g0 ao fz eo;rw [← en] at eo;replace am:=(am.gr hC).kp ao;replace am:Zf 33 7 ac g0 ef #[.slice du fb.length dv]:=by rw [← (show c1.length=fb.length by rw [en,nS])];exact am
    refine Zl<|xk ac<|Y2 ?_;replace b7:=(b7.gr hC).kp ao;replace aj:=(aj.gr hC).kp ao;replace a8:=(a8.gr hC).kp ao;replace a9:=(a9.gr hC).kp ao;replace ba:=(ba.gr hC).kp ao;replace bb:=(bb.gr hC).kp ao;replace bc:=(bc.gr hC).kp ao;replace bd:=(bd.gr hC).kp ao;replace be:=(be.gr hC).kp ao;replace bf:=(bf.gr hC).kp ao;replace bg:=(bg.gr hC).kp ao;replace bh:=(bh.gr hC).kp ao;replace bi:=(bi.gr hC).kp ao;replace ad:=(ad.gr hC).kp ao;replace hb3:=(hb3.gr hC).kp ao;replace hb4:=(hb4.gr hC).kp ao;replace hb5:=(hb5.gr hC).kp ao;replace hb6:=(hb6.gr hC).kp ao;replace af:=(af.gr hC).kp ao;replace hrec:=(hrec.gr hC).kp ao;replace hmk:=(hmk.gr hC).kp ao;replace hki:=(hki.gr hC).kp ao fz rfl;replace aa:=(aa.grow hC).kp ao fz;intro h8 hC;replace hC:=hC.bl ac;refine go ?_;replace eo:=eo.gr hC;replace b7:=b7.gr hC;replace aj:=aj.gr hC;replace a8:=a8.gr hC;replace a9:=a9.gr hC;replace ba:=ba.gr hC;replace bb:=bb.gr hC;replace bc:=bc.gr hC;replace bd:=bd.gr hC;replace be:=be.gr hC;replace bf:=bf.gr hC;replace bg:=bg.gr hC;replace bh:=bh.gr hC;replace bi:=bi.gr hC;replace am:=am.gr hC;replace ad:=ad.gr hC;replace hb3:=hb3.gr hC;replace hb4:=hb4.gr hC;replace hb5:=hb5.gr hC;replace hb6:=hb6.gr hC;replace af:=af.gr hC;replace hrec:=hrec.gr hC;replace hmk:=hmk.gr hC;replace hki:=hki.gr hC;replace aa:=aa.grow hC;exact ⟨gx.length,by simp,rfl,⟨_,_,_,_,_,_,rfl,gy,hm,aa,eo,am,b7,aj,a8,a9,ba,bb,hb3,bc,bd,be,bf,hb4,bg,bh,hb5,bi,hb6,ad,af,hrec,hmk,hki,(X5 (congrArg (Value.int .i64) (X2 (Nat.lt_of_lt_of_le gz aj.len))) rfl)⟩⟩
  ·intro g1 ai ak hJ hmk;obtain ⟨dr,ds,dm,cb,cc,cd,bv,ce,cf,bw,cg,ch,bx,ci,cj,bz,ck,cl,cn,b0,co,cp,b1,cq,cr,b2,cs,ct,b3,cu,cv,cw,b4,cx,cy,b5,cz,c0,b6,hm,aa,dt,am,a8,a9,ba,bb,hb3,bc,bd,be,bf,hb4,bg,bh,hb5,bi,hb6,ad,aj,af⟩:=hJ;rw [Zfo.eq_1] at hm;cases hm;refine ⟨_,(g1 :: []),rfl,hmk,?_⟩;intro h9 fc g2;replace bi:=bi.kp fc;replace hb6:=hb6.kp fc;replace aa:=aa.kp fc g2;exact ⟨Tk w0.heap.size [qc6,ae] col ai (fun n=>bif Nat.beq n 441 then ae else bif Nat.beq n 440 then qc6 else 0),cz,c0,rfl,aa.finL rfl (fun n=>bif Nat.beq n 441 then ae else bif Nat.beq n 440 then qc6 else 0),aa.finOwnL (g:=(fun n=>bif Nat.beq n 441 then ae else bif Nat.beq n 440 then qc6 else 0)) rfl bi (by decide) (by decide) rfl,aa.finBoxL (g:=(fun n=>bif Nat.beq n 441 then ae else bif Nat.beq n 440 then qc6 else 0)) hb6 (by decide) (by decide) rfl⟩
  intro _ _ _ _ h;exact h.elim
 | cons ia f0=>
  obtain ⟨dn,g7,g8⟩:=X3 hl;have hk:(ca:Int)<(b8.length:Int):=by omega
  have hkb:=decide_eq_true hk;rw [Zdh.eq_2] at hm;refine go ?_;refine Xt (congrArg Value.bool hkb)<|X0<|Zs ?_;refine Wp.cutK [1,15,16,17,3,5,6,1000000] (fun f aw=>∃ ax fd fe ep ff fg eq,Zlc ca (Zdh N ag b8 ah ab aq b9 f0) ep eq=some r∧St w0 (Xc [qc6,ae] col) ax aw∧Zf 27 1 ax aw fr #[.string ag.1,.slice d5 ag.2.1.length dx,.slice d6 ag.2.2.1.length dy,.slice d7 ag.2.2.2.1.length dz,.slice d8 ag.2.2.2.2.length d0]∧Zf 27 999 ax aw g3 #[.string ah.1,.slice d9 ah.2.1.length d1,.slice ea ah.2.2.1.length d2,.slice eb ah.2.2.2.1.length d3,.slice ec ah.2.2.2.2.length d4]∧Zb Za.str 9 999 ax aw db c4 ab.2.1∧Zb (Za.row 9 Za.str) 22 999 ax aw dc c5 ab.2.2.1∧Zb (Za.row 3 (Za.int .i64)) 33 999 ax aw dd c6 ab.2.2.2.1∧Zb (Za.row 39 (Za.pair (Za.pair Za.bool (Za.row 95 (Za.int .u32))) (Za.row 95 (Za.int .u32)))) 114 999 ax aw de c7 ab.2.2.2.2∧Zf 27 999 ax aw g4 #[.string ab.1,.slice db ab.2.1.length c4,.slice dc ab.2.2.1.length c5,.slice dd ab.2.2.2.1.length c6,.slice de ab.2.2.2.2.length c7]∧Zb (Za.int .u32) 95 999 ax aw df c8 aq.1.2∧Zb (Za.int .u32) 95 999 ax aw dg c9 aq.2∧Zf 39 999 ax aw g5 #[.bool aq.1.1,.slice df aq.1.2.length c8,.slice dg aq.2.length c9]∧Zb (Za.row 39 (Za.pair (Za.pair Za.bool (Za.slice (Za.int .u32))) (Za.slice (Za.int .u32)))) 114 441 ax aw dh da b9∧Zf 25 440 ax aw g6 #[.slice dh b9.length da]∧Zf 137 2 ax aw ed #[(.func (.func 110) #[] #[.pointer (some ⟨g3,0,none⟩),.pointer (some ⟨g4,0,none⟩),.pointer (some ⟨g5,0,none⟩),.pointer (some ⟨g6,0,none⟩)])]∧Zb (Za.int .i64) 3 4 ax aw fd fe ep∧Zf 33 3 ax aw dq #[.slice fd ep.length fe]∧Zb (Za.int .i64) 3 5 ax aw ff fg eq∧Yq 499 ax aw []∧[7].map f=[.slice ff eq.length fg]) ?_ ?_
  ·intro f aw hJ;obtain ⟨ax,fd,fe,ep,ff,fg,eq,hm,aa,bu,hb3,bj,bk,bm,bn,hb4,bo,bp,hb5,bq,hb6,ad,g9,af,ha,hmk,hs⟩:=hJ;rw [Zlc.eq_1] at hm;refine .lL [7] hs<|go ?_;exact ⟨f0.length,by simp,rfl,⟨_,_,_,_,_,_,_,_,_,rfl,g7,hm,aa,bu,hb3,bj,bk,bm,bn,hb4,bo,bp,hb5,bq,hb6,ad,g9,af,ha,hmk,(X5 (congrArg (Value.int .i64) (X2 (Nat.lt_of_lt_of_le g8 (h1.ks aa).1.1))) rfl)⟩⟩
  refine go ?_;refine lI dn ((h1.ks aa).addr dn)<|lW ((h1.ks aa).atInt dn) ?_;refine go ?_;refine Zo hm (fun hb hm=>go ?_) fun hb hm=>?_
  ·refine lW af.at1<|Xp rfl<|Vg (col:=au) [(ca:Int)] 9 ?_;intro ib hc he a0 hf;obtain ⟨f1,hm⟩:=Z3 hm;replace aj:=aj.gr a0;refine Sy (col:=he) (w:=hc) (r:=(Za.int .i64)) (c:=4) (c2:=4) (aj.ex) (hf.srcN (NB.int (k:=.i64))) rfl underlying33 Z21 rfl rfl rfl f1.1 f1.2 (by decide) ?_;intro f2 f3 ic f4 a4 fh;replace af:=(af.gr a0).kpp a4;refine Tl (v:=(.slice f2 ((a7++[(ca:Int)]).length) f3)) af sizeOf33 rfl rfl (by intro u hu;simp only [Value.cells,List.mem_cons,List.not_mem_nil,or_false] at hu;subst hu;rfl) rfl rfl ?_;intro hg a5 hh ei;replace ei:Zf 33 3 f4 hg dq #[.slice f2 ((a7++[(ca:Int)]).length) f3]:=ei;replace fh:=fh.kp a5;have fi:=fh.new;refine go ?_;refine Ya ⟨_,_,rfl⟩ ?_;replace bu:=((bu.gr a0).kpp a4).kp a5;refine lW ((bu.atN).nth (q:=2) rfl)<|Xp rfl ?_;obtain ⟨hi,fj,hm⟩:=bZ hm;replace aa:=((aa.grow a0).kpp a4).kp a5 hh;refine lI fj ((ej.ks aa).addr fj) ?_;obtain ⟨_,hj,ho⟩:=(ej.ks aa).atN fj;obtain ⟨⟨id,ie,rfl,ig⟩,_⟩:=hj;refine lW ho.one<|go ?_;refine Vg (col:=f4) [(hi.length:Int)] 10 ?_;intro ih ii ij a2 hp;obtain ⟨hq,hm⟩:=Z3 hm;replace dl:=(((dl.gr a0).kpp a4).kp a5).gr a2;refine W7 dl (hp.srcN (NB.int (k:=.i64))) hq ?_;intro ik il im io a6 hr;refine go ?_;replace bj:=((((bj.gr a0).kpp a4).kp a5).gr a2).kpp a6;replace bk:=((((bk.gr a0).kpp a4).kp a5).gr a2).kpp a6;replace bm:=((((bm.gr a0).kpp a4).kp a5).gr a2).kpp a6;replace bn:=((((bn.gr a0).kpp a4).kp a5).gr a2).kpp a6;replace bo:=((((bo.gr a0).kpp a4).kp a5).gr a2).kpp a6;replace bp:=((((bp.gr a0).kpp a4).kp a5).gr a2).kpp a6;replace bq:=((((bq.gr a0).kpp a4).kp a5).gr a2).kpp a6;replace ad:=((((ad.gr a0).kpp a4).kp a5).gr a2).kpp a6;replace hb3:=((((hb3.gr a0).kpp a4).kp a5).gr a2).kpp a6;replace hb4:=((((hb4.gr a0).kpp a4).kp a5).gr a2).kpp a6;replace hb5:=((((hb5.gr a0).kpp a4).kp a5).gr a2).kpp a6;replace hb6:=((((hb6.gr a0).kpp a4).kp a5).gr a2).kpp a6;replace hmk:=((((hmk.gr a0).kpp a4).kp a5).gr a2).kpp a6;replace fi:=(fi.gr a2).kpp a6;replace bu:=(bu.gr a2).kpp a6;replace ei:=(ei.gr a2).kpp a6;replace aa:=(aa.grow a2).kpp a6
   exact ⟨rfl,_,_,_,_,_,_,_,hm,aa,bu,hb3,bj,bk,bm,bn,hb4,bo,bp,hb5,bq,hb6,ad,fi,ei,hr,hmk,rfl⟩
  refine X0 ?_;exact ⟨rfl,_,_,_,_,_,_,_,hm,aa,bu,hb3,bj,bk,bm,bn,hb4,bo,bp,hb5,bq,hb6,ad,aj,af,dl,hmk,rfl⟩
def Zh6 (N:Nat) (ab:R0) (ad:List R7):Nat→Int→ByteArray→R6→Re→R9→Rb→Option (R0×Int)
  | 0,_,_,_,_,_,_=>none
  | ai+1,aa,ae,af,ag,ah,ac=>if (decide (aa<(ab.2.1.length:Int)))=true then ((Zm ac aa).bind fun aj=>(Zm ad aa).bind fun ak=>(Zm ab.2.2.1 aa).bind fun al=>(Zdi N aj ak (al.length:Int)).bind fun am=>(Zh6 N ab ad ai) (i64.wrap (aa+1)) ae af ag ah (ac.set (Int.toNat aa) am)) else (some ((ae,af,ag,ah,ac),0))
termination_by structural x=>x
def Zh5 (N:Nat) (aa:R0) (ab:R0):List R5→Rb→Option (R0×Int)
  | [],ac=>Zh6 N aa ac N 0 ab.1 ab.2.1 ab.2.2.1 ab.2.2.2.1 ab.2.2.2.2
  | ae :: af,ac=>(U9 N (aa.1,aa.2.1,aa.2.2.1,aa.2.2.2.1,aa.2.2.2.2) [ae]).bind fun ad=>(Zox N (aa.1,aa.2.1,aa.2.2.1,aa.2.2.2.1,aa.2.2.2.2) ae (aa.1,aa.2.1,aa.2.2.1,aa.2.2.2.1,aa.2.2.2.2) (ab.1,ab.2.1,ab.2.2.1,ab.2.2.2.1,ab.2.2.2.2) ((ad.1.1.1,ad.1.1.2),ad.1.2) ac).bind fun ag=>(Zh5 N aa ab af) ag
termination_by structural x=>x
def Zh4 (N:Nat) (ab:R0) (ae:R9) (af:R0):Nat→Rb→Int→Option (R0×Int)
  | 0,_,_=>none
  | ag+1,ac,aa=>if (decide (aa<(ab.2.1.length:Int)))=true then ((Zm ab.2.2.2.2 aa).bind fun ad=>Zt (ad.length * 56≤281474976710656∧ad.length≤maxLen) ((Zm ac aa).bind fun ai=>(some (ac.set (Int.toNat aa) (List.replicate ad.length (((false,([]:List Int)),([]:List Int)):R4)))).bind fun ah=>(Zh4 N ab ae af ag) ah (i64.wrap (aa+1)))) else (Zh5 N ab af ae ac)
termination_by structural x=>x
def Zov (N:Nat) (aa:R0) (ac:R9):Option (R0×Int):=
  (Zdk N (aa.1,aa.2.1,aa.2.2.1,aa.2.2.2.1,aa.2.2.2.2) ac).bind fun ad=>if (!decide (ad=0))=true then (some ((⟨#[]⟩,([]:List ByteArray),([]:List R6),([]:List R5),([]:List R7)),ad)) else ((U9 N (aa.1,aa.2.1,aa.2.2.1,aa.2.2.2.1,aa.2.2.2.2) ac).bind fun ab=>if (!decide (ab.2=0))=true then (some ((⟨#[]⟩,([]:List ByteArray),([]:List R6),([]:List R5),([]:List R7)),ab.2)) else ((Sb N ((ab.1.1.1,ab.1.1.2),ab.1.2)).bind fun ae=>if (decide (ae=0))=true then (some ((⟨#[]⟩,([]:List ByteArray),([]:List R6),([]:List R5),([]:List R7)),52)) else ((Zdg N (aa.1,aa.2.1,aa.2.2.1,aa.2.2.2.1,aa.2.2.2.2)).bind fun af=>Zt (aa.2.1.length * 24≤281474976710656∧aa.2.1.length≤maxLen) (Zh4 N aa ac af N (List.replicate aa.2.1.length (([]:List R4):R7)) 0))))
theorem Z0n {N b2 b3 b4 b5 d7:Nat} {b6 b7 b8 b9 a1:Option Addr} {col:Ze} {w0:World} {ae:R0} {bb:R9} {r:(R0×Int)} (c1 c2 c3 c4:Nat) (hm:Zov N ae bb=some r) (bc:Sl Za.str col w0 b6 b2 ae.2.1) (az:Sl (Za.slice Za.str) col w0 b7 b3 ae.2.2.1) (bd:Sl (Za.slice (Za.int .i64)) col w0 b8 b4 ae.2.2.2.1) (a0:Sl (Za.slice (Za.pair (Za.pair Za.bool (Za.slice (Za.int .u32))) (Za.slice (Za.int .u32)))) col w0 b9 b5 ae.2.2.2.2) (h1:Sl (Za.slice (Za.int .i64)) col w0 a1 d7 bb):
    Calls prog 31 #[(.agg #[.string ae.1,.slice b6 ae.2.1.length b2,.slice b7 ae.2.2.1.length b3,.slice b8 ae.2.2.2.1.length b4,.slice b9 ae.2.2.2.2.length b5]),.slice a1 bb.length d7] w0 (fun e w'=>∃ (col':Ze) (ra1:Option Addr) (rc2:Nat) (ra4:Option Addr) (rc5:Nat) (ra7:Option Addr) (rc8:Nat) (ra10:Option Addr) (rc11:Nat),e= .returned (.tuple #[(.agg #[.string r.1.1,.slice ra1 r.1.2.1.length rc2,.slice ra4 r.1.2.2.1.length rc5,.slice ra7 r.1.2.2.2.1.length rc8,.slice ra10 r.1.2.2.2.2.length rc11]),.int .i64 r.2])∧Zh col w0 col' w'∧Zb Za.str 9 c1 col' w' ra1 rc2 r.1.2.1∧Zb (Za.row 9 Za.str) 22 c2 col' w' ra4 rc5 r.1.2.2.1∧Zb (Za.row 3 (Za.int .i64)) 33 c3 col' w' ra7 rc8 r.1.2.2.2.1∧Zb (Za.row 39 (Za.pair (Za.pair Za.bool (Za.row 95 (Za.int .u32))) (Za.row 95 (Za.int .u32)))) 114 c4 col' w' ra10 rc11 r.1.2.2.2.2):=by
 refine Y5 (m:=105) func31 rfl rfl rfl ?_;rw [Zov.eq_1] at hm;have aa:=St.start col w0;refine go ?_;refine Xl (col:=(Zj col)) 1 rfl ?_;intro cx gm er es ab;refine Xg (col:=er) #[.string (⟨#[]⟩),.slice none (([]:List ByteArray).length) 0,.slice none (([]:List R6).length) 0,.slice none (([]:List R5).length) 0,(.slice none (([]:List R7).length) 0)] 2 zeroValue27 ?_;intro dr et d8 d9 ac;refine go ?_;replace ab:=ab.gr d9;refine lV _ (Z2 isAgg27 sizeOf27 ab)<|Yk rfl ?_;obtain ⟨gp,eu,hm⟩:=bZ hm;replace bc:=bc.keep (Zi.start col w0);replace az:=az.keep (Zi.start col w0);replace bd:=bd.keep (Zi.start col w0);replace a0:=a0.keep (Zi.start col w0);replace h1:=h1.keep (Zi.start col w0);replace aa:=(aa.grow es).grow d9;refine Zk (Zn0 eu (bc.ks aa) (az.ks aa) (bd.ks aa) (a0.ks aa) (h1.ks aa)) ?_;rintro _ ew ⟨rfl,ca⟩;refine ⟨_,rfl,?_⟩;replace ca:Zh d8 et d8 ew:=.of_below ca;refine go ?_;replace ab:=ab.gr ca;replace ac:=ac.gr ca;replace aa:=aa.grow ca;refine Zo hm (fun hb hm=>go ?_) fun hb hm=>go ?_
 ·refine lV (.agg #[.string (⟨#[]⟩),.slice none (([]:List ByteArray).length) 0,.slice none (([]:List R6).length) 0,.slice none (([]:List R5).length) 0,(.slice none (([]:List R7).length) 0)]) (Wc (l:=[_,_,_,_,_]) (qs:=[(0,1),(1,1),(2,1),(3,1),(4,1)]) underlying27 zeroValue27 ⟨rfl,sizeOf9,rfl,sizeOf22,rfl,sizeOf23,rfl,sizeOf24,rfl,sizeOf25,trivial⟩ rfl)<|Xp rfl<|Zz ac ?_;intro gs ey ez e0;refine go ?_;cases hm;replace aa:=aa.kp ey ez;exact ⟨rfl,_,Vw e0.atN,_,none,0,none,0,none,0,none,0,rfl,aa.fin (cm []),Zb.nil,Zb.nil,Zb.nil,Zb.nil⟩
 refine lV _ (Z2 isAgg27 sizeOf27 ab)<|Yk rfl ?_;obtain ⟨be,e1,hm⟩:=bZ hm;refine Zk (Zet 3 4 e1 (bc.ks aa) (az.ks aa) (bd.ks aa) (a0.ks aa) (h1.ks aa)) ?_;rintro _ gt ⟨e2,ea,eb,ec,ed,rfl,ds,dt,du⟩;refine ⟨_,rfl,?_⟩;refine lM (.tuple #[(.agg #[.bool be.1.1.1,.slice ea be.1.1.2.length eb,.slice ec be.1.2.length ed]),.int .i64 be.2])<|lV (.agg #[.bool be.1.1.1,.slice ea be.1.1.2.length eb,.slice ec be.1.2.length ed]) (Xk rfl rfl)<|lV (.int .i64 be.2) (Xk rfl rfl)<|Xg (col:=e2) #[.bool false,.slice none (([]:List Int).length) 0,.slice none (([]:List Int).length) 0] 5 zeroValue39 ?_;intro gu gv ee cb e3;refine Zz e3 ?_;intro e4 cc e5 e6;refine go ?_;replace ab:=((ab.gr ds).gr cb).kp cc;replace ac:=((ac.gr ds).gr cb).kp cc;replace aa:=((aa.grow ds).grow cb).kp cc e5;replace dt:=(dt.gr cb).kp cc;replace du:=(du.gr cb).kp cc;refine Zo hm (fun hb hm=>go ?_) fun hb hm=>go ?_
 ·refine lV (.agg #[.string (⟨#[]⟩),.slice none (([]:List ByteArray).length) 0,.slice none (([]:List R6).length) 0,.slice none (([]:List R5).length) 0,(.slice none (([]:List R7).length) 0)]) (Wc (l:=[_,_,_,_,_]) (qs:=[(0,1),(1,1),(2,1),(3,1),(4,1)]) underlying27 zeroValue27 ⟨rfl,sizeOf9,rfl,sizeOf22,rfl,sizeOf23,rfl,sizeOf24,rfl,sizeOf25,trivial⟩ rfl)<|Xp rfl<|Zz ac ?_;intro gw e7 e8 e9;refine go ?_;cases hm;replace aa:=aa.kp e7 e8;exact ⟨rfl,_,Vw e9.atN,_,none,0,none,0,none,0,none,0,rfl,aa.fin (cm []),Zb.nil,Zb.nil,Zb.nil,Zb.nil⟩
 refine lV _ (Z2 isAgg39 sizeOf39 e6) ?_;obtain ⟨gx,fa,hm⟩:=bZ hm;refine Zk (Zhj fa ((dt.toSlF (Zd.int .u32)).froz 4) ((du.froz 3 (by decide)).toSlF (Zd.int .u32))) ?_;rintro _ fb ⟨rfl,cd⟩;refine ⟨_,rfl,?_⟩;replace cd:Zh ee e4 ee fb:=.of_below cd;refine go ?_;replace ab:=ab.gr cd;replace ac:=ac.gr cd;replace aa:=aa.grow cd;refine Zo hm (fun hb hm=>go ?_) fun hb hm=>go ?_
 ·refine lV (.agg #[.string (⟨#[]⟩),.slice none (([]:List ByteArray).length) 0,.slice none (([]:List R6).length) 0,.slice none (([]:List R5).length) 0,(.slice none (([]:List R7).length) 0)]) (Wc (l:=[_,_,_,_,_]) (qs:=[(0,1),(1,1),(2,1),(3,1),(4,1)]) underlying27 zeroValue27 ⟨rfl,sizeOf9,rfl,sizeOf22,rfl,sizeOf23,rfl,sizeOf24,rfl,sizeOf25,trivial⟩ rfl)<|Zz ac ?_;intro gy fc fd fe;refine go ?_;cases hm;replace aa:=aa.kp fc fd;exact ⟨rfl,_,Vw fe.atN,_,none,0,none,0,none,0,none,0,rfl,aa.fin (cm []),Zb.nil,Zb.nil,Zb.nil,Zb.nil⟩
 refine lV _ (Z2 isAgg27 sizeOf27 ab) ?_;obtain ⟨ak,ff,hm⟩:=bZ hm;refine Zk (Zry 6 7 8 9 ff (bc.ks aa) (az.ks aa) (bd.ks aa) (a0.ks aa)) ?_;rintro _ gz ⟨fg,cy,cz,c0,c5,c6,c7,c8,c9,rfl,dv,ag,ah,ai,aj⟩;refine ⟨_,rfl,?_⟩;refine Xg (col:=fg) #[.string (⟨#[]⟩),.slice none (([]:List ByteArray).length) 0,.slice none (([]:List R6).length) 0,.slice none (([]:List R5).length) 0,(.slice none (([]:List R7).length) 0)] 10 zeroValue27 ?_;intro bt g0 fh bj fi;refine Zz fi ?_;intro fj bk fk ad;refine go ?_;refine Ya ⟨_,_,rfl⟩ ?_;replace ab:=((ab.gr dv).gr bj).kp bk;refine lW ((ab.atN).nth (q:=1) rfl)<|go ?_;obtain ⟨ef,hm⟩:=Z3 hm;refine Sz (col:=fh) (w:=fj) (r:=(Za.row 39 (Za.pair (Za.pair Za.bool (Za.slice (Za.int .u32))) (Za.slice (Za.int .u32))))) (n:=ae.2.1.length) (x0:=([]:List R4)) 11 rfl underlying25 Tryz.t114 rfl rfl rfl rfl rfl rfl rfl ef.1 ef.2 Zqt ?_;intro eg g1 fl bf dw;refine Qq (col:=fl) (v:=(.slice none (([]:List R7).length) 0)) 12 rfl zeroValue25 ?_;intro bm fm eh a7 dx;replace dx:Zf 25 12 eh fm bm #[(.slice none (([]:List R7).length) 0)]:=dx;refine Tl (v:=(.slice eg ((List.replicate ae.2.1.length (([]:List R4):R7)).length) ae.2.1.length)) dx sizeOf25 rfl rfl (by intro u hu;simp only [Value.cells,List.mem_cons,List.not_mem_nil,or_false] at hu;subst hu;rfl) rfl rfl ?_;intro fn a8 fp af;replace af:Zf 25 12 eh fn bm #[(.slice eg ((List.replicate ae.2.1.length (([]:List R4):R7)).length) ae.2.1.length)]:=af;refine go ?_;refine Ya ⟨_,_,rfl⟩ ?_;replace ab:=((ab.gr bf).gr a7).kp a8;refine lW ((ab.atN).nth (q:=1) rfl)<|go ?_;replace ac:=(((((ac.gr dv).gr bj).kp bk).gr bf).gr a7).kp a8;replace aa:=(((((aa.grow dv).grow bj).kp bk fk).grow bf).grow a7).kp a8 fp;replace ag:=((((ag.gr bj).kp bk).gr bf).gr a7).kp a8;replace ah:=((((ah.gr bj).kp bk).gr bf).gr a7).kp a8;replace ai:=((((ai.gr bj).kp bk).gr bf).gr a7).kp a8;replace aj:=((((aj.gr bj).kp bk).gr bf).gr a7).kp a8;replace ad:=((ad.gr bf).gr a7).kp a8;replace dw:=(dw.gr a7).kp a8
 refine Zu [1,10,2,4,48,9,1000000] (fun n f av=>∃ am da db bu dc bv,bv=n∧Zh4 N ae bb ak bv bu dc=some r∧St w0 (Zj col) am av∧Zb (Za.row 39 (Za.pair (Za.pair Za.bool (Za.slice (Za.int .u32))) (Za.slice (Za.int .u32)))) 114 11 am av da db bu∧Zf 25 12 am av bm #[.slice da bu.length db]∧Zf 27 1 am av cx #[.string ae.1,.slice b6 ae.2.1.length b2,.slice b7 ae.2.2.1.length b3,.slice b8 ae.2.2.2.1.length b4,.slice b9 ae.2.2.2.2.length b5]∧Zf 27 2 am av dr #[.string (⟨#[]⟩),.slice none (([]:List ByteArray).length) 0,.slice none (([]:List R6).length) 0,.slice none (([]:List R5).length) 0,(.slice none (([]:List R7).length) 0)]∧Zb Za.str 9 6 am av cy cz ak.2.1∧Zb (Za.row 9 Za.str) 22 7 am av c0 c5 ak.2.2.1∧Zb (Za.row 3 (Za.int .i64)) 33 8 am av c6 c7 ak.2.2.2.1∧Zb (Za.row 39 (Za.pair (Za.pair Za.bool (Za.row 95 (Za.int .u32))) (Za.row 95 (Za.int .u32)))) 114 9 am av c8 c9 ak.2.2.2.2∧Zf 27 10 am av bt #[.string ak.1,.slice cy ak.2.1.length cz,.slice c0 ak.2.2.1.length c5,.slice c6 ak.2.2.2.1.length c7,.slice c8 ak.2.2.2.2.length c9]∧[49].map f=[.int .i64 dc]) N ⟨_,_,_,_,0,_,rfl,hm,aa,dw,af,ab,ac,ag,ah,ai,aj,ad,rfl⟩ ?_;clear hm;intro n f av hI;obtain ⟨am,da,db,bu,dc,bv,hn,hm,aa,bn,af,ab,ac,ag,ah,ai,aj,ad,hs⟩:=hI;subst hn;refine .lL [49] hs ?_
 cases bv with
 | zero=>rw [Zh4.eq_1] at hm;cases hm
 | succ bv=>
  rw [Zh4.eq_2] at hm;refine go ?_;refine Zo hm (fun hb hm=>go ?_) fun hb hm=>go ?_
  ·refine Wh (col:=am) [(0,0),(1,1),(2,1),(3,0),(4,1),(5,1),(6,0),(7,1),(8,3),(9,1),(10,2)] (by kernel_rfl) (by kernel_rfl)<|xW (fun _ hC=>af.at1.gr (hC.bl am)) ?_;refine xu rfl rfl (fun _=>Yh rfl) ?_;refine xF ⟨_,_,rfl⟩ ?_;refine xW (fun _ hC=>((ab.atN).nth (q:=4) rfl).gr (hC.bl am)) ?_;refine xu rfl rfl (fun _=>Yh rfl) ?_;obtain ⟨ce,dd,hm⟩:=bZ hm;refine xu rfl rfl (fun _=>Ym underlying25 sizeOf114 rfl rfl (Z4 dd).1 (Z4 dd).2.1 ((a0.ks aa).addr dd)) ?_;obtain ⟨_,fq,fr⟩:=(a0.ks aa).atN dd;obtain ⟨⟨g2,g3,rfl,g4⟩,_⟩:=fq;refine xW (fun _ hC=>fr.one.gr (hC.bl am)) ?_;refine xu rfl rfl (fun _=>Qg underlying114 rfl) ?_;refine xe rfl rfl ?_;intro ft hC0;have hC:=hC0.bl am;obtain ⟨ei,hm⟩:=Z3 hm;refine Sz (col:=am) (w:=ft) (r:=(Za.pair (Za.pair Za.bool (Za.slice (Za.int .u32))) (Za.slice (Za.int .u32)))) (n:=ce.length) (x0:=((false,([]:List Int)),([]:List Int))) 13 rfl underlying114 Tryz.t39 rfl rfl rfl rfl rfl rfl rfl ei.1 ei.2 (Zg0 (Zg0 (Zab false) Zxk) Zxk) ?_;intro fu g5 ej aw dy;refine Zl<|Xo ej hC0 aw ?_;obtain ⟨g6,de,hm⟩:=bZ hm;replace bn:=(bn.gr hC).gr aw;refine xu rfl rfl (fun _=>Ym underlying25 sizeOf114 rfl rfl (Z4 de).1 (Z4 de).2.1 (bn.addr de)) ?_;refine xe rfl rfl ?_;intro g7 hC0;replace ag:=(ag.gr hC).gr aw;replace ah:=(ah.gr hC).gr aw;replace ai:=(ai.gr hC).gr aw;replace aj:=(aj.gr hC).gr aw;replace af:=(af.gr hC).gr aw;replace ab:=(ab.gr hC).gr aw;replace ac:=(ac.gr hC).gr aw;replace ad:=(ad.gr hC).gr aw;replace aa:=(aa.grow hC).grow aw;have hC:=hC0.bl ej;obtain ⟨dz,df,hm⟩:=bZ hm;have df:dz=bu.set (Int.toNat dc) (List.replicate ce.length (((false,([]:List Int)),([]:List Int)):R4)):=(Option.some.inj df).symm;replace bn:=bn.gr hC;replace dy:=dy.gr hC;refine Zop (x1:=List.replicate ce.length (((false,([]:List Int)),([]:List Int)):R4)) (v:=(.slice fu ((List.replicate ce.length (((false,([]:List Int)),([]:List Int)):R4)).length) ce.length)) bn de rfl sizeOf114 dy.has rfl rfl (by decide) ?_;intro fv d0 a9 dg;rw [← df] at dg;replace af:=(af.gr hC).kpp a9;replace af:Zf 25 12 d0 fv bm #[.slice da dz.length db]:=by rw [← (show bu.length=dz.length by rw [df,nS])];exact af
   refine Zl<|xk d0<|Y2 ?_;replace ag:=(ag.gr hC).kpp a9;replace ah:=(ah.gr hC).kpp a9;replace ai:=(ai.gr hC).kpp a9;replace aj:=(aj.gr hC).kpp a9;replace ab:=(ab.gr hC).kpp a9;replace ac:=(ac.gr hC).kpp a9;replace ad:=(ad.gr hC).kpp a9;replace aa:=(aa.grow hC).kpp a9;intro g8 hC;replace hC:=hC.bl d0;refine go ?_;replace dg:=dg.gr hC;replace ag:=ag.gr hC;replace ah:=ah.gr hC;replace ai:=ai.gr hC;replace aj:=aj.gr hC;replace af:=af.gr hC;replace ab:=ab.gr hC;replace ac:=ac.gr hC;replace ad:=ad.gr hC;replace aa:=aa.grow hC;exact ⟨bv,by omega,rfl,⟨_,_,_,_,_,_,rfl,hm,aa,dg,af,ab,ac,ag,ah,ai,aj,ad,rfl⟩⟩
  refine Zu [10,2,4,63,64,9,1000000] (fun n f ax=>∃ ar cf cg bo ch ci,n=ci.length∧bb.drop ch=ci∧Zh5 N ae ak ci bo=some r∧St w0 (Zj col) ar ax∧Zb (Za.row 39 (Za.pair (Za.pair Za.bool (Za.slice (Za.int .u32))) (Za.slice (Za.int .u32)))) 114 11 ar ax cf cg bo∧Zf 25 12 ar ax bm #[.slice cf bo.length cg]∧Zf 27 1 ar ax cx #[.string ae.1,.slice b6 ae.2.1.length b2,.slice b7 ae.2.2.1.length b3,.slice b8 ae.2.2.2.1.length b4,.slice b9 ae.2.2.2.2.length b5]∧Zf 27 2 ar ax dr #[.string (⟨#[]⟩),.slice none (([]:List ByteArray).length) 0,.slice none (([]:List R6).length) 0,.slice none (([]:List R5).length) 0,(.slice none (([]:List R7).length) 0)]∧Zb Za.str 9 6 ar ax cy cz ak.2.1∧Zb (Za.row 9 Za.str) 22 7 ar ax c0 c5 ak.2.2.1∧Zb (Za.row 3 (Za.int .i64)) 33 8 ar ax c6 c7 ak.2.2.2.1∧Zb (Za.row 39 (Za.pair (Za.pair Za.bool (Za.row 95 (Za.int .u32))) (Za.row 95 (Za.int .u32)))) 114 9 ar ax c8 c9 ak.2.2.2.2∧Zf 27 10 ar ax bt #[.string ak.1,.slice cy ak.2.1.length cz,.slice c0 ak.2.2.1.length c5,.slice c6 ak.2.2.2.1.length c7,.slice c8 ak.2.2.2.2.length c9]∧[65].map f=[.int .i64 ch]) bb.length ⟨_,_,_,_,0,_,rfl,rfl,hm,aa,bn,af,ab,ac,ag,ah,ai,aj,ad,rfl⟩ ?_;clear hm;intro n f ax hI;obtain ⟨ar,cf,cg,bo,ch,ci,hn,hl,hm,aa,al,af,ab,ac,ag,ah,ai,aj,ad,hs⟩:=hI;subst hn;refine .lL [65] hs ?_
  cases ci with
  | nil=>
   have hk:¬ ((ch:Int)<(bb.length:Int)):=by have:=List.drop_eq_nil_iff.1 hl;omega
   have hkb:=decide_eq_false hk;rw [Zh5.eq_1] at hm;refine go ?_;refine Xs (congrArg Value.bool hkb)<|go ?_;refine Xd ab ?_;refine go ?_;replace al:=(al).toSlF (Zd.row (Zd.pair (Zd.pair Zd.bool Zd.slice) Zd.slice));replace ag:=ag.froz 11 (by decide);replace ah:=ah.froz 11 (by decide);replace ai:=ai.froz 11 (by decide);replace aj:=aj.froz 11 (by decide);replace af:=af.froz 11 (by decide);replace ab:=ab.froz 11 (by decide);replace ac:=ac.froz 11 (by decide);replace ad:=ad.froz 11 (by decide);replace aa:=aa.froz 11 (by decide) (by decide);refine Zu [10,2,4,83,9,1000000] (fun n f au=>∃ ao bp cj ck cl bw cn co bx cp cq bz bq br a2 b0,b0=n∧Zh6 N ae bo b0 bp cj bw bx bz a2=some r∧St w0 (Zj col) ao au∧Sl (Za.slice (Za.pair (Za.pair Za.bool (Za.slice (Za.int .u32))) (Za.slice (Za.int .u32)))) ao au cf cg bo∧Zf 25 12 ao au bm #[.slice cf bo.length cg]∧Zf 27 1 ao au cx #[.string ae.1,.slice b6 ae.2.1.length b2,.slice b7 ae.2.2.1.length b3,.slice b8 ae.2.2.2.1.length b4,.slice b9 ae.2.2.2.2.length b5]∧Zf 27 2 ao au dr #[.string (⟨#[]⟩),.slice none (([]:List ByteArray).length) 0,.slice none (([]:List R6).length) 0,.slice none (([]:List R5).length) 0,(.slice none (([]:List R7).length) 0)]∧Zb Za.str 9 6 ao au ck cl bw∧Zb (Za.row 9 Za.str) 22 7 ao au cn co bx∧Zb (Za.row 3 (Za.int .i64)) 33 8 ao au cp cq bz∧Zb (Za.row 39 (Za.pair (Za.pair Za.bool (Za.row 95 (Za.int .u32))) (Za.row 95 (Za.int .u32)))) 114 9 ao au bq br a2∧Zf 27 10 ao au bt #[.string cj,.slice ck bw.length cl,.slice cn bx.length co,.slice cp bz.length cq,.slice bq a2.length br]∧[84].map f=[.int .i64 bp]) N ⟨_,0,_,_,_,_,_,_,_,_,_,_,_,_,_,_,rfl,hm,aa,al,af,ab,ac,ag,ah,ai,aj,ad,rfl⟩ ?_;clear hm;intro n f au hI;obtain ⟨ao,bp,cj,ck,cl,bw,cn,co,bx,cp,cq,bz,bq,br,a2,b0,hn,hm,aa,al,af,ab,ac,a3,a4,a5,cr,ad,hs⟩:=hI;subst hn;refine .lL [84] hs ?_
   cases b0 with
   | zero=>rw [Zh6.eq_1] at hm;cases hm
   | succ b0=>
    rw [Zh6.eq_2] at hm;refine go ?_;refine Zo hm (fun hb hm=>go ?_) fun hb hm=>go ?_
    ·refine Wh (col:=ao) [(0,1),(1,0),(2,1),(3,1),(4,0),(5,0),(6,1),(7,1),(8,0),(9,1),(10,0),(11,1),(12,1),(13,0),(14,1),(15,2)] (by kernel_rfl) (by kernel_rfl)<|xF ⟨_,_,rfl⟩ ?_;refine xW (fun _ hC=>((ad.atN).nth (q:=4) rfl).gr (hC.bl ao)) ?_;refine xu rfl rfl (fun _=>Yh rfl) ?_;obtain ⟨d1,dh,hm⟩:=bZ hm;refine xu rfl rfl (fun _=>Ym underlying25 sizeOf114 rfl rfl (Z4 dh).1 (Z4 dh).2.1 (cr.addr dh)) ?_;obtain ⟨_,bs,ba,bg,fw⟩:=cr.open_ 14 (by decide) dh;obtain ⟨di,dj,rfl,d2⟩:=fw.row;replace bg:Yf (Za.row 39 (Za.pair (Za.pair Za.bool (Za.row 95 (Za.int .u32))) (Za.row 95 (Za.int .u32)))) 114 9 bs au bq br a2 (Int.toNat bp) [.slice di d1.length dj]:=bg;refine xW (fun _ hC=>bg.atN.one.gr (hC.bl bs)) ?_;replace af:=af.kpp ba;refine xW (fun _ hC=>af.at1.gr (hC.bl bs)) ?_;refine xu rfl rfl (fun _=>Yh rfl) ?_;obtain ⟨g9,dl,hm⟩:=bZ hm;replace al:=al.kpp ba;refine xu rfl rfl (fun _=>Ym underlying25 sizeOf114 rfl rfl (Z4 dl).1 (Z4 dl).2.1 (al.addr dl)) ?_;obtain ⟨_,fx,fy⟩:=al.atN dl;obtain ⟨⟨ha,hc,rfl,d3⟩,_⟩:=fx;refine xW (fun _ hC=>fy.one.gr (hC.bl bs)) ?_;refine xF ⟨_,_,rfl⟩ ?_;replace ab:=ab.kpp ba;refine xW (fun _ hC=>((ab.atN).nth (q:=2) rfl).gr (hC.bl bs)) ?_;refine xu rfl rfl (fun _=>Yh rfl) ?_;obtain ⟨hd,dm,hm⟩:=bZ hm;replace aa:=aa.kpp ba;refine xu rfl rfl (fun _=>Ym underlying23 sizeOf22 rfl rfl (Z4 dm).1 (Z4 dm).2.1 ((az.ks aa).addr dm)) ?_;obtain ⟨_,fz,f0⟩:=(az.ks aa).atN dm;obtain ⟨⟨he,hf,rfl,hg⟩,_⟩:=fz;refine xW (fun _ hC=>f0.one.gr (hC.bl bs)) ?_;refine xu rfl rfl (fun _=>Qg underlying22 rfl) ?_;refine xe rfl rfl ?_;intro hh hC0;have hC:=hC0.bl bs;obtain ⟨b1,f1,hm⟩:=bZ hm;replace d2:=d2.gr hC;replace d3:=d3.gr hC;refine Zk (Zrz 14 f1 rfl d2 d3) ?_;rintro _ d4 ⟨ct,rfl,a6,f2,ek⟩;refine ⟨_,rfl,?_⟩;refine .ld (d:=91) (v:=(.slice di b1.length dj)) (congrArg (fun n=>Value.slice di n dj) (show d1.length=b1.length from ek.symm)) ?_;replace ad:=((ad.kpp ba).gr hC).kpp a6;replace ad:Zf 27 10 ct d4 bt #[.string cj,.slice ck bw.length cl,.slice cn bx.length co,.slice cp bz.length cq,.slice bq a2.length br]:=by rw [];exact ad
     replace bg:=(bg.gr hC).kpp a6;replace bg:Yf (Za.row 39 (Za.pair (Za.pair Za.bool (Za.row 95 (Za.int .u32))) (Za.row 95 (Za.int .u32)))) 114 9 ct d4 bq br a2 (Int.toNat bp) [.slice di b1.length dj]:=by rw [← (show d1.length=b1.length from ek.symm)];exact bg
     refine Zl<|xk ct ?_;have d5:=bg.close f2.has (by decide) (by decide);replace al:=(al.gr hC).kpp a6;replace al:=al.recol 14 9 (by decide);replace a3:=((a3.kpp ba).gr hC).kpp a6;replace a3:=a3.recol 14 9 (by decide);replace a4:=((a4.kpp ba).gr hC).kpp a6;replace a4:=a4.recol 14 9 (by decide);replace a5:=((a5.kpp ba).gr hC).kpp a6;replace a5:=a5.recol 14 9 (by decide);replace af:=(af.gr hC).kpp a6;replace af:=af.recol 14 9 (by decide);replace ab:=(ab.gr hC).kpp a6;replace ab:=ab.recol 14 9 (by decide);replace ac:=((ac.kpp ba).gr hC).kpp a6;replace ac:=ac.recol 14 9 (by decide);replace ad:=ad.recol 14 9 (by decide);replace aa:=(aa.grow hC).kpp a6;replace aa:=aa.recol 14 9 (by decide) (by decide);replace ad:Zf 27 10 (Xm 14 9 ct) d4 bt #[.string cj,.slice ck bw.length cl,.slice cn bx.length co,.slice cp bz.length cq,.slice bq ((a2.set (Int.toNat bp) b1).length) br]:=by rw [← (show a2.length=(a2.set (Int.toNat bp) b1).length by simp only [nS])];exact ad
     refine Y2 ?_;intro hi hC;replace hC:=hC.bl (Xm 14 9 ct);refine go ?_;replace al:=al.gr hC;replace a3:=a3.gr hC;replace a4:=a4.gr hC;replace a5:=a5.gr hC;replace d5:=d5.gr hC;replace af:=af.gr hC;replace ab:=ab.gr hC;replace ac:=ac.gr hC;replace ad:=ad.gr hC;replace aa:=aa.grow hC;exact ⟨b0,by omega,rfl,⟨_,_,_,_,_,_,_,_,_,_,_,_,_,_,_,_,rfl,hm,aa,al,af,ab,ac,a3,a4,a5,d5,ad,rfl⟩⟩
    refine lV _ (Z2 isAgg27 sizeOf27 ad)<|Zz ac ?_;intro hj cu f3 f4;refine go ?_;cases hm;replace a3:=a3.kp cu;replace a4:=a4.kp cu;replace a5:=a5.kp cu;replace cr:=cr.kp cu;replace aa:=aa.kp cu f3;exact ⟨rfl,_,Vw f4.atN,_,_,_,_,_,_,_,_,_,rfl,aa.fin (cm [(6,c1),(7,c2),(8,c3),(9,c4)]),aa.fo a3,aa.fo a4,aa.fo a5,aa.fo cr⟩
  | cons dn f5=>
   obtain ⟨d6,f6,f7⟩:=X3 hl;have hk:(ch:Int)<(bb.length:Int):=by omega
   have hkb:=decide_eq_true hk;rw [Zh5.eq_2] at hm;refine go ?_;refine Xt (congrArg Value.bool hkb)<|go ?_;refine lI d6 ((h1.ks aa).addr d6) ?_;obtain ⟨_,f8,f9⟩:=(h1.ks aa).atN d6;obtain ⟨⟨el,em,rfl,dp⟩,_⟩:=f8;refine lW f9.one<|go ?_;refine lV _ (Z2 isAgg27 sizeOf27 ab)<|Yk rfl<|V0 (col:=ar) (r:=(Za.slice (Za.int .i64))) (xs:=[dn]) [.slice el dn.length em] 15 (Y1.ofF (Rows.consF (r:=(Za.slice (Za.int .i64))) (x:=dn) (cs:=[.slice el dn.length em]) (Zjv dp) Rows.nil0)) ?_;intro ho ga dq ay gb;obtain ⟨bh,gc,hm⟩:=bZ hm;replace aa:=aa.grow ay;refine Zk (Zet 16 17 gc ((bc.ks aa).froz 15) ((az.ks aa).froz 15) ((bd.ks aa).froz 15) ((a0.ks aa).froz 15) (gb.toSlF Zd.slice)) ?_;rintro _ hp ⟨gd,en,eo,ep,eq,rfl,an,cv,cw⟩;refine ⟨_,rfl,?_⟩;replace cv:=cv.thaw (Z1 .u32) an ((Fz.refl (col:=dq)).froz 15) (by decide);replace cw:=cw.thaw (Z1 .u32) an ((Fz.refl (col:=dq)).froz 15) (by decide);replace an:=an.thawR (col:=dq);generalize Xe ga.heap.size dq gd=ge at *;refine lM (.tuple #[(.agg #[.bool bh.1.1.1,.slice en bh.1.1.2.length eo,.slice ep bh.1.2.length eq]),.int .i64 bh.2])<|lV (.agg #[.bool bh.1.1.1,.slice en bh.1.1.2.length eo,.slice ep bh.1.2.length eq]) (Xk rfl rfl)<|lV (.int .i64 bh.2) (Xk rfl rfl)<|Xg (col:=ge) #[.bool false,.slice none (([]:List Int).length) 0,.slice none (([]:List Int).length) 0] 18 zeroValue39 ?_;intro gf hq hr ap gg;refine Zz gg ?_;intro ht aq gh gi;refine go ?_;replace ab:=(((ab.gr ay).gr an).gr ap).kp aq;refine lV _ (Z2 isAgg27 sizeOf27 ab)<|Yk rfl<|lV (.func (.func 110) #[] #[.pointer (some ⟨cx,0,none⟩),.pointer (some ⟨bt,0,none⟩),.pointer (some ⟨gf,0,none⟩),.pointer (some ⟨bm,0,none⟩)]) (Z5m rfl rfl rfl rfl) ?_;obtain ⟨hv,gj,hm⟩:=bZ hm;replace al:=(((al.gr ay).gr an).gr ap).kp aq;replace ag:=(((ag.gr ay).gr an).gr ap).kp aq;replace ah:=(((ah.gr ay).gr an).gr ap).kp aq;replace ai:=(((ai.gr ay).gr an).gr ap).kp aq;replace aj:=(((aj.gr ay).gr an).gr ap).kp aq;replace dp:=(((dp.gr ay).gr an).gr ap).kp aq;replace af:=(((af.gr ay).gr an).gr ap).kp aq;replace ad:=(((ad.gr ay).gr an).gr ap).kp aq
   replace aa:=((aa.grow an).grow ap).kp aq gh;replace cv:=(cv.gr ap).kp aq;replace cw:=(cw.gr ap).kp aq;refine Zk (Z0p 1 10 6 7 8 9 18 16 17 12 11 gj rfl ⟨by decide,rfl⟩ ⟨by decide,rfl⟩ ⟨by decide,rfl⟩ ⟨by decide,rfl⟩ ⟨by decide,rfl⟩ ⟨by decide,rfl⟩ ⟨by decide,rfl⟩ ⟨by decide,rfl⟩ ⟨by decide,rfl⟩ (bc.ks aa) (az.ks aa) (bd.ks aa) (a0.ks aa) dp (bc.ks aa) (az.ks aa) (bd.ks aa) (a0.ks aa) ab ag ah ai aj ad cv cw gi al af) ?_;rintro _ hw ⟨hx,hy,hz,rfl,bi,gk,gl⟩;refine ⟨_,rfl,go ?_⟩;replace ac:=((((ac.gr ay).gr an).gr ap).kp aq).kpp bi;replace ag:=ag.kpp bi;replace ah:=ah.kpp bi;replace ai:=ai.kpp bi;replace aj:=aj.kpp bi;replace ab:=ab.kpp bi;replace ad:=ad.kpp bi;replace aa:=aa.kpp bi;exact ⟨f5.length,by simp,rfl,⟨_,_,_,_,_,_,rfl,f6,hm,aa,gk,gl,ab,ac,ag,ah,ai,aj,ad,(X5 (congrArg (Value.int .i64) (X2 (Nat.lt_of_lt_of_le f7 (h1.ks aa).1.1))) rfl)⟩⟩
def Zbz (aa:Bool):Option Bool:=
  some aa
def Zot (N:Nat):Option Bool:=
  (Zdb N 1 1).bind fun ac=>(Zas N (ac.1,ac.2.1,ac.2.2.1,ac.2.2.2.1,ac.2.2.2.2) [[0],[1],[1]] ((false,([]:List Int)),([]:List Int))).bind fun aa=>(Zdb N 1 1).bind fun ad=>(Zou N (ad.1,ad.2.1,ad.2.2.1,ad.2.2.2.1,ad.2.2.2.2) [[0],[1],[1]]).bind fun ah=>(Zdb N 1 1).bind fun ae=>(Zov N (ae.1,ae.2.1,ae.2.2.1,ae.2.2.2.1,ae.2.2.2.2) [[0],[(-1)]]).bind fun ab=>if (decide (aa.2=0))=true then ((Zdb N 1 2).bind fun af=>(Zl7 N (aa.1.1,aa.1.2.1,aa.1.2.2.1,aa.1.2.2.2.1,aa.1.2.2.2.2) (af.1,af.2.1,af.2.2.1,af.2.2.2.1,af.2.2.2.2)).bind fun aj=>if aj=true then (if (decide (ah.2=0))=true then ((Zb0 N 1 12).bind fun ai=>(S5 N ((ah.1.1.1,ah.1.1.2),ah.1.2) ((ai.1.1,ai.1.2),ai.2)).bind fun ak=>if (decide (ak=0))=true then (if (decide (ab.2=0))=true then ((Zdb N 3 1).bind fun ag=>(Zl7 N (ab.1.1,ab.1.2.1,ab.1.2.2.1,ab.1.2.2.2.1,ab.1.2.2.2.2) (ag.1,ag.2.1,ag.2.2.1,ag.2.2.2.1,ag.2.2.2.2)).bind fun al=>Zbz al) else (Zbz false)) else (Zbz false)) else (Zbz false)) else (Zbz false)) else (Zbz false)
theorem Z0i (N:Nat) (col:Ze) (w0:World) (r:Bool) (hm:Zot N=some r):
    Calls prog 18 #[] w0 (fun e w'=>e= .returned ((.bool r))∧Below w0.heap.size w0 w'):=by
 refine Xf 0 (m:=59) func18 rfl rfl rfl rfl rfl ?_;rw [Zot.eq_1] at hm;have aa:=St.start col w0;refine go ?_;refine Vg (col:=(Zj col)) [0] 1 ?_;intro bz e6 dd de b0;refine Vg (col:=dd) [1] 2 ?_;intro b1 e7 df c8 b2;refine Vg (col:=df) [1] 3 ?_;intro b3 b4 bv b5 dg;replace b0:=(b0.gr c8).gr b5;have b6:Xu (Za.row 3 (Za.int .i64)) 1 bv b4 [.slice bz ([0].length) 1] [0]:=b0.has;replace b2:=b2.gr b5;have dh:Xu (Za.row 3 (Za.int .i64)) 2 bv b4 [.slice b1 ([1].length) 1] [1]:=b2.has;have di:Xu (Za.row 3 (Za.int .i64)) 3 bv b4 [.slice b3 ([1].length) 1] [1]:=dg.has;have dj:=Y1.cons (cs:=[.slice b1 ([1].length) 1]) dh (Y1.cons1 (cs:=[.slice b3 ([1].length) 1]) di Rows.nil0) (by decide) (by decide);replace b6:=b6.recol 2 3 (by decide);replace aa:=((aa.grow de).grow c8).grow b5;replace aa:=aa.recol 2 3 (by decide) (by decide);have dl:=Y1.cons (cs:=[.slice bz ([0].length) 1]) b6 dj (by decide) (by decide);replace aa:=aa.recol 1 3 (by decide) (by decide);refine V0 (col:=(Xm 1 3 (Xm 2 3 bv))) (r:=(Za.row 3 (Za.int .i64))) (xs:=[[0],[1],[1]]) [.slice bz ([0].length) 1,.slice b1 ([1].length) 1,.slice b3 ([1].length) 1] 3 dl ?_;intro e8 e9 dm dn bm;refine go ?_;obtain ⟨fa,dp,hm⟩:=bZ hm;refine Zk (Zhk (col:=dm) 4 5 6 7 dp) ?_;rintro _ dq ⟨bn,fb,fc,fd,fe,ff,fg,fh,fi,rfl,c9,dr,ds,dt,du⟩;refine ⟨_,rfl,?_⟩;refine Yk rfl<|lV (.agg #[.bool false,.slice none (([]:List Int).length) 0,.slice none (([]:List Int).length) 0]) (Wc (l:=[_,_]) (qs:=[(0,2),(2,1)]) underlying39 zeroValue39 ⟨rfl,sizeOf37,rfl,sizeOf35,trivial⟩ rfl) ?_;obtain ⟨ac,dv,hm⟩:=bZ hm;replace bm:=bm.gr c9;refine Zk (Znx 8 9 10 11 dv (((((dr.toSlF Zd.str).froz 5).froz 6).froz 7).froz 3) (((((ds.froz 4 (by decide)).toSlF (Zd.row Zd.str)).froz 6).froz 7).froz 3) (((((dt.froz 4 (by decide)).froz 5 (by decide)).toSlF (Zd.row (Zd.int .i64))).froz 7).froz 3) (((((du.froz 4 (by decide)).froz 5 (by decide)).froz 6 (by decide)).toSlF (Zd.row (Zd.pair (Zd.pair Zd.bool (Zd.row (Zd.int .u32))) (Zd.row (Zd.int .u32))))).froz 3) (((((bm.froz 4 (by decide)).froz 5 (by decide)).froz 6 (by decide)).froz 7 (by decide)).toSlF (Zd.row (Zd.int .i64))) Sl.nil Sl.nil) ?_
 rintro _ fj ⟨dw,b7,b8,b9,ca,cb,cc,cd,ce,rfl,a7,an,ao,ap,aq⟩;refine ⟨_,rfl,?_⟩;replace an:=an.thaw Zbm a7 ((((((Fz.refl (col:=bn)).froz 4).froz 5).froz 6).froz 7).froz 3) (by decide);replace ao:=ao.thaw (Vm Zbm) a7 ((((((Fz.refl (col:=bn)).froz 4).froz 5).froz 6).froz 7).froz 3) (by decide);replace ap:=ap.thaw (Vm (Z1 .i64)) a7 ((((((Fz.refl (col:=bn)).froz 4).froz 5).froz 6).froz 7).froz 3) (by decide);replace aq:=aq.thaw (Vm (Zbl (Zbl Zkv (Vm (Z1 .u32))) (Vm (Z1 .u32)))) a7 ((((((Fz.refl (col:=bn)).froz 4).froz 5).froz 6).froz 7).froz 3) (by decide);replace a7:=a7.thawR (col:=bn);generalize Xe dq.heap.size bn dw=dx at *;refine lM (.tuple #[(.agg #[.string ac.1.1,.slice b7 ac.1.2.1.length b8,.slice b9 ac.1.2.2.1.length ca,.slice cb ac.1.2.2.2.1.length cc,.slice cd ac.1.2.2.2.2.length ce]),.int .i64 ac.2])<|lV (.agg #[.string ac.1.1,.slice b7 ac.1.2.1.length b8,.slice b9 ac.1.2.2.1.length ca,.slice cb ac.1.2.2.2.1.length cc,.slice cd ac.1.2.2.2.2.length ce]) (Xk rfl rfl)<|lV (.int .i64 ac.2) (Xk rfl rfl)<|Xg (col:=dx) #[.string (⟨#[]⟩),.slice none (([]:List ByteArray).length) 0,.slice none (([]:List R6).length) 0,.slice none (([]:List R5).length) 0,(.slice none (([]:List R7).length) 0)] 12 zeroValue27 ?_;intro fk fl dy bo dz;refine Zz dz ?_;intro fm bp d0 ba;refine go ?_;obtain ⟨fn,d1,hm⟩:=bZ hm;refine Zk (Zhk (col:=dy) 13 14 15 16 d1) ?_;rintro _ d2 ⟨bw,fp,fq,fr,ft,fu,fv,fw,fx,rfl,bb,d3,d4,d5,d6⟩;refine ⟨_,rfl,?_⟩;refine Yk rfl ?_;obtain ⟨ad,d7,hm⟩:=bZ hm;replace bm:=(((bm.gr a7).gr bo).kp bp).gr bb;refine Zk (Z0m 17 18 d7 (((((d3.toSlF Zd.str).froz 14).froz 15).froz 16).froz 3) (((((d4.froz 13 (by decide)).toSlF (Zd.row Zd.str)).froz 15).froz 16).froz 3) (((((d5.froz 13 (by decide)).froz 14 (by decide)).toSlF (Zd.row (Zd.int .i64))).froz 16).froz 3) (((((d6.froz 13 (by decide)).froz 14 (by decide)).froz 15 (by decide)).toSlF (Zd.row (Zd.pair (Zd.pair Zd.bool (Zd.row (Zd.int .u32))) (Zd.row (Zd.int .u32))))).froz 3) (((((bm.froz 13 (by decide)).froz 14 (by decide)).froz 15 (by decide)).froz 16 (by decide)).toSlF (Zd.row (Zd.int .i64)))) ?_
 rintro _ fy ⟨d8,cf,cg,ch,ci,rfl,az,ae,af⟩;refine ⟨_,rfl,?_⟩;replace ae:=ae.thaw (Z1 .u32) az ((((((Fz.refl (col:=bw)).froz 13).froz 14).froz 15).froz 16).froz 3) (by decide);replace af:=af.thaw (Z1 .u32) az ((((((Fz.refl (col:=bw)).froz 13).froz 14).froz 15).froz 16).froz 3) (by decide);replace az:=az.thawR (col:=bw);generalize Xe d2.heap.size bw d8=d9 at *;refine lM (.tuple #[(.agg #[.bool ad.1.1.1,.slice cf ad.1.1.2.length cg,.slice ch ad.1.2.length ci]),.int .i64 ad.2])<|lV (.agg #[.bool ad.1.1.1,.slice cf ad.1.1.2.length cg,.slice ch ad.1.2.length ci]) (Xk rfl rfl)<|lV (.int .i64 ad.2) (Xk rfl rfl)<|Xg (col:=d9) #[.bool false,.slice none (([]:List Int).length) 0,.slice none (([]:List Int).length) 0] 19 zeroValue39 ?_;intro fz f0 ea a8 eb;refine Zz eb ?_;intro f1 a9 ec ay;refine go ?_;obtain ⟨f2,ed,hm⟩:=bZ hm;refine Zk (Zhk (col:=ea) 20 21 22 23 ed) ?_;rintro _ f3 ⟨ee,f4,f5,f6,f7,f8,f9,ga,gb,rfl,a2,bc,bd,be,bf⟩;refine ⟨_,rfl,?_⟩;refine Vg (col:=ee) [0] 24 ?_;intro cj gc ef ar ck;refine Vg (col:=ef) [(-1)] 25 ?_;intro cl da cn al eg;replace ck:=ck.gr al;have eh:Xu (Za.row 3 (Za.int .i64)) 24 cn da [.slice cj ([0].length) 1] [0]:=ck.has;have ei:Xu (Za.row 3 (Za.int .i64)) 25 cn da [.slice cl ([(-1)].length) 1] [(-1)]:=eg.has;have ej:=Y1.cons (cs:=[.slice cj ([0].length) 1]) eh (Y1.cons1 (cs:=[.slice cl ([(-1)].length) 1]) ei Rows.nil0) (by decide) (by decide);replace an:=((((((((an.gr bo).kp bp).gr bb).gr az).gr a8).kp a9).gr a2).gr ar).gr al;replace an:=an.recol 24 25 (by decide);replace ao:=((((((((ao.gr bo).kp bp).gr bb).gr az).gr a8).kp a9).gr a2).gr ar).gr al;replace ao:=ao.recol 24 25 (by decide);replace ap:=((((((((ap.gr bo).kp bp).gr bb).gr az).gr a8).kp a9).gr a2).gr ar).gr al;replace ap:=ap.recol 24 25 (by decide);replace aq:=((((((((aq.gr bo).kp bp).gr bb).gr az).gr a8).kp a9).gr a2).gr ar).gr al;replace aq:=aq.recol 24 25 (by decide);replace ae:=((((ae.gr a8).kp a9).gr a2).gr ar).gr al;replace ae:=ae.recol 24 25 (by decide);replace af:=((((af.gr a8).kp a9).gr a2).gr ar).gr al;replace af:=af.recol 24 25 (by decide);replace bc:=(bc.gr ar).gr al;replace bc:=bc.recol 24 25 (by decide)
 replace bd:=(bd.gr ar).gr al;replace bd:=bd.recol 24 25 (by decide);replace be:=(be.gr ar).gr al;replace be:=be.recol 24 25 (by decide);replace bf:=(bf.gr ar).gr al;replace bf:=bf.recol 24 25 (by decide);replace ba:=((((((ba.gr bb).gr az).gr a8).kp a9).gr a2).gr ar).gr al;replace ba:=ba.recol 24 25 (by decide);replace ay:=((ay.gr a2).gr ar).gr al;replace ay:=ay.recol 24 25 (by decide);replace aa:=(((((((((((aa.grow dn).grow c9).grow a7).grow bo).kp bp d0).grow bb).grow az).grow a8).kp a9 ec).grow a2).grow ar).grow al;replace aa:=aa.recol 24 25 (by decide) (by decide);refine V0 (col:=(Xm 24 25 cn)) (r:=(Za.row 3 (Za.int .i64))) (xs:=[[0],[(-1)]]) [.slice cj ([0].length) 1,.slice cl ([(-1)].length) 1] 25 ej ?_;intro gd ek bq au el;obtain ⟨ab,em,hm⟩:=bZ hm;replace bc:=bc.gr au;replace bd:=bd.gr au;replace be:=be.gr au;replace bf:=bf.gr au;refine Zk (Z0n 26 27 28 29 em (((((bc.toSlF Zd.str).froz 21).froz 22).froz 23).froz 25) (((((bd.froz 20 (by decide)).toSlF (Zd.row Zd.str)).froz 22).froz 23).froz 25) (((((be.froz 20 (by decide)).froz 21 (by decide)).toSlF (Zd.row (Zd.int .i64))).froz 23).froz 25) (((((bf.froz 20 (by decide)).froz 21 (by decide)).froz 22 (by decide)).toSlF (Zd.row (Zd.pair (Zd.pair Zd.bool (Zd.row (Zd.int .u32))) (Zd.row (Zd.int .u32))))).froz 25) (((((el.froz 20 (by decide)).froz 21 (by decide)).froz 22 (by decide)).froz 23 (by decide)).toSlF (Zd.row (Zd.int .i64)))) ?_;rintro _ ge ⟨en,co,cp,cq,cr,ct,cu,cv,cw,rfl,ak,ag,ah,ai,aj⟩;refine ⟨_,rfl,?_⟩;replace ag:=ag.thaw Zbm ak ((((((Fz.refl (col:=bq)).froz 20).froz 21).froz 22).froz 23).froz 25) (by decide);replace ah:=ah.thaw (Vm Zbm) ak ((((((Fz.refl (col:=bq)).froz 20).froz 21).froz 22).froz 23).froz 25) (by decide);replace ai:=ai.thaw (Vm (Z1 .i64)) ak ((((((Fz.refl (col:=bq)).froz 20).froz 21).froz 22).froz 23).froz 25) (by decide);replace aj:=aj.thaw (Vm (Zbl (Zbl Zkv (Vm (Z1 .u32))) (Vm (Z1 .u32)))) ak ((((((Fz.refl (col:=bq)).froz 20).froz 21).froz 22).froz 23).froz 25) (by decide);replace ak:=ak.thawR (col:=bq);generalize Xe ek.heap.size bq en=eo at *
 refine lM (.tuple #[(.agg #[.string ab.1.1,.slice co ab.1.2.1.length cp,.slice cq ab.1.2.2.1.length cr,.slice ct ab.1.2.2.2.1.length cu,.slice cv ab.1.2.2.2.2.length cw]),.int .i64 ab.2])<|lV (.agg #[.string ab.1.1,.slice co ab.1.2.1.length cp,.slice cq ab.1.2.2.1.length cr,.slice ct ab.1.2.2.2.1.length cu,.slice cv ab.1.2.2.2.2.length cw]) (Xk rfl rfl)<|lV (.int .i64 ab.2) (Xk rfl rfl)<|Xg (col:=eo) #[.string (⟨#[]⟩),.slice none (([]:List ByteArray).length) 0,.slice none (([]:List R6).length) 0,.slice none (([]:List R5).length) 0,(.slice none (([]:List R7).length) 0)] 30 zeroValue27 ?_;intro gf gg bt av ep;refine Zz ep ?_;intro gh aw eq a3;refine Yv rfl<|Zl<|Zs ?_;replace an:=(((an.gr au).gr ak).gr av).kp aw;replace ao:=(((ao.gr au).gr ak).gr av).kp aw;replace ap:=(((ap.gr au).gr ak).gr av).kp aw;replace aq:=(((aq.gr au).gr ak).gr av).kp aw;replace ae:=(((ae.gr au).gr ak).gr av).kp aw;replace af:=(((af.gr au).gr ak).gr av).kp aw;replace ba:=(((ba.gr au).gr ak).gr av).kp aw;replace ay:=(((ay.gr au).gr ak).gr av).kp aw;replace aa:=(((aa.grow au).grow ak).grow av).kp aw eq;replace ag:=(ag.gr av).kp aw;replace ah:=(ah.gr av).kp aw;replace ai:=(ai.gr av).kp aw;replace aj:=(aj.gr av).kp aw;refine Wp.cutK [1000000] (fun f db=>∃ dc cx,Zbz cx=some r∧St w0 (Zj col) dc db∧[0].map f=[.bool cx]) ?_ ?_
 ·intro f db hJ;obtain ⟨dc,cx,hm,aa,hs⟩:=hJ;rw [Zbz.eq_1] at hm;refine .lL [0] hs<|Vc ?_;cases hm;exact ⟨rfl,rfl,aa.below⟩
 refine Wh (col:=bt) [(0,1),(1,1),(2,1),(3,0),(4,3),(5,3),(6,1),(7,1),(8,1),(9,1),(10,1),(11,1),(12,0),(13,3),(14,3),(15,1),(16,1),(17,1),(18,1),(19,1),(20,1),(21,1),(22,0),(23,3),(24,3),(25,1),(26,1)] (by kernel_rfl) (by kernel_rfl)<|xu rfl rfl (fun _=>Yh rfl) ?_;refine xu rfl rfl (fun _=>Zgv _ _ rfl rfl) ?_;refine xu rfl rfl (fun _=>Ui rfl) ?_;refine Yc hm (fun bg hm=>?_) fun bg hm=>?_
 ·refine Znn (v:=(.agg #[.string ac.1.1,.slice b7 ac.1.2.1.length b8,.slice b9 ac.1.2.2.1.length ca,.slice cb ac.1.2.2.2.1.length cc,.slice cd ac.1.2.2.2.2.length ce])) (b:=decide (ac.2=0)) 35 rfl rfl rfl rfl rfl (by rw [bg];rfl) (fun _ hC=>Wj isAgg27 sizeOf27 rfl rfl (ba.atN.gr (hC.bl bt))) ?_;refine xe rfl rfl ?_;intro gi hC0;have hC:=hC0.bl bt;refine go ?_;obtain ⟨gj,er,hm⟩:=bZ hm;refine Zk (Zhk (col:=bt) 51 52 53 54 er) ?_;rintro _ gk ⟨a0,gl,gm,gp,gs,gt,gu,gv,gw,rfl,am,cy,cz,c0,c1⟩;refine ⟨_,rfl,?_⟩;refine Zl<|Xo a0 hC0 am<|xe rfl rfl ?_;intro es hC0;replace ae:=(ae.gr hC).gr am;replace af:=(af.gr hC).gr am;replace ag:=(ag.gr hC).gr am;replace ah:=(ah.gr hC).gr am;replace ai:=(ai.gr hC).gr am;replace aj:=(aj.gr hC).gr am;replace an:=(an.gr hC).gr am;replace ao:=(ao.gr hC).gr am;replace ap:=(ap.gr hC).gr am;replace aq:=(aq.gr hC).gr am;replace ay:=(ay.gr hC).gr am;replace a3:=(a3.gr hC).gr am;replace aa:=(aa.grow hC).grow am;have hC:=hC0.bl a0;refine go ?_;obtain ⟨bu,et,hm⟩:=bZ hm;replace an:=an.gr hC;replace ao:=ao.gr hC;replace ap:=ap.gr hC;replace aq:=aq.gr hC;replace cy:=cy.gr hC;replace cz:=cz.gr hC;replace c0:=c0.gr hC;replace c1:=c1.gr hC
  refine Zk (Zsb et ((((((((an.toSlF Zd.str).froz 9).froz 10).froz 11).froz 51).froz 52).froz 53).froz 54) ((((((((ao.froz 8 (by decide)).toSlF (Zd.row Zd.str)).froz 10).froz 11).froz 51).froz 52).froz 53).froz 54) ((((((((ap.froz 8 (by decide)).froz 9 (by decide)).toSlF (Zd.row (Zd.int .i64))).froz 11).froz 51).froz 52).froz 53).froz 54) ((((((((aq.froz 8 (by decide)).froz 9 (by decide)).froz 10 (by decide)).toSlF (Zd.row (Zd.pair (Zd.pair Zd.bool (Zd.row (Zd.int .u32))) (Zd.row (Zd.int .u32))))).froz 51).froz 52).froz 53).froz 54) ((((((((cy.froz 8 (by decide)).froz 9 (by decide)).froz 10 (by decide)).froz 11 (by decide)).toSlF Zd.str).froz 52).froz 53).froz 54) ((((((((cz.froz 8 (by decide)).froz 9 (by decide)).froz 10 (by decide)).froz 11 (by decide)).froz 51 (by decide)).toSlF (Zd.row Zd.str)).froz 53).froz 54) ((((((((c0.froz 8 (by decide)).froz 9 (by decide)).froz 10 (by decide)).froz 11 (by decide)).froz 51 (by decide)).froz 52 (by decide)).toSlF (Zd.row (Zd.int .i64))).froz 54) ((((((((c1.froz 8 (by decide)).froz 9 (by decide)).froz 10 (by decide)).froz 11 (by decide)).froz 51 (by decide)).froz 52 (by decide)).froz 53 (by decide)).toSlF (Zd.row (Zd.pair (Zd.pair Zd.bool (Zd.row (Zd.int .u32))) (Zd.row (Zd.int .u32)))))) ?_;rintro _ eu ⟨rfl,ax⟩;refine ⟨_,rfl,?_⟩;replace ax:Zh a0 es a0 eu:=.of_below ax;refine Zl<|Xo a0 hC0 ax<|xu (v:=(.bool bu)) rfl rfl (fun _=>Xr (congrArg Value.bool bg) rfl) ?_;refine xu rfl rfl (fun _=>Ui rfl) ?_;replace ae:=(ae.gr hC).gr ax;replace af:=(af.gr hC).gr ax;replace ag:=(ag.gr hC).gr ax;replace ah:=(ah.gr hC).gr ax;replace ai:=(ai.gr hC).gr ax;replace aj:=(aj.gr hC).gr ax;replace ay:=(ay.gr hC).gr ax;replace a3:=(a3.gr hC).gr ax;replace aa:=(aa.grow hC).grow ax;refine Yc hm (fun bh hm=>?_) fun bh hm=>?_
  ·refine Zg5 (v:=(.int .i64 ad.2)) (b:=bu) 40 rfl rfl rfl rfl rfl (by rw [bh];rfl) (fun _=>Vi rfl) ?_;refine Zg5 (v:=(.bool (decide (ad.2=0)))) (b:=bu) 40 rfl rfl rfl rfl rfl (by rw [bh];rfl) (fun _=>Zgv ad.2 0 rfl rfl) ?_;refine xu (v:=(.bool (decide (ad.2=0)))) rfl rfl (fun _=>Xr (congrArg Value.bool bh) rfl) ?_;refine xu rfl rfl (fun _=>Ui rfl) ?_;refine Yc hm (fun a4 hm=>?_) fun a4 hm=>?_
   ·refine Znn (v:=(.agg #[.bool ad.1.1.1,.slice cf ad.1.1.2.length cg,.slice ch ad.1.2.length ci])) (b:=decide (ad.2=0)) 44 rfl rfl rfl rfl rfl (by rw [a4];rfl) (fun _ hC=>Wj isAgg39 sizeOf39 rfl rfl (ay.atN.gr (hC.bl a0))) ?_;refine xe rfl rfl ?_;intro gx hC0;have hC:=hC0.bl a0;refine go ?_;obtain ⟨gy,ew,hm⟩:=bZ hm;refine Zk (Zkn (col:=a0) 55 56 ew) ?_;rintro _ gz ⟨a1,g0,g1,g2,g3,rfl,a5,c2,c3⟩;refine ⟨_,rfl,?_⟩;refine Zl<|Xo a1 hC0 a5<|xe rfl rfl ?_;intro ey hC0;replace ag:=(ag.gr hC).gr a5;replace ah:=(ah.gr hC).gr a5;replace ai:=(ai.gr hC).gr a5;replace aj:=(aj.gr hC).gr a5;replace ae:=(ae.gr hC).gr a5;replace af:=(af.gr hC).gr a5;replace a3:=(a3.gr hC).gr a5;replace aa:=(aa.grow hC).grow a5;have hC:=hC0.bl a1;refine go ?_;obtain ⟨bi,ez,hm⟩:=bZ hm;replace ae:=ae.gr hC;replace af:=af.gr hC;replace c2:=c2.gr hC;replace c3:=c3.gr hC;refine Zk (Zeu ez ((((ae.toSlF (Zd.int .u32)).froz 18).froz 55).froz 56) ((((af.froz 17 (by decide)).toSlF (Zd.int .u32)).froz 55).froz 56) ((((c2.froz 17 (by decide)).froz 18 (by decide)).toSlF (Zd.int .u32)).froz 56) ((((c3.froz 17 (by decide)).froz 18 (by decide)).froz 55 (by decide)).toSlF (Zd.int .u32))) ?_;rintro _ e0 ⟨rfl,a6⟩;refine ⟨_,rfl,?_⟩;replace a6:Zh a1 ey a1 e0:=.of_below a6;refine Zl<|Xo a1 hC0 a6<|Zg5 (v:=(.bool (decide (bi=0)))) (b:=decide (ad.2=0)) 44 rfl rfl rfl rfl rfl (by rw [a4];rfl) (fun _=>Zgv bi 0 rfl rfl) ?_;refine xu (v:=(.bool (decide (bi=0)))) rfl rfl (fun _=>Xr (congrArg Value.bool a4) rfl) ?_;refine xu rfl rfl (fun _=>Ui rfl) ?_;replace ag:=(ag.gr hC).gr a6;replace ah:=(ah.gr hC).gr a6;replace ai:=(ai.gr hC).gr a6;replace aj:=(aj.gr hC).gr a6;replace a3:=(a3.gr hC).gr a6;replace aa:=(aa.grow hC).grow a6;refine Yc hm (fun bj hm=>?_) fun bj hm=>?_
    ·refine Zg5 (v:=(.int .i64 ab.2)) (b:=decide (bi=0)) 50 rfl rfl rfl rfl rfl (by rw [bj];rfl) (fun _=>Vi rfl) ?_;refine Zg5 (v:=(.bool (decide (ab.2=0)))) (b:=decide (bi=0)) 50 rfl rfl rfl rfl rfl (by rw [bj];rfl) (fun _=>Zgv ab.2 0 rfl rfl) ?_;refine xu (v:=(.bool (decide (ab.2=0)))) rfl rfl (fun _=>Xr (congrArg Value.bool bj) rfl) ?_;refine xu rfl rfl (fun _=>Ui rfl) ?_;refine Yc hm (fun bk hm=>?_) fun bk hm=>?_
     ·refine Znn (v:=(.agg #[.string ab.1.1,.slice co ab.1.2.1.length cp,.slice cq ab.1.2.2.1.length cr,.slice ct ab.1.2.2.2.1.length cu,.slice cv ab.1.2.2.2.2.length cw])) (b:=decide (ab.2=0)) 54 rfl rfl rfl rfl rfl (by rw [bk];rfl) (fun _ hC=>Wj isAgg27 sizeOf27 rfl rfl (a3.atN.gr (hC.bl a1))) ?_;refine xe rfl rfl ?_;intro g4 hC0;have hC:=hC0.bl a1;refine go ?_;obtain ⟨g5,e1,hm⟩:=bZ hm;refine Zk (Zhk (col:=a1) 57 58 59 60 e1) ?_;rintro _ g6 ⟨br,g7,g8,g9,ha,hb,hc,hd,he,rfl,bs,c4,c5,c6,c7⟩;refine ⟨_,rfl,?_⟩;refine Zl<|Xo br hC0 bs<|xe rfl rfl ?_;intro e2 hC0;replace ag:=(ag.gr hC).gr bs;replace ah:=(ah.gr hC).gr bs;replace ai:=(ai.gr hC).gr bs;replace aj:=(aj.gr hC).gr bs;replace aa:=(aa.grow hC).grow bs;have hC:=hC0.bl br;refine go ?_;obtain ⟨e3,e4,hm⟩:=bZ hm;replace ag:=ag.gr hC;replace ah:=ah.gr hC;replace ai:=ai.gr hC;replace aj:=aj.gr hC;replace c4:=c4.gr hC;replace c5:=c5.gr hC;replace c6:=c6.gr hC;replace c7:=c7.gr hC
      refine Zk (Zsb e4 ((((((((ag.toSlF Zd.str).froz 27).froz 28).froz 29).froz 57).froz 58).froz 59).froz 60) ((((((((ah.froz 26 (by decide)).toSlF (Zd.row Zd.str)).froz 28).froz 29).froz 57).froz 58).froz 59).froz 60) ((((((((ai.froz 26 (by decide)).froz 27 (by decide)).toSlF (Zd.row (Zd.int .i64))).froz 29).froz 57).froz 58).froz 59).froz 60) ((((((((aj.froz 26 (by decide)).froz 27 (by decide)).froz 28 (by decide)).toSlF (Zd.row (Zd.pair (Zd.pair Zd.bool (Zd.row (Zd.int .u32))) (Zd.row (Zd.int .u32))))).froz 57).froz 58).froz 59).froz 60) ((((((((c4.froz 26 (by decide)).froz 27 (by decide)).froz 28 (by decide)).froz 29 (by decide)).toSlF Zd.str).froz 58).froz 59).froz 60) ((((((((c5.froz 26 (by decide)).froz 27 (by decide)).froz 28 (by decide)).froz 29 (by decide)).froz 57 (by decide)).toSlF (Zd.row Zd.str)).froz 59).froz 60) ((((((((c6.froz 26 (by decide)).froz 27 (by decide)).froz 28 (by decide)).froz 29 (by decide)).froz 57 (by decide)).froz 58 (by decide)).toSlF (Zd.row (Zd.int .i64))).froz 60) ((((((((c7.froz 26 (by decide)).froz 27 (by decide)).froz 28 (by decide)).froz 29 (by decide)).froz 57 (by decide)).froz 58 (by decide)).froz 59 (by decide)).toSlF (Zd.row (Zd.pair (Zd.pair Zd.bool (Zd.row (Zd.int .u32))) (Zd.row (Zd.int .u32)))))) ?_;rintro _ e5 ⟨rfl,bx⟩;refine ⟨_,rfl,?_⟩;replace bx:Zh br e2 br e5:=.of_below bx;refine Zl<|Xo br hC0 bx<|xu (v:=(.bool e3)) rfl rfl (fun _=>Xr (congrArg Value.bool bk) rfl) ?_;refine xu rfl rfl (fun _=>Zcm rfl) ?_;refine Y2 ?_;replace aa:=(aa.grow hC).grow bx;intro hf hC;replace hC:=hC.bl br;replace aa:=aa.grow hC;exact ⟨rfl,_,_,hm,aa,rfl⟩
     refine Yi (b:=decide (ab.2=0)) 54 rfl rfl rfl rfl rfl (by rw [bk];rfl)<|Yi (b:=decide (ab.2=0)) 54 rfl rfl rfl rfl rfl (by rw [bk];rfl)<|Yi (b:=decide (ab.2=0)) 54 rfl rfl rfl rfl rfl (by rw [bk];rfl)<|xu (v:=(.bool false)) rfl rfl (fun _=>Xq (congrArg Value.bool bk) rfl) ?_;refine xu rfl rfl (fun _=>Zcm rfl) ?_;refine Y2 ?_;intro hg hC;replace hC:=hC.bl a1;replace aa:=aa.grow hC;exact ⟨rfl,_,_,hm,aa,rfl⟩
    refine Yi (b:=decide (bi=0)) 50 rfl rfl rfl rfl rfl (by rw [bj];rfl)<|Yi (b:=decide (bi=0)) 50 rfl rfl rfl rfl rfl (by rw [bj];rfl)<|xu (v:=(.bool false)) rfl rfl (fun _=>Xq (congrArg Value.bool bj) rfl) ?_;refine xu rfl rfl (fun _=>Ui rfl) ?_;refine Yi (b:=false) 54 rfl rfl rfl rfl rfl rfl<|Yi (b:=false) 54 rfl rfl rfl rfl rfl rfl<|Yi (b:=false) 54 rfl rfl rfl rfl rfl rfl<|xu (v:=(.bool false)) rfl rfl (fun _=>Xq rfl rfl) ?_;refine xu rfl rfl (fun _=>Zcm rfl) ?_;refine Y2 ?_;intro hh hC;replace hC:=hC.bl a1;replace aa:=aa.grow hC;exact ⟨rfl,_,_,hm,aa,rfl⟩
   refine Yi (b:=decide (ad.2=0)) 44 rfl rfl rfl rfl rfl (by rw [a4];rfl)<|Yi (b:=decide (ad.2=0)) 44 rfl rfl rfl rfl rfl (by rw [a4];rfl)<|Yi (b:=decide (ad.2=0)) 44 rfl rfl rfl rfl rfl (by rw [a4];rfl)<|Yi (b:=decide (ad.2=0)) 44 rfl rfl rfl rfl rfl (by rw [a4];rfl)<|xu (v:=(.bool false)) rfl rfl (fun _=>Xq (congrArg Value.bool a4) rfl) ?_;refine xu rfl rfl (fun _=>Ui rfl) ?_;refine Yi (b:=false) 50 rfl rfl rfl rfl rfl rfl<|Yi (b:=false) 50 rfl rfl rfl rfl rfl rfl<|xu (v:=(.bool false)) rfl rfl (fun _=>Xq rfl rfl) ?_;refine xu rfl rfl (fun _=>Ui rfl) ?_;refine Yi (b:=false) 54 rfl rfl rfl rfl rfl rfl<|Yi (b:=false) 54 rfl rfl rfl rfl rfl rfl<|Yi (b:=false) 54 rfl rfl rfl rfl rfl rfl<|xu (v:=(.bool false)) rfl rfl (fun _=>Xq rfl rfl) ?_;refine xu rfl rfl (fun _=>Zcm rfl) ?_;refine Y2 ?_;intro hi hC;replace hC:=hC.bl a0;replace aa:=aa.grow hC;exact ⟨rfl,_,_,hm,aa,rfl⟩
  refine Yi (b:=bu) 40 rfl rfl rfl rfl rfl (by rw [bh];rfl)<|Yi (b:=bu) 40 rfl rfl rfl rfl rfl (by rw [bh];rfl)<|xu (v:=(.bool false)) rfl rfl (fun _=>Xq (congrArg Value.bool bh) rfl) ?_;refine xu rfl rfl (fun _=>Ui rfl) ?_;refine Yi (b:=false) 44 rfl rfl rfl rfl rfl rfl<|Yi (b:=false) 44 rfl rfl rfl rfl rfl rfl<|Yi (b:=false) 44 rfl rfl rfl rfl rfl rfl<|Yi (b:=false) 44 rfl rfl rfl rfl rfl rfl<|xu (v:=(.bool false)) rfl rfl (fun _=>Xq rfl rfl) ?_;refine xu rfl rfl (fun _=>Ui rfl) ?_;refine Yi (b:=false) 50 rfl rfl rfl rfl rfl rfl<|Yi (b:=false) 50 rfl rfl rfl rfl rfl rfl<|xu (v:=(.bool false)) rfl rfl (fun _=>Xq rfl rfl) ?_;refine xu rfl rfl (fun _=>Ui rfl) ?_;refine Yi (b:=false) 54 rfl rfl rfl rfl rfl rfl<|Yi (b:=false) 54 rfl rfl rfl rfl rfl rfl<|Yi (b:=false) 54 rfl rfl rfl rfl rfl rfl<|xu (v:=(.bool false)) rfl rfl (fun _=>Xq rfl rfl) ?_;refine xu rfl rfl (fun _=>Zcm rfl) ?_;refine Y2 ?_;intro hj hC;replace hC:=hC.bl a0;replace aa:=aa.grow hC;exact ⟨rfl,_,_,hm,aa,rfl⟩
 refine Yi (b:=decide (ac.2=0)) 35 rfl rfl rfl rfl rfl (by rw [bg];rfl)<|Yi (b:=decide (ac.2=0)) 35 rfl rfl rfl rfl rfl (by rw [bg];rfl)<|Yi (b:=decide (ac.2=0)) 35 rfl rfl rfl rfl rfl (by rw [bg];rfl)<|xu (v:=(.bool false)) rfl rfl (fun _=>Xq (congrArg Value.bool bg) rfl) ?_;refine xu rfl rfl (fun _=>Ui rfl) ?_;refine Yi (b:=false) 40 rfl rfl rfl rfl rfl rfl<|Yi (b:=false) 40 rfl rfl rfl rfl rfl rfl<|xu (v:=(.bool false)) rfl rfl (fun _=>Xq rfl rfl) ?_;refine xu rfl rfl (fun _=>Ui rfl) ?_;refine Yi (b:=false) 44 rfl rfl rfl rfl rfl rfl<|Yi (b:=false) 44 rfl rfl rfl rfl rfl rfl<|Yi (b:=false) 44 rfl rfl rfl rfl rfl rfl<|Yi (b:=false) 44 rfl rfl rfl rfl rfl rfl<|xu (v:=(.bool false)) rfl rfl (fun _=>Xq rfl rfl) ?_;refine xu rfl rfl (fun _=>Ui rfl) ?_;refine Yi (b:=false) 50 rfl rfl rfl rfl rfl rfl<|Yi (b:=false) 50 rfl rfl rfl rfl rfl rfl<|xu (v:=(.bool false)) rfl rfl (fun _=>Xq rfl rfl) ?_;refine xu rfl rfl (fun _=>Ui rfl) ?_;refine Yi (b:=false) 54 rfl rfl rfl rfl rfl rfl<|Yi (b:=false) 54 rfl rfl rfl rfl rfl rfl<|Yi (b:=false) 54 rfl rfl rfl rfl rfl rfl<|xu (v:=(.bool false)) rfl rfl (fun _=>Xq rfl rfl) ?_;refine xu rfl rfl (fun _=>Zcm rfl) ?_;refine Y2 ?_;intro hk hC;replace hC:=hC.bl bt;replace aa:=aa.grow hC;exact ⟨rfl,_,_,hm,aa,rfl⟩
theorem Z6o:Zot 3000000=some true:=by decide+kernel
def Zrb:Option Bool:=some true
theorem Z3s (col:Ze) (w0:World) (r:Bool) (hm:Zrb=some r):Calls prog 18 #[] w0 (fun e w'=>e= .returned ((.bool r))∧Below w0.heap.size w0 w'):=by
 cases hm;exact Z0i 3000000 col w0 true Z6o
def Zdc (N:Nat) (aa:List Int):Nat→Int→Int→Option Int
  | 0,_,_=>none
  | ae+1,ab,ac=>if (decide (ac<(aa.length:Int)))=true then ((Zm aa ac).bind fun ad=>(Zdc N aa ae) (if 1000<(i64.wrap (ab * ad)) then 1000 else (i64.wrap (ab * ad))) (i64.wrap (ac+1))) else (some ab)
termination_by structural x=>x
def Zfg (N:Nat) (aa:R0):Option Int:=
  (Zic (aa.1,aa.2.1,aa.2.2.1,aa.2.2.2.1,aa.2.2.2.2)).bind fun ab=>Zdc N ab N 1 0
theorem Z0j {N ao ap aq ar:Nat} {au av aw ax:Option Addr} {col:Ze} {w0:World} {ab:R0} {r:Int} (hm:Zfg N ab=some r) (af:Sl Za.str col w0 au ao ab.2.1) (ag:Sl (Za.slice Za.str) col w0 av ap ab.2.2.1) (ah:Sl (Za.slice (Za.int .i64)) col w0 aw aq ab.2.2.2.1) (ai:Sl (Za.slice (Za.pair (Za.pair Za.bool (Za.slice (Za.int .u32))) (Za.slice (Za.int .u32)))) col w0 ax ar ab.2.2.2.2):
    Calls prog 29 #[(.agg #[.string ab.1,.slice au ab.2.1.length ao,.slice av ab.2.2.1.length ap,.slice aw ab.2.2.2.1.length aq,.slice ax ab.2.2.2.2.length ar])] w0 (fun e w'=>e= .returned ((.int .i64 r))∧Below w0.heap.size w0 w'):=by
 refine Xf 2 (m:=22) func29 rfl rfl rfl rfl rfl ?_;rw [Zfg.eq_1] at hm;have aa:=St.start col w0;refine go ?_;refine Xl (col:=(Zj col)) 1 rfl ?_;intro a5 a6 a7 az a0;refine go ?_;refine lV _ (Z2 isAgg27 sizeOf27 a0) ?_;obtain ⟨ay,a1,hm⟩:=bZ hm;replace af:=af.keep (Zi.start col w0);replace ag:=ag.keep (Zi.start col w0);replace ah:=ah.keep (Zi.start col w0);replace ai:=ai.keep (Zi.start col w0);replace aa:=aa.grow az;refine Zk (Z0t 2 a1 (af.ks aa) (ag.ks aa) (ah.ks aa) (ai.ks aa)) ?_;rintro _ a8 ⟨a9,a2,a3,rfl,a4,ae⟩;refine ⟨_,rfl,go ?_⟩;replace aa:=aa.grow a4;refine Zu [3,1000000] (fun n f aj=>∃ ak ac al ad,ad=n∧Zdc N ay ad ac al=some r∧St w0 (Zj col) ak aj∧Zb (Za.int .i64) 3 2 ak aj a2 a3 ay∧[4,5].map f=[.int .i64 ac,.int .i64 al]) N ⟨_,1,0,_,rfl,hm,aa,ae,rfl⟩ ?_;clear hm;intro n f aj hI;obtain ⟨ak,ac,al,ad,hn,hm,aa,ae,hs⟩:=hI;subst hn;refine .lL [4,5] hs ?_
 cases ad with
 | zero=>rw [Zdc.eq_1] at hm;cases hm
 | succ ad=>
  rw [Zdc.eq_2] at hm;refine go ?_;refine Zo hm (fun hb hm=>go ?_) fun hb hm=>go ?_
  ·obtain ⟨am,an,hm⟩:=bZ hm;refine lI an (ae.addr an)<|lW (ae.atInt an) ?_;refine go ?_;refine lV (.int .i64 (if 1000<(i64.wrap (ac * am)) then 1000 else (i64.wrap (ac * am)))) (Zjt (i64.wrap (ac * am)) 1000 rfl rfl)<|go ?_;exact ⟨ad,by omega,rfl,⟨_,_,_,_,rfl,hm,aa,ae,rfl⟩⟩
  cases hm;exact ⟨rfl,rfl,aa.below⟩

end Go.Proofs.YtkhnlgdenkikoaaGreat
