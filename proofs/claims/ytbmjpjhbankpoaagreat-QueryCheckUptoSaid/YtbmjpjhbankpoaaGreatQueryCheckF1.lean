/-
  What functions of the program compute, as plain Lean functions (m_..), and proofs that they compute it (c_..). Printed by a program of the author; no conditions.
-/
import Derived.Test.YtbmjpjhbankpoaaGreatQueryCheckBFloat
import Derived.Test.YtbmjpjhbankpoaaGreatProg
import Derived.Test.YtbmjpjhbankpoaaGreatQueryCheckBView
set_option linter.unusedVariables false
set_option maxRecDepth 100000
set_option maxHeartbeats 2000000
namespace Go.Proofs.YtbmjpjhbankpoaaGreat
open Go Go.RowKit
open Go.IntKind (i8 i16 i32 i64 u8 u16 u32 u64)
open Go.Proofs.Tryz

theorem Z6 {x:Int} (h:-9223372036854775808≤x∧x≤9223372036854775807):i64.wrap x=x:=by rw [IntKind.wrap_i64];omega
theorem Xj {α:Type} {c:Prop} [Decidable c] {x:Option α} (h:c):Xb c x=x:=if_pos h
theorem Xg {α:Type} {xs:List α} {k:Nat} (h:k<xs.length):Zv xs (k:Int)=some xs[k]:=by rw [Uk];exact List.getElem?_eq_getElem h
theorem wS {k:Nat} (h:k<9223372036854775807):i64.wrap ((k:Int)+1)=((k+1:Nat):Int):=by rw [Z6 (by omega)];rfl
theorem Zia {α:Type} [DecidableEq α]:∀ {l r:List α},l.Nodup→(∀ x ∈ l,x ∈ r)→l.length≤r.length
 | [],_,_,_=>Nat.zero_le _
 | x :: l,r,h,hs=>by
  have h1:=List.nodup_cons.1 h
  have hx:=hs x List.mem_cons_self
  have h2:=Zia (r:=r.erase x) h1.2 fun y hy=>(List.mem_erase_of_ne (fun e=>h1.1 (by rw [← e];exact hy))).2 (hs y (List.mem_cons_of_mem _ hy))
  rw [List.length_erase_of_mem hx] at h2
  have:=List.length_pos_of_mem hx
  rw [List.length_cons];omega
section
variable {K V:Type} [DecidableEq K]
theorem Zdp (p:K×V) (es:List (K×V)) (k:K):X4 (p :: es) k=if p.1=k then some p.2 else X4 es k:=by
 rw [X4,List.find?_cons]
 by_cases h:p.1=k
 ·rw [if_pos h,decide_eq_true h];rfl
 ·rw [if_neg h,decide_eq_false h];rfl
theorem Zxr (es:List (K×V)) (k k':K) (v:V) (h:X4 es k=none):X4 (es++[(k,v)]) k'=if k'=k then some v else X4 es k':=by
 induction es with
 | nil=>
  rw [List.nil_append,Zdp]
  by_cases hk:k=k'
  ·subst hk;simp
  ·rw [if_neg hk,if_neg (Ne.symm hk)]
 | cons p es ih=>
  rw [Zdp] at h
  split at h
  ·cases h
  ·rename_i hp
   rw [List.cons_append,Zdp,Zdp,ih h]
   by_cases h1:p.1=k'
   ·rw [if_pos h1,if_pos h1,if_neg (fun e=>hp (h1.trans e))]
   ·rw [if_neg h1,if_neg h1]
theorem Zxs (es:List (K×V)) (k k':K) (v:V):X4 (es.map fun p=>if p.1=k then (k,v) else p) k'=if k'=k then (X4 es k).map fun _=>v else X4 es k':=by
 induction es with
 | nil=>simp [X4]
 | cons p es ih=>
  rw [List.map_cons,Zdp,Zdp,Zdp,ih]
  by_cases h1:p.1=k
  ·rw [if_pos h1,if_pos h1]
   by_cases h2:k'=k
   ·subst h2;rw [if_pos rfl,if_pos rfl];rfl
   ·rw [if_neg (Ne.symm h2),if_neg h2,if_neg h2,if_neg (fun e=>h2 (e.symm.trans h1))]
  ·rw [if_neg h1,if_neg h1]
   by_cases h3:p.1=k'
   ·rw [if_pos h3,if_pos h3,if_neg (fun e=>h1 (h3.trans e))]
   ·rw [if_neg h3,if_neg h3]
theorem Zh9 (es:List (K×V)) (k k':K) (v:V):X4 (Vm es k v) k'=if k'=k then some v else X4 es k':=by
 rw [Vm]
 by_cases h:(X4 es k).isSome=true
 ·rw [if_pos h,Zxs]
  obtain ⟨u,hu⟩:=Option.isSome_iff_exists.1 h
  rw [hu];rfl
 ·rw [if_neg h]
  exact Zxr es k k' v (by simpa using h)
end
def Ze:List Int→Nat
 | []=>0
 | x :: l=>x.toNat+4294967296 * Ze l
def Zw (l:List Int):Prop:=∀ x ∈ l,0≤x∧x<4294967296
def Zm (n:Nat):List Int:=if n=0 then [] else ((n % 4294967296:Nat):Int) :: Zm (n / 4294967296)
termination_by n
decreasing_by omega
theorem Zw.nil:Zw []:=by simp [Zw]
theorem Zw.cons {x:Int} {l:List Int} (h:0≤x∧x<4294967296) (hl:Zw l):Zw (x :: l):=fun y hy=>by
 rcases List.mem_cons.1 hy with rfl | hy
 ·exact h
 ·exact hl y hy
theorem Zw.head {x:Int} {l:List Int} (h:Zw (x :: l)):0≤x∧x<4294967296:=h x List.mem_cons_self
theorem Zw.tail {x:Int} {l:List Int} (h:Zw (x :: l)):Zw l:=fun y hy=>h y (List.mem_cons_of_mem _ hy)
theorem Zw.app {a b:List Int} (ha:Zw a) (hb:Zw b):Zw (a++b):=fun y hy=>by
 rcases List.mem_append.1 hy with h | h
 ·exact ha y h
 ·exact hb y h
theorem Zw.take {a:List Int} (h:Zw a) (k:Nat):Zw (a.take k):=fun y hy=>h y (List.mem_of_mem_take hy)
theorem Zw.drop {a:List Int} (h:Zw a) (k:Nat):Zw (a.drop k):=fun y hy=>h y (List.mem_of_mem_drop hy)
theorem Zw.zeros (k:Nat):Zw (List.replicate k 0):=fun y hy=>by
 rw [List.eq_of_mem_replicate hy];decide
theorem Zw.set {a:List Int} (h:Zw a) (k:Nat) {v:Int} (hv:0≤v∧v<4294967296):Zw (a.set k v):=fun y hy=>by
 rcases List.mem_or_eq_of_mem_set hy with h1 | rfl
 ·exact h y h1
 ·exact hv
theorem Zw.get {a:List Int} (h:Zw a) {k:Nat} (hk:k<a.length):0≤a[k]∧a[k]<4294967296:=h _ (List.getElem_mem hk)
theorem Yx:Ze []=0:=rfl
theorem Wh (x:Int) (l:List Int):Ze (x :: l)=x.toNat+4294967296 * Ze l:=rfl
theorem T4 (a b:List Int):Ze (a++b)=Ze a+4294967296 ^ a.length * Ze b:=by
 induction a with
 | nil=>simp [Ze]
 | cons x a ih=>
  rw [List.cons_append,Wh,Wh,ih,List.length_cons,Nat.pow_succ]
  grind
theorem U5 (k:Nat):Ze (List.replicate k 0)=0:=by
 induction k with
 | zero=>rfl
 | succ k ih=>rw [List.replicate_succ,Wh,ih];rfl
theorem T5 {l:List Int} (h:Zw l):Ze l<4294967296 ^ l.length:=by
 induction l with
 | nil=>simp [Ze]
 | cons x l ih=>
  have h1:=h.head
  have h2:=ih h.tail
  rw [Wh,List.length_cons,Nat.pow_succ]
  have h3:(Ze l+1) * 4294967296≤4294967296 ^ l.length * 4294967296:=Nat.mul_le_mul_right _ h2
  omega
theorem Xo (n:Nat):Ze (Zm n)=n:=by
 induction n using Nat.strongRecOn with
 | ind n ih=>
  rw [Zm]
  split
  ·rename_i h;rw [h];rfl
  ·rename_i h
   rw [Wh,ih (n / 4294967296) (by omega)]
   omega
theorem Va:Zm 0=[]:=by rw [Zm,if_pos rfl]
theorem Zb8 {n:Nat} (h:n≠0):Zm n=((n % 4294967296:Nat):Int) :: Zm (n / 4294967296):=by rw [Zm,if_neg h]
theorem Qs:Zm 1=[1]:=by rw [Zb8 (by decide)];simp [Va]
theorem Xq (n:Nat):Zw (Zm n):=by
 induction n using Nat.strongRecOn with
 | ind n ih=>
  rw [Zm]
  split
  ·exact .nil
  ·exact .cons (by omega) (ih (n / 4294967296) (by omega))
theorem W9 {k n:Nat}:(Zm n).length≤k↔n<4294967296 ^ k:=by
 induction k generalizing n with
 | zero=>
  by_cases h:n=0
  ·subst h;simp [Va]
  ·rw [Zb8 h];simp;omega
 | succ k ih=>
  by_cases h:n=0
  ·subst h;simp [Va];exact Nat.pow_pos (by decide)
  ·rw [Zb8 h,List.length_cons,Nat.add_le_add_iff_right,ih,Nat.pow_succ]
   omega
theorem Yz {l:List Int} (h:Zw l):(Zm (Ze l)).length≤l.length:=W9.2 (T5 h)
theorem Zed {n:Nat}:Zm n=[]↔n=0:=by
 by_cases h:n=0
 ·subst h;simp [Va]
 ·rw [Zb8 h];simp [h]
theorem Zp1 {x:Int} {l:List Int} (h:0≤x∧x<4294967296) (h0:x=0→Ze l≠0):Zm (Ze (x :: l))=x :: Zm (Ze l):=by
 have hn:Ze (x :: l)≠0:=by
  rw [Wh]
  by_cases hx:x=0
  ·have:=h0 hx;omega
  ·omega
 rw [Zb8 hn,Wh]
 congr 1
 ·omega
 ·congr 1;omega
theorem Zx9 {a:List Int} {x:Int} (h:0<x):Ze (a++[x])≠0:=by
 rw [T4,Wh,Yx]
 have:0<4294967296 ^ a.length * (x.toNat+4294967296 * 0):=Nat.mul_pos (Nat.pow_pos (by decide)) (by omega)
 omega
theorem Zxk {a:List Int} {x:Int} (h:Zw (a++[x])) (hx:x≠0):Zm (Ze (a++[x]))=a++[x]:=by
 induction a with
 | nil=>
  have:=h.head
  rw [List.nil_append,Zp1 this (fun e=>absurd e hx),Yx,Va]
 | cons y a ih=>
  have h1:0≤x∧x<4294967296:=h x (by simp)
  rw [List.cons_append,Zp1 h.head fun _=>Zx9 (by omega),ih h.tail]
theorem Zqw (a:List Int):Ze (a++[0])=Ze a:=by rw [T4];simp [Ze]
theorem Zeb {l:List Int} (h:0<l.length):l.take (l.length - 1)++[l[l.length - 1]]=l:=by
 have:=List.take_append_drop (l.length - 1) l
 rw [List.drop_eq_getElem_cons (by omega),List.drop_eq_nil_of_le (by omega)] at this
 exact this
theorem Zji {n:Nat} (h:0<(Zm n).length):(Zm n)[(Zm n).length - 1]≠0:=by
 induction n using Nat.strongRecOn with
 | ind n ih=>
  by_cases h0:n=0
  ·subst h0;simp [Va] at h
  ·have e:=Zb8 h0
   by_cases h1:n / 4294967296=0
   ·have:Zm n=[((n % 4294967296:Nat):Int)]:=by rw [e,h1,Va]
    simp only [this,List.length_singleton,Nat.sub_self,List.getElem_cons_zero]
    omega
   ·have h2:0<(Zm (n / 4294967296)).length:=by
     rw [Zb8 h1];simp
    have:=ih (n / 4294967296) (by omega) h2
    have e2:(Zm n).length - 1=(Zm (n / 4294967296)).length - 1+1:=by rw [e];simp;omega
    have e3:(Zm n)[(Zm n).length - 1]?=(Zm (n / 4294967296))[(Zm (n / 4294967296)).length - 1]?:=by
     rw [e2]
     conv=>lhs;rw [e]
     rw [List.getElem?_cons_succ]
    rw [List.getElem?_eq_getElem (by omega),List.getElem?_eq_getElem (by omega)] at e3
    rw [Option.some.inj e3]
    exact this
theorem U0 {l:List Int} {k:Nat} (hk:k<l.length) (v:Int):Ze (l.set k v)+4294967296 ^ k * (l[k]).toNat=Ze l+4294967296 ^ k * v.toNat:=by
 induction l generalizing k with
 | nil=>simp at hk
 | cons x l ih=>
  cases k with
  | zero=>simp only [List.set_cons_zero,Wh,List.getElem_cons_zero,Nat.pow_zero,Nat.one_mul];omega
  | succ k=>
   have h:=ih (k:=k) (by simpa using hk)
   simp only [List.set_cons_succ,Wh,List.getElem_cons_succ,Nat.pow_succ]
   grind
theorem Zl4 {l:List Int} {k:Nat} (hk:k<l.length):Ze (l.take (k+1))=Ze (l.take k)+4294967296 ^ k * (l[k]).toNat:=by
 rw [List.take_add_one,List.getElem?_eq_getElem hk,T4,Option.toList_some,Wh,Yx,List.length_take,Nat.min_eq_left (by omega)]
 simp
theorem Ua {l:List Int} {k:Nat} (hk:k<l.length):Ze (l.drop k)=(l[k]).toNat+4294967296 * Ze (l.drop (k+1)):=by
 rw [List.drop_eq_getElem_cons hk,Wh]
theorem U1 (l:List Int) (k:Nat):Ze l=Ze (l.take k)+4294967296 ^ k * Ze (l.drop k):=by
 by_cases h:k≤l.length
 ·conv=>lhs;rw [← List.take_append_drop k l]
  rw [T4,List.length_take,Nat.min_eq_left h]
 ·rw [List.take_of_length_le (by omega),List.drop_eq_nil_of_le (by omega)];simp [Ze]
theorem V4 {x:Int} (h:0≤x∧x<4294967296):u32.wrap x=x:=by rw [IntKind.wrap_u32];omega
theorem Xy {x:Int} (h:0≤x∧x<18446744073709551616):u64.wrap x=x:=by rw [IntKind.wrap_u64];omega
theorem Zdt {x:Int}:X0 .u64 x 32=x / 4294967296:=by
 have:(min (32:Int).toNat u64.bits)=32:=by decide
 rw [X0,this]
 exact Int.fdiv_eq_ediv_of_nonneg _ (by decide)
abbrev ZV:=Bool×List Int
abbrev QV:=(Bool×List Int)×List Int
def Z8 (a:ZV):Int:=if a.1=true then -(Ze a.2:Int) else (Ze a.2:Int)
def X2 (z:Int):ZV:=(decide (z<0),Zm z.natAbs)
def Yy (l:List Int):Nat:=if Ze l=0 then 1 else Ze l
def Yq (a:QV):Rat:=mkRat (Z8 a.1) (Yy a.2)
def Y0 (q:Rat):QV:=(X2 q.num,Zm q.den)
structure RV (k:Nat) (a:QV):Prop where
 m:Zw a.1.2
 d:Zw a.2
 lm:a.1.2.length≤k
 ld:a.2.length≤k
def qs (q:Rat):Nat:=max (Zm q.num.natAbs).length (Zm q.den).length
def X5 (N s:Nat):Prop:=200 * (s+4)<N∧s≤17179869184
theorem Zdw (a:ZV):(Z8 a).natAbs=Ze a.2:=by
 rw [Z8];split <;> omega
theorem Uc (z:Int):Z8 (X2 z)=z:=by
 rw [Z8,X2]
 simp only [Xo,decide_eq_true_eq]
 split <;> omega
theorem Zib (n:Bool) (m:List Int):X2 (Z8 (n,m))=(n&&decide (Ze m≠0),Zm (Ze m)):=by
 rw [X2,Zdw]
 congr 1
 rw [Z8]
 cases n
 ·rw [if_neg (fun h=>by cases h),Bool.false_and]
  exact decide_eq_false (by omega)
 ·rw [if_pos rfl,Bool.true_and]
  exact decide_eq_decide.2 (by simp only;omega)
theorem Ui (z:Int):Zw (X2 z).2:=Xq _
theorem Se (l:List Int):Yy l≠0:=by rw [Yy];split <;> omega
theorem Zwg {n:Nat} (h:n≠0):Yy (Zm n)=n:=by rw [Yy,Xo,if_neg h]
theorem Zbr (q:Rat):Yq (Y0 q)=q:=by
 rw [Yq,Y0]
 simp only [Uc,Zwg q.den_nz]
 exact Rat.mkRat_self q
theorem Zmk (q:Rat):RV (qs q) (Y0 q):=⟨Xq _,Xq _,Nat.le_max_left _ _,Nat.le_max_right _ _⟩
theorem RV.mono {k l:Nat} {a:QV} (h:RV k a) (hl:k≤l):RV l a:=⟨h.m,h.d,Nat.le_trans h.lm hl,Nat.le_trans h.ld hl⟩
theorem Zmj {q:Rat} {k:Nat} (h:qs q≤k):RV k (Y0 q):=(Zmk q).mono h
theorem X5.mono {N s t:Nat} (h:X5 N t) (hs:s≤t):X5 N s:=by
 obtain ⟨h1,h2⟩:=h
 exact ⟨by omega,by omega⟩
theorem Vp {m n:Nat} (h:m≤n):(Zm m).length≤(Zm n).length:=W9.2 (Nat.lt_of_le_of_lt h (W9.1 (Nat.le_refl _)))
theorem Zb5 (m n:Nat):(Zm (m * n)).length≤(Zm m).length+(Zm n).length:=by
 refine W9.2 ?_
 rw [Nat.pow_add]
 exact Nat.mul_lt_mul'' (W9.1 (Nat.le_refl _)) (W9.1 (Nat.le_refl _))
theorem Zjh {m n k:Nat} (hm:(Zm m).length≤k) (hn:(Zm n).length≤k):(Zm (m+n)).length≤k+1:=by
 refine W9.2 ?_
 have h1:=W9.1 hm
 have h2:=W9.1 hn
 rw [Nat.pow_succ]
 omega
theorem Si {n:Nat} (h:n≠0):1≤(Zm n).length:=List.length_pos_iff.2 (fun e=>h (Zed.1 e))
theorem Zrq {z:Int} {d k:Nat} (hz:(Zm z.natAbs).length≤k) (hd:(Zm d).length≤k) (hk:1≤k):qs (mkRat z d)≤k:=by
 rw [qs,Rat.num_mkRat,Rat.den_mkRat]
 by_cases h:d=0
 ·rw [if_pos h,if_pos h]
  simp only [Int.natAbs_zero,Va,Qs]
  simp;omega
 ·rw [if_neg h,if_neg h]
  refine Nat.max_le.2 ⟨Nat.le_trans (Vp ?_) hz,Nat.le_trans (Vp (Nat.div_le_self _ _)) hd⟩
  exact Int.natAbs_ediv_le_natAbs _ _
theorem Zyj {k:Nat} {a:QV} (h:RV k a):qs (Yq a)≤max k 1:=by
 refine Zrq ?_ ?_ (Nat.le_max_right _ _)
 ·rw [Zdw]
  exact Nat.le_trans (Yz h.m) (Nat.le_trans h.lm (Nat.le_max_left _ _))
 ·rw [Yy]
  split
  ·rw [Qs];exact Nat.le_max_right _ _
  ·exact Nat.le_trans (Yz h.d) (Nat.le_trans h.ld (Nat.le_max_left _ _))
theorem Zrp (a b:Rat):qs (a+b)≤qs a+qs b+1:=by
 rw [Rat.add_def']
 have an:(Zm a.num.natAbs).length≤qs a:=Nat.le_max_left _ _
 have ad:(Zm a.den).length≤qs a:=Nat.le_max_right _ _
 have bn:(Zm b.num.natAbs).length≤qs b:=Nat.le_max_left _ _
 have bd:(Zm b.den).length≤qs b:=Nat.le_max_right _ _
 refine Zrq (Nat.le_trans (Vp (Int.natAbs_add_le _ _)) (Zjh ?_ ?_)) ?_ (by omega)
 ·rw [Int.natAbs_mul,Int.natAbs_natCast]
  have:=Zb5 a.num.natAbs b.den
  omega
 ·rw [Int.natAbs_mul,Int.natAbs_natCast]
  have:=Zb5 b.num.natAbs a.den
  omega
 ·have:=Zb5 a.den b.den
  omega
theorem Zmb:qs 0=1:=by
 rw [qs]
 simp only [Rat.zero_num,Rat.zero_den,Int.natAbs_zero,Va,Qs]
 simp
theorem Zyi:qs 1=1:=by
 rw [qs]
 simp only [Rat.one_num,Rat.one_den,Int.natAbs_one,Qs]
 simp
theorem Zqx {neg:Bool} {num den:List Int} (hd:Ze den≠0):
  Y0 (mkRat (Z8 (neg,num)) (Ze den))=((neg&&decide (Ze num / Nat.gcd (Ze num) (Ze den)≠0),Zm (Ze num / Nat.gcd (Ze num) (Ze den))),Zm (Ze den / Nat.gcd (Ze num) (Ze den))):=by
 rw [Y0,Rat.num_mkRat,Rat.den_mkRat,if_neg hd,if_neg hd,Zdw,Nat.gcd_comm (Ze den) (Ze num)]
 have hg:Nat.gcd (Ze num) (Ze den)≠0:=fun h=>hd (Nat.gcd_eq_zero_iff.1 h).2
 congr 1
 have e:Z8 (neg,num) / ((Nat.gcd (Ze num) (Ze den):Nat):Int)=Z8 (neg,Zm (Ze num / Nat.gcd (Ze num) (Ze den))):=by
  rw [Z8,Z8]
  simp only [Xo]
  cases neg
  ·simp
  ·simp only [if_true]
   rw [Int.neg_ediv_of_dvd (Int.natCast_dvd_natCast.2 (Nat.gcd_dvd_left _ _)),Int.natCast_ediv]
 rw [e,Zib,Xo]
theorem Zqf {a b:Int} {c d:Nat} (hc:c≠0) (hd:d≠0):mkRat a c<mkRat b d↔a * d<b * c:=by
 have h1:(0:Rat)<(c:Rat):=Rat.natCast_pos.2 (by omega)
 have h2:(0:Rat)<(d:Rat):=Rat.natCast_pos.2 (by omega)
 rw [Rat.mkRat_eq_div,Rat.mkRat_eq_div,Rat.div_lt_iff h1]
 have e:(b:Rat) / d * c=(b:Rat) * c / d:=by
  rw [Rat.div_def,Rat.div_def,Rat.mul_assoc,Rat.mul_assoc,Rat.mul_comm (d:Rat)⁻¹]
 rw [e,Rat.lt_div_iff h2]
 have e1:((a:Rat) * (d:Rat))=((a * (d:Int):Int):Rat):=by rw [Rat.intCast_mul];rfl
 have e2:((b:Rat) * (c:Rat))=((b * (c:Int):Int):Rat):=by rw [Rat.intCast_mul];rfl
 rw [e1,e2,Rat.intCast_lt_intCast]
def Qp (a b:Rat):Int:=if a<b then -1 else if b<a then 1 else 0
def Sx (a b:Int):Int:=if a<b then -1 else if b<a then 1 else 0
def Zbq (a:Rat):Int:=Qp a 0
theorem Zl8 {a b:Int} {c d:Nat} (hc:c≠0) (hd:d≠0):Qp (mkRat a c) (mkRat b d)=Sx (a * d) (b * c):=by
 unfold Qp Sx
 simp only [Zqf hc hd,Zqf hd hc]
theorem Zk0 (a:Int):Sx a 0=a.sign:=by
 unfold Sx
 rcases Int.lt_trichotomy a 0 with h | h | h
 ·rw [if_pos h,Int.sign_eq_neg_one_of_neg h]
 ·rw [h];rfl
 ·rw [if_neg (by omega),if_pos h,Int.sign_eq_one_of_pos h]
theorem Zrs (a:QV):Zbq (Yq a)=(Z8 a.1).sign:=by
 rw [Zbq,Yq,show (0:Rat)=mkRat 0 1 by rw [Rat.zero_mkRat],Zl8 (Se _) (by decide),← Zk0]
 simp
theorem Zkh {a:Rat}:Zbq a<0↔a<0:=by
 rw [Zbq,Qp]
 by_cases h:a<0
 ·rw [if_pos h];simp [h]
 ·rw [if_neg h];simp only [h,iff_false];split <;> decide
theorem Zd6:Y2 Tryz.prog 79 1 4:=⟨Tryz.t79,_,rfl,rfl,rfl,rfl,rfl⟩
def Zf8 (aa:((Bool×List Int)×List Int)):Option ((Bool×(Nat×List Int))×(Nat×List Int)):=
  Xb ((([]:List Int).length+aa.1.2.length) * 4≤140737488355328∧([]:List Int).length+aa.1.2.length≤maxLen) (Xb (((([]:List Int)++aa.1.2).length+[901,902].length) * 4≤140737488355328∧(([]:List Int)++aa.1.2).length+[901,902].length≤maxLen) (Xb ((([]:List Int).length+aa.2.length) * 4≤140737488355328∧([]:List Int).length+aa.2.length≤maxLen) (Xb (((([]:List Int)++aa.2).length+[903,904].length) * 4≤140737488355328∧(([]:List Int)++aa.2).length+[903,904].length≤maxLen) (Xb ((0:Int)≤(aa.1.2.length:Int)∧(aa.1.2.length:Int)≤(((([]:List Int)++aa.1.2)++[901,902]).length:Int)) (Xb ((0:Int)≤(aa.2.length:Int)∧(aa.2.length:Int)≤(((([]:List Int)++aa.2)++[903,904]).length:Int)) (some ((aa.1.1,((Int.toNat (aa.1.2.length:Int)),(([]:List Int)++aa.1.2)++[901,902])),((Int.toNat (aa.2.length:Int)),(([]:List Int)++aa.2)++[903,904]))))))))
theorem Zvn (col:Zh) (w0:World) (aq:Option Addr) (ar:Nat) (au:Option Addr) (av:Nat) (aa:((Bool×List Int)×List Int)) (aw:Sl (Za.int .u32) col w0 aq ar aa.1.2) (ax:Sl (Za.int .u32) col w0 au av aa.2) (r:((Bool×(Nat×List Int))×(Nat×List Int))) (hm:Zf8 aa=some r):
    Calls Tryz.prog 29 #[(.agg #[.bool aa.1.1,.slice aq aa.1.2.length ar,.slice au aa.2.length av])] w0 (fun e w'=>∃ (col':Zh) (ra1:Option Addr) (rc2:Nat) (ra4:Option Addr) (rc5:Nat),e= .returned ((.agg #[.bool r.1.1,.slice ra1 ((r.1.2.2.take r.1.2.1).length) rc2,.slice ra4 ((r.2.2.take r.2.1).length) rc5]))∧Zf col w0 col' w'∧Sl (Za.int .u32) col' w' ra1 rc2 r.1.2.2∧Sl (Za.int .u32) col' w' ra4 rc5 r.2.2):=by
 refine Wq (m:=36) (args:=[(.agg #[.bool aa.1.1,.slice aq aa.1.2.length ar,.slice au aa.2.length av])]) func29 rfl rfl rfl ?_;rw [Zf8.eq_1] at hm;have ab:=St.start col w0;refine Zb<|Zd<|X3 (col:=(Zo col)) 1 rfl ?_;intro ag bv bc bd ad;refine Yt (col:=bc) #[.bool false,.slice none (([]:List Int).length) 0,.slice none (([]:List Int).length) 0] 2 zeroValue47 ?_;intro bw be bf a6 ay;refine Zc<|Zb<|Zd<|Zu rfl<|Zc<|Zb<|Zd<|Zu rfl<|Zc<|Zb<|Zd<|Zk rfl<|lF ag 0 underlying47 rfl sizeOf45<|lv (v:=(.pointer (((some (⟨ag,0,none⟩:Addr)).map (·.add 0)).map (·.add 1)))) rfl rfl (Xn (sz:=1) (off:=1) underlying45 rfl sizeOf43 (by decide) rfl rfl (Vd ⟨_,_,rfl⟩)) ?_;replace ad:=ad.gr a6;refine lV _ (Zn isAgg43 rfl ((((ad.atN).part 0 2 _ rfl)).nth (q:=1) rfl)) ?_;obtain ⟨a7,hm⟩:=Xd hm;replace aw:=aw.keep (Zp.start col w0);replace ab:=(ab.grow bd).grow a6;refine Wr (col:=bf) (w:=be) (r:=(Za.int .u32)) (c:=3) (c2:=3) (xs:=([]:List Int)) (ys:=aa.1.2) Zl.nil (aw.ks ab).srcC rfl underlying43 Zd6 rfl rfl rfl a7.1 a7.2 (by decide) ?_;intro bx bz b0 bg az a0;refine Zu rfl<|Zc<|Zb<|Zd<|Zk rfl<|Wk (col:=bg) (r:=(Za.int .u32)) (xs:=[901,902]) [.int .u32 901,.int .u32 902] 4 rfl underlying43 Zd6 rfl rfl rfl rfl rfl rfl (by intro v hv;simp only [List.mem_cons,List.not_mem_nil,or_false] at hv;rcases hv with rfl | rfl <;> rfl) (Y6.ofF (Rows.consF (r:=(Za.int .u32)) (x:=901) (cs:=[.int .u32 901]) (X8 .u32 901) (Rows.consF (r:=(Za.int .u32)) (x:=902) (cs:=[.int .u32 902]) (X8 .u32 902) Rows.nil0))) ?_;intro b1 bh bi an bj;obtain ⟨a8,hm⟩:=Xd hm;replace a0:=a0.gr an;refine Wr (col:=bi) (w:=bh) (r:=(Za.int .u32)) (c:=3) (c2:=3) (xs:=([]:List Int)++aa.1.2) (ys:=[901,902]) a0 (bj.srcN (NB.int (k:=.u32))) rfl underlying43 Zd6 rfl rfl rfl a8.1 a8.2 (by decide) ?_;intro ah ai bk bm a1 ac;refine Zu rfl<|Zc<|Zb<|Zd<|Zk rfl<|lF ag 2 underlying47 rfl sizeOf43 ?_;replace ad:=((ad.kpp az).gr an).kpp a1;refine lV _ (Zn isAgg43 rfl ((ad.atN).nth (q:=2) rfl)) ?_;obtain ⟨a9,hm⟩:=Xd hm;replace ax:=ax.keep (Zp.start col w0);replace ab:=((ab.kpp az).grow an).kpp a1;refine Wr (col:=bm) (w:=bk) (r:=(Za.int .u32)) (c:=5) (c2:=5) (xs:=([]:List Int)) (ys:=aa.2) Zl.nil (ax.ks ab).srcC rfl underlying43 Zd6 rfl rfl rfl a9.1 a9.2 (by decide) ?_;intro b2 b3 b4 bn ao a2
 refine Zu rfl<|Zc<|Zb<|Zd<|Zk rfl<|Wk (col:=bn) (r:=(Za.int .u32)) (xs:=[903,904]) [.int .u32 903,.int .u32 904] 6 rfl underlying43 Zd6 rfl rfl rfl rfl rfl rfl (by intro v hv;simp only [List.mem_cons,List.not_mem_nil,or_false] at hv;rcases hv with rfl | rfl <;> rfl) (Y6.ofF (Rows.consF (r:=(Za.int .u32)) (x:=903) (cs:=[.int .u32 903]) (X8 .u32 903) (Rows.consF (r:=(Za.int .u32)) (x:=904) (cs:=[.int .u32 904]) (X8 .u32 904) Rows.nil0))) ?_;intro b5 bo bp am bq;obtain ⟨ba,hm⟩:=Xd hm;replace a2:=a2.gr am;refine Wr (col:=bp) (w:=bo) (r:=(Za.int .u32)) (c:=5) (c2:=5) (xs:=([]:List Int)++aa.2) (ys:=[903,904]) a2 (bq.srcN (NB.int (k:=.u32))) rfl underlying43 Zd6 rfl rfl rfl ba.1 ba.2 (by decide) ?_;intro ak al br ae ap af;refine Zu rfl<|Zc<|Zb<|Vn (col:=ae) [(0,1),(1,1),(2,0),(3,1),(4,1),(5,1),(6,0),(7,1),(8,1),(9,1),(10,1),(11,1),(12,0),(13,1),(14,1),(15,1),(16,2)] (by kernel_rfl) (by kernel_rfl)<|xu (v:=(.pointer ((some (⟨ag,0,none⟩:Addr)).map (·.add 0)))) rfl rfl (fun _=>Xn (sz:=2) (off:=0) underlying47 rfl sizeOf45 (by decide) rfl rfl ⟨_,_,rfl⟩) ?_;refine xu (v:=(.pointer (((some (⟨ag,0,none⟩:Addr)).map (·.add 0)).map (·.add 0)))) rfl rfl (fun _=>Xn (sz:=1) (off:=0) underlying45 rfl sizeOf4 (by decide) rfl rfl (Vd ⟨_,_,rfl⟩)) ?_;replace ad:=((ad.kpp ao).gr am).kpp ap;refine xv rfl rfl (fun _ hC=>Zn isAgg4 rfl (((((ad.atN).part 0 2 _ rfl)).nth (q:=0) rfl).gr (hC.bl ae))) ?_;refine xu rfl rfl (fun _=>Yr rfl) ?_;refine xu (v:=(.pointer ((some (⟨ag,0,none⟩:Addr)).map (·.add 0)))) rfl rfl (fun _=>Xn (sz:=2) (off:=0) underlying47 rfl sizeOf45 (by decide) rfl rfl ⟨_,_,rfl⟩) ?_;refine xu (v:=(.pointer (((some (⟨ag,0,none⟩:Addr)).map (·.add 0)).map (·.add 1)))) rfl rfl (fun _=>Xn (sz:=1) (off:=1) underlying45 rfl sizeOf43 (by decide) rfl rfl (Vd ⟨_,_,rfl⟩)) ?_;refine xv rfl rfl (fun _ hC=>Zn isAgg43 rfl (((((ad.atN).part 0 2 _ rfl)).nth (q:=1) rfl).gr (hC.bl ae))) ?_;refine xu rfl rfl (fun _=>Zs underlying43 rfl) ?_;obtain ⟨a3,hm⟩:=Xd hm;replace ac:=((ac.kpp ao).gr am).kpp ap;refine xu (v:=.slice ah (Int.toNat (aa.1.2.length:Int)) ai) rfl rfl (fun _=>Vk underlying43 sizeOf79 rfl rfl a3.1 (by have:=ac.lecap;have:=a3.2;omega)) ?_
 refine .ld (d:=28) (v:=(.slice ah ((((([]:List Int)++aa.1.2)++[901,902]).take (Int.toNat (aa.1.2.length:Int))).length) ai)) (congrArg (fun n=>Value.slice ah n ai) (List.length_take_of_le (show (Int.toNat (aa.1.2.length:Int))≤((([]:List Int)++aa.1.2)++[901,902]).length by have:=a3.2;omega)).symm) ?_;refine xu (v:=(.agg #[.bool aa.1.1,(.slice ah ((((([]:List Int)++aa.1.2)++[901,902]).take (Int.toNat (aa.1.2.length:Int))).length) ai)])) rfl rfl (fun _=>Vi (l:=[_,_]) (qs:=[(0,1),(1,1)]) underlying45 zeroValue45 ⟨rfl,sizeOf4,rfl,sizeOf43,trivial⟩ rfl) ?_;refine xu rfl rfl (fun _=>Yr rfl) ?_;refine xu (v:=(.pointer ((some (⟨ag,0,none⟩:Addr)).map (·.add 2)))) rfl rfl (fun _=>Xn (sz:=1) (off:=2) underlying47 rfl sizeOf43 (by decide) rfl rfl ⟨_,_,rfl⟩) ?_;refine xv rfl rfl (fun _ hC=>Zn isAgg43 rfl (((ad.atN).nth (q:=2) rfl).gr (hC.bl ae))) ?_;refine xu rfl rfl (fun _=>Zs underlying43 rfl) ?_;obtain ⟨a4,hm⟩:=Xd hm;refine xu (v:=.slice ak (Int.toNat (aa.2.length:Int)) al) rfl rfl (fun _=>Vk underlying43 sizeOf79 rfl rfl a4.1 (by have:=af.lecap;have:=a4.2;omega)) ?_;refine .ld (d:=34) (v:=(.slice ak ((((([]:List Int)++aa.2)++[903,904]).take (Int.toNat (aa.2.length:Int))).length) al)) (congrArg (fun n=>Value.slice ak n al) (List.length_take_of_le (show (Int.toNat (aa.2.length:Int))≤((([]:List Int)++aa.2)++[903,904]).length by have:=a4.2;omega)).symm) ?_;refine xu (v:=(.agg #[.bool aa.1.1,(.slice ah ((((([]:List Int)++aa.1.2)++[901,902]).take (Int.toNat (aa.1.2.length:Int))).length) ai),(.slice ak ((((([]:List Int)++aa.2)++[903,904]).take (Int.toNat (aa.2.length:Int))).length) al)])) rfl rfl (fun _=>Vi (l:=[_,_]) (qs:=[(0,2),(2,1)]) underlying47 zeroValue47 ⟨rfl,sizeOf45,rfl,sizeOf43,trivial⟩ rfl) ?_;refine xe rfl rfl ?_;intro bs hC0;have hC:Zf ae br ae bs:=.of_below hC0.below;replace ay:=((((((ay.kpp az).gr an).kpp a1).kpp ao).gr am).kpp ap).gr hC;refine Ya #[.bool aa.1.1,(.slice ah ((((([]:List Int)++aa.1.2)++[901,902]).take (Int.toNat (aa.1.2.length:Int))).length) ai),(.slice ak ((((([]:List Int)++aa.2)++[903,904]).take (Int.toNat (aa.2.length:Int))).length) al)] ay sizeOf47 ?_;intro bb a5 bt aj;refine Zc ⟨fun w'=>Zf ae bb ae w',Zf.refl _ _,fun h=>absurd h (by decide),?_⟩;refine Ve ?_;replace ab:=((((ab.kpp ao).grow am).kpp ap).grow hC).kp a5 bt;replace ac:=(ac.gr hC).kp a5;replace af:=(af.gr hC).kp a5;intro bu hC;replace hC:Zf ae bb ae bu:=.of_below hC.below;refine Zq ?_
 replace ac:=ac.gr hC;replace ac:=(ac).toSlF (Z2.int .u32);replace af:=af.gr hC;replace af:=af.froz 3 (by decide);replace aj:=aj.gr hC;replace aj:=aj.froz 3 (by decide);replace ab:=ab.grow hC;replace ab:=ab.froz 3 (by decide) (by decide);replace ac:=ac.froz 5;replace af:=(af).toSlF (Z2.int .u32);replace aj:=aj.froz 5 (by decide);replace ab:=ab.froz 5 (by decide) (by decide);cases hm;exact ⟨rfl,_,Wi rfl rfl isAgg47 sizeOf47 rfl rfl aj.atN,Xh w0.heap.size col (Z3 5 (Z3 3 ae)) (fun n=>0),ah,ai,ak,al,rfl,ab.fin (fun n=>0),ab.finSl (g:=(fun n=>0)) rfl ac,ab.finSl (g:=(fun n=>0)) rfl af⟩
theorem Zlp:Y2 Tryz.prog 3 1 8:=⟨Tryz.t3,_,rfl,rfl,rfl,rfl,rfl⟩
theorem Zd7:Y2 Tryz.prog 9 1 16:=⟨Tryz.t9,_,rfl,rfl,rfl,rfl,rfl⟩
theorem Zof:Y2 Tryz.prog 22 1 24:=⟨Tryz.t22,_,rfl,rfl,rfl,rfl,rfl⟩
theorem Zol:Y2 Tryz.prog 40 1 24:=⟨Tryz.t40,_,rfl,rfl,rfl,rfl,rfl⟩
theorem Zja:Y2 Tryz.prog 47 3 56:=⟨Tryz.t47,_,rfl,rfl,rfl,rfl,rfl⟩
theorem Zom:Y2 Tryz.prog 56 1 24:=⟨Tryz.t56,_,rfl,rfl,rfl,rfl,rfl⟩
theorem Zon:Y2 Tryz.prog 79 1 4:=⟨Tryz.t79,_,rfl,rfl,rfl,rfl,rfl⟩
def Zdb (N:Nat) (ah:(ByteArray×List ByteArray×(List (List ByteArray))×(List (List Int))×(List (List ((Bool×List Int)×List Int))))) (ai:ByteArray) (aj:List ByteArray) (ak:List (Nat×List ByteArray)) (al:List (Nat×List Int)) (ad:List (Nat×(List ((Bool×(Nat×List Int))×(Nat×List Int))))) (ae:Int) (kk_L3:(ByteArray→(List ByteArray)→(List (Nat×List ByteArray))→(List (Nat×List Int))→(List (Nat×(List ((Bool×(Nat×List Int))×(Nat×List Int)))))→Int→Option (ByteArray×(Nat×List ByteArray)×(List (Nat×List ByteArray))×(List (Nat×List Int))×(List (Nat×(List ((Bool×(Nat×List Int))×(Nat×List Int)))))))):Nat→Int→(List ((Bool×(Nat×List Int))×(Nat×List Int)))→Option (ByteArray×(Nat×List ByteArray)×(List (Nat×List ByteArray))×(List (Nat×List Int))×(List (Nat×(List ((Bool×(Nat×List Int))×(Nat×List Int))))))
  | 0,_,_=>none
  | am+1,af,ab=>(Zv ah.2.2.2.2 ae).bind fun ac=>if (decide (af<(ac.length:Int)))=true then ((Zv ac af).bind fun ag=>(Zf8 ((ag.1.1,ag.1.2),ag.2)).bind fun aa=>Xb ((ab.length+[((aa.1.1,(aa.1.2.1,aa.1.2.2)),(aa.2.1,aa.2.2))].length) * 56≤140737488355328∧ab.length+[((aa.1.1,(aa.1.2.1,aa.1.2.2)),(aa.2.1,aa.2.2))].length≤maxLen) ((Zdb N ah ai aj ak al ad ae kk_L3 am) (i64.wrap (af+1)) (ab++[((aa.1.1,(aa.1.2.1,aa.1.2.2)),(aa.2.1,aa.2.2))]))) else (Xb ((ab.length+[((false,(0,([]:List Int))),([97].length,[97])),((false,(0,([]:List Int))),([98].length,[98]))].length) * 56≤140737488355328∧ab.length+[((false,(0,([]:List Int))),([97].length,[97])),((false,(0,([]:List Int))),([98].length,[98]))].length≤maxLen) (Xb ((0:Int)≤(ac.length:Int)∧(ac.length:Int)≤((ab++[((false,(0,([]:List Int))),([97].length,[97])),((false,(0,([]:List Int))),([98].length,[98]))]).length:Int)) (Xb ((ad.length+[((Int.toNat (ac.length:Int)),ab++[((false,(0,([]:List Int))),([97].length,[97])),((false,(0,([]:List Int))),([98].length,[98]))])].length) * 24≤140737488355328∧ad.length+[((Int.toNat (ac.length:Int)),ab++[((false,(0,([]:List Int))),([97].length,[97])),((false,(0,([]:List Int))),([98].length,[98]))])].length≤maxLen) (kk_L3 ai aj ak al (ad++[((Int.toNat (ac.length:Int)),ab++[((false,(0,([]:List Int))),([97].length,[97])),((false,(0,([]:List Int))),([98].length,[98]))])]) (i64.wrap (ae+1))))))
termination_by structural x=>x
def Zbk (N:Nat) (aa:(ByteArray×List ByteArray×(List (List ByteArray))×(List (List Int))×(List (List ((Bool×List Int)×List Int))))):Nat→ByteArray→(List ByteArray)→(List (Nat×List ByteArray))→(List (Nat×List Int))→(List (Nat×(List ((Bool×(Nat×List Int))×(Nat×List Int)))))→Int→Option (ByteArray×(Nat×List ByteArray)×(List (Nat×List ByteArray))×(List (Nat×List Int))×(List (Nat×(List ((Bool×(Nat×List Int))×(Nat×List Int))))))
  | 0,_,_,_,_,_,_=>none
  | ah+1,ab,ac,ad,ae,af,ag=>if (decide (ag<(aa.2.2.2.2.length:Int)))=true then (Zdb N aa ab ac ad ae af ag (Zbk N aa ah) N 0 ([]:List ((Bool×(Nat×List Int))×(Nat×List Int)))) else (some (ab,((Int.toNat (aa.2.1.length:Int)),ac),ad,ae,af))
termination_by structural x=>x
def Zda (N:Nat) (ab:(ByteArray×List ByteArray×(List (List ByteArray))×(List (List Int))×(List (List ((Bool×List Int)×List Int))))):Nat→ByteArray→(List ByteArray)→(List (Nat×List ByteArray))→(List (Nat×List Int))→(List (Nat×(List ((Bool×(Nat×List Int))×(Nat×List Int)))))→Int→Option (ByteArray×(Nat×List ByteArray)×(List (Nat×List ByteArray))×(List (Nat×List Int))×(List (Nat×(List ((Bool×(Nat×List Int))×(Nat×List Int))))))
  | 0,_,_,_,_,_,_=>none
  | ai+1,ae,af,ag,ac,ah,ad=>if (decide (ad<(ab.2.2.2.1.length:Int)))=true then ((Zv ab.2.2.2.1 ad).bind fun aa=>Xb ((([]:List Int).length+aa.length) * 8≤140737488355328∧([]:List Int).length+aa.length≤maxLen) (Xb (((([]:List Int)++aa).length+[(-95),(-96)].length) * 8≤140737488355328∧(([]:List Int)++aa).length+[(-95),(-96)].length≤maxLen) (Xb ((0:Int)≤(aa.length:Int)∧(aa.length:Int)≤(((([]:List Int)++aa)++[(-95),(-96)]).length:Int)) (Xb ((ac.length+[((Int.toNat (aa.length:Int)),(([]:List Int)++aa)++[(-95),(-96)])].length) * 24≤140737488355328∧ac.length+[((Int.toNat (aa.length:Int)),(([]:List Int)++aa)++[(-95),(-96)])].length≤maxLen) ((Zda N ab ai) ae af ag (ac++[((Int.toNat (aa.length:Int)),(([]:List Int)++aa)++[(-95),(-96)])]) ah (i64.wrap (ad+1))))))) else (Zbk N ab N ae af ag ac ah 0)
termination_by structural x=>x
def Zc9 (N:Nat) (ab:(ByteArray×List ByteArray×(List (List ByteArray))×(List (List Int))×(List (List ((Bool×List Int)×List Int))))):Nat→ByteArray→(List ByteArray)→(List (Nat×List ByteArray))→(List (Nat×List Int))→(List (Nat×(List ((Bool×(Nat×List Int))×(Nat×List Int)))))→Int→Option (ByteArray×(Nat×List ByteArray)×(List (Nat×List ByteArray))×(List (Nat×List Int))×(List (Nat×(List ((Bool×(Nat×List Int))×(Nat×List Int))))))
  | 0,_,_,_,_,_,_=>none
  | ai+1,ae,af,ac,ag,ah,ad=>if (decide (ad<(ab.2.2.1.length:Int)))=true then ((Zv ab.2.2.1 ad).bind fun aa=>Xb ((([]:List ByteArray).length+aa.length) * 16≤140737488355328∧([]:List ByteArray).length+aa.length≤maxLen) (Xb (((([]:List ByteArray)++aa).length+([⟨#[35,51]⟩,⟨#[35,52]⟩]:List ByteArray).length) * 16≤140737488355328∧(([]:List ByteArray)++aa).length+([⟨#[35,51]⟩,⟨#[35,52]⟩]:List ByteArray).length≤maxLen) (Xb ((0:Int)≤(aa.length:Int)∧(aa.length:Int)≤(((([]:List ByteArray)++aa)++([⟨#[35,51]⟩,⟨#[35,52]⟩]:List ByteArray)).length:Int)) (Xb ((ac.length+([((Int.toNat (aa.length:Int)),(([]:List ByteArray)++aa)++([⟨#[35,51]⟩,⟨#[35,52]⟩]:List ByteArray))]:List (Nat×List ByteArray)).length) * 24≤140737488355328∧ac.length+([((Int.toNat (aa.length:Int)),(([]:List ByteArray)++aa)++([⟨#[35,51]⟩,⟨#[35,52]⟩]:List ByteArray))]:List (Nat×List ByteArray)).length≤maxLen) ((Zc9 N ab ai) ae af (ac++([((Int.toNat (aa.length:Int)),(([]:List ByteArray)++aa)++([⟨#[35,51]⟩,⟨#[35,52]⟩]:List ByteArray))]:List (Nat×List ByteArray))) ag ah (i64.wrap (ad+1))))))) else (Zda N ab N ae af ac ag ah 0)
termination_by structural x=>x
def Zga (N:Nat) (aa:(ByteArray×List ByteArray×(List (List ByteArray))×(List (List Int))×(List (List ((Bool×List Int)×List Int))))):Option (ByteArray×(Nat×List ByteArray)×(List (Nat×List ByteArray))×(List (Nat×List Int))×(List (Nat×(List ((Bool×(Nat×List Int))×(Nat×List Int)))))):=
  Xb ((([]:List ByteArray).length+aa.2.1.length) * 16≤140737488355328∧([]:List ByteArray).length+aa.2.1.length≤maxLen) (Xb (((([]:List ByteArray)++aa.2.1).length+([⟨#[35,49]⟩,⟨#[35,50]⟩]:List ByteArray).length) * 16≤140737488355328∧(([]:List ByteArray)++aa.2.1).length+([⟨#[35,49]⟩,⟨#[35,50]⟩]:List ByteArray).length≤maxLen) (Xb ((0:Int)≤(aa.2.1.length:Int)∧(aa.2.1.length:Int)≤(((([]:List ByteArray)++aa.2.1)++([⟨#[35,49]⟩,⟨#[35,50]⟩]:List ByteArray)).length:Int)) (Zc9 N aa N aa.1 ((([]:List ByteArray)++aa.2.1)++([⟨#[35,49]⟩,⟨#[35,50]⟩]:List ByteArray)) ([]:List (Nat×List ByteArray)) ([]:List (Nat×List Int)) ([]:List (Nat×(List ((Bool×(Nat×List Int))×(Nat×List Int))))) 0)))
theorem Zvp (N:Nat) (col:Zh) (w0:World) (cg:Option Addr) (ch:Nat) (ci:Option Addr) (cj:Nat) (ck:Option Addr) (cl:Nat) (cm:Option Addr) (cn:Nat) (ac:(ByteArray×List ByteArray×(List (List ByteArray))×(List (List Int))×(List (List ((Bool×List Int)×List Int))))) (ey:Sl Za.str col w0 cg ch ac.2.1) (df:Sl (Za.slice Za.str) col w0 ci cj ac.2.2.1) (dg:Sl (Za.slice (Za.int .i64)) col w0 ck cl ac.2.2.2.1) (bx:Sl (Za.slice (Za.pair (Za.pair Za.bool (Za.slice (Za.int .u32))) (Za.slice (Za.int .u32)))) col w0 cm cn ac.2.2.2.2) (r:(ByteArray×(Nat×List ByteArray)×(List (Nat×List ByteArray))×(List (Nat×List Int))×(List (Nat×(List ((Bool×(Nat×List Int))×(Nat×List Int))))))) (hm:Zga N ac=some r):
    Calls Tryz.prog 15 #[(.agg #[.string ac.1,.slice cg ac.2.1.length ch,.slice ci ac.2.2.1.length cj,.slice ck ac.2.2.2.1.length cl,.slice cm ac.2.2.2.2.length cn])] w0 (fun e w'=>∃ (col':Zh) (ra1:Option Addr) (rc2:Nat) (ra4:Option Addr) (rc5:Nat) (ra7:Option Addr) (rc8:Nat) (ra10:Option Addr) (rc11:Nat),e= .returned ((.agg #[.string r.1,.slice ra1 ((r.2.1.2.take r.2.1.1).length) rc2,.slice ra4 r.2.2.1.length rc5,.slice ra7 r.2.2.2.1.length rc8,.slice ra10 r.2.2.2.2.length rc11]))∧Zf col w0 col' w'∧Sl Za.str col' w' ra1 rc2 r.2.1.2∧Sl (Za.view Za.str) col' w' ra4 rc5 r.2.2.1∧Sl (Za.view (Za.int .i64)) col' w' ra7 rc8 r.2.2.2.1∧Sl (Za.view (Za.pair (Za.pair Za.bool (Za.view (Za.int .u32))) (Za.view (Za.int .u32)))) col' w' ra10 rc11 r.2.2.2.2):=by
 refine Wq (m:=142) (args:=[(.agg #[.string ac.1,.slice cg ac.2.1.length ch,.slice ci ac.2.2.1.length cj,.slice ck ac.2.2.2.1.length cl,.slice cm ac.2.2.2.2.length cn])]) func15 rfl rfl rfl ?_;rw [Zga.eq_1] at hm;have aa:=St.start col w0;refine Zb<|Zd<|X3 (col:=(Zo col)) 1 rfl ?_;intro al jf gv gw ab;refine Yt (col:=gv) #[.string (⟨#[]⟩),.slice none (([]:List ByteArray).length) 0,.slice none (([]:List (Nat×List ByteArray)).length) 0,.slice none (([]:List (Nat×List Int)).length) 0,(.slice none (([]:List (Nat×(List ((Bool×(Nat×List Int))×(Nat×List Int))))).length) 0)] 2 zeroValue27 ?_;intro bz jg gx fx ae;refine Zc<|Zb<|Zd<|lF al 0 underlying27 rfl sizeOf9 ?_;replace ab:=ab.gr fx;refine lV _ (Zn isAgg9 rfl ((ab.atN).nth (q:=0) rfl))<|lV (.agg #[.string ac.1,.slice none (([]:List ByteArray).length) 0,.slice none (([]:List (Nat×List ByteArray)).length) 0,.slice none (([]:List (Nat×List Int)).length) 0,(.slice none (([]:List (Nat×(List ((Bool×(Nat×List Int))×(Nat×List Int))))).length) 0)]) (Vi (l:=[_,_,_,_,_]) (qs:=[(0,1),(1,1),(2,1),(3,1),(4,1)]) underlying27 zeroValue27 ⟨rfl,sizeOf9,rfl,sizeOf22,rfl,sizeOf23,rfl,sizeOf24,rfl,sizeOf25,trivial⟩ rfl)<|Yt (col:=gx) #[.string (⟨#[]⟩),.slice none (([]:List ByteArray).length) 0,.slice none (([]:List (Nat×List ByteArray)).length) 0,.slice none (([]:List (Nat×List Int)).length) 0,(.slice none (([]:List (Nat×(List ((Bool×(Nat×List Int))×(Nat×List Int))))).length) 0)] 3 zeroValue27 ?_;intro ak jh gy ez gz;refine Ya #[.string ac.1,.slice none (([]:List ByteArray).length) 0,.slice none (([]:List (Nat×List ByteArray)).length) 0,.slice none (([]:List (Nat×List Int)).length) 0,(.slice none (([]:List (Nat×(List ((Bool×(Nat×List Int))×(Nat×List Int))))).length) 0)] gz sizeOf27 ?_;intro g0 e0 g1 eh;refine Zc<|Zb<|Zd<|Z9 ak 1 underlying27 rfl sizeOf22 isAgg22 eh rfl<|lF al 1 underlying27 rfl sizeOf22 ?_;replace ab:=(ab.gr ez).kp e0;refine lV _ (Zn isAgg22 rfl ((ab.atN).nth (q:=1) rfl)) ?_;obtain ⟨fy,hm⟩:=Xd hm;replace ey:=ey.keep (Zp.start col w0);replace aa:=(((aa.grow gw).grow fx).grow ez).kp e0 g1;refine Wr (col:=gy) (w:=g0) (r:=Za.str) (c:=4) (c2:=4) (xs:=([]:List ByteArray)) (ys:=ac.2.1) Zl.nil (ey.ks aa).srcC rfl underlying22 Zd7 rfl rfl rfl fy.1 fy.2 (by decide) ?_;intro fz f0 ji f1 ei e1;refine lF ak 1 underlying27 rfl sizeOf22 ?_
 replace eh:=eh.kpp ei;refine V1 (off:=1) (v:=(.slice fz ((([]:List ByteArray)++ac.2.1).length) f0)) eh sizeOf22 rfl rfl (by intro u hu;simp only [Value.cells,List.mem_cons,List.not_mem_nil,or_false] at hu;subst hu;rfl) rfl rfl ?_;intro g2 ej g3 dh;replace dh:Zt 27 3 f1 g2 ak #[.string ac.1,.slice fz ((([]:List ByteArray)++ac.2.1).length) f0,.slice none (([]:List (Nat×List ByteArray)).length) 0,.slice none (([]:List (Nat×List Int)).length) 0,(.slice none (([]:List (Nat×(List ((Bool×(Nat×List Int))×(Nat×List Int))))).length) 0)]:=dh;refine Zc<|Zb<|Zd<|Z9 ak 1 underlying27 rfl sizeOf22 isAgg22 dh rfl<|Wk (col:=f1) (r:=Za.str) (xs:=([⟨#[35,49]⟩,⟨#[35,50]⟩]:List ByteArray)) [.string (⟨#[35,49]⟩),.string (⟨#[35,50]⟩)] 5 rfl underlying22 Zd7 rfl rfl rfl rfl rfl rfl (by intro v hv;simp only [List.mem_cons,List.not_mem_nil,or_false] at hv;rcases hv with rfl | rfl <;> rfl) (Y6.ofF (Rows.consF (r:=Za.str) (x:=⟨#[35,49]⟩) (cs:=[.string (⟨#[35,49]⟩)]) (Us (⟨#[35,49]⟩)) (Rows.consF (r:=Za.str) (x:=⟨#[35,50]⟩) (cs:=[.string (⟨#[35,50]⟩)]) (Us (⟨#[35,50]⟩)) Rows.nil0))) ?_;intro jj g4 g5 d2 g6;obtain ⟨f2,hm⟩:=Xd hm;replace e1:=(e1.kp ej).gr d2;refine Qq (col:=g5) (w:=g4) (r:=Za.str) (c:=4) (c2:=4) (e1.ex) (g6.srcN NB.str) rfl underlying22 Zd7 rfl rfl rfl f2.1 f2.2 (by decide) ?_;intro b0 b1 jk e2 ek e3;refine lF ak 1 underlying27 rfl sizeOf22 ?_;replace dh:=(dh.gr d2).kpp ek;refine V1 (off:=1) (v:=(.slice b0 (((([]:List ByteArray)++ac.2.1)++([⟨#[35,49]⟩,⟨#[35,50]⟩]:List ByteArray)).length) b1)) dh sizeOf22 rfl rfl (by intro u hu;simp only [Value.cells,List.mem_cons,List.not_mem_nil,or_false] at hu;subst hu;rfl) rfl rfl ?_;intro g7 el g8 em;replace em:Zt 27 3 e2 g7 ak #[.string ac.1,(.slice b0 (((([]:List ByteArray)++ac.2.1)++([⟨#[35,49]⟩,⟨#[35,50]⟩]:List ByteArray)).length) b1),.slice none (([]:List (Nat×List ByteArray)).length) 0,.slice none (([]:List (Nat×List Int)).length) 0,(.slice none (([]:List (Nat×(List ((Bool×(Nat×List Int))×(Nat×List Int))))).length) 0)]:=em;replace e3:=e3.kp el;have en:=e3.new;refine Zc<|Zb<|Zd<|Z9 ak 1 underlying27 rfl sizeOf22 isAgg22 em rfl<|lF al 1 underlying27 rfl sizeOf22 ?_;replace ab:=((((ab.kpp ei).kp ej).gr d2).kpp ek).kp el;refine lV _ (Zn isAgg22 rfl ((ab.atN).nth (q:=1) rfl))<|lV _ (Zs underlying22 rfl) ?_;obtain ⟨e4,hm⟩:=Xd hm
 refine lv (v:=.slice b0 (Int.toNat (ac.2.1.length:Int)) b1) rfl rfl (Vk underlying22 sizeOf9 rfl rfl e4.1 (by have:=en.lecap;have:=e4.2;omega))<|.ld (d:=30) (v:=(.slice b0 ((((([]:List ByteArray)++ac.2.1)++([⟨#[35,49]⟩,⟨#[35,50]⟩]:List ByteArray)).take (Int.toNat (ac.2.1.length:Int))).length) b1)) (congrArg (fun n=>Value.slice b0 n b1) (List.length_take_of_le (show (Int.toNat (ac.2.1.length:Int))≤((([]:List ByteArray)++ac.2.1)++([⟨#[35,49]⟩,⟨#[35,50]⟩]:List ByteArray)).length by have:=e4.2;omega)).symm) ?_;refine lF ak 1 underlying27 rfl sizeOf22<|V1 (off:=1) (v:=(.slice b0 ((((([]:List ByteArray)++ac.2.1)++([⟨#[35,49]⟩,⟨#[35,50]⟩]:List ByteArray)).take (Int.toNat (ac.2.1.length:Int))).length) b1)) em sizeOf22 rfl rfl (by intro u hu;simp only [Value.cells,List.mem_cons,List.not_mem_nil,or_false] at hu;subst hu;rfl) rfl rfl ?_;intro g9 eo ha ad;replace ad:Zt 27 3 e2 g9 ak #[.string ac.1,(.slice b0 ((((([]:List ByteArray)++ac.2.1)++([⟨#[35,49]⟩,⟨#[35,50]⟩]:List ByteArray)).take (Int.toNat (ac.2.1.length:Int))).length) b1),.slice none (([]:List (Nat×List ByteArray)).length) 0,.slice none (([]:List (Nat×List Int)).length) 0,(.slice none (([]:List (Nat×(List ((Bool×(Nat×List Int))×(Nat×List Int))))).length) 0)]:=ad;refine Zc<|Zb<|Zb<|Zd<|Zj rfl<|Zc<|Z0 ?_;replace ae:=(((((((ae.gr ez).kp e0).kpp ei).kp ej).gr d2).kpp ek).kp el).kp eo;replace aa:=(((((aa.kpp ei).kp ej g3).grow d2).kpp ek).kp el g8).kp eo ha;replace en:=en.kp eo;replace ab:=ab.kp eo
 refine Xi (fun n f a4=>∃ (a0:Zh) (di:ByteArray) (dj:Option Addr) (dk:Nat) (co:List ByteArray) (ep:Option Addr) (eq:Nat) (b2:List (Nat×List ByteArray)) (dl:Option Addr) (dm:Nat) (cp:List (Nat×List Int)) (dn:Option Addr) (dp:Nat) (cq:List (Nat×(List ((Bool×(Nat×List Int))×(Nat×List Int))))) (er:Int) (cr:Nat),cr=n∧Zc9 N ac cr di co b2 cp cq er=some r∧St w0 (Zo col) a0 a4∧Zt 27 1 a0 a4 al #[.string ac.1,.slice cg ac.2.1.length ch,.slice ci ac.2.2.1.length cj,.slice ck ac.2.2.2.1.length cl,.slice cm ac.2.2.2.2.length cn]∧Zt 27 2 a0 a4 bz #[.string (⟨#[]⟩),.slice none (([]:List ByteArray).length) 0,.slice none (([]:List (Nat×List ByteArray)).length) 0,.slice none (([]:List (Nat×List Int)).length) 0,(.slice none (([]:List (Nat×(List ((Bool×(Nat×List Int))×(Nat×List Int))))).length) 0)]∧Zl Za.str 9 4 a0 a4 dj dk co∧Zl (Za.view Za.str) 22 6 a0 a4 ep eq b2∧Zl (Za.view (Za.int .i64)) 40 7 a0 a4 dl dm cp∧Zl (Za.view (Za.pair (Za.pair Za.bool (Za.view (Za.int .u32))) (Za.view (Za.int .u32)))) 56 8 a0 a4 dn dp cq∧Zt 27 3 a0 a4 ak #[.string di,(.slice dj ((co.take (Int.toNat (ac.2.1.length:Int))).length) dk),.slice ep b2.length eq,.slice dl cp.length dm,.slice dn cq.length dp]∧f 1=(.pointer (some ⟨al,0,none⟩))∧f 2=(.pointer (some ⟨bz,0,none⟩))∧f 3=(.pointer (some ⟨ak,0,none⟩))∧f 4=(.int .i64 er)∧f 1000000=(enc [])) N ⟨e2,ac.1,b0,b1,((([]:List ByteArray)++ac.2.1)++([⟨#[35,49]⟩,⟨#[35,50]⟩]:List ByteArray)),none,0,([]:List (Nat×List ByteArray)),none,0,([]:List (Nat×List Int)),none,0,([]:List (Nat×(List ((Bool×(Nat×List Int))×(Nat×List Int))))),0,N,rfl,hm,aa,ab,ae,en,Zl.nil,Zl.nil,Zl.nil,ad,rfl,rfl,rfl,rfl,rfl⟩ ?_;clear hm;intro n f a4 hI;obtain ⟨a0,di,dj,dk,co,ep,eq,b2,dl,dm,cp,dn,dp,cq,er,cr,hn,hm,aa,ab,ae,ap,b3,aq,ar,ad,ct,cu,cv,hc,cw⟩:=hI;subst hn;refine .lD 1 ct<|.lD 2 cu<|.lD 3 cv<|.lD 4 hc<|.lD 1000000 cw ?_;replace df:=df.keep (Zp.start col w0);replace dg:=dg.keep (Zp.start col w0);replace bx:=bx.keep (Zp.start col w0)
 cases cr with
 | zero=>rw [Zc9.eq_1] at hm;cases hm
 | succ cr=>
  rw [Zc9.eq_2] at hm;refine Zb<|Zb<|Zd<|Zg rfl<|Z9 al 2 underlying27 rfl sizeOf23 isAgg23 ab rfl<|lV _ (Zs underlying23 rfl)<|lV _ (Z4 _ _ rfl rfl)<|Zc ?_;refine Zy _ rfl (fun hb=>?_) (fun hb=>?_)
  ·rw [if_pos hb] at hm;refine Zr<|Zb<|Z0<|Zb<|Zd<|Zu rfl<|Zc<|Zb<|Zd<|Zk rfl<|Z9 al 2 underlying27 rfl sizeOf23 isAgg23 ab rfl<|Zg rfl ?_;obtain ⟨am,b4,hm⟩:=bZ hm;refine lV _ (Zx underlying23 sizeOf22 rfl rfl (Zi b4).1 (Zi b4).2.1 ((df.ks aa).addr b4)) ?_;obtain ⟨_,hd,he⟩:=(df.ks aa).atN b4;obtain ⟨⟨jl,jm,rfl,hf⟩,_⟩:=hd;refine lV _ (Zn isAgg22 rfl he.one) ?_;obtain ⟨f3,hm⟩:=Xd hm;refine Wr (col:=a0) (w:=a4) (r:=Za.str) (c:=9) (c2:=9) (xs:=([]:List ByteArray)) (ys:=am) Zl.nil hf.srcC rfl underlying22 Zd7 rfl rfl rfl f3.1 f3.2 (by decide) ?_;intro jn jo jp hg b5 e5;refine Zu rfl<|Zc<|Zb<|Zd<|Zk rfl<|Wk (col:=hg) (r:=Za.str) (xs:=([⟨#[35,51]⟩,⟨#[35,52]⟩]:List ByteArray)) [.string (⟨#[35,51]⟩),.string (⟨#[35,52]⟩)] 10 rfl underlying22 Zd7 rfl rfl rfl rfl rfl rfl (by intro v hv;simp only [List.mem_cons,List.not_mem_nil,or_false] at hv;rcases hv with rfl | rfl <;> rfl) (Y6.ofF (Rows.consF (r:=Za.str) (x:=⟨#[35,51]⟩) (cs:=[.string (⟨#[35,51]⟩)]) (Us (⟨#[35,51]⟩)) (Rows.consF (r:=Za.str) (x:=⟨#[35,52]⟩) (cs:=[.string (⟨#[35,52]⟩)]) (Us (⟨#[35,52]⟩)) Rows.nil0))) ?_;intro jq hh hi bf hj;obtain ⟨f4,hm⟩:=Xd hm;replace e5:=e5.gr bf;refine Wr (col:=hi) (w:=hh) (r:=Za.str) (c:=9) (c2:=9) (xs:=([]:List ByteArray)++am) (ys:=([⟨#[35,51]⟩,⟨#[35,52]⟩]:List ByteArray)) e5 (hj.srcN NB.str) rfl underlying22 Zd7 rfl rfl rfl f4.1 f4.2 (by decide) ?_;intro d3 d4 hk cx b6 dq;refine Zu rfl<|Zc<|Vn (col:=cx) [(0,1),(1,0),(2,1),(3,1),(4,0),(5,1),(6,1),(7,0),(8,1),(9,1),(10,3),(11,2),(12,1),(13,2)] (by kernel_rfl) (by kernel_rfl)<|xu (v:=(.pointer ((some (⟨ak,0,none⟩:Addr)).map (·.add 2)))) rfl rfl (fun _=>Xn (sz:=1) (off:=2) underlying27 rfl sizeOf23 (by decide) rfl rfl ⟨_,_,rfl⟩) ?_;replace ad:=((ad.kpp b5).gr bf).kpp b6;refine xv rfl rfl (fun _ hC=>Zn isAgg23 rfl (((ad.atN).nth (q:=2) rfl).gr (hC.bl cx))) ?_;refine xu rfl rfl (fun _=>Yr rfl) ?_;refine xu (v:=(.pointer ((some (⟨al,0,none⟩:Addr)).map (·.add 2)))) rfl rfl (fun _=>Xn (sz:=1) (off:=2) underlying27 rfl sizeOf23 (by decide) rfl rfl ⟨_,_,rfl⟩) ?_;replace ab:=((ab.kpp b5).gr bf).kpp b6;refine xv rfl rfl (fun _ hC=>Zn isAgg23 rfl (((ab.atN).nth (q:=2) rfl).gr (hC.bl cx))) ?_;refine xu rfl rfl (fun _=>Xp rfl) ?_;replace aa:=((aa.kpp b5).grow bf).kpp b6;refine xu rfl rfl (fun _=>Zx underlying23 sizeOf22 rfl rfl (Zi b4).1 (Zi b4).2.1 ((df.ks aa).addr b4)) ?_
   obtain ⟨_,hl,ho⟩:=(df.ks aa).atN b4;obtain ⟨⟨jr,js,rfl,jt⟩,_⟩:=hl;refine xv rfl rfl (fun _ hC=>Zn isAgg22 rfl (ho.one.gr (hC.bl cx))) ?_;refine xu rfl rfl (fun _=>Zs underlying22 rfl) ?_;obtain ⟨e6,hm⟩:=Xd hm;refine xu (v:=.slice d3 (Int.toNat (am.length:Int)) d4) rfl rfl (fun _=>Vk underlying22 sizeOf9 rfl rfl e6.1 (by have:=dq.lecap;have:=e6.2;omega)) ?_;refine .ld (d:=58) (v:=(.slice d3 ((((([]:List ByteArray)++am)++([⟨#[35,51]⟩,⟨#[35,52]⟩]:List ByteArray)).take (Int.toNat (am.length:Int))).length) d4)) (congrArg (fun n=>Value.slice d3 n d4) (List.length_take_of_le (show (Int.toNat (am.length:Int))≤((([]:List ByteArray)++am)++([⟨#[35,51]⟩,⟨#[35,52]⟩]:List ByteArray)).length by have:=e6.2;omega)).symm) ?_;refine xe rfl rfl ?_;intro hp hC0;have hC:Zf cx hk cx hp:=.of_below hC0.below;replace ap:=(((ap.kpp b5).gr bf).kpp b6).gr hC;replace ap:=ap.froz 9 (by decide);replace b3:=(((b3.kpp b5).gr bf).kpp b6).gr hC;replace b3:=b3.froz 9 (by decide);replace aq:=(((aq.kpp b5).gr bf).kpp b6).gr hC;replace aq:=aq.froz 9 (by decide);replace ar:=(((ar.kpp b5).gr bf).kpp b6).gr hC;replace ar:=ar.froz 9 (by decide);replace dq:=dq.gr hC;replace dq:=(dq).toSlF Z2.str;replace ab:=ab.gr hC;replace ab:=ab.froz 9 (by decide);replace ae:=(((ae.kpp b5).gr bf).kpp b6).gr hC;replace ae:=ae.froz 9 (by decide);replace ad:=ad.gr hC;replace ad:=ad.froz 9 (by decide);replace aa:=aa.grow hC;replace aa:=aa.froz 9 (by decide) (by decide);refine Wk (col:=(Z3 9 cx)) (r:=(Za.view Za.str)) (xs:=([((Int.toNat (am.length:Int)),(([]:List ByteArray)++am)++([⟨#[35,51]⟩,⟨#[35,52]⟩]:List ByteArray))]:List (Nat×List ByteArray))) [(.slice d3 ((((([]:List ByteArray)++am)++([⟨#[35,51]⟩,⟨#[35,52]⟩]:List ByteArray)).take (Int.toNat (am.length:Int))).length) d4)] 11 rfl underlying23 Zof rfl rfl rfl rfl rfl rfl (by intro v hv;simp only [List.mem_cons,List.not_mem_nil,or_false] at hv;subst hv;rfl) (Y6.ofF (Rows.consF (r:=(Za.view Za.str)) (x:=((Int.toNat (am.length:Int)),(([]:List ByteArray)++am)++([⟨#[35,51]⟩,⟨#[35,52]⟩]:List ByteArray))) (cs:=[(.slice d3 ((((([]:List ByteArray)++am)++([⟨#[35,51]⟩,⟨#[35,52]⟩]:List ByteArray)).take (Int.toNat (am.length:Int))).length) d4)]) (Zih dq) Rows.nil0)) ?_;intro ju f5 d5 bg e7;refine Zc ⟨fun w'=>Zf d5 f5 d5 w',Zf.refl _ _,fun _ _ h=>Yh hC0 bg h,?_⟩;refine xe rfl rfl ?_;intro f6 hC0;have hC:Zf d5 f5 d5 f6:=.of_below hC0.below;obtain ⟨f7,hm⟩:=Xd hm
   replace b3:=(b3.gr bg).gr hC;replace e7:=e7.gr hC;refine Qq (col:=d5) (w:=f6) (r:=(Za.view Za.str)) (c:=6) (c2:=6) (b3.ex) (e7.srcN NB.view) rfl underlying23 Zof rfl rfl rfl f7.1 f7.2 (by decide) ?_;intro e8 e9 f8 a5 cy fa;refine Zc ⟨fun w'=>Zf a5 f8 a5 w',Zf.refl _ _,fun h=>absurd h (by decide),?_⟩;refine xu (v:=(.pointer ((some (⟨ak,0,none⟩:Addr)).map (·.add 2)))) rfl rfl (fun _=>Xn (sz:=1) (off:=2) underlying27 rfl sizeOf23 (by decide) rfl rfl ⟨_,_,rfl⟩) ?_;refine xe rfl rfl ?_;intro hq hC0;replace ap:=((ap.gr bg).gr hC).kpp cy;replace aq:=((aq.gr bg).gr hC).kpp cy;replace ar:=((ar.gr bg).gr hC).kpp cy;replace ab:=((ab.gr bg).gr hC).kpp cy;replace ae:=((ae.gr bg).gr hC).kpp cy;replace ad:=((ad.gr bg).gr hC).kpp cy;replace aa:=((aa.grow bg).grow hC).kpp cy;have hC:Zf a5 f8 a5 hq:=.of_below hC0.below;replace ad:=ad.gr hC;refine V1 (off:=2) (v:=(.slice e8 ((b2++([((Int.toNat (am.length:Int)),(([]:List ByteArray)++am)++([⟨#[35,51]⟩,⟨#[35,52]⟩]:List ByteArray))]:List (Nat×List ByteArray))).length) e9)) ad sizeOf23 rfl rfl (by intro u hu;simp only [Value.cells,List.mem_cons,List.not_mem_nil,or_false] at hu;subst hu;rfl) rfl rfl ?_;intro fb cz hr d6;replace d6:Zt 27 3 a5 fb ak #[.string di,(.slice dj ((co.take (Int.toNat (ac.2.1.length:Int))).length) dk),(.slice e8 ((b2++([((Int.toNat (am.length:Int)),(([]:List ByteArray)++am)++([⟨#[35,51]⟩,⟨#[35,52]⟩]:List ByteArray))]:List (Nat×List ByteArray))).length) e9),.slice dl cp.length dm,.slice dn cq.length dp]:=d6;refine Zc ⟨fun w'=>Zf a5 fb a5 w',Zf.refl _ _,fun h=>absurd h (by decide),?_⟩;replace fa:=(fa.gr hC).kp cz;have fc:=fa.new;refine Ve ?_;replace ap:=(ap.gr hC).kp cz;replace aq:=(aq.gr hC).kp cz;replace ar:=(ar.gr hC).kp cz;replace ab:=(ab.gr hC).kp cz;replace ae:=(ae.gr hC).kp cz;replace aa:=(aa.grow hC).kp cz hr;intro hs hC;replace hC:Zf a5 fb a5 hs:=.of_below hC.below;refine Zd<|Zg rfl<|lV _ (Z5 _ _ rfl rfl)<|Zj rfl<|Zc ?_;replace ap:=ap.gr hC;replace fc:=fc.gr hC;replace aq:=aq.gr hC;replace ar:=ar.gr hC;replace ab:=ab.gr hC;replace ae:=ae.gr hC;replace d6:=d6.gr hC;replace aa:=aa.grow hC
   exact ⟨cr,by omega,⟨a5,di,dj,dk,co,e8,e9,(b2++([((Int.toNat (am.length:Int)),(([]:List ByteArray)++am)++([⟨#[35,51]⟩,⟨#[35,52]⟩]:List ByteArray))]:List (Nat×List ByteArray))),dl,dm,cp,dn,dp,cq,(i64.wrap (er+1)),cr,rfl,hm,aa,ab,ae,ap,fc,aq,ar,d6,rfl,rfl,rfl,rfl,rfl⟩⟩
  rw [if_neg (Zz hb)] at hm;refine Xl (Xk ?_);refine Zb<|Zb<|Zd<|Zj rfl<|Zc<|Z0<|Xi (fun n f a6=>∃ (a1:Zh) (dr:ByteArray) (ds:Option Addr) (dt:Nat) (c0:List ByteArray) (du:Option Addr) (dv:Nat) (c1:List (Nat×List ByteArray)) (es:Option Addr) (et:Nat) (b7:List (Nat×List Int)) (dw:Option Addr) (dx:Nat) (c3:List (Nat×(List ((Bool×(Nat×List Int))×(Nat×List Int))))) (eu:Int) (c4:Nat),c4=n∧Zda N ac c4 dr c0 c1 b7 c3 eu=some r∧St w0 (Zo col) a1 a6∧Zt 27 1 a1 a6 al #[.string ac.1,.slice cg ac.2.1.length ch,.slice ci ac.2.2.1.length cj,.slice ck ac.2.2.2.1.length cl,.slice cm ac.2.2.2.2.length cn]∧Zt 27 2 a1 a6 bz #[.string (⟨#[]⟩),.slice none (([]:List ByteArray).length) 0,.slice none (([]:List (Nat×List ByteArray)).length) 0,.slice none (([]:List (Nat×List Int)).length) 0,(.slice none (([]:List (Nat×(List ((Bool×(Nat×List Int))×(Nat×List Int))))).length) 0)]∧Zl Za.str 9 4 a1 a6 ds dt c0∧Zl (Za.view Za.str) 22 6 a1 a6 du dv c1∧Zl (Za.view (Za.int .i64)) 40 7 a1 a6 es et b7∧Zl (Za.view (Za.pair (Za.pair Za.bool (Za.view (Za.int .u32))) (Za.view (Za.int .u32)))) 56 8 a1 a6 dw dx c3∧Zt 27 3 a1 a6 ak #[.string dr,(.slice ds ((c0.take (Int.toNat (ac.2.1.length:Int))).length) dt),.slice du c1.length dv,.slice es b7.length et,.slice dw c3.length dx]∧f 1=(.pointer (some ⟨al,0,none⟩))∧f 2=(.pointer (some ⟨bz,0,none⟩))∧f 3=(.pointer (some ⟨ak,0,none⟩))∧f 6=(.int .i64 eu)∧f 1000000=(enc [])) N ⟨a0,di,dj,dk,co,ep,eq,b2,dl,dm,cp,dn,dp,cq,0,N,rfl,hm,aa,ab,ae,ap,b3,aq,ar,ad,rfl,rfl,rfl,rfl,rfl⟩ ?_;clear hm;intro n f a6 hI;obtain ⟨a1,dr,ds,dt,c0,du,dv,c1,es,et,b7,dw,dx,c3,eu,c4,hn,hm,aa,ab,ae,au,av,b8,aw,ad,ct,cu,cv,ht,cw⟩:=hI;subst hn;refine .lD 1 ct<|.lD 2 cu<|.lD 3 cv<|.lD 6 ht<|.lD 1000000 cw ?_
  cases c4 with
  | zero=>rw [Zda.eq_1] at hm;cases hm
  | succ c4=>
   rw [Zda.eq_2] at hm;refine Zb<|Zb<|Zd<|Zg rfl<|Z9 al 3 underlying27 rfl sizeOf24 isAgg24 ab rfl<|lV _ (Zs underlying24 rfl)<|lV _ (Z4 _ _ rfl rfl)<|Zc ?_;refine Zy _ rfl (fun hb=>?_) (fun hb=>?_)
   ·rw [if_pos hb] at hm;refine Zr<|Zb<|Z0<|Zb<|Zd<|Zu rfl<|Zc<|Zb<|Zd<|Zk rfl<|Z9 al 3 underlying27 rfl sizeOf24 isAgg24 ab rfl<|Zg rfl ?_;obtain ⟨an,b9,hm⟩:=bZ hm;refine lV _ (Zx underlying24 sizeOf40 rfl rfl (Zi b9).1 (Zi b9).2.1 ((dg.ks aa).addr b9)) ?_;obtain ⟨_,hw,hx⟩:=(dg.ks aa).atN b9;obtain ⟨⟨jv,jw,rfl,hy⟩,_⟩:=hw;refine lV _ (Zn isAgg40 rfl hx.one) ?_;obtain ⟨f9,hm⟩:=Xd hm;refine Wr (col:=a1) (w:=a6) (r:=(Za.int .i64)) (c:=12) (c2:=12) (xs:=([]:List Int)) (ys:=an) Zl.nil hy.srcC rfl underlying40 Zlp rfl rfl rfl f9.1 f9.2 (by decide) ?_;intro jx jy jz hz ca fd;refine Zu rfl<|Zc<|Zb<|Zd<|Zk rfl<|Wk (col:=hz) (r:=(Za.int .i64)) (xs:=[(-95),(-96)]) [.int .i64 (-95),.int .i64 (-96)] 13 rfl underlying40 Zlp rfl rfl rfl rfl rfl rfl (by intro v hv;simp only [List.mem_cons,List.not_mem_nil,or_false] at hv;rcases hv with rfl | rfl <;> rfl) (Y6.ofF (Rows.consF (r:=(Za.int .i64)) (x:=(-95)) (cs:=[.int .i64 (-95)]) (X8 .i64 (-95)) (Rows.consF (r:=(Za.int .i64)) (x:=(-96)) (cs:=[.int .i64 (-96)]) (X8 .i64 (-96)) Rows.nil0))) ?_;intro j0 h0 h1 bh h2;obtain ⟨ga,hm⟩:=Xd hm;replace fd:=fd.gr bh;refine Wr (col:=h1) (w:=h0) (r:=(Za.int .i64)) (c:=12) (c2:=12) (xs:=([]:List Int)++an) (ys:=[(-95),(-96)]) fd (h2.srcN (NB.int (k:=.i64))) rfl underlying40 Zlp rfl rfl rfl ga.1 ga.2 (by decide) ?_;intro d7 d8 h3 c5 cb dy;refine Zu rfl<|Zc<|Vn (col:=c5) [(0,1),(1,0),(2,1),(3,1),(4,0),(5,1),(6,1),(7,0),(8,1),(9,1),(10,3),(11,2),(12,1),(13,2)] (by kernel_rfl) (by kernel_rfl)<|xu (v:=(.pointer ((some (⟨ak,0,none⟩:Addr)).map (·.add 3)))) rfl rfl (fun _=>Xn (sz:=1) (off:=3) underlying27 rfl sizeOf24 (by decide) rfl rfl ⟨_,_,rfl⟩) ?_;replace ad:=((ad.kpp ca).gr bh).kpp cb;refine xv rfl rfl (fun _ hC=>Zn isAgg24 rfl (((ad.atN).nth (q:=3) rfl).gr (hC.bl c5))) ?_;refine xu rfl rfl (fun _=>Yr rfl) ?_;refine xu (v:=(.pointer ((some (⟨al,0,none⟩:Addr)).map (·.add 3)))) rfl rfl (fun _=>Xn (sz:=1) (off:=3) underlying27 rfl sizeOf24 (by decide) rfl rfl ⟨_,_,rfl⟩) ?_;replace ab:=((ab.kpp ca).gr bh).kpp cb;refine xv rfl rfl (fun _ hC=>Zn isAgg24 rfl (((ab.atN).nth (q:=3) rfl).gr (hC.bl c5))) ?_;refine xu rfl rfl (fun _=>Xp rfl) ?_;replace aa:=((aa.kpp ca).grow bh).kpp cb
    refine xu rfl rfl (fun _=>Zx underlying24 sizeOf40 rfl rfl (Zi b9).1 (Zi b9).2.1 ((dg.ks aa).addr b9)) ?_;obtain ⟨_,h4,h5⟩:=(dg.ks aa).atN b9;obtain ⟨⟨j1,j2,rfl,j3⟩,_⟩:=h4;refine xv rfl rfl (fun _ hC=>Zn isAgg40 rfl (h5.one.gr (hC.bl c5))) ?_;refine xu rfl rfl (fun _=>Zs underlying40 rfl) ?_;obtain ⟨fe,hm⟩:=Xd hm;refine xu (v:=.slice d7 (Int.toNat (an.length:Int)) d8) rfl rfl (fun _=>Vk underlying40 sizeOf3 rfl rfl fe.1 (by have:=dy.lecap;have:=fe.2;omega)) ?_;refine .ld (d:=88) (v:=(.slice d7 ((((([]:List Int)++an)++[(-95),(-96)]).take (Int.toNat (an.length:Int))).length) d8)) (congrArg (fun n=>Value.slice d7 n d8) (List.length_take_of_le (show (Int.toNat (an.length:Int))≤((([]:List Int)++an)++[(-95),(-96)]).length by have:=fe.2;omega)).symm) ?_;refine xe rfl rfl ?_;intro h6 hC0;have hC:Zf c5 h3 c5 h6:=.of_below hC0.below;replace au:=(((au.kpp ca).gr bh).kpp cb).gr hC;replace au:=au.froz 12 (by decide);replace av:=(((av.kpp ca).gr bh).kpp cb).gr hC;replace av:=av.froz 12 (by decide);replace b8:=(((b8.kpp ca).gr bh).kpp cb).gr hC;replace b8:=b8.froz 12 (by decide);replace aw:=(((aw.kpp ca).gr bh).kpp cb).gr hC;replace aw:=aw.froz 12 (by decide);replace dy:=dy.gr hC;replace dy:=(dy).toSlF (Z2.int .i64);replace ab:=ab.gr hC;replace ab:=ab.froz 12 (by decide);replace ae:=(((ae.kpp ca).gr bh).kpp cb).gr hC;replace ae:=ae.froz 12 (by decide);replace ad:=ad.gr hC;replace ad:=ad.froz 12 (by decide);replace aa:=aa.grow hC;replace aa:=aa.froz 12 (by decide) (by decide);refine Wk (col:=(Z3 12 c5)) (r:=(Za.view (Za.int .i64))) (xs:=[((Int.toNat (an.length:Int)),(([]:List Int)++an)++[(-95),(-96)])]) [(.slice d7 ((((([]:List Int)++an)++[(-95),(-96)]).take (Int.toNat (an.length:Int))).length) d8)] 14 rfl underlying24 Zol rfl rfl rfl rfl rfl rfl (by intro v hv;simp only [List.mem_cons,List.not_mem_nil,or_false] at hv;subst hv;rfl) (Y6.ofF (Rows.consF (r:=(Za.view (Za.int .i64))) (x:=((Int.toNat (an.length:Int)),(([]:List Int)++an)++[(-95),(-96)])) (cs:=[(.slice d7 ((((([]:List Int)++an)++[(-95),(-96)]).take (Int.toNat (an.length:Int))).length) d8)]) (Zih dy) Rows.nil0)) ?_;intro j4 gb d9 bi ff;refine Zc ⟨fun w'=>Zf d9 gb d9 w',Zf.refl _ _,fun _ _ h=>Yh hC0 bi h,?_⟩;refine xe rfl rfl ?_;intro gc hC0;have hC:Zf d9 gb d9 gc:=.of_below hC0.below;obtain ⟨gd,hm⟩:=Xd hm;replace b8:=(b8.gr bi).gr hC
    replace ff:=ff.gr hC;refine Qq (col:=d9) (w:=gc) (r:=(Za.view (Za.int .i64))) (c:=7) (c2:=7) (b8.ex) (ff.srcN NB.view) rfl underlying24 Zol rfl rfl rfl gd.1 gd.2 (by decide) ?_;intro fg fh ge a7 c6 fi;refine Zc ⟨fun w'=>Zf a7 ge a7 w',Zf.refl _ _,fun h=>absurd h (by decide),?_⟩;refine xu (v:=(.pointer ((some (⟨ak,0,none⟩:Addr)).map (·.add 3)))) rfl rfl (fun _=>Xn (sz:=1) (off:=3) underlying27 rfl sizeOf24 (by decide) rfl rfl ⟨_,_,rfl⟩) ?_;refine xe rfl rfl ?_;intro h7 hC0;replace au:=((au.gr bi).gr hC).kpp c6;replace av:=((av.gr bi).gr hC).kpp c6;replace aw:=((aw.gr bi).gr hC).kpp c6;replace ab:=((ab.gr bi).gr hC).kpp c6;replace ae:=((ae.gr bi).gr hC).kpp c6;replace ad:=((ad.gr bi).gr hC).kpp c6;replace aa:=((aa.grow bi).grow hC).kpp c6;have hC:Zf a7 ge a7 h7:=.of_below hC0.below;replace ad:=ad.gr hC;refine V1 (off:=3) (v:=(.slice fg ((b7++[((Int.toNat (an.length:Int)),(([]:List Int)++an)++[(-95),(-96)])]).length) fh)) ad sizeOf24 rfl rfl (by intro u hu;simp only [Value.cells,List.mem_cons,List.not_mem_nil,or_false] at hu;subst hu;rfl) rfl rfl ?_;intro fj c7 h8 ea;replace ea:Zt 27 3 a7 fj ak #[.string dr,(.slice ds ((c0.take (Int.toNat (ac.2.1.length:Int))).length) dt),.slice du c1.length dv,(.slice fg ((b7++[((Int.toNat (an.length:Int)),(([]:List Int)++an)++[(-95),(-96)])]).length) fh),.slice dw c3.length dx]:=ea;refine Zc ⟨fun w'=>Zf a7 fj a7 w',Zf.refl _ _,fun h=>absurd h (by decide),?_⟩;replace fi:=(fi.gr hC).kp c7;have fk:=fi.new;refine Ve ?_;replace au:=(au.gr hC).kp c7;replace av:=(av.gr hC).kp c7;replace aw:=(aw.gr hC).kp c7;replace ab:=(ab.gr hC).kp c7;replace ae:=(ae.gr hC).kp c7;replace aa:=(aa.grow hC).kp c7 h8;intro h9 hC;replace hC:Zf a7 fj a7 h9:=.of_below hC.below;refine Zd<|Zg rfl<|lV _ (Z5 _ _ rfl rfl)<|Zj rfl<|Zc ?_;replace au:=au.gr hC;replace av:=av.gr hC;replace fk:=fk.gr hC;replace aw:=aw.gr hC;replace ab:=ab.gr hC;replace ae:=ae.gr hC;replace ea:=ea.gr hC;replace aa:=aa.grow hC;exact ⟨c4,by omega,⟨a7,dr,ds,dt,c0,du,dv,c1,fg,fh,(b7++[((Int.toNat (an.length:Int)),(([]:List Int)++an)++[(-95),(-96)])]),dw,dx,c3,(i64.wrap (eu+1)),c4,rfl,hm,aa,ab,ae,au,av,fk,aw,ea,rfl,rfl,rfl,rfl,rfl⟩⟩
   rw [if_neg (Zz hb)] at hm;refine Xl (Xk ?_);refine Zb<|Zb<|Zd<|Zj rfl<|Zc<|Z0<|Xi (fun n f bj=>∃ (a2:Zh) (cc:ByteArray) (bk:Option Addr) (bm:Nat) (a8:List ByteArray) (bn:Option Addr) (bo:Nat) (a9:List (Nat×List ByteArray)) (bp:Option Addr) (bq:Nat) (ba:List (Nat×List Int)) (c8:Option Addr) (c9:Nat) (a3:List (Nat×(List ((Bool×(Nat×List Int))×(Nat×List Int))))) (dz:Int) (cd:Nat),cd=n∧Zbk N ac cd cc a8 a9 ba a3 dz=some r∧St w0 (Zo col) a2 bj∧Zt 27 1 a2 bj al #[.string ac.1,.slice cg ac.2.1.length ch,.slice ci ac.2.2.1.length cj,.slice ck ac.2.2.2.1.length cl,.slice cm ac.2.2.2.2.length cn]∧Zt 27 2 a2 bj bz #[.string (⟨#[]⟩),.slice none (([]:List ByteArray).length) 0,.slice none (([]:List (Nat×List ByteArray)).length) 0,.slice none (([]:List (Nat×List Int)).length) 0,(.slice none (([]:List (Nat×(List ((Bool×(Nat×List Int))×(Nat×List Int))))).length) 0)]∧Zl Za.str 9 4 a2 bj bk bm a8∧Zl (Za.view Za.str) 22 6 a2 bj bn bo a9∧Zl (Za.view (Za.int .i64)) 40 7 a2 bj bp bq ba∧Zl (Za.view (Za.pair (Za.pair Za.bool (Za.view (Za.int .u32))) (Za.view (Za.int .u32)))) 56 8 a2 bj c8 c9 a3∧Zt 27 3 a2 bj ak #[.string cc,(.slice bk ((a8.take (Int.toNat (ac.2.1.length:Int))).length) bm),.slice bn a9.length bo,.slice bp ba.length bq,.slice c8 a3.length c9]∧f 1=(.pointer (some ⟨al,0,none⟩))∧f 2=(.pointer (some ⟨bz,0,none⟩))∧f 3=(.pointer (some ⟨ak,0,none⟩))∧f 8=(.int .i64 dz)∧f 1000000=(enc [])) N ⟨a1,dr,ds,dt,c0,du,dv,c1,es,et,b7,dw,dx,c3,0,N,rfl,hm,aa,ab,ae,au,av,b8,aw,ad,rfl,rfl,rfl,rfl,rfl⟩ ?_;clear hm;intro n f bj hI;obtain ⟨a2,cc,bk,bm,a8,bn,bo,a9,bp,bq,ba,c8,c9,a3,dz,cd,hn,hm,aa,ab,ae,af,ag,ah,aj,ad,ct,cu,cv,fl,cw⟩:=hI;subst hn;refine .lD 1 ct<|.lD 2 cu<|.lD 3 cv<|.lD 8 fl<|.lD 1000000 cw ?_
   cases cd with
   | zero=>rw [Zbk.eq_1] at hm;cases hm
   | succ cd=>
    rw [Zbk.eq_2] at hm;refine Zb<|Zb<|Zd<|Zg rfl<|Z9 al 4 underlying27 rfl sizeOf25 isAgg25 ab rfl<|lV _ (Zs underlying25 rfl)<|lV _ (Z4 _ _ rfl rfl)<|Zc ?_;refine Zy _ rfl (fun hb=>?_) (fun hb=>?_)
    ·rw [if_pos hb] at hm;refine Zr<|Zb<|Z0<|Zb<|Zd<|Zu rfl<|Zc<|Zb<|Zb<|Zd<|Zj rfl<|Zc<|Z0<|Xi (fun n f bb=>∃ (ax:Zh) (ev:Int) (fm:Option Addr) (fn:Nat) (ao:List ((Bool×(Nat×List Int))×(Nat×List Int))) (da:Nat),da=n∧Zdb N ac cc a8 a9 ba a3 dz (Zbk N ac cd) da ev ao=some r∧St w0 (Zo col) ax bb∧Zt 27 1 ax bb al #[.string ac.1,.slice cg ac.2.1.length ch,.slice ci ac.2.2.1.length cj,.slice ck ac.2.2.2.1.length cl,.slice cm ac.2.2.2.2.length cn]∧Zt 27 2 ax bb bz #[.string (⟨#[]⟩),.slice none (([]:List ByteArray).length) 0,.slice none (([]:List (Nat×List ByteArray)).length) 0,.slice none (([]:List (Nat×List Int)).length) 0,(.slice none (([]:List (Nat×(List ((Bool×(Nat×List Int))×(Nat×List Int))))).length) 0)]∧Zl Za.str 9 4 ax bb bk bm a8∧Zl (Za.view Za.str) 22 6 ax bb bn bo a9∧Zl (Za.view (Za.int .i64)) 40 7 ax bb bp bq ba∧Zl (Za.view (Za.pair (Za.pair Za.bool (Za.view (Za.int .u32))) (Za.view (Za.int .u32)))) 56 8 ax bb c8 c9 a3∧Zt 27 3 ax bb ak #[.string cc,(.slice bk ((a8.take (Int.toNat (ac.2.1.length:Int))).length) bm),.slice bn a9.length bo,.slice bp ba.length bq,.slice c8 a3.length c9]∧Zl (Za.pair (Za.pair Za.bool (Za.view (Za.int .u32))) (Za.view (Za.int .u32))) 47 15 ax bb fm fn ao∧f 1=(.pointer (some ⟨al,0,none⟩))∧f 10=(.int .i64 ev)∧f 2=(.pointer (some ⟨bz,0,none⟩))∧f 3=(.pointer (some ⟨ak,0,none⟩))∧f 8=(.int .i64 dz)∧f 9=(.slice fm ao.length fn)∧f 1000000=(enc [])) N ⟨a2,0,none,0,([]:List ((Bool×(Nat×List Int))×(Nat×List Int))),N,rfl,hm,aa,ab,ae,af,ag,ah,aj,ad,Zl.nil,rfl,rfl,rfl,rfl,rfl,rfl,rfl⟩ ?_;clear hm;intro n f bb hI;obtain ⟨ax,ev,fm,fn,ao,da,hn,hm,aa,ab,ae,af,ag,ah,aj,ad,ay,ct,ia,cu,cv,fl,ib,cw⟩:=hI;subst hn;refine .lD 1 ct<|.lD 10 ia<|.lD 2 cu<|.lD 3 cv<|.lD 8 fl<|.lD 9 ib<|.lD 1000000 cw ?_
     cases da with
     | zero=>rw [Zdb.eq_1] at hm;cases hm
     | succ da=>
      rw [Zdb.eq_2] at hm;refine Zb<|Zb<|Zd<|Zg rfl<|Z9 al 4 underlying27 rfl sizeOf25 isAgg25 ab rfl<|Zg rfl ?_;obtain ⟨bc,az,hm⟩:=bZ hm;refine lV _ (Zx underlying25 sizeOf56 rfl rfl (Zi az).1 (Zi az).2.1 ((bx.ks aa).addr az)) ?_;obtain ⟨_,ic,id⟩:=(bx.ks aa).atN az;obtain ⟨⟨j5,j6,rfl,j7⟩,_⟩:=ic;refine lV _ (Zn isAgg56 rfl id.one)<|lV _ (Zs underlying56 rfl)<|lV _ (Z4 _ _ rfl rfl)<|Zc ?_;refine Zy _ rfl (fun hb=>?_) (fun hb=>?_)
      ·rw [if_pos hb] at hm;refine Zr<|Zb<|Z0<|Zd<|Zk rfl<|Z9 al 4 underlying27 rfl sizeOf25 isAgg25 ab rfl<|Zg rfl ?_;refine lV _ (Zx underlying25 sizeOf56 rfl rfl (Zi az).1 (Zi az).2.1 ((bx.ks aa).addr az)) ?_;obtain ⟨_,ie,ig⟩:=(bx.ks aa).atN az;obtain ⟨⟨j8,j9,rfl,gf⟩,_⟩:=ie;refine lV _ (Zn isAgg56 rfl ig.one)<|Zg rfl ?_;obtain ⟨d0,ew,hm⟩:=bZ hm;refine lV _ (Zx underlying56 sizeOf47 rfl rfl (Zi ew).1 (Zi ew).2.1 (gf.addr ew)) ?_;obtain ⟨_,ih,ii⟩:=gf.atN ew;obtain ⟨_,_,rfl,ij,ik⟩:=Wu ih;obtain ⟨_,_,rfl,il,im⟩:=Wu ij;obtain ⟨rfl,_⟩:=il;obtain ⟨⟨gg,gh,rfl,io⟩,_⟩:=im;obtain ⟨⟨gi,gj,rfl,ip⟩,_⟩:=ik;refine lV (.agg #[.bool d0.1.1,.slice gg d0.1.2.length gh,.slice gi d0.2.length gj]) (Wt isAgg47 sizeOf47 rfl rfl ii) ?_;obtain ⟨ai,iq,hm⟩:=bZ hm;refine lc rfl rfl (Z7 call29 rfl) (Zvn ax _ gg gh gi gj ((d0.1.1,d0.1.2),d0.2) io ip ai iq) ?_;rintro _ ka ⟨ir,gk,gl,gm,gn,rfl,br,it,iu⟩;refine ⟨_,rfl,?_⟩;refine Wk (col:=ir) (r:=(Za.pair (Za.pair Za.bool (Za.view (Za.int .u32))) (Za.view (Za.int .u32)))) (xs:=[((ai.1.1,(ai.1.2.1,ai.1.2.2)),(ai.2.1,ai.2.2))]) [(.agg #[.bool ai.1.1,.slice gk ((ai.1.2.2.take ai.1.2.1).length) gl,.slice gm ((ai.2.2.take ai.2.1).length) gn])] 16 rfl underlying56 Zja rfl rfl rfl rfl rfl rfl (by intro v hv;simp only [List.mem_cons,List.not_mem_nil,or_false] at hv;subst hv;rfl) (Y6.ofF (Rows.consF (r:=(Za.pair (Za.pair Za.bool (Za.view (Za.int .u32))) (Za.view (Za.int .u32)))) (x:=((ai.1.1,(ai.1.2.1,ai.1.2.2)),(ai.2.1,ai.2.2))) (cs:=[.bool ai.1.1,.slice gk ((ai.1.2.2.take ai.1.2.1).length) gl,.slice gm ((ai.2.2.take ai.2.1).length) gn]) (T9 (T9 (Zkk ai.1.1) (Zih it)) (Zih iu)) Rows.nil0)) ?_;intro kb iv iw bs ix;obtain ⟨go,hm⟩:=Xd hm;replace ay:=(ay.gr br).gr bs;refine Wr (col:=iw) (w:=iv) (r:=(Za.pair (Za.pair Za.bool (Za.view (Za.int .u32))) (Za.view (Za.int .u32)))) (c:=15) (c2:=15) (xs:=ao) (ys:=[((ai.1.1,(ai.1.2.1,ai.1.2.2)),(ai.2.1,ai.2.2))]) ay (ix.srcN (NB.pair (NB.pair NB.bool NB.view) NB.view)) rfl underlying56 Zja rfl rfl rfl go.1 go.2 (by decide) ?_;intro iy iz kc i0 ce i1;refine Zu rfl<|Zc<|Zd<|Zg rfl<|lV _ (Z5 _ _ rfl rfl)<|Zj rfl<|Zc ?_
       replace af:=((af.gr br).gr bs).kpp ce;replace ag:=((ag.gr br).gr bs).kpp ce;replace ah:=((ah.gr br).gr bs).kpp ce;replace aj:=((aj.gr br).gr bs).kpp ce;replace ab:=((ab.gr br).gr bs).kpp ce;replace ae:=((ae.gr br).gr bs).kpp ce;replace ad:=((ad.gr br).gr bs).kpp ce;replace aa:=((aa.grow br).grow bs).kpp ce;exact ⟨da,by omega,⟨i0,(i64.wrap (ev+1)),iy,iz,(ao++[((ai.1.1,(ai.1.2.1,ai.1.2.2)),(ai.2.1,ai.2.2))]),da,rfl,hm,aa,ab,ae,af,ag,ah,aj,ad,i1,rfl,rfl,rfl,rfl,rfl,rfl,rfl⟩⟩
      rw [if_neg (Zz hb)] at hm;refine Xl (Xk ?_);refine Zb<|Zd<|Zk rfl<|Wk (col:=ax) (r:=(Za.int .u32)) (xs:=[97]) [.int .u32 97] 17 rfl underlying43 Zon rfl rfl rfl rfl rfl rfl (by intro v hv;simp only [List.mem_cons,List.not_mem_nil,or_false] at hv;subst hv;rfl) (Y6.ofF (Rows.consF (r:=(Za.int .u32)) (x:=97) (cs:=[.int .u32 97]) (X8 .u32 97) Rows.nil0)) ?_;intro fo kd i2 bt db;refine lV (.agg #[.bool false,.slice none (([]:List Int).length) 0,.slice fo ([97].length) 1]) (Vi (l:=[_,_]) (qs:=[(0,2),(2,1)]) underlying47 zeroValue47 ⟨rfl,sizeOf45,rfl,sizeOf43,trivial⟩ rfl)<|Wk (col:=i2) (r:=(Za.int .u32)) (xs:=[98]) [.int .u32 98] 18 rfl underlying43 Zon rfl rfl rfl rfl rfl rfl (by intro v hv;simp only [List.mem_cons,List.not_mem_nil,or_false] at hv;subst hv;rfl) (Y6.ofF (Rows.consF (r:=(Za.int .u32)) (x:=98) (cs:=[.int .u32 98]) (X8 .u32 98) Rows.nil0)) ?_;intro fp ke i3 bd eb;refine lV (.agg #[.bool false,.slice none (([]:List Int).length) 0,.slice fp ([98].length) 1]) (Vi (l:=[_,_]) (qs:=[(0,2),(2,1)]) underlying47 zeroValue47 ⟨rfl,sizeOf45,rfl,sizeOf43,trivial⟩ rfl) ?_;replace af:=(af.gr bt).gr bd;replace af:=af.froz 17 (by decide);replace ag:=(ag.gr bt).gr bd;replace ag:=ag.froz 17 (by decide);replace ah:=(ah.gr bt).gr bd;replace ah:=ah.froz 17 (by decide);replace aj:=(aj.gr bt).gr bd;replace aj:=aj.froz 17 (by decide);replace ay:=(ay.gr bt).gr bd;replace ay:=ay.froz 17 (by decide);replace db:=db.gr bd;replace db:=(db).toSlF (Z2.int .u32);replace eb:=eb.froz 17 (by decide);replace ab:=(ab.gr bt).gr bd;replace ab:=ab.froz 17 (by decide);replace ae:=(ae.gr bt).gr bd;replace ae:=ae.froz 17 (by decide);replace ad:=(ad.gr bt).gr bd;replace ad:=ad.froz 17 (by decide);replace aa:=(aa.grow bt).grow bd;replace aa:=aa.froz 17 (by decide) (by decide);replace af:=af.froz 18 (by decide);replace ag:=ag.froz 18 (by decide);replace ah:=ah.froz 18 (by decide);replace aj:=aj.froz 18 (by decide);replace ay:=ay.froz 18 (by decide);replace db:=db.froz 18;replace eb:=(eb).toSlF (Z2.int .u32);replace ab:=ab.froz 18 (by decide);replace ae:=ae.froz 18 (by decide);replace ad:=ad.froz 18 (by decide);replace aa:=aa.froz 18 (by decide) (by decide)
      refine Wk (col:=(Z3 18 (Z3 17 i3))) (r:=(Za.pair (Za.pair Za.bool (Za.view (Za.int .u32))) (Za.view (Za.int .u32)))) (xs:=[((false,(0,([]:List Int))),([97].length,[97])),((false,(0,([]:List Int))),([98].length,[98]))]) [(.agg #[.bool false,.slice none (([]:List Int).length) 0,.slice fo ([97].length) 1]),(.agg #[.bool false,.slice none (([]:List Int).length) 0,.slice fp ([98].length) 1])] 19 rfl underlying56 Zja rfl rfl rfl rfl rfl rfl (by intro v hv;simp only [List.mem_cons,List.not_mem_nil,or_false] at hv;rcases hv with rfl | rfl <;> rfl) (Y6.ofF (Rows.consF (r:=(Za.pair (Za.pair Za.bool (Za.view (Za.int .u32))) (Za.view (Za.int .u32)))) (x:=((false,(0,([]:List Int))),([97].length,[97]))) (cs:=[.bool false,.slice none (([]:List Int).length) 0,.slice fo ([97].length) 1]) (T9 (T9 (Zkk false) Zr7) (Zr9 db)) (Rows.consF (r:=(Za.pair (Za.pair Za.bool (Za.view (Za.int .u32))) (Za.view (Za.int .u32)))) (x:=((false,(0,([]:List Int))),([98].length,[98]))) (cs:=[.bool false,.slice none (([]:List Int).length) 0,.slice fp ([98].length) 1]) (T9 (T9 (Zkk false) Zr7) (Zr9 eb)) Rows.nil0))) ?_;intro kf i4 i5 bu i6;obtain ⟨gp,hm⟩:=Xd hm;replace ay:=ay.gr bu;refine Wr (col:=i5) (w:=i4) (r:=(Za.pair (Za.pair Za.bool (Za.view (Za.int .u32))) (Za.view (Za.int .u32)))) (c:=15) (c2:=15) (xs:=ao) (ys:=[((false,(0,([]:List Int))),([97].length,[97])),((false,(0,([]:List Int))),([98].length,[98]))]) ay (i6.srcN (NB.pair (NB.pair NB.bool NB.view) NB.view)) rfl underlying56 Zja rfl rfl rfl gp.1 gp.2 (by decide) ?_;intro ec ed i7 dc cf d1;refine Zu rfl<|Zc<|Vn (col:=dc) [(0,1),(1,0),(2,1),(3,1),(4,0),(5,1),(6,1),(7,0),(8,1),(9,1),(10,3),(11,2),(12,1),(13,2)] (by kernel_rfl) (by kernel_rfl)<|xu (v:=(.pointer ((some (⟨ak,0,none⟩:Addr)).map (·.add 4)))) rfl rfl (fun _=>Xn (sz:=1) (off:=4) underlying27 rfl sizeOf25 (by decide) rfl rfl ⟨_,_,rfl⟩) ?_;replace ad:=(ad.gr bu).kpp cf;refine xv rfl rfl (fun _ hC=>Zn isAgg25 rfl (((ad.atN).nth (q:=4) rfl).gr (hC.bl dc))) ?_;refine xu rfl rfl (fun _=>Yr rfl) ?_;refine xu (v:=(.pointer ((some (⟨al,0,none⟩:Addr)).map (·.add 4)))) rfl rfl (fun _=>Xn (sz:=1) (off:=4) underlying27 rfl sizeOf25 (by decide) rfl rfl ⟨_,_,rfl⟩) ?_;replace ab:=(ab.gr bu).kpp cf;refine xv rfl rfl (fun _ hC=>Zn isAgg25 rfl (((ab.atN).nth (q:=4) rfl).gr (hC.bl dc))) ?_;refine xu rfl rfl (fun _=>Xp rfl) ?_;replace aa:=(aa.grow bu).kpp cf
      refine xu rfl rfl (fun _=>Zx underlying25 sizeOf56 rfl rfl (Zi az).1 (Zi az).2.1 ((bx.ks aa).addr az)) ?_;obtain ⟨_,i8,i9⟩:=(bx.ks aa).atN az;obtain ⟨⟨kg,kh,rfl,ki⟩,_⟩:=i8;refine xv rfl rfl (fun _ hC=>Zn isAgg56 rfl (i9.one.gr (hC.bl dc))) ?_;refine xu rfl rfl (fun _=>Zs underlying56 rfl) ?_;obtain ⟨fq,hm⟩:=Xd hm;refine xu (v:=.slice ec (Int.toNat (bc.length:Int)) ed) rfl rfl (fun _=>Vk underlying56 sizeOf47 rfl rfl fq.1 (by have:=d1.lecap;have:=fq.2;omega)) ?_;refine .ld (d:=137) (v:=(.slice ec (((ao++[((false,(0,([]:List Int))),([97].length,[97])),((false,(0,([]:List Int))),([98].length,[98]))]).take (Int.toNat (bc.length:Int))).length) ed)) (congrArg (fun n=>Value.slice ec n ed) (List.length_take_of_le (show (Int.toNat (bc.length:Int))≤(ao++[((false,(0,([]:List Int))),([97].length,[97])),((false,(0,([]:List Int))),([98].length,[98]))]).length by have:=fq.2;omega)).symm) ?_;refine xe rfl rfl ?_;intro ja hC0;have hC:Zf dc i7 dc ja:=.of_below hC0.below;replace af:=((af.gr bu).kpp cf).gr hC;replace af:=af.froz 15 (by decide);replace ag:=((ag.gr bu).kpp cf).gr hC;replace ag:=ag.froz 15 (by decide);replace ah:=((ah.gr bu).kpp cf).gr hC;replace ah:=ah.froz 15 (by decide);replace aj:=((aj.gr bu).kpp cf).gr hC;replace aj:=aj.froz 15 (by decide);replace d1:=d1.gr hC;replace d1:=(d1).toSlF (Z2.pair (Z2.pair Z2.bool Z2.view) Z2.view);replace ab:=ab.gr hC;replace ab:=ab.froz 15 (by decide);replace ae:=((ae.gr bu).kpp cf).gr hC;replace ae:=ae.froz 15 (by decide);replace ad:=ad.gr hC;replace ad:=ad.froz 15 (by decide);replace aa:=aa.grow hC;replace aa:=aa.froz 15 (by decide) (by decide)
      refine Wk (col:=(Z3 15 dc)) (r:=(Za.view (Za.pair (Za.pair Za.bool (Za.view (Za.int .u32))) (Za.view (Za.int .u32))))) (xs:=[((Int.toNat (bc.length:Int)),ao++[((false,(0,([]:List Int))),([97].length,[97])),((false,(0,([]:List Int))),([98].length,[98]))])]) [(.slice ec (((ao++[((false,(0,([]:List Int))),([97].length,[97])),((false,(0,([]:List Int))),([98].length,[98]))]).take (Int.toNat (bc.length:Int))).length) ed)] 20 rfl underlying25 Zom rfl rfl rfl rfl rfl rfl (by intro v hv;simp only [List.mem_cons,List.not_mem_nil,or_false] at hv;subst hv;rfl) (Y6.ofF (Rows.consF (r:=(Za.view (Za.pair (Za.pair Za.bool (Za.view (Za.int .u32))) (Za.view (Za.int .u32))))) (x:=((Int.toNat (bc.length:Int)),ao++[((false,(0,([]:List Int))),([97].length,[97])),((false,(0,([]:List Int))),([98].length,[98]))])) (cs:=[(.slice ec (((ao++[((false,(0,([]:List Int))),([97].length,[97])),((false,(0,([]:List Int))),([98].length,[98]))]).take (Int.toNat (bc.length:Int))).length) ed)]) (Zih d1) Rows.nil0)) ?_;intro kj gq ee bv fr;refine Zc ⟨fun w'=>Zf ee gq ee w',Zf.refl _ _,fun _ _ h=>Yh hC0 bv h,?_⟩;refine xe rfl rfl ?_;intro gs hC0;have hC:Zf ee gq ee gs:=.of_below hC0.below;obtain ⟨gt,hm⟩:=Xd hm;replace aj:=(aj.gr bv).gr hC;replace fr:=fr.gr hC;refine Qq (col:=ee) (w:=gs) (r:=(Za.view (Za.pair (Za.pair Za.bool (Za.view (Za.int .u32))) (Za.view (Za.int .u32))))) (c:=8) (c2:=8) (aj.ex) (fr.srcN NB.view) rfl underlying25 Zom rfl rfl rfl gt.1 gt.2 (by decide) ?_;intro fs ft gu be dd fu;refine Zc ⟨fun w'=>Zf be gu be w',Zf.refl _ _,fun h=>absurd h (by decide),?_⟩;refine xu (v:=(.pointer ((some (⟨ak,0,none⟩:Addr)).map (·.add 4)))) rfl rfl (fun _=>Xn (sz:=1) (off:=4) underlying27 rfl sizeOf25 (by decide) rfl rfl ⟨_,_,rfl⟩) ?_;refine xe rfl rfl ?_;intro jb hC0;replace af:=((af.gr bv).gr hC).kpp dd;replace ag:=((ag.gr bv).gr hC).kpp dd;replace ah:=((ah.gr bv).gr hC).kpp dd;replace ab:=((ab.gr bv).gr hC).kpp dd;replace ae:=((ae.gr bv).gr hC).kpp dd;replace ad:=((ad.gr bv).gr hC).kpp dd;replace aa:=((aa.grow bv).grow hC).kpp dd;have hC:Zf be gu be jb:=.of_below hC0.below;replace ad:=ad.gr hC
      refine V1 (off:=4) (v:=(.slice fs ((a3++[((Int.toNat (bc.length:Int)),ao++[((false,(0,([]:List Int))),([97].length,[97])),((false,(0,([]:List Int))),([98].length,[98]))])]).length) ft)) ad sizeOf25 rfl rfl (by intro u hu;simp only [Value.cells,List.mem_cons,List.not_mem_nil,or_false] at hu;subst hu;rfl) rfl rfl ?_;intro fv de jc ef;replace ef:Zt 27 3 be fv ak #[.string cc,(.slice bk ((a8.take (Int.toNat (ac.2.1.length:Int))).length) bm),.slice bn a9.length bo,.slice bp ba.length bq,(.slice fs ((a3++[((Int.toNat (bc.length:Int)),ao++[((false,(0,([]:List Int))),([97].length,[97])),((false,(0,([]:List Int))),([98].length,[98]))])]).length) ft)]:=ef;refine Zc ⟨fun w'=>Zf be fv be w',Zf.refl _ _,fun h=>absurd h (by decide),?_⟩;replace fu:=(fu.gr hC).kp de;have fw:=fu.new;refine Ve ?_;replace af:=(af.gr hC).kp de;replace ag:=(ag.gr hC).kp de;replace ah:=(ah.gr hC).kp de;replace ab:=(ab.gr hC).kp de;replace ae:=(ae.gr hC).kp de;replace aa:=(aa.grow hC).kp de jc;intro jd hC;replace hC:Zf be fv be jd:=.of_below hC.below;refine Zd<|Zg rfl<|lV _ (Z5 _ _ rfl rfl)<|Zj rfl<|Zc ?_;replace af:=af.gr hC;replace ag:=ag.gr hC;replace ah:=ah.gr hC;replace fw:=fw.gr hC;replace ab:=ab.gr hC;replace ae:=ae.gr hC;replace ef:=ef.gr hC;replace aa:=aa.grow hC;exact ⟨cd,by omega,⟨be,cc,bk,bm,a8,bn,bo,a9,bp,bq,ba,fs,ft,(a3++[((Int.toNat (bc.length:Int)),ao++[((false,(0,([]:List Int))),([97].length,[97])),((false,(0,([]:List Int))),([98].length,[98]))])]),(i64.wrap (dz+1)),cd,rfl,hm,aa,ab,ae,af,ag,ah,fw,ef,rfl,rfl,rfl,rfl,rfl⟩⟩
    rw [if_neg (Zz hb)] at hm;refine Xl (Xk ?_);refine Zb<|Zd<|lV _ (Ye isAgg27 sizeOf27 ad)<|Ya #[.string cc,(.slice bk ((a8.take (Int.toNat (ac.2.1.length:Int))).length) bm),.slice bn a9.length bo,.slice bp ba.length bq,.slice c8 a3.length c9] ae sizeOf27 ?_;intro kk eg je bw;refine Zc<|Zq ?_;replace af:=af.kp eg;replace af:=(af).toSlF Z2.str;replace ag:=ag.kp eg;replace ag:=ag.froz 4 (by decide);replace ah:=ah.kp eg;replace ah:=ah.froz 4 (by decide);replace aj:=aj.kp eg;replace aj:=aj.froz 4 (by decide);replace bw:=bw.froz 4 (by decide);replace aa:=aa.kp eg je;replace aa:=aa.froz 4 (by decide) (by decide);replace af:=af.froz 6;replace ag:=(ag).toSlF Z2.view;replace ah:=ah.froz 6 (by decide);replace aj:=aj.froz 6 (by decide);replace bw:=bw.froz 6 (by decide);replace aa:=aa.froz 6 (by decide) (by decide);replace af:=af.froz 7;replace ag:=ag.froz 7;replace ah:=(ah).toSlF Z2.view;replace aj:=aj.froz 7 (by decide);replace bw:=bw.froz 7 (by decide);replace aa:=aa.froz 7 (by decide) (by decide);replace af:=af.froz 8;replace ag:=ag.froz 8;replace ah:=ah.froz 8;replace aj:=(aj).toSlF Z2.view;replace bw:=bw.froz 8 (by decide);replace aa:=aa.froz 8 (by decide) (by decide);cases hm;exact ⟨rfl,_,Wi rfl rfl isAgg27 sizeOf27 rfl rfl bw.atN,Xh w0.heap.size col (Z3 8 (Z3 7 (Z3 6 (Z3 4 a2)))) (fun n=>0),bk,bm,bn,bo,bp,bq,c8,c9,rfl,aa.fin (fun n=>0),aa.finSl (g:=(fun n=>0)) rfl af,aa.finSl (g:=(fun n=>0)) rfl ag,aa.finSl (g:=(fun n=>0)) rfl ah,aa.finSl (g:=(fun n=>0)) rfl aj⟩
def Zh3 (aa:Bool):Option Bool:=
  some aa
def Zdf (N:Nat) (n0:Nat) (aa:List ByteArray) (ac:List ByteArray) (ad:ByteArray) (ae:ByteArray):Nat→Int→Option Bool
  | 0,_=>none
  | af+1,ab=>if (decide (ab<(ac.length:Int)))=true then ((Zv (aa.take n0) ab).bind fun ag=>(Zv ac ab).bind fun ah=>if (!decide (ag=ah))=true then (some false) else ((Zdf N n0 aa ac ad ae af) (i64.wrap (ab+1)))) else (Xb ((0:Int)≤(i64.wrap (((aa.take n0).length:Int)+2))∧(i64.wrap (((aa.take n0).length:Int)+2))≤(aa.length:Int)) ((Zv (aa.take (Int.toNat (i64.wrap (((aa.take n0).length:Int)+2)))) ((aa.take n0).length:Int)).bind fun ai=>if (decide (ai=ad))=true then ((Zv (aa.take (Int.toNat (i64.wrap (((aa.take n0).length:Int)+2)))) (i64.wrap (((aa.take n0).length:Int)+1))).bind fun aj=>Zh3 (decide (aj=ae))) else (Zh3 false)))
termination_by structural x=>x
def Zde (N:Nat) (n0:Nat) (aa:List ByteArray) (ab:List ByteArray) (ac:ByteArray) (ad:ByteArray):Option Bool:=
  if (!decide (((aa.take n0).length:Int)=(ab.length:Int)))=true then (some false) else (Zdf N n0 aa ab ac ad N 0)
theorem Znr (N:Nat) (col:Zh) (w0:World) (a0:Option Addr) (af:Nat) (n0:Nat) (ac:List ByteArray) (a1:Option Addr) (ao:Nat) (ah:List ByteArray) (ai:ByteArray) (ag:ByteArray) (h0:Sl Za.str col w0 a0 af ac) (h1:Sl Za.str col w0 a1 ao ah) (r:Bool) (hm:Zde N n0 ac ah ai ag=some r):
    Calls Tryz.prog 82 #[.slice a0 ((ac.take n0).length) af,.slice a1 ah.length ao,.string ai,.string ag] w0 (fun e w'=>e= .returned ((.bool r))∧Below w0.heap.size w0 w'):=by
 refine Xv 8 (m:=53) func82 rfl rfl rfl rfl rfl ?_;rw [Zde.eq_1] at hm;have ab:=St.start col w0;refine Zb<|Zd<|Xc rfl<|Zc<|Zb<|Zb<|Zd<|Zk rfl<|lV _ (Zs underlying22 rfl)<|Zk rfl<|lV _ (Zs underlying22 rfl)<|lV _ (Yk _ _ rfl rfl)<|Zc ?_;replace h0:=h0.keep (Zp.start col w0);replace h1:=h1.keep (Zp.start col w0);refine Zy _ rfl (fun hb=>?_) (fun hb=>?_)
 ·rw [if_pos hb] at hm;refine Zb<|Zd<|Xc rfl<|Zc<|Zq ?_;cases hm;exact ⟨rfl,rfl,ab.below⟩
 rw [if_neg (Zz hb)] at hm;refine Zr<|Zb<|Zb<|Zd<|Zj rfl<|Zc<|Z0<|Xi (fun n f ap=>∃ (ad:Zh) (aj:Int) (ae:Nat),ae=n∧Zdf N n0 ac ah ai ag ae aj=some r∧St w0 (Zo col) ad ap∧f 0=(.slice a0 ((ac.take n0).length) af)∧f 1=(.slice a1 ah.length ao)∧f 2=(.string ai)∧f 3=(.string ag)∧f 9=(.int .i64 aj)∧f 1000000=(enc [])) N ⟨(Zo col),0,N,rfl,hm,ab,rfl,rfl,rfl,rfl,rfl,rfl⟩ ?_;clear hm;intro n f ap hI;obtain ⟨ad,aj,ae,hn,hm,ab,ay,az,a2,a3,a4,aq⟩:=hI;subst hn;refine .lD 0 ay<|.lD 1 az<|.lD 2 a2<|.lD 3 a3<|.lD 9 a4<|.lD 1000000 aq ?_
 cases ae with
 | zero=>rw [Zdf.eq_1] at hm;cases hm
 | succ ae=>
  rw [Zdf.eq_2] at hm;refine Zb<|Zb<|Zd<|Zg rfl<|Zk rfl<|lV _ (Zs underlying22 rfl)<|lV _ (Z4 _ _ rfl rfl)<|Zc ?_;refine Zy _ rfl (fun hb=>?_) (fun hb=>?_)
  ·rw [if_pos hb] at hm;refine Zr<|Zb<|Z0<|Zb<|W5 (col:=ad) (by kernel_rfl) (by kernel_rfl)<|qv rfl (fun _ hC=>Yr rfl) ?_;refine qv rfl (fun _ hC=>Xp rfl) ?_;obtain ⟨a8,ak,hm⟩:=bZ hm;refine qv rfl (fun _ hC=>Zx underlying22 sizeOf9 rfl rfl (Zi ak).1 (Zi ak).2.1 (((h0.ks ab).take n0).addr ak)) ?_;refine qv rfl (fun _ hC=>Zn isAgg9 rfl ((((h0.ks ab).take n0).gr (hC.bl ad)).atStr ak)) ?_;refine qv rfl (fun _ hC=>Yr rfl) ?_;refine qv rfl (fun _ hC=>Xp rfl) ?_;obtain ⟨a9,al,hm⟩:=bZ hm;refine qv rfl (fun _ hC=>Zx underlying22 sizeOf9 rfl rfl (Zi al).1 (Zi al).2.1 ((h1.ks ab).addr al)) ?_;refine qv rfl (fun _ hC=>Zn isAgg9 rfl (((h1.ks ab).gr (hC.bl ad)).atStr al)) ?_;refine qv rfl (fun _ hC=>Zmc _ _ underlying9 rfl rfl) ?_;refine Y1 ?_;intro a5 hC;replace hC:Zf ad ap ad a5:=.of_below hC.below;replace ab:=ab.grow hC;refine Zy _ rfl (fun hb=>?_) (fun hb=>?_)
   ·rw [if_pos hb] at hm;refine Zb<|Zd<|Xc rfl<|Zc<|Zq ?_;cases hm;exact ⟨rfl,rfl,ab.below⟩
   rw [if_neg (Zz hb)] at hm;refine Zr<|Zd<|Zg rfl<|lV _ (Z5 _ _ rfl rfl)<|Zj rfl<|Zc ?_;exact ⟨ae,by omega,⟨ad,(i64.wrap (aj+1)),ae,rfl,hm,ab,rfl,rfl,rfl,rfl,rfl,rfl⟩⟩
  rw [if_neg (Zz hb)] at hm;refine Xl (Xk ?_);refine Zb<|Zd<|Zk rfl<|Zk rfl<|lV _ (Zs underlying22 rfl)<|lV _ (Z5 _ _ rfl rfl) ?_;obtain ⟨ar,hm⟩:=Xd hm;refine lv (v:=.slice a0 (Int.toNat (i64.wrap (((ac.take n0).length:Int)+2))) af) rfl rfl (Vk underlying22 sizeOf9 rfl rfl ar.1 (by have:=(h0.ks ab).1.2;have:=ar.2;omega))<|.ld (d:=35) (v:=(.slice a0 ((ac.take (Int.toNat (i64.wrap (((ac.take n0).length:Int)+2)))).length) af)) (congrArg (fun n=>Value.slice a0 n af) (List.length_take_of_le (show (Int.toNat (i64.wrap (((ac.take n0).length:Int)+2)))≤ac.length by have:=ar.2;omega)).symm) ?_;refine Zu rfl<|Zc<|Zb ?_;refine Wp.cut (fun f av=>∃ (aw:Zh) (au:Bool),Zh3 au=some r∧St w0 (Zo col) aw av∧f 8=(.bool au)∧f 1000000=(enc [])) ?_ ?_
  ·intro f av hJ;obtain ⟨aw,au,hm,ab,a6,aq⟩:=hJ;rw [Zh3.eq_1] at hm;refine .lD 8 a6<|.lD 1000000 aq<|Zq ?_;cases hm;exact ⟨rfl,rfl,ab.below⟩
  refine Zd<|Zk rfl<|Zk rfl<|lV _ (Zs underlying22 rfl) ?_;obtain ⟨a7,am,hm⟩:=bZ hm;refine lV _ (Zx underlying22 sizeOf9 rfl rfl (Zi am).1 (Zi am).2.1 (((h0.ks ab).take (Int.toNat (i64.wrap (((ac.take n0).length:Int)+2)))).addr am)) ?_;refine lV _ (Zn isAgg9 rfl (((h0.ks ab).take (Int.toNat (i64.wrap (((ac.take n0).length:Int)+2)))).atStr am))<|Td rfl<|lV _ (Su _ _ underlying9 rfl rfl)<|Xf rfl ?_;by_cases aa:(decide (a7=ai))=true
  ·rw [if_pos aa] at hm;refine lG 43 rfl (gq aa)<|Zk rfl<|lG 43 rfl (gq aa)<|Zk rfl<|lG 43 rfl (gq aa)<|lV _ (Zs underlying22 rfl)<|lG 43 rfl (gq aa)<|lV _ (Z5 _ _ rfl rfl)<|lG 43 rfl (gq aa) ?_;obtain ⟨ax,an,hm⟩:=bZ hm;refine lV _ (Zx underlying22 sizeOf9 rfl rfl (Zi an).1 (Zi an).2.1 (((h0.ks ab).take (Int.toNat (i64.wrap (((ac.take n0).length:Int)+2)))).addr an)) ?_;refine lG 43 rfl (gq aa)<|lV _ (Zn isAgg9 rfl (((h0.ks ab).take (Int.toNat (i64.wrap (((ac.take n0).length:Int)+2)))).atStr an))<|lG 43 rfl (gq aa)<|Td rfl<|lG 43 rfl (gq aa)<|lV _ (Su _ _ underlying9 rfl rfl)<|lV (.bool (decide (ax=ag))) (Xm (congrArg Value.bool aa) rfl)<|Xc rfl<|Zc ?_;exact ⟨ad,(decide (ax=ag)),hm,ab,rfl,rfl⟩
  rw [if_neg aa] at hm;replace aa:=Bool.eq_false_iff.2 aa;refine lP 43 rfl (gq aa)<|lP 43 rfl (gq aa)<|lP 43 rfl (gq aa)<|lP 43 rfl (gq aa)<|lP 43 rfl (gq aa)<|lP 43 rfl (gq aa)<|lP 43 rfl (gq aa)<|lP 43 rfl (gq aa)<|lV (.bool false) (Xr (congrArg Value.bool aa) rfl)<|Xc rfl<|Zc ?_;exact ⟨ad,false,hm,ab,rfl,rfl⟩
def Zdd (N:Nat) (ab:((Bool×List Int)×List Int)) (ac:((Bool×List Int)×List Int)):Nat→Int→Option Bool
  | 0,_=>none
  | ad+1,aa=>if (decide (aa<(ab.1.2.length:Int)))=true then ((Zv ab.1.2 aa).bind fun ae=>(Zv ac.1.2 aa).bind fun af=>if (!decide (ae=af))=true then (some false) else ((Zdd N ab ac ad) (i64.wrap (aa+1)))) else (some true)
termination_by structural x=>x
def Zdc (N:Nat) (aa:((Bool×List Int)×List Int)) (ac:((Bool×List Int)×List Int)):Nat→Int→Option Bool
  | 0,_=>none
  | ad+1,ab=>if (decide (ab<(aa.2.length:Int)))=true then ((Zv aa.2 ab).bind fun ae=>(Zv ac.2 ab).bind fun af=>if (!decide (ae=af))=true then (some false) else ((Zdc N aa ac ad) (i64.wrap (ab+1)))) else (Zdd N aa ac N 0)
termination_by structural x=>x
def Zgc (N:Nat) (aa:((Bool×List Int)×List Int)) (ab:((Bool×List Int)×List Int)) (ac:Bool):Option Bool:=
  if ac=true then (some false) else (Zdc N aa ab N 0)
def Zgb (N:Nat) (aa:((Bool×List Int)×List Int)) (ab:((Bool×List Int)×List Int)):Option Bool:=
  if (!decide (aa.1.1=ab.1.1))=true then (Zgc N aa ab true) else (if (!decide ((aa.1.2.length:Int)=(ab.1.2.length:Int)))=true then (Zgc N aa ab true) else (Zgc N aa ab (!decide ((aa.2.length:Int)=(ab.2.length:Int)))))
theorem Zvq (N:Nat) (col:Zh) (w0:World) (an:Option Addr) (ao:Nat) (ap:Option Addr) (aq:Nat) (ac:((Bool×List Int)×List Int)) (ar:Option Addr) (au:Nat) (av:Option Addr) (aw:Nat) (ad:((Bool×List Int)×List Int)) (a3:Sl (Za.int .u32) col w0 an ao ac.1.2) (a4:Sl (Za.int .u32) col w0 ap aq ac.2) (a5:Sl (Za.int .u32) col w0 ar au ad.1.2) (a6:Sl (Za.int .u32) col w0 av aw ad.2) (r:Bool) (hm:Zgb N ac ad=some r):
    Calls Tryz.prog 25 #[(.agg #[.bool ac.1.1,.slice an ac.1.2.length ao,.slice ap ac.2.length aq]),(.agg #[.bool ad.1.1,.slice ar ad.1.2.length au,.slice av ad.2.length aw])] w0 (fun e w'=>e= .returned ((.bool r))∧Below w0.heap.size w0 w'):=by
 refine Xv 4 (m:=73) func25 rfl rfl rfl rfl rfl ?_;rw [Zgb.eq_1] at hm;have aa:=St.start col w0;refine Zb<|Zd<|X3 (col:=(Zo col)) 1 rfl ?_;intro ah bp bh bi ae;refine X3 (col:=bh) 2 rfl ?_;intro ai bq be bg ag;refine Xc rfl<|Zc<|Zb<|Zb ?_;replace a3:=a3.keep (Zp.start col w0);replace a4:=a4.keep (Zp.start col w0);replace a5:=a5.keep (Zp.start col w0);replace a6:=a6.keep (Zp.start col w0);replace aa:=(aa.grow bi).grow bg;replace ae:=ae.gr bg;refine Wp.cut (fun f a7=>∃ (ax:Zh) (bf:Bool),Zgc N ac ad bf=some r∧St w0 (Zo col) ax a7∧Zt 47 1 ax a7 ah #[.bool ac.1.1,.slice an ac.1.2.length ao,.slice ap ac.2.length aq]∧Zt 47 2 ax a7 ai #[.bool ad.1.1,.slice ar ad.1.2.length au,.slice av ad.2.length aw]∧f 2=(.pointer (some ⟨ah,0,none⟩))∧f 3=(.pointer (some ⟨ai,0,none⟩))∧f 33=(.bool bf)∧f 1000000=(enc [])) ?_ ?_
 ·intro f a7 hJ;obtain ⟨ax,bf,hm,aa,ae,ag,ay,az,bj,a0⟩:=hJ;rw [Zgc.eq_1] at hm;refine .lD 2 ay<|.lD 3 az<|.lD 33 bj<|.lD 1000000 a0 ?_;refine Zy _ rfl (fun hb=>?_) (fun hb=>?_)
  ·rw [if_pos hb] at hm;refine Zb<|Zd<|Xc rfl<|Zc<|Zq ?_;cases hm;exact ⟨rfl,rfl,aa.below⟩
  rw [if_neg (Zz hb)] at hm;refine Zr<|Zb<|Zb<|Zd<|Zj rfl<|Zc<|Z0<|Xi (fun n f a1=>∃ (aj:Zh) (a8:Int) (al:Nat),al=n∧Zdc N ac ad al a8=some r∧St w0 (Zo col) aj a1∧Zt 47 1 aj a1 ah #[.bool ac.1.1,.slice an ac.1.2.length ao,.slice ap ac.2.length aq]∧Zt 47 2 aj a1 ai #[.bool ad.1.1,.slice ar ad.1.2.length au,.slice av ad.2.length aw]∧f 2=(.pointer (some ⟨ah,0,none⟩))∧f 3=(.pointer (some ⟨ai,0,none⟩))∧f 5=(.int .i64 a8)∧f 1000000=(enc [])) N ⟨ax,0,N,rfl,hm,aa,ae,ag,rfl,rfl,rfl,rfl⟩ ?_;clear hm;intro n f a1 hI;obtain ⟨aj,a8,al,hn,hm,aa,ae,ag,ay,az,bk,a0⟩:=hI;subst hn;refine .lD 2 ay<|.lD 3 az<|.lD 5 bk<|.lD 1000000 a0 ?_
  cases al with
  | zero=>rw [Zdc.eq_1] at hm;cases hm
  | succ al=>
   rw [Zdc.eq_2] at hm;refine Zb<|Zb<|Zd<|Zg rfl<|Z9 ah 2 underlying47 rfl sizeOf43 isAgg43 ae rfl<|lV _ (Zs underlying43 rfl)<|lV _ (Z4 _ _ rfl rfl)<|Zc ?_;refine Zy _ rfl (fun hb=>?_) (fun hb=>?_)
   ·rw [if_pos hb] at hm;refine Zr<|Zb<|Z0<|Zb<|W5 (col:=aj) (by kernel_rfl) (by kernel_rfl)<|qv (v:=(.pointer ((some (⟨ah,0,none⟩:Addr)).map (·.add 2)))) rfl (fun _ hC=>Xn (sz:=1) (off:=2) underlying47 rfl sizeOf43 (by decide) rfl rfl ⟨_,_,rfl⟩) ?_;refine qv rfl (fun _ hC=>Zn isAgg43 rfl (((ae.atN).nth (q:=2) rfl).gr (hC.bl aj))) ?_;refine qv rfl (fun _ hC=>Xp rfl) ?_;obtain ⟨br,a9,hm⟩:=bZ hm;refine qv rfl (fun _ hC=>Zx underlying43 sizeOf79 rfl rfl (Zi a9).1 (Zi a9).2.1 ((a4.ks aa).addr a9)) ?_;refine qv rfl (fun _ hC=>Zn isAgg79 rfl (((a4.ks aa).gr (hC.bl aj)).atInt a9)) ?_;refine qv (v:=(.pointer ((some (⟨ai,0,none⟩:Addr)).map (·.add 2)))) rfl (fun _ hC=>Xn (sz:=1) (off:=2) underlying47 rfl sizeOf43 (by decide) rfl rfl ⟨_,_,rfl⟩) ?_;refine qv rfl (fun _ hC=>Zn isAgg43 rfl (((ag.atN).nth (q:=2) rfl).gr (hC.bl aj))) ?_;refine qv rfl (fun _ hC=>Xp rfl) ?_;obtain ⟨bs,ba,hm⟩:=bZ hm;refine qv rfl (fun _ hC=>Zx underlying43 sizeOf79 rfl rfl (Zi ba).1 (Zi ba).2.1 ((a6.ks aa).addr ba)) ?_;refine qv rfl (fun _ hC=>Zn isAgg79 rfl (((a6.ks aa).gr (hC.bl aj)).atInt ba)) ?_;refine qv rfl (fun _ hC=>Yk _ _ rfl rfl) ?_;refine Y1 ?_;intro bm hC;replace hC:Zf aj a1 aj bm:=.of_below hC.below;replace ae:=ae.gr hC;replace ag:=ag.gr hC;replace aa:=aa.grow hC;refine Zy _ rfl (fun hb=>?_) (fun hb=>?_)
    ·rw [if_pos hb] at hm;refine Zb<|Zd<|Xc rfl<|Zc<|Zq ?_;cases hm;exact ⟨rfl,rfl,aa.below⟩
    rw [if_neg (Zz hb)] at hm;refine Zr<|Zd<|Zg rfl<|lV _ (Z5 _ _ rfl rfl)<|Zj rfl<|Zc ?_;exact ⟨al,by omega,⟨aj,(i64.wrap (a8+1)),al,rfl,hm,aa,ae,ag,rfl,rfl,rfl,rfl⟩⟩
   rw [if_neg (Zz hb)] at hm;refine Xl (Xk ?_);refine Zb<|Zb<|Zd<|Zj rfl<|Zc<|Z0<|Xi (fun n f a2=>∃ (ak:Zh) (bb:Int) (am:Nat),am=n∧Zdd N ac ad am bb=some r∧St w0 (Zo col) ak a2∧Zt 47 1 ak a2 ah #[.bool ac.1.1,.slice an ac.1.2.length ao,.slice ap ac.2.length aq]∧Zt 47 2 ak a2 ai #[.bool ad.1.1,.slice ar ad.1.2.length au,.slice av ad.2.length aw]∧f 2=(.pointer (some ⟨ah,0,none⟩))∧f 3=(.pointer (some ⟨ai,0,none⟩))∧f 6=(.int .i64 bb)∧f 1000000=(enc [])) N ⟨aj,0,N,rfl,hm,aa,ae,ag,rfl,rfl,rfl,rfl⟩ ?_;clear hm;intro n f a2 hI;obtain ⟨ak,bb,am,hn,hm,aa,ae,ag,ay,az,bn,a0⟩:=hI;subst hn;refine .lD 2 ay<|.lD 3 az<|.lD 6 bn<|.lD 1000000 a0 ?_
   cases am with
   | zero=>rw [Zdd.eq_1] at hm;cases hm
   | succ am=>
    rw [Zdd.eq_2] at hm;refine Zb<|Zb<|Zd<|Zg rfl<|lF ah 0 underlying47 rfl sizeOf45<|lv (v:=(.pointer (((some (⟨ah,0,none⟩:Addr)).map (·.add 0)).map (·.add 1)))) rfl rfl (Xn (sz:=1) (off:=1) underlying45 rfl sizeOf43 (by decide) rfl rfl (Vd ⟨_,_,rfl⟩))<|lV _ (Zn isAgg43 rfl ((((ae.atN).part 0 2 _ rfl)).nth (q:=1) rfl))<|lV _ (Zs underlying43 rfl)<|lV _ (Z4 _ _ rfl rfl)<|Zc ?_;refine Zy _ rfl (fun hb=>?_) (fun hb=>?_)
    ·rw [if_pos hb] at hm;refine Zr<|Zb<|Z0<|Zb<|W5 (col:=ak) (by kernel_rfl) (by kernel_rfl)<|qv (v:=(.pointer ((some (⟨ah,0,none⟩:Addr)).map (·.add 0)))) rfl (fun _ hC=>Xn (sz:=2) (off:=0) underlying47 rfl sizeOf45 (by decide) rfl rfl ⟨_,_,rfl⟩) ?_;refine qv (v:=(.pointer (((some (⟨ah,0,none⟩:Addr)).map (·.add 0)).map (·.add 1)))) rfl (fun _ hC=>Xn (sz:=1) (off:=1) underlying45 rfl sizeOf43 (by decide) rfl rfl (Vd ⟨_,_,rfl⟩)) ?_;refine qv rfl (fun _ hC=>Zn isAgg43 rfl (((((ae.atN).part 0 2 _ rfl)).nth (q:=1) rfl).gr (hC.bl ak))) ?_;refine qv rfl (fun _ hC=>Xp rfl) ?_;obtain ⟨bt,bc,hm⟩:=bZ hm;refine qv rfl (fun _ hC=>Zx underlying43 sizeOf79 rfl rfl (Zi bc).1 (Zi bc).2.1 ((a3.ks aa).addr bc)) ?_;refine qv rfl (fun _ hC=>Zn isAgg79 rfl (((a3.ks aa).gr (hC.bl ak)).atInt bc)) ?_;refine qv (v:=(.pointer ((some (⟨ai,0,none⟩:Addr)).map (·.add 0)))) rfl (fun _ hC=>Xn (sz:=2) (off:=0) underlying47 rfl sizeOf45 (by decide) rfl rfl ⟨_,_,rfl⟩) ?_;refine qv (v:=(.pointer (((some (⟨ai,0,none⟩:Addr)).map (·.add 0)).map (·.add 1)))) rfl (fun _ hC=>Xn (sz:=1) (off:=1) underlying45 rfl sizeOf43 (by decide) rfl rfl (Vd ⟨_,_,rfl⟩)) ?_;refine qv rfl (fun _ hC=>Zn isAgg43 rfl (((((ag.atN).part 0 2 _ rfl)).nth (q:=1) rfl).gr (hC.bl ak))) ?_;refine qv rfl (fun _ hC=>Xp rfl) ?_;obtain ⟨bu,bd,hm⟩:=bZ hm;refine qv rfl (fun _ hC=>Zx underlying43 sizeOf79 rfl rfl (Zi bd).1 (Zi bd).2.1 ((a5.ks aa).addr bd)) ?_;refine qv rfl (fun _ hC=>Zn isAgg79 rfl (((a5.ks aa).gr (hC.bl ak)).atInt bd)) ?_;refine qv rfl (fun _ hC=>Yk _ _ rfl rfl) ?_;refine Y1 ?_;intro bo hC;replace hC:Zf ak a2 ak bo:=.of_below hC.below;replace ae:=ae.gr hC;replace ag:=ag.gr hC;replace aa:=aa.grow hC;refine Zy _ rfl (fun hb=>?_) (fun hb=>?_)
     ·rw [if_pos hb] at hm;refine Zb<|Zd<|Xc rfl<|Zc<|Zq ?_;cases hm;exact ⟨rfl,rfl,aa.below⟩
     rw [if_neg (Zz hb)] at hm;refine Zr<|Zd<|Zg rfl<|lV _ (Z5 _ _ rfl rfl)<|Zj rfl<|Zc ?_;exact ⟨am,by omega,⟨ak,(i64.wrap (bb+1)),am,rfl,hm,aa,ae,ag,rfl,rfl,rfl,rfl⟩⟩
    rw [if_neg (Zz hb)] at hm;refine Xl (Xk ?_);refine Zb<|Zd<|Xc rfl<|Zc<|Zq ?_;cases hm;exact ⟨rfl,rfl,aa.below⟩
 refine Zd<|lF ah 0 underlying47 rfl sizeOf45<|lv (v:=(.pointer (((some (⟨ah,0,none⟩:Addr)).map (·.add 0)).map (·.add 0)))) rfl rfl (Xn (sz:=1) (off:=0) underlying45 rfl sizeOf4 (by decide) rfl rfl (Vd ⟨_,_,rfl⟩))<|lV _ (Zn isAgg4 rfl ((((ae.atN).part 0 2 _ rfl)).nth (q:=0) rfl))<|lF ai 0 underlying47 rfl sizeOf45<|lv (v:=(.pointer (((some (⟨ai,0,none⟩:Addr)).map (·.add 0)).map (·.add 0)))) rfl rfl (Xn (sz:=1) (off:=0) underlying45 rfl sizeOf4 (by decide) rfl rfl (Vd ⟨_,_,rfl⟩))<|lV _ (Zn isAgg4 rfl ((((ag.atN).part 0 2 _ rfl)).nth (q:=0) rfl))<|lV _ (Zif _ _ underlying4 rfl rfl)<|Xf rfl ?_;by_cases ab:(!decide (ac.1.1=ad.1.1))=true
 ·rw [if_pos ab] at hm;refine lP 14 rfl (by rw [ab];rfl)<|lP 14 rfl (by rw [ab];rfl)<|lP 14 rfl (by rw [ab];rfl)<|lP 14 rfl (by rw [ab];rfl)<|lP 14 rfl (by rw [ab];rfl)<|lP 14 rfl (by rw [ab];rfl)<|lP 14 rfl (by rw [ab];rfl)<|lP 14 rfl (by rw [ab];rfl)<|lP 14 rfl (by rw [ab];rfl)<|lV (.bool true) (Xm (congrArg Value.bool ab) rfl)<|Xf rfl<|lP 25 rfl rfl<|lP 25 rfl rfl<|lP 25 rfl rfl<|lP 25 rfl rfl<|lP 25 rfl rfl<|lP 25 rfl rfl<|lP 25 rfl rfl<|lV (.bool true) (Xm rfl rfl)<|Zc ?_;exact ⟨be,true,hm,aa,ae,ag,rfl,rfl,rfl,rfl⟩
 rw [if_neg ab] at hm;replace ab:=Bool.eq_false_iff.2 ab;refine lG 14 rfl (by rw [ab];rfl)<|lF ah 0 underlying47 rfl sizeOf45<|lG 14 rfl (by rw [ab];rfl)<|lv (v:=(.pointer (((some (⟨ah,0,none⟩:Addr)).map (·.add 0)).map (·.add 1)))) rfl rfl (Xn (sz:=1) (off:=1) underlying45 rfl sizeOf43 (by decide) rfl rfl (Vd ⟨_,_,rfl⟩))<|lG 14 rfl (by rw [ab];rfl)<|lV _ (Zn isAgg43 rfl ((((ae.atN).part 0 2 _ rfl)).nth (q:=1) rfl))<|lG 14 rfl (by rw [ab];rfl)<|lV _ (Zs underlying43 rfl)<|lG 14 rfl (by rw [ab];rfl)<|lF ai 0 underlying47 rfl sizeOf45<|lG 14 rfl (by rw [ab];rfl)<|lv (v:=(.pointer (((some (⟨ai,0,none⟩:Addr)).map (·.add 0)).map (·.add 1)))) rfl rfl (Xn (sz:=1) (off:=1) underlying45 rfl sizeOf43 (by decide) rfl rfl (Vd ⟨_,_,rfl⟩))<|lG 14 rfl (by rw [ab];rfl)<|lV _ (Zn isAgg43 rfl ((((ag.atN).part 0 2 _ rfl)).nth (q:=1) rfl))<|lG 14 rfl (by rw [ab];rfl)<|lV _ (Zs underlying43 rfl)<|lG 14 rfl (by rw [ab];rfl)<|lV _ (Yk _ _ rfl rfl)<|lV (.bool (!decide ((ac.1.2.length:Int)=(ad.1.2.length:Int)))) (Xr (congrArg Value.bool ab) rfl)<|Xf rfl ?_;by_cases af:(!decide ((ac.1.2.length:Int)=(ad.1.2.length:Int)))=true
 ·rw [if_pos af] at hm;refine lP 25 rfl (by rw [af];rfl)<|lP 25 rfl (by rw [af];rfl)<|lP 25 rfl (by rw [af];rfl)<|lP 25 rfl (by rw [af];rfl)<|lP 25 rfl (by rw [af];rfl)<|lP 25 rfl (by rw [af];rfl)<|lP 25 rfl (by rw [af];rfl)<|lV (.bool true) (Xm (congrArg Value.bool af) rfl)<|Zc ?_;exact ⟨be,true,hm,aa,ae,ag,rfl,rfl,rfl,rfl⟩
 rw [if_neg af] at hm;replace af:=Bool.eq_false_iff.2 af;refine lG 25 rfl (by rw [af];rfl)<|lF ah 2 underlying47 rfl sizeOf43<|lG 25 rfl (by rw [af];rfl)<|lV _ (Zn isAgg43 rfl ((ae.atN).nth (q:=2) rfl))<|lG 25 rfl (by rw [af];rfl)<|lV _ (Zs underlying43 rfl)<|lG 25 rfl (by rw [af];rfl)<|lF ai 2 underlying47 rfl sizeOf43<|lG 25 rfl (by rw [af];rfl)<|lV _ (Zn isAgg43 rfl ((ag.atN).nth (q:=2) rfl))<|lG 25 rfl (by rw [af];rfl)<|lV _ (Zs underlying43 rfl)<|lG 25 rfl (by rw [af];rfl)<|lV _ (Yk _ _ rfl rfl)<|lV (.bool (!decide ((ac.2.length:Int)=(ad.2.length:Int)))) (Xr (congrArg Value.bool af) rfl)<|Zc ?_;exact ⟨be,(!decide ((ac.2.length:Int)=(ad.2.length:Int))),hm,aa,ae,ag,rfl,rfl,rfl,rfl⟩
def Zh2 (aa:Int) (kk_L2:(Int→Option Bool)) (ab:Bool):Option Bool:=
  if ab=true then (some false) else (kk_L2 (i64.wrap (aa+1)))
def Zc8 (N:Nat) (ad:(ByteArray×(Nat×List ByteArray)×(List (Nat×List ByteArray))×(List (Nat×List Int))×(List (Nat×(List ((Bool×(Nat×List Int))×(Nat×List Int))))))) (af:(ByteArray×List ByteArray×(List (List ByteArray))×(List (List Int))×(List (List ((Bool×List Int)×List Int))))) (ab:Int) (kk_L2:(Int→Option Bool)) (aa:List Int):Nat→Int→Option Bool
  | 0,_=>none
  | ah+1,ac=>if (decide (ac<(aa.length:Int)))=true then ((Zv ad.2.2.2.1 ab).bind fun ag=>(Zv (ag.2.take ag.1) ac).bind fun ai=>(Zv af.2.2.2.1 ab).bind fun aj=>(Zv aj ac).bind fun ak=>if (!decide (ai=ak))=true then (some false) else ((Zc8 N ad af ab kk_L2 aa ah) (i64.wrap (ac+1)))) else ((Zv ad.2.2.2.1 ab).bind fun ae=>Xb ((0:Int)≤(i64.wrap ((aa.length:Int)+2))∧(i64.wrap ((aa.length:Int)+2))≤(ae.2.length:Int)) ((Zv (ae.2.take (Int.toNat (i64.wrap ((aa.length:Int)+2)))) (aa.length:Int)).bind fun al=>if (!decide (al=(-95)))=true then (Zh2 ab kk_L2 true) else ((Zv (ae.2.take (Int.toNat (i64.wrap ((aa.length:Int)+2)))) (i64.wrap ((aa.length:Int)+1))).bind fun am=>Zh2 ab kk_L2 (!decide (am=(-96))))))
termination_by structural x=>x
def Zbj (aa:Int) (kk_L5:(Int→Option Bool)) (ab:Bool):Option Bool:=
  if ab=true then (some false) else (kk_L5 (i64.wrap (aa+1)))
def Zc6 (aa:Int) (kk_L4:(Int→Option Bool)) (ab:Bool):Option Bool:=
  if ab=true then (some false) else (kk_L4 (i64.wrap (aa+1)))
def T0 (N:Nat) (ae:(ByteArray×(Nat×List ByteArray)×(List (Nat×List ByteArray))×(List (Nat×List Int))×(List (Nat×(List ((Bool×(Nat×List Int))×(Nat×List Int))))))) (af:(ByteArray×List ByteArray×(List (List ByteArray))×(List (List Int))×(List (List ((Bool×List Int)×List Int))))) (ab:Int) (kk_L4:(Int→Option Bool)) (ac:(List ((Bool×List Int)×List Int))):Nat→Int→Option Bool
  | 0,_=>none
  | ag+1,ad=>if (decide (ad<(ac.length:Int)))=true then ((Zv ae.2.2.2.2 ab).bind fun al=>(Zv (al.2.take al.1) ad).bind fun aa=>Xb ((0:Int)≤(i64.wrap (((aa.1.2.2.take aa.1.2.1).length:Int)+2))∧(i64.wrap (((aa.1.2.2.take aa.1.2.1).length:Int)+2))≤(aa.1.2.2.length:Int)) (Xb ((0:Int)≤(i64.wrap (((aa.2.2.take aa.2.1).length:Int)+2))∧(i64.wrap (((aa.2.2.take aa.2.1).length:Int)+2))≤(aa.2.2.length:Int)) ((Zv af.2.2.2.2 ab).bind fun am=>(Zv am ad).bind fun aj=>(Zgb N ((aa.1.1,aa.1.2.2.take aa.1.2.1),aa.2.2.take aa.2.1) ((aj.1.1,aj.1.2),aj.2)).bind fun an=>if (!an)=true then (Zbj ad (T0 N ae af ab kk_L4 ac ag) true) else ((Zv (aa.1.2.2.take (Int.toNat (i64.wrap (((aa.1.2.2.take aa.1.2.1).length:Int)+2)))) (i64.wrap (((aa.1.2.2.take (Int.toNat (i64.wrap (((aa.1.2.2.take aa.1.2.1).length:Int)+2)))).length:Int) - 1))).bind fun ao=>if (!decide (ao=902))=true then (Zbj ad (T0 N ae af ab kk_L4 ac ag) true) else ((Zv (aa.1.2.2.take (Int.toNat (i64.wrap (((aa.1.2.2.take aa.1.2.1).length:Int)+2)))) (i64.wrap (((aa.1.2.2.take (Int.toNat (i64.wrap (((aa.1.2.2.take aa.1.2.1).length:Int)+2)))).length:Int) - 2))).bind fun ap=>if (!decide (ap=901))=true then (Zbj ad (T0 N ae af ab kk_L4 ac ag) true) else ((Zv (aa.2.2.take (Int.toNat (i64.wrap (((aa.2.2.take aa.2.1).length:Int)+2)))) (i64.wrap (((aa.2.2.take (Int.toNat (i64.wrap (((aa.2.2.take aa.2.1).length:Int)+2)))).length:Int) - 1))).bind fun aq=>if (!decide (aq=904))=true then (Zbj ad (T0 N ae af ab kk_L4 ac ag) true) else ((Zv (aa.2.2.take (Int.toNat (i64.wrap (((aa.2.2.take aa.2.1).length:Int)+2)))) (i64.wrap (((aa.2.2.take (Int.toNat (i64.wrap (((aa.2.2.take aa.2.1).length:Int)+2)))).length:Int) - 2))).bind fun ar=>Zbj ad (T0 N ae af ab kk_L4 ac ag) (!decide (ar=903))))))))) else ((Zv ae.2.2.2.2 ab).bind fun ak=>Xb ((0:Int)≤(i64.wrap ((ac.length:Int)+2))∧(i64.wrap ((ac.length:Int)+2))≤(ak.2.length:Int)) ((Zv (ak.2.take (Int.toNat (i64.wrap ((ac.length:Int)+2)))) (ac.length:Int)).bind fun ah=>if (!decide (((ah.2.2.take ah.2.1).length:Int)=1))=true then (Zc6 ab kk_L4 true) else ((Zv (ah.2.2.take ah.2.1) 0).bind fun au=>if (!decide (au=97))=true then (Zc6 ab kk_L4 true) else ((Zv (ak.2.take (Int.toNat (i64.wrap ((ac.length:Int)+2)))) (i64.wrap ((ac.length:Int)+1))).bind fun ai=>if (!decide (((ai.2.2.take ai.2.1).length:Int)=1))=true then (Zc6 ab kk_L4 true) else ((Zv (ai.2.2.take ai.2.1) 0).bind fun av=>Zc6 ab kk_L4 (!decide (av=98)))))))
termination_by structural x=>x
def Sq (N:Nat) (ac:(ByteArray×(Nat×List ByteArray)×(List (Nat×List ByteArray))×(List (Nat×List Int))×(List (Nat×(List ((Bool×(Nat×List Int))×(Nat×List Int))))))) (aa:(ByteArray×List ByteArray×(List (List ByteArray))×(List (List Int))×(List (List ((Bool×List Int)×List Int))))):Nat→Int→Option Bool
  | 0,_=>none
  | af+1,ab=>if (decide (ab<(aa.2.2.2.2.length:Int)))=true then ((Zv aa.2.2.2.2 ab).bind fun ad=>(Zv ac.2.2.2.2 ab).bind fun ae=>if (!decide (((ae.2.take ae.1).length:Int)=(ad.length:Int)))=true then (some false) else (T0 N ac aa ab (Sq N ac aa af) ad N 0)) else (some true)
termination_by structural x=>x
def Ql (N:Nat) (ab:(ByteArray×(Nat×List ByteArray)×(List (Nat×List ByteArray))×(List (Nat×List Int))×(List (Nat×(List ((Bool×(Nat×List Int))×(Nat×List Int))))))) (aa:(ByteArray×List ByteArray×(List (List ByteArray))×(List (List Int))×(List (List ((Bool×List Int)×List Int))))):Nat→Int→Option Bool
  | 0,_=>none
  | af+1,ac=>if (decide (ac<(aa.2.2.2.1.length:Int)))=true then ((Zv aa.2.2.2.1 ac).bind fun ad=>(Zv ab.2.2.2.1 ac).bind fun ae=>if (!decide (((ae.2.take ae.1).length:Int)=(ad.length:Int)))=true then (some false) else (Zc8 N ab aa ac (Ql N ab aa af) ad N 0)) else (Sq N ab aa N 0)
termination_by structural x=>x
def Zc7 (N:Nat) (ac:(ByteArray×(Nat×List ByteArray)×(List (Nat×List ByteArray))×(List (Nat×List Int))×(List (Nat×(List ((Bool×(Nat×List Int))×(Nat×List Int))))))) (aa:(ByteArray×List ByteArray×(List (List ByteArray))×(List (List Int))×(List (List ((Bool×List Int)×List Int))))):Nat→Int→Option Bool
  | 0,_=>none
  | ae+1,ab=>if (decide (ab<(aa.2.2.1.length:Int)))=true then ((Zv ac.2.2.1 ab).bind fun ad=>(Zv aa.2.2.1 ab).bind fun af=>(Zde N ad.1 ad.2 af (⟨#[35,51]⟩) (⟨#[35,52]⟩)).bind fun ag=>if (!ag)=true then (some false) else ((Zc7 N ac aa ae) (i64.wrap (ab+1)))) else (Ql N ac aa N 0)
termination_by structural x=>x
def Zbi (N:Nat) (aa:(ByteArray×(Nat×List ByteArray)×(List (Nat×List ByteArray))×(List (Nat×List Int))×(List (Nat×(List ((Bool×(Nat×List Int))×(Nat×List Int))))))) (ab:(ByteArray×List ByteArray×(List (List ByteArray))×(List (List Int))×(List (List ((Bool×List Int)×List Int))))) (ac:Bool):Option Bool:=
  if ac=true then (some false) else (Zc7 N aa ab N 0)
def Zf9 (N:Nat) (aa:(ByteArray×(Nat×List ByteArray)×(List (Nat×List ByteArray))×(List (Nat×List Int))×(List (Nat×(List ((Bool×(Nat×List Int))×(Nat×List Int))))))) (ab:(ByteArray×List ByteArray×(List (List ByteArray))×(List (List Int))×(List (List ((Bool×List Int)×List Int))))):Option Bool:=
  if (!decide (aa.1=ab.1))=true then (Zbi N aa ab true) else (if (!decide ((aa.2.2.1.length:Int)=(ab.2.2.1.length:Int)))=true then (Zbi N aa ab true) else (if (!decide ((aa.2.2.2.1.length:Int)=(ab.2.2.2.1.length:Int)))=true then (Zbi N aa ab true) else (if (!decide ((aa.2.2.2.2.length:Int)=(ab.2.2.2.2.length:Int)))=true then (Zbi N aa ab true) else ((Zde N aa.2.1.1 aa.2.1.2 ab.2.1 (⟨#[35,49]⟩) (⟨#[35,50]⟩)).bind fun ac=>Zbi N aa ab (!ac)))))
theorem Zvo (N:Nat) (col:Zh) (w0:World) (a5:Option Addr) (a6:Nat) (a9:Option Addr) (ba:Nat) (bb:Option Addr) (bc:Nat) (bd:Option Addr) (be:Nat) (ab:(ByteArray×(Nat×List ByteArray)×(List (Nat×List ByteArray))×(List (Nat×List Int))×(List (Nat×(List ((Bool×(Nat×List Int))×(Nat×List Int))))))) (a7:Option Addr) (a8:Nat) (bf:Option Addr) (bg:Nat) (bh:Option Addr) (bi:Nat) (bj:Option Addr) (bk:Nat) (ac:(ByteArray×List ByteArray×(List (List ByteArray))×(List (List Int))×(List (List ((Bool×List Int)×List Int))))) (d1:Sl Za.str col w0 a5 a6 ab.2.1.2) (cv:Sl (Za.view Za.str) col w0 a9 ba ab.2.2.1) (bv:Sl (Za.view (Za.int .i64)) col w0 bb bc ab.2.2.2.1) (bw:Sl (Za.view (Za.pair (Za.pair Za.bool (Za.view (Za.int .u32))) (Za.view (Za.int .u32)))) col w0 bd be ab.2.2.2.2) (d2:Sl Za.str col w0 a7 a8 ac.2.1) (cw:Sl (Za.slice Za.str) col w0 bf bg ac.2.2.1) (cc:Sl (Za.slice (Za.int .i64)) col w0 bh bi ac.2.2.2.1) (cd:Sl (Za.slice (Za.pair (Za.pair Za.bool (Za.slice (Za.int .u32))) (Za.slice (Za.int .u32)))) col w0 bj bk ac.2.2.2.2) (r:Bool) (hm:Zf9 N ab ac=some r):
    Calls Tryz.prog 19 #[(.agg #[.string ab.1,.slice a5 ((ab.2.1.2.take ab.2.1.1).length) a6,.slice a9 ab.2.2.1.length ba,.slice bb ab.2.2.2.1.length bc,.slice bd ab.2.2.2.2.length be]),(.agg #[.string ac.1,.slice a7 ac.2.1.length a8,.slice bf ac.2.2.1.length bg,.slice bh ac.2.2.2.1.length bi,.slice bj ac.2.2.2.2.length bk])] w0 (fun e w'=>e= .returned ((.bool r))∧Below w0.heap.size w0 w'):=by
 refine Xv 4 (m:=283) func19 rfl rfl rfl rfl rfl ?_;rw [Zf9.eq_1] at hm;have aa:=St.start col w0;refine Zb<|Zd<|X3 (col:=(Zo col)) 1 rfl ?_;intro ah hw e2 e3 ad;refine X3 (col:=e2) 2 rfl ?_;intro ag e4 bx el ae;refine Xc rfl<|Zc<|Zb<|Zb ?_;replace d1:=d1.keep (Zp.start col w0);replace cv:=cv.keep (Zp.start col w0);replace bv:=bv.keep (Zp.start col w0);replace bw:=bw.keep (Zp.start col w0);replace d2:=d2.keep (Zp.start col w0);replace cw:=cw.keep (Zp.start col w0);replace cc:=cc.keep (Zp.start col w0);replace cd:=cd.keep (Zp.start col w0);replace aa:=(aa.grow e3).grow el;replace ad:=ad.gr el;refine Wp.cut (fun f cx=>∃ (cj:Zh) (d3:Bool),Zbi N ab ac d3=some r∧St w0 (Zo col) cj cx∧Zt 27 1 cj cx ah #[.string ab.1,.slice a5 ((ab.2.1.2.take ab.2.1.1).length) a6,.slice a9 ab.2.2.1.length ba,.slice bb ab.2.2.2.1.length bc,.slice bd ab.2.2.2.2.length be]∧Zt 27 2 cj cx ag #[.string ac.1,.slice a7 ac.2.1.length a8,.slice bf ac.2.2.1.length bg,.slice bh ac.2.2.2.1.length bi,.slice bj ac.2.2.2.2.length bk]∧f 2=(.pointer (some ⟨ah,0,none⟩))∧f 3=(.pointer (some ⟨ag,0,none⟩))∧f 56=(.bool d3)∧f 1000000=(enc [])) ?_ ?_
 ·intro f cx hJ;obtain ⟨cj,d3,hm,aa,ad,ae,az,a0,e5,a1⟩:=hJ;rw [Zbi.eq_1] at hm;refine .lD 2 az<|.lD 3 a0<|.lD 56 e5<|.lD 1000000 a1 ?_;refine Zy _ rfl (fun hb=>?_) (fun hb=>?_)
  ·rw [if_pos hb] at hm;refine Zb<|Zd<|Xc rfl<|Zc<|Zq ?_;cases hm;exact ⟨rfl,rfl,aa.below⟩
  rw [if_neg (Zz hb)] at hm;refine Zr<|Zb<|Zb<|Zd<|Zj rfl<|Zc<|Z0<|Xi (fun n f ce=>∃ (a2:Zh) (cy:Int) (b2:Nat),b2=n∧Zc7 N ab ac b2 cy=some r∧St w0 (Zo col) a2 ce∧Zt 27 1 a2 ce ah #[.string ab.1,.slice a5 ((ab.2.1.2.take ab.2.1.1).length) a6,.slice a9 ab.2.2.1.length ba,.slice bb ab.2.2.2.1.length bc,.slice bd ab.2.2.2.2.length be]∧Zt 27 2 a2 ce ag #[.string ac.1,.slice a7 ac.2.1.length a8,.slice bf ac.2.2.1.length bg,.slice bh ac.2.2.2.1.length bi,.slice bj ac.2.2.2.2.length bk]∧f 2=(.pointer (some ⟨ah,0,none⟩))∧f 3=(.pointer (some ⟨ag,0,none⟩))∧f 5=(.int .i64 cy)∧f 1000000=(enc [])) N ⟨cj,0,N,rfl,hm,aa,ad,ae,rfl,rfl,rfl,rfl⟩ ?_;clear hm;intro n f ce hI;obtain ⟨a2,cy,b2,hn,hm,aa,ad,ae,az,a0,e6,a1⟩:=hI;subst hn;refine .lD 2 az<|.lD 3 a0<|.lD 5 e6<|.lD 1000000 a1 ?_
  cases b2 with
  | zero=>rw [Zc7.eq_1] at hm;cases hm
  | succ b2=>
   rw [Zc7.eq_2] at hm;refine Zb<|Zb<|Zd<|Zg rfl<|Z9 ag 2 underlying27 rfl sizeOf23 isAgg23 ae rfl<|lV _ (Zs underlying23 rfl)<|lV _ (Z4 _ _ rfl rfl)<|Zc ?_;refine Zy _ rfl (fun hb=>?_) (fun hb=>?_)
   ·rw [if_pos hb] at hm;refine Zr<|Zb<|Z0<|Zb<|W5 (col:=a2) (by kernel_rfl) (by kernel_rfl)<|qv (v:=(.pointer ((some (⟨ah,0,none⟩:Addr)).map (·.add 2)))) rfl (fun _ hC=>Xn (sz:=1) (off:=2) underlying27 rfl sizeOf23 (by decide) rfl rfl ⟨_,_,rfl⟩) ?_;refine qv rfl (fun _ hC=>Zn isAgg23 rfl (((ad.atN).nth (q:=2) rfl).gr (hC.bl a2))) ?_;refine qv rfl (fun _ hC=>Xp rfl) ?_;obtain ⟨d4,cz,hm⟩:=bZ hm;refine qv rfl (fun _ hC=>Zx underlying23 sizeOf22 rfl rfl (Zi cz).1 (Zi cz).2.1 ((cv.ks aa).addr cz)) ?_;obtain ⟨_,e7,e8⟩:=(cv.ks aa).atN cz;obtain ⟨⟨em,en,rfl,d5⟩,_⟩:=e7;replace d5:Sl Za.str a2 ce em en d4.2:=d5;refine qv rfl (fun _ hC=>Zn isAgg22 rfl (e8.one.gr (hC.bl a2))) ?_;refine qv (v:=(.pointer ((some (⟨ag,0,none⟩:Addr)).map (·.add 2)))) rfl (fun _ hC=>Xn (sz:=1) (off:=2) underlying27 rfl sizeOf23 (by decide) rfl rfl ⟨_,_,rfl⟩) ?_;refine qv rfl (fun _ hC=>Zn isAgg23 rfl (((ae.atN).nth (q:=2) rfl).gr (hC.bl a2))) ?_;refine qv rfl (fun _ hC=>Xp rfl) ?_;obtain ⟨e9,c0,hm⟩:=bZ hm;refine qv rfl (fun _ hC=>Zx underlying23 sizeOf22 rfl rfl (Zi c0).1 (Zi c0).2.1 ((cw.ks aa).addr c0)) ?_;obtain ⟨_,fa,fb⟩:=(cw.ks aa).atN c0;obtain ⟨⟨fc,fd,rfl,fe⟩,_⟩:=fa;refine qv rfl (fun _ hC=>Zn isAgg22 rfl (fb.one.gr (hC.bl a2))) ?_;obtain ⟨eo,ff,hm⟩:=bZ hm;refine qc (v:=(.bool eo)) rfl (fun _ hC=>⟨_,_,Zrv call82 rfl rfl rfl rfl,(Znr N a2 _ em en d4.1 d4.2 fc fd e9 (⟨#[35,51]⟩) (⟨#[35,52]⟩) (d5.gr (hC.bl a2)) (fe.gr (hC.bl a2)) eo ff).mono fun _ _ h=>⟨h.1,hC.trans (.of_below h.2)⟩⟩) ?_;refine qv rfl (fun _ hC=>V3 _ rfl) ?_;refine Y1 ?_;intro fg hC;replace hC:Zf a2 ce a2 fg:=.of_below hC.below;replace ad:=ad.gr hC;replace ae:=ae.gr hC;replace aa:=aa.grow hC;refine Zy _ rfl (fun hb=>?_) (fun hb=>?_)
    ·rw [if_pos hb] at hm;refine Zb<|Zd<|Xc rfl<|Zc<|Zq ?_;cases hm;exact ⟨rfl,rfl,aa.below⟩
    rw [if_neg (Zz hb)] at hm;refine Zr<|Zd<|Zg rfl<|lV _ (Z5 _ _ rfl rfl)<|Zj rfl<|Zc ?_;exact ⟨b2,by omega,⟨a2,(i64.wrap (cy+1)),b2,rfl,hm,aa,ad,ae,rfl,rfl,rfl,rfl⟩⟩
   rw [if_neg (Zz hb)] at hm;refine Xl (Xk ?_);refine Zb<|Zb<|Zd<|Zj rfl<|Zc<|Z0<|Xi (fun n f c1=>∃ (cf:Zh) (bz:Int) (bt:Nat),bt=n∧Ql N ab ac bt bz=some r∧St w0 (Zo col) cf c1∧Zt 27 1 cf c1 ah #[.string ab.1,.slice a5 ((ab.2.1.2.take ab.2.1.1).length) a6,.slice a9 ab.2.2.1.length ba,.slice bb ab.2.2.2.1.length bc,.slice bd ab.2.2.2.2.length be]∧Zt 27 2 cf c1 ag #[.string ac.1,.slice a7 ac.2.1.length a8,.slice bf ac.2.2.1.length bg,.slice bh ac.2.2.2.1.length bi,.slice bj ac.2.2.2.2.length bk]∧f 2=(.pointer (some ⟨ah,0,none⟩))∧f 3=(.pointer (some ⟨ag,0,none⟩))∧f 6=(.int .i64 bz)∧f 1000000=(enc [])) N ⟨a2,0,N,rfl,hm,aa,ad,ae,rfl,rfl,rfl,rfl⟩ ?_;clear hm;intro n f c1 hI;obtain ⟨cf,bz,bt,hn,hm,aa,ad,ae,az,a0,ck,a1⟩:=hI;subst hn;refine .lD 2 az<|.lD 3 a0<|.lD 6 ck<|.lD 1000000 a1 ?_
   cases bt with
   | zero=>rw [Ql.eq_1] at hm;cases hm
   | succ bt=>
    rw [Ql.eq_2] at hm;refine Zb<|Zb<|Zd<|Zg rfl<|Z9 ag 3 underlying27 rfl sizeOf24 isAgg24 ae rfl<|lV _ (Zs underlying24 rfl)<|lV _ (Z4 _ _ rfl rfl)<|Zc ?_;refine Zy _ rfl (fun hb=>?_) (fun hb=>?_)
    ·rw [if_pos hb] at hm;refine Zr<|Zb<|Z0<|Zb<|Zd<|Z9 ag 3 underlying27 rfl sizeOf24 isAgg24 ae rfl<|Zg rfl ?_;obtain ⟨bu,c2,hm⟩:=bZ hm;refine lV _ (Zx underlying24 sizeOf40 rfl rfl (Zi c2).1 (Zi c2).2.1 ((cc.ks aa).addr c2)) ?_;obtain ⟨_,fh,fi⟩:=(cc.ks aa).atN c2;obtain ⟨⟨hx,hy,rfl,hz⟩,_⟩:=fh;refine lV _ (Zn isAgg40 rfl fi.one)<|lV _ (Zs underlying40 rfl)<|Zj rfl<|Zc<|Zb<|Zb<|Zd<|Z9 ah 3 underlying27 rfl sizeOf24 isAgg24 ad rfl<|Zg rfl ?_;obtain ⟨h0,c3,hm⟩:=bZ hm;refine lV _ (Zx underlying24 sizeOf40 rfl rfl (Zi c3).1 (Zi c3).2.1 ((bv.ks aa).addr c3)) ?_;obtain ⟨_,fj,fk⟩:=(bv.ks aa).atN c3;obtain ⟨⟨h1,h2,rfl,h3⟩,_⟩:=fj;refine lV _ (Zn isAgg40 rfl fk.one)<|lV _ (Zs underlying40 rfl)<|Zg rfl<|lV _ (Yk _ _ rfl rfl)<|Zc ?_;refine Zy _ rfl (fun hb=>?_) (fun hb=>?_)
     ·rw [if_pos hb] at hm;refine Zb<|Zd<|Xc rfl<|Zc<|Zq ?_;cases hm;exact ⟨rfl,rfl,aa.below⟩
     rw [if_neg (Zz hb)] at hm;refine Zr<|Zb<|Zb<|Zd<|Zj rfl<|Zc<|Z0<|Xi (fun n f b3=>∃ (aw:Zh) (c4:Int) (b4:Nat),b4=n∧Zc8 N ab ac bz (Ql N ab ac bt) bu b4 c4=some r∧St w0 (Zo col) aw b3∧Zt 27 1 aw b3 ah #[.string ab.1,.slice a5 ((ab.2.1.2.take ab.2.1.1).length) a6,.slice a9 ab.2.2.1.length ba,.slice bb ab.2.2.2.1.length bc,.slice bd ab.2.2.2.2.length be]∧Zt 27 2 aw b3 ag #[.string ac.1,.slice a7 ac.2.1.length a8,.slice bf ac.2.2.1.length bg,.slice bh ac.2.2.2.1.length bi,.slice bj ac.2.2.2.2.length bk]∧f 2=(.pointer (some ⟨ah,0,none⟩))∧f 3=(.pointer (some ⟨ag,0,none⟩))∧f 6=(.int .i64 bz)∧f 7=(.int .i64 bu.length)∧f 8=(.int .i64 c4)∧f 1000000=(enc [])) N ⟨cf,0,N,rfl,hm,aa,ad,ae,rfl,rfl,rfl,rfl,rfl,rfl⟩ ?_;clear hm;intro n f b3 hI;obtain ⟨aw,c4,b4,hn,hm,aa,ad,ae,az,a0,ck,fl,fm,a1⟩:=hI;subst hn;refine .lD 2 az<|.lD 3 a0<|.lD 6 ck<|.lD 7 fl<|.lD 8 fm<|.lD 1000000 a1 ?_
     cases b4 with
     | zero=>rw [Zc8.eq_1] at hm;cases hm
     | succ b4=>
      rw [Zc8.eq_2] at hm;refine Zb<|Zb<|Zd<|Zg rfl<|Zg rfl<|lV _ (Z4 _ _ rfl rfl)<|Zc ?_;refine Zy _ rfl (fun hb=>?_) (fun hb=>?_)
      ·rw [if_pos hb] at hm;refine Zr<|Zb<|Z0<|Zb<|W5 (col:=aw) (by kernel_rfl) (by kernel_rfl)<|qv (v:=(.pointer ((some (⟨ah,0,none⟩:Addr)).map (·.add 3)))) rfl (fun _ hC=>Xn (sz:=1) (off:=3) underlying27 rfl sizeOf24 (by decide) rfl rfl ⟨_,_,rfl⟩) ?_;refine qv rfl (fun _ hC=>Zn isAgg24 rfl (((ad.atN).nth (q:=3) rfl).gr (hC.bl aw))) ?_;refine qv rfl (fun _ hC=>Xp rfl) ?_;obtain ⟨d6,c5,hm⟩:=bZ hm;refine qv rfl (fun _ hC=>Zx underlying24 sizeOf40 rfl rfl (Zi c5).1 (Zi c5).2.1 ((bv.ks aa).addr c5)) ?_;obtain ⟨_,fn,fo⟩:=(bv.ks aa).atN c5;obtain ⟨⟨fp,fq,rfl,c6⟩,_⟩:=fn;replace c6:Sl (Za.int .i64) aw b3 fp fq d6.2:=c6;refine qv rfl (fun _ hC=>Zn isAgg40 rfl (fo.one.gr (hC.bl aw))) ?_;refine qv rfl (fun _ hC=>Xp rfl) ?_;obtain ⟨h4,c7,hm⟩:=bZ hm;refine qv rfl (fun _ hC=>Zx underlying40 sizeOf3 rfl rfl (Zi c7).1 (Zi c7).2.1 ((c6.take d6.1).addr c7)) ?_;refine qv rfl (fun _ hC=>Zn isAgg3 rfl (((c6.take d6.1).gr (hC.bl aw)).atInt c7)) ?_;refine qv (v:=(.pointer ((some (⟨ag,0,none⟩:Addr)).map (·.add 3)))) rfl (fun _ hC=>Xn (sz:=1) (off:=3) underlying27 rfl sizeOf24 (by decide) rfl rfl ⟨_,_,rfl⟩) ?_;refine qv rfl (fun _ hC=>Zn isAgg24 rfl (((ae.atN).nth (q:=3) rfl).gr (hC.bl aw))) ?_;refine qv rfl (fun _ hC=>Xp rfl) ?_;obtain ⟨h5,c8,hm⟩:=bZ hm;refine qv rfl (fun _ hC=>Zx underlying24 sizeOf40 rfl rfl (Zi c8).1 (Zi c8).2.1 ((cc.ks aa).addr c8)) ?_;obtain ⟨_,fr,fs⟩:=(cc.ks aa).atN c8;obtain ⟨⟨h6,h7,rfl,ep⟩,_⟩:=fr;refine qv rfl (fun _ hC=>Zn isAgg40 rfl (fs.one.gr (hC.bl aw))) ?_;refine qv rfl (fun _ hC=>Xp rfl) ?_;obtain ⟨h8,c9,hm⟩:=bZ hm;refine qv rfl (fun _ hC=>Zx underlying40 sizeOf3 rfl rfl (Zi c9).1 (Zi c9).2.1 (ep.addr c9)) ?_;refine qv rfl (fun _ hC=>Zn isAgg3 rfl ((ep.gr (hC.bl aw)).atInt c9)) ?_;refine qv rfl (fun _ hC=>Yk _ _ rfl rfl) ?_;refine Y1 ?_;intro ft hC;replace hC:Zf aw b3 aw ft:=.of_below hC.below;replace ad:=ad.gr hC;replace ae:=ae.gr hC;replace aa:=aa.grow hC;refine Zy _ rfl (fun hb=>?_) (fun hb=>?_)
       ·rw [if_pos hb] at hm;refine Zb<|Zd<|Xc rfl<|Zc<|Zq ?_;cases hm;exact ⟨rfl,rfl,aa.below⟩
       rw [if_neg (Zz hb)] at hm;refine Zr<|Zd<|Zg rfl<|lV _ (Z5 _ _ rfl rfl)<|Zj rfl<|Zc ?_;exact ⟨b4,by omega,⟨aw,(i64.wrap (c4+1)),b4,rfl,hm,aa,ad,ae,rfl,rfl,rfl,rfl,rfl,rfl⟩⟩
      rw [if_neg (Zz hb)] at hm;refine Xl (Xk ?_);refine Zb<|Zd<|Z9 ah 3 underlying27 rfl sizeOf24 isAgg24 ad rfl<|Zg rfl ?_;obtain ⟨d7,da,hm⟩:=bZ hm;refine lV _ (Zx underlying24 sizeOf40 rfl rfl (Zi da).1 (Zi da).2.1 ((bv.ks aa).addr da)) ?_;obtain ⟨_,fu,fv⟩:=(bv.ks aa).atN da;obtain ⟨⟨db,dc,rfl,b5⟩,_⟩:=fu;replace b5:Sl (Za.int .i64) aw b3 db dc d7.2:=b5;refine lV _ (Zn isAgg40 rfl fv.one)<|Zg rfl<|lV _ (Z5 _ _ rfl rfl) ?_;obtain ⟨d8,hm⟩:=Xd hm;refine lv (v:=.slice db (Int.toNat (i64.wrap ((bu.length:Int)+2))) dc) rfl rfl (Vk underlying40 sizeOf3 rfl rfl d8.1 (by have:=b5.1.2;have:=d8.2;omega))<|.ld (d:=126) (v:=(.slice db ((d7.2.take (Int.toNat (i64.wrap ((bu.length:Int)+2)))).length) dc)) (congrArg (fun n=>Value.slice db n dc) (List.length_take_of_le (show (Int.toNat (i64.wrap ((bu.length:Int)+2)))≤d7.2.length by have:=d8.2;omega)).symm) ?_;refine Zu rfl<|Zc<|Zb ?_;refine Wp.cut (fun f dd=>∃ (cl:Zh) (d9:Bool),Zh2 bz (Ql N ab ac bt) d9=some r∧St w0 (Zo col) cl dd∧Zt 27 1 cl dd ah #[.string ab.1,.slice a5 ((ab.2.1.2.take ab.2.1.1).length) a6,.slice a9 ab.2.2.1.length ba,.slice bb ab.2.2.2.1.length bc,.slice bd ab.2.2.2.2.length be]∧Zt 27 2 cl dd ag #[.string ac.1,.slice a7 ac.2.1.length a8,.slice bf ac.2.2.1.length bg,.slice bh ac.2.2.2.1.length bi,.slice bj ac.2.2.2.2.length bk]∧f 139=(.bool d9)∧f 2=(.pointer (some ⟨ah,0,none⟩))∧f 3=(.pointer (some ⟨ag,0,none⟩))∧f 6=(.int .i64 bz)∧f 1000000=(enc [])) ?_ ?_
      ·intro f dd hJ;obtain ⟨cl,d9,hm,aa,ad,ae,fw,az,a0,ck,a1⟩:=hJ;rw [Zh2.eq_1] at hm;refine .lD 139 fw<|.lD 2 az<|.lD 3 a0<|.lD 6 ck<|.lD 1000000 a1 ?_;refine Zy _ rfl (fun hb=>?_) (fun hb=>?_)
       ·rw [if_pos hb] at hm;refine Zb<|Zd<|Xc rfl<|Zc<|Zq ?_;cases hm;exact ⟨rfl,rfl,aa.below⟩
       rw [if_neg (Zz hb)] at hm;refine Zr<|Zd<|Zg rfl<|lV _ (Z5 _ _ rfl rfl)<|Zj rfl<|Zc ?_;exact ⟨bt,by omega,⟨cl,(i64.wrap (bz+1)),bt,rfl,hm,aa,ad,ae,rfl,rfl,rfl,rfl⟩⟩
      refine Zd<|Zk rfl<|Zg rfl ?_;obtain ⟨fx,de,hm⟩:=bZ hm;refine lV _ (Zx underlying40 sizeOf3 rfl rfl (Zi de).1 (Zi de).2.1 ((b5.take (Int.toNat (i64.wrap ((bu.length:Int)+2)))).addr de)) ?_;refine lV _ (Zn isAgg3 rfl ((b5.take (Int.toNat (i64.wrap ((bu.length:Int)+2)))).atInt de))<|lV _ (Yk _ _ rfl rfl)<|Xf rfl ?_;by_cases ax:(!decide (fx=(-95)))=true
      ·rw [if_pos ax] at hm;refine lP 132 rfl (by rw [ax];rfl)<|lP 132 rfl (by rw [ax];rfl)<|lP 132 rfl (by rw [ax];rfl)<|lP 132 rfl (by rw [ax];rfl)<|lP 132 rfl (by rw [ax];rfl)<|lP 132 rfl (by rw [ax];rfl)<|lV (.bool true) (Xm (congrArg Value.bool ax) rfl)<|Zc ?_;exact ⟨aw,true,hm,aa,ad,ae,rfl,rfl,rfl,rfl,rfl⟩
      rw [if_neg ax] at hm;replace ax:=Bool.eq_false_iff.2 ax;refine lG 132 rfl (by rw [ax];rfl)<|Zk rfl<|lG 132 rfl (by rw [ax];rfl)<|Zg rfl<|lG 132 rfl (by rw [ax];rfl)<|lV _ (Z5 _ _ rfl rfl)<|lG 132 rfl (by rw [ax];rfl) ?_;obtain ⟨eq,df,hm⟩:=bZ hm;refine lV _ (Zx underlying40 sizeOf3 rfl rfl (Zi df).1 (Zi df).2.1 ((b5.take (Int.toNat (i64.wrap ((bu.length:Int)+2)))).addr df)) ?_;refine lG 132 rfl (by rw [ax];rfl)<|lV _ (Zn isAgg3 rfl ((b5.take (Int.toNat (i64.wrap ((bu.length:Int)+2)))).atInt df))<|lG 132 rfl (by rw [ax];rfl)<|lV _ (Yk _ _ rfl rfl)<|lV (.bool (!decide (eq=(-96)))) (Xr (congrArg Value.bool ax) rfl)<|Zc ?_;exact ⟨aw,(!decide (eq=(-96))),hm,aa,ad,ae,rfl,rfl,rfl,rfl,rfl⟩
    rw [if_neg (Zz hb)] at hm;refine Xl (Xk ?_);refine Zb<|Zb<|Zd<|Zj rfl<|Zc<|Z0<|Xi (fun n f dg=>∃ (cm:Zh) (bm:Int) (bn:Nat),bn=n∧Sq N ab ac bn bm=some r∧St w0 (Zo col) cm dg∧Zt 27 1 cm dg ah #[.string ab.1,.slice a5 ((ab.2.1.2.take ab.2.1.1).length) a6,.slice a9 ab.2.2.1.length ba,.slice bb ab.2.2.2.1.length bc,.slice bd ab.2.2.2.2.length be]∧Zt 27 2 cm dg ag #[.string ac.1,.slice a7 ac.2.1.length a8,.slice bf ac.2.2.1.length bg,.slice bh ac.2.2.2.1.length bi,.slice bj ac.2.2.2.2.length bk]∧f 10=(.int .i64 bm)∧f 2=(.pointer (some ⟨ah,0,none⟩))∧f 3=(.pointer (some ⟨ag,0,none⟩))∧f 1000000=(enc [])) N ⟨cf,0,N,rfl,hm,aa,ad,ae,rfl,rfl,rfl,rfl⟩ ?_;clear hm;intro n f dg hI;obtain ⟨cm,bm,bn,hn,hm,aa,ad,ae,b6,az,a0,a1⟩:=hI;subst hn;refine .lD 10 b6<|.lD 2 az<|.lD 3 a0<|.lD 1000000 a1 ?_
    cases bn with
    | zero=>rw [Sq.eq_1] at hm;cases hm
    | succ bn=>
     rw [Sq.eq_2] at hm;refine Zb<|Zb<|Zd<|Zg rfl<|Z9 ag 4 underlying27 rfl sizeOf25 isAgg25 ae rfl<|lV _ (Zs underlying25 rfl)<|lV _ (Z4 _ _ rfl rfl)<|Zc ?_;refine Zy _ rfl (fun hb=>?_) (fun hb=>?_)
     ·rw [if_pos hb] at hm;refine Zr<|Zb<|Z0<|Zb<|Zd<|Z9 ag 4 underlying27 rfl sizeOf25 isAgg25 ae rfl<|Zg rfl ?_;obtain ⟨ak,dh,hm⟩:=bZ hm;refine lV _ (Zx underlying25 sizeOf56 rfl rfl (Zi dh).1 (Zi dh).2.1 ((cd.ks aa).addr dh)) ?_;obtain ⟨_,fy,fz⟩:=(cd.ks aa).atN dh;obtain ⟨⟨h9,ia,rfl,ib⟩,_⟩:=fy;refine lV _ (Zn isAgg56 rfl fz.one)<|lV _ (Zs underlying56 rfl)<|Zj rfl<|Zc<|Zb<|Zb<|Zd<|Z9 ah 4 underlying27 rfl sizeOf25 isAgg25 ad rfl<|Zg rfl ?_;obtain ⟨ic,di,hm⟩:=bZ hm;refine lV _ (Zx underlying25 sizeOf56 rfl rfl (Zi di).1 (Zi di).2.1 ((bw.ks aa).addr di)) ?_;obtain ⟨_,f0,f1⟩:=(bw.ks aa).atN di;obtain ⟨⟨id,ie,rfl,ig⟩,_⟩:=f0;refine lV _ (Zn isAgg56 rfl f1.one)<|lV _ (Zs underlying56 rfl)<|Zg rfl<|lV _ (Yk _ _ rfl rfl)<|Zc ?_;refine Zy _ rfl (fun hb=>?_) (fun hb=>?_)
      ·rw [if_pos hb] at hm;refine Zb<|Zd<|Xc rfl<|Zc<|Zq ?_;cases hm;exact ⟨rfl,rfl,aa.below⟩
      rw [if_neg (Zz hb)] at hm;refine Zr<|Zb<|Zb<|Zd<|Zj rfl<|Zc<|Z0<|Xi (fun n f bo=>∃ (a3:Zh) (cg:Int) (b0:Nat),b0=n∧T0 N ab ac bm (Sq N ab ac bn) ak b0 cg=some r∧St w0 (Zo col) a3 bo∧Zt 27 1 a3 bo ah #[.string ab.1,.slice a5 ((ab.2.1.2.take ab.2.1.1).length) a6,.slice a9 ab.2.2.1.length ba,.slice bb ab.2.2.2.1.length bc,.slice bd ab.2.2.2.2.length be]∧Zt 27 2 a3 bo ag #[.string ac.1,.slice a7 ac.2.1.length a8,.slice bf ac.2.2.1.length bg,.slice bh ac.2.2.2.1.length bi,.slice bj ac.2.2.2.2.length bk]∧f 10=(.int .i64 bm)∧f 11=(.int .i64 ak.length)∧f 12=(.int .i64 cg)∧f 2=(.pointer (some ⟨ah,0,none⟩))∧f 3=(.pointer (some ⟨ag,0,none⟩))∧f 1000000=(enc [])) N ⟨cm,0,N,rfl,hm,aa,ad,ae,rfl,rfl,rfl,rfl,rfl,rfl⟩ ?_;clear hm;intro n f bo hI;obtain ⟨a3,cg,b0,hn,hm,aa,ad,ae,b6,ea,eb,az,a0,a1⟩:=hI;subst hn;refine .lD 10 b6<|.lD 11 ea<|.lD 12 eb<|.lD 2 az<|.lD 3 a0<|.lD 1000000 a1 ?_
      cases b0 with
      | zero=>rw [T0.eq_1] at hm;cases hm
      | succ b0=>
       rw [T0.eq_2] at hm;refine Zb<|Zb<|Zd<|Zg rfl<|Zg rfl<|lV _ (Z4 _ _ rfl rfl)<|Zc ?_;refine Zy _ rfl (fun hb=>?_) (fun hb=>?_)
       ·rw [if_pos hb] at hm;refine Zr<|Zb<|Z0<|Zb<|Zd<|Z9 ah 4 underlying27 rfl sizeOf25 isAgg25 ad rfl<|Zg rfl ?_;obtain ⟨ec,dj,hm⟩:=bZ hm;refine lV _ (Zx underlying25 sizeOf56 rfl rfl (Zi dj).1 (Zi dj).2.1 ((bw.ks aa).addr dj)) ?_;obtain ⟨_,f2,f3⟩:=(bw.ks aa).atN dj;obtain ⟨⟨f4,f5,rfl,dk⟩,_⟩:=f2;replace dk:Sl (Za.pair (Za.pair Za.bool (Za.view (Za.int .u32))) (Za.view (Za.int .u32))) a3 bo f4 f5 ec.2:=dk;refine lV _ (Zn isAgg56 rfl f3.one)<|Zg rfl ?_;obtain ⟨af,dl,hm⟩:=bZ hm;refine lV _ (Zx underlying56 sizeOf47 rfl rfl (Zi dl).1 (Zi dl).2.1 ((dk.take ec.1).addr dl)) ?_;obtain ⟨_,f6,f7⟩:=(dk.take ec.1).atN dl;obtain ⟨_,_,rfl,f8,f9⟩:=Wu f6;obtain ⟨_,_,rfl,ga,gb⟩:=Wu f8;obtain ⟨rfl,_⟩:=ga;obtain ⟨⟨b7,b8,rfl,bp⟩,_⟩:=gb;replace bp:Sl (Za.int .u32) a3 bo b7 b8 af.1.2.2:=bp;obtain ⟨⟨b9,ca,rfl,bq⟩,_⟩:=f9;replace bq:Sl (Za.int .u32) a3 bo b9 ca af.2.2:=bq;refine lV (.agg #[.bool af.1.1,.slice b7 ((af.1.2.2.take af.1.2.1).length) b8,.slice b9 ((af.2.2.take af.2.1).length) ca]) (Wt isAgg47 sizeOf47 rfl rfl f7)<|Yt (col:=a3) #[.bool false,.slice none (([]:List Int).length) 0,.slice none (([]:List Int).length) 0] 3 zeroValue47 ?_;intro ch ih ai cn gc;refine Ya #[.bool af.1.1,.slice b7 ((af.1.2.2.take af.1.2.1).length) b8,.slice b9 ((af.2.2.take af.2.1).length) ca] gc sizeOf47 ?_;intro co cp gd cq;refine Zc<|Zb<|Zd<|lF ch 0 underlying47 rfl sizeOf45<|lv (v:=(.pointer (((some (⟨ch,0,none⟩:Addr)).map (·.add 0)).map (·.add 1)))) rfl rfl (Xn (sz:=1) (off:=1) underlying45 rfl sizeOf43 (by decide) rfl rfl (Vd ⟨_,_,rfl⟩))<|lV _ (Zn isAgg43 rfl ((((cq.atN).part 0 2 _ rfl)).nth (q:=1) rfl))<|lF ch 0 underlying47 rfl sizeOf45<|lv (v:=(.pointer (((some (⟨ch,0,none⟩:Addr)).map (·.add 0)).map (·.add 1)))) rfl rfl (Xn (sz:=1) (off:=1) underlying45 rfl sizeOf43 (by decide) rfl rfl (Vd ⟨_,_,rfl⟩))<|lV _ (Zn isAgg43 rfl ((((cq.atN).part 0 2 _ rfl)).nth (q:=1) rfl))<|lV _ (Zs underlying43 rfl)<|lV _ (Z5 _ _ rfl rfl) ?_;obtain ⟨ed,hm⟩:=Xd hm;replace bp:=(bp.gr cn).kp cp
        refine lv (v:=.slice b7 (Int.toNat (i64.wrap (((af.1.2.2.take af.1.2.1).length:Int)+2))) b8) rfl rfl (Vk underlying43 sizeOf79 rfl rfl ed.1 (by have:=bp.1.2;have:=ed.2;omega))<|.ld (d:=182) (v:=(.slice b7 ((af.1.2.2.take (Int.toNat (i64.wrap (((af.1.2.2.take af.1.2.1).length:Int)+2)))).length) b8)) (congrArg (fun n=>Value.slice b7 n b8) (List.length_take_of_le (show (Int.toNat (i64.wrap (((af.1.2.2.take af.1.2.1).length:Int)+2)))≤af.1.2.2.length by have:=ed.2;omega)).symm) ?_;refine Zu rfl<|Zc<|Zb<|Zd<|Z9 ch 2 underlying47 rfl sizeOf43 isAgg43 cq rfl<|Z9 ch 2 underlying47 rfl sizeOf43 isAgg43 cq rfl<|lV _ (Zs underlying43 rfl)<|lV _ (Z5 _ _ rfl rfl) ?_;obtain ⟨ee,hm⟩:=Xd hm;replace bq:=(bq.gr cn).kp cp;refine lv (v:=.slice b9 (Int.toNat (i64.wrap (((af.2.2.take af.2.1).length:Int)+2))) ca) rfl rfl (Vk underlying43 sizeOf79 rfl rfl ee.1 (by have:=bq.1.2;have:=ee.2;omega))<|.ld (d:=189) (v:=(.slice b9 ((af.2.2.take (Int.toNat (i64.wrap (((af.2.2.take af.2.1).length:Int)+2)))).length) ca)) (congrArg (fun n=>Value.slice b9 n ca) (List.length_take_of_le (show (Int.toNat (i64.wrap (((af.2.2.take af.2.1).length:Int)+2)))≤af.2.2.length by have:=ee.2;omega)).symm) ?_;refine Zu rfl<|Zc<|Zb ?_;replace ad:=(ad.gr cn).kp cp;replace ae:=(ae.gr cn).kp cp;replace aa:=(aa.grow cn).kp cp gd;refine Wp.cut (fun f dm=>∃ (cr:Zh) (ef:Bool),Zbj cg (T0 N ab ac bm (Sq N ab ac bn) ak b0) ef=some r∧St w0 (Zo col) cr dm∧Zt 27 1 cr dm ah #[.string ab.1,.slice a5 ((ab.2.1.2.take ab.2.1.1).length) a6,.slice a9 ab.2.2.1.length ba,.slice bb ab.2.2.2.1.length bc,.slice bd ab.2.2.2.2.length be]∧Zt 27 2 cr dm ag #[.string ac.1,.slice a7 ac.2.1.length a8,.slice bf ac.2.2.1.length bg,.slice bh ac.2.2.2.1.length bi,.slice bj ac.2.2.2.2.length bk]∧f 10=(.int .i64 bm)∧f 11=(.int .i64 ak.length)∧f 12=(.int .i64 cg)∧f 2=(.pointer (some ⟨ah,0,none⟩))∧f 236=(.bool ef)∧f 3=(.pointer (some ⟨ag,0,none⟩))∧f 1000000=(enc [])) ?_ ?_
        ·intro f dm hJ;obtain ⟨cr,ef,hm,aa,ad,ae,b6,ea,eb,az,ge,a0,a1⟩:=hJ;rw [Zbj.eq_1] at hm;refine .lD 10 b6<|.lD 11 ea<|.lD 12 eb<|.lD 2 az<|.lD 236 ge<|.lD 3 a0<|.lD 1000000 a1 ?_;refine Zy _ rfl (fun hb=>?_) (fun hb=>?_)
         ·rw [if_pos hb] at hm;refine Zb<|Zd<|Xc rfl<|Zc<|Zq ?_;cases hm;exact ⟨rfl,rfl,aa.below⟩
         rw [if_neg (Zz hb)] at hm;refine Zr<|Zd<|Zg rfl<|lV _ (Z5 _ _ rfl rfl)<|Zj rfl<|Zc ?_;exact ⟨b0,by omega,⟨cr,(i64.wrap (cg+1)),b0,rfl,hm,aa,ad,ae,rfl,rfl,rfl,rfl,rfl,rfl⟩⟩
        refine W5 (col:=ai) (by kernel_rfl) (by kernel_rfl)<|qv rfl (fun _ hC=>Ye isAgg47 sizeOf47 (cq.gr (hC.bl ai))) ?_;refine qv (v:=(.pointer ((some (⟨ag,0,none⟩:Addr)).map (·.add 4)))) rfl (fun _ hC=>Xn (sz:=1) (off:=4) underlying27 rfl sizeOf25 (by decide) rfl rfl ⟨_,_,rfl⟩) ?_;refine qv rfl (fun _ hC=>Zn isAgg25 rfl (((ae.atN).nth (q:=4) rfl).gr (hC.bl ai))) ?_;refine qv rfl (fun _ hC=>Xp rfl) ?_;obtain ⟨ii,dn,hm⟩:=bZ hm;refine qv rfl (fun _ hC=>Zx underlying25 sizeOf56 rfl rfl (Zi dn).1 (Zi dn).2.1 ((cd.ks aa).addr dn)) ?_;obtain ⟨_,gf,gg⟩:=(cd.ks aa).atN dn;obtain ⟨⟨ij,ik,rfl,er⟩,_⟩:=gf;refine qv rfl (fun _ hC=>Zn isAgg56 rfl (gg.one.gr (hC.bl ai))) ?_;refine qv rfl (fun _ hC=>Xp rfl) ?_;obtain ⟨ci,dp,hm⟩:=bZ hm;refine qv rfl (fun _ hC=>Zx underlying56 sizeOf47 rfl rfl (Zi dp).1 (Zi dp).2.1 (er.addr dp)) ?_;obtain ⟨_,gh,gi⟩:=er.atN dp;obtain ⟨_,_,rfl,gj,gk⟩:=Wu gh;obtain ⟨_,_,rfl,gl,gm⟩:=Wu gj;obtain ⟨rfl,_⟩:=gl;obtain ⟨⟨es,et,rfl,gn⟩,_⟩:=gm;obtain ⟨⟨eu,ev,rfl,go⟩,_⟩:=gk;refine qv (v:=(.agg #[.bool ci.1.1,.slice es ci.1.2.length et,.slice eu ci.2.length ev])) rfl (fun _ hC=>Wt isAgg47 sizeOf47 rfl rfl (gi.gr (hC.bl ai))) ?_;obtain ⟨eg,gp,hm⟩:=bZ hm;refine qc (v:=(.bool eg)) rfl (fun _ hC=>⟨_,_,Xa call25 rfl rfl,(Zvq N ai _ b7 b8 b9 ca ((af.1.1,af.1.2.2.take af.1.2.1),af.2.2.take af.2.1) es et eu ev ((ci.1.1,ci.1.2),ci.2) ((bp.take af.1.2.1).gr (hC.bl ai)) ((bq.take af.2.1).gr (hC.bl ai)) (gn.gr (hC.bl ai)) (go.gr (hC.bl ai)) eg gp).mono fun _ _ h=>⟨h.1,hC.trans (.of_below h.2)⟩⟩) ?_;refine qv rfl (fun _ hC=>V3 _ rfl) ?_;refine qv rfl (fun _ hC=>W4 rfl) ?_;by_cases an:(!eg)=true
        ·rw [if_pos an] at hm;refine qP 201 rfl (by rw [an];rfl)<|qP 201 rfl (by rw [an];rfl)<|qP 201 rfl (by rw [an];rfl)<|qP 201 rfl (by rw [an];rfl)<|qP 201 rfl (by rw [an];rfl)<|qP 201 rfl (by rw [an];rfl)<|qP 201 rfl (by rw [an];rfl)<|qv (v:=(.bool true)) rfl (fun _ hC=>Xm (congrArg Value.bool an) rfl) ?_;refine qv rfl (fun _ hC=>W4 rfl) ?_;refine qP 210 rfl rfl<|qP 210 rfl rfl<|qP 210 rfl rfl<|qP 210 rfl rfl<|qP 210 rfl rfl<|qP 210 rfl rfl<|qP 210 rfl rfl<|qv (v:=(.bool true)) rfl (fun _ hC=>Xm rfl rfl) ?_;refine qv rfl (fun _ hC=>W4 rfl) ?_;refine qP 219 rfl rfl<|qP 219 rfl rfl<|qP 219 rfl rfl<|qP 219 rfl rfl<|qP 219 rfl rfl<|qP 219 rfl rfl<|qP 219 rfl rfl<|qv (v:=(.bool true)) rfl (fun _ hC=>Xm rfl rfl) ?_;refine qv rfl (fun _ hC=>W4 rfl) ?_;refine qP 228 rfl rfl<|qP 228 rfl rfl<|qP 228 rfl rfl<|qP 228 rfl rfl<|qP 228 rfl rfl<|qP 228 rfl rfl<|qP 228 rfl rfl<|qv (v:=(.bool true)) rfl (fun _ hC=>Xm rfl rfl) ?_;refine Y1 ?_;intro gq hC;replace hC:Zf ai co ai gq:=.of_below hC.below;replace ad:=ad.gr hC;replace ae:=ae.gr hC;replace aa:=aa.grow hC;exact ⟨ai,true,hm,aa,ad,ae,rfl,rfl,rfl,rfl,rfl,rfl,rfl⟩
        rw [if_neg an] at hm;replace an:=Bool.eq_false_iff.2 an;refine qG 201 rfl (by rw [an];rfl)<|qv rfl (fun _ hC=>Yr rfl) ?_;refine qG 201 rfl (by rw [an];rfl)<|qv rfl (fun _ hC=>Yr rfl) ?_;refine qG 201 rfl (by rw [an];rfl)<|qv rfl (fun _ hC=>Zs underlying43 rfl) ?_;refine qG 201 rfl (by rw [an];rfl)<|qv rfl (fun _ hC=>Yb _ _ rfl rfl) ?_;refine qG 201 rfl (by rw [an];rfl) ?_;obtain ⟨ew,dq,hm⟩:=bZ hm;refine qv rfl (fun _ hC=>Zx underlying43 sizeOf79 rfl rfl (Zi dq).1 (Zi dq).2.1 ((bp.take (Int.toNat (i64.wrap (((af.1.2.2.take af.1.2.1).length:Int)+2)))).addr dq)) ?_;refine qG 201 rfl (by rw [an];rfl)<|qv rfl (fun _ hC=>Zn isAgg79 rfl (((bp.take (Int.toNat (i64.wrap (((af.1.2.2.take af.1.2.1).length:Int)+2)))).gr (hC.bl ai)).atInt dq)) ?_;refine qG 201 rfl (by rw [an];rfl)<|qv rfl (fun _ hC=>Yk _ _ rfl rfl) ?_;refine qv (v:=(.bool (!decide (ew=902)))) rfl (fun _ hC=>Xr (congrArg Value.bool an) rfl) ?_;refine qv rfl (fun _ hC=>W4 rfl) ?_;by_cases ao:(!decide (ew=902))=true
        ·rw [if_pos ao] at hm;refine qP 210 rfl (by rw [ao];rfl)<|qP 210 rfl (by rw [ao];rfl)<|qP 210 rfl (by rw [ao];rfl)<|qP 210 rfl (by rw [ao];rfl)<|qP 210 rfl (by rw [ao];rfl)<|qP 210 rfl (by rw [ao];rfl)<|qP 210 rfl (by rw [ao];rfl)<|qv (v:=(.bool true)) rfl (fun _ hC=>Xm (congrArg Value.bool ao) rfl) ?_;refine qv rfl (fun _ hC=>W4 rfl) ?_;refine qP 219 rfl rfl<|qP 219 rfl rfl<|qP 219 rfl rfl<|qP 219 rfl rfl<|qP 219 rfl rfl<|qP 219 rfl rfl<|qP 219 rfl rfl<|qv (v:=(.bool true)) rfl (fun _ hC=>Xm rfl rfl) ?_;refine qv rfl (fun _ hC=>W4 rfl) ?_;refine qP 228 rfl rfl<|qP 228 rfl rfl<|qP 228 rfl rfl<|qP 228 rfl rfl<|qP 228 rfl rfl<|qP 228 rfl rfl<|qP 228 rfl rfl<|qv (v:=(.bool true)) rfl (fun _ hC=>Xm rfl rfl) ?_;refine Y1 ?_;intro gs hC;replace hC:Zf ai co ai gs:=.of_below hC.below;replace ad:=ad.gr hC;replace ae:=ae.gr hC;replace aa:=aa.grow hC;exact ⟨ai,true,hm,aa,ad,ae,rfl,rfl,rfl,rfl,rfl,rfl,rfl⟩
        rw [if_neg ao] at hm;replace ao:=Bool.eq_false_iff.2 ao;refine qG 210 rfl (by rw [ao];rfl)<|qv rfl (fun _ hC=>Yr rfl) ?_;refine qG 210 rfl (by rw [ao];rfl)<|qv rfl (fun _ hC=>Yr rfl) ?_;refine qG 210 rfl (by rw [ao];rfl)<|qv rfl (fun _ hC=>Zs underlying43 rfl) ?_;refine qG 210 rfl (by rw [ao];rfl)<|qv rfl (fun _ hC=>Yb _ _ rfl rfl) ?_;refine qG 210 rfl (by rw [ao];rfl) ?_;obtain ⟨ex,dr,hm⟩:=bZ hm;refine qv rfl (fun _ hC=>Zx underlying43 sizeOf79 rfl rfl (Zi dr).1 (Zi dr).2.1 ((bp.take (Int.toNat (i64.wrap (((af.1.2.2.take af.1.2.1).length:Int)+2)))).addr dr)) ?_;refine qG 210 rfl (by rw [ao];rfl)<|qv rfl (fun _ hC=>Zn isAgg79 rfl (((bp.take (Int.toNat (i64.wrap (((af.1.2.2.take af.1.2.1).length:Int)+2)))).gr (hC.bl ai)).atInt dr)) ?_;refine qG 210 rfl (by rw [ao];rfl)<|qv rfl (fun _ hC=>Yk _ _ rfl rfl) ?_;refine qv (v:=(.bool (!decide (ex=901)))) rfl (fun _ hC=>Xr (congrArg Value.bool ao) rfl) ?_;refine qv rfl (fun _ hC=>W4 rfl) ?_;by_cases ap:(!decide (ex=901))=true
        ·rw [if_pos ap] at hm;refine qP 219 rfl (by rw [ap];rfl)<|qP 219 rfl (by rw [ap];rfl)<|qP 219 rfl (by rw [ap];rfl)<|qP 219 rfl (by rw [ap];rfl)<|qP 219 rfl (by rw [ap];rfl)<|qP 219 rfl (by rw [ap];rfl)<|qP 219 rfl (by rw [ap];rfl)<|qv (v:=(.bool true)) rfl (fun _ hC=>Xm (congrArg Value.bool ap) rfl) ?_;refine qv rfl (fun _ hC=>W4 rfl) ?_;refine qP 228 rfl rfl<|qP 228 rfl rfl<|qP 228 rfl rfl<|qP 228 rfl rfl<|qP 228 rfl rfl<|qP 228 rfl rfl<|qP 228 rfl rfl<|qv (v:=(.bool true)) rfl (fun _ hC=>Xm rfl rfl) ?_;refine Y1 ?_;intro gt hC;replace hC:Zf ai co ai gt:=.of_below hC.below;replace ad:=ad.gr hC;replace ae:=ae.gr hC;replace aa:=aa.grow hC;exact ⟨ai,true,hm,aa,ad,ae,rfl,rfl,rfl,rfl,rfl,rfl,rfl⟩
        rw [if_neg ap] at hm;replace ap:=Bool.eq_false_iff.2 ap;refine qG 219 rfl (by rw [ap];rfl)<|qv rfl (fun _ hC=>Yr rfl) ?_;refine qG 219 rfl (by rw [ap];rfl)<|qv rfl (fun _ hC=>Yr rfl) ?_;refine qG 219 rfl (by rw [ap];rfl)<|qv rfl (fun _ hC=>Zs underlying43 rfl) ?_;refine qG 219 rfl (by rw [ap];rfl)<|qv rfl (fun _ hC=>Yb _ _ rfl rfl) ?_;refine qG 219 rfl (by rw [ap];rfl) ?_;obtain ⟨ey,ds,hm⟩:=bZ hm;refine qv rfl (fun _ hC=>Zx underlying43 sizeOf79 rfl rfl (Zi ds).1 (Zi ds).2.1 ((bq.take (Int.toNat (i64.wrap (((af.2.2.take af.2.1).length:Int)+2)))).addr ds)) ?_;refine qG 219 rfl (by rw [ap];rfl)<|qv rfl (fun _ hC=>Zn isAgg79 rfl (((bq.take (Int.toNat (i64.wrap (((af.2.2.take af.2.1).length:Int)+2)))).gr (hC.bl ai)).atInt ds)) ?_;refine qG 219 rfl (by rw [ap];rfl)<|qv rfl (fun _ hC=>Yk _ _ rfl rfl) ?_;refine qv (v:=(.bool (!decide (ey=904)))) rfl (fun _ hC=>Xr (congrArg Value.bool ap) rfl) ?_;refine qv rfl (fun _ hC=>W4 rfl) ?_;by_cases aq:(!decide (ey=904))=true
        ·rw [if_pos aq] at hm;refine qP 228 rfl (by rw [aq];rfl)<|qP 228 rfl (by rw [aq];rfl)<|qP 228 rfl (by rw [aq];rfl)<|qP 228 rfl (by rw [aq];rfl)<|qP 228 rfl (by rw [aq];rfl)<|qP 228 rfl (by rw [aq];rfl)<|qP 228 rfl (by rw [aq];rfl)<|qv (v:=(.bool true)) rfl (fun _ hC=>Xm (congrArg Value.bool aq) rfl) ?_;refine Y1 ?_;intro gu hC;replace hC:Zf ai co ai gu:=.of_below hC.below;replace ad:=ad.gr hC;replace ae:=ae.gr hC;replace aa:=aa.grow hC;exact ⟨ai,true,hm,aa,ad,ae,rfl,rfl,rfl,rfl,rfl,rfl,rfl⟩
        rw [if_neg aq] at hm;replace aq:=Bool.eq_false_iff.2 aq;refine qG 228 rfl (by rw [aq];rfl)<|qv rfl (fun _ hC=>Yr rfl) ?_;refine qG 228 rfl (by rw [aq];rfl)<|qv rfl (fun _ hC=>Yr rfl) ?_;refine qG 228 rfl (by rw [aq];rfl)<|qv rfl (fun _ hC=>Zs underlying43 rfl) ?_;refine qG 228 rfl (by rw [aq];rfl)<|qv rfl (fun _ hC=>Yb _ _ rfl rfl) ?_;refine qG 228 rfl (by rw [aq];rfl) ?_;obtain ⟨ez,dt,hm⟩:=bZ hm;refine qv rfl (fun _ hC=>Zx underlying43 sizeOf79 rfl rfl (Zi dt).1 (Zi dt).2.1 ((bq.take (Int.toNat (i64.wrap (((af.2.2.take af.2.1).length:Int)+2)))).addr dt)) ?_;refine qG 228 rfl (by rw [aq];rfl)<|qv rfl (fun _ hC=>Zn isAgg79 rfl (((bq.take (Int.toNat (i64.wrap (((af.2.2.take af.2.1).length:Int)+2)))).gr (hC.bl ai)).atInt dt)) ?_;refine qG 228 rfl (by rw [aq];rfl)<|qv rfl (fun _ hC=>Yk _ _ rfl rfl) ?_;refine qv (v:=(.bool (!decide (ez=903)))) rfl (fun _ hC=>Xr (congrArg Value.bool aq) rfl) ?_;refine Y1 ?_;intro gv hC;replace hC:Zf ai co ai gv:=.of_below hC.below;replace ad:=ad.gr hC;replace ae:=ae.gr hC;replace aa:=aa.grow hC;exact ⟨ai,(!decide (ez=903)),hm,aa,ad,ae,rfl,rfl,rfl,rfl,rfl,rfl,rfl⟩
       rw [if_neg (Zz hb)] at hm;refine Xl (Xk ?_);refine Zb<|Zd<|Z9 ah 4 underlying27 rfl sizeOf25 isAgg25 ad rfl<|Zg rfl ?_;obtain ⟨eh,du,hm⟩:=bZ hm;refine lV _ (Zx underlying25 sizeOf56 rfl rfl (Zi du).1 (Zi du).2.1 ((bw.ks aa).addr du)) ?_;obtain ⟨_,gw,gx⟩:=(bw.ks aa).atN du;obtain ⟨⟨b1,dv,rfl,a4⟩,_⟩:=gw;replace a4:Sl (Za.pair (Za.pair Za.bool (Za.view (Za.int .u32))) (Za.view (Za.int .u32))) a3 bo b1 dv eh.2:=a4;refine lV _ (Zn isAgg56 rfl gx.one)<|Zg rfl<|lV _ (Z5 _ _ rfl rfl) ?_;obtain ⟨ei,hm⟩:=Xd hm;refine lv (v:=.slice b1 (Int.toNat (i64.wrap ((ak.length:Int)+2))) dv) rfl rfl (Vk underlying56 sizeOf47 rfl rfl ei.1 (by have:=a4.1.2;have:=ei.2;omega))<|.ld (d:=244) (v:=(.slice b1 ((eh.2.take (Int.toNat (i64.wrap ((ak.length:Int)+2)))).length) dv)) (congrArg (fun n=>Value.slice b1 n dv) (List.length_take_of_le (show (Int.toNat (i64.wrap ((ak.length:Int)+2)))≤eh.2.length by have:=ei.2;omega)).symm) ?_;refine Zu rfl<|Zc<|Zb ?_;refine Wp.cut (fun f dw=>∃ (cs:Zh) (ej:Bool),Zc6 bm (Sq N ab ac bn) ej=some r∧St w0 (Zo col) cs dw∧Zt 27 1 cs dw ah #[.string ab.1,.slice a5 ((ab.2.1.2.take ab.2.1.1).length) a6,.slice a9 ab.2.2.1.length ba,.slice bb ab.2.2.2.1.length bc,.slice bd ab.2.2.2.2.length be]∧Zt 27 2 cs dw ag #[.string ac.1,.slice a7 ac.2.1.length a8,.slice bf ac.2.2.1.length bg,.slice bh ac.2.2.2.1.length bi,.slice bj ac.2.2.2.2.length bk]∧f 10=(.int .i64 bm)∧f 2=(.pointer (some ⟨ah,0,none⟩))∧f 282=(.bool ej)∧f 3=(.pointer (some ⟨ag,0,none⟩))∧f 1000000=(enc [])) ?_ ?_
       ·intro f dw hJ;obtain ⟨cs,ej,hm,aa,ad,ae,b6,az,gy,a0,a1⟩:=hJ;rw [Zc6.eq_1] at hm;refine .lD 10 b6<|.lD 2 az<|.lD 282 gy<|.lD 3 a0<|.lD 1000000 a1 ?_;refine Zy _ rfl (fun hb=>?_) (fun hb=>?_)
        ·rw [if_pos hb] at hm;refine Zb<|Zd<|Xc rfl<|Zc<|Zq ?_;cases hm;exact ⟨rfl,rfl,aa.below⟩
        rw [if_neg (Zz hb)] at hm;refine Zr<|Zd<|Zg rfl<|lV _ (Z5 _ _ rfl rfl)<|Zj rfl<|Zc ?_;exact ⟨bn,by omega,⟨cs,(i64.wrap (bm+1)),bn,rfl,hm,aa,ad,ae,rfl,rfl,rfl,rfl⟩⟩
       refine Zd<|Zk rfl<|Zg rfl ?_;obtain ⟨ct,br,hm⟩:=bZ hm;refine lV _ (Zx underlying56 sizeOf47 rfl rfl (Zi br).1 (Zi br).2.1 ((a4.take (Int.toNat (i64.wrap ((ak.length:Int)+2)))).addr br)) ?_;refine lv (v:=(.pointer ((b1.map (·.add (Int.toNat (ak.length:Int) * 3))).map (·.add 2)))) rfl rfl (Xn (sz:=1) (off:=2) underlying47 rfl sizeOf43 (by decide) rfl rfl (Vd ((a4.take (Int.toNat (i64.wrap ((ak.length:Int)+2)))).addr br))) ?_;obtain ⟨_,gz,g0⟩:=(a4.take (Int.toNat (i64.wrap ((ak.length:Int)+2)))).atN br;obtain ⟨_,_,rfl,g1,g2⟩:=Wu gz;obtain ⟨_,_,rfl,g3,g4⟩:=Wu g1;obtain ⟨rfl,_⟩:=g3;obtain ⟨⟨il,im,rfl,io⟩,_⟩:=g4;obtain ⟨⟨ip,iq,rfl,ir⟩,_⟩:=g2;refine lV _ (Zn isAgg43 rfl ((g0).nth (q:=2) rfl))<|lV _ (Zs underlying43 rfl)<|lV _ (Yk _ _ rfl rfl)<|Xf rfl ?_;by_cases al:(!decide (((ct.2.2.take ct.2.1).length:Int)=1))=true
       ·rw [if_pos al] at hm;refine lP 252 rfl (by rw [al];rfl)<|lP 252 rfl (by rw [al];rfl)<|lP 252 rfl (by rw [al];rfl)<|lP 252 rfl (by rw [al];rfl)<|lP 252 rfl (by rw [al];rfl)<|lP 252 rfl (by rw [al];rfl)<|lP 252 rfl (by rw [al];rfl)<|lP 252 rfl (by rw [al];rfl)<|lV (.bool true) (Xm (congrArg Value.bool al) rfl)<|Xf rfl<|lP 262 rfl rfl<|lP 262 rfl rfl<|lP 262 rfl rfl<|lP 262 rfl rfl<|lP 262 rfl rfl<|lP 262 rfl rfl<|lP 262 rfl rfl<|lP 262 rfl rfl<|lV (.bool true) (Xm rfl rfl)<|Xf rfl<|lP 272 rfl rfl<|lP 272 rfl rfl<|lP 272 rfl rfl<|lP 272 rfl rfl<|lP 272 rfl rfl<|lP 272 rfl rfl<|lP 272 rfl rfl<|lP 272 rfl rfl<|lP 272 rfl rfl<|lV (.bool true) (Xm rfl rfl) ?_;refine Zc ?_;exact ⟨a3,true,hm,aa,ad,ae,rfl,rfl,rfl,rfl,rfl⟩
       rw [if_neg al] at hm;replace al:=Bool.eq_false_iff.2 al;refine lG 252 rfl (by rw [al];rfl)<|Zk rfl<|lG 252 rfl (by rw [al];rfl)<|Zg rfl<|lG 252 rfl (by rw [al];rfl) ?_;refine lV _ (Zx underlying56 sizeOf47 rfl rfl (Zi br).1 (Zi br).2.1 ((a4.take (Int.toNat (i64.wrap ((ak.length:Int)+2)))).addr br)) ?_;refine lG 252 rfl (by rw [al];rfl)<|lv (v:=(.pointer ((b1.map (·.add (Int.toNat (ak.length:Int) * 3))).map (·.add 2)))) rfl rfl (Xn (sz:=1) (off:=2) underlying47 rfl sizeOf43 (by decide) rfl rfl (Vd ((a4.take (Int.toNat (i64.wrap ((ak.length:Int)+2)))).addr br)))<|lG 252 rfl (by rw [al];rfl) ?_;obtain ⟨_,g5,g6⟩:=(a4.take (Int.toNat (i64.wrap ((ak.length:Int)+2)))).atN br;obtain ⟨_,_,rfl,g7,g8⟩:=Wu g5;obtain ⟨_,_,rfl,g9,ha⟩:=Wu g7;obtain ⟨rfl,_⟩:=g9;obtain ⟨⟨it,iu,rfl,iv⟩,_⟩:=ha;obtain ⟨⟨hc,hd,rfl,dx⟩,_⟩:=g8;replace dx:Sl (Za.int .u32) a3 bo hc hd ct.2.2:=dx;refine lV _ (Zn isAgg43 rfl ((g6).nth (q:=2) rfl))<|lG 252 rfl (by rw [al];rfl) ?_;obtain ⟨e0,dy,hm⟩:=bZ hm;refine lV _ (Zx underlying43 sizeOf79 rfl rfl (Zi dy).1 (Zi dy).2.1 ((dx.take ct.2.1).addr dy)) ?_;refine lG 252 rfl (by rw [al];rfl)<|lV _ (Zn isAgg79 rfl ((dx.take ct.2.1).atInt dy))<|lG 252 rfl (by rw [al];rfl)<|lV _ (Yk _ _ rfl rfl)<|lV (.bool (!decide (e0=97))) (Xr (congrArg Value.bool al) rfl)<|Xf rfl ?_;by_cases am:(!decide (e0=97))=true
       ·rw [if_pos am] at hm;refine lP 262 rfl (by rw [am];rfl)<|lP 262 rfl (by rw [am];rfl)<|lP 262 rfl (by rw [am];rfl)<|lP 262 rfl (by rw [am];rfl)<|lP 262 rfl (by rw [am];rfl)<|lP 262 rfl (by rw [am];rfl)<|lP 262 rfl (by rw [am];rfl)<|lP 262 rfl (by rw [am];rfl)<|lV (.bool true) (Xm (congrArg Value.bool am) rfl)<|Xf rfl<|lP 272 rfl rfl<|lP 272 rfl rfl<|lP 272 rfl rfl<|lP 272 rfl rfl<|lP 272 rfl rfl<|lP 272 rfl rfl<|lP 272 rfl rfl<|lP 272 rfl rfl<|lP 272 rfl rfl<|lV (.bool true) (Xm rfl rfl)<|Zc ?_;exact ⟨a3,true,hm,aa,ad,ae,rfl,rfl,rfl,rfl,rfl⟩
       rw [if_neg am] at hm;replace am:=Bool.eq_false_iff.2 am;refine lG 262 rfl (by rw [am];rfl)<|Zk rfl<|lG 262 rfl (by rw [am];rfl)<|Zg rfl<|lG 262 rfl (by rw [am];rfl)<|lV _ (Z5 _ _ rfl rfl)<|lG 262 rfl (by rw [am];rfl) ?_;obtain ⟨cb,bs,hm⟩:=bZ hm;refine lV _ (Zx underlying56 sizeOf47 rfl rfl (Zi bs).1 (Zi bs).2.1 ((a4.take (Int.toNat (i64.wrap ((ak.length:Int)+2)))).addr bs)) ?_;refine lG 262 rfl (by rw [am];rfl)<|lv (v:=(.pointer ((b1.map (·.add (Int.toNat (i64.wrap ((ak.length:Int)+1)) * 3))).map (·.add 2)))) rfl rfl (Xn (sz:=1) (off:=2) underlying47 rfl sizeOf43 (by decide) rfl rfl (Vd ((a4.take (Int.toNat (i64.wrap ((ak.length:Int)+2)))).addr bs)))<|lG 262 rfl (by rw [am];rfl) ?_;obtain ⟨_,he,hf⟩:=(a4.take (Int.toNat (i64.wrap ((ak.length:Int)+2)))).atN bs;obtain ⟨_,_,rfl,hg,hh⟩:=Wu he;obtain ⟨_,_,rfl,hi,hj⟩:=Wu hg;obtain ⟨rfl,_⟩:=hi;obtain ⟨⟨iw,ix,rfl,iy⟩,_⟩:=hj;obtain ⟨⟨iz,i0,rfl,i1⟩,_⟩:=hh;refine lV _ (Zn isAgg43 rfl ((hf).nth (q:=2) rfl))<|lG 262 rfl (by rw [am];rfl)<|lV _ (Zs underlying43 rfl)<|lG 262 rfl (by rw [am];rfl)<|lV _ (Yk _ _ rfl rfl)<|lV (.bool (!decide (((cb.2.2.take cb.2.1).length:Int)=1))) (Xr (congrArg Value.bool am) rfl)<|Xf rfl ?_;by_cases aj:(!decide (((cb.2.2.take cb.2.1).length:Int)=1))=true
       ·rw [if_pos aj] at hm;refine lP 272 rfl (by rw [aj];rfl)<|lP 272 rfl (by rw [aj];rfl)<|lP 272 rfl (by rw [aj];rfl)<|lP 272 rfl (by rw [aj];rfl)<|lP 272 rfl (by rw [aj];rfl)<|lP 272 rfl (by rw [aj];rfl)<|lP 272 rfl (by rw [aj];rfl)<|lP 272 rfl (by rw [aj];rfl)<|lP 272 rfl (by rw [aj];rfl)<|lV (.bool true) (Xm (congrArg Value.bool aj) rfl)<|Zc ?_;exact ⟨a3,true,hm,aa,ad,ae,rfl,rfl,rfl,rfl,rfl⟩
       rw [if_neg aj] at hm;replace aj:=Bool.eq_false_iff.2 aj;refine lG 272 rfl (by rw [aj];rfl)<|Zk rfl<|lG 272 rfl (by rw [aj];rfl)<|Zg rfl<|lG 272 rfl (by rw [aj];rfl)<|lV _ (Z5 _ _ rfl rfl)<|lG 272 rfl (by rw [aj];rfl) ?_;refine lV _ (Zx underlying56 sizeOf47 rfl rfl (Zi bs).1 (Zi bs).2.1 ((a4.take (Int.toNat (i64.wrap ((ak.length:Int)+2)))).addr bs)) ?_;refine lG 272 rfl (by rw [aj];rfl)<|lv (v:=(.pointer ((b1.map (·.add (Int.toNat (i64.wrap ((ak.length:Int)+1)) * 3))).map (·.add 2)))) rfl rfl (Xn (sz:=1) (off:=2) underlying47 rfl sizeOf43 (by decide) rfl rfl (Vd ((a4.take (Int.toNat (i64.wrap ((ak.length:Int)+2)))).addr bs)))<|lG 272 rfl (by rw [aj];rfl) ?_;obtain ⟨_,hk,hl⟩:=(a4.take (Int.toNat (i64.wrap ((ak.length:Int)+2)))).atN bs;obtain ⟨_,_,rfl,ho,hp⟩:=Wu hk;obtain ⟨_,_,rfl,hq,hr⟩:=Wu ho;obtain ⟨rfl,_⟩:=hq;obtain ⟨⟨i2,i3,rfl,i4⟩,_⟩:=hr;obtain ⟨⟨hs,ht,rfl,dz⟩,_⟩:=hp;replace dz:Sl (Za.int .u32) a3 bo hs ht cb.2.2:=dz;refine lV _ (Zn isAgg43 rfl ((hl).nth (q:=2) rfl))<|lG 272 rfl (by rw [aj];rfl) ?_;obtain ⟨e1,d0,hm⟩:=bZ hm;refine lV _ (Zx underlying43 sizeOf79 rfl rfl (Zi d0).1 (Zi d0).2.1 ((dz.take cb.2.1).addr d0)) ?_;refine lG 272 rfl (by rw [aj];rfl)<|lV _ (Zn isAgg79 rfl ((dz.take cb.2.1).atInt d0))<|lG 272 rfl (by rw [aj];rfl)<|lV _ (Yk _ _ rfl rfl)<|lV (.bool (!decide (e1=98))) (Xr (congrArg Value.bool aj) rfl)<|Zc ?_;exact ⟨a3,(!decide (e1=98)),hm,aa,ad,ae,rfl,rfl,rfl,rfl,rfl⟩
     rw [if_neg (Zz hb)] at hm;refine Xl (Xk ?_);refine Zb<|Zd<|Xc rfl<|Zc<|Zq ?_;cases hm;exact ⟨rfl,rfl,aa.below⟩
 refine Zd<|Z9 ah 0 underlying27 rfl sizeOf9 isAgg9 ad rfl<|Z9 ag 0 underlying27 rfl sizeOf9 isAgg9 ae rfl<|lV _ (Zmc _ _ underlying9 rfl rfl)<|Xf rfl ?_;by_cases ar:(!decide (ab.1=ac.1))=true
 ·rw [if_pos ar] at hm;refine lP 22 rfl (by rw [ar];rfl)<|lP 22 rfl (by rw [ar];rfl)<|lP 22 rfl (by rw [ar];rfl)<|lP 22 rfl (by rw [ar];rfl)<|lP 22 rfl (by rw [ar];rfl)<|lP 22 rfl (by rw [ar];rfl)<|lP 22 rfl (by rw [ar];rfl)<|lV (.bool true) (Xm (congrArg Value.bool ar) rfl)<|Xf rfl<|lP 31 rfl rfl<|lP 31 rfl rfl<|lP 31 rfl rfl<|lP 31 rfl rfl<|lP 31 rfl rfl<|lP 31 rfl rfl<|lP 31 rfl rfl<|lV (.bool true) (Xm rfl rfl)<|Xf rfl<|lP 40 rfl rfl<|lP 40 rfl rfl<|lP 40 rfl rfl<|lP 40 rfl rfl<|lP 40 rfl rfl<|lP 40 rfl rfl<|lP 40 rfl rfl<|lV (.bool true) (Xm rfl rfl)<|Xf rfl<|lP 49 rfl rfl<|lP 49 rfl rfl<|lP 49 rfl rfl ?_;refine lP 49 rfl rfl<|lP 49 rfl rfl<|lP 49 rfl rfl<|lV (.bool true) (Xm rfl rfl)<|Zc ?_;exact ⟨bx,true,hm,aa,ad,ae,rfl,rfl,rfl,rfl⟩
 rw [if_neg ar] at hm;replace ar:=Bool.eq_false_iff.2 ar;refine lG 22 rfl (by rw [ar];rfl)<|lF ah 2 underlying27 rfl sizeOf23<|lG 22 rfl (by rw [ar];rfl)<|lV _ (Zn isAgg23 rfl ((ad.atN).nth (q:=2) rfl))<|lG 22 rfl (by rw [ar];rfl)<|lV _ (Zs underlying23 rfl)<|lG 22 rfl (by rw [ar];rfl)<|lF ag 2 underlying27 rfl sizeOf23<|lG 22 rfl (by rw [ar];rfl)<|lV _ (Zn isAgg23 rfl ((ae.atN).nth (q:=2) rfl))<|lG 22 rfl (by rw [ar];rfl)<|lV _ (Zs underlying23 rfl)<|lG 22 rfl (by rw [ar];rfl)<|lV _ (Yk _ _ rfl rfl)<|lV (.bool (!decide ((ab.2.2.1.length:Int)=(ac.2.2.1.length:Int)))) (Xr (congrArg Value.bool ar) rfl)<|Xf rfl ?_;by_cases au:(!decide ((ab.2.2.1.length:Int)=(ac.2.2.1.length:Int)))=true
 ·rw [if_pos au] at hm;refine lP 31 rfl (by rw [au];rfl)<|lP 31 rfl (by rw [au];rfl)<|lP 31 rfl (by rw [au];rfl)<|lP 31 rfl (by rw [au];rfl)<|lP 31 rfl (by rw [au];rfl)<|lP 31 rfl (by rw [au];rfl)<|lP 31 rfl (by rw [au];rfl)<|lV (.bool true) (Xm (congrArg Value.bool au) rfl)<|Xf rfl<|lP 40 rfl rfl<|lP 40 rfl rfl<|lP 40 rfl rfl<|lP 40 rfl rfl<|lP 40 rfl rfl<|lP 40 rfl rfl<|lP 40 rfl rfl<|lV (.bool true) (Xm rfl rfl)<|Xf rfl<|lP 49 rfl rfl<|lP 49 rfl rfl<|lP 49 rfl rfl<|lP 49 rfl rfl<|lP 49 rfl rfl<|lP 49 rfl rfl<|lV (.bool true) (Xm rfl rfl)<|Zc ?_;exact ⟨bx,true,hm,aa,ad,ae,rfl,rfl,rfl,rfl⟩
 rw [if_neg au] at hm;replace au:=Bool.eq_false_iff.2 au;refine lG 31 rfl (by rw [au];rfl)<|lF ah 3 underlying27 rfl sizeOf24<|lG 31 rfl (by rw [au];rfl)<|lV _ (Zn isAgg24 rfl ((ad.atN).nth (q:=3) rfl))<|lG 31 rfl (by rw [au];rfl)<|lV _ (Zs underlying24 rfl)<|lG 31 rfl (by rw [au];rfl)<|lF ag 3 underlying27 rfl sizeOf24<|lG 31 rfl (by rw [au];rfl)<|lV _ (Zn isAgg24 rfl ((ae.atN).nth (q:=3) rfl))<|lG 31 rfl (by rw [au];rfl)<|lV _ (Zs underlying24 rfl)<|lG 31 rfl (by rw [au];rfl)<|lV _ (Yk _ _ rfl rfl)<|lV (.bool (!decide ((ab.2.2.2.1.length:Int)=(ac.2.2.2.1.length:Int)))) (Xr (congrArg Value.bool au) rfl)<|Xf rfl ?_;by_cases av:(!decide ((ab.2.2.2.1.length:Int)=(ac.2.2.2.1.length:Int)))=true
 ·rw [if_pos av] at hm;refine lP 40 rfl (by rw [av];rfl)<|lP 40 rfl (by rw [av];rfl)<|lP 40 rfl (by rw [av];rfl)<|lP 40 rfl (by rw [av];rfl)<|lP 40 rfl (by rw [av];rfl)<|lP 40 rfl (by rw [av];rfl)<|lP 40 rfl (by rw [av];rfl)<|lV (.bool true) (Xm (congrArg Value.bool av) rfl)<|Xf rfl<|lP 49 rfl rfl<|lP 49 rfl rfl<|lP 49 rfl rfl<|lP 49 rfl rfl<|lP 49 rfl rfl<|lP 49 rfl rfl<|lV (.bool true) (Xm rfl rfl)<|Zc ?_;exact ⟨bx,true,hm,aa,ad,ae,rfl,rfl,rfl,rfl⟩
 rw [if_neg av] at hm;replace av:=Bool.eq_false_iff.2 av;refine lG 40 rfl (by rw [av];rfl)<|lF ah 4 underlying27 rfl sizeOf25<|lG 40 rfl (by rw [av];rfl)<|lV _ (Zn isAgg25 rfl ((ad.atN).nth (q:=4) rfl))<|lG 40 rfl (by rw [av];rfl)<|lV _ (Zs underlying25 rfl)<|lG 40 rfl (by rw [av];rfl)<|lF ag 4 underlying27 rfl sizeOf25<|lG 40 rfl (by rw [av];rfl)<|lV _ (Zn isAgg25 rfl ((ae.atN).nth (q:=4) rfl))<|lG 40 rfl (by rw [av];rfl)<|lV _ (Zs underlying25 rfl)<|lG 40 rfl (by rw [av];rfl)<|lV _ (Yk _ _ rfl rfl)<|lV (.bool (!decide ((ab.2.2.2.2.length:Int)=(ac.2.2.2.2.length:Int)))) (Xr (congrArg Value.bool av) rfl)<|Xf rfl ?_;by_cases ay:(!decide ((ab.2.2.2.2.length:Int)=(ac.2.2.2.2.length:Int)))=true
 ·rw [if_pos ay] at hm;refine lP 49 rfl (by rw [ay];rfl)<|lP 49 rfl (by rw [ay];rfl)<|lP 49 rfl (by rw [ay];rfl)<|lP 49 rfl (by rw [ay];rfl)<|lP 49 rfl (by rw [ay];rfl)<|lP 49 rfl (by rw [ay];rfl)<|lV (.bool true) (Xm (congrArg Value.bool ay) rfl)<|Zc ?_;exact ⟨bx,true,hm,aa,ad,ae,rfl,rfl,rfl,rfl⟩
 rw [if_neg ay] at hm;replace ay:=Bool.eq_false_iff.2 ay;refine lG 49 rfl (by rw [ay];rfl)<|lF ah 1 underlying27 rfl sizeOf22<|lG 49 rfl (by rw [ay];rfl)<|lV _ (Zn isAgg22 rfl ((ad.atN).nth (q:=1) rfl))<|lG 49 rfl (by rw [ay];rfl)<|lF ag 1 underlying27 rfl sizeOf22<|lG 49 rfl (by rw [ay];rfl)<|lV _ (Zn isAgg22 rfl ((ae.atN).nth (q:=1) rfl))<|lG 49 rfl (by rw [ay];rfl) ?_;obtain ⟨ek,hu,hm⟩:=bZ hm;refine lc rfl rfl (Zrv call82 rfl rfl rfl rfl) (Znr N bx _ a5 a6 ab.2.1.1 ab.2.1.2 a7 a8 ac.2.1 (⟨#[35,49]⟩) (⟨#[35,50]⟩) (d1.ks aa) (d2.ks aa) ek hu) ?_;rintro _ hv ⟨rfl,cu⟩;refine ⟨_,rfl,?_⟩;replace cu:Zf bx e4 bx hv:=.of_below cu;refine lG 49 rfl (by rw [ay];rfl)<|lV _ (V3 _ rfl)<|lV (.bool (!ek)) (Xr (congrArg Value.bool ay) rfl)<|Zc ?_;replace ad:=ad.gr cu;replace ae:=ae.gr cu;replace aa:=aa.grow cu;exact ⟨bx,(!ek),hm,aa,ad,ae,rfl,rfl,rfl,rfl⟩
abbrev Zgr:=ByteArray×List ByteArray×List (List ByteArray)×List (List Int)×List (List QV)
abbrev VQ:=(Bool×(Nat×List Int))×(Nat×List Int)
def Wl {α:Type} (ms l:List α):Nat×List α:=(l.length,l++ms)
def Vq (x:QV):VQ:=((x.1.1,Wl [901,902] x.1.2),Wl [903,904] x.2)
def Qo (k:Int):VQ:=((false,(0,[])),([k].length,[k]))
def Vg (t:List QV):Nat×List VQ:=(t.length,t.map Vq++[Qo 97,Qo 98])
def Wf (n:Zgr):ByteArray×(Nat×List ByteArray)×List (Nat×List ByteArray)×List (Nat×List Int)×List (Nat×List VQ):=
 (n.1,Wl [⟨#[35,49]⟩,⟨#[35,50]⟩] n.2.1,n.2.2.1.map (Wl [⟨#[35,51]⟩,⟨#[35,52]⟩]),n.2.2.2.1.map (Wl [-95,-96]),n.2.2.2.2.map Vg)
structure Zis (n:Zgr):Prop where
 nm:n.2.1.length≤1048576
 vn:n.2.2.1.length≤1048576
 vl:∀ l ∈ n.2.2.1,l.length≤1048576
 pn:n.2.2.2.1.length≤1048576
 pl:∀ l ∈ n.2.2.2.1,l.length≤1048576
 tn:n.2.2.2.2.length≤1048576
 tl:∀ t ∈ n.2.2.2.2,t.length≤1048576
 tm:∀ t ∈ n.2.2.2.2,∀ x ∈ t,x.1.2.length≤1048576∧x.2.length≤1048576
theorem Zgn {α:Type} (ms l:List α):Y7 (Wl ms l)=l:=by rw [Y7,Wl];exact List.take_left
theorem Zxo {α:Type} (ms:List α) (L:List (List α)):(L.map (Wl ms)).map Y7=L:=by
 rw [List.map_map]
 conv=>rhs;rw [← List.map_id L]
 exact List.map_congr_left fun l _=>Zgn ms l
theorem Zz0 (x:QV):Prod.map (Prod.map id Y7) Y7 (Vq x)=x:=by
 rw [Vq];simp only [Prod.map,id,Zgn]
theorem Zz1 (t:List QV):Sb (Prod.map (Prod.map id Y7) Y7) (Vg t)=t:=by
 rw [Sb,Vg]
 show List.map _ (List.take t.length (t.map Vq++_))=t
 rw [show t.length=(t.map Vq).length by rw [List.length_map],List.take_left,List.map_map]
 conv=>rhs;rw [← List.map_id t]
 exact List.map_congr_left fun x _=>Zz0 x
theorem Zxp (T:List (List QV)):(T.map Vg).map (Sb (Prod.map (Prod.map id Y7) Y7))=T:=by
 rw [List.map_map]
 conv=>rhs;rw [← List.map_id T]
 exact List.map_congr_left fun t _=>Zz1 t
theorem Zzz (n:Zgr):((Wf n).1,(Wf n).2.1.2.take (Wf n).2.1.1,(Wf n).2.2.1.map Y7,(Wf n).2.2.2.1.map Y7,(Wf n).2.2.2.2.map (Sb (Prod.map (Prod.map id Y7) Y7)))=n:=by
 rw [Wf]
 simp only [Zxo,Zxp]
 have:=Zgn [⟨#[35,49]⟩,⟨#[35,50]⟩] n.2.1
 rw [Y7] at this
 rw [this]
theorem Zwb {x:QV} (h1:x.1.2.length≤1048576) (h2:x.2.length≤1048576):Zf8 x=some (Vq x):=by
 rw [Zf8,Xj (by simp only [List.length_nil,maxLen];omega),Xj (by simp only [List.length_append,List.length_nil,List.length_cons,maxLen];omega),Xj (by simp only [List.length_nil,maxLen];omega),Xj (by simp only [List.length_append,List.length_nil,List.length_cons,maxLen];omega),Xj (by simp only [List.length_append,List.length_nil,List.length_cons];omega),Xj (by simp only [List.length_append,List.length_nil,List.length_cons];omega),Vq,Wl,Wl,List.nil_append,List.nil_append,Int.toNat_natCast,Int.toNat_natCast]
section
variable {N:Nat} {n:Zgr} (hs:Zis n) (hN:1048577<N)
include hs hN
omit hN in
theorem Zpx {m4:ByteArray} {m5:List ByteArray} {m9:List (Nat×List ByteArray)} {m13:List (Nat×List Int)} {m17:List (Nat×List VQ)} {i:Nat} (hi:i<n.2.2.2.2.length) (hm:m17.length≤1048576) (hib:i≤1048576) (kk:ByteArray→List ByteArray→List (Nat×List ByteArray)→List (Nat×List Int)→List (Nat×List VQ)→Int→Option (ByteArray×(Nat×List ByteArray)×List (Nat×List ByteArray)×List (Nat×List Int)×List (Nat×List VQ))):∀ (f k:Nat) (l:List VQ),k≤n.2.2.2.2[i].length→n.2.2.2.2[i].length<f+k→l=(n.2.2.2.2[i].take k).map Vq→
  Zdb N n m4 m5 m9 m13 m17 (i:Int) kk f (k:Int) l=kk m4 m5 m9 m13 (m17++[Vg n.2.2.2.2[i]]) ((i:Int)+1)
 | 0,k,l,h1,h2,_=>by omega
 | f+1,k,l,h1,h2,h3=>by
  have ht:=hs.tl _ (List.getElem_mem hi)
  have hl:l.length=k:=by rw [h3,List.length_map,List.length_take];omega
  rw [Zdb.eq_2,Xg hi,Option.bind_some]
  by_cases hk:k<n.2.2.2.2[i].length
  ·obtain ⟨x1,x2⟩:=hs.tm _ (List.getElem_mem hi) _ (List.getElem_mem hk)
   have hc:Zf8 (((n.2.2.2.2[i][k]).1.1,(n.2.2.2.2[i][k]).1.2),(n.2.2.2.2[i][k]).2)=some (Vq n.2.2.2.2[i][k]):=Zwb (x:=n.2.2.2.2[i][k]) x1 x2
   rw [if_pos (decide_eq_true (by omega)),Xg hk,Option.bind_some,hc,Option.bind_some,Xj (by simp only [List.length_singleton,maxLen];omega),Z6 (by omega)]
   exact Zpx hi hm hib kk f (k+1) _ (by omega) (by omega) (by rw [h3,List.take_add_one,List.getElem?_eq_getElem hk,Option.toList_some,List.map_append];rfl)
  ·have hk2:k=n.2.2.2.2[i].length:=by omega
   rw [if_neg (by rw [decide_eq_false (by omega)];decide),Xj (by simp only [List.length_cons,List.length_nil,maxLen];omega),Xj (by simp only [List.length_append,List.length_cons,List.length_nil];omega),Xj (by simp only [List.length_singleton,maxLen];omega),Z6 (by omega),Int.toNat_natCast,h3,hk2,List.take_length]
   rfl
theorem Zpw {m4:ByteArray} {m5:List ByteArray} {m9:List (Nat×List ByteArray)} {m13:List (Nat×List Int)}:∀ (f i:Nat) (m17:List (Nat×List VQ)),i≤n.2.2.2.2.length→n.2.2.2.2.length<f+i→m17=(n.2.2.2.2.take i).map Vg→
  Zbk N n f m4 m5 m9 m13 m17 (i:Int)=some (m4,(n.2.1.length,m5),m9,m13,n.2.2.2.2.map Vg)
 | 0,i,m17,h1,h2,_=>by omega
 | f+1,i,m17,h1,h2,h3=>by
  have htn:=hs.tn
  have hl:m17.length=i:=by rw [h3,List.length_map,List.length_take];omega
  rw [Zbk.eq_2]
  by_cases hi:i<n.2.2.2.2.length
  ·have ht:=hs.tl _ (List.getElem_mem hi)
   rw [if_pos (decide_eq_true (by omega)),show (0:Int)=((0:Nat):Int) from rfl,Zpx hs hi (by omega) (by omega) _ N 0 [] (by omega) (by omega) (by simp)]
   exact Zpw f (i+1) _ (by omega) (by omega) (by rw [h3,List.take_add_one,List.getElem?_eq_getElem hi,Option.toList_some,List.map_append];rfl)
  ·rw [if_neg (by rw [decide_eq_false (by omega)];decide),h3,List.take_of_length_le (by omega),Int.toNat_natCast]
theorem Zpv {m4:ByteArray} {m5:List ByteArray} {m9:List (Nat×List ByteArray)}:∀ (f i:Nat) (m13:List (Nat×List Int)),i≤n.2.2.2.1.length→n.2.2.2.1.length<f+i→m13=(n.2.2.2.1.take i).map (Wl [-95,-96])→
  Zda N n f m4 m5 m9 m13 [] (i:Int)=some (m4,(n.2.1.length,m5),m9,n.2.2.2.1.map (Wl [-95,-96]),n.2.2.2.2.map Vg)
 | 0,i,m13,h1,h2,_=>by omega
 | f+1,i,m13,h1,h2,h3=>by
  have hpn:=hs.pn;have htn:=hs.tn
  have hl:m13.length=i:=by rw [h3,List.length_map,List.length_take];omega
  rw [Zda.eq_2]
  by_cases hi:i<n.2.2.2.1.length
  ·have ht:=hs.pl _ (List.getElem_mem hi)
   rw [if_pos (decide_eq_true (by omega)),Xg hi,Option.bind_some,Xj (by simp only [List.length_nil,maxLen];omega),Xj (by simp only [List.length_append,List.length_nil,List.length_cons,maxLen];omega),Xj (by simp only [List.length_append,List.length_nil,List.length_cons];omega),Xj (by simp only [List.length_singleton,maxLen];omega),Z6 (by omega)]
   exact Zpv f (i+1) _ (by omega) (by omega) (by rw [h3,List.take_add_one,List.getElem?_eq_getElem hi,Option.toList_some,List.map_append];rfl)
  ·rw [if_neg (by rw [decide_eq_false (by omega)];decide),show (0:Int)=((0:Nat):Int) from rfl,Zpw hs hN N 0 [] (by omega) (by omega) (by simp),h3,List.take_of_length_le (by omega)]
theorem Zpu {m4:ByteArray} {m5:List ByteArray}:∀ (f i:Nat) (m9:List (Nat×List ByteArray)),i≤n.2.2.1.length→n.2.2.1.length<f+i→m9=(n.2.2.1.take i).map (Wl [⟨#[35,51]⟩,⟨#[35,52]⟩])→
  Zc9 N n f m4 m5 m9 [] [] (i:Int)=some (m4,(n.2.1.length,m5),n.2.2.1.map (Wl [⟨#[35,51]⟩,⟨#[35,52]⟩]),n.2.2.2.1.map (Wl [-95,-96]),n.2.2.2.2.map Vg)
 | 0,i,m9,h1,h2,_=>by omega
 | f+1,i,m9,h1,h2,h3=>by
  have hpn:=hs.vn;have htn:=hs.pn
  have hl:m9.length=i:=by rw [h3,List.length_map,List.length_take];omega
  rw [Zc9.eq_2]
  by_cases hi:i<n.2.2.1.length
  ·have ht:=hs.vl _ (List.getElem_mem hi)
   rw [if_pos (decide_eq_true (by omega)),Xg hi,Option.bind_some,Xj (by simp only [List.length_nil,maxLen];omega),Xj (by simp only [List.length_append,List.length_nil,List.length_cons,maxLen];omega),Xj (by simp only [List.length_append,List.length_nil,List.length_cons];omega),Xj (by simp only [List.length_singleton,maxLen];omega),Z6 (by omega)]
   exact Zpu f (i+1) _ (by omega) (by omega) (by rw [h3,List.take_add_one,List.getElem?_eq_getElem hi,Option.toList_some,List.map_append];rfl)
  ·rw [if_neg (by rw [decide_eq_false (by omega)];decide),show (0:Int)=((0:Nat):Int) from rfl,Zpv hs hN N 0 [] (by omega) (by omega) (by simp),h3,List.take_of_length_le (by omega)]
theorem Zxf:Zga N n=some (Wf n):=by
 have hnm:=hs.nm;have hvn:=hs.vn
 rw [Zga,Xj (by simp only [List.length_nil,maxLen];omega),Xj (by simp only [List.length_append,List.length_nil,List.length_cons,maxLen];omega),Xj (by simp only [List.length_append,List.length_nil,List.length_cons];omega),show (0:Int)=((0:Nat):Int) from rfl,Zpu hs hN N 0 [] (by omega) (by omega) (by simp)]
 rfl
end
theorem Zbv {α:Type} (ms l:List α):(Wl ms l).2.take (Wl ms l).1=l:=Zgn ms l
theorem Zly {α:Type} (ms l:List α):(Wl ms l).2.length=l.length+ms.length:=by rw [Wl];exact List.length_append
theorem Zdy {α:Type} {ms l:List α} {j k:Nat} (hj:j<ms.length) (hk:l.length+j<k):Zv ((l++ms).take k) ((l.length+j:Nat):Int)=some ms[j]:=by
 rw [Uk,List.getElem?_take,if_pos hk,List.getElem?_append_right (by omega),show l.length+j - l.length=j by omega,List.getElem?_eq_getElem hj]
theorem Zth {N:Nat} {l:List ByteArray} {one two:ByteArray} (hl:l.length≤1048576):∀ (f i:Nat),i≤l.length→l.length<f+i→Zdf N l.length (l++[one,two]) l one two f (i:Int)=some true
 | 0,i,h1,h2=>by omega
 | f+1,i,h1,h2=>by
  have e:(l++[one,two]).take l.length=l:=List.take_left
  rw [Zdf.eq_2,e]
  by_cases hi:i<l.length
  ·rw [if_pos (decide_eq_true (by omega)),Xg hi,Option.bind_some,Option.bind_some,if_neg (by rw [decide_eq_true rfl];decide),Z6 (by omega)]
   exact Zth hl f (i+1) (by omega) (by omega)
  ·have a0:=Zdy (ms:=[one,two]) (l:=l) (j:=0) (k:=l.length+2) (by simp) (by omega)
   have a1:=Zdy (ms:=[one,two]) (l:=l) (j:=1) (k:=l.length+2) (by simp) (by omega)
   rw [if_neg (by rw [decide_eq_false (by omega)];decide),Z6 (x:=(l.length:Int)+2) (by omega),Xj (by simp only [List.length_append,List.length_cons,List.length_nil];omega),show Int.toNat ((l.length:Int)+2)=l.length+2 by omega]
   simp only [Nat.add_zero] at a0
   rw [a0,Option.bind_some,show [one,two][0]=one from rfl,if_pos (decide_eq_true rfl),Z6 (by omega),show (l.length:Int)+1=((l.length+1:Nat):Int) by omega,a1,Option.bind_some,Zh3]
   simp
theorem Zti {N:Nat} {l:List ByteArray} {one two:ByteArray} (hl:l.length≤1048576) (hN:1048577<N):Zde N (Wl [one,two] l).1 (Wl [one,two] l).2 l one two=some true:=by
 have e:(l++[one,two]).take l.length=l:=List.take_left
 rw [Zde,Wl,e,if_neg (by rw [decide_eq_true rfl];decide)]
 exact Zth hl N 0 (by omega) (by omega)
theorem Zs6 {N:Nat} {x:QV} (h1:x.1.2.length≤1048576):∀ (f i:Nat),i≤x.1.2.length→x.1.2.length<f+i→Zdd N x x f (i:Int)=some true
 | 0,i,g1,g2=>by omega
 | f+1,i,g1,g2=>by
  rw [Zdd.eq_2]
  by_cases hi:i<x.1.2.length
  ·rw [if_pos (decide_eq_true (by omega)),Xg hi,Option.bind_some,Option.bind_some,if_neg (by rw [decide_eq_true rfl];decide),Z6 (by omega)]
   exact Zs6 h1 f (i+1) (by omega) (by omega)
  ·rw [if_neg (by rw [decide_eq_false (by omega)];decide)]
theorem Zs5 {N:Nat} {x:QV} (h1:x.1.2.length≤1048576) (h2:x.2.length≤1048576) (hN:1048577<N):∀ (f i:Nat),i≤x.2.length→x.2.length<f+i→Zdc N x x f (i:Int)=some true
 | 0,i,g1,g2=>by omega
 | f+1,i,g1,g2=>by
  rw [Zdc.eq_2]
  by_cases hi:i<x.2.length
  ·rw [if_pos (decide_eq_true (by omega)),Xg hi,Option.bind_some,Option.bind_some,if_neg (by rw [decide_eq_true rfl];decide),Z6 (by omega)]
   exact Zs5 h1 h2 hN f (i+1) (by omega) (by omega)
  ·rw [if_neg (by rw [decide_eq_false (by omega)];decide)]
   exact Zs6 h1 N 0 (by omega) (by omega)
theorem Zzk {N:Nat} {x:QV} (h1:x.1.2.length≤1048576) (h2:x.2.length≤1048576) (hN:1048577<N):Zgb N x x=some true:=by
 rw [Zgb,if_neg (by rw [decide_eq_true rfl];decide),if_neg (by rw [decide_eq_true rfl];decide),Zgc,if_neg (by rw [decide_eq_true rfl];decide)]
 exact Zs5 h1 h2 hN N 0 (by omega) (by omega)
section
variable {N:Nat} {n:Zgr} (hs:Zis n) (hN:1048577<N)
include hs hN
theorem Zph {i:Nat} (hi:i<n.2.2.2.2.length) (kk:Int→Option Bool):∀ (f j:Nat),j≤n.2.2.2.2[i].length→n.2.2.2.2[i].length<f+j→
  T0 N (Wf n) n (i:Int) kk n.2.2.2.2[i] f (j:Int)=kk ((i:Int)+1)
 | 0,j,h1,h2=>by omega
 | f+1,j,h1,h2=>by
  have ht:=hs.tl _ (List.getElem_mem hi)
  have htn:=hs.tn
  have hm:Zv (Wf n).2.2.2.2 (i:Int)=some (Vg n.2.2.2.2[i]):=by
   rw [Uk]
   show (n.2.2.2.2.map Vg)[i]?=_
   rw [List.getElem?_map,List.getElem?_eq_getElem hi];rfl
  rw [T0.eq_2,hm,Option.bind_some,Option.bind_some]
  generalize hT:n.2.2.2.2[i]=t at *
  by_cases hj:j<t.length
  ·have hmem:t ∈ n.2.2.2.2:=by rw [← hT];exact List.getElem_mem hi
   obtain ⟨x1,x2⟩:=hs.tm _ hmem _ (List.getElem_mem hj)
   have e1:Zv ((Vg t).2.take (Vg t).1) (j:Int)=some (Vq t[j]):=by
    rw [Uk,Vg,List.getElem?_take,if_pos hj,List.getElem?_append_left (by rw [List.length_map];exact hj),List.getElem?_map,List.getElem?_eq_getElem hj];rfl
   rw [if_pos (decide_eq_true (by omega)),e1,Option.bind_some]
   obtain ⟨x,hx⟩:∃ x,x=t[j]:=⟨_,rfl⟩
   rw [← hx] at x1 x2 ⊢
   have v1:(Vq x).1.2.2.take (Vq x).1.2.1=x.1.2:=Zgn _ _
   have v2:(Vq x).2.2.take (Vq x).2.1=x.2:=Zgn _ _
   have l1:(Vq x).1.2.2.length=x.1.2.length+2:=Zly _ _
   have l2:(Vq x).2.2.length=x.2.length+2:=Zly _ _
   have hat:Zv n.2.2.2.2 (i:Int)=some t:=by rw [Xg hi,hT]
   have sm:Zgb N (((Vq x).1.1,x.1.2),x.2) ((x.1.1,x.1.2),x.2)=some true:=Zzk (x:=x) x1 x2 hN
   have t1:(Vq x).1.2.2.take (x.1.2.length+2)=x.1.2++[901,902]:=List.take_of_length_le (by rw [l1];omega)
   have t2:(Vq x).2.2.take (x.2.length+2)=x.2++[903,904]:=List.take_of_length_le (by rw [l2];omega)
   have q:∀ (l:List Int) (a b:Int),Zv (l++[a,b]) ((l.length:Int)+2 - 1)=some b∧Zv (l++[a,b]) ((l.length:Int)+2 - 2)=some a:=fun l a b=>by
    constructor
    ·rw [show (l.length:Int)+2 - 1=((l.length+1:Nat):Int) by omega,Uk,List.getElem?_append_right (by omega),show l.length+1 - l.length=1 by omega];rfl
    ·rw [show (l.length:Int)+2 - 2=((l.length:Nat):Int) by omega,Uk,List.getElem?_append_right (by omega),show l.length - l.length=0 by omega];rfl
   have ql:∀ (l:List Int) (a b:Int),((l++[a,b]).length:Int)=(l.length:Int)+2:=fun l a b=>by simp
   rw [v1,v2,l1,l2,Z6 (x:=(x.1.2.length:Int)+2) (by omega),Z6 (x:=(x.2.length:Int)+2) (by omega),Xj (by omega),Xj (by omega),hat,Option.bind_some,Xg hj,Option.bind_some,← hx,sm,Option.bind_some,if_neg (by decide),
    show Int.toNat ((x.1.2.length:Int)+2)=x.1.2.length+2 by omega,show Int.toNat ((x.2.length:Int)+2)=x.2.length+2 by omega,t1,t2,ql,ql,Z6 (x:=(x.1.2.length:Int)+2 - 1) (by omega),Z6 (x:=(x.1.2.length:Int)+2 - 2) (by omega),Z6 (x:=(x.2.length:Int)+2 - 1) (by omega),Z6 (x:=(x.2.length:Int)+2 - 2) (by omega),
    (q x.1.2 901 902).1,Option.bind_some,if_neg (by decide),(q x.1.2 901 902).2,Option.bind_some,if_neg (by decide),(q x.2 903 904).1,Option.bind_some,if_neg (by decide),(q x.2 903 904).2,Option.bind_some,Zbj,if_neg (by decide),Z6 (by omega)]
   have ih:=Zph hi kk f (j+1) (by rw [hT];omega) (by rw [hT];omega)
   rw [hT] at ih
   exact ih
  ·have b0:Zv ((Vg t).2.take (t.length+2)) (t.length:Int)=some (Qo 97):=by
    have:=Zdy (ms:=[Qo 97,Qo 98]) (l:=t.map Vq) (j:=0) (k:=t.length+2) (by simp) (by rw [List.length_map];omega)
    rw [List.length_map,Nat.add_zero] at this
    exact this
   have b1:Zv ((Vg t).2.take (t.length+2)) ((t.length:Int)+1)=some (Qo 98):=by
    have:=Zdy (ms:=[Qo 97,Qo 98]) (l:=t.map Vq) (j:=1) (k:=t.length+2) (by simp) (by rw [List.length_map];omega)
    rw [List.length_map] at this
    exact this
   have bl:(Vg t).2.length=t.length+2:=by rw [Vg];simp
   have c0:∀ k:Int,(Qo k).2.2.take (Qo k).2.1=[k]:=fun k=>rfl
   rw [if_neg (by rw [decide_eq_false (by omega)];decide),Z6 (x:=(t.length:Int)+2) (by omega),Xj (by omega),show Int.toNat ((t.length:Int)+2)=t.length+2 by omega,b0,Option.bind_some,c0,if_neg (by decide),show Zv [(97:Int)] 0=some 97 from rfl,Option.bind_some,if_neg (by decide),Z6 (x:=(t.length:Int)+1) (by omega),b1,Option.bind_some,c0,if_neg (by decide),show Zv [(98:Int)] 0=some 98 from rfl,Option.bind_some,Zc6,if_neg (by decide),Z6 (by omega)]
theorem Zpg:∀ (f i:Nat),i≤n.2.2.2.2.length→n.2.2.2.2.length<f+i→Sq N (Wf n) n f (i:Int)=some true
 | 0,i,h1,h2=>by omega
 | f+1,i,h1,h2=>by
  have htn:=hs.tn
  rw [Sq.eq_2]
  by_cases hi:i<n.2.2.2.2.length
  ·have ht:=hs.tl _ (List.getElem_mem hi)
   have hm:Zv (Wf n).2.2.2.2 (i:Int)=some (Vg n.2.2.2.2[i]):=by
    rw [Uk]
    show (n.2.2.2.2.map Vg)[i]?=_
    rw [List.getElem?_map,List.getElem?_eq_getElem hi];rfl
   have hl:((Vg n.2.2.2.2[i]).2.take (Vg n.2.2.2.2[i]).1).length=n.2.2.2.2[i].length:=by rw [Vg,List.length_take];simp
   have h5:=Zph hs hN hi (Sq N (Wf n) n f) N 0 (by omega) (by omega)
   rw [show ((0:Nat):Int)=0 from rfl] at h5
   rw [if_pos (decide_eq_true (by omega)),Xg hi,Option.bind_some,hm,Option.bind_some,hl,if_neg (by rw [decide_eq_true rfl];decide),h5]
   exact Zpg f (i+1) (by omega) (by omega)
  ·rw [if_neg (by rw [decide_eq_false (by omega)];decide)]
omit hN in
theorem Zpf {i:Nat} (hi:i<n.2.2.2.1.length) (kk:Int→Option Bool):∀ (f j:Nat),j≤n.2.2.2.1[i].length→n.2.2.2.1[i].length<f+j→Zc8 N (Wf n) n (i:Int) kk n.2.2.2.1[i] f (j:Int)=kk ((i:Int)+1)
 | 0,j,h1,h2=>by omega
 | f+1,j,h1,h2=>by
  have ht:=hs.pl _ (List.getElem_mem hi)
  have hpn:=hs.pn
  have hm:Zv (Wf n).2.2.2.1 (i:Int)=some (Wl [-95,-96] n.2.2.2.1[i]):=by
   rw [Uk]
   show (n.2.2.2.1.map (Wl [-95,-96]))[i]?=_
   rw [List.getElem?_map,List.getElem?_eq_getElem hi];rfl
  rw [Zc8.eq_2,hm,Option.bind_some,Option.bind_some,Zbv]
  by_cases hj:j<n.2.2.2.1[i].length
  ·rw [if_pos (decide_eq_true (by omega)),Xg hj,Option.bind_some,Xg hi,Option.bind_some,Xg hj,Option.bind_some,if_neg (by rw [decide_eq_true rfl];decide),Z6 (by omega)]
   exact Zpf hi kk f (j+1) (by omega) (by omega)
  ·have a0:=Zdy (ms:=[-95,-96]) (l:=n.2.2.2.1[i]) (j:=0) (k:=n.2.2.2.1[i].length+2) (by simp) (by omega)
   have a1:=Zdy (ms:=[-95,-96]) (l:=n.2.2.2.1[i]) (j:=1) (k:=n.2.2.2.1[i].length+2) (by simp) (by omega)
   simp only [Nat.add_zero] at a0
   have hl:(Wl [-95,-96] n.2.2.2.1[i]).2=n.2.2.2.1[i]++[-95,-96]:=rfl
   rw [if_neg (by rw [decide_eq_false (by omega)];decide),Z6 (x:=(n.2.2.2.1[i].length:Int)+2) (by omega),Xj (by rw [Zly];simp only [List.length_cons,List.length_nil];omega),show Int.toNat ((n.2.2.2.1[i].length:Int)+2)=n.2.2.2.1[i].length+2 by omega,hl,a0,Option.bind_some,if_neg (by decide),Z6 (by omega),show (n.2.2.2.1[i].length:Int)+1=((n.2.2.2.1[i].length+1:Nat):Int) by omega,a1,Option.bind_some,Zh2,if_neg (by decide),Z6 (by omega)]
theorem Zpe:∀ (f i:Nat),i≤n.2.2.2.1.length→n.2.2.2.1.length<f+i→Ql N (Wf n) n f (i:Int)=some true
 | 0,i,h1,h2=>by omega
 | f+1,i,h1,h2=>by
  have htn:=hs.pn;have htn2:=hs.tn
  rw [Ql.eq_2]
  by_cases hi:i<n.2.2.2.1.length
  ·have ht:=hs.pl _ (List.getElem_mem hi)
   have hm:Zv (Wf n).2.2.2.1 (i:Int)=some (Wl [-95,-96] n.2.2.2.1[i]):=by
    rw [Uk]
    show (n.2.2.2.1.map (Wl [-95,-96]))[i]?=_
    rw [List.getElem?_map,List.getElem?_eq_getElem hi];rfl
   have h5:=Zpf (N:=N) hs hi (Ql N (Wf n) n f) N 0 (by omega) (by omega)
   rw [show ((0:Nat):Int)=0 from rfl] at h5
   rw [if_pos (decide_eq_true (by omega)),Xg hi,Option.bind_some,hm,Option.bind_some,Zbv,if_neg (by rw [decide_eq_true rfl];decide),h5]
   exact Zpe f (i+1) (by omega) (by omega)
  ·rw [if_neg (by rw [decide_eq_false (by omega)];decide)]
   exact Zpg hs hN N 0 (by omega) (by omega)
theorem Zpd:∀ (f i:Nat),i≤n.2.2.1.length→n.2.2.1.length<f+i→Zc7 N (Wf n) n f (i:Int)=some true
 | 0,i,h1,h2=>by omega
 | f+1,i,h1,h2=>by
  have htn:=hs.vn;have htn2:=hs.pn
  rw [Zc7.eq_2]
  by_cases hi:i<n.2.2.1.length
  ·have ht:=hs.vl _ (List.getElem_mem hi)
   have hm:Zv (Wf n).2.2.1 (i:Int)=some (Wl [⟨#[35,51]⟩,⟨#[35,52]⟩] n.2.2.1[i]):=by
    rw [Uk]
    show (n.2.2.1.map (Wl [⟨#[35,51]⟩,⟨#[35,52]⟩]))[i]?=_
    rw [List.getElem?_map,List.getElem?_eq_getElem hi];rfl
   rw [if_pos (decide_eq_true (by omega)),hm,Option.bind_some,Xg hi,Option.bind_some,Zti ht hN,Option.bind_some,if_neg (by decide),Z6 (by omega)]
   exact Zpd f (i+1) (by omega) (by omega)
  ·rw [if_neg (by rw [decide_eq_false (by omega)];decide)]
   exact Zpe hs hN N 0 (by omega) (by omega)
theorem Zw9:Zf9 N (Wf n) n=some true:=by
 have h1:=hs.nm;have h2:=hs.vn
 have l1:(Wf n).2.2.1.length=n.2.2.1.length:=by show (n.2.2.1.map _).length=_;rw [List.length_map]
 have l2:(Wf n).2.2.2.1.length=n.2.2.2.1.length:=by show (n.2.2.2.1.map _).length=_;rw [List.length_map]
 have l3:(Wf n).2.2.2.2.length=n.2.2.2.2.length:=by show (n.2.2.2.2.map _).length=_;rw [List.length_map]
 have t1:Zde N (Wf n).2.1.1 (Wf n).2.1.2 n.2.1 (⟨#[35,49]⟩) (⟨#[35,50]⟩)=some true:=Zti h1 hN
 rw [Zf9,l1,l2,l3,if_neg (by rw [show (Wf n).1=n.1 from rfl,decide_eq_true rfl];decide),if_neg (by rw [decide_eq_true rfl];decide),if_neg (by rw [decide_eq_true rfl];decide),if_neg (by rw [decide_eq_true rfl];decide),t1,Option.bind_some,Zbi,if_neg (by decide)]
 exact Zpd hs hN N 0 (by omega) (by omega)
end
def Zaw (kk_L2:(Option Int)):List Int→(List (Int×Int))→Option Int
  | [],aa=>kk_L2
  | ab :: ac,aa=>if (decide (0<((X4 aa ab).getD 0)))=true then (some 40) else ((some (Vm aa ab 1)).bind fun ad=>(Zaw kk_L2 ac) ad)
termination_by structural x=>x
def S8:List (List Int)→Option Int
  | []=>some 0
  | aa :: ab=>Zaw (S8 ab) aa ([]:List (Int×Int))
termination_by structural x=>x
def Zeg (kk_L4:(Option Int)) (aa:Bool):Option Int:=
  if aa=true then (some 3) else kk_L4
def S9 (aa:(List (List Int))) (kk_L1:(Option Int)):List Int→Option Int
  | []=>kk_L1
  | ab :: ac=>if (decide (ab<0))=true then (Zeg (S9 aa kk_L1 ac) true) else (Zeg (S9 aa kk_L1 ac) (decide ((aa.length:Int)≤ab)))
termination_by structural x=>x
def S7 (aa:(List (List Int))):List (List Int)→Option Int
  | []=>S8 aa
  | ab :: ac=>S9 aa (S7 aa ac) ab
termination_by structural x=>x
def Zef (aa:(List (List Int))):Option Int:=
  S7 aa aa
theorem Zub (col:Zh) (w0:World) (a0:Option Addr) (af:Nat) (aa:(List (List Int))) (h0:Sl (Za.slice (Za.int .i64)) col w0 a0 af aa) (r:Int) (hm:Zef aa=some r):
    Calls Tryz.prog 201 #[.slice a0 aa.length af] w0 (fun e w'=>e= .returned ((.int .i64 r))∧Below w0.heap.size w0 w'):=by
 refine Xv 2 (m:=57) func201 rfl rfl rfl rfl rfl ?_;rw [Zef.eq_1] at hm;have ab:=St.start col w0;refine Zb<|Zd<|Zj rfl<|Zc<|Zb<|Zb<|Zd<|Zk rfl<|lV _ (Zs underlying24 rfl)<|Zg rfl<|Zc<|Z0<|Xi (fun n f bo=>∃ (a2:Zh) (aj:Nat) (aq:List (List Int)),n=aq.length∧aa.drop aj=aq∧S7 aa aq=some r∧St w0 (Zo col) a2 bo∧f 14=(.int .i64 aj)∧f 0=(.slice a0 aa.length af)∧f 12=(.slice a0 aa.length af)∧f 13=(.int .i64 aa.length)∧f 1000000=(enc [])) aa.length ⟨(Zo col),0,aa,rfl,rfl,hm,ab,rfl,rfl,rfl,rfl,rfl⟩ ?_;clear hm;intro n f bo hI;obtain ⟨a2,aj,aq,hn,hl,hm,ab,ar,au,av,aw,ah⟩:=hI;subst hn;refine .lD 14 ar<|.lD 0 au<|.lD 12 av<|.lD 13 aw<|.lD 1000000 ah ?_;replace h0:=h0.keep (Zp.start col w0)
 cases aq with
 | nil=>
  have hk:¬ ((aj:Int)<(aa.length:Int)):=by have:=List.drop_eq_nil_iff.1 hl;omega
  have hkb:=decide_eq_false hk;rw [S7.eq_1] at hm;refine Zb<|Zd<|lV _ (Z4 _ _ rfl rfl)<|Zc<|Zb<|Wn (congrArg Value.bool hkb) ?_;refine Xl (Xk ?_);refine Zb<|Zb<|Zd<|Zk rfl<|lV _ (Zs underlying24 rfl)<|Zg rfl<|Zc<|Z0<|Xi (fun n f bp=>∃ (a9:Zh) (al:Nat) (ax:List (List Int)),n=ax.length∧aa.drop al=ax∧S8 ax=some r∧St w0 (Zo col) a9 bp∧f 36=(.int .i64 al)∧f 34=(.slice a0 aa.length af)∧f 35=(.int .i64 aa.length)∧f 1000000=(enc [])) aa.length ⟨a2,0,aa,rfl,rfl,hm,ab,rfl,rfl,rfl,rfl⟩ ?_;clear hm;intro n f bp hI;obtain ⟨a9,al,ax,hn,hl,hm,ab,ba,bb,bc,ah⟩:=hI;subst hn;refine .lD 36 ba<|.lD 34 bb<|.lD 35 bc<|.lD 1000000 ah ?_
  cases ax with
  | nil=>
   have hk:¬ ((al:Int)<(aa.length:Int)):=by have:=List.drop_eq_nil_iff.1 hl;omega
   have hkb:=decide_eq_false hk;rw [S8.eq_1] at hm;refine Zb<|Zd<|lV _ (Z4 _ _ rfl rfl)<|Zc<|Zb<|Wn (congrArg Value.bool hkb) ?_;refine Xl (Xk ?_);refine Zb<|Zd<|Zj rfl<|Zc<|Zq ?_;cases hm;exact ⟨rfl,rfl,ab.below⟩
  | cons ak bd=>
   obtain ⟨ac,bz,b0⟩:=Wv hl;have hk:(al:Int)<(aa.length:Int):=by omega
   have hkb:=decide_eq_true hk;rw [S8.eq_2] at hm;refine Zb<|Zd<|lV _ (Z4 _ _ rfl rfl)<|Zc<|Zb<|Wo (congrArg Value.bool hkb)<|Zr<|Zb<|Z0<|Zb<|Zd ?_;refine lV _ (Zx underlying24 sizeOf40 rfl rfl (Zi ac).1 (Zi ac).2.1 ((h0.ks ab).addr ac)) ?_;obtain ⟨_,b1,b2⟩:=(h0.ks ab).atN ac;obtain ⟨⟨bq,br,rfl,ag⟩,_⟩:=b1;refine lV _ (Zn isAgg40 rfl b2.one)<|Zu rfl<|Zc<|Zb<|Zd<|Zk rfl<|lV _ (Zs underlying40 rfl)<|Zpm (col:=a9) (fk:=(Value.int .i64)) (fv:=(Value.int .i64)) 1 rfl underlying243 rfl ?_;intro b3 ck b4 bs b5;refine Zjf rfl<|Zc<|Zb<|Zd<|Zk rfl<|lV _ (Zs underlying40 rfl)<|Zg rfl<|Zc<|Z0 ?_;replace ag:=ag.gr bs;replace ab:=ab.grow bs;refine Xi (fun n f a3=>∃ (an:Zh) (ao:Nat) (a4:Nat) (ay:List (Int×Int)) (az:List Int),n=az.length∧ak.drop ao=az∧Zaw (S8 bd) az ay=some r∧St w0 (Zo col) an a3∧Sl (Za.int .i64) an a3 bq br ak∧Ym (Value.int .i64) (Value.int .i64) 1 an a3 a4 ay∧f 45=(.int .i64 ao)∧f 34=(.slice a0 aa.length af)∧f 35=(.int .i64 aa.length)∧f 36=(.int .i64 al)∧f 43=(.slice bq ak.length br)∧f 44=(.int .i64 ak.length)∧f 9=(.map (some a4))∧f 1000000=(enc [])) ak.length ⟨b4,0,b3,([]:List (Int×Int)),ak,rfl,rfl,hm,ab,ag,b5,rfl,rfl,rfl,rfl,rfl,rfl,rfl,rfl⟩ ?_;clear hm;intro n f a3 hI;obtain ⟨an,ao,a4,ay,az,hn,hl,hm,ab,ag,bt,b6,bb,bc,ba,b7,b8,b9,ah⟩:=hI;subst hn;refine .lD 45 b6<|.lD 34 bb<|.lD 35 bc<|.lD 36 ba<|.lD 43 b7<|.lD 44 b8<|.lD 9 b9<|.lD 1000000 ah ?_
   cases az with
   | nil=>
    have hk:¬ ((ao:Int)<(ak.length:Int)):=by have:=List.drop_eq_nil_iff.1 hl;omega
    have hkb:=decide_eq_false hk;rw [Zaw.eq_1] at hm;refine Zb<|Zd<|lV _ (Z4 _ _ rfl rfl)<|Zc<|Zb<|Wn (congrArg Value.bool hkb) ?_;refine Xl (Xk ?_);refine Zd<|lV _ (Z5 _ _ rfl rfl)<|Zg rfl<|Zc ?_;exact ⟨bd.length,by simp,⟨an,(al+1),bd,rfl,bz,hm,ab,(congrArg (Value.int .i64) (Wy (Nat.lt_of_lt_of_le b0 (h0.ks ab).1.1))),rfl,rfl,rfl⟩⟩
   | cons be bu=>
    obtain ⟨ac,ca,cb⟩:=Wv hl;have hk:(ao:Int)<(ak.length:Int):=by omega
    have hkb:=decide_eq_true hk;rw [Zaw.eq_2] at hm;refine Zb<|Zd<|lV _ (Z4 _ _ rfl rfl)<|Zc<|Zb<|Wo (congrArg Value.bool hkb)<|Zr<|Zb<|Z0<|Zb<|Zd ?_;refine lV _ (Zx underlying40 sizeOf3 rfl rfl (Zi ac).1 (Zi ac).2.1 (ag.addr ac)) ?_;refine lV _ (Zn isAgg3 rfl (ag.atInt ac))<|Zj rfl<|Zc<|Zb<|Zb<|Zd<|Sh rfl<|Zg rfl<|lV (.int .i64 ((X4 ay be).getD 0)) (Zkj Vt.int bt underlying243 underlying3 zeroValue3 rfl rfl)<|lV _ (Wa _ _ rfl rfl)<|Zc ?_;refine Zy _ rfl (fun hb=>?_) (fun hb=>?_)
    ·rw [if_pos hb] at hm;refine Zb<|Zd<|Zj rfl<|Zc<|Zq ?_;cases hm;exact ⟨rfl,rfl,ab.below⟩
    rw [if_neg (Zz hb)] at hm;refine Zr<|Zd<|Sh rfl<|Zg rfl ?_;obtain ⟨bv,bf,hm⟩:=bZ hm;have bf:bv=Vm ay be 1:=(Option.some.inj bf).symm;refine Zg4 (k:=be) (v:=1) Vt.int bt underlying243 underlying3 rfl rfl rfl ?_;intro cl bw cc bx;rw [← bf] at bx;refine Zc<|Zd<|lV _ (Z5 _ _ rfl rfl)<|Zg rfl<|Zc ?_;replace ag:=ag.kp bw;replace ab:=ab.kp bw cc;exact ⟨bu.length,by simp,⟨an,(ao+1),a4,bv,bu,rfl,ca,hm,ab,ag,bx,(congrArg (Value.int .i64) (Wy (Nat.lt_of_lt_of_le cb ag.1.1))),rfl,rfl,rfl,rfl,rfl,rfl,rfl⟩⟩
 | cons ae a5=>
  obtain ⟨ac,cd,ce⟩:=Wv hl;have hk:(aj:Int)<(aa.length:Int):=by omega
  have hkb:=decide_eq_true hk;rw [S7.eq_2] at hm;refine Zb<|Zd<|lV _ (Z4 _ _ rfl rfl)<|Zc<|Zb<|Wo (congrArg Value.bool hkb)<|Zr<|Zb<|Z0<|Zb<|Zd ?_;refine lV _ (Zx underlying24 sizeOf40 rfl rfl (Zi ac).1 (Zi ac).2.1 ((h0.ks ab).addr ac)) ?_;obtain ⟨_,cf,cg⟩:=(h0.ks ab).atN ac;obtain ⟨⟨a6,a7,rfl,ai⟩,_⟩:=cf;refine lV _ (Zn isAgg40 rfl cg.one)<|Zu rfl<|Zc<|Zb<|Zd<|Zk rfl<|lV _ (Zs underlying40 rfl)<|Zg rfl<|Zc<|Z0<|Xi (fun n f bg=>∃ (ap:Zh) (am:Nat) (a1:List Int),n=a1.length∧ae.drop am=a1∧S9 aa (S7 aa a5) a1=some r∧St w0 (Zo col) ap bg∧Sl (Za.int .i64) ap bg a6 a7 ae∧f 20=(.int .i64 am)∧f 0=(.slice a0 aa.length af)∧f 12=(.slice a0 aa.length af)∧f 13=(.int .i64 aa.length)∧f 14=(.int .i64 aj)∧f 18=(.slice a6 ae.length a7)∧f 19=(.int .i64 ae.length)∧f 1000000=(enc [])) ae.length ⟨a2,0,ae,rfl,rfl,hm,ab,ai,rfl,rfl,rfl,rfl,rfl,rfl,rfl,rfl⟩ ?_;clear hm;intro n f bg hI;obtain ⟨ap,am,a1,hn,hl,hm,ab,ai,bh,au,av,aw,ar,bi,bj,ah⟩:=hI;subst hn;refine .lD 20 bh<|.lD 0 au<|.lD 12 av<|.lD 13 aw<|.lD 14 ar<|.lD 18 bi<|.lD 19 bj<|.lD 1000000 ah ?_
  cases a1 with
  | nil=>
   have hk:¬ ((am:Int)<(ae.length:Int)):=by have:=List.drop_eq_nil_iff.1 hl;omega
   have hkb:=decide_eq_false hk;rw [S9.eq_1] at hm;refine Zb<|Zd<|lV _ (Z4 _ _ rfl rfl)<|Zc<|Zb<|Wn (congrArg Value.bool hkb) ?_;refine Xl (Xk ?_);refine Zd<|lV _ (Z5 _ _ rfl rfl)<|Zg rfl<|Zc ?_;exact ⟨a5.length,by simp,⟨ap,(aj+1),a5,rfl,cd,hm,ab,(congrArg (Value.int .i64) (Wy (Nat.lt_of_lt_of_le ce (h0.ks ab).1.1))),rfl,rfl,rfl,rfl⟩⟩
  | cons bk bl=>
   obtain ⟨ac,ch,ci⟩:=Wv hl;have hk:(am:Int)<(ae.length:Int):=by omega
   have hkb:=decide_eq_true hk;rw [S9.eq_2] at hm;refine Zb<|Zd<|lV _ (Z4 _ _ rfl rfl)<|Zc<|Zb<|Wo (congrArg Value.bool hkb)<|Zr<|Zb<|Z0<|Zb<|Zd ?_;refine lV _ (Zx underlying40 sizeOf3 rfl rfl (Zi ac).1 (Zi ac).2.1 (ai.addr ac)) ?_;refine lV _ (Zn isAgg3 rfl (ai.atInt ac))<|Zj rfl<|Zc<|Zb ?_;refine Wp.cut (fun f bm=>∃ (a8:Zh) (bn:Bool),Zeg (S9 aa (S7 aa a5) bl) bn=some r∧St w0 (Zo col) a8 bm∧Sl (Za.int .i64) a8 bm a6 a7 ae∧f 0=(.slice a0 aa.length af)∧f 12=(.slice a0 aa.length af)∧f 13=(.int .i64 aa.length)∧f 14=(.int .i64 aj)∧f 18=(.slice a6 ae.length a7)∧f 19=(.int .i64 ae.length)∧f 20=(.int .i64 am)∧f 31=(.bool bn)∧f 1000000=(enc [])) ?_ ?_
   ·intro f bm hJ;obtain ⟨a8,bn,hm,ab,ai,au,av,aw,ar,bi,bj,bh,cj,ah⟩:=hJ;rw [Zeg.eq_1] at hm;refine .lD 0 au<|.lD 12 av<|.lD 13 aw<|.lD 14 ar<|.lD 18 bi<|.lD 19 bj<|.lD 20 bh<|.lD 31 cj<|.lD 1000000 ah ?_;refine Zy _ rfl (fun hb=>?_) (fun hb=>?_)
    ·rw [if_pos hb] at hm;refine Zb<|Zd<|Zj rfl<|Zc<|Zq ?_;cases hm;exact ⟨rfl,rfl,ab.below⟩
    rw [if_neg (Zz hb)] at hm;refine Zr<|Zd<|lV _ (Z5 _ _ rfl rfl)<|Zg rfl<|Zc ?_;exact ⟨bl.length,by simp,⟨a8,(am+1),bl,rfl,ch,hm,ab,ai,(congrArg (Value.int .i64) (Wy (Nat.lt_of_lt_of_le ci ai.1.1))),rfl,rfl,rfl,rfl,rfl,rfl,rfl⟩⟩
   refine Zd<|Zg rfl<|lV _ (Z4 _ _ rfl rfl)<|Xf rfl ?_;by_cases ad:(decide (bk<0))=true
   ·rw [if_pos ad] at hm;refine lP 26 rfl (gq ad)<|lP 26 rfl (gq ad)<|lP 26 rfl (gq ad)<|lP 26 rfl (gq ad)<|lV (.bool true) (Xm (congrArg Value.bool ad) rfl)<|Zc ?_;exact ⟨ap,true,hm,ab,ai,rfl,rfl,rfl,rfl,rfl,rfl,rfl,rfl,rfl⟩
   rw [if_neg ad] at hm;replace ad:=Bool.eq_false_iff.2 ad;refine lG 26 rfl (gq ad)<|Zg rfl<|lG 26 rfl (gq ad)<|Zk rfl<|lG 26 rfl (gq ad)<|lV _ (Zs underlying24 rfl)<|lG 26 rfl (gq ad)<|lV _ (Uq _ _ rfl rfl)<|lV (.bool (decide ((aa.length:Int)≤bk))) (Xr (congrArg Value.bool ad) rfl)<|Zc ?_;exact ⟨ap,(decide ((aa.length:Int)≤bk)),hm,ab,ai,rfl,rfl,rfl,rfl,rfl,rfl,rfl,rfl,rfl⟩
theorem Zoj:Y2 Tryz.prog 3 1 8:=⟨Tryz.t3,_,rfl,rfl,rfl,rfl,rfl⟩
def Zav (aa:Nat) (kk_L1:(Nat→(List (List Int))→Option (List (List Int)))):List Int→(List (List Int))→Option (List (List Int))
  | [],ab=>kk_L1 (aa+1) ab
  | ad :: ae,ab=>(Zv ab ad).bind fun ac=>Xb ((ac.length+[(aa:Int)].length) * 8≤140737488355328∧ac.length+[(aa:Int)].length≤maxLen) ((Zav aa kk_L1 ae) (ab.set (Int.toNat ad) (ac++[(aa:Int)])))
termination_by structural x=>x
def S6:List (List Int)→Nat→(List (List Int))→Option (List (List Int))
  | [],ab,aa=>some aa
  | ac :: ad,ab,aa=>Zav ab (S6 ad) ac aa
termination_by structural x=>x
def Zee (aa:(List (List Int))):Option (List (List Int)):=
  Xb (aa.length * 24≤281474976710656∧aa.length≤maxLen) (S6 aa 0 (List.replicate aa.length (([]:List Int):List Int)))
theorem Zua (c1:Nat) (col:Zh) (w0:World) (a0:Option Addr) (ay:Nat) (ac:(List (List Int))) (h0:Sl (Za.slice (Za.int .i64)) col w0 a0 ay ac) (r:(List (List Int))) (hm:Zee ac=some r):
    Calls Tryz.prog 203 #[.slice a0 ac.length ay] w0 (fun e w'=>∃ (col':Zh) (ra1:Option Addr) (rc2:Nat),e= .returned ((.slice ra1 r.length rc2))∧Zf col w0 col' w'∧Zl (Za.row 3 (Za.int .i64)) 40 c1 col' w' ra1 rc2 r):=by
 refine Xv 2 (m:=37) func203 rfl rfl rfl rfl rfl ?_;rw [Zee.eq_1] at hm;have ab:=St.start col w0;refine Zb<|Zd<|Zu rfl<|Zc<|Zb<|Zd<|Zk rfl<|lV _ (Zs underlying24 rfl) ?_;obtain ⟨be,hm⟩:=Xd hm;refine Qr (col:=(Zo col)) (w:=w0) (r:=(Za.row 3 (Za.int .i64))) (n:=ac.length) (x0:=([]:List Int)) 1 rfl underlying24 Tryz.t40 rfl rfl rfl rfl rfl rfl rfl be.1 be.2 Zy8 ?_;intro bp ce bq br bs;refine Zu rfl<|Zc<|Zb<|Zb<|Zd<|Zk rfl<|lV _ (Zs underlying24 rfl)<|Zg rfl<|Zc<|Z0 ?_;replace ab:=ab.grow br;refine Xi (fun n f a1=>∃ (an:Zh) (aa:Nat) (ao:Option Addr) (ap:Nat) (aq:List (List Int)) (ar:List (List Int)),n=ar.length∧ac.drop aa=ar∧S6 ar aa aq=some r∧St w0 (Zo col) an a1∧Zl (Za.row 3 (Za.int .i64)) 40 1 an a1 ao ap aq∧f 13=(.int .i64 aa)∧f 11=(.slice a0 ac.length ay)∧f 12=(.int .i64 ac.length)∧f 3=(.slice ao aq.length ap)∧f 1000000=(enc [])) ac.length ⟨bq,0,bp,ac.length,(List.replicate ac.length (([]:List Int):List Int)),ac,rfl,rfl,hm,ab,bs,rfl,rfl,rfl,rfl,rfl⟩ ?_;clear hm;intro n f a1 hI;obtain ⟨an,aa,ao,ap,aq,ar,hn,hl,hm,ab,bf,a2,a3,a4,a5,a6⟩:=hI;subst hn;refine .lD 13 a2<|.lD 11 a3<|.lD 12 a4<|.lD 3 a5<|.lD 1000000 a6 ?_;replace h0:=h0.keep (Zp.start col w0)
 cases ar with
 | nil=>
  have hk:¬ ((aa:Int)<(ac.length:Int)):=by have:=List.drop_eq_nil_iff.1 hl;omega
  have hkb:=decide_eq_false hk;rw [S6.eq_1] at hm;refine Zb<|Zd<|lV _ (Z4 _ _ rfl rfl)<|Zc<|Zb<|Wn (congrArg Value.bool hkb) ?_;refine Xl (Xk ?_);refine Zb<|Zd<|Zk rfl<|Zu rfl<|Zc<|Zq ?_;cases hm;exact ⟨rfl,Xh w0.heap.size col an (fun n=>bif Nat.beq n 1 then c1 else 0),ao,ap,rfl,ab.fin (fun n=>bif Nat.beq n 1 then c1 else 0),ab.finOwn (g:=(fun n=>bif Nat.beq n 1 then c1 else 0)) rfl bf (by decide) (by decide) rfl⟩
 | cons ai a7=>
  obtain ⟨af,bt,bu⟩:=Wv hl;have hk:(aa:Int)<(ac.length:Int):=by omega
  have hkb:=decide_eq_true hk;rw [S6.eq_2] at hm;refine Zb<|Zd<|lV _ (Z4 _ _ rfl rfl)<|Zc<|Zb<|Wo (congrArg Value.bool hkb)<|Zr<|Zb<|Z0<|Zb<|Zd<|Zg rfl ?_;refine lV _ (Zx underlying24 sizeOf40 rfl rfl (Zi af).1 (Zi af).2.1 ((h0.ks ab).addr af)) ?_;obtain ⟨_,bv,bw⟩:=(h0.ks ab).atN af;obtain ⟨⟨bg,bh,rfl,ae⟩,_⟩:=bv;refine lV _ (Zn isAgg40 rfl bw.one)<|Zj rfl<|Zu rfl<|Zc<|Zb<|Zd<|Zk rfl<|lV _ (Zs underlying40 rfl)<|Zg rfl<|Zc<|Z0<|Xi (fun n f au=>∃ (av:Zh) (ak:Nat) (ag:Option Addr) (ah:Nat) (ad:List (List Int)) (aw:List Int),n=aw.length∧ai.drop ak=aw∧Zav aa (S6 a7) aw ad=some r∧St w0 (Zo col) av au∧Sl (Za.int .i64) av au bg bh ai∧Zl (Za.row 3 (Za.int .i64)) 40 1 av au ag ah ad∧f 20=(.int .i64 ak)∧f 11=(.slice a0 ac.length ay)∧f 12=(.int .i64 ac.length)∧f 13=(.int .i64 aa)∧f 18=(.slice bg ai.length bh)∧f 19=(.int .i64 ai.length)∧f 3=(.slice ag ad.length ah)∧f 4=(.int .i64 aa)∧f 1000000=(enc [])) ai.length ⟨an,0,ao,ap,aq,ai,rfl,rfl,hm,ab,ae,bf,rfl,rfl,rfl,rfl,rfl,rfl,rfl,rfl,rfl⟩ ?_;clear hm;intro n f au hI;obtain ⟨av,ak,ag,ah,ad,aw,hn,hl,hm,ab,ae,a8,bx,a3,a4,a2,bz,b0,a5,b1,a6⟩:=hI;subst hn;refine .lD 20 bx<|.lD 11 a3<|.lD 12 a4<|.lD 13 a2<|.lD 18 bz<|.lD 19 b0<|.lD 3 a5<|.lD 4 b1<|.lD 1000000 a6 ?_
  cases aw with
  | nil=>
   have hk:¬ ((ak:Int)<(ai.length:Int)):=by have:=List.drop_eq_nil_iff.1 hl;omega
   have hkb:=decide_eq_false hk;rw [Zav.eq_1] at hm;refine Zb<|Zd<|lV _ (Z4 _ _ rfl rfl)<|Zc<|Zb<|Wn (congrArg Value.bool hkb) ?_;refine Xl (Xk ?_);refine Zd<|lV _ (Z5 _ _ rfl rfl)<|Zg rfl<|Zc ?_;exact ⟨a7.length,by simp,⟨av,(aa+1),ag,ah,ad,a7,rfl,bt,hm,ab,a8,(congrArg (Value.int .i64) (Wy (Nat.lt_of_lt_of_le bu (h0.ks ab).1.1))),rfl,rfl,rfl,rfl⟩⟩
  | cons ax bi=>
   obtain ⟨af,b2,b3⟩:=Wv hl;have hk:(ak:Int)<(ai.length:Int):=by omega
   have hkb:=decide_eq_true hk;rw [Zav.eq_2] at hm;refine Zb<|Zd<|lV _ (Z4 _ _ rfl rfl)<|Zc<|Zb<|Wo (congrArg Value.bool hkb)<|Zr<|Zb<|Z0<|Zb<|Zd ?_;refine lV _ (Zx underlying40 sizeOf3 rfl rfl (Zi af).1 (Zi af).2.1 (ae.addr af)) ?_;refine lV _ (Zn isAgg3 rfl (ae.atInt af))<|Zj rfl<|Zc<|Zd<|Zk rfl<|Zg rfl<|Zk rfl<|Zg rfl ?_;obtain ⟨al,am,hm⟩:=bZ hm;refine lV _ (Zx underlying24 sizeOf40 rfl rfl (Zi am).1 (Zi am).2.1 (a8.addr am)) ?_;obtain ⟨_,bj,bk,aj,b4⟩:=a8.open_ 2 (by decide) am;obtain ⟨b5,b6,rfl,a9⟩:=b4.row;replace aj:W1 (Za.row 3 (Za.int .i64)) 40 1 bj au ag ah ad (Int.toNat ax) [.slice b5 al.length b6]:=aj;refine lV _ (Zn isAgg40 rfl aj.atN.one)<|Zg rfl<|Wk (col:=bj) (r:=(Za.int .i64)) (xs:=[(aa:Int)]) [.int .i64 aa] 3 rfl underlying40 Zoj rfl rfl rfl rfl rfl rfl (by intro v hv;simp only [List.mem_cons,List.not_mem_nil,or_false] at hv;subst hv;rfl) (Y6.ofF (Rows.consF (r:=(Za.int .i64)) (x:=(aa:Int)) (cs:=[.int .i64 aa]) (X8 .i64 (aa:Int)) Rows.nil0)) ?_;intro cf b7 b8 az b9;obtain ⟨bl,hm⟩:=Xd hm;replace a9:=a9.gr az;refine Qq (col:=b8) (w:=b7) (r:=(Za.int .i64)) (c:=2) (c2:=2) (a9.ex) (b9.srcN (NB.int (k:=.i64))) rfl underlying40 Zoj rfl rfl rfl bl.1 bl.2 (by decide) ?_;intro bm bn cg bo ba bb;replace aj:=(aj.gr az).kpp ba;refine lV _ (Zx underlying24 sizeOf40 rfl rfl (Zi am).1 (Zi am).2.1 (aj.addr)) ?_;refine Zxc (v:=(.slice bm ((al++[(aa:Int)]).length) bn)) aj rfl sizeOf40 rfl (by intro u hu;simp only [Value.cells,List.mem_cons,List.not_mem_nil,or_false] at hu;subst hu;rfl) rfl rfl (by decide) ?_;intro ca bc cb bd;replace bd:W1 (Za.row 3 (Za.int .i64)) 40 1 bo ca ag ah ad (Int.toNat ax) [.slice bm ((al++[(aa:Int)]).length) bn]:=bd;replace bb:=bb.kp bc;have cc:=bb.new;have cd:=bd.close cc.has (by decide) (by decide);replace ae:=(((ae.kpp bk).gr az).kpp ba).kp bc;replace ae:=ae.recol 2 1 (by decide);replace ab:=(((ab.kpp bk).grow az).kpp ba).kp bc cb;replace ab:=ab.recol 2 1 (by decide) (by decide);refine .ld (d:=3) (v:=(.slice ag ((ad.set (Int.toNat ax) (al++[(aa:Int)])).length) ah)) (congrArg (fun n=>Value.slice ag n ah) (show ad.length=(ad.set (Int.toNat ax) (al++[(aa:Int)])).length by simp only [List.length_set])) ?_;refine Zc<|Zd<|lV _ (Z5 _ _ rfl rfl)<|Zg rfl<|Zc ?_
   exact ⟨bi.length,by simp,⟨(X7 2 1 bo),(ak+1),ag,ah,(ad.set (Int.toNat ax) (al++[(aa:Int)])),bi,rfl,b2,hm,ab,ae,cd,(congrArg (Value.int .i64) (Wy (Nat.lt_of_lt_of_le b3 ae.1.1))),rfl,rfl,rfl,rfl,rfl,rfl,rfl,rfl⟩⟩
def Zax (aa:Int) (kk_L2:(Int→Int→Option (Int×List Int))) (ab:Int):Option (Int×List Int):=
  kk_L2 (i64.wrap (aa+1)) ab
def Zeh (aa:Int) (ab:Int) (kk_L2:(Int→Int→Option (Int×List Int))) (ac:Int) (ad:Bool):Option (Int×List Int):=
  if ad=true then (Zax aa kk_L2 ac) else (Zax aa kk_L2 ab)
def Ts (N:Nat) (ad:List Int) (ag:Int) (aa:List Int) (ac:Int) (kk_L1:(List Int→Int→Option (Int×List Int))):Nat→Int→Int→Option (Int×List Int)
  | 0,_,_=>none
  | ah+1,ae,ab=>if (decide (ae<2))=true then ((Zv [i64.wrap ((i64.wrap (2 * ac))+1),i64.wrap ((i64.wrap (2 * ac))+2)] ae).bind fun af=>if (decide (af<(i64.wrap ((ad.length:Int) - 1))))=true then ((Zv aa af).bind fun aj=>(Zv aa ab).bind fun ak=>Zeh ae ab (Ts N ad ag aa ac kk_L1 ah) af (decide (aj<ak))) else (Zeh ae ab (Ts N ad ag aa ac kk_L1 ah) af false)) else (if (decide (ab=ac))=true then (some (ag,aa.take (Int.toNat (i64.wrap ((ad.length:Int) - 1))))) else ((Zv aa ab).bind fun al=>(Zv aa ac).bind fun am=>(some (aa.set (Int.toNat ac) al)).bind fun ai=>(Zv ai ab).bind fun ao=>(some (ai.set (Int.toNat ab) am)).bind fun an=>kk_L1 an ab))
termination_by structural x=>x
def Tr (N:Nat) (aa:List Int) (ab:Int):Nat→(List Int)→Int→Option (Int×List Int)
  | 0,_,_=>none
  | ad+1,ae,ac=>Ts N aa ab ae ac (Tr N aa ab ad) N 0 ac
termination_by structural x=>x
def Zg6 (N:Nat) (aa:List Int):Option (Int×List Int):=
  (Zv aa 0).bind fun ac=>(Zv aa (i64.wrap ((aa.length:Int) - 1))).bind fun ad=>(some (aa.set (Int.toNat 0) ad)).bind fun ab=>Xb ((0:Int)≤(i64.wrap ((aa.length:Int) - 1))∧(i64.wrap ((aa.length:Int) - 1))≤(ab.length:Int)) (Tr N aa ac N ab 0)
theorem Zuc (N:Nat) (col:Zh) (w0:World) (qc0:Nat) (ak:Nat) (hd:S4 [qc0,ak]=true) (g0:Nat) (aa:List Int) (am:Option Addr) (an:Nat) (au:Zl (Za.int .i64) 3 ak col w0 am an aa) (hb0:Zt 244 qc0 col w0 g0 #[.slice am aa.length an]) (r:(Int×List Int)) (hm:Zg6 N aa=some r):
    Calls Tryz.prog 267 #[.pointer (some ⟨g0,0,none⟩)] w0 (fun e w'=>∃ (col':Zh) (oa1:Option Addr) (oc2:Nat),e= .returned ((.int .i64 r.1))∧Xu (pS [qc0,ak]) col w0 col' w'∧Zl (Za.int .i64) 3 ak col' w' oa1 oc2 r.2∧Zt 244 qc0 col' w' g0 #[.slice oa1 r.2.length oc2]):=by
 refine Xv 2 (m:=76) func267 rfl rfl rfl rfl rfl ?_;rw [Zg6.eq_1] at hm;have ad:=St.startL (l:=[qc0,ak]) rfl col w0;replace hb0:=hb0.startL (Zas hd 0 rfl) (Zar hd 0 rfl);replace au:=au.startL (Zas hd 1 rfl) (Zar hd 1 rfl);refine Zb<|Zd<|Zj rfl<|Zc<|Zb<|Zd<|Zg2 rfl<|lV (.pointer (some ⟨g0,0,none⟩)) (Sv rfl)<|lV _ (Zn isAgg244 rfl hb0.at1)<|Zu rfl<|Zc<|Zb<|Zd<|Zk rfl ?_;obtain ⟨ao,av,hm⟩:=bZ hm;refine lV _ (Zx underlying244 sizeOf3 rfl rfl (Zi av).1 (Zi av).2.1 (au.addr av)) ?_;refine lV _ (Zn isAgg3 rfl (au.atInt av))<|Zk rfl<|lV _ (Zs underlying244 rfl)<|lV _ (Yb _ _ rfl rfl)<|Zj rfl<|Zj rfl<|Zc<|Zb<|Zd<|Zk rfl<|Zk rfl<|Zg rfl ?_;obtain ⟨bi,bj,hm⟩:=bZ hm;refine lV _ (Zx underlying244 sizeOf3 rfl rfl (Zi bj).1 (Zi bj).2.1 (au.addr bj)) ?_;refine lV _ (Zn isAgg3 rfl (au.atInt bj)) ?_;refine lV _ (Zx underlying244 sizeOf3 rfl rfl (Zi av).1 (Zi av).2.1 (au.addr av)) ?_;obtain ⟨ap,a8,hm⟩:=bZ hm;have a8:ap=aa.set (Int.toNat 0) bi:=(Option.some.inj a8).symm;refine Ww (x1:=bi) (v:=(.int .i64 bi)) au av rfl sizeOf3 (X8 .i64 bi) rfl rfl (by decide) ?_;intro b7 b1 b8 a9;rw [← a8] at a9;refine .ld (d:=3) (v:=(.slice am ap.length an)) (congrArg (fun n=>Value.slice am n an) (show aa.length=ap.length by rw [a8,List.length_set])) ?_;replace hb0:=hb0.kp b1;replace hb0:Zt 244 440 (X6 [qc0,ak] col) b7 g0 #[.slice am ap.length an]:=by rw [← (show aa.length=ap.length by rw [a8,List.length_set])];exact hb0
 refine Zc<|Zb<|Zd<|Zg2 rfl<|Zk rfl<|Zg rfl ?_;obtain ⟨bw,hm⟩:=Xd hm;refine lv (v:=.slice am (Int.toNat (i64.wrap ((aa.length:Int) - 1))) an) rfl rfl (Vk underlying244 sizeOf3 rfl rfl bw.1 (by have:=a9.lecap;have:=bw.2;omega))<|.ld (d:=28) (v:=(.slice am ((ap.take (Int.toNat (i64.wrap ((aa.length:Int) - 1)))).length) an)) (congrArg (fun n=>Value.slice am n an) (List.length_take_of_le (show (Int.toNat (i64.wrap ((aa.length:Int) - 1)))≤ap.length by have:=bw.2;omega)).symm) ?_;refine lV (.pointer (some ⟨g0,0,none⟩)) (Sv rfl)<|Zg3 (v:=(.slice am ((ap.take (Int.toNat (i64.wrap ((aa.length:Int) - 1)))).length) an)) hb0 sizeOf244 rfl rfl (by intro u hu;simp only [Value.cells,List.mem_cons,List.not_mem_nil,or_false] at hu;subst hu;rfl) rfl rfl ?_;intro b9 b2 ca ac;replace ac:Zt 244 440 (X6 [qc0,ak] col) b9 g0 #[(.slice am ((ap.take (Int.toNat (i64.wrap ((aa.length:Int) - 1)))).length) an)]:=ac;refine Zc<|Zb<|Zd<|Zj rfl<|Zc<|Z0 ?_;replace ad:=(ad.kp b1 b8).kp b2 ca;replace a9:=a9.kp b2;refine Xi (fun n f bk=>∃ (ba:Zh) (ag:Option Addr) (ah:Nat) (ai:List Int) (aj:Int) (aq:Nat),aq=n∧Tr N aa ao aq ai aj=some r∧St w0 (X6 [qc0,ak] col) ba bk∧Zl (Za.int .i64) 3 441 ba bk ag ah ai∧Zt 244 440 ba bk g0 #[(.slice ag ((ai.take (Int.toNat (i64.wrap ((aa.length:Int) - 1)))).length) ah)]∧f 3=(.slice ag ai.length ah)∧f 4=(.int .i64 ao)∧f 5=(.int .i64 (i64.wrap ((aa.length:Int) - 1)))∧f 6=(.int .i64 aj)∧f 1000000=(enc [])) N ⟨(X6 [qc0,ak] col),am,an,ap,0,N,rfl,hm,ad,a9,ac,rfl,rfl,rfl,rfl,rfl⟩ ?_;clear hm;intro n f bk hI;obtain ⟨ba,ag,ah,ai,aj,aq,hn,hm,ad,ae,ac,az,a0,a1,a2,a3⟩:=hI;subst hn;refine .lD 3 az<|.lD 4 a0<|.lD 5 a1<|.lD 6 a2<|.lD 1000000 a3 ?_
 cases aq with
 | zero=>rw [Tr.eq_1] at hm;cases hm
 | succ aq=>
  rw [Tr.eq_2] at hm;refine Z0<|Zb<|Zd<|Zg rfl<|Zj rfl<|Zc<|Zb<|Zb<|Zd<|Zg rfl<|lV _ (Ur _ _ rfl rfl)<|lV _ (Z5 _ _ rfl rfl)<|Zg rfl<|lV _ (Ur _ _ rfl rfl)<|lV _ (Z5 _ _ rfl rfl)<|lV (.agg #[(.int .i64 (i64.wrap ((i64.wrap (2 * aj))+1))),(.int .i64 (i64.wrap ((i64.wrap (2 * aj))+2)))]) (Zyo underlying261 sizeOf3 zeroValue261 rfl)<|Zg rfl<|Zc<|Z0<|Xi (fun n f a4=>∃ (ab:Zh) (aw:Int) (ax:Int) (ar:Nat),ar=n∧Ts N aa ao ai aj (Tr N aa ao aq) ar aw ax=some r∧St w0 (X6 [qc0,ak] col) ab a4∧Zl (Za.int .i64) 3 441 ab a4 ag ah ai∧Zt 244 440 ab a4 g0 #[(.slice ag ((ai.take (Int.toNat (i64.wrap ((aa.length:Int) - 1)))).length) ah)]∧f 3=(.slice ag ai.length ah)∧f 37=(.agg #[(.int .i64 (i64.wrap ((i64.wrap (2 * aj))+1))),(.int .i64 (i64.wrap ((i64.wrap (2 * aj))+2)))])∧f 38=(.int .i64 aw)∧f 4=(.int .i64 ao)∧f 5=(.int .i64 (i64.wrap ((aa.length:Int) - 1)))∧f 6=(.int .i64 aj)∧f 7=(.int .i64 ax)∧f 1000000=(enc [])) N ⟨ba,0,aj,N,rfl,hm,ad,ae,ac,rfl,rfl,rfl,rfl,rfl,rfl,rfl,rfl⟩ ?_;clear hm;intro n f a4 hI;obtain ⟨ab,aw,ax,ar,hn,hm,ad,ae,ac,az,bb,bc,a0,a1,a2,bd,a3⟩:=hI;subst hn;refine .lD 3 az<|.lD 37 bb<|.lD 38 bc<|.lD 4 a0<|.lD 5 a1<|.lD 6 a2<|.lD 7 bd<|.lD 1000000 a3 ?_
  cases ar with
  | zero=>rw [Ts.eq_1] at hm;cases hm
  | succ ar=>
   rw [Ts.eq_2] at hm;refine Zb<|Zd<|lV _ (Z4 _ _ rfl rfl)<|Zc<|Zb ?_;refine Zy _ rfl (fun hb=>?_) (fun hb=>?_)
   ·rw [if_pos hb] at hm;refine Zr<|Zb ?_;refine Wp.cut (fun f bm=>∃ (be:Zh) (bn:Int),Zax aw (Ts N aa ao ai aj (Tr N aa ao aq) ar) bn=some r∧St w0 (X6 [qc0,ak] col) be bm∧Zl (Za.int .i64) 3 441 be bm ag ah ai∧Zt 244 440 be bm g0 #[(.slice ag ((ai.take (Int.toNat (i64.wrap ((aa.length:Int) - 1)))).length) ah)]∧f 3=(.slice ag ai.length ah)∧f 37=(.agg #[(.int .i64 (i64.wrap ((i64.wrap (2 * aj))+1))),(.int .i64 (i64.wrap ((i64.wrap (2 * aj))+2)))])∧f 38=(.int .i64 aw)∧f 4=(.int .i64 ao)∧f 5=(.int .i64 (i64.wrap ((aa.length:Int) - 1)))∧f 6=(.int .i64 aj)∧f 7=(.int .i64 bn)∧f 1000000=(enc [])) ?_ ?_
    ·intro f bm hJ;obtain ⟨be,bn,hm,ad,ae,ac,az,bb,bc,a0,a1,a2,bd,a3⟩:=hJ;rw [Zax.eq_1] at hm;refine .lD 3 az<|.lD 37 bb<|.lD 38 bc<|.lD 4 a0<|.lD 5 a1<|.lD 6 a2<|.lD 7 bd<|.lD 1000000 a3<|Zd<|lV _ (Z5 _ _ rfl rfl)<|Zg rfl<|Zc ?_;exact ⟨ar,by omega,⟨be,(i64.wrap (aw+1)),bn,ar,rfl,hm,ad,ae,ac,rfl,rfl,rfl,rfl,rfl,rfl,rfl,rfl⟩⟩
    refine Z0<|Zb<|Zd ?_;obtain ⟨bf,cb,hm⟩:=bZ hm;refine lV (.int .i64 bf) (Zyt (l:=[i64.wrap ((i64.wrap (2 * aj))+1),i64.wrap ((i64.wrap (2 * aj))+2)]) (k:=.i64) underlying261 sizeOf3 isAgg3 rfl rfl rfl cb)<|Zj rfl<|Zc<|Zb ?_;refine Wp.cut (fun f bo=>∃ (a6:Zh) (bx:Bool),Zeh aw ax (Ts N aa ao ai aj (Tr N aa ao aq) ar) bf bx=some r∧St w0 (X6 [qc0,ak] col) a6 bo∧Zl (Za.int .i64) 3 441 a6 bo ag ah ai∧Zt 244 440 a6 bo g0 #[(.slice ag ((ai.take (Int.toNat (i64.wrap ((aa.length:Int) - 1)))).length) ah)]∧f 3=(.slice ag ai.length ah)∧f 37=(.agg #[(.int .i64 (i64.wrap ((i64.wrap (2 * aj))+1))),(.int .i64 (i64.wrap ((i64.wrap (2 * aj))+2)))])∧f 38=(.int .i64 aw)∧f 4=(.int .i64 ao)∧f 5=(.int .i64 (i64.wrap ((aa.length:Int) - 1)))∧f 54=(.bool bx)∧f 6=(.int .i64 aj)∧f 7=(.int .i64 ax)∧f 9=(.int .i64 bf)∧f 1000000=(enc [])) ?_ ?_
    ·intro f bo hJ;obtain ⟨a6,bx,hm,ad,ae,ac,az,bb,bc,a0,a1,cc,a2,bd,cd,a3⟩:=hJ;rw [Zeh.eq_1] at hm;refine .lD 3 az<|.lD 37 bb<|.lD 38 bc<|.lD 4 a0<|.lD 5 a1<|.lD 54 cc<|.lD 6 a2<|.lD 7 bd<|.lD 9 cd<|.lD 1000000 a3 ?_;refine Zy _ rfl (fun hb=>?_) (fun hb=>?_)
     ·rw [if_pos hb] at hm;refine Zd<|Zg rfl<|Zj rfl<|Zc ?_;exact ⟨a6,bf,hm,ad,ae,ac,rfl,rfl,rfl,rfl,rfl,rfl,rfl,rfl⟩
     rw [if_neg (Zz hb)] at hm;refine Zr ?_;exact ⟨a6,ax,hm,ad,ae,ac,rfl,rfl,rfl,rfl,rfl,rfl,rfl,rfl⟩
    refine W5 (col:=ab) (by kernel_rfl) (by kernel_rfl)<|qv rfl (fun _ hC=>Xp rfl) ?_;refine qv rfl (fun _ hC=>Xp rfl) ?_;refine qv rfl (fun _ hC=>Z4 _ _ rfl rfl) ?_;refine qv rfl (fun _ hC=>W4 rfl) ?_;by_cases af:(decide (bf<(i64.wrap ((aa.length:Int) - 1))))=true
    ·rw [if_pos af] at hm;refine qG 44 rfl (gq af)<|qv rfl (fun _ hC=>Yr rfl) ?_;refine qG 44 rfl (gq af)<|qv rfl (fun _ hC=>Xp rfl) ?_;refine qG 44 rfl (gq af) ?_;obtain ⟨b3,bp,hm⟩:=bZ hm;refine qv rfl (fun _ hC=>Zx underlying244 sizeOf3 rfl rfl (Zi bp).1 (Zi bp).2.1 (ae.addr bp)) ?_;refine qG 44 rfl (gq af)<|qv rfl (fun _ hC=>Zn isAgg3 rfl ((ae.gr (hC.bl ab)).atInt bp)) ?_;refine qG 44 rfl (gq af)<|qv rfl (fun _ hC=>Yr rfl) ?_;refine qG 44 rfl (gq af)<|qv rfl (fun _ hC=>Xp rfl) ?_;refine qG 44 rfl (gq af) ?_;obtain ⟨b4,bq,hm⟩:=bZ hm;refine qv rfl (fun _ hC=>Zx underlying244 sizeOf3 rfl rfl (Zi bq).1 (Zi bq).2.1 (ae.addr bq)) ?_;refine qG 44 rfl (gq af)<|qv rfl (fun _ hC=>Zn isAgg3 rfl ((ae.gr (hC.bl ab)).atInt bq)) ?_;refine qG 44 rfl (gq af)<|qv rfl (fun _ hC=>Z4 _ _ rfl rfl) ?_;refine qv (v:=(.bool (decide (b3<b4)))) rfl (fun _ hC=>Xm (congrArg Value.bool af) rfl) ?_;refine Y1 ?_;intro ce hC;replace hC:Zf ab a4 ab ce:=.of_below hC.below;replace ae:=ae.gr hC;replace ac:=ac.gr hC;replace ad:=ad.grow hC;exact ⟨ab,(decide (b3<b4)),hm,ad,ae,ac,rfl,rfl,rfl,rfl,rfl,rfl,rfl,rfl,rfl,rfl⟩
    rw [if_neg af] at hm;replace af:=Bool.eq_false_iff.2 af;refine qP 44 rfl (gq af)<|qP 44 rfl (gq af)<|qP 44 rfl (gq af)<|qP 44 rfl (gq af)<|qP 44 rfl (gq af)<|qP 44 rfl (gq af)<|qP 44 rfl (gq af)<|qP 44 rfl (gq af)<|qP 44 rfl (gq af)<|qv (v:=(.bool false)) rfl (fun _ hC=>Xr (congrArg Value.bool af) rfl) ?_;refine Y1 ?_;intro cf hC;replace hC:Zf ab a4 ab cf:=.of_below hC.below;replace ae:=ae.gr hC;replace ac:=ac.gr hC;replace ad:=ad.grow hC;exact ⟨ab,false,hm,ad,ae,ac,rfl,rfl,rfl,rfl,rfl,rfl,rfl,rfl,rfl,rfl⟩
   rw [if_neg (Zz hb)] at hm;refine Xl (Xk ?_);refine Zb<|Zb<|Zd<|Zg rfl<|Zg rfl<|lV _ (Y9 _ _ rfl rfl)<|Zc ?_;refine Zy _ rfl (fun hb=>?_) (fun hb=>?_)
   ·rw [if_pos hb] at hm;refine Zb<|Zd<|Zg rfl<|Zj rfl<|Zc<|Zq ?_;cases hm;exact ⟨rfl,Uv w0.heap.size [qc0,ak] col ab (fun n=>bif Nat.beq n 441 then ak else bif Nat.beq n 440 then qc0 else 0),ag,ah,rfl,ad.finL rfl (fun n=>bif Nat.beq n 441 then ak else bif Nat.beq n 440 then qc0 else 0),ad.finOwnL (g:=(fun n=>bif Nat.beq n 441 then ak else bif Nat.beq n 440 then qc0 else 0)) rfl (ae.take (Int.toNat (i64.wrap ((aa.length:Int) - 1)))) (by decide) (by decide) rfl,ad.finBoxL (g:=(fun n=>bif Nat.beq n 441 then ak else bif Nat.beq n 440 then qc0 else 0)) ac (by decide) (by decide) rfl⟩
   rw [if_neg (Zz hb)] at hm;refine Zr<|Zb<|Vn (col:=ab) [(0,1),(1,1),(2,1),(3,1),(4,1),(5,1),(6,1),(7,0),(8,1),(9,1),(10,1),(11,0),(12,1),(13,2),(14,1),(15,2)] (by kernel_rfl) (by kernel_rfl)<|xu rfl rfl (fun _=>Yr rfl) ?_;refine xu rfl rfl (fun _=>Xp rfl) ?_;refine xu rfl rfl (fun _=>Yr rfl) ?_;refine xu rfl rfl (fun _=>Xp rfl) ?_;refine xu rfl rfl (fun _=>Yr rfl) ?_;refine xu rfl rfl (fun _=>Xp rfl) ?_;obtain ⟨br,bs,hm⟩:=bZ hm;refine xu rfl rfl (fun _=>Zx underlying244 sizeOf3 rfl rfl (Zi bs).1 (Zi bs).2.1 (ae.addr bs)) ?_;refine xv rfl rfl (fun _ hC=>Zn isAgg3 rfl ((ae.gr (hC.bl ab)).atInt bs)) ?_;refine xu rfl rfl (fun _=>Yr rfl) ?_;refine xu rfl rfl (fun _=>Xp rfl) ?_;obtain ⟨bt,ay,hm⟩:=bZ hm;refine xu rfl rfl (fun _=>Zx underlying244 sizeOf3 rfl rfl (Zi ay).1 (Zi ay).2.1 (ae.addr ay)) ?_;refine xv rfl rfl (fun _ hC=>Zn isAgg3 rfl ((ae.gr (hC.bl ab)).atInt ay)) ?_;refine xu rfl rfl (fun _=>Zx underlying244 sizeOf3 rfl rfl (Zi ay).1 (Zi ay).2.1 (ae.addr ay)) ?_;refine xe rfl rfl ?_;intro cg hC0;have hC:Zf ab a4 ab cg:=.of_below hC0.below;obtain ⟨al,a7,hm⟩:=bZ hm;have a7:al=ai.set (Int.toNat aj) br:=(Option.some.inj a7).symm;replace ae:=ae.gr hC;refine Ww (x1:=br) (v:=(.int .i64 br)) ae ay rfl sizeOf3 (X8 .i64 br) rfl rfl (by decide) ?_;intro bz b5 ch bg;rw [← a7] at bg;refine .ld (d:=3) (v:=(.slice ag al.length ah)) (congrArg (fun n=>Value.slice ag n ah) (show ai.length=al.length by rw [a7,List.length_set])) ?_;refine .ld (d:=63) (v:=(.slice ag al.length ah)) (congrArg (fun n=>Value.slice ag n ah) (show ai.length=al.length by rw [a7,List.length_set])) ?_;replace ac:=(ac.gr hC).kp b5;replace ac:Zt 244 440 ab bz g0 #[(.slice ag ((al.take (Int.toNat (i64.wrap ((aa.length:Int) - 1)))).length) ah)]:=by rw [← (show (ai.take (Int.toNat (i64.wrap ((aa.length:Int) - 1)))).length=(al.take (Int.toNat (i64.wrap ((aa.length:Int) - 1)))).length by rw [List.length_take,List.length_take,(show ai.length=al.length by rw [a7,List.length_set])])];exact ac
   refine Zc ⟨fun w'=>Zf ab bz ab w',Zf.refl _ _,fun h=>absurd h (by decide),?_⟩;obtain ⟨cl,bu,hm⟩:=bZ hm;refine xu rfl rfl (fun _=>Zx underlying244 sizeOf3 rfl rfl (Zi bu).1 (Zi bu).2.1 (bg.addr bu)) ?_;refine xe rfl rfl ?_;intro ci hC0;replace ad:=(ad.grow hC).kp b5 ch;have hC:Zf ab bz ab ci:=.of_below hC0.below;obtain ⟨a5,bh,hm⟩:=bZ hm;have bh:a5=al.set (Int.toNat ax) bt:=(Option.some.inj bh).symm;replace bg:=bg.gr hC;refine Ww (x1:=bt) (v:=(.int .i64 bt)) bg bu rfl sizeOf3 (X8 .i64 bt) rfl rfl (by decide) ?_;intro b0 b6 cj bv;rw [← bh] at bv;refine .ld (d:=3) (v:=(.slice ag a5.length ah)) (congrArg (fun n=>Value.slice ag n ah) (show al.length=a5.length by rw [bh,List.length_set])) ?_;replace ac:=(ac.gr hC).kp b6;replace ac:Zt 244 440 ab b0 g0 #[(.slice ag ((a5.take (Int.toNat (i64.wrap ((aa.length:Int) - 1)))).length) ah)]:=by rw [← (show (al.take (Int.toNat (i64.wrap ((aa.length:Int) - 1)))).length=(a5.take (Int.toNat (i64.wrap ((aa.length:Int) - 1)))).length by rw [List.length_take,List.length_take,(show al.length=a5.length by rw [bh,List.length_set])])];exact ac
   refine Zc ⟨fun w'=>Zf ab b0 ab w',Zf.refl _ _,fun h=>absurd h (by decide),?_⟩;refine Ve ?_;replace ad:=(ad.grow hC).kp b6 cj;intro ck hC;replace hC:Zf ab b0 ab ck:=.of_below hC.below;refine Zd<|Zg rfl<|Zj rfl<|Zc ?_;replace bv:=bv.gr hC;replace ac:=ac.gr hC;replace ad:=ad.grow hC;exact ⟨aq,by omega,⟨ab,ag,ah,a5,ax,aq,rfl,hm,ad,bv,ac,rfl,rfl,rfl,rfl,rfl⟩⟩
theorem Zok:Y2 Tryz.prog 3 1 8:=⟨Tryz.t3,_,rfl,rfl,rfl,rfl,rfl⟩
def Zej (ab:List Int) (aa:Int) (kk_L1:(List Int→Int→Option (List Int))) (ad:Bool):Option (List Int):=
  if ad=true then ((Zv ab (i64.wrap (Int.tdiv (i64.wrap (aa - 1)) 2))).bind fun ae=>(Zv ab aa).bind fun af=>(some (ab.set (Int.toNat aa) ae)).bind fun ac=>(Zv ac (i64.wrap (Int.tdiv (i64.wrap (aa - 1)) 2))).bind fun ah=>(some (ac.set (Int.toNat (i64.wrap (Int.tdiv (i64.wrap (aa - 1)) 2))) af)).bind fun ag=>kk_L1 ag (i64.wrap (Int.tdiv (i64.wrap (aa - 1)) 2))) else (some ab)
def Qv (N:Nat):Nat→(List Int)→Int→Option (List Int)
  | 0,_,_=>none
  | ac+1,ab,aa=>if (decide (0<aa))=true then ((Zv ab aa).bind fun ad=>(Zv ab (i64.wrap (Int.tdiv (i64.wrap (aa - 1)) 2))).bind fun ae=>Zej ab aa (Qv N ac) (decide (ad<ae))) else (Zej ab aa (Qv N ac) false)
termination_by structural x=>x
def Zei (N:Nat) (aa:List Int) (ab:Int):Option (List Int):=
  Xb ((aa.length+[ab].length) * 8≤140737488355328∧aa.length+[ab].length≤maxLen) (Qv N N (aa++[ab]) (i64.wrap (((aa++[ab]).length:Int) - 1)))
theorem Zm4 (N:Nat) (col:Zh) (w0:World) (qc0:Nat) (ah:Nat) (hd:S4 [qc0,ah]=true) (g0:Nat) (ao:List Int) (bg:Option Addr) (bh:Nat) (ai:Int) (ar:Zl (Za.int .i64) 3 ah col w0 bg bh ao) (hb0:Zt 244 qc0 col w0 g0 #[.slice bg ao.length bh]) (r:List Int) (hm:Zei N ao ai=some r):
    Calls Tryz.prog 266 #[.pointer (some ⟨g0,0,none⟩),.int .i64 ai] w0 (fun e w'=>∃ (col':Zh) (oa1:Option Addr) (oc2:Nat),e= .returned (.tuple #[])∧Xu (pS [qc0,ah]) col w0 col' w'∧Zl (Za.int .i64) 3 ah col' w' oa1 oc2 r∧Zt 244 qc0 col' w' g0 #[.slice oa1 r.length oc2]):=by
 refine Zli (m:=66) (args:=[.pointer (some ⟨g0,0,none⟩),.int .i64 ai]) func266 rfl rfl rfl rfl ?_;rw [Zei.eq_1] at hm;have ad:=St.startL (l:=[qc0,ah]) rfl col w0;replace hb0:=hb0.startL (Zas hd 0 rfl) (Zar hd 0 rfl);replace ar:=ar.startL (Zas hd 1 rfl) (Zar hd 1 rfl);refine Zb<|Zd<|Zg2 rfl<|Zg2 rfl<|lV (.pointer (some ⟨g0,0,none⟩)) (Sv rfl)<|lV _ (Zn isAgg244 rfl hb0.at1)<|Zg rfl<|Wk (col:=(X6 [qc0,ah] col)) (r:=(Za.int .i64)) (xs:=[ai]) [.int .i64 ai] 1 rfl underlying244 Zok rfl rfl rfl rfl rfl rfl (by intro v hv;simp only [List.mem_cons,List.not_mem_nil,or_false] at hv;subst hv;rfl) (Y6.ofF (Rows.consF (r:=(Za.int .i64)) (x:=ai) (cs:=[.int .i64 ai]) (X8 .i64 ai) Rows.nil0)) ?_;intro b6 br bs a6 bt;obtain ⟨bi,hm⟩:=Xd hm;replace ar:=ar.gr a6;refine Qq (col:=bs) (w:=br) (r:=(Za.int .i64)) (c:=441) (c2:=441) (ar.ex) (bt.srcN (NB.int (k:=.i64))) rfl underlying244 Zok rfl rfl rfl bi.1 bi.2 (by decide) ?_;intro a7 a8 b7 bj bk a9;refine lV (.pointer (some ⟨g0,0,none⟩)) (Sv rfl) ?_;replace hb0:=(hb0.gr a6).kpp bk;refine Zg3 (v:=(.slice a7 ((ao++[ai]).length) a8)) hb0 sizeOf244 rfl rfl (by intro u hu;simp only [Value.cells,List.mem_cons,List.not_mem_nil,or_false] at hu;subst hu;rfl) rfl rfl ?_;intro bu bm bv ab;replace ab:Zt 244 440 bj bu g0 #[.slice a7 ((ao++[ai]).length) a8]:=ab;replace a9:=a9.kp bm;have bw:=a9.new;refine Zc<|Zb<|Zd<|Zg2 rfl<|lV (.pointer (some ⟨g0,0,none⟩)) (Sv rfl)<|lV _ (Zn isAgg244 rfl ab.at1)<|lV _ (Zs underlying244 rfl)<|lV _ (Yb _ _ rfl rfl)<|Zj rfl<|Zc<|Z0 ?_;replace ad:=((ad.grow a6).kpp bk).kp bm bv;refine Xi (fun n f aq=>∃ (ag:Zh) (aj:Option Addr) (ak:Nat) (al:List Int) (af:Int) (am:Nat),am=n∧Qv N am al af=some r∧St w0 (X6 [qc0,ah] col) ag aq∧Zl (Za.int .i64) 3 441 ag aq aj ak al∧Zt 244 440 ag aq g0 #[.slice aj al.length ak]∧f 0=(.pointer (some ⟨g0,0,none⟩))∧f 4=(.int .i64 af)∧f 1000000=(enc [])) N ⟨bj,a7,a8,(ao++[ai]),(i64.wrap (((ao++[ai]).length:Int) - 1)),N,rfl,hm,ad,bw,ab,rfl,rfl,rfl⟩ ?_;clear hm;intro n f aq hI;obtain ⟨ag,aj,ak,al,af,am,hn,hm,ad,ae,ab,ba,bb,bc⟩:=hI;subst hn;refine .lD 0 ba<|.lD 4 bb<|.lD 1000000 bc ?_
 cases am with
 | zero=>rw [Qv.eq_1] at hm;cases hm
 | succ am=>
  rw [Qv.eq_2] at hm;refine Zb<|Zb ?_;refine Wp.cut (fun f au=>∃ (ac:Zh) (bd:Bool),Zej al af (Qv N am) bd=some r∧St w0 (X6 [qc0,ah] col) ac au∧Zl (Za.int .i64) 3 441 ac au aj ak al∧Zt 244 440 ac au g0 #[.slice aj al.length ak]∧f 0=(.pointer (some ⟨g0,0,none⟩))∧f 36=(.bool bd)∧f 4=(.int .i64 af)∧f 1000000=(enc [])) ?_ ?_
  ·intro f au hJ;obtain ⟨ac,bd,hm,ad,ae,ab,ba,bx,bb,bc⟩:=hJ;rw [Zej.eq_1] at hm;refine .lD 0 ba<|.lD 36 bx<|.lD 4 bb<|.lD 1000000 bc ?_;refine Zy _ rfl (fun hb=>?_) (fun hb=>?_)
   ·rw [if_pos hb] at hm;refine Zr<|Zb<|Z0<|Vn (col:=ac) [(0,1),(1,1),(2,0),(3,1),(4,1),(5,1),(6,0),(7,1),(8,1),(9,1),(10,1),(11,1),(12,0),(13,1),(14,1),(15,1),(16,1),(17,0),(18,1),(19,1),(20,0),(21,1),(22,1),(23,0),(24,1),(25,2),(26,1),(27,2)] (by kernel_rfl) (by kernel_rfl)<|xu rfl rfl (fun _=>Zgk rfl) ?_;refine xu (v:=(.pointer (some ⟨g0,0,none⟩))) rfl rfl (fun _=>Sv rfl) ?_;refine xv rfl rfl (fun _ hC=>Zn isAgg244 rfl (ab.at1.gr (hC.bl ac))) ?_;refine xu rfl rfl (fun _=>Xp rfl) ?_;refine xu rfl rfl (fun _=>Zgk rfl) ?_;refine xu (v:=(.pointer (some ⟨g0,0,none⟩))) rfl rfl (fun _=>Sv rfl) ?_;refine xv rfl rfl (fun _ hC=>Zn isAgg244 rfl (ab.at1.gr (hC.bl ac))) ?_;refine xu rfl rfl (fun _=>Xp rfl) ?_;refine xu rfl rfl (fun _=>Yb _ _ rfl rfl) ?_;refine xu (v:=(.int .i64 (i64.wrap (Int.tdiv (i64.wrap (af - 1)) 2)))) rfl rfl (fun _=>Ub (i64.wrap (af - 1)) 2 rfl rfl (by decide)) ?_;refine xu rfl rfl (fun _=>Zgk rfl) ?_;refine xu (v:=(.pointer (some ⟨g0,0,none⟩))) rfl rfl (fun _=>Sv rfl) ?_;refine xv rfl rfl (fun _ hC=>Zn isAgg244 rfl (ab.at1.gr (hC.bl ac))) ?_;refine xu rfl rfl (fun _=>Xp rfl) ?_;refine xu rfl rfl (fun _=>Yb _ _ rfl rfl) ?_;refine xu (v:=(.int .i64 (i64.wrap (Int.tdiv (i64.wrap (af - 1)) 2)))) rfl rfl (fun _=>Ub (i64.wrap (af - 1)) 2 rfl rfl (by decide)) ?_;obtain ⟨ax,ay,hm⟩:=bZ hm;refine xu rfl rfl (fun _=>Zx underlying244 sizeOf3 rfl rfl (Zi ay).1 (Zi ay).2.1 (ae.addr ay)) ?_;refine xv rfl rfl (fun _ hC=>Zn isAgg3 rfl ((ae.gr (hC.bl ac)).atInt ay)) ?_;refine xu rfl rfl (fun _=>Zgk rfl) ?_;refine xu (v:=(.pointer (some ⟨g0,0,none⟩))) rfl rfl (fun _=>Sv rfl) ?_;refine xv rfl rfl (fun _ hC=>Zn isAgg244 rfl (ab.at1.gr (hC.bl ac))) ?_;refine xu rfl rfl (fun _=>Xp rfl) ?_;obtain ⟨az,an,hm⟩:=bZ hm;refine xu rfl rfl (fun _=>Zx underlying244 sizeOf3 rfl rfl (Zi an).1 (Zi an).2.1 (ae.addr an)) ?_;refine xv rfl rfl (fun _ hC=>Zn isAgg3 rfl ((ae.gr (hC.bl ac)).atInt an)) ?_;refine xu rfl rfl (fun _=>Zx underlying244 sizeOf3 rfl rfl (Zi an).1 (Zi an).2.1 (ae.addr an)) ?_;refine xe rfl rfl ?_;intro bz hC0;have hC:Zf ac au ac bz:=.of_below hC0.below;obtain ⟨ap,av,hm⟩:=bZ hm;have av:ap=al.set (Int.toNat af) ax:=(Option.some.inj av).symm;replace ae:=ae.gr hC;refine Ww (x1:=ax) (v:=(.int .i64 ax)) ae an rfl sizeOf3 (X8 .i64 ax) rfl rfl (by decide) ?_;intro be bn b0 aw;rw [← av] at aw
    refine .ld (d:=46) (v:=(.slice aj ap.length ak)) (congrArg (fun n=>Value.slice aj n ak) (show al.length=ap.length by rw [av,List.length_set])) ?_;replace ab:=(ab.gr hC).kp bn;replace ab:Zt 244 440 ac be g0 #[.slice aj ap.length ak]:=by rw [← (show al.length=ap.length by rw [av,List.length_set])];exact ab
    refine Zc ⟨fun w'=>Zf ac be ac w',Zf.refl _ _,fun h=>absurd h (by decide),?_⟩;obtain ⟨b8,a0,hm⟩:=bZ hm;refine xu rfl rfl (fun _=>Zx underlying244 sizeOf3 rfl rfl (Zi a0).1 (Zi a0).2.1 (aw.addr a0)) ?_;refine xe rfl rfl ?_;intro b1 hC0;replace ad:=(ad.grow hC).kp bn b0;have hC:Zf ac be ac b1:=.of_below hC0.below;obtain ⟨a1,a2,hm⟩:=bZ hm;have a2:a1=ap.set (Int.toNat (i64.wrap (Int.tdiv (i64.wrap (af - 1)) 2))) az:=(Option.some.inj a2).symm;replace aw:=aw.gr hC;refine Ww (x1:=az) (v:=(.int .i64 az)) aw a0 rfl sizeOf3 (X8 .i64 az) rfl rfl (by decide) ?_;intro bf bo b2 a3;rw [← a2] at a3;replace ab:=(ab.gr hC).kp bo;replace ab:Zt 244 440 ac bf g0 #[.slice aj a1.length ak]:=by rw [← (show ap.length=a1.length by rw [a2,List.length_set])];exact ab
    refine Zc ⟨fun w'=>Zf ac bf ac w',Zf.refl _ _,fun h=>absurd h (by decide),?_⟩;refine Ve ?_;replace ad:=(ad.grow hC).kp bo b2;intro b3 hC;replace hC:Zf ac bf ac b3:=.of_below hC.below;refine Zd<|Zg rfl<|lV _ (Yb _ _ rfl rfl)<|lV (.int .i64 (i64.wrap (Int.tdiv (i64.wrap (af - 1)) 2))) (Ub (i64.wrap (af - 1)) 2 rfl rfl (by decide))<|Zj rfl<|Zc ?_;replace a3:=a3.gr hC;replace ab:=ab.gr hC;replace ad:=ad.grow hC;exact ⟨am,by omega,⟨ac,aj,ak,a1,(i64.wrap (Int.tdiv (i64.wrap (af - 1)) 2)),am,rfl,hm,ad,a3,ab,rfl,rfl,rfl⟩⟩
   rw [if_neg (Zz hb)] at hm;refine Xl (Xk ?_);cases hm;exact ⟨rfl,Uv w0.heap.size [qc0,ah] col ac (fun n=>bif Nat.beq n 441 then ah else bif Nat.beq n 440 then qc0 else 0),aj,ak,rfl,ad.finL rfl (fun n=>bif Nat.beq n 441 then ah else bif Nat.beq n 440 then qc0 else 0),ad.finOwnL (g:=(fun n=>bif Nat.beq n 441 then ah else bif Nat.beq n 440 then qc0 else 0)) rfl ae (by decide) (by decide) rfl,ad.finBoxL (g:=(fun n=>bif Nat.beq n 441 then ah else bif Nat.beq n 440 then qc0 else 0)) ab (by decide) (by decide) rfl⟩
  refine W5 (col:=ag) (by kernel_rfl) (by kernel_rfl)<|qv rfl (fun _ hC=>Xp rfl) ?_;refine qv rfl (fun _ hC=>Wa _ _ rfl rfl) ?_;refine qv rfl (fun _ hC=>W4 rfl) ?_;by_cases aa:(decide (0<af))=true
  ·rw [if_pos aa] at hm;refine qG 20 rfl (gq aa)<|qv rfl (fun _ hC=>Zgk rfl) ?_;refine qG 20 rfl (gq aa)<|qv (v:=(.pointer (some ⟨g0,0,none⟩))) rfl (fun _ hC=>Sv rfl) ?_;refine qG 20 rfl (gq aa)<|qv rfl (fun _ hC=>Zn isAgg244 rfl (ab.at1.gr (hC.bl ag))) ?_;refine qG 20 rfl (gq aa)<|qv rfl (fun _ hC=>Xp rfl) ?_;refine qG 20 rfl (gq aa) ?_;obtain ⟨bp,a4,hm⟩:=bZ hm;refine qv rfl (fun _ hC=>Zx underlying244 sizeOf3 rfl rfl (Zi a4).1 (Zi a4).2.1 (ae.addr a4)) ?_;refine qG 20 rfl (gq aa)<|qv rfl (fun _ hC=>Zn isAgg3 rfl ((ae.gr (hC.bl ag)).atInt a4)) ?_;refine qG 20 rfl (gq aa)<|qv rfl (fun _ hC=>Zgk rfl) ?_;refine qG 20 rfl (gq aa)<|qv (v:=(.pointer (some ⟨g0,0,none⟩))) rfl (fun _ hC=>Sv rfl) ?_;refine qG 20 rfl (gq aa)<|qv rfl (fun _ hC=>Zn isAgg244 rfl (ab.at1.gr (hC.bl ag))) ?_;refine qG 20 rfl (gq aa)<|qv rfl (fun _ hC=>Xp rfl) ?_;refine qG 20 rfl (gq aa)<|qv rfl (fun _ hC=>Yb _ _ rfl rfl) ?_;refine qG 20 rfl (gq aa)<|qv (v:=(.int .i64 (i64.wrap (Int.tdiv (i64.wrap (af - 1)) 2)))) rfl (fun _ hC=>Ub (i64.wrap (af - 1)) 2 rfl rfl (by decide)) ?_;refine qG 20 rfl (gq aa) ?_;obtain ⟨bq,a5,hm⟩:=bZ hm;refine qv rfl (fun _ hC=>Zx underlying244 sizeOf3 rfl rfl (Zi a5).1 (Zi a5).2.1 (ae.addr a5)) ?_;refine qG 20 rfl (gq aa)<|qv rfl (fun _ hC=>Zn isAgg3 rfl ((ae.gr (hC.bl ag)).atInt a5)) ?_;refine qG 20 rfl (gq aa)<|qv rfl (fun _ hC=>Z4 _ _ rfl rfl) ?_;refine qv (v:=(.bool (decide (bp<bq)))) rfl (fun _ hC=>Xm (congrArg Value.bool aa) rfl) ?_;refine Y1 ?_;intro b4 hC;replace hC:Zf ag aq ag b4:=.of_below hC.below;replace ae:=ae.gr hC;replace ab:=ab.gr hC;replace ad:=ad.grow hC;exact ⟨ag,(decide (bp<bq)),hm,ad,ae,ab,rfl,rfl,rfl,rfl⟩
  rw [if_neg aa] at hm;replace aa:=Bool.eq_false_iff.2 aa;refine qP 20 rfl (gq aa)<|qP 20 rfl (gq aa)<|qP 20 rfl (gq aa)<|qP 20 rfl (gq aa)<|qP 20 rfl (gq aa)<|qP 20 rfl (gq aa)<|qP 20 rfl (gq aa)<|qP 20 rfl (gq aa)<|qP 20 rfl (gq aa)<|qP 20 rfl (gq aa)<|qP 20 rfl (gq aa)<|qP 20 rfl (gq aa)<|qP 20 rfl (gq aa)<|qP 20 rfl (gq aa)<|qP 20 rfl (gq aa)<|qv (v:=(.bool false)) rfl (fun _ hC=>Xr (congrArg Value.bool aa) rfl) ?_;refine Y1 ?_;intro b5 hC;replace hC:Zf ag aq ag b5:=.of_below hC.below;replace ae:=ae.gr hC;replace ab:=ab.gr hC;replace ad:=ad.grow hC;exact ⟨ag,false,hm,ad,ae,ab,rfl,rfl,rfl,rfl⟩

end Go.Proofs.YtbmjpjhbankpoaaGreat
