/-
  What functions of the program compute, as plain Lean functions (m_..), and proofs that they compute it (c_..). Printed by a program of the author; no conditions.
-/
import Derived.Test.YtdpdogdkolblnaaGreatDoorQueryAskBFloat
import Derived.Test.YtdpdogdkolblnaaGreatDoorProg
import Derived.Test.YtdpdogdkolblnaaGreatDoorQueryAskBBrief
import Derived.Test.YtdpdogdkolblnaaGreatDoorQueryAskBPiece
import Derived.Test.YtdpdogdkolblnaaGreatDoorQueryAskBView
set_option linter.unusedVariables false
set_option linter.unusedSectionVars false
set_option maxRecDepth 100000
set_option maxHeartbeats 2000000
namespace Go.Proofs.YtdpdogdkolblnaaGreatDoor
open Go Go.RowKit
open Go.IntKind (i8 i16 i32 i64 u8 u16 u32 u64)
open Go.Proofs.Tryz
theorem O {α:Sort _} {a:α}:a=a:=rfl

theorem Z2 {x:Int} (h:-9223372036854775808≤x∧x≤9223372036854775807):i64.wrap x=x:=by rw [IntKind.wrap_i64];omega
theorem Xd {α:Type} {c:Prop} [Decidable c] {x:Option α} (h:c):Zr c x=x:=if_pos h
theorem Xa {α:Type} {xs:List α} {k:Nat} (h:k<xs.length):Zq xs (k:Int)=some xs[k]:=by rw [Zfu];exact List.getElem?_eq_getElem h
theorem wS {k:Nat} (h:k<9223372036854775807):i64.wrap ((k:Int)+1)=((k+1:Nat):Int):=by rw [Z2 (by omega)];rfl
theorem Zh5 {α:Type} [DecidableEq α]:∀ {l r:List α},l.Nodup→(∀ x ∈ l,x ∈ r)→l.length≤r.length
 | [],_,_,_=>Nat.zero_le _
 | x :: l,r,h,hs=>by
  have h1:=List.nodup_cons.1 h
  have hx:=hs x List.mem_cons_self
  have h2:=Zh5 (r:=r.erase x) h1.2 fun y hy=>(List.mem_erase_of_ne (fun e=>h1.1 (by rw [← e];exact hy))).2 (hs y (List.mem_cons_of_mem _ hy))
  rw [List.length_erase_of_mem hx] at h2
  have:=List.length_pos_of_mem hx
  rw [List.length_cons];omega
section
variable {K V:Type} [DecidableEq K]
theorem Zcr (p:K×V) (es:List (K×V)) (k:K):Xg (p :: es) k=if p.1=k then some p.2 else Xg es k:=by
 rw [Xg,List.find?_cons]
 by_cases h:p.1=k
 ·rw [if_pos h,decide_eq_true h];rfl
 ·rw [if_neg h,decide_eq_false h];rfl
theorem Z1f (es:List (K×V)) (k k':K) (v:V) (h:Xg es k=none):Xg (es++[(k,v)]) k'=if k'=k then some v else Xg es k':=by
 induction es with
 | nil=>
  rw [List.nil_append,Zcr]
  by_cases hk:k=k'
  ·subst hk;simp
  ·rw [if_neg hk,if_neg (Ne.symm hk)]
 | cons p es ih=>
  rw [Zcr] at h
  split at h
  ·cases h
  ·rename_i hp
   rw [List.cons_append,Zcr,Zcr,ih h]
   by_cases h1:p.1=k'
   ·rw [if_pos h1,if_pos h1,if_neg (fun e=>hp (h1.trans e))]
   ·rw [if_neg h1,if_neg h1]
theorem Z1g (es:List (K×V)) (k k':K) (v:V):Xg (es.map fun p=>if p.1=k then (k,v) else p) k'=if k'=k then (Xg es k).map fun _=>v else Xg es k':=by
 induction es with
 | nil=>simp [Xg]
 | cons p es ih=>
  rw [List.map_cons,Zcr,Zcr,Zcr,ih]
  by_cases h1:p.1=k
  ·rw [if_pos h1,if_pos h1]
   by_cases h2:k'=k
   ·subst h2;rw [if_pos rfl,if_pos rfl];rfl
   ·rw [if_neg (Ne.symm h2),if_neg h2,if_neg h2,if_neg (fun e=>h2 (e.symm.trans h1))]
  ·rw [if_neg h1,if_neg h1]
   by_cases h3:p.1=k'
   ·rw [if_pos h3,if_pos h3,if_neg (fun e=>h1 (h3.trans e))]
   ·rw [if_neg h3,if_neg h3]
theorem Zh4 (es:List (K×V)) (k k':K) (v:V):Xg (Yx es k v) k'=if k'=k then some v else Xg es k':=by
 rw [Yx]
 by_cases h:(Xg es k).isSome=true
 ·rw [if_pos h,Z1g]
  obtain ⟨u,hu⟩:=Option.isSome_iff_exists.1 h
  rw [hu];rfl
 ·rw [if_neg h]
  exact Z1f es k k' v (by simpa using h)
end
def Zb:List Int→Nat
 | []=>0
 | x :: l=>x.toNat+4294967296 * Zb l
def Zn (l:List Int):Prop:=∀ x ∈ l,0≤x∧x<4294967296
def Zf (n:Nat):List Int:=if n=0 then [] else ((n % 4294967296:Nat):Int) :: Zf (n / 4294967296)
termination_by n
decreasing_by omega
theorem Zn.nil:Zn []:=by simp [Zn]
theorem Zn.cons {x:Int} {l:List Int} (h:0≤x∧x<4294967296) (hl:Zn l):Zn (x :: l):=fun y hy=>by
 rcases List.mem_cons.1 hy with rfl | hy
 ·exact h
 ·exact hl y hy
theorem Zn.head {x:Int} {l:List Int} (h:Zn (x :: l)):0≤x∧x<4294967296:=h x List.mem_cons_self
theorem Zn.tail {x:Int} {l:List Int} (h:Zn (x :: l)):Zn l:=fun y hy=>h y (List.mem_cons_of_mem _ hy)
theorem Zn.app {a b:List Int} (ha:Zn a) (hb:Zn b):Zn (a++b):=fun y hy=>by
 rcases List.mem_append.1 hy with h | h
 ·exact ha y h
 ·exact hb y h
theorem Zn.take {a:List Int} (h:Zn a) (k:Nat):Zn (a.take k):=fun y hy=>h y (List.mem_of_mem_take hy)
theorem Zn.drop {a:List Int} (h:Zn a) (k:Nat):Zn (a.drop k):=fun y hy=>h y (List.mem_of_mem_drop hy)
theorem Zn.zeros (k:Nat):Zn (List.replicate k 0):=fun y hy=>by
 rw [List.eq_of_mem_replicate hy];decide
theorem Zn.set {a:List Int} (h:Zn a) (k:Nat) {v:Int} (hv:0≤v∧v<4294967296):Zn (a.set k v):=fun y hy=>by
 rcases List.mem_or_eq_of_mem_set hy with h1 | rfl
 ·exact h y h1
 ·exact hv
theorem Zn.get {a:List Int} (h:Zn a) {k:Nat} (hk:k<a.length):0≤a[k]∧a[k]<4294967296:=h _ (List.getElem_mem hk)
theorem Ye:Zb []=0:=rfl
theorem Yy (x:Int) (l:List Int):Zb (x :: l)=x.toNat+4294967296 * Zb l:=rfl
theorem Tw (a b:List Int):Zb (a++b)=Zb a+4294967296 ^ a.length * Zb b:=by
 induction a with
 | nil=>simp [Zb]
 | cons x a ih=>
  rw [List.cons_append,Yy,Yy,ih,List.length_cons,Nat.pow_succ]
  grind
theorem Ty (k:Nat):Zb (List.replicate k 0)=0:=by
 induction k with
 | zero=>rfl
 | succ k ih=>rw [List.replicate_succ,Yy,ih];rfl
theorem Tx {l:List Int} (h:Zn l):Zb l<4294967296 ^ l.length:=by
 induction l with
 | nil=>simp [Zb]
 | cons x l ih=>
  have h1:=h.head
  have h2:=ih h.tail
  rw [Yy,List.length_cons,Nat.pow_succ]
  have h3:(Zb l+1) * 4294967296≤4294967296 ^ l.length * 4294967296:=Nat.mul_le_mul_right _ h2
  omega
theorem Z3 (n:Nat):Zb (Zf n)=n:=by
 induction n using Nat.strongRecOn with
 | ind n ih=>
  rw [Zf]
  split
  ·rename_i h;rw [h];rfl
  ·rename_i h
   rw [Yy,ih (n / 4294967296) (by omega)]
   omega
theorem Wz:Zf 0=[]:=by rw [Zf,if_pos rfl]
theorem Zbr {n:Nat} (h:n≠0):Zf n=((n % 4294967296:Nat):Int) :: Zf (n / 4294967296):=by rw [Zf,if_neg h]
theorem Zam:Zf 1=[1]:=by rw [Zbr (by decide)];simp [Wz]
theorem Z8 (n:Nat):Zn (Zf n):=by
 induction n using Nat.strongRecOn with
 | ind n ih=>
  rw [Zf]
  split
  ·exact .nil
  ·exact .cons (by omega) (ih (n / 4294967296) (by omega))
theorem Wu {k n:Nat}:(Zf n).length≤k↔n<4294967296 ^ k:=by
 induction k generalizing n with
 | zero=>
  by_cases h:n=0
  ·subst h;simp [Wz]
  ·rw [Zbr h];simp;omega
 | succ k ih=>
  by_cases h:n=0
  ·subst h;simp [Wz];exact Nat.pow_pos (by decide)
  ·rw [Zbr h,List.length_cons,Nat.add_le_add_iff_right,ih,Nat.pow_succ]
   omega
theorem Yv {l:List Int} (h:Zn l):(Zf (Zb l)).length≤l.length:=Wu.2 (Tx h)
theorem Zdk {n:Nat}:Zf n=[]↔n=0:=by
 by_cases h:n=0
 ·subst h;simp [Wz]
 ·rw [Zbr h];simp [h]
theorem Zrz {x:Int} {l:List Int} (h:0≤x∧x<4294967296) (h0:x=0→Zb l≠0):Zf (Zb (x :: l))=x :: Zf (Zb l):=by
 have hn:Zb (x :: l)≠0:=by
  rw [Yy]
  by_cases hx:x=0
  ·have:=h0 hx;omega
  ·omega
 rw [Zbr hn,Yy]
 congr 1
 ·omega
 ·congr 1;omega
theorem Z11 {a:List Int} {x:Int} (h:0<x):Zb (a++[x])≠0:=by
 rw [Tw,Yy,Ye]
 have:0<4294967296 ^ a.length * (x.toNat+4294967296 * 0):=Nat.mul_pos (Nat.pow_pos (by decide)) (by omega)
 omega
theorem Z1b {a:List Int} {x:Int} (h:Zn (a++[x])) (hx:x≠0):Zf (Zb (a++[x]))=a++[x]:=by
 induction a with
 | nil=>
  have:=h.head
  rw [List.nil_append,Zrz this (fun e=>absurd e hx),Ye,Wz]
 | cons y a ih=>
  have h1:0≤x∧x<4294967296:=h x (by simp)
  rw [List.cons_append,Zrz h.head fun _=>Z11 (by omega),ih h.tail]
theorem Zss (a:List Int):Zb (a++[0])=Zb a:=by rw [Tw];simp [Zb]
theorem Zdh {l:List Int} (h:0<l.length):l.take (l.length - 1)++[l[l.length - 1]]=l:=by
 have:=List.take_append_drop (l.length - 1) l
 rw [List.drop_eq_getElem_cons (by omega),List.drop_eq_nil_of_le (by omega)] at this
 exact this
theorem Zjk {n:Nat} (h:0<(Zf n).length):(Zf n)[(Zf n).length - 1]≠0:=by
 induction n using Nat.strongRecOn with
 | ind n ih=>
  by_cases h0:n=0
  ·subst h0;simp [Wz] at h
  ·have e:=Zbr h0
   by_cases h1:n / 4294967296=0
   ·have:Zf n=[((n % 4294967296:Nat):Int)]:=by rw [e,h1,Wz]
    simp only [this,List.length_singleton,Nat.sub_self,List.getElem_cons_zero]
    omega
   ·have h2:0<(Zf (n / 4294967296)).length:=by
     rw [Zbr h1];simp
    have:=ih (n / 4294967296) (by omega) h2
    have e2:(Zf n).length - 1=(Zf (n / 4294967296)).length - 1+1:=by rw [e];simp;omega
    have e3:(Zf n)[(Zf n).length - 1]?=(Zf (n / 4294967296))[(Zf (n / 4294967296)).length - 1]?:=by
     rw [e2]
     conv=>lhs;rw [e]
     rw [List.getElem?_cons_succ]
    rw [List.getElem?_eq_getElem (by omega),List.getElem?_eq_getElem (by omega)] at e3
    rw [Option.some.inj e3]
    exact this
theorem Td {l:List Int} {k:Nat} (hk:k<l.length) (v:Int):Zb (l.set k v)+4294967296 ^ k * (l[k]).toNat=Zb l+4294967296 ^ k * v.toNat:=by
 induction l generalizing k with
 | nil=>simp at hk
 | cons x l ih=>
  cases k with
  | zero=>simp only [List.set_cons_zero,Yy,List.getElem_cons_zero,Nat.pow_zero,Nat.one_mul];omega
  | succ k=>
   have h:=ih (k:=k) (by simpa using hk)
   simp only [List.set_cons_succ,Yy,List.getElem_cons_succ,Nat.pow_succ]
   grind
theorem Zob {l:List Int} {k:Nat} (hk:k<l.length):Zb (l.take (k+1))=Zb (l.take k)+4294967296 ^ k * (l[k]).toNat:=by
 rw [List.take_add_one,List.getElem?_eq_getElem hk,Tw,Option.toList_some,Yy,Ye,List.length_take,Nat.min_eq_left (by omega)]
 simp
theorem V5 {l:List Int} {k:Nat} (hk:k<l.length):Zb (l.drop k)=(l[k]).toNat+4294967296 * Zb (l.drop (k+1)):=by
 rw [List.drop_eq_getElem_cons hk,Yy]
theorem Un (l:List Int) (k:Nat):Zb l=Zb (l.take k)+4294967296 ^ k * Zb (l.drop k):=by
 by_cases h:k≤l.length
 ·conv=>lhs;rw [← List.take_append_drop k l]
  rw [Tw,List.length_take,Nat.min_eq_left h]
 ·rw [List.take_of_length_le (by omega),List.drop_eq_nil_of_le (by omega)];simp [Zb]
theorem V2 {x:Int} (h:0≤x∧x<4294967296):u32.wrap x=x:=by rw [IntKind.wrap_u32];omega
theorem Xi {x:Int} (h:0≤x∧x<18446744073709551616):u64.wrap x=x:=by rw [IntKind.wrap_u64];omega
theorem Zcz {x:Int}:X9 .u64 x 32=x / 4294967296:=by
 have:(min (32:Int).toNat u64.bits)=32:=by decide
 rw [X9,this]
 exact Int.fdiv_eq_ediv_of_nonneg _ (by decide)
abbrev ZV:=Bool×List Int
abbrev QV:=(Bool×List Int)×List Int
def Zw (a:ZV):Int:=if a.1=true then -(Zb a.2:Int) else (Zb a.2:Int)
def X2 (z:Int):ZV:=(decide (z<0),Zf z.natAbs)
def We (l:List Int):Nat:=if Zb l=0 then 1 else Zb l
def Y4 (a:QV):Rat:=mkRat (Zw a.1) (We a.2)
def Wl (q:Rat):QV:=(X2 q.num,Zf q.den)
structure RV (k:Nat) (a:QV):Prop where
 m:Zn a.1.2
 d:Zn a.2
 lm:a.1.2.length≤k
 ld:a.2.length≤k
def qs (q:Rat):Nat:=max (Zf q.num.natAbs).length (Zf q.den).length
def Ya (N s:Nat):Prop:=200 * (s+4)<N∧s≤1066000000000
theorem Zik (a:ZV):(Zw a).natAbs=Zb a.2:=by
 rw [Zw];split <;> omega
theorem Sf (z:Int):Zw (X2 z)=z:=by
 rw [Zw,X2]
 simp only [Z3,decide_eq_true_eq]
 split <;> omega
theorem Zh6 (n:Bool) (m:List Int):X2 (Zw (n,m))=(n&&decide (Zb m≠0),Zf (Zb m)):=by
 rw [X2,Zik]
 congr 1
 rw [Zw]
 cases n
 ·rw [if_neg (fun h=>by cases h),Bool.false_and]
  exact decide_eq_false (by omega)
 ·rw [if_pos rfl,Bool.true_and]
  exact decide_eq_decide.2 (by simp only;omega)
theorem So (z:Int):Zn (X2 z).2:=Z8 _
theorem Zbn (l:List Int):We l≠0:=by rw [We];split <;> omega
theorem Zzo {n:Nat} (h:n≠0):We (Zf n)=n:=by rw [We,Z3,if_neg h]
theorem Zlh (q:Rat):Y4 (Wl q)=q:=by
 rw [Y4,Wl]
 simp only [Sf,Zzo q.den_nz]
 exact Rat.mkRat_self q
theorem Zuy (q:Rat):RV (qs q) (Wl q):=⟨Z8 _,Z8 _,Nat.le_max_left _ _,Nat.le_max_right _ _⟩
theorem RV.mono {k l:Nat} {a:QV} (h:RV k a) (hl:k≤l):RV l a:=⟨h.m,h.d,Nat.le_trans h.lm hl,Nat.le_trans h.ld hl⟩
theorem Zux {q:Rat} {k:Nat} (h:qs q≤k):RV k (Wl q):=(Zuy q).mono h
theorem Ya.mono {N s t:Nat} (h:Ya N t) (hs:s≤t):Ya N s:=by
 obtain ⟨h1,h2⟩:=h
 exact ⟨by omega,by omega⟩
theorem Vo {m n:Nat} (h:m≤n):(Zf m).length≤(Zf n).length:=Wu.2 (Nat.lt_of_le_of_lt h (Wu.1 (Nat.le_refl _)))
theorem Zdj (m n:Nat):(Zf (m * n)).length≤(Zf m).length+(Zf n).length:=by
 refine Wu.2 ?_
 rw [Nat.pow_add]
 exact Nat.mul_lt_mul'' (Wu.1 (Nat.le_refl _)) (Wu.1 (Nat.le_refl _))
theorem Znb {m n k:Nat} (hm:(Zf m).length≤k) (hn:(Zf n).length≤k):(Zf (m+n)).length≤k+1:=by
 refine Wu.2 ?_
 have h1:=Wu.1 hm
 have h2:=Wu.1 hn
 rw [Nat.pow_succ]
 omega
theorem Sm {n:Nat} (h:n≠0):1≤(Zf n).length:=List.length_pos_iff.2 (fun e=>h (Zdk.1 e))
theorem Zto {z:Int} {d k:Nat} (hz:(Zf z.natAbs).length≤k) (hd:(Zf d).length≤k) (hk:1≤k):qs (mkRat z d)≤k:=by
 rw [qs,Rat.num_mkRat,Rat.den_mkRat]
 by_cases h:d=0
 ·rw [if_pos h,if_pos h]
  simp only [Int.natAbs_zero,Wz,Zam]
  simp;omega
 ·rw [if_neg h,if_neg h]
  refine Nat.max_le.2 ⟨Nat.le_trans (Vo ?_) hz,Nat.le_trans (Vo (Nat.div_le_self _ _)) hd⟩
  exact Int.natAbs_ediv_le_natAbs _ _
theorem Z2j {k:Nat} {a:QV} (h:RV k a):qs (Y4 a)≤max k 1:=by
 refine Zto ?_ ?_ (Nat.le_max_right _ _)
 ·rw [Zik]
  exact Nat.le_trans (Yv h.m) (Nat.le_trans h.lm (Nat.le_max_left _ _))
 ·rw [We]
  split
  ·rw [Zam];exact Nat.le_max_right _ _
  ·exact Nat.le_trans (Yv h.d) (Nat.le_trans h.ld (Nat.le_max_left _ _))
theorem Z2g (a b:Rat):qs (a+b)≤qs a+qs b+1:=by
 rw [Rat.add_def']
 have an:(Zf a.num.natAbs).length≤qs a:=Nat.le_max_left _ _
 have ad:(Zf a.den).length≤qs a:=Nat.le_max_right _ _
 have bn:(Zf b.num.natAbs).length≤qs b:=Nat.le_max_left _ _
 have bd:(Zf b.den).length≤qs b:=Nat.le_max_right _ _
 refine Zto (Nat.le_trans (Vo (Int.natAbs_add_le _ _)) (Znb ?_ ?_)) ?_ (by omega)
 ·rw [Int.natAbs_mul,Int.natAbs_natCast]
  have:=Zdj a.num.natAbs b.den
  omega
 ·rw [Int.natAbs_mul,Int.natAbs_natCast]
  have:=Zdj b.num.natAbs a.den
  omega
 ·have:=Zdj a.den b.den
  omega
theorem Ztp:qs 0=1:=by
 rw [qs]
 simp only [Rat.zero_num,Rat.zero_den,Int.natAbs_zero,Wz,Zam]
 simp
theorem Z2h:qs 1=1:=by
 rw [qs]
 simp only [Rat.one_num,Rat.one_den,Int.natAbs_one,Zam]
 simp
theorem Zst {neg:Bool} {num den:List Int} (hd:Zb den≠0):
  Wl (mkRat (Zw (neg,num)) (Zb den))=((neg&&decide (Zb num / Nat.gcd (Zb num) (Zb den)≠0),Zf (Zb num / Nat.gcd (Zb num) (Zb den))),Zf (Zb den / Nat.gcd (Zb num) (Zb den))):=by
 rw [Wl,Rat.num_mkRat,Rat.den_mkRat,if_neg hd,if_neg hd,Zik,Nat.gcd_comm (Zb den) (Zb num)]
 have hg:Nat.gcd (Zb num) (Zb den)≠0:=fun h=>hd (Nat.gcd_eq_zero_iff.1 h).2
 congr 1
 have e:Zw (neg,num) / ((Nat.gcd (Zb num) (Zb den):Nat):Int)=Zw (neg,Zf (Zb num / Nat.gcd (Zb num) (Zb den))):=by
  rw [Zw,Zw]
  simp only [Z3]
  cases neg
  ·simp
  ·simp only [if_true]
   rw [Int.neg_ediv_of_dvd (Int.natCast_dvd_natCast.2 (Nat.gcd_dvd_left _ _)),Int.natCast_ediv]
 rw [e,Zh6,Z3]
theorem Zsc {a b:Int} {c d:Nat} (hc:c≠0) (hd:d≠0):mkRat a c<mkRat b d↔a * d<b * c:=by
 have h1:(0:Rat)<(c:Rat):=Rat.natCast_pos.2 (by omega)
 have h2:(0:Rat)<(d:Rat):=Rat.natCast_pos.2 (by omega)
 rw [Rat.mkRat_eq_div,Rat.mkRat_eq_div,Rat.div_lt_iff h1]
 have e:(b:Rat) / d * c=(b:Rat) * c / d:=by
  rw [Rat.div_def,Rat.div_def,Rat.mul_assoc,Rat.mul_assoc,Rat.mul_comm (d:Rat)⁻¹]
 rw [e,Rat.lt_div_iff h2]
 have e1:((a:Rat) * (d:Rat))=((a * (d:Int):Int):Rat):=by rw [Rat.intCast_mul];rfl
 have e2:((b:Rat) * (c:Rat))=((b * (c:Int):Int):Rat):=by rw [Rat.intCast_mul];rfl
 rw [e1,e2,Rat.intCast_lt_intCast]
def Q3 (a b:Rat):Int:=if a<b then -1 else if b<a then 1 else 0
def Zbg (a b:Int):Int:=if a<b then -1 else if b<a then 1 else 0
def Zfg (a:Rat):Int:=Q3 a 0
theorem Ztk {a b:Int} {c d:Nat} (hc:c≠0) (hd:d≠0):Q3 (mkRat a c) (mkRat b d)=Zbg (a * d) (b * c):=by
 unfold Q3 Zbg
 simp only [Zsc hc hd,Zsc hd hc]
theorem Zpe (a:Int):Zbg a 0=a.sign:=by
 unfold Zbg
 rcases Int.lt_trichotomy a 0 with h | h | h
 ·rw [if_pos h,Int.sign_eq_neg_one_of_neg h]
 ·rw [h];rfl
 ·rw [if_neg (by omega),if_pos h,Int.sign_eq_one_of_pos h]
theorem Z2k (a:QV):Zfg (Y4 a)=(Zw a.1).sign:=by
 rw [Zfg,Y4,show (0:Rat)=mkRat 0 1 by rw [Rat.zero_mkRat],Ztk (Zbn _) (by decide),← Zpe]
 simp
theorem Ztq {a:Rat}:Zfg a<0↔a<0:=by
 rw [Zfg,Q3]
 by_cases h:a<0
 ·rw [if_pos h];simp [h]
 ·rw [if_neg h];simp only [h,iff_false];split <;> decide
abbrev Zmb:=ByteArray×List ByteArray×List (List ByteArray)×List (List Int)×List (List QV)
def lnd {α:Type} (ms l:List α):Nat×List α:=(l.length,l++ms)
structure Zip (n:Zmb):Prop where
 nm:n.2.1.length≤1048576
 vn:n.2.2.1.length≤1048576
 vl:∀ l ∈ n.2.2.1,l.length≤1048576
 pn:n.2.2.2.1.length≤1048576
 pl:∀ l ∈ n.2.2.2.1,l.length≤1048576
 tn:n.2.2.2.2.length≤1048576
 tl:∀ t ∈ n.2.2.2.2,t.length≤1048576
 tm:∀ t ∈ n.2.2.2.2,∀ x ∈ t,x.1.2.length≤1048576∧x.2.length≤1048576
def Zao (kk_L2:(Option Int)):List Int→(List (Int×Int))→Option Int
  | [],a=>kk_L2
  | b :: c,a=>if (decide (0<((Xg a b).getD 0)))=true then (some 40) else ((some (Yx a b 1)).bind fun d=>(Zao kk_L2 c) d)
termination_by structural x=>x
def Sr:List (List Int)→Option Int
  | []=>some 0
  | a :: b=>Zao (Sr b) a ([]:List (Int×Int))
termination_by structural x=>x
def Zdn (kk_L4:(Option Int)) (a:Bool):Option Int:=
  if a=true then (some 3) else kk_L4
def Ss (a:(List (List Int))) (kk_L1:(Option Int)):List Int→Option Int
  | []=>kk_L1
  | b :: c=>if (decide (b<0))=true then (Zdn (Ss a kk_L1 c) true) else (Zdn (Ss a kk_L1 c) (decide ((a.length:Int)≤b)))
termination_by structural x=>x
def Sq (a:(List (List Int))):List (List Int)→Option Int
  | []=>Sr a
  | b :: c=>Ss a (Sq a c) b
termination_by structural x=>x
def Zdm (a:(List (List Int))):Option Int:=
  Sq a a
theorem Zw2 {N:Nat} {a0:Option Addr} {col:Zd} {w0:World} {b:(List (List Int))} {r:Int} (hm:Zdm b=some r) (h0:Sl (Za.slice (Za.int .i64)) col w0 a0 N b):
    Calls prog 95 #[.slice a0 b.length N] w0 (fun e w'=>e= .returned ((.int .i64 r))∧Below w0.heap.size w0 w'):=by
 refine Z5 2 (m:=57) func95 rfl rfl rfl rfl rfl ?_;rw [Zdm.eq_1] at hm;have a:=St.start col w0;refine go ?_;refine Z6 [0,12,13,1000000] (fun n f O=>∃ P l o,n=o.length∧b.drop l=o∧Sq b o=some r∧St w0 (Zi col) P O∧[14].map f=[.int .i64 l]) b.length ⟨_,0,_,rfl,rfl,hm,a,rfl⟩ ?_;clear hm;intro n f O i;obtain ⟨P,l,o,hn,hl,hm,a,hs⟩:=i;subst hn;refine .lL [14] hs ?_;replace h0:=h0.keep (Zl.start col w0)
 cases o with
 | nil=>
  have hk:¬ ((l:Int)<(b.length:Int)):=by have:=List.drop_eq_nil_iff.1 hl;omega
  have hkb:=decide_eq_false hk;rw [Sq.eq_1] at hm;refine go ?_;refine Yh (congrArg Value.bool hkb)<|go ?_;refine Z6 [34,35,1000000] (fun n f Q=>∃ C p q,n=q.length∧b.drop p=q∧Sr q=some r∧St w0 (Zi col) C Q∧[36].map f=[.int .i64 p]) b.length ⟨_,0,_,rfl,rfl,hm,a,rfl⟩ ?_;clear hm;intro n f Q i;obtain ⟨C,p,q,hn,hl,hm,a,hs⟩:=i;subst hn;refine .lL [36] hs ?_
  cases q with
  | nil=>
   have hk:¬ ((p:Int)<(b.length:Int)):=by have:=List.drop_eq_nil_iff.1 hl;omega
   have hkb:=decide_eq_false hk;rw [Sr.eq_1] at hm;refine go ?_;refine Yh (congrArg Value.bool hkb)<|go ?_;cases hm;exact ⟨rfl,rfl,a.below⟩
  | cons s R=>
   obtain ⟨c,Z,aa⟩:=Yu hl;have hk:(p:Int)<(b.length:Int):=by omega
   have hkb:=decide_eq_true hk;rw [Sr.eq_2] at hm;refine go ?_;refine X8 (congrArg Value.bool hkb)<|go ?_;refine lI c ((h0.ks a).addr c) ?_;obtain ⟨_,ab,ac⟩:=(h0.ks a).atN c;obtain ⟨⟨ad,ae,rfl,d⟩,_⟩:=ab;refine lW ac.one<|go ?_;refine Zrn (col:=C) (fk:=(Value.int .i64)) (fv:=(Value.int .i64)) 1 rfl underlying201 rfl ?_;intro au av aw S af;refine go ?_;replace d:=d.gr S;replace a:=a.grow S;refine Z6 [34,35,36,43,44,1000000] (fun n f A=>∃ B t D u w,n=w.length∧s.drop t=w∧Zao (Sr R) w u=some r∧St w0 (Zi col) B A∧Sl (Za.int .i64) B A ad ae s∧Xv (Value.int .i64) (Value.int .i64) 1 B A D u∧[45,9].map f=[.int .i64 t,.map (some D)]) s.length ⟨_,0,_,_,_,rfl,rfl,hm,a,d,af,rfl⟩ ?_;clear hm;intro n f A i;obtain ⟨B,t,D,u,w,hn,hl,hm,a,d,T,hs⟩:=i;subst hn;refine .lL [45,9] hs ?_
   cases w with
   | nil=>
    have hk:¬ ((t:Int)<(s.length:Int)):=by have:=List.drop_eq_nil_iff.1 hl;omega
    have hkb:=decide_eq_false hk;rw [Zao.eq_1] at hm;refine go ?_;refine Yh (congrArg Value.bool hkb)<|go ?_;exact ⟨R.length,by simp,rfl,⟨_,_,_,rfl,Z,hm,a,(Y0 (congrArg (Value.int .i64) (Yw (Nat.lt_of_lt_of_le aa (h0.ks a).1.1))) rfl)⟩⟩
   | cons E ag=>
    obtain ⟨c,ah,ai⟩:=Yu hl;have hk:(t:Int)<(s.length:Int):=by omega
    have hkb:=decide_eq_true hk;rw [Zao.eq_2] at hm;refine go ?_;refine X8 (congrArg Value.bool hkb)<|go ?_;refine lI c (d.addr c)<|lW (d.atInt c) ?_;refine go ?_;refine lV (.int .i64 ((Xg u E).getD 0)) (Zfj Y7.int T underlying201 underlying3 zeroValue3 rfl rfl)<|go ?_;refine Zm hm (fun hb hm=>go ?_) fun hb hm=>go ?_
    ·cases hm;exact ⟨rfl,rfl,a.below⟩
    obtain ⟨aj,F,hm⟩:=bZ hm;have F:aj=Yx u E 1:=(Option.some.inj F).symm;refine Zga (k:=E) (v:=1) Y7.int T underlying201 underlying3 rfl rfl rfl ?_;intro ax U ak V;rw [← F] at V;refine go ?_;replace d:=d.kp U;replace a:=a.kp U ak;exact ⟨ag.length,by simp,rfl,⟨_,_,_,_,_,rfl,ah,hm,a,d,V,(Y0 (congrArg (Value.int .i64) (Yw (Nat.lt_of_lt_of_le ai d.1.1))) rfl)⟩⟩
 | cons j G=>
  obtain ⟨c,al,am⟩:=Yu hl;have hk:(l:Int)<(b.length:Int):=by omega
  have hkb:=decide_eq_true hk;rw [Sq.eq_2] at hm;refine go ?_;refine X8 (congrArg Value.bool hkb)<|go ?_;refine lI c ((h0.ks a).addr c) ?_;obtain ⟨_,an,ao⟩:=(h0.ks a).atN c;obtain ⟨⟨W,X,rfl,g⟩,_⟩:=an;refine lW ao.one<|go ?_;refine Z6 [0,12,13,14,18,19,1000000] (fun n f H=>∃ I x y,n=y.length∧j.drop x=y∧Ss b (Sq b G) y=some r∧St w0 (Zi col) I H∧Sl (Za.int .i64) I H W X j∧[20].map f=[.int .i64 x]) j.length ⟨_,0,_,rfl,rfl,hm,a,g,rfl⟩ ?_;clear hm;intro n f H i;obtain ⟨I,x,y,hn,hl,hm,a,g,hs⟩:=i;subst hn;refine .lL [20] hs ?_
  cases y with
  | nil=>
   have hk:¬ ((x:Int)<(j.length:Int)):=by have:=List.drop_eq_nil_iff.1 hl;omega
   have hkb:=decide_eq_false hk;rw [Ss.eq_1] at hm;refine go ?_;refine Yh (congrArg Value.bool hkb)<|go ?_;exact ⟨G.length,by simp,rfl,⟨_,_,_,rfl,al,hm,a,(Y0 (congrArg (Value.int .i64) (Yw (Nat.lt_of_lt_of_le am (h0.ks a).1.1))) rfl)⟩⟩
  | cons ap Y=>
   obtain ⟨c,aq,ar⟩:=Yu hl;have hk:(x:Int)<(j.length:Int):=by omega
   have hkb:=decide_eq_true hk;rw [Ss.eq_2] at hm;refine go ?_;refine X8 (congrArg Value.bool hkb)<|go ?_;refine lI c (g.addr c)<|lW (g.atInt c)<|Yq rfl<|Zj<|Zo ?_;refine Wp.cutK [0,12,13,14,18,19,20,1000000] (fun f J=>∃ K L,Zdn (Ss b (Sq b G) Y) L=some r∧St w0 (Zi col) K J∧Sl (Za.int .i64) K J W X j∧[31].map f=[.bool L]) ?_ ?_
   ·intro f J hJ;obtain ⟨K,L,hm,a,g,hs⟩:=hJ;rw [Zdn.eq_1] at hm;refine .lL [31] hs ?_;refine Zm hm (fun hb hm=>go ?_) fun hb hm=>go ?_
    ·cases hm;exact ⟨rfl,rfl,a.below⟩
    exact ⟨Y.length,by simp,rfl,⟨_,_,_,rfl,aq,hm,a,g,(Y0 (congrArg (Value.int .i64) (Yw (Nat.lt_of_lt_of_le ar g.1.1))) rfl)⟩⟩
   refine go ?_;refine Z7 hm (fun M hm=>go ?_) fun M hm=>go ?_
   ·refine lV (.bool true) (Zx (congrArg Value.bool M) rfl)<|Zj ?_;exact ⟨rfl,_,_,hm,a,g,rfl⟩
   refine lV (.bool (decide ((b.length:Int)≤ap))) (Z0 (congrArg Value.bool M) rfl)<|Zj ?_;exact ⟨rfl,_,_,hm,a,g,rfl⟩
theorem Zzu:Wa prog 3 1 8:=⟨Tryz.t3,_,rfl,rfl,rfl,rfl,rfl⟩
def Zan (a:Nat) (kk_L1:(Nat→(List (List Int))→Option (List (List Int)))):List Int→(List (List Int))→Option (List (List Int))
  | [],b=>kk_L1 (a+1) b
  | d :: e,b=>(Zq b d).bind fun c=>Zr ((c.length+[(a:Int)].length) * 8≤140737488355328∧c.length+[(a:Int)].length≤maxLen) ((Zan a kk_L1 e) (b.set (Int.toNat d) (c++[(a:Int)])))
termination_by structural x=>x
def Sp:List (List Int)→Nat→(List (List Int))→Option (List (List Int))
  | [],b,a=>some a
  | c :: d,b,a=>Zan b (Sp d) c a
termination_by structural x=>x
def Zdl (a:(List (List Int))):Option (List (List Int)):=
  Zr (a.length * 24≤281474976710656∧a.length≤maxLen) (Sp a 0 (List.replicate a.length (([]:List Int):List Int)))
theorem Zw1 {S:Nat} {a0:Option Addr} {col:Zd} {w0:World} {j r:(List (List Int))} (c1:Nat) (hm:Zdl j=some r) (h0:Sl (Za.slice (Za.int .i64)) col w0 a0 S j):
    Calls prog 97 #[.slice a0 j.length S] w0 (fun e w'=>∃ (col':Zd) (ra1:Option Addr) (rc2:Nat),e= .returned ((.slice ra1 r.length rc2))∧Zg col w0 col' w'∧Zc (Za.row 3 (Za.int .i64)) 58 c1 col' w' ra1 rc2 r):=by
 refine Z5 2 (m:=37) func97 rfl rfl rfl rfl rfl ?_;rw [Zdl.eq_1] at hm;have a:=St.start col w0;refine go ?_;obtain ⟨T,hm⟩:=Zt hm;refine Zal (col:=(Zi col)) (w:=w0) (r:=(Za.row 3 (Za.int .i64))) (n:=j.length) (x0:=([]:List Int)) 1 rfl underlying42 Tryz.t58 rfl rfl rfl rfl rfl rfl rfl T.1 T.2 Z28 ?_;intro az a1 a2 ab ac;refine go ?_;replace a:=a.grow ab;refine Z6 [11,12,1000000] (fun n f H=>∃ I b J K C s,n=s.length∧j.drop b=s∧Sp s b C=some r∧St w0 (Zi col) I H∧Zc (Za.row 3 (Za.int .i64)) 58 1 I H J K C∧[13,3].map f=[.int .i64 b,.slice J C.length K]) j.length ⟨_,0,_,_,_,_,rfl,rfl,hm,a,ac,rfl⟩ ?_;clear hm;intro n f H L;obtain ⟨I,b,J,K,C,s,hn,hl,hm,a,U,hs⟩:=L;subst hn;refine .lL [13,3] hs ?_;replace h0:=h0.keep (Zl.start col w0)
 cases s with
 | nil=>
  have hk:¬ ((b:Int)<(j.length:Int)):=by have:=List.drop_eq_nil_iff.1 hl;omega
  have hkb:=decide_eq_false hk;rw [Sp.eq_1] at hm;refine go ?_;refine Yh (congrArg Value.bool hkb)<|go ?_;cases hm;exact ⟨rfl,_,_,_,rfl,a.fin (cm [(1,c1)]),a.fo U⟩
 | cons t V=>
  obtain ⟨l,ad,ae⟩:=Yu hl;have hk:(b:Int)<(j.length:Int):=by omega
  have hkb:=decide_eq_true hk;rw [Sp.eq_2] at hm;refine go ?_;refine X8 (congrArg Value.bool hkb)<|go ?_;refine lI l ((h0.ks a).addr l) ?_;obtain ⟨_,af,ag⟩:=(h0.ks a).atN l;obtain ⟨⟨ah,ai,rfl,g⟩,_⟩:=af;refine lW ag.one<|go ?_;refine Z6 [11,12,13,18,19,4,1000000] (fun n f x=>∃ D y o p i A,n=A.length∧t.drop y=A∧Zan b (Sp V) A i=some r∧St w0 (Zi col) D x∧Sl (Za.int .i64) D x ah ai t∧Zc (Za.row 3 (Za.int .i64)) 58 1 D x o p i∧[20,3].map f=[.int .i64 y,.slice o i.length p]) t.length ⟨_,0,_,_,_,_,rfl,rfl,hm,a,g,U,rfl⟩ ?_;clear hm;intro n f x L;obtain ⟨D,y,o,p,i,A,hn,hl,hm,a,g,M,hs⟩:=L;subst hn;refine .lL [20,3] hs ?_
  cases A with
  | nil=>
   have hk:¬ ((y:Int)<(t.length:Int)):=by have:=List.drop_eq_nil_iff.1 hl;omega
   have hkb:=decide_eq_false hk;rw [Zan.eq_1] at hm;refine go ?_;refine Yh (congrArg Value.bool hkb)<|go ?_;exact ⟨V.length,by simp,rfl,⟨_,_,_,_,_,_,rfl,ad,hm,a,M,(Y0 (congrArg (Value.int .i64) (Yw (Nat.lt_of_lt_of_le ae (h0.ks a).1.1))) rfl)⟩⟩
  | cons E aj=>
   obtain ⟨l,ak,al⟩:=Yu hl;have hk:(y:Int)<(t.length:Int):=by omega
   have hkb:=decide_eq_true hk;rw [Zan.eq_2] at hm;refine go ?_;refine X8 (congrArg Value.bool hkb)<|go ?_;refine lI l (g.addr l)<|lW (g.atInt l) ?_;refine go ?_;obtain ⟨B,F,hm⟩:=bZ hm;refine lI F (M.addr F) ?_;obtain ⟨_,W,X,q,am⟩:=M.open_ 2 (by decide) F;obtain ⟨an,ao,rfl,N⟩:=am.row;replace q:Wh (Za.row 3 (Za.int .i64)) 58 1 W x o p i (Int.toNat E) [.slice an B.length ao]:=q;refine lW q.atN.one<|Y1 rfl<|U8 (col:=W) [(b:Int)] 3 ?_;intro a3 ap aq G ar;obtain ⟨Y,hm⟩:=Zt hm;replace N:=N.gr G;refine Qd (col:=aq) (w:=ap) (r:=(Za.int .i64)) (c:=2) (c2:=2) (N.ex) (ar.srcN (NB.int (k:=.i64))) rfl underlying58 Zzu rfl rfl rfl Y.1 Y.2 (by decide) ?_;intro Z aa a4 au O P;replace q:=(q.gr G).kpp O;refine lI F (q.addr)<|Z03 (v:=(.slice Z ((B++[(b:Int)]).length) aa)) q rfl sizeOf58 rfl (by intro u hu;simp only [Value.cells,List.mem_cons,List.not_mem_nil,or_false] at hu;subst hu;rfl) rfl rfl (by decide) ?_;intro av Q aw R;replace R:Wh (Za.row 3 (Za.int .i64)) 58 1 au av o p i (Int.toNat E) [.slice Z ((B++[(b:Int)]).length) aa]:=R;replace P:=P.kp Q;have ax:=P.new;have ay:=R.close ax.has (by decide) (by decide);replace g:=(((g.kpp X).gr G).kpp O).kp Q;replace g:=g.recol 2 1 (by decide);replace a:=(((a.kpp X).grow G).kpp O).kp Q aw;replace a:=a.recol 2 1 (by decide) (by decide);refine .ld (d:=3) (v:=(.slice o ((i.set (Int.toNat E) (B++[(b:Int)])).length) p)) (congrArg (fun n=>Value.slice o n p) (show i.length=(i.set (Int.toNat E) (B++[(b:Int)])).length by simp only [List.length_set])) ?_;refine go ?_;exact ⟨aj.length,by simp,rfl,⟨_,_,_,_,_,_,rfl,ak,hm,a,g,ay,(Y0 (congrArg (Value.int .i64) (Yw (Nat.lt_of_lt_of_le al g.1.1))) rfl)⟩⟩
def Zap (a:Int) (kk_L2:(Int→Int→Option (Int×List Int))) (b:Int):Option (Int×List Int):=
  kk_L2 (i64.wrap (a+1)) b
def Zdo (a:Int) (b:Int) (kk_L2:(Int→Int→Option (Int×List Int))) (c:Int) (d:Bool):Option (Int×List Int):=
  if d=true then (Zap a kk_L2 c) else (Zap a kk_L2 b)
def Tn (N:Nat) (d:List Int) (g:Int) (a:List Int) (c:Int) (kk_L1:(List Int→Int→Option (Int×List Int))):Nat→Int→Int→Option (Int×List Int)
  | 0,_,_=>none
  | i+1,e,b=>if (decide (e<2))=true then ((Zq [i64.wrap ((i64.wrap (2 * c))+1),i64.wrap ((i64.wrap (2 * c))+2)] e).bind fun f=>if (decide (f<(i64.wrap ((d.length:Int) - 1))))=true then ((Zq a f).bind fun k=>(Zq a b).bind fun l=>Zdo e b (Tn N d g a c kk_L1 i) f (decide (k<l))) else (Zdo e b (Tn N d g a c kk_L1 i) f false)) else (if (decide (b=c))=true then (some (g,a.take (Int.toNat (i64.wrap ((d.length:Int) - 1))))) else ((Zq a b).bind fun m=>(Zq a c).bind fun n=>(some (a.set (Int.toNat c) m)).bind fun j=>(Zq j b).bind fun p=>(some (j.set (Int.toNat b) n)).bind fun o=>kk_L1 o b))
termination_by structural x=>x
def Tm (N:Nat) (a:List Int) (b:Int):Nat→(List Int)→Int→Option (Int×List Int)
  | 0,_,_=>none
  | d+1,e,c=>Tn N a b e c (Tm N a b d) N 0 c
termination_by structural x=>x
def Zgd (N:Nat) (a:List Int):Option (Int×List Int):=
  (Zq a 0).bind fun c=>(Zq a (i64.wrap ((a.length:Int) - 1))).bind fun d=>(some (a.set (Int.toNat 0) d)).bind fun b=>Zr ((0:Int)≤(i64.wrap ((a.length:Int) - 1))∧(i64.wrap ((a.length:Int) - 1))≤(b.length:Int)) (Tm N a c N b 0)
theorem Zw3 {N g0 y:Nat} {A:Option Addr} {col:Zd} {w0:World} {b:(List Int)} {r:(Int×List Int)} (qc0 t:Nat) (hm:Zgd N b=some r) (hd:Yk [qc0,t]=true) (D:Zc (Za.int .i64) 3 t col w0 A y b) (hb0:Ze 202 qc0 col w0 g0 #[.slice A b.length y]):
    Calls prog 119 #[.pointer (some ⟨g0,0,none⟩)] w0 (fun e w'=>∃ (col':Zd) (oa1:Option Addr) (oc2:Nat),e= .returned ((.int .i64 r.1))∧Zs (pS [qc0,t]) col w0 col' w'∧Zc (Za.int .i64) 3 t col' w' oa1 oc2 r.2∧Ze 202 qc0 col' w' g0 #[.slice oa1 r.2.length oc2]):=by
 refine Z5 2 (m:=76) func119 rfl rfl rfl rfl rfl ?_;rw [Zgd.eq_1] at hm;have i:=St.startL (l:=[qc0,t]) rfl col w0;replace hb0:=hb0.startL (Yd hd 0 rfl) (Yc hd 0 rfl);replace D:=D.startL (Yd hd 1 rfl) (Yc hd 1 rfl);refine go ?_;refine lV (.pointer (some ⟨g0,0,none⟩)) (Z9 rfl)<|lW hb0.at1<|go ?_;obtain ⟨G,H,hm⟩:=bZ hm;refine lI H (D.addr H)<|lW (D.atInt H) ?_;refine go ?_;obtain ⟨ai,ab,hm⟩:=bZ hm;refine lI ab (D.addr ab)<|lW (D.atInt ab)<|lI H (D.addr H) ?_;obtain ⟨B,K,hm⟩:=bZ hm;have K:B=b.set (Int.toNat 0) ai:=(Option.some.inj K).symm;refine Wj (x1:=ai) D H ?_;intro aq aj ar L;rw [← K] at L;refine .ld (d:=3) (v:=(.slice A B.length y)) (congrArg (fun n=>Value.slice A n y) (show b.length=B.length by rw [K,List.length_set])) ?_;replace hb0:=hb0.kp aj;replace hb0:Ze 202 440 (Zy [qc0,t] col) aq g0 #[.slice A B.length y]:=by rw [← (show b.length=B.length by rw [K,List.length_set])];exact hb0
 refine go ?_;obtain ⟨ac,hm⟩:=Zt hm;refine lv (v:=.slice A (Int.toNat (i64.wrap ((b.length:Int) - 1))) y) rfl rfl (Zbc underlying202 sizeOf3 rfl rfl ac.1 (by have:=L.lecap;have:=ac.2;omega))<|.ld (d:=28) (v:=(.slice A ((B.take (Int.toNat (i64.wrap ((b.length:Int) - 1)))).length) y)) (congrArg (fun n=>Value.slice A n y) (List.length_take_of_le (show (Int.toNat (i64.wrap ((b.length:Int) - 1)))≤B.length by have:=ac.2;omega)).symm) ?_;refine lV (.pointer (some ⟨g0,0,none⟩)) (Z9 rfl)<|Zdg (v:=(.slice A ((B.take (Int.toNat (i64.wrap ((b.length:Int) - 1)))).length) y)) hb0 sizeOf202 rfl rfl (by intro u hu;simp only [Value.cells,List.mem_cons,List.not_mem_nil,or_false] at hu;subst hu;rfl) rfl rfl ?_;intro au ak av c;replace c:Ze 202 440 (Zy [qc0,t] col) au g0 #[(.slice A ((B.take (Int.toNat (i64.wrap ((b.length:Int) - 1)))).length) y)]:=c;refine go ?_;replace i:=(i.kp aj ar).kp ak av;replace L:=L.kp ak;refine Z6 [4,5,1000000] (fun n f R=>∃ S p q s x C,C=n∧Tm N b G C s x=some r∧St w0 (Zy [qc0,t] col) S R∧Zc (Za.int .i64) 3 441 S R p q s∧Ze 202 440 S R g0 #[(.slice p ((s.take (Int.toNat (i64.wrap ((b.length:Int) - 1)))).length) q)]∧[3,6].map f=[.slice p s.length q,.int .i64 x]) N ⟨_,_,_,_,0,_,rfl,hm,i,L,c,rfl⟩ ?_;clear hm;intro n f R hI;obtain ⟨S,p,q,s,x,C,hn,hm,i,j,c,hs⟩:=hI;subst hn;refine .lL [3,6] hs ?_
 cases C with
 | zero=>rw [Tm.eq_1] at hm;cases hm
 | succ C=>
  rw [Tm.eq_2] at hm;refine go ?_;refine lV (.agg #[(.int .i64 (i64.wrap ((i64.wrap (2 * x))+1))),(.int .i64 (i64.wrap ((i64.wrap (2 * x))+2)))]) (Zoi underlying221 sizeOf3 zeroValue221 rfl)<|go ?_;refine Z6 [3,37,4,5,6,1000000] (fun n f T=>∃ o M O E,E=n∧Tn N b G s x (Tm N b G C) E M O=some r∧St w0 (Zy [qc0,t] col) o T∧Zc (Za.int .i64) 3 441 o T p q s∧Ze 202 440 o T g0 #[(.slice p ((s.take (Int.toNat (i64.wrap ((b.length:Int) - 1)))).length) q)]∧[38,7].map f=[.int .i64 M,.int .i64 O]) N ⟨_,0,_,_,rfl,hm,i,j,c,rfl⟩ ?_;clear hm;intro n f T hI;obtain ⟨o,M,O,E,hn,hm,i,j,c,hs⟩:=hI;subst hn;refine .lL [38,7] hs ?_
  cases E with
  | zero=>rw [Tn.eq_1] at hm;cases hm
  | succ E=>
   rw [Tn.eq_2] at hm;refine go ?_;refine Zm hm (fun hb hm=>?_) fun hb hm=>go ?_
   ·refine Z1<|Zo ?_;refine Wp.cutK [3,37,38,4,5,6,1000000] (fun f U=>∃ V ad,Zap M (Tn N b G s x (Tm N b G C) E) ad=some r∧St w0 (Zy [qc0,t] col) V U∧Zc (Za.int .i64) 3 441 V U p q s∧Ze 202 440 V U g0 #[(.slice p ((s.take (Int.toNat (i64.wrap ((b.length:Int) - 1)))).length) q)]∧[7].map f=[.int .i64 ad]) ?_ ?_
    ·intro f U hJ;obtain ⟨V,ad,hm,i,j,c,hs⟩:=hJ;rw [Zap.eq_1] at hm;refine .lL [7] hs<|go ?_;exact ⟨E,by omega,rfl,⟨_,_,_,_,rfl,hm,i,j,c,rfl⟩⟩
    refine go ?_;obtain ⟨al,aw,hm⟩:=bZ hm;refine lV (.int .i64 al) (Z2t (l:=[i64.wrap ((i64.wrap (2 * x))+1),i64.wrap ((i64.wrap (2 * x))+2)]) (k:=.i64) underlying221 sizeOf3 isAgg3 rfl rfl rfl aw)<|Yq rfl<|Zj<|Zo ?_;refine Wp.cutK [3,37,38,4,5,6,7,9,1000000] (fun f W=>∃ X ae,Zdo M O (Tn N b G s x (Tm N b G C) E) al ae=some r∧St w0 (Zy [qc0,t] col) X W∧Zc (Za.int .i64) 3 441 X W p q s∧Ze 202 440 X W g0 #[(.slice p ((s.take (Int.toNat (i64.wrap ((b.length:Int) - 1)))).length) q)]∧[54].map f=[.bool ae]) ?_ ?_
    ·intro f W hJ;obtain ⟨X,ae,hm,i,j,c,hs⟩:=hJ;rw [Zdo.eq_1] at hm;refine .lL [54] hs ?_;refine Zm hm (fun hb hm=>go ?_) fun hb hm=>?_
     ·exact ⟨rfl,_,_,hm,i,j,c,rfl⟩
     refine Z1 ?_;exact ⟨rfl,_,_,hm,i,j,c,rfl⟩
    refine Vs (col:=o) (by kernel_rfl) (by kernel_rfl)<|go ?_;refine Z7 hm (fun af hm=>go ?_) fun af hm=>go ?_
    ·obtain ⟨ax,ag,hm⟩:=bZ hm;refine qI ag (j.addr ag) ?_;refine go ?_;refine qW (fun _ a=>(j.gr (a.bl o)).atInt ag) ?_;refine go ?_;obtain ⟨ay,ah,hm⟩:=bZ hm;refine qI ah (j.addr ah) ?_;refine go ?_;refine qW (fun _ a=>(j.gr (a.bl o)).atInt ah) ?_;refine go ?_;refine qv (v:=(.bool (decide (ax<ay)))) rfl (fun _ a=>Zx (congrArg Value.bool af) rfl) ?_;refine Y3 ?_;intro a3 a;replace a:=a.bl o;replace j:=j.gr a;replace c:=c.gr a;replace i:=i.grow a;exact ⟨rfl,_,_,hm,i,j,c,rfl⟩
    refine qv (v:=(.bool false)) rfl (fun _ a=>Z0 (congrArg Value.bool af) rfl) ?_;refine Y3 ?_;intro a4 a;replace a:=a.bl o;replace j:=j.gr a;replace c:=c.gr a;replace i:=i.grow a;exact ⟨rfl,_,_,hm,i,j,c,rfl⟩
   refine Zm hm (fun hb hm=>go ?_) fun hb hm=>go ?_
   ·cases hm;exact ⟨rfl,X1 w0.heap.size [qc0,t] col o (fun n=>bif Nat.beq n 441 then t else bif Nat.beq n 440 then qc0 else 0),p,q,rfl,i.finL rfl (fun n=>bif Nat.beq n 441 then t else bif Nat.beq n 440 then qc0 else 0),i.finOwnL (g:=(fun n=>bif Nat.beq n 441 then t else bif Nat.beq n 440 then qc0 else 0)) rfl (j.take (Int.toNat (i64.wrap ((b.length:Int) - 1)))) (by decide) (by decide) rfl,i.finBoxL (g:=(fun n=>bif Nat.beq n 441 then t else bif Nat.beq n 440 then qc0 else 0)) c (by decide) (by decide) rfl⟩
   refine Vl (col:=o) [(0,1),(1,1),(2,1),(3,1),(4,1),(5,1),(6,1),(7,0),(8,1),(9,1),(10,1),(11,0),(12,1),(13,2),(14,1),(15,2)] (by kernel_rfl) (by kernel_rfl)<|xu rfl rfl (fun _=>Zbb rfl) ?_;refine xu rfl rfl (fun _=>Ve rfl) ?_;refine xu rfl rfl (fun _=>Zbb rfl) ?_;refine xu rfl rfl (fun _=>Ve rfl) ?_;refine xu rfl rfl (fun _=>Zbb rfl) ?_;refine xu rfl rfl (fun _=>Ve rfl) ?_;obtain ⟨am,Y,hm⟩:=bZ hm;refine xu rfl rfl (fun _=>V1 underlying202 sizeOf3 rfl rfl (Yb Y).1 (Yb Y).2.1 (j.addr Y)) ?_;refine xW (fun _ a=>(j.gr (a.bl o)).atInt Y) ?_;refine xu rfl rfl (fun _=>Zbb rfl) ?_;refine xu rfl rfl (fun _=>Ve rfl) ?_;obtain ⟨an,F,hm⟩:=bZ hm;refine xu rfl rfl (fun _=>V1 underlying202 sizeOf3 rfl rfl (Yb F).1 (Yb F).2.1 (j.addr F)) ?_;refine xW (fun _ a=>(j.gr (a.bl o)).atInt F) ?_;refine xu rfl rfl (fun _=>V1 underlying202 sizeOf3 rfl rfl (Yb F).1 (Yb F).2.1 (j.addr F)) ?_;refine xe rfl rfl ?_;intro a5 hC0;have a:=hC0.bl o;obtain ⟨w,I,hm⟩:=bZ hm;have I:w=s.set (Int.toNat x) am:=(Option.some.inj I).symm;replace j:=j.gr a;refine Wj (x1:=am) j F ?_;intro az ao a0 P;rw [← I] at P;refine .ld (d:=3) (v:=(.slice p w.length q)) (congrArg (fun n=>Value.slice p n q) (show s.length=w.length by rw [I,List.length_set])) ?_;refine .ld (d:=63) (v:=(.slice p w.length q)) (congrArg (fun n=>Value.slice p n q) (show s.length=w.length by rw [I,List.length_set])) ?_;replace c:=(c.gr a).kp ao;replace c:Ze 202 440 o az g0 #[(.slice p ((w.take (Int.toNat (i64.wrap ((b.length:Int) - 1)))).length) q)]:=by rw [← (show (s.take (Int.toNat (i64.wrap ((b.length:Int) - 1)))).length=(w.take (Int.toNat (i64.wrap ((b.length:Int) - 1)))).length by rw [List.length_take,List.length_take,(show s.length=w.length by rw [I,List.length_set])])];exact c
   refine Zj<|xk o ?_;obtain ⟨a6,Z,hm⟩:=bZ hm;refine xu rfl rfl (fun _=>V1 underlying202 sizeOf3 rfl rfl (Yb Z).1 (Yb Z).2.1 (P.addr Z)) ?_;refine xe rfl rfl ?_;intro a7 hC0;replace i:=(i.grow a).kp ao a0;have a:=hC0.bl o;obtain ⟨J,Q,hm⟩:=bZ hm;have Q:J=w.set (Int.toNat O) an:=(Option.some.inj Q).symm;replace P:=P.gr a;refine Wj (x1:=an) P Z ?_;intro a1 ap a2 aa;rw [← Q] at aa;refine .ld (d:=3) (v:=(.slice p J.length q)) (congrArg (fun n=>Value.slice p n q) (show w.length=J.length by rw [Q,List.length_set])) ?_;replace c:=(c.gr a).kp ap;replace c:Ze 202 440 o a1 g0 #[(.slice p ((J.take (Int.toNat (i64.wrap ((b.length:Int) - 1)))).length) q)]:=by rw [← (show (w.take (Int.toNat (i64.wrap ((b.length:Int) - 1)))).length=(J.take (Int.toNat (i64.wrap ((b.length:Int) - 1)))).length by rw [List.length_take,List.length_take,(show w.length=J.length by rw [Q,List.length_set])])];exact c
   refine Zj<|xk o<|W6 ?_;replace i:=(i.grow a).kp ap a2;intro a8 a;replace a:=a.bl o;refine go ?_;replace aa:=aa.gr a;replace c:=c.gr a;replace i:=i.grow a;exact ⟨C,by omega,rfl,⟨_,_,_,_,_,_,rfl,hm,i,aa,c,rfl⟩⟩
theorem Zzs:Wa prog 3 1 8:=⟨Tryz.t3,_,rfl,rfl,rfl,rfl,rfl⟩
def Zdq (b:List Int) (a:Int) (kk_L1:(List Int→Int→Option (List Int))) (d:Bool):Option (List Int):=
  if d=true then ((Zq b (i64.wrap (Int.tdiv (i64.wrap (a - 1)) 2))).bind fun e=>(Zq b a).bind fun f=>(some (b.set (Int.toNat a) e)).bind fun c=>(Zq c (i64.wrap (Int.tdiv (i64.wrap (a - 1)) 2))).bind fun i=>(some (c.set (Int.toNat (i64.wrap (Int.tdiv (i64.wrap (a - 1)) 2))) f)).bind fun g=>kk_L1 g (i64.wrap (Int.tdiv (i64.wrap (a - 1)) 2))) else (some b)
def Qg (N:Nat):Nat→(List Int)→Int→Option (List Int)
  | 0,_,_=>none
  | c+1,b,a=>if (decide (0<a))=true then ((Zq b a).bind fun d=>(Zq b (i64.wrap (Int.tdiv (i64.wrap (a - 1)) 2))).bind fun e=>Zdq b a (Qg N c) (decide (d<e))) else (Zdq b a (Qg N c) false)
termination_by structural x=>x
def Zdp (N:Nat) (a:List Int) (b:Int):Option (List Int):=
  Zr ((a.length+[b].length) * 8≤140737488355328∧a.length+[b].length≤maxLen) (Qg N N (a++[b]) (i64.wrap (((a++[b]).length:Int) - 1)))
theorem Zpp {N g0 W:Nat} {X:Option Addr} {col:Zd} {w0:World} {E:(List Int)} {D:Int} {r:(List Int)} (qc0 q:Nat) (hm:Zdp N E D=some r) (hd:Yk [qc0,q]=true) (F:Zc (Za.int .i64) 3 q col w0 X W E) (hb0:Ze 202 qc0 col w0 g0 #[.slice X E.length W]):
    Calls prog 118 #[.pointer (some ⟨g0,0,none⟩),.int .i64 D] w0 (fun e w'=>∃ (col':Zd) (oa1:Option Addr) (oc2:Nat),e= .returned (.tuple #[])∧Zs (pS [qc0,q]) col w0 col' w'∧Zc (Za.int .i64) 3 q col' w' oa1 oc2 r∧Ze 202 qc0 col' w' g0 #[.slice oa1 r.length oc2]):=by
 refine Zae (m:=66) (args:=[.pointer (some ⟨g0,0,none⟩),.int .i64 D]) func118 rfl rfl rfl rfl ?_;rw [Zdp.eq_1] at hm;have i:=St.startL (l:=[qc0,q]) rfl col w0;replace hb0:=hb0.startL (Yd hd 0 rfl) (Yc hd 0 rfl);replace F:=F.startL (Yd hd 1 rfl) (Yc hd 1 rfl);refine go ?_;refine lV (.pointer (some ⟨g0,0,none⟩)) (Z9 rfl)<|lW hb0.at1<|Y1 rfl<|U8 (col:=(Zy [qc0,q] col)) [D] 1 ?_;intro aw ah ai P aj;obtain ⟨Y,hm⟩:=Zt hm;replace F:=F.gr P;refine Qd (col:=ai) (w:=ah) (r:=(Za.int .i64)) (c:=441) (c2:=441) (F.ex) (aj.srcN (NB.int (k:=.i64))) rfl underlying202 Zzs rfl rfl rfl Y.1 Y.2 (by decide) ?_;intro Z aa ax ak ab Q;refine lV (.pointer (some ⟨g0,0,none⟩)) (Z9 rfl) ?_;replace hb0:=(hb0.gr P).kpp ab;refine Zdg (v:=(.slice Z ((E++[D]).length) aa)) hb0 sizeOf202 rfl rfl (by intro u hu;simp only [Value.cells,List.mem_cons,List.not_mem_nil,or_false] at hu;subst hu;rfl) rfl rfl ?_;intro al ac am b;replace b:Ze 202 440 ak al g0 #[.slice Z ((E++[D]).length) aa]:=b;replace Q:=Q.kp ac;have an:=Q.new;refine go ?_;refine lV (.pointer (some ⟨g0,0,none⟩)) (Z9 rfl)<|lW b.at1<|go ?_;replace i:=((i.grow P).kpp ab).kp ac am;refine Z6 [0,1000000] (fun n f I=>∃ s t x y p B,B=n∧Qg N B y p=some r∧St w0 (Zy [qc0,q] col) s I∧Zc (Za.int .i64) 3 441 s I t x y∧Ze 202 440 s I g0 #[.slice t y.length x]∧[4].map f=[.int .i64 p]) N ⟨_,_,_,_,_,_,rfl,hm,i,an,b,rfl⟩ ?_;clear hm;intro n f I hI;obtain ⟨s,t,x,y,p,B,hn,hm,i,j,b,hs⟩:=hI;subst hn;refine .lL [4] hs ?_
 cases B with
 | zero=>rw [Qg.eq_1] at hm;cases hm
 | succ B=>
  rw [Qg.eq_2] at hm;refine Zo<|Zo ?_;refine Wp.cutK [0,4,1000000] (fun f J=>∃ o R,Zdq y p (Qg N B) R=some r∧St w0 (Zy [qc0,q] col) o J∧Zc (Za.int .i64) 3 441 o J t x y∧Ze 202 440 o J g0 #[.slice t y.length x]∧[36].map f=[.bool R]) ?_ ?_
  ·intro f J hJ;obtain ⟨o,R,hm,i,j,b,hs⟩:=hJ;rw [Zdq.eq_1] at hm;refine .lL [36] hs ?_;refine Zm hm (fun hb hm=>go ?_) fun hb hm=>go ?_
   ·refine Vl (col:=o) [(0,1),(1,1),(2,0),(3,1),(4,1),(5,1),(6,0),(7,1),(8,1),(9,1),(10,1),(11,1),(12,0),(13,1),(14,1),(15,1),(16,1),(17,0),(18,1),(19,1),(20,0),(21,1),(22,1),(23,0),(24,1),(25,2),(26,1),(27,2)] (by kernel_rfl) (by kernel_rfl)<|xu rfl rfl (fun _=>Up rfl) ?_;refine xu (v:=(.pointer (some ⟨g0,0,none⟩))) rfl rfl (fun _=>Z9 rfl) ?_;refine xW (fun _ a=>b.at1.gr (a.bl o)) ?_;refine xu rfl rfl (fun _=>Ve rfl) ?_;refine xu rfl rfl (fun _=>Up rfl) ?_;refine xu (v:=(.pointer (some ⟨g0,0,none⟩))) rfl rfl (fun _=>Z9 rfl) ?_;refine xW (fun _ a=>b.at1.gr (a.bl o)) ?_;refine xu rfl rfl (fun _=>Ve rfl) ?_;refine xu rfl rfl (fun _=>Zlm _ _ rfl rfl) ?_;refine xu (v:=(.int .i64 (i64.wrap (Int.tdiv (i64.wrap (p - 1)) 2)))) rfl rfl (fun _=>Uq (i64.wrap (p - 1)) 2 rfl rfl (by decide)) ?_;refine xu rfl rfl (fun _=>Up rfl) ?_;refine xu (v:=(.pointer (some ⟨g0,0,none⟩))) rfl rfl (fun _=>Z9 rfl) ?_;refine xW (fun _ a=>b.at1.gr (a.bl o)) ?_;refine xu rfl rfl (fun _=>Ve rfl) ?_;refine xu rfl rfl (fun _=>Zlm _ _ rfl rfl) ?_;refine xu (v:=(.int .i64 (i64.wrap (Int.tdiv (i64.wrap (p - 1)) 2)))) rfl rfl (fun _=>Uq (i64.wrap (p - 1)) 2 rfl rfl (by decide)) ?_;obtain ⟨ad,K,hm⟩:=bZ hm;refine xu rfl rfl (fun _=>V1 underlying202 sizeOf3 rfl rfl (Yb K).1 (Yb K).2.1 (j.addr K)) ?_;refine xW (fun _ a=>(j.gr (a.bl o)).atInt K) ?_;refine xu rfl rfl (fun _=>Up rfl) ?_;refine xu (v:=(.pointer (some ⟨g0,0,none⟩))) rfl rfl (fun _=>Z9 rfl) ?_;refine xW (fun _ a=>b.at1.gr (a.bl o)) ?_;refine xu rfl rfl (fun _=>Ve rfl) ?_;obtain ⟨ae,A,hm⟩:=bZ hm;refine xu rfl rfl (fun _=>V1 underlying202 sizeOf3 rfl rfl (Yb A).1 (Yb A).2.1 (j.addr A)) ?_;refine xW (fun _ a=>(j.gr (a.bl o)).atInt A) ?_;refine xu rfl rfl (fun _=>V1 underlying202 sizeOf3 rfl rfl (Yb A).1 (Yb A).2.1 (j.addr A)) ?_;refine xe rfl rfl ?_;intro ay hC0;have a:=hC0.bl o;obtain ⟨C,G,hm⟩:=bZ hm;have G:C=y.set (Int.toNat p) ad:=(Option.some.inj G).symm;replace j:=j.gr a;refine Wj (x1:=ad) j A ?_;intro ao af ap H;rw [← G] at H;refine .ld (d:=46) (v:=(.slice t C.length x)) (congrArg (fun n=>Value.slice t n x) (show y.length=C.length by rw [G,List.length_set])) ?_;replace b:=(b.gr a).kp af;replace b:Ze 202 440 o ao g0 #[.slice t C.length x]:=by rw [← (show y.length=C.length by rw [G,List.length_set])];exact b
    refine Zj<|xk o ?_;obtain ⟨az,L,hm⟩:=bZ hm;refine xu rfl rfl (fun _=>V1 underlying202 sizeOf3 rfl rfl (Yb L).1 (Yb L).2.1 (H.addr L)) ?_;refine xe rfl rfl ?_;intro a0 hC0;replace i:=(i.grow a).kp af ap;have a:=hC0.bl o;obtain ⟨S,M,hm⟩:=bZ hm;have M:S=C.set (Int.toNat (i64.wrap (Int.tdiv (i64.wrap (p - 1)) 2))) ae:=(Option.some.inj M).symm;replace H:=H.gr a;refine Wj (x1:=ae) H L ?_;intro aq ag ar O;rw [← M] at O;replace b:=(b.gr a).kp ag;replace b:Ze 202 440 o aq g0 #[.slice t S.length x]:=by rw [← (show C.length=S.length by rw [M,List.length_set])];exact b
    refine Zj<|xk o<|W6 ?_;replace i:=(i.grow a).kp ag ar;intro a1 a;replace a:=a.bl o;refine go ?_;refine lV (.int .i64 (i64.wrap (Int.tdiv (i64.wrap (p - 1)) 2))) (Uq (i64.wrap (p - 1)) 2 rfl rfl (by decide))<|go ?_;replace O:=O.gr a;replace b:=b.gr a;replace i:=i.grow a;exact ⟨B,by omega,rfl,⟨_,_,_,_,_,_,rfl,hm,i,O,b,rfl⟩⟩
   cases hm;exact ⟨rfl,X1 w0.heap.size [qc0,q] col o (fun n=>bif Nat.beq n 441 then q else bif Nat.beq n 440 then qc0 else 0),t,x,rfl,i.finL rfl (fun n=>bif Nat.beq n 441 then q else bif Nat.beq n 440 then qc0 else 0),i.finOwnL (g:=(fun n=>bif Nat.beq n 441 then q else bif Nat.beq n 440 then qc0 else 0)) rfl j (by decide) (by decide) rfl,i.finBoxL (g:=(fun n=>bif Nat.beq n 441 then q else bif Nat.beq n 440 then qc0 else 0)) b (by decide) (by decide) rfl⟩
  refine Vs (col:=s) (by kernel_rfl) (by kernel_rfl)<|go ?_;refine Z7 hm (fun T hm=>go ?_) fun T hm=>go ?_
  ·refine qv (v:=(.pointer (some ⟨g0,0,none⟩))) rfl (fun _ a=>Z9 rfl) ?_;refine go ?_;refine qW (fun _ a=>b.at1.gr (a.bl s)) ?_;refine go ?_;obtain ⟨au,U,hm⟩:=bZ hm;refine qI U (j.addr U) ?_;refine go ?_;refine qW (fun _ a=>(j.gr (a.bl s)).atInt U) ?_;refine go ?_;refine qv (v:=(.pointer (some ⟨g0,0,none⟩))) rfl (fun _ a=>Z9 rfl) ?_;refine go ?_;refine qW (fun _ a=>b.at1.gr (a.bl s)) ?_;refine go ?_;refine qv (v:=(.int .i64 (i64.wrap (Int.tdiv (i64.wrap (p - 1)) 2)))) rfl (fun _ a=>Uq (i64.wrap (p - 1)) 2 rfl rfl (by decide)) ?_;refine go ?_;obtain ⟨av,V,hm⟩:=bZ hm;refine qI V (j.addr V) ?_;refine go ?_;refine qW (fun _ a=>(j.gr (a.bl s)).atInt V) ?_;refine go ?_;refine qv (v:=(.bool (decide (au<av)))) rfl (fun _ a=>Zx (congrArg Value.bool T) rfl) ?_;refine Y3 ?_;intro a2 a;replace a:=a.bl s;replace j:=j.gr a;replace b:=b.gr a;replace i:=i.grow a;exact ⟨rfl,_,_,hm,i,j,b,rfl⟩
  refine qv (v:=(.bool false)) rfl (fun _ a=>Z0 (congrArg Value.bool T) rfl) ?_;refine Y3 ?_;intro a3 a;replace a:=a.bl s;replace j:=j.gr a;replace b:=b.gr a;replace i:=i.grow a;exact ⟨rfl,_,_,hm,i,j,b,rfl⟩
def Zds (kk_L3:(List Int→(List Int)→Option (List Int))) (a:List Int) (b:List Int):Option (List Int):=
  kk_L3 a b
def Sv (N:Nat) (d:List Int) (kk_L2:(List Int→(List Int)→(List Int)→Option (List Int))) (e:(Int×List Int)):List Int→(List Int)→(List Int)→Option (List Int)
  | [],a,b=>kk_L2 a b (d++[e.1])
  | c :: g,a,b=>(Zq a c).bind fun i=>(some (a.set (Int.toNat c) (i64.wrap (i - 1)))).bind fun f=>(Zq f c).bind fun j=>if (decide (j=0))=true then ((Zdp N b c).bind fun k=>Zds (Sv N d kk_L2 e g) f k) else (Zds (Sv N d kk_L2 e g) f b)
termination_by structural x=>x
def Uj (N:Nat) (c:(List (List Int))):Nat→(List Int)→(List Int)→(List Int)→Option (List Int)
  | 0,_,_,_=>none
  | e+1,f,d,b=>if (decide (0<(d.length:Int)))=true then ((Zgd N d).bind fun a=>Zr ((b.length+[a.1].length) * 8≤140737488355328∧b.length+[a.1].length≤maxLen) ((Zq c a.1).bind fun g=>Sv N b (Uj N c e) a g f a.2)) else (some b)
termination_by structural x=>x
def Zdt (a:Nat) (kk_L1:(Nat→(List Int)→(List Int)→Option (List Int))) (b:List Int) (c:List Int):Option (List Int):=
  kk_L1 (a+1) b c
def Su (N:Nat) (d:(List (List Int))):List (List Int)→Nat→(List Int)→(List Int)→Option (List Int)
  | [],a,b,c=>Uj N d N b c ([]:List Int)
  | e :: f,a,b,c=>(Zq b (a:Int)).bind fun j=>(some (b.set (Int.toNat (a:Int)) (e.length:Int))).bind fun g=>if (decide ((e.length:Int)=0))=true then ((Zdp N c (a:Int)).bind fun i=>Zdt a (Su N d f) g i) else (Zdt a (Su N d f) g c)
termination_by structural x=>x
def Zdr (N:Nat) (a:(List (List Int))) (b:(List (List Int))):Option (List Int):=
  Zr (a.length * 8≤281474976710656∧a.length≤maxLen) (Su N b a 0 (List.replicate a.length (0:Int)) ([]:List Int))
theorem Zw4 {N bn bo:Nat} {a0 a1:Option Addr} {col:Zd} {w0:World} {j l:(List (List Int))} {r:(List Int)} (c1:Nat) (hm:Zdr N j l=some r) (h0:Sl (Za.slice (Za.int .i64)) col w0 a0 bn j) (h1:Sl (Za.slice (Za.int .i64)) col w0 a1 bo l):
    Calls prog 96 #[.slice a0 j.length bn,.slice a1 l.length bo] w0 (fun e w'=>∃ (col':Zd) (ra1:Option Addr) (rc2:Nat),e= .returned ((.slice ra1 r.length rc2))∧Zg col w0 col' w'∧Zc (Za.int .i64) 3 c1 col' w' ra1 rc2 r):=by
 refine Z5 4 (m:=66) func96 rfl rfl rfl rfl rfl ?_;rw [Zdr.eq_1] at hm;have a:=St.start col w0;refine go ?_;obtain ⟨bp,hm⟩:=Zt hm;refine Zal (col:=(Zi col)) (w:=w0) (r:=(Za.int .i64)) (n:=j.length) (x0:=0) 1 rfl underlying58 Tryz.t3 rfl rfl rfl rfl rfl rfl rfl bp.1 bp.2 (Vf .i64 0) ?_;intro cw cx b1 b2 ap;refine go ?_;refine Zjd (col:=b1) (v:=(.slice none (([]:List Int).length) 0)) 2 rfl zeroValue202 ?_;intro B b3 b4 bq b;replace b:Ze 202 2 b4 b3 B #[.slice none (([]:List Int).length) 0]:=b;refine go ?_;replace a:=(a.grow b2).grow bq;replace ap:=ap.gr bq;refine Z6 [1,16,17,6,1000000] (fun n f I=>∃ J o K L C aq ar ac M,n=M.length∧j.drop o=M∧Su N l M o C ac=some r∧St w0 (Zi col) J I∧Zc (Za.int .i64) 3 1 J I K L C∧Zc (Za.int .i64) 3 3 J I aq ar ac∧Ze 202 2 J I B #[.slice aq ac.length ar]∧[18,5].map f=[.int .i64 o,.slice K C.length L]) j.length ⟨_,0,_,_,_,none,0,_,_,rfl,rfl,hm,a,ap,Zc.nil,b,rfl⟩ ?_;clear hm;intro n f I O;obtain ⟨J,o,K,L,C,aq,ar,ac,M,hn,hl,hm,a,au,P,b,hs⟩:=O;subst hn;refine .lL [18,5] hs ?_;replace h0:=h0.keep (Zl.start col w0);replace h1:=h1.keep (Zl.start col w0)
 cases M with
 | nil=>
  have hk:¬ ((o:Int)<(j.length:Int)):=by have:=List.drop_eq_nil_iff.1 hl;omega
  have hkb:=decide_eq_false hk;rw [Su.eq_1] at hm;refine go ?_;refine Yh (congrArg Value.bool hkb)<|go ?_;refine Z6 [1,6,1000000] (fun n f D=>∃ E av aw ad ax ay ae az a2 p q,q=n∧Uj N l q ad ae p=some r∧St w0 (Zi col) E D∧Zc (Za.int .i64) 3 1 E D av aw ad∧Zc (Za.int .i64) 3 3 E D ax ay ae∧Ze 202 2 E D B #[.slice ax ae.length ay]∧Zc (Za.int .i64) 3 4 E D az a2 p∧[5,9].map f=[.slice av ad.length aw,.slice az p.length a2]) N ⟨_,_,_,_,_,_,_,none,0,_,_,rfl,hm,a,au,P,b,Zc.nil,rfl⟩ ?_;clear hm;intro n f D O;obtain ⟨E,av,aw,ad,ax,ay,ae,az,a2,p,q,hn,hm,a,a3,b5,b,af,hs⟩:=O;subst hn;refine .lL [5,9] hs ?_
  cases q with
  | zero=>rw [Uj.eq_1] at hm;cases hm
  | succ q=>
   rw [Uj.eq_2] at hm;refine go ?_;refine lW b.at1<|go ?_;refine Zm hm (fun hb hm=>go ?_) fun hb hm=>go ?_
   ·obtain ⟨Q,b6,hm⟩:=bZ hm;refine Zh (Zw3 2 3 b6 rfl b5 b) ?_;rintro _ cy ⟨b7,cz,c0,rfl,a4,a5,g⟩;refine ⟨_,rfl,go ?_⟩;refine U8 (col:=b7) [Q.1] 5 ?_;intro c2 c3 c4 R b8;obtain ⟨b9,hm⟩:=Zt hm;replace af:=(af.kpp a4).gr R;refine Wy af (b8.srcN (NB.int (k:=.i64))) b9 ?_;intro br bs c5 c6 ag i;refine go ?_;obtain ⟨F,a6,hm⟩:=bZ hm;replace a:=((a.kpp a4).grow R).kpp ag;refine lI a6 ((h1.ks a).addr a6) ?_;obtain ⟨_,ca,cb⟩:=(h1.ks a).atN a6;obtain ⟨⟨bt,bu,rfl,c⟩,_⟩:=ca;refine lW cb.one<|go ?_;replace a3:=((a3.kpp a4).gr R).kpp ag;replace a5:=(a5.gr R).kpp ag;replace g:=(g.gr R).kpp ag;refine Z6 [1,45,46,6,9,1000000] (fun n f s=>∃ t S T U G a7 a8 ah V,n=V.length∧F.drop S=V∧Sv N p (Uj N l q) Q V G ah=some r∧St w0 (Zi col) t s∧Sl (Za.int .i64) t s bt bu F∧Zc (Za.int .i64) 3 1 t s T U G∧Zc (Za.int .i64) 3 3 t s a7 a8 ah∧Ze 202 2 t s B #[.slice a7 ah.length a8]∧Zc (Za.int .i64) 3 4 t s br bs (p++[Q.1])∧[47,5].map f=[.int .i64 S,.slice T G.length U]) F.length ⟨_,0,_,_,_,_,_,_,_,rfl,rfl,hm,a,c,a3,a5,g,i,rfl⟩ ?_;clear hm;intro n f s O;obtain ⟨t,S,T,U,G,a7,a8,ah,V,hn,hl,hm,a,c,W,X,g,i,hs⟩:=O;subst hn;refine .lL [47,5] hs ?_
    cases V with
    | nil=>
     have hk:¬ ((S:Int)<(F.length:Int)):=by have:=List.drop_eq_nil_iff.1 hl;omega
     have hkb:=decide_eq_false hk;rw [Sv.eq_1] at hm;refine go ?_;refine Yh (congrArg Value.bool hkb)<|go ?_;exact ⟨q,by omega,rfl,⟨_,_,_,_,_,_,_,_,_,_,_,rfl,hm,a,W,X,g,i,rfl⟩⟩
    | cons cc bv=>
     obtain ⟨u,cd,ce⟩:=Yu hl;have hk:(S:Int)<(F.length:Int):=by omega
     have hkb:=decide_eq_true hk;rw [Sv.eq_2] at hm;refine go ?_;refine X8 (congrArg Value.bool hkb)<|Z1<|Zo ?_;refine Wp.cutK [1,45,46,47,6,9,1000000] (fun f x=>∃ y a9 ba ai bb bc aj,Zds (Sv N p (Uj N l q) Q bv) ai aj=some r∧St w0 (Zi col) y x∧Sl (Za.int .i64) y x bt bu F∧Zc (Za.int .i64) 3 1 y x a9 ba ai∧Zc (Za.int .i64) 3 3 y x bb bc aj∧Ze 202 2 y x B #[.slice bb aj.length bc]∧Zc (Za.int .i64) 3 4 y x br bs (p++[Q.1])∧[5].map f=[.slice a9 ai.length ba]) ?_ ?_
     ·intro f x hJ;obtain ⟨y,a9,ba,ai,bb,bc,aj,hm,a,c,cf,cg,g,i,hs⟩:=hJ;rw [Zds.eq_1] at hm;refine .lL [5] hs<|go ?_;exact ⟨bv.length,by simp,rfl,⟨_,_,_,_,_,_,_,_,_,rfl,cd,hm,a,c,cf,cg,g,i,(Y0 (congrArg (Value.int .i64) (Yw (Nat.lt_of_lt_of_le ce c.1.1))) rfl)⟩⟩
     refine go ?_;refine lI u (c.addr u)<|lW (c.atInt u) ?_;refine go ?_;obtain ⟨bw,H,hm⟩:=bZ hm;refine lI H (W.addr H)<|lW (W.atInt H) ?_;refine go ?_;refine lI H (W.addr H) ?_;obtain ⟨bd,ak,hm⟩:=bZ hm;have ak:bd=G.set (Int.toNat cc) (i64.wrap (bw - 1)):=(Option.some.inj ak).symm;refine Wj (x1:=i64.wrap (bw - 1)) W H ?_;intro c7 Y ch A;rw [← ak] at A;refine .ld (d:=5) (v:=(.slice T bd.length U)) (congrArg (fun n=>Value.slice T n U) (show G.length=bd.length by rw [ak,List.length_set])) ?_;refine go ?_;obtain ⟨c8,be,hm⟩:=bZ hm;refine lI be (A.addr be)<|lW (A.atInt be) ?_;refine go ?_;replace c:=c.kp Y;replace X:=X.kp Y;replace i:=i.kp Y;replace g:=g.kp Y;replace a:=a.kp Y ch;refine Zm hm (fun hb hm=>go ?_) fun hb hm=>?_
     ·obtain ⟨c9,ci,hm⟩:=bZ hm;refine Zh (Zpp 2 3 ci rfl X g) ?_;rintro _ da ⟨db,dc,dd,rfl,al,cj,ck⟩;refine ⟨_,rfl,?_⟩;refine Zj ?_;replace c:=c.kpp al;replace A:=A.kpp al;replace i:=i.kpp al;replace a:=a.kpp al;exact ⟨rfl,_,_,_,_,_,_,_,hm,a,c,A,cj,ck,i,rfl⟩
     refine Z1 ?_;exact ⟨rfl,_,_,_,_,_,_,_,hm,a,c,A,X,g,i,rfl⟩
   cases hm;exact ⟨rfl,_,_,_,rfl,a.fin (cm [(4,c1)]),a.fo af⟩
 | cons bx bz=>
  obtain ⟨u,cl,cn⟩:=Yu hl;have hk:(o:Int)<(j.length:Int):=by omega
  have hkb:=decide_eq_true hk;rw [Su.eq_2] at hm;refine go ?_;refine X8 (congrArg Value.bool hkb)<|Z1<|Zo ?_;refine Wp.cutK [1,16,17,18,6,1000000] (fun f Z=>∃ aa bf bg am bh bi an,Zdt o (Su N l bz) am an=some r∧St w0 (Zi col) aa Z∧Zc (Za.int .i64) 3 1 aa Z bf bg am∧Zc (Za.int .i64) 3 3 aa Z bh bi an∧Ze 202 2 aa Z B #[.slice bh an.length bi]∧[5].map f=[.slice bf am.length bg]) ?_ ?_
  ·intro f Z hJ;obtain ⟨aa,bf,bg,am,bh,bi,an,hm,a,co,cp,b,hs⟩:=hJ;rw [Zdt.eq_1] at hm;refine .lL [5] hs<|go ?_;exact ⟨bz.length,by simp,rfl,⟨_,_,_,_,_,_,_,_,_,rfl,cl,hm,a,co,cp,b,(Y0 (congrArg (Value.int .i64) (Yw (Nat.lt_of_lt_of_le cn (h0.ks a).1.1))) rfl)⟩⟩
  refine go ?_;refine lI u ((h0.ks a).addr u) ?_;obtain ⟨_,cq,cr⟩:=(h0.ks a).atN u;obtain ⟨⟨de,df,rfl,dg⟩,_⟩:=cq;refine lW cr.one<|go ?_;obtain ⟨dh,bj,hm⟩:=bZ hm;refine lI bj (au.addr bj) ?_;obtain ⟨bk,ao,hm⟩:=bZ hm;have ao:bk=C.set (Int.toNat (o:Int)) (bx.length:Int):=(Option.some.inj ao).symm;refine Wj (x1:=(bx.length:Int)) au bj ?_;intro di bm cs ab;rw [← ao] at ab;refine .ld (d:=5) (v:=(.slice K bk.length L)) (congrArg (fun n=>Value.slice K n L) (show C.length=bk.length by rw [ao,List.length_set])) ?_;refine go ?_;replace P:=P.kp bm;replace b:=b.kp bm;replace a:=a.kp bm cs;refine Zm hm (fun hb hm=>go ?_) fun hb hm=>?_
  ·obtain ⟨dj,ct,hm⟩:=bZ hm;refine Zh (Zpp 2 3 ct rfl P b) ?_;rintro _ dl ⟨dm,dn,dp,rfl,b0,cu,cv⟩;refine ⟨_,rfl,?_⟩;refine Zj ?_;replace ab:=ab.kpp b0;replace a:=a.kpp b0;exact ⟨rfl,_,_,_,_,_,_,_,hm,a,ab,cu,cv,rfl⟩
  refine Z1 ?_;exact ⟨rfl,_,_,_,_,_,_,_,hm,a,ab,P,b,rfl⟩
def Qf (N:Nat) (a:(List (List Int))):Option (List Int×Int):=
  (Zdm a).bind fun b=>if (!decide (b=0))=true then (some (([]:List Int),b)) else ((Zdl a).bind fun d=>(Zdr N a d).bind fun c=>if (decide ((c.length:Int)<(a.length:Int)))=true then (some (([]:List Int),42)) else (some (c,0)))
theorem Zw0 {N d:Nat} {a0:Option Addr} {col:Zd} {w0:World} {b:(List (List Int))} {r:(List Int×Int)} (c1:Nat) (hm:Qf N b=some r) (h0:Sl (Za.slice (Za.int .i64)) col w0 a0 d b):
    Calls prog 75 #[.slice a0 b.length d] w0 (fun e w'=>∃ (col':Zd) (ra1:Option Addr) (rc2:Nat),e= .returned (.tuple #[.slice ra1 r.1.length rc2,.int .i64 r.2])∧Zg col w0 col' w'∧Zc (Za.int .i64) 3 c1 col' w' ra1 rc2 r.1):=by
 refine Zbm 2 3 (m:=21) (args:=[.slice a0 b.length d]) func75 O O O O O ?_;rw [Qf.eq_1] at hm;have a:=St.start col w0;refine go ?_;obtain ⟨t,j,hm⟩:=bZ hm;replace h0:=h0.keep (Zl.start col w0);refine Zh (Zw2 j (h0.ks a)) ?_;rintro _ k ⟨rfl,f⟩;refine ⟨_,O,?_⟩;replace f:Zg (Zi col) w0 (Zi col) k:=.of_below f;refine go ?_;replace a:=a.grow f;refine Zm hm (fun hb hm=>go ?_) fun hb hm=>go ?_
 ·cases hm;exact ⟨O,_,none,0,O,a.fin (cm []),Zc.nil⟩
 obtain ⟨u,l,hm⟩:=bZ hm;refine Zh (Zw1 1 l (h0.ks a)) ?_;rintro _ n ⟨g,v,w,rfl,o,p⟩;refine ⟨_,O,?_⟩;obtain ⟨x,q,hm⟩:=bZ hm;replace a:=a.grow o;refine Zh (Zw4 2 q ((h0.ks a).froz 1) (p.toSlF (Zk.row (Zk.int .i64)))) ?_;rintro _ y ⟨s,A,B,rfl,c,i⟩;refine ⟨_,O,?_⟩;replace i:=i.thaw (Xs .i64) c ((Fz.refl (col:=g)).froz 1) (by decide);replace c:=c.thawR (col:=g);generalize Xn n.heap.size g s=C at *;refine go ?_;replace a:=a.grow c;refine Zm hm (fun hb hm=>go ?_) fun hb hm=>go ?_
 ·cases hm;exact ⟨O,_,none,0,O,a.fin (cm []),Zc.nil⟩
 cases hm;exact ⟨O,_,_,_,O,a.fin (cm [(2,c1)]),a.fo i⟩
def Qe (N:Nat) (a:(List (List Int))):Option Int:=
  (Qf N a).bind fun b=>some b.2
theorem Zwz {N d:Nat} {a0:Option Addr} {col:Zd} {w0:World} {c:(List (List Int))} {r:Int} (hm:Qe N c=some r) (h0:Sl (Za.slice (Za.int .i64)) col w0 a0 d c):
    Calls prog 56 #[.slice a0 c.length d] w0 (fun e w'=>e= .returned ((.int .i64 r))∧Below w0.heap.size w0 w'):=by
 refine Z5 2 (m:=11) func56 O O O O O ?_;rw [Qe.eq_1] at hm;have a:=St.start col w0;refine go ?_;obtain ⟨b,i,hm⟩:=bZ hm;replace h0:=h0.keep (Zl.start col w0);refine Zh (Zw0 1 i (h0.ks a)) ?_;rintro _ k ⟨l,f,g,rfl,j,n⟩;refine ⟨_,O,?_⟩;refine lM (.tuple #[.slice f b.1.length g,.int .i64 b.2])<|lV (.slice f b.1.length g) (Xl O O)<|lV (.int .i64 b.2) (Xl O O)<|go ?_;cases hm;replace a:=a.grow j;exact ⟨O,O,a.below⟩
def Zkk (N:Nat) (p0_l:List Int) (p1_x:Int):Nat→Int→Option Bool
 | 0,_=>none
 | n_1+1,i_4=>if (decide (i_4<(p0_l.length:Int)))=true then ((Zq p0_l i_4).bind fun e_5=>if (decide (e_5=p1_x))=true then (some true) else ((Zkk N p0_l p1_x n_1) (i64.wrap (i_4+1)))) else (some false)
termination_by structural x=>x
def Zhu (N:Nat) (p0_l:List Int) (p1_x:Int):Option Bool:=
 Zkk N p0_l p1_x N 0
def Zkm (k_8:Int) (kk_L2:(Int→Option Bool)) (v_26:Bool):Option Bool:=
 if v_26=true then (some false) else (kk_L2 (i64.wrap (k_8+1)))
def Zhw (N:Nat) (p0_parents:(List (List Int))) (i_4:Int) (kk_L1:(Int→Option Bool)):Nat→Int→Option Bool
 | 0,_=>none
 | n_5+1,k_8=>(Zq p0_parents i_4).bind fun e_9=>if (decide (k_8<(e_9.length:Int)))=true then ((Zq e_9 k_8).bind fun e_21=>if (decide (e_21<0))=true then (Zkm k_8 (Zhw N p0_parents i_4 kk_L1 n_5) true) else (Zkm k_8 (Zhw N p0_parents i_4 kk_L1 n_5) (decide ((p0_parents.length:Int)≤e_21)))) else (kk_L1 (i64.wrap (i_4+1)))
termination_by structural x=>x
def Zhv (N:Nat) (p0_parents:(List (List Int))):Nat→Int→Option Bool
 | 0,_=>none
 | n_1+1,i_4=>if (decide (i_4<(p0_parents.length:Int)))=true then (Zhw N p0_parents i_4 (Zhv N p0_parents n_1) N 0) else (some true)
termination_by structural x=>x
def Zkl (N:Nat) (p0_parents:(List (List Int))):Option Bool:=
 Zhv N p0_parents N 0
def Zkq (N:Nat) (p0_parents:(List (List Int))) (i_4:Int) (kk_L1:(Int→Option Bool)):Nat→Int→Option Bool
 | 0,_=>none
 | n_5+1,k_8=>(Zq p0_parents i_4).bind fun e_9=>if (decide (k_8<(e_9.length:Int)))=true then (Zr ((0:Int)≤k_8∧k_8≤(e_9.length:Int)) ((Zq e_9 k_8).bind fun e_27=>(Zhu N (e_9.take (Int.toNat k_8)) e_27).bind fun r_29=>if r_29=true then (some true) else ((Zkq N p0_parents i_4 kk_L1 n_5) (i64.wrap (k_8+1))))) else (kk_L1 (i64.wrap (i_4+1)))
termination_by structural x=>x
def Zhy (N:Nat) (p0_parents:(List (List Int))):Nat→Int→Option Bool
 | 0,_=>none
 | n_1+1,i_4=>if (decide (i_4<(p0_parents.length:Int)))=true then (Zkq N p0_parents i_4 (Zhy N p0_parents n_1) N 0) else (some false)
termination_by structural x=>x
def Zkp (N:Nat) (p0_parents:(List (List Int))):Option Bool:=
 Zhy N p0_parents N 0
def Zko (k_28:Int) (kk_L3:(Bool→Int→Option (List Int))) (ready_38:Bool):Option (List Int):=
 kk_L3 ready_38 (i64.wrap (k_28+1))
def Zkn (i_12:Int) (kk_L2:(Int→Int→Option (List Int))) (next_19:Int):Option (List Int):=
 kk_L2 next_19 (i64.wrap (i_12+1))
def Zhx (N:Nat) (p0_parents:(List (List Int))) (l_4:List Int) (next_11:Int) (i_12:Int) (kk_L2:(Int→Int→Option (List Int))):Nat→Bool→Int→Option (List Int)
 | 0,_,_=>none
 | n_24+1,ready_27,k_28=>(Zq p0_parents i_12).bind fun e_29=>if (decide (k_28<(e_29.length:Int)))=true then (if ready_27=true then ((Zq e_29 k_28).bind fun e_45=>(Zhu N l_4 e_45).bind fun r_47=>Zko k_28 (Zhx N p0_parents l_4 next_11 i_12 kk_L2 n_24) r_47) else (Zko k_28 (Zhx N p0_parents l_4 next_11 i_12 kk_L2 n_24) false)) else (if ready_27=true then (Zkn i_12 kk_L2 i_12) else (Zkn i_12 kk_L2 next_11))
termination_by structural x=>x
def Zfc (N:Nat) (p0_parents:(List (List Int))) (l_4:List Int) (kk_L1:(List Int→Option (List Int))) (next_11:Int) (i_12:Int) (kk_L2:(Int→Int→Option (List Int))) (v_16:Bool):Option (List Int):=
 if v_16=true then ((Zhu N l_4 i_12).bind fun r_20=>Zhx N p0_parents l_4 next_11 i_12 kk_L2 N (!r_20) 0) else (if (decide (next_11<0))=true then (some l_4) else (Zr ((l_4.length+[next_11].length) * 8≤140737488355328∧l_4.length+[next_11].length≤maxLen) (kk_L1 (l_4++[next_11]))))
def Zcm (N:Nat) (p0_parents:(List (List Int))) (l_4:List Int) (kk_L1:(List Int→Option (List Int))):Nat→Int→Int→Option (List Int)
 | 0,_,_=>none
 | n_8+1,next_11,i_12=>if (decide (i_12<(p0_parents.length:Int)))=true then (Zfc N p0_parents l_4 kk_L1 next_11 i_12 (Zcm N p0_parents l_4 kk_L1 n_8) (decide (next_11<0))) else (Zfc N p0_parents l_4 kk_L1 next_11 i_12 (Zcm N p0_parents l_4 kk_L1 n_8) false)
termination_by structural x=>x
def Zcl (N:Nat) (p0_parents:(List (List Int))):Nat→(List Int)→Option (List Int)
 | 0,_=>none
 | n_1+1,l_4=>Zcm N p0_parents l_4 (Zcl N p0_parents n_1) N (-1) 0
termination_by structural x=>x
def Q0 (N:Nat) (p0_parents:(List (List Int))):Option (List Int):=
 Zcl N p0_parents N ([]:List Int)
def Zfb (N:Nat) (p0_parents:(List (List Int))):Option Int:=
 (Zkl N p0_parents).bind fun r_1=>if (!r_1)=true then (some 3) else ((Zkp N p0_parents).bind fun r_5=>if r_5=true then (some 40) else ((Q0 N p0_parents).bind fun r_9=>if (decide ((r_9.length:Int)<(p0_parents.length:Int)))=true then (some 42) else (some 0)))
theorem Zpg (N:Nat) (l:List Int) (x:Int) (hl:l.length≤1048576):∀ (n k:Nat),l.length<n+k→k≤l.length→Zkk N l x n (k:Int)=some (decide (x ∈ l.drop k))
 | 0,k,h,hk=>by omega
 | n+1,k,h,hk=>by
  rw [Zkk.eq_2]
  by_cases hlt:k<l.length
  ·rw [if_pos (by simpa using hlt),Xa hlt,Option.bind_some,wS (by omega),Zpg N l x hl n (k+1) (by omega) (by omega),List.drop_eq_getElem_cons hlt]
   by_cases he:l[k]=x
   ·rw [if_pos (by simpa using he),decide_eq_true (by rw [he];exact List.mem_cons_self)]
   ·rw [if_neg (by simpa using he)]
    exact congrArg some (decide_eq_decide.2 ⟨fun h=>List.mem_cons_of_mem _ h,fun h=>(List.mem_cons.1 h).resolve_left (Ne.symm he)⟩)
  ·rw [if_neg (by simpa using hlt),List.drop_eq_nil_of_le (by omega)];simp
theorem Zl9 {N:Nat} {l:List Int} {x:Int} (hl:l.length≤1048576) (hN:1048576<N):Zhu N l x=some (decide (x ∈ l)):=by
 rw [Zhu];simpa using Zpg N l x hl N 0 (by omega) (by omega)
def V4 (m:Int) (P:List (List Int)):Bool:=P.all fun l=>l.all fun p=>decide (0≤p∧p<m)
theorem Zri (N:Nat) (P:List (List Int)) (i:Nat) (hi:i<P.length) (hP:P.length≤1048576) (hl:P[i].length≤1048576) (kk:Int→Option Bool):∀ (n k:Nat),P[i].length<n+k→k≤P[i].length→
  Zhw N P (i:Int) kk n (k:Int)=if (P[i].drop k).all (fun p=>decide (0≤p∧p<(P.length:Int))) then kk ((i+1:Nat):Int) else some false
 | 0,k,h,hk=>by omega
 | n+1,k,h,hk=>by
  rw [Zhw.eq_2,Xa hi,Option.bind_some]
  by_cases hlt:k<P[i].length
  ·rw [if_pos (by simpa using hlt),Xa hlt,Option.bind_some,Zkm,Zkm,wS (by omega),Zri N P i hi hP hl kk n (k+1) (by omega) (by omega),List.drop_eq_getElem_cons hlt]
   by_cases h1:P[i][k]<0
   ·rw [if_pos (by simpa using h1),if_pos rfl,if_neg (fun h=>by rw [List.all_cons,Bool.and_eq_true,decide_eq_true_eq] at h;omega)]
   ·rw [if_neg (by simpa using h1)]
    by_cases h2:(P.length:Int)≤P[i][k]
    ·rw [if_pos (by simpa using h2),if_neg (fun h=>by rw [List.all_cons,Bool.and_eq_true,decide_eq_true_eq] at h;omega)]
    ·rw [if_neg (by simpa using h2)]
     simp only [List.all_cons,Bool.and_eq_true]
     have h3:decide (0≤P[i][k]∧P[i][k]<(P.length:Int))=true:=by simp;omega
     simp only [h3,true_and]
  ·rw [if_neg (by simpa using hlt),List.drop_eq_nil_of_le (by omega),wS (by omega)];simp
theorem Zrh (N:Nat) (P:List (List Int)) (hP:P.length≤1048576) (hl:∀ l ∈ P,l.length≤1048576) (hN:1048576<N):∀ (n i:Nat),P.length<n+i→i≤P.length→
  Zhv N P n (i:Int)=some (V4 P.length (P.drop i))
 | 0,i,h,hi=>by omega
 | n+1,i,h,hi=>by
  rw [Zhv.eq_2]
  by_cases hlt:i<P.length
  ·have h0:=Zri N P i hlt hP (hl _ (List.getElem_mem hlt)) (Zhv N P n) N 0 (by have:=hl _ (List.getElem_mem hlt);omega) (by omega)
   rw [if_pos (by simpa using hlt)]
   rw [show (0:Int)=((0:Nat):Int) from rfl,h0,Zrh N P hP hl hN n (i+1) (by omega) (by omega),List.drop_eq_getElem_cons hlt]
   simp only [V4,List.all_cons,List.drop_zero]
   by_cases h1:(P[i].all fun p=>decide (0≤p∧p<(P.length:Int)))=true
   ·rw [if_pos h1,h1,Bool.true_and]
   ·rw [if_neg h1,Bool.eq_false_iff.2 h1,Bool.false_and]
  ·rw [if_neg (by simpa using hlt),List.drop_eq_nil_of_le (by omega)];rfl
theorem Z0v {N:Nat} {P:List (List Int)} (hP:P.length≤1048576) (hl:∀ l ∈ P,l.length≤1048576) (hN:1048576<N):Zkl N P=some (V4 P.length P):=by
 rw [Zkl];simpa using Zrh N P hP hl hN N 0 (by omega) (by omega)
def Us (P:List (List Int)):Bool:=P.any fun l=>!decide l.Nodup
theorem Zsr (l:List Int) (k:Nat) (hk:k<l.length):(l.take (k+1)).Nodup↔(l.take k).Nodup∧l[k] ∉ l.take k:=by
 rw [List.take_succ_eq_append_getElem hk,List.nodup_append]
 simp only [List.nodup_cons,List.not_mem_nil,not_false_eq_true,List.nodup_nil,and_self,List.mem_singleton,true_and]
 constructor
 ·rintro ⟨h1,h2⟩;exact ⟨h1,fun h=>h2 _ h _ rfl rfl⟩
 ·rintro ⟨h1,h2⟩;exact ⟨h1,fun a ha b hb e=>h2 (by rw [← hb,← e];exact ha)⟩
theorem Zvh (N:Nat) (P:List (List Int)) (i:Nat) (hi:i<P.length) (hP:P.length≤1048576) (hl:P[i].length≤1048576) (hN:1048576<N) (kk:Int→Option Bool):∀ (n k:Nat),P[i].length<n+k→k≤P[i].length→(P[i].take k).Nodup→
  Zkq N P (i:Int) kk n (k:Int)=if P[i].Nodup then kk ((i+1:Nat):Int) else some true
 | 0,k,h,hk,_=>by omega
 | n+1,k,h,hk,hnd=>by
  rw [Zkq.eq_2,Xa hi,Option.bind_some]
  by_cases hlt:k<P[i].length
  ·rw [if_pos (by simpa using hlt),Xd (by omega),Xa hlt,Option.bind_some,Zl9 (by simp;omega) hN,Option.bind_some,Int.toNat_natCast]
   by_cases h1:P[i][k] ∈ P[i].take k
   ·rw [if_pos (by simpa using h1),if_neg]
    intro h2
    exact ((Zsr _ k hlt).1 (h2.sublist (List.take_sublist _ _))).2 h1
   ·rw [if_neg (by simpa using h1),wS (by omega)]
    exact Zvh N P i hi hP hl hN kk n (k+1) (by omega) (by omega) ((Zsr _ k hlt).2 ⟨hnd,h1⟩)
  ·rw [if_neg (by simpa using hlt),wS (by omega)]
   rw [List.take_of_length_le (by omega)] at hnd
   rw [if_pos hnd]
theorem Zvg (N:Nat) (P:List (List Int)) (hP:P.length≤1048576) (hl:∀ l ∈ P,l.length≤1048576) (hN:1048576<N):∀ (n i:Nat),P.length<n+i→i≤P.length→
  Zhy N P n (i:Int)=some (Us (P.drop i))
 | 0,i,h,hi=>by omega
 | n+1,i,h,hi=>by
  rw [Zhy.eq_2]
  by_cases hlt:i<P.length
  ·have h0:=Zvh N P i hlt hP (hl _ (List.getElem_mem hlt)) hN (Zhy N P n) N 0 (by have:=hl _ (List.getElem_mem hlt);omega) (by omega) (by simp)
   rw [if_pos (by simpa using hlt)]
   rw [show (0:Int)=((0:Nat):Int) from rfl,h0,Zvg N P hP hl hN n (i+1) (by omega) (by omega),List.drop_eq_getElem_cons hlt]
   simp only [Us,List.any_cons]
   by_cases h1:P[i].Nodup
   ·rw [if_pos h1];simp [h1]
   ·rw [if_neg h1];simp [h1]
  ·rw [if_neg (by simpa using hlt),List.drop_eq_nil_of_le (by omega)];rfl
theorem Z3s {N:Nat} {P:List (List Int)} (hP:P.length≤1048576) (hl:∀ l ∈ P,l.length≤1048576) (hN:1048576<N):Zkp N P=some (Us P):=by
 rw [Zkp];simpa using Zvg N P hP hl hN N 0 (by omega) (by omega)
def Ur (P:List (List Int)):Nat:=(P.map List.length).sum
theorem Zih (l:List Int) (P:List (List Int)):Ur (l :: P)=l.length+Ur P:=by simp [Ur]
theorem Zlv {l:List Int}:∀ {P:List (List Int)},l ∈ P→l.length≤Ur P
 | x :: P,h=>by
  rw [Zih]
  rcases List.mem_cons.1 h with rfl | h
  ·omega
  ·have:=Zlv h;omega
def Zm3:Nat→List (List Int)→List (Int×Int)
 | _,[]=>[]
 | k,l :: P=>l.map (fun p=>(p,(k:Int)))++Zm3 (k+1) P
theorem Zzp:∀ (k:Nat) (P:List (List Int)),(Zm3 k P).length=Ur P
 | _,[]=>rfl
 | k,l :: P=>by rw [Zm3,List.length_append,List.length_map,Zzp,Zih]
def U0 (P:List (List Int)) (l:List Int) (i:Nat):Bool:=!decide ((i:Int) ∈ l)&&(P.getD i []).all fun p=>decide (p ∈ l)
def Vd (P:List (List Int)) (l:List Int) (i:Nat):Option Nat:=(List.range' i (P.length - i)).find? (U0 P l)
theorem Z1u (P:List (List Int)) (l:List Int) (i:Nat) (h:P.length≤i):Vd P l i=none:=by
 rw [Vd,Nat.sub_eq_zero_of_le h];rfl
theorem Z1w (P:List (List Int)) (l:List Int) (i:Nat) (h:i<P.length):Vd P l i=if U0 P l i then some i else Vd P l (i+1):=by
 rw [Vd,Vd,show P.length - i=(P.length - (i+1))+1 by omega,List.range'_succ,List.find?_cons]
 cases U0 P l i <;> simp
section
variable (N:Nat) (P:List (List Int)) (l:List Int)
theorem Zoc (hP:P.length≤1048576) (hl:l.length≤1048576) (hN:1048576<N) (next:Int) (i:Nat) (hi:i<P.length) (hli:P[i].length≤1048576) (kk:Int→Int→Option (List Int)):∀ (n:Nat) (b:Bool) (k:Nat),P[i].length<n+k→k≤P[i].length→
  Zhx N P l next (i:Int) kk n b (k:Int)=kk (if (b&&(P[i].drop k).all fun p=>decide (p ∈ l))=true then (i:Int) else next) ((i+1:Nat):Int)
 | 0,b,k,h,hk=>by omega
 | n+1,b,k,h,hk=>by
  rw [Zhx.eq_2,Xa hi,Option.bind_some]
  by_cases hlt:k<P[i].length
  ·rw [if_pos (by simpa using hlt),Xa hlt,Option.bind_some,Zl9 hl hN,Option.bind_some,Zko,Zko,wS (by omega),Zoc hP hl hN next i hi hli kk n _ (k+1) (by omega) (by omega),Zoc hP hl hN next i hi hli kk n _ (k+1) (by omega) (by omega),List.drop_eq_getElem_cons hlt,List.all_cons]
   cases b
   ·rw [if_neg (by decide),Bool.false_and,Bool.false_and]
   ·rw [if_pos rfl,Bool.true_and]
  ·rw [if_neg (by simpa using hlt),List.drop_eq_nil_of_le (by omega),Zkn,Zkn,wS (by omega),List.all_nil,Bool.and_true]
   cases b
   ·rw [if_neg (by decide),if_neg (by decide)]
   ·rw [if_pos rfl,if_pos rfl]
def Zti (kk:List Int→Option (List Int)):Option Nat→Option (List Int)
 | none=>some l
 | some i=>kk (l++[(i:Int)])
theorem Zs2 (hl:l.length<1048576) (kk:List Int→Option (List Int)) (i:Nat) (i':Int) (kk2:Int→Int→Option (List Int)):Zfc N P l kk (i:Int) i' kk2 false=kk (l++[(i:Int)]):=by
 rw [Zfc,if_neg (by decide),if_neg (by rw [decide_eq_true_eq];omega),Xd (by simp only [List.length_cons,List.length_nil,maxLen];omega)]
theorem Zs1 (hP:P.length≤1048576) (hls:∀ x ∈ P,x.length≤1048576) (hl:l.length<1048576) (hN:1048576<N) (kk:List Int→Option (List Int)):∀ (n i:Nat),P.length<n+i→i≤P.length→
  Zcm N P l kk n (-1) (i:Int)=Zti l kk (Vd P l i)
 | 0,i,h,hi=>by omega
 | n+1,i,h,hi=>by
  rw [Zcm.eq_2]
  by_cases hlt:i<P.length
  ·have h3:=Zoc N P l hP (by omega) hN (-1) i hlt (hls _ (List.getElem_mem hlt)) (Zcm N P l kk n) N (!decide ((i:Int) ∈ l)) 0 (by have:=hls _ (List.getElem_mem hlt);omega) (by omega)
   rw [if_pos (by simpa using hlt),Zfc,if_pos (by decide),Zl9 (by omega) hN,Option.bind_some]
   rw [show (0:Int)=((0:Nat):Int) from rfl,h3,Z1w P l i hlt,List.drop_zero]
   have hb:(!decide ((i:Int) ∈ l)&&P[i].all fun p=>decide (p ∈ l))=U0 P l i:=by
    rw [U0,List.getD_eq_getElem?_getD,List.getElem?_eq_getElem hlt];rfl
   rw [hb]
   by_cases hr:U0 P l i=true
   ·rw [if_pos hr,if_pos hr]
    match n,h with
    | 0,h=>omega
    | n+1,h=>
     rw [Zcm.eq_2]
     by_cases h2:i+1<P.length
     ·rw [if_pos (decide_eq_true (by omega)),show decide ((i:Int)<0)=false from decide_eq_false (by omega)]
      exact Zs2 N P l hl kk i _ _
     ·rw [if_neg (by rw [decide_eq_true_eq];omega)]
      exact Zs2 N P l hl kk i _ _
   ·rw [if_neg hr,if_neg hr]
    exact Zs1 hP hls hl hN kk n (i+1) (by omega) (by omega)
  ·rw [if_neg (by simpa using hlt),Z1u P l i (by omega),Zfc,if_neg (by decide),if_pos (by decide)];rfl
end
theorem Zs3 {N:Nat} {P:List (List Int)} {l:List Int} (hP:P.length≤1048576) (hls:∀ x ∈ P,x.length≤1048576) (hl:l.length<1048576) (hN:1048576<N) (n:Nat):
  Zcl N P (n+1) l=Zti l (Zcl N P n) (Vd P l 0):=by
 rw [Zcl.eq_2]
 exact Zs1 N P l hP hls hl hN _ N 0 (by omega) (by omega)
theorem Zsp {P:List (List Int)} {l:List Int} {i j:Nat} (h:Vd P l i=some j):i≤j∧j<P.length∧U0 P l j=true∧∀ k,i≤k→k<j→U0 P l k=false:=by
 rw [Vd,List.find?_range'_eq_some] at h
 obtain ⟨h1,h2,h3⟩:=h
 rw [List.mem_range'] at h2
 obtain ⟨q,h4,h5⟩:=h2
 refine ⟨by omega,by omega,h1,fun k hk1 hk2=>?_⟩
 have:=h3 k hk1 hk2
 simpa using this
theorem Z1v {P:List (List Int)} {l:List Int} {i:Nat} (h:Vd P l i=none):∀ k,i≤k→k<P.length→U0 P l k=false:=by
 rw [Vd,List.find?_eq_none] at h
 intro k hk1 hk2
 have:=h k (by rw [List.mem_range'];exact ⟨k - i,by omega,by omega⟩)
 simpa using this
theorem Z29 {P:List (List Int)} {l:List Int} {i:Nat} (hi:i<P.length):U0 P l i=true↔(i:Int) ∉ l∧∀ p ∈ P[i],p ∈ l:=by
 rw [U0,List.getD_eq_getElem?_getD,List.getElem?_eq_getElem hi]
 simp
def U5 (P:List (List Int)) (l:List Int):Prop:=l.Nodup∧(∀ x ∈ l,0≤x∧x<(P.length:Int))∧∀ (i:Nat) (hi:i<P.length),(i:Int) ∈ l→∀ p ∈ P[i],p ∈ l
theorem U5.len {P:List (List Int)} {l:List Int} (h:U5 P l):l.length≤P.length:=by
 have h1:=Zh5 (r:=(List.range P.length).map fun i:Nat=>(i:Int)) h.1 fun x hx=>by
  have:=h.2.1 x hx
  exact List.mem_map.2 ⟨x.toNat,List.mem_range.2 (by omega),by omega⟩
 simpa using h1
theorem U5.step {P:List (List Int)} {l:List Int} {j:Nat} (h:U5 P l) (hn:Vd P l 0=some j):U5 P (l++[(j:Int)])∧l.length<P.length:=by
 obtain ⟨_,h2,h3,_⟩:=Zsp hn
 obtain ⟨h4,h5⟩:=(Z29 h2).1 h3
 have h6:U5 P (l++[(j:Int)]):=by
  refine ⟨?_,?_,?_⟩
  ·rw [List.nodup_append]
   refine ⟨h.1,by simp,fun a ha b hb e=>?_⟩
   rw [List.mem_singleton] at hb;subst hb;subst e;exact h4 ha
  ·intro x hx
   rcases List.mem_append.1 hx with hx | hx
   ·exact h.2.1 x hx
   ·rw [List.mem_singleton] at hx;omega
  ·intro i hi hm p hp
   rcases List.mem_append.1 hm with hm | hm
   ·exact List.mem_append_left _ (h.2.2 i hi hm p hp)
   ·rw [List.mem_singleton] at hm
    have:i=j:=by omega
    subst this
    exact List.mem_append_left _ (h5 p hp)
 exact ⟨h6,by have:=h6.len;rw [List.length_append,List.length_cons,List.length_nil] at this;omega⟩
theorem Zs4 {N:Nat} {P:List (List Int)} (hP:P.length<1048576) (hls:∀ x ∈ P,x.length≤1048576) (hN:1048576<N):∀ (n:Nat) (l:List Int),U5 P l→P.length<n+l.length→
  ∃ r,Zcl N P n l=some r∧U5 P r∧Vd P r 0=none
 | 0,l,h,hn=>by have:=h.len;omega
 | n+1,l,h,hn=>by
  have hl:=h.len
  rw [Zs3 (by omega) hls (by omega) hN]
  cases hnx:Vd P l 0 with
  | none=>exact ⟨l,rfl,h,hnx⟩
  | some j=>
   obtain ⟨h1,h2⟩:=h.step hnx
   exact Zs4 hP hls hN n _ h1 (by simp;omega)
theorem Z18 {N:Nat} {P:List (List Int)} (hP:P.length<1048576) (hls:∀ x ∈ P,x.length≤1048576) (hN:1048576<N):∃ r,Q0 N P=some r∧U5 P r∧Vd P r 0=none:=by
 rw [Q0]
 exact Zs4 hP hls hN N [] ⟨.nil,by simp,by simp⟩ (by simp;omega)
def gD (h:List Int) (j:Nat):Int:=h.getD j 0
theorem T7 {h:List Int} {j:Nat} (hj:j<h.length):gD h j=h[j]:=by rw [gD,List.getD_eq_getElem?_getD,List.getElem?_eq_getElem hj];rfl
theorem Sj {h:List Int} {j:Nat} (hj:j<h.length):Zq h (j:Int)=some (gD h j):=by rw [Xa hj,T7 hj]
def U1 (h:List Int) (i p:Nat):List Int:=(h.set i (gD h p)).set p (gD h i)
theorem Zig (h:List Int) (i p:Nat):(U1 h i p).length=h.length:=by simp [U1]
theorem Zu6 {h:List Int} {i p:Nat} (hi:i<h.length) (hp:p<h.length):(U1 h i p).Perm h:=by
 rw [U1,T7 hi,T7 hp];exact List.set_set_perm hi hp
theorem Zjb (h:List Int) (i j:Nat) (x:Int) (hi:i<h.length):gD (h.set i x) j=if j=i then x else gD h j:=by
 rw [gD,gD,List.getD_eq_getElem?_getD,List.getD_eq_getElem?_getD,List.getElem?_set]
 by_cases h1:i=j
 ·subst h1;rw [if_pos rfl,if_pos hi,if_pos rfl];rfl
 ·rw [if_neg h1,if_neg (Ne.symm h1)]
theorem Zaj {h:List Int} {i p:Nat} (hi:i<h.length) (hp:p<h.length) (j:Nat):gD (U1 h i p) j=if j=p then gD h i else if j=i then gD h p else gD h j:=by
 rw [U1,Zjb _ _ _ _ (by simpa using hp),Zjb _ _ _ _ hi]
def Th (h:List Int) (n:Nat):Prop:=∀ j,0<j→j<n→gD h ((j - 1) / 2)≤gD h j
theorem Th.min {h:List Int} {n:Nat} (hh:Th h n):∀ j,j<n→gD h 0≤gD h j:=by
 intro j
 induction j using Nat.strongRecOn with
 | ind j ih=>
  intro hj
  by_cases h0:j=0
  ·subst h0;exact Int.le_refl _
  ·exact Int.le_trans (ih ((j - 1) / 2) (by omega) (by omega)) (hh j (by omega) hj)
/-! ### push -/
def Zir (h:List Int) (i:Nat):Prop:=(∀ j,0<j→j<h.length→j≠i→gD h ((j - 1) / 2)≤gD h j)∧∀ j,0<j→j<h.length→(j - 1) / 2=i→0<i→gD h ((i - 1) / 2)≤gD h j
theorem Zir.step {h:List Int} {i:Nat} (hu:Zir h i) (hi:i<h.length) (h0:0<i) (hlt:gD h i<gD h ((i - 1) / 2)):Zir (U1 h i ((i - 1) / 2)) ((i - 1) / 2):=by
 have hp:(i - 1) / 2<h.length:=by omega
 refine ⟨fun j hj0 hj hjp=>?_,fun j hj0 hj hjp hp0=>?_⟩
 ·rw [Zig] at hj
  rw [Zaj hi hp,Zaj hi hp,if_neg hjp]
  by_cases hji:j=i
  ·subst hji;rw [if_pos rfl,if_pos rfl];omega
  ·rw [if_neg hji]
   have h1:=hu.1 j hj0 hj hji
   by_cases hq:(j - 1) / 2=(i - 1) / 2
   ·rw [if_pos hq];rw [hq] at h1;omega
   ·rw [if_neg hq]
    by_cases hq2:(j - 1) / 2=i
    ·rw [if_pos hq2];exact hu.2 j hj0 hj hq2 h0
    ·rw [if_neg hq2];exact h1
 ·rw [Zig] at hj
  rw [Zaj hi hp,Zaj hi hp,if_neg (by omega),if_neg (by omega),if_neg (by omega)]
  have h1:=hu.1 ((i - 1) / 2) hp0 hp (by omega)
  by_cases hji:j=i
  ·rw [if_pos hji];exact h1
  ·rw [if_neg hji]
   have h2:=hu.1 j hj0 hj hji
   rw [hjp] at h2;omega
theorem Ztb {i:Nat} (h0:0<i) (h1:i≤9000000):i64.wrap (Int.tdiv (i64.wrap ((i:Int) - 1)) 2)=(((i - 1) / 2:Nat):Int):=by
 rw [Z2 (x:=(i:Int) - 1) (by omega),Int.tdiv_eq_ediv_of_nonneg (by omega),Z2 (by omega)];omega
theorem Ztg (N:Nat):∀ (n:Nat) (h:List Int) (i:Nat),i<n→i<h.length→h.length≤9000000→Zir h i→
  ∃ h',Qg N n h (i:Int)=some h'∧h'.Perm h∧Th h' h'.length
 | 0,h,i,hn,_,_,_=>by omega
 | n+1,h,i,hn,hi,hl,hu=>by
  rw [Qg.eq_2]
  by_cases h0:0<i
  ·have hp:(i - 1) / 2<h.length:=by omega
   rw [if_pos (decide_eq_true (by omega)),Sj hi,Option.bind_some,Ztb h0 (by omega),Sj hp,Option.bind_some,Zdq,Ztb h0 (by omega)]
   by_cases hlt:gD h i<gD h ((i - 1) / 2)
   ·obtain ⟨h',h1,h2,h3⟩:=Ztg N n (U1 h i ((i - 1) / 2)) ((i - 1) / 2) (by omega) (by rw [Zig];exact hp) (by rw [Zig];exact hl) (hu.step hi h0 hlt)
    refine ⟨h',?_,h2.trans (Zu6 hi hp),h3⟩
    rw [if_pos (decide_eq_true hlt),Sj hp,Option.bind_some,Sj hi,Option.bind_some,Option.bind_some,Int.toNat_natCast,Int.toNat_natCast,Xa (by simpa using hp),Option.bind_some,Option.bind_some]
    exact h1
   ·refine ⟨h,by rw [if_neg (by simpa using hlt)],.refl _,fun j hj0 hj=>?_⟩
    by_cases hji:j=i
    ·subst hji;omega
    ·exact hu.1 j hj0 hj hji
  ·have:i=0:=by omega
   subst this
   rw [if_neg (by decide),Zdq,if_neg (by decide)]
   exact ⟨h,rfl,.refl _,fun j hj0 hj=>hu.1 j hj0 hj (by omega)⟩
theorem Zrc {h:List Int} {x:Int} {j:Nat} (hj:j<h.length):gD (h++[x]) j=gD h j:=by
 rw [T7 hj,T7 (by simp;omega),List.getElem_append_left hj]
theorem Zth {N:Nat} {h:List Int} (x:Int) (hl:h.length<2000000) (hh:Th h h.length) (hN:2000000<N):∃ h',Zdp N h x=some h'∧h'.Perm (x :: h)∧Th h' h'.length:=by
 rw [Zdp,Xd (by simp only [List.length_cons,List.length_nil,maxLen];omega)]
 have hle:(h++[x]).length=h.length+1:=by simp
 rw [Z2 (by omega),show (((h++[x]).length:Int) - 1)=((h.length:Nat):Int) by omega]
 obtain ⟨h',h1,h2,h3⟩:=Ztg N N (h++[x]) h.length (by omega) (by omega) (by omega) ⟨fun j hj0 hj hji=>by rw [Zrc (by omega),Zrc (by omega)];exact hh j hj0 (by omega),fun j hj0 hj hji h0=>by omega⟩
 exact ⟨h',h1,h2.trans (List.perm_append_singleton x h),h3⟩
/-! ### pop -/
def Zfp (l:List Int) (n i:Nat):Prop:=(∀ j,0<j→j<n→(j - 1) / 2≠i→gD l ((j - 1) / 2)≤gD l j)∧∀ j,0<j→j<n→(j - 1) / 2=i→0<i→gD l ((i - 1) / 2)≤gD l j
theorem Zfp.step {l:List Int} {n i q:Nat} (hu:Zfp l n i) (hn:n≤l.length) (hi:i<n) (hq:q<n) (hqi:(q - 1) / 2=i) (hq0:0<q) (hlt:gD l q<gD l i) (hle:∀ j,0<j→j<n→(j - 1) / 2=i→gD l q≤gD l j):Zfp (U1 l i q) n q:=by
 have hi':i<l.length:=by omega
 have hq':q<l.length:=by omega
 refine ⟨fun j hj0 hj hjp=>?_,fun j hj0 hj hjp _=>?_⟩
 ·rw [Zaj hi' hq',Zaj hi' hq',if_neg hjp]
  by_cases h1:(j - 1) / 2=i
  ·rw [if_pos h1]
   by_cases h2:j=q
   ·rw [if_pos h2];omega
   ·rw [if_neg h2,if_neg (by omega)];exact hle j hj0 hj h1
  ·rw [if_neg h1,if_neg (show j≠q by omega)]
   by_cases h2:j=i
   ·subst h2
    rw [if_pos rfl];exact hu.2 q hq0 hq hqi hj0
   ·rw [if_neg h2];exact hu.1 j hj0 hj h1
 ·rw [Zaj hi' hq',Zaj hi' hq',hqi,if_neg (by omega),if_pos rfl,if_neg (by omega),if_neg (by omega)]
  have:=hu.1 j hj0 hj (by omega)
  rwa [hjp] at this
theorem Z3o {l:List Int} {n i q:Nat} (hn:n≤l.length) (hi:i<n) (hq:q<n):(U1 l i q).take n=U1 (l.take n) i q:=by
 have h1:∀ j,j<n→gD (l.take n) j=gD l j:=fun j hj=>by rw [T7 (by simp;omega),T7 (by omega),List.getElem_take]
 rw [U1,U1,List.take_set,List.take_set,h1 i hi,h1 q hq]
theorem Ztd (N:Nat) (p0:List Int) (x0:Int) (n:Nat) (hp0:p0.length=n+1) (hn:n≤2000000) (hN:2000000<N):∀ (m:Nat) (l:List Int) (i:Nat),n<m+i→(i<n∨n=0∧i=0)→l.length=n+1→Zfp l n i→
  ∃ t,Tm N p0 x0 m l (i:Int)=some (x0,t)∧t.Perm (l.take n)∧Th t n
 | 0,l,i,hm,hi,hl,hu=>by omega
 | m+1,l,i,hm,hi,hl,hu=>by
  rw [Tm.eq_2]
  obtain ⟨N,rfl⟩:∃ N',N=N'+1+1+1:=⟨N - 3,by omega⟩
  have w1:i64.wrap ((p0.length:Int) - 1)=(n:Int):=by rw [Z2 (by omega)];omega
  have wa:i64.wrap (i64.wrap (2 * (i:Int))+1)=((2 * i+1:Nat):Int):=by rw [Z2 (x:=2 * (i:Int)) (by omega),Z2 (by omega)];omega
  have wb:i64.wrap (i64.wrap (2 * (i:Int))+2)=((2 * i+2:Nat):Int):=by rw [Z2 (x:=2 * (i:Int)) (by omega),Z2 (by omega)];omega
  -- one child after the other
  have stepv:∀ (v:Nat) (k least:Nat),v<2→k=2 * i+1+v→(least<n∨n=0)→least<l.length→∀ f kk,Tn (N+1+1+1) p0 x0 l (i:Int) kk (f+1) (v:Int) (least:Int)=
    Tn (N+1+1+1) p0 x0 l (i:Int) kk f ((v+1:Nat):Int) ((if k<n∧gD l k<gD l least then k else least:Nat):Int):=by
   intro v k least hv hk hle hll f kk
   rw [Tn.eq_2,if_pos (decide_eq_true (by omega)),wa,wb,w1]
   have hat:Zq [((2 * i+1:Nat):Int),((2 * i+2:Nat):Int)] (v:Int)=some (k:Int):=by
    rw [Zfu]
    match v,hv with
    | 0,_=>simp [hk]
    | 1,_=>simp [hk];omega
   rw [hat,Option.bind_some]
   by_cases h1:k<n
   ·rw [if_pos (decide_eq_true (by omega)),Sj (by omega),Option.bind_some,Sj hll,Option.bind_some,Zdo,Zap,Zap,wS (by omega)]
    by_cases h2:gD l k<gD l least
    ·rw [if_pos (decide_eq_true h2),if_pos ⟨h1,h2⟩]
    ·rw [if_neg (by simpa using h2),if_neg (fun h=>h2 h.2)]
   ·rw [if_neg (by rw [decide_eq_true_eq];omega),Zdo,Zap,Zap,if_neg (by decide),wS (by omega),if_neg (fun h=>h1 h.1)]
  have hil:i<l.length:=by omega
  have e1:=stepv 0 (2 * i+1) i (by omega) (by omega) (by omega) hil (N+1+1) (Tm (N+1+1+1) p0 x0 m)
  generalize hq1:(if 2 * i+1<n∧gD l (2 * i+1)<gD l i then 2 * i+1 else i)=q1 at e1
  have hq1':(q1=i∧(2 * i+1<n→gD l i≤gD l (2 * i+1)))∨(q1=2 * i+1∧q1<n∧gD l q1<gD l i):=by
   by_cases hc:2 * i+1<n∧gD l (2 * i+1)<gD l i
   ·rw [if_pos hc] at hq1;subst hq1;exact .inr ⟨rfl,hc.1,hc.2⟩
   ·rw [if_neg hc] at hq1;subst hq1;exact .inl ⟨rfl,fun h=>by omega⟩
  have e2:=stepv 1 (2 * i+2) q1 (by omega) (by omega) (by omega) (by omega) (N+1) (Tm (N+1+1+1) p0 x0 m)
  generalize hq2:(if 2 * i+2<n∧gD l (2 * i+2)<gD l q1 then 2 * i+2 else q1)=q2 at e2
  have hq2':(q2=i∧(2 * i+1<n→gD l i≤gD l (2 * i+1))∧(2 * i+2<n→gD l i≤gD l (2 * i+2)))∨((q2=2 * i+1∨q2=2 * i+2)∧q2<n∧gD l q2<gD l i∧(2 * i+1<n→gD l q2≤gD l (2 * i+1))∧(2 * i+2<n→gD l q2≤gD l (2 * i+2))):=by
   by_cases hc:2 * i+2<n∧gD l (2 * i+2)<gD l q1
   ·rw [if_pos hc] at hq2;subst hq2
    rcases hq1' with ⟨rfl,h3⟩ | ⟨rfl,h3,h4⟩
    ·exact .inr ⟨.inr rfl,hc.1,hc.2,fun h=>by have:=h3 h;omega,fun _=>Int.le_refl _⟩
    ·exact .inr ⟨.inr rfl,hc.1,by omega,fun _=>by omega,fun _=>Int.le_refl _⟩
   ·rw [if_neg hc] at hq2;subst hq2
    rcases hq1' with ⟨rfl,h3⟩ | ⟨rfl,h3,h4⟩
    ·exact .inl ⟨rfl,h3,fun h=>by omega⟩
    ·exact .inr ⟨.inl rfl,h3,h4,fun _=>Int.le_refl _,fun h=>by omega⟩
  rw [show (0:Int)=((0:Nat):Int) from rfl,e1]
  rw [show ((0+1:Nat):Int)=((1:Nat):Int) from rfl,e2,Tn.eq_2,if_neg (by decide),w1,Int.toNat_natCast]
  rcases hq2' with ⟨rfl,h3,h4⟩ | ⟨h2,h3,h4,h5,h6⟩
  ·rw [if_pos (by simp)]
   refine ⟨_,rfl,.refl _,fun j hj0 hj=>?_⟩
   have ht:∀ k,k<n→gD (l.take n) k=gD l k:=fun k hk=>by rw [T7 (by simp;omega),T7 (by omega),List.getElem_take]
   rw [ht _ (by omega),ht _ hj]
   by_cases hq:(j - 1) / 2=q2
   ·rw [hq]
    rcases (show j=2 * q2+1∨j=2 * q2+2 by omega) with rfl | rfl
    ·exact h3 hj
    ·exact h4 hj
   ·exact hu.1 j hj0 hj hq
  ·have hq2l:q2<l.length:=by omega
   have hin:i<n:=by omega
   have hd:=hu.step (by omega) hin h3 (by omega) (by omega) h4 (fun j hj0 hj hji=>by
    rcases (show j=2 * i+1∨j=2 * i+2 by omega) with rfl | rfl
    ·exact h5 hj
    ·exact h6 hj)
   obtain ⟨t,k1,k2,k3⟩:=Ztd (N+1+1+1) p0 x0 n hp0 hn hN m (U1 l i q2) q2 (by omega) (.inl h3) (by rw [Zig];exact hl) hd
   refine ⟨t,?_,k2.trans ?_,k3⟩
   ·rw [if_neg (by simp;omega),Sj hq2l,Option.bind_some,Sj hil,Option.bind_some,Option.bind_some,Int.toNat_natCast,Int.toNat_natCast,Xa (by simpa using hq2l),Option.bind_some,Option.bind_some]
    exact k1
   ·rw [Z3o (by omega) hin h3];exact Zu6 (by simp;omega) (by simp;omega)
theorem Z2a {N:Nat} {h:List Int} (hl:h.length≤2000000) (h0:0<h.length) (hh:Th h h.length) (hN:2000000<N):∃ x t,Zgd N h=some (x,t)∧h.Perm (x :: t)∧(∀ y ∈ h,x≤y)∧Th t t.length:=by
 rw [Zgd]
 obtain ⟨n,hn⟩:∃ n,h.length=n+1:=⟨h.length - 1,by omega⟩
 have w1:i64.wrap ((h.length:Int) - 1)=(n:Int):=by rw [Z2 (by omega)];omega
 rw [w1,show (0:Int)=((0:Nat):Int) from rfl,Sj h0,Option.bind_some,Sj (by omega),Option.bind_some,Option.bind_some,Xd (by simp;omega),Int.toNat_natCast]
 have hd:Zfp (h.set 0 (gD h n)) n 0:=by
  refine ⟨fun j hj0 hj hji=>?_,fun j _ _ _ h=>by omega⟩
  rw [Zjb _ _ _ _ h0,Zjb _ _ _ _ h0,if_neg (by omega),if_neg (by omega)]
  exact hh j hj0 (by omega)
 obtain ⟨t,h1,h2,h3⟩:=Ztd N h (gD h 0) n hn (by omega) hN N (h.set 0 (gD h n)) 0 (by omega) (by omega) (by simpa using hn) hd
 have hpm:h.Perm (gD h 0 :: (h.set 0 (gD h n)).take n):=by
  match h,hn with
  | x :: r,hn=>
   have hr:r.length=n:=by simpa using hn
   match n,hr with
   | 0,hr=>rw [List.length_eq_zero_iff.1 hr];exact .refl _
   | n+1,hr=>
    have e:gD (x :: r) (n+1)=gD r n:=rfl
    rw [e,List.set_cons_zero,List.take_succ_cons]
    refine List.Perm.cons x ?_
    have:r=r.take n++[gD r n]:=by
     have:=List.take_succ_eq_append_getElem (show n<r.length by omega)
     rw [List.take_of_length_le (by omega)] at this
     rw [T7 (by omega)];exact this
    conv=>lhs;rw [this]
    exact List.perm_append_singleton _ _
 have hp2:h.Perm (gD h 0 :: t):=hpm.trans (List.Perm.cons _ h2.symm)
 refine ⟨gD h 0,t,h1,hp2,fun y hy=>?_,?_⟩
 ·obtain ⟨j,hj,rfl⟩:=List.getElem_of_mem hy
  rw [← T7 hj];exact hh.min j hj
 ·have:=hp2.length_eq
  rw [List.length_cons,hn] at this
  rw [show t.length=n by omega];exact h3
theorem Vy {α:Type} {l:List α} {d:α} {j:Nat} (hj:j<l.length):l.getD j d=l[j]:=by rw [List.getD_eq_getElem?_getD,List.getElem?_eq_getElem hj];rfl
theorem Zft {α:Type} {l:List α} (d:α) {j:Nat} (hj:j<l.length):Zq l (j:Int)=some (l.getD j d):=by rw [Xa hj,Vy hj]
theorem Sn {α:Type} (l:List α) (d:α) (i j:Nat) (x:α) (hi:i<l.length):(l.set i x).getD j d=if j=i then x else l.getD j d:=by
 rw [List.getD_eq_getElem?_getD,List.getD_eq_getElem?_getD,List.getElem?_set]
 by_cases h1:i=j
 ·subst h1;rw [if_pos rfl,if_pos hi,if_pos rfl];rfl
 ·rw [if_neg h1,if_neg (Ne.symm h1)]
def Vx:Nat→List (List Int)→Int→List Int
 | _,[],_=>[]
 | k,l :: P,p=>List.replicate (l.count p) (k:Int)++Vx (k+1) P p
def Zil (n:Nat) (l:List Int):Prop:=∀ x ∈ l,0≤x∧x<(n:Int)
theorem Zqd (k:Nat) (kk:Nat→List (List Int)→Option (List (List Int))):∀ (l:List Int) (out:List (List Int)),Zil out.length l→(∀ p:Nat,(out.getD p []).length+l.length≤1048576)→
  ∃ out',Zan k kk l out=kk (k+1) out'∧out'.length=out.length∧∀ p:Nat,p<out.length→out'.getD p []=out.getD p []++List.replicate (l.count (p:Int)) (k:Int)
 | [],out,h,hb=>⟨out,by rw [Zan.eq_1],rfl,fun p hp=>by simp⟩
 | x :: l,out,h,hb=>by
  obtain ⟨h0,h1⟩:=h x List.mem_cons_self
  obtain ⟨q,rfl⟩:=Int.eq_ofNat_of_zero_le h0
  have hq:q<out.length:=by omega
  have hbq:=hb q
  simp only [List.length_cons] at hbq hb
  rw [Zan.eq_2,Zft [] hq,Option.bind_some,Xd (by simp only [List.length_cons,List.length_nil,maxLen];omega),Int.toNat_natCast]
  obtain ⟨out',h2,h3,h4⟩:=Zqd k kk l (out.set q (out.getD q []++[(k:Int)])) (by rw [List.length_set];exact fun y hy=>h y (List.mem_cons_of_mem _ hy)) (fun p=>by
   rw [Sn _ _ _ _ _ hq]
   have:=hb p
   split
   ·simp only [List.length_append,List.length_cons,List.length_nil];omega
   ·omega)
  refine ⟨out',h2,by rw [h3,List.length_set],fun p hp=>?_⟩
  rw [h4 p (by rw [List.length_set];exact hp),Sn _ _ _ _ _ hq,List.count_cons]
  by_cases hpq:p=q
  ·subst hpq
   rw [if_pos rfl,if_pos (by simp),List.append_assoc,show l.count (p:Int)+1=1+l.count (p:Int) by omega,show [(k:Int)]=List.replicate 1 (k:Int) from rfl,List.replicate_append_replicate]
  ·rw [if_neg hpq,if_neg (by simp;omega),Nat.add_zero]
theorem Zrl (p:Int):∀ (k:Nat) (P:List (List Int)),(Vx k P p).length≤Ur P
 | _,[]=>by simp [Vx]
 | k,l :: P=>by
  rw [Vx,List.length_append,List.length_replicate,Zih]
  have:=Zrl p (k+1) P
  have:=List.count_le_length (a:=p) (l:=l)
  omega
theorem Zqc (n:Nat):∀ (P:List (List Int)) (k:Nat) (out:List (List Int)),out.length=n→(∀ l ∈ P,Zil n l)→(∀ p:Nat,(out.getD p []).length+Ur P≤1048576)→
  ∃ out',Sp P k out=some out'∧out'.length=n∧∀ p:Nat,p<n→out'.getD p []=out.getD p []++Vx k P p
 | [],k,out,hn,_,_=>⟨out,by rw [Sp.eq_1],hn,fun p hp=>by simp [Vx]⟩
 | l :: P,k,out,hn,h,hb=>by
  simp only [Zih] at hb
  rw [Sp.eq_2]
  obtain ⟨out1,h1,h2,h3⟩:=Zqd k (Sp P) l out (by rw [hn];exact h l List.mem_cons_self) (fun p=>by have:=hb p;omega)
  obtain ⟨out',h4,h5,h6⟩:=Zqc n P (k+1) out1 (by omega) (fun x hx=>h x (List.mem_cons_of_mem _ hx)) (fun p=>by
   have:=hb p
   by_cases hp:p<out.length
   ·rw [h3 p hp,List.length_append,List.length_replicate]
    have:=List.count_le_length (a:=(p:Int)) (l:=l)
    omega
   ·rw [List.getD_eq_getElem?_getD,List.getElem?_eq_none (by omega)];simp;omega)
  refine ⟨out',by rw [h1,h4],h5,fun p hp=>?_⟩
  rw [h6 p hp,h3 p (by omega),List.append_assoc,Vx]
theorem Zy4 {P:List (List Int)} (hP:P.length≤1048576) (ht:Ur P≤1048576) (h:∀ l ∈ P,Zil P.length l):∃ D,Zdl P=some D∧D.length=P.length∧∀ p:Nat,p<P.length→D.getD p []=Vx 0 P p:=by
 rw [Zdl,Xd (by simp only [maxLen];omega)]
 have hr:∀ p:Nat,(List.replicate P.length ([]:List Int)).getD p []=[]:=fun p=>by
  rw [List.getD_eq_getElem?_getD,List.getElem?_replicate];split <;> rfl
 obtain ⟨D,h1,h2,h3⟩:=Zqc P.length P 0 (List.replicate P.length []) (by simp) h (fun p=>by rw [hr];simpa using ht)
 exact ⟨D,h1,h2,fun p hp=>by rw [h3 p hp,hr];rfl⟩
theorem Zm9 (p:Int):∀ (k:Nat) (P:List (List Int)) (c:Nat),(Vx k P p).count (c:Int)=if k≤c then (P.getD (c - k) []).count p else 0
 | k,[],c=>by simp [Vx]
 | k,l :: P,c=>by
  rw [Vx,List.count_append,Zm9 p (k+1) P c,List.count_replicate]
  by_cases h1:k=c
  ·subst h1
   rw [if_pos (by simp),if_neg (by omega),if_pos (Nat.le_refl _),Nat.sub_self];rfl
  ·rw [if_neg (by simp;omega)]
   by_cases h2:k≤c
   ·rw [if_pos (by omega),if_pos h2,show c - k=(c - (k+1))+1 by omega];simp
   ·rw [if_neg (by omega),if_neg h2]
theorem Zrm (p:Int):∀ (k:Nat) (P:List (List Int)) (x:Int),x ∈ Vx k P p→∃ c:Nat,x=(c:Int)∧k≤c∧c<k+P.length
 | k,[],x,h=>by simp [Vx] at h
 | k,l :: P,x,h=>by
  rw [Vx] at h
  rcases List.mem_append.1 h with h | h
  ·exact ⟨k,(List.mem_replicate.1 h).2,Nat.le_refl _,by simp⟩
  ·obtain ⟨c,h1,h2,h3⟩:=Zrm p (k+1) P x h
   exact ⟨c,h1,by omega,by rw [List.length_cons];omega⟩
def U6 (P:List (List Int)) (out:List Int) (c:Nat):Nat:=(P.getD c []).countP fun q=>!decide (q ∈ out)
theorem Zqi (out:List Int) (p:Int) (hp:p ∉ out):∀ l:List Int,(l.countP fun q=>!decide (q ∈ out))=(l.countP fun q=>!decide (q ∈ out++[p]))+l.count p
 | []=>rfl
 | x :: l=>by
  rw [List.countP_cons,List.countP_cons,List.count_cons,Zqi out p hp l]
  by_cases h1:x=p
  ·subst h1
   have h2:(!decide (x ∈ out))=true:=by simp [hp]
   have h3:(!decide (x ∈ out++[x]))=false:=by simp
   rw [h2,h3];simp;omega
  ·have h3:(x ∈ out++[p])↔x ∈ out:=by simp [h1]
   rw [show (!decide (x ∈ out++[p]))=(!decide (x ∈ out)) from congrArg _ (decide_eq_decide.2 h3),if_neg (show ¬ ((x==p)=true) by simpa using h1)];omega
theorem Zqh {P:List (List Int)} {out:List Int} {p:Int} (hp:p ∉ out) (c:Nat):U6 P out c=U6 P (out++[p]) c+(P.getD c []).count p:=Zqi out p hp _
theorem Zud (P:List (List Int)) (out:List Int) (c:Nat):U0 P out c=true↔(c:Int) ∉ out∧U6 P out c=0:=by
 rw [U0,U6,List.countP_eq_zero]
 simp
structure Zim (P:List (List Int)) (out left ready:List Int):Prop where
 ok:U5 P out
 len:left.length=P.length
 cnt:∀ c:Nat,c<P.length→left.getD c 0=(U6 P out c:Int)
 heap:Th ready ready.length
 nd:ready.Nodup
 mem:∀ y:Int,y ∈ ready↔∃ c:Nat,c<P.length∧y=(c:Int)∧(c:Int) ∉ out∧left.getD c 0=0
theorem Zo7 (N:Nat) (P:List (List Int)) (hP:P.length≤1048576) (ht:Ur P≤1048576) (hN:2000000<N) (out:List Int) (p:Nat) (r2:List Int) (kk:List Int→List Int→List Int→Option (List Int)):
  ∀ (rest left ready:List Int),rest.length≤9000000000000000000→left.length=P.length→(∀ c:Nat,c<P.length→left.getD c 0=((U6 P (out++[(p:Int)]) c+rest.count (c:Int):Nat):Int))→
   Th ready ready.length→ready.Nodup→(∀ y:Int,y ∈ ready↔∃ c:Nat,c<P.length∧y=(c:Int)∧(c:Int) ∉ out++[(p:Int)]∧left.getD c 0=0)→
   (∀ x ∈ rest,∃ c:Nat,c<P.length∧x=(c:Int)∧x ∉ out++[(p:Int)])→
   ∃ left' ready',Sv N out kk ((p:Int),r2) rest left ready=kk left' ready' (out++[(p:Int)])∧left'.length=P.length∧(∀ c:Nat,c<P.length→left'.getD c 0=(U6 P (out++[(p:Int)]) c:Int))∧
    Th ready' ready'.length∧ready'.Nodup∧∀ y:Int,y ∈ ready'↔∃ c:Nat,c<P.length∧y=(c:Int)∧(c:Int) ∉ out++[(p:Int)]∧left'.getD c 0=0
 | [],left,ready,_,h1,h2,h3,h4,h5,_=>⟨left,ready,by rw [Sv.eq_1],h1,fun c hc=>by rw [h2 c hc];simp,h3,h4,h5⟩
 | x :: rest,left,ready,hrest,h1,h2,h3,h4,h5,h6=>by
  obtain ⟨c0,hc0,rfl,hx⟩:=h6 x List.mem_cons_self
  have hc0l:c0<left.length:=by omega
  have hcx:=h2 c0 hc0
  rw [List.count_cons,if_pos (by simp)] at hcx
  have hle:U6 P (out++[(p:Int)]) c0≤1048576:=by
   have h7:=List.countP_le_length (p:=fun q=>!decide (q ∈ out++[(p:Int)])) (l:=P.getD c0 [])
   rw [Vy hc0] at h7
   have h8:=Zlv (P:=P) (List.getElem_mem hc0)
   rw [U6,Vy hc0];omega
  have hrl:ready.length≤P.length:=by
   have h7:=Zh5 (r:=(List.range P.length).map fun i:Nat=>(i:Int)) h4 fun y hy=>by
    obtain ⟨c,h8,h9,_⟩:=(h5 y).1 hy
    exact List.mem_map.2 ⟨c,List.mem_range.2 h8,h9.symm⟩
   simpa using h7
  have hv:i64.wrap (left.getD c0 0 - 1)=((U6 P (out++[(p:Int)]) c0+rest.count (c0:Int):Nat):Int):=by
   have h9:=List.count_le_length (a:=(c0:Int)) (l:=rest)
   rw [hcx,Z2]
   ·omega
   ·simp only [List.length_cons] at hrest
    omega
  have hl1:∀ c:Nat,c<P.length→(left.set c0 (i64.wrap (left.getD c0 0 - 1))).getD c 0=((U6 P (out++[(p:Int)]) c+rest.count (c:Int):Nat):Int):=fun c hc=>by
   rw [Sn _ _ _ _ _ hc0l]
   by_cases hcc:c=c0
   ·subst hcc;rw [if_pos rfl,hv]
   ·rw [if_neg hcc,h2 c hc,List.count_cons,if_neg (by simp;omega),Nat.add_zero]
  have hne:left.getD c0 0≠0:=by rw [hcx];omega
  have hnr:(c0:Int) ∉ ready:=fun h=>by
   obtain ⟨c,h8,h9,_,h10⟩:=(h5 _).1 h
   have:c=c0:=by omega
   subst this;exact hne h10
  have h6':∀ x ∈ rest,∃ c:Nat,c<P.length∧x=(c:Int)∧x ∉ out++[(p:Int)]:=fun x hx=>h6 x (List.mem_cons_of_mem _ hx)
  have hr':rest.length≤9000000000000000000:=by simp only [List.length_cons] at hrest;omega
  rw [Sv.eq_2,Zft 0 hc0l,Option.bind_some,Option.bind_some,Int.toNat_natCast,Zft 0 (by rw [List.length_set];exact hc0l),Option.bind_some,Zds,Sn _ _ _ _ _ hc0l,if_pos rfl]
  by_cases hz:i64.wrap (left.getD c0 0 - 1)=0
  ·obtain ⟨ready1,k1,k2,k3⟩:=Zth (N:=N) (c0:Int) (by omega:ready.length<2000000) h3 hN
   rw [if_pos (by simpa using hz),k1,Option.bind_some,Zds]
   refine Zo7 N P hP ht hN out p r2 kk rest _ ready1 hr' (by rw [List.length_set];exact h1) hl1 k3 (k2.nodup_iff.2 (List.nodup_cons.2 ⟨hnr,h4⟩)) (fun y=>?_) h6'
   rw [k2.mem_iff,List.mem_cons]
   constructor
   ·rintro (rfl | hy)
    ·exact ⟨c0,hc0,rfl,hx,by rw [Sn _ _ _ _ _ hc0l,if_pos rfl,hz]⟩
    ·obtain ⟨c,h8,h9,h10,h11⟩:=(h5 y).1 hy
     refine ⟨c,h8,h9,h10,?_⟩
     rw [Sn _ _ _ _ _ hc0l]
     split
     ·exact hz
     ·exact h11
   ·rintro ⟨c,h8,h9,h10,h11⟩
    by_cases hcc:c=c0
    ·subst hcc;exact .inl h9
    ·rw [Sn _ _ _ _ _ hc0l,if_neg hcc] at h11
     exact .inr ((h5 y).2 ⟨c,h8,h9,h10,h11⟩)
  ·rw [if_neg (by simpa using hz)]
   refine Zo7 N P hP ht hN out p r2 kk rest _ ready hr' (by rw [List.length_set];exact h1) hl1 h3 h4 (fun y=>?_) h6'
   rw [h5 y]
   constructor
   ·rintro ⟨c,h8,h9,h10,h11⟩
    refine ⟨c,h8,h9,h10,?_⟩
    rw [Sn _ _ _ _ _ hc0l,if_neg (fun h=>hne (by rw [← h];exact h11))];exact h11
   ·rintro ⟨c,h8,h9,h10,h11⟩
    refine ⟨c,h8,h9,h10,?_⟩
    rw [Sn _ _ _ _ _ hc0l] at h11
    split at h11
    ·exact absurd h11 hz
    ·exact h11
theorem Z3l {N:Nat} {P D:List (List Int)} (hP:P.length≤1048576) (ht:Ur P≤1048576) (hN:2000000<N) (hD:D.length=P.length) (hDk:∀ p:Nat,p<P.length→D.getD p []=Vx 0 P p) {out left ready:List Int} (hi:Zim P out left ready) (n:Nat):
  (Vd P out 0=none→Uj N D (n+1) left ready out=some out)∧
  ∀ p,Vd P out 0=some p→∃ left' ready',Zim P (out++[(p:Int)]) left' ready'∧Uj N D (n+1) left ready out=Uj N D n left' ready' (out++[(p:Int)]):=by
 have hrl:ready.length≤P.length:=by
  have h7:=Zh5 (r:=(List.range P.length).map fun i:Nat=>(i:Int)) hi.nd fun y hy=>by
   obtain ⟨c,h8,h9,_⟩:=(hi.mem y).1 hy
   exact List.mem_map.2 ⟨c,List.mem_range.2 h8,h9.symm⟩
  simpa using h7
 have hrd:∀ c:Nat,c<P.length→(U0 P out c=true↔(c:Int) ∈ ready):=fun c hc=>by
  rw [Zud,hi.mem]
  constructor
  ·rintro ⟨h1,h2⟩;exact ⟨c,hc,rfl,h1,by rw [hi.cnt c hc,h2];rfl⟩
  ·rintro ⟨c',h1,h2,h3,h4⟩
   have:c'=c:=by omega
   subst this
   rw [hi.cnt c' h1] at h4
   exact ⟨h3,by omega⟩
 refine ⟨fun hn=>?_,fun p hn=>?_⟩
 ·have h0:ready=[]:=by
   cases hr:ready with
   | nil=>rfl
   | cons y l=>
    obtain ⟨c,h1,h2,_⟩:=(hi.mem y).1 (by rw [hr];exact List.mem_cons_self)
    have h3:=Z1v hn c (Nat.zero_le _) h1
    have h4:=(hrd c h1).2 (by rw [← h2,hr];exact List.mem_cons_self)
    rw [h3] at h4;cases h4
  rw [Uj.eq_2,h0,if_neg (by decide)]
 ·obtain ⟨_,hp,hr,hmin⟩:=Zsp hn
  have hpr:=(hrd p hp).1 hr
  have hpos:0<ready.length:=List.length_pos_of_mem hpr
  obtain ⟨x,t,k1,k2,k3,k4⟩:=Z2a (N:=N) (by omega:ready.length≤2000000) hpos hi.heap hN
  have hxr:x ∈ ready:=k2.mem_iff.2 List.mem_cons_self
  have hxp:x=(p:Int):=by
   obtain ⟨c,h1,h2,_⟩:=(hi.mem x).1 hxr
   have h3:=k3 _ hpr
   have h4:¬ c<p:=fun hlt=>by
    have h5:=hmin c (Nat.zero_le _) hlt
    have h6:=(hrd c h1).2 (by rw [← h2];exact hxr)
    rw [h5] at h6;cases h6
   omega
  subst hxp
  have hnd:((p:Int) :: t).Nodup:=k2.nodup_iff.1 hi.nd
  obtain ⟨hp1,hp2⟩:=(Zud P out p).1 hr
  obtain ⟨hok,hlt⟩:=hi.ok.step hn
  have hol:=hi.ok.len
  have hself:(P.getD p []).count (p:Int)=0:=by have:=Zqh (P:=P) hp1 p;omega
  rw [Uj.eq_2,if_pos (decide_eq_true (by omega)),k1,Option.bind_some,Xd (by simp only [List.length_cons,List.length_nil,maxLen];omega),Zft [] (by rw [hD];exact hp),Option.bind_some,hDk p hp]
  have hkl:=Zrl (p:Int) 0 P
  obtain ⟨left',ready',h1,h2,h3,h4,h5,h6⟩:=Zo7 N P hP ht hN out p t (Uj N D n) (Vx 0 P p) left t (by omega) hi.len (fun c hc=>by
    rw [hi.cnt c hc,Zqh hp1 c,Zm9 (p:Int) 0 P c,if_pos (Nat.zero_le _),Nat.sub_zero]) k4 (List.nodup_cons.1 hnd).2 (fun y=>by
    have h7:y ∈ t↔y ∈ ready∧y≠(p:Int):=by
     rw [k2.mem_iff,List.mem_cons]
     exact ⟨fun h=>⟨.inr h,fun e=>(List.nodup_cons.1 hnd).1 (by rw [← e];exact h)⟩,fun h=>h.1.resolve_left h.2⟩
    rw [h7,hi.mem]
    constructor
    ·rintro ⟨⟨c,h8,h9,h10,h11⟩,h12⟩
     exact ⟨c,h8,h9,by rw [List.mem_append,List.mem_singleton];exact fun h=>h.elim h10 fun h=>h12 (by rw [h9,h]),h11⟩
    ·rintro ⟨c,h8,h9,h10,h11⟩
     rw [List.mem_append,List.mem_singleton] at h10
     exact ⟨⟨c,h8,h9,fun h=>h10 (.inl h),h11⟩,fun h=>h10 (.inr (by rw [← h9,h]))⟩) (fun x hx=>by
    obtain ⟨c,h7,_,h8⟩:=Zrm (p:Int) 0 P x hx
    have h8:c<P.length:=by omega
    have h9:=Zm9 (p:Int) 0 P c
    rw [if_pos (Nat.zero_le _),Nat.sub_zero] at h9
    have h10:0<(P.getD c []).count (p:Int):=by rw [← h9,← h7];exact List.count_pos_iff.2 hx
    refine ⟨c,h8,h7,fun h=>?_⟩
    rcases List.mem_append.1 h with h | h
    ·rw [h7] at h
     have h11:=hi.ok.2.2 c h8 h (p:Int) (by rw [Vy h8] at h10;exact List.count_pos_iff.1 h10)
     exact hp1 h11
    ·rw [List.mem_singleton] at h
     have:c=p:=by omega
     subst this
     omega)
  exact ⟨left',ready',⟨hok,h2,h3,h4,h5,h6⟩,h1⟩
theorem Zu3 {N:Nat} {P D:List (List Int)} (hP:P.length<1048576) (hls:∀ x ∈ P,x.length≤1048576) (ht:Ur P≤1048576) (hN:2000000<N) (hD:D.length=P.length) (hDk:∀ p:Nat,p<P.length→D.getD p []=Vx 0 P p):∀ (n:Nat) (out left ready:List Int),Zim P out left ready→P.length<n+out.length→
  Uj N D n left ready out=Zcl N P n out
 | 0,out,left,ready,hi,hn=>by have:=hi.ok.len;omega
 | n+1,out,left,ready,hi,hn=>by
  have hl:=hi.ok.len
  obtain ⟨h1,h2⟩:=Z3l (N:=N) (by omega) ht hN hD hDk hi n
  rw [Zs3 (by omega) hls (by omega) (by omega)]
  cases hnx:Vd P out 0 with
  | none=>rw [h1 hnx];rfl
  | some p=>
   obtain ⟨left',ready',h3,h4⟩:=h2 p hnx
   rw [h4]
   exact Zu3 hP hls ht hN hD hDk n _ _ _ h3 (by simp;omega)
theorem Zo6 {N:Nat} (P D:List (List Int)) (hP:P.length<1048576) (hN:2000000<N) (hl:∀ l ∈ P,l.length≤1048576):∀ (Q:List (List Int)) (k:Nat) (left ready:List Int),P.drop k=Q→k≤P.length→left.length=P.length→
  (∀ c:Nat,c<k→left.getD c 0=((P.getD c []).length:Int))→Th ready ready.length→ready.Nodup→(∀ y:Int,y ∈ ready↔∃ c:Nat,c<k∧y=(c:Int)∧(P.getD c []).length=0)→
  ∃ left' ready',Su N D Q k left ready=Uj N D N left' ready' []∧Zim P [] left' ready'
 | [],k,left,ready,hQ,hk,h1,h2,h3,h4,h5=>by
  have hkP:k=P.length:=by have:=congrArg List.length hQ;simp at this;omega
  subst hkP
  have hc0:∀ c,U6 P [] c=(P.getD c []).length:=fun c=>by
   rw [U6,List.countP_eq_length.2 (fun a _=>by simp)]
  refine ⟨left,ready,by rw [Su.eq_1],⟨⟨.nil,by simp,by simp⟩,h1,fun c hc=>by rw [h2 c hc,hc0],h3,h4,fun y=>?_⟩⟩
  rw [h5]
  constructor
  ·rintro ⟨c,h6,h7,h8⟩;exact ⟨c,h6,h7,by simp,by rw [h2 c h6,h8];rfl⟩
  ·rintro ⟨c,h6,h7,_,h8⟩;exact ⟨c,h6,h7,by rw [h2 c h6] at h8;omega⟩
 | x :: Q,k,left,ready,hQ,hk,h1,h2,h3,h4,h5=>by
  have hkl:k<P.length:=by
   rcases Nat.lt_or_ge k P.length with h | h
   ·exact h
   ·rw [List.drop_eq_nil_of_le h] at hQ;cases hQ
  rw [List.drop_eq_getElem_cons hkl] at hQ
  obtain ⟨hx,hQ⟩:=List.cons.inj hQ
  have hxd:P.getD k []=x:=by rw [Vy hkl,hx]
  have hkl':k<left.length:=by omega
  have hrl:ready.length≤k:=by
   have h7:=Zh5 (r:=(List.range k).map fun i:Nat=>(i:Int)) h4 fun y hy=>by
    obtain ⟨c,h8,h9,_⟩:=(h5 y).1 hy
    exact List.mem_map.2 ⟨c,List.mem_range.2 h8,h9.symm⟩
   simpa using h7
  have hl1:∀ c:Nat,c<k+1→(left.set k (x.length:Int)).getD c 0=((P.getD c []).length:Int):=fun c hc=>by
   rw [Sn _ _ _ _ _ hkl']
   by_cases hck:c=k
   ·subst hck;rw [if_pos rfl,hxd]
   ·rw [if_neg hck,h2 c (by omega)]
  have hnr:(k:Int) ∉ ready:=fun h=>by obtain ⟨c,h6,h7,_⟩:=(h5 _).1 h;omega
  rw [Su.eq_2,Zft 0 hkl',Option.bind_some,Option.bind_some,Int.toNat_natCast]
  by_cases h0:x.length=0
  ·obtain ⟨ready1,k1,k2,k3⟩:=Zth (N:=N) (k:Int) (by omega:ready.length<2000000) h3 hN
   rw [if_pos (decide_eq_true (by omega)),k1,Option.bind_some,Zdt]
   refine Zo6 P D hP hN hl Q (k+1) _ ready1 hQ (by omega) (by rw [List.length_set];exact h1) hl1 k3 (k2.nodup_iff.2 (List.nodup_cons.2 ⟨hnr,h4⟩)) (fun y=>?_)
   rw [k2.mem_iff,List.mem_cons,h5]
   constructor
   ·rintro (rfl | ⟨c,h6,h7,h8⟩)
    ·exact ⟨k,by omega,rfl,by rw [hxd];exact h0⟩
    ·exact ⟨c,by omega,h7,h8⟩
   ·rintro ⟨c,h6,h7,h8⟩
    by_cases hck:c=k
    ·subst hck;exact .inl h7
    ·exact .inr ⟨c,by omega,h7,h8⟩
  ·rw [if_neg (by rw [decide_eq_true_eq];omega),Zdt]
   refine Zo6 P D hP hN hl Q (k+1) _ ready hQ (by omega) (by rw [List.length_set];exact h1) hl1 h3 h4 (fun y=>?_)
   rw [h5]
   constructor
   ·rintro ⟨c,h6,h7,h8⟩;exact ⟨c,by omega,h7,h8⟩
   ·rintro ⟨c,h6,h7,h8⟩
    by_cases hck:c=k
    ·subst hck;rw [hxd] at h8;exact absurd h8 h0
    ·exact ⟨c,by omega,h7,h8⟩
theorem Z3k {N:Nat} {P D:List (List Int)} (hP:P.length<1048576) (hls:∀ x ∈ P,x.length≤1048576) (ht:Ur P≤1048576) (hN:2000000<N) (hD:D.length=P.length) (hDk:∀ p:Nat,p<P.length→D.getD p []=Vx 0 P p):Zdr N P D=Q0 N P:=by
 rw [Zdr,Xd (by simp only [maxLen];omega),Q0]
 obtain ⟨left,ready,h1,h2⟩:=Zo6 (N:=N) P D hP hN hls P 0 (List.replicate P.length 0) [] rfl (Nat.zero_le _) (by simp) (fun c hc=>by omega) (fun j _ hj=>by simp at hj) .nil (fun y=>by simp)
 rw [h1]
 exact Zu3 hP hls ht hN hD hDk N [] _ _ h2 (by simp;omega)
theorem Zq4 (kk:Option Int):∀ (l:List Int) (seen:List (Int×Int)) (S:List Int),S.Nodup→(∀ k,Xg seen k=if k ∈ S then some 1 else none)→Zao kk l seen=if (S++l).Nodup then kk else some 40
 | [],seen,S,h1,h2=>by rw [Zao.eq_1,List.append_nil,if_pos h1]
 | x :: l,seen,S,h1,h2=>by
  rw [Zao.eq_2,h2 x]
  by_cases hx:x ∈ S
  ·rw [if_pos hx,if_pos (by decide),if_neg]
   intro h
   exact (List.nodup_append.1 h).2.2 x hx x List.mem_cons_self rfl
  ·rw [if_neg hx,if_neg (by decide),Option.bind_some,Zq4 kk l _ (S++[x]) (by
    rw [List.nodup_append]
    refine ⟨h1,by simp,fun a ha b hb e=>?_⟩
    rw [List.mem_singleton] at hb;subst hb;subst e;exact hx ha) (fun k=>by
    rw [Zh4,h2 k]
    by_cases hk:k=x
    ·subst hk;rw [if_pos rfl,if_pos (by simp)]
    ·rw [if_neg hk]
     by_cases hs:k ∈ S
     ·rw [if_pos hs,if_pos (by simp [hs])]
     ·rw [if_neg hs,if_neg (by simp [hs,hk])])]
   rw [List.append_assoc];rfl
theorem Zq3:∀ P:List (List Int),Sr P=if Us P then some 40 else some 0
 | []=>by rw [Sr.eq_1];rfl
 | l :: P=>by
  rw [Sr.eq_2,Zq4 _ l [] [] .nil (fun k=>by simp [Xg]),Zq3 P,List.nil_append]
  by_cases h:l.Nodup
  ·rw [if_pos h]
   have:Us (l :: P)=Us P:=by rw [Us,Us,List.any_cons,decide_eq_true h];rfl
   rw [this]
  ·rw [if_neg h]
   have:Us (l :: P)=true:=by rw [Us,List.any_cons,decide_eq_false h];rfl
   rw [this];rfl
theorem Zq5 (P:List (List Int)) (kk:Option Int):∀ l:List Int,Ss P kk l=if (l.all fun p=>decide (0≤p∧p<(P.length:Int)))=true then kk else some 3
 | []=>by rw [Ss.eq_1];rfl
 | x :: l=>by
  rw [Ss.eq_2,Zq5 P kk l,Zdn,Zdn,List.all_cons]
  by_cases h1:x<0
  ·rw [if_pos (by simpa using h1),if_pos rfl,decide_eq_false (by omega),Bool.false_and,if_neg (by decide)]
  ·rw [if_neg (by simpa using h1)]
   by_cases h2:(P.length:Int)≤x
   ·rw [if_pos (by simpa using h2),decide_eq_false (by omega),Bool.false_and,if_neg (by decide)]
   ·rw [if_neg (by simpa using h2),decide_eq_true (by omega),Bool.true_and]
theorem Zq2 (P:List (List Int)):∀ Q:List (List Int),Sq P Q=if V4 P.length Q=true then Sr P else some 3
 | []=>by rw [Sq.eq_1];rfl
 | l :: Q=>by
  rw [Sq.eq_2,Zq5,Zq2 P Q]
  by_cases h:(l.all fun p=>decide (0≤p∧p<(P.length:Int)))=true
  ·rw [if_pos h]
   have:V4 P.length (l :: Q)=V4 P.length Q:=by rw [V4,V4,List.all_cons,h,Bool.true_and]
   rw [this]
  ·rw [if_neg h]
   have:V4 P.length (l :: Q)=false:=by rw [V4,List.all_cons,Bool.eq_false_iff.2 h,Bool.false_and]
   rw [this,if_neg (by decide)]
theorem Z0b (P:List (List Int)):Zdm P=if V4 P.length P=true then (if Us P=true then some 40 else some 0) else some 3:=by
 rw [Zdm,Zq2,Zq3]
structure Zio (P:List (List Int)):Prop where
 n:P.length≤1048575
 t:Ur P≤1048576
theorem Zio.ls {P:List (List Int)} (h:Zio P):∀ x ∈ P,x.length≤1048576:=fun x hx=>Nat.le_trans (Zlv hx) h.t
theorem Zrg {P:List (List Int)} {n:Nat} (h:V4 n P=true):∀ l ∈ P,Zil n l:=by
 intro l hl x hx
 rw [V4,List.all_eq_true] at h
 have:=List.all_eq_true.1 (h l hl) x hx
 simpa using this
inductive Zin (N:Nat) (P:List (List Int)):Prop
 | err (e:Int) (D:Qf N P=some ([],e)) (R:Zfb N P=some e) (ne:e=3∨e=40):Zin N P
 | cyc (I:V4 P.length P=true) (T:Us P=false) (l:List Int) (o:Q0 N P=some l) (ok:U5 P l) (mx:Vd P l 0=none) (lt:l.length<P.length) (D:Qf N P=some ([],42)) (R:Zfb N P=some 42):Zin N P
 | ord (I:V4 P.length P=true) (T:Us P=false) (l:List Int) (o:Q0 N P=some l) (ok:U5 P l) (mx:Vd P l 0=none) (eq:l.length=P.length) (D:Qf N P=some (l,0)) (R:Zfb N P=some 0):Zin N P
theorem Zo4 {N:Nat} {P:List (List Int)} (h:Zio P) (hN:2000000<N):Zin N P:=by
 have hn:=h.n
 have ht:=h.t
 have hls:=h.ls
 have hls':∀ x ∈ P,x.length≤1048576:=fun x hx=>by have:=hls x hx;omega
 have hD:Qf N P=(Zdm P).bind fun r_1=>if (!decide (r_1=0))=true then (some (([]:List Int),r_1)) else ((Zdl P).bind fun r_5=>(Zdr N P r_5).bind fun r_13=>if (decide ((r_13.length:Int)<(P.length:Int)))=true then (some (([]:List Int),42)) else (some (r_13,0))):=by rw [Qf]
 have hR:Zfb N P=(Zkl N P).bind fun r_1=>if (!r_1)=true then (some 3) else ((Zkp N P).bind fun r_5=>if r_5=true then (some 40) else ((Q0 N P).bind fun r_9=>if (decide ((r_9.length:Int)<(P.length:Int)))=true then (some 42) else (some 0))):=by rw [Zfb]
 rw [Z0b] at hD
 rw [Z0v (by omega) hls' (by omega),Option.bind_some] at hR
 by_cases hI:V4 P.length P=true
 ·rw [hI,if_neg (by decide),Z3s (by omega) hls' (by omega),Option.bind_some] at hR
  rw [if_pos hI] at hD
  by_cases hT:Us P=true
  ·rw [if_pos hT] at hD hR
   exact .err 40 (by rw [hD];rfl) hR (.inr rfl)
  ·rw [if_neg hT] at hD hR
   obtain ⟨l,h1,h2,h3⟩:=Z18 (N:=N) (P:=P) (by omega) hls' (by omega)
   obtain ⟨D,h4,h5,h6⟩:=Zy4 (P:=P) (by omega) (by omega) (Zrg hI)
   rw [h1,Option.bind_some] at hR
   rw [Option.bind_some,if_neg (by decide),h4,Option.bind_some,Z3k (by omega) hls' (by omega) hN h5 h6,h1,Option.bind_some] at hD
   have hT:=Bool.eq_false_iff.2 hT
   have hle:=h2.len
   by_cases hlt:l.length<P.length
   ·rw [if_pos (decide_eq_true (by omega))] at hR hD
    exact .cyc hI hT l h1 h2 h3 hlt hD hR
   ·rw [if_neg (by rw [decide_eq_true_eq];omega)] at hR hD
    exact .ord hI hT l h1 h2 h3 (by omega) hD hR
 ·rw [Bool.eq_false_iff.2 hI,if_pos (by decide)] at hR
  rw [if_neg hI] at hD
  exact .err 3 (by rw [hD];rfl) hR (.inl rfl)
def Qs (a:List Int) (kk_L1:(List Int→Option (List Int))) (b:Bool):Option (List Int):=
  if b=true then (Zr ((0:Int)≤(i64.wrap ((a.length:Int) - 1))∧(i64.wrap ((a.length:Int) - 1))≤(a.length:Int)) (kk_L1 (a.take (Int.toNat (i64.wrap ((a.length:Int) - 1)))))) else (some a)
def Tc (N:Nat):Nat→(List Int)→Option (List Int)
  | 0,_=>none
  | b+1,a=>if (decide (0<(a.length:Int)))=true then ((Zq a (i64.wrap ((a.length:Int) - 1))).bind fun c=>Qs a (Tc N b) (decide (c=0))) else (Qs a (Tc N b) false)
termination_by structural x=>x
def Ub (N:Nat) (a:List Int):Option (List Int):=
  Tc N N a
theorem Tj {N x:Nat} {a0:Option Addr} {col:Zd} {w0:World} {k r:(List Int)} (hm:Ub N k=some r) (h0:Sl (Za.int .u32) col w0 a0 x k):
    Calls prog 141 #[.slice a0 k.length x] w0 (fun e w'=>∃ (col':Zd) (ra1:Option Addr) (rc2:Nat),e= .returned ((.slice ra1 r.length rc2))∧Zg col w0 col' w'∧Sl (Za.int .u32) col' w' ra1 rc2 r):=by
 refine Z5 2 (m:=21) func141 O O O O O ?_;rw [Ub.eq_1] at hm;have b:=St.start col w0;refine go ?_;replace h0:=h0.keep (Zl.start col w0);refine Z6 [1000000] (fun n f l=>∃ o g i a j,j=n∧Tc N j a=some r∧St w0 (Zi col) o l∧Sl (Za.int .u32) o l g i a∧[0].map f=[.slice g a.length i]) N ⟨_,_,_,_,_,O,hm,b,(h0.ks b),O⟩ ?_;clear hm;intro n f l y;obtain ⟨o,g,i,a,j,hn,hm,b,c,hs⟩:=y;subst hn;refine .lL [0] hs ?_
 cases j with
 | zero=>rw [Tc.eq_1] at hm;cases hm
 | succ j=>
  rw [Tc.eq_2] at hm;refine Zo<|Zo ?_;refine Wp.cutK [0,1000000] (fun f p=>∃ q s,Qs a (Tc N j) s=some r∧St w0 (Zi col) q p∧Sl (Za.int .u32) q p g i a∧[14].map f=[.bool s]) ?_ ?_
  ·intro f p A;obtain ⟨q,s,hm,b,c,hs⟩:=A;rw [Qs.eq_1] at hm;refine .lL [14] hs ?_;refine Zm hm (fun hb hm=>go ?_) fun hb hm=>go ?_
   ·obtain ⟨t,hm⟩:=Zt hm;refine lv (v:=.slice g (Int.toNat (i64.wrap ((a.length:Int) - 1))) i) O O (Zbc underlying120 sizeOf200 O O t.1 (by have:=c.1.2;have:=t.2;omega))<|.ld (d:=19) (v:=(.slice g ((a.take (Int.toNat (i64.wrap ((a.length:Int) - 1)))).length) i)) (congrArg (fun n=>Value.slice g n i) (List.length_take_of_le (show (Int.toNat (i64.wrap ((a.length:Int) - 1)))≤a.length by have:=t.2;omega)).symm) ?_;refine go ?_;exact ⟨j,by omega,O,⟨_,_,_,_,_,O,hm,b,(c.take (Int.toNat (i64.wrap ((a.length:Int) - 1)))),O⟩⟩
   cases hm;exact ⟨O,_,_,_,O,b.fin (cm []),b.fs c⟩
  refine go ?_;refine Z7 hm (fun u hm=>go ?_) fun u hm=>go ?_
  ·obtain ⟨B,w,hm⟩:=bZ hm;refine lI w (c.addr w) ?_;refine go ?_;refine lW (c.atInt w)<|go ?_;refine lV (.bool (decide (B=0))) (Zx (congrArg Value.bool u) O)<|Zj ?_;exact ⟨O,_,_,hm,b,c,O⟩
  refine lV (.bool false) (Z0 (congrArg Value.bool u) O)<|Zj ?_;exact ⟨O,_,_,hm,b,c,O⟩
def Zb2 (N:Nat) (b:List Int) (c:List Int):Nat→Int→Option Int
  | 0,_=>none
  | f+1,a=>if (decide (0≤a))=true then ((Zq b a).bind fun d=>(Zq c a).bind fun e=>if (decide (d<e))=true then (some (-1)) else (if (decide (e<d))=true then (some 1) else ((Zb2 N b c f) (i64.wrap (a - 1))))) else (some 0)
termination_by structural x=>x
def Zb1 (N:Nat) (c:List Int) (d:List Int):Option Int:=
  (Ub N c).bind fun a=>(Ub N d).bind fun b=>if (!decide ((a.length:Int)=(b.length:Int)))=true then (if (decide ((a.length:Int)<(b.length:Int)))=true then (some (-1)) else (some 1)) else (Zb2 N a b N (i64.wrap ((a.length:Int) - 1)))
theorem Zmm {N s t:Nat} {a0 a1:Option Addr} {col:Zd} {w0:World} {o p:(List Int)} {r:Int} (hm:Zb1 N o p=some r) (h0:Sl (Za.int .u32) col w0 a0 s o) (h1:Sl (Za.int .u32) col w0 a1 t p):
    Calls prog 122 #[.slice a0 o.length s,.slice a1 p.length t] w0 (fun e w'=>e= .returned ((.int .i64 r))∧Below w0.heap.size w0 w'):=by
 refine Z5 4 (m:=45) func122 rfl rfl rfl rfl rfl ?_;rw [Zb1.eq_1] at hm;have b:=St.start col w0;refine go ?_;obtain ⟨u,x,hm⟩:=bZ hm;replace h0:=h0.keep (Zl.start col w0);refine Zh (Tj x (h0.ks b)) ?_;rintro _ G ⟨H,y,A,rfl,B,c⟩;refine ⟨_,rfl,?_⟩;refine W2 rfl ?_;obtain ⟨v,C,hm⟩:=bZ hm;replace h1:=h1.keep (Zl.start col w0);replace b:=b.grow B;refine Zh (Tj C (h1.ks b)) ?_;rintro _ I ⟨J,D,E,rfl,w,g⟩;refine ⟨_,rfl,go ?_⟩;replace c:=c.gr w;replace b:=b.grow w;refine Zm hm (fun hb hm=>go ?_) fun hb hm=>go ?_
 ·refine Zm hm (fun hb hm=>go ?_) fun hb hm=>go ?_
  ·cases hm;exact ⟨rfl,rfl,b.below⟩
  cases hm;exact ⟨rfl,rfl,b.below⟩
 refine Z6 [0,1,1000000] (fun n f l=>∃ d q i,i=n∧Zb2 N u v i q=some r∧St w0 (Zi col) d l∧Sl (Za.int .u32) d l y A u∧Sl (Za.int .u32) d l D E v∧[5].map f=[.int .i64 q]) N ⟨_,_,_,rfl,hm,b,c,g,rfl⟩ ?_;clear hm;intro n f l F;obtain ⟨d,q,i,hn,hm,b,c,g,hs⟩:=F;subst hn;refine .lL [5] hs ?_
 cases i with
 | zero=>rw [Zb2.eq_1] at hm;cases hm
 | succ i=>
  rw [Zb2.eq_2] at hm;refine go ?_;refine Zm hm (fun hb hm=>go ?_) fun hb hm=>go ?_
  ·refine Vs (col:=d) (by kernel_rfl) (by kernel_rfl)<|go ?_;obtain ⟨K,j,hm⟩:=bZ hm;refine qI j (c.addr j)<|qW (fun _ a=>(c.gr (a.bl d)).atInt j) ?_;refine go ?_;obtain ⟨L,k,hm⟩:=bZ hm;refine qI k (g.addr k)<|qW (fun _ a=>(g.gr (a.bl d)).atInt k) ?_;refine go ?_;refine Y3 ?_;intro M a;replace a:=a.bl d;replace c:=c.gr a;replace g:=g.gr a;replace b:=b.grow a;refine Zm hm (fun hb hm=>go ?_) fun hb hm=>go ?_
   ·cases hm;exact ⟨rfl,rfl,b.below⟩
   refine Vs (col:=d) (by kernel_rfl) (by kernel_rfl)<|go ?_;refine qI j (c.addr j)<|qW (fun _ a=>(c.gr (a.bl d)).atInt j) ?_;refine go ?_;refine qI k (g.addr k)<|qW (fun _ a=>(g.gr (a.bl d)).atInt k) ?_;refine go ?_;refine Y3 ?_;intro O a;replace a:=a.bl d;replace c:=c.gr a;replace g:=g.gr a;replace b:=b.grow a;refine Zm hm (fun hb hm=>go ?_) fun hb hm=>go ?_
   ·cases hm;exact ⟨rfl,rfl,b.below⟩
   exact ⟨i,by omega,rfl,⟨_,_,_,rfl,hm,b,c,g,rfl⟩⟩
  cases hm;exact ⟨rfl,rfl,b.below⟩
theorem Zzr:Wa prog 200 1 4:=⟨Tryz.t200,_,rfl,rfl,rfl,rfl,rfl⟩
def Zcn (a:List Int):Option (List Int):=
  Zr ((([]:List Int).length+a.length) * 4≤140737488355328∧([]:List Int).length+a.length≤maxLen) (some (([]:List Int)++a))
theorem Zmt {f:Nat} {a0:Option Addr} {col:Zd} {w0:World} {c r:(List Int)} (c1:Nat) (hm:Zcn c=some r) (h0:Sl (Za.int .u32) col w0 a0 f c):
    Calls prog 142 #[.slice a0 c.length f] w0 (fun e w'=>∃ (col':Zd) (ra1:Option Addr) (rc2:Nat),e= .returned ((.slice ra1 r.length rc2))∧Zg col w0 col' w'∧Zc (Za.int .u32) 200 c1 col' w' ra1 rc2 r):=by
 refine Z5 2 (m:=8) func142 O O O O O ?_;rw [Zcn.eq_1] at hm;have a:=St.start col w0;refine go ?_;replace h0:=h0.keep (Zl.start col w0);rcases Zn8 h0 with b | b
 ·replace hm:some ([]:List Int)=some r:=by have h0:=b.2;subst h0;simpa [Zr,maxLen] using hm
  refine lv (v:=.bool a0.isNone) O O (Zfh underlying120 O)<|.ld (d:=4) (v:=.bool true) (congrArg Value.bool b.1)<|Zj<|X8 O<|go ?_;cases hm;exact ⟨O,_,none,0,O,a.fin (cm []),Zc.nil⟩
 refine lv (v:=.bool a0.isNone) O O (Zfh underlying120 O)<|.ld (d:=4) (v:=.bool false) (congrArg Value.bool b)<|Zj<|Yh O<|go ?_;refine Zjf (col:=(Zi col)) (r:=(Za.int .u32)) 1 O underlying120 Zzr O ?_;intro n o p g i;refine W2 O ?_;obtain ⟨j,hm⟩:=Zt hm;replace h0:=h0.gr g;refine Wy i h0.srcC j ?_;intro q s t u k l;refine go ?_;cases hm;replace a:=(a.grow g).kpp k;exact ⟨O,_,_,_,O,a.fin (cm [(1,c1)]),a.fo l⟩
def Zj3 (a:Int) (kk_L1:(List Int→Int→Int→Option (List Int))) (b:List Int) (c:Int):Option (List Int):=
  kk_L1 b c (i64.wrap (a+1))
def Zer (b:List Int) (a:Int) (kk_L1:(List Int→Int→Int→Option (List Int))) (c:Int) (d:Int):Option (List Int):=
  (Zq b a).bind fun e=>(some (b.set (Int.toNat a) (u32.wrap (e - (u32.wrap c))))).bind fun f=>Zj3 a kk_L1 f d
def Zeq (a:List Int) (b:Int) (kk_L1:(List Int→Int→Int→Option (List Int))) (c:Int):Option (List Int):=
  (Zq a b).bind fun d=>if (decide ((u64.wrap d)<c))=true then (Zer a b kk_L1 c 1) else (Zer a b kk_L1 c 0)
def Tb (N:Nat) (c:List Int) (b:List Int):Nat→(List Int)→Int→Int→Option (List Int)
  | 0,_,_,_=>none
  | e+1,d,f,a=>if (decide (a<(c.length:Int)))=true then (if (decide (a<(b.length:Int)))=true then ((Zq b a).bind fun g=>Zeq d a (Tb N c b e) (u64.wrap (f+(u64.wrap g)))) else (Zeq d a (Tb N c b e) f)) else (some d)
termination_by structural x=>x
def Zj2 (N:Nat) (a:List Int) (b:List Int):Option (List Int):=
  Tb N a b N a 0 0
theorem Zx0 {N i x:Nat} {a0 a1:Option Addr} {col:Zd} {w0:World} {b k r:(List Int)} (qc0:Nat) (hm:Zj2 N b k=some r) (hd:Yk [qc0]=true) (h0:Zc (Za.int .u32) 200 qc0 col w0 a0 i b) (h1:Sl (Za.int .u32) col w0 a1 x k):
    Calls prog 163 #[.slice a0 b.length i,.slice a1 k.length x] w0 (fun e w'=>∃ (col':Zd),e= .returned (.tuple #[])∧Zs (pS [qc0]) col w0 col' w'∧Zc (Za.int .u32) 200 qc0 col' w' a0 i r∧r.length=b.length):=by
 refine Zae (m:=40) (args:=[.slice a0 b.length i,.slice a1 k.length x]) func163 rfl rfl rfl rfl ?_;rw [Zj2.eq_1] at hm;have a:=St.startL (l:=[qc0]) rfl col w0;replace h0:=h0.startL (Yd hd 0 rfl) (Yc hd 0 rfl);refine go ?_;refine Z6 [1,8,1000000] (fun n f y=>∃ A c B o j,j=n∧Tb N b k j c B o=some r∧St w0 (Zy [qc0] col) A y∧Zc (Za.int .u32) 200 440 A y a0 i c∧c.length=b.length∧c.length=b.length∧[0,4,9].map f=[.slice a0 c.length i,.int .u64 B,.int .i64 o]) N ⟨_,_,0,0,_,rfl,hm,a,h0,rfl,rfl,rfl⟩ ?_;clear hm;intro n f y Q;obtain ⟨A,c,B,o,j,hn,hm,a,g,R,S,hs⟩:=Q;subst hn;refine .lL [0,4,9] hs ?_;replace h1:=h1.keep (Zl.startL [qc0] col w0)
 cases j with
 | zero=>rw [Tb.eq_1] at hm;cases hm
 | succ j=>
  rw [Tb.eq_2] at hm;refine go ?_;refine Zm hm (fun hb hm=>?_) fun hb hm=>go ?_
  ·refine Z1<|Zo ?_;refine Wp.cutK [1,8,9,1000000] (fun f C=>∃ D p E,Zj3 o (Tb N b k j) p E=some r∧St w0 (Zy [qc0] col) D C∧Zc (Za.int .u32) 200 440 D C a0 i p∧p.length=b.length∧p.length=b.length∧[0,4].map f=[.slice a0 p.length i,.int .u64 E]) ?_ ?_
   ·intro f C t;obtain ⟨D,p,E,hm,a,T,U,V,hs⟩:=t;rw [Zj3.eq_1] at hm;refine .lL [0,4] hs<|go ?_;exact ⟨j,by omega,rfl,⟨_,_,_,_,_,rfl,hm,a,T,U,V,rfl⟩⟩
   refine S8<|Zo<|Yo<|Y1 rfl<|Yq rfl<|Zj<|Zo<|Yo<|Y1 rfl<|Yq rfl<|Zj<|Zo ?_;refine Wp.cutK [0,1,5,8,9,1000000] (fun f F=>∃ G q,Zeq c o (Tb N b k j) q=some r∧St w0 (Zy [qc0] col) G F∧Zc (Za.int .u32) 200 440 G F a0 i c∧[6].map f=[.int .u64 q]) ?_ ?_
   ·intro f F t;obtain ⟨G,q,hm,a,g,hs⟩:=t;rw [Zeq.eq_1] at hm;refine .lL [6] hs<|Zo<|Yo<|Yq rfl<|Zj<|Zo ?_;refine Wp.cutK [0,1,5,6,8,9,1000000] (fun f H=>∃ I J,Zer c o (Tb N b k j) q J=some r∧St w0 (Zy [qc0] col) I H∧Zc (Za.int .u32) 200 440 I H a0 i c∧[4].map f=[.int .u64 J]) ?_ ?_
    ·intro f H t;obtain ⟨I,J,hm,a,g,hs⟩:=t;rw [Zer.eq_1] at hm;refine .lL [4] hs<|go ?_;obtain ⟨M,s,hm⟩:=bZ hm;refine lI s (g.addr s)<|lW (g.atInt s) ?_;refine go ?_;refine lI s (g.addr s) ?_;obtain ⟨u,w,hm⟩:=bZ hm;have w:u=c.set (Int.toNat o) (u32.wrap (M - (u32.wrap q))):=(Option.some.inj w).symm;refine Wj (x1:=u32.wrap (M - (u32.wrap q))) g s ?_;intro Y W X O;rw [← w] at O;have P:u.length=b.length:=(show c.length=u.length by rw [w,List.length_set]).symm.trans R;refine .ld (d:=0) (v:=(.slice a0 u.length i)) (congrArg (fun n=>Value.slice a0 n i) (show c.length=u.length by rw [w,List.length_set])) ?_;refine Zj ?_;replace a:=a.kp W X;exact ⟨rfl,_,_,_,hm,a,O,P,P,rfl⟩
    refine go ?_;obtain ⟨Z,K,hm⟩:=bZ hm;refine lI K (g.addr K)<|lW (g.atInt K) ?_;refine go ?_;refine Zm hm (fun hb hm=>go ?_) fun hb hm=>?_
    ·exact ⟨rfl,_,1,hm,a,g,rfl⟩
    refine Z1 ?_;exact ⟨rfl,_,0,hm,a,g,rfl⟩
   refine go ?_;refine Zm hm (fun hb hm=>go ?_) fun hb hm=>?_
   ·obtain ⟨aa,L,hm⟩:=bZ hm;refine lI L ((h1.ks a).addr L)<|lW ((h1.ks a).atInt L) ?_;refine go ?_;exact ⟨rfl,_,_,hm,a,g,rfl⟩
   refine Z1 ?_;exact ⟨rfl,_,_,hm,a,g,rfl⟩
  cases hm;exact ⟨rfl,_,rfl,a.finL rfl (cm [(440,qc0)]),a.foL g,S⟩
def Ua (N:Nat) (b:List Int):Option (List Int):=
  (Ub N b).bind fun a=>if (decide ((a.length:Int)=0))=true then (some ([]:List Int)) else ((Zcn a).bind fun c=>some c)
theorem Ti {N c:Nat} {a0:Option Addr} {col:Zd} {w0:World} {b r:(List Int)} (c1:Nat) (hm:Ua N b=some r) (h0:Sl (Za.int .u32) col w0 a0 c b):
    Calls prog 120 #[.slice a0 b.length c] w0 (fun e w'=>∃ (col':Zd) (ra1:Option Addr) (rc2:Nat),e= .returned ((.slice ra1 r.length rc2))∧Zg col w0 col' w'∧Zc (Za.int .u32) 200 c1 col' w' ra1 rc2 r):=by
 refine Z5 2 (m:=10) func120 O O O O O ?_;rw [Ua.eq_1] at hm;have a:=St.start col w0;refine go ?_;obtain ⟨l,d,hm⟩:=bZ hm;replace h0:=h0.keep (Zl.start col w0);refine Zh (Tj d (h0.ks a)) ?_;rintro _ n ⟨o,p,q,rfl,f,g⟩;refine ⟨_,O,go ?_⟩;replace a:=a.grow f;refine Zm hm (fun hb hm=>go ?_) fun hb hm=>go ?_
 ·cases hm;exact ⟨O,_,none,0,O,a.fin (cm []),Zc.nil⟩
 obtain ⟨s,i,hm⟩:=bZ hm;refine Zh (Zmt 1 i g) ?_;rintro _ t ⟨u,v,w,rfl,j,k⟩;refine ⟨_,O,go ?_⟩;cases hm;replace a:=a.grow j;exact ⟨O,_,_,_,O,a.fin (cm [(1,c1)]),a.fo k⟩
def Zen (N:Nat) (a:List Int) (b:List Int):Option (List Int×Bool):=
  (Zb1 N a b).bind fun c=>if (decide (c<0))=true then (some (([]:List Int),false)) else ((Ub N a).bind fun d=>(Zcn d).bind fun e=>(Ub N b).bind fun f=>(Zj2 N e f).bind fun g=>(Ua N g).bind fun i=>some (i,true))
theorem Zpw {N k l:Nat} {a0 a1:Option Addr} {col:Zd} {w0:World} {b c:(List Int)} {r:(List Int×Bool)} (c1:Nat) (hm:Zen N b c=some r) (h0:Sl (Za.int .u32) col w0 a0 k b) (h1:Sl (Za.int .u32) col w0 a1 l c):
    Calls prog 146 #[.slice a0 b.length k,.slice a1 c.length l] w0 (fun e w'=>∃ (col':Zd) (ra1:Option Addr) (rc2:Nat),e= .returned (.tuple #[.slice ra1 r.1.length rc2,.bool r.2])∧Zg col w0 col' w'∧Zc (Za.int .u32) 200 c1 col' w' ra1 rc2 r.1):=by
 refine Zbm 4 5 (m:=20) (args:=[.slice a0 b.length k,.slice a1 c.length l]) func146 rfl rfl rfl rfl rfl ?_;rw [Zen.eq_1] at hm;have a:=St.start col w0;refine go ?_;obtain ⟨O,x,hm⟩:=bZ hm;replace h0:=h0.keep (Zl.start col w0);replace h1:=h1.keep (Zl.start col w0);refine Zh (Zmm x (h0.ks a) (h1.ks a)) ?_;rintro _ y ⟨rfl,o⟩;refine ⟨_,rfl,?_⟩;replace o:Zg (Zi col) w0 (Zi col) y:=.of_below o;refine go ?_;replace a:=a.grow o;refine Zm hm (fun hb hm=>go ?_) fun hb hm=>go ?_
 ·cases hm;exact ⟨rfl,_,none,0,rfl,a.fin (cm []),Zc.nil⟩
 obtain ⟨P,A,hm⟩:=bZ hm;refine Zh (Tj A (h0.ks a)) ?_;rintro _ Q ⟨R,S,T,rfl,B,C⟩;refine ⟨_,rfl,?_⟩;obtain ⟨t,D,hm⟩:=bZ hm;refine Zh (Zmt 1 D C) ?_;rintro _ U ⟨V,f,g,rfl,E,p⟩;refine ⟨_,rfl,go ?_⟩;obtain ⟨W,F,hm⟩:=bZ hm;replace a:=(a.grow B).grow E;refine Zh (Tj F (h1.ks a)) ?_;rintro _ X ⟨Y,Z,aa,rfl,u,G⟩;refine ⟨_,rfl,?_⟩;obtain ⟨i,H,hm⟩:=bZ hm;replace p:=p.gr u;refine Zh (Zx0 1 H rfl p G) ?_;rintro _ I ⟨q,rfl,J,K,w⟩;refine ⟨_,rfl,?_⟩;refine .ld (d:=6) (v:=(.slice f i.length g)) (congrArg (fun n=>Value.slice f n g) (show t.length=i.length from w.symm)) ?_;refine .ld (d:=14) (v:=(.slice f i.length g)) (congrArg (fun n=>Value.slice f n g) (show t.length=i.length from w.symm)) ?_;refine go ?_;obtain ⟨ab,L,hm⟩:=bZ hm;refine Zh (Ti 2 L (K.toSlF (Zk.int .u32))) ?_;rintro _ ac ⟨M,ad,ae,rfl,j,s⟩;refine ⟨_,rfl,?_⟩;replace s:=s.thaw (Xs .u32) j ((Fz.refl (col:=q)).froz 1) (by decide);replace j:=j.thawR (col:=q);generalize Xn I.heap.size q M=af at *;refine go ?_;cases hm;replace a:=((a.grow u).kpp J).grow j;exact ⟨rfl,_,_,_,rfl,a.fin (cm [(2,c1)]),a.fo s⟩
def Zjz (a:Nat) (kk_L1:(Nat→(List Int)→Int→Option (List Int))) (b:List Int) (c:Int):Option (List Int):=
  kk_L1 (a+1) b c
def Zel (a:Nat) (b:List Int) (kk_L1:(Nat→(List Int)→Int→Option (List Int))) (c:Int):Option (List Int):=
  (Zq b (a:Int)).bind fun e=>(some (b.set (Int.toNat (a:Int)) (u32.wrap c))).bind fun d=>Zjz a kk_L1 d (X9 .u64 c 32)
def Tq (N:Nat) (c:List Int) (d:List Int):List Int→Nat→(List Int)→Int→Option (List Int)
  | [],a,b,e=>(Zq b (c.length:Int)).bind fun l=>(some (b.set (Int.toNat (c.length:Int)) (u32.wrap e))).bind fun i=>(Ua N i).bind fun j=>some j
  | f :: g,a,b,e=>if (decide ((a:Int)<(d.length:Int)))=true then ((Zq d (a:Int)).bind fun k=>Zel a b (Tq N c d g) (u64.wrap ((u64.wrap (e+(u64.wrap f)))+(u64.wrap k)))) else (Zel a b (Tq N c d g) (u64.wrap (e+(u64.wrap f))))
termination_by structural x=>x
def Zek (N:Nat) (a:List Int) (b:List Int):Option (List Int):=
  Zr ((Int.toNat (i64.wrap ((a.length:Int)+1))) * 4≤281474976710656∧(Int.toNat (i64.wrap ((a.length:Int)+1)))≤maxLen∧0≤(i64.wrap ((a.length:Int)+1))) (Tq N a b a 0 (List.replicate (Int.toNat (i64.wrap ((a.length:Int)+1))) (0:Int)) 0)
def Zg0 (N:Nat) (c:List Int) (d:List Int):Option (List Int):=
  (Ub N c).bind fun a=>(Ub N d).bind fun b=>if (decide ((a.length:Int)<(b.length:Int)))=true then (Zek N b a) else (Zek N a b)
theorem Zxw {N ag ah:Nat} {a0 a1:Option Addr} {col:Zd} {w0:World} {R S r:(List Int)} (c1:Nat) (hm:Zg0 N R S=some r) (h0:Sl (Za.int .u32) col w0 a0 ag R) (h1:Sl (Za.int .u32) col w0 a1 ah S):
    Calls prog 145 #[.slice a0 R.length ag,.slice a1 S.length ah] w0 (fun e w'=>∃ (col':Zd) (ra1:Option Addr) (rc2:Nat),e= .returned ((.slice ra1 r.length rc2))∧Zg col w0 col' w'∧Zc (Za.int .u32) 200 c1 col' w' ra1 rc2 r):=by
 refine Z5 4 (m:=62) func145 rfl rfl rfl rfl rfl ?_;rw [Zg0.eq_1] at hm;have a:=St.start col w0;refine go ?_;obtain ⟨a4,an,hm⟩:=bZ hm;replace h0:=h0.keep (Zl.start col w0);refine Zh (Tj an (h0.ks a)) ?_;rintro _ a5 ⟨a6,a7,a8,rfl,ao,K⟩;refine ⟨_,rfl,?_⟩;refine W2 rfl ?_;obtain ⟨a9,ap,hm⟩:=bZ hm;replace h1:=h1.keep (Zl.start col w0);replace a:=a.grow ao;refine Zh (Tj ap (h1.ks a)) ?_;rintro _ ba ⟨bb,bc,bd,rfl,ai,aj⟩;refine ⟨_,rfl,?_⟩;refine Zdf rfl<|Zdf rfl<|Zj<|Zo ?_;replace K:=K.gr ai;replace a:=a.grow ai;refine Wp.cutK [1000000] (fun f A=>∃ B t u b x y i,Zek N b i=some r∧St w0 (Zi col) B A∧Sl (Za.int .u32) B A t u b∧Sl (Za.int .u32) B A x y i∧[0,1].map f=[.slice t b.length u,.slice x i.length y]) ?_ ?_
 ·intro f A C;obtain ⟨B,t,u,b,x,y,i,hm,a,c,g,hs⟩:=C;rw [Zek.eq_1] at hm;refine .lL [0,1] hs<|go ?_;obtain ⟨L,hm⟩:=Zt hm;refine Zal (col:=B) (w:=A) (r:=(Za.int .u32)) (n:=(Int.toNat (i64.wrap ((b.length:Int)+1)))) (x0:=0) 1 rfl underlying120 Tryz.t200 rfl rfl rfl rfl rfl (congrArg (Value.int _) (Int.toNat_of_nonneg L.2.2).symm) (congrArg (Value.int _) (Int.toNat_of_nonneg L.2.2).symm) L.1 L.2.1 (Vf .u32 0) ?_;intro be bf bg T aq;refine go ?_;replace c:=c.gr T;replace g:=g.gr T;replace a:=a.grow T;refine Z6 [0,1,24,25,1000000] (fun n f D=>∃ l k o p j E F,n=F.length∧b.drop k=F∧Tq N b i F k j E=some r∧St w0 (Zi col) l D∧Sl (Za.int .u32) l D t u b∧Sl (Za.int .u32) l D x y i∧Zc (Za.int .u32) 200 1 l D o p j∧[26,5,6].map f=[.int .i64 k,.slice o j.length p,.int .u64 E]) b.length ⟨_,0,_,_,_,0,_,rfl,rfl,hm,a,c,g,aq,rfl⟩ ?_;clear hm;intro n f D hI;obtain ⟨l,k,o,p,j,E,F,hn,hl,hm,a,c,g,q,hs⟩:=hI;subst hn;refine .lL [26,5,6] hs ?_
  cases F with
  | nil=>
   have hk:¬ ((k:Int)<(b.length:Int)):=by have:=List.drop_eq_nil_iff.1 hl;omega
   have hkb:=decide_eq_false hk;rw [Tq.eq_1] at hm;refine go ?_;refine Yh (congrArg Value.bool hkb)<|go ?_;obtain ⟨bh,U,hm⟩:=bZ hm;refine lI U (q.addr U) ?_;obtain ⟨V,M,hm⟩:=bZ hm;have M:V=j.set (Int.toNat (b.length:Int)) (u32.wrap E):=(Option.some.inj M).symm;refine Wj (x1:=u32.wrap E) q U ?_;intro ar au av ak;rw [← M] at ak;refine .ld (d:=5) (v:=(.slice o V.length p)) (congrArg (fun n=>Value.slice o n p) (show j.length=V.length by rw [M,List.length_set])) ?_;refine go ?_;obtain ⟨bi,aw,hm⟩:=bZ hm;refine Zh (Ti 2 aw (ak.toSlF (Zk.int .u32))) ?_;rintro _ bj ⟨ax,bk,bm,rfl,O,W⟩;refine ⟨_,rfl,?_⟩;replace W:=W.thaw (Xs .u32) O ((Fz.refl (col:=l)).froz 1) (by decide);replace O:=O.thawR (col:=l);generalize Xn ar.heap.size l ax=bn at *;refine go ?_;cases hm;replace a:=(a.kp au av).grow O;exact ⟨rfl,_,_,_,rfl,a.fin (cm [(2,c1)]),a.fo W⟩
  | cons al X=>
   obtain ⟨Y,ay,az⟩:=Yu hl;have hk:(k:Int)<(b.length:Int):=by omega
   have hkb:=decide_eq_true hk;rw [Tq.eq_2] at hm;refine go ?_;refine X8 (congrArg Value.bool hkb)<|Z1<|Zo ?_;refine Wp.cutK [0,1,24,25,26,1000000] (fun f G=>∃ H Z aa P ab,Zjz k (Tq N b i X) P ab=some r∧St w0 (Zi col) H G∧Sl (Za.int .u32) H G t u b∧Sl (Za.int .u32) H G x y i∧Zc (Za.int .u32) 200 1 H G Z aa P∧[5,6].map f=[.slice Z P.length aa,.int .u64 ab]) ?_ ?_
   ·intro f G C;obtain ⟨H,Z,aa,P,ab,hm,a,c,g,a2,hs⟩:=C;rw [Zjz.eq_1] at hm;refine .lL [5,6] hs<|go ?_;exact ⟨X.length,by simp,rfl,⟨_,_,_,_,_,_,_,rfl,ay,hm,a,c,g,a2,(Y0 (congrArg (Value.int .i64) (Yw (Nat.lt_of_lt_of_le az c.1.1))) rfl)⟩⟩
   refine go ?_;refine lI Y (c.addr Y)<|lW (c.atInt Y)<|Yq rfl<|Yq rfl<|Zj<|Zo<|Yo<|Y1 rfl<|Y1 rfl<|lV (.int .u64 (u64.wrap al)) (Zid al ⟨_,underlying200⟩ underlying185 rfl)<|lV _ (T0 _ _ rfl rfl)<|Yq rfl<|Zj<|Zo ?_;refine Wp.cutK [0,1,24,25,26,5,7,1000000] (fun f I=>∃ J s,Zel k j (Tq N b i X) s=some r∧St w0 (Zi col) J I∧Sl (Za.int .u32) J I t u b∧Sl (Za.int .u32) J I x y i∧Zc (Za.int .u32) 200 1 J I o p j∧[6].map f=[.int .u64 s]) ?_ ?_
   ·intro f I C;obtain ⟨J,s,hm,a,c,g,q,hs⟩:=C;rw [Zel.eq_1] at hm;refine .lL [6] hs<|go ?_;obtain ⟨bo,ac,hm⟩:=bZ hm;refine lI ac (q.addr ac) ?_;obtain ⟨ad,Q,hm⟩:=bZ hm;have Q:ad=j.set (Int.toNat (k:Int)) (u32.wrap s):=(Option.some.inj Q).symm;refine Wj (x1:=u32.wrap s) q ac ?_;intro bp ae a3 am;rw [← Q] at am;refine .ld (d:=5) (v:=(.slice o ad.length p)) (congrArg (fun n=>Value.slice o n p) (show j.length=ad.length by rw [Q,List.length_set])) ?_;refine go ?_;refine lV (.int .u64 (X9 .u64 s 32)) (T4 s 32 rfl rfl (by decide))<|go ?_;replace c:=c.kp ae;replace g:=g.kp ae;replace a:=a.kp ae a3;exact ⟨rfl,_,_,_,_,_,hm,a,c,g,am,rfl⟩
   refine go ?_;refine Zm hm (fun hb hm=>go ?_) fun hb hm=>?_
   ·obtain ⟨bq,af,hm⟩:=bZ hm;refine lI af (g.addr af)<|lW (g.atInt af) ?_;refine go ?_;exact ⟨rfl,_,_,hm,a,c,g,q,rfl⟩
   refine Z1 ?_;exact ⟨rfl,_,_,hm,a,c,g,q,rfl⟩
 refine go ?_;refine Zm hm (fun hb hm=>go ?_) fun hb hm=>?_
 ·exact ⟨rfl,_,_,_,_,_,_,_,hm,a,aj,K,rfl⟩
 refine Z1 ?_;exact ⟨rfl,_,_,_,_,_,_,_,hm,a,K,aj,rfl⟩
def Zaz (e:List Int) (a:Nat) (kk_L1:(Nat→(List Int)→Option (List Int))) (f:Int):List Int→Nat→(List Int)→Int→Option (List Int)
  | [],c,b,d=>(Zq b (i64.wrap ((a:Int)+(e.length:Int)))).bind fun m=>(some (b.set (Int.toNat (i64.wrap ((a:Int)+(e.length:Int)))) (u32.wrap d))).bind fun j=>kk_L1 (a+1) j
  | g :: k,c,b,d=>(Zq b (i64.wrap ((a:Int)+(c:Int)))).bind fun i=>(some (b.set (Int.toNat (i64.wrap ((a:Int)+(c:Int)))) (u32.wrap (u64.wrap (d+(u64.wrap ((u64.wrap ((u64.wrap f) * (u64.wrap g)))+(u64.wrap i)))))))).bind fun l=>(Zaz e a kk_L1 f k) (c+1) l (X9 .u64 (u64.wrap (d+(u64.wrap ((u64.wrap ((u64.wrap f) * (u64.wrap g)))+(u64.wrap i))))) 32)
termination_by structural x=>x
def Sz (N:Nat) (a:List Int):List Int→Nat→(List Int)→Option (List Int)
  | [],c,b=>(Ua N b).bind fun d=>some d
  | e :: f,c,b=>Zaz a c (Sz N a f) e a 0 b 0
termination_by structural x=>x
def Zb5 (N:Nat) (c:List Int) (d:List Int):Option (List Int):=
  (Ub N c).bind fun a=>(Ub N d).bind fun b=>Zr ((Int.toNat (i64.wrap ((a.length:Int)+(b.length:Int)))) * 4≤281474976710656∧(Int.toNat (i64.wrap ((a.length:Int)+(b.length:Int))))≤maxLen∧0≤(i64.wrap ((a.length:Int)+(b.length:Int)))) (Sz N b a 0 (List.replicate (Int.toNat (i64.wrap ((a.length:Int)+(b.length:Int)))) (0:Int)))
theorem Zpv {N ak al:Nat} {a0 a1:Option Addr} {col:Zd} {w0:World} {V W r:(List Int)} (c1:Nat) (hm:Zb5 N V W=some r) (h0:Sl (Za.int .u32) col w0 a0 ak V) (h1:Sl (Za.int .u32) col w0 a1 al W):
    Calls prog 128 #[.slice a0 V.length ak,.slice a1 W.length al] w0 (fun e w'=>∃ (col':Zd) (ra1:Option Addr) (rc2:Nat),e= .returned ((.slice ra1 r.length rc2))∧Zg col w0 col' w'∧Zc (Za.int .u32) 200 c1 col' w' ra1 rc2 r):=by
 refine Z5 4 (m:=71) func128 rfl rfl rfl rfl rfl ?_;rw [Zb5.eq_1] at hm;have a:=St.start col w0;refine go ?_;obtain ⟨i,ar,hm⟩:=bZ hm;replace h0:=h0.keep (Zl.start col w0);refine Zh (Tj ar (h0.ks a)) ?_;rintro _ bh ⟨bi,K,L,rfl,au,c⟩;refine ⟨_,rfl,?_⟩;refine W2 rfl ?_;obtain ⟨b,av,hm⟩:=bZ hm;replace h1:=h1.keep (Zl.start col w0);replace a:=a.grow au;refine Zh (Tj av (h1.ks a)) ?_;rintro _ aw ⟨ax,C,D,rfl,am,g⟩;refine ⟨_,rfl,go ?_⟩;obtain ⟨M,hm⟩:=Zt hm;refine Zal (col:=ax) (w:=aw) (r:=(Za.int .u32)) (n:=(Int.toNat (i64.wrap ((i.length:Int)+(b.length:Int))))) (x0:=0) 1 rfl underlying120 Tryz.t200 rfl rfl rfl rfl rfl (congrArg (Value.int _) (Int.toNat_of_nonneg M.2.2).symm) (congrArg (Value.int _) (Int.toNat_of_nonneg M.2.2).symm) M.1 M.2.1 (Vf .u32 0) ?_;intro ay bj az X a2;refine go ?_;replace c:=(c.gr am).gr X;replace a:=(a.grow am).grow X;replace g:=g.gr X;refine Zlz (fun n f y=>∃ (l:Zd) (j:Nat) (O:Option Addr) (P:Nat) (E:List Int) (F:List Int),n=F.length∧i.drop j=F∧Sz N b F j E=some r∧St w0 (Zi col) l y∧Sl (Za.int .u32) l y C D b∧Sl (Za.int .u32) l y K L i∧Zc (Za.int .u32) 200 1 l y O P E∧f 23=(.int .i64 j)∧f 1=(.slice C b.length D)∧f 21=(.slice K i.length L)∧f 22=(.int .i64 i.length)∧f 5=(.slice O E.length P)∧f 1000000=(enc [])) i.length ⟨az,0,ay,(Int.toNat (i64.wrap ((i.length:Int)+(b.length:Int)))),(List.replicate (Int.toNat (i64.wrap ((i.length:Int)+(b.length:Int)))) (0:Int)),i,rfl,rfl,hm,a,g,c,a2,rfl,rfl,rfl,rfl,rfl,rfl⟩ ?_;clear hm;intro n f y Y;obtain ⟨l,j,O,P,E,F,hn,hl,hm,a,g,c,an,Z,aa,ab,ac,ad,ae⟩:=Y;subst hn;refine .lD 23 Z<|.lD 1 aa<|.lD 21 ab<|.lD 22 ac<|.lD 5 ad<|.lD 1000000 ae ?_
 cases F with
 | nil=>
  have hk:¬ ((j:Int)<(i.length:Int)):=by have:=List.drop_eq_nil_iff.1 hl;omega
  have hkb:=decide_eq_false hk;rw [Sz.eq_1] at hm;refine go ?_;refine Yh (congrArg Value.bool hkb)<|go ?_;obtain ⟨bk,a3,hm⟩:=bZ hm;refine Zh (Ti 2 a3 (an.toSlF (Zk.int .u32))) ?_;rintro _ bm ⟨a4,bn,bo,rfl,Q,af⟩;refine ⟨_,rfl,?_⟩;replace af:=af.thaw (Xs .u32) Q ((Fz.refl (col:=l)).froz 1) (by decide);replace Q:=Q.thawR (col:=l);generalize Xn y.heap.size l a4=bp at *;refine go ?_;cases hm;replace a:=a.grow Q;exact ⟨rfl,_,_,_,rfl,a.fin (cm [(2,c1)]),a.fo af⟩
 | cons t ag=>
  obtain ⟨u,a5,a6⟩:=Yu hl;have hk:(j:Int)<(i.length:Int):=by omega
  have hkb:=decide_eq_true hk;rw [Sz.eq_2] at hm;refine go ?_;refine X8 (congrArg Value.bool hkb)<|go ?_;refine lI u (c.addr u)<|lW (c.atInt u) ?_;refine go ?_;refine Zlz (fun n f G=>∃ (x:Zd) (q:Nat) (o:Option Addr) (p:Nat) (s:List Int) (k:Int) (H:List Int),n=H.length∧b.drop q=H∧Zaz b j (Sz N b ag) t H q s k=some r∧St w0 (Zi col) x G∧Sl (Za.int .u32) x G C D b∧Sl (Za.int .u32) x G K L i∧Zc (Za.int .u32) 200 1 x G o p s∧f 30=(.int .i64 q)∧f 1=(.slice C b.length D)∧f 21=(.slice K i.length L)∧f 22=(.int .i64 i.length)∧f 23=(.int .i64 j)∧f 28=(.slice C b.length D)∧f 29=(.int .i64 b.length)∧f 5=(.slice o s.length p)∧f 6=(.int .i64 j)∧f 7=(.int .u32 t)∧f 8=(.int .u64 k)∧f 1000000=(enc [])) b.length ⟨l,0,O,P,E,0,b,rfl,rfl,hm,a,g,c,an,rfl,rfl,rfl,rfl,rfl,rfl,rfl,rfl,rfl,rfl,rfl,rfl⟩ ?_;clear hm;intro n f G Y;obtain ⟨x,q,o,p,s,k,H,hn,hl,hm,a,g,c,A,a7,aa,ab,ac,Z,a8,a9,ad,ba,bb,bc,ae⟩:=Y;subst hn;refine .lD 30 a7<|.lD 1 aa<|.lD 21 ab<|.lD 22 ac<|.lD 23 Z<|.lD 28 a8<|.lD 29 a9<|.lD 5 ad<|.lD 6 ba<|.lD 7 bb<|.lD 8 bc<|.lD 1000000 ae ?_
  cases H with
  | nil=>
   have hk:¬ ((q:Int)<(b.length:Int)):=by have:=List.drop_eq_nil_iff.1 hl;omega
   have hkb:=decide_eq_false hk;rw [Zaz.eq_1] at hm;refine go ?_;refine Yh (congrArg Value.bool hkb)<|go ?_;obtain ⟨bq,ah,hm⟩:=bZ hm;refine lI ah (A.addr ah) ?_;obtain ⟨R,S,hm⟩:=bZ hm;have S:R=s.set (Int.toNat (i64.wrap ((j:Int)+(b.length:Int)))) (u32.wrap k):=(Option.some.inj S).symm;refine Wj (x1:=u32.wrap k) A ah ?_;intro br ai bd ao;rw [← S] at ao;refine .ld (d:=5) (v:=(.slice o R.length p)) (congrArg (fun n=>Value.slice o n p) (show s.length=R.length by rw [S,List.length_set])) ?_;refine go ?_;replace g:=g.kp ai;replace c:=c.kp ai;replace a:=a.kp ai bd;exact ⟨ag.length,by simp,⟨x,(j+1),o,p,R,ag,rfl,a5,hm,a,g,c,ao,(congrArg (Value.int .i64) (Yw (Nat.lt_of_lt_of_le a6 c.1.1))),rfl,rfl,rfl,rfl,rfl⟩⟩
  | cons I ap=>
   obtain ⟨u,be,bf⟩:=Yu hl;have hk:(q:Int)<(b.length:Int):=by omega
   have hkb:=decide_eq_true hk;rw [Zaz.eq_2] at hm;refine go ?_;refine X8 (congrArg Value.bool hkb)<|go ?_;refine lI u (g.addr u)<|lW (g.atInt u) ?_;refine go ?_;obtain ⟨J,B,hm⟩:=bZ hm;refine lI B (A.addr B)<|lW (A.atInt B) ?_;refine go ?_;refine lI B (A.addr B) ?_;obtain ⟨T,U,hm⟩:=bZ hm;have U:T=s.set (Int.toNat (i64.wrap ((j:Int)+(q:Int)))) (u32.wrap (u64.wrap (k+(u64.wrap ((u64.wrap ((u64.wrap t) * (u64.wrap I)))+(u64.wrap J)))))):=(Option.some.inj U).symm;refine Wj (x1:=u32.wrap (u64.wrap (k+(u64.wrap ((u64.wrap ((u64.wrap t) * (u64.wrap I)))+(u64.wrap J)))))) A B ?_;intro bs aj bg aq;rw [← U] at aq;refine .ld (d:=5) (v:=(.slice o T.length p)) (congrArg (fun n=>Value.slice o n p) (show s.length=T.length by rw [U,List.length_set])) ?_;refine go ?_;refine lV (.int .u64 (X9 .u64 (u64.wrap (k+(u64.wrap ((u64.wrap ((u64.wrap t) * (u64.wrap I)))+(u64.wrap J))))) 32)) (T4 (u64.wrap (k+(u64.wrap ((u64.wrap ((u64.wrap t) * (u64.wrap I)))+(u64.wrap J))))) 32 rfl rfl (by decide))<|go ?_;replace g:=g.kp aj;replace c:=c.kp aj;replace a:=a.kp aj bg;exact ⟨ap.length,by simp,⟨x,(q+1),o,p,T,(X9 .u64 (u64.wrap (k+(u64.wrap ((u64.wrap ((u64.wrap t) * (u64.wrap I)))+(u64.wrap J))))) 32),ap,rfl,be,hm,a,g,c,aq,(congrArg (Value.int .i64) (Yw (Nat.lt_of_lt_of_le bf g.1.1))),rfl,rfl,rfl,rfl,rfl,rfl,rfl,rfl,rfl,rfl,rfl⟩⟩
def Qq (N:Nat) (a:Int):Option (List Int):=
  (Ua N [u32.wrap a,u32.wrap (X9 .u64 a 32)]).bind fun b=>some b
theorem Zf2 {N:Nat} {col:Zd} {w0:World} {a:Int} {r:(List Int)} (c1:Nat) (hm:Qq N a=some r):
    Calls prog 99 #[.int .u64 a] w0 (fun e w'=>∃ (col':Zd) (ra1:Option Addr) (rc2:Nat),e= .returned ((.slice ra1 r.length rc2))∧Zg col w0 col' w'∧Zc (Za.int .u32) 200 c1 col' w' ra1 rc2 r):=by
 refine Z5 2 (m:=10) func99 O O O O O ?_;rw [Qq.eq_1] at hm;have b:=St.start col w0;refine go ?_;refine lV (.int .u64 (X9 .u64 a 32)) (T4 a 32 O O (by decide))<|go ?_;refine U8 (col:=(Zi col)) [u32.wrap a,u32.wrap (X9 .u64 a 32)] 1 ?_;intro n g d i j;obtain ⟨o,k,hm⟩:=bZ hm;refine Zh (Ti 2 k (j.toSlF (Zk.int .u32))) ?_;rintro _ p ⟨l,q,s,rfl,c,f⟩;refine ⟨_,O,?_⟩;replace f:=f.thaw (Xs .u32) c ((Fz.refl (col:=d)).froz 1) (by decide);replace c:=c.thawR (col:=d);generalize Xn g.heap.size d l=t at *;refine go ?_;cases hm;replace b:=(b.grow i).grow c;exact ⟨O,_,_,_,O,b.fin (cm [(2,c1)]),b.fo f⟩
def Zb6 (N:Nat) (a:List Int):Option (List Int):=
  (Ua N a).bind fun b=>some b
theorem Zmo {N c:Nat} {a0:Option Addr} {col:Zd} {w0:World} {b r:(List Int)} (c1:Nat) (hm:Zb6 N b=some r) (h0:Sl (Za.int .u32) col w0 a0 c b):
    Calls prog 98 #[.slice a0 b.length c] w0 (fun e w'=>∃ (col':Zd) (ra1:Option Addr) (rc2:Nat),e= .returned ((.slice ra1 r.length rc2))∧Zg col w0 col' w'∧Zc (Za.int .u32) 200 c1 col' w' ra1 rc2 r):=by
 refine Z5 2 (m:=5) func98 O O O O O ?_;rw [Zb6.eq_1] at hm;have a:=St.start col w0;refine go ?_;obtain ⟨i,d,hm⟩:=bZ hm;replace h0:=h0.keep (Zl.start col w0);refine Zh (Ti 1 d (h0.ks a)) ?_;rintro _ j ⟨k,l,n,rfl,f,g⟩;refine ⟨_,O,go ?_⟩;cases hm;replace a:=a.grow f;exact ⟨O,_,_,_,O,a.fin (cm [(1,c1)]),a.fo g⟩
theorem Zlw (N:Nat):∀ (n:Nat) (a:List Int),Zn a→a.length<n→a.length<4611686018427387904→Tc N n a=some (Zf (Zb a))
 | 0,a,_,h,_=>by omega
 | n+1,a,h,hn,hb=>by
  rw [Tc.eq_2]
  by_cases h0:0<a.length
  ·have e:(a.length:Int) - 1=((a.length - 1:Nat):Int):=by omega
   rw [if_pos (by simpa using h0),Z2 (by omega),e,Xa (by omega),Option.bind_some,Qs,Z2 (by omega),e]
   by_cases hx:a[a.length - 1]=0
   ·rw [if_pos (by simpa using hx),Xd (by omega),Int.toNat_natCast,Zlw N n _ (h.take _) (by rw [List.length_take];omega) (by rw [List.length_take];omega)]
    conv=>rhs;rw [← Zdh h0,hx,Zss]
   ·rw [if_neg (by simpa using hx)]
    have e2:=Zdh h0
    have e3:=Z1b (a:=a.take (a.length - 1)) (x:=a[a.length - 1]) (by rw [e2];exact h) hx
    rw [e2] at e3
    rw [e3]
  ·have h1:a=[]:=List.eq_nil_of_length_eq_zero (by omega)
   subst h1
   rw [if_neg (by simp),Qs,if_neg (by decide),Ye,Wz]
theorem T6 {N:Nat} {a:List Int} (h:Zn a) (hn:a.length<N) (hb:a.length≤35184372088000):Ub N a=some (Zf (Zb a)):=by
 rw [Ub];exact Zlw N N a h hn (by omega)
theorem Zmy {a:List Int} (hb:a.length≤35184372088832):Zcn a=some a:=by
 rw [Zcn,Xd (by simp only [List.length_nil,maxLen];omega),List.nil_append]
theorem Tz {N:Nat} {a:List Int} (h:Zn a) (hn:a.length<N) (hb:a.length≤35184372088000):Ua N a=some (Zf (Zb a)):=by
 rw [Ua,T6 h hn hb,Option.bind_some]
 have hl:=Yv h
 by_cases h0:Zf (Zb a)=[]
 ·rw [h0,if_pos (by decide)]
 ·have:0<(Zf (Zb a)).length:=List.length_pos_iff.2 h0
  rw [if_neg (by simp;exact h0),Zmy (by omega),Option.bind_some]
theorem Zoa {N:Nat} {a:List Int} (h:Zn a) (hn:a.length<N) (hb:a.length≤35184372088000):Zb6 N a=some (Zf (Zb a)):=by
 rw [Zb6,Tz h hn hb,Option.bind_some]
theorem Zh7 {N:Nat} {u:Int} (h:0≤u∧u<18446744073709551616) (hn:2<N):Qq N u=some (Zf u.toNat):=by
 have e:Zb [u32.wrap u,u32.wrap (X9 .u64 u 32)]=u.toNat:=by
  rw [Zcz,Yy,Yy,Ye,IntKind.wrap_u32,IntKind.wrap_u32];omega
 have hl:Zn [u32.wrap u,u32.wrap (X9 .u64 u 32)]:=by
  rw [Zcz,IntKind.wrap_u32,IntKind.wrap_u32]
  exact .cons (by omega) (.cons (by omega) .nil)
 rw [Qq,Tz hl (by simpa using hn) (by simp),Option.bind_some,e]
theorem Zqg (N:Nat) (a b:List Int) (ha:Zn a) (hb:Zn b) (hl:a.length=b.length) (hs:a.length<4611686018427387904):∀ (n i:Nat),i≤a.length→i<n→a.drop i=b.drop i→Zb2 N a b n ((i:Int) - 1)=some (if Zb a<Zb b then -1 else if Zb b<Zb a then 1 else 0)
 | 0,i,_,h,_=>by omega
 | n+1,i,hi,hn,he=>by
  rw [Zb2.eq_2]
  by_cases h0:i=0
  ·subst h0
   rw [if_neg (by decide)]
   rw [List.drop_zero,List.drop_zero] at he
   subst he
   rw [if_neg (by omega),if_neg (by omega)]
  ·have e:(i:Int) - 1=((i - 1:Nat):Int):=by omega
   have h1:i - 1<a.length:=by omega
   have h2:i - 1<b.length:=by omega
   have e1:i - 1+1=i:=by omega
   rw [if_pos (by simp;omega),e,Xa h1,Option.bind_some,Xa h2,Option.bind_some]
   have g1:=ha.get h1
   have g2:=hb.get h2
   have va:=Un a (i - 1)
   have vb:=Un b (i - 1)
   rw [V5 h1,e1] at va
   rw [V5 h2,e1,← he] at vb
   have la:=Tx (ha.take (i - 1))
   have lb:=Tx (hb.take (i - 1))
   rw [List.length_take,Nat.min_eq_left (by omega)] at la lb
   have key:∀ x y:Nat,x<y→4294967296 ^ (i - 1) * (x+4294967296 * Zb (a.drop i))+4294967296 ^ (i - 1)≤4294967296 ^ (i - 1) * (y+4294967296 * Zb (a.drop i)):=fun x y hxy=>by
    rw [← Nat.mul_succ];exact Nat.mul_le_mul_left _ (by omega)
   by_cases hlt:a[i - 1]<b[i - 1]
   ·have:=key _ _ (show (a[i - 1]).toNat<(b[i - 1]).toNat by omega)
    rw [if_pos (by simpa using hlt),if_pos (by omega)]
   ·rw [if_neg (by simpa using hlt)]
    by_cases hgt:b[i - 1]<a[i - 1]
    ·have:=key _ _ (show (b[i - 1]).toNat<(a[i - 1]).toNat by omega)
     rw [if_pos (by simpa using hgt),if_neg (by omega),if_pos (by omega)]
    ·rw [if_neg (by simpa using hgt),Z2 (by omega)]
     have:=Zqg N a b ha hb hl hs n (i - 1) (by omega) (by omega) (by
      rw [List.drop_eq_getElem_cons h1,List.drop_eq_getElem_cons h2,e1,he]
      congr 1;omega)
     exact this
theorem Zr0 {m n:Nat} (h:(Zf m).length<(Zf n).length):m<n:=by
 have h1:=Wu (k:=(Zf m).length) (n:=m)
 have h2:=Wu (k:=(Zf m).length) (n:=n)
 have:=h1.1 (Nat.le_refl _)
 have h3:¬ n<4294967296 ^ (Zf m).length:=fun h4=>by have:=h2.2 h4;omega
 omega
theorem Zmz {N:Nat} {a b:List Int} (ha:Zn a) (hb:Zn b) (h1:a.length<N) (h2:b.length<N) (h3:a.length≤35184372088000) (h4:b.length≤35184372088000):
  Zb1 N a b=some (if Zb a<Zb b then -1 else if Zb b<Zb a then 1 else 0):=by
 have la:=Yv ha
 have lb:=Yv hb
 rw [Zb1,T6 ha h1 h3,Option.bind_some,T6 hb h2 h4,Option.bind_some]
 by_cases he:(Zf (Zb a)).length=(Zf (Zb b)).length
 ·rw [if_neg (by simp [he]),Z2 (by omega)]
  have:=Zqg N (Zf (Zb a)) (Zf (Zb b)) (Z8 _) (Z8 _) he (by omega) N (Zf (Zb a)).length (Nat.le_refl _) (by omega) (by
   rw [List.drop_eq_nil_of_le (Nat.le_refl _),List.drop_eq_nil_of_le (by omega)])
  rw [this,Z3,Z3]
 ·rw [if_pos (by simp;omega)]
  by_cases hlt:(Zf (Zb a)).length<(Zf (Zb b)).length
  ·rw [if_pos (by simpa using hlt),if_pos (Zr0 hlt)]
  ·have:=Zr0 (m:=Zb b) (n:=Zb a) (by omega)
   rw [if_neg (by simpa using hlt),if_neg (by omega),if_pos this]
def Xr (b:List Int) (k:Nat):Nat:=(b.getD k 0).toNat
theorem Um (b:List Int) (k:Nat):Zb (b.drop k)=Xr b k+4294967296 * Zb (b.drop (k+1)):=by
 by_cases h:k<b.length
 ·rw [V5 h,Xr,List.getD_eq_getElem?_getD,List.getElem?_eq_getElem h,Option.getD_some]
 ·rw [List.drop_eq_nil_of_le (by omega),List.drop_eq_nil_of_le (by omega),Xr,List.getD_eq_getElem?_getD,List.getElem?_eq_none (by omega)];rfl
theorem Zbp {b:List Int} (h:Zn b) (k:Nat):Xr b k<4294967296:=by
 rw [Xr,List.getD_eq_getElem?_getD]
 by_cases hk:k<b.length
 ·have:=h.get hk
  rw [List.getElem?_eq_getElem hk,Option.getD_some];omega
 ·rw [List.getElem?_eq_none (by omega)];decide
theorem drop_zero {l:List Int} {k:Nat} (h:Zn l) (hk:k<l.length) (h0:Zb (l.drop k)=0):l[k]=0∧Zb (l.drop (k+1))=0:=by
 have:=h.get hk
 rw [V5 hk] at h0
 omega
theorem Qb {l:List Int} {k j:Nat} (v:Int) (h:k<j):(l.set k v).drop j=l.drop j:=by
 rw [List.drop_set,if_pos h]
theorem Zvr (S S' Q c x y v c' L D:Nat) (h1:S'=S+Q * v) (h2:c+x+y=v+4294967296 * c'):S'+Q * 4294967296 * (c'+L+D)=S+Q * (c+(x+4294967296 * L)+(y+4294967296 * D)):=by
 subst h1
 have:Q * (c+x+y)=Q * (v+4294967296 * c'):=by rw [h2]
 grind
theorem Zpi (N:Nat) (a b:List Int) (ha:Zn a) (hb:Zn b) (hab:b.length≤a.length) (hN:a.length+1<N) (hs:a.length<35184372088000):∀ (l:List Int) (k:Nat) (sum:List Int) (c:Int),Zn l→a.length=k+l.length→sum.length=a.length+1→Zn sum→Zb (sum.drop k)=0→0≤c∧c≤1→
  Tq N a b l k sum c=some (Zf (Zb sum+4294967296 ^ k * (c.toNat+Zb l+Zb (b.drop k))))
 | [],k,sum,c,_,hk,hl,hL,hz,hc=>by
  have hk':k=a.length:=by simpa using hk.symm
  subst hk'
  rw [Tq.eq_1,Xa (by omega),Option.bind_some,Option.bind_some,Int.toNat_natCast,V2 (by omega),
   Tz (hL.set _ (by omega)) (by rw [List.length_set];omega) (by rw [List.length_set];omega),Option.bind_some]
  have h1:=Td (l:=sum) (k:=a.length) (by omega) c
  have h2:=(drop_zero hL (by omega) hz).1
  rw [h2] at h1
  rw [Ye,List.drop_eq_nil_of_le (by omega),Ye]
  have h3:Zb (sum.set a.length c)=Zb sum+4294967296 ^ a.length * c.toNat:=by simpa using h1
  rw [h3];rfl
 | x :: l,k,sum,c,hx,hk,hl,hL,hz,hc=>by
  have hk1:a.length=k+1+l.length:=by rw [hk,List.length_cons];omega
  have h0:=hx.head
  have hz':=drop_zero hL (by omega) hz
  have hy:=Zbp hb k
  have hsz:sum[k]'(by omega)=0:=hz'.1
  -- the sum of one place
  have step:∀ s:Int,s=c+x+(Xr b k:Int)→Zel k sum (Tq N a b l) s=some (Zf (Zb sum+4294967296 ^ k * (c.toNat+Zb (x :: l)+Zb (b.drop k)))):=fun s hs'=>by
   rw [Zel,Xa (by omega),Option.bind_some,Option.bind_some,Zjz,Int.toNat_natCast,Zcz]
   have hw:0≤u32.wrap s∧u32.wrap s<4294967296:=by rw [IntKind.wrap_u32];omega
   rw [Zpi N a b ha hb hab hN hs l (k+1) _ _ hx.tail hk1 (by rw [List.length_set];exact hl) (hL.set _ hw) (by rw [Qb _ (by omega)];exact hz'.2) (by omega)]
   have h1:=Td (l:=sum) (k:=k) (by omega) (u32.wrap s)
   rw [hsz] at h1
   rw [Nat.pow_succ,Yy,Um b k]
   congr 2
   exact Zvr _ _ _ _ _ _ (u32.wrap s).toNat _ _ _ (by simpa using h1) (by rw [IntKind.wrap_u32];omega)
  rw [Tq.eq_2]
  have hcx:u64.wrap (c+u64.wrap x)=c+x:=by rw [Xi (x:=x) (by omega),Xi (by omega)]
  by_cases hkb:k<b.length
  ·have e:Xr b k=(b[k]).toNat:=by rw [Xr,List.getD_eq_getElem?_getD,List.getElem?_eq_getElem hkb,Option.getD_some]
   have:=hb.get hkb
   rw [if_pos (by simpa using hkb),Xa hkb,Option.bind_some,hcx,Xi (x:=b[k]) (by omega),Xi (by omega)]
   exact step _ (by omega)
  ·have e:Xr b k=0:=by rw [Xr,List.getD_eq_getElem?_getD,List.getElem?_eq_none (by omega)];rfl
   rw [if_neg (by simpa using hkb),hcx]
   exact step _ (by omega)
theorem Zph {N:Nat} {a b:List Int} (ha:Zn a) (hb:Zn b) (hab:b.length≤a.length) (hN:a.length+1<N) (hs:a.length<35184372088000):Zek N a b=some (Zf (Zb a+Zb b)):=by
 rw [Zek,Z2 (by omega),Xd (by simp only [maxLen];omega),Zpi N a b ha hb hab hN hs a 0 _ 0 ha (by omega) (by rw [List.length_replicate];omega) (.zeros _) (by rw [List.drop_zero];exact Ty _) (by omega),Ty,List.drop_zero]
 simp
theorem Zvs {N:Nat} {a b:List Int} (ha:Zn a) (hb:Zn b) (h1:a.length+1<N) (h2:b.length+1<N) (h3:a.length<35184372088000) (h4:b.length<35184372088000):Zg0 N a b=some (Zf (Zb a+Zb b)):=by
 have la:=Yv ha
 have lb:=Yv hb
 rw [Zg0,T6 ha (by omega) (by omega),Option.bind_some,T6 hb (by omega) (by omega),Option.bind_some]
 by_cases h:(Zf (Zb a)).length<(Zf (Zb b)).length
 ·rw [if_pos (by simpa using h),Zph (Z8 _) (Z8 _) (by omega) (by omega) (by omega),Z3,Z3,Nat.add_comm]
 ·rw [if_neg (by simpa using h),Zph (Z8 _) (Z8 _) (by omega) (by omega) (by omega),Z3,Z3]
theorem Zrx (N:Nat) (a b:List Int) (ha:Zn a) (hb:Zn b) (hs:a.length<35184372088000):∀ (n k:Nat) (r:List Int) (c:Int),k≤a.length→a.length<n+k→r.length=a.length→Zn r→0≤c∧c≤1→r.drop k=a.drop k→
  4294967296 ^ k * (c.toNat+Zb (b.drop k))≤4294967296 ^ k * Zb (a.drop k)→
  ∃ r',Tb N a b n r c (k:Int)=some r'∧r'.length=a.length∧Zn r'∧Zb r'+4294967296 ^ k * (c.toNat+Zb (b.drop k))=Zb r
 | 0,k,r,c,hk,hn,_,_,_,_,_=>by omega
 | n+1,k,r,c,hk,hn,hl,hr,hc,he,hle=>by
  have hQ:0<4294967296 ^ k:=Nat.pow_pos (by decide)
  have hle':c.toNat+Zb (b.drop k)≤Zb (a.drop k):=Nat.le_of_mul_le_mul_left hle hQ
  rw [Tb.eq_2]
  by_cases h0:k<a.length
  ·have ga:=ha.get h0
   have hrk:r[k]'(by omega)=a[k]:=by
    have:(r.drop k)[0]'(by simp;omega)=(a.drop k)[0]'(by simp;omega):=by simp only [he]
    simpa using this
   have hy:=Zbp hb k
   rw [Um b k,V5 h0] at hle'
   have step:∀ t:Int,t=c+(Xr b k:Int)→∃ r',Zeq r (k:Int) (Tb N a b n) t=some r'∧r'.length=a.length∧Zn r'∧Zb r'+4294967296 ^ k * (c.toNat+Zb (b.drop k))=Zb r:=fun t ht=>by
    have hw:0≤u32.wrap (a[k] - u32.wrap t)∧u32.wrap (a[k] - u32.wrap t)<4294967296:=by rw [IntKind.wrap_u32];omega
    have fin:∀ c':Int,0≤c'∧c'≤1→a[k]+4294967296 * c'=t+u32.wrap (a[k] - u32.wrap t)→∃ r',Zer r (k:Int) (Tb N a b n) t c'=some r'∧r'.length=a.length∧Zn r'∧Zb r'+4294967296 ^ k * (c.toNat+Zb (b.drop k))=Zb r:=fun c' hc' hv=>by
     rw [Zer,Xa (by omega),Option.bind_some,Option.bind_some,Zj3,hrk,Z2 (by omega),Int.toNat_natCast]
     obtain ⟨r',q1,q2,q3,q4⟩:=Zrx N a b ha hb hs n (k+1) (r.set k (u32.wrap (a[k] - u32.wrap t))) c' (by omega) (by omega) (by rw [List.length_set];exact hl) (hr.set _ hw) hc' (by
      rw [Qb _ (by omega)]
      have:=congrArg (List.drop 1) he
      simpa [List.drop_drop,Nat.add_comm] using this) (Nat.mul_le_mul_left _ (by omega))
     refine ⟨r',q1,q2,q3,?_⟩
     have h1:=Td (l:=r) (k:=k) (by omega) (u32.wrap (a[k] - u32.wrap t))
     rw [hrk] at h1
     rw [Um b k]
     rw [Nat.pow_succ] at q4
     have hv':(a[k]).toNat+4294967296 * c'.toNat=c.toNat+Xr b k+(u32.wrap (a[k] - u32.wrap t)).toNat:=by omega
     have hv2:4294967296 ^ k * ((a[k]).toNat+4294967296 * c'.toNat)=4294967296 ^ k * (c.toNat+Xr b k+(u32.wrap (a[k] - u32.wrap t)).toNat):=by rw [hv']
     grind
    rw [Zeq,Xa (by omega),Option.bind_some,hrk,Xi (x:=a[k]) (by omega)]
    by_cases hlt:a[k]<t
    ·rw [if_pos (by simpa using hlt)]
     exact fin 1 (by omega) (by rw [IntKind.wrap_u32,IntKind.wrap_u32];omega)
    ·rw [if_neg (by simpa using hlt)]
     exact fin 0 (by omega) (by rw [IntKind.wrap_u32,IntKind.wrap_u32];omega)
   rw [if_pos (by simpa using h0)]
   by_cases hkb:k<b.length
   ·have e:Xr b k=(b[k]).toNat:=by rw [Xr,List.getD_eq_getElem?_getD,List.getElem?_eq_getElem hkb,Option.getD_some]
    have:=hb.get hkb
    rw [if_pos (by simpa using hkb),Xa hkb,Option.bind_some,Xi (x:=b[k]) (by omega),Xi (by omega)]
    exact step _ (by omega)
   ·have e:Xr b k=0:=by rw [Xr,List.getD_eq_getElem?_getD,List.getElem?_eq_none (by omega)];rfl
    rw [if_neg (by simpa using hkb)]
    exact step _ (by omega)
  ·rw [if_neg (by simpa using h0)]
   rw [List.drop_eq_nil_of_le (show a.length≤k by omega),Ye] at hle'
   exact ⟨r,rfl,hl,hr,by rw [show c.toNat+Zb (b.drop k)=0 by omega];simp⟩
theorem Zu5 {N:Nat} {a b:List Int} (ha:Zn a) (hb:Zn b) (h1:a.length+1<N) (h2:b.length+1<N) (h3:a.length<35184372088000) (h4:b.length<35184372088000):
  Zen N a b=some (if Zb a<Zb b then ([],false) else (Zf (Zb a - Zb b),true)):=by
 have la:=Yv ha
 have lb:=Yv hb
 rw [Zen,Zmz ha hb (by omega) (by omega) (by omega) (by omega),Option.bind_some]
 by_cases h:Zb a<Zb b
 ·rw [if_pos h,if_pos (by decide),if_pos h]
 ·rw [if_neg h,if_neg (by split <;> decide),if_neg h,T6 ha (by omega) (by omega),Option.bind_some,Zmy (by omega),Option.bind_some,T6 hb (by omega) (by omega),Option.bind_some,Zj2]
  obtain ⟨r',q1,q2,q3,q4⟩:=Zrx N (Zf (Zb a)) (Zf (Zb b)) (Z8 _) (Z8 _) (by omega) N 0 (Zf (Zb a)) 0 (by omega) (by omega) rfl (Z8 _) (by omega) rfl (by simp [Z3];omega)
  rw [show ((0:Nat):Int)=0 from rfl] at q1
  rw [q1,Option.bind_some,Tz q3 (by omega) (by omega),Option.bind_some]
  simp [Z3] at q4
  congr 3
  omega
theorem Z1n (P P' Q c x y e v c' L:Nat) (h1:P'+Q * e=P+Q * v) (h2:c+(x * y+e)=v+4294967296 * c'):P'+Q * 4294967296 * (c'+x * L)=P+Q * (c+x * (y+4294967296 * L)):=by
 have:Q * (c+(x * y+e))=Q * (v+4294967296 * c'):=by rw [h2]
 grind
theorem Zsk (b:List Int) (hb:Zn b) (i:Nat) (kk:Nat→List Int→Option (List Int)) (x:Int) (hx:0≤x∧x<4294967296):∀ (l:List Int) (j:Nat) (p:List Int) (c:Int),Zn l→j+l.length=b.length→i+b.length<p.length→p.length<4611686018427387904→Zn p→0≤c∧c<4294967296→Zb (p.drop (i+b.length))=0→
  ∃ p',Zaz b i kk x l j p c=kk (i+1) p'∧p'.length=p.length∧Zn p'∧Zb p'=Zb p+4294967296 ^ (i+j) * (c.toNat+x.toNat * Zb l)∧Zb (p'.drop (i+b.length+1))=0
 | [],j,p,c,_,hj,hp,hs,hL,hc,hz=>by
  have hj':j=b.length:=by simpa using hj
  subst hj'
  have hz':=drop_zero hL hp hz
  rw [Zaz.eq_1,Z2 (by omega),show (i:Int)+(b.length:Int)=((i+b.length:Nat):Int) by omega,Xa hp,Option.bind_some,Option.bind_some,Int.toNat_natCast,V2 hc]
  refine ⟨_,rfl,by rw [List.length_set],hL.set _ hc,?_,?_⟩
  ·have h1:=Td hp c
   rw [hz'.1] at h1
   rw [Ye,Nat.mul_zero,Nat.add_zero]
   simpa using h1
  ·rw [Qb _ (by omega)];exact hz'.2
 | y :: l,j,p,c,hl,hj,hp,hs,hL,hc,hz=>by
  have hy:=hl.head
  have hj1:j+1+l.length=b.length:=by rw [← hj,List.length_cons];omega
  have hij:i+j<p.length:=by omega
  have hg:=hL.get hij
  have hm:x * y≤4294967295 * 4294967295:=Int.mul_le_mul (by omega) (by omega) (by omega) (by omega)
  have hm0:0≤x * y:=Int.mul_nonneg hx.1 hy.1
  rw [Zaz.eq_2,Z2 (by omega),show (i:Int)+(j:Int)=((i+j:Nat):Int) by omega,Xa hij,Option.bind_some,Option.bind_some,Int.toNat_natCast,Xi (x:=x) (by omega),Xi (x:=y) (by omega),Xi (x:=p[i+j]) (by omega),Xi (x:=x * y) (by omega),Xi (x:=x * y+p[i+j]) (by omega),Xi (by omega),Zcz]
  generalize hs':c+(x * y+p[i+j])=s
  have hw:0≤u32.wrap s∧u32.wrap s<4294967296:=by rw [IntKind.wrap_u32];omega
  obtain ⟨p',q1,q2,q3,q4,q5⟩:=Zsk b hb i kk x hx l (j+1) (p.set (i+j) (u32.wrap s)) (s / 4294967296) hl.tail hj1 (by rw [List.length_set];exact hp) (by rw [List.length_set];exact hs) (hL.set _ hw) (by omega) (by rw [Qb _ (by omega)];exact hz)
  refine ⟨p',q1,by rw [q2,List.length_set],q3,?_,q5⟩
  rw [q4,← Nat.add_assoc i j 1,Nat.pow_succ,Yy]
  refine Z1n _ _ _ _ _ _ (p[i+j]).toNat (u32.wrap s).toNat _ _ (Td hij _) ?_
  rw [IntKind.wrap_u32]
  have e1:((x.toNat * y.toNat:Nat):Int)=x * y:=by rw [Int.natCast_mul,Int.toNat_of_nonneg hx.1,Int.toNat_of_nonneg hy.1]
  omega
theorem Zsj (N:Nat) (b:List Int) (hb:Zn b):∀ (l:List Int) (i:Nat) (p:List Int),Zn l→p.length=i+l.length+b.length→p.length<N→p.length<35184372088000→Zn p→Zb (p.drop (i+b.length))=0→
  Sz N b l i p=some (Zf (Zb p+4294967296 ^ i * (Zb l * Zb b)))
 | [],i,p,_,hl,hn,hs,hp,hz=>by
  rw [Sz.eq_1,Tz hp hn (by omega),Option.bind_some,Ye];simp
 | x :: l,i,p,hx,hl,hn,hs,hp,hz=>by
  rw [List.length_cons] at hl
  obtain ⟨p',q1,q2,q3,q4,q5⟩:=Zsk b hb i (Sz N b l) x hx.head b 0 p 0 hb (by omega) (by omega) (by omega) hp (by omega) hz
  rw [Sz.eq_2,q1,Zsj N b hb l (i+1) p' hx.tail (by omega) (by omega) (by omega) q3 (by rw [show i+1+b.length=i+b.length+1 by omega];exact q5),q4,Yy,Nat.pow_succ]
  congr 2
  simp only [Nat.add_zero,Int.toNat_zero,Nat.zero_add]
  grind
theorem Zsl {N:Nat} {a b:List Int} (ha:Zn a) (hb:Zn b) (h1:a.length+b.length<N) (h3:a.length+b.length<35184372088000):Zb5 N a b=some (Zf (Zb a * Zb b)):=by
 have la:=Yv ha
 have lb:=Yv hb
 rw [Zb5,T6 ha (by omega) (by omega),Option.bind_some,T6 hb (by omega) (by omega),Option.bind_some,Z2 (by omega),Xd (by simp only [maxLen];omega),
  Zsj N _ (Z8 _) _ 0 _ (Z8 _) (by rw [List.length_replicate];omega) (by rw [List.length_replicate];omega) (by rw [List.length_replicate];omega) (.zeros _) (by
   rw [List.drop_replicate];exact Ty _),Ty,Z3,Z3]
 simp
def Zb9 (N:Nat) (a:Int):Nat→(List Int)→Int→Int→Option (Int×List Int)
  | 0,_,_,_=>none
  | f+1,c,d,b=>if (decide (0≤b))=true then ((Zq c b).bind fun e=>Zr ((u64.wrap a)≠0) ((some (c.set (Int.toNat b) (u32.wrap (u64.wrap (Int.tdiv (Ys .u64 (Xu .u64 d 32) (u64.wrap e)) (u64.wrap a)))))).bind fun g=>Zr ((u64.wrap a)≠0) ((Zb9 N a f) g (Int.tmod (Ys .u64 (Xu .u64 d 32) (u64.wrap e)) (u64.wrap a)) (i64.wrap (b - 1))))) else (some (u32.wrap d,c))
termination_by structural x=>x
def Zg7 (N:Nat) (a:List Int) (b:Int):Option (Int×List Int):=
  Zb9 N b N a 0 (i64.wrap ((a.length:Int) - 1))
theorem Zx1 {N g:Nat} {a0:Option Addr} {col:Zd} {w0:World} {i:(List Int)} {b:Int} {r:(Int×List Int)} (qc0:Nat) (hm:Zg7 N i b=some r) (hd:Yk [qc0]=true) (h0:Zc (Za.int .u32) 200 qc0 col w0 a0 g i):
    Calls prog 164 #[.slice a0 i.length g,.int .u32 b] w0 (fun e w'=>∃ (col':Zd),e= .returned ((.int .u32 r.1))∧Zs (pS [qc0]) col w0 col' w'∧Zc (Za.int .u32) 200 qc0 col' w' a0 g r.2∧r.2.length=i.length):=by
 refine Z5 4 (m:=36) func164 O O O O O ?_;rw [Zg7.eq_1] at hm;have j:=St.startL (l:=[qc0]) O col w0;replace h0:=h0.startL (Yd hd 0 O) (Yc hd 0 O);refine go ?_;refine Z6 [1,1000000] (fun n f w=>∃ x c a u k,k=n∧Zb9 N b k c a u=some r∧St w0 (Zy [qc0] col) x w∧Zc (Za.int .u32) 200 440 x w a0 g c∧c.length=i.length∧c.length=i.length∧[0,5,6].map f=[.slice a0 c.length g,.int .u64 a,.int .i64 u]) N ⟨_,_,0,_,_,O,hm,j,h0,O,O,O⟩ ?_;clear hm;intro n f w B;obtain ⟨x,c,a,u,k,hn,hm,j,q,C,D,hs⟩:=B;subst hn;refine .lL [0,5,6] hs ?_
 cases k with
 | zero=>rw [Zb9.eq_1] at hm;cases hm
 | succ k=>
  rw [Zb9.eq_2] at hm;refine go ?_;refine Zm hm (fun hb hm=>go ?_) fun hb hm=>go ?_
  ·refine lV (.int .u64 (Xu .u64 a 32)) (Zcw a 32 O O (by decide))<|go ?_;obtain ⟨o,p,hm⟩:=bZ hm;refine lI p (q.addr p)<|lW (q.atInt p) ?_;refine go ?_;obtain ⟨E,hm⟩:=Zt hm;refine lV (.int .u64 (u64.wrap (Int.tdiv (Ys .u64 (Xu .u64 a 32) (u64.wrap o)) (u64.wrap b)))) (Uq (Ys .u64 (Xu .u64 a 32) (u64.wrap o)) (u64.wrap b) O O E)<|go ?_;refine lI p (q.addr p) ?_;obtain ⟨s,t,hm⟩:=bZ hm;have t:s=c.set (Int.toNat u) (u32.wrap (u64.wrap (Int.tdiv (Ys .u64 (Xu .u64 a 32) (u64.wrap o)) (u64.wrap b)))):=(Option.some.inj t).symm;refine Wj (x1:=u32.wrap (u64.wrap (Int.tdiv (Ys .u64 (Xu .u64 a 32) (u64.wrap o)) (u64.wrap b)))) q p ?_;intro I F G y;rw [← t] at y;have A:s.length=i.length:=(show c.length=s.length by rw [t,List.length_set]).symm.trans C;refine .ld (d:=0) (v:=(.slice a0 s.length g)) (congrArg (fun n=>Value.slice a0 n g) (show c.length=s.length by rw [t,List.length_set])) ?_;refine go ?_;obtain ⟨H,hm⟩:=Zt hm;refine lV (.int .u64 (Int.tmod (Ys .u64 (Xu .u64 a 32) (u64.wrap o)) (u64.wrap b))) (T3 (Ys .u64 (Xu .u64 a 32) (u64.wrap o)) (u64.wrap b) O O H)<|go ?_;replace j:=j.kp F G;exact ⟨k,by omega,O,⟨_,_,_,_,_,O,hm,j,y,A,A,O⟩⟩
  cases hm;exact ⟨O,_,O,j.finL O (cm [(440,qc0)]),j.foL q,D⟩
def Zby (a:Int) (b:Int):Option Int:=
  (W8 (⟨#[0,1,2,2,3,3,3,3,4,4,4,4,4,4,4,4,5,5,5,5,5,5,5,5,5,5,5,5,5,5,5,5,6,6,6,6,6,6,6,6,6,6,6,6,6,6,6,6,6,6,6,6,6,6,6,6,6,6,6,6,6,6,6,6,7,7,7,7,7,7,7,7,7,7,7,7,7,7,7,7,7,7,7,7,7,7,7,7,7,7,7,7,7,7,7,7,7,7,7,7,7,7,7,7,7,7,7,7,7,7,7,7,7,7,7,7,7,7,7,7,7,7,7,7,7,7,7,7,8,8,8,8,8,8,8,8,8,8,8,8,8,8,8,8,8,8,8,8,8,8,8,8,8,8,8,8,8,8,8,8,8,8,8,8,8,8,8,8,8,8,8,8,8,8,8,8,8,8,8,8,8,8,8,8,8,8,8,8,8,8,8,8,8,8,8,8,8,8,8,8,8,8,8,8,8,8,8,8,8,8,8,8,8,8,8,8,8,8,8,8,8,8,8,8,8,8,8,8,8,8,8,8,8,8,8,8,8,8,8,8,8,8,8,8,8,8,8,8,8,8,8,8,8,8,8,8]⟩) (u8.wrap a)).bind fun c=>some (i64.wrap (b+(i64.wrap c)))
def Zea (a:Int) (b:Int):Option Int:=
  if (decide (256≤a))=true then (Zby (X9 .u32 a 8) (i64.wrap (b+8))) else (Zby a b)
def Zd9 (a:Int):Option Int:=
  if (decide (65536≤a))=true then (Zea (X9 .u32 a 16) 16) else (Zea a 0)
theorem Zps {col:Zd} {w0:World} {c r:Int} (hm:Zd9 c=some r):
    Calls prog 143 #[.int .u32 c] w0 (fun e w'=>e= .returned ((.int .i64 r))∧Below w0.heap.size w0 w'):=by
 refine Z5 2 (m:=19) func143 O O O O O ?_;rw [Zd9.eq_1] at hm;have a:=St.start col w0;refine Zo<|Yo<|Yq O<|Zj<|Zo ?_;refine Wp.cutK [1000000] (fun f k=>∃ l b d,Zea b d=some r∧St w0 (Zi col) l k∧[0,2].map f=[.int .u32 b,.int .i64 d]) ?_ ?_
 ·intro f k g;obtain ⟨l,b,d,hm,a,hs⟩:=g;rw [Zea.eq_1] at hm;refine .lL [0,2] hs<|Zo ?_;refine Wp.cutK [1000000] (fun f n=>∃ o i j,Zby i j=some r∧St w0 (Zi col) o n∧[0,2].map f=[.int .u32 i,.int .i64 j]) ?_ ?_
  ·intro f n g;obtain ⟨o,i,j,hm,a,hs⟩:=g;rw [Zby.eq_1] at hm;refine .lL [0,2] hs<|go ?_;obtain ⟨p,q,hm⟩:=bZ hm;refine lV (.int .u8 p) (Vq (s:=(⟨#[0,1,2,2,3,3,3,3,4,4,4,4,4,4,4,4,5,5,5,5,5,5,5,5,5,5,5,5,5,5,5,5,6,6,6,6,6,6,6,6,6,6,6,6,6,6,6,6,6,6,6,6,6,6,6,6,6,6,6,6,6,6,6,6,7,7,7,7,7,7,7,7,7,7,7,7,7,7,7,7,7,7,7,7,7,7,7,7,7,7,7,7,7,7,7,7,7,7,7,7,7,7,7,7,7,7,7,7,7,7,7,7,7,7,7,7,7,7,7,7,7,7,7,7,7,7,7,7,8,8,8,8,8,8,8,8,8,8,8,8,8,8,8,8,8,8,8,8,8,8,8,8,8,8,8,8,8,8,8,8,8,8,8,8,8,8,8,8,8,8,8,8,8,8,8,8,8,8,8,8,8,8,8,8,8,8,8,8,8,8,8,8,8,8,8,8,8,8,8,8,8,8,8,8,8,8,8,8,8,8,8,8,8,8,8,8,8,8,8,8,8,8,8,8,8,8,8,8,8,8,8,8,8,8,8,8,8,8,8,8,8,8,8,8,8,8,8,8,8,8,8,8,8,8,8,8]⟩)) underlying9 O O q)<|go ?_;cases hm;exact ⟨O,O,a.below⟩
  refine go ?_;refine Zm hm (fun hb hm=>go ?_) fun hb hm=>?_
  ·refine lV (.int .u32 (X9 .u32 b 8)) (T4 b 8 O O (by decide))<|go ?_;exact ⟨O,_,_,_,hm,a,O⟩
  refine Z1 ?_;exact ⟨O,_,_,_,hm,a,O⟩
 refine go ?_;refine Zm hm (fun hb hm=>go ?_) fun hb hm=>?_
 ·refine lV (.int .u32 (X9 .u32 c 16)) (T4 c 16 O O (by decide))<|go ?_;exact ⟨O,_,_,16,hm,a,O⟩
 refine Z1 ?_;exact ⟨O,_,_,0,hm,a,O⟩
def Zgx (a:Int):Option Int:=
  (Zd9 a).bind fun b=>some (i64.wrap (32 - b))
theorem Zxo {col:Zd} {w0:World} {c r:Int} (hm:Zgx c=some r):
    Calls prog 165 #[.int .u32 c] w0 (fun e w'=>e= .returned ((.int .i64 r))∧Below w0.heap.size w0 w'):=by
 refine Z5 2 (m:=6) func165 O O O O O ?_;rw [Zgx.eq_1] at hm;have a:=St.start col w0;refine go ?_;obtain ⟨g,d,hm⟩:=bZ hm;refine Zh (Zps (col:=(Zi col)) d) ?_;rintro _ f ⟨rfl,b⟩;refine ⟨_,O,?_⟩;replace b:Zg (Zi col) w0 (Zi col) f:=.of_below b;refine go ?_;cases hm;replace a:=a.grow b;exact ⟨O,O,a.below⟩
def Za1 (b:Int):List Int→Nat→(List Int)→Option (List Int)
  | [],a,c=>some c
  | d :: f,a,c=>(Zq c (a:Int)).bind fun g=>Zr (0≤b) ((some (c.set (Int.toNat (a:Int)) (Ys .u32 g (Xu .u32 d b)))).bind fun e=>Zr (0≤b) ((Zq e (i64.wrap ((a:Int)+1))).bind fun j=>(some (e.set (Int.toNat (i64.wrap ((a:Int)+1))) (u32.wrap (X9 .u64 (Xu .u64 (u64.wrap d) b) 32)))).bind fun i=>(Za1 b f) (a+1) i))
termination_by structural x=>x
def Zep (a:List Int) (b:Int):Option (List Int):=
  Zr ((Int.toNat (i64.wrap ((a.length:Int)+1))) * 4≤281474976710656∧(Int.toNat (i64.wrap ((a.length:Int)+1)))≤maxLen∧0≤(i64.wrap ((a.length:Int)+1))) (Za1 b a 0 (List.replicate (Int.toNat (i64.wrap ((a.length:Int)+1))) (0:Int)))
theorem Zpx {H:Nat} {a0:Option Addr} {col:Zd} {w0:World} {i:(List Int)} {a:Int} {r:(List Int)} (c1:Nat) (hm:Zep i a=some r) (h0:Sl (Za.int .u32) col w0 a0 H i):
    Calls prog 166 #[.slice a0 i.length H,.int .i64 a] w0 (fun e w'=>∃ (col':Zd) (ra1:Option Addr) (rc2:Nat),e= .returned ((.slice ra1 r.length rc2))∧Zg col w0 col' w'∧Zc (Za.int .u32) 200 c1 col' w' ra1 rc2 r):=by
 refine Z5 4 (m:=40) func166 rfl rfl rfl rfl rfl ?_;rw [Zep.eq_1] at hm;have b:=St.start col w0;refine go ?_;obtain ⟨y,hm⟩:=Zt hm;refine Zal (col:=(Zi col)) (w:=w0) (r:=(Za.int .u32)) (n:=(Int.toNat (i64.wrap ((i.length:Int)+1)))) (x0:=0) 1 rfl underlying120 Tryz.t200 rfl rfl rfl rfl rfl (congrArg (Value.int _) (Int.toNat_of_nonneg y.2.2).symm) (congrArg (Value.int _) (Int.toNat_of_nonneg y.2.2).symm) y.1 y.2.1 (Vf .u32 0) ?_;intro V W X J K;refine go ?_;replace b:=b.grow J;refine Z6 [1,12,13,1000000] (fun n f D=>∃ j k o p s t,n=t.length∧i.drop k=t∧Za1 a t k s=some r∧St w0 (Zi col) j D∧Zc (Za.int .u32) 200 1 j D o p s∧[14,5].map f=[.int .i64 k,.slice o s.length p]) i.length ⟨_,0,_,_,_,_,rfl,rfl,hm,b,K,rfl⟩ ?_;clear hm;intro n f D L;obtain ⟨j,k,o,p,s,t,hn,hl,hm,b,q,hs⟩:=L;subst hn;refine .lL [14,5] hs ?_;replace h0:=h0.keep (Zl.start col w0)
 cases t with
 | nil=>
  have hk:¬ ((k:Int)<(i.length:Int)):=by have:=List.drop_eq_nil_iff.1 hl;omega
  have hkb:=decide_eq_false hk;rw [Za1.eq_1] at hm;refine go ?_;refine Yh (congrArg Value.bool hkb)<|go ?_;cases hm;exact ⟨rfl,_,_,_,rfl,b.fin (cm [(1,c1)]),b.fo q⟩
 | cons c M=>
  obtain ⟨E,N,O⟩:=Yu hl;have hk:(k:Int)<(i.length:Int):=by omega
  have hkb:=decide_eq_true hk;rw [Za1.eq_2] at hm;refine go ?_;refine X8 (congrArg Value.bool hkb)<|go ?_;refine lI E ((h0.ks b).addr E)<|lW ((h0.ks b).atInt E) ?_;refine go ?_;refine Vl (col:=j) [(0,1),(1,1),(2,1),(3,0),(4,1),(5,1),(6,1),(7,1),(8,1),(9,2)] (by kernel_rfl) (by kernel_rfl)<|xu rfl rfl (fun _=>Zbb rfl) ?_;refine xu rfl rfl (fun _=>Ve rfl) ?_;obtain ⟨A,l,hm⟩:=bZ hm;refine xu rfl rfl (fun _=>V1 underlying120 sizeOf200 rfl rfl (Yb l).1 (Yb l).2.1 (q.addr l)) ?_;refine xW (fun _ g=>(q.gr (g.bl j)).atInt l) ?_;refine xu rfl rfl (fun _=>Ve rfl) ?_;refine xu rfl rfl (fun _=>Ve rfl) ?_;obtain ⟨P,hm⟩:=Zt hm;refine xu (v:=(.int .u32 (Xu .u32 c a))) rfl rfl (fun _=>Zcw c a rfl rfl P) ?_;refine xu (v:=(.int .u32 (Ys .u32 A (Xu .u32 c a)))) rfl rfl (fun _=>Zos A (Xu .u32 c a) rfl rfl) ?_;refine xu rfl rfl (fun _=>V1 underlying120 sizeOf200 rfl rfl (Yb l).1 (Yb l).2.1 (q.addr l)) ?_;refine xe rfl rfl ?_;intro Y hC0;have g:=hC0.bl j;obtain ⟨u,B,hm⟩:=bZ hm;have B:u=s.set (Int.toNat (k:Int)) (Ys .u32 A (Xu .u32 c a)):=(Option.some.inj B).symm;replace q:=q.gr g;refine Wj (x1:=Ys .u32 A (Xu .u32 c a)) q l ?_;intro Z Q R x;rw [← B] at x;refine .ld (d:=5) (v:=(.slice o u.length p)) (congrArg (fun n=>Value.slice o n p) (show s.length=u.length by rw [B,List.length_set])) ?_;refine Zj<|xk j<|W6 ?_;replace b:=(b.grow g).kp Q R;intro aa g;replace g:=g.bl j;refine go ?_;obtain ⟨S,hm⟩:=Zt hm;refine lV (.int .u64 (Xu .u64 (u64.wrap c) a)) (Zcw (u64.wrap c) a rfl rfl S)<|lV (.int .u64 (X9 .u64 (Xu .u64 (u64.wrap c) a) 32)) (T4 (Xu .u64 (u64.wrap c) a) 32 rfl rfl (by decide))<|go ?_;obtain ⟨ab,F,hm⟩:=bZ hm;replace x:=x.gr g;refine lI F (x.addr F) ?_;obtain ⟨G,C,hm⟩:=bZ hm;have C:G=u.set (Int.toNat (i64.wrap ((k:Int)+1))) (u32.wrap (X9 .u64 (Xu .u64 (u64.wrap c) a) 32)):=(Option.some.inj C).symm;refine Wj (x1:=u32.wrap (X9 .u64 (Xu .u64 (u64.wrap c) a) 32)) x F ?_;intro ac T U I;rw [← C] at I;refine .ld (d:=5) (v:=(.slice o G.length p)) (congrArg (fun n=>Value.slice o n p) (show u.length=G.length by rw [C,List.length_set])) ?_;refine go ?_;replace b:=(b.grow g).kp T U
  exact ⟨M.length,by simp,rfl,⟨_,_,_,_,_,_,rfl,N,hm,b,I,(Y0 (congrArg (Value.int .i64) (Yw (Nat.lt_of_lt_of_le O (h0.ks b).1.1))) rfl)⟩⟩
def Zg8 (a:List Int) (kk_L1:(List Int→Option (List Int))) (b:Bool):Option (List Int):=
  if b=true then (Zr ((0:Int)≤(i64.wrap ((a.length:Int) - 1))∧(i64.wrap ((a.length:Int) - 1))≤(a.length:Int)) (kk_L1 (a.take (Int.toNat (i64.wrap ((a.length:Int) - 1)))))) else (some a)
def Qt (N:Nat):Nat→(List Int)→Option (List Int)
  | 0,_=>none
  | b+1,a=>if (decide (0<(a.length:Int)))=true then ((Zq a (i64.wrap ((a.length:Int) - 1))).bind fun c=>Zg8 a (Qt N b) (decide (c=0))) else (Zg8 a (Qt N b) false)
termination_by structural x=>x
def Zca (N:Nat) (a:List Int):Option (List Int):=
  Qt N N a
theorem Zpy {N y:Nat} {a0:Option Addr} {col:Zd} {w0:World} {k r:(List Int)} (qc0:Nat) (hm:Zca N k=some r) (hd:Yk [qc0]=true) (h0:Zc (Za.int .u32) 200 qc0 col w0 a0 y k):
    Calls prog 141 #[.slice a0 k.length y] w0 (fun e w'=>∃ (col':Zd) (ra1:Option Addr) (rc2:Nat),e= .returned ((.slice ra1 r.length rc2))∧Zs (pS [qc0]) col w0 col' w'∧Zc (Za.int .u32) 200 qc0 col' w' ra1 rc2 r):=by
 refine Z5 2 (m:=21) func141 O O O O O ?_;rw [Zca.eq_1] at hm;have b:=St.startL (l:=[qc0]) O col w0;replace h0:=h0.startL (Yd hd 0 O) (Yc hd 0 O);refine go ?_;refine Z6 [1000000] (fun n f o=>∃ p g i a j,j=n∧Qt N j a=some r∧St w0 (Zy [qc0] col) p o∧Zc (Za.int .u32) 200 440 p o g i a∧[0].map f=[.slice g a.length i]) N ⟨_,_,_,_,_,O,hm,b,h0,O⟩ ?_;clear hm;intro n f o A;obtain ⟨p,g,i,a,j,hn,hm,b,c,hs⟩:=A;subst hn;refine .lL [0] hs ?_
 cases j with
 | zero=>rw [Qt.eq_1] at hm;cases hm
 | succ j=>
  rw [Qt.eq_2] at hm;refine Zo<|Zo ?_;refine Wp.cutK [0,1000000] (fun f q=>∃ s t,Zg8 a (Qt N j) t=some r∧St w0 (Zy [qc0] col) s q∧Zc (Za.int .u32) 200 440 s q g i a∧[14].map f=[.bool t]) ?_ ?_
  ·intro f q B;obtain ⟨s,t,hm,b,c,hs⟩:=B;rw [Zg8.eq_1] at hm;refine .lL [14] hs ?_;refine Zm hm (fun hb hm=>go ?_) fun hb hm=>go ?_
   ·obtain ⟨u,hm⟩:=Zt hm;refine lv (v:=.slice g (Int.toNat (i64.wrap ((a.length:Int) - 1))) i) O O (Zbc underlying120 sizeOf200 O O u.1 (by have:=c.lecap;have:=u.2;omega))<|.ld (d:=19) (v:=(.slice g ((a.take (Int.toNat (i64.wrap ((a.length:Int) - 1)))).length) i)) (congrArg (fun n=>Value.slice g n i) (List.length_take_of_le (show (Int.toNat (i64.wrap ((a.length:Int) - 1)))≤a.length by have:=u.2;omega)).symm) ?_;refine go ?_;exact ⟨j,by omega,O,⟨_,_,_,_,_,O,hm,b,(c.take (Int.toNat (i64.wrap ((a.length:Int) - 1)))),O⟩⟩
   cases hm;exact ⟨O,_,_,_,O,b.finL O (cm [(440,qc0)]),b.foL c⟩
  refine go ?_;refine Z7 hm (fun w hm=>go ?_) fun w hm=>go ?_
  ·obtain ⟨C,x,hm⟩:=bZ hm;refine lI x (c.addr x) ?_;refine go ?_;refine lW (c.atInt x)<|go ?_;refine lV (.bool (decide (C=0))) (Zx (congrArg Value.bool w) O)<|Zj ?_;exact ⟨O,_,_,hm,b,c,O⟩
  refine lV (.bool false) (Z0 (congrArg Value.bool w) O)<|Zj ?_;exact ⟨O,_,_,hm,b,c,O⟩
def Zg4 (a:Int) (b:List Int):Option (Int×List Int):=
  some (u32.wrap a,b)
def Za0 (j0:Nat) (n0:Nat) (b:List Int) (e:Int):List Int→Nat→(List Int)→Int→Option (Int×List Int)
  | [],a,c,d=>Zr (0≤(b.length:Int)∧(b.length:Int)<(n0:Int)) ((Zq c ((j0:Int)+(b.length:Int))).bind fun i=>Zr (0≤(b.length:Int)∧(b.length:Int)<(n0:Int)) ((Zq c ((j0:Int)+(b.length:Int))).bind fun m=>(some (c.set (Int.toNat ((j0:Int)+(b.length:Int))) (u32.wrap (i+(u32.wrap d))))).bind fun j=>Zg4 (u64.wrap ((u64.wrap (e - 1)) - 1)) j))
  | f :: k,a,c,d=>Zr (0≤(a:Int)∧(a:Int)<(n0:Int)) ((Zq c ((j0:Int)+(a:Int))).bind fun g=>Zr (0≤(a:Int)∧(a:Int)<(n0:Int)) ((Zq c ((j0:Int)+(a:Int))).bind fun n=>(some (c.set (Int.toNat ((j0:Int)+(a:Int))) (u32.wrap (u64.wrap (d+(u64.wrap ((u64.wrap g)+(u64.wrap f)))))))).bind fun l=>(Za0 j0 n0 b e k) (a+1) l (X9 .u64 (u64.wrap (d+(u64.wrap ((u64.wrap g)+(u64.wrap f))))) 32)))
termination_by structural x=>x
def Zj1 (a:Nat) (kk_L2:(Nat→(List Int)→Int→Int→Option (Int×List Int))) (b:List Int) (c:Int) (d:Int):Option (Int×List Int):=
  kk_L2 (a+1) b c d
def Zg5 (j0:Nat) (n0:Nat) (c:Int) (b:List Int) (f:Int) (a:Nat) (d:Int) (kk_L2:(Nat→(List Int)→Int→Int→Option (Int×List Int))) (e:Int) (g:Int):Option (Int×List Int):=
  Zr (0≤(a:Int)∧(a:Int)<(n0:Int)) ((Zq b ((j0:Int)+(a:Int))).bind fun i=>Zr (0≤(a:Int)∧(a:Int)<(n0:Int)) ((Zq b ((j0:Int)+(a:Int))).bind fun k=>(some (b.set (Int.toNat ((j0:Int)+(a:Int))) (u32.wrap (i - (u32.wrap (u64.wrap ((Uw .u64 (u64.wrap (d+(u64.wrap ((u64.wrap (c - 1)) * (u64.wrap e))))) 4294967295)+f))))))).bind fun j=>Zj1 a kk_L2 j g (X9 .u64 (u64.wrap (d+(u64.wrap ((u64.wrap (c - 1)) * (u64.wrap e))))) 32)))
def Sa (j0:Nat) (n0:Nat) (a:List Int) (c:Int):List Int→Nat→(List Int)→Int→Int→Option (Int×List Int)
  | [],d,b,e,f=>Zr (0≤(a.length:Int)∧(a.length:Int)<(n0:Int)) ((Zq b ((j0:Int)+(a.length:Int))).bind fun k=>Zr (0≤(a.length:Int)∧(a.length:Int)<(n0:Int)) ((Zq b ((j0:Int)+(a.length:Int))).bind fun l=>Zr (0≤(a.length:Int)∧(a.length:Int)<(n0:Int)) ((Zq b ((j0:Int)+(a.length:Int))).bind fun n=>(some (b.set (Int.toNat ((j0:Int)+(a.length:Int))) (u32.wrap (l - (u32.wrap (u64.wrap (f+e))))))).bind fun i=>if (decide ((u64.wrap k)<(u64.wrap (f+e))))=true then (Za0 j0 n0 a c a 0 i 0) else (Zg4 (u64.wrap (c - 1)) i))))
  | g :: j,d,b,e,f=>Zr (0≤(d:Int)∧(d:Int)<(n0:Int)) ((Zq b ((j0:Int)+(d:Int))).bind fun m=>if (decide ((u64.wrap m)<(u64.wrap ((Uw .u64 (u64.wrap (f+(u64.wrap ((u64.wrap (c - 1)) * (u64.wrap g))))) 4294967295)+e))))=true then (Zg5 j0 n0 c b e d f (Sa j0 n0 a c j) g 1) else (Zg5 j0 n0 c b e d f (Sa j0 n0 a c j) g 0))
termination_by structural x=>x
def Zg3 (j0:Nat) (n0:Nat) (e:List Int) (a:List Int) (b:Int) (c:Int) (kk_L1:(Int→Int→Option (Int×List Int))):Option (Int×List Int):=
  (Zq a (i64.wrap ((a.length:Int) - 1))).bind fun d=>if (decide (4294967295<(u64.wrap (c+(u64.wrap d)))))=true then (Sa j0 n0 a b a 0 e 0 0) else (kk_L1 (u64.wrap (b - 1)) (u64.wrap (c+(u64.wrap d))))
def Qr (a:Int) (b:List Int):Option (Int×List Int):=
  some (u32.wrap a,b)
def Ta (j0:Nat) (n0:Nat) (b:List Int) (e:Int):List Int→Nat→(List Int)→Int→Option (Int×List Int)
  | [],a,c,d=>Zr (0≤(b.length:Int)∧(b.length:Int)<(n0:Int)) ((Zq c ((j0:Int)+(b.length:Int))).bind fun i=>Zr (0≤(b.length:Int)∧(b.length:Int)<(n0:Int)) ((Zq c ((j0:Int)+(b.length:Int))).bind fun m=>(some (c.set (Int.toNat ((j0:Int)+(b.length:Int))) (u32.wrap (i+(u32.wrap d))))).bind fun j=>Qr (u64.wrap (e - 1)) j))
  | f :: k,a,c,d=>Zr (0≤(a:Int)∧(a:Int)<(n0:Int)) ((Zq c ((j0:Int)+(a:Int))).bind fun g=>Zr (0≤(a:Int)∧(a:Int)<(n0:Int)) ((Zq c ((j0:Int)+(a:Int))).bind fun n=>(some (c.set (Int.toNat ((j0:Int)+(a:Int))) (u32.wrap (u64.wrap (d+(u64.wrap ((u64.wrap g)+(u64.wrap f)))))))).bind fun l=>(Ta j0 n0 b e k) (a+1) l (X9 .u64 (u64.wrap (d+(u64.wrap ((u64.wrap g)+(u64.wrap f))))) 32)))
termination_by structural x=>x
def Zg6 (a:Nat) (kk_L4:(Nat→(List Int)→Int→Int→Option (Int×List Int))) (b:List Int) (c:Int) (d:Int):Option (Int×List Int):=
  kk_L4 (a+1) b c d
def Zb8 (j0:Nat) (n0:Nat) (c:Int) (b:List Int) (f:Int) (a:Nat) (d:Int) (kk_L4:(Nat→(List Int)→Int→Int→Option (Int×List Int))) (e:Int) (g:Int):Option (Int×List Int):=
  Zr (0≤(a:Int)∧(a:Int)<(n0:Int)) ((Zq b ((j0:Int)+(a:Int))).bind fun i=>Zr (0≤(a:Int)∧(a:Int)<(n0:Int)) ((Zq b ((j0:Int)+(a:Int))).bind fun k=>(some (b.set (Int.toNat ((j0:Int)+(a:Int))) (u32.wrap (i - (u32.wrap (u64.wrap ((Uw .u64 (u64.wrap (d+(u64.wrap (c * (u64.wrap e))))) 4294967295)+f))))))).bind fun j=>Zg6 a kk_L4 j g (X9 .u64 (u64.wrap (d+(u64.wrap (c * (u64.wrap e))))) 32)))
def Vz (j0:Nat) (n0:Nat) (a:List Int) (c:Int):List Int→Nat→(List Int)→Int→Int→Option (Int×List Int)
  | [],d,b,e,f=>Zr (0≤(a.length:Int)∧(a.length:Int)<(n0:Int)) ((Zq b ((j0:Int)+(a.length:Int))).bind fun k=>Zr (0≤(a.length:Int)∧(a.length:Int)<(n0:Int)) ((Zq b ((j0:Int)+(a.length:Int))).bind fun l=>Zr (0≤(a.length:Int)∧(a.length:Int)<(n0:Int)) ((Zq b ((j0:Int)+(a.length:Int))).bind fun n=>(some (b.set (Int.toNat ((j0:Int)+(a.length:Int))) (u32.wrap (l - (u32.wrap (u64.wrap (f+e))))))).bind fun i=>if (decide ((u64.wrap k)<(u64.wrap (f+e))))=true then (Ta j0 n0 a c a 0 i 0) else (Qr c i))))
  | g :: j,d,b,e,f=>Zr (0≤(d:Int)∧(d:Int)<(n0:Int)) ((Zq b ((j0:Int)+(d:Int))).bind fun m=>if (decide ((u64.wrap m)<(u64.wrap ((Uw .u64 (u64.wrap (f+(u64.wrap (c * (u64.wrap g))))) 4294967295)+e))))=true then (Zb8 j0 n0 c b e d f (Vz j0 n0 a c j) g 1) else (Zb8 j0 n0 c b e d f (Vz j0 n0 a c j) g 0))
termination_by structural x=>x
def Zb7 (j0:Nat) (n0:Nat) (b:List Int) (a:List Int) (c:Int) (d:Int) (kk_L1:(Int→Int→Option (Int×List Int))) (e:Bool):Option (Int×List Int):=
  if e=true then (Zg3 j0 n0 b a c d kk_L1) else (Vz j0 n0 a c a 0 b 0 0)
def Ts (N:Nat) (j0:Nat) (n0:Nat) (b:List Int) (a:List Int):Nat→Int→Int→Option (Int×List Int)
  | 0,_,_=>none
  | e+1,c,d=>if (decide (4294967295<c))=true then (Zb7 j0 n0 b a c d (Ts N j0 n0 b a e) true) else (if (decide (d≤4294967295))=true then ((Zq a (i64.wrap ((a.length:Int) - 2))).bind fun f=>Zr (0≤(i64.wrap ((a.length:Int) - 2))∧(i64.wrap ((a.length:Int) - 2))<(n0:Int)) ((Zq b ((j0:Int)+(i64.wrap ((a.length:Int) - 2)))).bind fun g=>Zb7 j0 n0 b a c d (Ts N j0 n0 b a e) (decide ((Ys .u64 (Xu .u64 d 32) (u64.wrap g))<(u64.wrap (c * (u64.wrap f))))))) else (Zb7 j0 n0 b a c d (Ts N j0 n0 b a e) false))
termination_by structural x=>x
def Zeo (N:Nat) (j0:Nat) (n0:Nat) (c:List Int) (a:List Int):Option (Int×List Int):=
  Zr (0≤(a.length:Int)∧(a.length:Int)<(n0:Int)) ((Zq c ((j0:Int)+(a.length:Int))).bind fun d=>Zr (0≤(i64.wrap ((a.length:Int) - 1))∧(i64.wrap ((a.length:Int) - 1))<(n0:Int)) ((Zq c ((j0:Int)+(i64.wrap ((a.length:Int) - 1)))).bind fun e=>(Zq a (i64.wrap ((a.length:Int) - 1))).bind fun b=>Zr ((u64.wrap b)≠0) (Zr ((u64.wrap b)≠0) (Ts N j0 n0 c a N (u64.wrap (Int.tdiv (Ys .u64 (Xu .u64 (u64.wrap d) 32) (u64.wrap e)) (u64.wrap b))) (Int.tmod (Ys .u64 (Xu .u64 (u64.wrap d) 32) (u64.wrap e)) (u64.wrap b))))))
theorem Zxz {N i j0 n0 cp0 ca:Nat} {a0 a1:Option Addr} {col:Zd} {w0:World} {d b:(List Int)} {r:(Int×List Int)} (qc0:Nat) (hm:Zeo N j0 n0 d b=some r) (hd:Yk [qc0]=true) (h0:Zc (Za.int .u32) 200 qc0 col w0 a0 i d) (h1:Sl (Za.int .u32) col w0 a1 ca b):
    Calls prog 167 #[.slice (a0.map (·.add (j0 * 1))) n0 cp0,.slice a1 b.length ca] w0 (fun e w'=>∃ (col':Zd),e= .returned ((.int .u32 r.1))∧Zs (pS [qc0]) col w0 col' w'∧Zc (Za.int .u32) 200 qc0 col' w' a0 i r.2∧r.2.length=d.length):=by
 refine Z5 4 (m:=178) func167 rfl rfl rfl rfl rfl ?_;rw [Zeo.eq_1] at hm;have a:=St.startL (l:=[qc0]) rfl col w0;replace h0:=h0.startL (Yd hd 0 rfl) (Yc hd 0 rfl);refine go ?_;refine Vs (col:=(Zy [qc0] col)) (by kernel_rfl) (by kernel_rfl)<|go ?_;obtain ⟨cb,hm⟩:=Zt hm;obtain ⟨Q,cc,hm⟩:=bZ hm;refine qv (v:=(X5 a0 (Int.toNat ((j0:Int)+(b.length:Int)) * 1))) rfl (fun _ c=>W3 underlying120 sizeOf200 rfl rfl cb.1 cb.2 (h0.addr cc)) ?_;refine qW (fun _ c=>(h0.gr (c.bl (Zy [qc0] col))).atInt cc) ?_;refine go ?_;refine qv (v:=(.int .u64 (Xu .u64 (u64.wrap Q) 32))) rfl (fun _ c=>Zcw (u64.wrap Q) 32 rfl rfl (by decide)) ?_;refine go ?_;obtain ⟨cd,hm⟩:=Zt hm;obtain ⟨Y,ce,hm⟩:=bZ hm;refine qv (v:=(X5 a0 (Int.toNat ((j0:Int)+(i64.wrap ((b.length:Int) - 1))) * 1))) rfl (fun _ c=>W3 underlying120 sizeOf200 rfl rfl cd.1 cd.2 (h0.addr ce)) ?_;refine qW (fun _ c=>(h0.gr (c.bl (Zy [qc0] col))).atInt ce) ?_;refine go ?_;refine Y3 ?_;intro fi c;replace h1:=h1.keep (Zl.startL [qc0] col w0);replace c:=c.bl (Zy [qc0] col);refine go ?_;obtain ⟨Z,R,hm⟩:=bZ hm;replace a:=a.grow c;refine lI R ((h1.ks a).addr R)<|lW ((h1.ks a).atInt R) ?_;refine go ?_;obtain ⟨d8,hm⟩:=Zt hm;refine lV (.int .u64 (u64.wrap (Int.tdiv (Ys .u64 (Xu .u64 (u64.wrap Q) 32) (u64.wrap Y)) (u64.wrap Z)))) (Uq (Ys .u64 (Xu .u64 (u64.wrap Q) 32) (u64.wrap Y)) (u64.wrap Z) rfl rfl d8)<|go ?_;refine lI R ((h1.ks a).addr R)<|lW ((h1.ks a).atInt R) ?_;refine go ?_;obtain ⟨d9,hm⟩:=Zt hm;refine lV (.int .u64 (Int.tmod (Ys .u64 (Xu .u64 (u64.wrap Q) 32) (u64.wrap Y)) (u64.wrap Z))) (T3 (Ys .u64 (Xu .u64 (u64.wrap Q) 32) (u64.wrap Y)) (u64.wrap Z) rfl rfl d9)<|go ?_;replace h0:=h0.gr c;refine Z6 [0,1,5,1000000] (fun n f ap=>∃ y g A K,K=n∧Ts N j0 n0 d b K g A=some r∧St w0 (Zy [qc0] col) y ap∧Zc (Za.int .u32) 200 440 y ap a0 i d∧[7,8].map f=[.int .u64 g,.int .u64 A]) N ⟨_,_,_,_,rfl,hm,a,h0,rfl⟩ ?_;clear hm;intro n f ap B;obtain ⟨y,g,A,K,hn,hm,a,h0,hs⟩:=B;subst hn;refine .lL [7,8] hs ?_
 cases K with
 | zero=>rw [Ts.eq_1] at hm;cases hm
 | succ K=>
  rw [Ts.eq_2] at hm;refine Zo ?_;refine Wp.cutK [0,1,5,7,8,1000000] (fun f aq=>∃ ar,Zg3 j0 n0 d b g A (Ts N j0 n0 d b K)=some r∧St w0 (Zy [qc0] col) ar aq∧Zc (Za.int .u32) 200 440 ar aq a0 i d) ?_ ?_
  ·intro f aq j;obtain ⟨ar,hm,a,h0⟩:=j;rw [Zg3.eq_1] at hm;refine go ?_;obtain ⟨fj,au,hm⟩:=bZ hm;refine lI au ((h1.ks a).addr au)<|lW ((h1.ks a).atInt au) ?_;refine go ?_;refine Zm hm (fun hb hm=>?_) fun hb hm=>?_
   ·refine Q9 (Zf8 rfl (Zak ?_));refine go ?_;refine Z6 [0,1,5,7,87,88,1000000] (fun n f av=>∃ aw w L q s S,n=S.length∧b.drop q=S∧Sa j0 n0 b g S q w L s=some r∧St w0 (Zy [qc0] col) aw av∧Zc (Za.int .u32) 200 440 aw av a0 i w∧w.length=d.length∧w.length=d.length∧[89,10,9].map f=[.int .i64 q,.int .u64 L,.int .u64 s]) b.length ⟨_,_,0,0,0,_,rfl,rfl,hm,a,h0,rfl,rfl,rfl⟩ ?_;clear hm;intro n f av B;obtain ⟨aw,w,L,q,s,S,hn,hl,hm,a,k,cf,fk,hs⟩:=B;subst hn;refine .lL [89,10,9] hs ?_
    cases S with
    | nil=>
     have hk:¬ ((q:Int)<(b.length:Int)):=by have:=List.drop_eq_nil_iff.1 hl;omega
     have hkb:=decide_eq_false hk;rw [Sa.eq_1] at hm;refine go ?_;refine Yh (congrArg Value.bool hkb)<|go ?_;obtain ⟨cg,hm⟩:=Zt hm;obtain ⟨fl,ch,hm⟩:=bZ hm;refine lV (X5 a0 (Int.toNat ((j0:Int)+(b.length:Int)) * 1)) (W3 underlying120 sizeOf200 rfl rfl cg.1 cg.2 (k.addr ch))<|lW (k.atInt ch)<|go ?_;obtain ⟨ci,hm⟩:=Zt hm;obtain ⟨cj,ck,hm⟩:=bZ hm;refine lV (X5 a0 (Int.toNat ((j0:Int)+(b.length:Int)) * 1)) (W3 underlying120 sizeOf200 rfl rfl ci.1 ci.2 (k.addr ck))<|lW (k.atInt ck)<|go ?_;obtain ⟨cl,hm⟩:=Zt hm;obtain ⟨fm,cn,hm⟩:=bZ hm;refine lV (X5 a0 (Int.toNat ((j0:Int)+(b.length:Int)) * 1)) (W3 underlying120 sizeOf200 rfl rfl cl.1 cl.2 (k.addr cn)) ?_;obtain ⟨ax,aa,hm⟩:=bZ hm;have aa:ax=w.set (Int.toNat ((j0:Int)+(b.length:Int))) (u32.wrap (cj - (u32.wrap (u64.wrap (s+L))))):=(Option.some.inj aa).symm;refine Wj (x1:=u32.wrap (cj - (u32.wrap (u64.wrap (s+L))))) k cn ?_;intro fn ea eb ay;rw [← aa] at ay;have az:ax.length=d.length:=(show w.length=ax.length by rw [aa,List.length_set]).symm.trans cf;refine Zj<|Zo ?_;replace a:=a.kp ea eb;refine Wp.cutK [1000000] (fun f a2=>∃ a3 a4 ab,Zg4 a4 ab=some r∧St w0 (Zy [qc0] col) a3 a2∧Zc (Za.int .u32) 200 440 a3 a2 a0 i ab∧ab.length=d.length∧[7].map f=[.int .u64 a4]) ?_ ?_
     ·intro f a2 j;obtain ⟨a3,a4,ab,hm,a,ec,ed,hs⟩:=j;rw [Zg4.eq_1] at hm;refine .lL [7] hs<|go ?_;cases hm;exact ⟨rfl,_,rfl,a.finL rfl (cm [(440,qc0)]),a.foL ec,ed⟩
     refine go ?_;refine Zm hm (fun hb hm=>go ?_) fun hb hm=>?_
     ·refine Z6 [0,143,144,5,7,1000000] (fun n f a5=>∃ a6 C D E T,n=T.length∧b.drop D=T∧Za0 j0 n0 b g T D C E=some r∧St w0 (Zy [qc0] col) a6 a5∧Zc (Za.int .u32) 200 440 a6 a5 a0 i C∧C.length=d.length∧C.length=d.length∧[145,9].map f=[.int .i64 D,.int .u64 E]) b.length ⟨_,_,0,0,_,rfl,rfl,hm,a,ay,az,az,rfl⟩ ?_;clear hm;intro n f a5 B;obtain ⟨a6,C,D,E,T,hn,hl,hm,a,M,ee,ef,hs⟩:=B;subst hn;refine .lL [145,9] hs ?_
      cases T with
      | nil=>
       have hk:¬ ((D:Int)<(b.length:Int)):=by have:=List.drop_eq_nil_iff.1 hl;omega
       have hkb:=decide_eq_false hk;rw [Za0.eq_1] at hm;refine go ?_;refine Yh (congrArg Value.bool hkb)<|go ?_;obtain ⟨co,hm⟩:=Zt hm;obtain ⟨cp,cq,hm⟩:=bZ hm;refine lV (X5 a0 (Int.toNat ((j0:Int)+(b.length:Int)) * 1)) (W3 underlying120 sizeOf200 rfl rfl co.1 co.2 (M.addr cq))<|lW (M.atInt cq)<|go ?_;obtain ⟨cr,hm⟩:=Zt hm;obtain ⟨fp,cs,hm⟩:=bZ hm;refine lV (X5 a0 (Int.toNat ((j0:Int)+(b.length:Int)) * 1)) (W3 underlying120 sizeOf200 rfl rfl cr.1 cr.2 (M.addr cs)) ?_;obtain ⟨a7,ac,hm⟩:=bZ hm;have ac:a7=C.set (Int.toNat ((j0:Int)+(b.length:Int))) (u32.wrap (cp+(u32.wrap E))):=(Option.some.inj ac).symm;refine Wj (x1:=u32.wrap (cp+(u32.wrap E))) M cs ?_;intro fq eg eh ct;rw [← ac] at ct;have ei:a7.length=d.length:=(show C.length=a7.length by rw [ac,List.length_set]).symm.trans ef;refine Zj ?_;replace a:=a.kp eg eh;exact ⟨rfl,_,_,_,hm,a,ct,ei,rfl⟩
      | cons ad ej=>
       obtain ⟨o,ek,el⟩:=Yu hl;have hk:(D:Int)<(b.length:Int):=by omega
       have hkb:=decide_eq_true hk;rw [Za0.eq_2] at hm;refine go ?_;refine X8 (congrArg Value.bool hkb)<|go ?_;refine lI o ((h1.ks a).addr o)<|lW ((h1.ks a).atInt o) ?_;refine go ?_;obtain ⟨cu,hm⟩:=Zt hm;obtain ⟨ae,cv,hm⟩:=bZ hm;refine lV (X5 a0 (Int.toNat ((j0:Int)+(D:Int)) * 1)) (W3 underlying120 sizeOf200 rfl rfl cu.1 cu.2 (M.addr cv))<|lW (M.atInt cv)<|go ?_;obtain ⟨cw,hm⟩:=Zt hm;obtain ⟨fr,cx,hm⟩:=bZ hm;refine lV (X5 a0 (Int.toNat ((j0:Int)+(D:Int)) * 1)) (W3 underlying120 sizeOf200 rfl rfl cw.1 cw.2 (M.addr cx)) ?_;obtain ⟨a8,af,hm⟩:=bZ hm;have af:a8=C.set (Int.toNat ((j0:Int)+(D:Int))) (u32.wrap (u64.wrap (E+(u64.wrap ((u64.wrap ae)+(u64.wrap ad)))))):=(Option.some.inj af).symm;refine Wj (x1:=u32.wrap (u64.wrap (E+(u64.wrap ((u64.wrap ae)+(u64.wrap ad)))))) M cx ?_;intro ft em en cy;rw [← af] at cy;have cz:a8.length=d.length:=(show C.length=a8.length by rw [af,List.length_set]).symm.trans ee;refine go ?_;refine lV (.int .u64 (X9 .u64 (u64.wrap (E+(u64.wrap ((u64.wrap ae)+(u64.wrap ad))))) 32)) (T4 (u64.wrap (E+(u64.wrap ((u64.wrap ae)+(u64.wrap ad))))) 32 rfl rfl (by decide))<|go ?_;replace a:=a.kp em en;exact ⟨ej.length,by simp,rfl,⟨_,_,_,_,_,rfl,ek,hm,a,cy,cz,cz,(Y0 (congrArg (Value.int .i64) (Yw (Nat.lt_of_lt_of_le el (h1.ks a).1.1))) rfl)⟩⟩
     refine Z1 ?_;exact ⟨rfl,_,_,_,hm,a,ay,az,rfl⟩
    | cons F a9=>
     obtain ⟨o,eo,ep⟩:=Yu hl;have hk:(q:Int)<(b.length:Int):=by omega
     have hkb:=decide_eq_true hk;rw [Sa.eq_2] at hm;refine go ?_;refine X8 (congrArg Value.bool hkb)<|Z1<|Zo ?_;refine Wp.cutK [0,1,5,7,87,88,89,1000000] (fun f ba=>∃ bb U bc bd,Zj1 q (Sa j0 n0 b g a9) U bc bd=some r∧St w0 (Zy [qc0] col) bb ba∧Zc (Za.int .u32) 200 440 bb ba a0 i U∧U.length=d.length∧U.length=d.length∧[10,9].map f=[.int .u64 bc,.int .u64 bd]) ?_ ?_
     ·intro f ba j;obtain ⟨bb,U,bc,bd,hm,a,eq,er,es,hs⟩:=j;rw [Zj1.eq_1] at hm;refine .lL [10,9] hs<|go ?_;exact ⟨a9.length,by simp,rfl,⟨_,_,_,_,_,_,rfl,eo,hm,a,eq,er,es,(Y0 (congrArg (Value.int .i64) (Yw (Nat.lt_of_lt_of_le ep (h1.ks a).1.1))) rfl)⟩⟩
     refine go ?_;refine lI o ((h1.ks a).addr o)<|lW ((h1.ks a).atInt o)<|Yq rfl<|Yq rfl<|Zj<|Zo<|Yo<|Y1 rfl<|Y1 rfl<|Y1 rfl<|lV (.int .u64 (u64.wrap F)) (Zid F ⟨_,underlying200⟩ underlying185 rfl)<|lV _ (Zll _ _ rfl rfl)<|lV _ (T0 _ _ rfl rfl)<|Yq rfl<|Zj<|Zo<|Yo<|Y1 rfl<|lV (.int .u64 (Uw .u64 (u64.wrap (s+(u64.wrap ((u64.wrap (g - 1)) * (u64.wrap F))))) 4294967295)) (Zli (u64.wrap (s+(u64.wrap ((u64.wrap (g - 1)) * (u64.wrap F))))) 4294967295 rfl rfl)<|Y1 rfl<|lV _ (T0 _ _ rfl rfl)<|Yq rfl<|Zj<|Zo<|Yo<|Yq rfl<|Zj<|Zo ?_;refine Wp.cutK [0,1,11,13,5,7,87,88,89,9,1000000] (fun f be=>∃ bf bg,Zg5 j0 n0 g w L q s (Sa j0 n0 b g a9) F bg=some r∧St w0 (Zy [qc0] col) bf be∧Zc (Za.int .u32) 200 440 bf be a0 i w∧[10].map f=[.int .u64 bg]) ?_ ?_
     ·intro f be j;obtain ⟨bf,bg,hm,a,k,hs⟩:=j;rw [Zg5.eq_1] at hm;refine .lL [10] hs<|go ?_;obtain ⟨c0,hm⟩:=Zt hm;obtain ⟨c1,c2,hm⟩:=bZ hm;refine lV (X5 a0 (Int.toNat ((j0:Int)+(q:Int)) * 1)) (W3 underlying120 sizeOf200 rfl rfl c0.1 c0.2 (k.addr c2))<|lW (k.atInt c2)<|go ?_;obtain ⟨c3,hm⟩:=Zt hm;obtain ⟨fu,c4,hm⟩:=bZ hm;refine lV (X5 a0 (Int.toNat ((j0:Int)+(q:Int)) * 1)) (W3 underlying120 sizeOf200 rfl rfl c3.1 c3.2 (k.addr c4)) ?_;obtain ⟨bh,ag,hm⟩:=bZ hm;have ag:bh=w.set (Int.toNat ((j0:Int)+(q:Int))) (u32.wrap (c1 - (u32.wrap (u64.wrap ((Uw .u64 (u64.wrap (s+(u64.wrap ((u64.wrap (g - 1)) * (u64.wrap F))))) 4294967295)+L))))):=(Option.some.inj ag).symm;refine Wj (x1:=u32.wrap (c1 - (u32.wrap (u64.wrap ((Uw .u64 (u64.wrap (s+(u64.wrap ((u64.wrap (g - 1)) * (u64.wrap F))))) 4294967295)+L))))) k c4 ?_;intro fv et eu c5;rw [← ag] at c5;have c6:bh.length=d.length:=(show w.length=bh.length by rw [ag,List.length_set]).symm.trans cf;refine go ?_;refine lV (.int .u64 (X9 .u64 (u64.wrap (s+(u64.wrap ((u64.wrap (g - 1)) * (u64.wrap F))))) 32)) (T4 (u64.wrap (s+(u64.wrap ((u64.wrap (g - 1)) * (u64.wrap F))))) 32 rfl rfl (by decide))<|go ?_;replace a:=a.kp et eu;exact ⟨rfl,_,_,_,_,hm,a,c5,c6,c6,rfl⟩
     refine go ?_;obtain ⟨c7,hm⟩:=Zt hm;obtain ⟨fw,c8,hm⟩:=bZ hm;refine lV (X5 a0 (Int.toNat ((j0:Int)+(q:Int)) * 1)) (W3 underlying120 sizeOf200 rfl rfl c7.1 c7.2 (k.addr c8))<|lW (k.atInt c8)<|go ?_;refine Zm hm (fun hb hm=>go ?_) fun hb hm=>?_
     ·exact ⟨rfl,_,1,hm,a,k,rfl⟩
     refine Z1 ?_;exact ⟨rfl,_,0,hm,a,k,rfl⟩
   refine Z1 ?_;exact ⟨K,by omega,rfl,⟨_,_,_,_,rfl,hm,a,h0,rfl⟩⟩
  refine Zo ?_;refine Wp.cutK [0,1,5,7,8,1000000] (fun f bi=>∃ bj bk,Zb7 j0 n0 d b g A (Ts N j0 n0 d b K) bk=some r∧St w0 (Zy [qc0] col) bj bi∧Zc (Za.int .u32) 200 440 bj bi a0 i d∧[74].map f=[.bool bk]) ?_ ?_
  ·intro f bi j;obtain ⟨bj,bk,hm,a,h0,hs⟩:=j;rw [Zb7.eq_1] at hm;refine .lL [74] hs ?_;refine Zm hm (fun hb hm=>?_) fun hb hm=>go ?_
   ·refine Z1 ?_;exact ⟨rfl,_,hm,a,h0⟩
   refine Z6 [0,1,5,7,87,88,1000000] (fun n f bm=>∃ bn x O t u V,n=V.length∧b.drop t=V∧Vz j0 n0 b g V t x O u=some r∧St w0 (Zy [qc0] col) bn bm∧Zc (Za.int .u32) 200 440 bn bm a0 i x∧x.length=d.length∧x.length=d.length∧[89,10,9].map f=[.int .i64 t,.int .u64 O,.int .u64 u]) b.length ⟨_,_,0,0,0,_,rfl,rfl,hm,a,h0,rfl,rfl,rfl⟩ ?_;clear hm;intro n f bm B;obtain ⟨bn,x,O,t,u,V,hn,hl,hm,a,p,c9,fx,hs⟩:=B;subst hn;refine .lL [89,10,9] hs ?_
   cases V with
   | nil=>
    have hk:¬ ((t:Int)<(b.length:Int)):=by have:=List.drop_eq_nil_iff.1 hl;omega
    have hkb:=decide_eq_false hk;rw [Vz.eq_1] at hm;refine go ?_;refine Yh (congrArg Value.bool hkb)<|go ?_;obtain ⟨da,hm⟩:=Zt hm;obtain ⟨fy,db,hm⟩:=bZ hm;refine lV (X5 a0 (Int.toNat ((j0:Int)+(b.length:Int)) * 1)) (W3 underlying120 sizeOf200 rfl rfl da.1 da.2 (p.addr db))<|lW (p.atInt db)<|go ?_;obtain ⟨dc,hm⟩:=Zt hm;obtain ⟨dd,de,hm⟩:=bZ hm;refine lV (X5 a0 (Int.toNat ((j0:Int)+(b.length:Int)) * 1)) (W3 underlying120 sizeOf200 rfl rfl dc.1 dc.2 (p.addr de))<|lW (p.atInt de)<|go ?_;obtain ⟨df,hm⟩:=Zt hm;obtain ⟨f0,dg,hm⟩:=bZ hm;refine lV (X5 a0 (Int.toNat ((j0:Int)+(b.length:Int)) * 1)) (W3 underlying120 sizeOf200 rfl rfl df.1 df.2 (p.addr dg)) ?_;obtain ⟨bo,ah,hm⟩:=bZ hm;have ah:bo=x.set (Int.toNat ((j0:Int)+(b.length:Int))) (u32.wrap (dd - (u32.wrap (u64.wrap (u+O))))):=(Option.some.inj ah).symm;refine Wj (x1:=u32.wrap (dd - (u32.wrap (u64.wrap (u+O))))) p dg ?_;intro f1 ew ey bp;rw [← ah] at bp;have bq:bo.length=d.length:=(show x.length=bo.length by rw [ah,List.length_set]).symm.trans c9;refine Zj<|Zo ?_;replace a:=a.kp ew ey;refine Wp.cutK [1000000] (fun f br=>∃ bs bt ai,Qr bt ai=some r∧St w0 (Zy [qc0] col) bs br∧Zc (Za.int .u32) 200 440 bs br a0 i ai∧ai.length=d.length∧[7].map f=[.int .u64 bt]) ?_ ?_
    ·intro f br j;obtain ⟨bs,bt,ai,hm,a,ez,e0,hs⟩:=j;rw [Qr.eq_1] at hm;refine .lL [7] hs<|go ?_;cases hm;exact ⟨rfl,_,rfl,a.finL rfl (cm [(440,qc0)]),a.foL ez,e0⟩
    refine go ?_;refine Zm hm (fun hb hm=>go ?_) fun hb hm=>?_
    ·refine Z6 [0,143,144,5,7,1000000] (fun n f bu=>∃ bv G H I W,n=W.length∧b.drop H=W∧Ta j0 n0 b g W H G I=some r∧St w0 (Zy [qc0] col) bv bu∧Zc (Za.int .u32) 200 440 bv bu a0 i G∧G.length=d.length∧G.length=d.length∧[145,9].map f=[.int .i64 H,.int .u64 I]) b.length ⟨_,_,0,0,_,rfl,rfl,hm,a,bp,bq,bq,rfl⟩ ?_;clear hm;intro n f bu B;obtain ⟨bv,G,H,I,W,hn,hl,hm,a,P,e1,e2,hs⟩:=B;subst hn;refine .lL [145,9] hs ?_
     cases W with
     | nil=>
      have hk:¬ ((H:Int)<(b.length:Int)):=by have:=List.drop_eq_nil_iff.1 hl;omega
      have hkb:=decide_eq_false hk;rw [Ta.eq_1] at hm;refine go ?_;refine Yh (congrArg Value.bool hkb)<|go ?_;obtain ⟨dh,hm⟩:=Zt hm;obtain ⟨di,dj,hm⟩:=bZ hm;refine lV (X5 a0 (Int.toNat ((j0:Int)+(b.length:Int)) * 1)) (W3 underlying120 sizeOf200 rfl rfl dh.1 dh.2 (P.addr dj))<|lW (P.atInt dj)<|go ?_;obtain ⟨dl,hm⟩:=Zt hm;obtain ⟨f2,dm,hm⟩:=bZ hm;refine lV (X5 a0 (Int.toNat ((j0:Int)+(b.length:Int)) * 1)) (W3 underlying120 sizeOf200 rfl rfl dl.1 dl.2 (P.addr dm)) ?_;obtain ⟨bw,aj,hm⟩:=bZ hm;have aj:bw=G.set (Int.toNat ((j0:Int)+(b.length:Int))) (u32.wrap (di+(u32.wrap I))):=(Option.some.inj aj).symm;refine Wj (x1:=u32.wrap (di+(u32.wrap I))) P dm ?_;intro f3 e3 e4 dn;rw [← aj] at dn;have e5:bw.length=d.length:=(show G.length=bw.length by rw [aj,List.length_set]).symm.trans e2;refine Zj ?_;replace a:=a.kp e3 e4;exact ⟨rfl,_,_,_,hm,a,dn,e5,rfl⟩
     | cons ak e6=>
      obtain ⟨o,e7,e8⟩:=Yu hl;have hk:(H:Int)<(b.length:Int):=by omega
      have hkb:=decide_eq_true hk;rw [Ta.eq_2] at hm;refine go ?_;refine X8 (congrArg Value.bool hkb)<|go ?_;refine lI o ((h1.ks a).addr o)<|lW ((h1.ks a).atInt o) ?_;refine go ?_;obtain ⟨dp,hm⟩:=Zt hm;obtain ⟨al,dq,hm⟩:=bZ hm;refine lV (X5 a0 (Int.toNat ((j0:Int)+(H:Int)) * 1)) (W3 underlying120 sizeOf200 rfl rfl dp.1 dp.2 (P.addr dq))<|lW (P.atInt dq)<|go ?_;obtain ⟨dr,hm⟩:=Zt hm;obtain ⟨f4,ds,hm⟩:=bZ hm;refine lV (X5 a0 (Int.toNat ((j0:Int)+(H:Int)) * 1)) (W3 underlying120 sizeOf200 rfl rfl dr.1 dr.2 (P.addr ds)) ?_;obtain ⟨bx,am,hm⟩:=bZ hm;have am:bx=G.set (Int.toNat ((j0:Int)+(H:Int))) (u32.wrap (u64.wrap (I+(u64.wrap ((u64.wrap al)+(u64.wrap ak)))))):=(Option.some.inj am).symm;refine Wj (x1:=u32.wrap (u64.wrap (I+(u64.wrap ((u64.wrap al)+(u64.wrap ak)))))) P ds ?_;intro f5 e9 fa dt;rw [← am] at dt;have du:bx.length=d.length:=(show G.length=bx.length by rw [am,List.length_set]).symm.trans e1;refine go ?_;refine lV (.int .u64 (X9 .u64 (u64.wrap (I+(u64.wrap ((u64.wrap al)+(u64.wrap ak))))) 32)) (T4 (u64.wrap (I+(u64.wrap ((u64.wrap al)+(u64.wrap ak))))) 32 rfl rfl (by decide))<|go ?_;replace a:=a.kp e9 fa;exact ⟨e6.length,by simp,rfl,⟨_,_,_,_,_,rfl,e7,hm,a,dt,du,du,(Y0 (congrArg (Value.int .i64) (Yw (Nat.lt_of_lt_of_le e8 (h1.ks a).1.1))) rfl)⟩⟩
    refine Z1 ?_;exact ⟨rfl,_,_,_,hm,a,bp,bq,rfl⟩
   | cons J bz=>
    obtain ⟨o,fb,fc⟩:=Yu hl;have hk:(t:Int)<(b.length:Int):=by omega
    have hkb:=decide_eq_true hk;rw [Vz.eq_2] at hm;refine go ?_;refine X8 (congrArg Value.bool hkb)<|Z1<|Zo ?_;refine Wp.cutK [0,1,5,7,87,88,89,1000000] (fun f b0=>∃ b1 X b2 b3,Zg6 t (Vz j0 n0 b g bz) X b2 b3=some r∧St w0 (Zy [qc0] col) b1 b0∧Zc (Za.int .u32) 200 440 b1 b0 a0 i X∧X.length=d.length∧X.length=d.length∧[10,9].map f=[.int .u64 b2,.int .u64 b3]) ?_ ?_
    ·intro f b0 j;obtain ⟨b1,X,b2,b3,hm,a,fd,fe,ff,hs⟩:=j;rw [Zg6.eq_1] at hm;refine .lL [10,9] hs<|go ?_;exact ⟨bz.length,by simp,rfl,⟨_,_,_,_,_,_,rfl,fb,hm,a,fd,fe,ff,(Y0 (congrArg (Value.int .i64) (Yw (Nat.lt_of_lt_of_le fc (h1.ks a).1.1))) rfl)⟩⟩
    refine go ?_;refine lI o ((h1.ks a).addr o)<|lW ((h1.ks a).atInt o)<|Yq rfl<|Yq rfl<|Zj<|Zo<|Yo<|Y1 rfl<|Y1 rfl<|Y1 rfl<|lV (.int .u64 (u64.wrap J)) (Zid J ⟨_,underlying200⟩ underlying185 rfl)<|lV _ (Zll _ _ rfl rfl)<|lV _ (T0 _ _ rfl rfl)<|Yq rfl<|Zj<|Zo<|Yo<|Y1 rfl<|lV (.int .u64 (Uw .u64 (u64.wrap (u+(u64.wrap (g * (u64.wrap J))))) 4294967295)) (Zli (u64.wrap (u+(u64.wrap (g * (u64.wrap J))))) 4294967295 rfl rfl)<|Y1 rfl<|lV _ (T0 _ _ rfl rfl)<|Yq rfl<|Zj<|Zo<|Yo<|Yq rfl<|Zj<|Zo ?_;refine Wp.cutK [0,1,11,13,5,7,87,88,89,9,1000000] (fun f b4=>∃ b5 b6,Zb8 j0 n0 g x O t u (Vz j0 n0 b g bz) J b6=some r∧St w0 (Zy [qc0] col) b5 b4∧Zc (Za.int .u32) 200 440 b5 b4 a0 i x∧[10].map f=[.int .u64 b6]) ?_ ?_
    ·intro f b4 j;obtain ⟨b5,b6,hm,a,p,hs⟩:=j;rw [Zb8.eq_1] at hm;refine .lL [10] hs<|go ?_;obtain ⟨dv,hm⟩:=Zt hm;obtain ⟨dw,dx,hm⟩:=bZ hm;refine lV (X5 a0 (Int.toNat ((j0:Int)+(t:Int)) * 1)) (W3 underlying120 sizeOf200 rfl rfl dv.1 dv.2 (p.addr dx))<|lW (p.atInt dx)<|go ?_;obtain ⟨dy,hm⟩:=Zt hm;obtain ⟨f6,dz,hm⟩:=bZ hm;refine lV (X5 a0 (Int.toNat ((j0:Int)+(t:Int)) * 1)) (W3 underlying120 sizeOf200 rfl rfl dy.1 dy.2 (p.addr dz)) ?_;obtain ⟨b7,an,hm⟩:=bZ hm;have an:b7=x.set (Int.toNat ((j0:Int)+(t:Int))) (u32.wrap (dw - (u32.wrap (u64.wrap ((Uw .u64 (u64.wrap (u+(u64.wrap (g * (u64.wrap J))))) 4294967295)+O))))):=(Option.some.inj an).symm;refine Wj (x1:=u32.wrap (dw - (u32.wrap (u64.wrap ((Uw .u64 (u64.wrap (u+(u64.wrap (g * (u64.wrap J))))) 4294967295)+O))))) p dz ?_;intro f7 fg fh d0;rw [← an] at d0;have d1:b7.length=d.length:=(show x.length=b7.length by rw [an,List.length_set]).symm.trans c9;refine go ?_;refine lV (.int .u64 (X9 .u64 (u64.wrap (u+(u64.wrap (g * (u64.wrap J))))) 32)) (T4 (u64.wrap (u+(u64.wrap (g * (u64.wrap J))))) 32 rfl rfl (by decide))<|go ?_;replace a:=a.kp fg fh;exact ⟨rfl,_,_,_,_,hm,a,d0,d1,d1,rfl⟩
    refine go ?_;obtain ⟨d2,hm⟩:=Zt hm;obtain ⟨f8,d3,hm⟩:=bZ hm;refine lV (X5 a0 (Int.toNat ((j0:Int)+(t:Int)) * 1)) (W3 underlying120 sizeOf200 rfl rfl d2.1 d2.2 (p.addr d3))<|lW (p.atInt d3)<|go ?_;refine Zm hm (fun hb hm=>go ?_) fun hb hm=>?_
    ·exact ⟨rfl,_,1,hm,a,p,rfl⟩
    refine Z1 ?_;exact ⟨rfl,_,0,hm,a,p,rfl⟩
  refine Vs (col:=y) (by kernel_rfl) (by kernel_rfl)<|go ?_;refine Z7 hm (fun ao hm=>go ?_) fun ao hm=>go ?_
  ·refine X0 54 rfl rfl rfl rfl<|X0 54 rfl rfl rfl rfl<|X0 54 rfl rfl rfl rfl<|X0 54 rfl rfl rfl rfl<|X0 54 rfl rfl rfl rfl<|X0 54 rfl rfl rfl rfl<|X0 54 rfl rfl rfl rfl<|X0 54 rfl rfl rfl rfl<|X0 54 rfl rfl rfl rfl<|X0 54 rfl rfl rfl rfl<|X0 54 rfl rfl rfl rfl<|X0 54 rfl rfl rfl rfl<|X0 54 rfl rfl rfl rfl<|X0 54 rfl rfl rfl rfl<|X0 54 rfl rfl rfl rfl<|X0 54 rfl rfl rfl rfl<|X0 54 rfl rfl rfl rfl<|X0 54 rfl rfl rfl rfl<|go ?_;refine qv (v:=(.bool true)) rfl (fun _ c=>Zx (congrArg Value.bool ao) rfl) ?_;refine Y3 ?_;intro f9 c;replace c:=c.bl y;replace h0:=h0.gr c;replace a:=a.grow c;exact ⟨rfl,_,_,hm,a,h0,rfl⟩
  refine Z7 hm (fun b8 hm=>go ?_) fun b8 hm=>go ?_
  ·obtain ⟨d4,b9,hm⟩:=bZ hm;refine qI b9 ((h1.ks a).addr b9) ?_;refine go ?_;refine qW (fun _ c=>((h1.ks a).gr (c.bl y)).atInt b9) ?_;refine go ?_;refine qv (v:=(.int .u64 (Xu .u64 A 32))) rfl (fun _ c=>Zcw A 32 rfl rfl (by decide)) ?_;refine go ?_;obtain ⟨d5,hm⟩:=Zt hm;obtain ⟨d6,d7,hm⟩:=bZ hm;refine qv (v:=(X5 a0 (Int.toNat ((j0:Int)+(i64.wrap ((b.length:Int) - 2))) * 1))) rfl (fun _ c=>W3 underlying120 sizeOf200 rfl rfl d5.1 d5.2 (h0.addr d7)) ?_;refine go ?_;refine qW (fun _ c=>(h0.gr (c.bl y)).atInt d7) ?_;refine go ?_;refine qv (v:=(.bool (decide ((Ys .u64 (Xu .u64 A 32) (u64.wrap d6))<(u64.wrap (g * (u64.wrap d4))))))) rfl (fun _ c=>Zx (congrArg Value.bool b8) rfl) ?_;refine qv (v:=(.bool (decide ((Ys .u64 (Xu .u64 A 32) (u64.wrap d6))<(u64.wrap (g * (u64.wrap d4))))))) rfl (fun _ c=>Z0 (congrArg Value.bool ao) rfl) ?_;refine Y3 ?_;intro ga c;replace c:=c.bl y;replace h0:=h0.gr c;replace a:=a.grow c;exact ⟨rfl,_,_,hm,a,h0,rfl⟩
  refine qv (v:=(.bool false)) rfl (fun _ c=>Z0 (congrArg Value.bool b8) rfl) ?_;refine qv (v:=(.bool false)) rfl (fun _ c=>Z0 (congrArg Value.bool ao) rfl) ?_;refine Y3 ?_;intro gb c;replace c:=c.bl y;replace h0:=h0.gr c;replace a:=a.grow c;exact ⟨rfl,_,_,hm,a,h0,rfl⟩
def Zj0 (a:Int) (kk_L2:(List Int→Int→Option (List Int×List Int×Int))) (b:List Int):Option (List Int×List Int×Int):=
  kk_L2 b (i64.wrap (a+1))
def Zem (b:Int) (c:List Int) (a:Int) (kk_L2:(List Int→Int→Option (List Int×List Int×Int))) (d:Int):Option (List Int×List Int×Int):=
  (Zq c a).bind fun e=>Zr (0≤b) ((some (c.set (Int.toNat a) (u32.wrap (X9 .u64 (Ys .u64 (Xu .u64 (u64.wrap d) 32) (u64.wrap e)) b)))).bind fun f=>Zj0 a kk_L2 f)
def Tr (N:Nat) (c:Int) (d:List Int) (e:List Int):Nat→(List Int)→Int→Option (List Int×List Int×Int)
  | 0,_,_=>none
  | f+1,a,b=>if (decide (b<(e.length:Int)))=true then (if (decide ((i64.wrap (b+1))<(a.length:Int)))=true then ((Zq a (i64.wrap (b+1))).bind fun g=>Zem c a b (Tr N c d e f) g) else (Zem c a b (Tr N c d e f) 0)) else ((Ua N d).bind fun i=>(Ua N a).bind fun j=>some (i,j,0))
termination_by structural x=>x
def Zb4 (N:Nat) (e:Int) (b:List Int):Nat→(List Int)→(List Int)→Int→Option (List Int×List Int×Int)
  | 0,_,_,_=>none
  | i+1,c,d,a=>if (decide (0≤a))=true then (Zr ((0:Int)≤a∧a<(i64.wrap ((i64.wrap (a+(b.length:Int)))+1))∧(i64.wrap ((i64.wrap (a+(b.length:Int)))+1))≤(c.length:Int)) ((Zeo N (Int.toNat a) ((Int.toNat (i64.wrap ((i64.wrap (a+(b.length:Int)))+1))) - (Int.toNat a)) c b).bind fun f=>(Zq d a).bind fun k=>(some (d.set (Int.toNat a) f.1)).bind fun j=>(Zb4 N e b i) f.2 j (i64.wrap (a - 1)))) else ((Zca N c).bind fun g=>Tr N e d g N g 0)
termination_by structural x=>x
def Zb3 (N:Nat) (e:List Int) (f:List Int):Option (List Int×List Int×Int):=
  (Ub N e).bind fun b=>(Ub N f).bind fun a=>if (decide ((a.length:Int)=0))=true then (some (([]:List Int),([]:List Int),11)) else ((Zb1 N b a).bind fun g=>if (decide (g<0))=true then ((Ua N b).bind fun i=>some (([]:List Int),i,0)) else (if (decide ((a.length:Int)=1))=true then ((Zcn b).bind fun j=>(Zq a 0).bind fun k=>(Zg7 N j k).bind fun d=>(Ua N d.2).bind fun l=>(Ua N [d.1]).bind fun m=>some (l,m,0)) else ((Zq a (i64.wrap ((a.length:Int) - 1))).bind fun n=>(Zgx n).bind fun c=>(Zep b c).bind fun o=>(Zep a c).bind fun p=>(Zca N p).bind fun q=>Zr ((Int.toNat (i64.wrap ((i64.wrap ((b.length:Int) - (a.length:Int)))+1))) * 4≤281474976710656∧(Int.toNat (i64.wrap ((i64.wrap ((b.length:Int) - (a.length:Int)))+1)))≤maxLen∧0≤(i64.wrap ((i64.wrap ((b.length:Int) - (a.length:Int)))+1))) (Zb4 N c q N o (List.replicate (Int.toNat (i64.wrap ((i64.wrap ((b.length:Int) - (a.length:Int)))+1))) (0:Int)) (i64.wrap (((List.replicate (Int.toNat (i64.wrap ((i64.wrap ((b.length:Int) - (a.length:Int)))+1))) (0:Int)).length:Int) - 1))))))
theorem Zmn {N ak al:Nat} {a0 a1:Option Addr} {col:Zd} {w0:World} {V W:(List Int)} {r:(List Int×List Int×Int)} (c1 c2:Nat) (hm:Zb3 N V W=some r) (h0:Sl (Za.int .u32) col w0 a0 ak V) (h1:Sl (Za.int .u32) col w0 a1 al W):
    Calls prog 148 #[.slice a0 V.length ak,.slice a1 W.length al] w0 (fun e w'=>∃ (col':Zd) (ra1:Option Addr) (rc2:Nat) (ra4:Option Addr) (rc5:Nat),e= .returned (.tuple #[.slice ra1 r.1.length rc2,.slice ra4 r.2.1.length rc5,.int .i64 r.2.2])∧Zg col w0 col' w'∧Zc (Za.int .u32) 200 c1 col' w' ra1 rc2 r.1∧Zc (Za.int .u32) 200 c2 col' w' ra4 rc5 r.2.1):=by
 refine Zmx 4 5 6 (m:=122) (args:=[.slice a0 V.length ak,.slice a1 W.length al]) func148 rfl rfl rfl rfl rfl ?_;rw [Zb3.eq_1] at hm;have a:=St.start col w0;refine go ?_;obtain ⟨bq,br,hm⟩:=bZ hm;replace h0:=h0.keep (Zl.start col w0);refine Zh (Tj br (h0.ks a)) ?_;rintro _ c4 ⟨c5,c6,c7,rfl,bs,j⟩;refine ⟨_,rfl,?_⟩;refine W2 rfl ?_;obtain ⟨bt,bu,hm⟩:=bZ hm;replace h1:=h1.keep (Zl.start col w0);replace a:=a.grow bs;refine Zh (Tj bu (h1.ks a)) ?_;rintro _ bv ⟨G,c8,c9,rfl,bc,c⟩;refine ⟨_,rfl,go ?_⟩;replace j:=j.gr bc;replace a:=a.grow bc;refine Zm hm (fun hb hm=>go ?_) fun hb hm=>go ?_
 ·cases hm;exact ⟨rfl,_,none,0,none,0,rfl,a.fin (cm []),Zc.nil,Zc.nil⟩
 obtain ⟨da,bw,hm⟩:=bZ hm;refine Zh (Zmm bw j c) ?_;rintro _ bd ⟨rfl,H⟩;refine ⟨_,rfl,?_⟩;replace H:Zg G bv G bd:=.of_below H;refine go ?_;replace j:=j.gr H;replace c:=c.gr H;replace a:=a.grow H;refine Zm hm (fun hb hm=>go ?_) fun hb hm=>go ?_
 ·obtain ⟨db,bx,hm⟩:=bZ hm;refine Zh (Ti 1 bx j) ?_;rintro _ dc ⟨dd,de,df,rfl,bz,b0⟩;refine ⟨_,rfl,go ?_⟩;cases hm;replace a:=a.grow bz;exact ⟨rfl,_,none,0,_,_,rfl,a.fin (cm [(1,c2)]),Zc.nil,a.fo b0⟩
 refine Zm hm (fun hb hm=>go ?_) fun hb hm=>go ?_
 ·obtain ⟨be,b1,hm⟩:=bZ hm;refine Zh (Zmt 2 b1 j) ?_;rintro _ dg ⟨dh,X,Y,rfl,bf,b2⟩;refine ⟨_,rfl,go ?_⟩;obtain ⟨di,am,hm⟩:=bZ hm;replace c:=c.gr bf;refine lI am (c.addr am)<|lW (c.atInt am) ?_;obtain ⟨I,b3,hm⟩:=bZ hm;refine Zh (Zx1 2 b3 rfl b2) ?_;rintro _ b4 ⟨an,rfl,b5,b6,bg⟩;refine ⟨_,rfl,?_⟩;refine .ld (d:=7) (v:=(.slice X I.2.length Y)) (congrArg (fun n=>Value.slice X n Y) (show be.length=I.2.length from bg.symm)) ?_;refine .ld (d:=34) (v:=(.slice X I.2.length Y)) (congrArg (fun n=>Value.slice X n Y) (show be.length=I.2.length from bg.symm)) ?_;refine go ?_;obtain ⟨dj,b7,hm⟩:=bZ hm;refine Zh (Ti 3 b7 (b6.toSlF (Zk.int .u32))) ?_;rintro _ dl ⟨b8,dm,dn,rfl,Z,J⟩;refine ⟨_,rfl,?_⟩;replace J:=J.thaw (Xs .u32) Z ((Fz.refl (col:=an)).froz 2) (by decide);replace Z:=Z.thawR (col:=an);generalize Xn b4.heap.size an b8=b9 at *;refine Y1 rfl<|U8 (col:=b9) [I.1] 4 ?_;intro dp ca ao bh cb;obtain ⟨dq,cc,hm⟩:=bZ hm;refine Zh (Ti 5 cc (cb.toSlF (Zk.int .u32))) ?_;rintro _ dr ⟨cd,ds,dt,rfl,K,ap⟩;refine ⟨_,rfl,?_⟩;replace ap:=ap.thaw (Xs .u32) K ((Fz.refl (col:=ao)).froz 4) (by decide);replace K:=K.thawR (col:=ao);generalize Xn ca.heap.size ao cd=du at *;refine go ?_;cases hm;replace a:=((((a.grow bf).kpp b5).grow Z).grow bh).grow K;replace J:=(J.gr bh).gr K;exact ⟨rfl,_,_,_,_,_,rfl,a.fin (cm [(3,c1),(5,c2)]),a.fo J,a.fo ap⟩
 obtain ⟨dv,aq,hm⟩:=bZ hm;refine lI aq (c.addr aq)<|lW (c.atInt aq) ?_;obtain ⟨l,ce,hm⟩:=bZ hm;refine Zh (Zxo (col:=G) ce) ?_;rintro _ cf ⟨rfl,L⟩;refine ⟨_,rfl,?_⟩;replace L:Zg G bd G cf:=.of_below L;refine go ?_;obtain ⟨dw,cg,hm⟩:=bZ hm;replace j:=j.gr L;refine Zh (Zpx 6 cg j) ?_;rintro _ dx ⟨dy,dz,d0,rfl,bi,M⟩;refine ⟨_,rfl,go ?_⟩;obtain ⟨d1,ch,hm⟩:=bZ hm;replace c:=(c.gr L).gr bi;refine Zh (Zpx 7 ch c) ?_;rintro _ d2 ⟨d3,d4,d5,rfl,bj,ci⟩;refine ⟨_,rfl,?_⟩;obtain ⟨ar,cj,hm⟩:=bZ hm;refine Zh (Zpy 7 cj rfl ci) ?_;rintro _ ck ⟨cl,cn,co,rfl,bk,k⟩;refine ⟨_,rfl,go ?_⟩;obtain ⟨aa,hm⟩:=Zt hm;refine Zal (col:=cl) (w:=ck) (r:=(Za.int .u32)) (n:=(Int.toNat (i64.wrap ((i64.wrap ((bq.length:Int) - (bt.length:Int)))+1)))) (x0:=0) 8 rfl underlying120 Tryz.t200 rfl rfl rfl rfl rfl (congrArg (Value.int _) (Int.toNat_of_nonneg aa.2.2).symm) (congrArg (Value.int _) (Int.toNat_of_nonneg aa.2.2).symm) aa.1 aa.2.1 (Vf .u32 0) ?_;intro d6 d7 d8 au av;refine go ?_;replace M:=((M.gr bj).kpp bk).gr au;replace M:=M.froz 7 (by decide);replace k:=k.gr au;replace k:=(k).toSlF (Zk.int .u32);replace av:=av.froz 7 (by decide);replace a:=((((a.grow L).grow bi).grow bj).kpp bk).grow au;replace a:=a.froz 7 (by decide) (by decide);refine Z6 [11,9,1000000] (fun n f O=>∃ P y A Q p q g s B,B=n∧Zb4 N l ar B Q g s=some r∧St w0 (Zi col) P O∧Zc (Za.int .u32) 200 6 P O y A Q∧Sl (Za.int .u32) P O cn co ar∧Zc (Za.int .u32) 200 8 P O p q g∧[10,12,13].map f=[.slice y Q.length A,.slice p g.length q,.int .i64 s]) N ⟨_,_,_,_,_,_,_,_,_,rfl,hm,a,M,k,av,rfl⟩ ?_;clear hm;intro n f O hI;obtain ⟨P,y,A,Q,p,q,g,s,B,hn,hm,a,aw,k,b,hs⟩:=hI;subst hn;refine .lL [10,12,13] hs ?_
 cases B with
 | zero=>rw [Zb4.eq_1] at hm;cases hm
 | succ B=>
  rw [Zb4.eq_2] at hm;refine go ?_;refine Zm hm (fun hb hm=>go ?_) fun hb hm=>go ?_
  ·obtain ⟨ax,hm⟩:=Zt hm;refine lV (.slice (y.map (·.add ((Int.toNat s) * 1))) ((Int.toNat (i64.wrap ((i64.wrap (s+(ar.length:Int)))+1))) - (Int.toNat s)) (A - (Int.toNat s))) (Z22 underlying120 sizeOf200 rfl rfl rfl ax.1 ax.2.1 (by have:=aw.lecap;have:=ax.2.2;omega))<|W2 rfl ?_;obtain ⟨ab,cp,hm⟩:=bZ hm;refine Zh (Zxz 6 cp rfl aw k) ?_;rintro _ d9 ⟨ea,rfl,ay,az,cq⟩;refine ⟨_,rfl,?_⟩;refine .ld (d:=10) (v:=(.slice y ab.2.length A)) (congrArg (fun n=>Value.slice y n A) (show Q.length=ab.2.length from cq.symm)) ?_;obtain ⟨eb,a2,hm⟩:=bZ hm;replace b:=b.kpp ay;refine lI a2 (b.addr a2) ?_;obtain ⟨a3,ac,hm⟩:=bZ hm;have ac:a3=g.set (Int.toNat s) ab.1:=(Option.some.inj ac).symm;refine Wj (x1:=ab.1) b a2 ?_;intro ec a4 cr bm;rw [← ac] at bm;refine .ld (d:=12) (v:=(.slice p a3.length q)) (congrArg (fun n=>Value.slice p n q) (show g.length=a3.length by rw [ac,List.length_set])) ?_;refine go ?_;replace k:=(k.kpp ay).kp a4;replace a:=(a.kpp ay).kp a4 cr;replace az:=az.kp a4;exact ⟨B,by omega,rfl,⟨_,_,_,_,_,_,_,_,_,rfl,hm,a,az,k,bm,rfl⟩⟩
  obtain ⟨a5,cs,hm⟩:=bZ hm;refine Zh (Zpy 6 cs rfl aw) ?_;rintro _ ed ⟨ee,ef,eg,rfl,bn,ct⟩;refine ⟨_,rfl,go ?_⟩;replace b:=b.kpp bn;replace a:=a.kpp bn;refine Z6 [12,88,9,1000000] (fun n f R=>∃ x C D t E u,u=n∧Tr N l g a5 u t E=some r∧St w0 (Zi col) x R∧Zc (Za.int .u32) 200 6 x R C D t∧Zc (Za.int .u32) 200 8 x R p q g∧[10,89].map f=[.slice C t.length D,.int .i64 E]) N ⟨_,_,_,_,0,_,rfl,hm,a,ct,b,rfl⟩ ?_;clear hm;intro n f R hI;obtain ⟨x,C,D,t,E,u,hn,hm,a,i,b,hs⟩:=hI;subst hn;refine .lL [10,89] hs ?_
  cases u with
  | zero=>rw [Tr.eq_1] at hm;cases hm
  | succ u=>
   rw [Tr.eq_2] at hm;refine go ?_;refine Zm hm (fun hb hm=>?_) fun hb hm=>go ?_
   ·refine Z1<|Zo ?_;refine Wp.cutK [12,88,89,9,1000000] (fun f ad=>∃ ae a6 a7 af,Zj0 E (Tr N l g a5 u) af=some r∧St w0 (Zi col) ae ad∧Zc (Za.int .u32) 200 6 ae ad a6 a7 af∧Zc (Za.int .u32) 200 8 ae ad p q g∧[10].map f=[.slice a6 af.length a7]) ?_ ?_
    ·intro f ad hJ;obtain ⟨ae,a6,a7,af,hm,a,cu,b,hs⟩:=hJ;rw [Zj0.eq_1] at hm;refine .lL [10] hs<|go ?_;exact ⟨u,by omega,rfl,⟨_,_,_,_,_,_,rfl,hm,a,cu,b,rfl⟩⟩
    refine S8<|Zo<|Yo<|Y1 rfl<|Yq rfl<|Zj<|Zo<|Yo<|Yq rfl<|Zj<|Zo ?_;refine Wp.cutK [10,12,14,88,89,9,1000000] (fun f ag=>∃ ah o,Zem l t E (Tr N l g a5 u) o=some r∧St w0 (Zi col) ah ag∧Zc (Za.int .u32) 200 6 ah ag C D t∧Zc (Za.int .u32) 200 8 ah ag p q g∧[15].map f=[.int .u32 o]) ?_ ?_
    ·intro f ag hJ;obtain ⟨ah,o,hm,a,i,b,hs⟩:=hJ;rw [Zem.eq_1] at hm;refine .lL [15] hs<|go ?_;refine lV (.int .u64 (Xu .u64 (u64.wrap o) 32)) (Zcw (u64.wrap o) 32 rfl rfl (by decide))<|go ?_;obtain ⟨ai,F,hm⟩:=bZ hm;refine lI F (i.addr F)<|lW (i.atInt F) ?_;refine go ?_;obtain ⟨cv,hm⟩:=Zt hm;refine lV (.int .u64 (X9 .u64 (Ys .u64 (Xu .u64 (u64.wrap o) 32) (u64.wrap ai)) l)) (T4 (Ys .u64 (Xu .u64 (u64.wrap o) 32) (u64.wrap ai)) l rfl rfl cv)<|go ?_;refine lI F (i.addr F) ?_;obtain ⟨a8,aj,hm⟩:=bZ hm;have aj:a8=t.set (Int.toNat E) (u32.wrap (X9 .u64 (Ys .u64 (Xu .u64 (u64.wrap o) 32) (u64.wrap ai)) l)):=(Option.some.inj aj).symm;refine Wj (x1:=u32.wrap (X9 .u64 (Ys .u64 (Xu .u64 (u64.wrap o) 32) (u64.wrap ai)) l)) i F ?_;intro eh bo cw bp;rw [← aj] at bp;refine .ld (d:=10) (v:=(.slice C a8.length D)) (congrArg (fun n=>Value.slice C n D) (show t.length=a8.length by rw [aj,List.length_set])) ?_;refine Zj ?_;replace b:=b.kp bo;replace a:=a.kp bo cw;exact ⟨rfl,_,_,_,_,hm,a,bp,b,rfl⟩
    refine go ?_;refine Zm hm (fun hb hm=>go ?_) fun hb hm=>?_
    ·obtain ⟨ei,a9,hm⟩:=bZ hm;refine lI a9 (i.addr a9)<|lW (i.atInt a9) ?_;refine go ?_;exact ⟨rfl,_,_,hm,a,i,b,rfl⟩
    refine Z1 ?_;exact ⟨rfl,_,0,hm,a,i,b,rfl⟩
   obtain ⟨ej,cx,hm⟩:=bZ hm;refine Zh (Ti 9 cx (b.toSlF (Zk.int .u32))) ?_;rintro _ cy ⟨cz,ek,el,rfl,S,T⟩;refine ⟨_,rfl,?_⟩;replace T:=T.thaw (Xs .u32) S ((Fz.refl (col:=x)).froz 8) (by decide);replace S:=S.thawR (col:=x);generalize Xn R.heap.size x cz=ba at *;refine W2 rfl ?_;obtain ⟨em,c0,hm⟩:=bZ hm;replace i:=i.gr S;refine Zh (Ti 10 c0 (i.toSlF (Zk.int .u32))) ?_;rintro _ en ⟨c3,eo,ep,rfl,U,bb⟩;refine ⟨_,rfl,?_⟩;replace bb:=bb.thaw (Xs .u32) U ((Fz.refl (col:=ba)).froz 6) (by decide);replace U:=U.thawR (col:=ba);generalize Xn cy.heap.size ba c3=eq at *;refine go ?_;cases hm;replace a:=(a.grow S).grow U;replace T:=T.gr U;exact ⟨rfl,_,_,_,_,_,rfl,a.fin (cm [(9,c1),(10,c2)]),a.fo T,a.fo bb⟩
def Zg1 (N:Nat) (b:List Int):Option Int:=
  (Ub N b).bind fun a=>if (decide ((a.length:Int)=0))=true then (some 0) else ((Zq a (i64.wrap ((a.length:Int) - 1))).bind fun c=>(Zd9 c).bind fun d=>some (i64.wrap ((i64.wrap (32 * (i64.wrap ((a.length:Int) - 1))))+d)))
theorem Zxx {N g:Nat} {a0:Option Addr} {col:Zd} {w0:World} {b:(List Int)} {r:Int} (hm:Zg1 N b=some r) (h0:Sl (Za.int .u32) col w0 a0 g b):
    Calls prog 121 #[.slice a0 b.length g] w0 (fun e w'=>e= .returned ((.int .i64 r))∧Below w0.heap.size w0 w'):=by
 refine Z5 2 (m:=20) func121 O O O O O ?_;rw [Zg1.eq_1] at hm;have a:=St.start col w0;refine go ?_;obtain ⟨p,j,hm⟩:=bZ hm;replace h0:=h0.keep (Zl.start col w0);refine Zh (Tj j (h0.ks a)) ?_;rintro _ k ⟨c,q,s,rfl,l,i⟩;refine ⟨_,O,go ?_⟩;replace a:=a.grow l;refine Zm hm (fun hb hm=>go ?_) fun hb hm=>go ?_
 ·cases hm;exact ⟨O,O,a.below⟩
 obtain ⟨t,d,hm⟩:=bZ hm;refine lI d (i.addr d)<|lW (i.atInt d) ?_;obtain ⟨u,n,hm⟩:=bZ hm;refine Zh (Zps (col:=c) n) ?_;rintro _ o ⟨rfl,f⟩;refine ⟨_,O,?_⟩;replace f:Zg c k c o:=.of_below f;refine go ?_;cases hm;replace a:=a.grow f;exact ⟨O,O,a.below⟩

end Go.Proofs.YtdpdogdkolblnaaGreatDoor
