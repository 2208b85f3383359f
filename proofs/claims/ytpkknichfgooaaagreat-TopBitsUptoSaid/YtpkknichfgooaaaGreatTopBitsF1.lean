/-
  What functions of the program compute, as plain Lean functions (m_..), and proofs that they compute it (c_..). Printed by a program of the author; no conditions.
-/
import Derived.Test.YtpkknichfgooaaaGreatTopBitsBFloat
import Derived.Test.YtpkknichfgooaaaGreatProg
import Derived.Test.YtpkknichfgooaaaGreatTopBitsBBrief
import Derived.Test.YtpkknichfgooaaaGreatTopBitsBPiece
set_option linter.unusedVariables false
set_option maxRecDepth 100000
set_option maxHeartbeats 2000000
namespace Go.Proofs.YtpkknichfgooaaaGreat
open Go Go.RowKit
open List renaming getElem?_eq_getElem→aO,mem_cons_self→aK,mem_cons_of_mem→aE,nil_append→cB,cons_append→cK,replicate→aC,take_append_drop→fK,drop_eq_getElem_cons→aP,drop_eq_nil_of_le→aI,getElem_cons_zero→iB,set_cons_zero→iQ,length_take_of_le→dY,drop_eq_nil_iff→aF,eq_nil_of_length_eq_zero→cJ,length_pos_iff→cA,drop_zero→bF,getD_eq_getElem?_getD→aD,getElem?_eq_none→cR,length_replicate→aT,drop_drop→dZ,drop_replicate→fZ,getElem_set_self→iC,drop_length→eV,length_drop→cH,getElem_append_right→gV
open Nat renaming pow_succ→aW,mul_le_mul_right→aX,strongRecOn→gM,pow_pos→dO,sub_self→kF,pow_zero→dD,one_mul→bO,min_eq_left→aZ,lt_of_lt_of_le→aG,mul_le_mul_left→aU,le_refl→aV,add_comm→kG,mul_zero→dE,add_zero→bV,add_assoc→dW,zero_add→cG,two_pow_pos→bU,log2_eq_iff→jJ,pow_le_pow_right→fQ,lt_of_le_of_lt→dV,pow_add→cP,le_div_iff_mul_le→fI,div_lt_iff_lt_mul→cZ,mul_add→dN,mod_eq_of_lt→dR,two_pow_add_eq_or_of_lt→gN,add_mul_mod_self_left→gZ,add_mul_div_left→gA,div_eq_of_lt→eE,mul_lt_mul_of_pos_right→gO,mul_comm→bP,mul_mod_mul_left→iK,mod_lt→eA,lt_of_mul_lt_mul_left→eO,mul_le_mul→jR,le_of_lt→kH,add_mul→bI,div_add_mod→jK,div_le_self→bY,div_div_eq_div_mul→fL,eq_zero_or_pos→eR,lt_trans→kI,mul_assoc→bJ,gcd→cL,gcd_comm→eM,mul_lt_mul''→jF,le_max_left→dB,le_max_right→cU,le_trans→aN,add_le_add→jS
open Int renaming fdiv_eq_ediv_of_nonneg→gU,toNat→aA,toNat_of_nonneg→bA,toNat_natCast→aB,mul_le_mul→jP,mul_nonneg→jQ,natCast_mul→bH,toNat_zero→eH,tdiv→aM,tmod→aS,natCast_emod→jE,tdiv_eq_ediv_of_nonneg→bM,tmod_eq_emod_of_nonneg→bS,natCast_ediv→gP,natCast_nonneg→cY,ofNat_lt→eL,natAbs_zero→jL,natAbs_mul→eS,natAbs_natCast→eW
open Option renaming getD_some→cO
open Rat renaming num_mkRat→jY,den_mkRat→jZ,natCast_pos→jM,mkRat_eq_div→dJ,mul_assoc→fB,intCast_mul→hH
open Go.IntKind (i8 i16 i32 i64 u8 u16 u32 u64)
open Go.Proofs.Tryz
theorem O {α:Sort _} {a:α}:a=a:=rfl
abbrev Rt (y:ByteArray × List ByteArray × List (List ByteArray) × List (List Int) × List (List ((Bool × List Int) × List Int))) (a:Option Addr) (b:Nat) (c:Option Addr) (d:Nat) (e:Option Addr) (f:Nat) (g:Option Addr) (h:Nat):Array Value:=#[.string y.1,.slice a y.2.1.length b,.slice c y.2.2.1.length d,.slice e y.2.2.2.1.length f,.slice g y.2.2.2.2.length h]
theorem Ru {w w' : World} (col : Zg) (h : Below w.heap.size w w') : Zl col w col w' := .of_below h
theorem Rv {v u : Value} (h : v.cells = #[u]) (h1 : u.oneCell' = true) : ∀ x ∈ v.cells.toList, x.oneCell' = true := by rw [h]; intro x hx; rw [List.mem_singleton.1 hx]; exact h1
abbrev R3:=Bool×List Int
abbrev R0:=R3×List Int
abbrev R4:=List ByteArray
abbrev R2:=List Int
abbrev R8:=List R2
abbrev R6:=List R0
abbrev Ri:=List R6
abbrev R1:=ByteArray×List ByteArray×(List R4)×R8×Ri
abbrev R5:=Int×List Int
abbrev R7:=List Int×(R0×R0)×Bool
abbrev R9:=List Int×Int
abbrev Ra:=List Int×List Int×Int
abbrev Rb:=Int×Int
abbrev Rc:=List (R0×R0)
abbrev Rd:=List Int×Int×Int
abbrev Re:=List Int×R0
abbrev Rf:=List Int×Bool
abbrev Rg:=List Rb
abbrev Rh:=(R0×R0)×Int
abbrev Rj:=ByteArray×Int
theorem oB {α β:Type} {a:α} {f:α→Option β}:(some a).bind f=f a:=rfl
theorem dT {p:Prop} [i:Decidable p] (h:p):decide p=true:=decide_eq_true h
theorem dF {p:Prop} [i:Decidable p] (h:¬p):¬(decide p=true):=fun q=>h (of_decide_eq_true q)
theorem nA {α:Type _} {a b:List α}:(a++b).length=a.length+b.length:=List.length_append
theorem nC {α:Type _} {a:α} {b:List α}:(a :: b).length=b.length+1:=rfl
theorem nS {α:Type _} {a:List α} {i:Nat} {b:α}:(a.set i b).length=a.length:=List.length_set
theorem nK {α:Type _} {i:Nat} {a:List α}:(a.take i).length=min i a.length:=List.length_take
theorem nN {α:Type _}:([]:List α).length=0:=rfl
theorem Sl.k0 {α:Type} {r:Zc α} {col:Zg} {w:World} {a:Option Addr} {c:Nat} {xs:List α} (h:Sl r col w a c xs):Sl r (Zk col) w a c xs:=h.keep (Yu.start col w)
abbrev rU:Zc Int:=Zc.int .u32
abbrev rI:Zc Int:=Zc.int .i64
abbrev nI:Value:=.slice none (([]:List Int).length) 0
abbrev rQ:Zc R0:=Zc.pair (Zc.pair Zc.bool (Zc.slice rU)) (Zc.slice rU)
abbrev rO (t:Nat):Zc R0:=Zc.pair (Zc.pair Zc.bool (Zc.row t rU)) (Zc.row t rU)
abbrev rV:Zc R4:=Zc.slice Zc.str
abbrev rP:Zc R2:=Zc.slice rI
abbrev V6 (w0:World) (r:Bool):Ending→World→Prop:=fun e w'=>e= .returned (.bool r)∧Below w0.heap.size w0 w'
abbrev W8 (w0:World) (r:Int):Ending→World→Prop:=fun e w'=>e= .returned (.int .i64 r)∧Below w0.heap.size w0 w'
abbrev Vl (k:IntKind) (t c1:Nat) (col:Zg) (w0:World) (r:List Int):Ending→World→Prop:=fun e w'=>∃ (col':Zg) (ra1:Option Addr) (rc2:Nat),e= .returned ((.slice ra1 r.length rc2))∧Zl col w0 col' w'∧Zb (Zc.int k) t c1 col' w' ra1 rc2 r
abbrev Tt (t c1:Nat) (col:Zg) (w0:World) (r:Bool×List Int):Ending→World→Prop:=fun e w'=>∃ (col':Zg) (ra1:Option Addr) (rc2:Nat),e= .returned ((.agg #[.bool r.1,.slice ra1 r.2.length rc2]))∧Zl col w0 col' w'∧Zb (Zc.int .u32) t c1 col' w' ra1 rc2 r.2
abbrev V7 (t c1 c2:Nat) (col:Zg) (w0:World) (r:R3×List Int):Ending→World→Prop:=fun e w'=>∃ (col':Zg) (ra1:Option Addr) (rc2:Nat) (ra4:Option Addr) (rc5:Nat),e= .returned ((.agg #[.bool r.1.1,.slice ra1 r.1.2.length rc2,.slice ra4 r.2.length rc5]))∧Zl col w0 col' w'∧Zb (Zc.int .u32) t c1 col' w' ra1 rc2 r.1.2∧Zb (Zc.int .u32) t c2 col' w' ra4 rc5 r.2
abbrev Zkb (t c1 c2:Nat) (col:Zg) (w0:World) (r:R0×Int):Ending→World→Prop:=fun e w'=>∃ (col':Zg) (ra1:Option Addr) (rc2:Nat) (ra4:Option Addr) (rc5:Nat),e= .returned (.tuple #[(.agg #[.bool r.1.1.1,.slice ra1 r.1.1.2.length rc2,.slice ra4 r.1.2.length rc5]),.int .i64 r.2])∧Zl col w0 col' w'∧Zb (Zc.int .u32) t c1 col' w' ra1 rc2 r.1.1.2∧Zb (Zc.int .u32) t c2 col' w' ra4 rc5 r.1.2

theorem Zy {x:Int} (h:-9223372036854775808≤x∧x≤9223372036854775807):i64.wrap x=x:=by rw [IntKind.wrap_i64];omega
theorem Xh {α:Type} {c:Prop} [Decidable c] {x:Option α} (h:c):Z1 c x=x:=if_pos h
theorem Xd {α:Type} {xs:List α} {k:Nat} (h:k<xs.length):Zn xs (k:Int)=some xs[k]:=by rw [Zha];exact aO h
theorem wS {k:Nat} (h:k<9223372036854775807):i64.wrap ((k:Int)+1)=((k+1:Nat):Int):=by rw [Zy (by omega)];rfl
theorem Zj9 {α:Type} [DecidableEq α]:∀ {l r:List α},l.Nodup→(∀ x ∈ l,x ∈ r)→l.length≤r.length
 | [],_,_,_=>Nat.zero_le _
 | x :: l,r,h,a=>by
  have b:=List.nodup_cons.1 h
  have c:=a x aK
  have f:=Zj9 (r:=r.erase x) b.2 fun y d=>(List.mem_erase_of_ne (fun e=>b.1 (by rw [← e];exact d))).2 (a y (aE _ d))
  rw [List.length_erase_of_mem c] at f
  have:=List.length_pos_of_mem c
  rw [nC];omega
section
variable {K V:Type} [DecidableEq K]
theorem Zgv (p:K×V) (es:List (K×V)) (k:K):W1 (p :: es) k=if p.1=k then some p.2 else W1 es k:=by
 rw [W1,List.find?_cons]
 by_cases h:p.1=k
 ·rw [if_pos h,decide_eq_true h];rfl
 ·rw [if_neg h,decide_eq_false h];rfl
theorem Z8h (es:List (K×V)) (k k':K) (v:V) (h:W1 es k=none):W1 (es++[(k,v)]) k'=if k'=k then some v else W1 es k':=by
 induction es with
 | nil=>
  rw [cB,Zgv]
  by_cases hk:k=k'
  ·subst hk;simp
  ·rw [if_neg hk,if_neg (Ne.symm hk)]
 | cons p es a=>
  rw [Zgv] at h
  split at h
  ·cases h
  ·rename_i b
   rw [cK,Zgv,Zgv,a h]
   by_cases h1:p.1=k'
   ·rw [if_pos h1,if_pos h1,if_neg (fun e=>b (h1.trans e))]
   ·rw [if_neg h1,if_neg h1]
theorem Z8i (es:List (K×V)) (k k':K) (v:V):W1 (es.map fun p=>if p.1=k then (k,v) else p) k'=if k'=k then (W1 es k).map fun _=>v else W1 es k':=by
 induction es with
 | nil=>simp [W1]
 | cons p es a=>
  rw [List.map_cons,Zgv,Zgv,Zgv,a]
  by_cases h1:p.1=k
  ·rw [if_pos h1,if_pos h1]
   by_cases h2:k'=k
   ·subst h2;rw [if_pos rfl,if_pos rfl];rfl
   ·rw [if_neg (Ne.symm h2),if_neg h2,if_neg h2,if_neg (fun e=>h2 (e.symm.trans h1))]
  ·rw [if_neg h1,if_neg h1]
   by_cases h3:p.1=k'
   ·rw [if_pos h3,if_pos h3,if_neg (fun e=>h1 (h3.trans e))]
   ·rw [if_neg h3,if_neg h3]
theorem Zyp (es:List (K×V)) (k k':K) (v:V):W1 (Q2 es k v) k'=if k'=k then some v else W1 es k':=by
 rw [Q2]
 by_cases h:(W1 es k).isSome=true
 ·rw [if_pos h,Z8i]
  obtain ⟨u,a⟩:=Option.isSome_iff_exists.1 h
  rw [a];rfl
 ·rw [if_neg h]
  exact Z8h es k k' v (by simpa using h)
end
def Za:List Int→Nat
 | []=>0
 | x :: l=>x.toNat+4294967296 * Za l
def Zo (l:List Int):Prop:=∀ x ∈ l,0≤x∧x<4294967296
def Zf (n:Nat):List Int:=if n=0 then [] else ((n % 4294967296:Nat):Int) :: Zf (n / 4294967296)
termination_by n
decreasing_by omega
theorem Zo.nil:Zo []:=by simp [Zo]
theorem Zo.cons {x:Int} {l:List Int} (h:0≤x∧x<4294967296) (hl:Zo l):Zo (x :: l):=fun y a=>by
 rcases List.mem_cons.1 a with rfl | a
 ·exact h
 ·exact hl y a
theorem Zo.head {x:Int} {l:List Int} (h:Zo (x :: l)):0≤x∧x<4294967296:=h x aK
theorem Zo.tail {x:Int} {l:List Int} (h:Zo (x :: l)):Zo l:=fun y a=>h y (aE _ a)
theorem Zo.app {a b:List Int} (ha:Zo a) (hb:Zo b):Zo (a++b):=fun y c=>by
 rcases List.mem_append.1 c with h | h
 ·exact ha y h
 ·exact hb y h
theorem Zo.take {a:List Int} (h:Zo a) (k:Nat):Zo (a.take k):=fun y b=>h y (List.mem_of_mem_take b)
theorem Zo.drop {a:List Int} (h:Zo a) (k:Nat):Zo (a.drop k):=fun y b=>h y (List.mem_of_mem_drop b)
theorem Zo.zeros (k:Nat):Zo (aC k 0):=fun y a=>by
 rw [List.eq_of_mem_replicate a];decide
theorem Zo.set {a:List Int} (h:Zo a) (k:Nat) {v:Int} (hv:0≤v∧v<4294967296):Zo (a.set k v):=fun y b=>by
 rcases List.mem_or_eq_of_mem_set b with c | rfl
 ·exact h y c
 ·exact hv
theorem Zo.get {a:List Int} (h:Zo a) {k:Nat} (hk:k<a.length):0≤a[k]∧a[k]<4294967296:=h _ (List.getElem_mem hk)
theorem Y0:Za []=0:=rfl
theorem Wm (x:Int) (l:List Int):Za (x :: l)=x.toNat+4294967296 * Za l:=rfl
theorem Qb (a b:List Int):Za (a++b)=Za a+4294967296 ^ a.length * Za b:=by
 induction a with
 | nil=>simp [Za]
 | cons x a c=>
  rw [cK,Wm,Wm,c,nC,aW]
  grind
theorem Sc (k:Nat):Za (aC k 0)=0:=by
 induction k with
 | zero=>rfl
 | succ k a=>rw [List.replicate_succ,Wm,a];rfl
theorem Q3 {l:List Int} (h:Zo l):Za l<4294967296 ^ l.length:=by
 induction l with
 | nil=>simp [Za]
 | cons x l a=>
  have c:=h.head
  have b:=a h.tail
  rw [Wm,nC,aW]
  have d:(Za l+1) * 4294967296≤4294967296 ^ l.length * 4294967296:=aX _ b
  omega
theorem Z6 (n:Nat):Za (Zf n)=n:=by
 induction n using gM with
 | ind n a=>
  rw [Zf]
  split
  ·rename_i h;rw [h];rfl
  ·rename_i h
   rw [Wm,a (n / 4294967296) (by omega)]
   omega
theorem Vo:Zf 0=[]:=by rw [Zf,if_pos rfl]
theorem Ze7 {n:Nat} (h:n≠0):Zf n=((n % 4294967296:Nat):Int) :: Zf (n / 4294967296):=by rw [Zf,if_neg h]
theorem Uj:Zf 1=[1]:=by rw [Ze7 (by decide)];simp [Vo]
theorem Z9 (n:Nat):Zo (Zf n):=by
 induction n using gM with
 | ind n a=>
  rw [Zf]
  split
  ·exact .nil
  ·exact .cons (by omega) (a (n / 4294967296) (by omega))
theorem W0 {k n:Nat}:(Zf n).length≤k↔n<4294967296 ^ k:=by
 induction k generalizing n with
 | zero=>
  by_cases h:n=0
  ·subst h;simp [Vo]
  ·rw [Ze7 h];simp;omega
 | succ k a=>
  by_cases h:n=0
  ·subst h;simp [Vo];exact dO (by decide)
  ·rw [Ze7 h,nC,Nat.add_le_add_iff_right,a,aW]
   omega
theorem Yk {l:List Int} (h:Zo l):(Zf (Za l)).length≤l.length:=W0.2 (Q3 h)
theorem Zhw {n:Nat}:Zf n=[]↔n=0:=by
 by_cases h:n=0
 ·subst h;simp [Vo]
 ·rw [Ze7 h];simp [h]
theorem Zyh {x:Int} {l:List Int} (h:0≤x∧x<4294967296) (h0:x=0→Za l≠0):Zf (Za (x :: l))=x :: Zf (Za l):=by
 have a:Za (x :: l)≠0:=by
  rw [Wm]
  by_cases hx:x=0
  ·have:=h0 hx;omega
  ·omega
 rw [Ze7 a,Wm]
 congr 1
 ·omega
 ·congr 1;omega
theorem Z82 {a:List Int} {x:Int} (h:0<x):Za (a++[x])≠0:=by
 rw [Qb,Wm,Y0]
 have:0<4294967296 ^ a.length * (x.toNat+4294967296 * 0):=Nat.mul_pos (dO (by decide)) (by omega)
 omega
theorem Z8d {a:List Int} {x:Int} (h:Zo (a++[x])) (hx:x≠0):Zf (Za (a++[x]))=a++[x]:=by
 induction a with
 | nil=>
  have:=h.head
  rw [cB,Zyh this (fun e=>absurd e hx),Y0,Vo]
 | cons y a b=>
  have c:0≤x∧x<4294967296:=h x (by simp)
  rw [cK,Zyh h.head fun _=>Z82 (by omega),b h.tail]
theorem Zy5 (a:List Int):Za (a++[0])=Za a:=by rw [Qb];simp [Za]
theorem Zhu {l:List Int} (h:0<l.length):l.take (l.length - 1)++[l[l.length - 1]]=l:=by
 have:=fK (l.length - 1) l
 rw [aP (by omega),aI (by omega)] at this
 exact this
theorem Zok {n:Nat} (h:0<(Zf n).length):(Zf n)[(Zf n).length - 1]≠0:=by
 induction n using gM with
 | ind n b=>
  by_cases h0:n=0
  ·subst h0;simp [Vo] at h
  ·have e:=Ze7 h0
   by_cases h1:n / 4294967296=0
   ·have:Zf n=[((n % 4294967296:Nat):Int)]:=by rw [e,h1,Vo]
    simp only [this,List.length_singleton,kF,iB]
    omega
   ·have c:0<(Zf (n / 4294967296)).length:=by
     rw [Ze7 h1];simp
    have:=b (n / 4294967296) (by omega) c
    have d:(Zf n).length - 1=(Zf (n / 4294967296)).length - 1+1:=by rw [e];simp;omega
    have a:(Zf n)[(Zf n).length - 1]?=(Zf (n / 4294967296))[(Zf (n / 4294967296)).length - 1]?:=by
     rw [d]
     conv=>lhs;rw [e]
     rw [List.getElem?_cons_succ]
    rw [aO (by omega),aO (by omega)] at a
    rw [Option.some.inj a]
    exact this
theorem Sb {l:List Int} {k:Nat} (hk:k<l.length) (v:Int):Za (l.set k v)+4294967296 ^ k * (l[k]).toNat=Za l+4294967296 ^ k * v.toNat:=by
 induction l generalizing k with
 | nil=>simp at hk
 | cons x l a=>
  cases k with
  | zero=>simp only [iQ,Wm,iB,dD,bO];omega
  | succ k=>
   have h:=a (k:=k) (by simpa using hk)
   simp only [List.set_cons_succ,Wm,List.getElem_cons_succ,aW]
   grind
theorem Zsr {l:List Int} {k:Nat} (hk:k<l.length):Za (l.take (k+1))=Za (l.take k)+4294967296 ^ k * (l[k]).toNat:=by
 rw [List.take_add_one,aO hk,Qb,Option.toList_some,Wm,Y0,nK,aZ (by omega)]
 simp
theorem U7 {l:List Int} {k:Nat} (hk:k<l.length):Za (l.drop k)=(l[k]).toNat+4294967296 * Za (l.drop (k+1)):=by
 rw [aP hk,Wm]
theorem Ts (l:List Int) (k:Nat):Za l=Za (l.take k)+4294967296 ^ k * Za (l.drop k):=by
 by_cases h:k≤l.length
 ·conv=>lhs;rw [← fK k l]
  rw [Qb,nK,aZ h]
 ·rw [List.take_of_length_le (by omega),aI (by omega)];simp [Za]
theorem Ux {x:Int} (h:0≤x∧x<4294967296):u32.wrap x=x:=by rw [IntKind.wrap_u32];omega
theorem Xs {x:Int} (h:0≤x∧x<18446744073709551616):u64.wrap x=x:=by rw [IntKind.wrap_u64];omega
theorem Zg5 {x:Int}:Yl .u64 x 32=x / 4294967296:=by
 have:(min (32:Int).toNat u64.bits)=32:=by decide
 rw [Yl,this]
 exact gU _ (by decide)
def Zcm (a:List Int) (kk_L1:(List Int→Option R2)) (b:Bool):Option R2:=
  if b=true then (Z1 ((0:Int)≤(i64.wrap ((a.length:Int) - 1))∧(i64.wrap ((a.length:Int) - 1))≤(a.length:Int)) (kk_L1 (a.take (aA (i64.wrap ((a.length:Int) - 1)))))) else (some a)
def S8 (N:Nat):Nat→R2→Option R2
  | 0,_=>none
  | b+1,a=>if (decide (0<(a.length:Int)))=true then ((Zn a (i64.wrap ((a.length:Int) - 1))).bind fun c=>Zcm a (S8 N b) (decide (c=0))) else (Zcm a (S8 N b) false)
def Tf (N:Nat) (a:List Int):Option R2:=
  S8 N N a
theorem S0 {N x:Nat} {o:Option Addr} {col:Zg} {c:World} {k r:R2} (a:Tf N k=some r) (C:Sl rU col c o x k):
    Calls prog 139 #[.slice o k.length x] c (fun e w'=>∃ (col':Zg) (f:Option Addr) (d:Nat),e= .returned ((.slice f r.length d))∧Zl col c col' w'∧Sl rU col' w' f d r):=by
 refine Xk 2 (m:=21) func139 O O O O O ?_;rw [Tf.eq_1] at a;have g:=St.start col c;refine go ?_;refine Z0 [1000000] (fun p n v=>∃ w i j b l,l=p∧S8 N l b=some r∧St c (Zk col) w v∧Sl rU w v i j b∧[0].map n=[.slice i b.length j]) N ⟨_,_,_,_,_,O,a,g,(C.k0.ks g),O⟩ ?_;clear a;intro p n v E;obtain ⟨w,i,j,b,l,B,a,g,h,m⟩:=E;subst B;refine .lL [0] m ?_
 cases l with
 | zero=>rw [S8.eq_1] at a;cases a
 | succ l=>
  rw [S8.eq_2] at a;refine Zw<|Zw ?_;refine Wp.cutK [0,1000000] (fun n s=>∃ t u,Zcm b (S8 N l) u=some r∧St c (Zk col) t s∧Sl rU t s i j b∧[14].map n=[.bool u]) ?_ ?_
  ·intro n s D;obtain ⟨t,u,a,g,h,m⟩:=D;rw [Zcm.eq_1] at a;refine .lL [14] m ?_;refine Zp a (fun A a=>go ?_) fun A a=>go ?_
   ·obtain ⟨z,a⟩:=Z5 a;refine lv (v:=.slice i (aA (i64.wrap ((b.length:Int) - 1))) j) O O (Zkg underlying38 sizeOf119 O O z.1 (by have:=h.1.2;have:=z.2;omega))<|.ld (d:=19) (v:=(.slice i ((b.take (aA (i64.wrap ((b.length:Int) - 1)))).length) j)) (congrArg (fun p=>Value.slice i p j) (dY (show (aA (i64.wrap ((b.length:Int) - 1)))≤b.length by have:=z.2;omega)).symm) ?_;refine go ?_;exact ⟨l,by omega,O,⟨_,_,_,_,_,O,a,g,(h.take (aA (i64.wrap ((b.length:Int) - 1)))),O⟩⟩
   cases a;exact ⟨O,_,_,_,O,g.fin (cm []),g.fs h⟩
  refine go ?_;refine X9 a (fun y a=>go ?_) fun y a=>go ?_
  ·obtain ⟨F,q,a⟩:=bZ a;refine lI q (h.addr q) ?_;refine go ?_;refine lW (h.atInt q)<|go ?_;refine lV (.bool (decide (F=0))) (Xw (congrArg Value.bool y) O)<|Zj ?_;exact ⟨O,_,_,a,g,h,O⟩
  refine lV (.bool false) (X0 (congrArg Value.bool y) O)<|Zj ?_;exact ⟨O,_,_,a,g,h,O⟩
def Zf0 (N:Nat) (b c:List Int):Nat→Int→Option Int
  | 0,_=>none
  | f+1,a=>if (decide (0≤a))=true then ((Zn b a).bind fun d=>(Zn c a).bind fun e=>if (decide (d<e))=true then (some (-1)) else (if (decide (e<d))=true then (some 1) else ((Zf0 N b c f) (i64.wrap (a - 1))))) else (some 0)
def Zfz (N:Nat) (c d:List Int):Option Int:=
  (Tf N c).bind fun a=>(Tf N d).bind fun b=>if (!decide ((a.length:Int)=(b.length:Int)))=true then (if (decide ((a.length:Int)<(b.length:Int)))=true then (some (-1)) else (some 1)) else (Zf0 N a b N (i64.wrap ((a.length:Int) - 1)))
theorem Zqx {N s t:Nat} {l n:Option Addr} {col:Zg} {g:World} {o p:R2} {r:Int} (a:Zfz N o p=some r) (y:Sl rU col g l s o) (z:Sl rU col g n t p):
    Calls prog 137 #[.slice l o.length s,.slice n p.length t] g (W8 g r):=by
 refine Xk 4 (m:=45) func137 O O O O O ?_;rw [Zfz.eq_1] at a;have c:=St.start col g;refine go ?_;obtain ⟨F,G,a⟩:=bZ a;refine Zh (S0 G (y.k0.ks c)) fun _ _ ⟨_,M,P,u,L,f⟩=>⟨_,u,?_⟩;refine Wg O ?_;obtain ⟨C,K,a⟩:=bZ a;replace c:=c.grow L;refine Zh (S0 K (z.k0.ks c)) ?_;rintro _ I ⟨J,D,E,rfl,w,h⟩;refine ⟨_,O,go ?_⟩;replace f:=f.gr w;replace c:=c.grow w;refine Zp a (fun d a=>go ?_) fun d a=>go ?_
 ·refine Zp a (fun d a=>go ?_) fun d a=>go ?_
  ·cases a;exact ⟨O,O,c.below⟩
  cases a;exact ⟨O,O,c.below⟩
 refine Z0 [0,1,1000000] (fun A B m=>∃ e q k,k=A∧Zf0 N F C k q=some r∧St g (Zk col) e m∧Sl rU e m M P F∧Sl rU e m D E C∧[5].map B=[.int .i64 q]) N ⟨_,_,_,O,a,c,f,h,O⟩ ?_;clear a;intro A B m H;obtain ⟨e,q,k,v,a,c,f,h,x⟩:=H;subst v;refine .lL [5] x ?_
 cases k with
 | zero=>rw [Zf0.eq_1] at a;cases a
 | succ k=>
  rw [Zf0.eq_2] at a;refine go ?_;refine Zp a (fun d a=>go ?_) fun d a=>go ?_
  ·refine Vp (col:=e) (by kernel_rfl) (by kernel_rfl)<|go ?_;obtain ⟨_,j,a⟩:=bZ a;refine qI j (f.addr j)<|qW (fun _ b=>(f.gr (b.bl e)).atInt j) ?_;refine go ?_;obtain ⟨_,i,a⟩:=bZ a;refine qI i (h.addr i)<|qW (fun _ b=>(h.gr (b.bl e)).atInt i) ?_;refine go ?_;refine Wj ?_;intro _ b;replace b:=b.bl e;replace f:=f.gr b;replace h:=h.gr b;replace c:=c.grow b;refine Zp a (fun d a=>go ?_) fun d a=>go ?_
   ·cases a;exact ⟨O,O,c.below⟩
   refine Vp (col:=e) (by kernel_rfl) (by kernel_rfl)<|go ?_;refine qI j (f.addr j)<|qW (fun _ b=>(f.gr (b.bl e)).atInt j) ?_;refine go ?_;refine qI i (h.addr i)<|qW (fun _ b=>(h.gr (b.bl e)).atInt i) ?_;refine go ?_;refine Wj ?_;intro _ b;replace b:=b.bl e;replace c:=c.grow b;refine Zp a (fun d a=>go ?_) fun d a=>go ?_
   ·cases a;exact ⟨O,O,c.below⟩
   exact ⟨k,by omega,O,⟨_,_,_,O,a,c,f.gr b,h.gr b,O⟩⟩
  cases a;exact ⟨O,O,c.below⟩
theorem Z6n:Wk prog 119 1 4:=⟨Tryz.t119,_,rfl,rfl,rfl,rfl,rfl⟩
def Zeq (a:List Int):Option R2:=
  Z1 ((([]:List Int).length+a.length) * 4≤140737488355328∧([]:List Int).length+a.length≤maxLen) (some (([]:List Int)++a))
theorem Zn9 {f:Nat} {e:Option Addr} {col:Zg} {d:World} {c r:R2} (i:Nat) (a:Zeq c=some r) (b:Sl rU col d e f c):
    Calls prog 159 #[.slice e c.length f] d (Vl .u32 119 i col d r):=by
 refine Xk 2 (m:=8) func159 O O O O O ?_;rw [Zeq.eq_1] at a;have g:=St.start col d;refine go ?_;replace b:=b.k0;rcases Zso b with h | h
 ·replace a:some ([]:List Int)=some r:=by have b:=h.2;subst b;simpa [Z1,maxLen] using a
  refine lv (v:=.bool e.isNone) O O (Zke underlying38 O)<|.ld (d:=4) (v:=.bool true) (congrArg Value.bool h.1)<|Zj<|Ye O<|go ?_;cases a;exact ⟨O,_,none,0,O,g.fin (cm []),Zb.nil⟩
 refine lv (v:=.bool e.isNone) O O (Zke underlying38 O)<|.ld (d:=4) (v:=.bool false) (congrArg Value.bool h)<|Zj<|Yd O<|go ?_;refine Zr2 (col:=(Zk col)) (r:=rU) 1 O underlying38 Z6n O fun _ _ _ j l=>Wg O ?_;obtain ⟨k,a⟩:=Z5 a;refine Vw l (b.gr j).srcC k fun _ _ _ _ m n=>go ?_;cases a;replace g:=(g.grow j).kpp m;exact ⟨O,_,_,_,O,g.fin (cm [(1,i)]),g.fo n⟩
def Zo1 (a:Int) (kk_L1:(List Int→Int→Int→Option R2)) (b:List Int) (c:Int):Option R2:=
  kk_L1 b c (i64.wrap (a+1))
def Zi9 (b:List Int) (a:Int) (kk_L1:(List Int→Int→Int→Option R2)) (c d:Int):Option R2:=
  (Zn b a).bind fun e=>(some (b.set (aA a) (u32.wrap (e - (u32.wrap c))))).bind fun f=>Zo1 a kk_L1 f d
def Zi8 (a:List Int) (b:Int) (kk_L1:(List Int→Int→Int→Option R2)) (c:Int):Option R2:=
  (Zn a b).bind fun d=>if (decide ((u64.wrap d)<c))=true then (Zi9 a b kk_L1 c 1) else (Zi9 a b kk_L1 c 0)
def S7 (N:Nat) (c b:List Int):Nat→R2→Int→Int→Option R2
  | 0,_,_,_=>none
  | e+1,d,f,a=>if (decide (a<(c.length:Int)))=true then (if (decide (a<(b.length:Int)))=true then ((Zn b a).bind fun g=>Zi8 d a (S7 N c b e) (u64.wrap (f+(u64.wrap g)))) else (Zi8 d a (S7 N c b e) f)) else (some d)
def Zo0 (N:Nat) (a b:List Int):Option R2:=
  S7 N a b N a 0 0
theorem Z4l {N i x:Nat} {d v:Option Addr} {col:Zg} {f:World} {b k r:R2} (c:Nat) (a:Zo0 N b k=some r) (A:Za4 [c]=true) (S:Zb rU 119 c col f d i b) (p:Sl rU col f v x k):
    Calls prog 161 #[.slice d b.length i,.slice v k.length x] f (fun e w'=>∃ (col':Zg),e= .returned (.tuple #[])∧Zu (pS [c]) col f col' w'∧Zb rU 119 c col' w' d i r∧r.length=b.length):=by
 refine Zk1 (m:=40) (args:=[.slice d b.length i,.slice v k.length x]) func161 O O O O ?_;rw [Zo0.eq_1] at a;have g:=St.startL (l:=[c]) O col f;refine go ?_;refine Z0 [1,8,1000000] (fun B m M=>∃ P h Q q n,n=B∧S7 N b k n h Q q=some r∧St f (X7 [c] col) P M∧Zb rU 119 440 P M d i h∧h.length=b.length∧h.length=b.length∧[0,4,9].map m=[.slice d h.length i,.int .u64 Q,.int .i64 q]) N ⟨_,_,0,0,_,O,a,g,S.startL (Zdj A 0 O) (Zdi A 0 O),O,O,O⟩ ?_;clear a;intro B m M W;obtain ⟨P,h,Q,q,n,R,a,g,j,C,aa,l⟩:=W;subst R;refine .lL [0,4,9] l ?_;replace p:=p.keep (Yu.startL [c] col f)
 cases n with
 | zero=>rw [S7.eq_1] at a;cases a
 | succ n=>
  rw [S7.eq_2] at a;refine go ?_;refine Zp a (fun o a=>?_) fun o a=>go ?_
  ·refine X1<|Zw ?_;refine Wp.cutK [1,8,9,1000000] (fun m J=>∃ K s L,Zo1 q (S7 N b k n) s L=some r∧St f (X7 [c] col) K J∧Zb rU 119 440 K J d i s∧s.length=b.length∧s.length=b.length∧[0,4].map m=[.slice d s.length i,.int .u64 L]) ?_ ?_
   ·intro m J z;obtain ⟨K,s,L,a,g,X,Y,Z,l⟩:=z;rw [Zo1.eq_1] at a;refine .lL [0,4] l<|go ?_;exact ⟨n,by omega,O,⟨_,_,_,_,_,O,a,g,X,Y,Z,O⟩⟩
   refine Zg7<|Zw<|Wv<|Xy O<|Yr O<|Zj<|Zw<|Wv<|Xy O<|Yr O<|Zj<|Zw ?_;refine Wp.cutK [0,1,5,8,9,1000000] (fun m E=>∃ G u,Zi8 h q (S7 N b k n) u=some r∧St f (X7 [c] col) G E∧Zb rU 119 440 G E d i h∧[6].map m=[.int .u64 u]) ?_ ?_
   ·intro m E z;obtain ⟨G,u,a,g,j,l⟩:=z;rw [Zi8.eq_1] at a;refine .lL [6] l<|Zw<|Wv<|Yr O<|Zj<|Zw ?_;refine Wp.cutK [0,1,5,6,8,9,1000000] (fun m F=>∃ H I,Zi9 h q (S7 N b k n) u I=some r∧St f (X7 [c] col) H F∧Zb rU 119 440 H F d i h∧[4].map m=[.int .u64 I]) ?_ ?_
    ·intro m F z;obtain ⟨H,I,a,g,j,l⟩:=z;rw [Zi9.eq_1] at a;refine .lL [4] l<|go ?_;obtain ⟨T,t,a⟩:=bZ a;refine lI t (j.addr t)<|lW (j.atInt t) ?_;refine go ?_;refine lI t (j.addr t) ?_;obtain ⟨w,y,a⟩:=bZ a;have y:w=h.set (aA q) (u32.wrap (T - (u32.wrap u))):=(Option.some.inj y).symm;refine Wc (x1:=u32.wrap (T - (u32.wrap u))) j t ?_;intro _ f l V;rw [← y] at V;have U:w.length=b.length:=(show h.length=w.length by rw [y,nS]).symm.trans C;refine .ld (d:=0) (v:=(.slice d w.length i)) (congrArg (fun B=>Value.slice d B i) (show h.length=w.length by rw [y,nS])) ?_;refine Zj ?_;replace g:=g.kp f l;exact ⟨O,_,_,_,a,g,V,U,U,O⟩
    refine go ?_;obtain ⟨_,C,a⟩:=bZ a;refine lI C (j.addr C)<|lW (j.atInt C) ?_;refine go ?_;refine Zp a (fun o a=>go ?_) fun o a=>?_
    ·exact ⟨O,_,1,a,g,j,O⟩
    refine X1 ?_;exact ⟨O,_,0,a,g,j,O⟩
   refine go ?_;refine Zp a (fun o a=>go ?_) fun o a=>?_
   ·obtain ⟨_,D,a⟩:=bZ a;refine lI D ((p.ks g).addr D)<|lW ((p.ks g).atInt D) ?_;refine go ?_;exact ⟨O,_,_,a,g,j,O⟩
   refine X1 ?_;exact ⟨O,_,_,a,g,j,O⟩
  cases a;exact ⟨O,_,O,g.finL O (cm [(440,c)]),g.foL j,aa⟩
def U4 (N:Nat) (b:List Int):Option R2:=
  (Tf N b).bind fun a=>if (decide ((a.length:Int)=0))=true then (some ([]:List Int)) else ((Zeq a).bind fun c=>some c)
theorem Sk {N c:Nat} {h:Option Addr} {col:Zg} {e:World} {b r:R2} (i:Nat) (a:U4 N b=some r) (m:Sl rU col e h c b):
    Calls prog 152 #[.slice h b.length c] e (Vl .u32 119 i col e r):=by
 refine Xk 2 (m:=10) func152 O O O O O ?_;rw [U4.eq_1] at a;have d:=St.start col e;refine go ?_;obtain ⟨_,s,a⟩:=bZ a;refine Zh (S0 s (m.k0.ks d)) ?_;rintro _ n ⟨o,p,q,rfl,f,g⟩;refine ⟨_,O,go ?_⟩;replace d:=d.grow f;refine Zp a (fun l a=>go ?_) fun l a=>go ?_
 ·cases a;exact ⟨O,_,none,0,O,d.fin (cm []),Zb.nil⟩
 obtain ⟨_,x,a⟩:=bZ a;refine Zh (Zn9 1 x g) ?_;rintro _ t ⟨u,v,w,rfl,j,k⟩;refine ⟨_,O,go ?_⟩;cases a;replace d:=d.grow j;exact ⟨O,_,_,_,O,d.fin (cm [(1,i)]),d.fo k⟩
def Zi6 (N:Nat) (a b:List Int):Option Rf:=
  (Zfz N a b).bind fun c=>if (decide (c<0))=true then (some (([]:List Int),false)) else ((Tf N a).bind fun d=>(Zeq d).bind fun e=>(Tf N b).bind fun f=>(Zo0 N e f).bind fun g=>(U4 N g).bind fun i=>some (i,true))
theorem Zu0 {N k l:Nat} {q s:Option Addr} {col:Zg} {m:World} {b c:R2} {r:Rf} (v:Nat) (a:Zi6 N b c=some r) (n:Sl rU col m q k b) (o:Sl rU col m s l c):
    Calls prog 148 #[.slice q b.length k,.slice s c.length l] m (fun e w'=>∃ (col':Zg) (j:Option Addr) (i:Nat),e= .returned (.tuple #[.slice j r.1.length i,.bool r.2])∧Zl col m col' w'∧Zb rU 119 v col' w' j i r.1):=by
 refine Zde 4 5 (m:=20) (args:=[.slice q b.length k,.slice s c.length l]) func148 O O O O O ?_;rw [Zi6.eq_1] at a;have h:=St.start col m;refine go ?_;obtain ⟨_,L,a⟩:=bZ a;replace n:=n.k0;replace o:=o.k0;refine Zh (Zqx L (n.ks h) (o.ks h)) fun _ _ ⟨d,w⟩=>⟨_,d,?_⟩;replace w:=Ru (Zk col) w;refine go ?_;replace h:=h.grow w;refine Zp a (fun A a=>go ?_) fun A a=>go ?_
 ·cases a;exact ⟨O,_,none,0,O,h.fin (cm []),Zb.nil⟩
 obtain ⟨_,F,a⟩:=bZ a;refine Zh (S0 F (n.ks h)) fun _ _ ⟨_,_,_,d,Q,J⟩=>⟨_,d,?_⟩;obtain ⟨C,H,a⟩:=bZ a;refine Zh (Zn9 1 H J) ?_;rintro _ U ⟨V,f,g,rfl,E,p⟩;refine ⟨_,O,go ?_⟩;obtain ⟨_,K,a⟩:=bZ a;replace h:=(h.grow Q).grow E;refine Zh (S0 K (o.ks h)) fun _ _ ⟨_,_,_,d,D,M⟩=>⟨_,d,?_⟩;obtain ⟨u,I,a⟩:=bZ a;refine Zh (Z4l 1 I O (p.gr D) M) fun _ S ⟨z,d,T,R,B⟩=>⟨_,d,?_⟩;refine .ld (d:=6) (v:=(.slice f u.length g)) (congrArg (fun x=>Value.slice f x g) (show C.length=u.length from B.symm)) ?_;refine .ld (d:=14) (v:=(.slice f u.length g)) (congrArg (fun x=>Value.slice f x g) (show C.length=u.length from B.symm)) ?_;refine go ?_;obtain ⟨_,G,a⟩:=bZ a;refine Zh (Sk 2 G (R.toSlF (Ze.int .u32))) fun _ _ ⟨P,_,_,d,t,y⟩=>⟨_,d,?_⟩;replace y:=y.thaw (Zt .u32) t ((Fz.refl (col:=z)).froz 1);replace t:=t.thawR (col:=z);generalize Z2 S.heap.size z P=W at *;refine go ?_;cases a;replace h:=((h.grow D).kpp T).grow t;exact ⟨O,_,_,_,O,h.fin (cm [(2,v)]),h.fo y⟩
def Zow (a:Nat) (kk_L1:(Nat→R2→Int→Option R2)) (b:List Int) (c:Int):Option R2:=
  kk_L1 (a+1) b c
def Zi4 (a:Nat) (b:List Int) (kk_L1:(Nat→R2→Int→Option R2)) (c:Int):Option R2:=
  (Zn b (a:Int)).bind fun e=>(some (b.set (aA (a:Int)) (u32.wrap c))).bind fun d=>Zow a kk_L1 d (Yl .u64 c 32)
def Qv (N:Nat) (c d:List Int):List Int→Nat→R2→Int→Option R2
  | [],a,b,e=>(Zn b (c.length:Int)).bind fun l=>(some (b.set (aA (c.length:Int)) (u32.wrap e))).bind fun i=>(U4 N i).bind fun j=>some j
  | f :: g,a,b,e=>if (decide ((a:Int)<(d.length:Int)))=true then ((Zn d (a:Int)).bind fun k=>Zi4 a b (Qv N c d g) (u64.wrap ((u64.wrap (e+(u64.wrap f)))+(u64.wrap k)))) else (Zi4 a b (Qv N c d g) (u64.wrap (e+(u64.wrap f))))
def Zi3 (N:Nat) (a b:List Int):Option R2:=
  Z1 ((aA (i64.wrap ((a.length:Int)+1))) * 4≤281474976710656∧(aA (i64.wrap ((a.length:Int)+1)))≤maxLen∧0≤(i64.wrap ((a.length:Int)+1))) (Qv N a b a 0 (aC (aA (i64.wrap ((a.length:Int)+1))) (0:Int)) 0)
def Zly (N:Nat) (c d:List Int):Option R2:=
  (Tf N c).bind fun a=>(Tf N d).bind fun b=>if (decide ((a.length:Int)<(b.length:Int)))=true then (Zi3 N b a) else (Zi3 N a b)
theorem Z4h {N X y:Nat} {V W:Option Addr} {col:Zg} {d:World} {R S r:R2} (C:Nat) (a:Zly N R S=some r) (q:Sl rU col d V X R) (z:Sl rU col d W y S):
    Calls prog 147 #[.slice V R.length X,.slice W S.length y] d (Vl .u32 119 C col d r):=by
 refine Xk 4 (m:=62) func147 O O O O O ?_;rw [Zly.eq_1] at a;have b:=St.start col d;refine go ?_;obtain ⟨_,I,a⟩:=bZ a;refine Zh (S0 I (q.k0.ks b)) fun _ _ ⟨_,_,_,l,U,a4⟩=>⟨_,l,?_⟩;refine Wg O ?_;obtain ⟨_,M,a⟩:=bZ a;replace b:=b.grow U;refine Zh (S0 M (z.k0.ks b)) fun _ _ ⟨_,_,_,l,U,aj⟩=>⟨_,l,?_⟩;refine So O<|So O<|Zj<|Zw ?_;replace a4:=a4.gr U;replace b:=b.grow U;refine Wp.cutK [1000000] (fun i M=>∃ L u v c w x k,Zi3 N c k=some r∧St d (Zk col) L M∧Sl rU L M u v c∧Sl rU L M w x k∧[0,1].map i=[.slice u c.length v,.slice w k.length x]) ?_ ?_
 ·intro i M T;obtain ⟨L,u,v,c,w,x,k,a,b,e,f,h⟩:=T;rw [Zi3.eq_1] at a;refine .lL [0,1] h<|go ?_;obtain ⟨z,a⟩:=Z5 a;refine T6 (col:=L) (w:=M) (r:=rU) (n:=(aA (i64.wrap ((c.length:Int)+1)))) (x0:=0) 1 O underlying38 Tryz.t119 O O O O O (congrArg (Value.int _) (bA z.2.2).symm) (congrArg (Value.int _) (bA z.2.2).symm) z.1 z.2.1 (Tx .u32 0) fun _ _ _ D V=>go ?_;replace e:=e.gr D;replace f:=f.gr D;replace b:=b.grow D;refine Z0 [0,1,24,25,1000000] (fun t i K=>∃ n m o p j Q P,t=P.length∧c.drop m=P∧Qv N c k P m j Q=some r∧St d (Zk col) n K∧Sl rU n K u v c∧Sl rU n K w x k∧Zb rU 119 1 n K o p j∧[26,5,6].map i=[.int .i64 m,.slice o j.length p,.int .u64 Q]) c.length ⟨_,0,_,_,_,0,_,O,O,a,b,e,f,V,O⟩ ?_;clear a;intro t i K L;obtain ⟨n,m,o,p,j,Q,P,Z,B,a,b,e,f,s,h⟩:=L;subst Z;refine .lL [26,5,6] h ?_
  cases P with
  | nil=>
   have F:¬ ((m:Int)<(c.length:Int)):=by have:=aF.1 B;omega
   have g:=decide_eq_false F;rw [Qv.eq_1] at a;refine go ?_;refine Yd (congrArg Value.bool g)<|go ?_;obtain ⟨_,E,a⟩:=bZ a;refine lI E (s.addr E) ?_;obtain ⟨H,A,a⟩:=bZ a;have A:H=j.set (aA (c.length:Int)) (u32.wrap Q):=(Option.some.inj A).symm;refine Wc (x1:=u32.wrap Q) s E ?_;intro Q au av q;rw [← A] at q;refine .ld (d:=5) (v:=(.slice o H.length p)) (congrArg (fun t=>Value.slice o t p) (show j.length=H.length by rw [A,nS])) ?_;refine go ?_;obtain ⟨_,J,a⟩:=bZ a;refine Zh (Sk 2 J (q.toSlF (Ze.int .u32))) fun _ _ ⟨P,_,_,l,Y,G⟩=>⟨_,l,?_⟩;replace G:=G.thaw (Zt .u32) Y ((Fz.refl (col:=n)).froz 1);replace Y:=Y.thawR (col:=n);generalize Z2 Q.heap.size n P=l at *;refine go ?_;cases a;replace b:=(b.kp au av).grow Y;exact ⟨O,_,_,_,O,b.fin (cm [(2,C)]),b.fo G⟩
  | cons l K=>
   obtain ⟨n,W,X⟩:=Yo B;have F:(m:Int)<(c.length:Int):=by omega
   have g:=decide_eq_true F;rw [Qv.eq_2] at a;refine go ?_;refine Ye (congrArg Value.bool g)<|X1<|Zw ?_;refine Wp.cutK [0,1,24,25,26,1000000] (fun i I=>∃ J g A Z B,Zow m (Qv N c k K) Z B=some r∧St d (Zk col) J I∧Sl rU J I u v c∧Sl rU J I w x k∧Zb rU 119 1 J I g A Z∧[5,6].map i=[.slice g Z.length A,.int .u64 B]) ?_ ?_
   ·intro i I T;obtain ⟨J,g,A,Z,B,a,b,e,f,F,h⟩:=T;rw [Zow.eq_1] at a;refine .lL [5,6] h<|go ?_;exact ⟨K.length,by simp,O,⟨_,_,_,_,_,_,_,O,W,a,b,e,f,F,(Yv (congrArg (Value.int .i64) (Yp (aG X e.1.1))) O)⟩⟩
   refine go ?_;refine lI n (e.addr n)<|lW (e.atInt n)<|Yr O<|Yr O<|Zj<|Zw<|Wv<|Xy O<|Xy O<|lV (.int .u64 (u64.wrap l)) (Zm7 l ⟨_,underlying119⟩ underlying118 O)<|lV _ (Qg _ _ O O)<|Yr O<|Zj<|Zw ?_;refine Wp.cutK [0,1,24,25,26,5,7,1000000] (fun i G=>∃ H q,Zi4 m j (Qv N c k K) q=some r∧St d (Zk col) H G∧Sl rU H G u v c∧Sl rU H G w x k∧Zb rU 119 1 H G o p j∧[6].map i=[.int .u64 q]) ?_ ?_
   ·intro i G T;obtain ⟨H,q,a,b,e,f,s,h⟩:=T;rw [Zi4.eq_1] at a;refine .lL [6] h<|go ?_;obtain ⟨_,z,a⟩:=bZ a;refine lI z (s.addr z) ?_;obtain ⟨D,c,a⟩:=bZ a;have c:D=j.set (aA (m:Int)) (u32.wrap q):=(Option.some.inj c).symm;refine Wc (x1:=u32.wrap q) s z ?_;intro _ E h d;rw [← c] at d;refine .ld (d:=5) (v:=(.slice o D.length p)) (congrArg (fun t=>Value.slice o t p) (show j.length=D.length by rw [c,nS])) ?_;refine go ?_;refine lV (.int .u64 (Yl .u64 q 32)) (Sw q 32 O O (by decide))<|go ?_;replace e:=e.kp E;replace f:=f.kp E;replace b:=b.kp E h;exact ⟨O,_,_,_,_,_,a,b,e,f,d,O⟩
   refine go ?_;refine Zp a (fun C a=>go ?_) fun C a=>?_
   ·obtain ⟨_,y,a⟩:=bZ a;refine lI y (f.addr y)<|lW (f.atInt y) ?_;refine go ?_;exact ⟨O,_,_,a,b,e,f,s,O⟩
   refine X1 ?_;exact ⟨O,_,_,a,b,e,f,s,O⟩
 refine go ?_;refine Zp a (fun C a=>go ?_) fun C a=>?_
 ·exact ⟨O,_,_,_,_,_,_,_,a,b,aj,a4,O⟩
 refine X1 ?_;exact ⟨O,_,_,_,_,_,_,_,a,b,a4,aj,O⟩
def Zd7 (e:List Int) (a:Nat) (kk_L1:(Nat→R2→Option R2)) (f:Int):List Int→Nat→R2→Int→Option R2
  | [],c,b,d=>(Zn b (i64.wrap ((a:Int)+(e.length:Int)))).bind fun m=>(some (b.set (aA (i64.wrap ((a:Int)+(e.length:Int)))) (u32.wrap d))).bind fun j=>kk_L1 (a+1) j
  | g :: k,c,b,d=>(Zn b (i64.wrap ((a:Int)+(c:Int)))).bind fun i=>(some (b.set (aA (i64.wrap ((a:Int)+(c:Int)))) (u32.wrap (u64.wrap (d+(u64.wrap ((u64.wrap ((u64.wrap f) * (u64.wrap g)))+(u64.wrap i)))))))).bind fun l=>(Zd7 e a kk_L1 f k) (c+1) l (Yl .u64 (u64.wrap (d+(u64.wrap ((u64.wrap ((u64.wrap f) * (u64.wrap g)))+(u64.wrap i))))) 32)
def Zbl (N:Nat) (a:List Int):List Int→Nat→R2→Option R2
  | [],c,b=>(U4 N b).bind fun d=>some d
  | e :: f,c,b=>Zd7 a c (Zbl N a f) e a 0 b 0
def Zbk (N:Nat) (c d:List Int):Option R2:=
  (Tf N c).bind fun a=>(Tf N d).bind fun b=>Z1 ((aA (i64.wrap ((a.length:Int)+(b.length:Int)))) * 4≤281474976710656∧(aA (i64.wrap ((a.length:Int)+(b.length:Int))))≤maxLen∧0≤(i64.wrap ((a.length:Int)+(b.length:Int)))) (Zbl N b a 0 (aC (aA (i64.wrap ((a.length:Int)+(b.length:Int)))) (0:Int)))
theorem Zky {N x A:Nat} {X Y:Option Addr} {col:Zg} {j:World} {B W r:R2} (Q:Nat) (a:Zbk N B W=some r) (h0:Sl rU col j X x B) (h1:Sl rU col j Y A W):
    Calls prog 114 #[.slice X B.length x,.slice Y W.length A] j (Vl .u32 119 Q col j r):=by
 refine Xk 4 (m:=71) func114 O O O O O ?_;rw [Zbk.eq_1] at a;have e:=St.start col j;refine go ?_;obtain ⟨g,Y,a⟩:=bZ a;refine Zh (S0 Y (h0.k0.ks e)) fun _ _ ⟨_,bh,bi,G,A,h⟩=>⟨_,G,?_⟩;refine Wg O ?_;obtain ⟨d,x,a⟩:=bZ a;replace e:=e.grow A;refine Zh (S0 x (h1.k0.ks e)) ?_;rintro _ aw ⟨ax,C,D,rfl,am,f⟩;refine ⟨_,O,go ?_⟩;obtain ⟨B,a⟩:=Z5 a;refine T6 (col:=ax) (w:=aw) (r:=rU) (n:=(aA (i64.wrap ((g.length:Int)+(d.length:Int))))) (x0:=0) 1 O underlying38 Tryz.t119 O O O O O (congrArg (Value.int _) (bA B.2.2).symm) (congrArg (Value.int _) (bA B.2.2).symm) B.1 B.2.1 (Tx .u32 0) fun x _ Y X A=>go ?_;replace h:=(h.gr am).gr X;replace e:=(e.grow am).grow X;replace f:=f.gr X;refine Zt7 (fun q c y=>∃ (m:Zg) (k:Nat) (U:Option Addr) (T:Nat) (V:List Int) (R:List Int),q=R.length∧g.drop k=R∧Zbl N d R k V=some r∧St j (Zk col) m y∧Sl rU m y C D d∧Sl rU m y bh bi g∧Zb rU 119 1 m y U T V∧c 23=(.int .i64 k)∧c 1=(.slice C d.length D)∧c 21=(.slice bh g.length bi)∧c 22=(.int .i64 g.length)∧c 5=(.slice U V.length T)∧c 1000000=(enc [])) g.length ⟨Y,0,x,(aA (i64.wrap ((g.length:Int)+(d.length:Int)))),(aC (aA (i64.wrap ((g.length:Int)+(d.length:Int)))) (0:Int)),g,O,O,a,e,f,h,A,O,O,O,O,O,O⟩ ?_;clear a;intro q c y bj;obtain ⟨m,k,U,T,V,R,H,n,a,e,f,h,F,bk,I,J,K,L,M⟩:=bj;subst H;refine .lD 23 bk<|.lD 1 I<|.lD 21 J<|.lD 22 K<|.lD 5 L<|.lD 1000000 M ?_
 cases R with
 | nil=>
  have i:¬ ((k:Int)<(g.length:Int)):=by have:=aF.1 n;omega
  have b:=decide_eq_false i;rw [Zbl.eq_1] at a;refine go ?_;refine Yd (congrArg Value.bool b)<|go ?_;obtain ⟨_,R,a⟩:=bZ a;refine Zh (Sk 2 R (F.toSlF (Ze.int .u32))) fun _ _ ⟨R,_,_,G,Z,E⟩=>⟨_,G,?_⟩;replace E:=E.thaw (Zt .u32) Z ((Fz.refl (col:=m)).froz 1);replace Z:=Z.thawR (col:=m);generalize Z2 y.heap.size m R=y at *;refine go ?_;cases a;replace e:=e.grow Z;exact ⟨O,_,_,_,O,e.fin (cm [(2,Q)]),e.fo E⟩
 | cons w P=>
  obtain ⟨u,a5,a6⟩:=Yo n;have i:(k:Int)<(g.length:Int):=by omega
  have b:=decide_eq_true i;rw [Zbl.eq_2] at a;refine go ?_;refine Ye (congrArg Value.bool b)<|go ?_;refine lI u (h.addr u)<|lW (h.atInt u) ?_;refine go ?_;refine Zt7 (fun q c Q=>∃ (v:Zg) (t:Nat) (p:Option Addr) (o:Nat) (s:List Int) (l:Int) (S:List Int),q=S.length∧d.drop t=S∧Zd7 d k (Zbl N d P) w S t s l=some r∧St j (Zk col) v Q∧Sl rU v Q C D d∧Sl rU v Q bh bi g∧Zb rU 119 1 v Q p o s∧c 30=(.int .i64 t)∧c 1=(.slice C d.length D)∧c 21=(.slice bh g.length bi)∧c 22=(.int .i64 g.length)∧c 23=(.int .i64 k)∧c 28=(.slice C d.length D)∧c 29=(.int .i64 d.length)∧c 5=(.slice p s.length o)∧c 6=(.int .i64 k)∧c 7=(.int .u32 w)∧c 8=(.int .u64 l)∧c 1000000=(enc [])) d.length ⟨m,0,U,T,V,0,d,O,O,a,e,f,h,F,O,O,O,O,O,O,O,O,O,O,O,O⟩ ?_;clear a;intro q c Q bj;obtain ⟨v,t,p,o,s,l,S,H,n,a,e,f,h,z,a7,I,J,K,bk,a8,a9,L,ba,bb,bc,M⟩:=bj;subst H;refine .lD 30 a7<|.lD 1 I<|.lD 21 J<|.lD 22 K<|.lD 23 bk<|.lD 28 a8<|.lD 29 a9<|.lD 5 L<|.lD 6 ba<|.lD 7 bb<|.lD 8 bc<|.lD 1000000 M ?_
  cases S with
  | nil=>
   have i:¬ ((t:Int)<(d.length:Int)):=by have:=aF.1 n;omega
   have b:=decide_eq_false i;rw [Zd7.eq_1] at a;refine go ?_;refine Yd (congrArg Value.bool b)<|go ?_;obtain ⟨_,A,a⟩:=bZ a;refine lI A (z.addr A) ?_;obtain ⟨j,g,a⟩:=bZ a;have g:j=s.set (aA (i64.wrap ((k:Int)+(d.length:Int)))) (u32.wrap l):=(Option.some.inj g).symm;refine Wc (x1:=u32.wrap l) z A ?_;intro _ B y c;rw [← g] at c;refine .ld (d:=5) (v:=(.slice p j.length o)) (congrArg (fun q=>Value.slice p q o) (show s.length=j.length by rw [g,nS])) ?_;refine go ?_;replace f:=f.kp B;replace h:=h.kp B;replace e:=e.kp B y;exact ⟨P.length,by simp,⟨v,(k+1),p,o,j,P,O,a5,a,e,f,h,c,(congrArg (Value.int .i64) (Yp (aG a6 h.1.1))),O,O,O,O,O⟩⟩
  | cons U m=>
   obtain ⟨u,E,G⟩:=Yo n;have i:(t:Int)<(d.length:Int):=by omega
   have b:=decide_eq_true i;rw [Zd7.eq_2] at a;refine go ?_;refine Ye (congrArg Value.bool b)<|go ?_;refine lI u (f.addr u)<|lW (f.atInt u) ?_;refine go ?_;obtain ⟨T,x,a⟩:=bZ a;refine lI x (z.addr x)<|lW (z.atInt x) ?_;refine go ?_;refine lI x (z.addr x) ?_;obtain ⟨i,b,a⟩:=bZ a;have b:i=s.set (aA (i64.wrap ((k:Int)+(t:Int)))) (u32.wrap (u64.wrap (l+(u64.wrap ((u64.wrap ((u64.wrap w) * (u64.wrap U)))+(u64.wrap T)))))):=(Option.some.inj b).symm;refine Wc (x1:=u32.wrap (u64.wrap (l+(u64.wrap ((u64.wrap ((u64.wrap w) * (u64.wrap U)))+(u64.wrap T)))))) z x ?_;intro _ F k d;rw [← b] at d;refine .ld (d:=5) (v:=(.slice p i.length o)) (congrArg (fun q=>Value.slice p q o) (show s.length=i.length by rw [b,nS])) ?_;refine go ?_;refine lV (.int .u64 (Yl .u64 (u64.wrap (l+(u64.wrap ((u64.wrap ((u64.wrap w) * (u64.wrap U)))+(u64.wrap T))))) 32)) (Sw (u64.wrap (l+(u64.wrap ((u64.wrap ((u64.wrap w) * (u64.wrap U)))+(u64.wrap T))))) 32 O O (by decide))<|go ?_;replace f:=f.kp F;exact ⟨m.length,by simp,⟨v,(t+1),p,o,i,(Yl .u64 (u64.wrap (l+(u64.wrap ((u64.wrap ((u64.wrap w) * (u64.wrap U)))+(u64.wrap T))))) 32),m,O,E,a,e.kp F k,f,h.kp F,d,(congrArg (Value.int .i64) (Yp (aG G f.1.1))),O,O,O,O,O,O,O,O,O,O,O⟩⟩
def Zck (N:Nat) (a:Int):Option R2:=
  (U4 N [u32.wrap a,u32.wrap (Yl .u64 a 32)]).bind fun b=>some b
theorem Zkz {N:Nat} {col:Zg} {c:World} {a:Int} {r:R2} (f:Nat) (b:Zck N a=some r):
    Calls prog 118 #[.int .u64 a] c (Vl .u32 119 f col c r):=by
 refine Xk 2 (m:=10) func118 O O O O O ?_;rw [Zck.eq_1] at b;have e:=St.start col c;refine go ?_;refine lV (.int .u64 (Yl .u64 a 32)) (Sw a 32 O O (by decide))<|go ?_;refine Vn (col:=(Zk col)) [u32.wrap a,u32.wrap (Yl .u64 a 32)] 1 ?_;intro _ m g n k;obtain ⟨_,j,b⟩:=bZ b;refine Zh (Sk 2 j (k.toSlF (Ze.int .u32))) fun _ _ ⟨l,_,_,i,d,h⟩=>⟨_,i,?_⟩;replace h:=h.thaw (Zt .u32) d ((Fz.refl (col:=g)).froz 1);replace d:=d.thawR (col:=g);generalize Z2 m.heap.size g l=o at *;refine go ?_;cases b;replace e:=(e.grow n).grow d;exact ⟨O,_,_,_,O,e.fin (cm [(2,f)]),e.fo h⟩
def Zf2 (N:Nat) (a:List Int):Option R2:=
  (U4 N a).bind fun b=>some b
theorem Zqy {N c:Nat} {h:Option Addr} {col:Zg} {a:World} {b r:R2} (i:Nat) (d:Zf2 N b=some r) (m:Sl rU col a h c b):
    Calls prog 117 #[.slice h b.length c] a (Vl .u32 119 i col a r):=by
 refine Xk 2 (m:=5) func117 O O O O O ?_;rw [Zf2.eq_1] at d;have e:=St.start col a;refine go ?_;obtain ⟨_,o,d⟩:=bZ d;refine Zh (Sk 1 o (m.k0.ks e)) ?_;rintro _ j ⟨k,l,n,rfl,f,g⟩;refine ⟨_,O,go ?_⟩;cases d;replace e:=e.grow f;exact ⟨O,_,_,_,O,e.fin (cm [(1,i)]),e.fo g⟩
theorem Zqe (N:Nat):∀ (n:Nat) (a:List Int),Zo a→a.length<n→a.length<4611686018427387904→S8 N n a=some (Zf (Za a))
 | 0,a,_,h,_=>by omega
 | n+1,a,h,f,g=>by
  rw [S8.eq_2]
  by_cases h0:0<a.length
  ·have e:(a.length:Int) - 1=((a.length - 1:Nat):Int):=by omega
   rw [if_pos (by simpa using h0),Zy (by omega),e,Xd (by omega),oB,Zcm,Zy (by omega),e]
   by_cases hx:a[a.length - 1]=0
   ·rw [if_pos (by simpa using hx),Xh (by omega),aB,Zqe N n _ (h.take _) (by rw [nK];omega) (by rw [nK];omega)]
    conv=>rhs;rw [← Zhu h0,hx,Zy5]
   ·rw [if_neg (by simpa using hx)]
    have b:=Zhu h0
    have c:=Z8d (a:=a.take (a.length - 1)) (x:=a[a.length - 1]) (by rw [b];exact h) hx
    rw [b] at c
    rw [c]
  ·have d:a=[]:=cJ (by omega)
   subst d
   rw [if_neg (by simp),Zcm,if_neg (by decide),Y0,Vo]
theorem Qh {N:Nat} {a:List Int} (h:Zo a) (hn:a.length<N) (hb:a.length≤35184372088000):Tf N a=some (Zf (Za a)):=by
 rw [Tf];exact Zqe N N a h hn (by omega)
theorem Zrd {a:List Int} (hb:a.length≤35184372088832):Zeq a=some a:=by
 rw [Zeq,Xh (by simp only [nN,maxLen];omega),cB]
theorem Qc {N:Nat} {a:List Int} (h:Zo a) (hn:a.length<N) (hb:a.length≤35184372088000):U4 N a=some (Zf (Za a)):=by
 rw [U4,Qh h hn hb,oB]
 have b:=Yk h
 by_cases h0:Zf (Za a)=[]
 ·rw [h0,if_pos (by decide)]
 ·have:0<(Zf (Za a)).length:=cA.2 h0
  rw [if_neg (by simp;exact h0),Zrd (by omega),oB]
theorem Zsq {N:Nat} {a:List Int} (h:Zo a) (hn:a.length<N) (hb:a.length≤35184372088000):Zf2 N a=some (Zf (Za a)):=by
 rw [Zf2,Qc h hn hb,oB]
theorem Zmy {N:Nat} {u:Int} (h:0≤u∧u<18446744073709551616) (hn:2<N):Zck N u=some (Zf u.toNat):=by
 have e:Za [u32.wrap u,u32.wrap (Yl .u64 u 32)]=u.toNat:=by
  rw [Zg5,Wm,Wm,Y0,IntKind.wrap_u32,IntKind.wrap_u32];omega
 have a:Zo [u32.wrap u,u32.wrap (Yl .u64 u 32)]:=by
  rw [Zg5,IntKind.wrap_u32,IntKind.wrap_u32]
  exact .cons (by omega) (.cons (by omega) .nil)
 rw [Zck,Qc a (by simpa using hn) (by simp),oB,e]
theorem Zvs (N:Nat) (a b:List Int) (ha:Zo a) (hb:Zo b) (hl:a.length=b.length) (hs:a.length<4611686018427387904):∀ (n i:Nat),i≤a.length→i<n→a.drop i=b.drop i→Zf0 N a b n ((i:Int) - 1)=some (if Za a<Za b then -1 else if Za b<Za a then 1 else 0)
 | 0,i,_,h,_=>by omega
 | n+1,i,q,r,c=>by
  rw [Zf0.eq_2]
  by_cases h0:i=0
  ·subst h0
   rw [if_neg (by decide)]
   rw [bF,bF] at c
   subst c
   rw [if_neg (by omega),if_neg (by omega)]
  ·have e:(i:Int) - 1=((i - 1:Nat):Int):=by omega
   have d:i - 1<a.length:=by omega
   have f:i - 1<b.length:=by omega
   have j:i - 1+1=i:=by omega
   rw [if_pos (by simp;omega),e,Xd d,oB,Xd f,oB]
   have s:=ha.get d
   have t:=hb.get f
   have k:=Ts a (i - 1)
   have l:=Ts b (i - 1)
   rw [U7 d,j] at k
   rw [U7 f,j,← c] at l
   have m:=Q3 (ha.take (i - 1))
   have o:=Q3 (hb.take (i - 1))
   rw [nK,aZ (by omega)] at m o
   have g:∀ x y:Nat,x<y→4294967296 ^ (i - 1) * (x+4294967296 * Za (a.drop i))+4294967296 ^ (i - 1)≤4294967296 ^ (i - 1) * (y+4294967296 * Za (a.drop i)):=fun x y p=>by
    rw [← Nat.mul_succ];exact aU _ (by omega)
   by_cases hlt:a[i - 1]<b[i - 1]
   ·have:=g _ _ (show (a[i - 1]).toNat<(b[i - 1]).toNat by omega)
    rw [if_pos (by simpa using hlt),if_pos (by omega)]
   ·rw [if_neg (by simpa using hlt)]
    by_cases hgt:b[i - 1]<a[i - 1]
    ·have:=g _ _ (show (b[i - 1]).toNat<(a[i - 1]).toNat by omega)
     rw [if_pos (by simpa using hgt),if_neg (by omega),if_pos (by omega)]
    ·rw [if_neg (by simpa using hgt),Zy (by omega)]
     have:=Zvs N a b ha hb hl hs n (i - 1) (by omega) (by omega) (by
      rw [aP d,aP f,j,c]
      congr 1;omega)
     exact this
theorem Zyi {m n:Nat} (h:(Zf m).length<(Zf n).length):m<n:=by
 have a:=W0 (k:=(Zf m).length) (n:=m)
 have b:=W0 (k:=(Zf m).length) (n:=n)
 have:=a.1 (aV _)
 have d:¬ n<4294967296 ^ (Zf m).length:=fun c=>by have:=b.2 c;omega
 omega
theorem Zrf {N:Nat} {a b:List Int} (ha:Zo a) (hb:Zo b) (h1:a.length<N) (h2:b.length<N) (h3:a.length≤35184372088000) (h4:b.length≤35184372088000):
  Zfz N a b=some (if Za a<Za b then -1 else if Za b<Za a then 1 else 0):=by
 have c:=Yk ha
 have d:=Yk hb
 rw [Zfz,Qh ha h1 h3,oB,Qh hb h2 h4,oB]
 by_cases he:(Zf (Za a)).length=(Zf (Za b)).length
 ·rw [if_neg (by simp [he]),Zy (by omega)]
  have:=Zvs N (Zf (Za a)) (Zf (Za b)) (Z9 _) (Z9 _) he (by omega) N (Zf (Za a)).length (aV _) (by omega) (by
   rw [aI (aV _),aI (by omega)])
  rw [this,Z6,Z6]
 ·rw [if_pos (by simp;omega)]
  by_cases hlt:(Zf (Za a)).length<(Zf (Za b)).length
  ·rw [if_pos (by simpa using hlt),if_pos (Zyi hlt)]
  ·have:=Zyi (m:=Za b) (n:=Za a) (by omega)
   rw [if_neg (by simpa using hlt),if_neg (by omega),if_pos this]
def Xu (b:List Int) (k:Nat):Nat:=(b.getD k 0).toNat
theorem Tg (b:List Int) (k:Nat):Za (b.drop k)=Xu b k+4294967296 * Za (b.drop (k+1)):=by
 by_cases h:k<b.length
 ·rw [U7 h,Xu,aD,aO h,cO]
 ·rw [aI (by omega),aI (by omega),Xu,aD,cR (by omega)];rfl
theorem Ze5 {b:List Int} (h:Zo b) (k:Nat):Xu b k<4294967296:=by
 rw [Xu,aD]
 by_cases hk:k<b.length
 ·have:=h.get hk
  rw [aO hk,cO];omega
 ·rw [cR (by omega)];decide
theorem drop_zero {l:List Int} {k:Nat} (h:Zo l) (hk:k<l.length) (h0:Za (l.drop k)=0):l[k]=0∧Za (l.drop (k+1))=0:=by
 have:=h.get hk
 rw [U7 hk] at h0
 omega
theorem Q9 {l:List Int} {k j:Nat} (v:Int) (h:k<j):(l.set k v).drop j=l.drop j:=by
 rw [List.drop_set,if_pos h]
theorem Z2q (S S' Q c x y v c' L D:Nat) (h1:S'=S+Q * v) (h2:c+x+y=v+4294967296 * c'):S'+Q * 4294967296 * (c'+L+D)=S+Q * (c+(x+4294967296 * L)+(y+4294967296 * D)):=by
 subst h1
 have:Q * (c+x+y)=Q * (v+4294967296 * c'):=by rw [h2]
 grind
theorem Zug (N:Nat) (a b:List Int) (ha:Zo a) (hb:Zo b) (hab:b.length≤a.length) (hN:a.length+1<N) (hs:a.length<35184372088000):∀ (l:List Int) (k:Nat) (sum:List Int) (c:Int),Zo l→a.length=k+l.length→sum.length=a.length+1→Zo sum→Za (sum.drop k)=0→0≤c∧c≤1→
  Qv N a b l k sum c=some (Zf (Za sum+4294967296 ^ k * (c.toNat+Za l+Za (b.drop k))))
 | [],k,sum,c,_,j,n,d,m,t=>by
  have o:k=a.length:=by simpa using j.symm
  subst o
  rw [Qv.eq_1,Xd (by omega),oB,oB,aB,Ux (by omega),
   Qc (d.set _ (by omega)) (by rw [nS];omega) (by rw [nS];omega),oB]
  have f:=Sb (l:=sum) (k:=a.length) (by omega) c
  have u:=(drop_zero d (by omega) m).1
  rw [u] at f
  rw [Y0,aI (by omega),Y0]
  have v:Za (sum.set a.length c)=Za sum+4294967296 ^ a.length * c.toNat:=by simpa using f
  rw [v];rfl
 | x :: l,k,sum,c,p,j,n,d,m,t=>by
  have q:a.length=k+1+l.length:=by rw [j,nC];omega
  have A:=p.head
  have g:=drop_zero d (by omega) m
  have B:=Ze5 hb k
  have r:sum[k]'(by omega)=0:=g.1
  -- the sum of one place
  have step:∀ s:Int,s=c+x+(Xu b k:Int)→Zi4 k sum (Qv N a b l) s=some (Zf (Za sum+4294967296 ^ k * (c.toNat+Za (x :: l)+Za (b.drop k)))):=fun s y=>by
   rw [Zi4,Xd (by omega),oB,oB,Zow,aB,Zg5]
   have w:0≤u32.wrap s∧u32.wrap s<4294967296:=by rw [IntKind.wrap_u32];omega
   rw [Zug N a b ha hb hab hN hs l (k+1) _ _ p.tail q (by rw [nS];exact n) (d.set _ w) (by rw [Q9 _ (by omega)];exact g.2) (by omega)]
   have f:=Sb (l:=sum) (k:=k) (by omega) (u32.wrap s)
   rw [r] at f
   rw [aW,Wm,Tg b k]
   congr 2
   exact Z2q _ _ _ _ _ _ (u32.wrap s).toNat _ _ _ (by simpa using f) (by rw [IntKind.wrap_u32];omega)
  rw [Qv.eq_2]
  have i:u64.wrap (c+u64.wrap x)=c+x:=by rw [Xs (x:=x) (by omega),Xs (by omega)]
  by_cases hkb:k<b.length
  ·have e:Xu b k=(b[k]).toNat:=by rw [Xu,aD,aO hkb,cO]
   have:=hb.get hkb
   rw [if_pos (by simpa using hkb),Xd hkb,oB,i,Xs (x:=b[k]) (by omega),Xs (by omega)]
   exact step _ (by omega)
  ·have e:Xu b k=0:=by rw [Xu,aD,cR (by omega)];rfl
   rw [if_neg (by simpa using hkb),i]
   exact step _ (by omega)
theorem Zuf {N:Nat} {a b:List Int} (ha:Zo a) (hb:Zo b) (hab:b.length≤a.length) (hN:a.length+1<N) (hs:a.length<35184372088000):Zi3 N a b=some (Zf (Za a+Za b)):=by
 rw [Zi3,Zy (by omega),Xh (by simp only [maxLen];omega),Zug N a b ha hb hab hN hs a 0 _ 0 ha (by omega) (by rw [aT];omega) (.zeros _) (by rw [bF];exact Sc _) (by omega),Sc,bF]
 simp
theorem Z2r {N:Nat} {a b:List Int} (ha:Zo a) (hb:Zo b) (h1:a.length+1<N) (h2:b.length+1<N) (h3:a.length<35184372088000) (h4:b.length<35184372088000):Zly N a b=some (Zf (Za a+Za b)):=by
 have c:=Yk ha
 have d:=Yk hb
 rw [Zly,Qh ha (by omega) (by omega),oB,Qh hb (by omega) (by omega),oB]
 by_cases h:(Zf (Za a)).length<(Zf (Za b)).length
 ·rw [if_pos (by simpa using h),Zuf (Z9 _) (Z9 _) (by omega) (by omega) (by omega),Z6,Z6,kG]
 ·rw [if_neg (by simpa using h),Zuf (Z9 _) (Z9 _) (by omega) (by omega) (by omega),Z6,Z6]
theorem Zyd (N:Nat) (a b:List Int) (ha:Zo a) (hb:Zo b) (hs:a.length<35184372088000):∀ (n k:Nat) (r:List Int) (c:Int),k≤a.length→a.length<n+k→r.length=a.length→Zo r→0≤c∧c≤1→r.drop k=a.drop k→
  4294967296 ^ k * (c.toNat+Za (b.drop k))≤4294967296 ^ k * Za (a.drop k)→
  ∃ r',S7 N a b n r c (k:Int)=some r'∧r'.length=a.length∧Zo r'∧Za r'+4294967296 ^ k * (c.toNat+Za (b.drop k))=Za r
 | 0,k,r,c,s,u,_,_,_,_,_=>by omega
 | n+1,k,r,c,s,u,i,j,E,m,o=>by
  have v:0<4294967296 ^ k:=dO (by decide)
  have f:c.toNat+Za (b.drop k)≤Za (a.drop k):=Nat.le_of_mul_le_mul_left o v
  rw [S7.eq_2]
  by_cases h0:k<a.length
  ·have F:=ha.get h0
   have g:r[k]'(by omega)=a[k]:=by
    have:(r.drop k)[0]'(by simp;omega)=(a.drop k)[0]'(by simp;omega):=by simp only [m]
    simpa using this
   have G:=Ze5 hb k
   rw [Tg b k,U7 h0] at f
   have step:∀ t:Int,t=c+(Xu b k:Int)→∃ r',Zi8 r (k:Int) (S7 N a b n) t=some r'∧r'.length=a.length∧Zo r'∧Za r'+4294967296 ^ k * (c.toNat+Za (b.drop k))=Za r:=fun t H=>by
    have w:0≤u32.wrap (a[k] - u32.wrap t)∧u32.wrap (a[k] - u32.wrap t)<4294967296:=by rw [IntKind.wrap_u32];omega
    have fin:∀ d:Int,0≤d∧d≤1→a[k]+4294967296 * d=t+u32.wrap (a[k] - u32.wrap t)→∃ r',Zi9 r (k:Int) (S7 N a b n) t d=some r'∧r'.length=a.length∧Zo r'∧Za r'+4294967296 ^ k * (c.toNat+Za (b.drop k))=Za r:=fun d p I=>by
     rw [Zi9,Xd (by omega),oB,oB,Zo1,g,Zy (by omega),aB]
     obtain ⟨r',q1,y,A,B⟩:=Zyd N a b ha hb hs n (k+1) (r.set k (u32.wrap (a[k] - u32.wrap t))) d (by omega) (by omega) (by rw [nS];exact i) (j.set _ w) p (by
      rw [Q9 _ (by omega)]
      have:=congrArg (List.drop 1) m
      simpa [dZ,kG] using this) (aU _ (by omega))
     refine ⟨r',q1,y,A,?_⟩
     have C:=Sb (l:=r) (k:=k) (by omega) (u32.wrap (a[k] - u32.wrap t))
     rw [g] at C
     rw [Tg b k]
     rw [aW] at B
     have q:(a[k]).toNat+4294967296 * d.toNat=c.toNat+Xu b k+(u32.wrap (a[k] - u32.wrap t)).toNat:=by omega
     have D:4294967296 ^ k * ((a[k]).toNat+4294967296 * d.toNat)=4294967296 ^ k * (c.toNat+Xu b k+(u32.wrap (a[k] - u32.wrap t)).toNat):=by rw [q]
     grind
    rw [Zi8,Xd (by omega),oB,g,Xs (x:=a[k]) (by omega)]
    by_cases hlt:a[k]<t
    ·rw [if_pos (by simpa using hlt)]
     exact fin 1 (by omega) (by rw [IntKind.wrap_u32,IntKind.wrap_u32];omega)
    ·rw [if_neg (by simpa using hlt)]
     exact fin 0 (by omega) (by rw [IntKind.wrap_u32,IntKind.wrap_u32];omega)
   rw [if_pos (by simpa using h0)]
   by_cases hkb:k<b.length
   ·have e:Xu b k=(b[k]).toNat:=by rw [Xu,aD,aO hkb,cO]
    have:=hb.get hkb
    rw [if_pos (by simpa using hkb),Xd hkb,oB,Xs (x:=b[k]) (by omega),Xs (by omega)]
    exact step _ (by omega)
   ·have e:Xu b k=0:=by rw [Xu,aD,cR (by omega)];rfl
    rw [if_neg (by simpa using hkb)]
    exact step _ (by omega)
  ·rw [if_neg (by simpa using h0)]
   rw [aI (show a.length≤k by omega),Y0] at f
   exact ⟨r,rfl,i,j,by rw [show c.toNat+Za (b.drop k)=0 by omega];simp⟩
theorem Z1w {N:Nat} {a b:List Int} (ha:Zo a) (hb:Zo b) (h1:a.length+1<N) (h2:b.length+1<N) (h3:a.length<35184372088000) (h4:b.length<35184372088000):
  Zi6 N a b=some (if Za a<Za b then ([],false) else (Zf (Za a - Za b),true)):=by
 have e:=Yk ha
 have f:=Yk hb
 rw [Zi6,Zrf ha hb (by omega) (by omega) (by omega) (by omega),oB]
 by_cases h:Za a<Za b
 ·rw [if_pos h,if_pos (by decide),if_pos h]
 ·rw [if_neg h,if_neg (by split <;> decide),if_neg h,Qh ha (by omega) (by omega),oB,Zrd (by omega),oB,Qh hb (by omega) (by omega),oB,Zo0]
  obtain ⟨g,q1,i,c,d⟩:=Zyd N (Zf (Za a)) (Zf (Za b)) (Z9 _) (Z9 _) (by omega) N 0 (Zf (Za a)) 0 (by omega) (by omega) rfl (Z9 _) (by omega) rfl (by simp [Z6];omega)
  rw [show ((0:Nat):Int)=0 from rfl] at q1
  rw [q1,oB,Qc c (by omega) (by omega),oB]
  simp [Z6] at d
  congr 3
  omega
theorem Zyz (P P' Q c x y e v c' L:Nat) (h1:P'+Q * e=P+Q * v) (h2:c+(x * y+e)=v+4294967296 * c'):P'+Q * 4294967296 * (c'+x * L)=P+Q * (c+x * (y+4294967296 * L)):=by
 have:Q * (c+(x * y+e))=Q * (v+4294967296 * c'):=by rw [h2]
 grind
theorem Zyy (b:List Int) (hb:Zo b) (i:Nat) (kk:Nat→List Int→Option R2) (x:Int) (hx:0≤x∧x<4294967296):∀ (l:List Int) (j:Nat) (p:List Int) (c:Int),Zo l→j+l.length=b.length→i+b.length<p.length→p.length<4611686018427387904→Zo p→0≤c∧c<4294967296→Za (p.drop (i+b.length))=0→
  ∃ p',Zd7 b i kk x l j p c=kk (i+1) p'∧p'.length=p.length∧Zo p'∧Za p'=Za p+4294967296 ^ (i+j) * (c.toNat+x.toNat * Za l)∧Za (p'.drop (i+b.length+1))=0
 | [],j,p,c,_,g,a,n,d,k,m=>by
  have o:j=b.length:=by simpa using g
  subst o
  have f:=drop_zero d a m
  rw [Zd7.eq_1,Zy (by omega),show (i:Int)+(b.length:Int)=((i+b.length:Nat):Int) by omega,Xd a,oB,oB,aB,Ux k]
  refine ⟨_,rfl,by rw [nS],d.set _ k,?_,?_⟩
  ·have q:=Sb a c
   rw [f.1] at q
   rw [Y0,dE,bV]
   simpa using q
  ·rw [Q9 _ (by omega)];exact f.2
 | y :: l,j,p,c,r,g,a,n,d,k,m=>by
  have t:=r.head
  have u:j+1+l.length=b.length:=by rw [← g,nC];omega
  have e:i+j<p.length:=by omega
  have E:=d.get e
  have F:x * y≤4294967295 * 4294967295:=jP (by omega) (by omega) (by omega) (by omega)
  have D:0≤x * y:=jQ hx.1 t.1
  rw [Zd7.eq_2,Zy (by omega),show (i:Int)+(j:Int)=((i+j:Nat):Int) by omega,Xd e,oB,oB,aB,Xs (x:=x) (by omega),Xs (x:=y) (by omega),Xs (x:=p[i+j]) (by omega),Xs (x:=x * y) (by omega),Xs (x:=x * y+p[i+j]) (by omega),Xs (by omega),Zg5]
  generalize hs':c+(x * y+p[i+j])=s
  have v:0≤u32.wrap s∧u32.wrap s<4294967296:=by rw [IntKind.wrap_u32];omega
  obtain ⟨p',q1,w,A,B,C⟩:=Zyy b hb i kk x hx l (j+1) (p.set (i+j) (u32.wrap s)) (s / 4294967296) r.tail u (by rw [nS];exact a) (by rw [nS];exact n) (d.set _ v) (by omega) (by rw [Q9 _ (by omega)];exact m)
  refine ⟨p',q1,by rw [w,nS],A,?_,C⟩
  rw [B,← dW i j 1,aW,Wm]
  refine Zyz _ _ _ _ _ _ (p[i+j]).toNat (u32.wrap s).toNat _ _ (Sb e _) ?_
  rw [IntKind.wrap_u32]
  have G:((x.toNat * y.toNat:Nat):Int)=x * y:=by rw [bH,bA hx.1,bA t.1]
  omega
theorem Zyx (N:Nat) (b:List Int) (hb:Zo b):∀ (l:List Int) (i:Nat) (p:List Int),Zo l→p.length=i+l.length+b.length→p.length<N→p.length<35184372088000→Zo p→Za (p.drop (i+b.length))=0→
  Zbl N b l i p=some (Zf (Za p+4294967296 ^ i * (Za l * Za b)))
 | [],i,p,_,c,d,g,a,e=>by
  rw [Zbl.eq_1,Qc a d (by omega),oB,Y0];simp
 | x :: l,i,p,f,c,d,g,a,e=>by
  rw [nC] at c
  obtain ⟨j,q1,o,k,m,n⟩:=Zyy b hb i (Zbl N b l) x f.head b 0 p 0 hb (by omega) (by omega) (by omega) a (by omega) e
  rw [Zbl.eq_2,q1,Zyx N b hb l (i+1) j f.tail (by omega) (by omega) (by omega) k (by rw [show i+1+b.length=i+b.length+1 by omega];exact n),m,Wm,aW]
  congr 2
  simp only [bV,eH,cG]
  grind
theorem Zsm {N:Nat} {a b:List Int} (ha:Zo a) (hb:Zo b) (h1:a.length+b.length<N) (h3:a.length+b.length<35184372088000):Zbk N a b=some (Zf (Za a * Za b)):=by
 have c:=Yk ha
 have d:=Yk hb
 rw [Zbk,Qh ha (by omega) (by omega),oB,Qh hb (by omega) (by omega),oB,Zy (by omega),Xh (by simp only [maxLen];omega),
  Zyx N _ (Z9 _) _ 0 _ (Z9 _) (by rw [aT];omega) (by rw [aT];omega) (by rw [aT];omega) (.zeros _) (by
   rw [fZ];exact Sc _),Sc,Z6,Z6]
 simp
def Zf6 (N:Nat) (a:Int):Nat→R2→Int→Int→Option R5
  | 0,_,_,_=>none
  | f+1,c,d,b=>if (decide (0≤b))=true then ((Zn c b).bind fun e=>Z1 ((u64.wrap a)≠0) ((some (c.set (aA b) (u32.wrap (u64.wrap (aM (Y4 .u64 (Xx .u64 d 32) (u64.wrap e)) (u64.wrap a)))))).bind fun g=>Z1 ((u64.wrap a)≠0) ((Zf6 N a f) g (aS (Y4 .u64 (Xx .u64 d 32) (u64.wrap e)) (u64.wrap a)) (i64.wrap (b - 1))))) else (some (u32.wrap d,c))
def Zl6 (N:Nat) (a:List Int) (b:Int):Option R5:=
  Zf6 N b N a 0 (i64.wrap ((a.length:Int) - 1))
theorem Z4m {N g:Nat} {d:Option Addr} {col:Zg} {h:World} {i:R2} {b:Int} {r:R5} (c:Nat) (a:Zl6 N i b=some r) (s:Za4 [c]=true) (A:Zb rU 119 c col h d g i):
    Calls prog 162 #[.slice d i.length g,.int .u32 b] h (fun e w'=>∃ (col':Zg),e= .returned ((.int .u32 r.1))∧Zu (pS [c]) col h col' w'∧Zb rU 119 c col' w' d g r.2∧r.2.length=i.length):=by
 refine Xk 4 (m:=36) func162 O O O O O ?_;rw [Zl6.eq_1] at a;have k:=St.startL (l:=[c]) O col h;refine go ?_;refine Z0 [1,1000000] (fun u B v=>∃ w j f t n,n=u∧Zf6 N b n j f t=some r∧St h (X7 [c] col) w v∧Zb rU 119 440 w v d g j∧j.length=i.length∧j.length=i.length∧[0,5,6].map B=[.slice d j.length g,.int .u64 f,.int .i64 t]) N ⟨_,_,0,_,_,O,a,k,A.startL (Zdj s 0 O) (Zdi s 0 O),O,O,O⟩ ?_;clear a;intro u B v E;obtain ⟨w,j,f,t,n,y,a,k,q,J,K,z⟩:=E;subst y;refine .lL [0,5,6] z ?_
 cases n with
 | zero=>rw [Zf6.eq_1] at a;cases a
 | succ n=>
  rw [Zf6.eq_2] at a;refine go ?_;refine Zp a (fun x a=>go ?_) fun x a=>go ?_
  ·refine lV (.int .u64 (Xx .u64 f 32)) (Zex f 32 O O (by decide))<|go ?_;obtain ⟨m,l,a⟩:=bZ a;refine lI l (q.addr l)<|lW (q.atInt l) ?_;refine go ?_;obtain ⟨G,a⟩:=Z5 a;refine lV (.int .u64 (u64.wrap (aM (Y4 .u64 (Xx .u64 f 32) (u64.wrap m)) (u64.wrap b)))) (Vm (Y4 .u64 (Xx .u64 f 32) (u64.wrap m)) (u64.wrap b) O O G)<|go ?_;refine lI l (q.addr l) ?_;obtain ⟨o,p,a⟩:=bZ a;have p:o=j.set (aA t) (u32.wrap (u64.wrap (aM (Y4 .u64 (Xx .u64 f 32) (u64.wrap m)) (u64.wrap b)))):=(Option.some.inj p).symm;refine Wc (x1:=u32.wrap (u64.wrap (aM (Y4 .u64 (Xx .u64 f 32) (u64.wrap m)) (u64.wrap b)))) q l ?_;intro _ H I D;rw [← p] at D;have C:o.length=i.length:=(show j.length=o.length by rw [p,nS]).symm.trans J;refine .ld (d:=0) (v:=(.slice d o.length g)) (congrArg (fun u=>Value.slice d u g) (show j.length=o.length by rw [p,nS])) ?_;refine go ?_;obtain ⟨F,a⟩:=Z5 a;refine lV (.int .u64 (aS (Y4 .u64 (Xx .u64 f 32) (u64.wrap m)) (u64.wrap b))) (Tv (Y4 .u64 (Xx .u64 f 32) (u64.wrap m)) (u64.wrap b) O O F)<|go ?_;replace k:=k.kp H I;exact ⟨n,by omega,O,⟨_,_,_,_,_,O,a,k,D,C,C,O⟩⟩
  cases a;exact ⟨O,_,O,k.finL O (cm [(440,c)]),k.foL q,K⟩
def Zfu (a b:Int):Option Int:=
  (Si (⟨#[0,1,2,2,3,3,3,3,4,4,4,4,4,4,4,4,5,5,5,5,5,5,5,5,5,5,5,5,5,5,5,5,6,6,6,6,6,6,6,6,6,6,6,6,6,6,6,6,6,6,6,6,6,6,6,6,6,6,6,6,6,6,6,6,7,7,7,7,7,7,7,7,7,7,7,7,7,7,7,7,7,7,7,7,7,7,7,7,7,7,7,7,7,7,7,7,7,7,7,7,7,7,7,7,7,7,7,7,7,7,7,7,7,7,7,7,7,7,7,7,7,7,7,7,7,7,7,7,8,8,8,8,8,8,8,8,8,8,8,8,8,8,8,8,8,8,8,8,8,8,8,8,8,8,8,8,8,8,8,8,8,8,8,8,8,8,8,8,8,8,8,8,8,8,8,8,8,8,8,8,8,8,8,8,8,8,8,8,8,8,8,8,8,8,8,8,8,8,8,8,8,8,8,8,8,8,8,8,8,8,8,8,8,8,8,8,8,8,8,8,8,8,8,8,8,8,8,8,8,8,8,8,8,8,8,8,8,8,8,8,8,8,8,8,8,8,8,8,8,8,8,8,8,8,8,8]⟩) (u8.wrap a)).bind fun c=>some (i64.wrap (b+(i64.wrap c)))
def Ziu (a b:Int):Option Int:=
  if (decide (256≤a))=true then (Zfu (Yl .u32 a 8) (i64.wrap (b+8))) else (Zfu a b)
def Zit (a:Int):Option Int:=
  if (decide (65536≤a))=true then (Ziu (Yl .u32 a 16) 16) else (Ziu a 0)
theorem Zux {col:Zg} {b:World} {c r:Int} (a:Zit c=some r):
    Calls prog 140 #[.int .u32 c] b (W8 b r):=by
 refine Xk 2 (m:=19) func140 O O O O O ?_;rw [Zit.eq_1] at a;have d:=St.start col b;refine Zw<|Wv<|Yr O<|Zj<|Zw ?_;refine Wp.cutK [1000000] (fun g m=>∃ o h i,Ziu h i=some r∧St b (Zk col) o m∧[0,2].map g=[.int .u32 h,.int .i64 i]) ?_ ?_
 ·intro g m l;obtain ⟨o,h,i,a,d,f⟩:=l;rw [Ziu.eq_1] at a;refine .lL [0,2] f<|Zw ?_;refine Wp.cutK [1000000] (fun g n=>∃ p j k,Zfu j k=some r∧St b (Zk col) p n∧[0,2].map g=[.int .u32 j,.int .i64 k]) ?_ ?_
  ·intro g n l;obtain ⟨p,j,k,a,d,f⟩:=l;rw [Zfu.eq_1] at a;refine .lL [0,2] f<|go ?_;obtain ⟨q,s,a⟩:=bZ a;refine lV (.int .u8 q) (Zpz (s:=(⟨#[0,1,2,2,3,3,3,3,4,4,4,4,4,4,4,4,5,5,5,5,5,5,5,5,5,5,5,5,5,5,5,5,6,6,6,6,6,6,6,6,6,6,6,6,6,6,6,6,6,6,6,6,6,6,6,6,6,6,6,6,6,6,6,6,7,7,7,7,7,7,7,7,7,7,7,7,7,7,7,7,7,7,7,7,7,7,7,7,7,7,7,7,7,7,7,7,7,7,7,7,7,7,7,7,7,7,7,7,7,7,7,7,7,7,7,7,7,7,7,7,7,7,7,7,7,7,7,7,8,8,8,8,8,8,8,8,8,8,8,8,8,8,8,8,8,8,8,8,8,8,8,8,8,8,8,8,8,8,8,8,8,8,8,8,8,8,8,8,8,8,8,8,8,8,8,8,8,8,8,8,8,8,8,8,8,8,8,8,8,8,8,8,8,8,8,8,8,8,8,8,8,8,8,8,8,8,8,8,8,8,8,8,8,8,8,8,8,8,8,8,8,8,8,8,8,8,8,8,8,8,8,8,8,8,8,8,8,8,8,8,8,8,8,8,8,8,8,8,8,8,8,8,8,8,8,8]⟩)) underlying9 O O s)<|go ?_;cases a;exact ⟨O,O,d.below⟩
  refine go ?_;refine Zp a (fun e a=>go ?_) fun e a=>?_
  ·refine lV (.int .u32 (Yl .u32 h 8)) (Sw h 8 O O (by decide))<|go ?_;exact ⟨O,_,_,_,a,d,O⟩
  refine X1 ?_;exact ⟨O,_,_,_,a,d,O⟩
 refine go ?_;refine Zp a (fun e a=>go ?_) fun e a=>?_
 ·refine lV (.int .u32 (Yl .u32 c 16)) (Sw c 16 O O (by decide))<|go ?_;exact ⟨O,_,_,16,a,d,O⟩
 refine X1 ?_;exact ⟨O,_,_,0,a,d,O⟩
def Zlu (a:Int):Option Int:=
  (Zit a).bind fun b=>some (i64.wrap (32 - b))
theorem Z39 {col:Zg} {b:World} {c r:Int} (a:Zlu c=some r):
    Calls prog 163 #[.int .u32 c] b (W8 b r):=by
 refine Xk 2 (m:=6) func163 O O O O O ?_;rw [Zlu.eq_1] at a;have g:=St.start col b;refine go ?_;obtain ⟨_,f,a⟩:=bZ a;refine Zh (Zux (col:=(Zk col)) f) fun _ _ ⟨e,d⟩=>⟨_,e,?_⟩;replace d:=Ru (Zk col) d;refine go ?_;cases a;exact ⟨O,O,(g.grow d).below⟩
def Zea (b:Int):List Int→Nat→R2→Option R2
  | [],a,c=>some c
  | d :: f,a,c=>(Zn c (a:Int)).bind fun g=>Z1 (0≤b) ((some (c.set (aA (a:Int)) (Y4 .u32 g (Xx .u32 d b)))).bind fun e=>Z1 (0≤b) ((Zn e (i64.wrap ((a:Int)+1))).bind fun j=>(some (e.set (aA (i64.wrap ((a:Int)+1))) (u32.wrap (Yl .u64 (Xx .u64 (u64.wrap d) b) 32)))).bind fun i=>(Zea b f) (a+1) i))
def Zf5 (a:List Int) (b:Int):Option R2:=
  Z1 ((aA (i64.wrap ((a.length:Int)+1))) * 4≤281474976710656∧(aA (i64.wrap ((a.length:Int)+1)))≤maxLen∧0≤(i64.wrap ((a.length:Int)+1))) (Zea b a 0 (aC (aA (i64.wrap ((a.length:Int)+1))) (0:Int)))
theorem Zqz {K:Nat} {x:Option Addr} {col:Zg} {f:World} {i:R2} {a:Int} {r:R2} (D:Nat) (b:Zf5 i a=some r) (h:Sl rU col f x K i):
    Calls prog 158 #[.slice x i.length K,.int .i64 a] f (Vl .u32 119 D col f r):=by
 refine Xk 4 (m:=40) func158 O O O O O ?_;rw [Zf5.eq_1] at b;have c:=St.start col f;refine go ?_;obtain ⟨y,b⟩:=Z5 b;refine T6 (col:=(Zk col)) (w:=f) (r:=rU) (n:=(aA (i64.wrap ((i.length:Int)+1)))) (x0:=0) 1 O underlying38 Tryz.t119 O O O O O (congrArg (Value.int _) (bA y.2.2).symm) (congrArg (Value.int _) (bA y.2.2).symm) y.1 y.2.1 (Tx .u32 0) fun _ _ _ N W=>go ?_;replace c:=c.grow N;refine Z0 [1,12,13,1000000] (fun p L E=>∃ k l m n o t,p=t.length∧i.drop l=t∧Zea a t l o=some r∧St f (Zk col) k E∧Zb rU 119 1 k E m n o∧[14,5].map L=[.int .i64 l,.slice m o.length n]) i.length ⟨_,0,_,_,_,_,O,O,b,c,W,O⟩ ?_;clear b;intro p L E P;obtain ⟨k,l,m,n,o,t,I,B,b,c,w,J⟩:=P;subst I;refine .lL [14,5] J ?_;replace h:=h.k0
 cases t with
 | nil=>
  have s:¬ ((l:Int)<(i.length:Int)):=by have:=aF.1 B;omega
  have d:=decide_eq_false s;rw [Zea.eq_1] at b;refine go ?_;refine Yd (congrArg Value.bool d)<|go ?_;cases b;exact ⟨O,_,_,_,O,c.fin (cm [(1,D)]),c.fo w⟩
 | cons e X=>
  obtain ⟨F,Y,Z⟩:=Yo B;have s:(l:Int)<(i.length:Int):=by omega
  have d:=decide_eq_true s;rw [Zea.eq_2] at b;refine go ?_;refine Ye (congrArg Value.bool d)<|go ?_;refine lI F ((h.ks c).addr F)<|lW ((h.ks c).atInt F) ?_;refine go ?_;refine Ym (col:=k) [(0,1),(1,1),(2,1),(3,0),(4,1),(5,1),(6,1),(7,1),(8,1),(9,2)] (by kernel_rfl) (by kernel_rfl)<|xu O O (fun _=>V8 O) ?_;refine xu O O (fun _=>Wu O) ?_;obtain ⟨C,j,b⟩:=bZ b;refine xu O O (fun _=>Wd underlying38 sizeOf119 O O (Xo j).1 (Xo j).2.1 (w.addr j)) ?_;refine xW (fun _ g=>(w.gr (g.bl k)).atInt j) ?_;refine xu O O (fun _=>Wu O) ?_;refine xu O O (fun _=>Wu O) ?_;obtain ⟨Q,b⟩:=Z5 b;refine xu (v:=(.int .u32 (Xx .u32 e a))) O O (fun _=>Zex e a O O Q) ?_;refine xu (v:=(.int .u32 (Y4 .u32 C (Xx .u32 e a)))) O O (fun _=>Ztd C (Xx .u32 e a) O O) ?_;refine xu O O (fun _=>Wd underlying38 sizeOf119 O O (Xo j).1 (Xo j).2.1 (w.addr j)) ?_;refine xe O O ?_;intro _ q;have g:=q.bl k;obtain ⟨v,z,b⟩:=bZ b;have z:v=o.set (aA (l:Int)) (Y4 .u32 C (Xx .u32 e a)):=(Option.some.inj z).symm;refine Wc (x1:=Y4 .u32 C (Xx .u32 e a)) (w.gr g) j ?_;intro _ U V u;rw [← z] at u;refine .ld (d:=5) (v:=(.slice m v.length n)) (congrArg (fun p=>Value.slice m p n) (show o.length=v.length by rw [z,nS])) ?_;refine Zj<|xk k<|Yf ?_;replace c:=(c.grow g).kp U V;intro _ g;replace g:=g.bl k;refine go ?_;obtain ⟨R,b⟩:=Z5 b;refine lV (.int .u64 (Xx .u64 (u64.wrap e) a)) (Zex (u64.wrap e) a O O R)<|lV (.int .u64 (Yl .u64 (Xx .u64 (u64.wrap e) a) 32)) (Sw (Xx .u64 (u64.wrap e) a) 32 O O (by decide))<|go ?_;obtain ⟨_,G,b⟩:=bZ b;replace u:=u.gr g;refine lI G (u.addr G) ?_;obtain ⟨H,A,b⟩:=bZ b;have A:H=v.set (aA (i64.wrap ((l:Int)+1))) (u32.wrap (Yl .u64 (Xx .u64 (u64.wrap e) a) 32)):=(Option.some.inj A).symm;refine Wc (x1:=u32.wrap (Yl .u64 (Xx .u64 (u64.wrap e) a) 32)) u G ?_;intro _ S T M;rw [← A] at M;refine .ld (d:=5) (v:=(.slice m H.length n)) (congrArg (fun p=>Value.slice m p n) (show v.length=H.length by rw [A,nS])) ?_;refine go ?_;replace c:=(c.grow g).kp S T
  exact ⟨X.length,by simp,O,⟨_,_,_,_,_,_,O,Y,b,c,M,(Yv (congrArg (Value.int .i64) (Yp (aG Z (h.ks c).1.1))) O)⟩⟩
def Zl7 (a:List Int) (kk_L1:(List Int→Option R2)) (b:Bool):Option R2:=
  if b=true then (Z1 ((0:Int)≤(i64.wrap ((a.length:Int) - 1))∧(i64.wrap ((a.length:Int) - 1))≤(a.length:Int)) (kk_L1 (a.take (aA (i64.wrap ((a.length:Int) - 1)))))) else (some a)
def Zcn (N:Nat):Nat→R2→Option R2
  | 0,_=>none
  | b+1,a=>if (decide (0<(a.length:Int)))=true then ((Zn a (i64.wrap ((a.length:Int) - 1))).bind fun c=>Zl7 a (Zcn N b) (decide (c=0))) else (Zl7 a (Zcn N b) false)
def Zf7 (N:Nat) (a:List Int):Option R2:=
  Zcn N N a
theorem Zu1 {N y:Nat} {p:Option Addr} {col:Zg} {d:World} {k r:R2} (b:Nat) (a:Zf7 N k=some r) (q:Za4 [b]=true) (E:Zb rU 119 b col d p y k):
    Calls prog 139 #[.slice p k.length y] d (fun e w'=>∃ (col':Zg) (g:Option Addr) (f:Nat),e= .returned ((.slice g r.length f))∧Zu (pS [b]) col d col' w'∧Zb rU 119 b col' w' g f r):=by
 refine Xk 2 (m:=21) func139 O O O O O ?_;rw [Zf7.eq_1] at a;have i:=St.startL (l:=[b]) O col d;refine go ?_;refine Z0 [1000000] (fun s o x=>∃ z j l c m,m=s∧Zcn N m c=some r∧St d (X7 [b] col) z x∧Zb rU 119 440 z x j l c∧[0].map o=[.slice j c.length l]) N ⟨_,_,_,_,_,O,a,i,E.startL (Zdj q 0 O) (Zdi q 0 O),O⟩ ?_;clear a;intro s o x G;obtain ⟨z,j,l,c,m,D,a,i,h,n⟩:=G;subst D;refine .lL [0] n ?_
 cases m with
 | zero=>rw [Zcn.eq_1] at a;cases a
 | succ m=>
  rw [Zcn.eq_2] at a;refine Zw<|Zw ?_;refine Wp.cutK [0,1000000] (fun o u=>∃ v w,Zl7 c (Zcn N m) w=some r∧St d (X7 [b] col) v u∧Zb rU 119 440 v u j l c∧[14].map o=[.bool w]) ?_ ?_
  ·intro o u F;obtain ⟨v,w,a,i,h,n⟩:=F;rw [Zl7.eq_1] at a;refine .lL [14] n ?_;refine Zp a (fun C a=>go ?_) fun C a=>go ?_
   ·obtain ⟨B,a⟩:=Z5 a;refine lv (v:=.slice j (aA (i64.wrap ((c.length:Int) - 1))) l) O O (Zkg underlying38 sizeOf119 O O B.1 (by have:=h.lecap;have:=B.2;omega))<|.ld (d:=19) (v:=(.slice j ((c.take (aA (i64.wrap ((c.length:Int) - 1)))).length) l)) (congrArg (fun s=>Value.slice j s l) (dY (show (aA (i64.wrap ((c.length:Int) - 1)))≤c.length by have:=B.2;omega)).symm) ?_;refine go ?_;exact ⟨m,by omega,O,⟨_,_,_,_,_,O,a,i,(h.take (aA (i64.wrap ((c.length:Int) - 1)))),O⟩⟩
   cases a;exact ⟨O,_,_,_,O,i.finL O (cm [(440,b)]),i.foL h⟩
  refine go ?_;refine X9 a (fun A a=>go ?_) fun A a=>go ?_
  ·obtain ⟨H,t,a⟩:=bZ a;refine lI t (h.addr t) ?_;refine go ?_;refine lW (h.atInt t)<|go ?_;refine lV (.bool (decide (H=0))) (Xw (congrArg Value.bool A) O)<|Zj ?_;exact ⟨O,_,_,a,i,h,O⟩
  refine lV (.bool false) (X0 (congrArg Value.bool A) O)<|Zj ?_;exact ⟨O,_,_,a,i,h,O⟩
def Zl3 (a:Int) (b:List Int):Option R5:=
  some (u32.wrap a,b)
def Zd9 (j0 n0:Nat) (b:List Int) (e:Int):List Int→Nat→R2→Int→Option R5
  | [],a,c,d=>Z1 (0≤(b.length:Int)∧(b.length:Int)<(n0:Int)) ((Zn c ((j0:Int)+(b.length:Int))).bind fun i=>Z1 (0≤(b.length:Int)∧(b.length:Int)<(n0:Int)) ((Zn c ((j0:Int)+(b.length:Int))).bind fun m=>(some (c.set (aA ((j0:Int)+(b.length:Int))) (u32.wrap (i+(u32.wrap d))))).bind fun j=>Zl3 (u64.wrap ((u64.wrap (e - 1)) - 1)) j))
  | f :: k,a,c,d=>Z1 (0≤(a:Int)∧(a:Int)<(n0:Int)) ((Zn c ((j0:Int)+(a:Int))).bind fun g=>Z1 (0≤(a:Int)∧(a:Int)<(n0:Int)) ((Zn c ((j0:Int)+(a:Int))).bind fun n=>(some (c.set (aA ((j0:Int)+(a:Int))) (u32.wrap (u64.wrap (d+(u64.wrap ((u64.wrap g)+(u64.wrap f)))))))).bind fun l=>(Zd9 j0 n0 b e k) (a+1) l (Yl .u64 (u64.wrap (d+(u64.wrap ((u64.wrap g)+(u64.wrap f))))) 32)))
def Zoz (a:Nat) (kk_L2:(Nat→R2→Int→Int→Option R5)) (b:List Int) (c d:Int):Option R5:=
  kk_L2 (a+1) b c d
def Zl4 (j0 n0:Nat) (c:Int) (b:List Int) (f:Int) (a:Nat) (d:Int) (kk_L2:(Nat→R2→Int→Int→Option R5)) (e g:Int):Option R5:=
  Z1 (0≤(a:Int)∧(a:Int)<(n0:Int)) ((Zn b ((j0:Int)+(a:Int))).bind fun i=>Z1 (0≤(a:Int)∧(a:Int)<(n0:Int)) ((Zn b ((j0:Int)+(a:Int))).bind fun k=>(some (b.set (aA ((j0:Int)+(a:Int))) (u32.wrap (i - (u32.wrap (u64.wrap ((Uz .u64 (u64.wrap (d+(u64.wrap ((u64.wrap (c - 1)) * (u64.wrap e))))) 4294967295)+f))))))).bind fun j=>Zoz a kk_L2 j g (Yl .u64 (u64.wrap (d+(u64.wrap ((u64.wrap (c - 1)) * (u64.wrap e))))) 32)))
def Zao (j0 n0:Nat) (a:List Int) (c:Int):List Int→Nat→R2→Int→Int→Option R5
  | [],d,b,e,f=>Z1 (0≤(a.length:Int)∧(a.length:Int)<(n0:Int)) ((Zn b ((j0:Int)+(a.length:Int))).bind fun k=>Z1 (0≤(a.length:Int)∧(a.length:Int)<(n0:Int)) ((Zn b ((j0:Int)+(a.length:Int))).bind fun l=>Z1 (0≤(a.length:Int)∧(a.length:Int)<(n0:Int)) ((Zn b ((j0:Int)+(a.length:Int))).bind fun n=>(some (b.set (aA ((j0:Int)+(a.length:Int))) (u32.wrap (l - (u32.wrap (u64.wrap (f+e))))))).bind fun i=>if (decide ((u64.wrap k)<(u64.wrap (f+e))))=true then (Zd9 j0 n0 a c a 0 i 0) else (Zl3 (u64.wrap (c - 1)) i))))
  | g :: j,d,b,e,f=>Z1 (0≤(d:Int)∧(d:Int)<(n0:Int)) ((Zn b ((j0:Int)+(d:Int))).bind fun m=>if (decide ((u64.wrap m)<(u64.wrap ((Uz .u64 (u64.wrap (f+(u64.wrap ((u64.wrap (c - 1)) * (u64.wrap g))))) 4294967295)+e))))=true then (Zl4 j0 n0 c b e d f (Zao j0 n0 a c j) g 1) else (Zl4 j0 n0 c b e d f (Zao j0 n0 a c j) g 0))
def Zl2 (j0 n0:Nat) (e a:List Int) (b c:Int) (kk_L1:(Int→Int→Option R5)):Option R5:=
  (Zn a (i64.wrap ((a.length:Int) - 1))).bind fun d=>if (decide (4294967295<(u64.wrap (c+(u64.wrap d)))))=true then (Zao j0 n0 a b a 0 e 0 0) else (kk_L1 (u64.wrap (b - 1)) (u64.wrap (c+(u64.wrap d))))
def Zcl (a:Int) (b:List Int):Option R5:=
  some (u32.wrap a,b)
def S6 (j0 n0:Nat) (b:List Int) (e:Int):List Int→Nat→R2→Int→Option R5
  | [],a,c,d=>Z1 (0≤(b.length:Int)∧(b.length:Int)<(n0:Int)) ((Zn c ((j0:Int)+(b.length:Int))).bind fun i=>Z1 (0≤(b.length:Int)∧(b.length:Int)<(n0:Int)) ((Zn c ((j0:Int)+(b.length:Int))).bind fun m=>(some (c.set (aA ((j0:Int)+(b.length:Int))) (u32.wrap (i+(u32.wrap d))))).bind fun j=>Zcl (u64.wrap (e - 1)) j))
  | f :: k,a,c,d=>Z1 (0≤(a:Int)∧(a:Int)<(n0:Int)) ((Zn c ((j0:Int)+(a:Int))).bind fun g=>Z1 (0≤(a:Int)∧(a:Int)<(n0:Int)) ((Zn c ((j0:Int)+(a:Int))).bind fun n=>(some (c.set (aA ((j0:Int)+(a:Int))) (u32.wrap (u64.wrap (d+(u64.wrap ((u64.wrap g)+(u64.wrap f)))))))).bind fun l=>(S6 j0 n0 b e k) (a+1) l (Yl .u64 (u64.wrap (d+(u64.wrap ((u64.wrap g)+(u64.wrap f))))) 32)))
def Zl5 (a:Nat) (kk_L4:(Nat→R2→Int→Int→Option R5)) (b:List Int) (c d:Int):Option R5:=
  kk_L4 (a+1) b c d
def Zf4 (j0 n0:Nat) (c:Int) (b:List Int) (f:Int) (a:Nat) (d:Int) (kk_L4:(Nat→R2→Int→Int→Option R5)) (e g:Int):Option R5:=
  Z1 (0≤(a:Int)∧(a:Int)<(n0:Int)) ((Zn b ((j0:Int)+(a:Int))).bind fun i=>Z1 (0≤(a:Int)∧(a:Int)<(n0:Int)) ((Zn b ((j0:Int)+(a:Int))).bind fun k=>(some (b.set (aA ((j0:Int)+(a:Int))) (u32.wrap (i - (u32.wrap (u64.wrap ((Uz .u64 (u64.wrap (d+(u64.wrap (c * (u64.wrap e))))) 4294967295)+f))))))).bind fun j=>Zl5 a kk_L4 j g (Yl .u64 (u64.wrap (d+(u64.wrap (c * (u64.wrap e))))) 32)))
def U3 (j0 n0:Nat) (a:List Int) (c:Int):List Int→Nat→R2→Int→Int→Option R5
  | [],d,b,e,f=>Z1 (0≤(a.length:Int)∧(a.length:Int)<(n0:Int)) ((Zn b ((j0:Int)+(a.length:Int))).bind fun k=>Z1 (0≤(a.length:Int)∧(a.length:Int)<(n0:Int)) ((Zn b ((j0:Int)+(a.length:Int))).bind fun l=>Z1 (0≤(a.length:Int)∧(a.length:Int)<(n0:Int)) ((Zn b ((j0:Int)+(a.length:Int))).bind fun n=>(some (b.set (aA ((j0:Int)+(a.length:Int))) (u32.wrap (l - (u32.wrap (u64.wrap (f+e))))))).bind fun i=>if (decide ((u64.wrap k)<(u64.wrap (f+e))))=true then (S6 j0 n0 a c a 0 i 0) else (Zcl c i))))
  | g :: j,d,b,e,f=>Z1 (0≤(d:Int)∧(d:Int)<(n0:Int)) ((Zn b ((j0:Int)+(d:Int))).bind fun m=>if (decide ((u64.wrap m)<(u64.wrap ((Uz .u64 (u64.wrap (f+(u64.wrap (c * (u64.wrap g))))) 4294967295)+e))))=true then (Zf4 j0 n0 c b e d f (U3 j0 n0 a c j) g 1) else (Zf4 j0 n0 c b e d f (U3 j0 n0 a c j) g 0))
def Zf3 (j0 n0:Nat) (b a:List Int) (c d:Int) (kk_L1:(Int→Int→Option R5)) (e:Bool):Option R5:=
  if e=true then (Zl2 j0 n0 b a c d kk_L1) else (U3 j0 n0 a c a 0 b 0 0)
def Qx (N j0 n0:Nat) (b a:List Int):Nat→Int→Int→Option R5
  | 0,_,_=>none
  | e+1,c,d=>if (decide (4294967295<c))=true then (Zf3 j0 n0 b a c d (Qx N j0 n0 b a e) true) else (if (decide (d≤4294967295))=true then ((Zn a (i64.wrap ((a.length:Int) - 2))).bind fun f=>Z1 (0≤(i64.wrap ((a.length:Int) - 2))∧(i64.wrap ((a.length:Int) - 2))<(n0:Int)) ((Zn b ((j0:Int)+(i64.wrap ((a.length:Int) - 2)))).bind fun g=>Zf3 j0 n0 b a c d (Qx N j0 n0 b a e) (decide ((Y4 .u64 (Xx .u64 d 32) (u64.wrap g))<(u64.wrap (c * (u64.wrap f))))))) else (Zf3 j0 n0 b a c d (Qx N j0 n0 b a e) false))
def Zi7 (N j0 n0:Nat) (c a:List Int):Option R5:=
  Z1 (0≤(a.length:Int)∧(a.length:Int)<(n0:Int)) ((Zn c ((j0:Int)+(a.length:Int))).bind fun d=>Z1 (0≤(i64.wrap ((a.length:Int) - 1))∧(i64.wrap ((a.length:Int) - 1))<(n0:Int)) ((Zn c ((j0:Int)+(i64.wrap ((a.length:Int) - 1)))).bind fun e=>(Zn a (i64.wrap ((a.length:Int) - 1))).bind fun b=>Z1 ((u64.wrap b)≠0) (Z1 ((u64.wrap b)≠0) (Qx N j0 n0 c a N (u64.wrap (aM (Y4 .u64 (Xx .u64 (u64.wrap d) 32) (u64.wrap e)) (u64.wrap b))) (aS (Y4 .u64 (Xx .u64 (u64.wrap d) 32) (u64.wrap e)) (u64.wrap b))))))
theorem Z4k {N i j0 p Z P:Nat} {g Q:Option Addr} {col:Zg} {o:World} {d b:R2} {r:R5} (c:Nat) (a:Zi7 N j0 p d b=some r) (hd:Za4 [c]=true) (j:Zb rU 119 c col o g i d) (l:Sl rU col o Q P b):
    Calls prog 164 #[.slice (g.map (·.add (j0 * 1))) p Z,.slice Q b.length P] o (fun e w'=>∃ (col':Zg),e= .returned ((.int .u32 r.1))∧Zu (pS [c]) col o col' w'∧Zb rU 119 c col' w' g i r.2∧r.2.length=d.length):=by
 refine Xk 4 (m:=178) func164 O O O O O ?_;rw [Zi7.eq_1] at a;have f:=St.startL (l:=[c]) O col o;replace j:=j.startL (Zdj hd 0 O) (Zdi hd 0 O);refine go ?_;refine Vp (col:=(X7 [c] col)) (by kernel_rfl) (by kernel_rfl)<|go ?_;obtain ⟨P,a⟩:=Z5 a;obtain ⟨Q,Z,a⟩:=bZ a;refine qv (v:=(X5 g (aA ((j0:Int)+(b.length:Int)) * 1))) O (fun _ n=>Vy underlying38 sizeOf119 O O P.1 P.2 (j.addr Z)) ?_;refine qW (fun _ n=>(j.gr (n.bl (X7 [c] col))).atInt Z) ?_;refine go ?_;refine qv (v:=(.int .u64 (Xx .u64 (u64.wrap Q) 32))) O (fun _ n=>Zex (u64.wrap Q) 32 O O (by decide)) ?_;refine go ?_;obtain ⟨P,a⟩:=Z5 a;obtain ⟨bl,Z,a⟩:=bZ a;refine qv (v:=(X5 g (aA ((j0:Int)+(i64.wrap ((b.length:Int) - 1))) * 1))) O (fun _ n=>Vy underlying38 sizeOf119 O O P.1 P.2 (j.addr Z)) ?_;refine qW (fun _ n=>(j.gr (n.bl (X7 [c] col))).atInt Z) ?_;refine go ?_;refine Wj ?_;intro _ n;replace l:=l.keep (Yu.startL [c] col o);replace n:=n.bl (X7 [c] col);refine go ?_;obtain ⟨Z,P,a⟩:=bZ a;replace f:=f.grow n;refine lI P ((l.ks f).addr P)<|lW ((l.ks f).atInt P) ?_;refine go ?_;obtain ⟨d8,a⟩:=Z5 a;refine lV (.int .u64 (u64.wrap (aM (Y4 .u64 (Xx .u64 (u64.wrap Q) 32) (u64.wrap bl)) (u64.wrap Z)))) (Vm (Y4 .u64 (Xx .u64 (u64.wrap Q) 32) (u64.wrap bl)) (u64.wrap Z) O O d8)<|go ?_;refine lI P ((l.ks f).addr P)<|lW ((l.ks f).atInt P) ?_;refine go ?_;obtain ⟨P,a⟩:=Z5 a;refine lV (.int .u64 (aS (Y4 .u64 (Xx .u64 (u64.wrap Q) 32) (u64.wrap bl)) (u64.wrap Z))) (Tv (Y4 .u64 (Xx .u64 (u64.wrap Q) 32) (u64.wrap bl)) (u64.wrap Z) O O P)<|go ?_;replace j:=j.gr n;refine Z0 [0,1,5,1000000] (fun A m P=>∃ T q S Y,Y=A∧Qx N j0 p d b Y q S=some r∧St o (X7 [c] col) T P∧Zb rU 119 440 T P g i d∧[7,8].map m=[.int .u64 q,.int .u64 S]) N ⟨_,_,_,_,O,a,f,j,O⟩ ?_;clear a;intro A m P R;obtain ⟨T,q,S,Y,v,a,f,j,k⟩:=R;subst v;refine .lL [7,8] k ?_
 cases Y with
 | zero=>rw [Qx.eq_1] at a;cases a
 | succ Y=>
  rw [Qx.eq_2] at a;refine Zw ?_;refine Wp.cutK [0,1,5,7,8,1000000] (fun m P=>∃ Q,Zl2 j0 p d b q S (Qx N j0 p d b Y)=some r∧St o (X7 [c] col) Q P∧Zb rU 119 440 Q P g i d) ?_ ?_
  ·intro m P z;obtain ⟨Q,a,f,j⟩:=z;rw [Zl2.eq_1] at a;refine go ?_;obtain ⟨_,Z,a⟩:=bZ a;refine lI Z ((l.ks f).addr Z)<|lW ((l.ks f).atInt Z) ?_;refine go ?_;refine Zp a (fun u a=>?_) fun u a=>?_
   ·refine Zqh (Z7u O (Zog ?_));refine go ?_;refine Z0 [0,1,5,7,87,88,1000000] (fun A m Q=>∃ Z G X E C dk,A=dk.length∧b.drop E=dk∧Zao j0 p b q dk E G X C=some r∧St o (X7 [c] col) Z Q∧Zb rU 119 440 Z Q g i G∧G.length=d.length∧G.length=d.length∧[89,10,9].map m=[.int .i64 E,.int .u64 X,.int .u64 C]) b.length ⟨_,_,0,0,0,_,O,O,a,f,j,O,O,O⟩ ?_;clear a;intro A m Q R;obtain ⟨Z,G,X,E,C,dk,v,t,a,f,x,cf,_,k⟩:=R;subst v;refine .lL [89,10,9] k ?_
    cases dk with
    | nil=>
     have s:¬ ((E:Int)<(b.length:Int)):=by have:=aF.1 t;omega
     have h:=decide_eq_false s;rw [Zao.eq_1] at a;refine go ?_;refine Yd (congrArg Value.bool h)<|go ?_;obtain ⟨Q,a⟩:=Z5 a;obtain ⟨_,P,a⟩:=bZ a;refine lV (X5 g (aA ((j0:Int)+(b.length:Int)) * 1)) (Vy underlying38 sizeOf119 O O Q.1 Q.2 (x.addr P))<|lW (x.atInt P)<|go ?_;obtain ⟨Q,a⟩:=Z5 a;obtain ⟨cj,Z,a⟩:=bZ a;refine lV (X5 g (aA ((j0:Int)+(b.length:Int)) * 1)) (Vy underlying38 sizeOf119 O O Q.1 Q.2 (x.addr Z))<|lW (x.atInt Z)<|go ?_;obtain ⟨Q,a⟩:=Z5 a;obtain ⟨_,cn,a⟩:=bZ a;refine lV (X5 g (aA ((j0:Int)+(b.length:Int)) * 1)) (Vy underlying38 sizeOf119 O O Q.1 Q.2 (x.addr cn)) ?_;obtain ⟨P,Z,a⟩:=bZ a;have Z:P=G.set (aA ((j0:Int)+(b.length:Int))) (u32.wrap (cj - (u32.wrap (u64.wrap (C+X))))):=(Option.some.inj Z).symm;refine Wc (x1:=u32.wrap (cj - (u32.wrap (u64.wrap (C+X))))) x cn ?_;intro _ Q eb ay;rw [← Z] at ay;have az:P.length=d.length:=(show G.length=P.length by rw [Z,nS]).symm.trans cf;refine Zj<|Zw ?_;replace f:=f.kp Q eb;refine Wp.cutK [1000000] (fun m Z=>∃ Q a4 P,Zl3 a4 P=some r∧St o (X7 [c] col) Q Z∧Zb rU 119 440 Q Z g i P∧P.length=d.length∧[7].map m=[.int .u64 a4]) ?_ ?_
     ·intro m Z z;obtain ⟨Q,a4,P,a,f,ec,ed,k⟩:=z;rw [Zl3.eq_1] at a;refine .lL [7] k<|go ?_;cases a;exact ⟨O,_,O,f.finL O (cm [(440,c)]),f.foL ec,ed⟩
     refine go ?_;refine Zp a (fun u a=>go ?_) fun u a=>?_
     ·refine Z0 [0,143,144,5,7,1000000] (fun A m Q=>∃ Z K I M ex,A=ex.length∧b.drop I=ex∧Zd9 j0 p b q ex I K M=some r∧St o (X7 [c] col) Z Q∧Zb rU 119 440 Z Q g i K∧K.length=d.length∧K.length=d.length∧[145,9].map m=[.int .i64 I,.int .u64 M]) b.length ⟨_,_,0,0,_,O,O,a,f,ay,az,az,O⟩ ?_;clear a;intro A m Q R;obtain ⟨Z,K,I,M,ex,v,t,a,f,V,ee,ef,k⟩:=R;subst v;refine .lL [145,9] k ?_
      cases ex with
      | nil=>
       have s:¬ ((I:Int)<(b.length:Int)):=by have:=aF.1 t;omega
       have h:=decide_eq_false s;rw [Zd9.eq_1] at a;refine go ?_;refine Yd (congrArg Value.bool h)<|go ?_;obtain ⟨Z,a⟩:=Z5 a;obtain ⟨cp,Q,a⟩:=bZ a;refine lV (X5 g (aA ((j0:Int)+(b.length:Int)) * 1)) (Vy underlying38 sizeOf119 O O Z.1 Z.2 (V.addr Q))<|lW (V.atInt Q)<|go ?_;obtain ⟨Z,a⟩:=Z5 a;obtain ⟨_,cs,a⟩:=bZ a;refine lV (X5 g (aA ((j0:Int)+(b.length:Int)) * 1)) (Vy underlying38 sizeOf119 O O Z.1 Z.2 (V.addr cs)) ?_;obtain ⟨P,Q,a⟩:=bZ a;have Q:P=K.set (aA ((j0:Int)+(b.length:Int))) (u32.wrap (cp+(u32.wrap M))):=(Option.some.inj Q).symm;refine Wc (x1:=u32.wrap (cp+(u32.wrap M))) V cs ?_;intro _ eg eh Z;rw [← Q] at Z;have ei:P.length=d.length:=(show K.length=P.length by rw [Q,nS]).symm.trans ef;refine Zj ?_;replace f:=f.kp eg eh;exact ⟨O,_,_,_,a,f,Z,ei,O⟩
      | cons Z ej=>
       obtain ⟨y,ek,el⟩:=Yo t;have s:(I:Int)<(b.length:Int):=by omega
       have h:=decide_eq_true s;rw [Zd9.eq_2] at a;refine go ?_;refine Ye (congrArg Value.bool h)<|go ?_;refine lI y ((l.ks f).addr y)<|lW ((l.ks f).atInt y) ?_;refine go ?_;obtain ⟨P,a⟩:=Z5 a;obtain ⟨Q,cv,a⟩:=bZ a;refine lV (X5 g (aA ((j0:Int)+(I:Int)) * 1)) (Vy underlying38 sizeOf119 O O P.1 P.2 (V.addr cv))<|lW (V.atInt cv)<|go ?_;obtain ⟨P,a⟩:=Z5 a;obtain ⟨_,cx,a⟩:=bZ a;refine lV (X5 g (aA ((j0:Int)+(I:Int)) * 1)) (Vy underlying38 sizeOf119 O O P.1 P.2 (V.addr cx)) ?_;obtain ⟨a8,P,a⟩:=bZ a;have P:a8=K.set (aA ((j0:Int)+(I:Int))) (u32.wrap (u64.wrap (M+(u64.wrap ((u64.wrap Q)+(u64.wrap Z)))))):=(Option.some.inj P).symm;refine Wc (x1:=u32.wrap (u64.wrap (M+(u64.wrap ((u64.wrap Q)+(u64.wrap Z)))))) V cx ?_;intro _ em en V;rw [← P] at V;have I:a8.length=d.length:=(show K.length=a8.length by rw [P,nS]).symm.trans ee;refine go ?_;refine lV (.int .u64 (Yl .u64 (u64.wrap (M+(u64.wrap ((u64.wrap Q)+(u64.wrap Z))))) 32)) (Sw (u64.wrap (M+(u64.wrap ((u64.wrap Q)+(u64.wrap Z))))) 32 O O (by decide))<|go ?_;replace f:=f.kp em en;exact ⟨ej.length,by simp,O,⟨_,_,_,_,_,O,ek,a,f,V,I,I,(Yv (congrArg (Value.int .i64) (Yp (aG el (l.ks f).1.1))) O)⟩⟩
     refine X1 ?_;exact ⟨O,_,_,_,a,f,ay,az,O⟩
    | cons Q P=>
     obtain ⟨y,eo,ep⟩:=Yo t;have s:(E:Int)<(b.length:Int):=by omega
     have h:=decide_eq_true s;rw [Zao.eq_2] at a;refine go ?_;refine Ye (congrArg Value.bool h)<|X1<|Zw ?_;refine Wp.cutK [0,1,5,7,87,88,89,1000000] (fun m V=>∃ I Z K M,Zoz E (Zao j0 p b q P) Z K M=some r∧St o (X7 [c] col) I V∧Zb rU 119 440 I V g i Z∧Z.length=d.length∧Z.length=d.length∧[10,9].map m=[.int .u64 K,.int .u64 M]) ?_ ?_
     ·intro m V z;obtain ⟨I,Z,K,M,a,f,I,K,M,k⟩:=z;rw [Zoz.eq_1] at a;refine .lL [10,9] k<|go ?_;exact ⟨P.length,by simp,O,⟨_,_,_,_,_,_,O,eo,a,f,I,K,M,(Yv (congrArg (Value.int .i64) (Yp (aG ep (l.ks f).1.1))) O)⟩⟩
     refine go ?_;refine lI y ((l.ks f).addr y)<|lW ((l.ks f).atInt y)<|Yr O<|Yr O<|Zj<|Zw<|Wv<|Xy O<|Xy O<|Xy O<|lV (.int .u64 (u64.wrap Q)) (Zm7 Q ⟨_,underlying119⟩ underlying118 O)<|lV _ (Zew _ _ O O)<|lV _ (Qg _ _ O O)<|Yr O<|Zj<|Zw<|Wv<|Xy O<|lV (.int .u64 (Uz .u64 (u64.wrap (C+(u64.wrap ((u64.wrap (q - 1)) * (u64.wrap Q))))) 4294967295)) (Zpv (u64.wrap (C+(u64.wrap ((u64.wrap (q - 1)) * (u64.wrap Q))))) 4294967295 O O)<|Xy O<|lV _ (Qg _ _ O O)<|Yr O<|Zj<|Zw<|Wv<|Yr O<|Zj<|Zw ?_;refine Wp.cutK [0,1,11,13,5,7,87,88,89,9,1000000] (fun m I=>∃ K M,Zl4 j0 p q G X E C (Zao j0 p b q P) Q M=some r∧St o (X7 [c] col) K I∧Zb rU 119 440 K I g i G∧[10].map m=[.int .u64 M]) ?_ ?_
     ·intro m I z;obtain ⟨K,M,a,f,x,k⟩:=z;rw [Zl4.eq_1] at a;refine .lL [10] k<|go ?_;obtain ⟨K,a⟩:=Z5 a;obtain ⟨P,M,a⟩:=bZ a;refine lV (X5 g (aA ((j0:Int)+(E:Int)) * 1)) (Vy underlying38 sizeOf119 O O K.1 K.2 (x.addr M))<|lW (x.atInt M)<|go ?_;obtain ⟨I,a⟩:=Z5 a;obtain ⟨_,M,a⟩:=bZ a;refine lV (X5 g (aA ((j0:Int)+(E:Int)) * 1)) (Vy underlying38 sizeOf119 O O I.1 I.2 (x.addr M)) ?_;obtain ⟨V,I,a⟩:=bZ a;have I:V=G.set (aA ((j0:Int)+(E:Int))) (u32.wrap (P - (u32.wrap (u64.wrap ((Uz .u64 (u64.wrap (C+(u64.wrap ((u64.wrap (q - 1)) * (u64.wrap Q))))) 4294967295)+X))))):=(Option.some.inj I).symm;refine Wc (x1:=u32.wrap (P - (u32.wrap (u64.wrap ((Uz .u64 (u64.wrap (C+(u64.wrap ((u64.wrap (q - 1)) * (u64.wrap Q))))) 4294967295)+X))))) x M ?_;intro _ M Z K;rw [← I] at K;have X:V.length=d.length:=(show G.length=V.length by rw [I,nS]).symm.trans cf;refine go ?_;refine lV (.int .u64 (Yl .u64 (u64.wrap (C+(u64.wrap ((u64.wrap (q - 1)) * (u64.wrap Q))))) 32)) (Sw (u64.wrap (C+(u64.wrap ((u64.wrap (q - 1)) * (u64.wrap Q))))) 32 O O (by decide))<|go ?_;replace f:=f.kp M Z;exact ⟨O,_,_,_,_,a,f,K,X,X,O⟩
     refine go ?_;obtain ⟨C,a⟩:=Z5 a;obtain ⟨_,G,a⟩:=bZ a;refine lV (X5 g (aA ((j0:Int)+(E:Int)) * 1)) (Vy underlying38 sizeOf119 O O C.1 C.2 (x.addr G))<|lW (x.atInt G)<|go ?_;refine Zp a (fun u a=>go ?_) fun u a=>?_
     ·exact ⟨O,_,1,a,f,x,O⟩
     refine X1 ?_;exact ⟨O,_,0,a,f,x,O⟩
   refine X1 ?_;exact ⟨Y,by omega,O,⟨_,_,_,_,O,a,f,j,O⟩⟩
  refine Zw ?_;refine Wp.cutK [0,1,5,7,8,1000000] (fun m K=>∃ X x,Zf3 j0 p d b q S (Qx N j0 p d b Y) x=some r∧St o (X7 [c] col) X K∧Zb rU 119 440 X K g i d∧[74].map m=[.bool x]) ?_ ?_
  ·intro m K z;obtain ⟨X,x,a,f,j,k⟩:=z;rw [Zf3.eq_1] at a;refine .lL [74] k ?_;refine Zp a (fun u a=>?_) fun u a=>go ?_
   ·refine X1 ?_;exact ⟨O,_,a,f,j⟩
   refine Z0 [0,1,5,7,87,88,1000000] (fun A m X=>∃ Y F W D B fi,A=fi.length∧b.drop D=fi∧U3 j0 p b q fi D F W B=some r∧St o (X7 [c] col) Y X∧Zb rU 119 440 Y X g i F∧F.length=d.length∧F.length=d.length∧[89,10,9].map m=[.int .i64 D,.int .u64 W,.int .u64 B]) b.length ⟨_,_,0,0,0,_,O,O,a,f,j,O,O,O⟩ ?_;clear a;intro A m X R;obtain ⟨Y,F,W,D,B,fi,v,t,a,f,w,c9,_,k⟩:=R;subst v;refine .lL [89,10,9] k ?_
   cases fi with
   | nil=>
    have s:¬ ((D:Int)<(b.length:Int)):=by have:=aF.1 t;omega
    have h:=decide_eq_false s;rw [U3.eq_1] at a;refine go ?_;refine Yd (congrArg Value.bool h)<|go ?_;obtain ⟨x,a⟩:=Z5 a;obtain ⟨_,Y,a⟩:=bZ a;refine lV (X5 g (aA ((j0:Int)+(b.length:Int)) * 1)) (Vy underlying38 sizeOf119 O O x.1 x.2 (w.addr Y))<|lW (w.atInt Y)<|go ?_;obtain ⟨X,a⟩:=Z5 a;obtain ⟨Y,x,a⟩:=bZ a;refine lV (X5 g (aA ((j0:Int)+(b.length:Int)) * 1)) (Vy underlying38 sizeOf119 O O X.1 X.2 (w.addr x))<|lW (w.atInt x)<|go ?_;obtain ⟨E,a⟩:=Z5 a;obtain ⟨_,V,a⟩:=bZ a;refine lV (X5 g (aA ((j0:Int)+(b.length:Int)) * 1)) (Vy underlying38 sizeOf119 O O E.1 E.2 (w.addr V)) ?_;obtain ⟨G,x,a⟩:=bZ a;have x:G=F.set (aA ((j0:Int)+(b.length:Int))) (u32.wrap (Y - (u32.wrap (u64.wrap (B+W))))):=(Option.some.inj x).symm;refine Wc (x1:=u32.wrap (Y - (u32.wrap (u64.wrap (B+W))))) w V ?_;intro _ E X bp;rw [← x] at bp;have bq:G.length=d.length:=(show F.length=G.length by rw [x,nS]).symm.trans c9;refine Zj<|Zw ?_;replace f:=f.kp E X;refine Wp.cutK [1000000] (fun m G=>∃ M V Z,Zcl V Z=some r∧St o (X7 [c] col) M G∧Zb rU 119 440 M G g i Z∧Z.length=d.length∧[7].map m=[.int .u64 V]) ?_ ?_
    ·intro m G z;obtain ⟨M,V,Z,a,f,ez,e0,k⟩:=z;rw [Zcl.eq_1] at a;refine .lL [7] k<|go ?_;cases a;exact ⟨O,_,O,f.finL O (cm [(440,c)]),f.foL ez,e0⟩
    refine go ?_;refine Zp a (fun u a=>go ?_) fun u a=>?_
    ·refine Z0 [0,143,144,5,7,1000000] (fun A m C=>∃ E J H L fj,A=fj.length∧b.drop H=fj∧S6 j0 p b q fj H J L=some r∧St o (X7 [c] col) E C∧Zb rU 119 440 E C g i J∧J.length=d.length∧J.length=d.length∧[145,9].map m=[.int .i64 H,.int .u64 L]) b.length ⟨_,_,0,0,_,O,O,a,f,bp,bq,bq,O⟩ ?_;clear a;intro A m C R;obtain ⟨E,J,H,L,fj,v,t,a,f,U,e1,e2,k⟩:=R;subst v;refine .lL [145,9] k ?_
     cases fj with
     | nil=>
      have s:¬ ((H:Int)<(b.length:Int)):=by have:=aF.1 t;omega
      have h:=decide_eq_false s;rw [S6.eq_1] at a;refine go ?_;refine Yd (congrArg Value.bool h)<|go ?_;obtain ⟨R,a⟩:=Z5 a;obtain ⟨E,v,a⟩:=bZ a;refine lV (X5 g (aA ((j0:Int)+(b.length:Int)) * 1)) (Vy underlying38 sizeOf119 O O R.1 R.2 (U.addr v))<|lW (U.atInt v)<|go ?_;obtain ⟨v,a⟩:=Z5 a;obtain ⟨_,C,a⟩:=bZ a;refine lV (X5 g (aA ((j0:Int)+(b.length:Int)) * 1)) (Vy underlying38 sizeOf119 O O v.1 v.2 (U.addr C)) ?_;obtain ⟨Y,v,a⟩:=bZ a;have v:Y=J.set (aA ((j0:Int)+(b.length:Int))) (u32.wrap (E+(u32.wrap L))):=(Option.some.inj v).symm;refine Wc (x1:=u32.wrap (E+(u32.wrap L))) U C ?_;intro _ R x A;rw [← v] at A;have C:Y.length=d.length:=(show J.length=Y.length by rw [v,nS]).symm.trans e2;refine Zj ?_;replace f:=f.kp R x;exact ⟨O,_,_,_,a,f,A,C,O⟩
     | cons E Y=>
      obtain ⟨y,x,V⟩:=Yo t;have s:(H:Int)<(b.length:Int):=by omega
      have h:=decide_eq_true s;rw [S6.eq_2] at a;refine go ?_;refine Ye (congrArg Value.bool h)<|go ?_;refine lI y ((l.ks f).addr y)<|lW ((l.ks f).atInt y) ?_;refine go ?_;obtain ⟨R,a⟩:=Z5 a;obtain ⟨C,A,a⟩:=bZ a;refine lV (X5 g (aA ((j0:Int)+(H:Int)) * 1)) (Vy underlying38 sizeOf119 O O R.1 R.2 (U.addr A))<|lW (U.atInt A)<|go ?_;obtain ⟨A,a⟩:=Z5 a;obtain ⟨_,G,a⟩:=bZ a;refine lV (X5 g (aA ((j0:Int)+(H:Int)) * 1)) (Vy underlying38 sizeOf119 O O A.1 A.2 (U.addr G)) ?_;obtain ⟨v,A,a⟩:=bZ a;have A:v=J.set (aA ((j0:Int)+(H:Int))) (u32.wrap (u64.wrap (L+(u64.wrap ((u64.wrap C)+(u64.wrap E)))))):=(Option.some.inj A).symm;refine Wc (x1:=u32.wrap (u64.wrap (L+(u64.wrap ((u64.wrap C)+(u64.wrap E)))))) U G ?_;intro _ G R U;rw [← A] at U;have H:v.length=d.length:=(show J.length=v.length by rw [A,nS]).symm.trans e1;refine go ?_;refine lV (.int .u64 (Yl .u64 (u64.wrap (L+(u64.wrap ((u64.wrap C)+(u64.wrap E))))) 32)) (Sw (u64.wrap (L+(u64.wrap ((u64.wrap C)+(u64.wrap E))))) 32 O O (by decide))<|go ?_;replace f:=f.kp G R;exact ⟨Y.length,by simp,O,⟨_,_,_,_,_,O,x,a,f,U,H,H,(Yv (congrArg (Value.int .i64) (Yp (aG V (l.ks f).1.1))) O)⟩⟩
    refine X1 ?_;exact ⟨O,_,_,_,a,f,bp,bq,O⟩
   | cons P U=>
    obtain ⟨y,v,A⟩:=Yo t;have s:(D:Int)<(b.length:Int):=by omega
    have h:=decide_eq_true s;rw [U3.eq_2] at a;refine go ?_;refine Ye (congrArg Value.bool h)<|X1<|Zw ?_;refine Wp.cutK [0,1,5,7,87,88,89,1000000] (fun m H=>∃ J h L R,Zl5 D (U3 j0 p b q U) h L R=some r∧St o (X7 [c] col) J H∧Zb rU 119 440 J H g i h∧h.length=d.length∧h.length=d.length∧[10,9].map m=[.int .u64 L,.int .u64 R]) ?_ ?_
    ·intro m H z;obtain ⟨J,h,L,R,a,f,J,L,h,k⟩:=z;rw [Zl5.eq_1] at a;refine .lL [10,9] k<|go ?_;exact ⟨U.length,by simp,O,⟨_,_,_,_,_,_,O,v,a,f,J,L,h,(Yv (congrArg (Value.int .i64) (Yp (aG A (l.ks f).1.1))) O)⟩⟩
    refine go ?_;refine lI y ((l.ks f).addr y)<|lW ((l.ks f).atInt y)<|Yr O<|Yr O<|Zj<|Zw<|Wv<|Xy O<|Xy O<|Xy O<|lV (.int .u64 (u64.wrap P)) (Zm7 P ⟨_,underlying119⟩ underlying118 O)<|lV _ (Zew _ _ O O)<|lV _ (Qg _ _ O O)<|Yr O<|Zj<|Zw<|Wv<|Xy O<|lV (.int .u64 (Uz .u64 (u64.wrap (B+(u64.wrap (q * (u64.wrap P))))) 4294967295)) (Zpv (u64.wrap (B+(u64.wrap (q * (u64.wrap P))))) 4294967295 O O)<|Xy O<|lV _ (Qg _ _ O O)<|Yr O<|Zj<|Zw<|Wv<|Yr O<|Zj<|Zw ?_;refine Wp.cutK [0,1,11,13,5,7,87,88,89,9,1000000] (fun m s=>∃ t y,Zf4 j0 p q F W D B (U3 j0 p b q U) P y=some r∧St o (X7 [c] col) t s∧Zb rU 119 440 t s g i F∧[10].map m=[.int .u64 y]) ?_ ?_
    ·intro m s z;obtain ⟨t,y,a,f,w,k⟩:=z;rw [Zf4.eq_1] at a;refine .lL [10] k<|go ?_;obtain ⟨c,a⟩:=Z5 a;obtain ⟨t,k,a⟩:=bZ a;refine lV (X5 g (aA ((j0:Int)+(D:Int)) * 1)) (Vy underlying38 sizeOf119 O O c.1 c.2 (w.addr k))<|lW (w.atInt k)<|go ?_;obtain ⟨p,a⟩:=Z5 a;obtain ⟨_,s,a⟩:=bZ a;refine lV (X5 g (aA ((j0:Int)+(D:Int)) * 1)) (Vy underlying38 sizeOf119 O O p.1 p.2 (w.addr s)) ?_;obtain ⟨m,c,a⟩:=bZ a;have c:m=F.set (aA ((j0:Int)+(D:Int))) (u32.wrap (t - (u32.wrap (u64.wrap ((Uz .u64 (u64.wrap (B+(u64.wrap (q * (u64.wrap P))))) 4294967295)+W))))):=(Option.some.inj c).symm;refine Wc (x1:=u32.wrap (t - (u32.wrap (u64.wrap ((Uz .u64 (u64.wrap (B+(u64.wrap (q * (u64.wrap P))))) 4294967295)+W))))) w s ?_;intro _ p y o;rw [← c] at o;have W:m.length=d.length:=(show F.length=m.length by rw [c,nS]).symm.trans c9;refine go ?_;refine lV (.int .u64 (Yl .u64 (u64.wrap (B+(u64.wrap (q * (u64.wrap P))))) 32)) (Sw (u64.wrap (B+(u64.wrap (q * (u64.wrap P))))) 32 O O (by decide))<|go ?_;replace f:=f.kp p y;exact ⟨O,_,_,_,_,a,f,o,W,W,O⟩
    refine go ?_;obtain ⟨z,a⟩:=Z5 a;obtain ⟨_,B,a⟩:=bZ a;refine lV (X5 g (aA ((j0:Int)+(D:Int)) * 1)) (Vy underlying38 sizeOf119 O O z.1 z.2 (w.addr B))<|lW (w.atInt B)<|go ?_;refine Zp a (fun u a=>go ?_) fun u a=>?_
    ·exact ⟨O,_,1,a,f,w,O⟩
    refine X1 ?_;exact ⟨O,_,0,a,f,w,O⟩
  refine Vp (col:=T) (by kernel_rfl) (by kernel_rfl)<|go ?_;refine X9 a (fun h a=>go ?_) fun h a=>go ?_
  ·refine U8 54 O O O O<|U8 54 O O O O<|U8 54 O O O O<|U8 54 O O O O<|U8 54 O O O O<|U8 54 O O O O<|U8 54 O O O O<|U8 54 O O O O<|U8 54 O O O O<|U8 54 O O O O<|U8 54 O O O O<|U8 54 O O O O<|U8 54 O O O O<|U8 54 O O O O<|U8 54 O O O O<|U8 54 O O O O<|U8 54 O O O O<|U8 54 O O O O<|go ?_;refine qv (v:=(.bool true)) O (fun _ n=>Xw (congrArg Value.bool h) O) ?_;refine Wj ?_;intro _ n;replace n:=n.bl T;replace j:=j.gr n;replace f:=f.grow n;exact ⟨O,_,_,a,f,j,O⟩
  refine X9 a (fun o a=>go ?_) fun o a=>go ?_
  ·obtain ⟨D,k,a⟩:=bZ a;refine qI k ((l.ks f).addr k) ?_;refine go ?_;refine qW (fun _ n=>((l.ks f).gr (n.bl T)).atInt k) ?_;refine go ?_;refine qv (v:=(.int .u64 (Xx .u64 S 32))) O (fun _ n=>Zex S 32 O O (by decide)) ?_;refine go ?_;obtain ⟨l,a⟩:=Z5 a;obtain ⟨w,u,a⟩:=bZ a;refine qv (v:=(X5 g (aA ((j0:Int)+(i64.wrap ((b.length:Int) - 2))) * 1))) O (fun _ n=>Vy underlying38 sizeOf119 O O l.1 l.2 (j.addr u)) ?_;refine go ?_;refine qW (fun _ n=>(j.gr (n.bl T)).atInt u) ?_;refine go ?_;refine qv (v:=(.bool (decide ((Y4 .u64 (Xx .u64 S 32) (u64.wrap w))<(u64.wrap (q * (u64.wrap D))))))) O (fun _ n=>Xw (congrArg Value.bool o) O) ?_;refine qv (v:=(.bool (decide ((Y4 .u64 (Xx .u64 S 32) (u64.wrap w))<(u64.wrap (q * (u64.wrap D))))))) O (fun _ n=>X0 (congrArg Value.bool h) O) ?_;refine Wj ?_;intro _ n;replace n:=n.bl T;replace j:=j.gr n;replace f:=f.grow n;exact ⟨O,_,_,a,f,j,O⟩
  refine qv (v:=(.bool false)) O (fun _ n=>X0 (congrArg Value.bool o) O) ?_;refine qv (v:=(.bool false)) O (fun _ n=>X0 (congrArg Value.bool h) O) ?_;refine Wj ?_;intro _ n;replace n:=n.bl T;exact ⟨O,_,_,a,f.grow n,j.gr n,O⟩
def Zox (a:Int) (kk_L2:(List Int→Int→Option Ra)) (b:List Int):Option Ra:=
  kk_L2 b (i64.wrap (a+1))
def Zi5 (b:Int) (c:List Int) (a:Int) (kk_L2:(List Int→Int→Option Ra)) (d:Int):Option Ra:=
  (Zn c a).bind fun e=>Z1 (0≤b) ((some (c.set (aA a) (u32.wrap (Yl .u64 (Y4 .u64 (Xx .u64 (u64.wrap d) 32) (u64.wrap e)) b)))).bind fun f=>Zox a kk_L2 f)
def Qw (N:Nat) (c:Int) (d e:List Int):Nat→R2→Int→Option Ra
  | 0,_,_=>none
  | f+1,a,b=>if (decide (b<(e.length:Int)))=true then (if (decide ((i64.wrap (b+1))<(a.length:Int)))=true then ((Zn a (i64.wrap (b+1))).bind fun g=>Zi5 c a b (Qw N c d e f) g) else (Zi5 c a b (Qw N c d e f) 0)) else ((U4 N d).bind fun i=>(U4 N a).bind fun j=>some (i,j,0))
def Zf1 (N:Nat) (e:Int) (b:List Int):Nat→R2→R2→Int→Option Ra
  | 0,_,_,_=>none
  | i+1,c,d,a=>if (decide (0≤a))=true then (Z1 ((0:Int)≤a∧a<(i64.wrap ((i64.wrap (a+(b.length:Int)))+1))∧(i64.wrap ((i64.wrap (a+(b.length:Int)))+1))≤(c.length:Int)) ((Zi7 N (aA a) ((aA (i64.wrap ((i64.wrap (a+(b.length:Int)))+1))) - (aA a)) c b).bind fun f=>(Zn d a).bind fun k=>(some (d.set (aA a) f.1)).bind fun j=>(Zf1 N e b i) f.2 j (i64.wrap (a - 1)))) else ((Zf7 N c).bind fun g=>Qw N e d g N g 0)
def Zd5 (N:Nat) (e f:List Int):Option Ra:=
  (Tf N e).bind fun b=>(Tf N f).bind fun a=>if (decide ((a.length:Int)=0))=true then (some (([]:List Int),([]:List Int),11)) else ((Zfz N b a).bind fun g=>if (decide (g<0))=true then ((U4 N b).bind fun i=>some (([]:List Int),i,0)) else (if (decide ((a.length:Int)=1))=true then ((Zeq b).bind fun j=>(Zn a 0).bind fun k=>(Zl6 N j k).bind fun d=>(U4 N d.2).bind fun l=>(U4 N [d.1]).bind fun m=>some (l,m,0)) else ((Zn a (i64.wrap ((a.length:Int) - 1))).bind fun n=>(Zlu n).bind fun c=>(Zf5 b c).bind fun o=>(Zf5 a c).bind fun p=>(Zf7 N p).bind fun q=>Z1 ((aA (i64.wrap ((i64.wrap ((b.length:Int) - (a.length:Int)))+1))) * 4≤281474976710656∧(aA (i64.wrap ((i64.wrap ((b.length:Int) - (a.length:Int)))+1)))≤maxLen∧0≤(i64.wrap ((i64.wrap ((b.length:Int) - (a.length:Int)))+1))) (Zf1 N c q N o (aC (aA (i64.wrap ((i64.wrap ((b.length:Int) - (a.length:Int)))+1))) (0:Int)) (i64.wrap (((aC (aA (i64.wrap ((i64.wrap ((b.length:Int) - (a.length:Int)))+1))) (0:Int)).length:Int) - 1))))))
theorem Zn3 {N H I:Nat} {D F:Option Addr} {col:Zg} {g:World} {B W:R2} {r:Ra} (c1 c2:Nat) (a:Zd5 N B W=some r) (E:Sl rU col g D H B) (Z:Sl rU col g F I W):
    Calls prog 150 #[.slice D B.length H,.slice F W.length I] g (fun e w'=>∃ (col':Zg) (p:Option Addr) (n:Nat) (q:Option Addr) (o:Nat),e= .returned (.tuple #[.slice p r.1.length n,.slice q r.2.1.length o,.int .i64 r.2.2])∧Zl col g col' w'∧Zb rU 119 c1 col' w' p n r.1∧Zb rU 119 c2 col' w' q o r.2.1):=by
 refine Zra 4 5 6 (m:=122) (args:=[.slice D B.length H,.slice F W.length I]) func150 O O O O O ?_;rw [Zd5.eq_1] at a;have b:=St.start col g;refine go ?_;obtain ⟨bq,q,a⟩:=bZ a;refine Zh (S0 q (E.k0.ks b)) fun _ _ ⟨_,_,_,c,D,y⟩=>⟨_,c,?_⟩;refine Wg O ?_;obtain ⟨bt,B,a⟩:=bZ a;replace b:=b.grow D;refine Zh (S0 B (Z.k0.ks b)) ?_;rintro _ bv ⟨G,c8,c9,rfl,bc,l⟩;refine ⟨_,O,go ?_⟩;replace y:=y.gr bc;replace b:=b.grow bc;refine Zp a (fun d a=>go ?_) fun d a=>go ?_
 ·cases a;exact ⟨O,_,none,0,none,0,O,b.fin (cm []),Zb.nil,Zb.nil⟩
 obtain ⟨_,D,a⟩:=bZ a;refine Zh (Zqx D y l) fun _ _ ⟨c,Z⟩=>⟨_,c,?_⟩;replace Z:=Ru G Z;refine go ?_;replace y:=y.gr Z;replace l:=l.gr Z;replace b:=b.grow Z;refine Zp a (fun d a=>go ?_) fun d a=>go ?_
 ·obtain ⟨_,E,a⟩:=bZ a;refine Zh (Sk 1 E y) ?_;rintro _ dc ⟨dd,de,df,rfl,bz,b0⟩;refine ⟨_,O,go ?_⟩;cases a;replace b:=b.grow bz;exact ⟨O,_,none,0,_,_,O,b.fin (cm [(1,c2)]),Zb.nil,b.fo b0⟩
 refine Zp a (fun d a=>go ?_) fun d a=>go ?_
 ·obtain ⟨be,I,a⟩:=bZ a;refine Zh (Zn9 2 I y) ?_;rintro _ dg ⟨dh,X,Y,rfl,bf,b2⟩;refine ⟨_,O,go ?_⟩;obtain ⟨_,n,a⟩:=bZ a;replace l:=l.gr bf;refine lI n (l.addr n)<|lW (l.atInt n) ?_;obtain ⟨o,Z,a⟩:=bZ a;refine Zh (Z4m 2 Z O b2) fun _ Z ⟨E,c,b5,H,p⟩=>⟨_,c,?_⟩;refine .ld (d:=7) (v:=(.slice X o.2.length Y)) (congrArg (fun h=>Value.slice X h Y) (show be.length=o.2.length from p.symm)) ?_;refine .ld (d:=34) (v:=(.slice X o.2.length Y)) (congrArg (fun h=>Value.slice X h Y) (show be.length=o.2.length from p.symm)) ?_;refine go ?_;obtain ⟨_,F,a⟩:=bZ a;refine Zh (Sk 3 F (H.toSlF (Ze.int .u32))) fun _ _ ⟨F,_,_,c,bd,bl⟩=>⟨_,c,?_⟩;replace bl:=bl.thaw (Zt .u32) bd ((Fz.refl (col:=E)).froz 2);replace bd:=bd.thawR (col:=E);generalize Z2 Z.heap.size E F=p at *;refine Xy O<|Vn (col:=p) [o.1] 4 ?_;intro _ I B bh q;obtain ⟨_,H,a⟩:=bZ a;refine Zh (Sk 5 H (q.toSlF (Ze.int .u32))) fun _ _ ⟨E,_,_,c,s,C⟩=>⟨_,c,?_⟩;replace C:=C.thaw (Zt .u32) s ((Fz.refl (col:=B)).froz 4);replace s:=s.thawR (col:=B);generalize Z2 I.heap.size B E=n at *;refine go ?_;cases a;replace b:=((((b.grow bf).kpp b5).grow bd).grow bh).grow s;exact ⟨O,_,_,_,_,_,O,b.fin (cm [(3,c1),(5,c2)]),b.fo ((bl.gr bh).gr s),b.fo C⟩
 obtain ⟨_,Z,a⟩:=bZ a;refine lI Z (l.addr Z)<|lW (l.atInt Z) ?_;obtain ⟨t,o,a⟩:=bZ a;refine Zh (Z39 (col:=G) o) fun _ _ ⟨c,K⟩=>⟨_,c,?_⟩;replace K:=Ru G K;refine go ?_;obtain ⟨_,C,a⟩:=bZ a;refine Zh (Zqz 6 C (y.gr K)) ?_;rintro _ dx ⟨dy,dz,d0,rfl,bi,cf⟩;refine ⟨_,O,go ?_⟩;obtain ⟨_,y,a⟩:=bZ a;refine Zh (Zqz 7 y ((l.gr K).gr bi)) fun _ _ ⟨_,_,_,c,bj,s⟩=>⟨_,c,?_⟩;obtain ⟨J,l,a⟩:=bZ a;refine Zh (Zu1 7 l O s) ?_;rintro _ ck ⟨cl,cn,co,rfl,bk,x⟩;refine ⟨_,O,go ?_⟩;obtain ⟨I,a⟩:=Z5 a;refine T6 (col:=cl) (w:=ck) (r:=rU) (n:=(aA (i64.wrap ((i64.wrap ((bq.length:Int) - (bt.length:Int)))+1)))) (x0:=0) 8 O underlying38 Tryz.t119 O O O O O (congrArg (Value.int _) (bA I.2.2).symm) (congrArg (Value.int _) (bA I.2.2).symm) I.1 I.2.1 (Tx .u32 0) fun _ _ _ l C=>go ?_;replace cf:=((cf.gr bj).kpp bk).gr l;replace x:=x.gr l;replace x:=(x).toSlF (Ze.int .u32);replace b:=((((b.grow K).grow bi).grow bj).kpp bk).grow l;replace b:=b.froz 7 (by decide) (by decide);refine Z0 [11,9,1000000] (fun h k l=>∃ n Q R c4 z A j v S,S=h∧Zf1 N t J S c4 j v=some r∧St g (Zk col) n l∧Zb rU 119 6 n l Q R c4∧Sl rU n l cn co J∧Zb rU 119 8 n l z A j∧[10,12,13].map k=[.slice Q c4.length R,.slice z j.length A,.int .i64 v]) N ⟨_,_,_,_,_,_,_,_,_,O,a,b,cf.froz 7,x,C.froz 7,O⟩ ?_;clear a;intro h k l hI;obtain ⟨n,Q,R,c4,z,A,j,v,S,hn,a,b,P,x,f,i⟩:=hI;subst hn;refine .lL [10,12,13] i ?_
 cases S with
 | zero=>rw [Zf1.eq_1] at a;cases a
 | succ S=>
  rw [Zf1.eq_2] at a;refine go ?_;refine Zp a (fun d a=>go ?_) fun d a=>go ?_
  ·obtain ⟨s,a⟩:=Z5 a;refine lV (.slice (Q.map (·.add ((aA v) * 1))) ((aA (i64.wrap ((i64.wrap (v+(J.length:Int)))+1))) - (aA v)) (R - (aA v))) (Z92 underlying38 sizeOf119 O O O s.1 s.2.1 (by have:=P.lecap;have:=s.2.2;omega))<|Wg O ?_;obtain ⟨J,n,a⟩:=bZ a;refine Zh (Z4k 6 n O P x) fun _ _ ⟨_,c,K,l,y⟩=>⟨_,c,?_⟩;refine .ld (d:=10) (v:=(.slice Q J.2.length R)) (congrArg (fun h=>Value.slice Q h R) (show c4.length=J.2.length from y.symm)) ?_;obtain ⟨_,o,a⟩:=bZ a;replace f:=f.kpp K;refine lI o (f.addr o) ?_;obtain ⟨y,H,a⟩:=bZ a;have H:y=j.set (aA v) J.1:=(Option.some.inj H).symm;refine Wc (x1:=J.1) f o ?_;intro _ v J Q;rw [← H] at Q;refine .ld (d:=12) (v:=(.slice z y.length A)) (congrArg (fun h=>Value.slice z h A) (show j.length=y.length by rw [H,nS])) ?_;refine go ?_;replace b:=(b.kpp K).kp v J;exact ⟨S,by omega,O,⟨_,_,_,_,_,_,_,_,_,O,a,b,l.kp v,(x.kpp K).kp v,Q,O⟩⟩
  obtain ⟨L,R,a⟩:=bZ a;refine Zh (Zu1 6 R O P) ?_;rintro _ ed ⟨ee,ef,eg,rfl,bn,ct⟩;refine ⟨_,O,go ?_⟩;replace f:=f.kpp bn;replace b:=b.kpp bn;refine Z0 [12,88,9,1000000] (fun h k c5=>∃ M U V w T u,u=h∧Qw N t j L u w T=some r∧St g (Zk col) M c5∧Zb rU 119 6 M c5 U V w∧Zb rU 119 8 M c5 z A j∧[10,89].map k=[.slice U w.length V,.int .i64 T]) N ⟨_,_,_,_,0,_,O,a,b,ct,f,O⟩ ?_;clear a;intro h k c5 hI;obtain ⟨M,U,V,w,T,u,hn,a,b,m,f,i⟩:=hI;subst hn;refine .lL [10,89] i ?_
  cases u with
  | zero=>rw [Qw.eq_1] at a;cases a
  | succ u=>
   rw [Qw.eq_2] at a;refine go ?_;refine Zp a (fun d a=>?_) fun d a=>go ?_
   ·refine X1<|Zw ?_;refine Wp.cutK [12,88,89,9,1000000] (fun k D=>∃ E p q F,Zox T (Qw N t j L u) F=some r∧St g (Zk col) E D∧Zb rU 119 6 E D p q F∧Zb rU 119 8 E D z A j∧[10].map k=[.slice p F.length q]) ?_ ?_
    ·intro k D x;obtain ⟨E,p,q,F,a,b,S,f,i⟩:=x;rw [Zox.eq_1] at a;refine .lL [10] i<|go ?_;exact ⟨u,by omega,O,⟨_,_,_,_,_,_,O,a,b,S,f,O⟩⟩
    refine Zg7<|Zw<|Wv<|Xy O<|Yr O<|Zj<|Zw<|Wv<|Yr O<|Zj<|Zw ?_;refine Wp.cutK [10,12,14,88,89,9,1000000] (fun k B=>∃ C s,Zi5 t w T (Qw N t j L u) s=some r∧St g (Zk col) C B∧Zb rU 119 6 C B U V w∧Zb rU 119 8 C B z A j∧[15].map k=[.int .u32 s]) ?_ ?_
    ·intro k B x;obtain ⟨C,s,a,b,m,f,i⟩:=x;rw [Zi5.eq_1] at a;refine .lL [15] i<|go ?_;refine lV (.int .u64 (Xx .u64 (u64.wrap s) 32)) (Zex (u64.wrap s) 32 O O (by decide))<|go ?_;obtain ⟨L,P,a⟩:=bZ a;refine lI P (m.addr P)<|lW (m.atInt P) ?_;refine go ?_;obtain ⟨u,a⟩:=Z5 a;refine lV (.int .u64 (Yl .u64 (Y4 .u64 (Xx .u64 (u64.wrap s) 32) (u64.wrap L)) t)) (Sw (Y4 .u64 (Xx .u64 (u64.wrap s) 32) (u64.wrap L)) t O O u)<|go ?_;refine lI P (m.addr P) ?_;obtain ⟨g,K,a⟩:=bZ a;have K:g=w.set (aA T) (u32.wrap (Yl .u64 (Y4 .u64 (Xx .u64 (u64.wrap s) 32) (u64.wrap L)) t)):=(Option.some.inj K).symm;refine Wc (x1:=u32.wrap (Yl .u64 (Y4 .u64 (Xx .u64 (u64.wrap s) 32) (u64.wrap L)) t)) m P ?_;intro _ i z j;rw [← K] at j;refine .ld (d:=10) (v:=(.slice U g.length V)) (congrArg (fun h=>Value.slice U h V) (show w.length=g.length by rw [K,nS])) ?_;refine Zj ?_;replace f:=f.kp i;replace b:=b.kp i z;exact ⟨O,_,_,_,_,a,b,j,f,O⟩
    refine go ?_;refine Zp a (fun d a=>go ?_) fun d a=>?_
    ·obtain ⟨_,d,a⟩:=bZ a;refine lI d (m.addr d)<|lW (m.atInt d) ?_;refine go ?_;exact ⟨O,_,_,a,b,m,f,O⟩
    refine X1 ?_;exact ⟨O,_,0,a,b,m,f,O⟩
   obtain ⟨_,h,a⟩:=bZ a;refine Zh (Sk 9 h (f.toSlF (Ze.int .u32))) fun _ w ⟨t,_,_,c,c6,c7⟩=>⟨_,c,?_⟩;replace c7:=c7.thaw (Zt .u32) c6 ((Fz.refl (col:=M)).froz 8);replace c6:=c6.thawR (col:=M);generalize Z2 c5.heap.size M t=f at *;refine Wg O ?_;obtain ⟨_,k,a⟩:=bZ a;refine Zh (Sk 10 k ((m.gr c6).toSlF (Ze.int .u32))) fun _ _ ⟨m,_,_,c,da,bb⟩=>⟨_,c,?_⟩;replace bb:=bb.thaw (Zt .u32) da ((Fz.refl (col:=f)).froz 6);replace da:=da.thawR (col:=f);generalize Z2 w.heap.size f m=c at *;refine go ?_;cases a;replace b:=(b.grow c6).grow da;exact ⟨O,_,_,_,_,_,O,b.fin (cm [(9,c1),(10,c2)]),b.fo (c7.gr da),b.fo bb⟩
def Zcj (N:Nat) (b:List Int):Option Int:=
  (Tf N b).bind fun a=>if (decide ((a.length:Int)=0))=true then (some 0) else ((Zn a (i64.wrap ((a.length:Int) - 1))).bind fun c=>(Zit c).bind fun d=>some (i64.wrap ((i64.wrap (32 * (i64.wrap ((a.length:Int) - 1))))+d)))
theorem Zqw {N g:Nat} {f:Option Addr} {col:Zg} {d:World} {b:R2} {r:Int} (a:Zcj N b=some r) (o:Sl rU col d f g b):
    Calls prog 97 #[.slice f b.length g] d (W8 d r):=by
 refine Xk 2 (m:=20) func97 O O O O O ?_;rw [Zcj.eq_1] at a;have e:=St.start col d;refine go ?_;obtain ⟨_,p,a⟩:=bZ a;refine Zh (S0 p (o.k0.ks e)) ?_;rintro _ k ⟨c,q,s,rfl,l,i⟩;refine ⟨_,O,go ?_⟩;replace e:=e.grow l;refine Zp a (fun n a=>go ?_) fun n a=>go ?_
 ·cases a;exact ⟨O,O,e.below⟩
 obtain ⟨_,h,a⟩:=bZ a;refine lI h (i.addr h)<|lW (i.atInt h) ?_;obtain ⟨_,t,a⟩:=bZ a;refine Zh (Zux (col:=c) t) fun _ _ ⟨m,j⟩=>⟨_,m,?_⟩;replace j:=Ru c j;refine go ?_;cases a;exact ⟨O,O,(e.grow j).below⟩
def Xf (n:Nat):Nat:=if n=0 then 0 else n.log2+1
theorem Zhe:Xf 0=0:=rfl
theorem Zul {n k:Nat} (h:2 ^ k≤n) (h2:n<2 ^ (k+1)):Xf n=k+1:=by
 have a:n≠0:=by have:=bU k;omega
 rw [Xf,if_neg a,(jJ a).2 ⟨h,h2⟩]
theorem Znz {n:Nat} (h:n≠0):∃ k,Xf n=k+1∧2 ^ k≤n∧n<2 ^ (k+1):=by
 refine ⟨n.log2,by rw [Xf,if_neg h],?_⟩
 exact (jJ h).1 rfl
theorem V4 {n k:Nat}:Xf n≤k↔n<2 ^ k:=by
 by_cases h:n=0
 ·subst h;simp [Zhe,bU]
 ·obtain ⟨j,e,c,d⟩:=Znz h
  rw [e]
  constructor
  ·intro b;exact aG d (fQ (by decide) b)
  ·intro b
   have:=(Nat.pow_lt_pow_iff_right (a:=2) (by decide)).1 (dV c b)
   omega
theorem Zku (n k:Nat):Xf (n / 2 ^ k)=Xf n - k:=by
 by_cases h:n / 2 ^ k=0
 ·have a:n<2 ^ k:=by
   have:=bU k
   rcases Nat.div_eq_zero_iff.1 h with h | h
   ·omega
   ·exact h
  have:=V4.2 a
  rw [h,Zhe];omega
 ·obtain ⟨j,e,a,c⟩:=Znz h
  have b:=bU k
  have d:2 ^ (j+k)≤n:=by
   rw [cP]
   exact (fI b).1 a
  have f:n<2 ^ (j+k+1):=by
   have:=(cZ b).1 c
   rw [show j+k+1=(j+1)+k by omega,cP];exact this
  rw [e,Zul d f];omega
theorem Z8a:∀ x:Fin 256,Zfu (x.val:Int) 0=some ((Xf x.val:Nat):Int):=by decide+kernel
theorem Zyc {x:Nat} (h:x<256) {n:Int} (hn:0≤n∧n≤24):Zfu (x:Int) n=some (n+(Xf x:Int)):=by
 have a:=Z8a ⟨x,h⟩
 have c:Xf x≤8:=V4.2 h
 rw [Zfu] at a ⊢
 revert a
 generalize Si _ _=o
 intro a
 cases o with
 | none=>cases a
 | some e=>
  rw [oB] at a ⊢
  have b:=Option.some.inj a
  rw [IntKind.wrap_i64,IntKind.wrap_i64] at b ⊢
  congr 1
  simp only at b
  omega
theorem Znd (i:IntKind) (x k:Nat) (hk:k≤i.bits):Yl i (x:Int) (k:Int)=((x / 2 ^ k:Nat):Int):=by
 rw [Yl,aB,aZ hk,gU _ (Int.le_of_lt (Int.pow_pos (by decide)))]
 norm_cast
theorem Zx9 {x:Nat} (h:x<4294967296):Zit (x:Int)=some ((Xf x:Nat):Int):=by
 have b:∀ (y:Nat) (n:Int),y<65536→0≤n∧n≤16→Ziu (y:Int) n=some (n+(Xf y:Int)):=fun y n d f=>by
  rw [Ziu]
  by_cases h1:256≤y
  ·have e:=Znd .u32 y 8 (by decide)
   have a:=Zku y 8
   have c:8≤Xf y:=by
    have:¬ Xf y≤7:=fun h=>by have:=V4.1 h;omega
    omega
   rw [if_pos (by simp;omega),show (8:Int)=((8:Nat):Int) from rfl,e,Zyc (by omega) (by rw [Zy (by omega)];omega),Zy (by omega),a]
   congr 1;omega
  ·rw [if_neg (by simp;omega),Zyc (by omega) (by omega)]
 rw [Zit]
 by_cases h1:65536≤x
 ·have e:=Znd .u32 x 16 (by decide)
  have a:=Zku x 16
  have c:16≤Xf x:=by
   have:¬ Xf x≤15:=fun h=>by have:=V4.1 h;omega
   omega
  rw [if_pos (by simp;omega),show (16:Int)=((16:Nat):Int) from rfl,e,b _ _ (by omega) (by omega),a]
  congr 1;omega
 ·rw [if_neg (by simp;omega),b _ _ (by omega) (by omega)]
  congr 1;omega
theorem Zun {a:List Int} {x:Int} (ha:Zo a) (hx:0<x∧x<4294967296):Xf (Za (a++[x]))=32 * a.length+Xf x.toNat:=by
 obtain ⟨k,e,d,g⟩:=Znz (show x.toNat≠0 by omega)
 have f:=Q3 ha
 have c:Za (a++[x])=Za a+4294967296 ^ a.length * x.toNat:=by rw [Qb,Wm,Y0];simp
 have b:(4294967296:Nat) ^ a.length=2 ^ (32 * a.length):=by rw [show (4294967296:Nat)=2 ^ 32 by decide,← Nat.pow_mul]
 rw [e]
 have:=Zul (n:=Za (a++[x])) (k:=32 * a.length+k) (by
   rw [c,b,cP]
   have:=aU (2 ^ (32 * a.length)) d
   omega) (by
   rw [c,show 32 * a.length+k+1=32 * a.length+(k+1) by omega,cP,b]
   have:=aU (2 ^ (32 * a.length)) (show x.toNat+1≤2 ^ (k+1) by omega)
   rw [dN] at this
   rw [b] at f
   omega)
 rw [this];omega
theorem Zhd (n:Nat):32 * ((Zf n).length - 1)≤Xf n∧Xf n≤32 * (Zf n).length:=by
 have e:∀ k,(4294967296:Nat) ^ k=2 ^ (32 * k):=fun k=>by rw [show (4294967296:Nat)=2 ^ 32 by decide,← Nat.pow_mul]
 constructor
 ·by_cases h:32 * ((Zf n).length - 1)≤Xf n
  ·exact h
  ·exfalso
   have a:=V4.1 (show Xf n≤32 * ((Zf n).length - 1) by omega)
   rw [← e] at a
   have:=W0.2 a
   omega
 ·have:=W0.1 (aV (Zf n).length)
  rw [e] at this
  exact V4.2 this
theorem Zqq {N:Nat} {a:List Int} (h:Zo a) (hn:a.length<N) (hb:a.length≤35184372088000):Zcj N a=some ((Xf (Za a):Nat):Int):=by
 have i:=Yk h
 rw [Zcj,Qh h hn hb,oB]
 by_cases h0:(Zf (Za a)).length=0
 ·have:Za a=0:=Zhw.1 (cJ h0)
  rw [if_pos (by simp [h0]),this,Zhe];rfl
 ·have b:0<(Zf (Za a)).length:=by omega
  have e:((Zf (Za a)).length:Int) - 1=(((Zf (Za a)).length - 1:Nat):Int):=by omega
  have j:=(Z9 (Za a)).get (k:=(Zf (Za a)).length - 1) (by omega)
  have f:=Zok b
  have c:=Zhu b
  have d:(Zf (Za a))[(Zf (Za a)).length - 1]=(((Zf (Za a))[(Zf (Za a)).length - 1]).toNat:Int):=by omega
  rw [if_neg (by simpa using h0),Zy (by omega),e,Xd (by omega),oB,d,Zx9 (by omega),oB]
  have hb:=Zun (a:=(Zf (Za a)).take ((Zf (Za a)).length - 1)) (x:=(Zf (Za a))[(Zf (Za a)).length - 1]) ((Z9 _).take _) (by omega)
  rw [c,Z6,nK,aZ (by omega)] at hb
  have g:Xf ((Zf (Za a))[(Zf (Za a)).length - 1]).toNat≤32:=V4.2 (by omega)
  rw [Zy (x:=32 * _) (by omega),Zy (by omega),hb]
  congr 1
theorem Zda (w x:Nat) (h:x<2 ^ w):(BitVec.ofInt w (x:Int)).toNat=x:=by
 rw [BitVec.toNat_ofInt]
 have:((2 ^ w:Nat):Int)=(2:Int) ^ w:=by norm_cast
 rw [← jE,aB,dR h]
theorem or64 (k a b:Nat) (h:b<2 ^ k) (hs:2 ^ k * a+b<18446744073709551616):Y4 .u64 ((2 ^ k * a:Nat):Int) (b:Int)=((2 ^ k * a+b:Nat):Int):=by
 rw [Y4,BitVec.toNat_or,Zda _ _ (by simp only [IntKind.bits];omega),Zda _ _ (by simp only [IntKind.bits];omega),← gN h,IntKind.wrap_u64]
 omega
theorem or32 (k a b:Nat) (h:b<2 ^ k) (hs:2 ^ k * a+b<4294967296):Y4 .u32 (b:Int) ((2 ^ k * a:Nat):Int)=((2 ^ k * a+b:Nat):Int):=by
 rw [Y4,BitVec.toNat_or,Zda _ _ (by simp only [IntKind.bits];omega),Zda _ _ (by simp only [IntKind.bits];omega),Nat.or_comm,← gN h,IntKind.wrap_u32]
 omega
theorem Xao {x:Int} (h:0≤x∧x<4294967296):Xx .u64 x 32=x * 4294967296:=by
 have:(min (32:Int).toNat u64.bits)=32:=by decide
 rw [Xx,this,IntKind.wrap_u64]
 omega
theorem Zqf {r e:Int} (hr:0≤r∧r<4294967296) (he:0≤e∧e<4294967296):Y4 .u64 (Xx .u64 r 32) e=r * 4294967296+e:=by
 rw [Xao hr]
 have:=or64 32 r.toNat e.toNat (by omega) (by omega)
 rw [show ((2 ^ 32 * r.toNat:Nat):Int)=r * 4294967296 by omega,show ((e.toNat:Nat):Int)=e by omega] at this
 rw [this];omega
theorem Zez {l:List Int} {k j:Nat} (v:Int) (h:j≤k):(l.set k v).take j=l.take j:=by
 rw [List.take_set,List.set_eq_of_length_le]
 rw [nK];omega
theorem Z1o (N:Nat) (d:Int) (hd:0<d∧d<4294967296):∀ (n j:Nat) (r:List Int) (c:Int),j≤r.length→j<n→r.length<4611686018427387904→Zo r→0≤c∧c<d→
  ∃ c' r',Zf6 N d n r c ((j:Int) - 1)=some (c',r')∧r'.length=r.length∧Zo r'∧0≤c'∧c'<d∧d.toNat * Za r'+c'.toNat=Za (r.take j)+4294967296 ^ j * (c.toNat+d.toNat * Za (r.drop j))
 | 0,j,r,c,_,h,_,_,_=>by omega
 | n+1,j,r,c,E,F,q,f,k=>by
  rw [Zf6.eq_2]
  by_cases h0:j=0
  ·subst h0
   rw [if_neg (by decide),Ux (by omega)]
   refine ⟨c,r,rfl,rfl,f,k.1,k.2,?_⟩
   rw [List.take_zero,bF,Y0];omega
  ·have e:(j:Int) - 1=((j - 1:Nat):Int):=by omega
   have b:j - 1<r.length:=by omega
   have g:=f.get b
   rw [if_pos (by simp;omega),e,Xd b,oB,Xs (x:=d) (by omega),Xh (by omega),oB,Xh (by omega),aB,Xs (x:=r[j - 1]) (by omega),Zqf (by omega) (by omega)]
   generalize hcur:c * 4294967296+r[j - 1]=a
   have B:(c+1) * 4294967296≤d * 4294967296:=by omega
   have i:0≤a / d∧a / d<4294967296:=⟨Int.ediv_nonneg (by omega) (by omega),Int.ediv_lt_of_lt_mul hd.1 (by rw [Int.mul_comm];omega)⟩
   have s:=Int.emod_nonneg a (show d≠0 by omega)
   have l:=Int.emod_lt_of_pos a hd.1
   have C:=Int.mul_ediv_add_emod a d
   rw [bM (by omega),bS (by omega),Xs (by omega),Ux i,Zy (by omega)]
   obtain ⟨c',r',q1,t,u,v,w,y⟩:=Z1o N d hd n (j - 1) (r.set (j - 1) (a / d)) (a % d) (by rw [nS];omega) (by omega) (by rw [nS];exact q) (f.set _ i) ⟨s,l⟩
   refine ⟨c',r',q1,by rw [t,nS],u,v,w,?_⟩
   rw [y,Zez _ (aV _)]
   have m:=Zsr b
   have o:Za ((r.set (j - 1) (a / d)).drop (j - 1))=(a / d).toNat+4294967296 * Za (r.drop (j - 1+1)):=by
    rw [U7 (by rw [nS];exact b),iC,Q9 _ (by omega)]
   rw [show j - 1+1=j by omega] at m o
   rw [m,o]
   have A:(4294967296:Nat) ^ j=4294967296 ^ (j - 1) * 4294967296:=by rw [← aW,show (j - 1).succ=j by omega]
   rw [A]
   have p:d.toNat * (a / d).toNat+(a % d).toNat=c.toNat * 4294967296+(r[j - 1]).toNat:=by
    have:((d.toNat * (a / d).toNat:Nat):Int)=d * (a / d):=by rw [bH,bA (by omega),bA i.1]
    omega
   generalize hQ:4294967296 ^ (j - 1)=Q
   have D:Q * (d.toNat * (a / d).toNat+(a % d).toNat)=Q * (c.toNat * 4294967296+(r[j - 1]).toNat):=by rw [p]
   grind
theorem Xar {N:Nat} {a:List Int} {d:Int} (hd:0<d∧d<4294967296) (ha:Zo a) (hn:a.length<N) (hs:a.length≤35184372088000):
  ∃ q,Zl6 N a d=some (((Za a % d.toNat:Nat):Int),q)∧q.length=a.length∧Zo q∧Za q=Za a / d.toNat:=by
 obtain ⟨b,r',q1,g,i,l,m,c⟩:=Z1o N d hd N a.length a 0 (aV _) hn (by omega) ha (by omega)
 have e:0<d.toNat:=by omega
 rw [List.take_length,eV,Y0] at c
 have f:Za a=b.toNat+d.toNat * Za r':=by simp at c;omega
 have j:Za a % d.toNat=b.toNat:=by rw [f,gZ,dR (by omega)]
 have k:Za a / d.toNat=Za r':=by rw [f,gA _ _ e,eE (by omega),cG]
 refine ⟨r',?_,g,i,k.symm⟩
 rw [Zl6,Zy (by omega),q1,j]
 congr 2;omega
theorem Ztr {i:IntKind} {x s:Nat} (hs:s<32) (hi:i= .u32∨i= .u64):Xx i (x:Int) (s:Int)=i.wrap ((x * 2 ^ s:Nat):Int):=by
 rw [Xx,aB,aZ (by rcases hi with rfl | rfl <;> simp only [IntKind.bits] <;> omega)]
 norm_cast
theorem Zua (n:Nat):u32.wrap (n:Int)=((n % 4294967296:Nat):Int):=by rw [IntKind.wrap_u32];omega
theorem Zx8 (s:Nat) (hs:s<32):∀ (l:List Int) (k:Nat) (out:List Int),Zo l→out.length=k+l.length+1→out.length<4611686018427387904→Zo out→Za (out.drop (k+1))=0→(∀ h:k<out.length,(out[k]).toNat<2 ^ s)→
  ∃ out',Zea (s:Int) l k out=some out'∧out'.length=out.length∧Zo out'∧Za out'=Za out+4294967296 ^ k * (2 ^ s * Za l)∧(∀ h:out'.length - 1<out'.length,(out'[out'.length - 1]).toNat<2 ^ s)
 | [],k,out,_,c,_,a,_,m=>by
  rw [Zea.eq_1]
  rw [nN] at c
  refine ⟨out,rfl,rfl,a,by rw [Y0];omega,fun h=>?_⟩
  have:=m (by omega)
  simpa [c] using this
 | x :: l,k,out,p,c,w,a,y,m=>by
  rw [nC] at c
  have d:k<out.length:=by omega
  have o:k+1<out.length:=by omega
  have O:=p.head
  have P:=a.get d
  have C:=m d
  have g:=drop_zero a o y
  have D:i64.wrap ((k:Int)+1)=((k+1:Nat):Int):=by rw [Zy (by omega)];omega
  have ex:x=(x.toNat:Int):=by omega
  have E:out[k]=((out[k]).toNat:Int):=by omega
  have pw:(2:Nat) ^ s * 2 ^ (32 - s)=4294967296:=by rw [← cP,show s+(32 - s)=32 by omega]
  have q:=bU s
  have i:=bU (32 - s)
  -- the lower and the upper limb
  have r:x.toNat * 2 ^ s<4294967296 * 2 ^ s:=gO (by omega) q
  have F:2 ^ s≤2147483648:=by
   have:=fQ (n:=2) (by decide) (show s≤31 by omega)
   omega
  have b:(x.toNat * 2 ^ s) % 4294967296=2 ^ s * (x.toNat % 2 ^ (32 - s)):=by
   rw [← pw,bP x.toNat,iK]
  have t:Y4 .u32 out[k] (Xx .u32 x (s:Int))=(((x.toNat * 2 ^ s) % 4294967296+(out[k]).toNat:Nat):Int):=by
   rw [ex,Ztr hs (.inl rfl),Zua,E]
   simp only [aB]
   rw [b]
   refine or32 s _ _ C ?_
   have:2 ^ s * (x.toNat % 2 ^ (32 - s)+1)≤2 ^ s * 2 ^ (32 - s):=aU _ (eA _ i)
   rw [pw,dN] at this
   omega
  have u:u32.wrap (Yl .u64 (Xx .u64 (u64.wrap x) (s:Int)) 32)=((x.toNat * 2 ^ s / 4294967296:Nat):Int):=by
   rw [Xs (x:=x) (by omega),ex,Ztr hs (.inr rfl),Zg5,Xs (by omega)]
   simp only [aB]
   rw [Ux (by omega)]
   omega
  have j:x.toNat * 2 ^ s / 4294967296<2 ^ s:=(cZ (by decide)).2 (by rw [bP (2 ^ s)];exact r)
  have e:(x.toNat * 2 ^ s) % 4294967296+(out[k]).toNat<4294967296:=by
   rw [b]
   have:2 ^ s * (x.toNat % 2 ^ (32 - s)+1)≤2 ^ s * 2 ^ (32 - s):=aU _ (eA _ i)
   rw [pw,dN] at this
   omega
  rw [Zea.eq_2,Xd d,oB,Xh (by omega),oB,Xh (by omega),D,aB,aB,
   Xd (by rw [nS];exact o),oB,oB,t,u]
  generalize hA:(x.toNat * 2 ^ s) % 4294967296+(out[k]).toNat=A at e
  generalize hB:x.toNat * 2 ^ s / 4294967296=B at j
  have G:Zo (out.set k (A:Int)):=a.set _ (by omega)
  have H:Zo ((out.set k (A:Int)).set (k+1) (B:Int)):=G.set _ (by omega)
  obtain ⟨out',q1,I,J,K,L⟩:=Zx8 s hs l (k+1) ((out.set k (A:Int)).set (k+1) (B:Int)) p.tail (by rw [nS,nS];omega) (by rw [nS,nS];exact w) H (by
   rw [Q9 _ (by omega),Q9 _ (by omega)];exact g.2) (fun h=>by rw [iC];simpa using j)
  refine ⟨out',q1,by rw [I,nS,nS],J,?_,L⟩
  have M:=Sb d (A:Int)
  have f:=Sb (l:=out.set k (A:Int)) (k:=k+1) (by rw [nS];exact o) (B:Int)
  rw [List.getElem_set_ne (by omega),g.1] at f
  rw [aB] at M f
  rw [eH,dE,bV] at f
  rw [K,Wm]
  rw [aW] at f ⊢
  have v:A+4294967296 * B=(out[k]).toNat+x.toNat * 2 ^ s:=by omega
  generalize 4294967296 ^ k=Q at *
  have N:Q * (A+4294967296 * B)=Q * ((out[k]).toNat+x.toNat * 2 ^ s):=by rw [v]
  grind
theorem Zr4 {a:List Int} {s:Nat} (hs:s<32) (ha:Zo a) (hb:a.length<35184372088000):
  ∃ o,Zf5 a (s:Int)=some o∧o.length=a.length+1∧Zo o∧Za o=2 ^ s * Za a∧∀ h:o.length - 1<o.length,(o[o.length - 1]).toNat<2 ^ s:=by
 rw [Zf5,Zy (by omega),Xh (by simp only [maxLen];omega)]
 have e:aA ((a.length:Int)+1)=a.length+1:=by omega
 rw [e]
 obtain ⟨o,q1,b,c,d,f⟩:=Zx8 s hs a 0 (aC (a.length+1) 0) ha (by rw [aT];omega) (by rw [aT];omega) (.zeros _) (by rw [fZ];exact Sc _) (fun h=>by
  rw [List.getElem_replicate];exact bU s)
 refine ⟨o,q1,by rw [b,aT],c,?_,f⟩
 rw [d,Sc,dD];omega
theorem Z6d (g:Int) (u:List Int):Zl3 g u=Zcl g u:=rfl
theorem Zwl (j0 n0:Nat) (v:List Int) (g:Int):∀ (l:List Int) (k:Nat) (u:List Int) (c:Int),Zd9 j0 n0 v g l k u c=S6 j0 n0 v (u64.wrap (g - 1)) l k u c
 | [],k,u,c=>by rw [Zd9.eq_1,S6.eq_1];rfl
 | x :: l,k,u,c=>by
  rw [Zd9.eq_2,S6.eq_2]
  simp only [Zwl j0 n0 v g l]
theorem Zwk (j0 n0:Nat) (v:List Int) (g:Int):∀ (l:List Int) (k:Nat) (u:List Int) (b c:Int),Zao j0 n0 v g l k u b c=U3 j0 n0 v (u64.wrap (g - 1)) l k u b c
 | [],k,u,b,c=>by
  rw [Zao.eq_1,U3.eq_1]
  simp only [Zwl,Z6d]
 | x :: l,k,u,b,c=>by
  rw [Zao.eq_2,U3.eq_2]
  simp only [Zl4,Zf4,Zoz,Zl5,Zwk j0 n0 v g l]
theorem Zym {x:Int} (h:0≤x∧x<18446744073709551616):Uz .u64 x 4294967295=x % 4294967296:=by
 have e:x=(x.toNat:Int):=by omega
 rw [Uz,BitVec.toNat_and,e,Zda _ _ (by simp only [IntKind.bits];omega),show (4294967295:Int)=((2 ^ 32 - 1:Nat):Int) by decide,Zda _ _ (by simp only [IntKind.bits];omega),Nat.and_two_pow_sub_one_eq_mod,IntKind.wrap_u64]
 omega
theorem Z21 (S S' S2 Q e v x c c' L T:Nat) (h1:S'+Q * e=S+Q * v) (h2:c+(e+x)=v+4294967296 * c') (h3:S2+T=S'+Q * 4294967296 * (c'+L)):S2+T=S+Q * (c+(x+4294967296 * L)):=by
 have:Q * (c+(e+x))=Q * (v+4294967296 * c'):=by rw [h2]
 grind
theorem Zk8 {l:List Int} {k j:Nat} (v:Int) (h:k<j):(l.set k v).drop j=l.drop j:=Q9 v h
theorem Zwn (j0:Nat) (v:List Int) (g:Int):∀ (l:List Int) (k:Nat) (u:List Int) (c:Int),Zo l→k+l.length=v.length→Zo u→j0+v.length<u.length→0≤c∧c≤1→
  ∃ u' co,S6 j0 (v.length+1) v g l k u c=some (u32.wrap (u64.wrap (g - 1)),u')∧u'.length=u.length∧Zo u'∧u'.take j0=u.take j0∧u'.drop (j0+v.length+1)=u.drop (j0+v.length+1)∧Za u'+co * 4294967296 ^ (j0+v.length+1)=Za u+4294967296 ^ (j0+k) * (c.toNat+Za l)
 | [],k,u,c,_,e,a,b,n=>by
  have i:k=v.length:=by simpa using e
  subst i
  have o:=a.get b
  rw [S6.eq_1,Xh (by omega),show (j0:Int)+(v.length:Int)=((j0+v.length:Nat):Int) by omega,Xd b,oB,Xh (by omega),oB,oB,aB,Zcl,Ux (x:=c) (by omega)]
  have f:0≤u32.wrap (u[j0+v.length]+c)∧u32.wrap (u[j0+v.length]+c)<4294967296:=by rw [IntKind.wrap_u32];omega
  refine ⟨_,((u[j0+v.length]+c) / 4294967296).toNat,rfl,by rw [nS],a.set _ f,Zez _ (by omega),Zk8 _ (by omega),?_⟩
  have A:=Sb b (u32.wrap (u[j0+v.length]+c))
  have p:(u[j0+v.length]).toNat+c.toNat=(u32.wrap (u[j0+v.length]+c)).toNat+4294967296 * ((u[j0+v.length]+c) / 4294967296).toNat:=by rw [IntKind.wrap_u32];omega
  rw [aW,Y0]
  generalize 4294967296 ^ (j0+v.length)=Q at *
  have B:Q * ((u[j0+v.length]).toNat+c.toNat)=Q * ((u32.wrap (u[j0+v.length]+c)).toNat+4294967296 * ((u[j0+v.length]+c) / 4294967296).toNat):=by rw [p]
  grind
 | x :: l,k,u,c,j,e,a,b,n=>by
  rw [nC] at e
  have d:j0+k<u.length:=by omega
  have o:=a.get d
  have C:=j.head
  rw [S6.eq_2,Xh (by omega),show (j0:Int)+(k:Int)=((j0+k:Nat):Int) by omega,Xd d,oB,Xh (by omega),oB,oB,aB,Xs (x:=u[j0+k]) (by omega),Xs (x:=x) (by omega),Xs (x:=u[j0+k]+x) (by omega),Xs (by omega),Zg5]
  generalize hs:c+(u[j0+k]+x)=s
  have f:0≤u32.wrap s∧u32.wrap s<4294967296:=by rw [IntKind.wrap_u32];omega
  obtain ⟨u',co,q1,q,r,w,y,m⟩:=Zwn j0 v g l (k+1) (u.set (j0+k) (u32.wrap s)) (s / 4294967296) j.tail (by omega) (a.set _ f) (by rw [nS];exact b) (by omega)
  refine ⟨u',co,q1,by rw [q,nS],r,by rw [w,Zez _ (by omega)],by rw [y,Zk8 _ (by omega)],?_⟩
  rw [Wm]
  rw [← dW j0 k 1,aW] at m
  exact Z21 _ _ _ _ _ _ _ _ _ _ _ (Sb d _) (by rw [IntKind.wrap_u32];omega) m
theorem Z89 (S S' S2 Q e w x g b b' c c' t L T:Nat) (h1:S'+Q * e=S+Q * w) (h2:c+g * x=t+4294967296 * c') (h3:e+4294967296 * b'=t+b+w) (h4:S2+Q * 4294967296 * (c'+b'+g * L)=S'+T):S2+Q * (c+b+g * (x+4294967296 * L))=S+T:=by
 have a:Q * (c+g * x)=Q * (t+4294967296 * c'):=by rw [h2]
 have d:Q * (e+4294967296 * b')=Q * (t+b+w):=by rw [h3]
 grind
theorem Zwm (j0:Nat) (v:List Int) (g:Int) (hg:0≤g∧g<4294967296):∀ (l:List Int) (k:Nat) (u:List Int) (b c:Int),Zo l→k+l.length=v.length→Zo u→j0+v.length<u.length→0≤b∧b≤1→0≤c∧c<4294967296→
  ∃ u' over,over≤1∧U3 j0 (v.length+1) v g l k u b c=(if over=1 then S6 j0 (v.length+1) v g v 0 u' 0 else Zcl g u')∧u'.length=u.length∧Zo u'∧u'.take j0=u.take j0∧u'.drop (j0+v.length+1)=u.drop (j0+v.length+1)∧
   Za u'+4294967296 ^ (j0+k) * (c.toNat+b.toNat+g.toNat * Za l)=Za u+over * 4294967296 ^ (j0+v.length+1)
 | [],k,u,b,c,_,m,e,i,s,w=>by
  have n:k=v.length:=by simpa using m
  subst n
  have y:=e.get i
  rw [U3.eq_1,Xh (by omega),show (j0:Int)+(v.length:Int)=((j0+v.length:Nat):Int) by omega,Xd i,oB,Xh (by omega),oB,Xh (by omega),oB,oB,aB,Xs (x:=c+b) (by omega),Xs (x:=u[j0+v.length]) (by omega)]
  have j:0≤u32.wrap (u[j0+v.length] - u32.wrap (c+b))∧u32.wrap (u[j0+v.length] - u32.wrap (c+b))<4294967296:=by rw [IntKind.wrap_u32];omega
  have J:=Sb i (u32.wrap (u[j0+v.length] - u32.wrap (c+b)))
  have fin:∀ over:Nat,(u[j0+v.length]).toNat+4294967296 * over=c.toNat+b.toNat+(u32.wrap (u[j0+v.length] - u32.wrap (c+b))).toNat→Za (u.set (j0+v.length) (u32.wrap (u[j0+v.length] - u32.wrap (c+b))))+4294967296 ^ (j0+v.length) * (c.toNat+b.toNat+g.toNat * Za [])=Za u+over * 4294967296 ^ (j0+v.length+1):=fun over A=>by
   rw [aW,Y0]
   generalize 4294967296 ^ (j0+v.length)=Q at *
   have B:Q * ((u[j0+v.length]).toNat+4294967296 * over)=Q * (c.toNat+b.toNat+(u32.wrap (u[j0+v.length] - u32.wrap (c+b))).toNat):=by rw [A]
   grind
  by_cases hlt:u[j0+v.length]<c+b
  ·refine ⟨_,1,aV _,by rw [if_pos (by simpa using hlt),if_pos rfl],by rw [nS],e.set _ j,Zez _ (by omega),Zk8 _ (by omega),fin 1 (by rw [IntKind.wrap_u32,IntKind.wrap_u32];omega)⟩
  ·refine ⟨_,0,by decide,by rw [if_neg (by simpa using hlt),if_neg (by decide)],by rw [nS],e.set _ j,Zez _ (by omega),Zk8 _ (by omega),fin 0 (by rw [IntKind.wrap_u32,IntKind.wrap_u32];omega)⟩
 | x :: l,k,u,b,c,o,m,e,i,s,w=>by
  rw [nC] at m
  have d:j0+k<u.length:=by omega
  have y:=e.get d
  have p:=o.head
  have K:g * x≤4294967295 * 4294967295:=jP (by omega) (by omega) (by omega) (by omega)
  have H:0≤g * x:=jQ hg.1 p.1
  have I:((g.toNat * x.toNat:Nat):Int)=g * x:=by rw [bH,bA hg.1,bA p.1]
  rw [U3.eq_2,Xh (by omega),show (j0:Int)+(k:Int)=((j0+k:Nat):Int) by omega,Xd d,oB,Xs (x:=u[j0+k]) (by omega),Xs (x:=x) (by omega),Xs (x:=g * x) (by omega),Xs (x:=c+g * x) (by omega),Zym (by omega)]
  generalize ht0:c+g * x=a
  rw [Xs (x:=a % 4294967296+b) (by omega)]
  have fin:∀ f:Int,0≤f∧f≤1→u[j0+k]+4294967296 * f=a % 4294967296+b+u32.wrap (u[j0+k] - u32.wrap (a % 4294967296+b))→
    ∃ u' over,over≤1∧Zf4 j0 (v.length+1) g u b k c (U3 j0 (v.length+1) v g l) x f=(if over=1 then S6 j0 (v.length+1) v g v 0 u' 0 else Zcl g u')∧u'.length=u.length∧Zo u'∧u'.take j0=u.take j0∧u'.drop (j0+v.length+1)=u.drop (j0+v.length+1)∧
     Za u'+4294967296 ^ (j0+k) * (c.toNat+b.toNat+g.toNat * Za (x :: l))=Za u+over * 4294967296 ^ (j0+v.length+1):=fun f q B=>by
   have j:0≤u32.wrap (u[j0+k] - u32.wrap (a % 4294967296+b))∧u32.wrap (u[j0+k] - u32.wrap (a % 4294967296+b))<4294967296:=by rw [IntKind.wrap_u32];omega
   obtain ⟨u',over,q0,q1,C,D,F,G,r⟩:=Zwm j0 v g hg l (k+1) (u.set (j0+k) (u32.wrap (u[j0+k] - u32.wrap (a % 4294967296+b)))) f (a / 4294967296) o.tail (by omega) (e.set _ j) (by rw [nS];exact i) q (by omega)
   refine ⟨u',over,q0,?_,by rw [C,nS],D,by rw [F,Zez _ (by omega)],by rw [G,Zk8 _ (by omega)],?_⟩
   ·rw [Zf4,Xh (by omega),show (j0:Int)+(k:Int)=((j0+k:Nat):Int) by omega,Xd d,oB,Xh (by omega),oB,oB,aB,Xs (x:=x) (by omega),Xs (x:=g * x) (by omega),Xs (x:=c+g * x) (by omega),Zym (by omega),ht0,Xs (x:=a % 4294967296+b) (by omega),Zg5,Zl5]
    exact q1
   ·rw [Wm]
    rw [← dW j0 k 1,aW] at r
    exact Z89 _ _ _ _ _ _ _ _ _ _ _ _ (a % 4294967296).toNat _ _ (Sb d _) (by omega) (by omega) r
  by_cases hlt:u[j0+k]<a % 4294967296+b
  ·rw [if_pos (by simpa using hlt)]
   exact fin 1 (by omega) (by rw [IntKind.wrap_u32,IntKind.wrap_u32];omega)
  ·rw [if_neg (by simpa using hlt)]
   exact fin 0 (by omega) (by rw [IntKind.wrap_u32,IntKind.wrap_u32];omega)
structure Zkr (U V E v1 v2 u2 top lU lV:Nat):Prop where
 hU:U=lU+E * (u2+4294967296 * top)
 hV:V=lV+E * (v2+4294967296 * v1)
 lu:lU<E
 lv:lV<E
 b2:u2<4294967296
 c2:v2<4294967296
 c1:v1<4294967296
 big:2147483648≤v1
 lt:U<4294967296 * V
namespace Zkr
variable {U V E v1 v2 u2 top lU lV:Nat} (t:Zkr U V E v1 v2 u2 top lU lV)
include t
theorem Vpos:0<V:=by
 have:=t.lt
 have:=t.lu
 omega
theorem uE:U<E * 4294967296 * (top+1):=by
 have a:E * (u2+1)≤E * 4294967296:=aU _ t.b2
 have b:=t.hU;have:=t.lu
 have e:E * (u2+4294967296 * top)=E * u2+E * 4294967296 * top:=by grind
 rw [e] at b
 rw [dN] at a ⊢
 omega
theorem Eu:E * 4294967296 * top≤U:=by
 have a:=t.hU
 have e:E * (u2+4294967296 * top)=E * u2+E * 4294967296 * top:=by grind
 omega
theorem vE:V<E * 4294967296 * (v1+1):=by
 have a:E * (v2+1)≤E * 4294967296:=aU _ t.c2
 have b:=t.hV;have:=t.lv
 have e:E * (v2+4294967296 * v1)=E * v2+E * 4294967296 * v1:=by grind
 rw [dN] at a ⊢
 omega
theorem Ev:E * 4294967296 * v1≤V:=by
 have a:=t.hV
 have e:E * (v2+4294967296 * v1)=E * v2+E * 4294967296 * v1:=by grind
 omega
theorem Epos:0<E:=by have:=t.lu;omega
theorem first:U / V≤top / v1:=by
 have a:0<v1:=by have:=t.big;omega
 rw [fI a]
 have c:U / V * V≤U:=Nat.div_mul_le_self U V
 have d:U / V * (E * 4294967296 * v1)≤U / V * V:=aU _ t.Ev
 have b:E * 4294967296 * (U / V * v1)<E * 4294967296 * (top+1):=by
  have e:E * 4294967296 * (U / V * v1)=U / V * (E * 4294967296 * v1):=by
   generalize U / V=q
   grind
  rw [e]
  have:=t.uE
  omega
 have:=eO b
 omega
theorem quo:U / V<4294967296:=(cZ t.Vpos).2 t.lt
theorem great {g r:Nat} (h:g * v1+r=top) (h2:r * 4294967296+u2<g * v2):U / V<g:=by
 rw [cZ t.Vpos]
 have a:u2+4294967296 * top+1≤g * (v2+4294967296 * v1):=by
  have:4294967296 * (g * v1+r)=4294967296 * top:=by rw [h]
  have e:g * (v2+4294967296 * v1)=g * v2+4294967296 * (g * v1):=by grind
  rw [e];omega
 have b:=aU E a
 have c:E * (g * (v2+4294967296 * v1))≤g * V:=by
  have:=t.hV
  have e:g * V=g * lV+E * (g * (v2+4294967296 * v1)):=by rw [this];grind
  omega
 have:=t.hU;have:=t.lu
 rw [dN] at b
 omega
theorem fine {g r:Nat} (hg:g<4294967296) (h:g * v1+r=top) (h2:g * v2≤r * 4294967296+u2):g * V<U+V:=by
 have a:g * (v2+4294967296 * v1)≤u2+4294967296 * top:=by
  have:4294967296 * (g * v1+r)=4294967296 * top:=by rw [h]
  have e:g * (v2+4294967296 * v1)=g * v2+4294967296 * (g * v1):=by grind
  rw [e];omega
 have b:=aU E a
 have e:g * V=g * lV+E * (g * (v2+4294967296 * v1)):=by rw [t.hV];grind
 have c:g * lV≤4294967295 * E:=jR (by omega) (by have:=t.lv;omega)
 have d:E * 4294967296 * 1≤E * 4294967296 * v1:=aU _ (by have:=t.big;omega)
 have:=t.Ev;have:=t.hU;have:=t.Epos
 omega
theorem topv:top / 4294967296≤v1:=by
 have b:=t.Eu
 have c:=t.lt
 have d:=t.vE
 have a:E * 4294967296 * top<E * 4294967296 * (4294967296 * (v1+1)):=by
  have:E * 4294967296 * (4294967296 * (v1+1))=4294967296 * (E * 4294967296 * (v1+1)):=by grind
  omega
 have:=eO a
 omega
theorem over {g r:Nat} (h:g * v1+r=top) (hr:4294967296≤r):g<4294967296:=by
 have b:=t.topv
 have a:g * v1<4294967296 * v1:=by omega
 exact Nat.lt_of_mul_lt_mul_right a
theorem stop {g r:Nat} (h:g * v1+r=top) (hr:4294967296≤r):g * V<U+V:=by
 have b:=t.over h hr
 have a:=t.vE
 have c:g * V≤g * (E * 4294967296 * (v1+1)):=aU _ (kH a)
 have e:g * (E * 4294967296 * (v1+1))=E * 4294967296 * (g * v1+g):=by grind
 have d:E * 4294967296 * (g * v1+g)≤E * 4294967296 * top:=aU _ (by omega)
 have:=t.Eu;have:=t.Vpos
 omega
end Zkr
def Zud (X:Option R5) (R:Nat→Option R5) (q U V:Nat):Prop:=∃ g:Nat,X=R g∧q≤g∧g<4294967296∧g * V<U+V
theorem Zwj (N j0:Nat) (u v:List Int) (hu:Zo u) (hv:Zo v) (hn:2≤v.length) (hl:j0+v.length<u.length) (hs:v.length<4611686018427387904) {U V E lU lV top q:Nat} (hq:U / V=q)
  (t:Zkr U V E (v[v.length - 1]).toNat (v[v.length - 2]).toNat (u[j0+v.length - 2]).toNat top lU lV) (htop:top<18446744073709551616):
  ∀ (n g r:Nat),g * (v[v.length - 1]).toNat+r=top→q≤g→r<4294967296→4294967296≤r+2147483648 * n→
  Zud (Qx N j0 (v.length+1) u v n (g:Int) (r:Int)) (fun g'=>U3 j0 (v.length+1) v (g':Int) v 0 u 0 0) q U V
 | 0,g,r,_,_,k,l=>by omega
 | n+1,g,r,c,m,k,l=>by
  have e:v.length - 1<v.length:=by omega
  have f:v.length - 2<v.length:=by omega
  have i:j0+v.length - 2<u.length:=by omega
  have A:=hv.get e
  have B:=hv.get f
  have C:=hu.get i
  have o:=t.big
  have w:g≤top:=by
   have:g * 1≤g * (v[v.length - 1]).toNat:=aU _ (by omega)
   omega
  -- one a
  have a:q<g→Zud (Zl2 j0 (v.length+1) u v (g:Int) (r:Int) (Qx N j0 (v.length+1) u v n)) (fun g'=>U3 j0 (v.length+1) v (g':Int) v 0 u 0 0) q U V:=fun y=>by
   have b:(g - 1) * (v[v.length - 1]).toNat+(r+(v[v.length - 1]).toNat)=top:=by
    have:(g - 1+1) * (v[v.length - 1]).toNat+r=top:=by rw [show g - 1+1=g by omega];exact c
    rw [bI] at this
    omega
   have j:u64.wrap ((g:Int) - 1)=((g - 1:Nat):Int):=by rw [Xs (by omega)];omega
   have p:u64.wrap ((r:Int)+u64.wrap v[v.length - 1])=((r+(v[v.length - 1]).toNat:Nat):Int):=by rw [Xs (x:=v[v.length - 1]) (by omega),Xs (by omega)];omega
   rw [Zl2,Zy (by omega),show (v.length:Int) - 1=((v.length - 1:Nat):Int) by omega,Xd e,oB,p,j]
   by_cases hb:4294967296≤r+(v[v.length - 1]).toNat
   ·rw [if_pos (dT (by omega)),Zwk,j]
    exact ⟨g - 1,rfl,by omega,t.over b hb,t.stop b hb⟩
   ·rw [if_neg (dF (by omega))]
    exact Zwj N j0 u v hu hv hn hl hs hq t htop n (g - 1) (r+(v[v.length - 1]).toNat) b (by omega) (by omega) (by omega)
  have d:=t.quo
  rw [hq] at d
  rw [Qx.eq_2]
  by_cases hgb2:4294967295<g
  ·rw [if_pos (dT (by omega)),Zf3,if_pos rfl]
   exact a (by omega)
  ·have D:g * (v[v.length - 2]).toNat≤4294967295 * 4294967295:=jR (by omega) (by omega)
   have s:(g:Int) * v[v.length - 2]=((g * (v[v.length - 2]).toNat:Nat):Int):=by
    rw [bH];congr 1;omega
   rw [if_neg (dF (by omega)),if_pos (dT (by omega)),Zy (by omega),show (v.length:Int) - 2=((v.length - 2:Nat):Int) by omega,Xd f,oB,Xh (by omega),show (j0:Int)+((v.length - 2:Nat):Int)=((j0+v.length - 2:Nat):Int) by omega,Xd i,oB,Zf3,
    Xs (x:=u[j0+v.length - 2]) (by omega),Zqf (by omega) (by omega),Xs (x:=v[v.length - 2]) (by omega),s,Xs (by omega)]
   by_cases hc:r * 4294967296+(u[j0+v.length - 2]).toNat<g * (v[v.length - 2]).toNat
   ·rw [if_pos (dT (by omega))]
    exact a (by rw [← hq];exact t.great c hc)
   ·rw [if_neg (dF (by omega))]
    exact ⟨g,rfl,m,by omega,t.fine (by omega) c (by omega)⟩
theorem Zrl {u w:List Int} {j0 n P:Nat} (hP:4294967296 ^ (n+1)=P) (hl:j0+n<u.length) (hz:Za (u.drop (j0+n+1))=0) (h1:w.length=u.length) (h2:Zo w) (h3:w.drop (j0+n+1)=u.drop (j0+n+1)):Za (w.drop j0)<P:=by
 have:=Q3 ((h2.drop j0).take (n+1))
 rw [nK,cH,aZ (by omega),hP] at this
 have e:=Ts (w.drop j0) (n+1)
 rw [hP,dZ,← dW,h3,hz] at e
 omega
theorem Zwo {u w:List Int} {j0 n P Q x y:Nat} (hP:4294967296 ^ (n+1)=P) (hQ:4294967296 ^ j0=Q) (h4:w.take j0=u.take j0) (h:Za w+Q * x=Za u+y * 4294967296 ^ (j0+n+1)):Za (w.drop j0)+x=Za (u.drop j0)+y * P:=by
 have pw:(4294967296:Nat) ^ (j0+n+1)=Q * P:=by rw [← hQ,← hP,← cP,dW]
 have c:0<Q:=by rw [← hQ];exact dO (by decide)
 have b:=Ts u j0
 have a:=Ts w j0
 rw [h4] at a
 rw [hQ] at b a
 rw [pw,b,a] at h
 clear pw hP hQ b a h4
 refine Nat.eq_of_mul_eq_mul_left c ?_
 grind
theorem Z6e {U V P q g over P1:Nat} (hq:U / V=q) (hV:0<V) (hg1:q≤g) (hg3:g * V<U+V) (k1:P1+g * V=U+over * P) (p1:P1<P):
  (over=0→g=q∧P1=U % V)∧(over=1→g=q+1∧∀ P2 co,V<P→P2<P→P2+co * P=P1+V→P2=U % V):=by
 have d:V * q+U % V=U:=by rw [← hq];exact jK _ _
 have j:=eA U hV
 have a:∀ x y:Nat,x<y→x * V+V≤y * V:=fun x y e=>by
  have:=aX V (show x+1≤y from e)
  rw [bI,bO] at this;exact this
 rw [bP] at d
 constructor
 ·intro c
  subst c
  have b:g=q:=by
   have i:¬ q<g:=fun h=>by
    have:=a _ _ h
    omega
   omega
  subst b
  exact ⟨rfl,by omega⟩
 ·intro c
  subst c
  have b:g=q+1:=by
   have m:¬ g≤q:=fun h=>by
    have:=aX V h
    omega
   have i:¬ q+1<g:=fun h=>by
    have:=a _ _ h
    rw [bI,bO] at this
    omega
   omega
  refine ⟨b,fun P2 co k p2 n=>?_⟩
  have l:g * V=q * V+V:=by rw [b,bI,bO]
  have f:co=1:=by
   rcases Nat.lt_trichotomy co 1 with h | h | h
   ·have:co=0:=by omega
    subst this;omega
   ·exact h
   ·have:=aX P (show 2≤co from h)
    omega
  subst f
  omega
theorem Z6f {N j0:Nat} {u v:List Int} (hN:2≤N) (hu:Zo u) (hv:Zo v) (hn:2≤v.length) (hl:j0+v.length<u.length) (hs:u.length<4611686018427387904)
  (hz:Za (u.drop (j0+v.length+1))=0) (hbig:2147483648≤(v[v.length - 1]).toNat) (hlt:Za (u.drop j0)<4294967296 * Za v):
  ∃ u',Zi7 N j0 (v.length+1) u v=some (((Za (u.drop j0) / Za v:Nat):Int),u')∧u'.length=u.length∧Zo u'∧u'.take j0=u.take j0∧Za (u'.drop j0)=Za (u.drop j0) % Za v∧Za (u.drop j0) / Za v<4294967296:=by
 have f:v.length - 1<v.length:=by omega
 have r:v.length - 2<v.length:=by omega
 have s:j0+v.length - 2<u.length:=by omega
 have i:j0+v.length - 1<u.length:=by omega
 have c1:=hv.get f
 have c2:=hv.get r
 have c3:=hu.get s
 have c4:=hu.get i
 have c5:=hu.get hl
 -- the Zf above
 have O:Za v=Za (v.take (v.length - 2))+4294967296 ^ (v.length - 2) * ((v[v.length - 2]).toNat+4294967296 * (v[v.length - 1]).toNat):=by
  rw [Ts v (v.length - 2),U7 r,show v.length - 2+1=v.length - 1 by omega,U7 f,show v.length - 1+1=v.length by omega,eV,Y0];simp
 have R:Za (u.drop j0)=Za ((u.drop j0).take (v.length - 2))+4294967296 ^ (v.length - 2) * ((u[j0+v.length - 2]).toNat+4294967296 * ((u[j0+v.length]).toNat * 4294967296+(u[j0+v.length - 1]).toNat)):=by
  have S:j0+(v.length - 2)=j0+v.length - 2:=by omega
  rw [Ts (u.drop j0) (v.length - 2),dZ,S,U7 s,show j0+v.length - 2+1=j0+v.length - 1 by omega,U7 i,show j0+v.length - 1+1=j0+v.length by omega,U7 hl,hz]
  congr 3
  omega
 have lV:=Q3 (hv.take (v.length - 2))
 have lU:=Q3 ((hu.drop j0).take (v.length - 2))
 rw [nK,aZ (by omega)] at lV
 rw [nK,cH,aZ (by omega)] at lU
 have t:Zkr (Za (u.drop j0)) (Za v) (4294967296 ^ (v.length - 2)) (v[v.length - 1]).toNat (v[v.length - 2]).toNat (u[j0+v.length - 2]).toNat ((u[j0+v.length]).toNat * 4294967296+(u[j0+v.length - 1]).toNat) _ _:=
  ⟨R,O,lU,lV,by omega,by omega,by omega,hbig,hlt⟩
 have T:=t.Vpos
 have b:(u[j0+v.length]).toNat * 4294967296+(u[j0+v.length - 1]).toNat<18446744073709551616:=by omega
 obtain ⟨q,d⟩:∃ q,Za (u.drop j0) / Za v=q:=⟨_,rfl⟩
 obtain ⟨g,A,B,a2,C⟩:=Zwj N j0 u v hu hv hn hl (by omega) d t b N _ _ (Nat.div_add_mod' _ _) (by rw [← d];exact t.first) (aG (eA _ (by omega)) (by omega)) (by omega)
 have W:Zi7 N j0 (v.length+1) u v=U3 j0 (v.length+1) v (g:Int) v 0 u 0 0:=by
  refine Eq.trans ?_ A
  rw [Zi7,Xh (by omega),show (j0:Int)+(v.length:Int)=((j0+v.length:Nat):Int) by omega,Xd hl,oB,Zy (by omega),show (v.length:Int) - 1=((v.length - 1:Nat):Int) by omega,Xh (by omega),
   show (j0:Int)+((v.length - 1:Nat):Int)=((j0+v.length - 1:Nat):Int) by omega,Xd i,oB,Xd f,oB,Xs (x:=v[v.length - 1]) (by omega),Xh (by omega),Xh (by omega),Xs (x:=u[j0+v.length]) (by omega),Xs (x:=u[j0+v.length - 1]) (by omega),Zqf (by omega) (by omega)]
  have ev:v[v.length - 1]=((v[v.length - 1]).toNat:Int):=by omega
  have X:u[j0+v.length] * 4294967296+u[j0+v.length - 1]=(((u[j0+v.length]).toNat * 4294967296+(u[j0+v.length - 1]).toNat:Nat):Int):=by omega
  rw [X,ev,bM (by omega),bS (by omega),← gP,← jE,aB]
  rw [Xs ⟨cY _,eL.2 (dV (bY _ _) b)⟩]
 obtain ⟨j,over,q0,q1,D,k,l,F,m⟩:=Zwm j0 v (g:Int) (by omega) v 0 u 0 0 hv (by omega) hu hl (by omega) (by omega)
 have a:=t.quo
 rw [d] at a ⊢
 rw [W,q1]
 obtain ⟨P,c⟩:∃ P:Nat,4294967296 ^ (v.length+1)=P:=⟨_,rfl⟩
 obtain ⟨Q,e⟩:∃ Q:Nat,4294967296 ^ j0=Q:=⟨_,rfl⟩
 simp only [bV,eH,aB,cG] at m
 rw [e] at m
 have Y:=Zwo c e l m
 have p1:=Zrl c hl hz D k F
 have G:Za v<P:=by
  have:=Q3 hv
  have H:=Zrl (u:=v++[0]) (w:=v++[0]) (j0:=0) (n:=v.length) c (by simp) (by simp [Za]) rfl (hv.app (.cons (by decide) .nil)) rfl
  rw [bF,Zy5] at H
  exact H
 have I:=Z6e d T B C Y p1
 by_cases ho:over=1
 ·obtain ⟨J,o⟩:=I.2 ho
  subst ho
  rw [if_pos rfl]
  obtain ⟨u2,K,Z,r2,L,M,r5,p⟩:=Zwn j0 v (g:Int) v 0 j 0 hv (by omega) k (by omega) (by omega)
  have p2:=Zrl c hl hz (by omega) L (by rw [r5,F])
  simp only [bV,eH,cG] at p
  rw [e] at p
  have k2:=Zwo (u:=u2) (w:=j) (x:=Za v) (y:=K) c e (by rw [M]) p.symm
  refine ⟨u2,?_,by omega,L,by rw [M,l],o _ K G p2 k2.symm,a⟩
  rw [Z,Xs (by omega),Ux (by omega)]
  congr 2;omega
 ·obtain ⟨J,o⟩:=I.1 (by omega)
  rw [if_neg ho,Zcl,Ux (by omega)]
  exact ⟨j,by rw [J],D,k,l,o,a⟩
def Zd6 (N:Nat):Nat→R2→R2→Option R2
  | 0,_,_=>none
  | c+1,b,a=>if (decide (0<(a.length:Int)))=true then ((Zd5 N b a).bind fun d=>(Zd6 N c) a d.2.1) else (some b)
def Zlz (N:Nat) (a b:List Int):Option R2:=
  (U4 N a).bind fun c=>(U4 N b).bind fun d=>Zd6 N N c d
theorem Z4i {N x y:Nat} {l m:Option Addr} {col:Zg} {c:World} {p q r:R2} (s:Nat) (a:Zlz N p q=some r) (D:Sl rU col c l x p) (E:Sl rU col c m y q):
    Calls prog 149 #[.slice l p.length x,.slice m q.length y] c (Vl .u32 119 s col c r):=by
 refine Xk 4 (m:=25) func149 O O O O O ?_;rw [Zlz.eq_1] at a;have b:=St.start col c;refine go ?_;obtain ⟨_,P,a⟩:=bZ a;refine Zh (Sk 1 P (D.k0.ks b)) fun _ _ ⟨_,_,_,i,T,Z⟩=>⟨_,i,?_⟩;refine Wg O ?_;obtain ⟨_,S,a⟩:=bZ a;replace b:=b.grow T;refine Zh (Sk 2 S (E.k0.ks b)) ?_;rintro _ U ⟨V,W,X,rfl,A,J⟩;refine ⟨_,O,go ?_⟩;replace b:=b.grow A;refine Z0 [1000000] (fun F G k=>∃ e t u n v w o h,h=F∧Zd6 N h n o=some r∧St c (Zk col) e k∧Zb rU 119 1 e k t u n∧Zb rU 119 2 e k v w o∧[0,1].map G=[.slice t n.length u,.slice v o.length w]) N ⟨_,_,_,_,_,_,_,_,O,a,b,Z.gr A,J,O⟩ ?_;clear a;intro F G k R;obtain ⟨e,t,u,n,v,w,o,h,B,a,b,M,g,C⟩:=R;subst B;refine .lL [0,1] C ?_
 cases h with
 | zero=>rw [Zd6.eq_1] at a;cases a
 | succ h=>
  rw [Zd6.eq_2] at a;refine go ?_;refine Zp a (fun z a=>go ?_) fun z a=>go ?_
  ·obtain ⟨f,Q,a⟩:=bZ a;refine Zh (Zn3 3 4 Q ((M.toSlF (Ze.int .u32)).froz 2) ((g.froz 1).toSlF (Ze.int .u32))) fun _ _ ⟨Y,H,I,K,L,i,j,_,d⟩=>⟨_,i,?_⟩;replace d:=d.thaw (Zt .u32) j (((Fz.refl (col:=e)).froz 1).froz 2);replace j:=j.thawR (col:=e);generalize Z2 k.heap.size e Y=c at *;refine lM (.tuple #[.slice H f.1.length I,.slice K f.2.1.length L,.int .i64 f.2.2])<|lV (.slice H f.1.length I) (Xl O O)<|lV (.slice K f.2.1.length L) (Xl O O)<|lV (.int .i64 f.2.2) (Xl O O)<|go ?_;replace g:=g.gr j;replace g:=g.recolSelf 1 (by decide);replace d:=d.recol 2 1;replace b:=b.grow j;replace b:=b.recol 2 1 (by decide) (by decide);replace d:=d.recolSelf 2 (by decide);replace b:=b.recol 4 2 (by decide) (by decide);exact ⟨h,by omega,O,⟨_,_,_,_,_,_,_,_,O,a,b,g.recol 4 2,d,O⟩⟩
  cases a;exact ⟨O,_,_,_,O,b.fin (cm [(1,s)]),b.fo M⟩
theorem Z2f (N:Nat):∀ (n:Nat) (a:List Int),Zcn N n a=S8 N n a
 | 0,a=>rfl
 | n+1,a=>by
  rw [Zcn.eq_2,S8.eq_2]
  simp only [Zl7,Zcm,Z2f N n]
theorem Z2g {N:Nat} {a:List Int} (h:Zo a) (hn:a.length<N) (hb:a.length≤35184372088000):Zf7 N a=some (Zf (Za a)):=by
 rw [Zf7,Z2f];exact Zqe N N a h hn (by omega)
theorem Xap {x L nx s:Nat} (hs:s<32) (hx:x<4294967296) (hn:nx=L % 4294967296):(x+4294967296 * L) / 2 ^ s=(x+4294967296 * nx) / 2 ^ s % 4294967296+4294967296 * (L / 2 ^ s):=by
 have pw:(2:Nat) ^ s * 2 ^ (32 - s)=4294967296:=by rw [← cP,show s+(32 - s)=32 by omega]
 have a:=bU s
 generalize 2 ^ s=p at *
 generalize 2 ^ (32 - s)=r at *
 have b:(x+4294967296 * L) / p / 4294967296=L / p:=by
  rw [fL,bP p,← fL]
  congr 1
  omega
 have c:(x+4294967296 * L) / p % 4294967296=(x+4294967296 * nx) / p % 4294967296:=by
  have e:x+4294967296 * L=x+4294967296 * nx+p * (4294967296 * (r * (L / 4294967296))):=by
   have f:L=nx+4294967296 * (L / 4294967296):=by omega
   have d:p * (4294967296 * (r * (L / 4294967296)))=4294967296 * (p * r) * (L / 4294967296):=by grind
   rw [d,pw]
   omega
  rw [e,gA _ _ a,gZ]
 rw [← b,← c]
 omega
theorem Zws (N s:Nat) (hs:s<32) (q r:List Int) (hq:Zo q) (hr:Zo r) (hN:q.length<N∧r.length<N) (hb:q.length≤35184372088000∧r.length≤35184372088000):∀ (n i:Nat) (u d:List Int),i≤r.length→r.length<n+i→u=d++r.drop i→d.length=i→Zo d→Za d+4294967296 ^ i * (Za (r.drop i) / 2 ^ s)=Za r / 2 ^ s→
  Qw N (s:Int) q r n u (i:Int)=some (Zf (Za q),Zf (Za r / 2 ^ s),0)
 | 0,i,u,d,m,o,_,_,_,_=>by omega
 | n+1,i,u,d,m,o,b,c,e,j=>by
  have y:u.length=r.length:=by rw [b,nA,cH];omega
  rw [Qw.eq_2]
  by_cases hi:i<r.length
  ·have f:=aP hi
   have g:=hr.get hi
   have p:u[i]'(by omega)=r[i]:=by
    subst b
    rw [gV (by omega)]
    simp [c]
   have step:∀ a:Nat,a=Za (r.drop (i+1)) % 4294967296→Zi5 (s:Int) u (i:Int) (Qw N (s:Int) q r n) (a:Int)=some (Zf (Za q),Zf (Za r / 2 ^ s),0):=fun a l=>by
    have t:u32.wrap (Yl .u64 (Y4 .u64 (Xx .u64 (u64.wrap (a:Int)) 32) (u64.wrap r[i])) (s:Int))=(((r[i]).toNat+4294967296 * a) / 2 ^ s % 4294967296:Nat):=by
     rw [Xs (x:=(a:Int)) (by omega),Xs (x:=r[i]) (by omega),Zqf (by omega) (by omega),show (a:Int) * 4294967296+r[i]=(((r[i]).toNat+4294967296 * a:Nat):Int) by omega,Znd _ _ _ (by simp only [IntKind.bits];omega),Zua]
    have k:u.set i ((((r[i]).toNat+4294967296 * a) / 2 ^ s % 4294967296:Nat):Int)=(d++[((((r[i]).toNat+4294967296 * a) / 2 ^ s % 4294967296:Nat):Int)])++r.drop (i+1):=by
     subst b
     rw [f,List.set_append_right _ _ (by omega),c,kF,iQ]
     simp
    rw [Zi5,Xd (by omega),oB,Xh (by omega),p,t,oB,Zox,Zy (by omega),aB,k]
    have v:=Zws N s hs q r hq hr hN hb n (i+1) _ (d++[((((r[i]).toNat+4294967296 * a) / 2 ^ s % 4294967296:Nat):Int)]) (by omega) (by omega) rfl (by simp [c]) (e.app (.cons (by omega) .nil)) (by
     rw [Qb,c,Wm,Y0,aB,← j,f,Wm,Xap hs (by omega) l,aW]
     generalize ((r[i]).toNat+4294967296 * a) / 2 ^ s % 4294967296=A
     generalize Za (r.drop (i+1)) / 2 ^ s=C
     grind)
    exact v
   rw [if_pos (dT (by omega)),Zy (by omega)]
   by_cases hi1:i+1<r.length
   ·have w:u[i+1]'(by omega)=r[i+1]:=by
     subst b
     rw [gV (by omega)]
     simp [c]
    have B:=hr.get hi1
    rw [if_pos (dT (by omega)),show (i:Int)+1=((i+1:Nat):Int) by omega,Xd (by omega),oB,w,show r[i+1]=((r[i+1]).toNat:Int) by omega]
    exact step _ (by rw [U7 hi1];omega)
   ·rw [if_neg (dF (by omega))]
    have:=step 0 (by rw [aI (by omega)];rfl)
    exact this
  ·have:i=r.length:=by omega
   subst this
   rw [if_neg (dF (by omega))]
   rw [eV,List.append_nil] at b
   rw [eV,Y0,Nat.zero_div,dE,bV] at j
   subst b
   rw [Qc hq hN.1 hb.1,oB,Qc e (by omega) (by omega),oB,j]
theorem Zwr (N s:Nat) (v:List Int) (hN:2≤N) (hv:Zo v) (hn:2≤v.length) (hbig:2147483648≤(v[v.length - 1]).toNat):∀ (n j:Nat) (u q:List Int),j≤q.length→j<n→u.length=q.length+v.length→u.length<4611686018427387904→Zo u→Zo q→Za (u.drop j)<Za v→Za (q.take j)=0→
  ∃ u' q',Zf1 N (s:Int) v n u q ((j:Int) - 1)=((Zf7 N u').bind fun r=>Qw N (s:Int) q' r N r 0)∧u'.length=u.length∧q'.length=q.length∧Zo u'∧Zo q'∧Za u'<Za v∧Za v * Za q'+Za u'=Za v * Za q+Za u
 | 0,j,u,q,_,h,_,_,_,_,_,_=>by omega
 | n+1,j,u,q,Y,X,C,D,d,e,f,E=>by
  rw [Zf1.eq_2]
  by_cases h0:j=0
  ·subst h0
   rw [if_neg (by decide)]
   exact ⟨u,q,rfl,rfl,rfl,d,e,by simpa using f,rfl⟩
  ·have i:j - 1+1=j:=by omega
   have k:j - 1<u.length:=by omega
   have c:j - 1<q.length:=by omega
   have g:=d.get k
   have lv:=Q3 hv
   have sp:=Ts (u.drop j) v.length
   rw [dZ] at sp
   have l:Za (u.drop (j - 1+v.length+1))=0:=by
    rw [show j - 1+v.length+1=j+v.length by omega]
    rcases eR (Za (u.drop (j+v.length))) with h | h
    ·exact h
    ·have:=aU (4294967296 ^ v.length) h
     generalize 4294967296 ^ v.length=P at *
     omega
   have F:=U7 k
   rw [i] at F
   obtain ⟨u',q1,m,G,H,o,I⟩:=Z6f (N:=N) (j0:=j - 1) hN d hv hn (by omega) D l hbig (by omega)
   have p:0≤((Za (u.drop (j - 1)) / Za v:Nat):Int)∧((Za (u.drop (j - 1)) / Za v:Nat):Int)<4294967296:=⟨cY _,eL.2 I⟩
   rw [if_pos (dT (by omega)),show (j:Int) - 1=((j - 1:Nat):Int) by omega,Zy (x:=((j - 1:Nat):Int)+(v.length:Int)) (by omega),Zy (by omega),Xh (by omega),aB,
    show aA (((j - 1:Nat):Int)+(v.length:Int)+1) - (j - 1)=v.length+1 by omega,q1,oB,Xd c,oB,oB,Zy (by omega)]
   have J:0<Za v:=by omega
   -- the quotient's limb was 0
   have t:q[j - 1]=0∧Za (q.take (j - 1))=0:=by
    have:=Zsr c
    rw [i,E] at this
    have Z:=e.get c
    have hp:0<4294967296 ^ (j - 1):=dO (by decide)
    have K:4294967296 ^ (j - 1) * (q[j - 1]).toNat=0:=by omega
    rcases Nat.mul_eq_zero.1 K with h | h
    ·omega
    ·exact ⟨by omega,by omega⟩
   obtain ⟨L,w,M,O,R,S,T,U,V⟩:=Zwr N s v hN hv hn hbig n (j - 1) u' (q.set (j - 1) ((Za (u.drop (j - 1)) / Za v:Nat):Int)) (by rw [nS];omega) (by omega) (by rw [nS,m];exact C) (by omega) G (e.set _ p) (by rw [o];exact eA _ J) (by rw [Zez _ (aV _)];exact t.2)
   refine ⟨L,w,M,by rw [O,m],by rw [R,nS],S,T,U,?_⟩
   rw [V]
   have W:=Ts u (j - 1)
   have y:=Ts u' (j - 1)
   rw [H,o] at y
   have A:=Sb c ((Za (u.drop (j - 1)) / Za v:Nat):Int)
   rw [t.1,eH,dE,bV,aB] at A
   rw [y,A,W]
   have B:=jK (Za (u.drop (j - 1))) (Za v)
   generalize Za (u.drop (j - 1)) / Za v=a at *
   generalize Za (u.drop (j - 1)) % Za v=b at *
   rw [← B]
   generalize 4294967296 ^ (j - 1)=Q at *
   grind
theorem Z2b {l:List Int} (h:0<l.length):Za l=Za (l.take (l.length - 1))+4294967296 ^ (l.length - 1) * (l[l.length - 1]).toNat:=by
 conv=>lhs;rw [← Zhu h,Qb,Wm,Y0]
 rw [nK,aZ (by omega),dE,bV]
theorem Z2c {l:List Int} (hl:Zo l):Za (l.take (l.length - 1))<4294967296 ^ (l.length - 1):=by
 have:=Q3 (hl.take (l.length - 1))
 rw [nK,aZ (by omega)] at this
 exact this
theorem Z6j {u:List Int} {k n S:Nat} (hu:Zo u) (hk:k+n=u.length) (hn:0<n) (ht:∀ h:u.length - 1<u.length,(u[u.length - 1]).toNat<S):Za (u.drop k)<4294967296 ^ (n - 1) * S:=by
 have a:(u.drop k).length=n:=by rw [cH];omega
 have b:=Z2b (l:=u.drop k) (by omega)
 have c:=Z2c (hu.drop k)
 have d:((u.drop k)[(u.drop k).length - 1]'(by omega))=u[u.length - 1]'(by omega):=by
  have:(u.drop k)[(u.drop k).length - 1]?=u[u.length - 1]?:=by rw [List.getElem?_drop,a];congr 1;omega
  rw [aO (by omega),aO (by omega)] at this
  exact Option.some.inj this
 rw [d] at b
 rw [a] at b c
 have e:=ht (by omega)
 have f:=aU (4294967296 ^ (n - 1)) (show (u[u.length - 1]'(by omega)).toNat+1≤S from e)
 rw [dN] at f
 omega
theorem Zk7 {N:Nat} {a b:List Int} (ha:Zo a) (hb:Zo b) (hN:a.length+b.length+4<N) (hs:a.length+b.length≤35184372088000):
  Zd5 N a b=some (if Za b=0 then ([],[],11) else (Zf (Za a / Za b),Zf (Za a % Za b),0)):=by
 have la:=Yk ha
 have lb:=Yk hb
 rw [Zd5,Qh ha (by omega) (by omega),oB,Qh hb (by omega) (by omega),oB]
 generalize hA:Za a=A at *
 generalize hB:Za b=B at *
 by_cases h0:B=0
 ·subst h0
  rw [Vo,if_pos (by decide),if_pos rfl]
 ·have f:0<(Zf B).length:=cA.2 (fun h=>h0 (Zhw.1 h))
  rw [if_neg (dF (by omega)),if_neg h0,Zrf (Z9 _) (Z9 _) (by omega) (by omega) (by omega) (by omega),oB,Z6,Z6]
  by_cases hlt:A<B
  ·rw [if_pos hlt,if_pos (by decide),Qc (Z9 _) (by omega) (by omega),oB,Z6,eE hlt,dR hlt,Vo]
  ·rw [if_neg hlt,if_neg (by split <;> decide)]
   have a5:(Zf B).length≤(Zf A).length:=by
    have i:=W0 (k:=(Zf A).length) (n:=B)
    have c:=W0 (k:=(Zf A).length) (n:=A)
    have:=c.1 (aV _)
    exact i.2 (by omega)
   by_cases i:(Zf B).length=1
   ·have g:=(Z9 B).get f
    have v:=Zok f
    have e0:(Zf B).length - 1=0:=by omega
    have a7:(Zf B)[0]≠0:=by
     have:(Zf B)[(Zf B).length - 1]?=(Zf B)[0]?:=by rw [e0]
     rw [aO (by omega),aO (by omega)] at this
     rw [← Option.some.inj this];exact v
    have I:((Zf B)[0]).toNat=B:=by
     have c:=Z6 B
     have C:=U7 (l:=Zf B) (k:=0) f
     rw [bF,c,aI (by omega),Y0] at C
     omega
    obtain ⟨q,q1,q2,q3,J⟩:=Xar (N:=N) (a:=Zf A) (d:=(Zf B)[0]) (by omega) (Z9 _) (by omega) (by omega)
    rw [I,Z6] at q1 J
    have hm:=eA A (show 0<B by omega)
    have D:B<4294967296:=by omega
    have K:Zo [((A % B:Nat):Int)]:=.cons ⟨cY _,eL.2 (kI hm D)⟩ .nil
    rw [if_pos (dT (by omega)),Zrd (by omega),oB,show (0:Int)=((0:Nat):Int) from rfl,Xd f,oB,q1,oB,Qc q3 (by omega) (by omega),oB,Qc K (by simp;omega) (by simp),oB,J,Wm,Y0,aB,dE,bV]
   ·have L:0<(Zf B).length:=f
    have M:(Zf B).length - 1<(Zf B).length:=by omega
    have g:=(Z9 B).get M
    have v:=Zok f
    obtain ⟨k,ek,k1,k2⟩:=Znz (show ((Zf B)[(Zf B).length - 1]).toNat≠0 by omega)
    have hk:k≤31:=by
     have:Xf ((Zf B)[(Zf B).length - 1]).toNat≤32:=V4.2 (by omega)
     omega
    obtain ⟨s,O⟩:∃ s,s=31 - k:=⟨_,rfl⟩
    have Q:Zlu (Zf B)[(Zf B).length - 1]=some (s:Int):=by
     rw [Zlu,show (Zf B)[(Zf B).length - 1]=(((Zf B)[(Zf B).length - 1]).toNat:Int) by omega,Zx9 (by omega),oB,ek,Zy (by omega)]
     congr 1;omega
    obtain ⟨u,u1,u2,R,S,u5⟩:=Zr4 (a:=Zf A) (s:=s) (by omega) (Z9 _) (by omega)
    obtain ⟨w,w1,w2,w3,T,w5⟩:=Zr4 (a:=Zf B) (s:=s) (by omega) (Z9 _) (by omega)
    rw [Z6] at S T
    have j:=bU s
    -- the divisor, its highest Yg set
    have U:=Zhu L
    have V:=Q3 ((Z9 B).take ((Zf B).length - 1))
    rw [nK,aZ (by omega)] at V
    have I:B=Za ((Zf B).take ((Zf B).length - 1))+4294967296 ^ ((Zf B).length - 1) * ((Zf B)[(Zf B).length - 1]).toNat:=by
     conv=>lhs;rw [← Z6 B,← U,Qb,Wm,Y0]
     rw [nK,aZ (by omega)];simp
    have W:2 ^ k * 2 ^ s=2147483648:=by rw [← cP,O,show k+(31 - k)=31 by omega]
    have X:2 ^ (k+1) * 2 ^ s=4294967296:=by rw [aW,Nat.mul_right_comm,W]
    have c2:0<4294967296 ^ ((Zf B).length - 1):=dO (by decide)
    have b7:(Zf B).length - 1+1=(Zf B).length:=by omega
    have Y:(4294967296:Nat) ^ (Zf B).length=4294967296 ^ ((Zf B).length - 1) * 4294967296:=by rw [← aW];congr 1;omega
    generalize hPe:4294967296 ^ ((Zf B).length - 1)=P at *
    have b8:P * 2147483648≤2 ^ s * B:=by
     have i:=aU P k1
     have c:=aX (2 ^ s) (show P * 2 ^ k≤B by omega)
     rw [bJ,W] at c
     rw [bP (2 ^ s)];exact c
    have E:2 ^ s * B<P * 4294967296:=by
     have i:=aU P (show ((Zf B)[(Zf B).length - 1]).toNat+1≤2 ^ (k+1) from k2)
     rw [dN] at i
     have c:=gO (show B<P * 2 ^ (k+1) by omega) j
     rw [bJ,X] at c
     rw [bP (2 ^ s)];exact c
    have Z:(Zf (2 ^ s * B)).length=(Zf B).length:=by
     have i:(Zf (2 ^ s * B)).length≤(Zf B).length:=W0.2 (by rw [Y];exact E)
     have c:¬ (Zf (2 ^ s * B)).length≤(Zf B).length - 1:=fun h=>by
      have:=W0.1 h
      rw [hPe] at this
      have:P * 1≤P * 2147483648:=aU _ (by decide)
      omega
     omega
    have a0:0<(Zf (2 ^ s * B)).length:=by omega
    have F:2147483648≤((Zf (2 ^ s * B))[(Zf (2 ^ s * B)).length - 1]).toNat:=by
     have a1:=Z2c (Z9 (2 ^ s * B))
     have e:=Z2b a0
     have y:(4294967296:Nat) ^ ((Zf (2 ^ s * B)).length - 1)=P:=by rw [Z];exact hPe
     rw [Z6,y] at e
     rw [y] at a1
     generalize Za ((Zf (2 ^ s * B)).take ((Zf (2 ^ s * B)).length - 1))=lo at *
     generalize ((Zf (2 ^ s * B))[(Zf (2 ^ s * B)).length - 1]).toNat=t at *
     have C:P * 2147483648<P * (t+1):=by rw [dN];omega
     have:=eO C
     omega
    obtain ⟨q,m⟩:∃ q,q=aC ((Zf A).length - (Zf B).length+1) (0:Int):=⟨_,rfl⟩
    have lq:q.length=(Zf A).length - (Zf B).length+1:=by rw [m,aT]
    rw [if_neg (dF (by omega)),Zy (x:=((Zf B).length:Int) - 1) (by omega),show ((Zf B).length:Int) - 1=(((Zf B).length - 1:Nat):Int) by omega,Xd M,oB,Q,oB,u1,oB,w1,oB,
     Z2g w3 (by omega) (by omega),oB,T,Zy (x:=((Zf A).length:Int) - ((Zf B).length:Int)) (by omega),Zy (x:=((Zf A).length:Int) - ((Zf B).length:Int)+1) (by omega),Xh (by simp only [maxLen];omega),
     show aA (((Zf A).length:Int) - ((Zf B).length:Int)+1)=(Zf A).length - (Zf B).length+1 by omega,← m,Zy (x:=(q.length:Int) - 1) (by omega)]
    obtain ⟨u',q',r1,r2,r3,r4,r5,G,p⟩:=Zwr N s (Zf (2 ^ s * B)) (by omega) (Z9 _) (by omega) F N q.length u q (aV _) (by omega) (by omega) (by omega) R (by rw [m];exact .zeros _) (by
     -- the highest Zf are below the divisor
     rw [Z6]
     have i:=Z6j (k:=q.length) (n:=(Zf B).length) R (by omega) L u5
     rw [hPe] at i
     have H:2 ^ s≤2147483648:=by
      have:=fQ (n:=2) (by decide) (show s≤31 by omega)
      omega
     have h8:=aU P H
     omega) (by rw [m,List.take_replicate];exact Sc _)
    rw [r1,Z2g r4 (by omega) (by omega),oB]
    rw [Z6] at G p
    have zq:Za q=0:=by rw [m];exact Sc _
    rw [zq,S,dE,cG] at p
    have ll:=Yk r4
    have o:=Zws N s (by omega) q' (Zf (Za u')) r5 (Z9 _) (by omega) (by omega) N 0 (Zf (Za u')) [] (by omega) (by omega) (by simp) rfl .nil (by rw [Y0,bF,dD];omega)
    rw [show ((0:Nat):Int)=0 from rfl] at o
    rw [o,Z6]
    have a3:Za q'=A / B:=by
     have r:2 ^ s * A / (2 ^ s * B)=Za q':=by
      rw [← p,Nat.mul_add_div (by omega),eE G,bV]
     rw [← r,Nat.mul_div_mul_left _ _ j]
    have a4:Za u' / 2 ^ s=A % B:=by
     have r:2 ^ s * A % (2 ^ s * B)=Za u':=by
      rw [← p,Nat.mul_add_mod,dR G]
     rw [iK] at r
     rw [← r,Nat.mul_div_cancel_left _ j]
    rw [a3,a4]
theorem Z7o {x y:Nat} (h:y≤x) (hy:0<y):y * (x % y)≤x * y / 2:=by
 have c:x % y+y≤x:=by
  have:=Nat.mod_add_div x y
  have a:y * 1≤y * (x / y):=aU _ (Nat.div_pos h hy)
  omega
 have a:=eA x hy
 have b:y * (2 * (x % y))≤y * x:=aU _ (by omega)
 rw [fI (by decide),bP x y,bJ,bP (x % y) 2]
 exact b
theorem Zry (N:Nat):∀ (n x y:Nat),y≤x→Xf (x * y)<n→(Zf x).length+(Zf y).length+4<N→(Zf x).length+(Zf y).length≤35184372088000→Zd6 N n (Zf x) (Zf y)=some (Zf (cL x y))
 | 0,x,y,_,h,_,_=>by omega
 | n+1,x,y,a,i,c,d=>by
  rw [Zd6.eq_2]
  by_cases h0:y=0
  ·subst h0
   rw [Vo,if_neg (by decide),Nat.gcd_zero_right]
  ·have j:0<(Zf y).length:=cA.2 (fun h=>h0 (Zhw.1 h))
   have b:=eA x (show 0<y by omega)
   have k:(Zf (x % y)).length≤(Zf y).length:=W0.2 (kI b (W0.1 (aV _)))
   have l:(Zf y).length≤(Zf x).length:=W0.2 (dV a (W0.1 (aV _)))
   rw [if_pos (dT (by omega)),Zk7 (Z9 _) (Z9 _) c d,oB,Z6,Z6,if_neg h0]
   have e:Xf (y * (x % y))<n:=by
    have f:=Z7o a (by omega)
    have g:Xf (y * (x % y))≤Xf (x * y / 2 ^ 1):=V4.2 (dV (by rw [Nat.pow_one];exact f) (V4.1 (aV _)))
    rw [Zku] at g
    have m:0<x * y:=Nat.mul_pos (by omega) (by omega)
    have o:0<Xf (x * y):=by
     rcases eR (Xf (x * y)) with h | h
     ·have:=V4.1 (show Xf (x * y)≤0 by omega)
      omega
     ·exact h
    omega
   have:=Zry N n y (x % y) (kH b) e (by omega) (by omega)
   rw [this,eM x y,Nat.gcd_rec y x,eM]
theorem Zum (x y:Nat):Xf (x * y)≤Xf x+Xf y:=by
 refine V4.2 ?_
 rw [cP]
 have a:=V4.1 (aV (Xf x))
 have b:=V4.1 (aV (Xf y))
 exact jF a b
theorem Z7n {N:Nat} {a b:List Int} (ha:Zo a) (hb:Zo b) (hN:32 * (a.length+b.length)+8<N) (hs:a.length+b.length≤35184372088000):Zlz N a b=some (Zf (cL (Za a) (Za b))):=by
 have e:=Yk ha
 have f:=Yk hb
 have g:=(Zhd (Za a)).2
 have i:=(Zhd (Za b)).2
 rw [Zlz,Qc ha (by omega) (by omega),oB,Qc hb (by omega) (by omega),oB]
 by_cases h:Za b≤Za a
 ·have:=Zum (Za a) (Za b)
  exact Zry N N _ _ h (by omega) (by omega) (by omega)
 ·have d:Za a<Za b:=by omega
  have j:=Zum (Za b) (Za a)
  have k:0<(Zf (Za b)).length:=cA.2 (fun h=>by have:=Zhw.1 h;omega)
  obtain ⟨c,rfl⟩:∃ c,N=c+1:=⟨N - 1,by omega⟩
  rw [Zd6.eq_2,if_pos (dT (by omega)),Zk7 (Z9 _) (Z9 _) (by omega) (by omega),oB,Z6,Z6,if_neg (by omega),dR d,
   Zry (c+1) c _ _ (by omega) (by omega) (by omega) (by omega),eM]
abbrev ZV:=Bool×List Int
abbrev QV:=R3×List Int
def Zr (a:ZV):Int:=if a.1=true then -(Za a.2:Int) else (Za a.2:Int)
def Xa (z:Int):ZV:=(decide (z<0),Zf z.natAbs)
def X4 (l:List Int):Nat:=if Za l=0 then 1 else Za l
def Zq (a:QV):Rat:=mkRat (Zr a.1) (X4 a.2)
def Zm (q:Rat):QV:=(Xa q.num,Zf q.den)
structure RV (k:Nat) (a:QV):Prop where
 m:Zo a.1.2
 d:Zo a.2
 lm:a.1.2.length≤k
 ld:a.2.length≤k
def qs (q:Rat):Nat:=max (Zf q.num.natAbs).length (Zf q.den).length
def Z8 (N s:Nat):Prop:=200 * (s+4)<N∧s≤1066000000000
theorem Zc7 (a:ZV):(Zr a).natAbs=Za a.2:=by
 rw [Zr];split <;> omega
theorem W2 (z:Int):Zr (Xa z)=z:=by
 rw [Zr,Xa]
 simp only [Z6,decide_eq_true_eq]
 split <;> omega
theorem Zmx (n:Bool) (m:List Int):Xa (Zr (n,m))=(n&&decide (Za m≠0),Zf (Za m)):=by
 rw [Xa,Zc7]
 congr 1
 rw [Zr]
 cases n
 ·rw [if_neg (fun h=>by cases h),Bool.false_and]
  exact decide_eq_false (by omega)
 ·rw [if_pos rfl,Bool.true_and]
  exact decide_eq_decide.2 (by simp only;omega)
theorem Wz (z:Int):Zo (Xa z).2:=Z9 _
theorem Uy (l:List Int):X4 l≠0:=by rw [X4];split <;> omega
theorem Zwv {n:Nat} (h:n≠0):X4 (Zf n)=n:=by rw [X4,Z6,if_neg h]
theorem Xz (q:Rat):Zq (Zm q)=q:=by
 rw [Zq,Zm]
 simp only [W2,Zwv q.den_nz]
 exact Rat.mkRat_self q
theorem Ztq (q:Rat):RV (qs q) (Zm q):=⟨Z9 _,Z9 _,dB _ _,cU _ _⟩
theorem RV.mono {k l:Nat} {a:QV} (h:RV k a) (hl:k≤l):RV l a:=⟨h.m,h.d,aN h.lm hl,aN h.ld hl⟩
theorem Yi {q:Rat} {k:Nat} (h:qs q≤k):RV k (Zm q):=(Ztq q).mono h
theorem Z8.mono {N s t:Nat} (h:Z8 N t) (hs:s≤t):Z8 N s:=by
 obtain ⟨a,b⟩:=h
 exact ⟨by omega,by omega⟩
theorem Ws {m n:Nat} (h:m≤n):(Zf m).length≤(Zf n).length:=W0.2 (dV h (W0.1 (aV _)))
theorem T7 (m n:Nat):(Zf (m * n)).length≤(Zf m).length+(Zf n).length:=by
 refine W0.2 ?_
 rw [cP]
 exact jF (W0.1 (aV _)) (W0.1 (aV _))
theorem Zhv {m n k:Nat} (hm:(Zf m).length≤k) (hn:(Zf n).length≤k):(Zf (m+n)).length≤k+1:=by
 refine W0.2 ?_
 have a:=W0.1 hm
 have b:=W0.1 hn
 rw [aW]
 omega
theorem S4 {n:Nat} (h:n≠0):1≤(Zf n).length:=cA.2 (fun e=>h (Zhw.1 e))
theorem Zz1 (q:Rat):1≤qs q:=aN (S4 q.den_nz) (cU _ _)
theorem Zc4 {z:Int} {d k:Nat} (hz:(Zf z.natAbs).length≤k) (hd:(Zf d).length≤k) (hk:1≤k):qs (mkRat z d)≤k:=by
 rw [qs,jY,jZ]
 by_cases h:d=0
 ·rw [if_pos h,if_pos h]
  simp only [jL,Vo,Uj]
  simp;omega
 ·rw [if_neg h,if_neg h]
  refine Nat.max_le.2 ⟨aN (Ws ?_) hz,aN (Ws (bY _ _)) hd⟩
  exact Int.natAbs_ediv_le_natAbs _ _
theorem Zs5 {k:Nat} {a:QV} (h:RV k a):qs (Zq a)≤max k 1:=by
 refine Zc4 ?_ ?_ (cU _ _)
 ·rw [Zc7]
  exact aN (Yk h.m) (aN h.lm (dB _ _))
 ·rw [X4]
  split
  ·rw [Uj];exact cU _ _
  ·exact aN (Yk h.d) (aN h.ld (dB _ _))
theorem Zm4 (a:Rat):qs (-a)=qs a:=by rw [qs,qs,Rat.neg_num,Rat.neg_den,Int.natAbs_neg]
theorem Zgy (a b:Rat):qs (a * b)≤qs a+qs b:=by
 rw [Rat.mul_def']
 have:=Zz1 a
 refine Zc4 ?_ ?_ (by omega)
 ·rw [eS]
  exact aN (T7 _ _) (jS (dB _ _) (dB _ _))
 ·exact aN (T7 _ _) (jS (cU _ _) (cU _ _))
theorem Zkc (a b:Rat):qs (a+b)≤qs a+qs b+1:=by
 rw [Rat.add_def']
 have c:(Zf a.num.natAbs).length≤qs a:=dB _ _
 have d:(Zf a.den).length≤qs a:=cU _ _
 have e:(Zf b.num.natAbs).length≤qs b:=dB _ _
 have f:(Zf b.den).length≤qs b:=cU _ _
 refine Zc4 (aN (Ws (Int.natAbs_add_le _ _)) (Zhv ?_ ?_)) ?_ (by omega)
 ·rw [eS,eW]
  have:=T7 a.num.natAbs b.den
  omega
 ·rw [eS,eW]
  have:=T7 b.num.natAbs a.den
  omega
 ·have:=T7 a.den b.den
  omega
theorem Zs4 (a b:Rat):qs (a - b)≤qs a+qs b+1:=by
 rw [Rat.sub_eq_add_neg]
 have:=Zkc a (-b)
 rw [Zm4] at this
 exact this
theorem Zs6:qs 0=1:=by
 rw [qs]
 simp only [Rat.zero_num,Rat.zero_den,jL,Vo,Uj]
 simp
theorem Zkd:qs 1=1:=by
 rw [qs]
 simp only [Rat.one_num,Rat.one_den,Int.natAbs_one,Uj]
 simp
theorem Zy6 {neg:Bool} {num den:List Int} (hd:Za den≠0):
  Zm (mkRat (Zr (neg,num)) (Za den))=((neg&&decide (Za num / cL (Za num) (Za den)≠0),Zf (Za num / cL (Za num) (Za den))),Zf (Za den / cL (Za num) (Za den))):=by
 rw [Zm,jY,jZ,if_neg hd,if_neg hd,Zc7,eM (Za den) (Za num)]
 have a:cL (Za num) (Za den)≠0:=fun h=>hd (Nat.gcd_eq_zero_iff.1 h).2
 congr 1
 have e:Zr (neg,num) / ((cL (Za num) (Za den):Nat):Int)=Zr (neg,Zf (Za num / cL (Za num) (Za den))):=by
  rw [Zr,Zr]
  simp only [Z6]
  cases neg
  ·simp
  ·simp only [if_true]
   rw [Int.neg_ediv_of_dvd (Int.natCast_dvd_natCast.2 (Nat.gcd_dvd_left _ _)),gP]
 rw [e,Zmx,Z6]
theorem Vs {a b:Int} {c d:Nat} (hc:c≠0) (hd:d≠0):mkRat a c<mkRat b d↔a * d<b * c:=by
 have f:(0:Rat)<(c:Rat):=jM.2 (by omega)
 have g:(0:Rat)<(d:Rat):=jM.2 (by omega)
 rw [dJ,dJ,Rat.div_lt_iff f]
 have e:(b:Rat) / d * c=(b:Rat) * c / d:=by
  rw [Rat.div_def,Rat.div_def,fB,fB,Rat.mul_comm (d:Rat)⁻¹]
 rw [e,Rat.lt_div_iff g]
 have i:((a:Rat) * (d:Rat))=((a * (d:Int):Int):Rat):=by rw [hH];rfl
 have j:((b:Rat) * (c:Rat))=((b * (c:Int):Int):Rat):=by rw [hH];rfl
 rw [i,j,Rat.intCast_lt_intCast]
theorem Zsi {a b:Int} {c d:Nat} (hc:c≠0) (hd:d≠0):mkRat a c=mkRat b d↔a * d=b * c:=Rat.mkRat_eq_iff hc hd
def Vf (a b:Rat):Int:=if a<b then -1 else if b<a then 1 else 0
def Zax (a b:Int):Int:=if a<b then -1 else if b<a then 1 else 0
def Qf (a:Rat):Int:=Vf a 0
theorem Zsz {a b:Int} {c d:Nat} (hc:c≠0) (hd:d≠0):Vf (mkRat a c) (mkRat b d)=Zax (a * d) (b * c):=by
 unfold Vf Zax
 simp only [Vs hc hd,Vs hd hc]
theorem Zqi (a:Int):Zax a 0=a.sign:=by
 unfold Zax
 rcases Int.lt_trichotomy a 0 with h | h | h
 ·rw [if_pos h,Int.sign_eq_neg_one_of_neg h]
 ·rw [h];rfl
 ·rw [if_neg (by omega),if_pos h,Int.sign_eq_one_of_pos h]
theorem Zz3 (a:QV):Qf (Zq a)=(Zr a.1).sign:=by
 rw [Qf,Zq,show (0:Rat)=mkRat 0 1 by rw [Rat.zero_mkRat],Zsz (Uy _) (by decide),← Zqi]
 simp
theorem Zpu {a:Rat}:Qf a<0↔a<0:=by
 rw [Qf,Vf]
 by_cases h:a<0
 ·rw [if_pos h];simp [h]
 ·rw [if_neg h];simp only [h,iff_false];split <;> decide
def Ut (N:Nat) (b:R0):Option R2:=
  (Zf2 N b.2).bind fun a=>if (decide (0<(a.length:Int)))=true then (some a) else ((Zck N 1).bind fun c=>some c)
theorem Sj {N d f:Nat} {g i:Option Addr} {col:Zg} {h:World} {b:R0} {r:R2} (j:Nat) (a:Ut N b=some r) (u:Sl rU col h g d b.1.2) (c:Sl rU col h i f b.2):
    Calls prog 96 #[(.agg #[.bool b.1.1,.slice g b.1.2.length d,.slice i b.2.length f])] h (Vl .u32 119 j col h r):=by
 refine Xk 2 (m:=12) func96 O O O O O ?_;rw [Ut.eq_1] at a;have e:=St.start col h;refine go ?_;refine Xj (col:=(Zk col)) 1 O fun _ _ _ v l=>go ?_;refine Xp l ?_;obtain ⟨_,q,a⟩:=bZ a;replace e:=e.grow v;refine Zh (Zqy 2 q (c.k0.ks e)) ?_;rintro _ A ⟨n,B,C,rfl,o,p⟩;refine ⟨_,O,go ?_⟩;replace e:=e.grow o;refine Zp a (fun k a=>go ?_) fun k a=>go ?_
 ·cases a;exact ⟨O,_,_,_,O,e.fin (cm [(2,j)]),e.fo p⟩
 obtain ⟨_,m,a⟩:=bZ a;refine Zh (Zkz (col:=n) 3 m) ?_;rintro _ E ⟨F,G,H,rfl,s,t⟩;refine ⟨_,O,go ?_⟩;cases a;replace e:=e.grow s;exact ⟨O,_,_,_,O,e.fin (cm [(3,j)]),e.fo t⟩
def Zj7 (a:Bool) (b:List Int):Option R3:=
  some (a,b)
def Sr (N:Nat) (b:Bool) (c:List Int):Option R3:=
  (Zf2 N c).bind fun a=>if b=true then (Zj7 (decide (0<(a.length:Int))) a) else (Zj7 false a)
theorem Za3 {N u:Nat} {i:Option Addr} {col:Zg} {d:World} {v:Bool} {k:R2} {r:R3} (j:Nat) (a:Sr N v k=some r) (s:Sl rU col d i u k):
    Calls prog 142 #[.bool v,.slice i k.length u] d (Tt 119 j col d r):=by
 refine Yb (m:=16) func142 O O O ?_;rw [Sr.eq_1] at a;have b:=St.start col d;refine go ?_;refine Xc (col:=(Zk col)) #[.bool false,(nI)] 1 zeroValue40 fun J _ _ C e=>go ?_;obtain ⟨l,B,a⟩:=bZ a;replace b:=b.grow C;refine Zh (Zqy 2 B (s.k0.ks b)) fun _ _ ⟨_,y,z,q,t,c⟩=>⟨_,q,?_⟩;refine So O<|Zj<|Zw ?_;replace e:=e.gr t;replace b:=b.grow t;refine Wp.cutK [4,1000000] (fun G f=>∃ g m n o h,Zj7 m h=some r∧St d (Zk col) g f∧Zb rU 119 3 g f n o h∧Zi 40 1 g f J #[.bool m,.slice n h.length o]) ?_ ?_
 ·intro G f A;obtain ⟨g,m,n,o,h,a,b,F,e⟩:=A;rw [Zj7.eq_1] at a;refine Y5 ?_;cases a;exact ⟨O,_,ra e.atN,_,_,_,O,b.fin (cm [(3,j)]),b.fo F⟩
 refine go ?_;refine X9 a (fun p a=>go ?_) fun p a=>go ?_
 ·refine lV (.bool (decide (0<(l.length:Int)))) (Xw (congrArg Value.bool p) O)<|Wg O<|lV (.agg #[.bool (decide (0<(l.length:Int))),.slice y l.length z]) (Yc (l:=[_,_]) (qs:=[(0,1),(1,1)]) underlying40 zeroValue40 ⟨O,sizeOf4,O,sizeOf38,trivial⟩ O)<|Zs e ?_;intro _ w D H;refine Zj ?_;replace c:=c.kp w;replace c:=c.recolSelf 3 (by decide);replace b:=b.kp w D;replace b:=b.recol 2 3 (by decide) (by decide);exact ⟨O,_,_,_,_,_,a,b,c,H.recol 2 3⟩
 refine lV (.bool false) (X0 (congrArg Value.bool p) O)<|Wg O<|lV (.agg #[.bool false,.slice y l.length z]) (Yc (l:=[_,_]) (qs:=[(0,1),(1,1)]) underlying40 zeroValue40 ⟨O,sizeOf4,O,sizeOf38,trivial⟩ O)<|Zs e ?_;intro _ x E I;refine Zj ?_;replace c:=c.kp x;replace c:=c.recolSelf 3 (by decide);replace b:=b.kp x E;replace b:=b.recol 2 3 (by decide) (by decide);exact ⟨O,_,_,_,_,_,a,b,c,I.recol 2 3⟩
def Zmt (N:Nat) (a:R3) (b:R3):Option R3:=
  (Zbk N a.2 b.2).bind fun d=>(Sr N (!decide (a.1=b.1)) d).bind fun c=>some (c.1,c.2)
theorem Z5m {N x y:Nat} {z B:Option Addr} {col:Zg} {e:World} {j k r:R3} (t:Nat) (d:Zmt N j k=some r) (p:Sl rU col e z x j.2) (s:Sl rU col e B y k.2):
    Calls prog 138 #[(.agg #[.bool j.1,.slice z j.2.length x]),(.agg #[.bool k.1,.slice B k.2.length y])] e (Tt 119 t col e r):=by
 refine Yb (m:=16) func138 O O O ?_;rw [Zmt.eq_1] at d;have c:=St.start col e;refine go ?_;refine Xj (col:=(Zk col)) 1 O fun _ _ C L o=>Xj (col:=C) 2 O fun _ _ D A q=>Xc (col:=D) #[.bool false,(nI)] 3 zeroValue40 fun _ _ g v m=>go ?_;refine Ym (col:=g) [(0,1),(1,0),(2,1),(3,0),(4,1),(5,1),(6,0),(7,1),(8,0),(9,3),(10,3),(11,2)] (by kernel_rfl) (by kernel_rfl)<|xF ⟨_,_,O⟩ ?_;replace o:=(o.gr A).gr v;refine xW (fun _ b=>((o.atN).nth (q:=0) O).gr (b.bl g)) ?_;refine xF ⟨_,_,O⟩ ?_;replace q:=q.gr v;refine xW (fun _ b=>((q.atN).nth (q:=0) O).gr (b.bl g)) ?_;refine xu O O (fun _=>Zkf _ _ underlying4 O O) ?_;refine xF ⟨_,_,O⟩ ?_;refine xW (fun _ b=>((o.atN).nth (q:=1) O).gr (b.bl g)) ?_;refine xF ⟨_,_,O⟩ ?_;refine xW (fun _ b=>((q.atN).nth (q:=1) O).gr (b.bl g)) ?_;refine xe O O ?_;intro _ a;have b:=a.bl g;obtain ⟨_,G,d⟩:=bZ d;replace c:=(((c.grow L).grow A).grow v).grow b;refine Zh (Zky 4 G (p.k0.ks c) (s.k0.ks c)) fun _ _ ⟨i,_,_,h,u,I⟩=>⟨_,h,?_⟩;refine Zj<|Xb i a u<|xe O O ?_;intro K a;replace m:=(m.gr b).gr u;have b:=a.bl i;obtain ⟨_,E,d⟩:=bZ d;refine Zh (Za3 5 E ((I.gr b).toSlF (Ze.int .u32))) fun _ _ ⟨H,_,_,h,f,l⟩=>⟨_,h,?_⟩;replace l:=l.thaw (Zt .u32) f ((Fz.refl (col:=i)).froz 4);replace f:=f.thawR (col:=i);generalize Z2 K.heap.size i H=n at *;refine Zj<|Xb n a f<|xe O O ?_;intro _ a;replace c:=((c.grow u).grow b).grow f;replace m:=(m.gr b).gr f;have b:=a.bl n;refine Zs (m.gr b) fun _ w F J=>Zj<|xk n<|Yf ?_;replace l:=(l.gr b).kp w;replace c:=(c.grow b).kp w F;intro _ b;replace b:=b.bl n;refine Y5 ?_;cases d;replace c:=c.grow b;exact ⟨O,_,ra (J.gr b).atN,_,_,_,O,c.fin (cm [(5,t)]),c.fo (l.gr b)⟩
def Zbi (N:Nat) (a:R3) (c:List Int):Option R3:=
  (Zmt N (a.1,a.2) (false,c)).bind fun b=>some (b.1,b.2)
theorem Zhk {N k d:Nat} {n h:Option Addr} {col:Zg} {a:World} {b:R3} {c:R2} {r:R3} (i:Nat) (g:Zbi N b c=some r) (f:Sl rU col a n k b.2) (l:Sl rU col a h d c):
    Calls prog 95 #[(.agg #[.bool b.1,.slice n b.2.length k]),.slice h c.length d] a (Tt 119 i col a r):=by
 refine Yb (m:=9) func95 O O O ?_;rw [Zbi.eq_1] at g;have e:=St.start col a;refine go ?_;refine Xj (col:=(Zk col)) 1 O fun _ _ q x v=>Xc (col:=q) #[.bool false,(nI)] 2 zeroValue40 fun _ _ _ p y=>go ?_;refine lV _ (Zz isAgg40 sizeOf40 (v.gr p))<|Wg O<|lV (.agg #[.bool false,.slice h c.length d]) (Yc (l:=[_,_]) (qs:=[(0,1),(1,1)]) underlying40 zeroValue40 ⟨O,sizeOf4,O,sizeOf38,trivial⟩ O) ?_;obtain ⟨_,t,g⟩:=bZ g;replace e:=(e.grow x).grow p;refine Zh (Z5m 3 t (f.k0.ks e) (l.k0.ks e)) fun _ _ ⟨_,_,_,j,m,w⟩=>⟨_,j,?_⟩;refine Zs (y.gr m) fun _ o s u=>go ?_;cases g;replace e:=(e.grow m).kp o s;exact ⟨O,_,ra u.atN,_,_,_,O,e.fin (cm [(3,i)]),e.fo (w.kp o)⟩
def Zes (N:Nat) (a:R3) (b:R3):Option R3:=
  if (decide (a.1=b.1))=true then ((Zly N a.2 b.2).bind fun g=>(Sr N a.1 g).bind fun c=>some (c.1,c.2)) else ((Zi6 N a.2 b.2).bind fun d=>if d.2=true then ((Sr N a.1 d.1).bind fun e=>some (e.1,e.2)) else ((Zi6 N b.2 a.2).bind fun i=>(Sr N b.1 i.1).bind fun f=>some (f.1,f.2)))
theorem Zq7 {N t w:Nat} {K L:Option Addr} {col:Zg} {h:World} {u v r:R3} (l:Nat) (a:Zes N u v=some r) (j:Sl rU col h K t u.2) (k:Sl rU col h L w v.2):
    Calls prog 112 #[(.agg #[.bool u.1,.slice K u.2.length t]),(.agg #[.bool v.1,.slice L v.2.length w])] h (Tt 119 l col h r):=by
 refine Yb (m:=47) func112 O O O ?_;rw [Zes.eq_1] at a;have b:=St.start col h;refine go ?_;refine Xj (col:=(Zk col)) 1 O fun _ _ z H g=>Xj (col:=z) 2 O fun _ _ A y i=>Xc (col:=A) #[.bool false,(nI)] 3 zeroValue40 fun _ _ t A f=>go ?_;refine Xt ⟨_,_,O⟩ ?_;replace g:=(g.gr y).gr A;refine lW ((g.atN).nth (q:=0) O)<|Xt ⟨_,_,O⟩ ?_;replace i:=i.gr A;refine lW ((i.atN).nth (q:=0) O)<|go ?_;replace j:=j.k0;replace k:=k.k0;replace b:=((b.grow H).grow y).grow A;refine Zp a (fun n a=>?_) fun n a=>go ?_
 ·refine Zw<|Ym (col:=t) [(0,1),(1,0),(2,1),(3,0),(4,1),(5,0),(6,3),(7,3),(8,2)] (by kernel_rfl) (by kernel_rfl)<|xF ⟨_,_,O⟩ ?_;refine xW (fun _ d=>((g.atN).nth (q:=0) O).gr (d.bl t)) ?_;refine xF ⟨_,_,O⟩ ?_;refine xW (fun _ d=>((g.atN).nth (q:=1) O).gr (d.bl t)) ?_;refine xF ⟨_,_,O⟩ ?_;refine xW (fun _ d=>((i.atN).nth (q:=1) O).gr (d.bl t)) ?_;refine xe O O ?_;intro _ c;have d:=c.bl t;obtain ⟨_,D,a⟩:=bZ a;replace b:=b.grow d;refine Zh (Z4h 4 D (j.ks b) (k.ks b)) fun _ _ ⟨q,_,_,e,D,E⟩=>⟨_,e,?_⟩;refine Zj<|Xb q c D<|xe O O ?_;intro I c;replace f:=(f.gr d).gr D;have d:=c.bl q;obtain ⟨_,H,a⟩:=bZ a;refine Zh (Za3 5 H ((E.gr d).toSlF (Ze.int .u32))) fun _ _ ⟨V,_,_,e,m,s⟩=>⟨_,e,?_⟩;replace s:=s.thaw (Zt .u32) m ((Fz.refl (col:=q)).froz 4);replace m:=m.thawR (col:=q);generalize Z2 I.heap.size q V=z at *;refine Zj<|Xb z c m<|xe O O ?_;intro _ c;replace b:=((b.grow D).grow d).grow m;replace f:=(f.gr d).gr m;have d:=c.bl z;replace f:=f.gr d;refine Zs f fun _ h T F=>Zj<|xk z<|Yf ?_;replace s:=(s.gr d).kp h;replace b:=(b.grow d).kp h T;intro _ d;replace d:=d.bl z;refine Y5 ?_;cases a;replace b:=b.grow d;exact ⟨O,_,ra (F.gr d).atN,_,_,_,O,b.fin (cm [(5,l)]),b.fo (s.gr d)⟩
 refine Xp g<|Xp i ?_;obtain ⟨w,I,a⟩:=bZ a;refine Zh (Zu0 6 I (j.ks b) (k.ks b)) fun _ d ⟨F,m,q,e,y,Z⟩=>⟨_,e,?_⟩;refine lM (.tuple #[.slice m w.1.length q,.bool w.2])<|lV (.slice m w.1.length q) (Xl O O)<|lV (.bool w.2) (Xl O O)<|go ?_;replace g:=g.gr y;replace i:=i.gr y;replace f:=f.gr y;replace b:=b.grow y;refine Zp a (fun n a=>go ?_) fun n a=>go ?_
 ·refine Xp g<|Wg O ?_;obtain ⟨_,J,a⟩:=bZ a;refine Zh (Za3 7 J (Z.toSlF (Ze.int .u32))) fun _ _ ⟨W,_,_,e,o,B⟩=>⟨_,e,?_⟩;replace B:=B.thaw (Zt .u32) o ((Fz.refl (col:=F)).froz 6);replace o:=o.thawR (col:=F);generalize Z2 d.heap.size F W=s at *;replace f:=f.gr o;refine Zs f fun _ x Q S=>go ?_;cases a;replace b:=(b.grow o).kp x Q;exact ⟨O,_,ra S.atN,_,_,_,O,b.fin (cm [(7,l)]),b.fo (B.kp x)⟩
 refine Xp i<|Xp g ?_;obtain ⟨x,M,a⟩:=bZ a;refine Zh (Zu0 8 M (k.ks b) (j.ks b)) fun _ c ⟨E,g,n,e,G,Y⟩=>⟨_,e,?_⟩;refine lM (.tuple #[.slice g x.1.length n,.bool x.2])<|lV (.slice g x.1.length n) (Xl O O)<|lV (.bool x.2) (Xl O O)<|go ?_;refine Xt ⟨_,_,O⟩ ?_;refine lW (((i.gr G).atN).nth (q:=0) O)<|Wg O ?_;obtain ⟨_,P,a⟩:=bZ a;refine Zh (Za3 9 P (Y.toSlF (Ze.int .u32))) fun _ _ ⟨X,_,_,e,p,C⟩=>⟨_,e,?_⟩;replace C:=C.thaw (Zt .u32) p ((Fz.refl (col:=E)).froz 8);replace p:=p.thawR (col:=E);generalize Z2 c.heap.size E X=e at *;refine Zs ((f.gr G).gr p) fun _ ar R U=>go ?_;cases a;replace b:=((b.grow G).grow p).kp ar R;exact ⟨O,_,ra U.atN,_,_,_,O,b.fin (cm [(9,l)]),b.fo (C.kp ar)⟩
def Zmu (N:Nat) (a:R3):Option R3:=
  (Sr N a.1 a.2).bind fun b=>some (b.1,b.2)
theorem Z5o {N i:Nat} {j:Option Addr} {col:Zg} {a:World} {b r:R3} (g:Nat) (c:Zmu N b=some r) (d:Sl rU col a j i b.2):
    Calls prog 151 #[(.agg #[.bool b.1,.slice j b.2.length i])] a (Tt 119 g col a r):=by
 refine Yb (m:=8) func151 O O O ?_;rw [Zmu.eq_1] at c;have e:=St.start col a;refine go ?_;refine Xj (col:=(Zk col)) 1 O fun _ _ n t f=>Xc (col:=n) #[.bool false,(nI)] 2 zeroValue40 fun _ _ _ m u=>go ?_;refine Xt ⟨_,_,O⟩ ?_;replace f:=f.gr m;refine lW ((f.atN).nth (q:=0) O)<|Xp f ?_;obtain ⟨_,p,c⟩:=bZ c;replace e:=(e.grow t).grow m;refine Zh (Za3 3 p (d.k0.ks e)) fun _ _ ⟨_,_,_,h,k,s⟩=>⟨_,h,?_⟩;refine Zs (u.gr k) fun _ l o q=>go ?_;cases c;replace e:=(e.grow k).kp l o;exact ⟨O,_,ra q.atN,_,_,_,O,e.fin (cm [(3,g)]),e.fo (s.kp l)⟩
def Zcb (N:Nat) (e:Bool) (a b:List Int):Option R0:=
  (Zlz N a b).bind fun c=>(Zd5 N a c).bind fun f=>(Zd5 N b c).bind fun g=>(Zmu N (e,f.1)).bind fun d=>some ((d.1,d.2),g.1)
theorem Zkw {N C D:Nat} {l m:Option Addr} {col:Zg} {c:World} {o:Bool} {p q:R2} {r:R0} (s c2:Nat) (a:Zcb N o p q=some r) (e:Sl rU col c l C p) (f:Sl rU col c m D q):
    Calls prog 113 #[.bool o,.slice l p.length C,.slice m q.length D] c (V7 119 s c2 col c r):=by
 refine Yb (m:=37) func113 O O O ?_;rw [Zcb.eq_1] at a;have b:=St.start col c;refine go ?_;refine Xc (col:=(Zk col)) #[.bool false,(nI),(nI)] 1 zeroValue42 fun _ _ _ V aa=>go ?_;obtain ⟨_,U,a⟩:=bZ a;replace e:=e.k0;replace f:=f.k0;replace b:=b.grow V;refine Zh (Z4i 2 U (e.ks b) (f.ks b)) ?_;rintro _ M ⟨t,ae,af,rfl,E,n⟩;refine ⟨_,O,go ?_⟩;obtain ⟨h,Q,a⟩:=bZ a;replace b:=b.grow E;refine Zh (Zn3 3 4 Q ((e.ks b).froz 2) (n.toSlF (Ze.int .u32))) fun _ e ⟨X,A,B,I,K,d,k,F,_⟩=>⟨_,d,?_⟩;replace F:=F.thaw (Zt .u32) k ((Fz.refl (col:=t)).froz 2);replace k:=k.thawR (col:=t);generalize Z2 M.heap.size t X=v at *;refine lM (.tuple #[.slice A h.1.length B,.slice I h.2.1.length K,.int .i64 h.2.2])<|lV (.slice A h.1.length B) (Xl O O)<|lV (.slice I h.2.1.length K) (Xl O O)<|lV (.int .i64 h.2.2) (Xl O O)<|go ?_;obtain ⟨g,R,a⟩:=bZ a;replace b:=b.grow k;refine Zh (Zn3 5 6 R ((f.ks b).froz 2) ((n.gr k).toSlF (Ze.int .u32))) fun _ f ⟨Y,y,z,J,L,d,j,G,_⟩=>⟨_,d,?_⟩;replace G:=G.thaw (Zt .u32) j ((Fz.refl (col:=v)).froz 2);replace j:=j.thawR (col:=v);generalize Z2 e.heap.size v Y=x at *;refine lM (.tuple #[.slice y g.1.length z,.slice J g.2.1.length L,.int .i64 g.2.2])<|lV (.slice y g.1.length z) (Xl O O)<|lV (.slice J g.2.1.length L) (Xl O O)<|lV (.int .i64 g.2.2) (Xl O O)<|go ?_;refine lV (.agg #[.bool o,.slice A h.1.length B]) (Yc (l:=[_,_]) (qs:=[(0,1),(1,1)]) underlying40 zeroValue40 ⟨O,sizeOf4,O,sizeOf38,trivial⟩ O) ?_;obtain ⟨H,P,a⟩:=bZ a;refine Zh (Z5o 7 P ((F.gr j).toSlF (Ze.int .u32))) fun _ _ ⟨W,Z,c,d,i,w⟩=>⟨_,d,?_⟩;replace w:=w.thaw (Zt .u32) i ((Fz.refl (col:=x)).froz 3);replace i:=i.thawR (col:=x);generalize Z2 f.heap.size x W=d at *
 refine Wg O<|lV (.agg #[.bool H.1,.slice Z H.2.length c,.slice y g.1.length z]) (Yc (l:=[_,_]) (qs:=[(0,2),(2,1)]) underlying42 zeroValue42 ⟨O,sizeOf40,O,sizeOf38,trivial⟩ O) ?_;refine Zs ((((aa.gr E).gr k).gr j).gr i) fun _ u S T=>go ?_;cases a;replace b:=((b.grow j).grow i).kp u S;exact ⟨O,_,ra T.atN,_,_,_,_,_,O,b.fin (cm [(7,s),(5,c2)]),b.fo (w.kp u),b.fo ((G.gr i).kp u)⟩
def Uk (N:Nat) (a:R0) (b:R0):Option R0:=
  (Ut N ((b.1.1,b.1.2),b.2)).bind fun g=>(Zbi N (a.1.1,a.1.2) g).bind fun d=>(Ut N ((a.1.1,a.1.2),a.2)).bind fun i=>(Zbi N (b.1.1,b.1.2) i).bind fun e=>(Zes N (d.1,d.2) (e.1,e.2)).bind fun f=>(Ut N ((a.1.1,a.1.2),a.2)).bind fun j=>(Ut N ((b.1.1,b.1.2),b.2)).bind fun k=>(Zbk N j k).bind fun l=>(Zcb N f.1 f.2 l).bind fun c=>some ((c.1.1,c.1.2),c.2)
theorem Zb3 {N U z S v:Nat} {T y R q:Option Addr} {col:Zg} {w:World} {p s r:R0} (c1 c2:Nat) (e:Uk N p s=some r) (M:Sl rU col w T U p.1.2) (W:Sl rU col w y z p.2) (P:Sl rU col w R S s.1.2) (X:Sl rU col w q v s.2):
    Calls prog 62 #[(.agg #[.bool p.1.1,.slice T p.1.2.length U,.slice y p.2.length z]),(.agg #[.bool s.1.1,.slice R s.1.2.length S,.slice q s.2.length v])] w (V7 119 c1 c2 col w r):=by
 refine Yb (m:=27) func62 O O O ?_;rw [Uk.eq_1] at e;have c:=St.start col w;refine go ?_;refine Xj (col:=(Zk col)) 1 O fun a _ h A m=>Xj (col:=h) 2 O fun l _ G F n=>Xc (col:=G) #[.bool false,(nI),(nI)] 3 zeroValue42 fun _ g f x h=>go ?_;have V:=Zu.clip (fun _=>false) f g;refine Zbz (col:=f) [(0,1),(1,0),(2,0),(5,1),(6,0),(7,0),(3,3),(4,3),(8,3),(9,3),(10,3),(11,4),(12,2)] (by kernel_rfl) (by kernel_rfl) ⟨fun d=>absurd d (by decide),fun d=>absurd d (by decide),fun d=>absurd d (by decide),fun d=>absurd d (by decide),fun d=>absurd d (by decide),fun d=>absurd d (by decide),fun d=>absurd d (by decide),fun d=>absurd d (by decide),fun d=>absurd d (by decide),fun d=>absurd d (by decide),fun d=>absurd d (by decide),fun _=>⟨_,_,_,O,V5 zeroValue40⟩,fun d=>absurd d (by decide),trivial⟩<|X3 (v:=(.pointer ((some (⟨a,0,none⟩:Addr)).map (·.add 0)))) O O (fun _=>Un (sz:=2) (off:=0) underlying42 O sizeOf40 (by decide) O O ⟨_,_,O⟩) ?_;replace m:=((m.gr F).gr x).kpp V;refine Wa (v:=(.agg #[.bool p.1.1,.slice T p.1.2.length U])) O O (fun _ b=>Xi isAgg40 sizeOf40 O O (((m.atN).part 0 2 _ O).gr (b.bl (Zd g f)))) ?_;replace n:=(n.gr x).kpp V;refine Wa (v:=(.agg #[.bool s.1.1,.slice R s.1.2.length S,.slice q s.2.length v])) O O (fun _ b=>Xi isAgg42 sizeOf42 O O (n.atN.gr (b.bl (Zd g f)))) ?_;refine X3 (v:=(.pointer ((some (⟨l,0,none⟩:Addr)).map (·.add 0)))) O O (fun _=>Un (sz:=2) (off:=0) underlying42 O sizeOf40 (by decide) O O ⟨_,_,O⟩) ?_;refine Wa (v:=(.agg #[.bool s.1.1,.slice R s.1.2.length S])) O O (fun _ b=>Xi isAgg40 sizeOf40 O O (((n.atN).part 0 2 _ O).gr (b.bl (Zd g f)))) ?_;refine Wa (v:=(.agg #[.bool p.1.1,.slice T p.1.2.length U,.slice y p.2.length z])) O O (fun _ b=>Xi isAgg42 sizeOf42 O O (m.atN.gr (b.bl (Zd g f)))) ?_;refine Y6 O O ?_;intro _ a;have b:=a.bl (Zd g f);obtain ⟨_,Y,e⟩:=bZ e;replace P:=P.k0;replace X:=X.k0;replace c:=((((c.grow A).grow F).grow x).kpp V).grow b;refine Zh (Sj 4 Y (P.ks c) (X.ks c)) fun _ F ⟨L,_,_,g,i,w⟩=>⟨_,g,?_⟩
 refine Zj ?_;refine ⟨fun l=>Zl (Zd F L) F (Zd F L) l,fun j=>(Zd F L) j=497,Zl.refl _ _,Y3,fun _=>⟨fun _ d=>Wt a i d,fun H q=>i.below.block H q,fun j o f=>Wy i j o (by first | exact f | (simp only [Xg,f];rfl) | (simp only [Xg,Xq,f];rfl))⟩,?_⟩;have A:=Zu.clip (fun _=>false) L F;refine Y6 O O ?_;intro v a;replace h:=(((h.kpp V).gr b).gr i).kpp A;replace m:=((m.gr b).gr i).kpp A;replace n:=((n.gr b).gr i).kpp A;have b:=a.bl (Zd F L);obtain ⟨_,T,e⟩:=bZ e;replace M:=M.k0;replace c:=((c.grow i).kpp A).grow b;refine Zh (Zhk 5 T ((M.ks c).froz 4) (((w.kpp A).gr b).toSlF (Ze.int .u32))) fun _ u ⟨i,_,_,g,y,k⟩=>⟨_,g,?_⟩;replace W:=W.k0;replace k:=k.thaw (Zt .u32) y ((Fz.refl (col:=(Zd F L))).froz 4);replace y:=y.thawR (col:=(Zd F L));generalize Z2 v.heap.size (Zd F L) i=B at *;refine Zj ?_;refine ⟨fun l=>Zl (Zd u B) u (Zd u B) l,fun j=>(Zd u B) j=497,Zl.refl _ _,Y3,fun _=>⟨fun _ d=>Wt a y d,fun H q=>y.below.block H q,fun j o f=>Wy y j o (by first | exact f | (simp only [Xg,f];rfl) | (simp only [Xg,Xq,f];rfl))⟩,?_⟩;have C:=Zu.clip (fun _=>false) B u;refine Y6 O O ?_;intro _ a;replace m:=((m.gr b).gr y).kpp C;replace n:=((n.gr b).gr y).kpp C;replace h:=((h.gr b).gr y).kpp C;have b:=a.bl (Zd u B);obtain ⟨_,R,e⟩:=bZ e;replace c:=((c.grow y).kpp C).grow b;refine Zh (Sj 6 R (M.ks c) (W.ks c)) fun _ E ⟨K,_,_,g,I,x⟩=>⟨_,g,?_⟩;refine Zj ?_;refine ⟨fun l=>Zl (Zd E K) E (Zd E K) l,fun j=>(Zd E K) j=497,Zl.refl _ _,Y3,fun _=>⟨fun _ d=>Wt a I d,fun H q=>I.below.block H q,fun j o f=>Wy I j o (by first | exact f | (simp only [Xg,f];rfl) | (simp only [Xg,Xq,f];rfl))⟩,?_⟩;have t:=Zu.clip (fun _=>false) K E;refine Y6 O O ?_;intro u a;replace k:=(((k.kpp C).gr b).gr I).kpp t;replace m:=((m.gr b).gr I).kpp t;replace n:=((n.gr b).gr I).kpp t;replace h:=((h.gr b).gr I).kpp t;have b:=a.bl (Zd E K)
 obtain ⟨_,S,e⟩:=bZ e;replace c:=((c.grow I).kpp t).grow b;refine Zh (Zhk 7 S ((P.ks c).froz 6) (((x.kpp t).gr b).toSlF (Ze.int .u32))) fun _ G ⟨Z,_,_,g,x,I⟩=>⟨_,g,?_⟩;replace I:=I.thaw (Zt .u32) x ((Fz.refl (col:=(Zd E K))).froz 6);replace x:=x.thawR (col:=(Zd E K));generalize Z2 u.heap.size (Zd E K) Z=J at *;refine Zj ?_;refine ⟨fun l=>Zl (Zd G J) G (Zd G J) l,fun j=>(Zd G J) j=497,Zl.refl _ _,Y3,fun _=>⟨fun _ d=>Wt a x d,fun H q=>x.below.block H q,fun j o f=>Wy x j o (by first | exact f | (simp only [Xg,f];rfl) | (simp only [Xg,Xq,f];rfl))⟩,?_⟩;have w:=Zu.clip (fun _=>false) J G;refine Y6 O O ?_;intro t a;replace k:=((k.gr b).gr x).kpp w;replace m:=((m.gr b).gr x).kpp w;replace n:=((n.gr b).gr x).kpp w;replace h:=((h.gr b).gr x).kpp w;have b:=a.bl (Zd G J);obtain ⟨_,K,e⟩:=bZ e;refine Zh (Zq7 8 K (((k.gr b).toSlF (Ze.int .u32)).froz 7) ((((I.kpp w).gr b).froz 5).toSlF (Ze.int .u32))) fun _ i ⟨k,_,_,g,z,v⟩=>⟨_,g,?_⟩;replace v:=v.thaw (Zt .u32) z (((Fz.refl (col:=(Zd G J))).froz 5).froz 7);replace z:=z.thawR (col:=(Zd G J));generalize Z2 t.heap.size (Zd G J) k=k at *;refine Zj ?_;refine ⟨fun l=>Zl (Zd i k) i (Zd i k) l,fun j=>(Zd i k) j=497,Zl.refl _ _,Y3,fun _=>⟨fun _ d=>Wt a z d,fun H q=>z.below.block H q,fun j o f=>Wy z j o (by first | exact f | (simp only [Xg,f];rfl) | (simp only [Xg,Xq,f];rfl))⟩,?_⟩;have E:=Zu.clip (fun _=>false) k i;refine Zaw O O (V5 zeroValue40) fun u f=>Y6 O O ?_;intro q ⟨a,hZ0⟩;replace c:=((((c.grow x).kpp w).grow b).grow z).kpp E;replace m:=((m.gr b).gr z).kpp E;replace n:=((n.gr b).gr z).kpp E;replace h:=((h.gr b).gr z).kpp E;have b:=a.bl (Zd i k);obtain ⟨D,o⟩:=Q7 (col:=(Zd i k)) 9 hZ0 f;replace o:Zi 40 9 (Zx u 9 (Zd i k)) q u #[.bool false,(nI)]:=o;refine Zs o ?_
 intro t A o Q;refine Zj ?_;refine ⟨fun l=>Zl (Zd t (Zx u 9 (Zd i k))) t (Zd t (Zx u 9 (Zd i k))) l,fun j=>(Zd t (Zx u 9 (Zd i k))) j=497,Zl.refl _ _,Y3,fun d=>absurd d (by decide),?_⟩;have j:=Zu.clip (fun _=>false) (Zx u 9 (Zd i k)) t;refine Zb1 ?_;replace v:=((((v.kpp E).gr b).kpp D).kp A).kpp j;replace m:=(((m.gr b).kpp D).kp A).kpp j;replace n:=(((n.gr b).kpp D).kp A).kpp j;replace h:=(((h.gr b).kpp D).kp A).kpp j;replace c:=(((c.grow b).kpp D).kp A o).kpp j;intro D b;replace b:Zl (Zd t (Zx u 9 (Zd i k))) t (Zd t (Zx u 9 (Zd i k))) D:=.of_below b.below;refine Zw<|Ym (col:=(Zd t (Zx u 9 (Zd i k)))) [(0,1),(1,0),(2,1),(3,0),(4,0),(6,0),(5,3),(7,3),(8,3),(9,3),(10,2)] (by kernel_rfl) (by kernel_rfl)<|xF ⟨_,_,O⟩ ?_;replace Q:=(Q.kpp j).gr b;refine xW (fun _ b=>((Q.atN).nth (q:=0) O).gr (b.bl (Zd t (Zx u 9 (Zd i k))))) ?_;refine xF ⟨_,_,O⟩ ?_;refine xW (fun _ b=>((Q.atN).nth (q:=1) O).gr (b.bl (Zd t (Zx u 9 (Zd i k))))) ?_;replace m:=m.gr b;refine xv O O (fun _ b=>Zz isAgg42 sizeOf42 (m.gr (b.bl (Zd t (Zx u 9 (Zd i k)))))) ?_;replace n:=n.gr b;refine xv O O (fun _ b=>Zz isAgg42 sizeOf42 (n.gr (b.bl (Zd t (Zx u 9 (Zd i k)))))) ?_;refine xe O O ?_;intro V a;replace v:=v.gr b;replace h:=h.gr b;replace c:=c.grow b;have b:Zl (Zd t (Zx u 9 (Zd i k))) D (Zd t (Zx u 9 (Zd i k))) V:=.of_below a.below;obtain ⟨_,L,e⟩:=bZ e;replace c:=c.grow b;refine Zh (Sj 10 L (M.ks c) (W.ks c)) fun _ _ ⟨n,_,_,g,M,m⟩=>⟨_,g,?_⟩;refine Zj<|Xb n a M<|xe O O ?_;intro _ a;replace v:=(v.gr b).gr M;replace h:=(h.gr b).gr M;have b:=a.bl n;obtain ⟨_,Q,e⟩:=bZ e;replace c:=(c.grow M).grow b;refine Zh (Sj 11 Q (P.ks c) (X.ks c)) fun _ _ ⟨B,_,_,g,C,d⟩=>⟨_,g,?_⟩;refine Zj<|Xb B a C<|xe O O ?_;intro j a;replace v:=(v.gr b).gr C;replace m:=(m.gr b).gr C;replace h:=(h.gr b).gr C;have b:=a.bl B
 obtain ⟨_,H,e⟩:=bZ e;refine Zh (Zky 12 H (((m.gr b).toSlF (Ze.int .u32)).froz 11) (((d.gr b).froz 10).toSlF (Ze.int .u32))) fun _ _ ⟨W,_,_,g,Y,l⟩=>⟨_,g,?_⟩;replace l:=l.thaw (Zt .u32) Y (((Fz.refl (col:=B)).froz 10).froz 11);replace Y:=Y.thawR (col:=B);generalize Z2 j.heap.size B W=d at *;refine Zj<|Xb d a Y<|xe O O ?_;intro m a;replace c:=((c.grow C).grow b).grow Y;replace v:=(v.gr b).gr Y;replace h:=(h.gr b).gr Y;have b:=a.bl d;obtain ⟨_,J,e⟩:=bZ e;refine Zh (Zkw 13 14 J (((v.gr b).toSlF (Ze.int .u32)).froz 12) (((l.gr b).froz 8).toSlF (Ze.int .u32))) fun _ _ ⟨X,_,_,_,_,g,Z,bl,b1⟩=>⟨_,g,?_⟩;replace bl:=bl.thaw (Zt .u32) Z (((Fz.refl (col:=d)).froz 8).froz 12);replace b1:=b1.thaw (Zt .u32) Z (((Fz.refl (col:=d)).froz 8).froz 12);replace Z:=Z.thawR (col:=d);generalize Z2 m.heap.size d X=P at *;refine Zj<|Xb P a Z<|xe O O ?_;intro _ a;replace h:=(h.gr b).gr Z;replace c:=(c.grow b).grow Z;have b:=a.bl P;refine Zs (h.gr b) fun _ a U a2=>Zj<|xk P<|Yf ?_;replace bl:=(bl.gr b).kp a;replace b1:=(b1.gr b).kp a;replace c:=(c.grow b).kp a U;intro _ b;replace b:=b.bl P;refine Y5 ?_;cases e;replace c:=c.grow b;exact ⟨O,_,ra (a2.gr b).atN,_,_,_,_,_,O,c.fin (cm [(13,c1),(14,c2)]),c.fo (bl.gr b),c.fo (b1.gr b)⟩
def Zgu (N:Nat) (a:R3) (b:R3):Option R3:=
  (Zes N (a.1,a.2) (!b.1,b.2)).bind fun c=>some (c.1,c.2)
theorem Zvg {N s f:Nat} {t g:Option Addr} {col:Zg} {a:World} {c b r:R3} (k:Nat) (e:Zgu N c b=some r) (i:Sl rU col a t s c.2) (j:Sl rU col a g f b.2):
    Calls prog 126 #[(.agg #[.bool c.1,.slice t c.2.length s]),(.agg #[.bool b.1,.slice g b.2.length f])] a (Tt 119 k col a r):=by
 refine Yb (m:=13) func126 O O O ?_;rw [Zgu.eq_1] at e;have d:=St.start col a;refine go ?_;refine Xj (col:=(Zk col)) 1 O fun _ _ q A y=>Xj (col:=q) 2 O fun _ _ u p h=>Xc (col:=u) #[.bool false,(nI)] 3 zeroValue40 fun _ _ _ l B=>go ?_;refine lV _ (Zz isAgg40 sizeOf40 ((y.gr p).gr l))<|Xt ⟨_,_,O⟩ ?_;replace h:=h.gr l;refine lW ((h.atN).nth (q:=0) O)<|go ?_;refine Xp h<|lV (.agg #[.bool (!b.1),.slice g b.2.length f]) (Yc (l:=[_,_]) (qs:=[(0,1),(1,1)]) underlying40 zeroValue40 ⟨O,sizeOf4,O,sizeOf38,trivial⟩ O) ?_;obtain ⟨_,x,e⟩:=bZ e;replace d:=((d.grow A).grow p).grow l;refine Zh (Zq7 4 x (i.k0.ks d) (j.k0.ks d)) fun _ _ ⟨_,_,_,m,n,z⟩=>⟨_,m,?_⟩;refine Zs (B.gr n) fun _ o v w=>go ?_;cases e;replace d:=(d.grow n).kp o v;exact ⟨O,_,ra w.atN,_,_,_,O,d.fin (cm [(4,k)]),d.fo (z.kp o)⟩
def Qu (N:Nat) (a:R0) (b:R0):Option R0:=
  (Ut N ((b.1.1,b.1.2),b.2)).bind fun g=>(Zbi N (a.1.1,a.1.2) g).bind fun d=>(Ut N ((a.1.1,a.1.2),a.2)).bind fun i=>(Zbi N (b.1.1,b.1.2) i).bind fun e=>(Zgu N (d.1,d.2) (e.1,e.2)).bind fun f=>(Ut N ((a.1.1,a.1.2),a.2)).bind fun j=>(Ut N ((b.1.1,b.1.2),b.2)).bind fun k=>(Zbk N j k).bind fun l=>(Zcb N f.1 f.2 l).bind fun c=>some ((c.1.1,c.1.2),c.2)
theorem Zn2 {N U z S v:Nat} {T y R q:Option Addr} {col:Zg} {w:World} {p s r:R0} (c1 c2:Nat) (e:Qu N p s=some r) (M:Sl rU col w T U p.1.2) (W:Sl rU col w y z p.2) (P:Sl rU col w R S s.1.2) (X:Sl rU col w q v s.2):
    Calls prog 80 #[(.agg #[.bool p.1.1,.slice T p.1.2.length U,.slice y p.2.length z]),(.agg #[.bool s.1.1,.slice R s.1.2.length S,.slice q s.2.length v])] w (V7 119 c1 c2 col w r):=by
 refine Yb (m:=27) func80 O O O ?_;rw [Qu.eq_1] at e;have c:=St.start col w;refine go ?_;refine Xj (col:=(Zk col)) 1 O fun a _ h A m=>Xj (col:=h) 2 O fun l _ G F n=>Xc (col:=G) #[.bool false,(nI),(nI)] 3 zeroValue42 fun _ g f x h=>go ?_;have V:=Zu.clip (fun _=>false) f g;refine Zbz (col:=f) [(0,1),(1,0),(2,0),(5,1),(6,0),(7,0),(3,3),(4,3),(8,3),(9,3),(10,3),(11,4),(12,2)] (by kernel_rfl) (by kernel_rfl) ⟨fun d=>absurd d (by decide),fun d=>absurd d (by decide),fun d=>absurd d (by decide),fun d=>absurd d (by decide),fun d=>absurd d (by decide),fun d=>absurd d (by decide),fun d=>absurd d (by decide),fun d=>absurd d (by decide),fun d=>absurd d (by decide),fun d=>absurd d (by decide),fun d=>absurd d (by decide),fun _=>⟨_,_,_,O,V5 zeroValue40⟩,fun d=>absurd d (by decide),trivial⟩<|X3 (v:=(.pointer ((some (⟨a,0,none⟩:Addr)).map (·.add 0)))) O O (fun _=>Un (sz:=2) (off:=0) underlying42 O sizeOf40 (by decide) O O ⟨_,_,O⟩) ?_;replace m:=((m.gr F).gr x).kpp V;refine Wa (v:=(.agg #[.bool p.1.1,.slice T p.1.2.length U])) O O (fun _ b=>Xi isAgg40 sizeOf40 O O (((m.atN).part 0 2 _ O).gr (b.bl (Zd g f)))) ?_;replace n:=(n.gr x).kpp V;refine Wa (v:=(.agg #[.bool s.1.1,.slice R s.1.2.length S,.slice q s.2.length v])) O O (fun _ b=>Xi isAgg42 sizeOf42 O O (n.atN.gr (b.bl (Zd g f)))) ?_;refine X3 (v:=(.pointer ((some (⟨l,0,none⟩:Addr)).map (·.add 0)))) O O (fun _=>Un (sz:=2) (off:=0) underlying42 O sizeOf40 (by decide) O O ⟨_,_,O⟩) ?_;refine Wa (v:=(.agg #[.bool s.1.1,.slice R s.1.2.length S])) O O (fun _ b=>Xi isAgg40 sizeOf40 O O (((n.atN).part 0 2 _ O).gr (b.bl (Zd g f)))) ?_;refine Wa (v:=(.agg #[.bool p.1.1,.slice T p.1.2.length U,.slice y p.2.length z])) O O (fun _ b=>Xi isAgg42 sizeOf42 O O (m.atN.gr (b.bl (Zd g f)))) ?_;refine Y6 O O ?_;intro _ a;have b:=a.bl (Zd g f);obtain ⟨_,Y,e⟩:=bZ e;replace P:=P.k0;replace X:=X.k0;replace c:=((((c.grow A).grow F).grow x).kpp V).grow b;refine Zh (Sj 4 Y (P.ks c) (X.ks c)) fun _ F ⟨L,_,_,g,i,w⟩=>⟨_,g,?_⟩
 refine Zj ?_;refine ⟨fun l=>Zl (Zd F L) F (Zd F L) l,fun j=>(Zd F L) j=497,Zl.refl _ _,Y3,fun _=>⟨fun _ d=>Wt a i d,fun H q=>i.below.block H q,fun j o f=>Wy i j o (by first | exact f | (simp only [Xg,f];rfl) | (simp only [Xg,Xq,f];rfl))⟩,?_⟩;have A:=Zu.clip (fun _=>false) L F;refine Y6 O O ?_;intro v a;replace h:=(((h.kpp V).gr b).gr i).kpp A;replace m:=((m.gr b).gr i).kpp A;replace n:=((n.gr b).gr i).kpp A;have b:=a.bl (Zd F L);obtain ⟨_,T,e⟩:=bZ e;replace M:=M.k0;replace c:=((c.grow i).kpp A).grow b;refine Zh (Zhk 5 T ((M.ks c).froz 4) (((w.kpp A).gr b).toSlF (Ze.int .u32))) fun _ u ⟨i,_,_,g,y,k⟩=>⟨_,g,?_⟩;replace W:=W.k0;replace k:=k.thaw (Zt .u32) y ((Fz.refl (col:=(Zd F L))).froz 4);replace y:=y.thawR (col:=(Zd F L));generalize Z2 v.heap.size (Zd F L) i=B at *;refine Zj ?_;refine ⟨fun l=>Zl (Zd u B) u (Zd u B) l,fun j=>(Zd u B) j=497,Zl.refl _ _,Y3,fun _=>⟨fun _ d=>Wt a y d,fun H q=>y.below.block H q,fun j o f=>Wy y j o (by first | exact f | (simp only [Xg,f];rfl) | (simp only [Xg,Xq,f];rfl))⟩,?_⟩;have C:=Zu.clip (fun _=>false) B u;refine Y6 O O ?_;intro _ a;replace m:=((m.gr b).gr y).kpp C;replace n:=((n.gr b).gr y).kpp C;replace h:=((h.gr b).gr y).kpp C;have b:=a.bl (Zd u B);obtain ⟨_,R,e⟩:=bZ e;replace c:=((c.grow y).kpp C).grow b;refine Zh (Sj 6 R (M.ks c) (W.ks c)) fun _ E ⟨K,_,_,g,I,x⟩=>⟨_,g,?_⟩;refine Zj ?_;refine ⟨fun l=>Zl (Zd E K) E (Zd E K) l,fun j=>(Zd E K) j=497,Zl.refl _ _,Y3,fun _=>⟨fun _ d=>Wt a I d,fun H q=>I.below.block H q,fun j o f=>Wy I j o (by first | exact f | (simp only [Xg,f];rfl) | (simp only [Xg,Xq,f];rfl))⟩,?_⟩;have t:=Zu.clip (fun _=>false) K E;refine Y6 O O ?_;intro u a;replace k:=(((k.kpp C).gr b).gr I).kpp t;replace m:=((m.gr b).gr I).kpp t;replace n:=((n.gr b).gr I).kpp t;replace h:=((h.gr b).gr I).kpp t;have b:=a.bl (Zd E K)
 obtain ⟨_,S,e⟩:=bZ e;replace c:=((c.grow I).kpp t).grow b;refine Zh (Zhk 7 S ((P.ks c).froz 6) (((x.kpp t).gr b).toSlF (Ze.int .u32))) fun _ G ⟨Z,_,_,g,x,I⟩=>⟨_,g,?_⟩;replace I:=I.thaw (Zt .u32) x ((Fz.refl (col:=(Zd E K))).froz 6);replace x:=x.thawR (col:=(Zd E K));generalize Z2 u.heap.size (Zd E K) Z=J at *;refine Zj ?_;refine ⟨fun l=>Zl (Zd G J) G (Zd G J) l,fun j=>(Zd G J) j=497,Zl.refl _ _,Y3,fun _=>⟨fun _ d=>Wt a x d,fun H q=>x.below.block H q,fun j o f=>Wy x j o (by first | exact f | (simp only [Xg,f];rfl) | (simp only [Xg,Xq,f];rfl))⟩,?_⟩;have w:=Zu.clip (fun _=>false) J G;refine Y6 O O ?_;intro t a;replace k:=((k.gr b).gr x).kpp w;replace m:=((m.gr b).gr x).kpp w;replace n:=((n.gr b).gr x).kpp w;replace h:=((h.gr b).gr x).kpp w;have b:=a.bl (Zd G J);obtain ⟨_,K,e⟩:=bZ e;refine Zh (Zvg 8 K (((k.gr b).toSlF (Ze.int .u32)).froz 7) ((((I.kpp w).gr b).froz 5).toSlF (Ze.int .u32))) fun _ i ⟨k,_,_,g,z,v⟩=>⟨_,g,?_⟩;replace v:=v.thaw (Zt .u32) z (((Fz.refl (col:=(Zd G J))).froz 5).froz 7);replace z:=z.thawR (col:=(Zd G J));generalize Z2 t.heap.size (Zd G J) k=k at *;refine Zj ?_;refine ⟨fun l=>Zl (Zd i k) i (Zd i k) l,fun j=>(Zd i k) j=497,Zl.refl _ _,Y3,fun _=>⟨fun _ d=>Wt a z d,fun H q=>z.below.block H q,fun j o f=>Wy z j o (by first | exact f | (simp only [Xg,f];rfl) | (simp only [Xg,Xq,f];rfl))⟩,?_⟩;have E:=Zu.clip (fun _=>false) k i;refine Zaw O O (V5 zeroValue40) fun u f=>Y6 O O ?_;intro q ⟨a,hZ0⟩;replace c:=((((c.grow x).kpp w).grow b).grow z).kpp E;replace m:=((m.gr b).gr z).kpp E;replace n:=((n.gr b).gr z).kpp E;replace h:=((h.gr b).gr z).kpp E;have b:=a.bl (Zd i k);obtain ⟨D,o⟩:=Q7 (col:=(Zd i k)) 9 hZ0 f;replace o:Zi 40 9 (Zx u 9 (Zd i k)) q u #[.bool false,(nI)]:=o;refine Zs o ?_
 intro t A o Q;refine Zj ?_;refine ⟨fun l=>Zl (Zd t (Zx u 9 (Zd i k))) t (Zd t (Zx u 9 (Zd i k))) l,fun j=>(Zd t (Zx u 9 (Zd i k))) j=497,Zl.refl _ _,Y3,fun d=>absurd d (by decide),?_⟩;have j:=Zu.clip (fun _=>false) (Zx u 9 (Zd i k)) t;refine Zb1 ?_;replace v:=((((v.kpp E).gr b).kpp D).kp A).kpp j;replace m:=(((m.gr b).kpp D).kp A).kpp j;replace n:=(((n.gr b).kpp D).kp A).kpp j;replace h:=(((h.gr b).kpp D).kp A).kpp j;replace c:=(((c.grow b).kpp D).kp A o).kpp j;intro D b;replace b:Zl (Zd t (Zx u 9 (Zd i k))) t (Zd t (Zx u 9 (Zd i k))) D:=.of_below b.below;refine Zw<|Ym (col:=(Zd t (Zx u 9 (Zd i k)))) [(0,1),(1,0),(2,1),(3,0),(4,0),(6,0),(5,3),(7,3),(8,3),(9,3),(10,2)] (by kernel_rfl) (by kernel_rfl)<|xF ⟨_,_,O⟩ ?_;replace Q:=(Q.kpp j).gr b;refine xW (fun _ b=>((Q.atN).nth (q:=0) O).gr (b.bl (Zd t (Zx u 9 (Zd i k))))) ?_;refine xF ⟨_,_,O⟩ ?_;refine xW (fun _ b=>((Q.atN).nth (q:=1) O).gr (b.bl (Zd t (Zx u 9 (Zd i k))))) ?_;replace m:=m.gr b;refine xv O O (fun _ b=>Zz isAgg42 sizeOf42 (m.gr (b.bl (Zd t (Zx u 9 (Zd i k)))))) ?_;replace n:=n.gr b;refine xv O O (fun _ b=>Zz isAgg42 sizeOf42 (n.gr (b.bl (Zd t (Zx u 9 (Zd i k)))))) ?_;refine xe O O ?_;intro V a;replace v:=v.gr b;replace h:=h.gr b;replace c:=c.grow b;have b:Zl (Zd t (Zx u 9 (Zd i k))) D (Zd t (Zx u 9 (Zd i k))) V:=.of_below a.below;obtain ⟨_,L,e⟩:=bZ e;replace c:=c.grow b;refine Zh (Sj 10 L (M.ks c) (W.ks c)) fun _ _ ⟨n,_,_,g,M,m⟩=>⟨_,g,?_⟩;refine Zj<|Xb n a M<|xe O O ?_;intro _ a;replace v:=(v.gr b).gr M;replace h:=(h.gr b).gr M;have b:=a.bl n;obtain ⟨_,Q,e⟩:=bZ e;replace c:=(c.grow M).grow b;refine Zh (Sj 11 Q (P.ks c) (X.ks c)) fun _ _ ⟨B,_,_,g,C,d⟩=>⟨_,g,?_⟩;refine Zj<|Xb B a C<|xe O O ?_;intro j a;replace v:=(v.gr b).gr C;replace m:=(m.gr b).gr C;replace h:=(h.gr b).gr C;have b:=a.bl B
 obtain ⟨_,H,e⟩:=bZ e;refine Zh (Zky 12 H (((m.gr b).toSlF (Ze.int .u32)).froz 11) (((d.gr b).froz 10).toSlF (Ze.int .u32))) fun _ _ ⟨W,_,_,g,Y,l⟩=>⟨_,g,?_⟩;replace l:=l.thaw (Zt .u32) Y (((Fz.refl (col:=B)).froz 10).froz 11);replace Y:=Y.thawR (col:=B);generalize Z2 j.heap.size B W=d at *;refine Zj<|Xb d a Y<|xe O O ?_;intro m a;replace c:=((c.grow C).grow b).grow Y;replace v:=(v.gr b).gr Y;replace h:=(h.gr b).gr Y;have b:=a.bl d;obtain ⟨_,J,e⟩:=bZ e;refine Zh (Zkw 13 14 J (((v.gr b).toSlF (Ze.int .u32)).froz 12) (((l.gr b).froz 8).toSlF (Ze.int .u32))) fun _ _ ⟨X,_,_,_,_,g,Z,bl,b1⟩=>⟨_,g,?_⟩;replace bl:=bl.thaw (Zt .u32) Z (((Fz.refl (col:=d)).froz 8).froz 12);replace b1:=b1.thaw (Zt .u32) Z (((Fz.refl (col:=d)).froz 8).froz 12);replace Z:=Z.thawR (col:=d);generalize Z2 m.heap.size d X=P at *;refine Zj<|Xb P a Z<|xe O O ?_;intro _ a;replace h:=(h.gr b).gr Z;replace c:=(c.grow b).grow Z;have b:=a.bl P;refine Zs (h.gr b) fun _ a U a2=>Zj<|xk P<|Yf ?_;replace bl:=(bl.gr b).kp a;replace b1:=(b1.gr b).kp a;replace c:=(c.grow b).kp a U;intro _ b;replace b:=b.bl P;refine Y5 ?_;cases e;replace c:=c.grow b;exact ⟨O,_,ra (a2.gr b).atN,_,_,_,_,_,O,c.fin (cm [(13,c1),(14,c2)]),c.fo (bl.gr b),c.fo (b1.gr b)⟩

end Go.Proofs.YtpkknichfgooaaaGreat
