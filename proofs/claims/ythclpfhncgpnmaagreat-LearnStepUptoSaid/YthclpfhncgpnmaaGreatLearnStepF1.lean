/-
  What functions of the program compute, as plain Lean functions (m_..), and proofs that they compute it (c_..). Printed by a program of the author; no conditions.
-/
import Derived.Test.YthclpfhncgpnmaaGreatLearnStepBFloat
import Derived.Test.YthclpfhncgpnmaaGreatProg
import Derived.Test.YthclpfhncgpnmaaGreatLearnStepBBrief
import Derived.Test.YthclpfhncgpnmaaGreatLearnStepBPiece
set_option linter.unusedVariables false
set_option maxRecDepth 100000
set_option maxHeartbeats 2000000
namespace Go.Proofs.YthclpfhncgpnmaaGreat
open Go Go.RowKit
open List renaming getElem?_eq_getElem→aL,mem_cons_self→aO,mem_cons_of_mem→aN,nil_append→bF,cons_append→cK,replicate→aD,take_append_drop→cT,drop_eq_getElem_cons→aF,drop_eq_nil_of_le→aG,getElem_cons_zero→iT,set_cons_zero→eA,length_take_of_le→dC,drop_eq_nil_iff→aJ,eq_nil_of_length_eq_zero→cS,length_pos_iff→cD,drop_zero→aM,getD_eq_getElem?_getD→aE,getElem?_eq_none→cG,length_replicate→aS,drop_drop→dK,drop_replicate→gQ,getElem_set_self→iU,drop_length→fR,length_drop→bH,getElem_append_right→fK
open Nat renaming pow_succ→bG,mul_le_mul_right→bD,strongRecOn→hY,pow_pos→fI,sub_self→eX,pow_zero→dU,one_mul→aV,min_eq_left→aZ,lt_of_lt_of_le→aI,mul_le_mul_left→aY,le_refl→aX,add_comm→fO,mul_zero→dV,add_zero→bR,add_assoc→dZ,zero_add→cC,two_pow_pos→bY,log2_eq_iff→jZ,pow_le_pow_right→gM,lt_of_le_of_lt→eM,pow_add→dH,le_div_iff_mul_le→gE,div_lt_iff_lt_mul→dQ,mul_add→dW,mod_eq_of_lt→eS,two_pow_add_eq_or_of_lt→iC,add_mul_mod_self_left→iM,add_mul_div_left→gR,div_eq_of_lt→fA,mul_lt_mul_of_pos_right→iD,mul_comm→bS,mul_mod_mul_left→jD,mod_lt→eT,lt_of_mul_lt_mul_left→fF,mul_le_mul→gX,le_of_lt→kO,add_mul→bB,div_add_mod→kA,div_le_self→cJ,div_div_eq_div_mul→gG,eq_zero_or_pos→fL,lt_trans→kP,mul_assoc→bT,gcd→cX,gcd_comm→fE,mul_lt_mul''→jV,le_max_left→eB,le_max_right→dO,le_trans→aT,add_le_add→kH
open Int renaming fdiv_eq_ediv_of_nonneg→iI,toNat→aA,toNat_of_nonneg→bM,toNat_natCast→aC,mul_le_mul→kF,mul_nonneg→kG,natCast_mul→bN,toNat_zero→fD,tdiv→aR,tmod→bK,natCast_emod→jU,tdiv_eq_ediv_of_nonneg→bV,tmod_eq_emod_of_nonneg→cH,natCast_ediv→iE,natCast_nonneg→fJ,ofNat_lt→gF,natAbs_zero→kB,natAbs_mul→fM,natAbs_natCast→eH
open Option renaming getD_some→dG
open Rat renaming num_mkRat→kK,den_mkRat→kL,natCast_pos→kC,mkRat_eq_div→cM,mul_assoc→bP,intCast_mul→iN,lt_irrefl→cZ
open Go.IntKind (i8 i16 i32 i64 u8 u16 u32 u64)
open Go.Proofs.Tryz
abbrev Rq (y:ByteArray × List ByteArray × List (List ByteArray) × List (List Int) × List (List ((Bool × List Int) × List Int))) (a:Option Addr) (b:Nat) (c:Option Addr) (d:Nat) (e:Option Addr) (f:Nat) (g:Option Addr) (h:Nat):Array Value:=#[.string y.1,.slice a y.2.1.length b,.slice c y.2.2.1.length d,.slice e y.2.2.2.1.length f,.slice g y.2.2.2.2.length h]
theorem Rr {w w' : World} (col : Ze) (h : Below w.heap.size w w') : Zj col w col w' := .of_below h
theorem Rs {v u : Value} (h : v.cells = #[u]) (h1 : u.oneCell' = true) : ∀ x ∈ v.cells.toList, x.oneCell' = true := by rw [h]; intro x hx; rw [List.mem_singleton.1 hx]; exact h1
abbrev R3:=List ByteArray
abbrev Rb:=List R3
abbrev R2:=List Int
abbrev R6:=List R2
abbrev R5:=Bool×List Int
abbrev R1:=R5×List Int
abbrev R4:=List R1
abbrev R9:=List R4
abbrev R0:=ByteArray×List ByteArray×Rb×R6×R9
abbrev R7:=Nat×List Int
abbrev R8:=Int×List Int
abbrev Ra:=List Int×List Int×Int
abbrev Rc:=Int×Int
abbrev Rd:=R1×List Int
abbrev Re:=List Int×Bool
abbrev Rf:=List Int×Int
abbrev Rg:=List R7
theorem oB {α β:Type} {a:α} {f:α→Option β}:(some a).bind f=f a:=rfl
theorem dT {p:Prop} [i:Decidable p] (h:p):decide p=true:=decide_eq_true h
theorem dF {p:Prop} [i:Decidable p] (h:¬p):¬(decide p=true):=fun q=>h (of_decide_eq_true q)
theorem nA {α:Type _} {a b:List α}:(a++b).length=a.length+b.length:=List.length_append
theorem nC {α:Type _} {a:α} {b:List α}:(a :: b).length=b.length+1:=rfl
theorem nS {α:Type _} {a:List α} {i:Nat} {b:α}:(a.set i b).length=a.length:=List.length_set
theorem nK {α:Type _} {i:Nat} {a:List α}:(a.take i).length=min i a.length:=List.length_take
theorem nN {α:Type _}:([]:List α).length=0:=rfl
theorem Sl.k0 {α:Type} {r:Za α} {col:Ze} {w:World} {a:Option Addr} {c:Nat} {xs:List α} (h:Sl r col w a c xs):Sl r (Zh col) w a c xs:=h.keep (X5.start col w)
abbrev rU:Za Int:=Za.int .u32
abbrev rI:Za Int:=Za.int .i64
abbrev nI:Value:=.slice none (([]:List Int).length) 0
abbrev rQ:Za R1:=Za.pair (Za.pair Za.bool (Za.slice rU)) (Za.slice rU)
abbrev rO (t:Nat):Za R1:=Za.pair (Za.pair Za.bool (Za.row t rU)) (Za.row t rU)
abbrev rV:Za R3:=Za.slice Za.str
abbrev rP:Za R2:=Za.slice rI
abbrev Vk (w0:World) (r:Bool):Ending→World→Prop:=fun e w'=>e= .returned (.bool r)∧Below w0.heap.size w0 w'
abbrev Wn (w0:World) (r:Int):Ending→World→Prop:=fun e w'=>e= .returned (.int .i64 r)∧Below w0.heap.size w0 w'
abbrev Vr (k:IntKind) (t c1:Nat) (col:Ze) (w0:World) (r:List Int):Ending→World→Prop:=fun e w'=>∃ (col':Ze) (ra1:Option Addr) (rc2:Nat),e= .returned ((.slice ra1 r.length rc2))∧Zj col w0 col' w'∧Zb (Za.int k) t c1 col' w' ra1 rc2 r
abbrev S6 (t c1:Nat) (col:Ze) (w0:World) (r:Bool×List Int):Ending→World→Prop:=fun e w'=>∃ (col':Ze) (ra1:Option Addr) (rc2:Nat),e= .returned ((.agg #[.bool r.1,.slice ra1 r.2.length rc2]))∧Zj col w0 col' w'∧Zb (Za.int .u32) t c1 col' w' ra1 rc2 r.2
abbrev Sm (t c1 c2:Nat) (col:Ze) (w0:World) (r:R5×List Int):Ending→World→Prop:=fun e w'=>∃ (col':Ze) (ra1:Option Addr) (rc2:Nat) (ra4:Option Addr) (rc5:Nat),e= .returned ((.agg #[.bool r.1.1,.slice ra1 r.1.2.length rc2,.slice ra4 r.2.length rc5]))∧Zj col w0 col' w'∧Zb (Za.int .u32) t c1 col' w' ra1 rc2 r.1.2∧Zb (Za.int .u32) t c2 col' w' ra4 rc5 r.2
abbrev Zfr (t c1 c2:Nat) (col:Ze) (w0:World) (r:R1×Int):Ending→World→Prop:=fun e w'=>∃ (col':Ze) (ra1:Option Addr) (rc2:Nat) (ra4:Option Addr) (rc5:Nat),e= .returned (.tuple #[(.agg #[.bool r.1.1.1,.slice ra1 r.1.1.2.length rc2,.slice ra4 r.1.2.length rc5]),.int .i64 r.2])∧Zj col w0 col' w'∧Zb (Za.int .u32) t c1 col' w' ra1 rc2 r.1.1.2∧Zb (Za.int .u32) t c2 col' w' ra4 rc5 r.1.2

theorem Zv {x:Int} (h:-9223372036854775808≤x∧x≤9223372036854775807):i64.wrap x=x:=by rw [IntKind.wrap_i64];omega
theorem Z7 {α:Type} {c:Prop} [Decidable c] {x:Option α} (h:c):Z2 c x=x:=if_pos h
theorem Zs {α:Type} {xs:List α} {k:Nat} (h:k<xs.length):Zk xs (k:Int)=some xs[k]:=by rw [Zcf];exact aL h
theorem wS {k:Nat} (h:k<9223372036854775807):i64.wrap ((k:Int)+1)=((k+1:Nat):Int):=by rw [Zv (by omega)];rfl
theorem Znk {α:Type} [DecidableEq α]:∀ {l r:List α},l.Nodup→(∀ x ∈ l,x ∈ r)→l.length≤r.length
 | [],_,_,_=>Nat.zero_le _
 | x :: l,r,h,a=>by
  have b:=List.nodup_cons.1 h
  have c:=a x aO
  have f:=Znk (r:=r.erase x) b.2 fun y d=>(List.mem_erase_of_ne (fun e=>b.1 (by rw [← e];exact d))).2 (a y (aN _ d))
  rw [List.length_erase_of_mem c] at f
  have:=List.length_pos_of_mem c
  rw [nC];omega
section
variable {K V:Type} [DecidableEq K]
theorem Zh5 (p:K×V) (es:List (K×V)) (k:K):Wz (p :: es) k=if p.1=k then some p.2 else Wz es k:=by
 rw [Wz,List.find?_cons]
 by_cases h:p.1=k
 ·rw [if_pos h,decide_eq_true h];rfl
 ·rw [if_neg h,decide_eq_false h];rfl
theorem Z9n (es:List (K×V)) (k k':K) (v:V) (h:Wz es k=none):Wz (es++[(k,v)]) k'=if k'=k then some v else Wz es k':=by
 induction es with
 | nil=>
  rw [bF,Zh5]
  by_cases hk:k=k'
  ·subst hk;simp
  ·rw [if_neg hk,if_neg (Ne.symm hk)]
 | cons p es a=>
  rw [Zh5] at h
  split at h
  ·cases h
  ·rename_i b
   rw [cK,Zh5,Zh5,a h]
   by_cases h1:p.1=k'
   ·rw [if_pos h1,if_pos h1,if_neg (fun e=>b (h1.trans e))]
   ·rw [if_neg h1,if_neg h1]
theorem Z9o (es:List (K×V)) (k k':K) (v:V):Wz (es.map fun p=>if p.1=k then (k,v) else p) k'=if k'=k then (Wz es k).map fun _=>v else Wz es k':=by
 induction es with
 | nil=>simp [Wz]
 | cons p es a=>
  rw [List.map_cons,Zh5,Zh5,Zh5,a]
  by_cases h1:p.1=k
  ·rw [if_pos h1,if_pos h1]
   by_cases h2:k'=k
   ·subst h2;rw [if_pos rfl,if_pos rfl];rfl
   ·rw [if_neg (Ne.symm h2),if_neg h2,if_neg h2,if_neg (fun e=>h2 (e.symm.trans h1))]
  ·rw [if_neg h1,if_neg h1]
   by_cases h3:p.1=k'
   ·rw [if_pos h3,if_pos h3,if_neg (fun e=>h1 (h3.trans e))]
   ·rw [if_neg h3,if_neg h3]
theorem Zyt (es:List (K×V)) (k k':K) (v:V):Wz (Q4 es k v) k'=if k'=k then some v else Wz es k':=by
 rw [Q4]
 by_cases h:(Wz es k).isSome=true
 ·rw [if_pos h,Z9o]
  obtain ⟨u,a⟩:=Option.isSome_iff_exists.1 h
  rw [a];rfl
 ·rw [if_neg h]
  exact Z9n es k k' v (by simpa using h)
end
def Zc:List Int→Nat
 | []=>0
 | x :: l=>x.toNat+4294967296 * Zc l
def Zp (l:List Int):Prop:=∀ x ∈ l,0≤x∧x<4294967296
def Zf (n:Nat):List Int:=if n=0 then [] else ((n % 4294967296:Nat):Int) :: Zf (n / 4294967296)
termination_by n
decreasing_by omega
theorem Zp.nil:Zp []:=by simp [Zp]
theorem Zp.cons {x:Int} {l:List Int} (h:0≤x∧x<4294967296) (hl:Zp l):Zp (x :: l):=fun y a=>by
 rcases List.mem_cons.1 a with rfl | a
 ·exact h
 ·exact hl y a
theorem Zp.head {x:Int} {l:List Int} (h:Zp (x :: l)):0≤x∧x<4294967296:=h x aO
theorem Zp.tail {x:Int} {l:List Int} (h:Zp (x :: l)):Zp l:=fun y a=>h y (aN _ a)
theorem Zp.app {a b:List Int} (ha:Zp a) (hb:Zp b):Zp (a++b):=fun y c=>by
 rcases List.mem_append.1 c with h | h
 ·exact ha y h
 ·exact hb y h
theorem Zp.take {a:List Int} (h:Zp a) (k:Nat):Zp (a.take k):=fun y b=>h y (List.mem_of_mem_take b)
theorem Zp.drop {a:List Int} (h:Zp a) (k:Nat):Zp (a.drop k):=fun y b=>h y (List.mem_of_mem_drop b)
theorem Zp.zeros (k:Nat):Zp (aD k 0):=fun y a=>by
 rw [List.eq_of_mem_replicate a];decide
theorem Zp.set {a:List Int} (h:Zp a) (k:Nat) {v:Int} (hv:0≤v∧v<4294967296):Zp (a.set k v):=fun y b=>by
 rcases List.mem_or_eq_of_mem_set b with c | rfl
 ·exact h y c
 ·exact hv
theorem Zp.get {a:List Int} (h:Zp a) {k:Nat} (hk:k<a.length):0≤a[k]∧a[k]<4294967296:=h _ (List.getElem_mem hk)
theorem Y0:Zc []=0:=rfl
theorem Wi (x:Int) (l:List Int):Zc (x :: l)=x.toNat+4294967296 * Zc l:=rfl
theorem Q5 (a b:List Int):Zc (a++b)=Zc a+4294967296 ^ a.length * Zc b:=by
 induction a with
 | nil=>simp [Zc]
 | cons x a c=>
  rw [cK,Wi,Wi,c,nC,bG]
  grind
theorem Sj (k:Nat):Zc (aD k 0)=0:=by
 induction k with
 | zero=>rfl
 | succ k a=>rw [List.replicate_succ,Wi,a];rfl
theorem Q6 {l:List Int} (h:Zp l):Zc l<4294967296 ^ l.length:=by
 induction l with
 | nil=>simp [Zc]
 | cons x l a=>
  have c:=h.head
  have b:=a h.tail
  rw [Wi,nC,bG]
  have d:(Zc l+1) * 4294967296≤4294967296 ^ l.length * 4294967296:=bD _ b
  omega
theorem Xb (n:Nat):Zc (Zf n)=n:=by
 induction n using hY with
 | ind n a=>
  rw [Zf]
  split
  ·rename_i h;rw [h];rfl
  ·rename_i h
   rw [Wi,a (n / 4294967296) (by omega)]
   omega
theorem Vh:Zf 0=[]:=by rw [Zf,if_pos rfl]
theorem Zge {n:Nat} (h:n≠0):Zf n=((n % 4294967296:Nat):Int) :: Zf (n / 4294967296):=by rw [Zf,if_neg h]
theorem Sd:Zf 1=[1]:=by rw [Zge (by decide)];simp [Vh]
theorem Xd (n:Nat):Zp (Zf n):=by
 induction n using hY with
 | ind n a=>
  rw [Zf]
  split
  ·exact .nil
  ·exact .cons (by omega) (a (n / 4294967296) (by omega))
theorem Vc {k n:Nat}:(Zf n).length≤k↔n<4294967296 ^ k:=by
 induction k generalizing n with
 | zero=>
  by_cases h:n=0
  ·subst h;simp [Vh]
  ·rw [Zge h];simp;omega
 | succ k a=>
  by_cases h:n=0
  ·subst h;simp [Vh];exact fI (by decide)
  ·rw [Zge h,nC,Nat.add_le_add_iff_right,a,bG]
   omega
theorem Yr {l:List Int} (h:Zp l):(Zf (Zc l)).length≤l.length:=Vc.2 (Q6 h)
theorem Zi1 {n:Nat}:Zf n=[]↔n=0:=by
 by_cases h:n=0
 ·subst h;simp [Vh]
 ·rw [Zge h];simp [h]
theorem Zyh {x:Int} {l:List Int} (h:0≤x∧x<4294967296) (h0:x=0→Zc l≠0):Zf (Zc (x :: l))=x :: Zf (Zc l):=by
 have a:Zc (x :: l)≠0:=by
  rw [Wi]
  by_cases hx:x=0
  ·have:=h0 hx;omega
  ·omega
 rw [Zge a,Wi]
 congr 1
 ·omega
 ·congr 1;omega
theorem Z98 {a:List Int} {x:Int} (h:0<x):Zc (a++[x])≠0:=by
 rw [Q5,Wi,Y0]
 have:0<4294967296 ^ a.length * (x.toNat+4294967296 * 0):=Nat.mul_pos (fI (by decide)) (by omega)
 omega
theorem Z9h {a:List Int} {x:Int} (h:Zp (a++[x])) (hx:x≠0):Zf (Zc (a++[x]))=a++[x]:=by
 induction a with
 | nil=>
  have:=h.head
  rw [bF,Zyh this (fun e=>absurd e hx),Y0,Vh]
 | cons y a b=>
  have c:0≤x∧x<4294967296:=h x (by simp)
  rw [cK,Zyh h.head fun _=>Z98 (by omega),b h.tail]
theorem Zze (a:List Int):Zc (a++[0])=Zc a:=by rw [Q5];simp [Zc]
theorem Zi0 {l:List Int} (h:0<l.length):l.take (l.length - 1)++[l[l.length - 1]]=l:=by
 have:=cT (l.length - 1) l
 rw [aF (by omega),aG (by omega)] at this
 exact this
theorem Zpa {n:Nat} (h:0<(Zf n).length):(Zf n)[(Zf n).length - 1]≠0:=by
 induction n using hY with
 | ind n b=>
  by_cases h0:n=0
  ·subst h0;simp [Vh] at h
  ·have e:=Zge h0
   by_cases h1:n / 4294967296=0
   ·have:Zf n=[((n % 4294967296:Nat):Int)]:=by rw [e,h1,Vh]
    simp only [this,List.length_singleton,eX,iT]
    omega
   ·have c:0<(Zf (n / 4294967296)).length:=by
     rw [Zge h1];simp
    have:=b (n / 4294967296) (by omega) c
    have d:(Zf n).length - 1=(Zf (n / 4294967296)).length - 1+1:=by rw [e];simp;omega
    have a:(Zf n)[(Zf n).length - 1]?=(Zf (n / 4294967296))[(Zf (n / 4294967296)).length - 1]?:=by
     rw [d]
     conv=>lhs;rw [e]
     rw [List.getElem?_cons_succ]
    rw [aL (by omega),aL (by omega)] at a
    rw [Option.some.inj a]
    exact this
theorem Tw {l:List Int} {k:Nat} (hk:k<l.length) (v:Int):Zc (l.set k v)+4294967296 ^ k * (l[k]).toNat=Zc l+4294967296 ^ k * v.toNat:=by
 induction l generalizing k with
 | nil=>simp at hk
 | cons x l a=>
  cases k with
  | zero=>simp only [eA,Wi,iT,dU,aV];omega
  | succ k=>
   have h:=a (k:=k) (by simpa using hk)
   simp only [List.set_cons_succ,Wi,List.getElem_cons_succ,bG]
   grind
theorem Zs8 {l:List Int} {k:Nat} (hk:k<l.length):Zc (l.take (k+1))=Zc (l.take k)+4294967296 ^ k * (l[k]).toNat:=by
 rw [List.take_add_one,aL hk,Q5,Option.toList_some,Wi,Y0,nK,aZ (by omega)]
 simp
theorem Uy {l:List Int} {k:Nat} (hk:k<l.length):Zc (l.drop k)=(l[k]).toNat+4294967296 * Zc (l.drop (k+1)):=by
 rw [aF hk,Wi]
theorem Tx (l:List Int) (k:Nat):Zc l=Zc (l.take k)+4294967296 ^ k * Zc (l.drop k):=by
 by_cases h:k≤l.length
 ·conv=>lhs;rw [← cT k l]
  rw [Q5,nK,aZ h]
 ·rw [List.take_of_length_le (by omega),aG (by omega)];simp [Zc]
theorem Um {x:Int} (h:0≤x∧x<4294967296):u32.wrap x=x:=by rw [IntKind.wrap_u32];omega
theorem Xs {x:Int} (h:0≤x∧x<18446744073709551616):u64.wrap x=x:=by rw [IntKind.wrap_u64];omega
theorem Zif {x:Int}:Y2 .u64 x 32=x / 4294967296:=by
 have:(min (32:Int).toNat u64.bits)=32:=by decide
 rw [Y2,this]
 exact iI _ (by decide)
def Zc0 (a:List Int) (kk_L1:(List Int→Option R2)) (b:Bool):Option R2:=
  if b=true then (Z2 ((0:Int)≤(i64.wrap ((a.length:Int) - 1))∧(i64.wrap ((a.length:Int) - 1))≤(a.length:Int)) (kk_L1 (a.take (aA (i64.wrap ((a.length:Int) - 1)))))) else (some a)
def S4 (N:Nat):Nat→R2→Option R2
  | 0,_=>none
  | b+1,a=>if (decide (0<(a.length:Int)))=true then ((Zk a (i64.wrap ((a.length:Int) - 1))).bind fun c=>Zc0 a (S4 N b) (decide (c=0))) else (Zc0 a (S4 N b) false)
def Te (N:Nat) (a:List Int):Option R2:=
  S4 N N a
theorem Qi {N x:Nat} {o:Option Addr} {col:Ze} {c:World} {k r:R2} (a:Te N k=some r) (C:Sl rU col c o x k):
    Calls prog 159 #[.slice o k.length x] c (fun e w'=>∃ (col':Ze) (f:Option Addr) (d:Nat),e= .returned ((.slice f r.length d))∧Zj col c col' w'∧Sl rU col' w' f d r):=by
 refine Xc 2 (m:=21) func159 rfl rfl rfl rfl rfl ?_;rw [Te.eq_1] at a;have g:=St.start col c;refine go ?_;refine Zt [1000000] (fun p n v=>∃ w i j b l,l=p∧S4 N l b=some r∧St c (Zh col) w v∧Sl rU w v i j b∧[0].map n=[.slice i b.length j]) N ⟨_,_,_,_,_,rfl,a,g,(C.k0.ks g),rfl⟩ ?_;clear a;intro p n v E;obtain ⟨w,i,j,b,l,B,a,g,h,m⟩:=E;subst B;refine .lL [0] m ?_
 cases l with
 | zero=>rw [S4.eq_1] at a;cases a
 | succ l=>
  rw [S4.eq_2] at a;refine Zx<|Zx ?_;refine Wp.cutK [0,1000000] (fun n s=>∃ t u,Zc0 b (S4 N l) u=some r∧St c (Zh col) t s∧Sl rU t s i j b∧[14].map n=[.bool u]) ?_ ?_
  ·intro n s D;obtain ⟨t,u,a,g,h,m⟩:=D;rw [Zc0.eq_1] at a;refine .lL [14] m ?_;refine Zm a (fun A a=>go ?_) fun A a=>go ?_
   ·obtain ⟨z,a⟩:=Z4 a;refine lv (v:=.slice i (aA (i64.wrap ((b.length:Int) - 1))) j) rfl rfl (Zca underlying38 sizeOf45 rfl rfl z.1 (by have:=h.1.2;have:=z.2;omega))<|.ld (d:=19) (v:=(.slice i ((b.take (aA (i64.wrap ((b.length:Int) - 1)))).length) j)) (congrArg (fun p=>Value.slice i p j) (dC (show (aA (i64.wrap ((b.length:Int) - 1)))≤b.length by have:=z.2;omega)).symm) ?_;refine go ?_;exact ⟨l,by omega,rfl,⟨_,_,_,_,_,rfl,a,g,(h.take (aA (i64.wrap ((b.length:Int) - 1)))),rfl⟩⟩
   cases a;exact ⟨rfl,_,_,_,rfl,g.fin (cm []),g.fs h⟩
  refine go ?_;refine Ye a (fun y a=>go ?_) fun y a=>go ?_
  ·obtain ⟨F,q,a⟩:=bZ a;refine lI q (h.addr q) ?_;refine go ?_;refine lW (h.atInt q)<|go ?_;refine lV (.bool (decide (F=0))) (X0 (congrArg Value.bool y) rfl)<|Zl ?_;exact ⟨rfl,_,_,a,g,h,rfl⟩
  refine lV (.bool false) (X7 (congrArg Value.bool y) rfl)<|Zl ?_;exact ⟨rfl,_,_,a,g,h,rfl⟩
def Zgy (N:Nat) (b c:List Int):Nat→Int→Option Int
  | 0,_=>none
  | f+1,a=>if (decide (0≤a))=true then ((Zk b a).bind fun d=>(Zk c a).bind fun e=>if (decide (d<e))=true then (some (-1)) else (if (decide (e<d))=true then (some 1) else ((Zgy N b c f) (i64.wrap (a - 1))))) else (some 0)
def Zgx (N:Nat) (c d:List Int):Option Int:=
  (Te N c).bind fun a=>(Te N d).bind fun b=>if (!decide ((a.length:Int)=(b.length:Int)))=true then (if (decide ((a.length:Int)<(b.length:Int)))=true then (some (-1)) else (some 1)) else (Zgy N a b N (i64.wrap ((a.length:Int) - 1)))
theorem Zrz {N q s:Nat} {m p:Option Addr} {col:Ze} {g:World} {l o:R2} {r:Int} (a:Zgx N l o=some r) (y:Sl rU col g m q l) (z:Sl rU col g p s o):
    Calls prog 186 #[.slice m l.length q,.slice p o.length s] g (Wn g r):=by
 refine Xc 4 (m:=45) func186 rfl rfl rfl rfl rfl ?_;rw [Zgx.eq_1] at a;have c:=St.start col g;refine go ?_;obtain ⟨F,G,a⟩:=bZ a;refine Zi (Qi G (y.k0.ks c)) fun _ _ ⟨_,M,O,u,L,f⟩=>⟨_,u,?_⟩;refine Y3 rfl ?_;obtain ⟨E,K,a⟩:=bZ a;replace c:=c.grow L;refine Zi (Qi K (z.k0.ks c)) ?_;rintro _ H ⟨I,C,D,rfl,v,h⟩;refine ⟨_,rfl,go ?_⟩;replace f:=f.gr v;replace c:=c.grow v;refine Zm a (fun d a=>go ?_) fun d a=>go ?_
 ·refine Zm a (fun d a=>go ?_) fun d a=>go ?_
  ·cases a;exact ⟨rfl,rfl,c.below⟩
  cases a;exact ⟨rfl,rfl,c.below⟩
 refine Zt [0,1,1000000] (fun A B n=>∃ e t k,k=A∧Zgy N F E k t=some r∧St g (Zh col) e n∧Sl rU e n M O F∧Sl rU e n C D E∧[5].map B=[.int .i64 t]) N ⟨_,_,_,rfl,a,c,f,h,rfl⟩ ?_;clear a;intro A B n J;obtain ⟨e,t,k,w,a,c,f,h,x⟩:=J;subst w;refine .lL [5] x ?_
 cases k with
 | zero=>rw [Zgy.eq_1] at a;cases a
 | succ k=>
  rw [Zgy.eq_2] at a;refine go ?_;refine Zm a (fun d a=>go ?_) fun d a=>go ?_
  ·refine Wg (col:=e) (by kernel_rfl) (by kernel_rfl)<|go ?_;obtain ⟨_,j,a⟩:=bZ a;refine qI j (f.addr j)<|qW (fun _ b=>(f.gr (b.bl e)).atInt j) ?_;refine go ?_;obtain ⟨_,i,a⟩:=bZ a;refine qI i (h.addr i)<|qW (fun _ b=>(h.gr (b.bl e)).atInt i) ?_;refine go ?_;refine Y1 ?_;intro _ b;replace b:=b.bl e;replace f:=f.gr b;replace h:=h.gr b;replace c:=c.grow b;refine Zm a (fun d a=>go ?_) fun d a=>go ?_
   ·cases a;exact ⟨rfl,rfl,c.below⟩
   refine Wg (col:=e) (by kernel_rfl) (by kernel_rfl)<|go ?_;refine qI j (f.addr j)<|qW (fun _ b=>(f.gr (b.bl e)).atInt j) ?_;refine go ?_;refine qI i (h.addr i)<|qW (fun _ b=>(h.gr (b.bl e)).atInt i) ?_;refine go ?_;refine Y1 ?_;intro _ b;replace b:=b.bl e;replace c:=c.grow b;refine Zm a (fun d a=>go ?_) fun d a=>go ?_
   ·cases a;exact ⟨rfl,rfl,c.below⟩
   exact ⟨k,by omega,rfl,⟨_,_,_,rfl,a,c,f.gr b,h.gr b,rfl⟩⟩
  cases a;exact ⟨rfl,rfl,c.below⟩
theorem Z8c:Wt prog 45 1 4:=⟨Tryz.t45,_,rfl,rfl,rfl,rfl,rfl⟩
def Zh1 (a:List Int):Option R2:=
  Z2 ((([]:List Int).length+a.length) * 4≤140737488355328∧([]:List Int).length+a.length≤maxLen) (some (([]:List Int)++a))
theorem Zsb {f:Nat} {e:Option Addr} {col:Ze} {d:World} {c r:R2} (i:Nat) (a:Zh1 c=some r) (b:Sl rU col d e f c):
    Calls prog 187 #[.slice e c.length f] d (Vr .u32 45 i col d r):=by
 refine Xc 2 (m:=8) func187 rfl rfl rfl rfl rfl ?_;rw [Zh1.eq_1] at a;have g:=St.start col d;refine go ?_;replace b:=b.k0;rcases Zs5 b with h | h
 ·replace a:some ([]:List Int)=some r:=by have b:=h.2;subst b;simpa [Z2,maxLen] using a
  refine lv (v:=.bool e.isNone) rfl rfl (Zlb underlying38 rfl)<|.ld (d:=4) (v:=.bool true) (congrArg Value.bool h.1)<|Zl<|Yn rfl<|go ?_;cases a;exact ⟨rfl,_,none,0,rfl,g.fin (cm []),Zb.nil⟩
 refine lv (v:=.bool e.isNone) rfl rfl (Zlb underlying38 rfl)<|.ld (d:=4) (v:=.bool false) (congrArg Value.bool h)<|Zl<|Ym rfl<|go ?_;refine Zsx (col:=(Zh col)) (r:=rU) 1 rfl underlying38 Z8c rfl fun _ _ _ j l=>Y3 rfl ?_;obtain ⟨k,a⟩:=Z4 a;refine Wy l (b.gr j).srcC k fun _ _ _ _ m n=>go ?_;cases a;replace g:=(g.grow j).kpp m;exact ⟨rfl,_,_,_,rfl,g.fin (cm [(1,i)]),g.fo n⟩
def Zpl (a:Int) (kk_L1:(List Int→Int→Int→Option R2)) (b:List Int) (c:Int):Option R2:=
  kk_L1 b c (i64.wrap (a+1))
def Zj3 (b:List Int) (a:Int) (kk_L1:(List Int→Int→Int→Option R2)) (c d:Int):Option R2:=
  (Zk b a).bind fun e=>(some (b.set (aA a) (u32.wrap (e - (u32.wrap c))))).bind fun f=>Zpl a kk_L1 f d
def Zj2 (a:List Int) (b:Int) (kk_L1:(List Int→Int→Int→Option R2)) (c:Int):Option R2:=
  (Zk a b).bind fun d=>if (decide ((u64.wrap d)<c))=true then (Zj3 a b kk_L1 c 1) else (Zj3 a b kk_L1 c 0)
def S3 (N:Nat) (c b:List Int):Nat→R2→Int→Int→Option R2
  | 0,_,_,_=>none
  | e+1,d,f,a=>if (decide (a<(c.length:Int)))=true then (if (decide (a<(b.length:Int)))=true then ((Zk b a).bind fun g=>Zj2 d a (S3 N c b e) (u64.wrap (f+(u64.wrap g)))) else (Zj2 d a (S3 N c b e) f)) else (some d)
def Zpk (N:Nat) (a b:List Int):Option R2:=
  S3 N a b N a 0 0
theorem Z5w {N i x:Nat} {d v:Option Addr} {col:Ze} {f:World} {b k r:R2} (c:Nat) (a:Zpk N b k=some r) (A:Up [c]=true) (R:Zb rU 45 c col f d i b) (p:Sl rU col f v x k):
    Calls prog 192 #[.slice d b.length i,.slice v k.length x] f (fun e w'=>∃ (col':Ze),e= .returned (.tuple #[])∧Zu (pS [c]) col f col' w'∧Zb rU 45 c col' w' d i r∧r.length=b.length):=by
 refine Zf8 (m:=40) (args:=[.slice d b.length i,.slice v k.length x]) func192 rfl rfl rfl rfl ?_;rw [Zpk.eq_1] at a;have g:=St.startL (l:=[c]) rfl col f;refine go ?_;refine Zt [1,8,1000000] (fun B m M=>∃ O h P q n,n=B∧S3 N b k n h P q=some r∧St f (Xe [c] col) O M∧Zb rU 45 440 O M d i h∧h.length=b.length∧h.length=b.length∧[0,4,9].map m=[.slice d h.length i,.int .u64 P,.int .i64 q]) N ⟨_,_,0,0,_,rfl,a,g,R.startL (Ur A 0 rfl) (Uq A 0 rfl),rfl,rfl,rfl⟩ ?_;clear a;intro B m M V;obtain ⟨O,h,P,q,n,Q,a,g,j,v,A,l⟩:=V;subst Q;refine .lL [0,4,9] l ?_;replace p:=p.keep (X5.startL [c] col f)
 cases n with
 | zero=>rw [S3.eq_1] at a;cases a
 | succ n=>
  rw [S3.eq_2] at a;refine go ?_;refine Zm a (fun o a=>?_) fun o a=>go ?_
  ·refine Xz<|Zx ?_;refine Wp.cutK [1,8,9,1000000] (fun m J=>∃ K s L,Zpl q (S3 N b k n) s L=some r∧St f (Xe [c] col) K J∧Zb rU 45 440 K J d i s∧s.length=b.length∧s.length=b.length∧[0,4].map m=[.slice d s.length i,.int .u64 L]) ?_ ?_
   ·intro m J z;obtain ⟨K,s,L,a,g,W,X,Y,l⟩:=z;rw [Zpl.eq_1] at a;refine .lL [0,4] l<|go ?_;exact ⟨n,by omega,rfl,⟨_,_,_,_,_,rfl,a,g,W,X,Y,rfl⟩⟩
   refine Zf1<|Zx<|W0<|Xk rfl<|Y6 rfl<|Zl<|Zx<|W0<|Xk rfl<|Y6 rfl<|Zl<|Zx ?_;refine Wp.cutK [0,1,5,8,9,1000000] (fun m E=>∃ G u,Zj2 h q (S3 N b k n) u=some r∧St f (Xe [c] col) G E∧Zb rU 45 440 G E d i h∧[6].map m=[.int .u64 u]) ?_ ?_
   ·intro m E z;obtain ⟨G,u,a,g,j,l⟩:=z;rw [Zj2.eq_1] at a;refine .lL [6] l<|Zx<|W0<|Y6 rfl<|Zl<|Zx ?_;refine Wp.cutK [0,1,5,6,8,9,1000000] (fun m F=>∃ H I,Zj3 h q (S3 N b k n) u I=some r∧St f (Xe [c] col) H F∧Zb rU 45 440 H F d i h∧[4].map m=[.int .u64 I]) ?_ ?_
    ·intro m F z;obtain ⟨H,I,a,g,j,l⟩:=z;rw [Zj3.eq_1] at a;refine .lL [4] l<|go ?_;obtain ⟨S,t,a⟩:=bZ a;refine lI t (j.addr t)<|lW (j.atInt t) ?_;refine go ?_;refine lI t (j.addr t) ?_;obtain ⟨w,y,a⟩:=bZ a;have y:w=h.set (aA q) (u32.wrap (S - (u32.wrap u))):=(Option.some.inj y).symm;refine Wb (x1:=u32.wrap (S - (u32.wrap u))) j t ?_;intro _ Z f U;rw [← y] at U;have T:w.length=b.length:=(show h.length=w.length by rw [y,nS]).symm.trans v;refine .ld (d:=0) (v:=(.slice d w.length i)) (congrArg (fun B=>Value.slice d B i) (show h.length=w.length by rw [y,nS])) ?_;refine Zl ?_;replace g:=g.kp Z f;exact ⟨rfl,_,_,_,a,g,U,T,T,rfl⟩
    refine go ?_;obtain ⟨_,C,a⟩:=bZ a;refine lI C (j.addr C)<|lW (j.atInt C) ?_;refine go ?_;refine Zm a (fun o a=>go ?_) fun o a=>?_
    ·exact ⟨rfl,_,1,a,g,j,rfl⟩
    refine Xz ?_;exact ⟨rfl,_,0,a,g,j,rfl⟩
   refine go ?_;refine Zm a (fun o a=>go ?_) fun o a=>?_
   ·obtain ⟨_,D,a⟩:=bZ a;refine lI D ((p.ks g).addr D)<|lW ((p.ks g).atInt D) ?_;refine go ?_;exact ⟨rfl,_,_,a,g,j,rfl⟩
   refine Xz ?_;exact ⟨rfl,_,_,a,g,j,rfl⟩
  cases a;exact ⟨rfl,_,rfl,g.finL rfl (cm [(440,c)]),g.foL j,A⟩
def Td (N:Nat) (b:List Int):Option R2:=
  (Te N b).bind fun a=>if (decide ((a.length:Int)=0))=true then (some ([]:List Int)) else ((Zh1 a).bind fun c=>some c)
theorem Qh {N c:Nat} {h:Option Addr} {col:Ze} {e:World} {b r:R2} (i:Nat) (a:Td N b=some r) (m:Sl rU col e h c b):
    Calls prog 160 #[.slice h b.length c] e (Vr .u32 45 i col e r):=by
 refine Xc 2 (m:=10) func160 rfl rfl rfl rfl rfl ?_;rw [Td.eq_1] at a;have d:=St.start col e;refine go ?_;obtain ⟨_,s,a⟩:=bZ a;refine Zi (Qi s (m.k0.ks d)) ?_;rintro _ n ⟨o,p,q,rfl,f,g⟩;refine ⟨_,rfl,go ?_⟩;replace d:=d.grow f;refine Zm a (fun l a=>go ?_) fun l a=>go ?_
 ·cases a;exact ⟨rfl,_,none,0,rfl,d.fin (cm []),Zb.nil⟩
 obtain ⟨_,x,a⟩:=bZ a;refine Zi (Zsb 1 x g) ?_;rintro _ t ⟨u,v,w,rfl,j,k⟩;refine ⟨_,rfl,go ?_⟩;cases a;replace d:=d.grow j;exact ⟨rfl,_,_,_,rfl,d.fin (cm [(1,i)]),d.fo k⟩
def Zjz (N:Nat) (a b:List Int):Option Re:=
  (Zgx N a b).bind fun c=>if (decide (c<0))=true then (some (([]:List Int),false)) else ((Te N a).bind fun d=>(Zh1 d).bind fun e=>(Te N b).bind fun f=>(Zpk N e f).bind fun g=>(Td N g).bind fun i=>some (i,true))
theorem Zvg {N k l:Nat} {q s:Option Addr} {col:Ze} {m:World} {b c:R2} {r:Re} (v:Nat) (a:Zjz N b c=some r) (n:Sl rU col m q k b) (o:Sl rU col m s l c):
    Calls prog 163 #[.slice q b.length k,.slice s c.length l] m (fun e w'=>∃ (col':Ze) (j:Option Addr) (i:Nat),e= .returned (.tuple #[.slice j r.1.length i,.bool r.2])∧Zj col m col' w'∧Zb rU 45 v col' w' j i r.1):=by
 refine Zis 4 5 (m:=20) (args:=[.slice q b.length k,.slice s c.length l]) func163 rfl rfl rfl rfl rfl ?_;rw [Zjz.eq_1] at a;have h:=St.start col m;refine go ?_;obtain ⟨_,L,a⟩:=bZ a;replace n:=n.k0;replace o:=o.k0;refine Zi (Zrz L (n.ks h) (o.ks h)) fun _ _ ⟨d,w⟩=>⟨_,d,?_⟩;replace w:=Rr (Zh col) w;refine go ?_;replace h:=h.grow w;refine Zm a (fun A a=>go ?_) fun A a=>go ?_
 ·cases a;exact ⟨rfl,_,none,0,rfl,h.fin (cm []),Zb.nil⟩
 obtain ⟨_,F,a⟩:=bZ a;refine Zi (Qi F (n.ks h)) fun _ _ ⟨_,_,_,d,P,J⟩=>⟨_,d,?_⟩;obtain ⟨C,H,a⟩:=bZ a;refine Zi (Zsb 1 H J) ?_;rintro _ U ⟨V,f,g,rfl,E,p⟩;refine ⟨_,rfl,go ?_⟩;obtain ⟨_,K,a⟩:=bZ a;replace h:=(h.grow P).grow E;refine Zi (Qi K (o.ks h)) fun _ _ ⟨_,_,_,d,D,M⟩=>⟨_,d,?_⟩;obtain ⟨u,I,a⟩:=bZ a;refine Zi (Z5w 1 I rfl (p.gr D) M) fun _ R ⟨z,d,S,Q,B⟩=>⟨_,d,?_⟩;refine .ld (d:=6) (v:=(.slice f u.length g)) (congrArg (fun x=>Value.slice f x g) (show C.length=u.length from B.symm)) ?_;refine .ld (d:=14) (v:=(.slice f u.length g)) (congrArg (fun x=>Value.slice f x g) (show C.length=u.length from B.symm)) ?_;refine go ?_;obtain ⟨_,G,a⟩:=bZ a;refine Zi (Qh 2 G (Q.toSlF (Zg.int .u32))) fun _ _ ⟨O,_,_,d,t,y⟩=>⟨_,d,?_⟩;replace y:=y.thaw (Z1 .u32) t ((Fz.refl (col:=z)).froz 1);replace t:=t.thawR (col:=z);generalize Xa R.heap.size z O=T at *;refine go ?_;cases a;replace h:=((h.grow D).kpp S).grow t;exact ⟨rfl,_,_,_,rfl,h.fin (cm [(2,v)]),h.fo y⟩
def Zph (a:Nat) (kk_L1:(Nat→R2→Int→Option R2)) (b:List Int) (c:Int):Option R2:=
  kk_L1 (a+1) b c
def Zjx (a:Nat) (b:List Int) (kk_L1:(Nat→R2→Int→Option R2)) (c:Int):Option R2:=
  (Zk b (a:Int)).bind fun e=>(some (b.set (aA (a:Int)) (u32.wrap c))).bind fun d=>Zph a kk_L1 d (Y2 .u64 c 32)
def Qv (N:Nat) (c d:List Int):List Int→Nat→R2→Int→Option R2
  | [],a,b,e=>(Zk b (c.length:Int)).bind fun l=>(some (b.set (aA (c.length:Int)) (u32.wrap e))).bind fun i=>(Td N i).bind fun j=>some j
  | f :: g,a,b,e=>if (decide ((a:Int)<(d.length:Int)))=true then ((Zk d (a:Int)).bind fun k=>Zjx a b (Qv N c d g) (u64.wrap ((u64.wrap (e+(u64.wrap f)))+(u64.wrap k)))) else (Zjx a b (Qv N c d g) (u64.wrap (e+(u64.wrap f))))
def Zjw (N:Nat) (a b:List Int):Option R2:=
  Z2 ((aA (i64.wrap ((a.length:Int)+1))) * 4≤281474976710656∧(aA (i64.wrap ((a.length:Int)+1)))≤maxLen∧0≤(i64.wrap ((a.length:Int)+1))) (Qv N a b a 0 (aD (aA (i64.wrap ((a.length:Int)+1))) (0:Int)) 0)
def Zme (N:Nat) (c d:List Int):Option R2:=
  (Te N c).bind fun a=>(Te N d).bind fun b=>if (decide ((a.length:Int)<(b.length:Int)))=true then (Zjw N b a) else (Zjw N a b)
theorem Z5s {N W b:Nat} {U V:Option Addr} {col:Ze} {d:World} {R S r:R2} (z:Nat) (a:Zme N R S=some r) (k:Sl rU col d U W R) (m:Sl rU col d V b S):
    Calls prog 162 #[.slice U R.length W,.slice V S.length b] d (Vr .u32 45 z col d r):=by
 refine Xc 4 (m:=62) func162 rfl rfl rfl rfl rfl ?_;rw [Zme.eq_1] at a;have b:=St.start col d;refine go ?_;obtain ⟨_,e,a⟩:=bZ a;refine Zi (Qi e (k.k0.ks b)) fun _ _ ⟨_,_,_,l,h,V⟩=>⟨_,l,?_⟩;refine Y3 rfl ?_;obtain ⟨_,f,a⟩:=bZ a;replace b:=b.grow h;refine Zi (Qi f (m.k0.ks b)) fun _ _ ⟨_,_,_,l,T,U⟩=>⟨_,l,?_⟩;refine Zlz rfl<|Zlz rfl<|Zl<|Zx ?_;replace V:=V.gr T;replace b:=b.grow T;refine Wp.cutK [1000000] (fun i M=>∃ L u v c w x k,Zjw N c k=some r∧St d (Zh col) L M∧Sl rU L M u v c∧Sl rU L M w x k∧[0,1].map i=[.slice u c.length v,.slice w k.length x]) ?_ ?_
 ·intro i M Q;obtain ⟨L,u,v,c,w,x,k,a,b,e,f,h⟩:=Q;rw [Zjw.eq_1] at a;refine .lL [0,1] h<|go ?_;obtain ⟨g,a⟩:=Z4 a;refine Sc (col:=L) (w:=M) (r:=rU) (n:=(aA (i64.wrap ((c.length:Int)+1)))) (x0:=0) 1 rfl underlying38 Tryz.t45 rfl rfl rfl rfl rfl (congrArg (Value.int _) (bM g.2.2).symm) (congrArg (Value.int _) (bM g.2.2).symm) g.1 g.2.1 (Zcb .u32 0) fun _ _ _ j s=>go ?_;replace e:=e.gr j;replace f:=f.gr j;replace b:=b.grow j;refine Zt [0,1,24,25,1000000] (fun t i K=>∃ n m o p j P O,t=O.length∧c.drop m=O∧Qv N c k O m j P=some r∧St d (Zh col) n K∧Sl rU n K u v c∧Sl rU n K w x k∧Zb rU 45 1 n K o p j∧[26,5,6].map i=[.int .i64 m,.slice o j.length p,.int .u64 P]) c.length ⟨_,0,_,_,_,0,_,rfl,rfl,a,b,e,f,s,rfl⟩ ?_;clear a;intro t i K H;obtain ⟨n,m,o,p,j,P,O,F,y,a,b,e,f,s,h⟩:=H;subst F;refine .lL [26,5,6] h ?_
  cases O with
  | nil=>
   have F:¬ ((m:Int)<(c.length:Int)):=by have:=aJ.1 y;omega
   have g:=decide_eq_false F;rw [Qv.eq_1] at a;refine go ?_;refine Ym (congrArg Value.bool g)<|go ?_;obtain ⟨_,A,a⟩:=bZ a;refine lI A (s.addr A) ?_;obtain ⟨C,q,a⟩:=bZ a;have q:C=j.set (aA (c.length:Int)) (u32.wrap P):=(Option.some.inj q).symm;refine Wb (x1:=u32.wrap P) s A ?_;intro K L M Z;rw [← q] at Z;refine .ld (d:=5) (v:=(.slice o C.length p)) (congrArg (fun t=>Value.slice o t p) (show j.length=C.length by rw [q,nS])) ?_;refine go ?_;obtain ⟨_,G,a⟩:=bZ a;refine Zi (Qh 2 G (Z.toSlF (Zg.int .u32))) fun _ _ ⟨J,_,_,l,X,B⟩=>⟨_,l,?_⟩;replace B:=B.thaw (Z1 .u32) X ((Fz.refl (col:=n)).froz 1);replace X:=X.thawR (col:=n);generalize Xa K.heap.size n J=T at *;refine go ?_;cases a;replace b:=(b.kp L M).grow X;exact ⟨rfl,_,_,_,rfl,b.fin (cm [(2,z)]),b.fo B⟩
  | cons l E=>
   obtain ⟨D,O,P⟩:=Yt y;have F:(m:Int)<(c.length:Int):=by omega
   have g:=decide_eq_true F;rw [Qv.eq_2] at a;refine go ?_;refine Yn (congrArg Value.bool g)<|Xz<|Zx ?_;refine Wp.cutK [0,1,24,25,26,1000000] (fun i I=>∃ J n A Y B,Zph m (Qv N c k E) Y B=some r∧St d (Zh col) J I∧Sl rU J I u v c∧Sl rU J I w x k∧Zb rU 45 1 J I n A Y∧[5,6].map i=[.slice n Y.length A,.int .u64 B]) ?_ ?_
   ·intro i I Q;obtain ⟨J,n,A,Y,B,a,b,e,f,I,h⟩:=Q;rw [Zph.eq_1] at a;refine .lL [5,6] h<|go ?_;exact ⟨E.length,by simp,rfl,⟨_,_,_,_,_,_,_,rfl,O,a,b,e,f,I,(Yz (congrArg (Value.int .i64) (Yv (aI P e.1.1))) rfl)⟩⟩
   refine go ?_;refine lI D (e.addr D)<|lW (e.atInt D)<|Y6 rfl<|Y6 rfl<|Zl<|Zx<|W0<|Xk rfl<|Xk rfl<|lV (.int .u64 (u64.wrap l)) (Zns l ⟨_,underlying45⟩ underlying144 rfl)<|lV _ (S8 _ _ rfl rfl)<|Y6 rfl<|Zl<|Zx ?_;refine Wp.cutK [0,1,24,25,26,5,7,1000000] (fun i G=>∃ H q,Zjx m j (Qv N c k E) q=some r∧St d (Zh col) H G∧Sl rU H G u v c∧Sl rU H G w x k∧Zb rU 45 1 H G o p j∧[6].map i=[.int .u64 q]) ?_ ?_
   ·intro i G Q;obtain ⟨H,q,a,b,e,f,s,h⟩:=Q;rw [Zjx.eq_1] at a;refine .lL [6] h<|go ?_;obtain ⟨_,z,a⟩:=bZ a;refine lI z (s.addr z) ?_;obtain ⟨D,c,a⟩:=bZ a;have c:D=j.set (aA (m:Int)) (u32.wrap q):=(Option.some.inj c).symm;refine Wb (x1:=u32.wrap q) s z ?_;intro _ E i d;rw [← c] at d;refine .ld (d:=5) (v:=(.slice o D.length p)) (congrArg (fun t=>Value.slice o t p) (show j.length=D.length by rw [c,nS])) ?_;refine go ?_;refine lV (.int .u64 (Y2 .u64 q 32)) (Q9 q 32 rfl rfl (by decide))<|go ?_;replace e:=e.kp E;replace f:=f.kp E;replace b:=b.kp E i;exact ⟨rfl,_,_,_,_,_,a,b,e,f,d,rfl⟩
   refine go ?_;refine Zm a (fun C a=>go ?_) fun C a=>?_
   ·obtain ⟨_,y,a⟩:=bZ a;refine lI y (f.addr y)<|lW (f.atInt y) ?_;refine go ?_;exact ⟨rfl,_,_,a,b,e,f,s,rfl⟩
   refine Xz ?_;exact ⟨rfl,_,_,a,b,e,f,s,rfl⟩
 refine go ?_;refine Zm a (fun C a=>go ?_) fun C a=>?_
 ·exact ⟨rfl,_,_,_,_,_,_,_,a,b,U,V,rfl⟩
 refine Xz ?_;exact ⟨rfl,_,_,_,_,_,_,_,a,b,V,U,rfl⟩
def Zex (e:List Int) (a:Nat) (kk_L1:(Nat→R2→Option R2)) (f:Int):List Int→Nat→R2→Int→Option R2
  | [],c,b,d=>(Zk b (i64.wrap ((a:Int)+(e.length:Int)))).bind fun m=>(some (b.set (aA (i64.wrap ((a:Int)+(e.length:Int)))) (u32.wrap d))).bind fun j=>kk_L1 (a+1) j
  | g :: k,c,b,d=>(Zk b (i64.wrap ((a:Int)+(c:Int)))).bind fun i=>(some (b.set (aA (i64.wrap ((a:Int)+(c:Int)))) (u32.wrap (u64.wrap (d+(u64.wrap ((u64.wrap ((u64.wrap f) * (u64.wrap g)))+(u64.wrap i)))))))).bind fun l=>(Zex e a kk_L1 f k) (c+1) l (Y2 .u64 (u64.wrap (d+(u64.wrap ((u64.wrap ((u64.wrap f) * (u64.wrap g)))+(u64.wrap i))))) 32)
def Zby (N:Nat) (a:List Int):List Int→Nat→R2→Option R2
  | [],c,b=>(Td N b).bind fun d=>some d
  | e :: f,c,b=>Zex a c (Zby N a f) e a 0 b 0
def Zap (N:Nat) (c d:List Int):Option R2:=
  (Te N c).bind fun a=>(Te N d).bind fun b=>Z2 ((aA (i64.wrap ((a.length:Int)+(b.length:Int)))) * 4≤281474976710656∧(aA (i64.wrap ((a.length:Int)+(b.length:Int))))≤maxLen∧0≤(i64.wrap ((a.length:Int)+(b.length:Int)))) (Zby N b a 0 (aD (aA (i64.wrap ((a.length:Int)+(b.length:Int)))) (0:Int)))
theorem Zir {N b c:Nat} {X Y:Option Addr} {col:Ze} {j:World} {V W r:R2} (l:Nat) (a:Zap N V W=some r) (h:Sl rU col j X b V) (u:Sl rU col j Y c W):
    Calls prog 120 #[.slice X V.length b,.slice Y W.length c] j (Vr .u32 45 l col j r):=by
 refine Xc 4 (m:=71) func120 rfl rfl rfl rfl rfl ?_;rw [Zap.eq_1] at a;have e:=St.start col j;refine go ?_;obtain ⟨g,f,a⟩:=bZ a;refine Zi (Qi f (h.k0.ks e)) fun _ _ ⟨_,B,F,G,s,h⟩=>⟨_,G,?_⟩;refine Y3 rfl ?_;obtain ⟨d,q,a⟩:=bZ a;replace e:=e.grow s;refine Zi (Qi q (u.k0.ks e)) ?_;rintro _ aw ⟨ax,C,D,rfl,am,f⟩;refine ⟨_,rfl,go ?_⟩;obtain ⟨i,a⟩:=Z4 a;refine Sc (col:=ax) (w:=aw) (r:=rU) (n:=(aA (i64.wrap ((g.length:Int)+(d.length:Int))))) (x0:=0) 1 rfl underlying38 Tryz.t45 rfl rfl rfl rfl rfl (congrArg (Value.int _) (bM i.2.2).symm) (congrArg (Value.int _) (bM i.2.2).symm) i.1 i.2.1 (Zcb .u32 0) fun w _ v o J=>go ?_;replace h:=(h.gr am).gr o;replace e:=(e.grow am).grow o;replace f:=f.gr o;refine Zur (fun q c y=>∃ (m:Ze) (k:Nat) (A:Option Addr) (z:Nat) (U:List Int) (Q:List Int),q=Q.length∧g.drop k=Q∧Zby N d Q k U=some r∧St j (Zh col) m y∧Sl rU m y C D d∧Sl rU m y B F g∧Zb rU 45 1 m y A z U∧c 23=(.int .i64 k)∧c 1=(.slice C d.length D)∧c 21=(.slice B g.length F)∧c 22=(.int .i64 g.length)∧c 5=(.slice A U.length z)∧c 1000000=(enc [])) g.length ⟨v,0,w,(aA (i64.wrap ((g.length:Int)+(d.length:Int)))),(aD (aA (i64.wrap ((g.length:Int)+(d.length:Int)))) (0:Int)),g,rfl,rfl,a,e,f,h,J,rfl,rfl,rfl,rfl,rfl,rfl⟩ ?_;clear a;intro q c y S;obtain ⟨m,k,A,z,U,Q,H,n,a,e,f,h,x,T,I,J,K,L,M⟩:=S;subst H;refine .lD 23 T<|.lD 1 I<|.lD 21 J<|.lD 22 K<|.lD 5 L<|.lD 1000000 M ?_
 cases Q with
 | nil=>
  have i:¬ ((k:Int)<(g.length:Int)):=by have:=aJ.1 n;omega
  have b:=decide_eq_false i;rw [Zby.eq_1] at a;refine go ?_;refine Ym (congrArg Value.bool b)<|go ?_;obtain ⟨_,p,a⟩:=bZ a;refine Zi (Qh 2 p (x.toSlF (Zg.int .u32))) fun _ _ ⟨t,_,_,G,Z,E⟩=>⟨_,G,?_⟩;replace E:=E.thaw (Z1 .u32) Z ((Fz.refl (col:=m)).froz 1);replace Z:=Z.thawR (col:=m);generalize Xa y.heap.size m t=O at *;refine go ?_;cases a;replace e:=e.grow Z;exact ⟨rfl,_,_,_,rfl,e.fin (cm [(2,l)]),e.fo E⟩
 | cons w O=>
  obtain ⟨u,Y,Z⟩:=Yt n;have i:(k:Int)<(g.length:Int):=by omega
  have b:=decide_eq_true i;rw [Zby.eq_2] at a;refine go ?_;refine Yn (congrArg Value.bool b)<|go ?_;refine lI u (h.addr u)<|lW (h.atInt u) ?_;refine go ?_;refine Zur (fun q c P=>∃ (v:Ze) (t:Nat) (p:Option Addr) (o:Nat) (s:List Int) (l:Int) (R:List Int),q=R.length∧d.drop t=R∧Zex d k (Zby N d O) w R t s l=some r∧St j (Zh col) v P∧Sl rU v P C D d∧Sl rU v P B F g∧Zb rU 45 1 v P p o s∧c 30=(.int .i64 t)∧c 1=(.slice C d.length D)∧c 21=(.slice B g.length F)∧c 22=(.int .i64 g.length)∧c 23=(.int .i64 k)∧c 28=(.slice C d.length D)∧c 29=(.int .i64 d.length)∧c 5=(.slice p s.length o)∧c 6=(.int .i64 k)∧c 7=(.int .u32 w)∧c 8=(.int .u64 l)∧c 1000000=(enc [])) d.length ⟨m,0,A,z,U,0,d,rfl,rfl,a,e,f,h,x,rfl,rfl,rfl,rfl,rfl,rfl,rfl,rfl,rfl,rfl,rfl,rfl⟩ ?_;clear a;intro q c P S;obtain ⟨v,t,p,o,s,l,R,H,n,a,e,f,h,z,E,I,J,K,T,G,P,L,Q,U,X,M⟩:=S;subst H;refine .lD 30 E<|.lD 1 I<|.lD 21 J<|.lD 22 K<|.lD 23 T<|.lD 28 G<|.lD 29 P<|.lD 5 L<|.lD 6 Q<|.lD 7 U<|.lD 8 X<|.lD 1000000 M ?_
  cases R with
  | nil=>
   have i:¬ ((t:Int)<(d.length:Int)):=by have:=aJ.1 n;omega
   have b:=decide_eq_false i;rw [Zex.eq_1] at a;refine go ?_;refine Ym (congrArg Value.bool b)<|go ?_;obtain ⟨_,A,a⟩:=bZ a;refine lI A (z.addr A) ?_;obtain ⟨m,j,a⟩:=bZ a;have j:m=s.set (aA (i64.wrap ((k:Int)+(d.length:Int)))) (u32.wrap l):=(Option.some.inj j).symm;refine Wb (x1:=u32.wrap l) z A ?_;intro _ B H g;rw [← j] at g;refine .ld (d:=5) (v:=(.slice p m.length o)) (congrArg (fun q=>Value.slice p q o) (show s.length=m.length by rw [j,nS])) ?_;refine go ?_;replace f:=f.kp B;replace h:=h.kp B;replace e:=e.kp B H;exact ⟨O.length,by simp,⟨v,(k+1),p,o,m,O,rfl,Y,a,e,f,h,g,(congrArg (Value.int .i64) (Yv (aI Z h.1.1))),rfl,rfl,rfl,rfl,rfl⟩⟩
  | cons T y=>
   obtain ⟨u,K,L⟩:=Yt n;have i:(t:Int)<(d.length:Int):=by omega
   have b:=decide_eq_true i;rw [Zex.eq_2] at a;refine go ?_;refine Yn (congrArg Value.bool b)<|go ?_;refine lI u (f.addr u)<|lW (f.atInt u) ?_;refine go ?_;obtain ⟨S,x,a⟩:=bZ a;refine lI x (z.addr x)<|lW (z.atInt x) ?_;refine go ?_;refine lI x (z.addr x) ?_;obtain ⟨n,d,a⟩:=bZ a;have d:n=s.set (aA (i64.wrap ((k:Int)+(t:Int)))) (u32.wrap (u64.wrap (l+(u64.wrap ((u64.wrap ((u64.wrap w) * (u64.wrap T)))+(u64.wrap S)))))):=(Option.some.inj d).symm;refine Wb (x1:=u32.wrap (u64.wrap (l+(u64.wrap ((u64.wrap ((u64.wrap w) * (u64.wrap T)))+(u64.wrap S)))))) z x ?_;intro _ F I k;rw [← d] at k;refine .ld (d:=5) (v:=(.slice p n.length o)) (congrArg (fun q=>Value.slice p q o) (show s.length=n.length by rw [d,nS])) ?_;refine go ?_;refine lV (.int .u64 (Y2 .u64 (u64.wrap (l+(u64.wrap ((u64.wrap ((u64.wrap w) * (u64.wrap T)))+(u64.wrap S))))) 32)) (Q9 (u64.wrap (l+(u64.wrap ((u64.wrap ((u64.wrap w) * (u64.wrap T)))+(u64.wrap S))))) 32 rfl rfl (by decide))<|go ?_;replace f:=f.kp F;exact ⟨y.length,by simp,⟨v,(t+1),p,o,n,(Y2 .u64 (u64.wrap (l+(u64.wrap ((u64.wrap ((u64.wrap w) * (u64.wrap T)))+(u64.wrap S))))) 32),y,rfl,K,a,e.kp F I,f,h.kp F,k,(congrArg (Value.int .i64) (Yv (aI L f.1.1))),rfl,rfl,rfl,rfl,rfl,rfl,rfl,rfl,rfl,rfl,rfl⟩⟩
def Zcy (N:Nat) (a:Int):Option R2:=
  (Td N [u32.wrap a,u32.wrap (Y2 .u64 a 32)]).bind fun b=>some b
theorem Zls {N:Nat} {col:Ze} {c:World} {a:Int} {r:R2} (f:Nat) (b:Zcy N a=some r):
    Calls prog 130 #[.int .u64 a] c (Vr .u32 45 f col c r):=by
 refine Xc 2 (m:=10) func130 rfl rfl rfl rfl rfl ?_;rw [Zcy.eq_1] at b;have e:=St.start col c;refine go ?_;refine lV (.int .u64 (Y2 .u64 a 32)) (Q9 a 32 rfl rfl (by decide))<|go ?_;refine V5 (col:=(Zh col)) [u32.wrap a,u32.wrap (Y2 .u64 a 32)] 1 ?_;intro _ m g n k;obtain ⟨_,j,b⟩:=bZ b;refine Zi (Qh 2 j (k.toSlF (Zg.int .u32))) fun _ _ ⟨l,_,_,i,d,h⟩=>⟨_,i,?_⟩;replace h:=h.thaw (Z1 .u32) d ((Fz.refl (col:=g)).froz 1);replace d:=d.thawR (col:=g);generalize Xa m.heap.size g l=o at *;refine go ?_;cases b;replace e:=(e.grow n).grow d;exact ⟨rfl,_,_,_,rfl,e.fin (cm [(2,f)]),e.fo h⟩
def Zg1 (N:Nat) (a:List Int):Option R2:=
  (Td N a).bind fun b=>some b
theorem Zr1 {N c:Nat} {h:Option Addr} {col:Ze} {a:World} {b r:R2} (i:Nat) (d:Zg1 N b=some r) (m:Sl rU col a h c b):
    Calls prog 139 #[.slice h b.length c] a (Vr .u32 45 i col a r):=by
 refine Xc 2 (m:=5) func139 rfl rfl rfl rfl rfl ?_;rw [Zg1.eq_1] at d;have e:=St.start col a;refine go ?_;obtain ⟨_,o,d⟩:=bZ d;refine Zi (Qh 1 o (m.k0.ks e)) ?_;rintro _ j ⟨k,l,n,rfl,f,g⟩;refine ⟨_,rfl,go ?_⟩;cases d;replace e:=e.grow f;exact ⟨rfl,_,_,_,rfl,e.fin (cm [(1,i)]),e.fo g⟩
theorem Zrb (N:Nat):∀ (n:Nat) (a:List Int),Zp a→a.length<n→a.length<4611686018427387904→S4 N n a=some (Zf (Zc a))
 | 0,a,_,h,_=>by omega
 | n+1,a,h,f,g=>by
  rw [S4.eq_2]
  by_cases h0:0<a.length
  ·have e:(a.length:Int) - 1=((a.length - 1:Nat):Int):=by omega
   rw [if_pos (by simpa using h0),Zv (by omega),e,Zs (by omega),oB,Zc0,Zv (by omega),e]
   by_cases hx:a[a.length - 1]=0
   ·rw [if_pos (by simpa using hx),Z7 (by omega),aC,Zrb N n _ (h.take _) (by rw [nK];omega) (by rw [nK];omega)]
    conv=>rhs;rw [← Zi0 h0,hx,Zze]
   ·rw [if_neg (by simpa using hx)]
    have b:=Zi0 h0
    have c:=Z9h (a:=a.take (a.length - 1)) (x:=a[a.length - 1]) (by rw [b];exact h) hx
    rw [b] at c
    rw [c]
  ·have d:a=[]:=cS (by omega)
   subst d
   rw [if_neg (by simp),Zc0,if_neg (by decide),Y0,Vh]
theorem Zac {N:Nat} {a:List Int} (h:Zp a) (hn:a.length<N) (hb:a.length≤35184372088000):Te N a=some (Zf (Zc a)):=by
 rw [Te];exact Zrb N N a h hn (by omega)
theorem Zse {a:List Int} (hb:a.length≤35184372088832):Zh1 a=some a:=by
 rw [Zh1,Z7 (by simp only [nN,maxLen];omega),bF]
theorem Q7 {N:Nat} {a:List Int} (h:Zp a) (hn:a.length<N) (hb:a.length≤35184372088000):Td N a=some (Zf (Zc a)):=by
 rw [Td,Zac h hn hb,oB]
 have b:=Yr h
 by_cases h0:Zf (Zc a)=[]
 ·rw [h0,if_pos (by decide)]
 ·have:0<(Zf (Zc a)).length:=cD.2 h0
  rw [if_neg (by simp;exact h0),Zse (by omega),oB]
theorem Zs7 {N:Nat} {a:List Int} (h:Zp a) (hn:a.length<N) (hb:a.length≤35184372088000):Zg1 N a=some (Zf (Zc a)):=by
 rw [Zg1,Q7 h hn hb,oB]
theorem Zk9 {N:Nat} {u:Int} (h:0≤u∧u<18446744073709551616) (hn:2<N):Zcy N u=some (Zf u.toNat):=by
 have e:Zc [u32.wrap u,u32.wrap (Y2 .u64 u 32)]=u.toNat:=by
  rw [Zif,Wi,Wi,Y0,IntKind.wrap_u32,IntKind.wrap_u32];omega
 have a:Zp [u32.wrap u,u32.wrap (Y2 .u64 u 32)]:=by
  rw [Zif,IntKind.wrap_u32,IntKind.wrap_u32]
  exact .cons (by omega) (.cons (by omega) .nil)
 rw [Zcy,Q7 a (by simpa using hn) (by simp),oB,e]
theorem Zwd (N:Nat) (a b:List Int) (ha:Zp a) (hb:Zp b) (hl:a.length=b.length) (hs:a.length<4611686018427387904):∀ (n i:Nat),i≤a.length→i<n→a.drop i=b.drop i→Zgy N a b n ((i:Int) - 1)=some (if Zc a<Zc b then -1 else if Zc b<Zc a then 1 else 0)
 | 0,i,_,h,_=>by omega
 | n+1,i,q,r,c=>by
  rw [Zgy.eq_2]
  by_cases h0:i=0
  ·subst h0
   rw [if_neg (by decide)]
   rw [aM,aM] at c
   subst c
   rw [if_neg (by omega),if_neg (by omega)]
  ·have e:(i:Int) - 1=((i - 1:Nat):Int):=by omega
   have d:i - 1<a.length:=by omega
   have f:i - 1<b.length:=by omega
   have j:i - 1+1=i:=by omega
   rw [if_pos (by simp;omega),e,Zs d,oB,Zs f,oB]
   have s:=ha.get d
   have t:=hb.get f
   have k:=Tx a (i - 1)
   have l:=Tx b (i - 1)
   rw [Uy d,j] at k
   rw [Uy f,j,← c] at l
   have m:=Q6 (ha.take (i - 1))
   have o:=Q6 (hb.take (i - 1))
   rw [nK,aZ (by omega)] at m o
   have g:∀ x y:Nat,x<y→4294967296 ^ (i - 1) * (x+4294967296 * Zc (a.drop i))+4294967296 ^ (i - 1)≤4294967296 ^ (i - 1) * (y+4294967296 * Zc (a.drop i)):=fun x y p=>by
    rw [← Nat.mul_succ];exact aY _ (by omega)
   by_cases hlt:a[i - 1]<b[i - 1]
   ·have:=g _ _ (show (a[i - 1]).toNat<(b[i - 1]).toNat by omega)
    rw [if_pos (by simpa using hlt),if_pos (by omega)]
   ·rw [if_neg (by simpa using hlt)]
    by_cases hgt:b[i - 1]<a[i - 1]
    ·have:=g _ _ (show (b[i - 1]).toNat<(a[i - 1]).toNat by omega)
     rw [if_pos (by simpa using hgt),if_neg (by omega),if_pos (by omega)]
    ·rw [if_neg (by simpa using hgt),Zv (by omega)]
     have:=Zwd N a b ha hb hl hs n (i - 1) (by omega) (by omega) (by
      rw [aF d,aF f,j,c]
      congr 1;omega)
     exact this
theorem Zyi {m n:Nat} (h:(Zf m).length<(Zf n).length):m<n:=by
 have a:=Vc (k:=(Zf m).length) (n:=m)
 have b:=Vc (k:=(Zf m).length) (n:=n)
 have:=a.1 (aX _)
 have d:¬ n<4294967296 ^ (Zf m).length:=fun c=>by have:=b.2 c;omega
 omega
theorem Zsf {N:Nat} {a b:List Int} (ha:Zp a) (hb:Zp b) (h1:a.length<N) (h2:b.length<N) (h3:a.length≤35184372088000) (h4:b.length≤35184372088000):
  Zgx N a b=some (if Zc a<Zc b then -1 else if Zc b<Zc a then 1 else 0):=by
 have c:=Yr ha
 have d:=Yr hb
 rw [Zgx,Zac ha h1 h3,oB,Zac hb h2 h4,oB]
 by_cases he:(Zf (Zc a)).length=(Zf (Zc b)).length
 ·rw [if_neg (by simp [he]),Zv (by omega)]
  have:=Zwd N (Zf (Zc a)) (Zf (Zc b)) (Xd _) (Xd _) he (by omega) N (Zf (Zc a)).length (aX _) (by omega) (by
   rw [aG (aX _),aG (by omega)])
  rw [this,Xb,Xb]
 ·rw [if_pos (by simp;omega)]
  by_cases hlt:(Zf (Zc a)).length<(Zf (Zc b)).length
  ·rw [if_pos (by simpa using hlt),if_pos (Zyi hlt)]
  ·have:=Zyi (m:=Zc b) (n:=Zc a) (by omega)
   rw [if_neg (by simpa using hlt),if_neg (by omega),if_pos this]
def Yb (b:List Int) (k:Nat):Nat:=(b.getD k 0).toNat
theorem Tg (b:List Int) (k:Nat):Zc (b.drop k)=Yb b k+4294967296 * Zc (b.drop (k+1)):=by
 by_cases h:k<b.length
 ·rw [Uy h,Yb,aE,aL h,dG]
 ·rw [aG (by omega),aG (by omega),Yb,aE,cG (by omega)];rfl
theorem Zgc {b:List Int} (h:Zp b) (k:Nat):Yb b k<4294967296:=by
 rw [Yb,aE]
 by_cases hk:k<b.length
 ·have:=h.get hk
  rw [aL hk,dG];omega
 ·rw [cG (by omega)];decide
theorem drop_zero {l:List Int} {k:Nat} (h:Zp l) (hk:k<l.length) (h0:Zc (l.drop k)=0):l[k]=0∧Zc (l.drop (k+1))=0:=by
 have:=h.get hk
 rw [Uy hk] at h0
 omega
theorem Zaf {l:List Int} {k j:Nat} (v:Int) (h:k<j):(l.set k v).drop j=l.drop j:=by
 rw [List.drop_set,if_pos h]
theorem Z4l (S S' Q c x y v c' L D:Nat) (h1:S'=S+Q * v) (h2:c+x+y=v+4294967296 * c'):S'+Q * 4294967296 * (c'+L+D)=S+Q * (c+(x+4294967296 * L)+(y+4294967296 * D)):=by
 subst h1
 have:Q * (c+x+y)=Q * (v+4294967296 * c'):=by rw [h2]
 grind
theorem Zuz (N:Nat) (a b:List Int) (ha:Zp a) (hb:Zp b) (hab:b.length≤a.length) (hN:a.length+1<N) (hs:a.length<35184372088000):∀ (l:List Int) (k:Nat) (sum:List Int) (c:Int),Zp l→a.length=k+l.length→sum.length=a.length+1→Zp sum→Zc (sum.drop k)=0→0≤c∧c≤1→
  Qv N a b l k sum c=some (Zf (Zc sum+4294967296 ^ k * (c.toNat+Zc l+Zc (b.drop k))))
 | [],k,sum,c,_,j,n,d,m,t=>by
  have o:k=a.length:=by simpa using j.symm
  subst o
  rw [Qv.eq_1,Zs (by omega),oB,oB,aC,Um (by omega),
   Q7 (d.set _ (by omega)) (by rw [nS];omega) (by rw [nS];omega),oB]
  have f:=Tw (l:=sum) (k:=a.length) (by omega) c
  have u:=(drop_zero d (by omega) m).1
  rw [u] at f
  rw [Y0,aG (by omega),Y0]
  have v:Zc (sum.set a.length c)=Zc sum+4294967296 ^ a.length * c.toNat:=by simpa using f
  rw [v];rfl
 | x :: l,k,sum,c,p,j,n,d,m,t=>by
  have q:a.length=k+1+l.length:=by rw [j,nC];omega
  have A:=p.head
  have g:=drop_zero d (by omega) m
  have B:=Zgc hb k
  have r:sum[k]'(by omega)=0:=g.1
  -- the sum of one place
  have step:∀ s:Int,s=c+x+(Yb b k:Int)→Zjx k sum (Qv N a b l) s=some (Zf (Zc sum+4294967296 ^ k * (c.toNat+Zc (x :: l)+Zc (b.drop k)))):=fun s y=>by
   rw [Zjx,Zs (by omega),oB,oB,Zph,aC,Zif]
   have w:0≤u32.wrap s∧u32.wrap s<4294967296:=by rw [IntKind.wrap_u32];omega
   rw [Zuz N a b ha hb hab hN hs l (k+1) _ _ p.tail q (by rw [nS];exact n) (d.set _ w) (by rw [Zaf _ (by omega)];exact g.2) (by omega)]
   have f:=Tw (l:=sum) (k:=k) (by omega) (u32.wrap s)
   rw [r] at f
   rw [bG,Wi,Tg b k]
   congr 2
   exact Z4l _ _ _ _ _ _ (u32.wrap s).toNat _ _ _ (by simpa using f) (by rw [IntKind.wrap_u32];omega)
  rw [Qv.eq_2]
  have i:u64.wrap (c+u64.wrap x)=c+x:=by rw [Xs (x:=x) (by omega),Xs (by omega)]
  by_cases hkb:k<b.length
  ·have e:Yb b k=(b[k]).toNat:=by rw [Yb,aE,aL hkb,dG]
   have:=hb.get hkb
   rw [if_pos (by simpa using hkb),Zs hkb,oB,i,Xs (x:=b[k]) (by omega),Xs (by omega)]
   exact step _ (by omega)
  ·have e:Yb b k=0:=by rw [Yb,aE,cG (by omega)];rfl
   rw [if_neg (by simpa using hkb),i]
   exact step _ (by omega)
theorem Zuy {N:Nat} {a b:List Int} (ha:Zp a) (hb:Zp b) (hab:b.length≤a.length) (hN:a.length+1<N) (hs:a.length<35184372088000):Zjw N a b=some (Zf (Zc a+Zc b)):=by
 rw [Zjw,Zv (by omega),Z7 (by simp only [maxLen];omega),Zuz N a b ha hb hab hN hs a 0 _ 0 ha (by omega) (by rw [aS];omega) (.zeros _) (by rw [aM];exact Sj _) (by omega),Sj,aM]
 simp
theorem Z4m {N:Nat} {a b:List Int} (ha:Zp a) (hb:Zp b) (h1:a.length+1<N) (h2:b.length+1<N) (h3:a.length<35184372088000) (h4:b.length<35184372088000):Zme N a b=some (Zf (Zc a+Zc b)):=by
 have c:=Yr ha
 have d:=Yr hb
 rw [Zme,Zac ha (by omega) (by omega),oB,Zac hb (by omega) (by omega),oB]
 by_cases h:(Zf (Zc a)).length<(Zf (Zc b)).length
 ·rw [if_pos (by simpa using h),Zuy (Xd _) (Xd _) (by omega) (by omega) (by omega),Xb,Xb,fO]
 ·rw [if_neg (by simpa using h),Zuy (Xd _) (Xd _) (by omega) (by omega) (by omega),Xb,Xb]
theorem Zyf (N:Nat) (a b:List Int) (ha:Zp a) (hb:Zp b) (hs:a.length<35184372088000):∀ (n k:Nat) (r:List Int) (c:Int),k≤a.length→a.length<n+k→r.length=a.length→Zp r→0≤c∧c≤1→r.drop k=a.drop k→
  4294967296 ^ k * (c.toNat+Zc (b.drop k))≤4294967296 ^ k * Zc (a.drop k)→
  ∃ r',S3 N a b n r c (k:Int)=some r'∧r'.length=a.length∧Zp r'∧Zc r'+4294967296 ^ k * (c.toNat+Zc (b.drop k))=Zc r
 | 0,k,r,c,s,u,_,_,_,_,_=>by omega
 | n+1,k,r,c,s,u,i,j,E,m,o=>by
  have v:0<4294967296 ^ k:=fI (by decide)
  have f:c.toNat+Zc (b.drop k)≤Zc (a.drop k):=Nat.le_of_mul_le_mul_left o v
  rw [S3.eq_2]
  by_cases h0:k<a.length
  ·have F:=ha.get h0
   have g:r[k]'(by omega)=a[k]:=by
    have:(r.drop k)[0]'(by simp;omega)=(a.drop k)[0]'(by simp;omega):=by simp only [m]
    simpa using this
   have G:=Zgc hb k
   rw [Tg b k,Uy h0] at f
   have step:∀ t:Int,t=c+(Yb b k:Int)→∃ r',Zj2 r (k:Int) (S3 N a b n) t=some r'∧r'.length=a.length∧Zp r'∧Zc r'+4294967296 ^ k * (c.toNat+Zc (b.drop k))=Zc r:=fun t H=>by
    have w:0≤u32.wrap (a[k] - u32.wrap t)∧u32.wrap (a[k] - u32.wrap t)<4294967296:=by rw [IntKind.wrap_u32];omega
    have fin:∀ d:Int,0≤d∧d≤1→a[k]+4294967296 * d=t+u32.wrap (a[k] - u32.wrap t)→∃ r',Zj3 r (k:Int) (S3 N a b n) t d=some r'∧r'.length=a.length∧Zp r'∧Zc r'+4294967296 ^ k * (c.toNat+Zc (b.drop k))=Zc r:=fun d p I=>by
     rw [Zj3,Zs (by omega),oB,oB,Zpl,g,Zv (by omega),aC]
     obtain ⟨r',q1,y,A,B⟩:=Zyf N a b ha hb hs n (k+1) (r.set k (u32.wrap (a[k] - u32.wrap t))) d (by omega) (by omega) (by rw [nS];exact i) (j.set _ w) p (by
      rw [Zaf _ (by omega)]
      have:=congrArg (List.drop 1) m
      simpa [dK,fO] using this) (aY _ (by omega))
     refine ⟨r',q1,y,A,?_⟩
     have C:=Tw (l:=r) (k:=k) (by omega) (u32.wrap (a[k] - u32.wrap t))
     rw [g] at C
     rw [Tg b k]
     rw [bG] at B
     have q:(a[k]).toNat+4294967296 * d.toNat=c.toNat+Yb b k+(u32.wrap (a[k] - u32.wrap t)).toNat:=by omega
     have D:4294967296 ^ k * ((a[k]).toNat+4294967296 * d.toNat)=4294967296 ^ k * (c.toNat+Yb b k+(u32.wrap (a[k] - u32.wrap t)).toNat):=by rw [q]
     grind
    rw [Zj2,Zs (by omega),oB,g,Xs (x:=a[k]) (by omega)]
    by_cases hlt:a[k]<t
    ·rw [if_pos (by simpa using hlt)]
     exact fin 1 (by omega) (by rw [IntKind.wrap_u32,IntKind.wrap_u32];omega)
    ·rw [if_neg (by simpa using hlt)]
     exact fin 0 (by omega) (by rw [IntKind.wrap_u32,IntKind.wrap_u32];omega)
   rw [if_pos (by simpa using h0)]
   by_cases hkb:k<b.length
   ·have e:Yb b k=(b[k]).toNat:=by rw [Yb,aE,aL hkb,dG]
    have:=hb.get hkb
    rw [if_pos (by simpa using hkb),Zs hkb,oB,Xs (x:=b[k]) (by omega),Xs (by omega)]
    exact step _ (by omega)
   ·have e:Yb b k=0:=by rw [Yb,aE,cG (by omega)];rfl
    rw [if_neg (by simpa using hkb)]
    exact step _ (by omega)
  ·rw [if_neg (by simpa using h0)]
   rw [aG (show a.length≤k by omega),Y0] at f
   exact ⟨r,rfl,i,j,by rw [show c.toNat+Zc (b.drop k)=0 by omega];simp⟩
theorem Z3m {N:Nat} {a b:List Int} (ha:Zp a) (hb:Zp b) (h1:a.length+1<N) (h2:b.length+1<N) (h3:a.length<35184372088000) (h4:b.length<35184372088000):
  Zjz N a b=some (if Zc a<Zc b then ([],false) else (Zf (Zc a - Zc b),true)):=by
 have e:=Yr ha
 have f:=Yr hb
 rw [Zjz,Zsf ha hb (by omega) (by omega) (by omega) (by omega),oB]
 by_cases h:Zc a<Zc b
 ·rw [if_pos h,if_pos (by decide),if_pos h]
 ·rw [if_neg h,if_neg (by split <;> decide),if_neg h,Zac ha (by omega) (by omega),oB,Zse (by omega),oB,Zac hb (by omega) (by omega),oB,Zpk]
  obtain ⟨g,q1,i,c,d⟩:=Zyf N (Zf (Zc a)) (Zf (Zc b)) (Xd _) (Xd _) (by omega) N 0 (Zf (Zc a)) 0 (by omega) (by omega) rfl (Xd _) (by omega) rfl (by simp [Xb];omega)
  rw [show ((0:Nat):Int)=0 from rfl] at q1
  rw [q1,oB,Q7 c (by omega) (by omega),oB]
  simp [Xb] at d
  congr 3
  omega
theorem Zy6 (P P' Q c x y e v c' L:Nat) (h1:P'+Q * e=P+Q * v) (h2:c+(x * y+e)=v+4294967296 * c'):P'+Q * 4294967296 * (c'+x * L)=P+Q * (c+x * (y+4294967296 * L)):=by
 have:Q * (c+(x * y+e))=Q * (v+4294967296 * c'):=by rw [h2]
 grind
theorem Zy5 (b:List Int) (hb:Zp b) (i:Nat) (kk:Nat→List Int→Option R2) (x:Int) (hx:0≤x∧x<4294967296):∀ (l:List Int) (j:Nat) (p:List Int) (c:Int),Zp l→j+l.length=b.length→i+b.length<p.length→p.length<4611686018427387904→Zp p→0≤c∧c<4294967296→Zc (p.drop (i+b.length))=0→
  ∃ p',Zex b i kk x l j p c=kk (i+1) p'∧p'.length=p.length∧Zp p'∧Zc p'=Zc p+4294967296 ^ (i+j) * (c.toNat+x.toNat * Zc l)∧Zc (p'.drop (i+b.length+1))=0
 | [],j,p,c,_,g,a,n,d,k,m=>by
  have o:j=b.length:=by simpa using g
  subst o
  have f:=drop_zero d a m
  rw [Zex.eq_1,Zv (by omega),show (i:Int)+(b.length:Int)=((i+b.length:Nat):Int) by omega,Zs a,oB,oB,aC,Um k]
  refine ⟨_,rfl,by rw [nS],d.set _ k,?_,?_⟩
  ·have q:=Tw a c
   rw [f.1] at q
   rw [Y0,dV,bR]
   simpa using q
  ·rw [Zaf _ (by omega)];exact f.2
 | y :: l,j,p,c,r,g,a,n,d,k,m=>by
  have t:=r.head
  have u:j+1+l.length=b.length:=by rw [← g,nC];omega
  have e:i+j<p.length:=by omega
  have E:=d.get e
  have F:x * y≤4294967295 * 4294967295:=kF (by omega) (by omega) (by omega) (by omega)
  have D:0≤x * y:=kG hx.1 t.1
  rw [Zex.eq_2,Zv (by omega),show (i:Int)+(j:Int)=((i+j:Nat):Int) by omega,Zs e,oB,oB,aC,Xs (x:=x) (by omega),Xs (x:=y) (by omega),Xs (x:=p[i+j]) (by omega),Xs (x:=x * y) (by omega),Xs (x:=x * y+p[i+j]) (by omega),Xs (by omega),Zif]
  generalize hs':c+(x * y+p[i+j])=s
  have v:0≤u32.wrap s∧u32.wrap s<4294967296:=by rw [IntKind.wrap_u32];omega
  obtain ⟨p',q1,w,A,B,C⟩:=Zy5 b hb i kk x hx l (j+1) (p.set (i+j) (u32.wrap s)) (s / 4294967296) r.tail u (by rw [nS];exact a) (by rw [nS];exact n) (d.set _ v) (by omega) (by rw [Zaf _ (by omega)];exact m)
  refine ⟨p',q1,by rw [w,nS],A,?_,C⟩
  rw [B,← dZ i j 1,bG,Wi]
  refine Zy6 _ _ _ _ _ _ (p[i+j]).toNat (u32.wrap s).toNat _ _ (Tw e _) ?_
  rw [IntKind.wrap_u32]
  have G:((x.toNat * y.toNat:Nat):Int)=x * y:=by rw [bN,bM hx.1,bM t.1]
  omega
theorem Zy4 (N:Nat) (b:List Int) (hb:Zp b):∀ (l:List Int) (i:Nat) (p:List Int),Zp l→p.length=i+l.length+b.length→p.length<N→p.length<35184372088000→Zp p→Zc (p.drop (i+b.length))=0→
  Zby N b l i p=some (Zf (Zc p+4294967296 ^ i * (Zc l * Zc b)))
 | [],i,p,_,c,d,g,a,e=>by
  rw [Zby.eq_1,Q7 a d (by omega),oB,Y0];simp
 | x :: l,i,p,f,c,d,g,a,e=>by
  rw [nC] at c
  obtain ⟨j,q1,o,k,m,n⟩:=Zy5 b hb i (Zby N b l) x f.head b 0 p 0 hb (by omega) (by omega) (by omega) a (by omega) e
  rw [Zby.eq_2,q1,Zy4 N b hb l (i+1) j f.tail (by omega) (by omega) (by omega) k (by rw [show i+1+b.length=i+b.length+1 by omega];exact n),m,Wi,bG]
  congr 2
  simp only [bR,fD,cC]
  grind
theorem Znj {N:Nat} {a b:List Int} (ha:Zp a) (hb:Zp b) (h1:a.length+b.length<N) (h3:a.length+b.length<35184372088000):Zap N a b=some (Zf (Zc a * Zc b)):=by
 have c:=Yr ha
 have d:=Yr hb
 rw [Zap,Zac ha (by omega) (by omega),oB,Zac hb (by omega) (by omega),oB,Zv (by omega),Z7 (by simp only [maxLen];omega),
  Zy4 N _ (Xd _) _ 0 _ (Xd _) (by rw [aS];omega) (by rw [aS];omega) (by rw [aS];omega) (.zeros _) (by
   rw [gQ];exact Sj _),Sj,Xb,Xb]
 simp
def Zg4 (N:Nat) (a:Int):Nat→R2→Int→Int→Option R8
  | 0,_,_,_=>none
  | f+1,c,d,b=>if (decide (0≤b))=true then ((Zk c b).bind fun e=>Z2 ((u64.wrap a)≠0) ((some (c.set (aA b) (u32.wrap (u64.wrap (aR (Wf .u64 (Yi .u64 d 32) (u64.wrap e)) (u64.wrap a)))))).bind fun g=>Z2 ((u64.wrap a)≠0) ((Zg4 N a f) g (bK (Wf .u64 (Yi .u64 d 32) (u64.wrap e)) (u64.wrap a)) (i64.wrap (b - 1))))) else (some (u32.wrap d,c))
def Zml (N:Nat) (a:List Int) (b:Int):Option R8:=
  Zg4 N b N a 0 (i64.wrap ((a.length:Int) - 1))
theorem Z5x {N g:Nat} {d:Option Addr} {col:Ze} {h:World} {i:R2} {b:Int} {r:R8} (c:Nat) (a:Zml N i b=some r) (s:Up [c]=true) (A:Zb rU 45 c col h d g i):
    Calls prog 188 #[.slice d i.length g,.int .u32 b] h (fun e w'=>∃ (col':Ze),e= .returned ((.int .u32 r.1))∧Zu (pS [c]) col h col' w'∧Zb rU 45 c col' w' d g r.2∧r.2.length=i.length):=by
 refine Xc 4 (m:=36) func188 rfl rfl rfl rfl rfl ?_;rw [Zml.eq_1] at a;have k:=St.startL (l:=[c]) rfl col h;refine go ?_;refine Zt [1,1000000] (fun u B v=>∃ w j f t n,n=u∧Zg4 N b n j f t=some r∧St h (Xe [c] col) w v∧Zb rU 45 440 w v d g j∧j.length=i.length∧j.length=i.length∧[0,5,6].map B=[.slice d j.length g,.int .u64 f,.int .i64 t]) N ⟨_,_,0,_,_,rfl,a,k,A.startL (Ur s 0 rfl) (Uq s 0 rfl),rfl,rfl,rfl⟩ ?_;clear a;intro u B v E;obtain ⟨w,j,f,t,n,y,a,k,q,J,K,z⟩:=E;subst y;refine .lL [0,5,6] z ?_
 cases n with
 | zero=>rw [Zg4.eq_1] at a;cases a
 | succ n=>
  rw [Zg4.eq_2] at a;refine go ?_;refine Zm a (fun x a=>go ?_) fun x a=>go ?_
  ·refine lV (.int .u64 (Yi .u64 f 32)) (Zid f 32 rfl rfl (by decide))<|go ?_;obtain ⟨m,l,a⟩:=bZ a;refine lI l (q.addr l)<|lW (q.atInt l) ?_;refine go ?_;obtain ⟨G,a⟩:=Z4 a;refine lV (.int .u64 (u64.wrap (aR (Wf .u64 (Yi .u64 f 32) (u64.wrap m)) (u64.wrap b)))) (Vy (Wf .u64 (Yi .u64 f 32) (u64.wrap m)) (u64.wrap b) rfl rfl G)<|go ?_;refine lI l (q.addr l) ?_;obtain ⟨o,p,a⟩:=bZ a;have p:o=j.set (aA t) (u32.wrap (u64.wrap (aR (Wf .u64 (Yi .u64 f 32) (u64.wrap m)) (u64.wrap b)))):=(Option.some.inj p).symm;refine Wb (x1:=u32.wrap (u64.wrap (aR (Wf .u64 (Yi .u64 f 32) (u64.wrap m)) (u64.wrap b)))) q l ?_;intro _ H I D;rw [← p] at D;have C:o.length=i.length:=(show j.length=o.length by rw [p,nS]).symm.trans J;refine .ld (d:=0) (v:=(.slice d o.length g)) (congrArg (fun u=>Value.slice d u g) (show j.length=o.length by rw [p,nS])) ?_;refine go ?_;obtain ⟨F,a⟩:=Z4 a;refine lV (.int .u64 (bK (Wf .u64 (Yi .u64 f 32) (u64.wrap m)) (u64.wrap b))) (S9 (Wf .u64 (Yi .u64 f 32) (u64.wrap m)) (u64.wrap b) rfl rfl F)<|go ?_;replace k:=k.kp H I;exact ⟨n,by omega,rfl,⟨_,_,_,_,_,rfl,a,k,D,C,C,rfl⟩⟩
  cases a;exact ⟨rfl,_,rfl,k.finL rfl (cm [(440,c)]),k.foL q,K⟩
def Zgt (a b:Int):Option Int:=
  (Zoa (⟨#[0,1,2,2,3,3,3,3,4,4,4,4,4,4,4,4,5,5,5,5,5,5,5,5,5,5,5,5,5,5,5,5,6,6,6,6,6,6,6,6,6,6,6,6,6,6,6,6,6,6,6,6,6,6,6,6,6,6,6,6,6,6,6,6,7,7,7,7,7,7,7,7,7,7,7,7,7,7,7,7,7,7,7,7,7,7,7,7,7,7,7,7,7,7,7,7,7,7,7,7,7,7,7,7,7,7,7,7,7,7,7,7,7,7,7,7,7,7,7,7,7,7,7,7,7,7,7,7,8,8,8,8,8,8,8,8,8,8,8,8,8,8,8,8,8,8,8,8,8,8,8,8,8,8,8,8,8,8,8,8,8,8,8,8,8,8,8,8,8,8,8,8,8,8,8,8,8,8,8,8,8,8,8,8,8,8,8,8,8,8,8,8,8,8,8,8,8,8,8,8,8,8,8,8,8,8,8,8,8,8,8,8,8,8,8,8,8,8,8,8,8,8,8,8,8,8,8,8,8,8,8,8,8,8,8,8,8,8,8,8,8,8,8,8,8,8,8,8,8,8,8,8,8,8,8,8]⟩) (u8.wrap a)).bind fun c=>some (i64.wrap (b+(i64.wrap c)))
def Zjn (a b:Int):Option Int:=
  if (decide (256≤a))=true then (Zgt (Y2 .u32 a 8) (i64.wrap (b+8))) else (Zgt a b)
def Zjm (a:Int):Option Int:=
  if (decide (65536≤a))=true then (Zjn (Y2 .u32 a 16) 16) else (Zjn a 0)
theorem Zvd {col:Ze} {b:World} {c r:Int} (a:Zjm c=some r):
    Calls prog 185 #[.int .u32 c] b (Wn b r):=by
 refine Xc 2 (m:=19) func185 rfl rfl rfl rfl rfl ?_;rw [Zjm.eq_1] at a;have d:=St.start col b;refine Zx<|W0<|Y6 rfl<|Zl<|Zx ?_;refine Wp.cutK [1000000] (fun g m=>∃ o h i,Zjn h i=some r∧St b (Zh col) o m∧[0,2].map g=[.int .u32 h,.int .i64 i]) ?_ ?_
 ·intro g m l;obtain ⟨o,h,i,a,d,f⟩:=l;rw [Zjn.eq_1] at a;refine .lL [0,2] f<|Zx ?_;refine Wp.cutK [1000000] (fun g n=>∃ p j k,Zgt j k=some r∧St b (Zh col) p n∧[0,2].map g=[.int .u32 j,.int .i64 k]) ?_ ?_
  ·intro g n l;obtain ⟨p,j,k,a,d,f⟩:=l;rw [Zgt.eq_1] at a;refine .lL [0,2] f<|go ?_;obtain ⟨q,s,a⟩:=bZ a;refine lV (.int .u8 q) (Xaz (s:=(⟨#[0,1,2,2,3,3,3,3,4,4,4,4,4,4,4,4,5,5,5,5,5,5,5,5,5,5,5,5,5,5,5,5,6,6,6,6,6,6,6,6,6,6,6,6,6,6,6,6,6,6,6,6,6,6,6,6,6,6,6,6,6,6,6,6,7,7,7,7,7,7,7,7,7,7,7,7,7,7,7,7,7,7,7,7,7,7,7,7,7,7,7,7,7,7,7,7,7,7,7,7,7,7,7,7,7,7,7,7,7,7,7,7,7,7,7,7,7,7,7,7,7,7,7,7,7,7,7,7,8,8,8,8,8,8,8,8,8,8,8,8,8,8,8,8,8,8,8,8,8,8,8,8,8,8,8,8,8,8,8,8,8,8,8,8,8,8,8,8,8,8,8,8,8,8,8,8,8,8,8,8,8,8,8,8,8,8,8,8,8,8,8,8,8,8,8,8,8,8,8,8,8,8,8,8,8,8,8,8,8,8,8,8,8,8,8,8,8,8,8,8,8,8,8,8,8,8,8,8,8,8,8,8,8,8,8,8,8,8,8,8,8,8,8,8,8,8,8,8,8,8,8,8,8,8,8,8]⟩)) underlying9 rfl rfl s)<|go ?_;cases a;exact ⟨rfl,rfl,d.below⟩
  refine go ?_;refine Zm a (fun e a=>go ?_) fun e a=>?_
  ·refine lV (.int .u32 (Y2 .u32 h 8)) (Q9 h 8 rfl rfl (by decide))<|go ?_;exact ⟨rfl,_,_,_,a,d,rfl⟩
  refine Xz ?_;exact ⟨rfl,_,_,_,a,d,rfl⟩
 refine go ?_;refine Zm a (fun e a=>go ?_) fun e a=>?_
 ·refine lV (.int .u32 (Y2 .u32 c 16)) (Q9 c 16 rfl rfl (by decide))<|go ?_;exact ⟨rfl,_,_,16,a,d,rfl⟩
 refine Xz ?_;exact ⟨rfl,_,_,0,a,d,rfl⟩
def Zmb (a:Int):Option Int:=
  (Zjm a).bind fun b=>some (i64.wrap (32 - b))
theorem Z5l {col:Ze} {b:World} {c r:Int} (a:Zmb c=some r):
    Calls prog 189 #[.int .u32 c] b (Wn b r):=by
 refine Xc 2 (m:=6) func189 rfl rfl rfl rfl rfl ?_;rw [Zmb.eq_1] at a;have g:=St.start col b;refine go ?_;obtain ⟨_,f,a⟩:=bZ a;refine Zi (Zvd (col:=(Zh col)) f) fun _ _ ⟨e,d⟩=>⟨_,e,?_⟩;replace d:=Rr (Zh col) d;refine go ?_;cases a;exact ⟨rfl,rfl,(g.grow d).below⟩
def Zez (b:Int):List Int→Nat→R2→Option R2
  | [],a,c=>some c
  | d :: f,a,c=>(Zk c (a:Int)).bind fun g=>Z2 (0≤b) ((some (c.set (aA (a:Int)) (Wf .u32 g (Yi .u32 d b)))).bind fun e=>Z2 (0≤b) ((Zk e (i64.wrap ((a:Int)+1))).bind fun j=>(some (e.set (aA (i64.wrap ((a:Int)+1))) (u32.wrap (Y2 .u64 (Yi .u64 (u64.wrap d) b) 32)))).bind fun i=>(Zez b f) (a+1) i))
def Zj1 (a:List Int) (b:Int):Option R2:=
  Z2 ((aA (i64.wrap ((a.length:Int)+1))) * 4≤281474976710656∧(aA (i64.wrap ((a.length:Int)+1)))≤maxLen∧0≤(i64.wrap ((a.length:Int)+1))) (Zez b a 0 (aD (aA (i64.wrap ((a.length:Int)+1))) (0:Int)))
theorem Zvh {G:Nat} {x:Option Addr} {col:Ze} {h:World} {g:R2} {a:Int} {r:R2} (D:Nat) (b:Zj1 g a=some r) (i:Sl rU col h x G g):
    Calls prog 190 #[.slice x g.length G,.int .i64 a] h (Vr .u32 45 D col h r):=by
 refine Xc 4 (m:=40) func190 rfl rfl rfl rfl rfl ?_;rw [Zj1.eq_1] at b;have d:=St.start col h;refine go ?_;obtain ⟨y,b⟩:=Z4 b;refine Sc (col:=(Zh col)) (w:=h) (r:=rU) (n:=(aA (i64.wrap ((g.length:Int)+1)))) (x0:=0) 1 rfl underlying38 Tryz.t45 rfl rfl rfl rfl rfl (congrArg (Value.int _) (bM y.2.2).symm) (congrArg (Value.int _) (bM y.2.2).symm) y.1 y.2.1 (Zcb .u32 0) fun _ _ _ N V=>go ?_;replace d:=d.grow N;refine Zt [1,12,13,1000000] (fun p L E=>∃ k l m n o t,p=t.length∧g.drop l=t∧Zez a t l o=some r∧St h (Zh col) k E∧Zb rU 45 1 k E m n o∧[14,5].map L=[.int .i64 l,.slice m o.length n]) g.length ⟨_,0,_,_,_,_,rfl,rfl,b,d,V,rfl⟩ ?_;clear b;intro p L E O;obtain ⟨k,l,m,n,o,t,J,B,b,d,w,K⟩:=O;subst J;refine .lL [14,5] K ?_;replace i:=i.k0
 cases t with
 | nil=>
  have s:¬ ((l:Int)<(g.length:Int)):=by have:=aJ.1 B;omega
  have e:=decide_eq_false s;rw [Zez.eq_1] at b;refine go ?_;refine Ym (congrArg Value.bool e)<|go ?_;cases b;exact ⟨rfl,_,_,_,rfl,d.fin (cm [(1,D)]),d.fo w⟩
 | cons f W=>
  obtain ⟨F,X,Y⟩:=Yt B;have s:(l:Int)<(g.length:Int):=by omega
  have e:=decide_eq_true s;rw [Zez.eq_2] at b;refine go ?_;refine Yn (congrArg Value.bool e)<|go ?_;refine lI F ((i.ks d).addr F)<|lW ((i.ks d).atInt F) ?_;refine go ?_;refine Y8 (col:=k) [(0,1),(1,1),(2,1),(3,0),(4,1),(5,1),(6,1),(7,1),(8,1),(9,2)] (by kernel_rfl) (by kernel_rfl)<|xu rfl rfl (fun _=>Vd rfl) ?_;refine xu rfl rfl (fun _=>Yd rfl) ?_;obtain ⟨C,j,b⟩:=bZ b;refine xu rfl rfl (fun _=>X8 underlying38 sizeOf45 rfl rfl (Z0 j).1 (Z0 j).2.1 (w.addr j)) ?_;refine xW (fun _ c=>(w.gr (c.bl k)).atInt j) ?_;refine xu rfl rfl (fun _=>Yd rfl) ?_;refine xu rfl rfl (fun _=>Yd rfl) ?_;obtain ⟨P,b⟩:=Z4 b;refine xu (v:=(.int .u32 (Yi .u32 f a))) rfl rfl (fun _=>Zid f a rfl rfl P) ?_;refine xu (v:=(.int .u32 (Wf .u32 C (Yi .u32 f a)))) rfl rfl (fun _=>Ztt C (Yi .u32 f a) rfl rfl) ?_;refine xu rfl rfl (fun _=>X8 underlying38 sizeOf45 rfl rfl (Z0 j).1 (Z0 j).2.1 (w.addr j)) ?_;refine xe rfl rfl ?_;intro _ q;have c:=q.bl k;obtain ⟨v,z,b⟩:=bZ b;have z:v=o.set (aA (l:Int)) (Wf .u32 C (Yi .u32 f a)):=(Option.some.inj z).symm;refine Wb (x1:=Wf .u32 C (Yi .u32 f a)) (w.gr c) j ?_;intro _ T U u;rw [← z] at u;refine .ld (d:=5) (v:=(.slice m v.length n)) (congrArg (fun p=>Value.slice m p n) (show o.length=v.length by rw [z,nS])) ?_;refine Zl<|xk k<|Y4 ?_;replace d:=(d.grow c).kp T U;intro _ c;replace c:=c.bl k;refine go ?_;obtain ⟨Q,b⟩:=Z4 b;refine lV (.int .u64 (Yi .u64 (u64.wrap f) a)) (Zid (u64.wrap f) a rfl rfl Q)<|lV (.int .u64 (Y2 .u64 (Yi .u64 (u64.wrap f) a) 32)) (Q9 (Yi .u64 (u64.wrap f) a) 32 rfl rfl (by decide))<|go ?_;obtain ⟨_,H,b⟩:=bZ b;replace u:=u.gr c;refine lI H (u.addr H) ?_;obtain ⟨I,A,b⟩:=bZ b;have A:I=v.set (aA (i64.wrap ((l:Int)+1))) (u32.wrap (Y2 .u64 (Yi .u64 (u64.wrap f) a) 32)):=(Option.some.inj A).symm;refine Wb (x1:=u32.wrap (Y2 .u64 (Yi .u64 (u64.wrap f) a) 32)) u H ?_;intro _ R S M;rw [← A] at M;refine .ld (d:=5) (v:=(.slice m I.length n)) (congrArg (fun p=>Value.slice m p n) (show v.length=I.length by rw [A,nS])) ?_;refine go ?_;replace d:=(d.grow c).kp R S
  exact ⟨W.length,by simp,rfl,⟨_,_,_,_,_,_,rfl,X,b,d,M,(Yz (congrArg (Value.int .i64) (Yv (aI Y (i.ks d).1.1))) rfl)⟩⟩
def Zmm (a:List Int) (kk_L1:(List Int→Option R2)) (b:Bool):Option R2:=
  if b=true then (Z2 ((0:Int)≤(i64.wrap ((a.length:Int) - 1))∧(i64.wrap ((a.length:Int) - 1))≤(a.length:Int)) (kk_L1 (a.take (aA (i64.wrap ((a.length:Int) - 1)))))) else (some a)
def Zc1 (N:Nat):Nat→R2→Option R2
  | 0,_=>none
  | b+1,a=>if (decide (0<(a.length:Int)))=true then ((Zk a (i64.wrap ((a.length:Int) - 1))).bind fun c=>Zmm a (Zc1 N b) (decide (c=0))) else (Zmm a (Zc1 N b) false)
def Zg5 (N:Nat) (a:List Int):Option R2:=
  Zc1 N N a
theorem Zvi {N y:Nat} {p:Option Addr} {col:Ze} {d:World} {k r:R2} (b:Nat) (a:Zg5 N k=some r) (q:Up [b]=true) (E:Zb rU 45 b col d p y k):
    Calls prog 159 #[.slice p k.length y] d (fun e w'=>∃ (col':Ze) (g:Option Addr) (f:Nat),e= .returned ((.slice g r.length f))∧Zu (pS [b]) col d col' w'∧Zb rU 45 b col' w' g f r):=by
 refine Xc 2 (m:=21) func159 rfl rfl rfl rfl rfl ?_;rw [Zg5.eq_1] at a;have i:=St.startL (l:=[b]) rfl col d;refine go ?_;refine Zt [1000000] (fun s o x=>∃ z j l c m,m=s∧Zc1 N m c=some r∧St d (Xe [b] col) z x∧Zb rU 45 440 z x j l c∧[0].map o=[.slice j c.length l]) N ⟨_,_,_,_,_,rfl,a,i,E.startL (Ur q 0 rfl) (Uq q 0 rfl),rfl⟩ ?_;clear a;intro s o x G;obtain ⟨z,j,l,c,m,D,a,i,h,n⟩:=G;subst D;refine .lL [0] n ?_
 cases m with
 | zero=>rw [Zc1.eq_1] at a;cases a
 | succ m=>
  rw [Zc1.eq_2] at a;refine Zx<|Zx ?_;refine Wp.cutK [0,1000000] (fun o u=>∃ v w,Zmm c (Zc1 N m) w=some r∧St d (Xe [b] col) v u∧Zb rU 45 440 v u j l c∧[14].map o=[.bool w]) ?_ ?_
  ·intro o u F;obtain ⟨v,w,a,i,h,n⟩:=F;rw [Zmm.eq_1] at a;refine .lL [14] n ?_;refine Zm a (fun C a=>go ?_) fun C a=>go ?_
   ·obtain ⟨B,a⟩:=Z4 a;refine lv (v:=.slice j (aA (i64.wrap ((c.length:Int) - 1))) l) rfl rfl (Zca underlying38 sizeOf45 rfl rfl B.1 (by have:=h.lecap;have:=B.2;omega))<|.ld (d:=19) (v:=(.slice j ((c.take (aA (i64.wrap ((c.length:Int) - 1)))).length) l)) (congrArg (fun s=>Value.slice j s l) (dC (show (aA (i64.wrap ((c.length:Int) - 1)))≤c.length by have:=B.2;omega)).symm) ?_;refine go ?_;exact ⟨m,by omega,rfl,⟨_,_,_,_,_,rfl,a,i,(h.take (aA (i64.wrap ((c.length:Int) - 1)))),rfl⟩⟩
   cases a;exact ⟨rfl,_,_,_,rfl,i.finL rfl (cm [(440,b)]),i.foL h⟩
  refine go ?_;refine Ye a (fun A a=>go ?_) fun A a=>go ?_
  ·obtain ⟨H,t,a⟩:=bZ a;refine lI t (h.addr t) ?_;refine go ?_;refine lW (h.atInt t)<|go ?_;refine lV (.bool (decide (H=0))) (X0 (congrArg Value.bool A) rfl)<|Zl ?_;exact ⟨rfl,_,_,a,i,h,rfl⟩
  refine lV (.bool false) (X7 (congrArg Value.bool A) rfl)<|Zl ?_;exact ⟨rfl,_,_,a,i,h,rfl⟩
def Zmi (a:Int) (b:List Int):Option R8:=
  some (u32.wrap a,b)
def Zey (j0 n0:Nat) (b:List Int) (e:Int):List Int→Nat→R2→Int→Option R8
  | [],a,c,d=>Z2 (0≤(b.length:Int)∧(b.length:Int)<(n0:Int)) ((Zk c ((j0:Int)+(b.length:Int))).bind fun i=>Z2 (0≤(b.length:Int)∧(b.length:Int)<(n0:Int)) ((Zk c ((j0:Int)+(b.length:Int))).bind fun m=>(some (c.set (aA ((j0:Int)+(b.length:Int))) (u32.wrap (i+(u32.wrap d))))).bind fun j=>Zmi (u64.wrap ((u64.wrap (e - 1)) - 1)) j))
  | f :: k,a,c,d=>Z2 (0≤(a:Int)∧(a:Int)<(n0:Int)) ((Zk c ((j0:Int)+(a:Int))).bind fun g=>Z2 (0≤(a:Int)∧(a:Int)<(n0:Int)) ((Zk c ((j0:Int)+(a:Int))).bind fun n=>(some (c.set (aA ((j0:Int)+(a:Int))) (u32.wrap (u64.wrap (d+(u64.wrap ((u64.wrap g)+(u64.wrap f)))))))).bind fun l=>(Zey j0 n0 b e k) (a+1) l (Y2 .u64 (u64.wrap (d+(u64.wrap ((u64.wrap g)+(u64.wrap f))))) 32)))
def Zpj (a:Nat) (kk_L2:(Nat→R2→Int→Int→Option R8)) (b:List Int) (c d:Int):Option R8:=
  kk_L2 (a+1) b c d
def Zmj (j0 n0:Nat) (c:Int) (b:List Int) (f:Int) (a:Nat) (d:Int) (kk_L2:(Nat→R2→Int→Int→Option R8)) (e g:Int):Option R8:=
  Z2 (0≤(a:Int)∧(a:Int)<(n0:Int)) ((Zk b ((j0:Int)+(a:Int))).bind fun i=>Z2 (0≤(a:Int)∧(a:Int)<(n0:Int)) ((Zk b ((j0:Int)+(a:Int))).bind fun k=>(some (b.set (aA ((j0:Int)+(a:Int))) (u32.wrap (i - (u32.wrap (u64.wrap ((Sb .u64 (u64.wrap (d+(u64.wrap ((u64.wrap (c - 1)) * (u64.wrap e))))) 4294967295)+f))))))).bind fun j=>Zpj a kk_L2 j g (Y2 .u64 (u64.wrap (d+(u64.wrap ((u64.wrap (c - 1)) * (u64.wrap e))))) 32)))
def Zaq (j0 n0:Nat) (a:List Int) (c:Int):List Int→Nat→R2→Int→Int→Option R8
  | [],d,b,e,f=>Z2 (0≤(a.length:Int)∧(a.length:Int)<(n0:Int)) ((Zk b ((j0:Int)+(a.length:Int))).bind fun k=>Z2 (0≤(a.length:Int)∧(a.length:Int)<(n0:Int)) ((Zk b ((j0:Int)+(a.length:Int))).bind fun l=>Z2 (0≤(a.length:Int)∧(a.length:Int)<(n0:Int)) ((Zk b ((j0:Int)+(a.length:Int))).bind fun n=>(some (b.set (aA ((j0:Int)+(a.length:Int))) (u32.wrap (l - (u32.wrap (u64.wrap (f+e))))))).bind fun i=>if (decide ((u64.wrap k)<(u64.wrap (f+e))))=true then (Zey j0 n0 a c a 0 i 0) else (Zmi (u64.wrap (c - 1)) i))))
  | g :: j,d,b,e,f=>Z2 (0≤(d:Int)∧(d:Int)<(n0:Int)) ((Zk b ((j0:Int)+(d:Int))).bind fun m=>if (decide ((u64.wrap m)<(u64.wrap ((Sb .u64 (u64.wrap (f+(u64.wrap ((u64.wrap (c - 1)) * (u64.wrap g))))) 4294967295)+e))))=true then (Zmj j0 n0 c b e d f (Zaq j0 n0 a c j) g 1) else (Zmj j0 n0 c b e d f (Zaq j0 n0 a c j) g 0))
def Zmh (j0 n0:Nat) (e a:List Int) (b c:Int) (kk_L1:(Int→Int→Option R8)):Option R8:=
  (Zk a (i64.wrap ((a.length:Int) - 1))).bind fun d=>if (decide (4294967295<(u64.wrap (c+(u64.wrap d)))))=true then (Zaq j0 n0 a b a 0 e 0 0) else (kk_L1 (u64.wrap (b - 1)) (u64.wrap (c+(u64.wrap d))))
def Zcz (a:Int) (b:List Int):Option R8:=
  some (u32.wrap a,b)
def S1 (j0 n0:Nat) (b:List Int) (e:Int):List Int→Nat→R2→Int→Option R8
  | [],a,c,d=>Z2 (0≤(b.length:Int)∧(b.length:Int)<(n0:Int)) ((Zk c ((j0:Int)+(b.length:Int))).bind fun i=>Z2 (0≤(b.length:Int)∧(b.length:Int)<(n0:Int)) ((Zk c ((j0:Int)+(b.length:Int))).bind fun m=>(some (c.set (aA ((j0:Int)+(b.length:Int))) (u32.wrap (i+(u32.wrap d))))).bind fun j=>Zcz (u64.wrap (e - 1)) j))
  | f :: k,a,c,d=>Z2 (0≤(a:Int)∧(a:Int)<(n0:Int)) ((Zk c ((j0:Int)+(a:Int))).bind fun g=>Z2 (0≤(a:Int)∧(a:Int)<(n0:Int)) ((Zk c ((j0:Int)+(a:Int))).bind fun n=>(some (c.set (aA ((j0:Int)+(a:Int))) (u32.wrap (u64.wrap (d+(u64.wrap ((u64.wrap g)+(u64.wrap f)))))))).bind fun l=>(S1 j0 n0 b e k) (a+1) l (Y2 .u64 (u64.wrap (d+(u64.wrap ((u64.wrap g)+(u64.wrap f))))) 32)))
def Zmk (a:Nat) (kk_L4:(Nat→R2→Int→Int→Option R8)) (b:List Int) (c d:Int):Option R8:=
  kk_L4 (a+1) b c d
def Zg3 (j0 n0:Nat) (c:Int) (b:List Int) (f:Int) (a:Nat) (d:Int) (kk_L4:(Nat→R2→Int→Int→Option R8)) (e g:Int):Option R8:=
  Z2 (0≤(a:Int)∧(a:Int)<(n0:Int)) ((Zk b ((j0:Int)+(a:Int))).bind fun i=>Z2 (0≤(a:Int)∧(a:Int)<(n0:Int)) ((Zk b ((j0:Int)+(a:Int))).bind fun k=>(some (b.set (aA ((j0:Int)+(a:Int))) (u32.wrap (i - (u32.wrap (u64.wrap ((Sb .u64 (u64.wrap (d+(u64.wrap (c * (u64.wrap e))))) 4294967295)+f))))))).bind fun j=>Zmk a kk_L4 j g (Y2 .u64 (u64.wrap (d+(u64.wrap (c * (u64.wrap e))))) 32)))
def Uw (j0 n0:Nat) (a:List Int) (c:Int):List Int→Nat→R2→Int→Int→Option R8
  | [],d,b,e,f=>Z2 (0≤(a.length:Int)∧(a.length:Int)<(n0:Int)) ((Zk b ((j0:Int)+(a.length:Int))).bind fun k=>Z2 (0≤(a.length:Int)∧(a.length:Int)<(n0:Int)) ((Zk b ((j0:Int)+(a.length:Int))).bind fun l=>Z2 (0≤(a.length:Int)∧(a.length:Int)<(n0:Int)) ((Zk b ((j0:Int)+(a.length:Int))).bind fun n=>(some (b.set (aA ((j0:Int)+(a.length:Int))) (u32.wrap (l - (u32.wrap (u64.wrap (f+e))))))).bind fun i=>if (decide ((u64.wrap k)<(u64.wrap (f+e))))=true then (S1 j0 n0 a c a 0 i 0) else (Zcz c i))))
  | g :: j,d,b,e,f=>Z2 (0≤(d:Int)∧(d:Int)<(n0:Int)) ((Zk b ((j0:Int)+(d:Int))).bind fun m=>if (decide ((u64.wrap m)<(u64.wrap ((Sb .u64 (u64.wrap (f+(u64.wrap (c * (u64.wrap g))))) 4294967295)+e))))=true then (Zg3 j0 n0 c b e d f (Uw j0 n0 a c j) g 1) else (Zg3 j0 n0 c b e d f (Uw j0 n0 a c j) g 0))
def Zg2 (j0 n0:Nat) (b a:List Int) (c d:Int) (kk_L1:(Int→Int→Option R8)) (e:Bool):Option R8:=
  if e=true then (Zmh j0 n0 b a c d kk_L1) else (Uw j0 n0 a c a 0 b 0 0)
def Qx (N j0 n0:Nat) (b a:List Int):Nat→Int→Int→Option R8
  | 0,_,_=>none
  | e+1,c,d=>if (decide (4294967295<c))=true then (Zg2 j0 n0 b a c d (Qx N j0 n0 b a e) true) else (if (decide (d≤4294967295))=true then ((Zk a (i64.wrap ((a.length:Int) - 2))).bind fun f=>Z2 (0≤(i64.wrap ((a.length:Int) - 2))∧(i64.wrap ((a.length:Int) - 2))<(n0:Int)) ((Zk b ((j0:Int)+(i64.wrap ((a.length:Int) - 2)))).bind fun g=>Zg2 j0 n0 b a c d (Qx N j0 n0 b a e) (decide ((Wf .u64 (Yi .u64 d 32) (u64.wrap g))<(u64.wrap (c * (u64.wrap f))))))) else (Zg2 j0 n0 b a c d (Qx N j0 n0 b a e) false))
def Zj0 (N j0 n0:Nat) (c a:List Int):Option R8:=
  Z2 (0≤(a.length:Int)∧(a.length:Int)<(n0:Int)) ((Zk c ((j0:Int)+(a.length:Int))).bind fun d=>Z2 (0≤(i64.wrap ((a.length:Int) - 1))∧(i64.wrap ((a.length:Int) - 1))<(n0:Int)) ((Zk c ((j0:Int)+(i64.wrap ((a.length:Int) - 1)))).bind fun e=>(Zk a (i64.wrap ((a.length:Int) - 1))).bind fun b=>Z2 ((u64.wrap b)≠0) (Z2 ((u64.wrap b)≠0) (Qx N j0 n0 c a N (u64.wrap (aR (Wf .u64 (Yi .u64 (u64.wrap d) 32) (u64.wrap e)) (u64.wrap b))) (bK (Wf .u64 (Yi .u64 (u64.wrap d) 32) (u64.wrap e)) (u64.wrap b))))))
theorem Z5v {N g j0 p f R:Nat} {h i:Option Addr} {col:Ze} {o:World} {c b:R2} {r:R8} (d:Nat) (a:Zj0 N j0 p c b=some r) (S:Up [d]=true) (k:Zb rU 45 d col o h g c) (m:Sl rU col o i R b):
    Calls prog 191 #[.slice (h.map (·.add (j0 * 1))) p f,.slice i b.length R] o (fun e w'=>∃ (col':Ze),e= .returned ((.int .u32 r.1))∧Zu (pS [d]) col o col' w'∧Zb rU 45 d col' w' h g r.2∧r.2.length=c.length):=by
 refine Xc 4 (m:=178) func191 rfl rfl rfl rfl rfl ?_;rw [Zj0.eq_1] at a;have f:=St.startL (l:=[d]) rfl col o;replace k:=k.startL (Ur S 0 rfl) (Uq S 0 rfl);refine go ?_;refine Wg (col:=(Xe [d] col)) (by kernel_rfl) (by kernel_rfl)<|go ?_;obtain ⟨q,a⟩:=Z4 a;obtain ⟨n,S,a⟩:=bZ a;refine qv (v:=(Yj h (aA ((j0:Int)+(b.length:Int)) * 1))) rfl (fun _ i=>Vu underlying38 sizeOf45 rfl rfl q.1 q.2 (k.addr S)) ?_;refine qW (fun _ i=>(k.gr (i.bl (Xe [d] col))).atInt S) ?_;refine go ?_;refine qv (v:=(.int .u64 (Yi .u64 (u64.wrap n) 32))) rfl (fun _ i=>Zid (u64.wrap n) 32 rfl rfl (by decide)) ?_;refine go ?_;obtain ⟨R,a⟩:=Z4 a;obtain ⟨u,q,a⟩:=bZ a;refine qv (v:=(Yj h (aA ((j0:Int)+(i64.wrap ((b.length:Int) - 1))) * 1))) rfl (fun _ i=>Vu underlying38 sizeOf45 rfl rfl R.1 R.2 (k.addr q)) ?_;refine qW (fun _ i=>(k.gr (i.bl (Xe [d] col))).atInt q) ?_;refine go ?_;refine Y1 ?_;intro _ i;replace m:=m.keep (X5.startL [d] col o);replace i:=i.bl (Xe [d] col);refine go ?_;obtain ⟨q,l,a⟩:=bZ a;replace f:=f.grow i;refine lI l ((m.ks f).addr l)<|lW ((m.ks f).atInt l) ?_;refine go ?_;obtain ⟨R,a⟩:=Z4 a;refine lV (.int .u64 (u64.wrap (aR (Wf .u64 (Yi .u64 (u64.wrap n) 32) (u64.wrap u)) (u64.wrap q)))) (Vy (Wf .u64 (Yi .u64 (u64.wrap n) 32) (u64.wrap u)) (u64.wrap q) rfl rfl R)<|go ?_;refine lI l ((m.ks f).addr l)<|lW ((m.ks f).atInt l) ?_;refine go ?_;obtain ⟨z,a⟩:=Z4 a;refine lV (.int .u64 (bK (Wf .u64 (Yi .u64 (u64.wrap n) 32) (u64.wrap u)) (u64.wrap q))) (S9 (Wf .u64 (Yi .u64 (u64.wrap n) 32) (u64.wrap u)) (u64.wrap q) rfl rfl z)<|go ?_;replace k:=k.gr i;refine Zt [0,1,5,1000000] (fun A n z=>∃ S q R X,X=A∧Qx N j0 p c b X q R=some r∧St o (Xe [d] col) S z∧Zb rU 45 440 S z h g c∧[7,8].map n=[.int .u64 q,.int .u64 R]) N ⟨_,_,_,_,rfl,a,f,k,rfl⟩ ?_;clear a;intro A n z Q;obtain ⟨S,q,R,X,v,a,f,k,l⟩:=Q;subst v;refine .lL [7,8] l ?_
 cases X with
 | zero=>rw [Qx.eq_1] at a;cases a
 | succ X=>
  rw [Qx.eq_2] at a;refine Zx ?_;refine Wp.cutK [0,1,5,7,8,1000000] (fun n t=>∃ u,Zmh j0 p c b q R (Qx N j0 p c b X)=some r∧St o (Xe [d] col) u t∧Zb rU 45 440 u t h g c) ?_ ?_
  ·intro n t z;obtain ⟨u,a,f,k⟩:=z;rw [Zmh.eq_1] at a;refine go ?_;obtain ⟨_,s,a⟩:=bZ a;refine lI s ((m.ks f).addr s)<|lW ((m.ks f).atInt s) ?_;refine go ?_;refine Zm a (fun u a=>?_) fun u a=>?_
   ·refine Zre (Z8z rfl (Zo7 ?_));refine go ?_;refine Zt [0,1,5,7,87,88,1000000] (fun A n K=>∃ M G W E C j,A=j.length∧b.drop E=j∧Zaq j0 p b q j E G W C=some r∧St o (Xe [d] col) M K∧Zb rU 45 440 M K h g G∧G.length=c.length∧G.length=c.length∧[89,10,9].map n=[.int .i64 E,.int .u64 W,.int .u64 C]) b.length ⟨_,_,0,0,0,_,rfl,rfl,a,f,k,rfl,rfl,rfl⟩ ?_;clear a;intro A n K Q;obtain ⟨M,G,W,E,C,j,v,t,a,f,x,ce,_,l⟩:=Q;subst v;refine .lL [89,10,9] l ?_
    cases j with
    | nil=>
     have s:¬ ((E:Int)<(b.length:Int)):=by have:=aJ.1 t;omega
     have j:=decide_eq_false s;rw [Zaq.eq_1] at a;refine go ?_;refine Ym (congrArg Value.bool j)<|go ?_;obtain ⟨y,a⟩:=Z4 a;obtain ⟨_,V,a⟩:=bZ a;refine lV (Yj h (aA ((j0:Int)+(b.length:Int)) * 1)) (Vu underlying38 sizeOf45 rfl rfl y.1 y.2 (x.addr V))<|lW (x.atInt V)<|go ?_;obtain ⟨P,a⟩:=Z4 a;obtain ⟨T,Y,a⟩:=bZ a;refine lV (Yj h (aA ((j0:Int)+(b.length:Int)) * 1)) (Vu underlying38 sizeOf45 rfl rfl P.1 P.2 (x.addr Y))<|lW (x.atInt Y)<|go ?_;obtain ⟨I,a⟩:=Z4 a;obtain ⟨_,y,a⟩:=bZ a;refine lV (Yj h (aA ((j0:Int)+(b.length:Int)) * 1)) (Vu underlying38 sizeOf45 rfl rfl I.1 I.2 (x.addr y)) ?_;obtain ⟨I,w,a⟩:=bZ a;have w:I=G.set (aA ((j0:Int)+(b.length:Int))) (u32.wrap (T - (u32.wrap (u64.wrap (C+W))))):=(Option.some.inj w).symm;refine Wb (x1:=u32.wrap (T - (u32.wrap (u64.wrap (C+W))))) x y ?_;intro _ K L Y;rw [← w] at Y;have V:I.length=c.length:=(show G.length=I.length by rw [w,nS]).symm.trans ce;refine Zl<|Zx ?_;replace f:=f.kp K L;refine Wp.cutK [1000000] (fun n y=>∃ L M Z,Zmi M Z=some r∧St o (Xe [d] col) L y∧Zb rU 45 440 L y h g Z∧Z.length=c.length∧[7].map n=[.int .u64 M]) ?_ ?_
     ·intro n y z;obtain ⟨L,M,Z,a,f,w,y,l⟩:=z;rw [Zmi.eq_1] at a;refine .lL [7] l<|go ?_;cases a;exact ⟨rfl,_,rfl,f.finL rfl (cm [(440,d)]),f.foL w,y⟩
     refine go ?_;refine Zm a (fun u a=>go ?_) fun u a=>?_
     ·refine Zt [0,143,144,5,7,1000000] (fun A n F=>∃ H K I M Z,A=Z.length∧b.drop I=Z∧Zey j0 p b q Z I K M=some r∧St o (Xe [d] col) H F∧Zb rU 45 440 H F h g K∧K.length=c.length∧K.length=c.length∧[145,9].map n=[.int .i64 I,.int .u64 M]) b.length ⟨_,_,0,0,_,rfl,rfl,a,f,Y,V,V,rfl⟩ ?_;clear a;intro A n F Q;obtain ⟨H,K,I,M,Z,v,t,a,f,U,ed,L,l⟩:=Q;subst v;refine .lL [145,9] l ?_
      cases Z with
      | nil=>
       have s:¬ ((I:Int)<(b.length:Int)):=by have:=aJ.1 t;omega
       have j:=decide_eq_false s;rw [Zey.eq_1] at a;refine go ?_;refine Ym (congrArg Value.bool j)<|go ?_;obtain ⟨T,a⟩:=Z4 a;obtain ⟨O,Z,a⟩:=bZ a;refine lV (Yj h (aA ((j0:Int)+(b.length:Int)) * 1)) (Vu underlying38 sizeOf45 rfl rfl T.1 T.2 (U.addr Z))<|lW (U.atInt Z)<|go ?_;obtain ⟨J,a⟩:=Z4 a;obtain ⟨_,D,a⟩:=bZ a;refine lV (Yj h (aA ((j0:Int)+(b.length:Int)) * 1)) (Vu underlying38 sizeOf45 rfl rfl J.1 J.2 (U.addr D)) ?_;obtain ⟨y,w,a⟩:=bZ a;have w:y=K.set (aA ((j0:Int)+(b.length:Int))) (u32.wrap (O+(u32.wrap M))):=(Option.some.inj w).symm;refine Wb (x1:=u32.wrap (O+(u32.wrap M))) U D ?_;intro _ F H B;rw [← w] at B;have J:y.length=c.length:=(show K.length=y.length by rw [w,nS]).symm.trans L;refine Zl ?_;replace f:=f.kp F H;exact ⟨rfl,_,_,_,a,f,B,J,rfl⟩
      | cons H Z=>
       obtain ⟨y,ej,ek⟩:=Yt t;have s:(I:Int)<(b.length:Int):=by omega
       have j:=decide_eq_true s;rw [Zey.eq_2] at a;refine go ?_;refine Yn (congrArg Value.bool j)<|go ?_;refine lI y ((m.ks f).addr y)<|lW ((m.ks f).atInt y) ?_;refine go ?_;obtain ⟨D,a⟩:=Z4 a;obtain ⟨F,L,a⟩:=bZ a;refine lV (Yj h (aA ((j0:Int)+(I:Int)) * 1)) (Vu underlying38 sizeOf45 rfl rfl D.1 D.2 (U.addr L))<|lW (U.atInt L)<|go ?_;obtain ⟨w,a⟩:=Z4 a;obtain ⟨_,J,a⟩:=bZ a;refine lV (Yj h (aA ((j0:Int)+(I:Int)) * 1)) (Vu underlying38 sizeOf45 rfl rfl w.1 w.2 (U.addr J)) ?_;obtain ⟨O,B,a⟩:=bZ a;have B:O=K.set (aA ((j0:Int)+(I:Int))) (u32.wrap (u64.wrap (M+(u64.wrap ((u64.wrap F)+(u64.wrap H)))))):=(Option.some.inj B).symm;refine Wb (x1:=u32.wrap (u64.wrap (M+(u64.wrap ((u64.wrap F)+(u64.wrap H)))))) U J ?_;intro _ P T L;rw [← B] at L;have I:O.length=c.length:=(show K.length=O.length by rw [B,nS]).symm.trans ed;refine go ?_;refine lV (.int .u64 (Y2 .u64 (u64.wrap (M+(u64.wrap ((u64.wrap F)+(u64.wrap H))))) 32)) (Q9 (u64.wrap (M+(u64.wrap ((u64.wrap F)+(u64.wrap H))))) 32 rfl rfl (by decide))<|go ?_;replace f:=f.kp P T;exact ⟨Z.length,by simp,rfl,⟨_,_,_,_,_,rfl,ej,a,f,L,I,I,(Yz (congrArg (Value.int .i64) (Yv (aI ek (m.ks f).1.1))) rfl)⟩⟩
     refine Xz ?_;exact ⟨rfl,_,_,_,a,f,Y,V,rfl⟩
    | cons P U=>
     obtain ⟨y,V,H⟩:=Yt t;have s:(E:Int)<(b.length:Int):=by omega
     have j:=decide_eq_true s;rw [Zaq.eq_2] at a;refine go ?_;refine Yn (congrArg Value.bool j)<|Xz<|Zx ?_;refine Wp.cutK [0,1,5,7,87,88,89,1000000] (fun n Z=>∃ w F B D,Zpj E (Zaq j0 p b q U) F B D=some r∧St o (Xe [d] col) w Z∧Zb rU 45 440 w Z h g F∧F.length=c.length∧F.length=c.length∧[10,9].map n=[.int .u64 B,.int .u64 D]) ?_ ?_
     ·intro n Z z;obtain ⟨w,F,B,D,a,f,Y,B,D,l⟩:=z;rw [Zpj.eq_1] at a;refine .lL [10,9] l<|go ?_;exact ⟨U.length,by simp,rfl,⟨_,_,_,_,_,_,rfl,V,a,f,Y,B,D,(Yz (congrArg (Value.int .i64) (Yv (aI H (m.ks f).1.1))) rfl)⟩⟩
     refine go ?_;refine lI y ((m.ks f).addr y)<|lW ((m.ks f).atInt y)<|Y6 rfl<|Y6 rfl<|Zl<|Zx<|W0<|Xk rfl<|Xk rfl<|Xk rfl<|lV (.int .u64 (u64.wrap P)) (Zns P ⟨_,underlying45⟩ underlying144 rfl)<|lV _ (Zic _ _ rfl rfl)<|lV _ (S8 _ _ rfl rfl)<|Y6 rfl<|Zl<|Zx<|W0<|Xk rfl<|lV (.int .u64 (Sb .u64 (u64.wrap (C+(u64.wrap ((u64.wrap (q - 1)) * (u64.wrap P))))) 4294967295)) (Zqo (u64.wrap (C+(u64.wrap ((u64.wrap (q - 1)) * (u64.wrap P))))) 4294967295 rfl rfl)<|Xk rfl<|lV _ (S8 _ _ rfl rfl)<|Y6 rfl<|Zl<|Zx<|W0<|Y6 rfl<|Zl<|Zx ?_;refine Wp.cutK [0,1,11,13,5,7,87,88,89,9,1000000] (fun n T=>∃ V Y,Zmj j0 p q G W E C (Zaq j0 p b q U) P Y=some r∧St o (Xe [d] col) V T∧Zb rU 45 440 V T h g G∧[10].map n=[.int .u64 Y]) ?_ ?_
     ·intro n T z;obtain ⟨V,Y,a,f,x,l⟩:=z;rw [Zmj.eq_1] at a;refine .lL [10] l<|go ?_;obtain ⟨H,a⟩:=Z4 a;obtain ⟨V,K,a⟩:=bZ a;refine lV (Yj h (aA ((j0:Int)+(E:Int)) * 1)) (Vu underlying38 sizeOf45 rfl rfl H.1 H.2 (x.addr K))<|lW (x.atInt K)<|go ?_;obtain ⟨B,a⟩:=Z4 a;obtain ⟨_,U,a⟩:=bZ a;refine lV (Yj h (aA ((j0:Int)+(E:Int)) * 1)) (Vu underlying38 sizeOf45 rfl rfl B.1 B.2 (x.addr U)) ?_;obtain ⟨T,D,a⟩:=bZ a;have D:T=G.set (aA ((j0:Int)+(E:Int))) (u32.wrap (V - (u32.wrap (u64.wrap ((Sb .u64 (u64.wrap (C+(u64.wrap ((u64.wrap (q - 1)) * (u64.wrap P))))) 4294967295)+W))))):=(Option.some.inj D).symm;refine Wb (x1:=u32.wrap (V - (u32.wrap (u64.wrap ((Sb .u64 (u64.wrap (C+(u64.wrap ((u64.wrap (q - 1)) * (u64.wrap P))))) 4294967295)+W))))) x U ?_;intro _ W U H;rw [← D] at H;have F:T.length=c.length:=(show G.length=T.length by rw [D,nS]).symm.trans ce;refine go ?_;refine lV (.int .u64 (Y2 .u64 (u64.wrap (C+(u64.wrap ((u64.wrap (q - 1)) * (u64.wrap P))))) 32)) (Q9 (u64.wrap (C+(u64.wrap ((u64.wrap (q - 1)) * (u64.wrap P))))) 32 rfl rfl (by decide))<|go ?_;replace f:=f.kp W U;exact ⟨rfl,_,_,_,_,a,f,H,F,F,rfl⟩
     refine go ?_;obtain ⟨C,a⟩:=Z4 a;obtain ⟨_,G,a⟩:=bZ a;refine lV (Yj h (aA ((j0:Int)+(E:Int)) * 1)) (Vu underlying38 sizeOf45 rfl rfl C.1 C.2 (x.addr G))<|lW (x.atInt G)<|go ?_;refine Zm a (fun u a=>go ?_) fun u a=>?_
     ·exact ⟨rfl,_,1,a,f,x,rfl⟩
     refine Xz ?_;exact ⟨rfl,_,0,a,f,x,rfl⟩
   refine Xz ?_;exact ⟨X,by omega,rfl,⟨_,_,_,_,rfl,a,f,k,rfl⟩⟩
  refine Zx ?_;refine Wp.cutK [0,1,5,7,8,1000000] (fun n I=>∃ O P,Zg2 j0 p c b q R (Qx N j0 p c b X) P=some r∧St o (Xe [d] col) O I∧Zb rU 45 440 O I h g c∧[74].map n=[.bool P]) ?_ ?_
  ·intro n I z;obtain ⟨O,P,a,f,k,l⟩:=z;rw [Zg2.eq_1] at a;refine .lL [74] l ?_;refine Zm a (fun u a=>?_) fun u a=>go ?_
   ·refine Xz ?_;exact ⟨rfl,_,a,f,k⟩
   refine Zt [0,1,5,7,87,88,1000000] (fun A n J=>∃ L F V D B x,A=x.length∧b.drop D=x∧Uw j0 p b q x D F V B=some r∧St o (Xe [d] col) L J∧Zb rU 45 440 L J h g F∧F.length=c.length∧F.length=c.length∧[89,10,9].map n=[.int .i64 D,.int .u64 V,.int .u64 B]) b.length ⟨_,_,0,0,0,_,rfl,rfl,a,f,k,rfl,rfl,rfl⟩ ?_;clear a;intro A n J Q;obtain ⟨L,F,V,D,B,x,v,t,a,f,w,Z,_,l⟩:=Q;subst v;refine .lL [89,10,9] l ?_
   cases x with
   | nil=>
    have s:¬ ((D:Int)<(b.length:Int)):=by have:=aJ.1 t;omega
    have j:=decide_eq_false s;rw [Uw.eq_1] at a;refine go ?_;refine Ym (congrArg Value.bool j)<|go ?_;obtain ⟨E,a⟩:=Z4 a;obtain ⟨_,W,a⟩:=bZ a;refine lV (Yj h (aA ((j0:Int)+(b.length:Int)) * 1)) (Vu underlying38 sizeOf45 rfl rfl E.1 E.2 (w.addr W))<|lW (w.atInt W)<|go ?_;obtain ⟨U,a⟩:=Z4 a;obtain ⟨P,x,a⟩:=bZ a;refine lV (Yj h (aA ((j0:Int)+(b.length:Int)) * 1)) (Vu underlying38 sizeOf45 rfl rfl U.1 U.2 (w.addr x))<|lW (w.atInt x)<|go ?_;obtain ⟨M,a⟩:=Z4 a;obtain ⟨_,E,a⟩:=bZ a;refine lV (Yj h (aA ((j0:Int)+(b.length:Int)) * 1)) (Vu underlying38 sizeOf45 rfl rfl M.1 M.2 (w.addr E)) ?_;obtain ⟨G,x,a⟩:=bZ a;have x:G=F.set (aA ((j0:Int)+(b.length:Int))) (u32.wrap (P - (u32.wrap (u64.wrap (B+V))))):=(Option.some.inj x).symm;refine Wb (x1:=u32.wrap (P - (u32.wrap (u64.wrap (B+V))))) w E ?_;intro _ I M W;rw [← x] at W;have P:G.length=c.length:=(show F.length=G.length by rw [x,nS]).symm.trans Z;refine Zl<|Zx ?_;replace f:=f.kp I M;refine Wp.cutK [1000000] (fun n G=>∃ J K Y,Zcz K Y=some r∧St o (Xe [d] col) J G∧Zb rU 45 440 J G h g Y∧Y.length=c.length∧[7].map n=[.int .u64 K]) ?_ ?_
    ·intro n G z;obtain ⟨J,K,Y,a,f,X,x,l⟩:=z;rw [Zcz.eq_1] at a;refine .lL [7] l<|go ?_;cases a;exact ⟨rfl,_,rfl,f.finL rfl (cm [(440,d)]),f.foL X,x⟩
    refine go ?_;refine Zm a (fun u a=>go ?_) fun u a=>?_
    ·refine Zt [0,143,144,5,7,1000000] (fun A n C=>∃ E J H L X,A=X.length∧b.drop H=X∧S1 j0 p b q X H J L=some r∧St o (Xe [d] col) E C∧Zb rU 45 440 E C h g J∧J.length=c.length∧J.length=c.length∧[145,9].map n=[.int .i64 H,.int .u64 L]) b.length ⟨_,_,0,0,_,rfl,rfl,a,f,W,P,P,rfl⟩ ?_;clear a;intro A n C Q;obtain ⟨E,J,H,L,X,v,t,a,f,T,U,Y,l⟩:=Q;subst v;refine .lL [145,9] l ?_
     cases X with
     | nil=>
      have s:¬ ((H:Int)<(b.length:Int)):=by have:=aJ.1 t;omega
      have j:=decide_eq_false s;rw [S1.eq_1] at a;refine go ?_;refine Ym (congrArg Value.bool j)<|go ?_;obtain ⟨X,a⟩:=Z4 a;obtain ⟨Q,v,a⟩:=bZ a;refine lV (Yj h (aA ((j0:Int)+(b.length:Int)) * 1)) (Vu underlying38 sizeOf45 rfl rfl X.1 X.2 (T.addr v))<|lW (T.atInt v)<|go ?_;obtain ⟨O,a⟩:=Z4 a;obtain ⟨_,C,a⟩:=bZ a;refine lV (Yj h (aA ((j0:Int)+(b.length:Int)) * 1)) (Vu underlying38 sizeOf45 rfl rfl O.1 O.2 (T.addr C)) ?_;obtain ⟨x,v,a⟩:=bZ a;have v:x=J.set (aA ((j0:Int)+(b.length:Int))) (u32.wrap (Q+(u32.wrap L))):=(Option.some.inj v).symm;refine Wb (x1:=u32.wrap (Q+(u32.wrap L))) T C ?_;intro _ C E A;rw [← v] at A;have G:x.length=c.length:=(show J.length=x.length by rw [v,nS]).symm.trans Y;refine Zl ?_;replace f:=f.kp C E;exact ⟨rfl,_,_,_,a,f,A,G,rfl⟩
     | cons E X=>
      obtain ⟨y,x,I⟩:=Yt t;have s:(H:Int)<(b.length:Int):=by omega
      have j:=decide_eq_true s;rw [S1.eq_2] at a;refine go ?_;refine Yn (congrArg Value.bool j)<|go ?_;refine lI y ((m.ks f).addr y)<|lW ((m.ks f).atInt y) ?_;refine go ?_;obtain ⟨A,a⟩:=Z4 a;obtain ⟨C,Q,a⟩:=bZ a;refine lV (Yj h (aA ((j0:Int)+(H:Int)) * 1)) (Vu underlying38 sizeOf45 rfl rfl A.1 A.2 (T.addr Q))<|lW (T.atInt Q)<|go ?_;obtain ⟨v,a⟩:=Z4 a;obtain ⟨_,K,a⟩:=bZ a;refine lV (Yj h (aA ((j0:Int)+(H:Int)) * 1)) (Vu underlying38 sizeOf45 rfl rfl v.1 v.2 (T.addr K)) ?_;obtain ⟨v,A,a⟩:=bZ a;have A:v=J.set (aA ((j0:Int)+(H:Int))) (u32.wrap (u64.wrap (L+(u64.wrap ((u64.wrap C)+(u64.wrap E)))))):=(Option.some.inj A).symm;refine Wb (x1:=u32.wrap (u64.wrap (L+(u64.wrap ((u64.wrap C)+(u64.wrap E)))))) T K ?_;intro _ O Q M;rw [← A] at M;have G:v.length=c.length:=(show J.length=v.length by rw [A,nS]).symm.trans U;refine go ?_;refine lV (.int .u64 (Y2 .u64 (u64.wrap (L+(u64.wrap ((u64.wrap C)+(u64.wrap E))))) 32)) (Q9 (u64.wrap (L+(u64.wrap ((u64.wrap C)+(u64.wrap E))))) 32 rfl rfl (by decide))<|go ?_;replace f:=f.kp O Q;exact ⟨X.length,by simp,rfl,⟨_,_,_,_,_,rfl,x,a,f,M,G,G,(Yz (congrArg (Value.int .i64) (Yv (aI I (m.ks f).1.1))) rfl)⟩⟩
    refine Xz ?_;exact ⟨rfl,_,_,_,a,f,W,P,rfl⟩
   | cons O A=>
    obtain ⟨y,v,W⟩:=Yt t;have s:(D:Int)<(b.length:Int):=by omega
    have j:=decide_eq_true s;rw [Uw.eq_2] at a;refine go ?_;refine Yn (congrArg Value.bool j)<|Xz<|Zx ?_;refine Wp.cutK [0,1,5,7,87,88,89,1000000] (fun n X=>∃ j Q s t,Zmk D (Uw j0 p b q A) Q s t=some r∧St o (Xe [d] col) j X∧Zb rU 45 440 j X h g Q∧Q.length=c.length∧Q.length=c.length∧[10,9].map n=[.int .u64 s,.int .u64 t]) ?_ ?_
    ·intro n X z;obtain ⟨j,Q,s,t,a,f,j,s,t,l⟩:=z;rw [Zmk.eq_1] at a;refine .lL [10,9] l<|go ?_;exact ⟨A.length,by simp,rfl,⟨_,_,_,_,_,_,rfl,v,a,f,j,s,t,(Yz (congrArg (Value.int .i64) (Yv (aI W (m.ks f).1.1))) rfl)⟩⟩
    refine go ?_;refine lI y ((m.ks f).addr y)<|lW ((m.ks f).atInt y)<|Y6 rfl<|Y6 rfl<|Zl<|Zx<|W0<|Xk rfl<|Xk rfl<|Xk rfl<|lV (.int .u64 (u64.wrap O)) (Zns O ⟨_,underlying45⟩ underlying144 rfl)<|lV _ (Zic _ _ rfl rfl)<|lV _ (S8 _ _ rfl rfl)<|Y6 rfl<|Zl<|Zx<|W0<|Xk rfl<|lV (.int .u64 (Sb .u64 (u64.wrap (B+(u64.wrap (q * (u64.wrap O))))) 4294967295)) (Zqo (u64.wrap (B+(u64.wrap (q * (u64.wrap O))))) 4294967295 rfl rfl)<|Xk rfl<|lV _ (S8 _ _ rfl rfl)<|Y6 rfl<|Zl<|Zx<|W0<|Y6 rfl<|Zl<|Zx ?_;refine Wp.cutK [0,1,11,13,5,7,87,88,89,9,1000000] (fun n Q=>∃ U W,Zg3 j0 p q F V D B (Uw j0 p b q A) O W=some r∧St o (Xe [d] col) U Q∧Zb rU 45 440 U Q h g F∧[10].map n=[.int .u64 W]) ?_ ?_
    ·intro n Q z;obtain ⟨U,W,a,f,w,l⟩:=z;rw [Zg3.eq_1] at a;refine .lL [10] l<|go ?_;obtain ⟨o,a⟩:=Z4 a;obtain ⟨s,p,a⟩:=bZ a;refine lV (Yj h (aA ((j0:Int)+(D:Int)) * 1)) (Vu underlying38 sizeOf45 rfl rfl o.1 o.2 (w.addr p))<|lW (w.atInt p)<|go ?_;obtain ⟨l,a⟩:=Z4 a;obtain ⟨_,o,a⟩:=bZ a;refine lV (Yj h (aA ((j0:Int)+(D:Int)) * 1)) (Vu underlying38 sizeOf45 rfl rfl l.1 l.2 (w.addr o)) ?_;obtain ⟨p,d,a⟩:=bZ a;have d:p=F.set (aA ((j0:Int)+(D:Int))) (u32.wrap (s - (u32.wrap (u64.wrap ((Sb .u64 (u64.wrap (B+(u64.wrap (q * (u64.wrap O))))) 4294967295)+V))))):=(Option.some.inj d).symm;refine Wb (x1:=u32.wrap (s - (u32.wrap (u64.wrap ((Sb .u64 (u64.wrap (B+(u64.wrap (q * (u64.wrap O))))) 4294967295)+V))))) w o ?_;intro _ o z n;rw [← d] at n;have l:p.length=c.length:=(show F.length=p.length by rw [d,nS]).symm.trans Z;refine go ?_;refine lV (.int .u64 (Y2 .u64 (u64.wrap (B+(u64.wrap (q * (u64.wrap O))))) 32)) (Q9 (u64.wrap (B+(u64.wrap (q * (u64.wrap O))))) 32 rfl rfl (by decide))<|go ?_;replace f:=f.kp o z;exact ⟨rfl,_,_,_,_,a,f,n,l,l,rfl⟩
    refine go ?_;obtain ⟨n,a⟩:=Z4 a;obtain ⟨_,z,a⟩:=bZ a;refine lV (Yj h (aA ((j0:Int)+(D:Int)) * 1)) (Vu underlying38 sizeOf45 rfl rfl n.1 n.2 (w.addr z))<|lW (w.atInt z)<|go ?_;refine Zm a (fun u a=>go ?_) fun u a=>?_
    ·exact ⟨rfl,_,1,a,f,w,rfl⟩
    refine Xz ?_;exact ⟨rfl,_,0,a,f,w,rfl⟩
  refine Wg (col:=S) (by kernel_rfl) (by kernel_rfl)<|go ?_;refine Ye a (fun j a=>go ?_) fun j a=>go ?_
  ·refine Uz 54 rfl rfl rfl rfl<|Uz 54 rfl rfl rfl rfl<|Uz 54 rfl rfl rfl rfl<|Uz 54 rfl rfl rfl rfl<|Uz 54 rfl rfl rfl rfl<|Uz 54 rfl rfl rfl rfl<|Uz 54 rfl rfl rfl rfl<|Uz 54 rfl rfl rfl rfl<|Uz 54 rfl rfl rfl rfl<|Uz 54 rfl rfl rfl rfl<|Uz 54 rfl rfl rfl rfl<|Uz 54 rfl rfl rfl rfl<|Uz 54 rfl rfl rfl rfl<|Uz 54 rfl rfl rfl rfl<|Uz 54 rfl rfl rfl rfl<|Uz 54 rfl rfl rfl rfl<|Uz 54 rfl rfl rfl rfl<|Uz 54 rfl rfl rfl rfl<|go ?_;refine qv (v:=(.bool true)) rfl (fun _ i=>X0 (congrArg Value.bool j) rfl) ?_;refine Y1 ?_;intro _ i;replace i:=i.bl S;replace k:=k.gr i;replace f:=f.grow i;exact ⟨rfl,_,_,a,f,k,rfl⟩
  refine Ye a (fun d a=>go ?_) fun d a=>go ?_
  ·obtain ⟨t,o,a⟩:=bZ a;refine qI o ((m.ks f).addr o) ?_;refine go ?_;refine qW (fun _ i=>((m.ks f).gr (i.bl S)).atInt o) ?_;refine go ?_;refine qv (v:=(.int .u64 (Yi .u64 R 32))) rfl (fun _ i=>Zid R 32 rfl rfl (by decide)) ?_;refine go ?_;obtain ⟨m,a⟩:=Z4 a;obtain ⟨p,u,a⟩:=bZ a;refine qv (v:=(Yj h (aA ((j0:Int)+(i64.wrap ((b.length:Int) - 2))) * 1))) rfl (fun _ i=>Vu underlying38 sizeOf45 rfl rfl m.1 m.2 (k.addr u)) ?_;refine go ?_;refine qW (fun _ i=>(k.gr (i.bl S)).atInt u) ?_;refine go ?_;refine qv (v:=(.bool (decide ((Wf .u64 (Yi .u64 R 32) (u64.wrap p))<(u64.wrap (q * (u64.wrap t))))))) rfl (fun _ i=>X0 (congrArg Value.bool d) rfl) ?_;refine qv (v:=(.bool (decide ((Wf .u64 (Yi .u64 R 32) (u64.wrap p))<(u64.wrap (q * (u64.wrap t))))))) rfl (fun _ i=>X7 (congrArg Value.bool j) rfl) ?_;refine Y1 ?_;intro _ i;replace i:=i.bl S;replace k:=k.gr i;replace f:=f.grow i;exact ⟨rfl,_,_,a,f,k,rfl⟩
  refine qv (v:=(.bool false)) rfl (fun _ i=>X7 (congrArg Value.bool d) rfl) ?_;refine qv (v:=(.bool false)) rfl (fun _ i=>X7 (congrArg Value.bool j) rfl) ?_;refine Y1 ?_;intro _ i;replace i:=i.bl S;exact ⟨rfl,_,_,a,f.grow i,k.gr i,rfl⟩
def Zpi (a:Int) (kk_L2:(List Int→Int→Option Ra)) (b:List Int):Option Ra:=
  kk_L2 b (i64.wrap (a+1))
def Zjy (b:Int) (c:List Int) (a:Int) (kk_L2:(List Int→Int→Option Ra)) (d:Int):Option Ra:=
  (Zk c a).bind fun e=>Z2 (0≤b) ((some (c.set (aA a) (u32.wrap (Y2 .u64 (Wf .u64 (Yi .u64 (u64.wrap d) 32) (u64.wrap e)) b)))).bind fun f=>Zpi a kk_L2 f)
def Qw (N:Nat) (c:Int) (d e:List Int):Nat→R2→Int→Option Ra
  | 0,_,_=>none
  | f+1,a,b=>if (decide (b<(e.length:Int)))=true then (if (decide ((i64.wrap (b+1))<(a.length:Int)))=true then ((Zk a (i64.wrap (b+1))).bind fun g=>Zjy c a b (Qw N c d e f) g) else (Zjy c a b (Qw N c d e f) 0)) else ((Td N d).bind fun i=>(Td N a).bind fun j=>some (i,j,0))
def Zg0 (N:Nat) (e:Int) (b:List Int):Nat→R2→R2→Int→Option Ra
  | 0,_,_,_=>none
  | i+1,c,d,a=>if (decide (0≤a))=true then (Z2 ((0:Int)≤a∧a<(i64.wrap ((i64.wrap (a+(b.length:Int)))+1))∧(i64.wrap ((i64.wrap (a+(b.length:Int)))+1))≤(c.length:Int)) ((Zj0 N (aA a) ((aA (i64.wrap ((i64.wrap (a+(b.length:Int)))+1))) - (aA a)) c b).bind fun f=>(Zk d a).bind fun k=>(some (d.set (aA a) f.1)).bind fun j=>(Zg0 N e b i) f.2 j (i64.wrap (a - 1)))) else ((Zg5 N c).bind fun g=>Qw N e d g N g 0)
def Zgz (N:Nat) (e f:List Int):Option Ra:=
  (Te N e).bind fun b=>(Te N f).bind fun a=>if (decide ((a.length:Int)=0))=true then (some (([]:List Int),([]:List Int),11)) else ((Zgx N b a).bind fun g=>if (decide (g<0))=true then ((Td N b).bind fun i=>some (([]:List Int),i,0)) else (if (decide ((a.length:Int)=1))=true then ((Zh1 b).bind fun j=>(Zk a 0).bind fun k=>(Zml N j k).bind fun d=>(Td N d.2).bind fun l=>(Td N [d.1]).bind fun m=>some (l,m,0)) else ((Zk a (i64.wrap ((a.length:Int) - 1))).bind fun n=>(Zmb n).bind fun c=>(Zj1 b c).bind fun o=>(Zj1 a c).bind fun p=>(Zg5 N p).bind fun q=>Z2 ((aA (i64.wrap ((i64.wrap ((b.length:Int) - (a.length:Int)))+1))) * 4≤281474976710656∧(aA (i64.wrap ((i64.wrap ((b.length:Int) - (a.length:Int)))+1)))≤maxLen∧0≤(i64.wrap ((i64.wrap ((b.length:Int) - (a.length:Int)))+1))) (Zg0 N c q N o (aD (aA (i64.wrap ((i64.wrap ((b.length:Int) - (a.length:Int)))+1))) (0:Int)) (i64.wrap (((aD (aA (i64.wrap ((i64.wrap ((b.length:Int) - (a.length:Int)))+1))) (0:Int)).length:Int) - 1))))))
theorem Zr0 {N t w:Nat} {b c:Option Addr} {col:Ze} {g:World} {V W:R2} {r:Ra} (c1 c2:Nat) (a:Zgz N V W=some r) (R:Sl rU col g b t V) (U:Sl rU col g c w W):
    Calls prog 157 #[.slice b V.length t,.slice c W.length w] g (fun e w'=>∃ (col':Ze) (p:Option Addr) (n:Nat) (q:Option Addr) (o:Nat),e= .returned (.tuple #[.slice p r.1.length n,.slice q r.2.1.length o,.int .i64 r.2.2])∧Zj col g col' w'∧Zb rU 45 c1 col' w' p n r.1∧Zb rU 45 c2 col' w' q o r.2.1):=by
 refine Zv5 4 5 6 (m:=122) (args:=[.slice b V.length t,.slice c W.length w]) func157 rfl rfl rfl rfl rfl ?_;rw [Zgz.eq_1] at a;have b:=St.start col g;refine go ?_;obtain ⟨v,c,a⟩:=bZ a;refine Zi (Qi c (R.k0.ks b)) fun _ _ ⟨_,_,_,c,B,y⟩=>⟨_,c,?_⟩;refine Y3 rfl ?_;obtain ⟨u,A,a⟩:=bZ a;replace b:=b.grow B;refine Zi (Qi A (U.k0.ks b)) ?_;rintro _ bv ⟨G,c8,c9,rfl,bc,l⟩;refine ⟨_,rfl,go ?_⟩;replace y:=y.gr bc;replace b:=b.grow bc;refine Zm a (fun d a=>go ?_) fun d a=>go ?_
 ·cases a;exact ⟨rfl,_,none,0,none,0,rfl,b.fin (cm []),Zb.nil,Zb.nil⟩
 obtain ⟨_,h,a⟩:=bZ a;refine Zi (Zrz h y l) fun _ _ ⟨c,z⟩=>⟨_,c,?_⟩;replace z:=Rr G z;refine go ?_;replace y:=y.gr z;replace l:=l.gr z;replace b:=b.grow z;refine Zm a (fun d a=>go ?_) fun d a=>go ?_
 ·obtain ⟨_,j,a⟩:=bZ a;refine Zi (Qh 1 j y) ?_;rintro _ dc ⟨dd,de,df,rfl,bz,b0⟩;refine ⟨_,rfl,go ?_⟩;cases a;replace b:=b.grow bz;exact ⟨rfl,_,none,0,_,_,rfl,b.fin (cm [(1,c2)]),Zb.nil,b.fo b0⟩
 refine Zm a (fun d a=>go ?_) fun d a=>go ?_
 ·obtain ⟨U,o,a⟩:=bZ a;refine Zi (Zsb 2 o y) ?_;rintro _ dg ⟨dh,X,Y,rfl,bf,b2⟩;refine ⟨_,rfl,go ?_⟩;obtain ⟨_,f,a⟩:=bZ a;replace l:=l.gr bf;refine lI f (l.addr f)<|lW (l.atInt f) ?_;obtain ⟨K,p,a⟩:=bZ a;refine Zi (Z5x 2 p rfl b2) fun _ P ⟨s,c,f,O,R⟩=>⟨_,c,?_⟩;refine .ld (d:=7) (v:=(.slice X K.2.length Y)) (congrArg (fun h=>Value.slice X h Y) (show U.length=K.2.length from R.symm)) ?_;refine .ld (d:=34) (v:=(.slice X K.2.length Y)) (congrArg (fun h=>Value.slice X h Y) (show U.length=K.2.length from R.symm)) ?_;refine go ?_;obtain ⟨_,k,a⟩:=bZ a;refine Zi (Qh 3 k (O.toSlF (Zg.int .u32))) fun _ _ ⟨E,_,_,c,Z,i⟩=>⟨_,c,?_⟩;replace i:=i.thaw (Z1 .u32) Z ((Fz.refl (col:=s)).froz 2);replace Z:=Z.thawR (col:=s);generalize Xa P.heap.size s E=w at *;refine Xk rfl<|V5 (col:=w) [K.1] 4 ?_;intro _ M j T z;obtain ⟨_,n,a⟩:=bZ a;refine Zi (Qh 5 n (z.toSlF (Zg.int .u32))) fun _ _ ⟨H,_,_,c,I,k⟩=>⟨_,c,?_⟩;replace k:=k.thaw (Z1 .u32) I ((Fz.refl (col:=j)).froz 4);replace I:=I.thawR (col:=j);generalize Xa M.heap.size j H=j at *;refine go ?_;cases a;replace b:=((((b.grow bf).kpp f).grow Z).grow T).grow I;exact ⟨rfl,_,_,_,_,_,rfl,b.fin (cm [(3,c1),(5,c2)]),b.fo ((i.gr T).gr I),b.fo k⟩
 obtain ⟨_,Z,a⟩:=bZ a;refine lI Z (l.addr Z)<|lW (l.atInt Z) ?_;obtain ⟨t,x,a⟩:=bZ a;refine Zi (Z5l (col:=G) x) fun _ _ ⟨c,L⟩=>⟨_,c,?_⟩;replace L:=Rr G L;refine go ?_;obtain ⟨_,q,a⟩:=bZ a;refine Zi (Zvh 6 q (y.gr L)) ?_;rintro _ dx ⟨dy,dz,d0,rfl,bi,m⟩;refine ⟨_,rfl,go ?_⟩;obtain ⟨_,s,a⟩:=bZ a;refine Zi (Zvh 7 s ((l.gr L).gr bi)) fun _ _ ⟨_,_,_,c,f,y⟩=>⟨_,c,?_⟩;obtain ⟨C,l,a⟩:=bZ a;refine Zi (Zvi 7 l rfl y) ?_;rintro _ ck ⟨cl,cn,co,rfl,bk,x⟩;refine ⟨_,rfl,go ?_⟩;obtain ⟨I,a⟩:=Z4 a;refine Sc (col:=cl) (w:=ck) (r:=rU) (n:=(aA (i64.wrap ((i64.wrap ((v.length:Int) - (u.length:Int)))+1)))) (x0:=0) 8 rfl underlying38 Tryz.t45 rfl rfl rfl rfl rfl (congrArg (Value.int _) (bM I.2.2).symm) (congrArg (Value.int _) (bM I.2.2).symm) I.1 I.2.1 (Zcb .u32 0) fun _ _ _ i S=>go ?_;replace m:=((m.gr f).kpp bk).gr i;replace x:=x.gr i;replace x:=(x).toSlF (Zg.int .u32);replace b:=((((b.grow L).grow bi).grow f).kpp bk).grow i;replace b:=b.froz 7 (by decide) (by decide);refine Zt [11,9,1000000] (fun h k F=>∃ H P Q M z A j v R,R=h∧Zg0 N t C R M j v=some r∧St g (Zh col) H F∧Zb rU 45 6 H F P Q M∧Sl rU H F cn co C∧Zb rU 45 8 H F z A j∧[10,12,13].map k=[.slice P M.length Q,.slice z j.length A,.int .i64 v]) N ⟨_,_,_,_,_,_,_,_,_,rfl,a,b,m.froz 7,x,S.froz 7,rfl⟩ ?_;clear a;intro h k F E;obtain ⟨H,P,Q,M,z,A,j,v,R,D,a,b,B,x,f,i⟩:=E;subst D;refine .lL [10,12,13] i ?_
 cases R with
 | zero=>rw [Zg0.eq_1] at a;cases a
 | succ R=>
  rw [Zg0.eq_2] at a;refine go ?_;refine Zm a (fun d a=>go ?_) fun d a=>go ?_
  ·obtain ⟨m,a⟩:=Z4 a;refine lV (.slice (P.map (·.add ((aA v) * 1))) ((aA (i64.wrap ((i64.wrap (v+(C.length:Int)))+1))) - (aA v)) (Q - (aA v))) (Xa5 underlying38 sizeOf45 rfl rfl rfl m.1 m.2.1 (by have:=B.lecap;have:=m.2.2;omega))<|Y3 rfl ?_;obtain ⟨J,u,a⟩:=bZ a;refine Zi (Z5v 6 u rfl B x) fun _ _ ⟨_,c,y,T,F⟩=>⟨_,c,?_⟩;refine .ld (d:=10) (v:=(.slice P J.2.length Q)) (congrArg (fun h=>Value.slice P h Q) (show M.length=J.2.length from F.symm)) ?_;obtain ⟨_,l,a⟩:=bZ a;replace f:=f.kpp y;refine lI l (f.addr l) ?_;obtain ⟨p,H,a⟩:=bZ a;have H:p=j.set (aA v) J.1:=(Option.some.inj H).symm;refine Wb (x1:=J.1) f l ?_;intro _ q K S;rw [← H] at S;refine .ld (d:=12) (v:=(.slice z p.length A)) (congrArg (fun h=>Value.slice z h A) (show j.length=p.length by rw [H,nS])) ?_;refine go ?_;replace b:=(b.kpp y).kp q K;exact ⟨R,by omega,rfl,⟨_,_,_,_,_,_,_,_,_,rfl,a,b,T.kp q,(x.kpp y).kp q,S,rfl⟩⟩
  obtain ⟨x,v,a⟩:=bZ a;refine Zi (Zvi 6 v rfl B) ?_;rintro _ ed ⟨ee,ef,eg,rfl,bn,ct⟩;refine ⟨_,rfl,go ?_⟩;replace f:=f.kpp bn;replace b:=b.kpp bn;refine Zt [12,88,9,1000000] (fun h k P=>∃ M T U w S u,u=h∧Qw N t j x u w S=some r∧St g (Zh col) M P∧Zb rU 45 6 M P T U w∧Zb rU 45 8 M P z A j∧[10,89].map k=[.slice T w.length U,.int .i64 S]) N ⟨_,_,_,_,0,_,rfl,a,b,ct,f,rfl⟩ ?_;clear a;intro h k P E;obtain ⟨M,T,U,w,S,u,D,a,b,m,f,i⟩:=E;subst D;refine .lL [10,89] i ?_
  cases u with
  | zero=>rw [Qw.eq_1] at a;cases a
  | succ u=>
   rw [Qw.eq_2] at a;refine go ?_;refine Zm a (fun d a=>?_) fun d a=>go ?_
   ·refine Xz<|Zx ?_;refine Wp.cutK [12,88,89,9,1000000] (fun k D=>∃ E n o F,Zpi S (Qw N t j x u) F=some r∧St g (Zh col) E D∧Zb rU 45 6 E D n o F∧Zb rU 45 8 E D z A j∧[10].map k=[.slice n F.length o]) ?_ ?_
    ·intro k D v;obtain ⟨E,n,o,F,a,b,C,f,i⟩:=v;rw [Zpi.eq_1] at a;refine .lL [10] i<|go ?_;exact ⟨u,by omega,rfl,⟨_,_,_,_,_,_,rfl,a,b,C,f,rfl⟩⟩
    refine Zf1<|Zx<|W0<|Xk rfl<|Y6 rfl<|Zl<|Zx<|W0<|Y6 rfl<|Zl<|Zx ?_;refine Wp.cutK [10,12,14,88,89,9,1000000] (fun k B=>∃ C s,Zjy t w S (Qw N t j x u) s=some r∧St g (Zh col) C B∧Zb rU 45 6 C B T U w∧Zb rU 45 8 C B z A j∧[15].map k=[.int .u32 s]) ?_ ?_
    ·intro k B v;obtain ⟨C,s,a,b,m,f,i⟩:=v;rw [Zjy.eq_1] at a;refine .lL [15] i<|go ?_;refine lV (.int .u64 (Yi .u64 (u64.wrap s) 32)) (Zid (u64.wrap s) 32 rfl rfl (by decide))<|go ?_;obtain ⟨L,O,a⟩:=bZ a;refine lI O (m.addr O)<|lW (m.atInt O) ?_;refine go ?_;obtain ⟨J,a⟩:=Z4 a;refine lV (.int .u64 (Y2 .u64 (Wf .u64 (Yi .u64 (u64.wrap s) 32) (u64.wrap L)) t)) (Q9 (Wf .u64 (Yi .u64 (u64.wrap s) 32) (u64.wrap L)) t rfl rfl J)<|go ?_;refine lI O (m.addr O) ?_;obtain ⟨u,K,a⟩:=bZ a;have K:u=w.set (aA S) (u32.wrap (Y2 .u64 (Wf .u64 (Yi .u64 (u64.wrap s) 32) (u64.wrap L)) t)):=(Option.some.inj K).symm;refine Wb (x1:=u32.wrap (Y2 .u64 (Wf .u64 (Yi .u64 (u64.wrap s) 32) (u64.wrap L)) t)) m O ?_;intro _ O L Q;rw [← K] at Q;refine .ld (d:=10) (v:=(.slice T u.length U)) (congrArg (fun h=>Value.slice T h U) (show w.length=u.length by rw [K,nS])) ?_;refine Zl ?_;replace f:=f.kp O;replace b:=b.kp O L;exact ⟨rfl,_,_,_,_,a,b,Q,f,rfl⟩
    refine go ?_;refine Zm a (fun d a=>go ?_) fun d a=>?_
    ·obtain ⟨_,d,a⟩:=bZ a;refine lI d (m.addr d)<|lW (m.atInt d) ?_;refine go ?_;exact ⟨rfl,_,_,a,b,m,f,rfl⟩
    refine Xz ?_;exact ⟨rfl,_,0,a,b,m,f,rfl⟩
   obtain ⟨_,g,a⟩:=bZ a;refine Zi (Qh 9 g (f.toSlF (Zg.int .u32))) fun _ Q ⟨D,_,_,c,J,d⟩=>⟨_,c,?_⟩;replace d:=d.thaw (Z1 .u32) J ((Fz.refl (col:=M)).froz 8);replace J:=J.thawR (col:=M);generalize Xa P.heap.size M D=g at *;refine Y3 rfl ?_;obtain ⟨_,t,a⟩:=bZ a;refine Zi (Qh 10 t ((m.gr J).toSlF (Zg.int .u32))) fun _ _ ⟨I,_,_,c,A,h⟩=>⟨_,c,?_⟩;replace h:=h.thaw (Z1 .u32) A ((Fz.refl (col:=g)).froz 6);replace A:=A.thawR (col:=g);generalize Xa Q.heap.size g I=Z at *;refine go ?_;cases a;replace b:=(b.grow J).grow A;exact ⟨rfl,_,_,_,_,_,rfl,b.fin (cm [(9,c1),(10,c2)]),b.fo (d.gr A),b.fo h⟩
def Zmf (N:Nat) (b:List Int):Option Int:=
  (Te N b).bind fun a=>if (decide ((a.length:Int)=0))=true then (some 0) else ((Zk a (i64.wrap ((a.length:Int) - 1))).bind fun c=>(Zjm c).bind fun d=>some (i64.wrap ((i64.wrap (32 * (i64.wrap ((a.length:Int) - 1))))+d)))
theorem Z5t {N g:Nat} {f:Option Addr} {col:Ze} {d:World} {b:R2} {r:Int} (a:Zmf N b=some r) (o:Sl rU col d f g b):
    Calls prog 155 #[.slice f b.length g] d (Wn d r):=by
 refine Xc 2 (m:=20) func155 rfl rfl rfl rfl rfl ?_;rw [Zmf.eq_1] at a;have e:=St.start col d;refine go ?_;obtain ⟨_,p,a⟩:=bZ a;refine Zi (Qi p (o.k0.ks e)) ?_;rintro _ k ⟨c,q,s,rfl,l,i⟩;refine ⟨_,rfl,go ?_⟩;replace e:=e.grow l;refine Zm a (fun n a=>go ?_) fun n a=>go ?_
 ·cases a;exact ⟨rfl,rfl,e.below⟩
 obtain ⟨_,h,a⟩:=bZ a;refine lI h (i.addr h)<|lW (i.atInt h) ?_;obtain ⟨_,t,a⟩:=bZ a;refine Zi (Zvd (col:=c) t) fun _ _ ⟨m,j⟩=>⟨_,m,?_⟩;replace j:=Rr c j;refine go ?_;cases a;exact ⟨rfl,rfl,(e.grow j).below⟩
def Xn (n:Nat):Nat:=if n=0 then 0 else n.log2+1
theorem Zio:Xn 0=0:=rfl
theorem Zu4 {n k:Nat} (h:2 ^ k≤n) (h2:n<2 ^ (k+1)):Xn n=k+1:=by
 have a:n≠0:=by have:=bY k;omega
 rw [Xn,if_neg a,(jZ a).2 ⟨h,h2⟩]
theorem Zog {n:Nat} (h:n≠0):∃ k,Xn n=k+1∧2 ^ k≤n∧n<2 ^ (k+1):=by
 refine ⟨n.log2,by rw [Xn,if_neg h],?_⟩
 exact (jZ h).1 rfl
theorem Uh {n k:Nat}:Xn n≤k↔n<2 ^ k:=by
 by_cases h:n=0
 ·subst h;simp [Zio,bY]
 ·obtain ⟨j,e,c,d⟩:=Zog h
  rw [e]
  constructor
  ·intro b;exact aI d (gM (by decide) b)
  ·intro b
   have:=(Nat.pow_lt_pow_iff_right (a:=2) (by decide)).1 (eM c b)
   omega
theorem Zlr (n k:Nat):Xn (n / 2 ^ k)=Xn n - k:=by
 by_cases h:n / 2 ^ k=0
 ·have a:n<2 ^ k:=by
   have:=bY k
   rcases Nat.div_eq_zero_iff.1 h with h | h
   ·omega
   ·exact h
  have:=Uh.2 a
  rw [h,Zio];omega
 ·obtain ⟨j,e,a,c⟩:=Zog h
  have b:=bY k
  have d:2 ^ (j+k)≤n:=by
   rw [dH]
   exact (gE b).1 a
  have f:n<2 ^ (j+k+1):=by
   have:=(dQ b).1 c
   rw [show j+k+1=(j+1)+k by omega,dH];exact this
  rw [e,Zu4 d f];omega
theorem Z9d:∀ x:Fin 256,Zgt (x.val:Int) 0=some ((Xn x.val:Nat):Int):=by decide+kernel
theorem Zye {x:Nat} (h:x<256) {n:Int} (hn:0≤n∧n≤24):Zgt (x:Int) n=some (n+(Xn x:Int)):=by
 have a:=Z9d ⟨x,h⟩
 have c:Xn x≤8:=Uh.2 h
 rw [Zgt] at a ⊢
 revert a
 generalize Zoa _ _=o
 intro a
 cases o with
 | none=>cases a
 | some e=>
  rw [oB] at a ⊢
  have b:=Option.some.inj a
  rw [IntKind.wrap_i64,IntKind.wrap_i64] at b ⊢
  congr 1
  simp only at b
  omega
theorem Zq7 (i:IntKind) (x k:Nat) (hk:k≤i.bits):Y2 i (x:Int) (k:Int)=((x / 2 ^ k:Nat):Int):=by
 rw [Y2,aC,aZ hk,iI _ (Int.le_of_lt (Int.pow_pos (by decide)))]
 norm_cast
theorem Zyc {x:Nat} (h:x<4294967296):Zjm (x:Int)=some ((Xn x:Nat):Int):=by
 have b:∀ (y:Nat) (n:Int),y<65536→0≤n∧n≤16→Zjn (y:Int) n=some (n+(Xn y:Int)):=fun y n d f=>by
  rw [Zjn]
  by_cases h1:256≤y
  ·have e:=Zq7 .u32 y 8 (by decide)
   have a:=Zlr y 8
   have c:8≤Xn y:=by
    have:¬ Xn y≤7:=fun h=>by have:=Uh.1 h;omega
    omega
   rw [if_pos (by simp;omega),show (8:Int)=((8:Nat):Int) from rfl,e,Zye (by omega) (by rw [Zv (by omega)];omega),Zv (by omega),a]
   congr 1;omega
  ·rw [if_neg (by simp;omega),Zye (by omega) (by omega)]
 rw [Zjm]
 by_cases h1:65536≤x
 ·have e:=Zq7 .u32 x 16 (by decide)
  have a:=Zlr x 16
  have c:16≤Xn x:=by
   have:¬ Xn x≤15:=fun h=>by have:=Uh.1 h;omega
   omega
  rw [if_pos (by simp;omega),show (16:Int)=((16:Nat):Int) from rfl,e,b _ _ (by omega) (by omega),a]
  congr 1;omega
 ·rw [if_neg (by simp;omega),b _ _ (by omega) (by omega)]
  congr 1;omega
theorem Zu6 {a:List Int} {x:Int} (ha:Zp a) (hx:0<x∧x<4294967296):Xn (Zc (a++[x]))=32 * a.length+Xn x.toNat:=by
 obtain ⟨k,e,d,g⟩:=Zog (show x.toNat≠0 by omega)
 have f:=Q6 ha
 have c:Zc (a++[x])=Zc a+4294967296 ^ a.length * x.toNat:=by rw [Q5,Wi,Y0];simp
 have b:(4294967296:Nat) ^ a.length=2 ^ (32 * a.length):=by rw [show (4294967296:Nat)=2 ^ 32 by decide,← Nat.pow_mul]
 rw [e]
 have:=Zu4 (n:=Zc (a++[x])) (k:=32 * a.length+k) (by
   rw [c,b,dH]
   have:=aY (2 ^ (32 * a.length)) d
   omega) (by
   rw [c,show 32 * a.length+k+1=32 * a.length+(k+1) by omega,dH,b]
   have:=aY (2 ^ (32 * a.length)) (show x.toNat+1≤2 ^ (k+1) by omega)
   rw [dW] at this
   rw [b] at f
   omega)
 rw [this];omega
theorem Zoe (n:Nat):32 * ((Zf n).length - 1)≤Xn n∧Xn n≤32 * (Zf n).length:=by
 have e:∀ k,(4294967296:Nat) ^ k=2 ^ (32 * k):=fun k=>by rw [show (4294967296:Nat)=2 ^ 32 by decide,← Nat.pow_mul]
 constructor
 ·by_cases h:32 * ((Zf n).length - 1)≤Xn n
  ·exact h
  ·exfalso
   have a:=Uh.1 (show Xn n≤32 * ((Zf n).length - 1) by omega)
   rw [← e] at a
   have:=Vc.2 a
   omega
 ·have:=Vc.1 (aX (Zf n).length)
  rw [e] at this
  exact Uh.2 this
theorem Z4t {N:Nat} {a:List Int} (h:Zp a) (hn:a.length<N) (hb:a.length≤35184372088000):Zmf N a=some ((Xn (Zc a):Nat):Int):=by
 have i:=Yr h
 rw [Zmf,Zac h hn hb,oB]
 by_cases h0:(Zf (Zc a)).length=0
 ·have:Zc a=0:=Zi1.1 (cS h0)
  rw [if_pos (by simp [h0]),this,Zio];rfl
 ·have b:0<(Zf (Zc a)).length:=by omega
  have e:((Zf (Zc a)).length:Int) - 1=(((Zf (Zc a)).length - 1:Nat):Int):=by omega
  have j:=(Xd (Zc a)).get (k:=(Zf (Zc a)).length - 1) (by omega)
  have f:=Zpa b
  have c:=Zi0 b
  have d:(Zf (Zc a))[(Zf (Zc a)).length - 1]=(((Zf (Zc a))[(Zf (Zc a)).length - 1]).toNat:Int):=by omega
  rw [if_neg (by simpa using h0),Zv (by omega),e,Zs (by omega),oB,d,Zyc (by omega),oB]
  have hb:=Zu6 (a:=(Zf (Zc a)).take ((Zf (Zc a)).length - 1)) (x:=(Zf (Zc a))[(Zf (Zc a)).length - 1]) ((Xd _).take _) (by omega)
  rw [c,Xb,nK,aZ (by omega)] at hb
  have g:Xn ((Zf (Zc a))[(Zf (Zc a)).length - 1]).toNat≤32:=Uh.2 (by omega)
  rw [Zv (x:=32 * _) (by omega),Zv (by omega),hb]
  congr 1
theorem Zip (w x:Nat) (h:x<2 ^ w):(BitVec.ofInt w (x:Int)).toNat=x:=by
 rw [BitVec.toNat_ofInt]
 have:((2 ^ w:Nat):Int)=(2:Int) ^ w:=by norm_cast
 rw [← jU,aC,eS h]
theorem or64 (k a b:Nat) (h:b<2 ^ k) (hs:2 ^ k * a+b<18446744073709551616):Wf .u64 ((2 ^ k * a:Nat):Int) (b:Int)=((2 ^ k * a+b:Nat):Int):=by
 rw [Wf,BitVec.toNat_or,Zip _ _ (by simp only [IntKind.bits];omega),Zip _ _ (by simp only [IntKind.bits];omega),← iC h,IntKind.wrap_u64]
 omega
theorem or32 (k a b:Nat) (h:b<2 ^ k) (hs:2 ^ k * a+b<4294967296):Wf .u32 (b:Int) ((2 ^ k * a:Nat):Int)=((2 ^ k * a+b:Nat):Int):=by
 rw [Wf,BitVec.toNat_or,Zip _ _ (by simp only [IntKind.bits];omega),Zip _ _ (by simp only [IntKind.bits];omega),Nat.or_comm,← iC h,IntKind.wrap_u32]
 omega
theorem Xby {x:Int} (h:0≤x∧x<4294967296):Yi .u64 x 32=x * 4294967296:=by
 have:(min (32:Int).toNat u64.bits)=32:=by decide
 rw [Yi,this,IntKind.wrap_u64]
 omega
theorem Zrc {r e:Int} (hr:0≤r∧r<4294967296) (he:0≤e∧e<4294967296):Wf .u64 (Yi .u64 r 32) e=r * 4294967296+e:=by
 rw [Xby hr]
 have:=or64 32 r.toNat e.toNat (by omega) (by omega)
 rw [show ((2 ^ 32 * r.toNat:Nat):Int)=r * 4294967296 by omega,show ((e.toNat:Nat):Int)=e by omega] at this
 rw [this];omega
theorem Zfz {l:List Int} {k j:Nat} (v:Int) (h:j≤k):(l.set k v).take j=l.take j:=by
 rw [List.take_set,List.set_eq_of_length_le]
 rw [nK];omega
theorem Z22 (N:Nat) (d:Int) (hd:0<d∧d<4294967296):∀ (n j:Nat) (r:List Int) (c:Int),j≤r.length→j<n→r.length<4611686018427387904→Zp r→0≤c∧c<d→
  ∃ c' r',Zg4 N d n r c ((j:Int) - 1)=some (c',r')∧r'.length=r.length∧Zp r'∧0≤c'∧c'<d∧d.toNat * Zc r'+c'.toNat=Zc (r.take j)+4294967296 ^ j * (c.toNat+d.toNat * Zc (r.drop j))
 | 0,j,r,c,_,h,_,_,_=>by omega
 | n+1,j,r,c,E,F,q,f,k=>by
  rw [Zg4.eq_2]
  by_cases h0:j=0
  ·subst h0
   rw [if_neg (by decide),Um (by omega)]
   refine ⟨c,r,rfl,rfl,f,k.1,k.2,?_⟩
   rw [List.take_zero,aM,Y0];omega
  ·have e:(j:Int) - 1=((j - 1:Nat):Int):=by omega
   have b:j - 1<r.length:=by omega
   have g:=f.get b
   rw [if_pos (by simp;omega),e,Zs b,oB,Xs (x:=d) (by omega),Z7 (by omega),oB,Z7 (by omega),aC,Xs (x:=r[j - 1]) (by omega),Zrc (by omega) (by omega)]
   generalize hcur:c * 4294967296+r[j - 1]=a
   have B:(c+1) * 4294967296≤d * 4294967296:=by omega
   have i:0≤a / d∧a / d<4294967296:=⟨Int.ediv_nonneg (by omega) (by omega),Int.ediv_lt_of_lt_mul hd.1 (by rw [Int.mul_comm];omega)⟩
   have s:=Int.emod_nonneg a (show d≠0 by omega)
   have l:=Int.emod_lt_of_pos a hd.1
   have C:=Int.mul_ediv_add_emod a d
   rw [bV (by omega),cH (by omega),Xs (by omega),Um i,Zv (by omega)]
   obtain ⟨c',r',q1,t,u,v,w,y⟩:=Z22 N d hd n (j - 1) (r.set (j - 1) (a / d)) (a % d) (by rw [nS];omega) (by omega) (by rw [nS];exact q) (f.set _ i) ⟨s,l⟩
   refine ⟨c',r',q1,by rw [t,nS],u,v,w,?_⟩
   rw [y,Zfz _ (aX _)]
   have m:=Zs8 b
   have o:Zc ((r.set (j - 1) (a / d)).drop (j - 1))=(a / d).toNat+4294967296 * Zc (r.drop (j - 1+1)):=by
    rw [Uy (by rw [nS];exact b),iU,Zaf _ (by omega)]
   rw [show j - 1+1=j by omega] at m o
   rw [m,o]
   have A:(4294967296:Nat) ^ j=4294967296 ^ (j - 1) * 4294967296:=by rw [← bG,show (j - 1).succ=j by omega]
   rw [A]
   have p:d.toNat * (a / d).toNat+(a % d).toNat=c.toNat * 4294967296+(r[j - 1]).toNat:=by
    have:((d.toNat * (a / d).toNat:Nat):Int)=d * (a / d):=by rw [bN,bM (by omega),bM i.1]
    omega
   generalize hQ:4294967296 ^ (j - 1)=Q
   have D:Q * (d.toNat * (a / d).toNat+(a % d).toNat)=Q * (c.toNat * 4294967296+(r[j - 1]).toNat):=by rw [p]
   grind
theorem Xb4 {N:Nat} {a:List Int} {d:Int} (hd:0<d∧d<4294967296) (ha:Zp a) (hn:a.length<N) (hs:a.length≤35184372088000):
  ∃ q,Zml N a d=some (((Zc a % d.toNat:Nat):Int),q)∧q.length=a.length∧Zp q∧Zc q=Zc a / d.toNat:=by
 obtain ⟨b,r',q1,g,i,l,m,c⟩:=Z22 N d hd N a.length a 0 (aX _) hn (by omega) ha (by omega)
 have e:0<d.toNat:=by omega
 rw [List.take_length,fR,Y0] at c
 have f:Zc a=b.toNat+d.toNat * Zc r':=by simp at c;omega
 have j:Zc a % d.toNat=b.toNat:=by rw [f,iM,eS (by omega)]
 have k:Zc a / d.toNat=Zc r':=by rw [f,gR _ _ e,fA (by omega),cC]
 refine ⟨r',?_,g,i,k.symm⟩
 rw [Zml,Zv (by omega),q1,j]
 congr 2;omega
theorem Zub {i:IntKind} {x s:Nat} (hs:s<32) (hi:i= .u32∨i= .u64):Yi i (x:Int) (s:Int)=i.wrap ((x * 2 ^ s:Nat):Int):=by
 rw [Yi,aC,aZ (by rcases hi with rfl | rfl <;> simp only [IntKind.bits] <;> omega)]
 norm_cast
theorem Z4g (n:Nat):u32.wrap (n:Int)=((n % 4294967296:Nat):Int):=by rw [IntKind.wrap_u32];omega
theorem Zya (s:Nat) (hs:s<32):∀ (l:List Int) (k:Nat) (out:List Int),Zp l→out.length=k+l.length+1→out.length<4611686018427387904→Zp out→Zc (out.drop (k+1))=0→(∀ h:k<out.length,(out[k]).toNat<2 ^ s)→
  ∃ out',Zez (s:Int) l k out=some out'∧out'.length=out.length∧Zp out'∧Zc out'=Zc out+4294967296 ^ k * (2 ^ s * Zc l)∧(∀ h:out'.length - 1<out'.length,(out'[out'.length - 1]).toNat<2 ^ s)
 | [],k,out,_,c,_,a,_,m=>by
  rw [Zez.eq_1]
  rw [nN] at c
  refine ⟨out,rfl,rfl,a,by rw [Y0];omega,fun h=>?_⟩
  have:=m (by omega)
  simpa [c] using this
 | x :: l,k,out,q,c,y,a,C,m=>by
  rw [nC] at c
  have d:k<out.length:=by omega
  have o:k+1<out.length:=by omega
  have P:=q.head
  have R:=a.get d
  have D:=m d
  have g:=drop_zero a o C
  have E:i64.wrap ((k:Int)+1)=((k+1:Nat):Int):=by rw [Zv (by omega)];omega
  have ex:x=(x.toNat:Int):=by omega
  have F:out[k]=((out[k]).toNat:Int):=by omega
  have p:(2:Nat) ^ s * 2 ^ (32 - s)=4294967296:=by rw [← dH,show s+(32 - s)=32 by omega]
  have r:=bY s
  have i:=bY (32 - s)
  -- the lower and the upper limb
  have t:x.toNat * 2 ^ s<4294967296 * 2 ^ s:=iD (by omega) r
  have G:2 ^ s≤2147483648:=by
   have:=gM (n:=2) (by decide) (show s≤31 by omega)
   omega
  have b:(x.toNat * 2 ^ s) % 4294967296=2 ^ s * (x.toNat % 2 ^ (32 - s)):=by
   rw [← p,bS x.toNat,jD]
  have u:Wf .u32 out[k] (Yi .u32 x (s:Int))=(((x.toNat * 2 ^ s) % 4294967296+(out[k]).toNat:Nat):Int):=by
   rw [ex,Zub hs (.inl rfl),Z4g,F]
   simp only [aC]
   rw [b]
   refine or32 s _ _ D ?_
   have:2 ^ s * (x.toNat % 2 ^ (32 - s)+1)≤2 ^ s * 2 ^ (32 - s):=aY _ (eT _ i)
   rw [p,dW] at this
   omega
  have v:u32.wrap (Y2 .u64 (Yi .u64 (u64.wrap x) (s:Int)) 32)=((x.toNat * 2 ^ s / 4294967296:Nat):Int):=by
   rw [Xs (x:=x) (by omega),ex,Zub hs (.inr rfl),Zif,Xs (by omega)]
   simp only [aC]
   rw [Um (by omega)]
   omega
  have j:x.toNat * 2 ^ s / 4294967296<2 ^ s:=(dQ (by decide)).2 (by rw [bS (2 ^ s)];exact t)
  have e:(x.toNat * 2 ^ s) % 4294967296+(out[k]).toNat<4294967296:=by
   rw [b]
   have:2 ^ s * (x.toNat % 2 ^ (32 - s)+1)≤2 ^ s * 2 ^ (32 - s):=aY _ (eT _ i)
   rw [p,dW] at this
   omega
  rw [Zez.eq_2,Zs d,oB,Z7 (by omega),oB,Z7 (by omega),E,aC,aC,
   Zs (by rw [nS];exact o),oB,oB,u,v]
  generalize hA:(x.toNat * 2 ^ s) % 4294967296+(out[k]).toNat=A at e
  generalize hB:x.toNat * 2 ^ s / 4294967296=B at j
  have H:Zp (out.set k (A:Int)):=a.set _ (by omega)
  have I:Zp ((out.set k (A:Int)).set (k+1) (B:Int)):=H.set _ (by omega)
  obtain ⟨out',q1,J,K,L,M⟩:=Zya s hs l (k+1) ((out.set k (A:Int)).set (k+1) (B:Int)) q.tail (by rw [nS,nS];omega) (by rw [nS,nS];exact y) I (by
   rw [Zaf _ (by omega),Zaf _ (by omega)];exact g.2) (fun h=>by rw [iU];simpa using j)
  refine ⟨out',q1,by rw [J,nS,nS],K,?_,M⟩
  have N:=Tw d (A:Int)
  have f:=Tw (l:=out.set k (A:Int)) (k:=k+1) (by rw [nS];exact o) (B:Int)
  rw [List.getElem_set_ne (by omega),g.1] at f
  rw [aC] at N f
  rw [fD,dV,bR] at f
  rw [L,Wi]
  rw [bG] at f ⊢
  have w:A+4294967296 * B=(out[k]).toNat+x.toNat * 2 ^ s:=by omega
  generalize 4294967296 ^ k=Q at *
  have O:Q * (A+4294967296 * B)=Q * ((out[k]).toNat+x.toNat * 2 ^ s):=by rw [w]
  grind
theorem Zyb {a:List Int} {s:Nat} (hs:s<32) (ha:Zp a) (hb:a.length<35184372088000):
  ∃ o,Zj1 a (s:Int)=some o∧o.length=a.length+1∧Zp o∧Zc o=2 ^ s * Zc a∧∀ h:o.length - 1<o.length,(o[o.length - 1]).toNat<2 ^ s:=by
 rw [Zj1,Zv (by omega),Z7 (by simp only [maxLen];omega)]
 have e:aA ((a.length:Int)+1)=a.length+1:=by omega
 rw [e]
 obtain ⟨o,q1,b,c,d,f⟩:=Zya s hs a 0 (aD (a.length+1) 0) ha (by rw [aS];omega) (by rw [aS];omega) (.zeros _) (by rw [gQ];exact Sj _) (fun h=>by
  rw [List.getElem_replicate];exact bY s)
 refine ⟨o,q1,by rw [b,aS],c,?_,f⟩
 rw [d,Sj,dU];omega
theorem Z7p (g:Int) (u:List Int):Zmi g u=Zcz g u:=rfl
theorem Zwk (j0 n0:Nat) (v:List Int) (g:Int):∀ (l:List Int) (k:Nat) (u:List Int) (c:Int),Zey j0 n0 v g l k u c=S1 j0 n0 v (u64.wrap (g - 1)) l k u c
 | [],k,u,c=>by rw [Zey.eq_1,S1.eq_1];rfl
 | x :: l,k,u,c=>by
  rw [Zey.eq_2,S1.eq_2]
  simp only [Zwk j0 n0 v g l]
theorem Zwj (j0 n0:Nat) (v:List Int) (g:Int):∀ (l:List Int) (k:Nat) (u:List Int) (b c:Int),Zaq j0 n0 v g l k u b c=Uw j0 n0 v (u64.wrap (g - 1)) l k u b c
 | [],k,u,b,c=>by
  rw [Zaq.eq_1,Uw.eq_1]
  simp only [Zwk,Z7p]
 | x :: l,k,u,b,c=>by
  rw [Zaq.eq_2,Uw.eq_2]
  simp only [Zmj,Zg3,Zpj,Zmk,Zwj j0 n0 v g l]
theorem Zyp {x:Int} (h:0≤x∧x<18446744073709551616):Sb .u64 x 4294967295=x % 4294967296:=by
 have e:x=(x.toNat:Int):=by omega
 rw [Sb,BitVec.toNat_and,e,Zip _ _ (by simp only [IntKind.bits];omega),show (4294967295:Int)=((2 ^ 32 - 1:Nat):Int) by decide,Zip _ _ (by simp only [IntKind.bits];omega),Nat.and_two_pow_sub_one_eq_mod,IntKind.wrap_u64]
 omega
theorem Z4p (S S' S2 Q e v x c c' L T:Nat) (h1:S'+Q * e=S+Q * v) (h2:c+(e+x)=v+4294967296 * c') (h3:S2+T=S'+Q * 4294967296 * (c'+L)):S2+T=S+Q * (c+(x+4294967296 * L)):=by
 have:Q * (c+(e+x))=Q * (v+4294967296 * c'):=by rw [h2]
 grind
theorem Zlw {l:List Int} {k j:Nat} (v:Int) (h:k<j):(l.set k v).drop j=l.drop j:=Zaf v h
theorem Zwm (j0:Nat) (v:List Int) (g:Int):∀ (l:List Int) (k:Nat) (u:List Int) (c:Int),Zp l→k+l.length=v.length→Zp u→j0+v.length<u.length→0≤c∧c≤1→
  ∃ u' co,S1 j0 (v.length+1) v g l k u c=some (u32.wrap (u64.wrap (g - 1)),u')∧u'.length=u.length∧Zp u'∧u'.take j0=u.take j0∧u'.drop (j0+v.length+1)=u.drop (j0+v.length+1)∧Zc u'+co * 4294967296 ^ (j0+v.length+1)=Zc u+4294967296 ^ (j0+k) * (c.toNat+Zc l)
 | [],k,u,c,_,e,a,b,n=>by
  have i:k=v.length:=by simpa using e
  subst i
  have o:=a.get b
  rw [S1.eq_1,Z7 (by omega),show (j0:Int)+(v.length:Int)=((j0+v.length:Nat):Int) by omega,Zs b,oB,Z7 (by omega),oB,oB,aC,Zcz,Um (x:=c) (by omega)]
  have f:0≤u32.wrap (u[j0+v.length]+c)∧u32.wrap (u[j0+v.length]+c)<4294967296:=by rw [IntKind.wrap_u32];omega
  refine ⟨_,((u[j0+v.length]+c) / 4294967296).toNat,rfl,by rw [nS],a.set _ f,Zfz _ (by omega),Zlw _ (by omega),?_⟩
  have A:=Tw b (u32.wrap (u[j0+v.length]+c))
  have p:(u[j0+v.length]).toNat+c.toNat=(u32.wrap (u[j0+v.length]+c)).toNat+4294967296 * ((u[j0+v.length]+c) / 4294967296).toNat:=by rw [IntKind.wrap_u32];omega
  rw [bG,Y0]
  generalize 4294967296 ^ (j0+v.length)=Q at *
  have B:Q * ((u[j0+v.length]).toNat+c.toNat)=Q * ((u32.wrap (u[j0+v.length]+c)).toNat+4294967296 * ((u[j0+v.length]+c) / 4294967296).toNat):=by rw [p]
  grind
 | x :: l,k,u,c,j,e,a,b,n=>by
  rw [nC] at e
  have d:j0+k<u.length:=by omega
  have o:=a.get d
  have C:=j.head
  rw [S1.eq_2,Z7 (by omega),show (j0:Int)+(k:Int)=((j0+k:Nat):Int) by omega,Zs d,oB,Z7 (by omega),oB,oB,aC,Xs (x:=u[j0+k]) (by omega),Xs (x:=x) (by omega),Xs (x:=u[j0+k]+x) (by omega),Xs (by omega),Zif]
  generalize hs:c+(u[j0+k]+x)=s
  have f:0≤u32.wrap s∧u32.wrap s<4294967296:=by rw [IntKind.wrap_u32];omega
  obtain ⟨u',co,q1,q,r,w,y,m⟩:=Zwm j0 v g l (k+1) (u.set (j0+k) (u32.wrap s)) (s / 4294967296) j.tail (by omega) (a.set _ f) (by rw [nS];exact b) (by omega)
  refine ⟨u',co,q1,by rw [q,nS],r,by rw [w,Zfz _ (by omega)],by rw [y,Zlw _ (by omega)],?_⟩
  rw [Wi]
  rw [← dZ j0 k 1,bG] at m
  exact Z4p _ _ _ _ _ _ _ _ _ _ _ (Tw d _) (by rw [IntKind.wrap_u32];omega) m
theorem Xab (S S' S2 Q e w x g b b' c c' t L T:Nat) (h1:S'+Q * e=S+Q * w) (h2:c+g * x=t+4294967296 * c') (h3:e+4294967296 * b'=t+b+w) (h4:S2+Q * 4294967296 * (c'+b'+g * L)=S'+T):S2+Q * (c+b+g * (x+4294967296 * L))=S+T:=by
 have a:Q * (c+g * x)=Q * (t+4294967296 * c'):=by rw [h2]
 have d:Q * (e+4294967296 * b')=Q * (t+b+w):=by rw [h3]
 grind
theorem Zwl (j0:Nat) (v:List Int) (g:Int) (hg:0≤g∧g<4294967296):∀ (l:List Int) (k:Nat) (u:List Int) (b c:Int),Zp l→k+l.length=v.length→Zp u→j0+v.length<u.length→0≤b∧b≤1→0≤c∧c<4294967296→
  ∃ u' over,over≤1∧Uw j0 (v.length+1) v g l k u b c=(if over=1 then S1 j0 (v.length+1) v g v 0 u' 0 else Zcz g u')∧u'.length=u.length∧Zp u'∧u'.take j0=u.take j0∧u'.drop (j0+v.length+1)=u.drop (j0+v.length+1)∧
   Zc u'+4294967296 ^ (j0+k) * (c.toNat+b.toNat+g.toNat * Zc l)=Zc u+over * 4294967296 ^ (j0+v.length+1)
 | [],k,u,b,c,_,m,e,i,s,w=>by
  have n:k=v.length:=by simpa using m
  subst n
  have y:=e.get i
  rw [Uw.eq_1,Z7 (by omega),show (j0:Int)+(v.length:Int)=((j0+v.length:Nat):Int) by omega,Zs i,oB,Z7 (by omega),oB,Z7 (by omega),oB,oB,aC,Xs (x:=c+b) (by omega),Xs (x:=u[j0+v.length]) (by omega)]
  have j:0≤u32.wrap (u[j0+v.length] - u32.wrap (c+b))∧u32.wrap (u[j0+v.length] - u32.wrap (c+b))<4294967296:=by rw [IntKind.wrap_u32];omega
  have J:=Tw i (u32.wrap (u[j0+v.length] - u32.wrap (c+b)))
  have fin:∀ over:Nat,(u[j0+v.length]).toNat+4294967296 * over=c.toNat+b.toNat+(u32.wrap (u[j0+v.length] - u32.wrap (c+b))).toNat→Zc (u.set (j0+v.length) (u32.wrap (u[j0+v.length] - u32.wrap (c+b))))+4294967296 ^ (j0+v.length) * (c.toNat+b.toNat+g.toNat * Zc [])=Zc u+over * 4294967296 ^ (j0+v.length+1):=fun over A=>by
   rw [bG,Y0]
   generalize 4294967296 ^ (j0+v.length)=Q at *
   have B:Q * ((u[j0+v.length]).toNat+4294967296 * over)=Q * (c.toNat+b.toNat+(u32.wrap (u[j0+v.length] - u32.wrap (c+b))).toNat):=by rw [A]
   grind
  by_cases hlt:u[j0+v.length]<c+b
  ·refine ⟨_,1,aX _,by rw [if_pos (by simpa using hlt),if_pos rfl],by rw [nS],e.set _ j,Zfz _ (by omega),Zlw _ (by omega),fin 1 (by rw [IntKind.wrap_u32,IntKind.wrap_u32];omega)⟩
  ·refine ⟨_,0,by decide,by rw [if_neg (by simpa using hlt),if_neg (by decide)],by rw [nS],e.set _ j,Zfz _ (by omega),Zlw _ (by omega),fin 0 (by rw [IntKind.wrap_u32,IntKind.wrap_u32];omega)⟩
 | x :: l,k,u,b,c,o,m,e,i,s,w=>by
  rw [nC] at m
  have d:j0+k<u.length:=by omega
  have y:=e.get d
  have p:=o.head
  have K:g * x≤4294967295 * 4294967295:=kF (by omega) (by omega) (by omega) (by omega)
  have H:0≤g * x:=kG hg.1 p.1
  have I:((g.toNat * x.toNat:Nat):Int)=g * x:=by rw [bN,bM hg.1,bM p.1]
  rw [Uw.eq_2,Z7 (by omega),show (j0:Int)+(k:Int)=((j0+k:Nat):Int) by omega,Zs d,oB,Xs (x:=u[j0+k]) (by omega),Xs (x:=x) (by omega),Xs (x:=g * x) (by omega),Xs (x:=c+g * x) (by omega),Zyp (by omega)]
  generalize ht0:c+g * x=a
  rw [Xs (x:=a % 4294967296+b) (by omega)]
  have fin:∀ f:Int,0≤f∧f≤1→u[j0+k]+4294967296 * f=a % 4294967296+b+u32.wrap (u[j0+k] - u32.wrap (a % 4294967296+b))→
    ∃ u' over,over≤1∧Zg3 j0 (v.length+1) g u b k c (Uw j0 (v.length+1) v g l) x f=(if over=1 then S1 j0 (v.length+1) v g v 0 u' 0 else Zcz g u')∧u'.length=u.length∧Zp u'∧u'.take j0=u.take j0∧u'.drop (j0+v.length+1)=u.drop (j0+v.length+1)∧
     Zc u'+4294967296 ^ (j0+k) * (c.toNat+b.toNat+g.toNat * Zc (x :: l))=Zc u+over * 4294967296 ^ (j0+v.length+1):=fun f q B=>by
   have j:0≤u32.wrap (u[j0+k] - u32.wrap (a % 4294967296+b))∧u32.wrap (u[j0+k] - u32.wrap (a % 4294967296+b))<4294967296:=by rw [IntKind.wrap_u32];omega
   obtain ⟨u',over,q0,q1,C,D,F,G,r⟩:=Zwl j0 v g hg l (k+1) (u.set (j0+k) (u32.wrap (u[j0+k] - u32.wrap (a % 4294967296+b)))) f (a / 4294967296) o.tail (by omega) (e.set _ j) (by rw [nS];exact i) q (by omega)
   refine ⟨u',over,q0,?_,by rw [C,nS],D,by rw [F,Zfz _ (by omega)],by rw [G,Zlw _ (by omega)],?_⟩
   ·rw [Zg3,Z7 (by omega),show (j0:Int)+(k:Int)=((j0+k:Nat):Int) by omega,Zs d,oB,Z7 (by omega),oB,oB,aC,Xs (x:=x) (by omega),Xs (x:=g * x) (by omega),Xs (x:=c+g * x) (by omega),Zyp (by omega),ht0,Xs (x:=a % 4294967296+b) (by omega),Zif,Zmk]
    exact q1
   ·rw [Wi]
    rw [← dZ j0 k 1,bG] at r
    exact Xab _ _ _ _ _ _ _ _ _ _ _ _ (a % 4294967296).toNat _ _ (Tw d _) (by omega) (by omega) r
  by_cases hlt:u[j0+k]<a % 4294967296+b
  ·rw [if_pos (by simpa using hlt)]
   exact fin 1 (by omega) (by rw [IntKind.wrap_u32,IntKind.wrap_u32];omega)
  ·rw [if_neg (by simpa using hlt)]
   exact fin 0 (by omega) (by rw [IntKind.wrap_u32,IntKind.wrap_u32];omega)
structure Zlo (U V E v1 v2 u2 top lU lV:Nat):Prop where
 hU:U=lU+E * (u2+4294967296 * top)
 hV:V=lV+E * (v2+4294967296 * v1)
 lu:lU<E
 lv:lV<E
 b2:u2<4294967296
 c2:v2<4294967296
 c1:v1<4294967296
 big:2147483648≤v1
 lt:U<4294967296 * V
namespace Zlo
variable {U V E v1 v2 u2 top lU lV:Nat} (t:Zlo U V E v1 v2 u2 top lU lV)
include t
theorem Vpos:0<V:=by
 have:=t.lt
 have:=t.lu
 omega
theorem uE:U<E * 4294967296 * (top+1):=by
 have a:E * (u2+1)≤E * 4294967296:=aY _ t.b2
 have b:=t.hU;have:=t.lu
 have e:E * (u2+4294967296 * top)=E * u2+E * 4294967296 * top:=by grind
 rw [e] at b
 rw [dW] at a ⊢
 omega
theorem Eu:E * 4294967296 * top≤U:=by
 have a:=t.hU
 have e:E * (u2+4294967296 * top)=E * u2+E * 4294967296 * top:=by grind
 omega
theorem vE:V<E * 4294967296 * (v1+1):=by
 have a:E * (v2+1)≤E * 4294967296:=aY _ t.c2
 have b:=t.hV;have:=t.lv
 have e:E * (v2+4294967296 * v1)=E * v2+E * 4294967296 * v1:=by grind
 rw [dW] at a ⊢
 omega
theorem Ev:E * 4294967296 * v1≤V:=by
 have a:=t.hV
 have e:E * (v2+4294967296 * v1)=E * v2+E * 4294967296 * v1:=by grind
 omega
theorem Epos:0<E:=by have:=t.lu;omega
theorem first:U / V≤top / v1:=by
 have a:0<v1:=by have:=t.big;omega
 rw [gE a]
 have c:U / V * V≤U:=Nat.div_mul_le_self U V
 have d:U / V * (E * 4294967296 * v1)≤U / V * V:=aY _ t.Ev
 have b:E * 4294967296 * (U / V * v1)<E * 4294967296 * (top+1):=by
  have e:E * 4294967296 * (U / V * v1)=U / V * (E * 4294967296 * v1):=by
   generalize U / V=q
   grind
  rw [e]
  have:=t.uE
  omega
 have:=fF b
 omega
theorem quo:U / V<4294967296:=(dQ t.Vpos).2 t.lt
theorem great {g r:Nat} (h:g * v1+r=top) (h2:r * 4294967296+u2<g * v2):U / V<g:=by
 rw [dQ t.Vpos]
 have a:u2+4294967296 * top+1≤g * (v2+4294967296 * v1):=by
  have:4294967296 * (g * v1+r)=4294967296 * top:=by rw [h]
  have e:g * (v2+4294967296 * v1)=g * v2+4294967296 * (g * v1):=by grind
  rw [e];omega
 have b:=aY E a
 have c:E * (g * (v2+4294967296 * v1))≤g * V:=by
  have:=t.hV
  have e:g * V=g * lV+E * (g * (v2+4294967296 * v1)):=by rw [this];grind
  omega
 have:=t.hU;have:=t.lu
 rw [dW] at b
 omega
theorem fine {g r:Nat} (hg:g<4294967296) (h:g * v1+r=top) (h2:g * v2≤r * 4294967296+u2):g * V<U+V:=by
 have a:g * (v2+4294967296 * v1)≤u2+4294967296 * top:=by
  have:4294967296 * (g * v1+r)=4294967296 * top:=by rw [h]
  have e:g * (v2+4294967296 * v1)=g * v2+4294967296 * (g * v1):=by grind
  rw [e];omega
 have b:=aY E a
 have e:g * V=g * lV+E * (g * (v2+4294967296 * v1)):=by rw [t.hV];grind
 have c:g * lV≤4294967295 * E:=gX (by omega) (by have:=t.lv;omega)
 have d:E * 4294967296 * 1≤E * 4294967296 * v1:=aY _ (by have:=t.big;omega)
 have:=t.Ev;have:=t.hU;have:=t.Epos
 omega
theorem topv:top / 4294967296≤v1:=by
 have b:=t.Eu
 have c:=t.lt
 have d:=t.vE
 have a:E * 4294967296 * top<E * 4294967296 * (4294967296 * (v1+1)):=by
  have:E * 4294967296 * (4294967296 * (v1+1))=4294967296 * (E * 4294967296 * (v1+1)):=by grind
  omega
 have:=fF a
 omega
theorem over {g r:Nat} (h:g * v1+r=top) (hr:4294967296≤r):g<4294967296:=by
 have b:=t.topv
 have a:g * v1<4294967296 * v1:=by omega
 exact Nat.lt_of_mul_lt_mul_right a
theorem stop {g r:Nat} (h:g * v1+r=top) (hr:4294967296≤r):g * V<U+V:=by
 have b:=t.over h hr
 have a:=t.vE
 have c:g * V≤g * (E * 4294967296 * (v1+1)):=aY _ (kO a)
 have e:g * (E * 4294967296 * (v1+1))=E * 4294967296 * (g * v1+g):=by grind
 have d:E * 4294967296 * (g * v1+g)≤E * 4294967296 * top:=aY _ (by omega)
 have:=t.Eu;have:=t.Vpos
 omega
end Zlo
def Zuv (X:Option R8) (R:Nat→Option R8) (q U V:Nat):Prop:=∃ g:Nat,X=R g∧q≤g∧g<4294967296∧g * V<U+V
theorem Zwi (N j0:Nat) (u v:List Int) (hu:Zp u) (hv:Zp v) (hn:2≤v.length) (hl:j0+v.length<u.length) (hs:v.length<4611686018427387904) {U V E lU lV top q:Nat} (hq:U / V=q)
  (t:Zlo U V E (v[v.length - 1]).toNat (v[v.length - 2]).toNat (u[j0+v.length - 2]).toNat top lU lV) (htop:top<18446744073709551616):
  ∀ (n g r:Nat),g * (v[v.length - 1]).toNat+r=top→q≤g→r<4294967296→4294967296≤r+2147483648 * n→
  Zuv (Qx N j0 (v.length+1) u v n (g:Int) (r:Int)) (fun g'=>Uw j0 (v.length+1) v (g':Int) v 0 u 0 0) q U V
 | 0,g,r,_,_,k,l=>by omega
 | n+1,g,r,c,m,k,l=>by
  have e:v.length - 1<v.length:=by omega
  have f:v.length - 2<v.length:=by omega
  have i:j0+v.length - 2<u.length:=by omega
  have A:=hv.get e
  have B:=hv.get f
  have C:=hu.get i
  have o:=t.big
  have w:g≤top:=by
   have:g * 1≤g * (v[v.length - 1]).toNat:=aY _ (by omega)
   omega
  -- one a
  have a:q<g→Zuv (Zmh j0 (v.length+1) u v (g:Int) (r:Int) (Qx N j0 (v.length+1) u v n)) (fun g'=>Uw j0 (v.length+1) v (g':Int) v 0 u 0 0) q U V:=fun y=>by
   have b:(g - 1) * (v[v.length - 1]).toNat+(r+(v[v.length - 1]).toNat)=top:=by
    have:(g - 1+1) * (v[v.length - 1]).toNat+r=top:=by rw [show g - 1+1=g by omega];exact c
    rw [bB] at this
    omega
   have j:u64.wrap ((g:Int) - 1)=((g - 1:Nat):Int):=by rw [Xs (by omega)];omega
   have p:u64.wrap ((r:Int)+u64.wrap v[v.length - 1])=((r+(v[v.length - 1]).toNat:Nat):Int):=by rw [Xs (x:=v[v.length - 1]) (by omega),Xs (by omega)];omega
   rw [Zmh,Zv (by omega),show (v.length:Int) - 1=((v.length - 1:Nat):Int) by omega,Zs e,oB,p,j]
   by_cases hb:4294967296≤r+(v[v.length - 1]).toNat
   ·rw [if_pos (dT (by omega)),Zwj,j]
    exact ⟨g - 1,rfl,by omega,t.over b hb,t.stop b hb⟩
   ·rw [if_neg (dF (by omega))]
    exact Zwi N j0 u v hu hv hn hl hs hq t htop n (g - 1) (r+(v[v.length - 1]).toNat) b (by omega) (by omega) (by omega)
  have d:=t.quo
  rw [hq] at d
  rw [Qx.eq_2]
  by_cases hgb2:4294967295<g
  ·rw [if_pos (dT (by omega)),Zg2,if_pos rfl]
   exact a (by omega)
  ·have D:g * (v[v.length - 2]).toNat≤4294967295 * 4294967295:=gX (by omega) (by omega)
   have s:(g:Int) * v[v.length - 2]=((g * (v[v.length - 2]).toNat:Nat):Int):=by
    rw [bN];congr 1;omega
   rw [if_neg (dF (by omega)),if_pos (dT (by omega)),Zv (by omega),show (v.length:Int) - 2=((v.length - 2:Nat):Int) by omega,Zs f,oB,Z7 (by omega),show (j0:Int)+((v.length - 2:Nat):Int)=((j0+v.length - 2:Nat):Int) by omega,Zs i,oB,Zg2,
    Xs (x:=u[j0+v.length - 2]) (by omega),Zrc (by omega) (by omega),Xs (x:=v[v.length - 2]) (by omega),s,Xs (by omega)]
   by_cases hc:r * 4294967296+(u[j0+v.length - 2]).toNat<g * (v[v.length - 2]).toNat
   ·rw [if_pos (dT (by omega))]
    exact a (by rw [← hq];exact t.great c hc)
   ·rw [if_neg (dF (by omega))]
    exact ⟨g,rfl,m,by omega,t.fine (by omega) c (by omega)⟩
theorem Zsh {u w:List Int} {j0 n P:Nat} (hP:4294967296 ^ (n+1)=P) (hl:j0+n<u.length) (hz:Zc (u.drop (j0+n+1))=0) (h1:w.length=u.length) (h2:Zp w) (h3:w.drop (j0+n+1)=u.drop (j0+n+1)):Zc (w.drop j0)<P:=by
 have:=Q6 ((h2.drop j0).take (n+1))
 rw [nK,bH,aZ (by omega),hP] at this
 have e:=Tx (w.drop j0) (n+1)
 rw [hP,dK,← dZ,h3,hz] at e
 omega
theorem Zwn {u w:List Int} {j0 n P Q x y:Nat} (hP:4294967296 ^ (n+1)=P) (hQ:4294967296 ^ j0=Q) (h4:w.take j0=u.take j0) (h:Zc w+Q * x=Zc u+y * 4294967296 ^ (j0+n+1)):Zc (w.drop j0)+x=Zc (u.drop j0)+y * P:=by
 have c:(4294967296:Nat) ^ (j0+n+1)=Q * P:=by rw [← hQ,← hP,← dH,dZ]
 have d:0<Q:=by rw [← hQ];exact fI (by decide)
 have b:=Tx u j0
 have a:=Tx w j0
 rw [h4] at a
 rw [hQ] at b a
 rw [c,b,a] at h
 clear c hP hQ b a h4
 refine Nat.eq_of_mul_eq_mul_left d ?_
 grind
theorem Z7q {U V P q g over P1:Nat} (hq:U / V=q) (hV:0<V) (hg1:q≤g) (hg3:g * V<U+V) (k1:P1+g * V=U+over * P) (p1:P1<P):
  (over=0→g=q∧P1=U % V)∧(over=1→g=q+1∧∀ P2 co,V<P→P2<P→P2+co * P=P1+V→P2=U % V):=by
 have d:V * q+U % V=U:=by rw [← hq];exact kA _ _
 have j:=eT U hV
 have a:∀ x y:Nat,x<y→x * V+V≤y * V:=fun x y e=>by
  have:=bD V (show x+1≤y from e)
  rw [bB,aV] at this;exact this
 rw [bS] at d
 constructor
 ·intro c
  subst c
  have b:g=q:=by
   have i:¬ q<g:=fun h=>by
    have:=a _ _ h
    omega
   omega
  subst b
  exact ⟨rfl,by omega⟩
 ·intro c
  subst c
  have b:g=q+1:=by
   have m:¬ g≤q:=fun h=>by
    have:=bD V h
    omega
   have i:¬ q+1<g:=fun h=>by
    have:=a _ _ h
    rw [bB,aV] at this
    omega
   omega
  refine ⟨b,fun P2 co k p2 n=>?_⟩
  have l:g * V=q * V+V:=by rw [b,bB,aV]
  have f:co=1:=by
   rcases Nat.lt_trichotomy co 1 with h | h | h
   ·have:co=0:=by omega
    subst this;omega
   ·exact h
   ·have:=bD P (show 2≤co from h)
    omega
  subst f
  omega
theorem Z7r {N j0:Nat} {u v:List Int} (hN:2≤N) (hu:Zp u) (hv:Zp v) (hn:2≤v.length) (hl:j0+v.length<u.length) (hs:u.length<4611686018427387904)
  (hz:Zc (u.drop (j0+v.length+1))=0) (hbig:2147483648≤(v[v.length - 1]).toNat) (hlt:Zc (u.drop j0)<4294967296 * Zc v):
  ∃ u',Zj0 N j0 (v.length+1) u v=some (((Zc (u.drop j0) / Zc v:Nat):Int),u')∧u'.length=u.length∧Zp u'∧u'.take j0=u.take j0∧Zc (u'.drop j0)=Zc (u.drop j0) % Zc v∧Zc (u.drop j0) / Zc v<4294967296:=by
 have f:v.length - 1<v.length:=by omega
 have r:v.length - 2<v.length:=by omega
 have s:j0+v.length - 2<u.length:=by omega
 have i:j0+v.length - 1<u.length:=by omega
 have c1:=hv.get f
 have c2:=hv.get r
 have c3:=hu.get s
 have c4:=hu.get i
 have c5:=hu.get hl
 -- the Zf above
 have O:Zc v=Zc (v.take (v.length - 2))+4294967296 ^ (v.length - 2) * ((v[v.length - 2]).toNat+4294967296 * (v[v.length - 1]).toNat):=by
  rw [Tx v (v.length - 2),Uy r,show v.length - 2+1=v.length - 1 by omega,Uy f,show v.length - 1+1=v.length by omega,fR,Y0];simp
 have R:Zc (u.drop j0)=Zc ((u.drop j0).take (v.length - 2))+4294967296 ^ (v.length - 2) * ((u[j0+v.length - 2]).toNat+4294967296 * ((u[j0+v.length]).toNat * 4294967296+(u[j0+v.length - 1]).toNat)):=by
  have S:j0+(v.length - 2)=j0+v.length - 2:=by omega
  rw [Tx (u.drop j0) (v.length - 2),dK,S,Uy s,show j0+v.length - 2+1=j0+v.length - 1 by omega,Uy i,show j0+v.length - 1+1=j0+v.length by omega,Uy hl,hz]
  congr 3
  omega
 have lV:=Q6 (hv.take (v.length - 2))
 have lU:=Q6 ((hu.drop j0).take (v.length - 2))
 rw [nK,aZ (by omega)] at lV
 rw [nK,bH,aZ (by omega)] at lU
 have t:Zlo (Zc (u.drop j0)) (Zc v) (4294967296 ^ (v.length - 2)) (v[v.length - 1]).toNat (v[v.length - 2]).toNat (u[j0+v.length - 2]).toNat ((u[j0+v.length]).toNat * 4294967296+(u[j0+v.length - 1]).toNat) _ _:=
  ⟨R,O,lU,lV,by omega,by omega,by omega,hbig,hlt⟩
 have T:=t.Vpos
 have b:(u[j0+v.length]).toNat * 4294967296+(u[j0+v.length - 1]).toNat<18446744073709551616:=by omega
 obtain ⟨q,d⟩:∃ q,Zc (u.drop j0) / Zc v=q:=⟨_,rfl⟩
 obtain ⟨g,A,B,a2,C⟩:=Zwi N j0 u v hu hv hn hl (by omega) d t b N _ _ (Nat.div_add_mod' _ _) (by rw [← d];exact t.first) (aI (eT _ (by omega)) (by omega)) (by omega)
 have W:Zj0 N j0 (v.length+1) u v=Uw j0 (v.length+1) v (g:Int) v 0 u 0 0:=by
  refine Eq.trans ?_ A
  rw [Zj0,Z7 (by omega),show (j0:Int)+(v.length:Int)=((j0+v.length:Nat):Int) by omega,Zs hl,oB,Zv (by omega),show (v.length:Int) - 1=((v.length - 1:Nat):Int) by omega,Z7 (by omega),
   show (j0:Int)+((v.length - 1:Nat):Int)=((j0+v.length - 1:Nat):Int) by omega,Zs i,oB,Zs f,oB,Xs (x:=v[v.length - 1]) (by omega),Z7 (by omega),Z7 (by omega),Xs (x:=u[j0+v.length]) (by omega),Xs (x:=u[j0+v.length - 1]) (by omega),Zrc (by omega) (by omega)]
  have ev:v[v.length - 1]=((v[v.length - 1]).toNat:Int):=by omega
  have X:u[j0+v.length] * 4294967296+u[j0+v.length - 1]=(((u[j0+v.length]).toNat * 4294967296+(u[j0+v.length - 1]).toNat:Nat):Int):=by omega
  rw [X,ev,bV (by omega),cH (by omega),← iE,← jU,aC]
  rw [Xs ⟨fJ _,gF.2 (eM (cJ _ _) b)⟩]
 obtain ⟨j,over,q0,q1,D,k,l,F,m⟩:=Zwl j0 v (g:Int) (by omega) v 0 u 0 0 hv (by omega) hu hl (by omega) (by omega)
 have a:=t.quo
 rw [d] at a ⊢
 rw [W,q1]
 obtain ⟨P,c⟩:∃ P:Nat,4294967296 ^ (v.length+1)=P:=⟨_,rfl⟩
 obtain ⟨Q,e⟩:∃ Q:Nat,4294967296 ^ j0=Q:=⟨_,rfl⟩
 simp only [bR,fD,aC,cC] at m
 rw [e] at m
 have Y:=Zwn c e l m
 have p1:=Zsh c hl hz D k F
 have G:Zc v<P:=by
  have:=Q6 hv
  have H:=Zsh (u:=v++[0]) (w:=v++[0]) (j0:=0) (n:=v.length) c (by simp) (by simp [Zc]) rfl (hv.app (.cons (by decide) .nil)) rfl
  rw [aM,Zze] at H
  exact H
 have I:=Z7q d T B C Y p1
 by_cases ho:over=1
 ·obtain ⟨J,o⟩:=I.2 ho
  subst ho
  rw [if_pos rfl]
  obtain ⟨u2,K,Z,r2,L,M,r5,p⟩:=Zwm j0 v (g:Int) v 0 j 0 hv (by omega) k (by omega) (by omega)
  have p2:=Zsh c hl hz (by omega) L (by rw [r5,F])
  simp only [bR,fD,cC] at p
  rw [e] at p
  have k2:=Zwn (u:=u2) (w:=j) (x:=Zc v) (y:=K) c e (by rw [M]) p.symm
  refine ⟨u2,?_,by omega,L,by rw [M,l],o _ K G p2 k2.symm,a⟩
  rw [Z,Xs (by omega),Um (by omega)]
  congr 2;omega
 ·obtain ⟨J,o⟩:=I.1 (by omega)
  rw [if_neg ho,Zcz,Um (by omega)]
  exact ⟨j,by rw [J],D,k,l,o,a⟩
def Zew (N:Nat):Nat→R2→R2→Option R2
  | 0,_,_=>none
  | c+1,b,a=>if (decide (0<(a.length:Int)))=true then ((Zgz N b a).bind fun d=>(Zew N c) a d.2.1) else (some b)
def Zmg (N:Nat) (a b:List Int):Option R2:=
  (Td N a).bind fun c=>(Td N b).bind fun d=>Zew N N c d
theorem Z5u {N x y:Nat} {l m:Option Addr} {col:Ze} {c:World} {p q r:R2} (s:Nat) (a:Zmg N p q=some r) (D:Sl rU col c l x p) (E:Sl rU col c m y q):
    Calls prog 156 #[.slice l p.length x,.slice m q.length y] c (Vr .u32 45 s col c r):=by
 refine Xc 4 (m:=25) func156 rfl rfl rfl rfl rfl ?_;rw [Zmg.eq_1] at a;have b:=St.start col c;refine go ?_;obtain ⟨_,O,a⟩:=bZ a;refine Zi (Qh 1 O (D.k0.ks b)) fun _ _ ⟨_,_,_,i,S,Y⟩=>⟨_,i,?_⟩;refine Y3 rfl ?_;obtain ⟨_,R,a⟩:=bZ a;replace b:=b.grow S;refine Zi (Qh 2 R (E.k0.ks b)) ?_;rintro _ U ⟨V,W,X,rfl,A,J⟩;refine ⟨_,rfl,go ?_⟩;replace b:=b.grow A;refine Zt [1000000] (fun F G k=>∃ e t u n v w o h,h=F∧Zew N h n o=some r∧St c (Zh col) e k∧Zb rU 45 1 e k t u n∧Zb rU 45 2 e k v w o∧[0,1].map G=[.slice t n.length u,.slice v o.length w]) N ⟨_,_,_,_,_,_,_,_,rfl,a,b,Y.gr A,J,rfl⟩ ?_;clear a;intro F G k Q;obtain ⟨e,t,u,n,v,w,o,h,B,a,b,M,g,C⟩:=Q;subst B;refine .lL [0,1] C ?_
 cases h with
 | zero=>rw [Zew.eq_1] at a;cases a
 | succ h=>
  rw [Zew.eq_2] at a;refine go ?_;refine Zm a (fun z a=>go ?_) fun z a=>go ?_
  ·obtain ⟨f,P,a⟩:=bZ a;refine Zi (Zr0 3 4 P ((M.toSlF (Zg.int .u32)).froz 2) ((g.froz 1).toSlF (Zg.int .u32))) fun _ _ ⟨T,H,I,K,L,i,j,_,d⟩=>⟨_,i,?_⟩;replace d:=d.thaw (Z1 .u32) j (((Fz.refl (col:=e)).froz 1).froz 2);replace j:=j.thawR (col:=e);generalize Xa k.heap.size e T=Z at *;refine lM (.tuple #[.slice H f.1.length I,.slice K f.2.1.length L,.int .i64 f.2.2])<|lV (.slice H f.1.length I) (Xt rfl rfl)<|lV (.slice K f.2.1.length L) (Xt rfl rfl)<|lV (.int .i64 f.2.2) (Xt rfl rfl)<|go ?_;replace g:=g.gr j;replace g:=g.recolSelf 1 (by decide);replace d:=d.recol 2 1;replace b:=b.grow j;replace b:=b.recol 2 1 (by decide) (by decide);replace d:=d.recolSelf 2 (by decide);replace b:=b.recol 4 2 (by decide) (by decide);exact ⟨h,by omega,rfl,⟨_,_,_,_,_,_,_,_,rfl,a,b,g.recol 4 2,d,rfl⟩⟩
  cases a;exact ⟨rfl,_,_,_,rfl,b.fin (cm [(1,s)]),b.fo M⟩
theorem Z33 (N:Nat):∀ (n:Nat) (a:List Int),Zc1 N n a=S4 N n a
 | 0,a=>rfl
 | n+1,a=>by
  rw [Zc1.eq_2,S4.eq_2]
  simp only [Zmm,Zc0,Z33 N n]
theorem Z34 {N:Nat} {a:List Int} (h:Zp a) (hn:a.length<N) (hb:a.length≤35184372088000):Zg5 N a=some (Zf (Zc a)):=by
 rw [Zg5,Z33];exact Zrb N N a h hn (by omega)
theorem Xb0 {x L nx s:Nat} (hs:s<32) (hx:x<4294967296) (hn:nx=L % 4294967296):(x+4294967296 * L) / 2 ^ s=(x+4294967296 * nx) / 2 ^ s % 4294967296+4294967296 * (L / 2 ^ s):=by
 have a:(2:Nat) ^ s * 2 ^ (32 - s)=4294967296:=by rw [← dH,show s+(32 - s)=32 by omega]
 have b:=bY s
 generalize 2 ^ s=p at *
 generalize 2 ^ (32 - s)=r at *
 have c:(x+4294967296 * L) / p / 4294967296=L / p:=by
  rw [gG,bS p,← gG]
  congr 1
  omega
 have d:(x+4294967296 * L) / p % 4294967296=(x+4294967296 * nx) / p % 4294967296:=by
  have e:x+4294967296 * L=x+4294967296 * nx+p * (4294967296 * (r * (L / 4294967296))):=by
   have g:L=nx+4294967296 * (L / 4294967296):=by omega
   have f:p * (4294967296 * (r * (L / 4294967296)))=4294967296 * (p * r) * (L / 4294967296):=by grind
   rw [f,a]
   omega
  rw [e,gR _ _ b,iM]
 rw [← c,← d]
 omega
theorem Zwp (N s:Nat) (hs:s<32) (q r:List Int) (hq:Zp q) (hr:Zp r) (hN:q.length<N∧r.length<N) (hb:q.length≤35184372088000∧r.length≤35184372088000):∀ (n i:Nat) (u d:List Int),i≤r.length→r.length<n+i→u=d++r.drop i→d.length=i→Zp d→Zc d+4294967296 ^ i * (Zc (r.drop i) / 2 ^ s)=Zc r / 2 ^ s→
  Qw N (s:Int) q r n u (i:Int)=some (Zf (Zc q),Zf (Zc r / 2 ^ s),0)
 | 0,i,u,d,m,o,_,_,_,_=>by omega
 | n+1,i,u,d,m,o,b,c,e,j=>by
  have y:u.length=r.length:=by rw [b,nA,bH];omega
  rw [Qw.eq_2]
  by_cases hi:i<r.length
  ·have f:=aF hi
   have g:=hr.get hi
   have p:u[i]'(by omega)=r[i]:=by
    subst b
    rw [fK (by omega)]
    simp [c]
   have step:∀ a:Nat,a=Zc (r.drop (i+1)) % 4294967296→Zjy (s:Int) u (i:Int) (Qw N (s:Int) q r n) (a:Int)=some (Zf (Zc q),Zf (Zc r / 2 ^ s),0):=fun a l=>by
    have t:u32.wrap (Y2 .u64 (Wf .u64 (Yi .u64 (u64.wrap (a:Int)) 32) (u64.wrap r[i])) (s:Int))=(((r[i]).toNat+4294967296 * a) / 2 ^ s % 4294967296:Nat):=by
     rw [Xs (x:=(a:Int)) (by omega),Xs (x:=r[i]) (by omega),Zrc (by omega) (by omega),show (a:Int) * 4294967296+r[i]=(((r[i]).toNat+4294967296 * a:Nat):Int) by omega,Zq7 _ _ _ (by simp only [IntKind.bits];omega),Z4g]
    have k:u.set i ((((r[i]).toNat+4294967296 * a) / 2 ^ s % 4294967296:Nat):Int)=(d++[((((r[i]).toNat+4294967296 * a) / 2 ^ s % 4294967296:Nat):Int)])++r.drop (i+1):=by
     subst b
     rw [f,List.set_append_right _ _ (by omega),c,eX,eA]
     simp
    rw [Zjy,Zs (by omega),oB,Z7 (by omega),p,t,oB,Zpi,Zv (by omega),aC,k]
    have v:=Zwp N s hs q r hq hr hN hb n (i+1) _ (d++[((((r[i]).toNat+4294967296 * a) / 2 ^ s % 4294967296:Nat):Int)]) (by omega) (by omega) rfl (by simp [c]) (e.app (.cons (by omega) .nil)) (by
     rw [Q5,c,Wi,Y0,aC,← j,f,Wi,Xb0 hs (by omega) l,bG]
     generalize ((r[i]).toNat+4294967296 * a) / 2 ^ s % 4294967296=A
     generalize Zc (r.drop (i+1)) / 2 ^ s=C
     grind)
    exact v
   rw [if_pos (dT (by omega)),Zv (by omega)]
   by_cases hi1:i+1<r.length
   ·have w:u[i+1]'(by omega)=r[i+1]:=by
     subst b
     rw [fK (by omega)]
     simp [c]
    have B:=hr.get hi1
    rw [if_pos (dT (by omega)),show (i:Int)+1=((i+1:Nat):Int) by omega,Zs (by omega),oB,w,show r[i+1]=((r[i+1]).toNat:Int) by omega]
    exact step _ (by rw [Uy hi1];omega)
   ·rw [if_neg (dF (by omega))]
    have:=step 0 (by rw [aG (by omega)];rfl)
    exact this
  ·have:i=r.length:=by omega
   subst this
   rw [if_neg (dF (by omega))]
   rw [fR,List.append_nil] at b
   rw [fR,Y0,Nat.zero_div,dV,bR] at j
   subst b
   rw [Q7 hq hN.1 hb.1,oB,Q7 e (by omega) (by omega),oB,j]
theorem Zwo (N s:Nat) (v:List Int) (hN:2≤N) (hv:Zp v) (hn:2≤v.length) (hbig:2147483648≤(v[v.length - 1]).toNat):∀ (n j:Nat) (u q:List Int),j≤q.length→j<n→u.length=q.length+v.length→u.length<4611686018427387904→Zp u→Zp q→Zc (u.drop j)<Zc v→Zc (q.take j)=0→
  ∃ u' q',Zg0 N (s:Int) v n u q ((j:Int) - 1)=((Zg5 N u').bind fun r=>Qw N (s:Int) q' r N r 0)∧u'.length=u.length∧q'.length=q.length∧Zp u'∧Zp q'∧Zc u'<Zc v∧Zc v * Zc q'+Zc u'=Zc v * Zc q+Zc u
 | 0,j,u,q,_,h,_,_,_,_,_,_=>by omega
 | n+1,j,u,q,Z,Y,C,D,d,e,f,E=>by
  rw [Zg0.eq_2]
  by_cases h0:j=0
  ·subst h0
   rw [if_neg (by decide)]
   exact ⟨u,q,rfl,rfl,rfl,d,e,by simpa using f,rfl⟩
  ·have i:j - 1+1=j:=by omega
   have k:j - 1<u.length:=by omega
   have c:j - 1<q.length:=by omega
   have g:=d.get k
   have lv:=Q6 hv
   have F:=Tx (u.drop j) v.length
   rw [dK] at F
   have l:Zc (u.drop (j - 1+v.length+1))=0:=by
    rw [show j - 1+v.length+1=j+v.length by omega]
    rcases fL (Zc (u.drop (j+v.length))) with h | h
    ·exact h
    ·have:=aY (4294967296 ^ v.length) h
     generalize 4294967296 ^ v.length=P at *
     omega
   have G:=Uy k
   rw [i] at G
   obtain ⟨u',q1,m,H,I,o,J⟩:=Z7r (N:=N) (j0:=j - 1) hN d hv hn (by omega) D l hbig (by omega)
   have p:0≤((Zc (u.drop (j - 1)) / Zc v:Nat):Int)∧((Zc (u.drop (j - 1)) / Zc v:Nat):Int)<4294967296:=⟨fJ _,gF.2 J⟩
   rw [if_pos (dT (by omega)),show (j:Int) - 1=((j - 1:Nat):Int) by omega,Zv (x:=((j - 1:Nat):Int)+(v.length:Int)) (by omega),Zv (by omega),Z7 (by omega),aC,
    show aA (((j - 1:Nat):Int)+(v.length:Int)+1) - (j - 1)=v.length+1 by omega,q1,oB,Zs c,oB,oB,Zv (by omega)]
   have K:0<Zc v:=by omega
   -- the quotient's limb was 0
   have t:q[j - 1]=0∧Zc (q.take (j - 1))=0:=by
    have:=Zs8 c
    rw [i,E] at this
    have g2:=e.get c
    have hp:0<4294967296 ^ (j - 1):=fI (by decide)
    have L:4294967296 ^ (j - 1) * (q[j - 1]).toNat=0:=by omega
    rcases Nat.mul_eq_zero.1 L with h | h
    ·omega
    ·exact ⟨by omega,by omega⟩
   obtain ⟨M,w,O,R,S,T,U,V,W⟩:=Zwo N s v hN hv hn hbig n (j - 1) u' (q.set (j - 1) ((Zc (u.drop (j - 1)) / Zc v:Nat):Int)) (by rw [nS];omega) (by omega) (by rw [nS,m];exact C) (by omega) H (e.set _ p) (by rw [o];exact eT _ K) (by rw [Zfz _ (aX _)];exact t.2)
   refine ⟨M,w,O,by rw [R,m],by rw [S,nS],T,U,V,?_⟩
   rw [W]
   have X:=Tx u (j - 1)
   have y:=Tx u' (j - 1)
   rw [I,o] at y
   have A:=Tw c ((Zc (u.drop (j - 1)) / Zc v:Nat):Int)
   rw [t.1,fD,dV,bR,aC] at A
   rw [y,A,X]
   have B:=kA (Zc (u.drop (j - 1))) (Zc v)
   generalize Zc (u.drop (j - 1)) / Zc v=a at *
   generalize Zc (u.drop (j - 1)) % Zc v=b at *
   rw [← B]
   generalize 4294967296 ^ (j - 1)=Q at *
   grind
theorem Z30 {l:List Int} (h:0<l.length):Zc l=Zc (l.take (l.length - 1))+4294967296 ^ (l.length - 1) * (l[l.length - 1]).toNat:=by
 conv=>lhs;rw [← Zi0 h,Q5,Wi,Y0]
 rw [nK,aZ (by omega),dV,bR]
theorem Z31 {l:List Int} (hl:Zp l):Zc (l.take (l.length - 1))<4294967296 ^ (l.length - 1):=by
 have:=Q6 (hl.take (l.length - 1))
 rw [nK,aZ (by omega)] at this
 exact this
theorem Z7u {u:List Int} {k n S:Nat} (hu:Zp u) (hk:k+n=u.length) (hn:0<n) (ht:∀ h:u.length - 1<u.length,(u[u.length - 1]).toNat<S):Zc (u.drop k)<4294967296 ^ (n - 1) * S:=by
 have a:(u.drop k).length=n:=by rw [bH];omega
 have b:=Z30 (l:=u.drop k) (by omega)
 have c:=Z31 (hu.drop k)
 have d:((u.drop k)[(u.drop k).length - 1]'(by omega))=u[u.length - 1]'(by omega):=by
  have:(u.drop k)[(u.drop k).length - 1]?=u[u.length - 1]?:=by rw [List.getElem?_drop,a];congr 1;omega
  rw [aL (by omega),aL (by omega)] at this
  exact Option.some.inj this
 rw [d] at b
 rw [a] at b c
 have e:=ht (by omega)
 have f:=aY (4294967296 ^ (n - 1)) (show (u[u.length - 1]'(by omega)).toNat+1≤S from e)
 rw [dW] at f
 omega
theorem Zo0 {N:Nat} {a b:List Int} (ha:Zp a) (hb:Zp b) (hN:a.length+b.length+4<N) (hs:a.length+b.length≤35184372088000):
  Zgz N a b=some (if Zc b=0 then ([],[],11) else (Zf (Zc a / Zc b),Zf (Zc a % Zc b),0)):=by
 have la:=Yr ha
 have lb:=Yr hb
 rw [Zgz,Zac ha (by omega) (by omega),oB,Zac hb (by omega) (by omega),oB]
 generalize hA:Zc a=A at *
 generalize hB:Zc b=B at *
 by_cases h0:B=0
 ·subst h0
  rw [Vh,if_pos (by decide),if_pos rfl]
 ·have f:0<(Zf B).length:=cD.2 (fun h=>h0 (Zi1.1 h))
  rw [if_neg (dF (by omega)),if_neg h0,Zsf (Xd _) (Xd _) (by omega) (by omega) (by omega) (by omega),oB,Xb,Xb]
  by_cases hlt:A<B
  ·rw [if_pos hlt,if_pos (by decide),Q7 (Xd _) (by omega) (by omega),oB,Xb,fA hlt,eS hlt,Vh]
  ·rw [if_neg hlt,if_neg (by split <;> decide)]
   have a5:(Zf B).length≤(Zf A).length:=by
    have i:=Vc (k:=(Zf A).length) (n:=B)
    have c:=Vc (k:=(Zf A).length) (n:=A)
    have:=c.1 (aX _)
    exact i.2 (by omega)
   by_cases i:(Zf B).length=1
   ·have g:=(Xd B).get f
    have v:=Zpa f
    have e0:(Zf B).length - 1=0:=by omega
    have a7:(Zf B)[0]≠0:=by
     have:(Zf B)[(Zf B).length - 1]?=(Zf B)[0]?:=by rw [e0]
     rw [aL (by omega),aL (by omega)] at this
     rw [← Option.some.inj this];exact v
    have I:((Zf B)[0]).toNat=B:=by
     have c:=Xb B
     have C:=Uy (l:=Zf B) (k:=0) f
     rw [aM,c,aG (by omega),Y0] at C
     omega
    obtain ⟨q,q1,q2,q3,J⟩:=Xb4 (N:=N) (a:=Zf A) (d:=(Zf B)[0]) (by omega) (Xd _) (by omega) (by omega)
    rw [I,Xb] at q1 J
    have hm:=eT A (show 0<B by omega)
    have D:B<4294967296:=by omega
    have K:Zp [((A % B:Nat):Int)]:=.cons ⟨fJ _,gF.2 (kP hm D)⟩ .nil
    rw [if_pos (dT (by omega)),Zse (by omega),oB,show (0:Int)=((0:Nat):Int) from rfl,Zs f,oB,q1,oB,Q7 q3 (by omega) (by omega),oB,Q7 K (by simp;omega) (by simp),oB,J,Wi,Y0,aC,dV,bR]
   ·have L:0<(Zf B).length:=f
    have M:(Zf B).length - 1<(Zf B).length:=by omega
    have g:=(Xd B).get M
    have v:=Zpa f
    obtain ⟨k,ek,k1,k2⟩:=Zog (show ((Zf B)[(Zf B).length - 1]).toNat≠0 by omega)
    have hk:k≤31:=by
     have:Xn ((Zf B)[(Zf B).length - 1]).toNat≤32:=Uh.2 (by omega)
     omega
    obtain ⟨s,O⟩:∃ s,s=31 - k:=⟨_,rfl⟩
    have Q:Zmb (Zf B)[(Zf B).length - 1]=some (s:Int):=by
     rw [Zmb,show (Zf B)[(Zf B).length - 1]=(((Zf B)[(Zf B).length - 1]).toNat:Int) by omega,Zyc (by omega),oB,ek,Zv (by omega)]
     congr 1;omega
    obtain ⟨u,u1,u2,R,S,u5⟩:=Zyb (a:=Zf A) (s:=s) (by omega) (Xd _) (by omega)
    obtain ⟨w,w1,w2,w3,T,w5⟩:=Zyb (a:=Zf B) (s:=s) (by omega) (Xd _) (by omega)
    rw [Xb] at S T
    have j:=bY s
    -- the divisor, its highest Yh set
    have U:=Zi0 L
    have V:=Q6 ((Xd B).take ((Zf B).length - 1))
    rw [nK,aZ (by omega)] at V
    have I:B=Zc ((Zf B).take ((Zf B).length - 1))+4294967296 ^ ((Zf B).length - 1) * ((Zf B)[(Zf B).length - 1]).toNat:=by
     conv=>lhs;rw [← Xb B,← U,Q5,Wi,Y0]
     rw [nK,aZ (by omega)];simp
    have W:2 ^ k * 2 ^ s=2147483648:=by rw [← dH,O,show k+(31 - k)=31 by omega]
    have X:2 ^ (k+1) * 2 ^ s=4294967296:=by rw [bG,Nat.mul_right_comm,W]
    have c2:0<4294967296 ^ ((Zf B).length - 1):=fI (by decide)
    have b7:(Zf B).length - 1+1=(Zf B).length:=by omega
    have Y:(4294967296:Nat) ^ (Zf B).length=4294967296 ^ ((Zf B).length - 1) * 4294967296:=by rw [← bG];congr 1;omega
    generalize hPe:4294967296 ^ ((Zf B).length - 1)=P at *
    have b8:P * 2147483648≤2 ^ s * B:=by
     have i:=aY P k1
     have c:=bD (2 ^ s) (show P * 2 ^ k≤B by omega)
     rw [bT,W] at c
     rw [bS (2 ^ s)];exact c
    have E:2 ^ s * B<P * 4294967296:=by
     have i:=aY P (show ((Zf B)[(Zf B).length - 1]).toNat+1≤2 ^ (k+1) from k2)
     rw [dW] at i
     have c:=iD (show B<P * 2 ^ (k+1) by omega) j
     rw [bT,X] at c
     rw [bS (2 ^ s)];exact c
    have Z:(Zf (2 ^ s * B)).length=(Zf B).length:=by
     have i:(Zf (2 ^ s * B)).length≤(Zf B).length:=Vc.2 (by rw [Y];exact E)
     have c:¬ (Zf (2 ^ s * B)).length≤(Zf B).length - 1:=fun h=>by
      have:=Vc.1 h
      rw [hPe] at this
      have:P * 1≤P * 2147483648:=aY _ (by decide)
      omega
     omega
    have a0:0<(Zf (2 ^ s * B)).length:=by omega
    have F:2147483648≤((Zf (2 ^ s * B))[(Zf (2 ^ s * B)).length - 1]).toNat:=by
     have a1:=Z31 (Xd (2 ^ s * B))
     have e:=Z30 a0
     have y:(4294967296:Nat) ^ ((Zf (2 ^ s * B)).length - 1)=P:=by rw [Z];exact hPe
     rw [Xb,y] at e
     rw [y] at a1
     generalize Zc ((Zf (2 ^ s * B)).take ((Zf (2 ^ s * B)).length - 1))=lo at *
     generalize ((Zf (2 ^ s * B))[(Zf (2 ^ s * B)).length - 1]).toNat=t at *
     have C:P * 2147483648<P * (t+1):=by rw [dW];omega
     have:=fF C
     omega
    obtain ⟨q,m⟩:∃ q,q=aD ((Zf A).length - (Zf B).length+1) (0:Int):=⟨_,rfl⟩
    have lq:q.length=(Zf A).length - (Zf B).length+1:=by rw [m,aS]
    rw [if_neg (dF (by omega)),Zv (x:=((Zf B).length:Int) - 1) (by omega),show ((Zf B).length:Int) - 1=(((Zf B).length - 1:Nat):Int) by omega,Zs M,oB,Q,oB,u1,oB,w1,oB,
     Z34 w3 (by omega) (by omega),oB,T,Zv (x:=((Zf A).length:Int) - ((Zf B).length:Int)) (by omega),Zv (x:=((Zf A).length:Int) - ((Zf B).length:Int)+1) (by omega),Z7 (by simp only [maxLen];omega),
     show aA (((Zf A).length:Int) - ((Zf B).length:Int)+1)=(Zf A).length - (Zf B).length+1 by omega,← m,Zv (x:=(q.length:Int) - 1) (by omega)]
    obtain ⟨u',q',r1,r2,r3,r4,r5,G,p⟩:=Zwo N s (Zf (2 ^ s * B)) (by omega) (Xd _) (by omega) F N q.length u q (aX _) (by omega) (by omega) (by omega) R (by rw [m];exact .zeros _) (by
     -- the highest Zf are below the divisor
     rw [Xb]
     have i:=Z7u (k:=q.length) (n:=(Zf B).length) R (by omega) L u5
     rw [hPe] at i
     have H:2 ^ s≤2147483648:=by
      have:=gM (n:=2) (by decide) (show s≤31 by omega)
      omega
     have h8:=aY P H
     omega) (by rw [m,List.take_replicate];exact Sj _)
    rw [r1,Z34 r4 (by omega) (by omega),oB]
    rw [Xb] at G p
    have zq:Zc q=0:=by rw [m];exact Sj _
    rw [zq,S,dV,cC] at p
    have ll:=Yr r4
    have o:=Zwp N s (by omega) q' (Zf (Zc u')) r5 (Xd _) (by omega) (by omega) N 0 (Zf (Zc u')) [] (by omega) (by omega) (by simp) rfl .nil (by rw [Y0,aM,dU];omega)
    rw [show ((0:Nat):Int)=0 from rfl] at o
    rw [o,Xb]
    have a3:Zc q'=A / B:=by
     have r:2 ^ s * A / (2 ^ s * B)=Zc q':=by
      rw [← p,Nat.mul_add_div (by omega),fA G,bR]
     rw [← r,Nat.mul_div_mul_left _ _ j]
    have a4:Zc u' / 2 ^ s=A % B:=by
     have r:2 ^ s * A % (2 ^ s * B)=Zc u':=by
      rw [← p,Nat.mul_add_mod,eS G]
     rw [jD] at r
     rw [← r,Nat.mul_div_cancel_left _ j]
    rw [a3,a4]
theorem Z8t {x y:Nat} (h:y≤x) (hy:0<y):y * (x % y)≤x * y / 2:=by
 have c:x % y+y≤x:=by
  have:=Nat.mod_add_div x y
  have a:y * 1≤y * (x / y):=aY _ (Nat.div_pos h hy)
  omega
 have a:=eT x hy
 have b:y * (2 * (x % y))≤y * x:=aY _ (by omega)
 rw [gE (by decide),bS x y,bT,bS (x % y) 2]
 exact b
theorem Zss (N:Nat):∀ (n x y:Nat),y≤x→Xn (x * y)<n→(Zf x).length+(Zf y).length+4<N→(Zf x).length+(Zf y).length≤35184372088000→Zew N n (Zf x) (Zf y)=some (Zf (cX x y))
 | 0,x,y,_,h,_,_=>by omega
 | n+1,x,y,a,i,c,d=>by
  rw [Zew.eq_2]
  by_cases h0:y=0
  ·subst h0
   rw [Vh,if_neg (by decide),Nat.gcd_zero_right]
  ·have j:0<(Zf y).length:=cD.2 (fun h=>h0 (Zi1.1 h))
   have b:=eT x (show 0<y by omega)
   have k:(Zf (x % y)).length≤(Zf y).length:=Vc.2 (kP b (Vc.1 (aX _)))
   have l:(Zf y).length≤(Zf x).length:=Vc.2 (eM a (Vc.1 (aX _)))
   rw [if_pos (dT (by omega)),Zo0 (Xd _) (Xd _) c d,oB,Xb,Xb,if_neg h0]
   have e:Xn (y * (x % y))<n:=by
    have f:=Z8t a (by omega)
    have g:Xn (y * (x % y))≤Xn (x * y / 2 ^ 1):=Uh.2 (eM (by rw [Nat.pow_one];exact f) (Uh.1 (aX _)))
    rw [Zlr] at g
    have m:0<x * y:=Nat.mul_pos (by omega) (by omega)
    have o:0<Xn (x * y):=by
     rcases fL (Xn (x * y)) with h | h
     ·have:=Uh.1 (show Xn (x * y)≤0 by omega)
      omega
     ·exact h
    omega
   have:=Zss N n y (x % y) (kO b) e (by omega) (by omega)
   rw [this,fE x y,Nat.gcd_rec y x,fE]
theorem Zu5 (x y:Nat):Xn (x * y)≤Xn x+Xn y:=by
 refine Uh.2 ?_
 rw [dH]
 have a:=Uh.1 (aX (Xn x))
 have b:=Uh.1 (aX (Xn y))
 exact jV a b
theorem Z8s {N:Nat} {a b:List Int} (ha:Zp a) (hb:Zp b) (hN:32 * (a.length+b.length)+8<N) (hs:a.length+b.length≤35184372088000):Zmg N a b=some (Zf (cX (Zc a) (Zc b))):=by
 have e:=Yr ha
 have f:=Yr hb
 have g:=(Zoe (Zc a)).2
 have i:=(Zoe (Zc b)).2
 rw [Zmg,Q7 ha (by omega) (by omega),oB,Q7 hb (by omega) (by omega),oB]
 by_cases h:Zc b≤Zc a
 ·have:=Zu5 (Zc a) (Zc b)
  exact Zss N N _ _ h (by omega) (by omega) (by omega)
 ·have d:Zc a<Zc b:=by omega
  have j:=Zu5 (Zc b) (Zc a)
  have k:0<(Zf (Zc b)).length:=cD.2 (fun h=>by have:=Zi1.1 h;omega)
  obtain ⟨c,rfl⟩:∃ c,N=c+1:=⟨N - 1,by omega⟩
  rw [Zew.eq_2,if_pos (dT (by omega)),Zo0 (Xd _) (Xd _) (by omega) (by omega),oB,Xb,Xb,if_neg (by omega),eS d,
   Zss (c+1) c _ _ (by omega) (by omega) (by omega) (by omega),fE]
abbrev ZV:=Bool×List Int
abbrev QV:=R5×List Int
def Zw (a:ZV):Int:=if a.1=true then -(Zc a.2:Int) else (Zc a.2:Int)
def Xu (z:Int):ZV:=(decide (z<0),Zf z.natAbs)
def Xx (l:List Int):Nat:=if Zc l=0 then 1 else Zc l
def Zr (a:QV):Rat:=mkRat (Zw a.1) (Xx a.2)
def Zn (q:Rat):QV:=(Xu q.num,Zf q.den)
structure RV (k:Nat) (a:QV):Prop where
 m:Zp a.1.2
 d:Zp a.2
 lm:a.1.2.length≤k
 ld:a.2.length≤k
def qs (q:Rat):Nat:=max (Zf q.num.natAbs).length (Zf q.den).length
def Z3 (N s:Nat):Prop:=200 * (s+4)<N∧s≤1066000000000
theorem Zcc (a:ZV):(Zw a).natAbs=Zc a.2:=by
 rw [Zw];split <;> omega
theorem Un (z:Int):Zw (Xu z)=z:=by
 rw [Zw,Xu]
 simp only [Xb,decide_eq_true_eq]
 split <;> omega
theorem Znl (n:Bool) (m:List Int):Xu (Zw (n,m))=(n&&decide (Zc m≠0),Zf (Zc m)):=by
 rw [Xu,Zcc]
 congr 1
 rw [Zw]
 cases n
 ·rw [if_neg (fun h=>by cases h),Bool.false_and]
  exact decide_eq_false (by omega)
 ·rw [if_pos rfl,Bool.true_and]
  exact decide_eq_decide.2 (by simp only;omega)
theorem Uv (z:Int):Zp (Xu z).2:=Xd _
theorem Us (l:List Int):Xx l≠0:=by rw [Xx];split <;> omega
theorem Z7v {n:Nat} (h:n≠0):Xx (Zf n)=n:=by rw [Xx,Xb,if_neg h]
theorem Y5 (q:Rat):Zr (Zn q)=q:=by
 rw [Zr,Zn]
 simp only [Un,Z7v q.den_nz]
 exact Rat.mkRat_self q
theorem Zle (q:Rat):RV (qs q) (Zn q):=⟨Xd _,Xd _,eB _ _,dO _ _⟩
theorem RV.mono {k l:Nat} {a:QV} (h:RV k a) (hl:k≤l):RV l a:=⟨h.m,h.d,aT h.lm hl,aT h.ld hl⟩
theorem W7 {q:Rat} {k:Nat} (h:qs q≤k):RV k (Zn q):=(Zle q).mono h
theorem Z3.mono {N s t:Nat} (h:Z3 N t) (hs:s≤t):Z3 N s:=by
 obtain ⟨a,b⟩:=h
 exact ⟨by omega,by omega⟩
theorem Y7 {m n:Nat} (h:m≤n):(Zf m).length≤(Zf n).length:=Vc.2 (eM h (Vc.1 (aX _)))
theorem Uu (m n:Nat):(Zf (m * n)).length≤(Zf m).length+(Zf n).length:=by
 refine Vc.2 ?_
 rw [dH]
 exact jV (Vc.1 (aX _)) (Vc.1 (aX _))
theorem Zo9 {m n k:Nat} (hm:(Zf m).length≤k) (hn:(Zf n).length≤k):(Zf (m+n)).length≤k+1:=by
 refine Vc.2 ?_
 have a:=Vc.1 hm
 have b:=Vc.1 hn
 rw [bG]
 omega
theorem U8 {n:Nat} (h:n≠0):1≤(Zf n).length:=cD.2 (fun e=>h (Zi1.1 e))
theorem Xap (q:Rat):1≤qs q:=aT (U8 q.den_nz) (dO _ _)
theorem Zfs {z:Int} {d k:Nat} (hz:(Zf z.natAbs).length≤k) (hd:(Zf d).length≤k) (hk:1≤k):qs (mkRat z d)≤k:=by
 rw [qs,kK,kL]
 by_cases h:d=0
 ·rw [if_pos h,if_pos h]
  simp only [kB,Vh,Sd]
  simp;omega
 ·rw [if_neg h,if_neg h]
  refine Nat.max_le.2 ⟨aT (Y7 ?_) hz,aT (Y7 (cJ _ _)) hd⟩
  exact Int.natAbs_ediv_le_natAbs _ _
theorem Zz8 {k:Nat} {a:QV} (h:RV k a):qs (Zr a)≤max k 1:=by
 refine Zfs ?_ ?_ (dO _ _)
 ·rw [Zcc]
  exact aT (Yr h.m) (aT h.lm (eB _ _))
 ·rw [Xx]
  split
  ·rw [Sd];exact dO _ _
  ·exact aT (Yr h.d) (aT h.ld (eB _ _))
theorem Znp (a b:Rat):qs (a * b)≤qs a+qs b:=by
 rw [Rat.mul_def']
 have:=Xap a
 refine Zfs ?_ ?_ (by omega)
 ·rw [fM]
  exact aT (Uu _ _) (kH (eB _ _) (eB _ _))
 ·exact aT (Uu _ _) (kH (dO _ _) (dO _ _))
theorem Ztn (a b:Rat):qs (a+b)≤qs a+qs b+1:=by
 rw [Rat.add_def']
 have c:(Zf a.num.natAbs).length≤qs a:=eB _ _
 have d:(Zf a.den).length≤qs a:=dO _ _
 have e:(Zf b.num.natAbs).length≤qs b:=eB _ _
 have f:(Zf b.den).length≤qs b:=dO _ _
 refine Zfs (aT (Y7 (Int.natAbs_add_le _ _)) (Zo9 ?_ ?_)) ?_ (by omega)
 ·rw [fM,eH]
  have:=Uu a.num.natAbs b.den
  omega
 ·rw [fM,eH]
  have:=Uu b.num.natAbs a.den
  omega
 ·have:=Uu a.den b.den
  omega
theorem Znq:qs 0=1:=by
 rw [qs]
 simp only [Rat.zero_num,Rat.zero_den,kB,Vh,Sd]
 simp
theorem Zft:qs 1=1:=by
 rw [qs]
 simp only [Rat.one_num,Rat.one_den,Int.natAbs_one,Sd]
 simp
theorem Zzh {neg:Bool} {num den:List Int} (hd:Zc den≠0):
  Zn (mkRat (Zw (neg,num)) (Zc den))=((neg&&decide (Zc num / cX (Zc num) (Zc den)≠0),Zf (Zc num / cX (Zc num) (Zc den))),Zf (Zc den / cX (Zc num) (Zc den))):=by
 rw [Zn,kK,kL,if_neg hd,if_neg hd,Zcc,fE (Zc den) (Zc num)]
 have a:cX (Zc num) (Zc den)≠0:=fun h=>hd (Nat.gcd_eq_zero_iff.1 h).2
 congr 1
 have e:Zw (neg,num) / ((cX (Zc num) (Zc den):Nat):Int)=Zw (neg,Zf (Zc num / cX (Zc num) (Zc den))):=by
  rw [Zw,Zw]
  simp only [Xb]
  cases neg
  ·simp
  ·simp only [if_true]
   rw [Int.neg_ediv_of_dvd (Int.natCast_dvd_natCast.2 (Nat.gcd_dvd_left _ _)),iE]
 rw [e,Znl,Xb]
theorem Zh6 {a b:Int} {c d:Nat} (hc:c≠0) (hd:d≠0):mkRat a c<mkRat b d↔a * d<b * c:=by
 have f:(0:Rat)<(c:Rat):=kC.2 (by omega)
 have g:(0:Rat)<(d:Rat):=kC.2 (by omega)
 rw [cM,cM,Rat.div_lt_iff f]
 have e:(b:Rat) / d * c=(b:Rat) * c / d:=by
  rw [Rat.div_def,Rat.div_def,bP,bP,Rat.mul_comm (d:Rat)⁻¹]
 rw [e,Rat.lt_div_iff g]
 have i:((a:Rat) * (d:Rat))=((a * (d:Int):Int):Rat):=by rw [iN];rfl
 have j:((b:Rat) * (c:Rat))=((b * (c:Int):Int):Rat):=by rw [iN];rfl
 rw [i,j,Rat.intCast_lt_intCast]
theorem Zyy {a b:Int} {c d:Nat} (hc:c≠0) (hd:d≠0):mkRat a c=mkRat b d↔a * d=b * c:=Rat.mkRat_eq_iff hc hd
def Ty (a b:Rat):Int:=if a<b then -1 else if b<a then 1 else 0
def Zba (a b:Int):Int:=if a<b then -1 else if b<a then 1 else 0
def Tz (a:Rat):Int:=Ty a 0
theorem Zti {a b:Int} {c d:Nat} (hc:c≠0) (hd:d≠0):Ty (mkRat a c) (mkRat b d)=Zba (a * d) (b * c):=by
 unfold Ty Zba
 simp only [Zh6 hc hd,Zh6 hd hc]
theorem Zrj (a:Int):Zba a 0=a.sign:=by
 unfold Zba
 rcases Int.lt_trichotomy a 0 with h | h | h
 ·rw [if_pos h,Int.sign_eq_neg_one_of_neg h]
 ·rw [h];rfl
 ·rw [if_neg (by omega),if_pos h,Int.sign_eq_one_of_pos h]
theorem Zz9 (a:QV):Tz (Zr a)=(Zw a.1).sign:=by
 rw [Tz,Zr,show (0:Rat)=mkRat 0 1 by rw [Rat.zero_mkRat],Zti (Us _) (by decide),← Zrj]
 simp
theorem Z0e (a:QV):Zr a=0↔Zc a.1.2=0:=by
 rw [Zr,Rat.mkRat_eq_zero (Us _),← Zcc]
 omega
theorem Zb9 {a:Rat}:Tz a=0↔a=0:=by
 rw [Tz,Ty]
 constructor
 ·intro h
  split at h
  ·cases h
  ·split at h
   ·cases h
   ·rename_i b c
    exact Rat.le_antisymm (Rat.not_lt.1 c) (Rat.not_lt.1 b)
 ·rintro rfl
  rw [if_neg cZ,if_neg cZ]
theorem Zqk {a:Rat}:Tz a<0↔a<0:=by
 rw [Tz,Ty]
 by_cases h:a<0
 ·rw [if_pos h];simp [h]
 ·rw [if_neg h];simp only [h,iff_false];split <;> decide
def Sf (N:Nat) (b:R1):Option R2:=
  (Zg1 N b.2).bind fun a=>if (decide (0<(a.length:Int)))=true then (some a) else ((Zcy N 1).bind fun c=>some c)
theorem Zbf {N d f:Nat} {g i:Option Addr} {col:Ze} {h:World} {b:R1} {r:R2} (j:Nat) (a:Sf N b=some r) (u:Sl rU col h g d b.1.2) (c:Sl rU col h i f b.2):
    Calls prog 121 #[(.agg #[.bool b.1.1,.slice g b.1.2.length d,.slice i b.2.length f])] h (Vr .u32 45 j col h r):=by
 refine Xc 2 (m:=12) func121 rfl rfl rfl rfl rfl ?_;rw [Sf.eq_1] at a;have e:=St.start col h;refine go ?_;refine Xg (col:=(Zh col)) 1 rfl fun _ _ _ v l=>go ?_;refine Z9 l ?_;obtain ⟨_,q,a⟩:=bZ a;replace e:=e.grow v;refine Zi (Zr1 2 q (c.k0.ks e)) ?_;rintro _ A ⟨n,B,C,rfl,o,p⟩;refine ⟨_,rfl,go ?_⟩;replace e:=e.grow o;refine Zm a (fun k a=>go ?_) fun k a=>go ?_
 ·cases a;exact ⟨rfl,_,_,_,rfl,e.fin (cm [(2,j)]),e.fo p⟩
 obtain ⟨_,m,a⟩:=bZ a;refine Zi (Zls (col:=n) 3 m) ?_;rintro _ E ⟨F,G,H,rfl,s,t⟩;refine ⟨_,rfl,go ?_⟩;cases a;replace e:=e.grow s;exact ⟨rfl,_,_,_,rfl,e.fin (cm [(3,j)]),e.fo t⟩
def Zk7 (a:Bool) (b:List Int):Option R5:=
  some (a,b)
def Za6 (N:Nat) (b:Bool) (c:List Int):Option R5:=
  (Zg1 N c).bind fun a=>if b=true then (Zk7 (decide (0<(a.length:Int))) a) else (Zk7 false a)
theorem Zf7 {N u:Nat} {i:Option Addr} {col:Ze} {d:World} {v:Bool} {k:R2} {r:R5} (j:Nat) (a:Za6 N v k=some r) (s:Sl rU col d i u k):
    Calls prog 161 #[.bool v,.slice i k.length u] d (S6 45 j col d r):=by
 refine Yx (m:=16) func161 rfl rfl rfl ?_;rw [Za6.eq_1] at a;have b:=St.start col d;refine go ?_;refine Xr (col:=(Zh col)) #[.bool false,(nI)] 1 zeroValue40 fun J _ _ C e=>go ?_;obtain ⟨l,B,a⟩:=bZ a;replace b:=b.grow C;refine Zi (Zr1 2 B (s.k0.ks b)) fun _ _ ⟨_,y,z,q,t,c⟩=>⟨_,q,?_⟩;refine Zlz rfl<|Zl<|Zx ?_;replace e:=e.gr t;replace b:=b.grow t;refine Wp.cutK [4,1000000] (fun G f=>∃ g m n o h,Zk7 m h=some r∧St d (Zh col) g f∧Zb rU 45 3 g f n o h∧Zd 40 1 g f J #[.bool m,.slice n h.length o]) ?_ ?_
 ·intro G f A;obtain ⟨g,m,n,o,h,a,b,F,e⟩:=A;rw [Zk7.eq_1] at a;refine W1 ?_;cases a;exact ⟨rfl,_,ra e.atN,_,_,_,rfl,b.fin (cm [(3,j)]),b.fo F⟩
 refine go ?_;refine Ye a (fun p a=>go ?_) fun p a=>go ?_
 ·refine lV (.bool (decide (0<(l.length:Int)))) (X0 (congrArg Value.bool p) rfl)<|Y3 rfl<|lV (.agg #[.bool (decide (0<(l.length:Int))),.slice y l.length z]) (Wo (l:=[_,_]) (qs:=[(0,1),(1,1)]) underlying40 zeroValue40 ⟨rfl,sizeOf4,rfl,sizeOf38,trivial⟩ rfl)<|Z6 e ?_;intro _ w D H;refine Zl ?_;replace c:=c.kp w;replace c:=c.recolSelf 3 (by decide);replace b:=b.kp w D;replace b:=b.recol 2 3 (by decide) (by decide);exact ⟨rfl,_,_,_,_,_,a,b,c,H.recol 2 3⟩
 refine lV (.bool false) (X7 (congrArg Value.bool p) rfl)<|Y3 rfl<|lV (.agg #[.bool false,.slice y l.length z]) (Wo (l:=[_,_]) (qs:=[(0,1),(1,1)]) underlying40 zeroValue40 ⟨rfl,sizeOf4,rfl,sizeOf38,trivial⟩ rfl)<|Z6 e ?_;intro _ x E I;refine Zl ?_;replace c:=c.kp x;replace c:=c.recolSelf 3 (by decide);replace b:=b.kp x E;replace b:=b.recol 2 3 (by decide) (by decide);exact ⟨rfl,_,_,_,_,_,a,b,c,I.recol 2 3⟩
def Zng (N:Nat) (a:R5) (b:R5):Option R5:=
  (Zap N a.2 b.2).bind fun d=>(Za6 N (!decide (a.1=b.1)) d).bind fun c=>some (c.1,c.2)
theorem Z66 {N w x:Nat} {y A:Option Addr} {col:Ze} {e:World} {i j r:R5} (t:Nat) (d:Zng N i j=some r) (o:Sl rU col e y w i.2) (p:Sl rU col e A x j.2):
    Calls prog 164 #[(.agg #[.bool i.1,.slice y i.2.length w]),(.agg #[.bool j.1,.slice A j.2.length x])] e (S6 45 t col e r):=by
 refine Yx (m:=16) func164 rfl rfl rfl ?_;rw [Zng.eq_1] at d;have c:=St.start col e;refine go ?_;refine Xg (col:=(Zh col)) 1 rfl fun _ _ C L q=>Xg (col:=C) 2 rfl fun _ _ D B s=>Xr (col:=D) #[.bool false,(nI)] 3 zeroValue40 fun _ _ g v m=>go ?_;refine Y8 (col:=g) [(0,1),(1,0),(2,1),(3,0),(4,1),(5,1),(6,0),(7,1),(8,0),(9,3),(10,3),(11,2)] (by kernel_rfl) (by kernel_rfl)<|xF ⟨_,_,rfl⟩ ?_;replace q:=(q.gr B).gr v;refine xW (fun _ a=>((q.atN).nth (q:=0) rfl).gr (a.bl g)) ?_;refine xF ⟨_,_,rfl⟩ ?_;replace s:=s.gr v;refine xW (fun _ a=>((s.atN).nth (q:=0) rfl).gr (a.bl g)) ?_;refine xu rfl rfl (fun _=>Zlc _ _ underlying4 rfl rfl) ?_;refine xF ⟨_,_,rfl⟩ ?_;refine xW (fun _ a=>((q.atN).nth (q:=1) rfl).gr (a.bl g)) ?_;refine xF ⟨_,_,rfl⟩ ?_;refine xW (fun _ a=>((s.atN).nth (q:=1) rfl).gr (a.bl g)) ?_;refine xe rfl rfl ?_;intro _ b;have a:=b.bl g;obtain ⟨_,G,d⟩:=bZ d;replace c:=(((c.grow L).grow B).grow v).grow a;refine Zi (Zir 4 G (o.k0.ks c) (p.k0.ks c)) fun _ _ ⟨k,_,_,h,u,I⟩=>⟨_,h,?_⟩;refine Zl<|Xo k b u<|xe rfl rfl ?_;intro K b;replace m:=(m.gr a).gr u;have a:=b.bl k;obtain ⟨_,E,d⟩:=bZ d;refine Zi (Zf7 5 E ((I.gr a).toSlF (Zg.int .u32))) fun _ _ ⟨H,_,_,h,f,l⟩=>⟨_,h,?_⟩;replace l:=l.thaw (Z1 .u32) f ((Fz.refl (col:=k)).froz 4);replace f:=f.thawR (col:=k);generalize Xa K.heap.size k H=n at *;refine Zl<|Xo n b f<|xe rfl rfl ?_;intro _ b;replace c:=((c.grow u).grow a).grow f;replace m:=(m.gr a).gr f;have a:=b.bl n;refine Z6 (m.gr a) fun _ z F J=>Zl<|xk n<|Y4 ?_;replace l:=(l.gr a).kp z;replace c:=(c.grow a).kp z F;intro _ a;replace a:=a.bl n;refine W1 ?_;cases d;replace c:=c.grow a;exact ⟨rfl,_,ra (J.gr a).atN,_,_,_,rfl,c.fin (cm [(5,t)]),c.fo (l.gr a)⟩
def Zej (N:Nat) (a:R5) (c:List Int):Option R5:=
  (Zng N (a.1,a.2) (false,c)).bind fun b=>some (b.1,b.2)
theorem Zok {N k d:Nat} {n h:Option Addr} {col:Ze} {a:World} {b:R5} {c:R2} {r:R5} (i:Nat) (g:Zej N b c=some r) (f:Sl rU col a n k b.2) (l:Sl rU col a h d c):
    Calls prog 123 #[(.agg #[.bool b.1,.slice n b.2.length k]),.slice h c.length d] a (S6 45 i col a r):=by
 refine Yx (m:=9) func123 rfl rfl rfl ?_;rw [Zej.eq_1] at g;have e:=St.start col a;refine go ?_;refine Xg (col:=(Zh col)) 1 rfl fun _ _ q x v=>Xr (col:=q) #[.bool false,(nI)] 2 zeroValue40 fun _ _ _ p y=>go ?_;refine lV _ (Z5 isAgg40 sizeOf40 (v.gr p))<|Y3 rfl<|lV (.agg #[.bool false,.slice h c.length d]) (Wo (l:=[_,_]) (qs:=[(0,1),(1,1)]) underlying40 zeroValue40 ⟨rfl,sizeOf4,rfl,sizeOf38,trivial⟩ rfl) ?_;obtain ⟨_,t,g⟩:=bZ g;replace e:=(e.grow x).grow p;refine Zi (Z66 3 t (f.k0.ks e) (l.k0.ks e)) fun _ _ ⟨_,_,_,j,m,w⟩=>⟨_,j,?_⟩;refine Z6 (y.gr m) fun _ o s u=>go ?_;cases g;replace e:=(e.grow m).kp o s;exact ⟨rfl,_,ra u.atN,_,_,_,rfl,e.fin (cm [(3,i)]),e.fo (w.kp o)⟩
def Zne (N:Nat) (a:R5) (b:R5):Option R5:=
  if (decide (a.1=b.1))=true then ((Zme N a.2 b.2).bind fun g=>(Za6 N a.1 g).bind fun c=>some (c.1,c.2)) else ((Zjz N a.2 b.2).bind fun d=>if d.2=true then ((Za6 N a.1 d.1).bind fun e=>some (e.1,e.2)) else ((Zjz N b.2 a.2).bind fun i=>(Za6 N b.1 i.1).bind fun f=>some (f.1,f.2)))
theorem Z64 {N f m:Nat} {c k:Option Addr} {col:Ze} {h:World} {t u r:R5} (l:Nat) (b:Zne N t u=some r) (i:Sl rU col h c f t.2) (j:Sl rU col h k m u.2):
    Calls prog 122 #[(.agg #[.bool t.1,.slice c t.2.length f]),(.agg #[.bool u.1,.slice k u.2.length m])] h (S6 45 l col h r):=by
 refine Yx (m:=47) func122 rfl rfl rfl ?_;rw [Zne.eq_1] at b;have c:=St.start col h;refine go ?_;refine Xg (col:=(Zh col)) 1 rfl fun _ _ o y g=>Xg (col:=o) 2 rfl fun _ _ p n k=>Xr (col:=p) #[.bool false,(nI)] 3 zeroValue40 fun _ _ v A f=>go ?_;refine Xy ⟨_,_,rfl⟩ ?_;replace g:=(g.gr n).gr A;refine lW ((g.atN).nth (q:=0) rfl)<|Xy ⟨_,_,rfl⟩ ?_;replace k:=k.gr A;refine lW ((k.atN).nth (q:=0) rfl)<|go ?_;replace i:=i.k0;replace j:=j.k0;replace c:=((c.grow y).grow n).grow A;refine Zm b (fun n b=>?_) fun n b=>go ?_
 ·refine Zx<|Y8 (col:=v) [(0,1),(1,0),(2,1),(3,0),(4,1),(5,0),(6,3),(7,3),(8,2)] (by kernel_rfl) (by kernel_rfl)<|xF ⟨_,_,rfl⟩ ?_;refine xW (fun _ a=>((g.atN).nth (q:=0) rfl).gr (a.bl v)) ?_;refine xF ⟨_,_,rfl⟩ ?_;refine xW (fun _ a=>((g.atN).nth (q:=1) rfl).gr (a.bl v)) ?_;refine xF ⟨_,_,rfl⟩ ?_;refine xW (fun _ a=>((k.atN).nth (q:=1) rfl).gr (a.bl v)) ?_;refine xe rfl rfl ?_;intro _ d;have a:=d.bl v;obtain ⟨_,q,b⟩:=bZ b;replace c:=c.grow a;refine Zi (Z5s 4 q (i.ks c) (j.ks c)) fun _ _ ⟨q,_,_,e,D,v⟩=>⟨_,e,?_⟩;refine Zl<|Xo q d D<|xe rfl rfl ?_;intro x d;replace f:=(f.gr a).gr D;have a:=d.bl q;obtain ⟨_,s,b⟩:=bZ b;refine Zi (Zf7 5 s ((v.gr a).toSlF (Zg.int .u32))) fun _ _ ⟨R,_,_,e,m,s⟩=>⟨_,e,?_⟩;replace s:=s.thaw (Z1 .u32) m ((Fz.refl (col:=q)).froz 4);replace m:=m.thawR (col:=q);generalize Xa x.heap.size q R=z at *;refine Zl<|Xo z d m<|xe rfl rfl ?_;intro _ d;replace c:=((c.grow D).grow a).grow m;replace f:=(f.gr a).gr m;have a:=d.bl z;replace f:=f.gr a;refine Z6 f fun _ Y Q w=>Zl<|xk z<|Y4 ?_;replace s:=(s.gr a).kp Y;replace c:=(c.grow a).kp Y Q;intro _ a;replace a:=a.bl z;refine W1 ?_;cases b;replace c:=c.grow a;exact ⟨rfl,_,ra (w.gr a).atN,_,_,_,rfl,c.fin (cm [(5,l)]),c.fo (s.gr a)⟩
 refine Z9 g<|Z9 k ?_;obtain ⟨w,H,b⟩:=bZ b;refine Zi (Zvg 6 H (i.ks c) (j.ks c)) fun _ X ⟨F,Z,d,e,y,V⟩=>⟨_,e,?_⟩;refine lM (.tuple #[.slice Z w.1.length d,.bool w.2])<|lV (.slice Z w.1.length d) (Xt rfl rfl)<|lV (.bool w.2) (Xt rfl rfl)<|go ?_;replace g:=g.gr y;replace k:=k.gr y;replace f:=f.gr y;replace c:=c.grow y;refine Zm b (fun n b=>go ?_) fun n b=>go ?_
 ·refine Z9 g<|Y3 rfl ?_;obtain ⟨_,I,b⟩:=bZ b;refine Zi (Zf7 7 I (V.toSlF (Zg.int .u32))) fun _ _ ⟨S,_,_,e,o,B⟩=>⟨_,e,?_⟩;replace B:=B.thaw (Z1 .u32) o ((Fz.refl (col:=F)).froz 6);replace o:=o.thawR (col:=F);generalize Xa X.heap.size F S=z at *;replace f:=f.gr o;refine Z6 f fun _ h L O=>go ?_;cases b;replace c:=(c.grow o).kp h L;exact ⟨rfl,_,ra O.atN,_,_,_,rfl,c.fin (cm [(7,l)]),c.fo (B.kp h)⟩
 refine Z9 k<|Z9 g ?_;obtain ⟨x,J,b⟩:=bZ b;refine Zi (Zvg 8 J (j.ks c) (i.ks c)) fun _ W ⟨E,a,g,e,G,U⟩=>⟨_,e,?_⟩;refine lM (.tuple #[.slice a x.1.length g,.bool x.2])<|lV (.slice a x.1.length g) (Xt rfl rfl)<|lV (.bool x.2) (Xt rfl rfl)<|go ?_;refine Xy ⟨_,_,rfl⟩ ?_;refine lW (((k.gr G).atN).nth (q:=0) rfl)<|Y3 rfl ?_;obtain ⟨_,K,b⟩:=bZ b;refine Zi (Zf7 9 K (U.toSlF (Zg.int .u32))) fun _ _ ⟨T,_,_,e,p,C⟩=>⟨_,e,?_⟩;replace C:=C.thaw (Z1 .u32) p ((Fz.refl (col:=E)).froz 8);replace p:=p.thawR (col:=E);generalize Xa W.heap.size E T=A at *;refine Z6 ((f.gr G).gr p) fun _ e M P=>go ?_;cases b;replace c:=((c.grow G).grow p).kp e M;exact ⟨rfl,_,ra P.atN,_,_,_,rfl,c.fin (cm [(9,l)]),c.fo (C.kp e)⟩
def Znh (N:Nat) (a:R5):Option R5:=
  (Za6 N a.1 a.2).bind fun b=>some (b.1,b.2)
theorem Z67 {N i:Nat} {j:Option Addr} {col:Ze} {a:World} {b r:R5} (g:Nat) (c:Znh N b=some r) (d:Sl rU col a j i b.2):
    Calls prog 158 #[(.agg #[.bool b.1,.slice j b.2.length i])] a (S6 45 g col a r):=by
 refine Yx (m:=8) func158 rfl rfl rfl ?_;rw [Znh.eq_1] at c;have e:=St.start col a;refine go ?_;refine Xg (col:=(Zh col)) 1 rfl fun _ _ n t f=>Xr (col:=n) #[.bool false,(nI)] 2 zeroValue40 fun _ _ _ m u=>go ?_;refine Xy ⟨_,_,rfl⟩ ?_;replace f:=f.gr m;refine lW ((f.atN).nth (q:=0) rfl)<|Z9 f ?_;obtain ⟨_,p,c⟩:=bZ c;replace e:=(e.grow t).grow m;refine Zi (Zf7 3 p (d.k0.ks e)) fun _ _ ⟨_,_,_,h,k,s⟩=>⟨_,h,?_⟩;refine Z6 (u.gr k) fun _ l o q=>go ?_;cases c;replace e:=(e.grow k).kp l o;exact ⟨rfl,_,ra q.atN,_,_,_,rfl,e.fin (cm [(3,g)]),e.fo (s.kp l)⟩
def Zei (N:Nat) (e:Bool) (a b:List Int):Option R1:=
  (Zmg N a b).bind fun c=>(Zgz N a c).bind fun f=>(Zgz N b c).bind fun g=>(Znh N (e,f.1)).bind fun d=>some ((d.1,d.2),g.1)
theorem Zoj {N C G:Nat} {l m:Option Addr} {col:Ze} {c:World} {o:Bool} {p q:R2} {r:R1} (s c2:Nat) (a:Zei N o p q=some r) (e:Sl rU col c l C p) (f:Sl rU col c m G q):
    Calls prog 119 #[.bool o,.slice l p.length C,.slice m q.length G] c (Sm 45 s c2 col c r):=by
 refine Yx (m:=37) func119 rfl rfl rfl ?_;rw [Zei.eq_1] at a;have b:=St.start col c;refine go ?_;refine Xr (col:=(Zh col)) #[.bool false,(nI),(nI)] 1 zeroValue42 fun _ _ _ U l=>go ?_;obtain ⟨_,T,a⟩:=bZ a;replace e:=e.k0;replace f:=f.k0;replace b:=b.grow U;refine Zi (Z5u 2 T (e.ks b) (f.ks b)) ?_;rintro _ M ⟨t,ae,af,rfl,E,n⟩;refine ⟨_,rfl,go ?_⟩;obtain ⟨h,P,a⟩:=bZ a;replace b:=b.grow E;refine Zi (Zr0 3 4 P ((e.ks b).froz 2) (n.toSlF (Zg.int .u32))) fun _ c ⟨W,A,B,I,K,d,k,D,_⟩=>⟨_,d,?_⟩;replace D:=D.thaw (Z1 .u32) k ((Fz.refl (col:=t)).froz 2);replace k:=k.thawR (col:=t);generalize Xa M.heap.size t W=v at *;refine lM (.tuple #[.slice A h.1.length B,.slice I h.2.1.length K,.int .i64 h.2.2])<|lV (.slice A h.1.length B) (Xt rfl rfl)<|lV (.slice I h.2.1.length K) (Xt rfl rfl)<|lV (.int .i64 h.2.2) (Xt rfl rfl)<|go ?_;obtain ⟨g,Q,a⟩:=bZ a;replace b:=b.grow k;refine Zi (Zr0 5 6 Q ((f.ks b).froz 2) ((n.gr k).toSlF (Zg.int .u32))) fun _ e ⟨X,y,z,J,L,d,j,F,_⟩=>⟨_,d,?_⟩;replace F:=F.thaw (Z1 .u32) j ((Fz.refl (col:=v)).froz 2);replace j:=j.thawR (col:=v);generalize Xa c.heap.size v X=x at *;refine lM (.tuple #[.slice y g.1.length z,.slice J g.2.1.length L,.int .i64 g.2.2])<|lV (.slice y g.1.length z) (Xt rfl rfl)<|lV (.slice J g.2.1.length L) (Xt rfl rfl)<|lV (.int .i64 g.2.2) (Xt rfl rfl)<|go ?_;refine lV (.agg #[.bool o,.slice A h.1.length B]) (Wo (l:=[_,_]) (qs:=[(0,1),(1,1)]) underlying40 zeroValue40 ⟨rfl,sizeOf4,rfl,sizeOf38,trivial⟩ rfl) ?_;obtain ⟨H,O,a⟩:=bZ a;refine Zi (Z67 7 O ((D.gr j).toSlF (Zg.int .u32))) fun _ _ ⟨V,Y,Z,d,i,w⟩=>⟨_,d,?_⟩;replace w:=w.thaw (Z1 .u32) i ((Fz.refl (col:=x)).froz 3);replace i:=i.thawR (col:=x);generalize Xa e.heap.size x V=d at *
 refine Y3 rfl<|lV (.agg #[.bool H.1,.slice Y H.2.length Z,.slice y g.1.length z]) (Wo (l:=[_,_]) (qs:=[(0,2),(2,1)]) underlying42 zeroValue42 ⟨rfl,sizeOf40,rfl,sizeOf38,trivial⟩ rfl) ?_;refine Z6 ((((l.gr E).gr k).gr j).gr i) fun _ u R S=>go ?_;cases a;replace b:=((b.grow j).grow i).kp u R;exact ⟨rfl,_,ra S.atN,_,_,_,_,_,rfl,b.fin (cm [(7,s),(5,c2)]),b.fo (w.kp u),b.fo ((F.gr i).kp u)⟩
def Qo (N:Nat) (a:R1) (b:R1):Option R1:=
  (Sf N ((b.1.1,b.1.2),b.2)).bind fun g=>(Zej N (a.1.1,a.1.2) g).bind fun d=>(Sf N ((a.1.1,a.1.2),a.2)).bind fun i=>(Zej N (b.1.1,b.1.2) i).bind fun e=>(Zne N (d.1,d.2) (e.1,e.2)).bind fun f=>(Sf N ((a.1.1,a.1.2),a.2)).bind fun j=>(Sf N ((b.1.1,b.1.2),b.2)).bind fun k=>(Zap N j k).bind fun l=>(Zei N f.1 f.2 l).bind fun c=>some ((c.1.1,c.1.2),c.2)
theorem Zoh {N af y Q u:Nat} {R x P s:Option Addr} {col:Ze} {w:World} {o p r:R1} (c1 c2:Nat) (e:Qo N o p=some r) (S:Sl rU col w R af o.1.2) (V:Sl rU col w x y o.2) (T:Sl rU col w P Q p.1.2) (W:Sl rU col w s u p.2):
    Calls prog 72 #[(.agg #[.bool o.1.1,.slice R o.1.2.length af,.slice x o.2.length y]),(.agg #[.bool p.1.1,.slice P p.1.2.length Q,.slice s p.2.length u])] w (Sm 45 c1 c2 col w r):=by
 refine Yx (m:=27) func72 rfl rfl rfl ?_;rw [Qo.eq_1] at e;have c:=St.start col w;refine go ?_;refine Xg (col:=(Zh col)) 1 rfl fun b _ a A m=>Xg (col:=a) 2 rfl fun l _ h H n=>Xr (col:=h) #[.bool false,(nI),(nI)] 3 zeroValue42 fun _ g f v h=>go ?_;have U:=Zu.clip (fun _=>false) f g;refine Zih (col:=f) [(0,1),(1,0),(2,0),(5,1),(6,0),(7,0),(3,3),(4,3),(8,3),(9,3),(10,3),(11,4),(12,2)] (by kernel_rfl) (by kernel_rfl) ⟨fun d=>absurd d (by decide),fun d=>absurd d (by decide),fun d=>absurd d (by decide),fun d=>absurd d (by decide),fun d=>absurd d (by decide),fun d=>absurd d (by decide),fun d=>absurd d (by decide),fun d=>absurd d (by decide),fun d=>absurd d (by decide),fun d=>absurd d (by decide),fun d=>absurd d (by decide),fun _=>⟨_,_,_,rfl,Sa zeroValue40⟩,fun d=>absurd d (by decide),trivial⟩<|Vf (v:=(.pointer ((some (⟨b,0,none⟩:Addr)).map (·.add 0)))) rfl rfl (fun _=>Uc (sz:=2) (off:=0) underlying42 rfl sizeOf40 (by decide) rfl rfl ⟨_,_,rfl⟩) ?_;replace m:=((m.gr H).gr v).kpp U;refine Ta (v:=(.agg #[.bool o.1.1,.slice R o.1.2.length af])) rfl rfl (fun _ a=>Yl isAgg40 sizeOf40 rfl rfl (((m.atN).part 0 2 _ rfl).gr (a.bl (Zo g f)))) ?_;replace n:=(n.gr v).kpp U;refine Ta (v:=(.agg #[.bool p.1.1,.slice P p.1.2.length Q,.slice s p.2.length u])) rfl rfl (fun _ a=>Yl isAgg42 sizeOf42 rfl rfl (n.atN.gr (a.bl (Zo g f)))) ?_;refine Vf (v:=(.pointer ((some (⟨l,0,none⟩:Addr)).map (·.add 0)))) rfl rfl (fun _=>Uc (sz:=2) (off:=0) underlying42 rfl sizeOf40 (by decide) rfl rfl ⟨_,_,rfl⟩) ?_;refine Ta (v:=(.agg #[.bool p.1.1,.slice P p.1.2.length Q])) rfl rfl (fun _ a=>Yl isAgg40 sizeOf40 rfl rfl (((n.atN).part 0 2 _ rfl).gr (a.bl (Zo g f)))) ?_;refine Ta (v:=(.agg #[.bool o.1.1,.slice R o.1.2.length af,.slice x o.2.length y])) rfl rfl (fun _ a=>Yl isAgg42 sizeOf42 rfl rfl (m.atN.gr (a.bl (Zo g f)))) ?_;refine Vz rfl rfl ?_;intro _ b;have a:=b.bl (Zo g f);obtain ⟨_,X,e⟩:=bZ e;replace T:=T.k0;replace W:=W.k0;replace c:=((((c.grow A).grow H).grow v).kpp U).grow a;refine Zi (Zbf 4 X (T.ks c) (W.ks c)) fun _ E ⟨K,_,_,g,Z,x⟩=>⟨_,g,?_⟩
 refine Zl ?_;refine ⟨fun l=>Zj (Zo E K) E (Zo E K) l,fun j=>(Zo E K) j=497,Zj.refl _ _,Vt,fun _=>⟨fun _ d=>V4 b Z d,fun G s=>Z.below.block G s,fun j q f=>Ts Z j q (by first | exact f | (simp only [Ya,f];rfl) | (simp only [Ya,Xv,f];rfl))⟩,?_⟩;have z:=Zu.clip (fun _=>false) K E;refine Vz rfl rfl ?_;intro v b;replace h:=(((h.kpp U).gr a).gr Z).kpp z;replace m:=((m.gr a).gr Z).kpp z;replace n:=((n.gr a).gr Z).kpp z;have a:=b.bl (Zo E K);obtain ⟨_,R,e⟩:=bZ e;replace S:=S.k0;replace c:=((c.grow Z).kpp z).grow a;refine Zi (Zok 5 R ((S.ks c).froz 4) (((x.kpp z).gr a).toSlF (Zg.int .u32))) fun _ t ⟨u,_,_,g,y,i⟩=>⟨_,g,?_⟩;replace V:=V.k0;replace i:=i.thaw (Z1 .u32) y ((Fz.refl (col:=(Zo E K))).froz 4);replace y:=y.thawR (col:=(Zo E K));generalize Xa v.heap.size (Zo E K) u=A at *;refine Zl ?_;refine ⟨fun l=>Zj (Zo t A) t (Zo t A) l,fun j=>(Zo t A) j=497,Zj.refl _ _,Vt,fun _=>⟨fun _ d=>V4 b y d,fun G s=>y.below.block G s,fun j q f=>Ts y j q (by first | exact f | (simp only [Ya,f];rfl) | (simp only [Ya,Xv,f];rfl))⟩,?_⟩;have E:=Zu.clip (fun _=>false) A t;refine Vz rfl rfl ?_;intro _ b;replace m:=((m.gr a).gr y).kpp E;replace n:=((n.gr a).gr y).kpp E;replace h:=((h.gr a).gr y).kpp E;have a:=b.bl (Zo t A);obtain ⟨_,P,e⟩:=bZ e;replace c:=((c.grow y).kpp E).grow a;refine Zi (Zbf 6 P (S.ks c) (V.ks c)) fun _ D ⟨J,_,_,g,H,z⟩=>⟨_,g,?_⟩;refine Zl ?_;refine ⟨fun l=>Zj (Zo D J) D (Zo D J) l,fun j=>(Zo D J) j=497,Zj.refl _ _,Vt,fun _=>⟨fun _ d=>V4 b H d,fun G s=>H.below.block G s,fun j q f=>Ts H j q (by first | exact f | (simp only [Ya,f];rfl) | (simp only [Ya,Xv,f];rfl))⟩,?_⟩;have k:=Zu.clip (fun _=>false) J D;refine Vz rfl rfl ?_;intro w b;replace i:=(((i.kpp E).gr a).gr H).kpp k;replace m:=((m.gr a).gr H).kpp k;replace n:=((n.gr a).gr H).kpp k;replace h:=((h.gr a).gr H).kpp k;have a:=b.bl (Zo D J)
 obtain ⟨_,Q,e⟩:=bZ e;replace c:=((c.grow H).kpp k).grow a;refine Zi (Zok 7 Q ((T.ks c).froz 6) (((z.kpp k).gr a).toSlF (Zg.int .u32))) fun _ F ⟨Z,_,_,g,x,K⟩=>⟨_,g,?_⟩;replace K:=K.thaw (Z1 .u32) x ((Fz.refl (col:=(Zo D J))).froz 6);replace x:=x.thawR (col:=(Zo D J));generalize Xa w.heap.size (Zo D J) Z=I at *;refine Zl ?_;refine ⟨fun l=>Zj (Zo F I) F (Zo F I) l,fun j=>(Zo F I) j=497,Zj.refl _ _,Vt,fun _=>⟨fun _ d=>V4 b x d,fun G s=>x.below.block G s,fun j q f=>Ts x j q (by first | exact f | (simp only [Ya,f];rfl) | (simp only [Ya,Xv,f];rfl))⟩,?_⟩;have w:=Zu.clip (fun _=>false) I F;refine Vz rfl rfl ?_;intro y b;replace i:=((i.gr a).gr x).kpp w;replace m:=((m.gr a).gr x).kpp w;replace n:=((n.gr a).gr x).kpp w;replace h:=((h.gr a).gr x).kpp w;have a:=b.bl (Zo F I);obtain ⟨_,J,e⟩:=bZ e;refine Zi (Z64 8 J (((i.gr a).toSlF (Zg.int .u32)).froz 7) ((((K.kpp w).gr a).froz 5).toSlF (Zg.int .u32))) fun _ i ⟨k,_,_,g,z,v⟩=>⟨_,g,?_⟩;replace v:=v.thaw (Z1 .u32) z (((Fz.refl (col:=(Zo F I))).froz 5).froz 7);replace z:=z.thawR (col:=(Zo F I));generalize Xa y.heap.size (Zo F I) k=k at *;refine Zl ?_;refine ⟨fun l=>Zj (Zo i k) i (Zo i k) l,fun j=>(Zo i k) j=497,Zj.refl _ _,Vt,fun _=>⟨fun _ d=>V4 b z d,fun G s=>z.below.block G s,fun j q f=>Ts z j q (by first | exact f | (simp only [Ya,f];rfl) | (simp only [Ya,Xv,f];rfl))⟩,?_⟩;have D:=Zu.clip (fun _=>false) k i;refine Zik rfl rfl (Sa zeroValue40) fun u s=>Vz rfl rfl ?_;intro t ⟨b,hZ0⟩;replace c:=((((c.grow x).kpp w).grow a).grow z).kpp D;replace m:=((m.gr a).gr z).kpp D;replace n:=((n.gr a).gr z).kpp D;replace h:=((h.gr a).gr z).kpp D;have a:=b.bl (Zo i k);obtain ⟨B,q⟩:=Zf5 (col:=(Zo i k)) 9 hZ0 s;replace q:Zd 40 9 (Xm u 9 (Zo i k)) t u #[.bool false,(nI)]:=q;refine Z6 q ?_
 intro t A q O;refine Zl ?_;refine ⟨fun l=>Zj (Zo t (Xm u 9 (Zo i k))) t (Zo t (Xm u 9 (Zo i k))) l,fun j=>(Zo t (Xm u 9 (Zo i k))) j=497,Zj.refl _ _,Vt,fun d=>absurd d (by decide),?_⟩;have j:=Zu.clip (fun _=>false) (Xm u 9 (Zo i k)) t;refine Zil ?_;replace v:=((((v.kpp D).gr a).kpp B).kp A).kpp j;replace m:=(((m.gr a).kpp B).kp A).kpp j;replace n:=(((n.gr a).kpp B).kp A).kpp j;replace h:=(((h.gr a).kpp B).kp A).kpp j;replace c:=(((c.grow a).kpp B).kp A q).kpp j;intro G a;replace a:Zj (Zo t (Xm u 9 (Zo i k))) t (Zo t (Xm u 9 (Zo i k))) G:=.of_below a.below;refine Zx<|Y8 (col:=(Zo t (Xm u 9 (Zo i k)))) [(0,1),(1,0),(2,1),(3,0),(4,0),(6,0),(5,3),(7,3),(8,3),(9,3),(10,2)] (by kernel_rfl) (by kernel_rfl)<|xF ⟨_,_,rfl⟩ ?_;replace O:=(O.kpp j).gr a;refine xW (fun _ a=>((O.atN).nth (q:=0) rfl).gr (a.bl (Zo t (Xm u 9 (Zo i k))))) ?_;refine xF ⟨_,_,rfl⟩ ?_;refine xW (fun _ a=>((O.atN).nth (q:=1) rfl).gr (a.bl (Zo t (Xm u 9 (Zo i k))))) ?_;replace m:=m.gr a;refine xv rfl rfl (fun _ a=>Z5 isAgg42 sizeOf42 (m.gr (a.bl (Zo t (Xm u 9 (Zo i k)))))) ?_;replace n:=n.gr a;refine xv rfl rfl (fun _ a=>Z5 isAgg42 sizeOf42 (n.gr (a.bl (Zo t (Xm u 9 (Zo i k)))))) ?_;refine xe rfl rfl ?_;intro Y b;replace v:=v.gr a;replace h:=h.gr a;replace c:=c.grow a;have a:Zj (Zo t (Xm u 9 (Zo i k))) G (Zo t (Xm u 9 (Zo i k))) Y:=.of_below b.below;obtain ⟨_,M,e⟩:=bZ e;replace c:=c.grow a;refine Zi (Zbf 10 M (S.ks c) (V.ks c)) fun _ _ ⟨F,_,_,g,L,m⟩=>⟨_,g,?_⟩;refine Zl<|Xo F b L<|xe rfl rfl ?_;intro _ b;replace v:=(v.gr a).gr L;replace h:=(h.gr a).gr L;have a:=b.bl F;obtain ⟨_,O,e⟩:=bZ e;replace c:=(c.grow L).grow a;refine Zi (Zbf 11 O (T.ks c) (W.ks c)) fun _ _ ⟨B,_,_,g,C,d⟩=>⟨_,g,?_⟩;refine Zl<|Xo B b C<|xe rfl rfl ?_;intro i b;replace v:=(v.gr a).gr C;replace m:=(m.gr a).gr C;replace h:=(h.gr a).gr C;have a:=b.bl B
 obtain ⟨_,I,e⟩:=bZ e;refine Zi (Zir 12 I (((m.gr a).toSlF (Zg.int .u32)).froz 11) (((d.gr a).froz 10).toSlF (Zg.int .u32))) fun _ _ ⟨V,_,_,g,X,l⟩=>⟨_,g,?_⟩;replace l:=l.thaw (Z1 .u32) X (((Fz.refl (col:=B)).froz 10).froz 11);replace X:=X.thawR (col:=B);generalize Xa i.heap.size B V=d at *;refine Zl<|Xo d b X<|xe rfl rfl ?_;intro j b;replace c:=((c.grow C).grow a).grow X;replace v:=(v.gr a).gr X;replace h:=(h.gr a).gr X;have a:=b.bl d;obtain ⟨_,L,e⟩:=bZ e;refine Zi (Zoj 13 14 L (((v.gr a).toSlF (Zg.int .u32)).froz 12) (((l.gr a).froz 8).toSlF (Zg.int .u32))) fun _ _ ⟨f,_,_,_,_,g,Y,n,C⟩=>⟨_,g,?_⟩;replace n:=n.thaw (Z1 .u32) Y (((Fz.refl (col:=d)).froz 8).froz 12);replace C:=C.thaw (Z1 .u32) Y (((Fz.refl (col:=d)).froz 8).froz 12);replace Y:=Y.thawR (col:=d);generalize Xa j.heap.size d f=M at *;refine Zl<|Xo M b Y<|xe rfl rfl ?_;intro _ b;replace h:=(h.gr a).gr Y;replace c:=(c.grow a).grow Y;have a:=b.bl M;refine Z6 (h.gr a) fun _ b U W=>Zl<|xk M<|Y4 ?_;replace n:=(n.gr a).kp b;replace C:=(C.gr a).kp b;replace c:=(c.grow a).kp b U;intro _ a;replace a:=a.bl M;refine W1 ?_;cases e;replace c:=c.grow a;exact ⟨rfl,_,ra (W.gr a).atN,_,_,_,_,_,rfl,c.fin (cm [(13,c1),(14,c2)]),c.fo (n.gr a),c.fo (C.gr a)⟩
def Zbr (N:Nat) (a:R1) (b:R1):Option R1:=
  (Zap N a.1.2 b.1.2).bind fun d=>(Sf N ((a.1.1,a.1.2),a.2)).bind fun e=>(Sf N ((b.1.1,b.1.2),b.2)).bind fun f=>(Zap N e f).bind fun g=>(Zei N (!decide (a.1.1=b.1.1)) d g).bind fun c=>some ((c.1.1,c.1.2),c.2)
theorem Zru {N W X Y L:Nat} {M V P Q:Option Addr} {col:Ze} {f:World} {k l r:R1} (z c2:Nat) (d:Zbr N k l=some r) (w:Sl rU col f M W k.1.2) (B:Sl rU col f V X k.2) (x:Sl rU col f P Y l.1.2) (C:Sl rU col f Q L l.2):
    Calls prog 70 #[(.agg #[.bool k.1.1,.slice M k.1.2.length W,.slice V k.2.length X]),(.agg #[.bool l.1.1,.slice P l.1.2.length Y,.slice Q l.2.length L])] f (Sm 45 z c2 col f r):=by
 refine Yx (m:=25) func70 rfl rfl rfl ?_;rw [Zbr.eq_1] at d;have c:=St.start col f;refine go ?_;refine Xg (col:=(Zh col)) 1 rfl fun _ _ a j t=>Xg (col:=a) 2 rfl fun _ _ b Z u=>Xr (col:=b) #[.bool false,(nI),(nI)] 3 zeroValue42 fun _ _ h G g=>go ?_;refine Y8 (col:=h) [(0,1),(1,1),(2,0),(3,1),(4,1),(5,0),(6,1),(7,1),(8,1),(9,0),(10,1),(11,1),(12,0),(14,0),(16,0),(13,3),(15,3),(17,3),(18,3),(19,3),(20,2)] (by kernel_rfl) (by kernel_rfl)<|xF ⟨_,_,rfl⟩ ?_;refine xF (Tl ⟨_,_,rfl⟩) ?_;replace t:=(t.gr Z).gr G;refine xW (fun _ a=>((((t.atN).part 0 2 _ rfl)).nth (q:=0) rfl).gr (a.bl h)) ?_;refine xF ⟨_,_,rfl⟩ ?_;refine xF (Tl ⟨_,_,rfl⟩) ?_;replace u:=u.gr G;refine xW (fun _ a=>((((u.atN).part 0 2 _ rfl)).nth (q:=0) rfl).gr (a.bl h)) ?_;refine xu rfl rfl (fun _=>Zlc _ _ underlying4 rfl rfl) ?_;refine xF ⟨_,_,rfl⟩ ?_;refine xF (Tl ⟨_,_,rfl⟩) ?_;refine xW (fun _ a=>((((t.atN).part 0 2 _ rfl)).nth (q:=1) rfl).gr (a.bl h)) ?_;refine xF ⟨_,_,rfl⟩ ?_;refine xF (Tl ⟨_,_,rfl⟩) ?_;refine xW (fun _ a=>((((u.atN).part 0 2 _ rfl)).nth (q:=1) rfl).gr (a.bl h)) ?_;refine xv rfl rfl (fun _ a=>Z5 isAgg42 sizeOf42 (t.gr (a.bl h))) ?_;refine xv rfl rfl (fun _ a=>Z5 isAgg42 sizeOf42 (u.gr (a.bl h))) ?_;refine xe rfl rfl ?_;intro _ b;have a:=b.bl h;obtain ⟨_,e,d⟩:=bZ d;replace w:=w.k0;replace x:=x.k0;replace c:=(((c.grow j).grow Z).grow G).grow a;refine Zi (Zir 4 e (w.ks c) (x.ks c)) fun _ _ ⟨T,_,_,e,D,m⟩=>⟨_,e,?_⟩;refine Zl<|Xo T b D<|xe rfl rfl ?_;intro _ b;replace g:=(g.gr a).gr D;have a:=b.bl T;obtain ⟨_,f,d⟩:=bZ d;replace c:=(c.grow D).grow a;refine Zi (Zbf 5 f (w.ks c) (B.k0.ks c)) fun _ _ ⟨U,_,_,e,v,F⟩=>⟨_,e,?_⟩;refine Zl<|Xo U b v<|xe rfl rfl ?_;intro _ b;replace m:=(m.gr a).gr v;replace g:=(g.gr a).gr v;have a:=b.bl U;obtain ⟨_,h,d⟩:=bZ d;replace c:=(c.grow v).grow a
 refine Zi (Zbf 6 h (x.ks c) (C.k0.ks c)) fun _ _ ⟨o,_,_,e,p,i⟩=>⟨_,e,?_⟩;refine Zl<|Xo o b p<|xe rfl rfl ?_;intro R b;replace m:=(m.gr a).gr p;replace F:=(F.gr a).gr p;replace g:=(g.gr a).gr p;have a:=b.bl o;obtain ⟨_,H,d⟩:=bZ d;refine Zi (Zir 7 H (((F.gr a).toSlF (Zg.int .u32)).froz 6) (((i.gr a).froz 5).toSlF (Zg.int .u32))) fun _ _ ⟨K,_,_,e,i,E⟩=>⟨_,e,?_⟩;replace E:=E.thaw (Z1 .u32) i (((Fz.refl (col:=o)).froz 5).froz 6);replace i:=i.thawR (col:=o);generalize Xa R.heap.size o K=n at *;refine Zl<|Xo n b i<|xe rfl rfl ?_;intro S b;replace c:=((c.grow p).grow a).grow i;replace m:=(m.gr a).gr i;replace g:=(g.gr a).gr i;have a:=b.bl n;obtain ⟨_,I,d⟩:=bZ d;refine Zi (Zoj 8 9 I (((m.gr a).toSlF (Zg.int .u32)).froz 7) (((E.gr a).froz 4).toSlF (Zg.int .u32))) fun _ _ ⟨O,_,_,_,_,e,j,q,s⟩=>⟨_,e,?_⟩;replace q:=q.thaw (Z1 .u32) j (((Fz.refl (col:=n)).froz 4).froz 7);replace s:=s.thaw (Z1 .u32) j (((Fz.refl (col:=n)).froz 4).froz 7);replace j:=j.thawR (col:=n);generalize Xa S.heap.size n O=y at *;refine Zl<|Xo y b j<|xe rfl rfl ?_;intro _ b;replace g:=(g.gr a).gr j;replace c:=(c.grow a).grow j;have a:=b.bl y;refine Z6 (g.gr a) fun _ A J g=>Zl<|xk y<|Y4 ?_;replace q:=(q.gr a).kp A;replace s:=(s.gr a).kp A;replace c:=(c.grow a).kp A J;intro _ a;replace a:=a.bl y;refine W1 ?_;cases d;replace c:=c.grow a;exact ⟨rfl,_,ra (g.gr a).atN,_,_,_,_,_,rfl,c.fin (cm [(8,z),(9,c2)]),c.fo (q.gr a),c.fo (s.gr a)⟩
def Zfo (N:Nat) (a:R5):Option Int:=
  (Zmf N a.2).bind fun b=>if (decide (b=0))=true then (some 0) else (if a.1=true then (some (-1)) else (some 1))
theorem Zot {N g:Nat} {i:Option Addr} {col:Ze} {d:World} {b:R5} {r:Int} (a:Zfo N b=some r) (f:Sl rU col d i g b.2):
    Calls prog 118 #[(.agg #[.bool b.1,.slice i b.2.length g])] d (Wn d r):=by
 refine Xc 2 (m:=11) func118 rfl rfl rfl rfl rfl ?_;rw [Zfo.eq_1] at a;have c:=St.start col d;refine go ?_;refine Xg (col:=(Zh col)) 1 rfl fun _ _ n m k=>go ?_;refine Z9 k ?_;obtain ⟨_,l,a⟩:=bZ a;replace c:=c.grow m;refine Zi (Z5t l (f.k0.ks c)) fun _ _ ⟨j,h⟩=>⟨_,j,?_⟩;replace h:=Rr n h;refine go ?_;replace c:=c.grow h;refine Zm a (fun e a=>go ?_) fun e a=>go ?_
 ·cases a;exact ⟨rfl,rfl,c.below⟩
 refine Z9 (k.gr h) ?_;refine go ?_;refine Zm a (fun e a=>go ?_) fun e a=>go ?_
 ·cases a;exact ⟨rfl,rfl,c.below⟩
 cases a;exact ⟨rfl,rfl,c.below⟩
def Znf (N:Nat) (a:R5) (b:R5):Option Int:=
  (Zfo N (a.1,a.2)).bind fun c=>(Zfo N (b.1,b.2)).bind fun d=>if (decide (c<d))=true then (some (-1)) else (if (decide (d<c))=true then (some 1) else ((Zgx N a.2 b.2).bind fun e=>some (i64.wrap (c * e))))
theorem Z65 {N l n:Nat} {o p:Option Addr} {col:Ze} {e:World} {d f:R5} {r:Int} (a:Znf N d f=some r) (g:Sl rU col e o l d.2) (i:Sl rU col e p n f.2):
    Calls prog 208 #[(.agg #[.bool d.1,.slice o d.2.length l]),(.agg #[.bool f.1,.slice p f.2.length n])] e (Wn e r):=by
 refine Xc 4 (m:=26) func208 rfl rfl rfl rfl rfl ?_;rw [Znf.eq_1] at a;have c:=St.start col e;refine go ?_;refine Xg (col:=(Zh col)) 1 rfl fun _ _ v B m=>Xg (col:=v) 2 rfl fun _ _ h t u=>go ?_;refine Wg (col:=h) (by kernel_rfl) (by kernel_rfl) ?_;replace m:=m.gr t;refine qv rfl (fun _ b=>Z5 isAgg40 sizeOf40 (m.gr (b.bl h))) ?_;obtain ⟨y,A,a⟩:=bZ a;replace g:=g.k0;replace c:=(c.grow B).grow t;refine qc (v:=(.int .i64 y)) rfl (fun _ b=>⟨_,_,Ztr call118 rfl,(Zot A ((g.ks c).gr (b.bl h)):).mono fun _ _ k=>⟨k.1,b.trans (.of_below k.2)⟩⟩) ?_;refine qv rfl (fun _ b=>Z5 isAgg40 sizeOf40 (u.gr (b.bl h))) ?_;obtain ⟨x,z,a⟩:=bZ a;replace i:=i.k0;refine qc (v:=(.int .i64 x)) rfl (fun _ b=>⟨_,_,Ztr call118 rfl,(Zot z ((i.ks c).gr (b.bl h)):).mono fun _ _ k=>⟨k.1,b.trans (.of_below k.2)⟩⟩) ?_;refine go ?_;refine Y1 ?_;intro _ b;replace b:=b.bl h;refine go ?_;replace c:=c.grow b;refine Zm a (fun j a=>go ?_) fun j a=>go ?_
 ·cases a;exact ⟨rfl,rfl,c.below⟩
 refine Zm a (fun j a=>go ?_) fun j a=>go ?_
 ·cases a;exact ⟨rfl,rfl,c.below⟩
 refine Z9 (m.gr b)<|Z9 (u.gr b) ?_;obtain ⟨_,w,a⟩:=bZ a;refine Zi (Zrz w (g.ks c) (i.ks c)) fun _ _ ⟨s,q⟩=>⟨_,s,?_⟩;replace q:=Rr h q;refine go ?_;cases a;exact ⟨rfl,rfl,(c.grow q).below⟩
def Zjd (N:Nat) (a:R1) (b:R1):Option Int:=
  (Sf N ((b.1.1,b.1.2),b.2)).bind fun e=>(Zej N (a.1.1,a.1.2) e).bind fun c=>(Sf N ((a.1.1,a.1.2),a.2)).bind fun f=>(Zej N (b.1.1,b.1.2) f).bind fun d=>(Znf N (c.1,c.2) (d.1,d.2)).bind fun g=>some g
theorem Zva {N t E u H:Nat} {w G x F:Option Addr} {col:Ze} {h:World} {c d:R1} {r:Int} (e:Zjd N c d=some r) (o:Sl rU col h w t c.1.2) (y:Sl rU col h G E c.2) (p:Sl rU col h x u d.1.2) (X:Sl rU col h F H d.2):
    Calls prog 173 #[(.agg #[.bool c.1.1,.slice w c.1.2.length t,.slice G c.2.length E]),(.agg #[.bool d.1.1,.slice x d.1.2.length u,.slice F d.2.length H])] h (Wn h r):=by
 refine Xc 4 (m:=16) func173 rfl rfl rfl rfl rfl ?_;rw [Zjd.eq_1] at e;have f:=St.start col h;refine go ?_;refine Xg (col:=(Zh col)) 1 rfl fun _ _ K W v=>Xg (col:=K) 2 rfl fun _ _ k J I=>go ?_;refine Y8 (col:=k) [(0,1),(1,0),(2,0),(5,1),(6,0),(7,0),(3,3),(4,3),(8,3),(9,3),(10,3),(11,1)] (by kernel_rfl) (by kernel_rfl)<|xF ⟨_,_,rfl⟩ ?_;replace v:=v.gr J;refine xv (v:=(.agg #[.bool c.1.1,.slice w c.1.2.length t])) rfl rfl (fun _ b=>Yl isAgg40 sizeOf40 rfl rfl (((v.atN).part 0 2 _ rfl).gr (b.bl k))) ?_;refine xv rfl rfl (fun _ b=>Z5 isAgg42 sizeOf42 (I.gr (b.bl k))) ?_;refine xF ⟨_,_,rfl⟩ ?_;refine xv (v:=(.agg #[.bool d.1.1,.slice x d.1.2.length u])) rfl rfl (fun _ b=>Yl isAgg40 sizeOf40 rfl rfl (((I.atN).part 0 2 _ rfl).gr (b.bl k))) ?_;refine xv rfl rfl (fun _ b=>Z5 isAgg42 sizeOf42 (v.gr (b.bl k))) ?_;refine xe rfl rfl ?_;intro _ a;have b:=a.bl k;obtain ⟨_,Q,e⟩:=bZ e;replace p:=p.k0;replace f:=((f.grow W).grow J).grow b;refine Zi (Zbf 3 Q (p.ks f) (X.k0.ks f)) fun _ _ ⟨m,_,_,g,D,T⟩=>⟨_,g,?_⟩;refine Zl<|Xo m a D<|xe rfl rfl ?_;intro U a;have b:=a.bl m;obtain ⟨_,O,e⟩:=bZ e;replace o:=o.k0;replace f:=(f.grow D).grow b;refine Zi (Zok 4 O ((o.ks f).froz 3) ((T.gr b).toSlF (Zg.int .u32))) fun _ _ ⟨R,_,_,g,l,i⟩=>⟨_,g,?_⟩;replace i:=i.thaw (Z1 .u32) l ((Fz.refl (col:=m)).froz 3);replace l:=l.thawR (col:=m);generalize Xa U.heap.size m R=C at *;refine Zl<|Xo C a l<|xe rfl rfl ?_;intro _ a;have b:=a.bl C;obtain ⟨_,M,e⟩:=bZ e;replace f:=(f.grow l).grow b;refine Zi (Zbf 5 M (o.ks f) (y.k0.ks f)) fun _ _ ⟨n,_,_,g,z,A⟩=>⟨_,g,?_⟩;refine Zl<|Xo n a z<|xe rfl rfl ?_;intro V a;replace i:=(i.gr b).gr z;have b:=a.bl n;obtain ⟨_,P,e⟩:=bZ e;replace f:=(f.grow z).grow b;replace A:=A.gr b
 refine Zi (Zok 6 P ((p.ks f).froz 5) (A.toSlF (Zg.int .u32))) fun _ _ ⟨S,_,_,g,j,B⟩=>⟨_,g,?_⟩;replace B:=B.thaw (Z1 .u32) j ((Fz.refl (col:=n)).froz 5);replace j:=j.thawR (col:=n);generalize Xa V.heap.size n S=q at *;refine Zl<|Xo q a j<|xe rfl rfl ?_;intro _ a;replace i:=(i.gr b).gr j;have b:=a.bl q;obtain ⟨_,L,e⟩:=bZ e;refine Zi (Z65 L (((i.gr b).toSlF (Zg.int .u32)).froz 6) (((B.gr b).froz 4).toSlF (Zg.int .u32))) fun _ _ ⟨g,s⟩=>⟨_,g,?_⟩;replace s:=Rr q s;refine Zl<|Xo q a s<|xu rfl rfl (fun _=>Ztq rfl) ?_;refine Y4 ?_;replace f:=((f.grow j).grow b).grow s;intro _ b;refine W1 ?_;cases e;exact ⟨rfl,rfl,(f.grow (b.bl q)).below⟩

end Go.Proofs.YthclpfhncgpnmaaGreat
