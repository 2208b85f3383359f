/-
  What functions of the program compute, as plain Lean functions (m_..), and proofs that they compute it (c_..). Printed by a program of the author; no conditions.
-/
import Derived.Test.YtkhnlgdenkikoaaGreatTopStepBFloat
import Derived.Test.YtkhnlgdenkikoaaGreatProg
import Derived.Test.YtkhnlgdenkikoaaGreatTopStepBBrief
import Derived.Test.YtkhnlgdenkikoaaGreatTopStepBPiece
set_option linter.unusedVariables false
set_option maxRecDepth 100000
set_option maxHeartbeats 2000000
namespace Go.Proofs.YtkhnlgdenkikoaaGreat
open Go Go.RowKit
open List renaming getElem?_eq_getElem→aL,mem_cons_self→aC,mem_cons_of_mem→aB,nil_append→bN,cons_append→bX,replicate→aM,take_append_drop→dK,drop_eq_getElem_cons→aJ,drop_eq_nil_of_le→aK,getElem_cons_zero→jF,set_cons_zero→iE,length_take_of_le→eR,drop_eq_nil_iff→aG,eq_nil_of_length_eq_zero→cY,length_pos_iff→cO,drop_zero→aP,getD_eq_getElem?_getD→aF,getElem?_eq_none→cQ,length_replicate→bI,drop_drop→dR,drop_replicate→hY,getElem_set_self→jI,drop_length→fZ,length_drop→bP,getElem_append_right→fU
open Nat renaming pow_succ→bA,mul_le_mul_right→bC,strongRecOn→iK,pow_pos→fS,sub_self→hO,pow_zero→dV,one_mul→aX,min_eq_left→bD,lt_of_lt_of_le→aE,mul_le_mul_left→aT,le_refl→bB,add_comm→eM,mul_zero→dW,add_zero→bU,add_assoc→dS,zero_add→cR,two_pow_pos→cG,log2_eq_iff→kP,pow_le_pow_right→gW,lt_of_le_of_lt→eK,pow_add→dH,le_div_iff_mul_le→gR,div_lt_iff_lt_mul→eH,mul_add→dP,mod_eq_of_lt→eT,two_pow_add_eq_or_of_lt→iL,add_mul_mod_self_left→iY,add_mul_div_left→iA,div_eq_of_lt→fB,mul_lt_mul_of_pos_right→iM,mul_comm→bY,mul_mod_mul_left→jT,mod_lt→eU,lt_of_mul_lt_mul_left→fN,mul_le_mul→iB,le_of_lt→lK,add_mul→aV,div_add_mod→kQ,div_le_self→cS,div_div_eq_div_mul→gT,eq_zero_or_pos→fV,lt_trans→lN,mul_assoc→cC,gcd→dA,gcd_comm→fJ,mul_lt_mul''→kL,le_max_left→eA,le_max_right→dO,le_trans→aU,add_le_add→kY
open Int renaming fdiv_eq_ediv_of_nonneg→iS,toNat→aA,toNat_of_nonneg→bL,toNat_natCast→aD,mul_le_mul→kW,mul_nonneg→kX,natCast_mul→bV,toNat_zero→fG,tdiv→aZ,tmod→bM,natCast_emod→kK,tdiv_eq_ediv_of_nonneg→cD,tmod_eq_emod_of_nonneg→cK,natCast_ediv→iN,natCast_nonneg→fT,ofNat_lt→gS,natAbs_zero→kR,natAbs_mul→fW,natAbs_natCast→eS
open Option renaming getD_some→dG
open Rat renaming num_mkRat→lC,den_mkRat→lE,natCast_pos→kS,mkRat_eq_div→dI,mul_assoc→bJ,intCast_mul→iZ,lt_irrefl→dY
open Go.IntKind (i8 i16 i32 i64 u8 u16 u32 u64)
open Go.Proofs.Tryz
abbrev R3:=List ByteArray
abbrev Rg:=List R3
abbrev R2:=List Int
abbrev R7:=List R2
abbrev R5:=Bool×List Int
abbrev R1:=R5×List Int
abbrev R4:=List R1
abbrev R9:=List R4
abbrev R0:=ByteArray×List ByteArray×Rg×R7×R9
abbrev R6:=Int×List Int
abbrev R8:=Nat×List Int
abbrev Ra:=List Int×List Int×Int
abbrev Rb:=Int×Int
abbrev Rc:=List Int×Int
abbrev Rd:=R1×List Int
abbrev Re:=List Int×Bool
abbrev Rf:=List Rb
abbrev Rh:=List Int×R1
theorem oB {α β:Type} {a:α} {f:α→Option β}:(some a).bind f=f a:=rfl
theorem dT {p:Prop} [i:Decidable p] (h:p):decide p=true:=decide_eq_true h
theorem dF {p:Prop} [i:Decidable p] (h:¬p):¬(decide p=true):=fun q=>h (of_decide_eq_true q)
theorem nA {α:Type _} {a b:List α}:(a++b).length=a.length+b.length:=List.length_append
theorem nC {α:Type _} {a:α} {b:List α}:(a :: b).length=b.length+1:=rfl
theorem nS {α:Type _} {a:List α} {i:Nat} {b:α}:(a.set i b).length=a.length:=List.length_set
theorem nK {α:Type _} {i:Nat} {a:List α}:(a.take i).length=min i a.length:=List.length_take
theorem nN {α:Type _}:([]:List α).length=0:=rfl
theorem Sl.k0 {α:Type} {r:Za α} {col:Zd} {w:World} {a:Option Addr} {c:Nat} {xs:List α} (h:Sl r col w a c xs):Sl r (Zj col) w a c xs:=h.keep (Xw.start col w)
abbrev rU:Za Int:=Za.int .u32
abbrev rI:Za Int:=Za.int .i64
abbrev nI:Value:=.slice none (([]:List Int).length) 0

theorem Zw {x:Int} (h:-9223372036854775808≤x∧x≤9223372036854775807):i64.wrap x=x:=by rw [IntKind.wrap_i64];omega
theorem Xf {α:Type} {c:Prop} [Decidable c] {x:Option α} (h:c):Z4 c x=x:=if_pos h
theorem Z0 {α:Type} {xs:List α} {k:Nat} (h:k<xs.length):Zl xs (k:Int)=some xs[k]:=by rw [Zgq];exact aL h
theorem wS {k:Nat} (h:k<9223372036854775807):i64.wrap ((k:Int)+1)=((k+1:Nat):Int):=by rw [Zw (by omega)];rfl
theorem Zjd {α:Type} [DecidableEq α]:∀ {l r:List α},l.Nodup→(∀ x ∈ l,x ∈ r)→l.length≤r.length
 | [],_,_,_=>Nat.zero_le _
 | x :: l,r,h,a=>by
  have b:=List.nodup_cons.1 h
  have c:=a x aC
  have f:=Zjd (r:=r.erase x) b.2 fun y d=>(List.mem_erase_of_ne (fun e=>b.1 (by rw [← e];exact d))).2 (a y (aB _ d))
  rw [List.length_erase_of_mem c] at f
  have:=List.length_pos_of_mem c
  rw [nC];omega
section
variable {K V:Type} [DecidableEq K]
theorem Zf9 (p:K×V) (es:List (K×V)) (k:K):W0 (p :: es) k=if p.1=k then some p.2 else W0 es k:=by
 rw [W0,List.find?_cons]
 by_cases h:p.1=k
 ·rw [if_pos h,decide_eq_true h];rfl
 ·rw [if_neg h,decide_eq_false h];rfl
theorem Z8e (es:List (K×V)) (k k':K) (v:V) (h:W0 es k=none):W0 (es++[(k,v)]) k'=if k'=k then some v else W0 es k':=by
 induction es with
 | nil=>
  rw [bN,Zf9]
  by_cases hk:k=k'
  ·subst hk;simp
  ·rw [if_neg hk,if_neg (Ne.symm hk)]
 | cons p es a=>
  rw [Zf9] at h
  split at h
  ·cases h
  ·rename_i b
   rw [bX,Zf9,Zf9,a h]
   by_cases h1:p.1=k'
   ·rw [if_pos h1,if_pos h1,if_neg (fun e=>b (h1.trans e))]
   ·rw [if_neg h1,if_neg h1]
theorem Z8f (es:List (K×V)) (k k':K) (v:V):W0 (es.map fun p=>if p.1=k then (k,v) else p) k'=if k'=k then (W0 es k).map fun _=>v else W0 es k':=by
 induction es with
 | nil=>simp [W0]
 | cons p es a=>
  rw [List.map_cons,Zf9,Zf9,Zf9,a]
  by_cases h1:p.1=k
  ·rw [if_pos h1,if_pos h1]
   by_cases h2:k'=k
   ·subst h2;rw [if_pos rfl,if_pos rfl];rfl
   ·rw [if_neg (Ne.symm h2),if_neg h2,if_neg h2,if_neg (fun e=>h2 (e.symm.trans h1))]
  ·rw [if_neg h1,if_neg h1]
   by_cases h3:p.1=k'
   ·rw [if_pos h3,if_pos h3,if_neg (fun e=>h1 (h3.trans e))]
   ·rw [if_neg h3,if_neg h3]
theorem Zxv (es:List (K×V)) (k k':K) (v:V):W0 (Qo es k v) k'=if k'=k then some v else W0 es k':=by
 rw [Qo]
 by_cases h:(W0 es k).isSome=true
 ·rw [if_pos h,Z8f]
  obtain ⟨u,a⟩:=Option.isSome_iff_exists.1 h
  rw [a];rfl
 ·rw [if_neg h]
  exact Z8e es k k' v (by simpa using h)
end
def Zc:List Int→Nat
 | []=>0
 | x :: l=>x.toNat+4294967296 * Zc l
def Zn (l:List Int):Prop:=∀ x ∈ l,0≤x∧x<4294967296
def Ze (n:Nat):List Int:=if n=0 then [] else ((n % 4294967296:Nat):Int) :: Ze (n / 4294967296)
termination_by n
decreasing_by omega
theorem Zn.nil:Zn []:=by simp [Zn]
theorem Zn.cons {x:Int} {l:List Int} (h:0≤x∧x<4294967296) (hl:Zn l):Zn (x :: l):=fun y a=>by
 rcases List.mem_cons.1 a with rfl | a
 ·exact h
 ·exact hl y a
theorem Zn.head {x:Int} {l:List Int} (h:Zn (x :: l)):0≤x∧x<4294967296:=h x aC
theorem Zn.tail {x:Int} {l:List Int} (h:Zn (x :: l)):Zn l:=fun y a=>h y (aB _ a)
theorem Zn.app {a b:List Int} (ha:Zn a) (hb:Zn b):Zn (a++b):=fun y c=>by
 rcases List.mem_append.1 c with h | h
 ·exact ha y h
 ·exact hb y h
theorem Zn.take {a:List Int} (h:Zn a) (k:Nat):Zn (a.take k):=fun y b=>h y (List.mem_of_mem_take b)
theorem Zn.drop {a:List Int} (h:Zn a) (k:Nat):Zn (a.drop k):=fun y b=>h y (List.mem_of_mem_drop b)
theorem Zn.zeros (k:Nat):Zn (aM k 0):=fun y a=>by
 rw [List.eq_of_mem_replicate a];decide
theorem Zn.set {a:List Int} (h:Zn a) (k:Nat) {v:Int} (hv:0≤v∧v<4294967296):Zn (a.set k v):=fun y b=>by
 rcases List.mem_or_eq_of_mem_set b with c | rfl
 ·exact h y c
 ·exact hv
theorem Zn.get {a:List Int} (h:Zn a) {k:Nat} (hk:k<a.length):0≤a[k]∧a[k]<4294967296:=h _ (List.getElem_mem hk)
theorem Yy:Zc []=0:=rfl
theorem Wm (x:Int) (l:List Int):Zc (x :: l)=x.toNat+4294967296 * Zc l:=rfl
theorem Qp (a b:List Int):Zc (a++b)=Zc a+4294967296 ^ a.length * Zc b:=by
 induction a with
 | nil=>simp [Zc]
 | cons x a c=>
  rw [bX,Wm,Wm,c,nC,bA]
  grind
theorem Sf (k:Nat):Zc (aM k 0)=0:=by
 induction k with
 | zero=>rfl
 | succ k a=>rw [List.replicate_succ,Wm,a];rfl
theorem Qq {l:List Int} (h:Zn l):Zc l<4294967296 ^ l.length:=by
 induction l with
 | nil=>simp [Zc]
 | cons x l a=>
  have c:=h.head
  have b:=a h.tail
  rw [Wm,nC,bA]
  have d:(Zc l+1) * 4294967296≤4294967296 ^ l.length * 4294967296:=bC _ b
  omega
theorem Xb (n:Nat):Zc (Ze n)=n:=by
 induction n using iK with
 | ind n a=>
  rw [Ze]
  split
  ·rename_i h;rw [h];rfl
  ·rename_i h
   rw [Wm,a (n / 4294967296) (by omega)]
   omega
theorem Vi:Ze 0=[]:=by rw [Ze,if_pos rfl]
theorem Zer {n:Nat} (h:n≠0):Ze n=((n % 4294967296:Nat):Int) :: Ze (n / 4294967296):=by rw [Ze,if_neg h]
theorem Qc:Ze 1=[1]:=by rw [Zer (by decide)];simp [Vi]
theorem Xd (n:Nat):Zn (Ze n):=by
 induction n using iK with
 | ind n a=>
  rw [Ze]
  split
  ·exact .nil
  ·exact .cons (by omega) (a (n / 4294967296) (by omega))
theorem W8 {k n:Nat}:(Ze n).length≤k↔n<4294967296 ^ k:=by
 induction k generalizing n with
 | zero=>
  by_cases h:n=0
  ·subst h;simp [Vi]
  ·rw [Zer h];simp;omega
 | succ k a=>
  by_cases h:n=0
  ·subst h;simp [Vi];exact fS (by decide)
  ·rw [Zer h,nC,Nat.add_le_add_iff_right,a,bA]
   omega
theorem Ys {l:List Int} (h:Zn l):(Ze (Zc l)).length≤l.length:=W8.2 (Qq h)
theorem Zg7 {n:Nat}:Ze n=[]↔n=0:=by
 by_cases h:n=0
 ·subst h;simp [Vi]
 ·rw [Zer h];simp [h]
theorem Zxl {x:Int} {l:List Int} (h:0≤x∧x<4294967296) (h0:x=0→Zc l≠0):Ze (Zc (x :: l))=x :: Ze (Zc l):=by
 have a:Zc (x :: l)≠0:=by
  rw [Wm]
  by_cases hx:x=0
  ·have:=h0 hx;omega
  ·omega
 rw [Zer a,Wm]
 congr 1
 ·omega
 ·congr 1;omega
theorem Z8y {a:List Int} {x:Int} (h:0<x):Zc (a++[x])≠0:=by
 rw [Qp,Wm,Yy]
 have:0<4294967296 ^ a.length * (x.toNat+4294967296 * 0):=Nat.mul_pos (fS (by decide)) (by omega)
 omega
theorem Z79 {a:List Int} {x:Int} (h:Zn (a++[x])) (hx:x≠0):Ze (Zc (a++[x]))=a++[x]:=by
 induction a with
 | nil=>
  have:=h.head
  rw [bN,Zxl this (fun e=>absurd e hx),Yy,Vi]
 | cons y a b=>
  have c:0≤x∧x<4294967296:=h x (by simp)
  rw [bX,Zxl h.head fun _=>Z8y (by omega),b h.tail]
theorem Zyb (a:List Int):Zc (a++[0])=Zc a:=by rw [Qp];simp [Zc]
theorem Zg5 {l:List Int} (h:0<l.length):l.take (l.length - 1)++[l[l.length - 1]]=l:=by
 have:=dK (l.length - 1) l
 rw [aJ (by omega),aK (by omega)] at this
 exact this
theorem Zni {n:Nat} (h:0<(Ze n).length):(Ze n)[(Ze n).length - 1]≠0:=by
 induction n using iK with
 | ind n b=>
  by_cases h0:n=0
  ·subst h0;simp [Vi] at h
  ·have e:=Zer h0
   by_cases h1:n / 4294967296=0
   ·have:Ze n=[((n % 4294967296:Nat):Int)]:=by rw [e,h1,Vi]
    simp only [this,List.length_singleton,hO,jF]
    omega
   ·have c:0<(Ze (n / 4294967296)).length:=by
     rw [Zer h1];simp
    have:=b (n / 4294967296) (by omega) c
    have d:(Ze n).length - 1=(Ze (n / 4294967296)).length - 1+1:=by rw [e];simp;omega
    have a:(Ze n)[(Ze n).length - 1]?=(Ze (n / 4294967296))[(Ze (n / 4294967296)).length - 1]?:=by
     rw [d]
     conv=>lhs;rw [e]
     rw [List.getElem?_cons_succ]
    rw [aL (by omega),aL (by omega)] at a
    rw [Option.some.inj a]
    exact this
theorem Tz {l:List Int} {k:Nat} (hk:k<l.length) (v:Int):Zc (l.set k v)+4294967296 ^ k * (l[k]).toNat=Zc l+4294967296 ^ k * v.toNat:=by
 induction l generalizing k with
 | nil=>simp at hk
 | cons x l a=>
  cases k with
  | zero=>simp only [iE,Wm,jF,dV,aX];omega
  | succ k=>
   have h:=a (k:=k) (by simpa using hk)
   simp only [List.set_cons_succ,Wm,List.getElem_cons_succ,bA]
   grind
theorem Zrv {l:List Int} {k:Nat} (hk:k<l.length):Zc (l.take (k+1))=Zc (l.take k)+4294967296 ^ k * (l[k]).toNat:=by
 rw [List.take_add_one,aL hk,Qp,Option.toList_some,Wm,Yy,nK,bD (by omega)]
 simp
theorem Uw {l:List Int} {k:Nat} (hk:k<l.length):Zc (l.drop k)=(l[k]).toNat+4294967296 * Zc (l.drop (k+1)):=by
 rw [aJ hk,Wm]
theorem T0 (l:List Int) (k:Nat):Zc l=Zc (l.take k)+4294967296 ^ k * Zc (l.drop k):=by
 by_cases h:k≤l.length
 ·conv=>lhs;rw [← dK k l]
  rw [Qp,nK,bD h]
 ·rw [List.take_of_length_le (by omega),aK (by omega)];simp [Zc]
theorem Uo {x:Int} (h:0≤x∧x<4294967296):u32.wrap x=x:=by rw [IntKind.wrap_u32];omega
theorem Xm {x:Int} (h:0≤x∧x<18446744073709551616):u64.wrap x=x:=by rw [IntKind.wrap_u64];omega
theorem Zgi {x:Int}:Y1 .u64 x 32=x / 4294967296:=by
 have:(min (32:Int).toNat u64.bits)=32:=by decide
 rw [Y1,this]
 exact iS _ (by decide)
def Zce (aa:List Int) (kk_L1:(List Int→Option R2)) (ab:Bool):Option R2:=
  if ab=true then (Z4 ((0:Int)≤(i64.wrap ((aa.length:Int) - 1))∧(i64.wrap ((aa.length:Int) - 1))≤(aa.length:Int)) (kk_L1 (aa.take (aA (i64.wrap ((aa.length:Int) - 1)))))) else (some aa)
def Sx (N:Nat):Nat→R2→Option R2
  | 0,_=>none
  | ab+1,aa=>if (decide (0<(aa.length:Int)))=true then ((Zl aa (i64.wrap ((aa.length:Int) - 1))).bind fun ac=>Zce aa (Sx N ab) (decide (ac=0))) else (Zce aa (Sx N ab) false)
termination_by structural x=>x
def Th (N:Nat) (aa:List Int):Option R2:=
  Sx N N aa
theorem S9 {N ap:Nat} {a0:Option Addr} {col:Zd} {w0:World} {ag r:R2} (hm:Th N ag=some r) (h0:Sl rU col w0 a0 ap ag):
    Calls prog 142 #[.slice a0 ag.length ap] w0 (fun e w'=>∃ (col':Zd) (ra1:Option Addr) (rc2:Nat),e= .returned ((.slice ra1 r.length rc2))∧Zf col w0 col' w'∧Sl rU col' w' ra1 rc2 r):=by
 refine Xe 2 (m:=21) func142 rfl rfl rfl rfl rfl ?_;rw [Th.eq_1] at hm;have ab:=St.start col w0;refine go ?_;refine Zv [1000000] (fun n f ah=>∃ ai ad ae aa af,af=n∧Sx N af aa=some r∧St w0 (Zj col) ai ah∧Sl rU ai ah ad ae aa∧[0].map f=[.slice ad aa.length ae]) N ⟨_,_,_,_,_,rfl,hm,ab,(h0.k0.ks ab),rfl⟩ ?_;clear hm;intro n f ah hI;obtain ⟨ai,ad,ae,aa,af,hn,hm,ab,ac,hs⟩:=hI;subst hn;refine .lL [0] hs ?_
 cases af with
 | zero=>rw [Sx.eq_1] at hm;cases hm
 | succ af=>
  rw [Sx.eq_2] at hm;refine Zz<|Zz ?_;refine Wp.cutK [0,1000000] (fun f aj=>∃ ak al,Zce aa (Sx N af) al=some r∧St w0 (Zj col) ak aj∧Sl rU ak aj ad ae aa∧[14].map f=[.bool al]) ?_ ?_
  ·intro f aj hJ;obtain ⟨ak,al,hm,ab,ac,hs⟩:=hJ;rw [Zce.eq_1] at hm;refine .lL [14] hs ?_;refine Zo hm (fun hb hm=>go ?_) fun hb hm=>go ?_
   ·obtain ⟨am,hm⟩:=Z9 hm;refine lv (v:=.slice ad (aA (i64.wrap ((aa.length:Int) - 1))) ae) rfl rfl (Zjm underlying35 sizeOf95 rfl rfl am.1 (by have:=ac.1.2;have:=am.2;omega))<|.ld (d:=19) (v:=(.slice ad ((aa.take (aA (i64.wrap ((aa.length:Int) - 1)))).length) ae)) (congrArg (fun n=>Value.slice ad n ae) (eR (show (aA (i64.wrap ((aa.length:Int) - 1)))≤aa.length by have:=am.2;omega)).symm) ?_;refine go ?_;exact ⟨af,by omega,rfl,⟨_,_,_,_,_,rfl,hm,ab,(ac.take (aA (i64.wrap ((aa.length:Int) - 1)))),rfl⟩⟩
   cases hm;exact ⟨rfl,_,_,_,rfl,ab.fin (cm []),ab.fs ac⟩
  refine go ?_;refine Yr hm (fun an hm=>go ?_) fun an hm=>go ?_
  ·obtain ⟨aq,ao,hm⟩:=bZ hm;refine lI ao (ac.addr ao) ?_;refine go ?_;refine lW (ac.atInt ao)<|go ?_;refine lV (.bool (decide (aq=0))) (Ye (congrArg Value.bool an) rfl)<|Zk ?_;exact ⟨rfl,_,_,hm,ab,ac,rfl⟩
  refine lV (.bool false) (Yd (congrArg Value.bool an) rfl)<|Zk ?_;exact ⟨rfl,_,_,hm,ab,ac,rfl⟩
def Zfe (N:Nat) (ab:List Int) (ac:List Int):Nat→Int→Option Int
  | 0,_=>none
  | af+1,aa=>if (decide (0≤aa))=true then ((Zl ab aa).bind fun ad=>(Zl ac aa).bind fun ae=>if (decide (ad<ae))=true then (some (-1)) else (if (decide (ae<ad))=true then (some 1) else ((Zfe N ab ac af) (i64.wrap (aa - 1))))) else (some 0)
termination_by structural x=>x
def Zfd (N:Nat) (ac:List Int) (ad:List Int):Option Int:=
  (Th N ac).bind fun aa=>(Th N ad).bind fun ab=>if (!decide ((aa.length:Int)=(ab.length:Int)))=true then (if (decide ((aa.length:Int)<(ab.length:Int)))=true then (some (-1)) else (some 1)) else (Zfe N aa ab N (i64.wrap ((aa.length:Int) - 1)))
theorem Zp6 {N al am:Nat} {a0 a1:Option Addr} {col:Zd} {w0:World} {ai aj:R2} {r:Int} (hm:Zfd N ai aj=some r) (h0:Sl rU col w0 a0 al ai) (h1:Sl rU col w0 a1 am aj):
    Calls prog 133 #[.slice a0 ai.length al,.slice a1 aj.length am] w0 (fun e w'=>e= .returned ((.int .i64 r))∧Below w0.heap.size w0 w'):=by
 refine Xe 4 (m:=45) func133 rfl rfl rfl rfl rfl ?_;rw [Zfd.eq_1] at hm;have aa:=St.start col w0;refine go ?_;obtain ⟨an,aq,hm⟩:=bZ hm;refine Zi (S9 aq (h0.k0.ks aa)) ?_;rintro _ az ⟨a2,ar,au,rfl,av,ab⟩;refine ⟨_,rfl,?_⟩;refine Y2 rfl ?_;obtain ⟨ao,aw,hm⟩:=bZ hm;replace aa:=aa.grow av;refine Zi (S9 aw (h1.k0.ks aa)) ?_;rintro _ a3 ⟨a4,ax,ay,rfl,ap,ad⟩;refine ⟨_,rfl,go ?_⟩;replace ab:=ab.gr ap;replace aa:=aa.grow ap;refine Zo hm (fun hb hm=>go ?_) fun hb hm=>go ?_
 ·refine Zo hm (fun hb hm=>go ?_) fun hb hm=>go ?_
  ·cases hm;exact ⟨rfl,rfl,aa.below⟩
  cases hm;exact ⟨rfl,rfl,aa.below⟩
 refine Zv [0,1,1000000] (fun n f ah=>∃ ac ak ae,ae=n∧Zfe N an ao ae ak=some r∧St w0 (Zj col) ac ah∧Sl rU ac ah ar au an∧Sl rU ac ah ax ay ao∧[5].map f=[.int .i64 ak]) N ⟨_,_,_,rfl,hm,aa,ab,ad,rfl⟩ ?_;clear hm;intro n f ah hI;obtain ⟨ac,ak,ae,hn,hm,aa,ab,ad,hs⟩:=hI;subst hn;refine .lL [5] hs ?_
 cases ae with
 | zero=>rw [Zfe.eq_1] at hm;cases hm
 | succ ae=>
  rw [Zfe.eq_2] at hm;refine go ?_;refine Zo hm (fun hb hm=>go ?_) fun hb hm=>go ?_
  ·refine Vs (col:=ac) (by kernel_rfl) (by kernel_rfl)<|go ?_;obtain ⟨a5,af,hm⟩:=bZ hm;refine qI af (ab.addr af)<|qW (fun _ hC=>(ab.gr (hC.bl ac)).atInt af) ?_;refine go ?_;obtain ⟨a6,ag,hm⟩:=bZ hm;refine qI ag (ad.addr ag)<|qW (fun _ hC=>(ad.gr (hC.bl ac)).atInt ag) ?_;refine go ?_;refine Wn ?_;intro a7 hC;replace hC:=hC.bl ac;replace ab:=ab.gr hC;replace ad:=ad.gr hC;replace aa:=aa.grow hC;refine Zo hm (fun hb hm=>go ?_) fun hb hm=>go ?_
   ·cases hm;exact ⟨rfl,rfl,aa.below⟩
   refine Vs (col:=ac) (by kernel_rfl) (by kernel_rfl)<|go ?_;refine qI af (ab.addr af)<|qW (fun _ hC=>(ab.gr (hC.bl ac)).atInt af) ?_;refine go ?_;refine qI ag (ad.addr ag)<|qW (fun _ hC=>(ad.gr (hC.bl ac)).atInt ag) ?_;refine go ?_;refine Wn ?_;intro a8 hC;replace hC:=hC.bl ac;replace aa:=aa.grow hC;refine Zo hm (fun hb hm=>go ?_) fun hb hm=>go ?_
   ·cases hm;exact ⟨rfl,rfl,aa.below⟩
   exact ⟨ae,by omega,rfl,⟨_,_,_,rfl,hm,aa,ab.gr hC,ad.gr hC,rfl⟩⟩
  cases hm;exact ⟨rfl,rfl,aa.below⟩
theorem Z65:Wa prog 95 1 4:=⟨Tryz.t95,_,rfl,rfl,rfl,rfl,rfl⟩
def Zf6 (aa:List Int):Option R2:=
  Z4 ((([]:List Int).length+aa.length) * 4≤140737488355328∧([]:List Int).length+aa.length≤maxLen) (some (([]:List Int)++aa))
theorem Zqc {ad:Nat} {a0:Option Addr} {col:Zd} {w0:World} {ac r:R2} (c1:Nat) (hm:Zf6 ac=some r) (h0:Sl rU col w0 a0 ad ac):
    Calls prog 188 #[.slice a0 ac.length ad] w0 (fun e w'=>∃ (col':Zd) (ra1:Option Addr) (rc2:Nat),e= .returned ((.slice ra1 r.length rc2))∧Zf col w0 col' w'∧Zb rU 95 c1 col' w' ra1 rc2 r):=by
 refine Xe 2 (m:=8) func188 rfl rfl rfl rfl rfl ?_;rw [Zf6.eq_1] at hm;have aa:=St.start col w0;refine go ?_;replace h0:=h0.k0;rcases Zrq h0 with ab | ab
 ·replace hm:some ([]:List Int)=some r:=by have h0:=ab.2;subst h0;simpa [Z4,maxLen] using hm
  refine lv (v:=.bool a0.isNone) rfl rfl (Zji underlying35 rfl)<|.ld (d:=4) (v:=.bool true) (congrArg Value.bool ab.1)<|Zk<|X1 rfl<|go ?_;cases hm;exact ⟨rfl,_,none,0,rfl,aa.fin (cm []),Zb.nil⟩
 refine lv (v:=.bool a0.isNone) rfl rfl (Zji underlying35 rfl)<|.ld (d:=4) (v:=.bool false) (congrArg Value.bool ab)<|Zk<|X0 rfl<|go ?_;refine Zq4 (col:=(Zj col)) (r:=rU) 1 rfl underlying35 Z65 rfl ?_;intro aj ak al ae af;refine Y2 rfl ?_;obtain ⟨ag,hm⟩:=Z9 hm;refine Vy af (h0.gr ae).srcC ag ?_;intro am an ao ap ah ai;refine go ?_;cases hm;replace aa:=(aa.grow ae).kpp ah;exact ⟨rfl,_,_,_,rfl,aa.fin (cm [(1,c1)]),aa.fo ai⟩
def Znw (aa:Int) (kk_L1:(List Int→Int→Int→Option R2)) (ab:List Int) (ac:Int):Option R2:=
  kk_L1 ab ac (i64.wrap (aa+1))
def Zig (ab:List Int) (aa:Int) (kk_L1:(List Int→Int→Int→Option R2)) (ac:Int) (ad:Int):Option R2:=
  (Zl ab aa).bind fun ae=>(some (ab.set (aA aa) (u32.wrap (ae - (u32.wrap ac))))).bind fun af=>Znw aa kk_L1 af ad
def Zif (aa:List Int) (ab:Int) (kk_L1:(List Int→Int→Int→Option R2)) (ac:Int):Option R2:=
  (Zl aa ab).bind fun ad=>if (decide ((u64.wrap ad)<ac))=true then (Zig aa ab kk_L1 ac 1) else (Zig aa ab kk_L1 ac 0)
def Sw (N:Nat) (ac:List Int) (ab:List Int):Nat→R2→Int→Int→Option R2
  | 0,_,_,_=>none
  | ae+1,ad,af,aa=>if (decide (aa<(ac.length:Int)))=true then (if (decide (aa<(ab.length:Int)))=true then ((Zl ab aa).bind fun ag=>Zif ad aa (Sw N ac ab ae) (u64.wrap (af+(u64.wrap ag)))) else (Zif ad aa (Sw N ac ab ae) af)) else (some ad)
termination_by structural x=>x
def Znv (N:Nat) (aa:List Int) (ab:List Int):Option R2:=
  Sw N aa ab N aa 0 0
theorem Z40 {N ae an:Nat} {a0 a1:Option Addr} {col:Zd} {w0:World} {ab ag r:R2} (qc0:Nat) (hm:Znv N ab ag=some r) (hd:U4 [qc0]=true) (h0:Zb rU 95 qc0 col w0 a0 ae ab) (h1:Sl rU col w0 a1 an ag):
    Calls prog 190 #[.slice a0 ab.length ae,.slice a1 ag.length an] w0 (fun e w'=>∃ (col':Zd),e= .returned (.tuple #[])∧Zt (pS [qc0]) col w0 col' w'∧Zb rU 95 qc0 col' w' a0 ae r∧r.length=ab.length):=by
 refine Zel (m:=40) (args:=[.slice a0 ab.length ae,.slice a1 ag.length an]) func190 rfl rfl rfl rfl ?_;rw [Znv.eq_1] at hm;have aa:=St.startL (l:=[qc0]) rfl col w0;refine go ?_;refine Zv [1,8,1000000] (fun n f ao=>∃ ap ac aq ah af,af=n∧Sw N ab ag af ac aq ah=some r∧St w0 (Xh [qc0] col) ap ao∧Zb rU 95 440 ap ao a0 ae ac∧ac.length=ab.length∧ac.length=ab.length∧[0,4,9].map f=[.slice a0 ac.length ae,.int .u64 aq,.int .i64 ah]) N ⟨_,_,0,0,_,rfl,hm,aa,h0.startL (T7 hd 0 rfl) (T6 hd 0 rfl),rfl,rfl,rfl⟩ ?_;clear hm;intro n f ao hI;obtain ⟨ap,ac,aq,ah,af,hn,hm,aa,ad,a8,a9,hs⟩:=hI;subst hn;refine .lL [0,4,9] hs ?_;replace h1:=h1.keep (Xw.startL [qc0] col w0)
 cases af with
 | zero=>rw [Sw.eq_1] at hm;cases hm
 | succ af=>
  rw [Sw.eq_2] at hm;refine go ?_;refine Zo hm (fun hb hm=>?_) fun hb hm=>go ?_
  ·refine Yj<|Zz ?_;refine Wp.cutK [1,8,9,1000000] (fun f ar=>∃ au ai av,Znw ah (Sw N ab ag af) ai av=some r∧St w0 (Xh [qc0] col) au ar∧Zb rU 95 440 au ar a0 ae ai∧ai.length=ab.length∧ai.length=ab.length∧[0,4].map f=[.slice a0 ai.length ae,.int .u64 av]) ?_ ?_
   ·intro f ar hJ;obtain ⟨au,ai,av,hm,aa,ba,bb,bc,hs⟩:=hJ;rw [Znw.eq_1] at hm;refine .lL [0,4] hs<|go ?_;exact ⟨af,by omega,rfl,⟨_,_,_,_,_,rfl,hm,aa,ba,bb,bc,rfl⟩⟩
   refine Zgl<|Zz<|Ve<|X4 rfl<|Y6 rfl<|Zk<|Zz<|Ve<|X4 rfl<|Y6 rfl<|Zk<|Zz ?_;refine Wp.cutK [0,1,5,8,9,1000000] (fun f aw=>∃ ax aj,Zif ac ah (Sw N ab ag af) aj=some r∧St w0 (Xh [qc0] col) ax aw∧Zb rU 95 440 ax aw a0 ae ac∧[6].map f=[.int .u64 aj]) ?_ ?_
   ·intro f aw hJ;obtain ⟨ax,aj,hm,aa,ad,hs⟩:=hJ;rw [Zif.eq_1] at hm;refine .lL [6] hs<|Zz<|Ve<|Y6 rfl<|Zk<|Zz ?_;refine Wp.cutK [0,1,5,6,8,9,1000000] (fun f ay=>∃ az a2,Zig ac ah (Sw N ab ag af) aj a2=some r∧St w0 (Xh [qc0] col) az ay∧Zb rU 95 440 az ay a0 ae ac∧[4].map f=[.int .u64 a2]) ?_ ?_
    ·intro f ay hJ;obtain ⟨az,a2,hm,aa,ad,hs⟩:=hJ;rw [Zig.eq_1] at hm;refine .lL [4] hs<|go ?_;obtain ⟨a5,ak,hm⟩:=bZ hm;refine lI ak (ad.addr ak)<|lW (ad.atInt ak) ?_;refine go ?_;refine lI ak (ad.addr ak) ?_;obtain ⟨al,am,hm⟩:=bZ hm;have am:al=ac.set (aA ah) (u32.wrap (a5 - (u32.wrap aj))):=(Option.some.inj am).symm;refine Wl (x1:=u32.wrap (a5 - (u32.wrap aj))) ad ak ?_;intro bf bd be a6;rw [← am] at a6;have a7:al.length=ab.length:=(show ac.length=al.length by rw [am,nS]).symm.trans a8;refine .ld (d:=0) (v:=(.slice a0 al.length ae)) (congrArg (fun n=>Value.slice a0 n ae) (show ac.length=al.length by rw [am,nS])) ?_;refine Zk ?_;replace aa:=aa.kp bd be;exact ⟨rfl,_,_,_,hm,aa,a6,a7,a7,rfl⟩
    refine go ?_;obtain ⟨bg,a3,hm⟩:=bZ hm;refine lI a3 (ad.addr a3)<|lW (ad.atInt a3) ?_;refine go ?_;refine Zo hm (fun hb hm=>go ?_) fun hb hm=>?_
    ·exact ⟨rfl,_,1,hm,aa,ad,rfl⟩
    refine Yj ?_;exact ⟨rfl,_,0,hm,aa,ad,rfl⟩
   refine go ?_;refine Zo hm (fun hb hm=>go ?_) fun hb hm=>?_
   ·obtain ⟨bh,a4,hm⟩:=bZ hm;refine lI a4 ((h1.ks aa).addr a4)<|lW ((h1.ks aa).atInt a4) ?_;refine go ?_;exact ⟨rfl,_,_,hm,aa,ad,rfl⟩
   refine Yj ?_;exact ⟨rfl,_,_,hm,aa,ad,rfl⟩
  cases hm;exact ⟨rfl,_,rfl,aa.finL rfl (cm [(440,qc0)]),aa.foL ad,a9⟩
def Tg (N:Nat) (ab:List Int):Option R2:=
  (Th N ab).bind fun aa=>if (decide ((aa.length:Int)=0))=true then (some ([]:List Int)) else ((Zf6 aa).bind fun ac=>some ac)
theorem S8 {N ac:Nat} {a0:Option Addr} {col:Zd} {w0:World} {ab r:R2} (c1:Nat) (hm:Tg N ab=some r) (h0:Sl rU col w0 a0 ac ab):
    Calls prog 154 #[.slice a0 ab.length ac] w0 (fun e w'=>∃ (col':Zd) (ra1:Option Addr) (rc2:Nat),e= .returned ((.slice ra1 r.length rc2))∧Zf col w0 col' w'∧Zb rU 95 c1 col' w' ra1 rc2 r):=by
 refine Xe 2 (m:=10) func154 rfl rfl rfl rfl rfl ?_;rw [Tg.eq_1] at hm;have aa:=St.start col w0;refine go ?_;obtain ⟨aj,ad,hm⟩:=bZ hm;refine Zi (S9 ad (h0.k0.ks aa)) ?_;rintro _ ak ⟨al,am,an,rfl,ae,af⟩;refine ⟨_,rfl,go ?_⟩;replace aa:=aa.grow ae;refine Zo hm (fun hb hm=>go ?_) fun hb hm=>go ?_
 ·cases hm;exact ⟨rfl,_,none,0,rfl,aa.fin (cm []),Zb.nil⟩
 obtain ⟨ao,ag,hm⟩:=bZ hm;refine Zi (Zqc 1 ag af) ?_;rintro _ ap ⟨aq,ar,au,rfl,ah,ai⟩;refine ⟨_,rfl,go ?_⟩;cases hm;replace aa:=aa.grow ah;exact ⟨rfl,_,_,_,rfl,aa.fin (cm [(1,c1)]),aa.fo ai⟩
def Zic (N:Nat) (aa:List Int) (ab:List Int):Option Re:=
  (Zfd N aa ab).bind fun ac=>if (decide (ac<0))=true then (some (([]:List Int),false)) else ((Th N aa).bind fun ad=>(Zf6 ad).bind fun ae=>(Th N ab).bind fun af=>(Znv N ae af).bind fun ag=>(Tg N ag).bind fun ah=>some (ah,true))
theorem Zuk {N ah ai:Nat} {a0 a1:Option Addr} {col:Zd} {w0:World} {ab ac:R2} {r:Re} (c1:Nat) (hm:Zic N ab ac=some r) (h0:Sl rU col w0 a0 ah ab) (h1:Sl rU col w0 a1 ai ac):
    Calls prog 150 #[.slice a0 ab.length ah,.slice a1 ac.length ai] w0 (fun e w'=>∃ (col':Zd) (ra1:Option Addr) (rc2:Nat),e= .returned (.tuple #[.slice ra1 r.1.length rc2,.bool r.2])∧Zf col w0 col' w'∧Zb rU 95 c1 col' w' ra1 rc2 r.1):=by
 refine Zj0 4 5 (m:=20) (args:=[.slice a0 ab.length ah,.slice a1 ac.length ai]) func150 rfl rfl rfl rfl rfl ?_;rw [Zic.eq_1] at hm;have aa:=St.start col w0;refine go ?_;obtain ⟨a9,aq,hm⟩:=bZ hm;replace h0:=h0.k0;replace h1:=h1.k0;refine Zi (Zp6 aq (h0.ks aa) (h1.ks aa)) ?_;rintro _ ar ⟨rfl,aj⟩;refine ⟨_,rfl,?_⟩;replace aj:Zf (Zj col) w0 (Zj col) ar:=.of_below aj;refine go ?_;replace aa:=aa.grow aj;refine Zo hm (fun hb hm=>go ?_) fun hb hm=>go ?_
 ·cases hm;exact ⟨rfl,_,none,0,rfl,aa.fin (cm []),Zb.nil⟩
 obtain ⟨ba,au,hm⟩:=bZ hm;refine Zi (S9 au (h0.ks aa)) ?_;rintro _ bb ⟨bc,bd,be,rfl,av,aw⟩;refine ⟨_,rfl,?_⟩;obtain ⟨an,ax,hm⟩:=bZ hm;refine Zi (Zqc 1 ax aw) ?_;rintro _ bf ⟨bg,ad,ae,rfl,ay,ak⟩;refine ⟨_,rfl,go ?_⟩;obtain ⟨bh,az,hm⟩:=bZ hm;replace aa:=(aa.grow av).grow ay;refine Zi (S9 az (h1.ks aa)) ?_;rintro _ bi ⟨bj,bk,bm,rfl,ao,a2⟩;refine ⟨_,rfl,?_⟩;obtain ⟨af,a3,hm⟩:=bZ hm;refine Zi (Z40 1 a3 rfl (ak.gr ao) a2) ?_;rintro _ a4 ⟨al,rfl,a5,a6,ap⟩;refine ⟨_,rfl,?_⟩;refine .ld (d:=6) (v:=(.slice ad af.length ae)) (congrArg (fun n=>Value.slice ad n ae) (show an.length=af.length from ap.symm)) ?_;refine .ld (d:=14) (v:=(.slice ad af.length ae)) (congrArg (fun n=>Value.slice ad n ae) (show an.length=af.length from ap.symm)) ?_;refine go ?_;obtain ⟨bn,a7,hm⟩:=bZ hm;refine Zi (S8 2 a7 (a6.toSlF (Zh.int .u32))) ?_;rintro _ bo ⟨a8,bp,bq,rfl,ag,am⟩;refine ⟨_,rfl,?_⟩;replace am:=am.thaw (Z1 .u32) ag ((Fz.refl (col:=al)).froz 1);replace ag:=ag.thawR (col:=al);generalize Xc a4.heap.size al a8=br at *;refine go ?_;cases hm;replace aa:=((aa.grow ao).kpp a5).grow ag;exact ⟨rfl,_,_,_,rfl,aa.fin (cm [(2,c1)]),aa.fo am⟩
def Zns (aa:Nat) (kk_L1:(Nat→R2→Int→Option R2)) (ab:List Int) (ac:Int):Option R2:=
  kk_L1 (aa+1) ab ac
def Zia (aa:Nat) (ab:List Int) (kk_L1:(Nat→R2→Int→Option R2)) (ac:Int):Option R2:=
  (Zl ab (aa:Int)).bind fun ae=>(some (ab.set (aA (aa:Int)) (u32.wrap ac))).bind fun ad=>Zns aa kk_L1 ad (Y1 .u64 ac 32)
def Qi (N:Nat) (ac:List Int) (ad:List Int):List Int→Nat→R2→Int→Option R2
  | [],aa,ab,ae=>(Zl ab (ac.length:Int)).bind fun ak=>(some (ab.set (aA (ac.length:Int)) (u32.wrap ae))).bind fun ah=>(Tg N ah).bind fun ai=>some ai
  | af :: ag,aa,ab,ae=>if (decide ((aa:Int)<(ad.length:Int)))=true then ((Zl ad (aa:Int)).bind fun aj=>Zia aa ab (Qi N ac ad ag) (u64.wrap ((u64.wrap (ae+(u64.wrap af)))+(u64.wrap aj)))) else (Zia aa ab (Qi N ac ad ag) (u64.wrap (ae+(u64.wrap af))))
termination_by structural x=>x
def Zh9 (N:Nat) (aa:List Int) (ab:List Int):Option R2:=
  Z4 ((aA (i64.wrap ((aa.length:Int)+1))) * 4≤281474976710656∧(aA (i64.wrap ((aa.length:Int)+1)))≤maxLen∧0≤(i64.wrap ((aa.length:Int)+1))) (Qi N aa ab aa 0 (aM (aA (i64.wrap ((aa.length:Int)+1))) (0:Int)) 0)
def Zkx (N:Nat) (ac:List Int) (ad:List Int):Option R2:=
  (Th N ac).bind fun aa=>(Th N ad).bind fun ab=>if (decide ((aa.length:Int)<(ab.length:Int)))=true then (Zh9 N ab aa) else (Zh9 N aa ab)
theorem Z4w {N bp bq:Nat} {a0 a1:Option Addr} {col:Zd} {w0:World} {a9 ba r:R2} (c1:Nat) (hm:Zkx N a9 ba=some r) (h0:Sl rU col w0 a0 bp a9) (h1:Sl rU col w0 a1 bq ba):
    Calls prog 149 #[.slice a0 a9.length bp,.slice a1 ba.length bq] w0 (fun e w'=>∃ (col':Zd) (ra1:Option Addr) (rc2:Nat),e= .returned ((.slice ra1 r.length rc2))∧Zf col w0 col' w'∧Zb rU 95 c1 col' w' ra1 rc2 r):=by
 refine Xe 4 (m:=62) func149 rfl rfl rfl rfl rfl ?_;rw [Zkx.eq_1] at hm;have aa:=St.start col w0;refine go ?_;obtain ⟨ca,bw,hm⟩:=bZ hm;refine Zi (S9 bw (h0.k0.ks aa)) ?_;rintro _ cb ⟨cc,cd,ce,rfl,bx,a3⟩;refine ⟨_,rfl,?_⟩;refine Y2 rfl ?_;obtain ⟨cf,bz,hm⟩:=bZ hm;replace aa:=aa.grow bx;refine Zi (S9 bz (h1.k0.ks aa)) ?_;rintro _ cg ⟨ch,ci,cj,rfl,br,bs⟩;refine ⟨_,rfl,?_⟩;refine Znf rfl<|Znf rfl<|Zk<|Zz ?_;replace a3:=a3.gr br;replace aa:=aa.grow br;refine Wp.cutK [1000000] (fun f aq=>∃ ar am an ab ao ap ae,Zh9 N ab ae=some r∧St w0 (Zj col) ar aq∧Sl rU ar aq am an ab∧Sl rU ar aq ao ap ae∧[0,1].map f=[.slice am ab.length an,.slice ao ae.length ap]) ?_ ?_
 ·intro f aq hJ;obtain ⟨ar,am,an,ab,ao,ap,ae,hm,aa,ac,ad,hs⟩:=hJ;rw [Zh9.eq_1] at hm;refine .lL [0,1] hs<|go ?_;obtain ⟨a4,hm⟩:=Z9 hm;refine Sq (col:=ar) (w:=aq) (r:=rU) (n:=(aA (i64.wrap ((ab.length:Int)+1)))) (x0:=0) 1 rfl underlying35 Tryz.t95 rfl rfl rfl rfl rfl (congrArg (Value.int _) (bL a4.2.2).symm) (congrArg (Value.int _) (bL a4.2.2).symm) a4.1 a4.2.1 (Zaj .u32 0) ?_;intro ck cl cn bb b0;refine go ?_;replace ac:=ac.gr bb;replace ad:=ad.gr bb;replace aa:=aa.grow bb;refine Zv [0,1,24,25,1000000] (fun n f au=>∃ ah ag ai aj af av aw,n=aw.length∧ab.drop ag=aw∧Qi N ab ae aw ag af av=some r∧St w0 (Zj col) ah au∧Sl rU ah au am an ab∧Sl rU ah au ao ap ae∧Zb rU 95 1 ah au ai aj af∧[26,5,6].map f=[.int .i64 ag,.slice ai af.length aj,.int .u64 av]) ab.length ⟨_,0,_,_,_,0,_,rfl,rfl,hm,aa,ac,ad,b0,rfl⟩ ?_;clear hm;intro n f au hI;obtain ⟨ah,ag,ai,aj,af,av,aw,hn,hl,hm,aa,ac,ad,ak,hs⟩:=hI;subst hn;refine .lL [26,5,6] hs ?_
  cases aw with
  | nil=>
   have hk:¬ ((ag:Int)<(ab.length:Int)):=by have:=aG.1 hl;omega
   have hkb:=decide_eq_false hk;rw [Qi.eq_1] at hm;refine go ?_;refine X0 (congrArg Value.bool hkb)<|go ?_;obtain ⟨co,bc,hm⟩:=bZ hm;refine lI bc (ak.addr bc) ?_;obtain ⟨bd,a5,hm⟩:=bZ hm;have a5:bd=af.set (aA (ab.length:Int)) (u32.wrap av):=(Option.some.inj a5).symm;refine Wl (x1:=u32.wrap av) ak bc ?_;intro b1 b2 b3 bt;rw [← a5] at bt;refine .ld (d:=5) (v:=(.slice ai bd.length aj)) (congrArg (fun n=>Value.slice ai n aj) (show af.length=bd.length by rw [a5,nS])) ?_;refine go ?_;obtain ⟨cp,b4,hm⟩:=bZ hm;refine Zi (S8 2 b4 (bt.toSlF (Zh.int .u32))) ?_;rintro _ cq ⟨b5,cr,cs,rfl,a6,be⟩;refine ⟨_,rfl,?_⟩;replace be:=be.thaw (Z1 .u32) a6 ((Fz.refl (col:=ah)).froz 1);replace a6:=a6.thawR (col:=ah);generalize Xc b1.heap.size ah b5=ct at *;refine go ?_;cases hm;replace aa:=(aa.kp b2 b3).grow a6;exact ⟨rfl,_,_,_,rfl,aa.fin (cm [(2,c1)]),aa.fo be⟩
  | cons bu bf=>
   obtain ⟨bg,b6,b7⟩:=Yf hl;have hk:(ag:Int)<(ab.length:Int):=by omega
   have hkb:=decide_eq_true hk;rw [Qi.eq_2] at hm;refine go ?_;refine X1 (congrArg Value.bool hkb)<|Yj<|Zz ?_;refine Wp.cutK [0,1,24,25,26,1000000] (fun f ax=>∃ ay bh bi a7 bj,Zns ag (Qi N ab ae bf) a7 bj=some r∧St w0 (Zj col) ay ax∧Sl rU ay ax am an ab∧Sl rU ay ax ao ap ae∧Zb rU 95 1 ay ax bh bi a7∧[5,6].map f=[.slice bh a7.length bi,.int .u64 bj]) ?_ ?_
   ·intro f ax hJ;obtain ⟨ay,bh,bi,a7,bj,hm,aa,ac,ad,b8,hs⟩:=hJ;rw [Zns.eq_1] at hm;refine .lL [5,6] hs<|go ?_;exact ⟨bf.length,by simp,rfl,⟨_,_,_,_,_,_,_,rfl,b6,hm,aa,ac,ad,b8,(Yl (congrArg (Value.int .i64) (Yi (aE b7 ac.1.1))) rfl)⟩⟩
   refine go ?_;refine lI bg (ac.addr bg)<|lW (ac.atInt bg)<|Y6 rfl<|Y6 rfl<|Zk<|Zz<|Ve<|X4 rfl<|X4 rfl<|lV (.int .u64 (u64.wrap bu)) (Zl1 bu ⟨_,underlying95⟩ underlying149 rfl)<|lV _ (Qt _ _ rfl rfl)<|Y6 rfl<|Zk<|Zz ?_;refine Wp.cutK [0,1,24,25,26,5,7,1000000] (fun f az=>∃ a2 al,Zia ag af (Qi N ab ae bf) al=some r∧St w0 (Zj col) a2 az∧Sl rU a2 az am an ab∧Sl rU a2 az ao ap ae∧Zb rU 95 1 a2 az ai aj af∧[6].map f=[.int .u64 al]) ?_ ?_
   ·intro f az hJ;obtain ⟨a2,al,hm,aa,ac,ad,ak,hs⟩:=hJ;rw [Zia.eq_1] at hm;refine .lL [6] hs<|go ?_;obtain ⟨cu,bk,hm⟩:=bZ hm;refine lI bk (ak.addr bk) ?_;obtain ⟨bm,a8,hm⟩:=bZ hm;have a8:bm=af.set (aA (ag:Int)) (u32.wrap al):=(Option.some.inj a8).symm;refine Wl (x1:=u32.wrap al) ak bk ?_;intro cv bn b9 bv;rw [← a8] at bv;refine .ld (d:=5) (v:=(.slice ai bm.length aj)) (congrArg (fun n=>Value.slice ai n aj) (show af.length=bm.length by rw [a8,nS])) ?_;refine go ?_;refine lV (.int .u64 (Y1 .u64 al 32)) (Qw al 32 rfl rfl (by decide))<|go ?_;replace ac:=ac.kp bn;replace ad:=ad.kp bn;replace aa:=aa.kp bn b9;exact ⟨rfl,_,_,_,_,_,hm,aa,ac,ad,bv,rfl⟩
   refine go ?_;refine Zo hm (fun hb hm=>go ?_) fun hb hm=>?_
   ·obtain ⟨cw,bo,hm⟩:=bZ hm;refine lI bo (ad.addr bo)<|lW (ad.atInt bo) ?_;refine go ?_;exact ⟨rfl,_,_,hm,aa,ac,ad,ak,rfl⟩
   refine Yj ?_;exact ⟨rfl,_,_,hm,aa,ac,ad,ak,rfl⟩
 refine go ?_;refine Zo hm (fun hb hm=>go ?_) fun hb hm=>?_
 ·exact ⟨rfl,_,_,_,_,_,_,_,hm,aa,bs,a3,rfl⟩
 refine Yj ?_;exact ⟨rfl,_,_,_,_,_,_,_,hm,aa,a3,bs,rfl⟩
def Zds (ae:List Int) (aa:Nat) (kk_L1:(Nat→R2→Option R2)) (af:Int):List Int→Nat→R2→Int→Option R2
  | [],ac,ab,ad=>(Zl ab (i64.wrap ((aa:Int)+(ae.length:Int)))).bind fun al=>(some (ab.set (aA (i64.wrap ((aa:Int)+(ae.length:Int)))) (u32.wrap ad))).bind fun ai=>kk_L1 (aa+1) ai
  | ag :: aj,ac,ab,ad=>(Zl ab (i64.wrap ((aa:Int)+(ac:Int)))).bind fun ah=>(some (ab.set (aA (i64.wrap ((aa:Int)+(ac:Int)))) (u32.wrap (u64.wrap (ad+(u64.wrap ((u64.wrap ((u64.wrap af) * (u64.wrap ag)))+(u64.wrap ah)))))))).bind fun ak=>(Zds ae aa kk_L1 af aj) (ac+1) ak (Y1 .u64 (u64.wrap (ad+(u64.wrap ((u64.wrap ((u64.wrap af) * (u64.wrap ag)))+(u64.wrap ah))))) 32)
termination_by structural x=>x
def Zbf (N:Nat) (aa:List Int):List Int→Nat→R2→Option R2
  | [],ac,ab=>(Tg N ab).bind fun ad=>some ad
  | ae :: af,ac,ab=>Zds aa ac (Zbf N aa af) ae aa 0 ab 0
termination_by structural x=>x
def Q8 (N:Nat) (ac:List Int) (ad:List Int):Option R2:=
  (Th N ac).bind fun aa=>(Th N ad).bind fun ab=>Z4 ((aA (i64.wrap ((aa.length:Int)+(ab.length:Int)))) * 4≤281474976710656∧(aA (i64.wrap ((aa.length:Int)+(ab.length:Int))))≤maxLen∧0≤(i64.wrap ((aa.length:Int)+(ab.length:Int)))) (Zbf N ab aa 0 (aM (aA (i64.wrap ((aa.length:Int)+(ab.length:Int)))) (0:Int)))
theorem Zgx {N bt bu:Nat} {a0 a1:Option Addr} {col:Zd} {w0:World} {be bf r:R2} (c1:Nat) (hm:Q8 N be bf=some r) (h0:Sl rU col w0 a0 bt be) (h1:Sl rU col w0 a1 bu bf):
    Calls prog 78 #[.slice a0 be.length bt,.slice a1 bf.length bu] w0 (fun e w'=>∃ (col':Zd) (ra1:Option Addr) (rc2:Nat),e= .returned ((.slice ra1 r.length rc2))∧Zf col w0 col' w'∧Zb rU 95 c1 col' w' ra1 rc2 r):=by
 refine Xe 4 (m:=71) func78 rfl rfl rfl rfl rfl ?_;rw [Q8.eq_1] at hm;have aa:=St.start col w0;refine go ?_;obtain ⟨ae,b1,hm⟩:=bZ hm;refine Zi (S9 b1 (h0.k0.ks aa)) ?_;rintro _ co ⟨cp,a4,a5,rfl,b2,ac⟩;refine ⟨_,rfl,?_⟩;refine Y2 rfl ?_;obtain ⟨ab,b3,hm⟩:=bZ hm;replace aa:=aa.grow b2;refine Zi (S9 b3 (h1.k0.ks aa)) ?_;rintro _ b4 ⟨b5,au,av,rfl,bv,ad⟩;refine ⟨_,rfl,go ?_⟩;obtain ⟨a6,hm⟩:=Z9 hm;refine Sq (col:=b5) (w:=b4) (r:=rU) (n:=(aA (i64.wrap ((ae.length:Int)+(ab.length:Int))))) (x0:=0) 1 rfl underlying35 Tryz.t95 rfl rfl rfl rfl rfl (congrArg (Value.int _) (bL a6.2.2).symm) (congrArg (Value.int _) (bL a6.2.2).symm) a6.1 a6.2.1 (Zaj .u32 0) ?_;intro b6 cq b7 bg b8;refine go ?_;replace ac:=(ac.gr bv).gr bg;replace aa:=(aa.grow bv).grow bg;replace ad:=ad.gr bg;refine Ztl (fun n f ap=>∃ (ah:Zd) (af:Nat) (a7:Option Addr) (a8:Nat) (aw:List Int) (ax:List Int),n=ax.length∧ae.drop af=ax∧Zbf N ab ax af aw=some r∧St w0 (Zj col) ah ap∧Sl rU ah ap au av ab∧Sl rU ah ap a4 a5 ae∧Zb rU 95 1 ah ap a7 a8 aw∧f 23=(.int .i64 af)∧f 1=(.slice au ab.length av)∧f 21=(.slice a4 ae.length a5)∧f 22=(.int .i64 ae.length)∧f 5=(.slice a7 aw.length a8)∧f 1000000=(enc [])) ae.length ⟨b7,0,b6,(aA (i64.wrap ((ae.length:Int)+(ab.length:Int)))),(aM (aA (i64.wrap ((ae.length:Int)+(ab.length:Int)))) (0:Int)),ae,rfl,rfl,hm,aa,ad,ac,b8,rfl,rfl,rfl,rfl,rfl,rfl⟩ ?_;clear hm;intro n f ap hI;obtain ⟨ah,af,a7,a8,aw,ax,hn,hl,hm,aa,ad,ac,bw,bh,bi,bj,bk,bm,bn⟩:=hI;subst hn;refine .lD 23 bh<|.lD 1 bi<|.lD 21 bj<|.lD 22 bk<|.lD 5 bm<|.lD 1000000 bn ?_
 cases ax with
 | nil=>
  have hk:¬ ((af:Int)<(ae.length:Int)):=by have:=aG.1 hl;omega
  have hkb:=decide_eq_false hk;rw [Zbf.eq_1] at hm;refine go ?_;refine X0 (congrArg Value.bool hkb)<|go ?_;obtain ⟨cr,b9,hm⟩:=bZ hm;refine Zi (S8 2 b9 (bw.toSlF (Zh.int .u32))) ?_;rintro _ cs ⟨ca,ct,cu,rfl,a9,bo⟩;refine ⟨_,rfl,?_⟩;replace bo:=bo.thaw (Z1 .u32) a9 ((Fz.refl (col:=ah)).froz 1);replace a9:=a9.thawR (col:=ah);generalize Xc ap.heap.size ah ca=cv at *;refine go ?_;cases hm;replace aa:=aa.grow a9;exact ⟨rfl,_,_,_,rfl,aa.fin (cm [(2,c1)]),aa.fo bo⟩
 | cons am bp=>
  obtain ⟨an,cb,cc⟩:=Yf hl;have hk:(af:Int)<(ae.length:Int):=by omega
  have hkb:=decide_eq_true hk;rw [Zbf.eq_2] at hm;refine go ?_;refine X1 (congrArg Value.bool hkb)<|go ?_;refine lI an (ac.addr an)<|lW (ac.atInt an) ?_;refine go ?_;refine Ztl (fun n f ay=>∃ (ao:Zd) (ak:Nat) (ai:Option Addr) (aj:Nat) (al:List Int) (ag:Int) (az:List Int),n=az.length∧ab.drop ak=az∧Zds ab af (Zbf N ab bp) am az ak al ag=some r∧St w0 (Zj col) ao ay∧Sl rU ao ay au av ab∧Sl rU ao ay a4 a5 ae∧Zb rU 95 1 ao ay ai aj al∧f 30=(.int .i64 ak)∧f 1=(.slice au ab.length av)∧f 21=(.slice a4 ae.length a5)∧f 22=(.int .i64 ae.length)∧f 23=(.int .i64 af)∧f 28=(.slice au ab.length av)∧f 29=(.int .i64 ab.length)∧f 5=(.slice ai al.length aj)∧f 6=(.int .i64 af)∧f 7=(.int .u32 am)∧f 8=(.int .u64 ag)∧f 1000000=(enc [])) ab.length ⟨ah,0,a7,a8,aw,0,ab,rfl,rfl,hm,aa,ad,ac,bw,rfl,rfl,rfl,rfl,rfl,rfl,rfl,rfl,rfl,rfl,rfl,rfl⟩ ?_;clear hm;intro n f ay hI;obtain ⟨ao,ak,ai,aj,al,ag,az,hn,hl,hm,aa,ad,ac,aq,cd,bi,bj,bk,bh,ce,cf,bm,cg,ch,ci,bn⟩:=hI;subst hn;refine .lD 30 cd<|.lD 1 bi<|.lD 21 bj<|.lD 22 bk<|.lD 23 bh<|.lD 28 ce<|.lD 29 cf<|.lD 5 bm<|.lD 6 cg<|.lD 7 ch<|.lD 8 ci<|.lD 1000000 bn ?_
  cases az with
  | nil=>
   have hk:¬ ((ak:Int)<(ab.length:Int)):=by have:=aG.1 hl;omega
   have hkb:=decide_eq_false hk;rw [Zds.eq_1] at hm;refine go ?_;refine X0 (congrArg Value.bool hkb)<|go ?_;obtain ⟨cw,bq,hm⟩:=bZ hm;refine lI bq (aq.addr bq) ?_;obtain ⟨ba,bb,hm⟩:=bZ hm;have bb:ba=al.set (aA (i64.wrap ((af:Int)+(ab.length:Int)))) (u32.wrap ag):=(Option.some.inj bb).symm;refine Wl (x1:=u32.wrap ag) aq bq ?_;intro cx br cj bx;rw [← bb] at bx;refine .ld (d:=5) (v:=(.slice ai ba.length aj)) (congrArg (fun n=>Value.slice ai n aj) (show al.length=ba.length by rw [bb,nS])) ?_;refine go ?_;replace ad:=ad.kp br;replace ac:=ac.kp br;replace aa:=aa.kp br cj;exact ⟨bp.length,by simp,⟨ao,(af+1),ai,aj,ba,bp,rfl,cb,hm,aa,ad,ac,bx,(congrArg (Value.int .i64) (Yi (aE cc ac.1.1))),rfl,rfl,rfl,rfl,rfl⟩⟩
  | cons a2 bz=>
   obtain ⟨an,ck,cl⟩:=Yf hl;have hk:(ak:Int)<(ab.length:Int):=by omega
   have hkb:=decide_eq_true hk;rw [Zds.eq_2] at hm;refine go ?_;refine X1 (congrArg Value.bool hkb)<|go ?_;refine lI an (ad.addr an)<|lW (ad.atInt an) ?_;refine go ?_;obtain ⟨a3,ar,hm⟩:=bZ hm;refine lI ar (aq.addr ar)<|lW (aq.atInt ar) ?_;refine go ?_;refine lI ar (aq.addr ar) ?_;obtain ⟨bc,bd,hm⟩:=bZ hm;have bd:bc=al.set (aA (i64.wrap ((af:Int)+(ak:Int)))) (u32.wrap (u64.wrap (ag+(u64.wrap ((u64.wrap ((u64.wrap am) * (u64.wrap a2)))+(u64.wrap a3)))))):=(Option.some.inj bd).symm;refine Wl (x1:=u32.wrap (u64.wrap (ag+(u64.wrap ((u64.wrap ((u64.wrap am) * (u64.wrap a2)))+(u64.wrap a3)))))) aq ar ?_;intro cy bs cn b0;rw [← bd] at b0;refine .ld (d:=5) (v:=(.slice ai bc.length aj)) (congrArg (fun n=>Value.slice ai n aj) (show al.length=bc.length by rw [bd,nS])) ?_;refine go ?_;refine lV (.int .u64 (Y1 .u64 (u64.wrap (ag+(u64.wrap ((u64.wrap ((u64.wrap am) * (u64.wrap a2)))+(u64.wrap a3))))) 32)) (Qw (u64.wrap (ag+(u64.wrap ((u64.wrap ((u64.wrap am) * (u64.wrap a2)))+(u64.wrap a3))))) 32 rfl rfl (by decide))<|go ?_;replace ad:=ad.kp bs;exact ⟨bz.length,by simp,⟨ao,(ak+1),ai,aj,bc,(Y1 .u64 (u64.wrap (ag+(u64.wrap ((u64.wrap ((u64.wrap am) * (u64.wrap a2)))+(u64.wrap a3))))) 32),bz,rfl,ck,hm,aa.kp bs cn,ad,ac.kp bs,b0,(congrArg (Value.int .i64) (Yi (aE cl ad.1.1))),rfl,rfl,rfl,rfl,rfl,rfl,rfl,rfl,rfl,rfl,rfl⟩⟩
def Zcc (N:Nat) (aa:Int):Option R2:=
  (Tg N [u32.wrap aa,u32.wrap (Y1 .u64 aa 32)]).bind fun ab=>some ab
theorem Zjz {N:Nat} {col:Zd} {w0:World} {aa:Int} {r:R2} (c1:Nat) (hm:Zcc N aa=some r):
    Calls prog 134 #[.int .u64 aa] w0 (fun e w'=>∃ (col':Zd) (ra1:Option Addr) (rc2:Nat),e= .returned ((.slice ra1 r.length rc2))∧Zf col w0 col' w'∧Zb rU 95 c1 col' w' ra1 rc2 r):=by
 refine Xe 2 (m:=10) func134 rfl rfl rfl rfl rfl ?_;rw [Zcc.eq_1] at hm;have ab:=St.start col w0;refine go ?_;refine lV (.int .u64 (Y1 .u64 aa 32)) (Qw aa 32 rfl rfl (by decide))<|go ?_;refine Vz (col:=(Zj col)) [u32.wrap aa,u32.wrap (Y1 .u64 aa 32)] 1 ?_;intro ak af ad ag ah;obtain ⟨al,ai,hm⟩:=bZ hm;refine Zi (S8 2 ai (ah.toSlF (Zh.int .u32))) ?_;rintro _ am ⟨aj,an,ao,rfl,ac,ae⟩;refine ⟨_,rfl,?_⟩;replace ae:=ae.thaw (Z1 .u32) ac ((Fz.refl (col:=ad)).froz 1);replace ac:=ac.thawR (col:=ad);generalize Xc af.heap.size ad aj=ap at *;refine go ?_;cases hm;replace ab:=(ab.grow ag).grow ac;exact ⟨rfl,_,_,_,rfl,ab.fin (cm [(2,c1)]),ab.fo ae⟩
def Zfh (N:Nat) (aa:List Int):Option R2:=
  (Tg N aa).bind fun ab=>some ab
theorem Zp8 {N ac:Nat} {a0:Option Addr} {col:Zd} {w0:World} {ab r:R2} (c1:Nat) (hm:Zfh N ab=some r) (h0:Sl rU col w0 a0 ac ab):
    Calls prog 148 #[.slice a0 ab.length ac] w0 (fun e w'=>∃ (col':Zd) (ra1:Option Addr) (rc2:Nat),e= .returned ((.slice ra1 r.length rc2))∧Zf col w0 col' w'∧Zb rU 95 c1 col' w' ra1 rc2 r):=by
 refine Xe 2 (m:=5) func148 rfl rfl rfl rfl rfl ?_;rw [Zfh.eq_1] at hm;have aa:=St.start col w0;refine go ?_;obtain ⟨ag,ad,hm⟩:=bZ hm;refine Zi (S8 1 ad (h0.k0.ks aa)) ?_;rintro _ ah ⟨ai,aj,ak,rfl,ae,af⟩;refine ⟨_,rfl,go ?_⟩;cases hm;replace aa:=aa.grow ae;exact ⟨rfl,_,_,_,rfl,aa.fin (cm [(1,c1)]),aa.fo af⟩
theorem Zph (N:Nat):∀ (n:Nat) (a:List Int),Zn a→a.length<n→a.length<4611686018427387904→Sx N n a=some (Ze (Zc a))
 | 0,a,_,h,_=>by omega
 | n+1,a,h,f,g=>by
  rw [Sx.eq_2]
  by_cases h0:0<a.length
  ·have e:(a.length:Int) - 1=((a.length - 1:Nat):Int):=by omega
   rw [if_pos (by simpa using h0),Zw (by omega),e,Z0 (by omega),oB,Zce,Zw (by omega),e]
   by_cases hx:a[a.length - 1]=0
   ·rw [if_pos (by simpa using hx),Xf (by omega),aD,Zph N n _ (h.take _) (by rw [nK];omega) (by rw [nK];omega)]
    conv=>rhs;rw [← Zg5 h0,hx,Zyb]
   ·rw [if_neg (by simpa using hx)]
    have b:=Zg5 h0
    have c:=Z79 (a:=a.take (a.length - 1)) (x:=a[a.length - 1]) (by rw [b];exact h) hx
    rw [b] at c
    rw [c]
  ·have d:a=[]:=cY (by omega)
   subst d
   rw [if_neg (by simp),Zce,if_neg (by decide),Yy,Vi]
theorem Qy {N:Nat} {a:List Int} (h:Zn a) (hn:a.length<N) (hb:a.length≤35184372088000):Th N a=some (Ze (Zc a)):=by
 rw [Th];exact Zph N N a h hn (by omega)
theorem Zqi {a:List Int} (hb:a.length≤35184372088832):Zf6 a=some a:=by
 rw [Zf6,Xf (by simp only [nN,maxLen];omega),bN]
theorem Qr {N:Nat} {a:List Int} (h:Zn a) (hn:a.length<N) (hb:a.length≤35184372088000):Tg N a=some (Ze (Zc a)):=by
 rw [Tg,Qy h hn hb,oB]
 have b:=Ys h
 by_cases h0:Ze (Zc a)=[]
 ·rw [h0,if_pos (by decide)]
 ·have:0<(Ze (Zc a)).length:=cO.2 h0
  rw [if_neg (by simp;exact h0),Zqi (by omega),oB]
theorem Zrs {N:Nat} {a:List Int} (h:Zn a) (hn:a.length<N) (hb:a.length≤35184372088000):Zfh N a=some (Ze (Zc a)):=by
 rw [Zfh,Qr h hn hb,oB]
theorem Zlw {N:Nat} {u:Int} (h:0≤u∧u<18446744073709551616) (hn:2<N):Zcc N u=some (Ze u.toNat):=by
 have e:Zc [u32.wrap u,u32.wrap (Y1 .u64 u 32)]=u.toNat:=by
  rw [Zgi,Wm,Wm,Yy,IntKind.wrap_u32,IntKind.wrap_u32];omega
 have a:Zn [u32.wrap u,u32.wrap (Y1 .u64 u 32)]:=by
  rw [Zgi,IntKind.wrap_u32,IntKind.wrap_u32]
  exact .cons (by omega) (.cons (by omega) .nil)
 rw [Zcc,Qr a (by simpa using hn) (by simp),oB,e]
theorem Zvc (N:Nat) (a b:List Int) (ha:Zn a) (hb:Zn b) (hl:a.length=b.length) (hs:a.length<4611686018427387904):∀ (n i:Nat),i≤a.length→i<n→a.drop i=b.drop i→Zfe N a b n ((i:Int) - 1)=some (if Zc a<Zc b then -1 else if Zc b<Zc a then 1 else 0)
 | 0,i,_,h,_=>by omega
 | n+1,i,q,r,c=>by
  rw [Zfe.eq_2]
  by_cases h0:i=0
  ·subst h0
   rw [if_neg (by decide)]
   rw [aP,aP] at c
   subst c
   rw [if_neg (by omega),if_neg (by omega)]
  ·have e:(i:Int) - 1=((i - 1:Nat):Int):=by omega
   have d:i - 1<a.length:=by omega
   have f:i - 1<b.length:=by omega
   have j:i - 1+1=i:=by omega
   rw [if_pos (by simp;omega),e,Z0 d,oB,Z0 f,oB]
   have s:=ha.get d
   have t:=hb.get f
   have k:=T0 a (i - 1)
   have l:=T0 b (i - 1)
   rw [Uw d,j] at k
   rw [Uw f,j,← c] at l
   have m:=Qq (ha.take (i - 1))
   have o:=Qq (hb.take (i - 1))
   rw [nK,bD (by omega)] at m o
   have g:∀ x y:Nat,x<y→4294967296 ^ (i - 1) * (x+4294967296 * Zc (a.drop i))+4294967296 ^ (i - 1)≤4294967296 ^ (i - 1) * (y+4294967296 * Zc (a.drop i)):=fun x y p=>by
    rw [← Nat.mul_succ];exact aT _ (by omega)
   by_cases hlt:a[i - 1]<b[i - 1]
   ·have:=g _ _ (show (a[i - 1]).toNat<(b[i - 1]).toNat by omega)
    rw [if_pos (by simpa using hlt),if_pos (by omega)]
   ·rw [if_neg (by simpa using hlt)]
    by_cases hgt:b[i - 1]<a[i - 1]
    ·have:=g _ _ (show (b[i - 1]).toNat<(a[i - 1]).toNat by omega)
     rw [if_pos (by simpa using hgt),if_neg (by omega),if_pos (by omega)]
    ·rw [if_neg (by simpa using hgt),Zw (by omega)]
     have:=Zvc N a b ha hb hl hs n (i - 1) (by omega) (by omega) (by
      rw [aJ d,aJ f,j,c]
      congr 1;omega)
     exact this
theorem Zxm {m n:Nat} (h:(Ze m).length<(Ze n).length):m<n:=by
 have a:=W8 (k:=(Ze m).length) (n:=m)
 have b:=W8 (k:=(Ze m).length) (n:=n)
 have:=a.1 (bB _)
 have d:¬ n<4294967296 ^ (Ze m).length:=fun c=>by have:=b.2 c;omega
 omega
theorem Zqj {N:Nat} {a b:List Int} (ha:Zn a) (hb:Zn b) (h1:a.length<N) (h2:b.length<N) (h3:a.length≤35184372088000) (h4:b.length≤35184372088000):
  Zfd N a b=some (if Zc a<Zc b then -1 else if Zc b<Zc a then 1 else 0):=by
 have c:=Ys ha
 have d:=Ys hb
 rw [Zfd,Qy ha h1 h3,oB,Qy hb h2 h4,oB]
 by_cases he:(Ze (Zc a)).length=(Ze (Zc b)).length
 ·rw [if_neg (by simp [he]),Zw (by omega)]
  have:=Zvc N (Ze (Zc a)) (Ze (Zc b)) (Xd _) (Xd _) he (by omega) N (Ze (Zc a)).length (bB _) (by omega) (by
   rw [aK (bB _),aK (by omega)])
  rw [this,Xb,Xb]
 ·rw [if_pos (by simp;omega)]
  by_cases hlt:(Ze (Zc a)).length<(Ze (Zc b)).length
  ·rw [if_pos (by simpa using hlt),if_pos (Zxm hlt)]
  ·have:=Zxm (m:=Zc b) (n:=Zc a) (by omega)
   rw [if_neg (by simpa using hlt),if_neg (by omega),if_pos this]
def X3 (b:List Int) (k:Nat):Nat:=(b.getD k 0).toNat
theorem Ti (b:List Int) (k:Nat):Zc (b.drop k)=X3 b k+4294967296 * Zc (b.drop (k+1)):=by
 by_cases h:k<b.length
 ·rw [Uw h,X3,aF,aL h,dG]
 ·rw [aK (by omega),aK (by omega),X3,aF,cQ (by omega)];rfl
theorem Zep {b:List Int} (h:Zn b) (k:Nat):X3 b k<4294967296:=by
 rw [X3,aF]
 by_cases hk:k<b.length
 ·have:=h.get hk
  rw [aL hk,dG];omega
 ·rw [cQ (by omega)];decide
theorem drop_zero {l:List Int} {k:Nat} (h:Zn l) (hk:k<l.length) (h0:Zc (l.drop k)=0):l[k]=0∧Zc (l.drop (k+1))=0:=by
 have:=h.get hk
 rw [Uw hk] at h0
 omega
theorem Q2 {l:List Int} {k j:Nat} (v:Int) (h:k<j):(l.set k v).drop j=l.drop j:=by
 rw [List.drop_set,if_pos h]
theorem Z3d (S S' Q c x y v c' L D:Nat) (h1:S'=S+Q * v) (h2:c+x+y=v+4294967296 * c'):S'+Q * 4294967296 * (c'+L+D)=S+Q * (c+(x+4294967296 * L)+(y+4294967296 * D)):=by
 subst h1
 have:Q * (c+x+y)=Q * (v+4294967296 * c'):=by rw [h2]
 grind
theorem Ztt (N:Nat) (a b:List Int) (ha:Zn a) (hb:Zn b) (hab:b.length≤a.length) (hN:a.length+1<N) (hs:a.length<35184372088000):∀ (l:List Int) (k:Nat) (sum:List Int) (c:Int),Zn l→a.length=k+l.length→sum.length=a.length+1→Zn sum→Zc (sum.drop k)=0→0≤c∧c≤1→
  Qi N a b l k sum c=some (Ze (Zc sum+4294967296 ^ k * (c.toNat+Zc l+Zc (b.drop k))))
 | [],k,sum,c,_,j,n,d,m,t=>by
  have o:k=a.length:=by simpa using j.symm
  subst o
  rw [Qi.eq_1,Z0 (by omega),oB,oB,aD,Uo (by omega),
   Qr (d.set _ (by omega)) (by rw [nS];omega) (by rw [nS];omega),oB]
  have f:=Tz (l:=sum) (k:=a.length) (by omega) c
  have u:=(drop_zero d (by omega) m).1
  rw [u] at f
  rw [Yy,aK (by omega),Yy]
  have v:Zc (sum.set a.length c)=Zc sum+4294967296 ^ a.length * c.toNat:=by simpa using f
  rw [v];rfl
 | x :: l,k,sum,c,p,j,n,d,m,t=>by
  have q:a.length=k+1+l.length:=by rw [j,nC];omega
  have A:=p.head
  have g:=drop_zero d (by omega) m
  have B:=Zep hb k
  have r:sum[k]'(by omega)=0:=g.1
  -- the sum of one place
  have step:∀ s:Int,s=c+x+(X3 b k:Int)→Zia k sum (Qi N a b l) s=some (Ze (Zc sum+4294967296 ^ k * (c.toNat+Zc (x :: l)+Zc (b.drop k)))):=fun s y=>by
   rw [Zia,Z0 (by omega),oB,oB,Zns,aD,Zgi]
   have w:0≤u32.wrap s∧u32.wrap s<4294967296:=by rw [IntKind.wrap_u32];omega
   rw [Ztt N a b ha hb hab hN hs l (k+1) _ _ p.tail q (by rw [nS];exact n) (d.set _ w) (by rw [Q2 _ (by omega)];exact g.2) (by omega)]
   have f:=Tz (l:=sum) (k:=k) (by omega) (u32.wrap s)
   rw [r] at f
   rw [bA,Wm,Ti b k]
   congr 2
   exact Z3d _ _ _ _ _ _ (u32.wrap s).toNat _ _ _ (by simpa using f) (by rw [IntKind.wrap_u32];omega)
  rw [Qi.eq_2]
  have i:u64.wrap (c+u64.wrap x)=c+x:=by rw [Xm (x:=x) (by omega),Xm (by omega)]
  by_cases hkb:k<b.length
  ·have e:X3 b k=(b[k]).toNat:=by rw [X3,aF,aL hkb,dG]
   have:=hb.get hkb
   rw [if_pos (by simpa using hkb),Z0 hkb,oB,i,Xm (x:=b[k]) (by omega),Xm (by omega)]
   exact step _ (by omega)
  ·have e:X3 b k=0:=by rw [X3,aF,cQ (by omega)];rfl
   rw [if_neg (by simpa using hkb),i]
   exact step _ (by omega)
theorem Zts {N:Nat} {a b:List Int} (ha:Zn a) (hb:Zn b) (hab:b.length≤a.length) (hN:a.length+1<N) (hs:a.length<35184372088000):Zh9 N a b=some (Ze (Zc a+Zc b)):=by
 rw [Zh9,Zw (by omega),Xf (by simp only [maxLen];omega),Ztt N a b ha hb hab hN hs a 0 _ 0 ha (by omega) (by rw [bI];omega) (.zeros _) (by rw [aP];exact Sf _) (by omega),Sf,aP]
 simp
theorem Z3e {N:Nat} {a b:List Int} (ha:Zn a) (hb:Zn b) (h1:a.length+1<N) (h2:b.length+1<N) (h3:a.length<35184372088000) (h4:b.length<35184372088000):Zkx N a b=some (Ze (Zc a+Zc b)):=by
 have c:=Ys ha
 have d:=Ys hb
 rw [Zkx,Qy ha (by omega) (by omega),oB,Qy hb (by omega) (by omega),oB]
 by_cases h:(Ze (Zc a)).length<(Ze (Zc b)).length
 ·rw [if_pos (by simpa using h),Zts (Xd _) (Xd _) (by omega) (by omega) (by omega),Xb,Xb,eM]
 ·rw [if_neg (by simpa using h),Zts (Xd _) (Xd _) (by omega) (by omega) (by omega),Xb,Xb]
theorem Zxj (N:Nat) (a b:List Int) (ha:Zn a) (hb:Zn b) (hs:a.length<35184372088000):∀ (n k:Nat) (r:List Int) (c:Int),k≤a.length→a.length<n+k→r.length=a.length→Zn r→0≤c∧c≤1→r.drop k=a.drop k→
  4294967296 ^ k * (c.toNat+Zc (b.drop k))≤4294967296 ^ k * Zc (a.drop k)→
  ∃ r',Sw N a b n r c (k:Int)=some r'∧r'.length=a.length∧Zn r'∧Zc r'+4294967296 ^ k * (c.toNat+Zc (b.drop k))=Zc r
 | 0,k,r,c,s,u,_,_,_,_,_=>by omega
 | n+1,k,r,c,s,u,i,j,E,m,o=>by
  have v:0<4294967296 ^ k:=fS (by decide)
  have f:c.toNat+Zc (b.drop k)≤Zc (a.drop k):=Nat.le_of_mul_le_mul_left o v
  rw [Sw.eq_2]
  by_cases h0:k<a.length
  ·have F:=ha.get h0
   have g:r[k]'(by omega)=a[k]:=by
    have:(r.drop k)[0]'(by simp;omega)=(a.drop k)[0]'(by simp;omega):=by simp only [m]
    simpa using this
   have G:=Zep hb k
   rw [Ti b k,Uw h0] at f
   have step:∀ t:Int,t=c+(X3 b k:Int)→∃ r',Zif r (k:Int) (Sw N a b n) t=some r'∧r'.length=a.length∧Zn r'∧Zc r'+4294967296 ^ k * (c.toNat+Zc (b.drop k))=Zc r:=fun t H=>by
    have w:0≤u32.wrap (a[k] - u32.wrap t)∧u32.wrap (a[k] - u32.wrap t)<4294967296:=by rw [IntKind.wrap_u32];omega
    have fin:∀ d:Int,0≤d∧d≤1→a[k]+4294967296 * d=t+u32.wrap (a[k] - u32.wrap t)→∃ r',Zig r (k:Int) (Sw N a b n) t d=some r'∧r'.length=a.length∧Zn r'∧Zc r'+4294967296 ^ k * (c.toNat+Zc (b.drop k))=Zc r:=fun d p I=>by
     rw [Zig,Z0 (by omega),oB,oB,Znw,g,Zw (by omega),aD]
     obtain ⟨r',q1,y,A,B⟩:=Zxj N a b ha hb hs n (k+1) (r.set k (u32.wrap (a[k] - u32.wrap t))) d (by omega) (by omega) (by rw [nS];exact i) (j.set _ w) p (by
      rw [Q2 _ (by omega)]
      have:=congrArg (List.drop 1) m
      simpa [dR,eM] using this) (aT _ (by omega))
     refine ⟨r',q1,y,A,?_⟩
     have C:=Tz (l:=r) (k:=k) (by omega) (u32.wrap (a[k] - u32.wrap t))
     rw [g] at C
     rw [Ti b k]
     rw [bA] at B
     have q:(a[k]).toNat+4294967296 * d.toNat=c.toNat+X3 b k+(u32.wrap (a[k] - u32.wrap t)).toNat:=by omega
     have D:4294967296 ^ k * ((a[k]).toNat+4294967296 * d.toNat)=4294967296 ^ k * (c.toNat+X3 b k+(u32.wrap (a[k] - u32.wrap t)).toNat):=by rw [q]
     grind
    rw [Zif,Z0 (by omega),oB,g,Xm (x:=a[k]) (by omega)]
    by_cases hlt:a[k]<t
    ·rw [if_pos (by simpa using hlt)]
     exact fin 1 (by omega) (by rw [IntKind.wrap_u32,IntKind.wrap_u32];omega)
    ·rw [if_neg (by simpa using hlt)]
     exact fin 0 (by omega) (by rw [IntKind.wrap_u32,IntKind.wrap_u32];omega)
   rw [if_pos (by simpa using h0)]
   by_cases hkb:k<b.length
   ·have e:X3 b k=(b[k]).toNat:=by rw [X3,aF,aL hkb,dG]
    have:=hb.get hkb
    rw [if_pos (by simpa using hkb),Z0 hkb,oB,Xm (x:=b[k]) (by omega),Xm (by omega)]
    exact step _ (by omega)
   ·have e:X3 b k=0:=by rw [X3,aF,cQ (by omega)];rfl
    rw [if_neg (by simpa using hkb)]
    exact step _ (by omega)
  ·rw [if_neg (by simpa using h0)]
   rw [aK (show a.length≤k by omega),Yy] at f
   exact ⟨r,rfl,i,j,by rw [show c.toNat+Zc (b.drop k)=0 by omega];simp⟩
theorem Z1t {N:Nat} {a b:List Int} (ha:Zn a) (hb:Zn b) (h1:a.length+1<N) (h2:b.length+1<N) (h3:a.length<35184372088000) (h4:b.length<35184372088000):
  Zic N a b=some (if Zc a<Zc b then ([],false) else (Ze (Zc a - Zc b),true)):=by
 have e:=Ys ha
 have f:=Ys hb
 rw [Zic,Zqj ha hb (by omega) (by omega) (by omega) (by omega),oB]
 by_cases h:Zc a<Zc b
 ·rw [if_pos h,if_pos (by decide),if_pos h]
 ·rw [if_neg h,if_neg (by split <;> decide),if_neg h,Qy ha (by omega) (by omega),oB,Zqi (by omega),oB,Qy hb (by omega) (by omega),oB,Znv]
  obtain ⟨g,q1,i,c,d⟩:=Zxj N (Ze (Zc a)) (Ze (Zc b)) (Xd _) (Xd _) (by omega) N 0 (Ze (Zc a)) 0 (by omega) (by omega) rfl (Xd _) (by omega) rfl (by simp [Xb];omega)
  rw [show ((0:Nat):Int)=0 from rfl] at q1
  rw [q1,oB,Qr c (by omega) (by omega),oB]
  simp [Xb] at d
  congr 3
  omega
theorem Zx5 (P P' Q c x y e v c' L:Nat) (h1:P'+Q * e=P+Q * v) (h2:c+(x * y+e)=v+4294967296 * c'):P'+Q * 4294967296 * (c'+x * L)=P+Q * (c+x * (y+4294967296 * L)):=by
 have:Q * (c+(x * y+e))=Q * (v+4294967296 * c'):=by rw [h2]
 grind
theorem Zx4 (b:List Int) (hb:Zn b) (i:Nat) (kk:Nat→List Int→Option R2) (x:Int) (hx:0≤x∧x<4294967296):∀ (l:List Int) (j:Nat) (p:List Int) (c:Int),Zn l→j+l.length=b.length→i+b.length<p.length→p.length<4611686018427387904→Zn p→0≤c∧c<4294967296→Zc (p.drop (i+b.length))=0→
  ∃ p',Zds b i kk x l j p c=kk (i+1) p'∧p'.length=p.length∧Zn p'∧Zc p'=Zc p+4294967296 ^ (i+j) * (c.toNat+x.toNat * Zc l)∧Zc (p'.drop (i+b.length+1))=0
 | [],j,p,c,_,g,a,n,d,k,m=>by
  have o:j=b.length:=by simpa using g
  subst o
  have f:=drop_zero d a m
  rw [Zds.eq_1,Zw (by omega),show (i:Int)+(b.length:Int)=((i+b.length:Nat):Int) by omega,Z0 a,oB,oB,aD,Uo k]
  refine ⟨_,rfl,by rw [nS],d.set _ k,?_,?_⟩
  ·have q:=Tz a c
   rw [f.1] at q
   rw [Yy,dW,bU]
   simpa using q
  ·rw [Q2 _ (by omega)];exact f.2
 | y :: l,j,p,c,r,g,a,n,d,k,m=>by
  have t:=r.head
  have u:j+1+l.length=b.length:=by rw [← g,nC];omega
  have e:i+j<p.length:=by omega
  have E:=d.get e
  have F:x * y≤4294967295 * 4294967295:=kW (by omega) (by omega) (by omega) (by omega)
  have D:0≤x * y:=kX hx.1 t.1
  rw [Zds.eq_2,Zw (by omega),show (i:Int)+(j:Int)=((i+j:Nat):Int) by omega,Z0 e,oB,oB,aD,Xm (x:=x) (by omega),Xm (x:=y) (by omega),Xm (x:=p[i+j]) (by omega),Xm (x:=x * y) (by omega),Xm (x:=x * y+p[i+j]) (by omega),Xm (by omega),Zgi]
  generalize hs':c+(x * y+p[i+j])=s
  have v:0≤u32.wrap s∧u32.wrap s<4294967296:=by rw [IntKind.wrap_u32];omega
  obtain ⟨p',q1,w,A,B,C⟩:=Zx4 b hb i kk x hx l (j+1) (p.set (i+j) (u32.wrap s)) (s / 4294967296) r.tail u (by rw [nS];exact a) (by rw [nS];exact n) (d.set _ v) (by omega) (by rw [Q2 _ (by omega)];exact m)
  refine ⟨p',q1,by rw [w,nS],A,?_,C⟩
  rw [B,← dS i j 1,bA,Wm]
  refine Zx5 _ _ _ _ _ _ (p[i+j]).toNat (u32.wrap s).toNat _ _ (Tz e _) ?_
  rw [IntKind.wrap_u32]
  have G:((x.toNat * y.toNat:Nat):Int)=x * y:=by rw [bV,bL hx.1,bL t.1]
  omega
theorem Zx3 (N:Nat) (b:List Int) (hb:Zn b):∀ (l:List Int) (i:Nat) (p:List Int),Zn l→p.length=i+l.length+b.length→p.length<N→p.length<35184372088000→Zn p→Zc (p.drop (i+b.length))=0→
  Zbf N b l i p=some (Ze (Zc p+4294967296 ^ i * (Zc l * Zc b)))
 | [],i,p,_,c,d,g,a,e=>by
  rw [Zbf.eq_1,Qr a d (by omega),oB,Yy];simp
 | x :: l,i,p,f,c,d,g,a,e=>by
  rw [nC] at c
  obtain ⟨j,q1,o,k,m,n⟩:=Zx4 b hb i (Zbf N b l) x f.head b 0 p 0 hb (by omega) (by omega) (by omega) a (by omega) e
  rw [Zbf.eq_2,q1,Zx3 N b hb l (i+1) j f.tail (by omega) (by omega) (by omega) k (by rw [show i+1+b.length=i+b.length+1 by omega];exact n),m,Wm,bA]
  congr 2
  simp only [bU,fG,cR]
  grind
theorem Zlu {N:Nat} {a b:List Int} (ha:Zn a) (hb:Zn b) (h1:a.length+b.length<N) (h3:a.length+b.length<35184372088000):Q8 N a b=some (Ze (Zc a * Zc b)):=by
 have c:=Ys ha
 have d:=Ys hb
 rw [Q8,Qy ha (by omega) (by omega),oB,Qy hb (by omega) (by omega),oB,Zw (by omega),Xf (by simp only [maxLen];omega),
  Zx3 N _ (Xd _) _ 0 _ (Xd _) (by rw [bI];omega) (by rw [bI];omega) (by rw [bI];omega) (.zeros _) (by
   rw [hY];exact Sf _),Sf,Xb,Xb]
 simp
def Zfk (N:Nat) (aa:Int):Nat→R2→Int→Int→Option R6
  | 0,_,_,_=>none
  | af+1,ac,ad,ab=>if (decide (0≤ab))=true then ((Zl ac ab).bind fun ae=>Z4 ((u64.wrap aa)≠0) ((some (ac.set (aA ab) (u32.wrap (u64.wrap (aZ (Wh .u64 (Yc .u64 ad 32) (u64.wrap ae)) (u64.wrap aa)))))).bind fun ag=>Z4 ((u64.wrap aa)≠0) ((Zfk N aa af) ag (bM (Wh .u64 (Yc .u64 ad 32) (u64.wrap ae)) (u64.wrap aa)) (i64.wrap (ab - 1))))) else (some (u32.wrap ad,ac))
termination_by structural x=>x
def Zk4 (N:Nat) (aa:List Int) (ab:Int):Option R6:=
  Zfk N ab N aa 0 (i64.wrap ((aa.length:Int) - 1))
theorem Z41 {N ad:Nat} {a0:Option Addr} {col:Zd} {w0:World} {ae:R2} {ab:Int} {r:R6} (qc0:Nat) (hm:Zk4 N ae ab=some r) (hd:U4 [qc0]=true) (h0:Zb rU 95 qc0 col w0 a0 ad ae):
    Calls prog 184 #[.slice a0 ae.length ad,.int .u32 ab] w0 (fun e w'=>∃ (col':Zd),e= .returned ((.int .u32 r.1))∧Zt (pS [qc0]) col w0 col' w'∧Zb rU 95 qc0 col' w' a0 ad r.2∧r.2.length=ae.length):=by
 refine Xe 4 (m:=36) func184 rfl rfl rfl rfl rfl ?_;rw [Zk4.eq_1] at hm;have af:=St.startL (l:=[qc0]) rfl col w0;refine go ?_;refine Zv [1,1000000] (fun n f an=>∃ ao ac aa am ag,ag=n∧Zfk N ab ag ac aa am=some r∧St w0 (Xh [qc0] col) ao an∧Zb rU 95 440 ao an a0 ad ac∧ac.length=ae.length∧ac.length=ae.length∧[0,5,6].map f=[.slice a0 ac.length ad,.int .u64 aa,.int .i64 am]) N ⟨_,_,0,_,_,rfl,hm,af,h0.startL (T7 hd 0 rfl) (T6 hd 0 rfl),rfl,rfl,rfl⟩ ?_;clear hm;intro n f an hI;obtain ⟨ao,ac,aa,am,ag,hn,hm,af,aj,ar,au,hs⟩:=hI;subst hn;refine .lL [0,5,6] hs ?_
 cases ag with
 | zero=>rw [Zfk.eq_1] at hm;cases hm
 | succ ag=>
  rw [Zfk.eq_2] at hm;refine go ?_;refine Zo hm (fun hb hm=>go ?_) fun hb hm=>go ?_
  ·refine lV (.int .u64 (Yc .u64 aa 32)) (Zgg aa 32 rfl rfl (by decide))<|go ?_;obtain ⟨ah,ai,hm⟩:=bZ hm;refine lI ai (aj.addr ai)<|lW (aj.atInt ai) ?_;refine go ?_;obtain ⟨av,hm⟩:=Z9 hm;refine lV (.int .u64 (u64.wrap (aZ (Wh .u64 (Yc .u64 aa 32) (u64.wrap ah)) (u64.wrap ab)))) (Uc (Wh .u64 (Yc .u64 aa 32) (u64.wrap ah)) (u64.wrap ab) rfl rfl av)<|go ?_;refine lI ai (aj.addr ai) ?_;obtain ⟨ak,al,hm⟩:=bZ hm;have al:ak=ac.set (aA am) (u32.wrap (u64.wrap (aZ (Wh .u64 (Yc .u64 aa 32) (u64.wrap ah)) (u64.wrap ab)))):=(Option.some.inj al).symm;refine Wl (x1:=u32.wrap (u64.wrap (aZ (Wh .u64 (Yc .u64 aa 32) (u64.wrap ah)) (u64.wrap ab)))) aj ai ?_;intro az aw ax ap;rw [← al] at ap;have aq:ak.length=ae.length:=(show ac.length=ak.length by rw [al,nS]).symm.trans ar;refine .ld (d:=0) (v:=(.slice a0 ak.length ad)) (congrArg (fun n=>Value.slice a0 n ad) (show ac.length=ak.length by rw [al,nS])) ?_;refine go ?_;obtain ⟨ay,hm⟩:=Z9 hm;refine lV (.int .u64 (bM (Wh .u64 (Yc .u64 aa 32) (u64.wrap ah)) (u64.wrap ab))) (Qv (Wh .u64 (Yc .u64 aa 32) (u64.wrap ah)) (u64.wrap ab) rfl rfl ay)<|go ?_;replace af:=af.kp aw ax;exact ⟨ag,by omega,rfl,⟨_,_,_,_,_,rfl,hm,af,ap,aq,aq,rfl⟩⟩
  cases hm;exact ⟨rfl,_,rfl,af.finL rfl (cm [(440,qc0)]),af.foL aj,au⟩
def Ze8 (aa:Int) (ab:Int):Option Int:=
  (Zmk (⟨#[0,1,2,2,3,3,3,3,4,4,4,4,4,4,4,4,5,5,5,5,5,5,5,5,5,5,5,5,5,5,5,5,6,6,6,6,6,6,6,6,6,6,6,6,6,6,6,6,6,6,6,6,6,6,6,6,6,6,6,6,6,6,6,6,7,7,7,7,7,7,7,7,7,7,7,7,7,7,7,7,7,7,7,7,7,7,7,7,7,7,7,7,7,7,7,7,7,7,7,7,7,7,7,7,7,7,7,7,7,7,7,7,7,7,7,7,7,7,7,7,7,7,7,7,7,7,7,7,8,8,8,8,8,8,8,8,8,8,8,8,8,8,8,8,8,8,8,8,8,8,8,8,8,8,8,8,8,8,8,8,8,8,8,8,8,8,8,8,8,8,8,8,8,8,8,8,8,8,8,8,8,8,8,8,8,8,8,8,8,8,8,8,8,8,8,8,8,8,8,8,8,8,8,8,8,8,8,8,8,8,8,8,8,8,8,8,8,8,8,8,8,8,8,8,8,8,8,8,8,8,8,8,8,8,8,8,8,8,8,8,8,8,8,8,8,8,8,8,8,8,8,8,8,8,8,8]⟩) (u8.wrap aa)).bind fun ac=>some (i64.wrap (ab+(i64.wrap ac)))
def Zh1 (aa:Int) (ab:Int):Option Int:=
  if (decide (256≤aa))=true then (Ze8 (Y1 .u32 aa 8) (i64.wrap (ab+8))) else (Ze8 aa ab)
def Zh0 (aa:Int):Option Int:=
  if (decide (65536≤aa))=true then (Zh1 (Y1 .u32 aa 16) 16) else (Zh1 aa 0)
theorem Zug {col:Zd} {w0:World} {ac r:Int} (hm:Zh0 ac=some r):
    Calls prog 143 #[.int .u32 ac] w0 (fun e w'=>e= .returned ((.int .i64 r))∧Below w0.heap.size w0 w'):=by
 refine Xe 2 (m:=19) func143 rfl rfl rfl rfl rfl ?_;rw [Zh0.eq_1] at hm;have aa:=St.start col w0;refine Zz<|Ve<|Y6 rfl<|Zk<|Zz ?_;refine Wp.cutK [1000000] (fun f ag=>∃ ah ab ad,Zh1 ab ad=some r∧St w0 (Zj col) ah ag∧[0,2].map f=[.int .u32 ab,.int .i64 ad]) ?_ ?_
 ·intro f ag hJ;obtain ⟨ah,ab,ad,hm,aa,hs⟩:=hJ;rw [Zh1.eq_1] at hm;refine .lL [0,2] hs<|Zz ?_;refine Wp.cutK [1000000] (fun f ai=>∃ aj ae af,Ze8 ae af=some r∧St w0 (Zj col) aj ai∧[0,2].map f=[.int .u32 ae,.int .i64 af]) ?_ ?_
  ·intro f ai hJ;obtain ⟨aj,ae,af,hm,aa,hs⟩:=hJ;rw [Ze8.eq_1] at hm;refine .lL [0,2] hs<|go ?_;obtain ⟨ak,al,hm⟩:=bZ hm;refine lV (.int .u8 ak) (Z9q (s:=(⟨#[0,1,2,2,3,3,3,3,4,4,4,4,4,4,4,4,5,5,5,5,5,5,5,5,5,5,5,5,5,5,5,5,6,6,6,6,6,6,6,6,6,6,6,6,6,6,6,6,6,6,6,6,6,6,6,6,6,6,6,6,6,6,6,6,7,7,7,7,7,7,7,7,7,7,7,7,7,7,7,7,7,7,7,7,7,7,7,7,7,7,7,7,7,7,7,7,7,7,7,7,7,7,7,7,7,7,7,7,7,7,7,7,7,7,7,7,7,7,7,7,7,7,7,7,7,7,7,7,8,8,8,8,8,8,8,8,8,8,8,8,8,8,8,8,8,8,8,8,8,8,8,8,8,8,8,8,8,8,8,8,8,8,8,8,8,8,8,8,8,8,8,8,8,8,8,8,8,8,8,8,8,8,8,8,8,8,8,8,8,8,8,8,8,8,8,8,8,8,8,8,8,8,8,8,8,8,8,8,8,8,8,8,8,8,8,8,8,8,8,8,8,8,8,8,8,8,8,8,8,8,8,8,8,8,8,8,8,8,8,8,8,8,8,8,8,8,8,8,8,8,8,8,8,8,8,8]⟩)) underlying9 rfl rfl al)<|go ?_;cases hm;exact ⟨rfl,rfl,aa.below⟩
  refine go ?_;refine Zo hm (fun hb hm=>go ?_) fun hb hm=>?_
  ·refine lV (.int .u32 (Y1 .u32 ab 8)) (Qw ab 8 rfl rfl (by decide))<|go ?_;exact ⟨rfl,_,_,_,hm,aa,rfl⟩
  refine Yj ?_;exact ⟨rfl,_,_,_,hm,aa,rfl⟩
 refine go ?_;refine Zo hm (fun hb hm=>go ?_) fun hb hm=>?_
 ·refine lV (.int .u32 (Y1 .u32 ac 16)) (Qw ac 16 rfl rfl (by decide))<|go ?_;exact ⟨rfl,_,_,16,hm,aa,rfl⟩
 refine Yj ?_;exact ⟨rfl,_,_,0,hm,aa,rfl⟩
def Zkt (aa:Int):Option Int:=
  (Zh0 aa).bind fun ab=>some (i64.wrap (32 - ab))
theorem Z4p {col:Zd} {w0:World} {ac r:Int} (hm:Zkt ac=some r):
    Calls prog 191 #[.int .u32 ac] w0 (fun e w'=>e= .returned ((.int .i64 r))∧Below w0.heap.size w0 w'):=by
 refine Xe 2 (m:=6) func191 rfl rfl rfl rfl rfl ?_;rw [Zkt.eq_1] at hm;have aa:=St.start col w0;refine go ?_;obtain ⟨af,ad,hm⟩:=bZ hm;refine Zi (Zug (col:=(Zj col)) ad) ?_;rintro _ ae ⟨rfl,ab⟩;refine ⟨_,rfl,?_⟩;replace ab:Zf (Zj col) w0 (Zj col) ae:=.of_below ab;refine go ?_;cases hm;exact ⟨rfl,rfl,(aa.grow ab).below⟩
def Zdu (ab:Int):List Int→Nat→R2→Option R2
  | [],aa,ac=>some ac
  | ad :: af,aa,ac=>(Zl ac (aa:Int)).bind fun ag=>Z4 (0≤ab) ((some (ac.set (aA (aa:Int)) (Wh .u32 ag (Yc .u32 ad ab)))).bind fun ae=>Z4 (0≤ab) ((Zl ae (i64.wrap ((aa:Int)+1))).bind fun ai=>(some (ae.set (aA (i64.wrap ((aa:Int)+1))) (u32.wrap (Y1 .u64 (Yc .u64 (u64.wrap ad) ab) 32)))).bind fun ah=>(Zdu ab af) (aa+1) ah))
termination_by structural x=>x
def Zie (aa:List Int) (ab:Int):Option R2:=
  Z4 ((aA (i64.wrap ((aa.length:Int)+1))) * 4≤281474976710656∧(aA (i64.wrap ((aa.length:Int)+1)))≤maxLen∧0≤(i64.wrap ((aa.length:Int)+1))) (Zdu ab aa 0 (aM (aA (i64.wrap ((aa.length:Int)+1))) (0:Int)))
theorem Zul {ay:Nat} {a0:Option Addr} {col:Zd} {w0:World} {ad:R2} {aa:Int} {r:R2} (c1:Nat) (hm:Zie ad aa=some r) (h0:Sl rU col w0 a0 ay ad):
    Calls prog 187 #[.slice a0 ad.length ay,.int .i64 aa] w0 (fun e w'=>∃ (col':Zd) (ra1:Option Addr) (rc2:Nat),e= .returned ((.slice ra1 r.length rc2))∧Zf col w0 col' w'∧Zb rU 95 c1 col' w' ra1 rc2 r):=by
 refine Xe 4 (m:=40) func187 rfl rfl rfl rfl rfl ?_;rw [Zie.eq_1] at hm;have ab:=St.start col w0;refine go ?_;obtain ⟨ao,hm⟩:=Z9 hm;refine Sq (col:=(Zj col)) (w:=w0) (r:=rU) (n:=(aA (i64.wrap ((ad.length:Int)+1)))) (x0:=0) 1 rfl underlying35 Tryz.t95 rfl rfl rfl rfl rfl (congrArg (Value.int _) (bL ao.2.2).symm) (congrArg (Value.int _) (bL ao.2.2).symm) ao.1 ao.2.1 (Zaj .u32 0) ?_;intro bc bd be a1 a2;refine go ?_;replace ab:=ab.grow a1;refine Zv [1,12,13,1000000] (fun n f au=>∃ ae af ah ai ak al,n=al.length∧ad.drop af=al∧Zdu aa al af ak=some r∧St w0 (Zj col) ae au∧Zb rU 95 1 ae au ah ai ak∧[14,5].map f=[.int .i64 af,.slice ah ak.length ai]) ad.length ⟨_,0,_,_,_,_,rfl,rfl,hm,ab,a2,rfl⟩ ?_;clear hm;intro n f au hI;obtain ⟨ae,af,ah,ai,ak,al,hn,hl,hm,ab,aj,hs⟩:=hI;subst hn;refine .lL [14,5] hs ?_;replace h0:=h0.k0
 cases al with
 | nil=>
  have hk:¬ ((af:Int)<(ad.length:Int)):=by have:=aG.1 hl;omega
  have hkb:=decide_eq_false hk;rw [Zdu.eq_1] at hm;refine go ?_;refine X0 (congrArg Value.bool hkb)<|go ?_;cases hm;exact ⟨rfl,_,_,_,rfl,ab.fin (cm [(1,c1)]),ab.fo aj⟩
 | cons ac a3=>
  obtain ⟨av,a4,a5⟩:=Yf hl;have hk:(af:Int)<(ad.length:Int):=by omega
  have hkb:=decide_eq_true hk;rw [Zdu.eq_2] at hm;refine go ?_;refine X1 (congrArg Value.bool hkb)<|go ?_;refine lI av ((h0.ks ab).addr av)<|lW ((h0.ks ab).atInt av) ?_;refine go ?_;refine Y8 (col:=ae) [(0,1),(1,1),(2,1),(3,0),(4,1),(5,1),(6,1),(7,1),(8,1),(9,2)] (by kernel_rfl) (by kernel_rfl)<|xu rfl rfl (fun _=>Ub rfl) ?_;refine xu rfl rfl (fun _=>Yq rfl) ?_;obtain ⟨ap,ag,hm⟩:=bZ hm;refine xu rfl rfl (fun _=>Yu underlying35 sizeOf95 rfl rfl (Xa ag).1 (Xa ag).2.1 (aj.addr ag)) ?_;refine xW (fun _ hC=>(aj.gr (hC.bl ae)).atInt ag) ?_;refine xu rfl rfl (fun _=>Yq rfl) ?_;refine xu rfl rfl (fun _=>Yq rfl) ?_;obtain ⟨a6,hm⟩:=Z9 hm;refine xu (v:=(.int .u32 (Yc .u32 ac aa))) rfl rfl (fun _=>Zgg ac aa rfl rfl a6) ?_;refine xu (v:=(.int .u32 (Wh .u32 ap (Yc .u32 ac aa)))) rfl rfl (fun _=>Zso ap (Yc .u32 ac aa) rfl rfl) ?_;refine xu rfl rfl (fun _=>Yu underlying35 sizeOf95 rfl rfl (Xa ag).1 (Xa ag).2.1 (aj.addr ag)) ?_;refine xe rfl rfl ?_;intro bf hC0;have hC:=hC0.bl ae;obtain ⟨am,aq,hm⟩:=bZ hm;have aq:am=ak.set (aA (af:Int)) (Wh .u32 ap (Yc .u32 ac aa)):=(Option.some.inj aq).symm;refine Wl (x1:=Wh .u32 ap (Yc .u32 ac aa)) (aj.gr hC) ag ?_;intro bg a7 a8 an;rw [← aq] at an;refine .ld (d:=5) (v:=(.slice ah am.length ai)) (congrArg (fun n=>Value.slice ah n ai) (show ak.length=am.length by rw [aq,nS])) ?_;refine Zk<|xk ae<|Yz ?_;replace ab:=(ab.grow hC).kp a7 a8;intro bh hC;replace hC:=hC.bl ae;refine go ?_;obtain ⟨a9,hm⟩:=Z9 hm;refine lV (.int .u64 (Yc .u64 (u64.wrap ac) aa)) (Zgg (u64.wrap ac) aa rfl rfl a9)<|lV (.int .u64 (Y1 .u64 (Yc .u64 (u64.wrap ac) aa) 32)) (Qw (Yc .u64 (u64.wrap ac) aa) 32 rfl rfl (by decide))<|go ?_;obtain ⟨bi,aw,hm⟩:=bZ hm;replace an:=an.gr hC;refine lI aw (an.addr aw) ?_;obtain ⟨ax,ar,hm⟩:=bZ hm;have ar:ax=am.set (aA (i64.wrap ((af:Int)+1))) (u32.wrap (Y1 .u64 (Yc .u64 (u64.wrap ac) aa) 32)):=(Option.some.inj ar).symm;refine Wl (x1:=u32.wrap (Y1 .u64 (Yc .u64 (u64.wrap ac) aa) 32)) an aw ?_;intro bj ba bb az;rw [← ar] at az;refine .ld (d:=5) (v:=(.slice ah ax.length ai)) (congrArg (fun n=>Value.slice ah n ai) (show am.length=ax.length by rw [ar,nS])) ?_;refine go ?_;replace ab:=(ab.grow hC).kp ba bb
  exact ⟨a3.length,by simp,rfl,⟨_,_,_,_,_,_,rfl,a4,hm,ab,az,(Yl (congrArg (Value.int .i64) (Yi (aE a5 (h0.ks ab).1.1))) rfl)⟩⟩
def Zk5 (aa:List Int) (kk_L1:(List Int→Option R2)) (ab:Bool):Option R2:=
  if ab=true then (Z4 ((0:Int)≤(i64.wrap ((aa.length:Int) - 1))∧(i64.wrap ((aa.length:Int) - 1))≤(aa.length:Int)) (kk_L1 (aa.take (aA (i64.wrap ((aa.length:Int) - 1)))))) else (some aa)
def Zcf (N:Nat):Nat→R2→Option R2
  | 0,_=>none
  | ab+1,aa=>if (decide (0<(aa.length:Int)))=true then ((Zl aa (i64.wrap ((aa.length:Int) - 1))).bind fun ac=>Zk5 aa (Zcf N ab) (decide (ac=0))) else (Zk5 aa (Zcf N ab) false)
termination_by structural x=>x
def Zfl (N:Nat) (aa:List Int):Option R2:=
  Zcf N N aa
theorem Zum {N ap:Nat} {a0:Option Addr} {col:Zd} {w0:World} {ag r:R2} (qc0:Nat) (hm:Zfl N ag=some r) (hd:U4 [qc0]=true) (h0:Zb rU 95 qc0 col w0 a0 ap ag):
    Calls prog 142 #[.slice a0 ag.length ap] w0 (fun e w'=>∃ (col':Zd) (ra1:Option Addr) (rc2:Nat),e= .returned ((.slice ra1 r.length rc2))∧Zt (pS [qc0]) col w0 col' w'∧Zb rU 95 qc0 col' w' ra1 rc2 r):=by
 refine Xe 2 (m:=21) func142 rfl rfl rfl rfl rfl ?_;rw [Zfl.eq_1] at hm;have ab:=St.startL (l:=[qc0]) rfl col w0;refine go ?_;refine Zv [1000000] (fun n f ah=>∃ ai ad ae aa af,af=n∧Zcf N af aa=some r∧St w0 (Xh [qc0] col) ai ah∧Zb rU 95 440 ai ah ad ae aa∧[0].map f=[.slice ad aa.length ae]) N ⟨_,_,_,_,_,rfl,hm,ab,h0.startL (T7 hd 0 rfl) (T6 hd 0 rfl),rfl⟩ ?_;clear hm;intro n f ah hI;obtain ⟨ai,ad,ae,aa,af,hn,hm,ab,ac,hs⟩:=hI;subst hn;refine .lL [0] hs ?_
 cases af with
 | zero=>rw [Zcf.eq_1] at hm;cases hm
 | succ af=>
  rw [Zcf.eq_2] at hm;refine Zz<|Zz ?_;refine Wp.cutK [0,1000000] (fun f aj=>∃ ak al,Zk5 aa (Zcf N af) al=some r∧St w0 (Xh [qc0] col) ak aj∧Zb rU 95 440 ak aj ad ae aa∧[14].map f=[.bool al]) ?_ ?_
  ·intro f aj hJ;obtain ⟨ak,al,hm,ab,ac,hs⟩:=hJ;rw [Zk5.eq_1] at hm;refine .lL [14] hs ?_;refine Zo hm (fun hb hm=>go ?_) fun hb hm=>go ?_
   ·obtain ⟨am,hm⟩:=Z9 hm;refine lv (v:=.slice ad (aA (i64.wrap ((aa.length:Int) - 1))) ae) rfl rfl (Zjm underlying35 sizeOf95 rfl rfl am.1 (by have:=ac.lecap;have:=am.2;omega))<|.ld (d:=19) (v:=(.slice ad ((aa.take (aA (i64.wrap ((aa.length:Int) - 1)))).length) ae)) (congrArg (fun n=>Value.slice ad n ae) (eR (show (aA (i64.wrap ((aa.length:Int) - 1)))≤aa.length by have:=am.2;omega)).symm) ?_;refine go ?_;exact ⟨af,by omega,rfl,⟨_,_,_,_,_,rfl,hm,ab,(ac.take (aA (i64.wrap ((aa.length:Int) - 1)))),rfl⟩⟩
   cases hm;exact ⟨rfl,_,_,_,rfl,ab.finL rfl (cm [(440,qc0)]),ab.foL ac⟩
  refine go ?_;refine Yr hm (fun an hm=>go ?_) fun an hm=>go ?_
  ·obtain ⟨aq,ao,hm⟩:=bZ hm;refine lI ao (ac.addr ao) ?_;refine go ?_;refine lW (ac.atInt ao)<|go ?_;refine lV (.bool (decide (aq=0))) (Ye (congrArg Value.bool an) rfl)<|Zk ?_;exact ⟨rfl,_,_,hm,ab,ac,rfl⟩
  refine lV (.bool false) (Yd (congrArg Value.bool an) rfl)<|Zk ?_;exact ⟨rfl,_,_,hm,ab,ac,rfl⟩
def Zk1 (aa:Int) (ab:List Int):Option R6:=
  some (u32.wrap aa,ab)
def Zdt (j0:Nat) (n0:Nat) (ab:List Int) (ae:Int):List Int→Nat→R2→Int→Option R6
  | [],aa,ac,ad=>Z4 (0≤(ab.length:Int)∧(ab.length:Int)<(n0:Int)) ((Zl ac ((j0:Int)+(ab.length:Int))).bind fun ah=>Z4 (0≤(ab.length:Int)∧(ab.length:Int)<(n0:Int)) ((Zl ac ((j0:Int)+(ab.length:Int))).bind fun al=>(some (ac.set (aA ((j0:Int)+(ab.length:Int))) (u32.wrap (ah+(u32.wrap ad))))).bind fun ai=>Zk1 (u64.wrap ((u64.wrap (ae - 1)) - 1)) ai))
  | af :: aj,aa,ac,ad=>Z4 (0≤(aa:Int)∧(aa:Int)<(n0:Int)) ((Zl ac ((j0:Int)+(aa:Int))).bind fun ag=>Z4 (0≤(aa:Int)∧(aa:Int)<(n0:Int)) ((Zl ac ((j0:Int)+(aa:Int))).bind fun am=>(some (ac.set (aA ((j0:Int)+(aa:Int))) (u32.wrap (u64.wrap (ad+(u64.wrap ((u64.wrap ag)+(u64.wrap af)))))))).bind fun ak=>(Zdt j0 n0 ab ae aj) (aa+1) ak (Y1 .u64 (u64.wrap (ad+(u64.wrap ((u64.wrap ag)+(u64.wrap af))))) 32)))
termination_by structural x=>x
def Znu (aa:Nat) (kk_L2:(Nat→R2→Int→Int→Option R6)) (ab:List Int) (ac:Int) (ad:Int):Option R6:=
  kk_L2 (aa+1) ab ac ad
def Zk2 (j0:Nat) (n0:Nat) (ac:Int) (ab:List Int) (af:Int) (aa:Nat) (ad:Int) (kk_L2:(Nat→R2→Int→Int→Option R6)) (ae:Int) (ag:Int):Option R6:=
  Z4 (0≤(aa:Int)∧(aa:Int)<(n0:Int)) ((Zl ab ((j0:Int)+(aa:Int))).bind fun ah=>Z4 (0≤(aa:Int)∧(aa:Int)<(n0:Int)) ((Zl ab ((j0:Int)+(aa:Int))).bind fun aj=>(some (ab.set (aA ((j0:Int)+(aa:Int))) (u32.wrap (ah - (u32.wrap (u64.wrap ((Sa .u64 (u64.wrap (ad+(u64.wrap ((u64.wrap (ac - 1)) * (u64.wrap ae))))) 4294967295)+af))))))).bind fun ai=>Znu aa kk_L2 ai ag (Y1 .u64 (u64.wrap (ad+(u64.wrap ((u64.wrap (ac - 1)) * (u64.wrap ae))))) 32)))
def Q9 (j0:Nat) (n0:Nat) (aa:List Int) (ac:Int):List Int→Nat→R2→Int→Int→Option R6
  | [],ad,ab,ae,af=>Z4 (0≤(aa.length:Int)∧(aa.length:Int)<(n0:Int)) ((Zl ab ((j0:Int)+(aa.length:Int))).bind fun aj=>Z4 (0≤(aa.length:Int)∧(aa.length:Int)<(n0:Int)) ((Zl ab ((j0:Int)+(aa.length:Int))).bind fun ak=>Z4 (0≤(aa.length:Int)∧(aa.length:Int)<(n0:Int)) ((Zl ab ((j0:Int)+(aa.length:Int))).bind fun am=>(some (ab.set (aA ((j0:Int)+(aa.length:Int))) (u32.wrap (ak - (u32.wrap (u64.wrap (af+ae))))))).bind fun ah=>if (decide ((u64.wrap aj)<(u64.wrap (af+ae))))=true then (Zdt j0 n0 aa ac aa 0 ah 0) else (Zk1 (u64.wrap (ac - 1)) ah))))
  | ag :: ai,ad,ab,ae,af=>Z4 (0≤(ad:Int)∧(ad:Int)<(n0:Int)) ((Zl ab ((j0:Int)+(ad:Int))).bind fun al=>if (decide ((u64.wrap al)<(u64.wrap ((Sa .u64 (u64.wrap (af+(u64.wrap ((u64.wrap (ac - 1)) * (u64.wrap ag))))) 4294967295)+ae))))=true then (Zk2 j0 n0 ac ab ae ad af (Q9 j0 n0 aa ac ai) ag 1) else (Zk2 j0 n0 ac ab ae ad af (Q9 j0 n0 aa ac ai) ag 0))
termination_by structural x=>x
def Zk0 (j0:Nat) (n0:Nat) (ae:List Int) (aa:List Int) (ab:Int) (ac:Int) (kk_L1:(Int→Int→Option R6)):Option R6:=
  (Zl aa (i64.wrap ((aa.length:Int) - 1))).bind fun ad=>if (decide (4294967295<(u64.wrap (ac+(u64.wrap ad)))))=true then (Q9 j0 n0 aa ab aa 0 ae 0 0) else (kk_L1 (u64.wrap (ab - 1)) (u64.wrap (ac+(u64.wrap ad))))
def Zcd (aa:Int) (ab:List Int):Option R6:=
  some (u32.wrap aa,ab)
def Sv (j0:Nat) (n0:Nat) (ab:List Int) (ae:Int):List Int→Nat→R2→Int→Option R6
  | [],aa,ac,ad=>Z4 (0≤(ab.length:Int)∧(ab.length:Int)<(n0:Int)) ((Zl ac ((j0:Int)+(ab.length:Int))).bind fun ah=>Z4 (0≤(ab.length:Int)∧(ab.length:Int)<(n0:Int)) ((Zl ac ((j0:Int)+(ab.length:Int))).bind fun al=>(some (ac.set (aA ((j0:Int)+(ab.length:Int))) (u32.wrap (ah+(u32.wrap ad))))).bind fun ai=>Zcd (u64.wrap (ae - 1)) ai))
  | af :: aj,aa,ac,ad=>Z4 (0≤(aa:Int)∧(aa:Int)<(n0:Int)) ((Zl ac ((j0:Int)+(aa:Int))).bind fun ag=>Z4 (0≤(aa:Int)∧(aa:Int)<(n0:Int)) ((Zl ac ((j0:Int)+(aa:Int))).bind fun am=>(some (ac.set (aA ((j0:Int)+(aa:Int))) (u32.wrap (u64.wrap (ad+(u64.wrap ((u64.wrap ag)+(u64.wrap af)))))))).bind fun ak=>(Sv j0 n0 ab ae aj) (aa+1) ak (Y1 .u64 (u64.wrap (ad+(u64.wrap ((u64.wrap ag)+(u64.wrap af))))) 32)))
termination_by structural x=>x
def Zk3 (aa:Nat) (kk_L4:(Nat→R2→Int→Int→Option R6)) (ab:List Int) (ac:Int) (ad:Int):Option R6:=
  kk_L4 (aa+1) ab ac ad
def Zfj (j0:Nat) (n0:Nat) (ac:Int) (ab:List Int) (af:Int) (aa:Nat) (ad:Int) (kk_L4:(Nat→R2→Int→Int→Option R6)) (ae:Int) (ag:Int):Option R6:=
  Z4 (0≤(aa:Int)∧(aa:Int)<(n0:Int)) ((Zl ab ((j0:Int)+(aa:Int))).bind fun ah=>Z4 (0≤(aa:Int)∧(aa:Int)<(n0:Int)) ((Zl ab ((j0:Int)+(aa:Int))).bind fun aj=>(some (ab.set (aA ((j0:Int)+(aa:Int))) (u32.wrap (ah - (u32.wrap (u64.wrap ((Sa .u64 (u64.wrap (ad+(u64.wrap (ac * (u64.wrap ae))))) 4294967295)+af))))))).bind fun ai=>Zk3 aa kk_L4 ai ag (Y1 .u64 (u64.wrap (ad+(u64.wrap (ac * (u64.wrap ae))))) 32)))
def Ut (j0:Nat) (n0:Nat) (aa:List Int) (ac:Int):List Int→Nat→R2→Int→Int→Option R6
  | [],ad,ab,ae,af=>Z4 (0≤(aa.length:Int)∧(aa.length:Int)<(n0:Int)) ((Zl ab ((j0:Int)+(aa.length:Int))).bind fun aj=>Z4 (0≤(aa.length:Int)∧(aa.length:Int)<(n0:Int)) ((Zl ab ((j0:Int)+(aa.length:Int))).bind fun ak=>Z4 (0≤(aa.length:Int)∧(aa.length:Int)<(n0:Int)) ((Zl ab ((j0:Int)+(aa.length:Int))).bind fun am=>(some (ab.set (aA ((j0:Int)+(aa.length:Int))) (u32.wrap (ak - (u32.wrap (u64.wrap (af+ae))))))).bind fun ah=>if (decide ((u64.wrap aj)<(u64.wrap (af+ae))))=true then (Sv j0 n0 aa ac aa 0 ah 0) else (Zcd ac ah))))
  | ag :: ai,ad,ab,ae,af=>Z4 (0≤(ad:Int)∧(ad:Int)<(n0:Int)) ((Zl ab ((j0:Int)+(ad:Int))).bind fun al=>if (decide ((u64.wrap al)<(u64.wrap ((Sa .u64 (u64.wrap (af+(u64.wrap (ac * (u64.wrap ag))))) 4294967295)+ae))))=true then (Zfj j0 n0 ac ab ae ad af (Ut j0 n0 aa ac ai) ag 1) else (Zfj j0 n0 ac ab ae ad af (Ut j0 n0 aa ac ai) ag 0))
termination_by structural x=>x
def Zfi (j0:Nat) (n0:Nat) (ab:List Int) (aa:List Int) (ac:Int) (ad:Int) (kk_L1:(Int→Int→Option R6)) (ae:Bool):Option R6:=
  if ae=true then (Zk0 j0 n0 ab aa ac ad kk_L1) else (Ut j0 n0 aa ac aa 0 ab 0 0)
def Qk (N:Nat) (j0:Nat) (n0:Nat) (ab:List Int) (aa:List Int):Nat→Int→Int→Option R6
  | 0,_,_=>none
  | ae+1,ac,ad=>if (decide (4294967295<ac))=true then (Zfi j0 n0 ab aa ac ad (Qk N j0 n0 ab aa ae) true) else (if (decide (ad≤4294967295))=true then ((Zl aa (i64.wrap ((aa.length:Int) - 2))).bind fun af=>Z4 (0≤(i64.wrap ((aa.length:Int) - 2))∧(i64.wrap ((aa.length:Int) - 2))<(n0:Int)) ((Zl ab ((j0:Int)+(i64.wrap ((aa.length:Int) - 2)))).bind fun ag=>Zfi j0 n0 ab aa ac ad (Qk N j0 n0 ab aa ae) (decide ((Wh .u64 (Yc .u64 ad 32) (u64.wrap ag))<(u64.wrap (ac * (u64.wrap af))))))) else (Zfi j0 n0 ab aa ac ad (Qk N j0 n0 ab aa ae) false))
termination_by structural x=>x
def Zid (N:Nat) (j0:Nat) (n0:Nat) (ac:List Int) (aa:List Int):Option R6:=
  Z4 (0≤(aa.length:Int)∧(aa.length:Int)<(n0:Int)) ((Zl ac ((j0:Int)+(aa.length:Int))).bind fun ad=>Z4 (0≤(i64.wrap ((aa.length:Int) - 1))∧(i64.wrap ((aa.length:Int) - 1))<(n0:Int)) ((Zl ac ((j0:Int)+(i64.wrap ((aa.length:Int) - 1)))).bind fun ae=>(Zl aa (i64.wrap ((aa.length:Int) - 1))).bind fun ab=>Z4 ((u64.wrap ab)≠0) (Z4 ((u64.wrap ab)≠0) (Qk N j0 n0 ac aa N (u64.wrap (aZ (Wh .u64 (Yc .u64 (u64.wrap ad) 32) (u64.wrap ae)) (u64.wrap ab))) (bM (Wh .u64 (Yc .u64 (u64.wrap ad) 32) (u64.wrap ae)) (u64.wrap ab))))))
theorem Z4z {N ae j0 n0 cp0 de:Nat} {a0 a1:Option Addr} {col:Zd} {w0:World} {ac ab:R2} {r:R6} (qc0:Nat) (hm:Zid N j0 n0 ac ab=some r) (hd:U4 [qc0]=true) (h0:Zb rU 95 qc0 col w0 a0 ae ac) (h1:Sl rU col w0 a1 de ab):
    Calls prog 192 #[.slice (a0.map (·.add (j0 * 1))) n0 cp0,.slice a1 ab.length de] w0 (fun e w'=>∃ (col':Zd),e= .returned ((.int .u32 r.1))∧Zt (pS [qc0]) col w0 col' w'∧Zb rU 95 qc0 col' w' a0 ae r.2∧r.2.length=ac.length):=by
 refine Xe 4 (m:=178) func192 rfl rfl rfl rfl rfl ?_;rw [Zid.eq_1] at hm;have aa:=St.startL (l:=[qc0]) rfl col w0;replace h0:=h0.startL (T7 hd 0 rfl) (T6 hd 0 rfl);refine go ?_;refine Vs (col:=(Xh [qc0] col)) (by kernel_rfl) (by kernel_rfl)<|go ?_;obtain ⟨df,hm⟩:=Z9 hm;obtain ⟨a7,dg,hm⟩:=bZ hm;refine qv (v:=(Ym a0 (aA ((j0:Int)+(ab.length:Int)) * 1))) rfl (fun _ hC=>Vq underlying35 sizeOf95 rfl rfl df.1 df.2 (h0.addr dg)) ?_;refine qW (fun _ hC=>(h0.gr (hC.bl (Xh [qc0] col))).atInt dg) ?_;refine go ?_;refine qv (v:=(.int .u64 (Yc .u64 (u64.wrap a7) 32))) rfl (fun _ hC=>Zgg (u64.wrap a7) 32 rfl rfl (by decide)) ?_;refine go ?_;obtain ⟨dh,hm⟩:=Z9 hm;obtain ⟨bf,di,hm⟩:=bZ hm;refine qv (v:=(Ym a0 (aA ((j0:Int)+(i64.wrap ((ab.length:Int) - 1))) * 1))) rfl (fun _ hC=>Vq underlying35 sizeOf95 rfl rfl dh.1 dh.2 (h0.addr di)) ?_;refine qW (fun _ hC=>(h0.gr (hC.bl (Xh [qc0] col))).atInt di) ?_;refine go ?_;refine Wn ?_;intro gp hC;replace h1:=h1.keep (Xw.startL [qc0] col w0);replace hC:=hC.bl (Xh [qc0] col);refine go ?_;obtain ⟨bg,a8,hm⟩:=bZ hm;replace aa:=aa.grow hC;refine lI a8 ((h1.ks aa).addr a8)<|lW ((h1.ks aa).atInt a8) ?_;refine go ?_;obtain ⟨fd,hm⟩:=Z9 hm;refine lV (.int .u64 (u64.wrap (aZ (Wh .u64 (Yc .u64 (u64.wrap a7) 32) (u64.wrap bf)) (u64.wrap bg)))) (Uc (Wh .u64 (Yc .u64 (u64.wrap a7) 32) (u64.wrap bf)) (u64.wrap bg) rfl rfl fd)<|go ?_;refine lI a8 ((h1.ks aa).addr a8)<|lW ((h1.ks aa).atInt a8) ?_;refine go ?_;obtain ⟨fe,hm⟩:=Z9 hm;refine lV (.int .u64 (bM (Wh .u64 (Yc .u64 (u64.wrap a7) 32) (u64.wrap bf)) (u64.wrap bg))) (Qv (Wh .u64 (Yc .u64 (u64.wrap a7) 32) (u64.wrap bf)) (u64.wrap bg) rfl rfl fe)<|go ?_;replace h0:=h0.gr hC;refine Zv [0,1,5,1000000] (fun n f bx=>∃ ao ad ap a2,a2=n∧Qk N j0 n0 ac ab a2 ad ap=some r∧St w0 (Xh [qc0] col) ao bx∧Zb rU 95 440 ao bx a0 ae ac∧[7,8].map f=[.int .u64 ad,.int .u64 ap]) N ⟨_,_,_,_,rfl,hm,aa,h0,rfl⟩ ?_;clear hm;intro n f bx hI;obtain ⟨ao,ad,ap,a2,hn,hm,aa,h0,hs⟩:=hI;subst hn;refine .lL [7,8] hs ?_
 cases a2 with
 | zero=>rw [Qk.eq_1] at hm;cases hm
 | succ a2=>
  rw [Qk.eq_2] at hm;refine Zz ?_;refine Wp.cutK [0,1,5,7,8,1000000] (fun f bz=>∃ b0,Zk0 j0 n0 ac ab ad ap (Qk N j0 n0 ac ab a2)=some r∧St w0 (Xh [qc0] col) b0 bz∧Zb rU 95 440 b0 bz a0 ae ac) ?_ ?_
  ·intro f bz hJ;obtain ⟨b0,hm,aa,h0⟩:=hJ;rw [Zk0.eq_1] at hm;refine go ?_;obtain ⟨gs,b1,hm⟩:=bZ hm;refine lI b1 ((h1.ks aa).addr b1)<|lW ((h1.ks aa).atInt b1) ?_;refine go ?_;refine Zo hm (fun hb hm=>?_) fun hb hm=>?_
   ·refine Zpl (Z7r rfl (Zne ?_));refine go ?_;refine Zv [0,1,5,7,87,88,1000000] (fun n f b2=>∃ b3 am a3 ai aj a9,n=a9.length∧ab.drop ai=a9∧Q9 j0 n0 ab ad a9 ai am a3 aj=some r∧St w0 (Xh [qc0] col) b3 b2∧Zb rU 95 440 b3 b2 a0 ae am∧am.length=ac.length∧am.length=ac.length∧[89,10,9].map f=[.int .i64 ai,.int .u64 a3,.int .u64 aj]) ab.length ⟨_,_,0,0,0,_,rfl,rfl,hm,aa,h0,rfl,rfl,rfl⟩ ?_;clear hm;intro n f b2 hI;obtain ⟨b3,am,a3,ai,aj,a9,hn,hl,hm,aa,af,dj,gt,hs⟩:=hI;subst hn;refine .lL [89,10,9] hs ?_
    cases a9 with
    | nil=>
     have hk:¬ ((ai:Int)<(ab.length:Int)):=by have:=aG.1 hl;omega
     have hkb:=decide_eq_false hk;rw [Q9.eq_1] at hm;refine go ?_;refine X0 (congrArg Value.bool hkb)<|go ?_;obtain ⟨dl,hm⟩:=Z9 hm;obtain ⟨gu,dm,hm⟩:=bZ hm;refine lV (Ym a0 (aA ((j0:Int)+(ab.length:Int)) * 1)) (Vq underlying35 sizeOf95 rfl rfl dl.1 dl.2 (af.addr dm))<|lW (af.atInt dm)<|go ?_;obtain ⟨dn,hm⟩:=Z9 hm;obtain ⟨dp,dq,hm⟩:=bZ hm;refine lV (Ym a0 (aA ((j0:Int)+(ab.length:Int)) * 1)) (Vq underlying35 sizeOf95 rfl rfl dn.1 dn.2 (af.addr dq))<|lW (af.atInt dq)<|go ?_;obtain ⟨dr,hm⟩:=Z9 hm;obtain ⟨gv,ds,hm⟩:=bZ hm;refine lV (Ym a0 (aA ((j0:Int)+(ab.length:Int)) * 1)) (Vq underlying35 sizeOf95 rfl rfl dr.1 dr.2 (af.addr ds)) ?_;obtain ⟨b4,bh,hm⟩:=bZ hm;have bh:b4=am.set (aA ((j0:Int)+(ab.length:Int))) (u32.wrap (dp - (u32.wrap (u64.wrap (aj+a3))))):=(Option.some.inj bh).symm;refine Wl (x1:=u32.wrap (dp - (u32.wrap (u64.wrap (aj+a3))))) af ds ?_;intro gw ff fg b5;rw [← bh] at b5;have b6:b4.length=ac.length:=(show am.length=b4.length by rw [bh,nS]).symm.trans dj;refine Zk<|Zz ?_;replace aa:=aa.kp ff fg;refine Wp.cutK [1000000] (fun f b7=>∃ b8 b9 bi,Zk1 b9 bi=some r∧St w0 (Xh [qc0] col) b8 b7∧Zb rU 95 440 b8 b7 a0 ae bi∧bi.length=ac.length∧[7].map f=[.int .u64 b9]) ?_ ?_
     ·intro f b7 hJ;obtain ⟨b8,b9,bi,hm,aa,fh,fi,hs⟩:=hJ;rw [Zk1.eq_1] at hm;refine .lL [7] hs<|go ?_;cases hm;exact ⟨rfl,_,rfl,aa.finL rfl (cm [(440,qc0)]),aa.foL fh,fi⟩
     refine go ?_;refine Zo hm (fun hb hm=>go ?_) fun hb hm=>?_
     ·refine Zv [0,143,144,5,7,1000000] (fun n f ca=>∃ cb aq ar au ba,n=ba.length∧ab.drop ar=ba∧Zdt j0 n0 ab ad ba ar aq au=some r∧St w0 (Xh [qc0] col) cb ca∧Zb rU 95 440 cb ca a0 ae aq∧aq.length=ac.length∧aq.length=ac.length∧[145,9].map f=[.int .i64 ar,.int .u64 au]) ab.length ⟨_,_,0,0,_,rfl,rfl,hm,aa,b5,b6,b6,rfl⟩ ?_;clear hm;intro n f ca hI;obtain ⟨cb,aq,ar,au,ba,hn,hl,hm,aa,a4,fj,fk,hs⟩:=hI;subst hn;refine .lL [145,9] hs ?_
      cases ba with
      | nil=>
       have hk:¬ ((ar:Int)<(ab.length:Int)):=by have:=aG.1 hl;omega
       have hkb:=decide_eq_false hk;rw [Zdt.eq_1] at hm;refine go ?_;refine X0 (congrArg Value.bool hkb)<|go ?_;obtain ⟨dt,hm⟩:=Z9 hm;obtain ⟨du,dv,hm⟩:=bZ hm;refine lV (Ym a0 (aA ((j0:Int)+(ab.length:Int)) * 1)) (Vq underlying35 sizeOf95 rfl rfl dt.1 dt.2 (a4.addr dv))<|lW (a4.atInt dv)<|go ?_;obtain ⟨dw,hm⟩:=Z9 hm;obtain ⟨gx,dx,hm⟩:=bZ hm;refine lV (Ym a0 (aA ((j0:Int)+(ab.length:Int)) * 1)) (Vq underlying35 sizeOf95 rfl rfl dw.1 dw.2 (a4.addr dx)) ?_;obtain ⟨cc,bj,hm⟩:=bZ hm;have bj:cc=aq.set (aA ((j0:Int)+(ab.length:Int))) (u32.wrap (du+(u32.wrap au))):=(Option.some.inj bj).symm;refine Wl (x1:=u32.wrap (du+(u32.wrap au))) a4 dx ?_;intro gy fl fm dy;rw [← bj] at dy;have fn:cc.length=ac.length:=(show aq.length=cc.length by rw [bj,nS]).symm.trans fk;refine Zk ?_;replace aa:=aa.kp fl fm;exact ⟨rfl,_,_,_,hm,aa,dy,fn,rfl⟩
      | cons bk fp=>
       obtain ⟨ag,fq,fr⟩:=Yf hl;have hk:(ar:Int)<(ab.length:Int):=by omega
       have hkb:=decide_eq_true hk;rw [Zdt.eq_2] at hm;refine go ?_;refine X1 (congrArg Value.bool hkb)<|go ?_;refine lI ag ((h1.ks aa).addr ag)<|lW ((h1.ks aa).atInt ag) ?_;refine go ?_;obtain ⟨dz,hm⟩:=Z9 hm;obtain ⟨bm,d0,hm⟩:=bZ hm;refine lV (Ym a0 (aA ((j0:Int)+(ar:Int)) * 1)) (Vq underlying35 sizeOf95 rfl rfl dz.1 dz.2 (a4.addr d0))<|lW (a4.atInt d0)<|go ?_;obtain ⟨d1,hm⟩:=Z9 hm;obtain ⟨gz,d2,hm⟩:=bZ hm;refine lV (Ym a0 (aA ((j0:Int)+(ar:Int)) * 1)) (Vq underlying35 sizeOf95 rfl rfl d1.1 d1.2 (a4.addr d2)) ?_;obtain ⟨cd,bn,hm⟩:=bZ hm;have bn:cd=aq.set (aA ((j0:Int)+(ar:Int))) (u32.wrap (u64.wrap (au+(u64.wrap ((u64.wrap bm)+(u64.wrap bk)))))):=(Option.some.inj bn).symm;refine Wl (x1:=u32.wrap (u64.wrap (au+(u64.wrap ((u64.wrap bm)+(u64.wrap bk)))))) a4 d2 ?_;intro g0 ft fu d3;rw [← bn] at d3;have d4:cd.length=ac.length:=(show aq.length=cd.length by rw [bn,nS]).symm.trans fj;refine go ?_;refine lV (.int .u64 (Y1 .u64 (u64.wrap (au+(u64.wrap ((u64.wrap bm)+(u64.wrap bk))))) 32)) (Qw (u64.wrap (au+(u64.wrap ((u64.wrap bm)+(u64.wrap bk))))) 32 rfl rfl (by decide))<|go ?_;replace aa:=aa.kp ft fu;exact ⟨fp.length,by simp,rfl,⟨_,_,_,_,_,rfl,fq,hm,aa,d3,d4,d4,(Yl (congrArg (Value.int .i64) (Yi (aE fr (h1.ks aa).1.1))) rfl)⟩⟩
     refine Yj ?_;exact ⟨rfl,_,_,_,hm,aa,b5,b6,rfl⟩
    | cons av ce=>
     obtain ⟨ag,fv,fw⟩:=Yf hl;have hk:(ai:Int)<(ab.length:Int):=by omega
     have hkb:=decide_eq_true hk;rw [Q9.eq_2] at hm;refine go ?_;refine X1 (congrArg Value.bool hkb)<|Yj<|Zz ?_;refine Wp.cutK [0,1,5,7,87,88,89,1000000] (fun f cf=>∃ cg bb ch ci,Znu ai (Q9 j0 n0 ab ad ce) bb ch ci=some r∧St w0 (Xh [qc0] col) cg cf∧Zb rU 95 440 cg cf a0 ae bb∧bb.length=ac.length∧bb.length=ac.length∧[10,9].map f=[.int .u64 ch,.int .u64 ci]) ?_ ?_
     ·intro f cf hJ;obtain ⟨cg,bb,ch,ci,hm,aa,fx,fy,fz,hs⟩:=hJ;rw [Znu.eq_1] at hm;refine .lL [10,9] hs<|go ?_;exact ⟨ce.length,by simp,rfl,⟨_,_,_,_,_,_,rfl,fv,hm,aa,fx,fy,fz,(Yl (congrArg (Value.int .i64) (Yi (aE fw (h1.ks aa).1.1))) rfl)⟩⟩
     refine go ?_;refine lI ag ((h1.ks aa).addr ag)<|lW ((h1.ks aa).atInt ag)<|Y6 rfl<|Y6 rfl<|Zk<|Zz<|Ve<|X4 rfl<|X4 rfl<|X4 rfl<|lV (.int .u64 (u64.wrap av)) (Zl1 av ⟨_,underlying95⟩ underlying149 rfl)<|lV _ (Zjk _ _ rfl rfl)<|lV _ (Qt _ _ rfl rfl)<|Y6 rfl<|Zk<|Zz<|Ve<|X4 rfl<|lV (.int .u64 (Sa .u64 (u64.wrap (aj+(u64.wrap ((u64.wrap (ad - 1)) * (u64.wrap av))))) 4294967295)) (Zoy (u64.wrap (aj+(u64.wrap ((u64.wrap (ad - 1)) * (u64.wrap av))))) 4294967295 rfl rfl)<|X4 rfl<|lV _ (Qt _ _ rfl rfl)<|Y6 rfl<|Zk<|Zz<|Ve<|Y6 rfl<|Zk<|Zz ?_;refine Wp.cutK [0,1,11,13,5,7,87,88,89,9,1000000] (fun f cj=>∃ ck cl,Zk2 j0 n0 ad am a3 ai aj (Q9 j0 n0 ab ad ce) av cl=some r∧St w0 (Xh [qc0] col) ck cj∧Zb rU 95 440 ck cj a0 ae am∧[10].map f=[.int .u64 cl]) ?_ ?_
     ·intro f cj hJ;obtain ⟨ck,cl,hm,aa,af,hs⟩:=hJ;rw [Zk2.eq_1] at hm;refine .lL [10] hs<|go ?_;obtain ⟨d5,hm⟩:=Z9 hm;obtain ⟨d6,d7,hm⟩:=bZ hm;refine lV (Ym a0 (aA ((j0:Int)+(ai:Int)) * 1)) (Vq underlying35 sizeOf95 rfl rfl d5.1 d5.2 (af.addr d7))<|lW (af.atInt d7)<|go ?_;obtain ⟨d8,hm⟩:=Z9 hm;obtain ⟨g1,d9,hm⟩:=bZ hm;refine lV (Ym a0 (aA ((j0:Int)+(ai:Int)) * 1)) (Vq underlying35 sizeOf95 rfl rfl d8.1 d8.2 (af.addr d9)) ?_;obtain ⟨cn,bo,hm⟩:=bZ hm;have bo:cn=am.set (aA ((j0:Int)+(ai:Int))) (u32.wrap (d6 - (u32.wrap (u64.wrap ((Sa .u64 (u64.wrap (aj+(u64.wrap ((u64.wrap (ad - 1)) * (u64.wrap av))))) 4294967295)+a3))))):=(Option.some.inj bo).symm;refine Wl (x1:=u32.wrap (d6 - (u32.wrap (u64.wrap ((Sa .u64 (u64.wrap (aj+(u64.wrap ((u64.wrap (ad - 1)) * (u64.wrap av))))) 4294967295)+a3))))) af d9 ?_;intro g2 f0 f1 ea;rw [← bo] at ea;have eb:cn.length=ac.length:=(show am.length=cn.length by rw [bo,nS]).symm.trans dj;refine go ?_;refine lV (.int .u64 (Y1 .u64 (u64.wrap (aj+(u64.wrap ((u64.wrap (ad - 1)) * (u64.wrap av))))) 32)) (Qw (u64.wrap (aj+(u64.wrap ((u64.wrap (ad - 1)) * (u64.wrap av))))) 32 rfl rfl (by decide))<|go ?_;replace aa:=aa.kp f0 f1;exact ⟨rfl,_,_,_,_,hm,aa,ea,eb,eb,rfl⟩
     refine go ?_;obtain ⟨ec,hm⟩:=Z9 hm;obtain ⟨g3,ed,hm⟩:=bZ hm;refine lV (Ym a0 (aA ((j0:Int)+(ai:Int)) * 1)) (Vq underlying35 sizeOf95 rfl rfl ec.1 ec.2 (af.addr ed))<|lW (af.atInt ed)<|go ?_;refine Zo hm (fun hb hm=>go ?_) fun hb hm=>?_
     ·exact ⟨rfl,_,1,hm,aa,af,rfl⟩
     refine Yj ?_;exact ⟨rfl,_,0,hm,aa,af,rfl⟩
   refine Yj ?_;exact ⟨a2,by omega,rfl,⟨_,_,_,_,rfl,hm,aa,h0,rfl⟩⟩
  refine Zz ?_;refine Wp.cutK [0,1,5,7,8,1000000] (fun f co=>∃ cp cq,Zfi j0 n0 ac ab ad ap (Qk N j0 n0 ac ab a2) cq=some r∧St w0 (Xh [qc0] col) cp co∧Zb rU 95 440 cp co a0 ae ac∧[74].map f=[.bool cq]) ?_ ?_
  ·intro f co hJ;obtain ⟨cp,cq,hm,aa,h0,hs⟩:=hJ;rw [Zfi.eq_1] at hm;refine .lL [74] hs ?_;refine Zo hm (fun hb hm=>?_) fun hb hm=>go ?_
   ·refine Yj ?_;exact ⟨rfl,_,hm,aa,h0⟩
   refine Zv [0,1,5,7,87,88,1000000] (fun n f cr=>∃ cs an a5 ak al bc,n=bc.length∧ab.drop ak=bc∧Ut j0 n0 ab ad bc ak an a5 al=some r∧St w0 (Xh [qc0] col) cs cr∧Zb rU 95 440 cs cr a0 ae an∧an.length=ac.length∧an.length=ac.length∧[89,10,9].map f=[.int .i64 ak,.int .u64 a5,.int .u64 al]) ab.length ⟨_,_,0,0,0,_,rfl,rfl,hm,aa,h0,rfl,rfl,rfl⟩ ?_;clear hm;intro n f cr hI;obtain ⟨cs,an,a5,ak,al,bc,hn,hl,hm,aa,ah,ee,g4,hs⟩:=hI;subst hn;refine .lL [89,10,9] hs ?_
   cases bc with
   | nil=>
    have hk:¬ ((ak:Int)<(ab.length:Int)):=by have:=aG.1 hl;omega
    have hkb:=decide_eq_false hk;rw [Ut.eq_1] at hm;refine go ?_;refine X0 (congrArg Value.bool hkb)<|go ?_;obtain ⟨ef,hm⟩:=Z9 hm;obtain ⟨g5,eg,hm⟩:=bZ hm;refine lV (Ym a0 (aA ((j0:Int)+(ab.length:Int)) * 1)) (Vq underlying35 sizeOf95 rfl rfl ef.1 ef.2 (ah.addr eg))<|lW (ah.atInt eg)<|go ?_;obtain ⟨eh,hm⟩:=Z9 hm;obtain ⟨ei,ej,hm⟩:=bZ hm;refine lV (Ym a0 (aA ((j0:Int)+(ab.length:Int)) * 1)) (Vq underlying35 sizeOf95 rfl rfl eh.1 eh.2 (ah.addr ej))<|lW (ah.atInt ej)<|go ?_;obtain ⟨ek,hm⟩:=Z9 hm;obtain ⟨g6,el,hm⟩:=bZ hm;refine lV (Ym a0 (aA ((j0:Int)+(ab.length:Int)) * 1)) (Vq underlying35 sizeOf95 rfl rfl ek.1 ek.2 (ah.addr el)) ?_;obtain ⟨ct,bp,hm⟩:=bZ hm;have bp:ct=an.set (aA ((j0:Int)+(ab.length:Int))) (u32.wrap (ei - (u32.wrap (u64.wrap (al+a5))))):=(Option.some.inj bp).symm;refine Wl (x1:=u32.wrap (ei - (u32.wrap (u64.wrap (al+a5))))) ah el ?_;intro g7 f2 f3 cu;rw [← bp] at cu;have cv:ct.length=ac.length:=(show an.length=ct.length by rw [bp,nS]).symm.trans ee;refine Zk<|Zz ?_;replace aa:=aa.kp f2 f3;refine Wp.cutK [1000000] (fun f cw=>∃ cx cy bq,Zcd cy bq=some r∧St w0 (Xh [qc0] col) cx cw∧Zb rU 95 440 cx cw a0 ae bq∧bq.length=ac.length∧[7].map f=[.int .u64 cy]) ?_ ?_
    ·intro f cw hJ;obtain ⟨cx,cy,bq,hm,aa,f4,f5,hs⟩:=hJ;rw [Zcd.eq_1] at hm;refine .lL [7] hs<|go ?_;cases hm;exact ⟨rfl,_,rfl,aa.finL rfl (cm [(440,qc0)]),aa.foL f4,f5⟩
    refine go ?_;refine Zo hm (fun hb hm=>go ?_) fun hb hm=>?_
    ·refine Zv [0,143,144,5,7,1000000] (fun n f cz=>∃ c0 aw ax ay bd,n=bd.length∧ab.drop ax=bd∧Sv j0 n0 ab ad bd ax aw ay=some r∧St w0 (Xh [qc0] col) c0 cz∧Zb rU 95 440 c0 cz a0 ae aw∧aw.length=ac.length∧aw.length=ac.length∧[145,9].map f=[.int .i64 ax,.int .u64 ay]) ab.length ⟨_,_,0,0,_,rfl,rfl,hm,aa,cu,cv,cv,rfl⟩ ?_;clear hm;intro n f cz hI;obtain ⟨c0,aw,ax,ay,bd,hn,hl,hm,aa,a6,f6,f7,hs⟩:=hI;subst hn;refine .lL [145,9] hs ?_
     cases bd with
     | nil=>
      have hk:¬ ((ax:Int)<(ab.length:Int)):=by have:=aG.1 hl;omega
      have hkb:=decide_eq_false hk;rw [Sv.eq_1] at hm;refine go ?_;refine X0 (congrArg Value.bool hkb)<|go ?_;obtain ⟨em,hm⟩:=Z9 hm;obtain ⟨en,eo,hm⟩:=bZ hm;refine lV (Ym a0 (aA ((j0:Int)+(ab.length:Int)) * 1)) (Vq underlying35 sizeOf95 rfl rfl em.1 em.2 (a6.addr eo))<|lW (a6.atInt eo)<|go ?_;obtain ⟨ep,hm⟩:=Z9 hm;obtain ⟨g8,eq,hm⟩:=bZ hm;refine lV (Ym a0 (aA ((j0:Int)+(ab.length:Int)) * 1)) (Vq underlying35 sizeOf95 rfl rfl ep.1 ep.2 (a6.addr eq)) ?_;obtain ⟨c1,br,hm⟩:=bZ hm;have br:c1=aw.set (aA ((j0:Int)+(ab.length:Int))) (u32.wrap (en+(u32.wrap ay))):=(Option.some.inj br).symm;refine Wl (x1:=u32.wrap (en+(u32.wrap ay))) a6 eq ?_;intro g9 f8 f9 er;rw [← br] at er;have ga:c1.length=ac.length:=(show aw.length=c1.length by rw [br,nS]).symm.trans f7;refine Zk ?_;replace aa:=aa.kp f8 f9;exact ⟨rfl,_,_,_,hm,aa,er,ga,rfl⟩
     | cons bs gb=>
      obtain ⟨ag,gc,gd⟩:=Yf hl;have hk:(ax:Int)<(ab.length:Int):=by omega
      have hkb:=decide_eq_true hk;rw [Sv.eq_2] at hm;refine go ?_;refine X1 (congrArg Value.bool hkb)<|go ?_;refine lI ag ((h1.ks aa).addr ag)<|lW ((h1.ks aa).atInt ag) ?_;refine go ?_;obtain ⟨es,hm⟩:=Z9 hm;obtain ⟨bt,et,hm⟩:=bZ hm;refine lV (Ym a0 (aA ((j0:Int)+(ax:Int)) * 1)) (Vq underlying35 sizeOf95 rfl rfl es.1 es.2 (a6.addr et))<|lW (a6.atInt et)<|go ?_;obtain ⟨eu,hm⟩:=Z9 hm;obtain ⟨ha,ew,hm⟩:=bZ hm;refine lV (Ym a0 (aA ((j0:Int)+(ax:Int)) * 1)) (Vq underlying35 sizeOf95 rfl rfl eu.1 eu.2 (a6.addr ew)) ?_;obtain ⟨c2,bu,hm⟩:=bZ hm;have bu:c2=aw.set (aA ((j0:Int)+(ax:Int))) (u32.wrap (u64.wrap (ay+(u64.wrap ((u64.wrap bt)+(u64.wrap bs)))))):=(Option.some.inj bu).symm;refine Wl (x1:=u32.wrap (u64.wrap (ay+(u64.wrap ((u64.wrap bt)+(u64.wrap bs)))))) a6 ew ?_;intro hc ge gf ey;rw [← bu] at ey;have ez:c2.length=ac.length:=(show aw.length=c2.length by rw [bu,nS]).symm.trans f6;refine go ?_;refine lV (.int .u64 (Y1 .u64 (u64.wrap (ay+(u64.wrap ((u64.wrap bt)+(u64.wrap bs))))) 32)) (Qw (u64.wrap (ay+(u64.wrap ((u64.wrap bt)+(u64.wrap bs))))) 32 rfl rfl (by decide))<|go ?_;replace aa:=aa.kp ge gf;exact ⟨gb.length,by simp,rfl,⟨_,_,_,_,_,rfl,gc,hm,aa,ey,ez,ez,(Yl (congrArg (Value.int .i64) (Yi (aE gd (h1.ks aa).1.1))) rfl)⟩⟩
    refine Yj ?_;exact ⟨rfl,_,_,_,hm,aa,cu,cv,rfl⟩
   | cons az c3=>
    obtain ⟨ag,gg,gh⟩:=Yf hl;have hk:(ak:Int)<(ab.length:Int):=by omega
    have hkb:=decide_eq_true hk;rw [Ut.eq_2] at hm;refine go ?_;refine X1 (congrArg Value.bool hkb)<|Yj<|Zz ?_;refine Wp.cutK [0,1,5,7,87,88,89,1000000] (fun f c4=>∃ c5 be c6 c7,Zk3 ak (Ut j0 n0 ab ad c3) be c6 c7=some r∧St w0 (Xh [qc0] col) c5 c4∧Zb rU 95 440 c5 c4 a0 ae be∧be.length=ac.length∧be.length=ac.length∧[10,9].map f=[.int .u64 c6,.int .u64 c7]) ?_ ?_
    ·intro f c4 hJ;obtain ⟨c5,be,c6,c7,hm,aa,gi,gj,gk,hs⟩:=hJ;rw [Zk3.eq_1] at hm;refine .lL [10,9] hs<|go ?_;exact ⟨c3.length,by simp,rfl,⟨_,_,_,_,_,_,rfl,gg,hm,aa,gi,gj,gk,(Yl (congrArg (Value.int .i64) (Yi (aE gh (h1.ks aa).1.1))) rfl)⟩⟩
    refine go ?_;refine lI ag ((h1.ks aa).addr ag)<|lW ((h1.ks aa).atInt ag)<|Y6 rfl<|Y6 rfl<|Zk<|Zz<|Ve<|X4 rfl<|X4 rfl<|X4 rfl<|lV (.int .u64 (u64.wrap az)) (Zl1 az ⟨_,underlying95⟩ underlying149 rfl)<|lV _ (Zjk _ _ rfl rfl)<|lV _ (Qt _ _ rfl rfl)<|Y6 rfl<|Zk<|Zz<|Ve<|X4 rfl<|lV (.int .u64 (Sa .u64 (u64.wrap (al+(u64.wrap (ad * (u64.wrap az))))) 4294967295)) (Zoy (u64.wrap (al+(u64.wrap (ad * (u64.wrap az))))) 4294967295 rfl rfl)<|X4 rfl<|lV _ (Qt _ _ rfl rfl)<|Y6 rfl<|Zk<|Zz<|Ve<|Y6 rfl<|Zk<|Zz ?_;refine Wp.cutK [0,1,11,13,5,7,87,88,89,9,1000000] (fun f c8=>∃ c9 da,Zfj j0 n0 ad an a5 ak al (Ut j0 n0 ab ad c3) az da=some r∧St w0 (Xh [qc0] col) c9 c8∧Zb rU 95 440 c9 c8 a0 ae an∧[10].map f=[.int .u64 da]) ?_ ?_
    ·intro f c8 hJ;obtain ⟨c9,da,hm,aa,ah,hs⟩:=hJ;rw [Zfj.eq_1] at hm;refine .lL [10] hs<|go ?_;obtain ⟨e0,hm⟩:=Z9 hm;obtain ⟨e1,e2,hm⟩:=bZ hm;refine lV (Ym a0 (aA ((j0:Int)+(ak:Int)) * 1)) (Vq underlying35 sizeOf95 rfl rfl e0.1 e0.2 (ah.addr e2))<|lW (ah.atInt e2)<|go ?_;obtain ⟨e3,hm⟩:=Z9 hm;obtain ⟨he,e4,hm⟩:=bZ hm;refine lV (Ym a0 (aA ((j0:Int)+(ak:Int)) * 1)) (Vq underlying35 sizeOf95 rfl rfl e3.1 e3.2 (ah.addr e4)) ?_;obtain ⟨db,bv,hm⟩:=bZ hm;have bv:db=an.set (aA ((j0:Int)+(ak:Int))) (u32.wrap (e1 - (u32.wrap (u64.wrap ((Sa .u64 (u64.wrap (al+(u64.wrap (ad * (u64.wrap az))))) 4294967295)+a5))))):=(Option.some.inj bv).symm;refine Wl (x1:=u32.wrap (e1 - (u32.wrap (u64.wrap ((Sa .u64 (u64.wrap (al+(u64.wrap (ad * (u64.wrap az))))) 4294967295)+a5))))) ah e4 ?_;intro hf gl gm e5;rw [← bv] at e5;have e6:db.length=ac.length:=(show an.length=db.length by rw [bv,nS]).symm.trans ee;refine go ?_;refine lV (.int .u64 (Y1 .u64 (u64.wrap (al+(u64.wrap (ad * (u64.wrap az))))) 32)) (Qw (u64.wrap (al+(u64.wrap (ad * (u64.wrap az))))) 32 rfl rfl (by decide))<|go ?_;replace aa:=aa.kp gl gm;exact ⟨rfl,_,_,_,_,hm,aa,e5,e6,e6,rfl⟩
    refine go ?_;obtain ⟨e7,hm⟩:=Z9 hm;obtain ⟨hg,e8,hm⟩:=bZ hm;refine lV (Ym a0 (aA ((j0:Int)+(ak:Int)) * 1)) (Vq underlying35 sizeOf95 rfl rfl e7.1 e7.2 (ah.addr e8))<|lW (ah.atInt e8)<|go ?_;refine Zo hm (fun hb hm=>go ?_) fun hb hm=>?_
    ·exact ⟨rfl,_,1,hm,aa,ah,rfl⟩
    refine Yj ?_;exact ⟨rfl,_,0,hm,aa,ah,rfl⟩
  refine Vs (col:=ao) (by kernel_rfl) (by kernel_rfl)<|go ?_;refine Yr hm (fun bw hm=>go ?_) fun bw hm=>go ?_
  ·refine Uy 54 rfl rfl rfl rfl<|Uy 54 rfl rfl rfl rfl<|Uy 54 rfl rfl rfl rfl<|Uy 54 rfl rfl rfl rfl<|Uy 54 rfl rfl rfl rfl<|Uy 54 rfl rfl rfl rfl<|Uy 54 rfl rfl rfl rfl<|Uy 54 rfl rfl rfl rfl<|Uy 54 rfl rfl rfl rfl<|Uy 54 rfl rfl rfl rfl<|Uy 54 rfl rfl rfl rfl<|Uy 54 rfl rfl rfl rfl<|Uy 54 rfl rfl rfl rfl<|Uy 54 rfl rfl rfl rfl<|Uy 54 rfl rfl rfl rfl<|Uy 54 rfl rfl rfl rfl<|Uy 54 rfl rfl rfl rfl<|Uy 54 rfl rfl rfl rfl<|go ?_;refine qv (v:=(.bool true)) rfl (fun _ hC=>Ye (congrArg Value.bool bw) rfl) ?_;refine Wn ?_;intro hh hC;replace hC:=hC.bl ao;replace h0:=h0.gr hC;replace aa:=aa.grow hC;exact ⟨rfl,_,_,hm,aa,h0,rfl⟩
  refine Yr hm (fun dc hm=>go ?_) fun dc hm=>go ?_
  ·obtain ⟨e9,dd,hm⟩:=bZ hm;refine qI dd ((h1.ks aa).addr dd) ?_;refine go ?_;refine qW (fun _ hC=>((h1.ks aa).gr (hC.bl ao)).atInt dd) ?_;refine go ?_;refine qv (v:=(.int .u64 (Yc .u64 ap 32))) rfl (fun _ hC=>Zgg ap 32 rfl rfl (by decide)) ?_;refine go ?_;obtain ⟨fa,hm⟩:=Z9 hm;obtain ⟨fb,fc,hm⟩:=bZ hm;refine qv (v:=(Ym a0 (aA ((j0:Int)+(i64.wrap ((ab.length:Int) - 2))) * 1))) rfl (fun _ hC=>Vq underlying35 sizeOf95 rfl rfl fa.1 fa.2 (h0.addr fc)) ?_;refine go ?_;refine qW (fun _ hC=>(h0.gr (hC.bl ao)).atInt fc) ?_;refine go ?_;refine qv (v:=(.bool (decide ((Wh .u64 (Yc .u64 ap 32) (u64.wrap fb))<(u64.wrap (ad * (u64.wrap e9))))))) rfl (fun _ hC=>Ye (congrArg Value.bool dc) rfl) ?_;refine qv (v:=(.bool (decide ((Wh .u64 (Yc .u64 ap 32) (u64.wrap fb))<(u64.wrap (ad * (u64.wrap e9))))))) rfl (fun _ hC=>Yd (congrArg Value.bool bw) rfl) ?_;refine Wn ?_;intro hi hC;replace hC:=hC.bl ao;replace h0:=h0.gr hC;replace aa:=aa.grow hC;exact ⟨rfl,_,_,hm,aa,h0,rfl⟩
  refine qv (v:=(.bool false)) rfl (fun _ hC=>Yd (congrArg Value.bool dc) rfl) ?_;refine qv (v:=(.bool false)) rfl (fun _ hC=>Yd (congrArg Value.bool bw) rfl) ?_;refine Wn ?_;intro hj hC;replace hC:=hC.bl ao;exact ⟨rfl,_,_,hm,aa.grow hC,h0.gr hC,rfl⟩
def Znt (aa:Int) (kk_L2:(List Int→Int→Option Ra)) (ab:List Int):Option Ra:=
  kk_L2 ab (i64.wrap (aa+1))
def Zib (ab:Int) (ac:List Int) (aa:Int) (kk_L2:(List Int→Int→Option Ra)) (ad:Int):Option Ra:=
  (Zl ac aa).bind fun ae=>Z4 (0≤ab) ((some (ac.set (aA aa) (u32.wrap (Y1 .u64 (Wh .u64 (Yc .u64 (u64.wrap ad) 32) (u64.wrap ae)) ab)))).bind fun af=>Znt aa kk_L2 af)
def Qj (N:Nat) (ac:Int) (ad:List Int) (ae:List Int):Nat→R2→Int→Option Ra
  | 0,_,_=>none
  | af+1,aa,ab=>if (decide (ab<(ae.length:Int)))=true then (if (decide ((i64.wrap (ab+1))<(aa.length:Int)))=true then ((Zl aa (i64.wrap (ab+1))).bind fun ag=>Zib ac aa ab (Qj N ac ad ae af) ag) else (Zib ac aa ab (Qj N ac ad ae af) 0)) else ((Tg N ad).bind fun ah=>(Tg N aa).bind fun ai=>some (ah,ai,0))
termination_by structural x=>x
def Zfg (N:Nat) (ae:Int) (ab:List Int):Nat→R2→R2→Int→Option Ra
  | 0,_,_,_=>none
  | ah+1,ac,ad,aa=>if (decide (0≤aa))=true then (Z4 ((0:Int)≤aa∧aa<(i64.wrap ((i64.wrap (aa+(ab.length:Int)))+1))∧(i64.wrap ((i64.wrap (aa+(ab.length:Int)))+1))≤(ac.length:Int)) ((Zid N (aA aa) ((aA (i64.wrap ((i64.wrap (aa+(ab.length:Int)))+1))) - (aA aa)) ac ab).bind fun af=>(Zl ad aa).bind fun aj=>(some (ad.set (aA aa) af.1)).bind fun ai=>(Zfg N ae ab ah) af.2 ai (i64.wrap (aa - 1)))) else ((Zfl N ac).bind fun ag=>Qj N ae ad ag N ag 0)
termination_by structural x=>x
def Zff (N:Nat) (ae:List Int) (af:List Int):Option Ra:=
  (Th N ae).bind fun ab=>(Th N af).bind fun aa=>if (decide ((aa.length:Int)=0))=true then (some (([]:List Int),([]:List Int),11)) else ((Zfd N ab aa).bind fun ag=>if (decide (ag<0))=true then ((Tg N ab).bind fun ah=>some (([]:List Int),ah,0)) else (if (decide ((aa.length:Int)=1))=true then ((Zf6 ab).bind fun ai=>(Zl aa 0).bind fun aj=>(Zk4 N ai aj).bind fun ad=>(Tg N ad.2).bind fun ak=>(Tg N [ad.1]).bind fun al=>some (ak,al,0)) else ((Zl aa (i64.wrap ((aa.length:Int) - 1))).bind fun am=>(Zkt am).bind fun ac=>(Zie ab ac).bind fun an=>(Zie aa ac).bind fun ao=>(Zfl N ao).bind fun ap=>Z4 ((aA (i64.wrap ((i64.wrap ((ab.length:Int) - (aa.length:Int)))+1))) * 4≤281474976710656∧(aA (i64.wrap ((i64.wrap ((ab.length:Int) - (aa.length:Int)))+1)))≤maxLen∧0≤(i64.wrap ((i64.wrap ((ab.length:Int) - (aa.length:Int)))+1))) (Zfg N ac ap N an (aM (aA (i64.wrap ((i64.wrap ((ab.length:Int) - (aa.length:Int)))+1))) (0:Int)) (i64.wrap (((aM (aA (i64.wrap ((i64.wrap ((ab.length:Int) - (aa.length:Int)))+1))) (0:Int)).length:Int) - 1))))))
theorem Zp7 {N bu bv:Nat} {a0 a1:Option Addr} {col:Zd} {w0:World} {be bf:R2} {r:Ra} (c1 c2:Nat) (hm:Zff N be bf=some r) (h0:Sl rU col w0 a0 bu be) (h1:Sl rU col w0 a1 bv bf):
    Calls prog 152 #[.slice a0 be.length bu,.slice a1 bf.length bv] w0 (fun e w'=>∃ (col':Zd) (ra1:Option Addr) (rc2:Nat) (ra4:Option Addr) (rc5:Nat),e= .returned (.tuple #[.slice ra1 r.1.length rc2,.slice ra4 r.2.1.length rc5,.int .i64 r.2.2])∧Zf col w0 col' w'∧Zb rU 95 c1 col' w' ra1 rc2 r.1∧Zb rU 95 c2 col' w' ra4 rc5 r.2.1):=by
 refine Zu3 4 5 6 (m:=122) (args:=[.slice a0 be.length bu,.slice a1 bf.length bv]) func152 rfl rfl rfl rfl rfl ?_;rw [Zff.eq_1] at hm;have aa:=St.start col w0;refine go ?_;obtain ⟨cx,cy,hm⟩:=bZ hm;refine Zi (S9 cy (h0.k0.ks aa)) ?_;rintro _ eb ⟨ec,ed,ee,rfl,cz,af⟩;refine ⟨_,rfl,?_⟩;refine Y2 rfl ?_;obtain ⟨c0,c3,hm⟩:=bZ hm;replace aa:=aa.grow cz;refine Zi (S9 c3 (h1.k0.ks aa)) ?_;rintro _ c4 ⟨ay,ef,eg,rfl,cj,ac⟩;refine ⟨_,rfl,go ?_⟩;replace af:=af.gr cj;replace aa:=aa.grow cj;refine Zo hm (fun hb hm=>go ?_) fun hb hm=>go ?_
 ·cases hm;exact ⟨rfl,_,none,0,none,0,rfl,aa.fin (cm []),Zb.nil,Zb.nil⟩
 obtain ⟨eh,c5,hm⟩:=bZ hm;refine Zi (Zp6 c5 af ac) ?_;rintro _ ck ⟨rfl,az⟩;refine ⟨_,rfl,?_⟩;replace az:Zf ay c4 ay ck:=.of_below az;refine go ?_;replace af:=af.gr az;replace ac:=ac.gr az;replace aa:=aa.grow az;refine Zo hm (fun hb hm=>go ?_) fun hb hm=>go ?_
 ·obtain ⟨ei,c6,hm⟩:=bZ hm;refine Zi (S8 1 c6 af) ?_;rintro _ ej ⟨ek,el,em,rfl,c7,c8⟩;refine ⟨_,rfl,go ?_⟩;cases hm;replace aa:=aa.grow c7;exact ⟨rfl,_,none,0,_,_,rfl,aa.fin (cm [(1,c2)]),Zb.nil,aa.fo c8⟩
 refine Zo hm (fun hb hm=>go ?_) fun hb hm=>go ?_
 ·obtain ⟨cl,c9,hm⟩:=bZ hm;refine Zi (Zqc 2 c9 af) ?_;rintro _ en ⟨eo,bg,bh,rfl,cn,da⟩;refine ⟨_,rfl,go ?_⟩;obtain ⟨ep,bw,hm⟩:=bZ hm;replace ac:=ac.gr cn;refine lI bw (ac.addr bw)<|lW (ac.atInt bw) ?_;obtain ⟨a2,db,hm⟩:=bZ hm;refine Zi (Z41 2 db rfl da) ?_;rintro _ dc ⟨bx,rfl,dd,de,co⟩;refine ⟨_,rfl,?_⟩;refine .ld (d:=7) (v:=(.slice bg a2.2.length bh)) (congrArg (fun n=>Value.slice bg n bh) (show cl.length=a2.2.length from co.symm)) ?_;refine .ld (d:=34) (v:=(.slice bg a2.2.length bh)) (congrArg (fun n=>Value.slice bg n bh) (show cl.length=a2.2.length from co.symm)) ?_;refine go ?_;obtain ⟨eq,df,hm⟩:=bZ hm;refine Zi (S8 3 df (de.toSlF (Zh.int .u32))) ?_;rintro _ er ⟨dg,es,et,rfl,bi,a3⟩;refine ⟨_,rfl,?_⟩;replace a3:=a3.thaw (Z1 .u32) bi ((Fz.refl (col:=bx)).froz 2);replace bi:=bi.thawR (col:=bx);generalize Xc dc.heap.size bx dg=dh at *;refine X4 rfl<|Vz (col:=dh) [a2.1] 4 ?_;intro eu di bz cp dj;obtain ⟨ew,dl,hm⟩:=bZ hm;refine Zi (S8 5 dl (dj.toSlF (Zh.int .u32))) ?_;rintro _ ey ⟨dm,ez,e0,rfl,a4,b0⟩;refine ⟨_,rfl,?_⟩;replace b0:=b0.thaw (Z1 .u32) a4 ((Fz.refl (col:=bz)).froz 4);replace a4:=a4.thawR (col:=bz);generalize Xc di.heap.size bz dm=e1 at *;refine go ?_;cases hm;replace aa:=((((aa.grow cn).kpp dd).grow bi).grow cp).grow a4;exact ⟨rfl,_,_,_,_,_,rfl,aa.fin (cm [(3,c1),(5,c2)]),aa.fo ((a3.gr cp).gr a4),aa.fo b0⟩
 obtain ⟨e2,b1,hm⟩:=bZ hm;refine lI b1 (ac.addr b1)<|lW (ac.atInt b1) ?_;obtain ⟨ah,dn,hm⟩:=bZ hm;refine Zi (Z4p (col:=ay) dn) ?_;rintro _ dp ⟨rfl,a5⟩;refine ⟨_,rfl,?_⟩;replace a5:Zf ay ck ay dp:=.of_below a5;refine go ?_;obtain ⟨e3,dq,hm⟩:=bZ hm;refine Zi (Zul 6 dq (af.gr a5)) ?_;rintro _ e4 ⟨e5,e6,e7,rfl,cq,a6⟩;refine ⟨_,rfl,go ?_⟩;obtain ⟨e8,dr,hm⟩:=bZ hm;refine Zi (Zul 7 dr ((ac.gr a5).gr cq)) ?_;rintro _ e9 ⟨fa,fb,fc,rfl,cr,ds⟩;refine ⟨_,rfl,?_⟩;obtain ⟨b2,dt,hm⟩:=bZ hm;refine Zi (Zum 7 dt rfl ds) ?_;rintro _ du ⟨dv,dw,dx,rfl,cs,ag⟩;refine ⟨_,rfl,go ?_⟩;obtain ⟨bj,hm⟩:=Z9 hm;refine Sq (col:=dv) (w:=du) (r:=rU) (n:=(aA (i64.wrap ((i64.wrap ((cx.length:Int) - (c0.length:Int)))+1)))) (x0:=0) 8 rfl underlying35 Tryz.t95 rfl rfl rfl rfl rfl (congrArg (Value.int _) (bL bj.2.2).symm) (congrArg (Value.int _) (bL bj.2.2).symm) bj.1 bj.2.1 (Zaj .u32 0) ?_;intro fd fe ff b3 b4;refine go ?_;replace a6:=((a6.gr cr).kpp cs).gr b3;replace ag:=ag.gr b3;replace ag:=(ag).toSlF (Zh.int .u32);replace aa:=((((aa.grow a5).grow cq).grow cr).kpp cs).grow b3;replace aa:=aa.froz 7 (by decide) (by decide);refine Zv [11,9,1000000] (fun n f a7=>∃ a8 ap aq a9 aj ak ad al ar,ar=n∧Zfg N ah b2 ar a9 ad al=some r∧St w0 (Zj col) a8 a7∧Zb rU 95 6 a8 a7 ap aq a9∧Sl rU a8 a7 dw dx b2∧Zb rU 95 8 a8 a7 aj ak ad∧[10,12,13].map f=[.slice ap a9.length aq,.slice aj ad.length ak,.int .i64 al]) N ⟨_,_,_,_,_,_,_,_,_,rfl,hm,aa,a6.froz 7,ag,b4.froz 7,rfl⟩ ?_;clear hm;intro n f a7 hI;obtain ⟨a8,ap,aq,a9,aj,ak,ad,al,ar,hn,hm,aa,b5,ag,ab,hs⟩:=hI;subst hn;refine .lL [10,12,13] hs ?_
 cases ar with
 | zero=>rw [Zfg.eq_1] at hm;cases hm
 | succ ar=>
  rw [Zfg.eq_2] at hm;refine go ?_;refine Zo hm (fun hb hm=>go ?_) fun hb hm=>go ?_
  ·obtain ⟨b6,hm⟩:=Z9 hm;refine lV (.slice (ap.map (·.add ((aA al) * 1))) ((aA (i64.wrap ((i64.wrap (al+(b2.length:Int)))+1))) - (aA al)) (aq - (aA al))) (Z9x underlying35 sizeOf95 rfl rfl rfl b6.1 b6.2.1 (by have:=b5.lecap;have:=b6.2.2;omega))<|Y2 rfl ?_;obtain ⟨bk,dy,hm⟩:=bZ hm;refine Zi (Z4z 6 dy rfl b5 ag) ?_;rintro _ fg ⟨fh,rfl,b7,b8,dz⟩;refine ⟨_,rfl,?_⟩;refine .ld (d:=10) (v:=(.slice ap bk.2.length aq)) (congrArg (fun n=>Value.slice ap n aq) (show a9.length=bk.2.length from dz.symm)) ?_;obtain ⟨fi,b9,hm⟩:=bZ hm;replace ab:=ab.kpp b7;refine lI b9 (ab.addr b9) ?_;obtain ⟨ca,bm,hm⟩:=bZ hm;have bm:ca=ad.set (aA al) bk.1:=(Option.some.inj bm).symm;refine Wl (x1:=bk.1) ab b9 ?_;intro fj cb d0 ct;rw [← bm] at ct;refine .ld (d:=12) (v:=(.slice aj ca.length ak)) (congrArg (fun n=>Value.slice aj n ak) (show ad.length=ca.length by rw [bm,nS])) ?_;refine go ?_;replace aa:=(aa.kpp b7).kp cb d0;exact ⟨ar,by omega,rfl,⟨_,_,_,_,_,_,_,_,_,rfl,hm,aa,b8.kp cb,(ag.kpp b7).kp cb,ct,rfl⟩⟩
  obtain ⟨cc,d1,hm⟩:=bZ hm;refine Zi (Zum 6 d1 rfl b5) ?_;rintro _ fk ⟨fl,fm,fn,rfl,cu,d2⟩;refine ⟨_,rfl,go ?_⟩;replace ab:=ab.kpp cu;replace aa:=aa.kpp cu;refine Zv [12,88,9,1000000] (fun n f ba=>∃ ao au av am aw an,an=n∧Qj N ah ad cc an am aw=some r∧St w0 (Zj col) ao ba∧Zb rU 95 6 ao ba au av am∧Zb rU 95 8 ao ba aj ak ad∧[10,89].map f=[.slice au am.length av,.int .i64 aw]) N ⟨_,_,_,_,0,_,rfl,hm,aa,d2,ab,rfl⟩ ?_;clear hm;intro n f ba hI;obtain ⟨ao,au,av,am,aw,an,hn,hm,aa,ae,ab,hs⟩:=hI;subst hn;refine .lL [10,89] hs ?_
  cases an with
  | zero=>rw [Qj.eq_1] at hm;cases hm
  | succ an=>
   rw [Qj.eq_2] at hm;refine go ?_;refine Zo hm (fun hb hm=>?_) fun hb hm=>go ?_
   ·refine Yj<|Zz ?_;refine Wp.cutK [12,88,89,9,1000000] (fun f bn=>∃ bo cd ce bp,Znt aw (Qj N ah ad cc an) bp=some r∧St w0 (Zj col) bo bn∧Zb rU 95 6 bo bn cd ce bp∧Zb rU 95 8 bo bn aj ak ad∧[10].map f=[.slice cd bp.length ce]) ?_ ?_
    ·intro f bn hJ;obtain ⟨bo,cd,ce,bp,hm,aa,d3,ab,hs⟩:=hJ;rw [Znt.eq_1] at hm;refine .lL [10] hs<|go ?_;exact ⟨an,by omega,rfl,⟨_,_,_,_,_,_,rfl,hm,aa,d3,ab,rfl⟩⟩
    refine Zgl<|Zz<|Ve<|X4 rfl<|Y6 rfl<|Zk<|Zz<|Ve<|Y6 rfl<|Zk<|Zz ?_;refine Wp.cutK [10,12,14,88,89,9,1000000] (fun f bq=>∃ br ai,Zib ah am aw (Qj N ah ad cc an) ai=some r∧St w0 (Zj col) br bq∧Zb rU 95 6 br bq au av am∧Zb rU 95 8 br bq aj ak ad∧[15].map f=[.int .u32 ai]) ?_ ?_
    ·intro f bq hJ;obtain ⟨br,ai,hm,aa,ae,ab,hs⟩:=hJ;rw [Zib.eq_1] at hm;refine .lL [15] hs<|go ?_;refine lV (.int .u64 (Yc .u64 (u64.wrap ai) 32)) (Zgg (u64.wrap ai) 32 rfl rfl (by decide))<|go ?_;obtain ⟨bs,ax,hm⟩:=bZ hm;refine lI ax (ae.addr ax)<|lW (ae.atInt ax) ?_;refine go ?_;obtain ⟨d4,hm⟩:=Z9 hm;refine lV (.int .u64 (Y1 .u64 (Wh .u64 (Yc .u64 (u64.wrap ai) 32) (u64.wrap bs)) ah)) (Qw (Wh .u64 (Yc .u64 (u64.wrap ai) 32) (u64.wrap bs)) ah rfl rfl d4)<|go ?_;refine lI ax (ae.addr ax) ?_;obtain ⟨cf,bt,hm⟩:=bZ hm;have bt:cf=am.set (aA aw) (u32.wrap (Y1 .u64 (Wh .u64 (Yc .u64 (u64.wrap ai) 32) (u64.wrap bs)) ah)):=(Option.some.inj bt).symm;refine Wl (x1:=u32.wrap (Y1 .u64 (Wh .u64 (Yc .u64 (u64.wrap ai) 32) (u64.wrap bs)) ah)) ae ax ?_;intro fp cv d5 cw;rw [← bt] at cw;refine .ld (d:=10) (v:=(.slice au cf.length av)) (congrArg (fun n=>Value.slice au n av) (show am.length=cf.length by rw [bt,nS])) ?_;refine Zk ?_;replace ab:=ab.kp cv;replace aa:=aa.kp cv d5;exact ⟨rfl,_,_,_,_,hm,aa,cw,ab,rfl⟩
    refine go ?_;refine Zo hm (fun hb hm=>go ?_) fun hb hm=>?_
    ·obtain ⟨fq,cg,hm⟩:=bZ hm;refine lI cg (ae.addr cg)<|lW (ae.atInt cg) ?_;refine go ?_;exact ⟨rfl,_,_,hm,aa,ae,ab,rfl⟩
    refine Yj ?_;exact ⟨rfl,_,0,hm,aa,ae,ab,rfl⟩
   obtain ⟨fr,d6,hm⟩:=bZ hm;refine Zi (S8 9 d6 (ab.toSlF (Zh.int .u32))) ?_;rintro _ d7 ⟨d8,ft,fu,rfl,bb,bc⟩;refine ⟨_,rfl,?_⟩;replace bc:=bc.thaw (Z1 .u32) bb ((Fz.refl (col:=ao)).froz 8);replace bb:=bb.thawR (col:=ao);generalize Xc ba.heap.size ao d8=ch at *;refine Y2 rfl ?_;obtain ⟨fv,d9,hm⟩:=bZ hm;refine Zi (S8 10 d9 ((ae.gr bb).toSlF (Zh.int .u32))) ?_;rintro _ fw ⟨ea,fx,fy,rfl,bd,ci⟩;refine ⟨_,rfl,?_⟩;replace ci:=ci.thaw (Z1 .u32) bd ((Fz.refl (col:=ch)).froz 6);replace bd:=bd.thawR (col:=ch);generalize Xc d7.heap.size ch ea=fz at *;refine go ?_;cases hm;replace aa:=(aa.grow bb).grow bd;exact ⟨rfl,_,_,_,_,_,rfl,aa.fin (cm [(9,c1),(10,c2)]),aa.fo (bc.gr bd),aa.fo ci⟩
def Zky (N:Nat) (ab:List Int):Option Int:=
  (Th N ab).bind fun aa=>if (decide ((aa.length:Int)=0))=true then (some 0) else ((Zl aa (i64.wrap ((aa.length:Int) - 1))).bind fun ac=>(Zh0 ac).bind fun ad=>some (i64.wrap ((i64.wrap (32 * (i64.wrap ((aa.length:Int) - 1))))+ad)))
theorem Z4x {N af:Nat} {a0:Option Addr} {col:Zd} {w0:World} {ab:R2} {r:Int} (hm:Zky N ab=some r) (h0:Sl rU col w0 a0 af ab):
    Calls prog 64 #[.slice a0 ab.length af] w0 (fun e w'=>e= .returned ((.int .i64 r))∧Below w0.heap.size w0 w'):=by
 refine Xe 2 (m:=20) func64 rfl rfl rfl rfl rfl ?_;rw [Zky.eq_1] at hm;have aa:=St.start col w0;refine go ?_;obtain ⟨am,ah,hm⟩:=bZ hm;refine Zi (S9 ah (h0.k0.ks aa)) ?_;rintro _ ai ⟨ac,an,ao,rfl,aj,ag⟩;refine ⟨_,rfl,go ?_⟩;replace aa:=aa.grow aj;refine Zo hm (fun hb hm=>go ?_) fun hb hm=>go ?_
 ·cases hm;exact ⟨rfl,rfl,aa.below⟩
 obtain ⟨ap,ad,hm⟩:=bZ hm;refine lI ad (ag.addr ad)<|lW (ag.atInt ad) ?_;obtain ⟨aq,ak,hm⟩:=bZ hm;refine Zi (Zug (col:=ac) ak) ?_;rintro _ al ⟨rfl,ae⟩;refine ⟨_,rfl,?_⟩;replace ae:Zf ac ai ac al:=.of_below ae;refine go ?_;cases hm;exact ⟨rfl,rfl,(aa.grow ae).below⟩
def Xg (n:Nat):Nat:=if n=0 then 0 else n.log2+1
theorem Zgt:Xg 0=0:=rfl
theorem Zt4 {n k:Nat} (h:2 ^ k≤n) (h2:n<2 ^ (k+1)):Xg n=k+1:=by
 have a:n≠0:=by have:=cG k;omega
 rw [Xg,if_neg a,(kP a).2 ⟨h,h2⟩]
theorem Zmp {n:Nat} (h:n≠0):∃ k,Xg n=k+1∧2 ^ k≤n∧n<2 ^ (k+1):=by
 refine ⟨n.log2,by rw [Xg,if_neg h],?_⟩
 exact (kP h).1 rfl
theorem Ui {n k:Nat}:Xg n≤k↔n<2 ^ k:=by
 by_cases h:n=0
 ·subst h;simp [Zgt,cG]
 ·obtain ⟨j,e,c,d⟩:=Zmp h
  rw [e]
  constructor
  ·intro b;exact aE d (gW (by decide) b)
  ·intro b
   have:=(Nat.pow_lt_pow_iff_right (a:=2) (by decide)).1 (eK c b)
   omega
theorem Zjx (n k:Nat):Xg (n / 2 ^ k)=Xg n - k:=by
 by_cases h:n / 2 ^ k=0
 ·have a:n<2 ^ k:=by
   have:=cG k
   rcases Nat.div_eq_zero_iff.1 h with h | h
   ·omega
   ·exact h
  have:=Ui.2 a
  rw [h,Zgt];omega
 ·obtain ⟨j,e,a,c⟩:=Zmp h
  have b:=cG k
  have d:2 ^ (j+k)≤n:=by
   rw [dH]
   exact (gR b).1 a
  have f:n<2 ^ (j+k+1):=by
   have:=(eH b).1 c
   rw [show j+k+1=(j+1)+k by omega,dH];exact this
  rw [e,Zt4 d f];omega
theorem Z75:∀ x:Fin 256,Ze8 (x.val:Int) 0=some ((Xg x.val:Nat):Int):=by decide+kernel
theorem Zxi {x:Nat} (h:x<256) {n:Int} (hn:0≤n∧n≤24):Ze8 (x:Int) n=some (n+(Xg x:Int)):=by
 have a:=Z75 ⟨x,h⟩
 have c:Xg x≤8:=Ui.2 h
 rw [Ze8] at a ⊢
 revert a
 generalize Zmk _ _=o
 intro a
 cases o with
 | none=>cases a
 | some e=>
  rw [oB] at a ⊢
  have b:=Option.some.inj a
  rw [IntKind.wrap_i64,IntKind.wrap_i64] at b ⊢
  congr 1
  simp only at b
  omega
theorem Zpc (i:IntKind) (x k:Nat) (hk:k≤i.bits):Y1 i (x:Int) (k:Int)=((x / 2 ^ k:Nat):Int):=by
 rw [Y1,aD,bD hk,iS _ (Int.le_of_lt (Int.pow_pos (by decide)))]
 norm_cast
theorem Zxg {x:Nat} (h:x<4294967296):Zh0 (x:Int)=some ((Xg x:Nat):Int):=by
 have b:∀ (y:Nat) (n:Int),y<65536→0≤n∧n≤16→Zh1 (y:Int) n=some (n+(Xg y:Int)):=fun y n d f=>by
  rw [Zh1]
  by_cases h1:256≤y
  ·have e:=Zpc .u32 y 8 (by decide)
   have a:=Zjx y 8
   have c:8≤Xg y:=by
    have:¬ Xg y≤7:=fun h=>by have:=Ui.1 h;omega
    omega
   rw [if_pos (by simp;omega),show (8:Int)=((8:Nat):Int) from rfl,e,Zxi (by omega) (by rw [Zw (by omega)];omega),Zw (by omega),a]
   congr 1;omega
  ·rw [if_neg (by simp;omega),Zxi (by omega) (by omega)]
 rw [Zh0]
 by_cases h1:65536≤x
 ·have e:=Zpc .u32 x 16 (by decide)
  have a:=Zjx x 16
  have c:16≤Xg x:=by
   have:¬ Xg x≤15:=fun h=>by have:=Ui.1 h;omega
   omega
  rw [if_pos (by simp;omega),show (16:Int)=((16:Nat):Int) from rfl,e,b _ _ (by omega) (by omega),a]
  congr 1;omega
 ·rw [if_neg (by simp;omega),b _ _ (by omega) (by omega)]
  congr 1;omega
theorem Zt6 {a:List Int} {x:Int} (ha:Zn a) (hx:0<x∧x<4294967296):Xg (Zc (a++[x]))=32 * a.length+Xg x.toNat:=by
 obtain ⟨k,e,d,g⟩:=Zmp (show x.toNat≠0 by omega)
 have f:=Qq ha
 have c:Zc (a++[x])=Zc a+4294967296 ^ a.length * x.toNat:=by rw [Qp,Wm,Yy];simp
 have b:(4294967296:Nat) ^ a.length=2 ^ (32 * a.length):=by rw [show (4294967296:Nat)=2 ^ 32 by decide,← Nat.pow_mul]
 rw [e]
 have:=Zt4 (n:=Zc (a++[x])) (k:=32 * a.length+k) (by
   rw [c,b,dH]
   have:=aT (2 ^ (32 * a.length)) d
   omega) (by
   rw [c,show 32 * a.length+k+1=32 * a.length+(k+1) by omega,dH,b]
   have:=aT (2 ^ (32 * a.length)) (show x.toNat+1≤2 ^ (k+1) by omega)
   rw [dP] at this
   rw [b] at f
   omega)
 rw [this];omega
theorem Zmn (n:Nat):32 * ((Ze n).length - 1)≤Xg n∧Xg n≤32 * (Ze n).length:=by
 have e:∀ k,(4294967296:Nat) ^ k=2 ^ (32 * k):=fun k=>by rw [show (4294967296:Nat)=2 ^ 32 by decide,← Nat.pow_mul]
 constructor
 ·by_cases h:32 * ((Ze n).length - 1)≤Xg n
  ·exact h
  ·exfalso
   have a:=Ui.1 (show Xg n≤32 * ((Ze n).length - 1) by omega)
   rw [← e] at a
   have:=W8.2 a
   omega
 ·have:=W8.1 (bB (Ze n).length)
  rw [e] at this
  exact Ui.2 this
theorem Z3n {N:Nat} {a:List Int} (h:Zn a) (hn:a.length<N) (hb:a.length≤35184372088000):Zky N a=some ((Xg (Zc a):Nat):Int):=by
 have i:=Ys h
 rw [Zky,Qy h hn hb,oB]
 by_cases h0:(Ze (Zc a)).length=0
 ·have:Zc a=0:=Zg7.1 (cY h0)
  rw [if_pos (by simp [h0]),this,Zgt];rfl
 ·have b:0<(Ze (Zc a)).length:=by omega
  have e:((Ze (Zc a)).length:Int) - 1=(((Ze (Zc a)).length - 1:Nat):Int):=by omega
  have j:=(Xd (Zc a)).get (k:=(Ze (Zc a)).length - 1) (by omega)
  have f:=Zni b
  have c:=Zg5 b
  have d:(Ze (Zc a))[(Ze (Zc a)).length - 1]=(((Ze (Zc a))[(Ze (Zc a)).length - 1]).toNat:Int):=by omega
  rw [if_neg (by simpa using h0),Zw (by omega),e,Z0 (by omega),oB,d,Zxg (by omega),oB]
  have hb:=Zt6 (a:=(Ze (Zc a)).take ((Ze (Zc a)).length - 1)) (x:=(Ze (Zc a))[(Ze (Zc a)).length - 1]) ((Xd _).take _) (by omega)
  rw [c,Xb,nK,bD (by omega)] at hb
  have g:Xg ((Ze (Zc a))[(Ze (Zc a)).length - 1]).toNat≤32:=Ui.2 (by omega)
  rw [Zw (x:=32 * _) (by omega),Zw (by omega),hb]
  congr 1
theorem Zgu (w x:Nat) (h:x<2 ^ w):(BitVec.ofInt w (x:Int)).toNat=x:=by
 rw [BitVec.toNat_ofInt]
 have:((2 ^ w:Nat):Int)=(2:Int) ^ w:=by norm_cast
 rw [← kK,aD,eT h]
theorem or64 (k a b:Nat) (h:b<2 ^ k) (hs:2 ^ k * a+b<18446744073709551616):Wh .u64 ((2 ^ k * a:Nat):Int) (b:Int)=((2 ^ k * a+b:Nat):Int):=by
 rw [Wh,BitVec.toNat_or,Zgu _ _ (by simp only [IntKind.bits];omega),Zgu _ _ (by simp only [IntKind.bits];omega),← iL h,IntKind.wrap_u64]
 omega
theorem or32 (k a b:Nat) (h:b<2 ^ k) (hs:2 ^ k * a+b<4294967296):Wh .u32 (b:Int) ((2 ^ k * a:Nat):Int)=((2 ^ k * a+b:Nat):Int):=by
 rw [Wh,BitVec.toNat_or,Zgu _ _ (by simp only [IntKind.bits];omega),Zgu _ _ (by simp only [IntKind.bits];omega),Nat.or_comm,← iL h,IntKind.wrap_u32]
 omega
theorem Xak {x:Int} (h:0≤x∧x<4294967296):Yc .u64 x 32=x * 4294967296:=by
 have:(min (32:Int).toNat u64.bits)=32:=by decide
 rw [Yc,this,IntKind.wrap_u64]
 omega
theorem Zpi {r e:Int} (hr:0≤r∧r<4294967296) (he:0≤e∧e<4294967296):Wh .u64 (Yc .u64 r 32) e=r * 4294967296+e:=by
 rw [Xak hr]
 have:=or64 32 r.toNat e.toNat (by omega) (by omega)
 rw [show ((2 ^ 32 * r.toNat:Nat):Int)=r * 4294967296 by omega,show ((e.toNat:Nat):Int)=e by omega] at this
 rw [this];omega
theorem Zee {l:List Int} {k j:Nat} (v:Int) (h:j≤k):(l.set k v).take j=l.take j:=by
 rw [List.take_set,List.set_eq_of_length_le]
 rw [nK];omega
theorem Z1q (N:Nat) (d:Int) (hd:0<d∧d<4294967296):∀ (n j:Nat) (r:List Int) (c:Int),j≤r.length→j<n→r.length<4611686018427387904→Zn r→0≤c∧c<d→
  ∃ c' r',Zfk N d n r c ((j:Int) - 1)=some (c',r')∧r'.length=r.length∧Zn r'∧0≤c'∧c'<d∧d.toNat * Zc r'+c'.toNat=Zc (r.take j)+4294967296 ^ j * (c.toNat+d.toNat * Zc (r.drop j))
 | 0,j,r,c,_,h,_,_,_=>by omega
 | n+1,j,r,c,E,F,q,f,k=>by
  rw [Zfk.eq_2]
  by_cases h0:j=0
  ·subst h0
   rw [if_neg (by decide),Uo (by omega)]
   refine ⟨c,r,rfl,rfl,f,k.1,k.2,?_⟩
   rw [List.take_zero,aP,Yy];omega
  ·have e:(j:Int) - 1=((j - 1:Nat):Int):=by omega
   have b:j - 1<r.length:=by omega
   have g:=f.get b
   rw [if_pos (by simp;omega),e,Z0 b,oB,Xm (x:=d) (by omega),Xf (by omega),oB,Xf (by omega),aD,Xm (x:=r[j - 1]) (by omega),Zpi (by omega) (by omega)]
   generalize hcur:c * 4294967296+r[j - 1]=a
   have B:(c+1) * 4294967296≤d * 4294967296:=by omega
   have i:0≤a / d∧a / d<4294967296:=⟨Int.ediv_nonneg (by omega) (by omega),Int.ediv_lt_of_lt_mul hd.1 (by rw [Int.mul_comm];omega)⟩
   have s:=Int.emod_nonneg a (show d≠0 by omega)
   have l:=Int.emod_lt_of_pos a hd.1
   have C:=Int.mul_ediv_add_emod a d
   rw [cD (by omega),cK (by omega),Xm (by omega),Uo i,Zw (by omega)]
   obtain ⟨c',r',q1,t,u,v,w,y⟩:=Z1q N d hd n (j - 1) (r.set (j - 1) (a / d)) (a % d) (by rw [nS];omega) (by omega) (by rw [nS];exact q) (f.set _ i) ⟨s,l⟩
   refine ⟨c',r',q1,by rw [t,nS],u,v,w,?_⟩
   rw [y,Zee _ (bB _)]
   have m:=Zrv b
   have o:Zc ((r.set (j - 1) (a / d)).drop (j - 1))=(a / d).toNat+4294967296 * Zc (r.drop (j - 1+1)):=by
    rw [Uw (by rw [nS];exact b),jI,Q2 _ (by omega)]
   rw [show j - 1+1=j by omega] at m o
   rw [m,o]
   have A:(4294967296:Nat) ^ j=4294967296 ^ (j - 1) * 4294967296:=by rw [← bA,show (j - 1).succ=j by omega]
   rw [A]
   have p:d.toNat * (a / d).toNat+(a % d).toNat=c.toNat * 4294967296+(r[j - 1]).toNat:=by
    have:((d.toNat * (a / d).toNat:Nat):Int)=d * (a / d):=by rw [bV,bL (by omega),bL i.1]
    omega
   generalize hQ:4294967296 ^ (j - 1)=Q
   have D:Q * (d.toNat * (a / d).toNat+(a % d).toNat)=Q * (c.toNat * 4294967296+(r[j - 1]).toNat):=by rw [p]
   grind
theorem Xaq {N:Nat} {a:List Int} {d:Int} (hd:0<d∧d<4294967296) (ha:Zn a) (hn:a.length<N) (hs:a.length≤35184372088000):
  ∃ q,Zk4 N a d=some (((Zc a % d.toNat:Nat):Int),q)∧q.length=a.length∧Zn q∧Zc q=Zc a / d.toNat:=by
 obtain ⟨b,r',q1,g,i,l,m,c⟩:=Z1q N d hd N a.length a 0 (bB _) hn (by omega) ha (by omega)
 have e:0<d.toNat:=by omega
 rw [List.take_length,fZ,Yy] at c
 have f:Zc a=b.toNat+d.toNat * Zc r':=by simp at c;omega
 have j:Zc a % d.toNat=b.toNat:=by rw [f,iY,eT (by omega)]
 have k:Zc a / d.toNat=Zc r':=by rw [f,iA _ _ e,fB (by omega),cR]
 refine ⟨r',?_,g,i,k.symm⟩
 rw [Zk4,Zw (by omega),q1,j]
 congr 2;omega
theorem Zs0 {i:IntKind} {x s:Nat} (hs:s<32) (hi:i= .u32∨i= .u64):Yc i (x:Int) (s:Int)=i.wrap ((x * 2 ^ s:Nat):Int):=by
 rw [Yc,aD,bD (by rcases hi with rfl | rfl <;> simp only [IntKind.bits] <;> omega)]
 norm_cast
theorem Z25 (n:Nat):u32.wrap (n:Int)=((n % 4294967296:Nat):Int):=by rw [IntKind.wrap_u32];omega
theorem Zxe (s:Nat) (hs:s<32):∀ (l:List Int) (k:Nat) (out:List Int),Zn l→out.length=k+l.length+1→out.length<4611686018427387904→Zn out→Zc (out.drop (k+1))=0→(∀ h:k<out.length,(out[k]).toNat<2 ^ s)→
  ∃ out',Zdu (s:Int) l k out=some out'∧out'.length=out.length∧Zn out'∧Zc out'=Zc out+4294967296 ^ k * (2 ^ s * Zc l)∧(∀ h:out'.length - 1<out'.length,(out'[out'.length - 1]).toNat<2 ^ s)
 | [],k,out,_,c,_,a,_,m=>by
  rw [Zdu.eq_1]
  rw [nN] at c
  refine ⟨out,rfl,rfl,a,by rw [Yy];omega,fun h=>?_⟩
  have:=m (by omega)
  simpa [c] using this
 | x :: l,k,out,q,c,y,a,C,m=>by
  rw [nC] at c
  have d:k<out.length:=by omega
  have o:k+1<out.length:=by omega
  have P:=q.head
  have R:=a.get d
  have D:=m d
  have g:=drop_zero a o C
  have E:i64.wrap ((k:Int)+1)=((k+1:Nat):Int):=by rw [Zw (by omega)];omega
  have ex:x=(x.toNat:Int):=by omega
  have F:out[k]=((out[k]).toNat:Int):=by omega
  have p:(2:Nat) ^ s * 2 ^ (32 - s)=4294967296:=by rw [← dH,show s+(32 - s)=32 by omega]
  have r:=cG s
  have i:=cG (32 - s)
  -- the lower and the upper limb
  have t:x.toNat * 2 ^ s<4294967296 * 2 ^ s:=iM (by omega) r
  have G:2 ^ s≤2147483648:=by
   have:=gW (n:=2) (by decide) (show s≤31 by omega)
   omega
  have b:(x.toNat * 2 ^ s) % 4294967296=2 ^ s * (x.toNat % 2 ^ (32 - s)):=by
   rw [← p,bY x.toNat,jT]
  have u:Wh .u32 out[k] (Yc .u32 x (s:Int))=(((x.toNat * 2 ^ s) % 4294967296+(out[k]).toNat:Nat):Int):=by
   rw [ex,Zs0 hs (.inl rfl),Z25,F]
   simp only [aD]
   rw [b]
   refine or32 s _ _ D ?_
   have:2 ^ s * (x.toNat % 2 ^ (32 - s)+1)≤2 ^ s * 2 ^ (32 - s):=aT _ (eU _ i)
   rw [p,dP] at this
   omega
  have v:u32.wrap (Y1 .u64 (Yc .u64 (u64.wrap x) (s:Int)) 32)=((x.toNat * 2 ^ s / 4294967296:Nat):Int):=by
   rw [Xm (x:=x) (by omega),ex,Zs0 hs (.inr rfl),Zgi,Xm (by omega)]
   simp only [aD]
   rw [Uo (by omega)]
   omega
  have j:x.toNat * 2 ^ s / 4294967296<2 ^ s:=(eH (by decide)).2 (by rw [bY (2 ^ s)];exact t)
  have e:(x.toNat * 2 ^ s) % 4294967296+(out[k]).toNat<4294967296:=by
   rw [b]
   have:2 ^ s * (x.toNat % 2 ^ (32 - s)+1)≤2 ^ s * 2 ^ (32 - s):=aT _ (eU _ i)
   rw [p,dP] at this
   omega
  rw [Zdu.eq_2,Z0 d,oB,Xf (by omega),oB,Xf (by omega),E,aD,aD,
   Z0 (by rw [nS];exact o),oB,oB,u,v]
  generalize hA:(x.toNat * 2 ^ s) % 4294967296+(out[k]).toNat=A at e
  generalize hB:x.toNat * 2 ^ s / 4294967296=B at j
  have H:Zn (out.set k (A:Int)):=a.set _ (by omega)
  have I:Zn ((out.set k (A:Int)).set (k+1) (B:Int)):=H.set _ (by omega)
  obtain ⟨out',q1,J,K,L,M⟩:=Zxe s hs l (k+1) ((out.set k (A:Int)).set (k+1) (B:Int)) q.tail (by rw [nS,nS];omega) (by rw [nS,nS];exact y) I (by
   rw [Q2 _ (by omega),Q2 _ (by omega)];exact g.2) (fun h=>by rw [jI];simpa using j)
  refine ⟨out',q1,by rw [J,nS,nS],K,?_,M⟩
  have N:=Tz d (A:Int)
  have f:=Tz (l:=out.set k (A:Int)) (k:=k+1) (by rw [nS];exact o) (B:Int)
  rw [List.getElem_set_ne (by omega),g.1] at f
  rw [aD] at N f
  rw [fG,dW,bU] at f
  rw [L,Wm]
  rw [bA] at f ⊢
  have w:A+4294967296 * B=(out[k]).toNat+x.toNat * 2 ^ s:=by omega
  generalize 4294967296 ^ k=Q at *
  have O:Q * (A+4294967296 * B)=Q * ((out[k]).toNat+x.toNat * 2 ^ s):=by rw [w]
  grind
theorem Zxf {a:List Int} {s:Nat} (hs:s<32) (ha:Zn a) (hb:a.length<35184372088000):
  ∃ o,Zie a (s:Int)=some o∧o.length=a.length+1∧Zn o∧Zc o=2 ^ s * Zc a∧∀ h:o.length - 1<o.length,(o[o.length - 1]).toNat<2 ^ s:=by
 rw [Zie,Zw (by omega),Xf (by simp only [maxLen];omega)]
 have e:aA ((a.length:Int)+1)=a.length+1:=by omega
 rw [e]
 obtain ⟨o,q1,b,c,d,f⟩:=Zxe s hs a 0 (aM (a.length+1) 0) ha (by rw [bI];omega) (by rw [bI];omega) (.zeros _) (by rw [hY];exact Sf _) (fun h=>by
  rw [List.getElem_replicate];exact cG s)
 refine ⟨o,q1,by rw [b,bI],c,?_,f⟩
 rw [d,Sf,dV];omega
theorem Z6f (g:Int) (u:List Int):Zk1 g u=Zcd g u:=rfl
theorem Zvk (j0 n0:Nat) (v:List Int) (g:Int):∀ (l:List Int) (k:Nat) (u:List Int) (c:Int),Zdt j0 n0 v g l k u c=Sv j0 n0 v (u64.wrap (g - 1)) l k u c
 | [],k,u,c=>by rw [Zdt.eq_1,Sv.eq_1];rfl
 | x :: l,k,u,c=>by
  rw [Zdt.eq_2,Sv.eq_2]
  simp only [Zvk j0 n0 v g l]
theorem Zvj (j0 n0:Nat) (v:List Int) (g:Int):∀ (l:List Int) (k:Nat) (u:List Int) (b c:Int),Q9 j0 n0 v g l k u b c=Ut j0 n0 v (u64.wrap (g - 1)) l k u b c
 | [],k,u,b,c=>by
  rw [Q9.eq_1,Ut.eq_1]
  simp only [Zvk,Z6f]
 | x :: l,k,u,b,c=>by
  rw [Q9.eq_2,Ut.eq_2]
  simp only [Zk2,Zfj,Znu,Zk3,Zvj j0 n0 v g l]
theorem Zxs {x:Int} (h:0≤x∧x<18446744073709551616):Sa .u64 x 4294967295=x % 4294967296:=by
 have e:x=(x.toNat:Int):=by omega
 rw [Sa,BitVec.toNat_and,e,Zgu _ _ (by simp only [IntKind.bits];omega),show (4294967295:Int)=((2 ^ 32 - 1:Nat):Int) by decide,Zgu _ _ (by simp only [IntKind.bits];omega),Nat.and_two_pow_sub_one_eq_mod,IntKind.wrap_u64]
 omega
theorem Z3j (S S' S2 Q e v x c c' L T:Nat) (h1:S'+Q * e=S+Q * v) (h2:c+(e+x)=v+4294967296 * c') (h3:S2+T=S'+Q * 4294967296 * (c'+L)):S2+T=S+Q * (c+(x+4294967296 * L)):=by
 have:Q * (c+(e+x))=Q * (v+4294967296 * c'):=by rw [h2]
 grind
theorem Zj4 {l:List Int} {k j:Nat} (v:Int) (h:k<j):(l.set k v).drop j=l.drop j:=Q2 v h
theorem Zvm (j0:Nat) (v:List Int) (g:Int):∀ (l:List Int) (k:Nat) (u:List Int) (c:Int),Zn l→k+l.length=v.length→Zn u→j0+v.length<u.length→0≤c∧c≤1→
  ∃ u' co,Sv j0 (v.length+1) v g l k u c=some (u32.wrap (u64.wrap (g - 1)),u')∧u'.length=u.length∧Zn u'∧u'.take j0=u.take j0∧u'.drop (j0+v.length+1)=u.drop (j0+v.length+1)∧Zc u'+co * 4294967296 ^ (j0+v.length+1)=Zc u+4294967296 ^ (j0+k) * (c.toNat+Zc l)
 | [],k,u,c,_,e,a,b,n=>by
  have i:k=v.length:=by simpa using e
  subst i
  have o:=a.get b
  rw [Sv.eq_1,Xf (by omega),show (j0:Int)+(v.length:Int)=((j0+v.length:Nat):Int) by omega,Z0 b,oB,Xf (by omega),oB,oB,aD,Zcd,Uo (x:=c) (by omega)]
  have f:0≤u32.wrap (u[j0+v.length]+c)∧u32.wrap (u[j0+v.length]+c)<4294967296:=by rw [IntKind.wrap_u32];omega
  refine ⟨_,((u[j0+v.length]+c) / 4294967296).toNat,rfl,by rw [nS],a.set _ f,Zee _ (by omega),Zj4 _ (by omega),?_⟩
  have A:=Tz b (u32.wrap (u[j0+v.length]+c))
  have p:(u[j0+v.length]).toNat+c.toNat=(u32.wrap (u[j0+v.length]+c)).toNat+4294967296 * ((u[j0+v.length]+c) / 4294967296).toNat:=by rw [IntKind.wrap_u32];omega
  rw [bA,Yy]
  generalize 4294967296 ^ (j0+v.length)=Q at *
  have B:Q * ((u[j0+v.length]).toNat+c.toNat)=Q * ((u32.wrap (u[j0+v.length]+c)).toNat+4294967296 * ((u[j0+v.length]+c) / 4294967296).toNat):=by rw [p]
  grind
 | x :: l,k,u,c,j,e,a,b,n=>by
  rw [nC] at e
  have d:j0+k<u.length:=by omega
  have o:=a.get d
  have C:=j.head
  rw [Sv.eq_2,Xf (by omega),show (j0:Int)+(k:Int)=((j0+k:Nat):Int) by omega,Z0 d,oB,Xf (by omega),oB,oB,aD,Xm (x:=u[j0+k]) (by omega),Xm (x:=x) (by omega),Xm (x:=u[j0+k]+x) (by omega),Xm (by omega),Zgi]
  generalize hs:c+(u[j0+k]+x)=s
  have f:0≤u32.wrap s∧u32.wrap s<4294967296:=by rw [IntKind.wrap_u32];omega
  obtain ⟨u',co,q1,q,r,w,y,m⟩:=Zvm j0 v g l (k+1) (u.set (j0+k) (u32.wrap s)) (s / 4294967296) j.tail (by omega) (a.set _ f) (by rw [nS];exact b) (by omega)
  refine ⟨u',co,q1,by rw [q,nS],r,by rw [w,Zee _ (by omega)],by rw [y,Zj4 _ (by omega)],?_⟩
  rw [Wm]
  rw [← dS j0 k 1,bA] at m
  exact Z3j _ _ _ _ _ _ _ _ _ _ _ (Tz d _) (by rw [IntKind.wrap_u32];omega) m
theorem Z83 (S S' S2 Q e w x g b b' c c' t L T:Nat) (h1:S'+Q * e=S+Q * w) (h2:c+g * x=t+4294967296 * c') (h3:e+4294967296 * b'=t+b+w) (h4:S2+Q * 4294967296 * (c'+b'+g * L)=S'+T):S2+Q * (c+b+g * (x+4294967296 * L))=S+T:=by
 have a:Q * (c+g * x)=Q * (t+4294967296 * c'):=by rw [h2]
 have d:Q * (e+4294967296 * b')=Q * (t+b+w):=by rw [h3]
 grind
theorem Zvl (j0:Nat) (v:List Int) (g:Int) (hg:0≤g∧g<4294967296):∀ (l:List Int) (k:Nat) (u:List Int) (b c:Int),Zn l→k+l.length=v.length→Zn u→j0+v.length<u.length→0≤b∧b≤1→0≤c∧c<4294967296→
  ∃ u' over,over≤1∧Ut j0 (v.length+1) v g l k u b c=(if over=1 then Sv j0 (v.length+1) v g v 0 u' 0 else Zcd g u')∧u'.length=u.length∧Zn u'∧u'.take j0=u.take j0∧u'.drop (j0+v.length+1)=u.drop (j0+v.length+1)∧
   Zc u'+4294967296 ^ (j0+k) * (c.toNat+b.toNat+g.toNat * Zc l)=Zc u+over * 4294967296 ^ (j0+v.length+1)
 | [],k,u,b,c,_,m,e,i,s,w=>by
  have n:k=v.length:=by simpa using m
  subst n
  have y:=e.get i
  rw [Ut.eq_1,Xf (by omega),show (j0:Int)+(v.length:Int)=((j0+v.length:Nat):Int) by omega,Z0 i,oB,Xf (by omega),oB,Xf (by omega),oB,oB,aD,Xm (x:=c+b) (by omega),Xm (x:=u[j0+v.length]) (by omega)]
  have j:0≤u32.wrap (u[j0+v.length] - u32.wrap (c+b))∧u32.wrap (u[j0+v.length] - u32.wrap (c+b))<4294967296:=by rw [IntKind.wrap_u32];omega
  have J:=Tz i (u32.wrap (u[j0+v.length] - u32.wrap (c+b)))
  have fin:∀ over:Nat,(u[j0+v.length]).toNat+4294967296 * over=c.toNat+b.toNat+(u32.wrap (u[j0+v.length] - u32.wrap (c+b))).toNat→Zc (u.set (j0+v.length) (u32.wrap (u[j0+v.length] - u32.wrap (c+b))))+4294967296 ^ (j0+v.length) * (c.toNat+b.toNat+g.toNat * Zc [])=Zc u+over * 4294967296 ^ (j0+v.length+1):=fun over A=>by
   rw [bA,Yy]
   generalize 4294967296 ^ (j0+v.length)=Q at *
   have B:Q * ((u[j0+v.length]).toNat+4294967296 * over)=Q * (c.toNat+b.toNat+(u32.wrap (u[j0+v.length] - u32.wrap (c+b))).toNat):=by rw [A]
   grind
  by_cases hlt:u[j0+v.length]<c+b
  ·refine ⟨_,1,bB _,by rw [if_pos (by simpa using hlt),if_pos rfl],by rw [nS],e.set _ j,Zee _ (by omega),Zj4 _ (by omega),fin 1 (by rw [IntKind.wrap_u32,IntKind.wrap_u32];omega)⟩
  ·refine ⟨_,0,by decide,by rw [if_neg (by simpa using hlt),if_neg (by decide)],by rw [nS],e.set _ j,Zee _ (by omega),Zj4 _ (by omega),fin 0 (by rw [IntKind.wrap_u32,IntKind.wrap_u32];omega)⟩
 | x :: l,k,u,b,c,o,m,e,i,s,w=>by
  rw [nC] at m
  have d:j0+k<u.length:=by omega
  have y:=e.get d
  have p:=o.head
  have K:g * x≤4294967295 * 4294967295:=kW (by omega) (by omega) (by omega) (by omega)
  have H:0≤g * x:=kX hg.1 p.1
  have I:((g.toNat * x.toNat:Nat):Int)=g * x:=by rw [bV,bL hg.1,bL p.1]
  rw [Ut.eq_2,Xf (by omega),show (j0:Int)+(k:Int)=((j0+k:Nat):Int) by omega,Z0 d,oB,Xm (x:=u[j0+k]) (by omega),Xm (x:=x) (by omega),Xm (x:=g * x) (by omega),Xm (x:=c+g * x) (by omega),Zxs (by omega)]
  generalize ht0:c+g * x=a
  rw [Xm (x:=a % 4294967296+b) (by omega)]
  have fin:∀ f:Int,0≤f∧f≤1→u[j0+k]+4294967296 * f=a % 4294967296+b+u32.wrap (u[j0+k] - u32.wrap (a % 4294967296+b))→
    ∃ u' over,over≤1∧Zfj j0 (v.length+1) g u b k c (Ut j0 (v.length+1) v g l) x f=(if over=1 then Sv j0 (v.length+1) v g v 0 u' 0 else Zcd g u')∧u'.length=u.length∧Zn u'∧u'.take j0=u.take j0∧u'.drop (j0+v.length+1)=u.drop (j0+v.length+1)∧
     Zc u'+4294967296 ^ (j0+k) * (c.toNat+b.toNat+g.toNat * Zc (x :: l))=Zc u+over * 4294967296 ^ (j0+v.length+1):=fun f q B=>by
   have j:0≤u32.wrap (u[j0+k] - u32.wrap (a % 4294967296+b))∧u32.wrap (u[j0+k] - u32.wrap (a % 4294967296+b))<4294967296:=by rw [IntKind.wrap_u32];omega
   obtain ⟨u',over,q0,q1,C,D,F,G,r⟩:=Zvl j0 v g hg l (k+1) (u.set (j0+k) (u32.wrap (u[j0+k] - u32.wrap (a % 4294967296+b)))) f (a / 4294967296) o.tail (by omega) (e.set _ j) (by rw [nS];exact i) q (by omega)
   refine ⟨u',over,q0,?_,by rw [C,nS],D,by rw [F,Zee _ (by omega)],by rw [G,Zj4 _ (by omega)],?_⟩
   ·rw [Zfj,Xf (by omega),show (j0:Int)+(k:Int)=((j0+k:Nat):Int) by omega,Z0 d,oB,Xf (by omega),oB,oB,aD,Xm (x:=x) (by omega),Xm (x:=g * x) (by omega),Xm (x:=c+g * x) (by omega),Zxs (by omega),ht0,Xm (x:=a % 4294967296+b) (by omega),Zgi,Zk3]
    exact q1
   ·rw [Wm]
    rw [← dS j0 k 1,bA] at r
    exact Z83 _ _ _ _ _ _ _ _ _ _ _ _ (a % 4294967296).toNat _ _ (Tz d _) (by omega) (by omega) r
  by_cases hlt:u[j0+k]<a % 4294967296+b
  ·rw [if_pos (by simpa using hlt)]
   exact fin 1 (by omega) (by rw [IntKind.wrap_u32,IntKind.wrap_u32];omega)
  ·rw [if_neg (by simpa using hlt)]
   exact fin 0 (by omega) (by rw [IntKind.wrap_u32,IntKind.wrap_u32];omega)
structure Zju (U V E v1 v2 u2 top lU lV:Nat):Prop where
 hU:U=lU+E * (u2+4294967296 * top)
 hV:V=lV+E * (v2+4294967296 * v1)
 lu:lU<E
 lv:lV<E
 b2:u2<4294967296
 c2:v2<4294967296
 c1:v1<4294967296
 big:2147483648≤v1
 lt:U<4294967296 * V
namespace Zju
variable {U V E v1 v2 u2 top lU lV:Nat} (t:Zju U V E v1 v2 u2 top lU lV)
include t
theorem Vpos:0<V:=by
 have:=t.lt
 have:=t.lu
 omega
theorem uE:U<E * 4294967296 * (top+1):=by
 have a:E * (u2+1)≤E * 4294967296:=aT _ t.b2
 have b:=t.hU;have:=t.lu
 have e:E * (u2+4294967296 * top)=E * u2+E * 4294967296 * top:=by grind
 rw [e] at b
 rw [dP] at a ⊢
 omega
theorem Eu:E * 4294967296 * top≤U:=by
 have a:=t.hU
 have e:E * (u2+4294967296 * top)=E * u2+E * 4294967296 * top:=by grind
 omega
theorem vE:V<E * 4294967296 * (v1+1):=by
 have a:E * (v2+1)≤E * 4294967296:=aT _ t.c2
 have b:=t.hV;have:=t.lv
 have e:E * (v2+4294967296 * v1)=E * v2+E * 4294967296 * v1:=by grind
 rw [dP] at a ⊢
 omega
theorem Ev:E * 4294967296 * v1≤V:=by
 have a:=t.hV
 have e:E * (v2+4294967296 * v1)=E * v2+E * 4294967296 * v1:=by grind
 omega
theorem Epos:0<E:=by have:=t.lu;omega
theorem first:U / V≤top / v1:=by
 have a:0<v1:=by have:=t.big;omega
 rw [gR a]
 have c:U / V * V≤U:=Nat.div_mul_le_self U V
 have d:U / V * (E * 4294967296 * v1)≤U / V * V:=aT _ t.Ev
 have b:E * 4294967296 * (U / V * v1)<E * 4294967296 * (top+1):=by
  have e:E * 4294967296 * (U / V * v1)=U / V * (E * 4294967296 * v1):=by
   generalize U / V=q
   grind
  rw [e]
  have:=t.uE
  omega
 have:=fN b
 omega
theorem quo:U / V<4294967296:=(eH t.Vpos).2 t.lt
theorem great {g r:Nat} (h:g * v1+r=top) (h2:r * 4294967296+u2<g * v2):U / V<g:=by
 rw [eH t.Vpos]
 have a:u2+4294967296 * top+1≤g * (v2+4294967296 * v1):=by
  have:4294967296 * (g * v1+r)=4294967296 * top:=by rw [h]
  have e:g * (v2+4294967296 * v1)=g * v2+4294967296 * (g * v1):=by grind
  rw [e];omega
 have b:=aT E a
 have c:E * (g * (v2+4294967296 * v1))≤g * V:=by
  have:=t.hV
  have e:g * V=g * lV+E * (g * (v2+4294967296 * v1)):=by rw [this];grind
  omega
 have:=t.hU;have:=t.lu
 rw [dP] at b
 omega
theorem fine {g r:Nat} (hg:g<4294967296) (h:g * v1+r=top) (h2:g * v2≤r * 4294967296+u2):g * V<U+V:=by
 have a:g * (v2+4294967296 * v1)≤u2+4294967296 * top:=by
  have:4294967296 * (g * v1+r)=4294967296 * top:=by rw [h]
  have e:g * (v2+4294967296 * v1)=g * v2+4294967296 * (g * v1):=by grind
  rw [e];omega
 have b:=aT E a
 have e:g * V=g * lV+E * (g * (v2+4294967296 * v1)):=by rw [t.hV];grind
 have c:g * lV≤4294967295 * E:=iB (by omega) (by have:=t.lv;omega)
 have d:E * 4294967296 * 1≤E * 4294967296 * v1:=aT _ (by have:=t.big;omega)
 have:=t.Ev;have:=t.hU;have:=t.Epos
 omega
theorem topv:top / 4294967296≤v1:=by
 have b:=t.Eu
 have c:=t.lt
 have d:=t.vE
 have a:E * 4294967296 * top<E * 4294967296 * (4294967296 * (v1+1)):=by
  have:E * 4294967296 * (4294967296 * (v1+1))=4294967296 * (E * 4294967296 * (v1+1)):=by grind
  omega
 have:=fN a
 omega
theorem over {g r:Nat} (h:g * v1+r=top) (hr:4294967296≤r):g<4294967296:=by
 have b:=t.topv
 have a:g * v1<4294967296 * v1:=by omega
 exact Nat.lt_of_mul_lt_mul_right a
theorem stop {g r:Nat} (h:g * v1+r=top) (hr:4294967296≤r):g * V<U+V:=by
 have b:=t.over h hr
 have a:=t.vE
 have c:g * V≤g * (E * 4294967296 * (v1+1)):=aT _ (lK a)
 have e:g * (E * 4294967296 * (v1+1))=E * 4294967296 * (g * v1+g):=by grind
 have d:E * 4294967296 * (g * v1+g)≤E * 4294967296 * top:=aT _ (by omega)
 have:=t.Eu;have:=t.Vpos
 omega
end Zju
def Ztq (X:Option R6) (R:Nat→Option R6) (q U V:Nat):Prop:=∃ g:Nat,X=R g∧q≤g∧g<4294967296∧g * V<U+V
theorem Zvi (N j0:Nat) (u v:List Int) (hu:Zn u) (hv:Zn v) (hn:2≤v.length) (hl:j0+v.length<u.length) (hs:v.length<4611686018427387904) {U V E lU lV top q:Nat} (hq:U / V=q)
  (t:Zju U V E (v[v.length - 1]).toNat (v[v.length - 2]).toNat (u[j0+v.length - 2]).toNat top lU lV) (htop:top<18446744073709551616):
  ∀ (n g r:Nat),g * (v[v.length - 1]).toNat+r=top→q≤g→r<4294967296→4294967296≤r+2147483648 * n→
  Ztq (Qk N j0 (v.length+1) u v n (g:Int) (r:Int)) (fun g'=>Ut j0 (v.length+1) v (g':Int) v 0 u 0 0) q U V
 | 0,g,r,_,_,k,l=>by omega
 | n+1,g,r,c,m,k,l=>by
  have e:v.length - 1<v.length:=by omega
  have f:v.length - 2<v.length:=by omega
  have i:j0+v.length - 2<u.length:=by omega
  have A:=hv.get e
  have B:=hv.get f
  have C:=hu.get i
  have o:=t.big
  have w:g≤top:=by
   have:g * 1≤g * (v[v.length - 1]).toNat:=aT _ (by omega)
   omega
  -- one a
  have a:q<g→Ztq (Zk0 j0 (v.length+1) u v (g:Int) (r:Int) (Qk N j0 (v.length+1) u v n)) (fun g'=>Ut j0 (v.length+1) v (g':Int) v 0 u 0 0) q U V:=fun y=>by
   have b:(g - 1) * (v[v.length - 1]).toNat+(r+(v[v.length - 1]).toNat)=top:=by
    have:(g - 1+1) * (v[v.length - 1]).toNat+r=top:=by rw [show g - 1+1=g by omega];exact c
    rw [aV] at this
    omega
   have j:u64.wrap ((g:Int) - 1)=((g - 1:Nat):Int):=by rw [Xm (by omega)];omega
   have p:u64.wrap ((r:Int)+u64.wrap v[v.length - 1])=((r+(v[v.length - 1]).toNat:Nat):Int):=by rw [Xm (x:=v[v.length - 1]) (by omega),Xm (by omega)];omega
   rw [Zk0,Zw (by omega),show (v.length:Int) - 1=((v.length - 1:Nat):Int) by omega,Z0 e,oB,p,j]
   by_cases hb:4294967296≤r+(v[v.length - 1]).toNat
   ·rw [if_pos (dT (by omega)),Zvj,j]
    exact ⟨g - 1,rfl,by omega,t.over b hb,t.stop b hb⟩
   ·rw [if_neg (dF (by omega))]
    exact Zvi N j0 u v hu hv hn hl hs hq t htop n (g - 1) (r+(v[v.length - 1]).toNat) b (by omega) (by omega) (by omega)
  have d:=t.quo
  rw [hq] at d
  rw [Qk.eq_2]
  by_cases hgb2:4294967295<g
  ·rw [if_pos (dT (by omega)),Zfi,if_pos rfl]
   exact a (by omega)
  ·have D:g * (v[v.length - 2]).toNat≤4294967295 * 4294967295:=iB (by omega) (by omega)
   have s:(g:Int) * v[v.length - 2]=((g * (v[v.length - 2]).toNat:Nat):Int):=by
    rw [bV];congr 1;omega
   rw [if_neg (dF (by omega)),if_pos (dT (by omega)),Zw (by omega),show (v.length:Int) - 2=((v.length - 2:Nat):Int) by omega,Z0 f,oB,Xf (by omega),show (j0:Int)+((v.length - 2:Nat):Int)=((j0+v.length - 2:Nat):Int) by omega,Z0 i,oB,Zfi,
    Xm (x:=u[j0+v.length - 2]) (by omega),Zpi (by omega) (by omega),Xm (x:=v[v.length - 2]) (by omega),s,Xm (by omega)]
   by_cases hc:r * 4294967296+(u[j0+v.length - 2]).toNat<g * (v[v.length - 2]).toNat
   ·rw [if_pos (dT (by omega))]
    exact a (by rw [← hq];exact t.great c hc)
   ·rw [if_neg (dF (by omega))]
    exact ⟨g,rfl,m,by omega,t.fine (by omega) c (by omega)⟩
theorem Zqn {u w:List Int} {j0 n P:Nat} (hP:4294967296 ^ (n+1)=P) (hl:j0+n<u.length) (hz:Zc (u.drop (j0+n+1))=0) (h1:w.length=u.length) (h2:Zn w) (h3:w.drop (j0+n+1)=u.drop (j0+n+1)):Zc (w.drop j0)<P:=by
 have:=Qq ((h2.drop j0).take (n+1))
 rw [nK,bP,bD (by omega),hP] at this
 have e:=T0 (w.drop j0) (n+1)
 rw [hP,dR,← dS,h3,hz] at e
 omega
theorem Zvn {u w:List Int} {j0 n P Q x y:Nat} (hP:4294967296 ^ (n+1)=P) (hQ:4294967296 ^ j0=Q) (h4:w.take j0=u.take j0) (h:Zc w+Q * x=Zc u+y * 4294967296 ^ (j0+n+1)):Zc (w.drop j0)+x=Zc (u.drop j0)+y * P:=by
 have c:(4294967296:Nat) ^ (j0+n+1)=Q * P:=by rw [← hQ,← hP,← dH,dS]
 have d:0<Q:=by rw [← hQ];exact fS (by decide)
 have b:=T0 u j0
 have a:=T0 w j0
 rw [h4] at a
 rw [hQ] at b a
 rw [c,b,a] at h
 clear c hP hQ b a h4
 refine Nat.eq_of_mul_eq_mul_left d ?_
 grind
theorem Z6g {U V P q g over P1:Nat} (hq:U / V=q) (hV:0<V) (hg1:q≤g) (hg3:g * V<U+V) (k1:P1+g * V=U+over * P) (p1:P1<P):
  (over=0→g=q∧P1=U % V)∧(over=1→g=q+1∧∀ P2 co,V<P→P2<P→P2+co * P=P1+V→P2=U % V):=by
 have d:V * q+U % V=U:=by rw [← hq];exact kQ _ _
 have j:=eU U hV
 have a:∀ x y:Nat,x<y→x * V+V≤y * V:=fun x y e=>by
  have:=bC V (show x+1≤y from e)
  rw [aV,aX] at this;exact this
 rw [bY] at d
 constructor
 ·intro c
  subst c
  have b:g=q:=by
   have i:¬ q<g:=fun h=>by
    have:=a _ _ h
    omega
   omega
  subst b
  exact ⟨rfl,by omega⟩
 ·intro c
  subst c
  have b:g=q+1:=by
   have m:¬ g≤q:=fun h=>by
    have:=bC V h
    omega
   have i:¬ q+1<g:=fun h=>by
    have:=a _ _ h
    rw [aV,aX] at this
    omega
   omega
  refine ⟨b,fun P2 co k p2 n=>?_⟩
  have l:g * V=q * V+V:=by rw [b,aV,aX]
  have f:co=1:=by
   rcases Nat.lt_trichotomy co 1 with h | h | h
   ·have:co=0:=by omega
    subst this;omega
   ·exact h
   ·have:=bC P (show 2≤co from h)
    omega
  subst f
  omega
theorem Z6h {N j0:Nat} {u v:List Int} (hN:2≤N) (hu:Zn u) (hv:Zn v) (hn:2≤v.length) (hl:j0+v.length<u.length) (hs:u.length<4611686018427387904)
  (hz:Zc (u.drop (j0+v.length+1))=0) (hbig:2147483648≤(v[v.length - 1]).toNat) (hlt:Zc (u.drop j0)<4294967296 * Zc v):
  ∃ u',Zid N j0 (v.length+1) u v=some (((Zc (u.drop j0) / Zc v:Nat):Int),u')∧u'.length=u.length∧Zn u'∧u'.take j0=u.take j0∧Zc (u'.drop j0)=Zc (u.drop j0) % Zc v∧Zc (u.drop j0) / Zc v<4294967296:=by
 have f:v.length - 1<v.length:=by omega
 have r:v.length - 2<v.length:=by omega
 have s:j0+v.length - 2<u.length:=by omega
 have i:j0+v.length - 1<u.length:=by omega
 have c1:=hv.get f
 have c2:=hv.get r
 have c3:=hu.get s
 have c4:=hu.get i
 have c5:=hu.get hl
 -- the Ze above
 have O:Zc v=Zc (v.take (v.length - 2))+4294967296 ^ (v.length - 2) * ((v[v.length - 2]).toNat+4294967296 * (v[v.length - 1]).toNat):=by
  rw [T0 v (v.length - 2),Uw r,show v.length - 2+1=v.length - 1 by omega,Uw f,show v.length - 1+1=v.length by omega,fZ,Yy];simp
 have R:Zc (u.drop j0)=Zc ((u.drop j0).take (v.length - 2))+4294967296 ^ (v.length - 2) * ((u[j0+v.length - 2]).toNat+4294967296 * ((u[j0+v.length]).toNat * 4294967296+(u[j0+v.length - 1]).toNat)):=by
  have S:j0+(v.length - 2)=j0+v.length - 2:=by omega
  rw [T0 (u.drop j0) (v.length - 2),dR,S,Uw s,show j0+v.length - 2+1=j0+v.length - 1 by omega,Uw i,show j0+v.length - 1+1=j0+v.length by omega,Uw hl,hz]
  congr 3
  omega
 have lV:=Qq (hv.take (v.length - 2))
 have lU:=Qq ((hu.drop j0).take (v.length - 2))
 rw [nK,bD (by omega)] at lV
 rw [nK,bP,bD (by omega)] at lU
 have t:Zju (Zc (u.drop j0)) (Zc v) (4294967296 ^ (v.length - 2)) (v[v.length - 1]).toNat (v[v.length - 2]).toNat (u[j0+v.length - 2]).toNat ((u[j0+v.length]).toNat * 4294967296+(u[j0+v.length - 1]).toNat) _ _:=
  ⟨R,O,lU,lV,by omega,by omega,by omega,hbig,hlt⟩
 have T:=t.Vpos
 have b:(u[j0+v.length]).toNat * 4294967296+(u[j0+v.length - 1]).toNat<18446744073709551616:=by omega
 obtain ⟨q,d⟩:∃ q,Zc (u.drop j0) / Zc v=q:=⟨_,rfl⟩
 obtain ⟨g,A,B,a2,C⟩:=Zvi N j0 u v hu hv hn hl (by omega) d t b N _ _ (Nat.div_add_mod' _ _) (by rw [← d];exact t.first) (aE (eU _ (by omega)) (by omega)) (by omega)
 have W:Zid N j0 (v.length+1) u v=Ut j0 (v.length+1) v (g:Int) v 0 u 0 0:=by
  refine Eq.trans ?_ A
  rw [Zid,Xf (by omega),show (j0:Int)+(v.length:Int)=((j0+v.length:Nat):Int) by omega,Z0 hl,oB,Zw (by omega),show (v.length:Int) - 1=((v.length - 1:Nat):Int) by omega,Xf (by omega),
   show (j0:Int)+((v.length - 1:Nat):Int)=((j0+v.length - 1:Nat):Int) by omega,Z0 i,oB,Z0 f,oB,Xm (x:=v[v.length - 1]) (by omega),Xf (by omega),Xf (by omega),Xm (x:=u[j0+v.length]) (by omega),Xm (x:=u[j0+v.length - 1]) (by omega),Zpi (by omega) (by omega)]
  have ev:v[v.length - 1]=((v[v.length - 1]).toNat:Int):=by omega
  have X:u[j0+v.length] * 4294967296+u[j0+v.length - 1]=(((u[j0+v.length]).toNat * 4294967296+(u[j0+v.length - 1]).toNat:Nat):Int):=by omega
  rw [X,ev,cD (by omega),cK (by omega),← iN,← kK,aD]
  rw [Xm ⟨fT _,gS.2 (eK (cS _ _) b)⟩]
 obtain ⟨j,over,q0,q1,D,k,l,F,m⟩:=Zvl j0 v (g:Int) (by omega) v 0 u 0 0 hv (by omega) hu hl (by omega) (by omega)
 have a:=t.quo
 rw [d] at a ⊢
 rw [W,q1]
 obtain ⟨P,c⟩:∃ P:Nat,4294967296 ^ (v.length+1)=P:=⟨_,rfl⟩
 obtain ⟨Q,e⟩:∃ Q:Nat,4294967296 ^ j0=Q:=⟨_,rfl⟩
 simp only [bU,fG,aD,cR] at m
 rw [e] at m
 have Y:=Zvn c e l m
 have p1:=Zqn c hl hz D k F
 have G:Zc v<P:=by
  have:=Qq hv
  have H:=Zqn (u:=v++[0]) (w:=v++[0]) (j0:=0) (n:=v.length) c (by simp) (by simp [Zc]) rfl (hv.app (.cons (by decide) .nil)) rfl
  rw [aP,Zyb] at H
  exact H
 have I:=Z6g d T B C Y p1
 by_cases ho:over=1
 ·obtain ⟨J,o⟩:=I.2 ho
  subst ho
  rw [if_pos rfl]
  obtain ⟨u2,K,Z,r2,L,M,r5,p⟩:=Zvm j0 v (g:Int) v 0 j 0 hv (by omega) k (by omega) (by omega)
  have p2:=Zqn c hl hz (by omega) L (by rw [r5,F])
  simp only [bU,fG,cR] at p
  rw [e] at p
  have k2:=Zvn (u:=u2) (w:=j) (x:=Zc v) (y:=K) c e (by rw [M]) p.symm
  refine ⟨u2,?_,by omega,L,by rw [M,l],o _ K G p2 k2.symm,a⟩
  rw [Z,Xm (by omega),Uo (by omega)]
  congr 2;omega
 ·obtain ⟨J,o⟩:=I.1 (by omega)
  rw [if_neg ho,Zcd,Uo (by omega)]
  exact ⟨j,by rw [J],D,k,l,o,a⟩
def Zdr (N:Nat):Nat→R2→R2→Option R2
  | 0,_,_=>none
  | ac+1,ab,aa=>if (decide (0<(aa.length:Int)))=true then ((Zff N ab aa).bind fun ad=>(Zdr N ac) aa ad.2.1) else (some ab)
termination_by structural x=>x
def Zkz (N:Nat) (aa:List Int) (ab:List Int):Option R2:=
  (Tg N aa).bind fun ac=>(Tg N ab).bind fun ad=>Zdr N N ac ad
theorem Z4y {N ar au:Nat} {a0 a1:Option Addr} {col:Zd} {w0:World} {ak al r:R2} (c1:Nat) (hm:Zkz N ak al=some r) (h0:Sl rU col w0 a0 ar ak) (h1:Sl rU col w0 a1 au al):
    Calls prog 151 #[.slice a0 ak.length ar,.slice a1 al.length au] w0 (fun e w'=>∃ (col':Zd) (ra1:Option Addr) (rc2:Nat),e= .returned ((.slice ra1 r.length rc2))∧Zf col w0 col' w'∧Zb rU 95 c1 col' w' ra1 rc2 r):=by
 refine Xe 4 (m:=25) func151 rfl rfl rfl rfl rfl ?_;rw [Zkz.eq_1] at hm;have aa:=St.start col w0;refine go ?_;obtain ⟨a9,a3,hm⟩:=bZ hm;refine Zi (S8 1 a3 (h0.k0.ks aa)) ?_;rintro _ ba ⟨bb,bc,bd,rfl,a4,am⟩;refine ⟨_,rfl,?_⟩;refine Y2 rfl ?_;obtain ⟨be,a5,hm⟩:=bZ hm;replace aa:=aa.grow a4;refine Zi (S8 2 a5 (h1.k0.ks aa)) ?_;rintro _ bf ⟨bg,bh,bi,rfl,av,a6⟩;refine ⟨_,rfl,go ?_⟩;replace aa:=aa.grow av;refine Zv [1000000] (fun n f ag=>∃ ac an ao ai ap aq aj ae,ae=n∧Zdr N ae ai aj=some r∧St w0 (Zj col) ac ag∧Zb rU 95 1 ac ag an ao ai∧Zb rU 95 2 ac ag ap aq aj∧[0,1].map f=[.slice an ai.length ao,.slice ap aj.length aq]) N ⟨_,_,_,_,_,_,_,_,rfl,hm,aa,am.gr av,a6,rfl⟩ ?_;clear hm;intro n f ag hI;obtain ⟨ac,an,ao,ai,ap,aq,aj,ae,hn,hm,aa,aw,ab,hs⟩:=hI;subst hn;refine .lL [0,1] hs ?_
 cases ae with
 | zero=>rw [Zdr.eq_1] at hm;cases hm
 | succ ae=>
  rw [Zdr.eq_2] at hm;refine go ?_;refine Zo hm (fun hb hm=>go ?_) fun hb hm=>go ?_
  ·obtain ⟨af,a7,hm⟩:=bZ hm;refine Zi (Zp7 3 4 a7 ((aw.toSlF (Zh.int .u32)).froz 2) ((ab.froz 1).toSlF (Zh.int .u32))) ?_;rintro _ bj ⟨a8,ax,ay,az,a2,rfl,ah,bk,ad⟩;refine ⟨_,rfl,?_⟩;replace ad:=ad.thaw (Z1 .u32) ah (((Fz.refl (col:=ac)).froz 1).froz 2);replace ah:=ah.thawR (col:=ac);generalize Xc ag.heap.size ac a8=bm at *;refine lM (.tuple #[.slice ax af.1.length ay,.slice az af.2.1.length a2,.int .i64 af.2.2])<|lV (.slice ax af.1.length ay) (Xo rfl rfl)<|lV (.slice az af.2.1.length a2) (Xo rfl rfl)<|lV (.int .i64 af.2.2) (Xo rfl rfl)<|go ?_;replace ab:=ab.gr ah;replace ab:=ab.recolSelf 1 (by decide);replace ad:=ad.recol 2 1;replace aa:=aa.grow ah;replace aa:=aa.recol 2 1 (by decide) (by decide);replace ad:=ad.recolSelf 2 (by decide);replace aa:=aa.recol 4 2 (by decide) (by decide);exact ⟨ae,by omega,rfl,⟨_,_,_,_,_,_,_,_,rfl,hm,aa,ab.recol 4 2,ad,rfl⟩⟩
  cases hm;exact ⟨rfl,_,_,_,rfl,aa.fin (cm [(1,c1)]),aa.fo aw⟩
theorem Z2s (N:Nat):∀ (n:Nat) (a:List Int),Zcf N n a=Sx N n a
 | 0,a=>rfl
 | n+1,a=>by
  rw [Zcf.eq_2,Sx.eq_2]
  simp only [Zk5,Zce,Z2s N n]
theorem Z2t {N:Nat} {a:List Int} (h:Zn a) (hn:a.length<N) (hb:a.length≤35184372088000):Zfl N a=some (Ze (Zc a)):=by
 rw [Zfl,Z2s];exact Zph N N a h hn (by omega)
theorem Xam {x L nx s:Nat} (hs:s<32) (hx:x<4294967296) (hn:nx=L % 4294967296):(x+4294967296 * L) / 2 ^ s=(x+4294967296 * nx) / 2 ^ s % 4294967296+4294967296 * (L / 2 ^ s):=by
 have a:(2:Nat) ^ s * 2 ^ (32 - s)=4294967296:=by rw [← dH,show s+(32 - s)=32 by omega]
 have b:=cG s
 generalize 2 ^ s=p at *
 generalize 2 ^ (32 - s)=r at *
 have c:(x+4294967296 * L) / p / 4294967296=L / p:=by
  rw [gT,bY p,← gT]
  congr 1
  omega
 have d:(x+4294967296 * L) / p % 4294967296=(x+4294967296 * nx) / p % 4294967296:=by
  have e:x+4294967296 * L=x+4294967296 * nx+p * (4294967296 * (r * (L / 4294967296))):=by
   have g:L=nx+4294967296 * (L / 4294967296):=by omega
   have f:p * (4294967296 * (r * (L / 4294967296)))=4294967296 * (p * r) * (L / 4294967296):=by grind
   rw [f,a]
   omega
  rw [e,iA _ _ b,iY]
 rw [← c,← d]
 omega
theorem Zvp (N s:Nat) (hs:s<32) (q r:List Int) (hq:Zn q) (hr:Zn r) (hN:q.length<N∧r.length<N) (hb:q.length≤35184372088000∧r.length≤35184372088000):∀ (n i:Nat) (u d:List Int),i≤r.length→r.length<n+i→u=d++r.drop i→d.length=i→Zn d→Zc d+4294967296 ^ i * (Zc (r.drop i) / 2 ^ s)=Zc r / 2 ^ s→
  Qj N (s:Int) q r n u (i:Int)=some (Ze (Zc q),Ze (Zc r / 2 ^ s),0)
 | 0,i,u,d,m,o,_,_,_,_=>by omega
 | n+1,i,u,d,m,o,b,c,e,j=>by
  have y:u.length=r.length:=by rw [b,nA,bP];omega
  rw [Qj.eq_2]
  by_cases hi:i<r.length
  ·have f:=aJ hi
   have g:=hr.get hi
   have p:u[i]'(by omega)=r[i]:=by
    subst b
    rw [fU (by omega)]
    simp [c]
   have step:∀ a:Nat,a=Zc (r.drop (i+1)) % 4294967296→Zib (s:Int) u (i:Int) (Qj N (s:Int) q r n) (a:Int)=some (Ze (Zc q),Ze (Zc r / 2 ^ s),0):=fun a l=>by
    have t:u32.wrap (Y1 .u64 (Wh .u64 (Yc .u64 (u64.wrap (a:Int)) 32) (u64.wrap r[i])) (s:Int))=(((r[i]).toNat+4294967296 * a) / 2 ^ s % 4294967296:Nat):=by
     rw [Xm (x:=(a:Int)) (by omega),Xm (x:=r[i]) (by omega),Zpi (by omega) (by omega),show (a:Int) * 4294967296+r[i]=(((r[i]).toNat+4294967296 * a:Nat):Int) by omega,Zpc _ _ _ (by simp only [IntKind.bits];omega),Z25]
    have k:u.set i ((((r[i]).toNat+4294967296 * a) / 2 ^ s % 4294967296:Nat):Int)=(d++[((((r[i]).toNat+4294967296 * a) / 2 ^ s % 4294967296:Nat):Int)])++r.drop (i+1):=by
     subst b
     rw [f,List.set_append_right _ _ (by omega),c,hO,iE]
     simp
    rw [Zib,Z0 (by omega),oB,Xf (by omega),p,t,oB,Znt,Zw (by omega),aD,k]
    have v:=Zvp N s hs q r hq hr hN hb n (i+1) _ (d++[((((r[i]).toNat+4294967296 * a) / 2 ^ s % 4294967296:Nat):Int)]) (by omega) (by omega) rfl (by simp [c]) (e.app (.cons (by omega) .nil)) (by
     rw [Qp,c,Wm,Yy,aD,← j,f,Wm,Xam hs (by omega) l,bA]
     generalize ((r[i]).toNat+4294967296 * a) / 2 ^ s % 4294967296=A
     generalize Zc (r.drop (i+1)) / 2 ^ s=C
     grind)
    exact v
   rw [if_pos (dT (by omega)),Zw (by omega)]
   by_cases hi1:i+1<r.length
   ·have w:u[i+1]'(by omega)=r[i+1]:=by
     subst b
     rw [fU (by omega)]
     simp [c]
    have B:=hr.get hi1
    rw [if_pos (dT (by omega)),show (i:Int)+1=((i+1:Nat):Int) by omega,Z0 (by omega),oB,w,show r[i+1]=((r[i+1]).toNat:Int) by omega]
    exact step _ (by rw [Uw hi1];omega)
   ·rw [if_neg (dF (by omega))]
    have:=step 0 (by rw [aK (by omega)];rfl)
    exact this
  ·have:i=r.length:=by omega
   subst this
   rw [if_neg (dF (by omega))]
   rw [fZ,List.append_nil] at b
   rw [fZ,Yy,Nat.zero_div,dW,bU] at j
   subst b
   rw [Qr hq hN.1 hb.1,oB,Qr e (by omega) (by omega),oB,j]
theorem Zvo (N s:Nat) (v:List Int) (hN:2≤N) (hv:Zn v) (hn:2≤v.length) (hbig:2147483648≤(v[v.length - 1]).toNat):∀ (n j:Nat) (u q:List Int),j≤q.length→j<n→u.length=q.length+v.length→u.length<4611686018427387904→Zn u→Zn q→Zc (u.drop j)<Zc v→Zc (q.take j)=0→
  ∃ u' q',Zfg N (s:Int) v n u q ((j:Int) - 1)=((Zfl N u').bind fun r=>Qj N (s:Int) q' r N r 0)∧u'.length=u.length∧q'.length=q.length∧Zn u'∧Zn q'∧Zc u'<Zc v∧Zc v * Zc q'+Zc u'=Zc v * Zc q+Zc u
 | 0,j,u,q,_,h,_,_,_,_,_,_=>by omega
 | n+1,j,u,q,Z,Y,C,D,d,e,f,E=>by
  rw [Zfg.eq_2]
  by_cases h0:j=0
  ·subst h0
   rw [if_neg (by decide)]
   exact ⟨u,q,rfl,rfl,rfl,d,e,by simpa using f,rfl⟩
  ·have i:j - 1+1=j:=by omega
   have k:j - 1<u.length:=by omega
   have c:j - 1<q.length:=by omega
   have g:=d.get k
   have lv:=Qq hv
   have F:=T0 (u.drop j) v.length
   rw [dR] at F
   have l:Zc (u.drop (j - 1+v.length+1))=0:=by
    rw [show j - 1+v.length+1=j+v.length by omega]
    rcases fV (Zc (u.drop (j+v.length))) with h | h
    ·exact h
    ·have:=aT (4294967296 ^ v.length) h
     generalize 4294967296 ^ v.length=P at *
     omega
   have G:=Uw k
   rw [i] at G
   obtain ⟨u',q1,m,H,I,o,J⟩:=Z6h (N:=N) (j0:=j - 1) hN d hv hn (by omega) D l hbig (by omega)
   have p:0≤((Zc (u.drop (j - 1)) / Zc v:Nat):Int)∧((Zc (u.drop (j - 1)) / Zc v:Nat):Int)<4294967296:=⟨fT _,gS.2 J⟩
   rw [if_pos (dT (by omega)),show (j:Int) - 1=((j - 1:Nat):Int) by omega,Zw (x:=((j - 1:Nat):Int)+(v.length:Int)) (by omega),Zw (by omega),Xf (by omega),aD,
    show aA (((j - 1:Nat):Int)+(v.length:Int)+1) - (j - 1)=v.length+1 by omega,q1,oB,Z0 c,oB,oB,Zw (by omega)]
   have K:0<Zc v:=by omega
   -- the quotient's limb was 0
   have t:q[j - 1]=0∧Zc (q.take (j - 1))=0:=by
    have:=Zrv c
    rw [i,E] at this
    have g2:=e.get c
    have hp:0<4294967296 ^ (j - 1):=fS (by decide)
    have L:4294967296 ^ (j - 1) * (q[j - 1]).toNat=0:=by omega
    rcases Nat.mul_eq_zero.1 L with h | h
    ·omega
    ·exact ⟨by omega,by omega⟩
   obtain ⟨M,w,O,R,S,T,U,V,W⟩:=Zvo N s v hN hv hn hbig n (j - 1) u' (q.set (j - 1) ((Zc (u.drop (j - 1)) / Zc v:Nat):Int)) (by rw [nS];omega) (by omega) (by rw [nS,m];exact C) (by omega) H (e.set _ p) (by rw [o];exact eU _ K) (by rw [Zee _ (bB _)];exact t.2)
   refine ⟨M,w,O,by rw [R,m],by rw [S,nS],T,U,V,?_⟩
   rw [W]
   have X:=T0 u (j - 1)
   have y:=T0 u' (j - 1)
   rw [I,o] at y
   have A:=Tz c ((Zc (u.drop (j - 1)) / Zc v:Nat):Int)
   rw [t.1,fG,dW,bU,aD] at A
   rw [y,A,X]
   have B:=kQ (Zc (u.drop (j - 1))) (Zc v)
   generalize Zc (u.drop (j - 1)) / Zc v=a at *
   generalize Zc (u.drop (j - 1)) % Zc v=b at *
   rw [← B]
   generalize 4294967296 ^ (j - 1)=Q at *
   grind
theorem Z2n {l:List Int} (h:0<l.length):Zc l=Zc (l.take (l.length - 1))+4294967296 ^ (l.length - 1) * (l[l.length - 1]).toNat:=by
 conv=>lhs;rw [← Zg5 h,Qp,Wm,Yy]
 rw [nK,bD (by omega),dW,bU]
theorem Z2o {l:List Int} (hl:Zn l):Zc (l.take (l.length - 1))<4294967296 ^ (l.length - 1):=by
 have:=Qq (hl.take (l.length - 1))
 rw [nK,bD (by omega)] at this
 exact this
theorem Z6k {u:List Int} {k n S:Nat} (hu:Zn u) (hk:k+n=u.length) (hn:0<n) (ht:∀ h:u.length - 1<u.length,(u[u.length - 1]).toNat<S):Zc (u.drop k)<4294967296 ^ (n - 1) * S:=by
 have a:(u.drop k).length=n:=by rw [bP];omega
 have b:=Z2n (l:=u.drop k) (by omega)
 have c:=Z2o (hu.drop k)
 have d:((u.drop k)[(u.drop k).length - 1]'(by omega))=u[u.length - 1]'(by omega):=by
  have:(u.drop k)[(u.drop k).length - 1]?=u[u.length - 1]?:=by rw [List.getElem?_drop,a];congr 1;omega
  rw [aL (by omega),aL (by omega)] at this
  exact Option.some.inj this
 rw [d] at b
 rw [a] at b c
 have e:=ht (by omega)
 have f:=aT (4294967296 ^ (n - 1)) (show (u[u.length - 1]'(by omega)).toNat+1≤S from e)
 rw [dP] at f
 omega
theorem Zm6 {N:Nat} {a b:List Int} (ha:Zn a) (hb:Zn b) (hN:a.length+b.length+4<N) (hs:a.length+b.length≤35184372088000):
  Zff N a b=some (if Zc b=0 then ([],[],11) else (Ze (Zc a / Zc b),Ze (Zc a % Zc b),0)):=by
 have la:=Ys ha
 have lb:=Ys hb
 rw [Zff,Qy ha (by omega) (by omega),oB,Qy hb (by omega) (by omega),oB]
 generalize hA:Zc a=A at *
 generalize hB:Zc b=B at *
 by_cases h0:B=0
 ·subst h0
  rw [Vi,if_pos (by decide),if_pos rfl]
 ·have f:0<(Ze B).length:=cO.2 (fun h=>h0 (Zg7.1 h))
  rw [if_neg (dF (by omega)),if_neg h0,Zqj (Xd _) (Xd _) (by omega) (by omega) (by omega) (by omega),oB,Xb,Xb]
  by_cases hlt:A<B
  ·rw [if_pos hlt,if_pos (by decide),Qr (Xd _) (by omega) (by omega),oB,Xb,fB hlt,eT hlt,Vi]
  ·rw [if_neg hlt,if_neg (by split <;> decide)]
   have a5:(Ze B).length≤(Ze A).length:=by
    have i:=W8 (k:=(Ze A).length) (n:=B)
    have c:=W8 (k:=(Ze A).length) (n:=A)
    have:=c.1 (bB _)
    exact i.2 (by omega)
   by_cases i:(Ze B).length=1
   ·have g:=(Xd B).get f
    have v:=Zni f
    have e0:(Ze B).length - 1=0:=by omega
    have a7:(Ze B)[0]≠0:=by
     have:(Ze B)[(Ze B).length - 1]?=(Ze B)[0]?:=by rw [e0]
     rw [aL (by omega),aL (by omega)] at this
     rw [← Option.some.inj this];exact v
    have I:((Ze B)[0]).toNat=B:=by
     have c:=Xb B
     have C:=Uw (l:=Ze B) (k:=0) f
     rw [aP,c,aK (by omega),Yy] at C
     omega
    obtain ⟨q,q1,q2,q3,J⟩:=Xaq (N:=N) (a:=Ze A) (d:=(Ze B)[0]) (by omega) (Xd _) (by omega) (by omega)
    rw [I,Xb] at q1 J
    have hm:=eU A (show 0<B by omega)
    have D:B<4294967296:=by omega
    have K:Zn [((A % B:Nat):Int)]:=.cons ⟨fT _,gS.2 (lN hm D)⟩ .nil
    rw [if_pos (dT (by omega)),Zqi (by omega),oB,show (0:Int)=((0:Nat):Int) from rfl,Z0 f,oB,q1,oB,Qr q3 (by omega) (by omega),oB,Qr K (by simp;omega) (by simp),oB,J,Wm,Yy,aD,dW,bU]
   ·have L:0<(Ze B).length:=f
    have M:(Ze B).length - 1<(Ze B).length:=by omega
    have g:=(Xd B).get M
    have v:=Zni f
    obtain ⟨k,ek,k1,k2⟩:=Zmp (show ((Ze B)[(Ze B).length - 1]).toNat≠0 by omega)
    have hk:k≤31:=by
     have:Xg ((Ze B)[(Ze B).length - 1]).toNat≤32:=Ui.2 (by omega)
     omega
    obtain ⟨s,O⟩:∃ s,s=31 - k:=⟨_,rfl⟩
    have Q:Zkt (Ze B)[(Ze B).length - 1]=some (s:Int):=by
     rw [Zkt,show (Ze B)[(Ze B).length - 1]=(((Ze B)[(Ze B).length - 1]).toNat:Int) by omega,Zxg (by omega),oB,ek,Zw (by omega)]
     congr 1;omega
    obtain ⟨u,u1,u2,R,S,u5⟩:=Zxf (a:=Ze A) (s:=s) (by omega) (Xd _) (by omega)
    obtain ⟨w,w1,w2,w3,T,w5⟩:=Zxf (a:=Ze B) (s:=s) (by omega) (Xd _) (by omega)
    rw [Xb] at S T
    have j:=cG s
    -- the divisor, its highest Yb set
    have U:=Zg5 L
    have V:=Qq ((Xd B).take ((Ze B).length - 1))
    rw [nK,bD (by omega)] at V
    have I:B=Zc ((Ze B).take ((Ze B).length - 1))+4294967296 ^ ((Ze B).length - 1) * ((Ze B)[(Ze B).length - 1]).toNat:=by
     conv=>lhs;rw [← Xb B,← U,Qp,Wm,Yy]
     rw [nK,bD (by omega)];simp
    have W:2 ^ k * 2 ^ s=2147483648:=by rw [← dH,O,show k+(31 - k)=31 by omega]
    have X:2 ^ (k+1) * 2 ^ s=4294967296:=by rw [bA,Nat.mul_right_comm,W]
    have c2:0<4294967296 ^ ((Ze B).length - 1):=fS (by decide)
    have b7:(Ze B).length - 1+1=(Ze B).length:=by omega
    have Y:(4294967296:Nat) ^ (Ze B).length=4294967296 ^ ((Ze B).length - 1) * 4294967296:=by rw [← bA];congr 1;omega
    generalize hPe:4294967296 ^ ((Ze B).length - 1)=P at *
    have b8:P * 2147483648≤2 ^ s * B:=by
     have i:=aT P k1
     have c:=bC (2 ^ s) (show P * 2 ^ k≤B by omega)
     rw [cC,W] at c
     rw [bY (2 ^ s)];exact c
    have E:2 ^ s * B<P * 4294967296:=by
     have i:=aT P (show ((Ze B)[(Ze B).length - 1]).toNat+1≤2 ^ (k+1) from k2)
     rw [dP] at i
     have c:=iM (show B<P * 2 ^ (k+1) by omega) j
     rw [cC,X] at c
     rw [bY (2 ^ s)];exact c
    have Z:(Ze (2 ^ s * B)).length=(Ze B).length:=by
     have i:(Ze (2 ^ s * B)).length≤(Ze B).length:=W8.2 (by rw [Y];exact E)
     have c:¬ (Ze (2 ^ s * B)).length≤(Ze B).length - 1:=fun h=>by
      have:=W8.1 h
      rw [hPe] at this
      have:P * 1≤P * 2147483648:=aT _ (by decide)
      omega
     omega
    have a0:0<(Ze (2 ^ s * B)).length:=by omega
    have F:2147483648≤((Ze (2 ^ s * B))[(Ze (2 ^ s * B)).length - 1]).toNat:=by
     have a1:=Z2o (Xd (2 ^ s * B))
     have e:=Z2n a0
     have y:(4294967296:Nat) ^ ((Ze (2 ^ s * B)).length - 1)=P:=by rw [Z];exact hPe
     rw [Xb,y] at e
     rw [y] at a1
     generalize Zc ((Ze (2 ^ s * B)).take ((Ze (2 ^ s * B)).length - 1))=lo at *
     generalize ((Ze (2 ^ s * B))[(Ze (2 ^ s * B)).length - 1]).toNat=t at *
     have C:P * 2147483648<P * (t+1):=by rw [dP];omega
     have:=fN C
     omega
    obtain ⟨q,m⟩:∃ q,q=aM ((Ze A).length - (Ze B).length+1) (0:Int):=⟨_,rfl⟩
    have lq:q.length=(Ze A).length - (Ze B).length+1:=by rw [m,bI]
    rw [if_neg (dF (by omega)),Zw (x:=((Ze B).length:Int) - 1) (by omega),show ((Ze B).length:Int) - 1=(((Ze B).length - 1:Nat):Int) by omega,Z0 M,oB,Q,oB,u1,oB,w1,oB,
     Z2t w3 (by omega) (by omega),oB,T,Zw (x:=((Ze A).length:Int) - ((Ze B).length:Int)) (by omega),Zw (x:=((Ze A).length:Int) - ((Ze B).length:Int)+1) (by omega),Xf (by simp only [maxLen];omega),
     show aA (((Ze A).length:Int) - ((Ze B).length:Int)+1)=(Ze A).length - (Ze B).length+1 by omega,← m,Zw (x:=(q.length:Int) - 1) (by omega)]
    obtain ⟨u',q',r1,r2,r3,r4,r5,G,p⟩:=Zvo N s (Ze (2 ^ s * B)) (by omega) (Xd _) (by omega) F N q.length u q (bB _) (by omega) (by omega) (by omega) R (by rw [m];exact .zeros _) (by
     -- the highest Ze are below the divisor
     rw [Xb]
     have i:=Z6k (k:=q.length) (n:=(Ze B).length) R (by omega) L u5
     rw [hPe] at i
     have H:2 ^ s≤2147483648:=by
      have:=gW (n:=2) (by decide) (show s≤31 by omega)
      omega
     have h8:=aT P H
     omega) (by rw [m,List.take_replicate];exact Sf _)
    rw [r1,Z2t r4 (by omega) (by omega),oB]
    rw [Xb] at G p
    have zq:Zc q=0:=by rw [m];exact Sf _
    rw [zq,S,dW,cR] at p
    have ll:=Ys r4
    have o:=Zvp N s (by omega) q' (Ze (Zc u')) r5 (Xd _) (by omega) (by omega) N 0 (Ze (Zc u')) [] (by omega) (by omega) (by simp) rfl .nil (by rw [Yy,aP,dV];omega)
    rw [show ((0:Nat):Int)=0 from rfl] at o
    rw [o,Xb]
    have a3:Zc q'=A / B:=by
     have r:2 ^ s * A / (2 ^ s * B)=Zc q':=by
      rw [← p,Nat.mul_add_div (by omega),fB G,bU]
     rw [← r,Nat.mul_div_mul_left _ _ j]
    have a4:Zc u' / 2 ^ s=A % B:=by
     have r:2 ^ s * A % (2 ^ s * B)=Zc u':=by
      rw [← p,Nat.mul_add_mod,eT G]
     rw [jT] at r
     rw [← r,Nat.mul_div_cancel_left _ j]
    rw [a3,a4]
theorem Z7m {x y:Nat} (h:y≤x) (hy:0<y):y * (x % y)≤x * y / 2:=by
 have c:x % y+y≤x:=by
  have:=Nat.mod_add_div x y
  have a:y * 1≤y * (x / y):=aT _ (Nat.div_pos h hy)
  omega
 have a:=eU x hy
 have b:y * (2 * (x % y))≤y * x:=aT _ (by omega)
 rw [gR (by decide),bY x y,cC,bY (x % y) 2]
 exact b
theorem Zqy (N:Nat):∀ (n x y:Nat),y≤x→Xg (x * y)<n→(Ze x).length+(Ze y).length+4<N→(Ze x).length+(Ze y).length≤35184372088000→Zdr N n (Ze x) (Ze y)=some (Ze (dA x y))
 | 0,x,y,_,h,_,_=>by omega
 | n+1,x,y,a,i,c,d=>by
  rw [Zdr.eq_2]
  by_cases h0:y=0
  ·subst h0
   rw [Vi,if_neg (by decide),Nat.gcd_zero_right]
  ·have j:0<(Ze y).length:=cO.2 (fun h=>h0 (Zg7.1 h))
   have b:=eU x (show 0<y by omega)
   have k:(Ze (x % y)).length≤(Ze y).length:=W8.2 (lN b (W8.1 (bB _)))
   have l:(Ze y).length≤(Ze x).length:=W8.2 (eK a (W8.1 (bB _)))
   rw [if_pos (dT (by omega)),Zm6 (Xd _) (Xd _) c d,oB,Xb,Xb,if_neg h0]
   have e:Xg (y * (x % y))<n:=by
    have f:=Z7m a (by omega)
    have g:Xg (y * (x % y))≤Xg (x * y / 2 ^ 1):=Ui.2 (eK (by rw [Nat.pow_one];exact f) (Ui.1 (bB _)))
    rw [Zjx] at g
    have m:0<x * y:=Nat.mul_pos (by omega) (by omega)
    have o:0<Xg (x * y):=by
     rcases fV (Xg (x * y)) with h | h
     ·have:=Ui.1 (show Xg (x * y)≤0 by omega)
      omega
     ·exact h
    omega
   have:=Zqy N n y (x % y) (lK b) e (by omega) (by omega)
   rw [this,fJ x y,Nat.gcd_rec y x,fJ]
theorem Zt5 (x y:Nat):Xg (x * y)≤Xg x+Xg y:=by
 refine Ui.2 ?_
 rw [dH]
 have a:=Ui.1 (bB (Xg x))
 have b:=Ui.1 (bB (Xg y))
 exact kL a b
theorem Z7l {N:Nat} {a b:List Int} (ha:Zn a) (hb:Zn b) (hN:32 * (a.length+b.length)+8<N) (hs:a.length+b.length≤35184372088000):Zkz N a b=some (Ze (dA (Zc a) (Zc b))):=by
 have e:=Ys ha
 have f:=Ys hb
 have g:=(Zmn (Zc a)).2
 have i:=(Zmn (Zc b)).2
 rw [Zkz,Qr ha (by omega) (by omega),oB,Qr hb (by omega) (by omega),oB]
 by_cases h:Zc b≤Zc a
 ·have:=Zt5 (Zc a) (Zc b)
  exact Zqy N N _ _ h (by omega) (by omega) (by omega)
 ·have d:Zc a<Zc b:=by omega
  have j:=Zt5 (Zc b) (Zc a)
  have k:0<(Ze (Zc b)).length:=cO.2 (fun h=>by have:=Zg7.1 h;omega)
  obtain ⟨c,rfl⟩:∃ c,N=c+1:=⟨N - 1,by omega⟩
  rw [Zdr.eq_2,if_pos (dT (by omega)),Zm6 (Xd _) (Xd _) (by omega) (by omega),oB,Xb,Xb,if_neg (by omega),eT d,
   Zqy (c+1) c _ _ (by omega) (by omega) (by omega) (by omega),fJ]
abbrev ZV:=Bool×List Int
abbrev QV:=R5×List Int
def Zu (a:ZV):Int:=if a.1=true then -(Zc a.2:Int) else (Zc a.2:Int)
def Xs (z:Int):ZV:=(decide (z<0),Ze z.natAbs)
def Yg (l:List Int):Nat:=if Zc l=0 then 1 else Zc l
def Zr (a:QV):Rat:=mkRat (Zu a.1) (Yg a.2)
def Zp (q:Rat):QV:=(Xs q.num,Ze q.den)
structure RV (k:Nat) (a:QV):Prop where
 m:Zn a.1.2
 d:Zn a.2
 lm:a.1.2.length≤k
 ld:a.2.length≤k
def qs (q:Rat):Nat:=max (Ze q.num.natAbs).length (Ze q.den).length
def Z5 (N s:Nat):Prop:=200 * (s+4)<N∧s≤1066000000000
theorem Zeg (a:ZV):(Zu a).natAbs=Zc a.2:=by
 rw [Zu];split <;> omega
theorem U0 (z:Int):Zu (Xs z)=z:=by
 rw [Zu,Xs]
 simp only [Xb,decide_eq_true_eq]
 split <;> omega
theorem Zlv (n:Bool) (m:List Int):Xs (Zu (n,m))=(n&&decide (Zc m≠0),Ze (Zc m)):=by
 rw [Xs,Zeg]
 congr 1
 rw [Zu]
 cases n
 ·rw [if_neg (fun h=>by cases h),Bool.false_and]
  exact decide_eq_false (by omega)
 ·rw [if_pos rfl,Bool.true_and]
  exact decide_eq_decide.2 (by simp only;omega)
theorem U8 (z:Int):Zn (Xs z).2:=Xd _
theorem U5 (l:List Int):Yg l≠0:=by rw [Yg];split <;> omega
theorem Z6l {n:Nat} (h:n≠0):Yg (Ze n)=n:=by rw [Yg,Xb,if_neg h]
theorem Wo (q:Rat):Zr (Zp q)=q:=by
 rw [Zr,Zp]
 simp only [U0,Z6l q.den_nz]
 exact Rat.mkRat_self q
theorem Zjn (q:Rat):RV (qs q) (Zp q):=⟨Xd _,Xd _,eA _ _,dO _ _⟩
theorem RV.mono {k l:Nat} {a:QV} (h:RV k a) (hl:k≤l):RV l a:=⟨h.m,h.d,aU h.lm hl,aU h.ld hl⟩
theorem V5 {q:Rat} {k:Nat} (h:qs q≤k):RV k (Zp q):=(Zjn q).mono h
theorem Z5.mono {N s t:Nat} (h:Z5 N t) (hs:s≤t):Z5 N s:=by
 obtain ⟨a,b⟩:=h
 exact ⟨by omega,by omega⟩
theorem Wu {m n:Nat} (h:m≤n):(Ze m).length≤(Ze n).length:=W8.2 (eK h (W8.1 (bB _)))
theorem U7 (m n:Nat):(Ze (m * n)).length≤(Ze m).length+(Ze n).length:=by
 refine W8.2 ?_
 rw [dH]
 exact kL (W8.1 (bB _)) (W8.1 (bB _))
theorem Znh {m n k:Nat} (hm:(Ze m).length≤k) (hn:(Ze n).length≤k):(Ze (m+n)).length≤k+1:=by
 refine W8.2 ?_
 have a:=W8.1 hm
 have b:=W8.1 hn
 rw [bA]
 omega
theorem Tv {n:Nat} (h:n≠0):1≤(Ze n).length:=cO.2 (fun e=>h (Zg7.1 e))
theorem Z9f (q:Rat):1≤qs q:=aU (Tv q.den_nz) (dO _ _)
theorem Zjf {z:Int} {d k:Nat} (hz:(Ze z.natAbs).length≤k) (hd:(Ze d).length≤k) (hk:1≤k):qs (mkRat z d)≤k:=by
 rw [qs,lC,lE]
 by_cases h:d=0
 ·rw [if_pos h,if_pos h]
  simp only [kR,Vi,Qc]
  simp;omega
 ·rw [if_neg h,if_neg h]
  refine Nat.max_le.2 ⟨aU (Wu ?_) hz,aU (Wu (cS _ _)) hd⟩
  exact Int.natAbs_ediv_le_natAbs _ _
theorem Zsh {k:Nat} {a:QV} (h:RV k a):qs (Zr a)≤max k 1:=by
 refine Zjf ?_ ?_ (dO _ _)
 ·rw [Zeg]
  exact aU (Ys h.m) (aU h.lm (eA _ _))
 ·rw [Yg]
  split
  ·rw [Qc];exact dO _ _
  ·exact aU (Ys h.d) (aU h.ld (eA _ _))
theorem Zl0 (a b:Rat):qs (a * b)≤qs a+qs b:=by
 rw [Rat.mul_def']
 have:=Z9f a
 refine Zjf ?_ ?_ (by omega)
 ·rw [fW]
  exact aU (U7 _ _) (kY (eA _ _) (eA _ _))
 ·exact aU (U7 _ _) (kY (dO _ _) (dO _ _))
theorem Zsf (a b:Rat):qs (a+b)≤qs a+qs b+1:=by
 rw [Rat.add_def']
 have c:(Ze a.num.natAbs).length≤qs a:=eA _ _
 have d:(Ze a.den).length≤qs a:=dO _ _
 have e:(Ze b.num.natAbs).length≤qs b:=eA _ _
 have f:(Ze b.den).length≤qs b:=dO _ _
 refine Zjf (aU (Wu (Int.natAbs_add_le _ _)) (Znh ?_ ?_)) ?_ (by omega)
 ·rw [fW,eS]
  have:=U7 a.num.natAbs b.den
  omega
 ·rw [fW,eS]
  have:=U7 b.num.natAbs a.den
  omega
 ·have:=U7 a.den b.den
  omega
theorem Zow:qs 0=1:=by
 rw [qs]
 simp only [Rat.zero_num,Rat.zero_den,kR,Vi,Qc]
 simp
theorem Zcu:qs 1=1:=by
 rw [qs]
 simp only [Rat.one_num,Rat.one_den,Int.natAbs_one,Qc]
 simp
theorem Zyd {neg:Bool} {num den:List Int} (hd:Zc den≠0):
  Zp (mkRat (Zu (neg,num)) (Zc den))=((neg&&decide (Zc num / dA (Zc num) (Zc den)≠0),Ze (Zc num / dA (Zc num) (Zc den))),Ze (Zc den / dA (Zc num) (Zc den))):=by
 rw [Zp,lC,lE,if_neg hd,if_neg hd,Zeg,fJ (Zc den) (Zc num)]
 have a:dA (Zc num) (Zc den)≠0:=fun h=>hd (Nat.gcd_eq_zero_iff.1 h).2
 congr 1
 have e:Zu (neg,num) / ((dA (Zc num) (Zc den):Nat):Int)=Zu (neg,Ze (Zc num / dA (Zc num) (Zc den))):=by
  rw [Zu,Zu]
  simp only [Xb]
  cases neg
  ·simp
  ·simp only [if_true]
   rw [Int.neg_ediv_of_dvd (Int.natCast_dvd_natCast.2 (Nat.gcd_dvd_left _ _)),iN]
 rw [e,Zlv,Xb]
theorem Zga {a b:Int} {c d:Nat} (hc:c≠0) (hd:d≠0):mkRat a c<mkRat b d↔a * d<b * c:=by
 have f:(0:Rat)<(c:Rat):=kS.2 (by omega)
 have g:(0:Rat)<(d:Rat):=kS.2 (by omega)
 rw [dI,dI,Rat.div_lt_iff f]
 have e:(b:Rat) / d * c=(b:Rat) * c / d:=by
  rw [Rat.div_def,Rat.div_def,bJ,bJ,Rat.mul_comm (d:Rat)⁻¹]
 rw [e,Rat.lt_div_iff g]
 have i:((a:Rat) * (d:Rat))=((a * (d:Int):Int):Rat):=by rw [iZ];rfl
 have j:((b:Rat) * (c:Rat))=((b * (c:Int):Int):Rat):=by rw [iZ];rfl
 rw [i,j,Rat.intCast_lt_intCast]
theorem Zxz {a b:Int} {c d:Nat} (hc:c≠0) (hd:d≠0):mkRat a c=mkRat b d↔a * d=b * c:=Rat.mkRat_eq_iff hc hd
def Sg (a b:Rat):Int:=if a<b then -1 else if b<a then 1 else 0
def Zan (a b:Int):Int:=if a<b then -1 else if b<a then 1 else 0
def S1 (a:Rat):Int:=Sg a 0
theorem Zr9 {a b:Int} {c d:Nat} (hc:c≠0) (hd:d≠0):Sg (mkRat a c) (mkRat b d)=Zan (a * d) (b * c):=by
 unfold Sg Zan
 simp only [Zga hc hd,Zga hd hc]
theorem Zpp (a:Int):Zan a 0=a.sign:=by
 unfold Zan
 rcases Int.lt_trichotomy a 0 with h | h | h
 ·rw [if_pos h,Int.sign_eq_neg_one_of_neg h]
 ·rw [h];rfl
 ·rw [if_neg (by omega),if_pos h,Int.sign_eq_one_of_pos h]
theorem Zzj (a:QV):S1 (Zr a)=(Zu a.1).sign:=by
 rw [S1,Zr,show (0:Rat)=mkRat 0 1 by rw [Rat.zero_mkRat],Zr9 (U5 _) (by decide),← Zpp]
 simp
theorem Z9h (a:QV):Zr a=0↔Zc a.1.2=0:=by
 rw [Zr,Rat.mkRat_eq_zero (U5 _),← Zeg]
 omega
theorem Zjg {a:Rat}:S1 a=0↔a=0:=by
 rw [S1,Sg]
 constructor
 ·intro h
  split at h
  ·cases h
  ·split at h
   ·cases h
   ·rename_i b c
    exact Rat.le_antisymm (Rat.not_lt.1 c) (Rat.not_lt.1 b)
 ·rintro rfl
  rw [if_neg dY,if_neg dY]
theorem Zox {a:Rat}:S1 a<0↔a<0:=by
 rw [S1,Sg]
 by_cases h:a<0
 ·rw [if_pos h];simp [h]
 ·rw [if_neg h];simp only [h,iff_false];split <;> decide
def Sc (N:Nat) (ab:R1):Option R2:=
  (Zfh N ab.2).bind fun aa=>if (decide (0<(aa.length:Int)))=true then (some aa) else ((Zcc N 1).bind fun ac=>some ac)
theorem Zau {N ad ae:Nat} {af ag:Option Addr} {col:Zd} {w0:World} {ab:R1} {r:R2} (c1:Nat) (hm:Sc N ab=some r) (aq:Sl rU col w0 af ad ab.1.2) (ac:Sl rU col w0 ag ae ab.2):
    Calls prog 75 #[(.agg #[.bool ab.1.1,.slice af ab.1.2.length ad,.slice ag ab.2.length ae])] w0 (fun e w'=>∃ (col':Zd) (ra1:Option Addr) (rc2:Nat),e= .returned ((.slice ra1 r.length rc2))∧Zf col w0 col' w'∧Zb rU 95 c1 col' w' ra1 rc2 r):=by
 refine Xe 2 (m:=12) func75 rfl rfl rfl rfl rfl ?_;rw [Sc.eq_1] at hm;have aa:=St.start col w0;refine go ?_;refine Xi (col:=(Zj col)) 1 rfl ?_;intro ar au av ah ai;refine go ?_;refine Xl ai ?_;obtain ⟨aw,aj,hm⟩:=bZ hm;replace aa:=aa.grow ah;refine Zi (Zp8 2 aj (ac.k0.ks aa)) ?_;rintro _ ax ⟨ak,ay,az,rfl,al,am⟩;refine ⟨_,rfl,go ?_⟩;replace aa:=aa.grow al;refine Zo hm (fun hb hm=>go ?_) fun hb hm=>go ?_
 ·cases hm;exact ⟨rfl,_,_,_,rfl,aa.fin (cm [(2,c1)]),aa.fo am⟩
 obtain ⟨a0,an,hm⟩:=bZ hm;refine Zi (Zjz (col:=ak) 3 an) ?_;rintro _ a1 ⟨a2,a3,a4,rfl,ao,ap⟩;refine ⟨_,rfl,go ?_⟩;cases hm;replace aa:=aa.grow ao;exact ⟨rfl,_,_,_,rfl,aa.fin (cm [(3,c1)]),aa.fo ap⟩
def Zjb (aa:Bool) (ab:List Int):Option R5:=
  some (aa,ab)
def Zad (N:Nat) (ab:Bool) (ac:List Int):Option R5:=
  (Zfh N ac).bind fun aa=>if ab=true then (Zjb (decide (0<(aa.length:Int))) aa) else (Zjb false aa)
theorem Zek {N ao:Nat} {a1:Option Addr} {col:Zd} {w0:World} {ap:Bool} {ah:R2} {r:R5} (c1:Nat) (hm:Zad N ap ah=some r) (h1:Sl rU col w0 a1 ao ah):
    Calls prog 145 #[.bool ap,.slice a1 ah.length ao] w0 (fun e w'=>∃ (col':Zd) (ra1:Option Addr) (rc2:Nat),e= .returned ((.agg #[.bool r.1,.slice ra1 r.2.length rc2]))∧Zf col w0 col' w'∧Zb rU 95 c1 col' w' ra1 rc2 r.2):=by
 refine Y5 (m:=16) func145 rfl rfl rfl ?_;rw [Zad.eq_1] at hm;have aa:=St.start col w0;refine go ?_;refine Xk (col:=(Zj col)) #[.bool false,(nI)] 1 zeroValue37 ?_;intro ax a4 a5 ay ac;refine go ?_;obtain ⟨ad,az,hm⟩:=bZ hm;replace aa:=aa.grow ay;refine Zi (Zp8 2 az (h1.k0.ks aa)) ?_;rintro _ a6 ⟨a7,aq,ar,rfl,au,ab⟩;refine ⟨_,rfl,?_⟩;refine Znf rfl<|Zk<|Zz ?_;replace ac:=ac.gr au;replace aa:=aa.grow au;refine Wp.cutK [4,1000000] (fun f ae=>∃ af ai aj ak ag,Zjb ai ag=some r∧St w0 (Zj col) af ae∧Zb rU 95 3 af ae aj ak ag∧Zg 37 1 af ae ax #[.bool ai,.slice aj ag.length ak]) ?_ ?_
 ·intro f ae hJ;obtain ⟨af,ai,aj,ak,ag,hm,aa,a0,ac⟩:=hJ;rw [Zjb.eq_1] at hm;refine Vd ?_;cases hm;exact ⟨rfl,_,ra ac.atN,_,_,_,rfl,aa.fin (cm [(3,c1)]),aa.fo a0⟩
 refine go ?_;refine Yr hm (fun al hm=>go ?_) fun al hm=>go ?_
 ·refine lV (.bool (decide (0<(ad.length:Int)))) (Ye (congrArg Value.bool al) rfl)<|Y2 rfl<|lV (.agg #[.bool (decide (0<(ad.length:Int))),.slice aq ad.length ar]) (Wq (l:=[_,_]) (qs:=[(0,1),(1,1)]) underlying37 zeroValue37 ⟨rfl,sizeOf4,rfl,sizeOf35,trivial⟩ rfl)<|Zy ac ?_;intro a8 av a2 am;refine Zk ?_;replace ab:=ab.kp av;replace ab:=ab.recolSelf 3 (by decide);replace aa:=aa.kp av a2;replace aa:=aa.recol 2 3 (by decide) (by decide);exact ⟨rfl,_,_,_,_,_,hm,aa,ab,am.recol 2 3⟩
 refine lV (.bool false) (Yd (congrArg Value.bool al) rfl)<|Y2 rfl<|lV (.agg #[.bool false,.slice aq ad.length ar]) (Wq (l:=[_,_]) (qs:=[(0,1),(1,1)]) underlying37 zeroValue37 ⟨rfl,sizeOf4,rfl,sizeOf35,trivial⟩ rfl)<|Zy ac ?_;intro a9 aw a3 an;refine Zk ?_;replace ab:=ab.kp aw;replace ab:=ab.recolSelf 3 (by decide);replace aa:=aa.kp aw a3;replace aa:=aa.recol 2 3 (by decide) (by decide);exact ⟨rfl,_,_,_,_,_,hm,aa,ab,an.recol 2 3⟩
def Zlr (N:Nat) (aa:R5) (ab:R5):Option R5:=
  (Q8 N aa.2 ab.2).bind fun ad=>(Zad N (!decide (aa.1=ab.1)) ad).bind fun ac=>some (ac.1,ac.2)
theorem Z5z {N ar au:Nat} {av aw:Option Addr} {col:Zd} {w0:World} {ag ah r:R5} (c1:Nat) (hm:Zlr N ag ah=some r) (al:Sl rU col w0 av ar ag.2) (am:Sl rU col w0 aw au ah.2):
    Calls prog 147 #[(.agg #[.bool ag.1,.slice av ag.2.length ar]),(.agg #[.bool ah.1,.slice aw ah.2.length au])] w0 (fun e w'=>∃ (col':Zd) (ra1:Option Addr) (rc2:Nat),e= .returned ((.agg #[.bool r.1,.slice ra1 r.2.length rc2]))∧Zf col w0 col' w'∧Zb rU 95 c1 col' w' ra1 rc2 r.2):=by
 refine Y5 (m:=16) func147 rfl rfl rfl ?_;rw [Zlr.eq_1] at hm;have aa:=St.start col w0;refine go ?_;refine Xi (col:=(Zj col)) 1 rfl ?_;intro a7 a8 az a0 ai;refine Xi (col:=az) 2 rfl ?_;intro a9 ba a1 ax aj;refine Xk (col:=a1) #[.bool false,(nI)] 3 zeroValue37 ?_;intro bb bc ad an ab;refine go ?_;refine Y8 (col:=ad) [(0,1),(1,0),(2,1),(3,0),(4,1),(5,1),(6,0),(7,1),(8,0),(9,3),(10,3),(11,2)] (by kernel_rfl) (by kernel_rfl)<|xF ⟨_,_,rfl⟩ ?_;replace ai:=(ai.gr ax).gr an;refine xW (fun _ hC=>((ai.atN).nth (q:=0) rfl).gr (hC.bl ad)) ?_;refine xF ⟨_,_,rfl⟩ ?_;replace aj:=aj.gr an;refine xW (fun _ hC=>((aj.atN).nth (q:=0) rfl).gr (hC.bl ad)) ?_;refine xu rfl rfl (fun _=>Zjl _ _ underlying4 rfl rfl) ?_;refine xF ⟨_,_,rfl⟩ ?_;refine xW (fun _ hC=>((ai.atN).nth (q:=1) rfl).gr (hC.bl ad)) ?_;refine xF ⟨_,_,rfl⟩ ?_;refine xW (fun _ hC=>((aj.atN).nth (q:=1) rfl).gr (hC.bl ad)) ?_;refine xe rfl rfl ?_;intro bd hC0;have hC:=hC0.bl ad;obtain ⟨be,a2,hm⟩:=bZ hm;replace aa:=(((aa.grow a0).grow ax).grow an).grow hC;refine Zi (Zgx 4 a2 (al.k0.ks aa) (am.k0.ks aa)) ?_;rintro _ bf ⟨af,bg,bh,rfl,ao,ap⟩;refine ⟨_,rfl,?_⟩;refine Zk<|Xj af hC0 ao<|xe rfl rfl ?_;intro a3 hC0;replace ab:=(ab.gr hC).gr ao;have hC:=hC0.bl af;obtain ⟨bi,a4,hm⟩:=bZ hm;refine Zi (Zek 5 a4 ((ap.gr hC).toSlF (Zh.int .u32))) ?_;rintro _ bj ⟨a5,bk,bm,rfl,ae,ac⟩;refine ⟨_,rfl,?_⟩;replace ac:=ac.thaw (Z1 .u32) ae ((Fz.refl (col:=af)).froz 4);replace ae:=ae.thawR (col:=af);generalize Xc a3.heap.size af a5=ak at *;refine Zk<|Xj ak hC0 ae<|xe rfl rfl ?_;intro bn hC0;replace aa:=((aa.grow ao).grow hC).grow ae;replace ab:=(ab.gr hC).gr ae;have hC:=hC0.bl ak;refine Zy (ab.gr hC) ?_;intro bo ay a6 aq;refine Zk<|xk ak<|Yz ?_;replace ac:=(ac.gr hC).kp ay;replace aa:=(aa.grow hC).kp ay a6;intro bp hC;replace hC:=hC.bl ak;refine Vd ?_;cases hm;replace aa:=aa.grow hC;exact ⟨rfl,_,ra (aq.gr hC).atN,_,_,_,rfl,aa.fin (cm [(5,c1)]),aa.fo (ac.gr hC)⟩
def Zdh (N:Nat) (aa:R5) (ac:List Int):Option R5:=
  (Zlr N (aa.1,aa.2) (false,ac)).bind fun ab=>some (ab.1,ab.2)
theorem Zmu {N ai ad:Nat} {aj a1:Option Addr} {col:Zd} {w0:World} {ab:R5} {ac:R2} {r:R5} (c1:Nat) (hm:Zdh N ab ac=some r) (ae:Sl rU col w0 aj ai ab.2) (h1:Sl rU col w0 a1 ad ac):
    Calls prog 74 #[(.agg #[.bool ab.1,.slice aj ab.2.length ai]),.slice a1 ac.length ad] w0 (fun e w'=>∃ (col':Zd) (ra1:Option Addr) (rc2:Nat),e= .returned ((.agg #[.bool r.1,.slice ra1 r.2.length rc2]))∧Zf col w0 col' w'∧Zb rU 95 c1 col' w' ra1 rc2 r.2):=by
 refine Y5 (m:=9) func74 rfl rfl rfl ?_;rw [Zdh.eq_1] at hm;have aa:=St.start col w0;refine go ?_;refine Xi (col:=(Zj col)) 1 rfl ?_;intro au av an ao af;refine Xk (col:=an) #[.bool false,(nI)] 2 zeroValue37 ?_;intro aw ax ay ak ag;refine go ?_;refine lV _ (Z8 isAgg37 sizeOf37 (af.gr ak))<|Y2 rfl<|lV (.agg #[.bool false,.slice a1 ac.length ad]) (Wq (l:=[_,_]) (qs:=[(0,1),(1,1)]) underlying37 zeroValue37 ⟨rfl,sizeOf4,rfl,sizeOf35,trivial⟩ rfl) ?_;obtain ⟨az,ap,hm⟩:=bZ hm;replace aa:=(aa.grow ao).grow ak;refine Zi (Z5z 3 ap (ae.k0.ks aa) (h1.k0.ks aa)) ?_;rintro _ a0 ⟨a2,a3,a4,rfl,al,ah⟩;refine ⟨_,rfl,?_⟩;refine Zy (ag.gr al) ?_;intro a5 am aq ar;refine go ?_;cases hm;replace aa:=(aa.grow al).kp am aq;exact ⟨rfl,_,ra ar.atN,_,_,_,rfl,aa.fin (cm [(3,c1)]),aa.fo (ah.kp am)⟩
def Zlp (N:Nat) (aa:R5) (ab:R5):Option R5:=
  if (decide (aa.1=ab.1))=true then ((Zkx N aa.2 ab.2).bind fun ag=>(Zad N aa.1 ag).bind fun ac=>some (ac.1,ac.2)) else ((Zic N aa.2 ab.2).bind fun ad=>if ad.2=true then ((Zad N aa.1 ad.1).bind fun ae=>some (ae.1,ae.2)) else ((Zic N ab.2 aa.2).bind fun ah=>(Zad N ab.1 ah.1).bind fun af=>some (af.1,af.2)))
theorem Z5x {N a3 a4:Nat} {a5 a6:Option Addr} {col:Zd} {w0:World} {ao ap r:R5} (c1:Nat) (hm:Zlp N ao ap=some r) (ag:Sl rU col w0 a5 a3 ao.2) (ah:Sl rU col w0 a6 a4 ap.2):
    Calls prog 76 #[(.agg #[.bool ao.1,.slice a5 ao.2.length a3]),(.agg #[.bool ap.1,.slice a6 ap.2.length a4])] w0 (fun e w'=>∃ (col':Zd) (ra1:Option Addr) (rc2:Nat),e= .returned ((.agg #[.bool r.1,.slice ra1 r.2.length rc2]))∧Zf col w0 col' w'∧Zb rU 95 c1 col' w' ra1 rc2 r.2):=by
 refine Y5 (m:=47) func76 rfl rfl rfl ?_;rw [Zlp.eq_1] at hm;have aa:=St.start col w0;refine go ?_;refine Xi (col:=(Zj col)) 1 rfl ?_;intro b3 b4 bf bg ad;refine Xi (col:=bf) 2 rfl ?_;intro b5 b6 bh a7 ac;refine Xk (col:=bh) #[.bool false,(nI)] 3 zeroValue37 ?_;intro b7 b8 ai aw ab;refine go ?_;refine Yx ⟨_,_,rfl⟩ ?_;replace ad:=(ad.gr a7).gr aw;refine lW ((ad.atN).nth (q:=0) rfl)<|Yx ⟨_,_,rfl⟩ ?_;replace ac:=ac.gr aw;refine lW ((ac.atN).nth (q:=0) rfl)<|go ?_;replace ag:=ag.k0;replace ah:=ah.k0;replace aa:=((aa.grow bg).grow a7).grow aw;refine Zo hm (fun hb hm=>?_) fun hb hm=>go ?_
 ·refine Zz<|Y8 (col:=ai) [(0,1),(1,0),(2,1),(3,0),(4,1),(5,0),(6,3),(7,3),(8,2)] (by kernel_rfl) (by kernel_rfl)<|xF ⟨_,_,rfl⟩ ?_;refine xW (fun _ hC=>((ad.atN).nth (q:=0) rfl).gr (hC.bl ai)) ?_;refine xF ⟨_,_,rfl⟩ ?_;refine xW (fun _ hC=>((ad.atN).nth (q:=1) rfl).gr (hC.bl ai)) ?_;refine xF ⟨_,_,rfl⟩ ?_;refine xW (fun _ hC=>((ac.atN).nth (q:=1) rfl).gr (hC.bl ai)) ?_;refine xe rfl rfl ?_;intro b9 hC0;have hC:=hC0.bl ai;obtain ⟨ca,bi,hm⟩:=bZ hm;replace aa:=aa.grow hC;refine Zi (Z4w 4 bi (ag.ks aa) (ah.ks aa)) ?_;rintro _ cb ⟨aj,cc,cd,rfl,ax,ay⟩;refine ⟨_,rfl,?_⟩;refine Zk<|Xj aj hC0 ax<|xe rfl rfl ?_;intro bj hC0;replace ab:=(ab.gr hC).gr ax;have hC:=hC0.bl aj;obtain ⟨ce,bk,hm⟩:=bZ hm;refine Zi (Zek 5 bk ((ay.gr hC).toSlF (Zh.int .u32))) ?_;rintro _ cf ⟨bm,cg,ch,rfl,af,ae⟩;refine ⟨_,rfl,?_⟩;replace ae:=ae.thaw (Z1 .u32) af ((Fz.refl (col:=aj)).froz 4);replace af:=af.thawR (col:=aj);generalize Xc bj.heap.size aj bm=aq at *;refine Zk<|Xj aq hC0 af<|xe rfl rfl ?_;intro ci hC0;replace aa:=((aa.grow ax).grow hC).grow af;replace ab:=(ab.gr hC).gr af;have hC:=hC0.bl aq;replace ab:=ab.gr hC;refine Zy ab ?_;intro cj a8 bn az;refine Zk<|xk aq<|Yz ?_;replace ae:=(ae.gr hC).kp a8;replace aa:=(aa.grow hC).kp a8 bn;intro ck hC;replace hC:=hC.bl aq;refine Vd ?_;cases hm;replace aa:=aa.grow hC;exact ⟨rfl,_,ra (az.gr hC).atN,_,_,_,rfl,aa.fin (cm [(5,c1)]),aa.fo (ae.gr hC)⟩
 refine Xl ad<|Xl ac ?_;obtain ⟨ar,bo,hm⟩:=bZ hm;refine Zi (Zuk 6 bo (ag.ks aa) (ah.ks aa)) ?_;rintro _ bp ⟨a0,a9,ba,rfl,au,bq⟩;refine ⟨_,rfl,?_⟩;refine lM (.tuple #[.slice a9 ar.1.length ba,.bool ar.2])<|lV (.slice a9 ar.1.length ba) (Xo rfl rfl)<|lV (.bool ar.2) (Xo rfl rfl)<|go ?_;replace ad:=ad.gr au;replace ac:=ac.gr au;replace ab:=ab.gr au;replace aa:=aa.grow au;refine Zo hm (fun hb hm=>go ?_) fun hb hm=>go ?_
 ·refine Xl ad<|Y2 rfl ?_;obtain ⟨cl,br,hm⟩:=bZ hm;refine Zi (Zek 7 br (bq.toSlF (Zh.int .u32))) ?_;rintro _ cn ⟨bs,co,cp,rfl,ak,al⟩;refine ⟨_,rfl,?_⟩;replace al:=al.thaw (Z1 .u32) ak ((Fz.refl (col:=a0)).froz 6);replace ak:=ak.thawR (col:=a0);generalize Xc bp.heap.size a0 bs=cq at *;replace ab:=ab.gr ak;refine Zy ab ?_;intro cr bb bt bu;refine go ?_;cases hm;replace aa:=(aa.grow ak).kp bb bt;exact ⟨rfl,_,ra bu.atN,_,_,_,rfl,aa.fin (cm [(7,c1)]),aa.fo (al.kp bb)⟩
 refine Xl ac<|Xl ad ?_;obtain ⟨av,bv,hm⟩:=bZ hm;refine Zi (Zuk 8 bv (ah.ks aa) (ag.ks aa)) ?_;rintro _ bw ⟨a1,bc,bd,rfl,a2,bx⟩;refine ⟨_,rfl,?_⟩;refine lM (.tuple #[.slice bc av.1.length bd,.bool av.2])<|lV (.slice bc av.1.length bd) (Xo rfl rfl)<|lV (.bool av.2) (Xo rfl rfl)<|go ?_;refine Yx ⟨_,_,rfl⟩ ?_;refine lW (((ac.gr a2).atN).nth (q:=0) rfl)<|Y2 rfl ?_;obtain ⟨cs,bz,hm⟩:=bZ hm;refine Zi (Zek 9 bz (bx.toSlF (Zh.int .u32))) ?_;rintro _ ct ⟨b0,cu,cv,rfl,am,an⟩;refine ⟨_,rfl,?_⟩;replace an:=an.thaw (Z1 .u32) am ((Fz.refl (col:=a1)).froz 8);replace am:=am.thawR (col:=a1);generalize Xc bw.heap.size a1 b0=cw at *;refine Zy ((ab.gr a2).gr am) ?_;intro cx be b1 b2;refine go ?_;cases hm;replace aa:=((aa.grow a2).grow am).kp be b1;exact ⟨rfl,_,ra b2.atN,_,_,_,rfl,aa.fin (cm [(9,c1)]),aa.fo (an.kp be)⟩
def Zls (N:Nat) (aa:R5):Option R5:=
  (Zad N aa.1 aa.2).bind fun ab=>some (ab.1,ab.2)
theorem Z50 {N ag:Nat} {ah:Option Addr} {col:Zd} {w0:World} {ab r:R5} (c1:Nat) (hm:Zls N ab=some r) (ad:Sl rU col w0 ah ag ab.2):
    Calls prog 153 #[(.agg #[.bool ab.1,.slice ah ab.2.length ag])] w0 (fun e w'=>∃ (col':Zd) (ra1:Option Addr) (rc2:Nat),e= .returned ((.agg #[.bool r.1,.slice ra1 r.2.length rc2]))∧Zf col w0 col' w'∧Zb rU 95 c1 col' w' ra1 rc2 r.2):=by
 refine Y5 (m:=8) func153 rfl rfl rfl ?_;rw [Zls.eq_1] at hm;have aa:=St.start col w0;refine go ?_;refine Xi (col:=(Zj col)) 1 rfl ?_;intro aq ar al am ac;refine Xk (col:=al) #[.bool false,(nI)] 2 zeroValue37 ?_;intro au av aw ai ae;refine go ?_;refine Yx ⟨_,_,rfl⟩ ?_;replace ac:=ac.gr ai;refine lW ((ac.atN).nth (q:=0) rfl)<|Xl ac ?_;obtain ⟨ax,an,hm⟩:=bZ hm;replace aa:=(aa.grow am).grow ai;refine Zi (Zek 3 an (ad.k0.ks aa)) ?_;rintro _ ay ⟨az,a0,a1,rfl,aj,af⟩;refine ⟨_,rfl,?_⟩;refine Zy (ae.gr aj) ?_;intro a2 ak ao ap;refine go ?_;cases hm;replace aa:=(aa.grow aj).kp ak ao;exact ⟨rfl,_,ra ap.atN,_,_,_,rfl,aa.fin (cm [(3,c1)]),aa.fo (af.kp ak)⟩
def Zdg (N:Nat) (ae:Bool) (aa:List Int) (ab:List Int):Option R1:=
  (Zkz N aa ab).bind fun ac=>(Zff N aa ac).bind fun af=>(Zff N ab ac).bind fun ag=>(Zls N (ae,af.1)).bind fun ad=>some ((ad.1,ad.2),ag.1)
theorem Zmt {N ay az:Nat} {a1 a2:Option Addr} {col:Zd} {w0:World} {ak:Bool} {al am:R2} {r:R1} (c1 c2:Nat) (hm:Zdg N ak al am=some r) (h1:Sl rU col w0 a1 ay al) (h2:Sl rU col w0 a2 az am):
    Calls prog 77 #[.bool ak,.slice a1 al.length ay,.slice a2 am.length az] w0 (fun e w'=>∃ (col':Zd) (ra1:Option Addr) (rc2:Nat) (ra4:Option Addr) (rc5:Nat),e= .returned ((.agg #[.bool r.1.1,.slice ra1 r.1.2.length rc2,.slice ra4 r.2.length rc5]))∧Zf col w0 col' w'∧Zb rU 95 c1 col' w' ra1 rc2 r.1.2∧Zb rU 95 c2 col' w' ra4 rc5 r.2):=by
 refine Y5 (m:=37) func77 rfl rfl rfl ?_;rw [Zdg.eq_1] at hm;have aa:=St.start col w0;refine go ?_;refine Xk (col:=(Zj col)) #[.bool false,(nI),(nI)] 1 zeroValue39 ?_;intro bo bp bq a8 an;refine go ?_;obtain ⟨br,a9,hm⟩:=bZ hm;replace h1:=h1.k0;replace h2:=h2.k0;replace aa:=aa.grow a8;refine Zi (Z4y 2 a9 (h1.ks aa) (h2.ks aa)) ?_;rintro _ ba ⟨ao,bs,bt,rfl,a0,aj⟩;refine ⟨_,rfl,go ?_⟩;obtain ⟨ab,bb,hm⟩:=bZ hm;replace aa:=aa.grow a0;refine Zi (Zp7 3 4 bb ((h1.ks aa).froz 2) (aj.toSlF (Zh.int .u32))) ?_;rintro _ bc ⟨bd,ap,aq,a3,a4,rfl,ad,ag,bu⟩;refine ⟨_,rfl,?_⟩;replace ag:=ag.thaw (Z1 .u32) ad ((Fz.refl (col:=ao)).froz 2);replace ad:=ad.thawR (col:=ao);generalize Xc ba.heap.size ao bd=ar at *;refine lM (.tuple #[.slice ap ab.1.length aq,.slice a3 ab.2.1.length a4,.int .i64 ab.2.2])<|lV (.slice ap ab.1.length aq) (Xo rfl rfl)<|lV (.slice a3 ab.2.1.length a4) (Xo rfl rfl)<|lV (.int .i64 ab.2.2) (Xo rfl rfl)<|go ?_;obtain ⟨ac,be,hm⟩:=bZ hm;replace aa:=aa.grow ad;refine Zi (Zp7 5 6 be ((h2.ks aa).froz 2) ((aj.gr ad).toSlF (Zh.int .u32))) ?_;rintro _ bf ⟨bg,au,av,a5,a6,rfl,ae,ah,bv⟩;refine ⟨_,rfl,?_⟩;replace ah:=ah.thaw (Z1 .u32) ae ((Fz.refl (col:=ar)).froz 2);replace ae:=ae.thawR (col:=ar);generalize Xc bc.heap.size ar bg=aw at *;refine lM (.tuple #[.slice au ac.1.length av,.slice a5 ac.2.1.length a6,.int .i64 ac.2.2])<|lV (.slice au ac.1.length av) (Xo rfl rfl)<|lV (.slice a5 ac.2.1.length a6) (Xo rfl rfl)<|lV (.int .i64 ac.2.2) (Xo rfl rfl)<|go ?_;refine lV (.agg #[.bool ak,.slice ap ab.1.length aq]) (Wq (l:=[_,_]) (qs:=[(0,1),(1,1)]) underlying37 zeroValue37 ⟨rfl,sizeOf4,rfl,sizeOf35,trivial⟩ rfl) ?_;obtain ⟨a7,bh,hm⟩:=bZ hm;refine Zi (Z50 7 bh ((ag.gr ae).toSlF (Zh.int .u32))) ?_;rintro _ bw ⟨bi,bj,bk,rfl,af,ai⟩;refine ⟨_,rfl,?_⟩;replace ai:=ai.thaw (Z1 .u32) af ((Fz.refl (col:=aw)).froz 3);replace af:=af.thawR (col:=aw);generalize Xc bf.heap.size aw bi=bx at *
 refine Y2 rfl<|lV (.agg #[.bool a7.1,.slice bj a7.2.length bk,.slice au ac.1.length av]) (Wq (l:=[_,_]) (qs:=[(0,2),(2,1)]) underlying39 zeroValue39 ⟨rfl,sizeOf37,rfl,sizeOf35,trivial⟩ rfl) ?_;refine Zy ((((an.gr a0).gr ad).gr ae).gr af) ?_;intro bz ax bm bn;refine go ?_;cases hm;replace aa:=((aa.grow ae).grow af).kp ax bm;exact ⟨rfl,_,ra bn.atN,_,_,_,_,_,rfl,aa.fin (cm [(7,c1),(5,c2)]),aa.fo (ai.kp ax),aa.fo ((ah.gr af).kp ax)⟩
def Sr (N:Nat) (aa:R1) (ab:R1):Option R1:=
  (Sc N ((ab.1.1,ab.1.2),ab.2)).bind fun ag=>(Zdh N (aa.1.1,aa.1.2) ag).bind fun ad=>(Sc N ((aa.1.1,aa.1.2),aa.2)).bind fun ah=>(Zdh N (ab.1.1,ab.1.2) ah).bind fun ae=>(Zlp N (ad.1,ad.2) (ae.1,ae.2)).bind fun af=>(Sc N ((aa.1.1,aa.1.2),aa.2)).bind fun ai=>(Sc N ((ab.1.1,ab.1.2),ab.2)).bind fun aj=>(Q8 N ai aj).bind fun ak=>(Zdg N af.1 af.2 ak).bind fun ac=>some ((ac.1.1,ac.1.2),ac.2)
theorem Zgw {N bo bz bp b0:Nat} {bq b1 br b2:Option Addr} {col:Zd} {w0:World} {aj ak r:R1} (c1 c2:Nat) (hm:Sr N aj ak=some r) (ba:Sl rU col w0 bq bo aj.1.2) (bs:Sl rU col w0 b1 bz aj.2) (bb:Sl rU col w0 br bp ak.1.2) (bt:Sl rU col w0 b2 b0 ak.2):
    Calls prog 16 #[(.agg #[.bool aj.1.1,.slice bq aj.1.2.length bo,.slice b1 aj.2.length bz]),(.agg #[.bool ak.1.1,.slice br ak.1.2.length bp,.slice b2 ak.2.length b0])] w0 (fun e w'=>∃ (col':Zd) (ra1:Option Addr) (rc2:Nat) (ra4:Option Addr) (rc5:Nat),e= .returned ((.agg #[.bool r.1.1,.slice ra1 r.1.2.length rc2,.slice ra4 r.2.length rc5]))∧Zf col w0 col' w'∧Zb rU 95 c1 col' w' ra1 rc2 r.1.2∧Zb rU 95 c2 col' w' ra4 rc5 r.2):=by
 refine Y5 (m:=27) func16 rfl rfl rfl ?_;rw [Sr.eq_1] at hm;have aa:=St.start col w0;refine go ?_;refine Xi (col:=(Zj col)) 1 rfl ?_;intro cd c9 ce cf ae;refine Xi (col:=ce) 2 rfl ?_;intro cg da ch ca af;refine Xk (col:=ch) #[.bool false,(nI),(nI)] 3 zeroValue39 ?_;intro db a4 ay b3 ab;refine go ?_;have bu:=Zt.clip (fun _=>false) ay a4;refine Zmb (col:=ay) [(0,1),(1,0),(2,0),(5,1),(6,0),(7,0),(3,3),(4,3),(8,3),(9,3),(10,3),(11,4),(12,2)] (by kernel_rfl) (by kernel_rfl) ⟨fun h=>absurd h (by decide),fun h=>absurd h (by decide),fun h=>absurd h (by decide),fun h=>absurd h (by decide),fun h=>absurd h (by decide),fun h=>absurd h (by decide),fun h=>absurd h (by decide),fun h=>absurd h (by decide),fun h=>absurd h (by decide),fun h=>absurd h (by decide),fun h=>absurd h (by decide),fun _=>⟨_,_,_,rfl,Zaw zeroValue37⟩,fun h=>absurd h (by decide),trivial⟩<|Qz (v:=(.pointer ((some (⟨cd,0,none⟩:Addr)).map (·.add 0)))) rfl rfl (fun _=>Zbo (sz:=2) (off:=0) underlying39 rfl sizeOf37 (by decide) rfl rfl ⟨_,_,rfl⟩) ?_;replace ae:=((ae.gr ca).gr b3).kpp bu;refine Zam (v:=(.agg #[.bool aj.1.1,.slice bq aj.1.2.length bo])) rfl rfl (fun _ hC=>Y9 isAgg37 sizeOf37 rfl rfl (((ae.atN).part 0 2 _ rfl).gr (hC.bl (Zm a4 ay)))) ?_;replace af:=(af.gr b3).kpp bu;refine Zam (v:=(.agg #[.bool ak.1.1,.slice br ak.1.2.length bp,.slice b2 ak.2.length b0])) rfl rfl (fun _ hC=>Y9 isAgg39 sizeOf39 rfl rfl (af.atN.gr (hC.bl (Zm a4 ay)))) ?_;refine Qz (v:=(.pointer ((some (⟨cg,0,none⟩:Addr)).map (·.add 0)))) rfl rfl (fun _=>Zbo (sz:=2) (off:=0) underlying39 rfl sizeOf37 (by decide) rfl rfl ⟨_,_,rfl⟩) ?_;refine Zam (v:=(.agg #[.bool ak.1.1,.slice br ak.1.2.length bp])) rfl rfl (fun _ hC=>Y9 isAgg37 sizeOf37 rfl rfl (((af.atN).part 0 2 _ rfl).gr (hC.bl (Zm a4 ay)))) ?_;refine Zam (v:=(.agg #[.bool aj.1.1,.slice bq aj.1.2.length bo,.slice b1 aj.2.length bz])) rfl rfl (fun _ hC=>Y9 isAgg39 sizeOf39 rfl rfl (ae.atN.gr (hC.bl (Zm a4 ay)))) ?_;refine Uq rfl rfl ?_;intro dc hC0;have hC:=hC0.bl (Zm a4 ay);obtain ⟨dd,ci,hm⟩:=bZ hm;replace bb:=bb.k0;replace bt:=bt.k0;replace aa:=((((aa.grow cf).grow ca).grow b3).kpp bu).grow hC;refine Zi (Zau 4 ci (bb.ks aa) (bt.ks aa)) ?_;rintro _ ao ⟨au,de,df,rfl,az,b4⟩;refine ⟨_,rfl,?_⟩
 refine Zk ?_;refine ⟨fun w'=>Zf (Zm ao au) ao (Zm ao au) w',fun g=>(Zm ao au) g=497,Zf.refl _ _,V8,fun _=>⟨fun _ h=>Ur hC0 az h,fun b hb=>az.below.block b hb,fun g x1 x2=>T8 az g x1 (by first | exact x2 | (simp only [Xp,x2];rfl) | (simp only [Xp,Xu,x2];rfl))⟩,?_⟩;have bc:=Zt.clip (fun _=>false) au ao;refine Uq rfl rfl ?_;intro cj hC0;replace ab:=(((ab.kpp bu).gr hC).gr az).kpp bc;replace ae:=((ae.gr hC).gr az).kpp bc;replace af:=((af.gr hC).gr az).kpp bc;have hC:=hC0.bl (Zm ao au);obtain ⟨dg,ck,hm⟩:=bZ hm;replace ba:=ba.k0;replace aa:=((aa.grow az).kpp bc).grow hC;refine Zi (Zmu 5 ck ((ba.ks aa).froz 4) (((b4.kpp bc).gr hC).toSlF (Zh.int .u32))) ?_;rintro _ a5 ⟨cl,dh,di,rfl,am,ap⟩;refine ⟨_,rfl,?_⟩;replace bs:=bs.k0;replace ap:=ap.thaw (Z1 .u32) am ((Fz.refl (col:=(Zm ao au))).froz 4);replace am:=am.thawR (col:=(Zm ao au));generalize Xc cj.heap.size (Zm ao au) cl=bd at *;refine Zk ?_;refine ⟨fun w'=>Zf (Zm a5 bd) a5 (Zm a5 bd) w',fun g=>(Zm a5 bd) g=497,Zf.refl _ _,V8,fun _=>⟨fun _ h=>Ur hC0 am h,fun b hb=>am.below.block b hb,fun g x1 x2=>T8 am g x1 (by first | exact x2 | (simp only [Xp,x2];rfl) | (simp only [Xp,Xu,x2];rfl))⟩,?_⟩;have be:=Zt.clip (fun _=>false) bd a5;refine Uq rfl rfl ?_;intro dj hC0;replace ae:=((ae.gr hC).gr am).kpp be;replace af:=((af.gr hC).gr am).kpp be;replace ab:=((ab.gr hC).gr am).kpp be;have hC:=hC0.bl (Zm a5 bd);obtain ⟨dl,cn,hm⟩:=bZ hm;replace aa:=((aa.grow am).kpp be).grow hC;refine Zi (Zau 6 cn (ba.ks aa) (bs.ks aa)) ?_;rintro _ aq ⟨av,dm,dn,rfl,aw,b5⟩;refine ⟨_,rfl,?_⟩;refine Zk ?_;refine ⟨fun w'=>Zf (Zm aq av) aq (Zm aq av) w',fun g=>(Zm aq av) g=497,Zf.refl _ _,V8,fun _=>⟨fun _ h=>Ur hC0 aw h,fun b hb=>aw.below.block b hb,fun g x1 x2=>T8 aw g x1 (by first | exact x2 | (simp only [Xp,x2];rfl) | (simp only [Xp,Xu,x2];rfl))⟩,?_⟩;have a6:=Zt.clip (fun _=>false) av aq;refine Uq rfl rfl ?_;intro co hC0;replace ap:=(((ap.kpp be).gr hC).gr aw).kpp a6;replace ae:=((ae.gr hC).gr aw).kpp a6;replace af:=((af.gr hC).gr aw).kpp a6;replace ab:=((ab.gr hC).gr aw).kpp a6;have hC:=hC0.bl (Zm aq av)
 obtain ⟨dp,cp,hm⟩:=bZ hm;replace aa:=((aa.grow aw).kpp a6).grow hC;refine Zi (Zmu 7 cp ((bb.ks aa).froz 6) (((b5.kpp a6).gr hC).toSlF (Zh.int .u32))) ?_;rintro _ ar ⟨cq,dq,dr,rfl,al,bf⟩;refine ⟨_,rfl,?_⟩;replace bf:=bf.thaw (Z1 .u32) al ((Fz.refl (col:=(Zm aq av))).froz 6);replace al:=al.thawR (col:=(Zm aq av));generalize Xc co.heap.size (Zm aq av) cq=ax at *;refine Zk ?_;refine ⟨fun w'=>Zf (Zm ar ax) ar (Zm ar ax) w',fun g=>(Zm ar ax) g=497,Zf.refl _ _,V8,fun _=>⟨fun _ h=>Ur hC0 al h,fun b hb=>al.below.block b hb,fun g x1 x2=>T8 al g x1 (by first | exact x2 | (simp only [Xp,x2];rfl) | (simp only [Xp,Xu,x2];rfl))⟩,?_⟩;have a7:=Zt.clip (fun _=>false) ax ar;refine Uq rfl rfl ?_;intro cr hC0;replace ap:=((ap.gr hC).gr al).kpp a7;replace ae:=((ae.gr hC).gr al).kpp a7;replace af:=((af.gr hC).gr al).kpp a7;replace ab:=((ab.gr hC).gr al).kpp a7;have hC:=hC0.bl (Zm ar ax);obtain ⟨ds,cs,hm⟩:=bZ hm;refine Zi (Z5x 8 cs (((ap.gr hC).toSlF (Zh.int .u32)).froz 7) ((((bf.kpp a7).gr hC).froz 5).toSlF (Zh.int .u32))) ?_;rintro _ ac ⟨ct,dt,du,rfl,an,ag⟩;refine ⟨_,rfl,?_⟩;replace ag:=ag.thaw (Z1 .u32) an (((Fz.refl (col:=(Zm ar ax))).froz 5).froz 7);replace an:=an.thawR (col:=(Zm ar ax));generalize Xc cr.heap.size (Zm ar ax) ct=ad at *;refine Zk ?_;refine ⟨fun w'=>Zf (Zm ac ad) ac (Zm ac ad) w',fun g=>(Zm ac ad) g=497,Zf.refl _ _,V8,fun _=>⟨fun _ h=>Ur hC0 an h,fun b hb=>an.below.block b hb,fun g x1 x2=>T8 an g x1 (by first | exact x2 | (simp only [Xp,x2];rfl) | (simp only [Xp,Xu,x2];rfl))⟩,?_⟩;have bg:=Zt.clip (fun _=>false) ad ac;refine Zmd rfl rfl (Zaw zeroValue37) ?_;intro ah cu;refine Uq rfl rfl ?_;intro cv ⟨hC0,hZ0⟩;replace aa:=((((aa.grow al).kpp a7).grow hC).grow an).kpp bg;replace ae:=((ae.gr hC).gr an).kpp bg;replace af:=((af.gr hC).gr an).kpp bg;replace ab:=((ab.gr hC).gr an).kpp bg;have hC:=hC0.bl (Zm ac ad);obtain ⟨bh,b6⟩:=Zjy (col:=(Zm ac ad)) 9 hZ0 cu;replace b6:Zg 37 9 (Xr ah 9 (Zm ac ad)) cv ah #[.bool false,(nI)]:=b6;refine Zy b6 ?_
 intro ai bi cw bv;refine Zk ?_;refine ⟨fun w'=>Zf (Zm ai (Xr ah 9 (Zm ac ad))) ai (Zm ai (Xr ah 9 (Zm ac ad))) w',fun g=>(Zm ai (Xr ah 9 (Zm ac ad))) g=497,Zf.refl _ _,V8,fun h=>absurd h (by decide),?_⟩;have a8:=Zt.clip (fun _=>false) (Xr ah 9 (Zm ac ad)) ai;refine Zme ?_;replace ag:=((((ag.kpp bg).gr hC).kpp bh).kp bi).kpp a8;replace ae:=(((ae.gr hC).kpp bh).kp bi).kpp a8;replace af:=(((af.gr hC).kpp bh).kp bi).kpp a8;replace ab:=(((ab.gr hC).kpp bh).kp bi).kpp a8;replace aa:=(((aa.grow hC).kpp bh).kp bi cw).kpp a8;intro cb hC;replace hC:Zf (Zm ai (Xr ah 9 (Zm ac ad))) ai (Zm ai (Xr ah 9 (Zm ac ad))) cb:=.of_below hC.below;refine Zz<|Y8 (col:=(Zm ai (Xr ah 9 (Zm ac ad)))) [(0,1),(1,0),(2,1),(3,0),(4,0),(6,0),(5,3),(7,3),(8,3),(9,3),(10,2)] (by kernel_rfl) (by kernel_rfl)<|xF ⟨_,_,rfl⟩ ?_;replace bv:=(bv.kpp a8).gr hC;refine xW (fun _ hC=>((bv.atN).nth (q:=0) rfl).gr (hC.bl (Zm ai (Xr ah 9 (Zm ac ad))))) ?_;refine xF ⟨_,_,rfl⟩ ?_;refine xW (fun _ hC=>((bv.atN).nth (q:=1) rfl).gr (hC.bl (Zm ai (Xr ah 9 (Zm ac ad))))) ?_;replace ae:=ae.gr hC;refine xv rfl rfl (fun _ hC=>Z8 isAgg39 sizeOf39 (ae.gr (hC.bl (Zm ai (Xr ah 9 (Zm ac ad)))))) ?_;replace af:=af.gr hC;refine xv rfl rfl (fun _ hC=>Z8 isAgg39 sizeOf39 (af.gr (hC.bl (Zm ai (Xr ah 9 (Zm ac ad)))))) ?_;refine xe rfl rfl ?_;intro cx hC0;replace ag:=ag.gr hC;replace ab:=ab.gr hC;replace aa:=aa.grow hC;have hC:Zf (Zm ai (Xr ah 9 (Zm ac ad))) cb (Zm ai (Xr ah 9 (Zm ac ad))) cx:=.of_below hC0.below;obtain ⟨dv,cy,hm⟩:=bZ hm;replace aa:=aa.grow hC;refine Zi (Zau 10 cy (ba.ks aa) (bs.ks aa)) ?_;rintro _ dw ⟨cc,dx,dy,rfl,bw,bj⟩;refine ⟨_,rfl,?_⟩;refine Zk<|Xj cc hC0 bw<|xe rfl rfl ?_;intro dz hC0;replace ag:=(ag.gr hC).gr bw;replace ab:=(ab.gr hC).gr bw;have hC:=hC0.bl cc;obtain ⟨d0,cz,hm⟩:=bZ hm;replace aa:=(aa.grow bw).grow hC;refine Zi (Zau 11 cz (bb.ks aa) (bt.ks aa)) ?_;rintro _ d1 ⟨bk,d2,d3,rfl,bm,b7⟩;refine ⟨_,rfl,?_⟩;refine Zk<|Xj bk hC0 bm<|xe rfl rfl ?_;intro c0 hC0;replace ag:=(ag.gr hC).gr bm;replace bj:=(bj.gr hC).gr bm;replace ab:=(ab.gr hC).gr bm;have hC:=hC0.bl bk
 obtain ⟨d4,c3,hm⟩:=bZ hm;refine Zi (Zgx 12 c3 (((bj.gr hC).toSlF (Zh.int .u32)).froz 11) (((b7.gr hC).froz 10).toSlF (Zh.int .u32))) ?_;rintro _ d5 ⟨c4,d6,d7,rfl,a0,bn⟩;refine ⟨_,rfl,?_⟩;replace bn:=bn.thaw (Z1 .u32) a0 (((Fz.refl (col:=bk)).froz 10).froz 11);replace a0:=a0.thawR (col:=bk);generalize Xc c0.heap.size bk c4=a9 at *;refine Zk<|Xj a9 hC0 a0<|xe rfl rfl ?_;intro c5 hC0;replace aa:=((aa.grow bm).grow hC).grow a0;replace ag:=(ag.gr hC).gr a0;replace ab:=(ab.gr hC).gr a0;have hC:=hC0.bl a9;obtain ⟨d8,c6,hm⟩:=bZ hm;refine Zi (Zmt 13 14 c6 (((ag.gr hC).toSlF (Zh.int .u32)).froz 12) (((bn.gr hC).froz 8).toSlF (Zh.int .u32))) ?_;rintro _ d9 ⟨c7,ea,eb,ec,ed,rfl,a1,a2,a3⟩;refine ⟨_,rfl,?_⟩;replace a2:=a2.thaw (Z1 .u32) a1 (((Fz.refl (col:=a9)).froz 8).froz 12);replace a3:=a3.thaw (Z1 .u32) a1 (((Fz.refl (col:=a9)).froz 8).froz 12);replace a1:=a1.thawR (col:=a9);generalize Xc c5.heap.size a9 c7=bx at *;refine Zk<|Xj bx hC0 a1<|xe rfl rfl ?_;intro ee hC0;replace ab:=(ab.gr hC).gr a1;replace aa:=(aa.grow hC).grow a1;have hC:=hC0.bl bx;refine Zy (ab.gr hC) ?_;intro ef b8 c8 b9;refine Zk<|xk bx<|Yz ?_;replace a2:=(a2.gr hC).kp b8;replace a3:=(a3.gr hC).kp b8;replace aa:=(aa.grow hC).kp b8 c8;intro eg hC;replace hC:=hC.bl bx;refine Vd ?_;cases hm;replace aa:=aa.grow hC;exact ⟨rfl,_,ra (b9.gr hC).atN,_,_,_,_,_,rfl,aa.fin (cm [(13,c1),(14,c2)]),aa.fo (a2.gr hC),aa.fo (a3.gr hC)⟩
def Q5 (N:Nat) (aa:R1) (ab:R1):Option R1:=
  (Q8 N aa.1.2 ab.1.2).bind fun ad=>(Sc N ((aa.1.1,aa.1.2),aa.2)).bind fun ae=>(Sc N ((ab.1.1,ab.1.2),ab.2)).bind fun af=>(Q8 N ae af).bind fun ag=>(Zdg N (!decide (aa.1.1=ab.1.1)) ad ag).bind fun ac=>some ((ac.1.1,ac.1.2),ac.2)
theorem Zp3 {N a4 a5 a6 a7:Nat} {a8 a9 ba bb:Option Addr} {col:Zd} {w0:World} {ai aj r:R1} (c1 c2:Nat) (hm:Q5 N ai aj=some r) (ar:Sl rU col w0 a8 a4 ai.1.2) (ax:Sl rU col w0 a9 a5 ai.2) (au:Sl rU col w0 ba a6 aj.1.2) (ay:Sl rU col w0 bb a7 aj.2):
    Calls prog 28 #[(.agg #[.bool ai.1.1,.slice a8 ai.1.2.length a4,.slice a9 ai.2.length a5]),(.agg #[.bool aj.1.1,.slice ba aj.1.2.length a6,.slice bb aj.2.length a7])] w0 (fun e w'=>∃ (col':Zd) (ra1:Option Addr) (rc2:Nat) (ra4:Option Addr) (rc5:Nat),e= .returned ((.agg #[.bool r.1.1,.slice ra1 r.1.2.length rc2,.slice ra4 r.2.length rc5]))∧Zf col w0 col' w'∧Zb rU 95 c1 col' w' ra1 rc2 r.1.2∧Zb rU 95 c2 col' w' ra4 rc5 r.2):=by
 refine Y5 (m:=25) func28 rfl rfl rfl ?_;rw [Q5.eq_1] at hm;have aa:=St.start col w0;refine go ?_;refine Xi (col:=(Zj col)) 1 rfl ?_;intro bt bu bf bg al;refine Xi (col:=bf) 2 rfl ?_;intro bv bw bh bc am;refine Xk (col:=bh) #[.bool false,(nI),(nI)] 3 zeroValue39 ?_;intro bx bz ad az ab;refine go ?_;refine Y8 (col:=ad) [(0,1),(1,1),(2,0),(3,1),(4,1),(5,0),(6,1),(7,1),(8,1),(9,0),(10,1),(11,1),(12,0),(14,0),(16,0),(13,3),(15,3),(17,3),(18,3),(19,3),(20,2)] (by kernel_rfl) (by kernel_rfl)<|xF ⟨_,_,rfl⟩ ?_;refine xF (Zbq ⟨_,_,rfl⟩) ?_;replace al:=(al.gr bc).gr az;refine xW (fun _ hC=>((((al.atN).part 0 2 _ rfl)).nth (q:=0) rfl).gr (hC.bl ad)) ?_;refine xF ⟨_,_,rfl⟩ ?_;refine xF (Zbq ⟨_,_,rfl⟩) ?_;replace am:=am.gr az;refine xW (fun _ hC=>((((am.atN).part 0 2 _ rfl)).nth (q:=0) rfl).gr (hC.bl ad)) ?_;refine xu rfl rfl (fun _=>Zjl _ _ underlying4 rfl rfl) ?_;refine xF ⟨_,_,rfl⟩ ?_;refine xF (Zbq ⟨_,_,rfl⟩) ?_;refine xW (fun _ hC=>((((al.atN).part 0 2 _ rfl)).nth (q:=1) rfl).gr (hC.bl ad)) ?_;refine xF ⟨_,_,rfl⟩ ?_;refine xF (Zbq ⟨_,_,rfl⟩) ?_;refine xW (fun _ hC=>((((am.atN).part 0 2 _ rfl)).nth (q:=1) rfl).gr (hC.bl ad)) ?_;refine xv rfl rfl (fun _ hC=>Z8 isAgg39 sizeOf39 (al.gr (hC.bl ad))) ?_;refine xv rfl rfl (fun _ hC=>Z8 isAgg39 sizeOf39 (am.gr (hC.bl ad))) ?_;refine xe rfl rfl ?_;intro b0 hC0;have hC:=hC0.bl ad;obtain ⟨b1,bi,hm⟩:=bZ hm;replace ar:=ar.k0;replace au:=au.k0;replace aa:=(((aa.grow bg).grow bc).grow az).grow hC;refine Zi (Zgx 4 bi (ar.ks aa) (au.ks aa)) ?_;rintro _ b2 ⟨bd,b3,b4,rfl,a0,ac⟩;refine ⟨_,rfl,?_⟩;refine Zk<|Xj bd hC0 a0<|xe rfl rfl ?_;intro b5 hC0;replace ab:=(ab.gr hC).gr a0;have hC:=hC0.bl bd;obtain ⟨b6,bj,hm⟩:=bZ hm;replace aa:=(aa.grow a0).grow hC;refine Zi (Zau 5 bj (ar.ks aa) (ax.k0.ks aa)) ?_;rintro _ b7 ⟨be,b8,b9,rfl,av,an⟩;refine ⟨_,rfl,?_⟩;refine Zk<|Xj be hC0 av<|xe rfl rfl ?_;intro ca hC0;replace ac:=(ac.gr hC).gr av;replace ab:=(ab.gr hC).gr av;have hC:=hC0.bl be;obtain ⟨cb,bk,hm⟩:=bZ hm;replace aa:=(aa.grow av).grow hC
 refine Zi (Zau 6 bk (au.ks aa) (ay.k0.ks aa)) ?_;rintro _ cc ⟨ao,cd,ce,rfl,ap,a1⟩;refine ⟨_,rfl,?_⟩;refine Zk<|Xj ao hC0 ap<|xe rfl rfl ?_;intro bm hC0;replace ac:=(ac.gr hC).gr ap;replace an:=(an.gr hC).gr ap;replace ab:=(ab.gr hC).gr ap;have hC:=hC0.bl ao;obtain ⟨cf,bn,hm⟩:=bZ hm;refine Zi (Zgx 7 bn (((an.gr hC).toSlF (Zh.int .u32)).froz 6) (((a1.gr hC).froz 5).toSlF (Zh.int .u32))) ?_;rintro _ cg ⟨bo,ch,ci,rfl,ae,aq⟩;refine ⟨_,rfl,?_⟩;replace aq:=aq.thaw (Z1 .u32) ae (((Fz.refl (col:=ao)).froz 5).froz 6);replace ae:=ae.thawR (col:=ao);generalize Xc bm.heap.size ao bo=ak at *;refine Zk<|Xj ak hC0 ae<|xe rfl rfl ?_;intro bp hC0;replace aa:=((aa.grow ap).grow hC).grow ae;replace ac:=(ac.gr hC).gr ae;replace ab:=(ab.gr hC).gr ae;have hC:=hC0.bl ak;obtain ⟨cj,bq,hm⟩:=bZ hm;refine Zi (Zmt 8 9 bq (((ac.gr hC).toSlF (Zh.int .u32)).froz 7) (((aq.gr hC).froz 4).toSlF (Zh.int .u32))) ?_;rintro _ ck ⟨br,cl,cn,co,cp,rfl,af,ag,ah⟩;refine ⟨_,rfl,?_⟩;replace ag:=ag.thaw (Z1 .u32) af (((Fz.refl (col:=ak)).froz 4).froz 7);replace ah:=ah.thaw (Z1 .u32) af (((Fz.refl (col:=ak)).froz 4).froz 7);replace af:=af.thawR (col:=ak);generalize Xc bp.heap.size ak br=aw at *;refine Zk<|Xj aw hC0 af<|xe rfl rfl ?_;intro cq hC0;replace ab:=(ab.gr hC).gr af;replace aa:=(aa.grow hC).grow af;have hC:=hC0.bl aw;refine Zy (ab.gr hC) ?_;intro cr a2 bs a3;refine Zk<|xk aw<|Yz ?_;replace ag:=(ag.gr hC).kp a2;replace ah:=(ah.gr hC).kp a2;replace aa:=(aa.grow hC).kp a2 bs;intro cs hC;replace hC:=hC.bl aw;refine Vd ?_;cases hm;replace aa:=aa.grow hC;exact ⟨rfl,_,ra (a3.gr hC).atN,_,_,_,_,_,rfl,aa.fin (cm [(8,c1),(9,c2)]),aa.fo (ag.gr hC),aa.fo (ah.gr hC)⟩
def Zd8 (N:Nat) (aa:R5):Option Int:=
  (Zky N aa.2).bind fun ab=>if (decide (ab=0))=true then (some 0) else (if aa.1=true then (some (-1)) else (some 1))
theorem Zm3 {N af:Nat} {ag:Option Addr} {col:Zd} {w0:World} {ab:R5} {r:Int} (hm:Zd8 N ab=some r) (ae:Sl rU col w0 ag af ab.2):
    Calls prog 62 #[(.agg #[.bool ab.1,.slice ag ab.2.length af])] w0 (fun e w'=>e= .returned ((.int .i64 r))∧Below w0.heap.size w0 w'):=by
 refine Xe 2 (m:=11) func62 rfl rfl rfl rfl rfl ?_;rw [Zd8.eq_1] at hm;have aa:=St.start col w0;refine go ?_;refine Xi (col:=(Zj col)) 1 rfl ?_;intro am ai ah aj ac;refine go ?_;refine Xl ac ?_;obtain ⟨an,ak,hm⟩:=bZ hm;replace aa:=aa.grow aj;refine Zi (Z4x ak (ae.k0.ks aa)) ?_;rintro _ al ⟨rfl,ad⟩;refine ⟨_,rfl,?_⟩;replace ad:Zf ah ai ah al:=.of_below ad;refine go ?_;replace aa:=aa.grow ad;refine Zo hm (fun hb hm=>go ?_) fun hb hm=>go ?_
 ·cases hm;exact ⟨rfl,rfl,aa.below⟩
 refine Xl (ac.gr ad) ?_;refine go ?_;refine Zo hm (fun hb hm=>go ?_) fun hb hm=>go ?_
 ·cases hm;exact ⟨rfl,rfl,aa.below⟩
 cases hm;exact ⟨rfl,rfl,aa.below⟩
def Zlq (N:Nat) (aa:R5) (ab:R5):Option Int:=
  (Zd8 N (aa.1,aa.2)).bind fun ac=>(Zd8 N (ab.1,ab.2)).bind fun ad=>if (decide (ac<ad))=true then (some (-1)) else (if (decide (ad<ac))=true then (some 1) else ((Zfd N aa.2 ab.2).bind fun ae=>some (i64.wrap (ac * ae))))
theorem Z5y {N aj ak:Nat} {al am:Option Addr} {col:Zd} {w0:World} {ad ae:R5} {r:Int} (hm:Zlq N ad ae=some r) (af:Sl rU col w0 al aj ad.2) (ag:Sl rU col w0 am ak ae.2):
    Calls prog 73 #[(.agg #[.bool ad.1,.slice al ad.2.length aj]),(.agg #[.bool ae.1,.slice am ae.2.length ak])] w0 (fun e w'=>e= .returned ((.int .i64 r))∧Below w0.heap.size w0 w'):=by
 refine Xe 4 (m:=26) func73 rfl rfl rfl rfl rfl ?_;rw [Zlq.eq_1] at hm;have aa:=St.start col w0;refine go ?_;refine Xi (col:=(Zj col)) 1 rfl ?_;intro az a0 ao ap ac;refine Xi (col:=ao) 2 rfl ?_;intro a1 a2 ab an ah;refine go ?_;refine Vs (col:=ab) (by kernel_rfl) (by kernel_rfl) ?_;replace ac:=ac.gr an;refine qv rfl (fun _ hC=>Z8 isAgg37 sizeOf37 (ac.gr (hC.bl ab))) ?_;obtain ⟨aq,ar,hm⟩:=bZ hm;replace af:=af.k0;replace aa:=(aa.grow ap).grow an;refine qc (v:=(.int .i64 aq)) rfl (fun _ hC=>⟨_,_,Zsj call62 rfl,(Zm3 ar ((af.ks aa).gr (hC.bl ab)):).mono fun _ _ h=>⟨h.1,hC.trans (.of_below h.2)⟩⟩) ?_;refine qv rfl (fun _ hC=>Z8 isAgg37 sizeOf37 (ah.gr (hC.bl ab))) ?_;obtain ⟨au,av,hm⟩:=bZ hm;replace ag:=ag.k0;refine qc (v:=(.int .i64 au)) rfl (fun _ hC=>⟨_,_,Zsj call62 rfl,(Zm3 av ((ag.ks aa).gr (hC.bl ab)):).mono fun _ _ h=>⟨h.1,hC.trans (.of_below h.2)⟩⟩) ?_;refine go ?_;refine Wn ?_;intro aw hC;replace hC:=hC.bl ab;refine go ?_;replace aa:=aa.grow hC;refine Zo hm (fun hb hm=>go ?_) fun hb hm=>go ?_
 ·cases hm;exact ⟨rfl,rfl,aa.below⟩
 refine Zo hm (fun hb hm=>go ?_) fun hb hm=>go ?_
 ·cases hm;exact ⟨rfl,rfl,aa.below⟩
 refine Xl (ac.gr hC)<|Xl (ah.gr hC) ?_;obtain ⟨a3,ax,hm⟩:=bZ hm;refine Zi (Zp6 ax (af.ks aa) (ag.ks aa)) ?_;rintro _ ay ⟨rfl,ai⟩;refine ⟨_,rfl,?_⟩;replace ai:Zf ab aw ab ay:=.of_below ai;refine go ?_;cases hm;exact ⟨rfl,rfl,(aa.grow ai).below⟩

end Go.Proofs.YtkhnlgdenkikoaaGreat
