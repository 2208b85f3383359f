/-
  What functions of the program compute, as plain Lean functions (m_..), and proofs that they compute it (c_..). Printed by a program of the author; no conditions.
-/
import Derived.Test.YtkhnlgdenkikoaaGreatLearnRisesBFloat
import Derived.Test.YtkhnlgdenkikoaaGreatProg
import Derived.Test.YtkhnlgdenkikoaaGreatLearnRisesBBrief
import Derived.Test.YtkhnlgdenkikoaaGreatLearnRisesBPiece
set_option linter.unusedVariables false
set_option maxRecDepth 100000
set_option maxHeartbeats 2000000
namespace Go.Proofs.YtkhnlgdenkikoaaGreat
open Go Go.RowKit
open List renaming getElem?_eq_getElem→aN,mem_cons_self→aC,mem_cons_of_mem→aB,nil_append→aV,cons_append→bY,replicate→aM,take_append_drop→dM,drop_eq_getElem_cons→aK,drop_eq_nil_of_le→aO,getElem_cons_zero→jH,set_cons_zero→fQ,length_take_of_le→gR,drop_eq_nil_iff→aH,eq_nil_of_length_eq_zero→dB,length_pos_iff→dH,drop_zero→aT,getD_eq_getElem?_getD→aE,getElem?_eq_none→cJ,length_replicate→bD,drop_drop→dR,drop_replicate→iB,getElem_set_self→jL,drop_length→gH,length_drop→bI,getElem_append_right→fY
open Nat renaming pow_succ→bF,mul_le_mul_right→bC,strongRecOn→iP,pow_pos→fX,sub_self→fO,pow_zero→dX,one_mul→aX,min_eq_left→bB,lt_of_lt_of_le→aF,mul_le_mul_left→aR,le_refl→aY,add_comm→eW,mul_zero→dY,add_zero→bQ,add_assoc→dW,zero_add→cW,two_pow_pos→cL,log2_eq_iff→kV,pow_le_pow_right→gZ,lt_of_le_of_lt→eS,pow_add→dK,le_div_iff_mul_le→gU,div_lt_iff_lt_mul→eK,mul_add→dZ,mod_eq_of_lt→eZ,two_pow_add_eq_or_of_lt→iQ,add_mul_mod_self_left→jA,add_mul_div_left→iC,div_eq_of_lt→fH,mul_lt_mul_of_pos_right→iR,mul_comm→cB,mul_mod_mul_left→jW,mod_lt→fA,lt_of_mul_lt_mul_left→fU,mul_le_mul→iD,le_of_lt→lQ,add_mul→aZ,div_add_mod→kW,div_le_self→cU,div_div_eq_div_mul→gW,eq_zero_or_pos→fZ,lt_trans→lR,mul_assoc→cE,gcd→dE,gcd_comm→fR,mul_lt_mul''→kR,le_max_left→eD,le_max_right→dQ,le_trans→aU,add_le_add→lG
open Int renaming fdiv_eq_ediv_of_nonneg→iX,toNat→aA,toNat_of_nonneg→bM,toNat_natCast→aD,mul_le_mul→lE,mul_nonneg→jI,natCast_mul→bU,toNat_zero→fP,tdiv→bJ,tmod→cG,natCast_emod→kQ,tdiv_eq_ediv_of_nonneg→bX,tmod_eq_emod_of_nonneg→cO,natCast_ediv→iS,natCast_nonneg→eJ,ofNat_lt→gV,natAbs_zero→kX,natAbs_mul→gA,natAbs_natCast→eY
open Option renaming getD_some→dJ
open Rat renaming num_mkRat→lK,den_mkRat→lN,natCast_pos→kY,mkRat_eq_div→dA,mul_assoc→bH,intCast_mul→jB,lt_irrefl→dO
open Go.IntKind (i8 i16 i32 i64 u8 u16 u32 u64)
open Go.Proofs.Tryz
abbrev R3:=List ByteArray
abbrev Rf:=List R3
abbrev R2:=List Int
abbrev R6:=List R2
abbrev R5:=Bool×List Int
abbrev R1:=R5×List Int
abbrev R4:=List R1
abbrev R9:=List R4
abbrev R0:=ByteArray×List ByteArray×Rf×R6×R9
abbrev R7:=Int×List Int
abbrev R8:=Nat×List Int
abbrev Ra:=List Int×List Int×Int
abbrev Rb:=R1×List Int
abbrev Rc:=Int×Int
abbrev Rd:=List Int×Bool
abbrev Re:=List Int×Int
theorem oB {α β:Type} {a:α} {f:α→Option β}:(some a).bind f=f a:=rfl
theorem dT {p:Prop} [i:Decidable p] (h:p):decide p=true:=decide_eq_true h
theorem dF {p:Prop} [i:Decidable p] (h:¬p):¬(decide p=true):=fun q=>h (of_decide_eq_true q)
theorem nA {α:Type _} {a b:List α}:(a++b).length=a.length+b.length:=List.length_append
theorem nC {α:Type _} {a:α} {b:List α}:(a :: b).length=b.length+1:=rfl
theorem nS {α:Type _} {a:List α} {i:Nat} {b:α}:(a.set i b).length=a.length:=List.length_set
theorem nK {α:Type _} {i:Nat} {a:List α}:(a.take i).length=min i a.length:=List.length_take
theorem nN {α:Type _}:([]:List α).length=0:=rfl

theorem Zv {x:Int} (h:-9223372036854775808≤x∧x≤9223372036854775807):i64.wrap x=x:=by rw [IntKind.wrap_i64];omega
theorem Z6 {α:Type} {c:Prop} [Decidable c] {x:Option α} (h:c):Z2 c x=x:=if_pos h
theorem Z1 {α:Type} {xs:List α} {k:Nat} (h:k<xs.length):Zm xs (k:Int)=some xs[k]:=by rw [Zga];exact aN h
theorem wS {k:Nat} (h:k<9223372036854775807):i64.wrap ((k:Int)+1)=((k+1:Nat):Int):=by rw [Zv (by omega)];rfl
theorem Zim {α:Type} [DecidableEq α]:∀ {l r:List α},l.Nodup→(∀ x ∈ l,x ∈ r)→l.length≤r.length
 | [],_,_,_=>Nat.zero_le _
 | x :: l,r,h,a=>by
  have b:=List.nodup_cons.1 h
  have c:=a x aC
  have f:=Zim (r:=r.erase x) b.2 fun y d=>(List.mem_erase_of_ne (fun e=>b.1 (by rw [← e];exact d))).2 (a y (aB _ d))
  rw [List.length_erase_of_mem c] at f
  have:=List.length_pos_of_mem c
  rw [nC];omega
section
variable {K V:Type} [DecidableEq K]
theorem Zfy (p:K×V) (es:List (K×V)) (k:K):W3 (p :: es) k=if p.1=k then some p.2 else W3 es k:=by
 rw [W3,List.find?_cons]
 by_cases h:p.1=k
 ·rw [if_pos h,decide_eq_true h];rfl
 ·rw [if_neg h,decide_eq_false h];rfl
theorem Z7o (es:List (K×V)) (k k':K) (v:V) (h:W3 es k=none):W3 (es++[(k,v)]) k'=if k'=k then some v else W3 es k':=by
 induction es with
 | nil=>
  rw [aV,Zfy]
  by_cases hk:k=k'
  ·subst hk;simp
  ·rw [if_neg hk,if_neg (Ne.symm hk)]
 | cons p es a=>
  rw [Zfy] at h
  split at h
  ·cases h
  ·rename_i b
   rw [bY,Zfy,Zfy,a h]
   by_cases h1:p.1=k'
   ·rw [if_pos h1,if_pos h1,if_neg (fun e=>b (h1.trans e))]
   ·rw [if_neg h1,if_neg h1]
theorem Z7p (es:List (K×V)) (k k':K) (v:V):W3 (es.map fun p=>if p.1=k then (k,v) else p) k'=if k'=k then (W3 es k).map fun _=>v else W3 es k':=by
 induction es with
 | nil=>simp [W3]
 | cons p es a=>
  rw [List.map_cons,Zfy,Zfy,Zfy,a]
  by_cases h1:p.1=k
  ·rw [if_pos h1,if_pos h1]
   by_cases h2:k'=k
   ·subst h2;rw [if_pos rfl,if_pos rfl];rfl
   ·rw [if_neg (Ne.symm h2),if_neg h2,if_neg h2,if_neg (fun e=>h2 (e.symm.trans h1))]
  ·rw [if_neg h1,if_neg h1]
   by_cases h3:p.1=k'
   ·rw [if_pos h3,if_pos h3,if_neg (fun e=>h1 (h3.trans e))]
   ·rw [if_neg h3,if_neg h3]
theorem Zxj (es:List (K×V)) (k k':K) (v:V):W3 (Qr es k v) k'=if k'=k then some v else W3 es k':=by
 rw [Qr]
 by_cases h:(W3 es k).isSome=true
 ·rw [if_pos h,Z7p]
  obtain ⟨u,a⟩:=Option.isSome_iff_exists.1 h
  rw [a];rfl
 ·rw [if_neg h]
  exact Z7o es k k' v (by simpa using h)
end
def Zc:List Int→Nat
 | []=>0
 | x :: l=>x.toNat+4294967296 * Zc l
def Zn (l:List Int):Prop:=∀ x ∈ l,0≤x∧x<4294967296
def Zg (n:Nat):List Int:=if n=0 then [] else ((n % 4294967296:Nat):Int) :: Zg (n / 4294967296)
termination_by n
decreasing_by omega
theorem Zn.nil:Zn []:=by simp [Zn]
theorem Zn.cons {x:Int} {l:List Int} (h:0≤x∧x<4294967296) (hl:Zn l):Zn (x :: l):=fun y a=>by
 rcases List.mem_cons.1 a with rfl | a
 ·exact h
 ·exact hl y a
theorem Zn.head {x:Int} {l:List Int} (h:Zn (x :: l)):0≤x∧x<4294967296:=h x aC
theorem Zn.tail {x:Int} {l:List Int} (h:Zn (x :: l)):Zn l:=fun y a=>h y (aB _ a)
theorem Zn.app {a b:List Int} (ha:Zn a) (hb:Zn b):Zn (a++b):=fun y c=>by
 rcases List.mem_append.1 c with h | h
 ·exact ha y h
 ·exact hb y h
theorem Zn.take {a:List Int} (h:Zn a) (k:Nat):Zn (a.take k):=fun y b=>h y (List.mem_of_mem_take b)
theorem Zn.drop {a:List Int} (h:Zn a) (k:Nat):Zn (a.drop k):=fun y b=>h y (List.mem_of_mem_drop b)
theorem Zn.zeros (k:Nat):Zn (aM k 0):=fun y a=>by
 rw [List.eq_of_mem_replicate a];decide
theorem Zn.set {a:List Int} (h:Zn a) (k:Nat) {v:Int} (hv:0≤v∧v<4294967296):Zn (a.set k v):=fun y b=>by
 rcases List.mem_or_eq_of_mem_set b with c | rfl
 ·exact h y c
 ·exact hv
theorem Zn.get {a:List Int} (h:Zn a) {k:Nat} (hk:k<a.length):0≤a[k]∧a[k]<4294967296:=h _ (List.getElem_mem hk)
theorem Yz:Zc []=0:=rfl
theorem Wo (x:Int) (l:List Int):Zc (x :: l)=x.toNat+4294967296 * Zc l:=rfl
theorem Qs (a b:List Int):Zc (a++b)=Zc a+4294967296 ^ a.length * Zc b:=by
 induction a with
 | nil=>simp [Zc]
 | cons x a c=>
  rw [bY,Wo,Wo,c,nC,bF]
  grind
theorem Sf (k:Nat):Zc (aM k 0)=0:=by
 induction k with
 | zero=>rfl
 | succ k a=>rw [List.replicate_succ,Wo,a];rfl
theorem Qt {l:List Int} (h:Zn l):Zc l<4294967296 ^ l.length:=by
 induction l with
 | nil=>simp [Zc]
 | cons x l a=>
  have c:=h.head
  have b:=a h.tail
  rw [Wo,nC,bF]
  have d:(Zc l+1) * 4294967296≤4294967296 ^ l.length * 4294967296:=bC _ b
  omega
theorem Xc (n:Nat):Zc (Zg n)=n:=by
 induction n using iP with
 | ind n a=>
  rw [Zg]
  split
  ·rename_i h;rw [h];rfl
  ·rename_i h
   rw [Wo,a (n / 4294967296) (by omega)]
   omega
theorem Vm:Zg 0=[]:=by rw [Zg,if_pos rfl]
theorem Zeu {n:Nat} (h:n≠0):Zg n=((n % 4294967296:Nat):Int) :: Zg (n / 4294967296):=by rw [Zg,if_neg h]
theorem Ss:Zg 1=[1]:=by rw [Zeu (by decide)];simp [Vm]
theorem Xf (n:Nat):Zn (Zg n):=by
 induction n using iP with
 | ind n a=>
  rw [Zg]
  split
  ·exact .nil
  ·exact .cons (by omega) (a (n / 4294967296) (by omega))
theorem W0 {k n:Nat}:(Zg n).length≤k↔n<4294967296 ^ k:=by
 induction k generalizing n with
 | zero=>
  by_cases h:n=0
  ·subst h;simp [Vm]
  ·rw [Zeu h];simp;omega
 | succ k a=>
  by_cases h:n=0
  ·subst h;simp [Vm];exact fX (by decide)
  ·rw [Zeu h,nC,Nat.add_le_add_iff_right,a,bF]
   omega
theorem Yq {l:List Int} (h:Zn l):(Zg (Zc l)).length≤l.length:=W0.2 (Qt h)
theorem Zgs {n:Nat}:Zg n=[]↔n=0:=by
 by_cases h:n=0
 ·subst h;simp [Vm]
 ·rw [Zeu h];simp [h]
theorem Zw5 {x:Int} {l:List Int} (h:0≤x∧x<4294967296) (h0:x=0→Zc l≠0):Zg (Zc (x :: l))=x :: Zg (Zc l):=by
 have a:Zc (x :: l)≠0:=by
  rw [Wo]
  by_cases hx:x=0
  ·have:=h0 hx;omega
  ·omega
 rw [Zeu a,Wo]
 congr 1
 ·omega
 ·congr 1;omega
theorem Z76 {a:List Int} {x:Int} (h:0<x):Zc (a++[x])≠0:=by
 rw [Qs,Wo,Yz]
 have:0<4294967296 ^ a.length * (x.toNat+4294967296 * 0):=Nat.mul_pos (fX (by decide)) (by omega)
 omega
theorem Z7j {a:List Int} {x:Int} (h:Zn (a++[x])) (hx:x≠0):Zg (Zc (a++[x]))=a++[x]:=by
 induction a with
 | nil=>
  have:=h.head
  rw [aV,Zw5 this (fun e=>absurd e hx),Yz,Vm]
 | cons y a b=>
  have c:0≤x∧x<4294967296:=h x (by simp)
  rw [bY,Zw5 h.head fun _=>Z76 (by omega),b h.tail]
theorem Zx1 (a:List Int):Zc (a++[0])=Zc a:=by rw [Qs];simp [Zc]
theorem Zgp {l:List Int} (h:0<l.length):l.take (l.length - 1)++[l[l.length - 1]]=l:=by
 have:=dM (l.length - 1) l
 rw [aK (by omega),aO (by omega)] at this
 exact this
theorem Zmp {n:Nat} (h:0<(Zg n).length):(Zg n)[(Zg n).length - 1]≠0:=by
 induction n using iP with
 | ind n b=>
  by_cases h0:n=0
  ·subst h0;simp [Vm] at h
  ·have e:=Zeu h0
   by_cases h1:n / 4294967296=0
   ·have:Zg n=[((n % 4294967296:Nat):Int)]:=by rw [e,h1,Vm]
    simp only [this,List.length_singleton,fO,jH]
    omega
   ·have c:0<(Zg (n / 4294967296)).length:=by
     rw [Zeu h1];simp
    have:=b (n / 4294967296) (by omega) c
    have d:(Zg n).length - 1=(Zg (n / 4294967296)).length - 1+1:=by rw [e];simp;omega
    have a:(Zg n)[(Zg n).length - 1]?=(Zg (n / 4294967296))[(Zg (n / 4294967296)).length - 1]?:=by
     rw [d]
     conv=>lhs;rw [e]
     rw [List.getElem?_cons_succ]
    rw [aN (by omega),aN (by omega)] at a
    rw [Option.some.inj a]
    exact this
theorem Tx {l:List Int} {k:Nat} (hk:k<l.length) (v:Int):Zc (l.set k v)+4294967296 ^ k * (l[k]).toNat=Zc l+4294967296 ^ k * v.toNat:=by
 induction l generalizing k with
 | nil=>simp at hk
 | cons x l a=>
  cases k with
  | zero=>simp only [fQ,Wo,jH,dX,aX];omega
  | succ k=>
   have h:=a (k:=k) (by simpa using hk)
   simp only [List.set_cons_succ,Wo,List.getElem_cons_succ,bF]
   grind
theorem Zrj {l:List Int} {k:Nat} (hk:k<l.length):Zc (l.take (k+1))=Zc (l.take k)+4294967296 ^ k * (l[k]).toNat:=by
 rw [List.take_add_one,aN hk,Qs,Option.toList_some,Wo,Yz,nK,bB (by omega)]
 simp
theorem Ut {l:List Int} {k:Nat} (hk:k<l.length):Zc (l.drop k)=(l[k]).toNat+4294967296 * Zc (l.drop (k+1)):=by
 rw [aK hk,Wo]
theorem Ty (l:List Int) (k:Nat):Zc l=Zc (l.take k)+4294967296 ^ k * Zc (l.drop k):=by
 by_cases h:k≤l.length
 ·conv=>lhs;rw [← dM k l]
  rw [Qs,nK,bB h]
 ·rw [List.take_of_length_le (by omega),aO (by omega)];simp [Zc]
theorem Ul {x:Int} (h:0≤x∧x<4294967296):u32.wrap x=x:=by rw [IntKind.wrap_u32];omega
theorem Xm {x:Int} (h:0≤x∧x<18446744073709551616):u64.wrap x=x:=by rw [IntKind.wrap_u64];omega
theorem Zf4 {x:Int}:Y6 .u64 x 32=x / 4294967296:=by
 have:(min (32:Int).toNat u64.bits)=32:=by decide
 rw [Y6,this]
 exact iX _ (by decide)
def Zb5 (aa:List Int) (kk_L1:(List Int→Option R2)) (ab:Bool):Option R2:=
  if ab=true then (Z2 ((0:Int)≤(i64.wrap ((aa.length:Int) - 1))∧(i64.wrap ((aa.length:Int) - 1))≤(aa.length:Int)) (kk_L1 (aa.take (aA (i64.wrap ((aa.length:Int) - 1)))))) else (some aa)
def Sz (N:Nat):Nat→R2→Option R2
  | 0,_=>none
  | ab+1,aa=>if (decide (0<(aa.length:Int)))=true then ((Zm aa (i64.wrap ((aa.length:Int) - 1))).bind fun ac=>Zb5 aa (Sz N ab) (decide (ac=0))) else (Zb5 aa (Sz N ab) false)
termination_by structural x=>x
def Tc (N:Nat) (aa:List Int):Option R2:=
  Sz N N aa
theorem Qb {N ap:Nat} {a0:Option Addr} {col:Ze} {w0:World} {ag r:R2} (hm:Tc N ag=some r) (h0:Sl (Za.int .u32) col w0 a0 ap ag):
    Calls prog 142 #[.slice a0 ag.length ap] w0 (fun e w'=>∃ (col':Ze) (ra1:Option Addr) (rc2:Nat),e= .returned ((.slice ra1 r.length rc2))∧Zh col w0 col' w'∧Sl (Za.int .u32) col' w' ra1 rc2 r):=by
 refine Xl 2 (m:=21) func142 rfl rfl rfl rfl rfl ?_;rw [Tc.eq_1] at hm;have ab:=St.start col w0;refine go ?_;replace h0:=h0.keep (Zi.start col w0);refine Z4 [1000000] (fun n f ah=>∃ ai ad ae aa af,af=n∧Sz N af aa=some r∧St w0 (Zk col) ai ah∧Sl (Za.int .u32) ai ah ad ae aa∧[0].map f=[.slice ad aa.length ae]) N ⟨_,_,_,_,_,rfl,hm,ab,(h0.ks ab),rfl⟩ ?_;clear hm;intro n f ah hI;obtain ⟨ai,ad,ae,aa,af,hn,hm,ab,ac,hs⟩:=hI;subst hn;refine .lL [0] hs ?_
 cases af with
 | zero=>rw [Sz.eq_1] at hm;cases hm
 | succ af=>
  rw [Sz.eq_2] at hm;refine Z0<|Z0 ?_;refine Wp.cutK [0,1000000] (fun f aj=>∃ ak al,Zb5 aa (Sz N af) al=some r∧St w0 (Zk col) ak aj∧Sl (Za.int .u32) ak aj ad ae aa∧[14].map f=[.bool al]) ?_ ?_
  ·intro f aj hJ;obtain ⟨ak,al,hm,ab,ac,hs⟩:=hJ;rw [Zb5.eq_1] at hm;refine .lL [14] hs ?_;refine Zq hm (fun hb hm=>go ?_) fun hb hm=>go ?_
   ·obtain ⟨am,hm⟩:=Z8 hm;refine lv (v:=.slice ad (aA (i64.wrap ((aa.length:Int) - 1))) ae) rfl rfl (Zlk underlying35 sizeOf95 rfl rfl am.1 (by have:=ac.1.2;have:=am.2;omega))<|.ld (d:=19) (v:=(.slice ad ((aa.take (aA (i64.wrap ((aa.length:Int) - 1)))).length) ae)) (congrArg (fun n=>Value.slice ad n ae) (gR (show (aA (i64.wrap ((aa.length:Int) - 1)))≤aa.length by have:=am.2;omega)).symm) ?_;refine go ?_;exact ⟨af,by omega,rfl,⟨_,_,_,_,_,rfl,hm,ab,(ac.take (aA (i64.wrap ((aa.length:Int) - 1)))),rfl⟩⟩
   cases hm;exact ⟨rfl,_,_,_,rfl,ab.fin (cm []),ab.fs ac⟩
  refine go ?_;refine Yt hm (fun an hm=>go ?_) fun an hm=>go ?_
  ·obtain ⟨aq,ao,hm⟩:=bZ hm;refine lI ao (ac.addr ao) ?_;refine go ?_;refine lW (ac.atInt ao)<|go ?_;refine lV (.bool (decide (aq=0))) (Yf (congrArg Value.bool an) rfl)<|Zl ?_;exact ⟨rfl,_,_,hm,ab,ac,rfl⟩
  refine lV (.bool false) (X8 (congrArg Value.bool an) rfl)<|Zl ?_;exact ⟨rfl,_,_,hm,ab,ac,rfl⟩
def Zfa (N:Nat) (ab:List Int) (ac:List Int):Nat→Int→Option Int
  | 0,_=>none
  | af+1,aa=>if (decide (0≤aa))=true then ((Zm ab aa).bind fun ad=>(Zm ac aa).bind fun ae=>if (decide (ad<ae))=true then (some (-1)) else (if (decide (ae<ad))=true then (some 1) else ((Zfa N ab ac af) (i64.wrap (aa - 1))))) else (some 0)
termination_by structural x=>x
def Ze9 (N:Nat) (ac:List Int) (ad:List Int):Option Int:=
  (Tc N ac).bind fun aa=>(Tc N ad).bind fun ab=>if (!decide ((aa.length:Int)=(ab.length:Int)))=true then (if (decide ((aa.length:Int)<(ab.length:Int)))=true then (some (-1)) else (some 1)) else (Zfa N aa ab N (i64.wrap ((aa.length:Int) - 1)))
theorem Zps {N al am:Nat} {a0 a1:Option Addr} {col:Ze} {w0:World} {ai aj:R2} {r:Int} (hm:Ze9 N ai aj=some r) (h0:Sl (Za.int .u32) col w0 a0 al ai) (h1:Sl (Za.int .u32) col w0 a1 am aj):
    Calls prog 133 #[.slice a0 ai.length al,.slice a1 aj.length am] w0 (fun e w'=>e= .returned ((.int .i64 r))∧Below w0.heap.size w0 w'):=by
 refine Xl 4 (m:=45) func133 rfl rfl rfl rfl rfl ?_;rw [Ze9.eq_1] at hm;have aa:=St.start col w0;refine go ?_;obtain ⟨an,aq,hm⟩:=bZ hm;replace h0:=h0.keep (Zi.start col w0);refine Zj (Qb aq (h0.ks aa)) ?_;rintro _ az ⟨a2,ar,au,rfl,av,ab⟩;refine ⟨_,rfl,?_⟩;refine Y2 rfl ?_;obtain ⟨ao,aw,hm⟩:=bZ hm;replace h1:=h1.keep (Zi.start col w0);replace aa:=aa.grow av;refine Zj (Qb aw (h1.ks aa)) ?_;rintro _ a3 ⟨a4,ax,ay,rfl,ap,ad⟩;refine ⟨_,rfl,go ?_⟩;replace ab:=ab.gr ap;replace aa:=aa.grow ap;refine Zq hm (fun hb hm=>go ?_) fun hb hm=>go ?_
 ·refine Zq hm (fun hb hm=>go ?_) fun hb hm=>go ?_
  ·cases hm;exact ⟨rfl,rfl,aa.below⟩
  cases hm;exact ⟨rfl,rfl,aa.below⟩
 refine Z4 [0,1,1000000] (fun n f ah=>∃ ac ak ae,ae=n∧Zfa N an ao ae ak=some r∧St w0 (Zk col) ac ah∧Sl (Za.int .u32) ac ah ar au an∧Sl (Za.int .u32) ac ah ax ay ao∧[5].map f=[.int .i64 ak]) N ⟨_,_,_,rfl,hm,aa,ab,ad,rfl⟩ ?_;clear hm;intro n f ah hI;obtain ⟨ac,ak,ae,hn,hm,aa,ab,ad,hs⟩:=hI;subst hn;refine .lL [5] hs ?_
 cases ae with
 | zero=>rw [Zfa.eq_1] at hm;cases hm
 | succ ae=>
  rw [Zfa.eq_2] at hm;refine go ?_;refine Zq hm (fun hb hm=>go ?_) fun hb hm=>go ?_
  ·refine V4 (col:=ac) (by kernel_rfl) (by kernel_rfl)<|go ?_;obtain ⟨a5,af,hm⟩:=bZ hm;refine qI af (ab.addr af)<|qW (fun _ hC=>(ab.gr (hC.bl ac)).atInt af) ?_;refine go ?_;obtain ⟨a6,ag,hm⟩:=bZ hm;refine qI ag (ad.addr ag)<|qW (fun _ hC=>(ad.gr (hC.bl ac)).atInt ag) ?_;refine go ?_;refine Vc ?_;intro a7 hC;replace hC:=hC.bl ac;replace ab:=ab.gr hC;replace ad:=ad.gr hC;replace aa:=aa.grow hC;refine Zq hm (fun hb hm=>go ?_) fun hb hm=>go ?_
   ·cases hm;exact ⟨rfl,rfl,aa.below⟩
   refine V4 (col:=ac) (by kernel_rfl) (by kernel_rfl)<|go ?_;refine qI af (ab.addr af)<|qW (fun _ hC=>(ab.gr (hC.bl ac)).atInt af) ?_;refine go ?_;refine qI ag (ad.addr ag)<|qW (fun _ hC=>(ad.gr (hC.bl ac)).atInt ag) ?_;refine go ?_;refine Vc ?_;intro a8 hC;replace hC:=hC.bl ac;replace ab:=ab.gr hC;replace ad:=ad.gr hC;replace aa:=aa.grow hC;refine Zq hm (fun hb hm=>go ?_) fun hb hm=>go ?_
   ·cases hm;exact ⟨rfl,rfl,aa.below⟩
   exact ⟨ae,by omega,rfl,⟨_,_,_,rfl,hm,aa,ab,ad,rfl⟩⟩
  cases hm;exact ⟨rfl,rfl,aa.below⟩
theorem Z6i:Wv prog 95 1 4:=⟨Tryz.t95,_,rfl,rfl,rfl,rfl,rfl⟩
def Zfu (aa:List Int):Option R2:=
  Z2 ((([]:List Int).length+aa.length) * 4≤140737488355328∧([]:List Int).length+aa.length≤maxLen) (some (([]:List Int)++aa))
theorem Zpw {ad:Nat} {a0:Option Addr} {col:Ze} {w0:World} {ac r:R2} (c1:Nat) (hm:Zfu ac=some r) (h0:Sl (Za.int .u32) col w0 a0 ad ac):
    Calls prog 188 #[.slice a0 ac.length ad] w0 (fun e w'=>∃ (col':Ze) (ra1:Option Addr) (rc2:Nat),e= .returned ((.slice ra1 r.length rc2))∧Zh col w0 col' w'∧Zb (Za.int .u32) 95 c1 col' w' ra1 rc2 r):=by
 refine Xl 2 (m:=8) func188 rfl rfl rfl rfl rfl ?_;rw [Zfu.eq_1] at hm;have aa:=St.start col w0;refine go ?_;replace h0:=h0.keep (Zi.start col w0);rcases Zrg h0 with ab | ab
 ·replace hm:some ([]:List Int)=some r:=by have h0:=ab.2;subst h0;simpa [Z2,maxLen] using hm
  refine lv (v:=.bool a0.isNone) rfl rfl (Zir underlying35 rfl)<|.ld (d:=4) (v:=.bool true) (congrArg Value.bool ab.1)<|Zl<|X3 rfl<|go ?_;cases hm;exact ⟨rfl,_,none,0,rfl,aa.fin (cm []),Zb.nil⟩
 refine lv (v:=.bool a0.isNone) rfl rfl (Zir underlying35 rfl)<|.ld (d:=4) (v:=.bool false) (congrArg Value.bool ab)<|Zl<|X2 rfl<|go ?_;refine Zqr (col:=(Zk col)) (r:=(Za.int .u32)) 1 rfl underlying35 Z6i rfl ?_;intro aj ak al ae af;refine Y2 rfl ?_;obtain ⟨ag,hm⟩:=Z8 hm;replace h0:=h0.gr ae;refine V1 af h0.srcC ag ?_;intro am an ao ap ah ai;refine go ?_;cases hm;replace aa:=(aa.grow ae).kpp ah;exact ⟨rfl,_,_,_,rfl,aa.fin (cm [(1,c1)]),aa.fo ai⟩
def Zm0 (aa:Int) (kk_L1:(List Int→Int→Int→Option R2)) (ab:List Int) (ac:Int):Option R2:=
  kk_L1 ab ac (i64.wrap (aa+1))
def Zhu (ab:List Int) (aa:Int) (kk_L1:(List Int→Int→Int→Option R2)) (ac:Int) (ad:Int):Option R2:=
  (Zm ab aa).bind fun ae=>(some (ab.set (aA aa) (u32.wrap (ae - (u32.wrap ac))))).bind fun af=>Zm0 aa kk_L1 af ad
def Zht (aa:List Int) (ab:Int) (kk_L1:(List Int→Int→Int→Option R2)) (ac:Int):Option R2:=
  (Zm aa ab).bind fun ad=>if (decide ((u64.wrap ad)<ac))=true then (Zhu aa ab kk_L1 ac 1) else (Zhu aa ab kk_L1 ac 0)
def Sy (N:Nat) (ac:List Int) (ab:List Int):Nat→R2→Int→Int→Option R2
  | 0,_,_,_=>none
  | ae+1,ad,af,aa=>if (decide (aa<(ac.length:Int)))=true then (if (decide (aa<(ab.length:Int)))=true then ((Zm ab aa).bind fun ag=>Zht ad aa (Sy N ac ab ae) (u64.wrap (af+(u64.wrap ag)))) else (Zht ad aa (Sy N ac ab ae) af)) else (some ad)
termination_by structural x=>x
def Zmz (N:Nat) (aa:List Int) (ab:List Int):Option R2:=
  Sy N aa ab N aa 0 0
theorem Z39 {N ae an:Nat} {a0 a1:Option Addr} {col:Ze} {w0:World} {ab ag r:R2} (qc0:Nat) (hm:Zmz N ab ag=some r) (hd:U1 [qc0]=true) (h0:Zb (Za.int .u32) 95 qc0 col w0 a0 ae ab) (h1:Sl (Za.int .u32) col w0 a1 an ag):
    Calls prog 190 #[.slice a0 ab.length ae,.slice a1 ag.length an] w0 (fun e w'=>∃ (col':Ze),e= .returned (.tuple #[])∧Zu (pS [qc0]) col w0 col' w'∧Zb (Za.int .u32) 95 qc0 col' w' a0 ae r∧r.length=ab.length):=by
 refine Zcs (m:=40) (args:=[.slice a0 ab.length ae,.slice a1 ag.length an]) func190 rfl rfl rfl rfl ?_;rw [Zmz.eq_1] at hm;have aa:=St.startL (l:=[qc0]) rfl col w0;replace h0:=h0.startL (T9 hd 0 rfl) (T8 hd 0 rfl);refine go ?_;refine Z4 [1,8,1000000] (fun n f ao=>∃ ap ac aq ah af,af=n∧Sy N ab ag af ac aq ah=some r∧St w0 (Xh [qc0] col) ap ao∧Zb (Za.int .u32) 95 440 ap ao a0 ae ac∧ac.length=ab.length∧ac.length=ab.length∧[0,4,9].map f=[.slice a0 ac.length ae,.int .u64 aq,.int .i64 ah]) N ⟨_,_,0,0,_,rfl,hm,aa,h0,rfl,rfl,rfl⟩ ?_;clear hm;intro n f ao hI;obtain ⟨ap,ac,aq,ah,af,hn,hm,aa,ad,a8,a9,hs⟩:=hI;subst hn;refine .lL [0,4,9] hs ?_;replace h1:=h1.keep (Zi.startL [qc0] col w0)
 cases af with
 | zero=>rw [Sy.eq_1] at hm;cases hm
 | succ af=>
  rw [Sy.eq_2] at hm;refine go ?_;refine Zq hm (fun hb hm=>?_) fun hb hm=>go ?_
  ·refine Yl<|Z0 ?_;refine Wp.cutK [1,8,9,1000000] (fun f ar=>∃ au ai av,Zm0 ah (Sy N ab ag af) ai av=some r∧St w0 (Xh [qc0] col) au ar∧Zb (Za.int .u32) 95 440 au ar a0 ae ai∧ai.length=ab.length∧ai.length=ab.length∧[0,4].map f=[.slice a0 ai.length ae,.int .u64 av]) ?_ ?_
   ·intro f ar hJ;obtain ⟨au,ai,av,hm,aa,ba,bb,bc,hs⟩:=hJ;rw [Zm0.eq_1] at hm;refine .lL [0,4] hs<|go ?_;exact ⟨af,by omega,rfl,⟨_,_,_,_,_,rfl,hm,aa,ba,bb,bc,rfl⟩⟩
   refine Zef<|Z0<|Vd<|X1 rfl<|Y7 rfl<|Zl<|Z0<|Vd<|X1 rfl<|Y7 rfl<|Zl<|Z0 ?_;refine Wp.cutK [0,1,5,8,9,1000000] (fun f aw=>∃ ax aj,Zht ac ah (Sy N ab ag af) aj=some r∧St w0 (Xh [qc0] col) ax aw∧Zb (Za.int .u32) 95 440 ax aw a0 ae ac∧[6].map f=[.int .u64 aj]) ?_ ?_
   ·intro f aw hJ;obtain ⟨ax,aj,hm,aa,ad,hs⟩:=hJ;rw [Zht.eq_1] at hm;refine .lL [6] hs<|Z0<|Vd<|Y7 rfl<|Zl<|Z0 ?_;refine Wp.cutK [0,1,5,6,8,9,1000000] (fun f ay=>∃ az a2,Zhu ac ah (Sy N ab ag af) aj a2=some r∧St w0 (Xh [qc0] col) az ay∧Zb (Za.int .u32) 95 440 az ay a0 ae ac∧[4].map f=[.int .u64 a2]) ?_ ?_
    ·intro f ay hJ;obtain ⟨az,a2,hm,aa,ad,hs⟩:=hJ;rw [Zhu.eq_1] at hm;refine .lL [4] hs<|go ?_;obtain ⟨a5,ak,hm⟩:=bZ hm;refine lI ak (ad.addr ak)<|lW (ad.atInt ak) ?_;refine go ?_;refine lI ak (ad.addr ak) ?_;obtain ⟨al,am,hm⟩:=bZ hm;have am:al=ac.set (aA ah) (u32.wrap (a5 - (u32.wrap aj))):=(Option.some.inj am).symm;refine Wr (x1:=u32.wrap (a5 - (u32.wrap aj))) ad ak ?_;intro bf bd be a6;rw [← am] at a6;have a7:al.length=ab.length:=(show ac.length=al.length by rw [am,nS]).symm.trans a8;refine .ld (d:=0) (v:=(.slice a0 al.length ae)) (congrArg (fun n=>Value.slice a0 n ae) (show ac.length=al.length by rw [am,nS])) ?_;refine Zl ?_;replace aa:=aa.kp bd be;exact ⟨rfl,_,_,_,hm,aa,a6,a7,a7,rfl⟩
    refine go ?_;obtain ⟨bg,a3,hm⟩:=bZ hm;refine lI a3 (ad.addr a3)<|lW (ad.atInt a3) ?_;refine go ?_;refine Zq hm (fun hb hm=>go ?_) fun hb hm=>?_
    ·exact ⟨rfl,_,1,hm,aa,ad,rfl⟩
    refine Yl ?_;exact ⟨rfl,_,0,hm,aa,ad,rfl⟩
   refine go ?_;refine Zq hm (fun hb hm=>go ?_) fun hb hm=>?_
   ·obtain ⟨bh,a4,hm⟩:=bZ hm;refine lI a4 ((h1.ks aa).addr a4)<|lW ((h1.ks aa).atInt a4) ?_;refine go ?_;exact ⟨rfl,_,_,hm,aa,ad,rfl⟩
   refine Yl ?_;exact ⟨rfl,_,_,hm,aa,ad,rfl⟩
  cases hm;exact ⟨rfl,_,rfl,aa.finL rfl (cm [(440,qc0)]),aa.foL ad,a9⟩
def Tb (N:Nat) (ab:List Int):Option R2:=
  (Tc N ab).bind fun aa=>if (decide ((aa.length:Int)=0))=true then (some ([]:List Int)) else ((Zfu aa).bind fun ac=>some ac)
theorem Qa {N ac:Nat} {a0:Option Addr} {col:Ze} {w0:World} {ab r:R2} (c1:Nat) (hm:Tb N ab=some r) (h0:Sl (Za.int .u32) col w0 a0 ac ab):
    Calls prog 154 #[.slice a0 ab.length ac] w0 (fun e w'=>∃ (col':Ze) (ra1:Option Addr) (rc2:Nat),e= .returned ((.slice ra1 r.length rc2))∧Zh col w0 col' w'∧Zb (Za.int .u32) 95 c1 col' w' ra1 rc2 r):=by
 refine Xl 2 (m:=10) func154 rfl rfl rfl rfl rfl ?_;rw [Tb.eq_1] at hm;have aa:=St.start col w0;refine go ?_;obtain ⟨aj,ad,hm⟩:=bZ hm;replace h0:=h0.keep (Zi.start col w0);refine Zj (Qb ad (h0.ks aa)) ?_;rintro _ ak ⟨al,am,an,rfl,ae,af⟩;refine ⟨_,rfl,go ?_⟩;replace aa:=aa.grow ae;refine Zq hm (fun hb hm=>go ?_) fun hb hm=>go ?_
 ·cases hm;exact ⟨rfl,_,none,0,rfl,aa.fin (cm []),Zb.nil⟩
 obtain ⟨ao,ag,hm⟩:=bZ hm;refine Zj (Zpw 1 ag af) ?_;rintro _ ap ⟨aq,ar,au,rfl,ah,ai⟩;refine ⟨_,rfl,go ?_⟩;cases hm;replace aa:=aa.grow ah;exact ⟨rfl,_,_,_,rfl,aa.fin (cm [(1,c1)]),aa.fo ai⟩
def Zhq (N:Nat) (aa:List Int) (ab:List Int):Option Rd:=
  (Ze9 N aa ab).bind fun ac=>if (decide (ac<0))=true then (some (([]:List Int),false)) else ((Tc N aa).bind fun ad=>(Zfu ad).bind fun ae=>(Tc N ab).bind fun af=>(Zmz N ae af).bind fun ag=>(Tb N ag).bind fun ah=>some (ah,true))
theorem Zt7 {N ah ai:Nat} {a0 a1:Option Addr} {col:Ze} {w0:World} {ab ac:R2} {r:Rd} (c1:Nat) (hm:Zhq N ab ac=some r) (h0:Sl (Za.int .u32) col w0 a0 ah ab) (h1:Sl (Za.int .u32) col w0 a1 ai ac):
    Calls prog 150 #[.slice a0 ab.length ah,.slice a1 ac.length ai] w0 (fun e w'=>∃ (col':Ze) (ra1:Option Addr) (rc2:Nat),e= .returned (.tuple #[.slice ra1 r.1.length rc2,.bool r.2])∧Zh col w0 col' w'∧Zb (Za.int .u32) 95 c1 col' w' ra1 rc2 r.1):=by
 refine Zje 4 5 (m:=20) (args:=[.slice a0 ab.length ah,.slice a1 ac.length ai]) func150 rfl rfl rfl rfl rfl ?_;rw [Zhq.eq_1] at hm;have aa:=St.start col w0;refine go ?_;obtain ⟨a9,aq,hm⟩:=bZ hm;replace h0:=h0.keep (Zi.start col w0);replace h1:=h1.keep (Zi.start col w0);refine Zj (Zps aq (h0.ks aa) (h1.ks aa)) ?_;rintro _ ar ⟨rfl,aj⟩;refine ⟨_,rfl,?_⟩;replace aj:Zh (Zk col) w0 (Zk col) ar:=.of_below aj;refine go ?_;replace aa:=aa.grow aj;refine Zq hm (fun hb hm=>go ?_) fun hb hm=>go ?_
 ·cases hm;exact ⟨rfl,_,none,0,rfl,aa.fin (cm []),Zb.nil⟩
 obtain ⟨ba,au,hm⟩:=bZ hm;refine Zj (Qb au (h0.ks aa)) ?_;rintro _ bb ⟨bc,bd,be,rfl,av,aw⟩;refine ⟨_,rfl,?_⟩;obtain ⟨an,ax,hm⟩:=bZ hm;refine Zj (Zpw 1 ax aw) ?_;rintro _ bf ⟨bg,ad,ae,rfl,ay,ak⟩;refine ⟨_,rfl,go ?_⟩;obtain ⟨bh,az,hm⟩:=bZ hm;replace aa:=(aa.grow av).grow ay;refine Zj (Qb az (h1.ks aa)) ?_;rintro _ bi ⟨bj,bk,bm,rfl,ao,a2⟩;refine ⟨_,rfl,?_⟩;obtain ⟨af,a3,hm⟩:=bZ hm;replace ak:=ak.gr ao;refine Zj (Z39 1 a3 rfl ak a2) ?_;rintro _ a4 ⟨al,rfl,a5,a6,ap⟩;refine ⟨_,rfl,?_⟩;refine .ld (d:=6) (v:=(.slice ad af.length ae)) (congrArg (fun n=>Value.slice ad n ae) (show an.length=af.length from ap.symm)) ?_;refine .ld (d:=14) (v:=(.slice ad af.length ae)) (congrArg (fun n=>Value.slice ad n ae) (show an.length=af.length from ap.symm)) ?_;refine go ?_;obtain ⟨bn,a7,hm⟩:=bZ hm;refine Zj (Qa 2 a7 (a6.toSlF (Zd.int .u32))) ?_;rintro _ bo ⟨a8,bp,bq,rfl,ag,am⟩;refine ⟨_,rfl,?_⟩;replace am:=am.thaw (Z7 .u32) ag ((Fz.refl (col:=al)).froz 1) (by decide);replace ag:=ag.thawR (col:=al);generalize Xj a4.heap.size al a8=br at *;refine go ?_;cases hm;replace aa:=((aa.grow ao).kpp a5).grow ag;exact ⟨rfl,_,_,_,rfl,aa.fin (cm [(2,c1)]),aa.fo am⟩
def Zmw (aa:Nat) (kk_L1:(Nat→R2→Int→Option R2)) (ab:List Int) (ac:Int):Option R2:=
  kk_L1 (aa+1) ab ac
def Zho (aa:Nat) (ab:List Int) (kk_L1:(Nat→R2→Int→Option R2)) (ac:Int):Option R2:=
  (Zm ab (aa:Int)).bind fun ae=>(some (ab.set (aA (aa:Int)) (u32.wrap ac))).bind fun ad=>Zmw aa kk_L1 ad (Y6 .u64 ac 32)
def Ql (N:Nat) (ac:List Int) (ad:List Int):List Int→Nat→R2→Int→Option R2
  | [],aa,ab,ae=>(Zm ab (ac.length:Int)).bind fun ak=>(some (ab.set (aA (ac.length:Int)) (u32.wrap ae))).bind fun ah=>(Tb N ah).bind fun ai=>some ai
  | af :: ag,aa,ab,ae=>if (decide ((aa:Int)<(ad.length:Int)))=true then ((Zm ad (aa:Int)).bind fun aj=>Zho aa ab (Ql N ac ad ag) (u64.wrap ((u64.wrap (ae+(u64.wrap af)))+(u64.wrap aj)))) else (Zho aa ab (Ql N ac ad ag) (u64.wrap (ae+(u64.wrap af))))
termination_by structural x=>x
def Zhn (N:Nat) (aa:List Int) (ab:List Int):Option R2:=
  Z2 ((aA (i64.wrap ((aa.length:Int)+1))) * 4≤281474976710656∧(aA (i64.wrap ((aa.length:Int)+1)))≤maxLen∧0≤(i64.wrap ((aa.length:Int)+1))) (Ql N aa ab aa 0 (aM (aA (i64.wrap ((aa.length:Int)+1))) (0:Int)) 0)
def Zj2 (N:Nat) (ac:List Int) (ad:List Int):Option R2:=
  (Tc N ac).bind fun aa=>(Tc N ad).bind fun ab=>if (decide ((aa.length:Int)<(ab.length:Int)))=true then (Zhn N ab aa) else (Zhn N aa ab)
theorem Z35 {N bp bq:Nat} {a0 a1:Option Addr} {col:Ze} {w0:World} {a9 ba r:R2} (c1:Nat) (hm:Zj2 N a9 ba=some r) (h0:Sl (Za.int .u32) col w0 a0 bp a9) (h1:Sl (Za.int .u32) col w0 a1 bq ba):
    Calls prog 149 #[.slice a0 a9.length bp,.slice a1 ba.length bq] w0 (fun e w'=>∃ (col':Ze) (ra1:Option Addr) (rc2:Nat),e= .returned ((.slice ra1 r.length rc2))∧Zh col w0 col' w'∧Zb (Za.int .u32) 95 c1 col' w' ra1 rc2 r):=by
 refine Xl 4 (m:=62) func149 rfl rfl rfl rfl rfl ?_;rw [Zj2.eq_1] at hm;have aa:=St.start col w0;refine go ?_;obtain ⟨ca,bw,hm⟩:=bZ hm;replace h0:=h0.keep (Zi.start col w0);refine Zj (Qb bw (h0.ks aa)) ?_;rintro _ cb ⟨cc,cd,ce,rfl,bx,a3⟩;refine ⟨_,rfl,?_⟩;refine Y2 rfl ?_;obtain ⟨cf,bz,hm⟩:=bZ hm;replace h1:=h1.keep (Zi.start col w0);replace aa:=aa.grow bx;refine Zj (Qb bz (h1.ks aa)) ?_;rintro _ cg ⟨ch,ci,cj,rfl,br,bs⟩;refine ⟨_,rfl,?_⟩;refine Zmn rfl<|Zmn rfl<|Zl<|Z0 ?_;replace a3:=a3.gr br;replace aa:=aa.grow br;refine Wp.cutK [1000000] (fun f aq=>∃ ar am an ab ao ap ae,Zhn N ab ae=some r∧St w0 (Zk col) ar aq∧Sl (Za.int .u32) ar aq am an ab∧Sl (Za.int .u32) ar aq ao ap ae∧[0,1].map f=[.slice am ab.length an,.slice ao ae.length ap]) ?_ ?_
 ·intro f aq hJ;obtain ⟨ar,am,an,ab,ao,ap,ae,hm,aa,ac,ad,hs⟩:=hJ;rw [Zhn.eq_1] at hm;refine .lL [0,1] hs<|go ?_;obtain ⟨a4,hm⟩:=Z8 hm;refine Q3 (col:=ar) (w:=aq) (r:=(Za.int .u32)) (n:=(aA (i64.wrap ((ab.length:Int)+1)))) (x0:=0) 1 rfl underlying35 Tryz.t95 rfl rfl rfl rfl rfl (congrArg (Value.int _) (bM a4.2.2).symm) (congrArg (Value.int _) (bM a4.2.2).symm) a4.1 a4.2.1 (Zd9 .u32 0) ?_;intro ck cl cn bb b0;refine go ?_;replace ac:=ac.gr bb;replace ad:=ad.gr bb;replace aa:=aa.grow bb;refine Z4 [0,1,24,25,1000000] (fun n f au=>∃ ah ag ai aj af av aw,n=aw.length∧ab.drop ag=aw∧Ql N ab ae aw ag af av=some r∧St w0 (Zk col) ah au∧Sl (Za.int .u32) ah au am an ab∧Sl (Za.int .u32) ah au ao ap ae∧Zb (Za.int .u32) 95 1 ah au ai aj af∧[26,5,6].map f=[.int .i64 ag,.slice ai af.length aj,.int .u64 av]) ab.length ⟨_,0,_,_,_,0,_,rfl,rfl,hm,aa,ac,ad,b0,rfl⟩ ?_;clear hm;intro n f au hI;obtain ⟨ah,ag,ai,aj,af,av,aw,hn,hl,hm,aa,ac,ad,ak,hs⟩:=hI;subst hn;refine .lL [26,5,6] hs ?_
  cases aw with
  | nil=>
   have hk:¬ ((ag:Int)<(ab.length:Int)):=by have:=aH.1 hl;omega
   have hkb:=decide_eq_false hk;rw [Ql.eq_1] at hm;refine go ?_;refine X2 (congrArg Value.bool hkb)<|go ?_;obtain ⟨co,bc,hm⟩:=bZ hm;refine lI bc (ak.addr bc) ?_;obtain ⟨bd,a5,hm⟩:=bZ hm;have a5:bd=af.set (aA (ab.length:Int)) (u32.wrap av):=(Option.some.inj a5).symm;refine Wr (x1:=u32.wrap av) ak bc ?_;intro b1 b2 b3 bt;rw [← a5] at bt;refine .ld (d:=5) (v:=(.slice ai bd.length aj)) (congrArg (fun n=>Value.slice ai n aj) (show af.length=bd.length by rw [a5,nS])) ?_;refine go ?_;obtain ⟨cp,b4,hm⟩:=bZ hm;refine Zj (Qa 2 b4 (bt.toSlF (Zd.int .u32))) ?_;rintro _ cq ⟨b5,cr,cs,rfl,a6,be⟩;refine ⟨_,rfl,?_⟩;replace be:=be.thaw (Z7 .u32) a6 ((Fz.refl (col:=ah)).froz 1) (by decide);replace a6:=a6.thawR (col:=ah);generalize Xj b1.heap.size ah b5=ct at *;refine go ?_;cases hm;replace aa:=(aa.kp b2 b3).grow a6;exact ⟨rfl,_,_,_,rfl,aa.fin (cm [(2,c1)]),aa.fo be⟩
  | cons bu bf=>
   obtain ⟨bg,b6,b7⟩:=Yd hl;have hk:(ag:Int)<(ab.length:Int):=by omega
   have hkb:=decide_eq_true hk;rw [Ql.eq_2] at hm;refine go ?_;refine X3 (congrArg Value.bool hkb)<|Yl<|Z0 ?_;refine Wp.cutK [0,1,24,25,26,1000000] (fun f ax=>∃ ay bh bi a7 bj,Zmw ag (Ql N ab ae bf) a7 bj=some r∧St w0 (Zk col) ay ax∧Sl (Za.int .u32) ay ax am an ab∧Sl (Za.int .u32) ay ax ao ap ae∧Zb (Za.int .u32) 95 1 ay ax bh bi a7∧[5,6].map f=[.slice bh a7.length bi,.int .u64 bj]) ?_ ?_
   ·intro f ax hJ;obtain ⟨ay,bh,bi,a7,bj,hm,aa,ac,ad,b8,hs⟩:=hJ;rw [Zmw.eq_1] at hm;refine .lL [5,6] hs<|go ?_;exact ⟨bf.length,by simp,rfl,⟨_,_,_,_,_,_,_,rfl,b6,hm,aa,ac,ad,b8,(Yg (congrArg (Value.int .i64) (Yb (aF b7 ac.1.1))) rfl)⟩⟩
   refine go ?_;refine lI bg (ac.addr bg)<|lW (ac.atInt bg)<|Y7 rfl<|Y7 rfl<|Zl<|Z0<|Vd<|X1 rfl<|X1 rfl<|lV (.int .u64 (u64.wrap bu)) (Zli bu ⟨_,underlying95⟩ underlying149 rfl)<|lV _ (Zai _ _ rfl rfl)<|Y7 rfl<|Zl<|Z0 ?_;refine Wp.cutK [0,1,24,25,26,5,7,1000000] (fun f az=>∃ a2 al,Zho ag af (Ql N ab ae bf) al=some r∧St w0 (Zk col) a2 az∧Sl (Za.int .u32) a2 az am an ab∧Sl (Za.int .u32) a2 az ao ap ae∧Zb (Za.int .u32) 95 1 a2 az ai aj af∧[6].map f=[.int .u64 al]) ?_ ?_
   ·intro f az hJ;obtain ⟨a2,al,hm,aa,ac,ad,ak,hs⟩:=hJ;rw [Zho.eq_1] at hm;refine .lL [6] hs<|go ?_;obtain ⟨cu,bk,hm⟩:=bZ hm;refine lI bk (ak.addr bk) ?_;obtain ⟨bm,a8,hm⟩:=bZ hm;have a8:bm=af.set (aA (ag:Int)) (u32.wrap al):=(Option.some.inj a8).symm;refine Wr (x1:=u32.wrap al) ak bk ?_;intro cv bn b9 bv;rw [← a8] at bv;refine .ld (d:=5) (v:=(.slice ai bm.length aj)) (congrArg (fun n=>Value.slice ai n aj) (show af.length=bm.length by rw [a8,nS])) ?_;refine go ?_;refine lV (.int .u64 (Y6 .u64 al 32)) (Zal al 32 rfl rfl (by decide))<|go ?_;replace ac:=ac.kp bn;replace ad:=ad.kp bn;replace aa:=aa.kp bn b9;exact ⟨rfl,_,_,_,_,_,hm,aa,ac,ad,bv,rfl⟩
   refine go ?_;refine Zq hm (fun hb hm=>go ?_) fun hb hm=>?_
   ·obtain ⟨cw,bo,hm⟩:=bZ hm;refine lI bo (ad.addr bo)<|lW (ad.atInt bo) ?_;refine go ?_;exact ⟨rfl,_,_,hm,aa,ac,ad,ak,rfl⟩
   refine Yl ?_;exact ⟨rfl,_,_,hm,aa,ac,ad,ak,rfl⟩
 refine go ?_;refine Zq hm (fun hb hm=>go ?_) fun hb hm=>?_
 ·exact ⟨rfl,_,_,_,_,_,_,_,hm,aa,bs,a3,rfl⟩
 refine Yl ?_;exact ⟨rfl,_,_,_,_,_,_,_,hm,aa,a3,bs,rfl⟩
def Zdt (ae:List Int) (aa:Nat) (kk_L1:(Nat→R2→Option R2)) (af:Int):List Int→Nat→R2→Int→Option R2
  | [],ac,ab,ad=>(Zm ab (i64.wrap ((aa:Int)+(ae.length:Int)))).bind fun al=>(some (ab.set (aA (i64.wrap ((aa:Int)+(ae.length:Int)))) (u32.wrap ad))).bind fun ai=>kk_L1 (aa+1) ai
  | ag :: aj,ac,ab,ad=>(Zm ab (i64.wrap ((aa:Int)+(ac:Int)))).bind fun ah=>(some (ab.set (aA (i64.wrap ((aa:Int)+(ac:Int)))) (u32.wrap (u64.wrap (ad+(u64.wrap ((u64.wrap ((u64.wrap af) * (u64.wrap ag)))+(u64.wrap ah)))))))).bind fun ak=>(Zdt ae aa kk_L1 af aj) (ac+1) ak (Y6 .u64 (u64.wrap (ad+(u64.wrap ((u64.wrap ((u64.wrap af) * (u64.wrap ag)))+(u64.wrap ah))))) 32)
termination_by structural x=>x
def Zbe (N:Nat) (aa:List Int):List Int→Nat→R2→Option R2
  | [],ac,ab=>(Tb N ab).bind fun ad=>some ad
  | ae :: af,ac,ab=>Zdt aa ac (Zbe N aa af) ae aa 0 ab 0
termination_by structural x=>x
def Sw (N:Nat) (ac:List Int) (ad:List Int):Option R2:=
  (Tc N ac).bind fun aa=>(Tc N ad).bind fun ab=>Z2 ((aA (i64.wrap ((aa.length:Int)+(ab.length:Int)))) * 4≤281474976710656∧(aA (i64.wrap ((aa.length:Int)+(ab.length:Int))))≤maxLen∧0≤(i64.wrap ((aa.length:Int)+(ab.length:Int)))) (Zbe N ab aa 0 (aM (aA (i64.wrap ((aa.length:Int)+(ab.length:Int)))) (0:Int)))
theorem Zcq {N bt bu:Nat} {a0 a1:Option Addr} {col:Ze} {w0:World} {be bf r:R2} (c1:Nat) (hm:Sw N be bf=some r) (h0:Sl (Za.int .u32) col w0 a0 bt be) (h1:Sl (Za.int .u32) col w0 a1 bu bf):
    Calls prog 78 #[.slice a0 be.length bt,.slice a1 bf.length bu] w0 (fun e w'=>∃ (col':Ze) (ra1:Option Addr) (rc2:Nat),e= .returned ((.slice ra1 r.length rc2))∧Zh col w0 col' w'∧Zb (Za.int .u32) 95 c1 col' w' ra1 rc2 r):=by
 refine Xl 4 (m:=71) func78 rfl rfl rfl rfl rfl ?_;rw [Sw.eq_1] at hm;have aa:=St.start col w0;refine go ?_;obtain ⟨ae,b1,hm⟩:=bZ hm;replace h0:=h0.keep (Zi.start col w0);refine Zj (Qb b1 (h0.ks aa)) ?_;rintro _ co ⟨cp,a4,a5,rfl,b2,ac⟩;refine ⟨_,rfl,?_⟩;refine Y2 rfl ?_;obtain ⟨ab,b3,hm⟩:=bZ hm;replace h1:=h1.keep (Zi.start col w0);replace aa:=aa.grow b2;refine Zj (Qb b3 (h1.ks aa)) ?_;rintro _ b4 ⟨b5,au,av,rfl,bv,ad⟩;refine ⟨_,rfl,go ?_⟩;obtain ⟨a6,hm⟩:=Z8 hm;refine Q3 (col:=b5) (w:=b4) (r:=(Za.int .u32)) (n:=(aA (i64.wrap ((ae.length:Int)+(ab.length:Int))))) (x0:=0) 1 rfl underlying35 Tryz.t95 rfl rfl rfl rfl rfl (congrArg (Value.int _) (bM a6.2.2).symm) (congrArg (Value.int _) (bM a6.2.2).symm) a6.1 a6.2.1 (Zd9 .u32 0) ?_;intro b6 cq b7 bg b8;refine go ?_;replace ac:=(ac.gr bv).gr bg;replace aa:=(aa.grow bv).grow bg;replace ad:=ad.gr bg;refine Zs9 (fun n f ap=>∃ (ah:Ze) (af:Nat) (a7:Option Addr) (a8:Nat) (aw:List Int) (ax:List Int),n=ax.length∧ae.drop af=ax∧Zbe N ab ax af aw=some r∧St w0 (Zk col) ah ap∧Sl (Za.int .u32) ah ap au av ab∧Sl (Za.int .u32) ah ap a4 a5 ae∧Zb (Za.int .u32) 95 1 ah ap a7 a8 aw∧f 23=(.int .i64 af)∧f 1=(.slice au ab.length av)∧f 21=(.slice a4 ae.length a5)∧f 22=(.int .i64 ae.length)∧f 5=(.slice a7 aw.length a8)∧f 1000000=(enc [])) ae.length ⟨b7,0,b6,(aA (i64.wrap ((ae.length:Int)+(ab.length:Int)))),(aM (aA (i64.wrap ((ae.length:Int)+(ab.length:Int)))) (0:Int)),ae,rfl,rfl,hm,aa,ad,ac,b8,rfl,rfl,rfl,rfl,rfl,rfl⟩ ?_;clear hm;intro n f ap hI;obtain ⟨ah,af,a7,a8,aw,ax,hn,hl,hm,aa,ad,ac,bw,bh,bi,bj,bk,bm,bn⟩:=hI;subst hn;refine .lD 23 bh<|.lD 1 bi<|.lD 21 bj<|.lD 22 bk<|.lD 5 bm<|.lD 1000000 bn ?_
 cases ax with
 | nil=>
  have hk:¬ ((af:Int)<(ae.length:Int)):=by have:=aH.1 hl;omega
  have hkb:=decide_eq_false hk;rw [Zbe.eq_1] at hm;refine go ?_;refine X2 (congrArg Value.bool hkb)<|go ?_;obtain ⟨cr,b9,hm⟩:=bZ hm;refine Zj (Qa 2 b9 (bw.toSlF (Zd.int .u32))) ?_;rintro _ cs ⟨ca,ct,cu,rfl,a9,bo⟩;refine ⟨_,rfl,?_⟩;replace bo:=bo.thaw (Z7 .u32) a9 ((Fz.refl (col:=ah)).froz 1) (by decide);replace a9:=a9.thawR (col:=ah);generalize Xj ap.heap.size ah ca=cv at *;refine go ?_;cases hm;replace aa:=aa.grow a9;exact ⟨rfl,_,_,_,rfl,aa.fin (cm [(2,c1)]),aa.fo bo⟩
 | cons am bp=>
  obtain ⟨an,cb,cc⟩:=Yd hl;have hk:(af:Int)<(ae.length:Int):=by omega
  have hkb:=decide_eq_true hk;rw [Zbe.eq_2] at hm;refine go ?_;refine X3 (congrArg Value.bool hkb)<|go ?_;refine lI an (ac.addr an)<|lW (ac.atInt an) ?_;refine go ?_;refine Zs9 (fun n f ay=>∃ (ao:Ze) (ak:Nat) (ai:Option Addr) (aj:Nat) (al:List Int) (ag:Int) (az:List Int),n=az.length∧ab.drop ak=az∧Zdt ab af (Zbe N ab bp) am az ak al ag=some r∧St w0 (Zk col) ao ay∧Sl (Za.int .u32) ao ay au av ab∧Sl (Za.int .u32) ao ay a4 a5 ae∧Zb (Za.int .u32) 95 1 ao ay ai aj al∧f 30=(.int .i64 ak)∧f 1=(.slice au ab.length av)∧f 21=(.slice a4 ae.length a5)∧f 22=(.int .i64 ae.length)∧f 23=(.int .i64 af)∧f 28=(.slice au ab.length av)∧f 29=(.int .i64 ab.length)∧f 5=(.slice ai al.length aj)∧f 6=(.int .i64 af)∧f 7=(.int .u32 am)∧f 8=(.int .u64 ag)∧f 1000000=(enc [])) ab.length ⟨ah,0,a7,a8,aw,0,ab,rfl,rfl,hm,aa,ad,ac,bw,rfl,rfl,rfl,rfl,rfl,rfl,rfl,rfl,rfl,rfl,rfl,rfl⟩ ?_;clear hm;intro n f ay hI;obtain ⟨ao,ak,ai,aj,al,ag,az,hn,hl,hm,aa,ad,ac,aq,cd,bi,bj,bk,bh,ce,cf,bm,cg,ch,ci,bn⟩:=hI;subst hn;refine .lD 30 cd<|.lD 1 bi<|.lD 21 bj<|.lD 22 bk<|.lD 23 bh<|.lD 28 ce<|.lD 29 cf<|.lD 5 bm<|.lD 6 cg<|.lD 7 ch<|.lD 8 ci<|.lD 1000000 bn ?_
  cases az with
  | nil=>
   have hk:¬ ((ak:Int)<(ab.length:Int)):=by have:=aH.1 hl;omega
   have hkb:=decide_eq_false hk;rw [Zdt.eq_1] at hm;refine go ?_;refine X2 (congrArg Value.bool hkb)<|go ?_;obtain ⟨cw,bq,hm⟩:=bZ hm;refine lI bq (aq.addr bq) ?_;obtain ⟨ba,bb,hm⟩:=bZ hm;have bb:ba=al.set (aA (i64.wrap ((af:Int)+(ab.length:Int)))) (u32.wrap ag):=(Option.some.inj bb).symm;refine Wr (x1:=u32.wrap ag) aq bq ?_;intro cx br cj bx;rw [← bb] at bx;refine .ld (d:=5) (v:=(.slice ai ba.length aj)) (congrArg (fun n=>Value.slice ai n aj) (show al.length=ba.length by rw [bb,nS])) ?_;refine go ?_;replace ad:=ad.kp br;replace ac:=ac.kp br;replace aa:=aa.kp br cj;exact ⟨bp.length,by simp,⟨ao,(af+1),ai,aj,ba,bp,rfl,cb,hm,aa,ad,ac,bx,(congrArg (Value.int .i64) (Yb (aF cc ac.1.1))),rfl,rfl,rfl,rfl,rfl⟩⟩
  | cons a2 bz=>
   obtain ⟨an,ck,cl⟩:=Yd hl;have hk:(ak:Int)<(ab.length:Int):=by omega
   have hkb:=decide_eq_true hk;rw [Zdt.eq_2] at hm;refine go ?_;refine X3 (congrArg Value.bool hkb)<|go ?_;refine lI an (ad.addr an)<|lW (ad.atInt an) ?_;refine go ?_;obtain ⟨a3,ar,hm⟩:=bZ hm;refine lI ar (aq.addr ar)<|lW (aq.atInt ar) ?_;refine go ?_;refine lI ar (aq.addr ar) ?_;obtain ⟨bc,bd,hm⟩:=bZ hm;have bd:bc=al.set (aA (i64.wrap ((af:Int)+(ak:Int)))) (u32.wrap (u64.wrap (ag+(u64.wrap ((u64.wrap ((u64.wrap am) * (u64.wrap a2)))+(u64.wrap a3)))))):=(Option.some.inj bd).symm;refine Wr (x1:=u32.wrap (u64.wrap (ag+(u64.wrap ((u64.wrap ((u64.wrap am) * (u64.wrap a2)))+(u64.wrap a3)))))) aq ar ?_;intro cy bs cn b0;rw [← bd] at b0;refine .ld (d:=5) (v:=(.slice ai bc.length aj)) (congrArg (fun n=>Value.slice ai n aj) (show al.length=bc.length by rw [bd,nS])) ?_;refine go ?_;refine lV (.int .u64 (Y6 .u64 (u64.wrap (ag+(u64.wrap ((u64.wrap ((u64.wrap am) * (u64.wrap a2)))+(u64.wrap a3))))) 32)) (Zal (u64.wrap (ag+(u64.wrap ((u64.wrap ((u64.wrap am) * (u64.wrap a2)))+(u64.wrap a3))))) 32 rfl rfl (by decide))<|go ?_;replace ad:=ad.kp bs;replace ac:=ac.kp bs;replace aa:=aa.kp bs cn;exact ⟨bz.length,by simp,⟨ao,(ak+1),ai,aj,bc,(Y6 .u64 (u64.wrap (ag+(u64.wrap ((u64.wrap ((u64.wrap am) * (u64.wrap a2)))+(u64.wrap a3))))) 32),bz,rfl,ck,hm,aa,ad,ac,b0,(congrArg (Value.int .i64) (Yb (aF cl ad.1.1))),rfl,rfl,rfl,rfl,rfl,rfl,rfl,rfl,rfl,rfl,rfl⟩⟩
def Q9 (N:Nat) (aa:Int):Option R2:=
  (Tb N [u32.wrap aa,u32.wrap (Y6 .u64 aa 32)]).bind fun ab=>some ab
theorem Zej {N:Nat} {col:Ze} {w0:World} {aa:Int} {r:R2} (c1:Nat) (hm:Q9 N aa=some r):
    Calls prog 134 #[.int .u64 aa] w0 (fun e w'=>∃ (col':Ze) (ra1:Option Addr) (rc2:Nat),e= .returned ((.slice ra1 r.length rc2))∧Zh col w0 col' w'∧Zb (Za.int .u32) 95 c1 col' w' ra1 rc2 r):=by
 refine Xl 2 (m:=10) func134 rfl rfl rfl rfl rfl ?_;rw [Q9.eq_1] at hm;have ab:=St.start col w0;refine go ?_;refine lV (.int .u64 (Y6 .u64 aa 32)) (Zal aa 32 rfl rfl (by decide))<|go ?_;refine V7 (col:=(Zk col)) [u32.wrap aa,u32.wrap (Y6 .u64 aa 32)] 1 ?_;intro ak af ad ag ah;obtain ⟨al,ai,hm⟩:=bZ hm;refine Zj (Qa 2 ai (ah.toSlF (Zd.int .u32))) ?_;rintro _ am ⟨aj,an,ao,rfl,ac,ae⟩;refine ⟨_,rfl,?_⟩;replace ae:=ae.thaw (Z7 .u32) ac ((Fz.refl (col:=ad)).froz 1) (by decide);replace ac:=ac.thawR (col:=ad);generalize Xj af.heap.size ad aj=ap at *;refine go ?_;cases hm;replace ab:=(ab.grow ag).grow ac;exact ⟨rfl,_,_,_,rfl,ab.fin (cm [(2,c1)]),ab.fo ae⟩
def Zfd (N:Nat) (aa:List Int):Option R2:=
  (Tb N aa).bind fun ab=>some ab
theorem Zpu {N ac:Nat} {a0:Option Addr} {col:Ze} {w0:World} {ab r:R2} (c1:Nat) (hm:Zfd N ab=some r) (h0:Sl (Za.int .u32) col w0 a0 ac ab):
    Calls prog 148 #[.slice a0 ab.length ac] w0 (fun e w'=>∃ (col':Ze) (ra1:Option Addr) (rc2:Nat),e= .returned ((.slice ra1 r.length rc2))∧Zh col w0 col' w'∧Zb (Za.int .u32) 95 c1 col' w' ra1 rc2 r):=by
 refine Xl 2 (m:=5) func148 rfl rfl rfl rfl rfl ?_;rw [Zfd.eq_1] at hm;have aa:=St.start col w0;refine go ?_;obtain ⟨ag,ad,hm⟩:=bZ hm;replace h0:=h0.keep (Zi.start col w0);refine Zj (Qa 1 ad (h0.ks aa)) ?_;rintro _ ah ⟨ai,aj,ak,rfl,ae,af⟩;refine ⟨_,rfl,go ?_⟩;cases hm;replace aa:=aa.grow ae;exact ⟨rfl,_,_,_,rfl,aa.fin (cm [(1,c1)]),aa.fo af⟩
theorem Zoy (N:Nat):∀ (n:Nat) (a:List Int),Zn a→a.length<n→a.length<4611686018427387904→Sz N n a=some (Zg (Zc a))
 | 0,a,_,h,_=>by omega
 | n+1,a,h,f,g=>by
  rw [Sz.eq_2]
  by_cases h0:0<a.length
  ·have e:(a.length:Int) - 1=((a.length - 1:Nat):Int):=by omega
   rw [if_pos (by simpa using h0),Zv (by omega),e,Z1 (by omega),oB,Zb5,Zv (by omega),e]
   by_cases hx:a[a.length - 1]=0
   ·rw [if_pos (by simpa using hx),Z6 (by omega),aD,Zoy N n _ (h.take _) (by rw [nK];omega) (by rw [nK];omega)]
    conv=>rhs;rw [← Zgp h0,hx,Zx1]
   ·rw [if_neg (by simpa using hx)]
    have b:=Zgp h0
    have c:=Z7j (a:=a.take (a.length - 1)) (x:=a[a.length - 1]) (by rw [b];exact h) hx
    rw [b] at c
    rw [c]
  ·have d:a=[]:=dB (by omega)
   subst d
   rw [if_neg (by simp),Zb5,if_neg (by decide),Yz,Vm]
theorem Qy {N:Nat} {a:List Int} (h:Zn a) (hn:a.length<N) (hb:a.length≤35184372088000):Tc N a=some (Zg (Zc a)):=by
 rw [Tc];exact Zoy N N a h hn (by omega)
theorem Zp1 {a:List Int} (hb:a.length≤35184372088832):Zfu a=some a:=by
 rw [Zfu,Z6 (by simp only [nN,maxLen];omega),aV]
theorem Qu {N:Nat} {a:List Int} (h:Zn a) (hn:a.length<N) (hb:a.length≤35184372088000):Tb N a=some (Zg (Zc a)):=by
 rw [Tb,Qy h hn hb,oB]
 have b:=Yq h
 by_cases h0:Zg (Zc a)=[]
 ·rw [h0,if_pos (by decide)]
 ·have:0<(Zg (Zc a)).length:=dH.2 h0
  rw [if_neg (by simp;exact h0),Zp1 (by omega),oB]
theorem Zri {N:Nat} {a:List Int} (h:Zn a) (hn:a.length<N) (hb:a.length≤35184372088000):Zfd N a=some (Zg (Zc a)):=by
 rw [Zfd,Qu h hn hb,oB]
theorem Zlc {N:Nat} {u:Int} (h:0≤u∧u<18446744073709551616) (hn:2<N):Q9 N u=some (Zg u.toNat):=by
 have e:Zc [u32.wrap u,u32.wrap (Y6 .u64 u 32)]=u.toNat:=by
  rw [Zf4,Wo,Wo,Yz,IntKind.wrap_u32,IntKind.wrap_u32];omega
 have a:Zn [u32.wrap u,u32.wrap (Y6 .u64 u 32)]:=by
  rw [Zf4,IntKind.wrap_u32,IntKind.wrap_u32]
  exact .cons (by omega) (.cons (by omega) .nil)
 rw [Q9,Qu a (by simpa using hn) (by simp),oB,e]
theorem Zuo (N:Nat) (a b:List Int) (ha:Zn a) (hb:Zn b) (hl:a.length=b.length) (hs:a.length<4611686018427387904):∀ (n i:Nat),i≤a.length→i<n→a.drop i=b.drop i→Zfa N a b n ((i:Int) - 1)=some (if Zc a<Zc b then -1 else if Zc b<Zc a then 1 else 0)
 | 0,i,_,h,_=>by omega
 | n+1,i,q,r,c=>by
  rw [Zfa.eq_2]
  by_cases h0:i=0
  ·subst h0
   rw [if_neg (by decide)]
   rw [aT,aT] at c
   subst c
   rw [if_neg (by omega),if_neg (by omega)]
  ·have e:(i:Int) - 1=((i - 1:Nat):Int):=by omega
   have d:i - 1<a.length:=by omega
   have f:i - 1<b.length:=by omega
   have j:i - 1+1=i:=by omega
   rw [if_pos (by simp;omega),e,Z1 d,oB,Z1 f,oB]
   have s:=ha.get d
   have t:=hb.get f
   have k:=Ty a (i - 1)
   have l:=Ty b (i - 1)
   rw [Ut d,j] at k
   rw [Ut f,j,← c] at l
   have m:=Qt (ha.take (i - 1))
   have o:=Qt (hb.take (i - 1))
   rw [nK,bB (by omega)] at m o
   have g:∀ x y:Nat,x<y→4294967296 ^ (i - 1) * (x+4294967296 * Zc (a.drop i))+4294967296 ^ (i - 1)≤4294967296 ^ (i - 1) * (y+4294967296 * Zc (a.drop i)):=fun x y p=>by
    rw [← Nat.mul_succ];exact aR _ (by omega)
   by_cases hlt:a[i - 1]<b[i - 1]
   ·have:=g _ _ (show (a[i - 1]).toNat<(b[i - 1]).toNat by omega)
    rw [if_pos (by simpa using hlt),if_pos (by omega)]
   ·rw [if_neg (by simpa using hlt)]
    by_cases hgt:b[i - 1]<a[i - 1]
    ·have:=g _ _ (show (b[i - 1]).toNat<(a[i - 1]).toNat by omega)
     rw [if_pos (by simpa using hgt),if_neg (by omega),if_pos (by omega)]
    ·rw [if_neg (by simpa using hgt),Zv (by omega)]
     have:=Zuo N a b ha hb hl hs n (i - 1) (by omega) (by omega) (by
      rw [aK d,aK f,j,c]
      congr 1;omega)
     exact this
theorem Zw6 {m n:Nat} (h:(Zg m).length<(Zg n).length):m<n:=by
 have a:=W0 (k:=(Zg m).length) (n:=m)
 have b:=W0 (k:=(Zg m).length) (n:=n)
 have:=a.1 (aY _)
 have d:¬ n<4294967296 ^ (Zg m).length:=fun c=>by have:=b.2 c;omega
 omega
theorem Zp2 {N:Nat} {a b:List Int} (ha:Zn a) (hb:Zn b) (h1:a.length<N) (h2:b.length<N) (h3:a.length≤35184372088000) (h4:b.length≤35184372088000):
  Ze9 N a b=some (if Zc a<Zc b then -1 else if Zc b<Zc a then 1 else 0):=by
 have c:=Yq ha
 have d:=Yq hb
 rw [Ze9,Qy ha h1 h3,oB,Qy hb h2 h4,oB]
 by_cases he:(Zg (Zc a)).length=(Zg (Zc b)).length
 ·rw [if_neg (by simp [he]),Zv (by omega)]
  have:=Zuo N (Zg (Zc a)) (Zg (Zc b)) (Xf _) (Xf _) he (by omega) N (Zg (Zc a)).length (aY _) (by omega) (by
   rw [aO (aY _),aO (by omega)])
  rw [this,Xc,Xc]
 ·rw [if_pos (by simp;omega)]
  by_cases hlt:(Zg (Zc a)).length<(Zg (Zc b)).length
  ·rw [if_pos (by simpa using hlt),if_pos (Zw6 hlt)]
  ·have:=Zw6 (m:=Zc b) (n:=Zc a) (by omega)
   rw [if_neg (by simpa using hlt),if_neg (by omega),if_pos this]
def X5 (b:List Int) (k:Nat):Nat:=(b.getD k 0).toNat
theorem Td (b:List Int) (k:Nat):Zc (b.drop k)=X5 b k+4294967296 * Zc (b.drop (k+1)):=by
 by_cases h:k<b.length
 ·rw [Ut h,X5,aE,aN h,dJ]
 ·rw [aO (by omega),aO (by omega),X5,aE,cJ (by omega)];rfl
theorem Zes {b:List Int} (h:Zn b) (k:Nat):X5 b k<4294967296:=by
 rw [X5,aE]
 by_cases hk:k<b.length
 ·have:=h.get hk
  rw [aN hk,dJ];omega
 ·rw [cJ (by omega)];decide
theorem drop_zero {l:List Int} {k:Nat} (h:Zn l) (hk:k<l.length) (h0:Zc (l.drop k)=0):l[k]=0∧Zc (l.drop (k+1))=0:=by
 have:=h.get hk
 rw [Ut hk] at h0
 omega
theorem Q0 {l:List Int} {k j:Nat} (v:Int) (h:k<j):(l.set k v).drop j=l.drop j:=by
 rw [List.drop_set,if_pos h]
theorem Z25 (S S' Q c x y v c' L D:Nat) (h1:S'=S+Q * v) (h2:c+x+y=v+4294967296 * c'):S'+Q * 4294967296 * (c'+L+D)=S+Q * (c+(x+4294967296 * L)+(y+4294967296 * D)):=by
 subst h1
 have:Q * (c+x+y)=Q * (v+4294967296 * c'):=by rw [h2]
 grind
theorem Ztf (N:Nat) (a b:List Int) (ha:Zn a) (hb:Zn b) (hab:b.length≤a.length) (hN:a.length+1<N) (hs:a.length<35184372088000):∀ (l:List Int) (k:Nat) (sum:List Int) (c:Int),Zn l→a.length=k+l.length→sum.length=a.length+1→Zn sum→Zc (sum.drop k)=0→0≤c∧c≤1→
  Ql N a b l k sum c=some (Zg (Zc sum+4294967296 ^ k * (c.toNat+Zc l+Zc (b.drop k))))
 | [],k,sum,c,_,j,n,d,m,t=>by
  have o:k=a.length:=by simpa using j.symm
  subst o
  rw [Ql.eq_1,Z1 (by omega),oB,oB,aD,Ul (by omega),
   Qu (d.set _ (by omega)) (by rw [nS];omega) (by rw [nS];omega),oB]
  have f:=Tx (l:=sum) (k:=a.length) (by omega) c
  have u:=(drop_zero d (by omega) m).1
  rw [u] at f
  rw [Yz,aO (by omega),Yz]
  have v:Zc (sum.set a.length c)=Zc sum+4294967296 ^ a.length * c.toNat:=by simpa using f
  rw [v];rfl
 | x :: l,k,sum,c,p,j,n,d,m,t=>by
  have q:a.length=k+1+l.length:=by rw [j,nC];omega
  have A:=p.head
  have g:=drop_zero d (by omega) m
  have B:=Zes hb k
  have r:sum[k]'(by omega)=0:=g.1
  -- the sum of one place
  have step:∀ s:Int,s=c+x+(X5 b k:Int)→Zho k sum (Ql N a b l) s=some (Zg (Zc sum+4294967296 ^ k * (c.toNat+Zc (x :: l)+Zc (b.drop k)))):=fun s y=>by
   rw [Zho,Z1 (by omega),oB,oB,Zmw,aD,Zf4]
   have w:0≤u32.wrap s∧u32.wrap s<4294967296:=by rw [IntKind.wrap_u32];omega
   rw [Ztf N a b ha hb hab hN hs l (k+1) _ _ p.tail q (by rw [nS];exact n) (d.set _ w) (by rw [Q0 _ (by omega)];exact g.2) (by omega)]
   have f:=Tx (l:=sum) (k:=k) (by omega) (u32.wrap s)
   rw [r] at f
   rw [bF,Wo,Td b k]
   congr 2
   exact Z25 _ _ _ _ _ _ (u32.wrap s).toNat _ _ _ (by simpa using f) (by rw [IntKind.wrap_u32];omega)
  rw [Ql.eq_2]
  have i:u64.wrap (c+u64.wrap x)=c+x:=by rw [Xm (x:=x) (by omega),Xm (by omega)]
  by_cases hkb:k<b.length
  ·have e:X5 b k=(b[k]).toNat:=by rw [X5,aE,aN hkb,dJ]
   have:=hb.get hkb
   rw [if_pos (by simpa using hkb),Z1 hkb,oB,i,Xm (x:=b[k]) (by omega),Xm (by omega)]
   exact step _ (by omega)
  ·have e:X5 b k=0:=by rw [X5,aE,cJ (by omega)];rfl
   rw [if_neg (by simpa using hkb),i]
   exact step _ (by omega)
theorem Zte {N:Nat} {a b:List Int} (ha:Zn a) (hb:Zn b) (hab:b.length≤a.length) (hN:a.length+1<N) (hs:a.length<35184372088000):Zhn N a b=some (Zg (Zc a+Zc b)):=by
 rw [Zhn,Zv (by omega),Z6 (by simp only [maxLen];omega),Ztf N a b ha hb hab hN hs a 0 _ 0 ha (by omega) (by rw [bD];omega) (.zeros _) (by rw [aT];exact Sf _) (by omega),Sf,aT]
 simp
theorem Z26 {N:Nat} {a b:List Int} (ha:Zn a) (hb:Zn b) (h1:a.length+1<N) (h2:b.length+1<N) (h3:a.length<35184372088000) (h4:b.length<35184372088000):Zj2 N a b=some (Zg (Zc a+Zc b)):=by
 have c:=Yq ha
 have d:=Yq hb
 rw [Zj2,Qy ha (by omega) (by omega),oB,Qy hb (by omega) (by omega),oB]
 by_cases h:(Zg (Zc a)).length<(Zg (Zc b)).length
 ·rw [if_pos (by simpa using h),Zte (Xf _) (Xf _) (by omega) (by omega) (by omega),Xc,Xc,eW]
 ·rw [if_neg (by simpa using h),Zte (Xf _) (Xf _) (by omega) (by omega) (by omega),Xc,Xc]
theorem Zw3 (N:Nat) (a b:List Int) (ha:Zn a) (hb:Zn b) (hs:a.length<35184372088000):∀ (n k:Nat) (r:List Int) (c:Int),k≤a.length→a.length<n+k→r.length=a.length→Zn r→0≤c∧c≤1→r.drop k=a.drop k→
  4294967296 ^ k * (c.toNat+Zc (b.drop k))≤4294967296 ^ k * Zc (a.drop k)→
  ∃ r',Sy N a b n r c (k:Int)=some r'∧r'.length=a.length∧Zn r'∧Zc r'+4294967296 ^ k * (c.toNat+Zc (b.drop k))=Zc r
 | 0,k,r,c,s,u,_,_,_,_,_=>by omega
 | n+1,k,r,c,s,u,i,j,E,m,o=>by
  have v:0<4294967296 ^ k:=fX (by decide)
  have f:c.toNat+Zc (b.drop k)≤Zc (a.drop k):=Nat.le_of_mul_le_mul_left o v
  rw [Sy.eq_2]
  by_cases h0:k<a.length
  ·have F:=ha.get h0
   have g:r[k]'(by omega)=a[k]:=by
    have:(r.drop k)[0]'(by simp;omega)=(a.drop k)[0]'(by simp;omega):=by simp only [m]
    simpa using this
   have G:=Zes hb k
   rw [Td b k,Ut h0] at f
   have step:∀ t:Int,t=c+(X5 b k:Int)→∃ r',Zht r (k:Int) (Sy N a b n) t=some r'∧r'.length=a.length∧Zn r'∧Zc r'+4294967296 ^ k * (c.toNat+Zc (b.drop k))=Zc r:=fun t H=>by
    have w:0≤u32.wrap (a[k] - u32.wrap t)∧u32.wrap (a[k] - u32.wrap t)<4294967296:=by rw [IntKind.wrap_u32];omega
    have fin:∀ d:Int,0≤d∧d≤1→a[k]+4294967296 * d=t+u32.wrap (a[k] - u32.wrap t)→∃ r',Zhu r (k:Int) (Sy N a b n) t d=some r'∧r'.length=a.length∧Zn r'∧Zc r'+4294967296 ^ k * (c.toNat+Zc (b.drop k))=Zc r:=fun d p I=>by
     rw [Zhu,Z1 (by omega),oB,oB,Zm0,g,Zv (by omega),aD]
     obtain ⟨r',q1,y,A,B⟩:=Zw3 N a b ha hb hs n (k+1) (r.set k (u32.wrap (a[k] - u32.wrap t))) d (by omega) (by omega) (by rw [nS];exact i) (j.set _ w) p (by
      rw [Q0 _ (by omega)]
      have:=congrArg (List.drop 1) m
      simpa [dR,eW] using this) (aR _ (by omega))
     refine ⟨r',q1,y,A,?_⟩
     have C:=Tx (l:=r) (k:=k) (by omega) (u32.wrap (a[k] - u32.wrap t))
     rw [g] at C
     rw [Td b k]
     rw [bF] at B
     have q:(a[k]).toNat+4294967296 * d.toNat=c.toNat+X5 b k+(u32.wrap (a[k] - u32.wrap t)).toNat:=by omega
     have D:4294967296 ^ k * ((a[k]).toNat+4294967296 * d.toNat)=4294967296 ^ k * (c.toNat+X5 b k+(u32.wrap (a[k] - u32.wrap t)).toNat):=by rw [q]
     grind
    rw [Zht,Z1 (by omega),oB,g,Xm (x:=a[k]) (by omega)]
    by_cases hlt:a[k]<t
    ·rw [if_pos (by simpa using hlt)]
     exact fin 1 (by omega) (by rw [IntKind.wrap_u32,IntKind.wrap_u32];omega)
    ·rw [if_neg (by simpa using hlt)]
     exact fin 0 (by omega) (by rw [IntKind.wrap_u32,IntKind.wrap_u32];omega)
   rw [if_pos (by simpa using h0)]
   by_cases hkb:k<b.length
   ·have e:X5 b k=(b[k]).toNat:=by rw [X5,aE,aN hkb,dJ]
    have:=hb.get hkb
    rw [if_pos (by simpa using hkb),Z1 hkb,oB,Xm (x:=b[k]) (by omega),Xm (by omega)]
    exact step _ (by omega)
   ·have e:X5 b k=0:=by rw [X5,aE,cJ (by omega)];rfl
    rw [if_neg (by simpa using hkb)]
    exact step _ (by omega)
  ·rw [if_neg (by simpa using h0)]
   rw [aO (show a.length≤k by omega),Yz] at f
   exact ⟨r,rfl,i,j,by rw [show c.toNat+Zc (b.drop k)=0 by omega];simp⟩
theorem Z1o {N:Nat} {a b:List Int} (ha:Zn a) (hb:Zn b) (h1:a.length+1<N) (h2:b.length+1<N) (h3:a.length<35184372088000) (h4:b.length<35184372088000):
  Zhq N a b=some (if Zc a<Zc b then ([],false) else (Zg (Zc a - Zc b),true)):=by
 have e:=Yq ha
 have f:=Yq hb
 rw [Zhq,Zp2 ha hb (by omega) (by omega) (by omega) (by omega),oB]
 by_cases h:Zc a<Zc b
 ·rw [if_pos h,if_pos (by decide),if_pos h]
 ·rw [if_neg h,if_neg (by split <;> decide),if_neg h,Qy ha (by omega) (by omega),oB,Zp1 (by omega),oB,Qy hb (by omega) (by omega),oB,Zmz]
  obtain ⟨g,q1,i,c,d⟩:=Zw3 N (Zg (Zc a)) (Zg (Zc b)) (Xf _) (Xf _) (by omega) N 0 (Zg (Zc a)) 0 (by omega) (by omega) rfl (Xf _) (by omega) rfl (by simp [Xc];omega)
  rw [show ((0:Nat):Int)=0 from rfl] at q1
  rw [q1,oB,Qu c (by omega) (by omega),oB]
  simp [Xc] at d
  congr 3
  omega
theorem Zxt (P P' Q c x y e v c' L:Nat) (h1:P'+Q * e=P+Q * v) (h2:c+(x * y+e)=v+4294967296 * c'):P'+Q * 4294967296 * (c'+x * L)=P+Q * (c+x * (y+4294967296 * L)):=by
 have:Q * (c+(x * y+e))=Q * (v+4294967296 * c'):=by rw [h2]
 grind
theorem Zxs (b:List Int) (hb:Zn b) (i:Nat) (kk:Nat→List Int→Option R2) (x:Int) (hx:0≤x∧x<4294967296):∀ (l:List Int) (j:Nat) (p:List Int) (c:Int),Zn l→j+l.length=b.length→i+b.length<p.length→p.length<4611686018427387904→Zn p→0≤c∧c<4294967296→Zc (p.drop (i+b.length))=0→
  ∃ p',Zdt b i kk x l j p c=kk (i+1) p'∧p'.length=p.length∧Zn p'∧Zc p'=Zc p+4294967296 ^ (i+j) * (c.toNat+x.toNat * Zc l)∧Zc (p'.drop (i+b.length+1))=0
 | [],j,p,c,_,g,a,n,d,k,m=>by
  have o:j=b.length:=by simpa using g
  subst o
  have f:=drop_zero d a m
  rw [Zdt.eq_1,Zv (by omega),show (i:Int)+(b.length:Int)=((i+b.length:Nat):Int) by omega,Z1 a,oB,oB,aD,Ul k]
  refine ⟨_,rfl,by rw [nS],d.set _ k,?_,?_⟩
  ·have q:=Tx a c
   rw [f.1] at q
   rw [Yz,dY,bQ]
   simpa using q
  ·rw [Q0 _ (by omega)];exact f.2
 | y :: l,j,p,c,r,g,a,n,d,k,m=>by
  have t:=r.head
  have u:j+1+l.length=b.length:=by rw [← g,nC];omega
  have e:i+j<p.length:=by omega
  have E:=d.get e
  have F:x * y≤4294967295 * 4294967295:=lE (by omega) (by omega) (by omega) (by omega)
  have D:0≤x * y:=jI hx.1 t.1
  rw [Zdt.eq_2,Zv (by omega),show (i:Int)+(j:Int)=((i+j:Nat):Int) by omega,Z1 e,oB,oB,aD,Xm (x:=x) (by omega),Xm (x:=y) (by omega),Xm (x:=p[i+j]) (by omega),Xm (x:=x * y) (by omega),Xm (x:=x * y+p[i+j]) (by omega),Xm (by omega),Zf4]
  generalize hs':c+(x * y+p[i+j])=s
  have v:0≤u32.wrap s∧u32.wrap s<4294967296:=by rw [IntKind.wrap_u32];omega
  obtain ⟨p',q1,w,A,B,C⟩:=Zxs b hb i kk x hx l (j+1) (p.set (i+j) (u32.wrap s)) (s / 4294967296) r.tail u (by rw [nS];exact a) (by rw [nS];exact n) (d.set _ v) (by omega) (by rw [Q0 _ (by omega)];exact m)
  refine ⟨p',q1,by rw [w,nS],A,?_,C⟩
  rw [B,← dW i j 1,bF,Wo]
  refine Zxt _ _ _ _ _ _ (p[i+j]).toNat (u32.wrap s).toNat _ _ (Tx e _) ?_
  rw [IntKind.wrap_u32]
  have G:((x.toNat * y.toNat:Nat):Int)=x * y:=by rw [bU,bM hx.1,bM t.1]
  omega
theorem Zxr (N:Nat) (b:List Int) (hb:Zn b):∀ (l:List Int) (i:Nat) (p:List Int),Zn l→p.length=i+l.length+b.length→p.length<N→p.length<35184372088000→Zn p→Zc (p.drop (i+b.length))=0→
  Zbe N b l i p=some (Zg (Zc p+4294967296 ^ i * (Zc l * Zc b)))
 | [],i,p,_,c,d,g,a,e=>by
  rw [Zbe.eq_1,Qu a d (by omega),oB,Yz];simp
 | x :: l,i,p,f,c,d,g,a,e=>by
  rw [nC] at c
  obtain ⟨j,q1,o,k,m,n⟩:=Zxs b hb i (Zbe N b l) x f.head b 0 p 0 hb (by omega) (by omega) (by omega) a (by omega) e
  rw [Zbe.eq_2,q1,Zxr N b hb l (i+1) j f.tail (by omega) (by omega) (by omega) k (by rw [show i+1+b.length=i+b.length+1 by omega];exact n),m,Wo,bF]
  congr 2
  simp only [bQ,fP,cW]
  grind
theorem Zla {N:Nat} {a b:List Int} (ha:Zn a) (hb:Zn b) (h1:a.length+b.length<N) (h3:a.length+b.length<35184372088000):Sw N a b=some (Zg (Zc a * Zc b)):=by
 have c:=Yq ha
 have d:=Yq hb
 rw [Sw,Qy ha (by omega) (by omega),oB,Qy hb (by omega) (by omega),oB,Zv (by omega),Z6 (by simp only [maxLen];omega),
  Zxr N _ (Xf _) _ 0 _ (Xf _) (by rw [bD];omega) (by rw [bD];omega) (by rw [bD];omega) (.zeros _) (by
   rw [iB];exact Sf _),Sf,Xc,Xc]
 simp
def Zfg (N:Nat) (aa:Int):Nat→R2→Int→Int→Option R7
  | 0,_,_,_=>none
  | af+1,ac,ad,ab=>if (decide (0≤ab))=true then ((Zm ac ab).bind fun ae=>Z2 ((u64.wrap aa)≠0) ((some (ac.set (aA ab) (u32.wrap (u64.wrap (bJ (Wg .u64 (Yi .u64 ad 32) (u64.wrap ae)) (u64.wrap aa)))))).bind fun ag=>Z2 ((u64.wrap aa)≠0) ((Zfg N aa af) ag (cG (Wg .u64 (Yi .u64 ad 32) (u64.wrap ae)) (u64.wrap aa)) (i64.wrap (ab - 1))))) else (some (u32.wrap ad,ac))
termination_by structural x=>x
def Zj9 (N:Nat) (aa:List Int) (ab:Int):Option R7:=
  Zfg N ab N aa 0 (i64.wrap ((aa.length:Int) - 1))
theorem Z4a {N ad:Nat} {a0:Option Addr} {col:Ze} {w0:World} {ae:R2} {ab:Int} {r:R7} (qc0:Nat) (hm:Zj9 N ae ab=some r) (hd:U1 [qc0]=true) (h0:Zb (Za.int .u32) 95 qc0 col w0 a0 ad ae):
    Calls prog 184 #[.slice a0 ae.length ad,.int .u32 ab] w0 (fun e w'=>∃ (col':Ze),e= .returned ((.int .u32 r.1))∧Zu (pS [qc0]) col w0 col' w'∧Zb (Za.int .u32) 95 qc0 col' w' a0 ad r.2∧r.2.length=ae.length):=by
 refine Xl 4 (m:=36) func184 rfl rfl rfl rfl rfl ?_;rw [Zj9.eq_1] at hm;have af:=St.startL (l:=[qc0]) rfl col w0;replace h0:=h0.startL (T9 hd 0 rfl) (T8 hd 0 rfl);refine go ?_;refine Z4 [1,1000000] (fun n f an=>∃ ao ac aa am ag,ag=n∧Zfg N ab ag ac aa am=some r∧St w0 (Xh [qc0] col) ao an∧Zb (Za.int .u32) 95 440 ao an a0 ad ac∧ac.length=ae.length∧ac.length=ae.length∧[0,5,6].map f=[.slice a0 ac.length ad,.int .u64 aa,.int .i64 am]) N ⟨_,_,0,_,_,rfl,hm,af,h0,rfl,rfl,rfl⟩ ?_;clear hm;intro n f an hI;obtain ⟨ao,ac,aa,am,ag,hn,hm,af,aj,ar,au,hs⟩:=hI;subst hn;refine .lL [0,5,6] hs ?_
 cases ag with
 | zero=>rw [Zfg.eq_1] at hm;cases hm
 | succ ag=>
  rw [Zfg.eq_2] at hm;refine go ?_;refine Zq hm (fun hb hm=>go ?_) fun hb hm=>go ?_
  ·refine lV (.int .u64 (Yi .u64 aa 32)) (Ziv aa 32 rfl rfl (by decide))<|go ?_;obtain ⟨ah,ai,hm⟩:=bZ hm;refine lI ai (aj.addr ai)<|lW (aj.atInt ai) ?_;refine go ?_;obtain ⟨av,hm⟩:=Z8 hm;refine lV (.int .u64 (u64.wrap (bJ (Wg .u64 (Yi .u64 aa 32) (u64.wrap ah)) (u64.wrap ab)))) (Qx (Wg .u64 (Yi .u64 aa 32) (u64.wrap ah)) (u64.wrap ab) rfl rfl av)<|go ?_;refine lI ai (aj.addr ai) ?_;obtain ⟨ak,al,hm⟩:=bZ hm;have al:ak=ac.set (aA am) (u32.wrap (u64.wrap (bJ (Wg .u64 (Yi .u64 aa 32) (u64.wrap ah)) (u64.wrap ab)))):=(Option.some.inj al).symm;refine Wr (x1:=u32.wrap (u64.wrap (bJ (Wg .u64 (Yi .u64 aa 32) (u64.wrap ah)) (u64.wrap ab)))) aj ai ?_;intro az aw ax ap;rw [← al] at ap;have aq:ak.length=ae.length:=(show ac.length=ak.length by rw [al,nS]).symm.trans ar;refine .ld (d:=0) (v:=(.slice a0 ak.length ad)) (congrArg (fun n=>Value.slice a0 n ad) (show ac.length=ak.length by rw [al,nS])) ?_;refine go ?_;obtain ⟨ay,hm⟩:=Z8 hm;refine lV (.int .u64 (cG (Wg .u64 (Yi .u64 aa 32) (u64.wrap ah)) (u64.wrap ab))) (Ziu (Wg .u64 (Yi .u64 aa 32) (u64.wrap ah)) (u64.wrap ab) rfl rfl ay)<|go ?_;replace af:=af.kp aw ax;exact ⟨ag,by omega,rfl,⟨_,_,_,_,_,rfl,hm,af,ap,aq,aq,rfl⟩⟩
  cases hm;exact ⟨rfl,_,rfl,af.finL rfl (cm [(440,qc0)]),af.foL aj,au⟩
def Ze4 (aa:Int) (ab:Int):Option Int:=
  (Zl0 (⟨#[0,1,2,2,3,3,3,3,4,4,4,4,4,4,4,4,5,5,5,5,5,5,5,5,5,5,5,5,5,5,5,5,6,6,6,6,6,6,6,6,6,6,6,6,6,6,6,6,6,6,6,6,6,6,6,6,6,6,6,6,6,6,6,6,7,7,7,7,7,7,7,7,7,7,7,7,7,7,7,7,7,7,7,7,7,7,7,7,7,7,7,7,7,7,7,7,7,7,7,7,7,7,7,7,7,7,7,7,7,7,7,7,7,7,7,7,7,7,7,7,7,7,7,7,7,7,7,7,8,8,8,8,8,8,8,8,8,8,8,8,8,8,8,8,8,8,8,8,8,8,8,8,8,8,8,8,8,8,8,8,8,8,8,8,8,8,8,8,8,8,8,8,8,8,8,8,8,8,8,8,8,8,8,8,8,8,8,8,8,8,8,8,8,8,8,8,8,8,8,8,8,8,8,8,8,8,8,8,8,8,8,8,8,8,8,8,8,8,8,8,8,8,8,8,8,8,8,8,8,8,8,8,8,8,8,8,8,8,8,8,8,8,8,8,8,8,8,8,8,8,8,8,8,8,8,8]⟩) (u8.wrap aa)).bind fun ac=>some (i64.wrap (ab+(i64.wrap ac)))
def Zhf (aa:Int) (ab:Int):Option Int:=
  if (decide (256≤aa))=true then (Ze4 (Y6 .u32 aa 8) (i64.wrap (ab+8))) else (Ze4 aa ab)
def Zhe (aa:Int):Option Int:=
  if (decide (65536≤aa))=true then (Zhf (Y6 .u32 aa 16) 16) else (Zhf aa 0)
theorem Zt4 {col:Ze} {w0:World} {ac r:Int} (hm:Zhe ac=some r):
    Calls prog 143 #[.int .u32 ac] w0 (fun e w'=>e= .returned ((.int .i64 r))∧Below w0.heap.size w0 w'):=by
 refine Xl 2 (m:=19) func143 rfl rfl rfl rfl rfl ?_;rw [Zhe.eq_1] at hm;have aa:=St.start col w0;refine Z0<|Vd<|Y7 rfl<|Zl<|Z0 ?_;refine Wp.cutK [1000000] (fun f ag=>∃ ah ab ad,Zhf ab ad=some r∧St w0 (Zk col) ah ag∧[0,2].map f=[.int .u32 ab,.int .i64 ad]) ?_ ?_
 ·intro f ag hJ;obtain ⟨ah,ab,ad,hm,aa,hs⟩:=hJ;rw [Zhf.eq_1] at hm;refine .lL [0,2] hs<|Z0 ?_;refine Wp.cutK [1000000] (fun f ai=>∃ aj ae af,Ze4 ae af=some r∧St w0 (Zk col) aj ai∧[0,2].map f=[.int .u32 ae,.int .i64 af]) ?_ ?_
  ·intro f ai hJ;obtain ⟨aj,ae,af,hm,aa,hs⟩:=hJ;rw [Ze4.eq_1] at hm;refine .lL [0,2] hs<|go ?_;obtain ⟨ak,al,hm⟩:=bZ hm;refine lV (.int .u8 ak) (Z9a (s:=(⟨#[0,1,2,2,3,3,3,3,4,4,4,4,4,4,4,4,5,5,5,5,5,5,5,5,5,5,5,5,5,5,5,5,6,6,6,6,6,6,6,6,6,6,6,6,6,6,6,6,6,6,6,6,6,6,6,6,6,6,6,6,6,6,6,6,7,7,7,7,7,7,7,7,7,7,7,7,7,7,7,7,7,7,7,7,7,7,7,7,7,7,7,7,7,7,7,7,7,7,7,7,7,7,7,7,7,7,7,7,7,7,7,7,7,7,7,7,7,7,7,7,7,7,7,7,7,7,7,7,8,8,8,8,8,8,8,8,8,8,8,8,8,8,8,8,8,8,8,8,8,8,8,8,8,8,8,8,8,8,8,8,8,8,8,8,8,8,8,8,8,8,8,8,8,8,8,8,8,8,8,8,8,8,8,8,8,8,8,8,8,8,8,8,8,8,8,8,8,8,8,8,8,8,8,8,8,8,8,8,8,8,8,8,8,8,8,8,8,8,8,8,8,8,8,8,8,8,8,8,8,8,8,8,8,8,8,8,8,8,8,8,8,8,8,8,8,8,8,8,8,8,8,8,8,8,8,8]⟩)) underlying9 rfl rfl al)<|go ?_;cases hm;exact ⟨rfl,rfl,aa.below⟩
  refine go ?_;refine Zq hm (fun hb hm=>go ?_) fun hb hm=>?_
  ·refine lV (.int .u32 (Y6 .u32 ab 8)) (Zal ab 8 rfl rfl (by decide))<|go ?_;exact ⟨rfl,_,_,_,hm,aa,rfl⟩
  refine Yl ?_;exact ⟨rfl,_,_,_,hm,aa,rfl⟩
 refine go ?_;refine Zq hm (fun hb hm=>go ?_) fun hb hm=>?_
 ·refine lV (.int .u32 (Y6 .u32 ac 16)) (Zal ac 16 rfl rfl (by decide))<|go ?_;exact ⟨rfl,_,_,16,hm,aa,rfl⟩
 refine Yl ?_;exact ⟨rfl,_,_,0,hm,aa,rfl⟩
def Zjy (aa:Int):Option Int:=
  (Zhe aa).bind fun ab=>some (i64.wrap (32 - ab))
theorem Z3x {col:Ze} {w0:World} {ac r:Int} (hm:Zjy ac=some r):
    Calls prog 191 #[.int .u32 ac] w0 (fun e w'=>e= .returned ((.int .i64 r))∧Below w0.heap.size w0 w'):=by
 refine Xl 2 (m:=6) func191 rfl rfl rfl rfl rfl ?_;rw [Zjy.eq_1] at hm;have aa:=St.start col w0;refine go ?_;obtain ⟨af,ad,hm⟩:=bZ hm;refine Zj (Zt4 (col:=(Zk col)) ad) ?_;rintro _ ae ⟨rfl,ab⟩;refine ⟨_,rfl,?_⟩;replace ab:Zh (Zk col) w0 (Zk col) ae:=.of_below ab;refine go ?_;cases hm;replace aa:=aa.grow ab;exact ⟨rfl,rfl,aa.below⟩
def Zdv (ab:Int):List Int→Nat→R2→Option R2
  | [],aa,ac=>some ac
  | ad :: af,aa,ac=>(Zm ac (aa:Int)).bind fun ag=>Z2 (0≤ab) ((some (ac.set (aA (aa:Int)) (Wg .u32 ag (Yi .u32 ad ab)))).bind fun ae=>Z2 (0≤ab) ((Zm ae (i64.wrap ((aa:Int)+1))).bind fun ai=>(some (ae.set (aA (i64.wrap ((aa:Int)+1))) (u32.wrap (Y6 .u64 (Yi .u64 (u64.wrap ad) ab) 32)))).bind fun ah=>(Zdv ab af) (aa+1) ah))
termination_by structural x=>x
def Zhs (aa:List Int) (ab:Int):Option R2:=
  Z2 ((aA (i64.wrap ((aa.length:Int)+1))) * 4≤281474976710656∧(aA (i64.wrap ((aa.length:Int)+1)))≤maxLen∧0≤(i64.wrap ((aa.length:Int)+1))) (Zdv ab aa 0 (aM (aA (i64.wrap ((aa.length:Int)+1))) (0:Int)))
theorem Zt8 {ay:Nat} {a0:Option Addr} {col:Ze} {w0:World} {ad:R2} {aa:Int} {r:R2} (c1:Nat) (hm:Zhs ad aa=some r) (h0:Sl (Za.int .u32) col w0 a0 ay ad):
    Calls prog 187 #[.slice a0 ad.length ay,.int .i64 aa] w0 (fun e w'=>∃ (col':Ze) (ra1:Option Addr) (rc2:Nat),e= .returned ((.slice ra1 r.length rc2))∧Zh col w0 col' w'∧Zb (Za.int .u32) 95 c1 col' w' ra1 rc2 r):=by
 refine Xl 4 (m:=40) func187 rfl rfl rfl rfl rfl ?_;rw [Zhs.eq_1] at hm;have ab:=St.start col w0;refine go ?_;obtain ⟨ao,hm⟩:=Z8 hm;refine Q3 (col:=(Zk col)) (w:=w0) (r:=(Za.int .u32)) (n:=(aA (i64.wrap ((ad.length:Int)+1)))) (x0:=0) 1 rfl underlying35 Tryz.t95 rfl rfl rfl rfl rfl (congrArg (Value.int _) (bM ao.2.2).symm) (congrArg (Value.int _) (bM ao.2.2).symm) ao.1 ao.2.1 (Zd9 .u32 0) ?_;intro bc bd be a1 a2;refine go ?_;replace ab:=ab.grow a1;refine Z4 [1,12,13,1000000] (fun n f au=>∃ ae af ah ai ak al,n=al.length∧ad.drop af=al∧Zdv aa al af ak=some r∧St w0 (Zk col) ae au∧Zb (Za.int .u32) 95 1 ae au ah ai ak∧[14,5].map f=[.int .i64 af,.slice ah ak.length ai]) ad.length ⟨_,0,_,_,_,_,rfl,rfl,hm,ab,a2,rfl⟩ ?_;clear hm;intro n f au hI;obtain ⟨ae,af,ah,ai,ak,al,hn,hl,hm,ab,aj,hs⟩:=hI;subst hn;refine .lL [14,5] hs ?_;replace h0:=h0.keep (Zi.start col w0)
 cases al with
 | nil=>
  have hk:¬ ((af:Int)<(ad.length:Int)):=by have:=aH.1 hl;omega
  have hkb:=decide_eq_false hk;rw [Zdv.eq_1] at hm;refine go ?_;refine X2 (congrArg Value.bool hkb)<|go ?_;cases hm;exact ⟨rfl,_,_,_,rfl,ab.fin (cm [(1,c1)]),ab.fo aj⟩
 | cons ac a3=>
  obtain ⟨av,a4,a5⟩:=Yd hl;have hk:(af:Int)<(ad.length:Int):=by omega
  have hkb:=decide_eq_true hk;rw [Zdv.eq_2] at hm;refine go ?_;refine X3 (congrArg Value.bool hkb)<|go ?_;refine lI av ((h0.ks ab).addr av)<|lW ((h0.ks ab).atInt av) ?_;refine go ?_;refine W7 (col:=ae) [(0,1),(1,1),(2,1),(3,0),(4,1),(5,1),(6,1),(7,1),(8,1),(9,2)] (by kernel_rfl) (by kernel_rfl)<|xu rfl rfl (fun _=>T0 rfl) ?_;refine xu rfl rfl (fun _=>Y4 rfl) ?_;obtain ⟨ap,ag,hm⟩:=bZ hm;refine xu rfl rfl (fun _=>Y3 underlying35 sizeOf95 rfl rfl (Xe ag).1 (Xe ag).2.1 (aj.addr ag)) ?_;refine xW (fun _ hC=>(aj.gr (hC.bl ae)).atInt ag) ?_;refine xu rfl rfl (fun _=>Y4 rfl) ?_;refine xu rfl rfl (fun _=>Y4 rfl) ?_;obtain ⟨a6,hm⟩:=Z8 hm;refine xu (v:=(.int .u32 (Yi .u32 ac aa))) rfl rfl (fun _=>Ziv ac aa rfl rfl a6) ?_;refine xu (v:=(.int .u32 (Wg .u32 ap (Yi .u32 ac aa)))) rfl rfl (fun _=>Zsb ap (Yi .u32 ac aa) rfl rfl) ?_;refine xu rfl rfl (fun _=>Y3 underlying35 sizeOf95 rfl rfl (Xe ag).1 (Xe ag).2.1 (aj.addr ag)) ?_;refine xe rfl rfl ?_;intro bf hC0;have hC:=hC0.bl ae;obtain ⟨am,aq,hm⟩:=bZ hm;have aq:am=ak.set (aA (af:Int)) (Wg .u32 ap (Yi .u32 ac aa)):=(Option.some.inj aq).symm;replace aj:=aj.gr hC;refine Wr (x1:=Wg .u32 ap (Yi .u32 ac aa)) aj ag ?_;intro bg a7 a8 an;rw [← aq] at an;refine .ld (d:=5) (v:=(.slice ah am.length ai)) (congrArg (fun n=>Value.slice ah n ai) (show ak.length=am.length by rw [aq,nS])) ?_;refine Zl<|xk ae<|Wi ?_;replace ab:=(ab.grow hC).kp a7 a8;intro bh hC;replace hC:=hC.bl ae;refine go ?_;obtain ⟨a9,hm⟩:=Z8 hm;refine lV (.int .u64 (Yi .u64 (u64.wrap ac) aa)) (Ziv (u64.wrap ac) aa rfl rfl a9)<|lV (.int .u64 (Y6 .u64 (Yi .u64 (u64.wrap ac) aa) 32)) (Zal (Yi .u64 (u64.wrap ac) aa) 32 rfl rfl (by decide))<|go ?_;obtain ⟨bi,aw,hm⟩:=bZ hm;replace an:=an.gr hC;refine lI aw (an.addr aw) ?_;obtain ⟨ax,ar,hm⟩:=bZ hm;have ar:ax=am.set (aA (i64.wrap ((af:Int)+1))) (u32.wrap (Y6 .u64 (Yi .u64 (u64.wrap ac) aa) 32)):=(Option.some.inj ar).symm;refine Wr (x1:=u32.wrap (Y6 .u64 (Yi .u64 (u64.wrap ac) aa) 32)) an aw ?_;intro bj ba bb az;rw [← ar] at az;refine .ld (d:=5) (v:=(.slice ah ax.length ai)) (congrArg (fun n=>Value.slice ah n ai) (show am.length=ax.length by rw [ar,nS])) ?_;refine go ?_;replace ab:=(ab.grow hC).kp ba bb
  exact ⟨a3.length,by simp,rfl,⟨_,_,_,_,_,_,rfl,a4,hm,ab,az,(Yg (congrArg (Value.int .i64) (Yb (aF a5 (h0.ks ab).1.1))) rfl)⟩⟩
def Zka (aa:List Int) (kk_L1:(List Int→Option R2)) (ab:Bool):Option R2:=
  if ab=true then (Z2 ((0:Int)≤(i64.wrap ((aa.length:Int) - 1))∧(i64.wrap ((aa.length:Int) - 1))≤(aa.length:Int)) (kk_L1 (aa.take (aA (i64.wrap ((aa.length:Int) - 1)))))) else (some aa)
def Zb6 (N:Nat):Nat→R2→Option R2
  | 0,_=>none
  | ab+1,aa=>if (decide (0<(aa.length:Int)))=true then ((Zm aa (i64.wrap ((aa.length:Int) - 1))).bind fun ac=>Zka aa (Zb6 N ab) (decide (ac=0))) else (Zka aa (Zb6 N ab) false)
termination_by structural x=>x
def Zfh (N:Nat) (aa:List Int):Option R2:=
  Zb6 N N aa
theorem Zt9 {N ap:Nat} {a0:Option Addr} {col:Ze} {w0:World} {ag r:R2} (qc0:Nat) (hm:Zfh N ag=some r) (hd:U1 [qc0]=true) (h0:Zb (Za.int .u32) 95 qc0 col w0 a0 ap ag):
    Calls prog 142 #[.slice a0 ag.length ap] w0 (fun e w'=>∃ (col':Ze) (ra1:Option Addr) (rc2:Nat),e= .returned ((.slice ra1 r.length rc2))∧Zu (pS [qc0]) col w0 col' w'∧Zb (Za.int .u32) 95 qc0 col' w' ra1 rc2 r):=by
 refine Xl 2 (m:=21) func142 rfl rfl rfl rfl rfl ?_;rw [Zfh.eq_1] at hm;have ab:=St.startL (l:=[qc0]) rfl col w0;replace h0:=h0.startL (T9 hd 0 rfl) (T8 hd 0 rfl);refine go ?_;refine Z4 [1000000] (fun n f ah=>∃ ai ad ae aa af,af=n∧Zb6 N af aa=some r∧St w0 (Xh [qc0] col) ai ah∧Zb (Za.int .u32) 95 440 ai ah ad ae aa∧[0].map f=[.slice ad aa.length ae]) N ⟨_,_,_,_,_,rfl,hm,ab,h0,rfl⟩ ?_;clear hm;intro n f ah hI;obtain ⟨ai,ad,ae,aa,af,hn,hm,ab,ac,hs⟩:=hI;subst hn;refine .lL [0] hs ?_
 cases af with
 | zero=>rw [Zb6.eq_1] at hm;cases hm
 | succ af=>
  rw [Zb6.eq_2] at hm;refine Z0<|Z0 ?_;refine Wp.cutK [0,1000000] (fun f aj=>∃ ak al,Zka aa (Zb6 N af) al=some r∧St w0 (Xh [qc0] col) ak aj∧Zb (Za.int .u32) 95 440 ak aj ad ae aa∧[14].map f=[.bool al]) ?_ ?_
  ·intro f aj hJ;obtain ⟨ak,al,hm,ab,ac,hs⟩:=hJ;rw [Zka.eq_1] at hm;refine .lL [14] hs ?_;refine Zq hm (fun hb hm=>go ?_) fun hb hm=>go ?_
   ·obtain ⟨am,hm⟩:=Z8 hm;refine lv (v:=.slice ad (aA (i64.wrap ((aa.length:Int) - 1))) ae) rfl rfl (Zlk underlying35 sizeOf95 rfl rfl am.1 (by have:=ac.lecap;have:=am.2;omega))<|.ld (d:=19) (v:=(.slice ad ((aa.take (aA (i64.wrap ((aa.length:Int) - 1)))).length) ae)) (congrArg (fun n=>Value.slice ad n ae) (gR (show (aA (i64.wrap ((aa.length:Int) - 1)))≤aa.length by have:=am.2;omega)).symm) ?_;refine go ?_;exact ⟨af,by omega,rfl,⟨_,_,_,_,_,rfl,hm,ab,(ac.take (aA (i64.wrap ((aa.length:Int) - 1)))),rfl⟩⟩
   cases hm;exact ⟨rfl,_,_,_,rfl,ab.finL rfl (cm [(440,qc0)]),ab.foL ac⟩
  refine go ?_;refine Yt hm (fun an hm=>go ?_) fun an hm=>go ?_
  ·obtain ⟨aq,ao,hm⟩:=bZ hm;refine lI ao (ac.addr ao) ?_;refine go ?_;refine lW (ac.atInt ao)<|go ?_;refine lV (.bool (decide (aq=0))) (Yf (congrArg Value.bool an) rfl)<|Zl ?_;exact ⟨rfl,_,_,hm,ab,ac,rfl⟩
  refine lV (.bool false) (X8 (congrArg Value.bool an) rfl)<|Zl ?_;exact ⟨rfl,_,_,hm,ab,ac,rfl⟩
def Zj6 (aa:Int) (ab:List Int):Option R7:=
  some (u32.wrap aa,ab)
def Zdu (j0:Nat) (n0:Nat) (ab:List Int) (ae:Int):List Int→Nat→R2→Int→Option R7
  | [],aa,ac,ad=>Z2 (0≤(ab.length:Int)∧(ab.length:Int)<(n0:Int)) ((Zm ac ((j0:Int)+(ab.length:Int))).bind fun ah=>Z2 (0≤(ab.length:Int)∧(ab.length:Int)<(n0:Int)) ((Zm ac ((j0:Int)+(ab.length:Int))).bind fun al=>(some (ac.set (aA ((j0:Int)+(ab.length:Int))) (u32.wrap (ah+(u32.wrap ad))))).bind fun ai=>Zj6 (u64.wrap ((u64.wrap (ae - 1)) - 1)) ai))
  | af :: aj,aa,ac,ad=>Z2 (0≤(aa:Int)∧(aa:Int)<(n0:Int)) ((Zm ac ((j0:Int)+(aa:Int))).bind fun ag=>Z2 (0≤(aa:Int)∧(aa:Int)<(n0:Int)) ((Zm ac ((j0:Int)+(aa:Int))).bind fun am=>(some (ac.set (aA ((j0:Int)+(aa:Int))) (u32.wrap (u64.wrap (ad+(u64.wrap ((u64.wrap ag)+(u64.wrap af)))))))).bind fun ak=>(Zdu j0 n0 ab ae aj) (aa+1) ak (Y6 .u64 (u64.wrap (ad+(u64.wrap ((u64.wrap ag)+(u64.wrap af))))) 32)))
termination_by structural x=>x
def Zmy (aa:Nat) (kk_L2:(Nat→R2→Int→Int→Option R7)) (ab:List Int) (ac:Int) (ad:Int):Option R7:=
  kk_L2 (aa+1) ab ac ad
def Zj7 (j0:Nat) (n0:Nat) (ac:Int) (ab:List Int) (af:Int) (aa:Nat) (ad:Int) (kk_L2:(Nat→R2→Int→Int→Option R7)) (ae:Int) (ag:Int):Option R7:=
  Z2 (0≤(aa:Int)∧(aa:Int)<(n0:Int)) ((Zm ab ((j0:Int)+(aa:Int))).bind fun ah=>Z2 (0≤(aa:Int)∧(aa:Int)<(n0:Int)) ((Zm ab ((j0:Int)+(aa:Int))).bind fun aj=>(some (ab.set (aA ((j0:Int)+(aa:Int))) (u32.wrap (ah - (u32.wrap (u64.wrap ((Sb .u64 (u64.wrap (ad+(u64.wrap ((u64.wrap (ac - 1)) * (u64.wrap ae))))) 4294967295)+af))))))).bind fun ai=>Zmy aa kk_L2 ai ag (Y6 .u64 (u64.wrap (ad+(u64.wrap ((u64.wrap (ac - 1)) * (u64.wrap ae))))) 32)))
def Zaa (j0:Nat) (n0:Nat) (aa:List Int) (ac:Int):List Int→Nat→R2→Int→Int→Option R7
  | [],ad,ab,ae,af=>Z2 (0≤(aa.length:Int)∧(aa.length:Int)<(n0:Int)) ((Zm ab ((j0:Int)+(aa.length:Int))).bind fun aj=>Z2 (0≤(aa.length:Int)∧(aa.length:Int)<(n0:Int)) ((Zm ab ((j0:Int)+(aa.length:Int))).bind fun ak=>Z2 (0≤(aa.length:Int)∧(aa.length:Int)<(n0:Int)) ((Zm ab ((j0:Int)+(aa.length:Int))).bind fun am=>(some (ab.set (aA ((j0:Int)+(aa.length:Int))) (u32.wrap (ak - (u32.wrap (u64.wrap (af+ae))))))).bind fun ah=>if (decide ((u64.wrap aj)<(u64.wrap (af+ae))))=true then (Zdu j0 n0 aa ac aa 0 ah 0) else (Zj6 (u64.wrap (ac - 1)) ah))))
  | ag :: ai,ad,ab,ae,af=>Z2 (0≤(ad:Int)∧(ad:Int)<(n0:Int)) ((Zm ab ((j0:Int)+(ad:Int))).bind fun al=>if (decide ((u64.wrap al)<(u64.wrap ((Sb .u64 (u64.wrap (af+(u64.wrap ((u64.wrap (ac - 1)) * (u64.wrap ag))))) 4294967295)+ae))))=true then (Zj7 j0 n0 ac ab ae ad af (Zaa j0 n0 aa ac ai) ag 1) else (Zj7 j0 n0 ac ab ae ad af (Zaa j0 n0 aa ac ai) ag 0))
termination_by structural x=>x
def Zj5 (j0:Nat) (n0:Nat) (ae:List Int) (aa:List Int) (ab:Int) (ac:Int) (kk_L1:(Int→Int→Option R7)):Option R7:=
  (Zm aa (i64.wrap ((aa.length:Int) - 1))).bind fun ad=>if (decide (4294967295<(u64.wrap (ac+(u64.wrap ad)))))=true then (Zaa j0 n0 aa ab aa 0 ae 0 0) else (kk_L1 (u64.wrap (ab - 1)) (u64.wrap (ac+(u64.wrap ad))))
def Zb4 (aa:Int) (ab:List Int):Option R7:=
  some (u32.wrap aa,ab)
def Sx (j0:Nat) (n0:Nat) (ab:List Int) (ae:Int):List Int→Nat→R2→Int→Option R7
  | [],aa,ac,ad=>Z2 (0≤(ab.length:Int)∧(ab.length:Int)<(n0:Int)) ((Zm ac ((j0:Int)+(ab.length:Int))).bind fun ah=>Z2 (0≤(ab.length:Int)∧(ab.length:Int)<(n0:Int)) ((Zm ac ((j0:Int)+(ab.length:Int))).bind fun al=>(some (ac.set (aA ((j0:Int)+(ab.length:Int))) (u32.wrap (ah+(u32.wrap ad))))).bind fun ai=>Zb4 (u64.wrap (ae - 1)) ai))
  | af :: aj,aa,ac,ad=>Z2 (0≤(aa:Int)∧(aa:Int)<(n0:Int)) ((Zm ac ((j0:Int)+(aa:Int))).bind fun ag=>Z2 (0≤(aa:Int)∧(aa:Int)<(n0:Int)) ((Zm ac ((j0:Int)+(aa:Int))).bind fun am=>(some (ac.set (aA ((j0:Int)+(aa:Int))) (u32.wrap (u64.wrap (ad+(u64.wrap ((u64.wrap ag)+(u64.wrap af)))))))).bind fun ak=>(Sx j0 n0 ab ae aj) (aa+1) ak (Y6 .u64 (u64.wrap (ad+(u64.wrap ((u64.wrap ag)+(u64.wrap af))))) 32)))
termination_by structural x=>x
def Zj8 (aa:Nat) (kk_L4:(Nat→R2→Int→Int→Option R7)) (ab:List Int) (ac:Int) (ad:Int):Option R7:=
  kk_L4 (aa+1) ab ac ad
def Zff (j0:Nat) (n0:Nat) (ac:Int) (ab:List Int) (af:Int) (aa:Nat) (ad:Int) (kk_L4:(Nat→R2→Int→Int→Option R7)) (ae:Int) (ag:Int):Option R7:=
  Z2 (0≤(aa:Int)∧(aa:Int)<(n0:Int)) ((Zm ab ((j0:Int)+(aa:Int))).bind fun ah=>Z2 (0≤(aa:Int)∧(aa:Int)<(n0:Int)) ((Zm ab ((j0:Int)+(aa:Int))).bind fun aj=>(some (ab.set (aA ((j0:Int)+(aa:Int))) (u32.wrap (ah - (u32.wrap (u64.wrap ((Sb .u64 (u64.wrap (ad+(u64.wrap (ac * (u64.wrap ae))))) 4294967295)+af))))))).bind fun ai=>Zj8 aa kk_L4 ai ag (Y6 .u64 (u64.wrap (ad+(u64.wrap (ac * (u64.wrap ae))))) 32)))
def Us (j0:Nat) (n0:Nat) (aa:List Int) (ac:Int):List Int→Nat→R2→Int→Int→Option R7
  | [],ad,ab,ae,af=>Z2 (0≤(aa.length:Int)∧(aa.length:Int)<(n0:Int)) ((Zm ab ((j0:Int)+(aa.length:Int))).bind fun aj=>Z2 (0≤(aa.length:Int)∧(aa.length:Int)<(n0:Int)) ((Zm ab ((j0:Int)+(aa.length:Int))).bind fun ak=>Z2 (0≤(aa.length:Int)∧(aa.length:Int)<(n0:Int)) ((Zm ab ((j0:Int)+(aa.length:Int))).bind fun am=>(some (ab.set (aA ((j0:Int)+(aa.length:Int))) (u32.wrap (ak - (u32.wrap (u64.wrap (af+ae))))))).bind fun ah=>if (decide ((u64.wrap aj)<(u64.wrap (af+ae))))=true then (Sx j0 n0 aa ac aa 0 ah 0) else (Zb4 ac ah))))
  | ag :: ai,ad,ab,ae,af=>Z2 (0≤(ad:Int)∧(ad:Int)<(n0:Int)) ((Zm ab ((j0:Int)+(ad:Int))).bind fun al=>if (decide ((u64.wrap al)<(u64.wrap ((Sb .u64 (u64.wrap (af+(u64.wrap (ac * (u64.wrap ag))))) 4294967295)+ae))))=true then (Zff j0 n0 ac ab ae ad af (Us j0 n0 aa ac ai) ag 1) else (Zff j0 n0 ac ab ae ad af (Us j0 n0 aa ac ai) ag 0))
termination_by structural x=>x
def Zfe (j0:Nat) (n0:Nat) (ab:List Int) (aa:List Int) (ac:Int) (ad:Int) (kk_L1:(Int→Int→Option R7)) (ae:Bool):Option R7:=
  if ae=true then (Zj5 j0 n0 ab aa ac ad kk_L1) else (Us j0 n0 aa ac aa 0 ab 0 0)
def Qn (N:Nat) (j0:Nat) (n0:Nat) (ab:List Int) (aa:List Int):Nat→Int→Int→Option R7
  | 0,_,_=>none
  | ae+1,ac,ad=>if (decide (4294967295<ac))=true then (Zfe j0 n0 ab aa ac ad (Qn N j0 n0 ab aa ae) true) else (if (decide (ad≤4294967295))=true then ((Zm aa (i64.wrap ((aa.length:Int) - 2))).bind fun af=>Z2 (0≤(i64.wrap ((aa.length:Int) - 2))∧(i64.wrap ((aa.length:Int) - 2))<(n0:Int)) ((Zm ab ((j0:Int)+(i64.wrap ((aa.length:Int) - 2)))).bind fun ag=>Zfe j0 n0 ab aa ac ad (Qn N j0 n0 ab aa ae) (decide ((Wg .u64 (Yi .u64 ad 32) (u64.wrap ag))<(u64.wrap (ac * (u64.wrap af))))))) else (Zfe j0 n0 ab aa ac ad (Qn N j0 n0 ab aa ae) false))
termination_by structural x=>x
def Zhr (N:Nat) (j0:Nat) (n0:Nat) (ac:List Int) (aa:List Int):Option R7:=
  Z2 (0≤(aa.length:Int)∧(aa.length:Int)<(n0:Int)) ((Zm ac ((j0:Int)+(aa.length:Int))).bind fun ad=>Z2 (0≤(i64.wrap ((aa.length:Int) - 1))∧(i64.wrap ((aa.length:Int) - 1))<(n0:Int)) ((Zm ac ((j0:Int)+(i64.wrap ((aa.length:Int) - 1)))).bind fun ae=>(Zm aa (i64.wrap ((aa.length:Int) - 1))).bind fun ab=>Z2 ((u64.wrap ab)≠0) (Z2 ((u64.wrap ab)≠0) (Qn N j0 n0 ac aa N (u64.wrap (bJ (Wg .u64 (Yi .u64 (u64.wrap ad) 32) (u64.wrap ae)) (u64.wrap ab))) (cG (Wg .u64 (Yi .u64 (u64.wrap ad) 32) (u64.wrap ae)) (u64.wrap ab))))))
theorem Z38 {N ae j0 n0 cp0 de:Nat} {a0 a1:Option Addr} {col:Ze} {w0:World} {ac ab:R2} {r:R7} (qc0:Nat) (hm:Zhr N j0 n0 ac ab=some r) (hd:U1 [qc0]=true) (h0:Zb (Za.int .u32) 95 qc0 col w0 a0 ae ac) (h1:Sl (Za.int .u32) col w0 a1 de ab):
    Calls prog 192 #[.slice (a0.map (·.add (j0 * 1))) n0 cp0,.slice a1 ab.length de] w0 (fun e w'=>∃ (col':Ze),e= .returned ((.int .u32 r.1))∧Zu (pS [qc0]) col w0 col' w'∧Zb (Za.int .u32) 95 qc0 col' w' a0 ae r.2∧r.2.length=ac.length):=by
 refine Xl 4 (m:=178) func192 rfl rfl rfl rfl rfl ?_;rw [Zhr.eq_1] at hm;have aa:=St.startL (l:=[qc0]) rfl col w0;replace h0:=h0.startL (T9 hd 0 rfl) (T8 hd 0 rfl);refine go ?_;refine V4 (col:=(Xh [qc0] col)) (by kernel_rfl) (by kernel_rfl)<|go ?_;obtain ⟨df,hm⟩:=Z8 hm;obtain ⟨a7,dg,hm⟩:=bZ hm;refine qv (v:=(Yh a0 (aA ((j0:Int)+(ab.length:Int)) * 1))) rfl (fun _ hC=>Vs underlying35 sizeOf95 rfl rfl df.1 df.2 (h0.addr dg)) ?_;refine qW (fun _ hC=>(h0.gr (hC.bl (Xh [qc0] col))).atInt dg) ?_;refine go ?_;refine qv (v:=(.int .u64 (Yi .u64 (u64.wrap a7) 32))) rfl (fun _ hC=>Ziv (u64.wrap a7) 32 rfl rfl (by decide)) ?_;refine go ?_;obtain ⟨dh,hm⟩:=Z8 hm;obtain ⟨bf,di,hm⟩:=bZ hm;refine qv (v:=(Yh a0 (aA ((j0:Int)+(i64.wrap ((ab.length:Int) - 1))) * 1))) rfl (fun _ hC=>Vs underlying35 sizeOf95 rfl rfl dh.1 dh.2 (h0.addr di)) ?_;refine qW (fun _ hC=>(h0.gr (hC.bl (Xh [qc0] col))).atInt di) ?_;refine go ?_;refine Vc ?_;intro gp hC;replace h1:=h1.keep (Zi.startL [qc0] col w0);replace hC:=hC.bl (Xh [qc0] col);refine go ?_;obtain ⟨bg,a8,hm⟩:=bZ hm;replace aa:=aa.grow hC;refine lI a8 ((h1.ks aa).addr a8)<|lW ((h1.ks aa).atInt a8) ?_;refine go ?_;obtain ⟨fd,hm⟩:=Z8 hm;refine lV (.int .u64 (u64.wrap (bJ (Wg .u64 (Yi .u64 (u64.wrap a7) 32) (u64.wrap bf)) (u64.wrap bg)))) (Qx (Wg .u64 (Yi .u64 (u64.wrap a7) 32) (u64.wrap bf)) (u64.wrap bg) rfl rfl fd)<|go ?_;refine lI a8 ((h1.ks aa).addr a8)<|lW ((h1.ks aa).atInt a8) ?_;refine go ?_;obtain ⟨fe,hm⟩:=Z8 hm;refine lV (.int .u64 (cG (Wg .u64 (Yi .u64 (u64.wrap a7) 32) (u64.wrap bf)) (u64.wrap bg))) (Ziu (Wg .u64 (Yi .u64 (u64.wrap a7) 32) (u64.wrap bf)) (u64.wrap bg) rfl rfl fe)<|go ?_;replace h0:=h0.gr hC;refine Z4 [0,1,5,1000000] (fun n f bx=>∃ ao ad ap a2,a2=n∧Qn N j0 n0 ac ab a2 ad ap=some r∧St w0 (Xh [qc0] col) ao bx∧Zb (Za.int .u32) 95 440 ao bx a0 ae ac∧[7,8].map f=[.int .u64 ad,.int .u64 ap]) N ⟨_,_,_,_,rfl,hm,aa,h0,rfl⟩ ?_;clear hm;intro n f bx hI;obtain ⟨ao,ad,ap,a2,hn,hm,aa,h0,hs⟩:=hI;subst hn;refine .lL [7,8] hs ?_
 cases a2 with
 | zero=>rw [Qn.eq_1] at hm;cases hm
 | succ a2=>
  rw [Qn.eq_2] at hm;refine Z0 ?_;refine Wp.cutK [0,1,5,7,8,1000000] (fun f bz=>∃ b0,Zj5 j0 n0 ac ab ad ap (Qn N j0 n0 ac ab a2)=some r∧St w0 (Xh [qc0] col) b0 bz∧Zb (Za.int .u32) 95 440 b0 bz a0 ae ac) ?_ ?_
  ·intro f bz hJ;obtain ⟨b0,hm,aa,h0⟩:=hJ;rw [Zj5.eq_1] at hm;refine go ?_;obtain ⟨gs,b1,hm⟩:=bZ hm;refine lI b1 ((h1.ks aa).addr b1)<|lW ((h1.ks aa).atInt b1) ?_;refine go ?_;refine Zq hm (fun hb hm=>?_) fun hb hm=>?_
   ·refine Zs8 (Zqn rfl (Zqm ?_));refine go ?_;refine Z4 [0,1,5,7,87,88,1000000] (fun n f b2=>∃ b3 am a3 ai aj a9,n=a9.length∧ab.drop ai=a9∧Zaa j0 n0 ab ad a9 ai am a3 aj=some r∧St w0 (Xh [qc0] col) b3 b2∧Zb (Za.int .u32) 95 440 b3 b2 a0 ae am∧am.length=ac.length∧am.length=ac.length∧[89,10,9].map f=[.int .i64 ai,.int .u64 a3,.int .u64 aj]) ab.length ⟨_,_,0,0,0,_,rfl,rfl,hm,aa,h0,rfl,rfl,rfl⟩ ?_;clear hm;intro n f b2 hI;obtain ⟨b3,am,a3,ai,aj,a9,hn,hl,hm,aa,af,dj,gt,hs⟩:=hI;subst hn;refine .lL [89,10,9] hs ?_
    cases a9 with
    | nil=>
     have hk:¬ ((ai:Int)<(ab.length:Int)):=by have:=aH.1 hl;omega
     have hkb:=decide_eq_false hk;rw [Zaa.eq_1] at hm;refine go ?_;refine X2 (congrArg Value.bool hkb)<|go ?_;obtain ⟨dl,hm⟩:=Z8 hm;obtain ⟨gu,dm,hm⟩:=bZ hm;refine lV (Yh a0 (aA ((j0:Int)+(ab.length:Int)) * 1)) (Vs underlying35 sizeOf95 rfl rfl dl.1 dl.2 (af.addr dm))<|lW (af.atInt dm)<|go ?_;obtain ⟨dn,hm⟩:=Z8 hm;obtain ⟨dp,dq,hm⟩:=bZ hm;refine lV (Yh a0 (aA ((j0:Int)+(ab.length:Int)) * 1)) (Vs underlying35 sizeOf95 rfl rfl dn.1 dn.2 (af.addr dq))<|lW (af.atInt dq)<|go ?_;obtain ⟨dr,hm⟩:=Z8 hm;obtain ⟨gv,ds,hm⟩:=bZ hm;refine lV (Yh a0 (aA ((j0:Int)+(ab.length:Int)) * 1)) (Vs underlying35 sizeOf95 rfl rfl dr.1 dr.2 (af.addr ds)) ?_;obtain ⟨b4,bh,hm⟩:=bZ hm;have bh:b4=am.set (aA ((j0:Int)+(ab.length:Int))) (u32.wrap (dp - (u32.wrap (u64.wrap (aj+a3))))):=(Option.some.inj bh).symm;refine Wr (x1:=u32.wrap (dp - (u32.wrap (u64.wrap (aj+a3))))) af ds ?_;intro gw ff fg b5;rw [← bh] at b5;have b6:b4.length=ac.length:=(show am.length=b4.length by rw [bh,nS]).symm.trans dj;refine Zl<|Z0 ?_;replace aa:=aa.kp ff fg;refine Wp.cutK [1000000] (fun f b7=>∃ b8 b9 bi,Zj6 b9 bi=some r∧St w0 (Xh [qc0] col) b8 b7∧Zb (Za.int .u32) 95 440 b8 b7 a0 ae bi∧bi.length=ac.length∧[7].map f=[.int .u64 b9]) ?_ ?_
     ·intro f b7 hJ;obtain ⟨b8,b9,bi,hm,aa,fh,fi,hs⟩:=hJ;rw [Zj6.eq_1] at hm;refine .lL [7] hs<|go ?_;cases hm;exact ⟨rfl,_,rfl,aa.finL rfl (cm [(440,qc0)]),aa.foL fh,fi⟩
     refine go ?_;refine Zq hm (fun hb hm=>go ?_) fun hb hm=>?_
     ·refine Z4 [0,143,144,5,7,1000000] (fun n f ca=>∃ cb aq ar au ba,n=ba.length∧ab.drop ar=ba∧Zdu j0 n0 ab ad ba ar aq au=some r∧St w0 (Xh [qc0] col) cb ca∧Zb (Za.int .u32) 95 440 cb ca a0 ae aq∧aq.length=ac.length∧aq.length=ac.length∧[145,9].map f=[.int .i64 ar,.int .u64 au]) ab.length ⟨_,_,0,0,_,rfl,rfl,hm,aa,b5,b6,b6,rfl⟩ ?_;clear hm;intro n f ca hI;obtain ⟨cb,aq,ar,au,ba,hn,hl,hm,aa,a4,fj,fk,hs⟩:=hI;subst hn;refine .lL [145,9] hs ?_
      cases ba with
      | nil=>
       have hk:¬ ((ar:Int)<(ab.length:Int)):=by have:=aH.1 hl;omega
       have hkb:=decide_eq_false hk;rw [Zdu.eq_1] at hm;refine go ?_;refine X2 (congrArg Value.bool hkb)<|go ?_;obtain ⟨dt,hm⟩:=Z8 hm;obtain ⟨du,dv,hm⟩:=bZ hm;refine lV (Yh a0 (aA ((j0:Int)+(ab.length:Int)) * 1)) (Vs underlying35 sizeOf95 rfl rfl dt.1 dt.2 (a4.addr dv))<|lW (a4.atInt dv)<|go ?_;obtain ⟨dw,hm⟩:=Z8 hm;obtain ⟨gx,dx,hm⟩:=bZ hm;refine lV (Yh a0 (aA ((j0:Int)+(ab.length:Int)) * 1)) (Vs underlying35 sizeOf95 rfl rfl dw.1 dw.2 (a4.addr dx)) ?_;obtain ⟨cc,bj,hm⟩:=bZ hm;have bj:cc=aq.set (aA ((j0:Int)+(ab.length:Int))) (u32.wrap (du+(u32.wrap au))):=(Option.some.inj bj).symm;refine Wr (x1:=u32.wrap (du+(u32.wrap au))) a4 dx ?_;intro gy fl fm dy;rw [← bj] at dy;have fn:cc.length=ac.length:=(show aq.length=cc.length by rw [bj,nS]).symm.trans fk;refine Zl ?_;replace aa:=aa.kp fl fm;exact ⟨rfl,_,_,_,hm,aa,dy,fn,rfl⟩
      | cons bk fp=>
       obtain ⟨ag,fq,fr⟩:=Yd hl;have hk:(ar:Int)<(ab.length:Int):=by omega
       have hkb:=decide_eq_true hk;rw [Zdu.eq_2] at hm;refine go ?_;refine X3 (congrArg Value.bool hkb)<|go ?_;refine lI ag ((h1.ks aa).addr ag)<|lW ((h1.ks aa).atInt ag) ?_;refine go ?_;obtain ⟨dz,hm⟩:=Z8 hm;obtain ⟨bm,d0,hm⟩:=bZ hm;refine lV (Yh a0 (aA ((j0:Int)+(ar:Int)) * 1)) (Vs underlying35 sizeOf95 rfl rfl dz.1 dz.2 (a4.addr d0))<|lW (a4.atInt d0)<|go ?_;obtain ⟨d1,hm⟩:=Z8 hm;obtain ⟨gz,d2,hm⟩:=bZ hm;refine lV (Yh a0 (aA ((j0:Int)+(ar:Int)) * 1)) (Vs underlying35 sizeOf95 rfl rfl d1.1 d1.2 (a4.addr d2)) ?_;obtain ⟨cd,bn,hm⟩:=bZ hm;have bn:cd=aq.set (aA ((j0:Int)+(ar:Int))) (u32.wrap (u64.wrap (au+(u64.wrap ((u64.wrap bm)+(u64.wrap bk)))))):=(Option.some.inj bn).symm;refine Wr (x1:=u32.wrap (u64.wrap (au+(u64.wrap ((u64.wrap bm)+(u64.wrap bk)))))) a4 d2 ?_;intro g0 ft fu d3;rw [← bn] at d3;have d4:cd.length=ac.length:=(show aq.length=cd.length by rw [bn,nS]).symm.trans fj;refine go ?_;refine lV (.int .u64 (Y6 .u64 (u64.wrap (au+(u64.wrap ((u64.wrap bm)+(u64.wrap bk))))) 32)) (Zal (u64.wrap (au+(u64.wrap ((u64.wrap bm)+(u64.wrap bk))))) 32 rfl rfl (by decide))<|go ?_;replace aa:=aa.kp ft fu;exact ⟨fp.length,by simp,rfl,⟨_,_,_,_,_,rfl,fq,hm,aa,d3,d4,d4,(Yg (congrArg (Value.int .i64) (Yb (aF fr (h1.ks aa).1.1))) rfl)⟩⟩
     refine Yl ?_;exact ⟨rfl,_,_,_,hm,aa,b5,b6,rfl⟩
    | cons av ce=>
     obtain ⟨ag,fv,fw⟩:=Yd hl;have hk:(ai:Int)<(ab.length:Int):=by omega
     have hkb:=decide_eq_true hk;rw [Zaa.eq_2] at hm;refine go ?_;refine X3 (congrArg Value.bool hkb)<|Yl<|Z0 ?_;refine Wp.cutK [0,1,5,7,87,88,89,1000000] (fun f cf=>∃ cg bb ch ci,Zmy ai (Zaa j0 n0 ab ad ce) bb ch ci=some r∧St w0 (Xh [qc0] col) cg cf∧Zb (Za.int .u32) 95 440 cg cf a0 ae bb∧bb.length=ac.length∧bb.length=ac.length∧[10,9].map f=[.int .u64 ch,.int .u64 ci]) ?_ ?_
     ·intro f cf hJ;obtain ⟨cg,bb,ch,ci,hm,aa,fx,fy,fz,hs⟩:=hJ;rw [Zmy.eq_1] at hm;refine .lL [10,9] hs<|go ?_;exact ⟨ce.length,by simp,rfl,⟨_,_,_,_,_,_,rfl,fv,hm,aa,fx,fy,fz,(Yg (congrArg (Value.int .i64) (Yb (aF fw (h1.ks aa).1.1))) rfl)⟩⟩
     refine go ?_;refine lI ag ((h1.ks aa).addr ag)<|lW ((h1.ks aa).atInt ag)<|Y7 rfl<|Y7 rfl<|Zl<|Z0<|Vd<|X1 rfl<|X1 rfl<|X1 rfl<|lV (.int .u64 (u64.wrap av)) (Zli av ⟨_,underlying95⟩ underlying149 rfl)<|lV _ (Zis _ _ rfl rfl)<|lV _ (Zai _ _ rfl rfl)<|Y7 rfl<|Zl<|Z0<|Vd<|X1 rfl<|lV (.int .u64 (Sb .u64 (u64.wrap (aj+(u64.wrap ((u64.wrap (ad - 1)) * (u64.wrap av))))) 4294967295)) (Zom (u64.wrap (aj+(u64.wrap ((u64.wrap (ad - 1)) * (u64.wrap av))))) 4294967295 rfl rfl)<|X1 rfl<|lV _ (Zai _ _ rfl rfl)<|Y7 rfl<|Zl<|Z0<|Vd<|Y7 rfl<|Zl<|Z0 ?_;refine Wp.cutK [0,1,11,13,5,7,87,88,89,9,1000000] (fun f cj=>∃ ck cl,Zj7 j0 n0 ad am a3 ai aj (Zaa j0 n0 ab ad ce) av cl=some r∧St w0 (Xh [qc0] col) ck cj∧Zb (Za.int .u32) 95 440 ck cj a0 ae am∧[10].map f=[.int .u64 cl]) ?_ ?_
     ·intro f cj hJ;obtain ⟨ck,cl,hm,aa,af,hs⟩:=hJ;rw [Zj7.eq_1] at hm;refine .lL [10] hs<|go ?_;obtain ⟨d5,hm⟩:=Z8 hm;obtain ⟨d6,d7,hm⟩:=bZ hm;refine lV (Yh a0 (aA ((j0:Int)+(ai:Int)) * 1)) (Vs underlying35 sizeOf95 rfl rfl d5.1 d5.2 (af.addr d7))<|lW (af.atInt d7)<|go ?_;obtain ⟨d8,hm⟩:=Z8 hm;obtain ⟨g1,d9,hm⟩:=bZ hm;refine lV (Yh a0 (aA ((j0:Int)+(ai:Int)) * 1)) (Vs underlying35 sizeOf95 rfl rfl d8.1 d8.2 (af.addr d9)) ?_;obtain ⟨cn,bo,hm⟩:=bZ hm;have bo:cn=am.set (aA ((j0:Int)+(ai:Int))) (u32.wrap (d6 - (u32.wrap (u64.wrap ((Sb .u64 (u64.wrap (aj+(u64.wrap ((u64.wrap (ad - 1)) * (u64.wrap av))))) 4294967295)+a3))))):=(Option.some.inj bo).symm;refine Wr (x1:=u32.wrap (d6 - (u32.wrap (u64.wrap ((Sb .u64 (u64.wrap (aj+(u64.wrap ((u64.wrap (ad - 1)) * (u64.wrap av))))) 4294967295)+a3))))) af d9 ?_;intro g2 f0 f1 ea;rw [← bo] at ea;have eb:cn.length=ac.length:=(show am.length=cn.length by rw [bo,nS]).symm.trans dj;refine go ?_;refine lV (.int .u64 (Y6 .u64 (u64.wrap (aj+(u64.wrap ((u64.wrap (ad - 1)) * (u64.wrap av))))) 32)) (Zal (u64.wrap (aj+(u64.wrap ((u64.wrap (ad - 1)) * (u64.wrap av))))) 32 rfl rfl (by decide))<|go ?_;replace aa:=aa.kp f0 f1;exact ⟨rfl,_,_,_,_,hm,aa,ea,eb,eb,rfl⟩
     refine go ?_;obtain ⟨ec,hm⟩:=Z8 hm;obtain ⟨g3,ed,hm⟩:=bZ hm;refine lV (Yh a0 (aA ((j0:Int)+(ai:Int)) * 1)) (Vs underlying35 sizeOf95 rfl rfl ec.1 ec.2 (af.addr ed))<|lW (af.atInt ed)<|go ?_;refine Zq hm (fun hb hm=>go ?_) fun hb hm=>?_
     ·exact ⟨rfl,_,1,hm,aa,af,rfl⟩
     refine Yl ?_;exact ⟨rfl,_,0,hm,aa,af,rfl⟩
   refine Yl ?_;exact ⟨a2,by omega,rfl,⟨_,_,_,_,rfl,hm,aa,h0,rfl⟩⟩
  refine Z0 ?_;refine Wp.cutK [0,1,5,7,8,1000000] (fun f co=>∃ cp cq,Zfe j0 n0 ac ab ad ap (Qn N j0 n0 ac ab a2) cq=some r∧St w0 (Xh [qc0] col) cp co∧Zb (Za.int .u32) 95 440 cp co a0 ae ac∧[74].map f=[.bool cq]) ?_ ?_
  ·intro f co hJ;obtain ⟨cp,cq,hm,aa,h0,hs⟩:=hJ;rw [Zfe.eq_1] at hm;refine .lL [74] hs ?_;refine Zq hm (fun hb hm=>?_) fun hb hm=>go ?_
   ·refine Yl ?_;exact ⟨rfl,_,hm,aa,h0⟩
   refine Z4 [0,1,5,7,87,88,1000000] (fun n f cr=>∃ cs an a5 ak al bc,n=bc.length∧ab.drop ak=bc∧Us j0 n0 ab ad bc ak an a5 al=some r∧St w0 (Xh [qc0] col) cs cr∧Zb (Za.int .u32) 95 440 cs cr a0 ae an∧an.length=ac.length∧an.length=ac.length∧[89,10,9].map f=[.int .i64 ak,.int .u64 a5,.int .u64 al]) ab.length ⟨_,_,0,0,0,_,rfl,rfl,hm,aa,h0,rfl,rfl,rfl⟩ ?_;clear hm;intro n f cr hI;obtain ⟨cs,an,a5,ak,al,bc,hn,hl,hm,aa,ah,ee,g4,hs⟩:=hI;subst hn;refine .lL [89,10,9] hs ?_
   cases bc with
   | nil=>
    have hk:¬ ((ak:Int)<(ab.length:Int)):=by have:=aH.1 hl;omega
    have hkb:=decide_eq_false hk;rw [Us.eq_1] at hm;refine go ?_;refine X2 (congrArg Value.bool hkb)<|go ?_;obtain ⟨ef,hm⟩:=Z8 hm;obtain ⟨g5,eg,hm⟩:=bZ hm;refine lV (Yh a0 (aA ((j0:Int)+(ab.length:Int)) * 1)) (Vs underlying35 sizeOf95 rfl rfl ef.1 ef.2 (ah.addr eg))<|lW (ah.atInt eg)<|go ?_;obtain ⟨eh,hm⟩:=Z8 hm;obtain ⟨ei,ej,hm⟩:=bZ hm;refine lV (Yh a0 (aA ((j0:Int)+(ab.length:Int)) * 1)) (Vs underlying35 sizeOf95 rfl rfl eh.1 eh.2 (ah.addr ej))<|lW (ah.atInt ej)<|go ?_;obtain ⟨ek,hm⟩:=Z8 hm;obtain ⟨g6,el,hm⟩:=bZ hm;refine lV (Yh a0 (aA ((j0:Int)+(ab.length:Int)) * 1)) (Vs underlying35 sizeOf95 rfl rfl ek.1 ek.2 (ah.addr el)) ?_;obtain ⟨ct,bp,hm⟩:=bZ hm;have bp:ct=an.set (aA ((j0:Int)+(ab.length:Int))) (u32.wrap (ei - (u32.wrap (u64.wrap (al+a5))))):=(Option.some.inj bp).symm;refine Wr (x1:=u32.wrap (ei - (u32.wrap (u64.wrap (al+a5))))) ah el ?_;intro g7 f2 f3 cu;rw [← bp] at cu;have cv:ct.length=ac.length:=(show an.length=ct.length by rw [bp,nS]).symm.trans ee;refine Zl<|Z0 ?_;replace aa:=aa.kp f2 f3;refine Wp.cutK [1000000] (fun f cw=>∃ cx cy bq,Zb4 cy bq=some r∧St w0 (Xh [qc0] col) cx cw∧Zb (Za.int .u32) 95 440 cx cw a0 ae bq∧bq.length=ac.length∧[7].map f=[.int .u64 cy]) ?_ ?_
    ·intro f cw hJ;obtain ⟨cx,cy,bq,hm,aa,f4,f5,hs⟩:=hJ;rw [Zb4.eq_1] at hm;refine .lL [7] hs<|go ?_;cases hm;exact ⟨rfl,_,rfl,aa.finL rfl (cm [(440,qc0)]),aa.foL f4,f5⟩
    refine go ?_;refine Zq hm (fun hb hm=>go ?_) fun hb hm=>?_
    ·refine Z4 [0,143,144,5,7,1000000] (fun n f cz=>∃ c0 aw ax ay bd,n=bd.length∧ab.drop ax=bd∧Sx j0 n0 ab ad bd ax aw ay=some r∧St w0 (Xh [qc0] col) c0 cz∧Zb (Za.int .u32) 95 440 c0 cz a0 ae aw∧aw.length=ac.length∧aw.length=ac.length∧[145,9].map f=[.int .i64 ax,.int .u64 ay]) ab.length ⟨_,_,0,0,_,rfl,rfl,hm,aa,cu,cv,cv,rfl⟩ ?_;clear hm;intro n f cz hI;obtain ⟨c0,aw,ax,ay,bd,hn,hl,hm,aa,a6,f6,f7,hs⟩:=hI;subst hn;refine .lL [145,9] hs ?_
     cases bd with
     | nil=>
      have hk:¬ ((ax:Int)<(ab.length:Int)):=by have:=aH.1 hl;omega
      have hkb:=decide_eq_false hk;rw [Sx.eq_1] at hm;refine go ?_;refine X2 (congrArg Value.bool hkb)<|go ?_;obtain ⟨em,hm⟩:=Z8 hm;obtain ⟨en,eo,hm⟩:=bZ hm;refine lV (Yh a0 (aA ((j0:Int)+(ab.length:Int)) * 1)) (Vs underlying35 sizeOf95 rfl rfl em.1 em.2 (a6.addr eo))<|lW (a6.atInt eo)<|go ?_;obtain ⟨ep,hm⟩:=Z8 hm;obtain ⟨g8,eq,hm⟩:=bZ hm;refine lV (Yh a0 (aA ((j0:Int)+(ab.length:Int)) * 1)) (Vs underlying35 sizeOf95 rfl rfl ep.1 ep.2 (a6.addr eq)) ?_;obtain ⟨c1,br,hm⟩:=bZ hm;have br:c1=aw.set (aA ((j0:Int)+(ab.length:Int))) (u32.wrap (en+(u32.wrap ay))):=(Option.some.inj br).symm;refine Wr (x1:=u32.wrap (en+(u32.wrap ay))) a6 eq ?_;intro g9 f8 f9 er;rw [← br] at er;have ga:c1.length=ac.length:=(show aw.length=c1.length by rw [br,nS]).symm.trans f7;refine Zl ?_;replace aa:=aa.kp f8 f9;exact ⟨rfl,_,_,_,hm,aa,er,ga,rfl⟩
     | cons bs gb=>
      obtain ⟨ag,gc,gd⟩:=Yd hl;have hk:(ax:Int)<(ab.length:Int):=by omega
      have hkb:=decide_eq_true hk;rw [Sx.eq_2] at hm;refine go ?_;refine X3 (congrArg Value.bool hkb)<|go ?_;refine lI ag ((h1.ks aa).addr ag)<|lW ((h1.ks aa).atInt ag) ?_;refine go ?_;obtain ⟨es,hm⟩:=Z8 hm;obtain ⟨bt,et,hm⟩:=bZ hm;refine lV (Yh a0 (aA ((j0:Int)+(ax:Int)) * 1)) (Vs underlying35 sizeOf95 rfl rfl es.1 es.2 (a6.addr et))<|lW (a6.atInt et)<|go ?_;obtain ⟨eu,hm⟩:=Z8 hm;obtain ⟨ha,ew,hm⟩:=bZ hm;refine lV (Yh a0 (aA ((j0:Int)+(ax:Int)) * 1)) (Vs underlying35 sizeOf95 rfl rfl eu.1 eu.2 (a6.addr ew)) ?_;obtain ⟨c2,bu,hm⟩:=bZ hm;have bu:c2=aw.set (aA ((j0:Int)+(ax:Int))) (u32.wrap (u64.wrap (ay+(u64.wrap ((u64.wrap bt)+(u64.wrap bs)))))):=(Option.some.inj bu).symm;refine Wr (x1:=u32.wrap (u64.wrap (ay+(u64.wrap ((u64.wrap bt)+(u64.wrap bs)))))) a6 ew ?_;intro hc ge gf ey;rw [← bu] at ey;have ez:c2.length=ac.length:=(show aw.length=c2.length by rw [bu,nS]).symm.trans f6;refine go ?_;refine lV (.int .u64 (Y6 .u64 (u64.wrap (ay+(u64.wrap ((u64.wrap bt)+(u64.wrap bs))))) 32)) (Zal (u64.wrap (ay+(u64.wrap ((u64.wrap bt)+(u64.wrap bs))))) 32 rfl rfl (by decide))<|go ?_;replace aa:=aa.kp ge gf;exact ⟨gb.length,by simp,rfl,⟨_,_,_,_,_,rfl,gc,hm,aa,ey,ez,ez,(Yg (congrArg (Value.int .i64) (Yb (aF gd (h1.ks aa).1.1))) rfl)⟩⟩
    refine Yl ?_;exact ⟨rfl,_,_,_,hm,aa,cu,cv,rfl⟩
   | cons az c3=>
    obtain ⟨ag,gg,gh⟩:=Yd hl;have hk:(ak:Int)<(ab.length:Int):=by omega
    have hkb:=decide_eq_true hk;rw [Us.eq_2] at hm;refine go ?_;refine X3 (congrArg Value.bool hkb)<|Yl<|Z0 ?_;refine Wp.cutK [0,1,5,7,87,88,89,1000000] (fun f c4=>∃ c5 be c6 c7,Zj8 ak (Us j0 n0 ab ad c3) be c6 c7=some r∧St w0 (Xh [qc0] col) c5 c4∧Zb (Za.int .u32) 95 440 c5 c4 a0 ae be∧be.length=ac.length∧be.length=ac.length∧[10,9].map f=[.int .u64 c6,.int .u64 c7]) ?_ ?_
    ·intro f c4 hJ;obtain ⟨c5,be,c6,c7,hm,aa,gi,gj,gk,hs⟩:=hJ;rw [Zj8.eq_1] at hm;refine .lL [10,9] hs<|go ?_;exact ⟨c3.length,by simp,rfl,⟨_,_,_,_,_,_,rfl,gg,hm,aa,gi,gj,gk,(Yg (congrArg (Value.int .i64) (Yb (aF gh (h1.ks aa).1.1))) rfl)⟩⟩
    refine go ?_;refine lI ag ((h1.ks aa).addr ag)<|lW ((h1.ks aa).atInt ag)<|Y7 rfl<|Y7 rfl<|Zl<|Z0<|Vd<|X1 rfl<|X1 rfl<|X1 rfl<|lV (.int .u64 (u64.wrap az)) (Zli az ⟨_,underlying95⟩ underlying149 rfl)<|lV _ (Zis _ _ rfl rfl)<|lV _ (Zai _ _ rfl rfl)<|Y7 rfl<|Zl<|Z0<|Vd<|X1 rfl<|lV (.int .u64 (Sb .u64 (u64.wrap (al+(u64.wrap (ad * (u64.wrap az))))) 4294967295)) (Zom (u64.wrap (al+(u64.wrap (ad * (u64.wrap az))))) 4294967295 rfl rfl)<|X1 rfl<|lV _ (Zai _ _ rfl rfl)<|Y7 rfl<|Zl<|Z0<|Vd<|Y7 rfl<|Zl<|Z0 ?_;refine Wp.cutK [0,1,11,13,5,7,87,88,89,9,1000000] (fun f c8=>∃ c9 da,Zff j0 n0 ad an a5 ak al (Us j0 n0 ab ad c3) az da=some r∧St w0 (Xh [qc0] col) c9 c8∧Zb (Za.int .u32) 95 440 c9 c8 a0 ae an∧[10].map f=[.int .u64 da]) ?_ ?_
    ·intro f c8 hJ;obtain ⟨c9,da,hm,aa,ah,hs⟩:=hJ;rw [Zff.eq_1] at hm;refine .lL [10] hs<|go ?_;obtain ⟨e0,hm⟩:=Z8 hm;obtain ⟨e1,e2,hm⟩:=bZ hm;refine lV (Yh a0 (aA ((j0:Int)+(ak:Int)) * 1)) (Vs underlying35 sizeOf95 rfl rfl e0.1 e0.2 (ah.addr e2))<|lW (ah.atInt e2)<|go ?_;obtain ⟨e3,hm⟩:=Z8 hm;obtain ⟨he,e4,hm⟩:=bZ hm;refine lV (Yh a0 (aA ((j0:Int)+(ak:Int)) * 1)) (Vs underlying35 sizeOf95 rfl rfl e3.1 e3.2 (ah.addr e4)) ?_;obtain ⟨db,bv,hm⟩:=bZ hm;have bv:db=an.set (aA ((j0:Int)+(ak:Int))) (u32.wrap (e1 - (u32.wrap (u64.wrap ((Sb .u64 (u64.wrap (al+(u64.wrap (ad * (u64.wrap az))))) 4294967295)+a5))))):=(Option.some.inj bv).symm;refine Wr (x1:=u32.wrap (e1 - (u32.wrap (u64.wrap ((Sb .u64 (u64.wrap (al+(u64.wrap (ad * (u64.wrap az))))) 4294967295)+a5))))) ah e4 ?_;intro hf gl gm e5;rw [← bv] at e5;have e6:db.length=ac.length:=(show an.length=db.length by rw [bv,nS]).symm.trans ee;refine go ?_;refine lV (.int .u64 (Y6 .u64 (u64.wrap (al+(u64.wrap (ad * (u64.wrap az))))) 32)) (Zal (u64.wrap (al+(u64.wrap (ad * (u64.wrap az))))) 32 rfl rfl (by decide))<|go ?_;replace aa:=aa.kp gl gm;exact ⟨rfl,_,_,_,_,hm,aa,e5,e6,e6,rfl⟩
    refine go ?_;obtain ⟨e7,hm⟩:=Z8 hm;obtain ⟨hg,e8,hm⟩:=bZ hm;refine lV (Yh a0 (aA ((j0:Int)+(ak:Int)) * 1)) (Vs underlying35 sizeOf95 rfl rfl e7.1 e7.2 (ah.addr e8))<|lW (ah.atInt e8)<|go ?_;refine Zq hm (fun hb hm=>go ?_) fun hb hm=>?_
    ·exact ⟨rfl,_,1,hm,aa,ah,rfl⟩
    refine Yl ?_;exact ⟨rfl,_,0,hm,aa,ah,rfl⟩
  refine V4 (col:=ao) (by kernel_rfl) (by kernel_rfl)<|go ?_;refine Yt hm (fun bw hm=>go ?_) fun bw hm=>go ?_
  ·refine Uv 54 rfl rfl rfl rfl<|Uv 54 rfl rfl rfl rfl<|Uv 54 rfl rfl rfl rfl<|Uv 54 rfl rfl rfl rfl<|Uv 54 rfl rfl rfl rfl<|Uv 54 rfl rfl rfl rfl<|Uv 54 rfl rfl rfl rfl<|Uv 54 rfl rfl rfl rfl<|Uv 54 rfl rfl rfl rfl<|Uv 54 rfl rfl rfl rfl<|Uv 54 rfl rfl rfl rfl<|Uv 54 rfl rfl rfl rfl<|Uv 54 rfl rfl rfl rfl<|Uv 54 rfl rfl rfl rfl<|Uv 54 rfl rfl rfl rfl<|Uv 54 rfl rfl rfl rfl<|Uv 54 rfl rfl rfl rfl<|Uv 54 rfl rfl rfl rfl<|go ?_;refine qv (v:=(.bool true)) rfl (fun _ hC=>Yf (congrArg Value.bool bw) rfl) ?_;refine Vc ?_;intro hh hC;replace hC:=hC.bl ao;replace h0:=h0.gr hC;replace aa:=aa.grow hC;exact ⟨rfl,_,_,hm,aa,h0,rfl⟩
  refine Yt hm (fun dc hm=>go ?_) fun dc hm=>go ?_
  ·obtain ⟨e9,dd,hm⟩:=bZ hm;refine qI dd ((h1.ks aa).addr dd) ?_;refine go ?_;refine qW (fun _ hC=>((h1.ks aa).gr (hC.bl ao)).atInt dd) ?_;refine go ?_;refine qv (v:=(.int .u64 (Yi .u64 ap 32))) rfl (fun _ hC=>Ziv ap 32 rfl rfl (by decide)) ?_;refine go ?_;obtain ⟨fa,hm⟩:=Z8 hm;obtain ⟨fb,fc,hm⟩:=bZ hm;refine qv (v:=(Yh a0 (aA ((j0:Int)+(i64.wrap ((ab.length:Int) - 2))) * 1))) rfl (fun _ hC=>Vs underlying35 sizeOf95 rfl rfl fa.1 fa.2 (h0.addr fc)) ?_;refine go ?_;refine qW (fun _ hC=>(h0.gr (hC.bl ao)).atInt fc) ?_;refine go ?_;refine qv (v:=(.bool (decide ((Wg .u64 (Yi .u64 ap 32) (u64.wrap fb))<(u64.wrap (ad * (u64.wrap e9))))))) rfl (fun _ hC=>Yf (congrArg Value.bool dc) rfl) ?_;refine qv (v:=(.bool (decide ((Wg .u64 (Yi .u64 ap 32) (u64.wrap fb))<(u64.wrap (ad * (u64.wrap e9))))))) rfl (fun _ hC=>X8 (congrArg Value.bool bw) rfl) ?_;refine Vc ?_;intro hi hC;replace hC:=hC.bl ao;replace h0:=h0.gr hC;replace aa:=aa.grow hC;exact ⟨rfl,_,_,hm,aa,h0,rfl⟩
  refine qv (v:=(.bool false)) rfl (fun _ hC=>X8 (congrArg Value.bool dc) rfl) ?_;refine qv (v:=(.bool false)) rfl (fun _ hC=>X8 (congrArg Value.bool bw) rfl) ?_;refine Vc ?_;intro hj hC;replace hC:=hC.bl ao;replace h0:=h0.gr hC;replace aa:=aa.grow hC;exact ⟨rfl,_,_,hm,aa,h0,rfl⟩
def Zmx (aa:Int) (kk_L2:(List Int→Int→Option Ra)) (ab:List Int):Option Ra:=
  kk_L2 ab (i64.wrap (aa+1))
def Zhp (ab:Int) (ac:List Int) (aa:Int) (kk_L2:(List Int→Int→Option Ra)) (ad:Int):Option Ra:=
  (Zm ac aa).bind fun ae=>Z2 (0≤ab) ((some (ac.set (aA aa) (u32.wrap (Y6 .u64 (Wg .u64 (Yi .u64 (u64.wrap ad) 32) (u64.wrap ae)) ab)))).bind fun af=>Zmx aa kk_L2 af)
def Qm (N:Nat) (ac:Int) (ad:List Int) (ae:List Int):Nat→R2→Int→Option Ra
  | 0,_,_=>none
  | af+1,aa,ab=>if (decide (ab<(ae.length:Int)))=true then (if (decide ((i64.wrap (ab+1))<(aa.length:Int)))=true then ((Zm aa (i64.wrap (ab+1))).bind fun ag=>Zhp ac aa ab (Qm N ac ad ae af) ag) else (Zhp ac aa ab (Qm N ac ad ae af) 0)) else ((Tb N ad).bind fun ah=>(Tb N aa).bind fun ai=>some (ah,ai,0))
termination_by structural x=>x
def Zfc (N:Nat) (ae:Int) (ab:List Int):Nat→R2→R2→Int→Option Ra
  | 0,_,_,_=>none
  | ah+1,ac,ad,aa=>if (decide (0≤aa))=true then (Z2 ((0:Int)≤aa∧aa<(i64.wrap ((i64.wrap (aa+(ab.length:Int)))+1))∧(i64.wrap ((i64.wrap (aa+(ab.length:Int)))+1))≤(ac.length:Int)) ((Zhr N (aA aa) ((aA (i64.wrap ((i64.wrap (aa+(ab.length:Int)))+1))) - (aA aa)) ac ab).bind fun af=>(Zm ad aa).bind fun aj=>(some (ad.set (aA aa) af.1)).bind fun ai=>(Zfc N ae ab ah) af.2 ai (i64.wrap (aa - 1)))) else ((Zfh N ac).bind fun ag=>Qm N ae ad ag N ag 0)
termination_by structural x=>x
def Zfb (N:Nat) (ae:List Int) (af:List Int):Option Ra:=
  (Tc N ae).bind fun ab=>(Tc N af).bind fun aa=>if (decide ((aa.length:Int)=0))=true then (some (([]:List Int),([]:List Int),11)) else ((Ze9 N ab aa).bind fun ag=>if (decide (ag<0))=true then ((Tb N ab).bind fun ah=>some (([]:List Int),ah,0)) else (if (decide ((aa.length:Int)=1))=true then ((Zfu ab).bind fun ai=>(Zm aa 0).bind fun aj=>(Zj9 N ai aj).bind fun ad=>(Tb N ad.2).bind fun ak=>(Tb N [ad.1]).bind fun al=>some (ak,al,0)) else ((Zm aa (i64.wrap ((aa.length:Int) - 1))).bind fun am=>(Zjy am).bind fun ac=>(Zhs ab ac).bind fun an=>(Zhs aa ac).bind fun ao=>(Zfh N ao).bind fun ap=>Z2 ((aA (i64.wrap ((i64.wrap ((ab.length:Int) - (aa.length:Int)))+1))) * 4≤281474976710656∧(aA (i64.wrap ((i64.wrap ((ab.length:Int) - (aa.length:Int)))+1)))≤maxLen∧0≤(i64.wrap ((i64.wrap ((ab.length:Int) - (aa.length:Int)))+1))) (Zfc N ac ap N an (aM (aA (i64.wrap ((i64.wrap ((ab.length:Int) - (aa.length:Int)))+1))) (0:Int)) (i64.wrap (((aM (aA (i64.wrap ((i64.wrap ((ab.length:Int) - (aa.length:Int)))+1))) (0:Int)).length:Int) - 1))))))
theorem Zpt {N bu bv:Nat} {a0 a1:Option Addr} {col:Ze} {w0:World} {be bf:R2} {r:Ra} (c1 c2:Nat) (hm:Zfb N be bf=some r) (h0:Sl (Za.int .u32) col w0 a0 bu be) (h1:Sl (Za.int .u32) col w0 a1 bv bf):
    Calls prog 152 #[.slice a0 be.length bu,.slice a1 bf.length bv] w0 (fun e w'=>∃ (col':Ze) (ra1:Option Addr) (rc2:Nat) (ra4:Option Addr) (rc5:Nat),e= .returned (.tuple #[.slice ra1 r.1.length rc2,.slice ra4 r.2.1.length rc5,.int .i64 r.2.2])∧Zh col w0 col' w'∧Zb (Za.int .u32) 95 c1 col' w' ra1 rc2 r.1∧Zb (Za.int .u32) 95 c2 col' w' ra4 rc5 r.2.1):=by
 refine Z5d 4 5 6 (m:=122) (args:=[.slice a0 be.length bu,.slice a1 bf.length bv]) func152 rfl rfl rfl rfl rfl ?_;rw [Zfb.eq_1] at hm;have aa:=St.start col w0;refine go ?_;obtain ⟨cx,cy,hm⟩:=bZ hm;replace h0:=h0.keep (Zi.start col w0);refine Zj (Qb cy (h0.ks aa)) ?_;rintro _ eb ⟨ec,ed,ee,rfl,cz,af⟩;refine ⟨_,rfl,?_⟩;refine Y2 rfl ?_;obtain ⟨c0,c3,hm⟩:=bZ hm;replace h1:=h1.keep (Zi.start col w0);replace aa:=aa.grow cz;refine Zj (Qb c3 (h1.ks aa)) ?_;rintro _ c4 ⟨ay,ef,eg,rfl,cj,ac⟩;refine ⟨_,rfl,go ?_⟩;replace af:=af.gr cj;replace aa:=aa.grow cj;refine Zq hm (fun hb hm=>go ?_) fun hb hm=>go ?_
 ·cases hm;exact ⟨rfl,_,none,0,none,0,rfl,aa.fin (cm []),Zb.nil,Zb.nil⟩
 obtain ⟨eh,c5,hm⟩:=bZ hm;refine Zj (Zps c5 af ac) ?_;rintro _ ck ⟨rfl,az⟩;refine ⟨_,rfl,?_⟩;replace az:Zh ay c4 ay ck:=.of_below az;refine go ?_;replace af:=af.gr az;replace ac:=ac.gr az;replace aa:=aa.grow az;refine Zq hm (fun hb hm=>go ?_) fun hb hm=>go ?_
 ·obtain ⟨ei,c6,hm⟩:=bZ hm;refine Zj (Qa 1 c6 af) ?_;rintro _ ej ⟨ek,el,em,rfl,c7,c8⟩;refine ⟨_,rfl,go ?_⟩;cases hm;replace aa:=aa.grow c7;exact ⟨rfl,_,none,0,_,_,rfl,aa.fin (cm [(1,c2)]),Zb.nil,aa.fo c8⟩
 refine Zq hm (fun hb hm=>go ?_) fun hb hm=>go ?_
 ·obtain ⟨cl,c9,hm⟩:=bZ hm;refine Zj (Zpw 2 c9 af) ?_;rintro _ en ⟨eo,bg,bh,rfl,cn,da⟩;refine ⟨_,rfl,go ?_⟩;obtain ⟨ep,bw,hm⟩:=bZ hm;replace ac:=ac.gr cn;refine lI bw (ac.addr bw)<|lW (ac.atInt bw) ?_;obtain ⟨a2,db,hm⟩:=bZ hm;refine Zj (Z4a 2 db rfl da) ?_;rintro _ dc ⟨bx,rfl,dd,de,co⟩;refine ⟨_,rfl,?_⟩;refine .ld (d:=7) (v:=(.slice bg a2.2.length bh)) (congrArg (fun n=>Value.slice bg n bh) (show cl.length=a2.2.length from co.symm)) ?_;refine .ld (d:=34) (v:=(.slice bg a2.2.length bh)) (congrArg (fun n=>Value.slice bg n bh) (show cl.length=a2.2.length from co.symm)) ?_;refine go ?_;obtain ⟨eq,df,hm⟩:=bZ hm;refine Zj (Qa 3 df (de.toSlF (Zd.int .u32))) ?_;rintro _ er ⟨dg,es,et,rfl,bi,a3⟩;refine ⟨_,rfl,?_⟩;replace a3:=a3.thaw (Z7 .u32) bi ((Fz.refl (col:=bx)).froz 2) (by decide);replace bi:=bi.thawR (col:=bx);generalize Xj dc.heap.size bx dg=dh at *;refine X1 rfl<|V7 (col:=dh) [a2.1] 4 ?_;intro eu di bz cp dj;obtain ⟨ew,dl,hm⟩:=bZ hm;refine Zj (Qa 5 dl (dj.toSlF (Zd.int .u32))) ?_;rintro _ ey ⟨dm,ez,e0,rfl,a4,b0⟩;refine ⟨_,rfl,?_⟩;replace b0:=b0.thaw (Z7 .u32) a4 ((Fz.refl (col:=bz)).froz 4) (by decide);replace a4:=a4.thawR (col:=bz);generalize Xj di.heap.size bz dm=e1 at *;refine go ?_;cases hm;replace aa:=((((aa.grow cn).kpp dd).grow bi).grow cp).grow a4;replace a3:=(a3.gr cp).gr a4;exact ⟨rfl,_,_,_,_,_,rfl,aa.fin (cm [(3,c1),(5,c2)]),aa.fo a3,aa.fo b0⟩
 obtain ⟨e2,b1,hm⟩:=bZ hm;refine lI b1 (ac.addr b1)<|lW (ac.atInt b1) ?_;obtain ⟨ah,dn,hm⟩:=bZ hm;refine Zj (Z3x (col:=ay) dn) ?_;rintro _ dp ⟨rfl,a5⟩;refine ⟨_,rfl,?_⟩;replace a5:Zh ay ck ay dp:=.of_below a5;refine go ?_;obtain ⟨e3,dq,hm⟩:=bZ hm;replace af:=af.gr a5;refine Zj (Zt8 6 dq af) ?_;rintro _ e4 ⟨e5,e6,e7,rfl,cq,a6⟩;refine ⟨_,rfl,go ?_⟩;obtain ⟨e8,dr,hm⟩:=bZ hm;replace ac:=(ac.gr a5).gr cq;refine Zj (Zt8 7 dr ac) ?_;rintro _ e9 ⟨fa,fb,fc,rfl,cr,ds⟩;refine ⟨_,rfl,?_⟩;obtain ⟨b2,dt,hm⟩:=bZ hm;refine Zj (Zt9 7 dt rfl ds) ?_;rintro _ du ⟨dv,dw,dx,rfl,cs,ag⟩;refine ⟨_,rfl,go ?_⟩;obtain ⟨bj,hm⟩:=Z8 hm;refine Q3 (col:=dv) (w:=du) (r:=(Za.int .u32)) (n:=(aA (i64.wrap ((i64.wrap ((cx.length:Int) - (c0.length:Int)))+1)))) (x0:=0) 8 rfl underlying35 Tryz.t95 rfl rfl rfl rfl rfl (congrArg (Value.int _) (bM bj.2.2).symm) (congrArg (Value.int _) (bM bj.2.2).symm) bj.1 bj.2.1 (Zd9 .u32 0) ?_;intro fd fe ff b3 b4;refine go ?_;replace a6:=((a6.gr cr).kpp cs).gr b3;replace a6:=a6.froz 7 (by decide);replace ag:=ag.gr b3;replace ag:=(ag).toSlF (Zd.int .u32);replace b4:=b4.froz 7 (by decide);replace aa:=((((aa.grow a5).grow cq).grow cr).kpp cs).grow b3;replace aa:=aa.froz 7 (by decide) (by decide);refine Z4 [11,9,1000000] (fun n f a7=>∃ a8 ap aq a9 aj ak ad al ar,ar=n∧Zfc N ah b2 ar a9 ad al=some r∧St w0 (Zk col) a8 a7∧Zb (Za.int .u32) 95 6 a8 a7 ap aq a9∧Sl (Za.int .u32) a8 a7 dw dx b2∧Zb (Za.int .u32) 95 8 a8 a7 aj ak ad∧[10,12,13].map f=[.slice ap a9.length aq,.slice aj ad.length ak,.int .i64 al]) N ⟨_,_,_,_,_,_,_,_,_,rfl,hm,aa,a6,ag,b4,rfl⟩ ?_;clear hm;intro n f a7 hI;obtain ⟨a8,ap,aq,a9,aj,ak,ad,al,ar,hn,hm,aa,b5,ag,ab,hs⟩:=hI;subst hn;refine .lL [10,12,13] hs ?_
 cases ar with
 | zero=>rw [Zfc.eq_1] at hm;cases hm
 | succ ar=>
  rw [Zfc.eq_2] at hm;refine go ?_;refine Zq hm (fun hb hm=>go ?_) fun hb hm=>go ?_
  ·obtain ⟨b6,hm⟩:=Z8 hm;refine lV (.slice (ap.map (·.add ((aA al) * 1))) ((aA (i64.wrap ((i64.wrap (al+(b2.length:Int)))+1))) - (aA al)) (aq - (aA al))) (Z9e underlying35 sizeOf95 rfl rfl rfl b6.1 b6.2.1 (by have:=b5.lecap;have:=b6.2.2;omega))<|Y2 rfl ?_;obtain ⟨bk,dy,hm⟩:=bZ hm;refine Zj (Z38 6 dy rfl b5 ag) ?_;rintro _ fg ⟨fh,rfl,b7,b8,dz⟩;refine ⟨_,rfl,?_⟩;refine .ld (d:=10) (v:=(.slice ap bk.2.length aq)) (congrArg (fun n=>Value.slice ap n aq) (show a9.length=bk.2.length from dz.symm)) ?_;obtain ⟨fi,b9,hm⟩:=bZ hm;replace ab:=ab.kpp b7;refine lI b9 (ab.addr b9) ?_;obtain ⟨ca,bm,hm⟩:=bZ hm;have bm:ca=ad.set (aA al) bk.1:=(Option.some.inj bm).symm;refine Wr (x1:=bk.1) ab b9 ?_;intro fj cb d0 ct;rw [← bm] at ct;refine .ld (d:=12) (v:=(.slice aj ca.length ak)) (congrArg (fun n=>Value.slice aj n ak) (show ad.length=ca.length by rw [bm,nS])) ?_;refine go ?_;replace ag:=(ag.kpp b7).kp cb;replace aa:=(aa.kpp b7).kp cb d0;replace b8:=b8.kp cb;exact ⟨ar,by omega,rfl,⟨_,_,_,_,_,_,_,_,_,rfl,hm,aa,b8,ag,ct,rfl⟩⟩
  obtain ⟨cc,d1,hm⟩:=bZ hm;refine Zj (Zt9 6 d1 rfl b5) ?_;rintro _ fk ⟨fl,fm,fn,rfl,cu,d2⟩;refine ⟨_,rfl,go ?_⟩;replace ab:=ab.kpp cu;replace aa:=aa.kpp cu;refine Z4 [12,88,9,1000000] (fun n f ba=>∃ ao au av am aw an,an=n∧Qm N ah ad cc an am aw=some r∧St w0 (Zk col) ao ba∧Zb (Za.int .u32) 95 6 ao ba au av am∧Zb (Za.int .u32) 95 8 ao ba aj ak ad∧[10,89].map f=[.slice au am.length av,.int .i64 aw]) N ⟨_,_,_,_,0,_,rfl,hm,aa,d2,ab,rfl⟩ ?_;clear hm;intro n f ba hI;obtain ⟨ao,au,av,am,aw,an,hn,hm,aa,ae,ab,hs⟩:=hI;subst hn;refine .lL [10,89] hs ?_
  cases an with
  | zero=>rw [Qm.eq_1] at hm;cases hm
  | succ an=>
   rw [Qm.eq_2] at hm;refine go ?_;refine Zq hm (fun hb hm=>?_) fun hb hm=>go ?_
   ·refine Yl<|Z0 ?_;refine Wp.cutK [12,88,89,9,1000000] (fun f bn=>∃ bo cd ce bp,Zmx aw (Qm N ah ad cc an) bp=some r∧St w0 (Zk col) bo bn∧Zb (Za.int .u32) 95 6 bo bn cd ce bp∧Zb (Za.int .u32) 95 8 bo bn aj ak ad∧[10].map f=[.slice cd bp.length ce]) ?_ ?_
    ·intro f bn hJ;obtain ⟨bo,cd,ce,bp,hm,aa,d3,ab,hs⟩:=hJ;rw [Zmx.eq_1] at hm;refine .lL [10] hs<|go ?_;exact ⟨an,by omega,rfl,⟨_,_,_,_,_,_,rfl,hm,aa,d3,ab,rfl⟩⟩
    refine Zef<|Z0<|Vd<|X1 rfl<|Y7 rfl<|Zl<|Z0<|Vd<|Y7 rfl<|Zl<|Z0 ?_;refine Wp.cutK [10,12,14,88,89,9,1000000] (fun f bq=>∃ br ai,Zhp ah am aw (Qm N ah ad cc an) ai=some r∧St w0 (Zk col) br bq∧Zb (Za.int .u32) 95 6 br bq au av am∧Zb (Za.int .u32) 95 8 br bq aj ak ad∧[15].map f=[.int .u32 ai]) ?_ ?_
    ·intro f bq hJ;obtain ⟨br,ai,hm,aa,ae,ab,hs⟩:=hJ;rw [Zhp.eq_1] at hm;refine .lL [15] hs<|go ?_;refine lV (.int .u64 (Yi .u64 (u64.wrap ai) 32)) (Ziv (u64.wrap ai) 32 rfl rfl (by decide))<|go ?_;obtain ⟨bs,ax,hm⟩:=bZ hm;refine lI ax (ae.addr ax)<|lW (ae.atInt ax) ?_;refine go ?_;obtain ⟨d4,hm⟩:=Z8 hm;refine lV (.int .u64 (Y6 .u64 (Wg .u64 (Yi .u64 (u64.wrap ai) 32) (u64.wrap bs)) ah)) (Zal (Wg .u64 (Yi .u64 (u64.wrap ai) 32) (u64.wrap bs)) ah rfl rfl d4)<|go ?_;refine lI ax (ae.addr ax) ?_;obtain ⟨cf,bt,hm⟩:=bZ hm;have bt:cf=am.set (aA aw) (u32.wrap (Y6 .u64 (Wg .u64 (Yi .u64 (u64.wrap ai) 32) (u64.wrap bs)) ah)):=(Option.some.inj bt).symm;refine Wr (x1:=u32.wrap (Y6 .u64 (Wg .u64 (Yi .u64 (u64.wrap ai) 32) (u64.wrap bs)) ah)) ae ax ?_;intro fp cv d5 cw;rw [← bt] at cw;refine .ld (d:=10) (v:=(.slice au cf.length av)) (congrArg (fun n=>Value.slice au n av) (show am.length=cf.length by rw [bt,nS])) ?_;refine Zl ?_;replace ab:=ab.kp cv;replace aa:=aa.kp cv d5;exact ⟨rfl,_,_,_,_,hm,aa,cw,ab,rfl⟩
    refine go ?_;refine Zq hm (fun hb hm=>go ?_) fun hb hm=>?_
    ·obtain ⟨fq,cg,hm⟩:=bZ hm;refine lI cg (ae.addr cg)<|lW (ae.atInt cg) ?_;refine go ?_;exact ⟨rfl,_,_,hm,aa,ae,ab,rfl⟩
    refine Yl ?_;exact ⟨rfl,_,0,hm,aa,ae,ab,rfl⟩
   obtain ⟨fr,d6,hm⟩:=bZ hm;refine Zj (Qa 9 d6 (ab.toSlF (Zd.int .u32))) ?_;rintro _ d7 ⟨d8,ft,fu,rfl,bb,bc⟩;refine ⟨_,rfl,?_⟩;replace bc:=bc.thaw (Z7 .u32) bb ((Fz.refl (col:=ao)).froz 8) (by decide);replace bb:=bb.thawR (col:=ao);generalize Xj ba.heap.size ao d8=ch at *;refine Y2 rfl ?_;obtain ⟨fv,d9,hm⟩:=bZ hm;replace ae:=ae.gr bb;refine Zj (Qa 10 d9 (ae.toSlF (Zd.int .u32))) ?_;rintro _ fw ⟨ea,fx,fy,rfl,bd,ci⟩;refine ⟨_,rfl,?_⟩;replace ci:=ci.thaw (Z7 .u32) bd ((Fz.refl (col:=ch)).froz 6) (by decide);replace bd:=bd.thawR (col:=ch);generalize Xj d7.heap.size ch ea=fz at *;refine go ?_;cases hm;replace aa:=(aa.grow bb).grow bd;replace bc:=bc.gr bd;exact ⟨rfl,_,_,_,_,_,rfl,aa.fin (cm [(9,c1),(10,c2)]),aa.fo bc,aa.fo ci⟩
def Zj3 (N:Nat) (ab:List Int):Option Int:=
  (Tc N ab).bind fun aa=>if (decide ((aa.length:Int)=0))=true then (some 0) else ((Zm aa (i64.wrap ((aa.length:Int) - 1))).bind fun ac=>(Zhe ac).bind fun ad=>some (i64.wrap ((i64.wrap (32 * (i64.wrap ((aa.length:Int) - 1))))+ad)))
theorem Z36 {N af:Nat} {a0:Option Addr} {col:Ze} {w0:World} {ab:R2} {r:Int} (hm:Zj3 N ab=some r) (h0:Sl (Za.int .u32) col w0 a0 af ab):
    Calls prog 64 #[.slice a0 ab.length af] w0 (fun e w'=>e= .returned ((.int .i64 r))∧Below w0.heap.size w0 w'):=by
 refine Xl 2 (m:=20) func64 rfl rfl rfl rfl rfl ?_;rw [Zj3.eq_1] at hm;have aa:=St.start col w0;refine go ?_;obtain ⟨am,ah,hm⟩:=bZ hm;replace h0:=h0.keep (Zi.start col w0);refine Zj (Qb ah (h0.ks aa)) ?_;rintro _ ai ⟨ac,an,ao,rfl,aj,ag⟩;refine ⟨_,rfl,go ?_⟩;replace aa:=aa.grow aj;refine Zq hm (fun hb hm=>go ?_) fun hb hm=>go ?_
 ·cases hm;exact ⟨rfl,rfl,aa.below⟩
 obtain ⟨ap,ad,hm⟩:=bZ hm;refine lI ad (ag.addr ad)<|lW (ag.atInt ad) ?_;obtain ⟨aq,ak,hm⟩:=bZ hm;refine Zj (Zt4 (col:=ac) ak) ?_;rintro _ al ⟨rfl,ae⟩;refine ⟨_,rfl,?_⟩;replace ae:Zh ac ai ac al:=.of_below ae;refine go ?_;cases hm;replace aa:=aa.grow ae;exact ⟨rfl,rfl,aa.below⟩
def Xg (n:Nat):Nat:=if n=0 then 0 else n.log2+1
theorem Zgd:Xg 0=0:=rfl
theorem Ztq {n k:Nat} (h:2 ^ k≤n) (h2:n<2 ^ (k+1)):Xg n=k+1:=by
 have a:n≠0:=by have:=cL k;omega
 rw [Xg,if_neg a,(kV a).2 ⟨h,h2⟩]
theorem Zl4 {n:Nat} (h:n≠0):∃ k,Xg n=k+1∧2 ^ k≤n∧n<2 ^ (k+1):=by
 refine ⟨n.log2,by rw [Xg,if_neg h],?_⟩
 exact (kV h).1 rfl
theorem Ud {n k:Nat}:Xg n≤k↔n<2 ^ k:=by
 by_cases h:n=0
 ·subst h;simp [Zgd,cL]
 ·obtain ⟨j,e,c,d⟩:=Zl4 h
  rw [e]
  constructor
  ·intro b;exact aF d (gZ (by decide) b)
  ·intro b
   have:=(Nat.pow_lt_pow_iff_right (a:=2) (by decide)).1 (eS c b)
   omega
theorem Zi9 (n k:Nat):Xg (n / 2 ^ k)=Xg n - k:=by
 by_cases h:n / 2 ^ k=0
 ·have a:n<2 ^ k:=by
   have:=cL k
   rcases Nat.div_eq_zero_iff.1 h with h | h
   ·omega
   ·exact h
  have:=Ud.2 a
  rw [h,Zgd];omega
 ·obtain ⟨j,e,a,c⟩:=Zl4 h
  have b:=cL k
  have d:2 ^ (j+k)≤n:=by
   rw [dK]
   exact (gU b).1 a
  have f:n<2 ^ (j+k+1):=by
   have:=(eK b).1 c
   rw [show j+k+1=(j+1)+k by omega,dK];exact this
  rw [e,Ztq d f];omega
theorem Z7f:∀ x:Fin 256,Ze4 (x.val:Int) 0=some ((Xg x.val:Nat):Int):=by decide+kernel
theorem Zw2 {x:Nat} (h:x<256) {n:Int} (hn:0≤n∧n≤24):Ze4 (x:Int) n=some (n+(Xg x:Int)):=by
 have a:=Z7f ⟨x,h⟩
 have c:Xg x≤8:=Ud.2 h
 rw [Ze4] at a ⊢
 revert a
 generalize Zl0 _ _=o
 intro a
 cases o with
 | none=>cases a
 | some e=>
  rw [oB] at a ⊢
  have b:=Option.some.inj a
  rw [IntKind.wrap_i64,IntKind.wrap_i64] at b ⊢
  congr 1
  simp only at b
  omega
theorem Zot (i:IntKind) (x k:Nat) (hk:k≤i.bits):Y6 i (x:Int) (k:Int)=((x / 2 ^ k:Nat):Int):=by
 rw [Y6,aD,bB hk,iX _ (Int.le_of_lt (Int.pow_pos (by decide)))]
 norm_cast
theorem Zw0 {x:Nat} (h:x<4294967296):Zhe (x:Int)=some ((Xg x:Nat):Int):=by
 have b:∀ (y:Nat) (n:Int),y<65536→0≤n∧n≤16→Zhf (y:Int) n=some (n+(Xg y:Int)):=fun y n d f=>by
  rw [Zhf]
  by_cases h1:256≤y
  ·have e:=Zot .u32 y 8 (by decide)
   have a:=Zi9 y 8
   have c:8≤Xg y:=by
    have:¬ Xg y≤7:=fun h=>by have:=Ud.1 h;omega
    omega
   rw [if_pos (by simp;omega),show (8:Int)=((8:Nat):Int) from rfl,e,Zw2 (by omega) (by rw [Zv (by omega)];omega),Zv (by omega),a]
   congr 1;omega
  ·rw [if_neg (by simp;omega),Zw2 (by omega) (by omega)]
 rw [Zhe]
 by_cases h1:65536≤x
 ·have e:=Zot .u32 x 16 (by decide)
  have a:=Zi9 x 16
  have c:16≤Xg x:=by
   have:¬ Xg x≤15:=fun h=>by have:=Ud.1 h;omega
   omega
  rw [if_pos (by simp;omega),show (16:Int)=((16:Nat):Int) from rfl,e,b _ _ (by omega) (by omega),a]
  congr 1;omega
 ·rw [if_neg (by simp;omega),b _ _ (by omega) (by omega)]
  congr 1;omega
theorem Zts {a:List Int} {x:Int} (ha:Zn a) (hx:0<x∧x<4294967296):Xg (Zc (a++[x]))=32 * a.length+Xg x.toNat:=by
 obtain ⟨k,e,d,g⟩:=Zl4 (show x.toNat≠0 by omega)
 have f:=Qt ha
 have c:Zc (a++[x])=Zc a+4294967296 ^ a.length * x.toNat:=by rw [Qs,Wo,Yz];simp
 have b:(4294967296:Nat) ^ a.length=2 ^ (32 * a.length):=by rw [show (4294967296:Nat)=2 ^ 32 by decide,← Nat.pow_mul]
 rw [e]
 have:=Ztq (n:=Zc (a++[x])) (k:=32 * a.length+k) (by
   rw [c,b,dK]
   have:=aR (2 ^ (32 * a.length)) d
   omega) (by
   rw [c,show 32 * a.length+k+1=32 * a.length+(k+1) by omega,dK,b]
   have:=aR (2 ^ (32 * a.length)) (show x.toNat+1≤2 ^ (k+1) by omega)
   rw [dZ] at this
   rw [b] at f
   omega)
 rw [this];omega
theorem Zl2 (n:Nat):32 * ((Zg n).length - 1)≤Xg n∧Xg n≤32 * (Zg n).length:=by
 have e:∀ k,(4294967296:Nat) ^ k=2 ^ (32 * k):=fun k=>by rw [show (4294967296:Nat)=2 ^ 32 by decide,← Nat.pow_mul]
 constructor
 ·by_cases h:32 * ((Zg n).length - 1)≤Xg n
  ·exact h
  ·exfalso
   have a:=Ud.1 (show Xg n≤32 * ((Zg n).length - 1) by omega)
   rw [← e] at a
   have:=W0.2 a
   omega
 ·have:=W0.1 (aY (Zg n).length)
  rw [e] at this
  exact Ud.2 this
theorem Z3d {N:Nat} {a:List Int} (h:Zn a) (hn:a.length<N) (hb:a.length≤35184372088000):Zj3 N a=some ((Xg (Zc a):Nat):Int):=by
 have i:=Yq h
 rw [Zj3,Qy h hn hb,oB]
 by_cases h0:(Zg (Zc a)).length=0
 ·have:Zc a=0:=Zgs.1 (dB h0)
  rw [if_pos (by simp [h0]),this,Zgd];rfl
 ·have b:0<(Zg (Zc a)).length:=by omega
  have e:((Zg (Zc a)).length:Int) - 1=(((Zg (Zc a)).length - 1:Nat):Int):=by omega
  have j:=(Xf (Zc a)).get (k:=(Zg (Zc a)).length - 1) (by omega)
  have f:=Zmp b
  have c:=Zgp b
  have d:(Zg (Zc a))[(Zg (Zc a)).length - 1]=(((Zg (Zc a))[(Zg (Zc a)).length - 1]).toNat:Int):=by omega
  rw [if_neg (by simpa using h0),Zv (by omega),e,Z1 (by omega),oB,d,Zw0 (by omega),oB]
  have hb:=Zts (a:=(Zg (Zc a)).take ((Zg (Zc a)).length - 1)) (x:=(Zg (Zc a))[(Zg (Zc a)).length - 1]) ((Xf _).take _) (by omega)
  rw [c,Xc,nK,bB (by omega)] at hb
  have g:Xg ((Zg (Zc a))[(Zg (Zc a)).length - 1]).toNat≤32:=Ud.2 (by omega)
  rw [Zv (x:=32 * _) (by omega),Zv (by omega),hb]
  congr 1
theorem Zge (w x:Nat) (h:x<2 ^ w):(BitVec.ofInt w (x:Int)).toNat=x:=by
 rw [BitVec.toNat_ofInt]
 have:((2 ^ w:Nat):Int)=(2:Int) ^ w:=by norm_cast
 rw [← kQ,aD,eZ h]
theorem or64 (k a b:Nat) (h:b<2 ^ k) (hs:2 ^ k * a+b<18446744073709551616):Wg .u64 ((2 ^ k * a:Nat):Int) (b:Int)=((2 ^ k * a+b:Nat):Int):=by
 rw [Wg,BitVec.toNat_or,Zge _ _ (by simp only [IntKind.bits];omega),Zge _ _ (by simp only [IntKind.bits];omega),← iQ h,IntKind.wrap_u64]
 omega
theorem or32 (k a b:Nat) (h:b<2 ^ k) (hs:2 ^ k * a+b<4294967296):Wg .u32 (b:Int) ((2 ^ k * a:Nat):Int)=((2 ^ k * a+b:Nat):Int):=by
 rw [Wg,BitVec.toNat_or,Zge _ _ (by simp only [IntKind.bits];omega),Zge _ _ (by simp only [IntKind.bits];omega),Nat.or_comm,← iQ h,IntKind.wrap_u32]
 omega
theorem Z94 {x:Int} (h:0≤x∧x<4294967296):Yi .u64 x 32=x * 4294967296:=by
 have:(min (32:Int).toNat u64.bits)=32:=by decide
 rw [Yi,this,IntKind.wrap_u64]
 omega
theorem Zoz {r e:Int} (hr:0≤r∧r<4294967296) (he:0≤e∧e<4294967296):Wg .u64 (Yi .u64 r 32) e=r * 4294967296+e:=by
 rw [Z94 hr]
 have:=or64 32 r.toNat e.toNat (by omega) (by omega)
 rw [show ((2 ^ 32 * r.toNat:Nat):Int)=r * 4294967296 by omega,show ((e.toNat:Nat):Int)=e by omega] at this
 rw [this];omega
theorem Zed {l:List Int} {k j:Nat} (v:Int) (h:j≤k):(l.set k v).take j=l.take j:=by
 rw [List.take_set,List.set_eq_of_length_le]
 rw [nK];omega
theorem Z1k (N:Nat) (d:Int) (hd:0<d∧d<4294967296):∀ (n j:Nat) (r:List Int) (c:Int),j≤r.length→j<n→r.length<4611686018427387904→Zn r→0≤c∧c<d→
  ∃ c' r',Zfg N d n r c ((j:Int) - 1)=some (c',r')∧r'.length=r.length∧Zn r'∧0≤c'∧c'<d∧d.toNat * Zc r'+c'.toNat=Zc (r.take j)+4294967296 ^ j * (c.toNat+d.toNat * Zc (r.drop j))
 | 0,j,r,c,_,h,_,_,_=>by omega
 | n+1,j,r,c,E,F,q,f,k=>by
  rw [Zfg.eq_2]
  by_cases h0:j=0
  ·subst h0
   rw [if_neg (by decide),Ul (by omega)]
   refine ⟨c,r,rfl,rfl,f,k.1,k.2,?_⟩
   rw [List.take_zero,aT,Yz];omega
  ·have e:(j:Int) - 1=((j - 1:Nat):Int):=by omega
   have b:j - 1<r.length:=by omega
   have g:=f.get b
   rw [if_pos (by simp;omega),e,Z1 b,oB,Xm (x:=d) (by omega),Z6 (by omega),oB,Z6 (by omega),aD,Xm (x:=r[j - 1]) (by omega),Zoz (by omega) (by omega)]
   generalize hcur:c * 4294967296+r[j - 1]=a
   have B:(c+1) * 4294967296≤d * 4294967296:=by omega
   have i:0≤a / d∧a / d<4294967296:=⟨Int.ediv_nonneg (by omega) (by omega),Int.ediv_lt_of_lt_mul hd.1 (by rw [Int.mul_comm];omega)⟩
   have s:=Int.emod_nonneg a (show d≠0 by omega)
   have l:=Int.emod_lt_of_pos a hd.1
   have C:=Int.mul_ediv_add_emod a d
   rw [bX (by omega),cO (by omega),Xm (by omega),Ul i,Zv (by omega)]
   obtain ⟨c',r',q1,t,u,v,w,y⟩:=Z1k N d hd n (j - 1) (r.set (j - 1) (a / d)) (a % d) (by rw [nS];omega) (by omega) (by rw [nS];exact q) (f.set _ i) ⟨s,l⟩
   refine ⟨c',r',q1,by rw [t,nS],u,v,w,?_⟩
   rw [y,Zed _ (aY _)]
   have m:=Zrj b
   have o:Zc ((r.set (j - 1) (a / d)).drop (j - 1))=(a / d).toNat+4294967296 * Zc (r.drop (j - 1+1)):=by
    rw [Ut (by rw [nS];exact b),jL,Q0 _ (by omega)]
   rw [show j - 1+1=j by omega] at m o
   rw [m,o]
   have A:(4294967296:Nat) ^ j=4294967296 ^ (j - 1) * 4294967296:=by rw [← bF,show (j - 1).succ=j by omega]
   rw [A]
   have p:d.toNat * (a / d).toNat+(a % d).toNat=c.toNat * 4294967296+(r[j - 1]).toNat:=by
    have:((d.toNat * (a / d).toNat:Nat):Int)=d * (a / d):=by rw [bU,bM (by omega),bM i.1]
    omega
   generalize hQ:4294967296 ^ (j - 1)=Q
   have D:Q * (d.toNat * (a / d).toNat+(a % d).toNat)=Q * (c.toNat * 4294967296+(r[j - 1]).toNat):=by rw [p]
   grind
theorem Z99 {N:Nat} {a:List Int} {d:Int} (hd:0<d∧d<4294967296) (ha:Zn a) (hn:a.length<N) (hs:a.length≤35184372088000):
  ∃ q,Zj9 N a d=some (((Zc a % d.toNat:Nat):Int),q)∧q.length=a.length∧Zn q∧Zc q=Zc a / d.toNat:=by
 obtain ⟨b,r',q1,g,i,l,m,c⟩:=Z1k N d hd N a.length a 0 (aY _) hn (by omega) ha (by omega)
 have e:0<d.toNat:=by omega
 rw [List.take_length,gH,Yz] at c
 have f:Zc a=b.toNat+d.toNat * Zc r':=by simp at c;omega
 have j:Zc a % d.toNat=b.toNat:=by rw [f,jA,eZ (by omega)]
 have k:Zc a / d.toNat=Zc r':=by rw [f,iC _ _ e,fH (by omega),cW]
 refine ⟨r',?_,g,i,k.symm⟩
 rw [Zj9,Zv (by omega),q1,j]
 congr 2;omega
theorem Zsm {i:IntKind} {x s:Nat} (hs:s<32) (hi:i= .u32∨i= .u64):Yi i (x:Int) (s:Int)=i.wrap ((x * 2 ^ s:Nat):Int):=by
 rw [Yi,aD,bB (by rcases hi with rfl | rfl <;> simp only [IntKind.bits] <;> omega)]
 norm_cast
theorem Z2x (n:Nat):u32.wrap (n:Int)=((n % 4294967296:Nat):Int):=by rw [IntKind.wrap_u32];omega
theorem Zwy (s:Nat) (hs:s<32):∀ (l:List Int) (k:Nat) (out:List Int),Zn l→out.length=k+l.length+1→out.length<4611686018427387904→Zn out→Zc (out.drop (k+1))=0→(∀ h:k<out.length,(out[k]).toNat<2 ^ s)→
  ∃ out',Zdv (s:Int) l k out=some out'∧out'.length=out.length∧Zn out'∧Zc out'=Zc out+4294967296 ^ k * (2 ^ s * Zc l)∧(∀ h:out'.length - 1<out'.length,(out'[out'.length - 1]).toNat<2 ^ s)
 | [],k,out,_,c,_,a,_,m=>by
  rw [Zdv.eq_1]
  rw [nN] at c
  refine ⟨out,rfl,rfl,a,by rw [Yz];omega,fun h=>?_⟩
  have:=m (by omega)
  simpa [c] using this
 | x :: l,k,out,q,c,y,a,C,m=>by
  rw [nC] at c
  have d:k<out.length:=by omega
  have o:k+1<out.length:=by omega
  have P:=q.head
  have R:=a.get d
  have D:=m d
  have g:=drop_zero a o C
  have E:i64.wrap ((k:Int)+1)=((k+1:Nat):Int):=by rw [Zv (by omega)];omega
  have ex:x=(x.toNat:Int):=by omega
  have F:out[k]=((out[k]).toNat:Int):=by omega
  have p:(2:Nat) ^ s * 2 ^ (32 - s)=4294967296:=by rw [← dK,show s+(32 - s)=32 by omega]
  have r:=cL s
  have i:=cL (32 - s)
  -- the lower and the upper limb
  have t:x.toNat * 2 ^ s<4294967296 * 2 ^ s:=iR (by omega) r
  have G:2 ^ s≤2147483648:=by
   have:=gZ (n:=2) (by decide) (show s≤31 by omega)
   omega
  have b:(x.toNat * 2 ^ s) % 4294967296=2 ^ s * (x.toNat % 2 ^ (32 - s)):=by
   rw [← p,cB x.toNat,jW]
  have u:Wg .u32 out[k] (Yi .u32 x (s:Int))=(((x.toNat * 2 ^ s) % 4294967296+(out[k]).toNat:Nat):Int):=by
   rw [ex,Zsm hs (.inl rfl),Z2x,F]
   simp only [aD]
   rw [b]
   refine or32 s _ _ D ?_
   have:2 ^ s * (x.toNat % 2 ^ (32 - s)+1)≤2 ^ s * 2 ^ (32 - s):=aR _ (fA _ i)
   rw [p,dZ] at this
   omega
  have v:u32.wrap (Y6 .u64 (Yi .u64 (u64.wrap x) (s:Int)) 32)=((x.toNat * 2 ^ s / 4294967296:Nat):Int):=by
   rw [Xm (x:=x) (by omega),ex,Zsm hs (.inr rfl),Zf4,Xm (by omega)]
   simp only [aD]
   rw [Ul (by omega)]
   omega
  have j:x.toNat * 2 ^ s / 4294967296<2 ^ s:=(eK (by decide)).2 (by rw [cB (2 ^ s)];exact t)
  have e:(x.toNat * 2 ^ s) % 4294967296+(out[k]).toNat<4294967296:=by
   rw [b]
   have:2 ^ s * (x.toNat % 2 ^ (32 - s)+1)≤2 ^ s * 2 ^ (32 - s):=aR _ (fA _ i)
   rw [p,dZ] at this
   omega
  rw [Zdv.eq_2,Z1 d,oB,Z6 (by omega),oB,Z6 (by omega),E,aD,aD,
   Z1 (by rw [nS];exact o),oB,oB,u,v]
  generalize hA:(x.toNat * 2 ^ s) % 4294967296+(out[k]).toNat=A at e
  generalize hB:x.toNat * 2 ^ s / 4294967296=B at j
  have H:Zn (out.set k (A:Int)):=a.set _ (by omega)
  have I:Zn ((out.set k (A:Int)).set (k+1) (B:Int)):=H.set _ (by omega)
  obtain ⟨out',q1,J,K,L,M⟩:=Zwy s hs l (k+1) ((out.set k (A:Int)).set (k+1) (B:Int)) q.tail (by rw [nS,nS];omega) (by rw [nS,nS];exact y) I (by
   rw [Q0 _ (by omega),Q0 _ (by omega)];exact g.2) (fun h=>by rw [jL];simpa using j)
  refine ⟨out',q1,by rw [J,nS,nS],K,?_,M⟩
  have N:=Tx d (A:Int)
  have f:=Tx (l:=out.set k (A:Int)) (k:=k+1) (by rw [nS];exact o) (B:Int)
  rw [List.getElem_set_ne (by omega),g.1] at f
  rw [aD] at N f
  rw [fP,dY,bQ] at f
  rw [L,Wo]
  rw [bF] at f ⊢
  have w:A+4294967296 * B=(out[k]).toNat+x.toNat * 2 ^ s:=by omega
  generalize 4294967296 ^ k=Q at *
  have O:Q * (A+4294967296 * B)=Q * ((out[k]).toNat+x.toNat * 2 ^ s):=by rw [w]
  grind
theorem Zwz {a:List Int} {s:Nat} (hs:s<32) (ha:Zn a) (hb:a.length<35184372088000):
  ∃ o,Zhs a (s:Int)=some o∧o.length=a.length+1∧Zn o∧Zc o=2 ^ s * Zc a∧∀ h:o.length - 1<o.length,(o[o.length - 1]).toNat<2 ^ s:=by
 rw [Zhs,Zv (by omega),Z6 (by simp only [maxLen];omega)]
 have e:aA ((a.length:Int)+1)=a.length+1:=by omega
 rw [e]
 obtain ⟨o,q1,b,c,d,f⟩:=Zwy s hs a 0 (aM (a.length+1) 0) ha (by rw [bD];omega) (by rw [bD];omega) (.zeros _) (by rw [iB];exact Sf _) (fun h=>by
  rw [List.getElem_replicate];exact cL s)
 refine ⟨o,q1,by rw [b,bD],c,?_,f⟩
 rw [d,Sf,dX];omega
theorem Z5v (g:Int) (u:List Int):Zj6 g u=Zb4 g u:=rfl
theorem Zu2 (j0 n0:Nat) (v:List Int) (g:Int):∀ (l:List Int) (k:Nat) (u:List Int) (c:Int),Zdu j0 n0 v g l k u c=Sx j0 n0 v (u64.wrap (g - 1)) l k u c
 | [],k,u,c=>by rw [Zdu.eq_1,Sx.eq_1];rfl
 | x :: l,k,u,c=>by
  rw [Zdu.eq_2,Sx.eq_2]
  simp only [Zu2 j0 n0 v g l]
theorem Zu1 (j0 n0:Nat) (v:List Int) (g:Int):∀ (l:List Int) (k:Nat) (u:List Int) (b c:Int),Zaa j0 n0 v g l k u b c=Us j0 n0 v (u64.wrap (g - 1)) l k u b c
 | [],k,u,b,c=>by
  rw [Zaa.eq_1,Us.eq_1]
  simp only [Zu2,Z5v]
 | x :: l,k,u,b,c=>by
  rw [Zaa.eq_2,Us.eq_2]
  simp only [Zj7,Zff,Zmy,Zj8,Zu1 j0 n0 v g l]
theorem Zxg {x:Int} (h:0≤x∧x<18446744073709551616):Sb .u64 x 4294967295=x % 4294967296:=by
 have e:x=(x.toNat:Int):=by omega
 rw [Sb,BitVec.toNat_and,e,Zge _ _ (by simp only [IntKind.bits];omega),show (4294967295:Int)=((2 ^ 32 - 1:Nat):Int) by decide,Zge _ _ (by simp only [IntKind.bits];omega),Nat.and_two_pow_sub_one_eq_mod,IntKind.wrap_u64]
 omega
theorem Z29 (S S' S2 Q e v x c c' L T:Nat) (h1:S'+Q * e=S+Q * v) (h2:c+(e+x)=v+4294967296 * c') (h3:S2+T=S'+Q * 4294967296 * (c'+L)):S2+T=S+Q * (c+(x+4294967296 * L)):=by
 have:Q * (c+(e+x))=Q * (v+4294967296 * c'):=by rw [h2]
 grind
theorem Zjj {l:List Int} {k j:Nat} (v:Int) (h:k<j):(l.set k v).drop j=l.drop j:=Q0 v h
theorem Zu4 (j0:Nat) (v:List Int) (g:Int):∀ (l:List Int) (k:Nat) (u:List Int) (c:Int),Zn l→k+l.length=v.length→Zn u→j0+v.length<u.length→0≤c∧c≤1→
  ∃ u' co,Sx j0 (v.length+1) v g l k u c=some (u32.wrap (u64.wrap (g - 1)),u')∧u'.length=u.length∧Zn u'∧u'.take j0=u.take j0∧u'.drop (j0+v.length+1)=u.drop (j0+v.length+1)∧Zc u'+co * 4294967296 ^ (j0+v.length+1)=Zc u+4294967296 ^ (j0+k) * (c.toNat+Zc l)
 | [],k,u,c,_,e,a,b,n=>by
  have i:k=v.length:=by simpa using e
  subst i
  have o:=a.get b
  rw [Sx.eq_1,Z6 (by omega),show (j0:Int)+(v.length:Int)=((j0+v.length:Nat):Int) by omega,Z1 b,oB,Z6 (by omega),oB,oB,aD,Zb4,Ul (x:=c) (by omega)]
  have f:0≤u32.wrap (u[j0+v.length]+c)∧u32.wrap (u[j0+v.length]+c)<4294967296:=by rw [IntKind.wrap_u32];omega
  refine ⟨_,((u[j0+v.length]+c) / 4294967296).toNat,rfl,by rw [nS],a.set _ f,Zed _ (by omega),Zjj _ (by omega),?_⟩
  have A:=Tx b (u32.wrap (u[j0+v.length]+c))
  have p:(u[j0+v.length]).toNat+c.toNat=(u32.wrap (u[j0+v.length]+c)).toNat+4294967296 * ((u[j0+v.length]+c) / 4294967296).toNat:=by rw [IntKind.wrap_u32];omega
  rw [bF,Yz]
  generalize 4294967296 ^ (j0+v.length)=Q at *
  have B:Q * ((u[j0+v.length]).toNat+c.toNat)=Q * ((u32.wrap (u[j0+v.length]+c)).toNat+4294967296 * ((u[j0+v.length]+c) / 4294967296).toNat):=by rw [p]
  grind
 | x :: l,k,u,c,j,e,a,b,n=>by
  rw [nC] at e
  have d:j0+k<u.length:=by omega
  have o:=a.get d
  have C:=j.head
  rw [Sx.eq_2,Z6 (by omega),show (j0:Int)+(k:Int)=((j0+k:Nat):Int) by omega,Z1 d,oB,Z6 (by omega),oB,oB,aD,Xm (x:=u[j0+k]) (by omega),Xm (x:=x) (by omega),Xm (x:=u[j0+k]+x) (by omega),Xm (by omega),Zf4]
  generalize hs:c+(u[j0+k]+x)=s
  have f:0≤u32.wrap s∧u32.wrap s<4294967296:=by rw [IntKind.wrap_u32];omega
  obtain ⟨u',co,q1,q,r,w,y,m⟩:=Zu4 j0 v g l (k+1) (u.set (j0+k) (u32.wrap s)) (s / 4294967296) j.tail (by omega) (a.set _ f) (by rw [nS];exact b) (by omega)
  refine ⟨u',co,q1,by rw [q,nS],r,by rw [w,Zed _ (by omega)],by rw [y,Zjj _ (by omega)],?_⟩
  rw [Wo]
  rw [← dW j0 k 1,bF] at m
  exact Z29 _ _ _ _ _ _ _ _ _ _ _ (Tx d _) (by rw [IntKind.wrap_u32];omega) m
theorem Z8f (S S' S2 Q e w x g b b' c c' t L T:Nat) (h1:S'+Q * e=S+Q * w) (h2:c+g * x=t+4294967296 * c') (h3:e+4294967296 * b'=t+b+w) (h4:S2+Q * 4294967296 * (c'+b'+g * L)=S'+T):S2+Q * (c+b+g * (x+4294967296 * L))=S+T:=by
 have a:Q * (c+g * x)=Q * (t+4294967296 * c'):=by rw [h2]
 have d:Q * (e+4294967296 * b')=Q * (t+b+w):=by rw [h3]
 grind
theorem Zu3 (j0:Nat) (v:List Int) (g:Int) (hg:0≤g∧g<4294967296):∀ (l:List Int) (k:Nat) (u:List Int) (b c:Int),Zn l→k+l.length=v.length→Zn u→j0+v.length<u.length→0≤b∧b≤1→0≤c∧c<4294967296→
  ∃ u' over,over≤1∧Us j0 (v.length+1) v g l k u b c=(if over=1 then Sx j0 (v.length+1) v g v 0 u' 0 else Zb4 g u')∧u'.length=u.length∧Zn u'∧u'.take j0=u.take j0∧u'.drop (j0+v.length+1)=u.drop (j0+v.length+1)∧
   Zc u'+4294967296 ^ (j0+k) * (c.toNat+b.toNat+g.toNat * Zc l)=Zc u+over * 4294967296 ^ (j0+v.length+1)
 | [],k,u,b,c,_,m,e,i,s,w=>by
  have n:k=v.length:=by simpa using m
  subst n
  have y:=e.get i
  rw [Us.eq_1,Z6 (by omega),show (j0:Int)+(v.length:Int)=((j0+v.length:Nat):Int) by omega,Z1 i,oB,Z6 (by omega),oB,Z6 (by omega),oB,oB,aD,Xm (x:=c+b) (by omega),Xm (x:=u[j0+v.length]) (by omega)]
  have j:0≤u32.wrap (u[j0+v.length] - u32.wrap (c+b))∧u32.wrap (u[j0+v.length] - u32.wrap (c+b))<4294967296:=by rw [IntKind.wrap_u32];omega
  have J:=Tx i (u32.wrap (u[j0+v.length] - u32.wrap (c+b)))
  have fin:∀ over:Nat,(u[j0+v.length]).toNat+4294967296 * over=c.toNat+b.toNat+(u32.wrap (u[j0+v.length] - u32.wrap (c+b))).toNat→Zc (u.set (j0+v.length) (u32.wrap (u[j0+v.length] - u32.wrap (c+b))))+4294967296 ^ (j0+v.length) * (c.toNat+b.toNat+g.toNat * Zc [])=Zc u+over * 4294967296 ^ (j0+v.length+1):=fun over A=>by
   rw [bF,Yz]
   generalize 4294967296 ^ (j0+v.length)=Q at *
   have B:Q * ((u[j0+v.length]).toNat+4294967296 * over)=Q * (c.toNat+b.toNat+(u32.wrap (u[j0+v.length] - u32.wrap (c+b))).toNat):=by rw [A]
   grind
  by_cases hlt:u[j0+v.length]<c+b
  ·refine ⟨_,1,aY _,by rw [if_pos (by simpa using hlt),if_pos rfl],by rw [nS],e.set _ j,Zed _ (by omega),Zjj _ (by omega),fin 1 (by rw [IntKind.wrap_u32,IntKind.wrap_u32];omega)⟩
  ·refine ⟨_,0,by decide,by rw [if_neg (by simpa using hlt),if_neg (by decide)],by rw [nS],e.set _ j,Zed _ (by omega),Zjj _ (by omega),fin 0 (by rw [IntKind.wrap_u32,IntKind.wrap_u32];omega)⟩
 | x :: l,k,u,b,c,o,m,e,i,s,w=>by
  rw [nC] at m
  have d:j0+k<u.length:=by omega
  have y:=e.get d
  have p:=o.head
  have K:g * x≤4294967295 * 4294967295:=lE (by omega) (by omega) (by omega) (by omega)
  have H:0≤g * x:=jI hg.1 p.1
  have I:((g.toNat * x.toNat:Nat):Int)=g * x:=by rw [bU,bM hg.1,bM p.1]
  rw [Us.eq_2,Z6 (by omega),show (j0:Int)+(k:Int)=((j0+k:Nat):Int) by omega,Z1 d,oB,Xm (x:=u[j0+k]) (by omega),Xm (x:=x) (by omega),Xm (x:=g * x) (by omega),Xm (x:=c+g * x) (by omega),Zxg (by omega)]
  generalize ht0:c+g * x=a
  rw [Xm (x:=a % 4294967296+b) (by omega)]
  have fin:∀ f:Int,0≤f∧f≤1→u[j0+k]+4294967296 * f=a % 4294967296+b+u32.wrap (u[j0+k] - u32.wrap (a % 4294967296+b))→
    ∃ u' over,over≤1∧Zff j0 (v.length+1) g u b k c (Us j0 (v.length+1) v g l) x f=(if over=1 then Sx j0 (v.length+1) v g v 0 u' 0 else Zb4 g u')∧u'.length=u.length∧Zn u'∧u'.take j0=u.take j0∧u'.drop (j0+v.length+1)=u.drop (j0+v.length+1)∧
     Zc u'+4294967296 ^ (j0+k) * (c.toNat+b.toNat+g.toNat * Zc (x :: l))=Zc u+over * 4294967296 ^ (j0+v.length+1):=fun f q B=>by
   have j:0≤u32.wrap (u[j0+k] - u32.wrap (a % 4294967296+b))∧u32.wrap (u[j0+k] - u32.wrap (a % 4294967296+b))<4294967296:=by rw [IntKind.wrap_u32];omega
   obtain ⟨u',over,q0,q1,C,D,F,G,r⟩:=Zu3 j0 v g hg l (k+1) (u.set (j0+k) (u32.wrap (u[j0+k] - u32.wrap (a % 4294967296+b)))) f (a / 4294967296) o.tail (by omega) (e.set _ j) (by rw [nS];exact i) q (by omega)
   refine ⟨u',over,q0,?_,by rw [C,nS],D,by rw [F,Zed _ (by omega)],by rw [G,Zjj _ (by omega)],?_⟩
   ·rw [Zff,Z6 (by omega),show (j0:Int)+(k:Int)=((j0+k:Nat):Int) by omega,Z1 d,oB,Z6 (by omega),oB,oB,aD,Xm (x:=x) (by omega),Xm (x:=g * x) (by omega),Xm (x:=c+g * x) (by omega),Zxg (by omega),ht0,Xm (x:=a % 4294967296+b) (by omega),Zf4,Zj8]
    exact q1
   ·rw [Wo]
    rw [← dW j0 k 1,bF] at r
    exact Z8f _ _ _ _ _ _ _ _ _ _ _ _ (a % 4294967296).toNat _ _ (Tx d _) (by omega) (by omega) r
  by_cases hlt:u[j0+k]<a % 4294967296+b
  ·rw [if_pos (by simpa using hlt)]
   exact fin 1 (by omega) (by rw [IntKind.wrap_u32,IntKind.wrap_u32];omega)
  ·rw [if_neg (by simpa using hlt)]
   exact fin 0 (by omega) (by rw [IntKind.wrap_u32,IntKind.wrap_u32];omega)
structure Zi6 (U V E v1 v2 u2 top lU lV:Nat):Prop where
 hU:U=lU+E * (u2+4294967296 * top)
 hV:V=lV+E * (v2+4294967296 * v1)
 lu:lU<E
 lv:lV<E
 b2:u2<4294967296
 c2:v2<4294967296
 c1:v1<4294967296
 big:2147483648≤v1
 lt:U<4294967296 * V
namespace Zi6
variable {U V E v1 v2 u2 top lU lV:Nat} (t:Zi6 U V E v1 v2 u2 top lU lV)
include t
theorem Vpos:0<V:=by
 have:=t.lt
 have:=t.lu
 omega
theorem uE:U<E * 4294967296 * (top+1):=by
 have a:E * (u2+1)≤E * 4294967296:=aR _ t.b2
 have b:=t.hU;have:=t.lu
 have e:E * (u2+4294967296 * top)=E * u2+E * 4294967296 * top:=by grind
 rw [e] at b
 rw [dZ] at a ⊢
 omega
theorem Eu:E * 4294967296 * top≤U:=by
 have a:=t.hU
 have e:E * (u2+4294967296 * top)=E * u2+E * 4294967296 * top:=by grind
 omega
theorem vE:V<E * 4294967296 * (v1+1):=by
 have a:E * (v2+1)≤E * 4294967296:=aR _ t.c2
 have b:=t.hV;have:=t.lv
 have e:E * (v2+4294967296 * v1)=E * v2+E * 4294967296 * v1:=by grind
 rw [dZ] at a ⊢
 omega
theorem Ev:E * 4294967296 * v1≤V:=by
 have a:=t.hV
 have e:E * (v2+4294967296 * v1)=E * v2+E * 4294967296 * v1:=by grind
 omega
theorem Epos:0<E:=by have:=t.lu;omega
theorem first:U / V≤top / v1:=by
 have a:0<v1:=by have:=t.big;omega
 rw [gU a]
 have c:U / V * V≤U:=Nat.div_mul_le_self U V
 have d:U / V * (E * 4294967296 * v1)≤U / V * V:=aR _ t.Ev
 have b:E * 4294967296 * (U / V * v1)<E * 4294967296 * (top+1):=by
  have e:E * 4294967296 * (U / V * v1)=U / V * (E * 4294967296 * v1):=by
   generalize U / V=q
   grind
  rw [e]
  have:=t.uE
  omega
 have:=fU b
 omega
theorem quo:U / V<4294967296:=(eK t.Vpos).2 t.lt
theorem great {g r:Nat} (h:g * v1+r=top) (h2:r * 4294967296+u2<g * v2):U / V<g:=by
 rw [eK t.Vpos]
 have a:u2+4294967296 * top+1≤g * (v2+4294967296 * v1):=by
  have:4294967296 * (g * v1+r)=4294967296 * top:=by rw [h]
  have e:g * (v2+4294967296 * v1)=g * v2+4294967296 * (g * v1):=by grind
  rw [e];omega
 have b:=aR E a
 have c:E * (g * (v2+4294967296 * v1))≤g * V:=by
  have:=t.hV
  have e:g * V=g * lV+E * (g * (v2+4294967296 * v1)):=by rw [this];grind
  omega
 have:=t.hU;have:=t.lu
 rw [dZ] at b
 omega
theorem fine {g r:Nat} (hg:g<4294967296) (h:g * v1+r=top) (h2:g * v2≤r * 4294967296+u2):g * V<U+V:=by
 have a:g * (v2+4294967296 * v1)≤u2+4294967296 * top:=by
  have:4294967296 * (g * v1+r)=4294967296 * top:=by rw [h]
  have e:g * (v2+4294967296 * v1)=g * v2+4294967296 * (g * v1):=by grind
  rw [e];omega
 have b:=aR E a
 have e:g * V=g * lV+E * (g * (v2+4294967296 * v1)):=by rw [t.hV];grind
 have c:g * lV≤4294967295 * E:=iD (by omega) (by have:=t.lv;omega)
 have d:E * 4294967296 * 1≤E * 4294967296 * v1:=aR _ (by have:=t.big;omega)
 have:=t.Ev;have:=t.hU;have:=t.Epos
 omega
theorem topv:top / 4294967296≤v1:=by
 have b:=t.Eu
 have c:=t.lt
 have d:=t.vE
 have a:E * 4294967296 * top<E * 4294967296 * (4294967296 * (v1+1)):=by
  have:E * 4294967296 * (4294967296 * (v1+1))=4294967296 * (E * 4294967296 * (v1+1)):=by grind
  omega
 have:=fU a
 omega
theorem over {g r:Nat} (h:g * v1+r=top) (hr:4294967296≤r):g<4294967296:=by
 have b:=t.topv
 have a:g * v1<4294967296 * v1:=by omega
 exact Nat.lt_of_mul_lt_mul_right a
theorem stop {g r:Nat} (h:g * v1+r=top) (hr:4294967296≤r):g * V<U+V:=by
 have b:=t.over h hr
 have a:=t.vE
 have c:g * V≤g * (E * 4294967296 * (v1+1)):=aR _ (lQ a)
 have e:g * (E * 4294967296 * (v1+1))=E * 4294967296 * (g * v1+g):=by grind
 have d:E * 4294967296 * (g * v1+g)≤E * 4294967296 * top:=aR _ (by omega)
 have:=t.Eu;have:=t.Vpos
 omega
end Zi6
def Ztc (X:Option R7) (R:Nat→Option R7) (q U V:Nat):Prop:=∃ g:Nat,X=R g∧q≤g∧g<4294967296∧g * V<U+V
theorem Zu0 (N j0:Nat) (u v:List Int) (hu:Zn u) (hv:Zn v) (hn:2≤v.length) (hl:j0+v.length<u.length) (hs:v.length<4611686018427387904) {U V E lU lV top q:Nat} (hq:U / V=q)
  (t:Zi6 U V E (v[v.length - 1]).toNat (v[v.length - 2]).toNat (u[j0+v.length - 2]).toNat top lU lV) (htop:top<18446744073709551616):
  ∀ (n g r:Nat),g * (v[v.length - 1]).toNat+r=top→q≤g→r<4294967296→4294967296≤r+2147483648 * n→
  Ztc (Qn N j0 (v.length+1) u v n (g:Int) (r:Int)) (fun g'=>Us j0 (v.length+1) v (g':Int) v 0 u 0 0) q U V
 | 0,g,r,_,_,k,l=>by omega
 | n+1,g,r,c,m,k,l=>by
  have e:v.length - 1<v.length:=by omega
  have f:v.length - 2<v.length:=by omega
  have i:j0+v.length - 2<u.length:=by omega
  have A:=hv.get e
  have B:=hv.get f
  have C:=hu.get i
  have o:=t.big
  have w:g≤top:=by
   have:g * 1≤g * (v[v.length - 1]).toNat:=aR _ (by omega)
   omega
  -- one a
  have a:q<g→Ztc (Zj5 j0 (v.length+1) u v (g:Int) (r:Int) (Qn N j0 (v.length+1) u v n)) (fun g'=>Us j0 (v.length+1) v (g':Int) v 0 u 0 0) q U V:=fun y=>by
   have b:(g - 1) * (v[v.length - 1]).toNat+(r+(v[v.length - 1]).toNat)=top:=by
    have:(g - 1+1) * (v[v.length - 1]).toNat+r=top:=by rw [show g - 1+1=g by omega];exact c
    rw [aZ] at this
    omega
   have j:u64.wrap ((g:Int) - 1)=((g - 1:Nat):Int):=by rw [Xm (by omega)];omega
   have p:u64.wrap ((r:Int)+u64.wrap v[v.length - 1])=((r+(v[v.length - 1]).toNat:Nat):Int):=by rw [Xm (x:=v[v.length - 1]) (by omega),Xm (by omega)];omega
   rw [Zj5,Zv (by omega),show (v.length:Int) - 1=((v.length - 1:Nat):Int) by omega,Z1 e,oB,p,j]
   by_cases hb:4294967296≤r+(v[v.length - 1]).toNat
   ·rw [if_pos (dT (by omega)),Zu1,j]
    exact ⟨g - 1,rfl,by omega,t.over b hb,t.stop b hb⟩
   ·rw [if_neg (dF (by omega))]
    exact Zu0 N j0 u v hu hv hn hl hs hq t htop n (g - 1) (r+(v[v.length - 1]).toNat) b (by omega) (by omega) (by omega)
  have d:=t.quo
  rw [hq] at d
  rw [Qn.eq_2]
  by_cases hgb2:4294967295<g
  ·rw [if_pos (dT (by omega)),Zfe,if_pos rfl]
   exact a (by omega)
  ·have D:g * (v[v.length - 2]).toNat≤4294967295 * 4294967295:=iD (by omega) (by omega)
   have s:(g:Int) * v[v.length - 2]=((g * (v[v.length - 2]).toNat:Nat):Int):=by
    rw [bU];congr 1;omega
   rw [if_neg (dF (by omega)),if_pos (dT (by omega)),Zv (by omega),show (v.length:Int) - 2=((v.length - 2:Nat):Int) by omega,Z1 f,oB,Z6 (by omega),show (j0:Int)+((v.length - 2:Nat):Int)=((j0+v.length - 2:Nat):Int) by omega,Z1 i,oB,Zfe,
    Xm (x:=u[j0+v.length - 2]) (by omega),Zoz (by omega) (by omega),Xm (x:=v[v.length - 2]) (by omega),s,Xm (by omega)]
   by_cases hc:r * 4294967296+(u[j0+v.length - 2]).toNat<g * (v[v.length - 2]).toNat
   ·rw [if_pos (dT (by omega))]
    exact a (by rw [← hq];exact t.great c hc)
   ·rw [if_neg (dF (by omega))]
    exact ⟨g,rfl,m,by omega,t.fine (by omega) c (by omega)⟩
theorem Zp6 {u w:List Int} {j0 n P:Nat} (hP:4294967296 ^ (n+1)=P) (hl:j0+n<u.length) (hz:Zc (u.drop (j0+n+1))=0) (h1:w.length=u.length) (h2:Zn w) (h3:w.drop (j0+n+1)=u.drop (j0+n+1)):Zc (w.drop j0)<P:=by
 have:=Qt ((h2.drop j0).take (n+1))
 rw [nK,bI,bB (by omega),hP] at this
 have e:=Ty (w.drop j0) (n+1)
 rw [hP,dR,← dW,h3,hz] at e
 omega
theorem Zu5 {u w:List Int} {j0 n P Q x y:Nat} (hP:4294967296 ^ (n+1)=P) (hQ:4294967296 ^ j0=Q) (h4:w.take j0=u.take j0) (h:Zc w+Q * x=Zc u+y * 4294967296 ^ (j0+n+1)):Zc (w.drop j0)+x=Zc (u.drop j0)+y * P:=by
 have c:(4294967296:Nat) ^ (j0+n+1)=Q * P:=by rw [← hQ,← hP,← dK,dW]
 have d:0<Q:=by rw [← hQ];exact fX (by decide)
 have b:=Ty u j0
 have a:=Ty w j0
 rw [h4] at a
 rw [hQ] at b a
 rw [c,b,a] at h
 clear c hP hQ b a h4
 refine Nat.eq_of_mul_eq_mul_left d ?_
 grind
theorem Z5w {U V P q g over P1:Nat} (hq:U / V=q) (hV:0<V) (hg1:q≤g) (hg3:g * V<U+V) (k1:P1+g * V=U+over * P) (p1:P1<P):
  (over=0→g=q∧P1=U % V)∧(over=1→g=q+1∧∀ P2 co,V<P→P2<P→P2+co * P=P1+V→P2=U % V):=by
 have d:V * q+U % V=U:=by rw [← hq];exact kW _ _
 have j:=fA U hV
 have a:∀ x y:Nat,x<y→x * V+V≤y * V:=fun x y e=>by
  have:=bC V (show x+1≤y from e)
  rw [aZ,aX] at this;exact this
 rw [cB] at d
 constructor
 ·intro c
  subst c
  have b:g=q:=by
   have i:¬ q<g:=fun h=>by
    have:=a _ _ h
    omega
   omega
  subst b
  exact ⟨rfl,by omega⟩
 ·intro c
  subst c
  have b:g=q+1:=by
   have m:¬ g≤q:=fun h=>by
    have:=bC V h
    omega
   have i:¬ q+1<g:=fun h=>by
    have:=a _ _ h
    rw [aZ,aX] at this
    omega
   omega
  refine ⟨b,fun P2 co k p2 n=>?_⟩
  have l:g * V=q * V+V:=by rw [b,aZ,aX]
  have f:co=1:=by
   rcases Nat.lt_trichotomy co 1 with h | h | h
   ·have:co=0:=by omega
    subst this;omega
   ·exact h
   ·have:=bC P (show 2≤co from h)
    omega
  subst f
  omega
theorem Z5x {N j0:Nat} {u v:List Int} (hN:2≤N) (hu:Zn u) (hv:Zn v) (hn:2≤v.length) (hl:j0+v.length<u.length) (hs:u.length<4611686018427387904)
  (hz:Zc (u.drop (j0+v.length+1))=0) (hbig:2147483648≤(v[v.length - 1]).toNat) (hlt:Zc (u.drop j0)<4294967296 * Zc v):
  ∃ u',Zhr N j0 (v.length+1) u v=some (((Zc (u.drop j0) / Zc v:Nat):Int),u')∧u'.length=u.length∧Zn u'∧u'.take j0=u.take j0∧Zc (u'.drop j0)=Zc (u.drop j0) % Zc v∧Zc (u.drop j0) / Zc v<4294967296:=by
 have f:v.length - 1<v.length:=by omega
 have r:v.length - 2<v.length:=by omega
 have s:j0+v.length - 2<u.length:=by omega
 have i:j0+v.length - 1<u.length:=by omega
 have c1:=hv.get f
 have c2:=hv.get r
 have c3:=hu.get s
 have c4:=hu.get i
 have c5:=hu.get hl
 -- the Zg above
 have O:Zc v=Zc (v.take (v.length - 2))+4294967296 ^ (v.length - 2) * ((v[v.length - 2]).toNat+4294967296 * (v[v.length - 1]).toNat):=by
  rw [Ty v (v.length - 2),Ut r,show v.length - 2+1=v.length - 1 by omega,Ut f,show v.length - 1+1=v.length by omega,gH,Yz];simp
 have R:Zc (u.drop j0)=Zc ((u.drop j0).take (v.length - 2))+4294967296 ^ (v.length - 2) * ((u[j0+v.length - 2]).toNat+4294967296 * ((u[j0+v.length]).toNat * 4294967296+(u[j0+v.length - 1]).toNat)):=by
  have S:j0+(v.length - 2)=j0+v.length - 2:=by omega
  rw [Ty (u.drop j0) (v.length - 2),dR,S,Ut s,show j0+v.length - 2+1=j0+v.length - 1 by omega,Ut i,show j0+v.length - 1+1=j0+v.length by omega,Ut hl,hz]
  congr 3
  omega
 have lV:=Qt (hv.take (v.length - 2))
 have lU:=Qt ((hu.drop j0).take (v.length - 2))
 rw [nK,bB (by omega)] at lV
 rw [nK,bI,bB (by omega)] at lU
 have t:Zi6 (Zc (u.drop j0)) (Zc v) (4294967296 ^ (v.length - 2)) (v[v.length - 1]).toNat (v[v.length - 2]).toNat (u[j0+v.length - 2]).toNat ((u[j0+v.length]).toNat * 4294967296+(u[j0+v.length - 1]).toNat) _ _:=
  ⟨R,O,lU,lV,by omega,by omega,by omega,hbig,hlt⟩
 have T:=t.Vpos
 have b:(u[j0+v.length]).toNat * 4294967296+(u[j0+v.length - 1]).toNat<18446744073709551616:=by omega
 obtain ⟨q,d⟩:∃ q,Zc (u.drop j0) / Zc v=q:=⟨_,rfl⟩
 obtain ⟨g,A,B,a2,C⟩:=Zu0 N j0 u v hu hv hn hl (by omega) d t b N _ _ (Nat.div_add_mod' _ _) (by rw [← d];exact t.first) (aF (fA _ (by omega)) (by omega)) (by omega)
 have W:Zhr N j0 (v.length+1) u v=Us j0 (v.length+1) v (g:Int) v 0 u 0 0:=by
  refine Eq.trans ?_ A
  rw [Zhr,Z6 (by omega),show (j0:Int)+(v.length:Int)=((j0+v.length:Nat):Int) by omega,Z1 hl,oB,Zv (by omega),show (v.length:Int) - 1=((v.length - 1:Nat):Int) by omega,Z6 (by omega),
   show (j0:Int)+((v.length - 1:Nat):Int)=((j0+v.length - 1:Nat):Int) by omega,Z1 i,oB,Z1 f,oB,Xm (x:=v[v.length - 1]) (by omega),Z6 (by omega),Z6 (by omega),Xm (x:=u[j0+v.length]) (by omega),Xm (x:=u[j0+v.length - 1]) (by omega),Zoz (by omega) (by omega)]
  have ev:v[v.length - 1]=((v[v.length - 1]).toNat:Int):=by omega
  have X:u[j0+v.length] * 4294967296+u[j0+v.length - 1]=(((u[j0+v.length]).toNat * 4294967296+(u[j0+v.length - 1]).toNat:Nat):Int):=by omega
  rw [X,ev,bX (by omega),cO (by omega),← iS,← kQ,aD]
  rw [Xm ⟨eJ _,gV.2 (eS (cU _ _) b)⟩]
 obtain ⟨j,over,q0,q1,D,k,l,F,m⟩:=Zu3 j0 v (g:Int) (by omega) v 0 u 0 0 hv (by omega) hu hl (by omega) (by omega)
 have a:=t.quo
 rw [d] at a ⊢
 rw [W,q1]
 obtain ⟨P,c⟩:∃ P:Nat,4294967296 ^ (v.length+1)=P:=⟨_,rfl⟩
 obtain ⟨Q,e⟩:∃ Q:Nat,4294967296 ^ j0=Q:=⟨_,rfl⟩
 simp only [bQ,fP,aD,cW] at m
 rw [e] at m
 have Y:=Zu5 c e l m
 have p1:=Zp6 c hl hz D k F
 have G:Zc v<P:=by
  have:=Qt hv
  have H:=Zp6 (u:=v++[0]) (w:=v++[0]) (j0:=0) (n:=v.length) c (by simp) (by simp [Zc]) rfl (hv.app (.cons (by decide) .nil)) rfl
  rw [aT,Zx1] at H
  exact H
 have I:=Z5w d T B C Y p1
 by_cases ho:over=1
 ·obtain ⟨J,o⟩:=I.2 ho
  subst ho
  rw [if_pos rfl]
  obtain ⟨u2,K,Z,r2,L,M,r5,p⟩:=Zu4 j0 v (g:Int) v 0 j 0 hv (by omega) k (by omega) (by omega)
  have p2:=Zp6 c hl hz (by omega) L (by rw [r5,F])
  simp only [bQ,fP,cW] at p
  rw [e] at p
  have k2:=Zu5 (u:=u2) (w:=j) (x:=Zc v) (y:=K) c e (by rw [M]) p.symm
  refine ⟨u2,?_,by omega,L,by rw [M,l],o _ K G p2 k2.symm,a⟩
  rw [Z,Xm (by omega),Ul (by omega)]
  congr 2;omega
 ·obtain ⟨J,o⟩:=I.1 (by omega)
  rw [if_neg ho,Zb4,Ul (by omega)]
  exact ⟨j,by rw [J],D,k,l,o,a⟩
def Zds (N:Nat):Nat→R2→R2→Option R2
  | 0,_,_=>none
  | ac+1,ab,aa=>if (decide (0<(aa.length:Int)))=true then ((Zfb N ab aa).bind fun ad=>(Zds N ac) aa ad.2.1) else (some ab)
termination_by structural x=>x
def Zj4 (N:Nat) (aa:List Int) (ab:List Int):Option R2:=
  (Tb N aa).bind fun ac=>(Tb N ab).bind fun ad=>Zds N N ac ad
theorem Z37 {N ar au:Nat} {a0 a1:Option Addr} {col:Ze} {w0:World} {ak al r:R2} (c1:Nat) (hm:Zj4 N ak al=some r) (h0:Sl (Za.int .u32) col w0 a0 ar ak) (h1:Sl (Za.int .u32) col w0 a1 au al):
    Calls prog 151 #[.slice a0 ak.length ar,.slice a1 al.length au] w0 (fun e w'=>∃ (col':Ze) (ra1:Option Addr) (rc2:Nat),e= .returned ((.slice ra1 r.length rc2))∧Zh col w0 col' w'∧Zb (Za.int .u32) 95 c1 col' w' ra1 rc2 r):=by
 refine Xl 4 (m:=25) func151 rfl rfl rfl rfl rfl ?_;rw [Zj4.eq_1] at hm;have aa:=St.start col w0;refine go ?_;obtain ⟨a9,a3,hm⟩:=bZ hm;replace h0:=h0.keep (Zi.start col w0);refine Zj (Qa 1 a3 (h0.ks aa)) ?_;rintro _ ba ⟨bb,bc,bd,rfl,a4,am⟩;refine ⟨_,rfl,?_⟩;refine Y2 rfl ?_;obtain ⟨be,a5,hm⟩:=bZ hm;replace h1:=h1.keep (Zi.start col w0);replace aa:=aa.grow a4;refine Zj (Qa 2 a5 (h1.ks aa)) ?_;rintro _ bf ⟨bg,bh,bi,rfl,av,a6⟩;refine ⟨_,rfl,go ?_⟩;replace am:=am.gr av;replace aa:=aa.grow av;refine Z4 [1000000] (fun n f ag=>∃ ac an ao ai ap aq aj ae,ae=n∧Zds N ae ai aj=some r∧St w0 (Zk col) ac ag∧Zb (Za.int .u32) 95 1 ac ag an ao ai∧Zb (Za.int .u32) 95 2 ac ag ap aq aj∧[0,1].map f=[.slice an ai.length ao,.slice ap aj.length aq]) N ⟨_,_,_,_,_,_,_,_,rfl,hm,aa,am,a6,rfl⟩ ?_;clear hm;intro n f ag hI;obtain ⟨ac,an,ao,ai,ap,aq,aj,ae,hn,hm,aa,aw,ab,hs⟩:=hI;subst hn;refine .lL [0,1] hs ?_
 cases ae with
 | zero=>rw [Zds.eq_1] at hm;cases hm
 | succ ae=>
  rw [Zds.eq_2] at hm;refine go ?_;refine Zq hm (fun hb hm=>go ?_) fun hb hm=>go ?_
  ·obtain ⟨af,a7,hm⟩:=bZ hm;refine Zj (Zpt 3 4 a7 ((aw.toSlF (Zd.int .u32)).froz 2) ((ab.froz 1 (by decide)).toSlF (Zd.int .u32))) ?_;rintro _ bj ⟨a8,ax,ay,az,a2,rfl,ah,bk,ad⟩;refine ⟨_,rfl,?_⟩;replace ad:=ad.thaw (Z7 .u32) ah (((Fz.refl (col:=ac)).froz 1).froz 2) (by decide);replace ah:=ah.thawR (col:=ac);generalize Xj ag.heap.size ac a8=bm at *;refine lM (.tuple #[.slice ax af.1.length ay,.slice az af.2.1.length a2,.int .i64 af.2.2])<|lV (.slice ax af.1.length ay) (Xx rfl rfl)<|lV (.slice az af.2.1.length a2) (Xx rfl rfl)<|lV (.int .i64 af.2.2) (Xx rfl rfl)<|go ?_;replace ab:=ab.gr ah;replace ab:=ab.recolSelf 1 (by decide);replace ad:=ad.recol 2 1 (by decide);replace aa:=aa.grow ah;replace aa:=aa.recol 2 1 (by decide) (by decide);replace ab:=ab.recol 4 2 (by decide);replace ad:=ad.recolSelf 2 (by decide);replace aa:=aa.recol 4 2 (by decide) (by decide);exact ⟨ae,by omega,rfl,⟨_,_,_,_,_,_,_,_,rfl,hm,aa,ab,ad,rfl⟩⟩
  cases hm;exact ⟨rfl,_,_,_,rfl,aa.fin (cm [(1,c1)]),aa.fo aw⟩
theorem Z2g (N:Nat):∀ (n:Nat) (a:List Int),Zb6 N n a=Sz N n a
 | 0,a=>rfl
 | n+1,a=>by
  rw [Zb6.eq_2,Sz.eq_2]
  simp only [Zka,Zb5,Z2g N n]
theorem Z2h {N:Nat} {a:List Int} (h:Zn a) (hn:a.length<N) (hb:a.length≤35184372088000):Zfh N a=some (Zg (Zc a)):=by
 rw [Zfh,Z2g];exact Zoy N N a h hn (by omega)
theorem Z96 {x L nx s:Nat} (hs:s<32) (hx:x<4294967296) (hn:nx=L % 4294967296):(x+4294967296 * L) / 2 ^ s=(x+4294967296 * nx) / 2 ^ s % 4294967296+4294967296 * (L / 2 ^ s):=by
 have a:(2:Nat) ^ s * 2 ^ (32 - s)=4294967296:=by rw [← dK,show s+(32 - s)=32 by omega]
 have b:=cL s
 generalize 2 ^ s=p at *
 generalize 2 ^ (32 - s)=r at *
 have c:(x+4294967296 * L) / p / 4294967296=L / p:=by
  rw [gW,cB p,← gW]
  congr 1
  omega
 have d:(x+4294967296 * L) / p % 4294967296=(x+4294967296 * nx) / p % 4294967296:=by
  have e:x+4294967296 * L=x+4294967296 * nx+p * (4294967296 * (r * (L / 4294967296))):=by
   have g:L=nx+4294967296 * (L / 4294967296):=by omega
   have f:p * (4294967296 * (r * (L / 4294967296)))=4294967296 * (p * r) * (L / 4294967296):=by grind
   rw [f,a]
   omega
  rw [e,iC _ _ b,jA]
 rw [← c,← d]
 omega
theorem Zu7 (N s:Nat) (hs:s<32) (q r:List Int) (hq:Zn q) (hr:Zn r) (hN:q.length<N∧r.length<N) (hb:q.length≤35184372088000∧r.length≤35184372088000):∀ (n i:Nat) (u d:List Int),i≤r.length→r.length<n+i→u=d++r.drop i→d.length=i→Zn d→Zc d+4294967296 ^ i * (Zc (r.drop i) / 2 ^ s)=Zc r / 2 ^ s→
  Qm N (s:Int) q r n u (i:Int)=some (Zg (Zc q),Zg (Zc r / 2 ^ s),0)
 | 0,i,u,d,m,o,_,_,_,_=>by omega
 | n+1,i,u,d,m,o,b,c,e,j=>by
  have y:u.length=r.length:=by rw [b,nA,bI];omega
  rw [Qm.eq_2]
  by_cases hi:i<r.length
  ·have f:=aK hi
   have g:=hr.get hi
   have p:u[i]'(by omega)=r[i]:=by
    subst b
    rw [fY (by omega)]
    simp [c]
   have step:∀ a:Nat,a=Zc (r.drop (i+1)) % 4294967296→Zhp (s:Int) u (i:Int) (Qm N (s:Int) q r n) (a:Int)=some (Zg (Zc q),Zg (Zc r / 2 ^ s),0):=fun a l=>by
    have t:u32.wrap (Y6 .u64 (Wg .u64 (Yi .u64 (u64.wrap (a:Int)) 32) (u64.wrap r[i])) (s:Int))=(((r[i]).toNat+4294967296 * a) / 2 ^ s % 4294967296:Nat):=by
     rw [Xm (x:=(a:Int)) (by omega),Xm (x:=r[i]) (by omega),Zoz (by omega) (by omega),show (a:Int) * 4294967296+r[i]=(((r[i]).toNat+4294967296 * a:Nat):Int) by omega,Zot _ _ _ (by simp only [IntKind.bits];omega),Z2x]
    have k:u.set i ((((r[i]).toNat+4294967296 * a) / 2 ^ s % 4294967296:Nat):Int)=(d++[((((r[i]).toNat+4294967296 * a) / 2 ^ s % 4294967296:Nat):Int)])++r.drop (i+1):=by
     subst b
     rw [f,List.set_append_right _ _ (by omega),c,fO,fQ]
     simp
    rw [Zhp,Z1 (by omega),oB,Z6 (by omega),p,t,oB,Zmx,Zv (by omega),aD,k]
    have v:=Zu7 N s hs q r hq hr hN hb n (i+1) _ (d++[((((r[i]).toNat+4294967296 * a) / 2 ^ s % 4294967296:Nat):Int)]) (by omega) (by omega) rfl (by simp [c]) (e.app (.cons (by omega) .nil)) (by
     rw [Qs,c,Wo,Yz,aD,← j,f,Wo,Z96 hs (by omega) l,bF]
     generalize ((r[i]).toNat+4294967296 * a) / 2 ^ s % 4294967296=A
     generalize Zc (r.drop (i+1)) / 2 ^ s=C
     grind)
    exact v
   rw [if_pos (dT (by omega)),Zv (by omega)]
   by_cases hi1:i+1<r.length
   ·have w:u[i+1]'(by omega)=r[i+1]:=by
     subst b
     rw [fY (by omega)]
     simp [c]
    have B:=hr.get hi1
    rw [if_pos (dT (by omega)),show (i:Int)+1=((i+1:Nat):Int) by omega,Z1 (by omega),oB,w,show r[i+1]=((r[i+1]).toNat:Int) by omega]
    exact step _ (by rw [Ut hi1];omega)
   ·rw [if_neg (dF (by omega))]
    have:=step 0 (by rw [aO (by omega)];rfl)
    exact this
  ·have:i=r.length:=by omega
   subst this
   rw [if_neg (dF (by omega))]
   rw [gH,List.append_nil] at b
   rw [gH,Yz,Nat.zero_div,dY,bQ] at j
   subst b
   rw [Qu hq hN.1 hb.1,oB,Qu e (by omega) (by omega),oB,j]
theorem Zu6 (N s:Nat) (v:List Int) (hN:2≤N) (hv:Zn v) (hn:2≤v.length) (hbig:2147483648≤(v[v.length - 1]).toNat):∀ (n j:Nat) (u q:List Int),j≤q.length→j<n→u.length=q.length+v.length→u.length<4611686018427387904→Zn u→Zn q→Zc (u.drop j)<Zc v→Zc (q.take j)=0→
  ∃ u' q',Zfc N (s:Int) v n u q ((j:Int) - 1)=((Zfh N u').bind fun r=>Qm N (s:Int) q' r N r 0)∧u'.length=u.length∧q'.length=q.length∧Zn u'∧Zn q'∧Zc u'<Zc v∧Zc v * Zc q'+Zc u'=Zc v * Zc q+Zc u
 | 0,j,u,q,_,h,_,_,_,_,_,_=>by omega
 | n+1,j,u,q,Z,Y,C,D,d,e,f,E=>by
  rw [Zfc.eq_2]
  by_cases h0:j=0
  ·subst h0
   rw [if_neg (by decide)]
   exact ⟨u,q,rfl,rfl,rfl,d,e,by simpa using f,rfl⟩
  ·have i:j - 1+1=j:=by omega
   have k:j - 1<u.length:=by omega
   have c:j - 1<q.length:=by omega
   have g:=d.get k
   have lv:=Qt hv
   have F:=Ty (u.drop j) v.length
   rw [dR] at F
   have l:Zc (u.drop (j - 1+v.length+1))=0:=by
    rw [show j - 1+v.length+1=j+v.length by omega]
    rcases fZ (Zc (u.drop (j+v.length))) with h | h
    ·exact h
    ·have:=aR (4294967296 ^ v.length) h
     generalize 4294967296 ^ v.length=P at *
     omega
   have G:=Ut k
   rw [i] at G
   obtain ⟨u',q1,m,H,I,o,J⟩:=Z5x (N:=N) (j0:=j - 1) hN d hv hn (by omega) D l hbig (by omega)
   have p:0≤((Zc (u.drop (j - 1)) / Zc v:Nat):Int)∧((Zc (u.drop (j - 1)) / Zc v:Nat):Int)<4294967296:=⟨eJ _,gV.2 J⟩
   rw [if_pos (dT (by omega)),show (j:Int) - 1=((j - 1:Nat):Int) by omega,Zv (x:=((j - 1:Nat):Int)+(v.length:Int)) (by omega),Zv (by omega),Z6 (by omega),aD,
    show aA (((j - 1:Nat):Int)+(v.length:Int)+1) - (j - 1)=v.length+1 by omega,q1,oB,Z1 c,oB,oB,Zv (by omega)]
   have K:0<Zc v:=by omega
   -- the quotient's limb was 0
   have t:q[j - 1]=0∧Zc (q.take (j - 1))=0:=by
    have:=Zrj c
    rw [i,E] at this
    have g2:=e.get c
    have hp:0<4294967296 ^ (j - 1):=fX (by decide)
    have L:4294967296 ^ (j - 1) * (q[j - 1]).toNat=0:=by omega
    rcases Nat.mul_eq_zero.1 L with h | h
    ·omega
    ·exact ⟨by omega,by omega⟩
   obtain ⟨M,w,O,R,S,T,U,V,W⟩:=Zu6 N s v hN hv hn hbig n (j - 1) u' (q.set (j - 1) ((Zc (u.drop (j - 1)) / Zc v:Nat):Int)) (by rw [nS];omega) (by omega) (by rw [nS,m];exact C) (by omega) H (e.set _ p) (by rw [o];exact fA _ K) (by rw [Zed _ (aY _)];exact t.2)
   refine ⟨M,w,O,by rw [R,m],by rw [S,nS],T,U,V,?_⟩
   rw [W]
   have X:=Ty u (j - 1)
   have y:=Ty u' (j - 1)
   rw [I,o] at y
   have A:=Tx c ((Zc (u.drop (j - 1)) / Zc v:Nat):Int)
   rw [t.1,fP,dY,bQ,aD] at A
   rw [y,A,X]
   have B:=kW (Zc (u.drop (j - 1))) (Zc v)
   generalize Zc (u.drop (j - 1)) / Zc v=a at *
   generalize Zc (u.drop (j - 1)) % Zc v=b at *
   rw [← B]
   generalize 4294967296 ^ (j - 1)=Q at *
   grind
theorem Z2c {l:List Int} (h:0<l.length):Zc l=Zc (l.take (l.length - 1))+4294967296 ^ (l.length - 1) * (l[l.length - 1]).toNat:=by
 conv=>lhs;rw [← Zgp h,Qs,Wo,Yz]
 rw [nK,bB (by omega),dY,bQ]
theorem Z2d {l:List Int} (hl:Zn l):Zc (l.take (l.length - 1))<4294967296 ^ (l.length - 1):=by
 have:=Qt (hl.take (l.length - 1))
 rw [nK,bB (by omega)] at this
 exact this
theorem Z50 {u:List Int} {k n S:Nat} (hu:Zn u) (hk:k+n=u.length) (hn:0<n) (ht:∀ h:u.length - 1<u.length,(u[u.length - 1]).toNat<S):Zc (u.drop k)<4294967296 ^ (n - 1) * S:=by
 have a:(u.drop k).length=n:=by rw [bI];omega
 have b:=Z2c (l:=u.drop k) (by omega)
 have c:=Z2d (hu.drop k)
 have d:((u.drop k)[(u.drop k).length - 1]'(by omega))=u[u.length - 1]'(by omega):=by
  have:(u.drop k)[(u.drop k).length - 1]?=u[u.length - 1]?:=by rw [List.getElem?_drop,a];congr 1;omega
  rw [aN (by omega),aN (by omega)] at this
  exact Option.some.inj this
 rw [d] at b
 rw [a] at b c
 have e:=ht (by omega)
 have f:=aR (4294967296 ^ (n - 1)) (show (u[u.length - 1]'(by omega)).toNat+1≤S from e)
 rw [dZ] at f
 omega
theorem Zmd {N:Nat} {a b:List Int} (ha:Zn a) (hb:Zn b) (hN:a.length+b.length+4<N) (hs:a.length+b.length≤35184372088000):
  Zfb N a b=some (if Zc b=0 then ([],[],11) else (Zg (Zc a / Zc b),Zg (Zc a % Zc b),0)):=by
 have la:=Yq ha
 have lb:=Yq hb
 rw [Zfb,Qy ha (by omega) (by omega),oB,Qy hb (by omega) (by omega),oB]
 generalize hA:Zc a=A at *
 generalize hB:Zc b=B at *
 by_cases h0:B=0
 ·subst h0
  rw [Vm,if_pos (by decide),if_pos rfl]
 ·have f:0<(Zg B).length:=dH.2 (fun h=>h0 (Zgs.1 h))
  rw [if_neg (dF (by omega)),if_neg h0,Zp2 (Xf _) (Xf _) (by omega) (by omega) (by omega) (by omega),oB,Xc,Xc]
  by_cases hlt:A<B
  ·rw [if_pos hlt,if_pos (by decide),Qu (Xf _) (by omega) (by omega),oB,Xc,fH hlt,eZ hlt,Vm]
  ·rw [if_neg hlt,if_neg (by split <;> decide)]
   have a5:(Zg B).length≤(Zg A).length:=by
    have i:=W0 (k:=(Zg A).length) (n:=B)
    have c:=W0 (k:=(Zg A).length) (n:=A)
    have:=c.1 (aY _)
    exact i.2 (by omega)
   by_cases i:(Zg B).length=1
   ·have g:=(Xf B).get f
    have v:=Zmp f
    have e0:(Zg B).length - 1=0:=by omega
    have a7:(Zg B)[0]≠0:=by
     have:(Zg B)[(Zg B).length - 1]?=(Zg B)[0]?:=by rw [e0]
     rw [aN (by omega),aN (by omega)] at this
     rw [← Option.some.inj this];exact v
    have I:((Zg B)[0]).toNat=B:=by
     have c:=Xc B
     have C:=Ut (l:=Zg B) (k:=0) f
     rw [aT,c,aO (by omega),Yz] at C
     omega
    obtain ⟨q,q1,q2,q3,J⟩:=Z99 (N:=N) (a:=Zg A) (d:=(Zg B)[0]) (by omega) (Xf _) (by omega) (by omega)
    rw [I,Xc] at q1 J
    have hm:=fA A (show 0<B by omega)
    have D:B<4294967296:=by omega
    have K:Zn [((A % B:Nat):Int)]:=.cons ⟨eJ _,gV.2 (lR hm D)⟩ .nil
    rw [if_pos (dT (by omega)),Zp1 (by omega),oB,show (0:Int)=((0:Nat):Int) from rfl,Z1 f,oB,q1,oB,Qu q3 (by omega) (by omega),oB,Qu K (by simp;omega) (by simp),oB,J,Wo,Yz,aD,dY,bQ]
   ·have L:0<(Zg B).length:=f
    have M:(Zg B).length - 1<(Zg B).length:=by omega
    have g:=(Xf B).get M
    have v:=Zmp f
    obtain ⟨k,ek,k1,k2⟩:=Zl4 (show ((Zg B)[(Zg B).length - 1]).toNat≠0 by omega)
    have hk:k≤31:=by
     have:Xg ((Zg B)[(Zg B).length - 1]).toNat≤32:=Ud.2 (by omega)
     omega
    obtain ⟨s,O⟩:∃ s,s=31 - k:=⟨_,rfl⟩
    have Q:Zjy (Zg B)[(Zg B).length - 1]=some (s:Int):=by
     rw [Zjy,show (Zg B)[(Zg B).length - 1]=(((Zg B)[(Zg B).length - 1]).toNat:Int) by omega,Zw0 (by omega),oB,ek,Zv (by omega)]
     congr 1;omega
    obtain ⟨u,u1,u2,R,S,u5⟩:=Zwz (a:=Zg A) (s:=s) (by omega) (Xf _) (by omega)
    obtain ⟨w,w1,w2,w3,T,w5⟩:=Zwz (a:=Zg B) (s:=s) (by omega) (Xf _) (by omega)
    rw [Xc] at S T
    have j:=cL s
    -- the divisor, its highest Ya set
    have U:=Zgp L
    have V:=Qt ((Xf B).take ((Zg B).length - 1))
    rw [nK,bB (by omega)] at V
    have I:B=Zc ((Zg B).take ((Zg B).length - 1))+4294967296 ^ ((Zg B).length - 1) * ((Zg B)[(Zg B).length - 1]).toNat:=by
     conv=>lhs;rw [← Xc B,← U,Qs,Wo,Yz]
     rw [nK,bB (by omega)];simp
    have W:2 ^ k * 2 ^ s=2147483648:=by rw [← dK,O,show k+(31 - k)=31 by omega]
    have X:2 ^ (k+1) * 2 ^ s=4294967296:=by rw [bF,Nat.mul_right_comm,W]
    have c2:0<4294967296 ^ ((Zg B).length - 1):=fX (by decide)
    have b7:(Zg B).length - 1+1=(Zg B).length:=by omega
    have Y:(4294967296:Nat) ^ (Zg B).length=4294967296 ^ ((Zg B).length - 1) * 4294967296:=by rw [← bF];congr 1;omega
    generalize hPe:4294967296 ^ ((Zg B).length - 1)=P at *
    have b8:P * 2147483648≤2 ^ s * B:=by
     have i:=aR P k1
     have c:=bC (2 ^ s) (show P * 2 ^ k≤B by omega)
     rw [cE,W] at c
     rw [cB (2 ^ s)];exact c
    have E:2 ^ s * B<P * 4294967296:=by
     have i:=aR P (show ((Zg B)[(Zg B).length - 1]).toNat+1≤2 ^ (k+1) from k2)
     rw [dZ] at i
     have c:=iR (show B<P * 2 ^ (k+1) by omega) j
     rw [cE,X] at c
     rw [cB (2 ^ s)];exact c
    have Z:(Zg (2 ^ s * B)).length=(Zg B).length:=by
     have i:(Zg (2 ^ s * B)).length≤(Zg B).length:=W0.2 (by rw [Y];exact E)
     have c:¬ (Zg (2 ^ s * B)).length≤(Zg B).length - 1:=fun h=>by
      have:=W0.1 h
      rw [hPe] at this
      have:P * 1≤P * 2147483648:=aR _ (by decide)
      omega
     omega
    have a0:0<(Zg (2 ^ s * B)).length:=by omega
    have F:2147483648≤((Zg (2 ^ s * B))[(Zg (2 ^ s * B)).length - 1]).toNat:=by
     have a1:=Z2d (Xf (2 ^ s * B))
     have e:=Z2c a0
     have y:(4294967296:Nat) ^ ((Zg (2 ^ s * B)).length - 1)=P:=by rw [Z];exact hPe
     rw [Xc,y] at e
     rw [y] at a1
     generalize Zc ((Zg (2 ^ s * B)).take ((Zg (2 ^ s * B)).length - 1))=lo at *
     generalize ((Zg (2 ^ s * B))[(Zg (2 ^ s * B)).length - 1]).toNat=t at *
     have C:P * 2147483648<P * (t+1):=by rw [dZ];omega
     have:=fU C
     omega
    obtain ⟨q,m⟩:∃ q,q=aM ((Zg A).length - (Zg B).length+1) (0:Int):=⟨_,rfl⟩
    have lq:q.length=(Zg A).length - (Zg B).length+1:=by rw [m,bD]
    rw [if_neg (dF (by omega)),Zv (x:=((Zg B).length:Int) - 1) (by omega),show ((Zg B).length:Int) - 1=(((Zg B).length - 1:Nat):Int) by omega,Z1 M,oB,Q,oB,u1,oB,w1,oB,
     Z2h w3 (by omega) (by omega),oB,T,Zv (x:=((Zg A).length:Int) - ((Zg B).length:Int)) (by omega),Zv (x:=((Zg A).length:Int) - ((Zg B).length:Int)+1) (by omega),Z6 (by simp only [maxLen];omega),
     show aA (((Zg A).length:Int) - ((Zg B).length:Int)+1)=(Zg A).length - (Zg B).length+1 by omega,← m,Zv (x:=(q.length:Int) - 1) (by omega)]
    obtain ⟨u',q',r1,r2,r3,r4,r5,G,p⟩:=Zu6 N s (Zg (2 ^ s * B)) (by omega) (Xf _) (by omega) F N q.length u q (aY _) (by omega) (by omega) (by omega) R (by rw [m];exact .zeros _) (by
     -- the highest Zg are below the divisor
     rw [Xc]
     have i:=Z50 (k:=q.length) (n:=(Zg B).length) R (by omega) L u5
     rw [hPe] at i
     have H:2 ^ s≤2147483648:=by
      have:=gZ (n:=2) (by decide) (show s≤31 by omega)
      omega
     have h8:=aR P H
     omega) (by rw [m,List.take_replicate];exact Sf _)
    rw [r1,Z2h r4 (by omega) (by omega),oB]
    rw [Xc] at G p
    have zq:Zc q=0:=by rw [m];exact Sf _
    rw [zq,S,dY,cW] at p
    have ll:=Yq r4
    have o:=Zu7 N s (by omega) q' (Zg (Zc u')) r5 (Xf _) (by omega) (by omega) N 0 (Zg (Zc u')) [] (by omega) (by omega) (by simp) rfl .nil (by rw [Yz,aT,dX];omega)
    rw [show ((0:Nat):Int)=0 from rfl] at o
    rw [o,Xc]
    have a3:Zc q'=A / B:=by
     have r:2 ^ s * A / (2 ^ s * B)=Zc q':=by
      rw [← p,Nat.mul_add_div (by omega),fH G,bQ]
     rw [← r,Nat.mul_div_mul_left _ _ j]
    have a4:Zc u' / 2 ^ s=A % B:=by
     have r:2 ^ s * A % (2 ^ s * B)=Zc u':=by
      rw [← p,Nat.mul_add_mod,eZ G]
     rw [jW] at r
     rw [← r,Nat.mul_div_cancel_left _ j]
    rw [a3,a4]
theorem Z6y {x y:Nat} (h:y≤x) (hy:0<y):y * (x % y)≤x * y / 2:=by
 have c:x % y+y≤x:=by
  have:=Nat.mod_add_div x y
  have a:y * 1≤y * (x / y):=aR _ (Nat.div_pos h hy)
  omega
 have a:=fA x hy
 have b:y * (2 * (x % y))≤y * x:=aR _ (by omega)
 rw [gU (by decide),cB x y,cE,cB (x % y) 2]
 exact b
theorem Zqj (N:Nat):∀ (n x y:Nat),y≤x→Xg (x * y)<n→(Zg x).length+(Zg y).length+4<N→(Zg x).length+(Zg y).length≤35184372088000→Zds N n (Zg x) (Zg y)=some (Zg (dE x y))
 | 0,x,y,_,h,_,_=>by omega
 | n+1,x,y,a,i,c,d=>by
  rw [Zds.eq_2]
  by_cases h0:y=0
  ·subst h0
   rw [Vm,if_neg (by decide),Nat.gcd_zero_right]
  ·have j:0<(Zg y).length:=dH.2 (fun h=>h0 (Zgs.1 h))
   have b:=fA x (show 0<y by omega)
   have k:(Zg (x % y)).length≤(Zg y).length:=W0.2 (lR b (W0.1 (aY _)))
   have l:(Zg y).length≤(Zg x).length:=W0.2 (eS a (W0.1 (aY _)))
   rw [if_pos (dT (by omega)),Zmd (Xf _) (Xf _) c d,oB,Xc,Xc,if_neg h0]
   have e:Xg (y * (x % y))<n:=by
    have f:=Z6y a (by omega)
    have g:Xg (y * (x % y))≤Xg (x * y / 2 ^ 1):=Ud.2 (eS (by rw [Nat.pow_one];exact f) (Ud.1 (aY _)))
    rw [Zi9] at g
    have m:0<x * y:=Nat.mul_pos (by omega) (by omega)
    have o:0<Xg (x * y):=by
     rcases fZ (Xg (x * y)) with h | h
     ·have:=Ud.1 (show Xg (x * y)≤0 by omega)
      omega
     ·exact h
    omega
   have:=Zqj N n y (x % y) (lQ b) e (by omega) (by omega)
   rw [this,fR x y,Nat.gcd_rec y x,fR]
theorem Ztr (x y:Nat):Xg (x * y)≤Xg x+Xg y:=by
 refine Ud.2 ?_
 rw [dK]
 have a:=Ud.1 (aY (Xg x))
 have b:=Ud.1 (aY (Xg y))
 exact kR a b
theorem Z6x {N:Nat} {a b:List Int} (ha:Zn a) (hb:Zn b) (hN:32 * (a.length+b.length)+8<N) (hs:a.length+b.length≤35184372088000):Zj4 N a b=some (Zg (dE (Zc a) (Zc b))):=by
 have e:=Yq ha
 have f:=Yq hb
 have g:=(Zl2 (Zc a)).2
 have i:=(Zl2 (Zc b)).2
 rw [Zj4,Qu ha (by omega) (by omega),oB,Qu hb (by omega) (by omega),oB]
 by_cases h:Zc b≤Zc a
 ·have:=Ztr (Zc a) (Zc b)
  exact Zqj N N _ _ h (by omega) (by omega) (by omega)
 ·have d:Zc a<Zc b:=by omega
  have j:=Ztr (Zc b) (Zc a)
  have k:0<(Zg (Zc b)).length:=dH.2 (fun h=>by have:=Zgs.1 h;omega)
  obtain ⟨c,rfl⟩:∃ c,N=c+1:=⟨N - 1,by omega⟩
  rw [Zds.eq_2,if_pos (dT (by omega)),Zmd (Xf _) (Xf _) (by omega) (by omega),oB,Xc,Xc,if_neg (by omega),eZ d,
   Zqj (c+1) c _ _ (by omega) (by omega) (by omega) (by omega),fR]
abbrev ZV:=Bool×List Int
abbrev QV:=R5×List Int
def Zt (a:ZV):Int:=if a.1=true then -(Zc a.2:Int) else (Zc a.2:Int)
def Xv (z:Int):ZV:=(decide (z<0),Zg z.natAbs)
def Yv (l:List Int):Nat:=if Zc l=0 then 1 else Zc l
def Zr (a:QV):Rat:=mkRat (Zt a.1) (Yv a.2)
def Zo (q:Rat):QV:=(Xv q.num,Zg q.den)
structure RV (k:Nat) (a:QV):Prop where
 m:Zn a.1.2
 d:Zn a.2
 lm:a.1.2.length≤k
 ld:a.2.length≤k
def qs (q:Rat):Nat:=max (Zg q.num.natAbs).length (Zg q.den).length
def Z9 (N s:Nat):Prop:=200 * (s+4)<N∧s≤1066000000000
theorem Zeh (a:ZV):(Zt a).natAbs=Zc a.2:=by
 rw [Zt];split <;> omega
theorem T6 (z:Int):Zt (Xv z)=z:=by
 rw [Zt,Xv]
 simp only [Xc,decide_eq_true_eq]
 split <;> omega
theorem Zlb (n:Bool) (m:List Int):Xv (Zt (n,m))=(n&&decide (Zc m≠0),Zg (Zc m)):=by
 rw [Xv,Zeh]
 congr 1
 rw [Zt]
 cases n
 ·rw [if_neg (fun h=>by cases h),Bool.false_and]
  exact decide_eq_false (by omega)
 ·rw [if_pos rfl,Bool.true_and]
  exact decide_eq_decide.2 (by simp only;omega)
theorem Sc (z:Int):Zn (Xv z).2:=Xf _
theorem Tq (l:List Int):Yv l≠0:=by rw [Yv];split <;> omega
theorem Z51 {n:Nat} (h:n≠0):Yv (Zg n)=n:=by rw [Yv,Xc,if_neg h]
theorem Wt (q:Rat):Zr (Zo q)=q:=by
 rw [Zr,Zo]
 simp only [T6,Z51 q.den_nz]
 exact Rat.mkRat_self q
theorem Zlo (q:Rat):RV (qs q) (Zo q):=⟨Xf _,Xf _,eD _ _,dQ _ _⟩
theorem RV.mono {k l:Nat} {a:QV} (h:RV k a) (hl:k≤l):RV l a:=⟨h.m,h.d,aU h.lm hl,aU h.ld hl⟩
theorem Vo {q:Rat} {k:Nat} (h:qs q≤k):RV k (Zo q):=(Zlo q).mono h
theorem Z9.mono {N s t:Nat} (h:Z9 N t) (hs:s≤t):Z9 N s:=by
 obtain ⟨a,b⟩:=h
 exact ⟨by omega,by omega⟩
theorem Wx {m n:Nat} (h:m≤n):(Zg m).length≤(Zg n).length:=W0.2 (eS h (W0.1 (aY _)))
theorem U3 (m n:Nat):(Zg (m * n)).length≤(Zg m).length+(Zg n).length:=by
 refine W0.2 ?_
 rw [dK]
 exact kR (W0.1 (aY _)) (W0.1 (aY _))
theorem Zmo {m n k:Nat} (hm:(Zg m).length≤k) (hn:(Zg n).length≤k):(Zg (m+n)).length≤k+1:=by
 refine W0.2 ?_
 have a:=W0.1 hm
 have b:=W0.1 hn
 rw [bF]
 omega
theorem Tt {n:Nat} (h:n≠0):1≤(Zg n).length:=dH.2 (fun e=>h (Zgs.1 e))
theorem Z8y (q:Rat):1≤qs q:=aU (Tt q.den_nz) (dQ _ _)
theorem Zd7 {z:Int} {d k:Nat} (hz:(Zg z.natAbs).length≤k) (hd:(Zg d).length≤k) (hk:1≤k):qs (mkRat z d)≤k:=by
 rw [qs,lK,lN]
 by_cases h:d=0
 ·rw [if_pos h,if_pos h]
  simp only [kX,Vm,Ss]
  simp;omega
 ·rw [if_neg h,if_neg h]
  refine Nat.max_le.2 ⟨aU (Wx ?_) hz,aU (Wx (cU _ _)) hd⟩
  exact Int.natAbs_ediv_le_natAbs _ _
theorem Zok {k:Nat} {a:QV} (h:RV k a):qs (Zr a)≤max k 1:=by
 refine Zd7 ?_ ?_ (dQ _ _)
 ·rw [Zeh]
  exact aU (Yq h.m) (aU h.lm (eD _ _))
 ·rw [Yv]
  split
  ·rw [Ss];exact dQ _ _
  ·exact aU (Yq h.d) (aU h.ld (eD _ _))
theorem Zlg (a b:Rat):qs (a * b)≤qs a+qs b:=by
 rw [Rat.mul_def']
 have:=Z8y a
 refine Zd7 ?_ ?_ (by omega)
 ·rw [gA]
  exact aU (U3 _ _) (lG (eD _ _) (eD _ _))
 ·exact aU (U3 _ _) (lG (dQ _ _) (dQ _ _))
theorem Zr2 (a b:Rat):qs (a+b)≤qs a+qs b+1:=by
 rw [Rat.add_def']
 have c:(Zg a.num.natAbs).length≤qs a:=eD _ _
 have d:(Zg a.den).length≤qs a:=dQ _ _
 have e:(Zg b.num.natAbs).length≤qs b:=eD _ _
 have f:(Zg b.den).length≤qs b:=dQ _ _
 refine Zd7 (aU (Wx (Int.natAbs_add_le _ _)) (Zmo ?_ ?_)) ?_ (by omega)
 ·rw [gA,eY]
  have:=U3 a.num.natAbs b.den
  omega
 ·rw [gA,eY]
  have:=U3 b.num.natAbs a.den
  omega
 ·have:=U3 a.den b.den
  omega
theorem Zol:qs 0=1:=by
 rw [qs]
 simp only [Rat.zero_num,Rat.zero_den,kX,Vm,Ss]
 simp
theorem Zck:qs 1=1:=by
 rw [qs]
 simp only [Rat.one_num,Rat.one_den,Int.natAbs_one,Ss]
 simp
theorem Zx7 {neg:Bool} {num den:List Int} (hd:Zc den≠0):
  Zo (mkRat (Zt (neg,num)) (Zc den))=((neg&&decide (Zc num / dE (Zc num) (Zc den)≠0),Zg (Zc num / dE (Zc num) (Zc den))),Zg (Zc den / dE (Zc num) (Zc den))):=by
 rw [Zo,lK,lN,if_neg hd,if_neg hd,Zeh,fR (Zc den) (Zc num)]
 have a:dE (Zc num) (Zc den)≠0:=fun h=>hd (Nat.gcd_eq_zero_iff.1 h).2
 congr 1
 have e:Zt (neg,num) / ((dE (Zc num) (Zc den):Nat):Int)=Zt (neg,Zg (Zc num / dE (Zc num) (Zc den))):=by
  rw [Zt,Zt]
  simp only [Xc]
  cases neg
  ·simp
  ·simp only [if_true]
   rw [Int.neg_ediv_of_dvd (Int.natCast_dvd_natCast.2 (Nat.gcd_dvd_left _ _)),iS]
 rw [e,Zlb,Xc]
theorem Zci {a b:Int} {c d:Nat} (hc:c≠0) (hd:d≠0):mkRat a c<mkRat b d↔a * d<b * c:=by
 have f:(0:Rat)<(c:Rat):=kY.2 (by omega)
 have g:(0:Rat)<(d:Rat):=kY.2 (by omega)
 rw [dA,dA,Rat.div_lt_iff f]
 have e:(b:Rat) / d * c=(b:Rat) * c / d:=by
  rw [Rat.div_def,Rat.div_def,bH,bH,Rat.mul_comm (d:Rat)⁻¹]
 rw [e,Rat.lt_div_iff g]
 have i:((a:Rat) * (d:Rat))=((a * (d:Int):Int):Rat):=by rw [jB];rfl
 have j:((b:Rat) * (c:Rat))=((b * (c:Int):Int):Rat):=by rw [jB];rfl
 rw [i,j,Rat.intCast_lt_intCast]
theorem Zxn {a b:Int} {c d:Nat} (hc:c≠0) (hd:d≠0):mkRat a c=mkRat b d↔a * d=b * c:=Rat.mkRat_eq_iff hc hd
def Tf (a b:Rat):Int:=if a<b then -1 else if b<a then 1 else 0
def Zam (a b:Int):Int:=if a<b then -1 else if b<a then 1 else 0
def S1 (a:Rat):Int:=Tf a 0
theorem Zry {a b:Int} {c d:Nat} (hc:c≠0) (hd:d≠0):Tf (mkRat a c) (mkRat b d)=Zam (a * d) (b * c):=by
 unfold Tf Zam
 simp only [Zci hc hd,Zci hd hc]
theorem Zpa (a:Int):Zam a 0=a.sign:=by
 unfold Zam
 rcases Int.lt_trichotomy a 0 with h | h | h
 ·rw [if_pos h,Int.sign_eq_neg_one_of_neg h]
 ·rw [h];rfl
 ·rw [if_neg (by omega),if_pos h,Int.sign_eq_one_of_pos h]
theorem Z8z (a:QV):S1 (Zr a)=(Zt a.1).sign:=by
 rw [S1,Zr,show (0:Rat)=mkRat 0 1 by rw [Rat.zero_mkRat],Zry (Tq _) (by decide),← Zpa]
 simp
theorem Z81 (a:QV):Zr a=0↔Zc a.1.2=0:=by
 rw [Zr,Rat.mkRat_eq_zero (Tq _),← Zeh]
 omega
theorem Zf1 {a:Rat}:S1 a=0↔a=0:=by
 rw [S1,Tf]
 constructor
 ·intro h
  split at h
  ·cases h
  ·split at h
   ·cases h
   ·rename_i b c
    exact Rat.le_antisymm (Rat.not_lt.1 c) (Rat.not_lt.1 b)
 ·rintro rfl
  rw [if_neg dO,if_neg dO]
theorem Zr3 {a:Rat}:S1 a<0↔a<0:=by
 rw [S1,Tf]
 by_cases h:a<0
 ·rw [if_pos h];simp [h]
 ·rw [if_neg h];simp only [h,iff_false];split <;> decide
def Sd (N:Nat) (ab:R1):Option R2:=
  (Zfd N ab.2).bind fun aa=>if (decide (0<(aa.length:Int)))=true then (some aa) else ((Q9 N 1).bind fun ac=>some ac)
theorem Zat {N ad ae:Nat} {af ag:Option Addr} {col:Ze} {w0:World} {ab:R1} {r:R2} (c1:Nat) (hm:Sd N ab=some r) (aq:Sl (Za.int .u32) col w0 af ad ab.1.2) (ac:Sl (Za.int .u32) col w0 ag ae ab.2):
    Calls prog 75 #[(.agg #[.bool ab.1.1,.slice af ab.1.2.length ad,.slice ag ab.2.length ae])] w0 (fun e w'=>∃ (col':Ze) (ra1:Option Addr) (rc2:Nat),e= .returned ((.slice ra1 r.length rc2))∧Zh col w0 col' w'∧Zb (Za.int .u32) 95 c1 col' w' ra1 rc2 r):=by
 refine Xl 2 (m:=12) func75 rfl rfl rfl rfl rfl ?_;rw [Sd.eq_1] at hm;have aa:=St.start col w0;refine go ?_;refine Xs (col:=(Zk col)) 1 rfl ?_;intro ar au av ah ai;refine go ?_;refine Xk ai ?_;obtain ⟨aw,aj,hm⟩:=bZ hm;replace ac:=ac.keep (Zi.start col w0);replace aa:=aa.grow ah;refine Zj (Zpu 2 aj (ac.ks aa)) ?_;rintro _ ax ⟨ak,ay,az,rfl,al,am⟩;refine ⟨_,rfl,go ?_⟩;replace aa:=aa.grow al;refine Zq hm (fun hb hm=>go ?_) fun hb hm=>go ?_
 ·cases hm;exact ⟨rfl,_,_,_,rfl,aa.fin (cm [(2,c1)]),aa.fo am⟩
 obtain ⟨a0,an,hm⟩:=bZ hm;refine Zj (Zej (col:=ak) 3 an) ?_;rintro _ a1 ⟨a2,a3,a4,rfl,ao,ap⟩;refine ⟨_,rfl,go ?_⟩;cases hm;replace aa:=aa.grow ao;exact ⟨rfl,_,_,_,rfl,aa.fin (cm [(3,c1)]),aa.fo ap⟩
def Zik (aa:Bool) (ab:List Int):Option R5:=
  some (aa,ab)
def Zae (N:Nat) (ab:Bool) (ac:List Int):Option R5:=
  (Zfd N ac).bind fun aa=>if ab=true then (Zik (decide (0<(aa.length:Int))) aa) else (Zik false aa)
theorem Zel {N ao:Nat} {a1:Option Addr} {col:Ze} {w0:World} {ap:Bool} {ah:R2} {r:R5} (c1:Nat) (hm:Zae N ap ah=some r) (h1:Sl (Za.int .u32) col w0 a1 ao ah):
    Calls prog 145 #[.bool ap,.slice a1 ah.length ao] w0 (fun e w'=>∃ (col':Ze) (ra1:Option Addr) (rc2:Nat),e= .returned ((.agg #[.bool r.1,.slice ra1 r.2.length rc2]))∧Zh col w0 col' w'∧Zb (Za.int .u32) 95 c1 col' w' ra1 rc2 r.2):=by
 refine Wq (m:=16) func145 rfl rfl rfl ?_;rw [Zae.eq_1] at hm;have aa:=St.start col w0;refine go ?_;refine Xr (col:=(Zk col)) #[.bool false,.slice none (([]:List Int).length) 0] 1 zeroValue37 ?_;intro ax a4 a5 ay ac;refine go ?_;obtain ⟨ad,az,hm⟩:=bZ hm;replace h1:=h1.keep (Zi.start col w0);replace aa:=aa.grow ay;refine Zj (Zpu 2 az (h1.ks aa)) ?_;rintro _ a6 ⟨a7,aq,ar,rfl,au,ab⟩;refine ⟨_,rfl,?_⟩;refine Zmn rfl<|Zl<|Z0 ?_;replace ac:=ac.gr au;replace aa:=aa.grow au;refine Wp.cutK [4,1000000] (fun f ae=>∃ af ai aj ak ag,Zik ai ag=some r∧St w0 (Zk col) af ae∧Zb (Za.int .u32) 95 3 af ae aj ak ag∧Zf 37 1 af ae ax #[.bool ai,.slice aj ag.length ak]) ?_ ?_
 ·intro f ae hJ;obtain ⟨af,ai,aj,ak,ag,hm,aa,a0,ac⟩:=hJ;rw [Zik.eq_1] at hm;refine Vv ?_;cases hm;exact ⟨rfl,_,ra ac.atN,_,_,_,rfl,aa.fin (cm [(3,c1)]),aa.fo a0⟩
 refine go ?_;refine Yt hm (fun al hm=>go ?_) fun al hm=>go ?_
 ·refine lV (.bool (decide (0<(ad.length:Int)))) (Yf (congrArg Value.bool al) rfl)<|Y2 rfl<|lV (.agg #[.bool (decide (0<(ad.length:Int))),.slice aq ad.length ar]) (Wy (l:=[_,_]) (qs:=[(0,1),(1,1)]) underlying37 zeroValue37 ⟨rfl,sizeOf4,rfl,sizeOf35,trivial⟩ rfl)<|Z5 ac ?_;intro a8 av a2 am;refine Zl ?_;replace ab:=ab.kp av;replace ab:=ab.recolSelf 3 (by decide);replace am:=am.recol 2 3 (by decide);replace aa:=aa.kp av a2;replace aa:=aa.recol 2 3 (by decide) (by decide);exact ⟨rfl,_,_,_,_,_,hm,aa,ab,am⟩
 refine lV (.bool false) (X8 (congrArg Value.bool al) rfl)<|Y2 rfl<|lV (.agg #[.bool false,.slice aq ad.length ar]) (Wy (l:=[_,_]) (qs:=[(0,1),(1,1)]) underlying37 zeroValue37 ⟨rfl,sizeOf4,rfl,sizeOf35,trivial⟩ rfl)<|Z5 ac ?_;intro a9 aw a3 an;refine Zl ?_;replace ab:=ab.kp aw;replace ab:=ab.recolSelf 3 (by decide);replace an:=an.recol 2 3 (by decide);replace aa:=aa.kp aw a3;replace aa:=aa.recol 2 3 (by decide) (by decide);exact ⟨rfl,_,_,_,_,_,hm,aa,ab,an⟩
def Zk7 (N:Nat) (aa:R5) (ab:R5):Option R5:=
  (Sw N aa.2 ab.2).bind fun ad=>(Zae N (!decide (aa.1=ab.1)) ad).bind fun ac=>some (ac.1,ac.2)
theorem Z5b {N ar au:Nat} {av aw:Option Addr} {col:Ze} {w0:World} {ag ah r:R5} (c1:Nat) (hm:Zk7 N ag ah=some r) (al:Sl (Za.int .u32) col w0 av ar ag.2) (am:Sl (Za.int .u32) col w0 aw au ah.2):
    Calls prog 147 #[(.agg #[.bool ag.1,.slice av ag.2.length ar]),(.agg #[.bool ah.1,.slice aw ah.2.length au])] w0 (fun e w'=>∃ (col':Ze) (ra1:Option Addr) (rc2:Nat),e= .returned ((.agg #[.bool r.1,.slice ra1 r.2.length rc2]))∧Zh col w0 col' w'∧Zb (Za.int .u32) 95 c1 col' w' ra1 rc2 r.2):=by
 refine Wq (m:=16) func147 rfl rfl rfl ?_;rw [Zk7.eq_1] at hm;have aa:=St.start col w0;refine go ?_;refine Xs (col:=(Zk col)) 1 rfl ?_;intro a7 a8 az a0 ai;refine Xs (col:=az) 2 rfl ?_;intro a9 ba a1 ax aj;refine Xr (col:=a1) #[.bool false,.slice none (([]:List Int).length) 0] 3 zeroValue37 ?_;intro bb bc ad an ab;refine go ?_;refine W7 (col:=ad) [(0,1),(1,0),(2,1),(3,0),(4,1),(5,1),(6,0),(7,1),(8,0),(9,3),(10,3),(11,2)] (by kernel_rfl) (by kernel_rfl)<|xF ⟨_,_,rfl⟩ ?_;replace ai:=(ai.gr ax).gr an;refine xW (fun _ hC=>((ai.atN).nth (q:=0) rfl).gr (hC.bl ad)) ?_;refine xF ⟨_,_,rfl⟩ ?_;replace aj:=aj.gr an;refine xW (fun _ hC=>((aj.atN).nth (q:=0) rfl).gr (hC.bl ad)) ?_;refine xu rfl rfl (fun _=>Zit _ _ underlying4 rfl rfl) ?_;refine xF ⟨_,_,rfl⟩ ?_;refine xW (fun _ hC=>((ai.atN).nth (q:=1) rfl).gr (hC.bl ad)) ?_;refine xF ⟨_,_,rfl⟩ ?_;refine xW (fun _ hC=>((aj.atN).nth (q:=1) rfl).gr (hC.bl ad)) ?_;refine xe rfl rfl ?_;intro bd hC0;have hC:=hC0.bl ad;obtain ⟨be,a2,hm⟩:=bZ hm;replace al:=al.keep (Zi.start col w0);replace am:=am.keep (Zi.start col w0);replace aa:=(((aa.grow a0).grow ax).grow an).grow hC;refine Zj (Zcq 4 a2 (al.ks aa) (am.ks aa)) ?_;rintro _ bf ⟨af,bg,bh,rfl,ao,ap⟩;refine ⟨_,rfl,?_⟩;refine Zl<|Xz af hC0 ao<|xe rfl rfl ?_;intro a3 hC0;replace ab:=(ab.gr hC).gr ao;have hC:=hC0.bl af;obtain ⟨bi,a4,hm⟩:=bZ hm;replace ap:=ap.gr hC;refine Zj (Zel 5 a4 (ap.toSlF (Zd.int .u32))) ?_;rintro _ bj ⟨a5,bk,bm,rfl,ae,ac⟩;refine ⟨_,rfl,?_⟩;replace ac:=ac.thaw (Z7 .u32) ae ((Fz.refl (col:=af)).froz 4) (by decide);replace ae:=ae.thawR (col:=af);generalize Xj a3.heap.size af a5=ak at *;refine Zl<|Xz ak hC0 ae<|xe rfl rfl ?_;intro bn hC0;replace aa:=((aa.grow ao).grow hC).grow ae;replace ab:=(ab.gr hC).gr ae;have hC:=hC0.bl ak;replace ab:=ab.gr hC;refine Z5 ab ?_;intro bo ay a6 aq;refine Zl<|xk ak<|Wi ?_;replace ac:=(ac.gr hC).kp ay;replace aa:=(aa.grow hC).kp ay a6;intro bp hC;replace hC:=hC.bl ak;refine Vv ?_;cases hm;replace ac:=ac.gr hC;replace aq:=aq.gr hC;replace aa:=aa.grow hC;exact ⟨rfl,_,ra aq.atN,_,_,_,rfl,aa.fin (cm [(5,c1)]),aa.fo ac⟩
def Zdb (N:Nat) (aa:R5) (ac:List Int):Option R5:=
  (Zk7 N (aa.1,aa.2) (false,ac)).bind fun ab=>some (ab.1,ab.2)
theorem Zma {N ai ad:Nat} {aj a1:Option Addr} {col:Ze} {w0:World} {ab:R5} {ac:R2} {r:R5} (c1:Nat) (hm:Zdb N ab ac=some r) (ae:Sl (Za.int .u32) col w0 aj ai ab.2) (h1:Sl (Za.int .u32) col w0 a1 ad ac):
    Calls prog 74 #[(.agg #[.bool ab.1,.slice aj ab.2.length ai]),.slice a1 ac.length ad] w0 (fun e w'=>∃ (col':Ze) (ra1:Option Addr) (rc2:Nat),e= .returned ((.agg #[.bool r.1,.slice ra1 r.2.length rc2]))∧Zh col w0 col' w'∧Zb (Za.int .u32) 95 c1 col' w' ra1 rc2 r.2):=by
 refine Wq (m:=9) func74 rfl rfl rfl ?_;rw [Zdb.eq_1] at hm;have aa:=St.start col w0;refine go ?_;refine Xs (col:=(Zk col)) 1 rfl ?_;intro au av an ao af;refine Xr (col:=an) #[.bool false,.slice none (([]:List Int).length) 0] 2 zeroValue37 ?_;intro aw ax ay ak ag;refine go ?_;replace af:=af.gr ak;refine lV _ (Xd isAgg37 sizeOf37 af)<|Y2 rfl<|lV (.agg #[.bool false,.slice a1 ac.length ad]) (Wy (l:=[_,_]) (qs:=[(0,1),(1,1)]) underlying37 zeroValue37 ⟨rfl,sizeOf4,rfl,sizeOf35,trivial⟩ rfl) ?_;obtain ⟨az,ap,hm⟩:=bZ hm;replace ae:=ae.keep (Zi.start col w0);replace h1:=h1.keep (Zi.start col w0);replace aa:=(aa.grow ao).grow ak;refine Zj (Z5b 3 ap (ae.ks aa) (h1.ks aa)) ?_;rintro _ a0 ⟨a2,a3,a4,rfl,al,ah⟩;refine ⟨_,rfl,?_⟩;replace ag:=ag.gr al;refine Z5 ag ?_;intro a5 am aq ar;refine go ?_;cases hm;replace aa:=(aa.grow al).kp am aq;replace ah:=ah.kp am;exact ⟨rfl,_,ra ar.atN,_,_,_,rfl,aa.fin (cm [(3,c1)]),aa.fo ah⟩
def Zk5 (N:Nat) (aa:R5) (ab:R5):Option R5:=
  if (decide (aa.1=ab.1))=true then ((Zj2 N aa.2 ab.2).bind fun ag=>(Zae N aa.1 ag).bind fun ac=>some (ac.1,ac.2)) else ((Zhq N aa.2 ab.2).bind fun ad=>if ad.2=true then ((Zae N aa.1 ad.1).bind fun ae=>some (ae.1,ae.2)) else ((Zhq N ab.2 aa.2).bind fun ah=>(Zae N ab.1 ah.1).bind fun af=>some (af.1,af.2)))
theorem Z49 {N a3 a4:Nat} {a5 a6:Option Addr} {col:Ze} {w0:World} {ao ap r:R5} (c1:Nat) (hm:Zk5 N ao ap=some r) (ag:Sl (Za.int .u32) col w0 a5 a3 ao.2) (ah:Sl (Za.int .u32) col w0 a6 a4 ap.2):
    Calls prog 76 #[(.agg #[.bool ao.1,.slice a5 ao.2.length a3]),(.agg #[.bool ap.1,.slice a6 ap.2.length a4])] w0 (fun e w'=>∃ (col':Ze) (ra1:Option Addr) (rc2:Nat),e= .returned ((.agg #[.bool r.1,.slice ra1 r.2.length rc2]))∧Zh col w0 col' w'∧Zb (Za.int .u32) 95 c1 col' w' ra1 rc2 r.2):=by
 refine Wq (m:=47) func76 rfl rfl rfl ?_;rw [Zk5.eq_1] at hm;have aa:=St.start col w0;refine go ?_;refine Xs (col:=(Zk col)) 1 rfl ?_;intro b3 b4 bf bg ad;refine Xs (col:=bf) 2 rfl ?_;intro b5 b6 bh a7 ac;refine Xr (col:=bh) #[.bool false,.slice none (([]:List Int).length) 0] 3 zeroValue37 ?_;intro b7 b8 ai aw ab;refine go ?_;refine Yk ⟨_,_,rfl⟩ ?_;replace ad:=(ad.gr a7).gr aw;refine lW ((ad.atN).nth (q:=0) rfl)<|Yk ⟨_,_,rfl⟩ ?_;replace ac:=ac.gr aw;refine lW ((ac.atN).nth (q:=0) rfl)<|go ?_;replace ag:=ag.keep (Zi.start col w0);replace ah:=ah.keep (Zi.start col w0);replace aa:=((aa.grow bg).grow a7).grow aw;refine Zq hm (fun hb hm=>?_) fun hb hm=>go ?_
 ·refine Z0<|W7 (col:=ai) [(0,1),(1,0),(2,1),(3,0),(4,1),(5,0),(6,3),(7,3),(8,2)] (by kernel_rfl) (by kernel_rfl)<|xF ⟨_,_,rfl⟩ ?_;refine xW (fun _ hC=>((ad.atN).nth (q:=0) rfl).gr (hC.bl ai)) ?_;refine xF ⟨_,_,rfl⟩ ?_;refine xW (fun _ hC=>((ad.atN).nth (q:=1) rfl).gr (hC.bl ai)) ?_;refine xF ⟨_,_,rfl⟩ ?_;refine xW (fun _ hC=>((ac.atN).nth (q:=1) rfl).gr (hC.bl ai)) ?_;refine xe rfl rfl ?_;intro b9 hC0;have hC:=hC0.bl ai;obtain ⟨ca,bi,hm⟩:=bZ hm;replace aa:=aa.grow hC;refine Zj (Z35 4 bi (ag.ks aa) (ah.ks aa)) ?_;rintro _ cb ⟨aj,cc,cd,rfl,ax,ay⟩;refine ⟨_,rfl,?_⟩;refine Zl<|Xz aj hC0 ax<|xe rfl rfl ?_;intro bj hC0;replace ab:=(ab.gr hC).gr ax;have hC:=hC0.bl aj;obtain ⟨ce,bk,hm⟩:=bZ hm;replace ay:=ay.gr hC;refine Zj (Zel 5 bk (ay.toSlF (Zd.int .u32))) ?_;rintro _ cf ⟨bm,cg,ch,rfl,af,ae⟩;refine ⟨_,rfl,?_⟩;replace ae:=ae.thaw (Z7 .u32) af ((Fz.refl (col:=aj)).froz 4) (by decide);replace af:=af.thawR (col:=aj);generalize Xj bj.heap.size aj bm=aq at *;refine Zl<|Xz aq hC0 af<|xe rfl rfl ?_;intro ci hC0;replace aa:=((aa.grow ax).grow hC).grow af;replace ab:=(ab.gr hC).gr af;have hC:=hC0.bl aq;replace ab:=ab.gr hC;refine Z5 ab ?_;intro cj a8 bn az;refine Zl<|xk aq<|Wi ?_;replace ae:=(ae.gr hC).kp a8;replace aa:=(aa.grow hC).kp a8 bn;intro ck hC;replace hC:=hC.bl aq;refine Vv ?_;cases hm;replace ae:=ae.gr hC;replace az:=az.gr hC;replace aa:=aa.grow hC;exact ⟨rfl,_,ra az.atN,_,_,_,rfl,aa.fin (cm [(5,c1)]),aa.fo ae⟩
 refine Xk ad<|Xk ac ?_;obtain ⟨ar,bo,hm⟩:=bZ hm;refine Zj (Zt7 6 bo (ag.ks aa) (ah.ks aa)) ?_;rintro _ bp ⟨a0,a9,ba,rfl,au,bq⟩;refine ⟨_,rfl,?_⟩;refine lM (.tuple #[.slice a9 ar.1.length ba,.bool ar.2])<|lV (.slice a9 ar.1.length ba) (Xx rfl rfl)<|lV (.bool ar.2) (Xx rfl rfl)<|go ?_;replace ad:=ad.gr au;replace ac:=ac.gr au;replace ab:=ab.gr au;replace aa:=aa.grow au;refine Zq hm (fun hb hm=>go ?_) fun hb hm=>go ?_
 ·refine Xk ad<|Y2 rfl ?_;obtain ⟨cl,br,hm⟩:=bZ hm;refine Zj (Zel 7 br (bq.toSlF (Zd.int .u32))) ?_;rintro _ cn ⟨bs,co,cp,rfl,ak,al⟩;refine ⟨_,rfl,?_⟩;replace al:=al.thaw (Z7 .u32) ak ((Fz.refl (col:=a0)).froz 6) (by decide);replace ak:=ak.thawR (col:=a0);generalize Xj bp.heap.size a0 bs=cq at *;replace ab:=ab.gr ak;refine Z5 ab ?_;intro cr bb bt bu;refine go ?_;cases hm;replace aa:=(aa.grow ak).kp bb bt;replace al:=al.kp bb;exact ⟨rfl,_,ra bu.atN,_,_,_,rfl,aa.fin (cm [(7,c1)]),aa.fo al⟩
 refine Xk ac<|Xk ad ?_;obtain ⟨av,bv,hm⟩:=bZ hm;refine Zj (Zt7 8 bv (ah.ks aa) (ag.ks aa)) ?_;rintro _ bw ⟨a1,bc,bd,rfl,a2,bx⟩;refine ⟨_,rfl,?_⟩;refine lM (.tuple #[.slice bc av.1.length bd,.bool av.2])<|lV (.slice bc av.1.length bd) (Xx rfl rfl)<|lV (.bool av.2) (Xx rfl rfl)<|go ?_;refine Yk ⟨_,_,rfl⟩ ?_;replace ac:=ac.gr a2;refine lW ((ac.atN).nth (q:=0) rfl)<|Y2 rfl ?_;obtain ⟨cs,bz,hm⟩:=bZ hm;refine Zj (Zel 9 bz (bx.toSlF (Zd.int .u32))) ?_;rintro _ ct ⟨b0,cu,cv,rfl,am,an⟩;refine ⟨_,rfl,?_⟩;replace an:=an.thaw (Z7 .u32) am ((Fz.refl (col:=a1)).froz 8) (by decide);replace am:=am.thawR (col:=a1);generalize Xj bw.heap.size a1 b0=cw at *;replace ab:=(ab.gr a2).gr am;refine Z5 ab ?_;intro cx be b1 b2;refine go ?_;cases hm;replace aa:=((aa.grow a2).grow am).kp be b1;replace an:=an.kp be;exact ⟨rfl,_,ra b2.atN,_,_,_,rfl,aa.fin (cm [(9,c1)]),aa.fo an⟩
def Zk8 (N:Nat) (aa:R5):Option R5:=
  (Zae N aa.1 aa.2).bind fun ab=>some (ab.1,ab.2)
theorem Z5c {N ag:Nat} {ah:Option Addr} {col:Ze} {w0:World} {ab r:R5} (c1:Nat) (hm:Zk8 N ab=some r) (ad:Sl (Za.int .u32) col w0 ah ag ab.2):
    Calls prog 153 #[(.agg #[.bool ab.1,.slice ah ab.2.length ag])] w0 (fun e w'=>∃ (col':Ze) (ra1:Option Addr) (rc2:Nat),e= .returned ((.agg #[.bool r.1,.slice ra1 r.2.length rc2]))∧Zh col w0 col' w'∧Zb (Za.int .u32) 95 c1 col' w' ra1 rc2 r.2):=by
 refine Wq (m:=8) func153 rfl rfl rfl ?_;rw [Zk8.eq_1] at hm;have aa:=St.start col w0;refine go ?_;refine Xs (col:=(Zk col)) 1 rfl ?_;intro aq ar al am ac;refine Xr (col:=al) #[.bool false,.slice none (([]:List Int).length) 0] 2 zeroValue37 ?_;intro au av aw ai ae;refine go ?_;refine Yk ⟨_,_,rfl⟩ ?_;replace ac:=ac.gr ai;refine lW ((ac.atN).nth (q:=0) rfl)<|Xk ac ?_;obtain ⟨ax,an,hm⟩:=bZ hm;replace ad:=ad.keep (Zi.start col w0);replace aa:=(aa.grow am).grow ai;refine Zj (Zel 3 an (ad.ks aa)) ?_;rintro _ ay ⟨az,a0,a1,rfl,aj,af⟩;refine ⟨_,rfl,?_⟩;replace ae:=ae.gr aj;refine Z5 ae ?_;intro a2 ak ao ap;refine go ?_;cases hm;replace aa:=(aa.grow aj).kp ak ao;replace af:=af.kp ak;exact ⟨rfl,_,ra ap.atN,_,_,_,rfl,aa.fin (cm [(3,c1)]),aa.fo af⟩
def Zda (N:Nat) (ae:Bool) (aa:List Int) (ab:List Int):Option R1:=
  (Zj4 N aa ab).bind fun ac=>(Zfb N aa ac).bind fun af=>(Zfb N ab ac).bind fun ag=>(Zk8 N (ae,af.1)).bind fun ad=>some ((ad.1,ad.2),ag.1)
theorem Zl9 {N ay az:Nat} {a1 a2:Option Addr} {col:Ze} {w0:World} {ak:Bool} {al am:R2} {r:R1} (c1 c2:Nat) (hm:Zda N ak al am=some r) (h1:Sl (Za.int .u32) col w0 a1 ay al) (h2:Sl (Za.int .u32) col w0 a2 az am):
    Calls prog 77 #[.bool ak,.slice a1 al.length ay,.slice a2 am.length az] w0 (fun e w'=>∃ (col':Ze) (ra1:Option Addr) (rc2:Nat) (ra4:Option Addr) (rc5:Nat),e= .returned ((.agg #[.bool r.1.1,.slice ra1 r.1.2.length rc2,.slice ra4 r.2.length rc5]))∧Zh col w0 col' w'∧Zb (Za.int .u32) 95 c1 col' w' ra1 rc2 r.1.2∧Zb (Za.int .u32) 95 c2 col' w' ra4 rc5 r.2):=by
 refine Wq (m:=37) func77 rfl rfl rfl ?_;rw [Zda.eq_1] at hm;have aa:=St.start col w0;refine go ?_;refine Xr (col:=(Zk col)) #[.bool false,.slice none (([]:List Int).length) 0,.slice none (([]:List Int).length) 0] 1 zeroValue39 ?_;intro bo bp bq a8 an;refine go ?_;obtain ⟨br,a9,hm⟩:=bZ hm;replace h1:=h1.keep (Zi.start col w0);replace h2:=h2.keep (Zi.start col w0);replace aa:=aa.grow a8;refine Zj (Z37 2 a9 (h1.ks aa) (h2.ks aa)) ?_;rintro _ ba ⟨ao,bs,bt,rfl,a0,aj⟩;refine ⟨_,rfl,go ?_⟩;obtain ⟨ab,bb,hm⟩:=bZ hm;replace aa:=aa.grow a0;refine Zj (Zpt 3 4 bb ((h1.ks aa).froz 2) (aj.toSlF (Zd.int .u32))) ?_;rintro _ bc ⟨bd,ap,aq,a3,a4,rfl,ad,ag,bu⟩;refine ⟨_,rfl,?_⟩;replace ag:=ag.thaw (Z7 .u32) ad ((Fz.refl (col:=ao)).froz 2) (by decide);replace ad:=ad.thawR (col:=ao);generalize Xj ba.heap.size ao bd=ar at *;refine lM (.tuple #[.slice ap ab.1.length aq,.slice a3 ab.2.1.length a4,.int .i64 ab.2.2])<|lV (.slice ap ab.1.length aq) (Xx rfl rfl)<|lV (.slice a3 ab.2.1.length a4) (Xx rfl rfl)<|lV (.int .i64 ab.2.2) (Xx rfl rfl)<|go ?_;obtain ⟨ac,be,hm⟩:=bZ hm;replace aj:=aj.gr ad;replace aa:=aa.grow ad;refine Zj (Zpt 5 6 be ((h2.ks aa).froz 2) (aj.toSlF (Zd.int .u32))) ?_;rintro _ bf ⟨bg,au,av,a5,a6,rfl,ae,ah,bv⟩;refine ⟨_,rfl,?_⟩;replace ah:=ah.thaw (Z7 .u32) ae ((Fz.refl (col:=ar)).froz 2) (by decide);replace ae:=ae.thawR (col:=ar);generalize Xj bc.heap.size ar bg=aw at *;refine lM (.tuple #[.slice au ac.1.length av,.slice a5 ac.2.1.length a6,.int .i64 ac.2.2])<|lV (.slice au ac.1.length av) (Xx rfl rfl)<|lV (.slice a5 ac.2.1.length a6) (Xx rfl rfl)<|lV (.int .i64 ac.2.2) (Xx rfl rfl)<|go ?_;refine lV (.agg #[.bool ak,.slice ap ab.1.length aq]) (Wy (l:=[_,_]) (qs:=[(0,1),(1,1)]) underlying37 zeroValue37 ⟨rfl,sizeOf4,rfl,sizeOf35,trivial⟩ rfl) ?_;obtain ⟨a7,bh,hm⟩:=bZ hm;replace ag:=ag.gr ae;refine Zj (Z5c 7 bh (ag.toSlF (Zd.int .u32))) ?_;rintro _ bw ⟨bi,bj,bk,rfl,af,ai⟩;refine ⟨_,rfl,?_⟩;replace ai:=ai.thaw (Z7 .u32) af ((Fz.refl (col:=aw)).froz 3) (by decide);replace af:=af.thawR (col:=aw);generalize Xj bf.heap.size aw bi=bx at *
 refine Y2 rfl<|lV (.agg #[.bool a7.1,.slice bj a7.2.length bk,.slice au ac.1.length av]) (Wy (l:=[_,_]) (qs:=[(0,2),(2,1)]) underlying39 zeroValue39 ⟨rfl,sizeOf37,rfl,sizeOf35,trivial⟩ rfl) ?_;replace an:=(((an.gr a0).gr ad).gr ae).gr af;refine Z5 an ?_;intro bz ax bm bn;refine go ?_;cases hm;replace aa:=((aa.grow ae).grow af).kp ax bm;replace ah:=(ah.gr af).kp ax;replace ai:=ai.kp ax;exact ⟨rfl,_,ra bn.atN,_,_,_,_,_,rfl,aa.fin (cm [(7,c1),(5,c2)]),aa.fo ai,aa.fo ah⟩
def Su (N:Nat) (aa:R1) (ab:R1):Option R1:=
  (Sd N ((ab.1.1,ab.1.2),ab.2)).bind fun ag=>(Zdb N (aa.1.1,aa.1.2) ag).bind fun ad=>(Sd N ((aa.1.1,aa.1.2),aa.2)).bind fun ah=>(Zdb N (ab.1.1,ab.1.2) ah).bind fun ae=>(Zk5 N (ad.1,ad.2) (ae.1,ae.2)).bind fun af=>(Sd N ((aa.1.1,aa.1.2),aa.2)).bind fun ai=>(Sd N ((ab.1.1,ab.1.2),ab.2)).bind fun aj=>(Sw N ai aj).bind fun ak=>(Zda N af.1 af.2 ak).bind fun ac=>some ((ac.1.1,ac.1.2),ac.2)
theorem Zja {N bo bz bp b0:Nat} {bq b1 br b2:Option Addr} {col:Ze} {w0:World} {aj ak r:R1} (c1 c2:Nat) (hm:Su N aj ak=some r) (ba:Sl (Za.int .u32) col w0 bq bo aj.1.2) (bs:Sl (Za.int .u32) col w0 b1 bz aj.2) (bb:Sl (Za.int .u32) col w0 br bp ak.1.2) (bt:Sl (Za.int .u32) col w0 b2 b0 ak.2):
    Calls prog 16 #[(.agg #[.bool aj.1.1,.slice bq aj.1.2.length bo,.slice b1 aj.2.length bz]),(.agg #[.bool ak.1.1,.slice br ak.1.2.length bp,.slice b2 ak.2.length b0])] w0 (fun e w'=>∃ (col':Ze) (ra1:Option Addr) (rc2:Nat) (ra4:Option Addr) (rc5:Nat),e= .returned ((.agg #[.bool r.1.1,.slice ra1 r.1.2.length rc2,.slice ra4 r.2.length rc5]))∧Zh col w0 col' w'∧Zb (Za.int .u32) 95 c1 col' w' ra1 rc2 r.1.2∧Zb (Za.int .u32) 95 c2 col' w' ra4 rc5 r.2):=by
 refine Wq (m:=27) func16 rfl rfl rfl ?_;rw [Su.eq_1] at hm;have aa:=St.start col w0;refine go ?_;refine Xs (col:=(Zk col)) 1 rfl ?_;intro cd c9 ce cf ae;refine Xs (col:=ce) 2 rfl ?_;intro cg da ch ca af;refine Xr (col:=ch) #[.bool false,.slice none (([]:List Int).length) 0,.slice none (([]:List Int).length) 0] 3 zeroValue39 ?_;intro db a4 ay b3 ab;refine go ?_;have bu:=Zu.clip (fun _=>false) ay a4;refine Z2u (col:=ay) [(0,1),(1,0),(2,0),(5,1),(6,0),(7,0),(3,3),(4,3),(8,3),(9,3),(10,3),(11,4),(12,2)] (by kernel_rfl) (by kernel_rfl) ⟨fun h=>absurd h (by decide),fun h=>absurd h (by decide),fun h=>absurd h (by decide),fun h=>absurd h (by decide),fun h=>absurd h (by decide),fun h=>absurd h (by decide),fun h=>absurd h (by decide),fun h=>absurd h (by decide),fun h=>absurd h (by decide),fun h=>absurd h (by decide),fun h=>absurd h (by decide),fun _=>⟨_,_,_,rfl,Zmk zeroValue37⟩,fun h=>absurd h (by decide),trivial⟩<|Zlu (v:=(.pointer ((some (⟨cd,0,none⟩:Addr)).map (·.add 0)))) rfl rfl (fun _=>Sh (sz:=2) (off:=0) underlying39 rfl sizeOf37 (by decide) rfl rfl ⟨_,_,rfl⟩) ?_;replace ae:=((ae.gr ca).gr b3).kpp bu;refine Zi0 (v:=(.agg #[.bool aj.1.1,.slice bq aj.1.2.length bo])) rfl rfl (fun _ hC=>W4 isAgg37 sizeOf37 rfl rfl (((ae.atN).part 0 2 _ rfl).gr (hC.bl (Xb a4 ay)))) ?_;replace af:=(af.gr b3).kpp bu;refine Zi0 (v:=(.agg #[.bool ak.1.1,.slice br ak.1.2.length bp,.slice b2 ak.2.length b0])) rfl rfl (fun _ hC=>W4 isAgg39 sizeOf39 rfl rfl (af.atN.gr (hC.bl (Xb a4 ay)))) ?_;refine Zlu (v:=(.pointer ((some (⟨cg,0,none⟩:Addr)).map (·.add 0)))) rfl rfl (fun _=>Sh (sz:=2) (off:=0) underlying39 rfl sizeOf37 (by decide) rfl rfl ⟨_,_,rfl⟩) ?_;refine Zi0 (v:=(.agg #[.bool ak.1.1,.slice br ak.1.2.length bp])) rfl rfl (fun _ hC=>W4 isAgg37 sizeOf37 rfl rfl (((af.atN).part 0 2 _ rfl).gr (hC.bl (Xb a4 ay)))) ?_;refine Zi0 (v:=(.agg #[.bool aj.1.1,.slice bq aj.1.2.length bo,.slice b1 aj.2.length bz])) rfl rfl (fun _ hC=>W4 isAgg39 sizeOf39 rfl rfl (ae.atN.gr (hC.bl (Xb a4 ay)))) ?_;refine Zeg rfl rfl ?_;intro dc hC0;have hC:=hC0.bl (Xb a4 ay);obtain ⟨dd,ci,hm⟩:=bZ hm;replace bb:=bb.keep (Zi.start col w0);replace bt:=bt.keep (Zi.start col w0);replace aa:=((((aa.grow cf).grow ca).grow b3).kpp bu).grow hC;refine Zj (Zat 4 ci (bb.ks aa) (bt.ks aa)) ?_;rintro _ ao ⟨au,de,df,rfl,az,b4⟩;refine ⟨_,rfl,?_⟩
 refine Zl ?_;refine ⟨fun w'=>Zh (Xb ao au) ao (Xb ao au) w',fun g=>(Xb ao au) g=497,Zh.refl _ _,Zbm,fun _=>⟨fun _ h=>Qc hC0 az h,fun b hb=>az.below.block b hb,fun g x1 x2=>Zgm az g x1 (by first | exact x2 | (simp only [Y0,x2];rfl) | (simp only [Y0,Xy,x2];rfl))⟩,?_⟩;have bc:=Zu.clip (fun _=>false) au ao;refine Zeg rfl rfl ?_;intro cj hC0;replace ab:=(((ab.kpp bu).gr hC).gr az).kpp bc;replace ae:=((ae.gr hC).gr az).kpp bc;replace af:=((af.gr hC).gr az).kpp bc;have hC:=hC0.bl (Xb ao au);obtain ⟨dg,ck,hm⟩:=bZ hm;replace ba:=ba.keep (Zi.start col w0);replace aa:=((aa.grow az).kpp bc).grow hC;replace b4:=(b4.kpp bc).gr hC;refine Zj (Zma 5 ck ((ba.ks aa).froz 4) (b4.toSlF (Zd.int .u32))) ?_;rintro _ a5 ⟨cl,dh,di,rfl,am,ap⟩;refine ⟨_,rfl,?_⟩;replace bs:=bs.keep (Zi.start col w0);replace ap:=ap.thaw (Z7 .u32) am ((Fz.refl (col:=(Xb ao au))).froz 4) (by decide);replace am:=am.thawR (col:=(Xb ao au));generalize Xj cj.heap.size (Xb ao au) cl=bd at *;refine Zl ?_;refine ⟨fun w'=>Zh (Xb a5 bd) a5 (Xb a5 bd) w',fun g=>(Xb a5 bd) g=497,Zh.refl _ _,Zbm,fun _=>⟨fun _ h=>Qc hC0 am h,fun b hb=>am.below.block b hb,fun g x1 x2=>Zgm am g x1 (by first | exact x2 | (simp only [Y0,x2];rfl) | (simp only [Y0,Xy,x2];rfl))⟩,?_⟩;have be:=Zu.clip (fun _=>false) bd a5;refine Zeg rfl rfl ?_;intro dj hC0;replace ae:=((ae.gr hC).gr am).kpp be;replace af:=((af.gr hC).gr am).kpp be;replace ab:=((ab.gr hC).gr am).kpp be;have hC:=hC0.bl (Xb a5 bd);obtain ⟨dl,cn,hm⟩:=bZ hm;replace aa:=((aa.grow am).kpp be).grow hC;refine Zj (Zat 6 cn (ba.ks aa) (bs.ks aa)) ?_;rintro _ aq ⟨av,dm,dn,rfl,aw,b5⟩;refine ⟨_,rfl,?_⟩;refine Zl ?_;refine ⟨fun w'=>Zh (Xb aq av) aq (Xb aq av) w',fun g=>(Xb aq av) g=497,Zh.refl _ _,Zbm,fun _=>⟨fun _ h=>Qc hC0 aw h,fun b hb=>aw.below.block b hb,fun g x1 x2=>Zgm aw g x1 (by first | exact x2 | (simp only [Y0,x2];rfl) | (simp only [Y0,Xy,x2];rfl))⟩,?_⟩;have a6:=Zu.clip (fun _=>false) av aq;refine Zeg rfl rfl ?_;intro co hC0;replace ap:=(((ap.kpp be).gr hC).gr aw).kpp a6;replace ae:=((ae.gr hC).gr aw).kpp a6;replace af:=((af.gr hC).gr aw).kpp a6;replace ab:=((ab.gr hC).gr aw).kpp a6;have hC:=hC0.bl (Xb aq av)
 obtain ⟨dp,cp,hm⟩:=bZ hm;replace aa:=((aa.grow aw).kpp a6).grow hC;replace b5:=(b5.kpp a6).gr hC;refine Zj (Zma 7 cp ((bb.ks aa).froz 6) (b5.toSlF (Zd.int .u32))) ?_;rintro _ ar ⟨cq,dq,dr,rfl,al,bf⟩;refine ⟨_,rfl,?_⟩;replace bf:=bf.thaw (Z7 .u32) al ((Fz.refl (col:=(Xb aq av))).froz 6) (by decide);replace al:=al.thawR (col:=(Xb aq av));generalize Xj co.heap.size (Xb aq av) cq=ax at *;refine Zl ?_;refine ⟨fun w'=>Zh (Xb ar ax) ar (Xb ar ax) w',fun g=>(Xb ar ax) g=497,Zh.refl _ _,Zbm,fun _=>⟨fun _ h=>Qc hC0 al h,fun b hb=>al.below.block b hb,fun g x1 x2=>Zgm al g x1 (by first | exact x2 | (simp only [Y0,x2];rfl) | (simp only [Y0,Xy,x2];rfl))⟩,?_⟩;have a7:=Zu.clip (fun _=>false) ax ar;refine Zeg rfl rfl ?_;intro cr hC0;replace ap:=((ap.gr hC).gr al).kpp a7;replace ae:=((ae.gr hC).gr al).kpp a7;replace af:=((af.gr hC).gr al).kpp a7;replace ab:=((ab.gr hC).gr al).kpp a7;have hC:=hC0.bl (Xb ar ax);obtain ⟨ds,cs,hm⟩:=bZ hm;replace bf:=(bf.kpp a7).gr hC;replace ap:=ap.gr hC;refine Zj (Z49 8 cs ((ap.toSlF (Zd.int .u32)).froz 7) ((bf.froz 5 (by decide)).toSlF (Zd.int .u32))) ?_;rintro _ ac ⟨ct,dt,du,rfl,an,ag⟩;refine ⟨_,rfl,?_⟩;replace ag:=ag.thaw (Z7 .u32) an (((Fz.refl (col:=(Xb ar ax))).froz 5).froz 7) (by decide);replace an:=an.thawR (col:=(Xb ar ax));generalize Xj cr.heap.size (Xb ar ax) ct=ad at *;refine Zl ?_;refine ⟨fun w'=>Zh (Xb ac ad) ac (Xb ac ad) w',fun g=>(Xb ac ad) g=497,Zh.refl _ _,Zbm,fun _=>⟨fun _ h=>Qc hC0 an h,fun b hb=>an.below.block b hb,fun g x1 x2=>Zgm an g x1 (by first | exact x2 | (simp only [Y0,x2];rfl) | (simp only [Y0,Xy,x2];rfl))⟩,?_⟩;have bg:=Zu.clip (fun _=>false) ad ac;refine xaF rfl rfl (Zmk zeroValue37) ?_;intro ah cu;refine Zeg rfl rfl ?_;intro cv ⟨hC0,hZ0⟩;replace aa:=((((aa.grow al).kpp a7).grow hC).grow an).kpp bg;replace ae:=((ae.gr hC).gr an).kpp bg;replace af:=((af.gr hC).gr an).kpp bg;replace ab:=((ab.gr hC).gr an).kpp bg;have hC:=hC0.bl (Xb ac ad);obtain ⟨bh,b6⟩:=Ztt (col:=(Xb ac ad)) 9 hZ0 cu;replace b6:Zf 37 9 (Vt ah 9 (Xb ac ad)) cv ah #[.bool false,.slice none (([]:List Int).length) 0]:=b6;refine Z5 b6 ?_
 intro ai bi cw bv;refine Zl ?_;refine ⟨fun w'=>Zh (Xb ai (Vt ah 9 (Xb ac ad))) ai (Xb ai (Vt ah 9 (Xb ac ad))) w',fun g=>(Xb ai (Vt ah 9 (Xb ac ad))) g=497,Zh.refl _ _,Zbm,fun h=>absurd h (by decide),?_⟩;have a8:=Zu.clip (fun _=>false) (Vt ah 9 (Xb ac ad)) ai;refine Z2z ?_;replace ag:=((((ag.kpp bg).gr hC).kpp bh).kp bi).kpp a8;replace ae:=(((ae.gr hC).kpp bh).kp bi).kpp a8;replace af:=(((af.gr hC).kpp bh).kp bi).kpp a8;replace ab:=(((ab.gr hC).kpp bh).kp bi).kpp a8;replace aa:=(((aa.grow hC).kpp bh).kp bi cw).kpp a8;intro cb hC;replace hC:Zh (Xb ai (Vt ah 9 (Xb ac ad))) ai (Xb ai (Vt ah 9 (Xb ac ad))) cb:=.of_below hC.below;refine Z0<|W7 (col:=(Xb ai (Vt ah 9 (Xb ac ad)))) [(0,1),(1,0),(2,1),(3,0),(4,0),(6,0),(5,3),(7,3),(8,3),(9,3),(10,2)] (by kernel_rfl) (by kernel_rfl)<|xF ⟨_,_,rfl⟩ ?_;replace bv:=(bv.kpp a8).gr hC;refine xW (fun _ hC=>((bv.atN).nth (q:=0) rfl).gr (hC.bl (Xb ai (Vt ah 9 (Xb ac ad))))) ?_;refine xF ⟨_,_,rfl⟩ ?_;refine xW (fun _ hC=>((bv.atN).nth (q:=1) rfl).gr (hC.bl (Xb ai (Vt ah 9 (Xb ac ad))))) ?_;replace ae:=ae.gr hC;refine xv rfl rfl (fun _ hC=>Xd isAgg39 sizeOf39 (ae.gr (hC.bl (Xb ai (Vt ah 9 (Xb ac ad)))))) ?_;replace af:=af.gr hC;refine xv rfl rfl (fun _ hC=>Xd isAgg39 sizeOf39 (af.gr (hC.bl (Xb ai (Vt ah 9 (Xb ac ad)))))) ?_;refine xe rfl rfl ?_;intro cx hC0;replace ag:=ag.gr hC;replace ab:=ab.gr hC;replace aa:=aa.grow hC;have hC:Zh (Xb ai (Vt ah 9 (Xb ac ad))) cb (Xb ai (Vt ah 9 (Xb ac ad))) cx:=.of_below hC0.below;obtain ⟨dv,cy,hm⟩:=bZ hm;replace aa:=aa.grow hC;refine Zj (Zat 10 cy (ba.ks aa) (bs.ks aa)) ?_;rintro _ dw ⟨cc,dx,dy,rfl,bw,bj⟩;refine ⟨_,rfl,?_⟩;refine Zl<|Xz cc hC0 bw<|xe rfl rfl ?_;intro dz hC0;replace ag:=(ag.gr hC).gr bw;replace ab:=(ab.gr hC).gr bw;have hC:=hC0.bl cc;obtain ⟨d0,cz,hm⟩:=bZ hm;replace aa:=(aa.grow bw).grow hC;refine Zj (Zat 11 cz (bb.ks aa) (bt.ks aa)) ?_;rintro _ d1 ⟨bk,d2,d3,rfl,bm,b7⟩;refine ⟨_,rfl,?_⟩;refine Zl<|Xz bk hC0 bm<|xe rfl rfl ?_;intro c0 hC0;replace ag:=(ag.gr hC).gr bm;replace bj:=(bj.gr hC).gr bm;replace ab:=(ab.gr hC).gr bm;have hC:=hC0.bl bk
 obtain ⟨d4,c3,hm⟩:=bZ hm;replace bj:=bj.gr hC;replace b7:=b7.gr hC;refine Zj (Zcq 12 c3 ((bj.toSlF (Zd.int .u32)).froz 11) ((b7.froz 10 (by decide)).toSlF (Zd.int .u32))) ?_;rintro _ d5 ⟨c4,d6,d7,rfl,a0,bn⟩;refine ⟨_,rfl,?_⟩;replace bn:=bn.thaw (Z7 .u32) a0 (((Fz.refl (col:=bk)).froz 10).froz 11) (by decide);replace a0:=a0.thawR (col:=bk);generalize Xj c0.heap.size bk c4=a9 at *;refine Zl<|Xz a9 hC0 a0<|xe rfl rfl ?_;intro c5 hC0;replace aa:=((aa.grow bm).grow hC).grow a0;replace ag:=(ag.gr hC).gr a0;replace ab:=(ab.gr hC).gr a0;have hC:=hC0.bl a9;obtain ⟨d8,c6,hm⟩:=bZ hm;replace ag:=ag.gr hC;replace bn:=bn.gr hC;refine Zj (Zl9 13 14 c6 ((ag.toSlF (Zd.int .u32)).froz 12) ((bn.froz 8 (by decide)).toSlF (Zd.int .u32))) ?_;rintro _ d9 ⟨c7,ea,eb,ec,ed,rfl,a1,a2,a3⟩;refine ⟨_,rfl,?_⟩;replace a2:=a2.thaw (Z7 .u32) a1 (((Fz.refl (col:=a9)).froz 8).froz 12) (by decide);replace a3:=a3.thaw (Z7 .u32) a1 (((Fz.refl (col:=a9)).froz 8).froz 12) (by decide);replace a1:=a1.thawR (col:=a9);generalize Xj c5.heap.size a9 c7=bx at *;refine Zl<|Xz bx hC0 a1<|xe rfl rfl ?_;intro ee hC0;replace ab:=(ab.gr hC).gr a1;replace aa:=(aa.grow hC).grow a1;have hC:=hC0.bl bx;replace ab:=ab.gr hC;refine Z5 ab ?_;intro ef b8 c8 b9;refine Zl<|xk bx<|Wi ?_;replace a2:=(a2.gr hC).kp b8;replace a3:=(a3.gr hC).kp b8;replace aa:=(aa.grow hC).kp b8 c8;intro eg hC;replace hC:=hC.bl bx;refine Vv ?_;cases hm;replace a2:=a2.gr hC;replace a3:=a3.gr hC;replace b9:=b9.gr hC;replace aa:=aa.grow hC;exact ⟨rfl,_,ra b9.atN,_,_,_,_,_,rfl,aa.fin (cm [(13,c1),(14,c2)]),aa.fo a2,aa.fo a3⟩
def Qg (N:Nat) (aa:R1) (ab:R1):Option R1:=
  (Sw N aa.1.2 ab.1.2).bind fun ad=>(Sd N ((aa.1.1,aa.1.2),aa.2)).bind fun ae=>(Sd N ((ab.1.1,ab.1.2),ab.2)).bind fun af=>(Sw N ae af).bind fun ag=>(Zda N (!decide (aa.1.1=ab.1.1)) ad ag).bind fun ac=>some ((ac.1.1,ac.1.2),ac.2)
theorem Zl7 {N a4 a5 a6 a7:Nat} {a8 a9 ba bb:Option Addr} {col:Ze} {w0:World} {ai aj r:R1} (c1 c2:Nat) (hm:Qg N ai aj=some r) (ar:Sl (Za.int .u32) col w0 a8 a4 ai.1.2) (ax:Sl (Za.int .u32) col w0 a9 a5 ai.2) (au:Sl (Za.int .u32) col w0 ba a6 aj.1.2) (ay:Sl (Za.int .u32) col w0 bb a7 aj.2):
    Calls prog 28 #[(.agg #[.bool ai.1.1,.slice a8 ai.1.2.length a4,.slice a9 ai.2.length a5]),(.agg #[.bool aj.1.1,.slice ba aj.1.2.length a6,.slice bb aj.2.length a7])] w0 (fun e w'=>∃ (col':Ze) (ra1:Option Addr) (rc2:Nat) (ra4:Option Addr) (rc5:Nat),e= .returned ((.agg #[.bool r.1.1,.slice ra1 r.1.2.length rc2,.slice ra4 r.2.length rc5]))∧Zh col w0 col' w'∧Zb (Za.int .u32) 95 c1 col' w' ra1 rc2 r.1.2∧Zb (Za.int .u32) 95 c2 col' w' ra4 rc5 r.2):=by
 refine Wq (m:=25) func28 rfl rfl rfl ?_;rw [Qg.eq_1] at hm;have aa:=St.start col w0;refine go ?_;refine Xs (col:=(Zk col)) 1 rfl ?_;intro bt bu bf bg al;refine Xs (col:=bf) 2 rfl ?_;intro bv bw bh bc am;refine Xr (col:=bh) #[.bool false,.slice none (([]:List Int).length) 0,.slice none (([]:List Int).length) 0] 3 zeroValue39 ?_;intro bx bz ad az ab;refine go ?_;refine W7 (col:=ad) [(0,1),(1,1),(2,0),(3,1),(4,1),(5,0),(6,1),(7,1),(8,1),(9,0),(10,1),(11,1),(12,0),(14,0),(16,0),(13,3),(15,3),(17,3),(18,3),(19,3),(20,2)] (by kernel_rfl) (by kernel_rfl)<|xF ⟨_,_,rfl⟩ ?_;refine xF (Zbj ⟨_,_,rfl⟩) ?_;replace al:=(al.gr bc).gr az;refine xW (fun _ hC=>((((al.atN).part 0 2 _ rfl)).nth (q:=0) rfl).gr (hC.bl ad)) ?_;refine xF ⟨_,_,rfl⟩ ?_;refine xF (Zbj ⟨_,_,rfl⟩) ?_;replace am:=am.gr az;refine xW (fun _ hC=>((((am.atN).part 0 2 _ rfl)).nth (q:=0) rfl).gr (hC.bl ad)) ?_;refine xu rfl rfl (fun _=>Zit _ _ underlying4 rfl rfl) ?_;refine xF ⟨_,_,rfl⟩ ?_;refine xF (Zbj ⟨_,_,rfl⟩) ?_;refine xW (fun _ hC=>((((al.atN).part 0 2 _ rfl)).nth (q:=1) rfl).gr (hC.bl ad)) ?_;refine xF ⟨_,_,rfl⟩ ?_;refine xF (Zbj ⟨_,_,rfl⟩) ?_;refine xW (fun _ hC=>((((am.atN).part 0 2 _ rfl)).nth (q:=1) rfl).gr (hC.bl ad)) ?_;refine xv rfl rfl (fun _ hC=>Xd isAgg39 sizeOf39 (al.gr (hC.bl ad))) ?_;refine xv rfl rfl (fun _ hC=>Xd isAgg39 sizeOf39 (am.gr (hC.bl ad))) ?_;refine xe rfl rfl ?_;intro b0 hC0;have hC:=hC0.bl ad;obtain ⟨b1,bi,hm⟩:=bZ hm;replace ar:=ar.keep (Zi.start col w0);replace au:=au.keep (Zi.start col w0);replace aa:=(((aa.grow bg).grow bc).grow az).grow hC;refine Zj (Zcq 4 bi (ar.ks aa) (au.ks aa)) ?_;rintro _ b2 ⟨bd,b3,b4,rfl,a0,ac⟩;refine ⟨_,rfl,?_⟩;refine Zl<|Xz bd hC0 a0<|xe rfl rfl ?_;intro b5 hC0;replace ab:=(ab.gr hC).gr a0;have hC:=hC0.bl bd;obtain ⟨b6,bj,hm⟩:=bZ hm;replace ax:=ax.keep (Zi.start col w0);replace aa:=(aa.grow a0).grow hC;refine Zj (Zat 5 bj (ar.ks aa) (ax.ks aa)) ?_;rintro _ b7 ⟨be,b8,b9,rfl,av,an⟩;refine ⟨_,rfl,?_⟩;refine Zl<|Xz be hC0 av<|xe rfl rfl ?_;intro ca hC0;replace ac:=(ac.gr hC).gr av;replace ab:=(ab.gr hC).gr av;have hC:=hC0.bl be;obtain ⟨cb,bk,hm⟩:=bZ hm;replace ay:=ay.keep (Zi.start col w0);replace aa:=(aa.grow av).grow hC
 refine Zj (Zat 6 bk (au.ks aa) (ay.ks aa)) ?_;rintro _ cc ⟨ao,cd,ce,rfl,ap,a1⟩;refine ⟨_,rfl,?_⟩;refine Zl<|Xz ao hC0 ap<|xe rfl rfl ?_;intro bm hC0;replace ac:=(ac.gr hC).gr ap;replace an:=(an.gr hC).gr ap;replace ab:=(ab.gr hC).gr ap;have hC:=hC0.bl ao;obtain ⟨cf,bn,hm⟩:=bZ hm;replace an:=an.gr hC;replace a1:=a1.gr hC;refine Zj (Zcq 7 bn ((an.toSlF (Zd.int .u32)).froz 6) ((a1.froz 5 (by decide)).toSlF (Zd.int .u32))) ?_;rintro _ cg ⟨bo,ch,ci,rfl,ae,aq⟩;refine ⟨_,rfl,?_⟩;replace aq:=aq.thaw (Z7 .u32) ae (((Fz.refl (col:=ao)).froz 5).froz 6) (by decide);replace ae:=ae.thawR (col:=ao);generalize Xj bm.heap.size ao bo=ak at *;refine Zl<|Xz ak hC0 ae<|xe rfl rfl ?_;intro bp hC0;replace aa:=((aa.grow ap).grow hC).grow ae;replace ac:=(ac.gr hC).gr ae;replace ab:=(ab.gr hC).gr ae;have hC:=hC0.bl ak;obtain ⟨cj,bq,hm⟩:=bZ hm;replace ac:=ac.gr hC;replace aq:=aq.gr hC;refine Zj (Zl9 8 9 bq ((ac.toSlF (Zd.int .u32)).froz 7) ((aq.froz 4 (by decide)).toSlF (Zd.int .u32))) ?_;rintro _ ck ⟨br,cl,cn,co,cp,rfl,af,ag,ah⟩;refine ⟨_,rfl,?_⟩;replace ag:=ag.thaw (Z7 .u32) af (((Fz.refl (col:=ak)).froz 4).froz 7) (by decide);replace ah:=ah.thaw (Z7 .u32) af (((Fz.refl (col:=ak)).froz 4).froz 7) (by decide);replace af:=af.thawR (col:=ak);generalize Xj bp.heap.size ak br=aw at *;refine Zl<|Xz aw hC0 af<|xe rfl rfl ?_;intro cq hC0;replace ab:=(ab.gr hC).gr af;replace aa:=(aa.grow hC).grow af;have hC:=hC0.bl aw;replace ab:=ab.gr hC;refine Z5 ab ?_;intro cr a2 bs a3;refine Zl<|xk aw<|Wi ?_;replace ag:=(ag.gr hC).kp a2;replace ah:=(ah.gr hC).kp a2;replace aa:=(aa.grow hC).kp a2 bs;intro cs hC;replace hC:=hC.bl aw;refine Vv ?_;cases hm;replace ag:=ag.gr hC;replace ah:=ah.gr hC;replace a3:=a3.gr hC;replace aa:=aa.grow hC;exact ⟨rfl,_,ra a3.atN,_,_,_,_,_,rfl,aa.fin (cm [(8,c1),(9,c2)]),aa.fo ag,aa.fo ah⟩
def Zd3 (N:Nat) (aa:R5):Option Int:=
  (Zj3 N aa.2).bind fun ab=>if (decide (ab=0))=true then (some 0) else (if aa.1=true then (some (-1)) else (some 1))
theorem Zmb {N af:Nat} {ag:Option Addr} {col:Ze} {w0:World} {ab:R5} {r:Int} (hm:Zd3 N ab=some r) (ae:Sl (Za.int .u32) col w0 ag af ab.2):
    Calls prog 62 #[(.agg #[.bool ab.1,.slice ag ab.2.length af])] w0 (fun e w'=>e= .returned ((.int .i64 r))∧Below w0.heap.size w0 w'):=by
 refine Xl 2 (m:=11) func62 rfl rfl rfl rfl rfl ?_;rw [Zd3.eq_1] at hm;have aa:=St.start col w0;refine go ?_;refine Xs (col:=(Zk col)) 1 rfl ?_;intro am ai ah aj ac;refine go ?_;refine Xk ac ?_;obtain ⟨an,ak,hm⟩:=bZ hm;replace ae:=ae.keep (Zi.start col w0);replace aa:=aa.grow aj;refine Zj (Z36 ak (ae.ks aa)) ?_;rintro _ al ⟨rfl,ad⟩;refine ⟨_,rfl,?_⟩;replace ad:Zh ah ai ah al:=.of_below ad;refine go ?_;replace ac:=ac.gr ad;replace aa:=aa.grow ad;refine Zq hm (fun hb hm=>go ?_) fun hb hm=>go ?_
 ·cases hm;exact ⟨rfl,rfl,aa.below⟩
 refine Xk ac ?_;refine go ?_;refine Zq hm (fun hb hm=>go ?_) fun hb hm=>go ?_
 ·cases hm;exact ⟨rfl,rfl,aa.below⟩
 cases hm;exact ⟨rfl,rfl,aa.below⟩
def Zk6 (N:Nat) (aa:R5) (ab:R5):Option Int:=
  (Zd3 N (aa.1,aa.2)).bind fun ac=>(Zd3 N (ab.1,ab.2)).bind fun ad=>if (decide (ac<ad))=true then (some (-1)) else (if (decide (ad<ac))=true then (some 1) else ((Ze9 N aa.2 ab.2).bind fun ae=>some (i64.wrap (ac * ae))))
theorem Z5a {N aj ak:Nat} {al am:Option Addr} {col:Ze} {w0:World} {ad ae:R5} {r:Int} (hm:Zk6 N ad ae=some r) (af:Sl (Za.int .u32) col w0 al aj ad.2) (ag:Sl (Za.int .u32) col w0 am ak ae.2):
    Calls prog 73 #[(.agg #[.bool ad.1,.slice al ad.2.length aj]),(.agg #[.bool ae.1,.slice am ae.2.length ak])] w0 (fun e w'=>e= .returned ((.int .i64 r))∧Below w0.heap.size w0 w'):=by
 refine Xl 4 (m:=26) func73 rfl rfl rfl rfl rfl ?_;rw [Zk6.eq_1] at hm;have aa:=St.start col w0;refine go ?_;refine Xs (col:=(Zk col)) 1 rfl ?_;intro az a0 ao ap ac;refine Xs (col:=ao) 2 rfl ?_;intro a1 a2 ab an ah;refine go ?_;refine V4 (col:=ab) (by kernel_rfl) (by kernel_rfl) ?_;replace ac:=ac.gr an;refine qv rfl (fun _ hC=>Xd isAgg37 sizeOf37 (ac.gr (hC.bl ab))) ?_;obtain ⟨aq,ar,hm⟩:=bZ hm;replace af:=af.keep (Zi.start col w0);replace aa:=(aa.grow ap).grow an;refine qc (v:=(.int .i64 aq)) rfl (fun _ hC=>⟨_,_,Zr6 call62 rfl,(Zmb ar ((af.ks aa).gr (hC.bl ab)):).mono fun _ _ h=>⟨h.1,hC.trans (.of_below h.2)⟩⟩) ?_;refine qv rfl (fun _ hC=>Xd isAgg37 sizeOf37 (ah.gr (hC.bl ab))) ?_;obtain ⟨au,av,hm⟩:=bZ hm;replace ag:=ag.keep (Zi.start col w0);refine qc (v:=(.int .i64 au)) rfl (fun _ hC=>⟨_,_,Zr6 call62 rfl,(Zmb av ((ag.ks aa).gr (hC.bl ab)):).mono fun _ _ h=>⟨h.1,hC.trans (.of_below h.2)⟩⟩) ?_;refine go ?_;refine Vc ?_;intro aw hC;replace hC:=hC.bl ab;refine go ?_;replace ac:=ac.gr hC;replace ah:=ah.gr hC;replace aa:=aa.grow hC;refine Zq hm (fun hb hm=>go ?_) fun hb hm=>go ?_
 ·cases hm;exact ⟨rfl,rfl,aa.below⟩
 refine Zq hm (fun hb hm=>go ?_) fun hb hm=>go ?_
 ·cases hm;exact ⟨rfl,rfl,aa.below⟩
 refine Xk ac<|Xk ah ?_;obtain ⟨a3,ax,hm⟩:=bZ hm;refine Zj (Zps ax (af.ks aa) (ag.ks aa)) ?_;rintro _ ay ⟨rfl,ai⟩;refine ⟨_,rfl,?_⟩;replace ai:Zh ab aw ab ay:=.of_below ai;refine go ?_;cases hm;replace aa:=aa.grow ai;exact ⟨rfl,rfl,aa.below⟩

end Go.Proofs.YtkhnlgdenkikoaaGreat
