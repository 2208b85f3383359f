/-
  What functions of the program compute, as plain Lean functions (m_..), and proofs that they compute it (c_..). Printed by a program of the author; no conditions.
-/
import Derived.Test.YtkhnlgdenkikoaaGreatLearnMostBFloat
import Derived.Test.YtkhnlgdenkikoaaGreatProg
import Derived.Test.YtkhnlgdenkikoaaGreatLearnMostBBrief
import Derived.Test.YtkhnlgdenkikoaaGreatLearnMostBPiece
set_option linter.unusedVariables false
set_option maxRecDepth 100000
set_option maxHeartbeats 2000000
namespace Go.Proofs.YtkhnlgdenkikoaaGreat
open Go Go.RowKit
open Go.IntKind (i8 i16 i32 i64 u8 u16 u32 u64)
open Go.Proofs.Tryz
abbrev R6:=List ByteArray
abbrev Re:=List R6
abbrev R5:=List Int
abbrev R9:=List R5
abbrev R8:=Bool×List Int
abbrev R4:=R8×List Int
abbrev R7:=List R4
abbrev Rb:=List R7
abbrev R0:=ByteArray×List ByteArray×Re×R9×Rb
abbrev Ra:=Int×List Int
abbrev Rc:=List Int×List Int×Int
abbrev Rd:=R4×List Int
abbrev Rf:=Int×Int
abbrev Rg:=List Int×Bool
abbrev Rh:=List Int×Int
theorem oB {α β:Type} {a:α} {f:α→Option β}:(some a).bind f=f a:=rfl
theorem dT {p:Prop} [i:Decidable p] (h:p):decide p=true:=decide_eq_true h
theorem dF {p:Prop} [i:Decidable p] (h:¬p):¬(decide p=true):=fun q=>h (of_decide_eq_true q)
theorem nA {α:Type _} {a b:List α}:(a++b).length=a.length+b.length:=List.length_append
theorem nC {α:Type _} {a:α} {b:List α}:(a :: b).length=b.length+1:=rfl
theorem nS {α:Type _} {a:List α} {i:Nat} {b:α}:(a.set i b).length=a.length:=List.length_set
theorem nK {α:Type _} {i:Nat} {a:List α}:(a.take i).length=min i a.length:=List.length_take
theorem nN {α:Type _}:([]:List α).length=0:=rfl

theorem Z0 {x:Int} (h:-9223372036854775808≤x∧x≤9223372036854775807):i64.wrap x=x:=by rw [IntKind.wrap_i64];omega
theorem Z9 {α:Type} {c:Prop} [Decidable c] {x:Option α} (h:c):Zt c x=x:=if_pos h
theorem Z5 {α:Type} {xs:List α} {k:Nat} (h:k<xs.length):Zm xs (k:Int)=some xs[k]:=by rw [Zhe];exact List.getElem?_eq_getElem h
theorem wS {k:Nat} (h:k<9223372036854775807):i64.wrap ((k:Int)+1)=((k+1:Nat):Int):=by rw [Z0 (by omega)];rfl
theorem Zjj {α:Type} [DecidableEq α]:∀ {l r:List α},l.Nodup→(∀ x ∈ l,x ∈ r)→l.length≤r.length
 | [],_,_,_=>Nat.zero_le _
 | x :: l,r,h,hs=>by
  have h1:=List.nodup_cons.1 h
  have hx:=hs x List.mem_cons_self
  have h2:=Zjj (r:=r.erase x) h1.2 fun y hy=>(List.mem_erase_of_ne (fun e=>h1.1 (by rw [← e];exact hy))).2 (hs y (List.mem_cons_of_mem _ hy))
  rw [List.length_erase_of_mem hx] at h2
  have:=List.length_pos_of_mem hx
  rw [nC];omega
section
variable {K V:Type} [DecidableEq K]
theorem Zeg (p:K×V) (es:List (K×V)) (k:K):Wi (p :: es) k=if p.1=k then some p.2 else Wi es k:=by
 rw [Wi,List.find?_cons]
 by_cases h:p.1=k
 ·rw [if_pos h,decide_eq_true h];rfl
 ·rw [if_neg h,decide_eq_false h];rfl
theorem Z39 (es:List (K×V)) (k k':K) (v:V) (h:Wi es k=none):Wi (es++[(k,v)]) k'=if k'=k then some v else Wi es k':=by
 induction es with
 | nil=>
  rw [List.nil_append,Zeg]
  by_cases hk:k=k'
  ·subst hk;simp
  ·rw [if_neg hk,if_neg (Ne.symm hk)]
 | cons p es ih=>
  rw [Zeg] at h
  split at h
  ·cases h
  ·rename_i hp
   rw [List.cons_append,Zeg,Zeg,ih h]
   by_cases h1:p.1=k'
   ·rw [if_pos h1,if_pos h1,if_neg (fun e=>hp (h1.trans e))]
   ·rw [if_neg h1,if_neg h1]
theorem Z4a (es:List (K×V)) (k k':K) (v:V):Wi (es.map fun p=>if p.1=k then (k,v) else p) k'=if k'=k then (Wi es k).map fun _=>v else Wi es k':=by
 induction es with
 | nil=>simp [Wi]
 | cons p es ih=>
  rw [List.map_cons,Zeg,Zeg,Zeg,ih]
  by_cases h1:p.1=k
  ·rw [if_pos h1,if_pos h1]
   by_cases h2:k'=k
   ·subst h2;rw [if_pos rfl,if_pos rfl];rfl
   ·rw [if_neg (Ne.symm h2),if_neg h2,if_neg h2,if_neg (fun e=>h2 (e.symm.trans h1))]
  ·rw [if_neg h1,if_neg h1]
   by_cases h3:p.1=k'
   ·rw [if_pos h3,if_pos h3,if_neg (fun e=>h1 (h3.trans e))]
   ·rw [if_neg h3,if_neg h3]
theorem Zu7 (es:List (K×V)) (k k':K) (v:V):Wi (Sh es k v) k'=if k'=k then some v else Wi es k':=by
 rw [Sh]
 by_cases h:(Wi es k).isSome=true
 ·rw [if_pos h,Z4a]
  obtain ⟨u,hu⟩:=Option.isSome_iff_exists.1 h
  rw [hu];rfl
 ·rw [if_neg h]
  exact Z39 es k k' v (by simpa using h)
end
def Zc:List Int→Nat
 | []=>0
 | x :: l=>x.toNat+4294967296 * Zc l
def Zn (l:List Int):Prop:=∀ x ∈ l,0≤x∧x<4294967296
def Zg (n:Nat):List Int:=if n=0 then [] else ((n % 4294967296:Nat):Int) :: Zg (n / 4294967296)
termination_by n
decreasing_by omega
theorem Zn.nil:Zn []:=by simp [Zn]
theorem Zn.cons {x:Int} {l:List Int} (h:0≤x∧x<4294967296) (hl:Zn l):Zn (x :: l):=fun y hy=>by
 rcases List.mem_cons.1 hy with rfl | hy
 ·exact h
 ·exact hl y hy
theorem Zn.head {x:Int} {l:List Int} (h:Zn (x :: l)):0≤x∧x<4294967296:=h x List.mem_cons_self
theorem Zn.tail {x:Int} {l:List Int} (h:Zn (x :: l)):Zn l:=fun y hy=>h y (List.mem_cons_of_mem _ hy)
theorem Zn.app {a b:List Int} (ha:Zn a) (hb:Zn b):Zn (a++b):=fun y hy=>by
 rcases List.mem_append.1 hy with h | h
 ·exact ha y h
 ·exact hb y h
theorem Zn.take {a:List Int} (h:Zn a) (k:Nat):Zn (a.take k):=fun y hy=>h y (List.mem_of_mem_take hy)
theorem Zn.drop {a:List Int} (h:Zn a) (k:Nat):Zn (a.drop k):=fun y hy=>h y (List.mem_of_mem_drop hy)
theorem Zn.zeros (k:Nat):Zn (List.replicate k 0):=fun y hy=>by
 rw [List.eq_of_mem_replicate hy];decide
theorem Zn.set {a:List Int} (h:Zn a) (k:Nat) {v:Int} (hv:0≤v∧v<4294967296):Zn (a.set k v):=fun y hy=>by
 rcases List.mem_or_eq_of_mem_set hy with h1 | rfl
 ·exact h y h1
 ·exact hv
theorem Zn.get {a:List Int} (h:Zn a) {k:Nat} (hk:k<a.length):0≤a[k]∧a[k]<4294967296:=h _ (List.getElem_mem hk)
theorem Yt:Zc []=0:=rfl
theorem Y7 (x:Int) (l:List Int):Zc (x :: l)=x.toNat+4294967296 * Zc l:=rfl
theorem Si (a b:List Int):Zc (a++b)=Zc a+4294967296 ^ a.length * Zc b:=by
 induction a with
 | nil=>simp [Zc]
 | cons x a ih=>
  rw [List.cons_append,Y7,Y7,ih,nC,Nat.pow_succ]
  grind
theorem Sk (k:Nat):Zc (List.replicate k 0)=0:=by
 induction k with
 | zero=>rfl
 | succ k ih=>rw [List.replicate_succ,Y7,ih];rfl
theorem Sj {l:List Int} (h:Zn l):Zc l<4294967296 ^ l.length:=by
 induction l with
 | nil=>simp [Zc]
 | cons x l ih=>
  have h1:=h.head
  have h2:=ih h.tail
  rw [Y7,nC,Nat.pow_succ]
  have h3:(Zc l+1) * 4294967296≤4294967296 ^ l.length * 4294967296:=Nat.mul_le_mul_right _ h2
  omega
theorem Z8 (n:Nat):Zc (Zg n)=n:=by
 induction n using Nat.strongRecOn with
 | ind n ih=>
  rw [Zg]
  split
  ·rename_i h;rw [h];rfl
  ·rename_i h
   rw [Y7,ih (n / 4294967296) (by omega)]
   omega
theorem W0:Zg 0=[]:=by rw [Zg,if_pos rfl]
theorem Zc4 {n:Nat} (h:n≠0):Zg n=((n % 4294967296:Nat):Int) :: Zg (n / 4294967296):=by rw [Zg,if_neg h]
theorem Zam:Zg 1=[1]:=by rw [Zc4 (by decide)];simp [W0]
theorem Xa (n:Nat):Zn (Zg n):=by
 induction n using Nat.strongRecOn with
 | ind n ih=>
  rw [Zg]
  split
  ·exact .nil
  ·exact .cons (by omega) (ih (n / 4294967296) (by omega))
theorem Wq {k n:Nat}:(Zg n).length≤k↔n<4294967296 ^ k:=by
 induction k generalizing n with
 | zero=>
  by_cases h:n=0
  ·subst h;simp [W0]
  ·rw [Zc4 h];simp;omega
 | succ k ih=>
  by_cases h:n=0
  ·subst h;simp [W0];exact Nat.pow_pos (by decide)
  ·rw [Zc4 h,nC,Nat.add_le_add_iff_right,ih,Nat.pow_succ]
   omega
theorem Yx {l:List Int} (h:Zn l):(Zg (Zc l)).length≤l.length:=Wq.2 (Sj h)
theorem Ze3 {n:Nat}:Zg n=[]↔n=0:=by
 by_cases h:n=0
 ·subst h;simp [W0]
 ·rw [Zc4 h];simp [h]
theorem Zut {x:Int} {l:List Int} (h:0≤x∧x<4294967296) (h0:x=0→Zc l≠0):Zg (Zc (x :: l))=x :: Zg (Zc l):=by
 have hn:Zc (x :: l)≠0:=by
  rw [Y7]
  by_cases hx:x=0
  ·have:=h0 hx;omega
  ·omega
 rw [Zc4 hn,Y7]
 congr 1
 ·omega
 ·congr 1;omega
theorem Z4t {a:List Int} {x:Int} (h:0<x):Zc (a++[x])≠0:=by
 rw [Si,Y7,Yt]
 have:0<4294967296 ^ a.length * (x.toNat+4294967296 * 0):=Nat.mul_pos (Nat.pow_pos (by decide)) (by omega)
 omega
theorem Z34 {a:List Int} {x:Int} (h:Zn (a++[x])) (hx:x≠0):Zg (Zc (a++[x]))=a++[x]:=by
 induction a with
 | nil=>
  have:=h.head
  rw [List.nil_append,Zut this (fun e=>absurd e hx),Yt,W0]
 | cons y a ih=>
  have h1:0≤x∧x<4294967296:=h x (by simp)
  rw [List.cons_append,Zut h.head fun _=>Z4t (by omega),ih h.tail]
theorem Zvq (a:List Int):Zc (a++[0])=Zc a:=by rw [Si];simp [Zc]
theorem Ze2 {l:List Int} (h:0<l.length):l.take (l.length - 1)++[l[l.length - 1]]=l:=by
 have:=List.take_append_drop (l.length - 1) l
 rw [List.drop_eq_getElem_cons (by omega),List.drop_eq_nil_of_le (by omega)] at this
 exact this
theorem Zk4 {n:Nat} (h:0<(Zg n).length):(Zg n)[(Zg n).length - 1]≠0:=by
 induction n using Nat.strongRecOn with
 | ind n ih=>
  by_cases h0:n=0
  ·subst h0;simp [W0] at h
  ·have e:=Zc4 h0
   by_cases h1:n / 4294967296=0
   ·have:Zg n=[((n % 4294967296:Nat):Int)]:=by rw [e,h1,W0]
    simp only [this,List.length_singleton,Nat.sub_self,List.getElem_cons_zero]
    omega
   ·have h2:0<(Zg (n / 4294967296)).length:=by
     rw [Zc4 h1];simp
    have:=ih (n / 4294967296) (by omega) h2
    have e2:(Zg n).length - 1=(Zg (n / 4294967296)).length - 1+1:=by rw [e];simp;omega
    have e3:(Zg n)[(Zg n).length - 1]?=(Zg (n / 4294967296))[(Zg (n / 4294967296)).length - 1]?:=by
     rw [e2]
     conv=>lhs;rw [e]
     rw [List.getElem?_cons_succ]
    rw [List.getElem?_eq_getElem (by omega),List.getElem?_eq_getElem (by omega)] at e3
    rw [Option.some.inj e3]
    exact this
theorem Ts {l:List Int} {k:Nat} (hk:k<l.length) (v:Int):Zc (l.set k v)+4294967296 ^ k * (l[k]).toNat=Zc l+4294967296 ^ k * v.toNat:=by
 induction l generalizing k with
 | nil=>simp at hk
 | cons x l ih=>
  cases k with
  | zero=>simp only [List.set_cons_zero,Y7,List.getElem_cons_zero,Nat.pow_zero,Nat.one_mul];omega
  | succ k=>
   have h:=ih (k:=k) (by simpa using hk)
   simp only [List.set_cons_succ,Y7,List.getElem_cons_succ,Nat.pow_succ]
   grind
theorem Zp4 {l:List Int} {k:Nat} (hk:k<l.length):Zc (l.take (k+1))=Zc (l.take k)+4294967296 ^ k * (l[k]).toNat:=by
 rw [List.take_add_one,List.getElem?_eq_getElem hk,Si,Option.toList_some,Y7,Yt,nK,Nat.min_eq_left (by omega)]
 simp
theorem Ub {l:List Int} {k:Nat} (hk:k<l.length):Zc (l.drop k)=(l[k]).toNat+4294967296 * Zc (l.drop (k+1)):=by
 rw [List.drop_eq_getElem_cons hk,Y7]
theorem Uv (l:List Int) (k:Nat):Zc l=Zc (l.take k)+4294967296 ^ k * Zc (l.drop k):=by
 by_cases h:k≤l.length
 ·conv=>lhs;rw [← List.take_append_drop k l]
  rw [Si,nK,Nat.min_eq_left h]
 ·rw [List.take_of_length_le (by omega),List.drop_eq_nil_of_le (by omega)];simp [Zc]
theorem V5 {x:Int} (h:0≤x∧x<4294967296):u32.wrap x=x:=by rw [IntKind.wrap_u32];omega
theorem Xj {x:Int} (h:0≤x∧x<18446744073709551616):u64.wrap x=x:=by rw [IntKind.wrap_u64];omega
theorem Zek {x:Int}:Yw .u64 x 32=x / 4294967296:=by
 have:(min (32:Int).toNat u64.bits)=32:=by decide
 rw [Yw,this]
 exact Int.fdiv_eq_ediv_of_nonneg _ (by decide)
def Za1 (aa:List Int) (kk_L1:(List Int→Option R5)) (ab:Bool):Option R5:=
  if ab=true then (Zt ((0:Int)≤(i64.wrap ((aa.length:Int) - 1))∧(i64.wrap ((aa.length:Int) - 1))≤(aa.length:Int)) (kk_L1 (aa.take (Int.toNat (i64.wrap ((aa.length:Int) - 1)))))) else (some aa)
def Tr (N:Nat):Nat→R5→Option R5
  | 0,_=>none
  | ab+1,aa=>if (decide (0<(aa.length:Int)))=true then ((Zm aa (i64.wrap ((aa.length:Int) - 1))).bind fun ac=>Za1 aa (Tr N ab) (decide (ac=0))) else (Za1 aa (Tr N ab) false)
termination_by structural x=>x
def Ug (N:Nat) (aa:List Int):Option R5:=
  Tr N N aa
theorem T5 {N ap:Nat} {a0:Option Addr} {col:Ze} {w0:World} {ag r:R5} (hm:Ug N ag=some r) (h0:Sl (Za.int .u32) col w0 a0 ap ag):
    Calls prog 142 #[.slice a0 ag.length ap] w0 (fun e w'=>∃ (col':Ze) (ra1:Option Addr) (rc2:Nat),e= .returned ((.slice ra1 r.length rc2))∧Zh col w0 col' w'∧Sl (Za.int .u32) col' w' ra1 rc2 r):=by
 refine Xf 2 (m:=21) func142 rfl rfl rfl rfl rfl ?_;rw [Ug.eq_1] at hm;have ab:=St.start col w0;refine go ?_;replace h0:=h0.keep (Zi.start col w0);refine Zu [1000000] (fun n f ah=>∃ ai ad ae aa af,af=n∧Tr N af aa=some r∧St w0 (Zj col) ai ah∧Sl (Za.int .u32) ai ah ad ae aa∧[0].map f=[.slice ad aa.length ae]) N ⟨_,_,_,_,_,rfl,hm,ab,(h0.ks ab),rfl⟩ ?_;clear hm;intro n f ah hI;obtain ⟨ai,ad,ae,aa,af,hn,hm,ab,ac,hs⟩:=hI;subst hn;refine .lL [0] hs ?_
 cases af with
 | zero=>rw [Tr.eq_1] at hm;cases hm
 | succ af=>
  rw [Tr.eq_2] at hm;refine Zs<|Zs ?_;refine Wp.cutK [0,1000000] (fun f aj=>∃ ak al,Za1 aa (Tr N af) al=some r∧St w0 (Zj col) ak aj∧Sl (Za.int .u32) ak aj ad ae aa∧[14].map f=[.bool al]) ?_ ?_
  ·intro f aj hJ;obtain ⟨ak,al,hm,ab,ac,hs⟩:=hJ;rw [Za1.eq_1] at hm;refine .lL [14] hs ?_;refine Zo hm (fun hb hm=>go ?_) fun hb hm=>go ?_
   ·obtain ⟨am,hm⟩:=Z3 hm;refine lv (v:=.slice ad (Int.toNat (i64.wrap ((aa.length:Int) - 1))) ae) rfl rfl (Zju underlying35 sizeOf95 rfl rfl am.1 (by have:=ac.1.2;have:=am.2;omega))<|.ld (d:=19) (v:=(.slice ad ((aa.take (Int.toNat (i64.wrap ((aa.length:Int) - 1)))).length) ae)) (congrArg (fun n=>Value.slice ad n ae) (List.length_take_of_le (show (Int.toNat (i64.wrap ((aa.length:Int) - 1)))≤aa.length by have:=am.2;omega)).symm) ?_;refine go ?_;exact ⟨af,by omega,rfl,⟨_,_,_,_,_,rfl,hm,ab,(ac.take (Int.toNat (i64.wrap ((aa.length:Int) - 1)))),rfl⟩⟩
   cases hm;exact ⟨rfl,_,_,_,rfl,ab.fin (cm []),ab.fs ac⟩
  refine go ?_;refine Yc hm (fun an hm=>go ?_) fun an hm=>go ?_
  ·obtain ⟨aq,ao,hm⟩:=bZ hm;refine lI ao (ac.addr ao) ?_;refine go ?_;refine lW (ac.atInt ao)<|go ?_;refine lV (.bool (decide (aq=0))) (Xr (congrArg Value.bool an) rfl)<|Zl ?_;exact ⟨rfl,_,_,hm,ab,ac,rfl⟩
  refine lV (.bool false) (Xq (congrArg Value.bool an) rfl)<|Zl ?_;exact ⟨rfl,_,_,hm,ab,ac,rfl⟩
def Zds (N:Nat) (ab:List Int) (ac:List Int):Nat→Int→Option Int
  | 0,_=>none
  | af+1,aa=>if (decide (0≤aa))=true then ((Zm ab aa).bind fun ad=>(Zm ac aa).bind fun ae=>if (decide (ad<ae))=true then (some (-1)) else (if (decide (ae<ad))=true then (some 1) else ((Zds N ab ac af) (i64.wrap (aa - 1))))) else (some 0)
termination_by structural x=>x
def Zdr (N:Nat) (ac:List Int) (ad:List Int):Option Int:=
  (Ug N ac).bind fun aa=>(Ug N ad).bind fun ab=>if (!decide ((aa.length:Int)=(ab.length:Int)))=true then (if (decide ((aa.length:Int)<(ab.length:Int)))=true then (some (-1)) else (some 1)) else (Zds N aa ab N (i64.wrap ((aa.length:Int) - 1)))
theorem Zn2 {N al am:Nat} {a0 a1:Option Addr} {col:Ze} {w0:World} {ai aj:R5} {r:Int} (hm:Zdr N ai aj=some r) (h0:Sl (Za.int .u32) col w0 a0 al ai) (h1:Sl (Za.int .u32) col w0 a1 am aj):
    Calls prog 133 #[.slice a0 ai.length al,.slice a1 aj.length am] w0 (fun e w'=>e= .returned ((.int .i64 r))∧Below w0.heap.size w0 w'):=by
 refine Xf 4 (m:=45) func133 rfl rfl rfl rfl rfl ?_;rw [Zdr.eq_1] at hm;have aa:=St.start col w0;refine go ?_;obtain ⟨an,aq,hm⟩:=bZ hm;replace h0:=h0.keep (Zi.start col w0);refine Zk (T5 aq (h0.ks aa)) ?_;rintro _ az ⟨a2,ar,au,rfl,av,ab⟩;refine ⟨_,rfl,?_⟩;refine Yk rfl ?_;obtain ⟨ao,aw,hm⟩:=bZ hm;replace h1:=h1.keep (Zi.start col w0);replace aa:=aa.grow av;refine Zk (T5 aw (h1.ks aa)) ?_;rintro _ a3 ⟨a4,ax,ay,rfl,ap,ad⟩;refine ⟨_,rfl,go ?_⟩;replace ab:=ab.gr ap;replace aa:=aa.grow ap;refine Zo hm (fun hb hm=>go ?_) fun hb hm=>go ?_
 ·refine Zo hm (fun hb hm=>go ?_) fun hb hm=>go ?_
  ·cases hm;exact ⟨rfl,rfl,aa.below⟩
  cases hm;exact ⟨rfl,rfl,aa.below⟩
 refine Zu [0,1,1000000] (fun n f ah=>∃ ac ak ae,ae=n∧Zds N an ao ae ak=some r∧St w0 (Zj col) ac ah∧Sl (Za.int .u32) ac ah ar au an∧Sl (Za.int .u32) ac ah ax ay ao∧[5].map f=[.int .i64 ak]) N ⟨_,_,_,rfl,hm,aa,ab,ad,rfl⟩ ?_;clear hm;intro n f ah hI;obtain ⟨ac,ak,ae,hn,hm,aa,ab,ad,hs⟩:=hI;subst hn;refine .lL [5] hs ?_
 cases ae with
 | zero=>rw [Zds.eq_1] at hm;cases hm
 | succ ae=>
  rw [Zds.eq_2] at hm;refine go ?_;refine Zo hm (fun hb hm=>go ?_) fun hb hm=>go ?_
  ·refine Vj (col:=ac) (by kernel_rfl) (by kernel_rfl)<|go ?_;obtain ⟨a5,af,hm⟩:=bZ hm;refine qI af (ab.addr af)<|qW (fun _ hC=>(ab.gr (hC.bl ac)).atInt af) ?_;refine go ?_;obtain ⟨a6,ag,hm⟩:=bZ hm;refine qI ag (ad.addr ag)<|qW (fun _ hC=>(ad.gr (hC.bl ac)).atInt ag) ?_;refine go ?_;refine Ws ?_;intro a7 hC;replace hC:=hC.bl ac;replace ab:=ab.gr hC;replace ad:=ad.gr hC;replace aa:=aa.grow hC;refine Zo hm (fun hb hm=>go ?_) fun hb hm=>go ?_
   ·cases hm;exact ⟨rfl,rfl,aa.below⟩
   refine Vj (col:=ac) (by kernel_rfl) (by kernel_rfl)<|go ?_;refine qI af (ab.addr af)<|qW (fun _ hC=>(ab.gr (hC.bl ac)).atInt af) ?_;refine go ?_;refine qI ag (ad.addr ag)<|qW (fun _ hC=>(ad.gr (hC.bl ac)).atInt ag) ?_;refine go ?_;refine Ws ?_;intro a8 hC;replace hC:=hC.bl ac;replace ab:=ab.gr hC;replace ad:=ad.gr hC;replace aa:=aa.grow hC;refine Zo hm (fun hb hm=>go ?_) fun hb hm=>go ?_
   ·cases hm;exact ⟨rfl,rfl,aa.below⟩
   exact ⟨ae,by omega,rfl,⟨_,_,_,rfl,hm,aa,ab,ad,rfl⟩⟩
  cases hm;exact ⟨rfl,rfl,aa.below⟩
theorem Z26:Wd prog 95 1 4:=⟨Tryz.t95,_,rfl,rfl,rfl,rfl,rfl⟩
def Zec (aa:List Int):Option R5:=
  Zt ((([]:List Int).length+aa.length) * 4≤140737488355328∧([]:List Int).length+aa.length≤maxLen) (some (([]:List Int)++aa))
theorem Zn5 {ad:Nat} {a0:Option Addr} {col:Ze} {w0:World} {ac r:R5} (c1:Nat) (hm:Zec ac=some r) (h0:Sl (Za.int .u32) col w0 a0 ad ac):
    Calls prog 188 #[.slice a0 ac.length ad] w0 (fun e w'=>∃ (col':Ze) (ra1:Option Addr) (rc2:Nat),e= .returned ((.slice ra1 r.length rc2))∧Zh col w0 col' w'∧Zb (Za.int .u32) 95 c1 col' w' ra1 rc2 r):=by
 refine Xf 2 (m:=8) func188 rfl rfl rfl rfl rfl ?_;rw [Zec.eq_1] at hm;have aa:=St.start col w0;refine go ?_;replace h0:=h0.keep (Zi.start col w0);rcases Zp0 h0 with ab | ab
 ·replace hm:some ([]:List Int)=some r:=by have h0:=ab.2;subst h0;simpa [Zt,maxLen] using hm
  refine lv (v:=.bool a0.isNone) rfl rfl (Zgw underlying35 rfl)<|.ld (d:=4) (v:=.bool true) (congrArg Value.bool ab.1)<|Zl<|Xt rfl<|go ?_;cases hm;exact ⟨rfl,_,none,0,rfl,aa.fin (cm []),Zb.nil⟩
 refine lv (v:=.bool a0.isNone) rfl rfl (Zgw underlying35 rfl)<|.ld (d:=4) (v:=.bool false) (congrArg Value.bool ab)<|Zl<|Xs rfl<|go ?_;refine Zoo (col:=(Zj col)) (r:=(Za.int .u32)) 1 rfl underlying35 Z26 rfl ?_;intro aj ak al ae af;refine Yk rfl ?_;obtain ⟨ag,hm⟩:=Z3 hm;replace h0:=h0.gr ae;refine W7 af h0.srcC ag ?_;intro am an ao ap ah ai;refine go ?_;cases hm;replace aa:=(aa.grow ae).kpp ah;exact ⟨rfl,_,_,_,rfl,aa.fin (cm [(1,c1)]),aa.fo ai⟩
def Zlh (aa:Int) (kk_L1:(List Int→Int→Int→Option R5)) (ab:List Int) (ac:Int):Option R5:=
  kk_L1 ab ac (i64.wrap (aa+1))
def Zf8 (ab:List Int) (aa:Int) (kk_L1:(List Int→Int→Int→Option R5)) (ac:Int) (ad:Int):Option R5:=
  (Zm ab aa).bind fun ae=>(some (ab.set (Int.toNat aa) (u32.wrap (ae - (u32.wrap ac))))).bind fun af=>Zlh aa kk_L1 af ad
def Zf7 (aa:List Int) (ab:Int) (kk_L1:(List Int→Int→Int→Option R5)) (ac:Int):Option R5:=
  (Zm aa ab).bind fun ad=>if (decide ((u64.wrap ad)<ac))=true then (Zf8 aa ab kk_L1 ac 1) else (Zf8 aa ab kk_L1 ac 0)
def Tq (N:Nat) (ac:List Int) (ab:List Int):Nat→R5→Int→Int→Option R5
  | 0,_,_,_=>none
  | ae+1,ad,af,aa=>if (decide (aa<(ac.length:Int)))=true then (if (decide (aa<(ab.length:Int)))=true then ((Zm ab aa).bind fun ag=>Zf7 ad aa (Tq N ac ab ae) (u64.wrap (af+(u64.wrap ag)))) else (Zf7 ad aa (Tq N ac ab ae) af)) else (some ad)
termination_by structural x=>x
def Zlg (N:Nat) (aa:List Int) (ab:List Int):Option R5:=
  Tq N aa ab N aa 0 0
theorem Z03 {N ae an:Nat} {a0 a1:Option Addr} {col:Ze} {w0:World} {ab ag r:R5} (qc0:Nat) (hm:Zlg N ab ag=some r) (hd:V9 [qc0]=true) (h0:Zb (Za.int .u32) 95 qc0 col w0 a0 ae ab) (h1:Sl (Za.int .u32) col w0 a1 an ag):
    Calls prog 190 #[.slice a0 ab.length ae,.slice a1 ag.length an] w0 (fun e w'=>∃ (col':Ze),e= .returned (.tuple #[])∧Zq (pS [qc0]) col w0 col' w'∧Zb (Za.int .u32) 95 qc0 col' w' a0 ae r∧r.length=ab.length):=by
 refine Zbh (m:=40) (args:=[.slice a0 ab.length ae,.slice a1 ag.length an]) func190 rfl rfl rfl rfl ?_;rw [Zlg.eq_1] at hm;have aa:=St.startL (l:=[qc0]) rfl col w0;replace h0:=h0.startL (U6 hd 0 rfl) (U5 hd 0 rfl);refine go ?_;refine Zu [1,8,1000000] (fun n f ao=>∃ ap ac aq ah af,af=n∧Tq N ab ag af ac aq ah=some r∧St w0 (Xc [qc0] col) ap ao∧Zb (Za.int .u32) 95 440 ap ao a0 ae ac∧ac.length=ab.length∧ac.length=ab.length∧[0,4,9].map f=[.slice a0 ac.length ae,.int .u64 aq,.int .i64 ah]) N ⟨_,_,0,0,_,rfl,hm,aa,h0,rfl,rfl,rfl⟩ ?_;clear hm;intro n f ao hI;obtain ⟨ap,ac,aq,ah,af,hn,hm,aa,ad,a8,a9,hs⟩:=hI;subst hn;refine .lL [0,4,9] hs ?_;replace h1:=h1.keep (Zi.startL [qc0] col w0)
 cases af with
 | zero=>rw [Tq.eq_1] at hm;cases hm
 | succ af=>
  rw [Tq.eq_2] at hm;refine go ?_;refine Zo hm (fun hb hm=>?_) fun hb hm=>go ?_
  ·refine X0<|Zs ?_;refine Wp.cutK [1,8,9,1000000] (fun f ar=>∃ au ai av,Zlh ah (Tq N ab ag af) ai av=some r∧St w0 (Xc [qc0] col) au ar∧Zb (Za.int .u32) 95 440 au ar a0 ae ai∧ai.length=ab.length∧ai.length=ab.length∧[0,4].map f=[.slice a0 ai.length ae,.int .u64 av]) ?_ ?_
   ·intro f ar hJ;obtain ⟨au,ai,av,hm,aa,ba,bb,bc,hs⟩:=hJ;rw [Zlh.eq_1] at hm;refine .lL [0,4] hs<|go ?_;exact ⟨af,by omega,rfl,⟨_,_,_,_,_,rfl,hm,aa,ba,bb,bc,rfl⟩⟩
   refine Zbd<|Zs<|Wl<|Xp rfl<|Yv rfl<|Zl<|Zs<|Wl<|Xp rfl<|Yv rfl<|Zl<|Zs ?_;refine Wp.cutK [0,1,5,8,9,1000000] (fun f aw=>∃ ax aj,Zf7 ac ah (Tq N ab ag af) aj=some r∧St w0 (Xc [qc0] col) ax aw∧Zb (Za.int .u32) 95 440 ax aw a0 ae ac∧[6].map f=[.int .u64 aj]) ?_ ?_
   ·intro f aw hJ;obtain ⟨ax,aj,hm,aa,ad,hs⟩:=hJ;rw [Zf7.eq_1] at hm;refine .lL [6] hs<|Zs<|Wl<|Yv rfl<|Zl<|Zs ?_;refine Wp.cutK [0,1,5,6,8,9,1000000] (fun f ay=>∃ az a2,Zf8 ac ah (Tq N ab ag af) aj a2=some r∧St w0 (Xc [qc0] col) az ay∧Zb (Za.int .u32) 95 440 az ay a0 ae ac∧[4].map f=[.int .u64 a2]) ?_ ?_
    ·intro f ay hJ;obtain ⟨az,a2,hm,aa,ad,hs⟩:=hJ;rw [Zf8.eq_1] at hm;refine .lL [4] hs<|go ?_;obtain ⟨a5,ak,hm⟩:=bZ hm;refine lI ak (ad.addr ak)<|lW (ad.atInt ak) ?_;refine go ?_;refine lI ak (ad.addr ak) ?_;obtain ⟨al,am,hm⟩:=bZ hm;have am:al=ac.set (Int.toNat ah) (u32.wrap (a5 - (u32.wrap aj))):=(Option.some.inj am).symm;refine Y6 (x1:=u32.wrap (a5 - (u32.wrap aj))) ad ak ?_;intro bf bd be a6;rw [← am] at a6;have a7:al.length=ab.length:=(show ac.length=al.length by rw [am,nS]).symm.trans a8;refine .ld (d:=0) (v:=(.slice a0 al.length ae)) (congrArg (fun n=>Value.slice a0 n ae) (show ac.length=al.length by rw [am,nS])) ?_;refine Zl ?_;replace aa:=aa.kp bd be;exact ⟨rfl,_,_,_,hm,aa,a6,a7,a7,rfl⟩
    refine go ?_;obtain ⟨bg,a3,hm⟩:=bZ hm;refine lI a3 (ad.addr a3)<|lW (ad.atInt a3) ?_;refine go ?_;refine Zo hm (fun hb hm=>go ?_) fun hb hm=>?_
    ·exact ⟨rfl,_,1,hm,aa,ad,rfl⟩
    refine X0 ?_;exact ⟨rfl,_,0,hm,aa,ad,rfl⟩
   refine go ?_;refine Zo hm (fun hb hm=>go ?_) fun hb hm=>?_
   ·obtain ⟨bh,a4,hm⟩:=bZ hm;refine lI a4 ((h1.ks aa).addr a4)<|lW ((h1.ks aa).atInt a4) ?_;refine go ?_;exact ⟨rfl,_,_,hm,aa,ad,rfl⟩
   refine X0 ?_;exact ⟨rfl,_,_,hm,aa,ad,rfl⟩
  cases hm;exact ⟨rfl,_,rfl,aa.finL rfl (cm [(440,qc0)]),aa.foL ad,a9⟩
def Uf (N:Nat) (ab:List Int):Option R5:=
  (Ug N ab).bind fun aa=>if (decide ((aa.length:Int)=0))=true then (some ([]:List Int)) else ((Zec aa).bind fun ac=>some ac)
theorem T4 {N ac:Nat} {a0:Option Addr} {col:Ze} {w0:World} {ab r:R5} (c1:Nat) (hm:Uf N ab=some r) (h0:Sl (Za.int .u32) col w0 a0 ac ab):
    Calls prog 154 #[.slice a0 ab.length ac] w0 (fun e w'=>∃ (col':Ze) (ra1:Option Addr) (rc2:Nat),e= .returned ((.slice ra1 r.length rc2))∧Zh col w0 col' w'∧Zb (Za.int .u32) 95 c1 col' w' ra1 rc2 r):=by
 refine Xf 2 (m:=10) func154 rfl rfl rfl rfl rfl ?_;rw [Uf.eq_1] at hm;have aa:=St.start col w0;refine go ?_;obtain ⟨aj,ad,hm⟩:=bZ hm;replace h0:=h0.keep (Zi.start col w0);refine Zk (T5 ad (h0.ks aa)) ?_;rintro _ ak ⟨al,am,an,rfl,ae,af⟩;refine ⟨_,rfl,go ?_⟩;replace aa:=aa.grow ae;refine Zo hm (fun hb hm=>go ?_) fun hb hm=>go ?_
 ·cases hm;exact ⟨rfl,_,none,0,rfl,aa.fin (cm []),Zb.nil⟩
 obtain ⟨ao,ag,hm⟩:=bZ hm;refine Zk (Zn5 1 ag af) ?_;rintro _ ap ⟨aq,ar,au,rfl,ah,ai⟩;refine ⟨_,rfl,go ?_⟩;cases hm;replace aa:=aa.grow ah;exact ⟨rfl,_,_,_,rfl,aa.fin (cm [(1,c1)]),aa.fo ai⟩
def Zf4 (N:Nat) (aa:List Int) (ab:List Int):Option Rg:=
  (Zdr N aa ab).bind fun ac=>if (decide (ac<0))=true then (some (([]:List Int),false)) else ((Ug N aa).bind fun ad=>(Zec ad).bind fun ae=>(Ug N ab).bind fun af=>(Zlg N ae af).bind fun ag=>(Uf N ag).bind fun ah=>some (ah,true))
theorem Zr3 {N ah ai:Nat} {a0 a1:Option Addr} {col:Ze} {w0:World} {ab ac:R5} {r:Rg} (c1:Nat) (hm:Zf4 N ab ac=some r) (h0:Sl (Za.int .u32) col w0 a0 ah ab) (h1:Sl (Za.int .u32) col w0 a1 ai ac):
    Calls prog 150 #[.slice a0 ab.length ah,.slice a1 ac.length ai] w0 (fun e w'=>∃ (col':Ze) (ra1:Option Addr) (rc2:Nat),e= .returned (.tuple #[.slice ra1 r.1.length rc2,.bool r.2])∧Zh col w0 col' w'∧Zb (Za.int .u32) 95 c1 col' w' ra1 rc2 r.1):=by
 refine Zhn 4 5 (m:=20) (args:=[.slice a0 ab.length ah,.slice a1 ac.length ai]) func150 rfl rfl rfl rfl rfl ?_;rw [Zf4.eq_1] at hm;have aa:=St.start col w0;refine go ?_;obtain ⟨a9,aq,hm⟩:=bZ hm;replace h0:=h0.keep (Zi.start col w0);replace h1:=h1.keep (Zi.start col w0);refine Zk (Zn2 aq (h0.ks aa) (h1.ks aa)) ?_;rintro _ ar ⟨rfl,aj⟩;refine ⟨_,rfl,?_⟩;replace aj:Zh (Zj col) w0 (Zj col) ar:=.of_below aj;refine go ?_;replace aa:=aa.grow aj;refine Zo hm (fun hb hm=>go ?_) fun hb hm=>go ?_
 ·cases hm;exact ⟨rfl,_,none,0,rfl,aa.fin (cm []),Zb.nil⟩
 obtain ⟨ba,au,hm⟩:=bZ hm;refine Zk (T5 au (h0.ks aa)) ?_;rintro _ bb ⟨bc,bd,be,rfl,av,aw⟩;refine ⟨_,rfl,?_⟩;obtain ⟨an,ax,hm⟩:=bZ hm;refine Zk (Zn5 1 ax aw) ?_;rintro _ bf ⟨bg,ad,ae,rfl,ay,ak⟩;refine ⟨_,rfl,go ?_⟩;obtain ⟨bh,az,hm⟩:=bZ hm;replace aa:=(aa.grow av).grow ay;refine Zk (T5 az (h1.ks aa)) ?_;rintro _ bi ⟨bj,bk,bm,rfl,ao,a2⟩;refine ⟨_,rfl,?_⟩;obtain ⟨af,a3,hm⟩:=bZ hm;replace ak:=ak.gr ao;refine Zk (Z03 1 a3 rfl ak a2) ?_;rintro _ a4 ⟨al,rfl,a5,a6,ap⟩;refine ⟨_,rfl,?_⟩;refine .ld (d:=6) (v:=(.slice ad af.length ae)) (congrArg (fun n=>Value.slice ad n ae) (show an.length=af.length from ap.symm)) ?_;refine .ld (d:=14) (v:=(.slice ad af.length ae)) (congrArg (fun n=>Value.slice ad n ae) (show an.length=af.length from ap.symm)) ?_;refine go ?_;obtain ⟨bn,a7,hm⟩:=bZ hm;refine Zk (T4 2 a7 (a6.toSlF (Zd.int .u32))) ?_;rintro _ bo ⟨a8,bp,bq,rfl,ag,am⟩;refine ⟨_,rfl,?_⟩;replace am:=am.thaw (Z1 .u32) ag ((Fz.refl (col:=al)).froz 1) (by decide);replace ag:=ag.thawR (col:=al);generalize Xe a4.heap.size al a8=br at *;refine go ?_;cases hm;replace aa:=((aa.grow ao).kpp a5).grow ag;exact ⟨rfl,_,_,_,rfl,aa.fin (cm [(2,c1)]),aa.fo am⟩
def Zld (aa:Nat) (kk_L1:(Nat→R5→Int→Option R5)) (ab:List Int) (ac:Int):Option R5:=
  kk_L1 (aa+1) ab ac
def Zf2 (aa:Nat) (ab:List Int) (kk_L1:(Nat→R5→Int→Option R5)) (ac:Int):Option R5:=
  (Zm ab (aa:Int)).bind fun ae=>(some (ab.set (Int.toNat (aa:Int)) (u32.wrap ac))).bind fun ad=>Zld aa kk_L1 ad (Yw .u64 ac 32)
def Sc (N:Nat) (ac:List Int) (ad:List Int):List Int→Nat→R5→Int→Option R5
  | [],aa,ab,ae=>(Zm ab (ac.length:Int)).bind fun ak=>(some (ab.set (Int.toNat (ac.length:Int)) (u32.wrap ae))).bind fun ah=>(Uf N ah).bind fun ai=>some ai
  | af :: ag,aa,ab,ae=>if (decide ((aa:Int)<(ad.length:Int)))=true then ((Zm ad (aa:Int)).bind fun aj=>Zf2 aa ab (Sc N ac ad ag) (u64.wrap ((u64.wrap (ae+(u64.wrap af)))+(u64.wrap aj)))) else (Zf2 aa ab (Sc N ac ad ag) (u64.wrap (ae+(u64.wrap af))))
termination_by structural x=>x
def Zf1 (N:Nat) (aa:List Int) (ab:List Int):Option R5:=
  Zt ((Int.toNat (i64.wrap ((aa.length:Int)+1))) * 4≤281474976710656∧(Int.toNat (i64.wrap ((aa.length:Int)+1)))≤maxLen∧0≤(i64.wrap ((aa.length:Int)+1))) (Sc N aa ab aa 0 (List.replicate (Int.toNat (i64.wrap ((aa.length:Int)+1))) (0:Int)) 0)
def Zif (N:Nat) (ac:List Int) (ad:List Int):Option R5:=
  (Ug N ac).bind fun aa=>(Ug N ad).bind fun ab=>if (decide ((aa.length:Int)<(ab.length:Int)))=true then (Zf1 N ab aa) else (Zf1 N aa ab)
theorem Z0z {N bp bq:Nat} {a0 a1:Option Addr} {col:Ze} {w0:World} {a9 ba r:R5} (c1:Nat) (hm:Zif N a9 ba=some r) (h0:Sl (Za.int .u32) col w0 a0 bp a9) (h1:Sl (Za.int .u32) col w0 a1 bq ba):
    Calls prog 149 #[.slice a0 a9.length bp,.slice a1 ba.length bq] w0 (fun e w'=>∃ (col':Ze) (ra1:Option Addr) (rc2:Nat),e= .returned ((.slice ra1 r.length rc2))∧Zh col w0 col' w'∧Zb (Za.int .u32) 95 c1 col' w' ra1 rc2 r):=by
 refine Xf 4 (m:=62) func149 rfl rfl rfl rfl rfl ?_;rw [Zif.eq_1] at hm;have aa:=St.start col w0;refine go ?_;obtain ⟨ca,bw,hm⟩:=bZ hm;replace h0:=h0.keep (Zi.start col w0);refine Zk (T5 bw (h0.ks aa)) ?_;rintro _ cb ⟨cc,cd,ce,rfl,bx,a3⟩;refine ⟨_,rfl,?_⟩;refine Yk rfl ?_;obtain ⟨cf,bz,hm⟩:=bZ hm;replace h1:=h1.keep (Zi.start col w0);replace aa:=aa.grow bx;refine Zk (T5 bz (h1.ks aa)) ?_;rintro _ cg ⟨ch,ci,cj,rfl,br,bs⟩;refine ⟨_,rfl,?_⟩;refine Zk2 rfl<|Zk2 rfl<|Zl<|Zs ?_;replace a3:=a3.gr br;replace aa:=aa.grow br;refine Wp.cutK [1000000] (fun f aq=>∃ ar am an ab ao ap ae,Zf1 N ab ae=some r∧St w0 (Zj col) ar aq∧Sl (Za.int .u32) ar aq am an ab∧Sl (Za.int .u32) ar aq ao ap ae∧[0,1].map f=[.slice am ab.length an,.slice ao ae.length ap]) ?_ ?_
 ·intro f aq hJ;obtain ⟨ar,am,an,ab,ao,ap,ae,hm,aa,ac,ad,hs⟩:=hJ;rw [Zf1.eq_1] at hm;refine .lL [0,1] hs<|go ?_;obtain ⟨a4,hm⟩:=Z3 hm;refine Sz (col:=ar) (w:=aq) (r:=(Za.int .u32)) (n:=(Int.toNat (i64.wrap ((ab.length:Int)+1)))) (x0:=0) 1 rfl underlying35 Tryz.t95 rfl rfl rfl rfl rfl (congrArg (Value.int _) (Int.toNat_of_nonneg a4.2.2).symm) (congrArg (Value.int _) (Int.toNat_of_nonneg a4.2.2).symm) a4.1 a4.2.1 (Zco .u32 0) ?_;intro ck cl cn bb b0;refine go ?_;replace ac:=ac.gr bb;replace ad:=ad.gr bb;replace aa:=aa.grow bb;refine Zu [0,1,24,25,1000000] (fun n f au=>∃ ah ag ai aj af av aw,n=aw.length∧ab.drop ag=aw∧Sc N ab ae aw ag af av=some r∧St w0 (Zj col) ah au∧Sl (Za.int .u32) ah au am an ab∧Sl (Za.int .u32) ah au ao ap ae∧Zb (Za.int .u32) 95 1 ah au ai aj af∧[26,5,6].map f=[.int .i64 ag,.slice ai af.length aj,.int .u64 av]) ab.length ⟨_,0,_,_,_,0,_,rfl,rfl,hm,aa,ac,ad,b0,rfl⟩ ?_;clear hm;intro n f au hI;obtain ⟨ah,ag,ai,aj,af,av,aw,hn,hl,hm,aa,ac,ad,ak,hs⟩:=hI;subst hn;refine .lL [26,5,6] hs ?_
  cases aw with
  | nil=>
   have hk:¬ ((ag:Int)<(ab.length:Int)):=by have:=List.drop_eq_nil_iff.1 hl;omega
   have hkb:=decide_eq_false hk;rw [Sc.eq_1] at hm;refine go ?_;refine Xs (congrArg Value.bool hkb)<|go ?_;obtain ⟨co,bc,hm⟩:=bZ hm;refine lI bc (ak.addr bc) ?_;obtain ⟨bd,a5,hm⟩:=bZ hm;have a5:bd=af.set (Int.toNat (ab.length:Int)) (u32.wrap av):=(Option.some.inj a5).symm;refine Y6 (x1:=u32.wrap av) ak bc ?_;intro b1 b2 b3 bt;rw [← a5] at bt;refine .ld (d:=5) (v:=(.slice ai bd.length aj)) (congrArg (fun n=>Value.slice ai n aj) (show af.length=bd.length by rw [a5,nS])) ?_;refine go ?_;obtain ⟨cp,b4,hm⟩:=bZ hm;refine Zk (T4 2 b4 (bt.toSlF (Zd.int .u32))) ?_;rintro _ cq ⟨b5,cr,cs,rfl,a6,be⟩;refine ⟨_,rfl,?_⟩;replace be:=be.thaw (Z1 .u32) a6 ((Fz.refl (col:=ah)).froz 1) (by decide);replace a6:=a6.thawR (col:=ah);generalize Xe b1.heap.size ah b5=ct at *;refine go ?_;cases hm;replace aa:=(aa.kp b2 b3).grow a6;exact ⟨rfl,_,_,_,rfl,aa.fin (cm [(2,c1)]),aa.fo be⟩
  | cons bu bf=>
   obtain ⟨bg,b6,b7⟩:=X3 hl;have hk:(ag:Int)<(ab.length:Int):=by omega
   have hkb:=decide_eq_true hk;rw [Sc.eq_2] at hm;refine go ?_;refine Xt (congrArg Value.bool hkb)<|X0<|Zs ?_;refine Wp.cutK [0,1,24,25,26,1000000] (fun f ax=>∃ ay bh bi a7 bj,Zld ag (Sc N ab ae bf) a7 bj=some r∧St w0 (Zj col) ay ax∧Sl (Za.int .u32) ay ax am an ab∧Sl (Za.int .u32) ay ax ao ap ae∧Zb (Za.int .u32) 95 1 ay ax bh bi a7∧[5,6].map f=[.slice bh a7.length bi,.int .u64 bj]) ?_ ?_
   ·intro f ax hJ;obtain ⟨ay,bh,bi,a7,bj,hm,aa,ac,ad,b8,hs⟩:=hJ;rw [Zld.eq_1] at hm;refine .lL [5,6] hs<|go ?_;exact ⟨bf.length,by simp,rfl,⟨_,_,_,_,_,_,_,rfl,b6,hm,aa,ac,ad,b8,(X5 (congrArg (Value.int .i64) (X2 (Nat.lt_of_lt_of_le b7 ac.1.1))) rfl)⟩⟩
   refine go ?_;refine lI bg (ac.addr bg)<|lW (ac.atInt bg)<|Yv rfl<|Yv rfl<|Zl<|Zs<|Wl<|Xp rfl<|Xp rfl<|lV (.int .u64 (u64.wrap bu)) (Zjs bu ⟨_,underlying95⟩ underlying149 rfl)<|lV _ (Sn _ _ rfl rfl)<|Yv rfl<|Zl<|Zs ?_;refine Wp.cutK [0,1,24,25,26,5,7,1000000] (fun f az=>∃ a2 al,Zf2 ag af (Sc N ab ae bf) al=some r∧St w0 (Zj col) a2 az∧Sl (Za.int .u32) a2 az am an ab∧Sl (Za.int .u32) a2 az ao ap ae∧Zb (Za.int .u32) 95 1 a2 az ai aj af∧[6].map f=[.int .u64 al]) ?_ ?_
   ·intro f az hJ;obtain ⟨a2,al,hm,aa,ac,ad,ak,hs⟩:=hJ;rw [Zf2.eq_1] at hm;refine .lL [6] hs<|go ?_;obtain ⟨cu,bk,hm⟩:=bZ hm;refine lI bk (ak.addr bk) ?_;obtain ⟨bm,a8,hm⟩:=bZ hm;have a8:bm=af.set (Int.toNat (ag:Int)) (u32.wrap al):=(Option.some.inj a8).symm;refine Y6 (x1:=u32.wrap al) ak bk ?_;intro cv bn b9 bv;rw [← a8] at bv;refine .ld (d:=5) (v:=(.slice ai bm.length aj)) (congrArg (fun n=>Value.slice ai n aj) (show af.length=bm.length by rw [a8,nS])) ?_;refine go ?_;refine lV (.int .u64 (Yw .u64 al 32)) (Qi al 32 rfl rfl (by decide))<|go ?_;replace ac:=ac.kp bn;replace ad:=ad.kp bn;replace aa:=aa.kp bn b9;exact ⟨rfl,_,_,_,_,_,hm,aa,ac,ad,bv,rfl⟩
   refine go ?_;refine Zo hm (fun hb hm=>go ?_) fun hb hm=>?_
   ·obtain ⟨cw,bo,hm⟩:=bZ hm;refine lI bo (ad.addr bo)<|lW (ad.atInt bo) ?_;refine go ?_;exact ⟨rfl,_,_,hm,aa,ac,ad,ak,rfl⟩
   refine X0 ?_;exact ⟨rfl,_,_,hm,aa,ac,ad,ak,rfl⟩
 refine go ?_;refine Zo hm (fun hb hm=>go ?_) fun hb hm=>?_
 ·exact ⟨rfl,_,_,_,_,_,_,_,hm,aa,bs,a3,rfl⟩
 refine X0 ?_;exact ⟨rfl,_,_,_,_,_,_,_,hm,aa,a3,bs,rfl⟩
def Zcb (ae:List Int) (aa:Nat) (kk_L1:(Nat→R5→Option R5)) (af:Int):List Int→Nat→R5→Int→Option R5
  | [],ac,ab,ad=>(Zm ab (i64.wrap ((aa:Int)+(ae.length:Int)))).bind fun al=>(some (ab.set (Int.toNat (i64.wrap ((aa:Int)+(ae.length:Int)))) (u32.wrap ad))).bind fun ai=>kk_L1 (aa+1) ai
  | ag :: aj,ac,ab,ad=>(Zm ab (i64.wrap ((aa:Int)+(ac:Int)))).bind fun ah=>(some (ab.set (Int.toNat (i64.wrap ((aa:Int)+(ac:Int)))) (u32.wrap (u64.wrap (ad+(u64.wrap ((u64.wrap ((u64.wrap af) * (u64.wrap ag)))+(u64.wrap ah)))))))).bind fun ak=>(Zcb ae aa kk_L1 af aj) (ac+1) ak (Yw .u64 (u64.wrap (ad+(u64.wrap ((u64.wrap ((u64.wrap af) * (u64.wrap ag)))+(u64.wrap ah))))) 32)
termination_by structural x=>x
def Q6 (N:Nat) (aa:List Int):List Int→Nat→R5→Option R5
  | [],ac,ab=>(Uf N ab).bind fun ad=>some ad
  | ae :: af,ac,ab=>Zcb aa ac (Q6 N aa af) ae aa 0 ab 0
termination_by structural x=>x
def To (N:Nat) (ac:List Int) (ad:List Int):Option R5:=
  (Ug N ac).bind fun aa=>(Ug N ad).bind fun ab=>Zt ((Int.toNat (i64.wrap ((aa.length:Int)+(ab.length:Int)))) * 4≤281474976710656∧(Int.toNat (i64.wrap ((aa.length:Int)+(ab.length:Int))))≤maxLen∧0≤(i64.wrap ((aa.length:Int)+(ab.length:Int)))) (Q6 N ab aa 0 (List.replicate (Int.toNat (i64.wrap ((aa.length:Int)+(ab.length:Int)))) (0:Int)))
theorem Zbf {N bt bu:Nat} {a0 a1:Option Addr} {col:Ze} {w0:World} {be bf r:R5} (c1:Nat) (hm:To N be bf=some r) (h0:Sl (Za.int .u32) col w0 a0 bt be) (h1:Sl (Za.int .u32) col w0 a1 bu bf):
    Calls prog 78 #[.slice a0 be.length bt,.slice a1 bf.length bu] w0 (fun e w'=>∃ (col':Ze) (ra1:Option Addr) (rc2:Nat),e= .returned ((.slice ra1 r.length rc2))∧Zh col w0 col' w'∧Zb (Za.int .u32) 95 c1 col' w' ra1 rc2 r):=by
 refine Xf 4 (m:=71) func78 rfl rfl rfl rfl rfl ?_;rw [To.eq_1] at hm;have aa:=St.start col w0;refine go ?_;obtain ⟨ae,b1,hm⟩:=bZ hm;replace h0:=h0.keep (Zi.start col w0);refine Zk (T5 b1 (h0.ks aa)) ?_;rintro _ co ⟨cp,a4,a5,rfl,b2,ac⟩;refine ⟨_,rfl,?_⟩;refine Yk rfl ?_;obtain ⟨ab,b3,hm⟩:=bZ hm;replace h1:=h1.keep (Zi.start col w0);replace aa:=aa.grow b2;refine Zk (T5 b3 (h1.ks aa)) ?_;rintro _ b4 ⟨b5,au,av,rfl,bv,ad⟩;refine ⟨_,rfl,go ?_⟩;obtain ⟨a6,hm⟩:=Z3 hm;refine Sz (col:=b5) (w:=b4) (r:=(Za.int .u32)) (n:=(Int.toNat (i64.wrap ((ae.length:Int)+(ab.length:Int))))) (x0:=0) 1 rfl underlying35 Tryz.t95 rfl rfl rfl rfl rfl (congrArg (Value.int _) (Int.toNat_of_nonneg a6.2.2).symm) (congrArg (Value.int _) (Int.toNat_of_nonneg a6.2.2).symm) a6.1 a6.2.1 (Zco .u32 0) ?_;intro b6 cq b7 bg b8;refine go ?_;replace ac:=(ac.gr bv).gr bg;replace aa:=(aa.grow bv).grow bg;replace ad:=ad.gr bg;refine Zrd (fun n f ap=>∃ (ah:Ze) (af:Nat) (a7:Option Addr) (a8:Nat) (aw:List Int) (ax:List Int),n=ax.length∧ae.drop af=ax∧Q6 N ab ax af aw=some r∧St w0 (Zj col) ah ap∧Sl (Za.int .u32) ah ap au av ab∧Sl (Za.int .u32) ah ap a4 a5 ae∧Zb (Za.int .u32) 95 1 ah ap a7 a8 aw∧f 23=(.int .i64 af)∧f 1=(.slice au ab.length av)∧f 21=(.slice a4 ae.length a5)∧f 22=(.int .i64 ae.length)∧f 5=(.slice a7 aw.length a8)∧f 1000000=(enc [])) ae.length ⟨b7,0,b6,(Int.toNat (i64.wrap ((ae.length:Int)+(ab.length:Int)))),(List.replicate (Int.toNat (i64.wrap ((ae.length:Int)+(ab.length:Int)))) (0:Int)),ae,rfl,rfl,hm,aa,ad,ac,b8,rfl,rfl,rfl,rfl,rfl,rfl⟩ ?_;clear hm;intro n f ap hI;obtain ⟨ah,af,a7,a8,aw,ax,hn,hl,hm,aa,ad,ac,bw,bh,bi,bj,bk,bm,bn⟩:=hI;subst hn;refine .lD 23 bh<|.lD 1 bi<|.lD 21 bj<|.lD 22 bk<|.lD 5 bm<|.lD 1000000 bn ?_
 cases ax with
 | nil=>
  have hk:¬ ((af:Int)<(ae.length:Int)):=by have:=List.drop_eq_nil_iff.1 hl;omega
  have hkb:=decide_eq_false hk;rw [Q6.eq_1] at hm;refine go ?_;refine Xs (congrArg Value.bool hkb)<|go ?_;obtain ⟨cr,b9,hm⟩:=bZ hm;refine Zk (T4 2 b9 (bw.toSlF (Zd.int .u32))) ?_;rintro _ cs ⟨ca,ct,cu,rfl,a9,bo⟩;refine ⟨_,rfl,?_⟩;replace bo:=bo.thaw (Z1 .u32) a9 ((Fz.refl (col:=ah)).froz 1) (by decide);replace a9:=a9.thawR (col:=ah);generalize Xe ap.heap.size ah ca=cv at *;refine go ?_;cases hm;replace aa:=aa.grow a9;exact ⟨rfl,_,_,_,rfl,aa.fin (cm [(2,c1)]),aa.fo bo⟩
 | cons am bp=>
  obtain ⟨an,cb,cc⟩:=X3 hl;have hk:(af:Int)<(ae.length:Int):=by omega
  have hkb:=decide_eq_true hk;rw [Q6.eq_2] at hm;refine go ?_;refine Xt (congrArg Value.bool hkb)<|go ?_;refine lI an (ac.addr an)<|lW (ac.atInt an) ?_;refine go ?_;refine Zrd (fun n f ay=>∃ (ao:Ze) (ak:Nat) (ai:Option Addr) (aj:Nat) (al:List Int) (ag:Int) (az:List Int),n=az.length∧ab.drop ak=az∧Zcb ab af (Q6 N ab bp) am az ak al ag=some r∧St w0 (Zj col) ao ay∧Sl (Za.int .u32) ao ay au av ab∧Sl (Za.int .u32) ao ay a4 a5 ae∧Zb (Za.int .u32) 95 1 ao ay ai aj al∧f 30=(.int .i64 ak)∧f 1=(.slice au ab.length av)∧f 21=(.slice a4 ae.length a5)∧f 22=(.int .i64 ae.length)∧f 23=(.int .i64 af)∧f 28=(.slice au ab.length av)∧f 29=(.int .i64 ab.length)∧f 5=(.slice ai al.length aj)∧f 6=(.int .i64 af)∧f 7=(.int .u32 am)∧f 8=(.int .u64 ag)∧f 1000000=(enc [])) ab.length ⟨ah,0,a7,a8,aw,0,ab,rfl,rfl,hm,aa,ad,ac,bw,rfl,rfl,rfl,rfl,rfl,rfl,rfl,rfl,rfl,rfl,rfl,rfl⟩ ?_;clear hm;intro n f ay hI;obtain ⟨ao,ak,ai,aj,al,ag,az,hn,hl,hm,aa,ad,ac,aq,cd,bi,bj,bk,bh,ce,cf,bm,cg,ch,ci,bn⟩:=hI;subst hn;refine .lD 30 cd<|.lD 1 bi<|.lD 21 bj<|.lD 22 bk<|.lD 23 bh<|.lD 28 ce<|.lD 29 cf<|.lD 5 bm<|.lD 6 cg<|.lD 7 ch<|.lD 8 ci<|.lD 1000000 bn ?_
  cases az with
  | nil=>
   have hk:¬ ((ak:Int)<(ab.length:Int)):=by have:=List.drop_eq_nil_iff.1 hl;omega
   have hkb:=decide_eq_false hk;rw [Zcb.eq_1] at hm;refine go ?_;refine Xs (congrArg Value.bool hkb)<|go ?_;obtain ⟨cw,bq,hm⟩:=bZ hm;refine lI bq (aq.addr bq) ?_;obtain ⟨ba,bb,hm⟩:=bZ hm;have bb:ba=al.set (Int.toNat (i64.wrap ((af:Int)+(ab.length:Int)))) (u32.wrap ag):=(Option.some.inj bb).symm;refine Y6 (x1:=u32.wrap ag) aq bq ?_;intro cx br cj bx;rw [← bb] at bx;refine .ld (d:=5) (v:=(.slice ai ba.length aj)) (congrArg (fun n=>Value.slice ai n aj) (show al.length=ba.length by rw [bb,nS])) ?_;refine go ?_;replace ad:=ad.kp br;replace ac:=ac.kp br;replace aa:=aa.kp br cj;exact ⟨bp.length,by simp,⟨ao,(af+1),ai,aj,ba,bp,rfl,cb,hm,aa,ad,ac,bx,(congrArg (Value.int .i64) (X2 (Nat.lt_of_lt_of_le cc ac.1.1))),rfl,rfl,rfl,rfl,rfl⟩⟩
  | cons a2 bz=>
   obtain ⟨an,ck,cl⟩:=X3 hl;have hk:(ak:Int)<(ab.length:Int):=by omega
   have hkb:=decide_eq_true hk;rw [Zcb.eq_2] at hm;refine go ?_;refine Xt (congrArg Value.bool hkb)<|go ?_;refine lI an (ad.addr an)<|lW (ad.atInt an) ?_;refine go ?_;obtain ⟨a3,ar,hm⟩:=bZ hm;refine lI ar (aq.addr ar)<|lW (aq.atInt ar) ?_;refine go ?_;refine lI ar (aq.addr ar) ?_;obtain ⟨bc,bd,hm⟩:=bZ hm;have bd:bc=al.set (Int.toNat (i64.wrap ((af:Int)+(ak:Int)))) (u32.wrap (u64.wrap (ag+(u64.wrap ((u64.wrap ((u64.wrap am) * (u64.wrap a2)))+(u64.wrap a3)))))):=(Option.some.inj bd).symm;refine Y6 (x1:=u32.wrap (u64.wrap (ag+(u64.wrap ((u64.wrap ((u64.wrap am) * (u64.wrap a2)))+(u64.wrap a3)))))) aq ar ?_;intro cy bs cn b0;rw [← bd] at b0;refine .ld (d:=5) (v:=(.slice ai bc.length aj)) (congrArg (fun n=>Value.slice ai n aj) (show al.length=bc.length by rw [bd,nS])) ?_;refine go ?_;refine lV (.int .u64 (Yw .u64 (u64.wrap (ag+(u64.wrap ((u64.wrap ((u64.wrap am) * (u64.wrap a2)))+(u64.wrap a3))))) 32)) (Qi (u64.wrap (ag+(u64.wrap ((u64.wrap ((u64.wrap am) * (u64.wrap a2)))+(u64.wrap a3))))) 32 rfl rfl (by decide))<|go ?_;replace ad:=ad.kp bs;replace ac:=ac.kp bs;replace aa:=aa.kp bs cn;exact ⟨bz.length,by simp,⟨ao,(ak+1),ai,aj,bc,(Yw .u64 (u64.wrap (ag+(u64.wrap ((u64.wrap ((u64.wrap am) * (u64.wrap a2)))+(u64.wrap a3))))) 32),bz,rfl,ck,hm,aa,ad,ac,b0,(congrArg (Value.int .i64) (X2 (Nat.lt_of_lt_of_le cl ad.1.1))),rfl,rfl,rfl,rfl,rfl,rfl,rfl,rfl,rfl,rfl,rfl⟩⟩
def S7 (N:Nat) (aa:Int):Option R5:=
  (Uf N [u32.wrap aa,u32.wrap (Yw .u64 aa 32)]).bind fun ab=>some ab
theorem Zcx {N:Nat} {col:Ze} {w0:World} {aa:Int} {r:R5} (c1:Nat) (hm:S7 N aa=some r):
    Calls prog 134 #[.int .u64 aa] w0 (fun e w'=>∃ (col':Ze) (ra1:Option Addr) (rc2:Nat),e= .returned ((.slice ra1 r.length rc2))∧Zh col w0 col' w'∧Zb (Za.int .u32) 95 c1 col' w' ra1 rc2 r):=by
 refine Xf 2 (m:=10) func134 rfl rfl rfl rfl rfl ?_;rw [S7.eq_1] at hm;have ab:=St.start col w0;refine go ?_;refine lV (.int .u64 (Yw .u64 aa 32)) (Qi aa 32 rfl rfl (by decide))<|go ?_;refine Vg (col:=(Zj col)) [u32.wrap aa,u32.wrap (Yw .u64 aa 32)] 1 ?_;intro ak af ad ag ah;obtain ⟨al,ai,hm⟩:=bZ hm;refine Zk (T4 2 ai (ah.toSlF (Zd.int .u32))) ?_;rintro _ am ⟨aj,an,ao,rfl,ac,ae⟩;refine ⟨_,rfl,?_⟩;replace ae:=ae.thaw (Z1 .u32) ac ((Fz.refl (col:=ad)).froz 1) (by decide);replace ac:=ac.thawR (col:=ad);generalize Xe af.heap.size ad aj=ap at *;refine go ?_;cases hm;replace ab:=(ab.grow ag).grow ac;exact ⟨rfl,_,_,_,rfl,ab.fin (cm [(2,c1)]),ab.fo ae⟩
def Zdv (N:Nat) (aa:List Int):Option R5:=
  (Uf N aa).bind fun ab=>some ab
theorem Zn4 {N ac:Nat} {a0:Option Addr} {col:Ze} {w0:World} {ab r:R5} (c1:Nat) (hm:Zdv N ab=some r) (h0:Sl (Za.int .u32) col w0 a0 ac ab):
    Calls prog 148 #[.slice a0 ab.length ac] w0 (fun e w'=>∃ (col':Ze) (ra1:Option Addr) (rc2:Nat),e= .returned ((.slice ra1 r.length rc2))∧Zh col w0 col' w'∧Zb (Za.int .u32) 95 c1 col' w' ra1 rc2 r):=by
 refine Xf 2 (m:=5) func148 rfl rfl rfl rfl rfl ?_;rw [Zdv.eq_1] at hm;have aa:=St.start col w0;refine go ?_;obtain ⟨ag,ad,hm⟩:=bZ hm;replace h0:=h0.keep (Zi.start col w0);refine Zk (T4 1 ad (h0.ks aa)) ?_;rintro _ ah ⟨ai,aj,ak,rfl,ae,af⟩;refine ⟨_,rfl,go ?_⟩;cases hm;replace aa:=aa.grow ae;exact ⟨rfl,_,_,_,rfl,aa.fin (cm [(1,c1)]),aa.fo af⟩
theorem Zne (N:Nat):∀ (n:Nat) (a:List Int),Zn a→a.length<n→a.length<4611686018427387904→Tr N n a=some (Zg (Zc a))
 | 0,a,_,h,_=>by omega
 | n+1,a,h,hn,hb=>by
  rw [Tr.eq_2]
  by_cases h0:0<a.length
  ·have e:(a.length:Int) - 1=((a.length - 1:Nat):Int):=by omega
   rw [if_pos (by simpa using h0),Z0 (by omega),e,Z5 (by omega),oB,Za1,Z0 (by omega),e]
   by_cases hx:a[a.length - 1]=0
   ·rw [if_pos (by simpa using hx),Z9 (by omega),Int.toNat_natCast,Zne N n _ (h.take _) (by rw [nK];omega) (by rw [nK];omega)]
    conv=>rhs;rw [← Ze2 h0,hx,Zvq]
   ·rw [if_neg (by simpa using hx)]
    have e2:=Ze2 h0
    have e3:=Z34 (a:=a.take (a.length - 1)) (x:=a[a.length - 1]) (by rw [e2];exact h) hx
    rw [e2] at e3
    rw [e3]
  ·have h1:a=[]:=List.eq_nil_of_length_eq_zero (by omega)
   subst h1
   rw [if_neg (by simp),Za1,if_neg (by decide),Yt,W0]
theorem Sv {N:Nat} {a:List Int} (h:Zn a) (hn:a.length<N) (hb:a.length≤35184372088000):Ug N a=some (Zg (Zc a)):=by
 rw [Ug];exact Zne N N a h hn (by omega)
theorem Zn9 {a:List Int} (hb:a.length≤35184372088832):Zec a=some a:=by
 rw [Zec,Z9 (by simp only [nN,maxLen];omega),List.nil_append]
theorem Sm {N:Nat} {a:List Int} (h:Zn a) (hn:a.length<N) (hb:a.length≤35184372088000):Uf N a=some (Zg (Zc a)):=by
 rw [Uf,Sv h hn hb,oB]
 have hl:=Yx h
 by_cases h0:Zg (Zc a)=[]
 ·rw [h0,if_pos (by decide)]
 ·have:0<(Zg (Zc a)).length:=List.length_pos_iff.2 h0
  rw [if_neg (by simp;exact h0),Zn9 (by omega),oB]
theorem Zp2 {N:Nat} {a:List Int} (h:Zn a) (hn:a.length<N) (hb:a.length≤35184372088000):Zdv N a=some (Zg (Zc a)):=by
 rw [Zdv,Sm h hn hb,oB]
theorem Zjl {N:Nat} {u:Int} (h:0≤u∧u<18446744073709551616) (hn:2<N):S7 N u=some (Zg u.toNat):=by
 have e:Zc [u32.wrap u,u32.wrap (Yw .u64 u 32)]=u.toNat:=by
  rw [Zek,Y7,Y7,Yt,IntKind.wrap_u32,IntKind.wrap_u32];omega
 have hl:Zn [u32.wrap u,u32.wrap (Yw .u64 u 32)]:=by
  rw [Zek,IntKind.wrap_u32,IntKind.wrap_u32]
  exact .cons (by omega) (.cons (by omega) .nil)
 rw [S7,Sm hl (by simpa using hn) (by simp),oB,e]
theorem Zsn (N:Nat) (a b:List Int) (ha:Zn a) (hb:Zn b) (hl:a.length=b.length) (hs:a.length<4611686018427387904):∀ (n i:Nat),i≤a.length→i<n→a.drop i=b.drop i→Zds N a b n ((i:Int) - 1)=some (if Zc a<Zc b then -1 else if Zc b<Zc a then 1 else 0)
 | 0,i,_,h,_=>by omega
 | n+1,i,hi,hn,he=>by
  rw [Zds.eq_2]
  by_cases h0:i=0
  ·subst h0
   rw [if_neg (by decide)]
   rw [List.drop_zero,List.drop_zero] at he
   subst he
   rw [if_neg (by omega),if_neg (by omega)]
  ·have e:(i:Int) - 1=((i - 1:Nat):Int):=by omega
   have h1:i - 1<a.length:=by omega
   have h2:i - 1<b.length:=by omega
   have e1:i - 1+1=i:=by omega
   rw [if_pos (by simp;omega),e,Z5 h1,oB,Z5 h2,oB]
   have g1:=ha.get h1
   have g2:=hb.get h2
   have va:=Uv a (i - 1)
   have vb:=Uv b (i - 1)
   rw [Ub h1,e1] at va
   rw [Ub h2,e1,← he] at vb
   have la:=Sj (ha.take (i - 1))
   have lb:=Sj (hb.take (i - 1))
   rw [nK,Nat.min_eq_left (by omega)] at la lb
   have key:∀ x y:Nat,x<y→4294967296 ^ (i - 1) * (x+4294967296 * Zc (a.drop i))+4294967296 ^ (i - 1)≤4294967296 ^ (i - 1) * (y+4294967296 * Zc (a.drop i)):=fun x y hxy=>by
    rw [← Nat.mul_succ];exact Nat.mul_le_mul_left _ (by omega)
   by_cases hlt:a[i - 1]<b[i - 1]
   ·have:=key _ _ (show (a[i - 1]).toNat<(b[i - 1]).toNat by omega)
    rw [if_pos (by simpa using hlt),if_pos (by omega)]
   ·rw [if_neg (by simpa using hlt)]
    by_cases hgt:b[i - 1]<a[i - 1]
    ·have:=key _ _ (show (b[i - 1]).toNat<(a[i - 1]).toNat by omega)
     rw [if_pos (by simpa using hgt),if_neg (by omega),if_pos (by omega)]
    ·rw [if_neg (by simpa using hgt),Z0 (by omega)]
     have:=Zsn N a b ha hb hl hs n (i - 1) (by omega) (by omega) (by
      rw [List.drop_eq_getElem_cons h1,List.drop_eq_getElem_cons h2,e1,he]
      congr 1;omega)
     exact this
theorem Zuu {m n:Nat} (h:(Zg m).length<(Zg n).length):m<n:=by
 have h1:=Wq (k:=(Zg m).length) (n:=m)
 have h2:=Wq (k:=(Zg m).length) (n:=n)
 have:=h1.1 (Nat.le_refl _)
 have h3:¬ n<4294967296 ^ (Zg m).length:=fun h4=>by have:=h2.2 h4;omega
 omega
theorem Zob {N:Nat} {a b:List Int} (ha:Zn a) (hb:Zn b) (h1:a.length<N) (h2:b.length<N) (h3:a.length≤35184372088000) (h4:b.length≤35184372088000):
  Zdr N a b=some (if Zc a<Zc b then -1 else if Zc b<Zc a then 1 else 0):=by
 have la:=Yx ha
 have lb:=Yx hb
 rw [Zdr,Sv ha h1 h3,oB,Sv hb h2 h4,oB]
 by_cases he:(Zg (Zc a)).length=(Zg (Zc b)).length
 ·rw [if_neg (by simp [he]),Z0 (by omega)]
  have:=Zsn N (Zg (Zc a)) (Zg (Zc b)) (Xa _) (Xa _) he (by omega) N (Zg (Zc a)).length (Nat.le_refl _) (by omega) (by
   rw [List.drop_eq_nil_of_le (Nat.le_refl _),List.drop_eq_nil_of_le (by omega)])
  rw [this,Z8,Z8]
 ·rw [if_pos (by simp;omega)]
  by_cases hlt:(Zg (Zc a)).length<(Zg (Zc b)).length
  ·rw [if_pos (by simpa using hlt),if_pos (Zuu hlt)]
  ·have:=Zuu (m:=Zc b) (n:=Zc a) (by omega)
   rw [if_neg (by simpa using hlt),if_neg (by omega),if_pos this]
def Xy (b:List Int) (k:Nat):Nat:=(b.getD k 0).toNat
theorem Uu (b:List Int) (k:Nat):Zc (b.drop k)=Xy b k+4294967296 * Zc (b.drop (k+1)):=by
 by_cases h:k<b.length
 ·rw [Ub h,Xy,List.getD_eq_getElem?_getD,List.getElem?_eq_getElem h,Option.getD_some]
 ·rw [List.drop_eq_nil_of_le (by omega),List.drop_eq_nil_of_le (by omega),Xy,List.getD_eq_getElem?_getD,List.getElem?_eq_none (by omega)];rfl
theorem Zc2 {b:List Int} (h:Zn b) (k:Nat):Xy b k<4294967296:=by
 rw [Xy,List.getD_eq_getElem?_getD]
 by_cases hk:k<b.length
 ·have:=h.get hk
  rw [List.getElem?_eq_getElem hk,Option.getD_some];omega
 ·rw [List.getElem?_eq_none (by omega)];decide
theorem drop_zero {l:List Int} {k:Nat} (h:Zn l) (hk:k<l.length) (h0:Zc (l.drop k)=0):l[k]=0∧Zc (l.drop (k+1))=0:=by
 have:=h.get hk
 rw [Ub hk] at h0
 omega
theorem Zai {l:List Int} {k j:Nat} (v:Int) (h:k<j):(l.set k v).drop j=l.drop j:=by
 rw [List.drop_set,if_pos h]
theorem Zzy (S S' Q c x y v c' L D:Nat) (h1:S'=S+Q * v) (h2:c+x+y=v+4294967296 * c'):S'+Q * 4294967296 * (c'+L+D)=S+Q * (c+(x+4294967296 * L)+(y+4294967296 * D)):=by
 subst h1
 have:Q * (c+x+y)=Q * (v+4294967296 * c'):=by rw [h2]
 grind
theorem Zrk (N:Nat) (a b:List Int) (ha:Zn a) (hb:Zn b) (hab:b.length≤a.length) (hN:a.length+1<N) (hs:a.length<35184372088000):∀ (l:List Int) (k:Nat) (sum:List Int) (c:Int),Zn l→a.length=k+l.length→sum.length=a.length+1→Zn sum→Zc (sum.drop k)=0→0≤c∧c≤1→
  Sc N a b l k sum c=some (Zg (Zc sum+4294967296 ^ k * (c.toNat+Zc l+Zc (b.drop k))))
 | [],k,sum,c,_,hk,hl,hL,hz,hc=>by
  have hk':k=a.length:=by simpa using hk.symm
  subst hk'
  rw [Sc.eq_1,Z5 (by omega),oB,oB,Int.toNat_natCast,V5 (by omega),
   Sm (hL.set _ (by omega)) (by rw [nS];omega) (by rw [nS];omega),oB]
  have h1:=Ts (l:=sum) (k:=a.length) (by omega) c
  have h2:=(drop_zero hL (by omega) hz).1
  rw [h2] at h1
  rw [Yt,List.drop_eq_nil_of_le (by omega),Yt]
  have h3:Zc (sum.set a.length c)=Zc sum+4294967296 ^ a.length * c.toNat:=by simpa using h1
  rw [h3];rfl
 | x :: l,k,sum,c,hx,hk,hl,hL,hz,hc=>by
  have hk1:a.length=k+1+l.length:=by rw [hk,nC];omega
  have h0:=hx.head
  have hz':=drop_zero hL (by omega) hz
  have hy:=Zc2 hb k
  have hsz:sum[k]'(by omega)=0:=hz'.1
  -- the sum of one place
  have step:∀ s:Int,s=c+x+(Xy b k:Int)→Zf2 k sum (Sc N a b l) s=some (Zg (Zc sum+4294967296 ^ k * (c.toNat+Zc (x :: l)+Zc (b.drop k)))):=fun s hs'=>by
   rw [Zf2,Z5 (by omega),oB,oB,Zld,Int.toNat_natCast,Zek]
   have hw:0≤u32.wrap s∧u32.wrap s<4294967296:=by rw [IntKind.wrap_u32];omega
   rw [Zrk N a b ha hb hab hN hs l (k+1) _ _ hx.tail hk1 (by rw [nS];exact hl) (hL.set _ hw) (by rw [Zai _ (by omega)];exact hz'.2) (by omega)]
   have h1:=Ts (l:=sum) (k:=k) (by omega) (u32.wrap s)
   rw [hsz] at h1
   rw [Nat.pow_succ,Y7,Uu b k]
   congr 2
   exact Zzy _ _ _ _ _ _ (u32.wrap s).toNat _ _ _ (by simpa using h1) (by rw [IntKind.wrap_u32];omega)
  rw [Sc.eq_2]
  have hcx:u64.wrap (c+u64.wrap x)=c+x:=by rw [Xj (x:=x) (by omega),Xj (by omega)]
  by_cases hkb:k<b.length
  ·have e:Xy b k=(b[k]).toNat:=by rw [Xy,List.getD_eq_getElem?_getD,List.getElem?_eq_getElem hkb,Option.getD_some]
   have:=hb.get hkb
   rw [if_pos (by simpa using hkb),Z5 hkb,oB,hcx,Xj (x:=b[k]) (by omega),Xj (by omega)]
   exact step _ (by omega)
  ·have e:Xy b k=0:=by rw [Xy,List.getD_eq_getElem?_getD,List.getElem?_eq_none (by omega)];rfl
   rw [if_neg (by simpa using hkb),hcx]
   exact step _ (by omega)
theorem Zrj {N:Nat} {a b:List Int} (ha:Zn a) (hb:Zn b) (hab:b.length≤a.length) (hN:a.length+1<N) (hs:a.length<35184372088000):Zf1 N a b=some (Zg (Zc a+Zc b)):=by
 rw [Zf1,Z0 (by omega),Z9 (by simp only [maxLen];omega),Zrk N a b ha hb hab hN hs a 0 _ 0 ha (by omega) (by rw [List.length_replicate];omega) (.zeros _) (by rw [List.drop_zero];exact Sk _) (by omega),Sk,List.drop_zero]
 simp
theorem Zzz {N:Nat} {a b:List Int} (ha:Zn a) (hb:Zn b) (h1:a.length+1<N) (h2:b.length+1<N) (h3:a.length<35184372088000) (h4:b.length<35184372088000):Zif N a b=some (Zg (Zc a+Zc b)):=by
 have la:=Yx ha
 have lb:=Yx hb
 rw [Zif,Sv ha (by omega) (by omega),oB,Sv hb (by omega) (by omega),oB]
 by_cases h:(Zg (Zc a)).length<(Zg (Zc b)).length
 ·rw [if_pos (by simpa using h),Zrj (Xa _) (Xa _) (by omega) (by omega) (by omega),Z8,Z8,Nat.add_comm]
 ·rw [if_neg (by simpa using h),Zrj (Xa _) (Xa _) (by omega) (by omega) (by omega),Z8,Z8]
theorem Zuq (N:Nat) (a b:List Int) (ha:Zn a) (hb:Zn b) (hs:a.length<35184372088000):∀ (n k:Nat) (r:List Int) (c:Int),k≤a.length→a.length<n+k→r.length=a.length→Zn r→0≤c∧c≤1→r.drop k=a.drop k→
  4294967296 ^ k * (c.toNat+Zc (b.drop k))≤4294967296 ^ k * Zc (a.drop k)→
  ∃ r',Tq N a b n r c (k:Int)=some r'∧r'.length=a.length∧Zn r'∧Zc r'+4294967296 ^ k * (c.toNat+Zc (b.drop k))=Zc r
 | 0,k,r,c,hk,hn,_,_,_,_,_=>by omega
 | n+1,k,r,c,hk,hn,hl,hr,hc,he,hle=>by
  have hQ:0<4294967296 ^ k:=Nat.pow_pos (by decide)
  have hle':c.toNat+Zc (b.drop k)≤Zc (a.drop k):=Nat.le_of_mul_le_mul_left hle hQ
  rw [Tq.eq_2]
  by_cases h0:k<a.length
  ·have ga:=ha.get h0
   have hrk:r[k]'(by omega)=a[k]:=by
    have:(r.drop k)[0]'(by simp;omega)=(a.drop k)[0]'(by simp;omega):=by simp only [he]
    simpa using this
   have hy:=Zc2 hb k
   rw [Uu b k,Ub h0] at hle'
   have step:∀ t:Int,t=c+(Xy b k:Int)→∃ r',Zf7 r (k:Int) (Tq N a b n) t=some r'∧r'.length=a.length∧Zn r'∧Zc r'+4294967296 ^ k * (c.toNat+Zc (b.drop k))=Zc r:=fun t ht=>by
    have hw:0≤u32.wrap (a[k] - u32.wrap t)∧u32.wrap (a[k] - u32.wrap t)<4294967296:=by rw [IntKind.wrap_u32];omega
    have fin:∀ c':Int,0≤c'∧c'≤1→a[k]+4294967296 * c'=t+u32.wrap (a[k] - u32.wrap t)→∃ r',Zf8 r (k:Int) (Tq N a b n) t c'=some r'∧r'.length=a.length∧Zn r'∧Zc r'+4294967296 ^ k * (c.toNat+Zc (b.drop k))=Zc r:=fun c' hc' hv=>by
     rw [Zf8,Z5 (by omega),oB,oB,Zlh,hrk,Z0 (by omega),Int.toNat_natCast]
     obtain ⟨r',q1,q2,q3,q4⟩:=Zuq N a b ha hb hs n (k+1) (r.set k (u32.wrap (a[k] - u32.wrap t))) c' (by omega) (by omega) (by rw [nS];exact hl) (hr.set _ hw) hc' (by
      rw [Zai _ (by omega)]
      have:=congrArg (List.drop 1) he
      simpa [List.drop_drop,Nat.add_comm] using this) (Nat.mul_le_mul_left _ (by omega))
     refine ⟨r',q1,q2,q3,?_⟩
     have h1:=Ts (l:=r) (k:=k) (by omega) (u32.wrap (a[k] - u32.wrap t))
     rw [hrk] at h1
     rw [Uu b k]
     rw [Nat.pow_succ] at q4
     have hv':(a[k]).toNat+4294967296 * c'.toNat=c.toNat+Xy b k+(u32.wrap (a[k] - u32.wrap t)).toNat:=by omega
     have hv2:4294967296 ^ k * ((a[k]).toNat+4294967296 * c'.toNat)=4294967296 ^ k * (c.toNat+Xy b k+(u32.wrap (a[k] - u32.wrap t)).toNat):=by rw [hv']
     grind
    rw [Zf7,Z5 (by omega),oB,hrk,Xj (x:=a[k]) (by omega)]
    by_cases hlt:a[k]<t
    ·rw [if_pos (by simpa using hlt)]
     exact fin 1 (by omega) (by rw [IntKind.wrap_u32,IntKind.wrap_u32];omega)
    ·rw [if_neg (by simpa using hlt)]
     exact fin 0 (by omega) (by rw [IntKind.wrap_u32,IntKind.wrap_u32];omega)
   rw [if_pos (by simpa using h0)]
   by_cases hkb:k<b.length
   ·have e:Xy b k=(b[k]).toNat:=by rw [Xy,List.getD_eq_getElem?_getD,List.getElem?_eq_getElem hkb,Option.getD_some]
    have:=hb.get hkb
    rw [if_pos (by simpa using hkb),Z5 hkb,oB,Xj (x:=b[k]) (by omega),Xj (by omega)]
    exact step _ (by omega)
   ·have e:Xy b k=0:=by rw [Xy,List.getD_eq_getElem?_getD,List.getElem?_eq_none (by omega)];rfl
    rw [if_neg (by simpa using hkb)]
    exact step _ (by omega)
  ·rw [if_neg (by simpa using h0)]
   rw [List.drop_eq_nil_of_le (show a.length≤k by omega),Yt] at hle'
   exact ⟨r,rfl,hl,hr,by rw [show c.toNat+Zc (b.drop k)=0 by omega];simp⟩
theorem Zyl {N:Nat} {a b:List Int} (ha:Zn a) (hb:Zn b) (h1:a.length+1<N) (h2:b.length+1<N) (h3:a.length<35184372088000) (h4:b.length<35184372088000):
  Zf4 N a b=some (if Zc a<Zc b then ([],false) else (Zg (Zc a - Zc b),true)):=by
 have la:=Yx ha
 have lb:=Yx hb
 rw [Zf4,Zob ha hb (by omega) (by omega) (by omega) (by omega),oB]
 by_cases h:Zc a<Zc b
 ·rw [if_pos h,if_pos (by decide),if_pos h]
 ·rw [if_neg h,if_neg (by split <;> decide),if_neg h,Sv ha (by omega) (by omega),oB,Zn9 (by omega),oB,Sv hb (by omega) (by omega),oB,Zlg]
  obtain ⟨r',q1,q2,q3,q4⟩:=Zuq N (Zg (Zc a)) (Zg (Zc b)) (Xa _) (Xa _) (by omega) N 0 (Zg (Zc a)) 0 (by omega) (by omega) rfl (Xa _) (by omega) rfl (by simp [Z8];omega)
  rw [show ((0:Nat):Int)=0 from rfl] at q1
  rw [q1,oB,Sm q3 (by omega) (by omega),oB]
  simp [Z8] at q4
  congr 3
  omega
theorem Z4h (P P' Q c x y e v c' L:Nat) (h1:P'+Q * e=P+Q * v) (h2:c+(x * y+e)=v+4294967296 * c'):P'+Q * 4294967296 * (c'+x * L)=P+Q * (c+x * (y+4294967296 * L)):=by
 have:Q * (c+(x * y+e))=Q * (v+4294967296 * c'):=by rw [h2]
 grind
theorem Zvh (b:List Int) (hb:Zn b) (i:Nat) (kk:Nat→List Int→Option R5) (x:Int) (hx:0≤x∧x<4294967296):∀ (l:List Int) (j:Nat) (p:List Int) (c:Int),Zn l→j+l.length=b.length→i+b.length<p.length→p.length<4611686018427387904→Zn p→0≤c∧c<4294967296→Zc (p.drop (i+b.length))=0→
  ∃ p',Zcb b i kk x l j p c=kk (i+1) p'∧p'.length=p.length∧Zn p'∧Zc p'=Zc p+4294967296 ^ (i+j) * (c.toNat+x.toNat * Zc l)∧Zc (p'.drop (i+b.length+1))=0
 | [],j,p,c,_,hj,hp,hs,hL,hc,hz=>by
  have hj':j=b.length:=by simpa using hj
  subst hj'
  have hz':=drop_zero hL hp hz
  rw [Zcb.eq_1,Z0 (by omega),show (i:Int)+(b.length:Int)=((i+b.length:Nat):Int) by omega,Z5 hp,oB,oB,Int.toNat_natCast,V5 hc]
  refine ⟨_,rfl,by rw [nS],hL.set _ hc,?_,?_⟩
  ·have h1:=Ts hp c
   rw [hz'.1] at h1
   rw [Yt,Nat.mul_zero,Nat.add_zero]
   simpa using h1
  ·rw [Zai _ (by omega)];exact hz'.2
 | y :: l,j,p,c,hl,hj,hp,hs,hL,hc,hz=>by
  have hy:=hl.head
  have hj1:j+1+l.length=b.length:=by rw [← hj,nC];omega
  have hij:i+j<p.length:=by omega
  have hg:=hL.get hij
  have hm:x * y≤4294967295 * 4294967295:=Int.mul_le_mul (by omega) (by omega) (by omega) (by omega)
  have hm0:0≤x * y:=Int.mul_nonneg hx.1 hy.1
  rw [Zcb.eq_2,Z0 (by omega),show (i:Int)+(j:Int)=((i+j:Nat):Int) by omega,Z5 hij,oB,oB,Int.toNat_natCast,Xj (x:=x) (by omega),Xj (x:=y) (by omega),Xj (x:=p[i+j]) (by omega),Xj (x:=x * y) (by omega),Xj (x:=x * y+p[i+j]) (by omega),Xj (by omega),Zek]
  generalize hs':c+(x * y+p[i+j])=s
  have hw:0≤u32.wrap s∧u32.wrap s<4294967296:=by rw [IntKind.wrap_u32];omega
  obtain ⟨p',q1,q2,q3,q4,q5⟩:=Zvh b hb i kk x hx l (j+1) (p.set (i+j) (u32.wrap s)) (s / 4294967296) hl.tail hj1 (by rw [nS];exact hp) (by rw [nS];exact hs) (hL.set _ hw) (by omega) (by rw [Zai _ (by omega)];exact hz)
  refine ⟨p',q1,by rw [q2,nS],q3,?_,q5⟩
  rw [q4,← Nat.add_assoc i j 1,Nat.pow_succ,Y7]
  refine Z4h _ _ _ _ _ _ (p[i+j]).toNat (u32.wrap s).toNat _ _ (Ts hij _) ?_
  rw [IntKind.wrap_u32]
  have e1:((x.toNat * y.toNat:Nat):Int)=x * y:=by rw [Int.natCast_mul,Int.toNat_of_nonneg hx.1,Int.toNat_of_nonneg hy.1]
  omega
theorem Zvg (N:Nat) (b:List Int) (hb:Zn b):∀ (l:List Int) (i:Nat) (p:List Int),Zn l→p.length=i+l.length+b.length→p.length<N→p.length<35184372088000→Zn p→Zc (p.drop (i+b.length))=0→
  Q6 N b l i p=some (Zg (Zc p+4294967296 ^ i * (Zc l * Zc b)))
 | [],i,p,_,hl,hn,hs,hp,hz=>by
  rw [Q6.eq_1,Sm hp hn (by omega),oB,Yt];simp
 | x :: l,i,p,hx,hl,hn,hs,hp,hz=>by
  rw [nC] at hl
  obtain ⟨p',q1,q2,q3,q4,q5⟩:=Zvh b hb i (Q6 N b l) x hx.head b 0 p 0 hb (by omega) (by omega) (by omega) hp (by omega) hz
  rw [Q6.eq_2,q1,Zvg N b hb l (i+1) p' hx.tail (by omega) (by omega) (by omega) q3 (by rw [show i+1+b.length=i+b.length+1 by omega];exact q5),q4,Y7,Nat.pow_succ]
  congr 2
  simp only [Nat.add_zero,Int.toNat_zero,Nat.zero_add]
  grind
theorem Zji {N:Nat} {a b:List Int} (ha:Zn a) (hb:Zn b) (h1:a.length+b.length<N) (h3:a.length+b.length<35184372088000):To N a b=some (Zg (Zc a * Zc b)):=by
 have la:=Yx ha
 have lb:=Yx hb
 rw [To,Sv ha (by omega) (by omega),oB,Sv hb (by omega) (by omega),oB,Z0 (by omega),Z9 (by simp only [maxLen];omega),
  Zvg N _ (Xa _) _ 0 _ (Xa _) (by rw [List.length_replicate];omega) (by rw [List.length_replicate];omega) (by rw [List.length_replicate];omega) (.zeros _) (by
   rw [List.drop_replicate];exact Sk _),Sk,Z8,Z8]
 simp
def Zdy (N:Nat) (aa:Int):Nat→R5→Int→Int→Option Ra
  | 0,_,_,_=>none
  | af+1,ac,ad,ab=>if (decide (0≤ab))=true then ((Zm ac ab).bind fun ae=>Zt ((u64.wrap aa)≠0) ((some (ac.set (Int.toNat ab) (u32.wrap (u64.wrap (Int.tdiv (Y3 .u64 (X8 .u64 ad 32) (u64.wrap ae)) (u64.wrap aa)))))).bind fun ag=>Zt ((u64.wrap aa)≠0) ((Zdy N aa af) ag (Int.tmod (Y3 .u64 (X8 .u64 ad 32) (u64.wrap ae)) (u64.wrap aa)) (i64.wrap (ab - 1))))) else (some (u32.wrap ad,ac))
termination_by structural x=>x
def Zim (N:Nat) (aa:List Int) (ab:Int):Option Ra:=
  Zdy N ab N aa 0 (i64.wrap ((aa.length:Int) - 1))
theorem Z04 {N ad:Nat} {a0:Option Addr} {col:Ze} {w0:World} {ae:R5} {ab:Int} {r:Ra} (qc0:Nat) (hm:Zim N ae ab=some r) (hd:V9 [qc0]=true) (h0:Zb (Za.int .u32) 95 qc0 col w0 a0 ad ae):
    Calls prog 184 #[.slice a0 ae.length ad,.int .u32 ab] w0 (fun e w'=>∃ (col':Ze),e= .returned ((.int .u32 r.1))∧Zq (pS [qc0]) col w0 col' w'∧Zb (Za.int .u32) 95 qc0 col' w' a0 ad r.2∧r.2.length=ae.length):=by
 refine Xf 4 (m:=36) func184 rfl rfl rfl rfl rfl ?_;rw [Zim.eq_1] at hm;have af:=St.startL (l:=[qc0]) rfl col w0;replace h0:=h0.startL (U6 hd 0 rfl) (U5 hd 0 rfl);refine go ?_;refine Zu [1,1000000] (fun n f an=>∃ ao ac aa am ag,ag=n∧Zdy N ab ag ac aa am=some r∧St w0 (Xc [qc0] col) ao an∧Zb (Za.int .u32) 95 440 ao an a0 ad ac∧ac.length=ae.length∧ac.length=ae.length∧[0,5,6].map f=[.slice a0 ac.length ad,.int .u64 aa,.int .i64 am]) N ⟨_,_,0,_,_,rfl,hm,af,h0,rfl,rfl,rfl⟩ ?_;clear hm;intro n f an hI;obtain ⟨ao,ac,aa,am,ag,hn,hm,af,aj,ar,au,hs⟩:=hI;subst hn;refine .lL [0,5,6] hs ?_
 cases ag with
 | zero=>rw [Zdy.eq_1] at hm;cases hm
 | succ ag=>
  rw [Zdy.eq_2] at hm;refine go ?_;refine Zo hm (fun hb hm=>go ?_) fun hb hm=>go ?_
  ·refine lV (.int .u64 (X8 .u64 aa 32)) (Zgz aa 32 rfl rfl (by decide))<|go ?_;obtain ⟨ah,ai,hm⟩:=bZ hm;refine lI ai (aj.addr ai)<|lW (aj.atInt ai) ?_;refine go ?_;obtain ⟨av,hm⟩:=Z3 hm;refine lV (.int .u64 (u64.wrap (Int.tdiv (Y3 .u64 (X8 .u64 aa 32) (u64.wrap ah)) (u64.wrap ab)))) (Sp (Y3 .u64 (X8 .u64 aa 32) (u64.wrap ah)) (u64.wrap ab) rfl rfl av)<|go ?_;refine lI ai (aj.addr ai) ?_;obtain ⟨ak,al,hm⟩:=bZ hm;have al:ak=ac.set (Int.toNat am) (u32.wrap (u64.wrap (Int.tdiv (Y3 .u64 (X8 .u64 aa 32) (u64.wrap ah)) (u64.wrap ab)))):=(Option.some.inj al).symm;refine Y6 (x1:=u32.wrap (u64.wrap (Int.tdiv (Y3 .u64 (X8 .u64 aa 32) (u64.wrap ah)) (u64.wrap ab)))) aj ai ?_;intro az aw ax ap;rw [← al] at ap;have aq:ak.length=ae.length:=(show ac.length=ak.length by rw [al,nS]).symm.trans ar;refine .ld (d:=0) (v:=(.slice a0 ak.length ad)) (congrArg (fun n=>Value.slice a0 n ad) (show ac.length=ak.length by rw [al,nS])) ?_;refine go ?_;obtain ⟨ay,hm⟩:=Z3 hm;refine lV (.int .u64 (Int.tmod (Y3 .u64 (X8 .u64 aa 32) (u64.wrap ah)) (u64.wrap ab))) (Zcn (Y3 .u64 (X8 .u64 aa 32) (u64.wrap ah)) (u64.wrap ab) rfl rfl ay)<|go ?_;replace af:=af.kp aw ax;exact ⟨ag,by omega,rfl,⟨_,_,_,_,_,rfl,hm,af,ap,aq,aq,rfl⟩⟩
  cases hm;exact ⟨rfl,_,rfl,af.finL rfl (cm [(440,qc0)]),af.foL aj,au⟩
def Zdl (aa:Int) (ab:Int):Option Int:=
  (Zkd (⟨#[0,1,2,2,3,3,3,3,4,4,4,4,4,4,4,4,5,5,5,5,5,5,5,5,5,5,5,5,5,5,5,5,6,6,6,6,6,6,6,6,6,6,6,6,6,6,6,6,6,6,6,6,6,6,6,6,6,6,6,6,6,6,6,6,7,7,7,7,7,7,7,7,7,7,7,7,7,7,7,7,7,7,7,7,7,7,7,7,7,7,7,7,7,7,7,7,7,7,7,7,7,7,7,7,7,7,7,7,7,7,7,7,7,7,7,7,7,7,7,7,7,7,7,7,7,7,7,7,8,8,8,8,8,8,8,8,8,8,8,8,8,8,8,8,8,8,8,8,8,8,8,8,8,8,8,8,8,8,8,8,8,8,8,8,8,8,8,8,8,8,8,8,8,8,8,8,8,8,8,8,8,8,8,8,8,8,8,8,8,8,8,8,8,8,8,8,8,8,8,8,8,8,8,8,8,8,8,8,8,8,8,8,8,8,8,8,8,8,8,8,8,8,8,8,8,8,8,8,8,8,8,8,8,8,8,8,8,8,8,8,8,8,8,8,8,8,8,8,8,8,8,8,8,8,8,8]⟩) (u8.wrap aa)).bind fun ac=>some (i64.wrap (ab+(i64.wrap ac)))
def Zft (aa:Int) (ab:Int):Option Int:=
  if (decide (256≤aa))=true then (Zdl (Yw .u32 aa 8) (i64.wrap (ab+8))) else (Zdl aa ab)
def Zfs (aa:Int):Option Int:=
  if (decide (65536≤aa))=true then (Zft (Yw .u32 aa 16) 16) else (Zft aa 0)
theorem Zr0 {col:Ze} {w0:World} {ac r:Int} (hm:Zfs ac=some r):
    Calls prog 143 #[.int .u32 ac] w0 (fun e w'=>e= .returned ((.int .i64 r))∧Below w0.heap.size w0 w'):=by
 refine Xf 2 (m:=19) func143 rfl rfl rfl rfl rfl ?_;rw [Zfs.eq_1] at hm;have aa:=St.start col w0;refine Zs<|Wl<|Yv rfl<|Zl<|Zs ?_;refine Wp.cutK [1000000] (fun f ag=>∃ ah ab ad,Zft ab ad=some r∧St w0 (Zj col) ah ag∧[0,2].map f=[.int .u32 ab,.int .i64 ad]) ?_ ?_
 ·intro f ag hJ;obtain ⟨ah,ab,ad,hm,aa,hs⟩:=hJ;rw [Zft.eq_1] at hm;refine .lL [0,2] hs<|Zs ?_;refine Wp.cutK [1000000] (fun f ai=>∃ aj ae af,Zdl ae af=some r∧St w0 (Zj col) aj ai∧[0,2].map f=[.int .u32 ae,.int .i64 af]) ?_ ?_
  ·intro f ai hJ;obtain ⟨aj,ae,af,hm,aa,hs⟩:=hJ;rw [Zdl.eq_1] at hm;refine .lL [0,2] hs<|go ?_;obtain ⟨ak,al,hm⟩:=bZ hm;refine lV (.int .u8 ak) (Z5p (s:=(⟨#[0,1,2,2,3,3,3,3,4,4,4,4,4,4,4,4,5,5,5,5,5,5,5,5,5,5,5,5,5,5,5,5,6,6,6,6,6,6,6,6,6,6,6,6,6,6,6,6,6,6,6,6,6,6,6,6,6,6,6,6,6,6,6,6,7,7,7,7,7,7,7,7,7,7,7,7,7,7,7,7,7,7,7,7,7,7,7,7,7,7,7,7,7,7,7,7,7,7,7,7,7,7,7,7,7,7,7,7,7,7,7,7,7,7,7,7,7,7,7,7,7,7,7,7,7,7,7,7,8,8,8,8,8,8,8,8,8,8,8,8,8,8,8,8,8,8,8,8,8,8,8,8,8,8,8,8,8,8,8,8,8,8,8,8,8,8,8,8,8,8,8,8,8,8,8,8,8,8,8,8,8,8,8,8,8,8,8,8,8,8,8,8,8,8,8,8,8,8,8,8,8,8,8,8,8,8,8,8,8,8,8,8,8,8,8,8,8,8,8,8,8,8,8,8,8,8,8,8,8,8,8,8,8,8,8,8,8,8,8,8,8,8,8,8,8,8,8,8,8,8,8,8,8,8,8,8]⟩)) underlying9 rfl rfl al)<|go ?_;cases hm;exact ⟨rfl,rfl,aa.below⟩
  refine go ?_;refine Zo hm (fun hb hm=>go ?_) fun hb hm=>?_
  ·refine lV (.int .u32 (Yw .u32 ab 8)) (Qi ab 8 rfl rfl (by decide))<|go ?_;exact ⟨rfl,_,_,_,hm,aa,rfl⟩
  refine X0 ?_;exact ⟨rfl,_,_,_,hm,aa,rfl⟩
 refine go ?_;refine Zo hm (fun hb hm=>go ?_) fun hb hm=>?_
 ·refine lV (.int .u32 (Yw .u32 ac 16)) (Qi ac 16 rfl rfl (by decide))<|go ?_;exact ⟨rfl,_,_,16,hm,aa,rfl⟩
 refine X0 ?_;exact ⟨rfl,_,_,0,hm,aa,rfl⟩
def Zib (aa:Int):Option Int:=
  (Zfs aa).bind fun ab=>some (i64.wrap (32 - ab))
theorem Z0r {col:Ze} {w0:World} {ac r:Int} (hm:Zib ac=some r):
    Calls prog 191 #[.int .u32 ac] w0 (fun e w'=>e= .returned ((.int .i64 r))∧Below w0.heap.size w0 w'):=by
 refine Xf 2 (m:=6) func191 rfl rfl rfl rfl rfl ?_;rw [Zib.eq_1] at hm;have aa:=St.start col w0;refine go ?_;obtain ⟨af,ad,hm⟩:=bZ hm;refine Zk (Zr0 (col:=(Zj col)) ad) ?_;rintro _ ae ⟨rfl,ab⟩;refine ⟨_,rfl,?_⟩;replace ab:Zh (Zj col) w0 (Zj col) ae:=.of_below ab;refine go ?_;cases hm;replace aa:=aa.grow ab;exact ⟨rfl,rfl,aa.below⟩
def Zcd (ab:Int):List Int→Nat→R5→Option R5
  | [],aa,ac=>some ac
  | ad :: af,aa,ac=>(Zm ac (aa:Int)).bind fun ag=>Zt (0≤ab) ((some (ac.set (Int.toNat (aa:Int)) (Y3 .u32 ag (X8 .u32 ad ab)))).bind fun ae=>Zt (0≤ab) ((Zm ae (i64.wrap ((aa:Int)+1))).bind fun ai=>(some (ae.set (Int.toNat (i64.wrap ((aa:Int)+1))) (u32.wrap (Yw .u64 (X8 .u64 (u64.wrap ad) ab) 32)))).bind fun ah=>(Zcd ab af) (aa+1) ah))
termination_by structural x=>x
def Zf6 (aa:List Int) (ab:Int):Option R5:=
  Zt ((Int.toNat (i64.wrap ((aa.length:Int)+1))) * 4≤281474976710656∧(Int.toNat (i64.wrap ((aa.length:Int)+1)))≤maxLen∧0≤(i64.wrap ((aa.length:Int)+1))) (Zcd ab aa 0 (List.replicate (Int.toNat (i64.wrap ((aa.length:Int)+1))) (0:Int)))
theorem Zr4 {ay:Nat} {a0:Option Addr} {col:Ze} {w0:World} {ad:R5} {aa:Int} {r:R5} (c1:Nat) (hm:Zf6 ad aa=some r) (h0:Sl (Za.int .u32) col w0 a0 ay ad):
    Calls prog 187 #[.slice a0 ad.length ay,.int .i64 aa] w0 (fun e w'=>∃ (col':Ze) (ra1:Option Addr) (rc2:Nat),e= .returned ((.slice ra1 r.length rc2))∧Zh col w0 col' w'∧Zb (Za.int .u32) 95 c1 col' w' ra1 rc2 r):=by
 refine Xf 4 (m:=40) func187 rfl rfl rfl rfl rfl ?_;rw [Zf6.eq_1] at hm;have ab:=St.start col w0;refine go ?_;obtain ⟨ao,hm⟩:=Z3 hm;refine Sz (col:=(Zj col)) (w:=w0) (r:=(Za.int .u32)) (n:=(Int.toNat (i64.wrap ((ad.length:Int)+1)))) (x0:=0) 1 rfl underlying35 Tryz.t95 rfl rfl rfl rfl rfl (congrArg (Value.int _) (Int.toNat_of_nonneg ao.2.2).symm) (congrArg (Value.int _) (Int.toNat_of_nonneg ao.2.2).symm) ao.1 ao.2.1 (Zco .u32 0) ?_;intro bc bd be a1 a2;refine go ?_;replace ab:=ab.grow a1;refine Zu [1,12,13,1000000] (fun n f au=>∃ ae af ah ai ak al,n=al.length∧ad.drop af=al∧Zcd aa al af ak=some r∧St w0 (Zj col) ae au∧Zb (Za.int .u32) 95 1 ae au ah ai ak∧[14,5].map f=[.int .i64 af,.slice ah ak.length ai]) ad.length ⟨_,0,_,_,_,_,rfl,rfl,hm,ab,a2,rfl⟩ ?_;clear hm;intro n f au hI;obtain ⟨ae,af,ah,ai,ak,al,hn,hl,hm,ab,aj,hs⟩:=hI;subst hn;refine .lL [14,5] hs ?_;replace h0:=h0.keep (Zi.start col w0)
 cases al with
 | nil=>
  have hk:¬ ((af:Int)<(ad.length:Int)):=by have:=List.drop_eq_nil_iff.1 hl;omega
  have hkb:=decide_eq_false hk;rw [Zcd.eq_1] at hm;refine go ?_;refine Xs (congrArg Value.bool hkb)<|go ?_;cases hm;exact ⟨rfl,_,_,_,rfl,ab.fin (cm [(1,c1)]),ab.fo aj⟩
 | cons ac a3=>
  obtain ⟨av,a4,a5⟩:=X3 hl;have hk:(af:Int)<(ad.length:Int):=by omega
  have hkb:=decide_eq_true hk;rw [Zcd.eq_2] at hm;refine go ?_;refine Xt (congrArg Value.bool hkb)<|go ?_;refine lI av ((h0.ks ab).addr av)<|lW ((h0.ks ab).atInt av) ?_;refine go ?_;refine Wh (col:=ae) [(0,1),(1,1),(2,1),(3,0),(4,1),(5,1),(6,1),(7,1),(8,1),(9,2)] (by kernel_rfl) (by kernel_rfl)<|xu rfl rfl (fun _=>Uj rfl) ?_;refine xu rfl rfl (fun _=>Yh rfl) ?_;obtain ⟨ap,ag,hm⟩:=bZ hm;refine xu rfl rfl (fun _=>Ym underlying35 sizeOf95 rfl rfl (Z4 ag).1 (Z4 ag).2.1 (aj.addr ag)) ?_;refine xW (fun _ hC=>(aj.gr (hC.bl ae)).atInt ag) ?_;refine xu rfl rfl (fun _=>Yh rfl) ?_;refine xu rfl rfl (fun _=>Yh rfl) ?_;obtain ⟨a6,hm⟩:=Z3 hm;refine xu (v:=(.int .u32 (X8 .u32 ac aa))) rfl rfl (fun _=>Zgz ac aa rfl rfl a6) ?_;refine xu (v:=(.int .u32 (Y3 .u32 ap (X8 .u32 ac aa)))) rfl rfl (fun _=>Zqp ap (X8 .u32 ac aa) rfl rfl) ?_;refine xu rfl rfl (fun _=>Ym underlying35 sizeOf95 rfl rfl (Z4 ag).1 (Z4 ag).2.1 (aj.addr ag)) ?_;refine xe rfl rfl ?_;intro bf hC0;have hC:=hC0.bl ae;obtain ⟨am,aq,hm⟩:=bZ hm;have aq:am=ak.set (Int.toNat (af:Int)) (Y3 .u32 ap (X8 .u32 ac aa)):=(Option.some.inj aq).symm;replace aj:=aj.gr hC;refine Y6 (x1:=Y3 .u32 ap (X8 .u32 ac aa)) aj ag ?_;intro bg a7 a8 an;rw [← aq] at an;refine .ld (d:=5) (v:=(.slice ah am.length ai)) (congrArg (fun n=>Value.slice ah n ai) (show ak.length=am.length by rw [aq,nS])) ?_;refine Zl<|xk ae<|Y2 ?_;replace ab:=(ab.grow hC).kp a7 a8;intro bh hC;replace hC:=hC.bl ae;refine go ?_;obtain ⟨a9,hm⟩:=Z3 hm;refine lV (.int .u64 (X8 .u64 (u64.wrap ac) aa)) (Zgz (u64.wrap ac) aa rfl rfl a9)<|lV (.int .u64 (Yw .u64 (X8 .u64 (u64.wrap ac) aa) 32)) (Qi (X8 .u64 (u64.wrap ac) aa) 32 rfl rfl (by decide))<|go ?_;obtain ⟨bi,aw,hm⟩:=bZ hm;replace an:=an.gr hC;refine lI aw (an.addr aw) ?_;obtain ⟨ax,ar,hm⟩:=bZ hm;have ar:ax=am.set (Int.toNat (i64.wrap ((af:Int)+1))) (u32.wrap (Yw .u64 (X8 .u64 (u64.wrap ac) aa) 32)):=(Option.some.inj ar).symm;refine Y6 (x1:=u32.wrap (Yw .u64 (X8 .u64 (u64.wrap ac) aa) 32)) an aw ?_;intro bj ba bb az;rw [← ar] at az;refine .ld (d:=5) (v:=(.slice ah ax.length ai)) (congrArg (fun n=>Value.slice ah n ai) (show am.length=ax.length by rw [ar,nS])) ?_;refine go ?_;replace ab:=(ab.grow hC).kp ba bb
  exact ⟨a3.length,by simp,rfl,⟨_,_,_,_,_,_,rfl,a4,hm,ab,az,(X5 (congrArg (Value.int .i64) (X2 (Nat.lt_of_lt_of_le a5 (h0.ks ab).1.1))) rfl)⟩⟩
def Zin (aa:List Int) (kk_L1:(List Int→Option R5)) (ab:Bool):Option R5:=
  if ab=true then (Zt ((0:Int)≤(i64.wrap ((aa.length:Int) - 1))∧(i64.wrap ((aa.length:Int) - 1))≤(aa.length:Int)) (kk_L1 (aa.take (Int.toNat (i64.wrap ((aa.length:Int) - 1)))))) else (some aa)
def Za2 (N:Nat):Nat→R5→Option R5
  | 0,_=>none
  | ab+1,aa=>if (decide (0<(aa.length:Int)))=true then ((Zm aa (i64.wrap ((aa.length:Int) - 1))).bind fun ac=>Zin aa (Za2 N ab) (decide (ac=0))) else (Zin aa (Za2 N ab) false)
termination_by structural x=>x
def Zdz (N:Nat) (aa:List Int):Option R5:=
  Za2 N N aa
theorem Zr5 {N ap:Nat} {a0:Option Addr} {col:Ze} {w0:World} {ag r:R5} (qc0:Nat) (hm:Zdz N ag=some r) (hd:V9 [qc0]=true) (h0:Zb (Za.int .u32) 95 qc0 col w0 a0 ap ag):
    Calls prog 142 #[.slice a0 ag.length ap] w0 (fun e w'=>∃ (col':Ze) (ra1:Option Addr) (rc2:Nat),e= .returned ((.slice ra1 r.length rc2))∧Zq (pS [qc0]) col w0 col' w'∧Zb (Za.int .u32) 95 qc0 col' w' ra1 rc2 r):=by
 refine Xf 2 (m:=21) func142 rfl rfl rfl rfl rfl ?_;rw [Zdz.eq_1] at hm;have ab:=St.startL (l:=[qc0]) rfl col w0;replace h0:=h0.startL (U6 hd 0 rfl) (U5 hd 0 rfl);refine go ?_;refine Zu [1000000] (fun n f ah=>∃ ai ad ae aa af,af=n∧Za2 N af aa=some r∧St w0 (Xc [qc0] col) ai ah∧Zb (Za.int .u32) 95 440 ai ah ad ae aa∧[0].map f=[.slice ad aa.length ae]) N ⟨_,_,_,_,_,rfl,hm,ab,h0,rfl⟩ ?_;clear hm;intro n f ah hI;obtain ⟨ai,ad,ae,aa,af,hn,hm,ab,ac,hs⟩:=hI;subst hn;refine .lL [0] hs ?_
 cases af with
 | zero=>rw [Za2.eq_1] at hm;cases hm
 | succ af=>
  rw [Za2.eq_2] at hm;refine Zs<|Zs ?_;refine Wp.cutK [0,1000000] (fun f aj=>∃ ak al,Zin aa (Za2 N af) al=some r∧St w0 (Xc [qc0] col) ak aj∧Zb (Za.int .u32) 95 440 ak aj ad ae aa∧[14].map f=[.bool al]) ?_ ?_
  ·intro f aj hJ;obtain ⟨ak,al,hm,ab,ac,hs⟩:=hJ;rw [Zin.eq_1] at hm;refine .lL [14] hs ?_;refine Zo hm (fun hb hm=>go ?_) fun hb hm=>go ?_
   ·obtain ⟨am,hm⟩:=Z3 hm;refine lv (v:=.slice ad (Int.toNat (i64.wrap ((aa.length:Int) - 1))) ae) rfl rfl (Zju underlying35 sizeOf95 rfl rfl am.1 (by have:=ac.lecap;have:=am.2;omega))<|.ld (d:=19) (v:=(.slice ad ((aa.take (Int.toNat (i64.wrap ((aa.length:Int) - 1)))).length) ae)) (congrArg (fun n=>Value.slice ad n ae) (List.length_take_of_le (show (Int.toNat (i64.wrap ((aa.length:Int) - 1)))≤aa.length by have:=am.2;omega)).symm) ?_;refine go ?_;exact ⟨af,by omega,rfl,⟨_,_,_,_,_,rfl,hm,ab,(ac.take (Int.toNat (i64.wrap ((aa.length:Int) - 1)))),rfl⟩⟩
   cases hm;exact ⟨rfl,_,_,_,rfl,ab.finL rfl (cm [(440,qc0)]),ab.foL ac⟩
  refine go ?_;refine Yc hm (fun an hm=>go ?_) fun an hm=>go ?_
  ·obtain ⟨aq,ao,hm⟩:=bZ hm;refine lI ao (ac.addr ao) ?_;refine go ?_;refine lW (ac.atInt ao)<|go ?_;refine lV (.bool (decide (aq=0))) (Xr (congrArg Value.bool an) rfl)<|Zl ?_;exact ⟨rfl,_,_,hm,ab,ac,rfl⟩
  refine lV (.bool false) (Xq (congrArg Value.bool an) rfl)<|Zl ?_;exact ⟨rfl,_,_,hm,ab,ac,rfl⟩
def Zij (aa:Int) (ab:List Int):Option Ra:=
  some (u32.wrap aa,ab)
def Zcc (j0:Nat) (n0:Nat) (ab:List Int) (ae:Int):List Int→Nat→R5→Int→Option Ra
  | [],aa,ac,ad=>Zt (0≤(ab.length:Int)∧(ab.length:Int)<(n0:Int)) ((Zm ac ((j0:Int)+(ab.length:Int))).bind fun ah=>Zt (0≤(ab.length:Int)∧(ab.length:Int)<(n0:Int)) ((Zm ac ((j0:Int)+(ab.length:Int))).bind fun al=>(some (ac.set (Int.toNat ((j0:Int)+(ab.length:Int))) (u32.wrap (ah+(u32.wrap ad))))).bind fun ai=>Zij (u64.wrap ((u64.wrap (ae - 1)) - 1)) ai))
  | af :: aj,aa,ac,ad=>Zt (0≤(aa:Int)∧(aa:Int)<(n0:Int)) ((Zm ac ((j0:Int)+(aa:Int))).bind fun ag=>Zt (0≤(aa:Int)∧(aa:Int)<(n0:Int)) ((Zm ac ((j0:Int)+(aa:Int))).bind fun am=>(some (ac.set (Int.toNat ((j0:Int)+(aa:Int))) (u32.wrap (u64.wrap (ad+(u64.wrap ((u64.wrap ag)+(u64.wrap af)))))))).bind fun ak=>(Zcc j0 n0 ab ae aj) (aa+1) ak (Yw .u64 (u64.wrap (ad+(u64.wrap ((u64.wrap ag)+(u64.wrap af))))) 32)))
termination_by structural x=>x
def Zlf (aa:Nat) (kk_L2:(Nat→R5→Int→Int→Option Ra)) (ab:List Int) (ac:Int) (ad:Int):Option Ra:=
  kk_L2 (aa+1) ab ac ad
def Zik (j0:Nat) (n0:Nat) (ac:Int) (ab:List Int) (af:Int) (aa:Nat) (ad:Int) (kk_L2:(Nat→R5→Int→Int→Option Ra)) (ae:Int) (ag:Int):Option Ra:=
  Zt (0≤(aa:Int)∧(aa:Int)<(n0:Int)) ((Zm ab ((j0:Int)+(aa:Int))).bind fun ah=>Zt (0≤(aa:Int)∧(aa:Int)<(n0:Int)) ((Zm ab ((j0:Int)+(aa:Int))).bind fun aj=>(some (ab.set (Int.toNat ((j0:Int)+(aa:Int))) (u32.wrap (ah - (u32.wrap (u64.wrap ((U8 .u64 (u64.wrap (ad+(u64.wrap ((u64.wrap (ac - 1)) * (u64.wrap ae))))) 4294967295)+af))))))).bind fun ai=>Zlf aa kk_L2 ai ag (Yw .u64 (u64.wrap (ad+(u64.wrap ((u64.wrap (ac - 1)) * (u64.wrap ae))))) 32)))
def S8 (j0:Nat) (n0:Nat) (aa:List Int) (ac:Int):List Int→Nat→R5→Int→Int→Option Ra
  | [],ad,ab,ae,af=>Zt (0≤(aa.length:Int)∧(aa.length:Int)<(n0:Int)) ((Zm ab ((j0:Int)+(aa.length:Int))).bind fun aj=>Zt (0≤(aa.length:Int)∧(aa.length:Int)<(n0:Int)) ((Zm ab ((j0:Int)+(aa.length:Int))).bind fun ak=>Zt (0≤(aa.length:Int)∧(aa.length:Int)<(n0:Int)) ((Zm ab ((j0:Int)+(aa.length:Int))).bind fun am=>(some (ab.set (Int.toNat ((j0:Int)+(aa.length:Int))) (u32.wrap (ak - (u32.wrap (u64.wrap (af+ae))))))).bind fun ah=>if (decide ((u64.wrap aj)<(u64.wrap (af+ae))))=true then (Zcc j0 n0 aa ac aa 0 ah 0) else (Zij (u64.wrap (ac - 1)) ah))))
  | ag :: ai,ad,ab,ae,af=>Zt (0≤(ad:Int)∧(ad:Int)<(n0:Int)) ((Zm ab ((j0:Int)+(ad:Int))).bind fun al=>if (decide ((u64.wrap al)<(u64.wrap ((U8 .u64 (u64.wrap (af+(u64.wrap ((u64.wrap (ac - 1)) * (u64.wrap ag))))) 4294967295)+ae))))=true then (Zik j0 n0 ac ab ae ad af (S8 j0 n0 aa ac ai) ag 1) else (Zik j0 n0 ac ab ae ad af (S8 j0 n0 aa ac ai) ag 0))
termination_by structural x=>x
def Zii (j0:Nat) (n0:Nat) (ae:List Int) (aa:List Int) (ab:Int) (ac:Int) (kk_L1:(Int→Int→Option Ra)):Option Ra:=
  (Zm aa (i64.wrap ((aa.length:Int) - 1))).bind fun ad=>if (decide (4294967295<(u64.wrap (ac+(u64.wrap ad)))))=true then (S8 j0 n0 aa ab aa 0 ae 0 0) else (kk_L1 (u64.wrap (ab - 1)) (u64.wrap (ac+(u64.wrap ad))))
def Za0 (aa:Int) (ab:List Int):Option Ra:=
  some (u32.wrap aa,ab)
def Tp (j0:Nat) (n0:Nat) (ab:List Int) (ae:Int):List Int→Nat→R5→Int→Option Ra
  | [],aa,ac,ad=>Zt (0≤(ab.length:Int)∧(ab.length:Int)<(n0:Int)) ((Zm ac ((j0:Int)+(ab.length:Int))).bind fun ah=>Zt (0≤(ab.length:Int)∧(ab.length:Int)<(n0:Int)) ((Zm ac ((j0:Int)+(ab.length:Int))).bind fun al=>(some (ac.set (Int.toNat ((j0:Int)+(ab.length:Int))) (u32.wrap (ah+(u32.wrap ad))))).bind fun ai=>Za0 (u64.wrap (ae - 1)) ai))
  | af :: aj,aa,ac,ad=>Zt (0≤(aa:Int)∧(aa:Int)<(n0:Int)) ((Zm ac ((j0:Int)+(aa:Int))).bind fun ag=>Zt (0≤(aa:Int)∧(aa:Int)<(n0:Int)) ((Zm ac ((j0:Int)+(aa:Int))).bind fun am=>(some (ac.set (Int.toNat ((j0:Int)+(aa:Int))) (u32.wrap (u64.wrap (ad+(u64.wrap ((u64.wrap ag)+(u64.wrap af)))))))).bind fun ak=>(Tp j0 n0 ab ae aj) (aa+1) ak (Yw .u64 (u64.wrap (ad+(u64.wrap ((u64.wrap ag)+(u64.wrap af))))) 32)))
termination_by structural x=>x
def Zil (aa:Nat) (kk_L4:(Nat→R5→Int→Int→Option Ra)) (ab:List Int) (ac:Int) (ad:Int):Option Ra:=
  kk_L4 (aa+1) ab ac ad
def Zdx (j0:Nat) (n0:Nat) (ac:Int) (ab:List Int) (af:Int) (aa:Nat) (ad:Int) (kk_L4:(Nat→R5→Int→Int→Option Ra)) (ae:Int) (ag:Int):Option Ra:=
  Zt (0≤(aa:Int)∧(aa:Int)<(n0:Int)) ((Zm ab ((j0:Int)+(aa:Int))).bind fun ah=>Zt (0≤(aa:Int)∧(aa:Int)<(n0:Int)) ((Zm ab ((j0:Int)+(aa:Int))).bind fun aj=>(some (ab.set (Int.toNat ((j0:Int)+(aa:Int))) (u32.wrap (ah - (u32.wrap (u64.wrap ((U8 .u64 (u64.wrap (ad+(u64.wrap (ac * (u64.wrap ae))))) 4294967295)+af))))))).bind fun ai=>Zil aa kk_L4 ai ag (Yw .u64 (u64.wrap (ad+(u64.wrap (ac * (u64.wrap ae))))) 32)))
def V1 (j0:Nat) (n0:Nat) (aa:List Int) (ac:Int):List Int→Nat→R5→Int→Int→Option Ra
  | [],ad,ab,ae,af=>Zt (0≤(aa.length:Int)∧(aa.length:Int)<(n0:Int)) ((Zm ab ((j0:Int)+(aa.length:Int))).bind fun aj=>Zt (0≤(aa.length:Int)∧(aa.length:Int)<(n0:Int)) ((Zm ab ((j0:Int)+(aa.length:Int))).bind fun ak=>Zt (0≤(aa.length:Int)∧(aa.length:Int)<(n0:Int)) ((Zm ab ((j0:Int)+(aa.length:Int))).bind fun am=>(some (ab.set (Int.toNat ((j0:Int)+(aa.length:Int))) (u32.wrap (ak - (u32.wrap (u64.wrap (af+ae))))))).bind fun ah=>if (decide ((u64.wrap aj)<(u64.wrap (af+ae))))=true then (Tp j0 n0 aa ac aa 0 ah 0) else (Za0 ac ah))))
  | ag :: ai,ad,ab,ae,af=>Zt (0≤(ad:Int)∧(ad:Int)<(n0:Int)) ((Zm ab ((j0:Int)+(ad:Int))).bind fun al=>if (decide ((u64.wrap al)<(u64.wrap ((U8 .u64 (u64.wrap (af+(u64.wrap (ac * (u64.wrap ag))))) 4294967295)+ae))))=true then (Zdx j0 n0 ac ab ae ad af (V1 j0 n0 aa ac ai) ag 1) else (Zdx j0 n0 ac ab ae ad af (V1 j0 n0 aa ac ai) ag 0))
termination_by structural x=>x
def Zdw (j0:Nat) (n0:Nat) (ab:List Int) (aa:List Int) (ac:Int) (ad:Int) (kk_L1:(Int→Int→Option Ra)) (ae:Bool):Option Ra:=
  if ae=true then (Zii j0 n0 ab aa ac ad kk_L1) else (V1 j0 n0 aa ac aa 0 ab 0 0)
def Se (N:Nat) (j0:Nat) (n0:Nat) (ab:List Int) (aa:List Int):Nat→Int→Int→Option Ra
  | 0,_,_=>none
  | ae+1,ac,ad=>if (decide (4294967295<ac))=true then (Zdw j0 n0 ab aa ac ad (Se N j0 n0 ab aa ae) true) else (if (decide (ad≤4294967295))=true then ((Zm aa (i64.wrap ((aa.length:Int) - 2))).bind fun af=>Zt (0≤(i64.wrap ((aa.length:Int) - 2))∧(i64.wrap ((aa.length:Int) - 2))<(n0:Int)) ((Zm ab ((j0:Int)+(i64.wrap ((aa.length:Int) - 2)))).bind fun ag=>Zdw j0 n0 ab aa ac ad (Se N j0 n0 ab aa ae) (decide ((Y3 .u64 (X8 .u64 ad 32) (u64.wrap ag))<(u64.wrap (ac * (u64.wrap af))))))) else (Zdw j0 n0 ab aa ac ad (Se N j0 n0 ab aa ae) false))
termination_by structural x=>x
def Zf5 (N:Nat) (j0:Nat) (n0:Nat) (ac:List Int) (aa:List Int):Option Ra:=
  Zt (0≤(aa.length:Int)∧(aa.length:Int)<(n0:Int)) ((Zm ac ((j0:Int)+(aa.length:Int))).bind fun ad=>Zt (0≤(i64.wrap ((aa.length:Int) - 1))∧(i64.wrap ((aa.length:Int) - 1))<(n0:Int)) ((Zm ac ((j0:Int)+(i64.wrap ((aa.length:Int) - 1)))).bind fun ae=>(Zm aa (i64.wrap ((aa.length:Int) - 1))).bind fun ab=>Zt ((u64.wrap ab)≠0) (Zt ((u64.wrap ab)≠0) (Se N j0 n0 ac aa N (u64.wrap (Int.tdiv (Y3 .u64 (X8 .u64 (u64.wrap ad) 32) (u64.wrap ae)) (u64.wrap ab))) (Int.tmod (Y3 .u64 (X8 .u64 (u64.wrap ad) 32) (u64.wrap ae)) (u64.wrap ab))))))
theorem Z02 {N ae j0 n0 cp0 de:Nat} {a0 a1:Option Addr} {col:Ze} {w0:World} {ac ab:R5} {r:Ra} (qc0:Nat) (hm:Zf5 N j0 n0 ac ab=some r) (hd:V9 [qc0]=true) (h0:Zb (Za.int .u32) 95 qc0 col w0 a0 ae ac) (h1:Sl (Za.int .u32) col w0 a1 de ab):
    Calls prog 192 #[.slice (a0.map (·.add (j0 * 1))) n0 cp0,.slice a1 ab.length de] w0 (fun e w'=>∃ (col':Ze),e= .returned ((.int .u32 r.1))∧Zq (pS [qc0]) col w0 col' w'∧Zb (Za.int .u32) 95 qc0 col' w' a0 ae r.2∧r.2.length=ac.length):=by
 refine Xf 4 (m:=178) func192 rfl rfl rfl rfl rfl ?_;rw [Zf5.eq_1] at hm;have aa:=St.startL (l:=[qc0]) rfl col w0;replace h0:=h0.startL (U6 hd 0 rfl) (U5 hd 0 rfl);refine go ?_;refine Vj (col:=(Xc [qc0] col)) (by kernel_rfl) (by kernel_rfl)<|go ?_;obtain ⟨df,hm⟩:=Z3 hm;obtain ⟨a7,dg,hm⟩:=bZ hm;refine qv (v:=(X6 a0 (Int.toNat ((j0:Int)+(ab.length:Int)) * 1))) rfl (fun _ hC=>W3 underlying35 sizeOf95 rfl rfl df.1 df.2 (h0.addr dg)) ?_;refine qW (fun _ hC=>(h0.gr (hC.bl (Xc [qc0] col))).atInt dg) ?_;refine go ?_;refine qv (v:=(.int .u64 (X8 .u64 (u64.wrap a7) 32))) rfl (fun _ hC=>Zgz (u64.wrap a7) 32 rfl rfl (by decide)) ?_;refine go ?_;obtain ⟨dh,hm⟩:=Z3 hm;obtain ⟨bf,di,hm⟩:=bZ hm;refine qv (v:=(X6 a0 (Int.toNat ((j0:Int)+(i64.wrap ((ab.length:Int) - 1))) * 1))) rfl (fun _ hC=>W3 underlying35 sizeOf95 rfl rfl dh.1 dh.2 (h0.addr di)) ?_;refine qW (fun _ hC=>(h0.gr (hC.bl (Xc [qc0] col))).atInt di) ?_;refine go ?_;refine Ws ?_;intro gp hC;replace h1:=h1.keep (Zi.startL [qc0] col w0);replace hC:=hC.bl (Xc [qc0] col);refine go ?_;obtain ⟨bg,a8,hm⟩:=bZ hm;replace aa:=aa.grow hC;refine lI a8 ((h1.ks aa).addr a8)<|lW ((h1.ks aa).atInt a8) ?_;refine go ?_;obtain ⟨fd,hm⟩:=Z3 hm;refine lV (.int .u64 (u64.wrap (Int.tdiv (Y3 .u64 (X8 .u64 (u64.wrap a7) 32) (u64.wrap bf)) (u64.wrap bg)))) (Sp (Y3 .u64 (X8 .u64 (u64.wrap a7) 32) (u64.wrap bf)) (u64.wrap bg) rfl rfl fd)<|go ?_;refine lI a8 ((h1.ks aa).addr a8)<|lW ((h1.ks aa).atInt a8) ?_;refine go ?_;obtain ⟨fe,hm⟩:=Z3 hm;refine lV (.int .u64 (Int.tmod (Y3 .u64 (X8 .u64 (u64.wrap a7) 32) (u64.wrap bf)) (u64.wrap bg))) (Zcn (Y3 .u64 (X8 .u64 (u64.wrap a7) 32) (u64.wrap bf)) (u64.wrap bg) rfl rfl fe)<|go ?_;replace h0:=h0.gr hC;refine Zu [0,1,5,1000000] (fun n f bx=>∃ ao ad ap a2,a2=n∧Se N j0 n0 ac ab a2 ad ap=some r∧St w0 (Xc [qc0] col) ao bx∧Zb (Za.int .u32) 95 440 ao bx a0 ae ac∧[7,8].map f=[.int .u64 ad,.int .u64 ap]) N ⟨_,_,_,_,rfl,hm,aa,h0,rfl⟩ ?_;clear hm;intro n f bx hI;obtain ⟨ao,ad,ap,a2,hn,hm,aa,h0,hs⟩:=hI;subst hn;refine .lL [7,8] hs ?_
 cases a2 with
 | zero=>rw [Se.eq_1] at hm;cases hm
 | succ a2=>
  rw [Se.eq_2] at hm;refine Zs ?_;refine Wp.cutK [0,1,5,7,8,1000000] (fun f bz=>∃ b0,Zii j0 n0 ac ab ad ap (Se N j0 n0 ac ab a2)=some r∧St w0 (Xc [qc0] col) b0 bz∧Zb (Za.int .u32) 95 440 b0 bz a0 ae ac) ?_ ?_
  ·intro f bz hJ;obtain ⟨b0,hm,aa,h0⟩:=hJ;rw [Zii.eq_1] at hm;refine go ?_;obtain ⟨gs,b1,hm⟩:=bZ hm;refine lI b1 ((h1.ks aa).addr b1)<|lW ((h1.ks aa).atInt b1) ?_;refine go ?_;refine Zo hm (fun hb hm=>?_) fun hb hm=>?_
   ·refine Znh (Zol rfl (Zk0 ?_));refine go ?_;refine Zu [0,1,5,7,87,88,1000000] (fun n f b2=>∃ b3 am a3 ai aj a9,n=a9.length∧ab.drop ai=a9∧S8 j0 n0 ab ad a9 ai am a3 aj=some r∧St w0 (Xc [qc0] col) b3 b2∧Zb (Za.int .u32) 95 440 b3 b2 a0 ae am∧am.length=ac.length∧am.length=ac.length∧[89,10,9].map f=[.int .i64 ai,.int .u64 a3,.int .u64 aj]) ab.length ⟨_,_,0,0,0,_,rfl,rfl,hm,aa,h0,rfl,rfl,rfl⟩ ?_;clear hm;intro n f b2 hI;obtain ⟨b3,am,a3,ai,aj,a9,hn,hl,hm,aa,af,dj,gt,hs⟩:=hI;subst hn;refine .lL [89,10,9] hs ?_
    cases a9 with
    | nil=>
     have hk:¬ ((ai:Int)<(ab.length:Int)):=by have:=List.drop_eq_nil_iff.1 hl;omega
     have hkb:=decide_eq_false hk;rw [S8.eq_1] at hm;refine go ?_;refine Xs (congrArg Value.bool hkb)<|go ?_;obtain ⟨dl,hm⟩:=Z3 hm;obtain ⟨gu,dm,hm⟩:=bZ hm;refine lV (X6 a0 (Int.toNat ((j0:Int)+(ab.length:Int)) * 1)) (W3 underlying35 sizeOf95 rfl rfl dl.1 dl.2 (af.addr dm))<|lW (af.atInt dm)<|go ?_;obtain ⟨dn,hm⟩:=Z3 hm;obtain ⟨dp,dq,hm⟩:=bZ hm;refine lV (X6 a0 (Int.toNat ((j0:Int)+(ab.length:Int)) * 1)) (W3 underlying35 sizeOf95 rfl rfl dn.1 dn.2 (af.addr dq))<|lW (af.atInt dq)<|go ?_;obtain ⟨dr,hm⟩:=Z3 hm;obtain ⟨gv,ds,hm⟩:=bZ hm;refine lV (X6 a0 (Int.toNat ((j0:Int)+(ab.length:Int)) * 1)) (W3 underlying35 sizeOf95 rfl rfl dr.1 dr.2 (af.addr ds)) ?_;obtain ⟨b4,bh,hm⟩:=bZ hm;have bh:b4=am.set (Int.toNat ((j0:Int)+(ab.length:Int))) (u32.wrap (dp - (u32.wrap (u64.wrap (aj+a3))))):=(Option.some.inj bh).symm;refine Y6 (x1:=u32.wrap (dp - (u32.wrap (u64.wrap (aj+a3))))) af ds ?_;intro gw ff fg b5;rw [← bh] at b5;have b6:b4.length=ac.length:=(show am.length=b4.length by rw [bh,nS]).symm.trans dj;refine Zl<|Zs ?_;replace aa:=aa.kp ff fg;refine Wp.cutK [1000000] (fun f b7=>∃ b8 b9 bi,Zij b9 bi=some r∧St w0 (Xc [qc0] col) b8 b7∧Zb (Za.int .u32) 95 440 b8 b7 a0 ae bi∧bi.length=ac.length∧[7].map f=[.int .u64 b9]) ?_ ?_
     ·intro f b7 hJ;obtain ⟨b8,b9,bi,hm,aa,fh,fi,hs⟩:=hJ;rw [Zij.eq_1] at hm;refine .lL [7] hs<|go ?_;cases hm;exact ⟨rfl,_,rfl,aa.finL rfl (cm [(440,qc0)]),aa.foL fh,fi⟩
     refine go ?_;refine Zo hm (fun hb hm=>go ?_) fun hb hm=>?_
     ·refine Zu [0,143,144,5,7,1000000] (fun n f ca=>∃ cb aq ar au ba,n=ba.length∧ab.drop ar=ba∧Zcc j0 n0 ab ad ba ar aq au=some r∧St w0 (Xc [qc0] col) cb ca∧Zb (Za.int .u32) 95 440 cb ca a0 ae aq∧aq.length=ac.length∧aq.length=ac.length∧[145,9].map f=[.int .i64 ar,.int .u64 au]) ab.length ⟨_,_,0,0,_,rfl,rfl,hm,aa,b5,b6,b6,rfl⟩ ?_;clear hm;intro n f ca hI;obtain ⟨cb,aq,ar,au,ba,hn,hl,hm,aa,a4,fj,fk,hs⟩:=hI;subst hn;refine .lL [145,9] hs ?_
      cases ba with
      | nil=>
       have hk:¬ ((ar:Int)<(ab.length:Int)):=by have:=List.drop_eq_nil_iff.1 hl;omega
       have hkb:=decide_eq_false hk;rw [Zcc.eq_1] at hm;refine go ?_;refine Xs (congrArg Value.bool hkb)<|go ?_;obtain ⟨dt,hm⟩:=Z3 hm;obtain ⟨du,dv,hm⟩:=bZ hm;refine lV (X6 a0 (Int.toNat ((j0:Int)+(ab.length:Int)) * 1)) (W3 underlying35 sizeOf95 rfl rfl dt.1 dt.2 (a4.addr dv))<|lW (a4.atInt dv)<|go ?_;obtain ⟨dw,hm⟩:=Z3 hm;obtain ⟨gx,dx,hm⟩:=bZ hm;refine lV (X6 a0 (Int.toNat ((j0:Int)+(ab.length:Int)) * 1)) (W3 underlying35 sizeOf95 rfl rfl dw.1 dw.2 (a4.addr dx)) ?_;obtain ⟨cc,bj,hm⟩:=bZ hm;have bj:cc=aq.set (Int.toNat ((j0:Int)+(ab.length:Int))) (u32.wrap (du+(u32.wrap au))):=(Option.some.inj bj).symm;refine Y6 (x1:=u32.wrap (du+(u32.wrap au))) a4 dx ?_;intro gy fl fm dy;rw [← bj] at dy;have fn:cc.length=ac.length:=(show aq.length=cc.length by rw [bj,nS]).symm.trans fk;refine Zl ?_;replace aa:=aa.kp fl fm;exact ⟨rfl,_,_,_,hm,aa,dy,fn,rfl⟩
      | cons bk fp=>
       obtain ⟨ag,fq,fr⟩:=X3 hl;have hk:(ar:Int)<(ab.length:Int):=by omega
       have hkb:=decide_eq_true hk;rw [Zcc.eq_2] at hm;refine go ?_;refine Xt (congrArg Value.bool hkb)<|go ?_;refine lI ag ((h1.ks aa).addr ag)<|lW ((h1.ks aa).atInt ag) ?_;refine go ?_;obtain ⟨dz,hm⟩:=Z3 hm;obtain ⟨bm,d0,hm⟩:=bZ hm;refine lV (X6 a0 (Int.toNat ((j0:Int)+(ar:Int)) * 1)) (W3 underlying35 sizeOf95 rfl rfl dz.1 dz.2 (a4.addr d0))<|lW (a4.atInt d0)<|go ?_;obtain ⟨d1,hm⟩:=Z3 hm;obtain ⟨gz,d2,hm⟩:=bZ hm;refine lV (X6 a0 (Int.toNat ((j0:Int)+(ar:Int)) * 1)) (W3 underlying35 sizeOf95 rfl rfl d1.1 d1.2 (a4.addr d2)) ?_;obtain ⟨cd,bn,hm⟩:=bZ hm;have bn:cd=aq.set (Int.toNat ((j0:Int)+(ar:Int))) (u32.wrap (u64.wrap (au+(u64.wrap ((u64.wrap bm)+(u64.wrap bk)))))):=(Option.some.inj bn).symm;refine Y6 (x1:=u32.wrap (u64.wrap (au+(u64.wrap ((u64.wrap bm)+(u64.wrap bk)))))) a4 d2 ?_;intro g0 ft fu d3;rw [← bn] at d3;have d4:cd.length=ac.length:=(show aq.length=cd.length by rw [bn,nS]).symm.trans fj;refine go ?_;refine lV (.int .u64 (Yw .u64 (u64.wrap (au+(u64.wrap ((u64.wrap bm)+(u64.wrap bk))))) 32)) (Qi (u64.wrap (au+(u64.wrap ((u64.wrap bm)+(u64.wrap bk))))) 32 rfl rfl (by decide))<|go ?_;replace aa:=aa.kp ft fu;exact ⟨fp.length,by simp,rfl,⟨_,_,_,_,_,rfl,fq,hm,aa,d3,d4,d4,(X5 (congrArg (Value.int .i64) (X2 (Nat.lt_of_lt_of_le fr (h1.ks aa).1.1))) rfl)⟩⟩
     refine X0 ?_;exact ⟨rfl,_,_,_,hm,aa,b5,b6,rfl⟩
    | cons av ce=>
     obtain ⟨ag,fv,fw⟩:=X3 hl;have hk:(ai:Int)<(ab.length:Int):=by omega
     have hkb:=decide_eq_true hk;rw [S8.eq_2] at hm;refine go ?_;refine Xt (congrArg Value.bool hkb)<|X0<|Zs ?_;refine Wp.cutK [0,1,5,7,87,88,89,1000000] (fun f cf=>∃ cg bb ch ci,Zlf ai (S8 j0 n0 ab ad ce) bb ch ci=some r∧St w0 (Xc [qc0] col) cg cf∧Zb (Za.int .u32) 95 440 cg cf a0 ae bb∧bb.length=ac.length∧bb.length=ac.length∧[10,9].map f=[.int .u64 ch,.int .u64 ci]) ?_ ?_
     ·intro f cf hJ;obtain ⟨cg,bb,ch,ci,hm,aa,fx,fy,fz,hs⟩:=hJ;rw [Zlf.eq_1] at hm;refine .lL [10,9] hs<|go ?_;exact ⟨ce.length,by simp,rfl,⟨_,_,_,_,_,_,rfl,fv,hm,aa,fx,fy,fz,(X5 (congrArg (Value.int .i64) (X2 (Nat.lt_of_lt_of_le fw (h1.ks aa).1.1))) rfl)⟩⟩
     refine go ?_;refine lI ag ((h1.ks aa).addr ag)<|lW ((h1.ks aa).atInt ag)<|Yv rfl<|Yv rfl<|Zl<|Zs<|Wl<|Xp rfl<|Xp rfl<|Xp rfl<|lV (.int .u64 (u64.wrap av)) (Zjs av ⟨_,underlying95⟩ underlying149 rfl)<|lV _ (Zgx _ _ rfl rfl)<|lV _ (Sn _ _ rfl rfl)<|Yv rfl<|Zl<|Zs<|Wl<|Xp rfl<|lV (.int .u64 (U8 .u64 (u64.wrap (aj+(u64.wrap ((u64.wrap (ad - 1)) * (u64.wrap av))))) 4294967295)) (Zm1 (u64.wrap (aj+(u64.wrap ((u64.wrap (ad - 1)) * (u64.wrap av))))) 4294967295 rfl rfl)<|Xp rfl<|lV _ (Sn _ _ rfl rfl)<|Yv rfl<|Zl<|Zs<|Wl<|Yv rfl<|Zl<|Zs ?_;refine Wp.cutK [0,1,11,13,5,7,87,88,89,9,1000000] (fun f cj=>∃ ck cl,Zik j0 n0 ad am a3 ai aj (S8 j0 n0 ab ad ce) av cl=some r∧St w0 (Xc [qc0] col) ck cj∧Zb (Za.int .u32) 95 440 ck cj a0 ae am∧[10].map f=[.int .u64 cl]) ?_ ?_
     ·intro f cj hJ;obtain ⟨ck,cl,hm,aa,af,hs⟩:=hJ;rw [Zik.eq_1] at hm;refine .lL [10] hs<|go ?_;obtain ⟨d5,hm⟩:=Z3 hm;obtain ⟨d6,d7,hm⟩:=bZ hm;refine lV (X6 a0 (Int.toNat ((j0:Int)+(ai:Int)) * 1)) (W3 underlying35 sizeOf95 rfl rfl d5.1 d5.2 (af.addr d7))<|lW (af.atInt d7)<|go ?_;obtain ⟨d8,hm⟩:=Z3 hm;obtain ⟨g1,d9,hm⟩:=bZ hm;refine lV (X6 a0 (Int.toNat ((j0:Int)+(ai:Int)) * 1)) (W3 underlying35 sizeOf95 rfl rfl d8.1 d8.2 (af.addr d9)) ?_;obtain ⟨cn,bo,hm⟩:=bZ hm;have bo:cn=am.set (Int.toNat ((j0:Int)+(ai:Int))) (u32.wrap (d6 - (u32.wrap (u64.wrap ((U8 .u64 (u64.wrap (aj+(u64.wrap ((u64.wrap (ad - 1)) * (u64.wrap av))))) 4294967295)+a3))))):=(Option.some.inj bo).symm;refine Y6 (x1:=u32.wrap (d6 - (u32.wrap (u64.wrap ((U8 .u64 (u64.wrap (aj+(u64.wrap ((u64.wrap (ad - 1)) * (u64.wrap av))))) 4294967295)+a3))))) af d9 ?_;intro g2 f0 f1 ea;rw [← bo] at ea;have eb:cn.length=ac.length:=(show am.length=cn.length by rw [bo,nS]).symm.trans dj;refine go ?_;refine lV (.int .u64 (Yw .u64 (u64.wrap (aj+(u64.wrap ((u64.wrap (ad - 1)) * (u64.wrap av))))) 32)) (Qi (u64.wrap (aj+(u64.wrap ((u64.wrap (ad - 1)) * (u64.wrap av))))) 32 rfl rfl (by decide))<|go ?_;replace aa:=aa.kp f0 f1;exact ⟨rfl,_,_,_,_,hm,aa,ea,eb,eb,rfl⟩
     refine go ?_;obtain ⟨ec,hm⟩:=Z3 hm;obtain ⟨g3,ed,hm⟩:=bZ hm;refine lV (X6 a0 (Int.toNat ((j0:Int)+(ai:Int)) * 1)) (W3 underlying35 sizeOf95 rfl rfl ec.1 ec.2 (af.addr ed))<|lW (af.atInt ed)<|go ?_;refine Zo hm (fun hb hm=>go ?_) fun hb hm=>?_
     ·exact ⟨rfl,_,1,hm,aa,af,rfl⟩
     refine X0 ?_;exact ⟨rfl,_,0,hm,aa,af,rfl⟩
   refine X0 ?_;exact ⟨a2,by omega,rfl,⟨_,_,_,_,rfl,hm,aa,h0,rfl⟩⟩
  refine Zs ?_;refine Wp.cutK [0,1,5,7,8,1000000] (fun f co=>∃ cp cq,Zdw j0 n0 ac ab ad ap (Se N j0 n0 ac ab a2) cq=some r∧St w0 (Xc [qc0] col) cp co∧Zb (Za.int .u32) 95 440 cp co a0 ae ac∧[74].map f=[.bool cq]) ?_ ?_
  ·intro f co hJ;obtain ⟨cp,cq,hm,aa,h0,hs⟩:=hJ;rw [Zdw.eq_1] at hm;refine .lL [74] hs ?_;refine Zo hm (fun hb hm=>?_) fun hb hm=>go ?_
   ·refine X0 ?_;exact ⟨rfl,_,hm,aa,h0⟩
   refine Zu [0,1,5,7,87,88,1000000] (fun n f cr=>∃ cs an a5 ak al bc,n=bc.length∧ab.drop ak=bc∧V1 j0 n0 ab ad bc ak an a5 al=some r∧St w0 (Xc [qc0] col) cs cr∧Zb (Za.int .u32) 95 440 cs cr a0 ae an∧an.length=ac.length∧an.length=ac.length∧[89,10,9].map f=[.int .i64 ak,.int .u64 a5,.int .u64 al]) ab.length ⟨_,_,0,0,0,_,rfl,rfl,hm,aa,h0,rfl,rfl,rfl⟩ ?_;clear hm;intro n f cr hI;obtain ⟨cs,an,a5,ak,al,bc,hn,hl,hm,aa,ah,ee,g4,hs⟩:=hI;subst hn;refine .lL [89,10,9] hs ?_
   cases bc with
   | nil=>
    have hk:¬ ((ak:Int)<(ab.length:Int)):=by have:=List.drop_eq_nil_iff.1 hl;omega
    have hkb:=decide_eq_false hk;rw [V1.eq_1] at hm;refine go ?_;refine Xs (congrArg Value.bool hkb)<|go ?_;obtain ⟨ef,hm⟩:=Z3 hm;obtain ⟨g5,eg,hm⟩:=bZ hm;refine lV (X6 a0 (Int.toNat ((j0:Int)+(ab.length:Int)) * 1)) (W3 underlying35 sizeOf95 rfl rfl ef.1 ef.2 (ah.addr eg))<|lW (ah.atInt eg)<|go ?_;obtain ⟨eh,hm⟩:=Z3 hm;obtain ⟨ei,ej,hm⟩:=bZ hm;refine lV (X6 a0 (Int.toNat ((j0:Int)+(ab.length:Int)) * 1)) (W3 underlying35 sizeOf95 rfl rfl eh.1 eh.2 (ah.addr ej))<|lW (ah.atInt ej)<|go ?_;obtain ⟨ek,hm⟩:=Z3 hm;obtain ⟨g6,el,hm⟩:=bZ hm;refine lV (X6 a0 (Int.toNat ((j0:Int)+(ab.length:Int)) * 1)) (W3 underlying35 sizeOf95 rfl rfl ek.1 ek.2 (ah.addr el)) ?_;obtain ⟨ct,bp,hm⟩:=bZ hm;have bp:ct=an.set (Int.toNat ((j0:Int)+(ab.length:Int))) (u32.wrap (ei - (u32.wrap (u64.wrap (al+a5))))):=(Option.some.inj bp).symm;refine Y6 (x1:=u32.wrap (ei - (u32.wrap (u64.wrap (al+a5))))) ah el ?_;intro g7 f2 f3 cu;rw [← bp] at cu;have cv:ct.length=ac.length:=(show an.length=ct.length by rw [bp,nS]).symm.trans ee;refine Zl<|Zs ?_;replace aa:=aa.kp f2 f3;refine Wp.cutK [1000000] (fun f cw=>∃ cx cy bq,Za0 cy bq=some r∧St w0 (Xc [qc0] col) cx cw∧Zb (Za.int .u32) 95 440 cx cw a0 ae bq∧bq.length=ac.length∧[7].map f=[.int .u64 cy]) ?_ ?_
    ·intro f cw hJ;obtain ⟨cx,cy,bq,hm,aa,f4,f5,hs⟩:=hJ;rw [Za0.eq_1] at hm;refine .lL [7] hs<|go ?_;cases hm;exact ⟨rfl,_,rfl,aa.finL rfl (cm [(440,qc0)]),aa.foL f4,f5⟩
    refine go ?_;refine Zo hm (fun hb hm=>go ?_) fun hb hm=>?_
    ·refine Zu [0,143,144,5,7,1000000] (fun n f cz=>∃ c0 aw ax ay bd,n=bd.length∧ab.drop ax=bd∧Tp j0 n0 ab ad bd ax aw ay=some r∧St w0 (Xc [qc0] col) c0 cz∧Zb (Za.int .u32) 95 440 c0 cz a0 ae aw∧aw.length=ac.length∧aw.length=ac.length∧[145,9].map f=[.int .i64 ax,.int .u64 ay]) ab.length ⟨_,_,0,0,_,rfl,rfl,hm,aa,cu,cv,cv,rfl⟩ ?_;clear hm;intro n f cz hI;obtain ⟨c0,aw,ax,ay,bd,hn,hl,hm,aa,a6,f6,f7,hs⟩:=hI;subst hn;refine .lL [145,9] hs ?_
     cases bd with
     | nil=>
      have hk:¬ ((ax:Int)<(ab.length:Int)):=by have:=List.drop_eq_nil_iff.1 hl;omega
      have hkb:=decide_eq_false hk;rw [Tp.eq_1] at hm;refine go ?_;refine Xs (congrArg Value.bool hkb)<|go ?_;obtain ⟨em,hm⟩:=Z3 hm;obtain ⟨en,eo,hm⟩:=bZ hm;refine lV (X6 a0 (Int.toNat ((j0:Int)+(ab.length:Int)) * 1)) (W3 underlying35 sizeOf95 rfl rfl em.1 em.2 (a6.addr eo))<|lW (a6.atInt eo)<|go ?_;obtain ⟨ep,hm⟩:=Z3 hm;obtain ⟨g8,eq,hm⟩:=bZ hm;refine lV (X6 a0 (Int.toNat ((j0:Int)+(ab.length:Int)) * 1)) (W3 underlying35 sizeOf95 rfl rfl ep.1 ep.2 (a6.addr eq)) ?_;obtain ⟨c1,br,hm⟩:=bZ hm;have br:c1=aw.set (Int.toNat ((j0:Int)+(ab.length:Int))) (u32.wrap (en+(u32.wrap ay))):=(Option.some.inj br).symm;refine Y6 (x1:=u32.wrap (en+(u32.wrap ay))) a6 eq ?_;intro g9 f8 f9 er;rw [← br] at er;have ga:c1.length=ac.length:=(show aw.length=c1.length by rw [br,nS]).symm.trans f7;refine Zl ?_;replace aa:=aa.kp f8 f9;exact ⟨rfl,_,_,_,hm,aa,er,ga,rfl⟩
     | cons bs gb=>
      obtain ⟨ag,gc,gd⟩:=X3 hl;have hk:(ax:Int)<(ab.length:Int):=by omega
      have hkb:=decide_eq_true hk;rw [Tp.eq_2] at hm;refine go ?_;refine Xt (congrArg Value.bool hkb)<|go ?_;refine lI ag ((h1.ks aa).addr ag)<|lW ((h1.ks aa).atInt ag) ?_;refine go ?_;obtain ⟨es,hm⟩:=Z3 hm;obtain ⟨bt,et,hm⟩:=bZ hm;refine lV (X6 a0 (Int.toNat ((j0:Int)+(ax:Int)) * 1)) (W3 underlying35 sizeOf95 rfl rfl es.1 es.2 (a6.addr et))<|lW (a6.atInt et)<|go ?_;obtain ⟨eu,hm⟩:=Z3 hm;obtain ⟨ha,ew,hm⟩:=bZ hm;refine lV (X6 a0 (Int.toNat ((j0:Int)+(ax:Int)) * 1)) (W3 underlying35 sizeOf95 rfl rfl eu.1 eu.2 (a6.addr ew)) ?_;obtain ⟨c2,bu,hm⟩:=bZ hm;have bu:c2=aw.set (Int.toNat ((j0:Int)+(ax:Int))) (u32.wrap (u64.wrap (ay+(u64.wrap ((u64.wrap bt)+(u64.wrap bs)))))):=(Option.some.inj bu).symm;refine Y6 (x1:=u32.wrap (u64.wrap (ay+(u64.wrap ((u64.wrap bt)+(u64.wrap bs)))))) a6 ew ?_;intro hc ge gf ey;rw [← bu] at ey;have ez:c2.length=ac.length:=(show aw.length=c2.length by rw [bu,nS]).symm.trans f6;refine go ?_;refine lV (.int .u64 (Yw .u64 (u64.wrap (ay+(u64.wrap ((u64.wrap bt)+(u64.wrap bs))))) 32)) (Qi (u64.wrap (ay+(u64.wrap ((u64.wrap bt)+(u64.wrap bs))))) 32 rfl rfl (by decide))<|go ?_;replace aa:=aa.kp ge gf;exact ⟨gb.length,by simp,rfl,⟨_,_,_,_,_,rfl,gc,hm,aa,ey,ez,ez,(X5 (congrArg (Value.int .i64) (X2 (Nat.lt_of_lt_of_le gd (h1.ks aa).1.1))) rfl)⟩⟩
    refine X0 ?_;exact ⟨rfl,_,_,_,hm,aa,cu,cv,rfl⟩
   | cons az c3=>
    obtain ⟨ag,gg,gh⟩:=X3 hl;have hk:(ak:Int)<(ab.length:Int):=by omega
    have hkb:=decide_eq_true hk;rw [V1.eq_2] at hm;refine go ?_;refine Xt (congrArg Value.bool hkb)<|X0<|Zs ?_;refine Wp.cutK [0,1,5,7,87,88,89,1000000] (fun f c4=>∃ c5 be c6 c7,Zil ak (V1 j0 n0 ab ad c3) be c6 c7=some r∧St w0 (Xc [qc0] col) c5 c4∧Zb (Za.int .u32) 95 440 c5 c4 a0 ae be∧be.length=ac.length∧be.length=ac.length∧[10,9].map f=[.int .u64 c6,.int .u64 c7]) ?_ ?_
    ·intro f c4 hJ;obtain ⟨c5,be,c6,c7,hm,aa,gi,gj,gk,hs⟩:=hJ;rw [Zil.eq_1] at hm;refine .lL [10,9] hs<|go ?_;exact ⟨c3.length,by simp,rfl,⟨_,_,_,_,_,_,rfl,gg,hm,aa,gi,gj,gk,(X5 (congrArg (Value.int .i64) (X2 (Nat.lt_of_lt_of_le gh (h1.ks aa).1.1))) rfl)⟩⟩
    refine go ?_;refine lI ag ((h1.ks aa).addr ag)<|lW ((h1.ks aa).atInt ag)<|Yv rfl<|Yv rfl<|Zl<|Zs<|Wl<|Xp rfl<|Xp rfl<|Xp rfl<|lV (.int .u64 (u64.wrap az)) (Zjs az ⟨_,underlying95⟩ underlying149 rfl)<|lV _ (Zgx _ _ rfl rfl)<|lV _ (Sn _ _ rfl rfl)<|Yv rfl<|Zl<|Zs<|Wl<|Xp rfl<|lV (.int .u64 (U8 .u64 (u64.wrap (al+(u64.wrap (ad * (u64.wrap az))))) 4294967295)) (Zm1 (u64.wrap (al+(u64.wrap (ad * (u64.wrap az))))) 4294967295 rfl rfl)<|Xp rfl<|lV _ (Sn _ _ rfl rfl)<|Yv rfl<|Zl<|Zs<|Wl<|Yv rfl<|Zl<|Zs ?_;refine Wp.cutK [0,1,11,13,5,7,87,88,89,9,1000000] (fun f c8=>∃ c9 da,Zdx j0 n0 ad an a5 ak al (V1 j0 n0 ab ad c3) az da=some r∧St w0 (Xc [qc0] col) c9 c8∧Zb (Za.int .u32) 95 440 c9 c8 a0 ae an∧[10].map f=[.int .u64 da]) ?_ ?_
    ·intro f c8 hJ;obtain ⟨c9,da,hm,aa,ah,hs⟩:=hJ;rw [Zdx.eq_1] at hm;refine .lL [10] hs<|go ?_;obtain ⟨e0,hm⟩:=Z3 hm;obtain ⟨e1,e2,hm⟩:=bZ hm;refine lV (X6 a0 (Int.toNat ((j0:Int)+(ak:Int)) * 1)) (W3 underlying35 sizeOf95 rfl rfl e0.1 e0.2 (ah.addr e2))<|lW (ah.atInt e2)<|go ?_;obtain ⟨e3,hm⟩:=Z3 hm;obtain ⟨he,e4,hm⟩:=bZ hm;refine lV (X6 a0 (Int.toNat ((j0:Int)+(ak:Int)) * 1)) (W3 underlying35 sizeOf95 rfl rfl e3.1 e3.2 (ah.addr e4)) ?_;obtain ⟨db,bv,hm⟩:=bZ hm;have bv:db=an.set (Int.toNat ((j0:Int)+(ak:Int))) (u32.wrap (e1 - (u32.wrap (u64.wrap ((U8 .u64 (u64.wrap (al+(u64.wrap (ad * (u64.wrap az))))) 4294967295)+a5))))):=(Option.some.inj bv).symm;refine Y6 (x1:=u32.wrap (e1 - (u32.wrap (u64.wrap ((U8 .u64 (u64.wrap (al+(u64.wrap (ad * (u64.wrap az))))) 4294967295)+a5))))) ah e4 ?_;intro hf gl gm e5;rw [← bv] at e5;have e6:db.length=ac.length:=(show an.length=db.length by rw [bv,nS]).symm.trans ee;refine go ?_;refine lV (.int .u64 (Yw .u64 (u64.wrap (al+(u64.wrap (ad * (u64.wrap az))))) 32)) (Qi (u64.wrap (al+(u64.wrap (ad * (u64.wrap az))))) 32 rfl rfl (by decide))<|go ?_;replace aa:=aa.kp gl gm;exact ⟨rfl,_,_,_,_,hm,aa,e5,e6,e6,rfl⟩
    refine go ?_;obtain ⟨e7,hm⟩:=Z3 hm;obtain ⟨hg,e8,hm⟩:=bZ hm;refine lV (X6 a0 (Int.toNat ((j0:Int)+(ak:Int)) * 1)) (W3 underlying35 sizeOf95 rfl rfl e7.1 e7.2 (ah.addr e8))<|lW (ah.atInt e8)<|go ?_;refine Zo hm (fun hb hm=>go ?_) fun hb hm=>?_
    ·exact ⟨rfl,_,1,hm,aa,ah,rfl⟩
    refine X0 ?_;exact ⟨rfl,_,0,hm,aa,ah,rfl⟩
  refine Vj (col:=ao) (by kernel_rfl) (by kernel_rfl)<|go ?_;refine Yc hm (fun bw hm=>go ?_) fun bw hm=>go ?_
  ·refine V2 54 rfl rfl rfl rfl<|V2 54 rfl rfl rfl rfl<|V2 54 rfl rfl rfl rfl<|V2 54 rfl rfl rfl rfl<|V2 54 rfl rfl rfl rfl<|V2 54 rfl rfl rfl rfl<|V2 54 rfl rfl rfl rfl<|V2 54 rfl rfl rfl rfl<|V2 54 rfl rfl rfl rfl<|V2 54 rfl rfl rfl rfl<|V2 54 rfl rfl rfl rfl<|V2 54 rfl rfl rfl rfl<|V2 54 rfl rfl rfl rfl<|V2 54 rfl rfl rfl rfl<|V2 54 rfl rfl rfl rfl<|V2 54 rfl rfl rfl rfl<|V2 54 rfl rfl rfl rfl<|V2 54 rfl rfl rfl rfl<|go ?_;refine qv (v:=(.bool true)) rfl (fun _ hC=>Xr (congrArg Value.bool bw) rfl) ?_;refine Ws ?_;intro hh hC;replace hC:=hC.bl ao;replace h0:=h0.gr hC;replace aa:=aa.grow hC;exact ⟨rfl,_,_,hm,aa,h0,rfl⟩
  refine Yc hm (fun dc hm=>go ?_) fun dc hm=>go ?_
  ·obtain ⟨e9,dd,hm⟩:=bZ hm;refine qI dd ((h1.ks aa).addr dd) ?_;refine go ?_;refine qW (fun _ hC=>((h1.ks aa).gr (hC.bl ao)).atInt dd) ?_;refine go ?_;refine qv (v:=(.int .u64 (X8 .u64 ap 32))) rfl (fun _ hC=>Zgz ap 32 rfl rfl (by decide)) ?_;refine go ?_;obtain ⟨fa,hm⟩:=Z3 hm;obtain ⟨fb,fc,hm⟩:=bZ hm;refine qv (v:=(X6 a0 (Int.toNat ((j0:Int)+(i64.wrap ((ab.length:Int) - 2))) * 1))) rfl (fun _ hC=>W3 underlying35 sizeOf95 rfl rfl fa.1 fa.2 (h0.addr fc)) ?_;refine go ?_;refine qW (fun _ hC=>(h0.gr (hC.bl ao)).atInt fc) ?_;refine go ?_;refine qv (v:=(.bool (decide ((Y3 .u64 (X8 .u64 ap 32) (u64.wrap fb))<(u64.wrap (ad * (u64.wrap e9))))))) rfl (fun _ hC=>Xr (congrArg Value.bool dc) rfl) ?_;refine qv (v:=(.bool (decide ((Y3 .u64 (X8 .u64 ap 32) (u64.wrap fb))<(u64.wrap (ad * (u64.wrap e9))))))) rfl (fun _ hC=>Xq (congrArg Value.bool bw) rfl) ?_;refine Ws ?_;intro hi hC;replace hC:=hC.bl ao;replace h0:=h0.gr hC;replace aa:=aa.grow hC;exact ⟨rfl,_,_,hm,aa,h0,rfl⟩
  refine qv (v:=(.bool false)) rfl (fun _ hC=>Xq (congrArg Value.bool dc) rfl) ?_;refine qv (v:=(.bool false)) rfl (fun _ hC=>Xq (congrArg Value.bool bw) rfl) ?_;refine Ws ?_;intro hj hC;replace hC:=hC.bl ao;replace h0:=h0.gr hC;replace aa:=aa.grow hC;exact ⟨rfl,_,_,hm,aa,h0,rfl⟩
def Zle (aa:Int) (kk_L2:(List Int→Int→Option Rc)) (ab:List Int):Option Rc:=
  kk_L2 ab (i64.wrap (aa+1))
def Zf3 (ab:Int) (ac:List Int) (aa:Int) (kk_L2:(List Int→Int→Option Rc)) (ad:Int):Option Rc:=
  (Zm ac aa).bind fun ae=>Zt (0≤ab) ((some (ac.set (Int.toNat aa) (u32.wrap (Yw .u64 (Y3 .u64 (X8 .u64 (u64.wrap ad) 32) (u64.wrap ae)) ab)))).bind fun af=>Zle aa kk_L2 af)
def Sd (N:Nat) (ac:Int) (ad:List Int) (ae:List Int):Nat→R5→Int→Option Rc
  | 0,_,_=>none
  | af+1,aa,ab=>if (decide (ab<(ae.length:Int)))=true then (if (decide ((i64.wrap (ab+1))<(aa.length:Int)))=true then ((Zm aa (i64.wrap (ab+1))).bind fun ag=>Zf3 ac aa ab (Sd N ac ad ae af) ag) else (Zf3 ac aa ab (Sd N ac ad ae af) 0)) else ((Uf N ad).bind fun ah=>(Uf N aa).bind fun ai=>some (ah,ai,0))
termination_by structural x=>x
def Zdu (N:Nat) (ae:Int) (ab:List Int):Nat→R5→R5→Int→Option Rc
  | 0,_,_,_=>none
  | ah+1,ac,ad,aa=>if (decide (0≤aa))=true then (Zt ((0:Int)≤aa∧aa<(i64.wrap ((i64.wrap (aa+(ab.length:Int)))+1))∧(i64.wrap ((i64.wrap (aa+(ab.length:Int)))+1))≤(ac.length:Int)) ((Zf5 N (Int.toNat aa) ((Int.toNat (i64.wrap ((i64.wrap (aa+(ab.length:Int)))+1))) - (Int.toNat aa)) ac ab).bind fun af=>(Zm ad aa).bind fun aj=>(some (ad.set (Int.toNat aa) af.1)).bind fun ai=>(Zdu N ae ab ah) af.2 ai (i64.wrap (aa - 1)))) else ((Zdz N ac).bind fun ag=>Sd N ae ad ag N ag 0)
termination_by structural x=>x
def Zdt (N:Nat) (ae:List Int) (af:List Int):Option Rc:=
  (Ug N ae).bind fun ab=>(Ug N af).bind fun aa=>if (decide ((aa.length:Int)=0))=true then (some (([]:List Int),([]:List Int),11)) else ((Zdr N ab aa).bind fun ag=>if (decide (ag<0))=true then ((Uf N ab).bind fun ah=>some (([]:List Int),ah,0)) else (if (decide ((aa.length:Int)=1))=true then ((Zec ab).bind fun ai=>(Zm aa 0).bind fun aj=>(Zim N ai aj).bind fun ad=>(Uf N ad.2).bind fun ak=>(Uf N [ad.1]).bind fun al=>some (ak,al,0)) else ((Zm aa (i64.wrap ((aa.length:Int) - 1))).bind fun am=>(Zib am).bind fun ac=>(Zf6 ab ac).bind fun an=>(Zf6 aa ac).bind fun ao=>(Zdz N ao).bind fun ap=>Zt ((Int.toNat (i64.wrap ((i64.wrap ((ab.length:Int) - (aa.length:Int)))+1))) * 4≤281474976710656∧(Int.toNat (i64.wrap ((i64.wrap ((ab.length:Int) - (aa.length:Int)))+1)))≤maxLen∧0≤(i64.wrap ((i64.wrap ((ab.length:Int) - (aa.length:Int)))+1))) (Zdu N ac ap N an (List.replicate (Int.toNat (i64.wrap ((i64.wrap ((ab.length:Int) - (aa.length:Int)))+1))) (0:Int)) (i64.wrap (((List.replicate (Int.toNat (i64.wrap ((i64.wrap ((ab.length:Int) - (aa.length:Int)))+1))) (0:Int)).length:Int) - 1))))))
theorem Zn3 {N bu bv:Nat} {a0 a1:Option Addr} {col:Ze} {w0:World} {be bf:R5} {r:Rc} (c1 c2:Nat) (hm:Zdt N be bf=some r) (h0:Sl (Za.int .u32) col w0 a0 bu be) (h1:Sl (Za.int .u32) col w0 a1 bv bf):
    Calls prog 152 #[.slice a0 be.length bu,.slice a1 bf.length bv] w0 (fun e w'=>∃ (col':Ze) (ra1:Option Addr) (rc2:Nat) (ra4:Option Addr) (rc5:Nat),e= .returned (.tuple #[.slice ra1 r.1.length rc2,.slice ra4 r.2.1.length rc5,.int .i64 r.2.2])∧Zh col w0 col' w'∧Zb (Za.int .u32) 95 c1 col' w' ra1 rc2 r.1∧Zb (Za.int .u32) 95 c2 col' w' ra4 rc5 r.2.1):=by
 refine Z16 4 5 6 (m:=122) (args:=[.slice a0 be.length bu,.slice a1 bf.length bv]) func152 rfl rfl rfl rfl rfl ?_;rw [Zdt.eq_1] at hm;have aa:=St.start col w0;refine go ?_;obtain ⟨cx,cy,hm⟩:=bZ hm;replace h0:=h0.keep (Zi.start col w0);refine Zk (T5 cy (h0.ks aa)) ?_;rintro _ eb ⟨ec,ed,ee,rfl,cz,af⟩;refine ⟨_,rfl,?_⟩;refine Yk rfl ?_;obtain ⟨c0,c3,hm⟩:=bZ hm;replace h1:=h1.keep (Zi.start col w0);replace aa:=aa.grow cz;refine Zk (T5 c3 (h1.ks aa)) ?_;rintro _ c4 ⟨ay,ef,eg,rfl,cj,ac⟩;refine ⟨_,rfl,go ?_⟩;replace af:=af.gr cj;replace aa:=aa.grow cj;refine Zo hm (fun hb hm=>go ?_) fun hb hm=>go ?_
 ·cases hm;exact ⟨rfl,_,none,0,none,0,rfl,aa.fin (cm []),Zb.nil,Zb.nil⟩
 obtain ⟨eh,c5,hm⟩:=bZ hm;refine Zk (Zn2 c5 af ac) ?_;rintro _ ck ⟨rfl,az⟩;refine ⟨_,rfl,?_⟩;replace az:Zh ay c4 ay ck:=.of_below az;refine go ?_;replace af:=af.gr az;replace ac:=ac.gr az;replace aa:=aa.grow az;refine Zo hm (fun hb hm=>go ?_) fun hb hm=>go ?_
 ·obtain ⟨ei,c6,hm⟩:=bZ hm;refine Zk (T4 1 c6 af) ?_;rintro _ ej ⟨ek,el,em,rfl,c7,c8⟩;refine ⟨_,rfl,go ?_⟩;cases hm;replace aa:=aa.grow c7;exact ⟨rfl,_,none,0,_,_,rfl,aa.fin (cm [(1,c2)]),Zb.nil,aa.fo c8⟩
 refine Zo hm (fun hb hm=>go ?_) fun hb hm=>go ?_
 ·obtain ⟨cl,c9,hm⟩:=bZ hm;refine Zk (Zn5 2 c9 af) ?_;rintro _ en ⟨eo,bg,bh,rfl,cn,da⟩;refine ⟨_,rfl,go ?_⟩;obtain ⟨ep,bw,hm⟩:=bZ hm;replace ac:=ac.gr cn;refine lI bw (ac.addr bw)<|lW (ac.atInt bw) ?_;obtain ⟨a2,db,hm⟩:=bZ hm;refine Zk (Z04 2 db rfl da) ?_;rintro _ dc ⟨bx,rfl,dd,de,co⟩;refine ⟨_,rfl,?_⟩;refine .ld (d:=7) (v:=(.slice bg a2.2.length bh)) (congrArg (fun n=>Value.slice bg n bh) (show cl.length=a2.2.length from co.symm)) ?_;refine .ld (d:=34) (v:=(.slice bg a2.2.length bh)) (congrArg (fun n=>Value.slice bg n bh) (show cl.length=a2.2.length from co.symm)) ?_;refine go ?_;obtain ⟨eq,df,hm⟩:=bZ hm;refine Zk (T4 3 df (de.toSlF (Zd.int .u32))) ?_;rintro _ er ⟨dg,es,et,rfl,bi,a3⟩;refine ⟨_,rfl,?_⟩;replace a3:=a3.thaw (Z1 .u32) bi ((Fz.refl (col:=bx)).froz 2) (by decide);replace bi:=bi.thawR (col:=bx);generalize Xe dc.heap.size bx dg=dh at *;refine Xp rfl<|Vg (col:=dh) [a2.1] 4 ?_;intro eu di bz cp dj;obtain ⟨ew,dl,hm⟩:=bZ hm;refine Zk (T4 5 dl (dj.toSlF (Zd.int .u32))) ?_;rintro _ ey ⟨dm,ez,e0,rfl,a4,b0⟩;refine ⟨_,rfl,?_⟩;replace b0:=b0.thaw (Z1 .u32) a4 ((Fz.refl (col:=bz)).froz 4) (by decide);replace a4:=a4.thawR (col:=bz);generalize Xe di.heap.size bz dm=e1 at *;refine go ?_;cases hm;replace aa:=((((aa.grow cn).kpp dd).grow bi).grow cp).grow a4;replace a3:=(a3.gr cp).gr a4;exact ⟨rfl,_,_,_,_,_,rfl,aa.fin (cm [(3,c1),(5,c2)]),aa.fo a3,aa.fo b0⟩
 obtain ⟨e2,b1,hm⟩:=bZ hm;refine lI b1 (ac.addr b1)<|lW (ac.atInt b1) ?_;obtain ⟨ah,dn,hm⟩:=bZ hm;refine Zk (Z0r (col:=ay) dn) ?_;rintro _ dp ⟨rfl,a5⟩;refine ⟨_,rfl,?_⟩;replace a5:Zh ay ck ay dp:=.of_below a5;refine go ?_;obtain ⟨e3,dq,hm⟩:=bZ hm;replace af:=af.gr a5;refine Zk (Zr4 6 dq af) ?_;rintro _ e4 ⟨e5,e6,e7,rfl,cq,a6⟩;refine ⟨_,rfl,go ?_⟩;obtain ⟨e8,dr,hm⟩:=bZ hm;replace ac:=(ac.gr a5).gr cq;refine Zk (Zr4 7 dr ac) ?_;rintro _ e9 ⟨fa,fb,fc,rfl,cr,ds⟩;refine ⟨_,rfl,?_⟩;obtain ⟨b2,dt,hm⟩:=bZ hm;refine Zk (Zr5 7 dt rfl ds) ?_;rintro _ du ⟨dv,dw,dx,rfl,cs,ag⟩;refine ⟨_,rfl,go ?_⟩;obtain ⟨bj,hm⟩:=Z3 hm;refine Sz (col:=dv) (w:=du) (r:=(Za.int .u32)) (n:=(Int.toNat (i64.wrap ((i64.wrap ((cx.length:Int) - (c0.length:Int)))+1)))) (x0:=0) 8 rfl underlying35 Tryz.t95 rfl rfl rfl rfl rfl (congrArg (Value.int _) (Int.toNat_of_nonneg bj.2.2).symm) (congrArg (Value.int _) (Int.toNat_of_nonneg bj.2.2).symm) bj.1 bj.2.1 (Zco .u32 0) ?_;intro fd fe ff b3 b4;refine go ?_;replace a6:=((a6.gr cr).kpp cs).gr b3;replace a6:=a6.froz 7 (by decide);replace ag:=ag.gr b3;replace ag:=(ag).toSlF (Zd.int .u32);replace b4:=b4.froz 7 (by decide);replace aa:=((((aa.grow a5).grow cq).grow cr).kpp cs).grow b3;replace aa:=aa.froz 7 (by decide) (by decide);refine Zu [11,9,1000000] (fun n f a7=>∃ a8 ap aq a9 aj ak ad al ar,ar=n∧Zdu N ah b2 ar a9 ad al=some r∧St w0 (Zj col) a8 a7∧Zb (Za.int .u32) 95 6 a8 a7 ap aq a9∧Sl (Za.int .u32) a8 a7 dw dx b2∧Zb (Za.int .u32) 95 8 a8 a7 aj ak ad∧[10,12,13].map f=[.slice ap a9.length aq,.slice aj ad.length ak,.int .i64 al]) N ⟨_,_,_,_,_,_,_,_,_,rfl,hm,aa,a6,ag,b4,rfl⟩ ?_;clear hm;intro n f a7 hI;obtain ⟨a8,ap,aq,a9,aj,ak,ad,al,ar,hn,hm,aa,b5,ag,ab,hs⟩:=hI;subst hn;refine .lL [10,12,13] hs ?_
 cases ar with
 | zero=>rw [Zdu.eq_1] at hm;cases hm
 | succ ar=>
  rw [Zdu.eq_2] at hm;refine go ?_;refine Zo hm (fun hb hm=>go ?_) fun hb hm=>go ?_
  ·obtain ⟨b6,hm⟩:=Z3 hm;refine lV (.slice (ap.map (·.add ((Int.toNat al) * 1))) ((Int.toNat (i64.wrap ((i64.wrap (al+(b2.length:Int)))+1))) - (Int.toNat al)) (aq - (Int.toNat al))) (Z5t underlying35 sizeOf95 rfl rfl rfl b6.1 b6.2.1 (by have:=b5.lecap;have:=b6.2.2;omega))<|Yk rfl ?_;obtain ⟨bk,dy,hm⟩:=bZ hm;refine Zk (Z02 6 dy rfl b5 ag) ?_;rintro _ fg ⟨fh,rfl,b7,b8,dz⟩;refine ⟨_,rfl,?_⟩;refine .ld (d:=10) (v:=(.slice ap bk.2.length aq)) (congrArg (fun n=>Value.slice ap n aq) (show a9.length=bk.2.length from dz.symm)) ?_;obtain ⟨fi,b9,hm⟩:=bZ hm;replace ab:=ab.kpp b7;refine lI b9 (ab.addr b9) ?_;obtain ⟨ca,bm,hm⟩:=bZ hm;have bm:ca=ad.set (Int.toNat al) bk.1:=(Option.some.inj bm).symm;refine Y6 (x1:=bk.1) ab b9 ?_;intro fj cb d0 ct;rw [← bm] at ct;refine .ld (d:=12) (v:=(.slice aj ca.length ak)) (congrArg (fun n=>Value.slice aj n ak) (show ad.length=ca.length by rw [bm,nS])) ?_;refine go ?_;replace ag:=(ag.kpp b7).kp cb;replace aa:=(aa.kpp b7).kp cb d0;replace b8:=b8.kp cb;exact ⟨ar,by omega,rfl,⟨_,_,_,_,_,_,_,_,_,rfl,hm,aa,b8,ag,ct,rfl⟩⟩
  obtain ⟨cc,d1,hm⟩:=bZ hm;refine Zk (Zr5 6 d1 rfl b5) ?_;rintro _ fk ⟨fl,fm,fn,rfl,cu,d2⟩;refine ⟨_,rfl,go ?_⟩;replace ab:=ab.kpp cu;replace aa:=aa.kpp cu;refine Zu [12,88,9,1000000] (fun n f ba=>∃ ao au av am aw an,an=n∧Sd N ah ad cc an am aw=some r∧St w0 (Zj col) ao ba∧Zb (Za.int .u32) 95 6 ao ba au av am∧Zb (Za.int .u32) 95 8 ao ba aj ak ad∧[10,89].map f=[.slice au am.length av,.int .i64 aw]) N ⟨_,_,_,_,0,_,rfl,hm,aa,d2,ab,rfl⟩ ?_;clear hm;intro n f ba hI;obtain ⟨ao,au,av,am,aw,an,hn,hm,aa,ae,ab,hs⟩:=hI;subst hn;refine .lL [10,89] hs ?_
  cases an with
  | zero=>rw [Sd.eq_1] at hm;cases hm
  | succ an=>
   rw [Sd.eq_2] at hm;refine go ?_;refine Zo hm (fun hb hm=>?_) fun hb hm=>go ?_
   ·refine X0<|Zs ?_;refine Wp.cutK [12,88,89,9,1000000] (fun f bn=>∃ bo cd ce bp,Zle aw (Sd N ah ad cc an) bp=some r∧St w0 (Zj col) bo bn∧Zb (Za.int .u32) 95 6 bo bn cd ce bp∧Zb (Za.int .u32) 95 8 bo bn aj ak ad∧[10].map f=[.slice cd bp.length ce]) ?_ ?_
    ·intro f bn hJ;obtain ⟨bo,cd,ce,bp,hm,aa,d3,ab,hs⟩:=hJ;rw [Zle.eq_1] at hm;refine .lL [10] hs<|go ?_;exact ⟨an,by omega,rfl,⟨_,_,_,_,_,_,rfl,hm,aa,d3,ab,rfl⟩⟩
    refine Zbd<|Zs<|Wl<|Xp rfl<|Yv rfl<|Zl<|Zs<|Wl<|Yv rfl<|Zl<|Zs ?_;refine Wp.cutK [10,12,14,88,89,9,1000000] (fun f bq=>∃ br ai,Zf3 ah am aw (Sd N ah ad cc an) ai=some r∧St w0 (Zj col) br bq∧Zb (Za.int .u32) 95 6 br bq au av am∧Zb (Za.int .u32) 95 8 br bq aj ak ad∧[15].map f=[.int .u32 ai]) ?_ ?_
    ·intro f bq hJ;obtain ⟨br,ai,hm,aa,ae,ab,hs⟩:=hJ;rw [Zf3.eq_1] at hm;refine .lL [15] hs<|go ?_;refine lV (.int .u64 (X8 .u64 (u64.wrap ai) 32)) (Zgz (u64.wrap ai) 32 rfl rfl (by decide))<|go ?_;obtain ⟨bs,ax,hm⟩:=bZ hm;refine lI ax (ae.addr ax)<|lW (ae.atInt ax) ?_;refine go ?_;obtain ⟨d4,hm⟩:=Z3 hm;refine lV (.int .u64 (Yw .u64 (Y3 .u64 (X8 .u64 (u64.wrap ai) 32) (u64.wrap bs)) ah)) (Qi (Y3 .u64 (X8 .u64 (u64.wrap ai) 32) (u64.wrap bs)) ah rfl rfl d4)<|go ?_;refine lI ax (ae.addr ax) ?_;obtain ⟨cf,bt,hm⟩:=bZ hm;have bt:cf=am.set (Int.toNat aw) (u32.wrap (Yw .u64 (Y3 .u64 (X8 .u64 (u64.wrap ai) 32) (u64.wrap bs)) ah)):=(Option.some.inj bt).symm;refine Y6 (x1:=u32.wrap (Yw .u64 (Y3 .u64 (X8 .u64 (u64.wrap ai) 32) (u64.wrap bs)) ah)) ae ax ?_;intro fp cv d5 cw;rw [← bt] at cw;refine .ld (d:=10) (v:=(.slice au cf.length av)) (congrArg (fun n=>Value.slice au n av) (show am.length=cf.length by rw [bt,nS])) ?_;refine Zl ?_;replace ab:=ab.kp cv;replace aa:=aa.kp cv d5;exact ⟨rfl,_,_,_,_,hm,aa,cw,ab,rfl⟩
    refine go ?_;refine Zo hm (fun hb hm=>go ?_) fun hb hm=>?_
    ·obtain ⟨fq,cg,hm⟩:=bZ hm;refine lI cg (ae.addr cg)<|lW (ae.atInt cg) ?_;refine go ?_;exact ⟨rfl,_,_,hm,aa,ae,ab,rfl⟩
    refine X0 ?_;exact ⟨rfl,_,0,hm,aa,ae,ab,rfl⟩
   obtain ⟨fr,d6,hm⟩:=bZ hm;refine Zk (T4 9 d6 (ab.toSlF (Zd.int .u32))) ?_;rintro _ d7 ⟨d8,ft,fu,rfl,bb,bc⟩;refine ⟨_,rfl,?_⟩;replace bc:=bc.thaw (Z1 .u32) bb ((Fz.refl (col:=ao)).froz 8) (by decide);replace bb:=bb.thawR (col:=ao);generalize Xe ba.heap.size ao d8=ch at *;refine Yk rfl ?_;obtain ⟨fv,d9,hm⟩:=bZ hm;replace ae:=ae.gr bb;refine Zk (T4 10 d9 (ae.toSlF (Zd.int .u32))) ?_;rintro _ fw ⟨ea,fx,fy,rfl,bd,ci⟩;refine ⟨_,rfl,?_⟩;replace ci:=ci.thaw (Z1 .u32) bd ((Fz.refl (col:=ch)).froz 6) (by decide);replace bd:=bd.thawR (col:=ch);generalize Xe d7.heap.size ch ea=fz at *;refine go ?_;cases hm;replace aa:=(aa.grow bb).grow bd;replace bc:=bc.gr bd;exact ⟨rfl,_,_,_,_,_,rfl,aa.fin (cm [(9,c1),(10,c2)]),aa.fo bc,aa.fo ci⟩
def Zig (N:Nat) (ab:List Int):Option Int:=
  (Ug N ab).bind fun aa=>if (decide ((aa.length:Int)=0))=true then (some 0) else ((Zm aa (i64.wrap ((aa.length:Int) - 1))).bind fun ac=>(Zfs ac).bind fun ad=>some (i64.wrap ((i64.wrap (32 * (i64.wrap ((aa.length:Int) - 1))))+ad)))
theorem Z00 {N af:Nat} {a0:Option Addr} {col:Ze} {w0:World} {ab:R5} {r:Int} (hm:Zig N ab=some r) (h0:Sl (Za.int .u32) col w0 a0 af ab):
    Calls prog 64 #[.slice a0 ab.length af] w0 (fun e w'=>e= .returned ((.int .i64 r))∧Below w0.heap.size w0 w'):=by
 refine Xf 2 (m:=20) func64 rfl rfl rfl rfl rfl ?_;rw [Zig.eq_1] at hm;have aa:=St.start col w0;refine go ?_;obtain ⟨am,ah,hm⟩:=bZ hm;replace h0:=h0.keep (Zi.start col w0);refine Zk (T5 ah (h0.ks aa)) ?_;rintro _ ai ⟨ac,an,ao,rfl,aj,ag⟩;refine ⟨_,rfl,go ?_⟩;replace aa:=aa.grow aj;refine Zo hm (fun hb hm=>go ?_) fun hb hm=>go ?_
 ·cases hm;exact ⟨rfl,rfl,aa.below⟩
 obtain ⟨ap,ad,hm⟩:=bZ hm;refine lI ad (ag.addr ad)<|lW (ag.atInt ad) ?_;obtain ⟨aq,ak,hm⟩:=bZ hm;refine Zk (Zr0 (col:=ac) ak) ?_;rintro _ al ⟨rfl,ae⟩;refine ⟨_,rfl,?_⟩;replace ae:Zh ac ai ac al:=.of_below ae;refine go ?_;cases hm;replace aa:=aa.grow ae;exact ⟨rfl,rfl,aa.below⟩
def Xb (n:Nat):Nat:=if n=0 then 0 else n.log2+1
theorem Zer:Xb 0=0:=rfl
theorem Zro {n k:Nat} (h:2 ^ k≤n) (h2:n<2 ^ (k+1)):Xb n=k+1:=by
 have h0:n≠0:=by have:=Nat.two_pow_pos k;omega
 rw [Xb,if_neg h0,(Nat.log2_eq_iff h0).2 ⟨h,h2⟩]
theorem Zki {n:Nat} (h:n≠0):∃ k,Xb n=k+1∧2 ^ k≤n∧n<2 ^ (k+1):=by
 refine ⟨n.log2,by rw [Xb,if_neg h],?_⟩
 exact (Nat.log2_eq_iff h).1 rfl
theorem Vt {n k:Nat}:Xb n≤k↔n<2 ^ k:=by
 by_cases h:n=0
 ·subst h;simp [Zer,Nat.two_pow_pos]
 ·obtain ⟨j,e,h1,h2⟩:=Zki h
  rw [e]
  constructor
  ·intro hk;exact Nat.lt_of_lt_of_le h2 (Nat.pow_le_pow_right (by decide) hk)
  ·intro hk
   have:=(Nat.pow_lt_pow_iff_right (a:=2) (by decide)).1 (Nat.lt_of_le_of_lt h1 hk)
   omega
theorem Zhh (n k:Nat):Xb (n / 2 ^ k)=Xb n - k:=by
 by_cases h:n / 2 ^ k=0
 ·have h1:n<2 ^ k:=by
   have:=Nat.two_pow_pos k
   rcases Nat.div_eq_zero_iff.1 h with h | h
   ·omega
   ·exact h
  have:=Vt.2 h1
  rw [h,Zer];omega
 ·obtain ⟨j,e,h1,h2⟩:=Zki h
  have hp:=Nat.two_pow_pos k
  have h3:2 ^ (j+k)≤n:=by
   rw [Nat.pow_add]
   exact (Nat.le_div_iff_mul_le hp).1 h1
  have h4:n<2 ^ (j+k+1):=by
   have:=(Nat.div_lt_iff_lt_mul hp).1 h2
   rw [show j+k+1=(j+1)+k by omega,Nat.pow_add];exact this
  rw [e,Zro h3 h4];omega
theorem Z31:∀ x:Fin 256,Zdl (x.val:Int) 0=some ((Xb x.val:Nat):Int):=by decide+kernel
theorem Zup {x:Nat} (h:x<256) {n:Int} (hn:0≤n∧n≤24):Zdl (x:Int) n=some (n+(Xb x:Int)):=by
 have h0:=Z31 ⟨x,h⟩
 have hb:Xb x≤8:=Vt.2 h
 rw [Zdl] at h0 ⊢
 revert h0
 generalize Zkd _ _=o
 intro h0
 cases o with
 | none=>cases h0
 | some e=>
  rw [oB] at h0 ⊢
  have h1:=Option.some.inj h0
  rw [IntKind.wrap_i64,IntKind.wrap_i64] at h1 ⊢
  congr 1
  simp only at h1
  omega
theorem Zm9 (i:IntKind) (x k:Nat) (hk:k≤i.bits):Yw i (x:Int) (k:Int)=((x / 2 ^ k:Nat):Int):=by
 rw [Yw,Int.toNat_natCast,Nat.min_eq_left hk,Int.fdiv_eq_ediv_of_nonneg _ (Int.le_of_lt (Int.pow_pos (by decide)))]
 norm_cast
theorem Zuo {x:Nat} (h:x<4294967296):Zfs (x:Int)=some ((Xb x:Nat):Int):=by
 have j1:∀ (y:Nat) (n:Int),y<65536→0≤n∧n≤16→Zft (y:Int) n=some (n+(Xb y:Int)):=fun y n hy hn=>by
  rw [Zft]
  by_cases h1:256≤y
  ·have e:=Zm9 .u32 y 8 (by decide)
   have hb:=Zhh y 8
   have hb8:8≤Xb y:=by
    have:¬ Xb y≤7:=fun h=>by have:=Vt.1 h;omega
    omega
   rw [if_pos (by simp;omega),show (8:Int)=((8:Nat):Int) from rfl,e,Zup (by omega) (by rw [Z0 (by omega)];omega),Z0 (by omega),hb]
   congr 1;omega
  ·rw [if_neg (by simp;omega),Zup (by omega) (by omega)]
 rw [Zfs]
 by_cases h1:65536≤x
 ·have e:=Zm9 .u32 x 16 (by decide)
  have hb:=Zhh x 16
  have hb8:16≤Xb x:=by
   have:¬ Xb x≤15:=fun h=>by have:=Vt.1 h;omega
   omega
  rw [if_pos (by simp;omega),show (16:Int)=((16:Nat):Int) from rfl,e,j1 _ _ (by omega) (by omega),hb]
  congr 1;omega
 ·rw [if_neg (by simp;omega),j1 _ _ (by omega) (by omega)]
  congr 1;omega
theorem Zrq {a:List Int} {x:Int} (ha:Zn a) (hx:0<x∧x<4294967296):Xb (Zc (a++[x]))=32 * a.length+Xb x.toNat:=by
 obtain ⟨k,e,h1,h2⟩:=Zki (show x.toNat≠0 by omega)
 have hl:=Sj ha
 have e1:Zc (a++[x])=Zc a+4294967296 ^ a.length * x.toNat:=by rw [Si,Y7,Yt];simp
 have e2:(4294967296:Nat) ^ a.length=2 ^ (32 * a.length):=by rw [show (4294967296:Nat)=2 ^ 32 by decide,← Nat.pow_mul]
 rw [e]
 have:=Zro (n:=Zc (a++[x])) (k:=32 * a.length+k) (by
   rw [e1,e2,Nat.pow_add]
   have:=Nat.mul_le_mul_left (2 ^ (32 * a.length)) h1
   omega) (by
   rw [e1,show 32 * a.length+k+1=32 * a.length+(k+1) by omega,Nat.pow_add,e2]
   have:=Nat.mul_le_mul_left (2 ^ (32 * a.length)) (show x.toNat+1≤2 ^ (k+1) by omega)
   rw [Nat.mul_add] at this
   rw [e2] at hl
   omega)
 rw [this];omega
theorem Zkg (n:Nat):32 * ((Zg n).length - 1)≤Xb n∧Xb n≤32 * (Zg n).length:=by
 have e:∀ k,(4294967296:Nat) ^ k=2 ^ (32 * k):=fun k=>by rw [show (4294967296:Nat)=2 ^ 32 by decide,← Nat.pow_mul]
 constructor
 ·by_cases h:32 * ((Zg n).length - 1)≤Xb n
  ·exact h
  ·exfalso
   have h1:=Vt.1 (show Xb n≤32 * ((Zg n).length - 1) by omega)
   rw [← e] at h1
   have:=Wq.2 h1
   omega
 ·have:=Wq.1 (Nat.le_refl (Zg n).length)
  rw [e] at this
  exact Vt.2 this
theorem Zz5 {N:Nat} {a:List Int} (h:Zn a) (hn:a.length<N) (hb:a.length≤35184372088000):Zig N a=some ((Xb (Zc a):Nat):Int):=by
 have hl:=Yx h
 rw [Zig,Sv h hn hb,oB]
 by_cases h0:(Zg (Zc a)).length=0
 ·have:Zc a=0:=Ze3.1 (List.eq_nil_of_length_eq_zero h0)
  rw [if_pos (by simp [h0]),this,Zer];rfl
 ·have hp:0<(Zg (Zc a)).length:=by omega
  have e:((Zg (Zc a)).length:Int) - 1=(((Zg (Zc a)).length - 1:Nat):Int):=by omega
  have hx:=(Xa (Zc a)).get (k:=(Zg (Zc a)).length - 1) (by omega)
  have hne:=Zk4 hp
  have hs:=Ze2 hp
  have e2:(Zg (Zc a))[(Zg (Zc a)).length - 1]=(((Zg (Zc a))[(Zg (Zc a)).length - 1]).toNat:Int):=by omega
  rw [if_neg (by simpa using h0),Z0 (by omega),e,Z5 (by omega),oB,e2,Zuo (by omega),oB]
  have hb:=Zrq (a:=(Zg (Zc a)).take ((Zg (Zc a)).length - 1)) (x:=(Zg (Zc a))[(Zg (Zc a)).length - 1]) ((Xa _).take _) (by omega)
  rw [hs,Z8,nK,Nat.min_eq_left (by omega)] at hb
  have hb2:Xb ((Zg (Zc a))[(Zg (Zc a)).length - 1]).toNat≤32:=Vt.2 (by omega)
  rw [Z0 (x:=32 * _) (by omega),Z0 (by omega),hb]
  congr 1
theorem Zes (w x:Nat) (h:x<2 ^ w):(BitVec.ofInt w (x:Int)).toNat=x:=by
 rw [BitVec.toNat_ofInt]
 have:((2 ^ w:Nat):Int)=(2:Int) ^ w:=by norm_cast
 rw [← Int.natCast_emod,Int.toNat_natCast,Nat.mod_eq_of_lt h]
theorem or64 (k a b:Nat) (h:b<2 ^ k) (hs:2 ^ k * a+b<18446744073709551616):Y3 .u64 ((2 ^ k * a:Nat):Int) (b:Int)=((2 ^ k * a+b:Nat):Int):=by
 rw [Y3,BitVec.toNat_or,Zes _ _ (by simp only [IntKind.bits];omega),Zes _ _ (by simp only [IntKind.bits];omega),← Nat.two_pow_add_eq_or_of_lt h,IntKind.wrap_u64]
 omega
theorem or32 (k a b:Nat) (h:b<2 ^ k) (hs:2 ^ k * a+b<4294967296):Y3 .u32 (b:Int) ((2 ^ k * a:Nat):Int)=((2 ^ k * a+b:Nat):Int):=by
 rw [Y3,BitVec.toNat_or,Zes _ _ (by simp only [IntKind.bits];omega),Zes _ _ (by simp only [IntKind.bits];omega),Nat.or_comm,← Nat.two_pow_add_eq_or_of_lt h,IntKind.wrap_u32]
 omega
theorem Z6b {x:Int} (h:0≤x∧x<4294967296):X8 .u64 x 32=x * 4294967296:=by
 have:(min (32:Int).toNat u64.bits)=32:=by decide
 rw [X8,this,IntKind.wrap_u64]
 omega
theorem Znf {r e:Int} (hr:0≤r∧r<4294967296) (he:0≤e∧e<4294967296):Y3 .u64 (X8 .u64 r 32) e=r * 4294967296+e:=by
 rw [Z6b hr]
 have:=or64 32 r.toNat e.toNat (by omega) (by omega)
 rw [show ((2 ^ 32 * r.toNat:Nat):Int)=r * 4294967296 by omega,show ((e.toNat:Nat):Int)=e by omega] at this
 rw [this];omega
theorem Zcr {l:List Int} {k j:Nat} (v:Int) (h:j≤k):(l.set k v).take j=l.take j:=by
 rw [List.take_set,List.set_eq_of_length_le]
 rw [nK];omega
theorem Zyj (N:Nat) (d:Int) (hd:0<d∧d<4294967296):∀ (n j:Nat) (r:List Int) (c:Int),j≤r.length→j<n→r.length<4611686018427387904→Zn r→0≤c∧c<d→
  ∃ c' r',Zdy N d n r c ((j:Int) - 1)=some (c',r')∧r'.length=r.length∧Zn r'∧0≤c'∧c'<d∧d.toNat * Zc r'+c'.toNat=Zc (r.take j)+4294967296 ^ j * (c.toNat+d.toNat * Zc (r.drop j))
 | 0,j,r,c,_,h,_,_,_=>by omega
 | n+1,j,r,c,hj,hn,hs,hr,hc=>by
  rw [Zdy.eq_2]
  by_cases h0:j=0
  ·subst h0
   rw [if_neg (by decide),V5 (by omega)]
   refine ⟨c,r,rfl,rfl,hr,hc.1,hc.2,?_⟩
   rw [List.take_zero,List.drop_zero,Yt];omega
  ·have e:(j:Int) - 1=((j - 1:Nat):Int):=by omega
   have hk:j - 1<r.length:=by omega
   have g:=hr.get hk
   rw [if_pos (by simp;omega),e,Z5 hk,oB,Xj (x:=d) (by omega),Z9 (by omega),oB,Z9 (by omega),Int.toNat_natCast,Xj (x:=r[j - 1]) (by omega),Znf (by omega) (by omega)]
   generalize hcur:c * 4294967296+r[j - 1]=cur
   have hcd:(c+1) * 4294967296≤d * 4294967296:=by omega
   have hq:0≤cur / d∧cur / d<4294967296:=⟨Int.ediv_nonneg (by omega) (by omega),Int.ediv_lt_of_lt_mul hd.1 (by rw [Int.mul_comm];omega)⟩
   have hm:=Int.emod_nonneg cur (show d≠0 by omega)
   have hm2:=Int.emod_lt_of_pos cur hd.1
   have hdm:=Int.mul_ediv_add_emod cur d
   rw [Int.tdiv_eq_ediv_of_nonneg (by omega),Int.tmod_eq_emod_of_nonneg (by omega),Xj (by omega),V5 hq,Z0 (by omega)]
   obtain ⟨c',r',q1,q2,q3,q4,q5,q6⟩:=Zyj N d hd n (j - 1) (r.set (j - 1) (cur / d)) (cur % d) (by rw [nS];omega) (by omega) (by rw [nS];exact hs) (hr.set _ hq) ⟨hm,hm2⟩
   refine ⟨c',r',q1,by rw [q2,nS],q3,q4,q5,?_⟩
   rw [q6,Zcr _ (Nat.le_refl _)]
   have t1:=Zp4 hk
   have t2:Zc ((r.set (j - 1) (cur / d)).drop (j - 1))=(cur / d).toNat+4294967296 * Zc (r.drop (j - 1+1)):=by
    rw [Ub (by rw [nS];exact hk),List.getElem_set_self,Zai _ (by omega)]
   rw [show j - 1+1=j by omega] at t1 t2
   rw [t1,t2]
   have hp:(4294967296:Nat) ^ j=4294967296 ^ (j - 1) * 4294967296:=by rw [← Nat.pow_succ,show (j - 1).succ=j by omega]
   rw [hp]
   have hn1:d.toNat * (cur / d).toNat+(cur % d).toNat=c.toNat * 4294967296+(r[j - 1]).toNat:=by
    have:((d.toNat * (cur / d).toNat:Nat):Int)=d * (cur / d):=by rw [Int.natCast_mul,Int.toNat_of_nonneg (by omega),Int.toNat_of_nonneg hq.1]
    omega
   generalize hQ:4294967296 ^ (j - 1)=Q
   have hn2:Q * (d.toNat * (cur / d).toNat+(cur % d).toNat)=Q * (c.toNat * 4294967296+(r[j - 1]).toNat):=by rw [hn1]
   grind
theorem Z6e {N:Nat} {a:List Int} {d:Int} (hd:0<d∧d<4294967296) (ha:Zn a) (hn:a.length<N) (hs:a.length≤35184372088000):
  ∃ q,Zim N a d=some (((Zc a % d.toNat:Nat):Int),q)∧q.length=a.length∧Zn q∧Zc q=Zc a / d.toNat:=by
 obtain ⟨c',r',q1,q2,q3,q4,q5,q6⟩:=Zyj N d hd N a.length a 0 (Nat.le_refl _) hn (by omega) ha (by omega)
 have hd':0<d.toNat:=by omega
 rw [List.take_length,List.drop_length,Yt] at q6
 have h1:Zc a=c'.toNat+d.toNat * Zc r':=by simp at q6;omega
 have h2:Zc a % d.toNat=c'.toNat:=by rw [h1,Nat.add_mul_mod_self_left,Nat.mod_eq_of_lt (by omega)]
 have h3:Zc a / d.toNat=Zc r':=by rw [h1,Nat.add_mul_div_left _ _ hd',Nat.div_eq_of_lt (by omega),Nat.zero_add]
 refine ⟨r',?_,q2,q3,h3.symm⟩
 rw [Zim,Z0 (by omega),q1,h2]
 congr 2;omega
theorem Zq2 {i:IntKind} {x s:Nat} (hs:s<32) (hi:i= .u32∨i= .u64):X8 i (x:Int) (s:Int)=i.wrap ((x * 2 ^ s:Nat):Int):=by
 rw [X8,Int.toNat_natCast,Nat.min_eq_left (by rcases hi with rfl | rfl <;> simp only [IntKind.bits] <;> omega)]
 norm_cast
theorem Zzs (n:Nat):u32.wrap (n:Int)=((n % 4294967296:Nat):Int):=by rw [IntKind.wrap_u32];omega
theorem Zum (s:Nat) (hs:s<32):∀ (l:List Int) (k:Nat) (out:List Int),Zn l→out.length=k+l.length+1→out.length<4611686018427387904→Zn out→Zc (out.drop (k+1))=0→(∀ h:k<out.length,(out[k]).toNat<2 ^ s)→
  ∃ out',Zcd (s:Int) l k out=some out'∧out'.length=out.length∧Zn out'∧Zc out'=Zc out+4294967296 ^ k * (2 ^ s * Zc l)∧(∀ h:out'.length - 1<out'.length,(out'[out'.length - 1]).toNat<2 ^ s)
 | [],k,out,_,hl,_,ho,_,hk=>by
  rw [Zcd.eq_1]
  rw [nN] at hl
  refine ⟨out,rfl,rfl,ho,by rw [Yt];omega,fun h=>?_⟩
  have:=hk (by omega)
  simpa [hl] using this
 | x :: l,k,out,hx,hl,hz,ho,hd,hk=>by
  rw [nC] at hl
  have h0:k<out.length:=by omega
  have h1:k+1<out.length:=by omega
  have gx:=hx.head
  have gk:=ho.get h0
  have gs:=hk h0
  have hz1:=drop_zero ho h1 hd
  have e1:i64.wrap ((k:Int)+1)=((k+1:Nat):Int):=by rw [Z0 (by omega)];omega
  have ex:x=(x.toNat:Int):=by omega
  have ek:out[k]=((out[k]).toNat:Int):=by omega
  have pw:(2:Nat) ^ s * 2 ^ (32 - s)=4294967296:=by rw [← Nat.pow_add,show s+(32 - s)=32 by omega]
  have hps:=Nat.two_pow_pos s
  have hp2:=Nat.two_pow_pos (32 - s)
  -- the lower and the upper limb
  have hxs:x.toNat * 2 ^ s<4294967296 * 2 ^ s:=Nat.mul_lt_mul_of_pos_right (by omega) hps
  have hs31:2 ^ s≤2147483648:=by
   have:=Nat.pow_le_pow_right (n:=2) (by decide) (show s≤31 by omega)
   omega
  have hlow:(x.toNat * 2 ^ s) % 4294967296=2 ^ s * (x.toNat % 2 ^ (32 - s)):=by
   rw [← pw,Nat.mul_comm x.toNat,Nat.mul_mod_mul_left]
  have hlo:Y3 .u32 out[k] (X8 .u32 x (s:Int))=(((x.toNat * 2 ^ s) % 4294967296+(out[k]).toNat:Nat):Int):=by
   rw [ex,Zq2 hs (.inl rfl),Zzs,ek]
   simp only [Int.toNat_natCast]
   rw [hlow]
   refine or32 s _ _ gs ?_
   have:2 ^ s * (x.toNat % 2 ^ (32 - s)+1)≤2 ^ s * 2 ^ (32 - s):=Nat.mul_le_mul_left _ (Nat.mod_lt _ hp2)
   rw [pw,Nat.mul_add] at this
   omega
  have hhi:u32.wrap (Yw .u64 (X8 .u64 (u64.wrap x) (s:Int)) 32)=((x.toNat * 2 ^ s / 4294967296:Nat):Int):=by
   rw [Xj (x:=x) (by omega),ex,Zq2 hs (.inr rfl),Zek,Xj (by omega)]
   simp only [Int.toNat_natCast]
   rw [V5 (by omega)]
   omega
  have hhs:x.toNat * 2 ^ s / 4294967296<2 ^ s:=(Nat.div_lt_iff_lt_mul (by decide)).2 (by rw [Nat.mul_comm (2 ^ s)];exact hxs)
  have hlow2:(x.toNat * 2 ^ s) % 4294967296+(out[k]).toNat<4294967296:=by
   rw [hlow]
   have:2 ^ s * (x.toNat % 2 ^ (32 - s)+1)≤2 ^ s * 2 ^ (32 - s):=Nat.mul_le_mul_left _ (Nat.mod_lt _ hp2)
   rw [pw,Nat.mul_add] at this
   omega
  rw [Zcd.eq_2,Z5 h0,oB,Z9 (by omega),oB,Z9 (by omega),e1,Int.toNat_natCast,Int.toNat_natCast,
   Z5 (by rw [nS];exact h1),oB,oB,hlo,hhi]
  generalize hA:(x.toNat * 2 ^ s) % 4294967296+(out[k]).toNat=A at hlow2
  generalize hB:x.toNat * 2 ^ s / 4294967296=B at hhs
  have o1:Zn (out.set k (A:Int)):=ho.set _ (by omega)
  have o2:Zn ((out.set k (A:Int)).set (k+1) (B:Int)):=o1.set _ (by omega)
  obtain ⟨out',q1,q2,q3,q4,q5⟩:=Zum s hs l (k+1) ((out.set k (A:Int)).set (k+1) (B:Int)) hx.tail (by rw [nS,nS];omega) (by rw [nS,nS];exact hz) o2 (by
   rw [Zai _ (by omega),Zai _ (by omega)];exact hz1.2) (fun h=>by rw [List.getElem_set_self];simpa using hhs)
  refine ⟨out',q1,by rw [q2,nS,nS],q3,?_,q5⟩
  have v1:=Ts h0 (A:Int)
  have v2:=Ts (l:=out.set k (A:Int)) (k:=k+1) (by rw [nS];exact h1) (B:Int)
  rw [List.getElem_set_ne (by omega),hz1.1] at v2
  rw [Int.toNat_natCast] at v1 v2
  rw [Int.toNat_zero,Nat.mul_zero,Nat.add_zero] at v2
  rw [q4,Y7]
  rw [Nat.pow_succ] at v2 ⊢
  have key:A+4294967296 * B=(out[k]).toNat+x.toNat * 2 ^ s:=by omega
  generalize 4294967296 ^ k=Q at *
  have key2:Q * (A+4294967296 * B)=Q * ((out[k]).toNat+x.toNat * 2 ^ s):=by rw [key]
  grind
theorem Zun {a:List Int} {s:Nat} (hs:s<32) (ha:Zn a) (hb:a.length<35184372088000):
  ∃ o,Zf6 a (s:Int)=some o∧o.length=a.length+1∧Zn o∧Zc o=2 ^ s * Zc a∧∀ h:o.length - 1<o.length,(o[o.length - 1]).toNat<2 ^ s:=by
 rw [Zf6,Z0 (by omega),Z9 (by simp only [maxLen];omega)]
 have e:Int.toNat ((a.length:Int)+1)=a.length+1:=by omega
 rw [e]
 obtain ⟨o,q1,q2,q3,q4,q5⟩:=Zum s hs a 0 (List.replicate (a.length+1) 0) ha (by rw [List.length_replicate];omega) (by rw [List.length_replicate];omega) (.zeros _) (by rw [List.drop_replicate];exact Sk _) (fun h=>by
  rw [List.getElem_replicate];exact Nat.two_pow_pos s)
 refine ⟨o,q1,by rw [q2,List.length_replicate],q3,?_,q5⟩
 rw [q4,Sk,Nat.pow_zero];omega
theorem Z2l (g:Int) (u:List Int):Zij g u=Za0 g u:=rfl
theorem Zsy (j0 n0:Nat) (v:List Int) (g:Int):∀ (l:List Int) (k:Nat) (u:List Int) (c:Int),Zcc j0 n0 v g l k u c=Tp j0 n0 v (u64.wrap (g - 1)) l k u c
 | [],k,u,c=>by rw [Zcc.eq_1,Tp.eq_1];rfl
 | x :: l,k,u,c=>by
  rw [Zcc.eq_2,Tp.eq_2]
  simp only [Zsy j0 n0 v g l]
theorem Zsx (j0 n0:Nat) (v:List Int) (g:Int):∀ (l:List Int) (k:Nat) (u:List Int) (b c:Int),S8 j0 n0 v g l k u b c=V1 j0 n0 v (u64.wrap (g - 1)) l k u b c
 | [],k,u,b,c=>by
  rw [S8.eq_1,V1.eq_1]
  simp only [Zsy,Z2l]
 | x :: l,k,u,b,c=>by
  rw [S8.eq_2,V1.eq_2]
  simp only [Zik,Zdx,Zlf,Zil,Zsx j0 n0 v g l]
theorem Zu4 {x:Int} (h:0≤x∧x<18446744073709551616):U8 .u64 x 4294967295=x % 4294967296:=by
 have e:x=(x.toNat:Int):=by omega
 rw [U8,BitVec.toNat_and,e,Zes _ _ (by simp only [IntKind.bits];omega),show (4294967295:Int)=((2 ^ 32 - 1:Nat):Int) by decide,Zes _ _ (by simp only [IntKind.bits];omega),Nat.and_two_pow_sub_one_eq_mod,IntKind.wrap_u64]
 omega
theorem Zz3 (S S' S2 Q e v x c c' L T:Nat) (h1:S'+Q * e=S+Q * v) (h2:c+(e+x)=v+4294967296 * c') (h3:S2+T=S'+Q * 4294967296 * (c'+L)):S2+T=S+Q * (c+(x+4294967296 * L)):=by
 have:Q * (c+(e+x))=Q * (v+4294967296 * c'):=by rw [h2]
 grind
theorem Zhq {l:List Int} {k j:Nat} (v:Int) (h:k<j):(l.set k v).drop j=l.drop j:=Zai v h
theorem Zs0 (j0:Nat) (v:List Int) (g:Int):∀ (l:List Int) (k:Nat) (u:List Int) (c:Int),Zn l→k+l.length=v.length→Zn u→j0+v.length<u.length→0≤c∧c≤1→
  ∃ u' co,Tp j0 (v.length+1) v g l k u c=some (u32.wrap (u64.wrap (g - 1)),u')∧u'.length=u.length∧Zn u'∧u'.take j0=u.take j0∧u'.drop (j0+v.length+1)=u.drop (j0+v.length+1)∧Zc u'+co * 4294967296 ^ (j0+v.length+1)=Zc u+4294967296 ^ (j0+k) * (c.toNat+Zc l)
 | [],k,u,c,_,hk,hu,hl,hc=>by
  have hk':k=v.length:=by simpa using hk
  subst hk'
  have g0:=hu.get hl
  rw [Tp.eq_1,Z9 (by omega),show (j0:Int)+(v.length:Int)=((j0+v.length:Nat):Int) by omega,Z5 hl,oB,Z9 (by omega),oB,oB,Int.toNat_natCast,Za0,V5 (x:=c) (by omega)]
  have hw:0≤u32.wrap (u[j0+v.length]+c)∧u32.wrap (u[j0+v.length]+c)<4294967296:=by rw [IntKind.wrap_u32];omega
  refine ⟨_,((u[j0+v.length]+c) / 4294967296).toNat,rfl,by rw [nS],hu.set _ hw,Zcr _ (by omega),Zhq _ (by omega),?_⟩
  have h1:=Ts hl (u32.wrap (u[j0+v.length]+c))
  have h2:(u[j0+v.length]).toNat+c.toNat=(u32.wrap (u[j0+v.length]+c)).toNat+4294967296 * ((u[j0+v.length]+c) / 4294967296).toNat:=by rw [IntKind.wrap_u32];omega
  rw [Nat.pow_succ,Yt]
  generalize 4294967296 ^ (j0+v.length)=Q at *
  have h3:Q * ((u[j0+v.length]).toNat+c.toNat)=Q * ((u32.wrap (u[j0+v.length]+c)).toNat+4294967296 * ((u[j0+v.length]+c) / 4294967296).toNat):=by rw [h2]
  grind
 | x :: l,k,u,c,hx,hk,hu,hl,hc=>by
  rw [nC] at hk
  have hjk:j0+k<u.length:=by omega
  have g0:=hu.get hjk
  have gx:=hx.head
  rw [Tp.eq_2,Z9 (by omega),show (j0:Int)+(k:Int)=((j0+k:Nat):Int) by omega,Z5 hjk,oB,Z9 (by omega),oB,oB,Int.toNat_natCast,Xj (x:=u[j0+k]) (by omega),Xj (x:=x) (by omega),Xj (x:=u[j0+k]+x) (by omega),Xj (by omega),Zek]
  generalize hs:c+(u[j0+k]+x)=s
  have hw:0≤u32.wrap s∧u32.wrap s<4294967296:=by rw [IntKind.wrap_u32];omega
  obtain ⟨u',co,q1,q2,q3,q4,q5,q6⟩:=Zs0 j0 v g l (k+1) (u.set (j0+k) (u32.wrap s)) (s / 4294967296) hx.tail (by omega) (hu.set _ hw) (by rw [nS];exact hl) (by omega)
  refine ⟨u',co,q1,by rw [q2,nS],q3,by rw [q4,Zcr _ (by omega)],by rw [q5,Zhq _ (by omega)],?_⟩
  rw [Y7]
  rw [← Nat.add_assoc j0 k 1,Nat.pow_succ] at q6
  exact Zz3 _ _ _ _ _ _ _ _ _ _ _ (Ts hjk _) (by rw [IntKind.wrap_u32];omega) q6
theorem Z4z (S S' S2 Q e w x g b b' c c' t L T:Nat) (h1:S'+Q * e=S+Q * w) (h2:c+g * x=t+4294967296 * c') (h3:e+4294967296 * b'=t+b+w) (h4:S2+Q * 4294967296 * (c'+b'+g * L)=S'+T):S2+Q * (c+b+g * (x+4294967296 * L))=S+T:=by
 have e1:Q * (c+g * x)=Q * (t+4294967296 * c'):=by rw [h2]
 have e2:Q * (e+4294967296 * b')=Q * (t+b+w):=by rw [h3]
 grind
theorem Zsz (j0:Nat) (v:List Int) (g:Int) (hg:0≤g∧g<4294967296):∀ (l:List Int) (k:Nat) (u:List Int) (b c:Int),Zn l→k+l.length=v.length→Zn u→j0+v.length<u.length→0≤b∧b≤1→0≤c∧c<4294967296→
  ∃ u' over,over≤1∧V1 j0 (v.length+1) v g l k u b c=(if over=1 then Tp j0 (v.length+1) v g v 0 u' 0 else Za0 g u')∧u'.length=u.length∧Zn u'∧u'.take j0=u.take j0∧u'.drop (j0+v.length+1)=u.drop (j0+v.length+1)∧
   Zc u'+4294967296 ^ (j0+k) * (c.toNat+b.toNat+g.toNat * Zc l)=Zc u+over * 4294967296 ^ (j0+v.length+1)
 | [],k,u,b,c,_,hk,hu,hl,hb,hc=>by
  have hk':k=v.length:=by simpa using hk
  subst hk'
  have g0:=hu.get hl
  rw [V1.eq_1,Z9 (by omega),show (j0:Int)+(v.length:Int)=((j0+v.length:Nat):Int) by omega,Z5 hl,oB,Z9 (by omega),oB,Z9 (by omega),oB,oB,Int.toNat_natCast,Xj (x:=c+b) (by omega),Xj (x:=u[j0+v.length]) (by omega)]
  have hw:0≤u32.wrap (u[j0+v.length] - u32.wrap (c+b))∧u32.wrap (u[j0+v.length] - u32.wrap (c+b))<4294967296:=by rw [IntKind.wrap_u32];omega
  have h1:=Ts hl (u32.wrap (u[j0+v.length] - u32.wrap (c+b)))
  have fin:∀ over:Nat,(u[j0+v.length]).toNat+4294967296 * over=c.toNat+b.toNat+(u32.wrap (u[j0+v.length] - u32.wrap (c+b))).toNat→Zc (u.set (j0+v.length) (u32.wrap (u[j0+v.length] - u32.wrap (c+b))))+4294967296 ^ (j0+v.length) * (c.toNat+b.toNat+g.toNat * Zc [])=Zc u+over * 4294967296 ^ (j0+v.length+1):=fun over h2=>by
   rw [Nat.pow_succ,Yt]
   generalize 4294967296 ^ (j0+v.length)=Q at *
   have h3:Q * ((u[j0+v.length]).toNat+4294967296 * over)=Q * (c.toNat+b.toNat+(u32.wrap (u[j0+v.length] - u32.wrap (c+b))).toNat):=by rw [h2]
   grind
  by_cases hlt:u[j0+v.length]<c+b
  ·refine ⟨_,1,Nat.le_refl _,by rw [if_pos (by simpa using hlt),if_pos rfl],by rw [nS],hu.set _ hw,Zcr _ (by omega),Zhq _ (by omega),fin 1 (by rw [IntKind.wrap_u32,IntKind.wrap_u32];omega)⟩
  ·refine ⟨_,0,by decide,by rw [if_neg (by simpa using hlt),if_neg (by decide)],by rw [nS],hu.set _ hw,Zcr _ (by omega),Zhq _ (by omega),fin 0 (by rw [IntKind.wrap_u32,IntKind.wrap_u32];omega)⟩
 | x :: l,k,u,b,c,hx,hk,hu,hl,hb,hc=>by
  rw [nC] at hk
  have hjk:j0+k<u.length:=by omega
  have g0:=hu.get hjk
  have gx:=hx.head
  have hm:g * x≤4294967295 * 4294967295:=Int.mul_le_mul (by omega) (by omega) (by omega) (by omega)
  have hm0:0≤g * x:=Int.mul_nonneg hg.1 gx.1
  have hgx:((g.toNat * x.toNat:Nat):Int)=g * x:=by rw [Int.natCast_mul,Int.toNat_of_nonneg hg.1,Int.toNat_of_nonneg gx.1]
  rw [V1.eq_2,Z9 (by omega),show (j0:Int)+(k:Int)=((j0+k:Nat):Int) by omega,Z5 hjk,oB,Xj (x:=u[j0+k]) (by omega),Xj (x:=x) (by omega),Xj (x:=g * x) (by omega),Xj (x:=c+g * x) (by omega),Zu4 (by omega)]
  generalize ht0:c+g * x=t0
  rw [Xj (x:=t0 % 4294967296+b) (by omega)]
  have fin:∀ b':Int,0≤b'∧b'≤1→u[j0+k]+4294967296 * b'=t0 % 4294967296+b+u32.wrap (u[j0+k] - u32.wrap (t0 % 4294967296+b))→
    ∃ u' over,over≤1∧Zdx j0 (v.length+1) g u b k c (V1 j0 (v.length+1) v g l) x b'=(if over=1 then Tp j0 (v.length+1) v g v 0 u' 0 else Za0 g u')∧u'.length=u.length∧Zn u'∧u'.take j0=u.take j0∧u'.drop (j0+v.length+1)=u.drop (j0+v.length+1)∧
     Zc u'+4294967296 ^ (j0+k) * (c.toNat+b.toNat+g.toNat * Zc (x :: l))=Zc u+over * 4294967296 ^ (j0+v.length+1):=fun b' hb' h3=>by
   have hw:0≤u32.wrap (u[j0+k] - u32.wrap (t0 % 4294967296+b))∧u32.wrap (u[j0+k] - u32.wrap (t0 % 4294967296+b))<4294967296:=by rw [IntKind.wrap_u32];omega
   obtain ⟨u',over,q0,q1,q2,q3,q4,q5,q6⟩:=Zsz j0 v g hg l (k+1) (u.set (j0+k) (u32.wrap (u[j0+k] - u32.wrap (t0 % 4294967296+b)))) b' (t0 / 4294967296) hx.tail (by omega) (hu.set _ hw) (by rw [nS];exact hl) hb' (by omega)
   refine ⟨u',over,q0,?_,by rw [q2,nS],q3,by rw [q4,Zcr _ (by omega)],by rw [q5,Zhq _ (by omega)],?_⟩
   ·rw [Zdx,Z9 (by omega),show (j0:Int)+(k:Int)=((j0+k:Nat):Int) by omega,Z5 hjk,oB,Z9 (by omega),oB,oB,Int.toNat_natCast,Xj (x:=x) (by omega),Xj (x:=g * x) (by omega),Xj (x:=c+g * x) (by omega),Zu4 (by omega),ht0,Xj (x:=t0 % 4294967296+b) (by omega),Zek,Zil]
    exact q1
   ·rw [Y7]
    rw [← Nat.add_assoc j0 k 1,Nat.pow_succ] at q6
    exact Z4z _ _ _ _ _ _ _ _ _ _ _ _ (t0 % 4294967296).toNat _ _ (Ts hjk _) (by omega) (by omega) q6
  by_cases hlt:u[j0+k]<t0 % 4294967296+b
  ·rw [if_pos (by simpa using hlt)]
   exact fin 1 (by omega) (by rw [IntKind.wrap_u32,IntKind.wrap_u32];omega)
  ·rw [if_neg (by simpa using hlt)]
   exact fin 0 (by omega) (by rw [IntKind.wrap_u32,IntKind.wrap_u32];omega)
structure Zhd (U V E v1 v2 u2 top lU lV:Nat):Prop where
 hU:U=lU+E * (u2+4294967296 * top)
 hV:V=lV+E * (v2+4294967296 * v1)
 lu:lU<E
 lv:lV<E
 b2:u2<4294967296
 c2:v2<4294967296
 c1:v1<4294967296
 big:2147483648≤v1
 lt:U<4294967296 * V
namespace Zhd
variable {U V E v1 v2 u2 top lU lV:Nat} (t:Zhd U V E v1 v2 u2 top lU lV)
include t
theorem Vpos:0<V:=by
 have:=t.lt
 have:=t.lu
 omega
theorem uE:U<E * 4294967296 * (top+1):=by
 have h1:E * (u2+1)≤E * 4294967296:=Nat.mul_le_mul_left _ t.b2
 have h2:=t.hU;have:=t.lu
 have e:E * (u2+4294967296 * top)=E * u2+E * 4294967296 * top:=by grind
 rw [e] at h2
 rw [Nat.mul_add] at h1 ⊢
 omega
theorem Eu:E * 4294967296 * top≤U:=by
 have h2:=t.hU
 have e:E * (u2+4294967296 * top)=E * u2+E * 4294967296 * top:=by grind
 omega
theorem vE:V<E * 4294967296 * (v1+1):=by
 have h1:E * (v2+1)≤E * 4294967296:=Nat.mul_le_mul_left _ t.c2
 have h2:=t.hV;have:=t.lv
 have e:E * (v2+4294967296 * v1)=E * v2+E * 4294967296 * v1:=by grind
 rw [Nat.mul_add] at h1 ⊢
 omega
theorem Ev:E * 4294967296 * v1≤V:=by
 have h2:=t.hV
 have e:E * (v2+4294967296 * v1)=E * v2+E * 4294967296 * v1:=by grind
 omega
theorem Epos:0<E:=by have:=t.lu;omega
theorem first:U / V≤top / v1:=by
 have hv:0<v1:=by have:=t.big;omega
 rw [Nat.le_div_iff_mul_le hv]
 have h1:U / V * V≤U:=Nat.div_mul_le_self U V
 have h2:U / V * (E * 4294967296 * v1)≤U / V * V:=Nat.mul_le_mul_left _ t.Ev
 have h3:E * 4294967296 * (U / V * v1)<E * 4294967296 * (top+1):=by
  have e:E * 4294967296 * (U / V * v1)=U / V * (E * 4294967296 * v1):=by
   generalize U / V=q
   grind
  rw [e]
  have:=t.uE
  omega
 have:=Nat.lt_of_mul_lt_mul_left h3
 omega
theorem quo:U / V<4294967296:=(Nat.div_lt_iff_lt_mul t.Vpos).2 t.lt
theorem great {g r:Nat} (h:g * v1+r=top) (h2:r * 4294967296+u2<g * v2):U / V<g:=by
 rw [Nat.div_lt_iff_lt_mul t.Vpos]
 have h3:u2+4294967296 * top+1≤g * (v2+4294967296 * v1):=by
  have:4294967296 * (g * v1+r)=4294967296 * top:=by rw [h]
  have e:g * (v2+4294967296 * v1)=g * v2+4294967296 * (g * v1):=by grind
  rw [e];omega
 have h4:=Nat.mul_le_mul_left E h3
 have h5:E * (g * (v2+4294967296 * v1))≤g * V:=by
  have:=t.hV
  have e:g * V=g * lV+E * (g * (v2+4294967296 * v1)):=by rw [this];grind
  omega
 have:=t.hU;have:=t.lu
 rw [Nat.mul_add] at h4
 omega
theorem fine {g r:Nat} (hg:g<4294967296) (h:g * v1+r=top) (h2:g * v2≤r * 4294967296+u2):g * V<U+V:=by
 have h3:g * (v2+4294967296 * v1)≤u2+4294967296 * top:=by
  have:4294967296 * (g * v1+r)=4294967296 * top:=by rw [h]
  have e:g * (v2+4294967296 * v1)=g * v2+4294967296 * (g * v1):=by grind
  rw [e];omega
 have h4:=Nat.mul_le_mul_left E h3
 have e:g * V=g * lV+E * (g * (v2+4294967296 * v1)):=by rw [t.hV];grind
 have h5:g * lV≤4294967295 * E:=Nat.mul_le_mul (by omega) (by have:=t.lv;omega)
 have h6:E * 4294967296 * 1≤E * 4294967296 * v1:=Nat.mul_le_mul_left _ (by have:=t.big;omega)
 have:=t.Ev;have:=t.hU;have:=t.Epos
 omega
theorem topv:top / 4294967296≤v1:=by
 have h1:=t.Eu
 have h2:=t.lt
 have h3:=t.vE
 have h4:E * 4294967296 * top<E * 4294967296 * (4294967296 * (v1+1)):=by
  have:E * 4294967296 * (4294967296 * (v1+1))=4294967296 * (E * 4294967296 * (v1+1)):=by grind
  omega
 have:=Nat.lt_of_mul_lt_mul_left h4
 omega
theorem over {g r:Nat} (h:g * v1+r=top) (hr:4294967296≤r):g<4294967296:=by
 have h1:=t.topv
 have h2:g * v1<4294967296 * v1:=by omega
 exact Nat.lt_of_mul_lt_mul_right h2
theorem stop {g r:Nat} (h:g * v1+r=top) (hr:4294967296≤r):g * V<U+V:=by
 have hg:=t.over h hr
 have h1:=t.vE
 have h2:g * V≤g * (E * 4294967296 * (v1+1)):=Nat.mul_le_mul_left _ (Nat.le_of_lt h1)
 have e:g * (E * 4294967296 * (v1+1))=E * 4294967296 * (g * v1+g):=by grind
 have h3:E * 4294967296 * (g * v1+g)≤E * 4294967296 * top:=Nat.mul_le_mul_left _ (by omega)
 have:=t.Eu;have:=t.Vpos
 omega
end Zhd
def Zrh (X:Option Ra) (R:Nat→Option Ra) (q U V:Nat):Prop:=∃ g:Nat,X=R g∧q≤g∧g<4294967296∧g * V<U+V
theorem Zsw (N j0:Nat) (u v:List Int) (hu:Zn u) (hv:Zn v) (hn:2≤v.length) (hl:j0+v.length<u.length) (hs:v.length<4611686018427387904) {U V E lU lV top q:Nat} (hq:U / V=q)
  (t:Zhd U V E (v[v.length - 1]).toNat (v[v.length - 2]).toNat (u[j0+v.length - 2]).toNat top lU lV) (htop:top<18446744073709551616):
  ∀ (n g r:Nat),g * (v[v.length - 1]).toNat+r=top→q≤g→r<4294967296→4294967296≤r+2147483648 * n→
  Zrh (Se N j0 (v.length+1) u v n (g:Int) (r:Int)) (fun g'=>V1 j0 (v.length+1) v (g':Int) v 0 u 0 0) q U V
 | 0,g,r,_,_,h3,h4=>by omega
 | n+1,g,r,h1,h2,h3,h4=>by
  have i1:v.length - 1<v.length:=by omega
  have i2:v.length - 2<v.length:=by omega
  have i3:j0+v.length - 2<u.length:=by omega
  have c1:=hv.get i1
  have c2:=hv.get i2
  have c3:=hu.get i3
  have hbig:=t.big
  have hgb:g≤top:=by
   have:g * 1≤g * (v[v.length - 1]).toNat:=Nat.mul_le_mul_left _ (by omega)
   omega
  -- one less
  have less:q<g→Zrh (Zii j0 (v.length+1) u v (g:Int) (r:Int) (Se N j0 (v.length+1) u v n)) (fun g'=>V1 j0 (v.length+1) v (g':Int) v 0 u 0 0) q U V:=fun hlt=>by
   have hg1:(g - 1) * (v[v.length - 1]).toNat+(r+(v[v.length - 1]).toNat)=top:=by
    have:(g - 1+1) * (v[v.length - 1]).toNat+r=top:=by rw [show g - 1+1=g by omega];exact h1
    rw [Nat.add_mul] at this
    omega
   have ew:u64.wrap ((g:Int) - 1)=((g - 1:Nat):Int):=by rw [Xj (by omega)];omega
   have er:u64.wrap ((r:Int)+u64.wrap v[v.length - 1])=((r+(v[v.length - 1]).toNat:Nat):Int):=by rw [Xj (x:=v[v.length - 1]) (by omega),Xj (by omega)];omega
   rw [Zii,Z0 (by omega),show (v.length:Int) - 1=((v.length - 1:Nat):Int) by omega,Z5 i1,oB,er,ew]
   by_cases hb:4294967296≤r+(v[v.length - 1]).toNat
   ·rw [if_pos (dT (by omega)),Zsx,ew]
    exact ⟨g - 1,rfl,by omega,t.over hg1 hb,t.stop hg1 hb⟩
   ·rw [if_neg (dF (by omega))]
    exact Zsw N j0 u v hu hv hn hl hs hq t htop n (g - 1) (r+(v[v.length - 1]).toNat) hg1 (by omega) (by omega) (by omega)
  have hquo:=t.quo
  rw [hq] at hquo
  rw [Se.eq_2]
  by_cases hgb2:4294967295<g
  ·rw [if_pos (dT (by omega)),Zdw,if_pos rfl]
   exact less (by omega)
  ·have hm:g * (v[v.length - 2]).toNat≤4294967295 * 4294967295:=Nat.mul_le_mul (by omega) (by omega)
   have em:(g:Int) * v[v.length - 2]=((g * (v[v.length - 2]).toNat:Nat):Int):=by
    rw [Int.natCast_mul];congr 1;omega
   rw [if_neg (dF (by omega)),if_pos (dT (by omega)),Z0 (by omega),show (v.length:Int) - 2=((v.length - 2:Nat):Int) by omega,Z5 i2,oB,Z9 (by omega),show (j0:Int)+((v.length - 2:Nat):Int)=((j0+v.length - 2:Nat):Int) by omega,Z5 i3,oB,Zdw,
    Xj (x:=u[j0+v.length - 2]) (by omega),Znf (by omega) (by omega),Xj (x:=v[v.length - 2]) (by omega),em,Xj (by omega)]
   by_cases hc:r * 4294967296+(u[j0+v.length - 2]).toNat<g * (v[v.length - 2]).toNat
   ·rw [if_pos (dT (by omega))]
    exact less (by rw [← hq];exact t.great h1 hc)
   ·rw [if_neg (dF (by omega))]
    exact ⟨g,rfl,h2,by omega,t.fine (by omega) h1 (by omega)⟩
theorem Zoc {u w:List Int} {j0 n P:Nat} (hP:4294967296 ^ (n+1)=P) (hl:j0+n<u.length) (hz:Zc (u.drop (j0+n+1))=0) (h1:w.length=u.length) (h2:Zn w) (h3:w.drop (j0+n+1)=u.drop (j0+n+1)):Zc (w.drop j0)<P:=by
 have:=Sj ((h2.drop j0).take (n+1))
 rw [nK,List.length_drop,Nat.min_eq_left (by omega),hP] at this
 have e:=Uv (w.drop j0) (n+1)
 rw [hP,List.drop_drop,← Nat.add_assoc,h3,hz] at e
 omega
theorem Zs1 {u w:List Int} {j0 n P Q x y:Nat} (hP:4294967296 ^ (n+1)=P) (hQ:4294967296 ^ j0=Q) (h4:w.take j0=u.take j0) (h:Zc w+Q * x=Zc u+y * 4294967296 ^ (j0+n+1)):Zc (w.drop j0)+x=Zc (u.drop j0)+y * P:=by
 have pw:(4294967296:Nat) ^ (j0+n+1)=Q * P:=by rw [← hQ,← hP,← Nat.pow_add,Nat.add_assoc]
 have hp:0<Q:=by rw [← hQ];exact Nat.pow_pos (by decide)
 have s0:=Uv u j0
 have s1:=Uv w j0
 rw [h4] at s1
 rw [hQ] at s0 s1
 rw [pw,s0,s1] at h
 clear pw hP hQ s0 s1 h4
 refine Nat.eq_of_mul_eq_mul_left hp ?_
 grind
theorem Z2m {U V P q g over P1:Nat} (hq:U / V=q) (hV:0<V) (hg1:q≤g) (hg3:g * V<U+V) (k1:P1+g * V=U+over * P) (p1:P1<P):
  (over=0→g=q∧P1=U % V)∧(over=1→g=q+1∧∀ P2 co,V<P→P2<P→P2+co * P=P1+V→P2=U % V):=by
 have hq0:V * q+U % V=U:=by rw [← hq];exact Nat.div_add_mod _ _
 have hq1:=Nat.mod_lt U hV
 have hmono:∀ x y:Nat,x<y→x * V+V≤y * V:=fun x y hxy=>by
  have:=Nat.mul_le_mul_right V (show x+1≤y from hxy)
  rw [Nat.add_mul,Nat.one_mul] at this;exact this
 rw [Nat.mul_comm] at hq0
 constructor
 ·intro ho
  subst ho
  have hgq:g=q:=by
   have a2:¬ q<g:=fun h=>by
    have:=hmono _ _ h
    omega
   omega
  subst hgq
  exact ⟨rfl,by omega⟩
 ·intro ho
  subst ho
  have hgq:g=q+1:=by
   have a1:¬ g≤q:=fun h=>by
    have:=Nat.mul_le_mul_right V h
    omega
   have a2:¬ q+1<g:=fun h=>by
    have:=hmono _ _ h
    rw [Nat.add_mul,Nat.one_mul] at this
    omega
   omega
  refine ⟨hgq,fun P2 co hvP p2 k2=>?_⟩
  have hgv:g * V=q * V+V:=by rw [hgq,Nat.add_mul,Nat.one_mul]
  have hco:co=1:=by
   rcases Nat.lt_trichotomy co 1 with h | h | h
   ·have:co=0:=by omega
    subst this;omega
   ·exact h
   ·have:=Nat.mul_le_mul_right P (show 2≤co from h)
    omega
  subst hco
  omega
theorem Z2n {N j0:Nat} {u v:List Int} (hN:2≤N) (hu:Zn u) (hv:Zn v) (hn:2≤v.length) (hl:j0+v.length<u.length) (hs:u.length<4611686018427387904)
  (hz:Zc (u.drop (j0+v.length+1))=0) (hbig:2147483648≤(v[v.length - 1]).toNat) (hlt:Zc (u.drop j0)<4294967296 * Zc v):
  ∃ u',Zf5 N j0 (v.length+1) u v=some (((Zc (u.drop j0) / Zc v:Nat):Int),u')∧u'.length=u.length∧Zn u'∧u'.take j0=u.take j0∧Zc (u'.drop j0)=Zc (u.drop j0) % Zc v∧Zc (u.drop j0) / Zc v<4294967296:=by
 have i1:v.length - 1<v.length:=by omega
 have i2:v.length - 2<v.length:=by omega
 have i3:j0+v.length - 2<u.length:=by omega
 have i4:j0+v.length - 1<u.length:=by omega
 have c1:=hv.get i1
 have c2:=hv.get i2
 have c3:=hu.get i3
 have c4:=hu.get i4
 have c5:=hu.get hl
 -- the Zg above
 have dV:Zc v=Zc (v.take (v.length - 2))+4294967296 ^ (v.length - 2) * ((v[v.length - 2]).toNat+4294967296 * (v[v.length - 1]).toNat):=by
  rw [Uv v (v.length - 2),Ub i2,show v.length - 2+1=v.length - 1 by omega,Ub i1,show v.length - 1+1=v.length by omega,List.drop_length,Yt];simp
 have dU:Zc (u.drop j0)=Zc ((u.drop j0).take (v.length - 2))+4294967296 ^ (v.length - 2) * ((u[j0+v.length - 2]).toNat+4294967296 * ((u[j0+v.length]).toNat * 4294967296+(u[j0+v.length - 1]).toNat)):=by
  have e3:j0+(v.length - 2)=j0+v.length - 2:=by omega
  rw [Uv (u.drop j0) (v.length - 2),List.drop_drop,e3,Ub i3,show j0+v.length - 2+1=j0+v.length - 1 by omega,Ub i4,show j0+v.length - 1+1=j0+v.length by omega,Ub hl,hz]
  congr 3
  omega
 have lV:=Sj (hv.take (v.length - 2))
 have lU:=Sj ((hu.drop j0).take (v.length - 2))
 rw [nK,Nat.min_eq_left (by omega)] at lV
 rw [nK,List.length_drop,Nat.min_eq_left (by omega)] at lU
 have t:Zhd (Zc (u.drop j0)) (Zc v) (4294967296 ^ (v.length - 2)) (v[v.length - 1]).toNat (v[v.length - 2]).toNat (u[j0+v.length - 2]).toNat ((u[j0+v.length]).toNat * 4294967296+(u[j0+v.length - 1]).toNat) _ _:=
  ⟨dU,dV,lU,lV,by omega,by omega,by omega,hbig,hlt⟩
 have hV:=t.Vpos
 have htop:(u[j0+v.length]).toNat * 4294967296+(u[j0+v.length - 1]).toNat<18446744073709551616:=by omega
 obtain ⟨q,hq⟩:∃ q,Zc (u.drop j0) / Zc v=q:=⟨_,rfl⟩
 obtain ⟨g,hg0,hg1,hg2,hg3⟩:=Zsw N j0 u v hu hv hn hl (by omega) hq t htop N _ _ (Nat.div_add_mod' _ _) (by rw [← hq];exact t.first) (Nat.lt_of_lt_of_le (Nat.mod_lt _ (by omega)) (by omega)) (by omega)
 have e0:Zf5 N j0 (v.length+1) u v=V1 j0 (v.length+1) v (g:Int) v 0 u 0 0:=by
  refine Eq.trans ?_ hg0
  rw [Zf5,Z9 (by omega),show (j0:Int)+(v.length:Int)=((j0+v.length:Nat):Int) by omega,Z5 hl,oB,Z0 (by omega),show (v.length:Int) - 1=((v.length - 1:Nat):Int) by omega,Z9 (by omega),
   show (j0:Int)+((v.length - 1:Nat):Int)=((j0+v.length - 1:Nat):Int) by omega,Z5 i4,oB,Z5 i1,oB,Xj (x:=v[v.length - 1]) (by omega),Z9 (by omega),Z9 (by omega),Xj (x:=u[j0+v.length]) (by omega),Xj (x:=u[j0+v.length - 1]) (by omega),Znf (by omega) (by omega)]
  have ev:v[v.length - 1]=((v[v.length - 1]).toNat:Int):=by omega
  have et:u[j0+v.length] * 4294967296+u[j0+v.length - 1]=(((u[j0+v.length]).toNat * 4294967296+(u[j0+v.length - 1]).toNat:Nat):Int):=by omega
  rw [et,ev,Int.tdiv_eq_ediv_of_nonneg (by omega),Int.tmod_eq_emod_of_nonneg (by omega),← Int.natCast_ediv,← Int.natCast_emod,Int.toNat_natCast]
  rw [Xj ⟨Int.natCast_nonneg _,Int.ofNat_lt.2 (Nat.lt_of_le_of_lt (Nat.div_le_self _ _) htop)⟩]
 obtain ⟨u1,over,q0,q1,q2,q3,q4,q5,q6⟩:=Zsz j0 v (g:Int) (by omega) v 0 u 0 0 hv (by omega) hu hl (by omega) (by omega)
 have hquo:=t.quo
 rw [hq] at hquo ⊢
 rw [e0,q1]
 obtain ⟨P,hP⟩:∃ P:Nat,4294967296 ^ (v.length+1)=P:=⟨_,rfl⟩
 obtain ⟨Q,hQ⟩:∃ Q:Nat,4294967296 ^ j0=Q:=⟨_,rfl⟩
 simp only [Nat.add_zero,Int.toNat_zero,Int.toNat_natCast,Nat.zero_add] at q6
 rw [hQ] at q6
 have k1:=Zs1 hP hQ q4 q6
 have p1:=Zoc hP hl hz q2 q3 q5
 have hvP:Zc v<P:=by
  have:=Sj hv
  have h2:=Zoc (u:=v++[0]) (w:=v++[0]) (j0:=0) (n:=v.length) hP (by simp) (by simp [Zc]) rfl (hv.app (.cons (by decide) .nil)) rfl
  rw [List.drop_zero,Zvq] at h2
  exact h2
 have k3:=Z2m hq hV hg1 hg3 k1 p1
 by_cases ho:over=1
 ·obtain ⟨e1,e2⟩:=k3.2 ho
  subst ho
  rw [if_pos rfl]
  obtain ⟨u2,co,r1,r2,r3,r4,r5,r6⟩:=Zs0 j0 v (g:Int) v 0 u1 0 hv (by omega) q3 (by omega) (by omega)
  have p2:=Zoc hP hl hz (by omega) r3 (by rw [r5,q5])
  simp only [Nat.add_zero,Int.toNat_zero,Nat.zero_add] at r6
  rw [hQ] at r6
  have k2:=Zs1 (u:=u2) (w:=u1) (x:=Zc v) (y:=co) hP hQ (by rw [r4]) r6.symm
  refine ⟨u2,?_,by omega,r3,by rw [r4,q4],e2 _ co hvP p2 k2.symm,hquo⟩
  rw [r1,Xj (by omega),V5 (by omega)]
  congr 2;omega
 ·obtain ⟨e1,e2⟩:=k3.1 (by omega)
  rw [if_neg ho,Za0,V5 (by omega)]
  exact ⟨u1,by rw [e1],q2,q3,q4,e2,hquo⟩
def Zca (N:Nat):Nat→R5→R5→Option R5
  | 0,_,_=>none
  | ac+1,ab,aa=>if (decide (0<(aa.length:Int)))=true then ((Zdt N ab aa).bind fun ad=>(Zca N ac) aa ad.2.1) else (some ab)
termination_by structural x=>x
def Zih (N:Nat) (aa:List Int) (ab:List Int):Option R5:=
  (Uf N aa).bind fun ac=>(Uf N ab).bind fun ad=>Zca N N ac ad
theorem Z01 {N ar au:Nat} {a0 a1:Option Addr} {col:Ze} {w0:World} {ak al r:R5} (c1:Nat) (hm:Zih N ak al=some r) (h0:Sl (Za.int .u32) col w0 a0 ar ak) (h1:Sl (Za.int .u32) col w0 a1 au al):
    Calls prog 151 #[.slice a0 ak.length ar,.slice a1 al.length au] w0 (fun e w'=>∃ (col':Ze) (ra1:Option Addr) (rc2:Nat),e= .returned ((.slice ra1 r.length rc2))∧Zh col w0 col' w'∧Zb (Za.int .u32) 95 c1 col' w' ra1 rc2 r):=by
 refine Xf 4 (m:=25) func151 rfl rfl rfl rfl rfl ?_;rw [Zih.eq_1] at hm;have aa:=St.start col w0;refine go ?_;obtain ⟨a9,a3,hm⟩:=bZ hm;replace h0:=h0.keep (Zi.start col w0);refine Zk (T4 1 a3 (h0.ks aa)) ?_;rintro _ ba ⟨bb,bc,bd,rfl,a4,am⟩;refine ⟨_,rfl,?_⟩;refine Yk rfl ?_;obtain ⟨be,a5,hm⟩:=bZ hm;replace h1:=h1.keep (Zi.start col w0);replace aa:=aa.grow a4;refine Zk (T4 2 a5 (h1.ks aa)) ?_;rintro _ bf ⟨bg,bh,bi,rfl,av,a6⟩;refine ⟨_,rfl,go ?_⟩;replace am:=am.gr av;replace aa:=aa.grow av;refine Zu [1000000] (fun n f ag=>∃ ac an ao ai ap aq aj ae,ae=n∧Zca N ae ai aj=some r∧St w0 (Zj col) ac ag∧Zb (Za.int .u32) 95 1 ac ag an ao ai∧Zb (Za.int .u32) 95 2 ac ag ap aq aj∧[0,1].map f=[.slice an ai.length ao,.slice ap aj.length aq]) N ⟨_,_,_,_,_,_,_,_,rfl,hm,aa,am,a6,rfl⟩ ?_;clear hm;intro n f ag hI;obtain ⟨ac,an,ao,ai,ap,aq,aj,ae,hn,hm,aa,aw,ab,hs⟩:=hI;subst hn;refine .lL [0,1] hs ?_
 cases ae with
 | zero=>rw [Zca.eq_1] at hm;cases hm
 | succ ae=>
  rw [Zca.eq_2] at hm;refine go ?_;refine Zo hm (fun hb hm=>go ?_) fun hb hm=>go ?_
  ·obtain ⟨af,a7,hm⟩:=bZ hm;refine Zk (Zn3 3 4 a7 ((aw.toSlF (Zd.int .u32)).froz 2) ((ab.froz 1 (by decide)).toSlF (Zd.int .u32))) ?_;rintro _ bj ⟨a8,ax,ay,az,a2,rfl,ah,bk,ad⟩;refine ⟨_,rfl,?_⟩;replace ad:=ad.thaw (Z1 .u32) ah (((Fz.refl (col:=ac)).froz 1).froz 2) (by decide);replace ah:=ah.thawR (col:=ac);generalize Xe ag.heap.size ac a8=bm at *;refine lM (.tuple #[.slice ax af.1.length ay,.slice az af.2.1.length a2,.int .i64 af.2.2])<|lV (.slice ax af.1.length ay) (Xk rfl rfl)<|lV (.slice az af.2.1.length a2) (Xk rfl rfl)<|lV (.int .i64 af.2.2) (Xk rfl rfl)<|go ?_;replace ab:=ab.gr ah;replace ab:=ab.recolSelf 1 (by decide);replace ad:=ad.recol 2 1 (by decide);replace aa:=aa.grow ah;replace aa:=aa.recol 2 1 (by decide) (by decide);replace ab:=ab.recol 4 2 (by decide);replace ad:=ad.recolSelf 2 (by decide);replace aa:=aa.recol 4 2 (by decide) (by decide);exact ⟨ae,by omega,rfl,⟨_,_,_,_,_,_,_,_,rfl,hm,aa,ab,ad,rfl⟩⟩
  cases hm;exact ⟨rfl,_,_,_,rfl,aa.fin (cm [(1,c1)]),aa.fo aw⟩
theorem Zzc (N:Nat):∀ (n:Nat) (a:List Int),Za2 N n a=Tr N n a
 | 0,a=>rfl
 | n+1,a=>by
  rw [Za2.eq_2,Tr.eq_2]
  simp only [Zin,Za1,Zzc N n]
theorem Zzd {N:Nat} {a:List Int} (h:Zn a) (hn:a.length<N) (hb:a.length≤35184372088000):Zdz N a=some (Zg (Zc a)):=by
 rw [Zdz,Zzc];exact Zne N N a h hn (by omega)
theorem Z6c {x L nx s:Nat} (hs:s<32) (hx:x<4294967296) (hn:nx=L % 4294967296):(x+4294967296 * L) / 2 ^ s=(x+4294967296 * nx) / 2 ^ s % 4294967296+4294967296 * (L / 2 ^ s):=by
 have pw:(2:Nat) ^ s * 2 ^ (32 - s)=4294967296:=by rw [← Nat.pow_add,show s+(32 - s)=32 by omega]
 have hp:=Nat.two_pow_pos s
 generalize 2 ^ s=p at *
 generalize 2 ^ (32 - s)=r at *
 have h1:(x+4294967296 * L) / p / 4294967296=L / p:=by
  rw [Nat.div_div_eq_div_mul,Nat.mul_comm p,← Nat.div_div_eq_div_mul]
  congr 1
  omega
 have h2:(x+4294967296 * L) / p % 4294967296=(x+4294967296 * nx) / p % 4294967296:=by
  have e:x+4294967296 * L=x+4294967296 * nx+p * (4294967296 * (r * (L / 4294967296))):=by
   have e1:L=nx+4294967296 * (L / 4294967296):=by omega
   have e2:p * (4294967296 * (r * (L / 4294967296)))=4294967296 * (p * r) * (L / 4294967296):=by grind
   rw [e2,pw]
   omega
  rw [e,Nat.add_mul_div_left _ _ hp,Nat.add_mul_mod_self_left]
 rw [← h1,← h2]
 omega
theorem Zs3 (N s:Nat) (hs:s<32) (q r:List Int) (hq:Zn q) (hr:Zn r) (hN:q.length<N∧r.length<N) (hb:q.length≤35184372088000∧r.length≤35184372088000):∀ (n i:Nat) (u d:List Int),i≤r.length→r.length<n+i→u=d++r.drop i→d.length=i→Zn d→Zc d+4294967296 ^ i * (Zc (r.drop i) / 2 ^ s)=Zc r / 2 ^ s→
  Sd N (s:Int) q r n u (i:Int)=some (Zg (Zc q),Zg (Zc r / 2 ^ s),0)
 | 0,i,u,d,h1,h2,_,_,_,_=>by omega
 | n+1,i,u,d,h1,h2,hu,hd,hld,hv=>by
  have hul:u.length=r.length:=by rw [hu,nA,List.length_drop];omega
  rw [Sd.eq_2]
  by_cases hi:i<r.length
  ·have hdr:=List.drop_eq_getElem_cons hi
   have g:=hr.get hi
   have ui:u[i]'(by omega)=r[i]:=by
    subst hu
    rw [List.getElem_append_right (by omega)]
    simp [hd]
   have step:∀ nx:Nat,nx=Zc (r.drop (i+1)) % 4294967296→Zf3 (s:Int) u (i:Int) (Sd N (s:Int) q r n) (nx:Int)=some (Zg (Zc q),Zg (Zc r / 2 ^ s),0):=fun nx hnx=>by
    have hw:u32.wrap (Yw .u64 (Y3 .u64 (X8 .u64 (u64.wrap (nx:Int)) 32) (u64.wrap r[i])) (s:Int))=(((r[i]).toNat+4294967296 * nx) / 2 ^ s % 4294967296:Nat):=by
     rw [Xj (x:=(nx:Int)) (by omega),Xj (x:=r[i]) (by omega),Znf (by omega) (by omega),show (nx:Int) * 4294967296+r[i]=(((r[i]).toNat+4294967296 * nx:Nat):Int) by omega,Zm9 _ _ _ (by simp only [IntKind.bits];omega),Zzs]
    have hset:u.set i ((((r[i]).toNat+4294967296 * nx) / 2 ^ s % 4294967296:Nat):Int)=(d++[((((r[i]).toNat+4294967296 * nx) / 2 ^ s % 4294967296:Nat):Int)])++r.drop (i+1):=by
     subst hu
     rw [hdr,List.set_append_right _ _ (by omega),hd,Nat.sub_self,List.set_cons_zero]
     simp
    rw [Zf3,Z5 (by omega),oB,Z9 (by omega),ui,hw,oB,Zle,Z0 (by omega),Int.toNat_natCast,hset]
    have ih:=Zs3 N s hs q r hq hr hN hb n (i+1) _ (d++[((((r[i]).toNat+4294967296 * nx) / 2 ^ s % 4294967296:Nat):Int)]) (by omega) (by omega) rfl (by simp [hd]) (hld.app (.cons (by omega) .nil)) (by
     rw [Si,hd,Y7,Yt,Int.toNat_natCast,← hv,hdr,Y7,Z6c hs (by omega) hnx,Nat.pow_succ]
     generalize ((r[i]).toNat+4294967296 * nx) / 2 ^ s % 4294967296=A
     generalize Zc (r.drop (i+1)) / 2 ^ s=C
     grind)
    exact ih
   rw [if_pos (dT (by omega)),Z0 (by omega)]
   by_cases hi1:i+1<r.length
   ·have u1:u[i+1]'(by omega)=r[i+1]:=by
     subst hu
     rw [List.getElem_append_right (by omega)]
     simp [hd]
    have g1:=hr.get hi1
    rw [if_pos (dT (by omega)),show (i:Int)+1=((i+1:Nat):Int) by omega,Z5 (by omega),oB,u1,show r[i+1]=((r[i+1]).toNat:Int) by omega]
    exact step _ (by rw [Ub hi1];omega)
   ·rw [if_neg (dF (by omega))]
    have:=step 0 (by rw [List.drop_eq_nil_of_le (by omega)];rfl)
    exact this
  ·have:i=r.length:=by omega
   subst this
   rw [if_neg (dF (by omega))]
   rw [List.drop_length,List.append_nil] at hu
   rw [List.drop_length,Yt,Nat.zero_div,Nat.mul_zero,Nat.add_zero] at hv
   subst hu
   rw [Sm hq hN.1 hb.1,oB,Sm hld (by omega) (by omega),oB,hv]
theorem Zs2 (N s:Nat) (v:List Int) (hN:2≤N) (hv:Zn v) (hn:2≤v.length) (hbig:2147483648≤(v[v.length - 1]).toNat):∀ (n j:Nat) (u q:List Int),j≤q.length→j<n→u.length=q.length+v.length→u.length<4611686018427387904→Zn u→Zn q→Zc (u.drop j)<Zc v→Zc (q.take j)=0→
  ∃ u' q',Zdu N (s:Int) v n u q ((j:Int) - 1)=((Zdz N u').bind fun r=>Sd N (s:Int) q' r N r 0)∧u'.length=u.length∧q'.length=q.length∧Zn u'∧Zn q'∧Zc u'<Zc v∧Zc v * Zc q'+Zc u'=Zc v * Zc q+Zc u
 | 0,j,u,q,_,h,_,_,_,_,_,_=>by omega
 | n+1,j,u,q,hj,hjn,hl,hs,hu,hq,hlt,hz=>by
  rw [Zdu.eq_2]
  by_cases h0:j=0
  ·subst h0
   rw [if_neg (by decide)]
   exact ⟨u,q,rfl,rfl,rfl,hu,hq,by simpa using hlt,rfl⟩
  ·have e1:j - 1+1=j:=by omega
   have hi:j - 1<u.length:=by omega
   have hqi:j - 1<q.length:=by omega
   have g:=hu.get hi
   have lv:=Sj hv
   have sp:=Uv (u.drop j) v.length
   rw [List.drop_drop] at sp
   have hz2:Zc (u.drop (j - 1+v.length+1))=0:=by
    rw [show j - 1+v.length+1=j+v.length by omega]
    rcases Nat.eq_zero_or_pos (Zc (u.drop (j+v.length))) with h | h
    ·exact h
    ·have:=Nat.mul_le_mul_left (4294967296 ^ v.length) h
     generalize 4294967296 ^ v.length=P at *
     omega
   have d1:=Ub hi
   rw [e1] at d1
   obtain ⟨u',q1,q2,q3,q4,q5,q6⟩:=Z2n (N:=N) (j0:=j - 1) hN hu hv hn (by omega) hs hz2 hbig (by omega)
   have hqs:0≤((Zc (u.drop (j - 1)) / Zc v:Nat):Int)∧((Zc (u.drop (j - 1)) / Zc v:Nat):Int)<4294967296:=⟨Int.natCast_nonneg _,Int.ofNat_lt.2 q6⟩
   rw [if_pos (dT (by omega)),show (j:Int) - 1=((j - 1:Nat):Int) by omega,Z0 (x:=((j - 1:Nat):Int)+(v.length:Int)) (by omega),Z0 (by omega),Z9 (by omega),Int.toNat_natCast,
    show Int.toNat (((j - 1:Nat):Int)+(v.length:Int)+1) - (j - 1)=v.length+1 by omega,q1,oB,Z5 hqi,oB,oB,Z0 (by omega)]
   have vp:0<Zc v:=by omega
   -- the quotient's limb was 0
   have zq:q[j - 1]=0∧Zc (q.take (j - 1))=0:=by
    have:=Zp4 hqi
    rw [e1,hz] at this
    have g2:=hq.get hqi
    have hp:0<4294967296 ^ (j - 1):=Nat.pow_pos (by decide)
    have h3:4294967296 ^ (j - 1) * (q[j - 1]).toNat=0:=by omega
    rcases Nat.mul_eq_zero.1 h3 with h | h
    ·omega
    ·exact ⟨by omega,by omega⟩
   obtain ⟨u2,q2',r1,r2,r3,r4,r5,r6,r7⟩:=Zs2 N s v hN hv hn hbig n (j - 1) u' (q.set (j - 1) ((Zc (u.drop (j - 1)) / Zc v:Nat):Int)) (by rw [nS];omega) (by omega) (by rw [nS,q2];exact hl) (by omega) q3 (hq.set _ hqs) (by rw [q5];exact Nat.mod_lt _ vp) (by rw [Zcr _ (Nat.le_refl _)];exact zq.2)
   refine ⟨u2,q2',r1,by rw [r2,q2],by rw [r3,nS],r4,r5,r6,?_⟩
   rw [r7]
   have s0:=Uv u (j - 1)
   have s1:=Uv u' (j - 1)
   rw [q4,q5] at s1
   have s2:=Ts hqi ((Zc (u.drop (j - 1)) / Zc v:Nat):Int)
   rw [zq.1,Int.toNat_zero,Nat.mul_zero,Nat.add_zero,Int.toNat_natCast] at s2
   rw [s1,s2,s0]
   have hdm:=Nat.div_add_mod (Zc (u.drop (j - 1))) (Zc v)
   generalize Zc (u.drop (j - 1)) / Zc v=a at *
   generalize Zc (u.drop (j - 1)) % Zc v=b at *
   rw [← hdm]
   generalize 4294967296 ^ (j - 1)=Q at *
   grind
theorem Zy8 {l:List Int} (h:0<l.length):Zc l=Zc (l.take (l.length - 1))+4294967296 ^ (l.length - 1) * (l[l.length - 1]).toNat:=by
 conv=>lhs;rw [← Ze2 h,Si,Y7,Yt]
 rw [nK,Nat.min_eq_left (by omega),Nat.mul_zero,Nat.add_zero]
theorem Zy9 {l:List Int} (hl:Zn l):Zc (l.take (l.length - 1))<4294967296 ^ (l.length - 1):=by
 have:=Sj (hl.take (l.length - 1))
 rw [nK,Nat.min_eq_left (by omega)] at this
 exact this
theorem Z2o {u:List Int} {k n S:Nat} (hu:Zn u) (hk:k+n=u.length) (hn:0<n) (ht:∀ h:u.length - 1<u.length,(u[u.length - 1]).toNat<S):Zc (u.drop k)<4294967296 ^ (n - 1) * S:=by
 have hl:(u.drop k).length=n:=by rw [List.length_drop];omega
 have h1:=Zy8 (l:=u.drop k) (by omega)
 have h2:=Zy9 (hu.drop k)
 have h3:((u.drop k)[(u.drop k).length - 1]'(by omega))=u[u.length - 1]'(by omega):=by
  have:(u.drop k)[(u.drop k).length - 1]?=u[u.length - 1]?:=by rw [List.getElem?_drop,hl];congr 1;omega
  rw [List.getElem?_eq_getElem (by omega),List.getElem?_eq_getElem (by omega)] at this
  exact Option.some.inj this
 rw [h3] at h1
 rw [hl] at h1 h2
 have h4:=ht (by omega)
 have h5:=Nat.mul_le_mul_left (4294967296 ^ (n - 1)) (show (u[u.length - 1]'(by omega)).toNat+1≤S from h4)
 rw [Nat.mul_add] at h5
 omega
theorem Zkr {N:Nat} {a b:List Int} (ha:Zn a) (hb:Zn b) (hN:a.length+b.length+4<N) (hs:a.length+b.length≤35184372088000):
  Zdt N a b=some (if Zc b=0 then ([],[],11) else (Zg (Zc a / Zc b),Zg (Zc a % Zc b),0)):=by
 have la:=Yx ha
 have lb:=Yx hb
 rw [Zdt,Sv ha (by omega) (by omega),oB,Sv hb (by omega) (by omega),oB]
 generalize hA:Zc a=A at *
 generalize hB:Zc b=B at *
 by_cases h0:B=0
 ·subst h0
  rw [W0,if_pos (by decide),if_pos rfl]
 ·have hbp:0<(Zg B).length:=List.length_pos_iff.2 (fun h=>h0 (Ze3.1 h))
  rw [if_neg (dF (by omega)),if_neg h0,Zob (Xa _) (Xa _) (by omega) (by omega) (by omega) (by omega),oB,Z8,Z8]
  by_cases hlt:A<B
  ·rw [if_pos hlt,if_pos (by decide),Sm (Xa _) (by omega) (by omega),oB,Z8,Nat.div_eq_of_lt hlt,Nat.mod_eq_of_lt hlt,W0]
  ·rw [if_neg hlt,if_neg (by split <;> decide)]
   have hlen:(Zg B).length≤(Zg A).length:=by
    have h1:=Wq (k:=(Zg A).length) (n:=B)
    have h2:=Wq (k:=(Zg A).length) (n:=A)
    have:=h2.1 (Nat.le_refl _)
    exact h1.2 (by omega)
   by_cases h1:(Zg B).length=1
   ·have g:=(Xa B).get hbp
    have hne:=Zk4 hbp
    have e0:(Zg B).length - 1=0:=by omega
    have hne0:(Zg B)[0]≠0:=by
     have:(Zg B)[(Zg B).length - 1]?=(Zg B)[0]?:=by rw [e0]
     rw [List.getElem?_eq_getElem (by omega),List.getElem?_eq_getElem (by omega)] at this
     rw [← Option.some.inj this];exact hne
    have eB:((Zg B)[0]).toNat=B:=by
     have h2:=Z8 B
     have h3:=Ub (l:=Zg B) (k:=0) hbp
     rw [List.drop_zero,h2,List.drop_eq_nil_of_le (by omega),Yt] at h3
     omega
    obtain ⟨q,q1,q2,q3,q4⟩:=Z6e (N:=N) (a:=Zg A) (d:=(Zg B)[0]) (by omega) (Xa _) (by omega) (by omega)
    rw [eB,Z8] at q1 q4
    have hm:=Nat.mod_lt A (show 0<B by omega)
    have hB32:B<4294967296:=by omega
    have hml:Zn [((A % B:Nat):Int)]:=.cons ⟨Int.natCast_nonneg _,Int.ofNat_lt.2 (Nat.lt_trans hm hB32)⟩ .nil
    rw [if_pos (dT (by omega)),Zn9 (by omega),oB,show (0:Int)=((0:Nat):Int) from rfl,Z5 hbp,oB,q1,oB,Sm q3 (by omega) (by omega),oB,Sm hml (by simp;omega) (by simp),oB,q4,Y7,Yt,Int.toNat_natCast,Nat.mul_zero,Nat.add_zero]
   ·have hp:0<(Zg B).length:=hbp
    have i1:(Zg B).length - 1<(Zg B).length:=by omega
    have g:=(Xa B).get i1
    have hne:=Zk4 hbp
    obtain ⟨k,ek,k1,k2⟩:=Zki (show ((Zg B)[(Zg B).length - 1]).toNat≠0 by omega)
    have hk:k≤31:=by
     have:Xb ((Zg B)[(Zg B).length - 1]).toNat≤32:=Vt.2 (by omega)
     omega
    obtain ⟨s,hs'⟩:∃ s,s=31 - k:=⟨_,rfl⟩
    have hlz:Zib (Zg B)[(Zg B).length - 1]=some (s:Int):=by
     rw [Zib,show (Zg B)[(Zg B).length - 1]=(((Zg B)[(Zg B).length - 1]).toNat:Int) by omega,Zuo (by omega),oB,ek,Z0 (by omega)]
     congr 1;omega
    obtain ⟨u,u1,u2,u3,u4,u5⟩:=Zun (a:=Zg A) (s:=s) (by omega) (Xa _) (by omega)
    obtain ⟨w,w1,w2,w3,w4,w5⟩:=Zun (a:=Zg B) (s:=s) (by omega) (Xa _) (by omega)
    rw [Z8] at u4 w4
    have hps:=Nat.two_pow_pos s
    -- the divisor, its highest X1 set
    have hsp:=Ze2 hp
    have htl:=Sj ((Xa B).take ((Zg B).length - 1))
    rw [nK,Nat.min_eq_left (by omega)] at htl
    have eB:B=Zc ((Zg B).take ((Zg B).length - 1))+4294967296 ^ ((Zg B).length - 1) * ((Zg B)[(Zg B).length - 1]).toNat:=by
     conv=>lhs;rw [← Z8 B,← hsp,Si,Y7,Yt]
     rw [nK,Nat.min_eq_left (by omega)];simp
    have pk:2 ^ k * 2 ^ s=2147483648:=by rw [← Nat.pow_add,hs',show k+(31 - k)=31 by omega]
    have pk1:2 ^ (k+1) * 2 ^ s=4294967296:=by rw [Nat.pow_succ,Nat.mul_right_comm,pk]
    have hPp:0<4294967296 ^ ((Zg B).length - 1):=Nat.pow_pos (by decide)
    have hlb1:(Zg B).length - 1+1=(Zg B).length:=by omega
    have pwl:(4294967296:Nat) ^ (Zg B).length=4294967296 ^ ((Zg B).length - 1) * 4294967296:=by rw [← Nat.pow_succ];congr 1;omega
    generalize hPe:4294967296 ^ ((Zg B).length - 1)=P at *
    have top1:P * 2147483648≤2 ^ s * B:=by
     have h1:=Nat.mul_le_mul_left P k1
     have h2:=Nat.mul_le_mul_right (2 ^ s) (show P * 2 ^ k≤B by omega)
     rw [Nat.mul_assoc,pk] at h2
     rw [Nat.mul_comm (2 ^ s)];exact h2
    have top2:2 ^ s * B<P * 4294967296:=by
     have h1:=Nat.mul_le_mul_left P (show ((Zg B)[(Zg B).length - 1]).toNat+1≤2 ^ (k+1) from k2)
     rw [Nat.mul_add] at h1
     have h2:=Nat.mul_lt_mul_of_pos_right (show B<P * 2 ^ (k+1) by omega) hps
     rw [Nat.mul_assoc,pk1] at h2
     rw [Nat.mul_comm (2 ^ s)];exact h2
    have hv0:(Zg (2 ^ s * B)).length=(Zg B).length:=by
     have h1:(Zg (2 ^ s * B)).length≤(Zg B).length:=Wq.2 (by rw [pwl];exact top2)
     have h2:¬ (Zg (2 ^ s * B)).length≤(Zg B).length - 1:=fun h=>by
      have:=Wq.1 h
      rw [hPe] at this
      have:P * 1≤P * 2147483648:=Nat.mul_le_mul_left _ (by decide)
      omega
     omega
    have hvp:0<(Zg (2 ^ s * B)).length:=by omega
    have hbig:2147483648≤((Zg (2 ^ s * B))[(Zg (2 ^ s * B)).length - 1]).toNat:=by
     have tl':=Zy9 (Xa (2 ^ s * B))
     have e:=Zy8 hvp
     have ePP:(4294967296:Nat) ^ ((Zg (2 ^ s * B)).length - 1)=P:=by rw [hv0];exact hPe
     rw [Z8,ePP] at e
     rw [ePP] at tl'
     generalize Zc ((Zg (2 ^ s * B)).take ((Zg (2 ^ s * B)).length - 1))=lo at *
     generalize ((Zg (2 ^ s * B))[(Zg (2 ^ s * B)).length - 1]).toNat=t at *
     have h3:P * 2147483648<P * (t+1):=by rw [Nat.mul_add];omega
     have:=Nat.lt_of_mul_lt_mul_left h3
     omega
    obtain ⟨q,hq⟩:∃ q,q=List.replicate ((Zg A).length - (Zg B).length+1) (0:Int):=⟨_,rfl⟩
    have lq:q.length=(Zg A).length - (Zg B).length+1:=by rw [hq,List.length_replicate]
    rw [if_neg (dF (by omega)),Z0 (x:=((Zg B).length:Int) - 1) (by omega),show ((Zg B).length:Int) - 1=(((Zg B).length - 1:Nat):Int) by omega,Z5 i1,oB,hlz,oB,u1,oB,w1,oB,
     Zzd w3 (by omega) (by omega),oB,w4,Z0 (x:=((Zg A).length:Int) - ((Zg B).length:Int)) (by omega),Z0 (x:=((Zg A).length:Int) - ((Zg B).length:Int)+1) (by omega),Z9 (by simp only [maxLen];omega),
     show Int.toNat (((Zg A).length:Int) - ((Zg B).length:Int)+1)=(Zg A).length - (Zg B).length+1 by omega,← hq,Z0 (x:=(q.length:Int) - 1) (by omega)]
    obtain ⟨u',q',r1,r2,r3,r4,r5,r6,r7⟩:=Zs2 N s (Zg (2 ^ s * B)) (by omega) (Xa _) (by omega) hbig N q.length u q (Nat.le_refl _) (by omega) (by omega) (by omega) u3 (by rw [hq];exact .zeros _) (by
     -- the highest Zg are below the divisor
     rw [Z8]
     have h1:=Z2o (k:=q.length) (n:=(Zg B).length) u3 (by omega) hp u5
     rw [hPe] at h1
     have hs31:2 ^ s≤2147483648:=by
      have:=Nat.pow_le_pow_right (n:=2) (by decide) (show s≤31 by omega)
      omega
     have h8:=Nat.mul_le_mul_left P hs31
     omega) (by rw [hq,List.take_replicate];exact Sk _)
    rw [r1,Zzd r4 (by omega) (by omega),oB]
    rw [Z8] at r6 r7
    have zq:Zc q=0:=by rw [hq];exact Sk _
    rw [zq,u4,Nat.mul_zero,Nat.zero_add] at r7
    have ll:=Yx r4
    have hfin:=Zs3 N s (by omega) q' (Zg (Zc u')) r5 (Xa _) (by omega) (by omega) N 0 (Zg (Zc u')) [] (by omega) (by omega) (by simp) rfl .nil (by rw [Yt,List.drop_zero,Nat.pow_zero];omega)
    rw [show ((0:Nat):Int)=0 from rfl] at hfin
    rw [hfin,Z8]
    have hqv:Zc q'=A / B:=by
     have h9:2 ^ s * A / (2 ^ s * B)=Zc q':=by
      rw [← r7,Nat.mul_add_div (by omega),Nat.div_eq_of_lt r6,Nat.add_zero]
     rw [← h9,Nat.mul_div_mul_left _ _ hps]
    have hrv:Zc u' / 2 ^ s=A % B:=by
     have h9:2 ^ s * A % (2 ^ s * B)=Zc u':=by
      rw [← r7,Nat.mul_add_mod,Nat.mod_eq_of_lt r6]
     rw [Nat.mul_mod_mul_left] at h9
     rw [← h9,Nat.mul_div_cancel_left _ hps]
    rw [hqv,hrv]
theorem Z3l {x y:Nat} (h:y≤x) (hy:0<y):y * (x % y)≤x * y / 2:=by
 have h1:x % y+y≤x:=by
  have:=Nat.mod_add_div x y
  have h2:y * 1≤y * (x / y):=Nat.mul_le_mul_left _ (Nat.div_pos h hy)
  omega
 have h2:=Nat.mod_lt x hy
 have h3:y * (2 * (x % y))≤y * x:=Nat.mul_le_mul_left _ (by omega)
 rw [Nat.le_div_iff_mul_le (by decide),Nat.mul_comm x y,Nat.mul_assoc,Nat.mul_comm (x % y) 2]
 exact h3
theorem Zoj (N:Nat):∀ (n x y:Nat),y≤x→Xb (x * y)<n→(Zg x).length+(Zg y).length+4<N→(Zg x).length+(Zg y).length≤35184372088000→Zca N n (Zg x) (Zg y)=some (Zg (Nat.gcd x y))
 | 0,x,y,_,h,_,_=>by omega
 | n+1,x,y,hxy,hn,hN,hs=>by
  rw [Zca.eq_2]
  by_cases h0:y=0
  ·subst h0
   rw [W0,if_neg (by decide),Nat.gcd_zero_right]
  ·have hp:0<(Zg y).length:=List.length_pos_iff.2 (fun h=>h0 (Ze3.1 h))
   have hm:=Nat.mod_lt x (show 0<y by omega)
   have lm:(Zg (x % y)).length≤(Zg y).length:=Wq.2 (Nat.lt_trans hm (Wq.1 (Nat.le_refl _)))
   have ly:(Zg y).length≤(Zg x).length:=Wq.2 (Nat.lt_of_le_of_lt hxy (Wq.1 (Nat.le_refl _)))
   rw [if_pos (dT (by omega)),Zkr (Xa _) (Xa _) hN hs,oB,Z8,Z8,if_neg h0]
   have hb:Xb (y * (x % y))<n:=by
    have h1:=Z3l hxy (by omega)
    have h2:Xb (y * (x % y))≤Xb (x * y / 2 ^ 1):=Vt.2 (Nat.lt_of_le_of_lt (by rw [Nat.pow_one];exact h1) (Vt.1 (Nat.le_refl _)))
    rw [Zhh] at h2
    have h3:0<x * y:=Nat.mul_pos (by omega) (by omega)
    have h4:0<Xb (x * y):=by
     rcases Nat.eq_zero_or_pos (Xb (x * y)) with h | h
     ·have:=Vt.1 (show Xb (x * y)≤0 by omega)
      omega
     ·exact h
    omega
   have:=Zoj N n y (x % y) (Nat.le_of_lt hm) hb (by omega) (by omega)
   rw [this,Nat.gcd_comm x y,Nat.gcd_rec y x,Nat.gcd_comm]
theorem Zrp (x y:Nat):Xb (x * y)≤Xb x+Xb y:=by
 refine Vt.2 ?_
 rw [Nat.pow_add]
 have h1:=Vt.1 (Nat.le_refl (Xb x))
 have h2:=Vt.1 (Nat.le_refl (Xb y))
 exact Nat.mul_lt_mul'' h1 h2
theorem Z3k {N:Nat} {a b:List Int} (ha:Zn a) (hb:Zn b) (hN:32 * (a.length+b.length)+8<N) (hs:a.length+b.length≤35184372088000):Zih N a b=some (Zg (Nat.gcd (Zc a) (Zc b))):=by
 have la:=Yx ha
 have lb:=Yx hb
 have ba:=(Zkg (Zc a)).2
 have bb:=(Zkg (Zc b)).2
 rw [Zih,Sm ha (by omega) (by omega),oB,Sm hb (by omega) (by omega),oB]
 by_cases h:Zc b≤Zc a
 ·have:=Zrp (Zc a) (Zc b)
  exact Zoj N N _ _ h (by omega) (by omega) (by omega)
 ·have h':Zc a<Zc b:=by omega
  have hm:=Zrp (Zc b) (Zc a)
  have hp:0<(Zg (Zc b)).length:=List.length_pos_iff.2 (fun h=>by have:=Ze3.1 h;omega)
  obtain ⟨N',rfl⟩:∃ N',N=N'+1:=⟨N - 1,by omega⟩
  rw [Zca.eq_2,if_pos (dT (by omega)),Zkr (Xa _) (Xa _) (by omega) (by omega),oB,Z8,Z8,if_neg (by omega),Nat.mod_eq_of_lt h',
   Zoj (N'+1) N' _ _ (by omega) (by omega) (by omega) (by omega),Nat.gcd_comm]
abbrev ZV:=Bool×List Int
abbrev QV:=R8×List Int
def Zy (a:ZV):Int:=if a.1=true then -(Zc a.2:Int) else (Zc a.2:Int)
def Ye (z:Int):ZV:=(decide (z<0),Zg z.natAbs)
def Wa (l:List Int):Nat:=if Zc l=0 then 1 else Zc l
def Zv (a:QV):Rat:=mkRat (Zy a.1) (Wa a.2)
def Zw (q:Rat):QV:=(Ye q.num,Zg q.den)
structure RV (k:Nat) (a:QV):Prop where
 m:Zn a.1.2
 d:Zn a.2
 lm:a.1.2.length≤k
 ld:a.2.length≤k
def qs (q:Rat):Nat:=max (Zg q.num.natAbs).length (Zg q.den).length
def Xh (N s:Nat):Prop:=200 * (s+4)<N∧s≤1066000000000
theorem Zg8 (a:ZV):(Zy a).natAbs=Zc a.2:=by
 rw [Zy];split <;> omega
theorem Qj (z:Int):Zy (Ye z)=z:=by
 rw [Zy,Ye]
 simp only [Z8,decide_eq_true_eq]
 split <;> omega
theorem Zjk (n:Bool) (m:List Int):Ye (Zy (n,m))=(n&&decide (Zc m≠0),Zg (Zc m)):=by
 rw [Ye,Zg8]
 congr 1
 rw [Zy]
 cases n
 ·rw [if_neg (fun h=>by cases h),Bool.false_and]
  exact decide_eq_false (by omega)
 ·rw [if_pos rfl,Bool.true_and]
  exact decide_eq_decide.2 (by simp only;omega)
theorem Qs (z:Int):Zn (Ye z).2:=Xa _
theorem Zaj (l:List Int):Wa l≠0:=by rw [Wa];split <;> omega
theorem Z2q {n:Nat} (h:n≠0):Wa (Zg n)=n:=by rw [Wa,Z8,if_neg h]
theorem V3 (q:Rat):Zv (Zw q)=q:=by
 rw [Zv,Zw]
 simp only [Qj,Z2q q.den_nz]
 exact Rat.mkRat_self q
theorem Zm8 (q:Rat):RV (qs q) (Zw q):=⟨Xa _,Xa _,Nat.le_max_left _ _,Nat.le_max_right _ _⟩
theorem RV.mono {k l:Nat} {a:QV} (h:RV k a) (hl:k≤l):RV l a:=⟨h.m,h.d,Nat.le_trans h.lm hl,Nat.le_trans h.ld hl⟩
theorem Su {q:Rat} {k:Nat} (h:qs q≤k):RV k (Zw q):=(Zm8 q).mono h
theorem Xh.mono {N s t:Nat} (h:Xh N t) (hs:s≤t):Xh N s:=by
 obtain ⟨h1,h2⟩:=h
 exact ⟨by omega,by omega⟩
theorem Vu {m n:Nat} (h:m≤n):(Zg m).length≤(Zg n).length:=Wq.2 (Nat.lt_of_le_of_lt h (Wq.1 (Nat.le_refl _)))
theorem S0 (m n:Nat):(Zg (m * n)).length≤(Zg m).length+(Zg n).length:=by
 refine Wq.2 ?_
 rw [Nat.pow_add]
 exact Nat.mul_lt_mul'' (Wq.1 (Nat.le_refl _)) (Wq.1 (Nat.le_refl _))
theorem Zor {m n k:Nat} (hm:(Zg m).length≤k) (hn:(Zg n).length≤k):(Zg (m+n)).length≤k+1:=by
 refine Wq.2 ?_
 have h1:=Wq.1 hm
 have h2:=Wq.1 hn
 rw [Nat.pow_succ]
 omega
theorem S1 {n:Nat} (h:n≠0):1≤(Zg n).length:=List.length_pos_iff.2 (fun e=>h (Ze3.1 e))
theorem Z5d (q:Rat):1≤qs q:=Nat.le_trans (S1 q.den_nz) (Nat.le_max_right _ _)
theorem Zjo {z:Int} {d k:Nat} (hz:(Zg z.natAbs).length≤k) (hd:(Zg d).length≤k) (hk:1≤k):qs (mkRat z d)≤k:=by
 rw [qs,Rat.num_mkRat,Rat.den_mkRat]
 by_cases h:d=0
 ·rw [if_pos h,if_pos h]
  simp only [Int.natAbs_zero,W0,Zam]
  simp;omega
 ·rw [if_neg h,if_neg h]
  refine Nat.max_le.2 ⟨Nat.le_trans (Vu ?_) hz,Nat.le_trans (Vu (Nat.div_le_self _ _)) hd⟩
  exact Int.natAbs_ediv_le_natAbs _ _
theorem Zej {k:Nat} {a:QV} (h:RV k a):qs (Zv a)≤max k 1:=by
 refine Zjo ?_ ?_ (Nat.le_max_right _ _)
 ·rw [Zg8]
  exact Nat.le_trans (Yx h.m) (Nat.le_trans h.lm (Nat.le_max_left _ _))
 ·rw [Wa]
  split
  ·rw [Zam];exact Nat.le_max_right _ _
  ·exact Nat.le_trans (Yx h.d) (Nat.le_trans h.ld (Nat.le_max_left _ _))
theorem Zqg (a b:Rat):qs (a * b)≤qs a+qs b:=by
 rw [Rat.mul_def']
 have:=Z5d a
 refine Zjo ?_ ?_ (by omega)
 ·rw [Int.natAbs_mul]
  exact Nat.le_trans (S0 _ _) (Nat.add_le_add (Nat.le_max_left _ _) (Nat.le_max_left _ _))
 ·exact Nat.le_trans (S0 _ _) (Nat.add_le_add (Nat.le_max_right _ _) (Nat.le_max_right _ _))
theorem Zw0 (a b:Rat):qs (a+b)≤qs a+qs b+1:=by
 rw [Rat.add_def']
 have an:(Zg a.num.natAbs).length≤qs a:=Nat.le_max_left _ _
 have ad:(Zg a.den).length≤qs a:=Nat.le_max_right _ _
 have bn:(Zg b.num.natAbs).length≤qs b:=Nat.le_max_left _ _
 have bd:(Zg b.den).length≤qs b:=Nat.le_max_right _ _
 refine Zjo (Nat.le_trans (Vu (Int.natAbs_add_le _ _)) (Zor ?_ ?_)) ?_ (by omega)
 ·rw [Int.natAbs_mul,Int.natAbs_natCast]
  have:=S0 a.num.natAbs b.den
  omega
 ·rw [Int.natAbs_mul,Int.natAbs_natCast]
  have:=S0 b.num.natAbs a.den
  omega
 ·have:=S0 a.den b.den
  omega
theorem Zm0:qs 0=1:=by
 rw [qs]
 simp only [Rat.zero_num,Rat.zero_den,Int.natAbs_zero,W0,Zam]
 simp
theorem Zjp:qs 1=1:=by
 rw [qs]
 simp only [Rat.one_num,Rat.one_den,Int.natAbs_one,Zam]
 simp
theorem Zvu {neg:Bool} {num den:List Int} (hd:Zc den≠0):
  Zw (mkRat (Zy (neg,num)) (Zc den))=((neg&&decide (Zc num / Nat.gcd (Zc num) (Zc den)≠0),Zg (Zc num / Nat.gcd (Zc num) (Zc den))),Zg (Zc den / Nat.gcd (Zc num) (Zc den))):=by
 rw [Zw,Rat.num_mkRat,Rat.den_mkRat,if_neg hd,if_neg hd,Zg8,Nat.gcd_comm (Zc den) (Zc num)]
 have hg:Nat.gcd (Zc num) (Zc den)≠0:=fun h=>hd (Nat.gcd_eq_zero_iff.1 h).2
 congr 1
 have e:Zy (neg,num) / ((Nat.gcd (Zc num) (Zc den):Nat):Int)=Zy (neg,Zg (Zc num / Nat.gcd (Zc num) (Zc den))):=by
  rw [Zy,Zy]
  simp only [Z8]
  cases neg
  ·simp
  ·simp only [if_true]
   rw [Int.neg_ediv_of_dvd (Int.natCast_dvd_natCast.2 (Nat.gcd_dvd_left _ _)),Int.natCast_ediv]
 rw [e,Zjk,Z8]
theorem Zml {a b:Int} {c d:Nat} (hc:c≠0) (hd:d≠0):mkRat a c<mkRat b d↔a * d<b * c:=by
 have h1:(0:Rat)<(c:Rat):=Rat.natCast_pos.2 (by omega)
 have h2:(0:Rat)<(d:Rat):=Rat.natCast_pos.2 (by omega)
 rw [Rat.mkRat_eq_div,Rat.mkRat_eq_div,Rat.div_lt_iff h1]
 have e:(b:Rat) / d * c=(b:Rat) * c / d:=by
  rw [Rat.div_def,Rat.div_def,Rat.mul_assoc,Rat.mul_assoc,Rat.mul_comm (d:Rat)⁻¹]
 rw [e,Rat.lt_div_iff h2]
 have e1:((a:Rat) * (d:Rat))=((a * (d:Int):Int):Rat):=by rw [Rat.intCast_mul];rfl
 have e2:((b:Rat) * (c:Rat))=((b * (c:Int):Int):Rat):=by rw [Rat.intCast_mul];rfl
 rw [e1,e2,Rat.intCast_lt_intCast]
def Ux (a b:Rat):Int:=if a<b then -1 else if b<a then 1 else 0
def Zcu (a b:Int):Int:=if a<b then -1 else if b<a then 1 else 0
def Zaa (a:Rat):Int:=Ux a 0
theorem Zww {a b:Int} {c d:Nat} (hc:c≠0) (hd:d≠0):Ux (mkRat a c) (mkRat b d)=Zcu (a * d) (b * c):=by
 unfold Ux Zcu
 simp only [Zml hc hd,Zml hd hc]
theorem Zrg (a:Int):Zcu a 0=a.sign:=by
 unfold Zcu
 rcases Int.lt_trichotomy a 0 with h | h | h
 ·rw [if_pos h,Int.sign_eq_neg_one_of_neg h]
 ·rw [h];rfl
 ·rw [if_neg (by omega),if_pos h,Int.sign_eq_one_of_pos h]
theorem Z5e (a:QV):Zaa (Zv a)=(Zy a.1).sign:=by
 rw [Zaa,Zv,show (0:Rat)=mkRat 0 1 by rw [Rat.zero_mkRat],Zww (Zaj _) (by decide),← Zrg]
 simp
theorem Z5g (a:QV):Zv a=0↔Zc a.1.2=0:=by
 rw [Zv,Rat.mkRat_eq_zero (Zaj _),← Zg8]
 omega
theorem Zqi {a:Rat}:Zaa a=0↔a=0:=by
 rw [Zaa,Ux]
 constructor
 ·intro h
  split at h
  ·cases h
  ·split at h
   ·cases h
   ·rename_i h1 h2
    exact Rat.le_antisymm (Rat.not_lt.1 h2) (Rat.not_lt.1 h1)
 ·rintro rfl
  rw [if_neg Rat.lt_irrefl,if_neg Rat.lt_irrefl]
theorem Zqh {a:Rat}:Zaa a<0↔a<0:=by
 rw [Zaa,Ux]
 by_cases h:a<0
 ·rw [if_pos h];simp [h]
 ·rw [if_neg h];simp only [h,iff_false];split <;> decide
def Ta (N:Nat) (ab:R4):Option R5:=
  (Zdv N ab.2).bind fun aa=>if (decide (0<(aa.length:Int)))=true then (some aa) else ((S7 N 1).bind fun ac=>some ac)
theorem Qo {N ad ae:Nat} {af ag:Option Addr} {col:Ze} {w0:World} {ab:R4} {r:R5} (c1:Nat) (hm:Ta N ab=some r) (aq:Sl (Za.int .u32) col w0 af ad ab.1.2) (ac:Sl (Za.int .u32) col w0 ag ae ab.2):
    Calls prog 75 #[(.agg #[.bool ab.1.1,.slice af ab.1.2.length ad,.slice ag ab.2.length ae])] w0 (fun e w'=>∃ (col':Ze) (ra1:Option Addr) (rc2:Nat),e= .returned ((.slice ra1 r.length rc2))∧Zh col w0 col' w'∧Zb (Za.int .u32) 95 c1 col' w' ra1 rc2 r):=by
 refine Xf 2 (m:=12) func75 rfl rfl rfl rfl rfl ?_;rw [Ta.eq_1] at hm;have aa:=St.start col w0;refine go ?_;refine Xl (col:=(Zj col)) 1 rfl ?_;intro ar au av ah ai;refine go ?_;refine Xd ai ?_;obtain ⟨aw,aj,hm⟩:=bZ hm;replace ac:=ac.keep (Zi.start col w0);replace aa:=aa.grow ah;refine Zk (Zn4 2 aj (ac.ks aa)) ?_;rintro _ ax ⟨ak,ay,az,rfl,al,am⟩;refine ⟨_,rfl,go ?_⟩;replace aa:=aa.grow al;refine Zo hm (fun hb hm=>go ?_) fun hb hm=>go ?_
 ·cases hm;exact ⟨rfl,_,_,_,rfl,aa.fin (cm [(2,c1)]),aa.fo am⟩
 obtain ⟨a0,an,hm⟩:=bZ hm;refine Zk (Zcx (col:=ak) 3 an) ?_;rintro _ a1 ⟨a2,a3,a4,rfl,ao,ap⟩;refine ⟨_,rfl,go ?_⟩;cases hm;replace aa:=aa.grow ao;exact ⟨rfl,_,_,_,rfl,aa.fin (cm [(3,c1)]),aa.fo ap⟩
def Zgr (aa:Bool) (ab:List Int):Option R8:=
  some (aa,ab)
def Qd (N:Nat) (ab:Bool) (ac:List Int):Option R8:=
  (Zdv N ac).bind fun aa=>if ab=true then (Zgr (decide (0<(aa.length:Int))) aa) else (Zgr false aa)
theorem Zcz {N ao:Nat} {a1:Option Addr} {col:Ze} {w0:World} {ap:Bool} {ah:R5} {r:R8} (c1:Nat) (hm:Qd N ap ah=some r) (h1:Sl (Za.int .u32) col w0 a1 ao ah):
    Calls prog 145 #[.bool ap,.slice a1 ah.length ao] w0 (fun e w'=>∃ (col':Ze) (ra1:Option Addr) (rc2:Nat),e= .returned ((.agg #[.bool r.1,.slice ra1 r.2.length rc2]))∧Zh col w0 col' w'∧Zb (Za.int .u32) 95 c1 col' w' ra1 rc2 r.2):=by
 refine Y5 (m:=16) func145 rfl rfl rfl ?_;rw [Qd.eq_1] at hm;have aa:=St.start col w0;refine go ?_;refine Xg (col:=(Zj col)) #[.bool false,.slice none (([]:List Int).length) 0] 1 zeroValue37 ?_;intro ax a4 a5 ay ac;refine go ?_;obtain ⟨ad,az,hm⟩:=bZ hm;replace h1:=h1.keep (Zi.start col w0);replace aa:=aa.grow ay;refine Zk (Zn4 2 az (h1.ks aa)) ?_;rintro _ a6 ⟨a7,aq,ar,rfl,au,ab⟩;refine ⟨_,rfl,?_⟩;refine Zk2 rfl<|Zl<|Zs ?_;replace ac:=ac.gr au;replace aa:=aa.grow au;refine Wp.cutK [4,1000000] (fun f ae=>∃ af ai aj ak ag,Zgr ai ag=some r∧St w0 (Zj col) af ae∧Zb (Za.int .u32) 95 3 af ae aj ak ag∧Zf 37 1 af ae ax #[.bool ai,.slice aj ag.length ak]) ?_ ?_
 ·intro f ae hJ;obtain ⟨af,ai,aj,ak,ag,hm,aa,a0,ac⟩:=hJ;rw [Zgr.eq_1] at hm;refine Vc ?_;cases hm;exact ⟨rfl,_,ra ac.atN,_,_,_,rfl,aa.fin (cm [(3,c1)]),aa.fo a0⟩
 refine go ?_;refine Yc hm (fun al hm=>go ?_) fun al hm=>go ?_
 ·refine lV (.bool (decide (0<(ad.length:Int)))) (Xr (congrArg Value.bool al) rfl)<|Yk rfl<|lV (.agg #[.bool (decide (0<(ad.length:Int))),.slice aq ad.length ar]) (Wc (l:=[_,_]) (qs:=[(0,1),(1,1)]) underlying37 zeroValue37 ⟨rfl,sizeOf4,rfl,sizeOf35,trivial⟩ rfl)<|Zz ac ?_;intro a8 av a2 am;refine Zl ?_;replace ab:=ab.kp av;replace ab:=ab.recolSelf 3 (by decide);replace am:=am.recol 2 3 (by decide);replace aa:=aa.kp av a2;replace aa:=aa.recol 2 3 (by decide) (by decide);exact ⟨rfl,_,_,_,_,_,hm,aa,ab,am⟩
 refine lV (.bool false) (Xq (congrArg Value.bool al) rfl)<|Yk rfl<|lV (.agg #[.bool false,.slice aq ad.length ar]) (Wc (l:=[_,_]) (qs:=[(0,1),(1,1)]) underlying37 zeroValue37 ⟨rfl,sizeOf4,rfl,sizeOf35,trivial⟩ rfl)<|Zz ac ?_;intro a9 aw a3 an;refine Zl ?_;replace ab:=ab.kp aw;replace ab:=ab.recolSelf 3 (by decide);replace an:=an.recol 2 3 (by decide);replace aa:=aa.kp aw a3;replace aa:=aa.recol 2 3 (by decide) (by decide);exact ⟨rfl,_,_,_,_,_,hm,aa,ab,an⟩
def Zjf (N:Nat) (aa:R8) (ab:R8):Option R8:=
  (To N aa.2 ab.2).bind fun ad=>(Qd N (!decide (aa.1=ab.1)) ad).bind fun ac=>some (ac.1,ac.2)
theorem Z14 {N ar au:Nat} {av aw:Option Addr} {col:Ze} {w0:World} {ag ah r:R8} (c1:Nat) (hm:Zjf N ag ah=some r) (al:Sl (Za.int .u32) col w0 av ar ag.2) (am:Sl (Za.int .u32) col w0 aw au ah.2):
    Calls prog 147 #[(.agg #[.bool ag.1,.slice av ag.2.length ar]),(.agg #[.bool ah.1,.slice aw ah.2.length au])] w0 (fun e w'=>∃ (col':Ze) (ra1:Option Addr) (rc2:Nat),e= .returned ((.agg #[.bool r.1,.slice ra1 r.2.length rc2]))∧Zh col w0 col' w'∧Zb (Za.int .u32) 95 c1 col' w' ra1 rc2 r.2):=by
 refine Y5 (m:=16) func147 rfl rfl rfl ?_;rw [Zjf.eq_1] at hm;have aa:=St.start col w0;refine go ?_;refine Xl (col:=(Zj col)) 1 rfl ?_;intro a7 a8 az a0 ai;refine Xl (col:=az) 2 rfl ?_;intro a9 ba a1 ax aj;refine Xg (col:=a1) #[.bool false,.slice none (([]:List Int).length) 0] 3 zeroValue37 ?_;intro bb bc ad an ab;refine go ?_;refine Wh (col:=ad) [(0,1),(1,0),(2,1),(3,0),(4,1),(5,1),(6,0),(7,1),(8,0),(9,3),(10,3),(11,2)] (by kernel_rfl) (by kernel_rfl)<|xF ⟨_,_,rfl⟩ ?_;replace ai:=(ai.gr ax).gr an;refine xW (fun _ hC=>((ai.atN).nth (q:=0) rfl).gr (hC.bl ad)) ?_;refine xF ⟨_,_,rfl⟩ ?_;replace aj:=aj.gr an;refine xW (fun _ hC=>((aj.atN).nth (q:=0) rfl).gr (hC.bl ad)) ?_;refine xu rfl rfl (fun _=>Zgy _ _ underlying4 rfl rfl) ?_;refine xF ⟨_,_,rfl⟩ ?_;refine xW (fun _ hC=>((ai.atN).nth (q:=1) rfl).gr (hC.bl ad)) ?_;refine xF ⟨_,_,rfl⟩ ?_;refine xW (fun _ hC=>((aj.atN).nth (q:=1) rfl).gr (hC.bl ad)) ?_;refine xe rfl rfl ?_;intro bd hC0;have hC:=hC0.bl ad;obtain ⟨be,a2,hm⟩:=bZ hm;replace al:=al.keep (Zi.start col w0);replace am:=am.keep (Zi.start col w0);replace aa:=(((aa.grow a0).grow ax).grow an).grow hC;refine Zk (Zbf 4 a2 (al.ks aa) (am.ks aa)) ?_;rintro _ bf ⟨af,bg,bh,rfl,ao,ap⟩;refine ⟨_,rfl,?_⟩;refine Zl<|Xo af hC0 ao<|xe rfl rfl ?_;intro a3 hC0;replace ab:=(ab.gr hC).gr ao;have hC:=hC0.bl af;obtain ⟨bi,a4,hm⟩:=bZ hm;replace ap:=ap.gr hC;refine Zk (Zcz 5 a4 (ap.toSlF (Zd.int .u32))) ?_;rintro _ bj ⟨a5,bk,bm,rfl,ae,ac⟩;refine ⟨_,rfl,?_⟩;replace ac:=ac.thaw (Z1 .u32) ae ((Fz.refl (col:=af)).froz 4) (by decide);replace ae:=ae.thawR (col:=af);generalize Xe a3.heap.size af a5=ak at *;refine Zl<|Xo ak hC0 ae<|xe rfl rfl ?_;intro bn hC0;replace aa:=((aa.grow ao).grow hC).grow ae;replace ab:=(ab.gr hC).gr ae;have hC:=hC0.bl ak;replace ab:=ab.gr hC;refine Zz ab ?_;intro bo ay a6 aq;refine Zl<|xk ak<|Y2 ?_;replace ac:=(ac.gr hC).kp ay;replace aa:=(aa.grow hC).kp ay a6;intro bp hC;replace hC:=hC.bl ak;refine Vc ?_;cases hm;replace ac:=ac.gr hC;replace aq:=aq.gr hC;replace aa:=aa.grow hC;exact ⟨rfl,_,ra aq.atN,_,_,_,rfl,aa.fin (cm [(5,c1)]),aa.fo ac⟩
def Zbx (N:Nat) (aa:R8) (ac:List Int):Option R8:=
  (Zjf N (aa.1,aa.2) (false,ac)).bind fun ab=>some (ab.1,ab.2)
theorem Zkm {N ai ad:Nat} {aj a1:Option Addr} {col:Ze} {w0:World} {ab:R8} {ac:R5} {r:R8} (c1:Nat) (hm:Zbx N ab ac=some r) (ae:Sl (Za.int .u32) col w0 aj ai ab.2) (h1:Sl (Za.int .u32) col w0 a1 ad ac):
    Calls prog 74 #[(.agg #[.bool ab.1,.slice aj ab.2.length ai]),.slice a1 ac.length ad] w0 (fun e w'=>∃ (col':Ze) (ra1:Option Addr) (rc2:Nat),e= .returned ((.agg #[.bool r.1,.slice ra1 r.2.length rc2]))∧Zh col w0 col' w'∧Zb (Za.int .u32) 95 c1 col' w' ra1 rc2 r.2):=by
 refine Y5 (m:=9) func74 rfl rfl rfl ?_;rw [Zbx.eq_1] at hm;have aa:=St.start col w0;refine go ?_;refine Xl (col:=(Zj col)) 1 rfl ?_;intro au av an ao af;refine Xg (col:=an) #[.bool false,.slice none (([]:List Int).length) 0] 2 zeroValue37 ?_;intro aw ax ay ak ag;refine go ?_;replace af:=af.gr ak;refine lV _ (Z2 isAgg37 sizeOf37 af)<|Yk rfl<|lV (.agg #[.bool false,.slice a1 ac.length ad]) (Wc (l:=[_,_]) (qs:=[(0,1),(1,1)]) underlying37 zeroValue37 ⟨rfl,sizeOf4,rfl,sizeOf35,trivial⟩ rfl) ?_;obtain ⟨az,ap,hm⟩:=bZ hm;replace ae:=ae.keep (Zi.start col w0);replace h1:=h1.keep (Zi.start col w0);replace aa:=(aa.grow ao).grow ak;refine Zk (Z14 3 ap (ae.ks aa) (h1.ks aa)) ?_;rintro _ a0 ⟨a2,a3,a4,rfl,al,ah⟩;refine ⟨_,rfl,?_⟩;replace ag:=ag.gr al;refine Zz ag ?_;intro a5 am aq ar;refine go ?_;cases hm;replace aa:=(aa.grow al).kp am aq;replace ah:=ah.kp am;exact ⟨rfl,_,ra ar.atN,_,_,_,rfl,aa.fin (cm [(3,c1)]),aa.fo ah⟩
def Zjd (N:Nat) (aa:R8) (ab:R8):Option R8:=
  if (decide (aa.1=ab.1))=true then ((Zif N aa.2 ab.2).bind fun ag=>(Qd N aa.1 ag).bind fun ac=>some (ac.1,ac.2)) else ((Zf4 N aa.2 ab.2).bind fun ad=>if ad.2=true then ((Qd N aa.1 ad.1).bind fun ae=>some (ae.1,ae.2)) else ((Zf4 N ab.2 aa.2).bind fun ah=>(Qd N ab.1 ah.1).bind fun af=>some (af.1,af.2)))
theorem Z12 {N a3 a4:Nat} {a5 a6:Option Addr} {col:Ze} {w0:World} {ao ap r:R8} (c1:Nat) (hm:Zjd N ao ap=some r) (ag:Sl (Za.int .u32) col w0 a5 a3 ao.2) (ah:Sl (Za.int .u32) col w0 a6 a4 ap.2):
    Calls prog 76 #[(.agg #[.bool ao.1,.slice a5 ao.2.length a3]),(.agg #[.bool ap.1,.slice a6 ap.2.length a4])] w0 (fun e w'=>∃ (col':Ze) (ra1:Option Addr) (rc2:Nat),e= .returned ((.agg #[.bool r.1,.slice ra1 r.2.length rc2]))∧Zh col w0 col' w'∧Zb (Za.int .u32) 95 c1 col' w' ra1 rc2 r.2):=by
 refine Y5 (m:=47) func76 rfl rfl rfl ?_;rw [Zjd.eq_1] at hm;have aa:=St.start col w0;refine go ?_;refine Xl (col:=(Zj col)) 1 rfl ?_;intro b3 b4 bf bg ad;refine Xl (col:=bf) 2 rfl ?_;intro b5 b6 bh a7 ac;refine Xg (col:=bh) #[.bool false,.slice none (([]:List Int).length) 0] 3 zeroValue37 ?_;intro b7 b8 ai aw ab;refine go ?_;refine Ya ⟨_,_,rfl⟩ ?_;replace ad:=(ad.gr a7).gr aw;refine lW ((ad.atN).nth (q:=0) rfl)<|Ya ⟨_,_,rfl⟩ ?_;replace ac:=ac.gr aw;refine lW ((ac.atN).nth (q:=0) rfl)<|go ?_;replace ag:=ag.keep (Zi.start col w0);replace ah:=ah.keep (Zi.start col w0);replace aa:=((aa.grow bg).grow a7).grow aw;refine Zo hm (fun hb hm=>?_) fun hb hm=>go ?_
 ·refine Zs<|Wh (col:=ai) [(0,1),(1,0),(2,1),(3,0),(4,1),(5,0),(6,3),(7,3),(8,2)] (by kernel_rfl) (by kernel_rfl)<|xF ⟨_,_,rfl⟩ ?_;refine xW (fun _ hC=>((ad.atN).nth (q:=0) rfl).gr (hC.bl ai)) ?_;refine xF ⟨_,_,rfl⟩ ?_;refine xW (fun _ hC=>((ad.atN).nth (q:=1) rfl).gr (hC.bl ai)) ?_;refine xF ⟨_,_,rfl⟩ ?_;refine xW (fun _ hC=>((ac.atN).nth (q:=1) rfl).gr (hC.bl ai)) ?_;refine xe rfl rfl ?_;intro b9 hC0;have hC:=hC0.bl ai;obtain ⟨ca,bi,hm⟩:=bZ hm;replace aa:=aa.grow hC;refine Zk (Z0z 4 bi (ag.ks aa) (ah.ks aa)) ?_;rintro _ cb ⟨aj,cc,cd,rfl,ax,ay⟩;refine ⟨_,rfl,?_⟩;refine Zl<|Xo aj hC0 ax<|xe rfl rfl ?_;intro bj hC0;replace ab:=(ab.gr hC).gr ax;have hC:=hC0.bl aj;obtain ⟨ce,bk,hm⟩:=bZ hm;replace ay:=ay.gr hC;refine Zk (Zcz 5 bk (ay.toSlF (Zd.int .u32))) ?_;rintro _ cf ⟨bm,cg,ch,rfl,af,ae⟩;refine ⟨_,rfl,?_⟩;replace ae:=ae.thaw (Z1 .u32) af ((Fz.refl (col:=aj)).froz 4) (by decide);replace af:=af.thawR (col:=aj);generalize Xe bj.heap.size aj bm=aq at *;refine Zl<|Xo aq hC0 af<|xe rfl rfl ?_;intro ci hC0;replace aa:=((aa.grow ax).grow hC).grow af;replace ab:=(ab.gr hC).gr af;have hC:=hC0.bl aq;replace ab:=ab.gr hC;refine Zz ab ?_;intro cj a8 bn az;refine Zl<|xk aq<|Y2 ?_;replace ae:=(ae.gr hC).kp a8;replace aa:=(aa.grow hC).kp a8 bn;intro ck hC;replace hC:=hC.bl aq;refine Vc ?_;cases hm;replace ae:=ae.gr hC;replace az:=az.gr hC;replace aa:=aa.grow hC;exact ⟨rfl,_,ra az.atN,_,_,_,rfl,aa.fin (cm [(5,c1)]),aa.fo ae⟩
 refine Xd ad<|Xd ac ?_;obtain ⟨ar,bo,hm⟩:=bZ hm;refine Zk (Zr3 6 bo (ag.ks aa) (ah.ks aa)) ?_;rintro _ bp ⟨a0,a9,ba,rfl,au,bq⟩;refine ⟨_,rfl,?_⟩;refine lM (.tuple #[.slice a9 ar.1.length ba,.bool ar.2])<|lV (.slice a9 ar.1.length ba) (Xk rfl rfl)<|lV (.bool ar.2) (Xk rfl rfl)<|go ?_;replace ad:=ad.gr au;replace ac:=ac.gr au;replace ab:=ab.gr au;replace aa:=aa.grow au;refine Zo hm (fun hb hm=>go ?_) fun hb hm=>go ?_
 ·refine Xd ad<|Yk rfl ?_;obtain ⟨cl,br,hm⟩:=bZ hm;refine Zk (Zcz 7 br (bq.toSlF (Zd.int .u32))) ?_;rintro _ cn ⟨bs,co,cp,rfl,ak,al⟩;refine ⟨_,rfl,?_⟩;replace al:=al.thaw (Z1 .u32) ak ((Fz.refl (col:=a0)).froz 6) (by decide);replace ak:=ak.thawR (col:=a0);generalize Xe bp.heap.size a0 bs=cq at *;replace ab:=ab.gr ak;refine Zz ab ?_;intro cr bb bt bu;refine go ?_;cases hm;replace aa:=(aa.grow ak).kp bb bt;replace al:=al.kp bb;exact ⟨rfl,_,ra bu.atN,_,_,_,rfl,aa.fin (cm [(7,c1)]),aa.fo al⟩
 refine Xd ac<|Xd ad ?_;obtain ⟨av,bv,hm⟩:=bZ hm;refine Zk (Zr3 8 bv (ah.ks aa) (ag.ks aa)) ?_;rintro _ bw ⟨a1,bc,bd,rfl,a2,bx⟩;refine ⟨_,rfl,?_⟩;refine lM (.tuple #[.slice bc av.1.length bd,.bool av.2])<|lV (.slice bc av.1.length bd) (Xk rfl rfl)<|lV (.bool av.2) (Xk rfl rfl)<|go ?_;refine Ya ⟨_,_,rfl⟩ ?_;replace ac:=ac.gr a2;refine lW ((ac.atN).nth (q:=0) rfl)<|Yk rfl ?_;obtain ⟨cs,bz,hm⟩:=bZ hm;refine Zk (Zcz 9 bz (bx.toSlF (Zd.int .u32))) ?_;rintro _ ct ⟨b0,cu,cv,rfl,am,an⟩;refine ⟨_,rfl,?_⟩;replace an:=an.thaw (Z1 .u32) am ((Fz.refl (col:=a1)).froz 8) (by decide);replace am:=am.thawR (col:=a1);generalize Xe bw.heap.size a1 b0=cw at *;replace ab:=(ab.gr a2).gr am;refine Zz ab ?_;intro cx be b1 b2;refine go ?_;cases hm;replace aa:=((aa.grow a2).grow am).kp be b1;replace an:=an.kp be;exact ⟨rfl,_,ra b2.atN,_,_,_,rfl,aa.fin (cm [(9,c1)]),aa.fo an⟩
def Zjg (N:Nat) (aa:R8):Option R8:=
  (Qd N aa.1 aa.2).bind fun ab=>some (ab.1,ab.2)
theorem Z15 {N ag:Nat} {ah:Option Addr} {col:Ze} {w0:World} {ab r:R8} (c1:Nat) (hm:Zjg N ab=some r) (ad:Sl (Za.int .u32) col w0 ah ag ab.2):
    Calls prog 153 #[(.agg #[.bool ab.1,.slice ah ab.2.length ag])] w0 (fun e w'=>∃ (col':Ze) (ra1:Option Addr) (rc2:Nat),e= .returned ((.agg #[.bool r.1,.slice ra1 r.2.length rc2]))∧Zh col w0 col' w'∧Zb (Za.int .u32) 95 c1 col' w' ra1 rc2 r.2):=by
 refine Y5 (m:=8) func153 rfl rfl rfl ?_;rw [Zjg.eq_1] at hm;have aa:=St.start col w0;refine go ?_;refine Xl (col:=(Zj col)) 1 rfl ?_;intro aq ar al am ac;refine Xg (col:=al) #[.bool false,.slice none (([]:List Int).length) 0] 2 zeroValue37 ?_;intro au av aw ai ae;refine go ?_;refine Ya ⟨_,_,rfl⟩ ?_;replace ac:=ac.gr ai;refine lW ((ac.atN).nth (q:=0) rfl)<|Xd ac ?_;obtain ⟨ax,an,hm⟩:=bZ hm;replace ad:=ad.keep (Zi.start col w0);replace aa:=(aa.grow am).grow ai;refine Zk (Zcz 3 an (ad.ks aa)) ?_;rintro _ ay ⟨az,a0,a1,rfl,aj,af⟩;refine ⟨_,rfl,?_⟩;replace ae:=ae.gr aj;refine Zz ae ?_;intro a2 ak ao ap;refine go ?_;cases hm;replace aa:=(aa.grow aj).kp ak ao;replace af:=af.kp ak;exact ⟨rfl,_,ra ap.atN,_,_,_,rfl,aa.fin (cm [(3,c1)]),aa.fo af⟩
def Zbw (N:Nat) (ae:Bool) (aa:List Int) (ab:List Int):Option R4:=
  (Zih N aa ab).bind fun ac=>(Zdt N aa ac).bind fun af=>(Zdt N ab ac).bind fun ag=>(Zjg N (ae,af.1)).bind fun ad=>some ((ad.1,ad.2),ag.1)
theorem Zkl {N ay az:Nat} {a1 a2:Option Addr} {col:Ze} {w0:World} {ak:Bool} {al am:R5} {r:R4} (c1 c2:Nat) (hm:Zbw N ak al am=some r) (h1:Sl (Za.int .u32) col w0 a1 ay al) (h2:Sl (Za.int .u32) col w0 a2 az am):
    Calls prog 77 #[.bool ak,.slice a1 al.length ay,.slice a2 am.length az] w0 (fun e w'=>∃ (col':Ze) (ra1:Option Addr) (rc2:Nat) (ra4:Option Addr) (rc5:Nat),e= .returned ((.agg #[.bool r.1.1,.slice ra1 r.1.2.length rc2,.slice ra4 r.2.length rc5]))∧Zh col w0 col' w'∧Zb (Za.int .u32) 95 c1 col' w' ra1 rc2 r.1.2∧Zb (Za.int .u32) 95 c2 col' w' ra4 rc5 r.2):=by
 refine Y5 (m:=37) func77 rfl rfl rfl ?_;rw [Zbw.eq_1] at hm;have aa:=St.start col w0;refine go ?_;refine Xg (col:=(Zj col)) #[.bool false,.slice none (([]:List Int).length) 0,.slice none (([]:List Int).length) 0] 1 zeroValue39 ?_;intro bo bp bq a8 an;refine go ?_;obtain ⟨br,a9,hm⟩:=bZ hm;replace h1:=h1.keep (Zi.start col w0);replace h2:=h2.keep (Zi.start col w0);replace aa:=aa.grow a8;refine Zk (Z01 2 a9 (h1.ks aa) (h2.ks aa)) ?_;rintro _ ba ⟨ao,bs,bt,rfl,a0,aj⟩;refine ⟨_,rfl,go ?_⟩;obtain ⟨ab,bb,hm⟩:=bZ hm;replace aa:=aa.grow a0;refine Zk (Zn3 3 4 bb ((h1.ks aa).froz 2) (aj.toSlF (Zd.int .u32))) ?_;rintro _ bc ⟨bd,ap,aq,a3,a4,rfl,ad,ag,bu⟩;refine ⟨_,rfl,?_⟩;replace ag:=ag.thaw (Z1 .u32) ad ((Fz.refl (col:=ao)).froz 2) (by decide);replace ad:=ad.thawR (col:=ao);generalize Xe ba.heap.size ao bd=ar at *;refine lM (.tuple #[.slice ap ab.1.length aq,.slice a3 ab.2.1.length a4,.int .i64 ab.2.2])<|lV (.slice ap ab.1.length aq) (Xk rfl rfl)<|lV (.slice a3 ab.2.1.length a4) (Xk rfl rfl)<|lV (.int .i64 ab.2.2) (Xk rfl rfl)<|go ?_;obtain ⟨ac,be,hm⟩:=bZ hm;replace aj:=aj.gr ad;replace aa:=aa.grow ad;refine Zk (Zn3 5 6 be ((h2.ks aa).froz 2) (aj.toSlF (Zd.int .u32))) ?_;rintro _ bf ⟨bg,au,av,a5,a6,rfl,ae,ah,bv⟩;refine ⟨_,rfl,?_⟩;replace ah:=ah.thaw (Z1 .u32) ae ((Fz.refl (col:=ar)).froz 2) (by decide);replace ae:=ae.thawR (col:=ar);generalize Xe bc.heap.size ar bg=aw at *;refine lM (.tuple #[.slice au ac.1.length av,.slice a5 ac.2.1.length a6,.int .i64 ac.2.2])<|lV (.slice au ac.1.length av) (Xk rfl rfl)<|lV (.slice a5 ac.2.1.length a6) (Xk rfl rfl)<|lV (.int .i64 ac.2.2) (Xk rfl rfl)<|go ?_;refine lV (.agg #[.bool ak,.slice ap ab.1.length aq]) (Wc (l:=[_,_]) (qs:=[(0,1),(1,1)]) underlying37 zeroValue37 ⟨rfl,sizeOf4,rfl,sizeOf35,trivial⟩ rfl) ?_;obtain ⟨a7,bh,hm⟩:=bZ hm;replace ag:=ag.gr ae;refine Zk (Z15 7 bh (ag.toSlF (Zd.int .u32))) ?_;rintro _ bw ⟨bi,bj,bk,rfl,af,ai⟩;refine ⟨_,rfl,?_⟩;replace ai:=ai.thaw (Z1 .u32) af ((Fz.refl (col:=aw)).froz 3) (by decide);replace af:=af.thawR (col:=aw);generalize Xe bf.heap.size aw bi=bx at *
 refine Yk rfl<|lV (.agg #[.bool a7.1,.slice bj a7.2.length bk,.slice au ac.1.length av]) (Wc (l:=[_,_]) (qs:=[(0,2),(2,1)]) underlying39 zeroValue39 ⟨rfl,sizeOf37,rfl,sizeOf35,trivial⟩ rfl) ?_;replace an:=(((an.gr a0).gr ad).gr ae).gr af;refine Zz an ?_;intro bz ax bm bn;refine go ?_;cases hm;replace aa:=((aa.grow ae).grow af).kp ax bm;replace ah:=(ah.gr af).kp ax;replace ai:=ai.kp ax;exact ⟨rfl,_,ra bn.atN,_,_,_,_,_,rfl,aa.fin (cm [(7,c1),(5,c2)]),aa.fo ai,aa.fo ah⟩
def S4 (N:Nat) (aa:R4) (ab:R4):Option R4:=
  (Ta N ((ab.1.1,ab.1.2),ab.2)).bind fun ag=>(Zbx N (aa.1.1,aa.1.2) ag).bind fun ad=>(Ta N ((aa.1.1,aa.1.2),aa.2)).bind fun ah=>(Zbx N (ab.1.1,ab.1.2) ah).bind fun ae=>(Zjd N (ad.1,ad.2) (ae.1,ae.2)).bind fun af=>(Ta N ((aa.1.1,aa.1.2),aa.2)).bind fun ai=>(Ta N ((ab.1.1,ab.1.2),ab.2)).bind fun aj=>(To N ai aj).bind fun ak=>(Zbw N af.1 af.2 ak).bind fun ac=>some ((ac.1.1,ac.1.2),ac.2)
theorem Zhi {N bo bz bp b0:Nat} {bq b1 br b2:Option Addr} {col:Ze} {w0:World} {aj ak r:R4} (c1 c2:Nat) (hm:S4 N aj ak=some r) (ba:Sl (Za.int .u32) col w0 bq bo aj.1.2) (bs:Sl (Za.int .u32) col w0 b1 bz aj.2) (bb:Sl (Za.int .u32) col w0 br bp ak.1.2) (bt:Sl (Za.int .u32) col w0 b2 b0 ak.2):
    Calls prog 16 #[(.agg #[.bool aj.1.1,.slice bq aj.1.2.length bo,.slice b1 aj.2.length bz]),(.agg #[.bool ak.1.1,.slice br ak.1.2.length bp,.slice b2 ak.2.length b0])] w0 (fun e w'=>∃ (col':Ze) (ra1:Option Addr) (rc2:Nat) (ra4:Option Addr) (rc5:Nat),e= .returned ((.agg #[.bool r.1.1,.slice ra1 r.1.2.length rc2,.slice ra4 r.2.length rc5]))∧Zh col w0 col' w'∧Zb (Za.int .u32) 95 c1 col' w' ra1 rc2 r.1.2∧Zb (Za.int .u32) 95 c2 col' w' ra4 rc5 r.2):=by
 refine Y5 (m:=27) func16 rfl rfl rfl ?_;rw [S4.eq_1] at hm;have aa:=St.start col w0;refine go ?_;refine Xl (col:=(Zj col)) 1 rfl ?_;intro cd c9 ce cf ae;refine Xl (col:=ce) 2 rfl ?_;intro cg da ch ca af;refine Xg (col:=ch) #[.bool false,.slice none (([]:List Int).length) 0,.slice none (([]:List Int).length) 0] 3 zeroValue39 ?_;intro db a4 ay b3 ab;refine go ?_;have bu:=Zq.clip (fun _=>false) ay a4;refine Zzp (col:=ay) [(0,1),(1,0),(2,0),(5,1),(6,0),(7,0),(3,3),(4,3),(8,3),(9,3),(10,3),(11,4),(12,2)] (by kernel_rfl) (by kernel_rfl) ⟨fun h=>absurd h (by decide),fun h=>absurd h (by decide),fun h=>absurd h (by decide),fun h=>absurd h (by decide),fun h=>absurd h (by decide),fun h=>absurd h (by decide),fun h=>absurd h (by decide),fun h=>absurd h (by decide),fun h=>absurd h (by decide),fun h=>absurd h (by decide),fun h=>absurd h (by decide),fun _=>⟨_,_,_,rfl,Zkx zeroValue37⟩,fun h=>absurd h (by decide),trivial⟩<|Zj5 (v:=(.pointer ((some (⟨cd,0,none⟩:Addr)).map (·.add 0)))) rfl rfl (fun _=>Tc (sz:=2) (off:=0) underlying39 rfl sizeOf37 (by decide) rfl rfl ⟨_,_,rfl⟩) ?_;replace ae:=((ae.gr ca).gr b3).kpp bu;refine Zg7 (v:=(.agg #[.bool aj.1.1,.slice bq aj.1.2.length bo])) rfl rfl (fun _ hC=>Wj isAgg37 sizeOf37 rfl rfl (((ae.atN).part 0 2 _ rfl).gr (hC.bl (Z6 a4 ay)))) ?_;replace af:=(af.gr b3).kpp bu;refine Zg7 (v:=(.agg #[.bool ak.1.1,.slice br ak.1.2.length bp,.slice b2 ak.2.length b0])) rfl rfl (fun _ hC=>Wj isAgg39 sizeOf39 rfl rfl (af.atN.gr (hC.bl (Z6 a4 ay)))) ?_;refine Zj5 (v:=(.pointer ((some (⟨cg,0,none⟩:Addr)).map (·.add 0)))) rfl rfl (fun _=>Tc (sz:=2) (off:=0) underlying39 rfl sizeOf37 (by decide) rfl rfl ⟨_,_,rfl⟩) ?_;refine Zg7 (v:=(.agg #[.bool ak.1.1,.slice br ak.1.2.length bp])) rfl rfl (fun _ hC=>Wj isAgg37 sizeOf37 rfl rfl (((af.atN).part 0 2 _ rfl).gr (hC.bl (Z6 a4 ay)))) ?_;refine Zg7 (v:=(.agg #[.bool aj.1.1,.slice bq aj.1.2.length bo,.slice b1 aj.2.length bz])) rfl rfl (fun _ hC=>Wj isAgg39 sizeOf39 rfl rfl (ae.atN.gr (hC.bl (Z6 a4 ay)))) ?_;refine Zct rfl rfl ?_;intro dc hC0;have hC:=hC0.bl (Z6 a4 ay);obtain ⟨dd,ci,hm⟩:=bZ hm;replace bb:=bb.keep (Zi.start col w0);replace bt:=bt.keep (Zi.start col w0);replace aa:=((((aa.grow cf).grow ca).grow b3).kpp bu).grow hC;refine Zk (Qo 4 ci (bb.ks aa) (bt.ks aa)) ?_;rintro _ ao ⟨au,de,df,rfl,az,b4⟩;refine ⟨_,rfl,?_⟩
 refine Zl ?_;refine ⟨fun w'=>Zh (Z6 ao au) ao (Z6 ao au) w',fun g=>(Z6 ao au) g=497,Zh.refl _ _,Zak,fun _=>⟨fun _ h=>T6 hC0 az h,fun b hb=>az.below.block b hb,fun g x1 x2=>Zey az g x1 (by first | exact x2 | (simp only [Ys,x2];rfl) | (simp only [Ys,Xm,x2];rfl))⟩,?_⟩;have bc:=Zq.clip (fun _=>false) au ao;refine Zct rfl rfl ?_;intro cj hC0;replace ab:=(((ab.kpp bu).gr hC).gr az).kpp bc;replace ae:=((ae.gr hC).gr az).kpp bc;replace af:=((af.gr hC).gr az).kpp bc;have hC:=hC0.bl (Z6 ao au);obtain ⟨dg,ck,hm⟩:=bZ hm;replace ba:=ba.keep (Zi.start col w0);replace aa:=((aa.grow az).kpp bc).grow hC;replace b4:=(b4.kpp bc).gr hC;refine Zk (Zkm 5 ck ((ba.ks aa).froz 4) (b4.toSlF (Zd.int .u32))) ?_;rintro _ a5 ⟨cl,dh,di,rfl,am,ap⟩;refine ⟨_,rfl,?_⟩;replace bs:=bs.keep (Zi.start col w0);replace ap:=ap.thaw (Z1 .u32) am ((Fz.refl (col:=(Z6 ao au))).froz 4) (by decide);replace am:=am.thawR (col:=(Z6 ao au));generalize Xe cj.heap.size (Z6 ao au) cl=bd at *;refine Zl ?_;refine ⟨fun w'=>Zh (Z6 a5 bd) a5 (Z6 a5 bd) w',fun g=>(Z6 a5 bd) g=497,Zh.refl _ _,Zak,fun _=>⟨fun _ h=>T6 hC0 am h,fun b hb=>am.below.block b hb,fun g x1 x2=>Zey am g x1 (by first | exact x2 | (simp only [Ys,x2];rfl) | (simp only [Ys,Xm,x2];rfl))⟩,?_⟩;have be:=Zq.clip (fun _=>false) bd a5;refine Zct rfl rfl ?_;intro dj hC0;replace ae:=((ae.gr hC).gr am).kpp be;replace af:=((af.gr hC).gr am).kpp be;replace ab:=((ab.gr hC).gr am).kpp be;have hC:=hC0.bl (Z6 a5 bd);obtain ⟨dl,cn,hm⟩:=bZ hm;replace aa:=((aa.grow am).kpp be).grow hC;refine Zk (Qo 6 cn (ba.ks aa) (bs.ks aa)) ?_;rintro _ aq ⟨av,dm,dn,rfl,aw,b5⟩;refine ⟨_,rfl,?_⟩;refine Zl ?_;refine ⟨fun w'=>Zh (Z6 aq av) aq (Z6 aq av) w',fun g=>(Z6 aq av) g=497,Zh.refl _ _,Zak,fun _=>⟨fun _ h=>T6 hC0 aw h,fun b hb=>aw.below.block b hb,fun g x1 x2=>Zey aw g x1 (by first | exact x2 | (simp only [Ys,x2];rfl) | (simp only [Ys,Xm,x2];rfl))⟩,?_⟩;have a6:=Zq.clip (fun _=>false) av aq;refine Zct rfl rfl ?_;intro co hC0;replace ap:=(((ap.kpp be).gr hC).gr aw).kpp a6;replace ae:=((ae.gr hC).gr aw).kpp a6;replace af:=((af.gr hC).gr aw).kpp a6;replace ab:=((ab.gr hC).gr aw).kpp a6;have hC:=hC0.bl (Z6 aq av)
 obtain ⟨dp,cp,hm⟩:=bZ hm;replace aa:=((aa.grow aw).kpp a6).grow hC;replace b5:=(b5.kpp a6).gr hC;refine Zk (Zkm 7 cp ((bb.ks aa).froz 6) (b5.toSlF (Zd.int .u32))) ?_;rintro _ ar ⟨cq,dq,dr,rfl,al,bf⟩;refine ⟨_,rfl,?_⟩;replace bf:=bf.thaw (Z1 .u32) al ((Fz.refl (col:=(Z6 aq av))).froz 6) (by decide);replace al:=al.thawR (col:=(Z6 aq av));generalize Xe co.heap.size (Z6 aq av) cq=ax at *;refine Zl ?_;refine ⟨fun w'=>Zh (Z6 ar ax) ar (Z6 ar ax) w',fun g=>(Z6 ar ax) g=497,Zh.refl _ _,Zak,fun _=>⟨fun _ h=>T6 hC0 al h,fun b hb=>al.below.block b hb,fun g x1 x2=>Zey al g x1 (by first | exact x2 | (simp only [Ys,x2];rfl) | (simp only [Ys,Xm,x2];rfl))⟩,?_⟩;have a7:=Zq.clip (fun _=>false) ax ar;refine Zct rfl rfl ?_;intro cr hC0;replace ap:=((ap.gr hC).gr al).kpp a7;replace ae:=((ae.gr hC).gr al).kpp a7;replace af:=((af.gr hC).gr al).kpp a7;replace ab:=((ab.gr hC).gr al).kpp a7;have hC:=hC0.bl (Z6 ar ax);obtain ⟨ds,cs,hm⟩:=bZ hm;replace bf:=(bf.kpp a7).gr hC;replace ap:=ap.gr hC;refine Zk (Z12 8 cs ((ap.toSlF (Zd.int .u32)).froz 7) ((bf.froz 5 (by decide)).toSlF (Zd.int .u32))) ?_;rintro _ ac ⟨ct,dt,du,rfl,an,ag⟩;refine ⟨_,rfl,?_⟩;replace ag:=ag.thaw (Z1 .u32) an (((Fz.refl (col:=(Z6 ar ax))).froz 5).froz 7) (by decide);replace an:=an.thawR (col:=(Z6 ar ax));generalize Xe cr.heap.size (Z6 ar ax) ct=ad at *;refine Zl ?_;refine ⟨fun w'=>Zh (Z6 ac ad) ac (Z6 ac ad) w',fun g=>(Z6 ac ad) g=497,Zh.refl _ _,Zak,fun _=>⟨fun _ h=>T6 hC0 an h,fun b hb=>an.below.block b hb,fun g x1 x2=>Zey an g x1 (by first | exact x2 | (simp only [Ys,x2];rfl) | (simp only [Ys,Xm,x2];rfl))⟩,?_⟩;have bg:=Zq.clip (fun _=>false) ad ac;refine xaF rfl rfl (Zkx zeroValue37) ?_;intro ah cu;refine Zct rfl rfl ?_;intro cv ⟨hC0,hZ0⟩;replace aa:=((((aa.grow al).kpp a7).grow hC).grow an).kpp bg;replace ae:=((ae.gr hC).gr an).kpp bg;replace af:=((af.gr hC).gr an).kpp bg;replace ab:=((ab.gr hC).gr an).kpp bg;have hC:=hC0.bl (Z6 ac ad);obtain ⟨bh,b6⟩:=Zrr (col:=(Z6 ac ad)) 9 hZ0 cu;replace b6:Zf 37 9 (W5 ah 9 (Z6 ac ad)) cv ah #[.bool false,.slice none (([]:List Int).length) 0]:=b6;refine Zz b6 ?_
 intro ai bi cw bv;refine Zl ?_;refine ⟨fun w'=>Zh (Z6 ai (W5 ah 9 (Z6 ac ad))) ai (Z6 ai (W5 ah 9 (Z6 ac ad))) w',fun g=>(Z6 ai (W5 ah 9 (Z6 ac ad))) g=497,Zh.refl _ _,Zak,fun h=>absurd h (by decide),?_⟩;have a8:=Zq.clip (fun _=>false) (W5 ah 9 (Z6 ac ad)) ai;refine Zzt ?_;replace ag:=((((ag.kpp bg).gr hC).kpp bh).kp bi).kpp a8;replace ae:=(((ae.gr hC).kpp bh).kp bi).kpp a8;replace af:=(((af.gr hC).kpp bh).kp bi).kpp a8;replace ab:=(((ab.gr hC).kpp bh).kp bi).kpp a8;replace aa:=(((aa.grow hC).kpp bh).kp bi cw).kpp a8;intro cb hC;replace hC:Zh (Z6 ai (W5 ah 9 (Z6 ac ad))) ai (Z6 ai (W5 ah 9 (Z6 ac ad))) cb:=.of_below hC.below;refine Zs<|Wh (col:=(Z6 ai (W5 ah 9 (Z6 ac ad)))) [(0,1),(1,0),(2,1),(3,0),(4,0),(6,0),(5,3),(7,3),(8,3),(9,3),(10,2)] (by kernel_rfl) (by kernel_rfl)<|xF ⟨_,_,rfl⟩ ?_;replace bv:=(bv.kpp a8).gr hC;refine xW (fun _ hC=>((bv.atN).nth (q:=0) rfl).gr (hC.bl (Z6 ai (W5 ah 9 (Z6 ac ad))))) ?_;refine xF ⟨_,_,rfl⟩ ?_;refine xW (fun _ hC=>((bv.atN).nth (q:=1) rfl).gr (hC.bl (Z6 ai (W5 ah 9 (Z6 ac ad))))) ?_;replace ae:=ae.gr hC;refine xv rfl rfl (fun _ hC=>Z2 isAgg39 sizeOf39 (ae.gr (hC.bl (Z6 ai (W5 ah 9 (Z6 ac ad)))))) ?_;replace af:=af.gr hC;refine xv rfl rfl (fun _ hC=>Z2 isAgg39 sizeOf39 (af.gr (hC.bl (Z6 ai (W5 ah 9 (Z6 ac ad)))))) ?_;refine xe rfl rfl ?_;intro cx hC0;replace ag:=ag.gr hC;replace ab:=ab.gr hC;replace aa:=aa.grow hC;have hC:Zh (Z6 ai (W5 ah 9 (Z6 ac ad))) cb (Z6 ai (W5 ah 9 (Z6 ac ad))) cx:=.of_below hC0.below;obtain ⟨dv,cy,hm⟩:=bZ hm;replace aa:=aa.grow hC;refine Zk (Qo 10 cy (ba.ks aa) (bs.ks aa)) ?_;rintro _ dw ⟨cc,dx,dy,rfl,bw,bj⟩;refine ⟨_,rfl,?_⟩;refine Zl<|Xo cc hC0 bw<|xe rfl rfl ?_;intro dz hC0;replace ag:=(ag.gr hC).gr bw;replace ab:=(ab.gr hC).gr bw;have hC:=hC0.bl cc;obtain ⟨d0,cz,hm⟩:=bZ hm;replace aa:=(aa.grow bw).grow hC;refine Zk (Qo 11 cz (bb.ks aa) (bt.ks aa)) ?_;rintro _ d1 ⟨bk,d2,d3,rfl,bm,b7⟩;refine ⟨_,rfl,?_⟩;refine Zl<|Xo bk hC0 bm<|xe rfl rfl ?_;intro c0 hC0;replace ag:=(ag.gr hC).gr bm;replace bj:=(bj.gr hC).gr bm;replace ab:=(ab.gr hC).gr bm;have hC:=hC0.bl bk
 obtain ⟨d4,c3,hm⟩:=bZ hm;replace bj:=bj.gr hC;replace b7:=b7.gr hC;refine Zk (Zbf 12 c3 ((bj.toSlF (Zd.int .u32)).froz 11) ((b7.froz 10 (by decide)).toSlF (Zd.int .u32))) ?_;rintro _ d5 ⟨c4,d6,d7,rfl,a0,bn⟩;refine ⟨_,rfl,?_⟩;replace bn:=bn.thaw (Z1 .u32) a0 (((Fz.refl (col:=bk)).froz 10).froz 11) (by decide);replace a0:=a0.thawR (col:=bk);generalize Xe c0.heap.size bk c4=a9 at *;refine Zl<|Xo a9 hC0 a0<|xe rfl rfl ?_;intro c5 hC0;replace aa:=((aa.grow bm).grow hC).grow a0;replace ag:=(ag.gr hC).gr a0;replace ab:=(ab.gr hC).gr a0;have hC:=hC0.bl a9;obtain ⟨d8,c6,hm⟩:=bZ hm;replace ag:=ag.gr hC;replace bn:=bn.gr hC;refine Zk (Zkl 13 14 c6 ((ag.toSlF (Zd.int .u32)).froz 12) ((bn.froz 8 (by decide)).toSlF (Zd.int .u32))) ?_;rintro _ d9 ⟨c7,ea,eb,ec,ed,rfl,a1,a2,a3⟩;refine ⟨_,rfl,?_⟩;replace a2:=a2.thaw (Z1 .u32) a1 (((Fz.refl (col:=a9)).froz 8).froz 12) (by decide);replace a3:=a3.thaw (Z1 .u32) a1 (((Fz.refl (col:=a9)).froz 8).froz 12) (by decide);replace a1:=a1.thawR (col:=a9);generalize Xe c5.heap.size a9 c7=bx at *;refine Zl<|Xo bx hC0 a1<|xe rfl rfl ?_;intro ee hC0;replace ab:=(ab.gr hC).gr a1;replace aa:=(aa.grow hC).grow a1;have hC:=hC0.bl bx;replace ab:=ab.gr hC;refine Zz ab ?_;intro ef b8 c8 b9;refine Zl<|xk bx<|Y2 ?_;replace a2:=(a2.gr hC).kp b8;replace a3:=(a3.gr hC).kp b8;replace aa:=(aa.grow hC).kp b8 c8;intro eg hC;replace hC:=hC.bl bx;refine Vc ?_;cases hm;replace a2:=a2.gr hC;replace a3:=a3.gr hC;replace b9:=b9.gr hC;replace aa:=aa.grow hC;exact ⟨rfl,_,ra b9.atN,_,_,_,_,_,rfl,aa.fin (cm [(13,c1),(14,c2)]),aa.fo a2,aa.fo a3⟩
def Q2 (N:Nat) (aa:R4) (ab:R4):Option R4:=
  (To N aa.1.2 ab.1.2).bind fun ad=>(Ta N ((aa.1.1,aa.1.2),aa.2)).bind fun ae=>(Ta N ((ab.1.1,ab.1.2),ab.2)).bind fun af=>(To N ae af).bind fun ag=>(Zbw N (!decide (aa.1.1=ab.1.1)) ad ag).bind fun ac=>some ((ac.1.1,ac.1.2),ac.2)
theorem Zkj {N a4 a5 a6 a7:Nat} {a8 a9 ba bb:Option Addr} {col:Ze} {w0:World} {ai aj r:R4} (c1 c2:Nat) (hm:Q2 N ai aj=some r) (ar:Sl (Za.int .u32) col w0 a8 a4 ai.1.2) (ax:Sl (Za.int .u32) col w0 a9 a5 ai.2) (au:Sl (Za.int .u32) col w0 ba a6 aj.1.2) (ay:Sl (Za.int .u32) col w0 bb a7 aj.2):
    Calls prog 28 #[(.agg #[.bool ai.1.1,.slice a8 ai.1.2.length a4,.slice a9 ai.2.length a5]),(.agg #[.bool aj.1.1,.slice ba aj.1.2.length a6,.slice bb aj.2.length a7])] w0 (fun e w'=>∃ (col':Ze) (ra1:Option Addr) (rc2:Nat) (ra4:Option Addr) (rc5:Nat),e= .returned ((.agg #[.bool r.1.1,.slice ra1 r.1.2.length rc2,.slice ra4 r.2.length rc5]))∧Zh col w0 col' w'∧Zb (Za.int .u32) 95 c1 col' w' ra1 rc2 r.1.2∧Zb (Za.int .u32) 95 c2 col' w' ra4 rc5 r.2):=by
 refine Y5 (m:=25) func28 rfl rfl rfl ?_;rw [Q2.eq_1] at hm;have aa:=St.start col w0;refine go ?_;refine Xl (col:=(Zj col)) 1 rfl ?_;intro bt bu bf bg al;refine Xl (col:=bf) 2 rfl ?_;intro bv bw bh bc am;refine Xg (col:=bh) #[.bool false,.slice none (([]:List Int).length) 0,.slice none (([]:List Int).length) 0] 3 zeroValue39 ?_;intro bx bz ad az ab;refine go ?_;refine Wh (col:=ad) [(0,1),(1,1),(2,0),(3,1),(4,1),(5,0),(6,1),(7,1),(8,1),(9,0),(10,1),(11,1),(12,0),(14,0),(16,0),(13,3),(15,3),(17,3),(18,3),(19,3),(20,2)] (by kernel_rfl) (by kernel_rfl)<|xF ⟨_,_,rfl⟩ ?_;refine xF (Zad ⟨_,_,rfl⟩) ?_;replace al:=(al.gr bc).gr az;refine xW (fun _ hC=>((((al.atN).part 0 2 _ rfl)).nth (q:=0) rfl).gr (hC.bl ad)) ?_;refine xF ⟨_,_,rfl⟩ ?_;refine xF (Zad ⟨_,_,rfl⟩) ?_;replace am:=am.gr az;refine xW (fun _ hC=>((((am.atN).part 0 2 _ rfl)).nth (q:=0) rfl).gr (hC.bl ad)) ?_;refine xu rfl rfl (fun _=>Zgy _ _ underlying4 rfl rfl) ?_;refine xF ⟨_,_,rfl⟩ ?_;refine xF (Zad ⟨_,_,rfl⟩) ?_;refine xW (fun _ hC=>((((al.atN).part 0 2 _ rfl)).nth (q:=1) rfl).gr (hC.bl ad)) ?_;refine xF ⟨_,_,rfl⟩ ?_;refine xF (Zad ⟨_,_,rfl⟩) ?_;refine xW (fun _ hC=>((((am.atN).part 0 2 _ rfl)).nth (q:=1) rfl).gr (hC.bl ad)) ?_;refine xv rfl rfl (fun _ hC=>Z2 isAgg39 sizeOf39 (al.gr (hC.bl ad))) ?_;refine xv rfl rfl (fun _ hC=>Z2 isAgg39 sizeOf39 (am.gr (hC.bl ad))) ?_;refine xe rfl rfl ?_;intro b0 hC0;have hC:=hC0.bl ad;obtain ⟨b1,bi,hm⟩:=bZ hm;replace ar:=ar.keep (Zi.start col w0);replace au:=au.keep (Zi.start col w0);replace aa:=(((aa.grow bg).grow bc).grow az).grow hC;refine Zk (Zbf 4 bi (ar.ks aa) (au.ks aa)) ?_;rintro _ b2 ⟨bd,b3,b4,rfl,a0,ac⟩;refine ⟨_,rfl,?_⟩;refine Zl<|Xo bd hC0 a0<|xe rfl rfl ?_;intro b5 hC0;replace ab:=(ab.gr hC).gr a0;have hC:=hC0.bl bd;obtain ⟨b6,bj,hm⟩:=bZ hm;replace ax:=ax.keep (Zi.start col w0);replace aa:=(aa.grow a0).grow hC;refine Zk (Qo 5 bj (ar.ks aa) (ax.ks aa)) ?_;rintro _ b7 ⟨be,b8,b9,rfl,av,an⟩;refine ⟨_,rfl,?_⟩;refine Zl<|Xo be hC0 av<|xe rfl rfl ?_;intro ca hC0;replace ac:=(ac.gr hC).gr av;replace ab:=(ab.gr hC).gr av;have hC:=hC0.bl be;obtain ⟨cb,bk,hm⟩:=bZ hm;replace ay:=ay.keep (Zi.start col w0);replace aa:=(aa.grow av).grow hC
 refine Zk (Qo 6 bk (au.ks aa) (ay.ks aa)) ?_;rintro _ cc ⟨ao,cd,ce,rfl,ap,a1⟩;refine ⟨_,rfl,?_⟩;refine Zl<|Xo ao hC0 ap<|xe rfl rfl ?_;intro bm hC0;replace ac:=(ac.gr hC).gr ap;replace an:=(an.gr hC).gr ap;replace ab:=(ab.gr hC).gr ap;have hC:=hC0.bl ao;obtain ⟨cf,bn,hm⟩:=bZ hm;replace an:=an.gr hC;replace a1:=a1.gr hC;refine Zk (Zbf 7 bn ((an.toSlF (Zd.int .u32)).froz 6) ((a1.froz 5 (by decide)).toSlF (Zd.int .u32))) ?_;rintro _ cg ⟨bo,ch,ci,rfl,ae,aq⟩;refine ⟨_,rfl,?_⟩;replace aq:=aq.thaw (Z1 .u32) ae (((Fz.refl (col:=ao)).froz 5).froz 6) (by decide);replace ae:=ae.thawR (col:=ao);generalize Xe bm.heap.size ao bo=ak at *;refine Zl<|Xo ak hC0 ae<|xe rfl rfl ?_;intro bp hC0;replace aa:=((aa.grow ap).grow hC).grow ae;replace ac:=(ac.gr hC).gr ae;replace ab:=(ab.gr hC).gr ae;have hC:=hC0.bl ak;obtain ⟨cj,bq,hm⟩:=bZ hm;replace ac:=ac.gr hC;replace aq:=aq.gr hC;refine Zk (Zkl 8 9 bq ((ac.toSlF (Zd.int .u32)).froz 7) ((aq.froz 4 (by decide)).toSlF (Zd.int .u32))) ?_;rintro _ ck ⟨br,cl,cn,co,cp,rfl,af,ag,ah⟩;refine ⟨_,rfl,?_⟩;replace ag:=ag.thaw (Z1 .u32) af (((Fz.refl (col:=ak)).froz 4).froz 7) (by decide);replace ah:=ah.thaw (Z1 .u32) af (((Fz.refl (col:=ak)).froz 4).froz 7) (by decide);replace af:=af.thawR (col:=ak);generalize Xe bp.heap.size ak br=aw at *;refine Zl<|Xo aw hC0 af<|xe rfl rfl ?_;intro cq hC0;replace ab:=(ab.gr hC).gr af;replace aa:=(aa.grow hC).grow af;have hC:=hC0.bl aw;replace ab:=ab.gr hC;refine Zz ab ?_;intro cr a2 bs a3;refine Zl<|xk aw<|Y2 ?_;replace ag:=(ag.gr hC).kp a2;replace ah:=(ah.gr hC).kp a2;replace aa:=(aa.grow hC).kp a2 bs;intro cs hC;replace hC:=hC.bl aw;refine Vc ?_;cases hm;replace ag:=ag.gr hC;replace ah:=ah.gr hC;replace a3:=a3.gr hC;replace aa:=aa.grow hC;exact ⟨rfl,_,ra a3.atN,_,_,_,_,_,rfl,aa.fin (cm [(8,c1),(9,c2)]),aa.fo ag,aa.fo ah⟩
def Zci (N:Nat) (aa:R8):Option Int:=
  (Zig N aa.2).bind fun ab=>if (decide (ab=0))=true then (some 0) else (if aa.1=true then (some (-1)) else (some 1))
theorem Zko {N af:Nat} {ag:Option Addr} {col:Ze} {w0:World} {ab:R8} {r:Int} (hm:Zci N ab=some r) (ae:Sl (Za.int .u32) col w0 ag af ab.2):
    Calls prog 62 #[(.agg #[.bool ab.1,.slice ag ab.2.length af])] w0 (fun e w'=>e= .returned ((.int .i64 r))∧Below w0.heap.size w0 w'):=by
 refine Xf 2 (m:=11) func62 rfl rfl rfl rfl rfl ?_;rw [Zci.eq_1] at hm;have aa:=St.start col w0;refine go ?_;refine Xl (col:=(Zj col)) 1 rfl ?_;intro am ai ah aj ac;refine go ?_;refine Xd ac ?_;obtain ⟨an,ak,hm⟩:=bZ hm;replace ae:=ae.keep (Zi.start col w0);replace aa:=aa.grow aj;refine Zk (Z00 ak (ae.ks aa)) ?_;rintro _ al ⟨rfl,ad⟩;refine ⟨_,rfl,?_⟩;replace ad:Zh ah ai ah al:=.of_below ad;refine go ?_;replace ac:=ac.gr ad;replace aa:=aa.grow ad;refine Zo hm (fun hb hm=>go ?_) fun hb hm=>go ?_
 ·cases hm;exact ⟨rfl,rfl,aa.below⟩
 refine Xd ac ?_;refine go ?_;refine Zo hm (fun hb hm=>go ?_) fun hb hm=>go ?_
 ·cases hm;exact ⟨rfl,rfl,aa.below⟩
 cases hm;exact ⟨rfl,rfl,aa.below⟩
def Zje (N:Nat) (aa:R8) (ab:R8):Option Int:=
  (Zci N (aa.1,aa.2)).bind fun ac=>(Zci N (ab.1,ab.2)).bind fun ad=>if (decide (ac<ad))=true then (some (-1)) else (if (decide (ad<ac))=true then (some 1) else ((Zdr N aa.2 ab.2).bind fun ae=>some (i64.wrap (ac * ae))))
theorem Z13 {N aj ak:Nat} {al am:Option Addr} {col:Ze} {w0:World} {ad ae:R8} {r:Int} (hm:Zje N ad ae=some r) (af:Sl (Za.int .u32) col w0 al aj ad.2) (ag:Sl (Za.int .u32) col w0 am ak ae.2):
    Calls prog 73 #[(.agg #[.bool ad.1,.slice al ad.2.length aj]),(.agg #[.bool ae.1,.slice am ae.2.length ak])] w0 (fun e w'=>e= .returned ((.int .i64 r))∧Below w0.heap.size w0 w'):=by
 refine Xf 4 (m:=26) func73 rfl rfl rfl rfl rfl ?_;rw [Zje.eq_1] at hm;have aa:=St.start col w0;refine go ?_;refine Xl (col:=(Zj col)) 1 rfl ?_;intro az a0 ao ap ac;refine Xl (col:=ao) 2 rfl ?_;intro a1 a2 ab an ah;refine go ?_;refine Vj (col:=ab) (by kernel_rfl) (by kernel_rfl) ?_;replace ac:=ac.gr an;refine qv rfl (fun _ hC=>Z2 isAgg37 sizeOf37 (ac.gr (hC.bl ab))) ?_;obtain ⟨aq,ar,hm⟩:=bZ hm;replace af:=af.keep (Zi.start col w0);replace aa:=(aa.grow ap).grow an;refine qc (v:=(.int .i64 aq)) rfl (fun _ hC=>⟨_,_,Zqk call62 rfl,(Zko ar ((af.ks aa).gr (hC.bl ab)):).mono fun _ _ h=>⟨h.1,hC.trans (.of_below h.2)⟩⟩) ?_;refine qv rfl (fun _ hC=>Z2 isAgg37 sizeOf37 (ah.gr (hC.bl ab))) ?_;obtain ⟨au,av,hm⟩:=bZ hm;replace ag:=ag.keep (Zi.start col w0);refine qc (v:=(.int .i64 au)) rfl (fun _ hC=>⟨_,_,Zqk call62 rfl,(Zko av ((ag.ks aa).gr (hC.bl ab)):).mono fun _ _ h=>⟨h.1,hC.trans (.of_below h.2)⟩⟩) ?_;refine go ?_;refine Ws ?_;intro aw hC;replace hC:=hC.bl ab;refine go ?_;replace ac:=ac.gr hC;replace ah:=ah.gr hC;replace aa:=aa.grow hC;refine Zo hm (fun hb hm=>go ?_) fun hb hm=>go ?_
 ·cases hm;exact ⟨rfl,rfl,aa.below⟩
 refine Zo hm (fun hb hm=>go ?_) fun hb hm=>go ?_
 ·cases hm;exact ⟨rfl,rfl,aa.below⟩
 refine Xd ac<|Xd ah ?_;obtain ⟨a3,ax,hm⟩:=bZ hm;refine Zk (Zn2 ax (af.ks aa) (ag.ks aa)) ?_;rintro _ ay ⟨rfl,ai⟩;refine ⟨_,rfl,?_⟩;replace ai:Zh ab aw ab ay:=.of_below ai;refine go ?_;cases hm;replace aa:=aa.grow ai;exact ⟨rfl,rfl,aa.below⟩

end Go.Proofs.YtkhnlgdenkikoaaGreat
