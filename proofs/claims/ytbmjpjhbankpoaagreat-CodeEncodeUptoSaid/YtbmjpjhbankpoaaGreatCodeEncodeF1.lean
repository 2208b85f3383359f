/-
  What functions of the program compute, as plain Lean functions (m_..), and proofs that they compute it (c_..). Printed by a program of the author; no conditions.
-/
import Derived.Test.YtbmjpjhbankpoaaGreatCodeEncodeBFloat
import Derived.Test.YtbmjpjhbankpoaaGreatProg
import Derived.Test.YtbmjpjhbankpoaaGreatCodeEncodeBBrief
import Derived.Test.YtbmjpjhbankpoaaGreatCodeEncodeBPiece
set_option linter.unusedVariables false
set_option maxRecDepth 100000
set_option maxHeartbeats 2000000
namespace Go.Proofs.YtbmjpjhbankpoaaGreat
open Go Go.RowKit
open Go.IntKind (i8 i16 i32 i64 u8 u16 u32 u64)
open Go.Proofs.Tryz
abbrev R9:=List ByteArray
abbrev R2:=List Int
abbrev Ra:=List R2
abbrev R4:=Bool×List Int
abbrev R1:=R4×List Int
abbrev Rc:=List R1
abbrev R0:=ByteArray×List ByteArray×(List R9)×Ra×(List Rc)
abbrev R6:=Nat×List ByteArray
abbrev R5:=Nat×List Int
abbrev R8:=Nat×(List ((Bool×R5)×R5))
abbrev R3:=ByteArray×R6×(List R6)×(List R5)×(List R8)
abbrev R7:=Int×List Int
abbrev Rb:=List Int×List Int×Int
abbrev Rd:=List Int×Int
abbrev Re:=List Int×(R1×R1)×Bool
abbrev Rf:=R4×R4×Int
abbrev Rg:=(R1×R1)×Int
abbrev Rh:=List Int×Bool
abbrev Ri:=ByteArray×Int
abbrev Rj:=List (R1×R1)

theorem Zt {x:Int} (h:-9223372036854775808≤x∧x≤9223372036854775807):i64.wrap x=x:=by rw [IntKind.wrap_i64];omega
theorem Z9 {α:Type} {c:Prop} [Decidable c] {x:Option α} (h:c):Z1 c x=x:=if_pos h
theorem Z7 {α:Type} {xs:List α} {k:Nat} (h:k<xs.length):Zo xs (k:Int)=some xs[k]:=by rw [Us];exact List.getElem?_eq_getElem h
theorem wS {k:Nat} (h:k<9223372036854775807):i64.wrap ((k:Int)+1)=((k+1:Nat):Int):=by rw [Zt (by omega)];rfl
theorem Zkd {α:Type} [DecidableEq α]:∀ {l r:List α},l.Nodup→(∀ x ∈ l,x ∈ r)→l.length≤r.length
 | [],_,_,_=>Nat.zero_le _
 | x :: l,r,h,hs=>by
  have h1:=List.nodup_cons.1 h
  have hx:=hs x List.mem_cons_self
  have h2:=Zkd (r:=r.erase x) h1.2 fun y hy=>(List.mem_erase_of_ne (fun e=>h1.1 (by rw [← e];exact hy))).2 (hs y (List.mem_cons_of_mem _ hy))
  rw [List.length_erase_of_mem hx] at h2
  have:=List.length_pos_of_mem hx
  rw [List.length_cons];omega
section
variable {K V:Type} [DecidableEq K]
theorem Ze5 (p:K×V) (es:List (K×V)) (k:K):Wh (p :: es) k=if p.1=k then some p.2 else Wh es k:=by
 rw [Wh,List.find?_cons]
 by_cases h:p.1=k
 ·rw [if_pos h,decide_eq_true h];rfl
 ·rw [if_neg h,decide_eq_false h];rfl
theorem Z2d (es:List (K×V)) (k k':K) (v:V) (h:Wh es k=none):Wh (es++[(k,v)]) k'=if k'=k then some v else Wh es k':=by
 induction es with
 | nil=>
  rw [List.nil_append,Ze5]
  by_cases hk:k=k'
  ·subst hk;simp
  ·rw [if_neg hk,if_neg (Ne.symm hk)]
 | cons p es ih=>
  rw [Ze5] at h
  split at h
  ·cases h
  ·rename_i hp
   rw [List.cons_append,Ze5,Ze5,ih h]
   by_cases h1:p.1=k'
   ·rw [if_pos h1,if_pos h1,if_neg (fun e=>hp (h1.trans e))]
   ·rw [if_neg h1,if_neg h1]
theorem Z2e (es:List (K×V)) (k k':K) (v:V):Wh (es.map fun p=>if p.1=k then (k,v) else p) k'=if k'=k then (Wh es k).map fun _=>v else Wh es k':=by
 induction es with
 | nil=>simp [Wh]
 | cons p es ih=>
  rw [List.map_cons,Ze5,Ze5,Ze5,ih]
  by_cases h1:p.1=k
  ·rw [if_pos h1,if_pos h1]
   by_cases h2:k'=k
   ·subst h2;rw [if_pos rfl,if_pos rfl];rfl
   ·rw [if_neg (Ne.symm h2),if_neg h2,if_neg h2,if_neg (fun e=>h2 (e.symm.trans h1))]
  ·rw [if_neg h1,if_neg h1]
   by_cases h3:p.1=k'
   ·rw [if_pos h3,if_pos h3,if_neg (fun e=>h1 (h3.trans e))]
   ·rw [if_neg h3,if_neg h3]
theorem Ztl (es:List (K×V)) (k k':K) (v:V):Wh (Sy es k v) k'=if k'=k then some v else Wh es k':=by
 rw [Sy]
 by_cases h:(Wh es k).isSome=true
 ·rw [if_pos h,Z2e]
  obtain ⟨u,hu⟩:=Option.isSome_iff_exists.1 h
  rw [hu];rfl
 ·rw [if_neg h]
  exact Z2d es k k' v (by simpa using h)
end
def Zb:List Int→Nat
 | []=>0
 | x :: l=>x.toNat+4294967296 * Zb l
def Zp (l:List Int):Prop:=∀ x ∈ l,0≤x∧x<4294967296
def Zd (n:Nat):List Int:=if n=0 then [] else ((n % 4294967296:Nat):Int) :: Zd (n / 4294967296)
termination_by n
decreasing_by omega
theorem Zp.nil:Zp []:=by simp [Zp]
theorem Zp.cons {x:Int} {l:List Int} (h:0≤x∧x<4294967296) (hl:Zp l):Zp (x :: l):=fun y hy=>by
 rcases List.mem_cons.1 hy with rfl | hy
 ·exact h
 ·exact hl y hy
theorem Zp.head {x:Int} {l:List Int} (h:Zp (x :: l)):0≤x∧x<4294967296:=h x List.mem_cons_self
theorem Zp.tail {x:Int} {l:List Int} (h:Zp (x :: l)):Zp l:=fun y hy=>h y (List.mem_cons_of_mem _ hy)
theorem Zp.app {a b:List Int} (ha:Zp a) (hb:Zp b):Zp (a++b):=fun y hy=>by
 rcases List.mem_append.1 hy with h | h
 ·exact ha y h
 ·exact hb y h
theorem Zp.take {a:List Int} (h:Zp a) (k:Nat):Zp (a.take k):=fun y hy=>h y (List.mem_of_mem_take hy)
theorem Zp.drop {a:List Int} (h:Zp a) (k:Nat):Zp (a.drop k):=fun y hy=>h y (List.mem_of_mem_drop hy)
theorem Zp.zeros (k:Nat):Zp (List.replicate k 0):=fun y hy=>by
 rw [List.eq_of_mem_replicate hy];decide
theorem Zp.set {a:List Int} (h:Zp a) (k:Nat) {v:Int} (hv:0≤v∧v<4294967296):Zp (a.set k v):=fun y hy=>by
 rcases List.mem_or_eq_of_mem_set hy with h1 | rfl
 ·exact h y h1
 ·exact hv
theorem Zp.get {a:List Int} (h:Zp a) {k:Nat} (hk:k<a.length):0≤a[k]∧a[k]<4294967296:=h _ (List.getElem_mem hk)
theorem Yd:Zb []=0:=rfl
theorem Y4 (x:Int) (l:List Int):Zb (x :: l)=x.toNat+4294967296 * Zb l:=rfl
theorem T3 (a b:List Int):Zb (a++b)=Zb a+4294967296 ^ a.length * Zb b:=by
 induction a with
 | nil=>simp [Zb]
 | cons x a ih=>
  rw [List.cons_append,Y4,Y4,ih,List.length_cons,Nat.pow_succ]
  grind
theorem Uw (k:Nat):Zb (List.replicate k 0)=0:=by
 induction k with
 | zero=>rfl
 | succ k ih=>rw [List.replicate_succ,Y4,ih];rfl
theorem Sz {l:List Int} (h:Zp l):Zb l<4294967296 ^ l.length:=by
 induction l with
 | nil=>simp [Zb]
 | cons x l ih=>
  have h1:=h.head
  have h2:=ih h.tail
  rw [Y4,List.length_cons,Nat.pow_succ]
  have h3:(Zb l+1) * 4294967296≤4294967296 ^ l.length * 4294967296:=Nat.mul_le_mul_right _ h2
  omega
theorem Z0 (n:Nat):Zb (Zd n)=n:=by
 induction n using Nat.strongRecOn with
 | ind n ih=>
  rw [Zd]
  split
  ·rename_i h;rw [h];rfl
  ·rename_i h
   rw [Y4,ih (n / 4294967296) (by omega)]
   omega
theorem Wz:Zd 0=[]:=by rw [Zd,if_pos rfl]
theorem Zdm {n:Nat} (h:n≠0):Zd n=((n % 4294967296:Nat):Int) :: Zd (n / 4294967296):=by rw [Zd,if_neg h]
theorem W8:Zd 1=[1]:=by rw [Zdm (by decide)];simp [Wz]
theorem Z2 (n:Nat):Zp (Zd n):=by
 induction n using Nat.strongRecOn with
 | ind n ih=>
  rw [Zd]
  split
  ·exact .nil
  ·exact .cons (by omega) (ih (n / 4294967296) (by omega))
theorem Wt {k n:Nat}:(Zd n).length≤k↔n<4294967296 ^ k:=by
 induction k generalizing n with
 | zero=>
  by_cases h:n=0
  ·subst h;simp [Wz]
  ·rw [Zdm h];simp;omega
 | succ k ih=>
  by_cases h:n=0
  ·subst h;simp [Wz];exact Nat.pow_pos (by decide)
  ·rw [Zdm h,List.length_cons,Nat.add_le_add_iff_right,ih,Nat.pow_succ]
   omega
theorem X0 {l:List Int} (h:Zp l):(Zd (Zb l)).length≤l.length:=Wt.2 (Sz h)
theorem Zfu {n:Nat}:Zd n=[]↔n=0:=by
 by_cases h:n=0
 ·subst h;simp [Wz]
 ·rw [Zdm h];simp [h]
theorem Ztb {x:Int} {l:List Int} (h:0≤x∧x<4294967296) (h0:x=0→Zb l≠0):Zd (Zb (x :: l))=x :: Zd (Zb l):=by
 have hn:Zb (x :: l)≠0:=by
  rw [Y4]
  by_cases hx:x=0
  ·have:=h0 hx;omega
  ·omega
 rw [Zdm hn,Y4]
 congr 1
 ·omega
 ·congr 1;omega
theorem Z2y {a:List Int} {x:Int} (h:0<x):Zb (a++[x])≠0:=by
 rw [T3,Y4,Yd]
 have:0<4294967296 ^ a.length * (x.toNat+4294967296 * 0):=Nat.mul_pos (Nat.pow_pos (by decide)) (by omega)
 omega
theorem Z15 {a:List Int} {x:Int} (h:Zp (a++[x])) (hx:x≠0):Zd (Zb (a++[x]))=a++[x]:=by
 induction a with
 | nil=>
  have:=h.head
  rw [List.nil_append,Ztb this (fun e=>absurd e hx),Yd,Wz]
 | cons y a ih=>
  have h1:0≤x∧x<4294967296:=h x (by simp)
  rw [List.cons_append,Ztb h.head fun _=>Z2y (by omega),ih h.tail]
theorem Zt6 (a:List Int):Zb (a++[0])=Zb a:=by rw [T3];simp [Zb]
theorem Zfs {l:List Int} (h:0<l.length):l.take (l.length - 1)++[l[l.length - 1]]=l:=by
 have:=List.take_append_drop (l.length - 1) l
 rw [List.drop_eq_getElem_cons (by omega),List.drop_eq_nil_of_le (by omega)] at this
 exact this
theorem Zlp {n:Nat} (h:0<(Zd n).length):(Zd n)[(Zd n).length - 1]≠0:=by
 induction n using Nat.strongRecOn with
 | ind n ih=>
  by_cases h0:n=0
  ·subst h0;simp [Wz] at h
  ·have e:=Zdm h0
   by_cases h1:n / 4294967296=0
   ·have:Zd n=[((n % 4294967296:Nat):Int)]:=by rw [e,h1,Wz]
    simp only [this,List.length_singleton,Nat.sub_self,List.getElem_cons_zero]
    omega
   ·have h2:0<(Zd (n / 4294967296)).length:=by
     rw [Zdm h1];simp
    have:=ih (n / 4294967296) (by omega) h2
    have e2:(Zd n).length - 1=(Zd (n / 4294967296)).length - 1+1:=by rw [e];simp;omega
    have e3:(Zd n)[(Zd n).length - 1]?=(Zd (n / 4294967296))[(Zd (n / 4294967296)).length - 1]?:=by
     rw [e2]
     conv=>lhs;rw [e]
     rw [List.getElem?_cons_succ]
    rw [List.getElem?_eq_getElem (by omega),List.getElem?_eq_getElem (by omega)] at e3
    rw [Option.some.inj e3]
    exact this
theorem Uu {l:List Int} {k:Nat} (hk:k<l.length) (v:Int):Zb (l.set k v)+4294967296 ^ k * (l[k]).toNat=Zb l+4294967296 ^ k * v.toNat:=by
 induction l generalizing k with
 | nil=>simp at hk
 | cons x l ih=>
  cases k with
  | zero=>simp only [List.set_cons_zero,Y4,List.getElem_cons_zero,Nat.pow_zero,Nat.one_mul];omega
  | succ k=>
   have h:=ih (k:=k) (by simpa using hk)
   simp only [List.set_cons_succ,Y4,List.getElem_cons_succ,Nat.pow_succ]
   grind
theorem Zou {l:List Int} {k:Nat} (hk:k<l.length):Zb (l.take (k+1))=Zb (l.take k)+4294967296 ^ k * (l[k]).toNat:=by
 rw [List.take_add_one,List.getElem?_eq_getElem hk,T3,Option.toList_some,Y4,Yd,List.length_take,Nat.min_eq_left (by omega)]
 simp
theorem Ud {l:List Int} {k:Nat} (hk:k<l.length):Zb (l.drop k)=(l[k]).toNat+4294967296 * Zb (l.drop (k+1)):=by
 rw [List.drop_eq_getElem_cons hk,Y4]
theorem Uv (l:List Int) (k:Nat):Zb l=Zb (l.take k)+4294967296 ^ k * Zb (l.drop k):=by
 by_cases h:k≤l.length
 ·conv=>lhs;rw [← List.take_append_drop k l]
  rw [T3,List.length_take,Nat.min_eq_left h]
 ·rw [List.take_of_length_le (by omega),List.drop_eq_nil_of_le (by omega)];simp [Zb]
theorem V3 {x:Int} (h:0≤x∧x<4294967296):u32.wrap x=x:=by rw [IntKind.wrap_u32];omega
theorem Xm {x:Int} (h:0≤x∧x<18446744073709551616):u64.wrap x=x:=by rw [IntKind.wrap_u64];omega
theorem Zfd {x:Int}:X4 .u64 x 32=x / 4294967296:=by
 have:(min (32:Int).toNat u64.bits)=32:=by decide
 rw [X4,this]
 exact Int.fdiv_eq_ediv_of_nonneg _ (by decide)
def Za0 (aa:List Int) (kk_L1:(List Int→Option R2)) (ab:Bool):Option R2:=
  if ab=true then (Z1 ((0:Int)≤(i64.wrap ((aa.length:Int) - 1))∧(i64.wrap ((aa.length:Int) - 1))≤(aa.length:Int)) (kk_L1 (aa.take (Int.toNat (i64.wrap ((aa.length:Int) - 1)))))) else (some aa)
def Ty (N:Nat):Nat→R2→Option R2
  | 0,_=>none
  | ab+1,aa=>if (decide (0<(aa.length:Int)))=true then ((Zo aa (i64.wrap ((aa.length:Int) - 1))).bind fun ac=>Za0 aa (Ty N ab) (decide (ac=0))) else (Za0 aa (Ty N ab) false)
termination_by structural x=>x
def Un (N:Nat) (aa:List Int):Option R2:=
  Ty N N aa
theorem Tp {N ap:Nat} {a0:Option Addr} {col:Zf} {w0:World} {ag r:R2} (hm:Un N ag=some r) (h0:Sl (Za.int .u32) col w0 a0 ap ag):
    Calls Tryz.prog 217 #[.slice a0 ag.length ap] w0 (fun e w'=>∃ (col':Zf) (ra1:Option Addr) (rc2:Nat),e= .returned ((.slice ra1 r.length rc2))∧Zg col w0 col' w'∧Sl (Za.int .u32) col' w' ra1 rc2 r):=by
 refine Xi 2 (m:=21) func217 rfl rfl rfl rfl rfl ?_;rw [Un.eq_1] at hm;have ab:=St.start col w0;refine go ?_;replace h0:=h0.keep (Zj.start col w0);refine Z8 [1000000] (fun n f ah=>∃ ai ad ae aa af,af=n∧Ty N af aa=some r∧St w0 (Zi col) ai ah∧Sl (Za.int .u32) ai ah ad ae aa∧[0].map f=[.slice ad aa.length ae]) N ⟨_,_,_,_,_,rfl,hm,ab,(h0.ks ab),rfl⟩ ?_;clear hm;intro n f ah hI;obtain ⟨ai,ad,ae,aa,af,hn,hm,ab,ac,hs⟩:=hI;subst hn;refine .lL [0] hs ?_
 cases af with
 | zero=>rw [Ty.eq_1] at hm;cases hm
 | succ af=>
  rw [Ty.eq_2] at hm;refine Zy<|Zy ?_;refine Wp.cutK [0,1000000] (fun f aj=>∃ ak al,Za0 aa (Ty N af) al=some r∧St w0 (Zi col) ak aj∧Sl (Za.int .u32) ak aj ad ae aa∧[14].map f=[.bool al]) ?_ ?_
  ·intro f aj hJ;obtain ⟨ak,al,hm,ab,ac,hs⟩:=hJ;rw [Za0.eq_1] at hm;refine .lL [14] hs ?_;refine Zq hm (fun hb hm=>go ?_) fun hb hm=>go ?_
   ·obtain ⟨am,hm⟩:=Z3 hm;refine lv (v:=.slice ad (Int.toNat (i64.wrap ((aa.length:Int) - 1))) ae) rfl rfl (V1 underlying43 sizeOf79 rfl rfl am.1 (by have:=ac.1.2;have:=am.2;omega))<|.ld (d:=19) (v:=(.slice ad ((aa.take (Int.toNat (i64.wrap ((aa.length:Int) - 1)))).length) ae)) (congrArg (fun n=>Value.slice ad n ae) (List.length_take_of_le (show (Int.toNat (i64.wrap ((aa.length:Int) - 1)))≤aa.length by have:=am.2;omega)).symm) ?_;refine go ?_;exact ⟨af,by omega,rfl,⟨_,_,_,_,_,rfl,hm,ab,(ac.take (Int.toNat (i64.wrap ((aa.length:Int) - 1)))),rfl⟩⟩
   cases hm;exact ⟨rfl,_,_,_,rfl,ab.fin (cm []),ab.fs ac⟩
  refine go ?_;refine Xv hm (fun an hm=>go ?_) fun an hm=>go ?_
  ·obtain ⟨aq,ao,hm⟩:=bZ hm;refine lI ao (ac.addr ao) ?_;refine go ?_;refine lW (ac.atInt ao)<|go ?_;refine lV (.bool (decide (aq=0))) (Xj (congrArg Value.bool an) rfl)<|Zk ?_;exact ⟨rfl,_,_,hm,ab,ac,rfl⟩
  refine lV (.bool false) (Xs (congrArg Value.bool an) rfl)<|Zk ?_;exact ⟨rfl,_,_,hm,ab,ac,rfl⟩
def Zdw (N:Nat) (ab:List Int) (ac:List Int):Nat→Int→Option Int
  | 0,_=>none
  | af+1,aa=>if (decide (0≤aa))=true then ((Zo ab aa).bind fun ad=>(Zo ac aa).bind fun ae=>if (decide (ad<ae))=true then (some (-1)) else (if (decide (ae<ad))=true then (some 1) else ((Zdw N ab ac af) (i64.wrap (aa - 1))))) else (some 0)
termination_by structural x=>x
def Zdv (N:Nat) (ac:List Int) (ad:List Int):Option Int:=
  (Un N ac).bind fun aa=>(Un N ad).bind fun ab=>if (!decide ((aa.length:Int)=(ab.length:Int)))=true then (if (decide ((aa.length:Int)<(ab.length:Int)))=true then (some (-1)) else (some 1)) else (Zdw N aa ab N (i64.wrap ((aa.length:Int) - 1)))
theorem Znl {N al am:Nat} {a0 a1:Option Addr} {col:Zf} {w0:World} {ai aj:R2} {r:Int} (hm:Zdv N ai aj=some r) (h0:Sl (Za.int .u32) col w0 a0 al ai) (h1:Sl (Za.int .u32) col w0 a1 am aj):
    Calls Tryz.prog 250 #[.slice a0 ai.length al,.slice a1 aj.length am] w0 (fun e w'=>e= .returned ((.int .i64 r))∧Below w0.heap.size w0 w'):=by
 refine Xi 4 (m:=45) func250 rfl rfl rfl rfl rfl ?_;rw [Zdv.eq_1] at hm;have aa:=St.start col w0;refine go ?_;obtain ⟨an,aq,hm⟩:=bZ hm;replace h0:=h0.keep (Zj.start col w0);refine Zh (Tp aq (h0.ks aa)) ?_;rintro _ az ⟨a2,ar,au,rfl,av,ab⟩;refine ⟨_,rfl,?_⟩;refine Wa rfl ?_;obtain ⟨ao,aw,hm⟩:=bZ hm;replace h1:=h1.keep (Zj.start col w0);replace aa:=aa.grow av;refine Zh (Tp aw (h1.ks aa)) ?_;rintro _ a3 ⟨a4,ax,ay,rfl,ap,ad⟩;refine ⟨_,rfl,go ?_⟩;replace ab:=ab.gr ap;replace aa:=aa.grow ap;refine Zq hm (fun hb hm=>go ?_) fun hb hm=>go ?_
 ·refine Zq hm (fun hb hm=>go ?_) fun hb hm=>go ?_
  ·cases hm;exact ⟨rfl,rfl,aa.below⟩
  cases hm;exact ⟨rfl,rfl,aa.below⟩
 refine Z8 [0,1,1000000] (fun n f ah=>∃ ac ak ae,ae=n∧Zdw N an ao ae ak=some r∧St w0 (Zi col) ac ah∧Sl (Za.int .u32) ac ah ar au an∧Sl (Za.int .u32) ac ah ax ay ao∧[5].map f=[.int .i64 ak]) N ⟨_,_,_,rfl,hm,aa,ab,ad,rfl⟩ ?_;clear hm;intro n f ah hI;obtain ⟨ac,ak,ae,hn,hm,aa,ab,ad,hs⟩:=hI;subst hn;refine .lL [5] hs ?_
 cases ae with
 | zero=>rw [Zdw.eq_1] at hm;cases hm
 | succ ae=>
  rw [Zdw.eq_2] at hm;refine go ?_;refine Zq hm (fun hb hm=>go ?_) fun hb hm=>go ?_
  ·refine Wc (col:=ac) (by kernel_rfl) (by kernel_rfl)<|go ?_;obtain ⟨a5,af,hm⟩:=bZ hm;refine qI af (ab.addr af)<|qW (fun _ hC=>(ab.gr (hC.bl ac)).atInt af) ?_;refine go ?_;obtain ⟨a6,ag,hm⟩:=bZ hm;refine qI ag (ad.addr ag)<|qW (fun _ hC=>(ad.gr (hC.bl ac)).atInt ag) ?_;refine go ?_;refine Yf ?_;intro a7 hC;replace hC:=hC.bl ac;replace ab:=ab.gr hC;replace ad:=ad.gr hC;replace aa:=aa.grow hC;refine Zq hm (fun hb hm=>go ?_) fun hb hm=>go ?_
   ·cases hm;exact ⟨rfl,rfl,aa.below⟩
   refine Wc (col:=ac) (by kernel_rfl) (by kernel_rfl)<|go ?_;refine qI af (ab.addr af)<|qW (fun _ hC=>(ab.gr (hC.bl ac)).atInt af) ?_;refine go ?_;refine qI ag (ad.addr ag)<|qW (fun _ hC=>(ad.gr (hC.bl ac)).atInt ag) ?_;refine go ?_;refine Yf ?_;intro a8 hC;replace hC:=hC.bl ac;replace ab:=ab.gr hC;replace ad:=ad.gr hC;replace aa:=aa.grow hC;refine Zq hm (fun hb hm=>go ?_) fun hb hm=>go ?_
   ·cases hm;exact ⟨rfl,rfl,aa.below⟩
   exact ⟨ae,by omega,rfl,⟨_,_,_,rfl,hm,aa,ab,ad,rfl⟩⟩
  cases hm;exact ⟨rfl,rfl,aa.below⟩
theorem Z0x:W4 Tryz.prog 79 1 4:=⟨Tryz.t79,_,rfl,rfl,rfl,rfl,rfl⟩
def Zc1 (aa:List Int):Option R2:=
  Z1 ((([]:List Int).length+aa.length) * 4≤140737488355328∧([]:List Int).length+aa.length≤maxLen) (some (([]:List Int)++aa))
theorem Zlh {ad:Nat} {a0:Option Addr} {col:Zf} {w0:World} {ac r:R2} (c1:Nat) (hm:Zc1 ac=some r) (h0:Sl (Za.int .u32) col w0 a0 ad ac):
    Calls Tryz.prog 273 #[.slice a0 ac.length ad] w0 (fun e w'=>∃ (col':Zf) (ra1:Option Addr) (rc2:Nat),e= .returned ((.slice ra1 r.length rc2))∧Zg col w0 col' w'∧Zc (Za.int .u32) 79 c1 col' w' ra1 rc2 r):=by
 refine Xi 2 (m:=8) func273 rfl rfl rfl rfl rfl ?_;rw [Zc1.eq_1] at hm;have aa:=St.start col w0;refine go ?_;replace h0:=h0.keep (Zj.start col w0);rcases Z2t h0 with ab | ab
 ·replace hm:some ([]:List Int)=some r:=by have h0:=ab.2;subst h0;simpa [Z1,maxLen] using hm
  refine lv (v:=.bool a0.isNone) rfl rfl (Zu6 underlying43 rfl)<|.ld (d:=4) (v:=.bool true) (congrArg Value.bool ab.1)<|Zk<|Y8 rfl<|go ?_;cases hm;exact ⟨rfl,_,none,0,rfl,aa.fin (cm []),Zc.nil⟩
 refine lv (v:=.bool a0.isNone) rfl rfl (Zu6 underlying43 rfl)<|.ld (d:=4) (v:=.bool false) (congrArg Value.bool ab)<|Zk<|Y7 rfl<|go ?_;refine Z1r (col:=(Zi col)) (r:=(Za.int .u32)) 1 rfl underlying43 Z0x rfl ?_;intro aj ak al ae af;refine Wa rfl ?_;obtain ⟨ag,hm⟩:=Z3 hm;replace h0:=h0.gr ae;refine Ws af h0.srcC ag ?_;intro am an ao ap ah ai;refine go ?_;cases hm;replace aa:=(aa.grow ae).kpp ah;exact ⟨rfl,_,_,_,rfl,aa.fin (cm [(1,c1)]),aa.fo ai⟩
def Zlw (aa:Int) (kk_L1:(List Int→Int→Int→Option R2)) (ab:List Int) (ac:Int):Option R2:=
  kk_L1 ab ac (i64.wrap (aa+1))
def Zgx (ab:List Int) (aa:Int) (kk_L1:(List Int→Int→Int→Option R2)) (ac:Int) (ad:Int):Option R2:=
  (Zo ab aa).bind fun ae=>(some (ab.set (Int.toNat aa) (u32.wrap (ae - (u32.wrap ac))))).bind fun af=>Zlw aa kk_L1 af ad
def Zgw (aa:List Int) (ab:Int) (kk_L1:(List Int→Int→Int→Option R2)) (ac:Int):Option R2:=
  (Zo aa ab).bind fun ad=>if (decide ((u64.wrap ad)<ac))=true then (Zgx aa ab kk_L1 ac 1) else (Zgx aa ab kk_L1 ac 0)
def Tx (N:Nat) (ac:List Int) (ab:List Int):Nat→R2→Int→Int→Option R2
  | 0,_,_,_=>none
  | ae+1,ad,af,aa=>if (decide (aa<(ac.length:Int)))=true then (if (decide (aa<(ab.length:Int)))=true then ((Zo ab aa).bind fun ag=>Zgw ad aa (Tx N ac ab ae) (u64.wrap (af+(u64.wrap ag)))) else (Zgw ad aa (Tx N ac ab ae) af)) else (some ad)
termination_by structural x=>x
def Zlv (N:Nat) (aa:List Int) (ab:List Int):Option R2:=
  Tx N aa ab N aa 0 0
theorem Zy0 {N ae an:Nat} {a0 a1:Option Addr} {col:Zf} {w0:World} {ab ag r:R2} (qc0:Nat) (hm:Zlv N ab ag=some r) (hd:Qv [qc0]=true) (h0:Zc (Za.int .u32) 79 qc0 col w0 a0 ae ab) (h1:Sl (Za.int .u32) col w0 a1 an ag):
    Calls Tryz.prog 286 #[.slice a0 ab.length ae,.slice a1 ag.length an] w0 (fun e w'=>∃ (col':Zf),e= .returned (.tuple #[])∧Zz (pS [qc0]) col w0 col' w'∧Zc (Za.int .u32) 79 qc0 col' w' a0 ae r∧r.length=ab.length):=by
 refine Znz (m:=40) (args:=[.slice a0 ab.length ae,.slice a1 ag.length an]) func286 rfl rfl rfl rfl ?_;rw [Zlv.eq_1] at hm;have aa:=St.startL (l:=[qc0]) rfl col w0;replace h0:=h0.startL (Zby hd 0 rfl) (Zbx hd 0 rfl);refine go ?_;refine Z8 [1,8,1000000] (fun n f ao=>∃ ap ac aq ah af,af=n∧Tx N ab ag af ac aq ah=some r∧St w0 (Xw [qc0] col) ap ao∧Zc (Za.int .u32) 79 440 ap ao a0 ae ac∧ac.length=ab.length∧ac.length=ab.length∧[0,4,9].map f=[.slice a0 ac.length ae,.int .u64 aq,.int .i64 ah]) N ⟨_,_,0,0,_,rfl,hm,aa,h0,rfl,rfl,rfl⟩ ?_;clear hm;intro n f ao hI;obtain ⟨ap,ac,aq,ah,af,hn,hm,aa,ad,a8,a9,hs⟩:=hI;subst hn;refine .lL [0,4,9] hs ?_;replace h1:=h1.keep (Zj.startL [qc0] col w0)
 cases af with
 | zero=>rw [Tx.eq_1] at hm;cases hm
 | succ af=>
  rw [Tx.eq_2] at hm;refine go ?_;refine Zq hm (fun hb hm=>?_) fun hb hm=>go ?_
  ·refine X8<|Zy ?_;refine Wp.cutK [1,8,9,1000000] (fun f ar=>∃ au ai av,Zlw ah (Tx N ab ag af) ai av=some r∧St w0 (Xw [qc0] col) au ar∧Zc (Za.int .u32) 79 440 au ar a0 ae ai∧ai.length=ab.length∧ai.length=ab.length∧[0,4].map f=[.slice a0 ai.length ae,.int .u64 av]) ?_ ?_
   ·intro f ar hJ;obtain ⟨au,ai,av,hm,aa,ba,bb,bc,hs⟩:=hJ;rw [Zlw.eq_1] at hm;refine .lL [0,4] hs<|go ?_;exact ⟨af,by omega,rfl,⟨_,_,_,_,_,rfl,hm,aa,ba,bb,bc,rfl⟩⟩
   refine Zdc<|Zy<|Wd<|Xo rfl<|Yu rfl<|Zk<|Zy<|Wd<|Xo rfl<|Yu rfl<|Zk<|Zy ?_;refine Wp.cutK [0,1,5,8,9,1000000] (fun f aw=>∃ ax aj,Zgw ac ah (Tx N ab ag af) aj=some r∧St w0 (Xw [qc0] col) ax aw∧Zc (Za.int .u32) 79 440 ax aw a0 ae ac∧[6].map f=[.int .u64 aj]) ?_ ?_
   ·intro f aw hJ;obtain ⟨ax,aj,hm,aa,ad,hs⟩:=hJ;rw [Zgw.eq_1] at hm;refine .lL [6] hs<|Zy<|Wd<|Yu rfl<|Zk<|Zy ?_;refine Wp.cutK [0,1,5,6,8,9,1000000] (fun f ay=>∃ az a2,Zgx ac ah (Tx N ab ag af) aj a2=some r∧St w0 (Xw [qc0] col) az ay∧Zc (Za.int .u32) 79 440 az ay a0 ae ac∧[4].map f=[.int .u64 a2]) ?_ ?_
    ·intro f ay hJ;obtain ⟨az,a2,hm,aa,ad,hs⟩:=hJ;rw [Zgx.eq_1] at hm;refine .lL [4] hs<|go ?_;obtain ⟨a5,ak,hm⟩:=bZ hm;refine lI ak (ad.addr ak)<|lW (ad.atInt ak) ?_;refine go ?_;refine lI ak (ad.addr ak) ?_;obtain ⟨al,am,hm⟩:=bZ hm;have am:al=ac.set (Int.toNat ah) (u32.wrap (a5 - (u32.wrap aj))):=(Option.some.inj am).symm;refine Yz (x1:=u32.wrap (a5 - (u32.wrap aj))) ad ak ?_;intro bf bd be a6;rw [← am] at a6;have a7:al.length=ab.length:=(show ac.length=al.length by rw [am,List.length_set]).symm.trans a8;refine .ld (d:=0) (v:=(.slice a0 al.length ae)) (congrArg (fun n=>Value.slice a0 n ae) (show ac.length=al.length by rw [am,List.length_set])) ?_;refine Zk ?_;replace aa:=aa.kp bd be;exact ⟨rfl,_,_,_,hm,aa,a6,a7,a7,rfl⟩
    refine go ?_;obtain ⟨bg,a3,hm⟩:=bZ hm;refine lI a3 (ad.addr a3)<|lW (ad.atInt a3) ?_;refine go ?_;refine Zq hm (fun hb hm=>go ?_) fun hb hm=>?_
    ·exact ⟨rfl,_,1,hm,aa,ad,rfl⟩
    refine X8 ?_;exact ⟨rfl,_,0,hm,aa,ad,rfl⟩
   refine go ?_;refine Zq hm (fun hb hm=>go ?_) fun hb hm=>?_
   ·obtain ⟨bh,a4,hm⟩:=bZ hm;refine lI a4 ((h1.ks aa).addr a4)<|lW ((h1.ks aa).atInt a4) ?_;refine go ?_;exact ⟨rfl,_,_,hm,aa,ad,rfl⟩
   refine X8 ?_;exact ⟨rfl,_,_,hm,aa,ad,rfl⟩
  cases hm;exact ⟨rfl,_,rfl,aa.finL rfl (cm [(440,qc0)]),aa.foL ad,a9⟩
def Ua (N:Nat) (ab:List Int):Option R2:=
  (Un N ab).bind fun aa=>if (decide ((aa.length:Int)=0))=true then (some ([]:List Int)) else ((Zc1 aa).bind fun ac=>some ac)
theorem Tf {N ac:Nat} {a0:Option Addr} {col:Zf} {w0:World} {ab r:R2} (c1:Nat) (hm:Ua N ab=some r) (h0:Sl (Za.int .u32) col w0 a0 ac ab):
    Calls Tryz.prog 218 #[.slice a0 ab.length ac] w0 (fun e w'=>∃ (col':Zf) (ra1:Option Addr) (rc2:Nat),e= .returned ((.slice ra1 r.length rc2))∧Zg col w0 col' w'∧Zc (Za.int .u32) 79 c1 col' w' ra1 rc2 r):=by
 refine Xi 2 (m:=10) func218 rfl rfl rfl rfl rfl ?_;rw [Ua.eq_1] at hm;have aa:=St.start col w0;refine go ?_;obtain ⟨aj,ad,hm⟩:=bZ hm;replace h0:=h0.keep (Zj.start col w0);refine Zh (Tp ad (h0.ks aa)) ?_;rintro _ ak ⟨al,am,an,rfl,ae,af⟩;refine ⟨_,rfl,go ?_⟩;replace aa:=aa.grow ae;refine Zq hm (fun hb hm=>go ?_) fun hb hm=>go ?_
 ·cases hm;exact ⟨rfl,_,none,0,rfl,aa.fin (cm []),Zc.nil⟩
 obtain ⟨ao,ag,hm⟩:=bZ hm;refine Zh (Zlh 1 ag af) ?_;rintro _ ap ⟨aq,ar,au,rfl,ah,ai⟩;refine ⟨_,rfl,go ?_⟩;cases hm;replace aa:=aa.grow ah;exact ⟨rfl,_,_,_,rfl,aa.fin (cm [(1,c1)]),aa.fo ai⟩
def Zgu (N:Nat) (aa:List Int) (ab:List Int):Option Rh:=
  (Zdv N aa ab).bind fun ac=>if (decide (ac<0))=true then (some (([]:List Int),false)) else ((Un N aa).bind fun ad=>(Zc1 ad).bind fun ae=>(Un N ab).bind fun af=>(Zlv N ae af).bind fun ag=>(Ua N ag).bind fun ah=>some (ah,true))
theorem Zqp {N ah ai:Nat} {a0 a1:Option Addr} {col:Zf} {w0:World} {ab ac:R2} {r:Rh} (c1:Nat) (hm:Zgu N ab ac=some r) (h0:Sl (Za.int .u32) col w0 a0 ah ab) (h1:Sl (Za.int .u32) col w0 a1 ai ac):
    Calls Tryz.prog 258 #[.slice a0 ab.length ah,.slice a1 ac.length ai] w0 (fun e w'=>∃ (col':Zf) (ra1:Option Addr) (rc2:Nat),e= .returned (.tuple #[.slice ra1 r.1.length rc2,.bool r.2])∧Zg col w0 col' w'∧Zc (Za.int .u32) 79 c1 col' w' ra1 rc2 r.1):=by
 refine Zdg 4 5 (m:=20) (args:=[.slice a0 ab.length ah,.slice a1 ac.length ai]) func258 rfl rfl rfl rfl rfl ?_;rw [Zgu.eq_1] at hm;have aa:=St.start col w0;refine go ?_;obtain ⟨a9,aq,hm⟩:=bZ hm;replace h0:=h0.keep (Zj.start col w0);replace h1:=h1.keep (Zj.start col w0);refine Zh (Znl aq (h0.ks aa) (h1.ks aa)) ?_;rintro _ ar ⟨rfl,aj⟩;refine ⟨_,rfl,?_⟩;replace aj:Zg (Zi col) w0 (Zi col) ar:=.of_below aj;refine go ?_;replace aa:=aa.grow aj;refine Zq hm (fun hb hm=>go ?_) fun hb hm=>go ?_
 ·cases hm;exact ⟨rfl,_,none,0,rfl,aa.fin (cm []),Zc.nil⟩
 obtain ⟨ba,au,hm⟩:=bZ hm;refine Zh (Tp au (h0.ks aa)) ?_;rintro _ bb ⟨bc,bd,be,rfl,av,aw⟩;refine ⟨_,rfl,?_⟩;obtain ⟨an,ax,hm⟩:=bZ hm;refine Zh (Zlh 1 ax aw) ?_;rintro _ bf ⟨bg,ad,ae,rfl,ay,ak⟩;refine ⟨_,rfl,go ?_⟩;obtain ⟨bh,az,hm⟩:=bZ hm;replace aa:=(aa.grow av).grow ay;refine Zh (Tp az (h1.ks aa)) ?_;rintro _ bi ⟨bj,bk,bm,rfl,ao,a2⟩;refine ⟨_,rfl,?_⟩;obtain ⟨af,a3,hm⟩:=bZ hm;replace ak:=ak.gr ao;refine Zh (Zy0 1 a3 rfl ak a2) ?_;rintro _ a4 ⟨al,rfl,a5,a6,ap⟩;refine ⟨_,rfl,?_⟩;refine .ld (d:=6) (v:=(.slice ad af.length ae)) (congrArg (fun n=>Value.slice ad n ae) (show an.length=af.length from ap.symm)) ?_;refine .ld (d:=14) (v:=(.slice ad af.length ae)) (congrArg (fun n=>Value.slice ad n ae) (show an.length=af.length from ap.symm)) ?_;refine go ?_;obtain ⟨bn,a7,hm⟩:=bZ hm;refine Zh (Tf 2 a7 (a6.toSlF (Zl.int .u32))) ?_;rintro _ bo ⟨a8,bp,bq,rfl,ag,am⟩;refine ⟨_,rfl,?_⟩;replace am:=am.thaw (Zv .u32) ag ((Fz.refl (col:=al)).froz 1) (by decide);replace ag:=ag.thawR (col:=al);generalize Z4 a4.heap.size al a8=br at *;refine go ?_;cases hm;replace aa:=((aa.grow ao).kpp a5).grow ag;exact ⟨rfl,_,_,_,rfl,aa.fin (cm [(2,c1)]),aa.fo am⟩
def Zlr (aa:Nat) (kk_L1:(Nat→R2→Int→Option R2)) (ab:List Int) (ac:Int):Option R2:=
  kk_L1 (aa+1) ab ac
def Zgs (aa:Nat) (ab:List Int) (kk_L1:(Nat→R2→Int→Option R2)) (ac:Int):Option R2:=
  (Zo ab (aa:Int)).bind fun ae=>(some (ab.set (Int.toNat (aa:Int)) (u32.wrap ac))).bind fun ad=>Zlr aa kk_L1 ad (X4 .u64 ac 32)
def Sm (N:Nat) (ac:List Int) (ad:List Int):List Int→Nat→R2→Int→Option R2
  | [],aa,ab,ae=>(Zo ab (ac.length:Int)).bind fun ak=>(some (ab.set (Int.toNat (ac.length:Int)) (u32.wrap ae))).bind fun ah=>(Ua N ah).bind fun ai=>some ai
  | af :: ag,aa,ab,ae=>if (decide ((aa:Int)<(ad.length:Int)))=true then ((Zo ad (aa:Int)).bind fun aj=>Zgs aa ab (Sm N ac ad ag) (u64.wrap ((u64.wrap (ae+(u64.wrap af)))+(u64.wrap aj)))) else (Zgs aa ab (Sm N ac ad ag) (u64.wrap (ae+(u64.wrap af))))
termination_by structural x=>x
def Zgr (N:Nat) (aa:List Int) (ab:List Int):Option R2:=
  Z1 ((Int.toNat (i64.wrap ((aa.length:Int)+1))) * 4≤281474976710656∧(Int.toNat (i64.wrap ((aa.length:Int)+1)))≤maxLen∧0≤(i64.wrap ((aa.length:Int)+1))) (Sm N aa ab aa 0 (List.replicate (Int.toNat (i64.wrap ((aa.length:Int)+1))) (0:Int)) 0)
def Zjg (N:Nat) (ac:List Int) (ad:List Int):Option R2:=
  (Un N ac).bind fun aa=>(Un N ad).bind fun ab=>if (decide ((aa.length:Int)<(ab.length:Int)))=true then (Zgr N ab aa) else (Zgr N aa ab)
theorem Zyw {N bp bq:Nat} {a0 a1:Option Addr} {col:Zf} {w0:World} {a9 ba r:R2} (c1:Nat) (hm:Zjg N a9 ba=some r) (h0:Sl (Za.int .u32) col w0 a0 bp a9) (h1:Sl (Za.int .u32) col w0 a1 bq ba):
    Calls Tryz.prog 257 #[.slice a0 a9.length bp,.slice a1 ba.length bq] w0 (fun e w'=>∃ (col':Zf) (ra1:Option Addr) (rc2:Nat),e= .returned ((.slice ra1 r.length rc2))∧Zg col w0 col' w'∧Zc (Za.int .u32) 79 c1 col' w' ra1 rc2 r):=by
 refine Xi 4 (m:=62) func257 rfl rfl rfl rfl rfl ?_;rw [Zjg.eq_1] at hm;have aa:=St.start col w0;refine go ?_;obtain ⟨ca,bw,hm⟩:=bZ hm;replace h0:=h0.keep (Zj.start col w0);refine Zh (Tp bw (h0.ks aa)) ?_;rintro _ cb ⟨cc,cd,ce,rfl,bx,a3⟩;refine ⟨_,rfl,?_⟩;refine Wa rfl ?_;obtain ⟨cf,bz,hm⟩:=bZ hm;replace h1:=h1.keep (Zj.start col w0);replace aa:=aa.grow bx;refine Zh (Tp bz (h1.ks aa)) ?_;rintro _ cg ⟨ch,ci,cj,rfl,br,bs⟩;refine ⟨_,rfl,?_⟩;refine Tt rfl<|Tt rfl<|Zk<|Zy ?_;replace a3:=a3.gr br;replace aa:=aa.grow br;refine Wp.cutK [1000000] (fun f aq=>∃ ar am an ab ao ap ae,Zgr N ab ae=some r∧St w0 (Zi col) ar aq∧Sl (Za.int .u32) ar aq am an ab∧Sl (Za.int .u32) ar aq ao ap ae∧[0,1].map f=[.slice am ab.length an,.slice ao ae.length ap]) ?_ ?_
 ·intro f aq hJ;obtain ⟨ar,am,an,ab,ao,ap,ae,hm,aa,ac,ad,hs⟩:=hJ;rw [Zgr.eq_1] at hm;refine .lL [0,1] hs<|go ?_;obtain ⟨a4,hm⟩:=Z3 hm;refine Sh (col:=ar) (w:=aq) (r:=(Za.int .u32)) (n:=(Int.toNat (i64.wrap ((ab.length:Int)+1)))) (x0:=0) 1 rfl underlying43 Tryz.t79 rfl rfl rfl rfl rfl (congrArg (Value.int _) (Int.toNat_of_nonneg a4.2.2).symm) (congrArg (Value.int _) (Int.toNat_of_nonneg a4.2.2).symm) a4.1 a4.2.1 (S3 .u32 0) ?_;intro ck cl cn bb b0;refine go ?_;replace ac:=ac.gr bb;replace ad:=ad.gr bb;replace aa:=aa.grow bb;refine Z8 [0,1,24,25,1000000] (fun n f au=>∃ ah ag ai aj af av aw,n=aw.length∧ab.drop ag=aw∧Sm N ab ae aw ag af av=some r∧St w0 (Zi col) ah au∧Sl (Za.int .u32) ah au am an ab∧Sl (Za.int .u32) ah au ao ap ae∧Zc (Za.int .u32) 79 1 ah au ai aj af∧[26,5,6].map f=[.int .i64 ag,.slice ai af.length aj,.int .u64 av]) ab.length ⟨_,0,_,_,_,0,_,rfl,rfl,hm,aa,ac,ad,b0,rfl⟩ ?_;clear hm;intro n f au hI;obtain ⟨ah,ag,ai,aj,af,av,aw,hn,hl,hm,aa,ac,ad,ak,hs⟩:=hI;subst hn;refine .lL [26,5,6] hs ?_
  cases aw with
  | nil=>
   have hk:¬ ((ag:Int)<(ab.length:Int)):=by have:=List.drop_eq_nil_iff.1 hl;omega
   have hkb:=decide_eq_false hk;rw [Sm.eq_1] at hm;refine go ?_;refine Y7 (congrArg Value.bool hkb)<|go ?_;obtain ⟨co,bc,hm⟩:=bZ hm;refine lI bc (ak.addr bc) ?_;obtain ⟨bd,a5,hm⟩:=bZ hm;have a5:bd=af.set (Int.toNat (ab.length:Int)) (u32.wrap av):=(Option.some.inj a5).symm;refine Yz (x1:=u32.wrap av) ak bc ?_;intro b1 b2 b3 bt;rw [← a5] at bt;refine .ld (d:=5) (v:=(.slice ai bd.length aj)) (congrArg (fun n=>Value.slice ai n aj) (show af.length=bd.length by rw [a5,List.length_set])) ?_;refine go ?_;obtain ⟨cp,b4,hm⟩:=bZ hm;refine Zh (Tf 2 b4 (bt.toSlF (Zl.int .u32))) ?_;rintro _ cq ⟨b5,cr,cs,rfl,a6,be⟩;refine ⟨_,rfl,?_⟩;replace be:=be.thaw (Zv .u32) a6 ((Fz.refl (col:=ah)).froz 1) (by decide);replace a6:=a6.thawR (col:=ah);generalize Z4 b1.heap.size ah b5=ct at *;refine go ?_;cases hm;replace aa:=(aa.kp b2 b3).grow a6;exact ⟨rfl,_,_,_,rfl,aa.fin (cm [(2,c1)]),aa.fo be⟩
  | cons bu bf=>
   obtain ⟨bg,b6,b7⟩:=Wg hl;have hk:(ag:Int)<(ab.length:Int):=by omega
   have hkb:=decide_eq_true hk;rw [Sm.eq_2] at hm;refine go ?_;refine Y8 (congrArg Value.bool hkb)<|X8<|Zy ?_;refine Wp.cutK [0,1,24,25,26,1000000] (fun f ax=>∃ ay bh bi a7 bj,Zlr ag (Sm N ab ae bf) a7 bj=some r∧St w0 (Zi col) ay ax∧Sl (Za.int .u32) ay ax am an ab∧Sl (Za.int .u32) ay ax ao ap ae∧Zc (Za.int .u32) 79 1 ay ax bh bi a7∧[5,6].map f=[.slice bh a7.length bi,.int .u64 bj]) ?_ ?_
   ·intro f ax hJ;obtain ⟨ay,bh,bi,a7,bj,hm,aa,ac,ad,b8,hs⟩:=hJ;rw [Zlr.eq_1] at hm;refine .lL [5,6] hs<|go ?_;exact ⟨bf.length,by simp,rfl,⟨_,_,_,_,_,_,_,rfl,b6,hm,aa,ac,ad,b8,(Wq (congrArg (Value.int .i64) (Wj (Nat.lt_of_lt_of_le b7 ac.1.1))) rfl)⟩⟩
   refine go ?_;refine lI bg (ac.addr bg)<|lW (ac.atInt bg)<|Yu rfl<|Yu rfl<|Zk<|Zy<|Wd<|Xo rfl<|Xo rfl<|lV (.int .u64 (u64.wrap bu)) (Zkj bu ⟨_,underlying79⟩ underlying193 rfl)<|lV _ (Qi _ _ rfl rfl)<|Yu rfl<|Zk<|Zy ?_;refine Wp.cutK [0,1,24,25,26,5,7,1000000] (fun f az=>∃ a2 al,Zgs ag af (Sm N ab ae bf) al=some r∧St w0 (Zi col) a2 az∧Sl (Za.int .u32) a2 az am an ab∧Sl (Za.int .u32) a2 az ao ap ae∧Zc (Za.int .u32) 79 1 a2 az ai aj af∧[6].map f=[.int .u64 al]) ?_ ?_
   ·intro f az hJ;obtain ⟨a2,al,hm,aa,ac,ad,ak,hs⟩:=hJ;rw [Zgs.eq_1] at hm;refine .lL [6] hs<|go ?_;obtain ⟨cu,bk,hm⟩:=bZ hm;refine lI bk (ak.addr bk) ?_;obtain ⟨bm,a8,hm⟩:=bZ hm;have a8:bm=af.set (Int.toNat (ag:Int)) (u32.wrap al):=(Option.some.inj a8).symm;refine Yz (x1:=u32.wrap al) ak bk ?_;intro cv bn b9 bv;rw [← a8] at bv;refine .ld (d:=5) (v:=(.slice ai bm.length aj)) (congrArg (fun n=>Value.slice ai n aj) (show af.length=bm.length by rw [a8,List.length_set])) ?_;refine go ?_;refine lV (.int .u64 (X4 .u64 al 32)) (Tl al 32 rfl rfl (by decide))<|go ?_;replace ac:=ac.kp bn;replace ad:=ad.kp bn;replace aa:=aa.kp bn b9;exact ⟨rfl,_,_,_,_,_,hm,aa,ac,ad,bv,rfl⟩
   refine go ?_;refine Zq hm (fun hb hm=>go ?_) fun hb hm=>?_
   ·obtain ⟨cw,bo,hm⟩:=bZ hm;refine lI bo (ad.addr bo)<|lW (ad.atInt bo) ?_;refine go ?_;exact ⟨rfl,_,_,hm,aa,ac,ad,ak,rfl⟩
   refine X8 ?_;exact ⟨rfl,_,_,hm,aa,ac,ad,ak,rfl⟩
 refine go ?_;refine Zq hm (fun hb hm=>go ?_) fun hb hm=>?_
 ·exact ⟨rfl,_,_,_,_,_,_,_,hm,aa,bs,a3,rfl⟩
 refine X8 ?_;exact ⟨rfl,_,_,_,_,_,_,_,hm,aa,a3,bs,rfl⟩
def Zcf (ae:List Int) (aa:Nat) (kk_L1:(Nat→R2→Option R2)) (af:Int):List Int→Nat→R2→Int→Option R2
  | [],ac,ab,ad=>(Zo ab (i64.wrap ((aa:Int)+(ae.length:Int)))).bind fun al=>(some (ab.set (Int.toNat (i64.wrap ((aa:Int)+(ae.length:Int)))) (u32.wrap ad))).bind fun ai=>kk_L1 (aa+1) ai
  | ag :: aj,ac,ab,ad=>(Zo ab (i64.wrap ((aa:Int)+(ac:Int)))).bind fun ah=>(some (ab.set (Int.toNat (i64.wrap ((aa:Int)+(ac:Int)))) (u32.wrap (u64.wrap (ad+(u64.wrap ((u64.wrap ((u64.wrap af) * (u64.wrap ag)))+(u64.wrap ah)))))))).bind fun ak=>(Zcf ae aa kk_L1 af aj) (ac+1) ak (X4 .u64 (u64.wrap (ad+(u64.wrap ((u64.wrap ((u64.wrap af) * (u64.wrap ag)))+(u64.wrap ah))))) 32)
termination_by structural x=>x
def Q8 (N:Nat) (aa:List Int):List Int→Nat→R2→Option R2
  | [],ac,ab=>(Ua N ab).bind fun ad=>some ad
  | ae :: af,ac,ab=>Zcf aa ac (Q8 N aa af) ae aa 0 ab 0
termination_by structural x=>x
def Q7 (N:Nat) (ac:List Int) (ad:List Int):Option R2:=
  (Un N ac).bind fun aa=>(Un N ad).bind fun ab=>Z1 ((Int.toNat (i64.wrap ((aa.length:Int)+(ab.length:Int)))) * 4≤281474976710656∧(Int.toNat (i64.wrap ((aa.length:Int)+(ab.length:Int))))≤maxLen∧0≤(i64.wrap ((aa.length:Int)+(ab.length:Int)))) (Q8 N ab aa 0 (List.replicate (Int.toNat (i64.wrap ((aa.length:Int)+(ab.length:Int)))) (0:Int)))
theorem Zir {N bt bu:Nat} {a0 a1:Option Addr} {col:Zf} {w0:World} {be bf r:R2} (c1:Nat) (hm:Q7 N be bf=some r) (h0:Sl (Za.int .u32) col w0 a0 bt be) (h1:Sl (Za.int .u32) col w0 a1 bu bf):
    Calls Tryz.prog 113 #[.slice a0 be.length bt,.slice a1 bf.length bu] w0 (fun e w'=>∃ (col':Zf) (ra1:Option Addr) (rc2:Nat),e= .returned ((.slice ra1 r.length rc2))∧Zg col w0 col' w'∧Zc (Za.int .u32) 79 c1 col' w' ra1 rc2 r):=by
 refine Xi 4 (m:=71) func113 rfl rfl rfl rfl rfl ?_;rw [Q7.eq_1] at hm;have aa:=St.start col w0;refine go ?_;obtain ⟨ae,b1,hm⟩:=bZ hm;replace h0:=h0.keep (Zj.start col w0);refine Zh (Tp b1 (h0.ks aa)) ?_;rintro _ co ⟨cp,a4,a5,rfl,b2,ac⟩;refine ⟨_,rfl,?_⟩;refine Wa rfl ?_;obtain ⟨ab,b3,hm⟩:=bZ hm;replace h1:=h1.keep (Zj.start col w0);replace aa:=aa.grow b2;refine Zh (Tp b3 (h1.ks aa)) ?_;rintro _ b4 ⟨b5,au,av,rfl,bv,ad⟩;refine ⟨_,rfl,go ?_⟩;obtain ⟨a6,hm⟩:=Z3 hm;refine Sh (col:=b5) (w:=b4) (r:=(Za.int .u32)) (n:=(Int.toNat (i64.wrap ((ae.length:Int)+(ab.length:Int))))) (x0:=0) 1 rfl underlying43 Tryz.t79 rfl rfl rfl rfl rfl (congrArg (Value.int _) (Int.toNat_of_nonneg a6.2.2).symm) (congrArg (Value.int _) (Int.toNat_of_nonneg a6.2.2).symm) a6.1 a6.2.1 (S3 .u32 0) ?_;intro b6 cq b7 bg b8;refine go ?_;replace ac:=(ac.gr bv).gr bg;replace aa:=(aa.grow bv).grow bg;replace ad:=ad.gr bg;refine Zpu (fun n f ap=>∃ (ah:Zf) (af:Nat) (a7:Option Addr) (a8:Nat) (aw:List Int) (ax:List Int),n=ax.length∧ae.drop af=ax∧Q8 N ab ax af aw=some r∧St w0 (Zi col) ah ap∧Sl (Za.int .u32) ah ap au av ab∧Sl (Za.int .u32) ah ap a4 a5 ae∧Zc (Za.int .u32) 79 1 ah ap a7 a8 aw∧f 23=(.int .i64 af)∧f 1=(.slice au ab.length av)∧f 21=(.slice a4 ae.length a5)∧f 22=(.int .i64 ae.length)∧f 5=(.slice a7 aw.length a8)∧f 1000000=(enc [])) ae.length ⟨b7,0,b6,(Int.toNat (i64.wrap ((ae.length:Int)+(ab.length:Int)))),(List.replicate (Int.toNat (i64.wrap ((ae.length:Int)+(ab.length:Int)))) (0:Int)),ae,rfl,rfl,hm,aa,ad,ac,b8,rfl,rfl,rfl,rfl,rfl,rfl⟩ ?_;clear hm;intro n f ap hI;obtain ⟨ah,af,a7,a8,aw,ax,hn,hl,hm,aa,ad,ac,bw,bh,bi,bj,bk,bm,bn⟩:=hI;subst hn;refine .lD 23 bh<|.lD 1 bi<|.lD 21 bj<|.lD 22 bk<|.lD 5 bm<|.lD 1000000 bn ?_
 cases ax with
 | nil=>
  have hk:¬ ((af:Int)<(ae.length:Int)):=by have:=List.drop_eq_nil_iff.1 hl;omega
  have hkb:=decide_eq_false hk;rw [Q8.eq_1] at hm;refine go ?_;refine Y7 (congrArg Value.bool hkb)<|go ?_;obtain ⟨cr,b9,hm⟩:=bZ hm;refine Zh (Tf 2 b9 (bw.toSlF (Zl.int .u32))) ?_;rintro _ cs ⟨ca,ct,cu,rfl,a9,bo⟩;refine ⟨_,rfl,?_⟩;replace bo:=bo.thaw (Zv .u32) a9 ((Fz.refl (col:=ah)).froz 1) (by decide);replace a9:=a9.thawR (col:=ah);generalize Z4 ap.heap.size ah ca=cv at *;refine go ?_;cases hm;replace aa:=aa.grow a9;exact ⟨rfl,_,_,_,rfl,aa.fin (cm [(2,c1)]),aa.fo bo⟩
 | cons am bp=>
  obtain ⟨an,cb,cc⟩:=Wg hl;have hk:(af:Int)<(ae.length:Int):=by omega
  have hkb:=decide_eq_true hk;rw [Q8.eq_2] at hm;refine go ?_;refine Y8 (congrArg Value.bool hkb)<|go ?_;refine lI an (ac.addr an)<|lW (ac.atInt an) ?_;refine go ?_;refine Zpu (fun n f ay=>∃ (ao:Zf) (ak:Nat) (ai:Option Addr) (aj:Nat) (al:List Int) (ag:Int) (az:List Int),n=az.length∧ab.drop ak=az∧Zcf ab af (Q8 N ab bp) am az ak al ag=some r∧St w0 (Zi col) ao ay∧Sl (Za.int .u32) ao ay au av ab∧Sl (Za.int .u32) ao ay a4 a5 ae∧Zc (Za.int .u32) 79 1 ao ay ai aj al∧f 30=(.int .i64 ak)∧f 1=(.slice au ab.length av)∧f 21=(.slice a4 ae.length a5)∧f 22=(.int .i64 ae.length)∧f 23=(.int .i64 af)∧f 28=(.slice au ab.length av)∧f 29=(.int .i64 ab.length)∧f 5=(.slice ai al.length aj)∧f 6=(.int .i64 af)∧f 7=(.int .u32 am)∧f 8=(.int .u64 ag)∧f 1000000=(enc [])) ab.length ⟨ah,0,a7,a8,aw,0,ab,rfl,rfl,hm,aa,ad,ac,bw,rfl,rfl,rfl,rfl,rfl,rfl,rfl,rfl,rfl,rfl,rfl,rfl⟩ ?_;clear hm;intro n f ay hI;obtain ⟨ao,ak,ai,aj,al,ag,az,hn,hl,hm,aa,ad,ac,aq,cd,bi,bj,bk,bh,ce,cf,bm,cg,ch,ci,bn⟩:=hI;subst hn;refine .lD 30 cd<|.lD 1 bi<|.lD 21 bj<|.lD 22 bk<|.lD 23 bh<|.lD 28 ce<|.lD 29 cf<|.lD 5 bm<|.lD 6 cg<|.lD 7 ch<|.lD 8 ci<|.lD 1000000 bn ?_
  cases az with
  | nil=>
   have hk:¬ ((ak:Int)<(ab.length:Int)):=by have:=List.drop_eq_nil_iff.1 hl;omega
   have hkb:=decide_eq_false hk;rw [Zcf.eq_1] at hm;refine go ?_;refine Y7 (congrArg Value.bool hkb)<|go ?_;obtain ⟨cw,bq,hm⟩:=bZ hm;refine lI bq (aq.addr bq) ?_;obtain ⟨ba,bb,hm⟩:=bZ hm;have bb:ba=al.set (Int.toNat (i64.wrap ((af:Int)+(ab.length:Int)))) (u32.wrap ag):=(Option.some.inj bb).symm;refine Yz (x1:=u32.wrap ag) aq bq ?_;intro cx br cj bx;rw [← bb] at bx;refine .ld (d:=5) (v:=(.slice ai ba.length aj)) (congrArg (fun n=>Value.slice ai n aj) (show al.length=ba.length by rw [bb,List.length_set])) ?_;refine go ?_;replace ad:=ad.kp br;replace ac:=ac.kp br;replace aa:=aa.kp br cj;exact ⟨bp.length,by simp,⟨ao,(af+1),ai,aj,ba,bp,rfl,cb,hm,aa,ad,ac,bx,(congrArg (Value.int .i64) (Wj (Nat.lt_of_lt_of_le cc ac.1.1))),rfl,rfl,rfl,rfl,rfl⟩⟩
  | cons a2 bz=>
   obtain ⟨an,ck,cl⟩:=Wg hl;have hk:(ak:Int)<(ab.length:Int):=by omega
   have hkb:=decide_eq_true hk;rw [Zcf.eq_2] at hm;refine go ?_;refine Y8 (congrArg Value.bool hkb)<|go ?_;refine lI an (ad.addr an)<|lW (ad.atInt an) ?_;refine go ?_;obtain ⟨a3,ar,hm⟩:=bZ hm;refine lI ar (aq.addr ar)<|lW (aq.atInt ar) ?_;refine go ?_;refine lI ar (aq.addr ar) ?_;obtain ⟨bc,bd,hm⟩:=bZ hm;have bd:bc=al.set (Int.toNat (i64.wrap ((af:Int)+(ak:Int)))) (u32.wrap (u64.wrap (ag+(u64.wrap ((u64.wrap ((u64.wrap am) * (u64.wrap a2)))+(u64.wrap a3)))))):=(Option.some.inj bd).symm;refine Yz (x1:=u32.wrap (u64.wrap (ag+(u64.wrap ((u64.wrap ((u64.wrap am) * (u64.wrap a2)))+(u64.wrap a3)))))) aq ar ?_;intro cy bs cn b0;rw [← bd] at b0;refine .ld (d:=5) (v:=(.slice ai bc.length aj)) (congrArg (fun n=>Value.slice ai n aj) (show al.length=bc.length by rw [bd,List.length_set])) ?_;refine go ?_;refine lV (.int .u64 (X4 .u64 (u64.wrap (ag+(u64.wrap ((u64.wrap ((u64.wrap am) * (u64.wrap a2)))+(u64.wrap a3))))) 32)) (Tl (u64.wrap (ag+(u64.wrap ((u64.wrap ((u64.wrap am) * (u64.wrap a2)))+(u64.wrap a3))))) 32 rfl rfl (by decide))<|go ?_;replace ad:=ad.kp bs;replace ac:=ac.kp bs;replace aa:=aa.kp bs cn;exact ⟨bz.length,by simp,⟨ao,(ak+1),ai,aj,bc,(X4 .u64 (u64.wrap (ag+(u64.wrap ((u64.wrap ((u64.wrap am) * (u64.wrap a2)))+(u64.wrap a3))))) 32),bz,rfl,ck,hm,aa,ad,ac,b0,(congrArg (Value.int .i64) (Wj (Nat.lt_of_lt_of_le cl ad.1.1))),rfl,rfl,rfl,rfl,rfl,rfl,rfl,rfl,rfl,rfl,rfl⟩⟩
def Zay (N:Nat) (aa:Int):Option R2:=
  (Ua N [u32.wrap aa,u32.wrap (X4 .u64 aa 32)]).bind fun ab=>some ab
theorem Zis {N:Nat} {col:Zf} {w0:World} {aa:Int} {r:R2} (c1:Nat) (hm:Zay N aa=some r):
    Calls Tryz.prog 181 #[.int .u64 aa] w0 (fun e w'=>∃ (col':Zf) (ra1:Option Addr) (rc2:Nat),e= .returned ((.slice ra1 r.length rc2))∧Zg col w0 col' w'∧Zc (Za.int .u32) 79 c1 col' w' ra1 rc2 r):=by
 refine Xi 2 (m:=10) func181 rfl rfl rfl rfl rfl ?_;rw [Zay.eq_1] at hm;have ab:=St.start col w0;refine go ?_;refine lV (.int .u64 (X4 .u64 aa 32)) (Tl aa 32 rfl rfl (by decide))<|go ?_;refine Wx (col:=(Zi col)) [u32.wrap aa,u32.wrap (X4 .u64 aa 32)] 1 ?_;intro ak af ad ag ah;obtain ⟨al,ai,hm⟩:=bZ hm;refine Zh (Tf 2 ai (ah.toSlF (Zl.int .u32))) ?_;rintro _ am ⟨aj,an,ao,rfl,ac,ae⟩;refine ⟨_,rfl,?_⟩;replace ae:=ae.thaw (Zv .u32) ac ((Fz.refl (col:=ad)).froz 1) (by decide);replace ac:=ac.thawR (col:=ad);generalize Z4 af.heap.size ad aj=ap at *;refine go ?_;cases hm;replace ab:=(ab.grow ag).grow ac;exact ⟨rfl,_,_,_,rfl,ab.fin (cm [(2,c1)]),ab.fo ae⟩
def Zdy (N:Nat) (aa:List Int):Option R2:=
  (Ua N aa).bind fun ab=>some ab
theorem Znm {N ac:Nat} {a0:Option Addr} {col:Zf} {w0:World} {ab r:R2} (c1:Nat) (hm:Zdy N ab=some r) (h0:Sl (Za.int .u32) col w0 a0 ac ab):
    Calls Tryz.prog 255 #[.slice a0 ab.length ac] w0 (fun e w'=>∃ (col':Zf) (ra1:Option Addr) (rc2:Nat),e= .returned ((.slice ra1 r.length rc2))∧Zg col w0 col' w'∧Zc (Za.int .u32) 79 c1 col' w' ra1 rc2 r):=by
 refine Xi 2 (m:=5) func255 rfl rfl rfl rfl rfl ?_;rw [Zdy.eq_1] at hm;have aa:=St.start col w0;refine go ?_;obtain ⟨ag,ad,hm⟩:=bZ hm;replace h0:=h0.keep (Zj.start col w0);refine Zh (Tf 1 ad (h0.ks aa)) ?_;rintro _ ah ⟨ai,aj,ak,rfl,ae,af⟩;refine ⟨_,rfl,go ?_⟩;cases hm;replace aa:=aa.grow ae;exact ⟨rfl,_,_,_,rfl,aa.fin (cm [(1,c1)]),aa.fo af⟩
theorem Zm6 (N:Nat):∀ (n:Nat) (a:List Int),Zp a→a.length<n→a.length<4611686018427387904→Ty N n a=some (Zd (Zb a))
 | 0,a,_,h,_=>by omega
 | n+1,a,h,hn,hb=>by
  rw [Ty.eq_2]
  by_cases h0:0<a.length
  ·have e:(a.length:Int) - 1=((a.length - 1:Nat):Int):=by omega
   rw [if_pos (by simpa using h0),Zt (by omega),e,Z7 (by omega),Option.bind_some,Za0,Zt (by omega),e]
   by_cases hx:a[a.length - 1]=0
   ·rw [if_pos (by simpa using hx),Z9 (by omega),Int.toNat_natCast,Zm6 N n _ (h.take _) (by rw [List.length_take];omega) (by rw [List.length_take];omega)]
    conv=>rhs;rw [← Zfs h0,hx,Zt6]
   ·rw [if_neg (by simpa using hx)]
    have e2:=Zfs h0
    have e3:=Z15 (a:=a.take (a.length - 1)) (x:=a[a.length - 1]) (by rw [e2];exact h) hx
    rw [e2] at e3
    rw [e3]
  ·have h1:a=[]:=List.eq_nil_of_length_eq_zero (by omega)
   subst h1
   rw [if_neg (by simp),Za0,if_neg (by decide),Yd,Wz]
theorem Sa {N:Nat} {a:List Int} (h:Zp a) (hn:a.length<N) (hb:a.length≤1099511627776):Un N a=some (Zd (Zb a)):=by
 rw [Un];exact Zm6 N N a h hn (by omega)
theorem Zn1 {a:List Int} (hb:a.length≤2199023255552):Zc1 a=some a:=by
 rw [Zc1,Z9 (by simp only [List.length_nil,maxLen];omega),List.nil_append]
theorem T5 {N:Nat} {a:List Int} (h:Zp a) (hn:a.length<N) (hb:a.length≤1099511627776):Ua N a=some (Zd (Zb a)):=by
 rw [Ua,Sa h hn hb,Option.bind_some]
 have hl:=X0 h
 by_cases h0:Zd (Zb a)=[]
 ·rw [h0,if_pos (by decide)]
 ·have:0<(Zd (Zb a)).length:=List.length_pos_iff.2 h0
  rw [if_neg (by simp;exact h0),Zn1 (by omega),Option.bind_some]
theorem Zot {N:Nat} {a:List Int} (h:Zp a) (hn:a.length<N) (hb:a.length≤1099511627776):Zdy N a=some (Zd (Zb a)):=by
 rw [Zdy,T5 h hn hb,Option.bind_some]
theorem Zkg {N:Nat} {u:Int} (h:0≤u∧u<18446744073709551616) (hn:2<N):Zay N u=some (Zd u.toNat):=by
 have e:Zb [u32.wrap u,u32.wrap (X4 .u64 u 32)]=u.toNat:=by
  rw [Zfd,Y4,Y4,Yd,IntKind.wrap_u32,IntKind.wrap_u32];omega
 have hl:Zp [u32.wrap u,u32.wrap (X4 .u64 u 32)]:=by
  rw [Zfd,IntKind.wrap_u32,IntKind.wrap_u32]
  exact .cons (by omega) (.cons (by omega) .nil)
 rw [Zay,T5 hl (by simpa using hn) (by simp),Option.bind_some,e]
theorem Zrc (N:Nat) (a b:List Int) (ha:Zp a) (hb:Zp b) (hl:a.length=b.length) (hs:a.length<4611686018427387904):∀ (n i:Nat),i≤a.length→i<n→a.drop i=b.drop i→Zdw N a b n ((i:Int) - 1)=some (if Zb a<Zb b then -1 else if Zb b<Zb a then 1 else 0)
 | 0,i,_,h,_=>by omega
 | n+1,i,hi,hn,he=>by
  rw [Zdw.eq_2]
  by_cases h0:i=0
  ·subst h0
   rw [if_neg (by decide)]
   rw [List.drop_zero,List.drop_zero] at he
   subst he
   rw [if_neg (by omega),if_neg (by omega)]
  ·have e:(i:Int) - 1=((i - 1:Nat):Int):=by omega
   have h1:i - 1<a.length:=by omega
   have h2:i - 1<b.length:=by omega
   have e1:i - 1+1=i:=by omega
   rw [if_pos (by simp;omega),e,Z7 h1,Option.bind_some,Z7 h2,Option.bind_some]
   have g1:=ha.get h1
   have g2:=hb.get h2
   have va:=Uv a (i - 1)
   have vb:=Uv b (i - 1)
   rw [Ud h1,e1] at va
   rw [Ud h2,e1,← he] at vb
   have la:=Sz (ha.take (i - 1))
   have lb:=Sz (hb.take (i - 1))
   rw [List.length_take,Nat.min_eq_left (by omega)] at la lb
   have key:∀ x y:Nat,x<y→4294967296 ^ (i - 1) * (x+4294967296 * Zb (a.drop i))+4294967296 ^ (i - 1)≤4294967296 ^ (i - 1) * (y+4294967296 * Zb (a.drop i)):=fun x y hxy=>by
    rw [← Nat.mul_succ];exact Nat.mul_le_mul_left _ (by omega)
   by_cases hlt:a[i - 1]<b[i - 1]
   ·have:=key _ _ (show (a[i - 1]).toNat<(b[i - 1]).toNat by omega)
    rw [if_pos (by simpa using hlt),if_pos (by omega)]
   ·rw [if_neg (by simpa using hlt)]
    by_cases hgt:b[i - 1]<a[i - 1]
    ·have:=key _ _ (show (b[i - 1]).toNat<(a[i - 1]).toNat by omega)
     rw [if_pos (by simpa using hgt),if_neg (by omega),if_pos (by omega)]
    ·rw [if_neg (by simpa using hgt),Zt (by omega)]
     have:=Zrc N a b ha hb hl hs n (i - 1) (by omega) (by omega) (by
      rw [List.drop_eq_getElem_cons h1,List.drop_eq_getElem_cons h2,e1,he]
      congr 1;omega)
     exact this
theorem Ztc {m n:Nat} (h:(Zd m).length<(Zd n).length):m<n:=by
 have h1:=Wt (k:=(Zd m).length) (n:=m)
 have h2:=Wt (k:=(Zd m).length) (n:=n)
 have:=h1.1 (Nat.le_refl _)
 have h3:¬ n<4294967296 ^ (Zd m).length:=fun h4=>by have:=h2.2 h4;omega
 omega
theorem Zn2 {N:Nat} {a b:List Int} (ha:Zp a) (hb:Zp b) (h1:a.length<N) (h2:b.length<N) (h3:a.length≤1099511627776) (h4:b.length≤1099511627776):
  Zdv N a b=some (if Zb a<Zb b then -1 else if Zb b<Zb a then 1 else 0):=by
 have la:=X0 ha
 have lb:=X0 hb
 rw [Zdv,Sa ha h1 h3,Option.bind_some,Sa hb h2 h4,Option.bind_some]
 by_cases he:(Zd (Zb a)).length=(Zd (Zb b)).length
 ·rw [if_neg (by simp [he]),Zt (by omega)]
  have:=Zrc N (Zd (Zb a)) (Zd (Zb b)) (Z2 _) (Z2 _) he (by omega) N (Zd (Zb a)).length (Nat.le_refl _) (by omega) (by
   rw [List.drop_eq_nil_of_le (Nat.le_refl _),List.drop_eq_nil_of_le (by omega)])
  rw [this,Z0,Z0]
 ·rw [if_pos (by simp;omega)]
  by_cases hlt:(Zd (Zb a)).length<(Zd (Zb b)).length
  ·rw [if_pos (by simpa using hlt),if_pos (Ztc hlt)]
  ·have:=Ztc (m:=Zb b) (n:=Zb a) (by omega)
   rw [if_neg (by simpa using hlt),if_neg (by omega),if_pos this]
def Xr (b:List Int) (k:Nat):Nat:=(b.getD k 0).toNat
theorem Uo (b:List Int) (k:Nat):Zb (b.drop k)=Xr b k+4294967296 * Zb (b.drop (k+1)):=by
 by_cases h:k<b.length
 ·rw [Ud h,Xr,List.getD_eq_getElem?_getD,List.getElem?_eq_getElem h,Option.getD_some]
 ·rw [List.drop_eq_nil_of_le (by omega),List.drop_eq_nil_of_le (by omega),Xr,List.getD_eq_getElem?_getD,List.getElem?_eq_none (by omega)];rfl
theorem Zdk {b:List Int} (h:Zp b) (k:Nat):Xr b k<4294967296:=by
 rw [Xr,List.getD_eq_getElem?_getD]
 by_cases hk:k<b.length
 ·have:=h.get hk
  rw [List.getElem?_eq_getElem hk,Option.getD_some];omega
 ·rw [List.getElem?_eq_none (by omega)];decide
theorem drop_zero {l:List Int} {k:Nat} (h:Zp l) (hk:k<l.length) (h0:Zb (l.drop k)=0):l[k]=0∧Zb (l.drop (k+1))=0:=by
 have:=h.get hk
 rw [Ud hk] at h0
 omega
theorem S6 {l:List Int} {k j:Nat} (v:Int) (h:k<j):(l.set k v).drop j=l.drop j:=by
 rw [List.drop_set,if_pos h]
theorem Zxv (S S' Q c x y v c' L D:Nat) (h1:S'=S+Q * v) (h2:c+x+y=v+4294967296 * c'):S'+Q * 4294967296 * (c'+L+D)=S+Q * (c+(x+4294967296 * L)+(y+4294967296 * D)):=by
 subst h1
 have:Q * (c+x+y)=Q * (v+4294967296 * c'):=by rw [h2]
 grind
theorem Zp6 (N:Nat) (a b:List Int) (ha:Zp a) (hb:Zp b) (hab:b.length≤a.length) (hN:a.length+1<N) (hs:a.length<1099511627776):∀ (l:List Int) (k:Nat) (sum:List Int) (c:Int),Zp l→a.length=k+l.length→sum.length=a.length+1→Zp sum→Zb (sum.drop k)=0→0≤c∧c≤1→
  Sm N a b l k sum c=some (Zd (Zb sum+4294967296 ^ k * (c.toNat+Zb l+Zb (b.drop k))))
 | [],k,sum,c,_,hk,hl,hL,hz,hc=>by
  have hk':k=a.length:=by simpa using hk.symm
  subst hk'
  rw [Sm.eq_1,Z7 (by omega),Option.bind_some,Option.bind_some,Int.toNat_natCast,V3 (by omega),
   T5 (hL.set _ (by omega)) (by rw [List.length_set];omega) (by rw [List.length_set];omega),Option.bind_some]
  have h1:=Uu (l:=sum) (k:=a.length) (by omega) c
  have h2:=(drop_zero hL (by omega) hz).1
  rw [h2] at h1
  rw [Yd,List.drop_eq_nil_of_le (by omega),Yd]
  have h3:Zb (sum.set a.length c)=Zb sum+4294967296 ^ a.length * c.toNat:=by simpa using h1
  rw [h3];rfl
 | x :: l,k,sum,c,hx,hk,hl,hL,hz,hc=>by
  have hk1:a.length=k+1+l.length:=by rw [hk,List.length_cons];omega
  have h0:=hx.head
  have hz':=drop_zero hL (by omega) hz
  have hy:=Zdk hb k
  have hsz:sum[k]'(by omega)=0:=hz'.1
  -- the sum of one place
  have step:∀ s:Int,s=c+x+(Xr b k:Int)→Zgs k sum (Sm N a b l) s=some (Zd (Zb sum+4294967296 ^ k * (c.toNat+Zb (x :: l)+Zb (b.drop k)))):=fun s hs'=>by
   rw [Zgs,Z7 (by omega),Option.bind_some,Option.bind_some,Zlr,Int.toNat_natCast,Zfd]
   have hw:0≤u32.wrap s∧u32.wrap s<4294967296:=by rw [IntKind.wrap_u32];omega
   rw [Zp6 N a b ha hb hab hN hs l (k+1) _ _ hx.tail hk1 (by rw [List.length_set];exact hl) (hL.set _ hw) (by rw [S6 _ (by omega)];exact hz'.2) (by omega)]
   have h1:=Uu (l:=sum) (k:=k) (by omega) (u32.wrap s)
   rw [hsz] at h1
   rw [Nat.pow_succ,Y4,Uo b k]
   congr 2
   exact Zxv _ _ _ _ _ _ (u32.wrap s).toNat _ _ _ (by simpa using h1) (by rw [IntKind.wrap_u32];omega)
  rw [Sm.eq_2]
  have hcx:u64.wrap (c+u64.wrap x)=c+x:=by rw [Xm (x:=x) (by omega),Xm (by omega)]
  by_cases hkb:k<b.length
  ·have e:Xr b k=(b[k]).toNat:=by rw [Xr,List.getD_eq_getElem?_getD,List.getElem?_eq_getElem hkb,Option.getD_some]
   have:=hb.get hkb
   rw [if_pos (by simpa using hkb),Z7 hkb,Option.bind_some,hcx,Xm (x:=b[k]) (by omega),Xm (by omega)]
   exact step _ (by omega)
  ·have e:Xr b k=0:=by rw [Xr,List.getD_eq_getElem?_getD,List.getElem?_eq_none (by omega)];rfl
   rw [if_neg (by simpa using hkb),hcx]
   exact step _ (by omega)
theorem Zp5 {N:Nat} {a b:List Int} (ha:Zp a) (hb:Zp b) (hab:b.length≤a.length) (hN:a.length+1<N) (hs:a.length<1099511627776):Zgr N a b=some (Zd (Zb a+Zb b)):=by
 rw [Zgr,Zt (by omega),Z9 (by simp only [maxLen];omega),Zp6 N a b ha hb hab hN hs a 0 _ 0 ha (by omega) (by rw [List.length_replicate];omega) (.zeros _) (by rw [List.drop_zero];exact Uw _) (by omega),Uw,List.drop_zero]
 simp
theorem Zxw {N:Nat} {a b:List Int} (ha:Zp a) (hb:Zp b) (h1:a.length+1<N) (h2:b.length+1<N) (h3:a.length<1099511627776) (h4:b.length<1099511627776):Zjg N a b=some (Zd (Zb a+Zb b)):=by
 have la:=X0 ha
 have lb:=X0 hb
 rw [Zjg,Sa ha (by omega) (by omega),Option.bind_some,Sa hb (by omega) (by omega),Option.bind_some]
 by_cases h:(Zd (Zb a)).length<(Zd (Zb b)).length
 ·rw [if_pos (by simpa using h),Zp5 (Z2 _) (Z2 _) (by omega) (by omega) (by omega),Z0,Z0,Nat.add_comm]
 ·rw [if_neg (by simpa using h),Zp5 (Z2 _) (Z2 _) (by omega) (by omega) (by omega),Z0,Z0]
theorem Zs7 (N:Nat) (a b:List Int) (ha:Zp a) (hb:Zp b) (hs:a.length<1099511627776):∀ (n k:Nat) (r:List Int) (c:Int),k≤a.length→a.length<n+k→r.length=a.length→Zp r→0≤c∧c≤1→r.drop k=a.drop k→
  4294967296 ^ k * (c.toNat+Zb (b.drop k))≤4294967296 ^ k * Zb (a.drop k)→
  ∃ r',Tx N a b n r c (k:Int)=some r'∧r'.length=a.length∧Zp r'∧Zb r'+4294967296 ^ k * (c.toNat+Zb (b.drop k))=Zb r
 | 0,k,r,c,hk,hn,_,_,_,_,_=>by omega
 | n+1,k,r,c,hk,hn,hl,hr,hc,he,hle=>by
  have hQ:0<4294967296 ^ k:=Nat.pow_pos (by decide)
  have hle':c.toNat+Zb (b.drop k)≤Zb (a.drop k):=Nat.le_of_mul_le_mul_left hle hQ
  rw [Tx.eq_2]
  by_cases h0:k<a.length
  ·have ga:=ha.get h0
   have hrk:r[k]'(by omega)=a[k]:=by
    have:(r.drop k)[0]'(by simp;omega)=(a.drop k)[0]'(by simp;omega):=by simp only [he]
    simpa using this
   have hy:=Zdk hb k
   rw [Uo b k,Ud h0] at hle'
   have step:∀ t:Int,t=c+(Xr b k:Int)→∃ r',Zgw r (k:Int) (Tx N a b n) t=some r'∧r'.length=a.length∧Zp r'∧Zb r'+4294967296 ^ k * (c.toNat+Zb (b.drop k))=Zb r:=fun t ht=>by
    have hw:0≤u32.wrap (a[k] - u32.wrap t)∧u32.wrap (a[k] - u32.wrap t)<4294967296:=by rw [IntKind.wrap_u32];omega
    have fin:∀ c':Int,0≤c'∧c'≤1→a[k]+4294967296 * c'=t+u32.wrap (a[k] - u32.wrap t)→∃ r',Zgx r (k:Int) (Tx N a b n) t c'=some r'∧r'.length=a.length∧Zp r'∧Zb r'+4294967296 ^ k * (c.toNat+Zb (b.drop k))=Zb r:=fun c' hc' hv=>by
     rw [Zgx,Z7 (by omega),Option.bind_some,Option.bind_some,Zlw,hrk,Zt (by omega),Int.toNat_natCast]
     obtain ⟨r',q1,q2,q3,q4⟩:=Zs7 N a b ha hb hs n (k+1) (r.set k (u32.wrap (a[k] - u32.wrap t))) c' (by omega) (by omega) (by rw [List.length_set];exact hl) (hr.set _ hw) hc' (by
      rw [S6 _ (by omega)]
      have:=congrArg (List.drop 1) he
      simpa [List.drop_drop,Nat.add_comm] using this) (Nat.mul_le_mul_left _ (by omega))
     refine ⟨r',q1,q2,q3,?_⟩
     have h1:=Uu (l:=r) (k:=k) (by omega) (u32.wrap (a[k] - u32.wrap t))
     rw [hrk] at h1
     rw [Uo b k]
     rw [Nat.pow_succ] at q4
     have hv':(a[k]).toNat+4294967296 * c'.toNat=c.toNat+Xr b k+(u32.wrap (a[k] - u32.wrap t)).toNat:=by omega
     have hv2:4294967296 ^ k * ((a[k]).toNat+4294967296 * c'.toNat)=4294967296 ^ k * (c.toNat+Xr b k+(u32.wrap (a[k] - u32.wrap t)).toNat):=by rw [hv']
     grind
    rw [Zgw,Z7 (by omega),Option.bind_some,hrk,Xm (x:=a[k]) (by omega)]
    by_cases hlt:a[k]<t
    ·rw [if_pos (by simpa using hlt)]
     exact fin 1 (by omega) (by rw [IntKind.wrap_u32,IntKind.wrap_u32];omega)
    ·rw [if_neg (by simpa using hlt)]
     exact fin 0 (by omega) (by rw [IntKind.wrap_u32,IntKind.wrap_u32];omega)
   rw [if_pos (by simpa using h0)]
   by_cases hkb:k<b.length
   ·have e:Xr b k=(b[k]).toNat:=by rw [Xr,List.getD_eq_getElem?_getD,List.getElem?_eq_getElem hkb,Option.getD_some]
    have:=hb.get hkb
    rw [if_pos (by simpa using hkb),Z7 hkb,Option.bind_some,Xm (x:=b[k]) (by omega),Xm (by omega)]
    exact step _ (by omega)
   ·have e:Xr b k=0:=by rw [Xr,List.getD_eq_getElem?_getD,List.getElem?_eq_none (by omega)];rfl
    rw [if_neg (by simpa using hkb)]
    exact step _ (by omega)
  ·rw [if_neg (by simpa using h0)]
   rw [List.drop_eq_nil_of_le (show a.length≤k by omega),Yd] at hle'
   exact ⟨r,rfl,hl,hr,by rw [show c.toNat+Zb (b.drop k)=0 by omega];simp⟩
theorem Zw8 {N:Nat} {a b:List Int} (ha:Zp a) (hb:Zp b) (h1:a.length+1<N) (h2:b.length+1<N) (h3:a.length<1099511627776) (h4:b.length<1099511627776):
  Zgu N a b=some (if Zb a<Zb b then ([],false) else (Zd (Zb a - Zb b),true)):=by
 have la:=X0 ha
 have lb:=X0 hb
 rw [Zgu,Zn2 ha hb (by omega) (by omega) (by omega) (by omega),Option.bind_some]
 by_cases h:Zb a<Zb b
 ·rw [if_pos h,if_pos (by decide),if_pos h]
 ·rw [if_neg h,if_neg (by split <;> decide),if_neg h,Sa ha (by omega) (by omega),Option.bind_some,Zn1 (by omega),Option.bind_some,Sa hb (by omega) (by omega),Option.bind_some,Zlv]
  obtain ⟨r',q1,q2,q3,q4⟩:=Zs7 N (Zd (Zb a)) (Zd (Zb b)) (Z2 _) (Z2 _) (by omega) N 0 (Zd (Zb a)) 0 (by omega) (by omega) rfl (Z2 _) (by omega) rfl (by simp [Z0];omega)
  rw [show ((0:Nat):Int)=0 from rfl] at q1
  rw [q1,Option.bind_some,T5 q3 (by omega) (by omega),Option.bind_some]
  simp [Z0] at q4
  congr 3
  omega
theorem Zt1 (P P' Q c x y e v c' L:Nat) (h1:P'+Q * e=P+Q * v) (h2:c+(x * y+e)=v+4294967296 * c'):P'+Q * 4294967296 * (c'+x * L)=P+Q * (c+x * (y+4294967296 * L)):=by
 have:Q * (c+(x * y+e))=Q * (v+4294967296 * c'):=by rw [h2]
 grind
theorem Zt0 (b:List Int) (hb:Zp b) (i:Nat) (kk:Nat→List Int→Option R2) (x:Int) (hx:0≤x∧x<4294967296):∀ (l:List Int) (j:Nat) (p:List Int) (c:Int),Zp l→j+l.length=b.length→i+b.length<p.length→p.length<4611686018427387904→Zp p→0≤c∧c<4294967296→Zb (p.drop (i+b.length))=0→
  ∃ p',Zcf b i kk x l j p c=kk (i+1) p'∧p'.length=p.length∧Zp p'∧Zb p'=Zb p+4294967296 ^ (i+j) * (c.toNat+x.toNat * Zb l)∧Zb (p'.drop (i+b.length+1))=0
 | [],j,p,c,_,hj,hp,hs,hL,hc,hz=>by
  have hj':j=b.length:=by simpa using hj
  subst hj'
  have hz':=drop_zero hL hp hz
  rw [Zcf.eq_1,Zt (by omega),show (i:Int)+(b.length:Int)=((i+b.length:Nat):Int) by omega,Z7 hp,Option.bind_some,Option.bind_some,Int.toNat_natCast,V3 hc]
  refine ⟨_,rfl,by rw [List.length_set],hL.set _ hc,?_,?_⟩
  ·have h1:=Uu hp c
   rw [hz'.1] at h1
   rw [Yd,Nat.mul_zero,Nat.add_zero]
   simpa using h1
  ·rw [S6 _ (by omega)];exact hz'.2
 | y :: l,j,p,c,hl,hj,hp,hs,hL,hc,hz=>by
  have hy:=hl.head
  have hj1:j+1+l.length=b.length:=by rw [← hj,List.length_cons];omega
  have hij:i+j<p.length:=by omega
  have hg:=hL.get hij
  have hm:x * y≤4294967295 * 4294967295:=Int.mul_le_mul (by omega) (by omega) (by omega) (by omega)
  have hm0:0≤x * y:=Int.mul_nonneg hx.1 hy.1
  rw [Zcf.eq_2,Zt (by omega),show (i:Int)+(j:Int)=((i+j:Nat):Int) by omega,Z7 hij,Option.bind_some,Option.bind_some,Int.toNat_natCast,Xm (x:=x) (by omega),Xm (x:=y) (by omega),Xm (x:=p[i+j]) (by omega),Xm (x:=x * y) (by omega),Xm (x:=x * y+p[i+j]) (by omega),Xm (by omega),Zfd]
  generalize hs':c+(x * y+p[i+j])=s
  have hw:0≤u32.wrap s∧u32.wrap s<4294967296:=by rw [IntKind.wrap_u32];omega
  obtain ⟨p',q1,q2,q3,q4,q5⟩:=Zt0 b hb i kk x hx l (j+1) (p.set (i+j) (u32.wrap s)) (s / 4294967296) hl.tail hj1 (by rw [List.length_set];exact hp) (by rw [List.length_set];exact hs) (hL.set _ hw) (by omega) (by rw [S6 _ (by omega)];exact hz)
  refine ⟨p',q1,by rw [q2,List.length_set],q3,?_,q5⟩
  rw [q4,← Nat.add_assoc i j 1,Nat.pow_succ,Y4]
  refine Zt1 _ _ _ _ _ _ (p[i+j]).toNat (u32.wrap s).toNat _ _ (Uu hij _) ?_
  rw [IntKind.wrap_u32]
  have e1:((x.toNat * y.toNat:Nat):Int)=x * y:=by rw [Int.natCast_mul,Int.toNat_of_nonneg hx.1,Int.toNat_of_nonneg hy.1]
  omega
theorem Ztz (N:Nat) (b:List Int) (hb:Zp b):∀ (l:List Int) (i:Nat) (p:List Int),Zp l→p.length=i+l.length+b.length→p.length<N→p.length<1099511627776→Zp p→Zb (p.drop (i+b.length))=0→
  Q8 N b l i p=some (Zd (Zb p+4294967296 ^ i * (Zb l * Zb b)))
 | [],i,p,_,hl,hn,hs,hp,hz=>by
  rw [Q8.eq_1,T5 hp hn (by omega),Option.bind_some,Yd];simp
 | x :: l,i,p,hx,hl,hn,hs,hp,hz=>by
  rw [List.length_cons] at hl
  obtain ⟨p',q1,q2,q3,q4,q5⟩:=Zt0 b hb i (Q8 N b l) x hx.head b 0 p 0 hb (by omega) (by omega) (by omega) hp (by omega) hz
  rw [Q8.eq_2,q1,Ztz N b hb l (i+1) p' hx.tail (by omega) (by omega) (by omega) q3 (by rw [show i+1+b.length=i+b.length+1 by omega];exact q5),q4,Y4,Nat.pow_succ]
  congr 2
  simp only [Nat.add_zero,Int.toNat_zero,Nat.zero_add]
  grind
theorem Zoq {N:Nat} {a b:List Int} (ha:Zp a) (hb:Zp b) (h1:a.length+b.length<N) (h3:a.length+b.length<1099511627776):Q7 N a b=some (Zd (Zb a * Zb b)):=by
 have la:=X0 ha
 have lb:=X0 hb
 rw [Q7,Sa ha (by omega) (by omega),Option.bind_some,Sa hb (by omega) (by omega),Option.bind_some,Zt (by omega),Z9 (by simp only [maxLen];omega),
  Ztz N _ (Z2 _) _ 0 _ (Z2 _) (by rw [List.length_replicate];omega) (by rw [List.length_replicate];omega) (by rw [List.length_replicate];omega) (.zeros _) (by
   rw [List.drop_replicate];exact Uw _),Uw,Z0,Z0]
 simp
def Zd2 (N:Nat) (aa:Int):Nat→R2→Int→Int→Option R7
  | 0,_,_,_=>none
  | af+1,ac,ad,ab=>if (decide (0≤ab))=true then ((Zo ac ab).bind fun ae=>Z1 ((u64.wrap aa)≠0) ((some (ac.set (Int.toNat ab) (u32.wrap (u64.wrap (Int.tdiv (Yi .u64 (Xq .u64 ad 32) (u64.wrap ae)) (u64.wrap aa)))))).bind fun ag=>Z1 ((u64.wrap aa)≠0) ((Zd2 N aa af) ag (Int.tmod (Yi .u64 (Xq .u64 ad 32) (u64.wrap ae)) (u64.wrap aa)) (i64.wrap (ab - 1))))) else (some (u32.wrap ad,ac))
termination_by structural x=>x
def Zjo (N:Nat) (aa:List Int) (ab:Int):Option R7:=
  Zd2 N ab N aa 0 (i64.wrap ((aa.length:Int) - 1))
theorem Zy1 {N ad:Nat} {a0:Option Addr} {col:Zf} {w0:World} {ae:R2} {ab:Int} {r:R7} (qc0:Nat) (hm:Zjo N ae ab=some r) (hd:Qv [qc0]=true) (h0:Zc (Za.int .u32) 79 qc0 col w0 a0 ad ae):
    Calls Tryz.prog 283 #[.slice a0 ae.length ad,.int .u32 ab] w0 (fun e w'=>∃ (col':Zf),e= .returned ((.int .u32 r.1))∧Zz (pS [qc0]) col w0 col' w'∧Zc (Za.int .u32) 79 qc0 col' w' a0 ad r.2∧r.2.length=ae.length):=by
 refine Xi 4 (m:=36) func283 rfl rfl rfl rfl rfl ?_;rw [Zjo.eq_1] at hm;have af:=St.startL (l:=[qc0]) rfl col w0;replace h0:=h0.startL (Zby hd 0 rfl) (Zbx hd 0 rfl);refine go ?_;refine Z8 [1,1000000] (fun n f an=>∃ ao ac aa am ag,ag=n∧Zd2 N ab ag ac aa am=some r∧St w0 (Xw [qc0] col) ao an∧Zc (Za.int .u32) 79 440 ao an a0 ad ac∧ac.length=ae.length∧ac.length=ae.length∧[0,5,6].map f=[.slice a0 ac.length ad,.int .u64 aa,.int .i64 am]) N ⟨_,_,0,_,_,rfl,hm,af,h0,rfl,rfl,rfl⟩ ?_;clear hm;intro n f an hI;obtain ⟨ao,ac,aa,am,ag,hn,hm,af,aj,ar,au,hs⟩:=hI;subst hn;refine .lL [0,5,6] hs ?_
 cases ag with
 | zero=>rw [Zd2.eq_1] at hm;cases hm
 | succ ag=>
  rw [Zd2.eq_2] at hm;refine go ?_;refine Zq hm (fun hb hm=>go ?_) fun hb hm=>go ?_
  ·refine lV (.int .u64 (Xq .u64 aa 32)) (Zbo aa 32 rfl rfl (by decide))<|go ?_;obtain ⟨ah,ai,hm⟩:=bZ hm;refine lI ai (aj.addr ai)<|lW (aj.atInt ai) ?_;refine go ?_;obtain ⟨av,hm⟩:=Z3 hm;refine lV (.int .u64 (u64.wrap (Int.tdiv (Yi .u64 (Xq .u64 aa 32) (u64.wrap ah)) (u64.wrap ab)))) (Wy (Yi .u64 (Xq .u64 aa 32) (u64.wrap ah)) (u64.wrap ab) rfl rfl av)<|go ?_;refine lI ai (aj.addr ai) ?_;obtain ⟨ak,al,hm⟩:=bZ hm;have al:ak=ac.set (Int.toNat am) (u32.wrap (u64.wrap (Int.tdiv (Yi .u64 (Xq .u64 aa 32) (u64.wrap ah)) (u64.wrap ab)))):=(Option.some.inj al).symm;refine Yz (x1:=u32.wrap (u64.wrap (Int.tdiv (Yi .u64 (Xq .u64 aa 32) (u64.wrap ah)) (u64.wrap ab)))) aj ai ?_;intro az aw ax ap;rw [← al] at ap;have aq:ak.length=ae.length:=(show ac.length=ak.length by rw [al,List.length_set]).symm.trans ar;refine .ld (d:=0) (v:=(.slice a0 ak.length ad)) (congrArg (fun n=>Value.slice a0 n ad) (show ac.length=ak.length by rw [al,List.length_set])) ?_;refine go ?_;obtain ⟨ay,hm⟩:=Z3 hm;refine lV (.int .u64 (Int.tmod (Yi .u64 (Xq .u64 aa 32) (u64.wrap ah)) (u64.wrap ab))) (U8 (Yi .u64 (Xq .u64 aa 32) (u64.wrap ah)) (u64.wrap ab) rfl rfl ay)<|go ?_;replace af:=af.kp aw ax;exact ⟨ag,by omega,rfl,⟨_,_,_,_,_,rfl,hm,af,ap,aq,aq,rfl⟩⟩
  cases hm;exact ⟨rfl,_,rfl,af.finL rfl (cm [(440,qc0)]),af.foL aj,au⟩
def Zds (aa:Int) (ab:Int):Option Int:=
  (Zk2 (⟨#[0,1,2,2,3,3,3,3,4,4,4,4,4,4,4,4,5,5,5,5,5,5,5,5,5,5,5,5,5,5,5,5,6,6,6,6,6,6,6,6,6,6,6,6,6,6,6,6,6,6,6,6,6,6,6,6,6,6,6,6,6,6,6,6,7,7,7,7,7,7,7,7,7,7,7,7,7,7,7,7,7,7,7,7,7,7,7,7,7,7,7,7,7,7,7,7,7,7,7,7,7,7,7,7,7,7,7,7,7,7,7,7,7,7,7,7,7,7,7,7,7,7,7,7,7,7,7,7,8,8,8,8,8,8,8,8,8,8,8,8,8,8,8,8,8,8,8,8,8,8,8,8,8,8,8,8,8,8,8,8,8,8,8,8,8,8,8,8,8,8,8,8,8,8,8,8,8,8,8,8,8,8,8,8,8,8,8,8,8,8,8,8,8,8,8,8,8,8,8,8,8,8,8,8,8,8,8,8,8,8,8,8,8,8,8,8,8,8,8,8,8,8,8,8,8,8,8,8,8,8,8,8,8,8,8,8,8,8,8,8,8,8,8,8,8,8,8,8,8,8,8,8,8,8,8,8]⟩) (u8.wrap aa)).bind fun ac=>some (i64.wrap (ab+(i64.wrap ac)))
def Zgg (aa:Int) (ab:Int):Option Int:=
  if (decide (256≤aa))=true then (Zds (X4 .u32 aa 8) (i64.wrap (ab+8))) else (Zds aa ab)
def Zgf (aa:Int):Option Int:=
  if (decide (65536≤aa))=true then (Zgg (X4 .u32 aa 16) 16) else (Zgg aa 0)
theorem Zqm {col:Zf} {w0:World} {ac r:Int} (hm:Zgf ac=some r):
    Calls Tryz.prog 232 #[.int .u32 ac] w0 (fun e w'=>e= .returned ((.int .i64 r))∧Below w0.heap.size w0 w'):=by
 refine Xi 2 (m:=19) func232 rfl rfl rfl rfl rfl ?_;rw [Zgf.eq_1] at hm;have aa:=St.start col w0;refine Zy<|Wd<|Yu rfl<|Zk<|Zy ?_;refine Wp.cutK [1000000] (fun f ag=>∃ ah ab ad,Zgg ab ad=some r∧St w0 (Zi col) ah ag∧[0,2].map f=[.int .u32 ab,.int .i64 ad]) ?_ ?_
 ·intro f ag hJ;obtain ⟨ah,ab,ad,hm,aa,hs⟩:=hJ;rw [Zgg.eq_1] at hm;refine .lL [0,2] hs<|Zy ?_;refine Wp.cutK [1000000] (fun f ai=>∃ aj ae af,Zds ae af=some r∧St w0 (Zi col) aj ai∧[0,2].map f=[.int .u32 ae,.int .i64 af]) ?_ ?_
  ·intro f ai hJ;obtain ⟨aj,ae,af,hm,aa,hs⟩:=hJ;rw [Zds.eq_1] at hm;refine .lL [0,2] hs<|go ?_;obtain ⟨ak,al,hm⟩:=bZ hm;refine lV (.int .u8 ak) (Z3l (s:=(⟨#[0,1,2,2,3,3,3,3,4,4,4,4,4,4,4,4,5,5,5,5,5,5,5,5,5,5,5,5,5,5,5,5,6,6,6,6,6,6,6,6,6,6,6,6,6,6,6,6,6,6,6,6,6,6,6,6,6,6,6,6,6,6,6,6,7,7,7,7,7,7,7,7,7,7,7,7,7,7,7,7,7,7,7,7,7,7,7,7,7,7,7,7,7,7,7,7,7,7,7,7,7,7,7,7,7,7,7,7,7,7,7,7,7,7,7,7,7,7,7,7,7,7,7,7,7,7,7,7,8,8,8,8,8,8,8,8,8,8,8,8,8,8,8,8,8,8,8,8,8,8,8,8,8,8,8,8,8,8,8,8,8,8,8,8,8,8,8,8,8,8,8,8,8,8,8,8,8,8,8,8,8,8,8,8,8,8,8,8,8,8,8,8,8,8,8,8,8,8,8,8,8,8,8,8,8,8,8,8,8,8,8,8,8,8,8,8,8,8,8,8,8,8,8,8,8,8,8,8,8,8,8,8,8,8,8,8,8,8,8,8,8,8,8,8,8,8,8,8,8,8,8,8,8,8,8,8]⟩)) underlying9 rfl rfl al)<|go ?_;cases hm;exact ⟨rfl,rfl,aa.below⟩
  refine go ?_;refine Zq hm (fun hb hm=>go ?_) fun hb hm=>?_
  ·refine lV (.int .u32 (X4 .u32 ab 8)) (Tl ab 8 rfl rfl (by decide))<|go ?_;exact ⟨rfl,_,_,_,hm,aa,rfl⟩
  refine X8 ?_;exact ⟨rfl,_,_,_,hm,aa,rfl⟩
 refine go ?_;refine Zq hm (fun hb hm=>go ?_) fun hb hm=>?_
 ·refine lV (.int .u32 (X4 .u32 ac 16)) (Tl ac 16 rfl rfl (by decide))<|go ?_;exact ⟨rfl,_,_,16,hm,aa,rfl⟩
 refine X8 ?_;exact ⟨rfl,_,_,0,hm,aa,rfl⟩
def Zjd (aa:Int):Option Int:=
  (Zgf aa).bind fun ab=>some (i64.wrap (32 - ab))
theorem Zyo {col:Zf} {w0:World} {ac r:Int} (hm:Zjd ac=some r):
    Calls Tryz.prog 287 #[.int .u32 ac] w0 (fun e w'=>e= .returned ((.int .i64 r))∧Below w0.heap.size w0 w'):=by
 refine Xi 2 (m:=6) func287 rfl rfl rfl rfl rfl ?_;rw [Zjd.eq_1] at hm;have aa:=St.start col w0;refine go ?_;obtain ⟨af,ad,hm⟩:=bZ hm;refine Zh (Zqm (col:=(Zi col)) ad) ?_;rintro _ ae ⟨rfl,ab⟩;refine ⟨_,rfl,?_⟩;replace ab:Zg (Zi col) w0 (Zi col) ae:=.of_below ab;refine go ?_;cases hm;replace aa:=aa.grow ab;exact ⟨rfl,rfl,aa.below⟩
def Zci (ab:Int):List Int→Nat→R2→Option R2
  | [],aa,ac=>some ac
  | ad :: af,aa,ac=>(Zo ac (aa:Int)).bind fun ag=>Z1 (0≤ab) ((some (ac.set (Int.toNat (aa:Int)) (Yi .u32 ag (Xq .u32 ad ab)))).bind fun ae=>Z1 (0≤ab) ((Zo ae (i64.wrap ((aa:Int)+1))).bind fun ai=>(some (ae.set (Int.toNat (i64.wrap ((aa:Int)+1))) (u32.wrap (X4 .u64 (Xq .u64 (u64.wrap ad) ab) 32)))).bind fun ah=>(Zci ab af) (aa+1) ah))
termination_by structural x=>x
def Zd1 (aa:List Int) (ab:Int):Option R2:=
  Z1 ((Int.toNat (i64.wrap ((aa.length:Int)+1))) * 4≤281474976710656∧(Int.toNat (i64.wrap ((aa.length:Int)+1)))≤maxLen∧0≤(i64.wrap ((aa.length:Int)+1))) (Zci ab aa 0 (List.replicate (Int.toNat (i64.wrap ((aa.length:Int)+1))) (0:Int)))
theorem Znn {ay:Nat} {a0:Option Addr} {col:Zf} {w0:World} {ad:R2} {aa:Int} {r:R2} (c1:Nat) (hm:Zd1 ad aa=some r) (h0:Sl (Za.int .u32) col w0 a0 ay ad):
    Calls Tryz.prog 277 #[.slice a0 ad.length ay,.int .i64 aa] w0 (fun e w'=>∃ (col':Zf) (ra1:Option Addr) (rc2:Nat),e= .returned ((.slice ra1 r.length rc2))∧Zg col w0 col' w'∧Zc (Za.int .u32) 79 c1 col' w' ra1 rc2 r):=by
 refine Xi 4 (m:=40) func277 rfl rfl rfl rfl rfl ?_;rw [Zd1.eq_1] at hm;have ab:=St.start col w0;refine go ?_;obtain ⟨ao,hm⟩:=Z3 hm;refine Sh (col:=(Zi col)) (w:=w0) (r:=(Za.int .u32)) (n:=(Int.toNat (i64.wrap ((ad.length:Int)+1)))) (x0:=0) 1 rfl underlying43 Tryz.t79 rfl rfl rfl rfl rfl (congrArg (Value.int _) (Int.toNat_of_nonneg ao.2.2).symm) (congrArg (Value.int _) (Int.toNat_of_nonneg ao.2.2).symm) ao.1 ao.2.1 (S3 .u32 0) ?_;intro bc bd be a1 a2;refine go ?_;replace ab:=ab.grow a1;refine Z8 [1,12,13,1000000] (fun n f au=>∃ ae af ah ai ak al,n=al.length∧ad.drop af=al∧Zci aa al af ak=some r∧St w0 (Zi col) ae au∧Zc (Za.int .u32) 79 1 ae au ah ai ak∧[14,5].map f=[.int .i64 af,.slice ah ak.length ai]) ad.length ⟨_,0,_,_,_,_,rfl,rfl,hm,ab,a2,rfl⟩ ?_;clear hm;intro n f au hI;obtain ⟨ae,af,ah,ai,ak,al,hn,hl,hm,ab,aj,hs⟩:=hI;subst hn;refine .lL [14,5] hs ?_;replace h0:=h0.keep (Zj.start col w0)
 cases al with
 | nil=>
  have hk:¬ ((af:Int)<(ad.length:Int)):=by have:=List.drop_eq_nil_iff.1 hl;omega
  have hkb:=decide_eq_false hk;rw [Zci.eq_1] at hm;refine go ?_;refine Y7 (congrArg Value.bool hkb)<|go ?_;cases hm;exact ⟨rfl,_,_,_,rfl,ab.fin (cm [(1,c1)]),ab.fo aj⟩
 | cons ac a3=>
  obtain ⟨av,a4,a5⟩:=Wg hl;have hk:(af:Int)<(ad.length:Int):=by omega
  have hkb:=decide_eq_true hk;rw [Zci.eq_2] at hm;refine go ?_;refine Y8 (congrArg Value.bool hkb)<|go ?_;refine lI av ((h0.ks ab).addr av)<|lW ((h0.ks ab).atInt av) ?_;refine go ?_;refine Yv (col:=ae) [(0,1),(1,1),(2,1),(3,0),(4,1),(5,1),(6,1),(7,1),(8,1),(9,2)] (by kernel_rfl) (by kernel_rfl)<|xu rfl rfl (fun _=>Vb rfl) ?_;refine xu rfl rfl (fun _=>Vg rfl) ?_;obtain ⟨ap,ag,hm⟩:=bZ hm;refine xu rfl rfl (fun _=>Wb underlying43 sizeOf79 rfl rfl (Xp ag).1 (Xp ag).2.1 (aj.addr ag)) ?_;refine xW (fun _ hC=>(aj.gr (hC.bl ae)).atInt ag) ?_;refine xu rfl rfl (fun _=>Vg rfl) ?_;refine xu rfl rfl (fun _=>Vg rfl) ?_;obtain ⟨a6,hm⟩:=Z3 hm;refine xu (v:=(.int .u32 (Xq .u32 ac aa))) rfl rfl (fun _=>Zbo ac aa rfl rfl a6) ?_;refine xu (v:=(.int .u32 (Yi .u32 ap (Xq .u32 ac aa)))) rfl rfl (fun _=>Zo8 ap (Xq .u32 ac aa) rfl rfl) ?_;refine xu rfl rfl (fun _=>Wb underlying43 sizeOf79 rfl rfl (Xp ag).1 (Xp ag).2.1 (aj.addr ag)) ?_;refine xe rfl rfl ?_;intro bf hC0;have hC:=hC0.bl ae;obtain ⟨am,aq,hm⟩:=bZ hm;have aq:am=ak.set (Int.toNat (af:Int)) (Yi .u32 ap (Xq .u32 ac aa)):=(Option.some.inj aq).symm;replace aj:=aj.gr hC;refine Yz (x1:=Yi .u32 ap (Xq .u32 ac aa)) aj ag ?_;intro bg a7 a8 an;rw [← aq] at an;refine .ld (d:=5) (v:=(.slice ah am.length ai)) (congrArg (fun n=>Value.slice ah n ai) (show ak.length=am.length by rw [aq,List.length_set])) ?_;refine Zk<|xk ae<|Yn ?_;replace ab:=(ab.grow hC).kp a7 a8;intro bh hC;replace hC:=hC.bl ae;refine go ?_;obtain ⟨a9,hm⟩:=Z3 hm;refine lV (.int .u64 (Xq .u64 (u64.wrap ac) aa)) (Zbo (u64.wrap ac) aa rfl rfl a9)<|lV (.int .u64 (X4 .u64 (Xq .u64 (u64.wrap ac) aa) 32)) (Tl (Xq .u64 (u64.wrap ac) aa) 32 rfl rfl (by decide))<|go ?_;obtain ⟨bi,aw,hm⟩:=bZ hm;replace an:=an.gr hC;refine lI aw (an.addr aw) ?_;obtain ⟨ax,ar,hm⟩:=bZ hm;have ar:ax=am.set (Int.toNat (i64.wrap ((af:Int)+1))) (u32.wrap (X4 .u64 (Xq .u64 (u64.wrap ac) aa) 32)):=(Option.some.inj ar).symm;refine Yz (x1:=u32.wrap (X4 .u64 (Xq .u64 (u64.wrap ac) aa) 32)) an aw ?_;intro bj ba bb az;rw [← ar] at az;refine .ld (d:=5) (v:=(.slice ah ax.length ai)) (congrArg (fun n=>Value.slice ah n ai) (show am.length=ax.length by rw [ar,List.length_set])) ?_;refine go ?_;replace ab:=(ab.grow hC).kp ba bb
  exact ⟨a3.length,by simp,rfl,⟨_,_,_,_,_,_,rfl,a4,hm,ab,az,(Wq (congrArg (Value.int .i64) (Wj (Nat.lt_of_lt_of_le a5 (h0.ks ab).1.1))) rfl)⟩⟩
def Zjp (aa:List Int) (kk_L1:(List Int→Option R2)) (ab:Bool):Option R2:=
  if ab=true then (Z1 ((0:Int)≤(i64.wrap ((aa.length:Int) - 1))∧(i64.wrap ((aa.length:Int) - 1))≤(aa.length:Int)) (kk_L1 (aa.take (Int.toNat (i64.wrap ((aa.length:Int) - 1)))))) else (some aa)
def Za1 (N:Nat):Nat→R2→Option R2
  | 0,_=>none
  | ab+1,aa=>if (decide (0<(aa.length:Int)))=true then ((Zo aa (i64.wrap ((aa.length:Int) - 1))).bind fun ac=>Zjp aa (Za1 N ab) (decide (ac=0))) else (Zjp aa (Za1 N ab) false)
termination_by structural x=>x
def Zd3 (N:Nat) (aa:List Int):Option R2:=
  Za1 N N aa
theorem Zqq {N ap:Nat} {a0:Option Addr} {col:Zf} {w0:World} {ag r:R2} (qc0:Nat) (hm:Zd3 N ag=some r) (hd:Qv [qc0]=true) (h0:Zc (Za.int .u32) 79 qc0 col w0 a0 ap ag):
    Calls Tryz.prog 217 #[.slice a0 ag.length ap] w0 (fun e w'=>∃ (col':Zf) (ra1:Option Addr) (rc2:Nat),e= .returned ((.slice ra1 r.length rc2))∧Zz (pS [qc0]) col w0 col' w'∧Zc (Za.int .u32) 79 qc0 col' w' ra1 rc2 r):=by
 refine Xi 2 (m:=21) func217 rfl rfl rfl rfl rfl ?_;rw [Zd3.eq_1] at hm;have ab:=St.startL (l:=[qc0]) rfl col w0;replace h0:=h0.startL (Zby hd 0 rfl) (Zbx hd 0 rfl);refine go ?_;refine Z8 [1000000] (fun n f ah=>∃ ai ad ae aa af,af=n∧Za1 N af aa=some r∧St w0 (Xw [qc0] col) ai ah∧Zc (Za.int .u32) 79 440 ai ah ad ae aa∧[0].map f=[.slice ad aa.length ae]) N ⟨_,_,_,_,_,rfl,hm,ab,h0,rfl⟩ ?_;clear hm;intro n f ah hI;obtain ⟨ai,ad,ae,aa,af,hn,hm,ab,ac,hs⟩:=hI;subst hn;refine .lL [0] hs ?_
 cases af with
 | zero=>rw [Za1.eq_1] at hm;cases hm
 | succ af=>
  rw [Za1.eq_2] at hm;refine Zy<|Zy ?_;refine Wp.cutK [0,1000000] (fun f aj=>∃ ak al,Zjp aa (Za1 N af) al=some r∧St w0 (Xw [qc0] col) ak aj∧Zc (Za.int .u32) 79 440 ak aj ad ae aa∧[14].map f=[.bool al]) ?_ ?_
  ·intro f aj hJ;obtain ⟨ak,al,hm,ab,ac,hs⟩:=hJ;rw [Zjp.eq_1] at hm;refine .lL [14] hs ?_;refine Zq hm (fun hb hm=>go ?_) fun hb hm=>go ?_
   ·obtain ⟨am,hm⟩:=Z3 hm;refine lv (v:=.slice ad (Int.toNat (i64.wrap ((aa.length:Int) - 1))) ae) rfl rfl (V1 underlying43 sizeOf79 rfl rfl am.1 (by have:=ac.lecap;have:=am.2;omega))<|.ld (d:=19) (v:=(.slice ad ((aa.take (Int.toNat (i64.wrap ((aa.length:Int) - 1)))).length) ae)) (congrArg (fun n=>Value.slice ad n ae) (List.length_take_of_le (show (Int.toNat (i64.wrap ((aa.length:Int) - 1)))≤aa.length by have:=am.2;omega)).symm) ?_;refine go ?_;exact ⟨af,by omega,rfl,⟨_,_,_,_,_,rfl,hm,ab,(ac.take (Int.toNat (i64.wrap ((aa.length:Int) - 1)))),rfl⟩⟩
   cases hm;exact ⟨rfl,_,_,_,rfl,ab.finL rfl (cm [(440,qc0)]),ab.foL ac⟩
  refine go ?_;refine Xv hm (fun an hm=>go ?_) fun an hm=>go ?_
  ·obtain ⟨aq,ao,hm⟩:=bZ hm;refine lI ao (ac.addr ao) ?_;refine go ?_;refine lW (ac.atInt ao)<|go ?_;refine lV (.bool (decide (aq=0))) (Xj (congrArg Value.bool an) rfl)<|Zk ?_;exact ⟨rfl,_,_,hm,ab,ac,rfl⟩
  refine lV (.bool false) (Xs (congrArg Value.bool an) rfl)<|Zk ?_;exact ⟨rfl,_,_,hm,ab,ac,rfl⟩
def Zjl (aa:Int) (ab:List Int):Option R7:=
  some (u32.wrap aa,ab)
def Zch (j0:Nat) (n0:Nat) (ab:List Int) (ae:Int):List Int→Nat→R2→Int→Option R7
  | [],aa,ac,ad=>Z1 (0≤(ab.length:Int)∧(ab.length:Int)<(n0:Int)) ((Zo ac ((j0:Int)+(ab.length:Int))).bind fun ah=>Z1 (0≤(ab.length:Int)∧(ab.length:Int)<(n0:Int)) ((Zo ac ((j0:Int)+(ab.length:Int))).bind fun al=>(some (ac.set (Int.toNat ((j0:Int)+(ab.length:Int))) (u32.wrap (ah+(u32.wrap ad))))).bind fun ai=>Zjl (u64.wrap ((u64.wrap (ae - 1)) - 1)) ai))
  | af :: aj,aa,ac,ad=>Z1 (0≤(aa:Int)∧(aa:Int)<(n0:Int)) ((Zo ac ((j0:Int)+(aa:Int))).bind fun ag=>Z1 (0≤(aa:Int)∧(aa:Int)<(n0:Int)) ((Zo ac ((j0:Int)+(aa:Int))).bind fun am=>(some (ac.set (Int.toNat ((j0:Int)+(aa:Int))) (u32.wrap (u64.wrap (ad+(u64.wrap ((u64.wrap ag)+(u64.wrap af)))))))).bind fun ak=>(Zch j0 n0 ab ae aj) (aa+1) ak (X4 .u64 (u64.wrap (ad+(u64.wrap ((u64.wrap ag)+(u64.wrap af))))) 32)))
termination_by structural x=>x
def Zlu (aa:Nat) (kk_L2:(Nat→R2→Int→Int→Option R7)) (ab:List Int) (ac:Int) (ad:Int):Option R7:=
  kk_L2 (aa+1) ab ac ad
def Zjm (j0:Nat) (n0:Nat) (ac:Int) (ab:List Int) (af:Int) (aa:Nat) (ad:Int) (kk_L2:(Nat→R2→Int→Int→Option R7)) (ae:Int) (ag:Int):Option R7:=
  Z1 (0≤(aa:Int)∧(aa:Int)<(n0:Int)) ((Zo ab ((j0:Int)+(aa:Int))).bind fun ah=>Z1 (0≤(aa:Int)∧(aa:Int)<(n0:Int)) ((Zo ab ((j0:Int)+(aa:Int))).bind fun aj=>(some (ab.set (Int.toNat ((j0:Int)+(aa:Int))) (u32.wrap (ah - (u32.wrap (u64.wrap ((V7 .u64 (u64.wrap (ad+(u64.wrap ((u64.wrap (ac - 1)) * (u64.wrap ae))))) 4294967295)+af))))))).bind fun ai=>Zlu aa kk_L2 ai ag (X4 .u64 (u64.wrap (ad+(u64.wrap ((u64.wrap (ac - 1)) * (u64.wrap ae))))) 32)))
def Qb (j0:Nat) (n0:Nat) (aa:List Int) (ac:Int):List Int→Nat→R2→Int→Int→Option R7
  | [],ad,ab,ae,af=>Z1 (0≤(aa.length:Int)∧(aa.length:Int)<(n0:Int)) ((Zo ab ((j0:Int)+(aa.length:Int))).bind fun aj=>Z1 (0≤(aa.length:Int)∧(aa.length:Int)<(n0:Int)) ((Zo ab ((j0:Int)+(aa.length:Int))).bind fun ak=>Z1 (0≤(aa.length:Int)∧(aa.length:Int)<(n0:Int)) ((Zo ab ((j0:Int)+(aa.length:Int))).bind fun am=>(some (ab.set (Int.toNat ((j0:Int)+(aa.length:Int))) (u32.wrap (ak - (u32.wrap (u64.wrap (af+ae))))))).bind fun ah=>if (decide ((u64.wrap aj)<(u64.wrap (af+ae))))=true then (Zch j0 n0 aa ac aa 0 ah 0) else (Zjl (u64.wrap (ac - 1)) ah))))
  | ag :: ai,ad,ab,ae,af=>Z1 (0≤(ad:Int)∧(ad:Int)<(n0:Int)) ((Zo ab ((j0:Int)+(ad:Int))).bind fun al=>if (decide ((u64.wrap al)<(u64.wrap ((V7 .u64 (u64.wrap (af+(u64.wrap ((u64.wrap (ac - 1)) * (u64.wrap ag))))) 4294967295)+ae))))=true then (Zjm j0 n0 ac ab ae ad af (Qb j0 n0 aa ac ai) ag 1) else (Zjm j0 n0 ac ab ae ad af (Qb j0 n0 aa ac ai) ag 0))
termination_by structural x=>x
def Zjk (j0:Nat) (n0:Nat) (ae:List Int) (aa:List Int) (ab:Int) (ac:Int) (kk_L1:(Int→Int→Option R7)):Option R7:=
  (Zo aa (i64.wrap ((aa.length:Int) - 1))).bind fun ad=>if (decide (4294967295<(u64.wrap (ac+(u64.wrap ad)))))=true then (Qb j0 n0 aa ab aa 0 ae 0 0) else (kk_L1 (u64.wrap (ab - 1)) (u64.wrap (ac+(u64.wrap ad))))
def Zaz (aa:Int) (ab:List Int):Option R7:=
  some (u32.wrap aa,ab)
def Tw (j0:Nat) (n0:Nat) (ab:List Int) (ae:Int):List Int→Nat→R2→Int→Option R7
  | [],aa,ac,ad=>Z1 (0≤(ab.length:Int)∧(ab.length:Int)<(n0:Int)) ((Zo ac ((j0:Int)+(ab.length:Int))).bind fun ah=>Z1 (0≤(ab.length:Int)∧(ab.length:Int)<(n0:Int)) ((Zo ac ((j0:Int)+(ab.length:Int))).bind fun al=>(some (ac.set (Int.toNat ((j0:Int)+(ab.length:Int))) (u32.wrap (ah+(u32.wrap ad))))).bind fun ai=>Zaz (u64.wrap (ae - 1)) ai))
  | af :: aj,aa,ac,ad=>Z1 (0≤(aa:Int)∧(aa:Int)<(n0:Int)) ((Zo ac ((j0:Int)+(aa:Int))).bind fun ag=>Z1 (0≤(aa:Int)∧(aa:Int)<(n0:Int)) ((Zo ac ((j0:Int)+(aa:Int))).bind fun am=>(some (ac.set (Int.toNat ((j0:Int)+(aa:Int))) (u32.wrap (u64.wrap (ad+(u64.wrap ((u64.wrap ag)+(u64.wrap af)))))))).bind fun ak=>(Tw j0 n0 ab ae aj) (aa+1) ak (X4 .u64 (u64.wrap (ad+(u64.wrap ((u64.wrap ag)+(u64.wrap af))))) 32)))
termination_by structural x=>x
def Zjn (aa:Nat) (kk_L4:(Nat→R2→Int→Int→Option R7)) (ab:List Int) (ac:Int) (ad:Int):Option R7:=
  kk_L4 (aa+1) ab ac ad
def Zd0 (j0:Nat) (n0:Nat) (ac:Int) (ab:List Int) (af:Int) (aa:Nat) (ad:Int) (kk_L4:(Nat→R2→Int→Int→Option R7)) (ae:Int) (ag:Int):Option R7:=
  Z1 (0≤(aa:Int)∧(aa:Int)<(n0:Int)) ((Zo ab ((j0:Int)+(aa:Int))).bind fun ah=>Z1 (0≤(aa:Int)∧(aa:Int)<(n0:Int)) ((Zo ab ((j0:Int)+(aa:Int))).bind fun aj=>(some (ab.set (Int.toNat ((j0:Int)+(aa:Int))) (u32.wrap (ah - (u32.wrap (u64.wrap ((V7 .u64 (u64.wrap (ad+(u64.wrap (ac * (u64.wrap ae))))) 4294967295)+af))))))).bind fun ai=>Zjn aa kk_L4 ai ag (X4 .u64 (u64.wrap (ad+(u64.wrap (ac * (u64.wrap ae))))) 32)))
def V9 (j0:Nat) (n0:Nat) (aa:List Int) (ac:Int):List Int→Nat→R2→Int→Int→Option R7
  | [],ad,ab,ae,af=>Z1 (0≤(aa.length:Int)∧(aa.length:Int)<(n0:Int)) ((Zo ab ((j0:Int)+(aa.length:Int))).bind fun aj=>Z1 (0≤(aa.length:Int)∧(aa.length:Int)<(n0:Int)) ((Zo ab ((j0:Int)+(aa.length:Int))).bind fun ak=>Z1 (0≤(aa.length:Int)∧(aa.length:Int)<(n0:Int)) ((Zo ab ((j0:Int)+(aa.length:Int))).bind fun am=>(some (ab.set (Int.toNat ((j0:Int)+(aa.length:Int))) (u32.wrap (ak - (u32.wrap (u64.wrap (af+ae))))))).bind fun ah=>if (decide ((u64.wrap aj)<(u64.wrap (af+ae))))=true then (Tw j0 n0 aa ac aa 0 ah 0) else (Zaz ac ah))))
  | ag :: ai,ad,ab,ae,af=>Z1 (0≤(ad:Int)∧(ad:Int)<(n0:Int)) ((Zo ab ((j0:Int)+(ad:Int))).bind fun al=>if (decide ((u64.wrap al)<(u64.wrap ((V7 .u64 (u64.wrap (af+(u64.wrap (ac * (u64.wrap ag))))) 4294967295)+ae))))=true then (Zd0 j0 n0 ac ab ae ad af (V9 j0 n0 aa ac ai) ag 1) else (Zd0 j0 n0 ac ab ae ad af (V9 j0 n0 aa ac ai) ag 0))
termination_by structural x=>x
def Zdz (j0:Nat) (n0:Nat) (ab:List Int) (aa:List Int) (ac:Int) (ad:Int) (kk_L1:(Int→Int→Option R7)) (ae:Bool):Option R7:=
  if ae=true then (Zjk j0 n0 ab aa ac ad kk_L1) else (V9 j0 n0 aa ac aa 0 ab 0 0)
def So (N:Nat) (j0:Nat) (n0:Nat) (ab:List Int) (aa:List Int):Nat→Int→Int→Option R7
  | 0,_,_=>none
  | ae+1,ac,ad=>if (decide (4294967295<ac))=true then (Zdz j0 n0 ab aa ac ad (So N j0 n0 ab aa ae) true) else (if (decide (ad≤4294967295))=true then ((Zo aa (i64.wrap ((aa.length:Int) - 2))).bind fun af=>Z1 (0≤(i64.wrap ((aa.length:Int) - 2))∧(i64.wrap ((aa.length:Int) - 2))<(n0:Int)) ((Zo ab ((j0:Int)+(i64.wrap ((aa.length:Int) - 2)))).bind fun ag=>Zdz j0 n0 ab aa ac ad (So N j0 n0 ab aa ae) (decide ((Yi .u64 (Xq .u64 ad 32) (u64.wrap ag))<(u64.wrap (ac * (u64.wrap af))))))) else (Zdz j0 n0 ab aa ac ad (So N j0 n0 ab aa ae) false))
termination_by structural x=>x
def Zgv (N:Nat) (j0:Nat) (n0:Nat) (ac:List Int) (aa:List Int):Option R7:=
  Z1 (0≤(aa.length:Int)∧(aa.length:Int)<(n0:Int)) ((Zo ac ((j0:Int)+(aa.length:Int))).bind fun ad=>Z1 (0≤(i64.wrap ((aa.length:Int) - 1))∧(i64.wrap ((aa.length:Int) - 1))<(n0:Int)) ((Zo ac ((j0:Int)+(i64.wrap ((aa.length:Int) - 1)))).bind fun ae=>(Zo aa (i64.wrap ((aa.length:Int) - 1))).bind fun ab=>Z1 ((u64.wrap ab)≠0) (Z1 ((u64.wrap ab)≠0) (So N j0 n0 ac aa N (u64.wrap (Int.tdiv (Yi .u64 (Xq .u64 (u64.wrap ad) 32) (u64.wrap ae)) (u64.wrap ab))) (Int.tmod (Yi .u64 (Xq .u64 (u64.wrap ad) 32) (u64.wrap ae)) (u64.wrap ab))))))
theorem Zyz {N ae j0 n0 cp0 de:Nat} {a0 a1:Option Addr} {col:Zf} {w0:World} {ac ab:R2} {r:R7} (qc0:Nat) (hm:Zgv N j0 n0 ac ab=some r) (hd:Qv [qc0]=true) (h0:Zc (Za.int .u32) 79 qc0 col w0 a0 ae ac) (h1:Sl (Za.int .u32) col w0 a1 de ab):
    Calls Tryz.prog 288 #[.slice (a0.map (·.add (j0 * 1))) n0 cp0,.slice a1 ab.length de] w0 (fun e w'=>∃ (col':Zf),e= .returned ((.int .u32 r.1))∧Zz (pS [qc0]) col w0 col' w'∧Zc (Za.int .u32) 79 qc0 col' w' a0 ae r.2∧r.2.length=ac.length):=by
 refine Xi 4 (m:=178) func288 rfl rfl rfl rfl rfl ?_;rw [Zgv.eq_1] at hm;have aa:=St.startL (l:=[qc0]) rfl col w0;replace h0:=h0.startL (Zby hd 0 rfl) (Zbx hd 0 rfl);refine go ?_;refine Wc (col:=(Xw [qc0] col)) (by kernel_rfl) (by kernel_rfl)<|go ?_;obtain ⟨df,hm⟩:=Z3 hm;obtain ⟨a7,dg,hm⟩:=bZ hm;refine qv (v:=(X3 a0 (Int.toNat ((j0:Int)+(ab.length:Int)) * 1))) rfl (fun _ hC=>Va underlying43 sizeOf79 rfl rfl df.1 df.2 (h0.addr dg)) ?_;refine qW (fun _ hC=>(h0.gr (hC.bl (Xw [qc0] col))).atInt dg) ?_;refine go ?_;refine qv (v:=(.int .u64 (Xq .u64 (u64.wrap a7) 32))) rfl (fun _ hC=>Zbo (u64.wrap a7) 32 rfl rfl (by decide)) ?_;refine go ?_;obtain ⟨dh,hm⟩:=Z3 hm;obtain ⟨bf,di,hm⟩:=bZ hm;refine qv (v:=(X3 a0 (Int.toNat ((j0:Int)+(i64.wrap ((ab.length:Int) - 1))) * 1))) rfl (fun _ hC=>Va underlying43 sizeOf79 rfl rfl dh.1 dh.2 (h0.addr di)) ?_;refine qW (fun _ hC=>(h0.gr (hC.bl (Xw [qc0] col))).atInt di) ?_;refine go ?_;refine Yf ?_;intro gp hC;replace h1:=h1.keep (Zj.startL [qc0] col w0);replace hC:=hC.bl (Xw [qc0] col);refine go ?_;obtain ⟨bg,a8,hm⟩:=bZ hm;replace aa:=aa.grow hC;refine lI a8 ((h1.ks aa).addr a8)<|lW ((h1.ks aa).atInt a8) ?_;refine go ?_;obtain ⟨fd,hm⟩:=Z3 hm;refine lV (.int .u64 (u64.wrap (Int.tdiv (Yi .u64 (Xq .u64 (u64.wrap a7) 32) (u64.wrap bf)) (u64.wrap bg)))) (Wy (Yi .u64 (Xq .u64 (u64.wrap a7) 32) (u64.wrap bf)) (u64.wrap bg) rfl rfl fd)<|go ?_;refine lI a8 ((h1.ks aa).addr a8)<|lW ((h1.ks aa).atInt a8) ?_;refine go ?_;obtain ⟨fe,hm⟩:=Z3 hm;refine lV (.int .u64 (Int.tmod (Yi .u64 (Xq .u64 (u64.wrap a7) 32) (u64.wrap bf)) (u64.wrap bg))) (U8 (Yi .u64 (Xq .u64 (u64.wrap a7) 32) (u64.wrap bf)) (u64.wrap bg) rfl rfl fe)<|go ?_;replace h0:=h0.gr hC;refine Z8 [0,1,5,1000000] (fun n f bx=>∃ ao ad ap a2,a2=n∧So N j0 n0 ac ab a2 ad ap=some r∧St w0 (Xw [qc0] col) ao bx∧Zc (Za.int .u32) 79 440 ao bx a0 ae ac∧[7,8].map f=[.int .u64 ad,.int .u64 ap]) N ⟨_,_,_,_,rfl,hm,aa,h0,rfl⟩ ?_;clear hm;intro n f bx hI;obtain ⟨ao,ad,ap,a2,hn,hm,aa,h0,hs⟩:=hI;subst hn;refine .lL [7,8] hs ?_
 cases a2 with
 | zero=>rw [So.eq_1] at hm;cases hm
 | succ a2=>
  rw [So.eq_2] at hm;refine Zy ?_;refine Wp.cutK [0,1,5,7,8,1000000] (fun f bz=>∃ b0,Zjk j0 n0 ac ab ad ap (So N j0 n0 ac ab a2)=some r∧St w0 (Xw [qc0] col) b0 bz∧Zc (Za.int .u32) 79 440 b0 bz a0 ae ac) ?_ ?_
  ·intro f bz hJ;obtain ⟨b0,hm,aa,h0⟩:=hJ;rw [Zjk.eq_1] at hm;refine go ?_;obtain ⟨gs,b1,hm⟩:=bZ hm;refine lI b1 ((h1.ks aa).addr b1)<|lW ((h1.ks aa).atInt b1) ?_;refine go ?_;refine Zq hm (fun hb hm=>?_) fun hb hm=>?_
   ·refine Zkt (Z1k rfl (Zi0 ?_));refine go ?_;refine Z8 [0,1,5,7,87,88,1000000] (fun n f b2=>∃ b3 am a3 ai aj a9,n=a9.length∧ab.drop ai=a9∧Qb j0 n0 ab ad a9 ai am a3 aj=some r∧St w0 (Xw [qc0] col) b3 b2∧Zc (Za.int .u32) 79 440 b3 b2 a0 ae am∧am.length=ac.length∧am.length=ac.length∧[89,10,9].map f=[.int .i64 ai,.int .u64 a3,.int .u64 aj]) ab.length ⟨_,_,0,0,0,_,rfl,rfl,hm,aa,h0,rfl,rfl,rfl⟩ ?_;clear hm;intro n f b2 hI;obtain ⟨b3,am,a3,ai,aj,a9,hn,hl,hm,aa,af,dj,gt,hs⟩:=hI;subst hn;refine .lL [89,10,9] hs ?_
    cases a9 with
    | nil=>
     have hk:¬ ((ai:Int)<(ab.length:Int)):=by have:=List.drop_eq_nil_iff.1 hl;omega
     have hkb:=decide_eq_false hk;rw [Qb.eq_1] at hm;refine go ?_;refine Y7 (congrArg Value.bool hkb)<|go ?_;obtain ⟨dl,hm⟩:=Z3 hm;obtain ⟨gu,dm,hm⟩:=bZ hm;refine lV (X3 a0 (Int.toNat ((j0:Int)+(ab.length:Int)) * 1)) (Va underlying43 sizeOf79 rfl rfl dl.1 dl.2 (af.addr dm))<|lW (af.atInt dm)<|go ?_;obtain ⟨dn,hm⟩:=Z3 hm;obtain ⟨dp,dq,hm⟩:=bZ hm;refine lV (X3 a0 (Int.toNat ((j0:Int)+(ab.length:Int)) * 1)) (Va underlying43 sizeOf79 rfl rfl dn.1 dn.2 (af.addr dq))<|lW (af.atInt dq)<|go ?_;obtain ⟨dr,hm⟩:=Z3 hm;obtain ⟨gv,ds,hm⟩:=bZ hm;refine lV (X3 a0 (Int.toNat ((j0:Int)+(ab.length:Int)) * 1)) (Va underlying43 sizeOf79 rfl rfl dr.1 dr.2 (af.addr ds)) ?_;obtain ⟨b4,bh,hm⟩:=bZ hm;have bh:b4=am.set (Int.toNat ((j0:Int)+(ab.length:Int))) (u32.wrap (dp - (u32.wrap (u64.wrap (aj+a3))))):=(Option.some.inj bh).symm;refine Yz (x1:=u32.wrap (dp - (u32.wrap (u64.wrap (aj+a3))))) af ds ?_;intro gw ff fg b5;rw [← bh] at b5;have b6:b4.length=ac.length:=(show am.length=b4.length by rw [bh,List.length_set]).symm.trans dj;refine Zk<|Zy ?_;replace aa:=aa.kp ff fg;refine Wp.cutK [1000000] (fun f b7=>∃ b8 b9 bi,Zjl b9 bi=some r∧St w0 (Xw [qc0] col) b8 b7∧Zc (Za.int .u32) 79 440 b8 b7 a0 ae bi∧bi.length=ac.length∧[7].map f=[.int .u64 b9]) ?_ ?_
     ·intro f b7 hJ;obtain ⟨b8,b9,bi,hm,aa,fh,fi,hs⟩:=hJ;rw [Zjl.eq_1] at hm;refine .lL [7] hs<|go ?_;cases hm;exact ⟨rfl,_,rfl,aa.finL rfl (cm [(440,qc0)]),aa.foL fh,fi⟩
     refine go ?_;refine Zq hm (fun hb hm=>go ?_) fun hb hm=>?_
     ·refine Z8 [0,143,144,5,7,1000000] (fun n f ca=>∃ cb aq ar au ba,n=ba.length∧ab.drop ar=ba∧Zch j0 n0 ab ad ba ar aq au=some r∧St w0 (Xw [qc0] col) cb ca∧Zc (Za.int .u32) 79 440 cb ca a0 ae aq∧aq.length=ac.length∧aq.length=ac.length∧[145,9].map f=[.int .i64 ar,.int .u64 au]) ab.length ⟨_,_,0,0,_,rfl,rfl,hm,aa,b5,b6,b6,rfl⟩ ?_;clear hm;intro n f ca hI;obtain ⟨cb,aq,ar,au,ba,hn,hl,hm,aa,a4,fj,fk,hs⟩:=hI;subst hn;refine .lL [145,9] hs ?_
      cases ba with
      | nil=>
       have hk:¬ ((ar:Int)<(ab.length:Int)):=by have:=List.drop_eq_nil_iff.1 hl;omega
       have hkb:=decide_eq_false hk;rw [Zch.eq_1] at hm;refine go ?_;refine Y7 (congrArg Value.bool hkb)<|go ?_;obtain ⟨dt,hm⟩:=Z3 hm;obtain ⟨du,dv,hm⟩:=bZ hm;refine lV (X3 a0 (Int.toNat ((j0:Int)+(ab.length:Int)) * 1)) (Va underlying43 sizeOf79 rfl rfl dt.1 dt.2 (a4.addr dv))<|lW (a4.atInt dv)<|go ?_;obtain ⟨dw,hm⟩:=Z3 hm;obtain ⟨gx,dx,hm⟩:=bZ hm;refine lV (X3 a0 (Int.toNat ((j0:Int)+(ab.length:Int)) * 1)) (Va underlying43 sizeOf79 rfl rfl dw.1 dw.2 (a4.addr dx)) ?_;obtain ⟨cc,bj,hm⟩:=bZ hm;have bj:cc=aq.set (Int.toNat ((j0:Int)+(ab.length:Int))) (u32.wrap (du+(u32.wrap au))):=(Option.some.inj bj).symm;refine Yz (x1:=u32.wrap (du+(u32.wrap au))) a4 dx ?_;intro gy fl fm dy;rw [← bj] at dy;have fn:cc.length=ac.length:=(show aq.length=cc.length by rw [bj,List.length_set]).symm.trans fk;refine Zk ?_;replace aa:=aa.kp fl fm;exact ⟨rfl,_,_,_,hm,aa,dy,fn,rfl⟩
      | cons bk fp=>
       obtain ⟨ag,fq,fr⟩:=Wg hl;have hk:(ar:Int)<(ab.length:Int):=by omega
       have hkb:=decide_eq_true hk;rw [Zch.eq_2] at hm;refine go ?_;refine Y8 (congrArg Value.bool hkb)<|go ?_;refine lI ag ((h1.ks aa).addr ag)<|lW ((h1.ks aa).atInt ag) ?_;refine go ?_;obtain ⟨dz,hm⟩:=Z3 hm;obtain ⟨bm,d0,hm⟩:=bZ hm;refine lV (X3 a0 (Int.toNat ((j0:Int)+(ar:Int)) * 1)) (Va underlying43 sizeOf79 rfl rfl dz.1 dz.2 (a4.addr d0))<|lW (a4.atInt d0)<|go ?_;obtain ⟨d1,hm⟩:=Z3 hm;obtain ⟨gz,d2,hm⟩:=bZ hm;refine lV (X3 a0 (Int.toNat ((j0:Int)+(ar:Int)) * 1)) (Va underlying43 sizeOf79 rfl rfl d1.1 d1.2 (a4.addr d2)) ?_;obtain ⟨cd,bn,hm⟩:=bZ hm;have bn:cd=aq.set (Int.toNat ((j0:Int)+(ar:Int))) (u32.wrap (u64.wrap (au+(u64.wrap ((u64.wrap bm)+(u64.wrap bk)))))):=(Option.some.inj bn).symm;refine Yz (x1:=u32.wrap (u64.wrap (au+(u64.wrap ((u64.wrap bm)+(u64.wrap bk)))))) a4 d2 ?_;intro g0 ft fu d3;rw [← bn] at d3;have d4:cd.length=ac.length:=(show aq.length=cd.length by rw [bn,List.length_set]).symm.trans fj;refine go ?_;refine lV (.int .u64 (X4 .u64 (u64.wrap (au+(u64.wrap ((u64.wrap bm)+(u64.wrap bk))))) 32)) (Tl (u64.wrap (au+(u64.wrap ((u64.wrap bm)+(u64.wrap bk))))) 32 rfl rfl (by decide))<|go ?_;replace aa:=aa.kp ft fu;exact ⟨fp.length,by simp,rfl,⟨_,_,_,_,_,rfl,fq,hm,aa,d3,d4,d4,(Wq (congrArg (Value.int .i64) (Wj (Nat.lt_of_lt_of_le fr (h1.ks aa).1.1))) rfl)⟩⟩
     refine X8 ?_;exact ⟨rfl,_,_,_,hm,aa,b5,b6,rfl⟩
    | cons av ce=>
     obtain ⟨ag,fv,fw⟩:=Wg hl;have hk:(ai:Int)<(ab.length:Int):=by omega
     have hkb:=decide_eq_true hk;rw [Qb.eq_2] at hm;refine go ?_;refine Y8 (congrArg Value.bool hkb)<|X8<|Zy ?_;refine Wp.cutK [0,1,5,7,87,88,89,1000000] (fun f cf=>∃ cg bb ch ci,Zlu ai (Qb j0 n0 ab ad ce) bb ch ci=some r∧St w0 (Xw [qc0] col) cg cf∧Zc (Za.int .u32) 79 440 cg cf a0 ae bb∧bb.length=ac.length∧bb.length=ac.length∧[10,9].map f=[.int .u64 ch,.int .u64 ci]) ?_ ?_
     ·intro f cf hJ;obtain ⟨cg,bb,ch,ci,hm,aa,fx,fy,fz,hs⟩:=hJ;rw [Zlu.eq_1] at hm;refine .lL [10,9] hs<|go ?_;exact ⟨ce.length,by simp,rfl,⟨_,_,_,_,_,_,rfl,fv,hm,aa,fx,fy,fz,(Wq (congrArg (Value.int .i64) (Wj (Nat.lt_of_lt_of_le fw (h1.ks aa).1.1))) rfl)⟩⟩
     refine go ?_;refine lI ag ((h1.ks aa).addr ag)<|lW ((h1.ks aa).atInt ag)<|Yu rfl<|Yu rfl<|Zk<|Zy<|Wd<|Xo rfl<|Xo rfl<|Xo rfl<|lV (.int .u64 (u64.wrap av)) (Zkj av ⟨_,underlying79⟩ underlying193 rfl)<|lV _ (Zib _ _ rfl rfl)<|lV _ (Qi _ _ rfl rfl)<|Yu rfl<|Zk<|Zy<|Wd<|Xo rfl<|lV (.int .u64 (V7 .u64 (u64.wrap (aj+(u64.wrap ((u64.wrap (ad - 1)) * (u64.wrap av))))) 4294967295)) (Zmn (u64.wrap (aj+(u64.wrap ((u64.wrap (ad - 1)) * (u64.wrap av))))) 4294967295 rfl rfl)<|Xo rfl<|lV _ (Qi _ _ rfl rfl)<|Yu rfl<|Zk<|Zy<|Wd<|Yu rfl<|Zk<|Zy ?_;refine Wp.cutK [0,1,11,13,5,7,87,88,89,9,1000000] (fun f cj=>∃ ck cl,Zjm j0 n0 ad am a3 ai aj (Qb j0 n0 ab ad ce) av cl=some r∧St w0 (Xw [qc0] col) ck cj∧Zc (Za.int .u32) 79 440 ck cj a0 ae am∧[10].map f=[.int .u64 cl]) ?_ ?_
     ·intro f cj hJ;obtain ⟨ck,cl,hm,aa,af,hs⟩:=hJ;rw [Zjm.eq_1] at hm;refine .lL [10] hs<|go ?_;obtain ⟨d5,hm⟩:=Z3 hm;obtain ⟨d6,d7,hm⟩:=bZ hm;refine lV (X3 a0 (Int.toNat ((j0:Int)+(ai:Int)) * 1)) (Va underlying43 sizeOf79 rfl rfl d5.1 d5.2 (af.addr d7))<|lW (af.atInt d7)<|go ?_;obtain ⟨d8,hm⟩:=Z3 hm;obtain ⟨g1,d9,hm⟩:=bZ hm;refine lV (X3 a0 (Int.toNat ((j0:Int)+(ai:Int)) * 1)) (Va underlying43 sizeOf79 rfl rfl d8.1 d8.2 (af.addr d9)) ?_;obtain ⟨cn,bo,hm⟩:=bZ hm;have bo:cn=am.set (Int.toNat ((j0:Int)+(ai:Int))) (u32.wrap (d6 - (u32.wrap (u64.wrap ((V7 .u64 (u64.wrap (aj+(u64.wrap ((u64.wrap (ad - 1)) * (u64.wrap av))))) 4294967295)+a3))))):=(Option.some.inj bo).symm;refine Yz (x1:=u32.wrap (d6 - (u32.wrap (u64.wrap ((V7 .u64 (u64.wrap (aj+(u64.wrap ((u64.wrap (ad - 1)) * (u64.wrap av))))) 4294967295)+a3))))) af d9 ?_;intro g2 f0 f1 ea;rw [← bo] at ea;have eb:cn.length=ac.length:=(show am.length=cn.length by rw [bo,List.length_set]).symm.trans dj;refine go ?_;refine lV (.int .u64 (X4 .u64 (u64.wrap (aj+(u64.wrap ((u64.wrap (ad - 1)) * (u64.wrap av))))) 32)) (Tl (u64.wrap (aj+(u64.wrap ((u64.wrap (ad - 1)) * (u64.wrap av))))) 32 rfl rfl (by decide))<|go ?_;replace aa:=aa.kp f0 f1;exact ⟨rfl,_,_,_,_,hm,aa,ea,eb,eb,rfl⟩
     refine go ?_;obtain ⟨ec,hm⟩:=Z3 hm;obtain ⟨g3,ed,hm⟩:=bZ hm;refine lV (X3 a0 (Int.toNat ((j0:Int)+(ai:Int)) * 1)) (Va underlying43 sizeOf79 rfl rfl ec.1 ec.2 (af.addr ed))<|lW (af.atInt ed)<|go ?_;refine Zq hm (fun hb hm=>go ?_) fun hb hm=>?_
     ·exact ⟨rfl,_,1,hm,aa,af,rfl⟩
     refine X8 ?_;exact ⟨rfl,_,0,hm,aa,af,rfl⟩
   refine X8 ?_;exact ⟨a2,by omega,rfl,⟨_,_,_,_,rfl,hm,aa,h0,rfl⟩⟩
  refine Zy ?_;refine Wp.cutK [0,1,5,7,8,1000000] (fun f co=>∃ cp cq,Zdz j0 n0 ac ab ad ap (So N j0 n0 ac ab a2) cq=some r∧St w0 (Xw [qc0] col) cp co∧Zc (Za.int .u32) 79 440 cp co a0 ae ac∧[74].map f=[.bool cq]) ?_ ?_
  ·intro f co hJ;obtain ⟨cp,cq,hm,aa,h0,hs⟩:=hJ;rw [Zdz.eq_1] at hm;refine .lL [74] hs ?_;refine Zq hm (fun hb hm=>?_) fun hb hm=>go ?_
   ·refine X8 ?_;exact ⟨rfl,_,hm,aa,h0⟩
   refine Z8 [0,1,5,7,87,88,1000000] (fun n f cr=>∃ cs an a5 ak al bc,n=bc.length∧ab.drop ak=bc∧V9 j0 n0 ab ad bc ak an a5 al=some r∧St w0 (Xw [qc0] col) cs cr∧Zc (Za.int .u32) 79 440 cs cr a0 ae an∧an.length=ac.length∧an.length=ac.length∧[89,10,9].map f=[.int .i64 ak,.int .u64 a5,.int .u64 al]) ab.length ⟨_,_,0,0,0,_,rfl,rfl,hm,aa,h0,rfl,rfl,rfl⟩ ?_;clear hm;intro n f cr hI;obtain ⟨cs,an,a5,ak,al,bc,hn,hl,hm,aa,ah,ee,g4,hs⟩:=hI;subst hn;refine .lL [89,10,9] hs ?_
   cases bc with
   | nil=>
    have hk:¬ ((ak:Int)<(ab.length:Int)):=by have:=List.drop_eq_nil_iff.1 hl;omega
    have hkb:=decide_eq_false hk;rw [V9.eq_1] at hm;refine go ?_;refine Y7 (congrArg Value.bool hkb)<|go ?_;obtain ⟨ef,hm⟩:=Z3 hm;obtain ⟨g5,eg,hm⟩:=bZ hm;refine lV (X3 a0 (Int.toNat ((j0:Int)+(ab.length:Int)) * 1)) (Va underlying43 sizeOf79 rfl rfl ef.1 ef.2 (ah.addr eg))<|lW (ah.atInt eg)<|go ?_;obtain ⟨eh,hm⟩:=Z3 hm;obtain ⟨ei,ej,hm⟩:=bZ hm;refine lV (X3 a0 (Int.toNat ((j0:Int)+(ab.length:Int)) * 1)) (Va underlying43 sizeOf79 rfl rfl eh.1 eh.2 (ah.addr ej))<|lW (ah.atInt ej)<|go ?_;obtain ⟨ek,hm⟩:=Z3 hm;obtain ⟨g6,el,hm⟩:=bZ hm;refine lV (X3 a0 (Int.toNat ((j0:Int)+(ab.length:Int)) * 1)) (Va underlying43 sizeOf79 rfl rfl ek.1 ek.2 (ah.addr el)) ?_;obtain ⟨ct,bp,hm⟩:=bZ hm;have bp:ct=an.set (Int.toNat ((j0:Int)+(ab.length:Int))) (u32.wrap (ei - (u32.wrap (u64.wrap (al+a5))))):=(Option.some.inj bp).symm;refine Yz (x1:=u32.wrap (ei - (u32.wrap (u64.wrap (al+a5))))) ah el ?_;intro g7 f2 f3 cu;rw [← bp] at cu;have cv:ct.length=ac.length:=(show an.length=ct.length by rw [bp,List.length_set]).symm.trans ee;refine Zk<|Zy ?_;replace aa:=aa.kp f2 f3;refine Wp.cutK [1000000] (fun f cw=>∃ cx cy bq,Zaz cy bq=some r∧St w0 (Xw [qc0] col) cx cw∧Zc (Za.int .u32) 79 440 cx cw a0 ae bq∧bq.length=ac.length∧[7].map f=[.int .u64 cy]) ?_ ?_
    ·intro f cw hJ;obtain ⟨cx,cy,bq,hm,aa,f4,f5,hs⟩:=hJ;rw [Zaz.eq_1] at hm;refine .lL [7] hs<|go ?_;cases hm;exact ⟨rfl,_,rfl,aa.finL rfl (cm [(440,qc0)]),aa.foL f4,f5⟩
    refine go ?_;refine Zq hm (fun hb hm=>go ?_) fun hb hm=>?_
    ·refine Z8 [0,143,144,5,7,1000000] (fun n f cz=>∃ c0 aw ax ay bd,n=bd.length∧ab.drop ax=bd∧Tw j0 n0 ab ad bd ax aw ay=some r∧St w0 (Xw [qc0] col) c0 cz∧Zc (Za.int .u32) 79 440 c0 cz a0 ae aw∧aw.length=ac.length∧aw.length=ac.length∧[145,9].map f=[.int .i64 ax,.int .u64 ay]) ab.length ⟨_,_,0,0,_,rfl,rfl,hm,aa,cu,cv,cv,rfl⟩ ?_;clear hm;intro n f cz hI;obtain ⟨c0,aw,ax,ay,bd,hn,hl,hm,aa,a6,f6,f7,hs⟩:=hI;subst hn;refine .lL [145,9] hs ?_
     cases bd with
     | nil=>
      have hk:¬ ((ax:Int)<(ab.length:Int)):=by have:=List.drop_eq_nil_iff.1 hl;omega
      have hkb:=decide_eq_false hk;rw [Tw.eq_1] at hm;refine go ?_;refine Y7 (congrArg Value.bool hkb)<|go ?_;obtain ⟨em,hm⟩:=Z3 hm;obtain ⟨en,eo,hm⟩:=bZ hm;refine lV (X3 a0 (Int.toNat ((j0:Int)+(ab.length:Int)) * 1)) (Va underlying43 sizeOf79 rfl rfl em.1 em.2 (a6.addr eo))<|lW (a6.atInt eo)<|go ?_;obtain ⟨ep,hm⟩:=Z3 hm;obtain ⟨g8,eq,hm⟩:=bZ hm;refine lV (X3 a0 (Int.toNat ((j0:Int)+(ab.length:Int)) * 1)) (Va underlying43 sizeOf79 rfl rfl ep.1 ep.2 (a6.addr eq)) ?_;obtain ⟨c1,br,hm⟩:=bZ hm;have br:c1=aw.set (Int.toNat ((j0:Int)+(ab.length:Int))) (u32.wrap (en+(u32.wrap ay))):=(Option.some.inj br).symm;refine Yz (x1:=u32.wrap (en+(u32.wrap ay))) a6 eq ?_;intro g9 f8 f9 er;rw [← br] at er;have ga:c1.length=ac.length:=(show aw.length=c1.length by rw [br,List.length_set]).symm.trans f7;refine Zk ?_;replace aa:=aa.kp f8 f9;exact ⟨rfl,_,_,_,hm,aa,er,ga,rfl⟩
     | cons bs gb=>
      obtain ⟨ag,gc,gd⟩:=Wg hl;have hk:(ax:Int)<(ab.length:Int):=by omega
      have hkb:=decide_eq_true hk;rw [Tw.eq_2] at hm;refine go ?_;refine Y8 (congrArg Value.bool hkb)<|go ?_;refine lI ag ((h1.ks aa).addr ag)<|lW ((h1.ks aa).atInt ag) ?_;refine go ?_;obtain ⟨es,hm⟩:=Z3 hm;obtain ⟨bt,et,hm⟩:=bZ hm;refine lV (X3 a0 (Int.toNat ((j0:Int)+(ax:Int)) * 1)) (Va underlying43 sizeOf79 rfl rfl es.1 es.2 (a6.addr et))<|lW (a6.atInt et)<|go ?_;obtain ⟨eu,hm⟩:=Z3 hm;obtain ⟨ha,ew,hm⟩:=bZ hm;refine lV (X3 a0 (Int.toNat ((j0:Int)+(ax:Int)) * 1)) (Va underlying43 sizeOf79 rfl rfl eu.1 eu.2 (a6.addr ew)) ?_;obtain ⟨c2,bu,hm⟩:=bZ hm;have bu:c2=aw.set (Int.toNat ((j0:Int)+(ax:Int))) (u32.wrap (u64.wrap (ay+(u64.wrap ((u64.wrap bt)+(u64.wrap bs)))))):=(Option.some.inj bu).symm;refine Yz (x1:=u32.wrap (u64.wrap (ay+(u64.wrap ((u64.wrap bt)+(u64.wrap bs)))))) a6 ew ?_;intro hc ge gf ey;rw [← bu] at ey;have ez:c2.length=ac.length:=(show aw.length=c2.length by rw [bu,List.length_set]).symm.trans f6;refine go ?_;refine lV (.int .u64 (X4 .u64 (u64.wrap (ay+(u64.wrap ((u64.wrap bt)+(u64.wrap bs))))) 32)) (Tl (u64.wrap (ay+(u64.wrap ((u64.wrap bt)+(u64.wrap bs))))) 32 rfl rfl (by decide))<|go ?_;replace aa:=aa.kp ge gf;exact ⟨gb.length,by simp,rfl,⟨_,_,_,_,_,rfl,gc,hm,aa,ey,ez,ez,(Wq (congrArg (Value.int .i64) (Wj (Nat.lt_of_lt_of_le gd (h1.ks aa).1.1))) rfl)⟩⟩
    refine X8 ?_;exact ⟨rfl,_,_,_,hm,aa,cu,cv,rfl⟩
   | cons az c3=>
    obtain ⟨ag,gg,gh⟩:=Wg hl;have hk:(ak:Int)<(ab.length:Int):=by omega
    have hkb:=decide_eq_true hk;rw [V9.eq_2] at hm;refine go ?_;refine Y8 (congrArg Value.bool hkb)<|X8<|Zy ?_;refine Wp.cutK [0,1,5,7,87,88,89,1000000] (fun f c4=>∃ c5 be c6 c7,Zjn ak (V9 j0 n0 ab ad c3) be c6 c7=some r∧St w0 (Xw [qc0] col) c5 c4∧Zc (Za.int .u32) 79 440 c5 c4 a0 ae be∧be.length=ac.length∧be.length=ac.length∧[10,9].map f=[.int .u64 c6,.int .u64 c7]) ?_ ?_
    ·intro f c4 hJ;obtain ⟨c5,be,c6,c7,hm,aa,gi,gj,gk,hs⟩:=hJ;rw [Zjn.eq_1] at hm;refine .lL [10,9] hs<|go ?_;exact ⟨c3.length,by simp,rfl,⟨_,_,_,_,_,_,rfl,gg,hm,aa,gi,gj,gk,(Wq (congrArg (Value.int .i64) (Wj (Nat.lt_of_lt_of_le gh (h1.ks aa).1.1))) rfl)⟩⟩
    refine go ?_;refine lI ag ((h1.ks aa).addr ag)<|lW ((h1.ks aa).atInt ag)<|Yu rfl<|Yu rfl<|Zk<|Zy<|Wd<|Xo rfl<|Xo rfl<|Xo rfl<|lV (.int .u64 (u64.wrap az)) (Zkj az ⟨_,underlying79⟩ underlying193 rfl)<|lV _ (Zib _ _ rfl rfl)<|lV _ (Qi _ _ rfl rfl)<|Yu rfl<|Zk<|Zy<|Wd<|Xo rfl<|lV (.int .u64 (V7 .u64 (u64.wrap (al+(u64.wrap (ad * (u64.wrap az))))) 4294967295)) (Zmn (u64.wrap (al+(u64.wrap (ad * (u64.wrap az))))) 4294967295 rfl rfl)<|Xo rfl<|lV _ (Qi _ _ rfl rfl)<|Yu rfl<|Zk<|Zy<|Wd<|Yu rfl<|Zk<|Zy ?_;refine Wp.cutK [0,1,11,13,5,7,87,88,89,9,1000000] (fun f c8=>∃ c9 da,Zd0 j0 n0 ad an a5 ak al (V9 j0 n0 ab ad c3) az da=some r∧St w0 (Xw [qc0] col) c9 c8∧Zc (Za.int .u32) 79 440 c9 c8 a0 ae an∧[10].map f=[.int .u64 da]) ?_ ?_
    ·intro f c8 hJ;obtain ⟨c9,da,hm,aa,ah,hs⟩:=hJ;rw [Zd0.eq_1] at hm;refine .lL [10] hs<|go ?_;obtain ⟨e0,hm⟩:=Z3 hm;obtain ⟨e1,e2,hm⟩:=bZ hm;refine lV (X3 a0 (Int.toNat ((j0:Int)+(ak:Int)) * 1)) (Va underlying43 sizeOf79 rfl rfl e0.1 e0.2 (ah.addr e2))<|lW (ah.atInt e2)<|go ?_;obtain ⟨e3,hm⟩:=Z3 hm;obtain ⟨he,e4,hm⟩:=bZ hm;refine lV (X3 a0 (Int.toNat ((j0:Int)+(ak:Int)) * 1)) (Va underlying43 sizeOf79 rfl rfl e3.1 e3.2 (ah.addr e4)) ?_;obtain ⟨db,bv,hm⟩:=bZ hm;have bv:db=an.set (Int.toNat ((j0:Int)+(ak:Int))) (u32.wrap (e1 - (u32.wrap (u64.wrap ((V7 .u64 (u64.wrap (al+(u64.wrap (ad * (u64.wrap az))))) 4294967295)+a5))))):=(Option.some.inj bv).symm;refine Yz (x1:=u32.wrap (e1 - (u32.wrap (u64.wrap ((V7 .u64 (u64.wrap (al+(u64.wrap (ad * (u64.wrap az))))) 4294967295)+a5))))) ah e4 ?_;intro hf gl gm e5;rw [← bv] at e5;have e6:db.length=ac.length:=(show an.length=db.length by rw [bv,List.length_set]).symm.trans ee;refine go ?_;refine lV (.int .u64 (X4 .u64 (u64.wrap (al+(u64.wrap (ad * (u64.wrap az))))) 32)) (Tl (u64.wrap (al+(u64.wrap (ad * (u64.wrap az))))) 32 rfl rfl (by decide))<|go ?_;replace aa:=aa.kp gl gm;exact ⟨rfl,_,_,_,_,hm,aa,e5,e6,e6,rfl⟩
    refine go ?_;obtain ⟨e7,hm⟩:=Z3 hm;obtain ⟨hg,e8,hm⟩:=bZ hm;refine lV (X3 a0 (Int.toNat ((j0:Int)+(ak:Int)) * 1)) (Va underlying43 sizeOf79 rfl rfl e7.1 e7.2 (ah.addr e8))<|lW (ah.atInt e8)<|go ?_;refine Zq hm (fun hb hm=>go ?_) fun hb hm=>?_
    ·exact ⟨rfl,_,1,hm,aa,ah,rfl⟩
    refine X8 ?_;exact ⟨rfl,_,0,hm,aa,ah,rfl⟩
  refine Wc (col:=ao) (by kernel_rfl) (by kernel_rfl)<|go ?_;refine Xv hm (fun bw hm=>go ?_) fun bw hm=>go ?_
  ·refine Ue 54 rfl rfl rfl rfl<|Ue 54 rfl rfl rfl rfl<|Ue 54 rfl rfl rfl rfl<|Ue 54 rfl rfl rfl rfl<|Ue 54 rfl rfl rfl rfl<|Ue 54 rfl rfl rfl rfl<|Ue 54 rfl rfl rfl rfl<|Ue 54 rfl rfl rfl rfl<|Ue 54 rfl rfl rfl rfl<|Ue 54 rfl rfl rfl rfl<|Ue 54 rfl rfl rfl rfl<|Ue 54 rfl rfl rfl rfl<|Ue 54 rfl rfl rfl rfl<|Ue 54 rfl rfl rfl rfl<|Ue 54 rfl rfl rfl rfl<|Ue 54 rfl rfl rfl rfl<|Ue 54 rfl rfl rfl rfl<|Ue 54 rfl rfl rfl rfl<|go ?_;refine qv (v:=(.bool true)) rfl (fun _ hC=>Xj (congrArg Value.bool bw) rfl) ?_;refine Yf ?_;intro hh hC;replace hC:=hC.bl ao;replace h0:=h0.gr hC;replace aa:=aa.grow hC;exact ⟨rfl,_,_,hm,aa,h0,rfl⟩
  refine Xv hm (fun dc hm=>go ?_) fun dc hm=>go ?_
  ·obtain ⟨e9,dd,hm⟩:=bZ hm;refine qI dd ((h1.ks aa).addr dd) ?_;refine go ?_;refine qW (fun _ hC=>((h1.ks aa).gr (hC.bl ao)).atInt dd) ?_;refine go ?_;refine qv (v:=(.int .u64 (Xq .u64 ap 32))) rfl (fun _ hC=>Zbo ap 32 rfl rfl (by decide)) ?_;refine go ?_;obtain ⟨fa,hm⟩:=Z3 hm;obtain ⟨fb,fc,hm⟩:=bZ hm;refine qv (v:=(X3 a0 (Int.toNat ((j0:Int)+(i64.wrap ((ab.length:Int) - 2))) * 1))) rfl (fun _ hC=>Va underlying43 sizeOf79 rfl rfl fa.1 fa.2 (h0.addr fc)) ?_;refine go ?_;refine qW (fun _ hC=>(h0.gr (hC.bl ao)).atInt fc) ?_;refine go ?_;refine qv (v:=(.bool (decide ((Yi .u64 (Xq .u64 ap 32) (u64.wrap fb))<(u64.wrap (ad * (u64.wrap e9))))))) rfl (fun _ hC=>Xj (congrArg Value.bool dc) rfl) ?_;refine qv (v:=(.bool (decide ((Yi .u64 (Xq .u64 ap 32) (u64.wrap fb))<(u64.wrap (ad * (u64.wrap e9))))))) rfl (fun _ hC=>Xs (congrArg Value.bool bw) rfl) ?_;refine Yf ?_;intro hi hC;replace hC:=hC.bl ao;replace h0:=h0.gr hC;replace aa:=aa.grow hC;exact ⟨rfl,_,_,hm,aa,h0,rfl⟩
  refine qv (v:=(.bool false)) rfl (fun _ hC=>Xs (congrArg Value.bool dc) rfl) ?_;refine qv (v:=(.bool false)) rfl (fun _ hC=>Xs (congrArg Value.bool bw) rfl) ?_;refine Yf ?_;intro hj hC;replace hC:=hC.bl ao;replace h0:=h0.gr hC;replace aa:=aa.grow hC;exact ⟨rfl,_,_,hm,aa,h0,rfl⟩
def Zls (aa:Int) (kk_L2:(List Int→Int→Option Rb)) (ab:List Int):Option Rb:=
  kk_L2 ab (i64.wrap (aa+1))
def Zgt (ab:Int) (ac:List Int) (aa:Int) (kk_L2:(List Int→Int→Option Rb)) (ad:Int):Option Rb:=
  (Zo ac aa).bind fun ae=>Z1 (0≤ab) ((some (ac.set (Int.toNat aa) (u32.wrap (X4 .u64 (Yi .u64 (Xq .u64 (u64.wrap ad) 32) (u64.wrap ae)) ab)))).bind fun af=>Zls aa kk_L2 af)
def Sn (N:Nat) (ac:Int) (ad:List Int) (ae:List Int):Nat→R2→Int→Option Rb
  | 0,_,_=>none
  | af+1,aa,ab=>if (decide (ab<(ae.length:Int)))=true then (if (decide ((i64.wrap (ab+1))<(aa.length:Int)))=true then ((Zo aa (i64.wrap (ab+1))).bind fun ag=>Zgt ac aa ab (Sn N ac ad ae af) ag) else (Zgt ac aa ab (Sn N ac ad ae af) 0)) else ((Ua N ad).bind fun ah=>(Ua N aa).bind fun ai=>some (ah,ai,0))
termination_by structural x=>x
def Zdx (N:Nat) (ae:Int) (ab:List Int):Nat→R2→R2→Int→Option Rb
  | 0,_,_,_=>none
  | ah+1,ac,ad,aa=>if (decide (0≤aa))=true then (Z1 ((0:Int)≤aa∧aa<(i64.wrap ((i64.wrap (aa+(ab.length:Int)))+1))∧(i64.wrap ((i64.wrap (aa+(ab.length:Int)))+1))≤(ac.length:Int)) ((Zgv N (Int.toNat aa) ((Int.toNat (i64.wrap ((i64.wrap (aa+(ab.length:Int)))+1))) - (Int.toNat aa)) ac ab).bind fun af=>(Zo ad aa).bind fun aj=>(some (ad.set (Int.toNat aa) af.1)).bind fun ai=>(Zdx N ae ab ah) af.2 ai (i64.wrap (aa - 1)))) else ((Zd3 N ac).bind fun ag=>Sn N ae ad ag N ag 0)
termination_by structural x=>x
def Zcd (N:Nat) (ae:List Int) (af:List Int):Option Rb:=
  (Un N ae).bind fun ab=>(Un N af).bind fun aa=>if (decide ((aa.length:Int)=0))=true then (some (([]:List Int),([]:List Int),11)) else ((Zdv N ab aa).bind fun ag=>if (decide (ag<0))=true then ((Ua N ab).bind fun ah=>some (([]:List Int),ah,0)) else (if (decide ((aa.length:Int)=1))=true then ((Zc1 ab).bind fun ai=>(Zo aa 0).bind fun aj=>(Zjo N ai aj).bind fun ad=>(Ua N ad.2).bind fun ak=>(Ua N [ad.1]).bind fun al=>some (ak,al,0)) else ((Zo aa (i64.wrap ((aa.length:Int) - 1))).bind fun am=>(Zjd am).bind fun ac=>(Zd1 ab ac).bind fun an=>(Zd1 aa ac).bind fun ao=>(Zd3 N ao).bind fun ap=>Z1 ((Int.toNat (i64.wrap ((i64.wrap ((ab.length:Int) - (aa.length:Int)))+1))) * 4≤281474976710656∧(Int.toNat (i64.wrap ((i64.wrap ((ab.length:Int) - (aa.length:Int)))+1)))≤maxLen∧0≤(i64.wrap ((i64.wrap ((ab.length:Int) - (aa.length:Int)))+1))) (Zdx N ac ap N an (List.replicate (Int.toNat (i64.wrap ((i64.wrap ((ab.length:Int) - (aa.length:Int)))+1))) (0:Int)) (i64.wrap (((List.replicate (Int.toNat (i64.wrap ((i64.wrap ((ab.length:Int) - (aa.length:Int)))+1))) (0:Int)).length:Int) - 1))))))
theorem Zk9 {N bu bv:Nat} {a0 a1:Option Addr} {col:Zf} {w0:World} {be bf:R2} {r:Rb} (c1 c2:Nat) (hm:Zcd N be bf=some r) (h0:Sl (Za.int .u32) col w0 a0 bu be) (h1:Sl (Za.int .u32) col w0 a1 bv bf):
    Calls Tryz.prog 260 #[.slice a0 be.length bu,.slice a1 bf.length bv] w0 (fun e w'=>∃ (col':Zf) (ra1:Option Addr) (rc2:Nat) (ra4:Option Addr) (rc5:Nat),e= .returned (.tuple #[.slice ra1 r.1.length rc2,.slice ra4 r.2.1.length rc5,.int .i64 r.2.2])∧Zg col w0 col' w'∧Zc (Za.int .u32) 79 c1 col' w' ra1 rc2 r.1∧Zc (Za.int .u32) 79 c2 col' w' ra4 rc5 r.2.1):=by
 refine Zq7 4 5 6 (m:=122) (args:=[.slice a0 be.length bu,.slice a1 bf.length bv]) func260 rfl rfl rfl rfl rfl ?_;rw [Zcd.eq_1] at hm;have aa:=St.start col w0;refine go ?_;obtain ⟨cx,cy,hm⟩:=bZ hm;replace h0:=h0.keep (Zj.start col w0);refine Zh (Tp cy (h0.ks aa)) ?_;rintro _ eb ⟨ec,ed,ee,rfl,cz,af⟩;refine ⟨_,rfl,?_⟩;refine Wa rfl ?_;obtain ⟨c0,c3,hm⟩:=bZ hm;replace h1:=h1.keep (Zj.start col w0);replace aa:=aa.grow cz;refine Zh (Tp c3 (h1.ks aa)) ?_;rintro _ c4 ⟨ay,ef,eg,rfl,cj,ac⟩;refine ⟨_,rfl,go ?_⟩;replace af:=af.gr cj;replace aa:=aa.grow cj;refine Zq hm (fun hb hm=>go ?_) fun hb hm=>go ?_
 ·cases hm;exact ⟨rfl,_,none,0,none,0,rfl,aa.fin (cm []),Zc.nil,Zc.nil⟩
 obtain ⟨eh,c5,hm⟩:=bZ hm;refine Zh (Znl c5 af ac) ?_;rintro _ ck ⟨rfl,az⟩;refine ⟨_,rfl,?_⟩;replace az:Zg ay c4 ay ck:=.of_below az;refine go ?_;replace af:=af.gr az;replace ac:=ac.gr az;replace aa:=aa.grow az;refine Zq hm (fun hb hm=>go ?_) fun hb hm=>go ?_
 ·obtain ⟨ei,c6,hm⟩:=bZ hm;refine Zh (Tf 1 c6 af) ?_;rintro _ ej ⟨ek,el,em,rfl,c7,c8⟩;refine ⟨_,rfl,go ?_⟩;cases hm;replace aa:=aa.grow c7;exact ⟨rfl,_,none,0,_,_,rfl,aa.fin (cm [(1,c2)]),Zc.nil,aa.fo c8⟩
 refine Zq hm (fun hb hm=>go ?_) fun hb hm=>go ?_
 ·obtain ⟨cl,c9,hm⟩:=bZ hm;refine Zh (Zlh 2 c9 af) ?_;rintro _ en ⟨eo,bg,bh,rfl,cn,da⟩;refine ⟨_,rfl,go ?_⟩;obtain ⟨ep,bw,hm⟩:=bZ hm;replace ac:=ac.gr cn;refine lI bw (ac.addr bw)<|lW (ac.atInt bw) ?_;obtain ⟨a2,db,hm⟩:=bZ hm;refine Zh (Zy1 2 db rfl da) ?_;rintro _ dc ⟨bx,rfl,dd,de,co⟩;refine ⟨_,rfl,?_⟩;refine .ld (d:=7) (v:=(.slice bg a2.2.length bh)) (congrArg (fun n=>Value.slice bg n bh) (show cl.length=a2.2.length from co.symm)) ?_;refine .ld (d:=34) (v:=(.slice bg a2.2.length bh)) (congrArg (fun n=>Value.slice bg n bh) (show cl.length=a2.2.length from co.symm)) ?_;refine go ?_;obtain ⟨eq,df,hm⟩:=bZ hm;refine Zh (Tf 3 df (de.toSlF (Zl.int .u32))) ?_;rintro _ er ⟨dg,es,et,rfl,bi,a3⟩;refine ⟨_,rfl,?_⟩;replace a3:=a3.thaw (Zv .u32) bi ((Fz.refl (col:=bx)).froz 2) (by decide);replace bi:=bi.thawR (col:=bx);generalize Z4 dc.heap.size bx dg=dh at *;refine Xo rfl<|Wx (col:=dh) [a2.1] 4 ?_;intro eu di bz cp dj;obtain ⟨ew,dl,hm⟩:=bZ hm;refine Zh (Tf 5 dl (dj.toSlF (Zl.int .u32))) ?_;rintro _ ey ⟨dm,ez,e0,rfl,a4,b0⟩;refine ⟨_,rfl,?_⟩;replace b0:=b0.thaw (Zv .u32) a4 ((Fz.refl (col:=bz)).froz 4) (by decide);replace a4:=a4.thawR (col:=bz);generalize Z4 di.heap.size bz dm=e1 at *;refine go ?_;cases hm;replace aa:=((((aa.grow cn).kpp dd).grow bi).grow cp).grow a4;replace a3:=(a3.gr cp).gr a4;exact ⟨rfl,_,_,_,_,_,rfl,aa.fin (cm [(3,c1),(5,c2)]),aa.fo a3,aa.fo b0⟩
 obtain ⟨e2,b1,hm⟩:=bZ hm;refine lI b1 (ac.addr b1)<|lW (ac.atInt b1) ?_;obtain ⟨ah,dn,hm⟩:=bZ hm;refine Zh (Zyo (col:=ay) dn) ?_;rintro _ dp ⟨rfl,a5⟩;refine ⟨_,rfl,?_⟩;replace a5:Zg ay ck ay dp:=.of_below a5;refine go ?_;obtain ⟨e3,dq,hm⟩:=bZ hm;replace af:=af.gr a5;refine Zh (Znn 6 dq af) ?_;rintro _ e4 ⟨e5,e6,e7,rfl,cq,a6⟩;refine ⟨_,rfl,go ?_⟩;obtain ⟨e8,dr,hm⟩:=bZ hm;replace ac:=(ac.gr a5).gr cq;refine Zh (Znn 7 dr ac) ?_;rintro _ e9 ⟨fa,fb,fc,rfl,cr,ds⟩;refine ⟨_,rfl,?_⟩;obtain ⟨b2,dt,hm⟩:=bZ hm;refine Zh (Zqq 7 dt rfl ds) ?_;rintro _ du ⟨dv,dw,dx,rfl,cs,ag⟩;refine ⟨_,rfl,go ?_⟩;obtain ⟨bj,hm⟩:=Z3 hm;refine Sh (col:=dv) (w:=du) (r:=(Za.int .u32)) (n:=(Int.toNat (i64.wrap ((i64.wrap ((cx.length:Int) - (c0.length:Int)))+1)))) (x0:=0) 8 rfl underlying43 Tryz.t79 rfl rfl rfl rfl rfl (congrArg (Value.int _) (Int.toNat_of_nonneg bj.2.2).symm) (congrArg (Value.int _) (Int.toNat_of_nonneg bj.2.2).symm) bj.1 bj.2.1 (S3 .u32 0) ?_;intro fd fe ff b3 b4;refine go ?_;replace a6:=((a6.gr cr).kpp cs).gr b3;replace a6:=a6.froz 7 (by decide);replace ag:=ag.gr b3;replace ag:=(ag).toSlF (Zl.int .u32);replace b4:=b4.froz 7 (by decide);replace aa:=((((aa.grow a5).grow cq).grow cr).kpp cs).grow b3;replace aa:=aa.froz 7 (by decide) (by decide);refine Z8 [11,9,1000000] (fun n f a7=>∃ a8 ap aq a9 aj ak ad al ar,ar=n∧Zdx N ah b2 ar a9 ad al=some r∧St w0 (Zi col) a8 a7∧Zc (Za.int .u32) 79 6 a8 a7 ap aq a9∧Sl (Za.int .u32) a8 a7 dw dx b2∧Zc (Za.int .u32) 79 8 a8 a7 aj ak ad∧[10,12,13].map f=[.slice ap a9.length aq,.slice aj ad.length ak,.int .i64 al]) N ⟨_,_,_,_,_,_,_,_,_,rfl,hm,aa,a6,ag,b4,rfl⟩ ?_;clear hm;intro n f a7 hI;obtain ⟨a8,ap,aq,a9,aj,ak,ad,al,ar,hn,hm,aa,b5,ag,ab,hs⟩:=hI;subst hn;refine .lL [10,12,13] hs ?_
 cases ar with
 | zero=>rw [Zdx.eq_1] at hm;cases hm
 | succ ar=>
  rw [Zdx.eq_2] at hm;refine go ?_;refine Zq hm (fun hb hm=>go ?_) fun hb hm=>go ?_
  ·obtain ⟨b6,hm⟩:=Z3 hm;refine lV (.slice (ap.map (·.add ((Int.toNat al) * 1))) ((Int.toNat (i64.wrap ((i64.wrap (al+(b2.length:Int)))+1))) - (Int.toNat al)) (aq - (Int.toNat al))) (Z3r underlying43 sizeOf79 rfl rfl rfl b6.1 b6.2.1 (by have:=b5.lecap;have:=b6.2.2;omega))<|Wa rfl ?_;obtain ⟨bk,dy,hm⟩:=bZ hm;refine Zh (Zyz 6 dy rfl b5 ag) ?_;rintro _ fg ⟨fh,rfl,b7,b8,dz⟩;refine ⟨_,rfl,?_⟩;refine .ld (d:=10) (v:=(.slice ap bk.2.length aq)) (congrArg (fun n=>Value.slice ap n aq) (show a9.length=bk.2.length from dz.symm)) ?_;obtain ⟨fi,b9,hm⟩:=bZ hm;replace ab:=ab.kpp b7;refine lI b9 (ab.addr b9) ?_;obtain ⟨ca,bm,hm⟩:=bZ hm;have bm:ca=ad.set (Int.toNat al) bk.1:=(Option.some.inj bm).symm;refine Yz (x1:=bk.1) ab b9 ?_;intro fj cb d0 ct;rw [← bm] at ct;refine .ld (d:=12) (v:=(.slice aj ca.length ak)) (congrArg (fun n=>Value.slice aj n ak) (show ad.length=ca.length by rw [bm,List.length_set])) ?_;refine go ?_;replace ag:=(ag.kpp b7).kp cb;replace aa:=(aa.kpp b7).kp cb d0;replace b8:=b8.kp cb;exact ⟨ar,by omega,rfl,⟨_,_,_,_,_,_,_,_,_,rfl,hm,aa,b8,ag,ct,rfl⟩⟩
  obtain ⟨cc,d1,hm⟩:=bZ hm;refine Zh (Zqq 6 d1 rfl b5) ?_;rintro _ fk ⟨fl,fm,fn,rfl,cu,d2⟩;refine ⟨_,rfl,go ?_⟩;replace ab:=ab.kpp cu;replace aa:=aa.kpp cu;refine Z8 [12,88,9,1000000] (fun n f ba=>∃ ao au av am aw an,an=n∧Sn N ah ad cc an am aw=some r∧St w0 (Zi col) ao ba∧Zc (Za.int .u32) 79 6 ao ba au av am∧Zc (Za.int .u32) 79 8 ao ba aj ak ad∧[10,89].map f=[.slice au am.length av,.int .i64 aw]) N ⟨_,_,_,_,0,_,rfl,hm,aa,d2,ab,rfl⟩ ?_;clear hm;intro n f ba hI;obtain ⟨ao,au,av,am,aw,an,hn,hm,aa,ae,ab,hs⟩:=hI;subst hn;refine .lL [10,89] hs ?_
  cases an with
  | zero=>rw [Sn.eq_1] at hm;cases hm
  | succ an=>
   rw [Sn.eq_2] at hm;refine go ?_;refine Zq hm (fun hb hm=>?_) fun hb hm=>go ?_
   ·refine X8<|Zy ?_;refine Wp.cutK [12,88,89,9,1000000] (fun f bn=>∃ bo cd ce bp,Zls aw (Sn N ah ad cc an) bp=some r∧St w0 (Zi col) bo bn∧Zc (Za.int .u32) 79 6 bo bn cd ce bp∧Zc (Za.int .u32) 79 8 bo bn aj ak ad∧[10].map f=[.slice cd bp.length ce]) ?_ ?_
    ·intro f bn hJ;obtain ⟨bo,cd,ce,bp,hm,aa,d3,ab,hs⟩:=hJ;rw [Zls.eq_1] at hm;refine .lL [10] hs<|go ?_;exact ⟨an,by omega,rfl,⟨_,_,_,_,_,_,rfl,hm,aa,d3,ab,rfl⟩⟩
    refine Zdc<|Zy<|Wd<|Xo rfl<|Yu rfl<|Zk<|Zy<|Wd<|Yu rfl<|Zk<|Zy ?_;refine Wp.cutK [10,12,14,88,89,9,1000000] (fun f bq=>∃ br ai,Zgt ah am aw (Sn N ah ad cc an) ai=some r∧St w0 (Zi col) br bq∧Zc (Za.int .u32) 79 6 br bq au av am∧Zc (Za.int .u32) 79 8 br bq aj ak ad∧[15].map f=[.int .u32 ai]) ?_ ?_
    ·intro f bq hJ;obtain ⟨br,ai,hm,aa,ae,ab,hs⟩:=hJ;rw [Zgt.eq_1] at hm;refine .lL [15] hs<|go ?_;refine lV (.int .u64 (Xq .u64 (u64.wrap ai) 32)) (Zbo (u64.wrap ai) 32 rfl rfl (by decide))<|go ?_;obtain ⟨bs,ax,hm⟩:=bZ hm;refine lI ax (ae.addr ax)<|lW (ae.atInt ax) ?_;refine go ?_;obtain ⟨d4,hm⟩:=Z3 hm;refine lV (.int .u64 (X4 .u64 (Yi .u64 (Xq .u64 (u64.wrap ai) 32) (u64.wrap bs)) ah)) (Tl (Yi .u64 (Xq .u64 (u64.wrap ai) 32) (u64.wrap bs)) ah rfl rfl d4)<|go ?_;refine lI ax (ae.addr ax) ?_;obtain ⟨cf,bt,hm⟩:=bZ hm;have bt:cf=am.set (Int.toNat aw) (u32.wrap (X4 .u64 (Yi .u64 (Xq .u64 (u64.wrap ai) 32) (u64.wrap bs)) ah)):=(Option.some.inj bt).symm;refine Yz (x1:=u32.wrap (X4 .u64 (Yi .u64 (Xq .u64 (u64.wrap ai) 32) (u64.wrap bs)) ah)) ae ax ?_;intro fp cv d5 cw;rw [← bt] at cw;refine .ld (d:=10) (v:=(.slice au cf.length av)) (congrArg (fun n=>Value.slice au n av) (show am.length=cf.length by rw [bt,List.length_set])) ?_;refine Zk ?_;replace ab:=ab.kp cv;replace aa:=aa.kp cv d5;exact ⟨rfl,_,_,_,_,hm,aa,cw,ab,rfl⟩
    refine go ?_;refine Zq hm (fun hb hm=>go ?_) fun hb hm=>?_
    ·obtain ⟨fq,cg,hm⟩:=bZ hm;refine lI cg (ae.addr cg)<|lW (ae.atInt cg) ?_;refine go ?_;exact ⟨rfl,_,_,hm,aa,ae,ab,rfl⟩
    refine X8 ?_;exact ⟨rfl,_,0,hm,aa,ae,ab,rfl⟩
   obtain ⟨fr,d6,hm⟩:=bZ hm;refine Zh (Tf 9 d6 (ab.toSlF (Zl.int .u32))) ?_;rintro _ d7 ⟨d8,ft,fu,rfl,bb,bc⟩;refine ⟨_,rfl,?_⟩;replace bc:=bc.thaw (Zv .u32) bb ((Fz.refl (col:=ao)).froz 8) (by decide);replace bb:=bb.thawR (col:=ao);generalize Z4 ba.heap.size ao d8=ch at *;refine Wa rfl ?_;obtain ⟨fv,d9,hm⟩:=bZ hm;replace ae:=ae.gr bb;refine Zh (Tf 10 d9 (ae.toSlF (Zl.int .u32))) ?_;rintro _ fw ⟨ea,fx,fy,rfl,bd,ci⟩;refine ⟨_,rfl,?_⟩;replace ci:=ci.thaw (Zv .u32) bd ((Fz.refl (col:=ch)).froz 6) (by decide);replace bd:=bd.thawR (col:=ch);generalize Z4 d7.heap.size ch ea=fz at *;refine go ?_;cases hm;replace aa:=(aa.grow bb).grow bd;replace bc:=bc.gr bd;exact ⟨rfl,_,_,_,_,_,rfl,aa.fin (cm [(9,c1),(10,c2)]),aa.fo bc,aa.fo ci⟩
def Zax (N:Nat) (ab:List Int):Option Int:=
  (Un N ab).bind fun aa=>if (decide ((aa.length:Int)=0))=true then (some 0) else ((Zo aa (i64.wrap ((aa.length:Int) - 1))).bind fun ac=>(Zgf ac).bind fun ad=>some (i64.wrap ((i64.wrap (32 * (i64.wrap ((aa.length:Int) - 1))))+ad)))
theorem Znk {N af:Nat} {a0:Option Addr} {col:Zf} {w0:World} {ab:R2} {r:Int} (hm:Zax N ab=some r) (h0:Sl (Za.int .u32) col w0 a0 af ab):
    Calls Tryz.prog 128 #[.slice a0 ab.length af] w0 (fun e w'=>e= .returned ((.int .i64 r))∧Below w0.heap.size w0 w'):=by
 refine Xi 2 (m:=20) func128 rfl rfl rfl rfl rfl ?_;rw [Zax.eq_1] at hm;have aa:=St.start col w0;refine go ?_;obtain ⟨am,ah,hm⟩:=bZ hm;replace h0:=h0.keep (Zj.start col w0);refine Zh (Tp ah (h0.ks aa)) ?_;rintro _ ai ⟨ac,an,ao,rfl,aj,ag⟩;refine ⟨_,rfl,go ?_⟩;replace aa:=aa.grow aj;refine Zq hm (fun hb hm=>go ?_) fun hb hm=>go ?_
 ·cases hm;exact ⟨rfl,rfl,aa.below⟩
 obtain ⟨ap,ad,hm⟩:=bZ hm;refine lI ad (ag.addr ad)<|lW (ag.atInt ad) ?_;obtain ⟨aq,ak,hm⟩:=bZ hm;refine Zh (Zqm (col:=ac) ak) ?_;rintro _ al ⟨rfl,ae⟩;refine ⟨_,rfl,?_⟩;replace ae:Zg ac ai ac al:=.of_below ae;refine go ?_;cases hm;replace aa:=aa.grow ae;exact ⟨rfl,rfl,aa.below⟩
def Xb (n:Nat):Nat:=if n=0 then 0 else n.log2+1
theorem Zfj:Xb 0=0:=rfl
theorem Zqb {n k:Nat} (h:2 ^ k≤n) (h2:n<2 ^ (k+1)):Xb n=k+1:=by
 have h0:n≠0:=by have:=Nat.two_pow_pos k;omega
 rw [Xb,if_neg h0,(Nat.log2_eq_iff h0).2 ⟨h,h2⟩]
theorem Zk7 {n:Nat} (h:n≠0):∃ k,Xb n=k+1∧2 ^ k≤n∧n<2 ^ (k+1):=by
 refine ⟨n.log2,by rw [Xb,if_neg h],?_⟩
 exact (Nat.log2_eq_iff h).1 rfl
theorem Vr {n k:Nat}:Xb n≤k↔n<2 ^ k:=by
 by_cases h:n=0
 ·subst h;simp [Zfj,Nat.two_pow_pos]
 ·obtain ⟨j,e,h1,h2⟩:=Zk7 h
  rw [e]
  constructor
  ·intro hk;exact Nat.lt_of_lt_of_le h2 (Nat.pow_le_pow_right (by decide) hk)
  ·intro hk
   have:=(Nat.pow_lt_pow_iff_right (a:=2) (by decide)).1 (Nat.lt_of_le_of_lt h1 hk)
   omega
theorem Zip (n k:Nat):Xb (n / 2 ^ k)=Xb n - k:=by
 by_cases h:n / 2 ^ k=0
 ·have h1:n<2 ^ k:=by
   have:=Nat.two_pow_pos k
   rcases Nat.div_eq_zero_iff.1 h with h | h
   ·omega
   ·exact h
  have:=Vr.2 h1
  rw [h,Zfj];omega
 ·obtain ⟨j,e,h1,h2⟩:=Zk7 h
  have hp:=Nat.two_pow_pos k
  have h3:2 ^ (j+k)≤n:=by
   rw [Nat.pow_add]
   exact (Nat.le_div_iff_mul_le hp).1 h1
  have h4:n<2 ^ (j+k+1):=by
   have:=(Nat.div_lt_iff_lt_mul hp).1 h2
   rw [show j+k+1=(j+1)+k by omega,Nat.pow_add];exact this
  rw [e,Zqb h3 h4];omega
theorem Z11:∀ x:Fin 256,Zds (x.val:Int) 0=some ((Xb x.val:Nat):Int):=by decide+kernel
theorem Zs6 {x:Nat} (h:x<256) {n:Int} (hn:0≤n∧n≤24):Zds (x:Int) n=some (n+(Xb x:Int)):=by
 have h0:=Z11 ⟨x,h⟩
 have hb:Xb x≤8:=Vr.2 h
 rw [Zds] at h0 ⊢
 revert h0
 generalize Zk2 _ _=o
 intro h0
 cases o with
 | none=>cases h0
 | some e=>
  rw [Option.bind_some] at h0 ⊢
  have h1:=Option.some.inj h0
  rw [IntKind.wrap_i64,IntKind.wrap_i64] at h1 ⊢
  congr 1
  simp only at h1
  omega
theorem Zko (i:IntKind) (x k:Nat) (hk:k≤i.bits):X4 i (x:Int) (k:Int)=((x / 2 ^ k:Nat):Int):=by
 rw [X4,Int.toNat_natCast,Nat.min_eq_left hk,Int.fdiv_eq_ediv_of_nonneg _ (Int.le_of_lt (Int.pow_pos (by decide)))]
 norm_cast
theorem Zs0 {x:Nat} (h:x<4294967296):Zgf (x:Int)=some ((Xb x:Nat):Int):=by
 have j1:∀ (y:Nat) (n:Int),y<65536→0≤n∧n≤16→Zgg (y:Int) n=some (n+(Xb y:Int)):=fun y n hy hn=>by
  rw [Zgg]
  by_cases h1:256≤y
  ·have e:=Zko .u32 y 8 (by decide)
   have hb:=Zip y 8
   have hb8:8≤Xb y:=by
    have:¬ Xb y≤7:=fun h=>by have:=Vr.1 h;omega
    omega
   rw [if_pos (by simp;omega),show (8:Int)=((8:Nat):Int) from rfl,e,Zs6 (by omega) (by rw [Zt (by omega)];omega),Zt (by omega),hb]
   congr 1;omega
  ·rw [if_neg (by simp;omega),Zs6 (by omega) (by omega)]
 rw [Zgf]
 by_cases h1:65536≤x
 ·have e:=Zko .u32 x 16 (by decide)
  have hb:=Zip x 16
  have hb8:16≤Xb x:=by
   have:¬ Xb x≤15:=fun h=>by have:=Vr.1 h;omega
   omega
  rw [if_pos (by simp;omega),show (16:Int)=((16:Nat):Int) from rfl,e,j1 _ _ (by omega) (by omega),hb]
  congr 1;omega
 ·rw [if_neg (by simp;omega),j1 _ _ (by omega) (by omega)]
  congr 1;omega
theorem Zqd {a:List Int} {x:Int} (ha:Zp a) (hx:0<x∧x<4294967296):Xb (Zb (a++[x]))=32 * a.length+Xb x.toNat:=by
 obtain ⟨k,e,h1,h2⟩:=Zk7 (show x.toNat≠0 by omega)
 have hl:=Sz ha
 have e1:Zb (a++[x])=Zb a+4294967296 ^ a.length * x.toNat:=by rw [T3,Y4,Yd];simp
 have e2:(4294967296:Nat) ^ a.length=2 ^ (32 * a.length):=by rw [show (4294967296:Nat)=2 ^ 32 by decide,← Nat.pow_mul]
 rw [e]
 have:=Zqb (n:=Zb (a++[x])) (k:=32 * a.length+k) (by
   rw [e1,e2,Nat.pow_add]
   have:=Nat.mul_le_mul_left (2 ^ (32 * a.length)) h1
   omega) (by
   rw [e1,show 32 * a.length+k+1=32 * a.length+(k+1) by omega,Nat.pow_add,e2]
   have:=Nat.mul_le_mul_left (2 ^ (32 * a.length)) (show x.toNat+1≤2 ^ (k+1) by omega)
   rw [Nat.mul_add] at this
   rw [e2] at hl
   omega)
 rw [this];omega
theorem Zfi (n:Nat):32 * ((Zd n).length - 1)≤Xb n∧Xb n≤32 * (Zd n).length:=by
 have e:∀ k,(4294967296:Nat) ^ k=2 ^ (32 * k):=fun k=>by rw [show (4294967296:Nat)=2 ^ 32 by decide,← Nat.pow_mul]
 constructor
 ·by_cases h:32 * ((Zd n).length - 1)≤Xb n
  ·exact h
  ·exfalso
   have h1:=Vr.1 (show Xb n≤32 * ((Zd n).length - 1) by omega)
   rw [← e] at h1
   have:=Wt.2 h1
   omega
 ·have:=Wt.1 (Nat.le_refl (Zd n).length)
  rw [e] at this
  exact Vr.2 this
theorem Znf {N:Nat} {a:List Int} (h:Zp a) (hn:a.length<N) (hb:a.length≤1099511627776):Zax N a=some ((Xb (Zb a):Nat):Int):=by
 have hl:=X0 h
 rw [Zax,Sa h hn hb,Option.bind_some]
 by_cases h0:(Zd (Zb a)).length=0
 ·have:Zb a=0:=Zfu.1 (List.eq_nil_of_length_eq_zero h0)
  rw [if_pos (by simp [h0]),this,Zfj];rfl
 ·have hp:0<(Zd (Zb a)).length:=by omega
  have e:((Zd (Zb a)).length:Int) - 1=(((Zd (Zb a)).length - 1:Nat):Int):=by omega
  have hx:=(Z2 (Zb a)).get (k:=(Zd (Zb a)).length - 1) (by omega)
  have hne:=Zlp hp
  have hs:=Zfs hp
  have e2:(Zd (Zb a))[(Zd (Zb a)).length - 1]=(((Zd (Zb a))[(Zd (Zb a)).length - 1]).toNat:Int):=by omega
  rw [if_neg (by simpa using h0),Zt (by omega),e,Z7 (by omega),Option.bind_some,e2,Zs0 (by omega),Option.bind_some]
  have hb:=Zqd (a:=(Zd (Zb a)).take ((Zd (Zb a)).length - 1)) (x:=(Zd (Zb a))[(Zd (Zb a)).length - 1]) ((Z2 _).take _) (by omega)
  rw [hs,Z0,List.length_take,Nat.min_eq_left (by omega)] at hb
  have hb2:Xb ((Zd (Zb a))[(Zd (Zb a)).length - 1]).toNat≤32:=Vr.2 (by omega)
  rw [Zt (x:=32 * _) (by omega),Zt (by omega),hb]
  congr 1
theorem Zbu (w x:Nat) (h:x<2 ^ w):(BitVec.ofInt w (x:Int)).toNat=x:=by
 rw [BitVec.toNat_ofInt]
 have:((2 ^ w:Nat):Int)=(2:Int) ^ w:=by norm_cast
 rw [← Int.natCast_emod,Int.toNat_natCast,Nat.mod_eq_of_lt h]
theorem or64 (k a b:Nat) (h:b<2 ^ k) (hs:2 ^ k * a+b<18446744073709551616):Yi .u64 ((2 ^ k * a:Nat):Int) (b:Int)=((2 ^ k * a+b:Nat):Int):=by
 rw [Yi,BitVec.toNat_or,Zbu _ _ (by simp only [IntKind.bits];omega),Zbu _ _ (by simp only [IntKind.bits];omega),← Nat.two_pow_add_eq_or_of_lt h,IntKind.wrap_u64]
 omega
theorem or32 (k a b:Nat) (h:b<2 ^ k) (hs:2 ^ k * a+b<4294967296):Yi .u32 (b:Int) ((2 ^ k * a:Nat):Int)=((2 ^ k * a+b:Nat):Int):=by
 rw [Yi,BitVec.toNat_or,Zbu _ _ (by simp only [IntKind.bits];omega),Zbu _ _ (by simp only [IntKind.bits];omega),Nat.or_comm,← Nat.two_pow_add_eq_or_of_lt h,IntKind.wrap_u32]
 omega
theorem Z4h {x:Int} (h:0≤x∧x<4294967296):Xq .u64 x 32=x * 4294967296:=by
 have:(min (32:Int).toNat u64.bits)=32:=by decide
 rw [Xq,this,IntKind.wrap_u64]
 omega
theorem Zm7 {r e:Int} (hr:0≤r∧r<4294967296) (he:0≤e∧e<4294967296):Yi .u64 (Xq .u64 r 32) e=r * 4294967296+e:=by
 rw [Z4h hr]
 have:=or64 32 r.toNat e.toNat (by omega) (by omega)
 rw [show ((2 ^ 32 * r.toNat:Nat):Int)=r * 4294967296 by omega,show ((e.toNat:Nat):Int)=e by omega] at this
 rw [this];omega
theorem Zdb {l:List Int} {k j:Nat} (v:Int) (h:j≤k):(l.set k v).take j=l.take j:=by
 rw [List.take_set,List.set_eq_of_length_le]
 rw [List.length_take];omega
theorem Zw3 (N:Nat) (d:Int) (hd:0<d∧d<4294967296):∀ (n j:Nat) (r:List Int) (c:Int),j≤r.length→j<n→r.length<4611686018427387904→Zp r→0≤c∧c<d→
  ∃ c' r',Zd2 N d n r c ((j:Int) - 1)=some (c',r')∧r'.length=r.length∧Zp r'∧0≤c'∧c'<d∧d.toNat * Zb r'+c'.toNat=Zb (r.take j)+4294967296 ^ j * (c.toNat+d.toNat * Zb (r.drop j))
 | 0,j,r,c,_,h,_,_,_=>by omega
 | n+1,j,r,c,hj,hn,hs,hr,hc=>by
  rw [Zd2.eq_2]
  by_cases h0:j=0
  ·subst h0
   rw [if_neg (by decide),V3 (by omega)]
   refine ⟨c,r,rfl,rfl,hr,hc.1,hc.2,?_⟩
   rw [List.take_zero,List.drop_zero,Yd];omega
  ·have e:(j:Int) - 1=((j - 1:Nat):Int):=by omega
   have hk:j - 1<r.length:=by omega
   have g:=hr.get hk
   rw [if_pos (by simp;omega),e,Z7 hk,Option.bind_some,Xm (x:=d) (by omega),Z9 (by omega),Option.bind_some,Z9 (by omega),Int.toNat_natCast,Xm (x:=r[j - 1]) (by omega),Zm7 (by omega) (by omega)]
   generalize hcur:c * 4294967296+r[j - 1]=cur
   have hcd:(c+1) * 4294967296≤d * 4294967296:=by omega
   have hq:0≤cur / d∧cur / d<4294967296:=⟨Int.ediv_nonneg (by omega) (by omega),Int.ediv_lt_of_lt_mul hd.1 (by rw [Int.mul_comm];omega)⟩
   have hm:=Int.emod_nonneg cur (show d≠0 by omega)
   have hm2:=Int.emod_lt_of_pos cur hd.1
   have hdm:=Int.mul_ediv_add_emod cur d
   rw [Int.tdiv_eq_ediv_of_nonneg (by omega),Int.tmod_eq_emod_of_nonneg (by omega),Xm (by omega),V3 hq,Zt (by omega)]
   obtain ⟨c',r',q1,q2,q3,q4,q5,q6⟩:=Zw3 N d hd n (j - 1) (r.set (j - 1) (cur / d)) (cur % d) (by rw [List.length_set];omega) (by omega) (by rw [List.length_set];exact hs) (hr.set _ hq) ⟨hm,hm2⟩
   refine ⟨c',r',q1,by rw [q2,List.length_set],q3,q4,q5,?_⟩
   rw [q6,Zdb _ (Nat.le_refl _)]
   have t1:=Zou hk
   have t2:Zb ((r.set (j - 1) (cur / d)).drop (j - 1))=(cur / d).toNat+4294967296 * Zb (r.drop (j - 1+1)):=by
    rw [Ud (by rw [List.length_set];exact hk),List.getElem_set_self,S6 _ (by omega)]
   rw [show j - 1+1=j by omega] at t1 t2
   rw [t1,t2]
   have hp:(4294967296:Nat) ^ j=4294967296 ^ (j - 1) * 4294967296:=by rw [← Nat.pow_succ,show (j - 1).succ=j by omega]
   rw [hp]
   have hn1:d.toNat * (cur / d).toNat+(cur % d).toNat=c.toNat * 4294967296+(r[j - 1]).toNat:=by
    have:((d.toNat * (cur / d).toNat:Nat):Int)=d * (cur / d):=by rw [Int.natCast_mul,Int.toNat_of_nonneg (by omega),Int.toNat_of_nonneg hq.1]
    omega
   generalize hQ:4294967296 ^ (j - 1)=Q
   have hn2:Q * (d.toNat * (cur / d).toNat+(cur % d).toNat)=Q * (c.toNat * 4294967296+(r[j - 1]).toNat):=by rw [hn1]
   grind
theorem Z4l {N:Nat} {a:List Int} {d:Int} (hd:0<d∧d<4294967296) (ha:Zp a) (hn:a.length<N) (hs:a.length≤1099511627776):
  ∃ q,Zjo N a d=some (((Zb a % d.toNat:Nat):Int),q)∧q.length=a.length∧Zp q∧Zb q=Zb a / d.toNat:=by
 obtain ⟨c',r',q1,q2,q3,q4,q5,q6⟩:=Zw3 N d hd N a.length a 0 (Nat.le_refl _) hn (by omega) ha (by omega)
 have hd':0<d.toNat:=by omega
 rw [List.take_length,List.drop_length,Yd] at q6
 have h1:Zb a=c'.toNat+d.toNat * Zb r':=by simp at q6;omega
 have h2:Zb a % d.toNat=c'.toNat:=by rw [h1,Nat.add_mul_mod_self_left,Nat.mod_eq_of_lt (by omega)]
 have h3:Zb a / d.toNat=Zb r':=by rw [h1,Nat.add_mul_div_left _ _ hd',Nat.div_eq_of_lt (by omega),Nat.zero_add]
 refine ⟨r',?_,q2,q3,h3.symm⟩
 rw [Zjo,Zt (by omega),q1,h2]
 congr 2;omega
theorem Zpl {i:IntKind} {x s:Nat} (hs:s<32) (hi:i= .u32∨i= .u64):Xq i (x:Int) (s:Int)=i.wrap ((x * 2 ^ s:Nat):Int):=by
 rw [Xq,Int.toNat_natCast,Nat.min_eq_left (by rcases hi with rfl | rfl <;> simp only [IntKind.bits] <;> omega)]
 norm_cast
theorem Zpy (n:Nat):u32.wrap (n:Int)=((n % 4294967296:Nat):Int):=by rw [IntKind.wrap_u32];omega
theorem Zsz (s:Nat) (hs:s<32):∀ (l:List Int) (k:Nat) (out:List Int),Zp l→out.length=k+l.length+1→out.length<4611686018427387904→Zp out→Zb (out.drop (k+1))=0→(∀ h:k<out.length,(out[k]).toNat<2 ^ s)→
  ∃ out',Zci (s:Int) l k out=some out'∧out'.length=out.length∧Zp out'∧Zb out'=Zb out+4294967296 ^ k * (2 ^ s * Zb l)∧(∀ h:out'.length - 1<out'.length,(out'[out'.length - 1]).toNat<2 ^ s)
 | [],k,out,_,hl,_,ho,_,hk=>by
  rw [Zci.eq_1]
  rw [List.length_nil] at hl
  refine ⟨out,rfl,rfl,ho,by rw [Yd];omega,fun h=>?_⟩
  have:=hk (by omega)
  simpa [hl] using this
 | x :: l,k,out,hx,hl,hz,ho,hd,hk=>by
  rw [List.length_cons] at hl
  have h0:k<out.length:=by omega
  have h1:k+1<out.length:=by omega
  have gx:=hx.head
  have gk:=ho.get h0
  have gs:=hk h0
  have hz1:=drop_zero ho h1 hd
  have e1:i64.wrap ((k:Int)+1)=((k+1:Nat):Int):=by rw [Zt (by omega)];omega
  have ex:x=(x.toNat:Int):=by omega
  have ek:out[k]=((out[k]).toNat:Int):=by omega
  have pw:(2:Nat) ^ s * 2 ^ (32 - s)=4294967296:=by rw [← Nat.pow_add,show s+(32 - s)=32 by omega]
  have hps:=Nat.two_pow_pos s
  have hp2:=Nat.two_pow_pos (32 - s)
  -- the lower and the upper limb
  have hxs:x.toNat * 2 ^ s<4294967296 * 2 ^ s:=Nat.mul_lt_mul_of_pos_right (by omega) hps
  have hs31:2 ^ s≤2147483648:=by
   have:=Nat.pow_le_pow_right (n:=2) (by decide) (show s≤31 by omega)
   omega
  have hlow:(x.toNat * 2 ^ s) % 4294967296=2 ^ s * (x.toNat % 2 ^ (32 - s)):=by
   rw [← pw,Nat.mul_comm x.toNat,Nat.mul_mod_mul_left]
  have hlo:Yi .u32 out[k] (Xq .u32 x (s:Int))=(((x.toNat * 2 ^ s) % 4294967296+(out[k]).toNat:Nat):Int):=by
   rw [ex,Zpl hs (.inl rfl),Zpy,ek]
   simp only [Int.toNat_natCast]
   rw [hlow]
   refine or32 s _ _ gs ?_
   have:2 ^ s * (x.toNat % 2 ^ (32 - s)+1)≤2 ^ s * 2 ^ (32 - s):=Nat.mul_le_mul_left _ (Nat.mod_lt _ hp2)
   rw [pw,Nat.mul_add] at this
   omega
  have hhi:u32.wrap (X4 .u64 (Xq .u64 (u64.wrap x) (s:Int)) 32)=((x.toNat * 2 ^ s / 4294967296:Nat):Int):=by
   rw [Xm (x:=x) (by omega),ex,Zpl hs (.inr rfl),Zfd,Xm (by omega)]
   simp only [Int.toNat_natCast]
   rw [V3 (by omega)]
   omega
  have hhs:x.toNat * 2 ^ s / 4294967296<2 ^ s:=(Nat.div_lt_iff_lt_mul (by decide)).2 (by rw [Nat.mul_comm (2 ^ s)];exact hxs)
  have hlow2:(x.toNat * 2 ^ s) % 4294967296+(out[k]).toNat<4294967296:=by
   rw [hlow]
   have:2 ^ s * (x.toNat % 2 ^ (32 - s)+1)≤2 ^ s * 2 ^ (32 - s):=Nat.mul_le_mul_left _ (Nat.mod_lt _ hp2)
   rw [pw,Nat.mul_add] at this
   omega
  rw [Zci.eq_2,Z7 h0,Option.bind_some,Z9 (by omega),Option.bind_some,Z9 (by omega),e1,Int.toNat_natCast,Int.toNat_natCast,
   Z7 (by rw [List.length_set];exact h1),Option.bind_some,Option.bind_some,hlo,hhi]
  generalize hA:(x.toNat * 2 ^ s) % 4294967296+(out[k]).toNat=A at hlow2
  generalize hB:x.toNat * 2 ^ s / 4294967296=B at hhs
  have o1:Zp (out.set k (A:Int)):=ho.set _ (by omega)
  have o2:Zp ((out.set k (A:Int)).set (k+1) (B:Int)):=o1.set _ (by omega)
  obtain ⟨out',q1,q2,q3,q4,q5⟩:=Zsz s hs l (k+1) ((out.set k (A:Int)).set (k+1) (B:Int)) hx.tail (by rw [List.length_set,List.length_set];omega) (by rw [List.length_set,List.length_set];exact hz) o2 (by
   rw [S6 _ (by omega),S6 _ (by omega)];exact hz1.2) (fun h=>by rw [List.getElem_set_self];simpa using hhs)
  refine ⟨out',q1,by rw [q2,List.length_set,List.length_set],q3,?_,q5⟩
  have v1:=Uu h0 (A:Int)
  have v2:=Uu (l:=out.set k (A:Int)) (k:=k+1) (by rw [List.length_set];exact h1) (B:Int)
  rw [List.getElem_set_ne (by omega),hz1.1] at v2
  rw [Int.toNat_natCast] at v1 v2
  rw [Int.toNat_zero,Nat.mul_zero,Nat.add_zero] at v2
  rw [q4,Y4]
  rw [Nat.pow_succ] at v2 ⊢
  have key:A+4294967296 * B=(out[k]).toNat+x.toNat * 2 ^ s:=by omega
  generalize 4294967296 ^ k=Q at *
  have key2:Q * (A+4294967296 * B)=Q * ((out[k]).toNat+x.toNat * 2 ^ s):=by rw [key]
  grind
theorem Zoh {a:List Int} {s:Nat} (hs:s<32) (ha:Zp a) (hb:a.length<1099511627776):
  ∃ o,Zd1 a (s:Int)=some o∧o.length=a.length+1∧Zp o∧Zb o=2 ^ s * Zb a∧∀ h:o.length - 1<o.length,(o[o.length - 1]).toNat<2 ^ s:=by
 rw [Zd1,Zt (by omega),Z9 (by simp only [maxLen];omega)]
 have e:Int.toNat ((a.length:Int)+1)=a.length+1:=by omega
 rw [e]
 obtain ⟨o,q1,q2,q3,q4,q5⟩:=Zsz s hs a 0 (List.replicate (a.length+1) 0) ha (by rw [List.length_replicate];omega) (by rw [List.length_replicate];omega) (.zeros _) (by rw [List.drop_replicate];exact Uw _) (fun h=>by
  rw [List.getElem_replicate];exact Nat.two_pow_pos s)
 refine ⟨o,q1,by rw [q2,List.length_replicate],q3,?_,q5⟩
 rw [q4,Uw,Nat.pow_zero];omega
theorem Z0l (g:Int) (u:List Int):Zjl g u=Zaz g u:=rfl
theorem Zrk (j0 n0:Nat) (v:List Int) (g:Int):∀ (l:List Int) (k:Nat) (u:List Int) (c:Int),Zch j0 n0 v g l k u c=Tw j0 n0 v (u64.wrap (g - 1)) l k u c
 | [],k,u,c=>by rw [Zch.eq_1,Tw.eq_1];rfl
 | x :: l,k,u,c=>by
  rw [Zch.eq_2,Tw.eq_2]
  simp only [Zrk j0 n0 v g l]
theorem Zrj (j0 n0:Nat) (v:List Int) (g:Int):∀ (l:List Int) (k:Nat) (u:List Int) (b c:Int),Qb j0 n0 v g l k u b c=V9 j0 n0 v (u64.wrap (g - 1)) l k u b c
 | [],k,u,b,c=>by
  rw [Qb.eq_1,V9.eq_1]
  simp only [Zrk,Z0l]
 | x :: l,k,u,b,c=>by
  rw [Qb.eq_2,V9.eq_2]
  simp only [Zjm,Zd0,Zlu,Zjn,Zrj j0 n0 v g l]
theorem Ztg {x:Int} (h:0≤x∧x<18446744073709551616):V7 .u64 x 4294967295=x % 4294967296:=by
 have e:x=(x.toNat:Int):=by omega
 rw [V7,BitVec.toNat_and,e,Zbu _ _ (by simp only [IntKind.bits];omega),show (4294967295:Int)=((2 ^ 32 - 1:Nat):Int) by decide,Zbu _ _ (by simp only [IntKind.bits];omega),Nat.and_two_pow_sub_one_eq_mod,IntKind.wrap_u64]
 omega
theorem Zx1 (S S' S2 Q e v x c c' L T:Nat) (h1:S'+Q * e=S+Q * v) (h2:c+(e+x)=v+4294967296 * c') (h3:S2+T=S'+Q * 4294967296 * (c'+L)):S2+T=S+Q * (c+(x+4294967296 * L)):=by
 have:Q * (c+(e+x))=Q * (v+4294967296 * c'):=by rw [h2]
 grind
theorem Ziz {l:List Int} {k j:Nat} (v:Int) (h:k<j):(l.set k v).drop j=l.drop j:=S6 v h
theorem Zrm (j0:Nat) (v:List Int) (g:Int):∀ (l:List Int) (k:Nat) (u:List Int) (c:Int),Zp l→k+l.length=v.length→Zp u→j0+v.length<u.length→0≤c∧c≤1→
  ∃ u' co,Tw j0 (v.length+1) v g l k u c=some (u32.wrap (u64.wrap (g - 1)),u')∧u'.length=u.length∧Zp u'∧u'.take j0=u.take j0∧u'.drop (j0+v.length+1)=u.drop (j0+v.length+1)∧Zb u'+co * 4294967296 ^ (j0+v.length+1)=Zb u+4294967296 ^ (j0+k) * (c.toNat+Zb l)
 | [],k,u,c,_,hk,hu,hl,hc=>by
  have hk':k=v.length:=by simpa using hk
  subst hk'
  have g0:=hu.get hl
  rw [Tw.eq_1,Z9 (by omega),show (j0:Int)+(v.length:Int)=((j0+v.length:Nat):Int) by omega,Z7 hl,Option.bind_some,Z9 (by omega),Option.bind_some,Option.bind_some,Int.toNat_natCast,Zaz,V3 (x:=c) (by omega)]
  have hw:0≤u32.wrap (u[j0+v.length]+c)∧u32.wrap (u[j0+v.length]+c)<4294967296:=by rw [IntKind.wrap_u32];omega
  refine ⟨_,((u[j0+v.length]+c) / 4294967296).toNat,rfl,by rw [List.length_set],hu.set _ hw,Zdb _ (by omega),Ziz _ (by omega),?_⟩
  have h1:=Uu hl (u32.wrap (u[j0+v.length]+c))
  have h2:(u[j0+v.length]).toNat+c.toNat=(u32.wrap (u[j0+v.length]+c)).toNat+4294967296 * ((u[j0+v.length]+c) / 4294967296).toNat:=by rw [IntKind.wrap_u32];omega
  rw [Nat.pow_succ,Yd]
  generalize 4294967296 ^ (j0+v.length)=Q at *
  have h3:Q * ((u[j0+v.length]).toNat+c.toNat)=Q * ((u32.wrap (u[j0+v.length]+c)).toNat+4294967296 * ((u[j0+v.length]+c) / 4294967296).toNat):=by rw [h2]
  grind
 | x :: l,k,u,c,hx,hk,hu,hl,hc=>by
  rw [List.length_cons] at hk
  have hjk:j0+k<u.length:=by omega
  have g0:=hu.get hjk
  have gx:=hx.head
  rw [Tw.eq_2,Z9 (by omega),show (j0:Int)+(k:Int)=((j0+k:Nat):Int) by omega,Z7 hjk,Option.bind_some,Z9 (by omega),Option.bind_some,Option.bind_some,Int.toNat_natCast,Xm (x:=u[j0+k]) (by omega),Xm (x:=x) (by omega),Xm (x:=u[j0+k]+x) (by omega),Xm (by omega),Zfd]
  generalize hs:c+(u[j0+k]+x)=s
  have hw:0≤u32.wrap s∧u32.wrap s<4294967296:=by rw [IntKind.wrap_u32];omega
  obtain ⟨u',co,q1,q2,q3,q4,q5,q6⟩:=Zrm j0 v g l (k+1) (u.set (j0+k) (u32.wrap s)) (s / 4294967296) hx.tail (by omega) (hu.set _ hw) (by rw [List.length_set];exact hl) (by omega)
  refine ⟨u',co,q1,by rw [q2,List.length_set],q3,by rw [q4,Zdb _ (by omega)],by rw [q5,Ziz _ (by omega)],?_⟩
  rw [Y4]
  rw [← Nat.add_assoc j0 k 1,Nat.pow_succ] at q6
  exact Zx1 _ _ _ _ _ _ _ _ _ _ _ (Uu hjk _) (by rw [IntKind.wrap_u32];omega) q6
theorem Z21 (S S' S2 Q e w x g b b' c c' t L T:Nat) (h1:S'+Q * e=S+Q * w) (h2:c+g * x=t+4294967296 * c') (h3:e+4294967296 * b'=t+b+w) (h4:S2+Q * 4294967296 * (c'+b'+g * L)=S'+T):S2+Q * (c+b+g * (x+4294967296 * L))=S+T:=by
 have e1:Q * (c+g * x)=Q * (t+4294967296 * c'):=by rw [h2]
 have e2:Q * (e+4294967296 * b')=Q * (t+b+w):=by rw [h3]
 grind
theorem Zrl (j0:Nat) (v:List Int) (g:Int) (hg:0≤g∧g<4294967296):∀ (l:List Int) (k:Nat) (u:List Int) (b c:Int),Zp l→k+l.length=v.length→Zp u→j0+v.length<u.length→0≤b∧b≤1→0≤c∧c<4294967296→
  ∃ u' over,over≤1∧V9 j0 (v.length+1) v g l k u b c=(if over=1 then Tw j0 (v.length+1) v g v 0 u' 0 else Zaz g u')∧u'.length=u.length∧Zp u'∧u'.take j0=u.take j0∧u'.drop (j0+v.length+1)=u.drop (j0+v.length+1)∧
   Zb u'+4294967296 ^ (j0+k) * (c.toNat+b.toNat+g.toNat * Zb l)=Zb u+over * 4294967296 ^ (j0+v.length+1)
 | [],k,u,b,c,_,hk,hu,hl,hb,hc=>by
  have hk':k=v.length:=by simpa using hk
  subst hk'
  have g0:=hu.get hl
  rw [V9.eq_1,Z9 (by omega),show (j0:Int)+(v.length:Int)=((j0+v.length:Nat):Int) by omega,Z7 hl,Option.bind_some,Z9 (by omega),Option.bind_some,Z9 (by omega),Option.bind_some,Option.bind_some,Int.toNat_natCast,Xm (x:=c+b) (by omega),Xm (x:=u[j0+v.length]) (by omega)]
  have hw:0≤u32.wrap (u[j0+v.length] - u32.wrap (c+b))∧u32.wrap (u[j0+v.length] - u32.wrap (c+b))<4294967296:=by rw [IntKind.wrap_u32];omega
  have h1:=Uu hl (u32.wrap (u[j0+v.length] - u32.wrap (c+b)))
  have fin:∀ over:Nat,(u[j0+v.length]).toNat+4294967296 * over=c.toNat+b.toNat+(u32.wrap (u[j0+v.length] - u32.wrap (c+b))).toNat→Zb (u.set (j0+v.length) (u32.wrap (u[j0+v.length] - u32.wrap (c+b))))+4294967296 ^ (j0+v.length) * (c.toNat+b.toNat+g.toNat * Zb [])=Zb u+over * 4294967296 ^ (j0+v.length+1):=fun over h2=>by
   rw [Nat.pow_succ,Yd]
   generalize 4294967296 ^ (j0+v.length)=Q at *
   have h3:Q * ((u[j0+v.length]).toNat+4294967296 * over)=Q * (c.toNat+b.toNat+(u32.wrap (u[j0+v.length] - u32.wrap (c+b))).toNat):=by rw [h2]
   grind
  by_cases hlt:u[j0+v.length]<c+b
  ·refine ⟨_,1,Nat.le_refl _,by rw [if_pos (by simpa using hlt),if_pos rfl],by rw [List.length_set],hu.set _ hw,Zdb _ (by omega),Ziz _ (by omega),fin 1 (by rw [IntKind.wrap_u32,IntKind.wrap_u32];omega)⟩
  ·refine ⟨_,0,by decide,by rw [if_neg (by simpa using hlt),if_neg (by decide)],by rw [List.length_set],hu.set _ hw,Zdb _ (by omega),Ziz _ (by omega),fin 0 (by rw [IntKind.wrap_u32,IntKind.wrap_u32];omega)⟩
 | x :: l,k,u,b,c,hx,hk,hu,hl,hb,hc=>by
  rw [List.length_cons] at hk
  have hjk:j0+k<u.length:=by omega
  have g0:=hu.get hjk
  have gx:=hx.head
  have hm:g * x≤4294967295 * 4294967295:=Int.mul_le_mul (by omega) (by omega) (by omega) (by omega)
  have hm0:0≤g * x:=Int.mul_nonneg hg.1 gx.1
  have hgx:((g.toNat * x.toNat:Nat):Int)=g * x:=by rw [Int.natCast_mul,Int.toNat_of_nonneg hg.1,Int.toNat_of_nonneg gx.1]
  rw [V9.eq_2,Z9 (by omega),show (j0:Int)+(k:Int)=((j0+k:Nat):Int) by omega,Z7 hjk,Option.bind_some,Xm (x:=u[j0+k]) (by omega),Xm (x:=x) (by omega),Xm (x:=g * x) (by omega),Xm (x:=c+g * x) (by omega),Ztg (by omega)]
  generalize ht0:c+g * x=t0
  rw [Xm (x:=t0 % 4294967296+b) (by omega)]
  have fin:∀ b':Int,0≤b'∧b'≤1→u[j0+k]+4294967296 * b'=t0 % 4294967296+b+u32.wrap (u[j0+k] - u32.wrap (t0 % 4294967296+b))→
    ∃ u' over,over≤1∧Zd0 j0 (v.length+1) g u b k c (V9 j0 (v.length+1) v g l) x b'=(if over=1 then Tw j0 (v.length+1) v g v 0 u' 0 else Zaz g u')∧u'.length=u.length∧Zp u'∧u'.take j0=u.take j0∧u'.drop (j0+v.length+1)=u.drop (j0+v.length+1)∧
     Zb u'+4294967296 ^ (j0+k) * (c.toNat+b.toNat+g.toNat * Zb (x :: l))=Zb u+over * 4294967296 ^ (j0+v.length+1):=fun b' hb' h3=>by
   have hw:0≤u32.wrap (u[j0+k] - u32.wrap (t0 % 4294967296+b))∧u32.wrap (u[j0+k] - u32.wrap (t0 % 4294967296+b))<4294967296:=by rw [IntKind.wrap_u32];omega
   obtain ⟨u',over,q0,q1,q2,q3,q4,q5,q6⟩:=Zrl j0 v g hg l (k+1) (u.set (j0+k) (u32.wrap (u[j0+k] - u32.wrap (t0 % 4294967296+b)))) b' (t0 / 4294967296) hx.tail (by omega) (hu.set _ hw) (by rw [List.length_set];exact hl) hb' (by omega)
   refine ⟨u',over,q0,?_,by rw [q2,List.length_set],q3,by rw [q4,Zdb _ (by omega)],by rw [q5,Ziz _ (by omega)],?_⟩
   ·rw [Zd0,Z9 (by omega),show (j0:Int)+(k:Int)=((j0+k:Nat):Int) by omega,Z7 hjk,Option.bind_some,Z9 (by omega),Option.bind_some,Option.bind_some,Int.toNat_natCast,Xm (x:=x) (by omega),Xm (x:=g * x) (by omega),Xm (x:=c+g * x) (by omega),Ztg (by omega),ht0,Xm (x:=t0 % 4294967296+b) (by omega),Zfd,Zjn]
    exact q1
   ·rw [Y4]
    rw [← Nat.add_assoc j0 k 1,Nat.pow_succ] at q6
    exact Z21 _ _ _ _ _ _ _ _ _ _ _ _ (t0 % 4294967296).toNat _ _ (Uu hjk _) (by omega) (by omega) q6
  by_cases hlt:u[j0+k]<t0 % 4294967296+b
  ·rw [if_pos (by simpa using hlt)]
   exact fin 1 (by omega) (by rw [IntKind.wrap_u32,IntKind.wrap_u32];omega)
  ·rw [if_neg (by simpa using hlt)]
   exact fin 0 (by omega) (by rw [IntKind.wrap_u32,IntKind.wrap_u32];omega)
structure Zim (U V E v1 v2 u2 top lU lV:Nat):Prop where
 hU:U=lU+E * (u2+4294967296 * top)
 hV:V=lV+E * (v2+4294967296 * v1)
 lu:lU<E
 lv:lV<E
 b2:u2<4294967296
 c2:v2<4294967296
 c1:v1<4294967296
 big:2147483648≤v1
 lt:U<4294967296 * V
namespace Zim
variable {U V E v1 v2 u2 top lU lV:Nat} (t:Zim U V E v1 v2 u2 top lU lV)
include t
theorem Vpos:0<V:=by
 have:=t.lt
 have:=t.lu
 omega
theorem uE:U<E * 4294967296 * (top+1):=by
 have h1:E * (u2+1)≤E * 4294967296:=Nat.mul_le_mul_left _ t.b2
 have h2:=t.hU;have:=t.lu
 have e:E * (u2+4294967296 * top)=E * u2+E * 4294967296 * top:=by grind
 rw [e] at h2
 rw [Nat.mul_add] at h1 ⊢
 omega
theorem Eu:E * 4294967296 * top≤U:=by
 have h2:=t.hU
 have e:E * (u2+4294967296 * top)=E * u2+E * 4294967296 * top:=by grind
 omega
theorem vE:V<E * 4294967296 * (v1+1):=by
 have h1:E * (v2+1)≤E * 4294967296:=Nat.mul_le_mul_left _ t.c2
 have h2:=t.hV;have:=t.lv
 have e:E * (v2+4294967296 * v1)=E * v2+E * 4294967296 * v1:=by grind
 rw [Nat.mul_add] at h1 ⊢
 omega
theorem Ev:E * 4294967296 * v1≤V:=by
 have h2:=t.hV
 have e:E * (v2+4294967296 * v1)=E * v2+E * 4294967296 * v1:=by grind
 omega
theorem Epos:0<E:=by have:=t.lu;omega
theorem first:U / V≤top / v1:=by
 have hv:0<v1:=by have:=t.big;omega
 rw [Nat.le_div_iff_mul_le hv]
 have h1:U / V * V≤U:=Nat.div_mul_le_self U V
 have h2:U / V * (E * 4294967296 * v1)≤U / V * V:=Nat.mul_le_mul_left _ t.Ev
 have h3:E * 4294967296 * (U / V * v1)<E * 4294967296 * (top+1):=by
  have e:E * 4294967296 * (U / V * v1)=U / V * (E * 4294967296 * v1):=by
   generalize U / V=q
   grind
  rw [e]
  have:=t.uE
  omega
 have:=Nat.lt_of_mul_lt_mul_left h3
 omega
theorem quo:U / V<4294967296:=(Nat.div_lt_iff_lt_mul t.Vpos).2 t.lt
theorem great {g r:Nat} (h:g * v1+r=top) (h2:r * 4294967296+u2<g * v2):U / V<g:=by
 rw [Nat.div_lt_iff_lt_mul t.Vpos]
 have h3:u2+4294967296 * top+1≤g * (v2+4294967296 * v1):=by
  have:4294967296 * (g * v1+r)=4294967296 * top:=by rw [h]
  have e:g * (v2+4294967296 * v1)=g * v2+4294967296 * (g * v1):=by grind
  rw [e];omega
 have h4:=Nat.mul_le_mul_left E h3
 have h5:E * (g * (v2+4294967296 * v1))≤g * V:=by
  have:=t.hV
  have e:g * V=g * lV+E * (g * (v2+4294967296 * v1)):=by rw [this];grind
  omega
 have:=t.hU;have:=t.lu
 rw [Nat.mul_add] at h4
 omega
theorem fine {g r:Nat} (hg:g<4294967296) (h:g * v1+r=top) (h2:g * v2≤r * 4294967296+u2):g * V<U+V:=by
 have h3:g * (v2+4294967296 * v1)≤u2+4294967296 * top:=by
  have:4294967296 * (g * v1+r)=4294967296 * top:=by rw [h]
  have e:g * (v2+4294967296 * v1)=g * v2+4294967296 * (g * v1):=by grind
  rw [e];omega
 have h4:=Nat.mul_le_mul_left E h3
 have e:g * V=g * lV+E * (g * (v2+4294967296 * v1)):=by rw [t.hV];grind
 have h5:g * lV≤4294967295 * E:=Nat.mul_le_mul (by omega) (by have:=t.lv;omega)
 have h6:E * 4294967296 * 1≤E * 4294967296 * v1:=Nat.mul_le_mul_left _ (by have:=t.big;omega)
 have:=t.Ev;have:=t.hU;have:=t.Epos
 omega
theorem topv:top / 4294967296≤v1:=by
 have h1:=t.Eu
 have h2:=t.lt
 have h3:=t.vE
 have h4:E * 4294967296 * top<E * 4294967296 * (4294967296 * (v1+1)):=by
  have:E * 4294967296 * (4294967296 * (v1+1))=4294967296 * (E * 4294967296 * (v1+1)):=by grind
  omega
 have:=Nat.lt_of_mul_lt_mul_left h4
 omega
theorem over {g r:Nat} (h:g * v1+r=top) (hr:4294967296≤r):g<4294967296:=by
 have h1:=t.topv
 have h2:g * v1<4294967296 * v1:=by omega
 exact Nat.lt_of_mul_lt_mul_right h2
theorem stop {g r:Nat} (h:g * v1+r=top) (hr:4294967296≤r):g * V<U+V:=by
 have hg:=t.over h hr
 have h1:=t.vE
 have h2:g * V≤g * (E * 4294967296 * (v1+1)):=Nat.mul_le_mul_left _ (Nat.le_of_lt h1)
 have e:g * (E * 4294967296 * (v1+1))=E * 4294967296 * (g * v1+g):=by grind
 have h3:E * 4294967296 * (g * v1+g)≤E * 4294967296 * top:=Nat.mul_le_mul_left _ (by omega)
 have:=t.Eu;have:=t.Vpos
 omega
end Zim
def Zp3 (X:Option R7) (R:Nat→Option R7) (q U V:Nat):Prop:=∃ g:Nat,X=R g∧q≤g∧g<4294967296∧g * V<U+V
theorem Zri (N j0:Nat) (u v:List Int) (hu:Zp u) (hv:Zp v) (hn:2≤v.length) (hl:j0+v.length<u.length) (hs:v.length<4611686018427387904) {U V E lU lV top q:Nat} (hq:U / V=q)
  (t:Zim U V E (v[v.length - 1]).toNat (v[v.length - 2]).toNat (u[j0+v.length - 2]).toNat top lU lV) (htop:top<18446744073709551616):
  ∀ (n g r:Nat),g * (v[v.length - 1]).toNat+r=top→q≤g→r<4294967296→4294967296≤r+2147483648 * n→
  Zp3 (So N j0 (v.length+1) u v n (g:Int) (r:Int)) (fun g'=>V9 j0 (v.length+1) v (g':Int) v 0 u 0 0) q U V
 | 0,g,r,_,_,h3,h4=>by omega
 | n+1,g,r,h1,h2,h3,h4=>by
  have i1:v.length - 1<v.length:=by omega
  have i2:v.length - 2<v.length:=by omega
  have i3:j0+v.length - 2<u.length:=by omega
  have c1:=hv.get i1
  have c2:=hv.get i2
  have c3:=hu.get i3
  have hbig:=t.big
  have hgb:g≤top:=by
   have:g * 1≤g * (v[v.length - 1]).toNat:=Nat.mul_le_mul_left _ (by omega)
   omega
  -- one less
  have less:q<g→Zp3 (Zjk j0 (v.length+1) u v (g:Int) (r:Int) (So N j0 (v.length+1) u v n)) (fun g'=>V9 j0 (v.length+1) v (g':Int) v 0 u 0 0) q U V:=fun hlt=>by
   have hg1:(g - 1) * (v[v.length - 1]).toNat+(r+(v[v.length - 1]).toNat)=top:=by
    have:(g - 1+1) * (v[v.length - 1]).toNat+r=top:=by rw [show g - 1+1=g by omega];exact h1
    rw [Nat.add_mul] at this
    omega
   have ew:u64.wrap ((g:Int) - 1)=((g - 1:Nat):Int):=by rw [Xm (by omega)];omega
   have er:u64.wrap ((r:Int)+u64.wrap v[v.length - 1])=((r+(v[v.length - 1]).toNat:Nat):Int):=by rw [Xm (x:=v[v.length - 1]) (by omega),Xm (by omega)];omega
   rw [Zjk,Zt (by omega),show (v.length:Int) - 1=((v.length - 1:Nat):Int) by omega,Z7 i1,Option.bind_some,er,ew]
   by_cases hb:4294967296≤r+(v[v.length - 1]).toNat
   ·rw [if_pos (decide_eq_true (by omega)),Zrj,ew]
    exact ⟨g - 1,rfl,by omega,t.over hg1 hb,t.stop hg1 hb⟩
   ·rw [if_neg (by rw [decide_eq_false (by omega)];decide)]
    exact Zri N j0 u v hu hv hn hl hs hq t htop n (g - 1) (r+(v[v.length - 1]).toNat) hg1 (by omega) (by omega) (by omega)
  have hquo:=t.quo
  rw [hq] at hquo
  rw [So.eq_2]
  by_cases hgb2:4294967295<g
  ·rw [if_pos (decide_eq_true (by omega)),Zdz,if_pos rfl]
   exact less (by omega)
  ·have hm:g * (v[v.length - 2]).toNat≤4294967295 * 4294967295:=Nat.mul_le_mul (by omega) (by omega)
   have em:(g:Int) * v[v.length - 2]=((g * (v[v.length - 2]).toNat:Nat):Int):=by
    rw [Int.natCast_mul];congr 1;omega
   rw [if_neg (by rw [decide_eq_false (by omega)];decide),if_pos (decide_eq_true (by omega)),Zt (by omega),show (v.length:Int) - 2=((v.length - 2:Nat):Int) by omega,Z7 i2,Option.bind_some,Z9 (by omega),show (j0:Int)+((v.length - 2:Nat):Int)=((j0+v.length - 2:Nat):Int) by omega,Z7 i3,Option.bind_some,Zdz,
    Xm (x:=u[j0+v.length - 2]) (by omega),Zm7 (by omega) (by omega),Xm (x:=v[v.length - 2]) (by omega),em,Xm (by omega)]
   by_cases hc:r * 4294967296+(u[j0+v.length - 2]).toNat<g * (v[v.length - 2]).toNat
   ·rw [if_pos (decide_eq_true (by omega))]
    exact less (by rw [← hq];exact t.great h1 hc)
   ·rw [if_neg (by rw [decide_eq_false (by omega)];decide)]
    exact ⟨g,rfl,h2,by omega,t.fine (by omega) h1 (by omega)⟩
theorem Zn4 {u w:List Int} {j0 n P:Nat} (hP:4294967296 ^ (n+1)=P) (hl:j0+n<u.length) (hz:Zb (u.drop (j0+n+1))=0) (h1:w.length=u.length) (h2:Zp w) (h3:w.drop (j0+n+1)=u.drop (j0+n+1)):Zb (w.drop j0)<P:=by
 have:=Sz ((h2.drop j0).take (n+1))
 rw [List.length_take,List.length_drop,Nat.min_eq_left (by omega),hP] at this
 have e:=Uv (w.drop j0) (n+1)
 rw [hP,List.drop_drop,← Nat.add_assoc,h3,hz] at e
 omega
theorem Zrn {u w:List Int} {j0 n P Q x y:Nat} (hP:4294967296 ^ (n+1)=P) (hQ:4294967296 ^ j0=Q) (h4:w.take j0=u.take j0) (h:Zb w+Q * x=Zb u+y * 4294967296 ^ (j0+n+1)):Zb (w.drop j0)+x=Zb (u.drop j0)+y * P:=by
 have pw:(4294967296:Nat) ^ (j0+n+1)=Q * P:=by rw [← hQ,← hP,← Nat.pow_add,Nat.add_assoc]
 have hp:0<Q:=by rw [← hQ];exact Nat.pow_pos (by decide)
 have s0:=Uv u j0
 have s1:=Uv w j0
 rw [h4] at s1
 rw [hQ] at s0 s1
 rw [pw,s0,s1] at h
 clear pw hP hQ s0 s1 h4
 refine Nat.eq_of_mul_eq_mul_left hp ?_
 grind
theorem Z0m {U V P q g over P1:Nat} (hq:U / V=q) (hV:0<V) (hg1:q≤g) (hg3:g * V<U+V) (k1:P1+g * V=U+over * P) (p1:P1<P):
  (over=0→g=q∧P1=U % V)∧(over=1→g=q+1∧∀ P2 co,V<P→P2<P→P2+co * P=P1+V→P2=U % V):=by
 have hq0:V * q+U % V=U:=by rw [← hq];exact Nat.div_add_mod _ _
 have hq1:=Nat.mod_lt U hV
 have hmono:∀ x y:Nat,x<y→x * V+V≤y * V:=fun x y hxy=>by
  have:=Nat.mul_le_mul_right V (show x+1≤y from hxy)
  rw [Nat.add_mul,Nat.one_mul] at this;exact this
 rw [Nat.mul_comm] at hq0
 constructor
 ·intro ho
  subst ho
  have hgq:g=q:=by
   have a2:¬ q<g:=fun h=>by
    have:=hmono _ _ h
    omega
   omega
  subst hgq
  exact ⟨rfl,by omega⟩
 ·intro ho
  subst ho
  have hgq:g=q+1:=by
   have a1:¬ g≤q:=fun h=>by
    have:=Nat.mul_le_mul_right V h
    omega
   have a2:¬ q+1<g:=fun h=>by
    have:=hmono _ _ h
    rw [Nat.add_mul,Nat.one_mul] at this
    omega
   omega
  refine ⟨hgq,fun P2 co hvP p2 k2=>?_⟩
  have hgv:g * V=q * V+V:=by rw [hgq,Nat.add_mul,Nat.one_mul]
  have hco:co=1:=by
   rcases Nat.lt_trichotomy co 1 with h | h | h
   ·have:co=0:=by omega
    subst this;omega
   ·exact h
   ·have:=Nat.mul_le_mul_right P (show 2≤co from h)
    omega
  subst hco
  omega
theorem Z0n {N j0:Nat} {u v:List Int} (hN:2≤N) (hu:Zp u) (hv:Zp v) (hn:2≤v.length) (hl:j0+v.length<u.length) (hs:u.length<4611686018427387904)
  (hz:Zb (u.drop (j0+v.length+1))=0) (hbig:2147483648≤(v[v.length - 1]).toNat) (hlt:Zb (u.drop j0)<4294967296 * Zb v):
  ∃ u',Zgv N j0 (v.length+1) u v=some (((Zb (u.drop j0) / Zb v:Nat):Int),u')∧u'.length=u.length∧Zp u'∧u'.take j0=u.take j0∧Zb (u'.drop j0)=Zb (u.drop j0) % Zb v∧Zb (u.drop j0) / Zb v<4294967296:=by
 have i1:v.length - 1<v.length:=by omega
 have i2:v.length - 2<v.length:=by omega
 have i3:j0+v.length - 2<u.length:=by omega
 have i4:j0+v.length - 1<u.length:=by omega
 have c1:=hv.get i1
 have c2:=hv.get i2
 have c3:=hu.get i3
 have c4:=hu.get i4
 have c5:=hu.get hl
 -- the Zd above
 have dV:Zb v=Zb (v.take (v.length - 2))+4294967296 ^ (v.length - 2) * ((v[v.length - 2]).toNat+4294967296 * (v[v.length - 1]).toNat):=by
  rw [Uv v (v.length - 2),Ud i2,show v.length - 2+1=v.length - 1 by omega,Ud i1,show v.length - 1+1=v.length by omega,List.drop_length,Yd];simp
 have dU:Zb (u.drop j0)=Zb ((u.drop j0).take (v.length - 2))+4294967296 ^ (v.length - 2) * ((u[j0+v.length - 2]).toNat+4294967296 * ((u[j0+v.length]).toNat * 4294967296+(u[j0+v.length - 1]).toNat)):=by
  have e3:j0+(v.length - 2)=j0+v.length - 2:=by omega
  rw [Uv (u.drop j0) (v.length - 2),List.drop_drop,e3,Ud i3,show j0+v.length - 2+1=j0+v.length - 1 by omega,Ud i4,show j0+v.length - 1+1=j0+v.length by omega,Ud hl,hz]
  congr 3
  omega
 have lV:=Sz (hv.take (v.length - 2))
 have lU:=Sz ((hu.drop j0).take (v.length - 2))
 rw [List.length_take,Nat.min_eq_left (by omega)] at lV
 rw [List.length_take,List.length_drop,Nat.min_eq_left (by omega)] at lU
 have t:Zim (Zb (u.drop j0)) (Zb v) (4294967296 ^ (v.length - 2)) (v[v.length - 1]).toNat (v[v.length - 2]).toNat (u[j0+v.length - 2]).toNat ((u[j0+v.length]).toNat * 4294967296+(u[j0+v.length - 1]).toNat) _ _:=
  ⟨dU,dV,lU,lV,by omega,by omega,by omega,hbig,hlt⟩
 have hV:=t.Vpos
 have htop:(u[j0+v.length]).toNat * 4294967296+(u[j0+v.length - 1]).toNat<18446744073709551616:=by omega
 obtain ⟨q,hq⟩:∃ q,Zb (u.drop j0) / Zb v=q:=⟨_,rfl⟩
 obtain ⟨g,hg0,hg1,hg2,hg3⟩:=Zri N j0 u v hu hv hn hl (by omega) hq t htop N _ _ (Nat.div_add_mod' _ _) (by rw [← hq];exact t.first) (Nat.lt_of_lt_of_le (Nat.mod_lt _ (by omega)) (by omega)) (by omega)
 have e0:Zgv N j0 (v.length+1) u v=V9 j0 (v.length+1) v (g:Int) v 0 u 0 0:=by
  refine Eq.trans ?_ hg0
  rw [Zgv,Z9 (by omega),show (j0:Int)+(v.length:Int)=((j0+v.length:Nat):Int) by omega,Z7 hl,Option.bind_some,Zt (by omega),show (v.length:Int) - 1=((v.length - 1:Nat):Int) by omega,Z9 (by omega),
   show (j0:Int)+((v.length - 1:Nat):Int)=((j0+v.length - 1:Nat):Int) by omega,Z7 i4,Option.bind_some,Z7 i1,Option.bind_some,Xm (x:=v[v.length - 1]) (by omega),Z9 (by omega),Z9 (by omega),Xm (x:=u[j0+v.length]) (by omega),Xm (x:=u[j0+v.length - 1]) (by omega),Zm7 (by omega) (by omega)]
  have ev:v[v.length - 1]=((v[v.length - 1]).toNat:Int):=by omega
  have et:u[j0+v.length] * 4294967296+u[j0+v.length - 1]=(((u[j0+v.length]).toNat * 4294967296+(u[j0+v.length - 1]).toNat:Nat):Int):=by omega
  rw [et,ev,Int.tdiv_eq_ediv_of_nonneg (by omega),Int.tmod_eq_emod_of_nonneg (by omega),← Int.natCast_ediv,← Int.natCast_emod,Int.toNat_natCast]
  rw [Xm ⟨Int.natCast_nonneg _,Int.ofNat_lt.2 (Nat.lt_of_le_of_lt (Nat.div_le_self _ _) htop)⟩]
 obtain ⟨u1,over,q0,q1,q2,q3,q4,q5,q6⟩:=Zrl j0 v (g:Int) (by omega) v 0 u 0 0 hv (by omega) hu hl (by omega) (by omega)
 have hquo:=t.quo
 rw [hq] at hquo ⊢
 rw [e0,q1]
 obtain ⟨P,hP⟩:∃ P:Nat,4294967296 ^ (v.length+1)=P:=⟨_,rfl⟩
 obtain ⟨Q,hQ⟩:∃ Q:Nat,4294967296 ^ j0=Q:=⟨_,rfl⟩
 simp only [Nat.add_zero,Int.toNat_zero,Int.toNat_natCast,Nat.zero_add] at q6
 rw [hQ] at q6
 have k1:=Zrn hP hQ q4 q6
 have p1:=Zn4 hP hl hz q2 q3 q5
 have hvP:Zb v<P:=by
  have:=Sz hv
  have h2:=Zn4 (u:=v++[0]) (w:=v++[0]) (j0:=0) (n:=v.length) hP (by simp) (by simp [Zb]) rfl (hv.app (.cons (by decide) .nil)) rfl
  rw [List.drop_zero,Zt6] at h2
  exact h2
 have k3:=Z0m hq hV hg1 hg3 k1 p1
 by_cases ho:over=1
 ·obtain ⟨e1,e2⟩:=k3.2 ho
  subst ho
  rw [if_pos rfl]
  obtain ⟨u2,co,r1,r2,r3,r4,r5,r6⟩:=Zrm j0 v (g:Int) v 0 u1 0 hv (by omega) q3 (by omega) (by omega)
  have p2:=Zn4 hP hl hz (by omega) r3 (by rw [r5,q5])
  simp only [Nat.add_zero,Int.toNat_zero,Nat.zero_add] at r6
  rw [hQ] at r6
  have k2:=Zrn (u:=u2) (w:=u1) (x:=Zb v) (y:=co) hP hQ (by rw [r4]) r6.symm
  refine ⟨u2,?_,by omega,r3,by rw [r4,q4],e2 _ co hvP p2 k2.symm,hquo⟩
  rw [r1,Xm (by omega),V3 (by omega)]
  congr 2;omega
 ·obtain ⟨e1,e2⟩:=k3.1 (by omega)
  rw [if_neg ho,Zaz,V3 (by omega)]
  exact ⟨u1,by rw [e1],q2,q3,q4,e2,hquo⟩
def Zce (N:Nat):Nat→R2→R2→Option R2
  | 0,_,_=>none
  | ac+1,ab,aa=>if (decide (0<(aa.length:Int)))=true then ((Zcd N ab aa).bind fun ad=>(Zce N ac) aa ad.2.1) else (some ab)
termination_by structural x=>x
def Zjh (N:Nat) (aa:List Int) (ab:List Int):Option R2:=
  (Ua N aa).bind fun ac=>(Ua N ab).bind fun ad=>Zce N N ac ad
theorem Zyx {N ar au:Nat} {a0 a1:Option Addr} {col:Zf} {w0:World} {ak al r:R2} (c1:Nat) (hm:Zjh N ak al=some r) (h0:Sl (Za.int .u32) col w0 a0 ar ak) (h1:Sl (Za.int .u32) col w0 a1 au al):
    Calls Tryz.prog 259 #[.slice a0 ak.length ar,.slice a1 al.length au] w0 (fun e w'=>∃ (col':Zf) (ra1:Option Addr) (rc2:Nat),e= .returned ((.slice ra1 r.length rc2))∧Zg col w0 col' w'∧Zc (Za.int .u32) 79 c1 col' w' ra1 rc2 r):=by
 refine Xi 4 (m:=25) func259 rfl rfl rfl rfl rfl ?_;rw [Zjh.eq_1] at hm;have aa:=St.start col w0;refine go ?_;obtain ⟨a9,a3,hm⟩:=bZ hm;replace h0:=h0.keep (Zj.start col w0);refine Zh (Tf 1 a3 (h0.ks aa)) ?_;rintro _ ba ⟨bb,bc,bd,rfl,a4,am⟩;refine ⟨_,rfl,?_⟩;refine Wa rfl ?_;obtain ⟨be,a5,hm⟩:=bZ hm;replace h1:=h1.keep (Zj.start col w0);replace aa:=aa.grow a4;refine Zh (Tf 2 a5 (h1.ks aa)) ?_;rintro _ bf ⟨bg,bh,bi,rfl,av,a6⟩;refine ⟨_,rfl,go ?_⟩;replace am:=am.gr av;replace aa:=aa.grow av;refine Z8 [1000000] (fun n f ag=>∃ ac an ao ai ap aq aj ae,ae=n∧Zce N ae ai aj=some r∧St w0 (Zi col) ac ag∧Zc (Za.int .u32) 79 1 ac ag an ao ai∧Zc (Za.int .u32) 79 2 ac ag ap aq aj∧[0,1].map f=[.slice an ai.length ao,.slice ap aj.length aq]) N ⟨_,_,_,_,_,_,_,_,rfl,hm,aa,am,a6,rfl⟩ ?_;clear hm;intro n f ag hI;obtain ⟨ac,an,ao,ai,ap,aq,aj,ae,hn,hm,aa,aw,ab,hs⟩:=hI;subst hn;refine .lL [0,1] hs ?_
 cases ae with
 | zero=>rw [Zce.eq_1] at hm;cases hm
 | succ ae=>
  rw [Zce.eq_2] at hm;refine go ?_;refine Zq hm (fun hb hm=>go ?_) fun hb hm=>go ?_
  ·obtain ⟨af,a7,hm⟩:=bZ hm;refine Zh (Zk9 3 4 a7 ((aw.toSlF (Zl.int .u32)).froz 2) ((ab.froz 1 (by decide)).toSlF (Zl.int .u32))) ?_;rintro _ bj ⟨a8,ax,ay,az,a2,rfl,ah,bk,ad⟩;refine ⟨_,rfl,?_⟩;replace ad:=ad.thaw (Zv .u32) ah (((Fz.refl (col:=ac)).froz 1).froz 2) (by decide);replace ah:=ah.thawR (col:=ac);generalize Z4 ag.heap.size ac a8=bm at *;refine lM (.tuple #[.slice ax af.1.length ay,.slice az af.2.1.length a2,.int .i64 af.2.2])<|lV (.slice ax af.1.length ay) (Xl rfl rfl)<|lV (.slice az af.2.1.length a2) (Xl rfl rfl)<|lV (.int .i64 af.2.2) (Xl rfl rfl)<|go ?_;replace ab:=ab.gr ah;replace ab:=ab.recolSelf 1 (by decide);replace ad:=ad.recol 2 1 (by decide);replace aa:=aa.grow ah;replace aa:=aa.recol 2 1 (by decide) (by decide);replace ab:=ab.recol 4 2 (by decide);replace ad:=ad.recolSelf 2 (by decide);replace aa:=aa.recol 4 2 (by decide) (by decide);exact ⟨ae,by omega,rfl,⟨_,_,_,_,_,_,_,_,rfl,hm,aa,ab,ad,rfl⟩⟩
  cases hm;exact ⟨rfl,_,_,_,rfl,aa.fin (cm [(1,c1)]),aa.fo aw⟩
theorem Zxj (N:Nat):∀ (n:Nat) (a:List Int),Za1 N n a=Ty N n a
 | 0,a=>rfl
 | n+1,a=>by
  rw [Za1.eq_2,Ty.eq_2]
  simp only [Zjp,Za0,Zxj N n]
theorem Zxk {N:Nat} {a:List Int} (h:Zp a) (hn:a.length<N) (hb:a.length≤1099511627776):Zd3 N a=some (Zd (Zb a)):=by
 rw [Zd3,Zxj];exact Zm6 N N a h hn (by omega)
theorem Z4j {x L nx s:Nat} (hs:s<32) (hx:x<4294967296) (hn:nx=L % 4294967296):(x+4294967296 * L) / 2 ^ s=(x+4294967296 * nx) / 2 ^ s % 4294967296+4294967296 * (L / 2 ^ s):=by
 have pw:(2:Nat) ^ s * 2 ^ (32 - s)=4294967296:=by rw [← Nat.pow_add,show s+(32 - s)=32 by omega]
 have hp:=Nat.two_pow_pos s
 generalize 2 ^ s=p at *
 generalize 2 ^ (32 - s)=r at *
 have h1:(x+4294967296 * L) / p / 4294967296=L / p:=by
  rw [Nat.div_div_eq_div_mul,Nat.mul_comm p,← Nat.div_div_eq_div_mul]
  congr 1
  omega
 have h2:(x+4294967296 * L) / p % 4294967296=(x+4294967296 * nx) / p % 4294967296:=by
  have e:x+4294967296 * L=x+4294967296 * nx+p * (4294967296 * (r * (L / 4294967296))):=by
   have e1:L=nx+4294967296 * (L / 4294967296):=by omega
   have e2:p * (4294967296 * (r * (L / 4294967296)))=4294967296 * (p * r) * (L / 4294967296):=by grind
   rw [e2,pw]
   omega
  rw [e,Nat.add_mul_div_left _ _ hp,Nat.add_mul_mod_self_left]
 rw [← h1,← h2]
 omega
theorem Zrq (N s:Nat) (hs:s<32) (q r:List Int) (hq:Zp q) (hr:Zp r) (hN:q.length<N∧r.length<N) (hb:q.length≤1099511627776∧r.length≤1099511627776):∀ (n i:Nat) (u d:List Int),i≤r.length→r.length<n+i→u=d++r.drop i→d.length=i→Zp d→Zb d+4294967296 ^ i * (Zb (r.drop i) / 2 ^ s)=Zb r / 2 ^ s→
  Sn N (s:Int) q r n u (i:Int)=some (Zd (Zb q),Zd (Zb r / 2 ^ s),0)
 | 0,i,u,d,h1,h2,_,_,_,_=>by omega
 | n+1,i,u,d,h1,h2,hu,hd,hld,hv=>by
  have hul:u.length=r.length:=by rw [hu,List.length_append,List.length_drop];omega
  rw [Sn.eq_2]
  by_cases hi:i<r.length
  ·have hdr:=List.drop_eq_getElem_cons hi
   have g:=hr.get hi
   have ui:u[i]'(by omega)=r[i]:=by
    subst hu
    rw [List.getElem_append_right (by omega)]
    simp [hd]
   have step:∀ nx:Nat,nx=Zb (r.drop (i+1)) % 4294967296→Zgt (s:Int) u (i:Int) (Sn N (s:Int) q r n) (nx:Int)=some (Zd (Zb q),Zd (Zb r / 2 ^ s),0):=fun nx hnx=>by
    have hw:u32.wrap (X4 .u64 (Yi .u64 (Xq .u64 (u64.wrap (nx:Int)) 32) (u64.wrap r[i])) (s:Int))=(((r[i]).toNat+4294967296 * nx) / 2 ^ s % 4294967296:Nat):=by
     rw [Xm (x:=(nx:Int)) (by omega),Xm (x:=r[i]) (by omega),Zm7 (by omega) (by omega),show (nx:Int) * 4294967296+r[i]=(((r[i]).toNat+4294967296 * nx:Nat):Int) by omega,Zko _ _ _ (by simp only [IntKind.bits];omega),Zpy]
    have hset:u.set i ((((r[i]).toNat+4294967296 * nx) / 2 ^ s % 4294967296:Nat):Int)=(d++[((((r[i]).toNat+4294967296 * nx) / 2 ^ s % 4294967296:Nat):Int)])++r.drop (i+1):=by
     subst hu
     rw [hdr,List.set_append_right _ _ (by omega),hd,Nat.sub_self,List.set_cons_zero]
     simp
    rw [Zgt,Z7 (by omega),Option.bind_some,Z9 (by omega),ui,hw,Option.bind_some,Zls,Zt (by omega),Int.toNat_natCast,hset]
    have ih:=Zrq N s hs q r hq hr hN hb n (i+1) _ (d++[((((r[i]).toNat+4294967296 * nx) / 2 ^ s % 4294967296:Nat):Int)]) (by omega) (by omega) rfl (by simp [hd]) (hld.app (.cons (by omega) .nil)) (by
     rw [T3,hd,Y4,Yd,Int.toNat_natCast,← hv,hdr,Y4,Z4j hs (by omega) hnx,Nat.pow_succ]
     generalize ((r[i]).toNat+4294967296 * nx) / 2 ^ s % 4294967296=A
     generalize Zb (r.drop (i+1)) / 2 ^ s=C
     grind)
    exact ih
   rw [if_pos (decide_eq_true (by omega)),Zt (by omega)]
   by_cases hi1:i+1<r.length
   ·have u1:u[i+1]'(by omega)=r[i+1]:=by
     subst hu
     rw [List.getElem_append_right (by omega)]
     simp [hd]
    have g1:=hr.get hi1
    rw [if_pos (decide_eq_true (by omega)),show (i:Int)+1=((i+1:Nat):Int) by omega,Z7 (by omega),Option.bind_some,u1,show r[i+1]=((r[i+1]).toNat:Int) by omega]
    exact step _ (by rw [Ud hi1];omega)
   ·rw [if_neg (by rw [decide_eq_false (by omega)];decide)]
    have:=step 0 (by rw [List.drop_eq_nil_of_le (by omega)];rfl)
    exact this
  ·have:i=r.length:=by omega
   subst this
   rw [if_neg (by rw [decide_eq_false (by omega)];decide)]
   rw [List.drop_length,List.append_nil] at hu
   rw [List.drop_length,Yd,Nat.zero_div,Nat.mul_zero,Nat.add_zero] at hv
   subst hu
   rw [T5 hq hN.1 hb.1,Option.bind_some,T5 hld (by omega) (by omega),Option.bind_some,hv]
theorem Zrp (N s:Nat) (v:List Int) (hN:2≤N) (hv:Zp v) (hn:2≤v.length) (hbig:2147483648≤(v[v.length - 1]).toNat):∀ (n j:Nat) (u q:List Int),j≤q.length→j<n→u.length=q.length+v.length→u.length<4611686018427387904→Zp u→Zp q→Zb (u.drop j)<Zb v→Zb (q.take j)=0→
  ∃ u' q',Zdx N (s:Int) v n u q ((j:Int) - 1)=((Zd3 N u').bind fun r=>Sn N (s:Int) q' r N r 0)∧u'.length=u.length∧q'.length=q.length∧Zp u'∧Zp q'∧Zb u'<Zb v∧Zb v * Zb q'+Zb u'=Zb v * Zb q+Zb u
 | 0,j,u,q,_,h,_,_,_,_,_,_=>by omega
 | n+1,j,u,q,hj,hjn,hl,hs,hu,hq,hlt,hz=>by
  rw [Zdx.eq_2]
  by_cases h0:j=0
  ·subst h0
   rw [if_neg (by decide)]
   exact ⟨u,q,rfl,rfl,rfl,hu,hq,by simpa using hlt,rfl⟩
  ·have e1:j - 1+1=j:=by omega
   have hi:j - 1<u.length:=by omega
   have hqi:j - 1<q.length:=by omega
   have g:=hu.get hi
   have lv:=Sz hv
   have sp:=Uv (u.drop j) v.length
   rw [List.drop_drop] at sp
   have hz2:Zb (u.drop (j - 1+v.length+1))=0:=by
    rw [show j - 1+v.length+1=j+v.length by omega]
    rcases Nat.eq_zero_or_pos (Zb (u.drop (j+v.length))) with h | h
    ·exact h
    ·have:=Nat.mul_le_mul_left (4294967296 ^ v.length) h
     generalize 4294967296 ^ v.length=P at *
     omega
   have d1:=Ud hi
   rw [e1] at d1
   obtain ⟨u',q1,q2,q3,q4,q5,q6⟩:=Z0n (N:=N) (j0:=j - 1) hN hu hv hn (by omega) hs hz2 hbig (by omega)
   have hqs:0≤((Zb (u.drop (j - 1)) / Zb v:Nat):Int)∧((Zb (u.drop (j - 1)) / Zb v:Nat):Int)<4294967296:=⟨Int.natCast_nonneg _,Int.ofNat_lt.2 q6⟩
   rw [if_pos (decide_eq_true (by omega)),show (j:Int) - 1=((j - 1:Nat):Int) by omega,Zt (x:=((j - 1:Nat):Int)+(v.length:Int)) (by omega),Zt (by omega),Z9 (by omega),Int.toNat_natCast,
    show Int.toNat (((j - 1:Nat):Int)+(v.length:Int)+1) - (j - 1)=v.length+1 by omega,q1,Option.bind_some,Z7 hqi,Option.bind_some,Option.bind_some,Zt (by omega)]
   have vp:0<Zb v:=by omega
   -- the quotient's limb was 0
   have zq:q[j - 1]=0∧Zb (q.take (j - 1))=0:=by
    have:=Zou hqi
    rw [e1,hz] at this
    have g2:=hq.get hqi
    have hp:0<4294967296 ^ (j - 1):=Nat.pow_pos (by decide)
    have h3:4294967296 ^ (j - 1) * (q[j - 1]).toNat=0:=by omega
    rcases Nat.mul_eq_zero.1 h3 with h | h
    ·omega
    ·exact ⟨by omega,by omega⟩
   obtain ⟨u2,q2',r1,r2,r3,r4,r5,r6,r7⟩:=Zrp N s v hN hv hn hbig n (j - 1) u' (q.set (j - 1) ((Zb (u.drop (j - 1)) / Zb v:Nat):Int)) (by rw [List.length_set];omega) (by omega) (by rw [List.length_set,q2];exact hl) (by omega) q3 (hq.set _ hqs) (by rw [q5];exact Nat.mod_lt _ vp) (by rw [Zdb _ (Nat.le_refl _)];exact zq.2)
   refine ⟨u2,q2',r1,by rw [r2,q2],by rw [r3,List.length_set],r4,r5,r6,?_⟩
   rw [r7]
   have s0:=Uv u (j - 1)
   have s1:=Uv u' (j - 1)
   rw [q4,q5] at s1
   have s2:=Uu hqi ((Zb (u.drop (j - 1)) / Zb v:Nat):Int)
   rw [zq.1,Int.toNat_zero,Nat.mul_zero,Nat.add_zero,Int.toNat_natCast] at s2
   rw [s1,s2,s0]
   have hdm:=Nat.div_add_mod (Zb (u.drop (j - 1))) (Zb v)
   generalize Zb (u.drop (j - 1)) / Zb v=a at *
   generalize Zb (u.drop (j - 1)) % Zb v=b at *
   rw [← hdm]
   generalize 4294967296 ^ (j - 1)=Q at *
   grind
theorem Zxg {l:List Int} (h:0<l.length):Zb l=Zb (l.take (l.length - 1))+4294967296 ^ (l.length - 1) * (l[l.length - 1]).toNat:=by
 conv=>lhs;rw [← Zfs h,T3,Y4,Yd]
 rw [List.length_take,Nat.min_eq_left (by omega),Nat.mul_zero,Nat.add_zero]
theorem Zxh {l:List Int} (hl:Zp l):Zb (l.take (l.length - 1))<4294967296 ^ (l.length - 1):=by
 have:=Sz (hl.take (l.length - 1))
 rw [List.length_take,Nat.min_eq_left (by omega)] at this
 exact this
theorem Z0p {u:List Int} {k n S:Nat} (hu:Zp u) (hk:k+n=u.length) (hn:0<n) (ht:∀ h:u.length - 1<u.length,(u[u.length - 1]).toNat<S):Zb (u.drop k)<4294967296 ^ (n - 1) * S:=by
 have hl:(u.drop k).length=n:=by rw [List.length_drop];omega
 have h1:=Zxg (l:=u.drop k) (by omega)
 have h2:=Zxh (hu.drop k)
 have h3:((u.drop k)[(u.drop k).length - 1]'(by omega))=u[u.length - 1]'(by omega):=by
  have:(u.drop k)[(u.drop k).length - 1]?=u[u.length - 1]?:=by rw [List.getElem?_drop,hl];congr 1;omega
  rw [List.getElem?_eq_getElem (by omega),List.getElem?_eq_getElem (by omega)] at this
  exact Option.some.inj this
 rw [h3] at h1
 rw [hl] at h1 h2
 have h4:=ht (by omega)
 have h5:=Nat.mul_le_mul_left (4294967296 ^ (n - 1)) (show (u[u.length - 1]'(by omega)).toNat+1≤S from h4)
 rw [Nat.mul_add] at h5
 omega
theorem Ziy {N:Nat} {a b:List Int} (ha:Zp a) (hb:Zp b) (hN:a.length+b.length+4<N) (hs:a.length+b.length≤549755813888):
  Zcd N a b=some (if Zb b=0 then ([],[],11) else (Zd (Zb a / Zb b),Zd (Zb a % Zb b),0)):=by
 have la:=X0 ha
 have lb:=X0 hb
 rw [Zcd,Sa ha (by omega) (by omega),Option.bind_some,Sa hb (by omega) (by omega),Option.bind_some]
 generalize hA:Zb a=A at *
 generalize hB:Zb b=B at *
 by_cases h0:B=0
 ·subst h0
  rw [Wz,if_pos (by decide),if_pos rfl]
 ·have hbp:0<(Zd B).length:=List.length_pos_iff.2 (fun h=>h0 (Zfu.1 h))
  rw [if_neg (by rw [decide_eq_false (by omega)];decide),if_neg h0,Zn2 (Z2 _) (Z2 _) (by omega) (by omega) (by omega) (by omega),Option.bind_some,Z0,Z0]
  by_cases hlt:A<B
  ·rw [if_pos hlt,if_pos (by decide),T5 (Z2 _) (by omega) (by omega),Option.bind_some,Z0,Nat.div_eq_of_lt hlt,Nat.mod_eq_of_lt hlt,Wz]
  ·rw [if_neg hlt,if_neg (by split <;> decide)]
   have hlen:(Zd B).length≤(Zd A).length:=by
    have h1:=Wt (k:=(Zd A).length) (n:=B)
    have h2:=Wt (k:=(Zd A).length) (n:=A)
    have:=h2.1 (Nat.le_refl _)
    exact h1.2 (by omega)
   by_cases h1:(Zd B).length=1
   ·have g:=(Z2 B).get hbp
    have hne:=Zlp hbp
    have e0:(Zd B).length - 1=0:=by omega
    have hne0:(Zd B)[0]≠0:=by
     have:(Zd B)[(Zd B).length - 1]?=(Zd B)[0]?:=by rw [e0]
     rw [List.getElem?_eq_getElem (by omega),List.getElem?_eq_getElem (by omega)] at this
     rw [← Option.some.inj this];exact hne
    have eB:((Zd B)[0]).toNat=B:=by
     have h2:=Z0 B
     have h3:=Ud (l:=Zd B) (k:=0) hbp
     rw [List.drop_zero,h2,List.drop_eq_nil_of_le (by omega),Yd] at h3
     omega
    obtain ⟨q,q1,q2,q3,q4⟩:=Z4l (N:=N) (a:=Zd A) (d:=(Zd B)[0]) (by omega) (Z2 _) (by omega) (by omega)
    rw [eB,Z0] at q1 q4
    have hm:=Nat.mod_lt A (show 0<B by omega)
    have hB32:B<4294967296:=by omega
    have hml:Zp [((A % B:Nat):Int)]:=.cons ⟨Int.natCast_nonneg _,Int.ofNat_lt.2 (Nat.lt_trans hm hB32)⟩ .nil
    rw [if_pos (decide_eq_true (by omega)),Zn1 (by omega),Option.bind_some,show (0:Int)=((0:Nat):Int) from rfl,Z7 hbp,Option.bind_some,q1,Option.bind_some,T5 q3 (by omega) (by omega),Option.bind_some,T5 hml (by simp;omega) (by simp),Option.bind_some,q4,Y4,Yd,Int.toNat_natCast,Nat.mul_zero,Nat.add_zero]
   ·have hp:0<(Zd B).length:=hbp
    have i1:(Zd B).length - 1<(Zd B).length:=by omega
    have g:=(Z2 B).get i1
    have hne:=Zlp hbp
    obtain ⟨k,ek,k1,k2⟩:=Zk7 (show ((Zd B)[(Zd B).length - 1]).toNat≠0 by omega)
    have hk:k≤31:=by
     have:Xb ((Zd B)[(Zd B).length - 1]).toNat≤32:=Vr.2 (by omega)
     omega
    obtain ⟨s,hs'⟩:∃ s,s=31 - k:=⟨_,rfl⟩
    have hlz:Zjd (Zd B)[(Zd B).length - 1]=some (s:Int):=by
     rw [Zjd,show (Zd B)[(Zd B).length - 1]=(((Zd B)[(Zd B).length - 1]).toNat:Int) by omega,Zs0 (by omega),Option.bind_some,ek,Zt (by omega)]
     congr 1;omega
    obtain ⟨u,u1,u2,u3,u4,u5⟩:=Zoh (a:=Zd A) (s:=s) (by omega) (Z2 _) (by omega)
    obtain ⟨w,w1,w2,w3,w4,w5⟩:=Zoh (a:=Zd B) (s:=s) (by omega) (Z2 _) (by omega)
    rw [Z0] at u4 w4
    have hps:=Nat.two_pow_pos s
    -- the divisor, its highest X1 set
    have hsp:=Zfs hp
    have htl:=Sz ((Z2 B).take ((Zd B).length - 1))
    rw [List.length_take,Nat.min_eq_left (by omega)] at htl
    have eB:B=Zb ((Zd B).take ((Zd B).length - 1))+4294967296 ^ ((Zd B).length - 1) * ((Zd B)[(Zd B).length - 1]).toNat:=by
     conv=>lhs;rw [← Z0 B,← hsp,T3,Y4,Yd]
     rw [List.length_take,Nat.min_eq_left (by omega)];simp
    have pk:2 ^ k * 2 ^ s=2147483648:=by rw [← Nat.pow_add,hs',show k+(31 - k)=31 by omega]
    have pk1:2 ^ (k+1) * 2 ^ s=4294967296:=by rw [Nat.pow_succ,Nat.mul_right_comm,pk]
    have hPp:0<4294967296 ^ ((Zd B).length - 1):=Nat.pow_pos (by decide)
    have hlb1:(Zd B).length - 1+1=(Zd B).length:=by omega
    have pwl:(4294967296:Nat) ^ (Zd B).length=4294967296 ^ ((Zd B).length - 1) * 4294967296:=by rw [← Nat.pow_succ];congr 1;omega
    generalize hPe:4294967296 ^ ((Zd B).length - 1)=P at *
    have top1:P * 2147483648≤2 ^ s * B:=by
     have h1:=Nat.mul_le_mul_left P k1
     have h2:=Nat.mul_le_mul_right (2 ^ s) (show P * 2 ^ k≤B by omega)
     rw [Nat.mul_assoc,pk] at h2
     rw [Nat.mul_comm (2 ^ s)];exact h2
    have top2:2 ^ s * B<P * 4294967296:=by
     have h1:=Nat.mul_le_mul_left P (show ((Zd B)[(Zd B).length - 1]).toNat+1≤2 ^ (k+1) from k2)
     rw [Nat.mul_add] at h1
     have h2:=Nat.mul_lt_mul_of_pos_right (show B<P * 2 ^ (k+1) by omega) hps
     rw [Nat.mul_assoc,pk1] at h2
     rw [Nat.mul_comm (2 ^ s)];exact h2
    have hv0:(Zd (2 ^ s * B)).length=(Zd B).length:=by
     have h1:(Zd (2 ^ s * B)).length≤(Zd B).length:=Wt.2 (by rw [pwl];exact top2)
     have h2:¬ (Zd (2 ^ s * B)).length≤(Zd B).length - 1:=fun h=>by
      have:=Wt.1 h
      rw [hPe] at this
      have:P * 1≤P * 2147483648:=Nat.mul_le_mul_left _ (by decide)
      omega
     omega
    have hvp:0<(Zd (2 ^ s * B)).length:=by omega
    have hbig:2147483648≤((Zd (2 ^ s * B))[(Zd (2 ^ s * B)).length - 1]).toNat:=by
     have tl':=Zxh (Z2 (2 ^ s * B))
     have e:=Zxg hvp
     have ePP:(4294967296:Nat) ^ ((Zd (2 ^ s * B)).length - 1)=P:=by rw [hv0];exact hPe
     rw [Z0,ePP] at e
     rw [ePP] at tl'
     generalize Zb ((Zd (2 ^ s * B)).take ((Zd (2 ^ s * B)).length - 1))=lo at *
     generalize ((Zd (2 ^ s * B))[(Zd (2 ^ s * B)).length - 1]).toNat=t at *
     have h3:P * 2147483648<P * (t+1):=by rw [Nat.mul_add];omega
     have:=Nat.lt_of_mul_lt_mul_left h3
     omega
    obtain ⟨q,hq⟩:∃ q,q=List.replicate ((Zd A).length - (Zd B).length+1) (0:Int):=⟨_,rfl⟩
    have lq:q.length=(Zd A).length - (Zd B).length+1:=by rw [hq,List.length_replicate]
    rw [if_neg (by rw [decide_eq_false (by omega)];decide),Zt (x:=((Zd B).length:Int) - 1) (by omega),show ((Zd B).length:Int) - 1=(((Zd B).length - 1:Nat):Int) by omega,Z7 i1,Option.bind_some,hlz,Option.bind_some,u1,Option.bind_some,w1,Option.bind_some,
     Zxk w3 (by omega) (by omega),Option.bind_some,w4,Zt (x:=((Zd A).length:Int) - ((Zd B).length:Int)) (by omega),Zt (x:=((Zd A).length:Int) - ((Zd B).length:Int)+1) (by omega),Z9 (by simp only [maxLen];omega),
     show Int.toNat (((Zd A).length:Int) - ((Zd B).length:Int)+1)=(Zd A).length - (Zd B).length+1 by omega,← hq,Zt (x:=(q.length:Int) - 1) (by omega)]
    obtain ⟨u',q',r1,r2,r3,r4,r5,r6,r7⟩:=Zrp N s (Zd (2 ^ s * B)) (by omega) (Z2 _) (by omega) hbig N q.length u q (Nat.le_refl _) (by omega) (by omega) (by omega) u3 (by rw [hq];exact .zeros _) (by
     -- the highest Zd are below the divisor
     rw [Z0]
     have h1:=Z0p (k:=q.length) (n:=(Zd B).length) u3 (by omega) hp u5
     rw [hPe] at h1
     have hs31:2 ^ s≤2147483648:=by
      have:=Nat.pow_le_pow_right (n:=2) (by decide) (show s≤31 by omega)
      omega
     have h8:=Nat.mul_le_mul_left P hs31
     omega) (by rw [hq,List.take_replicate];exact Uw _)
    rw [r1,Zxk r4 (by omega) (by omega),Option.bind_some]
    rw [Z0] at r6 r7
    have zq:Zb q=0:=by rw [hq];exact Uw _
    rw [zq,u4,Nat.mul_zero,Nat.zero_add] at r7
    have ll:=X0 r4
    have hfin:=Zrq N s (by omega) q' (Zd (Zb u')) r5 (Z2 _) (by omega) (by omega) N 0 (Zd (Zb u')) [] (by omega) (by omega) (by simp) rfl .nil (by rw [Yd,List.drop_zero,Nat.pow_zero];omega)
    rw [show ((0:Nat):Int)=0 from rfl] at hfin
    rw [hfin,Z0]
    have hqv:Zb q'=A / B:=by
     have h9:2 ^ s * A / (2 ^ s * B)=Zb q':=by
      rw [← r7,Nat.mul_add_div (by omega),Nat.div_eq_of_lt r6,Nat.add_zero]
     rw [← h9,Nat.mul_div_mul_left _ _ hps]
    have hrv:Zb u' / 2 ^ s=A % B:=by
     have h9:2 ^ s * A % (2 ^ s * B)=Zb u':=by
      rw [← r7,Nat.mul_add_mod,Nat.mod_eq_of_lt r6]
     rw [Nat.mul_mod_mul_left] at h9
     rw [← h9,Nat.mul_div_cancel_left _ hps]
    rw [hqv,hrv]
theorem Z1h {x y:Nat} (h:y≤x) (hy:0<y):y * (x % y)≤x * y / 2:=by
 have h1:x % y+y≤x:=by
  have:=Nat.mod_add_div x y
  have h2:y * 1≤y * (x / y):=Nat.mul_le_mul_left _ (Nat.div_pos h hy)
  omega
 have h2:=Nat.mod_lt x hy
 have h3:y * (2 * (x % y))≤y * x:=Nat.mul_le_mul_left _ (by omega)
 rw [Nat.le_div_iff_mul_le (by decide),Nat.mul_comm x y,Nat.mul_assoc,Nat.mul_comm (x % y) 2]
 exact h3
theorem Zoc (N:Nat):∀ (n x y:Nat),y≤x→Xb (x * y)<n→(Zd x).length+(Zd y).length+4<N→(Zd x).length+(Zd y).length≤549755813888→Zce N n (Zd x) (Zd y)=some (Zd (Nat.gcd x y))
 | 0,x,y,_,h,_,_=>by omega
 | n+1,x,y,hxy,hn,hN,hs=>by
  rw [Zce.eq_2]
  by_cases h0:y=0
  ·subst h0
   rw [Wz,if_neg (by decide),Nat.gcd_zero_right]
  ·have hp:0<(Zd y).length:=List.length_pos_iff.2 (fun h=>h0 (Zfu.1 h))
   have hm:=Nat.mod_lt x (show 0<y by omega)
   have lm:(Zd (x % y)).length≤(Zd y).length:=Wt.2 (Nat.lt_trans hm (Wt.1 (Nat.le_refl _)))
   have ly:(Zd y).length≤(Zd x).length:=Wt.2 (Nat.lt_of_le_of_lt hxy (Wt.1 (Nat.le_refl _)))
   rw [if_pos (decide_eq_true (by omega)),Ziy (Z2 _) (Z2 _) hN hs,Option.bind_some,Z0,Z0,if_neg h0]
   have hb:Xb (y * (x % y))<n:=by
    have h1:=Z1h hxy (by omega)
    have h2:Xb (y * (x % y))≤Xb (x * y / 2 ^ 1):=Vr.2 (Nat.lt_of_le_of_lt (by rw [Nat.pow_one];exact h1) (Vr.1 (Nat.le_refl _)))
    rw [Zip] at h2
    have h3:0<x * y:=Nat.mul_pos (by omega) (by omega)
    have h4:0<Xb (x * y):=by
     rcases Nat.eq_zero_or_pos (Xb (x * y)) with h | h
     ·have:=Vr.1 (show Xb (x * y)≤0 by omega)
      omega
     ·exact h
    omega
   have:=Zoc N n y (x % y) (Nat.le_of_lt hm) hb (by omega) (by omega)
   rw [this,Nat.gcd_comm x y,Nat.gcd_rec y x,Nat.gcd_comm]
theorem Zqc (x y:Nat):Xb (x * y)≤Xb x+Xb y:=by
 refine Vr.2 ?_
 rw [Nat.pow_add]
 have h1:=Vr.1 (Nat.le_refl (Xb x))
 have h2:=Vr.1 (Nat.le_refl (Xb y))
 exact Nat.mul_lt_mul'' h1 h2
theorem Z1g {N:Nat} {a b:List Int} (ha:Zp a) (hb:Zp b) (hN:32 * (a.length+b.length)+8<N) (hs:a.length+b.length≤549755813888):Zjh N a b=some (Zd (Nat.gcd (Zb a) (Zb b))):=by
 have la:=X0 ha
 have lb:=X0 hb
 have ba:=(Zfi (Zb a)).2
 have bb:=(Zfi (Zb b)).2
 rw [Zjh,T5 ha (by omega) (by omega),Option.bind_some,T5 hb (by omega) (by omega),Option.bind_some]
 by_cases h:Zb b≤Zb a
 ·have:=Zqc (Zb a) (Zb b)
  exact Zoc N N _ _ h (by omega) (by omega) (by omega)
 ·have h':Zb a<Zb b:=by omega
  have hm:=Zqc (Zb b) (Zb a)
  have hp:0<(Zd (Zb b)).length:=List.length_pos_iff.2 (fun h=>by have:=Zfu.1 h;omega)
  obtain ⟨N',rfl⟩:∃ N',N=N'+1:=⟨N - 1,by omega⟩
  rw [Zce.eq_2,if_pos (decide_eq_true (by omega)),Ziy (Z2 _) (Z2 _) (by omega) (by omega),Option.bind_some,Z0,Z0,if_neg (by omega),Nat.mod_eq_of_lt h',
   Zoc (N'+1) N' _ _ (by omega) (by omega) (by omega) (by omega),Nat.gcd_comm]
abbrev ZV:=Bool×List Int
abbrev QV:=R4×List Int
def Zr (a:ZV):Int:=if a.1=true then -(Zb a.2:Int) else (Zb a.2:Int)
def Zs (z:Int):ZV:=(decide (z<0),Zd z.natAbs)
def Xx (l:List Int):Nat:=if Zb l=0 then 1 else Zb l
def Z6 (a:QV):Rat:=mkRat (Zr a.1) (Xx a.2)
def Zm (q:Rat):QV:=(Zs q.num,Zd q.den)
structure RV (k:Nat) (a:QV):Prop where
 m:Zp a.1.2
 d:Zp a.2
 lm:a.1.2.length≤k
 ld:a.2.length≤k
def qs (q:Rat):Nat:=max (Zd q.num.natAbs).length (Zd q.den).length
def Xe (N s:Nat):Prop:=200 * (s+4)<N∧s≤17179869184
theorem Zbt (a:ZV):(Zr a).natAbs=Zb a.2:=by
 rw [Zr];split <;> omega
theorem Yt (z:Int):Zr (Zs z)=z:=by
 rw [Zr,Zs]
 simp only [Z0,decide_eq_true_eq]
 split <;> omega
theorem Zkf (n:Bool) (m:List Int):Zs (Zr (n,m))=(n&&decide (Zb m≠0),Zd (Zb m)):=by
 rw [Zs,Zbt]
 congr 1
 rw [Zr]
 cases n
 ·rw [if_neg (fun h=>by cases h),Bool.false_and]
  exact decide_eq_false (by omega)
 ·rw [if_pos rfl,Bool.true_and]
  exact decide_eq_decide.2 (by simp only;omega)
theorem Yj (z:Int):Zp (Zs z).2:=Z2 _
theorem V4 (l:List Int):Xx l≠0:=by rw [Xx];split <;> omega
theorem Zru {n:Nat} (h:n≠0):Xx (Zd n)=n:=by rw [Xx,Z0,if_neg h]
theorem Yr (q:Rat):Z6 (Zm q)=q:=by
 rw [Z6,Zm]
 simp only [Yt,Zru q.den_nz]
 exact Rat.mkRat_self q
theorem Zpk (q:Rat):RV (qs q) (Zm q):=⟨Z2 _,Z2 _,Nat.le_max_left _ _,Nat.le_max_right _ _⟩
theorem RV.mono {k l:Nat} {a:QV} (h:RV k a) (hl:k≤l):RV l a:=⟨h.m,h.d,Nat.le_trans h.lm hl,Nat.le_trans h.ld hl⟩
theorem Y2 {q:Rat} {k:Nat} (h:qs q≤k):RV k (Zm q):=(Zpk q).mono h
theorem Xe.mono {N s t:Nat} (h:Xe N t) (hs:s≤t):Xe N s:=by
 obtain ⟨h1,h2⟩:=h
 exact ⟨by omega,by omega⟩
theorem Y3 {m n:Nat} (h:m≤n):(Zd m).length≤(Zd n).length:=Wt.2 (Nat.lt_of_le_of_lt h (Wt.1 (Nat.le_refl _)))
theorem U5 (m n:Nat):(Zd (m * n)).length≤(Zd m).length+(Zd n).length:=by
 refine Wt.2 ?_
 rw [Nat.pow_add]
 exact Nat.mul_lt_mul'' (Wt.1 (Nat.le_refl _)) (Wt.1 (Nat.le_refl _))
theorem Zft {m n k:Nat} (hm:(Zd m).length≤k) (hn:(Zd n).length≤k):(Zd (m+n)).length≤k+1:=by
 refine Wt.2 ?_
 have h1:=Wt.1 hm
 have h2:=Wt.1 hn
 rw [Nat.pow_succ]
 omega
theorem Tu {n:Nat} (h:n≠0):1≤(Zd n).length:=List.length_pos_iff.2 (fun e=>h (Zfu.1 e))
theorem Zuz (q:Rat):1≤qs q:=Nat.le_trans (Tu q.den_nz) (Nat.le_max_right _ _)
theorem Ze8 {z:Int} {d k:Nat} (hz:(Zd z.natAbs).length≤k) (hd:(Zd d).length≤k) (hk:1≤k):qs (mkRat z d)≤k:=by
 rw [qs,Rat.num_mkRat,Rat.den_mkRat]
 by_cases h:d=0
 ·rw [if_pos h,if_pos h]
  simp only [Int.natAbs_zero,Wz,W8]
  simp;omega
 ·rw [if_neg h,if_neg h]
  refine Nat.max_le.2 ⟨Nat.le_trans (Y3 ?_) hz,Nat.le_trans (Y3 (Nat.div_le_self _ _)) hd⟩
  exact Int.natAbs_ediv_le_natAbs _ _
theorem Zu0 {k:Nat} {a:QV} (h:RV k a):qs (Z6 a)≤max k 1:=by
 refine Ze8 ?_ ?_ (Nat.le_max_right _ _)
 ·rw [Zbt]
  exact Nat.le_trans (X0 h.m) (Nat.le_trans h.lm (Nat.le_max_left _ _))
 ·rw [Xx]
  split
  ·rw [W8];exact Nat.le_max_right _ _
  ·exact Nat.le_trans (X0 h.d) (Nat.le_trans h.ld (Nat.le_max_left _ _))
theorem Ze9 (a:Rat):qs (-a)=qs a:=by rw [qs,qs,Rat.neg_num,Rat.neg_den,Int.natAbs_neg]
theorem Zh9 (a b:Rat):qs (a * b)≤qs a+qs b:=by
 rw [Rat.mul_def']
 have:=Zuz a
 refine Ze8 ?_ ?_ (by omega)
 ·rw [Int.natAbs_mul]
  exact Nat.le_trans (U5 _ _) (Nat.add_le_add (Nat.le_max_left _ _) (Nat.le_max_left _ _))
 ·exact Nat.le_trans (U5 _ _) (Nat.add_le_add (Nat.le_max_right _ _) (Nat.le_max_right _ _))
theorem Zmk (a b:Rat):qs (a+b)≤qs a+qs b+1:=by
 rw [Rat.add_def']
 have an:(Zd a.num.natAbs).length≤qs a:=Nat.le_max_left _ _
 have ad:(Zd a.den).length≤qs a:=Nat.le_max_right _ _
 have bn:(Zd b.num.natAbs).length≤qs b:=Nat.le_max_left _ _
 have bd:(Zd b.den).length≤qs b:=Nat.le_max_right _ _
 refine Ze8 (Nat.le_trans (Y3 (Int.natAbs_add_le _ _)) (Zft ?_ ?_)) ?_ (by omega)
 ·rw [Int.natAbs_mul,Int.natAbs_natCast]
  have:=U5 a.num.natAbs b.den
  omega
 ·rw [Int.natAbs_mul,Int.natAbs_natCast]
  have:=U5 b.num.natAbs a.den
  omega
 ·have:=U5 a.den b.den
  omega
theorem Z27 (a b:Rat):qs (a - b)≤qs a+qs b+1:=by
 rw [Rat.sub_eq_add_neg]
 have:=Zmk a (-b)
 rw [Ze9] at this
 exact this
theorem Zo7:qs 0=1:=by
 rw [qs]
 simp only [Rat.zero_num,Rat.zero_den,Int.natAbs_zero,Wz,W8]
 simp
theorem Zo5:qs 1=1:=by
 rw [qs]
 simp only [Rat.one_num,Rat.one_den,Int.natAbs_one,W8]
 simp
theorem Zt8 {neg:Bool} {num den:List Int} (hd:Zb den≠0):
  Zm (mkRat (Zr (neg,num)) (Zb den))=((neg&&decide (Zb num / Nat.gcd (Zb num) (Zb den)≠0),Zd (Zb num / Nat.gcd (Zb num) (Zb den))),Zd (Zb den / Nat.gcd (Zb num) (Zb den))):=by
 rw [Zm,Rat.num_mkRat,Rat.den_mkRat,if_neg hd,if_neg hd,Zbt,Nat.gcd_comm (Zb den) (Zb num)]
 have hg:Nat.gcd (Zb num) (Zb den)≠0:=fun h=>hd (Nat.gcd_eq_zero_iff.1 h).2
 congr 1
 have e:Zr (neg,num) / ((Nat.gcd (Zb num) (Zb den):Nat):Int)=Zr (neg,Zd (Zb num / Nat.gcd (Zb num) (Zb den))):=by
  rw [Zr,Zr]
  simp only [Z0]
  cases neg
  ·simp
  ·simp only [if_true]
   rw [Int.neg_ediv_of_dvd (Int.natCast_dvd_natCast.2 (Nat.gcd_dvd_left _ _)),Int.natCast_ediv]
 rw [e,Zkf,Z0]
theorem Zbm {a b:Int} {c d:Nat} (hc:c≠0) (hd:d≠0):mkRat a c<mkRat b d↔a * d<b * c:=by
 have h1:(0:Rat)<(c:Rat):=Rat.natCast_pos.2 (by omega)
 have h2:(0:Rat)<(d:Rat):=Rat.natCast_pos.2 (by omega)
 rw [Rat.mkRat_eq_div,Rat.mkRat_eq_div,Rat.div_lt_iff h1]
 have e:(b:Rat) / d * c=(b:Rat) * c / d:=by
  rw [Rat.div_def,Rat.div_def,Rat.mul_assoc,Rat.mul_assoc,Rat.mul_comm (d:Rat)⁻¹]
 rw [e,Rat.lt_div_iff h2]
 have e1:((a:Rat) * (d:Rat))=((a * (d:Int):Int):Rat):=by rw [Rat.intCast_mul];rfl
 have e2:((b:Rat) * (c:Rat))=((b * (c:Int):Int):Rat):=by rw [Rat.intCast_mul];rfl
 rw [e1,e2,Rat.intCast_lt_intCast]
theorem Zts {a b:Int} {c d:Nat} (hc:c≠0) (hd:d≠0):mkRat a c=mkRat b d↔a * d=b * c:=Rat.mkRat_eq_iff hc hd
def Vu (a b:Rat):Int:=if a<b then -1 else if b<a then 1 else 0
def Qn (a b:Int):Int:=if a<b then -1 else if b<a then 1 else 0
def Qh (a:Rat):Int:=Vu a 0
theorem Zo0 {a b:Int} {c d:Nat} (hc:c≠0) (hd:d≠0):Vu (mkRat a c) (mkRat b d)=Qn (a * d) (b * c):=by
 unfold Vu Qn
 simp only [Zbm hc hd,Zbm hd hc]
theorem Zm9 (a:Int):Qn a 0=a.sign:=by
 unfold Qn
 rcases Int.lt_trichotomy a 0 with h | h | h
 ·rw [if_pos h,Int.sign_eq_neg_one_of_neg h]
 ·rw [h];rfl
 ·rw [if_neg (by omega),if_pos h,Int.sign_eq_one_of_pos h]
theorem Zu1 (a:QV):Qh (Z6 a)=(Zr a.1).sign:=by
 rw [Qh,Z6,show (0:Rat)=mkRat 0 1 by rw [Rat.zero_mkRat],Zo0 (V4 _) (by decide),← Zm9]
 simp
theorem Zmm {a:Rat}:Qh a<0↔a<0:=by
 rw [Qh,Vu]
 by_cases h:a<0
 ·rw [if_pos h];simp [h]
 ·rw [if_neg h];simp only [h,iff_false];split <;> decide
def Vy (N:Nat) (ab:R1):Option R2:=
  (Zdy N ab.2).bind fun aa=>if (decide (0<(aa.length:Int)))=true then (some aa) else ((Zay N 1).bind fun ac=>some ac)
theorem Te {N ad ae:Nat} {af ag:Option Addr} {col:Zf} {w0:World} {ab:R1} {r:R2} (c1:Nat) (hm:Vy N ab=some r) (aq:Sl (Za.int .u32) col w0 af ad ab.1.2) (ac:Sl (Za.int .u32) col w0 ag ae ab.2):
    Calls Tryz.prog 186 #[(.agg #[.bool ab.1.1,.slice af ab.1.2.length ad,.slice ag ab.2.length ae])] w0 (fun e w'=>∃ (col':Zf) (ra1:Option Addr) (rc2:Nat),e= .returned ((.slice ra1 r.length rc2))∧Zg col w0 col' w'∧Zc (Za.int .u32) 79 c1 col' w' ra1 rc2 r):=by
 refine Xi 2 (m:=12) func186 rfl rfl rfl rfl rfl ?_;rw [Vy.eq_1] at hm;have aa:=St.start col w0;refine go ?_;refine Xd (col:=(Zi col)) 1 rfl ?_;intro ar au av ah ai;refine go ?_;refine Xc ai ?_;obtain ⟨aw,aj,hm⟩:=bZ hm;replace ac:=ac.keep (Zj.start col w0);replace aa:=aa.grow ah;refine Zh (Znm 2 aj (ac.ks aa)) ?_;rintro _ ax ⟨ak,ay,az,rfl,al,am⟩;refine ⟨_,rfl,go ?_⟩;replace aa:=aa.grow al;refine Zq hm (fun hb hm=>go ?_) fun hb hm=>go ?_
 ·cases hm;exact ⟨rfl,_,_,_,rfl,aa.fin (cm [(2,c1)]),aa.fo am⟩
 obtain ⟨a0,an,hm⟩:=bZ hm;refine Zh (Zis (col:=ak) 3 an) ?_;rintro _ a1 ⟨a2,a3,a4,rfl,ao,ap⟩;refine ⟨_,rfl,go ?_⟩;cases hm;replace aa:=aa.grow ao;exact ⟨rfl,_,_,_,rfl,aa.fin (cm [(3,c1)]),aa.fo ap⟩
def Zh5 (aa:Bool) (ab:List Int):Option R4:=
  some (aa,ab)
def Tk (N:Nat) (ab:Bool) (ac:List Int):Option R4:=
  (Zdy N ac).bind fun aa=>if ab=true then (Zh5 (decide (0<(aa.length:Int))) aa) else (Zh5 false aa)
theorem Qu {N ao:Nat} {a1:Option Addr} {col:Zf} {w0:World} {ap:Bool} {ah:R2} {r:R4} (c1:Nat) (hm:Tk N ap ah=some r) (h1:Sl (Za.int .u32) col w0 a1 ao ah):
    Calls Tryz.prog 234 #[.bool ap,.slice a1 ah.length ao] w0 (fun e w'=>∃ (col':Zf) (ra1:Option Addr) (rc2:Nat),e= .returned ((.agg #[.bool r.1,.slice ra1 r.2.length rc2]))∧Zg col w0 col' w'∧Zc (Za.int .u32) 79 c1 col' w' ra1 rc2 r.2):=by
 refine X2 (m:=16) func234 rfl rfl rfl ?_;rw [Tk.eq_1] at hm;have aa:=St.start col w0;refine go ?_;refine Xf (col:=(Zi col)) #[.bool false,.slice none (([]:List Int).length) 0] 1 zeroValue45 ?_;intro ax a4 a5 ay ac;refine go ?_;obtain ⟨ad,az,hm⟩:=bZ hm;replace h1:=h1.keep (Zj.start col w0);replace aa:=aa.grow ay;refine Zh (Znm 2 az (h1.ks aa)) ?_;rintro _ a6 ⟨a7,aq,ar,rfl,au,ab⟩;refine ⟨_,rfl,?_⟩;refine Tt rfl<|Zk<|Zy ?_;replace ac:=ac.gr au;replace aa:=aa.grow au;refine Wp.cutK [4,1000000] (fun f ae=>∃ af ai aj ak ag,Zh5 ai ag=some r∧St w0 (Zi col) af ae∧Zc (Za.int .u32) 79 3 af ae aj ak ag∧Zn 45 1 af ae ax #[.bool ai,.slice aj ag.length ak]) ?_ ?_
 ·intro f ae hJ;obtain ⟨af,ai,aj,ak,ag,hm,aa,a0,ac⟩:=hJ;rw [Zh5.eq_1] at hm;refine Ys ?_;cases hm;exact ⟨rfl,_,ra ac.atN,_,_,_,rfl,aa.fin (cm [(3,c1)]),aa.fo a0⟩
 refine go ?_;refine Xv hm (fun al hm=>go ?_) fun al hm=>go ?_
 ·refine lV (.bool (decide (0<(ad.length:Int)))) (Xj (congrArg Value.bool al) rfl)<|Wa rfl<|lV (.agg #[.bool (decide (0<(ad.length:Int))),.slice aq ad.length ar]) (Yc (l:=[_,_]) (qs:=[(0,1),(1,1)]) underlying45 zeroValue45 ⟨rfl,sizeOf4,rfl,sizeOf43,trivial⟩ rfl)<|Zw ac ?_;intro a8 av a2 am;refine Zk ?_;replace ab:=ab.kp av;replace ab:=ab.recolSelf 3 (by decide);replace am:=am.recol 2 3 (by decide);replace aa:=aa.kp av a2;replace aa:=aa.recol 2 3 (by decide) (by decide);exact ⟨rfl,_,_,_,_,_,hm,aa,ab,am⟩
 refine lV (.bool false) (Xs (congrArg Value.bool al) rfl)<|Wa rfl<|lV (.agg #[.bool false,.slice aq ad.length ar]) (Yc (l:=[_,_]) (qs:=[(0,1),(1,1)]) underlying45 zeroValue45 ⟨rfl,sizeOf4,rfl,sizeOf43,trivial⟩ rfl)<|Zw ac ?_;intro a9 aw a3 an;refine Zk ?_;replace ab:=ab.kp aw;replace ab:=ab.recolSelf 3 (by decide);replace an:=an.recol 2 3 (by decide);replace aa:=aa.kp aw a3;replace aa:=aa.recol 2 3 (by decide) (by decide);exact ⟨rfl,_,_,_,_,_,hm,aa,ab,an⟩
def Zkb (N:Nat) (aa:R4) (ab:R4):Option R4:=
  (Q7 N aa.2 ab.2).bind fun ad=>(Tk N (!decide (aa.1=ab.1)) ad).bind fun ac=>some (ac.1,ac.2)
theorem Zz6 {N ar au:Nat} {av aw:Option Addr} {col:Zf} {w0:World} {ag ah r:R4} (c1:Nat) (hm:Zkb N ag ah=some r) (al:Sl (Za.int .u32) col w0 av ar ag.2) (am:Sl (Za.int .u32) col w0 aw au ah.2):
    Calls Tryz.prog 256 #[(.agg #[.bool ag.1,.slice av ag.2.length ar]),(.agg #[.bool ah.1,.slice aw ah.2.length au])] w0 (fun e w'=>∃ (col':Zf) (ra1:Option Addr) (rc2:Nat),e= .returned ((.agg #[.bool r.1,.slice ra1 r.2.length rc2]))∧Zg col w0 col' w'∧Zc (Za.int .u32) 79 c1 col' w' ra1 rc2 r.2):=by
 refine X2 (m:=16) func256 rfl rfl rfl ?_;rw [Zkb.eq_1] at hm;have aa:=St.start col w0;refine go ?_;refine Xd (col:=(Zi col)) 1 rfl ?_;intro a7 a8 az a0 ai;refine Xd (col:=az) 2 rfl ?_;intro a9 ba a1 ax aj;refine Xf (col:=a1) #[.bool false,.slice none (([]:List Int).length) 0] 3 zeroValue45 ?_;intro bb bc ad an ab;refine go ?_;refine Yv (col:=ad) [(0,1),(1,0),(2,1),(3,0),(4,1),(5,1),(6,0),(7,1),(8,0),(9,3),(10,3),(11,2)] (by kernel_rfl) (by kernel_rfl)<|xF ⟨_,_,rfl⟩ ?_;replace ai:=(ai.gr ax).gr an;refine xW (fun _ hC=>((ai.atN).nth (q:=0) rfl).gr (hC.bl ad)) ?_;refine xF ⟨_,_,rfl⟩ ?_;replace aj:=aj.gr an;refine xW (fun _ hC=>((aj.atN).nth (q:=0) rfl).gr (hC.bl ad)) ?_;refine xu rfl rfl (fun _=>Zfa _ _ underlying4 rfl rfl) ?_;refine xF ⟨_,_,rfl⟩ ?_;refine xW (fun _ hC=>((ai.atN).nth (q:=1) rfl).gr (hC.bl ad)) ?_;refine xF ⟨_,_,rfl⟩ ?_;refine xW (fun _ hC=>((aj.atN).nth (q:=1) rfl).gr (hC.bl ad)) ?_;refine xe rfl rfl ?_;intro bd hC0;have hC:=hC0.bl ad;obtain ⟨be,a2,hm⟩:=bZ hm;replace al:=al.keep (Zj.start col w0);replace am:=am.keep (Zj.start col w0);replace aa:=(((aa.grow a0).grow ax).grow an).grow hC;refine Zh (Zir 4 a2 (al.ks aa) (am.ks aa)) ?_;rintro _ bf ⟨af,bg,bh,rfl,ao,ap⟩;refine ⟨_,rfl,?_⟩;refine Zk<|Xg af hC0 ao<|xe rfl rfl ?_;intro a3 hC0;replace ab:=(ab.gr hC).gr ao;have hC:=hC0.bl af;obtain ⟨bi,a4,hm⟩:=bZ hm;replace ap:=ap.gr hC;refine Zh (Qu 5 a4 (ap.toSlF (Zl.int .u32))) ?_;rintro _ bj ⟨a5,bk,bm,rfl,ae,ac⟩;refine ⟨_,rfl,?_⟩;replace ac:=ac.thaw (Zv .u32) ae ((Fz.refl (col:=af)).froz 4) (by decide);replace ae:=ae.thawR (col:=af);generalize Z4 a3.heap.size af a5=ak at *;refine Zk<|Xg ak hC0 ae<|xe rfl rfl ?_;intro bn hC0;replace aa:=((aa.grow ao).grow hC).grow ae;replace ab:=(ab.gr hC).gr ae;have hC:=hC0.bl ak;replace ab:=ab.gr hC;refine Zw ab ?_;intro bo ay a6 aq;refine Zk<|xk ak<|Yn ?_;replace ac:=(ac.gr hC).kp ay;replace aa:=(aa.grow hC).kp ay a6;intro bp hC;replace hC:=hC.bl ak;refine Ys ?_;cases hm;replace ac:=ac.gr hC;replace aq:=aq.gr hC;replace aa:=aa.grow hC;exact ⟨rfl,_,ra aq.atN,_,_,_,rfl,aa.fin (cm [(5,c1)]),aa.fo ac⟩
def Q5 (N:Nat) (aa:R4) (ac:List Int):Option R4:=
  (Zkb N (aa.1,aa.2) (false,ac)).bind fun ab=>some (ab.1,ab.2)
theorem Zfk {N ai ad:Nat} {aj a1:Option Addr} {col:Zf} {w0:World} {ab:R4} {ac:R2} {r:R4} (c1:Nat) (hm:Q5 N ab ac=some r) (ae:Sl (Za.int .u32) col w0 aj ai ab.2) (h1:Sl (Za.int .u32) col w0 a1 ad ac):
    Calls Tryz.prog 185 #[(.agg #[.bool ab.1,.slice aj ab.2.length ai]),.slice a1 ac.length ad] w0 (fun e w'=>∃ (col':Zf) (ra1:Option Addr) (rc2:Nat),e= .returned ((.agg #[.bool r.1,.slice ra1 r.2.length rc2]))∧Zg col w0 col' w'∧Zc (Za.int .u32) 79 c1 col' w' ra1 rc2 r.2):=by
 refine X2 (m:=9) func185 rfl rfl rfl ?_;rw [Q5.eq_1] at hm;have aa:=St.start col w0;refine go ?_;refine Xd (col:=(Zi col)) 1 rfl ?_;intro au av an ao af;refine Xf (col:=an) #[.bool false,.slice none (([]:List Int).length) 0] 2 zeroValue45 ?_;intro aw ax ay ak ag;refine go ?_;replace af:=af.gr ak;refine lV _ (Xa isAgg45 sizeOf45 af)<|Wa rfl<|lV (.agg #[.bool false,.slice a1 ac.length ad]) (Yc (l:=[_,_]) (qs:=[(0,1),(1,1)]) underlying45 zeroValue45 ⟨rfl,sizeOf4,rfl,sizeOf43,trivial⟩ rfl) ?_;obtain ⟨az,ap,hm⟩:=bZ hm;replace ae:=ae.keep (Zj.start col w0);replace h1:=h1.keep (Zj.start col w0);replace aa:=(aa.grow ao).grow ak;refine Zh (Zz6 3 ap (ae.ks aa) (h1.ks aa)) ?_;rintro _ a0 ⟨a2,a3,a4,rfl,al,ah⟩;refine ⟨_,rfl,?_⟩;replace ag:=ag.gr al;refine Zw ag ?_;intro a5 am aq ar;refine go ?_;cases hm;replace aa:=(aa.grow al).kp am aq;replace ah:=ah.kp am;exact ⟨rfl,_,ra ar.atN,_,_,_,rfl,aa.fin (cm [(3,c1)]),aa.fo ah⟩
def Zc2 (N:Nat) (aa:R4) (ab:R4):Option R4:=
  if (decide (aa.1=ab.1))=true then ((Zjg N aa.2 ab.2).bind fun ag=>(Tk N aa.1 ag).bind fun ac=>some (ac.1,ac.2)) else ((Zgu N aa.2 ab.2).bind fun ad=>if ad.2=true then ((Tk N aa.1 ad.1).bind fun ae=>some (ae.1,ae.2)) else ((Zgu N ab.2 aa.2).bind fun ah=>(Tk N ab.1 ah.1).bind fun af=>some (af.1,af.2)))
theorem Znw {N a3 a4:Nat} {a5 a6:Option Addr} {col:Zf} {w0:World} {ao ap r:R4} (c1:Nat) (hm:Zc2 N ao ap=some r) (ag:Sl (Za.int .u32) col w0 a5 a3 ao.2) (ah:Sl (Za.int .u32) col w0 a6 a4 ap.2):
    Calls Tryz.prog 188 #[(.agg #[.bool ao.1,.slice a5 ao.2.length a3]),(.agg #[.bool ap.1,.slice a6 ap.2.length a4])] w0 (fun e w'=>∃ (col':Zf) (ra1:Option Addr) (rc2:Nat),e= .returned ((.agg #[.bool r.1,.slice ra1 r.2.length rc2]))∧Zg col w0 col' w'∧Zc (Za.int .u32) 79 c1 col' w' ra1 rc2 r.2):=by
 refine X2 (m:=47) func188 rfl rfl rfl ?_;rw [Zc2.eq_1] at hm;have aa:=St.start col w0;refine go ?_;refine Xd (col:=(Zi col)) 1 rfl ?_;intro b3 b4 bf bg ad;refine Xd (col:=bf) 2 rfl ?_;intro b5 b6 bh a7 ac;refine Xf (col:=bh) #[.bool false,.slice none (([]:List Int).length) 0] 3 zeroValue45 ?_;intro b7 b8 ai aw ab;refine go ?_;refine Xh ⟨_,_,rfl⟩ ?_;replace ad:=(ad.gr a7).gr aw;refine lW ((ad.atN).nth (q:=0) rfl)<|Xh ⟨_,_,rfl⟩ ?_;replace ac:=ac.gr aw;refine lW ((ac.atN).nth (q:=0) rfl)<|go ?_;replace ag:=ag.keep (Zj.start col w0);replace ah:=ah.keep (Zj.start col w0);replace aa:=((aa.grow bg).grow a7).grow aw;refine Zq hm (fun hb hm=>?_) fun hb hm=>go ?_
 ·refine Zy<|Yv (col:=ai) [(0,1),(1,0),(2,1),(3,0),(4,1),(5,0),(6,3),(7,3),(8,2)] (by kernel_rfl) (by kernel_rfl)<|xF ⟨_,_,rfl⟩ ?_;refine xW (fun _ hC=>((ad.atN).nth (q:=0) rfl).gr (hC.bl ai)) ?_;refine xF ⟨_,_,rfl⟩ ?_;refine xW (fun _ hC=>((ad.atN).nth (q:=1) rfl).gr (hC.bl ai)) ?_;refine xF ⟨_,_,rfl⟩ ?_;refine xW (fun _ hC=>((ac.atN).nth (q:=1) rfl).gr (hC.bl ai)) ?_;refine xe rfl rfl ?_;intro b9 hC0;have hC:=hC0.bl ai;obtain ⟨ca,bi,hm⟩:=bZ hm;replace aa:=aa.grow hC;refine Zh (Zyw 4 bi (ag.ks aa) (ah.ks aa)) ?_;rintro _ cb ⟨aj,cc,cd,rfl,ax,ay⟩;refine ⟨_,rfl,?_⟩;refine Zk<|Xg aj hC0 ax<|xe rfl rfl ?_;intro bj hC0;replace ab:=(ab.gr hC).gr ax;have hC:=hC0.bl aj;obtain ⟨ce,bk,hm⟩:=bZ hm;replace ay:=ay.gr hC;refine Zh (Qu 5 bk (ay.toSlF (Zl.int .u32))) ?_;rintro _ cf ⟨bm,cg,ch,rfl,af,ae⟩;refine ⟨_,rfl,?_⟩;replace ae:=ae.thaw (Zv .u32) af ((Fz.refl (col:=aj)).froz 4) (by decide);replace af:=af.thawR (col:=aj);generalize Z4 bj.heap.size aj bm=aq at *;refine Zk<|Xg aq hC0 af<|xe rfl rfl ?_;intro ci hC0;replace aa:=((aa.grow ax).grow hC).grow af;replace ab:=(ab.gr hC).gr af;have hC:=hC0.bl aq;replace ab:=ab.gr hC;refine Zw ab ?_;intro cj a8 bn az;refine Zk<|xk aq<|Yn ?_;replace ae:=(ae.gr hC).kp a8;replace aa:=(aa.grow hC).kp a8 bn;intro ck hC;replace hC:=hC.bl aq;refine Ys ?_;cases hm;replace ae:=ae.gr hC;replace az:=az.gr hC;replace aa:=aa.grow hC;exact ⟨rfl,_,ra az.atN,_,_,_,rfl,aa.fin (cm [(5,c1)]),aa.fo ae⟩
 refine Xc ad<|Xc ac ?_;obtain ⟨ar,bo,hm⟩:=bZ hm;refine Zh (Zqp 6 bo (ag.ks aa) (ah.ks aa)) ?_;rintro _ bp ⟨a0,a9,ba,rfl,au,bq⟩;refine ⟨_,rfl,?_⟩;refine lM (.tuple #[.slice a9 ar.1.length ba,.bool ar.2])<|lV (.slice a9 ar.1.length ba) (Xl rfl rfl)<|lV (.bool ar.2) (Xl rfl rfl)<|go ?_;replace ad:=ad.gr au;replace ac:=ac.gr au;replace ab:=ab.gr au;replace aa:=aa.grow au;refine Zq hm (fun hb hm=>go ?_) fun hb hm=>go ?_
 ·refine Xc ad<|Wa rfl ?_;obtain ⟨cl,br,hm⟩:=bZ hm;refine Zh (Qu 7 br (bq.toSlF (Zl.int .u32))) ?_;rintro _ cn ⟨bs,co,cp,rfl,ak,al⟩;refine ⟨_,rfl,?_⟩;replace al:=al.thaw (Zv .u32) ak ((Fz.refl (col:=a0)).froz 6) (by decide);replace ak:=ak.thawR (col:=a0);generalize Z4 bp.heap.size a0 bs=cq at *;replace ab:=ab.gr ak;refine Zw ab ?_;intro cr bb bt bu;refine go ?_;cases hm;replace aa:=(aa.grow ak).kp bb bt;replace al:=al.kp bb;exact ⟨rfl,_,ra bu.atN,_,_,_,rfl,aa.fin (cm [(7,c1)]),aa.fo al⟩
 refine Xc ac<|Xc ad ?_;obtain ⟨av,bv,hm⟩:=bZ hm;refine Zh (Zqp 8 bv (ah.ks aa) (ag.ks aa)) ?_;rintro _ bw ⟨a1,bc,bd,rfl,a2,bx⟩;refine ⟨_,rfl,?_⟩;refine lM (.tuple #[.slice bc av.1.length bd,.bool av.2])<|lV (.slice bc av.1.length bd) (Xl rfl rfl)<|lV (.bool av.2) (Xl rfl rfl)<|go ?_;refine Xh ⟨_,_,rfl⟩ ?_;replace ac:=ac.gr a2;refine lW ((ac.atN).nth (q:=0) rfl)<|Wa rfl ?_;obtain ⟨cs,bz,hm⟩:=bZ hm;refine Zh (Qu 9 bz (bx.toSlF (Zl.int .u32))) ?_;rintro _ ct ⟨b0,cu,cv,rfl,am,an⟩;refine ⟨_,rfl,?_⟩;replace an:=an.thaw (Zv .u32) am ((Fz.refl (col:=a1)).froz 8) (by decide);replace am:=am.thawR (col:=a1);generalize Z4 bw.heap.size a1 b0=cw at *;replace ab:=(ab.gr a2).gr am;refine Zw ab ?_;intro cx be b1 b2;refine go ?_;cases hm;replace aa:=((aa.grow a2).grow am).kp be b1;replace an:=an.kp be;exact ⟨rfl,_,ra b2.atN,_,_,_,rfl,aa.fin (cm [(9,c1)]),aa.fo an⟩
def Zkc (N:Nat) (aa:R4):Option R4:=
  (Tk N aa.1 aa.2).bind fun ab=>some (ab.1,ab.2)
theorem Zz8 {N ag:Nat} {ah:Option Addr} {col:Zf} {w0:World} {ab r:R4} (c1:Nat) (hm:Zkc N ab=some r) (ad:Sl (Za.int .u32) col w0 ah ag ab.2):
    Calls Tryz.prog 261 #[(.agg #[.bool ab.1,.slice ah ab.2.length ag])] w0 (fun e w'=>∃ (col':Zf) (ra1:Option Addr) (rc2:Nat),e= .returned ((.agg #[.bool r.1,.slice ra1 r.2.length rc2]))∧Zg col w0 col' w'∧Zc (Za.int .u32) 79 c1 col' w' ra1 rc2 r.2):=by
 refine X2 (m:=8) func261 rfl rfl rfl ?_;rw [Zkc.eq_1] at hm;have aa:=St.start col w0;refine go ?_;refine Xd (col:=(Zi col)) 1 rfl ?_;intro aq ar al am ac;refine Xf (col:=al) #[.bool false,.slice none (([]:List Int).length) 0] 2 zeroValue45 ?_;intro au av aw ai ae;refine go ?_;refine Xh ⟨_,_,rfl⟩ ?_;replace ac:=ac.gr ai;refine lW ((ac.atN).nth (q:=0) rfl)<|Xc ac ?_;obtain ⟨ax,an,hm⟩:=bZ hm;replace ad:=ad.keep (Zj.start col w0);replace aa:=(aa.grow am).grow ai;refine Zh (Qu 3 an (ad.ks aa)) ?_;rintro _ ay ⟨az,a0,a1,rfl,aj,af⟩;refine ⟨_,rfl,?_⟩;replace ae:=ae.gr aj;refine Zw ae ?_;intro a2 ak ao ap;refine go ?_;cases hm;replace aa:=(aa.grow aj).kp ak ao;replace af:=af.kp ak;exact ⟨rfl,_,ra ap.atN,_,_,_,rfl,aa.fin (cm [(3,c1)]),aa.fo af⟩
def Zat (N:Nat) (ae:Bool) (aa:List Int) (ab:List Int):Option R1:=
  (Zjh N aa ab).bind fun ac=>(Zcd N aa ac).bind fun af=>(Zcd N ab ac).bind fun ag=>(Zkc N (ae,af.1)).bind fun ad=>some ((ad.1,ad.2),ag.1)
theorem Ziq {N ay az:Nat} {a1 a2:Option Addr} {col:Zf} {w0:World} {ak:Bool} {al am:R2} {r:R1} (c1 c2:Nat) (hm:Zat N ak al am=some r) (h1:Sl (Za.int .u32) col w0 a1 ay al) (h2:Sl (Za.int .u32) col w0 a2 az am):
    Calls Tryz.prog 189 #[.bool ak,.slice a1 al.length ay,.slice a2 am.length az] w0 (fun e w'=>∃ (col':Zf) (ra1:Option Addr) (rc2:Nat) (ra4:Option Addr) (rc5:Nat),e= .returned ((.agg #[.bool r.1.1,.slice ra1 r.1.2.length rc2,.slice ra4 r.2.length rc5]))∧Zg col w0 col' w'∧Zc (Za.int .u32) 79 c1 col' w' ra1 rc2 r.1.2∧Zc (Za.int .u32) 79 c2 col' w' ra4 rc5 r.2):=by
 refine X2 (m:=37) func189 rfl rfl rfl ?_;rw [Zat.eq_1] at hm;have aa:=St.start col w0;refine go ?_;refine Xf (col:=(Zi col)) #[.bool false,.slice none (([]:List Int).length) 0,.slice none (([]:List Int).length) 0] 1 zeroValue47 ?_;intro bo bp bq a8 an;refine go ?_;obtain ⟨br,a9,hm⟩:=bZ hm;replace h1:=h1.keep (Zj.start col w0);replace h2:=h2.keep (Zj.start col w0);replace aa:=aa.grow a8;refine Zh (Zyx 2 a9 (h1.ks aa) (h2.ks aa)) ?_;rintro _ ba ⟨ao,bs,bt,rfl,a0,aj⟩;refine ⟨_,rfl,go ?_⟩;obtain ⟨ab,bb,hm⟩:=bZ hm;replace aa:=aa.grow a0;refine Zh (Zk9 3 4 bb ((h1.ks aa).froz 2) (aj.toSlF (Zl.int .u32))) ?_;rintro _ bc ⟨bd,ap,aq,a3,a4,rfl,ad,ag,bu⟩;refine ⟨_,rfl,?_⟩;replace ag:=ag.thaw (Zv .u32) ad ((Fz.refl (col:=ao)).froz 2) (by decide);replace ad:=ad.thawR (col:=ao);generalize Z4 ba.heap.size ao bd=ar at *;refine lM (.tuple #[.slice ap ab.1.length aq,.slice a3 ab.2.1.length a4,.int .i64 ab.2.2])<|lV (.slice ap ab.1.length aq) (Xl rfl rfl)<|lV (.slice a3 ab.2.1.length a4) (Xl rfl rfl)<|lV (.int .i64 ab.2.2) (Xl rfl rfl)<|go ?_;obtain ⟨ac,be,hm⟩:=bZ hm;replace aj:=aj.gr ad;replace aa:=aa.grow ad;refine Zh (Zk9 5 6 be ((h2.ks aa).froz 2) (aj.toSlF (Zl.int .u32))) ?_;rintro _ bf ⟨bg,au,av,a5,a6,rfl,ae,ah,bv⟩;refine ⟨_,rfl,?_⟩;replace ah:=ah.thaw (Zv .u32) ae ((Fz.refl (col:=ar)).froz 2) (by decide);replace ae:=ae.thawR (col:=ar);generalize Z4 bc.heap.size ar bg=aw at *;refine lM (.tuple #[.slice au ac.1.length av,.slice a5 ac.2.1.length a6,.int .i64 ac.2.2])<|lV (.slice au ac.1.length av) (Xl rfl rfl)<|lV (.slice a5 ac.2.1.length a6) (Xl rfl rfl)<|lV (.int .i64 ac.2.2) (Xl rfl rfl)<|go ?_;refine lV (.agg #[.bool ak,.slice ap ab.1.length aq]) (Yc (l:=[_,_]) (qs:=[(0,1),(1,1)]) underlying45 zeroValue45 ⟨rfl,sizeOf4,rfl,sizeOf43,trivial⟩ rfl) ?_;obtain ⟨a7,bh,hm⟩:=bZ hm;replace ag:=ag.gr ae;refine Zh (Zz8 7 bh (ag.toSlF (Zl.int .u32))) ?_;rintro _ bw ⟨bi,bj,bk,rfl,af,ai⟩;refine ⟨_,rfl,?_⟩;replace ai:=ai.thaw (Zv .u32) af ((Fz.refl (col:=aw)).froz 3) (by decide);replace af:=af.thawR (col:=aw);generalize Z4 bf.heap.size aw bi=bx at *
 refine Wa rfl<|lV (.agg #[.bool a7.1,.slice bj a7.2.length bk,.slice au ac.1.length av]) (Yc (l:=[_,_]) (qs:=[(0,2),(2,1)]) underlying47 zeroValue47 ⟨rfl,sizeOf45,rfl,sizeOf43,trivial⟩ rfl) ?_;replace an:=(((an.gr a0).gr ad).gr ae).gr af;refine Zw an ?_;intro bz ax bm bn;refine go ?_;cases hm;replace aa:=((aa.grow ae).grow af).kp ax bm;replace ah:=(ah.gr af).kp ax;replace ai:=ai.kp ax;exact ⟨rfl,_,ra bn.atN,_,_,_,_,_,rfl,aa.fin (cm [(7,c1),(5,c2)]),aa.fo ai,aa.fo ah⟩
def Qa (N:Nat) (aa:R1) (ab:R1):Option R1:=
  (Vy N ((ab.1.1,ab.1.2),ab.2)).bind fun ag=>(Q5 N (aa.1.1,aa.1.2) ag).bind fun ad=>(Vy N ((aa.1.1,aa.1.2),aa.2)).bind fun ah=>(Q5 N (ab.1.1,ab.1.2) ah).bind fun ae=>(Zc2 N (ad.1,ad.2) (ae.1,ae.2)).bind fun af=>(Vy N ((aa.1.1,aa.1.2),aa.2)).bind fun ai=>(Vy N ((ab.1.1,ab.1.2),ab.2)).bind fun aj=>(Q7 N ai aj).bind fun ak=>(Zat N af.1 af.2 ak).bind fun ac=>some ((ac.1.1,ac.1.2),ac.2)
theorem Zk8 {N bo bz bp b0:Nat} {bq b1 br b2:Option Addr} {col:Zf} {w0:World} {aj ak r:R1} (c1 c2:Nat) (hm:Qa N aj ak=some r) (ba:Sl (Za.int .u32) col w0 bq bo aj.1.2) (bs:Sl (Za.int .u32) col w0 b1 bz aj.2) (bb:Sl (Za.int .u32) col w0 br bp ak.1.2) (bt:Sl (Za.int .u32) col w0 b2 b0 ak.2):
    Calls Tryz.prog 73 #[(.agg #[.bool aj.1.1,.slice bq aj.1.2.length bo,.slice b1 aj.2.length bz]),(.agg #[.bool ak.1.1,.slice br ak.1.2.length bp,.slice b2 ak.2.length b0])] w0 (fun e w'=>∃ (col':Zf) (ra1:Option Addr) (rc2:Nat) (ra4:Option Addr) (rc5:Nat),e= .returned ((.agg #[.bool r.1.1,.slice ra1 r.1.2.length rc2,.slice ra4 r.2.length rc5]))∧Zg col w0 col' w'∧Zc (Za.int .u32) 79 c1 col' w' ra1 rc2 r.1.2∧Zc (Za.int .u32) 79 c2 col' w' ra4 rc5 r.2):=by
 refine X2 (m:=27) func73 rfl rfl rfl ?_;rw [Qa.eq_1] at hm;have aa:=St.start col w0;refine go ?_;refine Xd (col:=(Zi col)) 1 rfl ?_;intro cd c9 ce cf ae;refine Xd (col:=ce) 2 rfl ?_;intro cg da ch ca af;refine Xf (col:=ch) #[.bool false,.slice none (([]:List Int).length) 0,.slice none (([]:List Int).length) 0] 3 zeroValue47 ?_;intro db a4 ay b3 ab;refine go ?_;have bu:=Zz.clip (fun _=>false) ay a4;refine Zbr (col:=ay) [(0,1),(1,0),(2,0),(5,1),(6,0),(7,0),(3,3),(4,3),(8,3),(9,3),(10,3),(11,4),(12,2)] (by kernel_rfl) (by kernel_rfl) ⟨fun h=>absurd h (by decide),fun h=>absurd h (by decide),fun h=>absurd h (by decide),fun h=>absurd h (by decide),fun h=>absurd h (by decide),fun h=>absurd h (by decide),fun h=>absurd h (by decide),fun h=>absurd h (by decide),fun h=>absurd h (by decide),fun h=>absurd h (by decide),fun h=>absurd h (by decide),fun _=>⟨_,_,_,rfl,Ve zeroValue45⟩,fun h=>absurd h (by decide),trivial⟩<|X5 (v:=(.pointer ((some (⟨cd,0,none⟩:Addr)).map (·.add 0)))) rfl rfl (fun _=>Ux (sz:=2) (off:=0) underlying47 rfl sizeOf45 (by decide) rfl rfl ⟨_,_,rfl⟩) ?_;replace ae:=((ae.gr ca).gr b3).kpp bu;refine Y9 (v:=(.agg #[.bool aj.1.1,.slice bq aj.1.2.length bo])) rfl rfl (fun _ hC=>Xn isAgg45 sizeOf45 rfl rfl (((ae.atN).part 0 2 _ rfl).gr (hC.bl (Ze a4 ay)))) ?_;replace af:=(af.gr b3).kpp bu;refine Y9 (v:=(.agg #[.bool ak.1.1,.slice br ak.1.2.length bp,.slice b2 ak.2.length b0])) rfl rfl (fun _ hC=>Xn isAgg47 sizeOf47 rfl rfl (af.atN.gr (hC.bl (Ze a4 ay)))) ?_;refine X5 (v:=(.pointer ((some (⟨cg,0,none⟩:Addr)).map (·.add 0)))) rfl rfl (fun _=>Ux (sz:=2) (off:=0) underlying47 rfl sizeOf45 (by decide) rfl rfl ⟨_,_,rfl⟩) ?_;refine Y9 (v:=(.agg #[.bool ak.1.1,.slice br ak.1.2.length bp])) rfl rfl (fun _ hC=>Xn isAgg45 sizeOf45 rfl rfl (((af.atN).part 0 2 _ rfl).gr (hC.bl (Ze a4 ay)))) ?_;refine Y9 (v:=(.agg #[.bool aj.1.1,.slice bq aj.1.2.length bo,.slice b1 aj.2.length bz])) rfl rfl (fun _ hC=>Xn isAgg47 sizeOf47 rfl rfl (ae.atN.gr (hC.bl (Ze a4 ay)))) ?_;refine Ym rfl rfl ?_;intro dc hC0;have hC:=hC0.bl (Ze a4 ay);obtain ⟨dd,ci,hm⟩:=bZ hm;replace bb:=bb.keep (Zj.start col w0);replace bt:=bt.keep (Zj.start col w0);replace aa:=((((aa.grow cf).grow ca).grow b3).kpp bu).grow hC;refine Zh (Te 4 ci (bb.ks aa) (bt.ks aa)) ?_;rintro _ ao ⟨au,de,df,rfl,az,b4⟩;refine ⟨_,rfl,?_⟩
 refine Zk ?_;refine ⟨fun w'=>Zg (Ze ao au) ao (Ze ao au) w',fun g=>(Ze ao au) g=497,Zg.refl _ _,Yk,fun _=>⟨fun _ h=>Wm hC0 az h,fun b hb=>az.below.block b hb,fun g x1 x2=>Wr az g x1 (by first | exact x2 | (simp only [Xk,x2];rfl) | (simp only [Xk,Xz,x2];rfl))⟩,?_⟩;have bc:=Zz.clip (fun _=>false) au ao;refine Ym rfl rfl ?_;intro cj hC0;replace ab:=(((ab.kpp bu).gr hC).gr az).kpp bc;replace ae:=((ae.gr hC).gr az).kpp bc;replace af:=((af.gr hC).gr az).kpp bc;have hC:=hC0.bl (Ze ao au);obtain ⟨dg,ck,hm⟩:=bZ hm;replace ba:=ba.keep (Zj.start col w0);replace aa:=((aa.grow az).kpp bc).grow hC;replace b4:=(b4.kpp bc).gr hC;refine Zh (Zfk 5 ck ((ba.ks aa).froz 4) (b4.toSlF (Zl.int .u32))) ?_;rintro _ a5 ⟨cl,dh,di,rfl,am,ap⟩;refine ⟨_,rfl,?_⟩;replace bs:=bs.keep (Zj.start col w0);replace ap:=ap.thaw (Zv .u32) am ((Fz.refl (col:=(Ze ao au))).froz 4) (by decide);replace am:=am.thawR (col:=(Ze ao au));generalize Z4 cj.heap.size (Ze ao au) cl=bd at *;refine Zk ?_;refine ⟨fun w'=>Zg (Ze a5 bd) a5 (Ze a5 bd) w',fun g=>(Ze a5 bd) g=497,Zg.refl _ _,Yk,fun _=>⟨fun _ h=>Wm hC0 am h,fun b hb=>am.below.block b hb,fun g x1 x2=>Wr am g x1 (by first | exact x2 | (simp only [Xk,x2];rfl) | (simp only [Xk,Xz,x2];rfl))⟩,?_⟩;have be:=Zz.clip (fun _=>false) bd a5;refine Ym rfl rfl ?_;intro dj hC0;replace ae:=((ae.gr hC).gr am).kpp be;replace af:=((af.gr hC).gr am).kpp be;replace ab:=((ab.gr hC).gr am).kpp be;have hC:=hC0.bl (Ze a5 bd);obtain ⟨dl,cn,hm⟩:=bZ hm;replace aa:=((aa.grow am).kpp be).grow hC;refine Zh (Te 6 cn (ba.ks aa) (bs.ks aa)) ?_;rintro _ aq ⟨av,dm,dn,rfl,aw,b5⟩;refine ⟨_,rfl,?_⟩;refine Zk ?_;refine ⟨fun w'=>Zg (Ze aq av) aq (Ze aq av) w',fun g=>(Ze aq av) g=497,Zg.refl _ _,Yk,fun _=>⟨fun _ h=>Wm hC0 aw h,fun b hb=>aw.below.block b hb,fun g x1 x2=>Wr aw g x1 (by first | exact x2 | (simp only [Xk,x2];rfl) | (simp only [Xk,Xz,x2];rfl))⟩,?_⟩;have a6:=Zz.clip (fun _=>false) av aq;refine Ym rfl rfl ?_;intro co hC0;replace ap:=(((ap.kpp be).gr hC).gr aw).kpp a6;replace ae:=((ae.gr hC).gr aw).kpp a6;replace af:=((af.gr hC).gr aw).kpp a6;replace ab:=((ab.gr hC).gr aw).kpp a6;have hC:=hC0.bl (Ze aq av)
 obtain ⟨dp,cp,hm⟩:=bZ hm;replace aa:=((aa.grow aw).kpp a6).grow hC;replace b5:=(b5.kpp a6).gr hC;refine Zh (Zfk 7 cp ((bb.ks aa).froz 6) (b5.toSlF (Zl.int .u32))) ?_;rintro _ ar ⟨cq,dq,dr,rfl,al,bf⟩;refine ⟨_,rfl,?_⟩;replace bf:=bf.thaw (Zv .u32) al ((Fz.refl (col:=(Ze aq av))).froz 6) (by decide);replace al:=al.thawR (col:=(Ze aq av));generalize Z4 co.heap.size (Ze aq av) cq=ax at *;refine Zk ?_;refine ⟨fun w'=>Zg (Ze ar ax) ar (Ze ar ax) w',fun g=>(Ze ar ax) g=497,Zg.refl _ _,Yk,fun _=>⟨fun _ h=>Wm hC0 al h,fun b hb=>al.below.block b hb,fun g x1 x2=>Wr al g x1 (by first | exact x2 | (simp only [Xk,x2];rfl) | (simp only [Xk,Xz,x2];rfl))⟩,?_⟩;have a7:=Zz.clip (fun _=>false) ax ar;refine Ym rfl rfl ?_;intro cr hC0;replace ap:=((ap.gr hC).gr al).kpp a7;replace ae:=((ae.gr hC).gr al).kpp a7;replace af:=((af.gr hC).gr al).kpp a7;replace ab:=((ab.gr hC).gr al).kpp a7;have hC:=hC0.bl (Ze ar ax);obtain ⟨ds,cs,hm⟩:=bZ hm;replace bf:=(bf.kpp a7).gr hC;replace ap:=ap.gr hC;refine Zh (Znw 8 cs ((ap.toSlF (Zl.int .u32)).froz 7) ((bf.froz 5 (by decide)).toSlF (Zl.int .u32))) ?_;rintro _ ac ⟨ct,dt,du,rfl,an,ag⟩;refine ⟨_,rfl,?_⟩;replace ag:=ag.thaw (Zv .u32) an (((Fz.refl (col:=(Ze ar ax))).froz 5).froz 7) (by decide);replace an:=an.thawR (col:=(Ze ar ax));generalize Z4 cr.heap.size (Ze ar ax) ct=ad at *;refine Zk ?_;refine ⟨fun w'=>Zg (Ze ac ad) ac (Ze ac ad) w',fun g=>(Ze ac ad) g=497,Zg.refl _ _,Yk,fun _=>⟨fun _ h=>Wm hC0 an h,fun b hb=>an.below.block b hb,fun g x1 x2=>Wr an g x1 (by first | exact x2 | (simp only [Xk,x2];rfl) | (simp only [Xk,Xz,x2];rfl))⟩,?_⟩;have bg:=Zz.clip (fun _=>false) ad ac;refine Qm rfl rfl (Ve zeroValue45) ?_;intro ah cu;refine Ym rfl rfl ?_;intro cv ⟨hC0,hZ0⟩;replace aa:=((((aa.grow al).kpp a7).grow hC).grow an).kpp bg;replace ae:=((ae.gr hC).gr an).kpp bg;replace af:=((af.gr hC).gr an).kpp bg;replace ab:=((ab.gr hC).gr an).kpp bg;have hC:=hC0.bl (Ze ac ad);obtain ⟨bh,b6⟩:=S4 (col:=(Ze ac ad)) 9 hZ0 cu;replace b6:Zn 45 9 (Zu ah 9 (Ze ac ad)) cv ah #[.bool false,.slice none (([]:List Int).length) 0]:=b6;refine Zw b6 ?_
 intro ai bi cw bv;refine Zk ?_;refine ⟨fun w'=>Zg (Ze ai (Zu ah 9 (Ze ac ad))) ai (Ze ai (Zu ah 9 (Ze ac ad))) w',fun g=>(Ze ai (Zu ah 9 (Ze ac ad))) g=497,Zg.refl _ _,Yk,fun h=>absurd h (by decide),?_⟩;have a8:=Zz.clip (fun _=>false) (Zu ah 9 (Ze ac ad)) ai;refine Zbs ?_;replace ag:=((((ag.kpp bg).gr hC).kpp bh).kp bi).kpp a8;replace ae:=(((ae.gr hC).kpp bh).kp bi).kpp a8;replace af:=(((af.gr hC).kpp bh).kp bi).kpp a8;replace ab:=(((ab.gr hC).kpp bh).kp bi).kpp a8;replace aa:=(((aa.grow hC).kpp bh).kp bi cw).kpp a8;intro cb hC;replace hC:Zg (Ze ai (Zu ah 9 (Ze ac ad))) ai (Ze ai (Zu ah 9 (Ze ac ad))) cb:=.of_below hC.below;refine Zy<|Yv (col:=(Ze ai (Zu ah 9 (Ze ac ad)))) [(0,1),(1,0),(2,1),(3,0),(4,0),(6,0),(5,3),(7,3),(8,3),(9,3),(10,2)] (by kernel_rfl) (by kernel_rfl)<|xF ⟨_,_,rfl⟩ ?_;replace bv:=(bv.kpp a8).gr hC;refine xW (fun _ hC=>((bv.atN).nth (q:=0) rfl).gr (hC.bl (Ze ai (Zu ah 9 (Ze ac ad))))) ?_;refine xF ⟨_,_,rfl⟩ ?_;refine xW (fun _ hC=>((bv.atN).nth (q:=1) rfl).gr (hC.bl (Ze ai (Zu ah 9 (Ze ac ad))))) ?_;replace ae:=ae.gr hC;refine xv rfl rfl (fun _ hC=>Xa isAgg47 sizeOf47 (ae.gr (hC.bl (Ze ai (Zu ah 9 (Ze ac ad)))))) ?_;replace af:=af.gr hC;refine xv rfl rfl (fun _ hC=>Xa isAgg47 sizeOf47 (af.gr (hC.bl (Ze ai (Zu ah 9 (Ze ac ad)))))) ?_;refine xe rfl rfl ?_;intro cx hC0;replace ag:=ag.gr hC;replace ab:=ab.gr hC;replace aa:=aa.grow hC;have hC:Zg (Ze ai (Zu ah 9 (Ze ac ad))) cb (Ze ai (Zu ah 9 (Ze ac ad))) cx:=.of_below hC0.below;obtain ⟨dv,cy,hm⟩:=bZ hm;replace aa:=aa.grow hC;refine Zh (Te 10 cy (ba.ks aa) (bs.ks aa)) ?_;rintro _ dw ⟨cc,dx,dy,rfl,bw,bj⟩;refine ⟨_,rfl,?_⟩;refine Zk<|Xg cc hC0 bw<|xe rfl rfl ?_;intro dz hC0;replace ag:=(ag.gr hC).gr bw;replace ab:=(ab.gr hC).gr bw;have hC:=hC0.bl cc;obtain ⟨d0,cz,hm⟩:=bZ hm;replace aa:=(aa.grow bw).grow hC;refine Zh (Te 11 cz (bb.ks aa) (bt.ks aa)) ?_;rintro _ d1 ⟨bk,d2,d3,rfl,bm,b7⟩;refine ⟨_,rfl,?_⟩;refine Zk<|Xg bk hC0 bm<|xe rfl rfl ?_;intro c0 hC0;replace ag:=(ag.gr hC).gr bm;replace bj:=(bj.gr hC).gr bm;replace ab:=(ab.gr hC).gr bm;have hC:=hC0.bl bk
 obtain ⟨d4,c3,hm⟩:=bZ hm;replace bj:=bj.gr hC;replace b7:=b7.gr hC;refine Zh (Zir 12 c3 ((bj.toSlF (Zl.int .u32)).froz 11) ((b7.froz 10 (by decide)).toSlF (Zl.int .u32))) ?_;rintro _ d5 ⟨c4,d6,d7,rfl,a0,bn⟩;refine ⟨_,rfl,?_⟩;replace bn:=bn.thaw (Zv .u32) a0 (((Fz.refl (col:=bk)).froz 10).froz 11) (by decide);replace a0:=a0.thawR (col:=bk);generalize Z4 c0.heap.size bk c4=a9 at *;refine Zk<|Xg a9 hC0 a0<|xe rfl rfl ?_;intro c5 hC0;replace aa:=((aa.grow bm).grow hC).grow a0;replace ag:=(ag.gr hC).gr a0;replace ab:=(ab.gr hC).gr a0;have hC:=hC0.bl a9;obtain ⟨d8,c6,hm⟩:=bZ hm;replace ag:=ag.gr hC;replace bn:=bn.gr hC;refine Zh (Ziq 13 14 c6 ((ag.toSlF (Zl.int .u32)).froz 12) ((bn.froz 8 (by decide)).toSlF (Zl.int .u32))) ?_;rintro _ d9 ⟨c7,ea,eb,ec,ed,rfl,a1,a2,a3⟩;refine ⟨_,rfl,?_⟩;replace a2:=a2.thaw (Zv .u32) a1 (((Fz.refl (col:=a9)).froz 8).froz 12) (by decide);replace a3:=a3.thaw (Zv .u32) a1 (((Fz.refl (col:=a9)).froz 8).froz 12) (by decide);replace a1:=a1.thawR (col:=a9);generalize Z4 c5.heap.size a9 c7=bx at *;refine Zk<|Xg bx hC0 a1<|xe rfl rfl ?_;intro ee hC0;replace ab:=(ab.gr hC).gr a1;replace aa:=(aa.grow hC).grow a1;have hC:=hC0.bl bx;replace ab:=ab.gr hC;refine Zw ab ?_;intro ef b8 c8 b9;refine Zk<|xk bx<|Yn ?_;replace a2:=(a2.gr hC).kp b8;replace a3:=(a3.gr hC).kp b8;replace aa:=(aa.grow hC).kp b8 c8;intro eg hC;replace hC:=hC.bl bx;refine Ys ?_;cases hm;replace a2:=a2.gr hC;replace a3:=a3.gr hC;replace b9:=b9.gr hC;replace aa:=aa.grow hC;exact ⟨rfl,_,ra b9.atN,_,_,_,_,_,rfl,aa.fin (cm [(13,c1),(14,c2)]),aa.fo a2,aa.fo a3⟩
def Ze4 (N:Nat) (aa:R4) (ab:R4):Option R4:=
  (Zc2 N (aa.1,aa.2) (!ab.1,ab.2)).bind fun ac=>some (ac.1,ac.2)
theorem Zq6 {N am ae:Nat} {an af:Option Addr} {col:Zf} {w0:World} {ac ab r:R4} (c1:Nat) (hm:Ze4 N ac ab=some r) (ag:Sl (Za.int .u32) col w0 an am ac.2) (ah:Sl (Za.int .u32) col w0 af ae ab.2):
    Calls Tryz.prog 231 #[(.agg #[.bool ac.1,.slice an ac.2.length am]),(.agg #[.bool ab.1,.slice af ab.2.length ae])] w0 (fun e w'=>∃ (col':Zf) (ra1:Option Addr) (rc2:Nat),e= .returned ((.agg #[.bool r.1,.slice ra1 r.2.length rc2]))∧Zg col w0 col' w'∧Zc (Za.int .u32) 79 c1 col' w' ra1 rc2 r.2):=by
 refine X2 (m:=13) func231 rfl rfl rfl ?_;rw [Ze4.eq_1] at hm;have aa:=St.start col w0;refine go ?_;refine Xd (col:=(Zi col)) 1 rfl ?_;intro az a0 ar au ai;refine Xd (col:=ar) 2 rfl ?_;intro a1 a2 av ao ad;refine Xf (col:=av) #[.bool false,.slice none (([]:List Int).length) 0] 3 zeroValue45 ?_;intro a3 a4 a5 aj ak;refine go ?_;replace ai:=(ai.gr ao).gr aj;refine lV _ (Xa isAgg45 sizeOf45 ai)<|Xh ⟨_,_,rfl⟩ ?_;replace ad:=ad.gr aj;refine lW ((ad.atN).nth (q:=0) rfl)<|go ?_;refine Xc ad<|lV (.agg #[.bool (!ab.1),.slice af ab.2.length ae]) (Yc (l:=[_,_]) (qs:=[(0,1),(1,1)]) underlying45 zeroValue45 ⟨rfl,sizeOf4,rfl,sizeOf43,trivial⟩ rfl) ?_;obtain ⟨a6,aw,hm⟩:=bZ hm;replace ag:=ag.keep (Zj.start col w0);replace ah:=ah.keep (Zj.start col w0);replace aa:=((aa.grow au).grow ao).grow aj;refine Zh (Znw 4 aw (ag.ks aa) (ah.ks aa)) ?_;rintro _ a7 ⟨a8,a9,ba,rfl,ap,al⟩;refine ⟨_,rfl,?_⟩;replace ak:=ak.gr ap;refine Zw ak ?_;intro bb aq ax ay;refine go ?_;cases hm;replace aa:=(aa.grow ap).kp aq ax;replace al:=al.kp aq;exact ⟨rfl,_,ra ay.atN,_,_,_,rfl,aa.fin (cm [(4,c1)]),aa.fo al⟩

end Go.Proofs.YtbmjpjhbankpoaaGreat
