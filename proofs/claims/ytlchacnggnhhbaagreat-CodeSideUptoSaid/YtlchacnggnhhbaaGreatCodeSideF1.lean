/-
  What functions of the program compute, as plain Lean functions (m_..), and proofs that they compute it (c_..). Printed by a program of the author; no conditions.
-/
import Derived.Test.YtlchacnggnhhbaaGreatCodeSideBFloat
import Derived.Test.YtlchacnggnhhbaaGreatProg
import Derived.Test.YtlchacnggnhhbaaGreatCodeSideBBrief
import Derived.Test.YtlchacnggnhhbaaGreatCodeSideBPiece
set_option linter.unusedVariables false
set_option maxRecDepth 100000
set_option maxHeartbeats 2000000
namespace Go.Proofs.YtlchacnggnhhbaaGreat
open Go Go.RowKit
open Go.IntKind (i8 i16 i32 i64 u8 u16 u32 u64)
open Go.Proofs.Tryz
abbrev R3:=Bool×List Int
abbrev R0:=R3×List Int
abbrev R4:=List ByteArray
abbrev R2:=List Int
abbrev Ra:=List R2
abbrev R7:=List R0
abbrev R1:=ByteArray×List ByteArray×(List R4)×Ra×(List R7)
abbrev R5:=Int×List Int
abbrev R6:=List Int×(R0×R0)×Bool
abbrev R8:=List Int×Int
abbrev R9:=List Int×List Int×Int
abbrev Rb:=Int×Int
abbrev Rc:=List (R0×R0)
abbrev Rd:=List Int×Int×Int
abbrev Re:=(R0×R0)×Int
abbrev Rf:=List Int×Bool
abbrev Rg:=List Int×R0
abbrev Rh:=ByteArray×Int
abbrev Ri:=List Rb

theorem Z4 {x:Int} (h:-9223372036854775808≤x∧x≤9223372036854775807):i64.wrap x=x:=by rw [IntKind.wrap_i64];omega
theorem Xi {α:Type} {c:Prop} [Decidable c] {x:Option α} (h:c):Z0 c x=x:=if_pos h
theorem Xk {α:Type} {xs:List α} {k:Nat} (h:k<xs.length):Zn xs (k:Int)=some xs[k]:=by rw [Zeu];exact List.getElem?_eq_getElem h
theorem wS {k:Nat} (h:k<9223372036854775807):i64.wrap ((k:Int)+1)=((k+1:Nat):Int):=by rw [Z4 (by omega)];rfl
theorem Zg5 {α:Type} [DecidableEq α]:∀ {l r:List α},l.Nodup→(∀ x ∈ l,x ∈ r)→l.length≤r.length
 | [],_,_,_=>Nat.zero_le _
 | x :: l,r,h,hs=>by
  have h1:=List.nodup_cons.1 h
  have hx:=hs x List.mem_cons_self
  have h2:=Zg5 (r:=r.erase x) h1.2 fun y hy=>(List.mem_erase_of_ne (fun e=>h1.1 (by rw [← e];exact hy))).2 (hs y (List.mem_cons_of_mem _ hy))
  rw [List.length_erase_of_mem hx] at h2
  have:=List.length_pos_of_mem hx
  rw [List.length_cons];omega
section
variable {K V:Type} [DecidableEq K]
theorem Zek (p:K×V) (es:List (K×V)) (k:K):Wl (p :: es) k=if p.1=k then some p.2 else Wl es k:=by
 rw [Wl,List.find?_cons]
 by_cases h:p.1=k
 ·rw [if_pos h,decide_eq_true h];rfl
 ·rw [if_neg h,decide_eq_false h];rfl
theorem Z1y (es:List (K×V)) (k k':K) (v:V) (h:Wl es k=none):Wl (es++[(k,v)]) k'=if k'=k then some v else Wl es k':=by
 induction es with
 | nil=>
  rw [List.nil_append,Zek]
  by_cases hk:k=k'
  ·subst hk;simp
  ·rw [if_neg hk,if_neg (Ne.symm hk)]
 | cons p es ih=>
  rw [Zek] at h
  split at h
  ·cases h
  ·rename_i hp
   rw [List.cons_append,Zek,Zek,ih h]
   by_cases h1:p.1=k'
   ·rw [if_pos h1,if_pos h1,if_neg (fun e=>hp (h1.trans e))]
   ·rw [if_neg h1,if_neg h1]
theorem Z1z (es:List (K×V)) (k k':K) (v:V):Wl (es.map fun p=>if p.1=k then (k,v) else p) k'=if k'=k then (Wl es k).map fun _=>v else Wl es k':=by
 induction es with
 | nil=>simp [Wl]
 | cons p es ih=>
  rw [List.map_cons,Zek,Zek,Zek,ih]
  by_cases h1:p.1=k
  ·rw [if_pos h1,if_pos h1]
   by_cases h2:k'=k
   ·subst h2;rw [if_pos rfl,if_pos rfl];rfl
   ·rw [if_neg (Ne.symm h2),if_neg h2,if_neg h2,if_neg (fun e=>h2 (e.symm.trans h1))]
  ·rw [if_neg h1,if_neg h1]
   by_cases h3:p.1=k'
   ·rw [if_pos h3,if_pos h3,if_neg (fun e=>h1 (h3.trans e))]
   ·rw [if_neg h3,if_neg h3]
theorem Zt2 (es:List (K×V)) (k k':K) (v:V):Wl (Sy es k v) k'=if k'=k then some v else Wl es k':=by
 rw [Sy]
 by_cases h:(Wl es k).isSome=true
 ·rw [if_pos h,Z1z]
  obtain ⟨u,hu⟩:=Option.isSome_iff_exists.1 h
  rw [hu];rfl
 ·rw [if_neg h]
  exact Z1y es k k' v (by simpa using h)
end
def Zc:List Int→Nat
 | []=>0
 | x :: l=>x.toNat+4294967296 * Zc l
def Zo (l:List Int):Prop:=∀ x ∈ l,0≤x∧x<4294967296
def Zf (n:Nat):List Int:=if n=0 then [] else ((n % 4294967296:Nat):Int) :: Zf (n / 4294967296)
termination_by n
decreasing_by omega
theorem Zo.nil:Zo []:=by simp [Zo]
theorem Zo.cons {x:Int} {l:List Int} (h:0≤x∧x<4294967296) (hl:Zo l):Zo (x :: l):=fun y hy=>by
 rcases List.mem_cons.1 hy with rfl | hy
 ·exact h
 ·exact hl y hy
theorem Zo.head {x:Int} {l:List Int} (h:Zo (x :: l)):0≤x∧x<4294967296:=h x List.mem_cons_self
theorem Zo.tail {x:Int} {l:List Int} (h:Zo (x :: l)):Zo l:=fun y hy=>h y (List.mem_cons_of_mem _ hy)
theorem Zo.app {a b:List Int} (ha:Zo a) (hb:Zo b):Zo (a++b):=fun y hy=>by
 rcases List.mem_append.1 hy with h | h
 ·exact ha y h
 ·exact hb y h
theorem Zo.take {a:List Int} (h:Zo a) (k:Nat):Zo (a.take k):=fun y hy=>h y (List.mem_of_mem_take hy)
theorem Zo.drop {a:List Int} (h:Zo a) (k:Nat):Zo (a.drop k):=fun y hy=>h y (List.mem_of_mem_drop hy)
theorem Zo.zeros (k:Nat):Zo (List.replicate k 0):=fun y hy=>by
 rw [List.eq_of_mem_replicate hy];decide
theorem Zo.set {a:List Int} (h:Zo a) (k:Nat) {v:Int} (hv:0≤v∧v<4294967296):Zo (a.set k v):=fun y hy=>by
 rcases List.mem_or_eq_of_mem_set hy with h1 | rfl
 ·exact h y h1
 ·exact hv
theorem Zo.get {a:List Int} (h:Zo a) {k:Nat} (hk:k<a.length):0≤a[k]∧a[k]<4294967296:=h _ (List.getElem_mem hk)
theorem Ys:Zc []=0:=rfl
theorem Y9 (x:Int) (l:List Int):Zc (x :: l)=x.toNat+4294967296 * Zc l:=rfl
theorem Sz (a b:List Int):Zc (a++b)=Zc a+4294967296 ^ a.length * Zc b:=by
 induction a with
 | nil=>simp [Zc]
 | cons x a ih=>
  rw [List.cons_append,Y9,Y9,ih,List.length_cons,Nat.pow_succ]
  grind
theorem S1 (k:Nat):Zc (List.replicate k 0)=0:=by
 induction k with
 | zero=>rfl
 | succ k ih=>rw [List.replicate_succ,Y9,ih];rfl
theorem S0 {l:List Int} (h:Zo l):Zc l<4294967296 ^ l.length:=by
 induction l with
 | nil=>simp [Zc]
 | cons x l ih=>
  have h1:=h.head
  have h2:=ih h.tail
  rw [Y9,List.length_cons,Nat.pow_succ]
  have h3:(Zc l+1) * 4294967296≤4294967296 ^ l.length * 4294967296:=Nat.mul_le_mul_right _ h2
  omega
theorem Z9 (n:Nat):Zc (Zf n)=n:=by
 induction n using Nat.strongRecOn with
 | ind n ih=>
  rw [Zf]
  split
  ·rename_i h;rw [h];rfl
  ·rename_i h
   rw [Y9,ih (n / 4294967296) (by omega)]
   omega
theorem W8:Zf 0=[]:=by rw [Zf,if_pos rfl]
theorem Zdh {n:Nat} (h:n≠0):Zf n=((n % 4294967296:Nat):Int) :: Zf (n / 4294967296):=by rw [Zf,if_neg h]
theorem T5:Zf 1=[1]:=by rw [Zdh (by decide)];simp [W8]
theorem Xg (n:Nat):Zo (Zf n):=by
 induction n using Nat.strongRecOn with
 | ind n ih=>
  rw [Zf]
  split
  ·exact .nil
  ·exact .cons (by omega) (ih (n / 4294967296) (by omega))
theorem Wt {k n:Nat}:(Zf n).length≤k↔n<4294967296 ^ k:=by
 induction k generalizing n with
 | zero=>
  by_cases h:n=0
  ·subst h;simp [W8]
  ·rw [Zdh h];simp;omega
 | succ k ih=>
  by_cases h:n=0
  ·subst h;simp [W8];exact Nat.pow_pos (by decide)
  ·rw [Zdh h,List.length_cons,Nat.add_le_add_iff_right,ih,Nat.pow_succ]
   omega
theorem Y2 {l:List Int} (h:Zo l):(Zf (Zc l)).length≤l.length:=Wt.2 (S0 h)
theorem Zff {n:Nat}:Zf n=[]↔n=0:=by
 by_cases h:n=0
 ·subst h;simp [W8]
 ·rw [Zdh h];simp [h]
theorem Zts {x:Int} {l:List Int} (h:0≤x∧x<4294967296) (h0:x=0→Zc l≠0):Zf (Zc (x :: l))=x :: Zf (Zc l):=by
 have hn:Zc (x :: l)≠0:=by
  rw [Y9]
  by_cases hx:x=0
  ·have:=h0 hx;omega
  ·omega
 rw [Zdh hn,Y9]
 congr 1
 ·omega
 ·congr 1;omega
theorem Z2h {a:List Int} {x:Int} (h:0<x):Zc (a++[x])≠0:=by
 rw [Sz,Y9,Ys]
 have:0<4294967296 ^ a.length * (x.toNat+4294967296 * 0):=Nat.mul_pos (Nat.pow_pos (by decide)) (by omega)
 omega
theorem Z1t {a:List Int} {x:Int} (h:Zo (a++[x])) (hx:x≠0):Zf (Zc (a++[x]))=a++[x]:=by
 induction a with
 | nil=>
  have:=h.head
  rw [List.nil_append,Zts this (fun e=>absurd e hx),Ys,W8]
 | cons y a ih=>
  have h1:0≤x∧x<4294967296:=h x (by simp)
  rw [List.cons_append,Zts h.head fun _=>Z2h (by omega),ih h.tail]
theorem Zuj (a:List Int):Zc (a++[0])=Zc a:=by rw [Sz];simp [Zc]
theorem Zfd {l:List Int} (h:0<l.length):l.take (l.length - 1)++[l[l.length - 1]]=l:=by
 have:=List.take_append_drop (l.length - 1) l
 rw [List.drop_eq_getElem_cons (by omega),List.drop_eq_nil_of_le (by omega)] at this
 exact this
theorem Zks {n:Nat} (h:0<(Zf n).length):(Zf n)[(Zf n).length - 1]≠0:=by
 induction n using Nat.strongRecOn with
 | ind n ih=>
  by_cases h0:n=0
  ·subst h0;simp [W8] at h
  ·have e:=Zdh h0
   by_cases h1:n / 4294967296=0
   ·have:Zf n=[((n % 4294967296:Nat):Int)]:=by rw [e,h1,W8]
    simp only [this,List.length_singleton,Nat.sub_self,List.getElem_cons_zero]
    omega
   ·have h2:0<(Zf (n / 4294967296)).length:=by
     rw [Zdh h1];simp
    have:=ih (n / 4294967296) (by omega) h2
    have e2:(Zf n).length - 1=(Zf (n / 4294967296)).length - 1+1:=by rw [e];simp;omega
    have e3:(Zf n)[(Zf n).length - 1]?=(Zf (n / 4294967296))[(Zf (n / 4294967296)).length - 1]?:=by
     rw [e2]
     conv=>lhs;rw [e]
     rw [List.getElem?_cons_succ]
    rw [List.getElem?_eq_getElem (by omega),List.getElem?_eq_getElem (by omega)] at e3
    rw [Option.some.inj e3]
    exact this
theorem Sa {l:List Int} {k:Nat} (hk:k<l.length) (v:Int):Zc (l.set k v)+4294967296 ^ k * (l[k]).toNat=Zc l+4294967296 ^ k * v.toNat:=by
 induction l generalizing k with
 | nil=>simp at hk
 | cons x l ih=>
  cases k with
  | zero=>simp only [List.set_cons_zero,Y9,List.getElem_cons_zero,Nat.pow_zero,Nat.one_mul];omega
  | succ k=>
   have h:=ih (k:=k) (by simpa using hk)
   simp only [List.set_cons_succ,Y9,List.getElem_cons_succ,Nat.pow_succ]
   grind
theorem Zo8 {l:List Int} {k:Nat} (hk:k<l.length):Zc (l.take (k+1))=Zc (l.take k)+4294967296 ^ k * (l[k]).toNat:=by
 rw [List.take_add_one,List.getElem?_eq_getElem hk,Sz,Option.toList_some,Y9,Ys,List.length_take,Nat.min_eq_left (by omega)]
 simp
theorem Un {l:List Int} {k:Nat} (hk:k<l.length):Zc (l.drop k)=(l[k]).toNat+4294967296 * Zc (l.drop (k+1)):=by
 rw [List.drop_eq_getElem_cons hk,Y9]
theorem Td (l:List Int) (k:Nat):Zc l=Zc (l.take k)+4294967296 ^ k * Zc (l.drop k):=by
 by_cases h:k≤l.length
 ·conv=>lhs;rw [← List.take_append_drop k l]
  rw [Sz,List.length_take,Nat.min_eq_left h]
 ·rw [List.take_of_length_le (by omega),List.drop_eq_nil_of_le (by omega)];simp [Zc]
theorem Ug {x:Int} (h:0≤x∧x<4294967296):u32.wrap x=x:=by rw [IntKind.wrap_u32];omega
theorem Xn {x:Int} (h:0≤x∧x<18446744073709551616):u64.wrap x=x:=by rw [IntKind.wrap_u64];omega
theorem Zep {x:Int}:Yc .u64 x 32=x / 4294967296:=by
 have:(min (32:Int).toNat u64.bits)=32:=by decide
 rw [Yc,this]
 exact Int.fdiv_eq_ediv_of_nonneg _ (by decide)
def Zbb (aa:List Int) (kk_L1:(List Int→Option R2)) (ab:Bool):Option R2:=
  if ab=true then (Z0 ((0:Int)≤(i64.wrap ((aa.length:Int) - 1))∧(i64.wrap ((aa.length:Int) - 1))≤(aa.length:Int)) (kk_L1 (aa.take (Int.toNat (i64.wrap ((aa.length:Int) - 1)))))) else (some aa)
def T9 (N:Nat):Nat→R2→Option R2
  | 0,_=>none
  | ab+1,aa=>if (decide (0<(aa.length:Int)))=true then ((Zn aa (i64.wrap ((aa.length:Int) - 1))).bind fun ac=>Zbb aa (T9 N ab) (decide (ac=0))) else (Zbb aa (T9 N ab) false)
termination_by structural x=>x
def Um (N:Nat) (aa:List Int):Option R2:=
  T9 N N aa
theorem Ty {N ap:Nat} {a0:Option Addr} {col:Zd} {w0:World} {ag r:R2} (hm:Um N ag=some r) (h0:Sl (Za.int .u32) col w0 a0 ap ag):
    Calls Tryz.prog 96 #[.slice a0 ag.length ap] w0 (fun e w'=>∃ (col':Zd) (ra1:Option Addr) (rc2:Nat),e= .returned ((.slice ra1 r.length rc2))∧Zg col w0 col' w'∧Sl (Za.int .u32) col' w' ra1 rc2 r):=by
 refine Xl 2 (m:=21) func96 rfl rfl rfl rfl rfl ?_;rw [Um.eq_1] at hm;have ab:=St.start col w0;refine go ?_;replace h0:=h0.keep (Zl.start col w0);refine Z5 [1000000] (fun n f ah=>∃ ai ad ae aa af,af=n∧T9 N af aa=some r∧St w0 (Zk col) ai ah∧Sl (Za.int .u32) ai ah ad ae aa∧[0].map f=[.slice ad aa.length ae]) N ⟨_,_,_,_,_,rfl,hm,ab,(h0.ks ab),rfl⟩ ?_;clear hm;intro n f ah hI;obtain ⟨ai,ad,ae,aa,af,hn,hm,ab,ac,hs⟩:=hI;subst hn;refine .lL [0] hs ?_
 cases af with
 | zero=>rw [T9.eq_1] at hm;cases hm
 | succ af=>
  rw [T9.eq_2] at hm;refine Zw<|Zw ?_;refine Wp.cutK [0,1000000] (fun f aj=>∃ ak al,Zbb aa (T9 N af) al=some r∧St w0 (Zk col) ak aj∧Sl (Za.int .u32) ak aj ad ae aa∧[14].map f=[.bool al]) ?_ ?_
  ·intro f aj hJ;obtain ⟨ak,al,hm,ab,ac,hs⟩:=hJ;rw [Zbb.eq_1] at hm;refine .lL [14] hs ?_;refine Zp hm (fun hb hm=>go ?_) fun hb hm=>go ?_
   ·obtain ⟨am,hm⟩:=Z2 hm;refine lv (v:=.slice ad (Int.toNat (i64.wrap ((aa.length:Int) - 1))) ae) rfl rfl (Zg9 underlying31 sizeOf77 rfl rfl am.1 (by have:=ac.1.2;have:=am.2;omega))<|.ld (d:=19) (v:=(.slice ad ((aa.take (Int.toNat (i64.wrap ((aa.length:Int) - 1)))).length) ae)) (congrArg (fun n=>Value.slice ad n ae) (List.length_take_of_le (show (Int.toNat (i64.wrap ((aa.length:Int) - 1)))≤aa.length by have:=am.2;omega)).symm) ?_;refine go ?_;exact ⟨af,by omega,rfl,⟨_,_,_,_,_,rfl,hm,ab,(ac.take (Int.toNat (i64.wrap ((aa.length:Int) - 1)))),rfl⟩⟩
   cases hm;exact ⟨rfl,_,_,_,rfl,ab.fin (cm []),ab.fs ac⟩
  refine go ?_;refine Xz hm (fun an hm=>go ?_) fun an hm=>go ?_
  ·obtain ⟨aq,ao,hm⟩:=bZ hm;refine lI ao (ac.addr ao) ?_;refine go ?_;refine lW (ac.atInt ao)<|go ?_;refine lV (.bool (decide (aq=0))) (Xm (congrArg Value.bool an) rfl)<|Zm ?_;exact ⟨rfl,_,_,hm,ab,ac,rfl⟩
  refine lV (.bool false) (Xd (congrArg Value.bool an) rfl)<|Zm ?_;exact ⟨rfl,_,_,hm,ab,ac,rfl⟩
def Zdx (N:Nat) (ab:List Int) (ac:List Int):Nat→Int→Option Int
  | 0,_=>none
  | af+1,aa=>if (decide (0≤aa))=true then ((Zn ab aa).bind fun ad=>(Zn ac aa).bind fun ae=>if (decide (ad<ae))=true then (some (-1)) else (if (decide (ae<ad))=true then (some 1) else ((Zdx N ab ac af) (i64.wrap (aa - 1))))) else (some 0)
termination_by structural x=>x
def Zck (N:Nat) (ac:List Int) (ad:List Int):Option Int:=
  (Um N ac).bind fun aa=>(Um N ad).bind fun ab=>if (!decide ((aa.length:Int)=(ab.length:Int)))=true then (if (decide ((aa.length:Int)<(ab.length:Int)))=true then (some (-1)) else (some 1)) else (Zdx N aa ab N (i64.wrap ((aa.length:Int) - 1)))
theorem Zka {N al am:Nat} {a0 a1:Option Addr} {col:Zd} {w0:World} {ai aj:R2} {r:Int} (hm:Zck N ai aj=some r) (h0:Sl (Za.int .u32) col w0 a0 al ai) (h1:Sl (Za.int .u32) col w0 a1 am aj):
    Calls Tryz.prog 86 #[.slice a0 ai.length al,.slice a1 aj.length am] w0 (fun e w'=>e= .returned ((.int .i64 r))∧Below w0.heap.size w0 w'):=by
 refine Xl 4 (m:=45) func86 rfl rfl rfl rfl rfl ?_;rw [Zck.eq_1] at hm;have aa:=St.start col w0;refine go ?_;obtain ⟨an,aq,hm⟩:=bZ hm;replace h0:=h0.keep (Zl.start col w0);refine Zi (Ty aq (h0.ks aa)) ?_;rintro _ az ⟨a2,ar,au,rfl,av,ab⟩;refine ⟨_,rfl,?_⟩;refine Wk rfl ?_;obtain ⟨ao,aw,hm⟩:=bZ hm;replace h1:=h1.keep (Zl.start col w0);replace aa:=aa.grow av;refine Zi (Ty aw (h1.ks aa)) ?_;rintro _ a3 ⟨a4,ax,ay,rfl,ap,ad⟩;refine ⟨_,rfl,go ?_⟩;replace ab:=ab.gr ap;replace aa:=aa.grow ap;refine Zp hm (fun hb hm=>go ?_) fun hb hm=>go ?_
 ·refine Zp hm (fun hb hm=>go ?_) fun hb hm=>go ?_
  ·cases hm;exact ⟨rfl,rfl,aa.below⟩
  cases hm;exact ⟨rfl,rfl,aa.below⟩
 refine Z5 [0,1,1000000] (fun n f ah=>∃ ac ak ae,ae=n∧Zdx N an ao ae ak=some r∧St w0 (Zk col) ac ah∧Sl (Za.int .u32) ac ah ar au an∧Sl (Za.int .u32) ac ah ax ay ao∧[5].map f=[.int .i64 ak]) N ⟨_,_,_,rfl,hm,aa,ab,ad,rfl⟩ ?_;clear hm;intro n f ah hI;obtain ⟨ac,ak,ae,hn,hm,aa,ab,ad,hs⟩:=hI;subst hn;refine .lL [5] hs ?_
 cases ae with
 | zero=>rw [Zdx.eq_1] at hm;cases hm
 | succ ae=>
  rw [Zdx.eq_2] at hm;refine go ?_;refine Zp hm (fun hb hm=>go ?_) fun hb hm=>go ?_
  ·refine Vy (col:=ac) (by kernel_rfl) (by kernel_rfl)<|go ?_;obtain ⟨a5,af,hm⟩:=bZ hm;refine qI af (ab.addr af)<|qW (fun _ hC=>(ab.gr (hC.bl ac)).atInt af) ?_;refine go ?_;obtain ⟨a6,ag,hm⟩:=bZ hm;refine qI ag (ad.addr ag)<|qW (fun _ hC=>(ad.gr (hC.bl ac)).atInt ag) ?_;refine go ?_;refine Wn ?_;intro a7 hC;replace hC:=hC.bl ac;replace ab:=ab.gr hC;replace ad:=ad.gr hC;replace aa:=aa.grow hC;refine Zp hm (fun hb hm=>go ?_) fun hb hm=>go ?_
   ·cases hm;exact ⟨rfl,rfl,aa.below⟩
   refine Vy (col:=ac) (by kernel_rfl) (by kernel_rfl)<|go ?_;refine qI af (ab.addr af)<|qW (fun _ hC=>(ab.gr (hC.bl ac)).atInt af) ?_;refine go ?_;refine qI ag (ad.addr ag)<|qW (fun _ hC=>(ad.gr (hC.bl ac)).atInt ag) ?_;refine go ?_;refine Wn ?_;intro a8 hC;replace hC:=hC.bl ac;replace ab:=ab.gr hC;replace ad:=ad.gr hC;replace aa:=aa.grow hC;refine Zp hm (fun hb hm=>go ?_) fun hb hm=>go ?_
   ·cases hm;exact ⟨rfl,rfl,aa.below⟩
   exact ⟨ae,by omega,rfl,⟨_,_,_,rfl,hm,aa,ab,ad,rfl⟩⟩
  cases hm;exact ⟨rfl,rfl,aa.below⟩
theorem Z0s:Wo Tryz.prog 77 1 4:=⟨Tryz.t77,_,rfl,rfl,rfl,rfl,rfl⟩
def Zcz (aa:List Int):Option R2:=
  Z0 ((([]:List Int).length+aa.length) * 4≤140737488355328∧([]:List Int).length+aa.length≤maxLen) (some (([]:List Int)++aa))
theorem Zke {ad:Nat} {a0:Option Addr} {col:Zd} {w0:World} {ac r:R2} (c1:Nat) (hm:Zcz ac=some r) (h0:Sl (Za.int .u32) col w0 a0 ad ac):
    Calls Tryz.prog 153 #[.slice a0 ac.length ad] w0 (fun e w'=>∃ (col':Zd) (ra1:Option Addr) (rc2:Nat),e= .returned ((.slice ra1 r.length rc2))∧Zg col w0 col' w'∧Zb (Za.int .u32) 77 c1 col' w' ra1 rc2 r):=by
 refine Xl 2 (m:=8) func153 rfl rfl rfl rfl rfl ?_;rw [Zcz.eq_1] at hm;have aa:=St.start col w0;refine go ?_;replace h0:=h0.keep (Zl.start col w0);rcases Zo5 h0 with ab | ab
 ·replace hm:some ([]:List Int)=some r:=by have h0:=ab.2;subst h0;simpa [Z0,maxLen] using hm
  refine lv (v:=.bool a0.isNone) rfl rfl (Zg7 underlying31 rfl)<|.ld (d:=4) (v:=.bool true) (congrArg Value.bool ab.1)<|Zm<|X9 rfl<|go ?_;cases hm;exact ⟨rfl,_,none,0,rfl,aa.fin (cm []),Zb.nil⟩
 refine lv (v:=.bool a0.isNone) rfl rfl (Zg7 underlying31 rfl)<|.ld (d:=4) (v:=.bool false) (congrArg Value.bool ab)<|Zm<|X4 rfl<|go ?_;refine Zko (col:=(Zk col)) (r:=(Za.int .u32)) 1 rfl underlying31 Z0s rfl ?_;intro aj ak al ae af;refine Wk rfl ?_;obtain ⟨ag,hm⟩:=Z2 hm;replace h0:=h0.gr ae;refine Vv af h0.srcC ag ?_;intro am an ao ap ah ai;refine go ?_;cases hm;replace aa:=(aa.grow ae).kpp ah;exact ⟨rfl,_,_,_,rfl,aa.fin (cm [(1,c1)]),aa.fo ai⟩
def Zk9 (aa:Int) (kk_L1:(List Int→Int→Int→Option R2)) (ab:List Int) (ac:Int):Option R2:=
  kk_L1 ab ac (i64.wrap (aa+1))
def Zgh (ab:List Int) (aa:Int) (kk_L1:(List Int→Int→Int→Option R2)) (ac:Int) (ad:Int):Option R2:=
  (Zn ab aa).bind fun ae=>(some (ab.set (Int.toNat aa) (u32.wrap (ae - (u32.wrap ac))))).bind fun af=>Zk9 aa kk_L1 af ad
def Zgg (aa:List Int) (ab:Int) (kk_L1:(List Int→Int→Int→Option R2)) (ac:Int):Option R2:=
  (Zn aa ab).bind fun ad=>if (decide ((u64.wrap ad)<ac))=true then (Zgh aa ab kk_L1 ac 1) else (Zgh aa ab kk_L1 ac 0)
def T8 (N:Nat) (ac:List Int) (ab:List Int):Nat→R2→Int→Int→Option R2
  | 0,_,_,_=>none
  | ae+1,ad,af,aa=>if (decide (aa<(ac.length:Int)))=true then (if (decide (aa<(ab.length:Int)))=true then ((Zn ab aa).bind fun ag=>Zgg ad aa (T8 N ac ab ae) (u64.wrap (af+(u64.wrap ag)))) else (Zgg ad aa (T8 N ac ab ae) af)) else (some ad)
termination_by structural x=>x
def Zk8 (N:Nat) (aa:List Int) (ab:List Int):Option R2:=
  T8 N aa ab N aa 0 0
theorem Zyz {N ae an:Nat} {a0 a1:Option Addr} {col:Zd} {w0:World} {ab ag r:R2} (qc0:Nat) (hm:Zk8 N ab ag=some r) (hd:S8 [qc0]=true) (h0:Zb (Za.int .u32) 77 qc0 col w0 a0 ae ab) (h1:Sl (Za.int .u32) col w0 a1 an ag):
    Calls Tryz.prog 158 #[.slice a0 ab.length ae,.slice a1 ag.length an] w0 (fun e w'=>∃ (col':Zd),e= .returned (.tuple #[])∧Zt (pS [qc0]) col w0 col' w'∧Zb (Za.int .u32) 77 qc0 col' w' a0 ae r∧r.length=ab.length):=by
 refine Ze6 (m:=40) (args:=[.slice a0 ab.length ae,.slice a1 ag.length an]) func158 rfl rfl rfl rfl ?_;rw [Zk8.eq_1] at hm;have aa:=St.startL (l:=[qc0]) rfl col w0;replace h0:=h0.startL (Zap hd 0 rfl) (Zao hd 0 rfl);refine go ?_;refine Z5 [1,8,1000000] (fun n f ao=>∃ ap ac aq ah af,af=n∧T8 N ab ag af ac aq ah=some r∧St w0 (Xv [qc0] col) ap ao∧Zb (Za.int .u32) 77 440 ap ao a0 ae ac∧ac.length=ab.length∧ac.length=ab.length∧[0,4,9].map f=[.slice a0 ac.length ae,.int .u64 aq,.int .i64 ah]) N ⟨_,_,0,0,_,rfl,hm,aa,h0,rfl,rfl,rfl⟩ ?_;clear hm;intro n f ao hI;obtain ⟨ap,ac,aq,ah,af,hn,hm,aa,ad,a8,a9,hs⟩:=hI;subst hn;refine .lL [0,4,9] hs ?_;replace h1:=h1.keep (Zl.startL [qc0] col w0)
 cases af with
 | zero=>rw [T8.eq_1] at hm;cases hm
 | succ af=>
  rw [T8.eq_2] at hm;refine go ?_;refine Zp hm (fun hb hm=>?_) fun hb hm=>go ?_
  ·refine Yd<|Zw ?_;refine Wp.cutK [1,8,9,1000000] (fun f ar=>∃ au ai av,Zk9 ah (T8 N ab ag af) ai av=some r∧St w0 (Xv [qc0] col) au ar∧Zb (Za.int .u32) 77 440 au ar a0 ae ai∧ai.length=ab.length∧ai.length=ab.length∧[0,4].map f=[.slice a0 ai.length ae,.int .u64 av]) ?_ ?_
   ·intro f ar hJ;obtain ⟨au,ai,av,hm,aa,ba,bb,bc,hs⟩:=hJ;rw [Zk9.eq_1] at hm;refine .lL [0,4] hs<|go ?_;exact ⟨af,by omega,rfl,⟨_,_,_,_,_,rfl,hm,aa,ba,bb,bc,rfl⟩⟩
   refine Zhe<|Zw<|Ww<|Ya rfl<|Yq rfl<|Zm<|Zw<|Ww<|Ya rfl<|Yq rfl<|Zm<|Zw ?_;refine Wp.cutK [0,1,5,8,9,1000000] (fun f aw=>∃ ax aj,Zgg ac ah (T8 N ab ag af) aj=some r∧St w0 (Xv [qc0] col) ax aw∧Zb (Za.int .u32) 77 440 ax aw a0 ae ac∧[6].map f=[.int .u64 aj]) ?_ ?_
   ·intro f aw hJ;obtain ⟨ax,aj,hm,aa,ad,hs⟩:=hJ;rw [Zgg.eq_1] at hm;refine .lL [6] hs<|Zw<|Ww<|Yq rfl<|Zm<|Zw ?_;refine Wp.cutK [0,1,5,6,8,9,1000000] (fun f ay=>∃ az a2,Zgh ac ah (T8 N ab ag af) aj a2=some r∧St w0 (Xv [qc0] col) az ay∧Zb (Za.int .u32) 77 440 az ay a0 ae ac∧[4].map f=[.int .u64 a2]) ?_ ?_
    ·intro f ay hJ;obtain ⟨az,a2,hm,aa,ad,hs⟩:=hJ;rw [Zgh.eq_1] at hm;refine .lL [4] hs<|go ?_;obtain ⟨a5,ak,hm⟩:=bZ hm;refine lI ak (ad.addr ak)<|lW (ad.atInt ak) ?_;refine go ?_;refine lI ak (ad.addr ak) ?_;obtain ⟨al,am,hm⟩:=bZ hm;have am:al=ac.set (Int.toNat ah) (u32.wrap (a5 - (u32.wrap aj))):=(Option.some.inj am).symm;refine Y0 (x1:=u32.wrap (a5 - (u32.wrap aj))) ad ak ?_;intro bf bd be a6;rw [← am] at a6;have a7:al.length=ab.length:=(show ac.length=al.length by rw [am,List.length_set]).symm.trans a8;refine .ld (d:=0) (v:=(.slice a0 al.length ae)) (congrArg (fun n=>Value.slice a0 n ae) (show ac.length=al.length by rw [am,List.length_set])) ?_;refine Zm ?_;replace aa:=aa.kp bd be;exact ⟨rfl,_,_,_,hm,aa,a6,a7,a7,rfl⟩
    refine go ?_;obtain ⟨bg,a3,hm⟩:=bZ hm;refine lI a3 (ad.addr a3)<|lW (ad.atInt a3) ?_;refine go ?_;refine Zp hm (fun hb hm=>go ?_) fun hb hm=>?_
    ·exact ⟨rfl,_,1,hm,aa,ad,rfl⟩
    refine Yd ?_;exact ⟨rfl,_,0,hm,aa,ad,rfl⟩
   refine go ?_;refine Zp hm (fun hb hm=>go ?_) fun hb hm=>?_
   ·obtain ⟨bh,a4,hm⟩:=bZ hm;refine lI a4 ((h1.ks aa).addr a4)<|lW ((h1.ks aa).atInt a4) ?_;refine go ?_;exact ⟨rfl,_,_,hm,aa,ad,rfl⟩
   refine Yd ?_;exact ⟨rfl,_,_,hm,aa,ad,rfl⟩
  cases hm;exact ⟨rfl,_,rfl,aa.finL rfl (cm [(440,qc0)]),aa.foL ad,a9⟩
def V5 (N:Nat) (ab:List Int):Option R2:=
  (Um N ab).bind fun aa=>if (decide ((aa.length:Int)=0))=true then (some ([]:List Int)) else ((Zcz aa).bind fun ac=>some ac)
theorem U6 {N ac:Nat} {a0:Option Addr} {col:Zd} {w0:World} {ab r:R2} (c1:Nat) (hm:V5 N ab=some r) (h0:Sl (Za.int .u32) col w0 a0 ac ab):
    Calls Tryz.prog 116 #[.slice a0 ab.length ac] w0 (fun e w'=>∃ (col':Zd) (ra1:Option Addr) (rc2:Nat),e= .returned ((.slice ra1 r.length rc2))∧Zg col w0 col' w'∧Zb (Za.int .u32) 77 c1 col' w' ra1 rc2 r):=by
 refine Xl 2 (m:=10) func116 rfl rfl rfl rfl rfl ?_;rw [V5.eq_1] at hm;have aa:=St.start col w0;refine go ?_;obtain ⟨aj,ad,hm⟩:=bZ hm;replace h0:=h0.keep (Zl.start col w0);refine Zi (Ty ad (h0.ks aa)) ?_;rintro _ ak ⟨al,am,an,rfl,ae,af⟩;refine ⟨_,rfl,go ?_⟩;replace aa:=aa.grow ae;refine Zp hm (fun hb hm=>go ?_) fun hb hm=>go ?_
 ·cases hm;exact ⟨rfl,_,none,0,rfl,aa.fin (cm []),Zb.nil⟩
 obtain ⟨ao,ag,hm⟩:=bZ hm;refine Zi (Zke 1 ag af) ?_;rintro _ ap ⟨aq,ar,au,rfl,ah,ai⟩;refine ⟨_,rfl,go ?_⟩;cases hm;replace aa:=aa.grow ah;exact ⟨rfl,_,_,_,rfl,aa.fin (cm [(1,c1)]),aa.fo ai⟩
def Zge (N:Nat) (aa:List Int) (ab:List Int):Option Rf:=
  (Zck N aa ab).bind fun ac=>if (decide (ac<0))=true then (some (([]:List Int),false)) else ((Um N aa).bind fun ad=>(Zcz ad).bind fun ae=>(Um N ab).bind fun af=>(Zk8 N ae af).bind fun ag=>(V5 N ag).bind fun ah=>some (ah,true))
theorem Zqz {N ah ai:Nat} {a0 a1:Option Addr} {col:Zd} {w0:World} {ab ac:R2} {r:Rf} (c1:Nat) (hm:Zge N ab ac=some r) (h0:Sl (Za.int .u32) col w0 a0 ah ab) (h1:Sl (Za.int .u32) col w0 a1 ai ac):
    Calls Tryz.prog 112 #[.slice a0 ab.length ah,.slice a1 ac.length ai] w0 (fun e w'=>∃ (col':Zd) (ra1:Option Addr) (rc2:Nat),e= .returned (.tuple #[.slice ra1 r.1.length rc2,.bool r.2])∧Zg col w0 col' w'∧Zb (Za.int .u32) 77 c1 col' w' ra1 rc2 r.1):=by
 refine Zbv 4 5 (m:=20) (args:=[.slice a0 ab.length ah,.slice a1 ac.length ai]) func112 rfl rfl rfl rfl rfl ?_;rw [Zge.eq_1] at hm;have aa:=St.start col w0;refine go ?_;obtain ⟨a9,aq,hm⟩:=bZ hm;replace h0:=h0.keep (Zl.start col w0);replace h1:=h1.keep (Zl.start col w0);refine Zi (Zka aq (h0.ks aa) (h1.ks aa)) ?_;rintro _ ar ⟨rfl,aj⟩;refine ⟨_,rfl,?_⟩;replace aj:Zg (Zk col) w0 (Zk col) ar:=.of_below aj;refine go ?_;replace aa:=aa.grow aj;refine Zp hm (fun hb hm=>go ?_) fun hb hm=>go ?_
 ·cases hm;exact ⟨rfl,_,none,0,rfl,aa.fin (cm []),Zb.nil⟩
 obtain ⟨ba,au,hm⟩:=bZ hm;refine Zi (Ty au (h0.ks aa)) ?_;rintro _ bb ⟨bc,bd,be,rfl,av,aw⟩;refine ⟨_,rfl,?_⟩;obtain ⟨an,ax,hm⟩:=bZ hm;refine Zi (Zke 1 ax aw) ?_;rintro _ bf ⟨bg,ad,ae,rfl,ay,ak⟩;refine ⟨_,rfl,go ?_⟩;obtain ⟨bh,az,hm⟩:=bZ hm;replace aa:=(aa.grow av).grow ay;refine Zi (Ty az (h1.ks aa)) ?_;rintro _ bi ⟨bj,bk,bm,rfl,ao,a2⟩;refine ⟨_,rfl,?_⟩;obtain ⟨af,a3,hm⟩:=bZ hm;replace ak:=ak.gr ao;refine Zi (Zyz 1 a3 rfl ak a2) ?_;rintro _ a4 ⟨al,rfl,a5,a6,ap⟩;refine ⟨_,rfl,?_⟩;refine .ld (d:=6) (v:=(.slice ad af.length ae)) (congrArg (fun n=>Value.slice ad n ae) (show an.length=af.length from ap.symm)) ?_;refine .ld (d:=14) (v:=(.slice ad af.length ae)) (congrArg (fun n=>Value.slice ad n ae) (show an.length=af.length from ap.symm)) ?_;refine go ?_;obtain ⟨bn,a7,hm⟩:=bZ hm;refine Zi (U6 2 a7 (a6.toSlF (Ze.int .u32))) ?_;rintro _ bo ⟨a8,bp,bq,rfl,ag,am⟩;refine ⟨_,rfl,?_⟩;replace am:=am.thaw (Zs .u32) ag ((Fz.refl (col:=al)).froz 1) (by decide);replace ag:=ag.thawR (col:=al);generalize Z1 a4.heap.size al a8=br at *;refine go ?_;cases hm;replace aa:=((aa.grow ao).kpp a5).grow ag;exact ⟨rfl,_,_,_,rfl,aa.fin (cm [(2,c1)]),aa.fo am⟩
def Zk3 (aa:Nat) (kk_L1:(Nat→R2→Int→Option R2)) (ab:List Int) (ac:Int):Option R2:=
  kk_L1 (aa+1) ab ac
def Zgc (aa:Nat) (ab:List Int) (kk_L1:(Nat→R2→Int→Option R2)) (ac:Int):Option R2:=
  (Zn ab (aa:Int)).bind fun ae=>(some (ab.set (Int.toNat (aa:Int)) (u32.wrap ac))).bind fun ad=>Zk3 aa kk_L1 ad (Yc .u64 ac 32)
def Su (N:Nat) (ac:List Int) (ad:List Int):List Int→Nat→R2→Int→Option R2
  | [],aa,ab,ae=>(Zn ab (ac.length:Int)).bind fun ak=>(some (ab.set (Int.toNat (ac.length:Int)) (u32.wrap ae))).bind fun ah=>(V5 N ah).bind fun ai=>some ai
  | af :: ag,aa,ab,ae=>if (decide ((aa:Int)<(ad.length:Int)))=true then ((Zn ad (aa:Int)).bind fun aj=>Zgc aa ab (Su N ac ad ag) (u64.wrap ((u64.wrap (ae+(u64.wrap af)))+(u64.wrap aj)))) else (Zgc aa ab (Su N ac ad ag) (u64.wrap (ae+(u64.wrap af))))
termination_by structural x=>x
def Zgb (N:Nat) (aa:List Int) (ab:List Int):Option R2:=
  Z0 ((Int.toNat (i64.wrap ((aa.length:Int)+1))) * 4≤281474976710656∧(Int.toNat (i64.wrap ((aa.length:Int)+1)))≤maxLen∧0≤(i64.wrap ((aa.length:Int)+1))) (Su N aa ab aa 0 (List.replicate (Int.toNat (i64.wrap ((aa.length:Int)+1))) (0:Int)) 0)
def Zid (N:Nat) (ac:List Int) (ad:List Int):Option R2:=
  (Um N ac).bind fun aa=>(Um N ad).bind fun ab=>if (decide ((aa.length:Int)<(ab.length:Int)))=true then (Zgb N ab aa) else (Zgb N aa ab)
theorem Zyv {N bp bq:Nat} {a0 a1:Option Addr} {col:Zd} {w0:World} {a9 ba r:R2} (c1:Nat) (hm:Zid N a9 ba=some r) (h0:Sl (Za.int .u32) col w0 a0 bp a9) (h1:Sl (Za.int .u32) col w0 a1 bq ba):
    Calls Tryz.prog 111 #[.slice a0 a9.length bp,.slice a1 ba.length bq] w0 (fun e w'=>∃ (col':Zd) (ra1:Option Addr) (rc2:Nat),e= .returned ((.slice ra1 r.length rc2))∧Zg col w0 col' w'∧Zb (Za.int .u32) 77 c1 col' w' ra1 rc2 r):=by
 refine Xl 4 (m:=62) func111 rfl rfl rfl rfl rfl ?_;rw [Zid.eq_1] at hm;have aa:=St.start col w0;refine go ?_;obtain ⟨ca,bw,hm⟩:=bZ hm;replace h0:=h0.keep (Zl.start col w0);refine Zi (Ty bw (h0.ks aa)) ?_;rintro _ cb ⟨cc,cd,ce,rfl,bx,a3⟩;refine ⟨_,rfl,?_⟩;refine Wk rfl ?_;obtain ⟨cf,bz,hm⟩:=bZ hm;replace h1:=h1.keep (Zl.start col w0);replace aa:=aa.grow bx;refine Zi (Ty bz (h1.ks aa)) ?_;rintro _ cg ⟨ch,ci,cj,rfl,br,bs⟩;refine ⟨_,rfl,?_⟩;refine T0 rfl<|T0 rfl<|Zm<|Zw ?_;replace a3:=a3.gr br;replace aa:=aa.grow br;refine Wp.cutK [1000000] (fun f aq=>∃ ar am an ab ao ap ae,Zgb N ab ae=some r∧St w0 (Zk col) ar aq∧Sl (Za.int .u32) ar aq am an ab∧Sl (Za.int .u32) ar aq ao ap ae∧[0,1].map f=[.slice am ab.length an,.slice ao ae.length ap]) ?_ ?_
 ·intro f aq hJ;obtain ⟨ar,am,an,ab,ao,ap,ae,hm,aa,ac,ad,hs⟩:=hJ;rw [Zgb.eq_1] at hm;refine .lL [0,1] hs<|go ?_;obtain ⟨a4,hm⟩:=Z2 hm;refine To (col:=ar) (w:=aq) (r:=(Za.int .u32)) (n:=(Int.toNat (i64.wrap ((ab.length:Int)+1)))) (x0:=0) 1 rfl underlying31 Tryz.t77 rfl rfl rfl rfl rfl (congrArg (Value.int _) (Int.toNat_of_nonneg a4.2.2).symm) (congrArg (Value.int _) (Int.toNat_of_nonneg a4.2.2).symm) a4.1 a4.2.1 (Se .u32 0) ?_;intro ck cl cn bb b0;refine go ?_;replace ac:=ac.gr bb;replace ad:=ad.gr bb;replace aa:=aa.grow bb;refine Z5 [0,1,24,25,1000000] (fun n f au=>∃ ah ag ai aj af av aw,n=aw.length∧ab.drop ag=aw∧Su N ab ae aw ag af av=some r∧St w0 (Zk col) ah au∧Sl (Za.int .u32) ah au am an ab∧Sl (Za.int .u32) ah au ao ap ae∧Zb (Za.int .u32) 77 1 ah au ai aj af∧[26,5,6].map f=[.int .i64 ag,.slice ai af.length aj,.int .u64 av]) ab.length ⟨_,0,_,_,_,0,_,rfl,rfl,hm,aa,ac,ad,b0,rfl⟩ ?_;clear hm;intro n f au hI;obtain ⟨ah,ag,ai,aj,af,av,aw,hn,hl,hm,aa,ac,ad,ak,hs⟩:=hI;subst hn;refine .lL [26,5,6] hs ?_
  cases aw with
  | nil=>
   have hk:¬ ((ag:Int)<(ab.length:Int)):=by have:=List.drop_eq_nil_iff.1 hl;omega
   have hkb:=decide_eq_false hk;rw [Su.eq_1] at hm;refine go ?_;refine X4 (congrArg Value.bool hkb)<|go ?_;obtain ⟨co,bc,hm⟩:=bZ hm;refine lI bc (ak.addr bc) ?_;obtain ⟨bd,a5,hm⟩:=bZ hm;have a5:bd=af.set (Int.toNat (ab.length:Int)) (u32.wrap av):=(Option.some.inj a5).symm;refine Y0 (x1:=u32.wrap av) ak bc ?_;intro b1 b2 b3 bt;rw [← a5] at bt;refine .ld (d:=5) (v:=(.slice ai bd.length aj)) (congrArg (fun n=>Value.slice ai n aj) (show af.length=bd.length by rw [a5,List.length_set])) ?_;refine go ?_;obtain ⟨cp,b4,hm⟩:=bZ hm;refine Zi (U6 2 b4 (bt.toSlF (Ze.int .u32))) ?_;rintro _ cq ⟨b5,cr,cs,rfl,a6,be⟩;refine ⟨_,rfl,?_⟩;replace be:=be.thaw (Zs .u32) a6 ((Fz.refl (col:=ah)).froz 1) (by decide);replace a6:=a6.thawR (col:=ah);generalize Z1 b1.heap.size ah b5=ct at *;refine go ?_;cases hm;replace aa:=(aa.kp b2 b3).grow a6;exact ⟨rfl,_,_,_,rfl,aa.fin (cm [(2,c1)]),aa.fo be⟩
  | cons bu bf=>
   obtain ⟨bg,b6,b7⟩:=Yg hl;have hk:(ag:Int)<(ab.length:Int):=by omega
   have hkb:=decide_eq_true hk;rw [Su.eq_2] at hm;refine go ?_;refine X9 (congrArg Value.bool hkb)<|Yd<|Zw ?_;refine Wp.cutK [0,1,24,25,26,1000000] (fun f ax=>∃ ay bh bi a7 bj,Zk3 ag (Su N ab ae bf) a7 bj=some r∧St w0 (Zk col) ay ax∧Sl (Za.int .u32) ay ax am an ab∧Sl (Za.int .u32) ay ax ao ap ae∧Zb (Za.int .u32) 77 1 ay ax bh bi a7∧[5,6].map f=[.slice bh a7.length bi,.int .u64 bj]) ?_ ?_
   ·intro f ax hJ;obtain ⟨ay,bh,bi,a7,bj,hm,aa,ac,ad,b8,hs⟩:=hJ;rw [Zk3.eq_1] at hm;refine .lL [5,6] hs<|go ?_;exact ⟨bf.length,by simp,rfl,⟨_,_,_,_,_,_,_,rfl,b6,hm,aa,ac,ad,b8,(Ym (congrArg (Value.int .i64) (Yk (Nat.lt_of_lt_of_le b7 ac.1.1))) rfl)⟩⟩
   refine go ?_;refine lI bg (ac.addr bg)<|lW (ac.atInt bg)<|Yq rfl<|Yq rfl<|Zm<|Zw<|Ww<|Ya rfl<|Ya rfl<|lV (.int .u64 (u64.wrap bu)) (Zjk bu ⟨_,underlying77⟩ underlying100 rfl)<|lV _ (Sd _ _ rfl rfl)<|Yq rfl<|Zm<|Zw ?_;refine Wp.cutK [0,1,24,25,26,5,7,1000000] (fun f az=>∃ a2 al,Zgc ag af (Su N ab ae bf) al=some r∧St w0 (Zk col) a2 az∧Sl (Za.int .u32) a2 az am an ab∧Sl (Za.int .u32) a2 az ao ap ae∧Zb (Za.int .u32) 77 1 a2 az ai aj af∧[6].map f=[.int .u64 al]) ?_ ?_
   ·intro f az hJ;obtain ⟨a2,al,hm,aa,ac,ad,ak,hs⟩:=hJ;rw [Zgc.eq_1] at hm;refine .lL [6] hs<|go ?_;obtain ⟨cu,bk,hm⟩:=bZ hm;refine lI bk (ak.addr bk) ?_;obtain ⟨bm,a8,hm⟩:=bZ hm;have a8:bm=af.set (Int.toNat (ag:Int)) (u32.wrap al):=(Option.some.inj a8).symm;refine Y0 (x1:=u32.wrap al) ak bk ?_;intro cv bn b9 bv;rw [← a8] at bv;refine .ld (d:=5) (v:=(.slice ai bm.length aj)) (congrArg (fun n=>Value.slice ai n aj) (show af.length=bm.length by rw [a8,List.length_set])) ?_;refine go ?_;refine lV (.int .u64 (Yc .u64 al 32)) (Tr al 32 rfl rfl (by decide))<|go ?_;replace ac:=ac.kp bn;replace ad:=ad.kp bn;replace aa:=aa.kp bn b9;exact ⟨rfl,_,_,_,_,_,hm,aa,ac,ad,bv,rfl⟩
   refine go ?_;refine Zp hm (fun hb hm=>go ?_) fun hb hm=>?_
   ·obtain ⟨cw,bo,hm⟩:=bZ hm;refine lI bo (ad.addr bo)<|lW (ad.atInt bo) ?_;refine go ?_;exact ⟨rfl,_,_,hm,aa,ac,ad,ak,rfl⟩
   refine Yd ?_;exact ⟨rfl,_,_,hm,aa,ac,ad,ak,rfl⟩
 refine go ?_;refine Zp hm (fun hb hm=>go ?_) fun hb hm=>?_
 ·exact ⟨rfl,_,_,_,_,_,_,_,hm,aa,bs,a3,rfl⟩
 refine Yd ?_;exact ⟨rfl,_,_,_,_,_,_,_,hm,aa,a3,bs,rfl⟩
def Zcn (ae:List Int) (aa:Nat) (kk_L1:(Nat→R2→Option R2)) (af:Int):List Int→Nat→R2→Int→Option R2
  | [],ac,ab,ad=>(Zn ab (i64.wrap ((aa:Int)+(ae.length:Int)))).bind fun al=>(some (ab.set (Int.toNat (i64.wrap ((aa:Int)+(ae.length:Int)))) (u32.wrap ad))).bind fun ai=>kk_L1 (aa+1) ai
  | ag :: aj,ac,ab,ad=>(Zn ab (i64.wrap ((aa:Int)+(ac:Int)))).bind fun ah=>(some (ab.set (Int.toNat (i64.wrap ((aa:Int)+(ac:Int)))) (u32.wrap (u64.wrap (ad+(u64.wrap ((u64.wrap ((u64.wrap af) * (u64.wrap ag)))+(u64.wrap ah)))))))).bind fun ak=>(Zcn ae aa kk_L1 af aj) (ac+1) ak (Yc .u64 (u64.wrap (ad+(u64.wrap ((u64.wrap ((u64.wrap af) * (u64.wrap ag)))+(u64.wrap ah))))) 32)
termination_by structural x=>x
def Zae (N:Nat) (aa:List Int):List Int→Nat→R2→Option R2
  | [],ac,ab=>(V5 N ab).bind fun ad=>some ad
  | ae :: af,ac,ab=>Zcn aa ac (Zae N aa af) ae aa 0 ab 0
termination_by structural x=>x
def Zad (N:Nat) (ac:List Int) (ad:List Int):Option R2:=
  (Um N ac).bind fun aa=>(Um N ad).bind fun ab=>Z0 ((Int.toNat (i64.wrap ((aa.length:Int)+(ab.length:Int)))) * 4≤281474976710656∧(Int.toNat (i64.wrap ((aa.length:Int)+(ab.length:Int))))≤maxLen∧0≤(i64.wrap ((aa.length:Int)+(ab.length:Int)))) (Zae N ab aa 0 (List.replicate (Int.toNat (i64.wrap ((aa.length:Int)+(ab.length:Int)))) (0:Int)))
theorem Zhp {N bt bu:Nat} {a0 a1:Option Addr} {col:Zd} {w0:World} {be bf r:R2} (c1:Nat) (hm:Zad N be bf=some r) (h0:Sl (Za.int .u32) col w0 a0 bt be) (h1:Sl (Za.int .u32) col w0 a1 bu bf):
    Calls Tryz.prog 62 #[.slice a0 be.length bt,.slice a1 bf.length bu] w0 (fun e w'=>∃ (col':Zd) (ra1:Option Addr) (rc2:Nat),e= .returned ((.slice ra1 r.length rc2))∧Zg col w0 col' w'∧Zb (Za.int .u32) 77 c1 col' w' ra1 rc2 r):=by
 refine Xl 4 (m:=71) func62 rfl rfl rfl rfl rfl ?_;rw [Zad.eq_1] at hm;have aa:=St.start col w0;refine go ?_;obtain ⟨ae,b1,hm⟩:=bZ hm;replace h0:=h0.keep (Zl.start col w0);refine Zi (Ty b1 (h0.ks aa)) ?_;rintro _ co ⟨cp,a4,a5,rfl,b2,ac⟩;refine ⟨_,rfl,?_⟩;refine Wk rfl ?_;obtain ⟨ab,b3,hm⟩:=bZ hm;replace h1:=h1.keep (Zl.start col w0);replace aa:=aa.grow b2;refine Zi (Ty b3 (h1.ks aa)) ?_;rintro _ b4 ⟨b5,au,av,rfl,bv,ad⟩;refine ⟨_,rfl,go ?_⟩;obtain ⟨a6,hm⟩:=Z2 hm;refine To (col:=b5) (w:=b4) (r:=(Za.int .u32)) (n:=(Int.toNat (i64.wrap ((ae.length:Int)+(ab.length:Int))))) (x0:=0) 1 rfl underlying31 Tryz.t77 rfl rfl rfl rfl rfl (congrArg (Value.int _) (Int.toNat_of_nonneg a6.2.2).symm) (congrArg (Value.int _) (Int.toNat_of_nonneg a6.2.2).symm) a6.1 a6.2.1 (Se .u32 0) ?_;intro b6 cq b7 bg b8;refine go ?_;replace ac:=(ac.gr bv).gr bg;replace aa:=(aa.grow bv).grow bg;replace ad:=ad.gr bg;refine Zqd (fun n f ap=>∃ (ah:Zd) (af:Nat) (a7:Option Addr) (a8:Nat) (aw:List Int) (ax:List Int),n=ax.length∧ae.drop af=ax∧Zae N ab ax af aw=some r∧St w0 (Zk col) ah ap∧Sl (Za.int .u32) ah ap au av ab∧Sl (Za.int .u32) ah ap a4 a5 ae∧Zb (Za.int .u32) 77 1 ah ap a7 a8 aw∧f 23=(.int .i64 af)∧f 1=(.slice au ab.length av)∧f 21=(.slice a4 ae.length a5)∧f 22=(.int .i64 ae.length)∧f 5=(.slice a7 aw.length a8)∧f 1000000=(enc [])) ae.length ⟨b7,0,b6,(Int.toNat (i64.wrap ((ae.length:Int)+(ab.length:Int)))),(List.replicate (Int.toNat (i64.wrap ((ae.length:Int)+(ab.length:Int)))) (0:Int)),ae,rfl,rfl,hm,aa,ad,ac,b8,rfl,rfl,rfl,rfl,rfl,rfl⟩ ?_;clear hm;intro n f ap hI;obtain ⟨ah,af,a7,a8,aw,ax,hn,hl,hm,aa,ad,ac,bw,bh,bi,bj,bk,bm,bn⟩:=hI;subst hn;refine .lD 23 bh<|.lD 1 bi<|.lD 21 bj<|.lD 22 bk<|.lD 5 bm<|.lD 1000000 bn ?_
 cases ax with
 | nil=>
  have hk:¬ ((af:Int)<(ae.length:Int)):=by have:=List.drop_eq_nil_iff.1 hl;omega
  have hkb:=decide_eq_false hk;rw [Zae.eq_1] at hm;refine go ?_;refine X4 (congrArg Value.bool hkb)<|go ?_;obtain ⟨cr,b9,hm⟩:=bZ hm;refine Zi (U6 2 b9 (bw.toSlF (Ze.int .u32))) ?_;rintro _ cs ⟨ca,ct,cu,rfl,a9,bo⟩;refine ⟨_,rfl,?_⟩;replace bo:=bo.thaw (Zs .u32) a9 ((Fz.refl (col:=ah)).froz 1) (by decide);replace a9:=a9.thawR (col:=ah);generalize Z1 ap.heap.size ah ca=cv at *;refine go ?_;cases hm;replace aa:=aa.grow a9;exact ⟨rfl,_,_,_,rfl,aa.fin (cm [(2,c1)]),aa.fo bo⟩
 | cons am bp=>
  obtain ⟨an,cb,cc⟩:=Yg hl;have hk:(af:Int)<(ae.length:Int):=by omega
  have hkb:=decide_eq_true hk;rw [Zae.eq_2] at hm;refine go ?_;refine X9 (congrArg Value.bool hkb)<|go ?_;refine lI an (ac.addr an)<|lW (ac.atInt an) ?_;refine go ?_;refine Zqd (fun n f ay=>∃ (ao:Zd) (ak:Nat) (ai:Option Addr) (aj:Nat) (al:List Int) (ag:Int) (az:List Int),n=az.length∧ab.drop ak=az∧Zcn ab af (Zae N ab bp) am az ak al ag=some r∧St w0 (Zk col) ao ay∧Sl (Za.int .u32) ao ay au av ab∧Sl (Za.int .u32) ao ay a4 a5 ae∧Zb (Za.int .u32) 77 1 ao ay ai aj al∧f 30=(.int .i64 ak)∧f 1=(.slice au ab.length av)∧f 21=(.slice a4 ae.length a5)∧f 22=(.int .i64 ae.length)∧f 23=(.int .i64 af)∧f 28=(.slice au ab.length av)∧f 29=(.int .i64 ab.length)∧f 5=(.slice ai al.length aj)∧f 6=(.int .i64 af)∧f 7=(.int .u32 am)∧f 8=(.int .u64 ag)∧f 1000000=(enc [])) ab.length ⟨ah,0,a7,a8,aw,0,ab,rfl,rfl,hm,aa,ad,ac,bw,rfl,rfl,rfl,rfl,rfl,rfl,rfl,rfl,rfl,rfl,rfl,rfl⟩ ?_;clear hm;intro n f ay hI;obtain ⟨ao,ak,ai,aj,al,ag,az,hn,hl,hm,aa,ad,ac,aq,cd,bi,bj,bk,bh,ce,cf,bm,cg,ch,ci,bn⟩:=hI;subst hn;refine .lD 30 cd<|.lD 1 bi<|.lD 21 bj<|.lD 22 bk<|.lD 23 bh<|.lD 28 ce<|.lD 29 cf<|.lD 5 bm<|.lD 6 cg<|.lD 7 ch<|.lD 8 ci<|.lD 1000000 bn ?_
  cases az with
  | nil=>
   have hk:¬ ((ak:Int)<(ab.length:Int)):=by have:=List.drop_eq_nil_iff.1 hl;omega
   have hkb:=decide_eq_false hk;rw [Zcn.eq_1] at hm;refine go ?_;refine X4 (congrArg Value.bool hkb)<|go ?_;obtain ⟨cw,bq,hm⟩:=bZ hm;refine lI bq (aq.addr bq) ?_;obtain ⟨ba,bb,hm⟩:=bZ hm;have bb:ba=al.set (Int.toNat (i64.wrap ((af:Int)+(ab.length:Int)))) (u32.wrap ag):=(Option.some.inj bb).symm;refine Y0 (x1:=u32.wrap ag) aq bq ?_;intro cx br cj bx;rw [← bb] at bx;refine .ld (d:=5) (v:=(.slice ai ba.length aj)) (congrArg (fun n=>Value.slice ai n aj) (show al.length=ba.length by rw [bb,List.length_set])) ?_;refine go ?_;replace ad:=ad.kp br;replace ac:=ac.kp br;replace aa:=aa.kp br cj;exact ⟨bp.length,by simp,⟨ao,(af+1),ai,aj,ba,bp,rfl,cb,hm,aa,ad,ac,bx,(congrArg (Value.int .i64) (Yk (Nat.lt_of_lt_of_le cc ac.1.1))),rfl,rfl,rfl,rfl,rfl⟩⟩
  | cons a2 bz=>
   obtain ⟨an,ck,cl⟩:=Yg hl;have hk:(ak:Int)<(ab.length:Int):=by omega
   have hkb:=decide_eq_true hk;rw [Zcn.eq_2] at hm;refine go ?_;refine X9 (congrArg Value.bool hkb)<|go ?_;refine lI an (ad.addr an)<|lW (ad.atInt an) ?_;refine go ?_;obtain ⟨a3,ar,hm⟩:=bZ hm;refine lI ar (aq.addr ar)<|lW (aq.atInt ar) ?_;refine go ?_;refine lI ar (aq.addr ar) ?_;obtain ⟨bc,bd,hm⟩:=bZ hm;have bd:bc=al.set (Int.toNat (i64.wrap ((af:Int)+(ak:Int)))) (u32.wrap (u64.wrap (ag+(u64.wrap ((u64.wrap ((u64.wrap am) * (u64.wrap a2)))+(u64.wrap a3)))))):=(Option.some.inj bd).symm;refine Y0 (x1:=u32.wrap (u64.wrap (ag+(u64.wrap ((u64.wrap ((u64.wrap am) * (u64.wrap a2)))+(u64.wrap a3)))))) aq ar ?_;intro cy bs cn b0;rw [← bd] at b0;refine .ld (d:=5) (v:=(.slice ai bc.length aj)) (congrArg (fun n=>Value.slice ai n aj) (show al.length=bc.length by rw [bd,List.length_set])) ?_;refine go ?_;refine lV (.int .u64 (Yc .u64 (u64.wrap (ag+(u64.wrap ((u64.wrap ((u64.wrap am) * (u64.wrap a2)))+(u64.wrap a3))))) 32)) (Tr (u64.wrap (ag+(u64.wrap ((u64.wrap ((u64.wrap am) * (u64.wrap a2)))+(u64.wrap a3))))) 32 rfl rfl (by decide))<|go ?_;replace ad:=ad.kp bs;replace ac:=ac.kp bs;replace aa:=aa.kp bs cn;exact ⟨bz.length,by simp,⟨ao,(ak+1),ai,aj,bc,(Yc .u64 (u64.wrap (ag+(u64.wrap ((u64.wrap ((u64.wrap am) * (u64.wrap a2)))+(u64.wrap a3))))) 32),bz,rfl,ck,hm,aa,ad,ac,b0,(congrArg (Value.int .i64) (Yk (Nat.lt_of_lt_of_le cl ad.1.1))),rfl,rfl,rfl,rfl,rfl,rfl,rfl,rfl,rfl,rfl,rfl⟩⟩
def Zaf (N:Nat) (aa:Int):Option R2:=
  (V5 N [u32.wrap aa,u32.wrap (Yc .u64 aa 32)]).bind fun ab=>some ab
theorem Ze4 {N:Nat} {col:Zd} {w0:World} {aa:Int} {r:R2} (c1:Nat) (hm:Zaf N aa=some r):
    Calls Tryz.prog 67 #[.int .u64 aa] w0 (fun e w'=>∃ (col':Zd) (ra1:Option Addr) (rc2:Nat),e= .returned ((.slice ra1 r.length rc2))∧Zg col w0 col' w'∧Zb (Za.int .u32) 77 c1 col' w' ra1 rc2 r):=by
 refine Xl 2 (m:=10) func67 rfl rfl rfl rfl rfl ?_;rw [Zaf.eq_1] at hm;have ab:=St.start col w0;refine go ?_;refine lV (.int .u64 (Yc .u64 aa 32)) (Tr aa 32 rfl rfl (by decide))<|go ?_;refine W6 (col:=(Zk col)) [u32.wrap aa,u32.wrap (Yc .u64 aa 32)] 1 ?_;intro ak af ad ag ah;obtain ⟨al,ai,hm⟩:=bZ hm;refine Zi (U6 2 ai (ah.toSlF (Ze.int .u32))) ?_;rintro _ am ⟨aj,an,ao,rfl,ac,ae⟩;refine ⟨_,rfl,?_⟩;replace ae:=ae.thaw (Zs .u32) ac ((Fz.refl (col:=ad)).froz 1) (by decide);replace ac:=ac.thawR (col:=ad);generalize Z1 af.heap.size ad aj=ap at *;refine go ?_;cases hm;replace ab:=(ab.grow ag).grow ac;exact ⟨rfl,_,_,_,rfl,ab.fin (cm [(2,c1)]),ab.fo ae⟩
def Zdz (N:Nat) (aa:List Int):Option R2:=
  (V5 N aa).bind fun ab=>some ab
theorem Zm7 {N ac:Nat} {a0:Option Addr} {col:Zd} {w0:World} {ab r:R2} (c1:Nat) (hm:Zdz N ab=some r) (h0:Sl (Za.int .u32) col w0 a0 ac ab):
    Calls Tryz.prog 95 #[.slice a0 ab.length ac] w0 (fun e w'=>∃ (col':Zd) (ra1:Option Addr) (rc2:Nat),e= .returned ((.slice ra1 r.length rc2))∧Zg col w0 col' w'∧Zb (Za.int .u32) 77 c1 col' w' ra1 rc2 r):=by
 refine Xl 2 (m:=5) func95 rfl rfl rfl rfl rfl ?_;rw [Zdz.eq_1] at hm;have aa:=St.start col w0;refine go ?_;obtain ⟨ag,ad,hm⟩:=bZ hm;replace h0:=h0.keep (Zl.start col w0);refine Zi (U6 1 ad (h0.ks aa)) ?_;rintro _ ah ⟨ai,aj,ak,rfl,ae,af⟩;refine ⟨_,rfl,go ?_⟩;cases hm;replace aa:=aa.grow ae;exact ⟨rfl,_,_,_,rfl,aa.fin (cm [(1,c1)]),aa.fo af⟩
theorem Zmp (N:Nat):∀ (n:Nat) (a:List Int),Zo a→a.length<n→a.length<4611686018427387904→T9 N n a=some (Zf (Zc a))
 | 0,a,_,h,_=>by omega
 | n+1,a,h,hn,hb=>by
  rw [T9.eq_2]
  by_cases h0:0<a.length
  ·have e:(a.length:Int) - 1=((a.length - 1:Nat):Int):=by omega
   rw [if_pos (by simpa using h0),Z4 (by omega),e,Xk (by omega),Option.bind_some,Zbb,Z4 (by omega),e]
   by_cases hx:a[a.length - 1]=0
   ·rw [if_pos (by simpa using hx),Xi (by omega),Int.toNat_natCast,Zmp N n _ (h.take _) (by rw [List.length_take];omega) (by rw [List.length_take];omega)]
    conv=>rhs;rw [← Zfd h0,hx,Zuj]
   ·rw [if_neg (by simpa using hx)]
    have e2:=Zfd h0
    have e3:=Z1t (a:=a.take (a.length - 1)) (x:=a[a.length - 1]) (by rw [e2];exact h) hx
    rw [e2] at e3
    rw [e3]
  ·have h1:a=[]:=List.eq_nil_of_length_eq_zero (by omega)
   subst h1
   rw [if_neg (by simp),Zbb,if_neg (by decide),Ys,W8]
theorem S6 {N:Nat} {a:List Int} (h:Zo a) (hn:a.length<N) (hb:a.length≤1099511627776):Um N a=some (Zf (Zc a)):=by
 rw [Um];exact Zmp N N a h hn (by omega)
theorem Znj {a:List Int} (hb:a.length≤2199023255552):Zcz a=some a:=by
 rw [Zcz,Xi (by simp only [List.length_nil,maxLen];omega),List.nil_append]
theorem S3 {N:Nat} {a:List Int} (h:Zo a) (hn:a.length<N) (hb:a.length≤1099511627776):V5 N a=some (Zf (Zc a)):=by
 rw [V5,S6 h hn hb,Option.bind_some]
 have hl:=Y2 h
 by_cases h0:Zf (Zc a)=[]
 ·rw [h0,if_pos (by decide)]
 ·have:0<(Zf (Zc a)).length:=List.length_pos_iff.2 h0
  rw [if_neg (by simp;exact h0),Znj (by omega),Option.bind_some]
theorem Zo7 {N:Nat} {a:List Int} (h:Zo a) (hn:a.length<N) (hb:a.length≤1099511627776):Zdz N a=some (Zf (Zc a)):=by
 rw [Zdz,S3 h hn hb,Option.bind_some]
theorem Zja {N:Nat} {u:Int} (h:0≤u∧u<18446744073709551616) (hn:2<N):Zaf N u=some (Zf u.toNat):=by
 have e:Zc [u32.wrap u,u32.wrap (Yc .u64 u 32)]=u.toNat:=by
  rw [Zep,Y9,Y9,Ys,IntKind.wrap_u32,IntKind.wrap_u32];omega
 have hl:Zo [u32.wrap u,u32.wrap (Yc .u64 u 32)]:=by
  rw [Zep,IntKind.wrap_u32,IntKind.wrap_u32]
  exact .cons (by omega) (.cons (by omega) .nil)
 rw [Zaf,S3 hl (by simpa using hn) (by simp),Option.bind_some,e]
theorem Zrj (N:Nat) (a b:List Int) (ha:Zo a) (hb:Zo b) (hl:a.length=b.length) (hs:a.length<4611686018427387904):∀ (n i:Nat),i≤a.length→i<n→a.drop i=b.drop i→Zdx N a b n ((i:Int) - 1)=some (if Zc a<Zc b then -1 else if Zc b<Zc a then 1 else 0)
 | 0,i,_,h,_=>by omega
 | n+1,i,hi,hn,he=>by
  rw [Zdx.eq_2]
  by_cases h0:i=0
  ·subst h0
   rw [if_neg (by decide)]
   rw [List.drop_zero,List.drop_zero] at he
   subst he
   rw [if_neg (by omega),if_neg (by omega)]
  ·have e:(i:Int) - 1=((i - 1:Nat):Int):=by omega
   have h1:i - 1<a.length:=by omega
   have h2:i - 1<b.length:=by omega
   have e1:i - 1+1=i:=by omega
   rw [if_pos (by simp;omega),e,Xk h1,Option.bind_some,Xk h2,Option.bind_some]
   have g1:=ha.get h1
   have g2:=hb.get h2
   have va:=Td a (i - 1)
   have vb:=Td b (i - 1)
   rw [Un h1,e1] at va
   rw [Un h2,e1,← he] at vb
   have la:=S0 (ha.take (i - 1))
   have lb:=S0 (hb.take (i - 1))
   rw [List.length_take,Nat.min_eq_left (by omega)] at la lb
   have key:∀ x y:Nat,x<y→4294967296 ^ (i - 1) * (x+4294967296 * Zc (a.drop i))+4294967296 ^ (i - 1)≤4294967296 ^ (i - 1) * (y+4294967296 * Zc (a.drop i)):=fun x y hxy=>by
    rw [← Nat.mul_succ];exact Nat.mul_le_mul_left _ (by omega)
   by_cases hlt:a[i - 1]<b[i - 1]
   ·have:=key _ _ (show (a[i - 1]).toNat<(b[i - 1]).toNat by omega)
    rw [if_pos (by simpa using hlt),if_pos (by omega)]
   ·rw [if_neg (by simpa using hlt)]
    by_cases hgt:b[i - 1]<a[i - 1]
    ·have:=key _ _ (show (b[i - 1]).toNat<(a[i - 1]).toNat by omega)
     rw [if_pos (by simpa using hgt),if_neg (by omega),if_pos (by omega)]
    ·rw [if_neg (by simpa using hgt),Z4 (by omega)]
     have:=Zrj N a b ha hb hl hs n (i - 1) (by omega) (by omega) (by
      rw [List.drop_eq_getElem_cons h1,List.drop_eq_getElem_cons h2,e1,he]
      congr 1;omega)
     exact this
theorem Ztt {m n:Nat} (h:(Zf m).length<(Zf n).length):m<n:=by
 have h1:=Wt (k:=(Zf m).length) (n:=m)
 have h2:=Wt (k:=(Zf m).length) (n:=n)
 have:=h1.1 (Nat.le_refl _)
 have h3:¬ n<4294967296 ^ (Zf m).length:=fun h4=>by have:=h2.2 h4;omega
 omega
theorem Znl {N:Nat} {a b:List Int} (ha:Zo a) (hb:Zo b) (h1:a.length<N) (h2:b.length<N) (h3:a.length≤1099511627776) (h4:b.length≤1099511627776):
  Zck N a b=some (if Zc a<Zc b then -1 else if Zc b<Zc a then 1 else 0):=by
 have la:=Y2 ha
 have lb:=Y2 hb
 rw [Zck,S6 ha h1 h3,Option.bind_some,S6 hb h2 h4,Option.bind_some]
 by_cases he:(Zf (Zc a)).length=(Zf (Zc b)).length
 ·rw [if_neg (by simp [he]),Z4 (by omega)]
  have:=Zrj N (Zf (Zc a)) (Zf (Zc b)) (Xg _) (Xg _) he (by omega) N (Zf (Zc a)).length (Nat.le_refl _) (by omega) (by
   rw [List.drop_eq_nil_of_le (Nat.le_refl _),List.drop_eq_nil_of_le (by omega)])
  rw [this,Z9,Z9]
 ·rw [if_pos (by simp;omega)]
  by_cases hlt:(Zf (Zc a)).length<(Zf (Zc b)).length
  ·rw [if_pos (by simpa using hlt),if_pos (Ztt hlt)]
  ·have:=Ztt (m:=Zc b) (n:=Zc a) (by omega)
   rw [if_neg (by simpa using hlt),if_neg (by omega),if_pos this]
def X1 (b:List Int) (k:Nat):Nat:=(b.getD k 0).toNat
theorem Tc (b:List Int) (k:Nat):Zc (b.drop k)=X1 b k+4294967296 * Zc (b.drop (k+1)):=by
 by_cases h:k<b.length
 ·rw [Un h,X1,List.getD_eq_getElem?_getD,List.getElem?_eq_getElem h,Option.getD_some]
 ·rw [List.drop_eq_nil_of_le (by omega),List.drop_eq_nil_of_le (by omega),X1,List.getD_eq_getElem?_getD,List.getElem?_eq_none (by omega)];rfl
theorem Zdf {b:List Int} (h:Zo b) (k:Nat):X1 b k<4294967296:=by
 rw [X1,List.getD_eq_getElem?_getD]
 by_cases hk:k<b.length
 ·have:=h.get hk
  rw [List.getElem?_eq_getElem hk,Option.getD_some];omega
 ·rw [List.getElem?_eq_none (by omega)];decide
theorem drop_zero {l:List Int} {k:Nat} (h:Zo l) (hk:k<l.length) (h0:Zc (l.drop k)=0):l[k]=0∧Zc (l.drop (k+1))=0:=by
 have:=h.get hk
 rw [Un hk] at h0
 omega
theorem Zan {l:List Int} {k j:Nat} (v:Int) (h:k<j):(l.set k v).drop j=l.drop j:=by
 rw [List.drop_set,if_pos h]
theorem Zxl (S S' Q c x y v c' L D:Nat) (h1:S'=S+Q * v) (h2:c+x+y=v+4294967296 * c'):S'+Q * 4294967296 * (c'+L+D)=S+Q * (c+(x+4294967296 * L)+(y+4294967296 * D)):=by
 subst h1
 have:Q * (c+x+y)=Q * (v+4294967296 * c'):=by rw [h2]
 grind
theorem Zql (N:Nat) (a b:List Int) (ha:Zo a) (hb:Zo b) (hab:b.length≤a.length) (hN:a.length+1<N) (hs:a.length<1099511627776):∀ (l:List Int) (k:Nat) (sum:List Int) (c:Int),Zo l→a.length=k+l.length→sum.length=a.length+1→Zo sum→Zc (sum.drop k)=0→0≤c∧c≤1→
  Su N a b l k sum c=some (Zf (Zc sum+4294967296 ^ k * (c.toNat+Zc l+Zc (b.drop k))))
 | [],k,sum,c,_,hk,hl,hL,hz,hc=>by
  have hk':k=a.length:=by simpa using hk.symm
  subst hk'
  rw [Su.eq_1,Xk (by omega),Option.bind_some,Option.bind_some,Int.toNat_natCast,Ug (by omega),
   S3 (hL.set _ (by omega)) (by rw [List.length_set];omega) (by rw [List.length_set];omega),Option.bind_some]
  have h1:=Sa (l:=sum) (k:=a.length) (by omega) c
  have h2:=(drop_zero hL (by omega) hz).1
  rw [h2] at h1
  rw [Ys,List.drop_eq_nil_of_le (by omega),Ys]
  have h3:Zc (sum.set a.length c)=Zc sum+4294967296 ^ a.length * c.toNat:=by simpa using h1
  rw [h3];rfl
 | x :: l,k,sum,c,hx,hk,hl,hL,hz,hc=>by
  have hk1:a.length=k+1+l.length:=by rw [hk,List.length_cons];omega
  have h0:=hx.head
  have hz':=drop_zero hL (by omega) hz
  have hy:=Zdf hb k
  have hsz:sum[k]'(by omega)=0:=hz'.1
  -- the sum of one place
  have step:∀ s:Int,s=c+x+(X1 b k:Int)→Zgc k sum (Su N a b l) s=some (Zf (Zc sum+4294967296 ^ k * (c.toNat+Zc (x :: l)+Zc (b.drop k)))):=fun s hs'=>by
   rw [Zgc,Xk (by omega),Option.bind_some,Option.bind_some,Zk3,Int.toNat_natCast,Zep]
   have hw:0≤u32.wrap s∧u32.wrap s<4294967296:=by rw [IntKind.wrap_u32];omega
   rw [Zql N a b ha hb hab hN hs l (k+1) _ _ hx.tail hk1 (by rw [List.length_set];exact hl) (hL.set _ hw) (by rw [Zan _ (by omega)];exact hz'.2) (by omega)]
   have h1:=Sa (l:=sum) (k:=k) (by omega) (u32.wrap s)
   rw [hsz] at h1
   rw [Nat.pow_succ,Y9,Tc b k]
   congr 2
   exact Zxl _ _ _ _ _ _ (u32.wrap s).toNat _ _ _ (by simpa using h1) (by rw [IntKind.wrap_u32];omega)
  rw [Su.eq_2]
  have hcx:u64.wrap (c+u64.wrap x)=c+x:=by rw [Xn (x:=x) (by omega),Xn (by omega)]
  by_cases hkb:k<b.length
  ·have e:X1 b k=(b[k]).toNat:=by rw [X1,List.getD_eq_getElem?_getD,List.getElem?_eq_getElem hkb,Option.getD_some]
   have:=hb.get hkb
   rw [if_pos (by simpa using hkb),Xk hkb,Option.bind_some,hcx,Xn (x:=b[k]) (by omega),Xn (by omega)]
   exact step _ (by omega)
  ·have e:X1 b k=0:=by rw [X1,List.getD_eq_getElem?_getD,List.getElem?_eq_none (by omega)];rfl
   rw [if_neg (by simpa using hkb),hcx]
   exact step _ (by omega)
theorem Zqk {N:Nat} {a b:List Int} (ha:Zo a) (hb:Zo b) (hab:b.length≤a.length) (hN:a.length+1<N) (hs:a.length<1099511627776):Zgb N a b=some (Zf (Zc a+Zc b)):=by
 rw [Zgb,Z4 (by omega),Xi (by simp only [maxLen];omega),Zql N a b ha hb hab hN hs a 0 _ 0 ha (by omega) (by rw [List.length_replicate];omega) (.zeros _) (by rw [List.drop_zero];exact S1 _) (by omega),S1,List.drop_zero]
 simp
theorem Zxm {N:Nat} {a b:List Int} (ha:Zo a) (hb:Zo b) (h1:a.length+1<N) (h2:b.length+1<N) (h3:a.length<1099511627776) (h4:b.length<1099511627776):Zid N a b=some (Zf (Zc a+Zc b)):=by
 have la:=Y2 ha
 have lb:=Y2 hb
 rw [Zid,S6 ha (by omega) (by omega),Option.bind_some,S6 hb (by omega) (by omega),Option.bind_some]
 by_cases h:(Zf (Zc a)).length<(Zf (Zc b)).length
 ·rw [if_pos (by simpa using h),Zqk (Xg _) (Xg _) (by omega) (by omega) (by omega),Z9,Z9,Nat.add_comm]
 ·rw [if_neg (by simpa using h),Zqk (Xg _) (Xg _) (by omega) (by omega) (by omega),Z9,Z9]
theorem Ztm (N:Nat) (a b:List Int) (ha:Zo a) (hb:Zo b) (hs:a.length<1099511627776):∀ (n k:Nat) (r:List Int) (c:Int),k≤a.length→a.length<n+k→r.length=a.length→Zo r→0≤c∧c≤1→r.drop k=a.drop k→
  4294967296 ^ k * (c.toNat+Zc (b.drop k))≤4294967296 ^ k * Zc (a.drop k)→
  ∃ r',T8 N a b n r c (k:Int)=some r'∧r'.length=a.length∧Zo r'∧Zc r'+4294967296 ^ k * (c.toNat+Zc (b.drop k))=Zc r
 | 0,k,r,c,hk,hn,_,_,_,_,_=>by omega
 | n+1,k,r,c,hk,hn,hl,hr,hc,he,hle=>by
  have hQ:0<4294967296 ^ k:=Nat.pow_pos (by decide)
  have hle':c.toNat+Zc (b.drop k)≤Zc (a.drop k):=Nat.le_of_mul_le_mul_left hle hQ
  rw [T8.eq_2]
  by_cases h0:k<a.length
  ·have ga:=ha.get h0
   have hrk:r[k]'(by omega)=a[k]:=by
    have:(r.drop k)[0]'(by simp;omega)=(a.drop k)[0]'(by simp;omega):=by simp only [he]
    simpa using this
   have hy:=Zdf hb k
   rw [Tc b k,Un h0] at hle'
   have step:∀ t:Int,t=c+(X1 b k:Int)→∃ r',Zgg r (k:Int) (T8 N a b n) t=some r'∧r'.length=a.length∧Zo r'∧Zc r'+4294967296 ^ k * (c.toNat+Zc (b.drop k))=Zc r:=fun t ht=>by
    have hw:0≤u32.wrap (a[k] - u32.wrap t)∧u32.wrap (a[k] - u32.wrap t)<4294967296:=by rw [IntKind.wrap_u32];omega
    have fin:∀ c':Int,0≤c'∧c'≤1→a[k]+4294967296 * c'=t+u32.wrap (a[k] - u32.wrap t)→∃ r',Zgh r (k:Int) (T8 N a b n) t c'=some r'∧r'.length=a.length∧Zo r'∧Zc r'+4294967296 ^ k * (c.toNat+Zc (b.drop k))=Zc r:=fun c' hc' hv=>by
     rw [Zgh,Xk (by omega),Option.bind_some,Option.bind_some,Zk9,hrk,Z4 (by omega),Int.toNat_natCast]
     obtain ⟨r',q1,q2,q3,q4⟩:=Ztm N a b ha hb hs n (k+1) (r.set k (u32.wrap (a[k] - u32.wrap t))) c' (by omega) (by omega) (by rw [List.length_set];exact hl) (hr.set _ hw) hc' (by
      rw [Zan _ (by omega)]
      have:=congrArg (List.drop 1) he
      simpa [List.drop_drop,Nat.add_comm] using this) (Nat.mul_le_mul_left _ (by omega))
     refine ⟨r',q1,q2,q3,?_⟩
     have h1:=Sa (l:=r) (k:=k) (by omega) (u32.wrap (a[k] - u32.wrap t))
     rw [hrk] at h1
     rw [Tc b k]
     rw [Nat.pow_succ] at q4
     have hv':(a[k]).toNat+4294967296 * c'.toNat=c.toNat+X1 b k+(u32.wrap (a[k] - u32.wrap t)).toNat:=by omega
     have hv2:4294967296 ^ k * ((a[k]).toNat+4294967296 * c'.toNat)=4294967296 ^ k * (c.toNat+X1 b k+(u32.wrap (a[k] - u32.wrap t)).toNat):=by rw [hv']
     grind
    rw [Zgg,Xk (by omega),Option.bind_some,hrk,Xn (x:=a[k]) (by omega)]
    by_cases hlt:a[k]<t
    ·rw [if_pos (by simpa using hlt)]
     exact fin 1 (by omega) (by rw [IntKind.wrap_u32,IntKind.wrap_u32];omega)
    ·rw [if_neg (by simpa using hlt)]
     exact fin 0 (by omega) (by rw [IntKind.wrap_u32,IntKind.wrap_u32];omega)
   rw [if_pos (by simpa using h0)]
   by_cases hkb:k<b.length
   ·have e:X1 b k=(b[k]).toNat:=by rw [X1,List.getD_eq_getElem?_getD,List.getElem?_eq_getElem hkb,Option.getD_some]
    have:=hb.get hkb
    rw [if_pos (by simpa using hkb),Xk hkb,Option.bind_some,Xn (x:=b[k]) (by omega),Xn (by omega)]
    exact step _ (by omega)
   ·have e:X1 b k=0:=by rw [X1,List.getD_eq_getElem?_getD,List.getElem?_eq_none (by omega)];rfl
    rw [if_neg (by simpa using hkb)]
    exact step _ (by omega)
  ·rw [if_neg (by simpa using h0)]
   rw [List.drop_eq_nil_of_le (show a.length≤k by omega),Ys] at hle'
   exact ⟨r,rfl,hl,hr,by rw [show c.toNat+Zc (b.drop k)=0 by omega];simp⟩
theorem Zww {N:Nat} {a b:List Int} (ha:Zo a) (hb:Zo b) (h1:a.length+1<N) (h2:b.length+1<N) (h3:a.length<1099511627776) (h4:b.length<1099511627776):
  Zge N a b=some (if Zc a<Zc b then ([],false) else (Zf (Zc a - Zc b),true)):=by
 have la:=Y2 ha
 have lb:=Y2 hb
 rw [Zge,Znl ha hb (by omega) (by omega) (by omega) (by omega),Option.bind_some]
 by_cases h:Zc a<Zc b
 ·rw [if_pos h,if_pos (by decide),if_pos h]
 ·rw [if_neg h,if_neg (by split <;> decide),if_neg h,S6 ha (by omega) (by omega),Option.bind_some,Znj (by omega),Option.bind_some,S6 hb (by omega) (by omega),Option.bind_some,Zk8]
  obtain ⟨r',q1,q2,q3,q4⟩:=Ztm N (Zf (Zc a)) (Zf (Zc b)) (Xg _) (Xg _) (by omega) N 0 (Zf (Zc a)) 0 (by omega) (by omega) rfl (Xg _) (by omega) rfl (by simp [Z9];omega)
  rw [show ((0:Nat):Int)=0 from rfl] at q1
  rw [q1,Option.bind_some,S3 q3 (by omega) (by omega),Option.bind_some]
  simp [Z9] at q4
  congr 3
  omega
theorem Z17 (P P' Q c x y e v c' L:Nat) (h1:P'+Q * e=P+Q * v) (h2:c+(x * y+e)=v+4294967296 * c'):P'+Q * 4294967296 * (c'+x * L)=P+Q * (c+x * (y+4294967296 * L)):=by
 have:Q * (c+(x * y+e))=Q * (v+4294967296 * c'):=by rw [h2]
 grind
theorem Zuc (b:List Int) (hb:Zo b) (i:Nat) (kk:Nat→List Int→Option R2) (x:Int) (hx:0≤x∧x<4294967296):∀ (l:List Int) (j:Nat) (p:List Int) (c:Int),Zo l→j+l.length=b.length→i+b.length<p.length→p.length<4611686018427387904→Zo p→0≤c∧c<4294967296→Zc (p.drop (i+b.length))=0→
  ∃ p',Zcn b i kk x l j p c=kk (i+1) p'∧p'.length=p.length∧Zo p'∧Zc p'=Zc p+4294967296 ^ (i+j) * (c.toNat+x.toNat * Zc l)∧Zc (p'.drop (i+b.length+1))=0
 | [],j,p,c,_,hj,hp,hs,hL,hc,hz=>by
  have hj':j=b.length:=by simpa using hj
  subst hj'
  have hz':=drop_zero hL hp hz
  rw [Zcn.eq_1,Z4 (by omega),show (i:Int)+(b.length:Int)=((i+b.length:Nat):Int) by omega,Xk hp,Option.bind_some,Option.bind_some,Int.toNat_natCast,Ug hc]
  refine ⟨_,rfl,by rw [List.length_set],hL.set _ hc,?_,?_⟩
  ·have h1:=Sa hp c
   rw [hz'.1] at h1
   rw [Ys,Nat.mul_zero,Nat.add_zero]
   simpa using h1
  ·rw [Zan _ (by omega)];exact hz'.2
 | y :: l,j,p,c,hl,hj,hp,hs,hL,hc,hz=>by
  have hy:=hl.head
  have hj1:j+1+l.length=b.length:=by rw [← hj,List.length_cons];omega
  have hij:i+j<p.length:=by omega
  have hg:=hL.get hij
  have hm:x * y≤4294967295 * 4294967295:=Int.mul_le_mul (by omega) (by omega) (by omega) (by omega)
  have hm0:0≤x * y:=Int.mul_nonneg hx.1 hy.1
  rw [Zcn.eq_2,Z4 (by omega),show (i:Int)+(j:Int)=((i+j:Nat):Int) by omega,Xk hij,Option.bind_some,Option.bind_some,Int.toNat_natCast,Xn (x:=x) (by omega),Xn (x:=y) (by omega),Xn (x:=p[i+j]) (by omega),Xn (x:=x * y) (by omega),Xn (x:=x * y+p[i+j]) (by omega),Xn (by omega),Zep]
  generalize hs':c+(x * y+p[i+j])=s
  have hw:0≤u32.wrap s∧u32.wrap s<4294967296:=by rw [IntKind.wrap_u32];omega
  obtain ⟨p',q1,q2,q3,q4,q5⟩:=Zuc b hb i kk x hx l (j+1) (p.set (i+j) (u32.wrap s)) (s / 4294967296) hl.tail hj1 (by rw [List.length_set];exact hp) (by rw [List.length_set];exact hs) (hL.set _ hw) (by omega) (by rw [Zan _ (by omega)];exact hz)
  refine ⟨p',q1,by rw [q2,List.length_set],q3,?_,q5⟩
  rw [q4,← Nat.add_assoc i j 1,Nat.pow_succ,Y9]
  refine Z17 _ _ _ _ _ _ (p[i+j]).toNat (u32.wrap s).toNat _ _ (Sa hij _) ?_
  rw [IntKind.wrap_u32]
  have e1:((x.toNat * y.toNat:Nat):Int)=x * y:=by rw [Int.natCast_mul,Int.toNat_of_nonneg hx.1,Int.toNat_of_nonneg hy.1]
  omega
theorem Zub (N:Nat) (b:List Int) (hb:Zo b):∀ (l:List Int) (i:Nat) (p:List Int),Zo l→p.length=i+l.length+b.length→p.length<N→p.length<1099511627776→Zo p→Zc (p.drop (i+b.length))=0→
  Zae N b l i p=some (Zf (Zc p+4294967296 ^ i * (Zc l * Zc b)))
 | [],i,p,_,hl,hn,hs,hp,hz=>by
  rw [Zae.eq_1,S3 hp hn (by omega),Option.bind_some,Ys];simp
 | x :: l,i,p,hx,hl,hn,hs,hp,hz=>by
  rw [List.length_cons] at hl
  obtain ⟨p',q1,q2,q3,q4,q5⟩:=Zuc b hb i (Zae N b l) x hx.head b 0 p 0 hb (by omega) (by omega) (by omega) hp (by omega) hz
  rw [Zae.eq_2,q1,Zub N b hb l (i+1) p' hx.tail (by omega) (by omega) (by omega) q3 (by rw [show i+1+b.length=i+b.length+1 by omega];exact q5),q4,Y9,Nat.pow_succ]
  congr 2
  simp only [Nat.add_zero,Int.toNat_zero,Nat.zero_add]
  grind
theorem Zo3 {N:Nat} {a b:List Int} (ha:Zo a) (hb:Zo b) (h1:a.length+b.length<N) (h3:a.length+b.length<1099511627776):Zad N a b=some (Zf (Zc a * Zc b)):=by
 have la:=Y2 ha
 have lb:=Y2 hb
 rw [Zad,S6 ha (by omega) (by omega),Option.bind_some,S6 hb (by omega) (by omega),Option.bind_some,Z4 (by omega),Xi (by simp only [maxLen];omega),
  Zub N _ (Xg _) _ 0 _ (Xg _) (by rw [List.length_replicate];omega) (by rw [List.length_replicate];omega) (by rw [List.length_replicate];omega) (.zeros _) (by
   rw [List.drop_replicate];exact S1 _),S1,Z9,Z9]
 simp
def Zd3 (N:Nat) (aa:Int):Nat→R2→Int→Int→Option R5
  | 0,_,_,_=>none
  | af+1,ac,ad,ab=>if (decide (0≤ab))=true then ((Zn ac ab).bind fun ae=>Z0 ((u64.wrap aa)≠0) ((some (ac.set (Int.toNat ab) (u32.wrap (u64.wrap (Int.tdiv (Yu .u64 (Xt .u64 ad 32) (u64.wrap ae)) (u64.wrap aa)))))).bind fun ag=>Z0 ((u64.wrap aa)≠0) ((Zd3 N aa af) ag (Int.tmod (Yu .u64 (Xt .u64 ad 32) (u64.wrap ae)) (u64.wrap aa)) (i64.wrap (ab - 1))))) else (some (u32.wrap ad,ac))
termination_by structural x=>x
def Zgi (N:Nat) (aa:List Int) (ab:Int):Option R5:=
  Zd3 N ab N aa 0 (i64.wrap ((aa.length:Int) - 1))
theorem Zq0 {N ad:Nat} {a0:Option Addr} {col:Zd} {w0:World} {ae:R2} {ab:Int} {r:R5} (qc0:Nat) (hm:Zgi N ae ab=some r) (hd:S8 [qc0]=true) (h0:Zb (Za.int .u32) 77 qc0 col w0 a0 ad ae):
    Calls Tryz.prog 146 #[.slice a0 ae.length ad,.int .u32 ab] w0 (fun e w'=>∃ (col':Zd),e= .returned ((.int .u32 r.1))∧Zt (pS [qc0]) col w0 col' w'∧Zb (Za.int .u32) 77 qc0 col' w' a0 ad r.2∧r.2.length=ae.length):=by
 refine Xl 4 (m:=36) func146 rfl rfl rfl rfl rfl ?_;rw [Zgi.eq_1] at hm;have af:=St.startL (l:=[qc0]) rfl col w0;replace h0:=h0.startL (Zap hd 0 rfl) (Zao hd 0 rfl);refine go ?_;refine Z5 [1,1000000] (fun n f an=>∃ ao ac aa am ag,ag=n∧Zd3 N ab ag ac aa am=some r∧St w0 (Xv [qc0] col) ao an∧Zb (Za.int .u32) 77 440 ao an a0 ad ac∧ac.length=ae.length∧ac.length=ae.length∧[0,5,6].map f=[.slice a0 ac.length ad,.int .u64 aa,.int .i64 am]) N ⟨_,_,0,_,_,rfl,hm,af,h0,rfl,rfl,rfl⟩ ?_;clear hm;intro n f an hI;obtain ⟨ao,ac,aa,am,ag,hn,hm,af,aj,ar,au,hs⟩:=hI;subst hn;refine .lL [0,5,6] hs ?_
 cases ag with
 | zero=>rw [Zd3.eq_1] at hm;cases hm
 | succ ag=>
  rw [Zd3.eq_2] at hm;refine go ?_;refine Zp hm (fun hb hm=>go ?_) fun hb hm=>go ?_
  ·refine lV (.int .u64 (Xt .u64 aa 32)) (Zc3 aa 32 rfl rfl (by decide))<|go ?_;obtain ⟨ah,ai,hm⟩:=bZ hm;refine lI ai (aj.addr ai)<|lW (aj.atInt ai) ?_;refine go ?_;obtain ⟨av,hm⟩:=Z2 hm;refine lV (.int .u64 (u64.wrap (Int.tdiv (Yu .u64 (Xt .u64 aa 32) (u64.wrap ah)) (u64.wrap ab)))) (W9 (Yu .u64 (Xt .u64 aa 32) (u64.wrap ah)) (u64.wrap ab) rfl rfl av)<|go ?_;refine lI ai (aj.addr ai) ?_;obtain ⟨ak,al,hm⟩:=bZ hm;have al:ak=ac.set (Int.toNat am) (u32.wrap (u64.wrap (Int.tdiv (Yu .u64 (Xt .u64 aa 32) (u64.wrap ah)) (u64.wrap ab)))):=(Option.some.inj al).symm;refine Y0 (x1:=u32.wrap (u64.wrap (Int.tdiv (Yu .u64 (Xt .u64 aa 32) (u64.wrap ah)) (u64.wrap ab)))) aj ai ?_;intro az aw ax ap;rw [← al] at ap;have aq:ak.length=ae.length:=(show ac.length=ak.length by rw [al,List.length_set]).symm.trans ar;refine .ld (d:=0) (v:=(.slice a0 ak.length ad)) (congrArg (fun n=>Value.slice a0 n ad) (show ac.length=ak.length by rw [al,List.length_set])) ?_;refine go ?_;obtain ⟨ay,hm⟩:=Z2 hm;refine lV (.int .u64 (Int.tmod (Yu .u64 (Xt .u64 aa 32) (u64.wrap ah)) (u64.wrap ab))) (Tf (Yu .u64 (Xt .u64 aa 32) (u64.wrap ah)) (u64.wrap ab) rfl rfl ay)<|go ?_;replace af:=af.kp aw ax;exact ⟨ag,by omega,rfl,⟨_,_,_,_,_,rfl,hm,af,ap,aq,aq,rfl⟩⟩
  cases hm;exact ⟨rfl,_,rfl,af.finL rfl (cm [(440,qc0)]),af.foL aj,au⟩
def Zdr (aa:Int) (ab:Int):Option Int:=
  (Zda (⟨#[0,1,2,2,3,3,3,3,4,4,4,4,4,4,4,4,5,5,5,5,5,5,5,5,5,5,5,5,5,5,5,5,6,6,6,6,6,6,6,6,6,6,6,6,6,6,6,6,6,6,6,6,6,6,6,6,6,6,6,6,6,6,6,6,7,7,7,7,7,7,7,7,7,7,7,7,7,7,7,7,7,7,7,7,7,7,7,7,7,7,7,7,7,7,7,7,7,7,7,7,7,7,7,7,7,7,7,7,7,7,7,7,7,7,7,7,7,7,7,7,7,7,7,7,7,7,7,7,8,8,8,8,8,8,8,8,8,8,8,8,8,8,8,8,8,8,8,8,8,8,8,8,8,8,8,8,8,8,8,8,8,8,8,8,8,8,8,8,8,8,8,8,8,8,8,8,8,8,8,8,8,8,8,8,8,8,8,8,8,8,8,8,8,8,8,8,8,8,8,8,8,8,8,8,8,8,8,8,8,8,8,8,8,8,8,8,8,8,8,8,8,8,8,8,8,8,8,8,8,8,8,8,8,8,8,8,8,8,8,8,8,8,8,8,8,8,8,8,8,8,8,8,8,8,8,8]⟩) (u8.wrap aa)).bind fun ac=>some (i64.wrap (ab+(i64.wrap ac)))
def Zf2 (aa:Int) (ab:Int):Option Int:=
  if (decide (256≤aa))=true then (Zdr (Yc .u32 aa 8) (i64.wrap (ab+8))) else (Zdr aa ab)
def Zf1 (aa:Int):Option Int:=
  if (decide (65536≤aa))=true then (Zf2 (Yc .u32 aa 16) 16) else (Zf2 aa 0)
theorem Zqw {col:Zd} {w0:World} {ac r:Int} (hm:Zf1 ac=some r):
    Calls Tryz.prog 97 #[.int .u32 ac] w0 (fun e w'=>e= .returned ((.int .i64 r))∧Below w0.heap.size w0 w'):=by
 refine Xl 2 (m:=19) func97 rfl rfl rfl rfl rfl ?_;rw [Zf1.eq_1] at hm;have aa:=St.start col w0;refine Zw<|Ww<|Yq rfl<|Zm<|Zw ?_;refine Wp.cutK [1000000] (fun f ag=>∃ ah ab ad,Zf2 ab ad=some r∧St w0 (Zk col) ah ag∧[0,2].map f=[.int .u32 ab,.int .i64 ad]) ?_ ?_
 ·intro f ag hJ;obtain ⟨ah,ab,ad,hm,aa,hs⟩:=hJ;rw [Zf2.eq_1] at hm;refine .lL [0,2] hs<|Zw ?_;refine Wp.cutK [1000000] (fun f ai=>∃ aj ae af,Zdr ae af=some r∧St w0 (Zk col) aj ai∧[0,2].map f=[.int .u32 ae,.int .i64 af]) ?_ ?_
  ·intro f ai hJ;obtain ⟨aj,ae,af,hm,aa,hs⟩:=hJ;rw [Zdr.eq_1] at hm;refine .lL [0,2] hs<|go ?_;obtain ⟨ak,al,hm⟩:=bZ hm;refine lV (.int .u8 ak) (Zmb (s:=(⟨#[0,1,2,2,3,3,3,3,4,4,4,4,4,4,4,4,5,5,5,5,5,5,5,5,5,5,5,5,5,5,5,5,6,6,6,6,6,6,6,6,6,6,6,6,6,6,6,6,6,6,6,6,6,6,6,6,6,6,6,6,6,6,6,6,7,7,7,7,7,7,7,7,7,7,7,7,7,7,7,7,7,7,7,7,7,7,7,7,7,7,7,7,7,7,7,7,7,7,7,7,7,7,7,7,7,7,7,7,7,7,7,7,7,7,7,7,7,7,7,7,7,7,7,7,7,7,7,7,8,8,8,8,8,8,8,8,8,8,8,8,8,8,8,8,8,8,8,8,8,8,8,8,8,8,8,8,8,8,8,8,8,8,8,8,8,8,8,8,8,8,8,8,8,8,8,8,8,8,8,8,8,8,8,8,8,8,8,8,8,8,8,8,8,8,8,8,8,8,8,8,8,8,8,8,8,8,8,8,8,8,8,8,8,8,8,8,8,8,8,8,8,8,8,8,8,8,8,8,8,8,8,8,8,8,8,8,8,8,8,8,8,8,8,8,8,8,8,8,8,8,8,8,8,8,8,8]⟩)) underlying9 rfl rfl al)<|go ?_;cases hm;exact ⟨rfl,rfl,aa.below⟩
  refine go ?_;refine Zp hm (fun hb hm=>go ?_) fun hb hm=>?_
  ·refine lV (.int .u32 (Yc .u32 ab 8)) (Tr ab 8 rfl rfl (by decide))<|go ?_;exact ⟨rfl,_,_,_,hm,aa,rfl⟩
  refine Yd ?_;exact ⟨rfl,_,_,_,hm,aa,rfl⟩
 refine go ?_;refine Zp hm (fun hb hm=>go ?_) fun hb hm=>?_
 ·refine lV (.int .u32 (Yc .u32 ac 16)) (Tr ac 16 rfl rfl (by decide))<|go ?_;exact ⟨rfl,_,_,16,hm,aa,rfl⟩
 refine Yd ?_;exact ⟨rfl,_,_,0,hm,aa,rfl⟩
def Zh9 (aa:Int):Option Int:=
  (Zf1 aa).bind fun ab=>some (i64.wrap (32 - ab))
theorem Zyn {col:Zd} {w0:World} {ac r:Int} (hm:Zh9 ac=some r):
    Calls Tryz.prog 159 #[.int .u32 ac] w0 (fun e w'=>e= .returned ((.int .i64 r))∧Below w0.heap.size w0 w'):=by
 refine Xl 2 (m:=6) func159 rfl rfl rfl rfl rfl ?_;rw [Zh9.eq_1] at hm;have aa:=St.start col w0;refine go ?_;obtain ⟨af,ad,hm⟩:=bZ hm;refine Zi (Zqw (col:=(Zk col)) ad) ?_;rintro _ ae ⟨rfl,ab⟩;refine ⟨_,rfl,?_⟩;replace ab:Zg (Zk col) w0 (Zk col) ae:=.of_below ab;refine go ?_;cases hm;replace aa:=aa.grow ab;exact ⟨rfl,rfl,aa.below⟩
def Zcq (ab:Int):List Int→Nat→R2→Option R2
  | [],aa,ac=>some ac
  | ad :: af,aa,ac=>(Zn ac (aa:Int)).bind fun ag=>Z0 (0≤ab) ((some (ac.set (Int.toNat (aa:Int)) (Yu .u32 ag (Xt .u32 ad ab)))).bind fun ae=>Z0 (0≤ab) ((Zn ae (i64.wrap ((aa:Int)+1))).bind fun ai=>(some (ae.set (Int.toNat (i64.wrap ((aa:Int)+1))) (u32.wrap (Yc .u64 (Xt .u64 (u64.wrap ad) ab) 32)))).bind fun ah=>(Zcq ab af) (aa+1) ah))
termination_by structural x=>x
def Zd2 (aa:List Int) (ab:Int):Option R2:=
  Z0 ((Int.toNat (i64.wrap ((aa.length:Int)+1))) * 4≤281474976710656∧(Int.toNat (i64.wrap ((aa.length:Int)+1)))≤maxLen∧0≤(i64.wrap ((aa.length:Int)+1))) (Zcq ab aa 0 (List.replicate (Int.toNat (i64.wrap ((aa.length:Int)+1))) (0:Int)))
theorem Zm9 {ay:Nat} {a0:Option Addr} {col:Zd} {w0:World} {ad:R2} {aa:Int} {r:R2} (c1:Nat) (hm:Zd2 ad aa=some r) (h0:Sl (Za.int .u32) col w0 a0 ay ad):
    Calls Tryz.prog 152 #[.slice a0 ad.length ay,.int .i64 aa] w0 (fun e w'=>∃ (col':Zd) (ra1:Option Addr) (rc2:Nat),e= .returned ((.slice ra1 r.length rc2))∧Zg col w0 col' w'∧Zb (Za.int .u32) 77 c1 col' w' ra1 rc2 r):=by
 refine Xl 4 (m:=40) func152 rfl rfl rfl rfl rfl ?_;rw [Zd2.eq_1] at hm;have ab:=St.start col w0;refine go ?_;obtain ⟨ao,hm⟩:=Z2 hm;refine To (col:=(Zk col)) (w:=w0) (r:=(Za.int .u32)) (n:=(Int.toNat (i64.wrap ((ad.length:Int)+1)))) (x0:=0) 1 rfl underlying31 Tryz.t77 rfl rfl rfl rfl rfl (congrArg (Value.int _) (Int.toNat_of_nonneg ao.2.2).symm) (congrArg (Value.int _) (Int.toNat_of_nonneg ao.2.2).symm) ao.1 ao.2.1 (Se .u32 0) ?_;intro bc bd be a1 a2;refine go ?_;replace ab:=ab.grow a1;refine Z5 [1,12,13,1000000] (fun n f au=>∃ ae af ah ai ak al,n=al.length∧ad.drop af=al∧Zcq aa al af ak=some r∧St w0 (Zk col) ae au∧Zb (Za.int .u32) 77 1 ae au ah ai ak∧[14,5].map f=[.int .i64 af,.slice ah ak.length ai]) ad.length ⟨_,0,_,_,_,_,rfl,rfl,hm,ab,a2,rfl⟩ ?_;clear hm;intro n f au hI;obtain ⟨ae,af,ah,ai,ak,al,hn,hl,hm,ab,aj,hs⟩:=hI;subst hn;refine .lL [14,5] hs ?_;replace h0:=h0.keep (Zl.start col w0)
 cases al with
 | nil=>
  have hk:¬ ((af:Int)<(ad.length:Int)):=by have:=List.drop_eq_nil_iff.1 hl;omega
  have hkb:=decide_eq_false hk;rw [Zcq.eq_1] at hm;refine go ?_;refine X4 (congrArg Value.bool hkb)<|go ?_;cases hm;exact ⟨rfl,_,_,_,rfl,ab.fin (cm [(1,c1)]),ab.fo aj⟩
 | cons ac a3=>
  obtain ⟨av,a4,a5⟩:=Yg hl;have hk:(af:Int)<(ad.length:Int):=by omega
  have hkb:=decide_eq_true hk;rw [Zcq.eq_2] at hm;refine go ?_;refine X9 (congrArg Value.bool hkb)<|go ?_;refine lI av ((h0.ks ab).addr av)<|lW ((h0.ks ab).atInt av) ?_;refine go ?_;refine Wb (col:=ae) [(0,1),(1,1),(2,1),(3,0),(4,1),(5,1),(6,1),(7,1),(8,1),(9,2)] (by kernel_rfl) (by kernel_rfl)<|xu rfl rfl (fun _=>Ve rfl) ?_;refine xu rfl rfl (fun _=>Wv rfl) ?_;obtain ⟨ap,ag,hm⟩:=bZ hm;refine xu rfl rfl (fun _=>Y4 underlying31 sizeOf77 rfl rfl (Xh ag).1 (Xh ag).2.1 (aj.addr ag)) ?_;refine xW (fun _ hC=>(aj.gr (hC.bl ae)).atInt ag) ?_;refine xu rfl rfl (fun _=>Wv rfl) ?_;refine xu rfl rfl (fun _=>Wv rfl) ?_;obtain ⟨a6,hm⟩:=Z2 hm;refine xu (v:=(.int .u32 (Xt .u32 ac aa))) rfl rfl (fun _=>Zc3 ac aa rfl rfl a6) ?_;refine xu (v:=(.int .u32 (Yu .u32 ap (Xt .u32 ac aa)))) rfl rfl (fun _=>Zpt ap (Xt .u32 ac aa) rfl rfl) ?_;refine xu rfl rfl (fun _=>Y4 underlying31 sizeOf77 rfl rfl (Xh ag).1 (Xh ag).2.1 (aj.addr ag)) ?_;refine xe rfl rfl ?_;intro bf hC0;have hC:=hC0.bl ae;obtain ⟨am,aq,hm⟩:=bZ hm;have aq:am=ak.set (Int.toNat (af:Int)) (Yu .u32 ap (Xt .u32 ac aa)):=(Option.some.inj aq).symm;replace aj:=aj.gr hC;refine Y0 (x1:=Yu .u32 ap (Xt .u32 ac aa)) aj ag ?_;intro bg a7 a8 an;rw [← aq] at an;refine .ld (d:=5) (v:=(.slice ah am.length ai)) (congrArg (fun n=>Value.slice ah n ai) (show ak.length=am.length by rw [aq,List.length_set])) ?_;refine Zm<|xk ae<|Yz ?_;replace ab:=(ab.grow hC).kp a7 a8;intro bh hC;replace hC:=hC.bl ae;refine go ?_;obtain ⟨a9,hm⟩:=Z2 hm;refine lV (.int .u64 (Xt .u64 (u64.wrap ac) aa)) (Zc3 (u64.wrap ac) aa rfl rfl a9)<|lV (.int .u64 (Yc .u64 (Xt .u64 (u64.wrap ac) aa) 32)) (Tr (Xt .u64 (u64.wrap ac) aa) 32 rfl rfl (by decide))<|go ?_;obtain ⟨bi,aw,hm⟩:=bZ hm;replace an:=an.gr hC;refine lI aw (an.addr aw) ?_;obtain ⟨ax,ar,hm⟩:=bZ hm;have ar:ax=am.set (Int.toNat (i64.wrap ((af:Int)+1))) (u32.wrap (Yc .u64 (Xt .u64 (u64.wrap ac) aa) 32)):=(Option.some.inj ar).symm;refine Y0 (x1:=u32.wrap (Yc .u64 (Xt .u64 (u64.wrap ac) aa) 32)) an aw ?_;intro bj ba bb az;rw [← ar] at az;refine .ld (d:=5) (v:=(.slice ah ax.length ai)) (congrArg (fun n=>Value.slice ah n ai) (show am.length=ax.length by rw [ar,List.length_set])) ?_;refine go ?_;replace ab:=(ab.grow hC).kp ba bb
  exact ⟨a3.length,by simp,rfl,⟨_,_,_,_,_,_,rfl,a4,hm,ab,az,(Ym (congrArg (Value.int .i64) (Yk (Nat.lt_of_lt_of_le a5 (h0.ks ab).1.1))) rfl)⟩⟩
def Zil (aa:List Int) (kk_L1:(List Int→Option R2)) (ab:Bool):Option R2:=
  if ab=true then (Z0 ((0:Int)≤(i64.wrap ((aa.length:Int) - 1))∧(i64.wrap ((aa.length:Int) - 1))≤(aa.length:Int)) (kk_L1 (aa.take (Int.toNat (i64.wrap ((aa.length:Int) - 1)))))) else (some aa)
def Zbc (N:Nat):Nat→R2→Option R2
  | 0,_=>none
  | ab+1,aa=>if (decide (0<(aa.length:Int)))=true then ((Zn aa (i64.wrap ((aa.length:Int) - 1))).bind fun ac=>Zil aa (Zbc N ab) (decide (ac=0))) else (Zil aa (Zbc N ab) false)
termination_by structural x=>x
def Zcr (N:Nat) (aa:List Int):Option R2:=
  Zbc N N aa
theorem Zna {N ap:Nat} {a0:Option Addr} {col:Zd} {w0:World} {ag r:R2} (qc0:Nat) (hm:Zcr N ag=some r) (hd:S8 [qc0]=true) (h0:Zb (Za.int .u32) 77 qc0 col w0 a0 ap ag):
    Calls Tryz.prog 96 #[.slice a0 ag.length ap] w0 (fun e w'=>∃ (col':Zd) (ra1:Option Addr) (rc2:Nat),e= .returned ((.slice ra1 r.length rc2))∧Zt (pS [qc0]) col w0 col' w'∧Zb (Za.int .u32) 77 qc0 col' w' ra1 rc2 r):=by
 refine Xl 2 (m:=21) func96 rfl rfl rfl rfl rfl ?_;rw [Zcr.eq_1] at hm;have ab:=St.startL (l:=[qc0]) rfl col w0;replace h0:=h0.startL (Zap hd 0 rfl) (Zao hd 0 rfl);refine go ?_;refine Z5 [1000000] (fun n f ah=>∃ ai ad ae aa af,af=n∧Zbc N af aa=some r∧St w0 (Xv [qc0] col) ai ah∧Zb (Za.int .u32) 77 440 ai ah ad ae aa∧[0].map f=[.slice ad aa.length ae]) N ⟨_,_,_,_,_,rfl,hm,ab,h0,rfl⟩ ?_;clear hm;intro n f ah hI;obtain ⟨ai,ad,ae,aa,af,hn,hm,ab,ac,hs⟩:=hI;subst hn;refine .lL [0] hs ?_
 cases af with
 | zero=>rw [Zbc.eq_1] at hm;cases hm
 | succ af=>
  rw [Zbc.eq_2] at hm;refine Zw<|Zw ?_;refine Wp.cutK [0,1000000] (fun f aj=>∃ ak al,Zil aa (Zbc N af) al=some r∧St w0 (Xv [qc0] col) ak aj∧Zb (Za.int .u32) 77 440 ak aj ad ae aa∧[14].map f=[.bool al]) ?_ ?_
  ·intro f aj hJ;obtain ⟨ak,al,hm,ab,ac,hs⟩:=hJ;rw [Zil.eq_1] at hm;refine .lL [14] hs ?_;refine Zp hm (fun hb hm=>go ?_) fun hb hm=>go ?_
   ·obtain ⟨am,hm⟩:=Z2 hm;refine lv (v:=.slice ad (Int.toNat (i64.wrap ((aa.length:Int) - 1))) ae) rfl rfl (Zg9 underlying31 sizeOf77 rfl rfl am.1 (by have:=ac.lecap;have:=am.2;omega))<|.ld (d:=19) (v:=(.slice ad ((aa.take (Int.toNat (i64.wrap ((aa.length:Int) - 1)))).length) ae)) (congrArg (fun n=>Value.slice ad n ae) (List.length_take_of_le (show (Int.toNat (i64.wrap ((aa.length:Int) - 1)))≤aa.length by have:=am.2;omega)).symm) ?_;refine go ?_;exact ⟨af,by omega,rfl,⟨_,_,_,_,_,rfl,hm,ab,(ac.take (Int.toNat (i64.wrap ((aa.length:Int) - 1)))),rfl⟩⟩
   cases hm;exact ⟨rfl,_,_,_,rfl,ab.finL rfl (cm [(440,qc0)]),ab.foL ac⟩
  refine go ?_;refine Xz hm (fun an hm=>go ?_) fun an hm=>go ?_
  ·obtain ⟨aq,ao,hm⟩:=bZ hm;refine lI ao (ac.addr ao) ?_;refine go ?_;refine lW (ac.atInt ao)<|go ?_;refine lV (.bool (decide (aq=0))) (Xm (congrArg Value.bool an) rfl)<|Zm ?_;exact ⟨rfl,_,_,hm,ab,ac,rfl⟩
  refine lV (.bool false) (Xd (congrArg Value.bool an) rfl)<|Zm ?_;exact ⟨rfl,_,_,hm,ab,ac,rfl⟩
def Zii (aa:Int) (ab:List Int):Option R5:=
  some (u32.wrap aa,ab)
def Zcp (j0:Nat) (n0:Nat) (ab:List Int) (ae:Int):List Int→Nat→R2→Int→Option R5
  | [],aa,ac,ad=>Z0 (0≤(ab.length:Int)∧(ab.length:Int)<(n0:Int)) ((Zn ac ((j0:Int)+(ab.length:Int))).bind fun ah=>Z0 (0≤(ab.length:Int)∧(ab.length:Int)<(n0:Int)) ((Zn ac ((j0:Int)+(ab.length:Int))).bind fun al=>(some (ac.set (Int.toNat ((j0:Int)+(ab.length:Int))) (u32.wrap (ah+(u32.wrap ad))))).bind fun ai=>Zii (u64.wrap ((u64.wrap (ae - 1)) - 1)) ai))
  | af :: aj,aa,ac,ad=>Z0 (0≤(aa:Int)∧(aa:Int)<(n0:Int)) ((Zn ac ((j0:Int)+(aa:Int))).bind fun ag=>Z0 (0≤(aa:Int)∧(aa:Int)<(n0:Int)) ((Zn ac ((j0:Int)+(aa:Int))).bind fun am=>(some (ac.set (Int.toNat ((j0:Int)+(aa:Int))) (u32.wrap (u64.wrap (ad+(u64.wrap ((u64.wrap ag)+(u64.wrap af)))))))).bind fun ak=>(Zcp j0 n0 ab ae aj) (aa+1) ak (Yc .u64 (u64.wrap (ad+(u64.wrap ((u64.wrap ag)+(u64.wrap af))))) 32)))
termination_by structural x=>x
def Zk7 (aa:Nat) (kk_L2:(Nat→R2→Int→Int→Option R5)) (ab:List Int) (ac:Int) (ad:Int):Option R5:=
  kk_L2 (aa+1) ab ac ad
def Zij (j0:Nat) (n0:Nat) (ac:Int) (ab:List Int) (af:Int) (aa:Nat) (ad:Int) (kk_L2:(Nat→R2→Int→Int→Option R5)) (ae:Int) (ag:Int):Option R5:=
  Z0 (0≤(aa:Int)∧(aa:Int)<(n0:Int)) ((Zn ab ((j0:Int)+(aa:Int))).bind fun ah=>Z0 (0≤(aa:Int)∧(aa:Int)<(n0:Int)) ((Zn ab ((j0:Int)+(aa:Int))).bind fun aj=>(some (ab.set (Int.toNat ((j0:Int)+(aa:Int))) (u32.wrap (ah - (u32.wrap (u64.wrap ((Uw .u64 (u64.wrap (ad+(u64.wrap ((u64.wrap (ac - 1)) * (u64.wrap ae))))) 4294967295)+af))))))).bind fun ai=>Zk7 aa kk_L2 ai ag (Yc .u64 (u64.wrap (ad+(u64.wrap ((u64.wrap (ac - 1)) * (u64.wrap ae))))) 32)))
def Qh (j0:Nat) (n0:Nat) (aa:List Int) (ac:Int):List Int→Nat→R2→Int→Int→Option R5
  | [],ad,ab,ae,af=>Z0 (0≤(aa.length:Int)∧(aa.length:Int)<(n0:Int)) ((Zn ab ((j0:Int)+(aa.length:Int))).bind fun aj=>Z0 (0≤(aa.length:Int)∧(aa.length:Int)<(n0:Int)) ((Zn ab ((j0:Int)+(aa.length:Int))).bind fun ak=>Z0 (0≤(aa.length:Int)∧(aa.length:Int)<(n0:Int)) ((Zn ab ((j0:Int)+(aa.length:Int))).bind fun am=>(some (ab.set (Int.toNat ((j0:Int)+(aa.length:Int))) (u32.wrap (ak - (u32.wrap (u64.wrap (af+ae))))))).bind fun ah=>if (decide ((u64.wrap aj)<(u64.wrap (af+ae))))=true then (Zcp j0 n0 aa ac aa 0 ah 0) else (Zii (u64.wrap (ac - 1)) ah))))
  | ag :: ai,ad,ab,ae,af=>Z0 (0≤(ad:Int)∧(ad:Int)<(n0:Int)) ((Zn ab ((j0:Int)+(ad:Int))).bind fun al=>if (decide ((u64.wrap al)<(u64.wrap ((Uw .u64 (u64.wrap (af+(u64.wrap ((u64.wrap (ac - 1)) * (u64.wrap ag))))) 4294967295)+ae))))=true then (Zij j0 n0 ac ab ae ad af (Qh j0 n0 aa ac ai) ag 1) else (Zij j0 n0 ac ab ae ad af (Qh j0 n0 aa ac ai) ag 0))
termination_by structural x=>x
def Zih (j0:Nat) (n0:Nat) (ae:List Int) (aa:List Int) (ab:Int) (ac:Int) (kk_L1:(Int→Int→Option R5)):Option R5:=
  (Zn aa (i64.wrap ((aa.length:Int) - 1))).bind fun ad=>if (decide (4294967295<(u64.wrap (ac+(u64.wrap ad)))))=true then (Qh j0 n0 aa ab aa 0 ae 0 0) else (kk_L1 (u64.wrap (ab - 1)) (u64.wrap (ac+(u64.wrap ad))))
def Zba (aa:Int) (ab:List Int):Option R5:=
  some (u32.wrap aa,ab)
def T7 (j0:Nat) (n0:Nat) (ab:List Int) (ae:Int):List Int→Nat→R2→Int→Option R5
  | [],aa,ac,ad=>Z0 (0≤(ab.length:Int)∧(ab.length:Int)<(n0:Int)) ((Zn ac ((j0:Int)+(ab.length:Int))).bind fun ah=>Z0 (0≤(ab.length:Int)∧(ab.length:Int)<(n0:Int)) ((Zn ac ((j0:Int)+(ab.length:Int))).bind fun al=>(some (ac.set (Int.toNat ((j0:Int)+(ab.length:Int))) (u32.wrap (ah+(u32.wrap ad))))).bind fun ai=>Zba (u64.wrap (ae - 1)) ai))
  | af :: aj,aa,ac,ad=>Z0 (0≤(aa:Int)∧(aa:Int)<(n0:Int)) ((Zn ac ((j0:Int)+(aa:Int))).bind fun ag=>Z0 (0≤(aa:Int)∧(aa:Int)<(n0:Int)) ((Zn ac ((j0:Int)+(aa:Int))).bind fun am=>(some (ac.set (Int.toNat ((j0:Int)+(aa:Int))) (u32.wrap (u64.wrap (ad+(u64.wrap ((u64.wrap ag)+(u64.wrap af)))))))).bind fun ak=>(T7 j0 n0 ab ae aj) (aa+1) ak (Yc .u64 (u64.wrap (ad+(u64.wrap ((u64.wrap ag)+(u64.wrap af))))) 32)))
termination_by structural x=>x
def Zik (aa:Nat) (kk_L4:(Nat→R2→Int→Int→Option R5)) (ab:List Int) (ac:Int) (ad:Int):Option R5:=
  kk_L4 (aa+1) ab ac ad
def Zd1 (j0:Nat) (n0:Nat) (ac:Int) (ab:List Int) (af:Int) (aa:Nat) (ad:Int) (kk_L4:(Nat→R2→Int→Int→Option R5)) (ae:Int) (ag:Int):Option R5:=
  Z0 (0≤(aa:Int)∧(aa:Int)<(n0:Int)) ((Zn ab ((j0:Int)+(aa:Int))).bind fun ah=>Z0 (0≤(aa:Int)∧(aa:Int)<(n0:Int)) ((Zn ab ((j0:Int)+(aa:Int))).bind fun aj=>(some (ab.set (Int.toNat ((j0:Int)+(aa:Int))) (u32.wrap (ah - (u32.wrap (u64.wrap ((Uw .u64 (u64.wrap (ad+(u64.wrap (ac * (u64.wrap ae))))) 4294967295)+af))))))).bind fun ai=>Zik aa kk_L4 ai ag (Yc .u64 (u64.wrap (ad+(u64.wrap (ac * (u64.wrap ae))))) 32)))
def Ub (j0:Nat) (n0:Nat) (aa:List Int) (ac:Int):List Int→Nat→R2→Int→Int→Option R5
  | [],ad,ab,ae,af=>Z0 (0≤(aa.length:Int)∧(aa.length:Int)<(n0:Int)) ((Zn ab ((j0:Int)+(aa.length:Int))).bind fun aj=>Z0 (0≤(aa.length:Int)∧(aa.length:Int)<(n0:Int)) ((Zn ab ((j0:Int)+(aa.length:Int))).bind fun ak=>Z0 (0≤(aa.length:Int)∧(aa.length:Int)<(n0:Int)) ((Zn ab ((j0:Int)+(aa.length:Int))).bind fun am=>(some (ab.set (Int.toNat ((j0:Int)+(aa.length:Int))) (u32.wrap (ak - (u32.wrap (u64.wrap (af+ae))))))).bind fun ah=>if (decide ((u64.wrap aj)<(u64.wrap (af+ae))))=true then (T7 j0 n0 aa ac aa 0 ah 0) else (Zba ac ah))))
  | ag :: ai,ad,ab,ae,af=>Z0 (0≤(ad:Int)∧(ad:Int)<(n0:Int)) ((Zn ab ((j0:Int)+(ad:Int))).bind fun al=>if (decide ((u64.wrap al)<(u64.wrap ((Uw .u64 (u64.wrap (af+(u64.wrap (ac * (u64.wrap ag))))) 4294967295)+ae))))=true then (Zd1 j0 n0 ac ab ae ad af (Ub j0 n0 aa ac ai) ag 1) else (Zd1 j0 n0 ac ab ae ad af (Ub j0 n0 aa ac ai) ag 0))
termination_by structural x=>x
def Zd0 (j0:Nat) (n0:Nat) (ab:List Int) (aa:List Int) (ac:Int) (ad:Int) (kk_L1:(Int→Int→Option R5)) (ae:Bool):Option R5:=
  if ae=true then (Zih j0 n0 ab aa ac ad kk_L1) else (Ub j0 n0 aa ac aa 0 ab 0 0)
def Sw (N:Nat) (j0:Nat) (n0:Nat) (ab:List Int) (aa:List Int):Nat→Int→Int→Option R5
  | 0,_,_=>none
  | ae+1,ac,ad=>if (decide (4294967295<ac))=true then (Zd0 j0 n0 ab aa ac ad (Sw N j0 n0 ab aa ae) true) else (if (decide (ad≤4294967295))=true then ((Zn aa (i64.wrap ((aa.length:Int) - 2))).bind fun af=>Z0 (0≤(i64.wrap ((aa.length:Int) - 2))∧(i64.wrap ((aa.length:Int) - 2))<(n0:Int)) ((Zn ab ((j0:Int)+(i64.wrap ((aa.length:Int) - 2)))).bind fun ag=>Zd0 j0 n0 ab aa ac ad (Sw N j0 n0 ab aa ae) (decide ((Yu .u64 (Xt .u64 ad 32) (u64.wrap ag))<(u64.wrap (ac * (u64.wrap af))))))) else (Zd0 j0 n0 ab aa ac ad (Sw N j0 n0 ab aa ae) false))
termination_by structural x=>x
def Zgf (N:Nat) (j0:Nat) (n0:Nat) (ac:List Int) (aa:List Int):Option R5:=
  Z0 (0≤(aa.length:Int)∧(aa.length:Int)<(n0:Int)) ((Zn ac ((j0:Int)+(aa.length:Int))).bind fun ad=>Z0 (0≤(i64.wrap ((aa.length:Int) - 1))∧(i64.wrap ((aa.length:Int) - 1))<(n0:Int)) ((Zn ac ((j0:Int)+(i64.wrap ((aa.length:Int) - 1)))).bind fun ae=>(Zn aa (i64.wrap ((aa.length:Int) - 1))).bind fun ab=>Z0 ((u64.wrap ab)≠0) (Z0 ((u64.wrap ab)≠0) (Sw N j0 n0 ac aa N (u64.wrap (Int.tdiv (Yu .u64 (Xt .u64 (u64.wrap ad) 32) (u64.wrap ae)) (u64.wrap ab))) (Int.tmod (Yu .u64 (Xt .u64 (u64.wrap ad) 32) (u64.wrap ae)) (u64.wrap ab))))))
theorem Zyy {N ae j0 n0 cp0 de:Nat} {a0 a1:Option Addr} {col:Zd} {w0:World} {ac ab:R2} {r:R5} (qc0:Nat) (hm:Zgf N j0 n0 ac ab=some r) (hd:S8 [qc0]=true) (h0:Zb (Za.int .u32) 77 qc0 col w0 a0 ae ac) (h1:Sl (Za.int .u32) col w0 a1 de ab):
    Calls Tryz.prog 160 #[.slice (a0.map (·.add (j0 * 1))) n0 cp0,.slice a1 ab.length de] w0 (fun e w'=>∃ (col':Zd),e= .returned ((.int .u32 r.1))∧Zt (pS [qc0]) col w0 col' w'∧Zb (Za.int .u32) 77 qc0 col' w' a0 ae r.2∧r.2.length=ac.length):=by
 refine Xl 4 (m:=178) func160 rfl rfl rfl rfl rfl ?_;rw [Zgf.eq_1] at hm;have aa:=St.startL (l:=[qc0]) rfl col w0;replace h0:=h0.startL (Zap hd 0 rfl) (Zao hd 0 rfl);refine go ?_;refine Vy (col:=(Xv [qc0] col)) (by kernel_rfl) (by kernel_rfl)<|go ?_;obtain ⟨df,hm⟩:=Z2 hm;obtain ⟨a7,dg,hm⟩:=bZ hm;refine qv (v:=(Xy a0 (Int.toNat ((j0:Int)+(ab.length:Int)) * 1))) rfl (fun _ hC=>Vd underlying31 sizeOf77 rfl rfl df.1 df.2 (h0.addr dg)) ?_;refine qW (fun _ hC=>(h0.gr (hC.bl (Xv [qc0] col))).atInt dg) ?_;refine go ?_;refine qv (v:=(.int .u64 (Xt .u64 (u64.wrap a7) 32))) rfl (fun _ hC=>Zc3 (u64.wrap a7) 32 rfl rfl (by decide)) ?_;refine go ?_;obtain ⟨dh,hm⟩:=Z2 hm;obtain ⟨bf,di,hm⟩:=bZ hm;refine qv (v:=(Xy a0 (Int.toNat ((j0:Int)+(i64.wrap ((ab.length:Int) - 1))) * 1))) rfl (fun _ hC=>Vd underlying31 sizeOf77 rfl rfl dh.1 dh.2 (h0.addr di)) ?_;refine qW (fun _ hC=>(h0.gr (hC.bl (Xv [qc0] col))).atInt di) ?_;refine go ?_;refine Wn ?_;intro gp hC;replace h1:=h1.keep (Zl.startL [qc0] col w0);replace hC:=hC.bl (Xv [qc0] col);refine go ?_;obtain ⟨bg,a8,hm⟩:=bZ hm;replace aa:=aa.grow hC;refine lI a8 ((h1.ks aa).addr a8)<|lW ((h1.ks aa).atInt a8) ?_;refine go ?_;obtain ⟨fd,hm⟩:=Z2 hm;refine lV (.int .u64 (u64.wrap (Int.tdiv (Yu .u64 (Xt .u64 (u64.wrap a7) 32) (u64.wrap bf)) (u64.wrap bg)))) (W9 (Yu .u64 (Xt .u64 (u64.wrap a7) 32) (u64.wrap bf)) (u64.wrap bg) rfl rfl fd)<|go ?_;refine lI a8 ((h1.ks aa).addr a8)<|lW ((h1.ks aa).atInt a8) ?_;refine go ?_;obtain ⟨fe,hm⟩:=Z2 hm;refine lV (.int .u64 (Int.tmod (Yu .u64 (Xt .u64 (u64.wrap a7) 32) (u64.wrap bf)) (u64.wrap bg))) (Tf (Yu .u64 (Xt .u64 (u64.wrap a7) 32) (u64.wrap bf)) (u64.wrap bg) rfl rfl fe)<|go ?_;replace h0:=h0.gr hC;refine Z5 [0,1,5,1000000] (fun n f bx=>∃ ao ad ap a2,a2=n∧Sw N j0 n0 ac ab a2 ad ap=some r∧St w0 (Xv [qc0] col) ao bx∧Zb (Za.int .u32) 77 440 ao bx a0 ae ac∧[7,8].map f=[.int .u64 ad,.int .u64 ap]) N ⟨_,_,_,_,rfl,hm,aa,h0,rfl⟩ ?_;clear hm;intro n f bx hI;obtain ⟨ao,ad,ap,a2,hn,hm,aa,h0,hs⟩:=hI;subst hn;refine .lL [7,8] hs ?_
 cases a2 with
 | zero=>rw [Sw.eq_1] at hm;cases hm
 | succ a2=>
  rw [Sw.eq_2] at hm;refine Zw ?_;refine Wp.cutK [0,1,5,7,8,1000000] (fun f bz=>∃ b0,Zih j0 n0 ac ab ad ap (Sw N j0 n0 ac ab a2)=some r∧St w0 (Xv [qc0] col) b0 bz∧Zb (Za.int .u32) 77 440 b0 bz a0 ae ac) ?_ ?_
  ·intro f bz hJ;obtain ⟨b0,hm,aa,h0⟩:=hJ;rw [Zih.eq_1] at hm;refine go ?_;obtain ⟨gs,b1,hm⟩:=bZ hm;refine lI b1 ((h1.ks aa).addr b1)<|lW ((h1.ks aa).atInt b1) ?_;refine go ?_;refine Zp hm (fun hb hm=>?_) fun hb hm=>?_
   ·refine Zjs (Z09 rfl (Zhu ?_));refine go ?_;refine Z5 [0,1,5,7,87,88,1000000] (fun n f b2=>∃ b3 am a3 ai aj a9,n=a9.length∧ab.drop ai=a9∧Qh j0 n0 ab ad a9 ai am a3 aj=some r∧St w0 (Xv [qc0] col) b3 b2∧Zb (Za.int .u32) 77 440 b3 b2 a0 ae am∧am.length=ac.length∧am.length=ac.length∧[89,10,9].map f=[.int .i64 ai,.int .u64 a3,.int .u64 aj]) ab.length ⟨_,_,0,0,0,_,rfl,rfl,hm,aa,h0,rfl,rfl,rfl⟩ ?_;clear hm;intro n f b2 hI;obtain ⟨b3,am,a3,ai,aj,a9,hn,hl,hm,aa,af,dj,gt,hs⟩:=hI;subst hn;refine .lL [89,10,9] hs ?_
    cases a9 with
    | nil=>
     have hk:¬ ((ai:Int)<(ab.length:Int)):=by have:=List.drop_eq_nil_iff.1 hl;omega
     have hkb:=decide_eq_false hk;rw [Qh.eq_1] at hm;refine go ?_;refine X4 (congrArg Value.bool hkb)<|go ?_;obtain ⟨dl,hm⟩:=Z2 hm;obtain ⟨gu,dm,hm⟩:=bZ hm;refine lV (Xy a0 (Int.toNat ((j0:Int)+(ab.length:Int)) * 1)) (Vd underlying31 sizeOf77 rfl rfl dl.1 dl.2 (af.addr dm))<|lW (af.atInt dm)<|go ?_;obtain ⟨dn,hm⟩:=Z2 hm;obtain ⟨dp,dq,hm⟩:=bZ hm;refine lV (Xy a0 (Int.toNat ((j0:Int)+(ab.length:Int)) * 1)) (Vd underlying31 sizeOf77 rfl rfl dn.1 dn.2 (af.addr dq))<|lW (af.atInt dq)<|go ?_;obtain ⟨dr,hm⟩:=Z2 hm;obtain ⟨gv,ds,hm⟩:=bZ hm;refine lV (Xy a0 (Int.toNat ((j0:Int)+(ab.length:Int)) * 1)) (Vd underlying31 sizeOf77 rfl rfl dr.1 dr.2 (af.addr ds)) ?_;obtain ⟨b4,bh,hm⟩:=bZ hm;have bh:b4=am.set (Int.toNat ((j0:Int)+(ab.length:Int))) (u32.wrap (dp - (u32.wrap (u64.wrap (aj+a3))))):=(Option.some.inj bh).symm;refine Y0 (x1:=u32.wrap (dp - (u32.wrap (u64.wrap (aj+a3))))) af ds ?_;intro gw ff fg b5;rw [← bh] at b5;have b6:b4.length=ac.length:=(show am.length=b4.length by rw [bh,List.length_set]).symm.trans dj;refine Zm<|Zw ?_;replace aa:=aa.kp ff fg;refine Wp.cutK [1000000] (fun f b7=>∃ b8 b9 bi,Zii b9 bi=some r∧St w0 (Xv [qc0] col) b8 b7∧Zb (Za.int .u32) 77 440 b8 b7 a0 ae bi∧bi.length=ac.length∧[7].map f=[.int .u64 b9]) ?_ ?_
     ·intro f b7 hJ;obtain ⟨b8,b9,bi,hm,aa,fh,fi,hs⟩:=hJ;rw [Zii.eq_1] at hm;refine .lL [7] hs<|go ?_;cases hm;exact ⟨rfl,_,rfl,aa.finL rfl (cm [(440,qc0)]),aa.foL fh,fi⟩
     refine go ?_;refine Zp hm (fun hb hm=>go ?_) fun hb hm=>?_
     ·refine Z5 [0,143,144,5,7,1000000] (fun n f ca=>∃ cb aq ar au ba,n=ba.length∧ab.drop ar=ba∧Zcp j0 n0 ab ad ba ar aq au=some r∧St w0 (Xv [qc0] col) cb ca∧Zb (Za.int .u32) 77 440 cb ca a0 ae aq∧aq.length=ac.length∧aq.length=ac.length∧[145,9].map f=[.int .i64 ar,.int .u64 au]) ab.length ⟨_,_,0,0,_,rfl,rfl,hm,aa,b5,b6,b6,rfl⟩ ?_;clear hm;intro n f ca hI;obtain ⟨cb,aq,ar,au,ba,hn,hl,hm,aa,a4,fj,fk,hs⟩:=hI;subst hn;refine .lL [145,9] hs ?_
      cases ba with
      | nil=>
       have hk:¬ ((ar:Int)<(ab.length:Int)):=by have:=List.drop_eq_nil_iff.1 hl;omega
       have hkb:=decide_eq_false hk;rw [Zcp.eq_1] at hm;refine go ?_;refine X4 (congrArg Value.bool hkb)<|go ?_;obtain ⟨dt,hm⟩:=Z2 hm;obtain ⟨du,dv,hm⟩:=bZ hm;refine lV (Xy a0 (Int.toNat ((j0:Int)+(ab.length:Int)) * 1)) (Vd underlying31 sizeOf77 rfl rfl dt.1 dt.2 (a4.addr dv))<|lW (a4.atInt dv)<|go ?_;obtain ⟨dw,hm⟩:=Z2 hm;obtain ⟨gx,dx,hm⟩:=bZ hm;refine lV (Xy a0 (Int.toNat ((j0:Int)+(ab.length:Int)) * 1)) (Vd underlying31 sizeOf77 rfl rfl dw.1 dw.2 (a4.addr dx)) ?_;obtain ⟨cc,bj,hm⟩:=bZ hm;have bj:cc=aq.set (Int.toNat ((j0:Int)+(ab.length:Int))) (u32.wrap (du+(u32.wrap au))):=(Option.some.inj bj).symm;refine Y0 (x1:=u32.wrap (du+(u32.wrap au))) a4 dx ?_;intro gy fl fm dy;rw [← bj] at dy;have fn:cc.length=ac.length:=(show aq.length=cc.length by rw [bj,List.length_set]).symm.trans fk;refine Zm ?_;replace aa:=aa.kp fl fm;exact ⟨rfl,_,_,_,hm,aa,dy,fn,rfl⟩
      | cons bk fp=>
       obtain ⟨ag,fq,fr⟩:=Yg hl;have hk:(ar:Int)<(ab.length:Int):=by omega
       have hkb:=decide_eq_true hk;rw [Zcp.eq_2] at hm;refine go ?_;refine X9 (congrArg Value.bool hkb)<|go ?_;refine lI ag ((h1.ks aa).addr ag)<|lW ((h1.ks aa).atInt ag) ?_;refine go ?_;obtain ⟨dz,hm⟩:=Z2 hm;obtain ⟨bm,d0,hm⟩:=bZ hm;refine lV (Xy a0 (Int.toNat ((j0:Int)+(ar:Int)) * 1)) (Vd underlying31 sizeOf77 rfl rfl dz.1 dz.2 (a4.addr d0))<|lW (a4.atInt d0)<|go ?_;obtain ⟨d1,hm⟩:=Z2 hm;obtain ⟨gz,d2,hm⟩:=bZ hm;refine lV (Xy a0 (Int.toNat ((j0:Int)+(ar:Int)) * 1)) (Vd underlying31 sizeOf77 rfl rfl d1.1 d1.2 (a4.addr d2)) ?_;obtain ⟨cd,bn,hm⟩:=bZ hm;have bn:cd=aq.set (Int.toNat ((j0:Int)+(ar:Int))) (u32.wrap (u64.wrap (au+(u64.wrap ((u64.wrap bm)+(u64.wrap bk)))))):=(Option.some.inj bn).symm;refine Y0 (x1:=u32.wrap (u64.wrap (au+(u64.wrap ((u64.wrap bm)+(u64.wrap bk)))))) a4 d2 ?_;intro g0 ft fu d3;rw [← bn] at d3;have d4:cd.length=ac.length:=(show aq.length=cd.length by rw [bn,List.length_set]).symm.trans fj;refine go ?_;refine lV (.int .u64 (Yc .u64 (u64.wrap (au+(u64.wrap ((u64.wrap bm)+(u64.wrap bk))))) 32)) (Tr (u64.wrap (au+(u64.wrap ((u64.wrap bm)+(u64.wrap bk))))) 32 rfl rfl (by decide))<|go ?_;replace aa:=aa.kp ft fu;exact ⟨fp.length,by simp,rfl,⟨_,_,_,_,_,rfl,fq,hm,aa,d3,d4,d4,(Ym (congrArg (Value.int .i64) (Yk (Nat.lt_of_lt_of_le fr (h1.ks aa).1.1))) rfl)⟩⟩
     refine Yd ?_;exact ⟨rfl,_,_,_,hm,aa,b5,b6,rfl⟩
    | cons av ce=>
     obtain ⟨ag,fv,fw⟩:=Yg hl;have hk:(ai:Int)<(ab.length:Int):=by omega
     have hkb:=decide_eq_true hk;rw [Qh.eq_2] at hm;refine go ?_;refine X9 (congrArg Value.bool hkb)<|Yd<|Zw ?_;refine Wp.cutK [0,1,5,7,87,88,89,1000000] (fun f cf=>∃ cg bb ch ci,Zk7 ai (Qh j0 n0 ab ad ce) bb ch ci=some r∧St w0 (Xv [qc0] col) cg cf∧Zb (Za.int .u32) 77 440 cg cf a0 ae bb∧bb.length=ac.length∧bb.length=ac.length∧[10,9].map f=[.int .u64 ch,.int .u64 ci]) ?_ ?_
     ·intro f cf hJ;obtain ⟨cg,bb,ch,ci,hm,aa,fx,fy,fz,hs⟩:=hJ;rw [Zk7.eq_1] at hm;refine .lL [10,9] hs<|go ?_;exact ⟨ce.length,by simp,rfl,⟨_,_,_,_,_,_,rfl,fv,hm,aa,fx,fy,fz,(Ym (congrArg (Value.int .i64) (Yk (Nat.lt_of_lt_of_le fw (h1.ks aa).1.1))) rfl)⟩⟩
     refine go ?_;refine lI ag ((h1.ks aa).addr ag)<|lW ((h1.ks aa).atInt ag)<|Yq rfl<|Yq rfl<|Zm<|Zw<|Ww<|Ya rfl<|Ya rfl<|Ya rfl<|lV (.int .u64 (u64.wrap av)) (Zjk av ⟨_,underlying77⟩ underlying100 rfl)<|lV _ (Zc2 _ _ rfl rfl)<|lV _ (Sd _ _ rfl rfl)<|Yq rfl<|Zm<|Zw<|Ww<|Ya rfl<|lV (.int .u64 (Uw .u64 (u64.wrap (aj+(u64.wrap ((u64.wrap (ad - 1)) * (u64.wrap av))))) 4294967295)) (Zl8 (u64.wrap (aj+(u64.wrap ((u64.wrap (ad - 1)) * (u64.wrap av))))) 4294967295 rfl rfl)<|Ya rfl<|lV _ (Sd _ _ rfl rfl)<|Yq rfl<|Zm<|Zw<|Ww<|Yq rfl<|Zm<|Zw ?_;refine Wp.cutK [0,1,11,13,5,7,87,88,89,9,1000000] (fun f cj=>∃ ck cl,Zij j0 n0 ad am a3 ai aj (Qh j0 n0 ab ad ce) av cl=some r∧St w0 (Xv [qc0] col) ck cj∧Zb (Za.int .u32) 77 440 ck cj a0 ae am∧[10].map f=[.int .u64 cl]) ?_ ?_
     ·intro f cj hJ;obtain ⟨ck,cl,hm,aa,af,hs⟩:=hJ;rw [Zij.eq_1] at hm;refine .lL [10] hs<|go ?_;obtain ⟨d5,hm⟩:=Z2 hm;obtain ⟨d6,d7,hm⟩:=bZ hm;refine lV (Xy a0 (Int.toNat ((j0:Int)+(ai:Int)) * 1)) (Vd underlying31 sizeOf77 rfl rfl d5.1 d5.2 (af.addr d7))<|lW (af.atInt d7)<|go ?_;obtain ⟨d8,hm⟩:=Z2 hm;obtain ⟨g1,d9,hm⟩:=bZ hm;refine lV (Xy a0 (Int.toNat ((j0:Int)+(ai:Int)) * 1)) (Vd underlying31 sizeOf77 rfl rfl d8.1 d8.2 (af.addr d9)) ?_;obtain ⟨cn,bo,hm⟩:=bZ hm;have bo:cn=am.set (Int.toNat ((j0:Int)+(ai:Int))) (u32.wrap (d6 - (u32.wrap (u64.wrap ((Uw .u64 (u64.wrap (aj+(u64.wrap ((u64.wrap (ad - 1)) * (u64.wrap av))))) 4294967295)+a3))))):=(Option.some.inj bo).symm;refine Y0 (x1:=u32.wrap (d6 - (u32.wrap (u64.wrap ((Uw .u64 (u64.wrap (aj+(u64.wrap ((u64.wrap (ad - 1)) * (u64.wrap av))))) 4294967295)+a3))))) af d9 ?_;intro g2 f0 f1 ea;rw [← bo] at ea;have eb:cn.length=ac.length:=(show am.length=cn.length by rw [bo,List.length_set]).symm.trans dj;refine go ?_;refine lV (.int .u64 (Yc .u64 (u64.wrap (aj+(u64.wrap ((u64.wrap (ad - 1)) * (u64.wrap av))))) 32)) (Tr (u64.wrap (aj+(u64.wrap ((u64.wrap (ad - 1)) * (u64.wrap av))))) 32 rfl rfl (by decide))<|go ?_;replace aa:=aa.kp f0 f1;exact ⟨rfl,_,_,_,_,hm,aa,ea,eb,eb,rfl⟩
     refine go ?_;obtain ⟨ec,hm⟩:=Z2 hm;obtain ⟨g3,ed,hm⟩:=bZ hm;refine lV (Xy a0 (Int.toNat ((j0:Int)+(ai:Int)) * 1)) (Vd underlying31 sizeOf77 rfl rfl ec.1 ec.2 (af.addr ed))<|lW (af.atInt ed)<|go ?_;refine Zp hm (fun hb hm=>go ?_) fun hb hm=>?_
     ·exact ⟨rfl,_,1,hm,aa,af,rfl⟩
     refine Yd ?_;exact ⟨rfl,_,0,hm,aa,af,rfl⟩
   refine Yd ?_;exact ⟨a2,by omega,rfl,⟨_,_,_,_,rfl,hm,aa,h0,rfl⟩⟩
  refine Zw ?_;refine Wp.cutK [0,1,5,7,8,1000000] (fun f co=>∃ cp cq,Zd0 j0 n0 ac ab ad ap (Sw N j0 n0 ac ab a2) cq=some r∧St w0 (Xv [qc0] col) cp co∧Zb (Za.int .u32) 77 440 cp co a0 ae ac∧[74].map f=[.bool cq]) ?_ ?_
  ·intro f co hJ;obtain ⟨cp,cq,hm,aa,h0,hs⟩:=hJ;rw [Zd0.eq_1] at hm;refine .lL [74] hs ?_;refine Zp hm (fun hb hm=>?_) fun hb hm=>go ?_
   ·refine Yd ?_;exact ⟨rfl,_,hm,aa,h0⟩
   refine Z5 [0,1,5,7,87,88,1000000] (fun n f cr=>∃ cs an a5 ak al bc,n=bc.length∧ab.drop ak=bc∧Ub j0 n0 ab ad bc ak an a5 al=some r∧St w0 (Xv [qc0] col) cs cr∧Zb (Za.int .u32) 77 440 cs cr a0 ae an∧an.length=ac.length∧an.length=ac.length∧[89,10,9].map f=[.int .i64 ak,.int .u64 a5,.int .u64 al]) ab.length ⟨_,_,0,0,0,_,rfl,rfl,hm,aa,h0,rfl,rfl,rfl⟩ ?_;clear hm;intro n f cr hI;obtain ⟨cs,an,a5,ak,al,bc,hn,hl,hm,aa,ah,ee,g4,hs⟩:=hI;subst hn;refine .lL [89,10,9] hs ?_
   cases bc with
   | nil=>
    have hk:¬ ((ak:Int)<(ab.length:Int)):=by have:=List.drop_eq_nil_iff.1 hl;omega
    have hkb:=decide_eq_false hk;rw [Ub.eq_1] at hm;refine go ?_;refine X4 (congrArg Value.bool hkb)<|go ?_;obtain ⟨ef,hm⟩:=Z2 hm;obtain ⟨g5,eg,hm⟩:=bZ hm;refine lV (Xy a0 (Int.toNat ((j0:Int)+(ab.length:Int)) * 1)) (Vd underlying31 sizeOf77 rfl rfl ef.1 ef.2 (ah.addr eg))<|lW (ah.atInt eg)<|go ?_;obtain ⟨eh,hm⟩:=Z2 hm;obtain ⟨ei,ej,hm⟩:=bZ hm;refine lV (Xy a0 (Int.toNat ((j0:Int)+(ab.length:Int)) * 1)) (Vd underlying31 sizeOf77 rfl rfl eh.1 eh.2 (ah.addr ej))<|lW (ah.atInt ej)<|go ?_;obtain ⟨ek,hm⟩:=Z2 hm;obtain ⟨g6,el,hm⟩:=bZ hm;refine lV (Xy a0 (Int.toNat ((j0:Int)+(ab.length:Int)) * 1)) (Vd underlying31 sizeOf77 rfl rfl ek.1 ek.2 (ah.addr el)) ?_;obtain ⟨ct,bp,hm⟩:=bZ hm;have bp:ct=an.set (Int.toNat ((j0:Int)+(ab.length:Int))) (u32.wrap (ei - (u32.wrap (u64.wrap (al+a5))))):=(Option.some.inj bp).symm;refine Y0 (x1:=u32.wrap (ei - (u32.wrap (u64.wrap (al+a5))))) ah el ?_;intro g7 f2 f3 cu;rw [← bp] at cu;have cv:ct.length=ac.length:=(show an.length=ct.length by rw [bp,List.length_set]).symm.trans ee;refine Zm<|Zw ?_;replace aa:=aa.kp f2 f3;refine Wp.cutK [1000000] (fun f cw=>∃ cx cy bq,Zba cy bq=some r∧St w0 (Xv [qc0] col) cx cw∧Zb (Za.int .u32) 77 440 cx cw a0 ae bq∧bq.length=ac.length∧[7].map f=[.int .u64 cy]) ?_ ?_
    ·intro f cw hJ;obtain ⟨cx,cy,bq,hm,aa,f4,f5,hs⟩:=hJ;rw [Zba.eq_1] at hm;refine .lL [7] hs<|go ?_;cases hm;exact ⟨rfl,_,rfl,aa.finL rfl (cm [(440,qc0)]),aa.foL f4,f5⟩
    refine go ?_;refine Zp hm (fun hb hm=>go ?_) fun hb hm=>?_
    ·refine Z5 [0,143,144,5,7,1000000] (fun n f cz=>∃ c0 aw ax ay bd,n=bd.length∧ab.drop ax=bd∧T7 j0 n0 ab ad bd ax aw ay=some r∧St w0 (Xv [qc0] col) c0 cz∧Zb (Za.int .u32) 77 440 c0 cz a0 ae aw∧aw.length=ac.length∧aw.length=ac.length∧[145,9].map f=[.int .i64 ax,.int .u64 ay]) ab.length ⟨_,_,0,0,_,rfl,rfl,hm,aa,cu,cv,cv,rfl⟩ ?_;clear hm;intro n f cz hI;obtain ⟨c0,aw,ax,ay,bd,hn,hl,hm,aa,a6,f6,f7,hs⟩:=hI;subst hn;refine .lL [145,9] hs ?_
     cases bd with
     | nil=>
      have hk:¬ ((ax:Int)<(ab.length:Int)):=by have:=List.drop_eq_nil_iff.1 hl;omega
      have hkb:=decide_eq_false hk;rw [T7.eq_1] at hm;refine go ?_;refine X4 (congrArg Value.bool hkb)<|go ?_;obtain ⟨em,hm⟩:=Z2 hm;obtain ⟨en,eo,hm⟩:=bZ hm;refine lV (Xy a0 (Int.toNat ((j0:Int)+(ab.length:Int)) * 1)) (Vd underlying31 sizeOf77 rfl rfl em.1 em.2 (a6.addr eo))<|lW (a6.atInt eo)<|go ?_;obtain ⟨ep,hm⟩:=Z2 hm;obtain ⟨g8,eq,hm⟩:=bZ hm;refine lV (Xy a0 (Int.toNat ((j0:Int)+(ab.length:Int)) * 1)) (Vd underlying31 sizeOf77 rfl rfl ep.1 ep.2 (a6.addr eq)) ?_;obtain ⟨c1,br,hm⟩:=bZ hm;have br:c1=aw.set (Int.toNat ((j0:Int)+(ab.length:Int))) (u32.wrap (en+(u32.wrap ay))):=(Option.some.inj br).symm;refine Y0 (x1:=u32.wrap (en+(u32.wrap ay))) a6 eq ?_;intro g9 f8 f9 er;rw [← br] at er;have ga:c1.length=ac.length:=(show aw.length=c1.length by rw [br,List.length_set]).symm.trans f7;refine Zm ?_;replace aa:=aa.kp f8 f9;exact ⟨rfl,_,_,_,hm,aa,er,ga,rfl⟩
     | cons bs gb=>
      obtain ⟨ag,gc,gd⟩:=Yg hl;have hk:(ax:Int)<(ab.length:Int):=by omega
      have hkb:=decide_eq_true hk;rw [T7.eq_2] at hm;refine go ?_;refine X9 (congrArg Value.bool hkb)<|go ?_;refine lI ag ((h1.ks aa).addr ag)<|lW ((h1.ks aa).atInt ag) ?_;refine go ?_;obtain ⟨es,hm⟩:=Z2 hm;obtain ⟨bt,et,hm⟩:=bZ hm;refine lV (Xy a0 (Int.toNat ((j0:Int)+(ax:Int)) * 1)) (Vd underlying31 sizeOf77 rfl rfl es.1 es.2 (a6.addr et))<|lW (a6.atInt et)<|go ?_;obtain ⟨eu,hm⟩:=Z2 hm;obtain ⟨ha,ew,hm⟩:=bZ hm;refine lV (Xy a0 (Int.toNat ((j0:Int)+(ax:Int)) * 1)) (Vd underlying31 sizeOf77 rfl rfl eu.1 eu.2 (a6.addr ew)) ?_;obtain ⟨c2,bu,hm⟩:=bZ hm;have bu:c2=aw.set (Int.toNat ((j0:Int)+(ax:Int))) (u32.wrap (u64.wrap (ay+(u64.wrap ((u64.wrap bt)+(u64.wrap bs)))))):=(Option.some.inj bu).symm;refine Y0 (x1:=u32.wrap (u64.wrap (ay+(u64.wrap ((u64.wrap bt)+(u64.wrap bs)))))) a6 ew ?_;intro hc ge gf ey;rw [← bu] at ey;have ez:c2.length=ac.length:=(show aw.length=c2.length by rw [bu,List.length_set]).symm.trans f6;refine go ?_;refine lV (.int .u64 (Yc .u64 (u64.wrap (ay+(u64.wrap ((u64.wrap bt)+(u64.wrap bs))))) 32)) (Tr (u64.wrap (ay+(u64.wrap ((u64.wrap bt)+(u64.wrap bs))))) 32 rfl rfl (by decide))<|go ?_;replace aa:=aa.kp ge gf;exact ⟨gb.length,by simp,rfl,⟨_,_,_,_,_,rfl,gc,hm,aa,ey,ez,ez,(Ym (congrArg (Value.int .i64) (Yk (Nat.lt_of_lt_of_le gd (h1.ks aa).1.1))) rfl)⟩⟩
    refine Yd ?_;exact ⟨rfl,_,_,_,hm,aa,cu,cv,rfl⟩
   | cons az c3=>
    obtain ⟨ag,gg,gh⟩:=Yg hl;have hk:(ak:Int)<(ab.length:Int):=by omega
    have hkb:=decide_eq_true hk;rw [Ub.eq_2] at hm;refine go ?_;refine X9 (congrArg Value.bool hkb)<|Yd<|Zw ?_;refine Wp.cutK [0,1,5,7,87,88,89,1000000] (fun f c4=>∃ c5 be c6 c7,Zik ak (Ub j0 n0 ab ad c3) be c6 c7=some r∧St w0 (Xv [qc0] col) c5 c4∧Zb (Za.int .u32) 77 440 c5 c4 a0 ae be∧be.length=ac.length∧be.length=ac.length∧[10,9].map f=[.int .u64 c6,.int .u64 c7]) ?_ ?_
    ·intro f c4 hJ;obtain ⟨c5,be,c6,c7,hm,aa,gi,gj,gk,hs⟩:=hJ;rw [Zik.eq_1] at hm;refine .lL [10,9] hs<|go ?_;exact ⟨c3.length,by simp,rfl,⟨_,_,_,_,_,_,rfl,gg,hm,aa,gi,gj,gk,(Ym (congrArg (Value.int .i64) (Yk (Nat.lt_of_lt_of_le gh (h1.ks aa).1.1))) rfl)⟩⟩
    refine go ?_;refine lI ag ((h1.ks aa).addr ag)<|lW ((h1.ks aa).atInt ag)<|Yq rfl<|Yq rfl<|Zm<|Zw<|Ww<|Ya rfl<|Ya rfl<|Ya rfl<|lV (.int .u64 (u64.wrap az)) (Zjk az ⟨_,underlying77⟩ underlying100 rfl)<|lV _ (Zc2 _ _ rfl rfl)<|lV _ (Sd _ _ rfl rfl)<|Yq rfl<|Zm<|Zw<|Ww<|Ya rfl<|lV (.int .u64 (Uw .u64 (u64.wrap (al+(u64.wrap (ad * (u64.wrap az))))) 4294967295)) (Zl8 (u64.wrap (al+(u64.wrap (ad * (u64.wrap az))))) 4294967295 rfl rfl)<|Ya rfl<|lV _ (Sd _ _ rfl rfl)<|Yq rfl<|Zm<|Zw<|Ww<|Yq rfl<|Zm<|Zw ?_;refine Wp.cutK [0,1,11,13,5,7,87,88,89,9,1000000] (fun f c8=>∃ c9 da,Zd1 j0 n0 ad an a5 ak al (Ub j0 n0 ab ad c3) az da=some r∧St w0 (Xv [qc0] col) c9 c8∧Zb (Za.int .u32) 77 440 c9 c8 a0 ae an∧[10].map f=[.int .u64 da]) ?_ ?_
    ·intro f c8 hJ;obtain ⟨c9,da,hm,aa,ah,hs⟩:=hJ;rw [Zd1.eq_1] at hm;refine .lL [10] hs<|go ?_;obtain ⟨e0,hm⟩:=Z2 hm;obtain ⟨e1,e2,hm⟩:=bZ hm;refine lV (Xy a0 (Int.toNat ((j0:Int)+(ak:Int)) * 1)) (Vd underlying31 sizeOf77 rfl rfl e0.1 e0.2 (ah.addr e2))<|lW (ah.atInt e2)<|go ?_;obtain ⟨e3,hm⟩:=Z2 hm;obtain ⟨he,e4,hm⟩:=bZ hm;refine lV (Xy a0 (Int.toNat ((j0:Int)+(ak:Int)) * 1)) (Vd underlying31 sizeOf77 rfl rfl e3.1 e3.2 (ah.addr e4)) ?_;obtain ⟨db,bv,hm⟩:=bZ hm;have bv:db=an.set (Int.toNat ((j0:Int)+(ak:Int))) (u32.wrap (e1 - (u32.wrap (u64.wrap ((Uw .u64 (u64.wrap (al+(u64.wrap (ad * (u64.wrap az))))) 4294967295)+a5))))):=(Option.some.inj bv).symm;refine Y0 (x1:=u32.wrap (e1 - (u32.wrap (u64.wrap ((Uw .u64 (u64.wrap (al+(u64.wrap (ad * (u64.wrap az))))) 4294967295)+a5))))) ah e4 ?_;intro hf gl gm e5;rw [← bv] at e5;have e6:db.length=ac.length:=(show an.length=db.length by rw [bv,List.length_set]).symm.trans ee;refine go ?_;refine lV (.int .u64 (Yc .u64 (u64.wrap (al+(u64.wrap (ad * (u64.wrap az))))) 32)) (Tr (u64.wrap (al+(u64.wrap (ad * (u64.wrap az))))) 32 rfl rfl (by decide))<|go ?_;replace aa:=aa.kp gl gm;exact ⟨rfl,_,_,_,_,hm,aa,e5,e6,e6,rfl⟩
    refine go ?_;obtain ⟨e7,hm⟩:=Z2 hm;obtain ⟨hg,e8,hm⟩:=bZ hm;refine lV (Xy a0 (Int.toNat ((j0:Int)+(ak:Int)) * 1)) (Vd underlying31 sizeOf77 rfl rfl e7.1 e7.2 (ah.addr e8))<|lW (ah.atInt e8)<|go ?_;refine Zp hm (fun hb hm=>go ?_) fun hb hm=>?_
    ·exact ⟨rfl,_,1,hm,aa,ah,rfl⟩
    refine Yd ?_;exact ⟨rfl,_,0,hm,aa,ah,rfl⟩
  refine Vy (col:=ao) (by kernel_rfl) (by kernel_rfl)<|go ?_;refine Xz hm (fun bw hm=>go ?_) fun bw hm=>go ?_
  ·refine Ud 54 rfl rfl rfl rfl<|Ud 54 rfl rfl rfl rfl<|Ud 54 rfl rfl rfl rfl<|Ud 54 rfl rfl rfl rfl<|Ud 54 rfl rfl rfl rfl<|Ud 54 rfl rfl rfl rfl<|Ud 54 rfl rfl rfl rfl<|Ud 54 rfl rfl rfl rfl<|Ud 54 rfl rfl rfl rfl<|Ud 54 rfl rfl rfl rfl<|Ud 54 rfl rfl rfl rfl<|Ud 54 rfl rfl rfl rfl<|Ud 54 rfl rfl rfl rfl<|Ud 54 rfl rfl rfl rfl<|Ud 54 rfl rfl rfl rfl<|Ud 54 rfl rfl rfl rfl<|Ud 54 rfl rfl rfl rfl<|Ud 54 rfl rfl rfl rfl<|go ?_;refine qv (v:=(.bool true)) rfl (fun _ hC=>Xm (congrArg Value.bool bw) rfl) ?_;refine Wn ?_;intro hh hC;replace hC:=hC.bl ao;replace h0:=h0.gr hC;replace aa:=aa.grow hC;exact ⟨rfl,_,_,hm,aa,h0,rfl⟩
  refine Xz hm (fun dc hm=>go ?_) fun dc hm=>go ?_
  ·obtain ⟨e9,dd,hm⟩:=bZ hm;refine qI dd ((h1.ks aa).addr dd) ?_;refine go ?_;refine qW (fun _ hC=>((h1.ks aa).gr (hC.bl ao)).atInt dd) ?_;refine go ?_;refine qv (v:=(.int .u64 (Xt .u64 ap 32))) rfl (fun _ hC=>Zc3 ap 32 rfl rfl (by decide)) ?_;refine go ?_;obtain ⟨fa,hm⟩:=Z2 hm;obtain ⟨fb,fc,hm⟩:=bZ hm;refine qv (v:=(Xy a0 (Int.toNat ((j0:Int)+(i64.wrap ((ab.length:Int) - 2))) * 1))) rfl (fun _ hC=>Vd underlying31 sizeOf77 rfl rfl fa.1 fa.2 (h0.addr fc)) ?_;refine go ?_;refine qW (fun _ hC=>(h0.gr (hC.bl ao)).atInt fc) ?_;refine go ?_;refine qv (v:=(.bool (decide ((Yu .u64 (Xt .u64 ap 32) (u64.wrap fb))<(u64.wrap (ad * (u64.wrap e9))))))) rfl (fun _ hC=>Xm (congrArg Value.bool dc) rfl) ?_;refine qv (v:=(.bool (decide ((Yu .u64 (Xt .u64 ap 32) (u64.wrap fb))<(u64.wrap (ad * (u64.wrap e9))))))) rfl (fun _ hC=>Xd (congrArg Value.bool bw) rfl) ?_;refine Wn ?_;intro hi hC;replace hC:=hC.bl ao;replace h0:=h0.gr hC;replace aa:=aa.grow hC;exact ⟨rfl,_,_,hm,aa,h0,rfl⟩
  refine qv (v:=(.bool false)) rfl (fun _ hC=>Xd (congrArg Value.bool dc) rfl) ?_;refine qv (v:=(.bool false)) rfl (fun _ hC=>Xd (congrArg Value.bool bw) rfl) ?_;refine Wn ?_;intro hj hC;replace hC:=hC.bl ao;replace h0:=h0.gr hC;replace aa:=aa.grow hC;exact ⟨rfl,_,_,hm,aa,h0,rfl⟩
def Zk4 (aa:Int) (kk_L2:(List Int→Int→Option R9)) (ab:List Int):Option R9:=
  kk_L2 ab (i64.wrap (aa+1))
def Zgd (ab:Int) (ac:List Int) (aa:Int) (kk_L2:(List Int→Int→Option R9)) (ad:Int):Option R9:=
  (Zn ac aa).bind fun ae=>Z0 (0≤ab) ((some (ac.set (Int.toNat aa) (u32.wrap (Yc .u64 (Yu .u64 (Xt .u64 (u64.wrap ad) 32) (u64.wrap ae)) ab)))).bind fun af=>Zk4 aa kk_L2 af)
def Sv (N:Nat) (ac:Int) (ad:List Int) (ae:List Int):Nat→R2→Int→Option R9
  | 0,_,_=>none
  | af+1,aa,ab=>if (decide (ab<(ae.length:Int)))=true then (if (decide ((i64.wrap (ab+1))<(aa.length:Int)))=true then ((Zn aa (i64.wrap (ab+1))).bind fun ag=>Zgd ac aa ab (Sv N ac ad ae af) ag) else (Zgd ac aa ab (Sv N ac ad ae af) 0)) else ((V5 N ad).bind fun ah=>(V5 N aa).bind fun ai=>some (ah,ai,0))
termination_by structural x=>x
def Zdy (N:Nat) (ae:Int) (ab:List Int):Nat→R2→R2→Int→Option R9
  | 0,_,_,_=>none
  | ah+1,ac,ad,aa=>if (decide (0≤aa))=true then (Z0 ((0:Int)≤aa∧aa<(i64.wrap ((i64.wrap (aa+(ab.length:Int)))+1))∧(i64.wrap ((i64.wrap (aa+(ab.length:Int)))+1))≤(ac.length:Int)) ((Zgf N (Int.toNat aa) ((Int.toNat (i64.wrap ((i64.wrap (aa+(ab.length:Int)))+1))) - (Int.toNat aa)) ac ab).bind fun af=>(Zn ad aa).bind fun aj=>(some (ad.set (Int.toNat aa) af.1)).bind fun ai=>(Zdy N ae ab ah) af.2 ai (i64.wrap (aa - 1)))) else ((Zcr N ac).bind fun ag=>Sv N ae ad ag N ag 0)
termination_by structural x=>x
def Zcl (N:Nat) (ae:List Int) (af:List Int):Option R9:=
  (Um N ae).bind fun ab=>(Um N af).bind fun aa=>if (decide ((aa.length:Int)=0))=true then (some (([]:List Int),([]:List Int),11)) else ((Zck N ab aa).bind fun ag=>if (decide (ag<0))=true then ((V5 N ab).bind fun ah=>some (([]:List Int),ah,0)) else (if (decide ((aa.length:Int)=1))=true then ((Zcz ab).bind fun ai=>(Zn aa 0).bind fun aj=>(Zgi N ai aj).bind fun ad=>(V5 N ad.2).bind fun ak=>(V5 N [ad.1]).bind fun al=>some (ak,al,0)) else ((Zn aa (i64.wrap ((aa.length:Int) - 1))).bind fun am=>(Zh9 am).bind fun ac=>(Zd2 ab ac).bind fun an=>(Zd2 aa ac).bind fun ao=>(Zcr N ao).bind fun ap=>Z0 ((Int.toNat (i64.wrap ((i64.wrap ((ab.length:Int) - (aa.length:Int)))+1))) * 4≤281474976710656∧(Int.toNat (i64.wrap ((i64.wrap ((ab.length:Int) - (aa.length:Int)))+1)))≤maxLen∧0≤(i64.wrap ((i64.wrap ((ab.length:Int) - (aa.length:Int)))+1))) (Zdy N ac ap N an (List.replicate (Int.toNat (i64.wrap ((i64.wrap ((ab.length:Int) - (aa.length:Int)))+1))) (0:Int)) (i64.wrap (((List.replicate (Int.toNat (i64.wrap ((i64.wrap ((ab.length:Int) - (aa.length:Int)))+1))) (0:Int)).length:Int) - 1))))))
theorem Zkb {N bu bv:Nat} {a0 a1:Option Addr} {col:Zd} {w0:World} {be bf:R2} {r:R9} (c1 c2:Nat) (hm:Zcl N be bf=some r) (h0:Sl (Za.int .u32) col w0 a0 bu be) (h1:Sl (Za.int .u32) col w0 a1 bv bf):
    Calls Tryz.prog 114 #[.slice a0 be.length bu,.slice a1 bf.length bv] w0 (fun e w'=>∃ (col':Zd) (ra1:Option Addr) (rc2:Nat) (ra4:Option Addr) (rc5:Nat),e= .returned (.tuple #[.slice ra1 r.1.length rc2,.slice ra4 r.2.1.length rc5,.int .i64 r.2.2])∧Zg col w0 col' w'∧Zb (Za.int .u32) 77 c1 col' w' ra1 rc2 r.1∧Zb (Za.int .u32) 77 c2 col' w' ra4 rc5 r.2.1):=by
 refine Zni 4 5 6 (m:=122) (args:=[.slice a0 be.length bu,.slice a1 bf.length bv]) func114 rfl rfl rfl rfl rfl ?_;rw [Zcl.eq_1] at hm;have aa:=St.start col w0;refine go ?_;obtain ⟨cx,cy,hm⟩:=bZ hm;replace h0:=h0.keep (Zl.start col w0);refine Zi (Ty cy (h0.ks aa)) ?_;rintro _ eb ⟨ec,ed,ee,rfl,cz,af⟩;refine ⟨_,rfl,?_⟩;refine Wk rfl ?_;obtain ⟨c0,c3,hm⟩:=bZ hm;replace h1:=h1.keep (Zl.start col w0);replace aa:=aa.grow cz;refine Zi (Ty c3 (h1.ks aa)) ?_;rintro _ c4 ⟨ay,ef,eg,rfl,cj,ac⟩;refine ⟨_,rfl,go ?_⟩;replace af:=af.gr cj;replace aa:=aa.grow cj;refine Zp hm (fun hb hm=>go ?_) fun hb hm=>go ?_
 ·cases hm;exact ⟨rfl,_,none,0,none,0,rfl,aa.fin (cm []),Zb.nil,Zb.nil⟩
 obtain ⟨eh,c5,hm⟩:=bZ hm;refine Zi (Zka c5 af ac) ?_;rintro _ ck ⟨rfl,az⟩;refine ⟨_,rfl,?_⟩;replace az:Zg ay c4 ay ck:=.of_below az;refine go ?_;replace af:=af.gr az;replace ac:=ac.gr az;replace aa:=aa.grow az;refine Zp hm (fun hb hm=>go ?_) fun hb hm=>go ?_
 ·obtain ⟨ei,c6,hm⟩:=bZ hm;refine Zi (U6 1 c6 af) ?_;rintro _ ej ⟨ek,el,em,rfl,c7,c8⟩;refine ⟨_,rfl,go ?_⟩;cases hm;replace aa:=aa.grow c7;exact ⟨rfl,_,none,0,_,_,rfl,aa.fin (cm [(1,c2)]),Zb.nil,aa.fo c8⟩
 refine Zp hm (fun hb hm=>go ?_) fun hb hm=>go ?_
 ·obtain ⟨cl,c9,hm⟩:=bZ hm;refine Zi (Zke 2 c9 af) ?_;rintro _ en ⟨eo,bg,bh,rfl,cn,da⟩;refine ⟨_,rfl,go ?_⟩;obtain ⟨ep,bw,hm⟩:=bZ hm;replace ac:=ac.gr cn;refine lI bw (ac.addr bw)<|lW (ac.atInt bw) ?_;obtain ⟨a2,db,hm⟩:=bZ hm;refine Zi (Zq0 2 db rfl da) ?_;rintro _ dc ⟨bx,rfl,dd,de,co⟩;refine ⟨_,rfl,?_⟩;refine .ld (d:=7) (v:=(.slice bg a2.2.length bh)) (congrArg (fun n=>Value.slice bg n bh) (show cl.length=a2.2.length from co.symm)) ?_;refine .ld (d:=34) (v:=(.slice bg a2.2.length bh)) (congrArg (fun n=>Value.slice bg n bh) (show cl.length=a2.2.length from co.symm)) ?_;refine go ?_;obtain ⟨eq,df,hm⟩:=bZ hm;refine Zi (U6 3 df (de.toSlF (Ze.int .u32))) ?_;rintro _ er ⟨dg,es,et,rfl,bi,a3⟩;refine ⟨_,rfl,?_⟩;replace a3:=a3.thaw (Zs .u32) bi ((Fz.refl (col:=bx)).froz 2) (by decide);replace bi:=bi.thawR (col:=bx);generalize Z1 dc.heap.size bx dg=dh at *;refine Ya rfl<|W6 (col:=dh) [a2.1] 4 ?_;intro eu di bz cp dj;obtain ⟨ew,dl,hm⟩:=bZ hm;refine Zi (U6 5 dl (dj.toSlF (Ze.int .u32))) ?_;rintro _ ey ⟨dm,ez,e0,rfl,a4,b0⟩;refine ⟨_,rfl,?_⟩;replace b0:=b0.thaw (Zs .u32) a4 ((Fz.refl (col:=bz)).froz 4) (by decide);replace a4:=a4.thawR (col:=bz);generalize Z1 di.heap.size bz dm=e1 at *;refine go ?_;cases hm;replace aa:=((((aa.grow cn).kpp dd).grow bi).grow cp).grow a4;replace a3:=(a3.gr cp).gr a4;exact ⟨rfl,_,_,_,_,_,rfl,aa.fin (cm [(3,c1),(5,c2)]),aa.fo a3,aa.fo b0⟩
 obtain ⟨e2,b1,hm⟩:=bZ hm;refine lI b1 (ac.addr b1)<|lW (ac.atInt b1) ?_;obtain ⟨ah,dn,hm⟩:=bZ hm;refine Zi (Zyn (col:=ay) dn) ?_;rintro _ dp ⟨rfl,a5⟩;refine ⟨_,rfl,?_⟩;replace a5:Zg ay ck ay dp:=.of_below a5;refine go ?_;obtain ⟨e3,dq,hm⟩:=bZ hm;replace af:=af.gr a5;refine Zi (Zm9 6 dq af) ?_;rintro _ e4 ⟨e5,e6,e7,rfl,cq,a6⟩;refine ⟨_,rfl,go ?_⟩;obtain ⟨e8,dr,hm⟩:=bZ hm;replace ac:=(ac.gr a5).gr cq;refine Zi (Zm9 7 dr ac) ?_;rintro _ e9 ⟨fa,fb,fc,rfl,cr,ds⟩;refine ⟨_,rfl,?_⟩;obtain ⟨b2,dt,hm⟩:=bZ hm;refine Zi (Zna 7 dt rfl ds) ?_;rintro _ du ⟨dv,dw,dx,rfl,cs,ag⟩;refine ⟨_,rfl,go ?_⟩;obtain ⟨bj,hm⟩:=Z2 hm;refine To (col:=dv) (w:=du) (r:=(Za.int .u32)) (n:=(Int.toNat (i64.wrap ((i64.wrap ((cx.length:Int) - (c0.length:Int)))+1)))) (x0:=0) 8 rfl underlying31 Tryz.t77 rfl rfl rfl rfl rfl (congrArg (Value.int _) (Int.toNat_of_nonneg bj.2.2).symm) (congrArg (Value.int _) (Int.toNat_of_nonneg bj.2.2).symm) bj.1 bj.2.1 (Se .u32 0) ?_;intro fd fe ff b3 b4;refine go ?_;replace a6:=((a6.gr cr).kpp cs).gr b3;replace a6:=a6.froz 7 (by decide);replace ag:=ag.gr b3;replace ag:=(ag).toSlF (Ze.int .u32);replace b4:=b4.froz 7 (by decide);replace aa:=((((aa.grow a5).grow cq).grow cr).kpp cs).grow b3;replace aa:=aa.froz 7 (by decide) (by decide);refine Z5 [11,9,1000000] (fun n f a7=>∃ a8 ap aq a9 aj ak ad al ar,ar=n∧Zdy N ah b2 ar a9 ad al=some r∧St w0 (Zk col) a8 a7∧Zb (Za.int .u32) 77 6 a8 a7 ap aq a9∧Sl (Za.int .u32) a8 a7 dw dx b2∧Zb (Za.int .u32) 77 8 a8 a7 aj ak ad∧[10,12,13].map f=[.slice ap a9.length aq,.slice aj ad.length ak,.int .i64 al]) N ⟨_,_,_,_,_,_,_,_,_,rfl,hm,aa,a6,ag,b4,rfl⟩ ?_;clear hm;intro n f a7 hI;obtain ⟨a8,ap,aq,a9,aj,ak,ad,al,ar,hn,hm,aa,b5,ag,ab,hs⟩:=hI;subst hn;refine .lL [10,12,13] hs ?_
 cases ar with
 | zero=>rw [Zdy.eq_1] at hm;cases hm
 | succ ar=>
  rw [Zdy.eq_2] at hm;refine go ?_;refine Zp hm (fun hb hm=>go ?_) fun hb hm=>go ?_
  ·obtain ⟨b6,hm⟩:=Z2 hm;refine lV (.slice (ap.map (·.add ((Int.toNat al) * 1))) ((Int.toNat (i64.wrap ((i64.wrap (al+(b2.length:Int)))+1))) - (Int.toNat al)) (aq - (Int.toNat al))) (Z3h underlying31 sizeOf77 rfl rfl rfl b6.1 b6.2.1 (by have:=b5.lecap;have:=b6.2.2;omega))<|Wk rfl ?_;obtain ⟨bk,dy,hm⟩:=bZ hm;refine Zi (Zyy 6 dy rfl b5 ag) ?_;rintro _ fg ⟨fh,rfl,b7,b8,dz⟩;refine ⟨_,rfl,?_⟩;refine .ld (d:=10) (v:=(.slice ap bk.2.length aq)) (congrArg (fun n=>Value.slice ap n aq) (show a9.length=bk.2.length from dz.symm)) ?_;obtain ⟨fi,b9,hm⟩:=bZ hm;replace ab:=ab.kpp b7;refine lI b9 (ab.addr b9) ?_;obtain ⟨ca,bm,hm⟩:=bZ hm;have bm:ca=ad.set (Int.toNat al) bk.1:=(Option.some.inj bm).symm;refine Y0 (x1:=bk.1) ab b9 ?_;intro fj cb d0 ct;rw [← bm] at ct;refine .ld (d:=12) (v:=(.slice aj ca.length ak)) (congrArg (fun n=>Value.slice aj n ak) (show ad.length=ca.length by rw [bm,List.length_set])) ?_;refine go ?_;replace ag:=(ag.kpp b7).kp cb;replace aa:=(aa.kpp b7).kp cb d0;replace b8:=b8.kp cb;exact ⟨ar,by omega,rfl,⟨_,_,_,_,_,_,_,_,_,rfl,hm,aa,b8,ag,ct,rfl⟩⟩
  obtain ⟨cc,d1,hm⟩:=bZ hm;refine Zi (Zna 6 d1 rfl b5) ?_;rintro _ fk ⟨fl,fm,fn,rfl,cu,d2⟩;refine ⟨_,rfl,go ?_⟩;replace ab:=ab.kpp cu;replace aa:=aa.kpp cu;refine Z5 [12,88,9,1000000] (fun n f ba=>∃ ao au av am aw an,an=n∧Sv N ah ad cc an am aw=some r∧St w0 (Zk col) ao ba∧Zb (Za.int .u32) 77 6 ao ba au av am∧Zb (Za.int .u32) 77 8 ao ba aj ak ad∧[10,89].map f=[.slice au am.length av,.int .i64 aw]) N ⟨_,_,_,_,0,_,rfl,hm,aa,d2,ab,rfl⟩ ?_;clear hm;intro n f ba hI;obtain ⟨ao,au,av,am,aw,an,hn,hm,aa,ae,ab,hs⟩:=hI;subst hn;refine .lL [10,89] hs ?_
  cases an with
  | zero=>rw [Sv.eq_1] at hm;cases hm
  | succ an=>
   rw [Sv.eq_2] at hm;refine go ?_;refine Zp hm (fun hb hm=>?_) fun hb hm=>go ?_
   ·refine Yd<|Zw ?_;refine Wp.cutK [12,88,89,9,1000000] (fun f bn=>∃ bo cd ce bp,Zk4 aw (Sv N ah ad cc an) bp=some r∧St w0 (Zk col) bo bn∧Zb (Za.int .u32) 77 6 bo bn cd ce bp∧Zb (Za.int .u32) 77 8 bo bn aj ak ad∧[10].map f=[.slice cd bp.length ce]) ?_ ?_
    ·intro f bn hJ;obtain ⟨bo,cd,ce,bp,hm,aa,d3,ab,hs⟩:=hJ;rw [Zk4.eq_1] at hm;refine .lL [10] hs<|go ?_;exact ⟨an,by omega,rfl,⟨_,_,_,_,_,_,rfl,hm,aa,d3,ab,rfl⟩⟩
    refine Zhe<|Zw<|Ww<|Ya rfl<|Yq rfl<|Zm<|Zw<|Ww<|Yq rfl<|Zm<|Zw ?_;refine Wp.cutK [10,12,14,88,89,9,1000000] (fun f bq=>∃ br ai,Zgd ah am aw (Sv N ah ad cc an) ai=some r∧St w0 (Zk col) br bq∧Zb (Za.int .u32) 77 6 br bq au av am∧Zb (Za.int .u32) 77 8 br bq aj ak ad∧[15].map f=[.int .u32 ai]) ?_ ?_
    ·intro f bq hJ;obtain ⟨br,ai,hm,aa,ae,ab,hs⟩:=hJ;rw [Zgd.eq_1] at hm;refine .lL [15] hs<|go ?_;refine lV (.int .u64 (Xt .u64 (u64.wrap ai) 32)) (Zc3 (u64.wrap ai) 32 rfl rfl (by decide))<|go ?_;obtain ⟨bs,ax,hm⟩:=bZ hm;refine lI ax (ae.addr ax)<|lW (ae.atInt ax) ?_;refine go ?_;obtain ⟨d4,hm⟩:=Z2 hm;refine lV (.int .u64 (Yc .u64 (Yu .u64 (Xt .u64 (u64.wrap ai) 32) (u64.wrap bs)) ah)) (Tr (Yu .u64 (Xt .u64 (u64.wrap ai) 32) (u64.wrap bs)) ah rfl rfl d4)<|go ?_;refine lI ax (ae.addr ax) ?_;obtain ⟨cf,bt,hm⟩:=bZ hm;have bt:cf=am.set (Int.toNat aw) (u32.wrap (Yc .u64 (Yu .u64 (Xt .u64 (u64.wrap ai) 32) (u64.wrap bs)) ah)):=(Option.some.inj bt).symm;refine Y0 (x1:=u32.wrap (Yc .u64 (Yu .u64 (Xt .u64 (u64.wrap ai) 32) (u64.wrap bs)) ah)) ae ax ?_;intro fp cv d5 cw;rw [← bt] at cw;refine .ld (d:=10) (v:=(.slice au cf.length av)) (congrArg (fun n=>Value.slice au n av) (show am.length=cf.length by rw [bt,List.length_set])) ?_;refine Zm ?_;replace ab:=ab.kp cv;replace aa:=aa.kp cv d5;exact ⟨rfl,_,_,_,_,hm,aa,cw,ab,rfl⟩
    refine go ?_;refine Zp hm (fun hb hm=>go ?_) fun hb hm=>?_
    ·obtain ⟨fq,cg,hm⟩:=bZ hm;refine lI cg (ae.addr cg)<|lW (ae.atInt cg) ?_;refine go ?_;exact ⟨rfl,_,_,hm,aa,ae,ab,rfl⟩
    refine Yd ?_;exact ⟨rfl,_,0,hm,aa,ae,ab,rfl⟩
   obtain ⟨fr,d6,hm⟩:=bZ hm;refine Zi (U6 9 d6 (ab.toSlF (Ze.int .u32))) ?_;rintro _ d7 ⟨d8,ft,fu,rfl,bb,bc⟩;refine ⟨_,rfl,?_⟩;replace bc:=bc.thaw (Zs .u32) bb ((Fz.refl (col:=ao)).froz 8) (by decide);replace bb:=bb.thawR (col:=ao);generalize Z1 ba.heap.size ao d8=ch at *;refine Wk rfl ?_;obtain ⟨fv,d9,hm⟩:=bZ hm;replace ae:=ae.gr bb;refine Zi (U6 10 d9 (ae.toSlF (Ze.int .u32))) ?_;rintro _ fw ⟨ea,fx,fy,rfl,bd,ci⟩;refine ⟨_,rfl,?_⟩;replace ci:=ci.thaw (Zs .u32) bd ((Fz.refl (col:=ch)).froz 6) (by decide);replace bd:=bd.thawR (col:=ch);generalize Z1 d7.heap.size ch ea=fz at *;refine go ?_;cases hm;replace aa:=(aa.grow bb).grow bd;replace bc:=bc.gr bd;exact ⟨rfl,_,_,_,_,_,rfl,aa.fin (cm [(9,c1),(10,c2)]),aa.fo bc,aa.fo ci⟩
def Zdw (N:Nat) (ab:List Int):Option Int:=
  (Um N ab).bind fun aa=>if (decide ((aa.length:Int)=0))=true then (some 0) else ((Zn aa (i64.wrap ((aa.length:Int) - 1))).bind fun ac=>(Zf1 ac).bind fun ad=>some (i64.wrap ((i64.wrap (32 * (i64.wrap ((aa.length:Int) - 1))))+ad)))
theorem Zm6 {N af:Nat} {a0:Option Addr} {col:Zd} {w0:World} {ab:R2} {r:Int} (hm:Zdw N ab=some r) (h0:Sl (Za.int .u32) col w0 a0 af ab):
    Calls Tryz.prog 37 #[.slice a0 ab.length af] w0 (fun e w'=>e= .returned ((.int .i64 r))∧Below w0.heap.size w0 w'):=by
 refine Xl 2 (m:=20) func37 rfl rfl rfl rfl rfl ?_;rw [Zdw.eq_1] at hm;have aa:=St.start col w0;refine go ?_;obtain ⟨am,ah,hm⟩:=bZ hm;replace h0:=h0.keep (Zl.start col w0);refine Zi (Ty ah (h0.ks aa)) ?_;rintro _ ai ⟨ac,an,ao,rfl,aj,ag⟩;refine ⟨_,rfl,go ?_⟩;replace aa:=aa.grow aj;refine Zp hm (fun hb hm=>go ?_) fun hb hm=>go ?_
 ·cases hm;exact ⟨rfl,rfl,aa.below⟩
 obtain ⟨ap,ad,hm⟩:=bZ hm;refine lI ad (ag.addr ad)<|lW (ag.atInt ad) ?_;obtain ⟨aq,ak,hm⟩:=bZ hm;refine Zi (Zqw (col:=ac) ak) ?_;rintro _ al ⟨rfl,ae⟩;refine ⟨_,rfl,?_⟩;replace ae:Zg ac ai ac al:=.of_below ae;refine go ?_;cases hm;replace aa:=aa.grow ae;exact ⟨rfl,rfl,aa.below⟩
def Xe (n:Nat):Nat:=if n=0 then 0 else n.log2+1
theorem Zew:Xe 0=0:=rfl
theorem Zqo {n k:Nat} (h:2 ^ k≤n) (h2:n<2 ^ (k+1)):Xe n=k+1:=by
 have h0:n≠0:=by have:=Nat.two_pow_pos k;omega
 rw [Xe,if_neg h0,(Nat.log2_eq_iff h0).2 ⟨h,h2⟩]
theorem Zj7 {n:Nat} (h:n≠0):∃ k,Xe n=k+1∧2 ^ k≤n∧n<2 ^ (k+1):=by
 refine ⟨n.log2,by rw [Xe,if_neg h],?_⟩
 exact (Nat.log2_eq_iff h).1 rfl
theorem V1 {n k:Nat}:Xe n≤k↔n<2 ^ k:=by
 by_cases h:n=0
 ·subst h;simp [Zew,Nat.two_pow_pos]
 ·obtain ⟨j,e,h1,h2⟩:=Zj7 h
  rw [e]
  constructor
  ·intro hk;exact Nat.lt_of_lt_of_le h2 (Nat.pow_le_pow_right (by decide) hk)
  ·intro hk
   have:=(Nat.pow_lt_pow_iff_right (a:=2) (by decide)).1 (Nat.lt_of_le_of_lt h1 hk)
   omega
theorem Zhn (n k:Nat):Xe (n / 2 ^ k)=Xe n - k:=by
 by_cases h:n / 2 ^ k=0
 ·have h1:n<2 ^ k:=by
   have:=Nat.two_pow_pos k
   rcases Nat.div_eq_zero_iff.1 h with h | h
   ·omega
   ·exact h
  have:=V1.2 h1
  rw [h,Zew];omega
 ·obtain ⟨j,e,h1,h2⟩:=Zj7 h
  have hp:=Nat.two_pow_pos k
  have h3:2 ^ (j+k)≤n:=by
   rw [Nat.pow_add]
   exact (Nat.le_div_iff_mul_le hp).1 h1
  have h4:n<2 ^ (j+k+1):=by
   have:=(Nat.div_lt_iff_lt_mul hp).1 h2
   rw [show j+k+1=(j+1)+k by omega,Nat.pow_add];exact this
  rw [e,Zqo h3 h4];omega
theorem Z1q:∀ x:Fin 256,Zdr (x.val:Int) 0=some ((Xe x.val:Nat):Int):=by decide+kernel
theorem Ztl {x:Nat} (h:x<256) {n:Int} (hn:0≤n∧n≤24):Zdr (x:Int) n=some (n+(Xe x:Int)):=by
 have h0:=Z1q ⟨x,h⟩
 have hb:Xe x≤8:=V1.2 h
 rw [Zdr] at h0 ⊢
 revert h0
 generalize Zda _ _=o
 intro h0
 cases o with
 | none=>cases h0
 | some e=>
  rw [Option.bind_some] at h0 ⊢
  have h1:=Option.some.inj h0
  rw [IntKind.wrap_i64,IntKind.wrap_i64] at h1 ⊢
  congr 1
  simp only at h1
  omega
theorem Zmm (i:IntKind) (x k:Nat) (hk:k≤i.bits):Yc i (x:Int) (k:Int)=((x / 2 ^ k:Nat):Int):=by
 rw [Yc,Int.toNat_natCast,Nat.min_eq_left hk,Int.fdiv_eq_ediv_of_nonneg _ (Int.le_of_lt (Int.pow_pos (by decide)))]
 norm_cast
theorem Ztk {x:Nat} (h:x<4294967296):Zf1 (x:Int)=some ((Xe x:Nat):Int):=by
 have j1:∀ (y:Nat) (n:Int),y<65536→0≤n∧n≤16→Zf2 (y:Int) n=some (n+(Xe y:Int)):=fun y n hy hn=>by
  rw [Zf2]
  by_cases h1:256≤y
  ·have e:=Zmm .u32 y 8 (by decide)
   have hb:=Zhn y 8
   have hb8:8≤Xe y:=by
    have:¬ Xe y≤7:=fun h=>by have:=V1.1 h;omega
    omega
   rw [if_pos (by simp;omega),show (8:Int)=((8:Nat):Int) from rfl,e,Ztl (by omega) (by rw [Z4 (by omega)];omega),Z4 (by omega),hb]
   congr 1;omega
  ·rw [if_neg (by simp;omega),Ztl (by omega) (by omega)]
 rw [Zf1]
 by_cases h1:65536≤x
 ·have e:=Zmm .u32 x 16 (by decide)
  have hb:=Zhn x 16
  have hb8:16≤Xe x:=by
   have:¬ Xe x≤15:=fun h=>by have:=V1.1 h;omega
   omega
  rw [if_pos (by simp;omega),show (16:Int)=((16:Nat):Int) from rfl,e,j1 _ _ (by omega) (by omega),hb]
  congr 1;omega
 ·rw [if_neg (by simp;omega),j1 _ _ (by omega) (by omega)]
  congr 1;omega
theorem Zqq {a:List Int} {x:Int} (ha:Zo a) (hx:0<x∧x<4294967296):Xe (Zc (a++[x]))=32 * a.length+Xe x.toNat:=by
 obtain ⟨k,e,h1,h2⟩:=Zj7 (show x.toNat≠0 by omega)
 have hl:=S0 ha
 have e1:Zc (a++[x])=Zc a+4294967296 ^ a.length * x.toNat:=by rw [Sz,Y9,Ys];simp
 have e2:(4294967296:Nat) ^ a.length=2 ^ (32 * a.length):=by rw [show (4294967296:Nat)=2 ^ 32 by decide,← Nat.pow_mul]
 rw [e]
 have:=Zqo (n:=Zc (a++[x])) (k:=32 * a.length+k) (by
   rw [e1,e2,Nat.pow_add]
   have:=Nat.mul_le_mul_left (2 ^ (32 * a.length)) h1
   omega) (by
   rw [e1,show 32 * a.length+k+1=32 * a.length+(k+1) by omega,Nat.pow_add,e2]
   have:=Nat.mul_le_mul_left (2 ^ (32 * a.length)) (show x.toNat+1≤2 ^ (k+1) by omega)
   rw [Nat.mul_add] at this
   rw [e2] at hl
   omega)
 rw [this];omega
theorem Zj5 (n:Nat):32 * ((Zf n).length - 1)≤Xe n∧Xe n≤32 * (Zf n).length:=by
 have e:∀ k,(4294967296:Nat) ^ k=2 ^ (32 * k):=fun k=>by rw [show (4294967296:Nat)=2 ^ 32 by decide,← Nat.pow_mul]
 constructor
 ·by_cases h:32 * ((Zf n).length - 1)≤Xe n
  ·exact h
  ·exfalso
   have h1:=V1.1 (show Xe n≤32 * ((Zf n).length - 1) by omega)
   rw [← e] at h1
   have:=Wt.2 h1
   omega
 ·have:=Wt.1 (Nat.le_refl (Zf n).length)
  rw [e] at this
  exact V1.2 this
theorem Zxt {N:Nat} {a:List Int} (h:Zo a) (hn:a.length<N) (hb:a.length≤1099511627776):Zdw N a=some ((Xe (Zc a):Nat):Int):=by
 have hl:=Y2 h
 rw [Zdw,S6 h hn hb,Option.bind_some]
 by_cases h0:(Zf (Zc a)).length=0
 ·have:Zc a=0:=Zff.1 (List.eq_nil_of_length_eq_zero h0)
  rw [if_pos (by simp [h0]),this,Zew];rfl
 ·have hp:0<(Zf (Zc a)).length:=by omega
  have e:((Zf (Zc a)).length:Int) - 1=(((Zf (Zc a)).length - 1:Nat):Int):=by omega
  have hx:=(Xg (Zc a)).get (k:=(Zf (Zc a)).length - 1) (by omega)
  have hne:=Zks hp
  have hs:=Zfd hp
  have e2:(Zf (Zc a))[(Zf (Zc a)).length - 1]=(((Zf (Zc a))[(Zf (Zc a)).length - 1]).toNat:Int):=by omega
  rw [if_neg (by simpa using h0),Z4 (by omega),e,Xk (by omega),Option.bind_some,e2,Ztk (by omega),Option.bind_some]
  have hb:=Zqq (a:=(Zf (Zc a)).take ((Zf (Zc a)).length - 1)) (x:=(Zf (Zc a))[(Zf (Zc a)).length - 1]) ((Xg _).take _) (by omega)
  rw [hs,Z9,List.length_take,Nat.min_eq_left (by omega)] at hb
  have hb2:Xe ((Zf (Zc a))[(Zf (Zc a)).length - 1]).toNat≤32:=V1.2 (by omega)
  rw [Z4 (x:=32 * _) (by omega),Z4 (by omega),hb]
  congr 1
theorem Zex (w x:Nat) (h:x<2 ^ w):(BitVec.ofInt w (x:Int)).toNat=x:=by
 rw [BitVec.toNat_ofInt]
 have:((2 ^ w:Nat):Int)=(2:Int) ^ w:=by norm_cast
 rw [← Int.natCast_emod,Int.toNat_natCast,Nat.mod_eq_of_lt h]
theorem or64 (k a b:Nat) (h:b<2 ^ k) (hs:2 ^ k * a+b<18446744073709551616):Yu .u64 ((2 ^ k * a:Nat):Int) (b:Int)=((2 ^ k * a+b:Nat):Int):=by
 rw [Yu,BitVec.toNat_or,Zex _ _ (by simp only [IntKind.bits];omega),Zex _ _ (by simp only [IntKind.bits];omega),← Nat.two_pow_add_eq_or_of_lt h,IntKind.wrap_u64]
 omega
theorem or32 (k a b:Nat) (h:b<2 ^ k) (hs:2 ^ k * a+b<4294967296):Yu .u32 (b:Int) ((2 ^ k * a:Nat):Int)=((2 ^ k * a+b:Nat):Int):=by
 rw [Yu,BitVec.toNat_or,Zex _ _ (by simp only [IntKind.bits];omega),Zex _ _ (by simp only [IntKind.bits];omega),Nat.or_comm,← Nat.two_pow_add_eq_or_of_lt h,IntKind.wrap_u32]
 omega
theorem Z3y {x:Int} (h:0≤x∧x<4294967296):Xt .u64 x 32=x * 4294967296:=by
 have:(min (32:Int).toNat u64.bits)=32:=by decide
 rw [Xt,this,IntKind.wrap_u64]
 omega
theorem Zmq {r e:Int} (hr:0≤r∧r<4294967296) (he:0≤e∧e<4294967296):Yu .u64 (Xt .u64 r 32) e=r * 4294967296+e:=by
 rw [Z3y hr]
 have:=or64 32 r.toNat e.toNat (by omega) (by omega)
 rw [show ((2 ^ 32 * r.toNat:Nat):Int)=r * 4294967296 by omega,show ((e.toNat:Nat):Int)=e by omega] at this
 rw [this];omega
theorem Zc5 {l:List Int} {k j:Nat} (v:Int) (h:j≤k):(l.set k v).take j=l.take j:=by
 rw [List.take_set,List.set_eq_of_length_le]
 rw [List.length_take];omega
theorem Zwq (N:Nat) (d:Int) (hd:0<d∧d<4294967296):∀ (n j:Nat) (r:List Int) (c:Int),j≤r.length→j<n→r.length<4611686018427387904→Zo r→0≤c∧c<d→
  ∃ c' r',Zd3 N d n r c ((j:Int) - 1)=some (c',r')∧r'.length=r.length∧Zo r'∧0≤c'∧c'<d∧d.toNat * Zc r'+c'.toNat=Zc (r.take j)+4294967296 ^ j * (c.toNat+d.toNat * Zc (r.drop j))
 | 0,j,r,c,_,h,_,_,_=>by omega
 | n+1,j,r,c,hj,hn,hs,hr,hc=>by
  rw [Zd3.eq_2]
  by_cases h0:j=0
  ·subst h0
   rw [if_neg (by decide),Ug (by omega)]
   refine ⟨c,r,rfl,rfl,hr,hc.1,hc.2,?_⟩
   rw [List.take_zero,List.drop_zero,Ys];omega
  ·have e:(j:Int) - 1=((j - 1:Nat):Int):=by omega
   have hk:j - 1<r.length:=by omega
   have g:=hr.get hk
   rw [if_pos (by simp;omega),e,Xk hk,Option.bind_some,Xn (x:=d) (by omega),Xi (by omega),Option.bind_some,Xi (by omega),Int.toNat_natCast,Xn (x:=r[j - 1]) (by omega),Zmq (by omega) (by omega)]
   generalize hcur:c * 4294967296+r[j - 1]=cur
   have hcd:(c+1) * 4294967296≤d * 4294967296:=by omega
   have hq:0≤cur / d∧cur / d<4294967296:=⟨Int.ediv_nonneg (by omega) (by omega),Int.ediv_lt_of_lt_mul hd.1 (by rw [Int.mul_comm];omega)⟩
   have hm:=Int.emod_nonneg cur (show d≠0 by omega)
   have hm2:=Int.emod_lt_of_pos cur hd.1
   have hdm:=Int.mul_ediv_add_emod cur d
   rw [Int.tdiv_eq_ediv_of_nonneg (by omega),Int.tmod_eq_emod_of_nonneg (by omega),Xn (by omega),Ug hq,Z4 (by omega)]
   obtain ⟨c',r',q1,q2,q3,q4,q5,q6⟩:=Zwq N d hd n (j - 1) (r.set (j - 1) (cur / d)) (cur % d) (by rw [List.length_set];omega) (by omega) (by rw [List.length_set];exact hs) (hr.set _ hq) ⟨hm,hm2⟩
   refine ⟨c',r',q1,by rw [q2,List.length_set],q3,q4,q5,?_⟩
   rw [q6,Zc5 _ (Nat.le_refl _)]
   have t1:=Zo8 hk
   have t2:Zc ((r.set (j - 1) (cur / d)).drop (j - 1))=(cur / d).toNat+4294967296 * Zc (r.drop (j - 1+1)):=by
    rw [Un (by rw [List.length_set];exact hk),List.getElem_set_self,Zan _ (by omega)]
   rw [show j - 1+1=j by omega] at t1 t2
   rw [t1,t2]
   have hp:(4294967296:Nat) ^ j=4294967296 ^ (j - 1) * 4294967296:=by rw [← Nat.pow_succ,show (j - 1).succ=j by omega]
   rw [hp]
   have hn1:d.toNat * (cur / d).toNat+(cur % d).toNat=c.toNat * 4294967296+(r[j - 1]).toNat:=by
    have:((d.toNat * (cur / d).toNat:Nat):Int)=d * (cur / d):=by rw [Int.natCast_mul,Int.toNat_of_nonneg (by omega),Int.toNat_of_nonneg hq.1]
    omega
   generalize hQ:4294967296 ^ (j - 1)=Q
   have hn2:Q * (d.toNat * (cur / d).toNat+(cur % d).toNat)=Q * (c.toNat * 4294967296+(r[j - 1]).toNat):=by rw [hn1]
   grind
theorem Z30 {N:Nat} {a:List Int} {d:Int} (hd:0<d∧d<4294967296) (ha:Zo a) (hn:a.length<N) (hs:a.length≤1099511627776):
  ∃ q,Zgi N a d=some (((Zc a % d.toNat:Nat):Int),q)∧q.length=a.length∧Zo q∧Zc q=Zc a / d.toNat:=by
 obtain ⟨c',r',q1,q2,q3,q4,q5,q6⟩:=Zwq N d hd N a.length a 0 (Nat.le_refl _) hn (by omega) ha (by omega)
 have hd':0<d.toNat:=by omega
 rw [List.take_length,List.drop_length,Ys] at q6
 have h1:Zc a=c'.toNat+d.toNat * Zc r':=by simp at q6;omega
 have h2:Zc a % d.toNat=c'.toNat:=by rw [h1,Nat.add_mul_mod_self_left,Nat.mod_eq_of_lt (by omega)]
 have h3:Zc a / d.toNat=Zc r':=by rw [h1,Nat.add_mul_div_left _ _ hd',Nat.div_eq_of_lt (by omega),Nat.zero_add]
 refine ⟨r',?_,q2,q3,h3.symm⟩
 rw [Zgi,Z4 (by omega),q1,h2]
 congr 2;omega
theorem Zp4 {i:IntKind} {x s:Nat} (hs:s<32) (hi:i= .u32∨i= .u64):Xt i (x:Int) (s:Int)=i.wrap ((x * 2 ^ s:Nat):Int):=by
 rw [Xt,Int.toNat_natCast,Nat.min_eq_left (by rcases hi with rfl | rfl <;> simp only [IntKind.bits] <;> omega)]
 norm_cast
theorem Zxh (n:Nat):u32.wrap (n:Int)=((n % 4294967296:Nat):Int):=by rw [IntKind.wrap_u32];omega
theorem Zti (s:Nat) (hs:s<32):∀ (l:List Int) (k:Nat) (out:List Int),Zo l→out.length=k+l.length+1→out.length<4611686018427387904→Zo out→Zc (out.drop (k+1))=0→(∀ h:k<out.length,(out[k]).toNat<2 ^ s)→
  ∃ out',Zcq (s:Int) l k out=some out'∧out'.length=out.length∧Zo out'∧Zc out'=Zc out+4294967296 ^ k * (2 ^ s * Zc l)∧(∀ h:out'.length - 1<out'.length,(out'[out'.length - 1]).toNat<2 ^ s)
 | [],k,out,_,hl,_,ho,_,hk=>by
  rw [Zcq.eq_1]
  rw [List.length_nil] at hl
  refine ⟨out,rfl,rfl,ho,by rw [Ys];omega,fun h=>?_⟩
  have:=hk (by omega)
  simpa [hl] using this
 | x :: l,k,out,hx,hl,hz,ho,hd,hk=>by
  rw [List.length_cons] at hl
  have h0:k<out.length:=by omega
  have h1:k+1<out.length:=by omega
  have gx:=hx.head
  have gk:=ho.get h0
  have gs:=hk h0
  have hz1:=drop_zero ho h1 hd
  have e1:i64.wrap ((k:Int)+1)=((k+1:Nat):Int):=by rw [Z4 (by omega)];omega
  have ex:x=(x.toNat:Int):=by omega
  have ek:out[k]=((out[k]).toNat:Int):=by omega
  have pw:(2:Nat) ^ s * 2 ^ (32 - s)=4294967296:=by rw [← Nat.pow_add,show s+(32 - s)=32 by omega]
  have hps:=Nat.two_pow_pos s
  have hp2:=Nat.two_pow_pos (32 - s)
  -- the lower and the upper limb
  have hxs:x.toNat * 2 ^ s<4294967296 * 2 ^ s:=Nat.mul_lt_mul_of_pos_right (by omega) hps
  have hs31:2 ^ s≤2147483648:=by
   have:=Nat.pow_le_pow_right (n:=2) (by decide) (show s≤31 by omega)
   omega
  have hlow:(x.toNat * 2 ^ s) % 4294967296=2 ^ s * (x.toNat % 2 ^ (32 - s)):=by
   rw [← pw,Nat.mul_comm x.toNat,Nat.mul_mod_mul_left]
  have hlo:Yu .u32 out[k] (Xt .u32 x (s:Int))=(((x.toNat * 2 ^ s) % 4294967296+(out[k]).toNat:Nat):Int):=by
   rw [ex,Zp4 hs (.inl rfl),Zxh,ek]
   simp only [Int.toNat_natCast]
   rw [hlow]
   refine or32 s _ _ gs ?_
   have:2 ^ s * (x.toNat % 2 ^ (32 - s)+1)≤2 ^ s * 2 ^ (32 - s):=Nat.mul_le_mul_left _ (Nat.mod_lt _ hp2)
   rw [pw,Nat.mul_add] at this
   omega
  have hhi:u32.wrap (Yc .u64 (Xt .u64 (u64.wrap x) (s:Int)) 32)=((x.toNat * 2 ^ s / 4294967296:Nat):Int):=by
   rw [Xn (x:=x) (by omega),ex,Zp4 hs (.inr rfl),Zep,Xn (by omega)]
   simp only [Int.toNat_natCast]
   rw [Ug (by omega)]
   omega
  have hhs:x.toNat * 2 ^ s / 4294967296<2 ^ s:=(Nat.div_lt_iff_lt_mul (by decide)).2 (by rw [Nat.mul_comm (2 ^ s)];exact hxs)
  have hlow2:(x.toNat * 2 ^ s) % 4294967296+(out[k]).toNat<4294967296:=by
   rw [hlow]
   have:2 ^ s * (x.toNat % 2 ^ (32 - s)+1)≤2 ^ s * 2 ^ (32 - s):=Nat.mul_le_mul_left _ (Nat.mod_lt _ hp2)
   rw [pw,Nat.mul_add] at this
   omega
  rw [Zcq.eq_2,Xk h0,Option.bind_some,Xi (by omega),Option.bind_some,Xi (by omega),e1,Int.toNat_natCast,Int.toNat_natCast,
   Xk (by rw [List.length_set];exact h1),Option.bind_some,Option.bind_some,hlo,hhi]
  generalize hA:(x.toNat * 2 ^ s) % 4294967296+(out[k]).toNat=A at hlow2
  generalize hB:x.toNat * 2 ^ s / 4294967296=B at hhs
  have o1:Zo (out.set k (A:Int)):=ho.set _ (by omega)
  have o2:Zo ((out.set k (A:Int)).set (k+1) (B:Int)):=o1.set _ (by omega)
  obtain ⟨out',q1,q2,q3,q4,q5⟩:=Zti s hs l (k+1) ((out.set k (A:Int)).set (k+1) (B:Int)) hx.tail (by rw [List.length_set,List.length_set];omega) (by rw [List.length_set,List.length_set];exact hz) o2 (by
   rw [Zan _ (by omega),Zan _ (by omega)];exact hz1.2) (fun h=>by rw [List.getElem_set_self];simpa using hhs)
  refine ⟨out',q1,by rw [q2,List.length_set,List.length_set],q3,?_,q5⟩
  have v1:=Sa h0 (A:Int)
  have v2:=Sa (l:=out.set k (A:Int)) (k:=k+1) (by rw [List.length_set];exact h1) (B:Int)
  rw [List.getElem_set_ne (by omega),hz1.1] at v2
  rw [Int.toNat_natCast] at v1 v2
  rw [Int.toNat_zero,Nat.mul_zero,Nat.add_zero] at v2
  rw [q4,Y9]
  rw [Nat.pow_succ] at v2 ⊢
  have key:A+4294967296 * B=(out[k]).toNat+x.toNat * 2 ^ s:=by omega
  generalize 4294967296 ^ k=Q at *
  have key2:Q * (A+4294967296 * B)=Q * ((out[k]).toNat+x.toNat * 2 ^ s):=by rw [key]
  grind
theorem Ztj {a:List Int} {s:Nat} (hs:s<32) (ha:Zo a) (hb:a.length<1099511627776):
  ∃ o,Zd2 a (s:Int)=some o∧o.length=a.length+1∧Zo o∧Zc o=2 ^ s * Zc a∧∀ h:o.length - 1<o.length,(o[o.length - 1]).toNat<2 ^ s:=by
 rw [Zd2,Z4 (by omega),Xi (by simp only [maxLen];omega)]
 have e:Int.toNat ((a.length:Int)+1)=a.length+1:=by omega
 rw [e]
 obtain ⟨o,q1,q2,q3,q4,q5⟩:=Zti s hs a 0 (List.replicate (a.length+1) 0) ha (by rw [List.length_replicate];omega) (by rw [List.length_replicate];omega) (.zeros _) (by rw [List.drop_replicate];exact S1 _) (fun h=>by
  rw [List.getElem_replicate];exact Nat.two_pow_pos s)
 refine ⟨o,q1,by rw [q2,List.length_replicate],q3,?_,q5⟩
 rw [q4,S1,Nat.pow_zero];omega
theorem Z0c (g:Int) (u:List Int):Zii g u=Zba g u:=rfl
theorem Zr4 (j0 n0:Nat) (v:List Int) (g:Int):∀ (l:List Int) (k:Nat) (u:List Int) (c:Int),Zcp j0 n0 v g l k u c=T7 j0 n0 v (u64.wrap (g - 1)) l k u c
 | [],k,u,c=>by rw [Zcp.eq_1,T7.eq_1];rfl
 | x :: l,k,u,c=>by
  rw [Zcp.eq_2,T7.eq_2]
  simp only [Zr4 j0 n0 v g l]
theorem Zr3 (j0 n0:Nat) (v:List Int) (g:Int):∀ (l:List Int) (k:Nat) (u:List Int) (b c:Int),Qh j0 n0 v g l k u b c=Ub j0 n0 v (u64.wrap (g - 1)) l k u b c
 | [],k,u,b,c=>by
  rw [Qh.eq_1,Ub.eq_1]
  simp only [Zr4,Z0c]
 | x :: l,k,u,b,c=>by
  rw [Qh.eq_2,Ub.eq_2]
  simp only [Zij,Zd1,Zk7,Zik,Zr3 j0 n0 v g l]
theorem Ztz {x:Int} (h:0≤x∧x<18446744073709551616):Uw .u64 x 4294967295=x % 4294967296:=by
 have e:x=(x.toNat:Int):=by omega
 rw [Uw,BitVec.toNat_and,e,Zex _ _ (by simp only [IntKind.bits];omega),show (4294967295:Int)=((2 ^ 32 - 1:Nat):Int) by decide,Zex _ _ (by simp only [IntKind.bits];omega),Nat.and_two_pow_sub_one_eq_mod,IntKind.wrap_u64]
 omega
theorem Zxq (S S' S2 Q e v x c c' L T:Nat) (h1:S'+Q * e=S+Q * v) (h2:c+(e+x)=v+4294967296 * c') (h3:S2+T=S'+Q * 4294967296 * (c'+L)):S2+T=S+Q * (c+(x+4294967296 * L)):=by
 have:Q * (c+(e+x))=Q * (v+4294967296 * c'):=by rw [h2]
 grind
theorem Zht {l:List Int} {k j:Nat} (v:Int) (h:k<j):(l.set k v).drop j=l.drop j:=Zan v h
theorem Zr6 (j0:Nat) (v:List Int) (g:Int):∀ (l:List Int) (k:Nat) (u:List Int) (c:Int),Zo l→k+l.length=v.length→Zo u→j0+v.length<u.length→0≤c∧c≤1→
  ∃ u' co,T7 j0 (v.length+1) v g l k u c=some (u32.wrap (u64.wrap (g - 1)),u')∧u'.length=u.length∧Zo u'∧u'.take j0=u.take j0∧u'.drop (j0+v.length+1)=u.drop (j0+v.length+1)∧Zc u'+co * 4294967296 ^ (j0+v.length+1)=Zc u+4294967296 ^ (j0+k) * (c.toNat+Zc l)
 | [],k,u,c,_,hk,hu,hl,hc=>by
  have hk':k=v.length:=by simpa using hk
  subst hk'
  have g0:=hu.get hl
  rw [T7.eq_1,Xi (by omega),show (j0:Int)+(v.length:Int)=((j0+v.length:Nat):Int) by omega,Xk hl,Option.bind_some,Xi (by omega),Option.bind_some,Option.bind_some,Int.toNat_natCast,Zba,Ug (x:=c) (by omega)]
  have hw:0≤u32.wrap (u[j0+v.length]+c)∧u32.wrap (u[j0+v.length]+c)<4294967296:=by rw [IntKind.wrap_u32];omega
  refine ⟨_,((u[j0+v.length]+c) / 4294967296).toNat,rfl,by rw [List.length_set],hu.set _ hw,Zc5 _ (by omega),Zht _ (by omega),?_⟩
  have h1:=Sa hl (u32.wrap (u[j0+v.length]+c))
  have h2:(u[j0+v.length]).toNat+c.toNat=(u32.wrap (u[j0+v.length]+c)).toNat+4294967296 * ((u[j0+v.length]+c) / 4294967296).toNat:=by rw [IntKind.wrap_u32];omega
  rw [Nat.pow_succ,Ys]
  generalize 4294967296 ^ (j0+v.length)=Q at *
  have h3:Q * ((u[j0+v.length]).toNat+c.toNat)=Q * ((u32.wrap (u[j0+v.length]+c)).toNat+4294967296 * ((u[j0+v.length]+c) / 4294967296).toNat):=by rw [h2]
  grind
 | x :: l,k,u,c,hx,hk,hu,hl,hc=>by
  rw [List.length_cons] at hk
  have hjk:j0+k<u.length:=by omega
  have g0:=hu.get hjk
  have gx:=hx.head
  rw [T7.eq_2,Xi (by omega),show (j0:Int)+(k:Int)=((j0+k:Nat):Int) by omega,Xk hjk,Option.bind_some,Xi (by omega),Option.bind_some,Option.bind_some,Int.toNat_natCast,Xn (x:=u[j0+k]) (by omega),Xn (x:=x) (by omega),Xn (x:=u[j0+k]+x) (by omega),Xn (by omega),Zep]
  generalize hs:c+(u[j0+k]+x)=s
  have hw:0≤u32.wrap s∧u32.wrap s<4294967296:=by rw [IntKind.wrap_u32];omega
  obtain ⟨u',co,q1,q2,q3,q4,q5,q6⟩:=Zr6 j0 v g l (k+1) (u.set (j0+k) (u32.wrap s)) (s / 4294967296) hx.tail (by omega) (hu.set _ hw) (by rw [List.length_set];exact hl) (by omega)
  refine ⟨u',co,q1,by rw [q2,List.length_set],q3,by rw [q4,Zc5 _ (by omega)],by rw [q5,Zht _ (by omega)],?_⟩
  rw [Y9]
  rw [← Nat.add_assoc j0 k 1,Nat.pow_succ] at q6
  exact Zxq _ _ _ _ _ _ _ _ _ _ _ (Sa hjk _) (by rw [IntKind.wrap_u32];omega) q6
theorem Z2m (S S' S2 Q e w x g b b' c c' t L T:Nat) (h1:S'+Q * e=S+Q * w) (h2:c+g * x=t+4294967296 * c') (h3:e+4294967296 * b'=t+b+w) (h4:S2+Q * 4294967296 * (c'+b'+g * L)=S'+T):S2+Q * (c+b+g * (x+4294967296 * L))=S+T:=by
 have e1:Q * (c+g * x)=Q * (t+4294967296 * c'):=by rw [h2]
 have e2:Q * (e+4294967296 * b')=Q * (t+b+w):=by rw [h3]
 grind
theorem Zr5 (j0:Nat) (v:List Int) (g:Int) (hg:0≤g∧g<4294967296):∀ (l:List Int) (k:Nat) (u:List Int) (b c:Int),Zo l→k+l.length=v.length→Zo u→j0+v.length<u.length→0≤b∧b≤1→0≤c∧c<4294967296→
  ∃ u' over,over≤1∧Ub j0 (v.length+1) v g l k u b c=(if over=1 then T7 j0 (v.length+1) v g v 0 u' 0 else Zba g u')∧u'.length=u.length∧Zo u'∧u'.take j0=u.take j0∧u'.drop (j0+v.length+1)=u.drop (j0+v.length+1)∧
   Zc u'+4294967296 ^ (j0+k) * (c.toNat+b.toNat+g.toNat * Zc l)=Zc u+over * 4294967296 ^ (j0+v.length+1)
 | [],k,u,b,c,_,hk,hu,hl,hb,hc=>by
  have hk':k=v.length:=by simpa using hk
  subst hk'
  have g0:=hu.get hl
  rw [Ub.eq_1,Xi (by omega),show (j0:Int)+(v.length:Int)=((j0+v.length:Nat):Int) by omega,Xk hl,Option.bind_some,Xi (by omega),Option.bind_some,Xi (by omega),Option.bind_some,Option.bind_some,Int.toNat_natCast,Xn (x:=c+b) (by omega),Xn (x:=u[j0+v.length]) (by omega)]
  have hw:0≤u32.wrap (u[j0+v.length] - u32.wrap (c+b))∧u32.wrap (u[j0+v.length] - u32.wrap (c+b))<4294967296:=by rw [IntKind.wrap_u32];omega
  have h1:=Sa hl (u32.wrap (u[j0+v.length] - u32.wrap (c+b)))
  have fin:∀ over:Nat,(u[j0+v.length]).toNat+4294967296 * over=c.toNat+b.toNat+(u32.wrap (u[j0+v.length] - u32.wrap (c+b))).toNat→Zc (u.set (j0+v.length) (u32.wrap (u[j0+v.length] - u32.wrap (c+b))))+4294967296 ^ (j0+v.length) * (c.toNat+b.toNat+g.toNat * Zc [])=Zc u+over * 4294967296 ^ (j0+v.length+1):=fun over h2=>by
   rw [Nat.pow_succ,Ys]
   generalize 4294967296 ^ (j0+v.length)=Q at *
   have h3:Q * ((u[j0+v.length]).toNat+4294967296 * over)=Q * (c.toNat+b.toNat+(u32.wrap (u[j0+v.length] - u32.wrap (c+b))).toNat):=by rw [h2]
   grind
  by_cases hlt:u[j0+v.length]<c+b
  ·refine ⟨_,1,Nat.le_refl _,by rw [if_pos (by simpa using hlt),if_pos rfl],by rw [List.length_set],hu.set _ hw,Zc5 _ (by omega),Zht _ (by omega),fin 1 (by rw [IntKind.wrap_u32,IntKind.wrap_u32];omega)⟩
  ·refine ⟨_,0,by decide,by rw [if_neg (by simpa using hlt),if_neg (by decide)],by rw [List.length_set],hu.set _ hw,Zc5 _ (by omega),Zht _ (by omega),fin 0 (by rw [IntKind.wrap_u32,IntKind.wrap_u32];omega)⟩
 | x :: l,k,u,b,c,hx,hk,hu,hl,hb,hc=>by
  rw [List.length_cons] at hk
  have hjk:j0+k<u.length:=by omega
  have g0:=hu.get hjk
  have gx:=hx.head
  have hm:g * x≤4294967295 * 4294967295:=Int.mul_le_mul (by omega) (by omega) (by omega) (by omega)
  have hm0:0≤g * x:=Int.mul_nonneg hg.1 gx.1
  have hgx:((g.toNat * x.toNat:Nat):Int)=g * x:=by rw [Int.natCast_mul,Int.toNat_of_nonneg hg.1,Int.toNat_of_nonneg gx.1]
  rw [Ub.eq_2,Xi (by omega),show (j0:Int)+(k:Int)=((j0+k:Nat):Int) by omega,Xk hjk,Option.bind_some,Xn (x:=u[j0+k]) (by omega),Xn (x:=x) (by omega),Xn (x:=g * x) (by omega),Xn (x:=c+g * x) (by omega),Ztz (by omega)]
  generalize ht0:c+g * x=t0
  rw [Xn (x:=t0 % 4294967296+b) (by omega)]
  have fin:∀ b':Int,0≤b'∧b'≤1→u[j0+k]+4294967296 * b'=t0 % 4294967296+b+u32.wrap (u[j0+k] - u32.wrap (t0 % 4294967296+b))→
    ∃ u' over,over≤1∧Zd1 j0 (v.length+1) g u b k c (Ub j0 (v.length+1) v g l) x b'=(if over=1 then T7 j0 (v.length+1) v g v 0 u' 0 else Zba g u')∧u'.length=u.length∧Zo u'∧u'.take j0=u.take j0∧u'.drop (j0+v.length+1)=u.drop (j0+v.length+1)∧
     Zc u'+4294967296 ^ (j0+k) * (c.toNat+b.toNat+g.toNat * Zc (x :: l))=Zc u+over * 4294967296 ^ (j0+v.length+1):=fun b' hb' h3=>by
   have hw:0≤u32.wrap (u[j0+k] - u32.wrap (t0 % 4294967296+b))∧u32.wrap (u[j0+k] - u32.wrap (t0 % 4294967296+b))<4294967296:=by rw [IntKind.wrap_u32];omega
   obtain ⟨u',over,q0,q1,q2,q3,q4,q5,q6⟩:=Zr5 j0 v g hg l (k+1) (u.set (j0+k) (u32.wrap (u[j0+k] - u32.wrap (t0 % 4294967296+b)))) b' (t0 / 4294967296) hx.tail (by omega) (hu.set _ hw) (by rw [List.length_set];exact hl) hb' (by omega)
   refine ⟨u',over,q0,?_,by rw [q2,List.length_set],q3,by rw [q4,Zc5 _ (by omega)],by rw [q5,Zht _ (by omega)],?_⟩
   ·rw [Zd1,Xi (by omega),show (j0:Int)+(k:Int)=((j0+k:Nat):Int) by omega,Xk hjk,Option.bind_some,Xi (by omega),Option.bind_some,Option.bind_some,Int.toNat_natCast,Xn (x:=x) (by omega),Xn (x:=g * x) (by omega),Xn (x:=c+g * x) (by omega),Ztz (by omega),ht0,Xn (x:=t0 % 4294967296+b) (by omega),Zep,Zik]
    exact q1
   ·rw [Y9]
    rw [← Nat.add_assoc j0 k 1,Nat.pow_succ] at q6
    exact Z2m _ _ _ _ _ _ _ _ _ _ _ _ (t0 % 4294967296).toNat _ _ (Sa hjk _) (by omega) (by omega) q6
  by_cases hlt:u[j0+k]<t0 % 4294967296+b
  ·rw [if_pos (by simpa using hlt)]
   exact fin 1 (by omega) (by rw [IntKind.wrap_u32,IntKind.wrap_u32];omega)
  ·rw [if_neg (by simpa using hlt)]
   exact fin 0 (by omega) (by rw [IntKind.wrap_u32,IntKind.wrap_u32];omega)
structure Zhj (U V E v1 v2 u2 top lU lV:Nat):Prop where
 hU:U=lU+E * (u2+4294967296 * top)
 hV:V=lV+E * (v2+4294967296 * v1)
 lu:lU<E
 lv:lV<E
 b2:u2<4294967296
 c2:v2<4294967296
 c1:v1<4294967296
 big:2147483648≤v1
 lt:U<4294967296 * V
namespace Zhj
variable {U V E v1 v2 u2 top lU lV:Nat} (t:Zhj U V E v1 v2 u2 top lU lV)
include t
theorem Vpos:0<V:=by
 have:=t.lt
 have:=t.lu
 omega
theorem uE:U<E * 4294967296 * (top+1):=by
 have h1:E * (u2+1)≤E * 4294967296:=Nat.mul_le_mul_left _ t.b2
 have h2:=t.hU;have:=t.lu
 have e:E * (u2+4294967296 * top)=E * u2+E * 4294967296 * top:=by grind
 rw [e] at h2
 rw [Nat.mul_add] at h1 ⊢
 omega
theorem Eu:E * 4294967296 * top≤U:=by
 have h2:=t.hU
 have e:E * (u2+4294967296 * top)=E * u2+E * 4294967296 * top:=by grind
 omega
theorem vE:V<E * 4294967296 * (v1+1):=by
 have h1:E * (v2+1)≤E * 4294967296:=Nat.mul_le_mul_left _ t.c2
 have h2:=t.hV;have:=t.lv
 have e:E * (v2+4294967296 * v1)=E * v2+E * 4294967296 * v1:=by grind
 rw [Nat.mul_add] at h1 ⊢
 omega
theorem Ev:E * 4294967296 * v1≤V:=by
 have h2:=t.hV
 have e:E * (v2+4294967296 * v1)=E * v2+E * 4294967296 * v1:=by grind
 omega
theorem Epos:0<E:=by have:=t.lu;omega
theorem first:U / V≤top / v1:=by
 have hv:0<v1:=by have:=t.big;omega
 rw [Nat.le_div_iff_mul_le hv]
 have h1:U / V * V≤U:=Nat.div_mul_le_self U V
 have h2:U / V * (E * 4294967296 * v1)≤U / V * V:=Nat.mul_le_mul_left _ t.Ev
 have h3:E * 4294967296 * (U / V * v1)<E * 4294967296 * (top+1):=by
  have e:E * 4294967296 * (U / V * v1)=U / V * (E * 4294967296 * v1):=by
   generalize U / V=q
   grind
  rw [e]
  have:=t.uE
  omega
 have:=Nat.lt_of_mul_lt_mul_left h3
 omega
theorem quo:U / V<4294967296:=(Nat.div_lt_iff_lt_mul t.Vpos).2 t.lt
theorem great {g r:Nat} (h:g * v1+r=top) (h2:r * 4294967296+u2<g * v2):U / V<g:=by
 rw [Nat.div_lt_iff_lt_mul t.Vpos]
 have h3:u2+4294967296 * top+1≤g * (v2+4294967296 * v1):=by
  have:4294967296 * (g * v1+r)=4294967296 * top:=by rw [h]
  have e:g * (v2+4294967296 * v1)=g * v2+4294967296 * (g * v1):=by grind
  rw [e];omega
 have h4:=Nat.mul_le_mul_left E h3
 have h5:E * (g * (v2+4294967296 * v1))≤g * V:=by
  have:=t.hV
  have e:g * V=g * lV+E * (g * (v2+4294967296 * v1)):=by rw [this];grind
  omega
 have:=t.hU;have:=t.lu
 rw [Nat.mul_add] at h4
 omega
theorem fine {g r:Nat} (hg:g<4294967296) (h:g * v1+r=top) (h2:g * v2≤r * 4294967296+u2):g * V<U+V:=by
 have h3:g * (v2+4294967296 * v1)≤u2+4294967296 * top:=by
  have:4294967296 * (g * v1+r)=4294967296 * top:=by rw [h]
  have e:g * (v2+4294967296 * v1)=g * v2+4294967296 * (g * v1):=by grind
  rw [e];omega
 have h4:=Nat.mul_le_mul_left E h3
 have e:g * V=g * lV+E * (g * (v2+4294967296 * v1)):=by rw [t.hV];grind
 have h5:g * lV≤4294967295 * E:=Nat.mul_le_mul (by omega) (by have:=t.lv;omega)
 have h6:E * 4294967296 * 1≤E * 4294967296 * v1:=Nat.mul_le_mul_left _ (by have:=t.big;omega)
 have:=t.Ev;have:=t.hU;have:=t.Epos
 omega
theorem topv:top / 4294967296≤v1:=by
 have h1:=t.Eu
 have h2:=t.lt
 have h3:=t.vE
 have h4:E * 4294967296 * top<E * 4294967296 * (4294967296 * (v1+1)):=by
  have:E * 4294967296 * (4294967296 * (v1+1))=4294967296 * (E * 4294967296 * (v1+1)):=by grind
  omega
 have:=Nat.lt_of_mul_lt_mul_left h4
 omega
theorem over {g r:Nat} (h:g * v1+r=top) (hr:4294967296≤r):g<4294967296:=by
 have h1:=t.topv
 have h2:g * v1<4294967296 * v1:=by omega
 exact Nat.lt_of_mul_lt_mul_right h2
theorem stop {g r:Nat} (h:g * v1+r=top) (hr:4294967296≤r):g * V<U+V:=by
 have hg:=t.over h hr
 have h1:=t.vE
 have h2:g * V≤g * (E * 4294967296 * (v1+1)):=Nat.mul_le_mul_left _ (Nat.le_of_lt h1)
 have e:g * (E * 4294967296 * (v1+1))=E * 4294967296 * (g * v1+g):=by grind
 have h3:E * 4294967296 * (g * v1+g)≤E * 4294967296 * top:=Nat.mul_le_mul_left _ (by omega)
 have:=t.Eu;have:=t.Vpos
 omega
end Zhj
def Zqi (X:Option R5) (R:Nat→Option R5) (q U V:Nat):Prop:=∃ g:Nat,X=R g∧q≤g∧g<4294967296∧g * V<U+V
theorem Zr2 (N j0:Nat) (u v:List Int) (hu:Zo u) (hv:Zo v) (hn:2≤v.length) (hl:j0+v.length<u.length) (hs:v.length<4611686018427387904) {U V E lU lV top q:Nat} (hq:U / V=q)
  (t:Zhj U V E (v[v.length - 1]).toNat (v[v.length - 2]).toNat (u[j0+v.length - 2]).toNat top lU lV) (htop:top<18446744073709551616):
  ∀ (n g r:Nat),g * (v[v.length - 1]).toNat+r=top→q≤g→r<4294967296→4294967296≤r+2147483648 * n→
  Zqi (Sw N j0 (v.length+1) u v n (g:Int) (r:Int)) (fun g'=>Ub j0 (v.length+1) v (g':Int) v 0 u 0 0) q U V
 | 0,g,r,_,_,h3,h4=>by omega
 | n+1,g,r,h1,h2,h3,h4=>by
  have i1:v.length - 1<v.length:=by omega
  have i2:v.length - 2<v.length:=by omega
  have i3:j0+v.length - 2<u.length:=by omega
  have c1:=hv.get i1
  have c2:=hv.get i2
  have c3:=hu.get i3
  have hbig:=t.big
  have hgb:g≤top:=by
   have:g * 1≤g * (v[v.length - 1]).toNat:=Nat.mul_le_mul_left _ (by omega)
   omega
  -- one less
  have less:q<g→Zqi (Zih j0 (v.length+1) u v (g:Int) (r:Int) (Sw N j0 (v.length+1) u v n)) (fun g'=>Ub j0 (v.length+1) v (g':Int) v 0 u 0 0) q U V:=fun hlt=>by
   have hg1:(g - 1) * (v[v.length - 1]).toNat+(r+(v[v.length - 1]).toNat)=top:=by
    have:(g - 1+1) * (v[v.length - 1]).toNat+r=top:=by rw [show g - 1+1=g by omega];exact h1
    rw [Nat.add_mul] at this
    omega
   have ew:u64.wrap ((g:Int) - 1)=((g - 1:Nat):Int):=by rw [Xn (by omega)];omega
   have er:u64.wrap ((r:Int)+u64.wrap v[v.length - 1])=((r+(v[v.length - 1]).toNat:Nat):Int):=by rw [Xn (x:=v[v.length - 1]) (by omega),Xn (by omega)];omega
   rw [Zih,Z4 (by omega),show (v.length:Int) - 1=((v.length - 1:Nat):Int) by omega,Xk i1,Option.bind_some,er,ew]
   by_cases hb:4294967296≤r+(v[v.length - 1]).toNat
   ·rw [if_pos (decide_eq_true (by omega)),Zr3,ew]
    exact ⟨g - 1,rfl,by omega,t.over hg1 hb,t.stop hg1 hb⟩
   ·rw [if_neg (by rw [decide_eq_false (by omega)];decide)]
    exact Zr2 N j0 u v hu hv hn hl hs hq t htop n (g - 1) (r+(v[v.length - 1]).toNat) hg1 (by omega) (by omega) (by omega)
  have hquo:=t.quo
  rw [hq] at hquo
  rw [Sw.eq_2]
  by_cases hgb2:4294967295<g
  ·rw [if_pos (decide_eq_true (by omega)),Zd0,if_pos rfl]
   exact less (by omega)
  ·have hm:g * (v[v.length - 2]).toNat≤4294967295 * 4294967295:=Nat.mul_le_mul (by omega) (by omega)
   have em:(g:Int) * v[v.length - 2]=((g * (v[v.length - 2]).toNat:Nat):Int):=by
    rw [Int.natCast_mul];congr 1;omega
   rw [if_neg (by rw [decide_eq_false (by omega)];decide),if_pos (decide_eq_true (by omega)),Z4 (by omega),show (v.length:Int) - 2=((v.length - 2:Nat):Int) by omega,Xk i2,Option.bind_some,Xi (by omega),show (j0:Int)+((v.length - 2:Nat):Int)=((j0+v.length - 2:Nat):Int) by omega,Xk i3,Option.bind_some,Zd0,
    Xn (x:=u[j0+v.length - 2]) (by omega),Zmq (by omega) (by omega),Xn (x:=v[v.length - 2]) (by omega),em,Xn (by omega)]
   by_cases hc:r * 4294967296+(u[j0+v.length - 2]).toNat<g * (v[v.length - 2]).toNat
   ·rw [if_pos (decide_eq_true (by omega))]
    exact less (by rw [← hq];exact t.great h1 hc)
   ·rw [if_neg (by rw [decide_eq_false (by omega)];decide)]
    exact ⟨g,rfl,h2,by omega,t.fine (by omega) h1 (by omega)⟩
theorem Zns {u w:List Int} {j0 n P:Nat} (hP:4294967296 ^ (n+1)=P) (hl:j0+n<u.length) (hz:Zc (u.drop (j0+n+1))=0) (h1:w.length=u.length) (h2:Zo w) (h3:w.drop (j0+n+1)=u.drop (j0+n+1)):Zc (w.drop j0)<P:=by
 have:=S0 ((h2.drop j0).take (n+1))
 rw [List.length_take,List.length_drop,Nat.min_eq_left (by omega),hP] at this
 have e:=Td (w.drop j0) (n+1)
 rw [hP,List.drop_drop,← Nat.add_assoc,h3,hz] at e
 omega
theorem Zr7 {u w:List Int} {j0 n P Q x y:Nat} (hP:4294967296 ^ (n+1)=P) (hQ:4294967296 ^ j0=Q) (h4:w.take j0=u.take j0) (h:Zc w+Q * x=Zc u+y * 4294967296 ^ (j0+n+1)):Zc (w.drop j0)+x=Zc (u.drop j0)+y * P:=by
 have pw:(4294967296:Nat) ^ (j0+n+1)=Q * P:=by rw [← hQ,← hP,← Nat.pow_add,Nat.add_assoc]
 have hp:0<Q:=by rw [← hQ];exact Nat.pow_pos (by decide)
 have s0:=Td u j0
 have s1:=Td w j0
 rw [h4] at s1
 rw [hQ] at s0 s1
 rw [pw,s0,s1] at h
 clear pw hP hQ s0 s1 h4
 refine Nat.eq_of_mul_eq_mul_left hp ?_
 grind
theorem Z0d {U V P q g over P1:Nat} (hq:U / V=q) (hV:0<V) (hg1:q≤g) (hg3:g * V<U+V) (k1:P1+g * V=U+over * P) (p1:P1<P):
  (over=0→g=q∧P1=U % V)∧(over=1→g=q+1∧∀ P2 co,V<P→P2<P→P2+co * P=P1+V→P2=U % V):=by
 have hq0:V * q+U % V=U:=by rw [← hq];exact Nat.div_add_mod _ _
 have hq1:=Nat.mod_lt U hV
 have hmono:∀ x y:Nat,x<y→x * V+V≤y * V:=fun x y hxy=>by
  have:=Nat.mul_le_mul_right V (show x+1≤y from hxy)
  rw [Nat.add_mul,Nat.one_mul] at this;exact this
 rw [Nat.mul_comm] at hq0
 constructor
 ·intro ho
  subst ho
  have hgq:g=q:=by
   have a2:¬ q<g:=fun h=>by
    have:=hmono _ _ h
    omega
   omega
  subst hgq
  exact ⟨rfl,by omega⟩
 ·intro ho
  subst ho
  have hgq:g=q+1:=by
   have a1:¬ g≤q:=fun h=>by
    have:=Nat.mul_le_mul_right V h
    omega
   have a2:¬ q+1<g:=fun h=>by
    have:=hmono _ _ h
    rw [Nat.add_mul,Nat.one_mul] at this
    omega
   omega
  refine ⟨hgq,fun P2 co hvP p2 k2=>?_⟩
  have hgv:g * V=q * V+V:=by rw [hgq,Nat.add_mul,Nat.one_mul]
  have hco:co=1:=by
   rcases Nat.lt_trichotomy co 1 with h | h | h
   ·have:co=0:=by omega
    subst this;omega
   ·exact h
   ·have:=Nat.mul_le_mul_right P (show 2≤co from h)
    omega
  subst hco
  omega
theorem Z0e {N j0:Nat} {u v:List Int} (hN:2≤N) (hu:Zo u) (hv:Zo v) (hn:2≤v.length) (hl:j0+v.length<u.length) (hs:u.length<4611686018427387904)
  (hz:Zc (u.drop (j0+v.length+1))=0) (hbig:2147483648≤(v[v.length - 1]).toNat) (hlt:Zc (u.drop j0)<4294967296 * Zc v):
  ∃ u',Zgf N j0 (v.length+1) u v=some (((Zc (u.drop j0) / Zc v:Nat):Int),u')∧u'.length=u.length∧Zo u'∧u'.take j0=u.take j0∧Zc (u'.drop j0)=Zc (u.drop j0) % Zc v∧Zc (u.drop j0) / Zc v<4294967296:=by
 have i1:v.length - 1<v.length:=by omega
 have i2:v.length - 2<v.length:=by omega
 have i3:j0+v.length - 2<u.length:=by omega
 have i4:j0+v.length - 1<u.length:=by omega
 have c1:=hv.get i1
 have c2:=hv.get i2
 have c3:=hu.get i3
 have c4:=hu.get i4
 have c5:=hu.get hl
 -- the Zf above
 have dV:Zc v=Zc (v.take (v.length - 2))+4294967296 ^ (v.length - 2) * ((v[v.length - 2]).toNat+4294967296 * (v[v.length - 1]).toNat):=by
  rw [Td v (v.length - 2),Un i2,show v.length - 2+1=v.length - 1 by omega,Un i1,show v.length - 1+1=v.length by omega,List.drop_length,Ys];simp
 have dU:Zc (u.drop j0)=Zc ((u.drop j0).take (v.length - 2))+4294967296 ^ (v.length - 2) * ((u[j0+v.length - 2]).toNat+4294967296 * ((u[j0+v.length]).toNat * 4294967296+(u[j0+v.length - 1]).toNat)):=by
  have e3:j0+(v.length - 2)=j0+v.length - 2:=by omega
  rw [Td (u.drop j0) (v.length - 2),List.drop_drop,e3,Un i3,show j0+v.length - 2+1=j0+v.length - 1 by omega,Un i4,show j0+v.length - 1+1=j0+v.length by omega,Un hl,hz]
  congr 3
  omega
 have lV:=S0 (hv.take (v.length - 2))
 have lU:=S0 ((hu.drop j0).take (v.length - 2))
 rw [List.length_take,Nat.min_eq_left (by omega)] at lV
 rw [List.length_take,List.length_drop,Nat.min_eq_left (by omega)] at lU
 have t:Zhj (Zc (u.drop j0)) (Zc v) (4294967296 ^ (v.length - 2)) (v[v.length - 1]).toNat (v[v.length - 2]).toNat (u[j0+v.length - 2]).toNat ((u[j0+v.length]).toNat * 4294967296+(u[j0+v.length - 1]).toNat) _ _:=
  ⟨dU,dV,lU,lV,by omega,by omega,by omega,hbig,hlt⟩
 have hV:=t.Vpos
 have htop:(u[j0+v.length]).toNat * 4294967296+(u[j0+v.length - 1]).toNat<18446744073709551616:=by omega
 obtain ⟨q,hq⟩:∃ q,Zc (u.drop j0) / Zc v=q:=⟨_,rfl⟩
 obtain ⟨g,hg0,hg1,hg2,hg3⟩:=Zr2 N j0 u v hu hv hn hl (by omega) hq t htop N _ _ (Nat.div_add_mod' _ _) (by rw [← hq];exact t.first) (Nat.lt_of_lt_of_le (Nat.mod_lt _ (by omega)) (by omega)) (by omega)
 have e0:Zgf N j0 (v.length+1) u v=Ub j0 (v.length+1) v (g:Int) v 0 u 0 0:=by
  refine Eq.trans ?_ hg0
  rw [Zgf,Xi (by omega),show (j0:Int)+(v.length:Int)=((j0+v.length:Nat):Int) by omega,Xk hl,Option.bind_some,Z4 (by omega),show (v.length:Int) - 1=((v.length - 1:Nat):Int) by omega,Xi (by omega),
   show (j0:Int)+((v.length - 1:Nat):Int)=((j0+v.length - 1:Nat):Int) by omega,Xk i4,Option.bind_some,Xk i1,Option.bind_some,Xn (x:=v[v.length - 1]) (by omega),Xi (by omega),Xi (by omega),Xn (x:=u[j0+v.length]) (by omega),Xn (x:=u[j0+v.length - 1]) (by omega),Zmq (by omega) (by omega)]
  have ev:v[v.length - 1]=((v[v.length - 1]).toNat:Int):=by omega
  have et:u[j0+v.length] * 4294967296+u[j0+v.length - 1]=(((u[j0+v.length]).toNat * 4294967296+(u[j0+v.length - 1]).toNat:Nat):Int):=by omega
  rw [et,ev,Int.tdiv_eq_ediv_of_nonneg (by omega),Int.tmod_eq_emod_of_nonneg (by omega),← Int.natCast_ediv,← Int.natCast_emod,Int.toNat_natCast]
  rw [Xn ⟨Int.natCast_nonneg _,Int.ofNat_lt.2 (Nat.lt_of_le_of_lt (Nat.div_le_self _ _) htop)⟩]
 obtain ⟨u1,over,q0,q1,q2,q3,q4,q5,q6⟩:=Zr5 j0 v (g:Int) (by omega) v 0 u 0 0 hv (by omega) hu hl (by omega) (by omega)
 have hquo:=t.quo
 rw [hq] at hquo ⊢
 rw [e0,q1]
 obtain ⟨P,hP⟩:∃ P:Nat,4294967296 ^ (v.length+1)=P:=⟨_,rfl⟩
 obtain ⟨Q,hQ⟩:∃ Q:Nat,4294967296 ^ j0=Q:=⟨_,rfl⟩
 simp only [Nat.add_zero,Int.toNat_zero,Int.toNat_natCast,Nat.zero_add] at q6
 rw [hQ] at q6
 have k1:=Zr7 hP hQ q4 q6
 have p1:=Zns hP hl hz q2 q3 q5
 have hvP:Zc v<P:=by
  have:=S0 hv
  have h2:=Zns (u:=v++[0]) (w:=v++[0]) (j0:=0) (n:=v.length) hP (by simp) (by simp [Zc]) rfl (hv.app (.cons (by decide) .nil)) rfl
  rw [List.drop_zero,Zuj] at h2
  exact h2
 have k3:=Z0d hq hV hg1 hg3 k1 p1
 by_cases ho:over=1
 ·obtain ⟨e1,e2⟩:=k3.2 ho
  subst ho
  rw [if_pos rfl]
  obtain ⟨u2,co,r1,r2,r3,r4,r5,r6⟩:=Zr6 j0 v (g:Int) v 0 u1 0 hv (by omega) q3 (by omega) (by omega)
  have p2:=Zns hP hl hz (by omega) r3 (by rw [r5,q5])
  simp only [Nat.add_zero,Int.toNat_zero,Nat.zero_add] at r6
  rw [hQ] at r6
  have k2:=Zr7 (u:=u2) (w:=u1) (x:=Zc v) (y:=co) hP hQ (by rw [r4]) r6.symm
  refine ⟨u2,?_,by omega,r3,by rw [r4,q4],e2 _ co hvP p2 k2.symm,hquo⟩
  rw [r1,Xn (by omega),Ug (by omega)]
  congr 2;omega
 ·obtain ⟨e1,e2⟩:=k3.1 (by omega)
  rw [if_neg ho,Zba,Ug (by omega)]
  exact ⟨u1,by rw [e1],q2,q3,q4,e2,hquo⟩
def Zcm (N:Nat):Nat→R2→R2→Option R2
  | 0,_,_=>none
  | ac+1,ab,aa=>if (decide (0<(aa.length:Int)))=true then ((Zcl N ab aa).bind fun ad=>(Zcm N ac) aa ad.2.1) else (some ab)
termination_by structural x=>x
def Zie (N:Nat) (aa:List Int) (ab:List Int):Option R2:=
  (V5 N aa).bind fun ac=>(V5 N ab).bind fun ad=>Zcm N N ac ad
theorem Zyw {N ar au:Nat} {a0 a1:Option Addr} {col:Zd} {w0:World} {ak al r:R2} (c1:Nat) (hm:Zie N ak al=some r) (h0:Sl (Za.int .u32) col w0 a0 ar ak) (h1:Sl (Za.int .u32) col w0 a1 au al):
    Calls Tryz.prog 113 #[.slice a0 ak.length ar,.slice a1 al.length au] w0 (fun e w'=>∃ (col':Zd) (ra1:Option Addr) (rc2:Nat),e= .returned ((.slice ra1 r.length rc2))∧Zg col w0 col' w'∧Zb (Za.int .u32) 77 c1 col' w' ra1 rc2 r):=by
 refine Xl 4 (m:=25) func113 rfl rfl rfl rfl rfl ?_;rw [Zie.eq_1] at hm;have aa:=St.start col w0;refine go ?_;obtain ⟨a9,a3,hm⟩:=bZ hm;replace h0:=h0.keep (Zl.start col w0);refine Zi (U6 1 a3 (h0.ks aa)) ?_;rintro _ ba ⟨bb,bc,bd,rfl,a4,am⟩;refine ⟨_,rfl,?_⟩;refine Wk rfl ?_;obtain ⟨be,a5,hm⟩:=bZ hm;replace h1:=h1.keep (Zl.start col w0);replace aa:=aa.grow a4;refine Zi (U6 2 a5 (h1.ks aa)) ?_;rintro _ bf ⟨bg,bh,bi,rfl,av,a6⟩;refine ⟨_,rfl,go ?_⟩;replace am:=am.gr av;replace aa:=aa.grow av;refine Z5 [1000000] (fun n f ag=>∃ ac an ao ai ap aq aj ae,ae=n∧Zcm N ae ai aj=some r∧St w0 (Zk col) ac ag∧Zb (Za.int .u32) 77 1 ac ag an ao ai∧Zb (Za.int .u32) 77 2 ac ag ap aq aj∧[0,1].map f=[.slice an ai.length ao,.slice ap aj.length aq]) N ⟨_,_,_,_,_,_,_,_,rfl,hm,aa,am,a6,rfl⟩ ?_;clear hm;intro n f ag hI;obtain ⟨ac,an,ao,ai,ap,aq,aj,ae,hn,hm,aa,aw,ab,hs⟩:=hI;subst hn;refine .lL [0,1] hs ?_
 cases ae with
 | zero=>rw [Zcm.eq_1] at hm;cases hm
 | succ ae=>
  rw [Zcm.eq_2] at hm;refine go ?_;refine Zp hm (fun hb hm=>go ?_) fun hb hm=>go ?_
  ·obtain ⟨af,a7,hm⟩:=bZ hm;refine Zi (Zkb 3 4 a7 ((aw.toSlF (Ze.int .u32)).froz 2) ((ab.froz 1 (by decide)).toSlF (Ze.int .u32))) ?_;rintro _ bj ⟨a8,ax,ay,az,a2,rfl,ah,bk,ad⟩;refine ⟨_,rfl,?_⟩;replace ad:=ad.thaw (Zs .u32) ah (((Fz.refl (col:=ac)).froz 1).froz 2) (by decide);replace ah:=ah.thawR (col:=ac);generalize Z1 ag.heap.size ac a8=bm at *;refine lM (.tuple #[.slice ax af.1.length ay,.slice az af.2.1.length a2,.int .i64 af.2.2])<|lV (.slice ax af.1.length ay) (Z8 rfl rfl)<|lV (.slice az af.2.1.length a2) (Z8 rfl rfl)<|lV (.int .i64 af.2.2) (Z8 rfl rfl)<|go ?_;replace ab:=ab.gr ah;replace ab:=ab.recolSelf 1 (by decide);replace ad:=ad.recol 2 1 (by decide);replace aa:=aa.grow ah;replace aa:=aa.recol 2 1 (by decide) (by decide);replace ab:=ab.recol 4 2 (by decide);replace ad:=ad.recolSelf 2 (by decide);replace aa:=aa.recol 4 2 (by decide) (by decide);exact ⟨ae,by omega,rfl,⟨_,_,_,_,_,_,_,_,rfl,hm,aa,ab,ad,rfl⟩⟩
  cases hm;exact ⟨rfl,_,_,_,rfl,aa.fin (cm [(1,c1)]),aa.fo aw⟩
theorem Zw8 (N:Nat):∀ (n:Nat) (a:List Int),Zbc N n a=T9 N n a
 | 0,a=>rfl
 | n+1,a=>by
  rw [Zbc.eq_2,T9.eq_2]
  simp only [Zil,Zbb,Zw8 N n]
theorem Zw9 {N:Nat} {a:List Int} (h:Zo a) (hn:a.length<N) (hb:a.length≤1099511627776):Zcr N a=some (Zf (Zc a)):=by
 rw [Zcr,Zw8];exact Zmp N N a h hn (by omega)
theorem Z3z {x L nx s:Nat} (hs:s<32) (hx:x<4294967296) (hn:nx=L % 4294967296):(x+4294967296 * L) / 2 ^ s=(x+4294967296 * nx) / 2 ^ s % 4294967296+4294967296 * (L / 2 ^ s):=by
 have pw:(2:Nat) ^ s * 2 ^ (32 - s)=4294967296:=by rw [← Nat.pow_add,show s+(32 - s)=32 by omega]
 have hp:=Nat.two_pow_pos s
 generalize 2 ^ s=p at *
 generalize 2 ^ (32 - s)=r at *
 have h1:(x+4294967296 * L) / p / 4294967296=L / p:=by
  rw [Nat.div_div_eq_div_mul,Nat.mul_comm p,← Nat.div_div_eq_div_mul]
  congr 1
  omega
 have h2:(x+4294967296 * L) / p % 4294967296=(x+4294967296 * nx) / p % 4294967296:=by
  have e:x+4294967296 * L=x+4294967296 * nx+p * (4294967296 * (r * (L / 4294967296))):=by
   have e1:L=nx+4294967296 * (L / 4294967296):=by omega
   have e2:p * (4294967296 * (r * (L / 4294967296)))=4294967296 * (p * r) * (L / 4294967296):=by grind
   rw [e2,pw]
   omega
  rw [e,Nat.add_mul_div_left _ _ hp,Nat.add_mul_mod_self_left]
 rw [← h1,← h2]
 omega
theorem Zsa (N s:Nat) (hs:s<32) (q r:List Int) (hq:Zo q) (hr:Zo r) (hN:q.length<N∧r.length<N) (hb:q.length≤1099511627776∧r.length≤1099511627776):∀ (n i:Nat) (u d:List Int),i≤r.length→r.length<n+i→u=d++r.drop i→d.length=i→Zo d→Zc d+4294967296 ^ i * (Zc (r.drop i) / 2 ^ s)=Zc r / 2 ^ s→
  Sv N (s:Int) q r n u (i:Int)=some (Zf (Zc q),Zf (Zc r / 2 ^ s),0)
 | 0,i,u,d,h1,h2,_,_,_,_=>by omega
 | n+1,i,u,d,h1,h2,hu,hd,hld,hv=>by
  have hul:u.length=r.length:=by rw [hu,List.length_append,List.length_drop];omega
  rw [Sv.eq_2]
  by_cases hi:i<r.length
  ·have hdr:=List.drop_eq_getElem_cons hi
   have g:=hr.get hi
   have ui:u[i]'(by omega)=r[i]:=by
    subst hu
    rw [List.getElem_append_right (by omega)]
    simp [hd]
   have step:∀ nx:Nat,nx=Zc (r.drop (i+1)) % 4294967296→Zgd (s:Int) u (i:Int) (Sv N (s:Int) q r n) (nx:Int)=some (Zf (Zc q),Zf (Zc r / 2 ^ s),0):=fun nx hnx=>by
    have hw:u32.wrap (Yc .u64 (Yu .u64 (Xt .u64 (u64.wrap (nx:Int)) 32) (u64.wrap r[i])) (s:Int))=(((r[i]).toNat+4294967296 * nx) / 2 ^ s % 4294967296:Nat):=by
     rw [Xn (x:=(nx:Int)) (by omega),Xn (x:=r[i]) (by omega),Zmq (by omega) (by omega),show (nx:Int) * 4294967296+r[i]=(((r[i]).toNat+4294967296 * nx:Nat):Int) by omega,Zmm _ _ _ (by simp only [IntKind.bits];omega),Zxh]
    have hset:u.set i ((((r[i]).toNat+4294967296 * nx) / 2 ^ s % 4294967296:Nat):Int)=(d++[((((r[i]).toNat+4294967296 * nx) / 2 ^ s % 4294967296:Nat):Int)])++r.drop (i+1):=by
     subst hu
     rw [hdr,List.set_append_right _ _ (by omega),hd,Nat.sub_self,List.set_cons_zero]
     simp
    rw [Zgd,Xk (by omega),Option.bind_some,Xi (by omega),ui,hw,Option.bind_some,Zk4,Z4 (by omega),Int.toNat_natCast,hset]
    have ih:=Zsa N s hs q r hq hr hN hb n (i+1) _ (d++[((((r[i]).toNat+4294967296 * nx) / 2 ^ s % 4294967296:Nat):Int)]) (by omega) (by omega) rfl (by simp [hd]) (hld.app (.cons (by omega) .nil)) (by
     rw [Sz,hd,Y9,Ys,Int.toNat_natCast,← hv,hdr,Y9,Z3z hs (by omega) hnx,Nat.pow_succ]
     generalize ((r[i]).toNat+4294967296 * nx) / 2 ^ s % 4294967296=A
     generalize Zc (r.drop (i+1)) / 2 ^ s=C
     grind)
    exact ih
   rw [if_pos (decide_eq_true (by omega)),Z4 (by omega)]
   by_cases hi1:i+1<r.length
   ·have u1:u[i+1]'(by omega)=r[i+1]:=by
     subst hu
     rw [List.getElem_append_right (by omega)]
     simp [hd]
    have g1:=hr.get hi1
    rw [if_pos (decide_eq_true (by omega)),show (i:Int)+1=((i+1:Nat):Int) by omega,Xk (by omega),Option.bind_some,u1,show r[i+1]=((r[i+1]).toNat:Int) by omega]
    exact step _ (by rw [Un hi1];omega)
   ·rw [if_neg (by rw [decide_eq_false (by omega)];decide)]
    have:=step 0 (by rw [List.drop_eq_nil_of_le (by omega)];rfl)
    exact this
  ·have:i=r.length:=by omega
   subst this
   rw [if_neg (by rw [decide_eq_false (by omega)];decide)]
   rw [List.drop_length,List.append_nil] at hu
   rw [List.drop_length,Ys,Nat.zero_div,Nat.mul_zero,Nat.add_zero] at hv
   subst hu
   rw [S3 hq hN.1 hb.1,Option.bind_some,S3 hld (by omega) (by omega),Option.bind_some,hv]
theorem Zr9 (N s:Nat) (v:List Int) (hN:2≤N) (hv:Zo v) (hn:2≤v.length) (hbig:2147483648≤(v[v.length - 1]).toNat):∀ (n j:Nat) (u q:List Int),j≤q.length→j<n→u.length=q.length+v.length→u.length<4611686018427387904→Zo u→Zo q→Zc (u.drop j)<Zc v→Zc (q.take j)=0→
  ∃ u' q',Zdy N (s:Int) v n u q ((j:Int) - 1)=((Zcr N u').bind fun r=>Sv N (s:Int) q' r N r 0)∧u'.length=u.length∧q'.length=q.length∧Zo u'∧Zo q'∧Zc u'<Zc v∧Zc v * Zc q'+Zc u'=Zc v * Zc q+Zc u
 | 0,j,u,q,_,h,_,_,_,_,_,_=>by omega
 | n+1,j,u,q,hj,hjn,hl,hs,hu,hq,hlt,hz=>by
  rw [Zdy.eq_2]
  by_cases h0:j=0
  ·subst h0
   rw [if_neg (by decide)]
   exact ⟨u,q,rfl,rfl,rfl,hu,hq,by simpa using hlt,rfl⟩
  ·have e1:j - 1+1=j:=by omega
   have hi:j - 1<u.length:=by omega
   have hqi:j - 1<q.length:=by omega
   have g:=hu.get hi
   have lv:=S0 hv
   have sp:=Td (u.drop j) v.length
   rw [List.drop_drop] at sp
   have hz2:Zc (u.drop (j - 1+v.length+1))=0:=by
    rw [show j - 1+v.length+1=j+v.length by omega]
    rcases Nat.eq_zero_or_pos (Zc (u.drop (j+v.length))) with h | h
    ·exact h
    ·have:=Nat.mul_le_mul_left (4294967296 ^ v.length) h
     generalize 4294967296 ^ v.length=P at *
     omega
   have d1:=Un hi
   rw [e1] at d1
   obtain ⟨u',q1,q2,q3,q4,q5,q6⟩:=Z0e (N:=N) (j0:=j - 1) hN hu hv hn (by omega) hs hz2 hbig (by omega)
   have hqs:0≤((Zc (u.drop (j - 1)) / Zc v:Nat):Int)∧((Zc (u.drop (j - 1)) / Zc v:Nat):Int)<4294967296:=⟨Int.natCast_nonneg _,Int.ofNat_lt.2 q6⟩
   rw [if_pos (decide_eq_true (by omega)),show (j:Int) - 1=((j - 1:Nat):Int) by omega,Z4 (x:=((j - 1:Nat):Int)+(v.length:Int)) (by omega),Z4 (by omega),Xi (by omega),Int.toNat_natCast,
    show Int.toNat (((j - 1:Nat):Int)+(v.length:Int)+1) - (j - 1)=v.length+1 by omega,q1,Option.bind_some,Xk hqi,Option.bind_some,Option.bind_some,Z4 (by omega)]
   have vp:0<Zc v:=by omega
   -- the quotient's limb was 0
   have zq:q[j - 1]=0∧Zc (q.take (j - 1))=0:=by
    have:=Zo8 hqi
    rw [e1,hz] at this
    have g2:=hq.get hqi
    have hp:0<4294967296 ^ (j - 1):=Nat.pow_pos (by decide)
    have h3:4294967296 ^ (j - 1) * (q[j - 1]).toNat=0:=by omega
    rcases Nat.mul_eq_zero.1 h3 with h | h
    ·omega
    ·exact ⟨by omega,by omega⟩
   obtain ⟨u2,q2',r1,r2,r3,r4,r5,r6,r7⟩:=Zr9 N s v hN hv hn hbig n (j - 1) u' (q.set (j - 1) ((Zc (u.drop (j - 1)) / Zc v:Nat):Int)) (by rw [List.length_set];omega) (by omega) (by rw [List.length_set,q2];exact hl) (by omega) q3 (hq.set _ hqs) (by rw [q5];exact Nat.mod_lt _ vp) (by rw [Zc5 _ (Nat.le_refl _)];exact zq.2)
   refine ⟨u2,q2',r1,by rw [r2,q2],by rw [r3,List.length_set],r4,r5,r6,?_⟩
   rw [r7]
   have s0:=Td u (j - 1)
   have s1:=Td u' (j - 1)
   rw [q4,q5] at s1
   have s2:=Sa hqi ((Zc (u.drop (j - 1)) / Zc v:Nat):Int)
   rw [zq.1,Int.toNat_zero,Nat.mul_zero,Nat.add_zero,Int.toNat_natCast] at s2
   rw [s1,s2,s0]
   have hdm:=Nat.div_add_mod (Zc (u.drop (j - 1))) (Zc v)
   generalize Zc (u.drop (j - 1)) / Zc v=a at *
   generalize Zc (u.drop (j - 1)) % Zc v=b at *
   rw [← hdm]
   generalize 4294967296 ^ (j - 1)=Q at *
   grind
theorem Zw5 {l:List Int} (h:0<l.length):Zc l=Zc (l.take (l.length - 1))+4294967296 ^ (l.length - 1) * (l[l.length - 1]).toNat:=by
 conv=>lhs;rw [← Zfd h,Sz,Y9,Ys]
 rw [List.length_take,Nat.min_eq_left (by omega),Nat.mul_zero,Nat.add_zero]
theorem Zw6 {l:List Int} (hl:Zo l):Zc (l.take (l.length - 1))<4294967296 ^ (l.length - 1):=by
 have:=S0 (hl.take (l.length - 1))
 rw [List.length_take,Nat.min_eq_left (by omega)] at this
 exact this
theorem Z0g {u:List Int} {k n S:Nat} (hu:Zo u) (hk:k+n=u.length) (hn:0<n) (ht:∀ h:u.length - 1<u.length,(u[u.length - 1]).toNat<S):Zc (u.drop k)<4294967296 ^ (n - 1) * S:=by
 have hl:(u.drop k).length=n:=by rw [List.length_drop];omega
 have h1:=Zw5 (l:=u.drop k) (by omega)
 have h2:=Zw6 (hu.drop k)
 have h3:((u.drop k)[(u.drop k).length - 1]'(by omega))=u[u.length - 1]'(by omega):=by
  have:(u.drop k)[(u.drop k).length - 1]?=u[u.length - 1]?:=by rw [List.getElem?_drop,hl];congr 1;omega
  rw [List.getElem?_eq_getElem (by omega),List.getElem?_eq_getElem (by omega)] at this
  exact Option.some.inj this
 rw [h3] at h1
 rw [hl] at h1 h2
 have h4:=ht (by omega)
 have h5:=Nat.mul_le_mul_left (4294967296 ^ (n - 1)) (show (u[u.length - 1]'(by omega)).toNat+1≤S from h4)
 rw [Nat.mul_add] at h5
 omega
theorem Zkh {N:Nat} {a b:List Int} (ha:Zo a) (hb:Zo b) (hN:a.length+b.length+4<N) (hs:a.length+b.length≤549755813888):
  Zcl N a b=some (if Zc b=0 then ([],[],11) else (Zf (Zc a / Zc b),Zf (Zc a % Zc b),0)):=by
 have la:=Y2 ha
 have lb:=Y2 hb
 rw [Zcl,S6 ha (by omega) (by omega),Option.bind_some,S6 hb (by omega) (by omega),Option.bind_some]
 generalize hA:Zc a=A at *
 generalize hB:Zc b=B at *
 by_cases h0:B=0
 ·subst h0
  rw [W8,if_pos (by decide),if_pos rfl]
 ·have hbp:0<(Zf B).length:=List.length_pos_iff.2 (fun h=>h0 (Zff.1 h))
  rw [if_neg (by rw [decide_eq_false (by omega)];decide),if_neg h0,Znl (Xg _) (Xg _) (by omega) (by omega) (by omega) (by omega),Option.bind_some,Z9,Z9]
  by_cases hlt:A<B
  ·rw [if_pos hlt,if_pos (by decide),S3 (Xg _) (by omega) (by omega),Option.bind_some,Z9,Nat.div_eq_of_lt hlt,Nat.mod_eq_of_lt hlt,W8]
  ·rw [if_neg hlt,if_neg (by split <;> decide)]
   have hlen:(Zf B).length≤(Zf A).length:=by
    have h1:=Wt (k:=(Zf A).length) (n:=B)
    have h2:=Wt (k:=(Zf A).length) (n:=A)
    have:=h2.1 (Nat.le_refl _)
    exact h1.2 (by omega)
   by_cases h1:(Zf B).length=1
   ·have g:=(Xg B).get hbp
    have hne:=Zks hbp
    have e0:(Zf B).length - 1=0:=by omega
    have hne0:(Zf B)[0]≠0:=by
     have:(Zf B)[(Zf B).length - 1]?=(Zf B)[0]?:=by rw [e0]
     rw [List.getElem?_eq_getElem (by omega),List.getElem?_eq_getElem (by omega)] at this
     rw [← Option.some.inj this];exact hne
    have eB:((Zf B)[0]).toNat=B:=by
     have h2:=Z9 B
     have h3:=Un (l:=Zf B) (k:=0) hbp
     rw [List.drop_zero,h2,List.drop_eq_nil_of_le (by omega),Ys] at h3
     omega
    obtain ⟨q,q1,q2,q3,q4⟩:=Z30 (N:=N) (a:=Zf A) (d:=(Zf B)[0]) (by omega) (Xg _) (by omega) (by omega)
    rw [eB,Z9] at q1 q4
    have hm:=Nat.mod_lt A (show 0<B by omega)
    have hB32:B<4294967296:=by omega
    have hml:Zo [((A % B:Nat):Int)]:=.cons ⟨Int.natCast_nonneg _,Int.ofNat_lt.2 (Nat.lt_trans hm hB32)⟩ .nil
    rw [if_pos (decide_eq_true (by omega)),Znj (by omega),Option.bind_some,show (0:Int)=((0:Nat):Int) from rfl,Xk hbp,Option.bind_some,q1,Option.bind_some,S3 q3 (by omega) (by omega),Option.bind_some,S3 hml (by simp;omega) (by simp),Option.bind_some,q4,Y9,Ys,Int.toNat_natCast,Nat.mul_zero,Nat.add_zero]
   ·have hp:0<(Zf B).length:=hbp
    have i1:(Zf B).length - 1<(Zf B).length:=by omega
    have g:=(Xg B).get i1
    have hne:=Zks hbp
    obtain ⟨k,ek,k1,k2⟩:=Zj7 (show ((Zf B)[(Zf B).length - 1]).toNat≠0 by omega)
    have hk:k≤31:=by
     have:Xe ((Zf B)[(Zf B).length - 1]).toNat≤32:=V1.2 (by omega)
     omega
    obtain ⟨s,hs'⟩:∃ s,s=31 - k:=⟨_,rfl⟩
    have hlz:Zh9 (Zf B)[(Zf B).length - 1]=some (s:Int):=by
     rw [Zh9,show (Zf B)[(Zf B).length - 1]=(((Zf B)[(Zf B).length - 1]).toNat:Int) by omega,Ztk (by omega),Option.bind_some,ek,Z4 (by omega)]
     congr 1;omega
    obtain ⟨u,u1,u2,u3,u4,u5⟩:=Ztj (a:=Zf A) (s:=s) (by omega) (Xg _) (by omega)
    obtain ⟨w,w1,w2,w3,w4,w5⟩:=Ztj (a:=Zf B) (s:=s) (by omega) (Xg _) (by omega)
    rw [Z9] at u4 w4
    have hps:=Nat.two_pow_pos s
    -- the divisor, its highest X7 set
    have hsp:=Zfd hp
    have htl:=S0 ((Xg B).take ((Zf B).length - 1))
    rw [List.length_take,Nat.min_eq_left (by omega)] at htl
    have eB:B=Zc ((Zf B).take ((Zf B).length - 1))+4294967296 ^ ((Zf B).length - 1) * ((Zf B)[(Zf B).length - 1]).toNat:=by
     conv=>lhs;rw [← Z9 B,← hsp,Sz,Y9,Ys]
     rw [List.length_take,Nat.min_eq_left (by omega)];simp
    have pk:2 ^ k * 2 ^ s=2147483648:=by rw [← Nat.pow_add,hs',show k+(31 - k)=31 by omega]
    have pk1:2 ^ (k+1) * 2 ^ s=4294967296:=by rw [Nat.pow_succ,Nat.mul_right_comm,pk]
    have hPp:0<4294967296 ^ ((Zf B).length - 1):=Nat.pow_pos (by decide)
    have hlb1:(Zf B).length - 1+1=(Zf B).length:=by omega
    have pwl:(4294967296:Nat) ^ (Zf B).length=4294967296 ^ ((Zf B).length - 1) * 4294967296:=by rw [← Nat.pow_succ];congr 1;omega
    generalize hPe:4294967296 ^ ((Zf B).length - 1)=P at *
    have top1:P * 2147483648≤2 ^ s * B:=by
     have h1:=Nat.mul_le_mul_left P k1
     have h2:=Nat.mul_le_mul_right (2 ^ s) (show P * 2 ^ k≤B by omega)
     rw [Nat.mul_assoc,pk] at h2
     rw [Nat.mul_comm (2 ^ s)];exact h2
    have top2:2 ^ s * B<P * 4294967296:=by
     have h1:=Nat.mul_le_mul_left P (show ((Zf B)[(Zf B).length - 1]).toNat+1≤2 ^ (k+1) from k2)
     rw [Nat.mul_add] at h1
     have h2:=Nat.mul_lt_mul_of_pos_right (show B<P * 2 ^ (k+1) by omega) hps
     rw [Nat.mul_assoc,pk1] at h2
     rw [Nat.mul_comm (2 ^ s)];exact h2
    have hv0:(Zf (2 ^ s * B)).length=(Zf B).length:=by
     have h1:(Zf (2 ^ s * B)).length≤(Zf B).length:=Wt.2 (by rw [pwl];exact top2)
     have h2:¬ (Zf (2 ^ s * B)).length≤(Zf B).length - 1:=fun h=>by
      have:=Wt.1 h
      rw [hPe] at this
      have:P * 1≤P * 2147483648:=Nat.mul_le_mul_left _ (by decide)
      omega
     omega
    have hvp:0<(Zf (2 ^ s * B)).length:=by omega
    have hbig:2147483648≤((Zf (2 ^ s * B))[(Zf (2 ^ s * B)).length - 1]).toNat:=by
     have tl':=Zw6 (Xg (2 ^ s * B))
     have e:=Zw5 hvp
     have ePP:(4294967296:Nat) ^ ((Zf (2 ^ s * B)).length - 1)=P:=by rw [hv0];exact hPe
     rw [Z9,ePP] at e
     rw [ePP] at tl'
     generalize Zc ((Zf (2 ^ s * B)).take ((Zf (2 ^ s * B)).length - 1))=lo at *
     generalize ((Zf (2 ^ s * B))[(Zf (2 ^ s * B)).length - 1]).toNat=t at *
     have h3:P * 2147483648<P * (t+1):=by rw [Nat.mul_add];omega
     have:=Nat.lt_of_mul_lt_mul_left h3
     omega
    obtain ⟨q,hq⟩:∃ q,q=List.replicate ((Zf A).length - (Zf B).length+1) (0:Int):=⟨_,rfl⟩
    have lq:q.length=(Zf A).length - (Zf B).length+1:=by rw [hq,List.length_replicate]
    rw [if_neg (by rw [decide_eq_false (by omega)];decide),Z4 (x:=((Zf B).length:Int) - 1) (by omega),show ((Zf B).length:Int) - 1=(((Zf B).length - 1:Nat):Int) by omega,Xk i1,Option.bind_some,hlz,Option.bind_some,u1,Option.bind_some,w1,Option.bind_some,
     Zw9 w3 (by omega) (by omega),Option.bind_some,w4,Z4 (x:=((Zf A).length:Int) - ((Zf B).length:Int)) (by omega),Z4 (x:=((Zf A).length:Int) - ((Zf B).length:Int)+1) (by omega),Xi (by simp only [maxLen];omega),
     show Int.toNat (((Zf A).length:Int) - ((Zf B).length:Int)+1)=(Zf A).length - (Zf B).length+1 by omega,← hq,Z4 (x:=(q.length:Int) - 1) (by omega)]
    obtain ⟨u',q',r1,r2,r3,r4,r5,r6,r7⟩:=Zr9 N s (Zf (2 ^ s * B)) (by omega) (Xg _) (by omega) hbig N q.length u q (Nat.le_refl _) (by omega) (by omega) (by omega) u3 (by rw [hq];exact .zeros _) (by
     -- the highest Zf are below the divisor
     rw [Z9]
     have h1:=Z0g (k:=q.length) (n:=(Zf B).length) u3 (by omega) hp u5
     rw [hPe] at h1
     have hs31:2 ^ s≤2147483648:=by
      have:=Nat.pow_le_pow_right (n:=2) (by decide) (show s≤31 by omega)
      omega
     have h8:=Nat.mul_le_mul_left P hs31
     omega) (by rw [hq,List.take_replicate];exact S1 _)
    rw [r1,Zw9 r4 (by omega) (by omega),Option.bind_some]
    rw [Z9] at r6 r7
    have zq:Zc q=0:=by rw [hq];exact S1 _
    rw [zq,u4,Nat.mul_zero,Nat.zero_add] at r7
    have ll:=Y2 r4
    have hfin:=Zsa N s (by omega) q' (Zf (Zc u')) r5 (Xg _) (by omega) (by omega) N 0 (Zf (Zc u')) [] (by omega) (by omega) (by simp) rfl .nil (by rw [Ys,List.drop_zero,Nat.pow_zero];omega)
    rw [show ((0:Nat):Int)=0 from rfl] at hfin
    rw [hfin,Z9]
    have hqv:Zc q'=A / B:=by
     have h9:2 ^ s * A / (2 ^ s * B)=Zc q':=by
      rw [← r7,Nat.mul_add_div (by omega),Nat.div_eq_of_lt r6,Nat.add_zero]
     rw [← h9,Nat.mul_div_mul_left _ _ hps]
    have hrv:Zc u' / 2 ^ s=A % B:=by
     have h9:2 ^ s * A % (2 ^ s * B)=Zc u':=by
      rw [← r7,Nat.mul_add_mod,Nat.mod_eq_of_lt r6]
     rw [Nat.mul_mod_mul_left] at h9
     rw [← h9,Nat.mul_div_cancel_left _ hps]
    rw [hqv,hrv]
theorem Z05 {x y:Nat} (h:y≤x) (hy:0<y):y * (x % y)≤x * y / 2:=by
 have h1:x % y+y≤x:=by
  have:=Nat.mod_add_div x y
  have h2:y * 1≤y * (x / y):=Nat.mul_le_mul_left _ (Nat.div_pos h hy)
  omega
 have h2:=Nat.mod_lt x hy
 have h3:y * (2 * (x % y))≤y * x:=Nat.mul_le_mul_left _ (by omega)
 rw [Nat.le_div_iff_mul_le (by decide),Nat.mul_comm x y,Nat.mul_assoc,Nat.mul_comm (x % y) 2]
 exact h3
theorem Zn1 (N:Nat):∀ (n x y:Nat),y≤x→Xe (x * y)<n→(Zf x).length+(Zf y).length+4<N→(Zf x).length+(Zf y).length≤549755813888→Zcm N n (Zf x) (Zf y)=some (Zf (Nat.gcd x y))
 | 0,x,y,_,h,_,_=>by omega
 | n+1,x,y,hxy,hn,hN,hs=>by
  rw [Zcm.eq_2]
  by_cases h0:y=0
  ·subst h0
   rw [W8,if_neg (by decide),Nat.gcd_zero_right]
  ·have hp:0<(Zf y).length:=List.length_pos_iff.2 (fun h=>h0 (Zff.1 h))
   have hm:=Nat.mod_lt x (show 0<y by omega)
   have lm:(Zf (x % y)).length≤(Zf y).length:=Wt.2 (Nat.lt_trans hm (Wt.1 (Nat.le_refl _)))
   have ly:(Zf y).length≤(Zf x).length:=Wt.2 (Nat.lt_of_le_of_lt hxy (Wt.1 (Nat.le_refl _)))
   rw [if_pos (decide_eq_true (by omega)),Zkh (Xg _) (Xg _) hN hs,Option.bind_some,Z9,Z9,if_neg h0]
   have hb:Xe (y * (x % y))<n:=by
    have h1:=Z05 hxy (by omega)
    have h2:Xe (y * (x % y))≤Xe (x * y / 2 ^ 1):=V1.2 (Nat.lt_of_le_of_lt (by rw [Nat.pow_one];exact h1) (V1.1 (Nat.le_refl _)))
    rw [Zhn] at h2
    have h3:0<x * y:=Nat.mul_pos (by omega) (by omega)
    have h4:0<Xe (x * y):=by
     rcases Nat.eq_zero_or_pos (Xe (x * y)) with h | h
     ·have:=V1.1 (show Xe (x * y)≤0 by omega)
      omega
     ·exact h
    omega
   have:=Zn1 N n y (x % y) (Nat.le_of_lt hm) hb (by omega) (by omega)
   rw [this,Nat.gcd_comm x y,Nat.gcd_rec y x,Nat.gcd_comm]
theorem Zqp (x y:Nat):Xe (x * y)≤Xe x+Xe y:=by
 refine V1.2 ?_
 rw [Nat.pow_add]
 have h1:=V1.1 (Nat.le_refl (Xe x))
 have h2:=V1.1 (Nat.le_refl (Xe y))
 exact Nat.mul_lt_mul'' h1 h2
theorem Z04 {N:Nat} {a b:List Int} (ha:Zo a) (hb:Zo b) (hN:32 * (a.length+b.length)+8<N) (hs:a.length+b.length≤549755813888):Zie N a b=some (Zf (Nat.gcd (Zc a) (Zc b))):=by
 have la:=Y2 ha
 have lb:=Y2 hb
 have ba:=(Zj5 (Zc a)).2
 have bb:=(Zj5 (Zc b)).2
 rw [Zie,S3 ha (by omega) (by omega),Option.bind_some,S3 hb (by omega) (by omega),Option.bind_some]
 by_cases h:Zc b≤Zc a
 ·have:=Zqp (Zc a) (Zc b)
  exact Zn1 N N _ _ h (by omega) (by omega) (by omega)
 ·have h':Zc a<Zc b:=by omega
  have hm:=Zqp (Zc b) (Zc a)
  have hp:0<(Zf (Zc b)).length:=List.length_pos_iff.2 (fun h=>by have:=Zff.1 h;omega)
  obtain ⟨N',rfl⟩:∃ N',N=N'+1:=⟨N - 1,by omega⟩
  rw [Zcm.eq_2,if_pos (decide_eq_true (by omega)),Zkh (Xg _) (Xg _) (by omega) (by omega),Option.bind_some,Z9,Z9,if_neg (by omega),Nat.mod_eq_of_lt h',
   Zn1 (N'+1) N' _ _ (by omega) (by omega) (by omega) (by omega),Nat.gcd_comm]
abbrev ZV:=Bool×List Int
abbrev QV:=R3×List Int
def Zx (a:ZV):Int:=if a.1=true then -(Zc a.2:Int) else (Zc a.2:Int)
def X2 (z:Int):ZV:=(decide (z<0),Zf z.natAbs)
def Yr (l:List Int):Nat:=if Zc l=0 then 1 else Zc l
def Zv (a:QV):Rat:=mkRat (Zx a.1) (Yr a.2)
def Zq (q:Rat):QV:=(X2 q.num,Zf q.den)
structure RV (k:Nat) (a:QV):Prop where
 m:Zo a.1.2
 d:Zo a.2
 lm:a.1.2.length≤k
 ld:a.2.length≤k
def qs (q:Rat):Nat:=max (Zf q.num.natAbs).length (Zf q.den).length
def Xj (N s:Nat):Prop:=200 * (s+4)<N∧s≤17179869184
theorem Zjv (a:ZV):(Zx a).natAbs=Zc a.2:=by
 rw [Zx];split <;> omega
theorem Tv (z:Int):Zx (X2 z)=z:=by
 rw [Zx,X2]
 simp only [Z9,decide_eq_true_eq]
 split <;> omega
theorem Zi9 (n:Bool) (m:List Int):X2 (Zx (n,m))=(n&&decide (Zc m≠0),Zf (Zc m)):=by
 rw [X2,Zjv]
 congr 1
 rw [Zx]
 cases n
 ·rw [if_neg (fun h=>by cases h),Bool.false_and]
  exact decide_eq_false (by omega)
 ·rw [if_pos rfl,Bool.true_and]
  exact decide_eq_decide.2 (by simp only;omega)
theorem T4 (z:Int):Zo (X2 z).2:=Xg _
theorem Sp (l:List Int):Yr l≠0:=by rw [Yr];split <;> omega
theorem Z0h {n:Nat} (h:n≠0):Yr (Zf n)=n:=by rw [Yr,Z9,if_neg h]
theorem Yx (q:Rat):Zv (Zq q)=q:=by
 rw [Zv,Zq]
 simp only [Tv,Z0h q.den_nz]
 exact Rat.mkRat_self q
theorem Zwf (q:Rat):RV (qs q) (Zq q):=⟨Xg _,Xg _,Nat.le_max_left _ _,Nat.le_max_right _ _⟩
theorem RV.mono {k l:Nat} {a:QV} (h:RV k a) (hl:k≤l):RV l a:=⟨h.m,h.d,Nat.le_trans h.lm hl,Nat.le_trans h.ld hl⟩
theorem Wa {q:Rat} {k:Nat} (h:qs q≤k):RV k (Zq q):=(Zwf q).mono h
theorem Xj.mono {N s t:Nat} (h:Xj N t) (hs:s≤t):Xj N s:=by
 obtain ⟨h1,h2⟩:=h
 exact ⟨by omega,by omega⟩
theorem Vr {m n:Nat} (h:m≤n):(Zf m).length≤(Zf n).length:=Wt.2 (Nat.lt_of_le_of_lt h (Wt.1 (Nat.le_refl _)))
theorem T3 (m n:Nat):(Zf (m * n)).length≤(Zf m).length+(Zf n).length:=by
 refine Wt.2 ?_
 rw [Nat.pow_add]
 exact Nat.mul_lt_mul'' (Wt.1 (Nat.le_refl _)) (Wt.1 (Nat.le_refl _))
theorem Zkq {m n k:Nat} (hm:(Zf m).length≤k) (hn:(Zf n).length≤k):(Zf (m+n)).length≤k+1:=by
 refine Wt.2 ?_
 have h1:=Wt.1 hm
 have h2:=Wt.1 hn
 rw [Nat.pow_succ]
 omega
theorem Sq {n:Nat} (h:n≠0):1≤(Zf n).length:=List.length_pos_iff.2 (fun e=>h (Zff.1 e))
theorem Z2w (q:Rat):1≤qs q:=Nat.le_trans (Sq q.den_nz) (Nat.le_max_right _ _)
theorem Zjg {z:Int} {d k:Nat} (hz:(Zf z.natAbs).length≤k) (hd:(Zf d).length≤k) (hk:1≤k):qs (mkRat z d)≤k:=by
 rw [qs,Rat.num_mkRat,Rat.den_mkRat]
 by_cases h:d=0
 ·rw [if_pos h,if_pos h]
  simp only [Int.natAbs_zero,W8,T5]
  simp;omega
 ·rw [if_neg h,if_neg h]
  refine Nat.max_le.2 ⟨Nat.le_trans (Vr ?_) hz,Nat.le_trans (Vr (Nat.div_le_self _ _)) hd⟩
  exact Int.natAbs_ediv_le_natAbs _ _
theorem Zvh {k:Nat} {a:QV} (h:RV k a):qs (Zv a)≤max k 1:=by
 refine Zjg ?_ ?_ (Nat.le_max_right _ _)
 ·rw [Zjv]
  exact Nat.le_trans (Y2 h.m) (Nat.le_trans h.lm (Nat.le_max_left _ _))
 ·rw [Yr]
  split
  ·rw [T5];exact Nat.le_max_right _ _
  ·exact Nat.le_trans (Y2 h.d) (Nat.le_trans h.ld (Nat.le_max_left _ _))
theorem Z2v (a:Rat):qs (-a)=qs a:=by rw [qs,qs,Rat.neg_num,Rat.neg_den,Int.natAbs_neg]
theorem Zl6 (a b:Rat):qs (a * b)≤qs a+qs b:=by
 rw [Rat.mul_def']
 have:=Z2w a
 refine Zjg ?_ ?_ (by omega)
 ·rw [Int.natAbs_mul]
  exact Nat.le_trans (T3 _ _) (Nat.add_le_add (Nat.le_max_left _ _) (Nat.le_max_left _ _))
 ·exact Nat.le_trans (T3 _ _) (Nat.add_le_add (Nat.le_max_right _ _) (Nat.le_max_right _ _))
theorem Zpi (a b:Rat):qs (a+b)≤qs a+qs b+1:=by
 rw [Rat.add_def']
 have an:(Zf a.num.natAbs).length≤qs a:=Nat.le_max_left _ _
 have ad:(Zf a.den).length≤qs a:=Nat.le_max_right _ _
 have bn:(Zf b.num.natAbs).length≤qs b:=Nat.le_max_left _ _
 have bd:(Zf b.den).length≤qs b:=Nat.le_max_right _ _
 refine Zjg (Nat.le_trans (Vr (Int.natAbs_add_le _ _)) (Zkq ?_ ?_)) ?_ (by omega)
 ·rw [Int.natAbs_mul,Int.natAbs_natCast]
  have:=T3 a.num.natAbs b.den
  omega
 ·rw [Int.natAbs_mul,Int.natAbs_natCast]
  have:=T3 b.num.natAbs a.den
  omega
 ·have:=T3 a.den b.den
  omega
theorem Z2x (a b:Rat):qs (a - b)≤qs a+qs b+1:=by
 rw [Rat.sub_eq_add_neg]
 have:=Zpi a (-b)
 rw [Z2v] at this
 exact this
theorem Zpk:qs 0=1:=by
 rw [qs]
 simp only [Rat.zero_num,Rat.zero_den,Int.natAbs_zero,W8,T5]
 simp
theorem Zpj:qs 1=1:=by
 rw [qs]
 simp only [Rat.one_num,Rat.one_den,Int.natAbs_one,T5]
 simp
theorem Zuk {neg:Bool} {num den:List Int} (hd:Zc den≠0):
  Zq (mkRat (Zx (neg,num)) (Zc den))=((neg&&decide (Zc num / Nat.gcd (Zc num) (Zc den)≠0),Zf (Zc num / Nat.gcd (Zc num) (Zc den))),Zf (Zc den / Nat.gcd (Zc num) (Zc den))):=by
 rw [Zq,Rat.num_mkRat,Rat.den_mkRat,if_neg hd,if_neg hd,Zjv,Nat.gcd_comm (Zc den) (Zc num)]
 have hg:Nat.gcd (Zc num) (Zc den)≠0:=fun h=>hd (Nat.gcd_eq_zero_iff.1 h).2
 congr 1
 have e:Zx (neg,num) / ((Nat.gcd (Zc num) (Zc den):Nat):Int)=Zx (neg,Zf (Zc num / Nat.gcd (Zc num) (Zc den))):=by
  rw [Zx,Zx]
  simp only [Z9]
  cases neg
  ·simp
  ·simp only [if_true]
   rw [Int.neg_ediv_of_dvd (Int.natCast_dvd_natCast.2 (Nat.gcd_dvd_left _ _)),Int.natCast_ediv]
 rw [e,Zi9,Z9]
theorem Zlx {a b:Int} {c d:Nat} (hc:c≠0) (hd:d≠0):mkRat a c<mkRat b d↔a * d<b * c:=by
 have h1:(0:Rat)<(c:Rat):=Rat.natCast_pos.2 (by omega)
 have h2:(0:Rat)<(d:Rat):=Rat.natCast_pos.2 (by omega)
 rw [Rat.mkRat_eq_div,Rat.mkRat_eq_div,Rat.div_lt_iff h1]
 have e:(b:Rat) / d * c=(b:Rat) * c / d:=by
  rw [Rat.div_def,Rat.div_def,Rat.mul_assoc,Rat.mul_assoc,Rat.mul_comm (d:Rat)⁻¹]
 rw [e,Rat.lt_div_iff h2]
 have e1:((a:Rat) * (d:Rat))=((a * (d:Int):Int):Rat):=by rw [Rat.intCast_mul];rfl
 have e2:((b:Rat) * (c:Rat))=((b * (c:Int):Int):Rat):=by rw [Rat.intCast_mul];rfl
 rw [e1,e2,Rat.intCast_lt_intCast]
theorem Zoz {a b:Int} {c d:Nat} (hc:c≠0) (hd:d≠0):mkRat a c=mkRat b d↔a * d=b * c:=Rat.mkRat_eq_iff hc hd
def Vj (a b:Rat):Int:=if a<b then -1 else if b<a then 1 else 0
def Zc8 (a b:Int):Int:=if a<b then -1 else if b<a then 1 else 0
def Qo (a:Rat):Int:=Vj a 0
theorem Zvb {a b:Int} {c d:Nat} (hc:c≠0) (hd:d≠0):Vj (mkRat a c) (mkRat b d)=Zc8 (a * d) (b * c):=by
 unfold Vj Zc8
 simp only [Zlx hc hd,Zlx hd hc]
theorem Zqg (a:Int):Zc8 a 0=a.sign:=by
 unfold Zc8
 rcases Int.lt_trichotomy a 0 with h | h | h
 ·rw [if_pos h,Int.sign_eq_neg_one_of_neg h]
 ·rw [h];rfl
 ·rw [if_neg (by omega),if_pos h,Int.sign_eq_one_of_pos h]
theorem Z2y (a:QV):Qo (Zv a)=(Zx a.1).sign:=by
 rw [Qo,Zv,show (0:Rat)=mkRat 0 1 by rw [Rat.zero_mkRat],Zvb (Sp _) (by decide),← Zqg]
 simp
theorem Zvj {a:Rat}:Qo a=0↔a=0:=by
 rw [Qo,Vj]
 constructor
 ·intro h
  split at h
  ·cases h
  ·split at h
   ·cases h
   ·rename_i h1 h2
    exact Rat.le_antisymm (Rat.not_lt.1 h2) (Rat.not_lt.1 h1)
 ·rintro rfl
  rw [if_neg Rat.lt_irrefl,if_neg Rat.lt_irrefl]
theorem Zvi {a:Rat}:Qo a<0↔a<0:=by
 rw [Qo,Vj]
 by_cases h:a<0
 ·rw [if_pos h];simp [h]
 ·rw [if_neg h];simp only [h,iff_false];split <;> decide
def V4 (N:Nat) (ab:R0):Option R2:=
  (Zdz N ab.2).bind fun aa=>if (decide (0<(aa.length:Int)))=true then (some aa) else ((Zaf N 1).bind fun ac=>some ac)
theorem U5 {N ad ae:Nat} {af ag:Option Addr} {col:Zd} {w0:World} {ab:R0} {r:R2} (c1:Nat) (hm:V4 N ab=some r) (aq:Sl (Za.int .u32) col w0 af ad ab.1.2) (ac:Sl (Za.int .u32) col w0 ag ae ab.2):
    Calls Tryz.prog 59 #[(.agg #[.bool ab.1.1,.slice af ab.1.2.length ad,.slice ag ab.2.length ae])] w0 (fun e w'=>∃ (col':Zd) (ra1:Option Addr) (rc2:Nat),e= .returned ((.slice ra1 r.length rc2))∧Zg col w0 col' w'∧Zb (Za.int .u32) 77 c1 col' w' ra1 rc2 r):=by
 refine Xl 2 (m:=12) func59 rfl rfl rfl rfl rfl ?_;rw [V4.eq_1] at hm;have aa:=St.start col w0;refine go ?_;refine Xp (col:=(Zk col)) 1 rfl ?_;intro ar au av ah ai;refine go ?_;refine Xw ai ?_;obtain ⟨aw,aj,hm⟩:=bZ hm;replace ac:=ac.keep (Zl.start col w0);replace aa:=aa.grow ah;refine Zi (Zm7 2 aj (ac.ks aa)) ?_;rintro _ ax ⟨ak,ay,az,rfl,al,am⟩;refine ⟨_,rfl,go ?_⟩;replace aa:=aa.grow al;refine Zp hm (fun hb hm=>go ?_) fun hb hm=>go ?_
 ·cases hm;exact ⟨rfl,_,_,_,rfl,aa.fin (cm [(2,c1)]),aa.fo am⟩
 obtain ⟨a0,an,hm⟩:=bZ hm;refine Zi (Ze4 (col:=ak) 3 an) ?_;rintro _ a1 ⟨a2,a3,a4,rfl,ao,ap⟩;refine ⟨_,rfl,go ?_⟩;cases hm;replace aa:=aa.grow ao;exact ⟨rfl,_,_,_,rfl,aa.fin (cm [(3,c1)]),aa.fo ap⟩
def Zg2 (aa:Bool) (ab:List Int):Option R3:=
  some (aa,ab)
def Tq (N:Nat) (ab:Bool) (ac:List Int):Option R3:=
  (Zdz N ac).bind fun aa=>if ab=true then (Zg2 (decide (0<(aa.length:Int))) aa) else (Zg2 false aa)
theorem Qw {N ao:Nat} {a1:Option Addr} {col:Zd} {w0:World} {ap:Bool} {ah:R2} {r:R3} (c1:Nat) (hm:Tq N ap ah=some r) (h1:Sl (Za.int .u32) col w0 a1 ao ah):
    Calls Tryz.prog 99 #[.bool ap,.slice a1 ah.length ao] w0 (fun e w'=>∃ (col':Zd) (ra1:Option Addr) (rc2:Nat),e= .returned ((.agg #[.bool r.1,.slice ra1 r.2.length rc2]))∧Zg col w0 col' w'∧Zb (Za.int .u32) 77 c1 col' w' ra1 rc2 r.2):=by
 refine Yw (m:=16) func99 rfl rfl rfl ?_;rw [Tq.eq_1] at hm;have aa:=St.start col w0;refine go ?_;refine Xa (col:=(Zk col)) #[.bool false,.slice none (([]:List Int).length) 0] 1 zeroValue33 ?_;intro ax a4 a5 ay ac;refine go ?_;obtain ⟨ad,az,hm⟩:=bZ hm;replace h1:=h1.keep (Zl.start col w0);replace aa:=aa.grow ay;refine Zi (Zm7 2 az (h1.ks aa)) ?_;rintro _ a6 ⟨a7,aq,ar,rfl,au,ab⟩;refine ⟨_,rfl,?_⟩;refine T0 rfl<|Zm<|Zw ?_;replace ac:=ac.gr au;replace aa:=aa.grow au;refine Wp.cutK [4,1000000] (fun f ae=>∃ af ai aj ak ag,Zg2 ai ag=some r∧St w0 (Zk col) af ae∧Zb (Za.int .u32) 77 3 af ae aj ak ag∧Zj 33 1 af ae ax #[.bool ai,.slice aj ag.length ak]) ?_ ?_
 ·intro f ae hJ;obtain ⟨af,ai,aj,ak,ag,hm,aa,a0,ac⟩:=hJ;rw [Zg2.eq_1] at hm;refine Wx ?_;cases hm;exact ⟨rfl,_,ra ac.atN,_,_,_,rfl,aa.fin (cm [(3,c1)]),aa.fo a0⟩
 refine go ?_;refine Xz hm (fun al hm=>go ?_) fun al hm=>go ?_
 ·refine lV (.bool (decide (0<(ad.length:Int)))) (Xm (congrArg Value.bool al) rfl)<|Wk rfl<|lV (.agg #[.bool (decide (0<(ad.length:Int))),.slice aq ad.length ar]) (Yi (l:=[_,_]) (qs:=[(0,1),(1,1)]) underlying33 zeroValue33 ⟨rfl,sizeOf4,rfl,sizeOf31,trivial⟩ rfl)<|Zu ac ?_;intro a8 av a2 am;refine Zm ?_;replace ab:=ab.kp av;replace ab:=ab.recolSelf 3 (by decide);replace am:=am.recol 2 3 (by decide);replace aa:=aa.kp av a2;replace aa:=aa.recol 2 3 (by decide) (by decide);exact ⟨rfl,_,_,_,_,_,hm,aa,ab,am⟩
 refine lV (.bool false) (Xd (congrArg Value.bool al) rfl)<|Wk rfl<|lV (.agg #[.bool false,.slice aq ad.length ar]) (Yi (l:=[_,_]) (qs:=[(0,1),(1,1)]) underlying33 zeroValue33 ⟨rfl,sizeOf4,rfl,sizeOf31,trivial⟩ rfl)<|Zu ac ?_;intro a9 aw a3 an;refine Zm ?_;replace ab:=ab.kp aw;replace ab:=ab.recolSelf 3 (by decide);replace an:=an.recol 2 3 (by decide);replace aa:=aa.kp aw a3;replace aa:=aa.recol 2 3 (by decide) (by decide);exact ⟨rfl,_,_,_,_,_,hm,aa,ab,an⟩
def Zi6 (N:Nat) (aa:R3) (ab:R3):Option R3:=
  (Zad N aa.2 ab.2).bind fun ad=>(Tq N (!decide (aa.1=ab.1)) ad).bind fun ac=>some (ac.1,ac.2)
theorem Zzo {N ar au:Nat} {av aw:Option Addr} {col:Zd} {w0:World} {ag ah r:R3} (c1:Nat) (hm:Zi6 N ag ah=some r) (al:Sl (Za.int .u32) col w0 av ar ag.2) (am:Sl (Za.int .u32) col w0 aw au ah.2):
    Calls Tryz.prog 110 #[(.agg #[.bool ag.1,.slice av ag.2.length ar]),(.agg #[.bool ah.1,.slice aw ah.2.length au])] w0 (fun e w'=>∃ (col':Zd) (ra1:Option Addr) (rc2:Nat),e= .returned ((.agg #[.bool r.1,.slice ra1 r.2.length rc2]))∧Zg col w0 col' w'∧Zb (Za.int .u32) 77 c1 col' w' ra1 rc2 r.2):=by
 refine Yw (m:=16) func110 rfl rfl rfl ?_;rw [Zi6.eq_1] at hm;have aa:=St.start col w0;refine go ?_;refine Xp (col:=(Zk col)) 1 rfl ?_;intro a7 a8 az a0 ai;refine Xp (col:=az) 2 rfl ?_;intro a9 ba a1 ax aj;refine Xa (col:=a1) #[.bool false,.slice none (([]:List Int).length) 0] 3 zeroValue33 ?_;intro bb bc ad an ab;refine go ?_;refine Wb (col:=ad) [(0,1),(1,0),(2,1),(3,0),(4,1),(5,1),(6,0),(7,1),(8,0),(9,3),(10,3),(11,2)] (by kernel_rfl) (by kernel_rfl)<|xF ⟨_,_,rfl⟩ ?_;replace ai:=(ai.gr ax).gr an;refine xW (fun _ hC=>((ai.atN).nth (q:=0) rfl).gr (hC.bl ad)) ?_;refine xF ⟨_,_,rfl⟩ ?_;replace aj:=aj.gr an;refine xW (fun _ hC=>((aj.atN).nth (q:=0) rfl).gr (hC.bl ad)) ?_;refine xu rfl rfl (fun _=>Zjm _ _ underlying4 rfl rfl) ?_;refine xF ⟨_,_,rfl⟩ ?_;refine xW (fun _ hC=>((ai.atN).nth (q:=1) rfl).gr (hC.bl ad)) ?_;refine xF ⟨_,_,rfl⟩ ?_;refine xW (fun _ hC=>((aj.atN).nth (q:=1) rfl).gr (hC.bl ad)) ?_;refine xe rfl rfl ?_;intro bd hC0;have hC:=hC0.bl ad;obtain ⟨be,a2,hm⟩:=bZ hm;replace al:=al.keep (Zl.start col w0);replace am:=am.keep (Zl.start col w0);replace aa:=(((aa.grow a0).grow ax).grow an).grow hC;refine Zi (Zhp 4 a2 (al.ks aa) (am.ks aa)) ?_;rintro _ bf ⟨af,bg,bh,rfl,ao,ap⟩;refine ⟨_,rfl,?_⟩;refine Zm<|Xr af hC0 ao<|xe rfl rfl ?_;intro a3 hC0;replace ab:=(ab.gr hC).gr ao;have hC:=hC0.bl af;obtain ⟨bi,a4,hm⟩:=bZ hm;replace ap:=ap.gr hC;refine Zi (Qw 5 a4 (ap.toSlF (Ze.int .u32))) ?_;rintro _ bj ⟨a5,bk,bm,rfl,ae,ac⟩;refine ⟨_,rfl,?_⟩;replace ac:=ac.thaw (Zs .u32) ae ((Fz.refl (col:=af)).froz 4) (by decide);replace ae:=ae.thawR (col:=af);generalize Z1 a3.heap.size af a5=ak at *;refine Zm<|Xr ak hC0 ae<|xe rfl rfl ?_;intro bn hC0;replace aa:=((aa.grow ao).grow hC).grow ae;replace ab:=(ab.gr hC).gr ae;have hC:=hC0.bl ak;replace ab:=ab.gr hC;refine Zu ab ?_;intro bo ay a6 aq;refine Zm<|xk ak<|Yz ?_;replace ac:=(ac.gr hC).kp ay;replace aa:=(aa.grow hC).kp ay a6;intro bp hC;replace hC:=hC.bl ak;refine Wx ?_;cases hm;replace ac:=ac.gr hC;replace aq:=aq.gr hC;replace aa:=aa.grow hC;exact ⟨rfl,_,ra aq.atN,_,_,_,rfl,aa.fin (cm [(5,c1)]),aa.fo ac⟩
def Q7 (N:Nat) (aa:R3) (ac:List Int):Option R3:=
  (Zi6 N (aa.1,aa.2) (false,ac)).bind fun ab=>some (ab.1,ab.2)
theorem Ze2 {N ai ad:Nat} {aj a1:Option Addr} {col:Zd} {w0:World} {ab:R3} {ac:R2} {r:R3} (c1:Nat) (hm:Q7 N ab ac=some r) (ae:Sl (Za.int .u32) col w0 aj ai ab.2) (h1:Sl (Za.int .u32) col w0 a1 ad ac):
    Calls Tryz.prog 58 #[(.agg #[.bool ab.1,.slice aj ab.2.length ai]),.slice a1 ac.length ad] w0 (fun e w'=>∃ (col':Zd) (ra1:Option Addr) (rc2:Nat),e= .returned ((.agg #[.bool r.1,.slice ra1 r.2.length rc2]))∧Zg col w0 col' w'∧Zb (Za.int .u32) 77 c1 col' w' ra1 rc2 r.2):=by
 refine Yw (m:=9) func58 rfl rfl rfl ?_;rw [Q7.eq_1] at hm;have aa:=St.start col w0;refine go ?_;refine Xp (col:=(Zk col)) 1 rfl ?_;intro au av an ao af;refine Xa (col:=an) #[.bool false,.slice none (([]:List Int).length) 0] 2 zeroValue33 ?_;intro aw ax ay ak ag;refine go ?_;replace af:=af.gr ak;refine lV _ (Z3 isAgg33 sizeOf33 af)<|Wk rfl<|lV (.agg #[.bool false,.slice a1 ac.length ad]) (Yi (l:=[_,_]) (qs:=[(0,1),(1,1)]) underlying33 zeroValue33 ⟨rfl,sizeOf4,rfl,sizeOf31,trivial⟩ rfl) ?_;obtain ⟨az,ap,hm⟩:=bZ hm;replace ae:=ae.keep (Zl.start col w0);replace h1:=h1.keep (Zl.start col w0);replace aa:=(aa.grow ao).grow ak;refine Zi (Zzo 3 ap (ae.ks aa) (h1.ks aa)) ?_;rintro _ a0 ⟨a2,a3,a4,rfl,al,ah⟩;refine ⟨_,rfl,?_⟩;replace ag:=ag.gr al;refine Zu ag ?_;intro a5 am aq ar;refine go ?_;cases hm;replace aa:=(aa.grow al).kp am aq;replace ah:=ah.kp am;exact ⟨rfl,_,ra ar.atN,_,_,_,rfl,aa.fin (cm [(3,c1)]),aa.fo ah⟩
def Zei (N:Nat) (aa:R3) (ab:R3):Option R3:=
  if (decide (aa.1=ab.1))=true then ((Zid N aa.2 ab.2).bind fun ag=>(Tq N aa.1 ag).bind fun ac=>some (ac.1,ac.2)) else ((Zge N aa.2 ab.2).bind fun ad=>if ad.2=true then ((Tq N aa.1 ad.1).bind fun ae=>some (ae.1,ae.2)) else ((Zge N ab.2 aa.2).bind fun ah=>(Tq N ab.1 ah.1).bind fun af=>some (af.1,af.2)))
theorem Znf {N a3 a4:Nat} {a5 a6:Option Addr} {col:Zd} {w0:World} {ao ap r:R3} (c1:Nat) (hm:Zei N ao ap=some r) (ag:Sl (Za.int .u32) col w0 a5 a3 ao.2) (ah:Sl (Za.int .u32) col w0 a6 a4 ap.2):
    Calls Tryz.prog 60 #[(.agg #[.bool ao.1,.slice a5 ao.2.length a3]),(.agg #[.bool ap.1,.slice a6 ap.2.length a4])] w0 (fun e w'=>∃ (col':Zd) (ra1:Option Addr) (rc2:Nat),e= .returned ((.agg #[.bool r.1,.slice ra1 r.2.length rc2]))∧Zg col w0 col' w'∧Zb (Za.int .u32) 77 c1 col' w' ra1 rc2 r.2):=by
 refine Yw (m:=47) func60 rfl rfl rfl ?_;rw [Zei.eq_1] at hm;have aa:=St.start col w0;refine go ?_;refine Xp (col:=(Zk col)) 1 rfl ?_;intro b3 b4 bf bg ad;refine Xp (col:=bf) 2 rfl ?_;intro b5 b6 bh a7 ac;refine Xa (col:=bh) #[.bool false,.slice none (([]:List Int).length) 0] 3 zeroValue33 ?_;intro b7 b8 ai aw ab;refine go ?_;refine Xo ⟨_,_,rfl⟩ ?_;replace ad:=(ad.gr a7).gr aw;refine lW ((ad.atN).nth (q:=0) rfl)<|Xo ⟨_,_,rfl⟩ ?_;replace ac:=ac.gr aw;refine lW ((ac.atN).nth (q:=0) rfl)<|go ?_;replace ag:=ag.keep (Zl.start col w0);replace ah:=ah.keep (Zl.start col w0);replace aa:=((aa.grow bg).grow a7).grow aw;refine Zp hm (fun hb hm=>?_) fun hb hm=>go ?_
 ·refine Zw<|Wb (col:=ai) [(0,1),(1,0),(2,1),(3,0),(4,1),(5,0),(6,3),(7,3),(8,2)] (by kernel_rfl) (by kernel_rfl)<|xF ⟨_,_,rfl⟩ ?_;refine xW (fun _ hC=>((ad.atN).nth (q:=0) rfl).gr (hC.bl ai)) ?_;refine xF ⟨_,_,rfl⟩ ?_;refine xW (fun _ hC=>((ad.atN).nth (q:=1) rfl).gr (hC.bl ai)) ?_;refine xF ⟨_,_,rfl⟩ ?_;refine xW (fun _ hC=>((ac.atN).nth (q:=1) rfl).gr (hC.bl ai)) ?_;refine xe rfl rfl ?_;intro b9 hC0;have hC:=hC0.bl ai;obtain ⟨ca,bi,hm⟩:=bZ hm;replace aa:=aa.grow hC;refine Zi (Zyv 4 bi (ag.ks aa) (ah.ks aa)) ?_;rintro _ cb ⟨aj,cc,cd,rfl,ax,ay⟩;refine ⟨_,rfl,?_⟩;refine Zm<|Xr aj hC0 ax<|xe rfl rfl ?_;intro bj hC0;replace ab:=(ab.gr hC).gr ax;have hC:=hC0.bl aj;obtain ⟨ce,bk,hm⟩:=bZ hm;replace ay:=ay.gr hC;refine Zi (Qw 5 bk (ay.toSlF (Ze.int .u32))) ?_;rintro _ cf ⟨bm,cg,ch,rfl,af,ae⟩;refine ⟨_,rfl,?_⟩;replace ae:=ae.thaw (Zs .u32) af ((Fz.refl (col:=aj)).froz 4) (by decide);replace af:=af.thawR (col:=aj);generalize Z1 bj.heap.size aj bm=aq at *;refine Zm<|Xr aq hC0 af<|xe rfl rfl ?_;intro ci hC0;replace aa:=((aa.grow ax).grow hC).grow af;replace ab:=(ab.gr hC).gr af;have hC:=hC0.bl aq;replace ab:=ab.gr hC;refine Zu ab ?_;intro cj a8 bn az;refine Zm<|xk aq<|Yz ?_;replace ae:=(ae.gr hC).kp a8;replace aa:=(aa.grow hC).kp a8 bn;intro ck hC;replace hC:=hC.bl aq;refine Wx ?_;cases hm;replace ae:=ae.gr hC;replace az:=az.gr hC;replace aa:=aa.grow hC;exact ⟨rfl,_,ra az.atN,_,_,_,rfl,aa.fin (cm [(5,c1)]),aa.fo ae⟩
 refine Xw ad<|Xw ac ?_;obtain ⟨ar,bo,hm⟩:=bZ hm;refine Zi (Zqz 6 bo (ag.ks aa) (ah.ks aa)) ?_;rintro _ bp ⟨a0,a9,ba,rfl,au,bq⟩;refine ⟨_,rfl,?_⟩;refine lM (.tuple #[.slice a9 ar.1.length ba,.bool ar.2])<|lV (.slice a9 ar.1.length ba) (Z8 rfl rfl)<|lV (.bool ar.2) (Z8 rfl rfl)<|go ?_;replace ad:=ad.gr au;replace ac:=ac.gr au;replace ab:=ab.gr au;replace aa:=aa.grow au;refine Zp hm (fun hb hm=>go ?_) fun hb hm=>go ?_
 ·refine Xw ad<|Wk rfl ?_;obtain ⟨cl,br,hm⟩:=bZ hm;refine Zi (Qw 7 br (bq.toSlF (Ze.int .u32))) ?_;rintro _ cn ⟨bs,co,cp,rfl,ak,al⟩;refine ⟨_,rfl,?_⟩;replace al:=al.thaw (Zs .u32) ak ((Fz.refl (col:=a0)).froz 6) (by decide);replace ak:=ak.thawR (col:=a0);generalize Z1 bp.heap.size a0 bs=cq at *;replace ab:=ab.gr ak;refine Zu ab ?_;intro cr bb bt bu;refine go ?_;cases hm;replace aa:=(aa.grow ak).kp bb bt;replace al:=al.kp bb;exact ⟨rfl,_,ra bu.atN,_,_,_,rfl,aa.fin (cm [(7,c1)]),aa.fo al⟩
 refine Xw ac<|Xw ad ?_;obtain ⟨av,bv,hm⟩:=bZ hm;refine Zi (Zqz 8 bv (ah.ks aa) (ag.ks aa)) ?_;rintro _ bw ⟨a1,bc,bd,rfl,a2,bx⟩;refine ⟨_,rfl,?_⟩;refine lM (.tuple #[.slice bc av.1.length bd,.bool av.2])<|lV (.slice bc av.1.length bd) (Z8 rfl rfl)<|lV (.bool av.2) (Z8 rfl rfl)<|go ?_;refine Xo ⟨_,_,rfl⟩ ?_;replace ac:=ac.gr a2;refine lW ((ac.atN).nth (q:=0) rfl)<|Wk rfl ?_;obtain ⟨cs,bz,hm⟩:=bZ hm;refine Zi (Qw 9 bz (bx.toSlF (Ze.int .u32))) ?_;rintro _ ct ⟨b0,cu,cv,rfl,am,an⟩;refine ⟨_,rfl,?_⟩;replace an:=an.thaw (Zs .u32) am ((Fz.refl (col:=a1)).froz 8) (by decide);replace am:=am.thawR (col:=a1);generalize Z1 bw.heap.size a1 b0=cw at *;replace ab:=(ab.gr a2).gr am;refine Zu ab ?_;intro cx be b1 b2;refine go ?_;cases hm;replace aa:=((aa.grow a2).grow am).kp be b1;replace an:=an.kp be;exact ⟨rfl,_,ra b2.atN,_,_,_,rfl,aa.fin (cm [(9,c1)]),aa.fo an⟩
def Zi7 (N:Nat) (aa:R3):Option R3:=
  (Tq N aa.1 aa.2).bind fun ab=>some (ab.1,ab.2)
theorem Zzq {N ag:Nat} {ah:Option Addr} {col:Zd} {w0:World} {ab r:R3} (c1:Nat) (hm:Zi7 N ab=some r) (ad:Sl (Za.int .u32) col w0 ah ag ab.2):
    Calls Tryz.prog 115 #[(.agg #[.bool ab.1,.slice ah ab.2.length ag])] w0 (fun e w'=>∃ (col':Zd) (ra1:Option Addr) (rc2:Nat),e= .returned ((.agg #[.bool r.1,.slice ra1 r.2.length rc2]))∧Zg col w0 col' w'∧Zb (Za.int .u32) 77 c1 col' w' ra1 rc2 r.2):=by
 refine Yw (m:=8) func115 rfl rfl rfl ?_;rw [Zi7.eq_1] at hm;have aa:=St.start col w0;refine go ?_;refine Xp (col:=(Zk col)) 1 rfl ?_;intro aq ar al am ac;refine Xa (col:=al) #[.bool false,.slice none (([]:List Int).length) 0] 2 zeroValue33 ?_;intro au av aw ai ae;refine go ?_;refine Xo ⟨_,_,rfl⟩ ?_;replace ac:=ac.gr ai;refine lW ((ac.atN).nth (q:=0) rfl)<|Xw ac ?_;obtain ⟨ax,an,hm⟩:=bZ hm;replace ad:=ad.keep (Zl.start col w0);replace aa:=(aa.grow am).grow ai;refine Zi (Qw 3 an (ad.ks aa)) ?_;rintro _ ay ⟨az,a0,a1,rfl,aj,af⟩;refine ⟨_,rfl,?_⟩;replace ae:=ae.gr aj;refine Zu ae ?_;intro a2 ak ao ap;refine go ?_;cases hm;replace aa:=(aa.grow aj).kp ak ao;replace af:=af.kp ak;exact ⟨rfl,_,ra ap.atN,_,_,_,rfl,aa.fin (cm [(3,c1)]),aa.fo af⟩
def Q6 (N:Nat) (ae:Bool) (aa:List Int) (ab:List Int):Option R0:=
  (Zie N aa ab).bind fun ac=>(Zcl N aa ac).bind fun af=>(Zcl N ab ac).bind fun ag=>(Zi7 N (ae,af.1)).bind fun ad=>some ((ad.1,ad.2),ag.1)
theorem Ze1 {N ay az:Nat} {a1 a2:Option Addr} {col:Zd} {w0:World} {ak:Bool} {al am:R2} {r:R0} (c1 c2:Nat) (hm:Q6 N ak al am=some r) (h1:Sl (Za.int .u32) col w0 a1 ay al) (h2:Sl (Za.int .u32) col w0 a2 az am):
    Calls Tryz.prog 61 #[.bool ak,.slice a1 al.length ay,.slice a2 am.length az] w0 (fun e w'=>∃ (col':Zd) (ra1:Option Addr) (rc2:Nat) (ra4:Option Addr) (rc5:Nat),e= .returned ((.agg #[.bool r.1.1,.slice ra1 r.1.2.length rc2,.slice ra4 r.2.length rc5]))∧Zg col w0 col' w'∧Zb (Za.int .u32) 77 c1 col' w' ra1 rc2 r.1.2∧Zb (Za.int .u32) 77 c2 col' w' ra4 rc5 r.2):=by
 refine Yw (m:=37) func61 rfl rfl rfl ?_;rw [Q6.eq_1] at hm;have aa:=St.start col w0;refine go ?_;refine Xa (col:=(Zk col)) #[.bool false,.slice none (([]:List Int).length) 0,.slice none (([]:List Int).length) 0] 1 zeroValue35 ?_;intro bo bp bq a8 an;refine go ?_;obtain ⟨br,a9,hm⟩:=bZ hm;replace h1:=h1.keep (Zl.start col w0);replace h2:=h2.keep (Zl.start col w0);replace aa:=aa.grow a8;refine Zi (Zyw 2 a9 (h1.ks aa) (h2.ks aa)) ?_;rintro _ ba ⟨ao,bs,bt,rfl,a0,aj⟩;refine ⟨_,rfl,go ?_⟩;obtain ⟨ab,bb,hm⟩:=bZ hm;replace aa:=aa.grow a0;refine Zi (Zkb 3 4 bb ((h1.ks aa).froz 2) (aj.toSlF (Ze.int .u32))) ?_;rintro _ bc ⟨bd,ap,aq,a3,a4,rfl,ad,ag,bu⟩;refine ⟨_,rfl,?_⟩;replace ag:=ag.thaw (Zs .u32) ad ((Fz.refl (col:=ao)).froz 2) (by decide);replace ad:=ad.thawR (col:=ao);generalize Z1 ba.heap.size ao bd=ar at *;refine lM (.tuple #[.slice ap ab.1.length aq,.slice a3 ab.2.1.length a4,.int .i64 ab.2.2])<|lV (.slice ap ab.1.length aq) (Z8 rfl rfl)<|lV (.slice a3 ab.2.1.length a4) (Z8 rfl rfl)<|lV (.int .i64 ab.2.2) (Z8 rfl rfl)<|go ?_;obtain ⟨ac,be,hm⟩:=bZ hm;replace aj:=aj.gr ad;replace aa:=aa.grow ad;refine Zi (Zkb 5 6 be ((h2.ks aa).froz 2) (aj.toSlF (Ze.int .u32))) ?_;rintro _ bf ⟨bg,au,av,a5,a6,rfl,ae,ah,bv⟩;refine ⟨_,rfl,?_⟩;replace ah:=ah.thaw (Zs .u32) ae ((Fz.refl (col:=ar)).froz 2) (by decide);replace ae:=ae.thawR (col:=ar);generalize Z1 bc.heap.size ar bg=aw at *;refine lM (.tuple #[.slice au ac.1.length av,.slice a5 ac.2.1.length a6,.int .i64 ac.2.2])<|lV (.slice au ac.1.length av) (Z8 rfl rfl)<|lV (.slice a5 ac.2.1.length a6) (Z8 rfl rfl)<|lV (.int .i64 ac.2.2) (Z8 rfl rfl)<|go ?_;refine lV (.agg #[.bool ak,.slice ap ab.1.length aq]) (Yi (l:=[_,_]) (qs:=[(0,1),(1,1)]) underlying33 zeroValue33 ⟨rfl,sizeOf4,rfl,sizeOf31,trivial⟩ rfl) ?_;obtain ⟨a7,bh,hm⟩:=bZ hm;replace ag:=ag.gr ae;refine Zi (Zzq 7 bh (ag.toSlF (Ze.int .u32))) ?_;rintro _ bw ⟨bi,bj,bk,rfl,af,ai⟩;refine ⟨_,rfl,?_⟩;replace ai:=ai.thaw (Zs .u32) af ((Fz.refl (col:=aw)).froz 3) (by decide);replace af:=af.thawR (col:=aw);generalize Z1 bf.heap.size aw bi=bx at *
 refine Wk rfl<|lV (.agg #[.bool a7.1,.slice bj a7.2.length bk,.slice au ac.1.length av]) (Yi (l:=[_,_]) (qs:=[(0,2),(2,1)]) underlying35 zeroValue35 ⟨rfl,sizeOf33,rfl,sizeOf31,trivial⟩ rfl) ?_;replace an:=(((an.gr a0).gr ad).gr ae).gr af;refine Zu an ?_;intro bz ax bm bn;refine go ?_;cases hm;replace aa:=((aa.grow ae).grow af).kp ax bm;replace ah:=(ah.gr af).kp ax;replace ai:=ai.kp ax;exact ⟨rfl,_,ra bn.atN,_,_,_,_,_,rfl,aa.fin (cm [(7,c1),(5,c2)]),aa.fo ai,aa.fo ah⟩
def V3 (N:Nat) (aa:R0) (ab:R0):Option R0:=
  (V4 N ((ab.1.1,ab.1.2),ab.2)).bind fun ag=>(Q7 N (aa.1.1,aa.1.2) ag).bind fun ad=>(V4 N ((aa.1.1,aa.1.2),aa.2)).bind fun ah=>(Q7 N (ab.1.1,ab.1.2) ah).bind fun ae=>(Zei N (ad.1,ad.2) (ae.1,ae.2)).bind fun af=>(V4 N ((aa.1.1,aa.1.2),aa.2)).bind fun ai=>(V4 N ((ab.1.1,ab.1.2),ab.2)).bind fun aj=>(Zad N ai aj).bind fun ak=>(Q6 N af.1 af.2 ak).bind fun ac=>some ((ac.1.1,ac.1.2),ac.2)
theorem Zam {N bo bz bp b0:Nat} {bq b1 br b2:Option Addr} {col:Zd} {w0:World} {aj ak r:R0} (c1 c2:Nat) (hm:V3 N aj ak=some r) (ba:Sl (Za.int .u32) col w0 bq bo aj.1.2) (bs:Sl (Za.int .u32) col w0 b1 bz aj.2) (bb:Sl (Za.int .u32) col w0 br bp ak.1.2) (bt:Sl (Za.int .u32) col w0 b2 b0 ak.2):
    Calls Tryz.prog 18 #[(.agg #[.bool aj.1.1,.slice bq aj.1.2.length bo,.slice b1 aj.2.length bz]),(.agg #[.bool ak.1.1,.slice br ak.1.2.length bp,.slice b2 ak.2.length b0])] w0 (fun e w'=>∃ (col':Zd) (ra1:Option Addr) (rc2:Nat) (ra4:Option Addr) (rc5:Nat),e= .returned ((.agg #[.bool r.1.1,.slice ra1 r.1.2.length rc2,.slice ra4 r.2.length rc5]))∧Zg col w0 col' w'∧Zb (Za.int .u32) 77 c1 col' w' ra1 rc2 r.1.2∧Zb (Za.int .u32) 77 c2 col' w' ra4 rc5 r.2):=by
 refine Yw (m:=27) func18 rfl rfl rfl ?_;rw [V3.eq_1] at hm;have aa:=St.start col w0;refine go ?_;refine Xp (col:=(Zk col)) 1 rfl ?_;intro cd c9 ce cf ae;refine Xp (col:=ce) 2 rfl ?_;intro cg da ch ca af;refine Xa (col:=ch) #[.bool false,.slice none (([]:List Int).length) 0,.slice none (([]:List Int).length) 0] 3 zeroValue35 ?_;intro db a4 ay b3 ab;refine go ?_;have bu:=Zt.clip (fun _=>false) ay a4;refine Zer (col:=ay) [(0,1),(1,0),(2,0),(5,1),(6,0),(7,0),(3,3),(4,3),(8,3),(9,3),(10,3),(11,4),(12,2)] (by kernel_rfl) (by kernel_rfl) ⟨fun h=>absurd h (by decide),fun h=>absurd h (by decide),fun h=>absurd h (by decide),fun h=>absurd h (by decide),fun h=>absurd h (by decide),fun h=>absurd h (by decide),fun h=>absurd h (by decide),fun h=>absurd h (by decide),fun h=>absurd h (by decide),fun h=>absurd h (by decide),fun h=>absurd h (by decide),fun _=>⟨_,_,_,rfl,Uv zeroValue33⟩,fun h=>absurd h (by decide),trivial⟩<|X5 (v:=(.pointer ((some (⟨cd,0,none⟩:Addr)).map (·.add 0)))) rfl rfl (fun _=>Uq (sz:=2) (off:=0) underlying35 rfl sizeOf33 (by decide) rfl rfl ⟨_,_,rfl⟩) ?_;replace ae:=((ae.gr ca).gr b3).kpp bu;refine Wc (v:=(.agg #[.bool aj.1.1,.slice bq aj.1.2.length bo])) rfl rfl (fun _ hC=>Xc isAgg33 sizeOf33 rfl rfl (((ae.atN).part 0 2 _ rfl).gr (hC.bl (Zh a4 ay)))) ?_;replace af:=(af.gr b3).kpp bu;refine Wc (v:=(.agg #[.bool ak.1.1,.slice br ak.1.2.length bp,.slice b2 ak.2.length b0])) rfl rfl (fun _ hC=>Xc isAgg35 sizeOf35 rfl rfl (af.atN.gr (hC.bl (Zh a4 ay)))) ?_;refine X5 (v:=(.pointer ((some (⟨cg,0,none⟩:Addr)).map (·.add 0)))) rfl rfl (fun _=>Uq (sz:=2) (off:=0) underlying35 rfl sizeOf33 (by decide) rfl rfl ⟨_,_,rfl⟩) ?_;refine Wc (v:=(.agg #[.bool ak.1.1,.slice br ak.1.2.length bp])) rfl rfl (fun _ hC=>Xc isAgg33 sizeOf33 rfl rfl (((af.atN).part 0 2 _ rfl).gr (hC.bl (Zh a4 ay)))) ?_;refine Wc (v:=(.agg #[.bool aj.1.1,.slice bq aj.1.2.length bo,.slice b1 aj.2.length bz])) rfl rfl (fun _ hC=>Xc isAgg35 sizeOf35 rfl rfl (ae.atN.gr (hC.bl (Zh a4 ay)))) ?_;refine Wy rfl rfl ?_;intro dc hC0;have hC:=hC0.bl (Zh a4 ay);obtain ⟨dd,ci,hm⟩:=bZ hm;replace bb:=bb.keep (Zl.start col w0);replace bt:=bt.keep (Zl.start col w0);replace aa:=((((aa.grow cf).grow ca).grow b3).kpp bu).grow hC;refine Zi (U5 4 ci (bb.ks aa) (bt.ks aa)) ?_;rintro _ ao ⟨au,de,df,rfl,az,b4⟩;refine ⟨_,rfl,?_⟩
 refine Zm ?_;refine ⟨fun w'=>Zg (Zh ao au) ao (Zh ao au) w',fun g=>(Zh ao au) g=497,Zg.refl _ _,Wj,fun _=>⟨fun _ h=>Vp hC0 az h,fun b hb=>az.below.block b hb,fun g x1 x2=>Vu az g x1 (by first | exact x2 | (simp only [Xf,x2];rfl) | (simp only [Xf,Xb,x2];rfl))⟩,?_⟩;have bc:=Zt.clip (fun _=>false) au ao;refine Wy rfl rfl ?_;intro cj hC0;replace ab:=(((ab.kpp bu).gr hC).gr az).kpp bc;replace ae:=((ae.gr hC).gr az).kpp bc;replace af:=((af.gr hC).gr az).kpp bc;have hC:=hC0.bl (Zh ao au);obtain ⟨dg,ck,hm⟩:=bZ hm;replace ba:=ba.keep (Zl.start col w0);replace aa:=((aa.grow az).kpp bc).grow hC;replace b4:=(b4.kpp bc).gr hC;refine Zi (Ze2 5 ck ((ba.ks aa).froz 4) (b4.toSlF (Ze.int .u32))) ?_;rintro _ a5 ⟨cl,dh,di,rfl,am,ap⟩;refine ⟨_,rfl,?_⟩;replace bs:=bs.keep (Zl.start col w0);replace ap:=ap.thaw (Zs .u32) am ((Fz.refl (col:=(Zh ao au))).froz 4) (by decide);replace am:=am.thawR (col:=(Zh ao au));generalize Z1 cj.heap.size (Zh ao au) cl=bd at *;refine Zm ?_;refine ⟨fun w'=>Zg (Zh a5 bd) a5 (Zh a5 bd) w',fun g=>(Zh a5 bd) g=497,Zg.refl _ _,Wj,fun _=>⟨fun _ h=>Vp hC0 am h,fun b hb=>am.below.block b hb,fun g x1 x2=>Vu am g x1 (by first | exact x2 | (simp only [Xf,x2];rfl) | (simp only [Xf,Xb,x2];rfl))⟩,?_⟩;have be:=Zt.clip (fun _=>false) bd a5;refine Wy rfl rfl ?_;intro dj hC0;replace ae:=((ae.gr hC).gr am).kpp be;replace af:=((af.gr hC).gr am).kpp be;replace ab:=((ab.gr hC).gr am).kpp be;have hC:=hC0.bl (Zh a5 bd);obtain ⟨dl,cn,hm⟩:=bZ hm;replace aa:=((aa.grow am).kpp be).grow hC;refine Zi (U5 6 cn (ba.ks aa) (bs.ks aa)) ?_;rintro _ aq ⟨av,dm,dn,rfl,aw,b5⟩;refine ⟨_,rfl,?_⟩;refine Zm ?_;refine ⟨fun w'=>Zg (Zh aq av) aq (Zh aq av) w',fun g=>(Zh aq av) g=497,Zg.refl _ _,Wj,fun _=>⟨fun _ h=>Vp hC0 aw h,fun b hb=>aw.below.block b hb,fun g x1 x2=>Vu aw g x1 (by first | exact x2 | (simp only [Xf,x2];rfl) | (simp only [Xf,Xb,x2];rfl))⟩,?_⟩;have a6:=Zt.clip (fun _=>false) av aq;refine Wy rfl rfl ?_;intro co hC0;replace ap:=(((ap.kpp be).gr hC).gr aw).kpp a6;replace ae:=((ae.gr hC).gr aw).kpp a6;replace af:=((af.gr hC).gr aw).kpp a6;replace ab:=((ab.gr hC).gr aw).kpp a6;have hC:=hC0.bl (Zh aq av)
 obtain ⟨dp,cp,hm⟩:=bZ hm;replace aa:=((aa.grow aw).kpp a6).grow hC;replace b5:=(b5.kpp a6).gr hC;refine Zi (Ze2 7 cp ((bb.ks aa).froz 6) (b5.toSlF (Ze.int .u32))) ?_;rintro _ ar ⟨cq,dq,dr,rfl,al,bf⟩;refine ⟨_,rfl,?_⟩;replace bf:=bf.thaw (Zs .u32) al ((Fz.refl (col:=(Zh aq av))).froz 6) (by decide);replace al:=al.thawR (col:=(Zh aq av));generalize Z1 co.heap.size (Zh aq av) cq=ax at *;refine Zm ?_;refine ⟨fun w'=>Zg (Zh ar ax) ar (Zh ar ax) w',fun g=>(Zh ar ax) g=497,Zg.refl _ _,Wj,fun _=>⟨fun _ h=>Vp hC0 al h,fun b hb=>al.below.block b hb,fun g x1 x2=>Vu al g x1 (by first | exact x2 | (simp only [Xf,x2];rfl) | (simp only [Xf,Xb,x2];rfl))⟩,?_⟩;have a7:=Zt.clip (fun _=>false) ax ar;refine Wy rfl rfl ?_;intro cr hC0;replace ap:=((ap.gr hC).gr al).kpp a7;replace ae:=((ae.gr hC).gr al).kpp a7;replace af:=((af.gr hC).gr al).kpp a7;replace ab:=((ab.gr hC).gr al).kpp a7;have hC:=hC0.bl (Zh ar ax);obtain ⟨ds,cs,hm⟩:=bZ hm;replace bf:=(bf.kpp a7).gr hC;replace ap:=ap.gr hC;refine Zi (Znf 8 cs ((ap.toSlF (Ze.int .u32)).froz 7) ((bf.froz 5 (by decide)).toSlF (Ze.int .u32))) ?_;rintro _ ac ⟨ct,dt,du,rfl,an,ag⟩;refine ⟨_,rfl,?_⟩;replace ag:=ag.thaw (Zs .u32) an (((Fz.refl (col:=(Zh ar ax))).froz 5).froz 7) (by decide);replace an:=an.thawR (col:=(Zh ar ax));generalize Z1 cr.heap.size (Zh ar ax) ct=ad at *;refine Zm ?_;refine ⟨fun w'=>Zg (Zh ac ad) ac (Zh ac ad) w',fun g=>(Zh ac ad) g=497,Zg.refl _ _,Wj,fun _=>⟨fun _ h=>Vp hC0 an h,fun b hb=>an.below.block b hb,fun g x1 x2=>Vu an g x1 (by first | exact x2 | (simp only [Xf,x2];rfl) | (simp only [Xf,Xb,x2];rfl))⟩,?_⟩;have bg:=Zt.clip (fun _=>false) ad ac;refine Zc7 rfl rfl (Uv zeroValue33) ?_;intro ah cu;refine Wy rfl rfl ?_;intro cv ⟨hC0,hZ0⟩;replace aa:=((((aa.grow al).kpp a7).grow hC).grow an).kpp bg;replace ae:=((ae.gr hC).gr an).kpp bg;replace af:=((af.gr hC).gr an).kpp bg;replace ab:=((ab.gr hC).gr an).kpp bg;have hC:=hC0.bl (Zh ac ad);obtain ⟨bh,b6⟩:=Zbr (col:=(Zh ac ad)) 9 hZ0 cu;replace b6:Zj 33 9 (Z7 ah 9 (Zh ac ad)) cv ah #[.bool false,.slice none (([]:List Int).length) 0]:=b6;refine Zu b6 ?_
 intro ai bi cw bv;refine Zm ?_;refine ⟨fun w'=>Zg (Zh ai (Z7 ah 9 (Zh ac ad))) ai (Zh ai (Z7 ah 9 (Zh ac ad))) w',fun g=>(Zh ai (Z7 ah 9 (Zh ac ad))) g=497,Zg.refl _ _,Wj,fun h=>absurd h (by decide),?_⟩;have a8:=Zt.clip (fun _=>false) (Z7 ah 9 (Zh ac ad)) ai;refine Zet ?_;replace ag:=((((ag.kpp bg).gr hC).kpp bh).kp bi).kpp a8;replace ae:=(((ae.gr hC).kpp bh).kp bi).kpp a8;replace af:=(((af.gr hC).kpp bh).kp bi).kpp a8;replace ab:=(((ab.gr hC).kpp bh).kp bi).kpp a8;replace aa:=(((aa.grow hC).kpp bh).kp bi cw).kpp a8;intro cb hC;replace hC:Zg (Zh ai (Z7 ah 9 (Zh ac ad))) ai (Zh ai (Z7 ah 9 (Zh ac ad))) cb:=.of_below hC.below;refine Zw<|Wb (col:=(Zh ai (Z7 ah 9 (Zh ac ad)))) [(0,1),(1,0),(2,1),(3,0),(4,0),(6,0),(5,3),(7,3),(8,3),(9,3),(10,2)] (by kernel_rfl) (by kernel_rfl)<|xF ⟨_,_,rfl⟩ ?_;replace bv:=(bv.kpp a8).gr hC;refine xW (fun _ hC=>((bv.atN).nth (q:=0) rfl).gr (hC.bl (Zh ai (Z7 ah 9 (Zh ac ad))))) ?_;refine xF ⟨_,_,rfl⟩ ?_;refine xW (fun _ hC=>((bv.atN).nth (q:=1) rfl).gr (hC.bl (Zh ai (Z7 ah 9 (Zh ac ad))))) ?_;replace ae:=ae.gr hC;refine xv rfl rfl (fun _ hC=>Z3 isAgg35 sizeOf35 (ae.gr (hC.bl (Zh ai (Z7 ah 9 (Zh ac ad)))))) ?_;replace af:=af.gr hC;refine xv rfl rfl (fun _ hC=>Z3 isAgg35 sizeOf35 (af.gr (hC.bl (Zh ai (Z7 ah 9 (Zh ac ad)))))) ?_;refine xe rfl rfl ?_;intro cx hC0;replace ag:=ag.gr hC;replace ab:=ab.gr hC;replace aa:=aa.grow hC;have hC:Zg (Zh ai (Z7 ah 9 (Zh ac ad))) cb (Zh ai (Z7 ah 9 (Zh ac ad))) cx:=.of_below hC0.below;obtain ⟨dv,cy,hm⟩:=bZ hm;replace aa:=aa.grow hC;refine Zi (U5 10 cy (ba.ks aa) (bs.ks aa)) ?_;rintro _ dw ⟨cc,dx,dy,rfl,bw,bj⟩;refine ⟨_,rfl,?_⟩;refine Zm<|Xr cc hC0 bw<|xe rfl rfl ?_;intro dz hC0;replace ag:=(ag.gr hC).gr bw;replace ab:=(ab.gr hC).gr bw;have hC:=hC0.bl cc;obtain ⟨d0,cz,hm⟩:=bZ hm;replace aa:=(aa.grow bw).grow hC;refine Zi (U5 11 cz (bb.ks aa) (bt.ks aa)) ?_;rintro _ d1 ⟨bk,d2,d3,rfl,bm,b7⟩;refine ⟨_,rfl,?_⟩;refine Zm<|Xr bk hC0 bm<|xe rfl rfl ?_;intro c0 hC0;replace ag:=(ag.gr hC).gr bm;replace bj:=(bj.gr hC).gr bm;replace ab:=(ab.gr hC).gr bm;have hC:=hC0.bl bk
 obtain ⟨d4,c3,hm⟩:=bZ hm;replace bj:=bj.gr hC;replace b7:=b7.gr hC;refine Zi (Zhp 12 c3 ((bj.toSlF (Ze.int .u32)).froz 11) ((b7.froz 10 (by decide)).toSlF (Ze.int .u32))) ?_;rintro _ d5 ⟨c4,d6,d7,rfl,a0,bn⟩;refine ⟨_,rfl,?_⟩;replace bn:=bn.thaw (Zs .u32) a0 (((Fz.refl (col:=bk)).froz 10).froz 11) (by decide);replace a0:=a0.thawR (col:=bk);generalize Z1 c0.heap.size bk c4=a9 at *;refine Zm<|Xr a9 hC0 a0<|xe rfl rfl ?_;intro c5 hC0;replace aa:=((aa.grow bm).grow hC).grow a0;replace ag:=(ag.gr hC).gr a0;replace ab:=(ab.gr hC).gr a0;have hC:=hC0.bl a9;obtain ⟨d8,c6,hm⟩:=bZ hm;replace ag:=ag.gr hC;replace bn:=bn.gr hC;refine Zi (Ze1 13 14 c6 ((ag.toSlF (Ze.int .u32)).froz 12) ((bn.froz 8 (by decide)).toSlF (Ze.int .u32))) ?_;rintro _ d9 ⟨c7,ea,eb,ec,ed,rfl,a1,a2,a3⟩;refine ⟨_,rfl,?_⟩;replace a2:=a2.thaw (Zs .u32) a1 (((Fz.refl (col:=a9)).froz 8).froz 12) (by decide);replace a3:=a3.thaw (Zs .u32) a1 (((Fz.refl (col:=a9)).froz 8).froz 12) (by decide);replace a1:=a1.thawR (col:=a9);generalize Z1 c5.heap.size a9 c7=bx at *;refine Zm<|Xr bx hC0 a1<|xe rfl rfl ?_;intro ee hC0;replace ab:=(ab.gr hC).gr a1;replace aa:=(aa.grow hC).grow a1;have hC:=hC0.bl bx;replace ab:=ab.gr hC;refine Zu ab ?_;intro ef b8 c8 b9;refine Zm<|xk bx<|Yz ?_;replace a2:=(a2.gr hC).kp b8;replace a3:=(a3.gr hC).kp b8;replace aa:=(aa.grow hC).kp b8 c8;intro eg hC;replace hC:=hC.bl bx;refine Wx ?_;cases hm;replace a2:=a2.gr hC;replace a3:=a3.gr hC;replace b9:=b9.gr hC;replace aa:=aa.grow hC;exact ⟨rfl,_,ra b9.atN,_,_,_,_,_,rfl,aa.fin (cm [(13,c1),(14,c2)]),aa.fo a2,aa.fo a3⟩
def Zg1 (N:Nat) (aa:R3) (ab:R3):Option R3:=
  (Zei N (aa.1,aa.2) (!ab.1,ab.2)).bind fun ac=>some (ac.1,ac.2)
theorem Zq9 {N am ae:Nat} {an af:Option Addr} {col:Zd} {w0:World} {ac ab r:R3} (c1:Nat) (hm:Zg1 N ac ab=some r) (ag:Sl (Za.int .u32) col w0 an am ac.2) (ah:Sl (Za.int .u32) col w0 af ae ab.2):
    Calls Tryz.prog 65 #[(.agg #[.bool ac.1,.slice an ac.2.length am]),(.agg #[.bool ab.1,.slice af ab.2.length ae])] w0 (fun e w'=>∃ (col':Zd) (ra1:Option Addr) (rc2:Nat),e= .returned ((.agg #[.bool r.1,.slice ra1 r.2.length rc2]))∧Zg col w0 col' w'∧Zb (Za.int .u32) 77 c1 col' w' ra1 rc2 r.2):=by
 refine Yw (m:=13) func65 rfl rfl rfl ?_;rw [Zg1.eq_1] at hm;have aa:=St.start col w0;refine go ?_;refine Xp (col:=(Zk col)) 1 rfl ?_;intro az a0 ar au ai;refine Xp (col:=ar) 2 rfl ?_;intro a1 a2 av ao ad;refine Xa (col:=av) #[.bool false,.slice none (([]:List Int).length) 0] 3 zeroValue33 ?_;intro a3 a4 a5 aj ak;refine go ?_;replace ai:=(ai.gr ao).gr aj;refine lV _ (Z3 isAgg33 sizeOf33 ai)<|Xo ⟨_,_,rfl⟩ ?_;replace ad:=ad.gr aj;refine lW ((ad.atN).nth (q:=0) rfl)<|go ?_;refine Xw ad<|lV (.agg #[.bool (!ab.1),.slice af ab.2.length ae]) (Yi (l:=[_,_]) (qs:=[(0,1),(1,1)]) underlying33 zeroValue33 ⟨rfl,sizeOf4,rfl,sizeOf31,trivial⟩ rfl) ?_;obtain ⟨a6,aw,hm⟩:=bZ hm;replace ag:=ag.keep (Zl.start col w0);replace ah:=ah.keep (Zl.start col w0);replace aa:=((aa.grow au).grow ao).grow aj;refine Zi (Znf 4 aw (ag.ks aa) (ah.ks aa)) ?_;rintro _ a7 ⟨a8,a9,ba,rfl,ap,al⟩;refine ⟨_,rfl,?_⟩;replace ak:=ak.gr ap;refine Zu ak ?_;intro bb aq ax ay;refine go ?_;cases hm;replace aa:=(aa.grow ap).kp aq ax;replace al:=al.kp aq;exact ⟨rfl,_,ra ay.atN,_,_,_,rfl,aa.fin (cm [(4,c1)]),aa.fo al⟩

end Go.Proofs.YtlchacnggnhhbaaGreat
