/-
  What functions of the program compute, as plain Lean functions (m_..), and proofs that they compute it (c_..). Printed by a program of the author; no conditions.
-/
import Derived.Test.YtbmjpjhbankpoaaGreatJointWholeBFloat
import Derived.Test.YtbmjpjhbankpoaaGreatProg
import Derived.Test.YtbmjpjhbankpoaaGreatJointWholeBBrief
import Derived.Test.YtbmjpjhbankpoaaGreatJointWholeBPiece
set_option linter.unusedVariables false
set_option maxRecDepth 100000
set_option maxHeartbeats 2000000
namespace Go.Proofs.YtbmjpjhbankpoaaGreat
open Go Go.RowKit
open Go.IntKind (i8 i16 i32 i64 u8 u16 u32 u64)
open Go.Proofs.Tryz
abbrev R4:=List ByteArray
abbrev R2:=List Int
abbrev R9:=List R2
abbrev R3:=Bool×List Int
abbrev R1:=R3×List Int
abbrev R7:=List R1
abbrev R0:=ByteArray×List ByteArray×(List R4)×R9×(List R7)
abbrev R5:=Int×List Int
abbrev R6:=Int×Int
abbrev R8:=List Int×List Int×Int
abbrev Ra:=List R6
abbrev Rb:=(List Int×List Int×R7)×Int
abbrev Rc:=List Int×Int
abbrev Rd:=List Int×Bool
abbrev Re:=List Int×R1

theorem Zy {x:Int} (h:-9223372036854775808≤x∧x≤9223372036854775807):i64.wrap x=x:=by rw [IntKind.wrap_i64];omega
theorem Xd {α:Type} {c:Prop} [Decidable c] {x:Option α} (h:c):Zw c x=x:=if_pos h
theorem Xb {α:Type} {xs:List α} {k:Nat} (h:k<xs.length):Zn xs (k:Int)=some xs[k]:=by rw [Zdb];exact List.getElem?_eq_getElem h
theorem wS {k:Nat} (h:k<9223372036854775807):i64.wrap ((k:Int)+1)=((k+1:Nat):Int):=by rw [Zy (by omega)];rfl
theorem Ze8 {α:Type} [DecidableEq α]:∀ {l r:List α},l.Nodup→(∀ x ∈ l,x ∈ r)→l.length≤r.length
 | [],_,_,_=>Nat.zero_le _
 | x :: l,r,h,hs=>by
  have h1:=List.nodup_cons.1 h
  have hx:=hs x List.mem_cons_self
  have h2:=Ze8 (r:=r.erase x) h1.2 fun y hy=>(List.mem_erase_of_ne (fun e=>h1.1 (by rw [← e];exact hy))).2 (hs y (List.mem_cons_of_mem _ hy))
  rw [List.length_erase_of_mem hx] at h2
  have:=List.length_pos_of_mem hx
  rw [List.length_cons];omega
section
variable {K V:Type} [DecidableEq K]
theorem Zc1 (p:K×V) (es:List (K×V)) (k:K):Y7 (p :: es) k=if p.1=k then some p.2 else Y7 es k:=by
 rw [Y7,List.find?_cons]
 by_cases h:p.1=k
 ·rw [if_pos h,decide_eq_true h];rfl
 ·rw [if_neg h,decide_eq_false h];rfl
theorem Zy2 (es:List (K×V)) (k k':K) (v:V) (h:Y7 es k=none):Y7 (es++[(k,v)]) k'=if k'=k then some v else Y7 es k':=by
 induction es with
 | nil=>
  rw [List.nil_append,Zc1]
  by_cases hk:k=k'
  ·subst hk;simp
  ·rw [if_neg hk,if_neg (Ne.symm hk)]
 | cons p es ih=>
  rw [Zc1] at h
  split at h
  ·cases h
  ·rename_i hp
   rw [List.cons_append,Zc1,Zc1,ih h]
   by_cases h1:p.1=k'
   ·rw [if_pos h1,if_pos h1,if_neg (fun e=>hp (h1.trans e))]
   ·rw [if_neg h1,if_neg h1]
theorem Zy3 (es:List (K×V)) (k k':K) (v:V):Y7 (es.map fun p=>if p.1=k then (k,v) else p) k'=if k'=k then (Y7 es k).map fun _=>v else Y7 es k':=by
 induction es with
 | nil=>simp [Y7]
 | cons p es ih=>
  rw [List.map_cons,Zc1,Zc1,Zc1,ih]
  by_cases h1:p.1=k
  ·rw [if_pos h1,if_pos h1]
   by_cases h2:k'=k
   ·subst h2;rw [if_pos rfl,if_pos rfl];rfl
   ·rw [if_neg (Ne.symm h2),if_neg h2,if_neg h2,if_neg (fun e=>h2 (e.symm.trans h1))]
  ·rw [if_neg h1,if_neg h1]
   by_cases h3:p.1=k'
   ·rw [if_pos h3,if_pos h3,if_neg (fun e=>h1 (h3.trans e))]
   ·rw [if_neg h3,if_neg h3]
theorem Zqx (es:List (K×V)) (k k':K) (v:V):Y7 (Tr es k v) k'=if k'=k then some v else Y7 es k':=by
 rw [Tr]
 by_cases h:(Y7 es k).isSome=true
 ·rw [if_pos h,Zy3]
  obtain ⟨u,hu⟩:=Option.isSome_iff_exists.1 h
  rw [hu];rfl
 ·rw [if_neg h]
  exact Zy2 es k k' v (by simpa using h)
end
def Zb:List Int→Nat
 | []=>0
 | x :: l=>x.toNat+4294967296 * Zb l
def Zm (l:List Int):Prop:=∀ x ∈ l,0≤x∧x<4294967296
def Ze (n:Nat):List Int:=if n=0 then [] else ((n % 4294967296:Nat):Int) :: Ze (n / 4294967296)
termination_by n
decreasing_by omega
theorem Zm.nil:Zm []:=by simp [Zm]
theorem Zm.cons {x:Int} {l:List Int} (h:0≤x∧x<4294967296) (hl:Zm l):Zm (x :: l):=fun y hy=>by
 rcases List.mem_cons.1 hy with rfl | hy
 ·exact h
 ·exact hl y hy
theorem Zm.head {x:Int} {l:List Int} (h:Zm (x :: l)):0≤x∧x<4294967296:=h x List.mem_cons_self
theorem Zm.tail {x:Int} {l:List Int} (h:Zm (x :: l)):Zm l:=fun y hy=>h y (List.mem_cons_of_mem _ hy)
theorem Zm.app {a b:List Int} (ha:Zm a) (hb:Zm b):Zm (a++b):=fun y hy=>by
 rcases List.mem_append.1 hy with h | h
 ·exact ha y h
 ·exact hb y h
theorem Zm.take {a:List Int} (h:Zm a) (k:Nat):Zm (a.take k):=fun y hy=>h y (List.mem_of_mem_take hy)
theorem Zm.drop {a:List Int} (h:Zm a) (k:Nat):Zm (a.drop k):=fun y hy=>h y (List.mem_of_mem_drop hy)
theorem Zm.zeros (k:Nat):Zm (List.replicate k 0):=fun y hy=>by
 rw [List.eq_of_mem_replicate hy];decide
theorem Zm.set {a:List Int} (h:Zm a) (k:Nat) {v:Int} (hv:0≤v∧v<4294967296):Zm (a.set k v):=fun y hy=>by
 rcases List.mem_or_eq_of_mem_set hy with h1 | rfl
 ·exact h y h1
 ·exact hv
theorem Zm.get {a:List Int} (h:Zm a) {k:Nat} (hk:k<a.length):0≤a[k]∧a[k]<4294967296:=h _ (List.getElem_mem hk)
theorem Ye:Zb []=0:=rfl
theorem Yv (x:Int) (l:List Int):Zb (x :: l)=x.toNat+4294967296 * Zb l:=rfl
theorem Ts (a b:List Int):Zb (a++b)=Zb a+4294967296 ^ a.length * Zb b:=by
 induction a with
 | nil=>simp [Zb]
 | cons x a ih=>
  rw [List.cons_append,Yv,Yv,ih,List.length_cons,Nat.pow_succ]
  grind
theorem Tu (k:Nat):Zb (List.replicate k 0)=0:=by
 induction k with
 | zero=>rfl
 | succ k ih=>rw [List.replicate_succ,Yv,ih];rfl
theorem Tt {l:List Int} (h:Zm l):Zb l<4294967296 ^ l.length:=by
 induction l with
 | nil=>simp [Zb]
 | cons x l ih=>
  have h1:=h.head
  have h2:=ih h.tail
  rw [Yv,List.length_cons,Nat.pow_succ]
  have h3:(Zb l+1) * 4294967296≤4294967296 ^ l.length * 4294967296:=Nat.mul_le_mul_right _ h2
  omega
theorem Z1 (n:Nat):Zb (Ze n)=n:=by
 induction n using Nat.strongRecOn with
 | ind n ih=>
  rw [Ze]
  split
  ·rename_i h;rw [h];rfl
  ·rename_i h
   rw [Yv,ih (n / 4294967296) (by omega)]
   omega
theorem Wl:Ze 0=[]:=by rw [Ze,if_pos rfl]
theorem Zb4 {n:Nat} (h:n≠0):Ze n=((n % 4294967296:Nat):Int) :: Ze (n / 4294967296):=by rw [Ze,if_neg h]
theorem Sz:Ze 1=[1]:=by rw [Zb4 (by decide)];simp [Wl]
theorem Z5 (n:Nat):Zm (Ze n):=by
 induction n using Nat.strongRecOn with
 | ind n ih=>
  rw [Ze]
  split
  ·exact .nil
  ·exact .cons (by omega) (ih (n / 4294967296) (by omega))
theorem Wh {k n:Nat}:(Ze n).length≤k↔n<4294967296 ^ k:=by
 induction k generalizing n with
 | zero=>
  by_cases h:n=0
  ·subst h;simp [Wl]
  ·rw [Zb4 h];simp;omega
 | succ k ih=>
  by_cases h:n=0
  ·subst h;simp [Wl];exact Nat.pow_pos (by decide)
  ·rw [Zb4 h,List.length_cons,Nat.add_le_add_iff_right,ih,Nat.pow_succ]
   omega
theorem Ym {l:List Int} (h:Zm l):(Ze (Zb l)).length≤l.length:=Wh.2 (Tt h)
theorem Zdo {n:Nat}:Ze n=[]↔n=0:=by
 by_cases h:n=0
 ·subst h;simp [Wl]
 ·rw [Zb4 h];simp [h]
theorem Zqm {x:Int} {l:List Int} (h:0≤x∧x<4294967296) (h0:x=0→Zb l≠0):Ze (Zb (x :: l))=x :: Ze (Zb l):=by
 have hn:Zb (x :: l)≠0:=by
  rw [Yv]
  by_cases hx:x=0
  ·have:=h0 hx;omega
  ·omega
 rw [Zb4 hn,Yv]
 congr 1
 ·omega
 ·congr 1;omega
theorem Zzk {a:List Int} {x:Int} (h:0<x):Zb (a++[x])≠0:=by
 rw [Ts,Yv,Ye]
 have:0<4294967296 ^ a.length * (x.toNat+4294967296 * 0):=Nat.mul_pos (Nat.pow_pos (by decide)) (by omega)
 omega
theorem Zyw {a:List Int} {x:Int} (h:Zm (a++[x])) (hx:x≠0):Ze (Zb (a++[x]))=a++[x]:=by
 induction a with
 | nil=>
  have:=h.head
  rw [List.nil_append,Zqm this (fun e=>absurd e hx),Ye,Wl]
 | cons y a ih=>
  have h1:0≤x∧x<4294967296:=h x (by simp)
  rw [List.cons_append,Zqm h.head fun _=>Zzk (by omega),ih h.tail]
theorem Zrd (a:List Int):Zb (a++[0])=Zb a:=by rw [Ts];simp [Zb]
theorem Zdn {l:List Int} (h:0<l.length):l.take (l.length - 1)++[l[l.length - 1]]=l:=by
 have:=List.take_append_drop (l.length - 1) l
 rw [List.drop_eq_getElem_cons (by omega),List.drop_eq_nil_of_le (by omega)] at this
 exact this
theorem Ziw {n:Nat} (h:0<(Ze n).length):(Ze n)[(Ze n).length - 1]≠0:=by
 induction n using Nat.strongRecOn with
 | ind n ih=>
  by_cases h0:n=0
  ·subst h0;simp [Wl] at h
  ·have e:=Zb4 h0
   by_cases h1:n / 4294967296=0
   ·have:Ze n=[((n % 4294967296:Nat):Int)]:=by rw [e,h1,Wl]
    simp only [this,List.length_singleton,Nat.sub_self,List.getElem_cons_zero]
    omega
   ·have h2:0<(Ze (n / 4294967296)).length:=by
     rw [Zb4 h1];simp
    have:=ih (n / 4294967296) (by omega) h2
    have e2:(Ze n).length - 1=(Ze (n / 4294967296)).length - 1+1:=by rw [e];simp;omega
    have e3:(Ze n)[(Ze n).length - 1]?=(Ze (n / 4294967296))[(Ze (n / 4294967296)).length - 1]?:=by
     rw [e2]
     conv=>lhs;rw [e]
     rw [List.getElem?_cons_succ]
    rw [List.getElem?_eq_getElem (by omega),List.getElem?_eq_getElem (by omega)] at e3
    rw [Option.some.inj e3]
    exact this
theorem U4 {l:List Int} {k:Nat} (hk:k<l.length) (v:Int):Zb (l.set k v)+4294967296 ^ k * (l[k]).toNat=Zb l+4294967296 ^ k * v.toNat:=by
 induction l generalizing k with
 | nil=>simp at hk
 | cons x l ih=>
  cases k with
  | zero=>simp only [List.set_cons_zero,Yv,List.getElem_cons_zero,Nat.pow_zero,Nat.one_mul];omega
  | succ k=>
   have h:=ih (k:=k) (by simpa using hk)
   simp only [List.set_cons_succ,Yv,List.getElem_cons_succ,Nat.pow_succ]
   grind
theorem Zmj {l:List Int} {k:Nat} (hk:k<l.length):Zb (l.take (k+1))=Zb (l.take k)+4294967296 ^ k * (l[k]).toNat:=by
 rw [List.take_add_one,List.getElem?_eq_getElem hk,Ts,Option.toList_some,Yv,Ye,List.length_take,Nat.min_eq_left (by omega)]
 simp
theorem Vs {l:List Int} {k:Nat} (hk:k<l.length):Zb (l.drop k)=(l[k]).toNat+4294967296 * Zb (l.drop (k+1)):=by
 rw [List.drop_eq_getElem_cons hk,Yv]
theorem Ug (l:List Int) (k:Nat):Zb l=Zb (l.take k)+4294967296 ^ k * Zb (l.drop k):=by
 by_cases h:k≤l.length
 ·conv=>lhs;rw [← List.take_append_drop k l]
  rw [Ts,List.length_take,Nat.min_eq_left h]
 ·rw [List.take_of_length_le (by omega),List.drop_eq_nil_of_le (by omega)];simp [Zb]
theorem Vm {x:Int} (h:0≤x∧x<4294967296):u32.wrap x=x:=by rw [IntKind.wrap_u32];omega
theorem Xe {x:Int} (h:0≤x∧x<18446744073709551616):u64.wrap x=x:=by rw [IntKind.wrap_u64];omega
theorem Zc5 {x:Int}:X8 .u64 x 32=x / 4294967296:=by
 have:(min (32:Int).toNat u64.bits)=32:=by decide
 rw [X8,this]
 exact Int.fdiv_eq_ediv_of_nonneg _ (by decide)
def Q9 (aa:List Int) (kk_L1:(List Int→Option R2)) (ab:Bool):Option R2:=
  if ab=true then (Zw ((0:Int)≤(i64.wrap ((aa.length:Int) - 1))∧(i64.wrap ((aa.length:Int) - 1))≤(aa.length:Int)) (kk_L1 (aa.take (Int.toNat (i64.wrap ((aa.length:Int) - 1)))))) else (some aa)
def U3 (N:Nat):Nat→R2→Option R2
  | 0,_=>none
  | ab+1,aa=>if (decide (0<(aa.length:Int)))=true then ((Zn aa (i64.wrap ((aa.length:Int) - 1))).bind fun ac=>Q9 aa (U3 N ab) (decide (ac=0))) else (Q9 aa (U3 N ab) false)
termination_by structural x=>x
def V3 (N:Nat) (aa:List Int):Option R2:=
  U3 N N aa
theorem Tf {N ap:Nat} {a0:Option Addr} {col:Zd} {w0:World} {ag r:R2} (hm:V3 N ag=some r) (h0:Sl (Za.int .u32) col w0 a0 ap ag):
    Calls Tryz.prog 217 #[.slice a0 ag.length ap] w0 (fun e w'=>∃ (col':Zd) (ra1:Option Addr) (rc2:Nat),e= .returned ((.slice ra1 r.length rc2))∧Zf col w0 col' w'∧Sl (Za.int .u32) col' w' ra1 rc2 r):=by
 refine Xc 2 (m:=21) func217 rfl rfl rfl rfl rfl ?_;rw [V3.eq_1] at hm;have ab:=St.start col w0;refine go ?_;replace h0:=h0.keep (Zk.start col w0);refine Z2 [1000000] (fun n f ah=>∃ ai ad ae aa af,af=n∧U3 N af aa=some r∧St w0 (Zi col) ai ah∧Sl (Za.int .u32) ai ah ad ae aa∧[0].map f=[.slice ad aa.length ae]) N ⟨_,_,_,_,_,rfl,hm,ab,(h0.ks ab),rfl⟩ ?_;clear hm;intro n f ah hI;obtain ⟨ai,ad,ae,aa,af,hn,hm,ab,ac,hs⟩:=hI;subst hn;refine .lL [0] hs ?_
 cases af with
 | zero=>rw [U3.eq_1] at hm;cases hm
 | succ af=>
  rw [U3.eq_2] at hm;refine Zu<|Zu ?_;refine Wp.cutK [0,1000000] (fun f aj=>∃ ak al,Q9 aa (U3 N af) al=some r∧St w0 (Zi col) ak aj∧Sl (Za.int .u32) ak aj ad ae aa∧[14].map f=[.bool al]) ?_ ?_
  ·intro f aj hJ;obtain ⟨ak,al,hm,ab,ac,hs⟩:=hJ;rw [Q9.eq_1] at hm;refine .lL [14] hs ?_;refine Zo hm (fun hb hm=>go ?_) fun hb hm=>go ?_
   ·obtain ⟨am,hm⟩:=Z0 hm;refine lv (v:=.slice ad (Int.toNat (i64.wrap ((aa.length:Int) - 1))) ae) rfl rfl (Zhp underlying43 sizeOf79 rfl rfl am.1 (by have:=ac.1.2;have:=am.2;omega))<|.ld (d:=19) (v:=(.slice ad ((aa.take (Int.toNat (i64.wrap ((aa.length:Int) - 1)))).length) ae)) (congrArg (fun n=>Value.slice ad n ae) (List.length_take_of_le (show (Int.toNat (i64.wrap ((aa.length:Int) - 1)))≤aa.length by have:=am.2;omega)).symm) ?_;refine go ?_;exact ⟨af,by omega,rfl,⟨_,_,_,_,_,rfl,hm,ab,(ac.take (Int.toNat (i64.wrap ((aa.length:Int) - 1)))),rfl⟩⟩
   cases hm;exact ⟨rfl,_,_,_,rfl,ab.fin (cm []),ab.fs ac⟩
  refine go ?_;refine X5 hm (fun an hm=>go ?_) fun an hm=>go ?_
  ·obtain ⟨aq,ao,hm⟩:=bZ hm;refine lI ao (ac.addr ao) ?_;refine go ?_;refine lW (ac.atInt ao)<|go ?_;refine lV (.bool (decide (aq=0))) (Xq (congrArg Value.bool an) rfl)<|Zl ?_;exact ⟨rfl,_,_,hm,ab,ac,rfl⟩
  refine lV (.bool false) (Xk (congrArg Value.bool an) rfl)<|Zl ?_;exact ⟨rfl,_,_,hm,ab,ac,rfl⟩
def Zcg (N:Nat) (ab:List Int) (ac:List Int):Nat→Int→Option Int
  | 0,_=>none
  | af+1,aa=>if (decide (0≤aa))=true then ((Zn ab aa).bind fun ad=>(Zn ac aa).bind fun ae=>if (decide (ad<ae))=true then (some (-1)) else (if (decide (ae<ad))=true then (some 1) else ((Zcg N ab ac af) (i64.wrap (aa - 1))))) else (some 0)
termination_by structural x=>x
def Za8 (N:Nat) (ac:List Int) (ad:List Int):Option Int:=
  (V3 N ac).bind fun aa=>(V3 N ad).bind fun ab=>if (!decide ((aa.length:Int)=(ab.length:Int)))=true then (if (decide ((aa.length:Int)<(ab.length:Int)))=true then (some (-1)) else (some 1)) else (Zcg N aa ab N (i64.wrap ((aa.length:Int) - 1)))
theorem Zig {N al am:Nat} {a0 a1:Option Addr} {col:Zd} {w0:World} {ai aj:R2} {r:Int} (hm:Za8 N ai aj=some r) (h0:Sl (Za.int .u32) col w0 a0 al ai) (h1:Sl (Za.int .u32) col w0 a1 am aj):
    Calls Tryz.prog 250 #[.slice a0 ai.length al,.slice a1 aj.length am] w0 (fun e w'=>e= .returned ((.int .i64 r))∧Below w0.heap.size w0 w'):=by
 refine Xc 4 (m:=45) func250 rfl rfl rfl rfl rfl ?_;rw [Za8.eq_1] at hm;have aa:=St.start col w0;refine go ?_;obtain ⟨an,aq,hm⟩:=bZ hm;replace h0:=h0.keep (Zk.start col w0);refine Zg (Tf aq (h0.ks aa)) ?_;rintro _ az ⟨a2,ar,au,rfl,av,ab⟩;refine ⟨_,rfl,?_⟩;refine Yu rfl ?_;obtain ⟨ao,aw,hm⟩:=bZ hm;replace h1:=h1.keep (Zk.start col w0);replace aa:=aa.grow av;refine Zg (Tf aw (h1.ks aa)) ?_;rintro _ a3 ⟨a4,ax,ay,rfl,ap,ad⟩;refine ⟨_,rfl,go ?_⟩;replace ab:=ab.gr ap;replace aa:=aa.grow ap;refine Zo hm (fun hb hm=>go ?_) fun hb hm=>go ?_
 ·refine Zo hm (fun hb hm=>go ?_) fun hb hm=>go ?_
  ·cases hm;exact ⟨rfl,rfl,aa.below⟩
  cases hm;exact ⟨rfl,rfl,aa.below⟩
 refine Z2 [0,1,1000000] (fun n f ah=>∃ ac ak ae,ae=n∧Zcg N an ao ae ak=some r∧St w0 (Zi col) ac ah∧Sl (Za.int .u32) ac ah ar au an∧Sl (Za.int .u32) ac ah ax ay ao∧[5].map f=[.int .i64 ak]) N ⟨_,_,_,rfl,hm,aa,ab,ad,rfl⟩ ?_;clear hm;intro n f ah hI;obtain ⟨ac,ak,ae,hn,hm,aa,ab,ad,hs⟩:=hI;subst hn;refine .lL [5] hs ?_
 cases ae with
 | zero=>rw [Zcg.eq_1] at hm;cases hm
 | succ ae=>
  rw [Zcg.eq_2] at hm;refine go ?_;refine Zo hm (fun hb hm=>go ?_) fun hb hm=>go ?_
  ·refine Uk (col:=ac) (by kernel_rfl) (by kernel_rfl)<|go ?_;obtain ⟨a5,af,hm⟩:=bZ hm;refine qI af (ab.addr af)<|qW (fun _ hC=>(ab.gr (hC.bl ac)).atInt af) ?_;refine go ?_;obtain ⟨a6,ag,hm⟩:=bZ hm;refine qI ag (ad.addr ag)<|qW (fun _ hC=>(ad.gr (hC.bl ac)).atInt ag) ?_;refine go ?_;refine Wt ?_;intro a7 hC;replace hC:=hC.bl ac;replace ab:=ab.gr hC;replace ad:=ad.gr hC;replace aa:=aa.grow hC;refine Zo hm (fun hb hm=>go ?_) fun hb hm=>go ?_
   ·cases hm;exact ⟨rfl,rfl,aa.below⟩
   refine Uk (col:=ac) (by kernel_rfl) (by kernel_rfl)<|go ?_;refine qI af (ab.addr af)<|qW (fun _ hC=>(ab.gr (hC.bl ac)).atInt af) ?_;refine go ?_;refine qI ag (ad.addr ag)<|qW (fun _ hC=>(ad.gr (hC.bl ac)).atInt ag) ?_;refine go ?_;refine Wt ?_;intro a8 hC;replace hC:=hC.bl ac;replace ab:=ab.gr hC;replace ad:=ad.gr hC;replace aa:=aa.grow hC;refine Zo hm (fun hb hm=>go ?_) fun hb hm=>go ?_
   ·cases hm;exact ⟨rfl,rfl,aa.below⟩
   exact ⟨ae,by omega,rfl,⟨_,_,_,rfl,hm,aa,ab,ad,rfl⟩⟩
  cases hm;exact ⟨rfl,rfl,aa.below⟩
theorem Zxr:Yw Tryz.prog 79 1 4:=⟨Tryz.t79,_,rfl,rfl,rfl,rfl,rfl⟩
def Zcx (aa:List Int):Option R2:=
  Zw ((([]:List Int).length+aa.length) * 4≤140737488355328∧([]:List Int).length+aa.length≤maxLen) (some (([]:List Int)++aa))
theorem Zk5 {ad:Nat} {a0:Option Addr} {col:Zd} {w0:World} {ac r:R2} (c1:Nat) (hm:Zcx ac=some r) (h0:Sl (Za.int .u32) col w0 a0 ad ac):
    Calls Tryz.prog 273 #[.slice a0 ac.length ad] w0 (fun e w'=>∃ (col':Zd) (ra1:Option Addr) (rc2:Nat),e= .returned ((.slice ra1 r.length rc2))∧Zf col w0 col' w'∧Zc (Za.int .u32) 79 c1 col' w' ra1 rc2 r):=by
 refine Xc 2 (m:=8) func273 rfl rfl rfl rfl rfl ?_;rw [Zcx.eq_1] at hm;have aa:=St.start col w0;refine go ?_;replace h0:=h0.keep (Zk.start col w0);rcases Zjx h0 with ab | ab
 ·replace hm:some ([]:List Int)=some r:=by have h0:=ab.2;subst h0;simpa [Zw,maxLen] using hm
  refine lv (v:=.bool a0.isNone) rfl rfl (Zbq underlying43 rfl)<|.ld (d:=4) (v:=.bool true) (congrArg Value.bool ab.1)<|Zl<|Xz rfl<|go ?_;cases hm;exact ⟨rfl,_,none,0,rfl,aa.fin (cm []),Zc.nil⟩
 refine lv (v:=.bool a0.isNone) rfl rfl (Zbq underlying43 rfl)<|.ld (d:=4) (v:=.bool false) (congrArg Value.bool ab)<|Zl<|Xv rfl<|go ?_;refine Zfv (col:=(Zi col)) (r:=(Za.int .u32)) 1 rfl underlying43 Zxr rfl ?_;intro aj ak al ae af;refine Yu rfl ?_;obtain ⟨ag,hm⟩:=Z0 hm;replace h0:=h0.gr ae;refine V2 af h0.srcC ag ?_;intro am an ao ap ah ai;refine go ?_;cases hm;replace aa:=(aa.grow ae).kpp ah;exact ⟨rfl,_,_,_,rfl,aa.fin (cm [(1,c1)]),aa.fo ai⟩
def Zi8 (aa:Int) (kk_L1:(List Int→Int→Int→Option R2)) (ab:List Int) (ac:Int):Option R2:=
  kk_L1 ab ac (i64.wrap (aa+1))
def Zem (ab:List Int) (aa:Int) (kk_L1:(List Int→Int→Int→Option R2)) (ac:Int) (ad:Int):Option R2:=
  (Zn ab aa).bind fun ae=>(some (ab.set (Int.toNat aa) (u32.wrap (ae - (u32.wrap ac))))).bind fun af=>Zi8 aa kk_L1 af ad
def Zel (aa:List Int) (ab:Int) (kk_L1:(List Int→Int→Int→Option R2)) (ac:Int):Option R2:=
  (Zn aa ab).bind fun ad=>if (decide ((u64.wrap ad)<ac))=true then (Zem aa ab kk_L1 ac 1) else (Zem aa ab kk_L1 ac 0)
def U2 (N:Nat) (ac:List Int) (ab:List Int):Nat→R2→Int→Int→Option R2
  | 0,_,_,_=>none
  | ae+1,ad,af,aa=>if (decide (aa<(ac.length:Int)))=true then (if (decide (aa<(ab.length:Int)))=true then ((Zn ab aa).bind fun ag=>Zel ad aa (U2 N ac ab ae) (u64.wrap (af+(u64.wrap ag)))) else (Zel ad aa (U2 N ac ab ae) af)) else (some ad)
termination_by structural x=>x
def Zi7 (N:Nat) (aa:List Int) (ab:List Int):Option R2:=
  U2 N aa ab N aa 0 0
theorem Zvw {N ae an:Nat} {a0 a1:Option Addr} {col:Zd} {w0:World} {ab ag r:R2} (qc0:Nat) (hm:Zi7 N ab ag=some r) (hd:Uz [qc0]=true) (h0:Zc (Za.int .u32) 79 qc0 col w0 a0 ae ab) (h1:Sl (Za.int .u32) col w0 a1 an ag):
    Calls Tryz.prog 286 #[.slice a0 ab.length ae,.slice a1 ag.length an] w0 (fun e w'=>∃ (col':Zd),e= .returned (.tuple #[])∧Zt (pS [qc0]) col w0 col' w'∧Zc (Za.int .u32) 79 qc0 col' w' a0 ae r∧r.length=ab.length):=by
 refine Zbz (m:=40) (args:=[.slice a0 ab.length ae,.slice a1 ag.length an]) func286 rfl rfl rfl rfl ?_;rw [Zi7.eq_1] at hm;have aa:=St.startL (l:=[qc0]) rfl col w0;replace h0:=h0.startL (Qq hd 0 rfl) (Qp hd 0 rfl);refine go ?_;refine Z2 [1,8,1000000] (fun n f ao=>∃ ap ac aq ah af,af=n∧U2 N ab ag af ac aq ah=some r∧St w0 (Xl [qc0] col) ap ao∧Zc (Za.int .u32) 79 440 ap ao a0 ae ac∧ac.length=ab.length∧ac.length=ab.length∧[0,4,9].map f=[.slice a0 ac.length ae,.int .u64 aq,.int .i64 ah]) N ⟨_,_,0,0,_,rfl,hm,aa,h0,rfl,rfl,rfl⟩ ?_;clear hm;intro n f ao hI;obtain ⟨ap,ac,aq,ah,af,hn,hm,aa,ad,a8,a9,hs⟩:=hI;subst hn;refine .lL [0,4,9] hs ?_;replace h1:=h1.keep (Zk.startL [qc0] col w0)
 cases af with
 | zero=>rw [U2.eq_1] at hm;cases hm
 | succ af=>
  rw [U2.eq_2] at hm;refine go ?_;refine Zo hm (fun hb hm=>?_) fun hb hm=>go ?_
  ·refine X7<|Zu ?_;refine Wp.cutK [1,8,9,1000000] (fun f ar=>∃ au ai av,Zi8 ah (U2 N ab ag af) ai av=some r∧St w0 (Xl [qc0] col) au ar∧Zc (Za.int .u32) 79 440 au ar a0 ae ai∧ai.length=ab.length∧ai.length=ab.length∧[0,4].map f=[.slice a0 ai.length ae,.int .u64 av]) ?_ ?_
   ·intro f ar hJ;obtain ⟨au,ai,av,hm,aa,ba,bb,bc,hs⟩:=hJ;rw [Zi8.eq_1] at hm;refine .lL [0,4] hs<|go ?_;exact ⟨af,by omega,rfl,⟨_,_,_,_,_,rfl,hm,aa,ba,bb,bc,rfl⟩⟩
   refine Zfg<|Zu<|Wn<|X9 rfl<|Yk rfl<|Zl<|Zu<|Wn<|X9 rfl<|Yk rfl<|Zl<|Zu ?_;refine Wp.cutK [0,1,5,8,9,1000000] (fun f aw=>∃ ax aj,Zel ac ah (U2 N ab ag af) aj=some r∧St w0 (Xl [qc0] col) ax aw∧Zc (Za.int .u32) 79 440 ax aw a0 ae ac∧[6].map f=[.int .u64 aj]) ?_ ?_
   ·intro f aw hJ;obtain ⟨ax,aj,hm,aa,ad,hs⟩:=hJ;rw [Zel.eq_1] at hm;refine .lL [6] hs<|Zu<|Wn<|Yk rfl<|Zl<|Zu ?_;refine Wp.cutK [0,1,5,6,8,9,1000000] (fun f ay=>∃ az a2,Zem ac ah (U2 N ab ag af) aj a2=some r∧St w0 (Xl [qc0] col) az ay∧Zc (Za.int .u32) 79 440 az ay a0 ae ac∧[4].map f=[.int .u64 a2]) ?_ ?_
    ·intro f ay hJ;obtain ⟨az,a2,hm,aa,ad,hs⟩:=hJ;rw [Zem.eq_1] at hm;refine .lL [4] hs<|go ?_;obtain ⟨a5,ak,hm⟩:=bZ hm;refine lI ak (ad.addr ak)<|lW (ad.atInt ak) ?_;refine go ?_;refine lI ak (ad.addr ak) ?_;obtain ⟨al,am,hm⟩:=bZ hm;have am:al=ac.set (Int.toNat ah) (u32.wrap (a5 - (u32.wrap aj))):=(Option.some.inj am).symm;refine Y2 (x1:=u32.wrap (a5 - (u32.wrap aj))) ad ak ?_;intro bf bd be a6;rw [← am] at a6;have a7:al.length=ab.length:=(show ac.length=al.length by rw [am,List.length_set]).symm.trans a8;refine .ld (d:=0) (v:=(.slice a0 al.length ae)) (congrArg (fun n=>Value.slice a0 n ae) (show ac.length=al.length by rw [am,List.length_set])) ?_;refine Zl ?_;replace aa:=aa.kp bd be;exact ⟨rfl,_,_,_,hm,aa,a6,a7,a7,rfl⟩
    refine go ?_;obtain ⟨bg,a3,hm⟩:=bZ hm;refine lI a3 (ad.addr a3)<|lW (ad.atInt a3) ?_;refine go ?_;refine Zo hm (fun hb hm=>go ?_) fun hb hm=>?_
    ·exact ⟨rfl,_,1,hm,aa,ad,rfl⟩
    refine X7 ?_;exact ⟨rfl,_,0,hm,aa,ad,rfl⟩
   refine go ?_;refine Zo hm (fun hb hm=>go ?_) fun hb hm=>?_
   ·obtain ⟨bh,a4,hm⟩:=bZ hm;refine lI a4 ((h1.ks aa).addr a4)<|lW ((h1.ks aa).atInt a4) ?_;refine go ?_;exact ⟨rfl,_,_,hm,aa,ad,rfl⟩
   refine X7 ?_;exact ⟨rfl,_,_,hm,aa,ad,rfl⟩
  cases hm;exact ⟨rfl,_,rfl,aa.finL rfl (cm [(440,qc0)]),aa.foL ad,a9⟩
def Vr (N:Nat) (ab:List Int):Option R2:=
  (V3 N ab).bind fun aa=>if (decide ((aa.length:Int)=0))=true then (some ([]:List Int)) else ((Zcx aa).bind fun ac=>some ac)
theorem Uw {N ac:Nat} {a0:Option Addr} {col:Zd} {w0:World} {ab r:R2} (c1:Nat) (hm:Vr N ab=some r) (h0:Sl (Za.int .u32) col w0 a0 ac ab):
    Calls Tryz.prog 218 #[.slice a0 ab.length ac] w0 (fun e w'=>∃ (col':Zd) (ra1:Option Addr) (rc2:Nat),e= .returned ((.slice ra1 r.length rc2))∧Zf col w0 col' w'∧Zc (Za.int .u32) 79 c1 col' w' ra1 rc2 r):=by
 refine Xc 2 (m:=10) func218 rfl rfl rfl rfl rfl ?_;rw [Vr.eq_1] at hm;have aa:=St.start col w0;refine go ?_;obtain ⟨aj,ad,hm⟩:=bZ hm;replace h0:=h0.keep (Zk.start col w0);refine Zg (Tf ad (h0.ks aa)) ?_;rintro _ ak ⟨al,am,an,rfl,ae,af⟩;refine ⟨_,rfl,go ?_⟩;replace aa:=aa.grow ae;refine Zo hm (fun hb hm=>go ?_) fun hb hm=>go ?_
 ·cases hm;exact ⟨rfl,_,none,0,rfl,aa.fin (cm []),Zc.nil⟩
 obtain ⟨ao,ag,hm⟩:=bZ hm;refine Zg (Zk5 1 ag af) ?_;rintro _ ap ⟨aq,ar,au,rfl,ah,ai⟩;refine ⟨_,rfl,go ?_⟩;cases hm;replace aa:=aa.grow ah;exact ⟨rfl,_,_,_,rfl,aa.fin (cm [(1,c1)]),aa.fo ai⟩
def Zei (N:Nat) (aa:List Int) (ab:List Int):Option Rd:=
  (Za8 N aa ab).bind fun ac=>if (decide (ac<0))=true then (some (([]:List Int),false)) else ((V3 N aa).bind fun ad=>(Zcx ad).bind fun ae=>(V3 N ab).bind fun af=>(Zi7 N ae af).bind fun ag=>(Vr N ag).bind fun ah=>some (ah,true))
theorem Zn1 {N ah ai:Nat} {a0 a1:Option Addr} {col:Zd} {w0:World} {ab ac:R2} {r:Rd} (c1:Nat) (hm:Zei N ab ac=some r) (h0:Sl (Za.int .u32) col w0 a0 ah ab) (h1:Sl (Za.int .u32) col w0 a1 ai ac):
    Calls Tryz.prog 258 #[.slice a0 ab.length ah,.slice a1 ac.length ai] w0 (fun e w'=>∃ (col':Zd) (ra1:Option Addr) (rc2:Nat),e= .returned (.tuple #[.slice ra1 r.1.length rc2,.bool r.2])∧Zf col w0 col' w'∧Zc (Za.int .u32) 79 c1 col' w' ra1 rc2 r.1):=by
 refine Zdj 4 5 (m:=20) (args:=[.slice a0 ab.length ah,.slice a1 ac.length ai]) func258 rfl rfl rfl rfl rfl ?_;rw [Zei.eq_1] at hm;have aa:=St.start col w0;refine go ?_;obtain ⟨a9,aq,hm⟩:=bZ hm;replace h0:=h0.keep (Zk.start col w0);replace h1:=h1.keep (Zk.start col w0);refine Zg (Zig aq (h0.ks aa) (h1.ks aa)) ?_;rintro _ ar ⟨rfl,aj⟩;refine ⟨_,rfl,?_⟩;replace aj:Zf (Zi col) w0 (Zi col) ar:=.of_below aj;refine go ?_;replace aa:=aa.grow aj;refine Zo hm (fun hb hm=>go ?_) fun hb hm=>go ?_
 ·cases hm;exact ⟨rfl,_,none,0,rfl,aa.fin (cm []),Zc.nil⟩
 obtain ⟨ba,au,hm⟩:=bZ hm;refine Zg (Tf au (h0.ks aa)) ?_;rintro _ bb ⟨bc,bd,be,rfl,av,aw⟩;refine ⟨_,rfl,?_⟩;obtain ⟨an,ax,hm⟩:=bZ hm;refine Zg (Zk5 1 ax aw) ?_;rintro _ bf ⟨bg,ad,ae,rfl,ay,ak⟩;refine ⟨_,rfl,go ?_⟩;obtain ⟨bh,az,hm⟩:=bZ hm;replace aa:=(aa.grow av).grow ay;refine Zg (Tf az (h1.ks aa)) ?_;rintro _ bi ⟨bj,bk,bm,rfl,ao,a2⟩;refine ⟨_,rfl,?_⟩;obtain ⟨af,a3,hm⟩:=bZ hm;replace ak:=ak.gr ao;refine Zg (Zvw 1 a3 rfl ak a2) ?_;rintro _ a4 ⟨al,rfl,a5,a6,ap⟩;refine ⟨_,rfl,?_⟩;refine .ld (d:=6) (v:=(.slice ad af.length ae)) (congrArg (fun n=>Value.slice ad n ae) (show an.length=af.length from ap.symm)) ?_;refine .ld (d:=14) (v:=(.slice ad af.length ae)) (congrArg (fun n=>Value.slice ad n ae) (show an.length=af.length from ap.symm)) ?_;refine go ?_;obtain ⟨bn,a7,hm⟩:=bZ hm;refine Zg (Uw 2 a7 (a6.toSlF (Zj.int .u32))) ?_;rintro _ bo ⟨a8,bp,bq,rfl,ag,am⟩;refine ⟨_,rfl,?_⟩;replace am:=am.thaw (Zx .u32) ag ((Fz.refl (col:=al)).froz 1) (by decide);replace ag:=ag.thawR (col:=al);generalize Z6 a4.heap.size al a8=br at *;refine go ?_;cases hm;replace aa:=((aa.grow ao).kpp a5).grow ag;exact ⟨rfl,_,_,_,rfl,aa.fin (cm [(2,c1)]),aa.fo am⟩
def Zi4 (aa:Nat) (kk_L1:(Nat→R2→Int→Option R2)) (ab:List Int) (ac:Int):Option R2:=
  kk_L1 (aa+1) ab ac
def Zeg (aa:Nat) (ab:List Int) (kk_L1:(Nat→R2→Int→Option R2)) (ac:Int):Option R2:=
  (Zn ab (aa:Int)).bind fun ae=>(some (ab.set (Int.toNat (aa:Int)) (u32.wrap ac))).bind fun ad=>Zi4 aa kk_L1 ad (X8 .u64 ac 32)
def Tn (N:Nat) (ac:List Int) (ad:List Int):List Int→Nat→R2→Int→Option R2
  | [],aa,ab,ae=>(Zn ab (ac.length:Int)).bind fun ak=>(some (ab.set (Int.toNat (ac.length:Int)) (u32.wrap ae))).bind fun ah=>(Vr N ah).bind fun ai=>some ai
  | af :: ag,aa,ab,ae=>if (decide ((aa:Int)<(ad.length:Int)))=true then ((Zn ad (aa:Int)).bind fun aj=>Zeg aa ab (Tn N ac ad ag) (u64.wrap ((u64.wrap (ae+(u64.wrap af)))+(u64.wrap aj)))) else (Zeg aa ab (Tn N ac ad ag) (u64.wrap (ae+(u64.wrap af))))
termination_by structural x=>x
def Zef (N:Nat) (aa:List Int) (ab:List Int):Option R2:=
  Zw ((Int.toNat (i64.wrap ((aa.length:Int)+1))) * 4≤281474976710656∧(Int.toNat (i64.wrap ((aa.length:Int)+1)))≤maxLen∧0≤(i64.wrap ((aa.length:Int)+1))) (Tn N aa ab aa 0 (List.replicate (Int.toNat (i64.wrap ((aa.length:Int)+1))) (0:Int)) 0)
def Zgf (N:Nat) (ac:List Int) (ad:List Int):Option R2:=
  (V3 N ac).bind fun aa=>(V3 N ad).bind fun ab=>if (decide ((aa.length:Int)<(ab.length:Int)))=true then (Zef N ab aa) else (Zef N aa ab)
theorem Zvs {N bp bq:Nat} {a0 a1:Option Addr} {col:Zd} {w0:World} {a9 ba r:R2} (c1:Nat) (hm:Zgf N a9 ba=some r) (h0:Sl (Za.int .u32) col w0 a0 bp a9) (h1:Sl (Za.int .u32) col w0 a1 bq ba):
    Calls Tryz.prog 257 #[.slice a0 a9.length bp,.slice a1 ba.length bq] w0 (fun e w'=>∃ (col':Zd) (ra1:Option Addr) (rc2:Nat),e= .returned ((.slice ra1 r.length rc2))∧Zf col w0 col' w'∧Zc (Za.int .u32) 79 c1 col' w' ra1 rc2 r):=by
 refine Xc 4 (m:=62) func257 rfl rfl rfl rfl rfl ?_;rw [Zgf.eq_1] at hm;have aa:=St.start col w0;refine go ?_;obtain ⟨ca,bw,hm⟩:=bZ hm;replace h0:=h0.keep (Zk.start col w0);refine Zg (Tf bw (h0.ks aa)) ?_;rintro _ cb ⟨cc,cd,ce,rfl,bx,a3⟩;refine ⟨_,rfl,?_⟩;refine Yu rfl ?_;obtain ⟨cf,bz,hm⟩:=bZ hm;replace h1:=h1.keep (Zk.start col w0);replace aa:=aa.grow bx;refine Zg (Tf bz (h1.ks aa)) ?_;rintro _ cg ⟨ch,ci,cj,rfl,br,bs⟩;refine ⟨_,rfl,?_⟩;refine Ziu rfl<|Ziu rfl<|Zl<|Zu ?_;replace a3:=a3.gr br;replace aa:=aa.grow br;refine Wp.cutK [1000000] (fun f aq=>∃ ar am an ab ao ap ae,Zef N ab ae=some r∧St w0 (Zi col) ar aq∧Sl (Za.int .u32) ar aq am an ab∧Sl (Za.int .u32) ar aq ao ap ae∧[0,1].map f=[.slice am ab.length an,.slice ao ae.length ap]) ?_ ?_
 ·intro f aq hJ;obtain ⟨ar,am,an,ab,ao,ap,ae,hm,aa,ac,ad,hs⟩:=hJ;rw [Zef.eq_1] at hm;refine .lL [0,1] hs<|go ?_;obtain ⟨a4,hm⟩:=Z0 hm;refine Sx (col:=ar) (w:=aq) (r:=(Za.int .u32)) (n:=(Int.toNat (i64.wrap ((ab.length:Int)+1)))) (x0:=0) 1 rfl underlying43 Tryz.t79 rfl rfl rfl rfl rfl (congrArg (Value.int _) (Int.toNat_of_nonneg a4.2.2).symm) (congrArg (Value.int _) (Int.toNat_of_nonneg a4.2.2).symm) a4.1 a4.2.1 (V5 .u32 0) ?_;intro ck cl cn bb b0;refine go ?_;replace ac:=ac.gr bb;replace ad:=ad.gr bb;replace aa:=aa.grow bb;refine Z2 [0,1,24,25,1000000] (fun n f au=>∃ ah ag ai aj af av aw,n=aw.length∧ab.drop ag=aw∧Tn N ab ae aw ag af av=some r∧St w0 (Zi col) ah au∧Sl (Za.int .u32) ah au am an ab∧Sl (Za.int .u32) ah au ao ap ae∧Zc (Za.int .u32) 79 1 ah au ai aj af∧[26,5,6].map f=[.int .i64 ag,.slice ai af.length aj,.int .u64 av]) ab.length ⟨_,0,_,_,_,0,_,rfl,rfl,hm,aa,ac,ad,b0,rfl⟩ ?_;clear hm;intro n f au hI;obtain ⟨ah,ag,ai,aj,af,av,aw,hn,hl,hm,aa,ac,ad,ak,hs⟩:=hI;subst hn;refine .lL [26,5,6] hs ?_
  cases aw with
  | nil=>
   have hk:¬ ((ag:Int)<(ab.length:Int)):=by have:=List.drop_eq_nil_iff.1 hl;omega
   have hkb:=decide_eq_false hk;rw [Tn.eq_1] at hm;refine go ?_;refine Xv (congrArg Value.bool hkb)<|go ?_;obtain ⟨co,bc,hm⟩:=bZ hm;refine lI bc (ak.addr bc) ?_;obtain ⟨bd,a5,hm⟩:=bZ hm;have a5:bd=af.set (Int.toNat (ab.length:Int)) (u32.wrap av):=(Option.some.inj a5).symm;refine Y2 (x1:=u32.wrap av) ak bc ?_;intro b1 b2 b3 bt;rw [← a5] at bt;refine .ld (d:=5) (v:=(.slice ai bd.length aj)) (congrArg (fun n=>Value.slice ai n aj) (show af.length=bd.length by rw [a5,List.length_set])) ?_;refine go ?_;obtain ⟨cp,b4,hm⟩:=bZ hm;refine Zg (Uw 2 b4 (bt.toSlF (Zj.int .u32))) ?_;rintro _ cq ⟨b5,cr,cs,rfl,a6,be⟩;refine ⟨_,rfl,?_⟩;replace be:=be.thaw (Zx .u32) a6 ((Fz.refl (col:=ah)).froz 1) (by decide);replace a6:=a6.thawR (col:=ah);generalize Z6 b1.heap.size ah b5=ct at *;refine go ?_;cases hm;replace aa:=(aa.kp b2 b3).grow a6;exact ⟨rfl,_,_,_,rfl,aa.fin (cm [(2,c1)]),aa.fo be⟩
  | cons bu bf=>
   obtain ⟨bg,b6,b7⟩:=Yc hl;have hk:(ag:Int)<(ab.length:Int):=by omega
   have hkb:=decide_eq_true hk;rw [Tn.eq_2] at hm;refine go ?_;refine Xz (congrArg Value.bool hkb)<|X7<|Zu ?_;refine Wp.cutK [0,1,24,25,26,1000000] (fun f ax=>∃ ay bh bi a7 bj,Zi4 ag (Tn N ab ae bf) a7 bj=some r∧St w0 (Zi col) ay ax∧Sl (Za.int .u32) ay ax am an ab∧Sl (Za.int .u32) ay ax ao ap ae∧Zc (Za.int .u32) 79 1 ay ax bh bi a7∧[5,6].map f=[.slice bh a7.length bi,.int .u64 bj]) ?_ ?_
   ·intro f ax hJ;obtain ⟨ay,bh,bi,a7,bj,hm,aa,ac,ad,b8,hs⟩:=hJ;rw [Zi4.eq_1] at hm;refine .lL [5,6] hs<|go ?_;exact ⟨bf.length,by simp,rfl,⟨_,_,_,_,_,_,_,rfl,b6,hm,aa,ac,ad,b8,(Yg (congrArg (Value.int .i64) (Yf (Nat.lt_of_lt_of_le b7 ac.1.1))) rfl)⟩⟩
   refine go ?_;refine lI bg (ac.addr bg)<|lW (ac.atInt bg)<|Yk rfl<|Yk rfl<|Zl<|Zu<|Wn<|X9 rfl<|X9 rfl<|lV (.int .u64 (u64.wrap bu)) (Zhl bu ⟨_,underlying79⟩ underlying193 rfl)<|lV _ (Qi _ _ rfl rfl)<|Yk rfl<|Zl<|Zu ?_;refine Wp.cutK [0,1,24,25,26,5,7,1000000] (fun f az=>∃ a2 al,Zeg ag af (Tn N ab ae bf) al=some r∧St w0 (Zi col) a2 az∧Sl (Za.int .u32) a2 az am an ab∧Sl (Za.int .u32) a2 az ao ap ae∧Zc (Za.int .u32) 79 1 a2 az ai aj af∧[6].map f=[.int .u64 al]) ?_ ?_
   ·intro f az hJ;obtain ⟨a2,al,hm,aa,ac,ad,ak,hs⟩:=hJ;rw [Zeg.eq_1] at hm;refine .lL [6] hs<|go ?_;obtain ⟨cu,bk,hm⟩:=bZ hm;refine lI bk (ak.addr bk) ?_;obtain ⟨bm,a8,hm⟩:=bZ hm;have a8:bm=af.set (Int.toNat (ag:Int)) (u32.wrap al):=(Option.some.inj a8).symm;refine Y2 (x1:=u32.wrap al) ak bk ?_;intro cv bn b9 bv;rw [← a8] at bv;refine .ld (d:=5) (v:=(.slice ai bm.length aj)) (congrArg (fun n=>Value.slice ai n aj) (show af.length=bm.length by rw [a8,List.length_set])) ?_;refine go ?_;refine lV (.int .u64 (X8 .u64 al 32)) (Tx al 32 rfl rfl (by decide))<|go ?_;replace ac:=ac.kp bn;replace ad:=ad.kp bn;replace aa:=aa.kp bn b9;exact ⟨rfl,_,_,_,_,_,hm,aa,ac,ad,bv,rfl⟩
   refine go ?_;refine Zo hm (fun hb hm=>go ?_) fun hb hm=>?_
   ·obtain ⟨cw,bo,hm⟩:=bZ hm;refine lI bo (ad.addr bo)<|lW (ad.atInt bo) ?_;refine go ?_;exact ⟨rfl,_,_,hm,aa,ac,ad,ak,rfl⟩
   refine X7 ?_;exact ⟨rfl,_,_,hm,aa,ac,ad,ak,rfl⟩
 refine go ?_;refine Zo hm (fun hb hm=>go ?_) fun hb hm=>?_
 ·exact ⟨rfl,_,_,_,_,_,_,_,hm,aa,bs,a3,rfl⟩
 refine X7 ?_;exact ⟨rfl,_,_,_,_,_,_,_,hm,aa,a3,bs,rfl⟩
def Zba (ae:List Int) (aa:Nat) (kk_L1:(Nat→R2→Option R2)) (af:Int):List Int→Nat→R2→Int→Option R2
  | [],ac,ab,ad=>(Zn ab (i64.wrap ((aa:Int)+(ae.length:Int)))).bind fun al=>(some (ab.set (Int.toNat (i64.wrap ((aa:Int)+(ae.length:Int)))) (u32.wrap ad))).bind fun ai=>kk_L1 (aa+1) ai
  | ag :: aj,ac,ab,ad=>(Zn ab (i64.wrap ((aa:Int)+(ac:Int)))).bind fun ah=>(some (ab.set (Int.toNat (i64.wrap ((aa:Int)+(ac:Int)))) (u32.wrap (u64.wrap (ad+(u64.wrap ((u64.wrap ((u64.wrap af) * (u64.wrap ag)))+(u64.wrap ah)))))))).bind fun ak=>(Zba ae aa kk_L1 af aj) (ac+1) ak (X8 .u64 (u64.wrap (ad+(u64.wrap ((u64.wrap ((u64.wrap af) * (u64.wrap ag)))+(u64.wrap ah))))) 32)
termination_by structural x=>x
def Qb (N:Nat) (aa:List Int):List Int→Nat→R2→Option R2
  | [],ac,ab=>(Vr N ab).bind fun ad=>some ad
  | ae :: af,ac,ab=>Zba aa ac (Qb N aa af) ae aa 0 ab 0
termination_by structural x=>x
def Sc (N:Nat) (ac:List Int) (ad:List Int):Option R2:=
  (V3 N ac).bind fun aa=>(V3 N ad).bind fun ab=>Zw ((Int.toNat (i64.wrap ((aa.length:Int)+(ab.length:Int)))) * 4≤281474976710656∧(Int.toNat (i64.wrap ((aa.length:Int)+(ab.length:Int))))≤maxLen∧0≤(i64.wrap ((aa.length:Int)+(ab.length:Int)))) (Qb N ab aa 0 (List.replicate (Int.toNat (i64.wrap ((aa.length:Int)+(ab.length:Int)))) (0:Int)))
theorem Zdg {N bt bu:Nat} {a0 a1:Option Addr} {col:Zd} {w0:World} {be bf r:R2} (c1:Nat) (hm:Sc N be bf=some r) (h0:Sl (Za.int .u32) col w0 a0 bt be) (h1:Sl (Za.int .u32) col w0 a1 bu bf):
    Calls Tryz.prog 113 #[.slice a0 be.length bt,.slice a1 bf.length bu] w0 (fun e w'=>∃ (col':Zd) (ra1:Option Addr) (rc2:Nat),e= .returned ((.slice ra1 r.length rc2))∧Zf col w0 col' w'∧Zc (Za.int .u32) 79 c1 col' w' ra1 rc2 r):=by
 refine Xc 4 (m:=71) func113 rfl rfl rfl rfl rfl ?_;rw [Sc.eq_1] at hm;have aa:=St.start col w0;refine go ?_;obtain ⟨ae,b1,hm⟩:=bZ hm;replace h0:=h0.keep (Zk.start col w0);refine Zg (Tf b1 (h0.ks aa)) ?_;rintro _ co ⟨cp,a4,a5,rfl,b2,ac⟩;refine ⟨_,rfl,?_⟩;refine Yu rfl ?_;obtain ⟨ab,b3,hm⟩:=bZ hm;replace h1:=h1.keep (Zk.start col w0);replace aa:=aa.grow b2;refine Zg (Tf b3 (h1.ks aa)) ?_;rintro _ b4 ⟨b5,au,av,rfl,bv,ad⟩;refine ⟨_,rfl,go ?_⟩;obtain ⟨a6,hm⟩:=Z0 hm;refine Sx (col:=b5) (w:=b4) (r:=(Za.int .u32)) (n:=(Int.toNat (i64.wrap ((ae.length:Int)+(ab.length:Int))))) (x0:=0) 1 rfl underlying43 Tryz.t79 rfl rfl rfl rfl rfl (congrArg (Value.int _) (Int.toNat_of_nonneg a6.2.2).symm) (congrArg (Value.int _) (Int.toNat_of_nonneg a6.2.2).symm) a6.1 a6.2.1 (V5 .u32 0) ?_;intro b6 cq b7 bg b8;refine go ?_;replace ac:=(ac.gr bv).gr bg;replace aa:=(aa.grow bv).grow bg;replace ad:=ad.gr bg;refine Zng (fun n f ap=>∃ (ah:Zd) (af:Nat) (a7:Option Addr) (a8:Nat) (aw:List Int) (ax:List Int),n=ax.length∧ae.drop af=ax∧Qb N ab ax af aw=some r∧St w0 (Zi col) ah ap∧Sl (Za.int .u32) ah ap au av ab∧Sl (Za.int .u32) ah ap a4 a5 ae∧Zc (Za.int .u32) 79 1 ah ap a7 a8 aw∧f 23=(.int .i64 af)∧f 1=(.slice au ab.length av)∧f 21=(.slice a4 ae.length a5)∧f 22=(.int .i64 ae.length)∧f 5=(.slice a7 aw.length a8)∧f 1000000=(enc [])) ae.length ⟨b7,0,b6,(Int.toNat (i64.wrap ((ae.length:Int)+(ab.length:Int)))),(List.replicate (Int.toNat (i64.wrap ((ae.length:Int)+(ab.length:Int)))) (0:Int)),ae,rfl,rfl,hm,aa,ad,ac,b8,rfl,rfl,rfl,rfl,rfl,rfl⟩ ?_;clear hm;intro n f ap hI;obtain ⟨ah,af,a7,a8,aw,ax,hn,hl,hm,aa,ad,ac,bw,bh,bi,bj,bk,bm,bn⟩:=hI;subst hn;refine .lD 23 bh<|.lD 1 bi<|.lD 21 bj<|.lD 22 bk<|.lD 5 bm<|.lD 1000000 bn ?_
 cases ax with
 | nil=>
  have hk:¬ ((af:Int)<(ae.length:Int)):=by have:=List.drop_eq_nil_iff.1 hl;omega
  have hkb:=decide_eq_false hk;rw [Qb.eq_1] at hm;refine go ?_;refine Xv (congrArg Value.bool hkb)<|go ?_;obtain ⟨cr,b9,hm⟩:=bZ hm;refine Zg (Uw 2 b9 (bw.toSlF (Zj.int .u32))) ?_;rintro _ cs ⟨ca,ct,cu,rfl,a9,bo⟩;refine ⟨_,rfl,?_⟩;replace bo:=bo.thaw (Zx .u32) a9 ((Fz.refl (col:=ah)).froz 1) (by decide);replace a9:=a9.thawR (col:=ah);generalize Z6 ap.heap.size ah ca=cv at *;refine go ?_;cases hm;replace aa:=aa.grow a9;exact ⟨rfl,_,_,_,rfl,aa.fin (cm [(2,c1)]),aa.fo bo⟩
 | cons am bp=>
  obtain ⟨an,cb,cc⟩:=Yc hl;have hk:(af:Int)<(ae.length:Int):=by omega
  have hkb:=decide_eq_true hk;rw [Qb.eq_2] at hm;refine go ?_;refine Xz (congrArg Value.bool hkb)<|go ?_;refine lI an (ac.addr an)<|lW (ac.atInt an) ?_;refine go ?_;refine Zng (fun n f ay=>∃ (ao:Zd) (ak:Nat) (ai:Option Addr) (aj:Nat) (al:List Int) (ag:Int) (az:List Int),n=az.length∧ab.drop ak=az∧Zba ab af (Qb N ab bp) am az ak al ag=some r∧St w0 (Zi col) ao ay∧Sl (Za.int .u32) ao ay au av ab∧Sl (Za.int .u32) ao ay a4 a5 ae∧Zc (Za.int .u32) 79 1 ao ay ai aj al∧f 30=(.int .i64 ak)∧f 1=(.slice au ab.length av)∧f 21=(.slice a4 ae.length a5)∧f 22=(.int .i64 ae.length)∧f 23=(.int .i64 af)∧f 28=(.slice au ab.length av)∧f 29=(.int .i64 ab.length)∧f 5=(.slice ai al.length aj)∧f 6=(.int .i64 af)∧f 7=(.int .u32 am)∧f 8=(.int .u64 ag)∧f 1000000=(enc [])) ab.length ⟨ah,0,a7,a8,aw,0,ab,rfl,rfl,hm,aa,ad,ac,bw,rfl,rfl,rfl,rfl,rfl,rfl,rfl,rfl,rfl,rfl,rfl,rfl⟩ ?_;clear hm;intro n f ay hI;obtain ⟨ao,ak,ai,aj,al,ag,az,hn,hl,hm,aa,ad,ac,aq,cd,bi,bj,bk,bh,ce,cf,bm,cg,ch,ci,bn⟩:=hI;subst hn;refine .lD 30 cd<|.lD 1 bi<|.lD 21 bj<|.lD 22 bk<|.lD 23 bh<|.lD 28 ce<|.lD 29 cf<|.lD 5 bm<|.lD 6 cg<|.lD 7 ch<|.lD 8 ci<|.lD 1000000 bn ?_
  cases az with
  | nil=>
   have hk:¬ ((ak:Int)<(ab.length:Int)):=by have:=List.drop_eq_nil_iff.1 hl;omega
   have hkb:=decide_eq_false hk;rw [Zba.eq_1] at hm;refine go ?_;refine Xv (congrArg Value.bool hkb)<|go ?_;obtain ⟨cw,bq,hm⟩:=bZ hm;refine lI bq (aq.addr bq) ?_;obtain ⟨ba,bb,hm⟩:=bZ hm;have bb:ba=al.set (Int.toNat (i64.wrap ((af:Int)+(ab.length:Int)))) (u32.wrap ag):=(Option.some.inj bb).symm;refine Y2 (x1:=u32.wrap ag) aq bq ?_;intro cx br cj bx;rw [← bb] at bx;refine .ld (d:=5) (v:=(.slice ai ba.length aj)) (congrArg (fun n=>Value.slice ai n aj) (show al.length=ba.length by rw [bb,List.length_set])) ?_;refine go ?_;replace ad:=ad.kp br;replace ac:=ac.kp br;replace aa:=aa.kp br cj;exact ⟨bp.length,by simp,⟨ao,(af+1),ai,aj,ba,bp,rfl,cb,hm,aa,ad,ac,bx,(congrArg (Value.int .i64) (Yf (Nat.lt_of_lt_of_le cc ac.1.1))),rfl,rfl,rfl,rfl,rfl⟩⟩
  | cons a2 bz=>
   obtain ⟨an,ck,cl⟩:=Yc hl;have hk:(ak:Int)<(ab.length:Int):=by omega
   have hkb:=decide_eq_true hk;rw [Zba.eq_2] at hm;refine go ?_;refine Xz (congrArg Value.bool hkb)<|go ?_;refine lI an (ad.addr an)<|lW (ad.atInt an) ?_;refine go ?_;obtain ⟨a3,ar,hm⟩:=bZ hm;refine lI ar (aq.addr ar)<|lW (aq.atInt ar) ?_;refine go ?_;refine lI ar (aq.addr ar) ?_;obtain ⟨bc,bd,hm⟩:=bZ hm;have bd:bc=al.set (Int.toNat (i64.wrap ((af:Int)+(ak:Int)))) (u32.wrap (u64.wrap (ag+(u64.wrap ((u64.wrap ((u64.wrap am) * (u64.wrap a2)))+(u64.wrap a3)))))):=(Option.some.inj bd).symm;refine Y2 (x1:=u32.wrap (u64.wrap (ag+(u64.wrap ((u64.wrap ((u64.wrap am) * (u64.wrap a2)))+(u64.wrap a3)))))) aq ar ?_;intro cy bs cn b0;rw [← bd] at b0;refine .ld (d:=5) (v:=(.slice ai bc.length aj)) (congrArg (fun n=>Value.slice ai n aj) (show al.length=bc.length by rw [bd,List.length_set])) ?_;refine go ?_;refine lV (.int .u64 (X8 .u64 (u64.wrap (ag+(u64.wrap ((u64.wrap ((u64.wrap am) * (u64.wrap a2)))+(u64.wrap a3))))) 32)) (Tx (u64.wrap (ag+(u64.wrap ((u64.wrap ((u64.wrap am) * (u64.wrap a2)))+(u64.wrap a3))))) 32 rfl rfl (by decide))<|go ?_;replace ad:=ad.kp bs;replace ac:=ac.kp bs;replace aa:=aa.kp bs cn;exact ⟨bz.length,by simp,⟨ao,(ak+1),ai,aj,bc,(X8 .u64 (u64.wrap (ag+(u64.wrap ((u64.wrap ((u64.wrap am) * (u64.wrap a2)))+(u64.wrap a3))))) 32),bz,rfl,ck,hm,aa,ad,ac,b0,(congrArg (Value.int .i64) (Yf (Nat.lt_of_lt_of_le cl ad.1.1))),rfl,rfl,rfl,rfl,rfl,rfl,rfl,rfl,rfl,rfl,rfl⟩⟩
def Qc (N:Nat) (aa:Int):Option R2:=
  (Vr N [u32.wrap aa,u32.wrap (X8 .u64 aa 32)]).bind fun ab=>some ab
theorem Zdh {N:Nat} {col:Zd} {w0:World} {aa:Int} {r:R2} (c1:Nat) (hm:Qc N aa=some r):
    Calls Tryz.prog 181 #[.int .u64 aa] w0 (fun e w'=>∃ (col':Zd) (ra1:Option Addr) (rc2:Nat),e= .returned ((.slice ra1 r.length rc2))∧Zf col w0 col' w'∧Zc (Za.int .u32) 79 c1 col' w' ra1 rc2 r):=by
 refine Xc 2 (m:=10) func181 rfl rfl rfl rfl rfl ?_;rw [Qc.eq_1] at hm;have ab:=St.start col w0;refine go ?_;refine lV (.int .u64 (X8 .u64 aa 32)) (Tx aa 32 rfl rfl (by decide))<|go ?_;refine Vd (col:=(Zi col)) [u32.wrap aa,u32.wrap (X8 .u64 aa 32)] 1 ?_;intro ak af ad ag ah;obtain ⟨al,ai,hm⟩:=bZ hm;refine Zg (Uw 2 ai (ah.toSlF (Zj.int .u32))) ?_;rintro _ am ⟨aj,an,ao,rfl,ac,ae⟩;refine ⟨_,rfl,?_⟩;replace ae:=ae.thaw (Zx .u32) ac ((Fz.refl (col:=ad)).froz 1) (by decide);replace ac:=ac.thawR (col:=ad);generalize Z6 af.heap.size ad aj=ap at *;refine go ?_;cases hm;replace ab:=(ab.grow ag).grow ac;exact ⟨rfl,_,_,_,rfl,ab.fin (cm [(2,c1)]),ab.fo ae⟩
def Zcj (N:Nat) (aa:List Int):Option R2:=
  (Vr N aa).bind fun ab=>some ab
theorem Zkz {N ac:Nat} {a0:Option Addr} {col:Zd} {w0:World} {ab r:R2} (c1:Nat) (hm:Zcj N ab=some r) (h0:Sl (Za.int .u32) col w0 a0 ac ab):
    Calls Tryz.prog 255 #[.slice a0 ab.length ac] w0 (fun e w'=>∃ (col':Zd) (ra1:Option Addr) (rc2:Nat),e= .returned ((.slice ra1 r.length rc2))∧Zf col w0 col' w'∧Zc (Za.int .u32) 79 c1 col' w' ra1 rc2 r):=by
 refine Xc 2 (m:=5) func255 rfl rfl rfl rfl rfl ?_;rw [Zcj.eq_1] at hm;have aa:=St.start col w0;refine go ?_;obtain ⟨ag,ad,hm⟩:=bZ hm;replace h0:=h0.keep (Zk.start col w0);refine Zg (Uw 1 ad (h0.ks aa)) ?_;rintro _ ah ⟨ai,aj,ak,rfl,ae,af⟩;refine ⟨_,rfl,go ?_⟩;cases hm;replace aa:=aa.grow ae;exact ⟨rfl,_,_,_,rfl,aa.fin (cm [(1,c1)]),aa.fo af⟩
theorem Zkf (N:Nat):∀ (n:Nat) (a:List Int),Zm a→a.length<n→a.length<4611686018427387904→U3 N n a=some (Ze (Zb a))
 | 0,a,_,h,_=>by omega
 | n+1,a,h,hn,hb=>by
  rw [U3.eq_2]
  by_cases h0:0<a.length
  ·have e:(a.length:Int) - 1=((a.length - 1:Nat):Int):=by omega
   rw [if_pos (by simpa using h0),Zy (by omega),e,Xb (by omega),Option.bind_some,Q9,Zy (by omega),e]
   by_cases hx:a[a.length - 1]=0
   ·rw [if_pos (by simpa using hx),Xd (by omega),Int.toNat_natCast,Zkf N n _ (h.take _) (by rw [List.length_take];omega) (by rw [List.length_take];omega)]
    conv=>rhs;rw [← Zdn h0,hx,Zrd]
   ·rw [if_neg (by simpa using hx)]
    have e2:=Zdn h0
    have e3:=Zyw (a:=a.take (a.length - 1)) (x:=a[a.length - 1]) (by rw [e2];exact h) hx
    rw [e2] at e3
    rw [e3]
  ·have h1:a=[]:=List.eq_nil_of_length_eq_zero (by omega)
   subst h1
   rw [if_neg (by simp),Q9,if_neg (by decide),Ye,Wl]
theorem T0 {N:Nat} {a:List Int} (h:Zm a) (hn:a.length<N) (hb:a.length≤1099511627776):V3 N a=some (Ze (Zb a)):=by
 rw [V3];exact Zkf N N a h hn (by omega)
theorem Zk8 {a:List Int} (hb:a.length≤2199023255552):Zcx a=some a:=by
 rw [Zcx,Xd (by simp only [List.length_nil,maxLen];omega),List.nil_append]
theorem Tv {N:Nat} {a:List Int} (h:Zm a) (hn:a.length<N) (hb:a.length≤1099511627776):Vr N a=some (Ze (Zb a)):=by
 rw [Vr,T0 h hn hb,Option.bind_some]
 have hl:=Ym h
 by_cases h0:Ze (Zb a)=[]
 ·rw [h0,if_pos (by decide)]
 ·have:0<(Ze (Zb a)).length:=List.length_pos_iff.2 h0
  rw [if_neg (by simp;exact h0),Zk8 (by omega),Option.bind_some]
theorem Zmi {N:Nat} {a:List Int} (h:Zm a) (hn:a.length<N) (hb:a.length≤1099511627776):Zcj N a=some (Ze (Zb a)):=by
 rw [Zcj,Tv h hn hb,Option.bind_some]
theorem Zhh {N:Nat} {u:Int} (h:0≤u∧u<18446744073709551616) (hn:2<N):Qc N u=some (Ze u.toNat):=by
 have e:Zb [u32.wrap u,u32.wrap (X8 .u64 u 32)]=u.toNat:=by
  rw [Zc5,Yv,Yv,Ye,IntKind.wrap_u32,IntKind.wrap_u32];omega
 have hl:Zm [u32.wrap u,u32.wrap (X8 .u64 u 32)]:=by
  rw [Zc5,IntKind.wrap_u32,IntKind.wrap_u32]
  exact .cons (by omega) (.cons (by omega) .nil)
 rw [Qc,Tv hl (by simpa using hn) (by simp),Option.bind_some,e]
theorem Zom (N:Nat) (a b:List Int) (ha:Zm a) (hb:Zm b) (hl:a.length=b.length) (hs:a.length<4611686018427387904):∀ (n i:Nat),i≤a.length→i<n→a.drop i=b.drop i→Zcg N a b n ((i:Int) - 1)=some (if Zb a<Zb b then -1 else if Zb b<Zb a then 1 else 0)
 | 0,i,_,h,_=>by omega
 | n+1,i,hi,hn,he=>by
  rw [Zcg.eq_2]
  by_cases h0:i=0
  ·subst h0
   rw [if_neg (by decide)]
   rw [List.drop_zero,List.drop_zero] at he
   subst he
   rw [if_neg (by omega),if_neg (by omega)]
  ·have e:(i:Int) - 1=((i - 1:Nat):Int):=by omega
   have h1:i - 1<a.length:=by omega
   have h2:i - 1<b.length:=by omega
   have e1:i - 1+1=i:=by omega
   rw [if_pos (by simp;omega),e,Xb h1,Option.bind_some,Xb h2,Option.bind_some]
   have g1:=ha.get h1
   have g2:=hb.get h2
   have va:=Ug a (i - 1)
   have vb:=Ug b (i - 1)
   rw [Vs h1,e1] at va
   rw [Vs h2,e1,← he] at vb
   have la:=Tt (ha.take (i - 1))
   have lb:=Tt (hb.take (i - 1))
   rw [List.length_take,Nat.min_eq_left (by omega)] at la lb
   have key:∀ x y:Nat,x<y→4294967296 ^ (i - 1) * (x+4294967296 * Zb (a.drop i))+4294967296 ^ (i - 1)≤4294967296 ^ (i - 1) * (y+4294967296 * Zb (a.drop i)):=fun x y hxy=>by
    rw [← Nat.mul_succ];exact Nat.mul_le_mul_left _ (by omega)
   by_cases hlt:a[i - 1]<b[i - 1]
   ·have:=key _ _ (show (a[i - 1]).toNat<(b[i - 1]).toNat by omega)
    rw [if_pos (by simpa using hlt),if_pos (by omega)]
   ·rw [if_neg (by simpa using hlt)]
    by_cases hgt:b[i - 1]<a[i - 1]
    ·have:=key _ _ (show (b[i - 1]).toNat<(a[i - 1]).toNat by omega)
     rw [if_pos (by simpa using hgt),if_neg (by omega),if_pos (by omega)]
    ·rw [if_neg (by simpa using hgt),Zy (by omega)]
     have:=Zom N a b ha hb hl hs n (i - 1) (by omega) (by omega) (by
      rw [List.drop_eq_getElem_cons h1,List.drop_eq_getElem_cons h2,e1,he]
      congr 1;omega)
     exact this
theorem Zqn {m n:Nat} (h:(Ze m).length<(Ze n).length):m<n:=by
 have h1:=Wh (k:=(Ze m).length) (n:=m)
 have h2:=Wh (k:=(Ze m).length) (n:=n)
 have:=h1.1 (Nat.le_refl _)
 have h3:¬ n<4294967296 ^ (Ze m).length:=fun h4=>by have:=h2.2 h4;omega
 omega
theorem Zla {N:Nat} {a b:List Int} (ha:Zm a) (hb:Zm b) (h1:a.length<N) (h2:b.length<N) (h3:a.length≤1099511627776) (h4:b.length≤1099511627776):
  Za8 N a b=some (if Zb a<Zb b then -1 else if Zb b<Zb a then 1 else 0):=by
 have la:=Ym ha
 have lb:=Ym hb
 rw [Za8,T0 ha h1 h3,Option.bind_some,T0 hb h2 h4,Option.bind_some]
 by_cases he:(Ze (Zb a)).length=(Ze (Zb b)).length
 ·rw [if_neg (by simp [he]),Zy (by omega)]
  have:=Zom N (Ze (Zb a)) (Ze (Zb b)) (Z5 _) (Z5 _) he (by omega) N (Ze (Zb a)).length (Nat.le_refl _) (by omega) (by
   rw [List.drop_eq_nil_of_le (Nat.le_refl _),List.drop_eq_nil_of_le (by omega)])
  rw [this,Z1,Z1]
 ·rw [if_pos (by simp;omega)]
  by_cases hlt:(Ze (Zb a)).length<(Ze (Zb b)).length
  ·rw [if_pos (by simpa using hlt),if_pos (Zqn hlt)]
  ·have:=Zqn (m:=Zb b) (n:=Zb a) (by omega)
   rw [if_neg (by simpa using hlt),if_neg (by omega),if_pos this]
def Xp (b:List Int) (k:Nat):Nat:=(b.getD k 0).toNat
theorem Uf (b:List Int) (k:Nat):Zb (b.drop k)=Xp b k+4294967296 * Zb (b.drop (k+1)):=by
 by_cases h:k<b.length
 ·rw [Vs h,Xp,List.getD_eq_getElem?_getD,List.getElem?_eq_getElem h,Option.getD_some]
 ·rw [List.drop_eq_nil_of_le (by omega),List.drop_eq_nil_of_le (by omega),Xp,List.getD_eq_getElem?_getD,List.getElem?_eq_none (by omega)];rfl
theorem Zb2 {b:List Int} (h:Zm b) (k:Nat):Xp b k<4294967296:=by
 rw [Xp,List.getD_eq_getElem?_getD]
 by_cases hk:k<b.length
 ·have:=h.get hk
  rw [List.getElem?_eq_getElem hk,Option.getD_some];omega
 ·rw [List.getElem?_eq_none (by omega)];decide
theorem drop_zero {l:List Int} {k:Nat} (h:Zm l) (hk:k<l.length) (h0:Zb (l.drop k)=0):l[k]=0∧Zb (l.drop (k+1))=0:=by
 have:=h.get hk
 rw [Vs hk] at h0
 omega
theorem Qo {l:List Int} {k j:Nat} (v:Int) (h:k<j):(l.set k v).drop j=l.drop j:=by
 rw [List.drop_set,if_pos h]
theorem Zuu (S S' Q c x y v c' L D:Nat) (h1:S'=S+Q * v) (h2:c+x+y=v+4294967296 * c'):S'+Q * 4294967296 * (c'+L+D)=S+Q * (c+(x+4294967296 * L)+(y+4294967296 * D)):=by
 subst h1
 have:Q * (c+x+y)=Q * (v+4294967296 * c'):=by rw [h2]
 grind
theorem Znn (N:Nat) (a b:List Int) (ha:Zm a) (hb:Zm b) (hab:b.length≤a.length) (hN:a.length+1<N) (hs:a.length<1099511627776):∀ (l:List Int) (k:Nat) (sum:List Int) (c:Int),Zm l→a.length=k+l.length→sum.length=a.length+1→Zm sum→Zb (sum.drop k)=0→0≤c∧c≤1→
  Tn N a b l k sum c=some (Ze (Zb sum+4294967296 ^ k * (c.toNat+Zb l+Zb (b.drop k))))
 | [],k,sum,c,_,hk,hl,hL,hz,hc=>by
  have hk':k=a.length:=by simpa using hk.symm
  subst hk'
  rw [Tn.eq_1,Xb (by omega),Option.bind_some,Option.bind_some,Int.toNat_natCast,Vm (by omega),
   Tv (hL.set _ (by omega)) (by rw [List.length_set];omega) (by rw [List.length_set];omega),Option.bind_some]
  have h1:=U4 (l:=sum) (k:=a.length) (by omega) c
  have h2:=(drop_zero hL (by omega) hz).1
  rw [h2] at h1
  rw [Ye,List.drop_eq_nil_of_le (by omega),Ye]
  have h3:Zb (sum.set a.length c)=Zb sum+4294967296 ^ a.length * c.toNat:=by simpa using h1
  rw [h3];rfl
 | x :: l,k,sum,c,hx,hk,hl,hL,hz,hc=>by
  have hk1:a.length=k+1+l.length:=by rw [hk,List.length_cons];omega
  have h0:=hx.head
  have hz':=drop_zero hL (by omega) hz
  have hy:=Zb2 hb k
  have hsz:sum[k]'(by omega)=0:=hz'.1
  -- the sum of one place
  have step:∀ s:Int,s=c+x+(Xp b k:Int)→Zeg k sum (Tn N a b l) s=some (Ze (Zb sum+4294967296 ^ k * (c.toNat+Zb (x :: l)+Zb (b.drop k)))):=fun s hs'=>by
   rw [Zeg,Xb (by omega),Option.bind_some,Option.bind_some,Zi4,Int.toNat_natCast,Zc5]
   have hw:0≤u32.wrap s∧u32.wrap s<4294967296:=by rw [IntKind.wrap_u32];omega
   rw [Znn N a b ha hb hab hN hs l (k+1) _ _ hx.tail hk1 (by rw [List.length_set];exact hl) (hL.set _ hw) (by rw [Qo _ (by omega)];exact hz'.2) (by omega)]
   have h1:=U4 (l:=sum) (k:=k) (by omega) (u32.wrap s)
   rw [hsz] at h1
   rw [Nat.pow_succ,Yv,Uf b k]
   congr 2
   exact Zuu _ _ _ _ _ _ (u32.wrap s).toNat _ _ _ (by simpa using h1) (by rw [IntKind.wrap_u32];omega)
  rw [Tn.eq_2]
  have hcx:u64.wrap (c+u64.wrap x)=c+x:=by rw [Xe (x:=x) (by omega),Xe (by omega)]
  by_cases hkb:k<b.length
  ·have e:Xp b k=(b[k]).toNat:=by rw [Xp,List.getD_eq_getElem?_getD,List.getElem?_eq_getElem hkb,Option.getD_some]
   have:=hb.get hkb
   rw [if_pos (by simpa using hkb),Xb hkb,Option.bind_some,hcx,Xe (x:=b[k]) (by omega),Xe (by omega)]
   exact step _ (by omega)
  ·have e:Xp b k=0:=by rw [Xp,List.getD_eq_getElem?_getD,List.getElem?_eq_none (by omega)];rfl
   rw [if_neg (by simpa using hkb),hcx]
   exact step _ (by omega)
theorem Znm {N:Nat} {a b:List Int} (ha:Zm a) (hb:Zm b) (hab:b.length≤a.length) (hN:a.length+1<N) (hs:a.length<1099511627776):Zef N a b=some (Ze (Zb a+Zb b)):=by
 rw [Zef,Zy (by omega),Xd (by simp only [maxLen];omega),Znn N a b ha hb hab hN hs a 0 _ 0 ha (by omega) (by rw [List.length_replicate];omega) (.zeros _) (by rw [List.drop_zero];exact Tu _) (by omega),Tu,List.drop_zero]
 simp
theorem Zuv {N:Nat} {a b:List Int} (ha:Zm a) (hb:Zm b) (h1:a.length+1<N) (h2:b.length+1<N) (h3:a.length<1099511627776) (h4:b.length<1099511627776):Zgf N a b=some (Ze (Zb a+Zb b)):=by
 have la:=Ym ha
 have lb:=Ym hb
 rw [Zgf,T0 ha (by omega) (by omega),Option.bind_some,T0 hb (by omega) (by omega),Option.bind_some]
 by_cases h:(Ze (Zb a)).length<(Ze (Zb b)).length
 ·rw [if_pos (by simpa using h),Znm (Z5 _) (Z5 _) (by omega) (by omega) (by omega),Z1,Z1,Nat.add_comm]
 ·rw [if_neg (by simpa using h),Znm (Z5 _) (Z5 _) (by omega) (by omega) (by omega),Z1,Z1]
theorem Zqh (N:Nat) (a b:List Int) (ha:Zm a) (hb:Zm b) (hs:a.length<1099511627776):∀ (n k:Nat) (r:List Int) (c:Int),k≤a.length→a.length<n+k→r.length=a.length→Zm r→0≤c∧c≤1→r.drop k=a.drop k→
  4294967296 ^ k * (c.toNat+Zb (b.drop k))≤4294967296 ^ k * Zb (a.drop k)→
  ∃ r',U2 N a b n r c (k:Int)=some r'∧r'.length=a.length∧Zm r'∧Zb r'+4294967296 ^ k * (c.toNat+Zb (b.drop k))=Zb r
 | 0,k,r,c,hk,hn,_,_,_,_,_=>by omega
 | n+1,k,r,c,hk,hn,hl,hr,hc,he,hle=>by
  have hQ:0<4294967296 ^ k:=Nat.pow_pos (by decide)
  have hle':c.toNat+Zb (b.drop k)≤Zb (a.drop k):=Nat.le_of_mul_le_mul_left hle hQ
  rw [U2.eq_2]
  by_cases h0:k<a.length
  ·have ga:=ha.get h0
   have hrk:r[k]'(by omega)=a[k]:=by
    have:(r.drop k)[0]'(by simp;omega)=(a.drop k)[0]'(by simp;omega):=by simp only [he]
    simpa using this
   have hy:=Zb2 hb k
   rw [Uf b k,Vs h0] at hle'
   have step:∀ t:Int,t=c+(Xp b k:Int)→∃ r',Zel r (k:Int) (U2 N a b n) t=some r'∧r'.length=a.length∧Zm r'∧Zb r'+4294967296 ^ k * (c.toNat+Zb (b.drop k))=Zb r:=fun t ht=>by
    have hw:0≤u32.wrap (a[k] - u32.wrap t)∧u32.wrap (a[k] - u32.wrap t)<4294967296:=by rw [IntKind.wrap_u32];omega
    have fin:∀ c':Int,0≤c'∧c'≤1→a[k]+4294967296 * c'=t+u32.wrap (a[k] - u32.wrap t)→∃ r',Zem r (k:Int) (U2 N a b n) t c'=some r'∧r'.length=a.length∧Zm r'∧Zb r'+4294967296 ^ k * (c.toNat+Zb (b.drop k))=Zb r:=fun c' hc' hv=>by
     rw [Zem,Xb (by omega),Option.bind_some,Option.bind_some,Zi8,hrk,Zy (by omega),Int.toNat_natCast]
     obtain ⟨r',q1,q2,q3,q4⟩:=Zqh N a b ha hb hs n (k+1) (r.set k (u32.wrap (a[k] - u32.wrap t))) c' (by omega) (by omega) (by rw [List.length_set];exact hl) (hr.set _ hw) hc' (by
      rw [Qo _ (by omega)]
      have:=congrArg (List.drop 1) he
      simpa [List.drop_drop,Nat.add_comm] using this) (Nat.mul_le_mul_left _ (by omega))
     refine ⟨r',q1,q2,q3,?_⟩
     have h1:=U4 (l:=r) (k:=k) (by omega) (u32.wrap (a[k] - u32.wrap t))
     rw [hrk] at h1
     rw [Uf b k]
     rw [Nat.pow_succ] at q4
     have hv':(a[k]).toNat+4294967296 * c'.toNat=c.toNat+Xp b k+(u32.wrap (a[k] - u32.wrap t)).toNat:=by omega
     have hv2:4294967296 ^ k * ((a[k]).toNat+4294967296 * c'.toNat)=4294967296 ^ k * (c.toNat+Xp b k+(u32.wrap (a[k] - u32.wrap t)).toNat):=by rw [hv']
     grind
    rw [Zel,Xb (by omega),Option.bind_some,hrk,Xe (x:=a[k]) (by omega)]
    by_cases hlt:a[k]<t
    ·rw [if_pos (by simpa using hlt)]
     exact fin 1 (by omega) (by rw [IntKind.wrap_u32,IntKind.wrap_u32];omega)
    ·rw [if_neg (by simpa using hlt)]
     exact fin 0 (by omega) (by rw [IntKind.wrap_u32,IntKind.wrap_u32];omega)
   rw [if_pos (by simpa using h0)]
   by_cases hkb:k<b.length
   ·have e:Xp b k=(b[k]).toNat:=by rw [Xp,List.getD_eq_getElem?_getD,List.getElem?_eq_getElem hkb,Option.getD_some]
    have:=hb.get hkb
    rw [if_pos (by simpa using hkb),Xb hkb,Option.bind_some,Xe (x:=b[k]) (by omega),Xe (by omega)]
    exact step _ (by omega)
   ·have e:Xp b k=0:=by rw [Xp,List.getD_eq_getElem?_getD,List.getElem?_eq_none (by omega)];rfl
    rw [if_neg (by simpa using hkb)]
    exact step _ (by omega)
  ·rw [if_neg (by simpa using h0)]
   rw [List.drop_eq_nil_of_le (show a.length≤k by omega),Ye] at hle'
   exact ⟨r,rfl,hl,hr,by rw [show c.toNat+Zb (b.drop k)=0 by omega];simp⟩
theorem Ztw {N:Nat} {a b:List Int} (ha:Zm a) (hb:Zm b) (h1:a.length+1<N) (h2:b.length+1<N) (h3:a.length<1099511627776) (h4:b.length<1099511627776):
  Zei N a b=some (if Zb a<Zb b then ([],false) else (Ze (Zb a - Zb b),true)):=by
 have la:=Ym ha
 have lb:=Ym hb
 rw [Zei,Zla ha hb (by omega) (by omega) (by omega) (by omega),Option.bind_some]
 by_cases h:Zb a<Zb b
 ·rw [if_pos h,if_pos (by decide),if_pos h]
 ·rw [if_neg h,if_neg (by split <;> decide),if_neg h,T0 ha (by omega) (by omega),Option.bind_some,Zk8 (by omega),Option.bind_some,T0 hb (by omega) (by omega),Option.bind_some,Zi7]
  obtain ⟨r',q1,q2,q3,q4⟩:=Zqh N (Ze (Zb a)) (Ze (Zb b)) (Z5 _) (Z5 _) (by omega) N 0 (Ze (Zb a)) 0 (by omega) (by omega) rfl (Z5 _) (by omega) rfl (by simp [Z1];omega)
  rw [show ((0:Nat):Int)=0 from rfl] at q1
  rw [q1,Option.bind_some,Tv q3 (by omega) (by omega),Option.bind_some]
  simp [Z1] at q4
  congr 3
  omega
theorem Zza (P P' Q c x y e v c' L:Nat) (h1:P'+Q * e=P+Q * v) (h2:c+(x * y+e)=v+4294967296 * c'):P'+Q * 4294967296 * (c'+x * L)=P+Q * (c+x * (y+4294967296 * L)):=by
 have:Q * (c+(x * y+e))=Q * (v+4294967296 * c'):=by rw [h2]
 grind
theorem Zq6 (b:List Int) (hb:Zm b) (i:Nat) (kk:Nat→List Int→Option R2) (x:Int) (hx:0≤x∧x<4294967296):∀ (l:List Int) (j:Nat) (p:List Int) (c:Int),Zm l→j+l.length=b.length→i+b.length<p.length→p.length<4611686018427387904→Zm p→0≤c∧c<4294967296→Zb (p.drop (i+b.length))=0→
  ∃ p',Zba b i kk x l j p c=kk (i+1) p'∧p'.length=p.length∧Zm p'∧Zb p'=Zb p+4294967296 ^ (i+j) * (c.toNat+x.toNat * Zb l)∧Zb (p'.drop (i+b.length+1))=0
 | [],j,p,c,_,hj,hp,hs,hL,hc,hz=>by
  have hj':j=b.length:=by simpa using hj
  subst hj'
  have hz':=drop_zero hL hp hz
  rw [Zba.eq_1,Zy (by omega),show (i:Int)+(b.length:Int)=((i+b.length:Nat):Int) by omega,Xb hp,Option.bind_some,Option.bind_some,Int.toNat_natCast,Vm hc]
  refine ⟨_,rfl,by rw [List.length_set],hL.set _ hc,?_,?_⟩
  ·have h1:=U4 hp c
   rw [hz'.1] at h1
   rw [Ye,Nat.mul_zero,Nat.add_zero]
   simpa using h1
  ·rw [Qo _ (by omega)];exact hz'.2
 | y :: l,j,p,c,hl,hj,hp,hs,hL,hc,hz=>by
  have hy:=hl.head
  have hj1:j+1+l.length=b.length:=by rw [← hj,List.length_cons];omega
  have hij:i+j<p.length:=by omega
  have hg:=hL.get hij
  have hm:x * y≤4294967295 * 4294967295:=Int.mul_le_mul (by omega) (by omega) (by omega) (by omega)
  have hm0:0≤x * y:=Int.mul_nonneg hx.1 hy.1
  rw [Zba.eq_2,Zy (by omega),show (i:Int)+(j:Int)=((i+j:Nat):Int) by omega,Xb hij,Option.bind_some,Option.bind_some,Int.toNat_natCast,Xe (x:=x) (by omega),Xe (x:=y) (by omega),Xe (x:=p[i+j]) (by omega),Xe (x:=x * y) (by omega),Xe (x:=x * y+p[i+j]) (by omega),Xe (by omega),Zc5]
  generalize hs':c+(x * y+p[i+j])=s
  have hw:0≤u32.wrap s∧u32.wrap s<4294967296:=by rw [IntKind.wrap_u32];omega
  obtain ⟨p',q1,q2,q3,q4,q5⟩:=Zq6 b hb i kk x hx l (j+1) (p.set (i+j) (u32.wrap s)) (s / 4294967296) hl.tail hj1 (by rw [List.length_set];exact hp) (by rw [List.length_set];exact hs) (hL.set _ hw) (by omega) (by rw [Qo _ (by omega)];exact hz)
  refine ⟨p',q1,by rw [q2,List.length_set],q3,?_,q5⟩
  rw [q4,← Nat.add_assoc i j 1,Nat.pow_succ,Yv]
  refine Zza _ _ _ _ _ _ (p[i+j]).toNat (u32.wrap s).toNat _ _ (U4 hij _) ?_
  rw [IntKind.wrap_u32]
  have e1:((x.toNat * y.toNat:Nat):Int)=x * y:=by rw [Int.natCast_mul,Int.toNat_of_nonneg hx.1,Int.toNat_of_nonneg hy.1]
  omega
theorem Zq5 (N:Nat) (b:List Int) (hb:Zm b):∀ (l:List Int) (i:Nat) (p:List Int),Zm l→p.length=i+l.length+b.length→p.length<N→p.length<1099511627776→Zm p→Zb (p.drop (i+b.length))=0→
  Qb N b l i p=some (Ze (Zb p+4294967296 ^ i * (Zb l * Zb b)))
 | [],i,p,_,hl,hn,hs,hp,hz=>by
  rw [Qb.eq_1,Tv hp hn (by omega),Option.bind_some,Ye];simp
 | x :: l,i,p,hx,hl,hn,hs,hp,hz=>by
  rw [List.length_cons] at hl
  obtain ⟨p',q1,q2,q3,q4,q5⟩:=Zq6 b hb i (Qb N b l) x hx.head b 0 p 0 hb (by omega) (by omega) (by omega) hp (by omega) hz
  rw [Qb.eq_2,q1,Zq5 N b hb l (i+1) p' hx.tail (by omega) (by omega) (by omega) q3 (by rw [show i+1+b.length=i+b.length+1 by omega];exact q5),q4,Yv,Nat.pow_succ]
  congr 2
  simp only [Nat.add_zero,Int.toNat_zero,Nat.zero_add]
  grind
theorem Zmf {N:Nat} {a b:List Int} (ha:Zm a) (hb:Zm b) (h1:a.length+b.length<N) (h3:a.length+b.length<1099511627776):Sc N a b=some (Ze (Zb a * Zb b)):=by
 have la:=Ym ha
 have lb:=Ym hb
 rw [Sc,T0 ha (by omega) (by omega),Option.bind_some,T0 hb (by omega) (by omega),Option.bind_some,Zy (by omega),Xd (by simp only [maxLen];omega),
  Zq5 N _ (Z5 _) _ 0 _ (Z5 _) (by rw [List.length_replicate];omega) (by rw [List.length_replicate];omega) (by rw [List.length_replicate];omega) (.zeros _) (by
   rw [List.drop_replicate];exact Tu _),Tu,Z1,Z1]
 simp
def Zcm (N:Nat) (aa:Int):Nat→R2→Int→Int→Option R5
  | 0,_,_,_=>none
  | af+1,ac,ad,ab=>if (decide (0≤ab))=true then ((Zn ac ab).bind fun ae=>Zw ((u64.wrap aa)≠0) ((some (ac.set (Int.toNat ab) (u32.wrap (u64.wrap (Int.tdiv (Yn .u64 (Xt .u64 ad 32) (u64.wrap ae)) (u64.wrap aa)))))).bind fun ag=>Zw ((u64.wrap aa)≠0) ((Zcm N aa af) ag (Int.tmod (Yn .u64 (Xt .u64 ad 32) (u64.wrap ae)) (u64.wrap aa)) (i64.wrap (ab - 1))))) else (some (u32.wrap ad,ac))
termination_by structural x=>x
def Zen (N:Nat) (aa:List Int) (ab:Int):Option R5:=
  Zcm N ab N aa 0 (i64.wrap ((aa.length:Int) - 1))
theorem Zn3 {N ad:Nat} {a0:Option Addr} {col:Zd} {w0:World} {ae:R2} {ab:Int} {r:R5} (qc0:Nat) (hm:Zen N ae ab=some r) (hd:Uz [qc0]=true) (h0:Zc (Za.int .u32) 79 qc0 col w0 a0 ad ae):
    Calls Tryz.prog 283 #[.slice a0 ae.length ad,.int .u32 ab] w0 (fun e w'=>∃ (col':Zd),e= .returned ((.int .u32 r.1))∧Zt (pS [qc0]) col w0 col' w'∧Zc (Za.int .u32) 79 qc0 col' w' a0 ad r.2∧r.2.length=ae.length):=by
 refine Xc 4 (m:=36) func283 rfl rfl rfl rfl rfl ?_;rw [Zen.eq_1] at hm;have af:=St.startL (l:=[qc0]) rfl col w0;replace h0:=h0.startL (Qq hd 0 rfl) (Qp hd 0 rfl);refine go ?_;refine Z2 [1,1000000] (fun n f an=>∃ ao ac aa am ag,ag=n∧Zcm N ab ag ac aa am=some r∧St w0 (Xl [qc0] col) ao an∧Zc (Za.int .u32) 79 440 ao an a0 ad ac∧ac.length=ae.length∧ac.length=ae.length∧[0,5,6].map f=[.slice a0 ac.length ad,.int .u64 aa,.int .i64 am]) N ⟨_,_,0,_,_,rfl,hm,af,h0,rfl,rfl,rfl⟩ ?_;clear hm;intro n f an hI;obtain ⟨ao,ac,aa,am,ag,hn,hm,af,aj,ar,au,hs⟩:=hI;subst hn;refine .lL [0,5,6] hs ?_
 cases ag with
 | zero=>rw [Zcm.eq_1] at hm;cases hm
 | succ ag=>
  rw [Zcm.eq_2] at hm;refine go ?_;refine Zo hm (fun hb hm=>go ?_) fun hb hm=>go ?_
  ·refine lV (.int .u64 (Xt .u64 aa 32)) (Zc4 aa 32 rfl rfl (by decide))<|go ?_;obtain ⟨ah,ai,hm⟩:=bZ hm;refine lI ai (aj.addr ai)<|lW (aj.atInt ai) ?_;refine go ?_;obtain ⟨av,hm⟩:=Z0 hm;refine lV (.int .u64 (u64.wrap (Int.tdiv (Yn .u64 (Xt .u64 aa 32) (u64.wrap ah)) (u64.wrap ab)))) (Vl (Yn .u64 (Xt .u64 aa 32) (u64.wrap ah)) (u64.wrap ab) rfl rfl av)<|go ?_;refine lI ai (aj.addr ai) ?_;obtain ⟨ak,al,hm⟩:=bZ hm;have al:ak=ac.set (Int.toNat am) (u32.wrap (u64.wrap (Int.tdiv (Yn .u64 (Xt .u64 aa 32) (u64.wrap ah)) (u64.wrap ab)))):=(Option.some.inj al).symm;refine Y2 (x1:=u32.wrap (u64.wrap (Int.tdiv (Yn .u64 (Xt .u64 aa 32) (u64.wrap ah)) (u64.wrap ab)))) aj ai ?_;intro az aw ax ap;rw [← al] at ap;have aq:ak.length=ae.length:=(show ac.length=ak.length by rw [al,List.length_set]).symm.trans ar;refine .ld (d:=0) (v:=(.slice a0 ak.length ad)) (congrArg (fun n=>Value.slice a0 n ad) (show ac.length=ak.length by rw [al,List.length_set])) ?_;refine go ?_;obtain ⟨ay,hm⟩:=Z0 hm;refine lV (.int .u64 (Int.tmod (Yn .u64 (Xt .u64 aa 32) (u64.wrap ah)) (u64.wrap ab))) (Tw (Yn .u64 (Xt .u64 aa 32) (u64.wrap ah)) (u64.wrap ab) rfl rfl ay)<|go ?_;replace af:=af.kp aw ax;exact ⟨ag,by omega,rfl,⟨_,_,_,_,_,rfl,hm,af,ap,aq,aq,rfl⟩⟩
  cases hm;exact ⟨rfl,_,rfl,af.finL rfl (cm [(440,qc0)]),af.foL aj,au⟩
def Zcb (aa:Int) (ab:Int):Option Int:=
  (Zh6 (⟨#[0,1,2,2,3,3,3,3,4,4,4,4,4,4,4,4,5,5,5,5,5,5,5,5,5,5,5,5,5,5,5,5,6,6,6,6,6,6,6,6,6,6,6,6,6,6,6,6,6,6,6,6,6,6,6,6,6,6,6,6,6,6,6,6,7,7,7,7,7,7,7,7,7,7,7,7,7,7,7,7,7,7,7,7,7,7,7,7,7,7,7,7,7,7,7,7,7,7,7,7,7,7,7,7,7,7,7,7,7,7,7,7,7,7,7,7,7,7,7,7,7,7,7,7,7,7,7,7,8,8,8,8,8,8,8,8,8,8,8,8,8,8,8,8,8,8,8,8,8,8,8,8,8,8,8,8,8,8,8,8,8,8,8,8,8,8,8,8,8,8,8,8,8,8,8,8,8,8,8,8,8,8,8,8,8,8,8,8,8,8,8,8,8,8,8,8,8,8,8,8,8,8,8,8,8,8,8,8,8,8,8,8,8,8,8,8,8,8,8,8,8,8,8,8,8,8,8,8,8,8,8,8,8,8,8,8,8,8,8,8,8,8,8,8,8,8,8,8,8,8,8,8,8,8,8,8]⟩) (u8.wrap aa)).bind fun ac=>some (i64.wrap (ab+(i64.wrap ac)))
def Zd7 (aa:Int) (ab:Int):Option Int:=
  if (decide (256≤aa))=true then (Zcb (X8 .u32 aa 8) (i64.wrap (ab+8))) else (Zcb aa ab)
def Zd6 (aa:Int):Option Int:=
  if (decide (65536≤aa))=true then (Zd7 (X8 .u32 aa 16) 16) else (Zd7 aa 0)
theorem Znx {col:Zd} {w0:World} {ac r:Int} (hm:Zd6 ac=some r):
    Calls Tryz.prog 232 #[.int .u32 ac] w0 (fun e w'=>e= .returned ((.int .i64 r))∧Below w0.heap.size w0 w'):=by
 refine Xc 2 (m:=19) func232 rfl rfl rfl rfl rfl ?_;rw [Zd6.eq_1] at hm;have aa:=St.start col w0;refine Zu<|Wn<|Yk rfl<|Zl<|Zu ?_;refine Wp.cutK [1000000] (fun f ag=>∃ ah ab ad,Zd7 ab ad=some r∧St w0 (Zi col) ah ag∧[0,2].map f=[.int .u32 ab,.int .i64 ad]) ?_ ?_
 ·intro f ag hJ;obtain ⟨ah,ab,ad,hm,aa,hs⟩:=hJ;rw [Zd7.eq_1] at hm;refine .lL [0,2] hs<|Zu ?_;refine Wp.cutK [1000000] (fun f ai=>∃ aj ae af,Zcb ae af=some r∧St w0 (Zi col) aj ai∧[0,2].map f=[.int .u32 ae,.int .i64 af]) ?_ ?_
  ·intro f ai hJ;obtain ⟨aj,ae,af,hm,aa,hs⟩:=hJ;rw [Zcb.eq_1] at hm;refine .lL [0,2] hs<|go ?_;obtain ⟨ak,al,hm⟩:=bZ hm;refine lV (.int .u8 ak) (Z0h (s:=(⟨#[0,1,2,2,3,3,3,3,4,4,4,4,4,4,4,4,5,5,5,5,5,5,5,5,5,5,5,5,5,5,5,5,6,6,6,6,6,6,6,6,6,6,6,6,6,6,6,6,6,6,6,6,6,6,6,6,6,6,6,6,6,6,6,6,7,7,7,7,7,7,7,7,7,7,7,7,7,7,7,7,7,7,7,7,7,7,7,7,7,7,7,7,7,7,7,7,7,7,7,7,7,7,7,7,7,7,7,7,7,7,7,7,7,7,7,7,7,7,7,7,7,7,7,7,7,7,7,7,8,8,8,8,8,8,8,8,8,8,8,8,8,8,8,8,8,8,8,8,8,8,8,8,8,8,8,8,8,8,8,8,8,8,8,8,8,8,8,8,8,8,8,8,8,8,8,8,8,8,8,8,8,8,8,8,8,8,8,8,8,8,8,8,8,8,8,8,8,8,8,8,8,8,8,8,8,8,8,8,8,8,8,8,8,8,8,8,8,8,8,8,8,8,8,8,8,8,8,8,8,8,8,8,8,8,8,8,8,8,8,8,8,8,8,8,8,8,8,8,8,8,8,8,8,8,8,8]⟩)) underlying9 rfl rfl al)<|go ?_;cases hm;exact ⟨rfl,rfl,aa.below⟩
  refine go ?_;refine Zo hm (fun hb hm=>go ?_) fun hb hm=>?_
  ·refine lV (.int .u32 (X8 .u32 ab 8)) (Tx ab 8 rfl rfl (by decide))<|go ?_;exact ⟨rfl,_,_,_,hm,aa,rfl⟩
  refine X7 ?_;exact ⟨rfl,_,_,_,hm,aa,rfl⟩
 refine go ?_;refine Zo hm (fun hb hm=>go ?_) fun hb hm=>?_
 ·refine lV (.int .u32 (X8 .u32 ac 16)) (Tx ac 16 rfl rfl (by decide))<|go ?_;exact ⟨rfl,_,_,16,hm,aa,rfl⟩
 refine X7 ?_;exact ⟨rfl,_,_,0,hm,aa,rfl⟩
def Zgb (aa:Int):Option Int:=
  (Zd6 aa).bind fun ab=>some (i64.wrap (32 - ab))
theorem Zvl {col:Zd} {w0:World} {ac r:Int} (hm:Zgb ac=some r):
    Calls Tryz.prog 287 #[.int .u32 ac] w0 (fun e w'=>e= .returned ((.int .i64 r))∧Below w0.heap.size w0 w'):=by
 refine Xc 2 (m:=6) func287 rfl rfl rfl rfl rfl ?_;rw [Zgb.eq_1] at hm;have aa:=St.start col w0;refine go ?_;obtain ⟨af,ad,hm⟩:=bZ hm;refine Zg (Znx (col:=(Zi col)) ad) ?_;rintro _ ae ⟨rfl,ab⟩;refine ⟨_,rfl,?_⟩;replace ab:Zf (Zi col) w0 (Zi col) ae:=.of_below ab;refine go ?_;cases hm;replace aa:=aa.grow ab;exact ⟨rfl,rfl,aa.below⟩
def Zbc (ab:Int):List Int→Nat→R2→Option R2
  | [],aa,ac=>some ac
  | ad :: af,aa,ac=>(Zn ac (aa:Int)).bind fun ag=>Zw (0≤ab) ((some (ac.set (Int.toNat (aa:Int)) (Yn .u32 ag (Xt .u32 ad ab)))).bind fun ae=>Zw (0≤ab) ((Zn ae (i64.wrap ((aa:Int)+1))).bind fun ai=>(some (ae.set (Int.toNat (i64.wrap ((aa:Int)+1))) (u32.wrap (X8 .u64 (Xt .u64 (u64.wrap ad) ab) 32)))).bind fun ah=>(Zbc ab af) (aa+1) ah))
termination_by structural x=>x
def Zek (aa:List Int) (ab:Int):Option R2:=
  Zw ((Int.toNat (i64.wrap ((aa.length:Int)+1))) * 4≤281474976710656∧(Int.toNat (i64.wrap ((aa.length:Int)+1)))≤maxLen∧0≤(i64.wrap ((aa.length:Int)+1))) (Zbc ab aa 0 (List.replicate (Int.toNat (i64.wrap ((aa.length:Int)+1))) (0:Int)))
theorem Zn2 {ay:Nat} {a0:Option Addr} {col:Zd} {w0:World} {ad:R2} {aa:Int} {r:R2} (c1:Nat) (hm:Zek ad aa=some r) (h0:Sl (Za.int .u32) col w0 a0 ay ad):
    Calls Tryz.prog 277 #[.slice a0 ad.length ay,.int .i64 aa] w0 (fun e w'=>∃ (col':Zd) (ra1:Option Addr) (rc2:Nat),e= .returned ((.slice ra1 r.length rc2))∧Zf col w0 col' w'∧Zc (Za.int .u32) 79 c1 col' w' ra1 rc2 r):=by
 refine Xc 4 (m:=40) func277 rfl rfl rfl rfl rfl ?_;rw [Zek.eq_1] at hm;have ab:=St.start col w0;refine go ?_;obtain ⟨ao,hm⟩:=Z0 hm;refine Sx (col:=(Zi col)) (w:=w0) (r:=(Za.int .u32)) (n:=(Int.toNat (i64.wrap ((ad.length:Int)+1)))) (x0:=0) 1 rfl underlying43 Tryz.t79 rfl rfl rfl rfl rfl (congrArg (Value.int _) (Int.toNat_of_nonneg ao.2.2).symm) (congrArg (Value.int _) (Int.toNat_of_nonneg ao.2.2).symm) ao.1 ao.2.1 (V5 .u32 0) ?_;intro bc bd be a1 a2;refine go ?_;replace ab:=ab.grow a1;refine Z2 [1,12,13,1000000] (fun n f au=>∃ ae af ah ai ak al,n=al.length∧ad.drop af=al∧Zbc aa al af ak=some r∧St w0 (Zi col) ae au∧Zc (Za.int .u32) 79 1 ae au ah ai ak∧[14,5].map f=[.int .i64 af,.slice ah ak.length ai]) ad.length ⟨_,0,_,_,_,_,rfl,rfl,hm,ab,a2,rfl⟩ ?_;clear hm;intro n f au hI;obtain ⟨ae,af,ah,ai,ak,al,hn,hl,hm,ab,aj,hs⟩:=hI;subst hn;refine .lL [14,5] hs ?_;replace h0:=h0.keep (Zk.start col w0)
 cases al with
 | nil=>
  have hk:¬ ((af:Int)<(ad.length:Int)):=by have:=List.drop_eq_nil_iff.1 hl;omega
  have hkb:=decide_eq_false hk;rw [Zbc.eq_1] at hm;refine go ?_;refine Xv (congrArg Value.bool hkb)<|go ?_;cases hm;exact ⟨rfl,_,_,_,rfl,ab.fin (cm [(1,c1)]),ab.fo aj⟩
 | cons ac a3=>
  obtain ⟨av,a4,a5⟩:=Yc hl;have hk:(af:Int)<(ad.length:Int):=by omega
  have hkb:=decide_eq_true hk;rw [Zbc.eq_2] at hm;refine go ?_;refine Xz (congrArg Value.bool hkb)<|go ?_;refine lI av ((h0.ks ab).addr av)<|lW ((h0.ks ab).atInt av) ?_;refine go ?_;refine Wi (col:=ae) [(0,1),(1,1),(2,1),(3,0),(4,1),(5,1),(6,1),(7,1),(8,1),(9,2)] (by kernel_rfl) (by kernel_rfl)<|xu rfl rfl (fun _=>Ve rfl) ?_;refine xu rfl rfl (fun _=>Y4 rfl) ?_;obtain ⟨ap,ag,hm⟩:=bZ hm;refine xu rfl rfl (fun _=>Y3 underlying43 sizeOf79 rfl rfl (Xg ag).1 (Xg ag).2.1 (aj.addr ag)) ?_;refine xW (fun _ hC=>(aj.gr (hC.bl ae)).atInt ag) ?_;refine xu rfl rfl (fun _=>Y4 rfl) ?_;refine xu rfl rfl (fun _=>Y4 rfl) ?_;obtain ⟨a6,hm⟩:=Z0 hm;refine xu (v:=(.int .u32 (Xt .u32 ac aa))) rfl rfl (fun _=>Zc4 ac aa rfl rfl a6) ?_;refine xu (v:=(.int .u32 (Yn .u32 ap (Xt .u32 ac aa)))) rfl rfl (fun _=>Zm0 ap (Xt .u32 ac aa) rfl rfl) ?_;refine xu rfl rfl (fun _=>Y3 underlying43 sizeOf79 rfl rfl (Xg ag).1 (Xg ag).2.1 (aj.addr ag)) ?_;refine xe rfl rfl ?_;intro bf hC0;have hC:=hC0.bl ae;obtain ⟨am,aq,hm⟩:=bZ hm;have aq:am=ak.set (Int.toNat (af:Int)) (Yn .u32 ap (Xt .u32 ac aa)):=(Option.some.inj aq).symm;replace aj:=aj.gr hC;refine Y2 (x1:=Yn .u32 ap (Xt .u32 ac aa)) aj ag ?_;intro bg a7 a8 an;rw [← aq] at an;refine .ld (d:=5) (v:=(.slice ah am.length ai)) (congrArg (fun n=>Value.slice ah n ai) (show ak.length=am.length by rw [aq,List.length_set])) ?_;refine Zl<|xk ae<|Y5 ?_;replace ab:=(ab.grow hC).kp a7 a8;intro bh hC;replace hC:=hC.bl ae;refine go ?_;obtain ⟨a9,hm⟩:=Z0 hm;refine lV (.int .u64 (Xt .u64 (u64.wrap ac) aa)) (Zc4 (u64.wrap ac) aa rfl rfl a9)<|lV (.int .u64 (X8 .u64 (Xt .u64 (u64.wrap ac) aa) 32)) (Tx (Xt .u64 (u64.wrap ac) aa) 32 rfl rfl (by decide))<|go ?_;obtain ⟨bi,aw,hm⟩:=bZ hm;replace an:=an.gr hC;refine lI aw (an.addr aw) ?_;obtain ⟨ax,ar,hm⟩:=bZ hm;have ar:ax=am.set (Int.toNat (i64.wrap ((af:Int)+1))) (u32.wrap (X8 .u64 (Xt .u64 (u64.wrap ac) aa) 32)):=(Option.some.inj ar).symm;refine Y2 (x1:=u32.wrap (X8 .u64 (Xt .u64 (u64.wrap ac) aa) 32)) an aw ?_;intro bj ba bb az;rw [← ar] at az;refine .ld (d:=5) (v:=(.slice ah ax.length ai)) (congrArg (fun n=>Value.slice ah n ai) (show am.length=ax.length by rw [ar,List.length_set])) ?_;refine go ?_;replace ab:=(ab.grow hC).kp ba bb
  exact ⟨a3.length,by simp,rfl,⟨_,_,_,_,_,_,rfl,a4,hm,ab,az,(Yg (congrArg (Value.int .i64) (Yf (Nat.lt_of_lt_of_le a5 (h0.ks ab).1.1))) rfl)⟩⟩
def Zgo (aa:List Int) (kk_L1:(List Int→Option R2)) (ab:Bool):Option R2:=
  if ab=true then (Zw ((0:Int)≤(i64.wrap ((aa.length:Int) - 1))∧(i64.wrap ((aa.length:Int) - 1))≤(aa.length:Int)) (kk_L1 (aa.take (Int.toNat (i64.wrap ((aa.length:Int) - 1)))))) else (some aa)
def Zaa (N:Nat):Nat→R2→Option R2
  | 0,_=>none
  | ab+1,aa=>if (decide (0<(aa.length:Int)))=true then ((Zn aa (i64.wrap ((aa.length:Int) - 1))).bind fun ac=>Zgo aa (Zaa N ab) (decide (ac=0))) else (Zgo aa (Zaa N ab) false)
termination_by structural x=>x
def Zbd (N:Nat) (aa:List Int):Option R2:=
  Zaa N N aa
theorem Zk1 {N ap:Nat} {a0:Option Addr} {col:Zd} {w0:World} {ag r:R2} (qc0:Nat) (hm:Zbd N ag=some r) (hd:Uz [qc0]=true) (h0:Zc (Za.int .u32) 79 qc0 col w0 a0 ap ag):
    Calls Tryz.prog 217 #[.slice a0 ag.length ap] w0 (fun e w'=>∃ (col':Zd) (ra1:Option Addr) (rc2:Nat),e= .returned ((.slice ra1 r.length rc2))∧Zt (pS [qc0]) col w0 col' w'∧Zc (Za.int .u32) 79 qc0 col' w' ra1 rc2 r):=by
 refine Xc 2 (m:=21) func217 rfl rfl rfl rfl rfl ?_;rw [Zbd.eq_1] at hm;have ab:=St.startL (l:=[qc0]) rfl col w0;replace h0:=h0.startL (Qq hd 0 rfl) (Qp hd 0 rfl);refine go ?_;refine Z2 [1000000] (fun n f ah=>∃ ai ad ae aa af,af=n∧Zaa N af aa=some r∧St w0 (Xl [qc0] col) ai ah∧Zc (Za.int .u32) 79 440 ai ah ad ae aa∧[0].map f=[.slice ad aa.length ae]) N ⟨_,_,_,_,_,rfl,hm,ab,h0,rfl⟩ ?_;clear hm;intro n f ah hI;obtain ⟨ai,ad,ae,aa,af,hn,hm,ab,ac,hs⟩:=hI;subst hn;refine .lL [0] hs ?_
 cases af with
 | zero=>rw [Zaa.eq_1] at hm;cases hm
 | succ af=>
  rw [Zaa.eq_2] at hm;refine Zu<|Zu ?_;refine Wp.cutK [0,1000000] (fun f aj=>∃ ak al,Zgo aa (Zaa N af) al=some r∧St w0 (Xl [qc0] col) ak aj∧Zc (Za.int .u32) 79 440 ak aj ad ae aa∧[14].map f=[.bool al]) ?_ ?_
  ·intro f aj hJ;obtain ⟨ak,al,hm,ab,ac,hs⟩:=hJ;rw [Zgo.eq_1] at hm;refine .lL [14] hs ?_;refine Zo hm (fun hb hm=>go ?_) fun hb hm=>go ?_
   ·obtain ⟨am,hm⟩:=Z0 hm;refine lv (v:=.slice ad (Int.toNat (i64.wrap ((aa.length:Int) - 1))) ae) rfl rfl (Zhp underlying43 sizeOf79 rfl rfl am.1 (by have:=ac.lecap;have:=am.2;omega))<|.ld (d:=19) (v:=(.slice ad ((aa.take (Int.toNat (i64.wrap ((aa.length:Int) - 1)))).length) ae)) (congrArg (fun n=>Value.slice ad n ae) (List.length_take_of_le (show (Int.toNat (i64.wrap ((aa.length:Int) - 1)))≤aa.length by have:=am.2;omega)).symm) ?_;refine go ?_;exact ⟨af,by omega,rfl,⟨_,_,_,_,_,rfl,hm,ab,(ac.take (Int.toNat (i64.wrap ((aa.length:Int) - 1)))),rfl⟩⟩
   cases hm;exact ⟨rfl,_,_,_,rfl,ab.finL rfl (cm [(440,qc0)]),ab.foL ac⟩
  refine go ?_;refine X5 hm (fun an hm=>go ?_) fun an hm=>go ?_
  ·obtain ⟨aq,ao,hm⟩:=bZ hm;refine lI ao (ac.addr ao) ?_;refine go ?_;refine lW (ac.atInt ao)<|go ?_;refine lV (.bool (decide (aq=0))) (Xq (congrArg Value.bool an) rfl)<|Zl ?_;exact ⟨rfl,_,_,hm,ab,ac,rfl⟩
  refine lV (.bool false) (Xk (congrArg Value.bool an) rfl)<|Zl ?_;exact ⟨rfl,_,_,hm,ab,ac,rfl⟩
def Zgl (aa:Int) (ab:List Int):Option R5:=
  some (u32.wrap aa,ab)
def Zbb (j0:Nat) (n0:Nat) (ab:List Int) (ae:Int):List Int→Nat→R2→Int→Option R5
  | [],aa,ac,ad=>Zw (0≤(ab.length:Int)∧(ab.length:Int)<(n0:Int)) ((Zn ac ((j0:Int)+(ab.length:Int))).bind fun ah=>Zw (0≤(ab.length:Int)∧(ab.length:Int)<(n0:Int)) ((Zn ac ((j0:Int)+(ab.length:Int))).bind fun al=>(some (ac.set (Int.toNat ((j0:Int)+(ab.length:Int))) (u32.wrap (ah+(u32.wrap ad))))).bind fun ai=>Zgl (u64.wrap ((u64.wrap (ae - 1)) - 1)) ai))
  | af :: aj,aa,ac,ad=>Zw (0≤(aa:Int)∧(aa:Int)<(n0:Int)) ((Zn ac ((j0:Int)+(aa:Int))).bind fun ag=>Zw (0≤(aa:Int)∧(aa:Int)<(n0:Int)) ((Zn ac ((j0:Int)+(aa:Int))).bind fun am=>(some (ac.set (Int.toNat ((j0:Int)+(aa:Int))) (u32.wrap (u64.wrap (ad+(u64.wrap ((u64.wrap ag)+(u64.wrap af)))))))).bind fun ak=>(Zbb j0 n0 ab ae aj) (aa+1) ak (X8 .u64 (u64.wrap (ad+(u64.wrap ((u64.wrap ag)+(u64.wrap af))))) 32)))
termination_by structural x=>x
def Zi6 (aa:Nat) (kk_L2:(Nat→R2→Int→Int→Option R5)) (ab:List Int) (ac:Int) (ad:Int):Option R5:=
  kk_L2 (aa+1) ab ac ad
def Zgm (j0:Nat) (n0:Nat) (ac:Int) (ab:List Int) (af:Int) (aa:Nat) (ad:Int) (kk_L2:(Nat→R2→Int→Int→Option R5)) (ae:Int) (ag:Int):Option R5:=
  Zw (0≤(aa:Int)∧(aa:Int)<(n0:Int)) ((Zn ab ((j0:Int)+(aa:Int))).bind fun ah=>Zw (0≤(aa:Int)∧(aa:Int)<(n0:Int)) ((Zn ab ((j0:Int)+(aa:Int))).bind fun aj=>(some (ab.set (Int.toNat ((j0:Int)+(aa:Int))) (u32.wrap (ah - (u32.wrap (u64.wrap ((Uo .u64 (u64.wrap (ad+(u64.wrap ((u64.wrap (ac - 1)) * (u64.wrap ae))))) 4294967295)+af))))))).bind fun ai=>Zi6 aa kk_L2 ai ag (X8 .u64 (u64.wrap (ad+(u64.wrap ((u64.wrap (ac - 1)) * (u64.wrap ae))))) 32)))
def Sd (j0:Nat) (n0:Nat) (aa:List Int) (ac:Int):List Int→Nat→R2→Int→Int→Option R5
  | [],ad,ab,ae,af=>Zw (0≤(aa.length:Int)∧(aa.length:Int)<(n0:Int)) ((Zn ab ((j0:Int)+(aa.length:Int))).bind fun aj=>Zw (0≤(aa.length:Int)∧(aa.length:Int)<(n0:Int)) ((Zn ab ((j0:Int)+(aa.length:Int))).bind fun ak=>Zw (0≤(aa.length:Int)∧(aa.length:Int)<(n0:Int)) ((Zn ab ((j0:Int)+(aa.length:Int))).bind fun am=>(some (ab.set (Int.toNat ((j0:Int)+(aa.length:Int))) (u32.wrap (ak - (u32.wrap (u64.wrap (af+ae))))))).bind fun ah=>if (decide ((u64.wrap aj)<(u64.wrap (af+ae))))=true then (Zbb j0 n0 aa ac aa 0 ah 0) else (Zgl (u64.wrap (ac - 1)) ah))))
  | ag :: ai,ad,ab,ae,af=>Zw (0≤(ad:Int)∧(ad:Int)<(n0:Int)) ((Zn ab ((j0:Int)+(ad:Int))).bind fun al=>if (decide ((u64.wrap al)<(u64.wrap ((Uo .u64 (u64.wrap (af+(u64.wrap ((u64.wrap (ac - 1)) * (u64.wrap ag))))) 4294967295)+ae))))=true then (Zgm j0 n0 ac ab ae ad af (Sd j0 n0 aa ac ai) ag 1) else (Zgm j0 n0 ac ab ae ad af (Sd j0 n0 aa ac ai) ag 0))
termination_by structural x=>x
def Zgk (j0:Nat) (n0:Nat) (ae:List Int) (aa:List Int) (ab:Int) (ac:Int) (kk_L1:(Int→Int→Option R5)):Option R5:=
  (Zn aa (i64.wrap ((aa.length:Int) - 1))).bind fun ad=>if (decide (4294967295<(u64.wrap (ac+(u64.wrap ad)))))=true then (Sd j0 n0 aa ab aa 0 ae 0 0) else (kk_L1 (u64.wrap (ab - 1)) (u64.wrap (ac+(u64.wrap ad))))
def Q8 (aa:Int) (ab:List Int):Option R5:=
  some (u32.wrap aa,ab)
def U1 (j0:Nat) (n0:Nat) (ab:List Int) (ae:Int):List Int→Nat→R2→Int→Option R5
  | [],aa,ac,ad=>Zw (0≤(ab.length:Int)∧(ab.length:Int)<(n0:Int)) ((Zn ac ((j0:Int)+(ab.length:Int))).bind fun ah=>Zw (0≤(ab.length:Int)∧(ab.length:Int)<(n0:Int)) ((Zn ac ((j0:Int)+(ab.length:Int))).bind fun al=>(some (ac.set (Int.toNat ((j0:Int)+(ab.length:Int))) (u32.wrap (ah+(u32.wrap ad))))).bind fun ai=>Q8 (u64.wrap (ae - 1)) ai))
  | af :: aj,aa,ac,ad=>Zw (0≤(aa:Int)∧(aa:Int)<(n0:Int)) ((Zn ac ((j0:Int)+(aa:Int))).bind fun ag=>Zw (0≤(aa:Int)∧(aa:Int)<(n0:Int)) ((Zn ac ((j0:Int)+(aa:Int))).bind fun am=>(some (ac.set (Int.toNat ((j0:Int)+(aa:Int))) (u32.wrap (u64.wrap (ad+(u64.wrap ((u64.wrap ag)+(u64.wrap af)))))))).bind fun ak=>(U1 j0 n0 ab ae aj) (aa+1) ak (X8 .u64 (u64.wrap (ad+(u64.wrap ((u64.wrap ag)+(u64.wrap af))))) 32)))
termination_by structural x=>x
def Zgn (aa:Nat) (kk_L4:(Nat→R2→Int→Int→Option R5)) (ab:List Int) (ac:Int) (ad:Int):Option R5:=
  kk_L4 (aa+1) ab ac ad
def Zcl (j0:Nat) (n0:Nat) (ac:Int) (ab:List Int) (af:Int) (aa:Nat) (ad:Int) (kk_L4:(Nat→R2→Int→Int→Option R5)) (ae:Int) (ag:Int):Option R5:=
  Zw (0≤(aa:Int)∧(aa:Int)<(n0:Int)) ((Zn ab ((j0:Int)+(aa:Int))).bind fun ah=>Zw (0≤(aa:Int)∧(aa:Int)<(n0:Int)) ((Zn ab ((j0:Int)+(aa:Int))).bind fun aj=>(some (ab.set (Int.toNat ((j0:Int)+(aa:Int))) (u32.wrap (ah - (u32.wrap (u64.wrap ((Uo .u64 (u64.wrap (ad+(u64.wrap (ac * (u64.wrap ae))))) 4294967295)+af))))))).bind fun ai=>Zgn aa kk_L4 ai ag (X8 .u64 (u64.wrap (ad+(u64.wrap (ac * (u64.wrap ae))))) 32)))
def Vh (j0:Nat) (n0:Nat) (aa:List Int) (ac:Int):List Int→Nat→R2→Int→Int→Option R5
  | [],ad,ab,ae,af=>Zw (0≤(aa.length:Int)∧(aa.length:Int)<(n0:Int)) ((Zn ab ((j0:Int)+(aa.length:Int))).bind fun aj=>Zw (0≤(aa.length:Int)∧(aa.length:Int)<(n0:Int)) ((Zn ab ((j0:Int)+(aa.length:Int))).bind fun ak=>Zw (0≤(aa.length:Int)∧(aa.length:Int)<(n0:Int)) ((Zn ab ((j0:Int)+(aa.length:Int))).bind fun am=>(some (ab.set (Int.toNat ((j0:Int)+(aa.length:Int))) (u32.wrap (ak - (u32.wrap (u64.wrap (af+ae))))))).bind fun ah=>if (decide ((u64.wrap aj)<(u64.wrap (af+ae))))=true then (U1 j0 n0 aa ac aa 0 ah 0) else (Q8 ac ah))))
  | ag :: ai,ad,ab,ae,af=>Zw (0≤(ad:Int)∧(ad:Int)<(n0:Int)) ((Zn ab ((j0:Int)+(ad:Int))).bind fun al=>if (decide ((u64.wrap al)<(u64.wrap ((Uo .u64 (u64.wrap (af+(u64.wrap (ac * (u64.wrap ag))))) 4294967295)+ae))))=true then (Zcl j0 n0 ac ab ae ad af (Vh j0 n0 aa ac ai) ag 1) else (Zcl j0 n0 ac ab ae ad af (Vh j0 n0 aa ac ai) ag 0))
termination_by structural x=>x
def Zck (j0:Nat) (n0:Nat) (ab:List Int) (aa:List Int) (ac:Int) (ad:Int) (kk_L1:(Int→Int→Option R5)) (ae:Bool):Option R5:=
  if ae=true then (Zgk j0 n0 ab aa ac ad kk_L1) else (Vh j0 n0 aa ac aa 0 ab 0 0)
def Tp (N:Nat) (j0:Nat) (n0:Nat) (ab:List Int) (aa:List Int):Nat→Int→Int→Option R5
  | 0,_,_=>none
  | ae+1,ac,ad=>if (decide (4294967295<ac))=true then (Zck j0 n0 ab aa ac ad (Tp N j0 n0 ab aa ae) true) else (if (decide (ad≤4294967295))=true then ((Zn aa (i64.wrap ((aa.length:Int) - 2))).bind fun af=>Zw (0≤(i64.wrap ((aa.length:Int) - 2))∧(i64.wrap ((aa.length:Int) - 2))<(n0:Int)) ((Zn ab ((j0:Int)+(i64.wrap ((aa.length:Int) - 2)))).bind fun ag=>Zck j0 n0 ab aa ac ad (Tp N j0 n0 ab aa ae) (decide ((Yn .u64 (Xt .u64 ad 32) (u64.wrap ag))<(u64.wrap (ac * (u64.wrap af))))))) else (Zck j0 n0 ab aa ac ad (Tp N j0 n0 ab aa ae) false))
termination_by structural x=>x
def Zej (N:Nat) (j0:Nat) (n0:Nat) (ac:List Int) (aa:List Int):Option R5:=
  Zw (0≤(aa.length:Int)∧(aa.length:Int)<(n0:Int)) ((Zn ac ((j0:Int)+(aa.length:Int))).bind fun ad=>Zw (0≤(i64.wrap ((aa.length:Int) - 1))∧(i64.wrap ((aa.length:Int) - 1))<(n0:Int)) ((Zn ac ((j0:Int)+(i64.wrap ((aa.length:Int) - 1)))).bind fun ae=>(Zn aa (i64.wrap ((aa.length:Int) - 1))).bind fun ab=>Zw ((u64.wrap ab)≠0) (Zw ((u64.wrap ab)≠0) (Tp N j0 n0 ac aa N (u64.wrap (Int.tdiv (Yn .u64 (Xt .u64 (u64.wrap ad) 32) (u64.wrap ae)) (u64.wrap ab))) (Int.tmod (Yn .u64 (Xt .u64 (u64.wrap ad) 32) (u64.wrap ae)) (u64.wrap ab))))))
theorem Zvv {N ae j0 n0 cp0 de:Nat} {a0 a1:Option Addr} {col:Zd} {w0:World} {ac ab:R2} {r:R5} (qc0:Nat) (hm:Zej N j0 n0 ac ab=some r) (hd:Uz [qc0]=true) (h0:Zc (Za.int .u32) 79 qc0 col w0 a0 ae ac) (h1:Sl (Za.int .u32) col w0 a1 de ab):
    Calls Tryz.prog 288 #[.slice (a0.map (·.add (j0 * 1))) n0 cp0,.slice a1 ab.length de] w0 (fun e w'=>∃ (col':Zd),e= .returned ((.int .u32 r.1))∧Zt (pS [qc0]) col w0 col' w'∧Zc (Za.int .u32) 79 qc0 col' w' a0 ae r.2∧r.2.length=ac.length):=by
 refine Xc 4 (m:=178) func288 rfl rfl rfl rfl rfl ?_;rw [Zej.eq_1] at hm;have aa:=St.startL (l:=[qc0]) rfl col w0;replace h0:=h0.startL (Qq hd 0 rfl) (Qp hd 0 rfl);refine go ?_;refine Uk (col:=(Xl [qc0] col)) (by kernel_rfl) (by kernel_rfl)<|go ?_;obtain ⟨df,hm⟩:=Z0 hm;obtain ⟨a7,dg,hm⟩:=bZ hm;refine qv (v:=(Xy a0 (Int.toNat ((j0:Int)+(ab.length:Int)) * 1))) rfl (fun _ hC=>Wu underlying43 sizeOf79 rfl rfl df.1 df.2 (h0.addr dg)) ?_;refine qW (fun _ hC=>(h0.gr (hC.bl (Xl [qc0] col))).atInt dg) ?_;refine go ?_;refine qv (v:=(.int .u64 (Xt .u64 (u64.wrap a7) 32))) rfl (fun _ hC=>Zc4 (u64.wrap a7) 32 rfl rfl (by decide)) ?_;refine go ?_;obtain ⟨dh,hm⟩:=Z0 hm;obtain ⟨bf,di,hm⟩:=bZ hm;refine qv (v:=(Xy a0 (Int.toNat ((j0:Int)+(i64.wrap ((ab.length:Int) - 1))) * 1))) rfl (fun _ hC=>Wu underlying43 sizeOf79 rfl rfl dh.1 dh.2 (h0.addr di)) ?_;refine qW (fun _ hC=>(h0.gr (hC.bl (Xl [qc0] col))).atInt di) ?_;refine go ?_;refine Wt ?_;intro gm hC;replace h1:=h1.keep (Zk.startL [qc0] col w0);replace hC:=hC.bl (Xl [qc0] col);refine go ?_;obtain ⟨bg,a8,hm⟩:=bZ hm;replace aa:=aa.grow hC;refine lI a8 ((h1.ks aa).addr a8)<|lW ((h1.ks aa).atInt a8) ?_;refine go ?_;obtain ⟨fc,hm⟩:=Z0 hm;refine lV (.int .u64 (u64.wrap (Int.tdiv (Yn .u64 (Xt .u64 (u64.wrap a7) 32) (u64.wrap bf)) (u64.wrap bg)))) (Vl (Yn .u64 (Xt .u64 (u64.wrap a7) 32) (u64.wrap bf)) (u64.wrap bg) rfl rfl fc)<|go ?_;refine lI a8 ((h1.ks aa).addr a8)<|lW ((h1.ks aa).atInt a8) ?_;refine go ?_;obtain ⟨fd,hm⟩:=Z0 hm;refine lV (.int .u64 (Int.tmod (Yn .u64 (Xt .u64 (u64.wrap a7) 32) (u64.wrap bf)) (u64.wrap bg))) (Tw (Yn .u64 (Xt .u64 (u64.wrap a7) 32) (u64.wrap bf)) (u64.wrap bg) rfl rfl fd)<|go ?_;replace h0:=h0.gr hC;refine Z2 [0,1,5,1000000] (fun n f bx=>∃ ao ad ap a2,a2=n∧Tp N j0 n0 ac ab a2 ad ap=some r∧St w0 (Xl [qc0] col) ao bx∧Zc (Za.int .u32) 79 440 ao bx a0 ae ac∧[7,8].map f=[.int .u64 ad,.int .u64 ap]) N ⟨_,_,_,_,rfl,hm,aa,h0,rfl⟩ ?_;clear hm;intro n f bx hI;obtain ⟨ao,ad,ap,a2,hn,hm,aa,h0,hs⟩:=hI;subst hn;refine .lL [7,8] hs ?_
 cases a2 with
 | zero=>rw [Tp.eq_1] at hm;cases hm
 | succ a2=>
  rw [Tp.eq_2] at hm;refine Zu ?_;refine Wp.cutK [0,1,5,7,8,1000000] (fun f bz=>∃ b0,Zgk j0 n0 ac ab ad ap (Tp N j0 n0 ac ab a2)=some r∧St w0 (Xl [qc0] col) b0 bz∧Zc (Za.int .u32) 79 440 b0 bz a0 ae ac) ?_ ?_
  ·intro f bz hJ;obtain ⟨b0,hm,aa,h0⟩:=hJ;rw [Zgk.eq_1] at hm;refine go ?_;obtain ⟨gp,b1,hm⟩:=bZ hm;refine lI b1 ((h1.ks aa).addr b1)<|lW ((h1.ks aa).atInt b1) ?_;refine go ?_;refine Zo hm (fun hb hm=>?_) fun hb hm=>?_
   ·refine Zhw (Zyb rfl (Zfu ?_));refine go ?_;refine Z2 [0,1,5,7,87,88,1000000] (fun n f b2=>∃ b3 am a3 ai aj a9,n=a9.length∧ab.drop ai=a9∧Sd j0 n0 ab ad a9 ai am a3 aj=some r∧St w0 (Xl [qc0] col) b3 b2∧Zc (Za.int .u32) 79 440 b3 b2 a0 ae am∧am.length=ac.length∧am.length=ac.length∧[89,10,9].map f=[.int .i64 ai,.int .u64 a3,.int .u64 aj]) ab.length ⟨_,_,0,0,0,_,rfl,rfl,hm,aa,h0,rfl,rfl,rfl⟩ ?_;clear hm;intro n f b2 hI;obtain ⟨b3,am,a3,ai,aj,a9,hn,hl,hm,aa,af,dj,gs,hs⟩:=hI;subst hn;refine .lL [89,10,9] hs ?_
    cases a9 with
    | nil=>
     have hk:¬ ((ai:Int)<(ab.length:Int)):=by have:=List.drop_eq_nil_iff.1 hl;omega
     have hkb:=decide_eq_false hk;rw [Sd.eq_1] at hm;refine go ?_;refine Xv (congrArg Value.bool hkb)<|go ?_;obtain ⟨dk,hm⟩:=Z0 hm;obtain ⟨gt,dl,hm⟩:=bZ hm;refine lV (Xy a0 (Int.toNat ((j0:Int)+(ab.length:Int)) * 1)) (Wu underlying43 sizeOf79 rfl rfl dk.1 dk.2 (af.addr dl))<|lW (af.atInt dl)<|go ?_;obtain ⟨dm,hm⟩:=Z0 hm;obtain ⟨dn,dp,hm⟩:=bZ hm;refine lV (Xy a0 (Int.toNat ((j0:Int)+(ab.length:Int)) * 1)) (Wu underlying43 sizeOf79 rfl rfl dm.1 dm.2 (af.addr dp))<|lW (af.atInt dp)<|go ?_;obtain ⟨dq,hm⟩:=Z0 hm;obtain ⟨gu,dr,hm⟩:=bZ hm;refine lV (Xy a0 (Int.toNat ((j0:Int)+(ab.length:Int)) * 1)) (Wu underlying43 sizeOf79 rfl rfl dq.1 dq.2 (af.addr dr)) ?_;obtain ⟨b4,bh,hm⟩:=bZ hm;have bh:b4=am.set (Int.toNat ((j0:Int)+(ab.length:Int))) (u32.wrap (dn - (u32.wrap (u64.wrap (aj+a3))))):=(Option.some.inj bh).symm;refine Y2 (x1:=u32.wrap (dn - (u32.wrap (u64.wrap (aj+a3))))) af dr ?_;intro gv fe ff b5;rw [← bh] at b5;have b6:b4.length=ac.length:=(show am.length=b4.length by rw [bh,List.length_set]).symm.trans dj;refine Zl<|Zu ?_;replace aa:=aa.kp fe ff;refine Wp.cutK [1000000] (fun f b7=>∃ b8 b9 bi,Zgl b9 bi=some r∧St w0 (Xl [qc0] col) b8 b7∧Zc (Za.int .u32) 79 440 b8 b7 a0 ae bi∧bi.length=ac.length∧[7].map f=[.int .u64 b9]) ?_ ?_
     ·intro f b7 hJ;obtain ⟨b8,b9,bi,hm,aa,fg,fh,hs⟩:=hJ;rw [Zgl.eq_1] at hm;refine .lL [7] hs<|go ?_;cases hm;exact ⟨rfl,_,rfl,aa.finL rfl (cm [(440,qc0)]),aa.foL fg,fh⟩
     refine go ?_;refine Zo hm (fun hb hm=>go ?_) fun hb hm=>?_
     ·refine Z2 [0,143,144,5,7,1000000] (fun n f ca=>∃ cb aq ar au ba,n=ba.length∧ab.drop ar=ba∧Zbb j0 n0 ab ad ba ar aq au=some r∧St w0 (Xl [qc0] col) cb ca∧Zc (Za.int .u32) 79 440 cb ca a0 ae aq∧aq.length=ac.length∧aq.length=ac.length∧[145,9].map f=[.int .i64 ar,.int .u64 au]) ab.length ⟨_,_,0,0,_,rfl,rfl,hm,aa,b5,b6,b6,rfl⟩ ?_;clear hm;intro n f ca hI;obtain ⟨cb,aq,ar,au,ba,hn,hl,hm,aa,a4,fi,fj,hs⟩:=hI;subst hn;refine .lL [145,9] hs ?_
      cases ba with
      | nil=>
       have hk:¬ ((ar:Int)<(ab.length:Int)):=by have:=List.drop_eq_nil_iff.1 hl;omega
       have hkb:=decide_eq_false hk;rw [Zbb.eq_1] at hm;refine go ?_;refine Xv (congrArg Value.bool hkb)<|go ?_;obtain ⟨ds,hm⟩:=Z0 hm;obtain ⟨dt,du,hm⟩:=bZ hm;refine lV (Xy a0 (Int.toNat ((j0:Int)+(ab.length:Int)) * 1)) (Wu underlying43 sizeOf79 rfl rfl ds.1 ds.2 (a4.addr du))<|lW (a4.atInt du)<|go ?_;obtain ⟨dv,hm⟩:=Z0 hm;obtain ⟨gw,dw,hm⟩:=bZ hm;refine lV (Xy a0 (Int.toNat ((j0:Int)+(ab.length:Int)) * 1)) (Wu underlying43 sizeOf79 rfl rfl dv.1 dv.2 (a4.addr dw)) ?_;obtain ⟨cc,bj,hm⟩:=bZ hm;have bj:cc=aq.set (Int.toNat ((j0:Int)+(ab.length:Int))) (u32.wrap (dt+(u32.wrap au))):=(Option.some.inj bj).symm;refine Y2 (x1:=u32.wrap (dt+(u32.wrap au))) a4 dw ?_;intro gx fk fl dx;rw [← bj] at dx;have fm:cc.length=ac.length:=(show aq.length=cc.length by rw [bj,List.length_set]).symm.trans fj;refine Zl ?_;replace aa:=aa.kp fk fl;exact ⟨rfl,_,_,_,hm,aa,dx,fm,rfl⟩
      | cons bk fn=>
       obtain ⟨ag,fp,fq⟩:=Yc hl;have hk:(ar:Int)<(ab.length:Int):=by omega
       have hkb:=decide_eq_true hk;rw [Zbb.eq_2] at hm;refine go ?_;refine Xz (congrArg Value.bool hkb)<|go ?_;refine lI ag ((h1.ks aa).addr ag)<|lW ((h1.ks aa).atInt ag) ?_;refine go ?_;obtain ⟨dy,hm⟩:=Z0 hm;obtain ⟨bm,dz,hm⟩:=bZ hm;refine lV (Xy a0 (Int.toNat ((j0:Int)+(ar:Int)) * 1)) (Wu underlying43 sizeOf79 rfl rfl dy.1 dy.2 (a4.addr dz))<|lW (a4.atInt dz)<|go ?_;obtain ⟨d0,hm⟩:=Z0 hm;obtain ⟨gy,d1,hm⟩:=bZ hm;refine lV (Xy a0 (Int.toNat ((j0:Int)+(ar:Int)) * 1)) (Wu underlying43 sizeOf79 rfl rfl d0.1 d0.2 (a4.addr d1)) ?_;obtain ⟨cd,bn,hm⟩:=bZ hm;have bn:cd=aq.set (Int.toNat ((j0:Int)+(ar:Int))) (u32.wrap (u64.wrap (au+(u64.wrap ((u64.wrap bm)+(u64.wrap bk)))))):=(Option.some.inj bn).symm;refine Y2 (x1:=u32.wrap (u64.wrap (au+(u64.wrap ((u64.wrap bm)+(u64.wrap bk)))))) a4 d1 ?_;intro gz fr ft d2;rw [← bn] at d2;have d3:cd.length=ac.length:=(show aq.length=cd.length by rw [bn,List.length_set]).symm.trans fi;refine go ?_;refine lV (.int .u64 (X8 .u64 (u64.wrap (au+(u64.wrap ((u64.wrap bm)+(u64.wrap bk))))) 32)) (Tx (u64.wrap (au+(u64.wrap ((u64.wrap bm)+(u64.wrap bk))))) 32 rfl rfl (by decide))<|go ?_;replace aa:=aa.kp fr ft;exact ⟨fn.length,by simp,rfl,⟨_,_,_,_,_,rfl,fp,hm,aa,d2,d3,d3,(Yg (congrArg (Value.int .i64) (Yf (Nat.lt_of_lt_of_le fq (h1.ks aa).1.1))) rfl)⟩⟩
     refine X7 ?_;exact ⟨rfl,_,_,_,hm,aa,b5,b6,rfl⟩
    | cons av ce=>
     obtain ⟨ag,fu,fv⟩:=Yc hl;have hk:(ai:Int)<(ab.length:Int):=by omega
     have hkb:=decide_eq_true hk;rw [Sd.eq_2] at hm;refine go ?_;refine Xz (congrArg Value.bool hkb)<|X7<|Zu ?_;refine Wp.cutK [0,1,5,7,87,88,89,1000000] (fun f cf=>∃ cg bb ch ci,Zi6 ai (Sd j0 n0 ab ad ce) bb ch ci=some r∧St w0 (Xl [qc0] col) cg cf∧Zc (Za.int .u32) 79 440 cg cf a0 ae bb∧bb.length=ac.length∧bb.length=ac.length∧[10,9].map f=[.int .u64 ch,.int .u64 ci]) ?_ ?_
     ·intro f cf hJ;obtain ⟨cg,bb,ch,ci,hm,aa,fw,fx,fy,hs⟩:=hJ;rw [Zi6.eq_1] at hm;refine .lL [10,9] hs<|go ?_;exact ⟨ce.length,by simp,rfl,⟨_,_,_,_,_,_,rfl,fu,hm,aa,fw,fx,fy,(Yg (congrArg (Value.int .i64) (Yf (Nat.lt_of_lt_of_le fv (h1.ks aa).1.1))) rfl)⟩⟩
     refine go ?_;refine lI ag ((h1.ks aa).addr ag)<|lW ((h1.ks aa).atInt ag)<|Yk rfl<|Yk rfl<|Zl<|Zu<|Wn<|X9 rfl<|X9 rfl<|X9 rfl<|lV (.int .u64 (u64.wrap av)) (Zhl av ⟨_,underlying79⟩ underlying193 rfl)<|lV _ (Zfb _ _ rfl rfl)<|lV _ (Qi _ _ rfl rfl)<|Yk rfl<|Zl<|Zu<|Wn<|X9 rfl<|lV (.int .u64 (Uo .u64 (u64.wrap (aj+(u64.wrap ((u64.wrap (ad - 1)) * (u64.wrap av))))) 4294967295)) (Zj6 (u64.wrap (aj+(u64.wrap ((u64.wrap (ad - 1)) * (u64.wrap av))))) 4294967295 rfl rfl)<|X9 rfl<|lV _ (Qi _ _ rfl rfl)<|Yk rfl<|Zl<|Zu<|Wn<|Yk rfl<|Zl<|Zu ?_;refine Wp.cutK [0,1,11,13,5,7,87,88,89,9,1000000] (fun f cj=>∃ ck cl,Zgm j0 n0 ad am a3 ai aj (Sd j0 n0 ab ad ce) av cl=some r∧St w0 (Xl [qc0] col) ck cj∧Zc (Za.int .u32) 79 440 ck cj a0 ae am∧[10].map f=[.int .u64 cl]) ?_ ?_
     ·intro f cj hJ;obtain ⟨ck,cl,hm,aa,af,hs⟩:=hJ;rw [Zgm.eq_1] at hm;refine .lL [10] hs<|go ?_;obtain ⟨d4,hm⟩:=Z0 hm;obtain ⟨d5,d6,hm⟩:=bZ hm;refine lV (Xy a0 (Int.toNat ((j0:Int)+(ai:Int)) * 1)) (Wu underlying43 sizeOf79 rfl rfl d4.1 d4.2 (af.addr d6))<|lW (af.atInt d6)<|go ?_;obtain ⟨d7,hm⟩:=Z0 hm;obtain ⟨g0,d8,hm⟩:=bZ hm;refine lV (Xy a0 (Int.toNat ((j0:Int)+(ai:Int)) * 1)) (Wu underlying43 sizeOf79 rfl rfl d7.1 d7.2 (af.addr d8)) ?_;obtain ⟨cn,bo,hm⟩:=bZ hm;have bo:cn=am.set (Int.toNat ((j0:Int)+(ai:Int))) (u32.wrap (d5 - (u32.wrap (u64.wrap ((Uo .u64 (u64.wrap (aj+(u64.wrap ((u64.wrap (ad - 1)) * (u64.wrap av))))) 4294967295)+a3))))):=(Option.some.inj bo).symm;refine Y2 (x1:=u32.wrap (d5 - (u32.wrap (u64.wrap ((Uo .u64 (u64.wrap (aj+(u64.wrap ((u64.wrap (ad - 1)) * (u64.wrap av))))) 4294967295)+a3))))) af d8 ?_;intro g1 fz f0 d9;rw [← bo] at d9;have ea:cn.length=ac.length:=(show am.length=cn.length by rw [bo,List.length_set]).symm.trans dj;refine go ?_;refine lV (.int .u64 (X8 .u64 (u64.wrap (aj+(u64.wrap ((u64.wrap (ad - 1)) * (u64.wrap av))))) 32)) (Tx (u64.wrap (aj+(u64.wrap ((u64.wrap (ad - 1)) * (u64.wrap av))))) 32 rfl rfl (by decide))<|go ?_;replace aa:=aa.kp fz f0;exact ⟨rfl,_,_,_,_,hm,aa,d9,ea,ea,rfl⟩
     refine go ?_;obtain ⟨eb,hm⟩:=Z0 hm;obtain ⟨g2,ec,hm⟩:=bZ hm;refine lV (Xy a0 (Int.toNat ((j0:Int)+(ai:Int)) * 1)) (Wu underlying43 sizeOf79 rfl rfl eb.1 eb.2 (af.addr ec))<|lW (af.atInt ec)<|go ?_;refine Zo hm (fun hb hm=>go ?_) fun hb hm=>?_
     ·exact ⟨rfl,_,1,hm,aa,af,rfl⟩
     refine X7 ?_;exact ⟨rfl,_,0,hm,aa,af,rfl⟩
   refine X7 ?_;exact ⟨a2,by omega,rfl,⟨_,_,_,_,rfl,hm,aa,h0,rfl⟩⟩
  refine Zu ?_;refine Wp.cutK [0,1,5,7,8,1000000] (fun f co=>∃ cp cq,Zck j0 n0 ac ab ad ap (Tp N j0 n0 ac ab a2) cq=some r∧St w0 (Xl [qc0] col) cp co∧Zc (Za.int .u32) 79 440 cp co a0 ae ac∧[74].map f=[.bool cq]) ?_ ?_
  ·intro f co hJ;obtain ⟨cp,cq,hm,aa,h0,hs⟩:=hJ;rw [Zck.eq_1] at hm;refine .lL [74] hs ?_;refine Zo hm (fun hb hm=>?_) fun hb hm=>go ?_
   ·refine X7 ?_;exact ⟨rfl,_,hm,aa,h0⟩
   refine Z2 [0,1,5,7,87,88,1000000] (fun n f cr=>∃ cs an a5 ak al bc,n=bc.length∧ab.drop ak=bc∧Vh j0 n0 ab ad bc ak an a5 al=some r∧St w0 (Xl [qc0] col) cs cr∧Zc (Za.int .u32) 79 440 cs cr a0 ae an∧an.length=ac.length∧an.length=ac.length∧[89,10,9].map f=[.int .i64 ak,.int .u64 a5,.int .u64 al]) ab.length ⟨_,_,0,0,0,_,rfl,rfl,hm,aa,h0,rfl,rfl,rfl⟩ ?_;clear hm;intro n f cr hI;obtain ⟨cs,an,a5,ak,al,bc,hn,hl,hm,aa,ah,ed,g3,hs⟩:=hI;subst hn;refine .lL [89,10,9] hs ?_
   cases bc with
   | nil=>
    have hk:¬ ((ak:Int)<(ab.length:Int)):=by have:=List.drop_eq_nil_iff.1 hl;omega
    have hkb:=decide_eq_false hk;rw [Vh.eq_1] at hm;refine go ?_;refine Xv (congrArg Value.bool hkb)<|go ?_;obtain ⟨ee,hm⟩:=Z0 hm;obtain ⟨g4,ef,hm⟩:=bZ hm;refine lV (Xy a0 (Int.toNat ((j0:Int)+(ab.length:Int)) * 1)) (Wu underlying43 sizeOf79 rfl rfl ee.1 ee.2 (ah.addr ef))<|lW (ah.atInt ef)<|go ?_;obtain ⟨eg,hm⟩:=Z0 hm;obtain ⟨eh,ei,hm⟩:=bZ hm;refine lV (Xy a0 (Int.toNat ((j0:Int)+(ab.length:Int)) * 1)) (Wu underlying43 sizeOf79 rfl rfl eg.1 eg.2 (ah.addr ei))<|lW (ah.atInt ei)<|go ?_;obtain ⟨ej,hm⟩:=Z0 hm;obtain ⟨g5,ek,hm⟩:=bZ hm;refine lV (Xy a0 (Int.toNat ((j0:Int)+(ab.length:Int)) * 1)) (Wu underlying43 sizeOf79 rfl rfl ej.1 ej.2 (ah.addr ek)) ?_;obtain ⟨ct,bp,hm⟩:=bZ hm;have bp:ct=an.set (Int.toNat ((j0:Int)+(ab.length:Int))) (u32.wrap (eh - (u32.wrap (u64.wrap (al+a5))))):=(Option.some.inj bp).symm;refine Y2 (x1:=u32.wrap (eh - (u32.wrap (u64.wrap (al+a5))))) ah ek ?_;intro g6 f1 f2 cu;rw [← bp] at cu;have cv:ct.length=ac.length:=(show an.length=ct.length by rw [bp,List.length_set]).symm.trans ed;refine Zl<|Zu ?_;replace aa:=aa.kp f1 f2;refine Wp.cutK [1000000] (fun f cw=>∃ cx cy bq,Q8 cy bq=some r∧St w0 (Xl [qc0] col) cx cw∧Zc (Za.int .u32) 79 440 cx cw a0 ae bq∧bq.length=ac.length∧[7].map f=[.int .u64 cy]) ?_ ?_
    ·intro f cw hJ;obtain ⟨cx,cy,bq,hm,aa,f3,f4,hs⟩:=hJ;rw [Q8.eq_1] at hm;refine .lL [7] hs<|go ?_;cases hm;exact ⟨rfl,_,rfl,aa.finL rfl (cm [(440,qc0)]),aa.foL f3,f4⟩
    refine go ?_;refine Zo hm (fun hb hm=>go ?_) fun hb hm=>?_
    ·refine Z2 [0,143,144,5,7,1000000] (fun n f cz=>∃ c0 aw ax ay bd,n=bd.length∧ab.drop ax=bd∧U1 j0 n0 ab ad bd ax aw ay=some r∧St w0 (Xl [qc0] col) c0 cz∧Zc (Za.int .u32) 79 440 c0 cz a0 ae aw∧aw.length=ac.length∧aw.length=ac.length∧[145,9].map f=[.int .i64 ax,.int .u64 ay]) ab.length ⟨_,_,0,0,_,rfl,rfl,hm,aa,cu,cv,cv,rfl⟩ ?_;clear hm;intro n f cz hI;obtain ⟨c0,aw,ax,ay,bd,hn,hl,hm,aa,a6,f5,f6,hs⟩:=hI;subst hn;refine .lL [145,9] hs ?_
     cases bd with
     | nil=>
      have hk:¬ ((ax:Int)<(ab.length:Int)):=by have:=List.drop_eq_nil_iff.1 hl;omega
      have hkb:=decide_eq_false hk;rw [U1.eq_1] at hm;refine go ?_;refine Xv (congrArg Value.bool hkb)<|go ?_;obtain ⟨el,hm⟩:=Z0 hm;obtain ⟨em,en,hm⟩:=bZ hm;refine lV (Xy a0 (Int.toNat ((j0:Int)+(ab.length:Int)) * 1)) (Wu underlying43 sizeOf79 rfl rfl el.1 el.2 (a6.addr en))<|lW (a6.atInt en)<|go ?_;obtain ⟨eo,hm⟩:=Z0 hm;obtain ⟨g7,ep,hm⟩:=bZ hm;refine lV (Xy a0 (Int.toNat ((j0:Int)+(ab.length:Int)) * 1)) (Wu underlying43 sizeOf79 rfl rfl eo.1 eo.2 (a6.addr ep)) ?_;obtain ⟨c1,br,hm⟩:=bZ hm;have br:c1=aw.set (Int.toNat ((j0:Int)+(ab.length:Int))) (u32.wrap (em+(u32.wrap ay))):=(Option.some.inj br).symm;refine Y2 (x1:=u32.wrap (em+(u32.wrap ay))) a6 ep ?_;intro g8 f7 f8 eq;rw [← br] at eq;have f9:c1.length=ac.length:=(show aw.length=c1.length by rw [br,List.length_set]).symm.trans f6;refine Zl ?_;replace aa:=aa.kp f7 f8;exact ⟨rfl,_,_,_,hm,aa,eq,f9,rfl⟩
     | cons bs ga=>
      obtain ⟨ag,gb,gc⟩:=Yc hl;have hk:(ax:Int)<(ab.length:Int):=by omega
      have hkb:=decide_eq_true hk;rw [U1.eq_2] at hm;refine go ?_;refine Xz (congrArg Value.bool hkb)<|go ?_;refine lI ag ((h1.ks aa).addr ag)<|lW ((h1.ks aa).atInt ag) ?_;refine go ?_;obtain ⟨er,hm⟩:=Z0 hm;obtain ⟨bt,es,hm⟩:=bZ hm;refine lV (Xy a0 (Int.toNat ((j0:Int)+(ax:Int)) * 1)) (Wu underlying43 sizeOf79 rfl rfl er.1 er.2 (a6.addr es))<|lW (a6.atInt es)<|go ?_;obtain ⟨et,hm⟩:=Z0 hm;obtain ⟨g9,eu,hm⟩:=bZ hm;refine lV (Xy a0 (Int.toNat ((j0:Int)+(ax:Int)) * 1)) (Wu underlying43 sizeOf79 rfl rfl et.1 et.2 (a6.addr eu)) ?_;obtain ⟨c2,bu,hm⟩:=bZ hm;have bu:c2=aw.set (Int.toNat ((j0:Int)+(ax:Int))) (u32.wrap (u64.wrap (ay+(u64.wrap ((u64.wrap bt)+(u64.wrap bs)))))):=(Option.some.inj bu).symm;refine Y2 (x1:=u32.wrap (u64.wrap (ay+(u64.wrap ((u64.wrap bt)+(u64.wrap bs)))))) a6 eu ?_;intro ha gd ge ew;rw [← bu] at ew;have ey:c2.length=ac.length:=(show aw.length=c2.length by rw [bu,List.length_set]).symm.trans f5;refine go ?_;refine lV (.int .u64 (X8 .u64 (u64.wrap (ay+(u64.wrap ((u64.wrap bt)+(u64.wrap bs))))) 32)) (Tx (u64.wrap (ay+(u64.wrap ((u64.wrap bt)+(u64.wrap bs))))) 32 rfl rfl (by decide))<|go ?_;replace aa:=aa.kp gd ge;exact ⟨ga.length,by simp,rfl,⟨_,_,_,_,_,rfl,gb,hm,aa,ew,ey,ey,(Yg (congrArg (Value.int .i64) (Yf (Nat.lt_of_lt_of_le gc (h1.ks aa).1.1))) rfl)⟩⟩
    refine X7 ?_;exact ⟨rfl,_,_,_,hm,aa,cu,cv,rfl⟩
   | cons az c3=>
    obtain ⟨ag,gf,gg⟩:=Yc hl;have hk:(ak:Int)<(ab.length:Int):=by omega
    have hkb:=decide_eq_true hk;rw [Vh.eq_2] at hm;refine go ?_;refine Xz (congrArg Value.bool hkb)<|X7<|Zu ?_;refine Wp.cutK [0,1,5,7,87,88,89,1000000] (fun f c4=>∃ c5 be c6 c7,Zgn ak (Vh j0 n0 ab ad c3) be c6 c7=some r∧St w0 (Xl [qc0] col) c5 c4∧Zc (Za.int .u32) 79 440 c5 c4 a0 ae be∧be.length=ac.length∧be.length=ac.length∧[10,9].map f=[.int .u64 c6,.int .u64 c7]) ?_ ?_
    ·intro f c4 hJ;obtain ⟨c5,be,c6,c7,hm,aa,gh,gi,gj,hs⟩:=hJ;rw [Zgn.eq_1] at hm;refine .lL [10,9] hs<|go ?_;exact ⟨c3.length,by simp,rfl,⟨_,_,_,_,_,_,rfl,gf,hm,aa,gh,gi,gj,(Yg (congrArg (Value.int .i64) (Yf (Nat.lt_of_lt_of_le gg (h1.ks aa).1.1))) rfl)⟩⟩
    refine go ?_;refine lI ag ((h1.ks aa).addr ag)<|lW ((h1.ks aa).atInt ag)<|Yk rfl<|Yk rfl<|Zl<|Zu<|Wn<|X9 rfl<|X9 rfl<|X9 rfl<|lV (.int .u64 (u64.wrap az)) (Zhl az ⟨_,underlying79⟩ underlying193 rfl)<|lV _ (Zfb _ _ rfl rfl)<|lV _ (Qi _ _ rfl rfl)<|Yk rfl<|Zl<|Zu<|Wn<|X9 rfl<|lV (.int .u64 (Uo .u64 (u64.wrap (al+(u64.wrap (ad * (u64.wrap az))))) 4294967295)) (Zj6 (u64.wrap (al+(u64.wrap (ad * (u64.wrap az))))) 4294967295 rfl rfl)<|X9 rfl<|lV _ (Qi _ _ rfl rfl)<|Yk rfl<|Zl<|Zu<|Wn<|Yk rfl<|Zl<|Zu ?_;refine Wp.cutK [0,1,11,13,5,7,87,88,89,9,1000000] (fun f c8=>∃ c9 da,Zcl j0 n0 ad an a5 ak al (Vh j0 n0 ab ad c3) az da=some r∧St w0 (Xl [qc0] col) c9 c8∧Zc (Za.int .u32) 79 440 c9 c8 a0 ae an∧[10].map f=[.int .u64 da]) ?_ ?_
    ·intro f c8 hJ;obtain ⟨c9,da,hm,aa,ah,hs⟩:=hJ;rw [Zcl.eq_1] at hm;refine .lL [10] hs<|go ?_;obtain ⟨ez,hm⟩:=Z0 hm;obtain ⟨e0,e1,hm⟩:=bZ hm;refine lV (Xy a0 (Int.toNat ((j0:Int)+(ak:Int)) * 1)) (Wu underlying43 sizeOf79 rfl rfl ez.1 ez.2 (ah.addr e1))<|lW (ah.atInt e1)<|go ?_;obtain ⟨e2,hm⟩:=Z0 hm;obtain ⟨hc,e3,hm⟩:=bZ hm;refine lV (Xy a0 (Int.toNat ((j0:Int)+(ak:Int)) * 1)) (Wu underlying43 sizeOf79 rfl rfl e2.1 e2.2 (ah.addr e3)) ?_;obtain ⟨db,bv,hm⟩:=bZ hm;have bv:db=an.set (Int.toNat ((j0:Int)+(ak:Int))) (u32.wrap (e0 - (u32.wrap (u64.wrap ((Uo .u64 (u64.wrap (al+(u64.wrap (ad * (u64.wrap az))))) 4294967295)+a5))))):=(Option.some.inj bv).symm;refine Y2 (x1:=u32.wrap (e0 - (u32.wrap (u64.wrap ((Uo .u64 (u64.wrap (al+(u64.wrap (ad * (u64.wrap az))))) 4294967295)+a5))))) ah e3 ?_;intro he gk gl e4;rw [← bv] at e4;have e5:db.length=ac.length:=(show an.length=db.length by rw [bv,List.length_set]).symm.trans ed;refine go ?_;refine lV (.int .u64 (X8 .u64 (u64.wrap (al+(u64.wrap (ad * (u64.wrap az))))) 32)) (Tx (u64.wrap (al+(u64.wrap (ad * (u64.wrap az))))) 32 rfl rfl (by decide))<|go ?_;replace aa:=aa.kp gk gl;exact ⟨rfl,_,_,_,_,hm,aa,e4,e5,e5,rfl⟩
    refine go ?_;obtain ⟨e6,hm⟩:=Z0 hm;obtain ⟨hf,e7,hm⟩:=bZ hm;refine lV (Xy a0 (Int.toNat ((j0:Int)+(ak:Int)) * 1)) (Wu underlying43 sizeOf79 rfl rfl e6.1 e6.2 (ah.addr e7))<|lW (ah.atInt e7)<|go ?_;refine Zo hm (fun hb hm=>go ?_) fun hb hm=>?_
    ·exact ⟨rfl,_,1,hm,aa,ah,rfl⟩
    refine X7 ?_;exact ⟨rfl,_,0,hm,aa,ah,rfl⟩
  refine Uk (col:=ao) (by kernel_rfl) (by kernel_rfl)<|go ?_;refine X5 hm (fun bw hm=>go ?_) fun bw hm=>go ?_
  ·refine Vk 54 rfl rfl rfl rfl<|Vk 54 rfl rfl rfl rfl<|Vk 54 rfl rfl rfl rfl<|Vk 54 rfl rfl rfl rfl<|Vk 54 rfl rfl rfl rfl<|Vk 54 rfl rfl rfl rfl<|Vk 54 rfl rfl rfl rfl<|Vk 54 rfl rfl rfl rfl<|Vk 54 rfl rfl rfl rfl<|Vk 54 rfl rfl rfl rfl<|Vk 54 rfl rfl rfl rfl<|Vk 54 rfl rfl rfl rfl<|Vk 54 rfl rfl rfl rfl<|Vk 54 rfl rfl rfl rfl<|Vk 54 rfl rfl rfl rfl<|Vk 54 rfl rfl rfl rfl<|Vk 54 rfl rfl rfl rfl<|Vk 54 rfl rfl rfl rfl<|go ?_;refine qv (v:=(.bool true)) rfl (fun _ hC=>Xq (congrArg Value.bool bw) rfl) ?_;refine Wt ?_;intro hg hC;replace hC:=hC.bl ao;replace h0:=h0.gr hC;replace aa:=aa.grow hC;exact ⟨rfl,_,_,hm,aa,h0,rfl⟩
  refine X5 hm (fun dc hm=>go ?_) fun dc hm=>go ?_
  ·obtain ⟨e8,dd,hm⟩:=bZ hm;refine qI dd ((h1.ks aa).addr dd) ?_;refine go ?_;refine qW (fun _ hC=>((h1.ks aa).gr (hC.bl ao)).atInt dd) ?_;refine go ?_;refine qv (v:=(.int .u64 (Xt .u64 ap 32))) rfl (fun _ hC=>Zc4 ap 32 rfl rfl (by decide)) ?_;refine go ?_;obtain ⟨e9,hm⟩:=Z0 hm;obtain ⟨fa,fb,hm⟩:=bZ hm;refine qv (v:=(Xy a0 (Int.toNat ((j0:Int)+(i64.wrap ((ab.length:Int) - 2))) * 1))) rfl (fun _ hC=>Wu underlying43 sizeOf79 rfl rfl e9.1 e9.2 (h0.addr fb)) ?_;refine go ?_;refine qW (fun _ hC=>(h0.gr (hC.bl ao)).atInt fb) ?_;refine go ?_;refine qv (v:=(.bool (decide ((Yn .u64 (Xt .u64 ap 32) (u64.wrap fa))<(u64.wrap (ad * (u64.wrap e8))))))) rfl (fun _ hC=>Xq (congrArg Value.bool dc) rfl) ?_;refine qv (v:=(.bool (decide ((Yn .u64 (Xt .u64 ap 32) (u64.wrap fa))<(u64.wrap (ad * (u64.wrap e8))))))) rfl (fun _ hC=>Xk (congrArg Value.bool bw) rfl) ?_;refine Wt ?_;intro hh hC;replace hC:=hC.bl ao;replace h0:=h0.gr hC;replace aa:=aa.grow hC;exact ⟨rfl,_,_,hm,aa,h0,rfl⟩
  refine qv (v:=(.bool false)) rfl (fun _ hC=>Xk (congrArg Value.bool dc) rfl) ?_;refine qv (v:=(.bool false)) rfl (fun _ hC=>Xk (congrArg Value.bool bw) rfl) ?_;refine Wt ?_;intro hi hC;replace hC:=hC.bl ao;replace h0:=h0.gr hC;replace aa:=aa.grow hC;exact ⟨rfl,_,_,hm,aa,h0,rfl⟩
def Zi5 (aa:Int) (kk_L2:(List Int→Int→Option R8)) (ab:List Int):Option R8:=
  kk_L2 ab (i64.wrap (aa+1))
def Zeh (ab:Int) (ac:List Int) (aa:Int) (kk_L2:(List Int→Int→Option R8)) (ad:Int):Option R8:=
  (Zn ac aa).bind fun ae=>Zw (0≤ab) ((some (ac.set (Int.toNat aa) (u32.wrap (X8 .u64 (Yn .u64 (Xt .u64 (u64.wrap ad) 32) (u64.wrap ae)) ab)))).bind fun af=>Zi5 aa kk_L2 af)
def To (N:Nat) (ac:Int) (ad:List Int) (ae:List Int):Nat→R2→Int→Option R8
  | 0,_,_=>none
  | af+1,aa,ab=>if (decide (ab<(ae.length:Int)))=true then (if (decide ((i64.wrap (ab+1))<(aa.length:Int)))=true then ((Zn aa (i64.wrap (ab+1))).bind fun ag=>Zeh ac aa ab (To N ac ad ae af) ag) else (Zeh ac aa ab (To N ac ad ae af) 0)) else ((Vr N ad).bind fun ah=>(Vr N aa).bind fun ai=>some (ah,ai,0))
termination_by structural x=>x
def Zci (N:Nat) (ae:Int) (ab:List Int):Nat→R2→R2→Int→Option R8
  | 0,_,_,_=>none
  | ah+1,ac,ad,aa=>if (decide (0≤aa))=true then (Zw ((0:Int)≤aa∧aa<(i64.wrap ((i64.wrap (aa+(ab.length:Int)))+1))∧(i64.wrap ((i64.wrap (aa+(ab.length:Int)))+1))≤(ac.length:Int)) ((Zej N (Int.toNat aa) ((Int.toNat (i64.wrap ((i64.wrap (aa+(ab.length:Int)))+1))) - (Int.toNat aa)) ac ab).bind fun af=>(Zn ad aa).bind fun aj=>(some (ad.set (Int.toNat aa) af.1)).bind fun ai=>(Zci N ae ab ah) af.2 ai (i64.wrap (aa - 1)))) else ((Zbd N ac).bind fun ag=>To N ae ad ag N ag 0)
termination_by structural x=>x
def Zch (N:Nat) (ae:List Int) (af:List Int):Option R8:=
  (V3 N ae).bind fun ab=>(V3 N af).bind fun aa=>if (decide ((aa.length:Int)=0))=true then (some (([]:List Int),([]:List Int),11)) else ((Za8 N ab aa).bind fun ag=>if (decide (ag<0))=true then ((Vr N ab).bind fun ah=>some (([]:List Int),ah,0)) else (if (decide ((aa.length:Int)=1))=true then ((Zcx ab).bind fun ai=>(Zn aa 0).bind fun aj=>(Zen N ai aj).bind fun ad=>(Vr N ad.2).bind fun ak=>(Vr N [ad.1]).bind fun al=>some (ak,al,0)) else ((Zn aa (i64.wrap ((aa.length:Int) - 1))).bind fun am=>(Zgb am).bind fun ac=>(Zek ab ac).bind fun an=>(Zek aa ac).bind fun ao=>(Zbd N ao).bind fun ap=>Zw ((Int.toNat (i64.wrap ((i64.wrap ((ab.length:Int) - (aa.length:Int)))+1))) * 4≤281474976710656∧(Int.toNat (i64.wrap ((i64.wrap ((ab.length:Int) - (aa.length:Int)))+1)))≤maxLen∧0≤(i64.wrap ((i64.wrap ((ab.length:Int) - (aa.length:Int)))+1))) (Zci N ac ap N an (List.replicate (Int.toNat (i64.wrap ((i64.wrap ((ab.length:Int) - (aa.length:Int)))+1))) (0:Int)) (i64.wrap (((List.replicate (Int.toNat (i64.wrap ((i64.wrap ((ab.length:Int) - (aa.length:Int)))+1))) (0:Int)).length:Int) - 1))))))
theorem Zky {N bu bv:Nat} {a0 a1:Option Addr} {col:Zd} {w0:World} {be bf:R2} {r:R8} (c1 c2:Nat) (hm:Zch N be bf=some r) (h0:Sl (Za.int .u32) col w0 a0 bu be) (h1:Sl (Za.int .u32) col w0 a1 bv bf):
    Calls Tryz.prog 260 #[.slice a0 be.length bu,.slice a1 bf.length bv] w0 (fun e w'=>∃ (col':Zd) (ra1:Option Addr) (rc2:Nat) (ra4:Option Addr) (rc5:Nat),e= .returned (.tuple #[.slice ra1 r.1.length rc2,.slice ra4 r.2.1.length rc5,.int .i64 r.2.2])∧Zf col w0 col' w'∧Zc (Za.int .u32) 79 c1 col' w' ra1 rc2 r.1∧Zc (Za.int .u32) 79 c2 col' w' ra4 rc5 r.2.1):=by
 refine Zoc 4 5 6 (m:=122) (args:=[.slice a0 be.length bu,.slice a1 bf.length bv]) func260 rfl rfl rfl rfl rfl ?_;rw [Zch.eq_1] at hm;have aa:=St.start col w0;refine go ?_;obtain ⟨cx,cy,hm⟩:=bZ hm;replace h0:=h0.keep (Zk.start col w0);refine Zg (Tf cy (h0.ks aa)) ?_;rintro _ ea ⟨eb,ec,ed,rfl,cz,af⟩;refine ⟨_,rfl,?_⟩;refine Yu rfl ?_;obtain ⟨c0,c3,hm⟩:=bZ hm;replace h1:=h1.keep (Zk.start col w0);replace aa:=aa.grow cz;refine Zg (Tf c3 (h1.ks aa)) ?_;rintro _ c4 ⟨ay,ee,ef,rfl,cj,ac⟩;refine ⟨_,rfl,go ?_⟩;replace af:=af.gr cj;replace aa:=aa.grow cj;refine Zo hm (fun hb hm=>go ?_) fun hb hm=>go ?_
 ·cases hm;exact ⟨rfl,_,none,0,none,0,rfl,aa.fin (cm []),Zc.nil,Zc.nil⟩
 obtain ⟨eg,c5,hm⟩:=bZ hm;refine Zg (Zig c5 af ac) ?_;rintro _ ck ⟨rfl,az⟩;refine ⟨_,rfl,?_⟩;replace az:Zf ay c4 ay ck:=.of_below az;refine go ?_;replace af:=af.gr az;replace ac:=ac.gr az;replace aa:=aa.grow az;refine Zo hm (fun hb hm=>go ?_) fun hb hm=>go ?_
 ·obtain ⟨eh,c6,hm⟩:=bZ hm;refine Zg (Uw 1 c6 af) ?_;rintro _ ei ⟨ej,ek,el,rfl,c7,c8⟩;refine ⟨_,rfl,go ?_⟩;cases hm;replace aa:=aa.grow c7;exact ⟨rfl,_,none,0,_,_,rfl,aa.fin (cm [(1,c2)]),Zc.nil,aa.fo c8⟩
 refine Zo hm (fun hb hm=>go ?_) fun hb hm=>go ?_
 ·obtain ⟨cl,c9,hm⟩:=bZ hm;refine Zg (Zk5 2 c9 af) ?_;rintro _ em ⟨en,bg,bh,rfl,cn,da⟩;refine ⟨_,rfl,go ?_⟩;obtain ⟨eo,bw,hm⟩:=bZ hm;replace ac:=ac.gr cn;refine lI bw (ac.addr bw)<|lW (ac.atInt bw) ?_;obtain ⟨a2,db,hm⟩:=bZ hm;refine Zg (Zn3 2 db rfl da) ?_;rintro _ dc ⟨bx,rfl,dd,de,co⟩;refine ⟨_,rfl,?_⟩;refine .ld (d:=7) (v:=(.slice bg a2.2.length bh)) (congrArg (fun n=>Value.slice bg n bh) (show cl.length=a2.2.length from co.symm)) ?_;refine .ld (d:=34) (v:=(.slice bg a2.2.length bh)) (congrArg (fun n=>Value.slice bg n bh) (show cl.length=a2.2.length from co.symm)) ?_;refine go ?_;obtain ⟨ep,df,hm⟩:=bZ hm;refine Zg (Uw 3 df (de.toSlF (Zj.int .u32))) ?_;rintro _ eq ⟨dg,er,es,rfl,bi,a3⟩;refine ⟨_,rfl,?_⟩;replace a3:=a3.thaw (Zx .u32) bi ((Fz.refl (col:=bx)).froz 2) (by decide);replace bi:=bi.thawR (col:=bx);generalize Z6 dc.heap.size bx dg=dh at *;refine X9 rfl<|Vd (col:=dh) [a2.1] 4 ?_;intro et di bz cp dj;obtain ⟨eu,dk,hm⟩:=bZ hm;refine Zg (Uw 5 dk (dj.toSlF (Zj.int .u32))) ?_;rintro _ ew ⟨dl,ey,ez,rfl,a4,b0⟩;refine ⟨_,rfl,?_⟩;replace b0:=b0.thaw (Zx .u32) a4 ((Fz.refl (col:=bz)).froz 4) (by decide);replace a4:=a4.thawR (col:=bz);generalize Z6 di.heap.size bz dl=e0 at *;refine go ?_;cases hm;replace aa:=((((aa.grow cn).kpp dd).grow bi).grow cp).grow a4;replace a3:=(a3.gr cp).gr a4;exact ⟨rfl,_,_,_,_,_,rfl,aa.fin (cm [(3,c1),(5,c2)]),aa.fo a3,aa.fo b0⟩
 obtain ⟨e1,b1,hm⟩:=bZ hm;refine lI b1 (ac.addr b1)<|lW (ac.atInt b1) ?_;obtain ⟨ah,dm,hm⟩:=bZ hm;refine Zg (Zvl (col:=ay) dm) ?_;rintro _ dn ⟨rfl,a5⟩;refine ⟨_,rfl,?_⟩;replace a5:Zf ay ck ay dn:=.of_below a5;refine go ?_;obtain ⟨e2,dp,hm⟩:=bZ hm;replace af:=af.gr a5;refine Zg (Zn2 6 dp af) ?_;rintro _ e3 ⟨e4,e5,e6,rfl,cq,a6⟩;refine ⟨_,rfl,go ?_⟩;obtain ⟨e7,dq,hm⟩:=bZ hm;replace ac:=(ac.gr a5).gr cq;refine Zg (Zn2 7 dq ac) ?_;rintro _ e8 ⟨e9,fa,fb,rfl,cr,dr⟩;refine ⟨_,rfl,?_⟩;obtain ⟨b2,ds,hm⟩:=bZ hm;refine Zg (Zk1 7 ds rfl dr) ?_;rintro _ dt ⟨du,dv,dw,rfl,cs,ag⟩;refine ⟨_,rfl,go ?_⟩;obtain ⟨bj,hm⟩:=Z0 hm;refine Sx (col:=du) (w:=dt) (r:=(Za.int .u32)) (n:=(Int.toNat (i64.wrap ((i64.wrap ((cx.length:Int) - (c0.length:Int)))+1)))) (x0:=0) 8 rfl underlying43 Tryz.t79 rfl rfl rfl rfl rfl (congrArg (Value.int _) (Int.toNat_of_nonneg bj.2.2).symm) (congrArg (Value.int _) (Int.toNat_of_nonneg bj.2.2).symm) bj.1 bj.2.1 (V5 .u32 0) ?_;intro fc fd fe b3 b4;refine go ?_;replace a6:=((a6.gr cr).kpp cs).gr b3;replace a6:=a6.froz 7 (by decide);replace ag:=ag.gr b3;replace ag:=(ag).toSlF (Zj.int .u32);replace b4:=b4.froz 7 (by decide);replace aa:=((((aa.grow a5).grow cq).grow cr).kpp cs).grow b3;replace aa:=aa.froz 7 (by decide) (by decide);refine Z2 [11,9,1000000] (fun n f a7=>∃ a8 ap aq a9 aj ak ad al ar,ar=n∧Zci N ah b2 ar a9 ad al=some r∧St w0 (Zi col) a8 a7∧Zc (Za.int .u32) 79 6 a8 a7 ap aq a9∧Sl (Za.int .u32) a8 a7 dv dw b2∧Zc (Za.int .u32) 79 8 a8 a7 aj ak ad∧[10,12,13].map f=[.slice ap a9.length aq,.slice aj ad.length ak,.int .i64 al]) N ⟨_,_,_,_,_,_,_,_,_,rfl,hm,aa,a6,ag,b4,rfl⟩ ?_;clear hm;intro n f a7 hI;obtain ⟨a8,ap,aq,a9,aj,ak,ad,al,ar,hn,hm,aa,b5,ag,ab,hs⟩:=hI;subst hn;refine .lL [10,12,13] hs ?_
 cases ar with
 | zero=>rw [Zci.eq_1] at hm;cases hm
 | succ ar=>
  rw [Zci.eq_2] at hm;refine go ?_;refine Zo hm (fun hb hm=>go ?_) fun hb hm=>go ?_
  ·obtain ⟨b6,hm⟩:=Z0 hm;refine lV (.slice (ap.map (·.add ((Int.toNat al) * 1))) ((Int.toNat (i64.wrap ((i64.wrap (al+(b2.length:Int)))+1))) - (Int.toNat al)) (aq - (Int.toNat al))) (Z0q underlying43 sizeOf79 rfl rfl rfl b6.1 b6.2.1 (by have:=b5.lecap;have:=b6.2.2;omega))<|Yu rfl ?_;obtain ⟨bk,dx,hm⟩:=bZ hm;refine Zg (Zvv 6 dx rfl b5 ag) ?_;rintro _ ff ⟨fg,rfl,b7,b8,dy⟩;refine ⟨_,rfl,?_⟩;refine .ld (d:=10) (v:=(.slice ap bk.2.length aq)) (congrArg (fun n=>Value.slice ap n aq) (show a9.length=bk.2.length from dy.symm)) ?_;obtain ⟨fh,b9,hm⟩:=bZ hm;replace ab:=ab.kpp b7;refine lI b9 (ab.addr b9) ?_;obtain ⟨ca,bm,hm⟩:=bZ hm;have bm:ca=ad.set (Int.toNat al) bk.1:=(Option.some.inj bm).symm;refine Y2 (x1:=bk.1) ab b9 ?_;intro fi cb dz ct;rw [← bm] at ct;refine .ld (d:=12) (v:=(.slice aj ca.length ak)) (congrArg (fun n=>Value.slice aj n ak) (show ad.length=ca.length by rw [bm,List.length_set])) ?_;refine go ?_;replace ag:=(ag.kpp b7).kp cb;replace aa:=(aa.kpp b7).kp cb dz;replace b8:=b8.kp cb;exact ⟨ar,by omega,rfl,⟨_,_,_,_,_,_,_,_,_,rfl,hm,aa,b8,ag,ct,rfl⟩⟩
  obtain ⟨cc,d0,hm⟩:=bZ hm;refine Zg (Zk1 6 d0 rfl b5) ?_;rintro _ fj ⟨fk,fl,fm,rfl,cu,d1⟩;refine ⟨_,rfl,go ?_⟩;replace ab:=ab.kpp cu;replace aa:=aa.kpp cu;refine Z2 [12,88,9,1000000] (fun n f ba=>∃ ao au av am aw an,an=n∧To N ah ad cc an am aw=some r∧St w0 (Zi col) ao ba∧Zc (Za.int .u32) 79 6 ao ba au av am∧Zc (Za.int .u32) 79 8 ao ba aj ak ad∧[10,89].map f=[.slice au am.length av,.int .i64 aw]) N ⟨_,_,_,_,0,_,rfl,hm,aa,d1,ab,rfl⟩ ?_;clear hm;intro n f ba hI;obtain ⟨ao,au,av,am,aw,an,hn,hm,aa,ae,ab,hs⟩:=hI;subst hn;refine .lL [10,89] hs ?_
  cases an with
  | zero=>rw [To.eq_1] at hm;cases hm
  | succ an=>
   rw [To.eq_2] at hm;refine go ?_;refine Zo hm (fun hb hm=>?_) fun hb hm=>go ?_
   ·refine X7<|Zu ?_;refine Wp.cutK [12,88,89,9,1000000] (fun f bn=>∃ bo cd ce bp,Zi5 aw (To N ah ad cc an) bp=some r∧St w0 (Zi col) bo bn∧Zc (Za.int .u32) 79 6 bo bn cd ce bp∧Zc (Za.int .u32) 79 8 bo bn aj ak ad∧[10].map f=[.slice cd bp.length ce]) ?_ ?_
    ·intro f bn hJ;obtain ⟨bo,cd,ce,bp,hm,aa,d2,ab,hs⟩:=hJ;rw [Zi5.eq_1] at hm;refine .lL [10] hs<|go ?_;exact ⟨an,by omega,rfl,⟨_,_,_,_,_,_,rfl,hm,aa,d2,ab,rfl⟩⟩
    refine Zfg<|Zu<|Wn<|X9 rfl<|Yk rfl<|Zl<|Zu<|Wn<|Yk rfl<|Zl<|Zu ?_;refine Wp.cutK [10,12,14,88,89,9,1000000] (fun f bq=>∃ br ai,Zeh ah am aw (To N ah ad cc an) ai=some r∧St w0 (Zi col) br bq∧Zc (Za.int .u32) 79 6 br bq au av am∧Zc (Za.int .u32) 79 8 br bq aj ak ad∧[15].map f=[.int .u32 ai]) ?_ ?_
    ·intro f bq hJ;obtain ⟨br,ai,hm,aa,ae,ab,hs⟩:=hJ;rw [Zeh.eq_1] at hm;refine .lL [15] hs<|go ?_;refine lV (.int .u64 (Xt .u64 (u64.wrap ai) 32)) (Zc4 (u64.wrap ai) 32 rfl rfl (by decide))<|go ?_;obtain ⟨bs,ax,hm⟩:=bZ hm;refine lI ax (ae.addr ax)<|lW (ae.atInt ax) ?_;refine go ?_;obtain ⟨d3,hm⟩:=Z0 hm;refine lV (.int .u64 (X8 .u64 (Yn .u64 (Xt .u64 (u64.wrap ai) 32) (u64.wrap bs)) ah)) (Tx (Yn .u64 (Xt .u64 (u64.wrap ai) 32) (u64.wrap bs)) ah rfl rfl d3)<|go ?_;refine lI ax (ae.addr ax) ?_;obtain ⟨cf,bt,hm⟩:=bZ hm;have bt:cf=am.set (Int.toNat aw) (u32.wrap (X8 .u64 (Yn .u64 (Xt .u64 (u64.wrap ai) 32) (u64.wrap bs)) ah)):=(Option.some.inj bt).symm;refine Y2 (x1:=u32.wrap (X8 .u64 (Yn .u64 (Xt .u64 (u64.wrap ai) 32) (u64.wrap bs)) ah)) ae ax ?_;intro fn cv d4 cw;rw [← bt] at cw;refine .ld (d:=10) (v:=(.slice au cf.length av)) (congrArg (fun n=>Value.slice au n av) (show am.length=cf.length by rw [bt,List.length_set])) ?_;refine Zl ?_;replace ab:=ab.kp cv;replace aa:=aa.kp cv d4;exact ⟨rfl,_,_,_,_,hm,aa,cw,ab,rfl⟩
    refine go ?_;refine Zo hm (fun hb hm=>go ?_) fun hb hm=>?_
    ·obtain ⟨fp,cg,hm⟩:=bZ hm;refine lI cg (ae.addr cg)<|lW (ae.atInt cg) ?_;refine go ?_;exact ⟨rfl,_,_,hm,aa,ae,ab,rfl⟩
    refine X7 ?_;exact ⟨rfl,_,0,hm,aa,ae,ab,rfl⟩
   obtain ⟨fq,d5,hm⟩:=bZ hm;refine Zg (Uw 9 d5 (ab.toSlF (Zj.int .u32))) ?_;rintro _ d6 ⟨d7,fr,ft,rfl,bb,bc⟩;refine ⟨_,rfl,?_⟩;replace bc:=bc.thaw (Zx .u32) bb ((Fz.refl (col:=ao)).froz 8) (by decide);replace bb:=bb.thawR (col:=ao);generalize Z6 ba.heap.size ao d7=ch at *;refine Yu rfl ?_;obtain ⟨fu,d8,hm⟩:=bZ hm;replace ae:=ae.gr bb;refine Zg (Uw 10 d8 (ae.toSlF (Zj.int .u32))) ?_;rintro _ fv ⟨d9,fw,fx,rfl,bd,ci⟩;refine ⟨_,rfl,?_⟩;replace ci:=ci.thaw (Zx .u32) bd ((Fz.refl (col:=ch)).froz 6) (by decide);replace bd:=bd.thawR (col:=ch);generalize Z6 d6.heap.size ch d9=fy at *;refine go ?_;cases hm;replace aa:=(aa.grow bb).grow bd;replace bc:=bc.gr bd;exact ⟨rfl,_,_,_,_,_,rfl,aa.fin (cm [(9,c1),(10,c2)]),aa.fo bc,aa.fo ci⟩
def Zgg (N:Nat) (ab:List Int):Option Int:=
  (V3 N ab).bind fun aa=>if (decide ((aa.length:Int)=0))=true then (some 0) else ((Zn aa (i64.wrap ((aa.length:Int) - 1))).bind fun ac=>(Zd6 ac).bind fun ad=>some (i64.wrap ((i64.wrap (32 * (i64.wrap ((aa.length:Int) - 1))))+ad)))
theorem Zvt {N af:Nat} {a0:Option Addr} {col:Zd} {w0:World} {ab:R2} {r:Int} (hm:Zgg N ab=some r) (h0:Sl (Za.int .u32) col w0 a0 af ab):
    Calls Tryz.prog 128 #[.slice a0 ab.length af] w0 (fun e w'=>e= .returned ((.int .i64 r))∧Below w0.heap.size w0 w'):=by
 refine Xc 2 (m:=20) func128 rfl rfl rfl rfl rfl ?_;rw [Zgg.eq_1] at hm;have aa:=St.start col w0;refine go ?_;obtain ⟨am,ah,hm⟩:=bZ hm;replace h0:=h0.keep (Zk.start col w0);refine Zg (Tf ah (h0.ks aa)) ?_;rintro _ ai ⟨ac,an,ao,rfl,aj,ag⟩;refine ⟨_,rfl,go ?_⟩;replace aa:=aa.grow aj;refine Zo hm (fun hb hm=>go ?_) fun hb hm=>go ?_
 ·cases hm;exact ⟨rfl,rfl,aa.below⟩
 obtain ⟨ap,ad,hm⟩:=bZ hm;refine lI ad (ag.addr ad)<|lW (ag.atInt ad) ?_;obtain ⟨aq,ak,hm⟩:=bZ hm;refine Zg (Znx (col:=ac) ak) ?_;rintro _ al ⟨rfl,ae⟩;refine ⟨_,rfl,?_⟩;replace ae:Zf ac ai ac al:=.of_below ae;refine go ?_;cases hm;replace aa:=aa.grow ae;exact ⟨rfl,rfl,aa.below⟩
def Z3 (n:Nat):Nat:=if n=0 then 0 else n.log2+1
theorem Zdc:Z3 0=0:=rfl
theorem Znp {n k:Nat} (h:2 ^ k≤n) (h2:n<2 ^ (k+1)):Z3 n=k+1:=by
 have h0:n≠0:=by have:=Nat.two_pow_pos k;omega
 rw [Z3,if_neg h0,(Nat.log2_eq_iff h0).2 ⟨h,h2⟩]
theorem Zib {n:Nat} (h:n≠0):∃ k,Z3 n=k+1∧2 ^ k≤n∧n<2 ^ (k+1):=by
 refine ⟨n.log2,by rw [Z3,if_neg h],?_⟩
 exact (Nat.log2_eq_iff h).1 rfl
theorem Vc {n k:Nat}:Z3 n≤k↔n<2 ^ k:=by
 by_cases h:n=0
 ·subst h;simp [Zdc,Nat.two_pow_pos]
 ·obtain ⟨j,e,h1,h2⟩:=Zib h
  rw [e]
  constructor
  ·intro hk;exact Nat.lt_of_lt_of_le h2 (Nat.pow_le_pow_right (by decide) hk)
  ·intro hk
   have:=(Nat.pow_lt_pow_iff_right (a:=2) (by decide)).1 (Nat.lt_of_le_of_lt h1 hk)
   omega
theorem Zfo (n k:Nat):Z3 (n / 2 ^ k)=Z3 n - k:=by
 by_cases h:n / 2 ^ k=0
 ·have h1:n<2 ^ k:=by
   have:=Nat.two_pow_pos k
   rcases Nat.div_eq_zero_iff.1 h with h | h
   ·omega
   ·exact h
  have:=Vc.2 h1
  rw [h,Zdc];omega
 ·obtain ⟨j,e,h1,h2⟩:=Zib h
  have hp:=Nat.two_pow_pos k
  have h3:2 ^ (j+k)≤n:=by
   rw [Nat.pow_add]
   exact (Nat.le_div_iff_mul_le hp).1 h1
  have h4:n<2 ^ (j+k+1):=by
   have:=(Nat.div_lt_iff_lt_mul hp).1 h2
   rw [show j+k+1=(j+1)+k by omega,Nat.pow_add];exact this
  rw [e,Znp h3 h4];omega
theorem Zyt:∀ x:Fin 256,Zcb (x.val:Int) 0=some ((Z3 x.val:Nat):Int):=by decide+kernel
theorem Zqg {x:Nat} (h:x<256) {n:Int} (hn:0≤n∧n≤24):Zcb (x:Int) n=some (n+(Z3 x:Int)):=by
 have h0:=Zyt ⟨x,h⟩
 have hb:Z3 x≤8:=Vc.2 h
 rw [Zcb] at h0 ⊢
 revert h0
 generalize Zh6 _ _=o
 intro h0
 cases o with
 | none=>cases h0
 | some e=>
  rw [Option.bind_some] at h0 ⊢
  have h1:=Option.some.inj h0
  rw [IntKind.wrap_i64,IntKind.wrap_i64] at h1 ⊢
  congr 1
  simp only at h1
  omega
theorem Zkc (i:IntKind) (x k:Nat) (hk:k≤i.bits):X8 i (x:Int) (k:Int)=((x / 2 ^ k:Nat):Int):=by
 rw [X8,Int.toNat_natCast,Nat.min_eq_left hk,Int.fdiv_eq_ediv_of_nonneg _ (Int.le_of_lt (Int.pow_pos (by decide)))]
 norm_cast
theorem Zqf {x:Nat} (h:x<4294967296):Zd6 (x:Int)=some ((Z3 x:Nat):Int):=by
 have j1:∀ (y:Nat) (n:Int),y<65536→0≤n∧n≤16→Zd7 (y:Int) n=some (n+(Z3 y:Int)):=fun y n hy hn=>by
  rw [Zd7]
  by_cases h1:256≤y
  ·have e:=Zkc .u32 y 8 (by decide)
   have hb:=Zfo y 8
   have hb8:8≤Z3 y:=by
    have:¬ Z3 y≤7:=fun h=>by have:=Vc.1 h;omega
    omega
   rw [if_pos (by simp;omega),show (8:Int)=((8:Nat):Int) from rfl,e,Zqg (by omega) (by rw [Zy (by omega)];omega),Zy (by omega),hb]
   congr 1;omega
  ·rw [if_neg (by simp;omega),Zqg (by omega) (by omega)]
 rw [Zd6]
 by_cases h1:65536≤x
 ·have e:=Zkc .u32 x 16 (by decide)
  have hb:=Zfo x 16
  have hb8:16≤Z3 x:=by
   have:¬ Z3 x≤15:=fun h=>by have:=Vc.1 h;omega
   omega
  rw [if_pos (by simp;omega),show (16:Int)=((16:Nat):Int) from rfl,e,j1 _ _ (by omega) (by omega),hb]
  congr 1;omega
 ·rw [if_neg (by simp;omega),j1 _ _ (by omega) (by omega)]
  congr 1;omega
theorem Znr {a:List Int} {x:Int} (ha:Zm a) (hx:0<x∧x<4294967296):Z3 (Zb (a++[x]))=32 * a.length+Z3 x.toNat:=by
 obtain ⟨k,e,h1,h2⟩:=Zib (show x.toNat≠0 by omega)
 have hl:=Tt ha
 have e1:Zb (a++[x])=Zb a+4294967296 ^ a.length * x.toNat:=by rw [Ts,Yv,Ye];simp
 have e2:(4294967296:Nat) ^ a.length=2 ^ (32 * a.length):=by rw [show (4294967296:Nat)=2 ^ 32 by decide,← Nat.pow_mul]
 rw [e]
 have:=Znp (n:=Zb (a++[x])) (k:=32 * a.length+k) (by
   rw [e1,e2,Nat.pow_add]
   have:=Nat.mul_le_mul_left (2 ^ (32 * a.length)) h1
   omega) (by
   rw [e1,show 32 * a.length+k+1=32 * a.length+(k+1) by omega,Nat.pow_add,e2]
   have:=Nat.mul_le_mul_left (2 ^ (32 * a.length)) (show x.toNat+1≤2 ^ (k+1) by omega)
   rw [Nat.mul_add] at this
   rw [e2] at hl
   omega)
 rw [this];omega
theorem Zh9 (n:Nat):32 * ((Ze n).length - 1)≤Z3 n∧Z3 n≤32 * (Ze n).length:=by
 have e:∀ k,(4294967296:Nat) ^ k=2 ^ (32 * k):=fun k=>by rw [show (4294967296:Nat)=2 ^ 32 by decide,← Nat.pow_mul]
 constructor
 ·by_cases h:32 * ((Ze n).length - 1)≤Z3 n
  ·exact h
  ·exfalso
   have h1:=Vc.1 (show Z3 n≤32 * ((Ze n).length - 1) by omega)
   rw [← e] at h1
   have:=Wh.2 h1
   omega
 ·have:=Wh.1 (Nat.le_refl (Ze n).length)
  rw [e] at this
  exact Vc.2 this
theorem Zu1 {N:Nat} {a:List Int} (h:Zm a) (hn:a.length<N) (hb:a.length≤1099511627776):Zgg N a=some ((Z3 (Zb a):Nat):Int):=by
 have hl:=Ym h
 rw [Zgg,T0 h hn hb,Option.bind_some]
 by_cases h0:(Ze (Zb a)).length=0
 ·have:Zb a=0:=Zdo.1 (List.eq_nil_of_length_eq_zero h0)
  rw [if_pos (by simp [h0]),this,Zdc];rfl
 ·have hp:0<(Ze (Zb a)).length:=by omega
  have e:((Ze (Zb a)).length:Int) - 1=(((Ze (Zb a)).length - 1:Nat):Int):=by omega
  have hx:=(Z5 (Zb a)).get (k:=(Ze (Zb a)).length - 1) (by omega)
  have hne:=Ziw hp
  have hs:=Zdn hp
  have e2:(Ze (Zb a))[(Ze (Zb a)).length - 1]=(((Ze (Zb a))[(Ze (Zb a)).length - 1]).toNat:Int):=by omega
  rw [if_neg (by simpa using h0),Zy (by omega),e,Xb (by omega),Option.bind_some,e2,Zqf (by omega),Option.bind_some]
  have hb:=Znr (a:=(Ze (Zb a)).take ((Ze (Zb a)).length - 1)) (x:=(Ze (Zb a))[(Ze (Zb a)).length - 1]) ((Z5 _).take _) (by omega)
  rw [hs,Z1,List.length_take,Nat.min_eq_left (by omega)] at hb
  have hb2:Z3 ((Ze (Zb a))[(Ze (Zb a)).length - 1]).toNat≤32:=Vc.2 (by omega)
  rw [Zy (x:=32 * _) (by omega),Zy (by omega),hb]
  congr 1
theorem Zde (w x:Nat) (h:x<2 ^ w):(BitVec.ofInt w (x:Int)).toNat=x:=by
 rw [BitVec.toNat_ofInt]
 have:((2 ^ w:Nat):Int)=(2:Int) ^ w:=by norm_cast
 rw [← Int.natCast_emod,Int.toNat_natCast,Nat.mod_eq_of_lt h]
theorem or64 (k a b:Nat) (h:b<2 ^ k) (hs:2 ^ k * a+b<18446744073709551616):Yn .u64 ((2 ^ k * a:Nat):Int) (b:Int)=((2 ^ k * a+b:Nat):Int):=by
 rw [Yn,BitVec.toNat_or,Zde _ _ (by simp only [IntKind.bits];omega),Zde _ _ (by simp only [IntKind.bits];omega),← Nat.two_pow_add_eq_or_of_lt h,IntKind.wrap_u64]
 omega
theorem or32 (k a b:Nat) (h:b<2 ^ k) (hs:2 ^ k * a+b<4294967296):Yn .u32 (b:Int) ((2 ^ k * a:Nat):Int)=((2 ^ k * a+b:Nat):Int):=by
 rw [Yn,BitVec.toNat_or,Zde _ _ (by simp only [IntKind.bits];omega),Zde _ _ (by simp only [IntKind.bits];omega),Nat.or_comm,← Nat.two_pow_add_eq_or_of_lt h,IntKind.wrap_u32]
 omega
theorem Z04 {x:Int} (h:0≤x∧x<4294967296):Xt .u64 x 32=x * 4294967296:=by
 have:(min (32:Int).toNat u64.bits)=32:=by decide
 rw [Xt,this,IntKind.wrap_u64]
 omega
theorem Zkg {r e:Int} (hr:0≤r∧r<4294967296) (he:0≤e∧e<4294967296):Yn .u64 (Xt .u64 r 32) e=r * 4294967296+e:=by
 rw [Z04 hr]
 have:=or64 32 r.toNat e.toNat (by omega) (by omega)
 rw [show ((2 ^ 32 * r.toNat:Nat):Int)=r * 4294967296 by omega,show ((e.toNat:Nat):Int)=e by omega] at this
 rw [this];omega
theorem Zbt {l:List Int} {k j:Nat} (v:Int) (h:j≤k):(l.set k v).take j=l.take j:=by
 rw [List.take_set,List.set_eq_of_length_le]
 rw [List.length_take];omega
theorem Zts (N:Nat) (d:Int) (hd:0<d∧d<4294967296):∀ (n j:Nat) (r:List Int) (c:Int),j≤r.length→j<n→r.length<4611686018427387904→Zm r→0≤c∧c<d→
  ∃ c' r',Zcm N d n r c ((j:Int) - 1)=some (c',r')∧r'.length=r.length∧Zm r'∧0≤c'∧c'<d∧d.toNat * Zb r'+c'.toNat=Zb (r.take j)+4294967296 ^ j * (c.toNat+d.toNat * Zb (r.drop j))
 | 0,j,r,c,_,h,_,_,_=>by omega
 | n+1,j,r,c,hj,hn,hs,hr,hc=>by
  rw [Zcm.eq_2]
  by_cases h0:j=0
  ·subst h0
   rw [if_neg (by decide),Vm (by omega)]
   refine ⟨c,r,rfl,rfl,hr,hc.1,hc.2,?_⟩
   rw [List.take_zero,List.drop_zero,Ye];omega
  ·have e:(j:Int) - 1=((j - 1:Nat):Int):=by omega
   have hk:j - 1<r.length:=by omega
   have g:=hr.get hk
   rw [if_pos (by simp;omega),e,Xb hk,Option.bind_some,Xe (x:=d) (by omega),Xd (by omega),Option.bind_some,Xd (by omega),Int.toNat_natCast,Xe (x:=r[j - 1]) (by omega),Zkg (by omega) (by omega)]
   generalize hcur:c * 4294967296+r[j - 1]=cur
   have hcd:(c+1) * 4294967296≤d * 4294967296:=by omega
   have hq:0≤cur / d∧cur / d<4294967296:=⟨Int.ediv_nonneg (by omega) (by omega),Int.ediv_lt_of_lt_mul hd.1 (by rw [Int.mul_comm];omega)⟩
   have hm:=Int.emod_nonneg cur (show d≠0 by omega)
   have hm2:=Int.emod_lt_of_pos cur hd.1
   have hdm:=Int.mul_ediv_add_emod cur d
   rw [Int.tdiv_eq_ediv_of_nonneg (by omega),Int.tmod_eq_emod_of_nonneg (by omega),Xe (by omega),Vm hq,Zy (by omega)]
   obtain ⟨c',r',q1,q2,q3,q4,q5,q6⟩:=Zts N d hd n (j - 1) (r.set (j - 1) (cur / d)) (cur % d) (by rw [List.length_set];omega) (by omega) (by rw [List.length_set];exact hs) (hr.set _ hq) ⟨hm,hm2⟩
   refine ⟨c',r',q1,by rw [q2,List.length_set],q3,q4,q5,?_⟩
   rw [q6,Zbt _ (Nat.le_refl _)]
   have t1:=Zmj hk
   have t2:Zb ((r.set (j - 1) (cur / d)).drop (j - 1))=(cur / d).toNat+4294967296 * Zb (r.drop (j - 1+1)):=by
    rw [Vs (by rw [List.length_set];exact hk),List.getElem_set_self,Qo _ (by omega)]
   rw [show j - 1+1=j by omega] at t1 t2
   rw [t1,t2]
   have hp:(4294967296:Nat) ^ j=4294967296 ^ (j - 1) * 4294967296:=by rw [← Nat.pow_succ,show (j - 1).succ=j by omega]
   rw [hp]
   have hn1:d.toNat * (cur / d).toNat+(cur % d).toNat=c.toNat * 4294967296+(r[j - 1]).toNat:=by
    have:((d.toNat * (cur / d).toNat:Nat):Int)=d * (cur / d):=by rw [Int.natCast_mul,Int.toNat_of_nonneg (by omega),Int.toNat_of_nonneg hq.1]
    omega
   generalize hQ:4294967296 ^ (j - 1)=Q
   have hn2:Q * (d.toNat * (cur / d).toNat+(cur % d).toNat)=Q * (c.toNat * 4294967296+(r[j - 1]).toNat):=by rw [hn1]
   grind
theorem Z06 {N:Nat} {a:List Int} {d:Int} (hd:0<d∧d<4294967296) (ha:Zm a) (hn:a.length<N) (hs:a.length≤1099511627776):
  ∃ q,Zen N a d=some (((Zb a % d.toNat:Nat):Int),q)∧q.length=a.length∧Zm q∧Zb q=Zb a / d.toNat:=by
 obtain ⟨c',r',q1,q2,q3,q4,q5,q6⟩:=Zts N d hd N a.length a 0 (Nat.le_refl _) hn (by omega) ha (by omega)
 have hd':0<d.toNat:=by omega
 rw [List.take_length,List.drop_length,Ye] at q6
 have h1:Zb a=c'.toNat+d.toNat * Zb r':=by simp at q6;omega
 have h2:Zb a % d.toNat=c'.toNat:=by rw [h1,Nat.add_mul_mod_self_left,Nat.mod_eq_of_lt (by omega)]
 have h3:Zb a / d.toNat=Zb r':=by rw [h1,Nat.add_mul_div_left _ _ hd',Nat.div_eq_of_lt (by omega),Nat.zero_add]
 refine ⟨r',?_,q2,q3,h3.symm⟩
 rw [Zen,Zy (by omega),q1,h2]
 congr 2;omega
theorem Zna {i:IntKind} {x s:Nat} (hs:s<32) (hi:i= .u32∨i= .u64):Xt i (x:Int) (s:Int)=i.wrap ((x * 2 ^ s:Nat):Int):=by
 rw [Xt,Int.toNat_natCast,Nat.min_eq_left (by rcases hi with rfl | rfl <;> simp only [IntKind.bits] <;> omega)]
 norm_cast
theorem Zuq (n:Nat):u32.wrap (n:Int)=((n % 4294967296:Nat):Int):=by rw [IntKind.wrap_u32];omega
theorem Zqd (s:Nat) (hs:s<32):∀ (l:List Int) (k:Nat) (out:List Int),Zm l→out.length=k+l.length+1→out.length<4611686018427387904→Zm out→Zb (out.drop (k+1))=0→(∀ h:k<out.length,(out[k]).toNat<2 ^ s)→
  ∃ out',Zbc (s:Int) l k out=some out'∧out'.length=out.length∧Zm out'∧Zb out'=Zb out+4294967296 ^ k * (2 ^ s * Zb l)∧(∀ h:out'.length - 1<out'.length,(out'[out'.length - 1]).toNat<2 ^ s)
 | [],k,out,_,hl,_,ho,_,hk=>by
  rw [Zbc.eq_1]
  rw [List.length_nil] at hl
  refine ⟨out,rfl,rfl,ho,by rw [Ye];omega,fun h=>?_⟩
  have:=hk (by omega)
  simpa [hl] using this
 | x :: l,k,out,hx,hl,hz,ho,hd,hk=>by
  rw [List.length_cons] at hl
  have h0:k<out.length:=by omega
  have h1:k+1<out.length:=by omega
  have gx:=hx.head
  have gk:=ho.get h0
  have gs:=hk h0
  have hz1:=drop_zero ho h1 hd
  have e1:i64.wrap ((k:Int)+1)=((k+1:Nat):Int):=by rw [Zy (by omega)];omega
  have ex:x=(x.toNat:Int):=by omega
  have ek:out[k]=((out[k]).toNat:Int):=by omega
  have pw:(2:Nat) ^ s * 2 ^ (32 - s)=4294967296:=by rw [← Nat.pow_add,show s+(32 - s)=32 by omega]
  have hps:=Nat.two_pow_pos s
  have hp2:=Nat.two_pow_pos (32 - s)
  -- the lower and the upper limb
  have hxs:x.toNat * 2 ^ s<4294967296 * 2 ^ s:=Nat.mul_lt_mul_of_pos_right (by omega) hps
  have hs31:2 ^ s≤2147483648:=by
   have:=Nat.pow_le_pow_right (n:=2) (by decide) (show s≤31 by omega)
   omega
  have hlow:(x.toNat * 2 ^ s) % 4294967296=2 ^ s * (x.toNat % 2 ^ (32 - s)):=by
   rw [← pw,Nat.mul_comm x.toNat,Nat.mul_mod_mul_left]
  have hlo:Yn .u32 out[k] (Xt .u32 x (s:Int))=(((x.toNat * 2 ^ s) % 4294967296+(out[k]).toNat:Nat):Int):=by
   rw [ex,Zna hs (.inl rfl),Zuq,ek]
   simp only [Int.toNat_natCast]
   rw [hlow]
   refine or32 s _ _ gs ?_
   have:2 ^ s * (x.toNat % 2 ^ (32 - s)+1)≤2 ^ s * 2 ^ (32 - s):=Nat.mul_le_mul_left _ (Nat.mod_lt _ hp2)
   rw [pw,Nat.mul_add] at this
   omega
  have hhi:u32.wrap (X8 .u64 (Xt .u64 (u64.wrap x) (s:Int)) 32)=((x.toNat * 2 ^ s / 4294967296:Nat):Int):=by
   rw [Xe (x:=x) (by omega),ex,Zna hs (.inr rfl),Zc5,Xe (by omega)]
   simp only [Int.toNat_natCast]
   rw [Vm (by omega)]
   omega
  have hhs:x.toNat * 2 ^ s / 4294967296<2 ^ s:=(Nat.div_lt_iff_lt_mul (by decide)).2 (by rw [Nat.mul_comm (2 ^ s)];exact hxs)
  have hlow2:(x.toNat * 2 ^ s) % 4294967296+(out[k]).toNat<4294967296:=by
   rw [hlow]
   have:2 ^ s * (x.toNat % 2 ^ (32 - s)+1)≤2 ^ s * 2 ^ (32 - s):=Nat.mul_le_mul_left _ (Nat.mod_lt _ hp2)
   rw [pw,Nat.mul_add] at this
   omega
  rw [Zbc.eq_2,Xb h0,Option.bind_some,Xd (by omega),Option.bind_some,Xd (by omega),e1,Int.toNat_natCast,Int.toNat_natCast,
   Xb (by rw [List.length_set];exact h1),Option.bind_some,Option.bind_some,hlo,hhi]
  generalize hA:(x.toNat * 2 ^ s) % 4294967296+(out[k]).toNat=A at hlow2
  generalize hB:x.toNat * 2 ^ s / 4294967296=B at hhs
  have o1:Zm (out.set k (A:Int)):=ho.set _ (by omega)
  have o2:Zm ((out.set k (A:Int)).set (k+1) (B:Int)):=o1.set _ (by omega)
  obtain ⟨out',q1,q2,q3,q4,q5⟩:=Zqd s hs l (k+1) ((out.set k (A:Int)).set (k+1) (B:Int)) hx.tail (by rw [List.length_set,List.length_set];omega) (by rw [List.length_set,List.length_set];exact hz) o2 (by
   rw [Qo _ (by omega),Qo _ (by omega)];exact hz1.2) (fun h=>by rw [List.getElem_set_self];simpa using hhs)
  refine ⟨out',q1,by rw [q2,List.length_set,List.length_set],q3,?_,q5⟩
  have v1:=U4 h0 (A:Int)
  have v2:=U4 (l:=out.set k (A:Int)) (k:=k+1) (by rw [List.length_set];exact h1) (B:Int)
  rw [List.getElem_set_ne (by omega),hz1.1] at v2
  rw [Int.toNat_natCast] at v1 v2
  rw [Int.toNat_zero,Nat.mul_zero,Nat.add_zero] at v2
  rw [q4,Yv]
  rw [Nat.pow_succ] at v2 ⊢
  have key:A+4294967296 * B=(out[k]).toNat+x.toNat * 2 ^ s:=by omega
  generalize 4294967296 ^ k=Q at *
  have key2:Q * (A+4294967296 * B)=Q * ((out[k]).toNat+x.toNat * 2 ^ s):=by rw [key]
  grind
theorem Zqe {a:List Int} {s:Nat} (hs:s<32) (ha:Zm a) (hb:a.length<1099511627776):
  ∃ o,Zek a (s:Int)=some o∧o.length=a.length+1∧Zm o∧Zb o=2 ^ s * Zb a∧∀ h:o.length - 1<o.length,(o[o.length - 1]).toNat<2 ^ s:=by
 rw [Zek,Zy (by omega),Xd (by simp only [maxLen];omega)]
 have e:Int.toNat ((a.length:Int)+1)=a.length+1:=by omega
 rw [e]
 obtain ⟨o,q1,q2,q3,q4,q5⟩:=Zqd s hs a 0 (List.replicate (a.length+1) 0) ha (by rw [List.length_replicate];omega) (by rw [List.length_replicate];omega) (.zeros _) (by rw [List.drop_replicate];exact Tu _) (fun h=>by
  rw [List.getElem_replicate];exact Nat.two_pow_pos s)
 refine ⟨o,q1,by rw [q2,List.length_replicate],q3,?_,q5⟩
 rw [q4,Tu,Nat.pow_zero];omega
theorem Zw8 (g:Int) (u:List Int):Zgl g u=Q8 g u:=rfl
theorem Zo1 (j0 n0:Nat) (v:List Int) (g:Int):∀ (l:List Int) (k:Nat) (u:List Int) (c:Int),Zbb j0 n0 v g l k u c=U1 j0 n0 v (u64.wrap (g - 1)) l k u c
 | [],k,u,c=>by rw [Zbb.eq_1,U1.eq_1];rfl
 | x :: l,k,u,c=>by
  rw [Zbb.eq_2,U1.eq_2]
  simp only [Zo1 j0 n0 v g l]
theorem Zo0 (j0 n0:Nat) (v:List Int) (g:Int):∀ (l:List Int) (k:Nat) (u:List Int) (b c:Int),Sd j0 n0 v g l k u b c=Vh j0 n0 v (u64.wrap (g - 1)) l k u b c
 | [],k,u,b,c=>by
  rw [Sd.eq_1,Vh.eq_1]
  simp only [Zo1,Zw8]
 | x :: l,k,u,b,c=>by
  rw [Sd.eq_2,Vh.eq_2]
  simp only [Zgm,Zcl,Zi6,Zgn,Zo0 j0 n0 v g l]
theorem Zqs {x:Int} (h:0≤x∧x<18446744073709551616):Uo .u64 x 4294967295=x % 4294967296:=by
 have e:x=(x.toNat:Int):=by omega
 rw [Uo,BitVec.toNat_and,e,Zde _ _ (by simp only [IntKind.bits];omega),show (4294967295:Int)=((2 ^ 32 - 1:Nat):Int) by decide,Zde _ _ (by simp only [IntKind.bits];omega),Nat.and_two_pow_sub_one_eq_mod,IntKind.wrap_u64]
 omega
theorem Zuy (S S' S2 Q e v x c c' L T:Nat) (h1:S'+Q * e=S+Q * v) (h2:c+(e+x)=v+4294967296 * c') (h3:S2+T=S'+Q * 4294967296 * (c'+L)):S2+T=S+Q * (c+(x+4294967296 * L)):=by
 have:Q * (c+(e+x))=Q * (v+4294967296 * c'):=by rw [h2]
 grind
theorem Zft {l:List Int} {k j:Nat} (v:Int) (h:k<j):(l.set k v).drop j=l.drop j:=Qo v h
theorem Zo3 (j0:Nat) (v:List Int) (g:Int):∀ (l:List Int) (k:Nat) (u:List Int) (c:Int),Zm l→k+l.length=v.length→Zm u→j0+v.length<u.length→0≤c∧c≤1→
  ∃ u' co,U1 j0 (v.length+1) v g l k u c=some (u32.wrap (u64.wrap (g - 1)),u')∧u'.length=u.length∧Zm u'∧u'.take j0=u.take j0∧u'.drop (j0+v.length+1)=u.drop (j0+v.length+1)∧Zb u'+co * 4294967296 ^ (j0+v.length+1)=Zb u+4294967296 ^ (j0+k) * (c.toNat+Zb l)
 | [],k,u,c,_,hk,hu,hl,hc=>by
  have hk':k=v.length:=by simpa using hk
  subst hk'
  have g0:=hu.get hl
  rw [U1.eq_1,Xd (by omega),show (j0:Int)+(v.length:Int)=((j0+v.length:Nat):Int) by omega,Xb hl,Option.bind_some,Xd (by omega),Option.bind_some,Option.bind_some,Int.toNat_natCast,Q8,Vm (x:=c) (by omega)]
  have hw:0≤u32.wrap (u[j0+v.length]+c)∧u32.wrap (u[j0+v.length]+c)<4294967296:=by rw [IntKind.wrap_u32];omega
  refine ⟨_,((u[j0+v.length]+c) / 4294967296).toNat,rfl,by rw [List.length_set],hu.set _ hw,Zbt _ (by omega),Zft _ (by omega),?_⟩
  have h1:=U4 hl (u32.wrap (u[j0+v.length]+c))
  have h2:(u[j0+v.length]).toNat+c.toNat=(u32.wrap (u[j0+v.length]+c)).toNat+4294967296 * ((u[j0+v.length]+c) / 4294967296).toNat:=by rw [IntKind.wrap_u32];omega
  rw [Nat.pow_succ,Ye]
  generalize 4294967296 ^ (j0+v.length)=Q at *
  have h3:Q * ((u[j0+v.length]).toNat+c.toNat)=Q * ((u32.wrap (u[j0+v.length]+c)).toNat+4294967296 * ((u[j0+v.length]+c) / 4294967296).toNat):=by rw [h2]
  grind
 | x :: l,k,u,c,hx,hk,hu,hl,hc=>by
  rw [List.length_cons] at hk
  have hjk:j0+k<u.length:=by omega
  have g0:=hu.get hjk
  have gx:=hx.head
  rw [U1.eq_2,Xd (by omega),show (j0:Int)+(k:Int)=((j0+k:Nat):Int) by omega,Xb hjk,Option.bind_some,Xd (by omega),Option.bind_some,Option.bind_some,Int.toNat_natCast,Xe (x:=u[j0+k]) (by omega),Xe (x:=x) (by omega),Xe (x:=u[j0+k]+x) (by omega),Xe (by omega),Zc5]
  generalize hs:c+(u[j0+k]+x)=s
  have hw:0≤u32.wrap s∧u32.wrap s<4294967296:=by rw [IntKind.wrap_u32];omega
  obtain ⟨u',co,q1,q2,q3,q4,q5,q6⟩:=Zo3 j0 v g l (k+1) (u.set (j0+k) (u32.wrap s)) (s / 4294967296) hx.tail (by omega) (hu.set _ hw) (by rw [List.length_set];exact hl) (by omega)
  refine ⟨u',co,q1,by rw [q2,List.length_set],q3,by rw [q4,Zbt _ (by omega)],by rw [q5,Zft _ (by omega)],?_⟩
  rw [Yv]
  rw [← Nat.add_assoc j0 k 1,Nat.pow_succ] at q6
  exact Zuy _ _ _ _ _ _ _ _ _ _ _ (U4 hjk _) (by rw [IntKind.wrap_u32];omega) q6
theorem Zzp (S S' S2 Q e w x g b b' c c' t L T:Nat) (h1:S'+Q * e=S+Q * w) (h2:c+g * x=t+4294967296 * c') (h3:e+4294967296 * b'=t+b+w) (h4:S2+Q * 4294967296 * (c'+b'+g * L)=S'+T):S2+Q * (c+b+g * (x+4294967296 * L))=S+T:=by
 have e1:Q * (c+g * x)=Q * (t+4294967296 * c'):=by rw [h2]
 have e2:Q * (e+4294967296 * b')=Q * (t+b+w):=by rw [h3]
 grind
theorem Zo2 (j0:Nat) (v:List Int) (g:Int) (hg:0≤g∧g<4294967296):∀ (l:List Int) (k:Nat) (u:List Int) (b c:Int),Zm l→k+l.length=v.length→Zm u→j0+v.length<u.length→0≤b∧b≤1→0≤c∧c<4294967296→
  ∃ u' over,over≤1∧Vh j0 (v.length+1) v g l k u b c=(if over=1 then U1 j0 (v.length+1) v g v 0 u' 0 else Q8 g u')∧u'.length=u.length∧Zm u'∧u'.take j0=u.take j0∧u'.drop (j0+v.length+1)=u.drop (j0+v.length+1)∧
   Zb u'+4294967296 ^ (j0+k) * (c.toNat+b.toNat+g.toNat * Zb l)=Zb u+over * 4294967296 ^ (j0+v.length+1)
 | [],k,u,b,c,_,hk,hu,hl,hb,hc=>by
  have hk':k=v.length:=by simpa using hk
  subst hk'
  have g0:=hu.get hl
  rw [Vh.eq_1,Xd (by omega),show (j0:Int)+(v.length:Int)=((j0+v.length:Nat):Int) by omega,Xb hl,Option.bind_some,Xd (by omega),Option.bind_some,Xd (by omega),Option.bind_some,Option.bind_some,Int.toNat_natCast,Xe (x:=c+b) (by omega),Xe (x:=u[j0+v.length]) (by omega)]
  have hw:0≤u32.wrap (u[j0+v.length] - u32.wrap (c+b))∧u32.wrap (u[j0+v.length] - u32.wrap (c+b))<4294967296:=by rw [IntKind.wrap_u32];omega
  have h1:=U4 hl (u32.wrap (u[j0+v.length] - u32.wrap (c+b)))
  have fin:∀ over:Nat,(u[j0+v.length]).toNat+4294967296 * over=c.toNat+b.toNat+(u32.wrap (u[j0+v.length] - u32.wrap (c+b))).toNat→Zb (u.set (j0+v.length) (u32.wrap (u[j0+v.length] - u32.wrap (c+b))))+4294967296 ^ (j0+v.length) * (c.toNat+b.toNat+g.toNat * Zb [])=Zb u+over * 4294967296 ^ (j0+v.length+1):=fun over h2=>by
   rw [Nat.pow_succ,Ye]
   generalize 4294967296 ^ (j0+v.length)=Q at *
   have h3:Q * ((u[j0+v.length]).toNat+4294967296 * over)=Q * (c.toNat+b.toNat+(u32.wrap (u[j0+v.length] - u32.wrap (c+b))).toNat):=by rw [h2]
   grind
  by_cases hlt:u[j0+v.length]<c+b
  ·refine ⟨_,1,Nat.le_refl _,by rw [if_pos (by simpa using hlt),if_pos rfl],by rw [List.length_set],hu.set _ hw,Zbt _ (by omega),Zft _ (by omega),fin 1 (by rw [IntKind.wrap_u32,IntKind.wrap_u32];omega)⟩
  ·refine ⟨_,0,by decide,by rw [if_neg (by simpa using hlt),if_neg (by decide)],by rw [List.length_set],hu.set _ hw,Zbt _ (by omega),Zft _ (by omega),fin 0 (by rw [IntKind.wrap_u32,IntKind.wrap_u32];omega)⟩
 | x :: l,k,u,b,c,hx,hk,hu,hl,hb,hc=>by
  rw [List.length_cons] at hk
  have hjk:j0+k<u.length:=by omega
  have g0:=hu.get hjk
  have gx:=hx.head
  have hm:g * x≤4294967295 * 4294967295:=Int.mul_le_mul (by omega) (by omega) (by omega) (by omega)
  have hm0:0≤g * x:=Int.mul_nonneg hg.1 gx.1
  have hgx:((g.toNat * x.toNat:Nat):Int)=g * x:=by rw [Int.natCast_mul,Int.toNat_of_nonneg hg.1,Int.toNat_of_nonneg gx.1]
  rw [Vh.eq_2,Xd (by omega),show (j0:Int)+(k:Int)=((j0+k:Nat):Int) by omega,Xb hjk,Option.bind_some,Xe (x:=u[j0+k]) (by omega),Xe (x:=x) (by omega),Xe (x:=g * x) (by omega),Xe (x:=c+g * x) (by omega),Zqs (by omega)]
  generalize ht0:c+g * x=t0
  rw [Xe (x:=t0 % 4294967296+b) (by omega)]
  have fin:∀ b':Int,0≤b'∧b'≤1→u[j0+k]+4294967296 * b'=t0 % 4294967296+b+u32.wrap (u[j0+k] - u32.wrap (t0 % 4294967296+b))→
    ∃ u' over,over≤1∧Zcl j0 (v.length+1) g u b k c (Vh j0 (v.length+1) v g l) x b'=(if over=1 then U1 j0 (v.length+1) v g v 0 u' 0 else Q8 g u')∧u'.length=u.length∧Zm u'∧u'.take j0=u.take j0∧u'.drop (j0+v.length+1)=u.drop (j0+v.length+1)∧
     Zb u'+4294967296 ^ (j0+k) * (c.toNat+b.toNat+g.toNat * Zb (x :: l))=Zb u+over * 4294967296 ^ (j0+v.length+1):=fun b' hb' h3=>by
   have hw:0≤u32.wrap (u[j0+k] - u32.wrap (t0 % 4294967296+b))∧u32.wrap (u[j0+k] - u32.wrap (t0 % 4294967296+b))<4294967296:=by rw [IntKind.wrap_u32];omega
   obtain ⟨u',over,q0,q1,q2,q3,q4,q5,q6⟩:=Zo2 j0 v g hg l (k+1) (u.set (j0+k) (u32.wrap (u[j0+k] - u32.wrap (t0 % 4294967296+b)))) b' (t0 / 4294967296) hx.tail (by omega) (hu.set _ hw) (by rw [List.length_set];exact hl) hb' (by omega)
   refine ⟨u',over,q0,?_,by rw [q2,List.length_set],q3,by rw [q4,Zbt _ (by omega)],by rw [q5,Zft _ (by omega)],?_⟩
   ·rw [Zcl,Xd (by omega),show (j0:Int)+(k:Int)=((j0+k:Nat):Int) by omega,Xb hjk,Option.bind_some,Xd (by omega),Option.bind_some,Option.bind_some,Int.toNat_natCast,Xe (x:=x) (by omega),Xe (x:=g * x) (by omega),Xe (x:=c+g * x) (by omega),Zqs (by omega),ht0,Xe (x:=t0 % 4294967296+b) (by omega),Zc5,Zgn]
    exact q1
   ·rw [Yv]
    rw [← Nat.add_assoc j0 k 1,Nat.pow_succ] at q6
    exact Zzp _ _ _ _ _ _ _ _ _ _ _ _ (t0 % 4294967296).toNat _ _ (U4 hjk _) (by omega) (by omega) q6
  by_cases hlt:u[j0+k]<t0 % 4294967296+b
  ·rw [if_pos (by simpa using hlt)]
   exact fin 1 (by omega) (by rw [IntKind.wrap_u32,IntKind.wrap_u32];omega)
  ·rw [if_neg (by simpa using hlt)]
   exact fin 0 (by omega) (by rw [IntKind.wrap_u32,IntKind.wrap_u32];omega)
structure Zfk (U V E v1 v2 u2 top lU lV:Nat):Prop where
 hU:U=lU+E * (u2+4294967296 * top)
 hV:V=lV+E * (v2+4294967296 * v1)
 lu:lU<E
 lv:lV<E
 b2:u2<4294967296
 c2:v2<4294967296
 c1:v1<4294967296
 big:2147483648≤v1
 lt:U<4294967296 * V
namespace Zfk
variable {U V E v1 v2 u2 top lU lV:Nat} (t:Zfk U V E v1 v2 u2 top lU lV)
include t
theorem Vpos:0<V:=by
 have:=t.lt
 have:=t.lu
 omega
theorem uE:U<E * 4294967296 * (top+1):=by
 have h1:E * (u2+1)≤E * 4294967296:=Nat.mul_le_mul_left _ t.b2
 have h2:=t.hU;have:=t.lu
 have e:E * (u2+4294967296 * top)=E * u2+E * 4294967296 * top:=by grind
 rw [e] at h2
 rw [Nat.mul_add] at h1 ⊢
 omega
theorem Eu:E * 4294967296 * top≤U:=by
 have h2:=t.hU
 have e:E * (u2+4294967296 * top)=E * u2+E * 4294967296 * top:=by grind
 omega
theorem vE:V<E * 4294967296 * (v1+1):=by
 have h1:E * (v2+1)≤E * 4294967296:=Nat.mul_le_mul_left _ t.c2
 have h2:=t.hV;have:=t.lv
 have e:E * (v2+4294967296 * v1)=E * v2+E * 4294967296 * v1:=by grind
 rw [Nat.mul_add] at h1 ⊢
 omega
theorem Ev:E * 4294967296 * v1≤V:=by
 have h2:=t.hV
 have e:E * (v2+4294967296 * v1)=E * v2+E * 4294967296 * v1:=by grind
 omega
theorem Epos:0<E:=by have:=t.lu;omega
theorem first:U / V≤top / v1:=by
 have hv:0<v1:=by have:=t.big;omega
 rw [Nat.le_div_iff_mul_le hv]
 have h1:U / V * V≤U:=Nat.div_mul_le_self U V
 have h2:U / V * (E * 4294967296 * v1)≤U / V * V:=Nat.mul_le_mul_left _ t.Ev
 have h3:E * 4294967296 * (U / V * v1)<E * 4294967296 * (top+1):=by
  have e:E * 4294967296 * (U / V * v1)=U / V * (E * 4294967296 * v1):=by
   generalize U / V=q
   grind
  rw [e]
  have:=t.uE
  omega
 have:=Nat.lt_of_mul_lt_mul_left h3
 omega
theorem quo:U / V<4294967296:=(Nat.div_lt_iff_lt_mul t.Vpos).2 t.lt
theorem great {g r:Nat} (h:g * v1+r=top) (h2:r * 4294967296+u2<g * v2):U / V<g:=by
 rw [Nat.div_lt_iff_lt_mul t.Vpos]
 have h3:u2+4294967296 * top+1≤g * (v2+4294967296 * v1):=by
  have:4294967296 * (g * v1+r)=4294967296 * top:=by rw [h]
  have e:g * (v2+4294967296 * v1)=g * v2+4294967296 * (g * v1):=by grind
  rw [e];omega
 have h4:=Nat.mul_le_mul_left E h3
 have h5:E * (g * (v2+4294967296 * v1))≤g * V:=by
  have:=t.hV
  have e:g * V=g * lV+E * (g * (v2+4294967296 * v1)):=by rw [this];grind
  omega
 have:=t.hU;have:=t.lu
 rw [Nat.mul_add] at h4
 omega
theorem fine {g r:Nat} (hg:g<4294967296) (h:g * v1+r=top) (h2:g * v2≤r * 4294967296+u2):g * V<U+V:=by
 have h3:g * (v2+4294967296 * v1)≤u2+4294967296 * top:=by
  have:4294967296 * (g * v1+r)=4294967296 * top:=by rw [h]
  have e:g * (v2+4294967296 * v1)=g * v2+4294967296 * (g * v1):=by grind
  rw [e];omega
 have h4:=Nat.mul_le_mul_left E h3
 have e:g * V=g * lV+E * (g * (v2+4294967296 * v1)):=by rw [t.hV];grind
 have h5:g * lV≤4294967295 * E:=Nat.mul_le_mul (by omega) (by have:=t.lv;omega)
 have h6:E * 4294967296 * 1≤E * 4294967296 * v1:=Nat.mul_le_mul_left _ (by have:=t.big;omega)
 have:=t.Ev;have:=t.hU;have:=t.Epos
 omega
theorem topv:top / 4294967296≤v1:=by
 have h1:=t.Eu
 have h2:=t.lt
 have h3:=t.vE
 have h4:E * 4294967296 * top<E * 4294967296 * (4294967296 * (v1+1)):=by
  have:E * 4294967296 * (4294967296 * (v1+1))=4294967296 * (E * 4294967296 * (v1+1)):=by grind
  omega
 have:=Nat.lt_of_mul_lt_mul_left h4
 omega
theorem over {g r:Nat} (h:g * v1+r=top) (hr:4294967296≤r):g<4294967296:=by
 have h1:=t.topv
 have h2:g * v1<4294967296 * v1:=by omega
 exact Nat.lt_of_mul_lt_mul_right h2
theorem stop {g r:Nat} (h:g * v1+r=top) (hr:4294967296≤r):g * V<U+V:=by
 have hg:=t.over h hr
 have h1:=t.vE
 have h2:g * V≤g * (E * 4294967296 * (v1+1)):=Nat.mul_le_mul_left _ (Nat.le_of_lt h1)
 have e:g * (E * 4294967296 * (v1+1))=E * 4294967296 * (g * v1+g):=by grind
 have h3:E * 4294967296 * (g * v1+g)≤E * 4294967296 * top:=Nat.mul_le_mul_left _ (by omega)
 have:=t.Eu;have:=t.Vpos
 omega
end Zfk
def Znk (X:Option R5) (R:Nat→Option R5) (q U V:Nat):Prop:=∃ g:Nat,X=R g∧q≤g∧g<4294967296∧g * V<U+V
theorem Zoz (N j0:Nat) (u v:List Int) (hu:Zm u) (hv:Zm v) (hn:2≤v.length) (hl:j0+v.length<u.length) (hs:v.length<4611686018427387904) {U V E lU lV top q:Nat} (hq:U / V=q)
  (t:Zfk U V E (v[v.length - 1]).toNat (v[v.length - 2]).toNat (u[j0+v.length - 2]).toNat top lU lV) (htop:top<18446744073709551616):
  ∀ (n g r:Nat),g * (v[v.length - 1]).toNat+r=top→q≤g→r<4294967296→4294967296≤r+2147483648 * n→
  Znk (Tp N j0 (v.length+1) u v n (g:Int) (r:Int)) (fun g'=>Vh j0 (v.length+1) v (g':Int) v 0 u 0 0) q U V
 | 0,g,r,_,_,h3,h4=>by omega
 | n+1,g,r,h1,h2,h3,h4=>by
  have i1:v.length - 1<v.length:=by omega
  have i2:v.length - 2<v.length:=by omega
  have i3:j0+v.length - 2<u.length:=by omega
  have c1:=hv.get i1
  have c2:=hv.get i2
  have c3:=hu.get i3
  have hbig:=t.big
  have hgb:g≤top:=by
   have:g * 1≤g * (v[v.length - 1]).toNat:=Nat.mul_le_mul_left _ (by omega)
   omega
  -- one less
  have less:q<g→Znk (Zgk j0 (v.length+1) u v (g:Int) (r:Int) (Tp N j0 (v.length+1) u v n)) (fun g'=>Vh j0 (v.length+1) v (g':Int) v 0 u 0 0) q U V:=fun hlt=>by
   have hg1:(g - 1) * (v[v.length - 1]).toNat+(r+(v[v.length - 1]).toNat)=top:=by
    have:(g - 1+1) * (v[v.length - 1]).toNat+r=top:=by rw [show g - 1+1=g by omega];exact h1
    rw [Nat.add_mul] at this
    omega
   have ew:u64.wrap ((g:Int) - 1)=((g - 1:Nat):Int):=by rw [Xe (by omega)];omega
   have er:u64.wrap ((r:Int)+u64.wrap v[v.length - 1])=((r+(v[v.length - 1]).toNat:Nat):Int):=by rw [Xe (x:=v[v.length - 1]) (by omega),Xe (by omega)];omega
   rw [Zgk,Zy (by omega),show (v.length:Int) - 1=((v.length - 1:Nat):Int) by omega,Xb i1,Option.bind_some,er,ew]
   by_cases hb:4294967296≤r+(v[v.length - 1]).toNat
   ·rw [if_pos (decide_eq_true (by omega)),Zo0,ew]
    exact ⟨g - 1,rfl,by omega,t.over hg1 hb,t.stop hg1 hb⟩
   ·rw [if_neg (by rw [decide_eq_false (by omega)];decide)]
    exact Zoz N j0 u v hu hv hn hl hs hq t htop n (g - 1) (r+(v[v.length - 1]).toNat) hg1 (by omega) (by omega) (by omega)
  have hquo:=t.quo
  rw [hq] at hquo
  rw [Tp.eq_2]
  by_cases hgb2:4294967295<g
  ·rw [if_pos (decide_eq_true (by omega)),Zck,if_pos rfl]
   exact less (by omega)
  ·have hm:g * (v[v.length - 2]).toNat≤4294967295 * 4294967295:=Nat.mul_le_mul (by omega) (by omega)
   have em:(g:Int) * v[v.length - 2]=((g * (v[v.length - 2]).toNat:Nat):Int):=by
    rw [Int.natCast_mul];congr 1;omega
   rw [if_neg (by rw [decide_eq_false (by omega)];decide),if_pos (decide_eq_true (by omega)),Zy (by omega),show (v.length:Int) - 2=((v.length - 2:Nat):Int) by omega,Xb i2,Option.bind_some,Xd (by omega),show (j0:Int)+((v.length - 2:Nat):Int)=((j0+v.length - 2:Nat):Int) by omega,Xb i3,Option.bind_some,Zck,
    Xe (x:=u[j0+v.length - 2]) (by omega),Zkg (by omega) (by omega),Xe (x:=v[v.length - 2]) (by omega),em,Xe (by omega)]
   by_cases hc:r * 4294967296+(u[j0+v.length - 2]).toNat<g * (v[v.length - 2]).toNat
   ·rw [if_pos (decide_eq_true (by omega))]
    exact less (by rw [← hq];exact t.great h1 hc)
   ·rw [if_neg (by rw [decide_eq_false (by omega)];decide)]
    exact ⟨g,rfl,h2,by omega,t.fine (by omega) h1 (by omega)⟩
theorem Zle {u w:List Int} {j0 n P:Nat} (hP:4294967296 ^ (n+1)=P) (hl:j0+n<u.length) (hz:Zb (u.drop (j0+n+1))=0) (h1:w.length=u.length) (h2:Zm w) (h3:w.drop (j0+n+1)=u.drop (j0+n+1)):Zb (w.drop j0)<P:=by
 have:=Tt ((h2.drop j0).take (n+1))
 rw [List.length_take,List.length_drop,Nat.min_eq_left (by omega),hP] at this
 have e:=Ug (w.drop j0) (n+1)
 rw [hP,List.drop_drop,← Nat.add_assoc,h3,hz] at e
 omega
theorem Zo4 {u w:List Int} {j0 n P Q x y:Nat} (hP:4294967296 ^ (n+1)=P) (hQ:4294967296 ^ j0=Q) (h4:w.take j0=u.take j0) (h:Zb w+Q * x=Zb u+y * 4294967296 ^ (j0+n+1)):Zb (w.drop j0)+x=Zb (u.drop j0)+y * P:=by
 have pw:(4294967296:Nat) ^ (j0+n+1)=Q * P:=by rw [← hQ,← hP,← Nat.pow_add,Nat.add_assoc]
 have hp:0<Q:=by rw [← hQ];exact Nat.pow_pos (by decide)
 have s0:=Ug u j0
 have s1:=Ug w j0
 rw [h4] at s1
 rw [hQ] at s0 s1
 rw [pw,s0,s1] at h
 clear pw hP hQ s0 s1 h4
 refine Nat.eq_of_mul_eq_mul_left hp ?_
 grind
theorem Zw9 {U V P q g over P1:Nat} (hq:U / V=q) (hV:0<V) (hg1:q≤g) (hg3:g * V<U+V) (k1:P1+g * V=U+over * P) (p1:P1<P):
  (over=0→g=q∧P1=U % V)∧(over=1→g=q+1∧∀ P2 co,V<P→P2<P→P2+co * P=P1+V→P2=U % V):=by
 have hq0:V * q+U % V=U:=by rw [← hq];exact Nat.div_add_mod _ _
 have hq1:=Nat.mod_lt U hV
 have hmono:∀ x y:Nat,x<y→x * V+V≤y * V:=fun x y hxy=>by
  have:=Nat.mul_le_mul_right V (show x+1≤y from hxy)
  rw [Nat.add_mul,Nat.one_mul] at this;exact this
 rw [Nat.mul_comm] at hq0
 constructor
 ·intro ho
  subst ho
  have hgq:g=q:=by
   have a2:¬ q<g:=fun h=>by
    have:=hmono _ _ h
    omega
   omega
  subst hgq
  exact ⟨rfl,by omega⟩
 ·intro ho
  subst ho
  have hgq:g=q+1:=by
   have a1:¬ g≤q:=fun h=>by
    have:=Nat.mul_le_mul_right V h
    omega
   have a2:¬ q+1<g:=fun h=>by
    have:=hmono _ _ h
    rw [Nat.add_mul,Nat.one_mul] at this
    omega
   omega
  refine ⟨hgq,fun P2 co hvP p2 k2=>?_⟩
  have hgv:g * V=q * V+V:=by rw [hgq,Nat.add_mul,Nat.one_mul]
  have hco:co=1:=by
   rcases Nat.lt_trichotomy co 1 with h | h | h
   ·have:co=0:=by omega
    subst this;omega
   ·exact h
   ·have:=Nat.mul_le_mul_right P (show 2≤co from h)
    omega
  subst hco
  omega
theorem Zxa {N j0:Nat} {u v:List Int} (hN:2≤N) (hu:Zm u) (hv:Zm v) (hn:2≤v.length) (hl:j0+v.length<u.length) (hs:u.length<4611686018427387904)
  (hz:Zb (u.drop (j0+v.length+1))=0) (hbig:2147483648≤(v[v.length - 1]).toNat) (hlt:Zb (u.drop j0)<4294967296 * Zb v):
  ∃ u',Zej N j0 (v.length+1) u v=some (((Zb (u.drop j0) / Zb v:Nat):Int),u')∧u'.length=u.length∧Zm u'∧u'.take j0=u.take j0∧Zb (u'.drop j0)=Zb (u.drop j0) % Zb v∧Zb (u.drop j0) / Zb v<4294967296:=by
 have i1:v.length - 1<v.length:=by omega
 have i2:v.length - 2<v.length:=by omega
 have i3:j0+v.length - 2<u.length:=by omega
 have i4:j0+v.length - 1<u.length:=by omega
 have c1:=hv.get i1
 have c2:=hv.get i2
 have c3:=hu.get i3
 have c4:=hu.get i4
 have c5:=hu.get hl
 -- the Ze above
 have dV:Zb v=Zb (v.take (v.length - 2))+4294967296 ^ (v.length - 2) * ((v[v.length - 2]).toNat+4294967296 * (v[v.length - 1]).toNat):=by
  rw [Ug v (v.length - 2),Vs i2,show v.length - 2+1=v.length - 1 by omega,Vs i1,show v.length - 1+1=v.length by omega,List.drop_length,Ye];simp
 have dU:Zb (u.drop j0)=Zb ((u.drop j0).take (v.length - 2))+4294967296 ^ (v.length - 2) * ((u[j0+v.length - 2]).toNat+4294967296 * ((u[j0+v.length]).toNat * 4294967296+(u[j0+v.length - 1]).toNat)):=by
  have e3:j0+(v.length - 2)=j0+v.length - 2:=by omega
  rw [Ug (u.drop j0) (v.length - 2),List.drop_drop,e3,Vs i3,show j0+v.length - 2+1=j0+v.length - 1 by omega,Vs i4,show j0+v.length - 1+1=j0+v.length by omega,Vs hl,hz]
  congr 3
  omega
 have lV:=Tt (hv.take (v.length - 2))
 have lU:=Tt ((hu.drop j0).take (v.length - 2))
 rw [List.length_take,Nat.min_eq_left (by omega)] at lV
 rw [List.length_take,List.length_drop,Nat.min_eq_left (by omega)] at lU
 have t:Zfk (Zb (u.drop j0)) (Zb v) (4294967296 ^ (v.length - 2)) (v[v.length - 1]).toNat (v[v.length - 2]).toNat (u[j0+v.length - 2]).toNat ((u[j0+v.length]).toNat * 4294967296+(u[j0+v.length - 1]).toNat) _ _:=
  ⟨dU,dV,lU,lV,by omega,by omega,by omega,hbig,hlt⟩
 have hV:=t.Vpos
 have htop:(u[j0+v.length]).toNat * 4294967296+(u[j0+v.length - 1]).toNat<18446744073709551616:=by omega
 obtain ⟨q,hq⟩:∃ q,Zb (u.drop j0) / Zb v=q:=⟨_,rfl⟩
 obtain ⟨g,hg0,hg1,hg2,hg3⟩:=Zoz N j0 u v hu hv hn hl (by omega) hq t htop N _ _ (Nat.div_add_mod' _ _) (by rw [← hq];exact t.first) (Nat.lt_of_lt_of_le (Nat.mod_lt _ (by omega)) (by omega)) (by omega)
 have e0:Zej N j0 (v.length+1) u v=Vh j0 (v.length+1) v (g:Int) v 0 u 0 0:=by
  refine Eq.trans ?_ hg0
  rw [Zej,Xd (by omega),show (j0:Int)+(v.length:Int)=((j0+v.length:Nat):Int) by omega,Xb hl,Option.bind_some,Zy (by omega),show (v.length:Int) - 1=((v.length - 1:Nat):Int) by omega,Xd (by omega),
   show (j0:Int)+((v.length - 1:Nat):Int)=((j0+v.length - 1:Nat):Int) by omega,Xb i4,Option.bind_some,Xb i1,Option.bind_some,Xe (x:=v[v.length - 1]) (by omega),Xd (by omega),Xd (by omega),Xe (x:=u[j0+v.length]) (by omega),Xe (x:=u[j0+v.length - 1]) (by omega),Zkg (by omega) (by omega)]
  have ev:v[v.length - 1]=((v[v.length - 1]).toNat:Int):=by omega
  have et:u[j0+v.length] * 4294967296+u[j0+v.length - 1]=(((u[j0+v.length]).toNat * 4294967296+(u[j0+v.length - 1]).toNat:Nat):Int):=by omega
  rw [et,ev,Int.tdiv_eq_ediv_of_nonneg (by omega),Int.tmod_eq_emod_of_nonneg (by omega),← Int.natCast_ediv,← Int.natCast_emod,Int.toNat_natCast]
  rw [Xe ⟨Int.natCast_nonneg _,Int.ofNat_lt.2 (Nat.lt_of_le_of_lt (Nat.div_le_self _ _) htop)⟩]
 obtain ⟨u1,over,q0,q1,q2,q3,q4,q5,q6⟩:=Zo2 j0 v (g:Int) (by omega) v 0 u 0 0 hv (by omega) hu hl (by omega) (by omega)
 have hquo:=t.quo
 rw [hq] at hquo ⊢
 rw [e0,q1]
 obtain ⟨P,hP⟩:∃ P:Nat,4294967296 ^ (v.length+1)=P:=⟨_,rfl⟩
 obtain ⟨Q,hQ⟩:∃ Q:Nat,4294967296 ^ j0=Q:=⟨_,rfl⟩
 simp only [Nat.add_zero,Int.toNat_zero,Int.toNat_natCast,Nat.zero_add] at q6
 rw [hQ] at q6
 have k1:=Zo4 hP hQ q4 q6
 have p1:=Zle hP hl hz q2 q3 q5
 have hvP:Zb v<P:=by
  have:=Tt hv
  have h2:=Zle (u:=v++[0]) (w:=v++[0]) (j0:=0) (n:=v.length) hP (by simp) (by simp [Zb]) rfl (hv.app (.cons (by decide) .nil)) rfl
  rw [List.drop_zero,Zrd] at h2
  exact h2
 have k3:=Zw9 hq hV hg1 hg3 k1 p1
 by_cases ho:over=1
 ·obtain ⟨e1,e2⟩:=k3.2 ho
  subst ho
  rw [if_pos rfl]
  obtain ⟨u2,co,r1,r2,r3,r4,r5,r6⟩:=Zo3 j0 v (g:Int) v 0 u1 0 hv (by omega) q3 (by omega) (by omega)
  have p2:=Zle hP hl hz (by omega) r3 (by rw [r5,q5])
  simp only [Nat.add_zero,Int.toNat_zero,Nat.zero_add] at r6
  rw [hQ] at r6
  have k2:=Zo4 (u:=u2) (w:=u1) (x:=Zb v) (y:=co) hP hQ (by rw [r4]) r6.symm
  refine ⟨u2,?_,by omega,r3,by rw [r4,q4],e2 _ co hvP p2 k2.symm,hquo⟩
  rw [r1,Xe (by omega),Vm (by omega)]
  congr 2;omega
 ·obtain ⟨e1,e2⟩:=k3.1 (by omega)
  rw [if_neg ho,Q8,Vm (by omega)]
  exact ⟨u1,by rw [e1],q2,q3,q4,e2,hquo⟩
def Za9 (N:Nat):Nat→R2→R2→Option R2
  | 0,_,_=>none
  | ac+1,ab,aa=>if (decide (0<(aa.length:Int)))=true then ((Zch N ab aa).bind fun ad=>(Za9 N ac) aa ad.2.1) else (some ab)
termination_by structural x=>x
def Zgh (N:Nat) (aa:List Int) (ab:List Int):Option R2:=
  (Vr N aa).bind fun ac=>(Vr N ab).bind fun ad=>Za9 N N ac ad
theorem Zvu {N ar au:Nat} {a0 a1:Option Addr} {col:Zd} {w0:World} {ak al r:R2} (c1:Nat) (hm:Zgh N ak al=some r) (h0:Sl (Za.int .u32) col w0 a0 ar ak) (h1:Sl (Za.int .u32) col w0 a1 au al):
    Calls Tryz.prog 259 #[.slice a0 ak.length ar,.slice a1 al.length au] w0 (fun e w'=>∃ (col':Zd) (ra1:Option Addr) (rc2:Nat),e= .returned ((.slice ra1 r.length rc2))∧Zf col w0 col' w'∧Zc (Za.int .u32) 79 c1 col' w' ra1 rc2 r):=by
 refine Xc 4 (m:=25) func259 rfl rfl rfl rfl rfl ?_;rw [Zgh.eq_1] at hm;have aa:=St.start col w0;refine go ?_;obtain ⟨a9,a3,hm⟩:=bZ hm;replace h0:=h0.keep (Zk.start col w0);refine Zg (Uw 1 a3 (h0.ks aa)) ?_;rintro _ ba ⟨bb,bc,bd,rfl,a4,am⟩;refine ⟨_,rfl,?_⟩;refine Yu rfl ?_;obtain ⟨be,a5,hm⟩:=bZ hm;replace h1:=h1.keep (Zk.start col w0);replace aa:=aa.grow a4;refine Zg (Uw 2 a5 (h1.ks aa)) ?_;rintro _ bf ⟨bg,bh,bi,rfl,av,a6⟩;refine ⟨_,rfl,go ?_⟩;replace am:=am.gr av;replace aa:=aa.grow av;refine Z2 [1000000] (fun n f ag=>∃ ac an ao ai ap aq aj ae,ae=n∧Za9 N ae ai aj=some r∧St w0 (Zi col) ac ag∧Zc (Za.int .u32) 79 1 ac ag an ao ai∧Zc (Za.int .u32) 79 2 ac ag ap aq aj∧[0,1].map f=[.slice an ai.length ao,.slice ap aj.length aq]) N ⟨_,_,_,_,_,_,_,_,rfl,hm,aa,am,a6,rfl⟩ ?_;clear hm;intro n f ag hI;obtain ⟨ac,an,ao,ai,ap,aq,aj,ae,hn,hm,aa,aw,ab,hs⟩:=hI;subst hn;refine .lL [0,1] hs ?_
 cases ae with
 | zero=>rw [Za9.eq_1] at hm;cases hm
 | succ ae=>
  rw [Za9.eq_2] at hm;refine go ?_;refine Zo hm (fun hb hm=>go ?_) fun hb hm=>go ?_
  ·obtain ⟨af,a7,hm⟩:=bZ hm;refine Zg (Zky 3 4 a7 ((aw.toSlF (Zj.int .u32)).froz 2) ((ab.froz 1 (by decide)).toSlF (Zj.int .u32))) ?_;rintro _ bj ⟨a8,ax,ay,az,a2,rfl,ah,bk,ad⟩;refine ⟨_,rfl,?_⟩;replace ad:=ad.thaw (Zx .u32) ah (((Fz.refl (col:=ac)).froz 1).froz 2) (by decide);replace ah:=ah.thawR (col:=ac);generalize Z6 ag.heap.size ac a8=bm at *;refine lM (.tuple #[.slice ax af.1.length ay,.slice az af.2.1.length a2,.int .i64 af.2.2])<|lV (.slice ax af.1.length ay) (Xh rfl rfl)<|lV (.slice az af.2.1.length a2) (Xh rfl rfl)<|lV (.int .i64 af.2.2) (Xh rfl rfl)<|go ?_;replace ab:=ab.gr ah;replace ab:=ab.recolSelf 1 (by decide);replace ad:=ad.recol 2 1 (by decide);replace aa:=aa.grow ah;replace aa:=aa.recol 2 1 (by decide) (by decide);replace ab:=ab.recol 4 2 (by decide);replace ad:=ad.recolSelf 2 (by decide);replace aa:=aa.recol 4 2 (by decide) (by decide);exact ⟨ae,by omega,rfl,⟨_,_,_,_,_,_,_,_,rfl,hm,aa,ab,ad,rfl⟩⟩
  cases hm;exact ⟨rfl,_,_,_,rfl,aa.fin (cm [(1,c1)]),aa.fo aw⟩
theorem Zuf (N:Nat):∀ (n:Nat) (a:List Int),Zaa N n a=U3 N n a
 | 0,a=>rfl
 | n+1,a=>by
  rw [Zaa.eq_2,U3.eq_2]
  simp only [Zgo,Q9,Zuf N n]
theorem Zug {N:Nat} {a:List Int} (h:Zm a) (hn:a.length<N) (hb:a.length≤1099511627776):Zbd N a=some (Ze (Zb a)):=by
 rw [Zbd,Zuf];exact Zkf N N a h hn (by omega)
theorem Z05 {x L nx s:Nat} (hs:s<32) (hx:x<4294967296) (hn:nx=L % 4294967296):(x+4294967296 * L) / 2 ^ s=(x+4294967296 * nx) / 2 ^ s % 4294967296+4294967296 * (L / 2 ^ s):=by
 have pw:(2:Nat) ^ s * 2 ^ (32 - s)=4294967296:=by rw [← Nat.pow_add,show s+(32 - s)=32 by omega]
 have hp:=Nat.two_pow_pos s
 generalize 2 ^ s=p at *
 generalize 2 ^ (32 - s)=r at *
 have h1:(x+4294967296 * L) / p / 4294967296=L / p:=by
  rw [Nat.div_div_eq_div_mul,Nat.mul_comm p,← Nat.div_div_eq_div_mul]
  congr 1
  omega
 have h2:(x+4294967296 * L) / p % 4294967296=(x+4294967296 * nx) / p % 4294967296:=by
  have e:x+4294967296 * L=x+4294967296 * nx+p * (4294967296 * (r * (L / 4294967296))):=by
   have e1:L=nx+4294967296 * (L / 4294967296):=by omega
   have e2:p * (4294967296 * (r * (L / 4294967296)))=4294967296 * (p * r) * (L / 4294967296):=by grind
   rw [e2,pw]
   omega
  rw [e,Nat.add_mul_div_left _ _ hp,Nat.add_mul_mod_self_left]
 rw [← h1,← h2]
 omega
theorem Zo6 (N s:Nat) (hs:s<32) (q r:List Int) (hq:Zm q) (hr:Zm r) (hN:q.length<N∧r.length<N) (hb:q.length≤1099511627776∧r.length≤1099511627776):∀ (n i:Nat) (u d:List Int),i≤r.length→r.length<n+i→u=d++r.drop i→d.length=i→Zm d→Zb d+4294967296 ^ i * (Zb (r.drop i) / 2 ^ s)=Zb r / 2 ^ s→
  To N (s:Int) q r n u (i:Int)=some (Ze (Zb q),Ze (Zb r / 2 ^ s),0)
 | 0,i,u,d,h1,h2,_,_,_,_=>by omega
 | n+1,i,u,d,h1,h2,hu,hd,hld,hv=>by
  have hul:u.length=r.length:=by rw [hu,List.length_append,List.length_drop];omega
  rw [To.eq_2]
  by_cases hi:i<r.length
  ·have hdr:=List.drop_eq_getElem_cons hi
   have g:=hr.get hi
   have ui:u[i]'(by omega)=r[i]:=by
    subst hu
    rw [List.getElem_append_right (by omega)]
    simp [hd]
   have step:∀ nx:Nat,nx=Zb (r.drop (i+1)) % 4294967296→Zeh (s:Int) u (i:Int) (To N (s:Int) q r n) (nx:Int)=some (Ze (Zb q),Ze (Zb r / 2 ^ s),0):=fun nx hnx=>by
    have hw:u32.wrap (X8 .u64 (Yn .u64 (Xt .u64 (u64.wrap (nx:Int)) 32) (u64.wrap r[i])) (s:Int))=(((r[i]).toNat+4294967296 * nx) / 2 ^ s % 4294967296:Nat):=by
     rw [Xe (x:=(nx:Int)) (by omega),Xe (x:=r[i]) (by omega),Zkg (by omega) (by omega),show (nx:Int) * 4294967296+r[i]=(((r[i]).toNat+4294967296 * nx:Nat):Int) by omega,Zkc _ _ _ (by simp only [IntKind.bits];omega),Zuq]
    have hset:u.set i ((((r[i]).toNat+4294967296 * nx) / 2 ^ s % 4294967296:Nat):Int)=(d++[((((r[i]).toNat+4294967296 * nx) / 2 ^ s % 4294967296:Nat):Int)])++r.drop (i+1):=by
     subst hu
     rw [hdr,List.set_append_right _ _ (by omega),hd,Nat.sub_self,List.set_cons_zero]
     simp
    rw [Zeh,Xb (by omega),Option.bind_some,Xd (by omega),ui,hw,Option.bind_some,Zi5,Zy (by omega),Int.toNat_natCast,hset]
    have ih:=Zo6 N s hs q r hq hr hN hb n (i+1) _ (d++[((((r[i]).toNat+4294967296 * nx) / 2 ^ s % 4294967296:Nat):Int)]) (by omega) (by omega) rfl (by simp [hd]) (hld.app (.cons (by omega) .nil)) (by
     rw [Ts,hd,Yv,Ye,Int.toNat_natCast,← hv,hdr,Yv,Z05 hs (by omega) hnx,Nat.pow_succ]
     generalize ((r[i]).toNat+4294967296 * nx) / 2 ^ s % 4294967296=A
     generalize Zb (r.drop (i+1)) / 2 ^ s=C
     grind)
    exact ih
   rw [if_pos (decide_eq_true (by omega)),Zy (by omega)]
   by_cases hi1:i+1<r.length
   ·have u1:u[i+1]'(by omega)=r[i+1]:=by
     subst hu
     rw [List.getElem_append_right (by omega)]
     simp [hd]
    have g1:=hr.get hi1
    rw [if_pos (decide_eq_true (by omega)),show (i:Int)+1=((i+1:Nat):Int) by omega,Xb (by omega),Option.bind_some,u1,show r[i+1]=((r[i+1]).toNat:Int) by omega]
    exact step _ (by rw [Vs hi1];omega)
   ·rw [if_neg (by rw [decide_eq_false (by omega)];decide)]
    have:=step 0 (by rw [List.drop_eq_nil_of_le (by omega)];rfl)
    exact this
  ·have:i=r.length:=by omega
   subst this
   rw [if_neg (by rw [decide_eq_false (by omega)];decide)]
   rw [List.drop_length,List.append_nil] at hu
   rw [List.drop_length,Ye,Nat.zero_div,Nat.mul_zero,Nat.add_zero] at hv
   subst hu
   rw [Tv hq hN.1 hb.1,Option.bind_some,Tv hld (by omega) (by omega),Option.bind_some,hv]
theorem Zo5 (N s:Nat) (v:List Int) (hN:2≤N) (hv:Zm v) (hn:2≤v.length) (hbig:2147483648≤(v[v.length - 1]).toNat):∀ (n j:Nat) (u q:List Int),j≤q.length→j<n→u.length=q.length+v.length→u.length<4611686018427387904→Zm u→Zm q→Zb (u.drop j)<Zb v→Zb (q.take j)=0→
  ∃ u' q',Zci N (s:Int) v n u q ((j:Int) - 1)=((Zbd N u').bind fun r=>To N (s:Int) q' r N r 0)∧u'.length=u.length∧q'.length=q.length∧Zm u'∧Zm q'∧Zb u'<Zb v∧Zb v * Zb q'+Zb u'=Zb v * Zb q+Zb u
 | 0,j,u,q,_,h,_,_,_,_,_,_=>by omega
 | n+1,j,u,q,hj,hjn,hl,hs,hu,hq,hlt,hz=>by
  rw [Zci.eq_2]
  by_cases h0:j=0
  ·subst h0
   rw [if_neg (by decide)]
   exact ⟨u,q,rfl,rfl,rfl,hu,hq,by simpa using hlt,rfl⟩
  ·have e1:j - 1+1=j:=by omega
   have hi:j - 1<u.length:=by omega
   have hqi:j - 1<q.length:=by omega
   have g:=hu.get hi
   have lv:=Tt hv
   have sp:=Ug (u.drop j) v.length
   rw [List.drop_drop] at sp
   have hz2:Zb (u.drop (j - 1+v.length+1))=0:=by
    rw [show j - 1+v.length+1=j+v.length by omega]
    rcases Nat.eq_zero_or_pos (Zb (u.drop (j+v.length))) with h | h
    ·exact h
    ·have:=Nat.mul_le_mul_left (4294967296 ^ v.length) h
     generalize 4294967296 ^ v.length=P at *
     omega
   have d1:=Vs hi
   rw [e1] at d1
   obtain ⟨u',q1,q2,q3,q4,q5,q6⟩:=Zxa (N:=N) (j0:=j - 1) hN hu hv hn (by omega) hs hz2 hbig (by omega)
   have hqs:0≤((Zb (u.drop (j - 1)) / Zb v:Nat):Int)∧((Zb (u.drop (j - 1)) / Zb v:Nat):Int)<4294967296:=⟨Int.natCast_nonneg _,Int.ofNat_lt.2 q6⟩
   rw [if_pos (decide_eq_true (by omega)),show (j:Int) - 1=((j - 1:Nat):Int) by omega,Zy (x:=((j - 1:Nat):Int)+(v.length:Int)) (by omega),Zy (by omega),Xd (by omega),Int.toNat_natCast,
    show Int.toNat (((j - 1:Nat):Int)+(v.length:Int)+1) - (j - 1)=v.length+1 by omega,q1,Option.bind_some,Xb hqi,Option.bind_some,Option.bind_some,Zy (by omega)]
   have vp:0<Zb v:=by omega
   -- the quotient's limb was 0
   have zq:q[j - 1]=0∧Zb (q.take (j - 1))=0:=by
    have:=Zmj hqi
    rw [e1,hz] at this
    have g2:=hq.get hqi
    have hp:0<4294967296 ^ (j - 1):=Nat.pow_pos (by decide)
    have h3:4294967296 ^ (j - 1) * (q[j - 1]).toNat=0:=by omega
    rcases Nat.mul_eq_zero.1 h3 with h | h
    ·omega
    ·exact ⟨by omega,by omega⟩
   obtain ⟨u2,q2',r1,r2,r3,r4,r5,r6,r7⟩:=Zo5 N s v hN hv hn hbig n (j - 1) u' (q.set (j - 1) ((Zb (u.drop (j - 1)) / Zb v:Nat):Int)) (by rw [List.length_set];omega) (by omega) (by rw [List.length_set,q2];exact hl) (by omega) q3 (hq.set _ hqs) (by rw [q5];exact Nat.mod_lt _ vp) (by rw [Zbt _ (Nat.le_refl _)];exact zq.2)
   refine ⟨u2,q2',r1,by rw [r2,q2],by rw [r3,List.length_set],r4,r5,r6,?_⟩
   rw [r7]
   have s0:=Ug u (j - 1)
   have s1:=Ug u' (j - 1)
   rw [q4,q5] at s1
   have s2:=U4 hqi ((Zb (u.drop (j - 1)) / Zb v:Nat):Int)
   rw [zq.1,Int.toNat_zero,Nat.mul_zero,Nat.add_zero,Int.toNat_natCast] at s2
   rw [s1,s2,s0]
   have hdm:=Nat.div_add_mod (Zb (u.drop (j - 1))) (Zb v)
   generalize Zb (u.drop (j - 1)) / Zb v=a at *
   generalize Zb (u.drop (j - 1)) % Zb v=b at *
   rw [← hdm]
   generalize 4294967296 ^ (j - 1)=Q at *
   grind
theorem Zuc {l:List Int} (h:0<l.length):Zb l=Zb (l.take (l.length - 1))+4294967296 ^ (l.length - 1) * (l[l.length - 1]).toNat:=by
 conv=>lhs;rw [← Zdn h,Ts,Yv,Ye]
 rw [List.length_take,Nat.min_eq_left (by omega),Nat.mul_zero,Nat.add_zero]
theorem Zud {l:List Int} (hl:Zm l):Zb (l.take (l.length - 1))<4294967296 ^ (l.length - 1):=by
 have:=Tt (hl.take (l.length - 1))
 rw [List.length_take,Nat.min_eq_left (by omega)] at this
 exact this
theorem Zxc {u:List Int} {k n S:Nat} (hu:Zm u) (hk:k+n=u.length) (hn:0<n) (ht:∀ h:u.length - 1<u.length,(u[u.length - 1]).toNat<S):Zb (u.drop k)<4294967296 ^ (n - 1) * S:=by
 have hl:(u.drop k).length=n:=by rw [List.length_drop];omega
 have h1:=Zuc (l:=u.drop k) (by omega)
 have h2:=Zud (hu.drop k)
 have h3:((u.drop k)[(u.drop k).length - 1]'(by omega))=u[u.length - 1]'(by omega):=by
  have:(u.drop k)[(u.drop k).length - 1]?=u[u.length - 1]?:=by rw [List.getElem?_drop,hl];congr 1;omega
  rw [List.getElem?_eq_getElem (by omega),List.getElem?_eq_getElem (by omega)] at this
  exact Option.some.inj this
 rw [h3] at h1
 rw [hl] at h1 h2
 have h4:=ht (by omega)
 have h5:=Nat.mul_le_mul_left (4294967296 ^ (n - 1)) (show (u[u.length - 1]'(by omega)).toNat+1≤S from h4)
 rw [Nat.mul_add] at h5
 omega
theorem Zin {N:Nat} {a b:List Int} (ha:Zm a) (hb:Zm b) (hN:a.length+b.length+4<N) (hs:a.length+b.length≤549755813888):
  Zch N a b=some (if Zb b=0 then ([],[],11) else (Ze (Zb a / Zb b),Ze (Zb a % Zb b),0)):=by
 have la:=Ym ha
 have lb:=Ym hb
 rw [Zch,T0 ha (by omega) (by omega),Option.bind_some,T0 hb (by omega) (by omega),Option.bind_some]
 generalize hA:Zb a=A at *
 generalize hB:Zb b=B at *
 by_cases h0:B=0
 ·subst h0
  rw [Wl,if_pos (by decide),if_pos rfl]
 ·have hbp:0<(Ze B).length:=List.length_pos_iff.2 (fun h=>h0 (Zdo.1 h))
  rw [if_neg (by rw [decide_eq_false (by omega)];decide),if_neg h0,Zla (Z5 _) (Z5 _) (by omega) (by omega) (by omega) (by omega),Option.bind_some,Z1,Z1]
  by_cases hlt:A<B
  ·rw [if_pos hlt,if_pos (by decide),Tv (Z5 _) (by omega) (by omega),Option.bind_some,Z1,Nat.div_eq_of_lt hlt,Nat.mod_eq_of_lt hlt,Wl]
  ·rw [if_neg hlt,if_neg (by split <;> decide)]
   have hlen:(Ze B).length≤(Ze A).length:=by
    have h1:=Wh (k:=(Ze A).length) (n:=B)
    have h2:=Wh (k:=(Ze A).length) (n:=A)
    have:=h2.1 (Nat.le_refl _)
    exact h1.2 (by omega)
   by_cases h1:(Ze B).length=1
   ·have g:=(Z5 B).get hbp
    have hne:=Ziw hbp
    have e0:(Ze B).length - 1=0:=by omega
    have hne0:(Ze B)[0]≠0:=by
     have:(Ze B)[(Ze B).length - 1]?=(Ze B)[0]?:=by rw [e0]
     rw [List.getElem?_eq_getElem (by omega),List.getElem?_eq_getElem (by omega)] at this
     rw [← Option.some.inj this];exact hne
    have eB:((Ze B)[0]).toNat=B:=by
     have h2:=Z1 B
     have h3:=Vs (l:=Ze B) (k:=0) hbp
     rw [List.drop_zero,h2,List.drop_eq_nil_of_le (by omega),Ye] at h3
     omega
    obtain ⟨q,q1,q2,q3,q4⟩:=Z06 (N:=N) (a:=Ze A) (d:=(Ze B)[0]) (by omega) (Z5 _) (by omega) (by omega)
    rw [eB,Z1] at q1 q4
    have hm:=Nat.mod_lt A (show 0<B by omega)
    have hB32:B<4294967296:=by omega
    have hml:Zm [((A % B:Nat):Int)]:=.cons ⟨Int.natCast_nonneg _,Int.ofNat_lt.2 (Nat.lt_trans hm hB32)⟩ .nil
    rw [if_pos (decide_eq_true (by omega)),Zk8 (by omega),Option.bind_some,show (0:Int)=((0:Nat):Int) from rfl,Xb hbp,Option.bind_some,q1,Option.bind_some,Tv q3 (by omega) (by omega),Option.bind_some,Tv hml (by simp;omega) (by simp),Option.bind_some,q4,Yv,Ye,Int.toNat_natCast,Nat.mul_zero,Nat.add_zero]
   ·have hp:0<(Ze B).length:=hbp
    have i1:(Ze B).length - 1<(Ze B).length:=by omega
    have g:=(Z5 B).get i1
    have hne:=Ziw hbp
    obtain ⟨k,ek,k1,k2⟩:=Zib (show ((Ze B)[(Ze B).length - 1]).toNat≠0 by omega)
    have hk:k≤31:=by
     have:Z3 ((Ze B)[(Ze B).length - 1]).toNat≤32:=Vc.2 (by omega)
     omega
    obtain ⟨s,hs'⟩:∃ s,s=31 - k:=⟨_,rfl⟩
    have hlz:Zgb (Ze B)[(Ze B).length - 1]=some (s:Int):=by
     rw [Zgb,show (Ze B)[(Ze B).length - 1]=(((Ze B)[(Ze B).length - 1]).toNat:Int) by omega,Zqf (by omega),Option.bind_some,ek,Zy (by omega)]
     congr 1;omega
    obtain ⟨u,u1,u2,u3,u4,u5⟩:=Zqe (a:=Ze A) (s:=s) (by omega) (Z5 _) (by omega)
    obtain ⟨w,w1,w2,w3,w4,w5⟩:=Zqe (a:=Ze B) (s:=s) (by omega) (Z5 _) (by omega)
    rw [Z1] at u4 w4
    have hps:=Nat.two_pow_pos s
    -- the divisor, its highest Yb set
    have hsp:=Zdn hp
    have htl:=Tt ((Z5 B).take ((Ze B).length - 1))
    rw [List.length_take,Nat.min_eq_left (by omega)] at htl
    have eB:B=Zb ((Ze B).take ((Ze B).length - 1))+4294967296 ^ ((Ze B).length - 1) * ((Ze B)[(Ze B).length - 1]).toNat:=by
     conv=>lhs;rw [← Z1 B,← hsp,Ts,Yv,Ye]
     rw [List.length_take,Nat.min_eq_left (by omega)];simp
    have pk:2 ^ k * 2 ^ s=2147483648:=by rw [← Nat.pow_add,hs',show k+(31 - k)=31 by omega]
    have pk1:2 ^ (k+1) * 2 ^ s=4294967296:=by rw [Nat.pow_succ,Nat.mul_right_comm,pk]
    have hPp:0<4294967296 ^ ((Ze B).length - 1):=Nat.pow_pos (by decide)
    have hlb1:(Ze B).length - 1+1=(Ze B).length:=by omega
    have pwl:(4294967296:Nat) ^ (Ze B).length=4294967296 ^ ((Ze B).length - 1) * 4294967296:=by rw [← Nat.pow_succ];congr 1;omega
    generalize hPe:4294967296 ^ ((Ze B).length - 1)=P at *
    have top1:P * 2147483648≤2 ^ s * B:=by
     have h1:=Nat.mul_le_mul_left P k1
     have h2:=Nat.mul_le_mul_right (2 ^ s) (show P * 2 ^ k≤B by omega)
     rw [Nat.mul_assoc,pk] at h2
     rw [Nat.mul_comm (2 ^ s)];exact h2
    have top2:2 ^ s * B<P * 4294967296:=by
     have h1:=Nat.mul_le_mul_left P (show ((Ze B)[(Ze B).length - 1]).toNat+1≤2 ^ (k+1) from k2)
     rw [Nat.mul_add] at h1
     have h2:=Nat.mul_lt_mul_of_pos_right (show B<P * 2 ^ (k+1) by omega) hps
     rw [Nat.mul_assoc,pk1] at h2
     rw [Nat.mul_comm (2 ^ s)];exact h2
    have hv0:(Ze (2 ^ s * B)).length=(Ze B).length:=by
     have h1:(Ze (2 ^ s * B)).length≤(Ze B).length:=Wh.2 (by rw [pwl];exact top2)
     have h2:¬ (Ze (2 ^ s * B)).length≤(Ze B).length - 1:=fun h=>by
      have:=Wh.1 h
      rw [hPe] at this
      have:P * 1≤P * 2147483648:=Nat.mul_le_mul_left _ (by decide)
      omega
     omega
    have hvp:0<(Ze (2 ^ s * B)).length:=by omega
    have hbig:2147483648≤((Ze (2 ^ s * B))[(Ze (2 ^ s * B)).length - 1]).toNat:=by
     have tl':=Zud (Z5 (2 ^ s * B))
     have e:=Zuc hvp
     have ePP:(4294967296:Nat) ^ ((Ze (2 ^ s * B)).length - 1)=P:=by rw [hv0];exact hPe
     rw [Z1,ePP] at e
     rw [ePP] at tl'
     generalize Zb ((Ze (2 ^ s * B)).take ((Ze (2 ^ s * B)).length - 1))=lo at *
     generalize ((Ze (2 ^ s * B))[(Ze (2 ^ s * B)).length - 1]).toNat=t at *
     have h3:P * 2147483648<P * (t+1):=by rw [Nat.mul_add];omega
     have:=Nat.lt_of_mul_lt_mul_left h3
     omega
    obtain ⟨q,hq⟩:∃ q,q=List.replicate ((Ze A).length - (Ze B).length+1) (0:Int):=⟨_,rfl⟩
    have lq:q.length=(Ze A).length - (Ze B).length+1:=by rw [hq,List.length_replicate]
    rw [if_neg (by rw [decide_eq_false (by omega)];decide),Zy (x:=((Ze B).length:Int) - 1) (by omega),show ((Ze B).length:Int) - 1=(((Ze B).length - 1:Nat):Int) by omega,Xb i1,Option.bind_some,hlz,Option.bind_some,u1,Option.bind_some,w1,Option.bind_some,
     Zug w3 (by omega) (by omega),Option.bind_some,w4,Zy (x:=((Ze A).length:Int) - ((Ze B).length:Int)) (by omega),Zy (x:=((Ze A).length:Int) - ((Ze B).length:Int)+1) (by omega),Xd (by simp only [maxLen];omega),
     show Int.toNat (((Ze A).length:Int) - ((Ze B).length:Int)+1)=(Ze A).length - (Ze B).length+1 by omega,← hq,Zy (x:=(q.length:Int) - 1) (by omega)]
    obtain ⟨u',q',r1,r2,r3,r4,r5,r6,r7⟩:=Zo5 N s (Ze (2 ^ s * B)) (by omega) (Z5 _) (by omega) hbig N q.length u q (Nat.le_refl _) (by omega) (by omega) (by omega) u3 (by rw [hq];exact .zeros _) (by
     -- the highest Ze are below the divisor
     rw [Z1]
     have h1:=Zxc (k:=q.length) (n:=(Ze B).length) u3 (by omega) hp u5
     rw [hPe] at h1
     have hs31:2 ^ s≤2147483648:=by
      have:=Nat.pow_le_pow_right (n:=2) (by decide) (show s≤31 by omega)
      omega
     have h8:=Nat.mul_le_mul_left P hs31
     omega) (by rw [hq,List.take_replicate];exact Tu _)
    rw [r1,Zug r4 (by omega) (by omega),Option.bind_some]
    rw [Z1] at r6 r7
    have zq:Zb q=0:=by rw [hq];exact Tu _
    rw [zq,u4,Nat.mul_zero,Nat.zero_add] at r7
    have ll:=Ym r4
    have hfin:=Zo6 N s (by omega) q' (Ze (Zb u')) r5 (Z5 _) (by omega) (by omega) N 0 (Ze (Zb u')) [] (by omega) (by omega) (by simp) rfl .nil (by rw [Ye,List.drop_zero,Nat.pow_zero];omega)
    rw [show ((0:Nat):Int)=0 from rfl] at hfin
    rw [hfin,Z1]
    have hqv:Zb q'=A / B:=by
     have h9:2 ^ s * A / (2 ^ s * B)=Zb q':=by
      rw [← r7,Nat.mul_add_div (by omega),Nat.div_eq_of_lt r6,Nat.add_zero]
     rw [← h9,Nat.mul_div_mul_left _ _ hps]
    have hrv:Zb u' / 2 ^ s=A % B:=by
     have h9:2 ^ s * A % (2 ^ s * B)=Zb u':=by
      rw [← r7,Nat.mul_add_mod,Nat.mod_eq_of_lt r6]
     rw [Nat.mul_mod_mul_left] at h9
     rw [← h9,Nat.mul_div_cancel_left _ hps]
    rw [hqv,hrv]
theorem Zx7 {x y:Nat} (h:y≤x) (hy:0<y):y * (x % y)≤x * y / 2:=by
 have h1:x % y+y≤x:=by
  have:=Nat.mod_add_div x y
  have h2:y * 1≤y * (x / y):=Nat.mul_le_mul_left _ (Nat.div_pos h hy)
  omega
 have h2:=Nat.mod_lt x hy
 have h3:y * (2 * (x % y))≤y * x:=Nat.mul_le_mul_left _ (by omega)
 rw [Nat.le_div_iff_mul_le (by decide),Nat.mul_comm x y,Nat.mul_assoc,Nat.mul_comm (x % y) 2]
 exact h3
theorem Zlk (N:Nat):∀ (n x y:Nat),y≤x→Z3 (x * y)<n→(Ze x).length+(Ze y).length+4<N→(Ze x).length+(Ze y).length≤549755813888→Za9 N n (Ze x) (Ze y)=some (Ze (Nat.gcd x y))
 | 0,x,y,_,h,_,_=>by omega
 | n+1,x,y,hxy,hn,hN,hs=>by
  rw [Za9.eq_2]
  by_cases h0:y=0
  ·subst h0
   rw [Wl,if_neg (by decide),Nat.gcd_zero_right]
  ·have hp:0<(Ze y).length:=List.length_pos_iff.2 (fun h=>h0 (Zdo.1 h))
   have hm:=Nat.mod_lt x (show 0<y by omega)
   have lm:(Ze (x % y)).length≤(Ze y).length:=Wh.2 (Nat.lt_trans hm (Wh.1 (Nat.le_refl _)))
   have ly:(Ze y).length≤(Ze x).length:=Wh.2 (Nat.lt_of_le_of_lt hxy (Wh.1 (Nat.le_refl _)))
   rw [if_pos (decide_eq_true (by omega)),Zin (Z5 _) (Z5 _) hN hs,Option.bind_some,Z1,Z1,if_neg h0]
   have hb:Z3 (y * (x % y))<n:=by
    have h1:=Zx7 hxy (by omega)
    have h2:Z3 (y * (x % y))≤Z3 (x * y / 2 ^ 1):=Vc.2 (Nat.lt_of_le_of_lt (by rw [Nat.pow_one];exact h1) (Vc.1 (Nat.le_refl _)))
    rw [Zfo] at h2
    have h3:0<x * y:=Nat.mul_pos (by omega) (by omega)
    have h4:0<Z3 (x * y):=by
     rcases Nat.eq_zero_or_pos (Z3 (x * y)) with h | h
     ·have:=Vc.1 (show Z3 (x * y)≤0 by omega)
      omega
     ·exact h
    omega
   have:=Zlk N n y (x % y) (Nat.le_of_lt hm) hb (by omega) (by omega)
   rw [this,Nat.gcd_comm x y,Nat.gcd_rec y x,Nat.gcd_comm]
theorem Znq (x y:Nat):Z3 (x * y)≤Z3 x+Z3 y:=by
 refine Vc.2 ?_
 rw [Nat.pow_add]
 have h1:=Vc.1 (Nat.le_refl (Z3 x))
 have h2:=Vc.1 (Nat.le_refl (Z3 y))
 exact Nat.mul_lt_mul'' h1 h2
theorem Zx6 {N:Nat} {a b:List Int} (ha:Zm a) (hb:Zm b) (hN:32 * (a.length+b.length)+8<N) (hs:a.length+b.length≤549755813888):Zgh N a b=some (Ze (Nat.gcd (Zb a) (Zb b))):=by
 have la:=Ym ha
 have lb:=Ym hb
 have ba:=(Zh9 (Zb a)).2
 have bb:=(Zh9 (Zb b)).2
 rw [Zgh,Tv ha (by omega) (by omega),Option.bind_some,Tv hb (by omega) (by omega),Option.bind_some]
 by_cases h:Zb b≤Zb a
 ·have:=Znq (Zb a) (Zb b)
  exact Zlk N N _ _ h (by omega) (by omega) (by omega)
 ·have h':Zb a<Zb b:=by omega
  have hm:=Znq (Zb b) (Zb a)
  have hp:0<(Ze (Zb b)).length:=List.length_pos_iff.2 (fun h=>by have:=Zdo.1 h;omega)
  obtain ⟨N',rfl⟩:∃ N',N=N'+1:=⟨N - 1,by omega⟩
  rw [Za9.eq_2,if_pos (decide_eq_true (by omega)),Zin (Z5 _) (Z5 _) (by omega) (by omega),Option.bind_some,Z1,Z1,if_neg (by omega),Nat.mod_eq_of_lt h',
   Zlk (N'+1) N' _ _ (by omega) (by omega) (by omega) (by omega),Nat.gcd_comm]
abbrev ZV:=Bool×List Int
abbrev QV:=R3×List Int
def Zs (a:ZV):Int:=if a.1=true then -(Zb a.2:Int) else (Zb a.2:Int)
def X2 (z:Int):ZV:=(decide (z<0),Ze z.natAbs)
def Yr (l:List Int):Nat:=if Zb l=0 then 1 else Zb l
def Xa (a:QV):Rat:=mkRat (Zs a.1) (Yr a.2)
def Z9 (q:Rat):QV:=(X2 q.num,Ze q.den)
structure RV (k:Nat) (a:QV):Prop where
 m:Zm a.1.2
 d:Zm a.2
 lm:a.1.2.length≤k
 ld:a.2.length≤k
def qs (q:Rat):Nat:=max (Ze q.num.natAbs).length (Ze q.den).length
def Xm (N s:Nat):Prop:=200 * (s+4)<N∧s≤17179869184
theorem Zhx (a:ZV):(Zs a).natAbs=Zb a.2:=by
 rw [Zs];split <;> omega
theorem So (z:Int):Zs (X2 z)=z:=by
 rw [Zs,X2]
 simp only [Z1,decide_eq_true_eq]
 split <;> omega
theorem Zhg (n:Bool) (m:List Int):X2 (Zs (n,m))=(n&&decide (Zb m≠0),Ze (Zb m)):=by
 rw [X2,Zhx]
 congr 1
 rw [Zs]
 cases n
 ·rw [if_neg (fun h=>by cases h),Bool.false_and]
  exact decide_eq_false (by omega)
 ·rw [if_pos rfl,Bool.true_and]
  exact decide_eq_decide.2 (by simp only;omega)
theorem Sy (z:Int):Zm (X2 z).2:=Z5 _
theorem T6 (l:List Int):Yr l≠0:=by rw [Yr];split <;> omega
theorem Zxd {n:Nat} (h:n≠0):Yr (Ze n)=n:=by rw [Yr,Z1,if_neg h]
theorem Sk (q:Rat):Xa (Z9 q)=q:=by
 rw [Xa,Z9]
 simp only [So,Zxd q.den_nz]
 exact Rat.mkRat_self q
theorem Ztk (q:Rat):RV (qs q) (Z9 q):=⟨Z5 _,Z5 _,Nat.le_max_left _ _,Nat.le_max_right _ _⟩
theorem RV.mono {k l:Nat} {a:QV} (h:RV k a) (hl:k≤l):RV l a:=⟨h.m,h.d,Nat.le_trans h.lm hl,Nat.le_trans h.ld hl⟩
theorem Qj {q:Rat} {k:Nat} (h:qs q≤k):RV k (Z9 q):=(Ztk q).mono h
theorem Xm.mono {N s t:Nat} (h:Xm N t) (hs:s≤t):Xm N s:=by
 obtain ⟨h1,h2⟩:=h
 exact ⟨by omega,by omega⟩
theorem W4 {m n:Nat} (h:m≤n):(Ze m).length≤(Ze n).length:=Wh.2 (Nat.lt_of_le_of_lt h (Wh.1 (Nat.le_refl _)))
theorem Tj (m n:Nat):(Ze (m * n)).length≤(Ze m).length+(Ze n).length:=by
 refine Wh.2 ?_
 rw [Nat.pow_add]
 exact Nat.mul_lt_mul'' (Wh.1 (Nat.le_refl _)) (Wh.1 (Nat.le_refl _))
theorem Zlq {m n k:Nat} (hm:(Ze m).length≤k) (hn:(Ze n).length≤k):(Ze (m+n)).length≤k+1:=by
 refine Wh.2 ?_
 have h1:=Wh.1 hm
 have h2:=Wh.1 hn
 rw [Nat.pow_succ]
 omega
theorem Tk {n:Nat} (h:n≠0):1≤(Ze n).length:=List.length_pos_iff.2 (fun e=>h (Zdo.1 e))
theorem Zz4 (q:Rat):1≤qs q:=Nat.le_trans (Tk q.den_nz) (Nat.le_max_right _ _)
theorem Zj4 {z:Int} {d k:Nat} (hz:(Ze z.natAbs).length≤k) (hd:(Ze d).length≤k) (hk:1≤k):qs (mkRat z d)≤k:=by
 rw [qs,Rat.num_mkRat,Rat.den_mkRat]
 by_cases h:d=0
 ·rw [if_pos h,if_pos h]
  simp only [Int.natAbs_zero,Wl,Sz]
  simp;omega
 ·rw [if_neg h,if_neg h]
  refine Nat.max_le.2 ⟨Nat.le_trans (W4 ?_) hz,Nat.le_trans (W4 (Nat.div_le_self _ _)) hd⟩
  exact Int.natAbs_ediv_le_natAbs _ _
theorem Zsd {k:Nat} {a:QV} (h:RV k a):qs (Xa a)≤max k 1:=by
 refine Zj4 ?_ ?_ (Nat.le_max_right _ _)
 ·rw [Zhx]
  exact Nat.le_trans (Ym h.m) (Nat.le_trans h.lm (Nat.le_max_left _ _))
 ·rw [Yr]
  split
  ·rw [Sz];exact Nat.le_max_right _ _
  ·exact Nat.le_trans (Ym h.d) (Nat.le_trans h.ld (Nat.le_max_left _ _))
theorem Zz3 (a b:Rat):qs (a * b)≤qs a+qs b:=by
 rw [Rat.mul_def']
 have:=Zz4 a
 refine Zj4 ?_ ?_ (by omega)
 ·rw [Int.natAbs_mul]
  exact Nat.le_trans (Tj _ _) (Nat.add_le_add (Nat.le_max_left _ _) (Nat.le_max_left _ _))
 ·exact Nat.le_trans (Tj _ _) (Nat.add_le_add (Nat.le_max_right _ _) (Nat.le_max_right _ _))
theorem Zz2 (a b:Rat):qs (a+b)≤qs a+qs b+1:=by
 rw [Rat.add_def']
 have an:(Ze a.num.natAbs).length≤qs a:=Nat.le_max_left _ _
 have ad:(Ze a.den).length≤qs a:=Nat.le_max_right _ _
 have bn:(Ze b.num.natAbs).length≤qs b:=Nat.le_max_left _ _
 have bd:(Ze b.den).length≤qs b:=Nat.le_max_right _ _
 refine Zj4 (Nat.le_trans (W4 (Int.natAbs_add_le _ _)) (Zlq ?_ ?_)) ?_ (by omega)
 ·rw [Int.natAbs_mul,Int.natAbs_natCast]
  have:=Tj a.num.natAbs b.den
  omega
 ·rw [Int.natAbs_mul,Int.natAbs_natCast]
  have:=Tj b.num.natAbs a.den
  omega
 ·have:=Tj a.den b.den
  omega
theorem Zse:qs 0=1:=by
 rw [qs]
 simp only [Rat.zero_num,Rat.zero_den,Int.natAbs_zero,Wl,Sz]
 simp
theorem Zj5:qs 1=1:=by
 rw [qs]
 simp only [Rat.one_num,Rat.one_den,Int.natAbs_one,Sz]
 simp
theorem Zre {neg:Bool} {num den:List Int} (hd:Zb den≠0):
  Z9 (mkRat (Zs (neg,num)) (Zb den))=((neg&&decide (Zb num / Nat.gcd (Zb num) (Zb den)≠0),Ze (Zb num / Nat.gcd (Zb num) (Zb den))),Ze (Zb den / Nat.gcd (Zb num) (Zb den))):=by
 rw [Z9,Rat.num_mkRat,Rat.den_mkRat,if_neg hd,if_neg hd,Zhx,Nat.gcd_comm (Zb den) (Zb num)]
 have hg:Nat.gcd (Zb num) (Zb den)≠0:=fun h=>hd (Nat.gcd_eq_zero_iff.1 h).2
 congr 1
 have e:Zs (neg,num) / ((Nat.gcd (Zb num) (Zb den):Nat):Int)=Zs (neg,Ze (Zb num / Nat.gcd (Zb num) (Zb den))):=by
  rw [Zs,Zs]
  simp only [Z1]
  cases neg
  ·simp
  ·simp only [if_true]
   rw [Int.neg_ediv_of_dvd (Int.natCast_dvd_natCast.2 (Nat.gcd_dvd_left _ _)),Int.natCast_ediv]
 rw [e,Zhg,Z1]
theorem Zjw {a b:Int} {c d:Nat} (hc:c≠0) (hd:d≠0):mkRat a c<mkRat b d↔a * d<b * c:=by
 have h1:(0:Rat)<(c:Rat):=Rat.natCast_pos.2 (by omega)
 have h2:(0:Rat)<(d:Rat):=Rat.natCast_pos.2 (by omega)
 rw [Rat.mkRat_eq_div,Rat.mkRat_eq_div,Rat.div_lt_iff h1]
 have e:(b:Rat) / d * c=(b:Rat) * c / d:=by
  rw [Rat.div_def,Rat.div_def,Rat.mul_assoc,Rat.mul_assoc,Rat.mul_comm (d:Rat)⁻¹]
 rw [e,Rat.lt_div_iff h2]
 have e1:((a:Rat) * (d:Rat))=((a * (d:Int):Int):Rat):=by rw [Rat.intCast_mul];rfl
 have e2:((b:Rat) * (c:Rat))=((b * (c:Int):Int):Rat):=by rw [Rat.intCast_mul];rfl
 rw [e1,e2,Rat.intCast_lt_intCast]
theorem Zq1 {a b:Int} {c d:Nat} (hc:c≠0) (hd:d≠0):mkRat a c=mkRat b d↔a * d=b * c:=Rat.mkRat_eq_iff hc hd
def U6 (a b:Rat):Int:=if a<b then -1 else if b<a then 1 else 0
def Zbv (a b:Int):Int:=if a<b then -1 else if b<a then 1 else 0
def Zbo (a:Rat):Int:=U6 a 0
theorem Zr8 {a b:Int} {c d:Nat} (hc:c≠0) (hd:d≠0):U6 (mkRat a c) (mkRat b d)=Zbv (a * d) (b * c):=by
 unfold U6 Zbv
 simp only [Zjw hc hd,Zjw hd hc]
theorem Znj (a:Int):Zbv a 0=a.sign:=by
 unfold Zbv
 rcases Int.lt_trichotomy a 0 with h | h | h
 ·rw [if_pos h,Int.sign_eq_neg_one_of_neg h]
 ·rw [h];rfl
 ·rw [if_neg (by omega),if_pos h,Int.sign_eq_one_of_pos h]
theorem Zz5 (a:QV):Zbo (Xa a)=(Zs a.1).sign:=by
 rw [Zbo,Xa,show (0:Rat)=mkRat 0 1 by rw [Rat.zero_mkRat],Zr8 (T6 _) (by decide),← Znj]
 simp
theorem Zsf {a:Rat}:Zbo a<0↔a<0:=by
 rw [Zbo,U6]
 by_cases h:a<0
 ·rw [if_pos h];simp [h]
 ·rw [if_neg h];simp only [h,iff_false];split <;> decide
def Ub (N:Nat) (ab:R1):Option R2:=
  (Zcj N ab.2).bind fun aa=>if (decide (0<(aa.length:Int)))=true then (some aa) else ((Qc N 1).bind fun ac=>some ac)
theorem T4 {N ad ae:Nat} {af ag:Option Addr} {col:Zd} {w0:World} {ab:R1} {r:R2} (c1:Nat) (hm:Ub N ab=some r) (aq:Sl (Za.int .u32) col w0 af ad ab.1.2) (ac:Sl (Za.int .u32) col w0 ag ae ab.2):
    Calls Tryz.prog 186 #[(.agg #[.bool ab.1.1,.slice af ab.1.2.length ad,.slice ag ab.2.length ae])] w0 (fun e w'=>∃ (col':Zd) (ra1:Option Addr) (rc2:Nat),e= .returned ((.slice ra1 r.length rc2))∧Zf col w0 col' w'∧Zc (Za.int .u32) 79 c1 col' w' ra1 rc2 r):=by
 refine Xc 2 (m:=12) func186 rfl rfl rfl rfl rfl ?_;rw [Ub.eq_1] at hm;have aa:=St.start col w0;refine go ?_;refine X6 (col:=(Zi col)) 1 rfl ?_;intro ar au av ah ai;refine go ?_;refine Xu ai ?_;obtain ⟨aw,aj,hm⟩:=bZ hm;replace ac:=ac.keep (Zk.start col w0);replace aa:=aa.grow ah;refine Zg (Zkz 2 aj (ac.ks aa)) ?_;rintro _ ax ⟨ak,ay,az,rfl,al,am⟩;refine ⟨_,rfl,go ?_⟩;replace aa:=aa.grow al;refine Zo hm (fun hb hm=>go ?_) fun hb hm=>go ?_
 ·cases hm;exact ⟨rfl,_,_,_,rfl,aa.fin (cm [(2,c1)]),aa.fo am⟩
 obtain ⟨a0,an,hm⟩:=bZ hm;refine Zg (Zdh (col:=ak) 3 an) ?_;rintro _ a1 ⟨a2,a3,a4,rfl,ao,ap⟩;refine ⟨_,rfl,go ?_⟩;cases hm;replace aa:=aa.grow ao;exact ⟨rfl,_,_,_,rfl,aa.fin (cm [(3,c1)]),aa.fo ap⟩
def Ze6 (aa:Bool) (ab:List Int):Option R3:=
  some (aa,ab)
def Si (N:Nat) (ab:Bool) (ac:List Int):Option R3:=
  (Zcj N ac).bind fun aa=>if ab=true then (Ze6 (decide (0<(aa.length:Int))) aa) else (Ze6 false aa)
theorem Zby {N ao:Nat} {a1:Option Addr} {col:Zd} {w0:World} {ap:Bool} {ah:R2} {r:R3} (c1:Nat) (hm:Si N ap ah=some r) (h1:Sl (Za.int .u32) col w0 a1 ao ah):
    Calls Tryz.prog 234 #[.bool ap,.slice a1 ah.length ao] w0 (fun e w'=>∃ (col':Zd) (ra1:Option Addr) (rc2:Nat),e= .returned ((.agg #[.bool r.1,.slice ra1 r.2.length rc2]))∧Zf col w0 col' w'∧Zc (Za.int .u32) 79 c1 col' w' ra1 rc2 r.2):=by
 refine Wa (m:=16) func234 rfl rfl rfl ?_;rw [Si.eq_1] at hm;have aa:=St.start col w0;refine go ?_;refine Xo (col:=(Zi col)) #[.bool false,.slice none (([]:List Int).length) 0] 1 zeroValue45 ?_;intro ax a4 a5 ay ac;refine go ?_;obtain ⟨ad,az,hm⟩:=bZ hm;replace h1:=h1.keep (Zk.start col w0);replace aa:=aa.grow ay;refine Zg (Zkz 2 az (h1.ks aa)) ?_;rintro _ a6 ⟨a7,aq,ar,rfl,au,ab⟩;refine ⟨_,rfl,?_⟩;refine Ziu rfl<|Zl<|Zu ?_;replace ac:=ac.gr au;replace aa:=aa.grow au;refine Wp.cutK [4,1000000] (fun f ae=>∃ af ai aj ak ag,Ze6 ai ag=some r∧St w0 (Zi col) af ae∧Zc (Za.int .u32) 79 3 af ae aj ak ag∧Zh 45 1 af ae ax #[.bool ai,.slice aj ag.length ak]) ?_ ?_
 ·intro f ae hJ;obtain ⟨af,ai,aj,ak,ag,hm,aa,a0,ac⟩:=hJ;rw [Ze6.eq_1] at hm;refine W0 ?_;cases hm;exact ⟨rfl,_,ra ac.atN,_,_,_,rfl,aa.fin (cm [(3,c1)]),aa.fo a0⟩
 refine go ?_;refine X5 hm (fun al hm=>go ?_) fun al hm=>go ?_
 ·refine lV (.bool (decide (0<(ad.length:Int)))) (Xq (congrArg Value.bool al) rfl)<|Yu rfl<|lV (.agg #[.bool (decide (0<(ad.length:Int))),.slice aq ad.length ar]) (Wb (l:=[_,_]) (qs:=[(0,1),(1,1)]) underlying45 zeroValue45 ⟨rfl,sizeOf4,rfl,sizeOf43,trivial⟩ rfl)<|Z4 ac ?_;intro a8 av a2 am;refine Zl ?_;replace ab:=ab.kp av;replace ab:=ab.recolSelf 3 (by decide);replace am:=am.recol 2 3 (by decide);replace aa:=aa.kp av a2;replace aa:=aa.recol 2 3 (by decide) (by decide);exact ⟨rfl,_,_,_,_,_,hm,aa,ab,am⟩
 refine lV (.bool false) (Xk (congrArg Value.bool al) rfl)<|Yu rfl<|lV (.agg #[.bool false,.slice aq ad.length ar]) (Wb (l:=[_,_]) (qs:=[(0,1),(1,1)]) underlying45 zeroValue45 ⟨rfl,sizeOf4,rfl,sizeOf43,trivial⟩ rfl)<|Z4 ac ?_;intro a9 aw a3 an;refine Zl ?_;replace ab:=ab.kp aw;replace ab:=ab.recolSelf 3 (by decide);replace an:=an.recol 2 3 (by decide);replace aa:=aa.kp aw a3;replace aa:=aa.recol 2 3 (by decide) (by decide);exact ⟨rfl,_,_,_,_,_,hm,aa,ab,an⟩
def Zhd (N:Nat) (aa:R3) (ab:R3):Option R3:=
  (Sc N aa.2 ab.2).bind fun ad=>(Si N (!decide (aa.1=ab.1)) ad).bind fun ac=>some (ac.1,ac.2)
theorem Zws {N ar au:Nat} {av aw:Option Addr} {col:Zd} {w0:World} {ag ah r:R3} (c1:Nat) (hm:Zhd N ag ah=some r) (al:Sl (Za.int .u32) col w0 av ar ag.2) (am:Sl (Za.int .u32) col w0 aw au ah.2):
    Calls Tryz.prog 256 #[(.agg #[.bool ag.1,.slice av ag.2.length ar]),(.agg #[.bool ah.1,.slice aw ah.2.length au])] w0 (fun e w'=>∃ (col':Zd) (ra1:Option Addr) (rc2:Nat),e= .returned ((.agg #[.bool r.1,.slice ra1 r.2.length rc2]))∧Zf col w0 col' w'∧Zc (Za.int .u32) 79 c1 col' w' ra1 rc2 r.2):=by
 refine Wa (m:=16) func256 rfl rfl rfl ?_;rw [Zhd.eq_1] at hm;have aa:=St.start col w0;refine go ?_;refine X6 (col:=(Zi col)) 1 rfl ?_;intro a7 a8 az a0 ai;refine X6 (col:=az) 2 rfl ?_;intro a9 ba a1 ax aj;refine Xo (col:=a1) #[.bool false,.slice none (([]:List Int).length) 0] 3 zeroValue45 ?_;intro bb bc ad an ab;refine go ?_;refine Wi (col:=ad) [(0,1),(1,0),(2,1),(3,0),(4,1),(5,1),(6,0),(7,1),(8,0),(9,3),(10,3),(11,2)] (by kernel_rfl) (by kernel_rfl)<|xF ⟨_,_,rfl⟩ ?_;replace ai:=(ai.gr ax).gr an;refine xW (fun _ hC=>((ai.atN).nth (q:=0) rfl).gr (hC.bl ad)) ?_;refine xF ⟨_,_,rfl⟩ ?_;replace aj:=aj.gr an;refine xW (fun _ hC=>((aj.atN).nth (q:=0) rfl).gr (hC.bl ad)) ?_;refine xu rfl rfl (fun _=>Zhn _ _ underlying4 rfl rfl) ?_;refine xF ⟨_,_,rfl⟩ ?_;refine xW (fun _ hC=>((ai.atN).nth (q:=1) rfl).gr (hC.bl ad)) ?_;refine xF ⟨_,_,rfl⟩ ?_;refine xW (fun _ hC=>((aj.atN).nth (q:=1) rfl).gr (hC.bl ad)) ?_;refine xe rfl rfl ?_;intro bd hC0;have hC:=hC0.bl ad;obtain ⟨be,a2,hm⟩:=bZ hm;replace al:=al.keep (Zk.start col w0);replace am:=am.keep (Zk.start col w0);replace aa:=(((aa.grow a0).grow ax).grow an).grow hC;refine Zg (Zdg 4 a2 (al.ks aa) (am.ks aa)) ?_;rintro _ bf ⟨af,bg,bh,rfl,ao,ap⟩;refine ⟨_,rfl,?_⟩;refine Zl<|X3 af hC0 ao<|xe rfl rfl ?_;intro a3 hC0;replace ab:=(ab.gr hC).gr ao;have hC:=hC0.bl af;obtain ⟨bi,a4,hm⟩:=bZ hm;replace ap:=ap.gr hC;refine Zg (Zby 5 a4 (ap.toSlF (Zj.int .u32))) ?_;rintro _ bj ⟨a5,bk,bm,rfl,ae,ac⟩;refine ⟨_,rfl,?_⟩;replace ac:=ac.thaw (Zx .u32) ae ((Fz.refl (col:=af)).froz 4) (by decide);replace ae:=ae.thawR (col:=af);generalize Z6 a3.heap.size af a5=ak at *;refine Zl<|X3 ak hC0 ae<|xe rfl rfl ?_;intro bn hC0;replace aa:=((aa.grow ao).grow hC).grow ae;replace ab:=(ab.gr hC).gr ae;have hC:=hC0.bl ak;replace ab:=ab.gr hC;refine Z4 ab ?_;intro bo ay a6 aq;refine Zl<|xk ak<|Y5 ?_;replace ac:=(ac.gr hC).kp ay;replace aa:=(aa.grow hC).kp ay a6;intro bp hC;replace hC:=hC.bl ak;refine W0 ?_;cases hm;replace ac:=ac.gr hC;replace aq:=aq.gr hC;replace aa:=aa.grow hC;exact ⟨rfl,_,ra aq.atN,_,_,_,rfl,aa.fin (cm [(5,c1)]),aa.fo ac⟩
def Zaz (N:Nat) (aa:R3) (ac:List Int):Option R3:=
  (Zhd N (aa.1,aa.2) (false,ac)).bind fun ab=>some (ab.1,ab.2)
theorem Zie {N ai ad:Nat} {aj a1:Option Addr} {col:Zd} {w0:World} {ab:R3} {ac:R2} {r:R3} (c1:Nat) (hm:Zaz N ab ac=some r) (ae:Sl (Za.int .u32) col w0 aj ai ab.2) (h1:Sl (Za.int .u32) col w0 a1 ad ac):
    Calls Tryz.prog 185 #[(.agg #[.bool ab.1,.slice aj ab.2.length ai]),.slice a1 ac.length ad] w0 (fun e w'=>∃ (col':Zd) (ra1:Option Addr) (rc2:Nat),e= .returned ((.agg #[.bool r.1,.slice ra1 r.2.length rc2]))∧Zf col w0 col' w'∧Zc (Za.int .u32) 79 c1 col' w' ra1 rc2 r.2):=by
 refine Wa (m:=9) func185 rfl rfl rfl ?_;rw [Zaz.eq_1] at hm;have aa:=St.start col w0;refine go ?_;refine X6 (col:=(Zi col)) 1 rfl ?_;intro au av an ao af;refine Xo (col:=an) #[.bool false,.slice none (([]:List Int).length) 0] 2 zeroValue45 ?_;intro aw ax ay ak ag;refine go ?_;replace af:=af.gr ak;refine lV _ (Xi isAgg45 sizeOf45 af)<|Yu rfl<|lV (.agg #[.bool false,.slice a1 ac.length ad]) (Wb (l:=[_,_]) (qs:=[(0,1),(1,1)]) underlying45 zeroValue45 ⟨rfl,sizeOf4,rfl,sizeOf43,trivial⟩ rfl) ?_;obtain ⟨az,ap,hm⟩:=bZ hm;replace ae:=ae.keep (Zk.start col w0);replace h1:=h1.keep (Zk.start col w0);replace aa:=(aa.grow ao).grow ak;refine Zg (Zws 3 ap (ae.ks aa) (h1.ks aa)) ?_;rintro _ a0 ⟨a2,a3,a4,rfl,al,ah⟩;refine ⟨_,rfl,?_⟩;replace ag:=ag.gr al;refine Z4 ag ?_;intro a5 am aq ar;refine go ?_;cases hm;replace aa:=(aa.grow al).kp am aq;replace ah:=ah.kp am;exact ⟨rfl,_,ra ar.atN,_,_,_,rfl,aa.fin (cm [(3,c1)]),aa.fo ah⟩
def Zhb (N:Nat) (aa:R3) (ab:R3):Option R3:=
  if (decide (aa.1=ab.1))=true then ((Zgf N aa.2 ab.2).bind fun ag=>(Si N aa.1 ag).bind fun ac=>some (ac.1,ac.2)) else ((Zei N aa.2 ab.2).bind fun ad=>if ad.2=true then ((Si N aa.1 ad.1).bind fun ae=>some (ae.1,ae.2)) else ((Zei N ab.2 aa.2).bind fun ah=>(Si N ab.1 ah.1).bind fun af=>some (af.1,af.2)))
theorem Zwq {N a3 a4:Nat} {a5 a6:Option Addr} {col:Zd} {w0:World} {ao ap r:R3} (c1:Nat) (hm:Zhb N ao ap=some r) (ag:Sl (Za.int .u32) col w0 a5 a3 ao.2) (ah:Sl (Za.int .u32) col w0 a6 a4 ap.2):
    Calls Tryz.prog 188 #[(.agg #[.bool ao.1,.slice a5 ao.2.length a3]),(.agg #[.bool ap.1,.slice a6 ap.2.length a4])] w0 (fun e w'=>∃ (col':Zd) (ra1:Option Addr) (rc2:Nat),e= .returned ((.agg #[.bool r.1,.slice ra1 r.2.length rc2]))∧Zf col w0 col' w'∧Zc (Za.int .u32) 79 c1 col' w' ra1 rc2 r.2):=by
 refine Wa (m:=47) func188 rfl rfl rfl ?_;rw [Zhb.eq_1] at hm;have aa:=St.start col w0;refine go ?_;refine X6 (col:=(Zi col)) 1 rfl ?_;intro b3 b4 bf bg ad;refine X6 (col:=bf) 2 rfl ?_;intro b5 b6 bh a7 ac;refine Xo (col:=bh) #[.bool false,.slice none (([]:List Int).length) 0] 3 zeroValue45 ?_;intro b7 b8 ai aw ab;refine go ?_;refine Wg ⟨_,_,rfl⟩ ?_;replace ad:=(ad.gr a7).gr aw;refine lW ((ad.atN).nth (q:=0) rfl)<|Wg ⟨_,_,rfl⟩ ?_;replace ac:=ac.gr aw;refine lW ((ac.atN).nth (q:=0) rfl)<|go ?_;replace ag:=ag.keep (Zk.start col w0);replace ah:=ah.keep (Zk.start col w0);replace aa:=((aa.grow bg).grow a7).grow aw;refine Zo hm (fun hb hm=>?_) fun hb hm=>go ?_
 ·refine Zu<|Wi (col:=ai) [(0,1),(1,0),(2,1),(3,0),(4,1),(5,0),(6,3),(7,3),(8,2)] (by kernel_rfl) (by kernel_rfl)<|xF ⟨_,_,rfl⟩ ?_;refine xW (fun _ hC=>((ad.atN).nth (q:=0) rfl).gr (hC.bl ai)) ?_;refine xF ⟨_,_,rfl⟩ ?_;refine xW (fun _ hC=>((ad.atN).nth (q:=1) rfl).gr (hC.bl ai)) ?_;refine xF ⟨_,_,rfl⟩ ?_;refine xW (fun _ hC=>((ac.atN).nth (q:=1) rfl).gr (hC.bl ai)) ?_;refine xe rfl rfl ?_;intro b9 hC0;have hC:=hC0.bl ai;obtain ⟨ca,bi,hm⟩:=bZ hm;replace aa:=aa.grow hC;refine Zg (Zvs 4 bi (ag.ks aa) (ah.ks aa)) ?_;rintro _ cb ⟨aj,cc,cd,rfl,ax,ay⟩;refine ⟨_,rfl,?_⟩;refine Zl<|X3 aj hC0 ax<|xe rfl rfl ?_;intro bj hC0;replace ab:=(ab.gr hC).gr ax;have hC:=hC0.bl aj;obtain ⟨ce,bk,hm⟩:=bZ hm;replace ay:=ay.gr hC;refine Zg (Zby 5 bk (ay.toSlF (Zj.int .u32))) ?_;rintro _ cf ⟨bm,cg,ch,rfl,af,ae⟩;refine ⟨_,rfl,?_⟩;replace ae:=ae.thaw (Zx .u32) af ((Fz.refl (col:=aj)).froz 4) (by decide);replace af:=af.thawR (col:=aj);generalize Z6 bj.heap.size aj bm=aq at *;refine Zl<|X3 aq hC0 af<|xe rfl rfl ?_;intro ci hC0;replace aa:=((aa.grow ax).grow hC).grow af;replace ab:=(ab.gr hC).gr af;have hC:=hC0.bl aq;replace ab:=ab.gr hC;refine Z4 ab ?_;intro cj a8 bn az;refine Zl<|xk aq<|Y5 ?_;replace ae:=(ae.gr hC).kp a8;replace aa:=(aa.grow hC).kp a8 bn;intro ck hC;replace hC:=hC.bl aq;refine W0 ?_;cases hm;replace ae:=ae.gr hC;replace az:=az.gr hC;replace aa:=aa.grow hC;exact ⟨rfl,_,ra az.atN,_,_,_,rfl,aa.fin (cm [(5,c1)]),aa.fo ae⟩
 refine Xu ad<|Xu ac ?_;obtain ⟨ar,bo,hm⟩:=bZ hm;refine Zg (Zn1 6 bo (ag.ks aa) (ah.ks aa)) ?_;rintro _ bp ⟨a0,a9,ba,rfl,au,bq⟩;refine ⟨_,rfl,?_⟩;refine lM (.tuple #[.slice a9 ar.1.length ba,.bool ar.2])<|lV (.slice a9 ar.1.length ba) (Xh rfl rfl)<|lV (.bool ar.2) (Xh rfl rfl)<|go ?_;replace ad:=ad.gr au;replace ac:=ac.gr au;replace ab:=ab.gr au;replace aa:=aa.grow au;refine Zo hm (fun hb hm=>go ?_) fun hb hm=>go ?_
 ·refine Xu ad<|Yu rfl ?_;obtain ⟨cl,br,hm⟩:=bZ hm;refine Zg (Zby 7 br (bq.toSlF (Zj.int .u32))) ?_;rintro _ cn ⟨bs,co,cp,rfl,ak,al⟩;refine ⟨_,rfl,?_⟩;replace al:=al.thaw (Zx .u32) ak ((Fz.refl (col:=a0)).froz 6) (by decide);replace ak:=ak.thawR (col:=a0);generalize Z6 bp.heap.size a0 bs=cq at *;replace ab:=ab.gr ak;refine Z4 ab ?_;intro cr bb bt bu;refine go ?_;cases hm;replace aa:=(aa.grow ak).kp bb bt;replace al:=al.kp bb;exact ⟨rfl,_,ra bu.atN,_,_,_,rfl,aa.fin (cm [(7,c1)]),aa.fo al⟩
 refine Xu ac<|Xu ad ?_;obtain ⟨av,bv,hm⟩:=bZ hm;refine Zg (Zn1 8 bv (ah.ks aa) (ag.ks aa)) ?_;rintro _ bw ⟨a1,bc,bd,rfl,a2,bx⟩;refine ⟨_,rfl,?_⟩;refine lM (.tuple #[.slice bc av.1.length bd,.bool av.2])<|lV (.slice bc av.1.length bd) (Xh rfl rfl)<|lV (.bool av.2) (Xh rfl rfl)<|go ?_;refine Wg ⟨_,_,rfl⟩ ?_;replace ac:=ac.gr a2;refine lW ((ac.atN).nth (q:=0) rfl)<|Yu rfl ?_;obtain ⟨cs,bz,hm⟩:=bZ hm;refine Zg (Zby 9 bz (bx.toSlF (Zj.int .u32))) ?_;rintro _ ct ⟨b0,cu,cv,rfl,am,an⟩;refine ⟨_,rfl,?_⟩;replace an:=an.thaw (Zx .u32) am ((Fz.refl (col:=a1)).froz 8) (by decide);replace am:=am.thawR (col:=a1);generalize Z6 bw.heap.size a1 b0=cw at *;replace ab:=(ab.gr a2).gr am;refine Z4 ab ?_;intro cx be b1 b2;refine go ?_;cases hm;replace aa:=((aa.grow a2).grow am).kp be b1;replace an:=an.kp be;exact ⟨rfl,_,ra b2.atN,_,_,_,rfl,aa.fin (cm [(9,c1)]),aa.fo an⟩
def Zhe (N:Nat) (aa:R3):Option R3:=
  (Si N aa.1 aa.2).bind fun ab=>some (ab.1,ab.2)
theorem Zwt {N ag:Nat} {ah:Option Addr} {col:Zd} {w0:World} {ab r:R3} (c1:Nat) (hm:Zhe N ab=some r) (ad:Sl (Za.int .u32) col w0 ah ag ab.2):
    Calls Tryz.prog 261 #[(.agg #[.bool ab.1,.slice ah ab.2.length ag])] w0 (fun e w'=>∃ (col':Zd) (ra1:Option Addr) (rc2:Nat),e= .returned ((.agg #[.bool r.1,.slice ra1 r.2.length rc2]))∧Zf col w0 col' w'∧Zc (Za.int .u32) 79 c1 col' w' ra1 rc2 r.2):=by
 refine Wa (m:=8) func261 rfl rfl rfl ?_;rw [Zhe.eq_1] at hm;have aa:=St.start col w0;refine go ?_;refine X6 (col:=(Zi col)) 1 rfl ?_;intro aq ar al am ac;refine Xo (col:=al) #[.bool false,.slice none (([]:List Int).length) 0] 2 zeroValue45 ?_;intro au av aw ai ae;refine go ?_;refine Wg ⟨_,_,rfl⟩ ?_;replace ac:=ac.gr ai;refine lW ((ac.atN).nth (q:=0) rfl)<|Xu ac ?_;obtain ⟨ax,an,hm⟩:=bZ hm;replace ad:=ad.keep (Zk.start col w0);replace aa:=(aa.grow am).grow ai;refine Zg (Zby 3 an (ad.ks aa)) ?_;rintro _ ay ⟨az,a0,a1,rfl,aj,af⟩;refine ⟨_,rfl,?_⟩;replace ae:=ae.gr aj;refine Z4 ae ?_;intro a2 ak ao ap;refine go ?_;cases hm;replace aa:=(aa.grow aj).kp ak ao;replace af:=af.kp ak;exact ⟨rfl,_,ra ap.atN,_,_,_,rfl,aa.fin (cm [(3,c1)]),aa.fo af⟩
def Qw (N:Nat) (ae:Bool) (aa:List Int) (ab:List Int):Option R1:=
  (Zgh N aa ab).bind fun ac=>(Zch N aa ac).bind fun af=>(Zch N ab ac).bind fun ag=>(Zhe N (ae,af.1)).bind fun ad=>some ((ad.1,ad.2),ag.1)
theorem Zfq {N ay az:Nat} {a1 a2:Option Addr} {col:Zd} {w0:World} {ak:Bool} {al am:R2} {r:R1} (c1 c2:Nat) (hm:Qw N ak al am=some r) (h1:Sl (Za.int .u32) col w0 a1 ay al) (h2:Sl (Za.int .u32) col w0 a2 az am):
    Calls Tryz.prog 189 #[.bool ak,.slice a1 al.length ay,.slice a2 am.length az] w0 (fun e w'=>∃ (col':Zd) (ra1:Option Addr) (rc2:Nat) (ra4:Option Addr) (rc5:Nat),e= .returned ((.agg #[.bool r.1.1,.slice ra1 r.1.2.length rc2,.slice ra4 r.2.length rc5]))∧Zf col w0 col' w'∧Zc (Za.int .u32) 79 c1 col' w' ra1 rc2 r.1.2∧Zc (Za.int .u32) 79 c2 col' w' ra4 rc5 r.2):=by
 refine Wa (m:=37) func189 rfl rfl rfl ?_;rw [Qw.eq_1] at hm;have aa:=St.start col w0;refine go ?_;refine Xo (col:=(Zi col)) #[.bool false,.slice none (([]:List Int).length) 0,.slice none (([]:List Int).length) 0] 1 zeroValue47 ?_;intro bo bp bq a8 an;refine go ?_;obtain ⟨br,a9,hm⟩:=bZ hm;replace h1:=h1.keep (Zk.start col w0);replace h2:=h2.keep (Zk.start col w0);replace aa:=aa.grow a8;refine Zg (Zvu 2 a9 (h1.ks aa) (h2.ks aa)) ?_;rintro _ ba ⟨ao,bs,bt,rfl,a0,aj⟩;refine ⟨_,rfl,go ?_⟩;obtain ⟨ab,bb,hm⟩:=bZ hm;replace aa:=aa.grow a0;refine Zg (Zky 3 4 bb ((h1.ks aa).froz 2) (aj.toSlF (Zj.int .u32))) ?_;rintro _ bc ⟨bd,ap,aq,a3,a4,rfl,ad,ag,bu⟩;refine ⟨_,rfl,?_⟩;replace ag:=ag.thaw (Zx .u32) ad ((Fz.refl (col:=ao)).froz 2) (by decide);replace ad:=ad.thawR (col:=ao);generalize Z6 ba.heap.size ao bd=ar at *;refine lM (.tuple #[.slice ap ab.1.length aq,.slice a3 ab.2.1.length a4,.int .i64 ab.2.2])<|lV (.slice ap ab.1.length aq) (Xh rfl rfl)<|lV (.slice a3 ab.2.1.length a4) (Xh rfl rfl)<|lV (.int .i64 ab.2.2) (Xh rfl rfl)<|go ?_;obtain ⟨ac,be,hm⟩:=bZ hm;replace aj:=aj.gr ad;replace aa:=aa.grow ad;refine Zg (Zky 5 6 be ((h2.ks aa).froz 2) (aj.toSlF (Zj.int .u32))) ?_;rintro _ bf ⟨bg,au,av,a5,a6,rfl,ae,ah,bv⟩;refine ⟨_,rfl,?_⟩;replace ah:=ah.thaw (Zx .u32) ae ((Fz.refl (col:=ar)).froz 2) (by decide);replace ae:=ae.thawR (col:=ar);generalize Z6 bc.heap.size ar bg=aw at *;refine lM (.tuple #[.slice au ac.1.length av,.slice a5 ac.2.1.length a6,.int .i64 ac.2.2])<|lV (.slice au ac.1.length av) (Xh rfl rfl)<|lV (.slice a5 ac.2.1.length a6) (Xh rfl rfl)<|lV (.int .i64 ac.2.2) (Xh rfl rfl)<|go ?_;refine lV (.agg #[.bool ak,.slice ap ab.1.length aq]) (Wb (l:=[_,_]) (qs:=[(0,1),(1,1)]) underlying45 zeroValue45 ⟨rfl,sizeOf4,rfl,sizeOf43,trivial⟩ rfl) ?_;obtain ⟨a7,bh,hm⟩:=bZ hm;replace ag:=ag.gr ae;refine Zg (Zwt 7 bh (ag.toSlF (Zj.int .u32))) ?_;rintro _ bw ⟨bi,bj,bk,rfl,af,ai⟩;refine ⟨_,rfl,?_⟩;replace ai:=ai.thaw (Zx .u32) af ((Fz.refl (col:=aw)).froz 3) (by decide);replace af:=af.thawR (col:=aw);generalize Z6 bf.heap.size aw bi=bx at *
 refine Yu rfl<|lV (.agg #[.bool a7.1,.slice bj a7.2.length bk,.slice au ac.1.length av]) (Wb (l:=[_,_]) (qs:=[(0,2),(2,1)]) underlying47 zeroValue47 ⟨rfl,sizeOf45,rfl,sizeOf43,trivial⟩ rfl) ?_;replace an:=(((an.gr a0).gr ad).gr ae).gr af;refine Z4 an ?_;intro bz ax bm bn;refine go ?_;cases hm;replace aa:=((aa.grow ae).grow af).kp ax bm;replace ah:=(ah.gr af).kp ax;replace ai:=ai.kp ax;exact ⟨rfl,_,ra bn.atN,_,_,_,_,_,rfl,aa.fin (cm [(7,c1),(5,c2)]),aa.fo ai,aa.fo ah⟩
def Sa (N:Nat) (aa:R1) (ab:R1):Option R1:=
  (Ub N ((ab.1.1,ab.1.2),ab.2)).bind fun ag=>(Zaz N (aa.1.1,aa.1.2) ag).bind fun ad=>(Ub N ((aa.1.1,aa.1.2),aa.2)).bind fun ah=>(Zaz N (ab.1.1,ab.1.2) ah).bind fun ae=>(Zhb N (ad.1,ad.2) (ae.1,ae.2)).bind fun af=>(Ub N ((aa.1.1,aa.1.2),aa.2)).bind fun ai=>(Ub N ((ab.1.1,ab.1.2),ab.2)).bind fun aj=>(Sc N ai aj).bind fun ak=>(Qw N af.1 af.2 ak).bind fun ac=>some ((ac.1.1,ac.1.2),ac.2)
theorem Zfp {N bo bz bp b0:Nat} {bq b1 br b2:Option Addr} {col:Zd} {w0:World} {aj ak r:R1} (c1 c2:Nat) (hm:Sa N aj ak=some r) (ba:Sl (Za.int .u32) col w0 bq bo aj.1.2) (bs:Sl (Za.int .u32) col w0 b1 bz aj.2) (bb:Sl (Za.int .u32) col w0 br bp ak.1.2) (bt:Sl (Za.int .u32) col w0 b2 b0 ak.2):
    Calls Tryz.prog 73 #[(.agg #[.bool aj.1.1,.slice bq aj.1.2.length bo,.slice b1 aj.2.length bz]),(.agg #[.bool ak.1.1,.slice br ak.1.2.length bp,.slice b2 ak.2.length b0])] w0 (fun e w'=>∃ (col':Zd) (ra1:Option Addr) (rc2:Nat) (ra4:Option Addr) (rc5:Nat),e= .returned ((.agg #[.bool r.1.1,.slice ra1 r.1.2.length rc2,.slice ra4 r.2.length rc5]))∧Zf col w0 col' w'∧Zc (Za.int .u32) 79 c1 col' w' ra1 rc2 r.1.2∧Zc (Za.int .u32) 79 c2 col' w' ra4 rc5 r.2):=by
 refine Wa (m:=27) func73 rfl rfl rfl ?_;rw [Sa.eq_1] at hm;have aa:=St.start col w0;refine go ?_;refine X6 (col:=(Zi col)) 1 rfl ?_;intro cd c9 ce cf ae;refine X6 (col:=ce) 2 rfl ?_;intro cg da ch ca af;refine Xo (col:=ch) #[.bool false,.slice none (([]:List Int).length) 0,.slice none (([]:List Int).length) 0] 3 zeroValue47 ?_;intro db a4 ay b3 ab;refine go ?_;have bu:=Zt.clip (fun _=>false) ay a4;refine Zum (col:=ay) [(0,1),(1,0),(2,0),(5,1),(6,0),(7,0),(3,3),(4,3),(8,3),(9,3),(10,3),(11,4),(12,2)] (by kernel_rfl) (by kernel_rfl) ⟨fun h=>absurd h (by decide),fun h=>absurd h (by decide),fun h=>absurd h (by decide),fun h=>absurd h (by decide),fun h=>absurd h (by decide),fun h=>absurd h (by decide),fun h=>absurd h (by decide),fun h=>absurd h (by decide),fun h=>absurd h (by decide),fun h=>absurd h (by decide),fun h=>absurd h (by decide),fun _=>⟨_,_,_,rfl,Zir zeroValue45⟩,fun h=>absurd h (by decide),trivial⟩<|Zbu (v:=(.pointer ((some (⟨cd,0,none⟩:Addr)).map (·.add 0)))) rfl rfl (fun _=>Ze9 (sz:=2) (off:=0) underlying47 rfl sizeOf45 (by decide) rfl rfl ⟨_,_,rfl⟩) ?_;replace ae:=((ae.gr ca).gr b3).kpp bu;refine Zfh (v:=(.agg #[.bool aj.1.1,.slice bq aj.1.2.length bo])) rfl rfl (fun _ hC=>Wv isAgg45 sizeOf45 rfl rfl (((ae.atN).part 0 2 _ rfl).gr (hC.bl (Zq a4 ay)))) ?_;replace af:=(af.gr b3).kpp bu;refine Zfh (v:=(.agg #[.bool ak.1.1,.slice br ak.1.2.length bp,.slice b2 ak.2.length b0])) rfl rfl (fun _ hC=>Wv isAgg47 sizeOf47 rfl rfl (af.atN.gr (hC.bl (Zq a4 ay)))) ?_;refine Zbu (v:=(.pointer ((some (⟨cg,0,none⟩:Addr)).map (·.add 0)))) rfl rfl (fun _=>Ze9 (sz:=2) (off:=0) underlying47 rfl sizeOf45 (by decide) rfl rfl ⟨_,_,rfl⟩) ?_;refine Zfh (v:=(.agg #[.bool ak.1.1,.slice br ak.1.2.length bp])) rfl rfl (fun _ hC=>Wv isAgg45 sizeOf45 rfl rfl (((af.atN).part 0 2 _ rfl).gr (hC.bl (Zq a4 ay)))) ?_;refine Zfh (v:=(.agg #[.bool aj.1.1,.slice bq aj.1.2.length bo,.slice b1 aj.2.length bz])) rfl rfl (fun _ hC=>Wv isAgg47 sizeOf47 rfl rfl (ae.atN.gr (hC.bl (Zq a4 ay)))) ?_;refine Qm rfl rfl ?_;intro dc hC0;have hC:=hC0.bl (Zq a4 ay);obtain ⟨dd,ci,hm⟩:=bZ hm;replace bb:=bb.keep (Zk.start col w0);replace bt:=bt.keep (Zk.start col w0);replace aa:=((((aa.grow cf).grow ca).grow b3).kpp bu).grow hC;refine Zg (T4 4 ci (bb.ks aa) (bt.ks aa)) ?_;rintro _ ao ⟨au,de,df,rfl,az,b4⟩;refine ⟨_,rfl,?_⟩
 refine Zl ?_;refine ⟨fun w'=>Zf (Zq ao au) ao (Zq ao au) w',fun g=>(Zq ao au) g=497,Zf.refl _ _,T8,fun _=>⟨fun _ h=>Qn hC0 az h,fun b hb=>az.below.block b hb,fun g x1 x2=>Zas az g x1 (by first | exact x2 | (simp only [Yd,x2];rfl) | (simp only [Yd,Z8,x2];rfl))⟩,?_⟩;have bc:=Zt.clip (fun _=>false) au ao;refine Qm rfl rfl ?_;intro cj hC0;replace ab:=(((ab.kpp bu).gr hC).gr az).kpp bc;replace ae:=((ae.gr hC).gr az).kpp bc;replace af:=((af.gr hC).gr az).kpp bc;have hC:=hC0.bl (Zq ao au);obtain ⟨dg,ck,hm⟩:=bZ hm;replace ba:=ba.keep (Zk.start col w0);replace aa:=((aa.grow az).kpp bc).grow hC;replace b4:=(b4.kpp bc).gr hC;refine Zg (Zie 5 ck ((ba.ks aa).froz 4) (b4.toSlF (Zj.int .u32))) ?_;rintro _ a5 ⟨cl,dh,di,rfl,am,ap⟩;refine ⟨_,rfl,?_⟩;replace bs:=bs.keep (Zk.start col w0);replace ap:=ap.thaw (Zx .u32) am ((Fz.refl (col:=(Zq ao au))).froz 4) (by decide);replace am:=am.thawR (col:=(Zq ao au));generalize Z6 cj.heap.size (Zq ao au) cl=bd at *;refine Zl ?_;refine ⟨fun w'=>Zf (Zq a5 bd) a5 (Zq a5 bd) w',fun g=>(Zq a5 bd) g=497,Zf.refl _ _,T8,fun _=>⟨fun _ h=>Qn hC0 am h,fun b hb=>am.below.block b hb,fun g x1 x2=>Zas am g x1 (by first | exact x2 | (simp only [Yd,x2];rfl) | (simp only [Yd,Z8,x2];rfl))⟩,?_⟩;have be:=Zt.clip (fun _=>false) bd a5;refine Qm rfl rfl ?_;intro dj hC0;replace ae:=((ae.gr hC).gr am).kpp be;replace af:=((af.gr hC).gr am).kpp be;replace ab:=((ab.gr hC).gr am).kpp be;have hC:=hC0.bl (Zq a5 bd);obtain ⟨dk,cn,hm⟩:=bZ hm;replace aa:=((aa.grow am).kpp be).grow hC;refine Zg (T4 6 cn (ba.ks aa) (bs.ks aa)) ?_;rintro _ aq ⟨av,dl,dm,rfl,aw,b5⟩;refine ⟨_,rfl,?_⟩;refine Zl ?_;refine ⟨fun w'=>Zf (Zq aq av) aq (Zq aq av) w',fun g=>(Zq aq av) g=497,Zf.refl _ _,T8,fun _=>⟨fun _ h=>Qn hC0 aw h,fun b hb=>aw.below.block b hb,fun g x1 x2=>Zas aw g x1 (by first | exact x2 | (simp only [Yd,x2];rfl) | (simp only [Yd,Z8,x2];rfl))⟩,?_⟩;have a6:=Zt.clip (fun _=>false) av aq;refine Qm rfl rfl ?_;intro co hC0;replace ap:=(((ap.kpp be).gr hC).gr aw).kpp a6;replace ae:=((ae.gr hC).gr aw).kpp a6;replace af:=((af.gr hC).gr aw).kpp a6;replace ab:=((ab.gr hC).gr aw).kpp a6;have hC:=hC0.bl (Zq aq av)
 obtain ⟨dn,cp,hm⟩:=bZ hm;replace aa:=((aa.grow aw).kpp a6).grow hC;replace b5:=(b5.kpp a6).gr hC;refine Zg (Zie 7 cp ((bb.ks aa).froz 6) (b5.toSlF (Zj.int .u32))) ?_;rintro _ ar ⟨cq,dp,dq,rfl,al,bf⟩;refine ⟨_,rfl,?_⟩;replace bf:=bf.thaw (Zx .u32) al ((Fz.refl (col:=(Zq aq av))).froz 6) (by decide);replace al:=al.thawR (col:=(Zq aq av));generalize Z6 co.heap.size (Zq aq av) cq=ax at *;refine Zl ?_;refine ⟨fun w'=>Zf (Zq ar ax) ar (Zq ar ax) w',fun g=>(Zq ar ax) g=497,Zf.refl _ _,T8,fun _=>⟨fun _ h=>Qn hC0 al h,fun b hb=>al.below.block b hb,fun g x1 x2=>Zas al g x1 (by first | exact x2 | (simp only [Yd,x2];rfl) | (simp only [Yd,Z8,x2];rfl))⟩,?_⟩;have a7:=Zt.clip (fun _=>false) ax ar;refine Qm rfl rfl ?_;intro cr hC0;replace ap:=((ap.gr hC).gr al).kpp a7;replace ae:=((ae.gr hC).gr al).kpp a7;replace af:=((af.gr hC).gr al).kpp a7;replace ab:=((ab.gr hC).gr al).kpp a7;have hC:=hC0.bl (Zq ar ax);obtain ⟨dr,cs,hm⟩:=bZ hm;replace bf:=(bf.kpp a7).gr hC;replace ap:=ap.gr hC;refine Zg (Zwq 8 cs ((ap.toSlF (Zj.int .u32)).froz 7) ((bf.froz 5 (by decide)).toSlF (Zj.int .u32))) ?_;rintro _ ac ⟨ct,ds,dt,rfl,an,ag⟩;refine ⟨_,rfl,?_⟩;replace ag:=ag.thaw (Zx .u32) an (((Fz.refl (col:=(Zq ar ax))).froz 5).froz 7) (by decide);replace an:=an.thawR (col:=(Zq ar ax));generalize Z6 cr.heap.size (Zq ar ax) ct=ad at *;refine Zl ?_;refine ⟨fun w'=>Zf (Zq ac ad) ac (Zq ac ad) w',fun g=>(Zq ac ad) g=497,Zf.refl _ _,T8,fun _=>⟨fun _ h=>Qn hC0 an h,fun b hb=>an.below.block b hb,fun g x1 x2=>Zas an g x1 (by first | exact x2 | (simp only [Yd,x2];rfl) | (simp only [Yd,Z8,x2];rfl))⟩,?_⟩;have bg:=Zt.clip (fun _=>false) ad ac;refine xaF rfl rfl (Zir zeroValue45) ?_;intro ah cu;refine Qm rfl rfl ?_;intro cv ⟨hC0,hZ0⟩;replace aa:=((((aa.grow al).kpp a7).grow hC).grow an).kpp bg;replace ae:=((ae.gr hC).gr an).kpp bg;replace af:=((af.gr hC).gr an).kpp bg;replace ab:=((ab.gr hC).gr an).kpp bg;have hC:=hC0.bl (Zq ac ad);obtain ⟨bh,b6⟩:=Zns (col:=(Zq ac ad)) 9 hZ0 cu;replace b6:Zh 45 9 (Ww ah 9 (Zq ac ad)) cv ah #[.bool false,.slice none (([]:List Int).length) 0]:=b6;refine Z4 b6 ?_
 intro ai bi cw bv;refine Zl ?_;refine ⟨fun w'=>Zf (Zq ai (Ww ah 9 (Zq ac ad))) ai (Zq ai (Ww ah 9 (Zq ac ad))) w',fun g=>(Zq ai (Ww ah 9 (Zq ac ad))) g=497,Zf.refl _ _,T8,fun h=>absurd h (by decide),?_⟩;have a8:=Zt.clip (fun _=>false) (Ww ah 9 (Zq ac ad)) ai;refine Zur ?_;replace ag:=((((ag.kpp bg).gr hC).kpp bh).kp bi).kpp a8;replace ae:=(((ae.gr hC).kpp bh).kp bi).kpp a8;replace af:=(((af.gr hC).kpp bh).kp bi).kpp a8;replace ab:=(((ab.gr hC).kpp bh).kp bi).kpp a8;replace aa:=(((aa.grow hC).kpp bh).kp bi cw).kpp a8;intro cb hC;replace hC:Zf (Zq ai (Ww ah 9 (Zq ac ad))) ai (Zq ai (Ww ah 9 (Zq ac ad))) cb:=.of_below hC.below;refine Zu<|Wi (col:=(Zq ai (Ww ah 9 (Zq ac ad)))) [(0,1),(1,0),(2,1),(3,0),(4,0),(6,0),(5,3),(7,3),(8,3),(9,3),(10,2)] (by kernel_rfl) (by kernel_rfl)<|xF ⟨_,_,rfl⟩ ?_;replace bv:=(bv.kpp a8).gr hC;refine xW (fun _ hC=>((bv.atN).nth (q:=0) rfl).gr (hC.bl (Zq ai (Ww ah 9 (Zq ac ad))))) ?_;refine xF ⟨_,_,rfl⟩ ?_;refine xW (fun _ hC=>((bv.atN).nth (q:=1) rfl).gr (hC.bl (Zq ai (Ww ah 9 (Zq ac ad))))) ?_;replace ae:=ae.gr hC;refine xv rfl rfl (fun _ hC=>Xi isAgg47 sizeOf47 (ae.gr (hC.bl (Zq ai (Ww ah 9 (Zq ac ad)))))) ?_;replace af:=af.gr hC;refine xv rfl rfl (fun _ hC=>Xi isAgg47 sizeOf47 (af.gr (hC.bl (Zq ai (Ww ah 9 (Zq ac ad)))))) ?_;refine xe rfl rfl ?_;intro cx hC0;replace ag:=ag.gr hC;replace ab:=ab.gr hC;replace aa:=aa.grow hC;have hC:Zf (Zq ai (Ww ah 9 (Zq ac ad))) cb (Zq ai (Ww ah 9 (Zq ac ad))) cx:=.of_below hC0.below;obtain ⟨du,cy,hm⟩:=bZ hm;replace aa:=aa.grow hC;refine Zg (T4 10 cy (ba.ks aa) (bs.ks aa)) ?_;rintro _ dv ⟨cc,dw,dx,rfl,bw,bj⟩;refine ⟨_,rfl,?_⟩;refine Zl<|X3 cc hC0 bw<|xe rfl rfl ?_;intro dy hC0;replace ag:=(ag.gr hC).gr bw;replace ab:=(ab.gr hC).gr bw;have hC:=hC0.bl cc;obtain ⟨dz,cz,hm⟩:=bZ hm;replace aa:=(aa.grow bw).grow hC;refine Zg (T4 11 cz (bb.ks aa) (bt.ks aa)) ?_;rintro _ d0 ⟨bk,d1,d2,rfl,bm,b7⟩;refine ⟨_,rfl,?_⟩;refine Zl<|X3 bk hC0 bm<|xe rfl rfl ?_;intro c0 hC0;replace ag:=(ag.gr hC).gr bm;replace bj:=(bj.gr hC).gr bm;replace ab:=(ab.gr hC).gr bm;have hC:=hC0.bl bk
 obtain ⟨d3,c3,hm⟩:=bZ hm;replace bj:=bj.gr hC;replace b7:=b7.gr hC;refine Zg (Zdg 12 c3 ((bj.toSlF (Zj.int .u32)).froz 11) ((b7.froz 10 (by decide)).toSlF (Zj.int .u32))) ?_;rintro _ d4 ⟨c4,d5,d6,rfl,a0,bn⟩;refine ⟨_,rfl,?_⟩;replace bn:=bn.thaw (Zx .u32) a0 (((Fz.refl (col:=bk)).froz 10).froz 11) (by decide);replace a0:=a0.thawR (col:=bk);generalize Z6 c0.heap.size bk c4=a9 at *;refine Zl<|X3 a9 hC0 a0<|xe rfl rfl ?_;intro c5 hC0;replace aa:=((aa.grow bm).grow hC).grow a0;replace ag:=(ag.gr hC).gr a0;replace ab:=(ab.gr hC).gr a0;have hC:=hC0.bl a9;obtain ⟨d7,c6,hm⟩:=bZ hm;replace ag:=ag.gr hC;replace bn:=bn.gr hC;refine Zg (Zfq 13 14 c6 ((ag.toSlF (Zj.int .u32)).froz 12) ((bn.froz 8 (by decide)).toSlF (Zj.int .u32))) ?_;rintro _ d8 ⟨c7,d9,ea,eb,ec,rfl,a1,a2,a3⟩;refine ⟨_,rfl,?_⟩;replace a2:=a2.thaw (Zx .u32) a1 (((Fz.refl (col:=a9)).froz 8).froz 12) (by decide);replace a3:=a3.thaw (Zx .u32) a1 (((Fz.refl (col:=a9)).froz 8).froz 12) (by decide);replace a1:=a1.thawR (col:=a9);generalize Z6 c5.heap.size a9 c7=bx at *;refine Zl<|X3 bx hC0 a1<|xe rfl rfl ?_;intro ed hC0;replace ab:=(ab.gr hC).gr a1;replace aa:=(aa.grow hC).grow a1;have hC:=hC0.bl bx;replace ab:=ab.gr hC;refine Z4 ab ?_;intro ee b8 c8 b9;refine Zl<|xk bx<|Y5 ?_;replace a2:=(a2.gr hC).kp b8;replace a3:=(a3.gr hC).kp b8;replace aa:=(aa.grow hC).kp b8 c8;intro ef hC;replace hC:=hC.bl bx;refine W0 ?_;cases hm;replace a2:=a2.gr hC;replace a3:=a3.gr hC;replace b9:=b9.gr hC;replace aa:=aa.grow hC;exact ⟨rfl,_,ra b9.atN,_,_,_,_,_,rfl,aa.fin (cm [(13,c1),(14,c2)]),aa.fo a2,aa.fo a3⟩
def Zdy (N:Nat) (aa:R1) (ab:R1):Option R1:=
  (Sc N aa.1.2 ab.1.2).bind fun ad=>(Ub N ((aa.1.1,aa.1.2),aa.2)).bind fun ae=>(Ub N ((ab.1.1,ab.1.2),ab.2)).bind fun af=>(Sc N ae af).bind fun ag=>(Qw N (!decide (aa.1.1=ab.1.1)) ad ag).bind fun ac=>some ((ac.1.1,ac.1.2),ac.2)
theorem Zva {N a4 a5 a6 a7:Nat} {a8 a9 ba bb:Option Addr} {col:Zd} {w0:World} {ai aj r:R1} (c1 c2:Nat) (hm:Zdy N ai aj=some r) (ar:Sl (Za.int .u32) col w0 a8 a4 ai.1.2) (ax:Sl (Za.int .u32) col w0 a9 a5 ai.2) (au:Sl (Za.int .u32) col w0 ba a6 aj.1.2) (ay:Sl (Za.int .u32) col w0 bb a7 aj.2):
    Calls Tryz.prog 75 #[(.agg #[.bool ai.1.1,.slice a8 ai.1.2.length a4,.slice a9 ai.2.length a5]),(.agg #[.bool aj.1.1,.slice ba aj.1.2.length a6,.slice bb aj.2.length a7])] w0 (fun e w'=>∃ (col':Zd) (ra1:Option Addr) (rc2:Nat) (ra4:Option Addr) (rc5:Nat),e= .returned ((.agg #[.bool r.1.1,.slice ra1 r.1.2.length rc2,.slice ra4 r.2.length rc5]))∧Zf col w0 col' w'∧Zc (Za.int .u32) 79 c1 col' w' ra1 rc2 r.1.2∧Zc (Za.int .u32) 79 c2 col' w' ra4 rc5 r.2):=by
 refine Wa (m:=25) func75 rfl rfl rfl ?_;rw [Zdy.eq_1] at hm;have aa:=St.start col w0;refine go ?_;refine X6 (col:=(Zi col)) 1 rfl ?_;intro bt bu bf bg al;refine X6 (col:=bf) 2 rfl ?_;intro bv bw bh bc am;refine Xo (col:=bh) #[.bool false,.slice none (([]:List Int).length) 0,.slice none (([]:List Int).length) 0] 3 zeroValue47 ?_;intro bx bz ad az ab;refine go ?_;refine Wi (col:=ad) [(0,1),(1,1),(2,0),(3,1),(4,1),(5,0),(6,1),(7,1),(8,1),(9,0),(10,1),(11,1),(12,0),(14,0),(16,0),(13,3),(15,3),(17,3),(18,3),(19,3),(20,2)] (by kernel_rfl) (by kernel_rfl)<|xF ⟨_,_,rfl⟩ ?_;refine xF (Ut ⟨_,_,rfl⟩) ?_;replace al:=(al.gr bc).gr az;refine xW (fun _ hC=>((((al.atN).part 0 2 _ rfl)).nth (q:=0) rfl).gr (hC.bl ad)) ?_;refine xF ⟨_,_,rfl⟩ ?_;refine xF (Ut ⟨_,_,rfl⟩) ?_;replace am:=am.gr az;refine xW (fun _ hC=>((((am.atN).part 0 2 _ rfl)).nth (q:=0) rfl).gr (hC.bl ad)) ?_;refine xu rfl rfl (fun _=>Zhn _ _ underlying4 rfl rfl) ?_;refine xF ⟨_,_,rfl⟩ ?_;refine xF (Ut ⟨_,_,rfl⟩) ?_;refine xW (fun _ hC=>((((al.atN).part 0 2 _ rfl)).nth (q:=1) rfl).gr (hC.bl ad)) ?_;refine xF ⟨_,_,rfl⟩ ?_;refine xF (Ut ⟨_,_,rfl⟩) ?_;refine xW (fun _ hC=>((((am.atN).part 0 2 _ rfl)).nth (q:=1) rfl).gr (hC.bl ad)) ?_;refine xv rfl rfl (fun _ hC=>Xi isAgg47 sizeOf47 (al.gr (hC.bl ad))) ?_;refine xv rfl rfl (fun _ hC=>Xi isAgg47 sizeOf47 (am.gr (hC.bl ad))) ?_;refine xe rfl rfl ?_;intro b0 hC0;have hC:=hC0.bl ad;obtain ⟨b1,bi,hm⟩:=bZ hm;replace ar:=ar.keep (Zk.start col w0);replace au:=au.keep (Zk.start col w0);replace aa:=(((aa.grow bg).grow bc).grow az).grow hC;refine Zg (Zdg 4 bi (ar.ks aa) (au.ks aa)) ?_;rintro _ b2 ⟨bd,b3,b4,rfl,a0,ac⟩;refine ⟨_,rfl,?_⟩;refine Zl<|X3 bd hC0 a0<|xe rfl rfl ?_;intro b5 hC0;replace ab:=(ab.gr hC).gr a0;have hC:=hC0.bl bd;obtain ⟨b6,bj,hm⟩:=bZ hm;replace ax:=ax.keep (Zk.start col w0);replace aa:=(aa.grow a0).grow hC;refine Zg (T4 5 bj (ar.ks aa) (ax.ks aa)) ?_;rintro _ b7 ⟨be,b8,b9,rfl,av,an⟩;refine ⟨_,rfl,?_⟩;refine Zl<|X3 be hC0 av<|xe rfl rfl ?_;intro ca hC0;replace ac:=(ac.gr hC).gr av;replace ab:=(ab.gr hC).gr av;have hC:=hC0.bl be;obtain ⟨cb,bk,hm⟩:=bZ hm;replace ay:=ay.keep (Zk.start col w0);replace aa:=(aa.grow av).grow hC
 refine Zg (T4 6 bk (au.ks aa) (ay.ks aa)) ?_;rintro _ cc ⟨ao,cd,ce,rfl,ap,a1⟩;refine ⟨_,rfl,?_⟩;refine Zl<|X3 ao hC0 ap<|xe rfl rfl ?_;intro bm hC0;replace ac:=(ac.gr hC).gr ap;replace an:=(an.gr hC).gr ap;replace ab:=(ab.gr hC).gr ap;have hC:=hC0.bl ao;obtain ⟨cf,bn,hm⟩:=bZ hm;replace an:=an.gr hC;replace a1:=a1.gr hC;refine Zg (Zdg 7 bn ((an.toSlF (Zj.int .u32)).froz 6) ((a1.froz 5 (by decide)).toSlF (Zj.int .u32))) ?_;rintro _ cg ⟨bo,ch,ci,rfl,ae,aq⟩;refine ⟨_,rfl,?_⟩;replace aq:=aq.thaw (Zx .u32) ae (((Fz.refl (col:=ao)).froz 5).froz 6) (by decide);replace ae:=ae.thawR (col:=ao);generalize Z6 bm.heap.size ao bo=ak at *;refine Zl<|X3 ak hC0 ae<|xe rfl rfl ?_;intro bp hC0;replace aa:=((aa.grow ap).grow hC).grow ae;replace ac:=(ac.gr hC).gr ae;replace ab:=(ab.gr hC).gr ae;have hC:=hC0.bl ak;obtain ⟨cj,bq,hm⟩:=bZ hm;replace ac:=ac.gr hC;replace aq:=aq.gr hC;refine Zg (Zfq 8 9 bq ((ac.toSlF (Zj.int .u32)).froz 7) ((aq.froz 4 (by decide)).toSlF (Zj.int .u32))) ?_;rintro _ ck ⟨br,cl,cn,co,cp,rfl,af,ag,ah⟩;refine ⟨_,rfl,?_⟩;replace ag:=ag.thaw (Zx .u32) af (((Fz.refl (col:=ak)).froz 4).froz 7) (by decide);replace ah:=ah.thaw (Zx .u32) af (((Fz.refl (col:=ak)).froz 4).froz 7) (by decide);replace af:=af.thawR (col:=ak);generalize Z6 bp.heap.size ak br=aw at *;refine Zl<|X3 aw hC0 af<|xe rfl rfl ?_;intro cq hC0;replace ab:=(ab.gr hC).gr af;replace aa:=(aa.grow hC).grow af;have hC:=hC0.bl aw;replace ab:=ab.gr hC;refine Z4 ab ?_;intro cr a2 bs a3;refine Zl<|xk aw<|Y5 ?_;replace ag:=(ag.gr hC).kp a2;replace ah:=(ah.gr hC).kp a2;replace aa:=(aa.grow hC).kp a2 bs;intro cs hC;replace hC:=hC.bl aw;refine W0 ?_;cases hm;replace ag:=ag.gr hC;replace ah:=ah.gr hC;replace a3:=a3.gr hC;replace aa:=aa.grow hC;exact ⟨rfl,_,ra a3.atN,_,_,_,_,_,rfl,aa.fin (cm [(8,c1),(9,c2)]),aa.fo ag,aa.fo ah⟩
def Zah (N:Nat) (aa:R3):Option Int:=
  (Zgg N aa.2).bind fun ab=>if (decide (ab=0))=true then (some 0) else (if aa.1=true then (some (-1)) else (some 1))
theorem Zfr {N af:Nat} {ag:Option Addr} {col:Zd} {w0:World} {ab:R3} {r:Int} (hm:Zah N ab=some r) (ae:Sl (Za.int .u32) col w0 ag af ab.2):
    Calls Tryz.prog 187 #[(.agg #[.bool ab.1,.slice ag ab.2.length af])] w0 (fun e w'=>e= .returned ((.int .i64 r))∧Below w0.heap.size w0 w'):=by
 refine Xc 2 (m:=11) func187 rfl rfl rfl rfl rfl ?_;rw [Zah.eq_1] at hm;have aa:=St.start col w0;refine go ?_;refine X6 (col:=(Zi col)) 1 rfl ?_;intro am ai ah aj ac;refine go ?_;refine Xu ac ?_;obtain ⟨an,ak,hm⟩:=bZ hm;replace ae:=ae.keep (Zk.start col w0);replace aa:=aa.grow aj;refine Zg (Zvt ak (ae.ks aa)) ?_;rintro _ al ⟨rfl,ad⟩;refine ⟨_,rfl,?_⟩;replace ad:Zf ah ai ah al:=.of_below ad;refine go ?_;replace ac:=ac.gr ad;replace aa:=aa.grow ad;refine Zo hm (fun hb hm=>go ?_) fun hb hm=>go ?_
 ·cases hm;exact ⟨rfl,rfl,aa.below⟩
 refine Xu ac ?_;refine go ?_;refine Zo hm (fun hb hm=>go ?_) fun hb hm=>go ?_
 ·cases hm;exact ⟨rfl,rfl,aa.below⟩
 cases hm;exact ⟨rfl,rfl,aa.below⟩
def Zhc (N:Nat) (aa:R3) (ab:R3):Option Int:=
  (Zah N (aa.1,aa.2)).bind fun ac=>(Zah N (ab.1,ab.2)).bind fun ad=>if (decide (ac<ad))=true then (some (-1)) else (if (decide (ad<ac))=true then (some 1) else ((Za8 N aa.2 ab.2).bind fun ae=>some (i64.wrap (ac * ae))))
theorem Zwr {N aj ak:Nat} {al am:Option Addr} {col:Zd} {w0:World} {ad ae:R3} {r:Int} (hm:Zhc N ad ae=some r) (af:Sl (Za.int .u32) col w0 al aj ad.2) (ag:Sl (Za.int .u32) col w0 am ak ae.2):
    Calls Tryz.prog 184 #[(.agg #[.bool ad.1,.slice al ad.2.length aj]),(.agg #[.bool ae.1,.slice am ae.2.length ak])] w0 (fun e w'=>e= .returned ((.int .i64 r))∧Below w0.heap.size w0 w'):=by
 refine Xc 4 (m:=26) func184 rfl rfl rfl rfl rfl ?_;rw [Zhc.eq_1] at hm;have aa:=St.start col w0;refine go ?_;refine X6 (col:=(Zi col)) 1 rfl ?_;intro az a0 ao ap ac;refine X6 (col:=ao) 2 rfl ?_;intro a1 a2 ab an ah;refine go ?_;refine Uk (col:=ab) (by kernel_rfl) (by kernel_rfl) ?_;replace ac:=ac.gr an;refine qv rfl (fun _ hC=>Xi isAgg45 sizeOf45 (ac.gr (hC.bl ab))) ?_;obtain ⟨aq,ar,hm⟩:=bZ hm;replace af:=af.keep (Zk.start col w0);replace aa:=(aa.grow ap).grow an;refine qc (v:=(.int .i64 aq)) rfl (fun _ hC=>⟨_,_,Zmu call187 rfl,(Zfr ar ((af.ks aa).gr (hC.bl ab)):).mono fun _ _ h=>⟨h.1,hC.trans (.of_below h.2)⟩⟩) ?_;refine qv rfl (fun _ hC=>Xi isAgg45 sizeOf45 (ah.gr (hC.bl ab))) ?_;obtain ⟨au,av,hm⟩:=bZ hm;replace ag:=ag.keep (Zk.start col w0);refine qc (v:=(.int .i64 au)) rfl (fun _ hC=>⟨_,_,Zmu call187 rfl,(Zfr av ((ag.ks aa).gr (hC.bl ab)):).mono fun _ _ h=>⟨h.1,hC.trans (.of_below h.2)⟩⟩) ?_;refine go ?_;refine Wt ?_;intro aw hC;replace hC:=hC.bl ab;refine go ?_;replace ac:=ac.gr hC;replace ah:=ah.gr hC;replace aa:=aa.grow hC;refine Zo hm (fun hb hm=>go ?_) fun hb hm=>go ?_
 ·cases hm;exact ⟨rfl,rfl,aa.below⟩
 refine Zo hm (fun hb hm=>go ?_) fun hb hm=>go ?_
 ·cases hm;exact ⟨rfl,rfl,aa.below⟩
 refine Xu ac<|Xu ah ?_;obtain ⟨a3,ax,hm⟩:=bZ hm;refine Zg (Zig ax (af.ks aa) (ag.ks aa)) ?_;rintro _ ay ⟨rfl,ai⟩;refine ⟨_,rfl,?_⟩;replace ai:Zf ab aw ab ay:=.of_below ai;refine go ?_;cases hm;replace aa:=aa.grow ai;exact ⟨rfl,rfl,aa.below⟩

end Go.Proofs.YtbmjpjhbankpoaaGreat
