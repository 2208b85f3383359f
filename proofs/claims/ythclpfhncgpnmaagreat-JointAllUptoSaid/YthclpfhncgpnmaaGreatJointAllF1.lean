/-
  What functions of the program compute, as plain Lean functions (m_..), and proofs that they compute it (c_..). Printed by a program of the author; no conditions.
-/
import Derived.Test.YthclpfhncgpnmaaGreatJointAllBFloat
import Derived.Test.YthclpfhncgpnmaaGreatProg
import Derived.Test.YthclpfhncgpnmaaGreatJointAllBBrief
import Derived.Test.YthclpfhncgpnmaaGreatJointAllBPiece
set_option linter.unusedVariables false
set_option maxRecDepth 100000
set_option maxHeartbeats 2000000
namespace Go.Proofs.YthclpfhncgpnmaaGreat
open Go Go.RowKit
open List renaming getElem?_eq_getElem→aG,mem_cons_self→aT,mem_cons_of_mem→aP,nil_append→bO,cons_append→cR,map_cons→cG,drop_eq_nil_iff→aK,replicate→aI,mem_cons→aM,not_mem_nil→aO,map_nil→dR,getD_eq_getElem?_getD→aE,drop_zero→aX,drop_eq_getElem_cons→aL,getElem_mem→aD,set_append_right→fC,length_replicate→aQ,length_map→aH,eq_nil_of_length_eq_zero→bY,drop_length→dY,append_nil→cU,take_append_drop→fD,drop_eq_nil_of_le→aF,getElem_cons_zero→gR,set_cons_zero→fO,length_take_of_le→bG,length_pos_iff→bV,getElem?_eq_none→cO,drop_drop→eJ,drop_replicate→fM,getElem_set_self→cC,length_drop→cA,getElem_append_right→gF
open Int renaming tdiv→aU,toNat→aA,tmod→bC,natCast_nonneg→dU,ofNat_lt→eC,toNat_natCast→aB,natCast_mul→bT,fdiv_eq_ediv_of_nonneg→gE,toNat_of_nonneg→bE,mul_le_mul→jB,mul_nonneg→jC,toNat_zero→eI,natCast_emod→iP,tdiv_eq_ediv_of_nonneg→bR,tmod_eq_emod_of_nonneg→bW,natCast_ediv→gA,natAbs_zero→iY,natAbs_mul→gG,natAbs_natCast→iK
open Nat renaming lt_of_lt_of_le→aJ,beq→aC,mul_pos→fS,div_lt_iff_lt_mul→cY,mod_lt→dN,mul_comm→bL,div_add_mod→fV,mul_le_mul_right→bF,add_mul→bI,one_mul→bP,mul_add_div→iV,div_eq_of_lt→dQ,add_zero→bQ,mul_add_mod→iW,mod_eq_of_lt→dC,mul_assoc→bN,le_div_iff_mul_le→dW,div_le_self→cB,div_div_eq_div_mul→dX,le_refl→bB,sub_self→fT,pow_succ→aY,strongRecOn→fW,pow_pos→eO,pow_zero→dA,min_eq_left→aR,mul_le_mul_left→aS,add_comm→jM,mul_zero→dB,add_assoc→dP,zero_add→cK,two_pow_pos→bU,log2_eq_iff→iX,pow_le_pow_right→fJ,lt_of_le_of_lt→dS,pow_add→cN,mul_add→dO,two_pow_add_eq_or_of_lt→fY,add_mul_mod_self_left→gK,add_mul_div_left→fN,mul_lt_mul_of_pos_right→fZ,mul_mod_mul_left→hL,lt_of_mul_lt_mul_left→eL,mul_le_mul→gS,le_of_lt→jN,eq_zero_or_pos→eP,lt_trans→jO,gcd→cJ,gcd_comm→eK,mul_lt_mul''→iQ,le_max_left→dI,le_max_right→cV,le_trans→bA,add_le_add→jD
open Option renaming getD_some→cT
open Rat renaming num_mkRat→jF,den_mkRat→jG,natCast_pos→iZ,mkRat_eq_div→dJ,mul_assoc→jH,intCast_mul→gL
open Go.IntKind (i8 i16 i32 i64 u8 u16 u32 u64)
open Go.Proofs.Tryz
abbrev R4:=List ByteArray
abbrev Ri:=List R4
abbrev R2:=List Int
abbrev Ra:=List R2
abbrev R5:=Bool×List Int
abbrev R1:=R5×List Int
abbrev R8:=List R1
abbrev Rh:=List R8
abbrev R0:=ByteArray×List ByteArray×Ri×Ra×Rh
abbrev R7:=Nat×List ByteArray
abbrev R6:=Nat×List Int
abbrev Rb:=Nat×(List ((Bool×R6)×R6))
abbrev R3:=ByteArray×R7×(List R7)×(List R6)×(List Rb)
abbrev R9:=Int×List Int
abbrev Rc:=Int×Int
abbrev Rd:=List Int×List Int×Int
abbrev Re:=List (List Int×R1)
abbrev Rf:=List Int×Int
abbrev Rg:=List Int×Bool
abbrev Rj:=List Rc
theorem oB {α β:Type} {a:α} {f:α→Option β}:(some a).bind f=f a:=rfl
theorem dT {p:Prop} [i:Decidable p] (h:p):decide p=true:=decide_eq_true h
theorem dF {p:Prop} [i:Decidable p] (h:¬p):¬(decide p=true):=fun q=>h (of_decide_eq_true q)
theorem nA {α:Type _} {a b:List α}:(a++b).length=a.length+b.length:=List.length_append
theorem nC {α:Type _} {a:α} {b:List α}:(a :: b).length=b.length+1:=rfl
theorem nS {α:Type _} {a:List α} {i:Nat} {b:α}:(a.set i b).length=a.length:=List.length_set
theorem nK {α:Type _} {i:Nat} {a:List α}:(a.take i).length=min i a.length:=List.length_take
theorem nN {α:Type _}:([]:List α).length=0:=rfl
theorem Sl.k0 {α:Type} {r:Za α} {col:Zd} {w:World} {a:Option Addr} {c:Nat} {xs:List α} (h:Sl r col w a c xs):Sl r (Zg col) w a c xs:=h.keep (X8.start col w)
abbrev rU:Za Int:=Za.int .u32
abbrev rI:Za Int:=Za.int .i64
abbrev nI:Value:=.slice none (([]:List Int).length) 0
abbrev rQ:Za R1:=Za.pair (Za.pair Za.bool (Za.slice rU)) (Za.slice rU)
abbrev rO (t:Nat):Za R1:=Za.pair (Za.pair Za.bool (Za.row t rU)) (Za.row t rU)
abbrev rV:Za R4:=Za.slice Za.str
abbrev rP:Za R2:=Za.slice rI
abbrev W1 (w0:World) (r:Bool):Ending→World→Prop:=fun e w'=>e= .returned (.bool r)∧Below w0.heap.size w0 w'
abbrev Wq (w0:World) (r:Int):Ending→World→Prop:=fun e w'=>e= .returned (.int .i64 r)∧Below w0.heap.size w0 w'
abbrev W2 (k:IntKind) (t c1:Nat) (col:Zd) (w0:World) (r:List Int):Ending→World→Prop:=fun e w'=>∃ col' ra1 rc2,e= .returned ((.slice ra1 r.length rc2))∧Zk col w0 col' w'∧Zb (Za.int k) t c1 col' w' ra1 rc2 r
abbrev Tk (t c1:Nat) (col:Zd) (w0:World) (r:Bool×List Int):Ending→World→Prop:=fun e w'=>∃ col' ra1 rc2,e= .returned ((.agg #[.bool r.1,.slice ra1 r.2.length rc2]))∧Zk col w0 col' w'∧Zb (Za.int .u32) t c1 col' w' ra1 rc2 r.2
abbrev Sm (t c1 c2:Nat) (col:Zd) (w0:World) (r:R5×List Int):Ending→World→Prop:=fun e w'=>∃ col' ra1 rc2 ra4 rc5,e= .returned ((.agg #[.bool r.1.1,.slice ra1 r.1.2.length rc2,.slice ra4 r.2.length rc5]))∧Zk col w0 col' w'∧Zb (Za.int .u32) t c1 col' w' ra1 rc2 r.1.2∧Zb (Za.int .u32) t c2 col' w' ra4 rc5 r.2
abbrev Zkj (t c1 c2:Nat) (col:Zd) (w0:World) (r:R1×Int):Ending→World→Prop:=fun e w'=>∃ col' ra1 rc2 ra4 rc5,e= .returned (.tuple #[(.agg #[.bool r.1.1.1,.slice ra1 r.1.1.2.length rc2,.slice ra4 r.1.2.length rc5]),.int .i64 r.2])∧Zk col w0 col' w'∧Zb (Za.int .u32) t c1 col' w' ra1 rc2 r.1.1.2∧Zb (Za.int .u32) t c2 col' w' ra4 rc5 r.1.2

theorem Zp {x:Int} (h:-9223372036854775808≤x∧x≤9223372036854775807):i64.wrap x=x:=by rw [IntKind.wrap_i64];omega
theorem Zz {α:Type} {c:Prop} [Decidable c] {x:Option α} (h:c):Zv c x=x:=if_pos h
theorem Zs {α:Type} {xs:List α} {k:Nat} (h:k<xs.length):Zi xs (k:Int)=some xs[k]:=by rw [Uo];exact aG h
theorem wS {k:Nat} (h:k<9223372036854775807):i64.wrap ((k:Int)+1)=((k+1:Nat):Int):=by rw [Zp (by omega)];rfl
theorem Zke {α:Type} [DecidableEq α]:∀ {l r:List α},l.Nodup→(∀ x ∈ l,x ∈ r)→l.length≤r.length
 | [],_,_,_=>Nat.zero_le _
 | x :: l,r,h,a=>by
  have b:=List.nodup_cons.1 h
  have c:=a x aT
  have f:=Zke (r:=r.erase x) b.2 fun y d=>(List.mem_erase_of_ne (fun e=>b.1 (by rw [← e];exact d))).2 (a y (aP _ d))
  rw [List.length_erase_of_mem c] at f
  have:=List.length_pos_of_mem c
  rw [nC];omega
section
variable {K V:Type} [DecidableEq K]
theorem Zfo (p:K×V) (es:List (K×V)) (k:K):Wf (p :: es) k=if p.1=k then some p.2 else Wf es k:=by
 rw [Wf,List.find?_cons]
 by_cases h:p.1=k
 ·rw [if_pos h,decide_eq_true h];rfl
 ·rw [if_neg h,decide_eq_false h];rfl
theorem Z3o (es:List (K×V)) (k k':K) (v:V) (h:Wf es k=none):Wf (es++[(k,v)]) k'=if k'=k then some v else Wf es k':=by
 induction es with
 | nil=>
  rw [bO,Zfo]
  by_cases hk:k=k'
  ·subst hk;simp
  ·rw [if_neg hk,if_neg (Ne.symm hk)]
 | cons p es a=>
  rw [Zfo] at h
  split at h
  ·cases h
  ·rename_i b
   rw [cR,Zfo,Zfo,a h]
   by_cases h1:p.1=k'
   ·rw [if_pos h1,if_pos h1,if_neg (fun e=>b (h1.trans e))]
   ·rw [if_neg h1,if_neg h1]
theorem Z3p (es:List (K×V)) (k k':K) (v:V):Wf (es.map fun p=>if p.1=k then (k,v) else p) k'=if k'=k then (Wf es k).map fun _=>v else Wf es k':=by
 induction es with
 | nil=>simp [Wf]
 | cons p es a=>
  rw [cG,Zfo,Zfo,Zfo,a]
  by_cases h1:p.1=k
  ·rw [if_pos h1,if_pos h1]
   by_cases h2:k'=k
   ·subst h2;rw [if_pos rfl,if_pos rfl];rfl
   ·rw [if_neg (Ne.symm h2),if_neg h2,if_neg h2,if_neg (fun e=>h2 (e.symm.trans h1))]
  ·rw [if_neg h1,if_neg h1]
   by_cases h3:p.1=k'
   ·rw [if_pos h3,if_pos h3,if_neg (fun e=>h1 (h3.trans e))]
   ·rw [if_neg h3,if_neg h3]
theorem Zt5 (es:List (K×V)) (k k':K) (v:V):Wf (Sh es k v) k'=if k'=k then some v else Wf es k':=by
 rw [Sh]
 by_cases h:(Wf es k).isSome=true
 ·rw [if_pos h,Z3p]
  obtain ⟨u,a⟩:=Option.isSome_iff_exists.1 h
  rw [a];rfl
 ·rw [if_neg h]
  exact Z3o es k k' v (by simpa using h)
end
theorem Z2a:Y6 prog 3 1 8:=⟨Tryz.t3,_,rfl,rfl,rfl,rfl,rfl⟩
def Zc2 (aa:List Int):Option R2:=
  Zv ((([]:List Int).length+aa.length) * 8≤140737488355328∧([]:List Int).length+aa.length≤maxLen) (some (([]:List Int)++aa))
theorem Zn5 {ad:Nat} {a0:Option Addr} {col:Zd} {w0:World} {ac r:R2} (c1:Nat) (hm:Zc2 ac=some r) (h0:Sl rI col w0 a0 ad ac):
    Calls prog 42 #[.slice a0 ac.length ad] w0 (W2 .i64 3 c1 col w0 r):=by
 refine Z7 2 (m:=8) func42 rfl rfl rfl rfl rfl ?_;rw [Zc2.eq_1] at hm;have aa:=St.start col w0;refine go ?_;replace h0:=h0.k0;rcases Zo3 h0 with ab | ab
 ·replace hm:some ([]:List Int)=some r:=by have h0:=ab.2;subst h0;simpa [Zv,maxLen] using hm
  refine lv (v:=.bool a0.isNone) rfl rfl (Zif underlying36 rfl)<|.ld (d:=4) (v:=.bool true) (congrArg Value.bool ab.1)<|Zj<|Yd rfl<|go ?_;cases hm;exact ⟨rfl,_,none,0,rfl,aa.fin (cm []),Zb.nil⟩
 refine lv (v:=.bool a0.isNone) rfl rfl (Zif underlying36 rfl)<|.ld (d:=4) (v:=.bool false) (congrArg Value.bool ab)<|Zj<|Yc rfl<|go ?_;refine Zoq (col:=(Zg col)) (r:=rI) 1 rfl underlying36 Z2a rfl ?_;intro aj ak al ae af;refine Y8 rfl ?_;obtain ⟨ag,hm⟩:=Zx hm;refine Y9 af (h0.gr ae).srcC ag ?_;intro am an ao ap ah ai;refine go ?_;cases hm;replace aa:=(aa.grow ae).kpp ah;exact ⟨rfl,_,_,_,rfl,aa.fin (cm [(1,c1)]),aa.fo ai⟩
def Sg:List Int→Int→Option Rc
  | [],aa=>some (aa,0)
  | ab :: ac,aa=>Zv (aa≠0) (if (decide ((i64.wrap (aU 2147483647 aa))<ab))=true then (some (0,4)) else ((Sg ac) (i64.wrap (aa * ab))))
def Zj6 (kk_L1:(Bool→Option Rc)) (aa:Bool):Option Rc:=
  kk_L1 aa
def Q9 (aa:List Int):List Int→Bool→Option Rc
  | [],ab=>if ab=true then (some (0,0)) else (Sg aa 1)
  | ac :: ad,ab=>if (decide (ac<0))=true then (some (0,3)) else (if ab=true then (Zj6 (Q9 aa ad) true) else (Zj6 (Q9 aa ad) (decide (ac=0))))
def Zcy (aa:List Int):Option Rc:=
  Q9 aa aa false
theorem Zq8 {ai:Nat} {a0:Option Addr} {col:Zd} {w0:World} {ab:R2} {r:Rc} (hm:Zcy ab=some r) (h0:Sl rI col w0 a0 ai ab):
    Calls prog 81 #[.slice a0 ab.length ai] w0 (fun e w'=>e= .returned (.tuple #[.int .i64 r.1,.int .i64 r.2])∧Below w0.heap.size w0 w'):=by
 refine Zdk 2 3 (m:=40) (args:=[.slice a0 ab.length ai]) func81 rfl rfl rfl rfl rfl ?_;rw [Zcy.eq_1] at hm;have aa:=St.start col w0;refine go ?_;refine Zt [0,10,11,1000000] (fun n f am=>∃ an ad aj ae,n=ae.length∧ab.drop ad=ae∧Q9 ab ae aj=some r∧St w0 (Zg col) an am∧[12,4].map f=[.int .i64 ad,.bool aj]) ab.length ⟨_,0,_,_,rfl,rfl,hm,aa,rfl⟩ ?_;clear hm;intro n f am hI;obtain ⟨an,ad,aj,ae,hn,hl,hm,aa,hs⟩:=hI;subst hn;refine .lL [12,4] hs ?_;replace h0:=h0.k0
 cases ae with
 | nil=>
  have hk:¬ ((ad:Int)<(ab.length:Int)):=by have:=aK.1 hl;omega
  have hkb:=decide_eq_false hk;rw [Q9.eq_1] at hm;refine go ?_;refine Yc (congrArg Value.bool hkb)<|go ?_;refine Zl hm (fun hb hm=>go ?_) fun hb hm=>go ?_
  ·cases hm;exact ⟨rfl,rfl,aa.below⟩
  refine Zt [25,26,1000000] (fun n f ao=>∃ ap af ag ah,n=ah.length∧ab.drop af=ah∧Sg ah ag=some r∧St w0 (Zg col) ap ao∧[27,7].map f=[.int .i64 af,.int .i64 ag]) ab.length ⟨_,0,1,_,rfl,rfl,hm,aa,rfl⟩ ?_;clear hm;intro n f ao hI;obtain ⟨ap,af,ag,ah,hn,hl,hm,aa,hs⟩:=hI;subst hn;refine .lL [27,7] hs ?_
  cases ah with
  | nil=>
   have hk:¬ ((af:Int)<(ab.length:Int)):=by have:=aK.1 hl;omega
   have hkb:=decide_eq_false hk;rw [Sg.eq_1] at hm;refine go ?_;refine Yc (congrArg Value.bool hkb)<|go ?_;cases hm;exact ⟨rfl,rfl,aa.below⟩
  | cons a3 av=>
   obtain ⟨ac,aw,ax⟩:=Ys hl;have hk:(af:Int)<(ab.length:Int):=by omega
   have hkb:=decide_eq_true hk;rw [Sg.eq_2] at hm;refine go ?_;refine Yd (congrArg Value.bool hkb)<|go ?_;refine lI ac ((h0.ks aa).addr ac)<|lW ((h0.ks aa).atInt ac) ?_;refine go ?_;obtain ⟨ay,hm⟩:=Zx hm;refine lV (.int .i64 (i64.wrap (aU 2147483647 ag))) (Vm 2147483647 ag rfl rfl ay)<|go ?_;refine Zl hm (fun hb hm=>go ?_) fun hb hm=>go ?_
   ·cases hm;exact ⟨rfl,rfl,aa.below⟩
   exact ⟨av.length,by simp,rfl,⟨_,_,_,_,rfl,aw,hm,aa,(Yx (congrArg (Value.int .i64) (Yt (aJ ax (h0.ks aa).1.1))) rfl)⟩⟩
 | cons az aq=>
  obtain ⟨ac,a1,a2⟩:=Ys hl;have hk:(ad:Int)<(ab.length:Int):=by omega
  have hkb:=decide_eq_true hk;rw [Q9.eq_2] at hm;refine go ?_;refine Yd (congrArg Value.bool hkb)<|X7<|Zw ?_;refine Wp.cutK [0,10,11,12,1000000] (fun f ar=>∃ au ak,Zj6 (Q9 ab aq) ak=some r∧St w0 (Zg col) au ar∧[4].map f=[.bool ak]) ?_ ?_
  ·intro f ar hJ;obtain ⟨au,ak,hm,aa,hs⟩:=hJ;rw [Zj6.eq_1] at hm;refine .lL [4] hs<|go ?_;exact ⟨aq.length,by simp,rfl,⟨_,_,_,_,rfl,a1,hm,aa,(Yx (congrArg (Value.int .i64) (Yt (aJ a2 (h0.ks aa).1.1))) rfl)⟩⟩
  refine go ?_;refine lI ac ((h0.ks aa).addr ac)<|lW ((h0.ks aa).atInt ac) ?_;refine go ?_;refine Zl hm (fun hb hm=>go ?_) fun hb hm=>go ?_
  ·cases hm;exact ⟨rfl,rfl,aa.below⟩
  refine Xo hm (fun al hm=>go ?_) fun al hm=>go ?_
  ·refine lV (.bool true) (Z5 (congrArg Value.bool al) rfl)<|go ?_;exact ⟨rfl,_,_,hm,aa,rfl⟩
  refine lV (.bool (decide (az=0))) (Xn (congrArg Value.bool al) rfl)<|go ?_;exact ⟨rfl,_,_,hm,aa,rfl⟩
def Zc0 (N:Nat) (ab:List Int):Nat→Int→Option Rj
  | 0,_=>none
  | ac+1,aa=>if (decide (0≤aa))=true then ((Zi ab aa).bind fun ad=>((Zc0 N ab ac) (i64.wrap (aa - 1))).bind fun ae=>some ((aa,ad) :: ae)) else (some [])
def Zmd (N:Nat) (aa:List Int):Option Rj:=
  Zc0 N aa N (i64.wrap ((aa.length:Int) - 1))
theorem Z02 (N:Nat) (col:Zd) (w0:World) (g0:Nat) (af0:Option Addr) (capf0:Nat) (ab:List Int) (hf0:Sl rI col w0 af0 capf0 ab) (hb0:Ze 36 450 col w0 g0 #[.slice af0 ab.length capf0]) (r:List Rc) (hm:Zmd N ab=some r):
    Zfw prog 1 175 [.pointer (some ⟨g0,0,none⟩)] (fun (y:Int×Int) (col:Zd) (w:World) (args:List Value)=>args=[.int .i64 y.1,.int .i64 y.2]) r col w0:=by
 intro l J X hjs hxs hy aa;refine Zf4 (m:=19) (args:=[.func (.yield l) #[] #[],.pointer (some ⟨g0,0,none⟩)]) func175 rfl rfl rfl rfl ?_;rw [Zmd.eq_1] at hm;refine go ?_;refine lW hb0.at1<|go ?_;refine Zt [0,1,1000000] (fun n f ad=>∃ ae r af ac,ac=n∧Zc0 N ab ac af=some r∧J r ae ad∧Sl rI ae ad af0 capf0 ab∧Ze 36 450 ae ad g0 #[.slice af0 ab.length capf0]∧[3].map f=[.int .i64 af]) N ⟨_,_,_,_,rfl,hm,aa,hf0,hb0,rfl⟩ ?_;clear hm;intro n f ad hI;obtain ⟨ae,r,af,ac,hn,hm,aa,hf0,hb0,hs⟩:=hI;subst hn;refine .lL [3] hs ?_
 cases ac with
 | zero=>rw [Zc0.eq_1] at hm;cases hm
 | succ ac=>
  rw [Zc0.eq_2] at hm;refine go ?_;refine Zl hm (fun hb hm=>go ?_) fun hb hm=>go ?_
  ·refine lM (.func (.yield l) #[] #[])<|Xe rfl<|lW hb0.at1<|Xe rfl ?_;obtain ⟨ai,ag,hm⟩:=bZ hm;refine lI ag (hf0.addr ag)<|lW (hf0.atInt ag) ?_;obtain ⟨ak,hc_8m,aj⟩:=bZ hm;cases aj;have hm:=hc_8m;refine ly2 rfl rfl rfl rfl (hy _ _ _ _ [.int .i64 af,.int .i64 ai] aa rfl) ?_;rintro _ al ⟨am,ah,⟨rfl,hJ⟩ | ⟨rfl,hX⟩⟩
   ·refine ⟨_,rfl,?_⟩;have aa:=hJ;refine go ?_;refine Yc rfl<|go ?_;replace hf0:=hf0.kpp ah;replace hb0:=hb0.kpp ah;exact ⟨ac,by omega,rfl,⟨_,_,_,_,rfl,hm,aa,hf0,hb0,rfl⟩⟩
   refine ⟨_,rfl,?_⟩;have aa:=hX;refine go ?_;refine Yd rfl<|Y1 ?_;exact ⟨rfl,⟨_,rfl⟩,_,.inr aa⟩
  cases hm;exact ⟨rfl,⟨_,rfl⟩,_,.inl aa⟩
def Zmc (N:Nat) (aa:List Int):Option Rj:=
  Zmd N aa
theorem Z01 {N ac:Nat} {a0:Option Addr} {col:Zd} {w0:World} {aa:R2} {r:Rj} (hm:Zmc N aa=some r) (h0:Sl rI col w0 a0 ac aa):
    Calls prog 138 #[.slice a0 aa.length ac] w0 (fun e w'=>∃ (col':Zd) (rv1:Value),e= .returned (rv1)∧Zk col w0 col' w'∧It prog 1 rv1 (fun (y:Int×Int) (col:Zd) (w:World) (args:List Value)=>args=[.int .i64 y.1,.int .i64 y.2]) r q0 col' w'):=by
 refine Z7 2 (m:=4) func138 rfl rfl rfl rfl rfl ?_;rw [Zmc.eq_1] at hm;have ab:=St.start col w0;refine go ?_;refine Zdl (col:=(Zg col)) (v:=(.slice a0 aa.length ac)) 1 rfl rfl ?_;intro ad ai ag aj ae;replace ae:Ze 36 1 ag ai ad #[.slice a0 aa.length ac]:=ae;refine lv (v:=_) rfl rfl (Uu rfl)<|go ?_;refine lV (.func (.func 175) #[] #[.pointer (some ⟨ad,0,none⟩)]) (Z4n rfl)<|lA (.func (.func 175) #[] #[.pointer (some ⟨ad,0,none⟩)])<|go ?_;replace ab:=ab.grow aj;have af:=ab.finBox (G:=(fun n=>bif aC n 1 then 450 else 0)) ae (by decide) (by decide) (show (fun n=>bif aC n 1 then 450 else 0) 1=450 from rfl);have h0f:=ab.finSl (g:=(fun n=>bif aC n 1 then 450 else 0)) rfl (h0.k0.ks ab);refine ⟨rfl,Vs w0.heap.size col ag (fun n=>bif aC n 1 then 450 else 0),_,rfl,ab.fin (fun n=>bif aC n 1 then 450 else 0),175,[.pointer (some ⟨ad,0,none⟩)],rfl,call175,?_⟩;intro col9 w9 ah hk9;exact Z02 N col9 w9 ad a0 ac aa (h0f.itk ah hk9 rfl) (af.itk ah hk9 rfl) r hm
def Zcz:List Rc→Int→R2→Option R2
  | [],ac,ab=>some ab
  | aa :: ad,ac,ab=>Zv (aa.2≠0) ((Zi ab aa.1).bind fun af=>(some (ab.set (aA aa.1) (bC ac aa.2))).bind fun ae=>Zv (aa.2≠0) ((Zcz ad) (i64.wrap (aU ac aa.2)) ae))
def Zj7 (N:Nat) (aa:List Int) (ab:Int):Option R2:=
  if (decide ((aa.length:Int)=0))=true then (some ([]:List Int)) else (Zv (aa.length * 8≤281474976710656∧aa.length≤maxLen) ((Zmc N aa).bind fun ac=>Zcz ac ab (aI aa.length (0:Int))))
theorem Z00 {N a1:Nat} {a0:Option Addr} {col:Zd} {w0:World} {ag:R2} {am:Int} {r:R2} (c1:Nat) (hm:Zj7 N ag am=some r) (h0:Sl rI col w0 a0 a1 ag):
    Calls prog 93 #[.slice a0 ag.length a1,.int .i64 am] w0 (W2 .i64 3 c1 col w0 r):=by
 refine Z1d 4 (mc:=499) (m:=28) (args:=[.slice a0 ag.length a1,.int .i64 am]) func93 rfl rfl rfl rfl rfl ?_;rw [Zj7.eq_1] at hm;have aa:=St.start col w0;have hmk:Ym 499 (Zg col) w0 []:=.nil;refine go ?_;refine Zdl (col:=(Zg col)) (v:=(.int .i64 am)) 1 rfl rfl ?_;intro a2 a9 a3 ba ac;replace ac:Ze 3 1 a3 a9 a2 #[.int .i64 am]:=ac;refine go ?_;replace hmk:=hmk.gr ba;replace aa:=aa.grow ba;refine Zl hm (fun hb hm=>go ?_) fun hb hm=>go ?_
 ·cases hm;refine ⟨_,[],rfl,hmk,?_⟩;intro bz bh bi;replace aa:=aa.kp bh bi;exact ⟨Vs w0.heap.size col a3 (fun n=>0),none,0,rfl,aa.fin (fun n=>0),Zb.nil⟩
 obtain ⟨bb,hm⟩:=Zx hm;refine Ty (col:=a3) (w:=a9) (r:=rI) (n:=ag.length) (x0:=0) 2 rfl underlying36 Tryz.t3 rfl rfl rfl rfl rfl rfl rfl bb.1 bb.2 (Zag .i64 0) ?_;intro a4 b0 bj a5 a6;refine S3 (col:=bj) (v:=(nI)) 3 rfl zeroValue36 ?_;intro ar bk bc au a7;replace a7:Ze 36 3 bc bk ar #[(nI)]:=a7;refine W5 (v:=(.slice a4 ((aI ag.length (0:Int)).length) ag.length)) a7 sizeOf36 rfl rfl (by intro u hu;simp only [Value.cells,aM,aO,or_false] at hu;subst hu;rfl) rfl rfl ?_;intro bm av bn ab;replace ab:Ze 36 3 bc bm ar #[.slice a4 ((aI ag.length (0:Int)).length) ag.length]:=ab;refine go ?_;obtain ⟨bo,bp,hm⟩:=bZ hm;replace aa:=((aa.grow a5).grow au).kp av bn;refine Zh (Z01 bp (h0.k0.ks aa)) ?_;rintro _ b1 ⟨bq,b2,rfl,aq,br⟩;refine ⟨_,rfl,go ?_⟩;replace ac:=(((ac.gr a5).gr au).kp av).gr aq;replace hmk:=(((hmk.gr a5).gr au).kp av).gr aq;replace ab:=ab.gr aq;replace aa:=aa.grow aq;refine Zkw (psl:=[16,17]) (arr:=(fun (y:Int×Int) (col:Zd) (w:World) (args:List Value)=>args=[.int .i64 y.1,.int .i64 y.2])) (ys:=bo) (col:=bq) 498 rfl br rfl hmk rfl rfl (by rintro _ _ _ _ rfl;rfl) (fun ys_ ad al=>∃ (ae:Int) (ai:Option Addr) (aj:Nat) (ak:List Int),Zcz ys_ ae ak=some r∧St w0 (Zg col) ad al∧Ze 3 1 ad al a2 #[.int .i64 ae]∧Zb rI 3 2 ad al ai aj ak∧Ze 36 3 ad al ar #[.slice ai ak.length aj]) (fun _ _ _=>False) ?_ ?_ ⟨am,a4,ag.length,(aI ag.length (0:Int)),hm,aa,ac,((a6.gr au).kp av).gr aq,ab⟩ ?_ ?_ ?_
 ·intro ys_ ad al col2_ w2_ hJ hk;obtain ⟨ae,ai,aj,ak,hm,aa,ac,af,ab⟩:=hJ;exact ⟨ae,ai,aj,ak,hm,aa.kpp hk rfl rfl,ac.kpp hk rfl,af.kpp hk rfl rfl,ab.kpp hk rfl⟩
 ·intro _ _ _ _ _ h _;exact h
 ·intro b3 b4 b5 ah b6 ad al args hJ hrec hmk harr;obtain ⟨ae,ai,aj,ak,hm,aa,ac,af,ab⟩:=hJ;rw [Zcz.eq_2] at hm;have hki:=Z1.refl (pC 1) ad al;subst harr;refine go ?_;refine ⟨_,hrec,?_⟩;intro b7 b8 an bd hrec2;have hrec:=hrec2;refine go ?_;refine Wc (col:=ad) [(0,0),(1,1),(2,0),(3,1),(4,1),(5,1),(6,2)] (by kernel_rfl) (by kernel_rfl) ?_;replace ab:=ab.kp an;refine xW (fun _ hC=>ab.at1.gr (hC.bl ad)) ?_;refine xu rfl rfl (fun _=>Wb rfl) ?_;replace ac:=ac.kp an;refine xW (fun _ hC=>ac.at1.gr (hC.bl ad)) ?_;refine xu rfl rfl (fun _=>Wb rfl) ?_;obtain ⟨bs,hm⟩:=Zx hm;refine xu (v:=(.int .i64 (bC ae ah.2))) rfl rfl (fun _=>So ae ah.2 rfl rfl bs) ?_;obtain ⟨b9,aw,hm⟩:=bZ hm;replace af:=af.kp an;refine xu rfl rfl (fun _=>Wa underlying36 sizeOf3 rfl rfl (Xm aw).1 (Xm aw).2.1 (af.addr aw)) ?_;refine xe rfl rfl ?_;intro ca hC0;have hC:=hC0.bl ad;obtain ⟨ax,ay,hm⟩:=bZ hm;have ay:ax=ak.set (aA ah.1) (bC ae ah.2):=(Option.some.inj ay).symm;replace af:=af.gr hC;refine Yp (x1:=bC ae ah.2) af aw ?_;intro bt ao be az;rw [← ay] at az;replace ab:=(ab.gr hC).kp ao;replace ab:Ze 36 3 ad bt ar #[.slice ai ax.length aj]:=by rw [← (show ak.length=ax.length by rw [ay,nS])];exact ab
  refine Zj<|xk ad<|Y4 ?_;replace hmk:=((hmk.kp an).gr hC).kp ao;replace hki:=((hki.kp an bd rfl).gr hC).kp ao be rfl;replace aa:=((aa.kp an bd).grow hC).kp ao be;replace ac:=(ac.gr hC).kp ao;replace hrec:=(hrec.gr hC).kp ao;intro cb hC;replace hC:=hC.bl ad;refine Wk ?_;replace ac:=ac.gr hC;refine lW ac.at1<|Xe rfl ?_;obtain ⟨bu,hm⟩:=Zx hm;refine lV (.int .i64 (i64.wrap (aU ae ah.2))) (Vm ae ah.2 rfl rfl bu)<|W5 (v:=(.int .i64 (i64.wrap (aU ae ah.2)))) ac sizeOf3 rfl rfl (by intro u hu;simp only [Value.cells,aM,aO,or_false] at hu;subst hu;rfl) rfl rfl ?_;intro bv ap bf a8;replace a8:Ze 3 1 ad bv a2 #[.int .i64 (i64.wrap (aU ae ah.2))]:=a8;refine Zj ?_;replace ab:=(ab.gr hC).kp ap;replace hmk:=(hmk.gr hC).kp ap;replace aa:=(aa.grow hC).kp ap bf;exact ⟨_,(hki.gr hC).kp ap bf rfl,⟨(i64.wrap (aU ae ah.2)),ai,aj,ax,hm,aa,a8,(az.gr hC).kp ap,ab⟩,(hrec.gr hC).kp ap,hmk⟩
 ·intro bw ad al hJ hmk;obtain ⟨ae,ai,aj,ak,hm,aa,ac,af,ab⟩:=hJ;rw [Zcz.eq_1] at hm;refine go ?_;refine lW ab.at1<|go ?_;cases hm;refine ⟨_,(bw :: []),rfl,hmk,?_⟩;intro cc bg bx;replace aa:=aa.kp bg bx;exact ⟨Vs w0.heap.size col ad (fun n=>bif aC n 2 then c1 else 0),ai,aj,rfl,aa.fin (fun n=>bif aC n 2 then c1 else 0),aa.finOwn (g:=(fun n=>bif aC n 2 then c1 else 0)) rfl (af.kp bg) (by decide) (by decide) rfl⟩
 intro _ _ _ _ h;exact h.elim
def Zcx (N:Nat) (ab:Int) (ac:List Int):Nat→Int→Option (List R9)
  | 0,_=>none
  | ad+1,aa=>if (decide (aa<ab))=true then ((Zj7 N ac aa).bind fun ae=>((Zcx N ab ac ad) (i64.wrap (aa+1))).bind fun af=>some ((aa,ae) :: af)) else (some [])
def Zmb (N:Nat) (aa:Int) (ab:List Int):Option (List R9):=
  Zcx N aa ab N 0
theorem Z0z (N cy:Nat) (col:Zd) (w0:World) (g0:Nat) (ah:Int) (hb0:Ze 3 450 col w0 g0 #[.int .i64 ah]) (g1:Nat) (af1:Option Addr) (capf1:Nat) (ad:List Int) (hf1:Zb rI 3 450 col w0 af1 capf1 ad) (hb1:Ze 36 450 col w0 g1 #[.slice af1 ad.length capf1]) (r:List R9) (hm:Zmb N ah ad=some r):
    Zfw prog 1 92 [.pointer (some ⟨g0,0,none⟩),.pointer (some ⟨g1,0,none⟩)] (fun (y:Int×List Int) (col:Zd) (w:World) (args:List Value)=>∃ a1 ak,args=[.int .i64 y.1,.slice a1 y.2.length ak]∧Zb rI 3 cy col w a1 ak y.2) r col w0:=by
 intro l J X hjs hxs hy aa;refine Zf4 (m:=17) (args:=[.func (.yield l) #[] #[],.pointer (some ⟨g0,0,none⟩),.pointer (some ⟨g1,0,none⟩)]) func92 rfl rfl rfl rfl ?_;rw [Zmb.eq_1] at hm;refine go ?_;refine lW hb0.at1<|go ?_;refine Zt [0,2,5,1000000] (fun n f ae=>∃ ab r ai af,af=n∧Zcx N ah ad af ai=some r∧J r ab ae∧Zb rI 3 450 ab ae af1 capf1 ad∧Ze 36 450 ab ae g1 #[.slice af1 ad.length capf1]∧Ze 3 450 ab ae g0 #[.int .i64 ah]∧[6].map f=[.int .i64 ai]) N ⟨_,_,0,_,rfl,hm,aa,hf1,hb1,hb0,rfl⟩ ?_;clear hm;intro n f ae hI;obtain ⟨ab,r,ai,af,hn,hm,aa,hf1,hb1,hb0,hs⟩:=hI;subst hn;refine .lL [6] hs ?_
 cases af with
 | zero=>rw [Zcx.eq_1] at hm;cases hm
 | succ af=>
  rw [Zcx.eq_2] at hm;refine go ?_;refine Zl hm (fun hb hm=>go ?_) fun hb hm=>go ?_
  ·refine lM (.func (.yield l) #[] #[])<|Xe rfl<|lW hb1.at1<|Xe rfl ?_;obtain ⟨an,ao,hm⟩:=bZ hm;refine Zh (Z00 501 ao (hf1.toSlF (Zm.int .i64))) fun _ ar ⟨ap,al,am,e',ac,ag⟩=>⟨_,e',?_⟩;replace ag:=ag.thaw (Z8 .i64) ac ((Fz.refl (col:=ab)).froz 450);replace ac:=ac.thawR (col:=ab);generalize Xb ae.heap.size ab ap=au at *;replace hf1:=hf1.gr ac;replace hb1:=hb1.gr ac;replace hb0:=hb0.gr ac;replace aa:=hjs _ _ _ _ _ aa ac.toP;replace hf1:=hf1.recol 501 cy (by decide);replace ag:=ag.recolSelf cy (by decide);replace hb1:=hb1.recol 501 cy (by decide);replace hb0:=hb0.recol 501 cy (by decide);replace aa:=hjs _ _ _ _ _ aa ((Z1.refl _ _ _).recol 501 cy rfl);obtain ⟨av,hc_15m,aq⟩:=bZ hm;cases aq;have hm:=hc_15m;refine ly2 rfl rfl rfl rfl (hy _ _ _ _ [.int .i64 ai,.slice al an.length am] aa ⟨al,am,rfl,ag⟩) ?_;rintro _ aw ⟨ax,aj,⟨rfl,hJ⟩ | ⟨rfl,hX⟩⟩
   ·refine ⟨_,rfl,?_⟩;have aa:=hJ;refine go ?_;refine Yc rfl<|go ?_;replace hf1:=hf1.kpp aj;replace hb1:=hb1.kpp aj;replace hb0:=hb0.kpp aj;exact ⟨af,by omega,rfl,⟨_,_,_,_,rfl,hm,aa,hf1,hb1,hb0,rfl⟩⟩
   refine ⟨_,rfl,?_⟩;have aa:=hX;refine go ?_;refine Yd rfl<|Y1 ?_;exact ⟨rfl,⟨_,rfl⟩,_,.inr aa⟩
  cases hm;exact ⟨rfl,⟨_,rfl⟩,_,.inl aa⟩
def Zj5 (N:Nat) (ab:List Int):Option (List R9):=
  (Zc2 ab).bind fun aa=>(Zcy aa).bind fun ac=>Zmb N ac.1 aa
theorem Z0y {N ay:Nat} {a0:Option Addr} {col:Zd} {w0:World} {ai:R2} {r:(List R9)} (cy:Nat) (hm:Zj5 N ai=some r) (h0:Sl rI col w0 a0 ay ai):
    Calls prog 40 #[.slice a0 ai.length ay] w0 (fun e w'=>∃ (col':Zd) (rv1:Value),e= .returned (rv1)∧Zk col w0 col' w'∧It prog 1 rv1 (fun (y:Int×List Int) (col:Zd) (w:World) (args:List Value)=>∃ a1 az,args=[.int .i64 y.1,.slice a1 y.2.length az]∧Zb rI 3 cy col w a1 az y.2) r q1 col' w'):=by
 refine Z7 2 (m:=14) func40 rfl rfl rfl rfl rfl ?_;rw [Zj5.eq_1] at hm;have aa:=St.start col w0;refine go ?_;refine lv (v:=_) rfl rfl (Uu rfl)<|go ?_;obtain ⟨aj,a5,hm⟩:=bZ hm;refine Zh (Zn5 1 a5 (h0.k0.ks aa)) fun _ bf ⟨a6,ak,al,e',a7,ac⟩=>⟨_,e',?_⟩;refine S3 (col:=a6) (v:=(nI)) 2 rfl zeroValue36 ?_;intro ad a8 ag a2 am;replace am:Ze 36 2 ag a8 ad #[(nI)]:=am;refine W5 (v:=(.slice ak aj.length al)) am sizeOf36 rfl rfl (by intro u hu;simp only [Value.cells,aM,aO,or_false] at hu;subst hu;rfl) rfl rfl ?_;intro a3 a4 a9 ae;replace ae:Ze 36 2 ag a3 ad #[.slice ak aj.length al]:=ae;refine go ?_;refine lW ae.at1 ?_;obtain ⟨ab,ba,hm⟩:=bZ hm;replace ac:=(ac.gr a2).kp a4;refine Zh (Zq8 ba (ac.toSlF (Zm.int .i64))) fun _ bb ⟨e',ah⟩=>⟨_,e',?_⟩;replace ah:Zk ag a3 ag bb:=.of_below ah;refine lM (.tuple #[.int .i64 ab.1,.int .i64 ab.2])<|lV (.int .i64 ab.1) (X6 rfl rfl)<|lV (.int .i64 ab.2) (X6 rfl rfl)<|S3 (col:=ag) (v:=(.int .i64 0)) 3 rfl zeroValue3 ?_;intro af bc an ao ap;replace ap:Ze 3 3 an bc af #[.int .i64 0]:=ap;refine W5 (v:=(.int .i64 ab.1)) ap sizeOf3 rfl rfl (by intro u hu;simp only [Value.cells,aM,aO,or_false] at hu;subst hu;rfl) rfl rfl ?_;intro bd aq be ar;replace ar:Ze 3 3 an bd af #[.int .i64 ab.1]:=ar;refine go ?_;refine lV (.func (.func 92) #[] #[.pointer (some ⟨af,0,none⟩),.pointer (some ⟨ad,0,none⟩)]) (Zpk rfl rfl)<|lA (.func (.func 92) #[] #[.pointer (some ⟨af,0,none⟩),.pointer (some ⟨ad,0,none⟩)])<|go ?_;replace aa:=(((((aa.grow a7).grow a2).kp a4 a9).grow ah).grow ao).kp aq be;have au:=aa.finBox (G:=(fun n=>bif aC n 3 then 450 else bif aC n 2 then 450 else bif aC n 1 then 450 else 0)) ar (by decide) (by decide) (show (fun n=>bif aC n 3 then 450 else bif aC n 2 then 450 else bif aC n 1 then 450 else 0) 3=450 from rfl);have av:=aa.finBox (G:=(fun n=>bif aC n 3 then 450 else bif aC n 2 then 450 else bif aC n 1 then 450 else 0)) (((ae.gr ah).gr ao).kp aq) (by decide) (by decide) (show (fun n=>bif aC n 3 then 450 else bif aC n 2 then 450 else bif aC n 1 then 450 else 0) 2=450 from rfl);replace ac:=((ac.gr ah).gr ao).kp aq
 have aw:=aa.finOwn (g:=(fun n=>bif aC n 3 then 450 else bif aC n 2 then 450 else bif aC n 1 then 450 else 0)) rfl ac (by decide) (by decide) (show (fun n=>bif aC n 3 then 450 else bif aC n 2 then 450 else bif aC n 1 then 450 else 0) 1=450 from rfl);refine ⟨rfl,Vs w0.heap.size col an (fun n=>bif aC n 3 then 450 else bif aC n 2 then 450 else bif aC n 1 then 450 else 0),_,rfl,aa.fin (fun n=>bif aC n 3 then 450 else bif aC n 2 then 450 else bif aC n 1 then 450 else 0),92,[.pointer (some ⟨af,0,none⟩),.pointer (some ⟨ad,0,none⟩)],rfl,call92,?_⟩;intro col9 w9 ax hk9;exact Z0z N cy col9 w9 af ab.1 (au.itk ax hk9 rfl) ad ak al aj (aw.itk ax hk9 rfl (Z8 .i64)) (av.itk ax hk9 rfl) r hm
def Z4:List Nat→Nat
 | []=>1
 | s :: ss=>s * Z4 ss
def Ye:List Nat→Nat→List Int
 | [],_=>[]
 | s :: ss,a=>((a / Z4 ss:Nat):Int) :: Ye ss (a % Z4 ss)
def Wo:List Nat→List Int→Nat
 | s :: ss,d :: w=>d.toNat * Z4 ss+Wo ss w
 | _,_=>0
theorem Zfq:∀ ss:List Nat,(∀ s ∈ ss,0<s)→0<Z4 ss
 | [],_=>by rw [Z4];decide
 | s :: ss,h=>fS (h s aT) (Zfq ss fun x a=>h x (aP _ a))
def Su:List Nat→List Int→Prop
 | [],[]=>True
 | s :: ss,d :: w=>(0≤d∧d<(s:Int))∧Su ss w
 | _,_=>False
theorem Zlk:∀ (ss:List Nat) (a:Nat),(∀ s ∈ ss,0<s)→a<Z4 ss→Su ss (Ye ss a)
 | [],_,_,_=>trivial
 | s :: ss,a,h,c=>by
  have d:=Zfq ss fun x b=>h x (aP _ b)
  rw [Z4] at c
  refine ⟨⟨dU _,eC.2 ((cY d).2 c)⟩,Zlk ss _ (fun x b=>h x (aP _ b)) (dN _ d)⟩
theorem Zu6:∀ (ss:List Nat) (a:Nat),(∀ s ∈ ss,0<s)→a<Z4 ss→Wo ss (Ye ss a)=a
 | [],a,_,c=>by rw [Z4] at c;rw [Ye,Wo];omega;intro s ss d w h;cases h
 | s :: ss,a,h,c=>by
  have e:=Zfq ss fun x b=>h x (aP _ b)
  rw [Ye,Wo,aB,Zu6 ss _ (fun x b=>h x (aP _ b)) (dN _ e),bL]
  exact fV a (Z4 ss)
theorem Zpb:∀ (ss:List Nat) (w:List Int),Su ss w→Wo ss w<Z4 ss
 | [],[],_=>by rw [Wo,Z4];decide;intro s ss d w h;cases h
 | s :: ss,d :: w,h=>by
  have c:=Zpb ss w h.2
  have a:d.toNat+1≤s:=by have:=h.1;omega
  have b:=bF (Z4 ss) a
  rw [bI,bP] at b
  rw [Wo,Z4];omega
theorem Zr2:∀ (ss:List Nat) (w:List Int),Su ss w→Ye ss (Wo ss w)=w
 | [],[],_=>rfl
 | s :: ss,d :: w,h=>by
  have a:=Zpb ss w h.2
  have b:0<Z4 ss:=by omega
  have c:(d.toNat * Z4 ss+Wo ss w) / Z4 ss=d.toNat:=by
   rw [bL,iV b,dQ a,bQ]
  have e:(d.toNat * Z4 ss+Wo ss w) % Z4 ss=Wo ss w:=by
   rw [bL,iW,dC a]
  rw [Wo,Ye,c,e,Zr2 ss w h.2]
  have:=h.1
  congr 1;omega
/-! the program -/
def X1 (ss:List Nat):List Int:=ss.map fun s:Nat=>(s:Int)
theorem Zoa {l:List Int} (h:l.length≤1099511627776):Zc2 l=some l:=by
 rw [Zc2,Zz (by simp only [nN,maxLen];omega),bO]
theorem Zxh:∀ (ss:List Nat) (c:Nat),0<c→(∀ s ∈ ss,0<s)→c * Z4 ss≤65536→Sg (X1 ss) (c:Int)=some (((c * Z4 ss:Nat):Int),0)
 | [],c,_,_,_=>by rw [X1,dR,Sg.eq_1,Z4,Nat.mul_one]
 | s :: ss,c,d,a,f=>by
  have g:=Zfq ss fun x b=>a x (aP _ b)
  have i:=a s aT
  rw [Z4,← bN] at f ⊢
  have k:c * s≤c * s * Z4 ss:=Nat.le_mul_of_pos_right _ g
  have e:aU 2147483647 (c:Int)=((2147483647 / c:Nat):Int):=rfl
  have l:s≤2147483647 / c:=by
   rw [dW d,bL];omega
  have m:2147483647 / c≤2147483647:=cB _ _
  have j:(c:Int) * (s:Int)=((c * s:Nat):Int):=(bT c s).symm
  rw [X1,cG,Sg.eq_2,Zz (by omega),e,Zp (x:=((2147483647 / c:Nat):Int)) (by omega),if_neg (dF (by omega)),j,Zp (by omega)]
  exact Zxh ss (c * s) (fS d i) (fun x b=>a x (aP _ b)) f
theorem Zpw (p:List Int):∀ (ss:List Nat),(∀ s ∈ ss,0<s)→Q9 p (X1 ss) false=Sg p 1
 | [],_=>by rw [X1,dR,Q9.eq_1,if_neg (by decide)]
 | s :: ss,a=>by
  have c:=a s aT
  rw [X1,cG,Q9.eq_2,if_neg (dF (by omega)),if_neg (by decide),Zj6,decide_eq_false (by omega)]
  exact Zpw p ss fun x b=>a x (aP _ b)
theorem Zxi {ss:List Nat} (hs:∀ s ∈ ss,0<s) (hb:Z4 ss≤65536):Zcy (X1 ss)=some ((Z4 ss:Int),0):=by
 have:=Zxh ss 1 (by decide) hs (by rw [bP];exact hb)
 rw [Zcy,Zpw _ ss hs,show (1:Int)=((1:Nat):Int) from rfl,this,bP]
def Zf3 (ss:List Nat):Nat→List Rc
 | 0=>[]
 | k+1=>((k:Int),((ss.getD k 0:Nat):Int)) :: Zf3 ss k
theorem Zx7 {ss:List Nat} {k:Nat} (h:k<ss.length):Zi (X1 ss) (k:Int)=some ((ss.getD k 0:Nat):Int):=by
 rw [Uo,X1,List.getElem?_map,aG h,aE,aG h];rfl
theorem Zxg (N:Nat) (ss:List Nat) (hl:ss.length≤1099511627776):∀ (f k:Nat),k≤ss.length→k<f→Zc0 N (X1 ss) f ((k:Int) - 1)=some (Zf3 ss k)
 | 0,k,_,h=>by omega
 | f+1,0,a,b=>by rw [Zc0.eq_2,if_neg (by decide)];rfl
 | f+1,k+1,a,b=>by
  rw [Zc0.eq_2,show ((k+1:Nat):Int) - 1=(k:Int) by omega,if_pos (dT (by omega)),Zx7 (by omega),oB,Zp (by omega),Zxg N ss hl f k (by omega) (by omega),oB,Zf3]
theorem Zxj (ss:List Nat) (hs:∀ s ∈ ss,0<s) (a:Nat) (ha:a<4611686018427387904):∀ k,k≤ss.length→Zcz (Zf3 ss k) ((a / Z4 (ss.drop k):Nat):Int) (aI k 0++Ye (ss.drop k) (a % Z4 (ss.drop k)))=some (Ye ss (a % Z4 ss))
 | 0,_=>by rw [Zf3,Zcz.eq_1,aX];rfl
 | k+1,l=>by
  have b:k<ss.length:=by omega
  have c:ss.drop k=ss.getD k 0 :: ss.drop (k+1):=by
   rw [aL b,aE,aG b];rfl
  have d:=Zxj ss hs a ha k (by omega)
  have m:0<ss.getD k 0:=by
   rw [aE,aG b]
   exact hs _ (aD b)
  rw [c,Z4,Ye,Nat.mod_mul_left_mod,bL,Nat.mod_mul_right_div_self,← dX] at d
  have j:=cB a (Z4 (ss.drop (k+1)))
  generalize a / Z4 (ss.drop (k+1))=q at *
  generalize Ye (ss.drop (k+1)) (a % Z4 (ss.drop (k+1)))=D at *
  have e:bC (q:Int) ((ss.getD k 0:Nat):Int)=((q % ss.getD k 0:Nat):Int):=rfl
  have f:aU (q:Int) ((ss.getD k 0:Nat):Int)=((q / ss.getD k 0:Nat):Int):=rfl
  have n:q / ss.getD k 0≤q:=cB _ _
  have g:(aI (k+1) (0:Int)++D).set k ((q % ss.getD k 0:Nat):Int)=aI k 0++((q % ss.getD k 0:Nat):Int) :: D:=by
   rw [List.replicate_succ',List.append_assoc,fC (i:=k) _ (by rw [aQ];exact bB _),aQ,fT];rfl
  generalize q / ss.getD k 0=z at *
  rw [Zf3,Zcz.eq_2,Zz (by simp only;omega)]
  dsimp only
  rw [Zs (by rw [nA,aQ];omega),oB,e,f,aB,g,oB,Zz (by omega),Zp (by omega)]
  exact d
theorem Z1w {N:Nat} {ss:List Nat} (hs:∀ s ∈ ss,0<s) (hl:ss.length≤1048576) (hN:1048577<N) {a:Nat} (ha:a<Z4 ss) (hb:Z4 ss≤65536):Zj7 N (X1 ss) (a:Int)=some (Ye ss a):=by
 have b:(X1 ss).length=ss.length:=by rw [X1,aH]
 rw [Zj7,b]
 by_cases h0:ss.length=0
 ·have:ss=[]:=bY h0
  rw [if_pos (dT (by omega)),this,Ye]
 ·have c:=Zxg N ss (by omega) N ss.length (bB _) (by omega)
  have d:=Zxj ss hs a (by omega) ss.length (bB _)
  rw [dY,Z4,Nat.div_one,Ye,cU,dC ha] at d
  rw [if_neg (dF (by omega)),Zz (by simp only [maxLen];omega),Zmc,Zmd,b,Zp (by omega),c,oB]
  exact d
def Zf7 (ss:List Nat):Nat→Nat→List R9
 | _,0=>[]
 | k,m+1=>((k:Int),Ye ss k) :: Zf7 ss (k+1) m
theorem Zv2 {N:Nat} {ss:List Nat} (hs:∀ s ∈ ss,0<s) (hl:ss.length≤1048576) (hN:1048577<N) (hb:Z4 ss≤65536):∀ (m k f:Nat),k+m=Z4 ss→m<f→Zcx N (Z4 ss:Int) (X1 ss) f (k:Int)=some (Zf7 ss k m)
 | m,k,0,_,h=>by omega
 | 0,k,f+1,a,b=>by rw [Zcx.eq_2,if_neg (dF (by omega))];rfl
 | m+1,k,f+1,a,b=>by
  rw [Zcx.eq_2,if_pos (dT (by omega)),Z1w hs hl hN (by omega) hb,oB,wS (by omega),Zv2 hs hl hN hb m (k+1) f (by omega) (by omega),oB,Zf7]
theorem Z4z {N:Nat} {ss:List Nat} (hs:∀ s ∈ ss,0<s) (hl:ss.length≤1048576) (hN:1048577<N) (hb:Z4 ss≤65536):Zj5 N (X1 ss)=some (Zf7 ss 0 (Z4 ss)):=by
 have a:(X1 ss).length=ss.length:=by rw [X1,aH]
 rw [Zj5,Zoa (by omega),oB,Zxi hs hb,oB,Zmb]
 exact Zv2 hs hl hN hb (Z4 ss) 0 N (by omega) (by omega)
def Zc:List Int→Nat
 | []=>0
 | x :: l=>x.toNat+4294967296 * Zc l
def Zn (l:List Int):Prop:=∀ x ∈ l,0≤x∧x<4294967296
def Zf (n:Nat):List Int:=if n=0 then [] else ((n % 4294967296:Nat):Int) :: Zf (n / 4294967296)
termination_by n
decreasing_by omega
theorem Zn.nil:Zn []:=by simp [Zn]
theorem Zn.cons {x:Int} {l:List Int} (h:0≤x∧x<4294967296) (hl:Zn l):Zn (x :: l):=fun y a=>by
 rcases aM.1 a with rfl | a
 ·exact h
 ·exact hl y a
theorem Zn.head {x:Int} {l:List Int} (h:Zn (x :: l)):0≤x∧x<4294967296:=h x aT
theorem Zn.tail {x:Int} {l:List Int} (h:Zn (x :: l)):Zn l:=fun y a=>h y (aP _ a)
theorem Zn.app {a b:List Int} (ha:Zn a) (hb:Zn b):Zn (a++b):=fun y c=>by
 rcases List.mem_append.1 c with h | h
 ·exact ha y h
 ·exact hb y h
theorem Zn.take {a:List Int} (h:Zn a) (k:Nat):Zn (a.take k):=fun y b=>h y (List.mem_of_mem_take b)
theorem Zn.drop {a:List Int} (h:Zn a) (k:Nat):Zn (a.drop k):=fun y b=>h y (List.mem_of_mem_drop b)
theorem Zn.zeros (k:Nat):Zn (aI k 0):=fun y a=>by
 rw [List.eq_of_mem_replicate a];decide
theorem Zn.set {a:List Int} (h:Zn a) (k:Nat) {v:Int} (hv:0≤v∧v<4294967296):Zn (a.set k v):=fun y b=>by
 rcases List.mem_or_eq_of_mem_set b with c | rfl
 ·exact h y c
 ·exact hv
theorem Zn.get {a:List Int} (h:Zn a) {k:Nat} (hk:k<a.length):0≤a[k]∧a[k]<4294967296:=h _ (aD hk)
theorem Yg:Zc []=0:=rfl
theorem Y3 (x:Int) (l:List Int):Zc (x :: l)=x.toNat+4294967296 * Zc l:=rfl
theorem Si (a b:List Int):Zc (a++b)=Zc a+4294967296 ^ a.length * Zc b:=by
 induction a with
 | nil=>simp [Zc]
 | cons x a c=>
  rw [cR,Y3,Y3,c,nC,aY]
  grind
theorem U5 (k:Nat):Zc (aI k 0)=0:=by
 induction k with
 | zero=>rfl
 | succ k a=>rw [List.replicate_succ,Y3,a];rfl
theorem Sj {l:List Int} (h:Zn l):Zc l<4294967296 ^ l.length:=by
 induction l with
 | nil=>simp [Zc]
 | cons x l a=>
  have c:=h.head
  have b:=a h.tail
  rw [Y3,nC,aY]
  have d:(Zc l+1) * 4294967296≤4294967296 ^ l.length * 4294967296:=bF _ b
  omega
theorem Z3 (n:Nat):Zc (Zf n)=n:=by
 induction n using fW with
 | ind n a=>
  rw [Zf]
  split
  ·rename_i h;rw [h];rfl
  ·rename_i h
   rw [Y3,a (n / 4294967296) (by omega)]
   omega
theorem Wv:Zf 0=[]:=by rw [Zf,if_pos rfl]
theorem Zdp {n:Nat} (h:n≠0):Zf n=((n % 4294967296:Nat):Int) :: Zf (n / 4294967296):=by rw [Zf,if_neg h]
theorem Zam:Zf 1=[1]:=by rw [Zdp (by decide)];simp [Wv]
theorem Z2 (n:Nat):Zn (Zf n):=by
 induction n using fW with
 | ind n a=>
  rw [Zf]
  split
  ·exact .nil
  ·exact .cons (by omega) (a (n / 4294967296) (by omega))
theorem Wu {k n:Nat}:(Zf n).length≤k↔n<4294967296 ^ k:=by
 induction k generalizing n with
 | zero=>
  by_cases h:n=0
  ·subst h;simp [Wv]
  ·rw [Zdp h];simp;omega
 | succ k a=>
  by_cases h:n=0
  ·subst h;simp [Wv];exact eO (by decide)
  ·rw [Zdp h,nC,Nat.add_le_add_iff_right,a,aY]
   omega
theorem X9 {l:List Int} (h:Zn l):(Zf (Zc l)).length≤l.length:=Wu.2 (Sj h)
theorem Zf9 {n:Nat}:Zf n=[]↔n=0:=by
 by_cases h:n=0
 ·subst h;simp [Wv]
 ·rw [Zdp h];simp [h]
theorem Ztu {x:Int} {l:List Int} (h:0≤x∧x<4294967296) (h0:x=0→Zc l≠0):Zf (Zc (x :: l))=x :: Zf (Zc l):=by
 have a:Zc (x :: l)≠0:=by
  rw [Y3]
  by_cases hx:x=0
  ·have:=h0 hx;omega
  ·omega
 rw [Zdp a,Y3]
 congr 1
 ·omega
 ·congr 1;omega
theorem Z35 {a:List Int} {x:Int} (h:0<x):Zc (a++[x])≠0:=by
 rw [Si,Y3,Yg]
 have:0<4294967296 ^ a.length * (x.toNat+4294967296 * 0):=fS (eO (by decide)) (by omega)
 omega
theorem Z3i {a:List Int} {x:Int} (h:Zn (a++[x])) (hx:x≠0):Zf (Zc (a++[x]))=a++[x]:=by
 induction a with
 | nil=>
  have:=h.head
  rw [bO,Ztu this (fun e=>absurd e hx),Yg,Wv]
 | cons y a b=>
  have c:0≤x∧x<4294967296:=h x (by simp)
  rw [cR,Ztu h.head fun _=>Z35 (by omega),b h.tail]
theorem Zun (a:List Int):Zc (a++[0])=Zc a:=by rw [Si];simp [Zc]
theorem Zf8 {l:List Int} (h:0<l.length):l.take (l.length - 1)++[l[l.length - 1]]=l:=by
 have:=fD (l.length - 1) l
 rw [aL (by omega),aF (by omega)] at this
 exact this
theorem Zlt {n:Nat} (h:0<(Zf n).length):(Zf n)[(Zf n).length - 1]≠0:=by
 induction n using fW with
 | ind n b=>
  by_cases h0:n=0
  ·subst h0;simp [Wv] at h
  ·have e:=Zdp h0
   by_cases h1:n / 4294967296=0
   ·have:Zf n=[((n % 4294967296:Nat):Int)]:=by rw [e,h1,Wv]
    simp only [this,List.length_singleton,fT,gR]
    omega
   ·have c:0<(Zf (n / 4294967296)).length:=by
     rw [Zdp h1];simp
    have:=b (n / 4294967296) (by omega) c
    have d:(Zf n).length - 1=(Zf (n / 4294967296)).length - 1+1:=by rw [e];simp;omega
    have a:(Zf n)[(Zf n).length - 1]?=(Zf (n / 4294967296))[(Zf (n / 4294967296)).length - 1]?:=by
     rw [d]
     conv=>lhs;rw [e]
     rw [List.getElem?_cons_succ]
    rw [aG (by omega),aG (by omega)] at a
    rw [Option.some.inj a]
    exact this
theorem Us {l:List Int} {k:Nat} (hk:k<l.length) (v:Int):Zc (l.set k v)+4294967296 ^ k * (l[k]).toNat=Zc l+4294967296 ^ k * v.toNat:=by
 induction l generalizing k with
 | nil=>simp at hk
 | cons x l a=>
  cases k with
  | zero=>simp only [fO,Y3,gR,dA,bP];omega
  | succ k=>
   have h:=a (k:=k) (by simpa using hk)
   simp only [List.set_cons_succ,Y3,List.getElem_cons_succ,aY]
   grind
theorem Zo6 {l:List Int} {k:Nat} (hk:k<l.length):Zc (l.take (k+1))=Zc (l.take k)+4294967296 ^ k * (l[k]).toNat:=by
 rw [List.take_add_one,aG hk,Si,Option.toList_some,Y3,Yg,nK,aR (by omega)]
 simp
theorem V1 {l:List Int} {k:Nat} (hk:k<l.length):Zc (l.drop k)=(l[k]).toNat+4294967296 * Zc (l.drop (k+1)):=by
 rw [aL hk,Y3]
theorem Ut (l:List Int) (k:Nat):Zc l=Zc (l.take k)+4294967296 ^ k * Zc (l.drop k):=by
 by_cases h:k≤l.length
 ·conv=>lhs;rw [← fD k l]
  rw [Si,nK,aR h]
 ·rw [List.take_of_length_le (by omega),aF (by omega)];simp [Zc]
theorem Vv {x:Int} (h:0≤x∧x<4294967296):u32.wrap x=x:=by rw [IntKind.wrap_u32];omega
theorem Xi {x:Int} (h:0≤x∧x<18446744073709551616):u64.wrap x=x:=by rw [IntKind.wrap_u64];omega
theorem Zft {x:Int}:Yi .u64 x 32=x / 4294967296:=by
 have:(min (32:Int).toNat u64.bits)=32:=by decide
 rw [Yi,this]
 exact gE _ (by decide)
def Za0 (aa:List Int) (kk_L1:(List Int→Option R2)) (ab:Bool):Option R2:=
  if ab=true then (Zv ((0:Int)≤(i64.wrap ((aa.length:Int) - 1))∧(i64.wrap ((aa.length:Int) - 1))≤(aa.length:Int)) (kk_L1 (aa.take (aA (i64.wrap ((aa.length:Int) - 1)))))) else (some aa)
def Ti (N:Nat):Nat→R2→Option R2
  | 0,_=>none
  | ab+1,aa=>if (decide (0<(aa.length:Int)))=true then ((Zi aa (i64.wrap ((aa.length:Int) - 1))).bind fun ac=>Za0 aa (Ti N ab) (decide (ac=0))) else (Za0 aa (Ti N ab) false)
def Ue (N:Nat) (aa:List Int):Option R2:=
  Ti N N aa
theorem Tr {N ap:Nat} {a0:Option Addr} {col:Zd} {w0:World} {ag r:R2} (hm:Ue N ag=some r) (h0:Sl rU col w0 a0 ap ag):
    Calls prog 159 #[.slice a0 ag.length ap] w0 (fun e w'=>∃ col' ra1 rc2,e= .returned ((.slice ra1 r.length rc2))∧Zk col w0 col' w'∧Sl rU col' w' ra1 rc2 r):=by
 refine Z7 2 (m:=21) func159 rfl rfl rfl rfl rfl ?_;rw [Ue.eq_1] at hm;have ab:=St.start col w0;refine go ?_;refine Zt [1000000] (fun n f ah=>∃ ai ad ae aa af,af=n∧Ti N af aa=some r∧St w0 (Zg col) ai ah∧Sl rU ai ah ad ae aa∧[0].map f=[.slice ad aa.length ae]) N ⟨_,_,_,_,_,rfl,hm,ab,(h0.k0.ks ab),rfl⟩ ?_;clear hm;intro n f ah hI;obtain ⟨ai,ad,ae,aa,af,hn,hm,ab,ac,hs⟩:=hI;subst hn;refine .lL [0] hs ?_
 cases af with
 | zero=>rw [Ti.eq_1] at hm;cases hm
 | succ af=>
  rw [Ti.eq_2] at hm;refine Zw<|Zw ?_;refine Wp.cutK [0,1000000] (fun f aj=>∃ ak al,Za0 aa (Ti N af) al=some r∧St w0 (Zg col) ak aj∧Sl rU ak aj ad ae aa∧[14].map f=[.bool al]) ?_ ?_
  ·intro f aj hJ;obtain ⟨ak,al,hm,ab,ac,hs⟩:=hJ;rw [Za0.eq_1] at hm;refine .lL [14] hs ?_;refine Zl hm (fun hb hm=>go ?_) fun hb hm=>go ?_
   ·obtain ⟨am,hm⟩:=Zx hm;refine lv (v:=.slice ad (aA (i64.wrap ((aa.length:Int) - 1))) ae) rfl rfl (V8 underlying38 sizeOf45 rfl rfl am.1 (by have:=ac.1.2;have:=am.2;omega))<|.ld (d:=19) (v:=(.slice ad ((aa.take (aA (i64.wrap ((aa.length:Int) - 1)))).length) ae)) (congrArg (fun n=>Value.slice ad n ae) (bG (show (aA (i64.wrap ((aa.length:Int) - 1)))≤aa.length by have:=am.2;omega)).symm) ?_;refine go ?_;exact ⟨af,by omega,rfl,⟨_,_,_,_,_,rfl,hm,ab,(ac.take (aA (i64.wrap ((aa.length:Int) - 1)))),rfl⟩⟩
   cases hm;exact ⟨rfl,_,_,_,rfl,ab.fin (cm []),ab.fs ac⟩
  refine go ?_;refine Xo hm (fun an hm=>go ?_) fun an hm=>go ?_
  ·obtain ⟨aq,ao,hm⟩:=bZ hm;refine lI ao (ac.addr ao) ?_;refine go ?_;refine lW (ac.atInt ao)<|go ?_;refine lV (.bool (decide (aq=0))) (Z5 (congrArg Value.bool an) rfl)<|Zj ?_;exact ⟨rfl,_,_,hm,ab,ac,rfl⟩
  refine lV (.bool false) (Xn (congrArg Value.bool an) rfl)<|Zj ?_;exact ⟨rfl,_,_,hm,ab,ac,rfl⟩
def Zd6 (N:Nat) (ab ac:List Int):Nat→Int→Option Int
  | 0,_=>none
  | af+1,aa=>if (decide (0≤aa))=true then ((Zi ab aa).bind fun ad=>(Zi ac aa).bind fun ae=>if (decide (ad<ae))=true then (some (-1)) else (if (decide (ae<ad))=true then (some 1) else ((Zd6 N ab ac af) (i64.wrap (aa - 1))))) else (some 0)
def Zd5 (N:Nat) (ac ad:List Int):Option Int:=
  (Ue N ac).bind fun aa=>(Ue N ad).bind fun ab=>if (!decide ((aa.length:Int)=(ab.length:Int)))=true then (if (decide ((aa.length:Int)<(ab.length:Int)))=true then (some (-1)) else (some 1)) else (Zd6 N aa ab N (i64.wrap ((aa.length:Int) - 1)))
theorem Znv {N al am:Nat} {a0 a1:Option Addr} {col:Zd} {w0:World} {ai aj:R2} {r:Int} (hm:Zd5 N ai aj=some r) (h0:Sl rU col w0 a0 al ai) (h1:Sl rU col w0 a1 am aj):
    Calls prog 186 #[.slice a0 ai.length al,.slice a1 aj.length am] w0 (Wq w0 r):=by
 refine Z7 4 (m:=45) func186 rfl rfl rfl rfl rfl ?_;rw [Zd5.eq_1] at hm;have aa:=St.start col w0;refine go ?_;obtain ⟨an,aq,hm⟩:=bZ hm;refine Zh (Tr aq (h0.k0.ks aa)) fun _ az ⟨a2,ar,au,e',av,ab⟩=>⟨_,e',?_⟩;refine Y8 rfl ?_;obtain ⟨ao,aw,hm⟩:=bZ hm;replace aa:=aa.grow av;refine Zh (Tr aw (h1.k0.ks aa)) ?_;rintro _ a3 ⟨a4,ax,ay,rfl,ap,ad⟩;refine ⟨_,rfl,go ?_⟩;replace ab:=ab.gr ap;replace aa:=aa.grow ap;refine Zl hm (fun hb hm=>go ?_) fun hb hm=>go ?_
 ·refine Zl hm (fun hb hm=>go ?_) fun hb hm=>go ?_
  ·cases hm;exact ⟨rfl,rfl,aa.below⟩
  cases hm;exact ⟨rfl,rfl,aa.below⟩
 refine Zt [0,1,1000000] (fun n f ah=>∃ ac ak ae,ae=n∧Zd6 N an ao ae ak=some r∧St w0 (Zg col) ac ah∧Sl rU ac ah ar au an∧Sl rU ac ah ax ay ao∧[5].map f=[.int .i64 ak]) N ⟨_,_,_,rfl,hm,aa,ab,ad,rfl⟩ ?_;clear hm;intro n f ah hI;obtain ⟨ac,ak,ae,hn,hm,aa,ab,ad,hs⟩:=hI;subst hn;refine .lL [5] hs ?_
 cases ae with
 | zero=>rw [Zd6.eq_1] at hm;cases hm
 | succ ae=>
  rw [Zd6.eq_2] at hm;refine go ?_;refine Zl hm (fun hb hm=>go ?_) fun hb hm=>go ?_
  ·refine Y0 (col:=ac) (by kernel_rfl) (by kernel_rfl)<|go ?_;obtain ⟨a5,af,hm⟩:=bZ hm;refine qI af (ab.addr af)<|qW (fun _ hC=>(ab.gr (hC.bl ac)).atInt af) ?_;refine go ?_;obtain ⟨a6,ag,hm⟩:=bZ hm;refine qI ag (ad.addr ag)<|qW (fun _ hC=>(ad.gr (hC.bl ac)).atInt ag) ?_;refine go ?_;refine Xw ?_;intro a7 hC;replace hC:=hC.bl ac;replace ab:=ab.gr hC;replace ad:=ad.gr hC;replace aa:=aa.grow hC;refine Zl hm (fun hb hm=>go ?_) fun hb hm=>go ?_
   ·cases hm;exact ⟨rfl,rfl,aa.below⟩
   refine Y0 (col:=ac) (by kernel_rfl) (by kernel_rfl)<|go ?_;refine qI af (ab.addr af)<|qW (fun _ hC=>(ab.gr (hC.bl ac)).atInt af) ?_;refine go ?_;refine qI ag (ad.addr ag)<|qW (fun _ hC=>(ad.gr (hC.bl ac)).atInt ag) ?_;refine go ?_;refine Xw ?_;intro a8 hC;replace hC:=hC.bl ac;replace aa:=aa.grow hC;refine Zl hm (fun hb hm=>go ?_) fun hb hm=>go ?_
   ·cases hm;exact ⟨rfl,rfl,aa.below⟩
   exact ⟨ae,by omega,rfl,⟨_,_,_,rfl,hm,aa,ab.gr hC,ad.gr hC,rfl⟩⟩
  cases hm;exact ⟨rfl,rfl,aa.below⟩
theorem Z2c:Y6 prog 45 1 4:=⟨Tryz.t45,_,rfl,rfl,rfl,rfl,rfl⟩
def Zfk (aa:List Int):Option R2:=
  Zv ((([]:List Int).length+aa.length) * 4≤140737488355328∧([]:List Int).length+aa.length≤maxLen) (some (([]:List Int)++aa))
theorem Zn4 {ad:Nat} {a0:Option Addr} {col:Zd} {w0:World} {ac r:R2} (c1:Nat) (hm:Zfk ac=some r) (h0:Sl rU col w0 a0 ad ac):
    Calls prog 187 #[.slice a0 ac.length ad] w0 (W2 .u32 45 c1 col w0 r):=by
 refine Z7 2 (m:=8) func187 rfl rfl rfl rfl rfl ?_;rw [Zfk.eq_1] at hm;have aa:=St.start col w0;refine go ?_;replace h0:=h0.k0;rcases Zo3 h0 with ab | ab
 ·replace hm:some ([]:List Int)=some r:=by have h0:=ab.2;subst h0;simpa [Zv,maxLen] using hm
  refine lv (v:=.bool a0.isNone) rfl rfl (Zif underlying38 rfl)<|.ld (d:=4) (v:=.bool true) (congrArg Value.bool ab.1)<|Zj<|Yd rfl<|go ?_;cases hm;exact ⟨rfl,_,none,0,rfl,aa.fin (cm []),Zb.nil⟩
 refine lv (v:=.bool a0.isNone) rfl rfl (Zif underlying38 rfl)<|.ld (d:=4) (v:=.bool false) (congrArg Value.bool ab)<|Zj<|Yc rfl<|go ?_;refine Zoq (col:=(Zg col)) (r:=rU) 1 rfl underlying38 Z2c rfl ?_;intro aj ak al ae af;refine Y8 rfl ?_;obtain ⟨ag,hm⟩:=Zx hm;refine Y9 af (h0.gr ae).srcC ag ?_;intro am an ao ap ah ai;refine go ?_;cases hm;replace aa:=(aa.grow ae).kpp ah;exact ⟨rfl,_,_,_,rfl,aa.fin (cm [(1,c1)]),aa.fo ai⟩
def Zl3 (aa:Int) (kk_L1:(List Int→Int→Int→Option R2)) (ab:List Int) (ac:Int):Option R2:=
  kk_L1 ab ac (i64.wrap (aa+1))
def Zg7 (ab:List Int) (aa:Int) (kk_L1:(List Int→Int→Int→Option R2)) (ac ad:Int):Option R2:=
  (Zi ab aa).bind fun ae=>(some (ab.set (aA aa) (u32.wrap (ae - (u32.wrap ac))))).bind fun af=>Zl3 aa kk_L1 af ad
def Zg6 (aa:List Int) (ab:Int) (kk_L1:(List Int→Int→Int→Option R2)) (ac:Int):Option R2:=
  (Zi aa ab).bind fun ad=>if (decide ((u64.wrap ad)<ac))=true then (Zg7 aa ab kk_L1 ac 1) else (Zg7 aa ab kk_L1 ac 0)
def Th (N:Nat) (ac ab:List Int):Nat→R2→Int→Int→Option R2
  | 0,_,_,_=>none
  | ae+1,ad,af,aa=>if (decide (aa<(ac.length:Int)))=true then (if (decide (aa<(ab.length:Int)))=true then ((Zi ab aa).bind fun ag=>Zg6 ad aa (Th N ac ab ae) (u64.wrap (af+(u64.wrap ag)))) else (Zg6 ad aa (Th N ac ab ae) af)) else (some ad)
def Zl2 (N:Nat) (aa ab:List Int):Option R2:=
  Th N aa ab N aa 0 0
theorem Zzy {N ae an:Nat} {a0 a1:Option Addr} {col:Zd} {w0:World} {ab ag r:R2} (qc0:Nat) (hm:Zl2 N ab ag=some r) (hd:Sy [qc0]=true) (h0:Zb rU 45 qc0 col w0 a0 ae ab) (h1:Sl rU col w0 a1 an ag):
    Calls prog 192 #[.slice a0 ab.length ae,.slice a1 ag.length an] w0 (fun e w'=>∃ col',e= .returned (.tuple #[])∧Z1 (pS [qc0]) col w0 col' w'∧Zb rU 45 qc0 col' w' a0 ae r∧r.length=ab.length):=by
 refine Zf4 (m:=40) (args:=[.slice a0 ab.length ae,.slice a1 ag.length an]) func192 rfl rfl rfl rfl ?_;rw [Zl2.eq_1] at hm;have aa:=St.startL (l:=[qc0]) rfl col w0;refine go ?_;refine Zt [1,8,1000000] (fun n f ao=>∃ ap ac aq ah af,af=n∧Th N ab ag af ac aq ah=some r∧St w0 (Xl [qc0] col) ap ao∧Zb rU 45 440 ap ao a0 ae ac∧ac.length=ab.length∧ac.length=ab.length∧[0,4,9].map f=[.slice a0 ac.length ae,.int .u64 aq,.int .i64 ah]) N ⟨_,_,0,0,_,rfl,hm,aa,h0.startL (Tu hd 0 rfl) (Tt hd 0 rfl),rfl,rfl,rfl⟩ ?_;clear hm;intro n f ao hI;obtain ⟨ap,ac,aq,ah,af,hn,hm,aa,ad,a8,a9,hs⟩:=hI;subst hn;refine .lL [0,4,9] hs ?_;replace h1:=h1.keep (X8.startL [qc0] col w0)
 cases af with
 | zero=>rw [Th.eq_1] at hm;cases hm
 | succ af=>
  rw [Th.eq_2] at hm;refine go ?_;refine Zl hm (fun hb hm=>?_) fun hb hm=>go ?_
  ·refine X7<|Zw ?_;refine Wp.cutK [1,8,9,1000000] (fun f ar=>∃ au ai av,Zl3 ah (Th N ab ag af) ai av=some r∧St w0 (Xl [qc0] col) au ar∧Zb rU 45 440 au ar a0 ae ai∧ai.length=ab.length∧ai.length=ab.length∧[0,4].map f=[.slice a0 ai.length ae,.int .u64 av]) ?_ ?_
   ·intro f ar hJ;obtain ⟨au,ai,av,hm,aa,ba,bb,bc,hs⟩:=hJ;rw [Zl3.eq_1] at hm;refine .lL [0,4] hs<|go ?_;exact ⟨af,by omega,rfl,⟨_,_,_,_,_,rfl,hm,aa,ba,bb,bc,rfl⟩⟩
   refine Zde<|Zw<|Wk<|Xe rfl<|Yz rfl<|Zj<|Zw<|Wk<|Xe rfl<|Yz rfl<|Zj<|Zw ?_;refine Wp.cutK [0,1,5,8,9,1000000] (fun f aw=>∃ ax aj,Zg6 ac ah (Th N ab ag af) aj=some r∧St w0 (Xl [qc0] col) ax aw∧Zb rU 45 440 ax aw a0 ae ac∧[6].map f=[.int .u64 aj]) ?_ ?_
   ·intro f aw hJ;obtain ⟨ax,aj,hm,aa,ad,hs⟩:=hJ;rw [Zg6.eq_1] at hm;refine .lL [6] hs<|Zw<|Wk<|Yz rfl<|Zj<|Zw ?_;refine Wp.cutK [0,1,5,6,8,9,1000000] (fun f ay=>∃ az a2,Zg7 ac ah (Th N ab ag af) aj a2=some r∧St w0 (Xl [qc0] col) az ay∧Zb rU 45 440 az ay a0 ae ac∧[4].map f=[.int .u64 a2]) ?_ ?_
    ·intro f ay hJ;obtain ⟨az,a2,hm,aa,ad,hs⟩:=hJ;rw [Zg7.eq_1] at hm;refine .lL [4] hs<|go ?_;obtain ⟨a5,ak,hm⟩:=bZ hm;refine lI ak (ad.addr ak)<|lW (ad.atInt ak) ?_;refine go ?_;refine lI ak (ad.addr ak) ?_;obtain ⟨al,am,hm⟩:=bZ hm;have am:al=ac.set (aA ah) (u32.wrap (a5 - (u32.wrap aj))):=(Option.some.inj am).symm;refine Yp (x1:=u32.wrap (a5 - (u32.wrap aj))) ad ak ?_;intro bf bd be a6;rw [← am] at a6;have a7:al.length=ab.length:=(show ac.length=al.length by rw [am,nS]).symm.trans a8;refine .ld (d:=0) (v:=(.slice a0 al.length ae)) (congrArg (fun n=>Value.slice a0 n ae) (show ac.length=al.length by rw [am,nS])) ?_;refine Zj ?_;replace aa:=aa.kp bd be;exact ⟨rfl,_,_,_,hm,aa,a6,a7,a7,rfl⟩
    refine go ?_;obtain ⟨bg,a3,hm⟩:=bZ hm;refine lI a3 (ad.addr a3)<|lW (ad.atInt a3) ?_;refine go ?_;refine Zl hm (fun hb hm=>go ?_) fun hb hm=>?_
    ·exact ⟨rfl,_,1,hm,aa,ad,rfl⟩
    refine X7 ?_;exact ⟨rfl,_,0,hm,aa,ad,rfl⟩
   refine go ?_;refine Zl hm (fun hb hm=>go ?_) fun hb hm=>?_
   ·obtain ⟨bh,a4,hm⟩:=bZ hm;refine lI a4 ((h1.ks aa).addr a4)<|lW ((h1.ks aa).atInt a4) ?_;refine go ?_;exact ⟨rfl,_,_,hm,aa,ad,rfl⟩
   refine X7 ?_;exact ⟨rfl,_,_,hm,aa,ad,rfl⟩
  cases hm;exact ⟨rfl,_,rfl,aa.finL rfl (cm [(440,qc0)]),aa.foL ad,a9⟩
def Ud (N:Nat) (ab:List Int):Option R2:=
  (Ue N ab).bind fun aa=>if (decide ((aa.length:Int)=0))=true then (some ([]:List Int)) else ((Zfk aa).bind fun ac=>some ac)
theorem Tq {N ac:Nat} {a0:Option Addr} {col:Zd} {w0:World} {ab r:R2} (c1:Nat) (hm:Ud N ab=some r) (h0:Sl rU col w0 a0 ac ab):
    Calls prog 160 #[.slice a0 ab.length ac] w0 (W2 .u32 45 c1 col w0 r):=by
 refine Z7 2 (m:=10) func160 rfl rfl rfl rfl rfl ?_;rw [Ud.eq_1] at hm;have aa:=St.start col w0;refine go ?_;obtain ⟨aj,ad,hm⟩:=bZ hm;refine Zh (Tr ad (h0.k0.ks aa)) ?_;rintro _ ak ⟨al,am,an,rfl,ae,af⟩;refine ⟨_,rfl,go ?_⟩;replace aa:=aa.grow ae;refine Zl hm (fun hb hm=>go ?_) fun hb hm=>go ?_
 ·cases hm;exact ⟨rfl,_,none,0,rfl,aa.fin (cm []),Zb.nil⟩
 obtain ⟨ao,ag,hm⟩:=bZ hm;refine Zh (Zn4 1 ag af) ?_;rintro _ ap ⟨aq,ar,au,rfl,ah,ai⟩;refine ⟨_,rfl,go ?_⟩;cases hm;replace aa:=aa.grow ah;exact ⟨rfl,_,_,_,rfl,aa.fin (cm [(1,c1)]),aa.fo ai⟩
def Zg3 (N:Nat) (aa ab:List Int):Option Rg:=
  (Zd5 N aa ab).bind fun ac=>if (decide (ac<0))=true then (some (([]:List Int),false)) else ((Ue N aa).bind fun ad=>(Zfk ad).bind fun ae=>(Ue N ab).bind fun af=>(Zl2 N ae af).bind fun ag=>(Ud N ag).bind fun ah=>some (ah,true))
theorem Zqq {N ah ai:Nat} {a0 a1:Option Addr} {col:Zd} {w0:World} {ab ac:R2} {r:Rg} (c1:Nat) (hm:Zg3 N ab ac=some r) (h0:Sl rU col w0 a0 ah ab) (h1:Sl rU col w0 a1 ai ac):
    Calls prog 163 #[.slice a0 ab.length ah,.slice a1 ac.length ai] w0 (fun e w'=>∃ col' ra1 rc2,e= .returned (.tuple #[.slice ra1 r.1.length rc2,.bool r.2])∧Zk col w0 col' w'∧Zb rU 45 c1 col' w' ra1 rc2 r.1):=by
 refine Zdk 4 5 (m:=20) (args:=[.slice a0 ab.length ah,.slice a1 ac.length ai]) func163 rfl rfl rfl rfl rfl ?_;rw [Zg3.eq_1] at hm;have aa:=St.start col w0;refine go ?_;obtain ⟨a9,aq,hm⟩:=bZ hm;replace h0:=h0.k0;replace h1:=h1.k0;refine Zh (Znv aq (h0.ks aa) (h1.ks aa)) fun _ ar ⟨e',aj⟩=>⟨_,e',?_⟩;replace aj:Zk (Zg col) w0 (Zg col) ar:=.of_below aj;refine go ?_;replace aa:=aa.grow aj;refine Zl hm (fun hb hm=>go ?_) fun hb hm=>go ?_
 ·cases hm;exact ⟨rfl,_,none,0,rfl,aa.fin (cm []),Zb.nil⟩
 obtain ⟨ba,au,hm⟩:=bZ hm;refine Zh (Tr au (h0.ks aa)) fun _ bb ⟨bc,bd,be,e',av,aw⟩=>⟨_,e',?_⟩;obtain ⟨an,ax,hm⟩:=bZ hm;refine Zh (Zn4 1 ax aw) ?_;rintro _ bf ⟨bg,ad,ae,rfl,ay,ak⟩;refine ⟨_,rfl,go ?_⟩;obtain ⟨bh,az,hm⟩:=bZ hm;replace aa:=(aa.grow av).grow ay;refine Zh (Tr az (h1.ks aa)) fun _ bi ⟨bj,bk,bm,e',ao,a2⟩=>⟨_,e',?_⟩;obtain ⟨af,a3,hm⟩:=bZ hm;refine Zh (Zzy 1 a3 rfl (ak.gr ao) a2) fun _ a4 ⟨al,e',a5,a6,ap⟩=>⟨_,e',?_⟩;refine .ld (d:=6) (v:=(.slice ad af.length ae)) (congrArg (fun n=>Value.slice ad n ae) (show an.length=af.length from ap.symm)) ?_;refine .ld (d:=14) (v:=(.slice ad af.length ae)) (congrArg (fun n=>Value.slice ad n ae) (show an.length=af.length from ap.symm)) ?_;refine go ?_;obtain ⟨bn,a7,hm⟩:=bZ hm;refine Zh (Tq 2 a7 (a6.toSlF (Zm.int .u32))) fun _ bo ⟨a8,bp,bq,e',ag,am⟩=>⟨_,e',?_⟩;replace am:=am.thaw (Z8 .u32) ag ((Fz.refl (col:=al)).froz 1);replace ag:=ag.thawR (col:=al);generalize Xb a4.heap.size al a8=br at *;refine go ?_;cases hm;replace aa:=((aa.grow ao).kpp a5).grow ag;exact ⟨rfl,_,_,_,rfl,aa.fin (cm [(2,c1)]),aa.fo am⟩
def Zlz (aa:Nat) (kk_L1:(Nat→R2→Int→Option R2)) (ab:List Int) (ac:Int):Option R2:=
  kk_L1 (aa+1) ab ac
def Zg1 (aa:Nat) (ab:List Int) (kk_L1:(Nat→R2→Int→Option R2)) (ac:Int):Option R2:=
  (Zi ab (aa:Int)).bind fun ae=>(some (ab.set (aA (aa:Int)) (u32.wrap ac))).bind fun ad=>Zlz aa kk_L1 ad (Yi .u64 ac 32)
def T8 (N:Nat) (ac ad:List Int):List Int→Nat→R2→Int→Option R2
  | [],aa,ab,ae=>(Zi ab (ac.length:Int)).bind fun ak=>(some (ab.set (aA (ac.length:Int)) (u32.wrap ae))).bind fun ah=>(Ud N ah).bind fun ai=>some ai
  | af :: ag,aa,ab,ae=>if (decide ((aa:Int)<(ad.length:Int)))=true then ((Zi ad (aa:Int)).bind fun aj=>Zg1 aa ab (T8 N ac ad ag) (u64.wrap ((u64.wrap (ae+(u64.wrap af)))+(u64.wrap aj)))) else (Zg1 aa ab (T8 N ac ad ag) (u64.wrap (ae+(u64.wrap af))))
def Zg0 (N:Nat) (aa ab:List Int):Option R2:=
  Zv ((aA (i64.wrap ((aa.length:Int)+1))) * 4≤281474976710656∧(aA (i64.wrap ((aa.length:Int)+1)))≤maxLen∧0≤(i64.wrap ((aa.length:Int)+1))) (T8 N aa ab aa 0 (aI (aA (i64.wrap ((aa.length:Int)+1))) (0:Int)) 0)
def Zjc (N:Nat) (ac ad:List Int):Option R2:=
  (Ue N ac).bind fun aa=>(Ue N ad).bind fun ab=>if (decide ((aa.length:Int)<(ab.length:Int)))=true then (Zg0 N ab aa) else (Zg0 N aa ab)
theorem Zzu {N bp bq:Nat} {a0 a1:Option Addr} {col:Zd} {w0:World} {a9 ba r:R2} (c1:Nat) (hm:Zjc N a9 ba=some r) (h0:Sl rU col w0 a0 bp a9) (h1:Sl rU col w0 a1 bq ba):
    Calls prog 162 #[.slice a0 a9.length bp,.slice a1 ba.length bq] w0 (W2 .u32 45 c1 col w0 r):=by
 refine Z7 4 (m:=62) func162 rfl rfl rfl rfl rfl ?_;rw [Zjc.eq_1] at hm;have aa:=St.start col w0;refine go ?_;obtain ⟨ca,bw,hm⟩:=bZ hm;refine Zh (Tr bw (h0.k0.ks aa)) fun _ cb ⟨cc,cd,ce,e',bx,a3⟩=>⟨_,e',?_⟩;refine Y8 rfl ?_;obtain ⟨cf,bz,hm⟩:=bZ hm;replace aa:=aa.grow bx;refine Zh (Tr bz (h1.k0.ks aa)) fun _ cg ⟨ch,ci,cj,e',br,bs⟩=>⟨_,e',?_⟩;refine Zbx rfl<|Zbx rfl<|Zj<|Zw ?_;replace a3:=a3.gr br;replace aa:=aa.grow br;refine Wp.cutK [1000000] (fun f aq=>∃ ar am an ab ao ap ae,Zg0 N ab ae=some r∧St w0 (Zg col) ar aq∧Sl rU ar aq am an ab∧Sl rU ar aq ao ap ae∧[0,1].map f=[.slice am ab.length an,.slice ao ae.length ap]) ?_ ?_
 ·intro f aq hJ;obtain ⟨ar,am,an,ab,ao,ap,ae,hm,aa,ac,ad,hs⟩:=hJ;rw [Zg0.eq_1] at hm;refine .lL [0,1] hs<|go ?_;obtain ⟨a4,hm⟩:=Zx hm;refine Ty (col:=ar) (w:=aq) (r:=rU) (n:=(aA (i64.wrap ((ab.length:Int)+1)))) (x0:=0) 1 rfl underlying38 Tryz.t45 rfl rfl rfl rfl rfl (congrArg (Value.int _) (bE a4.2.2).symm) (congrArg (Value.int _) (bE a4.2.2).symm) a4.1 a4.2.1 (Zag .u32 0) ?_;intro ck cl cn bb b0;refine go ?_;replace ac:=ac.gr bb;replace ad:=ad.gr bb;replace aa:=aa.grow bb;refine Zt [0,1,24,25,1000000] (fun n f au=>∃ ah ag ai aj af av aw,n=aw.length∧ab.drop ag=aw∧T8 N ab ae aw ag af av=some r∧St w0 (Zg col) ah au∧Sl rU ah au am an ab∧Sl rU ah au ao ap ae∧Zb rU 45 1 ah au ai aj af∧[26,5,6].map f=[.int .i64 ag,.slice ai af.length aj,.int .u64 av]) ab.length ⟨_,0,_,_,_,0,_,rfl,rfl,hm,aa,ac,ad,b0,rfl⟩ ?_;clear hm;intro n f au hI;obtain ⟨ah,ag,ai,aj,af,av,aw,hn,hl,hm,aa,ac,ad,ak,hs⟩:=hI;subst hn;refine .lL [26,5,6] hs ?_
  cases aw with
  | nil=>
   have hk:¬ ((ag:Int)<(ab.length:Int)):=by have:=aK.1 hl;omega
   have hkb:=decide_eq_false hk;rw [T8.eq_1] at hm;refine go ?_;refine Yc (congrArg Value.bool hkb)<|go ?_;obtain ⟨co,bc,hm⟩:=bZ hm;refine lI bc (ak.addr bc) ?_;obtain ⟨bd,a5,hm⟩:=bZ hm;have a5:bd=af.set (aA (ab.length:Int)) (u32.wrap av):=(Option.some.inj a5).symm;refine Yp (x1:=u32.wrap av) ak bc ?_;intro b1 b2 b3 bt;rw [← a5] at bt;refine .ld (d:=5) (v:=(.slice ai bd.length aj)) (congrArg (fun n=>Value.slice ai n aj) (show af.length=bd.length by rw [a5,nS])) ?_;refine go ?_;obtain ⟨cp,b4,hm⟩:=bZ hm;refine Zh (Tq 2 b4 (bt.toSlF (Zm.int .u32))) fun _ cq ⟨b5,cr,cs,e',a6,be⟩=>⟨_,e',?_⟩;replace be:=be.thaw (Z8 .u32) a6 ((Fz.refl (col:=ah)).froz 1);replace a6:=a6.thawR (col:=ah);generalize Xb b1.heap.size ah b5=ct at *;refine go ?_;cases hm;replace aa:=(aa.kp b2 b3).grow a6;exact ⟨rfl,_,_,_,rfl,aa.fin (cm [(2,c1)]),aa.fo be⟩
  | cons bu bf=>
   obtain ⟨bg,b6,b7⟩:=Ys hl;have hk:(ag:Int)<(ab.length:Int):=by omega
   have hkb:=decide_eq_true hk;rw [T8.eq_2] at hm;refine go ?_;refine Yd (congrArg Value.bool hkb)<|X7<|Zw ?_;refine Wp.cutK [0,1,24,25,26,1000000] (fun f ax=>∃ ay bh bi a7 bj,Zlz ag (T8 N ab ae bf) a7 bj=some r∧St w0 (Zg col) ay ax∧Sl rU ay ax am an ab∧Sl rU ay ax ao ap ae∧Zb rU 45 1 ay ax bh bi a7∧[5,6].map f=[.slice bh a7.length bi,.int .u64 bj]) ?_ ?_
   ·intro f ax hJ;obtain ⟨ay,bh,bi,a7,bj,hm,aa,ac,ad,b8,hs⟩:=hJ;rw [Zlz.eq_1] at hm;refine .lL [5,6] hs<|go ?_;exact ⟨bf.length,by simp,rfl,⟨_,_,_,_,_,_,_,rfl,b6,hm,aa,ac,ad,b8,(Yx (congrArg (Value.int .i64) (Yt (aJ b7 ac.1.1))) rfl)⟩⟩
   refine go ?_;refine lI bg (ac.addr bg)<|lW (ac.atInt bg)<|Yz rfl<|Yz rfl<|Zj<|Zw<|Wk<|Xe rfl<|Xe rfl<|lV (.int .u64 (u64.wrap bu)) (Zkk bu ⟨_,underlying45⟩ underlying144 rfl)<|lV _ (Ql _ _ rfl rfl)<|Yz rfl<|Zj<|Zw ?_;refine Wp.cutK [0,1,24,25,26,5,7,1000000] (fun f az=>∃ a2 al,Zg1 ag af (T8 N ab ae bf) al=some r∧St w0 (Zg col) a2 az∧Sl rU a2 az am an ab∧Sl rU a2 az ao ap ae∧Zb rU 45 1 a2 az ai aj af∧[6].map f=[.int .u64 al]) ?_ ?_
   ·intro f az hJ;obtain ⟨a2,al,hm,aa,ac,ad,ak,hs⟩:=hJ;rw [Zg1.eq_1] at hm;refine .lL [6] hs<|go ?_;obtain ⟨cu,bk,hm⟩:=bZ hm;refine lI bk (ak.addr bk) ?_;obtain ⟨bm,a8,hm⟩:=bZ hm;have a8:bm=af.set (aA (ag:Int)) (u32.wrap al):=(Option.some.inj a8).symm;refine Yp (x1:=u32.wrap al) ak bk ?_;intro cv bn b9 bv;rw [← a8] at bv;refine .ld (d:=5) (v:=(.slice ai bm.length aj)) (congrArg (fun n=>Value.slice ai n aj) (show af.length=bm.length by rw [a8,nS])) ?_;refine go ?_;refine lV (.int .u64 (Yi .u64 al 32)) (Sp al 32 rfl rfl (by decide))<|go ?_;replace ac:=ac.kp bn;replace ad:=ad.kp bn;replace aa:=aa.kp bn b9;exact ⟨rfl,_,_,_,_,_,hm,aa,ac,ad,bv,rfl⟩
   refine go ?_;refine Zl hm (fun hb hm=>go ?_) fun hb hm=>?_
   ·obtain ⟨cw,bo,hm⟩:=bZ hm;refine lI bo (ad.addr bo)<|lW (ad.atInt bo) ?_;refine go ?_;exact ⟨rfl,_,_,hm,aa,ac,ad,ak,rfl⟩
   refine X7 ?_;exact ⟨rfl,_,_,hm,aa,ac,ad,ak,rfl⟩
 refine go ?_;refine Zl hm (fun hb hm=>go ?_) fun hb hm=>?_
 ·exact ⟨rfl,_,_,_,_,_,_,_,hm,aa,bs,a3,rfl⟩
 refine X7 ?_;exact ⟨rfl,_,_,_,_,_,_,_,hm,aa,a3,bs,rfl⟩
def Zce (ae:List Int) (aa:Nat) (kk_L1:(Nat→R2→Option R2)) (af:Int):List Int→Nat→R2→Int→Option R2
  | [],ac,ab,ad=>(Zi ab (i64.wrap ((aa:Int)+(ae.length:Int)))).bind fun al=>(some (ab.set (aA (i64.wrap ((aa:Int)+(ae.length:Int)))) (u32.wrap ad))).bind fun ai=>kk_L1 (aa+1) ai
  | ag :: aj,ac,ab,ad=>(Zi ab (i64.wrap ((aa:Int)+(ac:Int)))).bind fun ah=>(some (ab.set (aA (i64.wrap ((aa:Int)+(ac:Int)))) (u32.wrap (u64.wrap (ad+(u64.wrap ((u64.wrap ((u64.wrap af) * (u64.wrap ag)))+(u64.wrap ah)))))))).bind fun ak=>(Zce ae aa kk_L1 af aj) (ac+1) ak (Yi .u64 (u64.wrap (ad+(u64.wrap ((u64.wrap ((u64.wrap af) * (u64.wrap ag)))+(u64.wrap ah))))) 32)
def Q2 (N:Nat) (aa:List Int):List Int→Nat→R2→Option R2
  | [],ac,ab=>(Ud N ab).bind fun ad=>some ad
  | ae :: af,ac,ab=>Zce aa ac (Q2 N aa af) ae aa 0 ab 0
def Zax (N:Nat) (ac ad:List Int):Option R2:=
  (Ue N ac).bind fun aa=>(Ue N ad).bind fun ab=>Zv ((aA (i64.wrap ((aa.length:Int)+(ab.length:Int)))) * 4≤281474976710656∧(aA (i64.wrap ((aa.length:Int)+(ab.length:Int))))≤maxLen∧0≤(i64.wrap ((aa.length:Int)+(ab.length:Int)))) (Q2 N ab aa 0 (aI (aA (i64.wrap ((aa.length:Int)+(ab.length:Int)))) (0:Int)))
theorem Zld {N bt bu:Nat} {a0 a1:Option Addr} {col:Zd} {w0:World} {be bf r:R2} (c1:Nat) (hm:Zax N be bf=some r) (h0:Sl rU col w0 a0 bt be) (h1:Sl rU col w0 a1 bu bf):
    Calls prog 120 #[.slice a0 be.length bt,.slice a1 bf.length bu] w0 (W2 .u32 45 c1 col w0 r):=by
 refine Z7 4 (m:=71) func120 rfl rfl rfl rfl rfl ?_;rw [Zax.eq_1] at hm;have aa:=St.start col w0;refine go ?_;obtain ⟨ae,b1,hm⟩:=bZ hm;refine Zh (Tr b1 (h0.k0.ks aa)) fun _ co ⟨cp,a4,a5,e',b2,ac⟩=>⟨_,e',?_⟩;refine Y8 rfl ?_;obtain ⟨ab,b3,hm⟩:=bZ hm;replace aa:=aa.grow b2;refine Zh (Tr b3 (h1.k0.ks aa)) ?_;rintro _ b4 ⟨b5,au,av,rfl,bv,ad⟩;refine ⟨_,rfl,go ?_⟩;obtain ⟨a6,hm⟩:=Zx hm;refine Ty (col:=b5) (w:=b4) (r:=rU) (n:=(aA (i64.wrap ((ae.length:Int)+(ab.length:Int))))) (x0:=0) 1 rfl underlying38 Tryz.t45 rfl rfl rfl rfl rfl (congrArg (Value.int _) (bE a6.2.2).symm) (congrArg (Value.int _) (bE a6.2.2).symm) a6.1 a6.2.1 (Zag .u32 0) ?_;intro b6 cq b7 bg b8;refine go ?_;replace ac:=(ac.gr bv).gr bg;replace aa:=(aa.grow bv).grow bg;replace ad:=ad.gr bg;refine Zp5 (fun n f ap=>∃ (ah:Zd) (af:Nat) (a7:Option Addr) (a8:Nat) (aw:List Int) (ax:List Int),n=ax.length∧ae.drop af=ax∧Q2 N ab ax af aw=some r∧St w0 (Zg col) ah ap∧Sl rU ah ap au av ab∧Sl rU ah ap a4 a5 ae∧Zb rU 45 1 ah ap a7 a8 aw∧f 23=(.int .i64 af)∧f 1=(.slice au ab.length av)∧f 21=(.slice a4 ae.length a5)∧f 22=(.int .i64 ae.length)∧f 5=(.slice a7 aw.length a8)∧f 1000000=(enc [])) ae.length ⟨b7,0,b6,(aA (i64.wrap ((ae.length:Int)+(ab.length:Int)))),(aI (aA (i64.wrap ((ae.length:Int)+(ab.length:Int)))) (0:Int)),ae,rfl,rfl,hm,aa,ad,ac,b8,rfl,rfl,rfl,rfl,rfl,rfl⟩ ?_;clear hm;intro n f ap hI;obtain ⟨ah,af,a7,a8,aw,ax,hn,hl,hm,aa,ad,ac,bw,bh,bi,bj,bk,bm,bn⟩:=hI;subst hn;refine .lD 23 bh<|.lD 1 bi<|.lD 21 bj<|.lD 22 bk<|.lD 5 bm<|.lD 1000000 bn ?_
 cases ax with
 | nil=>
  have hk:¬ ((af:Int)<(ae.length:Int)):=by have:=aK.1 hl;omega
  have hkb:=decide_eq_false hk;rw [Q2.eq_1] at hm;refine go ?_;refine Yc (congrArg Value.bool hkb)<|go ?_;obtain ⟨cr,b9,hm⟩:=bZ hm;refine Zh (Tq 2 b9 (bw.toSlF (Zm.int .u32))) fun _ cs ⟨ca,ct,cu,e',a9,bo⟩=>⟨_,e',?_⟩;replace bo:=bo.thaw (Z8 .u32) a9 ((Fz.refl (col:=ah)).froz 1);replace a9:=a9.thawR (col:=ah);generalize Xb ap.heap.size ah ca=cv at *;refine go ?_;cases hm;replace aa:=aa.grow a9;exact ⟨rfl,_,_,_,rfl,aa.fin (cm [(2,c1)]),aa.fo bo⟩
 | cons am bp=>
  obtain ⟨an,cb,cc⟩:=Ys hl;have hk:(af:Int)<(ae.length:Int):=by omega
  have hkb:=decide_eq_true hk;rw [Q2.eq_2] at hm;refine go ?_;refine Yd (congrArg Value.bool hkb)<|go ?_;refine lI an (ac.addr an)<|lW (ac.atInt an) ?_;refine go ?_;refine Zp5 (fun n f ay=>∃ (ao:Zd) (ak:Nat) (ai:Option Addr) (aj:Nat) (al:List Int) (ag:Int) (az:List Int),n=az.length∧ab.drop ak=az∧Zce ab af (Q2 N ab bp) am az ak al ag=some r∧St w0 (Zg col) ao ay∧Sl rU ao ay au av ab∧Sl rU ao ay a4 a5 ae∧Zb rU 45 1 ao ay ai aj al∧f 30=(.int .i64 ak)∧f 1=(.slice au ab.length av)∧f 21=(.slice a4 ae.length a5)∧f 22=(.int .i64 ae.length)∧f 23=(.int .i64 af)∧f 28=(.slice au ab.length av)∧f 29=(.int .i64 ab.length)∧f 5=(.slice ai al.length aj)∧f 6=(.int .i64 af)∧f 7=(.int .u32 am)∧f 8=(.int .u64 ag)∧f 1000000=(enc [])) ab.length ⟨ah,0,a7,a8,aw,0,ab,rfl,rfl,hm,aa,ad,ac,bw,rfl,rfl,rfl,rfl,rfl,rfl,rfl,rfl,rfl,rfl,rfl,rfl⟩ ?_;clear hm;intro n f ay hI;obtain ⟨ao,ak,ai,aj,al,ag,az,hn,hl,hm,aa,ad,ac,aq,cd,bi,bj,bk,bh,ce,cf,bm,cg,ch,ci,bn⟩:=hI;subst hn;refine .lD 30 cd<|.lD 1 bi<|.lD 21 bj<|.lD 22 bk<|.lD 23 bh<|.lD 28 ce<|.lD 29 cf<|.lD 5 bm<|.lD 6 cg<|.lD 7 ch<|.lD 8 ci<|.lD 1000000 bn ?_
  cases az with
  | nil=>
   have hk:¬ ((ak:Int)<(ab.length:Int)):=by have:=aK.1 hl;omega
   have hkb:=decide_eq_false hk;rw [Zce.eq_1] at hm;refine go ?_;refine Yc (congrArg Value.bool hkb)<|go ?_;obtain ⟨cw,bq,hm⟩:=bZ hm;refine lI bq (aq.addr bq) ?_;obtain ⟨ba,bb,hm⟩:=bZ hm;have bb:ba=al.set (aA (i64.wrap ((af:Int)+(ab.length:Int)))) (u32.wrap ag):=(Option.some.inj bb).symm;refine Yp (x1:=u32.wrap ag) aq bq ?_;intro cx br cj bx;rw [← bb] at bx;refine .ld (d:=5) (v:=(.slice ai ba.length aj)) (congrArg (fun n=>Value.slice ai n aj) (show al.length=ba.length by rw [bb,nS])) ?_;refine go ?_;replace ad:=ad.kp br;replace ac:=ac.kp br;replace aa:=aa.kp br cj;exact ⟨bp.length,by simp,⟨ao,(af+1),ai,aj,ba,bp,rfl,cb,hm,aa,ad,ac,bx,(congrArg (Value.int .i64) (Yt (aJ cc ac.1.1))),rfl,rfl,rfl,rfl,rfl⟩⟩
  | cons a2 bz=>
   obtain ⟨an,ck,cl⟩:=Ys hl;have hk:(ak:Int)<(ab.length:Int):=by omega
   have hkb:=decide_eq_true hk;rw [Zce.eq_2] at hm;refine go ?_;refine Yd (congrArg Value.bool hkb)<|go ?_;refine lI an (ad.addr an)<|lW (ad.atInt an) ?_;refine go ?_;obtain ⟨a3,ar,hm⟩:=bZ hm;refine lI ar (aq.addr ar)<|lW (aq.atInt ar) ?_;refine go ?_;refine lI ar (aq.addr ar) ?_;obtain ⟨bc,bd,hm⟩:=bZ hm;have bd:bc=al.set (aA (i64.wrap ((af:Int)+(ak:Int)))) (u32.wrap (u64.wrap (ag+(u64.wrap ((u64.wrap ((u64.wrap am) * (u64.wrap a2)))+(u64.wrap a3)))))):=(Option.some.inj bd).symm;refine Yp (x1:=u32.wrap (u64.wrap (ag+(u64.wrap ((u64.wrap ((u64.wrap am) * (u64.wrap a2)))+(u64.wrap a3)))))) aq ar ?_;intro cy bs cn b0;rw [← bd] at b0;refine .ld (d:=5) (v:=(.slice ai bc.length aj)) (congrArg (fun n=>Value.slice ai n aj) (show al.length=bc.length by rw [bd,nS])) ?_;refine go ?_;refine lV (.int .u64 (Yi .u64 (u64.wrap (ag+(u64.wrap ((u64.wrap ((u64.wrap am) * (u64.wrap a2)))+(u64.wrap a3))))) 32)) (Sp (u64.wrap (ag+(u64.wrap ((u64.wrap ((u64.wrap am) * (u64.wrap a2)))+(u64.wrap a3))))) 32 rfl rfl (by decide))<|go ?_;replace ad:=ad.kp bs;exact ⟨bz.length,by simp,⟨ao,(ak+1),ai,aj,bc,(Yi .u64 (u64.wrap (ag+(u64.wrap ((u64.wrap ((u64.wrap am) * (u64.wrap a2)))+(u64.wrap a3))))) 32),bz,rfl,ck,hm,aa.kp bs cn,ad,ac.kp bs,b0,(congrArg (Value.int .i64) (Yt (aJ cl ad.1.1))),rfl,rfl,rfl,rfl,rfl,rfl,rfl,rfl,rfl,rfl,rfl⟩⟩
def Zay (N:Nat) (aa:Int):Option R2:=
  (Ud N [u32.wrap aa,u32.wrap (Yi .u64 aa 32)]).bind fun ab=>some ab
theorem Ziu {N:Nat} {col:Zd} {w0:World} {aa:Int} {r:R2} (c1:Nat) (hm:Zay N aa=some r):
    Calls prog 130 #[.int .u64 aa] w0 (W2 .u32 45 c1 col w0 r):=by
 refine Z7 2 (m:=10) func130 rfl rfl rfl rfl rfl ?_;rw [Zay.eq_1] at hm;have ab:=St.start col w0;refine go ?_;refine lV (.int .u64 (Yi .u64 aa 32)) (Sp aa 32 rfl rfl (by decide))<|go ?_;refine Wt (col:=(Zg col)) [u32.wrap aa,u32.wrap (Yi .u64 aa 32)] 1 ?_;intro ak af ad ag ah;obtain ⟨al,ai,hm⟩:=bZ hm;refine Zh (Tq 2 ai (ah.toSlF (Zm.int .u32))) fun _ am ⟨aj,an,ao,e',ac,ae⟩=>⟨_,e',?_⟩;replace ae:=ae.thaw (Z8 .u32) ac ((Fz.refl (col:=ad)).froz 1);replace ac:=ac.thawR (col:=ad);generalize Xb af.heap.size ad aj=ap at *;refine go ?_;cases hm;replace ab:=(ab.grow ag).grow ac;exact ⟨rfl,_,_,_,rfl,ab.fin (cm [(2,c1)]),ab.fo ae⟩
def Zd9 (N:Nat) (aa:List Int):Option R2:=
  (Ud N aa).bind fun ab=>some ab
theorem Znx {N ac:Nat} {a0:Option Addr} {col:Zd} {w0:World} {ab r:R2} (c1:Nat) (hm:Zd9 N ab=some r) (h0:Sl rU col w0 a0 ac ab):
    Calls prog 139 #[.slice a0 ab.length ac] w0 (W2 .u32 45 c1 col w0 r):=by
 refine Z7 2 (m:=5) func139 rfl rfl rfl rfl rfl ?_;rw [Zd9.eq_1] at hm;have aa:=St.start col w0;refine go ?_;obtain ⟨ag,ad,hm⟩:=bZ hm;refine Zh (Tq 1 ad (h0.k0.ks aa)) ?_;rintro _ ah ⟨ai,aj,ak,rfl,ae,af⟩;refine ⟨_,rfl,go ?_⟩;cases hm;replace aa:=aa.grow ae;exact ⟨rfl,_,_,_,rfl,aa.fin (cm [(1,c1)]),aa.fo af⟩
theorem Zne (N:Nat):∀ (n:Nat) (a:List Int),Zn a→a.length<n→a.length<4611686018427387904→Ti N n a=some (Zf (Zc a))
 | 0,a,_,h,_=>by omega
 | n+1,a,h,f,g=>by
  rw [Ti.eq_2]
  by_cases h0:0<a.length
  ·have e:(a.length:Int) - 1=((a.length - 1:Nat):Int):=by omega
   rw [if_pos (by simpa using h0),Zp (by omega),e,Zs (by omega),oB,Za0,Zp (by omega),e]
   by_cases hx:a[a.length - 1]=0
   ·rw [if_pos (by simpa using hx),Zz (by omega),aB,Zne N n _ (h.take _) (by rw [nK];omega) (by rw [nK];omega)]
    conv=>rhs;rw [← Zf8 h0,hx,Zun]
   ·rw [if_neg (by simpa using hx)]
    have b:=Zf8 h0
    have c:=Z3i (a:=a.take (a.length - 1)) (x:=a[a.length - 1]) (by rw [b];exact h) hx
    rw [b] at c
    rw [c]
  ·have d:a=[]:=bY (by omega)
   subst d
   rw [if_neg (by simp),Za0,if_neg (by decide),Yg,Wv]
theorem Sr {N:Nat} {a:List Int} (h:Zn a) (hn:a.length<N) (hb:a.length≤35184372088000):Ue N a=some (Zf (Zc a)):=by
 rw [Ue];exact Zne N N a h hn (by omega)
theorem Zn9 {a:List Int} (hb:a.length≤35184372088832):Zfk a=some a:=by
 rw [Zfk,Zz (by simp only [nN,maxLen];omega),bO]
theorem Sk {N:Nat} {a:List Int} (h:Zn a) (hn:a.length<N) (hb:a.length≤35184372088000):Ud N a=some (Zf (Zc a)):=by
 rw [Ud,Sr h hn hb,oB]
 have b:=X9 h
 by_cases h0:Zf (Zc a)=[]
 ·rw [h0,if_pos (by decide)]
 ·have:0<(Zf (Zc a)).length:=bV.2 h0
  rw [if_neg (by simp;exact h0),Zn9 (by omega),oB]
theorem Zo5 {N:Nat} {a:List Int} (h:Zn a) (hn:a.length<N) (hb:a.length≤35184372088000):Zd9 N a=some (Zf (Zc a)):=by
 rw [Zd9,Sk h hn hb,oB]
theorem Zkg {N:Nat} {u:Int} (h:0≤u∧u<18446744073709551616) (hn:2<N):Zay N u=some (Zf u.toNat):=by
 have e:Zc [u32.wrap u,u32.wrap (Yi .u64 u 32)]=u.toNat:=by
  rw [Zft,Y3,Y3,Yg,IntKind.wrap_u32,IntKind.wrap_u32];omega
 have a:Zn [u32.wrap u,u32.wrap (Yi .u64 u 32)]:=by
  rw [Zft,IntKind.wrap_u32,IntKind.wrap_u32]
  exact .cons (by omega) (.cons (by omega) .nil)
 rw [Zay,Sk a (by simpa using hn) (by simp),oB,e]
theorem Zrl (N:Nat) (a b:List Int) (ha:Zn a) (hb:Zn b) (hl:a.length=b.length) (hs:a.length<4611686018427387904):∀ (n i:Nat),i≤a.length→i<n→a.drop i=b.drop i→Zd6 N a b n ((i:Int) - 1)=some (if Zc a<Zc b then -1 else if Zc b<Zc a then 1 else 0)
 | 0,i,_,h,_=>by omega
 | n+1,i,q,r,c=>by
  rw [Zd6.eq_2]
  by_cases h0:i=0
  ·subst h0
   rw [if_neg (by decide)]
   rw [aX,aX] at c
   subst c
   rw [if_neg (by omega),if_neg (by omega)]
  ·have e:(i:Int) - 1=((i - 1:Nat):Int):=by omega
   have d:i - 1<a.length:=by omega
   have f:i - 1<b.length:=by omega
   have j:i - 1+1=i:=by omega
   rw [if_pos (by simp;omega),e,Zs d,oB,Zs f,oB]
   have s:=ha.get d
   have t:=hb.get f
   have k:=Ut a (i - 1)
   have l:=Ut b (i - 1)
   rw [V1 d,j] at k
   rw [V1 f,j,← c] at l
   have m:=Sj (ha.take (i - 1))
   have o:=Sj (hb.take (i - 1))
   rw [nK,aR (by omega)] at m o
   have g:∀ x y:Nat,x<y→4294967296 ^ (i - 1) * (x+4294967296 * Zc (a.drop i))+4294967296 ^ (i - 1)≤4294967296 ^ (i - 1) * (y+4294967296 * Zc (a.drop i)):=fun x y p=>by
    rw [← Nat.mul_succ];exact aS _ (by omega)
   by_cases hlt:a[i - 1]<b[i - 1]
   ·have:=g _ _ (show (a[i - 1]).toNat<(b[i - 1]).toNat by omega)
    rw [if_pos (by simpa using hlt),if_pos (by omega)]
   ·rw [if_neg (by simpa using hlt)]
    by_cases hgt:b[i - 1]<a[i - 1]
    ·have:=g _ _ (show (b[i - 1]).toNat<(a[i - 1]).toNat by omega)
     rw [if_pos (by simpa using hgt),if_neg (by omega),if_pos (by omega)]
    ·rw [if_neg (by simpa using hgt),Zp (by omega)]
     have:=Zrl N a b ha hb hl hs n (i - 1) (by omega) (by omega) (by
      rw [aL d,aL f,j,c]
      congr 1;omega)
     exact this
theorem Ztv {m n:Nat} (h:(Zf m).length<(Zf n).length):m<n:=by
 have a:=Wu (k:=(Zf m).length) (n:=m)
 have b:=Wu (k:=(Zf m).length) (n:=n)
 have:=a.1 (bB _)
 have d:¬ n<4294967296 ^ (Zf m).length:=fun c=>by have:=b.2 c;omega
 omega
theorem Zob {N:Nat} {a b:List Int} (ha:Zn a) (hb:Zn b) (h1:a.length<N) (h2:b.length<N) (h3:a.length≤35184372088000) (h4:b.length≤35184372088000):
  Zd5 N a b=some (if Zc a<Zc b then -1 else if Zc b<Zc a then 1 else 0):=by
 have c:=X9 ha
 have d:=X9 hb
 rw [Zd5,Sr ha h1 h3,oB,Sr hb h2 h4,oB]
 by_cases he:(Zf (Zc a)).length=(Zf (Zc b)).length
 ·rw [if_neg (by simp [he]),Zp (by omega)]
  have:=Zrl N (Zf (Zc a)) (Zf (Zc b)) (Z2 _) (Z2 _) he (by omega) N (Zf (Zc a)).length (bB _) (by omega) (by
   rw [aF (bB _),aF (by omega)])
  rw [this,Z3,Z3]
 ·rw [if_pos (by simp;omega)]
  by_cases hlt:(Zf (Zc a)).length<(Zf (Zc b)).length
  ·rw [if_pos (by simpa using hlt),if_pos (Ztv hlt)]
  ·have:=Ztv (m:=Zc b) (n:=Zc a) (by omega)
   rw [if_neg (by simpa using hlt),if_neg (by omega),if_pos this]
def Xq (b:List Int) (k:Nat):Nat:=(b.getD k 0).toNat
theorem Uh (b:List Int) (k:Nat):Zc (b.drop k)=Xq b k+4294967296 * Zc (b.drop (k+1)):=by
 by_cases h:k<b.length
 ·rw [V1 h,Xq,aE,aG h,cT]
 ·rw [aF (by omega),aF (by omega),Xq,aE,cO (by omega)];rfl
theorem Zdn {b:List Int} (h:Zn b) (k:Nat):Xq b k<4294967296:=by
 rw [Xq,aE]
 by_cases hk:k<b.length
 ·have:=h.get hk
  rw [aG hk,cT];omega
 ·rw [cO (by omega)];decide
theorem drop_zero {l:List Int} {k:Nat} (h:Zn l) (hk:k<l.length) (h0:Zc (l.drop k)=0):l[k]=0∧Zc (l.drop (k+1))=0:=by
 have:=h.get hk
 rw [V1 hk] at h0
 omega
theorem Sx {l:List Int} {k j:Nat} (v:Int) (h:k<j):(l.set k v).drop j=l.drop j:=by
 rw [List.drop_set,if_pos h]
theorem Zyu (S S' Q c x y v c' L D:Nat) (h1:S'=S+Q * v) (h2:c+x+y=v+4294967296 * c'):S'+Q * 4294967296 * (c'+L+D)=S+Q * (c+(x+4294967296 * L)+(y+4294967296 * D)):=by
 subst h1
 have:Q * (c+x+y)=Q * (v+4294967296 * c'):=by rw [h2]
 grind
theorem Zqc (N:Nat) (a b:List Int) (ha:Zn a) (hb:Zn b) (hab:b.length≤a.length) (hN:a.length+1<N) (hs:a.length<35184372088000):∀ (l:List Int) (k:Nat) (sum:List Int) (c:Int),Zn l→a.length=k+l.length→sum.length=a.length+1→Zn sum→Zc (sum.drop k)=0→0≤c∧c≤1→
  T8 N a b l k sum c=some (Zf (Zc sum+4294967296 ^ k * (c.toNat+Zc l+Zc (b.drop k))))
 | [],k,sum,c,_,j,n,d,m,t=>by
  have o:k=a.length:=by simpa using j.symm
  subst o
  rw [T8.eq_1,Zs (by omega),oB,oB,aB,Vv (by omega),
   Sk (d.set _ (by omega)) (by rw [nS];omega) (by rw [nS];omega),oB]
  have f:=Us (l:=sum) (k:=a.length) (by omega) c
  have u:=(drop_zero d (by omega) m).1
  rw [u] at f
  rw [Yg,aF (by omega),Yg]
  have v:Zc (sum.set a.length c)=Zc sum+4294967296 ^ a.length * c.toNat:=by simpa using f
  rw [v];rfl
 | x :: l,k,sum,c,p,j,n,d,m,t=>by
  have q:a.length=k+1+l.length:=by rw [j,nC];omega
  have A:=p.head
  have g:=drop_zero d (by omega) m
  have B:=Zdn hb k
  have r:sum[k]'(by omega)=0:=g.1
  -- the sum of one place
  have step:∀ s:Int,s=c+x+(Xq b k:Int)→Zg1 k sum (T8 N a b l) s=some (Zf (Zc sum+4294967296 ^ k * (c.toNat+Zc (x :: l)+Zc (b.drop k)))):=fun s y=>by
   rw [Zg1,Zs (by omega),oB,oB,Zlz,aB,Zft]
   have w:0≤u32.wrap s∧u32.wrap s<4294967296:=by rw [IntKind.wrap_u32];omega
   rw [Zqc N a b ha hb hab hN hs l (k+1) _ _ p.tail q (by rw [nS];exact n) (d.set _ w) (by rw [Sx _ (by omega)];exact g.2) (by omega)]
   have f:=Us (l:=sum) (k:=k) (by omega) (u32.wrap s)
   rw [r] at f
   rw [aY,Y3,Uh b k]
   congr 2
   exact Zyu _ _ _ _ _ _ (u32.wrap s).toNat _ _ _ (by simpa using f) (by rw [IntKind.wrap_u32];omega)
  rw [T8.eq_2]
  have i:u64.wrap (c+u64.wrap x)=c+x:=by rw [Xi (x:=x) (by omega),Xi (by omega)]
  by_cases hkb:k<b.length
  ·have e:Xq b k=(b[k]).toNat:=by rw [Xq,aE,aG hkb,cT]
   have:=hb.get hkb
   rw [if_pos (by simpa using hkb),Zs hkb,oB,i,Xi (x:=b[k]) (by omega),Xi (by omega)]
   exact step _ (by omega)
  ·have e:Xq b k=0:=by rw [Xq,aE,cO (by omega)];rfl
   rw [if_neg (by simpa using hkb),i]
   exact step _ (by omega)
theorem Zqb {N:Nat} {a b:List Int} (ha:Zn a) (hb:Zn b) (hab:b.length≤a.length) (hN:a.length+1<N) (hs:a.length<35184372088000):Zg0 N a b=some (Zf (Zc a+Zc b)):=by
 rw [Zg0,Zp (by omega),Zz (by simp only [maxLen];omega),Zqc N a b ha hb hab hN hs a 0 _ 0 ha (by omega) (by rw [aQ];omega) (.zeros _) (by rw [aX];exact U5 _) (by omega),U5,aX]
 simp
theorem Zyv {N:Nat} {a b:List Int} (ha:Zn a) (hb:Zn b) (h1:a.length+1<N) (h2:b.length+1<N) (h3:a.length<35184372088000) (h4:b.length<35184372088000):Zjc N a b=some (Zf (Zc a+Zc b)):=by
 have c:=X9 ha
 have d:=X9 hb
 rw [Zjc,Sr ha (by omega) (by omega),oB,Sr hb (by omega) (by omega),oB]
 by_cases h:(Zf (Zc a)).length<(Zf (Zc b)).length
 ·rw [if_pos (by simpa using h),Zqb (Z2 _) (Z2 _) (by omega) (by omega) (by omega),Z3,Z3,jM]
 ·rw [if_neg (by simpa using h),Zqb (Z2 _) (Z2 _) (by omega) (by omega) (by omega),Z3,Z3]
theorem Ztp (N:Nat) (a b:List Int) (ha:Zn a) (hb:Zn b) (hs:a.length<35184372088000):∀ (n k:Nat) (r:List Int) (c:Int),k≤a.length→a.length<n+k→r.length=a.length→Zn r→0≤c∧c≤1→r.drop k=a.drop k→
  4294967296 ^ k * (c.toNat+Zc (b.drop k))≤4294967296 ^ k * Zc (a.drop k)→
  ∃ r',Th N a b n r c (k:Int)=some r'∧r'.length=a.length∧Zn r'∧Zc r'+4294967296 ^ k * (c.toNat+Zc (b.drop k))=Zc r
 | 0,k,r,c,s,u,_,_,_,_,_=>by omega
 | n+1,k,r,c,s,u,i,j,E,m,o=>by
  have v:0<4294967296 ^ k:=eO (by decide)
  have f:c.toNat+Zc (b.drop k)≤Zc (a.drop k):=Nat.le_of_mul_le_mul_left o v
  rw [Th.eq_2]
  by_cases h0:k<a.length
  ·have F:=ha.get h0
   have g:r[k]'(by omega)=a[k]:=by
    have:(r.drop k)[0]'(by simp;omega)=(a.drop k)[0]'(by simp;omega):=by simp only [m]
    simpa using this
   have G:=Zdn hb k
   rw [Uh b k,V1 h0] at f
   have step:∀ t:Int,t=c+(Xq b k:Int)→∃ r',Zg6 r (k:Int) (Th N a b n) t=some r'∧r'.length=a.length∧Zn r'∧Zc r'+4294967296 ^ k * (c.toNat+Zc (b.drop k))=Zc r:=fun t H=>by
    have w:0≤u32.wrap (a[k] - u32.wrap t)∧u32.wrap (a[k] - u32.wrap t)<4294967296:=by rw [IntKind.wrap_u32];omega
    have fin:∀ d:Int,0≤d∧d≤1→a[k]+4294967296 * d=t+u32.wrap (a[k] - u32.wrap t)→∃ r',Zg7 r (k:Int) (Th N a b n) t d=some r'∧r'.length=a.length∧Zn r'∧Zc r'+4294967296 ^ k * (c.toNat+Zc (b.drop k))=Zc r:=fun d p I=>by
     rw [Zg7,Zs (by omega),oB,oB,Zl3,g,Zp (by omega),aB]
     obtain ⟨r',q1,y,A,B⟩:=Ztp N a b ha hb hs n (k+1) (r.set k (u32.wrap (a[k] - u32.wrap t))) d (by omega) (by omega) (by rw [nS];exact i) (j.set _ w) p (by
      rw [Sx _ (by omega)]
      have:=congrArg (List.drop 1) m
      simpa [eJ,jM] using this) (aS _ (by omega))
     refine ⟨r',q1,y,A,?_⟩
     have C:=Us (l:=r) (k:=k) (by omega) (u32.wrap (a[k] - u32.wrap t))
     rw [g] at C
     rw [Uh b k]
     rw [aY] at B
     have q:(a[k]).toNat+4294967296 * d.toNat=c.toNat+Xq b k+(u32.wrap (a[k] - u32.wrap t)).toNat:=by omega
     have D:4294967296 ^ k * ((a[k]).toNat+4294967296 * d.toNat)=4294967296 ^ k * (c.toNat+Xq b k+(u32.wrap (a[k] - u32.wrap t)).toNat):=by rw [q]
     grind
    rw [Zg6,Zs (by omega),oB,g,Xi (x:=a[k]) (by omega)]
    by_cases hlt:a[k]<t
    ·rw [if_pos (by simpa using hlt)]
     exact fin 1 (by omega) (by rw [IntKind.wrap_u32,IntKind.wrap_u32];omega)
    ·rw [if_neg (by simpa using hlt)]
     exact fin 0 (by omega) (by rw [IntKind.wrap_u32,IntKind.wrap_u32];omega)
   rw [if_pos (by simpa using h0)]
   by_cases hkb:k<b.length
   ·have e:Xq b k=(b[k]).toNat:=by rw [Xq,aE,aG hkb,cT]
    have:=hb.get hkb
    rw [if_pos (by simpa using hkb),Zs hkb,oB,Xi (x:=b[k]) (by omega),Xi (by omega)]
    exact step _ (by omega)
   ·have e:Xq b k=0:=by rw [Xq,aE,cO (by omega)];rfl
    rw [if_neg (by simpa using hkb)]
    exact step _ (by omega)
  ·rw [if_neg (by simpa using h0)]
   rw [aF (show a.length≤k by omega),Yg] at f
   exact ⟨r,rfl,i,j,by rw [show c.toNat+Zc (b.drop k)=0 by omega];simp⟩
theorem Zx5 {N:Nat} {a b:List Int} (ha:Zn a) (hb:Zn b) (h1:a.length+1<N) (h2:b.length+1<N) (h3:a.length<35184372088000) (h4:b.length<35184372088000):
  Zg3 N a b=some (if Zc a<Zc b then ([],false) else (Zf (Zc a - Zc b),true)):=by
 have e:=X9 ha
 have f:=X9 hb
 rw [Zg3,Zob ha hb (by omega) (by omega) (by omega) (by omega),oB]
 by_cases h:Zc a<Zc b
 ·rw [if_pos h,if_pos (by decide),if_pos h]
 ·rw [if_neg h,if_neg (by split <;> decide),if_neg h,Sr ha (by omega) (by omega),oB,Zn9 (by omega),oB,Sr hb (by omega) (by omega),oB,Zl2]
  obtain ⟨g,q1,i,c,d⟩:=Ztp N (Zf (Zc a)) (Zf (Zc b)) (Z2 _) (Z2 _) (by omega) N 0 (Zf (Zc a)) 0 (by omega) (by omega) rfl (Z2 _) (by omega) rfl (by simp [Z3];omega)
  rw [show ((0:Nat):Int)=0 from rfl] at q1
  rw [q1,oB,Sk c (by omega) (by omega),oB]
  simp [Z3] at d
  congr 3
  omega
theorem Zuf (P P' Q c x y e v c' L:Nat) (h1:P'+Q * e=P+Q * v) (h2:c+(x * y+e)=v+4294967296 * c'):P'+Q * 4294967296 * (c'+x * L)=P+Q * (c+x * (y+4294967296 * L)):=by
 have:Q * (c+(x * y+e))=Q * (v+4294967296 * c'):=by rw [h2]
 grind
theorem Zue (b:List Int) (hb:Zn b) (i:Nat) (kk:Nat→List Int→Option R2) (x:Int) (hx:0≤x∧x<4294967296):∀ (l:List Int) (j:Nat) (p:List Int) (c:Int),Zn l→j+l.length=b.length→i+b.length<p.length→p.length<4611686018427387904→Zn p→0≤c∧c<4294967296→Zc (p.drop (i+b.length))=0→
  ∃ p',Zce b i kk x l j p c=kk (i+1) p'∧p'.length=p.length∧Zn p'∧Zc p'=Zc p+4294967296 ^ (i+j) * (c.toNat+x.toNat * Zc l)∧Zc (p'.drop (i+b.length+1))=0
 | [],j,p,c,_,g,a,n,d,k,m=>by
  have o:j=b.length:=by simpa using g
  subst o
  have f:=drop_zero d a m
  rw [Zce.eq_1,Zp (by omega),show (i:Int)+(b.length:Int)=((i+b.length:Nat):Int) by omega,Zs a,oB,oB,aB,Vv k]
  refine ⟨_,rfl,by rw [nS],d.set _ k,?_,?_⟩
  ·have q:=Us a c
   rw [f.1] at q
   rw [Yg,dB,bQ]
   simpa using q
  ·rw [Sx _ (by omega)];exact f.2
 | y :: l,j,p,c,r,g,a,n,d,k,m=>by
  have t:=r.head
  have u:j+1+l.length=b.length:=by rw [← g,nC];omega
  have e:i+j<p.length:=by omega
  have E:=d.get e
  have F:x * y≤4294967295 * 4294967295:=jB (by omega) (by omega) (by omega) (by omega)
  have D:0≤x * y:=jC hx.1 t.1
  rw [Zce.eq_2,Zp (by omega),show (i:Int)+(j:Int)=((i+j:Nat):Int) by omega,Zs e,oB,oB,aB,Xi (x:=x) (by omega),Xi (x:=y) (by omega),Xi (x:=p[i+j]) (by omega),Xi (x:=x * y) (by omega),Xi (x:=x * y+p[i+j]) (by omega),Xi (by omega),Zft]
  generalize hs':c+(x * y+p[i+j])=s
  have v:0≤u32.wrap s∧u32.wrap s<4294967296:=by rw [IntKind.wrap_u32];omega
  obtain ⟨p',q1,w,A,B,C⟩:=Zue b hb i kk x hx l (j+1) (p.set (i+j) (u32.wrap s)) (s / 4294967296) r.tail u (by rw [nS];exact a) (by rw [nS];exact n) (d.set _ v) (by omega) (by rw [Sx _ (by omega)];exact m)
  refine ⟨p',q1,by rw [w,nS],A,?_,C⟩
  rw [B,← dP i j 1,aY,Y3]
  refine Zuf _ _ _ _ _ _ (p[i+j]).toNat (u32.wrap s).toNat _ _ (Us e _) ?_
  rw [IntKind.wrap_u32]
  have G:((x.toNat * y.toNat:Nat):Int)=x * y:=by rw [bT,bE hx.1,bE t.1]
  omega
theorem Zud (N:Nat) (b:List Int) (hb:Zn b):∀ (l:List Int) (i:Nat) (p:List Int),Zn l→p.length=i+l.length+b.length→p.length<N→p.length<35184372088000→Zn p→Zc (p.drop (i+b.length))=0→
  Q2 N b l i p=some (Zf (Zc p+4294967296 ^ i * (Zc l * Zc b)))
 | [],i,p,_,c,d,g,a,e=>by
  rw [Q2.eq_1,Sk a d (by omega),oB,Yg];simp
 | x :: l,i,p,f,c,d,g,a,e=>by
  rw [nC] at c
  obtain ⟨j,q1,o,k,m,n⟩:=Zue b hb i (Q2 N b l) x f.head b 0 p 0 hb (by omega) (by omega) (by omega) a (by omega) e
  rw [Q2.eq_2,q1,Zud N b hb l (i+1) j f.tail (by omega) (by omega) (by omega) k (by rw [show i+1+b.length=i+b.length+1 by omega];exact n),m,Y3,aY]
  congr 2
  simp only [bQ,eI,cK]
  grind
theorem Zo2 {N:Nat} {a b:List Int} (ha:Zn a) (hb:Zn b) (h1:a.length+b.length<N) (h3:a.length+b.length<35184372088000):Zax N a b=some (Zf (Zc a * Zc b)):=by
 have c:=X9 ha
 have d:=X9 hb
 rw [Zax,Sr ha (by omega) (by omega),oB,Sr hb (by omega) (by omega),oB,Zp (by omega),Zz (by simp only [maxLen];omega),
  Zud N _ (Z2 _) _ 0 _ (Z2 _) (by rw [aQ];omega) (by rw [aQ];omega) (by rw [aQ];omega) (.zeros _) (by
   rw [fM];exact U5 _),U5,Z3,Z3]
 simp
def Zec (N:Nat) (aa:Int):Nat→R2→Int→Int→Option R9
  | 0,_,_,_=>none
  | af+1,ac,ad,ab=>if (decide (0≤ab))=true then ((Zi ac ab).bind fun ae=>Zv ((u64.wrap aa)≠0) ((some (ac.set (aA ab) (u32.wrap (u64.wrap (aU (Yy .u64 (Xy .u64 ad 32) (u64.wrap ae)) (u64.wrap aa)))))).bind fun ag=>Zv ((u64.wrap aa)≠0) ((Zec N aa af) ag (bC (Yy .u64 (Xy .u64 ad 32) (u64.wrap ae)) (u64.wrap aa)) (i64.wrap (ab - 1))))) else (some (u32.wrap ad,ac))
def Zjj (N:Nat) (aa:List Int) (ab:Int):Option R9:=
  Zec N ab N aa 0 (i64.wrap ((aa.length:Int) - 1))
theorem Zzz {N ad:Nat} {a0:Option Addr} {col:Zd} {w0:World} {ae:R2} {ab:Int} {r:R9} (qc0:Nat) (hm:Zjj N ae ab=some r) (hd:Sy [qc0]=true) (h0:Zb rU 45 qc0 col w0 a0 ad ae):
    Calls prog 188 #[.slice a0 ae.length ad,.int .u32 ab] w0 (fun e w'=>∃ col',e= .returned ((.int .u32 r.1))∧Z1 (pS [qc0]) col w0 col' w'∧Zb rU 45 qc0 col' w' a0 ad r.2∧r.2.length=ae.length):=by
 refine Z7 4 (m:=36) func188 rfl rfl rfl rfl rfl ?_;rw [Zjj.eq_1] at hm;have af:=St.startL (l:=[qc0]) rfl col w0;refine go ?_;refine Zt [1,1000000] (fun n f an=>∃ ao ac aa am ag,ag=n∧Zec N ab ag ac aa am=some r∧St w0 (Xl [qc0] col) ao an∧Zb rU 45 440 ao an a0 ad ac∧ac.length=ae.length∧ac.length=ae.length∧[0,5,6].map f=[.slice a0 ac.length ad,.int .u64 aa,.int .i64 am]) N ⟨_,_,0,_,_,rfl,hm,af,h0.startL (Tu hd 0 rfl) (Tt hd 0 rfl),rfl,rfl,rfl⟩ ?_;clear hm;intro n f an hI;obtain ⟨ao,ac,aa,am,ag,hn,hm,af,aj,ar,au,hs⟩:=hI;subst hn;refine .lL [0,5,6] hs ?_
 cases ag with
 | zero=>rw [Zec.eq_1] at hm;cases hm
 | succ ag=>
  rw [Zec.eq_2] at hm;refine go ?_;refine Zl hm (fun hb hm=>go ?_) fun hb hm=>go ?_
  ·refine lV (.int .u64 (Xy .u64 aa 32)) (Zfs aa 32 rfl rfl (by decide))<|go ?_;obtain ⟨ah,ai,hm⟩:=bZ hm;refine lI ai (aj.addr ai)<|lW (aj.atInt ai) ?_;refine go ?_;obtain ⟨av,hm⟩:=Zx hm;refine lV (.int .u64 (u64.wrap (aU (Yy .u64 (Xy .u64 aa 32) (u64.wrap ah)) (u64.wrap ab)))) (Vm (Yy .u64 (Xy .u64 aa 32) (u64.wrap ah)) (u64.wrap ab) rfl rfl av)<|go ?_;refine lI ai (aj.addr ai) ?_;obtain ⟨ak,al,hm⟩:=bZ hm;have al:ak=ac.set (aA am) (u32.wrap (u64.wrap (aU (Yy .u64 (Xy .u64 aa 32) (u64.wrap ah)) (u64.wrap ab)))):=(Option.some.inj al).symm;refine Yp (x1:=u32.wrap (u64.wrap (aU (Yy .u64 (Xy .u64 aa 32) (u64.wrap ah)) (u64.wrap ab)))) aj ai ?_;intro az aw ax ap;rw [← al] at ap;have aq:ak.length=ae.length:=(show ac.length=ak.length by rw [al,nS]).symm.trans ar;refine .ld (d:=0) (v:=(.slice a0 ak.length ad)) (congrArg (fun n=>Value.slice a0 n ad) (show ac.length=ak.length by rw [al,nS])) ?_;refine go ?_;obtain ⟨ay,hm⟩:=Zx hm;refine lV (.int .u64 (bC (Yy .u64 (Xy .u64 aa 32) (u64.wrap ah)) (u64.wrap ab))) (So (Yy .u64 (Xy .u64 aa 32) (u64.wrap ah)) (u64.wrap ab) rfl rfl ay)<|go ?_;replace af:=af.kp aw ax;exact ⟨ag,by omega,rfl,⟨_,_,_,_,_,rfl,hm,af,ap,aq,aq,rfl⟩⟩
  cases hm;exact ⟨rfl,_,rfl,af.finL rfl (cm [(440,qc0)]),af.foL aj,au⟩
def Zdz (aa ab:Int):Option Int:=
  (Zk6 (⟨#[0,1,2,2,3,3,3,3,4,4,4,4,4,4,4,4,5,5,5,5,5,5,5,5,5,5,5,5,5,5,5,5,6,6,6,6,6,6,6,6,6,6,6,6,6,6,6,6,6,6,6,6,6,6,6,6,6,6,6,6,6,6,6,6,7,7,7,7,7,7,7,7,7,7,7,7,7,7,7,7,7,7,7,7,7,7,7,7,7,7,7,7,7,7,7,7,7,7,7,7,7,7,7,7,7,7,7,7,7,7,7,7,7,7,7,7,7,7,7,7,7,7,7,7,7,7,7,7,8,8,8,8,8,8,8,8,8,8,8,8,8,8,8,8,8,8,8,8,8,8,8,8,8,8,8,8,8,8,8,8,8,8,8,8,8,8,8,8,8,8,8,8,8,8,8,8,8,8,8,8,8,8,8,8,8,8,8,8,8,8,8,8,8,8,8,8,8,8,8,8,8,8,8,8,8,8,8,8,8,8,8,8,8,8,8,8,8,8,8,8,8,8,8,8,8,8,8,8,8,8,8,8,8,8,8,8,8,8,8,8,8,8,8,8,8,8,8,8,8,8,8,8,8,8,8,8]⟩) (u8.wrap aa)).bind fun ac=>some (i64.wrap (ab+(i64.wrap ac)))
def Zgr (aa ab:Int):Option Int:=
  if (decide (256≤aa))=true then (Zdz (Yi .u32 aa 8) (i64.wrap (ab+8))) else (Zdz aa ab)
def Zgq (aa:Int):Option Int:=
  if (decide (65536≤aa))=true then (Zgr (Yi .u32 aa 16) 16) else (Zgr aa 0)
theorem Zqm {col:Zd} {w0:World} {ac r:Int} (hm:Zgq ac=some r):
    Calls prog 185 #[.int .u32 ac] w0 (Wq w0 r):=by
 refine Z7 2 (m:=19) func185 rfl rfl rfl rfl rfl ?_;rw [Zgq.eq_1] at hm;have aa:=St.start col w0;refine Zw<|Wk<|Yz rfl<|Zj<|Zw ?_;refine Wp.cutK [1000000] (fun f ag=>∃ ah ab ad,Zgr ab ad=some r∧St w0 (Zg col) ah ag∧[0,2].map f=[.int .u32 ab,.int .i64 ad]) ?_ ?_
 ·intro f ag hJ;obtain ⟨ah,ab,ad,hm,aa,hs⟩:=hJ;rw [Zgr.eq_1] at hm;refine .lL [0,2] hs<|Zw ?_;refine Wp.cutK [1000000] (fun f ai=>∃ aj ae af,Zdz ae af=some r∧St w0 (Zg col) aj ai∧[0,2].map f=[.int .u32 ae,.int .i64 af]) ?_ ?_
  ·intro f ai hJ;obtain ⟨aj,ae,af,hm,aa,hs⟩:=hJ;rw [Zdz.eq_1] at hm;refine .lL [0,2] hs<|go ?_;obtain ⟨ak,al,hm⟩:=bZ hm;refine lV (.int .u8 ak) (Z4q (s:=(⟨#[0,1,2,2,3,3,3,3,4,4,4,4,4,4,4,4,5,5,5,5,5,5,5,5,5,5,5,5,5,5,5,5,6,6,6,6,6,6,6,6,6,6,6,6,6,6,6,6,6,6,6,6,6,6,6,6,6,6,6,6,6,6,6,6,7,7,7,7,7,7,7,7,7,7,7,7,7,7,7,7,7,7,7,7,7,7,7,7,7,7,7,7,7,7,7,7,7,7,7,7,7,7,7,7,7,7,7,7,7,7,7,7,7,7,7,7,7,7,7,7,7,7,7,7,7,7,7,7,8,8,8,8,8,8,8,8,8,8,8,8,8,8,8,8,8,8,8,8,8,8,8,8,8,8,8,8,8,8,8,8,8,8,8,8,8,8,8,8,8,8,8,8,8,8,8,8,8,8,8,8,8,8,8,8,8,8,8,8,8,8,8,8,8,8,8,8,8,8,8,8,8,8,8,8,8,8,8,8,8,8,8,8,8,8,8,8,8,8,8,8,8,8,8,8,8,8,8,8,8,8,8,8,8,8,8,8,8,8,8,8,8,8,8,8,8,8,8,8,8,8,8,8,8,8,8,8]⟩)) underlying9 rfl rfl al)<|go ?_;cases hm;exact ⟨rfl,rfl,aa.below⟩
  refine go ?_;refine Zl hm (fun hb hm=>go ?_) fun hb hm=>?_
  ·refine lV (.int .u32 (Yi .u32 ab 8)) (Sp ab 8 rfl rfl (by decide))<|go ?_;exact ⟨rfl,_,_,_,hm,aa,rfl⟩
  refine X7 ?_;exact ⟨rfl,_,_,_,hm,aa,rfl⟩
 refine go ?_;refine Zl hm (fun hb hm=>go ?_) fun hb hm=>?_
 ·refine lV (.int .u32 (Yi .u32 ac 16)) (Sp ac 16 rfl rfl (by decide))<|go ?_;exact ⟨rfl,_,_,16,hm,aa,rfl⟩
 refine X7 ?_;exact ⟨rfl,_,_,0,hm,aa,rfl⟩
def Zi9 (aa:Int):Option Int:=
  (Zgq aa).bind fun ab=>some (i64.wrap (32 - ab))
theorem Zzm {col:Zd} {w0:World} {ac r:Int} (hm:Zi9 ac=some r):
    Calls prog 189 #[.int .u32 ac] w0 (Wq w0 r):=by
 refine Z7 2 (m:=6) func189 rfl rfl rfl rfl rfl ?_;rw [Zi9.eq_1] at hm;have aa:=St.start col w0;refine go ?_;obtain ⟨af,ad,hm⟩:=bZ hm;refine Zh (Zqm (col:=(Zg col)) ad) fun _ ae ⟨e',ab⟩=>⟨_,e',?_⟩;replace ab:Zk (Zg col) w0 (Zg col) ae:=.of_below ab;refine go ?_;cases hm;exact ⟨rfl,rfl,(aa.grow ab).below⟩
def Zcg (ab:Int):List Int→Nat→R2→Option R2
  | [],aa,ac=>some ac
  | ad :: af,aa,ac=>(Zi ac (aa:Int)).bind fun ag=>Zv (0≤ab) ((some (ac.set (aA (aa:Int)) (Yy .u32 ag (Xy .u32 ad ab)))).bind fun ae=>Zv (0≤ab) ((Zi ae (i64.wrap ((aa:Int)+1))).bind fun ai=>(some (ae.set (aA (i64.wrap ((aa:Int)+1))) (u32.wrap (Yi .u64 (Xy .u64 (u64.wrap ad) ab) 32)))).bind fun ah=>(Zcg ab af) (aa+1) ah))
def Zg5 (aa:List Int) (ab:Int):Option R2:=
  Zv ((aA (i64.wrap ((aa.length:Int)+1))) * 4≤281474976710656∧(aA (i64.wrap ((aa.length:Int)+1)))≤maxLen∧0≤(i64.wrap ((aa.length:Int)+1))) (Zcg ab aa 0 (aI (aA (i64.wrap ((aa.length:Int)+1))) (0:Int)))
theorem Zqr {ay:Nat} {a0:Option Addr} {col:Zd} {w0:World} {ad:R2} {aa:Int} {r:R2} (c1:Nat) (hm:Zg5 ad aa=some r) (h0:Sl rU col w0 a0 ay ad):
    Calls prog 190 #[.slice a0 ad.length ay,.int .i64 aa] w0 (W2 .u32 45 c1 col w0 r):=by
 refine Z7 4 (m:=40) func190 rfl rfl rfl rfl rfl ?_;rw [Zg5.eq_1] at hm;have ab:=St.start col w0;refine go ?_;obtain ⟨ao,hm⟩:=Zx hm;refine Ty (col:=(Zg col)) (w:=w0) (r:=rU) (n:=(aA (i64.wrap ((ad.length:Int)+1)))) (x0:=0) 1 rfl underlying38 Tryz.t45 rfl rfl rfl rfl rfl (congrArg (Value.int _) (bE ao.2.2).symm) (congrArg (Value.int _) (bE ao.2.2).symm) ao.1 ao.2.1 (Zag .u32 0) ?_;intro bc bd be a1 a2;refine go ?_;replace ab:=ab.grow a1;refine Zt [1,12,13,1000000] (fun n f au=>∃ ae af ah ai ak al,n=al.length∧ad.drop af=al∧Zcg aa al af ak=some r∧St w0 (Zg col) ae au∧Zb rU 45 1 ae au ah ai ak∧[14,5].map f=[.int .i64 af,.slice ah ak.length ai]) ad.length ⟨_,0,_,_,_,_,rfl,rfl,hm,ab,a2,rfl⟩ ?_;clear hm;intro n f au hI;obtain ⟨ae,af,ah,ai,ak,al,hn,hl,hm,ab,aj,hs⟩:=hI;subst hn;refine .lL [14,5] hs ?_;replace h0:=h0.k0
 cases al with
 | nil=>
  have hk:¬ ((af:Int)<(ad.length:Int)):=by have:=aK.1 hl;omega
  have hkb:=decide_eq_false hk;rw [Zcg.eq_1] at hm;refine go ?_;refine Yc (congrArg Value.bool hkb)<|go ?_;cases hm;exact ⟨rfl,_,_,_,rfl,ab.fin (cm [(1,c1)]),ab.fo aj⟩
 | cons ac a3=>
  obtain ⟨av,a4,a5⟩:=Ys hl;have hk:(af:Int)<(ad.length:Int):=by omega
  have hkb:=decide_eq_true hk;rw [Zcg.eq_2] at hm;refine go ?_;refine Yd (congrArg Value.bool hkb)<|go ?_;refine lI av ((h0.ks ab).addr av)<|lW ((h0.ks ab).atInt av) ?_;refine go ?_;refine Wc (col:=ae) [(0,1),(1,1),(2,1),(3,0),(4,1),(5,1),(6,1),(7,1),(8,1),(9,2)] (by kernel_rfl) (by kernel_rfl)<|xu rfl rfl (fun _=>Vi rfl) ?_;refine xu rfl rfl (fun _=>Wb rfl) ?_;obtain ⟨ap,ag,hm⟩:=bZ hm;refine xu rfl rfl (fun _=>Wa underlying38 sizeOf45 rfl rfl (Xm ag).1 (Xm ag).2.1 (aj.addr ag)) ?_;refine xW (fun _ hC=>(aj.gr (hC.bl ae)).atInt ag) ?_;refine xu rfl rfl (fun _=>Wb rfl) ?_;refine xu rfl rfl (fun _=>Wb rfl) ?_;obtain ⟨a6,hm⟩:=Zx hm;refine xu (v:=(.int .u32 (Xy .u32 ac aa))) rfl rfl (fun _=>Zfs ac aa rfl rfl a6) ?_;refine xu (v:=(.int .u32 (Yy .u32 ap (Xy .u32 ac aa)))) rfl rfl (fun _=>Zpl ap (Xy .u32 ac aa) rfl rfl) ?_;refine xu rfl rfl (fun _=>Wa underlying38 sizeOf45 rfl rfl (Xm ag).1 (Xm ag).2.1 (aj.addr ag)) ?_;refine xe rfl rfl ?_;intro bf hC0;have hC:=hC0.bl ae;obtain ⟨am,aq,hm⟩:=bZ hm;have aq:am=ak.set (aA (af:Int)) (Yy .u32 ap (Xy .u32 ac aa)):=(Option.some.inj aq).symm;refine Yp (x1:=Yy .u32 ap (Xy .u32 ac aa)) (aj.gr hC) ag ?_;intro bg a7 a8 an;rw [← aq] at an;refine .ld (d:=5) (v:=(.slice ah am.length ai)) (congrArg (fun n=>Value.slice ah n ai) (show ak.length=am.length by rw [aq,nS])) ?_;refine Zj<|xk ae<|Y4 ?_;replace ab:=(ab.grow hC).kp a7 a8;intro bh hC;replace hC:=hC.bl ae;refine go ?_;obtain ⟨a9,hm⟩:=Zx hm;refine lV (.int .u64 (Xy .u64 (u64.wrap ac) aa)) (Zfs (u64.wrap ac) aa rfl rfl a9)<|lV (.int .u64 (Yi .u64 (Xy .u64 (u64.wrap ac) aa) 32)) (Sp (Xy .u64 (u64.wrap ac) aa) 32 rfl rfl (by decide))<|go ?_;obtain ⟨bi,aw,hm⟩:=bZ hm;replace an:=an.gr hC;refine lI aw (an.addr aw) ?_;obtain ⟨ax,ar,hm⟩:=bZ hm;have ar:ax=am.set (aA (i64.wrap ((af:Int)+1))) (u32.wrap (Yi .u64 (Xy .u64 (u64.wrap ac) aa) 32)):=(Option.some.inj ar).symm;refine Yp (x1:=u32.wrap (Yi .u64 (Xy .u64 (u64.wrap ac) aa) 32)) an aw ?_;intro bj ba bb az;rw [← ar] at az;refine .ld (d:=5) (v:=(.slice ah ax.length ai)) (congrArg (fun n=>Value.slice ah n ai) (show am.length=ax.length by rw [ar,nS])) ?_;refine go ?_;replace ab:=(ab.grow hC).kp ba bb
  exact ⟨a3.length,by simp,rfl,⟨_,_,_,_,_,_,rfl,a4,hm,ab,az,(Yx (congrArg (Value.int .i64) (Yt (aJ a5 (h0.ks ab).1.1))) rfl)⟩⟩
def Zjk (aa:List Int) (kk_L1:(List Int→Option R2)) (ab:Bool):Option R2:=
  if ab=true then (Zv ((0:Int)≤(i64.wrap ((aa.length:Int) - 1))∧(i64.wrap ((aa.length:Int) - 1))≤(aa.length:Int)) (kk_L1 (aa.take (aA (i64.wrap ((aa.length:Int) - 1)))))) else (some aa)
def Za1 (N:Nat):Nat→R2→Option R2
  | 0,_=>none
  | ab+1,aa=>if (decide (0<(aa.length:Int)))=true then ((Zi aa (i64.wrap ((aa.length:Int) - 1))).bind fun ac=>Zjk aa (Za1 N ab) (decide (ac=0))) else (Zjk aa (Za1 N ab) false)
def Zed (N:Nat) (aa:List Int):Option R2:=
  Za1 N N aa
theorem Zqs {N ap:Nat} {a0:Option Addr} {col:Zd} {w0:World} {ag r:R2} (qc0:Nat) (hm:Zed N ag=some r) (hd:Sy [qc0]=true) (h0:Zb rU 45 qc0 col w0 a0 ap ag):
    Calls prog 159 #[.slice a0 ag.length ap] w0 (fun e w'=>∃ col' ra1 rc2,e= .returned ((.slice ra1 r.length rc2))∧Z1 (pS [qc0]) col w0 col' w'∧Zb rU 45 qc0 col' w' ra1 rc2 r):=by
 refine Z7 2 (m:=21) func159 rfl rfl rfl rfl rfl ?_;rw [Zed.eq_1] at hm;have ab:=St.startL (l:=[qc0]) rfl col w0;refine go ?_;refine Zt [1000000] (fun n f ah=>∃ ai ad ae aa af,af=n∧Za1 N af aa=some r∧St w0 (Xl [qc0] col) ai ah∧Zb rU 45 440 ai ah ad ae aa∧[0].map f=[.slice ad aa.length ae]) N ⟨_,_,_,_,_,rfl,hm,ab,h0.startL (Tu hd 0 rfl) (Tt hd 0 rfl),rfl⟩ ?_;clear hm;intro n f ah hI;obtain ⟨ai,ad,ae,aa,af,hn,hm,ab,ac,hs⟩:=hI;subst hn;refine .lL [0] hs ?_
 cases af with
 | zero=>rw [Za1.eq_1] at hm;cases hm
 | succ af=>
  rw [Za1.eq_2] at hm;refine Zw<|Zw ?_;refine Wp.cutK [0,1000000] (fun f aj=>∃ ak al,Zjk aa (Za1 N af) al=some r∧St w0 (Xl [qc0] col) ak aj∧Zb rU 45 440 ak aj ad ae aa∧[14].map f=[.bool al]) ?_ ?_
  ·intro f aj hJ;obtain ⟨ak,al,hm,ab,ac,hs⟩:=hJ;rw [Zjk.eq_1] at hm;refine .lL [14] hs ?_;refine Zl hm (fun hb hm=>go ?_) fun hb hm=>go ?_
   ·obtain ⟨am,hm⟩:=Zx hm;refine lv (v:=.slice ad (aA (i64.wrap ((aa.length:Int) - 1))) ae) rfl rfl (V8 underlying38 sizeOf45 rfl rfl am.1 (by have:=ac.lecap;have:=am.2;omega))<|.ld (d:=19) (v:=(.slice ad ((aa.take (aA (i64.wrap ((aa.length:Int) - 1)))).length) ae)) (congrArg (fun n=>Value.slice ad n ae) (bG (show (aA (i64.wrap ((aa.length:Int) - 1)))≤aa.length by have:=am.2;omega)).symm) ?_;refine go ?_;exact ⟨af,by omega,rfl,⟨_,_,_,_,_,rfl,hm,ab,(ac.take (aA (i64.wrap ((aa.length:Int) - 1)))),rfl⟩⟩
   cases hm;exact ⟨rfl,_,_,_,rfl,ab.finL rfl (cm [(440,qc0)]),ab.foL ac⟩
  refine go ?_;refine Xo hm (fun an hm=>go ?_) fun an hm=>go ?_
  ·obtain ⟨aq,ao,hm⟩:=bZ hm;refine lI ao (ac.addr ao) ?_;refine go ?_;refine lW (ac.atInt ao)<|go ?_;refine lV (.bool (decide (aq=0))) (Z5 (congrArg Value.bool an) rfl)<|Zj ?_;exact ⟨rfl,_,_,hm,ab,ac,rfl⟩
  refine lV (.bool false) (Xn (congrArg Value.bool an) rfl)<|Zj ?_;exact ⟨rfl,_,_,hm,ab,ac,rfl⟩
def Zjg (aa:Int) (ab:List Int):Option R9:=
  some (u32.wrap aa,ab)
def Zcf (j0 n0:Nat) (ab:List Int) (ae:Int):List Int→Nat→R2→Int→Option R9
  | [],aa,ac,ad=>Zv (0≤(ab.length:Int)∧(ab.length:Int)<(n0:Int)) ((Zi ac ((j0:Int)+(ab.length:Int))).bind fun ah=>Zv (0≤(ab.length:Int)∧(ab.length:Int)<(n0:Int)) ((Zi ac ((j0:Int)+(ab.length:Int))).bind fun al=>(some (ac.set (aA ((j0:Int)+(ab.length:Int))) (u32.wrap (ah+(u32.wrap ad))))).bind fun ai=>Zjg (u64.wrap ((u64.wrap (ae - 1)) - 1)) ai))
  | af :: aj,aa,ac,ad=>Zv (0≤(aa:Int)∧(aa:Int)<(n0:Int)) ((Zi ac ((j0:Int)+(aa:Int))).bind fun ag=>Zv (0≤(aa:Int)∧(aa:Int)<(n0:Int)) ((Zi ac ((j0:Int)+(aa:Int))).bind fun am=>(some (ac.set (aA ((j0:Int)+(aa:Int))) (u32.wrap (u64.wrap (ad+(u64.wrap ((u64.wrap ag)+(u64.wrap af)))))))).bind fun ak=>(Zcf j0 n0 ab ae aj) (aa+1) ak (Yi .u64 (u64.wrap (ad+(u64.wrap ((u64.wrap ag)+(u64.wrap af))))) 32)))
def Zl1 (aa:Nat) (kk_L2:(Nat→R2→Int→Int→Option R9)) (ab:List Int) (ac ad:Int):Option R9:=
  kk_L2 (aa+1) ab ac ad
def Zjh (j0 n0:Nat) (ac:Int) (ab:List Int) (af:Int) (aa:Nat) (ad:Int) (kk_L2:(Nat→R2→Int→Int→Option R9)) (ae ag:Int):Option R9:=
  Zv (0≤(aa:Int)∧(aa:Int)<(n0:Int)) ((Zi ab ((j0:Int)+(aa:Int))).bind fun ah=>Zv (0≤(aa:Int)∧(aa:Int)<(n0:Int)) ((Zi ab ((j0:Int)+(aa:Int))).bind fun aj=>(some (ab.set (aA ((j0:Int)+(aa:Int))) (u32.wrap (ah - (u32.wrap (u64.wrap ((U0 .u64 (u64.wrap (ad+(u64.wrap ((u64.wrap (ac - 1)) * (u64.wrap ae))))) 4294967295)+af))))))).bind fun ai=>Zl1 aa kk_L2 ai ag (Yi .u64 (u64.wrap (ad+(u64.wrap ((u64.wrap (ac - 1)) * (u64.wrap ae))))) 32)))
def Qa (j0 n0:Nat) (aa:List Int) (ac:Int):List Int→Nat→R2→Int→Int→Option R9
  | [],ad,ab,ae,af=>Zv (0≤(aa.length:Int)∧(aa.length:Int)<(n0:Int)) ((Zi ab ((j0:Int)+(aa.length:Int))).bind fun aj=>Zv (0≤(aa.length:Int)∧(aa.length:Int)<(n0:Int)) ((Zi ab ((j0:Int)+(aa.length:Int))).bind fun ak=>Zv (0≤(aa.length:Int)∧(aa.length:Int)<(n0:Int)) ((Zi ab ((j0:Int)+(aa.length:Int))).bind fun am=>(some (ab.set (aA ((j0:Int)+(aa.length:Int))) (u32.wrap (ak - (u32.wrap (u64.wrap (af+ae))))))).bind fun ah=>if (decide ((u64.wrap aj)<(u64.wrap (af+ae))))=true then (Zcf j0 n0 aa ac aa 0 ah 0) else (Zjg (u64.wrap (ac - 1)) ah))))
  | ag :: ai,ad,ab,ae,af=>Zv (0≤(ad:Int)∧(ad:Int)<(n0:Int)) ((Zi ab ((j0:Int)+(ad:Int))).bind fun al=>if (decide ((u64.wrap al)<(u64.wrap ((U0 .u64 (u64.wrap (af+(u64.wrap ((u64.wrap (ac - 1)) * (u64.wrap ag))))) 4294967295)+ae))))=true then (Zjh j0 n0 ac ab ae ad af (Qa j0 n0 aa ac ai) ag 1) else (Zjh j0 n0 ac ab ae ad af (Qa j0 n0 aa ac ai) ag 0))
def Zjf (j0 n0:Nat) (ae aa:List Int) (ab ac:Int) (kk_L1:(Int→Int→Option R9)):Option R9:=
  (Zi aa (i64.wrap ((aa.length:Int) - 1))).bind fun ad=>if (decide (4294967295<(u64.wrap (ac+(u64.wrap ad)))))=true then (Qa j0 n0 aa ab aa 0 ae 0 0) else (kk_L1 (u64.wrap (ab - 1)) (u64.wrap (ac+(u64.wrap ad))))
def Zaz (aa:Int) (ab:List Int):Option R9:=
  some (u32.wrap aa,ab)
def Tg (j0 n0:Nat) (ab:List Int) (ae:Int):List Int→Nat→R2→Int→Option R9
  | [],aa,ac,ad=>Zv (0≤(ab.length:Int)∧(ab.length:Int)<(n0:Int)) ((Zi ac ((j0:Int)+(ab.length:Int))).bind fun ah=>Zv (0≤(ab.length:Int)∧(ab.length:Int)<(n0:Int)) ((Zi ac ((j0:Int)+(ab.length:Int))).bind fun al=>(some (ac.set (aA ((j0:Int)+(ab.length:Int))) (u32.wrap (ah+(u32.wrap ad))))).bind fun ai=>Zaz (u64.wrap (ae - 1)) ai))
  | af :: aj,aa,ac,ad=>Zv (0≤(aa:Int)∧(aa:Int)<(n0:Int)) ((Zi ac ((j0:Int)+(aa:Int))).bind fun ag=>Zv (0≤(aa:Int)∧(aa:Int)<(n0:Int)) ((Zi ac ((j0:Int)+(aa:Int))).bind fun am=>(some (ac.set (aA ((j0:Int)+(aa:Int))) (u32.wrap (u64.wrap (ad+(u64.wrap ((u64.wrap ag)+(u64.wrap af)))))))).bind fun ak=>(Tg j0 n0 ab ae aj) (aa+1) ak (Yi .u64 (u64.wrap (ad+(u64.wrap ((u64.wrap ag)+(u64.wrap af))))) 32)))
def Zji (aa:Nat) (kk_L4:(Nat→R2→Int→Int→Option R9)) (ab:List Int) (ac ad:Int):Option R9:=
  kk_L4 (aa+1) ab ac ad
def Zeb (j0 n0:Nat) (ac:Int) (ab:List Int) (af:Int) (aa:Nat) (ad:Int) (kk_L4:(Nat→R2→Int→Int→Option R9)) (ae ag:Int):Option R9:=
  Zv (0≤(aa:Int)∧(aa:Int)<(n0:Int)) ((Zi ab ((j0:Int)+(aa:Int))).bind fun ah=>Zv (0≤(aa:Int)∧(aa:Int)<(n0:Int)) ((Zi ab ((j0:Int)+(aa:Int))).bind fun aj=>(some (ab.set (aA ((j0:Int)+(aa:Int))) (u32.wrap (ah - (u32.wrap (u64.wrap ((U0 .u64 (u64.wrap (ad+(u64.wrap (ac * (u64.wrap ae))))) 4294967295)+af))))))).bind fun ai=>Zji aa kk_L4 ai ag (Yi .u64 (u64.wrap (ad+(u64.wrap (ac * (u64.wrap ae))))) 32)))
def Vz (j0 n0:Nat) (aa:List Int) (ac:Int):List Int→Nat→R2→Int→Int→Option R9
  | [],ad,ab,ae,af=>Zv (0≤(aa.length:Int)∧(aa.length:Int)<(n0:Int)) ((Zi ab ((j0:Int)+(aa.length:Int))).bind fun aj=>Zv (0≤(aa.length:Int)∧(aa.length:Int)<(n0:Int)) ((Zi ab ((j0:Int)+(aa.length:Int))).bind fun ak=>Zv (0≤(aa.length:Int)∧(aa.length:Int)<(n0:Int)) ((Zi ab ((j0:Int)+(aa.length:Int))).bind fun am=>(some (ab.set (aA ((j0:Int)+(aa.length:Int))) (u32.wrap (ak - (u32.wrap (u64.wrap (af+ae))))))).bind fun ah=>if (decide ((u64.wrap aj)<(u64.wrap (af+ae))))=true then (Tg j0 n0 aa ac aa 0 ah 0) else (Zaz ac ah))))
  | ag :: ai,ad,ab,ae,af=>Zv (0≤(ad:Int)∧(ad:Int)<(n0:Int)) ((Zi ab ((j0:Int)+(ad:Int))).bind fun al=>if (decide ((u64.wrap al)<(u64.wrap ((U0 .u64 (u64.wrap (af+(u64.wrap (ac * (u64.wrap ag))))) 4294967295)+ae))))=true then (Zeb j0 n0 ac ab ae ad af (Vz j0 n0 aa ac ai) ag 1) else (Zeb j0 n0 ac ab ae ad af (Vz j0 n0 aa ac ai) ag 0))
def Zea (j0 n0:Nat) (ab aa:List Int) (ac ad:Int) (kk_L1:(Int→Int→Option R9)) (ae:Bool):Option R9:=
  if ae=true then (Zjf j0 n0 ab aa ac ad kk_L1) else (Vz j0 n0 aa ac aa 0 ab 0 0)
def Sa (N j0 n0:Nat) (ab aa:List Int):Nat→Int→Int→Option R9
  | 0,_,_=>none
  | ae+1,ac,ad=>if (decide (4294967295<ac))=true then (Zea j0 n0 ab aa ac ad (Sa N j0 n0 ab aa ae) true) else (if (decide (ad≤4294967295))=true then ((Zi aa (i64.wrap ((aa.length:Int) - 2))).bind fun af=>Zv (0≤(i64.wrap ((aa.length:Int) - 2))∧(i64.wrap ((aa.length:Int) - 2))<(n0:Int)) ((Zi ab ((j0:Int)+(i64.wrap ((aa.length:Int) - 2)))).bind fun ag=>Zea j0 n0 ab aa ac ad (Sa N j0 n0 ab aa ae) (decide ((Yy .u64 (Xy .u64 ad 32) (u64.wrap ag))<(u64.wrap (ac * (u64.wrap af))))))) else (Zea j0 n0 ab aa ac ad (Sa N j0 n0 ab aa ae) false))
def Zg4 (N j0 n0:Nat) (ac aa:List Int):Option R9:=
  Zv (0≤(aa.length:Int)∧(aa.length:Int)<(n0:Int)) ((Zi ac ((j0:Int)+(aa.length:Int))).bind fun ad=>Zv (0≤(i64.wrap ((aa.length:Int) - 1))∧(i64.wrap ((aa.length:Int) - 1))<(n0:Int)) ((Zi ac ((j0:Int)+(i64.wrap ((aa.length:Int) - 1)))).bind fun ae=>(Zi aa (i64.wrap ((aa.length:Int) - 1))).bind fun ab=>Zv ((u64.wrap ab)≠0) (Zv ((u64.wrap ab)≠0) (Sa N j0 n0 ac aa N (u64.wrap (aU (Yy .u64 (Xy .u64 (u64.wrap ad) 32) (u64.wrap ae)) (u64.wrap ab))) (bC (Yy .u64 (Xy .u64 (u64.wrap ad) 32) (u64.wrap ae)) (u64.wrap ab))))))
theorem Zzx {N ae j0 n0 cp0 de:Nat} {a0 a1:Option Addr} {col:Zd} {w0:World} {ac ab:R2} {r:R9} (qc0:Nat) (hm:Zg4 N j0 n0 ac ab=some r) (hd:Sy [qc0]=true) (h0:Zb rU 45 qc0 col w0 a0 ae ac) (h1:Sl rU col w0 a1 de ab):
    Calls prog 191 #[.slice (a0.map (·.add (j0 * 1))) n0 cp0,.slice a1 ab.length de] w0 (fun e w'=>∃ col',e= .returned ((.int .u32 r.1))∧Z1 (pS [qc0]) col w0 col' w'∧Zb rU 45 qc0 col' w' a0 ae r.2∧r.2.length=ac.length):=by
 refine Z7 4 (m:=178) func191 rfl rfl rfl rfl rfl ?_;rw [Zg4.eq_1] at hm;have aa:=St.startL (l:=[qc0]) rfl col w0;replace h0:=h0.startL (Tu hd 0 rfl) (Tt hd 0 rfl);refine go ?_;refine Y0 (col:=(Xl [qc0] col)) (by kernel_rfl) (by kernel_rfl)<|go ?_;obtain ⟨df,hm⟩:=Zx hm;obtain ⟨a7,dg,hm⟩:=bZ hm;refine qv (v:=(X4 a0 (aA ((j0:Int)+(ab.length:Int)) * 1))) rfl (fun _ hC=>W7 underlying38 sizeOf45 rfl rfl df.1 df.2 (h0.addr dg)) ?_;refine qW (fun _ hC=>(h0.gr (hC.bl (Xl [qc0] col))).atInt dg) ?_;refine go ?_;refine qv (v:=(.int .u64 (Xy .u64 (u64.wrap a7) 32))) rfl (fun _ hC=>Zfs (u64.wrap a7) 32 rfl rfl (by decide)) ?_;refine go ?_;obtain ⟨dh,hm⟩:=Zx hm;obtain ⟨bf,di,hm⟩:=bZ hm;refine qv (v:=(X4 a0 (aA ((j0:Int)+(i64.wrap ((ab.length:Int) - 1))) * 1))) rfl (fun _ hC=>W7 underlying38 sizeOf45 rfl rfl dh.1 dh.2 (h0.addr di)) ?_;refine qW (fun _ hC=>(h0.gr (hC.bl (Xl [qc0] col))).atInt di) ?_;refine go ?_;refine Xw ?_;intro gm hC;replace h1:=h1.keep (X8.startL [qc0] col w0);replace hC:=hC.bl (Xl [qc0] col);refine go ?_;obtain ⟨bg,a8,hm⟩:=bZ hm;replace aa:=aa.grow hC;refine lI a8 ((h1.ks aa).addr a8)<|lW ((h1.ks aa).atInt a8) ?_;refine go ?_;obtain ⟨fc,hm⟩:=Zx hm;refine lV (.int .u64 (u64.wrap (aU (Yy .u64 (Xy .u64 (u64.wrap a7) 32) (u64.wrap bf)) (u64.wrap bg)))) (Vm (Yy .u64 (Xy .u64 (u64.wrap a7) 32) (u64.wrap bf)) (u64.wrap bg) rfl rfl fc)<|go ?_;refine lI a8 ((h1.ks aa).addr a8)<|lW ((h1.ks aa).atInt a8) ?_;refine go ?_;obtain ⟨fd,hm⟩:=Zx hm;refine lV (.int .u64 (bC (Yy .u64 (Xy .u64 (u64.wrap a7) 32) (u64.wrap bf)) (u64.wrap bg))) (So (Yy .u64 (Xy .u64 (u64.wrap a7) 32) (u64.wrap bf)) (u64.wrap bg) rfl rfl fd)<|go ?_;replace h0:=h0.gr hC;refine Zt [0,1,5,1000000] (fun n f bx=>∃ ao ad ap a2,a2=n∧Sa N j0 n0 ac ab a2 ad ap=some r∧St w0 (Xl [qc0] col) ao bx∧Zb rU 45 440 ao bx a0 ae ac∧[7,8].map f=[.int .u64 ad,.int .u64 ap]) N ⟨_,_,_,_,rfl,hm,aa,h0,rfl⟩ ?_;clear hm;intro n f bx hI;obtain ⟨ao,ad,ap,a2,hn,hm,aa,h0,hs⟩:=hI;subst hn;refine .lL [7,8] hs ?_
 cases a2 with
 | zero=>rw [Sa.eq_1] at hm;cases hm
 | succ a2=>
  rw [Sa.eq_2] at hm;refine Zw ?_;refine Wp.cutK [0,1,5,7,8,1000000] (fun f bz=>∃ b0,Zjf j0 n0 ac ab ad ap (Sa N j0 n0 ac ab a2)=some r∧St w0 (Xl [qc0] col) b0 bz∧Zb rU 45 440 b0 bz a0 ae ac) ?_ ?_
  ·intro f bz hJ;obtain ⟨b0,hm,aa,h0⟩:=hJ;rw [Zjf.eq_1] at hm;refine go ?_;obtain ⟨gp,b1,hm⟩:=bZ hm;refine lI b1 ((h1.ks aa).addr b1)<|lW ((h1.ks aa).atInt b1) ?_;refine go ?_;refine Zl hm (fun hb hm=>?_) fun hb hm=>?_
   ·refine Zil (Zss rfl (Ziz ?_));refine go ?_;refine Zt [0,1,5,7,87,88,1000000] (fun n f b2=>∃ b3 am a3 ai aj a9,n=a9.length∧ab.drop ai=a9∧Qa j0 n0 ab ad a9 ai am a3 aj=some r∧St w0 (Xl [qc0] col) b3 b2∧Zb rU 45 440 b3 b2 a0 ae am∧am.length=ac.length∧am.length=ac.length∧[89,10,9].map f=[.int .i64 ai,.int .u64 a3,.int .u64 aj]) ab.length ⟨_,_,0,0,0,_,rfl,rfl,hm,aa,h0,rfl,rfl,rfl⟩ ?_;clear hm;intro n f b2 hI;obtain ⟨b3,am,a3,ai,aj,a9,hn,hl,hm,aa,af,dj,gs,hs⟩:=hI;subst hn;refine .lL [89,10,9] hs ?_
    cases a9 with
    | nil=>
     have hk:¬ ((ai:Int)<(ab.length:Int)):=by have:=aK.1 hl;omega
     have hkb:=decide_eq_false hk;rw [Qa.eq_1] at hm;refine go ?_;refine Yc (congrArg Value.bool hkb)<|go ?_;obtain ⟨dk,hm⟩:=Zx hm;obtain ⟨gt,dl,hm⟩:=bZ hm;refine lV (X4 a0 (aA ((j0:Int)+(ab.length:Int)) * 1)) (W7 underlying38 sizeOf45 rfl rfl dk.1 dk.2 (af.addr dl))<|lW (af.atInt dl)<|go ?_;obtain ⟨dm,hm⟩:=Zx hm;obtain ⟨dn,dp,hm⟩:=bZ hm;refine lV (X4 a0 (aA ((j0:Int)+(ab.length:Int)) * 1)) (W7 underlying38 sizeOf45 rfl rfl dm.1 dm.2 (af.addr dp))<|lW (af.atInt dp)<|go ?_;obtain ⟨dq,hm⟩:=Zx hm;obtain ⟨gu,dr,hm⟩:=bZ hm;refine lV (X4 a0 (aA ((j0:Int)+(ab.length:Int)) * 1)) (W7 underlying38 sizeOf45 rfl rfl dq.1 dq.2 (af.addr dr)) ?_;obtain ⟨b4,bh,hm⟩:=bZ hm;have bh:b4=am.set (aA ((j0:Int)+(ab.length:Int))) (u32.wrap (dn - (u32.wrap (u64.wrap (aj+a3))))):=(Option.some.inj bh).symm;refine Yp (x1:=u32.wrap (dn - (u32.wrap (u64.wrap (aj+a3))))) af dr ?_;intro gv fe ff b5;rw [← bh] at b5;have b6:b4.length=ac.length:=(show am.length=b4.length by rw [bh,nS]).symm.trans dj;refine Zj<|Zw ?_;replace aa:=aa.kp fe ff;refine Wp.cutK [1000000] (fun f b7=>∃ b8 b9 bi,Zjg b9 bi=some r∧St w0 (Xl [qc0] col) b8 b7∧Zb rU 45 440 b8 b7 a0 ae bi∧bi.length=ac.length∧[7].map f=[.int .u64 b9]) ?_ ?_
     ·intro f b7 hJ;obtain ⟨b8,b9,bi,hm,aa,fg,fh,hs⟩:=hJ;rw [Zjg.eq_1] at hm;refine .lL [7] hs<|go ?_;cases hm;exact ⟨rfl,_,rfl,aa.finL rfl (cm [(440,qc0)]),aa.foL fg,fh⟩
     refine go ?_;refine Zl hm (fun hb hm=>go ?_) fun hb hm=>?_
     ·refine Zt [0,143,144,5,7,1000000] (fun n f ca=>∃ cb aq ar au ba,n=ba.length∧ab.drop ar=ba∧Zcf j0 n0 ab ad ba ar aq au=some r∧St w0 (Xl [qc0] col) cb ca∧Zb rU 45 440 cb ca a0 ae aq∧aq.length=ac.length∧aq.length=ac.length∧[145,9].map f=[.int .i64 ar,.int .u64 au]) ab.length ⟨_,_,0,0,_,rfl,rfl,hm,aa,b5,b6,b6,rfl⟩ ?_;clear hm;intro n f ca hI;obtain ⟨cb,aq,ar,au,ba,hn,hl,hm,aa,a4,fi,fj,hs⟩:=hI;subst hn;refine .lL [145,9] hs ?_
      cases ba with
      | nil=>
       have hk:¬ ((ar:Int)<(ab.length:Int)):=by have:=aK.1 hl;omega
       have hkb:=decide_eq_false hk;rw [Zcf.eq_1] at hm;refine go ?_;refine Yc (congrArg Value.bool hkb)<|go ?_;obtain ⟨ds,hm⟩:=Zx hm;obtain ⟨dt,du,hm⟩:=bZ hm;refine lV (X4 a0 (aA ((j0:Int)+(ab.length:Int)) * 1)) (W7 underlying38 sizeOf45 rfl rfl ds.1 ds.2 (a4.addr du))<|lW (a4.atInt du)<|go ?_;obtain ⟨dv,hm⟩:=Zx hm;obtain ⟨gw,dw,hm⟩:=bZ hm;refine lV (X4 a0 (aA ((j0:Int)+(ab.length:Int)) * 1)) (W7 underlying38 sizeOf45 rfl rfl dv.1 dv.2 (a4.addr dw)) ?_;obtain ⟨cc,bj,hm⟩:=bZ hm;have bj:cc=aq.set (aA ((j0:Int)+(ab.length:Int))) (u32.wrap (dt+(u32.wrap au))):=(Option.some.inj bj).symm;refine Yp (x1:=u32.wrap (dt+(u32.wrap au))) a4 dw ?_;intro gx fk fl dx;rw [← bj] at dx;have fm:cc.length=ac.length:=(show aq.length=cc.length by rw [bj,nS]).symm.trans fj;refine Zj ?_;replace aa:=aa.kp fk fl;exact ⟨rfl,_,_,_,hm,aa,dx,fm,rfl⟩
      | cons bk fn=>
       obtain ⟨ag,fp,fq⟩:=Ys hl;have hk:(ar:Int)<(ab.length:Int):=by omega
       have hkb:=decide_eq_true hk;rw [Zcf.eq_2] at hm;refine go ?_;refine Yd (congrArg Value.bool hkb)<|go ?_;refine lI ag ((h1.ks aa).addr ag)<|lW ((h1.ks aa).atInt ag) ?_;refine go ?_;obtain ⟨dy,hm⟩:=Zx hm;obtain ⟨bm,dz,hm⟩:=bZ hm;refine lV (X4 a0 (aA ((j0:Int)+(ar:Int)) * 1)) (W7 underlying38 sizeOf45 rfl rfl dy.1 dy.2 (a4.addr dz))<|lW (a4.atInt dz)<|go ?_;obtain ⟨d0,hm⟩:=Zx hm;obtain ⟨gy,d1,hm⟩:=bZ hm;refine lV (X4 a0 (aA ((j0:Int)+(ar:Int)) * 1)) (W7 underlying38 sizeOf45 rfl rfl d0.1 d0.2 (a4.addr d1)) ?_;obtain ⟨cd,bn,hm⟩:=bZ hm;have bn:cd=aq.set (aA ((j0:Int)+(ar:Int))) (u32.wrap (u64.wrap (au+(u64.wrap ((u64.wrap bm)+(u64.wrap bk)))))):=(Option.some.inj bn).symm;refine Yp (x1:=u32.wrap (u64.wrap (au+(u64.wrap ((u64.wrap bm)+(u64.wrap bk)))))) a4 d1 ?_;intro gz fr ft d2;rw [← bn] at d2;have d3:cd.length=ac.length:=(show aq.length=cd.length by rw [bn,nS]).symm.trans fi;refine go ?_;refine lV (.int .u64 (Yi .u64 (u64.wrap (au+(u64.wrap ((u64.wrap bm)+(u64.wrap bk))))) 32)) (Sp (u64.wrap (au+(u64.wrap ((u64.wrap bm)+(u64.wrap bk))))) 32 rfl rfl (by decide))<|go ?_;replace aa:=aa.kp fr ft;exact ⟨fn.length,by simp,rfl,⟨_,_,_,_,_,rfl,fp,hm,aa,d2,d3,d3,(Yx (congrArg (Value.int .i64) (Yt (aJ fq (h1.ks aa).1.1))) rfl)⟩⟩
     refine X7 ?_;exact ⟨rfl,_,_,_,hm,aa,b5,b6,rfl⟩
    | cons av ce=>
     obtain ⟨ag,fu,fv⟩:=Ys hl;have hk:(ai:Int)<(ab.length:Int):=by omega
     have hkb:=decide_eq_true hk;rw [Qa.eq_2] at hm;refine go ?_;refine Yd (congrArg Value.bool hkb)<|X7<|Zw ?_;refine Wp.cutK [0,1,5,7,87,88,89,1000000] (fun f cf=>∃ cg bb ch ci,Zl1 ai (Qa j0 n0 ab ad ce) bb ch ci=some r∧St w0 (Xl [qc0] col) cg cf∧Zb rU 45 440 cg cf a0 ae bb∧bb.length=ac.length∧bb.length=ac.length∧[10,9].map f=[.int .u64 ch,.int .u64 ci]) ?_ ?_
     ·intro f cf hJ;obtain ⟨cg,bb,ch,ci,hm,aa,fw,fx,fy,hs⟩:=hJ;rw [Zl1.eq_1] at hm;refine .lL [10,9] hs<|go ?_;exact ⟨ce.length,by simp,rfl,⟨_,_,_,_,_,_,rfl,fu,hm,aa,fw,fx,fy,(Yx (congrArg (Value.int .i64) (Yt (aJ fv (h1.ks aa).1.1))) rfl)⟩⟩
     refine go ?_;refine lI ag ((h1.ks aa).addr ag)<|lW ((h1.ks aa).atInt ag)<|Yz rfl<|Yz rfl<|Zj<|Zw<|Wk<|Xe rfl<|Xe rfl<|Xe rfl<|lV (.int .u64 (u64.wrap av)) (Zkk av ⟨_,underlying45⟩ underlying144 rfl)<|lV _ (Zig _ _ rfl rfl)<|lV _ (Ql _ _ rfl rfl)<|Yz rfl<|Zj<|Zw<|Wk<|Xe rfl<|lV (.int .u64 (U0 .u64 (u64.wrap (aj+(u64.wrap ((u64.wrap (ad - 1)) * (u64.wrap av))))) 4294967295)) (Zmz (u64.wrap (aj+(u64.wrap ((u64.wrap (ad - 1)) * (u64.wrap av))))) 4294967295 rfl rfl)<|Xe rfl<|lV _ (Ql _ _ rfl rfl)<|Yz rfl<|Zj<|Zw<|Wk<|Yz rfl<|Zj<|Zw ?_;refine Wp.cutK [0,1,11,13,5,7,87,88,89,9,1000000] (fun f cj=>∃ ck cl,Zjh j0 n0 ad am a3 ai aj (Qa j0 n0 ab ad ce) av cl=some r∧St w0 (Xl [qc0] col) ck cj∧Zb rU 45 440 ck cj a0 ae am∧[10].map f=[.int .u64 cl]) ?_ ?_
     ·intro f cj hJ;obtain ⟨ck,cl,hm,aa,af,hs⟩:=hJ;rw [Zjh.eq_1] at hm;refine .lL [10] hs<|go ?_;obtain ⟨d4,hm⟩:=Zx hm;obtain ⟨d5,d6,hm⟩:=bZ hm;refine lV (X4 a0 (aA ((j0:Int)+(ai:Int)) * 1)) (W7 underlying38 sizeOf45 rfl rfl d4.1 d4.2 (af.addr d6))<|lW (af.atInt d6)<|go ?_;obtain ⟨d7,hm⟩:=Zx hm;obtain ⟨g0,d8,hm⟩:=bZ hm;refine lV (X4 a0 (aA ((j0:Int)+(ai:Int)) * 1)) (W7 underlying38 sizeOf45 rfl rfl d7.1 d7.2 (af.addr d8)) ?_;obtain ⟨cn,bo,hm⟩:=bZ hm;have bo:cn=am.set (aA ((j0:Int)+(ai:Int))) (u32.wrap (d5 - (u32.wrap (u64.wrap ((U0 .u64 (u64.wrap (aj+(u64.wrap ((u64.wrap (ad - 1)) * (u64.wrap av))))) 4294967295)+a3))))):=(Option.some.inj bo).symm;refine Yp (x1:=u32.wrap (d5 - (u32.wrap (u64.wrap ((U0 .u64 (u64.wrap (aj+(u64.wrap ((u64.wrap (ad - 1)) * (u64.wrap av))))) 4294967295)+a3))))) af d8 ?_;intro g1 fz f0 d9;rw [← bo] at d9;have ea:cn.length=ac.length:=(show am.length=cn.length by rw [bo,nS]).symm.trans dj;refine go ?_;refine lV (.int .u64 (Yi .u64 (u64.wrap (aj+(u64.wrap ((u64.wrap (ad - 1)) * (u64.wrap av))))) 32)) (Sp (u64.wrap (aj+(u64.wrap ((u64.wrap (ad - 1)) * (u64.wrap av))))) 32 rfl rfl (by decide))<|go ?_;replace aa:=aa.kp fz f0;exact ⟨rfl,_,_,_,_,hm,aa,d9,ea,ea,rfl⟩
     refine go ?_;obtain ⟨eb,hm⟩:=Zx hm;obtain ⟨g2,ec,hm⟩:=bZ hm;refine lV (X4 a0 (aA ((j0:Int)+(ai:Int)) * 1)) (W7 underlying38 sizeOf45 rfl rfl eb.1 eb.2 (af.addr ec))<|lW (af.atInt ec)<|go ?_;refine Zl hm (fun hb hm=>go ?_) fun hb hm=>?_
     ·exact ⟨rfl,_,1,hm,aa,af,rfl⟩
     refine X7 ?_;exact ⟨rfl,_,0,hm,aa,af,rfl⟩
   refine X7 ?_;exact ⟨a2,by omega,rfl,⟨_,_,_,_,rfl,hm,aa,h0,rfl⟩⟩
  refine Zw ?_;refine Wp.cutK [0,1,5,7,8,1000000] (fun f co=>∃ cp cq,Zea j0 n0 ac ab ad ap (Sa N j0 n0 ac ab a2) cq=some r∧St w0 (Xl [qc0] col) cp co∧Zb rU 45 440 cp co a0 ae ac∧[74].map f=[.bool cq]) ?_ ?_
  ·intro f co hJ;obtain ⟨cp,cq,hm,aa,h0,hs⟩:=hJ;rw [Zea.eq_1] at hm;refine .lL [74] hs ?_;refine Zl hm (fun hb hm=>?_) fun hb hm=>go ?_
   ·refine X7 ?_;exact ⟨rfl,_,hm,aa,h0⟩
   refine Zt [0,1,5,7,87,88,1000000] (fun n f cr=>∃ cs an a5 ak al bc,n=bc.length∧ab.drop ak=bc∧Vz j0 n0 ab ad bc ak an a5 al=some r∧St w0 (Xl [qc0] col) cs cr∧Zb rU 45 440 cs cr a0 ae an∧an.length=ac.length∧an.length=ac.length∧[89,10,9].map f=[.int .i64 ak,.int .u64 a5,.int .u64 al]) ab.length ⟨_,_,0,0,0,_,rfl,rfl,hm,aa,h0,rfl,rfl,rfl⟩ ?_;clear hm;intro n f cr hI;obtain ⟨cs,an,a5,ak,al,bc,hn,hl,hm,aa,ah,ed,g3,hs⟩:=hI;subst hn;refine .lL [89,10,9] hs ?_
   cases bc with
   | nil=>
    have hk:¬ ((ak:Int)<(ab.length:Int)):=by have:=aK.1 hl;omega
    have hkb:=decide_eq_false hk;rw [Vz.eq_1] at hm;refine go ?_;refine Yc (congrArg Value.bool hkb)<|go ?_;obtain ⟨ee,hm⟩:=Zx hm;obtain ⟨g4,ef,hm⟩:=bZ hm;refine lV (X4 a0 (aA ((j0:Int)+(ab.length:Int)) * 1)) (W7 underlying38 sizeOf45 rfl rfl ee.1 ee.2 (ah.addr ef))<|lW (ah.atInt ef)<|go ?_;obtain ⟨eg,hm⟩:=Zx hm;obtain ⟨eh,ei,hm⟩:=bZ hm;refine lV (X4 a0 (aA ((j0:Int)+(ab.length:Int)) * 1)) (W7 underlying38 sizeOf45 rfl rfl eg.1 eg.2 (ah.addr ei))<|lW (ah.atInt ei)<|go ?_;obtain ⟨ej,hm⟩:=Zx hm;obtain ⟨g5,ek,hm⟩:=bZ hm;refine lV (X4 a0 (aA ((j0:Int)+(ab.length:Int)) * 1)) (W7 underlying38 sizeOf45 rfl rfl ej.1 ej.2 (ah.addr ek)) ?_;obtain ⟨ct,bp,hm⟩:=bZ hm;have bp:ct=an.set (aA ((j0:Int)+(ab.length:Int))) (u32.wrap (eh - (u32.wrap (u64.wrap (al+a5))))):=(Option.some.inj bp).symm;refine Yp (x1:=u32.wrap (eh - (u32.wrap (u64.wrap (al+a5))))) ah ek ?_;intro g6 f1 f2 cu;rw [← bp] at cu;have cv:ct.length=ac.length:=(show an.length=ct.length by rw [bp,nS]).symm.trans ed;refine Zj<|Zw ?_;replace aa:=aa.kp f1 f2;refine Wp.cutK [1000000] (fun f cw=>∃ cx cy bq,Zaz cy bq=some r∧St w0 (Xl [qc0] col) cx cw∧Zb rU 45 440 cx cw a0 ae bq∧bq.length=ac.length∧[7].map f=[.int .u64 cy]) ?_ ?_
    ·intro f cw hJ;obtain ⟨cx,cy,bq,hm,aa,f3,f4,hs⟩:=hJ;rw [Zaz.eq_1] at hm;refine .lL [7] hs<|go ?_;cases hm;exact ⟨rfl,_,rfl,aa.finL rfl (cm [(440,qc0)]),aa.foL f3,f4⟩
    refine go ?_;refine Zl hm (fun hb hm=>go ?_) fun hb hm=>?_
    ·refine Zt [0,143,144,5,7,1000000] (fun n f cz=>∃ c0 aw ax ay bd,n=bd.length∧ab.drop ax=bd∧Tg j0 n0 ab ad bd ax aw ay=some r∧St w0 (Xl [qc0] col) c0 cz∧Zb rU 45 440 c0 cz a0 ae aw∧aw.length=ac.length∧aw.length=ac.length∧[145,9].map f=[.int .i64 ax,.int .u64 ay]) ab.length ⟨_,_,0,0,_,rfl,rfl,hm,aa,cu,cv,cv,rfl⟩ ?_;clear hm;intro n f cz hI;obtain ⟨c0,aw,ax,ay,bd,hn,hl,hm,aa,a6,f5,f6,hs⟩:=hI;subst hn;refine .lL [145,9] hs ?_
     cases bd with
     | nil=>
      have hk:¬ ((ax:Int)<(ab.length:Int)):=by have:=aK.1 hl;omega
      have hkb:=decide_eq_false hk;rw [Tg.eq_1] at hm;refine go ?_;refine Yc (congrArg Value.bool hkb)<|go ?_;obtain ⟨el,hm⟩:=Zx hm;obtain ⟨em,en,hm⟩:=bZ hm;refine lV (X4 a0 (aA ((j0:Int)+(ab.length:Int)) * 1)) (W7 underlying38 sizeOf45 rfl rfl el.1 el.2 (a6.addr en))<|lW (a6.atInt en)<|go ?_;obtain ⟨eo,hm⟩:=Zx hm;obtain ⟨g7,ep,hm⟩:=bZ hm;refine lV (X4 a0 (aA ((j0:Int)+(ab.length:Int)) * 1)) (W7 underlying38 sizeOf45 rfl rfl eo.1 eo.2 (a6.addr ep)) ?_;obtain ⟨c1,br,hm⟩:=bZ hm;have br:c1=aw.set (aA ((j0:Int)+(ab.length:Int))) (u32.wrap (em+(u32.wrap ay))):=(Option.some.inj br).symm;refine Yp (x1:=u32.wrap (em+(u32.wrap ay))) a6 ep ?_;intro g8 f7 f8 eq;rw [← br] at eq;have f9:c1.length=ac.length:=(show aw.length=c1.length by rw [br,nS]).symm.trans f6;refine Zj ?_;replace aa:=aa.kp f7 f8;exact ⟨rfl,_,_,_,hm,aa,eq,f9,rfl⟩
     | cons bs ga=>
      obtain ⟨ag,gb,gc⟩:=Ys hl;have hk:(ax:Int)<(ab.length:Int):=by omega
      have hkb:=decide_eq_true hk;rw [Tg.eq_2] at hm;refine go ?_;refine Yd (congrArg Value.bool hkb)<|go ?_;refine lI ag ((h1.ks aa).addr ag)<|lW ((h1.ks aa).atInt ag) ?_;refine go ?_;obtain ⟨er,hm⟩:=Zx hm;obtain ⟨bt,es,hm⟩:=bZ hm;refine lV (X4 a0 (aA ((j0:Int)+(ax:Int)) * 1)) (W7 underlying38 sizeOf45 rfl rfl er.1 er.2 (a6.addr es))<|lW (a6.atInt es)<|go ?_;obtain ⟨et,hm⟩:=Zx hm;obtain ⟨g9,eu,hm⟩:=bZ hm;refine lV (X4 a0 (aA ((j0:Int)+(ax:Int)) * 1)) (W7 underlying38 sizeOf45 rfl rfl et.1 et.2 (a6.addr eu)) ?_;obtain ⟨c2,bu,hm⟩:=bZ hm;have bu:c2=aw.set (aA ((j0:Int)+(ax:Int))) (u32.wrap (u64.wrap (ay+(u64.wrap ((u64.wrap bt)+(u64.wrap bs)))))):=(Option.some.inj bu).symm;refine Yp (x1:=u32.wrap (u64.wrap (ay+(u64.wrap ((u64.wrap bt)+(u64.wrap bs)))))) a6 eu ?_;intro ha gd ge ew;rw [← bu] at ew;have ey:c2.length=ac.length:=(show aw.length=c2.length by rw [bu,nS]).symm.trans f5;refine go ?_;refine lV (.int .u64 (Yi .u64 (u64.wrap (ay+(u64.wrap ((u64.wrap bt)+(u64.wrap bs))))) 32)) (Sp (u64.wrap (ay+(u64.wrap ((u64.wrap bt)+(u64.wrap bs))))) 32 rfl rfl (by decide))<|go ?_;replace aa:=aa.kp gd ge;exact ⟨ga.length,by simp,rfl,⟨_,_,_,_,_,rfl,gb,hm,aa,ew,ey,ey,(Yx (congrArg (Value.int .i64) (Yt (aJ gc (h1.ks aa).1.1))) rfl)⟩⟩
    refine X7 ?_;exact ⟨rfl,_,_,_,hm,aa,cu,cv,rfl⟩
   | cons az c3=>
    obtain ⟨ag,gf,gg⟩:=Ys hl;have hk:(ak:Int)<(ab.length:Int):=by omega
    have hkb:=decide_eq_true hk;rw [Vz.eq_2] at hm;refine go ?_;refine Yd (congrArg Value.bool hkb)<|X7<|Zw ?_;refine Wp.cutK [0,1,5,7,87,88,89,1000000] (fun f c4=>∃ c5 be c6 c7,Zji ak (Vz j0 n0 ab ad c3) be c6 c7=some r∧St w0 (Xl [qc0] col) c5 c4∧Zb rU 45 440 c5 c4 a0 ae be∧be.length=ac.length∧be.length=ac.length∧[10,9].map f=[.int .u64 c6,.int .u64 c7]) ?_ ?_
    ·intro f c4 hJ;obtain ⟨c5,be,c6,c7,hm,aa,gh,gi,gj,hs⟩:=hJ;rw [Zji.eq_1] at hm;refine .lL [10,9] hs<|go ?_;exact ⟨c3.length,by simp,rfl,⟨_,_,_,_,_,_,rfl,gf,hm,aa,gh,gi,gj,(Yx (congrArg (Value.int .i64) (Yt (aJ gg (h1.ks aa).1.1))) rfl)⟩⟩
    refine go ?_;refine lI ag ((h1.ks aa).addr ag)<|lW ((h1.ks aa).atInt ag)<|Yz rfl<|Yz rfl<|Zj<|Zw<|Wk<|Xe rfl<|Xe rfl<|Xe rfl<|lV (.int .u64 (u64.wrap az)) (Zkk az ⟨_,underlying45⟩ underlying144 rfl)<|lV _ (Zig _ _ rfl rfl)<|lV _ (Ql _ _ rfl rfl)<|Yz rfl<|Zj<|Zw<|Wk<|Xe rfl<|lV (.int .u64 (U0 .u64 (u64.wrap (al+(u64.wrap (ad * (u64.wrap az))))) 4294967295)) (Zmz (u64.wrap (al+(u64.wrap (ad * (u64.wrap az))))) 4294967295 rfl rfl)<|Xe rfl<|lV _ (Ql _ _ rfl rfl)<|Yz rfl<|Zj<|Zw<|Wk<|Yz rfl<|Zj<|Zw ?_;refine Wp.cutK [0,1,11,13,5,7,87,88,89,9,1000000] (fun f c8=>∃ c9 da,Zeb j0 n0 ad an a5 ak al (Vz j0 n0 ab ad c3) az da=some r∧St w0 (Xl [qc0] col) c9 c8∧Zb rU 45 440 c9 c8 a0 ae an∧[10].map f=[.int .u64 da]) ?_ ?_
    ·intro f c8 hJ;obtain ⟨c9,da,hm,aa,ah,hs⟩:=hJ;rw [Zeb.eq_1] at hm;refine .lL [10] hs<|go ?_;obtain ⟨ez,hm⟩:=Zx hm;obtain ⟨e0,e1,hm⟩:=bZ hm;refine lV (X4 a0 (aA ((j0:Int)+(ak:Int)) * 1)) (W7 underlying38 sizeOf45 rfl rfl ez.1 ez.2 (ah.addr e1))<|lW (ah.atInt e1)<|go ?_;obtain ⟨e2,hm⟩:=Zx hm;obtain ⟨hc,e3,hm⟩:=bZ hm;refine lV (X4 a0 (aA ((j0:Int)+(ak:Int)) * 1)) (W7 underlying38 sizeOf45 rfl rfl e2.1 e2.2 (ah.addr e3)) ?_;obtain ⟨db,bv,hm⟩:=bZ hm;have bv:db=an.set (aA ((j0:Int)+(ak:Int))) (u32.wrap (e0 - (u32.wrap (u64.wrap ((U0 .u64 (u64.wrap (al+(u64.wrap (ad * (u64.wrap az))))) 4294967295)+a5))))):=(Option.some.inj bv).symm;refine Yp (x1:=u32.wrap (e0 - (u32.wrap (u64.wrap ((U0 .u64 (u64.wrap (al+(u64.wrap (ad * (u64.wrap az))))) 4294967295)+a5))))) ah e3 ?_;intro he gk gl e4;rw [← bv] at e4;have e5:db.length=ac.length:=(show an.length=db.length by rw [bv,nS]).symm.trans ed;refine go ?_;refine lV (.int .u64 (Yi .u64 (u64.wrap (al+(u64.wrap (ad * (u64.wrap az))))) 32)) (Sp (u64.wrap (al+(u64.wrap (ad * (u64.wrap az))))) 32 rfl rfl (by decide))<|go ?_;replace aa:=aa.kp gk gl;exact ⟨rfl,_,_,_,_,hm,aa,e4,e5,e5,rfl⟩
    refine go ?_;obtain ⟨e6,hm⟩:=Zx hm;obtain ⟨hf,e7,hm⟩:=bZ hm;refine lV (X4 a0 (aA ((j0:Int)+(ak:Int)) * 1)) (W7 underlying38 sizeOf45 rfl rfl e6.1 e6.2 (ah.addr e7))<|lW (ah.atInt e7)<|go ?_;refine Zl hm (fun hb hm=>go ?_) fun hb hm=>?_
    ·exact ⟨rfl,_,1,hm,aa,ah,rfl⟩
    refine X7 ?_;exact ⟨rfl,_,0,hm,aa,ah,rfl⟩
  refine Y0 (col:=ao) (by kernel_rfl) (by kernel_rfl)<|go ?_;refine Xo hm (fun bw hm=>go ?_) fun bw hm=>go ?_
  ·refine V2 54 rfl rfl rfl rfl<|V2 54 rfl rfl rfl rfl<|V2 54 rfl rfl rfl rfl<|V2 54 rfl rfl rfl rfl<|V2 54 rfl rfl rfl rfl<|V2 54 rfl rfl rfl rfl<|V2 54 rfl rfl rfl rfl<|V2 54 rfl rfl rfl rfl<|V2 54 rfl rfl rfl rfl<|V2 54 rfl rfl rfl rfl<|V2 54 rfl rfl rfl rfl<|V2 54 rfl rfl rfl rfl<|V2 54 rfl rfl rfl rfl<|V2 54 rfl rfl rfl rfl<|V2 54 rfl rfl rfl rfl<|V2 54 rfl rfl rfl rfl<|V2 54 rfl rfl rfl rfl<|V2 54 rfl rfl rfl rfl<|go ?_;refine qv (v:=(.bool true)) rfl (fun _ hC=>Z5 (congrArg Value.bool bw) rfl) ?_;refine Xw ?_;intro hg hC;replace hC:=hC.bl ao;replace h0:=h0.gr hC;replace aa:=aa.grow hC;exact ⟨rfl,_,_,hm,aa,h0,rfl⟩
  refine Xo hm (fun dc hm=>go ?_) fun dc hm=>go ?_
  ·obtain ⟨e8,dd,hm⟩:=bZ hm;refine qI dd ((h1.ks aa).addr dd) ?_;refine go ?_;refine qW (fun _ hC=>((h1.ks aa).gr (hC.bl ao)).atInt dd) ?_;refine go ?_;refine qv (v:=(.int .u64 (Xy .u64 ap 32))) rfl (fun _ hC=>Zfs ap 32 rfl rfl (by decide)) ?_;refine go ?_;obtain ⟨e9,hm⟩:=Zx hm;obtain ⟨fa,fb,hm⟩:=bZ hm;refine qv (v:=(X4 a0 (aA ((j0:Int)+(i64.wrap ((ab.length:Int) - 2))) * 1))) rfl (fun _ hC=>W7 underlying38 sizeOf45 rfl rfl e9.1 e9.2 (h0.addr fb)) ?_;refine go ?_;refine qW (fun _ hC=>(h0.gr (hC.bl ao)).atInt fb) ?_;refine go ?_;refine qv (v:=(.bool (decide ((Yy .u64 (Xy .u64 ap 32) (u64.wrap fa))<(u64.wrap (ad * (u64.wrap e8))))))) rfl (fun _ hC=>Z5 (congrArg Value.bool dc) rfl) ?_;refine qv (v:=(.bool (decide ((Yy .u64 (Xy .u64 ap 32) (u64.wrap fa))<(u64.wrap (ad * (u64.wrap e8))))))) rfl (fun _ hC=>Xn (congrArg Value.bool bw) rfl) ?_;refine Xw ?_;intro hh hC;replace hC:=hC.bl ao;replace h0:=h0.gr hC;replace aa:=aa.grow hC;exact ⟨rfl,_,_,hm,aa,h0,rfl⟩
  refine qv (v:=(.bool false)) rfl (fun _ hC=>Xn (congrArg Value.bool dc) rfl) ?_;refine qv (v:=(.bool false)) rfl (fun _ hC=>Xn (congrArg Value.bool bw) rfl) ?_;refine Xw ?_;intro hi hC;replace hC:=hC.bl ao;exact ⟨rfl,_,_,hm,aa.grow hC,h0.gr hC,rfl⟩
def Zl0 (aa:Int) (kk_L2:(List Int→Int→Option Rd)) (ab:List Int):Option Rd:=
  kk_L2 ab (i64.wrap (aa+1))
def Zg2 (ab:Int) (ac:List Int) (aa:Int) (kk_L2:(List Int→Int→Option Rd)) (ad:Int):Option Rd:=
  (Zi ac aa).bind fun ae=>Zv (0≤ab) ((some (ac.set (aA aa) (u32.wrap (Yi .u64 (Yy .u64 (Xy .u64 (u64.wrap ad) 32) (u64.wrap ae)) ab)))).bind fun af=>Zl0 aa kk_L2 af)
def T9 (N:Nat) (ac:Int) (ad ae:List Int):Nat→R2→Int→Option Rd
  | 0,_,_=>none
  | af+1,aa,ab=>if (decide (ab<(ae.length:Int)))=true then (if (decide ((i64.wrap (ab+1))<(aa.length:Int)))=true then ((Zi aa (i64.wrap (ab+1))).bind fun ag=>Zg2 ac aa ab (T9 N ac ad ae af) ag) else (Zg2 ac aa ab (T9 N ac ad ae af) 0)) else ((Ud N ad).bind fun ah=>(Ud N aa).bind fun ai=>some (ah,ai,0))
def Zd8 (N:Nat) (ae:Int) (ab:List Int):Nat→R2→R2→Int→Option Rd
  | 0,_,_,_=>none
  | ah+1,ac,ad,aa=>if (decide (0≤aa))=true then (Zv ((0:Int)≤aa∧aa<(i64.wrap ((i64.wrap (aa+(ab.length:Int)))+1))∧(i64.wrap ((i64.wrap (aa+(ab.length:Int)))+1))≤(ac.length:Int)) ((Zg4 N (aA aa) ((aA (i64.wrap ((i64.wrap (aa+(ab.length:Int)))+1))) - (aA aa)) ac ab).bind fun af=>(Zi ad aa).bind fun aj=>(some (ad.set (aA aa) af.1)).bind fun ai=>(Zd8 N ae ab ah) af.2 ai (i64.wrap (aa - 1)))) else ((Zed N ac).bind fun ag=>T9 N ae ad ag N ag 0)
def Zd7 (N:Nat) (ae af:List Int):Option Rd:=
  (Ue N ae).bind fun ab=>(Ue N af).bind fun aa=>if (decide ((aa.length:Int)=0))=true then (some (([]:List Int),([]:List Int),11)) else ((Zd5 N ab aa).bind fun ag=>if (decide (ag<0))=true then ((Ud N ab).bind fun ah=>some (([]:List Int),ah,0)) else (if (decide ((aa.length:Int)=1))=true then ((Zfk ab).bind fun ai=>(Zi aa 0).bind fun aj=>(Zjj N ai aj).bind fun ad=>(Ud N ad.2).bind fun ak=>(Ud N [ad.1]).bind fun al=>some (ak,al,0)) else ((Zi aa (i64.wrap ((aa.length:Int) - 1))).bind fun am=>(Zi9 am).bind fun ac=>(Zg5 ab ac).bind fun an=>(Zg5 aa ac).bind fun ao=>(Zed N ao).bind fun ap=>Zv ((aA (i64.wrap ((i64.wrap ((ab.length:Int) - (aa.length:Int)))+1))) * 4≤281474976710656∧(aA (i64.wrap ((i64.wrap ((ab.length:Int) - (aa.length:Int)))+1)))≤maxLen∧0≤(i64.wrap ((i64.wrap ((ab.length:Int) - (aa.length:Int)))+1))) (Zd8 N ac ap N an (aI (aA (i64.wrap ((i64.wrap ((ab.length:Int) - (aa.length:Int)))+1))) (0:Int)) (i64.wrap (((aI (aA (i64.wrap ((i64.wrap ((ab.length:Int) - (aa.length:Int)))+1))) (0:Int)).length:Int) - 1))))))
theorem Znw {N bu bv:Nat} {a0 a1:Option Addr} {col:Zd} {w0:World} {be bf:R2} {r:Rd} (c1 c2:Nat) (hm:Zd7 N be bf=some r) (h0:Sl rU col w0 a0 bu be) (h1:Sl rU col w0 a1 bv bf):
    Calls prog 157 #[.slice a0 be.length bu,.slice a1 bf.length bv] w0 (fun e w'=>∃ col' ra1 rc2 ra4 rc5,e= .returned (.tuple #[.slice ra1 r.1.length rc2,.slice ra4 r.2.1.length rc5,.int .i64 r.2.2])∧Zk col w0 col' w'∧Zb rU 45 c1 col' w' ra1 rc2 r.1∧Zb rU 45 c2 col' w' ra4 rc5 r.2.1):=by
 refine Zrb 4 5 6 (m:=122) (args:=[.slice a0 be.length bu,.slice a1 bf.length bv]) func157 rfl rfl rfl rfl rfl ?_;rw [Zd7.eq_1] at hm;have aa:=St.start col w0;refine go ?_;obtain ⟨cx,cy,hm⟩:=bZ hm;refine Zh (Tr cy (h0.k0.ks aa)) fun _ ea ⟨eb,ec,ed,e',cz,af⟩=>⟨_,e',?_⟩;refine Y8 rfl ?_;obtain ⟨c0,c3,hm⟩:=bZ hm;replace aa:=aa.grow cz;refine Zh (Tr c3 (h1.k0.ks aa)) ?_;rintro _ c4 ⟨ay,ee,ef,rfl,cj,ac⟩;refine ⟨_,rfl,go ?_⟩;replace af:=af.gr cj;replace aa:=aa.grow cj;refine Zl hm (fun hb hm=>go ?_) fun hb hm=>go ?_
 ·cases hm;exact ⟨rfl,_,none,0,none,0,rfl,aa.fin (cm []),Zb.nil,Zb.nil⟩
 obtain ⟨eg,c5,hm⟩:=bZ hm;refine Zh (Znv c5 af ac) fun _ ck ⟨e',az⟩=>⟨_,e',?_⟩;replace az:Zk ay c4 ay ck:=.of_below az;refine go ?_;replace af:=af.gr az;replace ac:=ac.gr az;replace aa:=aa.grow az;refine Zl hm (fun hb hm=>go ?_) fun hb hm=>go ?_
 ·obtain ⟨eh,c6,hm⟩:=bZ hm;refine Zh (Tq 1 c6 af) ?_;rintro _ ei ⟨ej,ek,el,rfl,c7,c8⟩;refine ⟨_,rfl,go ?_⟩;cases hm;replace aa:=aa.grow c7;exact ⟨rfl,_,none,0,_,_,rfl,aa.fin (cm [(1,c2)]),Zb.nil,aa.fo c8⟩
 refine Zl hm (fun hb hm=>go ?_) fun hb hm=>go ?_
 ·obtain ⟨cl,c9,hm⟩:=bZ hm;refine Zh (Zn4 2 c9 af) ?_;rintro _ em ⟨en,bg,bh,rfl,cn,da⟩;refine ⟨_,rfl,go ?_⟩;obtain ⟨eo,bw,hm⟩:=bZ hm;replace ac:=ac.gr cn;refine lI bw (ac.addr bw)<|lW (ac.atInt bw) ?_;obtain ⟨a2,db,hm⟩:=bZ hm;refine Zh (Zzz 2 db rfl da) fun _ dc ⟨bx,e',dd,de,co⟩=>⟨_,e',?_⟩;refine .ld (d:=7) (v:=(.slice bg a2.2.length bh)) (congrArg (fun n=>Value.slice bg n bh) (show cl.length=a2.2.length from co.symm)) ?_;refine .ld (d:=34) (v:=(.slice bg a2.2.length bh)) (congrArg (fun n=>Value.slice bg n bh) (show cl.length=a2.2.length from co.symm)) ?_;refine go ?_;obtain ⟨ep,df,hm⟩:=bZ hm;refine Zh (Tq 3 df (de.toSlF (Zm.int .u32))) fun _ eq ⟨dg,er,es,e',bi,a3⟩=>⟨_,e',?_⟩;replace a3:=a3.thaw (Z8 .u32) bi ((Fz.refl (col:=bx)).froz 2);replace bi:=bi.thawR (col:=bx);generalize Xb dc.heap.size bx dg=dh at *;refine Xe rfl<|Wt (col:=dh) [a2.1] 4 ?_;intro et di bz cp dj;obtain ⟨eu,dk,hm⟩:=bZ hm;refine Zh (Tq 5 dk (dj.toSlF (Zm.int .u32))) fun _ ew ⟨dl,ey,ez,e',a4,b0⟩=>⟨_,e',?_⟩;replace b0:=b0.thaw (Z8 .u32) a4 ((Fz.refl (col:=bz)).froz 4);replace a4:=a4.thawR (col:=bz);generalize Xb di.heap.size bz dl=e0 at *;refine go ?_;cases hm;replace aa:=((((aa.grow cn).kpp dd).grow bi).grow cp).grow a4;exact ⟨rfl,_,_,_,_,_,rfl,aa.fin (cm [(3,c1),(5,c2)]),aa.fo ((a3.gr cp).gr a4),aa.fo b0⟩
 obtain ⟨e1,b1,hm⟩:=bZ hm;refine lI b1 (ac.addr b1)<|lW (ac.atInt b1) ?_;obtain ⟨ah,dm,hm⟩:=bZ hm;refine Zh (Zzm (col:=ay) dm) fun _ dn ⟨e',a5⟩=>⟨_,e',?_⟩;replace a5:Zk ay ck ay dn:=.of_below a5;refine go ?_;obtain ⟨e2,dp,hm⟩:=bZ hm;refine Zh (Zqr 6 dp (af.gr a5)) ?_;rintro _ e3 ⟨e4,e5,e6,rfl,cq,a6⟩;refine ⟨_,rfl,go ?_⟩;obtain ⟨e7,dq,hm⟩:=bZ hm;refine Zh (Zqr 7 dq ((ac.gr a5).gr cq)) fun _ e8 ⟨e9,fa,fb,e',cr,dr⟩=>⟨_,e',?_⟩;obtain ⟨b2,ds,hm⟩:=bZ hm;refine Zh (Zqs 7 ds rfl dr) ?_;rintro _ dt ⟨du,dv,dw,rfl,cs,ag⟩;refine ⟨_,rfl,go ?_⟩;obtain ⟨bj,hm⟩:=Zx hm;refine Ty (col:=du) (w:=dt) (r:=rU) (n:=(aA (i64.wrap ((i64.wrap ((cx.length:Int) - (c0.length:Int)))+1)))) (x0:=0) 8 rfl underlying38 Tryz.t45 rfl rfl rfl rfl rfl (congrArg (Value.int _) (bE bj.2.2).symm) (congrArg (Value.int _) (bE bj.2.2).symm) bj.1 bj.2.1 (Zag .u32 0) ?_;intro fc fd fe b3 b4;refine go ?_;replace a6:=((a6.gr cr).kpp cs).gr b3;replace ag:=ag.gr b3;replace ag:=(ag).toSlF (Zm.int .u32);replace aa:=((((aa.grow a5).grow cq).grow cr).kpp cs).grow b3;replace aa:=aa.froz 7 (by decide) (by decide);refine Zt [11,9,1000000] (fun n f a7=>∃ a8 ap aq a9 aj ak ad al ar,ar=n∧Zd8 N ah b2 ar a9 ad al=some r∧St w0 (Zg col) a8 a7∧Zb rU 45 6 a8 a7 ap aq a9∧Sl rU a8 a7 dv dw b2∧Zb rU 45 8 a8 a7 aj ak ad∧[10,12,13].map f=[.slice ap a9.length aq,.slice aj ad.length ak,.int .i64 al]) N ⟨_,_,_,_,_,_,_,_,_,rfl,hm,aa,a6.froz 7,ag,b4.froz 7,rfl⟩ ?_;clear hm;intro n f a7 hI;obtain ⟨a8,ap,aq,a9,aj,ak,ad,al,ar,hn,hm,aa,b5,ag,ab,hs⟩:=hI;subst hn;refine .lL [10,12,13] hs ?_
 cases ar with
 | zero=>rw [Zd8.eq_1] at hm;cases hm
 | succ ar=>
  rw [Zd8.eq_2] at hm;refine go ?_;refine Zl hm (fun hb hm=>go ?_) fun hb hm=>go ?_
  ·obtain ⟨b6,hm⟩:=Zx hm;refine lV (.slice (ap.map (·.add ((aA al) * 1))) ((aA (i64.wrap ((i64.wrap (al+(b2.length:Int)))+1))) - (aA al)) (aq - (aA al))) (Z4y underlying38 sizeOf45 rfl rfl rfl b6.1 b6.2.1 (by have:=b5.lecap;have:=b6.2.2;omega))<|Y8 rfl ?_;obtain ⟨bk,dx,hm⟩:=bZ hm;refine Zh (Zzx 6 dx rfl b5 ag) fun _ ff ⟨fg,e',b7,b8,dy⟩=>⟨_,e',?_⟩;refine .ld (d:=10) (v:=(.slice ap bk.2.length aq)) (congrArg (fun n=>Value.slice ap n aq) (show a9.length=bk.2.length from dy.symm)) ?_;obtain ⟨fh,b9,hm⟩:=bZ hm;replace ab:=ab.kpp b7;refine lI b9 (ab.addr b9) ?_;obtain ⟨ca,bm,hm⟩:=bZ hm;have bm:ca=ad.set (aA al) bk.1:=(Option.some.inj bm).symm;refine Yp (x1:=bk.1) ab b9 ?_;intro fi cb dz ct;rw [← bm] at ct;refine .ld (d:=12) (v:=(.slice aj ca.length ak)) (congrArg (fun n=>Value.slice aj n ak) (show ad.length=ca.length by rw [bm,nS])) ?_;refine go ?_;replace aa:=(aa.kpp b7).kp cb dz;exact ⟨ar,by omega,rfl,⟨_,_,_,_,_,_,_,_,_,rfl,hm,aa,b8.kp cb,(ag.kpp b7).kp cb,ct,rfl⟩⟩
  obtain ⟨cc,d0,hm⟩:=bZ hm;refine Zh (Zqs 6 d0 rfl b5) ?_;rintro _ fj ⟨fk,fl,fm,rfl,cu,d1⟩;refine ⟨_,rfl,go ?_⟩;replace ab:=ab.kpp cu;replace aa:=aa.kpp cu;refine Zt [12,88,9,1000000] (fun n f ba=>∃ ao au av am aw an,an=n∧T9 N ah ad cc an am aw=some r∧St w0 (Zg col) ao ba∧Zb rU 45 6 ao ba au av am∧Zb rU 45 8 ao ba aj ak ad∧[10,89].map f=[.slice au am.length av,.int .i64 aw]) N ⟨_,_,_,_,0,_,rfl,hm,aa,d1,ab,rfl⟩ ?_;clear hm;intro n f ba hI;obtain ⟨ao,au,av,am,aw,an,hn,hm,aa,ae,ab,hs⟩:=hI;subst hn;refine .lL [10,89] hs ?_
  cases an with
  | zero=>rw [T9.eq_1] at hm;cases hm
  | succ an=>
   rw [T9.eq_2] at hm;refine go ?_;refine Zl hm (fun hb hm=>?_) fun hb hm=>go ?_
   ·refine X7<|Zw ?_;refine Wp.cutK [12,88,89,9,1000000] (fun f bn=>∃ bo cd ce bp,Zl0 aw (T9 N ah ad cc an) bp=some r∧St w0 (Zg col) bo bn∧Zb rU 45 6 bo bn cd ce bp∧Zb rU 45 8 bo bn aj ak ad∧[10].map f=[.slice cd bp.length ce]) ?_ ?_
    ·intro f bn hJ;obtain ⟨bo,cd,ce,bp,hm,aa,d2,ab,hs⟩:=hJ;rw [Zl0.eq_1] at hm;refine .lL [10] hs<|go ?_;exact ⟨an,by omega,rfl,⟨_,_,_,_,_,_,rfl,hm,aa,d2,ab,rfl⟩⟩
    refine Zde<|Zw<|Wk<|Xe rfl<|Yz rfl<|Zj<|Zw<|Wk<|Yz rfl<|Zj<|Zw ?_;refine Wp.cutK [10,12,14,88,89,9,1000000] (fun f bq=>∃ br ai,Zg2 ah am aw (T9 N ah ad cc an) ai=some r∧St w0 (Zg col) br bq∧Zb rU 45 6 br bq au av am∧Zb rU 45 8 br bq aj ak ad∧[15].map f=[.int .u32 ai]) ?_ ?_
    ·intro f bq hJ;obtain ⟨br,ai,hm,aa,ae,ab,hs⟩:=hJ;rw [Zg2.eq_1] at hm;refine .lL [15] hs<|go ?_;refine lV (.int .u64 (Xy .u64 (u64.wrap ai) 32)) (Zfs (u64.wrap ai) 32 rfl rfl (by decide))<|go ?_;obtain ⟨bs,ax,hm⟩:=bZ hm;refine lI ax (ae.addr ax)<|lW (ae.atInt ax) ?_;refine go ?_;obtain ⟨d3,hm⟩:=Zx hm;refine lV (.int .u64 (Yi .u64 (Yy .u64 (Xy .u64 (u64.wrap ai) 32) (u64.wrap bs)) ah)) (Sp (Yy .u64 (Xy .u64 (u64.wrap ai) 32) (u64.wrap bs)) ah rfl rfl d3)<|go ?_;refine lI ax (ae.addr ax) ?_;obtain ⟨cf,bt,hm⟩:=bZ hm;have bt:cf=am.set (aA aw) (u32.wrap (Yi .u64 (Yy .u64 (Xy .u64 (u64.wrap ai) 32) (u64.wrap bs)) ah)):=(Option.some.inj bt).symm;refine Yp (x1:=u32.wrap (Yi .u64 (Yy .u64 (Xy .u64 (u64.wrap ai) 32) (u64.wrap bs)) ah)) ae ax ?_;intro fn cv d4 cw;rw [← bt] at cw;refine .ld (d:=10) (v:=(.slice au cf.length av)) (congrArg (fun n=>Value.slice au n av) (show am.length=cf.length by rw [bt,nS])) ?_;refine Zj ?_;replace ab:=ab.kp cv;replace aa:=aa.kp cv d4;exact ⟨rfl,_,_,_,_,hm,aa,cw,ab,rfl⟩
    refine go ?_;refine Zl hm (fun hb hm=>go ?_) fun hb hm=>?_
    ·obtain ⟨fp,cg,hm⟩:=bZ hm;refine lI cg (ae.addr cg)<|lW (ae.atInt cg) ?_;refine go ?_;exact ⟨rfl,_,_,hm,aa,ae,ab,rfl⟩
    refine X7 ?_;exact ⟨rfl,_,0,hm,aa,ae,ab,rfl⟩
   obtain ⟨fq,d5,hm⟩:=bZ hm;refine Zh (Tq 9 d5 (ab.toSlF (Zm.int .u32))) fun _ d6 ⟨d7,fr,ft,e',bb,bc⟩=>⟨_,e',?_⟩;replace bc:=bc.thaw (Z8 .u32) bb ((Fz.refl (col:=ao)).froz 8);replace bb:=bb.thawR (col:=ao);generalize Xb ba.heap.size ao d7=ch at *;refine Y8 rfl ?_;obtain ⟨fu,d8,hm⟩:=bZ hm;refine Zh (Tq 10 d8 ((ae.gr bb).toSlF (Zm.int .u32))) fun _ fv ⟨d9,fw,fx,e',bd,ci⟩=>⟨_,e',?_⟩;replace ci:=ci.thaw (Z8 .u32) bd ((Fz.refl (col:=ch)).froz 6);replace bd:=bd.thawR (col:=ch);generalize Xb d6.heap.size ch d9=fy at *;refine go ?_;cases hm;replace aa:=(aa.grow bb).grow bd;exact ⟨rfl,_,_,_,_,_,rfl,aa.fin (cm [(9,c1),(10,c2)]),aa.fo (bc.gr bd),aa.fo ci⟩
def Zjd (N:Nat) (ab:List Int):Option Int:=
  (Ue N ab).bind fun aa=>if (decide ((aa.length:Int)=0))=true then (some 0) else ((Zi aa (i64.wrap ((aa.length:Int) - 1))).bind fun ac=>(Zgq ac).bind fun ad=>some (i64.wrap ((i64.wrap (32 * (i64.wrap ((aa.length:Int) - 1))))+ad)))
theorem Zzv {N af:Nat} {a0:Option Addr} {col:Zd} {w0:World} {ab:R2} {r:Int} (hm:Zjd N ab=some r) (h0:Sl rU col w0 a0 af ab):
    Calls prog 155 #[.slice a0 ab.length af] w0 (Wq w0 r):=by
 refine Z7 2 (m:=20) func155 rfl rfl rfl rfl rfl ?_;rw [Zjd.eq_1] at hm;have aa:=St.start col w0;refine go ?_;obtain ⟨am,ah,hm⟩:=bZ hm;refine Zh (Tr ah (h0.k0.ks aa)) ?_;rintro _ ai ⟨ac,an,ao,rfl,aj,ag⟩;refine ⟨_,rfl,go ?_⟩;replace aa:=aa.grow aj;refine Zl hm (fun hb hm=>go ?_) fun hb hm=>go ?_
 ·cases hm;exact ⟨rfl,rfl,aa.below⟩
 obtain ⟨ap,ad,hm⟩:=bZ hm;refine lI ad (ag.addr ad)<|lW (ag.atInt ad) ?_;obtain ⟨aq,ak,hm⟩:=bZ hm;refine Zh (Zqm (col:=ac) ak) fun _ al ⟨e',ae⟩=>⟨_,e',?_⟩;replace ae:Zk ac ai ac al:=.of_below ae;refine go ?_;cases hm;exact ⟨rfl,rfl,(aa.grow ae).below⟩
def Xd (n:Nat):Nat:=if n=0 then 0 else n.log2+1
theorem Zf1:Xd 0=0:=rfl
theorem Zqf {n k:Nat} (h:2 ^ k≤n) (h2:n<2 ^ (k+1)):Xd n=k+1:=by
 have a:n≠0:=by have:=bU k;omega
 rw [Xd,if_neg a,(iX a).2 ⟨h,h2⟩]
theorem Zlb {n:Nat} (h:n≠0):∃ k,Xd n=k+1∧2 ^ k≤n∧n<2 ^ (k+1):=by
 refine ⟨n.log2,by rw [Xd,if_neg h],?_⟩
 exact (iX h).1 rfl
theorem Vr {n k:Nat}:Xd n≤k↔n<2 ^ k:=by
 by_cases h:n=0
 ·subst h;simp [Zf1,bU]
 ·obtain ⟨j,e,c,d⟩:=Zlb h
  rw [e]
  constructor
  ·intro b;exact aJ d (fJ (by decide) b)
  ·intro b
   have:=(Nat.pow_lt_pow_iff_right (a:=2) (by decide)).1 (dS c b)
   omega
theorem Zit (n k:Nat):Xd (n / 2 ^ k)=Xd n - k:=by
 by_cases h:n / 2 ^ k=0
 ·have a:n<2 ^ k:=by
   have:=bU k
   rcases Nat.div_eq_zero_iff.1 h with h | h
   ·omega
   ·exact h
  have:=Vr.2 a
  rw [h,Zf1];omega
 ·obtain ⟨j,e,a,c⟩:=Zlb h
  have b:=bU k
  have d:2 ^ (j+k)≤n:=by
   rw [cN]
   exact (dW b).1 a
  have f:n<2 ^ (j+k+1):=by
   have:=(cY b).1 c
   rw [show j+k+1=(j+1)+k by omega,cN];exact this
  rw [e,Zqf d f];omega
theorem Z3f:∀ x:Fin 256,Zdz (x.val:Int) 0=some ((Xd x.val:Nat):Int):=by decide+kernel
theorem Zto {x:Nat} (h:x<256) {n:Int} (hn:0≤n∧n≤24):Zdz (x:Int) n=some (n+(Xd x:Int)):=by
 have a:=Z3f ⟨x,h⟩
 have c:Xd x≤8:=Vr.2 h
 rw [Zdz] at a ⊢
 revert a
 generalize Zk6 _ _=o
 intro a
 cases o with
 | none=>cases a
 | some e=>
  rw [oB] at a ⊢
  have b:=Option.some.inj a
  rw [IntKind.wrap_i64,IntKind.wrap_i64] at b ⊢
  congr 1
  simp only at b
  omega
theorem Znb (i:IntKind) (x k:Nat) (hk:k≤i.bits):Yi i (x:Int) (k:Int)=((x / 2 ^ k:Nat):Int):=by
 rw [Yi,aB,aR hk,gE _ (Int.le_of_lt (Int.pow_pos (by decide)))]
 norm_cast
theorem Zti {x:Nat} (h:x<4294967296):Zgq (x:Int)=some ((Xd x:Nat):Int):=by
 have b:∀ (y:Nat) (n:Int),y<65536→0≤n∧n≤16→Zgr (y:Int) n=some (n+(Xd y:Int)):=fun y n d f=>by
  rw [Zgr]
  by_cases h1:256≤y
  ·have e:=Znb .u32 y 8 (by decide)
   have a:=Zit y 8
   have c:8≤Xd y:=by
    have:¬ Xd y≤7:=fun h=>by have:=Vr.1 h;omega
    omega
   rw [if_pos (by simp;omega),show (8:Int)=((8:Nat):Int) from rfl,e,Zto (by omega) (by rw [Zp (by omega)];omega),Zp (by omega),a]
   congr 1;omega
  ·rw [if_neg (by simp;omega),Zto (by omega) (by omega)]
 rw [Zgq]
 by_cases h1:65536≤x
 ·have e:=Znb .u32 x 16 (by decide)
  have a:=Zit x 16
  have c:16≤Xd x:=by
   have:¬ Xd x≤15:=fun h=>by have:=Vr.1 h;omega
   omega
  rw [if_pos (by simp;omega),show (16:Int)=((16:Nat):Int) from rfl,e,b _ _ (by omega) (by omega),a]
  congr 1;omega
 ·rw [if_neg (by simp;omega),b _ _ (by omega) (by omega)]
  congr 1;omega
theorem Zqh {a:List Int} {x:Int} (ha:Zn a) (hx:0<x∧x<4294967296):Xd (Zc (a++[x]))=32 * a.length+Xd x.toNat:=by
 obtain ⟨k,e,d,g⟩:=Zlb (show x.toNat≠0 by omega)
 have f:=Sj ha
 have c:Zc (a++[x])=Zc a+4294967296 ^ a.length * x.toNat:=by rw [Si,Y3,Yg];simp
 have b:(4294967296:Nat) ^ a.length=2 ^ (32 * a.length):=by rw [show (4294967296:Nat)=2 ^ 32 by decide,← Nat.pow_mul]
 rw [e]
 have:=Zqf (n:=Zc (a++[x])) (k:=32 * a.length+k) (by
   rw [c,b,cN]
   have:=aS (2 ^ (32 * a.length)) d
   omega) (by
   rw [c,show 32 * a.length+k+1=32 * a.length+(k+1) by omega,cN,b]
   have:=aS (2 ^ (32 * a.length)) (show x.toNat+1≤2 ^ (k+1) by omega)
   rw [dO] at this
   rw [b] at f
   omega)
 rw [this];omega
theorem Zk9 (n:Nat):32 * ((Zf n).length - 1)≤Xd n∧Xd n≤32 * (Zf n).length:=by
 have e:∀ k,(4294967296:Nat) ^ k=2 ^ (32 * k):=fun k=>by rw [show (4294967296:Nat)=2 ^ 32 by decide,← Nat.pow_mul]
 constructor
 ·by_cases h:32 * ((Zf n).length - 1)≤Xd n
  ·exact h
  ·exfalso
   have a:=Vr.1 (show Xd n≤32 * ((Zf n).length - 1) by omega)
   rw [← e] at a
   have:=Wu.2 a
   omega
 ·have:=Wu.1 (bB (Zf n).length)
  rw [e] at this
  exact Vr.2 this
theorem Zy0 {N:Nat} {a:List Int} (h:Zn a) (hn:a.length<N) (hb:a.length≤35184372088000):Zjd N a=some ((Xd (Zc a):Nat):Int):=by
 have i:=X9 h
 rw [Zjd,Sr h hn hb,oB]
 by_cases h0:(Zf (Zc a)).length=0
 ·have:Zc a=0:=Zf9.1 (bY h0)
  rw [if_pos (by simp [h0]),this,Zf1];rfl
 ·have b:0<(Zf (Zc a)).length:=by omega
  have e:((Zf (Zc a)).length:Int) - 1=(((Zf (Zc a)).length - 1:Nat):Int):=by omega
  have j:=(Z2 (Zc a)).get (k:=(Zf (Zc a)).length - 1) (by omega)
  have f:=Zlt b
  have c:=Zf8 b
  have d:(Zf (Zc a))[(Zf (Zc a)).length - 1]=(((Zf (Zc a))[(Zf (Zc a)).length - 1]).toNat:Int):=by omega
  rw [if_neg (by simpa using h0),Zp (by omega),e,Zs (by omega),oB,d,Zti (by omega),oB]
  have hb:=Zqh (a:=(Zf (Zc a)).take ((Zf (Zc a)).length - 1)) (x:=(Zf (Zc a))[(Zf (Zc a)).length - 1]) ((Z2 _).take _) (by omega)
  rw [c,Z3,nK,aR (by omega)] at hb
  have g:Xd ((Zf (Zc a))[(Zf (Zc a)).length - 1]).toNat≤32:=Vr.2 (by omega)
  rw [Zp (x:=32 * _) (by omega),Zp (by omega),hb]
  congr 1
theorem Zf2 (w x:Nat) (h:x<2 ^ w):(BitVec.ofInt w (x:Int)).toNat=x:=by
 rw [BitVec.toNat_ofInt]
 have:((2 ^ w:Nat):Int)=(2:Int) ^ w:=by norm_cast
 rw [← iP,aB,dC h]
theorem or64 (k a b:Nat) (h:b<2 ^ k) (hs:2 ^ k * a+b<18446744073709551616):Yy .u64 ((2 ^ k * a:Nat):Int) (b:Int)=((2 ^ k * a+b:Nat):Int):=by
 rw [Yy,BitVec.toNat_or,Zf2 _ _ (by simp only [IntKind.bits];omega),Zf2 _ _ (by simp only [IntKind.bits];omega),← fY h,IntKind.wrap_u64]
 omega
theorem or32 (k a b:Nat) (h:b<2 ^ k) (hs:2 ^ k * a+b<4294967296):Yy .u32 (b:Int) ((2 ^ k * a:Nat):Int)=((2 ^ k * a+b:Nat):Int):=by
 rw [Yy,BitVec.toNat_or,Zf2 _ _ (by simp only [IntKind.bits];omega),Zf2 _ _ (by simp only [IntKind.bits];omega),Nat.or_comm,← fY h,IntKind.wrap_u32]
 omega
theorem Z5n {x:Int} (h:0≤x∧x<4294967296):Xy .u64 x 32=x * 4294967296:=by
 have:(min (32:Int).toNat u64.bits)=32:=by decide
 rw [Xy,this,IntKind.wrap_u64]
 omega
theorem Znf {r e:Int} (hr:0≤r∧r<4294967296) (he:0≤e∧e<4294967296):Yy .u64 (Xy .u64 r 32) e=r * 4294967296+e:=by
 rw [Z5n hr]
 have:=or64 32 r.toNat e.toNat (by omega) (by omega)
 rw [show ((2 ^ 32 * r.toNat:Nat):Int)=r * 4294967296 by omega,show ((e.toNat:Nat):Int)=e by omega] at this
 rw [this];omega
theorem Zdd {l:List Int} {k j:Nat} (v:Int) (h:j≤k):(l.set k v).take j=l.take j:=by
 rw [List.take_set,List.set_eq_of_length_le]
 rw [nK];omega
theorem Zxt (N:Nat) (d:Int) (hd:0<d∧d<4294967296):∀ (n j:Nat) (r:List Int) (c:Int),j≤r.length→j<n→r.length<4611686018427387904→Zn r→0≤c∧c<d→
  ∃ c' r',Zec N d n r c ((j:Int) - 1)=some (c',r')∧r'.length=r.length∧Zn r'∧0≤c'∧c'<d∧d.toNat * Zc r'+c'.toNat=Zc (r.take j)+4294967296 ^ j * (c.toNat+d.toNat * Zc (r.drop j))
 | 0,j,r,c,_,h,_,_,_=>by omega
 | n+1,j,r,c,E,F,q,f,k=>by
  rw [Zec.eq_2]
  by_cases h0:j=0
  ·subst h0
   rw [if_neg (by decide),Vv (by omega)]
   refine ⟨c,r,rfl,rfl,f,k.1,k.2,?_⟩
   rw [List.take_zero,aX,Yg];omega
  ·have e:(j:Int) - 1=((j - 1:Nat):Int):=by omega
   have b:j - 1<r.length:=by omega
   have g:=f.get b
   rw [if_pos (by simp;omega),e,Zs b,oB,Xi (x:=d) (by omega),Zz (by omega),oB,Zz (by omega),aB,Xi (x:=r[j - 1]) (by omega),Znf (by omega) (by omega)]
   generalize hcur:c * 4294967296+r[j - 1]=a
   have B:(c+1) * 4294967296≤d * 4294967296:=by omega
   have i:0≤a / d∧a / d<4294967296:=⟨Int.ediv_nonneg (by omega) (by omega),Int.ediv_lt_of_lt_mul hd.1 (by rw [Int.mul_comm];omega)⟩
   have s:=Int.emod_nonneg a (show d≠0 by omega)
   have l:=Int.emod_lt_of_pos a hd.1
   have C:=Int.mul_ediv_add_emod a d
   rw [bR (by omega),bW (by omega),Xi (by omega),Vv i,Zp (by omega)]
   obtain ⟨c',r',q1,t,u,v,w,y⟩:=Zxt N d hd n (j - 1) (r.set (j - 1) (a / d)) (a % d) (by rw [nS];omega) (by omega) (by rw [nS];exact q) (f.set _ i) ⟨s,l⟩
   refine ⟨c',r',q1,by rw [t,nS],u,v,w,?_⟩
   rw [y,Zdd _ (bB _)]
   have m:=Zo6 b
   have o:Zc ((r.set (j - 1) (a / d)).drop (j - 1))=(a / d).toNat+4294967296 * Zc (r.drop (j - 1+1)):=by
    rw [V1 (by rw [nS];exact b),cC,Sx _ (by omega)]
   rw [show j - 1+1=j by omega] at m o
   rw [m,o]
   have A:(4294967296:Nat) ^ j=4294967296 ^ (j - 1) * 4294967296:=by rw [← aY,show (j - 1).succ=j by omega]
   rw [A]
   have p:d.toNat * (a / d).toNat+(a % d).toNat=c.toNat * 4294967296+(r[j - 1]).toNat:=by
    have:((d.toNat * (a / d).toNat:Nat):Int)=d * (a / d):=by rw [bT,bE (by omega),bE i.1]
    omega
   generalize hQ:4294967296 ^ (j - 1)=Q
   have D:Q * (d.toNat * (a / d).toNat+(a % d).toNat)=Q * (c.toNat * 4294967296+(r[j - 1]).toNat):=by rw [p]
   grind
theorem Z5q {N:Nat} {a:List Int} {d:Int} (hd:0<d∧d<4294967296) (ha:Zn a) (hn:a.length<N) (hs:a.length≤35184372088000):
  ∃ q,Zjj N a d=some (((Zc a % d.toNat:Nat):Int),q)∧q.length=a.length∧Zn q∧Zc q=Zc a / d.toNat:=by
 obtain ⟨b,r',q1,g,i,l,m,c⟩:=Zxt N d hd N a.length a 0 (bB _) hn (by omega) ha (by omega)
 have e:0<d.toNat:=by omega
 rw [List.take_length,dY,Yg] at c
 have f:Zc a=b.toNat+d.toNat * Zc r':=by simp at c;omega
 have j:Zc a % d.toNat=b.toNat:=by rw [f,gK,dC (by omega)]
 have k:Zc a / d.toNat=Zc r':=by rw [f,fN _ _ e,dQ (by omega),cK]
 refine ⟨r',?_,g,i,k.symm⟩
 rw [Zjj,Zp (by omega),q1,j]
 congr 2;omega
theorem Zpx {i:IntKind} {x s:Nat} (hs:s<32) (hi:i= .u32∨i= .u64):Xy i (x:Int) (s:Int)=i.wrap ((x * 2 ^ s:Nat):Int):=by
 rw [Xy,aB,aR (by rcases hi with rfl | rfl <;> simp only [IntKind.bits] <;> omega)]
 norm_cast
theorem Zyq (n:Nat):u32.wrap (n:Int)=((n % 4294967296:Nat):Int):=by rw [IntKind.wrap_u32];omega
theorem Ztg (s:Nat) (hs:s<32):∀ (l:List Int) (k:Nat) (out:List Int),Zn l→out.length=k+l.length+1→out.length<4611686018427387904→Zn out→Zc (out.drop (k+1))=0→(∀ h:k<out.length,(out[k]).toNat<2 ^ s)→
  ∃ out',Zcg (s:Int) l k out=some out'∧out'.length=out.length∧Zn out'∧Zc out'=Zc out+4294967296 ^ k * (2 ^ s * Zc l)∧(∀ h:out'.length - 1<out'.length,(out'[out'.length - 1]).toNat<2 ^ s)
 | [],k,out,_,c,_,a,_,m=>by
  rw [Zcg.eq_1]
  rw [nN] at c
  refine ⟨out,rfl,rfl,a,by rw [Yg];omega,fun h=>?_⟩
  have:=m (by omega)
  simpa [c] using this
 | x :: l,k,out,q,c,y,a,C,m=>by
  rw [nC] at c
  have d:k<out.length:=by omega
  have o:k+1<out.length:=by omega
  have P:=q.head
  have R:=a.get d
  have D:=m d
  have g:=drop_zero a o C
  have E:i64.wrap ((k:Int)+1)=((k+1:Nat):Int):=by rw [Zp (by omega)];omega
  have ex:x=(x.toNat:Int):=by omega
  have F:out[k]=((out[k]).toNat:Int):=by omega
  have p:(2:Nat) ^ s * 2 ^ (32 - s)=4294967296:=by rw [← cN,show s+(32 - s)=32 by omega]
  have r:=bU s
  have i:=bU (32 - s)
  -- the lower and the upper limb
  have t:x.toNat * 2 ^ s<4294967296 * 2 ^ s:=fZ (by omega) r
  have G:2 ^ s≤2147483648:=by
   have:=fJ (n:=2) (by decide) (show s≤31 by omega)
   omega
  have b:(x.toNat * 2 ^ s) % 4294967296=2 ^ s * (x.toNat % 2 ^ (32 - s)):=by
   rw [← p,bL x.toNat,hL]
  have u:Yy .u32 out[k] (Xy .u32 x (s:Int))=(((x.toNat * 2 ^ s) % 4294967296+(out[k]).toNat:Nat):Int):=by
   rw [ex,Zpx hs (.inl rfl),Zyq,F]
   simp only [aB]
   rw [b]
   refine or32 s _ _ D ?_
   have:2 ^ s * (x.toNat % 2 ^ (32 - s)+1)≤2 ^ s * 2 ^ (32 - s):=aS _ (dN _ i)
   rw [p,dO] at this
   omega
  have v:u32.wrap (Yi .u64 (Xy .u64 (u64.wrap x) (s:Int)) 32)=((x.toNat * 2 ^ s / 4294967296:Nat):Int):=by
   rw [Xi (x:=x) (by omega),ex,Zpx hs (.inr rfl),Zft,Xi (by omega)]
   simp only [aB]
   rw [Vv (by omega)]
   omega
  have j:x.toNat * 2 ^ s / 4294967296<2 ^ s:=(cY (by decide)).2 (by rw [bL (2 ^ s)];exact t)
  have e:(x.toNat * 2 ^ s) % 4294967296+(out[k]).toNat<4294967296:=by
   rw [b]
   have:2 ^ s * (x.toNat % 2 ^ (32 - s)+1)≤2 ^ s * 2 ^ (32 - s):=aS _ (dN _ i)
   rw [p,dO] at this
   omega
  rw [Zcg.eq_2,Zs d,oB,Zz (by omega),oB,Zz (by omega),E,aB,aB,
   Zs (by rw [nS];exact o),oB,oB,u,v]
  generalize hA:(x.toNat * 2 ^ s) % 4294967296+(out[k]).toNat=A at e
  generalize hB:x.toNat * 2 ^ s / 4294967296=B at j
  have H:Zn (out.set k (A:Int)):=a.set _ (by omega)
  have I:Zn ((out.set k (A:Int)).set (k+1) (B:Int)):=H.set _ (by omega)
  obtain ⟨out',q1,J,K,L,M⟩:=Ztg s hs l (k+1) ((out.set k (A:Int)).set (k+1) (B:Int)) q.tail (by rw [nS,nS];omega) (by rw [nS,nS];exact y) I (by
   rw [Sx _ (by omega),Sx _ (by omega)];exact g.2) (fun h=>by rw [cC];simpa using j)
  refine ⟨out',q1,by rw [J,nS,nS],K,?_,M⟩
  have N:=Us d (A:Int)
  have f:=Us (l:=out.set k (A:Int)) (k:=k+1) (by rw [nS];exact o) (B:Int)
  rw [List.getElem_set_ne (by omega),g.1] at f
  rw [aB] at N f
  rw [eI,dB,bQ] at f
  rw [L,Y3]
  rw [aY] at f ⊢
  have w:A+4294967296 * B=(out[k]).toNat+x.toNat * 2 ^ s:=by omega
  generalize 4294967296 ^ k=Q at *
  have O:Q * (A+4294967296 * B)=Q * ((out[k]).toNat+x.toNat * 2 ^ s):=by rw [w]
  grind
theorem Zth {a:List Int} {s:Nat} (hs:s<32) (ha:Zn a) (hb:a.length<35184372088000):
  ∃ o,Zg5 a (s:Int)=some o∧o.length=a.length+1∧Zn o∧Zc o=2 ^ s * Zc a∧∀ h:o.length - 1<o.length,(o[o.length - 1]).toNat<2 ^ s:=by
 rw [Zg5,Zp (by omega),Zz (by simp only [maxLen];omega)]
 have e:aA ((a.length:Int)+1)=a.length+1:=by omega
 rw [e]
 obtain ⟨o,q1,b,c,d,f⟩:=Ztg s hs a 0 (aI (a.length+1) 0) ha (by rw [aQ];omega) (by rw [aQ];omega) (.zeros _) (by rw [fM];exact U5 _) (fun h=>by
  rw [List.getElem_replicate];exact bU s)
 refine ⟨o,q1,by rw [b,aQ],c,?_,f⟩
 rw [d,U5,dA];omega
theorem Z1t (g:Int) (u:List Int):Zjg g u=Zaz g u:=rfl
theorem Zry (j0 n0:Nat) (v:List Int) (g:Int):∀ (l:List Int) (k:Nat) (u:List Int) (c:Int),Zcf j0 n0 v g l k u c=Tg j0 n0 v (u64.wrap (g - 1)) l k u c
 | [],k,u,c=>by rw [Zcf.eq_1,Tg.eq_1];rfl
 | x :: l,k,u,c=>by
  rw [Zcf.eq_2,Tg.eq_2]
  simp only [Zry j0 n0 v g l]
theorem Zrx (j0 n0:Nat) (v:List Int) (g:Int):∀ (l:List Int) (k:Nat) (u:List Int) (b c:Int),Qa j0 n0 v g l k u b c=Vz j0 n0 v (u64.wrap (g - 1)) l k u b c
 | [],k,u,b,c=>by
  rw [Qa.eq_1,Vz.eq_1]
  simp only [Zry,Z1t]
 | x :: l,k,u,b,c=>by
  rw [Qa.eq_2,Vz.eq_2]
  simp only [Zjh,Zeb,Zl1,Zji,Zrx j0 n0 v g l]
theorem Zt0 {x:Int} (h:0≤x∧x<18446744073709551616):U0 .u64 x 4294967295=x % 4294967296:=by
 have e:x=(x.toNat:Int):=by omega
 rw [U0,BitVec.toNat_and,e,Zf2 _ _ (by simp only [IntKind.bits];omega),show (4294967295:Int)=((2 ^ 32 - 1:Nat):Int) by decide,Zf2 _ _ (by simp only [IntKind.bits];omega),Nat.and_two_pow_sub_one_eq_mod,IntKind.wrap_u64]
 omega
theorem Zyy (S S' S2 Q e v x c c' L T:Nat) (h1:S'+Q * e=S+Q * v) (h2:c+(e+x)=v+4294967296 * c') (h3:S2+T=S'+Q * 4294967296 * (c'+L)):S2+T=S+Q * (c+(x+4294967296 * L)):=by
 have:Q * (c+(e+x))=Q * (v+4294967296 * c'):=by rw [h2]
 grind
theorem Zix {l:List Int} {k j:Nat} (v:Int) (h:k<j):(l.set k v).drop j=l.drop j:=Sx v h
theorem Zr0 (j0:Nat) (v:List Int) (g:Int):∀ (l:List Int) (k:Nat) (u:List Int) (c:Int),Zn l→k+l.length=v.length→Zn u→j0+v.length<u.length→0≤c∧c≤1→
  ∃ u' co,Tg j0 (v.length+1) v g l k u c=some (u32.wrap (u64.wrap (g - 1)),u')∧u'.length=u.length∧Zn u'∧u'.take j0=u.take j0∧u'.drop (j0+v.length+1)=u.drop (j0+v.length+1)∧Zc u'+co * 4294967296 ^ (j0+v.length+1)=Zc u+4294967296 ^ (j0+k) * (c.toNat+Zc l)
 | [],k,u,c,_,e,a,b,n=>by
  have i:k=v.length:=by simpa using e
  subst i
  have o:=a.get b
  rw [Tg.eq_1,Zz (by omega),show (j0:Int)+(v.length:Int)=((j0+v.length:Nat):Int) by omega,Zs b,oB,Zz (by omega),oB,oB,aB,Zaz,Vv (x:=c) (by omega)]
  have f:0≤u32.wrap (u[j0+v.length]+c)∧u32.wrap (u[j0+v.length]+c)<4294967296:=by rw [IntKind.wrap_u32];omega
  refine ⟨_,((u[j0+v.length]+c) / 4294967296).toNat,rfl,by rw [nS],a.set _ f,Zdd _ (by omega),Zix _ (by omega),?_⟩
  have A:=Us b (u32.wrap (u[j0+v.length]+c))
  have p:(u[j0+v.length]).toNat+c.toNat=(u32.wrap (u[j0+v.length]+c)).toNat+4294967296 * ((u[j0+v.length]+c) / 4294967296).toNat:=by rw [IntKind.wrap_u32];omega
  rw [aY,Yg]
  generalize 4294967296 ^ (j0+v.length)=Q at *
  have B:Q * ((u[j0+v.length]).toNat+c.toNat)=Q * ((u32.wrap (u[j0+v.length]+c)).toNat+4294967296 * ((u[j0+v.length]+c) / 4294967296).toNat):=by rw [p]
  grind
 | x :: l,k,u,c,j,e,a,b,n=>by
  rw [nC] at e
  have d:j0+k<u.length:=by omega
  have o:=a.get d
  have C:=j.head
  rw [Tg.eq_2,Zz (by omega),show (j0:Int)+(k:Int)=((j0+k:Nat):Int) by omega,Zs d,oB,Zz (by omega),oB,oB,aB,Xi (x:=u[j0+k]) (by omega),Xi (x:=x) (by omega),Xi (x:=u[j0+k]+x) (by omega),Xi (by omega),Zft]
  generalize hs:c+(u[j0+k]+x)=s
  have f:0≤u32.wrap s∧u32.wrap s<4294967296:=by rw [IntKind.wrap_u32];omega
  obtain ⟨u',co,q1,q,r,w,y,m⟩:=Zr0 j0 v g l (k+1) (u.set (j0+k) (u32.wrap s)) (s / 4294967296) j.tail (by omega) (a.set _ f) (by rw [nS];exact b) (by omega)
  refine ⟨u',co,q1,by rw [q,nS],r,by rw [w,Zdd _ (by omega)],by rw [y,Zix _ (by omega)],?_⟩
  rw [Y3]
  rw [← dP j0 k 1,aY] at m
  exact Zyy _ _ _ _ _ _ _ _ _ _ _ (Us d _) (by rw [IntKind.wrap_u32];omega) m
theorem Z39 (S S' S2 Q e w x g b b' c c' t L T:Nat) (h1:S'+Q * e=S+Q * w) (h2:c+g * x=t+4294967296 * c') (h3:e+4294967296 * b'=t+b+w) (h4:S2+Q * 4294967296 * (c'+b'+g * L)=S'+T):S2+Q * (c+b+g * (x+4294967296 * L))=S+T:=by
 have a:Q * (c+g * x)=Q * (t+4294967296 * c'):=by rw [h2]
 have d:Q * (e+4294967296 * b')=Q * (t+b+w):=by rw [h3]
 grind
theorem Zrz (j0:Nat) (v:List Int) (g:Int) (hg:0≤g∧g<4294967296):∀ (l:List Int) (k:Nat) (u:List Int) (b c:Int),Zn l→k+l.length=v.length→Zn u→j0+v.length<u.length→0≤b∧b≤1→0≤c∧c<4294967296→
  ∃ u' over,over≤1∧Vz j0 (v.length+1) v g l k u b c=(if over=1 then Tg j0 (v.length+1) v g v 0 u' 0 else Zaz g u')∧u'.length=u.length∧Zn u'∧u'.take j0=u.take j0∧u'.drop (j0+v.length+1)=u.drop (j0+v.length+1)∧
   Zc u'+4294967296 ^ (j0+k) * (c.toNat+b.toNat+g.toNat * Zc l)=Zc u+over * 4294967296 ^ (j0+v.length+1)
 | [],k,u,b,c,_,m,e,i,s,w=>by
  have n:k=v.length:=by simpa using m
  subst n
  have y:=e.get i
  rw [Vz.eq_1,Zz (by omega),show (j0:Int)+(v.length:Int)=((j0+v.length:Nat):Int) by omega,Zs i,oB,Zz (by omega),oB,Zz (by omega),oB,oB,aB,Xi (x:=c+b) (by omega),Xi (x:=u[j0+v.length]) (by omega)]
  have j:0≤u32.wrap (u[j0+v.length] - u32.wrap (c+b))∧u32.wrap (u[j0+v.length] - u32.wrap (c+b))<4294967296:=by rw [IntKind.wrap_u32];omega
  have J:=Us i (u32.wrap (u[j0+v.length] - u32.wrap (c+b)))
  have fin:∀ over:Nat,(u[j0+v.length]).toNat+4294967296 * over=c.toNat+b.toNat+(u32.wrap (u[j0+v.length] - u32.wrap (c+b))).toNat→Zc (u.set (j0+v.length) (u32.wrap (u[j0+v.length] - u32.wrap (c+b))))+4294967296 ^ (j0+v.length) * (c.toNat+b.toNat+g.toNat * Zc [])=Zc u+over * 4294967296 ^ (j0+v.length+1):=fun over A=>by
   rw [aY,Yg]
   generalize 4294967296 ^ (j0+v.length)=Q at *
   have B:Q * ((u[j0+v.length]).toNat+4294967296 * over)=Q * (c.toNat+b.toNat+(u32.wrap (u[j0+v.length] - u32.wrap (c+b))).toNat):=by rw [A]
   grind
  by_cases hlt:u[j0+v.length]<c+b
  ·refine ⟨_,1,bB _,by rw [if_pos (by simpa using hlt),if_pos rfl],by rw [nS],e.set _ j,Zdd _ (by omega),Zix _ (by omega),fin 1 (by rw [IntKind.wrap_u32,IntKind.wrap_u32];omega)⟩
  ·refine ⟨_,0,by decide,by rw [if_neg (by simpa using hlt),if_neg (by decide)],by rw [nS],e.set _ j,Zdd _ (by omega),Zix _ (by omega),fin 0 (by rw [IntKind.wrap_u32,IntKind.wrap_u32];omega)⟩
 | x :: l,k,u,b,c,o,m,e,i,s,w=>by
  rw [nC] at m
  have d:j0+k<u.length:=by omega
  have y:=e.get d
  have p:=o.head
  have K:g * x≤4294967295 * 4294967295:=jB (by omega) (by omega) (by omega) (by omega)
  have H:0≤g * x:=jC hg.1 p.1
  have I:((g.toNat * x.toNat:Nat):Int)=g * x:=by rw [bT,bE hg.1,bE p.1]
  rw [Vz.eq_2,Zz (by omega),show (j0:Int)+(k:Int)=((j0+k:Nat):Int) by omega,Zs d,oB,Xi (x:=u[j0+k]) (by omega),Xi (x:=x) (by omega),Xi (x:=g * x) (by omega),Xi (x:=c+g * x) (by omega),Zt0 (by omega)]
  generalize ht0:c+g * x=a
  rw [Xi (x:=a % 4294967296+b) (by omega)]
  have fin:∀ f:Int,0≤f∧f≤1→u[j0+k]+4294967296 * f=a % 4294967296+b+u32.wrap (u[j0+k] - u32.wrap (a % 4294967296+b))→
    ∃ u' over,over≤1∧Zeb j0 (v.length+1) g u b k c (Vz j0 (v.length+1) v g l) x f=(if over=1 then Tg j0 (v.length+1) v g v 0 u' 0 else Zaz g u')∧u'.length=u.length∧Zn u'∧u'.take j0=u.take j0∧u'.drop (j0+v.length+1)=u.drop (j0+v.length+1)∧
     Zc u'+4294967296 ^ (j0+k) * (c.toNat+b.toNat+g.toNat * Zc (x :: l))=Zc u+over * 4294967296 ^ (j0+v.length+1):=fun f q B=>by
   have j:0≤u32.wrap (u[j0+k] - u32.wrap (a % 4294967296+b))∧u32.wrap (u[j0+k] - u32.wrap (a % 4294967296+b))<4294967296:=by rw [IntKind.wrap_u32];omega
   obtain ⟨u',over,q0,q1,C,D,F,G,r⟩:=Zrz j0 v g hg l (k+1) (u.set (j0+k) (u32.wrap (u[j0+k] - u32.wrap (a % 4294967296+b)))) f (a / 4294967296) o.tail (by omega) (e.set _ j) (by rw [nS];exact i) q (by omega)
   refine ⟨u',over,q0,?_,by rw [C,nS],D,by rw [F,Zdd _ (by omega)],by rw [G,Zix _ (by omega)],?_⟩
   ·rw [Zeb,Zz (by omega),show (j0:Int)+(k:Int)=((j0+k:Nat):Int) by omega,Zs d,oB,Zz (by omega),oB,oB,aB,Xi (x:=x) (by omega),Xi (x:=g * x) (by omega),Xi (x:=c+g * x) (by omega),Zt0 (by omega),ht0,Xi (x:=a % 4294967296+b) (by omega),Zft,Zji]
    exact q1
   ·rw [Y3]
    rw [← dP j0 k 1,aY] at r
    exact Z39 _ _ _ _ _ _ _ _ _ _ _ _ (a % 4294967296).toNat _ _ (Us d _) (by omega) (by omega) r
  by_cases hlt:u[j0+k]<a % 4294967296+b
  ·rw [if_pos (by simpa using hlt)]
   exact fin 1 (by omega) (by rw [IntKind.wrap_u32,IntKind.wrap_u32];omega)
  ·rw [if_neg (by simpa using hlt)]
   exact fin 0 (by omega) (by rw [IntKind.wrap_u32,IntKind.wrap_u32];omega)
structure Zip (U V E v1 v2 u2 top lU lV:Nat):Prop where
 hU:U=lU+E * (u2+4294967296 * top)
 hV:V=lV+E * (v2+4294967296 * v1)
 lu:lU<E
 lv:lV<E
 b2:u2<4294967296
 c2:v2<4294967296
 c1:v1<4294967296
 big:2147483648≤v1
 lt:U<4294967296 * V
namespace Zip
variable {U V E v1 v2 u2 top lU lV:Nat} (t:Zip U V E v1 v2 u2 top lU lV)
include t
theorem Vpos:0<V:=by
 have:=t.lt
 have:=t.lu
 omega
theorem uE:U<E * 4294967296 * (top+1):=by
 have a:E * (u2+1)≤E * 4294967296:=aS _ t.b2
 have b:=t.hU;have:=t.lu
 have e:E * (u2+4294967296 * top)=E * u2+E * 4294967296 * top:=by grind
 rw [e] at b
 rw [dO] at a ⊢
 omega
theorem Eu:E * 4294967296 * top≤U:=by
 have a:=t.hU
 have e:E * (u2+4294967296 * top)=E * u2+E * 4294967296 * top:=by grind
 omega
theorem vE:V<E * 4294967296 * (v1+1):=by
 have a:E * (v2+1)≤E * 4294967296:=aS _ t.c2
 have b:=t.hV;have:=t.lv
 have e:E * (v2+4294967296 * v1)=E * v2+E * 4294967296 * v1:=by grind
 rw [dO] at a ⊢
 omega
theorem Ev:E * 4294967296 * v1≤V:=by
 have a:=t.hV
 have e:E * (v2+4294967296 * v1)=E * v2+E * 4294967296 * v1:=by grind
 omega
theorem Epos:0<E:=by have:=t.lu;omega
theorem first:U / V≤top / v1:=by
 have a:0<v1:=by have:=t.big;omega
 rw [dW a]
 have c:U / V * V≤U:=Nat.div_mul_le_self U V
 have d:U / V * (E * 4294967296 * v1)≤U / V * V:=aS _ t.Ev
 have b:E * 4294967296 * (U / V * v1)<E * 4294967296 * (top+1):=by
  have e:E * 4294967296 * (U / V * v1)=U / V * (E * 4294967296 * v1):=by
   generalize U / V=q
   grind
  rw [e]
  have:=t.uE
  omega
 have:=eL b
 omega
theorem quo:U / V<4294967296:=(cY t.Vpos).2 t.lt
theorem great {g r:Nat} (h:g * v1+r=top) (h2:r * 4294967296+u2<g * v2):U / V<g:=by
 rw [cY t.Vpos]
 have a:u2+4294967296 * top+1≤g * (v2+4294967296 * v1):=by
  have:4294967296 * (g * v1+r)=4294967296 * top:=by rw [h]
  have e:g * (v2+4294967296 * v1)=g * v2+4294967296 * (g * v1):=by grind
  rw [e];omega
 have b:=aS E a
 have c:E * (g * (v2+4294967296 * v1))≤g * V:=by
  have:=t.hV
  have e:g * V=g * lV+E * (g * (v2+4294967296 * v1)):=by rw [this];grind
  omega
 have:=t.hU;have:=t.lu
 rw [dO] at b
 omega
theorem fine {g r:Nat} (hg:g<4294967296) (h:g * v1+r=top) (h2:g * v2≤r * 4294967296+u2):g * V<U+V:=by
 have a:g * (v2+4294967296 * v1)≤u2+4294967296 * top:=by
  have:4294967296 * (g * v1+r)=4294967296 * top:=by rw [h]
  have e:g * (v2+4294967296 * v1)=g * v2+4294967296 * (g * v1):=by grind
  rw [e];omega
 have b:=aS E a
 have e:g * V=g * lV+E * (g * (v2+4294967296 * v1)):=by rw [t.hV];grind
 have c:g * lV≤4294967295 * E:=gS (by omega) (by have:=t.lv;omega)
 have d:E * 4294967296 * 1≤E * 4294967296 * v1:=aS _ (by have:=t.big;omega)
 have:=t.Ev;have:=t.hU;have:=t.Epos
 omega
theorem topv:top / 4294967296≤v1:=by
 have b:=t.Eu
 have c:=t.lt
 have d:=t.vE
 have a:E * 4294967296 * top<E * 4294967296 * (4294967296 * (v1+1)):=by
  have:E * 4294967296 * (4294967296 * (v1+1))=4294967296 * (E * 4294967296 * (v1+1)):=by grind
  omega
 have:=eL a
 omega
theorem over {g r:Nat} (h:g * v1+r=top) (hr:4294967296≤r):g<4294967296:=by
 have b:=t.topv
 have a:g * v1<4294967296 * v1:=by omega
 exact Nat.lt_of_mul_lt_mul_right a
theorem stop {g r:Nat} (h:g * v1+r=top) (hr:4294967296≤r):g * V<U+V:=by
 have b:=t.over h hr
 have a:=t.vE
 have c:g * V≤g * (E * 4294967296 * (v1+1)):=aS _ (jN a)
 have e:g * (E * 4294967296 * (v1+1))=E * 4294967296 * (g * v1+g):=by grind
 have d:E * 4294967296 * (g * v1+g)≤E * 4294967296 * top:=aS _ (by omega)
 have:=t.Eu;have:=t.Vpos
 omega
end Zip
def Zp9 (X:Option R9) (R:Nat→Option R9) (q U V:Nat):Prop:=∃ g:Nat,X=R g∧q≤g∧g<4294967296∧g * V<U+V
theorem Zrw (N j0:Nat) (u v:List Int) (hu:Zn u) (hv:Zn v) (hn:2≤v.length) (hl:j0+v.length<u.length) (hs:v.length<4611686018427387904) {U V E lU lV top q:Nat} (hq:U / V=q)
  (t:Zip U V E (v[v.length - 1]).toNat (v[v.length - 2]).toNat (u[j0+v.length - 2]).toNat top lU lV) (htop:top<18446744073709551616):
  ∀ (n g r:Nat),g * (v[v.length - 1]).toNat+r=top→q≤g→r<4294967296→4294967296≤r+2147483648 * n→
  Zp9 (Sa N j0 (v.length+1) u v n (g:Int) (r:Int)) (fun g'=>Vz j0 (v.length+1) v (g':Int) v 0 u 0 0) q U V
 | 0,g,r,_,_,k,l=>by omega
 | n+1,g,r,c,m,k,l=>by
  have e:v.length - 1<v.length:=by omega
  have f:v.length - 2<v.length:=by omega
  have i:j0+v.length - 2<u.length:=by omega
  have A:=hv.get e
  have B:=hv.get f
  have C:=hu.get i
  have o:=t.big
  have w:g≤top:=by
   have:g * 1≤g * (v[v.length - 1]).toNat:=aS _ (by omega)
   omega
  -- one a
  have a:q<g→Zp9 (Zjf j0 (v.length+1) u v (g:Int) (r:Int) (Sa N j0 (v.length+1) u v n)) (fun g'=>Vz j0 (v.length+1) v (g':Int) v 0 u 0 0) q U V:=fun y=>by
   have b:(g - 1) * (v[v.length - 1]).toNat+(r+(v[v.length - 1]).toNat)=top:=by
    have:(g - 1+1) * (v[v.length - 1]).toNat+r=top:=by rw [show g - 1+1=g by omega];exact c
    rw [bI] at this
    omega
   have j:u64.wrap ((g:Int) - 1)=((g - 1:Nat):Int):=by rw [Xi (by omega)];omega
   have p:u64.wrap ((r:Int)+u64.wrap v[v.length - 1])=((r+(v[v.length - 1]).toNat:Nat):Int):=by rw [Xi (x:=v[v.length - 1]) (by omega),Xi (by omega)];omega
   rw [Zjf,Zp (by omega),show (v.length:Int) - 1=((v.length - 1:Nat):Int) by omega,Zs e,oB,p,j]
   by_cases hb:4294967296≤r+(v[v.length - 1]).toNat
   ·rw [if_pos (dT (by omega)),Zrx,j]
    exact ⟨g - 1,rfl,by omega,t.over b hb,t.stop b hb⟩
   ·rw [if_neg (dF (by omega))]
    exact Zrw N j0 u v hu hv hn hl hs hq t htop n (g - 1) (r+(v[v.length - 1]).toNat) b (by omega) (by omega) (by omega)
  have d:=t.quo
  rw [hq] at d
  rw [Sa.eq_2]
  by_cases hgb2:4294967295<g
  ·rw [if_pos (dT (by omega)),Zea,if_pos rfl]
   exact a (by omega)
  ·have D:g * (v[v.length - 2]).toNat≤4294967295 * 4294967295:=gS (by omega) (by omega)
   have s:(g:Int) * v[v.length - 2]=((g * (v[v.length - 2]).toNat:Nat):Int):=by
    rw [bT];congr 1;omega
   rw [if_neg (dF (by omega)),if_pos (dT (by omega)),Zp (by omega),show (v.length:Int) - 2=((v.length - 2:Nat):Int) by omega,Zs f,oB,Zz (by omega),show (j0:Int)+((v.length - 2:Nat):Int)=((j0+v.length - 2:Nat):Int) by omega,Zs i,oB,Zea,
    Xi (x:=u[j0+v.length - 2]) (by omega),Znf (by omega) (by omega),Xi (x:=v[v.length - 2]) (by omega),s,Xi (by omega)]
   by_cases hc:r * 4294967296+(u[j0+v.length - 2]).toNat<g * (v[v.length - 2]).toNat
   ·rw [if_pos (dT (by omega))]
    exact a (by rw [← hq];exact t.great c hc)
   ·rw [if_neg (dF (by omega))]
    exact ⟨g,rfl,m,by omega,t.fine (by omega) c (by omega)⟩
theorem Zoe {u w:List Int} {j0 n P:Nat} (hP:4294967296 ^ (n+1)=P) (hl:j0+n<u.length) (hz:Zc (u.drop (j0+n+1))=0) (h1:w.length=u.length) (h2:Zn w) (h3:w.drop (j0+n+1)=u.drop (j0+n+1)):Zc (w.drop j0)<P:=by
 have:=Sj ((h2.drop j0).take (n+1))
 rw [nK,cA,aR (by omega),hP] at this
 have e:=Ut (w.drop j0) (n+1)
 rw [hP,eJ,← dP,h3,hz] at e
 omega
theorem Zr1 {u w:List Int} {j0 n P Q x y:Nat} (hP:4294967296 ^ (n+1)=P) (hQ:4294967296 ^ j0=Q) (h4:w.take j0=u.take j0) (h:Zc w+Q * x=Zc u+y * 4294967296 ^ (j0+n+1)):Zc (w.drop j0)+x=Zc (u.drop j0)+y * P:=by
 have c:(4294967296:Nat) ^ (j0+n+1)=Q * P:=by rw [← hQ,← hP,← cN,dP]
 have d:0<Q:=by rw [← hQ];exact eO (by decide)
 have b:=Ut u j0
 have a:=Ut w j0
 rw [h4] at a
 rw [hQ] at b a
 rw [c,b,a] at h
 clear c hP hQ b a h4
 refine Nat.eq_of_mul_eq_mul_left d ?_
 grind
theorem Z1u {U V P q g over P1:Nat} (hq:U / V=q) (hV:0<V) (hg1:q≤g) (hg3:g * V<U+V) (k1:P1+g * V=U+over * P) (p1:P1<P):
  (over=0→g=q∧P1=U % V)∧(over=1→g=q+1∧∀ P2 co,V<P→P2<P→P2+co * P=P1+V→P2=U % V):=by
 have d:V * q+U % V=U:=by rw [← hq];exact fV _ _
 have j:=dN U hV
 have a:∀ x y:Nat,x<y→x * V+V≤y * V:=fun x y e=>by
  have:=bF V (show x+1≤y from e)
  rw [bI,bP] at this;exact this
 rw [bL] at d
 constructor
 ·intro c
  subst c
  have b:g=q:=by
   have i:¬ q<g:=fun h=>by
    have:=a _ _ h
    omega
   omega
  subst b
  exact ⟨rfl,by omega⟩
 ·intro c
  subst c
  have b:g=q+1:=by
   have m:¬ g≤q:=fun h=>by
    have:=bF V h
    omega
   have i:¬ q+1<g:=fun h=>by
    have:=a _ _ h
    rw [bI,bP] at this
    omega
   omega
  refine ⟨b,fun P2 co k p2 n=>?_⟩
  have l:g * V=q * V+V:=by rw [b,bI,bP]
  have f:co=1:=by
   rcases Nat.lt_trichotomy co 1 with h | h | h
   ·have:co=0:=by omega
    subst this;omega
   ·exact h
   ·have:=bF P (show 2≤co from h)
    omega
  subst f
  omega
theorem Z1v {N j0:Nat} {u v:List Int} (hN:2≤N) (hu:Zn u) (hv:Zn v) (hn:2≤v.length) (hl:j0+v.length<u.length) (hs:u.length<4611686018427387904)
  (hz:Zc (u.drop (j0+v.length+1))=0) (hbig:2147483648≤(v[v.length - 1]).toNat) (hlt:Zc (u.drop j0)<4294967296 * Zc v):
  ∃ u',Zg4 N j0 (v.length+1) u v=some (((Zc (u.drop j0) / Zc v:Nat):Int),u')∧u'.length=u.length∧Zn u'∧u'.take j0=u.take j0∧Zc (u'.drop j0)=Zc (u.drop j0) % Zc v∧Zc (u.drop j0) / Zc v<4294967296:=by
 have f:v.length - 1<v.length:=by omega
 have r:v.length - 2<v.length:=by omega
 have s:j0+v.length - 2<u.length:=by omega
 have i:j0+v.length - 1<u.length:=by omega
 have c1:=hv.get f
 have c2:=hv.get r
 have c3:=hu.get s
 have c4:=hu.get i
 have c5:=hu.get hl
 -- the Zf above
 have O:Zc v=Zc (v.take (v.length - 2))+4294967296 ^ (v.length - 2) * ((v[v.length - 2]).toNat+4294967296 * (v[v.length - 1]).toNat):=by
  rw [Ut v (v.length - 2),V1 r,show v.length - 2+1=v.length - 1 by omega,V1 f,show v.length - 1+1=v.length by omega,dY,Yg];simp
 have R:Zc (u.drop j0)=Zc ((u.drop j0).take (v.length - 2))+4294967296 ^ (v.length - 2) * ((u[j0+v.length - 2]).toNat+4294967296 * ((u[j0+v.length]).toNat * 4294967296+(u[j0+v.length - 1]).toNat)):=by
  have S:j0+(v.length - 2)=j0+v.length - 2:=by omega
  rw [Ut (u.drop j0) (v.length - 2),eJ,S,V1 s,show j0+v.length - 2+1=j0+v.length - 1 by omega,V1 i,show j0+v.length - 1+1=j0+v.length by omega,V1 hl,hz]
  congr 3
  omega
 have lV:=Sj (hv.take (v.length - 2))
 have lU:=Sj ((hu.drop j0).take (v.length - 2))
 rw [nK,aR (by omega)] at lV
 rw [nK,cA,aR (by omega)] at lU
 have t:Zip (Zc (u.drop j0)) (Zc v) (4294967296 ^ (v.length - 2)) (v[v.length - 1]).toNat (v[v.length - 2]).toNat (u[j0+v.length - 2]).toNat ((u[j0+v.length]).toNat * 4294967296+(u[j0+v.length - 1]).toNat) _ _:=
  ⟨R,O,lU,lV,by omega,by omega,by omega,hbig,hlt⟩
 have T:=t.Vpos
 have b:(u[j0+v.length]).toNat * 4294967296+(u[j0+v.length - 1]).toNat<18446744073709551616:=by omega
 obtain ⟨q,d⟩:∃ q,Zc (u.drop j0) / Zc v=q:=⟨_,rfl⟩
 obtain ⟨g,A,B,a2,C⟩:=Zrw N j0 u v hu hv hn hl (by omega) d t b N _ _ (Nat.div_add_mod' _ _) (by rw [← d];exact t.first) (aJ (dN _ (by omega)) (by omega)) (by omega)
 have W:Zg4 N j0 (v.length+1) u v=Vz j0 (v.length+1) v (g:Int) v 0 u 0 0:=by
  refine Eq.trans ?_ A
  rw [Zg4,Zz (by omega),show (j0:Int)+(v.length:Int)=((j0+v.length:Nat):Int) by omega,Zs hl,oB,Zp (by omega),show (v.length:Int) - 1=((v.length - 1:Nat):Int) by omega,Zz (by omega),
   show (j0:Int)+((v.length - 1:Nat):Int)=((j0+v.length - 1:Nat):Int) by omega,Zs i,oB,Zs f,oB,Xi (x:=v[v.length - 1]) (by omega),Zz (by omega),Zz (by omega),Xi (x:=u[j0+v.length]) (by omega),Xi (x:=u[j0+v.length - 1]) (by omega),Znf (by omega) (by omega)]
  have ev:v[v.length - 1]=((v[v.length - 1]).toNat:Int):=by omega
  have X:u[j0+v.length] * 4294967296+u[j0+v.length - 1]=(((u[j0+v.length]).toNat * 4294967296+(u[j0+v.length - 1]).toNat:Nat):Int):=by omega
  rw [X,ev,bR (by omega),bW (by omega),← gA,← iP,aB]
  rw [Xi ⟨dU _,eC.2 (dS (cB _ _) b)⟩]
 obtain ⟨j,over,q0,q1,D,k,l,F,m⟩:=Zrz j0 v (g:Int) (by omega) v 0 u 0 0 hv (by omega) hu hl (by omega) (by omega)
 have a:=t.quo
 rw [d] at a ⊢
 rw [W,q1]
 obtain ⟨P,c⟩:∃ P:Nat,4294967296 ^ (v.length+1)=P:=⟨_,rfl⟩
 obtain ⟨Q,e⟩:∃ Q:Nat,4294967296 ^ j0=Q:=⟨_,rfl⟩
 simp only [bQ,eI,aB,cK] at m
 rw [e] at m
 have Y:=Zr1 c e l m
 have p1:=Zoe c hl hz D k F
 have G:Zc v<P:=by
  have:=Sj hv
  have H:=Zoe (u:=v++[0]) (w:=v++[0]) (j0:=0) (n:=v.length) c (by simp) (by simp [Zc]) rfl (hv.app (.cons (by decide) .nil)) rfl
  rw [aX,Zun] at H
  exact H
 have I:=Z1u d T B C Y p1
 by_cases ho:over=1
 ·obtain ⟨J,o⟩:=I.2 ho
  subst ho
  rw [if_pos rfl]
  obtain ⟨u2,K,Z,r2,L,M,r5,p⟩:=Zr0 j0 v (g:Int) v 0 j 0 hv (by omega) k (by omega) (by omega)
  have p2:=Zoe c hl hz (by omega) L (by rw [r5,F])
  simp only [bQ,eI,cK] at p
  rw [e] at p
  have k2:=Zr1 (u:=u2) (w:=j) (x:=Zc v) (y:=K) c e (by rw [M]) p.symm
  refine ⟨u2,?_,by omega,L,by rw [M,l],o _ K G p2 k2.symm,a⟩
  rw [Z,Xi (by omega),Vv (by omega)]
  congr 2;omega
 ·obtain ⟨J,o⟩:=I.1 (by omega)
  rw [if_neg ho,Zaz,Vv (by omega)]
  exact ⟨j,by rw [J],D,k,l,o,a⟩
def Zcd (N:Nat):Nat→R2→R2→Option R2
  | 0,_,_=>none
  | ac+1,ab,aa=>if (decide (0<(aa.length:Int)))=true then ((Zd7 N ab aa).bind fun ad=>(Zcd N ac) aa ad.2.1) else (some ab)
def Zje (N:Nat) (aa ab:List Int):Option R2:=
  (Ud N aa).bind fun ac=>(Ud N ab).bind fun ad=>Zcd N N ac ad
theorem Zzw {N ar au:Nat} {a0 a1:Option Addr} {col:Zd} {w0:World} {ak al r:R2} (c1:Nat) (hm:Zje N ak al=some r) (h0:Sl rU col w0 a0 ar ak) (h1:Sl rU col w0 a1 au al):
    Calls prog 156 #[.slice a0 ak.length ar,.slice a1 al.length au] w0 (W2 .u32 45 c1 col w0 r):=by
 refine Z7 4 (m:=25) func156 rfl rfl rfl rfl rfl ?_;rw [Zje.eq_1] at hm;have aa:=St.start col w0;refine go ?_;obtain ⟨a9,a3,hm⟩:=bZ hm;refine Zh (Tq 1 a3 (h0.k0.ks aa)) fun _ ba ⟨bb,bc,bd,e',a4,am⟩=>⟨_,e',?_⟩;refine Y8 rfl ?_;obtain ⟨be,a5,hm⟩:=bZ hm;replace aa:=aa.grow a4;refine Zh (Tq 2 a5 (h1.k0.ks aa)) ?_;rintro _ bf ⟨bg,bh,bi,rfl,av,a6⟩;refine ⟨_,rfl,go ?_⟩;replace aa:=aa.grow av;refine Zt [1000000] (fun n f ag=>∃ ac an ao ai ap aq aj ae,ae=n∧Zcd N ae ai aj=some r∧St w0 (Zg col) ac ag∧Zb rU 45 1 ac ag an ao ai∧Zb rU 45 2 ac ag ap aq aj∧[0,1].map f=[.slice an ai.length ao,.slice ap aj.length aq]) N ⟨_,_,_,_,_,_,_,_,rfl,hm,aa,am.gr av,a6,rfl⟩ ?_;clear hm;intro n f ag hI;obtain ⟨ac,an,ao,ai,ap,aq,aj,ae,hn,hm,aa,aw,ab,hs⟩:=hI;subst hn;refine .lL [0,1] hs ?_
 cases ae with
 | zero=>rw [Zcd.eq_1] at hm;cases hm
 | succ ae=>
  rw [Zcd.eq_2] at hm;refine go ?_;refine Zl hm (fun hb hm=>go ?_) fun hb hm=>go ?_
  ·obtain ⟨af,a7,hm⟩:=bZ hm;refine Zh (Znw 3 4 a7 ((aw.toSlF (Zm.int .u32)).froz 2) ((ab.froz 1).toSlF (Zm.int .u32))) fun _ bj ⟨a8,ax,ay,az,a2,e',ah,bk,ad⟩=>⟨_,e',?_⟩;replace ad:=ad.thaw (Z8 .u32) ah (((Fz.refl (col:=ac)).froz 1).froz 2);replace ah:=ah.thawR (col:=ac);generalize Xb ag.heap.size ac a8=bm at *;refine lM (.tuple #[.slice ax af.1.length ay,.slice az af.2.1.length a2,.int .i64 af.2.2])<|lV (.slice ax af.1.length ay) (X6 rfl rfl)<|lV (.slice az af.2.1.length a2) (X6 rfl rfl)<|lV (.int .i64 af.2.2) (X6 rfl rfl)<|go ?_;replace ab:=ab.gr ah;replace ab:=ab.recolSelf 1 (by decide);replace ad:=ad.recol 2 1;replace aa:=aa.grow ah;replace aa:=aa.recol 2 1 (by decide) (by decide);replace ad:=ad.recolSelf 2 (by decide);replace aa:=aa.recol 4 2 (by decide) (by decide);exact ⟨ae,by omega,rfl,⟨_,_,_,_,_,_,_,_,rfl,hm,aa,ab.recol 4 2,ad,rfl⟩⟩
  cases hm;exact ⟨rfl,_,_,_,rfl,aa.fin (cm [(1,c1)]),aa.fo aw⟩
theorem Zyg (N:Nat):∀ (n:Nat) (a:List Int),Za1 N n a=Ti N n a
 | 0,a=>rfl
 | n+1,a=>by
  rw [Za1.eq_2,Ti.eq_2]
  simp only [Zjk,Za0,Zyg N n]
theorem Zyh {N:Nat} {a:List Int} (h:Zn a) (hn:a.length<N) (hb:a.length≤35184372088000):Zed N a=some (Zf (Zc a)):=by
 rw [Zed,Zyg];exact Zne N N a h hn (by omega)
theorem Z5o {x L nx s:Nat} (hs:s<32) (hx:x<4294967296) (hn:nx=L % 4294967296):(x+4294967296 * L) / 2 ^ s=(x+4294967296 * nx) / 2 ^ s % 4294967296+4294967296 * (L / 2 ^ s):=by
 have a:(2:Nat) ^ s * 2 ^ (32 - s)=4294967296:=by rw [← cN,show s+(32 - s)=32 by omega]
 have b:=bU s
 generalize 2 ^ s=p at *
 generalize 2 ^ (32 - s)=r at *
 have c:(x+4294967296 * L) / p / 4294967296=L / p:=by
  rw [dX,bL p,← dX]
  congr 1
  omega
 have d:(x+4294967296 * L) / p % 4294967296=(x+4294967296 * nx) / p % 4294967296:=by
  have e:x+4294967296 * L=x+4294967296 * nx+p * (4294967296 * (r * (L / 4294967296))):=by
   have g:L=nx+4294967296 * (L / 4294967296):=by omega
   have f:p * (4294967296 * (r * (L / 4294967296)))=4294967296 * (p * r) * (L / 4294967296):=by grind
   rw [f,a]
   omega
  rw [e,fN _ _ b,gK]
 rw [← c,← d]
 omega
theorem Zr5 (N s:Nat) (hs:s<32) (q r:List Int) (hq:Zn q) (hr:Zn r) (hN:q.length<N∧r.length<N) (hb:q.length≤35184372088000∧r.length≤35184372088000):∀ (n i:Nat) (u d:List Int),i≤r.length→r.length<n+i→u=d++r.drop i→d.length=i→Zn d→Zc d+4294967296 ^ i * (Zc (r.drop i) / 2 ^ s)=Zc r / 2 ^ s→
  T9 N (s:Int) q r n u (i:Int)=some (Zf (Zc q),Zf (Zc r / 2 ^ s),0)
 | 0,i,u,d,m,o,_,_,_,_=>by omega
 | n+1,i,u,d,m,o,b,c,e,j=>by
  have y:u.length=r.length:=by rw [b,nA,cA];omega
  rw [T9.eq_2]
  by_cases hi:i<r.length
  ·have f:=aL hi
   have g:=hr.get hi
   have p:u[i]'(by omega)=r[i]:=by
    subst b
    rw [gF (by omega)]
    simp [c]
   have step:∀ a:Nat,a=Zc (r.drop (i+1)) % 4294967296→Zg2 (s:Int) u (i:Int) (T9 N (s:Int) q r n) (a:Int)=some (Zf (Zc q),Zf (Zc r / 2 ^ s),0):=fun a l=>by
    have t:u32.wrap (Yi .u64 (Yy .u64 (Xy .u64 (u64.wrap (a:Int)) 32) (u64.wrap r[i])) (s:Int))=(((r[i]).toNat+4294967296 * a) / 2 ^ s % 4294967296:Nat):=by
     rw [Xi (x:=(a:Int)) (by omega),Xi (x:=r[i]) (by omega),Znf (by omega) (by omega),show (a:Int) * 4294967296+r[i]=(((r[i]).toNat+4294967296 * a:Nat):Int) by omega,Znb _ _ _ (by simp only [IntKind.bits];omega),Zyq]
    have k:u.set i ((((r[i]).toNat+4294967296 * a) / 2 ^ s % 4294967296:Nat):Int)=(d++[((((r[i]).toNat+4294967296 * a) / 2 ^ s % 4294967296:Nat):Int)])++r.drop (i+1):=by
     subst b
     rw [f,fC _ _ (by omega),c,fT,fO]
     simp
    rw [Zg2,Zs (by omega),oB,Zz (by omega),p,t,oB,Zl0,Zp (by omega),aB,k]
    have v:=Zr5 N s hs q r hq hr hN hb n (i+1) _ (d++[((((r[i]).toNat+4294967296 * a) / 2 ^ s % 4294967296:Nat):Int)]) (by omega) (by omega) rfl (by simp [c]) (e.app (.cons (by omega) .nil)) (by
     rw [Si,c,Y3,Yg,aB,← j,f,Y3,Z5o hs (by omega) l,aY]
     generalize ((r[i]).toNat+4294967296 * a) / 2 ^ s % 4294967296=A
     generalize Zc (r.drop (i+1)) / 2 ^ s=C
     grind)
    exact v
   rw [if_pos (dT (by omega)),Zp (by omega)]
   by_cases hi1:i+1<r.length
   ·have w:u[i+1]'(by omega)=r[i+1]:=by
     subst b
     rw [gF (by omega)]
     simp [c]
    have B:=hr.get hi1
    rw [if_pos (dT (by omega)),show (i:Int)+1=((i+1:Nat):Int) by omega,Zs (by omega),oB,w,show r[i+1]=((r[i+1]).toNat:Int) by omega]
    exact step _ (by rw [V1 hi1];omega)
   ·rw [if_neg (dF (by omega))]
    have:=step 0 (by rw [aF (by omega)];rfl)
    exact this
  ·have:i=r.length:=by omega
   subst this
   rw [if_neg (dF (by omega))]
   rw [dY,cU] at b
   rw [dY,Yg,Nat.zero_div,dB,bQ] at j
   subst b
   rw [Sk hq hN.1 hb.1,oB,Sk e (by omega) (by omega),oB,j]
theorem Zr4 (N s:Nat) (v:List Int) (hN:2≤N) (hv:Zn v) (hn:2≤v.length) (hbig:2147483648≤(v[v.length - 1]).toNat):∀ (n j:Nat) (u q:List Int),j≤q.length→j<n→u.length=q.length+v.length→u.length<4611686018427387904→Zn u→Zn q→Zc (u.drop j)<Zc v→Zc (q.take j)=0→
  ∃ u' q',Zd8 N (s:Int) v n u q ((j:Int) - 1)=((Zed N u').bind fun r=>T9 N (s:Int) q' r N r 0)∧u'.length=u.length∧q'.length=q.length∧Zn u'∧Zn q'∧Zc u'<Zc v∧Zc v * Zc q'+Zc u'=Zc v * Zc q+Zc u
 | 0,j,u,q,_,h,_,_,_,_,_,_=>by omega
 | n+1,j,u,q,Z,Y,C,D,d,e,f,E=>by
  rw [Zd8.eq_2]
  by_cases h0:j=0
  ·subst h0
   rw [if_neg (by decide)]
   exact ⟨u,q,rfl,rfl,rfl,d,e,by simpa using f,rfl⟩
  ·have i:j - 1+1=j:=by omega
   have k:j - 1<u.length:=by omega
   have c:j - 1<q.length:=by omega
   have g:=d.get k
   have lv:=Sj hv
   have F:=Ut (u.drop j) v.length
   rw [eJ] at F
   have l:Zc (u.drop (j - 1+v.length+1))=0:=by
    rw [show j - 1+v.length+1=j+v.length by omega]
    rcases eP (Zc (u.drop (j+v.length))) with h | h
    ·exact h
    ·have:=aS (4294967296 ^ v.length) h
     generalize 4294967296 ^ v.length=P at *
     omega
   have G:=V1 k
   rw [i] at G
   obtain ⟨u',q1,m,H,I,o,J⟩:=Z1v (N:=N) (j0:=j - 1) hN d hv hn (by omega) D l hbig (by omega)
   have p:0≤((Zc (u.drop (j - 1)) / Zc v:Nat):Int)∧((Zc (u.drop (j - 1)) / Zc v:Nat):Int)<4294967296:=⟨dU _,eC.2 J⟩
   rw [if_pos (dT (by omega)),show (j:Int) - 1=((j - 1:Nat):Int) by omega,Zp (x:=((j - 1:Nat):Int)+(v.length:Int)) (by omega),Zp (by omega),Zz (by omega),aB,
    show aA (((j - 1:Nat):Int)+(v.length:Int)+1) - (j - 1)=v.length+1 by omega,q1,oB,Zs c,oB,oB,Zp (by omega)]
   have K:0<Zc v:=by omega
   -- the quotient's limb was 0
   have t:q[j - 1]=0∧Zc (q.take (j - 1))=0:=by
    have:=Zo6 c
    rw [i,E] at this
    have g2:=e.get c
    have hp:0<4294967296 ^ (j - 1):=eO (by decide)
    have L:4294967296 ^ (j - 1) * (q[j - 1]).toNat=0:=by omega
    rcases Nat.mul_eq_zero.1 L with h | h
    ·omega
    ·exact ⟨by omega,by omega⟩
   obtain ⟨M,w,O,R,S,T,U,V,W⟩:=Zr4 N s v hN hv hn hbig n (j - 1) u' (q.set (j - 1) ((Zc (u.drop (j - 1)) / Zc v:Nat):Int)) (by rw [nS];omega) (by omega) (by rw [nS,m];exact C) (by omega) H (e.set _ p) (by rw [o];exact dN _ K) (by rw [Zdd _ (bB _)];exact t.2)
   refine ⟨M,w,O,by rw [R,m],by rw [S,nS],T,U,V,?_⟩
   rw [W]
   have X:=Ut u (j - 1)
   have y:=Ut u' (j - 1)
   rw [I,o] at y
   have A:=Us c ((Zc (u.drop (j - 1)) / Zc v:Nat):Int)
   rw [t.1,eI,dB,bQ,aB] at A
   rw [y,A,X]
   have B:=fV (Zc (u.drop (j - 1))) (Zc v)
   generalize Zc (u.drop (j - 1)) / Zc v=a at *
   generalize Zc (u.drop (j - 1)) % Zc v=b at *
   rw [← B]
   generalize 4294967296 ^ (j - 1)=Q at *
   grind
theorem Zyd {l:List Int} (h:0<l.length):Zc l=Zc (l.take (l.length - 1))+4294967296 ^ (l.length - 1) * (l[l.length - 1]).toNat:=by
 conv=>lhs;rw [← Zf8 h,Si,Y3,Yg]
 rw [nK,aR (by omega),dB,bQ]
theorem Zye {l:List Int} (hl:Zn l):Zc (l.take (l.length - 1))<4294967296 ^ (l.length - 1):=by
 have:=Sj (hl.take (l.length - 1))
 rw [nK,aR (by omega)] at this
 exact this
theorem Z1y {u:List Int} {k n S:Nat} (hu:Zn u) (hk:k+n=u.length) (hn:0<n) (ht:∀ h:u.length - 1<u.length,(u[u.length - 1]).toNat<S):Zc (u.drop k)<4294967296 ^ (n - 1) * S:=by
 have a:(u.drop k).length=n:=by rw [cA];omega
 have b:=Zyd (l:=u.drop k) (by omega)
 have c:=Zye (hu.drop k)
 have d:((u.drop k)[(u.drop k).length - 1]'(by omega))=u[u.length - 1]'(by omega):=by
  have:(u.drop k)[(u.drop k).length - 1]?=u[u.length - 1]?:=by rw [List.getElem?_drop,a];congr 1;omega
  rw [aG (by omega),aG (by omega)] at this
  exact Option.some.inj this
 rw [d] at b
 rw [a] at b c
 have e:=ht (by omega)
 have f:=aS (4294967296 ^ (n - 1)) (show (u[u.length - 1]'(by omega)).toNat+1≤S from e)
 rw [dO] at f
 omega
theorem Zlm {N:Nat} {a b:List Int} (ha:Zn a) (hb:Zn b) (hN:a.length+b.length+4<N) (hs:a.length+b.length≤35184372088000):
  Zd7 N a b=some (if Zc b=0 then ([],[],11) else (Zf (Zc a / Zc b),Zf (Zc a % Zc b),0)):=by
 have la:=X9 ha
 have lb:=X9 hb
 rw [Zd7,Sr ha (by omega) (by omega),oB,Sr hb (by omega) (by omega),oB]
 generalize hA:Zc a=A at *
 generalize hB:Zc b=B at *
 by_cases h0:B=0
 ·subst h0
  rw [Wv,if_pos (by decide),if_pos rfl]
 ·have f:0<(Zf B).length:=bV.2 (fun h=>h0 (Zf9.1 h))
  rw [if_neg (dF (by omega)),if_neg h0,Zob (Z2 _) (Z2 _) (by omega) (by omega) (by omega) (by omega),oB,Z3,Z3]
  by_cases hlt:A<B
  ·rw [if_pos hlt,if_pos (by decide),Sk (Z2 _) (by omega) (by omega),oB,Z3,dQ hlt,dC hlt,Wv]
  ·rw [if_neg hlt,if_neg (by split <;> decide)]
   have a5:(Zf B).length≤(Zf A).length:=by
    have i:=Wu (k:=(Zf A).length) (n:=B)
    have c:=Wu (k:=(Zf A).length) (n:=A)
    have:=c.1 (bB _)
    exact i.2 (by omega)
   by_cases i:(Zf B).length=1
   ·have g:=(Z2 B).get f
    have v:=Zlt f
    have e0:(Zf B).length - 1=0:=by omega
    have a7:(Zf B)[0]≠0:=by
     have:(Zf B)[(Zf B).length - 1]?=(Zf B)[0]?:=by rw [e0]
     rw [aG (by omega),aG (by omega)] at this
     rw [← Option.some.inj this];exact v
    have I:((Zf B)[0]).toNat=B:=by
     have c:=Z3 B
     have C:=V1 (l:=Zf B) (k:=0) f
     rw [aX,c,aF (by omega),Yg] at C
     omega
    obtain ⟨q,q1,q2,q3,J⟩:=Z5q (N:=N) (a:=Zf A) (d:=(Zf B)[0]) (by omega) (Z2 _) (by omega) (by omega)
    rw [I,Z3] at q1 J
    have hm:=dN A (show 0<B by omega)
    have D:B<4294967296:=by omega
    have K:Zn [((A % B:Nat):Int)]:=.cons ⟨dU _,eC.2 (jO hm D)⟩ .nil
    rw [if_pos (dT (by omega)),Zn9 (by omega),oB,show (0:Int)=((0:Nat):Int) from rfl,Zs f,oB,q1,oB,Sk q3 (by omega) (by omega),oB,Sk K (by simp;omega) (by simp),oB,J,Y3,Yg,aB,dB,bQ]
   ·have L:0<(Zf B).length:=f
    have M:(Zf B).length - 1<(Zf B).length:=by omega
    have g:=(Z2 B).get M
    have v:=Zlt f
    obtain ⟨k,ek,k1,k2⟩:=Zlb (show ((Zf B)[(Zf B).length - 1]).toNat≠0 by omega)
    have hk:k≤31:=by
     have:Xd ((Zf B)[(Zf B).length - 1]).toNat≤32:=Vr.2 (by omega)
     omega
    obtain ⟨s,O⟩:∃ s,s=31 - k:=⟨_,rfl⟩
    have Q:Zi9 (Zf B)[(Zf B).length - 1]=some (s:Int):=by
     rw [Zi9,show (Zf B)[(Zf B).length - 1]=(((Zf B)[(Zf B).length - 1]).toNat:Int) by omega,Zti (by omega),oB,ek,Zp (by omega)]
     congr 1;omega
    obtain ⟨u,u1,u2,R,S,u5⟩:=Zth (a:=Zf A) (s:=s) (by omega) (Z2 _) (by omega)
    obtain ⟨w,w1,w2,w3,T,w5⟩:=Zth (a:=Zf B) (s:=s) (by omega) (Z2 _) (by omega)
    rw [Z3] at S T
    have j:=bU s
    -- the divisor, its highest Yk set
    have U:=Zf8 L
    have V:=Sj ((Z2 B).take ((Zf B).length - 1))
    rw [nK,aR (by omega)] at V
    have I:B=Zc ((Zf B).take ((Zf B).length - 1))+4294967296 ^ ((Zf B).length - 1) * ((Zf B)[(Zf B).length - 1]).toNat:=by
     conv=>lhs;rw [← Z3 B,← U,Si,Y3,Yg]
     rw [nK,aR (by omega)];simp
    have W:2 ^ k * 2 ^ s=2147483648:=by rw [← cN,O,show k+(31 - k)=31 by omega]
    have X:2 ^ (k+1) * 2 ^ s=4294967296:=by rw [aY,Nat.mul_right_comm,W]
    have c2:0<4294967296 ^ ((Zf B).length - 1):=eO (by decide)
    have b7:(Zf B).length - 1+1=(Zf B).length:=by omega
    have Y:(4294967296:Nat) ^ (Zf B).length=4294967296 ^ ((Zf B).length - 1) * 4294967296:=by rw [← aY];congr 1;omega
    generalize hPe:4294967296 ^ ((Zf B).length - 1)=P at *
    have b8:P * 2147483648≤2 ^ s * B:=by
     have i:=aS P k1
     have c:=bF (2 ^ s) (show P * 2 ^ k≤B by omega)
     rw [bN,W] at c
     rw [bL (2 ^ s)];exact c
    have E:2 ^ s * B<P * 4294967296:=by
     have i:=aS P (show ((Zf B)[(Zf B).length - 1]).toNat+1≤2 ^ (k+1) from k2)
     rw [dO] at i
     have c:=fZ (show B<P * 2 ^ (k+1) by omega) j
     rw [bN,X] at c
     rw [bL (2 ^ s)];exact c
    have Z:(Zf (2 ^ s * B)).length=(Zf B).length:=by
     have i:(Zf (2 ^ s * B)).length≤(Zf B).length:=Wu.2 (by rw [Y];exact E)
     have c:¬ (Zf (2 ^ s * B)).length≤(Zf B).length - 1:=fun h=>by
      have:=Wu.1 h
      rw [hPe] at this
      have:P * 1≤P * 2147483648:=aS _ (by decide)
      omega
     omega
    have a0:0<(Zf (2 ^ s * B)).length:=by omega
    have F:2147483648≤((Zf (2 ^ s * B))[(Zf (2 ^ s * B)).length - 1]).toNat:=by
     have a1:=Zye (Z2 (2 ^ s * B))
     have e:=Zyd a0
     have y:(4294967296:Nat) ^ ((Zf (2 ^ s * B)).length - 1)=P:=by rw [Z];exact hPe
     rw [Z3,y] at e
     rw [y] at a1
     generalize Zc ((Zf (2 ^ s * B)).take ((Zf (2 ^ s * B)).length - 1))=lo at *
     generalize ((Zf (2 ^ s * B))[(Zf (2 ^ s * B)).length - 1]).toNat=t at *
     have C:P * 2147483648<P * (t+1):=by rw [dO];omega
     have:=eL C
     omega
    obtain ⟨q,m⟩:∃ q,q=aI ((Zf A).length - (Zf B).length+1) (0:Int):=⟨_,rfl⟩
    have lq:q.length=(Zf A).length - (Zf B).length+1:=by rw [m,aQ]
    rw [if_neg (dF (by omega)),Zp (x:=((Zf B).length:Int) - 1) (by omega),show ((Zf B).length:Int) - 1=(((Zf B).length - 1:Nat):Int) by omega,Zs M,oB,Q,oB,u1,oB,w1,oB,
     Zyh w3 (by omega) (by omega),oB,T,Zp (x:=((Zf A).length:Int) - ((Zf B).length:Int)) (by omega),Zp (x:=((Zf A).length:Int) - ((Zf B).length:Int)+1) (by omega),Zz (by simp only [maxLen];omega),
     show aA (((Zf A).length:Int) - ((Zf B).length:Int)+1)=(Zf A).length - (Zf B).length+1 by omega,← m,Zp (x:=(q.length:Int) - 1) (by omega)]
    obtain ⟨u',q',r1,r2,r3,r4,r5,G,p⟩:=Zr4 N s (Zf (2 ^ s * B)) (by omega) (Z2 _) (by omega) F N q.length u q (bB _) (by omega) (by omega) (by omega) R (by rw [m];exact .zeros _) (by
     -- the highest Zf are below the divisor
     rw [Z3]
     have i:=Z1y (k:=q.length) (n:=(Zf B).length) R (by omega) L u5
     rw [hPe] at i
     have H:2 ^ s≤2147483648:=by
      have:=fJ (n:=2) (by decide) (show s≤31 by omega)
      omega
     have h8:=aS P H
     omega) (by rw [m,List.take_replicate];exact U5 _)
    rw [r1,Zyh r4 (by omega) (by omega),oB]
    rw [Z3] at G p
    have zq:Zc q=0:=by rw [m];exact U5 _
    rw [zq,S,dB,cK] at p
    have ll:=X9 r4
    have o:=Zr5 N s (by omega) q' (Zf (Zc u')) r5 (Z2 _) (by omega) (by omega) N 0 (Zf (Zc u')) [] (by omega) (by omega) (by simp) rfl .nil (by rw [Yg,aX,dA];omega)
    rw [show ((0:Nat):Int)=0 from rfl] at o
    rw [o,Z3]
    have a3:Zc q'=A / B:=by
     have r:2 ^ s * A / (2 ^ s * B)=Zc q':=by
      rw [← p,iV (by omega),dQ G,bQ]
     rw [← r,Nat.mul_div_mul_left _ _ j]
    have a4:Zc u' / 2 ^ s=A % B:=by
     have r:2 ^ s * A % (2 ^ s * B)=Zc u':=by
      rw [← p,iW,dC G]
     rw [hL] at r
     rw [← r,Nat.mul_div_cancel_left _ j]
    rw [a3,a4]
theorem Z2s {x y:Nat} (h:y≤x) (hy:0<y):y * (x % y)≤x * y / 2:=by
 have c:x % y+y≤x:=by
  have:=Nat.mod_add_div x y
  have a:y * 1≤y * (x / y):=aS _ (Nat.div_pos h hy)
  omega
 have a:=dN x hy
 have b:y * (2 * (x % y))≤y * x:=aS _ (by omega)
 rw [dW (by decide),bL x y,bN,bL (x % y) 2]
 exact b
theorem Zoj (N:Nat):∀ (n x y:Nat),y≤x→Xd (x * y)<n→(Zf x).length+(Zf y).length+4<N→(Zf x).length+(Zf y).length≤35184372088000→Zcd N n (Zf x) (Zf y)=some (Zf (cJ x y))
 | 0,x,y,_,h,_,_=>by omega
 | n+1,x,y,a,i,c,d=>by
  rw [Zcd.eq_2]
  by_cases h0:y=0
  ·subst h0
   rw [Wv,if_neg (by decide),Nat.gcd_zero_right]
  ·have j:0<(Zf y).length:=bV.2 (fun h=>h0 (Zf9.1 h))
   have b:=dN x (show 0<y by omega)
   have k:(Zf (x % y)).length≤(Zf y).length:=Wu.2 (jO b (Wu.1 (bB _)))
   have l:(Zf y).length≤(Zf x).length:=Wu.2 (dS a (Wu.1 (bB _)))
   rw [if_pos (dT (by omega)),Zlm (Z2 _) (Z2 _) c d,oB,Z3,Z3,if_neg h0]
   have e:Xd (y * (x % y))<n:=by
    have f:=Z2s a (by omega)
    have g:Xd (y * (x % y))≤Xd (x * y / 2 ^ 1):=Vr.2 (dS (by rw [Nat.pow_one];exact f) (Vr.1 (bB _)))
    rw [Zit] at g
    have m:0<x * y:=fS (by omega) (by omega)
    have o:0<Xd (x * y):=by
     rcases eP (Xd (x * y)) with h | h
     ·have:=Vr.1 (show Xd (x * y)≤0 by omega)
      omega
     ·exact h
    omega
   have:=Zoj N n y (x % y) (jN b) e (by omega) (by omega)
   rw [this,eK x y,Nat.gcd_rec y x,eK]
theorem Zqg (x y:Nat):Xd (x * y)≤Xd x+Xd y:=by
 refine Vr.2 ?_
 rw [cN]
 have a:=Vr.1 (bB (Xd x))
 have b:=Vr.1 (bB (Xd y))
 exact iQ a b
theorem Z2r {N:Nat} {a b:List Int} (ha:Zn a) (hb:Zn b) (hN:32 * (a.length+b.length)+8<N) (hs:a.length+b.length≤35184372088000):Zje N a b=some (Zf (cJ (Zc a) (Zc b))):=by
 have e:=X9 ha
 have f:=X9 hb
 have g:=(Zk9 (Zc a)).2
 have i:=(Zk9 (Zc b)).2
 rw [Zje,Sk ha (by omega) (by omega),oB,Sk hb (by omega) (by omega),oB]
 by_cases h:Zc b≤Zc a
 ·have:=Zqg (Zc a) (Zc b)
  exact Zoj N N _ _ h (by omega) (by omega) (by omega)
 ·have d:Zc a<Zc b:=by omega
  have j:=Zqg (Zc b) (Zc a)
  have k:0<(Zf (Zc b)).length:=bV.2 (fun h=>by have:=Zf9.1 h;omega)
  obtain ⟨c,rfl⟩:∃ c,N=c+1:=⟨N - 1,by omega⟩
  rw [Zcd.eq_2,if_pos (dT (by omega)),Zlm (Z2 _) (Z2 _) (by omega) (by omega),oB,Z3,Z3,if_neg (by omega),dC d,
   Zoj (c+1) c _ _ (by omega) (by omega) (by omega) (by omega),eK]
abbrev ZV:=Bool×List Int
abbrev QV:=R5×List Int
def Zu (a:ZV):Int:=if a.1=true then -(Zc a.2:Int) else (Zc a.2:Int)
def Xk (z:Int):ZV:=(decide (z<0),Zf z.natAbs)
def Yh (l:List Int):Nat:=if Zc l=0 then 1 else Zc l
def Xj (a:QV):Rat:=mkRat (Zu a.1) (Yh a.2)
def Xc (q:Rat):QV:=(Xk q.num,Zf q.den)
structure RV (k:Nat) (a:QV):Prop where
 m:Zn a.1.2
 d:Zn a.2
 lm:a.1.2.length≤k
 ld:a.2.length≤k
def qs (q:Rat):Nat:=max (Zf q.num.natAbs).length (Zf q.den).length
def Xa (N s:Nat):Prop:=200 * (s+4)<N∧s≤1066000000000
theorem Zbo (a:ZV):(Zu a).natAbs=Zc a.2:=by
 rw [Zu];split <;> omega
theorem Vw (z:Int):Zu (Xk z)=z:=by
 rw [Zu,Xk]
 simp only [Z3,decide_eq_true_eq]
 split <;> omega
theorem Zkf (n:Bool) (m:List Int):Xk (Zu (n,m))=(n&&decide (Zc m≠0),Zf (Zc m)):=by
 rw [Xk,Zbo]
 congr 1
 rw [Zu]
 cases n
 ·rw [if_neg (fun h=>by cases h),Bool.false_and]
  exact decide_eq_false (by omega)
 ·rw [if_pos rfl,Bool.true_and]
  exact decide_eq_decide.2 (by simp only;omega)
theorem Vy (z:Int):Zn (Xk z).2:=Z2 _
theorem Sz (l:List Int):Yh l≠0:=by rw [Yh];split <;> omega
theorem Z1z {n:Nat} (h:n≠0):Yh (Zf n)=n:=by rw [Yh,Z3,if_neg h]
theorem Qk (q:Rat):Xj (Xc q)=q:=by
 rw [Xj,Xc]
 simp only [Vw,Z1z q.den_nz]
 exact Rat.mkRat_self q
theorem Zpv (q:Rat):RV (qs q) (Xc q):=⟨Z2 _,Z2 _,dI _ _,cV _ _⟩
theorem RV.mono {k l:Nat} {a:QV} (h:RV k a) (hl:k≤l):RV l a:=⟨h.m,h.d,bA h.lm hl,bA h.ld hl⟩
theorem Zkr {q:Rat} {k:Nat} (h:qs q≤k):RV k (Xc q):=(Zpv q).mono h
theorem Xa.mono {N s t:Nat} (h:Xa N t) (hs:s≤t):Xa N s:=by
 obtain ⟨a,b⟩:=h
 exact ⟨by omega,by omega⟩
theorem Vf {m n:Nat} (h:m≤n):(Zf m).length≤(Zf n).length:=Wu.2 (dS h (Wu.1 (bB _)))
theorem S4 (m n:Nat):(Zf (m * n)).length≤(Zf m).length+(Zf n).length:=by
 refine Wu.2 ?_
 rw [cN]
 exact iQ (Wu.1 (bB _)) (Wu.1 (bB _))
theorem Zls {m n k:Nat} (hm:(Zf m).length≤k) (hn:(Zf n).length≤k):(Zf (m+n)).length≤k+1:=by
 refine Wu.2 ?_
 have a:=Wu.1 hm
 have b:=Wu.1 hn
 rw [aY]
 omega
theorem T0 {n:Nat} (h:n≠0):1≤(Zf n).length:=bV.2 (fun e=>h (Zf9.1 e))
theorem Z4e (q:Rat):1≤qs q:=bA (T0 q.den_nz) (cV _ _)
theorem Zpg {z:Int} {d k:Nat} (hz:(Zf z.natAbs).length≤k) (hd:(Zf d).length≤k) (hk:1≤k):qs (mkRat z d)≤k:=by
 rw [qs,jF,jG]
 by_cases h:d=0
 ·rw [if_pos h,if_pos h]
  simp only [iY,Wv,Zam]
  simp;omega
 ·rw [if_neg h,if_neg h]
  refine Nat.max_le.2 ⟨bA (Vf ?_) hz,bA (Vf (cB _ _)) hd⟩
  exact Int.natAbs_ediv_le_natAbs _ _
theorem Zvk {k:Nat} {a:QV} (h:RV k a):qs (Xj a)≤max k 1:=by
 refine Zpg ?_ ?_ (cV _ _)
 ·rw [Zbo]
  exact bA (X9 h.m) (bA h.lm (dI _ _))
 ·rw [Yh]
  split
  ·rw [Zam];exact cV _ _
  ·exact bA (X9 h.d) (bA h.ld (dI _ _))
theorem Zph (a b:Rat):qs (a * b)≤qs a+qs b:=by
 rw [Rat.mul_def']
 have:=Z4e a
 refine Zpg ?_ ?_ (by omega)
 ·rw [gG]
  exact bA (S4 _ _) (jD (dI _ _) (dI _ _))
 ·exact bA (S4 _ _) (jD (cV _ _) (cV _ _))
theorem Zvj (a b:Rat):qs (a+b)≤qs a+qs b+1:=by
 rw [Rat.add_def']
 have c:(Zf a.num.natAbs).length≤qs a:=dI _ _
 have d:(Zf a.den).length≤qs a:=cV _ _
 have e:(Zf b.num.natAbs).length≤qs b:=dI _ _
 have f:(Zf b.den).length≤qs b:=cV _ _
 refine Zpg (bA (Vf (Int.natAbs_add_le _ _)) (Zls ?_ ?_)) ?_ (by omega)
 ·rw [gG,iK]
  have:=S4 a.num.natAbs b.den
  omega
 ·rw [gG,iK]
  have:=S4 b.num.natAbs a.den
  omega
 ·have:=S4 a.den b.den
  omega
theorem Zpj:qs 0=1:=by
 rw [qs]
 simp only [Rat.zero_num,Rat.zero_den,iY,Wv,Zam]
 simp
theorem Zmw:qs 1=1:=by
 rw [qs]
 simp only [Rat.one_num,Rat.one_den,Int.natAbs_one,Zam]
 simp
theorem Zuo {neg:Bool} {num den:List Int} (hd:Zc den≠0):
  Xc (mkRat (Zu (neg,num)) (Zc den))=((neg&&decide (Zc num / cJ (Zc num) (Zc den)≠0),Zf (Zc num / cJ (Zc num) (Zc den))),Zf (Zc den / cJ (Zc num) (Zc den))):=by
 rw [Xc,jF,jG,if_neg hd,if_neg hd,Zbo,eK (Zc den) (Zc num)]
 have a:cJ (Zc num) (Zc den)≠0:=fun h=>hd (Nat.gcd_eq_zero_iff.1 h).2
 congr 1
 have e:Zu (neg,num) / ((cJ (Zc num) (Zc den):Nat):Int)=Zu (neg,Zf (Zc num / cJ (Zc num) (Zc den))):=by
  rw [Zu,Zu]
  simp only [Z3]
  cases neg
  ·simp
  ·simp only [if_true]
   rw [Int.neg_ediv_of_dvd (Int.natCast_dvd_natCast.2 (Nat.gcd_dvd_left _ _)),gA]
 rw [e,Zkf,Z3]
theorem Zt9 {a b:Int} {c d:Nat} (hc:c≠0) (hd:d≠0):mkRat a c<mkRat b d↔a * d<b * c:=by
 have f:(0:Rat)<(c:Rat):=iZ.2 (by omega)
 have g:(0:Rat)<(d:Rat):=iZ.2 (by omega)
 rw [dJ,dJ,Rat.div_lt_iff f]
 have e:(b:Rat) / d * c=(b:Rat) * c / d:=by
  rw [Rat.div_def,Rat.div_def,jH,jH,Rat.mul_comm (d:Rat)⁻¹]
 rw [e,Rat.lt_div_iff g]
 have i:((a:Rat) * (d:Rat))=((a * (d:Int):Int):Rat):=by rw [gL];rfl
 have j:((b:Rat) * (c:Rat))=((b * (c:Int):Int):Rat):=by rw [gL];rfl
 rw [i,j,Rat.intCast_lt_intCast]
def Zad (a b:Rat):Int:=if a<b then -1 else if b<a then 1 else 0
def Qo (a b:Int):Int:=if a<b then -1 else if b<a then 1 else 0
def Zc6 (a:Rat):Int:=Zad a 0
theorem Zpd {a b:Int} {c d:Nat} (hc:c≠0) (hd:d≠0):Zad (mkRat a c) (mkRat b d)=Qo (a * d) (b * c):=by
 unfold Zad Qo
 simp only [Zt9 hc hd,Zt9 hd hc]
theorem Znj (a:Int):Qo a 0=a.sign:=by
 unfold Qo
 rcases Int.lt_trichotomy a 0 with h | h | h
 ·rw [if_pos h,Int.sign_eq_neg_one_of_neg h]
 ·rw [h];rfl
 ·rw [if_neg (by omega),if_pos h,Int.sign_eq_one_of_pos h]
theorem Zvl (a:QV):Zc6 (Xj a)=(Zu a.1).sign:=by
 rw [Zc6,Xj,show (0:Rat)=mkRat 0 1 by rw [Rat.zero_mkRat],Zpd (Sz _) (by decide),← Znj]
 simp
theorem Zmx {a:Rat}:Zc6 a<0↔a<0:=by
 rw [Zc6,Zad]
 by_cases h:a<0
 ·rw [if_pos h];simp [h]
 ·rw [if_neg h];simp only [h,iff_false];split <;> decide
def T5 (N:Nat) (ab:R1):Option R2:=
  (Zd9 N ab.2).bind fun aa=>if (decide (0<(aa.length:Int)))=true then (some aa) else ((Zay N 1).bind fun ac=>some ac)
theorem Zbp {N ad ae:Nat} {af ag:Option Addr} {col:Zd} {w0:World} {ab:R1} {r:R2} (c1:Nat) (hm:T5 N ab=some r) (aq:Sl rU col w0 af ad ab.1.2) (ac:Sl rU col w0 ag ae ab.2):
    Calls prog 121 #[(.agg #[.bool ab.1.1,.slice af ab.1.2.length ad,.slice ag ab.2.length ae])] w0 (W2 .u32 45 c1 col w0 r):=by
 refine Z7 2 (m:=12) func121 rfl rfl rfl rfl rfl ?_;rw [T5.eq_1] at hm;have aa:=St.start col w0;refine go ?_;refine Xf (col:=(Zg col)) 1 rfl ?_;intro ar au av ah ai;refine go ?_;refine Zy ai ?_;obtain ⟨aw,aj,hm⟩:=bZ hm;replace aa:=aa.grow ah;refine Zh (Znx 2 aj (ac.k0.ks aa)) ?_;rintro _ ax ⟨ak,ay,az,rfl,al,am⟩;refine ⟨_,rfl,go ?_⟩;replace aa:=aa.grow al;refine Zl hm (fun hb hm=>go ?_) fun hb hm=>go ?_
 ·cases hm;exact ⟨rfl,_,_,_,rfl,aa.fin (cm [(2,c1)]),aa.fo am⟩
 obtain ⟨a0,an,hm⟩:=bZ hm;refine Zh (Ziu (col:=ak) 3 an) ?_;rintro _ a1 ⟨a2,a3,a4,rfl,ao,ap⟩;refine ⟨_,rfl,go ?_⟩;cases hm;replace aa:=aa.grow ao;exact ⟨rfl,_,_,_,rfl,aa.fin (cm [(3,c1)]),aa.fo ap⟩
def Zid (aa:Bool) (ab:List Int):Option R5:=
  some (aa,ab)
def Qh (N:Nat) (ab:Bool) (ac:List Int):Option R5:=
  (Zd9 N ac).bind fun aa=>if ab=true then (Zid (decide (0<(aa.length:Int))) aa) else (Zid false aa)
theorem Zdj {N ao:Nat} {a1:Option Addr} {col:Zd} {w0:World} {ap:Bool} {ah:R2} {r:R5} (c1:Nat) (hm:Qh N ap ah=some r) (h1:Sl rU col w0 a1 ao ah):
    Calls prog 161 #[.bool ap,.slice a1 ah.length ao] w0 (Tk 45 c1 col w0 r):=by
 refine Yw (m:=16) func161 rfl rfl rfl ?_;rw [Qh.eq_1] at hm;have aa:=St.start col w0;refine go ?_;refine Xt (col:=(Zg col)) #[.bool false,(nI)] 1 zeroValue40 ?_;intro ax a4 a5 ay ac;refine go ?_;obtain ⟨ad,az,hm⟩:=bZ hm;replace aa:=aa.grow ay;refine Zh (Znx 2 az (h1.k0.ks aa)) fun _ a6 ⟨a7,aq,ar,e',au,ab⟩=>⟨_,e',?_⟩;refine Zbx rfl<|Zj<|Zw ?_;replace ac:=ac.gr au;replace aa:=aa.grow au;refine Wp.cutK [4,1000000] (fun f ae=>∃ af ai aj ak ag,Zid ai ag=some r∧St w0 (Zg col) af ae∧Zb rU 45 3 af ae aj ak ag∧Ze 40 1 af ae ax #[.bool ai,.slice aj ag.length ak]) ?_ ?_
 ·intro f ae hJ;obtain ⟨af,ai,aj,ak,ag,hm,aa,a0,ac⟩:=hJ;rw [Zid.eq_1] at hm;refine Y1 ?_;cases hm;exact ⟨rfl,_,ra ac.atN,_,_,_,rfl,aa.fin (cm [(3,c1)]),aa.fo a0⟩
 refine go ?_;refine Xo hm (fun al hm=>go ?_) fun al hm=>go ?_
 ·refine lV (.bool (decide (0<(ad.length:Int)))) (Z5 (congrArg Value.bool al) rfl)<|Y8 rfl<|lV (.agg #[.bool (decide (0<(ad.length:Int))),.slice aq ad.length ar]) (Wz (l:=[_,_]) (qs:=[(0,1),(1,1)]) underlying40 zeroValue40 ⟨rfl,sizeOf4,rfl,sizeOf38,trivial⟩ rfl)<|Xg ac ?_;intro a8 av a2 am;refine Zj ?_;replace ab:=ab.kp av;replace ab:=ab.recolSelf 3 (by decide);replace aa:=aa.kp av a2;replace aa:=aa.recol 2 3 (by decide) (by decide);exact ⟨rfl,_,_,_,_,_,hm,aa,ab,am.recol 2 3⟩
 refine lV (.bool false) (Xn (congrArg Value.bool al) rfl)<|Y8 rfl<|lV (.agg #[.bool false,.slice aq ad.length ar]) (Wz (l:=[_,_]) (qs:=[(0,1),(1,1)]) underlying40 zeroValue40 ⟨rfl,sizeOf4,rfl,sizeOf38,trivial⟩ rfl)<|Xg ac ?_;intro a9 aw a3 an;refine Zj ?_;replace ab:=ab.kp aw;replace ab:=ab.recolSelf 3 (by decide);replace aa:=aa.kp aw a3;replace aa:=aa.recol 2 3 (by decide) (by decide);exact ⟨rfl,_,_,_,_,_,hm,aa,ab,an.recol 2 3⟩
def Zkb (N:Nat) (aa:R5) (ab:R5):Option R5:=
  (Zax N aa.2 ab.2).bind fun ad=>(Qh N (!decide (aa.1=ab.1)) ad).bind fun ac=>some (ac.1,ac.2)
theorem Z1b {N ar au:Nat} {av aw:Option Addr} {col:Zd} {w0:World} {ag ah r:R5} (c1:Nat) (hm:Zkb N ag ah=some r) (al:Sl rU col w0 av ar ag.2) (am:Sl rU col w0 aw au ah.2):
    Calls prog 164 #[(.agg #[.bool ag.1,.slice av ag.2.length ar]),(.agg #[.bool ah.1,.slice aw ah.2.length au])] w0 (Tk 45 c1 col w0 r):=by
 refine Yw (m:=16) func164 rfl rfl rfl ?_;rw [Zkb.eq_1] at hm;have aa:=St.start col w0;refine go ?_;refine Xf (col:=(Zg col)) 1 rfl ?_;intro a7 a8 az a0 ai;refine Xf (col:=az) 2 rfl ?_;intro a9 ba a1 ax aj;refine Xt (col:=a1) #[.bool false,(nI)] 3 zeroValue40 ?_;intro bb bc ad an ab;refine go ?_;refine Wc (col:=ad) [(0,1),(1,0),(2,1),(3,0),(4,1),(5,1),(6,0),(7,1),(8,0),(9,3),(10,3),(11,2)] (by kernel_rfl) (by kernel_rfl)<|xF ⟨_,_,rfl⟩ ?_;replace ai:=(ai.gr ax).gr an;refine xW (fun _ hC=>((ai.atN).nth (q:=0) rfl).gr (hC.bl ad)) ?_;refine xF ⟨_,_,rfl⟩ ?_;replace aj:=aj.gr an;refine xW (fun _ hC=>((aj.atN).nth (q:=0) rfl).gr (hC.bl ad)) ?_;refine xu rfl rfl (fun _=>Zkm _ _ underlying4 rfl rfl) ?_;refine xF ⟨_,_,rfl⟩ ?_;refine xW (fun _ hC=>((ai.atN).nth (q:=1) rfl).gr (hC.bl ad)) ?_;refine xF ⟨_,_,rfl⟩ ?_;refine xW (fun _ hC=>((aj.atN).nth (q:=1) rfl).gr (hC.bl ad)) ?_;refine xe rfl rfl ?_;intro bd hC0;have hC:=hC0.bl ad;obtain ⟨be,a2,hm⟩:=bZ hm;replace aa:=(((aa.grow a0).grow ax).grow an).grow hC;refine Zh (Zld 4 a2 (al.k0.ks aa) (am.k0.ks aa)) fun _ bf ⟨af,bg,bh,e',ao,ap⟩=>⟨_,e',?_⟩;refine Zj<|Xp af hC0 ao<|xe rfl rfl ?_;intro a3 hC0;replace ab:=(ab.gr hC).gr ao;have hC:=hC0.bl af;obtain ⟨bi,a4,hm⟩:=bZ hm;refine Zh (Zdj 5 a4 ((ap.gr hC).toSlF (Zm.int .u32))) fun _ bj ⟨a5,bk,bm,e',ae,ac⟩=>⟨_,e',?_⟩;replace ac:=ac.thaw (Z8 .u32) ae ((Fz.refl (col:=af)).froz 4);replace ae:=ae.thawR (col:=af);generalize Xb a3.heap.size af a5=ak at *;refine Zj<|Xp ak hC0 ae<|xe rfl rfl ?_;intro bn hC0;replace aa:=((aa.grow ao).grow hC).grow ae;replace ab:=(ab.gr hC).gr ae;have hC:=hC0.bl ak;refine Xg (ab.gr hC) ?_;intro bo ay a6 aq;refine Zj<|xk ak<|Y4 ?_;replace ac:=(ac.gr hC).kp ay;replace aa:=(aa.grow hC).kp ay a6;intro bp hC;replace hC:=hC.bl ak;refine Y1 ?_;cases hm;replace aa:=aa.grow hC;exact ⟨rfl,_,ra (aq.gr hC).atN,_,_,_,rfl,aa.fin (cm [(5,c1)]),aa.fo (ac.gr hC)⟩
def Zb3 (N:Nat) (aa:R5) (ac:List Int):Option R5:=
  (Zkb N (aa.1,aa.2) (false,ac)).bind fun ab=>some (ab.1,ab.2)
theorem Zlc {N ai ad:Nat} {aj a1:Option Addr} {col:Zd} {w0:World} {ab:R5} {ac:R2} {r:R5} (c1:Nat) (hm:Zb3 N ab ac=some r) (ae:Sl rU col w0 aj ai ab.2) (h1:Sl rU col w0 a1 ad ac):
    Calls prog 123 #[(.agg #[.bool ab.1,.slice aj ab.2.length ai]),.slice a1 ac.length ad] w0 (Tk 45 c1 col w0 r):=by
 refine Yw (m:=9) func123 rfl rfl rfl ?_;rw [Zb3.eq_1] at hm;have aa:=St.start col w0;refine go ?_;refine Xf (col:=(Zg col)) 1 rfl ?_;intro au av an ao af;refine Xt (col:=an) #[.bool false,(nI)] 2 zeroValue40 ?_;intro aw ax ay ak ag;refine go ?_;refine lV _ (Xh isAgg40 sizeOf40 (af.gr ak))<|Y8 rfl<|lV (.agg #[.bool false,.slice a1 ac.length ad]) (Wz (l:=[_,_]) (qs:=[(0,1),(1,1)]) underlying40 zeroValue40 ⟨rfl,sizeOf4,rfl,sizeOf38,trivial⟩ rfl) ?_;obtain ⟨az,ap,hm⟩:=bZ hm;replace aa:=(aa.grow ao).grow ak;refine Zh (Z1b 3 ap (ae.k0.ks aa) (h1.k0.ks aa)) fun _ a0 ⟨a2,a3,a4,e',al,ah⟩=>⟨_,e',?_⟩;refine Xg (ag.gr al) ?_;intro a5 am aq ar;refine go ?_;cases hm;replace aa:=(aa.grow al).kp am aq;exact ⟨rfl,_,ra ar.atN,_,_,_,rfl,aa.fin (cm [(3,c1)]),aa.fo (ah.kp am)⟩

end Go.Proofs.YthclpfhncgpnmaaGreat
