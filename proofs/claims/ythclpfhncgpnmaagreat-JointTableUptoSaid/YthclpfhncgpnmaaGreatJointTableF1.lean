/-
  What functions of the program compute, as plain Lean functions (m_..), and proofs that they compute it (c_..). Printed by a program of the author; no conditions.
-/
import Derived.Test.YthclpfhncgpnmaaGreatJointTableBFloat
import Derived.Test.YthclpfhncgpnmaaGreatProg
import Derived.Test.YthclpfhncgpnmaaGreatJointTableBBrief
import Derived.Test.YthclpfhncgpnmaaGreatJointTableBPiece
set_option linter.unusedVariables false
set_option maxRecDepth 100000
set_option maxHeartbeats 2000000
namespace Go.Proofs.YthclpfhncgpnmaaGreat
open Go Go.RowKit
open List renaming getElem?_eq_getElem→aI,mem_cons_self→aQ,mem_cons_of_mem→aO,nil_append→bL,cons_append→cJ,map_cons→cP,drop_eq_nil_iff→aM,replicate→aC,mem_cons→aP,not_mem_nil→bA,map_nil→dO,getD_eq_getElem?_getD→aF,drop_zero→aR,drop_eq_getElem_cons→aL,getElem_mem→aD,set_append_right→eJ,length_replicate→aN,length_map→aE,eq_nil_of_length_eq_zero→cH,drop_length→eE,append_nil→cL,take_append_drop→fP,drop_eq_nil_of_le→aG,getElem_cons_zero→hY,set_cons_zero→fX,length_take_of_le→bE,length_pos_iff→cB,getElem?_eq_none→cY,drop_drop→eR,drop_replicate→fV,getElem_set_self→fQ,length_drop→cG,getElem_append_right→eX
open Int renaming tdiv→aV,toNat→aA,tmod→bI,natCast_nonneg→dZ,ofNat_lt→eI,toNat_natCast→aB,natCast_mul→bQ,fdiv_eq_ediv_of_nonneg→gS,toNat_of_nonneg→bJ,mul_le_mul→jQ,mul_nonneg→jR,toNat_zero→eQ,natCast_emod→jF,tdiv_eq_ediv_of_nonneg→bW,tmod_eq_emod_of_nonneg→cD,natCast_ediv→gO,natAbs_zero→jN,natAbs_mul→eZ,natAbs_natCast→gA
open Nat renaming lt_of_lt_of_le→aK,beq→aJ,mul_pos→gG,div_lt_iff_lt_mul→dE,mod_lt→dR,mul_comm→bS,div_add_mod→gJ,mul_le_mul_right→bH,add_mul→bM,one_mul→bR,mul_add_div→jK,div_eq_of_lt→dV,add_zero→bO,mul_add_mod→jL,mod_eq_of_lt→dJ,mul_assoc→bP,le_div_iff_mul_le→eC,div_le_self→cM,div_div_eq_div_mul→eD,le_refl→bB,sub_self→fB,pow_succ→aZ,strongRecOn→gK,pow_pos→eW,pow_zero→dH,min_eq_left→aS,mul_le_mul_left→aU,add_comm→kD,mul_zero→dI,add_assoc→dU,zero_add→cS,two_pow_pos→bY,log2_eq_iff→jM,pow_le_pow_right→fS,lt_of_le_of_lt→dX,pow_add→cW,mul_add→dS,two_pow_add_eq_or_of_lt→gM,add_mul_mod_self_left→gW,add_mul_div_left→fW,mul_lt_mul_of_pos_right→gN,mul_mod_mul_left→iJ,lt_of_mul_lt_mul_left→eU,mul_le_mul→jS,le_of_lt→iP,eq_zero_or_pos→eY,lt_trans→kE,gcd→cR,gcd_comm→eS,mul_lt_mul''→jG,le_max_left→dM,le_max_right→dD,le_trans→aY,add_le_add→jT
open Option renaming getD_some→dC
open Rat renaming num_mkRat→jV,den_mkRat→jW,natCast_pos→jO,mkRat_eq_div→dN,mul_assoc→jX,intCast_mul→gX
open Go.IntKind (i8 i16 i32 i64 u8 u16 u32 u64)
open Go.Proofs.Tryz
abbrev R8:=List ByteArray
abbrev R2:=List Int
abbrev Rd:=List R2
abbrev R4:=Bool×List Int
abbrev R1:=R4×List Int
abbrev R6:=List R1
abbrev R0:=ByteArray×List ByteArray×(List R8)×Rd×(List R6)
abbrev R9:=Nat×List ByteArray
abbrev R7:=Nat×List Int
abbrev Rc:=Nat×(List ((Bool×R7)×R7))
abbrev R3:=ByteArray×R9×(List R9)×(List R7)×(List Rc)
abbrev R5:=Int×Int
abbrev Ra:=Int×List Int
abbrev Rk:=List Int×List Int×R6
abbrev Rb:=Rk×Int
abbrev Re:=List R5
abbrev Rf:=List Int×List Int×Int
abbrev Rg:=Bool×R6
abbrev Rh:=List Int×Int
abbrev Ri:=List Int×Bool
abbrev Rj:=List Int×R1
theorem oB {α β:Type} {a:α} {f:α→Option β}:(some a).bind f=f a:=rfl
theorem dT {p:Prop} [i:Decidable p] (h:p):decide p=true:=decide_eq_true h
theorem dF {p:Prop} [i:Decidable p] (h:¬p):¬(decide p=true):=fun q=>h (of_decide_eq_true q)
theorem nA {α:Type _} {a b:List α}:(a++b).length=a.length+b.length:=List.length_append
theorem nC {α:Type _} {a:α} {b:List α}:(a :: b).length=b.length+1:=rfl
theorem nS {α:Type _} {a:List α} {i:Nat} {b:α}:(a.set i b).length=a.length:=List.length_set
theorem nK {α:Type _} {i:Nat} {a:List α}:(a.take i).length=min i a.length:=List.length_take
theorem nN {α:Type _}:([]:List α).length=0:=rfl
theorem Sl.k0 {α:Type} {r:Za α} {col:Zd} {w:World} {a:Option Addr} {c:Nat} {xs:List α} (h:Sl r col w a c xs):Sl r (Zf col) w a c xs:=h.keep (Yg.start col w)
theorem It.k0 {lv:Nat} {P:Program} {v:Value} {Y:Type} {arr:Y→Zd→World→List Value→Prop} {ys:List Y} {col:Zd} {w:World} (h:It P lv v arr ys qz col w):It P lv v arr ys qz (Zf col) w:=h.keep (Yg.start col w)
abbrev rU:Za Int:=Za.int .u32
abbrev rI:Za Int:=Za.int .i64
abbrev nI:Value:=.slice none (([]:List Int).length) 0
abbrev rQ:Za R1:=Za.pair (Za.pair Za.bool (Za.slice rU)) (Za.slice rU)
abbrev rO (t:Nat):Za R1:=Za.pair (Za.pair Za.bool (Za.row t rU)) (Za.row t rU)
abbrev rV:Za R8:=Za.slice Za.str
abbrev rP:Za R2:=Za.slice rI
abbrev Wx (w0:World) (r:Bool):Ending→World→Prop:=fun e w'=>e= .returned (.bool r)∧Below w0.heap.size w0 w'
abbrev W5 (w0:World) (r:Int):Ending→World→Prop:=fun e w'=>e= .returned (.int .i64 r)∧Below w0.heap.size w0 w'
abbrev W2 (k:IntKind) (t c1:Nat) (col:Zd) (w0:World) (r:List Int):Ending→World→Prop:=fun e w'=>∃ col' ra1 rc2,e= .returned ((.slice ra1 r.length rc2))∧Zn col w0 col' w'∧Zc (Za.int k) t c1 col' w' ra1 rc2 r
abbrev Sg (t c1:Nat) (col:Zd) (w0:World) (r:Bool×List Int):Ending→World→Prop:=fun e w'=>∃ col' ra1 rc2,e= .returned ((.agg #[.bool r.1,.slice ra1 r.2.length rc2]))∧Zn col w0 col' w'∧Zc (Za.int .u32) t c1 col' w' ra1 rc2 r.2
abbrev Qg (t c1 c2:Nat) (col:Zd) (w0:World) (r:R4×List Int):Ending→World→Prop:=fun e w'=>∃ col' ra1 rc2 ra4 rc5,e= .returned ((.agg #[.bool r.1.1,.slice ra1 r.1.2.length rc2,.slice ra4 r.2.length rc5]))∧Zn col w0 col' w'∧Zc (Za.int .u32) t c1 col' w' ra1 rc2 r.1.2∧Zc (Za.int .u32) t c2 col' w' ra4 rc5 r.2
abbrev Zl9 (t c1 c2:Nat) (col:Zd) (w0:World) (r:R1×Int):Ending→World→Prop:=fun e w'=>∃ col' ra1 rc2 ra4 rc5,e= .returned (.tuple #[(.agg #[.bool r.1.1.1,.slice ra1 r.1.1.2.length rc2,.slice ra4 r.1.2.length rc5]),.int .i64 r.2])∧Zn col w0 col' w'∧Zc (Za.int .u32) t c1 col' w' ra1 rc2 r.1.1.2∧Zc (Za.int .u32) t c2 col' w' ra4 rc5 r.1.2

theorem Zr {x:Int} (h:-9223372036854775808≤x∧x≤9223372036854775807):i64.wrap x=x:=by rw [IntKind.wrap_i64];omega
theorem Zx {α:Type} {c:Prop} [Decidable c] {x:Option α} (h:c):Zt c x=x:=if_pos h
theorem Zu {α:Type} {xs:List α} {k:Nat} (h:k<xs.length):Zi xs (k:Int)=some xs[k]:=by rw [V6];exact aI h
theorem wS {k:Nat} (h:k<9223372036854775807):i64.wrap ((k:Int)+1)=((k+1:Nat):Int):=by rw [Zr (by omega)];rfl
theorem Zl1 {α:Type} [DecidableEq α]:∀ {l r:List α},l.Nodup→(∀ x ∈ l,x ∈ r)→l.length≤r.length
 | [],_,_,_=>Nat.zero_le _
 | x :: l,r,h,a=>by
  have b:=List.nodup_cons.1 h
  have c:=a x aQ
  have f:=Zl1 (r:=r.erase x) b.2 fun y d=>(List.mem_erase_of_ne (fun e=>b.1 (by rw [← e];exact d))).2 (a y (aO _ d))
  rw [List.length_erase_of_mem c] at f
  have:=List.length_pos_of_mem c
  rw [nC];omega
section
variable {K V:Type} [DecidableEq K]
theorem Zg2 (p:K×V) (es:List (K×V)) (k:K):Wv (p :: es) k=if p.1=k then some p.2 else Wv es k:=by
 rw [Wv,List.find?_cons]
 by_cases h:p.1=k
 ·rw [if_pos h,decide_eq_true h];rfl
 ·rw [if_neg h,decide_eq_false h];rfl
theorem Z7r (es:List (K×V)) (k k':K) (v:V) (h:Wv es k=none):Wv (es++[(k,v)]) k'=if k'=k then some v else Wv es k':=by
 induction es with
 | nil=>
  rw [bL,Zg2]
  by_cases hk:k=k'
  ·subst hk;simp
  ·rw [if_neg hk,if_neg (Ne.symm hk)]
 | cons p es a=>
  rw [Zg2] at h
  split at h
  ·cases h
  ·rename_i b
   rw [cJ,Zg2,Zg2,a h]
   by_cases h1:p.1=k'
   ·rw [if_pos h1,if_pos h1,if_neg (fun e=>b (h1.trans e))]
   ·rw [if_neg h1,if_neg h1]
theorem Z7s (es:List (K×V)) (k k':K) (v:V):Wv (es.map fun p=>if p.1=k then (k,v) else p) k'=if k'=k then (Wv es k).map fun _=>v else Wv es k':=by
 induction es with
 | nil=>simp [Wv]
 | cons p es a=>
  rw [cP,Zg2,Zg2,Zg2,a]
  by_cases h1:p.1=k
  ·rw [if_pos h1,if_pos h1]
   by_cases h2:k'=k
   ·subst h2;rw [if_pos rfl,if_pos rfl];rfl
   ·rw [if_neg (Ne.symm h2),if_neg h2,if_neg h2,if_neg (fun e=>h2 (e.symm.trans h1))]
  ·rw [if_neg h1,if_neg h1]
   by_cases h3:p.1=k'
   ·rw [if_pos h3,if_pos h3,if_neg (fun e=>h1 (h3.trans e))]
   ·rw [if_neg h3,if_neg h3]
theorem Zwz (es:List (K×V)) (k k':K) (v:V):Wv (Qc es k v) k'=if k'=k then some v else Wv es k':=by
 rw [Qc]
 by_cases h:(Wv es k).isSome=true
 ·rw [if_pos h,Z7s]
  obtain ⟨u,a⟩:=Option.isSome_iff_exists.1 h
  rw [a];rfl
 ·rw [if_neg h]
  exact Z7r es k k' v (by simpa using h)
end
theorem Z57:Y1 prog 3 1 8:=⟨Tryz.t3,_,rfl,rfl,rfl,rfl,rfl⟩
def Zd8 (aa:List Int):Option R2:=
  Zt ((([]:List Int).length+aa.length) * 8≤140737488355328∧([]:List Int).length+aa.length≤maxLen) (some (([]:List Int)++aa))
theorem Zqd {ad:Nat} {a0:Option Addr} {col:Zd} {w0:World} {ac r:R2} (c1:Nat) (hm:Zd8 ac=some r) (h0:Sl rI col w0 a0 ad ac):
    Calls prog 42 #[.slice a0 ac.length ad] w0 (W2 .i64 3 c1 col w0 r):=by
 refine Z6 2 (m:=8) func42 rfl rfl rfl rfl rfl ?_;rw [Zd8.eq_1] at hm;have aa:=St.start col w0;refine go ?_;replace h0:=h0.k0;rcases Zrg h0 with ab | ab
 ·replace hm:some ([]:List Int)=some r:=by have h0:=ab.2;subst h0;simpa [Zt,maxLen] using hm
  refine lv (v:=.bool a0.isNone) rfl rfl (Zjr underlying36 rfl)<|.ld (d:=4) (v:=.bool true) (congrArg Value.bool ab.1)<|Zl<|Yd rfl<|go ?_;cases hm;exact ⟨rfl,_,none,0,rfl,aa.fin (cm []),Zc.nil⟩
 refine lv (v:=.bool a0.isNone) rfl rfl (Zjr underlying36 rfl)<|.ld (d:=4) (v:=.bool false) (congrArg Value.bool ab)<|Zl<|Yc rfl<|go ?_;refine Zq2 (col:=(Zf col)) (r:=rI) 1 rfl underlying36 Z57 rfl ?_;intro aj ak al ae af;refine Wo rfl ?_;obtain ⟨ag,hm⟩:=Zv hm;refine Yy af (h0.gr ae).srcC ag ?_;intro am an ao ap ah ai;refine go ?_;cases hm;replace aa:=(aa.grow ae).kpp ah;exact ⟨rfl,_,_,_,rfl,aa.fin (cm [(1,c1)]),aa.fo ai⟩
def Qb:List Int→Int→Option R5
  | [],aa=>some (aa,0)
  | ab :: ac,aa=>Zt (aa≠0) (if (decide ((i64.wrap (aV 2147483647 aa))<ab))=true then (some (0,4)) else ((Qb ac) (i64.wrap (aa * ab))))
def Zlr (kk_L1:(Bool→Option R5)) (aa:Bool):Option R5:=
  kk_L1 aa
def Za7 (aa:List Int):List Int→Bool→Option R5
  | [],ab=>if ab=true then (some (0,0)) else (Qb aa 1)
  | ac :: ad,ab=>if (decide (ac<0))=true then (some (0,3)) else (if ab=true then (Zlr (Za7 aa ad) true) else (Zlr (Za7 aa ad) (decide (ac=0))))
def Za6 (aa:List Int):Option R5:=
  Za7 aa aa false
theorem Znb {ai:Nat} {a0:Option Addr} {col:Zd} {w0:World} {ab:R2} {r:R5} (hm:Za6 ab=some r) (h0:Sl rI col w0 a0 ai ab):
    Calls prog 81 #[.slice a0 ab.length ai] w0 (fun e w'=>e= .returned (.tuple #[.int .i64 r.1,.int .i64 r.2])∧Below w0.heap.size w0 w'):=by
 refine Zcp 2 3 (m:=40) (args:=[.slice a0 ab.length ai]) func81 rfl rfl rfl rfl rfl ?_;rw [Za6.eq_1] at hm;have aa:=St.start col w0;refine go ?_;refine Zs [0,10,11,1000000] (fun n f am=>∃ an ad aj ae,n=ae.length∧ab.drop ad=ae∧Za7 ab ae aj=some r∧St w0 (Zf col) an am∧[12,4].map f=[.int .i64 ad,.bool aj]) ab.length ⟨_,0,_,_,rfl,rfl,hm,aa,rfl⟩ ?_;clear hm;intro n f am hI;obtain ⟨an,ad,aj,ae,hn,hl,hm,aa,hs⟩:=hI;subst hn;refine .lL [12,4] hs ?_;replace h0:=h0.k0
 cases ae with
 | nil=>
  have hk:¬ ((ad:Int)<(ab.length:Int)):=by have:=aM.1 hl;omega
  have hkb:=decide_eq_false hk;rw [Za7.eq_1] at hm;refine go ?_;refine Yc (congrArg Value.bool hkb)<|go ?_;refine Zm hm (fun hb hm=>go ?_) fun hb hm=>go ?_
  ·cases hm;exact ⟨rfl,rfl,aa.below⟩
  refine Zs [25,26,1000000] (fun n f ao=>∃ ap af ag ah,n=ah.length∧ab.drop af=ah∧Qb ah ag=some r∧St w0 (Zf col) ap ao∧[27,7].map f=[.int .i64 af,.int .i64 ag]) ab.length ⟨_,0,1,_,rfl,rfl,hm,aa,rfl⟩ ?_;clear hm;intro n f ao hI;obtain ⟨ap,af,ag,ah,hn,hl,hm,aa,hs⟩:=hI;subst hn;refine .lL [27,7] hs ?_
  cases ah with
  | nil=>
   have hk:¬ ((af:Int)<(ab.length:Int)):=by have:=aM.1 hl;omega
   have hkb:=decide_eq_false hk;rw [Qb.eq_1] at hm;refine go ?_;refine Yc (congrArg Value.bool hkb)<|go ?_;cases hm;exact ⟨rfl,rfl,aa.below⟩
  | cons a3 av=>
   obtain ⟨ac,aw,ax⟩:=Yu hl;have hk:(af:Int)<(ab.length:Int):=by omega
   have hkb:=decide_eq_true hk;rw [Qb.eq_2] at hm;refine go ?_;refine Yd (congrArg Value.bool hkb)<|go ?_;refine lI ac ((h0.ks aa).addr ac)<|lW ((h0.ks aa).atInt ac) ?_;refine go ?_;obtain ⟨ay,hm⟩:=Zv hm;refine lV (.int .i64 (i64.wrap (aV 2147483647 ag))) (V3 2147483647 ag rfl rfl ay)<|go ?_;refine Zm hm (fun hb hm=>go ?_) fun hb hm=>go ?_
   ·cases hm;exact ⟨rfl,rfl,aa.below⟩
   exact ⟨av.length,by simp,rfl,⟨_,_,_,_,rfl,aw,hm,aa,(Y2 (congrArg (Value.int .i64) (Yx (aK ax (h0.ks aa).1.1))) rfl)⟩⟩
 | cons az aq=>
  obtain ⟨ac,a1,a2⟩:=Yu hl;have hk:(ad:Int)<(ab.length:Int):=by omega
  have hkb:=decide_eq_true hk;rw [Za7.eq_2] at hm;refine go ?_;refine Yd (congrArg Value.bool hkb)<|Yj<|Z0 ?_;refine Wp.cutK [0,10,11,12,1000000] (fun f ar=>∃ au ak,Zlr (Za7 ab aq) ak=some r∧St w0 (Zf col) au ar∧[4].map f=[.bool ak]) ?_ ?_
  ·intro f ar hJ;obtain ⟨au,ak,hm,aa,hs⟩:=hJ;rw [Zlr.eq_1] at hm;refine .lL [4] hs<|go ?_;exact ⟨aq.length,by simp,rfl,⟨_,_,_,_,rfl,a1,hm,aa,(Y2 (congrArg (Value.int .i64) (Yx (aK a2 (h0.ks aa).1.1))) rfl)⟩⟩
  refine go ?_;refine lI ac ((h0.ks aa).addr ac)<|lW ((h0.ks aa).atInt ac) ?_;refine go ?_;refine Zm hm (fun hb hm=>go ?_) fun hb hm=>go ?_
  ·cases hm;exact ⟨rfl,rfl,aa.below⟩
  refine Xn hm (fun al hm=>go ?_) fun al hm=>go ?_
  ·refine lV (.bool true) (Zw (congrArg Value.bool al) rfl)<|go ?_;exact ⟨rfl,_,_,hm,aa,rfl⟩
  refine lV (.bool (decide (az=0))) (Xk (congrArg Value.bool al) rfl)<|go ?_;exact ⟨rfl,_,_,hm,aa,rfl⟩
def Zd6 (N:Nat) (ab:List Int):Nat→Int→Option Re
  | 0,_=>none
  | ac+1,aa=>if (decide (0≤aa))=true then ((Zi ab aa).bind fun ad=>((Zd6 N ab ac) (i64.wrap (aa - 1))).bind fun ae=>some ((aa,ad) :: ae)) else (some [])
def Zoe (N:Nat) (aa:List Int):Option Re:=
  Zd6 N aa N (i64.wrap ((aa.length:Int) - 1))
theorem Z4s (N:Nat) (col:Zd) (w0:World) (g0:Nat) (af0:Option Addr) (capf0:Nat) (ab:List Int) (hf0:Sl rI col w0 af0 capf0 ab) (hb0:Zj 36 450 col w0 g0 #[.slice af0 ab.length capf0]) (r:List R5) (hm:Zoe N ab=some r):
    Zel prog 1 175 [.pointer (some ⟨g0,0,none⟩)] (fun (y:Int×Int) (col:Zd) (w:World) (args:List Value)=>args=[.int .i64 y.1,.int .i64 y.2]) r col w0:=by
 intro l J X hjs hxs hy aa;refine Zhe (m:=19) (args:=[.func (.yield l) #[] #[],.pointer (some ⟨g0,0,none⟩)]) func175 rfl rfl rfl rfl ?_;rw [Zoe.eq_1] at hm;refine go ?_;refine lW hb0.at1<|go ?_;refine Zs [0,1,1000000] (fun n f ad=>∃ ae r af ac,ac=n∧Zd6 N ab ac af=some r∧J r ae ad∧Sl rI ae ad af0 capf0 ab∧Zj 36 450 ae ad g0 #[.slice af0 ab.length capf0]∧[3].map f=[.int .i64 af]) N ⟨_,_,_,_,rfl,hm,aa,hf0,hb0,rfl⟩ ?_;clear hm;intro n f ad hI;obtain ⟨ae,r,af,ac,hn,hm,aa,hf0,hb0,hs⟩:=hI;subst hn;refine .lL [3] hs ?_
 cases ac with
 | zero=>rw [Zd6.eq_1] at hm;cases hm
 | succ ac=>
  rw [Zd6.eq_2] at hm;refine go ?_;refine Zm hm (fun hb hm=>go ?_) fun hb hm=>go ?_
  ·refine lM (.func (.yield l) #[] #[])<|Xr rfl<|lW hb0.at1<|Xr rfl ?_;obtain ⟨ai,ag,hm⟩:=bZ hm;refine lI ag (hf0.addr ag)<|lW (hf0.atInt ag) ?_;obtain ⟨ak,hc_8m,aj⟩:=bZ hm;cases aj;have hm:=hc_8m;refine ly2 rfl rfl rfl rfl (hy _ _ _ _ [.int .i64 af,.int .i64 ai] aa rfl) ?_;rintro _ al ⟨am,ah,⟨rfl,hJ⟩ | ⟨rfl,hX⟩⟩
   ·refine ⟨_,rfl,?_⟩;have aa:=hJ;refine go ?_;refine Yc rfl<|go ?_;replace hf0:=hf0.kpp ah;replace hb0:=hb0.kpp ah;exact ⟨ac,by omega,rfl,⟨_,_,_,_,rfl,hm,aa,hf0,hb0,rfl⟩⟩
   refine ⟨_,rfl,?_⟩;have aa:=hX;refine go ?_;refine Yd rfl<|Wh ?_;exact ⟨rfl,⟨_,rfl⟩,_,.inr aa⟩
  cases hm;exact ⟨rfl,⟨_,rfl⟩,_,.inl aa⟩
def Zod (N:Nat) (aa:List Int):Option Re:=
  Zoe N aa
theorem Z4r {N ac:Nat} {a0:Option Addr} {col:Zd} {w0:World} {aa:R2} {r:Re} (hm:Zod N aa=some r) (h0:Sl rI col w0 a0 ac aa):
    Calls prog 138 #[.slice a0 aa.length ac] w0 (fun e w'=>∃ (col':Zd) (rv1:Value),e= .returned (rv1)∧Zn col w0 col' w'∧It prog 1 rv1 (fun (y:Int×Int) (col:Zd) (w:World) (args:List Value)=>args=[.int .i64 y.1,.int .i64 y.2]) r q0 col' w'):=by
 refine Z6 2 (m:=4) func138 rfl rfl rfl rfl rfl ?_;rw [Zod.eq_1] at hm;have ab:=St.start col w0;refine go ?_;refine Zbf (col:=(Zf col)) (v:=(.slice a0 aa.length ac)) 1 rfl rfl ?_;intro ad ai ag aj ae;replace ae:Zj 36 1 ag ai ad #[.slice a0 aa.length ac]:=ae;refine lv (v:=_) rfl rfl (Tf rfl)<|go ?_;refine lV (.func (.func 175) #[] #[.pointer (some ⟨ad,0,none⟩)]) (Zy3 rfl)<|lA (.func (.func 175) #[] #[.pointer (some ⟨ad,0,none⟩)])<|go ?_;replace ab:=ab.grow aj;have af:=ab.finBox (G:=(fun n=>bif aJ n 1 then 450 else 0)) ae (by decide) (by decide) (show (fun n=>bif aJ n 1 then 450 else 0) 1=450 from rfl);have h0f:=ab.finSl (g:=(fun n=>bif aJ n 1 then 450 else 0)) rfl (h0.k0.ks ab);refine ⟨rfl,Vh w0.heap.size col ag (fun n=>bif aJ n 1 then 450 else 0),_,rfl,ab.fin (fun n=>bif aJ n 1 then 450 else 0),175,[.pointer (some ⟨ad,0,none⟩)],rfl,call175,?_⟩;intro col9 w9 ah hk9;exact Z4s N col9 w9 ad a0 ac aa (h0f.itk ah hk9 rfl) (af.itk ah hk9 rfl) r hm
def Zd4:List R5→Int→R2→Option R2
  | [],ac,ab=>some ab
  | aa :: ad,ac,ab=>Zt (aa.2≠0) ((Zi ab aa.1).bind fun af=>(some (ab.set (aA aa.1) (bI ac aa.2))).bind fun ae=>Zt (aa.2≠0) ((Zd4 ad) (i64.wrap (aV ac aa.2)) ae))
def Zls (N:Nat) (aa:List Int) (ab:Int):Option R2:=
  if (decide ((aa.length:Int)=0))=true then (some ([]:List Int)) else (Zt (aa.length * 8≤281474976710656∧aa.length≤maxLen) ((Zod N aa).bind fun ac=>Zd4 ac ab (aC aa.length (0:Int))))
theorem Z4p {N a1:Nat} {a0:Option Addr} {col:Zd} {w0:World} {ag:R2} {am:Int} {r:R2} (c1:Nat) (hm:Zls N ag am=some r) (h0:Sl rI col w0 a0 a1 ag):
    Calls prog 93 #[.slice a0 ag.length a1,.int .i64 am] w0 (W2 .i64 3 c1 col w0 r):=by
 refine Ztu 4 (mc:=499) (m:=28) (args:=[.slice a0 ag.length a1,.int .i64 am]) func93 rfl rfl rfl rfl rfl ?_;rw [Zls.eq_1] at hm;have aa:=St.start col w0;have hmk:Yp 499 (Zf col) w0 []:=.nil;refine go ?_;refine Zbf (col:=(Zf col)) (v:=(.int .i64 am)) 1 rfl rfl ?_;intro a2 a9 a3 ba ac;replace ac:Zj 3 1 a3 a9 a2 #[.int .i64 am]:=ac;refine go ?_;replace hmk:=hmk.gr ba;replace aa:=aa.grow ba;refine Zm hm (fun hb hm=>go ?_) fun hb hm=>go ?_
 ·cases hm;refine ⟨_,[],rfl,hmk,?_⟩;intro bz bh bi;replace aa:=aa.kp bh bi;exact ⟨Vh w0.heap.size col a3 (fun n=>0),none,0,rfl,aa.fin (fun n=>0),Zc.nil⟩
 obtain ⟨bb,hm⟩:=Zv hm;refine Sv (col:=a3) (w:=a9) (r:=rI) (n:=ag.length) (x0:=0) 2 rfl underlying36 Tryz.t3 rfl rfl rfl rfl rfl rfl rfl bb.1 bb.2 (Vn .i64 0) ?_;intro a4 b0 bj a5 a6;refine Zep (col:=bj) (v:=(nI)) 3 rfl zeroValue36 ?_;intro ar bk bc au a7;replace a7:Zj 36 3 bc bk ar #[(nI)]:=a7;refine Qu (v:=(.slice a4 ((aC ag.length (0:Int)).length) ag.length)) a7 sizeOf36 rfl rfl (by intro u hu;simp only [Value.cells,aP,bA,or_false] at hu;subst hu;rfl) rfl rfl ?_;intro bm av bn ab;replace ab:Zj 36 3 bc bm ar #[.slice a4 ((aC ag.length (0:Int)).length) ag.length]:=ab;refine go ?_;obtain ⟨bo,bp,hm⟩:=bZ hm;replace aa:=((aa.grow a5).grow au).kp av bn;refine Zk (Z4r bp (h0.k0.ks aa)) ?_;rintro _ b1 ⟨bq,b2,rfl,aq,br⟩;refine ⟨_,rfl,go ?_⟩;replace ac:=(((ac.gr a5).gr au).kp av).gr aq;replace hmk:=(((hmk.gr a5).gr au).kp av).gr aq;replace ab:=ab.gr aq;replace aa:=aa.grow aq;refine Zmm (psl:=[16,17]) (arr:=(fun (y:Int×Int) (col:Zd) (w:World) (args:List Value)=>args=[.int .i64 y.1,.int .i64 y.2])) (ys:=bo) (col:=bq) 498 rfl br rfl hmk rfl rfl (by rintro _ _ _ _ rfl;rfl) (fun ys_ ad al=>∃ (ae:Int) (ai:Option Addr) (aj:Nat) (ak:List Int),Zd4 ys_ ae ak=some r∧St w0 (Zf col) ad al∧Zj 3 1 ad al a2 #[.int .i64 ae]∧Zc rI 3 2 ad al ai aj ak∧Zj 36 3 ad al ar #[.slice ai ak.length aj]) (fun _ _ _=>False) ?_ ?_ ⟨am,a4,ag.length,(aC ag.length (0:Int)),hm,aa,ac,((a6.gr au).kp av).gr aq,ab⟩ ?_ ?_ ?_
 ·intro ys_ ad al col2_ w2_ hJ hk;obtain ⟨ae,ai,aj,ak,hm,aa,ac,af,ab⟩:=hJ;exact ⟨ae,ai,aj,ak,hm,aa.kpp hk rfl rfl,ac.kpp hk rfl,af.kpp hk rfl rfl,ab.kpp hk rfl⟩
 ·intro _ _ _ _ _ h _;exact h
 ·intro b3 b4 b5 ah b6 ad al args hJ hrec hmk harr;obtain ⟨ae,ai,aj,ak,hm,aa,ac,af,ab⟩:=hJ;rw [Zd4.eq_2] at hm;have hki:=Z5.refl (pC 1) ad al;subst harr;refine go ?_;refine ⟨_,hrec,?_⟩;intro b7 b8 an bd hrec2;have hrec:=hrec2;refine go ?_;refine Wc (col:=ad) [(0,0),(1,1),(2,0),(3,1),(4,1),(5,1),(6,2)] (by kernel_rfl) (by kernel_rfl) ?_;replace ab:=ab.kp an;refine xW (fun _ hC=>ab.at1.gr (hC.bl ad)) ?_;refine xu rfl rfl (fun _=>Yz rfl) ?_;replace ac:=ac.kp an;refine xW (fun _ hC=>ac.at1.gr (hC.bl ad)) ?_;refine xu rfl rfl (fun _=>Yz rfl) ?_;obtain ⟨bs,hm⟩:=Zv hm;refine xu (v:=(.int .i64 (bI ae ah.2))) rfl rfl (fun _=>Qh ae ah.2 rfl rfl bs) ?_;obtain ⟨b9,aw,hm⟩:=bZ hm;replace af:=af.kp an;refine xu rfl rfl (fun _=>Yv underlying36 sizeOf3 rfl rfl (Xe aw).1 (Xe aw).2.1 (af.addr aw)) ?_;refine xe rfl rfl ?_;intro ca hC0;have hC:=hC0.bl ad;obtain ⟨ax,ay,hm⟩:=bZ hm;have ay:ax=ak.set (aA ah.1) (bI ae ah.2):=(Option.some.inj ay).symm;replace af:=af.gr hC;refine Wa (x1:=bI ae ah.2) af aw ?_;intro bt ao be az;rw [← ay] at az;replace ab:=(ab.gr hC).kp ao;replace ab:Zj 36 3 ad bt ar #[.slice ai ax.length aj]:=by rw [← (show ak.length=ax.length by rw [ay,nS])];exact ab
  refine Zl<|xk ad<|Y0 ?_;replace hmk:=((hmk.kp an).gr hC).kp ao;replace hki:=((hki.kp an bd rfl).gr hC).kp ao be rfl;replace aa:=((aa.kp an bd).grow hC).kp ao be;replace ac:=(ac.gr hC).kp ao;replace hrec:=(hrec.gr hC).kp ao;intro cb hC;replace hC:=hC.bl ad;refine Wy ?_;replace ac:=ac.gr hC;refine lW ac.at1<|Xr rfl ?_;obtain ⟨bu,hm⟩:=Zv hm;refine lV (.int .i64 (i64.wrap (aV ae ah.2))) (V3 ae ah.2 rfl rfl bu)<|Qu (v:=(.int .i64 (i64.wrap (aV ae ah.2)))) ac sizeOf3 rfl rfl (by intro u hu;simp only [Value.cells,aP,bA,or_false] at hu;subst hu;rfl) rfl rfl ?_;intro bv ap bf a8;replace a8:Zj 3 1 ad bv a2 #[.int .i64 (i64.wrap (aV ae ah.2))]:=a8;refine Zl ?_;replace ab:=(ab.gr hC).kp ap;replace hmk:=(hmk.gr hC).kp ap;replace aa:=(aa.grow hC).kp ap bf;exact ⟨_,(hki.gr hC).kp ap bf rfl,⟨(i64.wrap (aV ae ah.2)),ai,aj,ax,hm,aa,a8,(az.gr hC).kp ap,ab⟩,(hrec.gr hC).kp ap,hmk⟩
 ·intro bw ad al hJ hmk;obtain ⟨ae,ai,aj,ak,hm,aa,ac,af,ab⟩:=hJ;rw [Zd4.eq_1] at hm;refine go ?_;refine lW ab.at1<|go ?_;cases hm;refine ⟨_,(bw :: []),rfl,hmk,?_⟩;intro cc bg bx;replace aa:=aa.kp bg bx;exact ⟨Vh w0.heap.size col ad (fun n=>bif aJ n 2 then c1 else 0),ai,aj,rfl,aa.fin (fun n=>bif aJ n 2 then c1 else 0),aa.finOwn (g:=(fun n=>bif aJ n 2 then c1 else 0)) rfl (af.kp bg) (by decide) (by decide) rfl⟩
 intro _ _ _ _ h;exact h.elim
def Zd3 (N:Nat) (ab:Int) (ac:List Int):Nat→Int→Option (List Ra)
  | 0,_=>none
  | ad+1,aa=>if (decide (aa<ab))=true then ((Zls N ac aa).bind fun ae=>((Zd3 N ab ac ad) (i64.wrap (aa+1))).bind fun af=>some ((aa,ae) :: af)) else (some [])
def Zob (N:Nat) (aa:Int) (ab:List Int):Option (List Ra):=
  Zd3 N aa ab N 0
theorem Z4n (N cy:Nat) (col:Zd) (w0:World) (g0:Nat) (ah:Int) (hb0:Zj 3 450 col w0 g0 #[.int .i64 ah]) (g1:Nat) (af1:Option Addr) (capf1:Nat) (ad:List Int) (hf1:Zc rI 3 450 col w0 af1 capf1 ad) (hb1:Zj 36 450 col w0 g1 #[.slice af1 ad.length capf1]) (r:List Ra) (hm:Zob N ah ad=some r):
    Zel prog 1 92 [.pointer (some ⟨g0,0,none⟩),.pointer (some ⟨g1,0,none⟩)] (fun (y:Int×List Int) (col:Zd) (w:World) (args:List Value)=>∃ a1 ak,args=[.int .i64 y.1,.slice a1 y.2.length ak]∧Zc rI 3 cy col w a1 ak y.2) r col w0:=by
 intro l J X hjs hxs hy aa;refine Zhe (m:=17) (args:=[.func (.yield l) #[] #[],.pointer (some ⟨g0,0,none⟩),.pointer (some ⟨g1,0,none⟩)]) func92 rfl rfl rfl rfl ?_;rw [Zob.eq_1] at hm;refine go ?_;refine lW hb0.at1<|go ?_;refine Zs [0,2,5,1000000] (fun n f ae=>∃ ab r ai af,af=n∧Zd3 N ah ad af ai=some r∧J r ab ae∧Zc rI 3 450 ab ae af1 capf1 ad∧Zj 36 450 ab ae g1 #[.slice af1 ad.length capf1]∧Zj 3 450 ab ae g0 #[.int .i64 ah]∧[6].map f=[.int .i64 ai]) N ⟨_,_,0,_,rfl,hm,aa,hf1,hb1,hb0,rfl⟩ ?_;clear hm;intro n f ae hI;obtain ⟨ab,r,ai,af,hn,hm,aa,hf1,hb1,hb0,hs⟩:=hI;subst hn;refine .lL [6] hs ?_
 cases af with
 | zero=>rw [Zd3.eq_1] at hm;cases hm
 | succ af=>
  rw [Zd3.eq_2] at hm;refine go ?_;refine Zm hm (fun hb hm=>go ?_) fun hb hm=>go ?_
  ·refine lM (.func (.yield l) #[] #[])<|Xr rfl<|lW hb1.at1<|Xr rfl ?_;obtain ⟨an,ao,hm⟩:=bZ hm;refine Zk (Z4p 501 ao (hf1.toSlF (Zh.int .i64))) fun _ ar ⟨ap,al,am,e',ac,ag⟩=>⟨_,e',?_⟩;replace ag:=ag.thaw (Z3 .i64) ac ((Fz.refl (col:=ab)).froz 450);replace ac:=ac.thawR (col:=ab);generalize Xj ae.heap.size ab ap=au at *;replace hf1:=hf1.gr ac;replace hb1:=hb1.gr ac;replace hb0:=hb0.gr ac;replace aa:=hjs _ _ _ _ _ aa ac.toP;replace hf1:=hf1.recol 501 cy (by decide);replace ag:=ag.recolSelf cy (by decide);replace hb1:=hb1.recol 501 cy (by decide);replace hb0:=hb0.recol 501 cy (by decide);replace aa:=hjs _ _ _ _ _ aa ((Z5.refl _ _ _).recol 501 cy rfl);obtain ⟨av,hc_15m,aq⟩:=bZ hm;cases aq;have hm:=hc_15m;refine ly2 rfl rfl rfl rfl (hy _ _ _ _ [.int .i64 ai,.slice al an.length am] aa ⟨al,am,rfl,ag⟩) ?_;rintro _ aw ⟨ax,aj,⟨rfl,hJ⟩ | ⟨rfl,hX⟩⟩
   ·refine ⟨_,rfl,?_⟩;have aa:=hJ;refine go ?_;refine Yc rfl<|go ?_;replace hf1:=hf1.kpp aj;replace hb1:=hb1.kpp aj;replace hb0:=hb0.kpp aj;exact ⟨af,by omega,rfl,⟨_,_,_,_,rfl,hm,aa,hf1,hb1,hb0,rfl⟩⟩
   refine ⟨_,rfl,?_⟩;have aa:=hX;refine go ?_;refine Yd rfl<|Wh ?_;exact ⟨rfl,⟨_,rfl⟩,_,.inr aa⟩
  cases hm;exact ⟨rfl,⟨_,rfl⟩,_,.inl aa⟩
def Zlo (N:Nat) (ab:List Int):Option (List Ra):=
  (Zd8 ab).bind fun aa=>(Za6 aa).bind fun ac=>Zob N ac.1 aa
theorem Z4m {N ay:Nat} {a0:Option Addr} {col:Zd} {w0:World} {ai:R2} {r:(List Ra)} (cy:Nat) (hm:Zlo N ai=some r) (h0:Sl rI col w0 a0 ay ai):
    Calls prog 40 #[.slice a0 ai.length ay] w0 (fun e w'=>∃ (col':Zd) (rv1:Value),e= .returned (rv1)∧Zn col w0 col' w'∧It prog 1 rv1 (fun (y:Int×List Int) (col:Zd) (w:World) (args:List Value)=>∃ a1 az,args=[.int .i64 y.1,.slice a1 y.2.length az]∧Zc rI 3 cy col w a1 az y.2) r q1 col' w'):=by
 refine Z6 2 (m:=14) func40 rfl rfl rfl rfl rfl ?_;rw [Zlo.eq_1] at hm;have aa:=St.start col w0;refine go ?_;refine lv (v:=_) rfl rfl (Tf rfl)<|go ?_;obtain ⟨aj,a5,hm⟩:=bZ hm;refine Zk (Zqd 1 a5 (h0.k0.ks aa)) fun _ bf ⟨a6,ak,al,e',a7,ac⟩=>⟨_,e',?_⟩;refine Zep (col:=a6) (v:=(nI)) 2 rfl zeroValue36 ?_;intro ad a8 ag a2 am;replace am:Zj 36 2 ag a8 ad #[(nI)]:=am;refine Qu (v:=(.slice ak aj.length al)) am sizeOf36 rfl rfl (by intro u hu;simp only [Value.cells,aP,bA,or_false] at hu;subst hu;rfl) rfl rfl ?_;intro a3 a4 a9 ae;replace ae:Zj 36 2 ag a3 ad #[.slice ak aj.length al]:=ae;refine go ?_;refine lW ae.at1 ?_;obtain ⟨ab,ba,hm⟩:=bZ hm;replace ac:=(ac.gr a2).kp a4;refine Zk (Znb ba (ac.toSlF (Zh.int .i64))) fun _ bb ⟨e',ah⟩=>⟨_,e',?_⟩;replace ah:Zn ag a3 ag bb:=.of_below ah;refine lM (.tuple #[.int .i64 ab.1,.int .i64 ab.2])<|lV (.int .i64 ab.1) (Xu rfl rfl)<|lV (.int .i64 ab.2) (Xu rfl rfl)<|Zep (col:=ag) (v:=(.int .i64 0)) 3 rfl zeroValue3 ?_;intro af bc an ao ap;replace ap:Zj 3 3 an bc af #[.int .i64 0]:=ap;refine Qu (v:=(.int .i64 ab.1)) ap sizeOf3 rfl rfl (by intro u hu;simp only [Value.cells,aP,bA,or_false] at hu;subst hu;rfl) rfl rfl ?_;intro bd aq be ar;replace ar:Zj 3 3 an bd af #[.int .i64 ab.1]:=ar;refine go ?_;refine lV (.func (.func 92) #[] #[.pointer (some ⟨af,0,none⟩),.pointer (some ⟨ad,0,none⟩)]) (Zrw rfl rfl)<|lA (.func (.func 92) #[] #[.pointer (some ⟨af,0,none⟩),.pointer (some ⟨ad,0,none⟩)])<|go ?_;replace aa:=(((((aa.grow a7).grow a2).kp a4 a9).grow ah).grow ao).kp aq be;have au:=aa.finBox (G:=(fun n=>bif aJ n 3 then 450 else bif aJ n 2 then 450 else bif aJ n 1 then 450 else 0)) ar (by decide) (by decide) (show (fun n=>bif aJ n 3 then 450 else bif aJ n 2 then 450 else bif aJ n 1 then 450 else 0) 3=450 from rfl);have av:=aa.finBox (G:=(fun n=>bif aJ n 3 then 450 else bif aJ n 2 then 450 else bif aJ n 1 then 450 else 0)) (((ae.gr ah).gr ao).kp aq) (by decide) (by decide) (show (fun n=>bif aJ n 3 then 450 else bif aJ n 2 then 450 else bif aJ n 1 then 450 else 0) 2=450 from rfl);replace ac:=((ac.gr ah).gr ao).kp aq
 have aw:=aa.finOwn (g:=(fun n=>bif aJ n 3 then 450 else bif aJ n 2 then 450 else bif aJ n 1 then 450 else 0)) rfl ac (by decide) (by decide) (show (fun n=>bif aJ n 3 then 450 else bif aJ n 2 then 450 else bif aJ n 1 then 450 else 0) 1=450 from rfl);refine ⟨rfl,Vh w0.heap.size col an (fun n=>bif aJ n 3 then 450 else bif aJ n 2 then 450 else bif aJ n 1 then 450 else 0),_,rfl,aa.fin (fun n=>bif aJ n 3 then 450 else bif aJ n 2 then 450 else bif aJ n 1 then 450 else 0),92,[.pointer (some ⟨af,0,none⟩),.pointer (some ⟨ad,0,none⟩)],rfl,call92,?_⟩;intro col9 w9 ax hk9;exact Z4n N cy col9 w9 af ab.1 (au.itk ax hk9 rfl) ad ak al aj (aw.itk ax hk9 rfl (Z3 .i64)) (av.itk ax hk9 rfl) r hm
def Zp:List Nat→Nat
 | []=>1
 | s :: ss=>s * Zp ss
def Xh:List Nat→Nat→List Int
 | [],_=>[]
 | s :: ss,a=>((a / Zp ss:Nat):Int) :: Xh ss (a % Zp ss)
def Yl:List Nat→List Int→Nat
 | s :: ss,d :: w=>d.toNat * Zp ss+Yl ss w
 | _,_=>0
theorem Zec:∀ ss:List Nat,(∀ s ∈ ss,0<s)→0<Zp ss
 | [],_=>by rw [Zp];decide
 | s :: ss,h=>gG (h s aQ) (Zec ss fun x a=>h x (aO _ a))
theorem Znf:∀ (ss:List Nat) (a:Nat),(Xh ss a).length=ss.length
 | [],_=>rfl
 | s :: ss,a=>by rw [Xh,nC,nC,Znf ss]
def U3:List Nat→List Int→Prop
 | [],[]=>True
 | s :: ss,d :: w=>(0≤d∧d<(s:Int))∧U3 ss w
 | _,_=>False
theorem Zcs:∀ (ss:List Nat) (a:Nat),(∀ s ∈ ss,0<s)→a<Zp ss→U3 ss (Xh ss a)
 | [],_,_,_=>trivial
 | s :: ss,a,h,c=>by
  have d:=Zec ss fun x b=>h x (aO _ b)
  rw [Zp] at c
  refine ⟨⟨dZ _,eI.2 ((dE d).2 c)⟩,Zcs ss _ (fun x b=>h x (aO _ b)) (dR _ d)⟩
theorem Zyc:∀ (ss:List Nat) (a:Nat),(∀ s ∈ ss,0<s)→a<Zp ss→Yl ss (Xh ss a)=a
 | [],a,_,c=>by rw [Zp] at c;rw [Xh,Yl];omega;intro s ss d w h;cases h
 | s :: ss,a,h,c=>by
  have e:=Zec ss fun x b=>h x (aO _ b)
  rw [Xh,Yl,aB,Zyc ss _ (fun x b=>h x (aO _ b)) (dR _ e),bS]
  exact gJ a (Zp ss)
theorem Zeb:∀ (ss:List Nat) (w:List Int),U3 ss w→Yl ss w<Zp ss
 | [],[],_=>by rw [Yl,Zp];decide;intro s ss d w h;cases h
 | s :: ss,d :: w,h=>by
  have c:=Zeb ss w h.2
  have a:d.toNat+1≤s:=by have:=h.1;omega
  have b:=bH (Zp ss) a
  rw [bM,bR] at b
  rw [Yl,Zp];omega
theorem Zul:∀ (ss:List Nat) (w:List Int),U3 ss w→Xh ss (Yl ss w)=w
 | [],[],_=>rfl
 | s :: ss,d :: w,h=>by
  have a:=Zeb ss w h.2
  have b:0<Zp ss:=by omega
  have c:(d.toNat * Zp ss+Yl ss w) / Zp ss=d.toNat:=by
   rw [bS,jK b,dV a,bO]
  have e:(d.toNat * Zp ss+Yl ss w) % Zp ss=Yl ss w:=by
   rw [bS,jL,dJ a]
  rw [Yl,Xh,c,e,Zul ss w h.2]
  have:=h.1
  congr 1;omega
/-! the program -/
def Xb (ss:List Nat):List Int:=ss.map fun s:Nat=>(s:Int)
theorem Zqj {l:List Int} (h:l.length≤1099511627776):Zd8 l=some l:=by
 rw [Zd8,Zx (by simp only [nN,maxLen];omega),bL]
theorem Z1a:∀ (ss:List Nat) (c:Nat),0<c→(∀ s ∈ ss,0<s)→c * Zp ss≤65536→Qb (Xb ss) (c:Int)=some (((c * Zp ss:Nat):Int),0)
 | [],c,_,_,_=>by rw [Xb,dO,Qb.eq_1,Zp,Nat.mul_one]
 | s :: ss,c,d,a,f=>by
  have g:=Zec ss fun x b=>a x (aO _ b)
  have i:=a s aQ
  rw [Zp,← bP] at f ⊢
  have k:c * s≤c * s * Zp ss:=Nat.le_mul_of_pos_right _ g
  have e:aV 2147483647 (c:Int)=((2147483647 / c:Nat):Int):=rfl
  have l:s≤2147483647 / c:=by
   rw [eC d,bS];omega
  have m:2147483647 / c≤2147483647:=cM _ _
  have j:(c:Int) * (s:Int)=((c * s:Nat):Int):=(bQ c s).symm
  rw [Xb,cP,Qb.eq_2,Zx (by omega),e,Zr (x:=((2147483647 / c:Nat):Int)) (by omega),if_neg (dF (by omega)),j,Zr (by omega)]
  exact Z1a ss (c * s) (gG d i) (fun x b=>a x (aO _ b)) f
theorem Zsb (p:List Int):∀ (ss:List Nat),(∀ s ∈ ss,0<s)→Za7 p (Xb ss) false=Qb p 1
 | [],_=>by rw [Xb,dO,Za7.eq_1,if_neg (by decide)]
 | s :: ss,a=>by
  have c:=a s aQ
  rw [Xb,cP,Za7.eq_2,if_neg (dF (by omega)),if_neg (by decide),Zlr,decide_eq_false (by omega)]
  exact Zsb p ss fun x b=>a x (aO _ b)
theorem Zpb {ss:List Nat} (hs:∀ s ∈ ss,0<s) (hb:Zp ss≤65536):Za6 (Xb ss)=some ((Zp ss:Int),0):=by
 have:=Z1a ss 1 (by decide) hs (by rw [bR];exact hb)
 rw [Za6,Zsb _ ss hs,show (1:Int)=((1:Nat):Int) from rfl,this,bR]
def Zhd (ss:List Nat):Nat→List R5
 | 0=>[]
 | k+1=>((k:Int),((ss.getD k 0:Nat):Int)) :: Zhd ss k
theorem Zju {ss:List Nat} {k:Nat} (h:k<ss.length):Zi (Xb ss) (k:Int)=some ((ss.getD k 0:Nat):Int):=by
 rw [V6,Xb,List.getElem?_map,aI h,aF,aI h];rfl
theorem Z09 (N:Nat) (ss:List Nat) (hl:ss.length≤1099511627776):∀ (f k:Nat),k≤ss.length→k<f→Zd6 N (Xb ss) f ((k:Int) - 1)=some (Zhd ss k)
 | 0,k,_,h=>by omega
 | f+1,0,a,b=>by rw [Zd6.eq_2,if_neg (by decide)];rfl
 | f+1,k+1,a,b=>by
  rw [Zd6.eq_2,show ((k+1:Nat):Int) - 1=(k:Int) by omega,if_pos (dT (by omega)),Zju (by omega),oB,Zr (by omega),Z09 N ss hl f k (by omega) (by omega),oB,Zhd]
theorem Z1b (ss:List Nat) (hs:∀ s ∈ ss,0<s) (a:Nat) (ha:a<4611686018427387904):∀ k,k≤ss.length→Zd4 (Zhd ss k) ((a / Zp (ss.drop k):Nat):Int) (aC k 0++Xh (ss.drop k) (a % Zp (ss.drop k)))=some (Xh ss (a % Zp ss))
 | 0,_=>by rw [Zhd,Zd4.eq_1,aR];rfl
 | k+1,l=>by
  have b:k<ss.length:=by omega
  have c:ss.drop k=ss.getD k 0 :: ss.drop (k+1):=by
   rw [aL b,aF,aI b];rfl
  have d:=Z1b ss hs a ha k (by omega)
  have m:0<ss.getD k 0:=by
   rw [aF,aI b]
   exact hs _ (aD b)
  rw [c,Zp,Xh,Nat.mod_mul_left_mod,bS,Nat.mod_mul_right_div_self,← eD] at d
  have j:=cM a (Zp (ss.drop (k+1)))
  generalize a / Zp (ss.drop (k+1))=q at *
  generalize Xh (ss.drop (k+1)) (a % Zp (ss.drop (k+1)))=D at *
  have e:bI (q:Int) ((ss.getD k 0:Nat):Int)=((q % ss.getD k 0:Nat):Int):=rfl
  have f:aV (q:Int) ((ss.getD k 0:Nat):Int)=((q / ss.getD k 0:Nat):Int):=rfl
  have n:q / ss.getD k 0≤q:=cM _ _
  have g:(aC (k+1) (0:Int)++D).set k ((q % ss.getD k 0:Nat):Int)=aC k 0++((q % ss.getD k 0:Nat):Int) :: D:=by
   rw [List.replicate_succ',List.append_assoc,eJ (i:=k) _ (by rw [aN];exact bB _),aN,fB];rfl
  generalize q / ss.getD k 0=z at *
  rw [Zhd,Zd4.eq_2,Zx (by simp only;omega)]
  dsimp only
  rw [Zu (by rw [nA,aN];omega),oB,e,f,aB,g,oB,Zx (by omega),Zr (by omega)]
  exact d
theorem Z5q {N:Nat} {ss:List Nat} (hs:∀ s ∈ ss,0<s) (hl:ss.length≤1048576) (hN:1048577<N) {a:Nat} (ha:a<Zp ss) (hb:Zp ss≤65536):Zls N (Xb ss) (a:Int)=some (Xh ss a):=by
 have b:(Xb ss).length=ss.length:=by rw [Xb,aE]
 rw [Zls,b]
 by_cases h0:ss.length=0
 ·have:ss=[]:=cH h0
  rw [if_pos (dT (by omega)),this,Xh]
 ·have c:=Z09 N ss (by omega) N ss.length (bB _) (by omega)
  have d:=Z1b ss hs a (by omega) ss.length (bB _)
  rw [eE,Zp,Nat.div_one,Xh,cL,dJ ha] at d
  rw [if_neg (dF (by omega)),Zx (by simp only [maxLen];omega),Zod,Zoe,b,Zr (by omega),c,oB]
  exact d
def Zhi (ss:List Nat):Nat→Nat→List Ra
 | _,0=>[]
 | k,m+1=>((k:Int),Xh ss k) :: Zhi ss (k+1) m
theorem Zzh {N:Nat} {ss:List Nat} (hs:∀ s ∈ ss,0<s) (hl:ss.length≤1048576) (hN:1048577<N) (hb:Zp ss≤65536):∀ (m k f:Nat),k+m=Zp ss→m<f→Zd3 N (Zp ss:Int) (Xb ss) f (k:Int)=some (Zhi ss k m)
 | m,k,0,_,h=>by omega
 | 0,k,f+1,a,b=>by rw [Zd3.eq_2,if_neg (dF (by omega))];rfl
 | m+1,k,f+1,a,b=>by
  rw [Zd3.eq_2,if_pos (dT (by omega)),Z5q hs hl hN (by omega) hb,oB,wS (by omega),Zzh hs hl hN hb m (k+1) f (by omega) (by omega),oB,Zhi]
theorem Z84 {N:Nat} {ss:List Nat} (hs:∀ s ∈ ss,0<s) (hl:ss.length≤1048576) (hN:1048577<N) (hb:Zp ss≤65536):Zlo N (Xb ss)=some (Zhi ss 0 (Zp ss)):=by
 have a:(Xb ss).length=ss.length:=by rw [Xb,aE]
 rw [Zlo,Zqj (by omega),oB,Zpb hs hb,oB,Zob]
 exact Zzh hs hl hN hb (Zp ss) 0 N (by omega) (by omega)
def Zb:List Int→Nat
 | []=>0
 | x :: l=>x.toNat+4294967296 * Zb l
def Zo (l:List Int):Prop:=∀ x ∈ l,0≤x∧x<4294967296
def Ze (n:Nat):List Int:=if n=0 then [] else ((n % 4294967296:Nat):Int) :: Ze (n / 4294967296)
termination_by n
decreasing_by omega
theorem Zo.nil:Zo []:=by simp [Zo]
theorem Zo.cons {x:Int} {l:List Int} (h:0≤x∧x<4294967296) (hl:Zo l):Zo (x :: l):=fun y a=>by
 rcases aP.1 a with rfl | a
 ·exact h
 ·exact hl y a
theorem Zo.head {x:Int} {l:List Int} (h:Zo (x :: l)):0≤x∧x<4294967296:=h x aQ
theorem Zo.tail {x:Int} {l:List Int} (h:Zo (x :: l)):Zo l:=fun y a=>h y (aO _ a)
theorem Zo.app {a b:List Int} (ha:Zo a) (hb:Zo b):Zo (a++b):=fun y c=>by
 rcases List.mem_append.1 c with h | h
 ·exact ha y h
 ·exact hb y h
theorem Zo.take {a:List Int} (h:Zo a) (k:Nat):Zo (a.take k):=fun y b=>h y (List.mem_of_mem_take b)
theorem Zo.drop {a:List Int} (h:Zo a) (k:Nat):Zo (a.drop k):=fun y b=>h y (List.mem_of_mem_drop b)
theorem Zo.zeros (k:Nat):Zo (aC k 0):=fun y a=>by
 rw [List.eq_of_mem_replicate a];decide
theorem Zo.set {a:List Int} (h:Zo a) (k:Nat) {v:Int} (hv:0≤v∧v<4294967296):Zo (a.set k v):=fun y b=>by
 rcases List.mem_or_eq_of_mem_set b with c | rfl
 ·exact h y c
 ·exact hv
theorem Zo.get {a:List Int} (h:Zo a) {k:Nat} (hk:k<a.length):0≤a[k]∧a[k]<4294967296:=h _ (aD hk)
theorem Yn:Zb []=0:=rfl
theorem Wq (x:Int) (l:List Int):Zb (x :: l)=x.toNat+4294967296 * Zb l:=rfl
theorem Qd (a b:List Int):Zb (a++b)=Zb a+4294967296 ^ a.length * Zb b:=by
 induction a with
 | nil=>simp [Zb]
 | cons x a c=>
  rw [cJ,Wq,Wq,c,nC,aZ]
  grind
theorem Tt (k:Nat):Zb (aC k 0)=0:=by
 induction k with
 | zero=>rfl
 | succ k a=>rw [List.replicate_succ,Wq,a];rfl
theorem Qe {l:List Int} (h:Zo l):Zb l<4294967296 ^ l.length:=by
 induction l with
 | nil=>simp [Zb]
 | cons x l a=>
  have c:=h.head
  have b:=a h.tail
  rw [Wq,nC,aZ]
  have d:(Zb l+1) * 4294967296≤4294967296 ^ l.length * 4294967296:=bH _ b
  omega
theorem Xd (n:Nat):Zb (Ze n)=n:=by
 induction n using gK with
 | ind n a=>
  rw [Ze]
  split
  ·rename_i h;rw [h];rfl
  ·rename_i h
   rw [Wq,a (n / 4294967296) (by omega)]
   omega
theorem Ve:Ze 0=[]:=by rw [Ze,if_pos rfl]
theorem Zet {n:Nat} (h:n≠0):Ze n=((n % 4294967296:Nat):Int) :: Ze (n / 4294967296):=by rw [Ze,if_neg h]
theorem Qx:Ze 1=[1]:=by rw [Zet (by decide)];simp [Ve]
theorem Xc (n:Nat):Zo (Ze n):=by
 induction n using gK with
 | ind n a=>
  rw [Ze]
  split
  ·exact .nil
  ·exact .cons (by omega) (a (n / 4294967296) (by omega))
theorem W7 {k n:Nat}:(Ze n).length≤k↔n<4294967296 ^ k:=by
 induction k generalizing n with
 | zero=>
  by_cases h:n=0
  ·subst h;simp [Ve]
  ·rw [Zet h];simp;omega
 | succ k a=>
  by_cases h:n=0
  ·subst h;simp [Ve];exact eW (by decide)
  ·rw [Zet h,nC,Nat.add_le_add_iff_right,a,aZ]
   omega
theorem Yh {l:List Int} (h:Zo l):(Ze (Zb l)).length≤l.length:=W7.2 (Qe h)
theorem Zhk {n:Nat}:Ze n=[]↔n=0:=by
 by_cases h:n=0
 ·subst h;simp [Ve]
 ·rw [Zet h];simp [h]
theorem Zwo {x:Int} {l:List Int} (h:0≤x∧x<4294967296) (h0:x=0→Zb l≠0):Ze (Zb (x :: l))=x :: Ze (Zb l):=by
 have a:Zb (x :: l)≠0:=by
  rw [Wq]
  by_cases hx:x=0
  ·have:=h0 hx;omega
  ·omega
 rw [Zet a,Wq]
 congr 1
 ·omega
 ·congr 1;omega
theorem Z79 {a:List Int} {x:Int} (h:0<x):Zb (a++[x])≠0:=by
 rw [Qd,Wq,Yn]
 have:0<4294967296 ^ a.length * (x.toNat+4294967296 * 0):=gG (eW (by decide)) (by omega)
 omega
theorem Z7k {a:List Int} {x:Int} (h:Zo (a++[x])) (hx:x≠0):Ze (Zb (a++[x]))=a++[x]:=by
 induction a with
 | nil=>
  have:=h.head
  rw [bL,Zwo this (fun e=>absurd e hx),Yn,Ve]
 | cons y a b=>
  have c:0≤x∧x<4294967296:=h x (by simp)
  rw [cJ,Zwo h.head fun _=>Z79 (by omega),b h.tail]
theorem Zxi (a:List Int):Zb (a++[0])=Zb a:=by rw [Qd];simp [Zb]
theorem Zhj {l:List Int} (h:0<l.length):l.take (l.length - 1)++[l[l.length - 1]]=l:=by
 have:=fP (l.length - 1) l
 rw [aL (by omega),aG (by omega)] at this
 exact this
theorem Znp {n:Nat} (h:0<(Ze n).length):(Ze n)[(Ze n).length - 1]≠0:=by
 induction n using gK with
 | ind n b=>
  by_cases h0:n=0
  ·subst h0;simp [Ve] at h
  ·have e:=Zet h0
   by_cases h1:n / 4294967296=0
   ·have:Ze n=[((n % 4294967296:Nat):Int)]:=by rw [e,h1,Ve]
    simp only [this,List.length_singleton,fB,hY]
    omega
   ·have c:0<(Ze (n / 4294967296)).length:=by
     rw [Zet h1];simp
    have:=b (n / 4294967296) (by omega) c
    have d:(Ze n).length - 1=(Ze (n / 4294967296)).length - 1+1:=by rw [e];simp;omega
    have a:(Ze n)[(Ze n).length - 1]?=(Ze (n / 4294967296))[(Ze (n / 4294967296)).length - 1]?:=by
     rw [d]
     conv=>lhs;rw [e]
     rw [List.getElem?_cons_succ]
    rw [aI (by omega),aI (by omega)] at a
    rw [Option.some.inj a]
    exact this
theorem Tc {l:List Int} {k:Nat} (hk:k<l.length) (v:Int):Zb (l.set k v)+4294967296 ^ k * (l[k]).toNat=Zb l+4294967296 ^ k * v.toNat:=by
 induction l generalizing k with
 | nil=>simp at hk
 | cons x l a=>
  cases k with
  | zero=>simp only [fX,Wq,hY,dH,bR];omega
  | succ k=>
   have h:=a (k:=k) (by simpa using hk)
   simp only [List.set_cons_succ,Wq,List.getElem_cons_succ,aZ]
   grind
theorem Zrj {l:List Int} {k:Nat} (hk:k<l.length):Zb (l.take (k+1))=Zb (l.take k)+4294967296 ^ k * (l[k]).toNat:=by
 rw [List.take_add_one,aI hk,Qd,Option.toList_some,Wq,Yn,nK,aS (by omega)]
 simp
theorem Uh {l:List Int} {k:Nat} (hk:k<l.length):Zb (l.drop k)=(l[k]).toNat+4294967296 * Zb (l.drop (k+1)):=by
 rw [aL hk,Wq]
theorem Td (l:List Int) (k:Nat):Zb l=Zb (l.take k)+4294967296 ^ k * Zb (l.drop k):=by
 by_cases h:k≤l.length
 ·conv=>lhs;rw [← fP k l]
  rw [Qd,nK,aS h]
 ·rw [List.take_of_length_le (by omega),aG (by omega)];simp [Zb]
theorem Ua {x:Int} (h:0≤x∧x<4294967296):u32.wrap x=x:=by rw [IntKind.wrap_u32];omega
theorem Xs {x:Int} (h:0≤x∧x<18446744073709551616):u64.wrap x=x:=by rw [IntKind.wrap_u64];omega
theorem Zg6 {x:Int}:Yq .u64 x 32=x / 4294967296:=by
 have:(min (32:Int).toNat u64.bits)=32:=by decide
 rw [Yq,this]
 exact gS _ (by decide)
def Zbu (aa:List Int) (kk_L1:(List Int→Option R2)) (ab:Bool):Option R2:=
  if ab=true then (Zt ((0:Int)≤(i64.wrap ((aa.length:Int) - 1))∧(i64.wrap ((aa.length:Int) - 1))≤(aa.length:Int)) (kk_L1 (aa.take (aA (i64.wrap ((aa.length:Int) - 1)))))) else (some aa)
def Se (N:Nat):Nat→R2→Option R2
  | 0,_=>none
  | ab+1,aa=>if (decide (0<(aa.length:Int)))=true then ((Zi aa (i64.wrap ((aa.length:Int) - 1))).bind fun ac=>Zbu aa (Se N ab) (decide (ac=0))) else (Zbu aa (Se N ab) false)
def Uw (N:Nat) (aa:List Int):Option R2:=
  Se N N aa
theorem So {N ap:Nat} {a0:Option Addr} {col:Zd} {w0:World} {ag r:R2} (hm:Uw N ag=some r) (h0:Sl rU col w0 a0 ap ag):
    Calls prog 159 #[.slice a0 ag.length ap] w0 (fun e w'=>∃ col' ra1 rc2,e= .returned ((.slice ra1 r.length rc2))∧Zn col w0 col' w'∧Sl rU col' w' ra1 rc2 r):=by
 refine Z6 2 (m:=21) func159 rfl rfl rfl rfl rfl ?_;rw [Uw.eq_1] at hm;have ab:=St.start col w0;refine go ?_;refine Zs [1000000] (fun n f ah=>∃ ai ad ae aa af,af=n∧Se N af aa=some r∧St w0 (Zf col) ai ah∧Sl rU ai ah ad ae aa∧[0].map f=[.slice ad aa.length ae]) N ⟨_,_,_,_,_,rfl,hm,ab,(h0.k0.ks ab),rfl⟩ ?_;clear hm;intro n f ah hI;obtain ⟨ai,ad,ae,aa,af,hn,hm,ab,ac,hs⟩:=hI;subst hn;refine .lL [0] hs ?_
 cases af with
 | zero=>rw [Se.eq_1] at hm;cases hm
 | succ af=>
  rw [Se.eq_2] at hm;refine Z0<|Z0 ?_;refine Wp.cutK [0,1000000] (fun f aj=>∃ ak al,Zbu aa (Se N af) al=some r∧St w0 (Zf col) ak aj∧Sl rU ak aj ad ae aa∧[14].map f=[.bool al]) ?_ ?_
  ·intro f aj hJ;obtain ⟨ak,al,hm,ab,ac,hs⟩:=hJ;rw [Zbu.eq_1] at hm;refine .lL [14] hs ?_;refine Zm hm (fun hb hm=>go ?_) fun hb hm=>go ?_
   ·obtain ⟨am,hm⟩:=Zv hm;refine lv (v:=.slice ad (aA (i64.wrap ((aa.length:Int) - 1))) ae) rfl rfl (Vt underlying38 sizeOf45 rfl rfl am.1 (by have:=ac.1.2;have:=am.2;omega))<|.ld (d:=19) (v:=(.slice ad ((aa.take (aA (i64.wrap ((aa.length:Int) - 1)))).length) ae)) (congrArg (fun n=>Value.slice ad n ae) (bE (show (aA (i64.wrap ((aa.length:Int) - 1)))≤aa.length by have:=am.2;omega)).symm) ?_;refine go ?_;exact ⟨af,by omega,rfl,⟨_,_,_,_,_,rfl,hm,ab,(ac.take (aA (i64.wrap ((aa.length:Int) - 1)))),rfl⟩⟩
   cases hm;exact ⟨rfl,_,_,_,rfl,ab.fin (cm []),ab.fs ac⟩
  refine go ?_;refine Xn hm (fun an hm=>go ?_) fun an hm=>go ?_
  ·obtain ⟨aq,ao,hm⟩:=bZ hm;refine lI ao (ac.addr ao) ?_;refine go ?_;refine lW (ac.atInt ao)<|go ?_;refine lV (.bool (decide (aq=0))) (Zw (congrArg Value.bool an) rfl)<|Zl ?_;exact ⟨rfl,_,_,hm,ab,ac,rfl⟩
  refine lV (.bool false) (Xk (congrArg Value.bool an) rfl)<|Zl ?_;exact ⟨rfl,_,_,hm,ab,ac,rfl⟩
def Zfa (N:Nat) (ab ac:List Int):Nat→Int→Option Int
  | 0,_=>none
  | af+1,aa=>if (decide (0≤aa))=true then ((Zi ab aa).bind fun ad=>(Zi ac aa).bind fun ae=>if (decide (ad<ae))=true then (some (-1)) else (if (decide (ae<ad))=true then (some 1) else ((Zfa N ab ac af) (i64.wrap (aa - 1))))) else (some 0)
def Ze9 (N:Nat) (ac ad:List Int):Option Int:=
  (Uw N ac).bind fun aa=>(Uw N ad).bind fun ab=>if (!decide ((aa.length:Int)=(ab.length:Int)))=true then (if (decide ((aa.length:Int)<(ab.length:Int)))=true then (some (-1)) else (some 1)) else (Zfa N aa ab N (i64.wrap ((aa.length:Int) - 1)))
theorem Zp3 {N al am:Nat} {a0 a1:Option Addr} {col:Zd} {w0:World} {ai aj:R2} {r:Int} (hm:Ze9 N ai aj=some r) (h0:Sl rU col w0 a0 al ai) (h1:Sl rU col w0 a1 am aj):
    Calls prog 186 #[.slice a0 ai.length al,.slice a1 aj.length am] w0 (W5 w0 r):=by
 refine Z6 4 (m:=45) func186 rfl rfl rfl rfl rfl ?_;rw [Ze9.eq_1] at hm;have aa:=St.start col w0;refine go ?_;obtain ⟨an,aq,hm⟩:=bZ hm;refine Zk (So aq (h0.k0.ks aa)) fun _ az ⟨a2,ar,au,e',av,ab⟩=>⟨_,e',?_⟩;refine Wo rfl ?_;obtain ⟨ao,aw,hm⟩:=bZ hm;replace aa:=aa.grow av;refine Zk (So aw (h1.k0.ks aa)) ?_;rintro _ a3 ⟨a4,ax,ay,rfl,ap,ad⟩;refine ⟨_,rfl,go ?_⟩;replace ab:=ab.gr ap;replace aa:=aa.grow ap;refine Zm hm (fun hb hm=>go ?_) fun hb hm=>go ?_
 ·refine Zm hm (fun hb hm=>go ?_) fun hb hm=>go ?_
  ·cases hm;exact ⟨rfl,rfl,aa.below⟩
  cases hm;exact ⟨rfl,rfl,aa.below⟩
 refine Zs [0,1,1000000] (fun n f ah=>∃ ac ak ae,ae=n∧Zfa N an ao ae ak=some r∧St w0 (Zf col) ac ah∧Sl rU ac ah ar au an∧Sl rU ac ah ax ay ao∧[5].map f=[.int .i64 ak]) N ⟨_,_,_,rfl,hm,aa,ab,ad,rfl⟩ ?_;clear hm;intro n f ah hI;obtain ⟨ac,ak,ae,hn,hm,aa,ab,ad,hs⟩:=hI;subst hn;refine .lL [5] hs ?_
 cases ae with
 | zero=>rw [Zfa.eq_1] at hm;cases hm
 | succ ae=>
  rw [Zfa.eq_2] at hm;refine go ?_;refine Zm hm (fun hb hm=>go ?_) fun hb hm=>go ?_
  ·refine Y7 (col:=ac) (by kernel_rfl) (by kernel_rfl)<|go ?_;obtain ⟨a5,af,hm⟩:=bZ hm;refine qI af (ab.addr af)<|qW (fun _ hC=>(ab.gr (hC.bl ac)).atInt af) ?_;refine go ?_;obtain ⟨a6,ag,hm⟩:=bZ hm;refine qI ag (ad.addr ag)<|qW (fun _ hC=>(ad.gr (hC.bl ac)).atInt ag) ?_;refine go ?_;refine X2 ?_;intro a7 hC;replace hC:=hC.bl ac;replace ab:=ab.gr hC;replace ad:=ad.gr hC;replace aa:=aa.grow hC;refine Zm hm (fun hb hm=>go ?_) fun hb hm=>go ?_
   ·cases hm;exact ⟨rfl,rfl,aa.below⟩
   refine Y7 (col:=ac) (by kernel_rfl) (by kernel_rfl)<|go ?_;refine qI af (ab.addr af)<|qW (fun _ hC=>(ab.gr (hC.bl ac)).atInt af) ?_;refine go ?_;refine qI ag (ad.addr ag)<|qW (fun _ hC=>(ad.gr (hC.bl ac)).atInt ag) ?_;refine go ?_;refine X2 ?_;intro a8 hC;replace hC:=hC.bl ac;replace aa:=aa.grow hC;refine Zm hm (fun hb hm=>go ?_) fun hb hm=>go ?_
   ·cases hm;exact ⟨rfl,rfl,aa.below⟩
   exact ⟨ae,by omega,rfl,⟨_,_,_,rfl,hm,aa,ab.gr hC,ad.gr hC,rfl⟩⟩
  cases hm;exact ⟨rfl,rfl,aa.below⟩
theorem Z6c:Y1 prog 45 1 4:=⟨Tryz.t45,_,rfl,rfl,rfl,rfl,rfl⟩
def Zgy (aa:List Int):Option R2:=
  Zt ((([]:List Int).length+aa.length) * 4≤140737488355328∧([]:List Int).length+aa.length≤maxLen) (some (([]:List Int)++aa))
theorem Zqc {ad:Nat} {a0:Option Addr} {col:Zd} {w0:World} {ac r:R2} (c1:Nat) (hm:Zgy ac=some r) (h0:Sl rU col w0 a0 ad ac):
    Calls prog 187 #[.slice a0 ac.length ad] w0 (W2 .u32 45 c1 col w0 r):=by
 refine Z6 2 (m:=8) func187 rfl rfl rfl rfl rfl ?_;rw [Zgy.eq_1] at hm;have aa:=St.start col w0;refine go ?_;replace h0:=h0.k0;rcases Zrg h0 with ab | ab
 ·replace hm:some ([]:List Int)=some r:=by have h0:=ab.2;subst h0;simpa [Zt,maxLen] using hm
  refine lv (v:=.bool a0.isNone) rfl rfl (Zjr underlying38 rfl)<|.ld (d:=4) (v:=.bool true) (congrArg Value.bool ab.1)<|Zl<|Yd rfl<|go ?_;cases hm;exact ⟨rfl,_,none,0,rfl,aa.fin (cm []),Zc.nil⟩
 refine lv (v:=.bool a0.isNone) rfl rfl (Zjr underlying38 rfl)<|.ld (d:=4) (v:=.bool false) (congrArg Value.bool ab)<|Zl<|Yc rfl<|go ?_;refine Zq2 (col:=(Zf col)) (r:=rU) 1 rfl underlying38 Z6c rfl ?_;intro aj ak al ae af;refine Wo rfl ?_;obtain ⟨ag,hm⟩:=Zv hm;refine Yy af (h0.gr ae).srcC ag ?_;intro am an ao ap ah ai;refine go ?_;cases hm;replace aa:=(aa.grow ae).kpp ah;exact ⟨rfl,_,_,_,rfl,aa.fin (cm [(1,c1)]),aa.fo ai⟩
def Zn1 (aa:Int) (kk_L1:(List Int→Int→Int→Option R2)) (ab:List Int) (ac:Int):Option R2:=
  kk_L1 ab ac (i64.wrap (aa+1))
def Zih (ab:List Int) (aa:Int) (kk_L1:(List Int→Int→Int→Option R2)) (ac ad:Int):Option R2:=
  (Zi ab aa).bind fun ae=>(some (ab.set (aA aa) (u32.wrap (ae - (u32.wrap ac))))).bind fun af=>Zn1 aa kk_L1 af ad
def Zig (aa:List Int) (ab:Int) (kk_L1:(List Int→Int→Int→Option R2)) (ac:Int):Option R2:=
  (Zi aa ab).bind fun ad=>if (decide ((u64.wrap ad)<ac))=true then (Zih aa ab kk_L1 ac 1) else (Zih aa ab kk_L1 ac 0)
def Sd (N:Nat) (ac ab:List Int):Nat→R2→Int→Int→Option R2
  | 0,_,_,_=>none
  | ae+1,ad,af,aa=>if (decide (aa<(ac.length:Int)))=true then (if (decide (aa<(ab.length:Int)))=true then ((Zi ab aa).bind fun ag=>Zig ad aa (Sd N ac ab ae) (u64.wrap (af+(u64.wrap ag)))) else (Zig ad aa (Sd N ac ab ae) af)) else (some ad)
def Zn0 (N:Nat) (aa ab:List Int):Option R2:=
  Sd N aa ab N aa 0 0
theorem Z3j {N ae an:Nat} {a0 a1:Option Addr} {col:Zd} {w0:World} {ab ag r:R2} (qc0:Nat) (hm:Zn0 N ab ag=some r) (hd:Tm [qc0]=true) (h0:Zc rU 45 qc0 col w0 a0 ae ab) (h1:Sl rU col w0 a1 an ag):
    Calls prog 192 #[.slice a0 ab.length ae,.slice a1 ag.length an] w0 (fun e w'=>∃ col',e= .returned (.tuple #[])∧Z5 (pS [qc0]) col w0 col' w'∧Zc rU 45 qc0 col' w' a0 ae r∧r.length=ab.length):=by
 refine Zhe (m:=40) (args:=[.slice a0 ab.length ae,.slice a1 ag.length an]) func192 rfl rfl rfl rfl ?_;rw [Zn0.eq_1] at hm;have aa:=St.startL (l:=[qc0]) rfl col w0;refine go ?_;refine Zs [1,8,1000000] (fun n f ao=>∃ ap ac aq ah af,af=n∧Sd N ab ag af ac aq ah=some r∧St w0 (Xp [qc0] col) ap ao∧Zc rU 45 440 ap ao a0 ae ac∧ac.length=ab.length∧ac.length=ab.length∧[0,4,9].map f=[.slice a0 ac.length ae,.int .u64 aq,.int .i64 ah]) N ⟨_,_,0,0,_,rfl,hm,aa,h0.startL (Sr hd 0 rfl) (Sq hd 0 rfl),rfl,rfl,rfl⟩ ?_;clear hm;intro n f ao hI;obtain ⟨ap,ac,aq,ah,af,hn,hm,aa,ad,a8,a9,hs⟩:=hI;subst hn;refine .lL [0,4,9] hs ?_;replace h1:=h1.keep (Yg.startL [qc0] col w0)
 cases af with
 | zero=>rw [Sd.eq_1] at hm;cases hm
 | succ af=>
  rw [Sd.eq_2] at hm;refine go ?_;refine Zm hm (fun hb hm=>?_) fun hb hm=>go ?_
  ·refine Yj<|Z0 ?_;refine Wp.cutK [1,8,9,1000000] (fun f ar=>∃ au ai av,Zn1 ah (Sd N ab ag af) ai av=some r∧St w0 (Xp [qc0] col) au ar∧Zc rU 45 440 au ar a0 ae ai∧ai.length=ab.length∧ai.length=ab.length∧[0,4].map f=[.slice a0 ai.length ae,.int .u64 av]) ?_ ?_
   ·intro f ar hJ;obtain ⟨au,ai,av,hm,aa,ba,bb,bc,hs⟩:=hJ;rw [Zn1.eq_1] at hm;refine .lL [0,4] hs<|go ?_;exact ⟨af,by omega,rfl,⟨_,_,_,_,_,rfl,hm,aa,ba,bb,bc,rfl⟩⟩
   refine Zjy<|Z0<|Wy<|Xr rfl<|Y4 rfl<|Zl<|Z0<|Wy<|Xr rfl<|Y4 rfl<|Zl<|Z0 ?_;refine Wp.cutK [0,1,5,8,9,1000000] (fun f aw=>∃ ax aj,Zig ac ah (Sd N ab ag af) aj=some r∧St w0 (Xp [qc0] col) ax aw∧Zc rU 45 440 ax aw a0 ae ac∧[6].map f=[.int .u64 aj]) ?_ ?_
   ·intro f aw hJ;obtain ⟨ax,aj,hm,aa,ad,hs⟩:=hJ;rw [Zig.eq_1] at hm;refine .lL [6] hs<|Z0<|Wy<|Y4 rfl<|Zl<|Z0 ?_;refine Wp.cutK [0,1,5,6,8,9,1000000] (fun f ay=>∃ az a2,Zih ac ah (Sd N ab ag af) aj a2=some r∧St w0 (Xp [qc0] col) az ay∧Zc rU 45 440 az ay a0 ae ac∧[4].map f=[.int .u64 a2]) ?_ ?_
    ·intro f ay hJ;obtain ⟨az,a2,hm,aa,ad,hs⟩:=hJ;rw [Zih.eq_1] at hm;refine .lL [4] hs<|go ?_;obtain ⟨a5,ak,hm⟩:=bZ hm;refine lI ak (ad.addr ak)<|lW (ad.atInt ak) ?_;refine go ?_;refine lI ak (ad.addr ak) ?_;obtain ⟨al,am,hm⟩:=bZ hm;have am:al=ac.set (aA ah) (u32.wrap (a5 - (u32.wrap aj))):=(Option.some.inj am).symm;refine Wa (x1:=u32.wrap (a5 - (u32.wrap aj))) ad ak ?_;intro bf bd be a6;rw [← am] at a6;have a7:al.length=ab.length:=(show ac.length=al.length by rw [am,nS]).symm.trans a8;refine .ld (d:=0) (v:=(.slice a0 al.length ae)) (congrArg (fun n=>Value.slice a0 n ae) (show ac.length=al.length by rw [am,nS])) ?_;refine Zl ?_;replace aa:=aa.kp bd be;exact ⟨rfl,_,_,_,hm,aa,a6,a7,a7,rfl⟩
    refine go ?_;obtain ⟨bg,a3,hm⟩:=bZ hm;refine lI a3 (ad.addr a3)<|lW (ad.atInt a3) ?_;refine go ?_;refine Zm hm (fun hb hm=>go ?_) fun hb hm=>?_
    ·exact ⟨rfl,_,1,hm,aa,ad,rfl⟩
    refine Yj ?_;exact ⟨rfl,_,0,hm,aa,ad,rfl⟩
   refine go ?_;refine Zm hm (fun hb hm=>go ?_) fun hb hm=>?_
   ·obtain ⟨bh,a4,hm⟩:=bZ hm;refine lI a4 ((h1.ks aa).addr a4)<|lW ((h1.ks aa).atInt a4) ?_;refine go ?_;exact ⟨rfl,_,_,hm,aa,ad,rfl⟩
   refine Yj ?_;exact ⟨rfl,_,_,hm,aa,ad,rfl⟩
  cases hm;exact ⟨rfl,_,rfl,aa.finL rfl (cm [(440,qc0)]),aa.foL ad,a9⟩
def Uv (N:Nat) (ab:List Int):Option R2:=
  (Uw N ab).bind fun aa=>if (decide ((aa.length:Int)=0))=true then (some ([]:List Int)) else ((Zgy aa).bind fun ac=>some ac)
theorem Sn {N ac:Nat} {a0:Option Addr} {col:Zd} {w0:World} {ab r:R2} (c1:Nat) (hm:Uv N ab=some r) (h0:Sl rU col w0 a0 ac ab):
    Calls prog 160 #[.slice a0 ab.length ac] w0 (W2 .u32 45 c1 col w0 r):=by
 refine Z6 2 (m:=10) func160 rfl rfl rfl rfl rfl ?_;rw [Uv.eq_1] at hm;have aa:=St.start col w0;refine go ?_;obtain ⟨aj,ad,hm⟩:=bZ hm;refine Zk (So ad (h0.k0.ks aa)) ?_;rintro _ ak ⟨al,am,an,rfl,ae,af⟩;refine ⟨_,rfl,go ?_⟩;replace aa:=aa.grow ae;refine Zm hm (fun hb hm=>go ?_) fun hb hm=>go ?_
 ·cases hm;exact ⟨rfl,_,none,0,rfl,aa.fin (cm []),Zc.nil⟩
 obtain ⟨ao,ag,hm⟩:=bZ hm;refine Zk (Zqc 1 ag af) ?_;rintro _ ap ⟨aq,ar,au,rfl,ah,ai⟩;refine ⟨_,rfl,go ?_⟩;cases hm;replace aa:=aa.grow ah;exact ⟨rfl,_,_,_,rfl,aa.fin (cm [(1,c1)]),aa.fo ai⟩
def Zid (N:Nat) (aa ab:List Int):Option Ri:=
  (Ze9 N aa ab).bind fun ac=>if (decide (ac<0))=true then (some (([]:List Int),false)) else ((Uw N aa).bind fun ad=>(Zgy ad).bind fun ae=>(Uw N ab).bind fun af=>(Zn0 N ae af).bind fun ag=>(Uv N ag).bind fun ah=>some (ah,true))
theorem Zs8 {N ah ai:Nat} {a0 a1:Option Addr} {col:Zd} {w0:World} {ab ac:R2} {r:Ri} (c1:Nat) (hm:Zid N ab ac=some r) (h0:Sl rU col w0 a0 ah ab) (h1:Sl rU col w0 a1 ai ac):
    Calls prog 163 #[.slice a0 ab.length ah,.slice a1 ac.length ai] w0 (fun e w'=>∃ col' ra1 rc2,e= .returned (.tuple #[.slice ra1 r.1.length rc2,.bool r.2])∧Zn col w0 col' w'∧Zc rU 45 c1 col' w' ra1 rc2 r.1):=by
 refine Zcp 4 5 (m:=20) (args:=[.slice a0 ab.length ah,.slice a1 ac.length ai]) func163 rfl rfl rfl rfl rfl ?_;rw [Zid.eq_1] at hm;have aa:=St.start col w0;refine go ?_;obtain ⟨a9,aq,hm⟩:=bZ hm;replace h0:=h0.k0;replace h1:=h1.k0;refine Zk (Zp3 aq (h0.ks aa) (h1.ks aa)) fun _ ar ⟨e',aj⟩=>⟨_,e',?_⟩;replace aj:Zn (Zf col) w0 (Zf col) ar:=.of_below aj;refine go ?_;replace aa:=aa.grow aj;refine Zm hm (fun hb hm=>go ?_) fun hb hm=>go ?_
 ·cases hm;exact ⟨rfl,_,none,0,rfl,aa.fin (cm []),Zc.nil⟩
 obtain ⟨ba,au,hm⟩:=bZ hm;refine Zk (So au (h0.ks aa)) fun _ bb ⟨bc,bd,be,e',av,aw⟩=>⟨_,e',?_⟩;obtain ⟨an,ax,hm⟩:=bZ hm;refine Zk (Zqc 1 ax aw) ?_;rintro _ bf ⟨bg,ad,ae,rfl,ay,ak⟩;refine ⟨_,rfl,go ?_⟩;obtain ⟨bh,az,hm⟩:=bZ hm;replace aa:=(aa.grow av).grow ay;refine Zk (So az (h1.ks aa)) fun _ bi ⟨bj,bk,bm,e',ao,a2⟩=>⟨_,e',?_⟩;obtain ⟨af,a3,hm⟩:=bZ hm;refine Zk (Z3j 1 a3 rfl (ak.gr ao) a2) fun _ a4 ⟨al,e',a5,a6,ap⟩=>⟨_,e',?_⟩;refine .ld (d:=6) (v:=(.slice ad af.length ae)) (congrArg (fun n=>Value.slice ad n ae) (show an.length=af.length from ap.symm)) ?_;refine .ld (d:=14) (v:=(.slice ad af.length ae)) (congrArg (fun n=>Value.slice ad n ae) (show an.length=af.length from ap.symm)) ?_;refine go ?_;obtain ⟨bn,a7,hm⟩:=bZ hm;refine Zk (Sn 2 a7 (a6.toSlF (Zh.int .u32))) fun _ bo ⟨a8,bp,bq,e',ag,am⟩=>⟨_,e',?_⟩;replace am:=am.thaw (Z3 .u32) ag ((Fz.refl (col:=al)).froz 1);replace ag:=ag.thawR (col:=al);generalize Xj a4.heap.size al a8=br at *;refine go ?_;cases hm;replace aa:=((aa.grow ao).kpp a5).grow ag;exact ⟨rfl,_,_,_,rfl,aa.fin (cm [(2,c1)]),aa.fo am⟩
def Znx (aa:Nat) (kk_L1:(Nat→R2→Int→Option R2)) (ab:List Int) (ac:Int):Option R2:=
  kk_L1 (aa+1) ab ac
def Zib (aa:Nat) (ab:List Int) (kk_L1:(Nat→R2→Int→Option R2)) (ac:Int):Option R2:=
  (Zi ab (aa:Int)).bind fun ae=>(some (ab.set (aA (aa:Int)) (u32.wrap ac))).bind fun ad=>Znx aa kk_L1 ad (Yq .u64 ac 32)
def S1 (N:Nat) (ac ad:List Int):List Int→Nat→R2→Int→Option R2
  | [],aa,ab,ae=>(Zi ab (ac.length:Int)).bind fun ak=>(some (ab.set (aA (ac.length:Int)) (u32.wrap ae))).bind fun ah=>(Uv N ah).bind fun ai=>some ai
  | af :: ag,aa,ab,ae=>if (decide ((aa:Int)<(ad.length:Int)))=true then ((Zi ad (aa:Int)).bind fun aj=>Zib aa ab (S1 N ac ad ag) (u64.wrap ((u64.wrap (ae+(u64.wrap af)))+(u64.wrap aj)))) else (Zib aa ab (S1 N ac ad ag) (u64.wrap (ae+(u64.wrap af))))
def Zia (N:Nat) (aa ab:List Int):Option R2:=
  Zt ((aA (i64.wrap ((aa.length:Int)+1))) * 4≤281474976710656∧(aA (i64.wrap ((aa.length:Int)+1)))≤maxLen∧0≤(i64.wrap ((aa.length:Int)+1))) (S1 N aa ab aa 0 (aC (aA (i64.wrap ((aa.length:Int)+1))) (0:Int)) 0)
def Zku (N:Nat) (ac ad:List Int):Option R2:=
  (Uw N ac).bind fun aa=>(Uw N ad).bind fun ab=>if (decide ((aa.length:Int)<(ab.length:Int)))=true then (Zia N ab aa) else (Zia N aa ab)
theorem Z3f {N bp bq:Nat} {a0 a1:Option Addr} {col:Zd} {w0:World} {a9 ba r:R2} (c1:Nat) (hm:Zku N a9 ba=some r) (h0:Sl rU col w0 a0 bp a9) (h1:Sl rU col w0 a1 bq ba):
    Calls prog 162 #[.slice a0 a9.length bp,.slice a1 ba.length bq] w0 (W2 .u32 45 c1 col w0 r):=by
 refine Z6 4 (m:=62) func162 rfl rfl rfl rfl rfl ?_;rw [Zku.eq_1] at hm;have aa:=St.start col w0;refine go ?_;obtain ⟨ca,bw,hm⟩:=bZ hm;refine Zk (So bw (h0.k0.ks aa)) fun _ cb ⟨cc,cd,ce,e',bx,a3⟩=>⟨_,e',?_⟩;refine Wo rfl ?_;obtain ⟨cf,bz,hm⟩:=bZ hm;replace aa:=aa.grow bx;refine Zk (So bz (h1.k0.ks aa)) fun _ cg ⟨ch,ci,cj,e',br,bs⟩=>⟨_,e',?_⟩;refine Zbe rfl<|Zbe rfl<|Zl<|Z0 ?_;replace a3:=a3.gr br;replace aa:=aa.grow br;refine Wp.cutK [1000000] (fun f aq=>∃ ar am an ab ao ap ae,Zia N ab ae=some r∧St w0 (Zf col) ar aq∧Sl rU ar aq am an ab∧Sl rU ar aq ao ap ae∧[0,1].map f=[.slice am ab.length an,.slice ao ae.length ap]) ?_ ?_
 ·intro f aq hJ;obtain ⟨ar,am,an,ab,ao,ap,ae,hm,aa,ac,ad,hs⟩:=hJ;rw [Zia.eq_1] at hm;refine .lL [0,1] hs<|go ?_;obtain ⟨a4,hm⟩:=Zv hm;refine Sv (col:=ar) (w:=aq) (r:=rU) (n:=(aA (i64.wrap ((ab.length:Int)+1)))) (x0:=0) 1 rfl underlying38 Tryz.t45 rfl rfl rfl rfl rfl (congrArg (Value.int _) (bJ a4.2.2).symm) (congrArg (Value.int _) (bJ a4.2.2).symm) a4.1 a4.2.1 (Vn .u32 0) ?_;intro ck cl cn bb b0;refine go ?_;replace ac:=ac.gr bb;replace ad:=ad.gr bb;replace aa:=aa.grow bb;refine Zs [0,1,24,25,1000000] (fun n f au=>∃ ah ag ai aj af av aw,n=aw.length∧ab.drop ag=aw∧S1 N ab ae aw ag af av=some r∧St w0 (Zf col) ah au∧Sl rU ah au am an ab∧Sl rU ah au ao ap ae∧Zc rU 45 1 ah au ai aj af∧[26,5,6].map f=[.int .i64 ag,.slice ai af.length aj,.int .u64 av]) ab.length ⟨_,0,_,_,_,0,_,rfl,rfl,hm,aa,ac,ad,b0,rfl⟩ ?_;clear hm;intro n f au hI;obtain ⟨ah,ag,ai,aj,af,av,aw,hn,hl,hm,aa,ac,ad,ak,hs⟩:=hI;subst hn;refine .lL [26,5,6] hs ?_
  cases aw with
  | nil=>
   have hk:¬ ((ag:Int)<(ab.length:Int)):=by have:=aM.1 hl;omega
   have hkb:=decide_eq_false hk;rw [S1.eq_1] at hm;refine go ?_;refine Yc (congrArg Value.bool hkb)<|go ?_;obtain ⟨co,bc,hm⟩:=bZ hm;refine lI bc (ak.addr bc) ?_;obtain ⟨bd,a5,hm⟩:=bZ hm;have a5:bd=af.set (aA (ab.length:Int)) (u32.wrap av):=(Option.some.inj a5).symm;refine Wa (x1:=u32.wrap av) ak bc ?_;intro b1 b2 b3 bt;rw [← a5] at bt;refine .ld (d:=5) (v:=(.slice ai bd.length aj)) (congrArg (fun n=>Value.slice ai n aj) (show af.length=bd.length by rw [a5,nS])) ?_;refine go ?_;obtain ⟨cp,b4,hm⟩:=bZ hm;refine Zk (Sn 2 b4 (bt.toSlF (Zh.int .u32))) fun _ cq ⟨b5,cr,cs,e',a6,be⟩=>⟨_,e',?_⟩;replace be:=be.thaw (Z3 .u32) a6 ((Fz.refl (col:=ah)).froz 1);replace a6:=a6.thawR (col:=ah);generalize Xj b1.heap.size ah b5=ct at *;refine go ?_;cases hm;replace aa:=(aa.kp b2 b3).grow a6;exact ⟨rfl,_,_,_,rfl,aa.fin (cm [(2,c1)]),aa.fo be⟩
  | cons bu bf=>
   obtain ⟨bg,b6,b7⟩:=Yu hl;have hk:(ag:Int)<(ab.length:Int):=by omega
   have hkb:=decide_eq_true hk;rw [S1.eq_2] at hm;refine go ?_;refine Yd (congrArg Value.bool hkb)<|Yj<|Z0 ?_;refine Wp.cutK [0,1,24,25,26,1000000] (fun f ax=>∃ ay bh bi a7 bj,Znx ag (S1 N ab ae bf) a7 bj=some r∧St w0 (Zf col) ay ax∧Sl rU ay ax am an ab∧Sl rU ay ax ao ap ae∧Zc rU 45 1 ay ax bh bi a7∧[5,6].map f=[.slice bh a7.length bi,.int .u64 bj]) ?_ ?_
   ·intro f ax hJ;obtain ⟨ay,bh,bi,a7,bj,hm,aa,ac,ad,b8,hs⟩:=hJ;rw [Znx.eq_1] at hm;refine .lL [5,6] hs<|go ?_;exact ⟨bf.length,by simp,rfl,⟨_,_,_,_,_,_,_,rfl,b6,hm,aa,ac,ad,b8,(Y2 (congrArg (Value.int .i64) (Yx (aK b7 ac.1.1))) rfl)⟩⟩
   refine go ?_;refine lI bg (ac.addr bg)<|lW (ac.atInt bg)<|Y4 rfl<|Y4 rfl<|Zl<|Z0<|Wy<|Xr rfl<|Xr rfl<|lV (.int .u64 (u64.wrap bu)) (Zmb bu ⟨_,underlying45⟩ underlying144 rfl)<|lV _ (Zah _ _ rfl rfl)<|Y4 rfl<|Zl<|Z0 ?_;refine Wp.cutK [0,1,24,25,26,5,7,1000000] (fun f az=>∃ a2 al,Zib ag af (S1 N ab ae bf) al=some r∧St w0 (Zf col) a2 az∧Sl rU a2 az am an ab∧Sl rU a2 az ao ap ae∧Zc rU 45 1 a2 az ai aj af∧[6].map f=[.int .u64 al]) ?_ ?_
   ·intro f az hJ;obtain ⟨a2,al,hm,aa,ac,ad,ak,hs⟩:=hJ;rw [Zib.eq_1] at hm;refine .lL [6] hs<|go ?_;obtain ⟨cu,bk,hm⟩:=bZ hm;refine lI bk (ak.addr bk) ?_;obtain ⟨bm,a8,hm⟩:=bZ hm;have a8:bm=af.set (aA (ag:Int)) (u32.wrap al):=(Option.some.inj a8).symm;refine Wa (x1:=u32.wrap al) ak bk ?_;intro cv bn b9 bv;rw [← a8] at bv;refine .ld (d:=5) (v:=(.slice ai bm.length aj)) (congrArg (fun n=>Value.slice ai n aj) (show af.length=bm.length by rw [a8,nS])) ?_;refine go ?_;refine lV (.int .u64 (Yq .u64 al 32)) (Qi al 32 rfl rfl (by decide))<|go ?_;replace ac:=ac.kp bn;replace ad:=ad.kp bn;replace aa:=aa.kp bn b9;exact ⟨rfl,_,_,_,_,_,hm,aa,ac,ad,bv,rfl⟩
   refine go ?_;refine Zm hm (fun hb hm=>go ?_) fun hb hm=>?_
   ·obtain ⟨cw,bo,hm⟩:=bZ hm;refine lI bo (ad.addr bo)<|lW (ad.atInt bo) ?_;refine go ?_;exact ⟨rfl,_,_,hm,aa,ac,ad,ak,rfl⟩
   refine Yj ?_;exact ⟨rfl,_,_,hm,aa,ac,ad,ak,rfl⟩
 refine go ?_;refine Zm hm (fun hb hm=>go ?_) fun hb hm=>?_
 ·exact ⟨rfl,_,_,_,_,_,_,_,hm,aa,bs,a3,rfl⟩
 refine Yj ?_;exact ⟨rfl,_,_,_,_,_,_,_,hm,aa,a3,bs,rfl⟩
def Zde (ae:List Int) (aa:Nat) (kk_L1:(Nat→R2→Option R2)) (af:Int):List Int→Nat→R2→Int→Option R2
  | [],ac,ab,ad=>(Zi ab (i64.wrap ((aa:Int)+(ae.length:Int)))).bind fun al=>(some (ab.set (aA (i64.wrap ((aa:Int)+(ae.length:Int)))) (u32.wrap ad))).bind fun ai=>kk_L1 (aa+1) ai
  | ag :: aj,ac,ab,ad=>(Zi ab (i64.wrap ((aa:Int)+(ac:Int)))).bind fun ah=>(some (ab.set (aA (i64.wrap ((aa:Int)+(ac:Int)))) (u32.wrap (u64.wrap (ad+(u64.wrap ((u64.wrap ((u64.wrap af) * (u64.wrap ag)))+(u64.wrap ah)))))))).bind fun ak=>(Zde ae aa kk_L1 af aj) (ac+1) ak (Yq .u64 (u64.wrap (ad+(u64.wrap ((u64.wrap ((u64.wrap af) * (u64.wrap ag)))+(u64.wrap ah))))) 32)
def Zaw (N:Nat) (aa:List Int):List Int→Nat→R2→Option R2
  | [],ac,ab=>(Uv N ab).bind fun ad=>some ad
  | ae :: af,ac,ab=>Zde aa ac (Zaw N aa af) ae aa 0 ab 0
def Zbr (N:Nat) (ac ad:List Int):Option R2:=
  (Uw N ac).bind fun aa=>(Uw N ad).bind fun ab=>Zt ((aA (i64.wrap ((aa.length:Int)+(ab.length:Int)))) * 4≤281474976710656∧(aA (i64.wrap ((aa.length:Int)+(ab.length:Int))))≤maxLen∧0≤(i64.wrap ((aa.length:Int)+(ab.length:Int)))) (Zaw N ab aa 0 (aC (aA (i64.wrap ((aa.length:Int)+(ab.length:Int)))) (0:Int)))
theorem Zm5 {N bt bu:Nat} {a0 a1:Option Addr} {col:Zd} {w0:World} {be bf r:R2} (c1:Nat) (hm:Zbr N be bf=some r) (h0:Sl rU col w0 a0 bt be) (h1:Sl rU col w0 a1 bu bf):
    Calls prog 120 #[.slice a0 be.length bt,.slice a1 bf.length bu] w0 (W2 .u32 45 c1 col w0 r):=by
 refine Z6 4 (m:=71) func120 rfl rfl rfl rfl rfl ?_;rw [Zbr.eq_1] at hm;have aa:=St.start col w0;refine go ?_;obtain ⟨ae,b1,hm⟩:=bZ hm;refine Zk (So b1 (h0.k0.ks aa)) fun _ co ⟨cp,a4,a5,e',b2,ac⟩=>⟨_,e',?_⟩;refine Wo rfl ?_;obtain ⟨ab,b3,hm⟩:=bZ hm;replace aa:=aa.grow b2;refine Zk (So b3 (h1.k0.ks aa)) ?_;rintro _ b4 ⟨b5,au,av,rfl,bv,ad⟩;refine ⟨_,rfl,go ?_⟩;obtain ⟨a6,hm⟩:=Zv hm;refine Sv (col:=b5) (w:=b4) (r:=rU) (n:=(aA (i64.wrap ((ae.length:Int)+(ab.length:Int))))) (x0:=0) 1 rfl underlying38 Tryz.t45 rfl rfl rfl rfl rfl (congrArg (Value.int _) (bJ a6.2.2).symm) (congrArg (Value.int _) (bJ a6.2.2).symm) a6.1 a6.2.1 (Vn .u32 0) ?_;intro b6 cq b7 bg b8;refine go ?_;replace ac:=(ac.gr bv).gr bg;replace aa:=(aa.grow bv).grow bg;replace ad:=ad.gr bg;refine Zsn (fun n f ap=>∃ (ah:Zd) (af:Nat) (a7:Option Addr) (a8:Nat) (aw:List Int) (ax:List Int),n=ax.length∧ae.drop af=ax∧Zaw N ab ax af aw=some r∧St w0 (Zf col) ah ap∧Sl rU ah ap au av ab∧Sl rU ah ap a4 a5 ae∧Zc rU 45 1 ah ap a7 a8 aw∧f 23=(.int .i64 af)∧f 1=(.slice au ab.length av)∧f 21=(.slice a4 ae.length a5)∧f 22=(.int .i64 ae.length)∧f 5=(.slice a7 aw.length a8)∧f 1000000=(enc [])) ae.length ⟨b7,0,b6,(aA (i64.wrap ((ae.length:Int)+(ab.length:Int)))),(aC (aA (i64.wrap ((ae.length:Int)+(ab.length:Int)))) (0:Int)),ae,rfl,rfl,hm,aa,ad,ac,b8,rfl,rfl,rfl,rfl,rfl,rfl⟩ ?_;clear hm;intro n f ap hI;obtain ⟨ah,af,a7,a8,aw,ax,hn,hl,hm,aa,ad,ac,bw,bh,bi,bj,bk,bm,bn⟩:=hI;subst hn;refine .lD 23 bh<|.lD 1 bi<|.lD 21 bj<|.lD 22 bk<|.lD 5 bm<|.lD 1000000 bn ?_
 cases ax with
 | nil=>
  have hk:¬ ((af:Int)<(ae.length:Int)):=by have:=aM.1 hl;omega
  have hkb:=decide_eq_false hk;rw [Zaw.eq_1] at hm;refine go ?_;refine Yc (congrArg Value.bool hkb)<|go ?_;obtain ⟨cr,b9,hm⟩:=bZ hm;refine Zk (Sn 2 b9 (bw.toSlF (Zh.int .u32))) fun _ cs ⟨ca,ct,cu,e',a9,bo⟩=>⟨_,e',?_⟩;replace bo:=bo.thaw (Z3 .u32) a9 ((Fz.refl (col:=ah)).froz 1);replace a9:=a9.thawR (col:=ah);generalize Xj ap.heap.size ah ca=cv at *;refine go ?_;cases hm;replace aa:=aa.grow a9;exact ⟨rfl,_,_,_,rfl,aa.fin (cm [(2,c1)]),aa.fo bo⟩
 | cons am bp=>
  obtain ⟨an,cb,cc⟩:=Yu hl;have hk:(af:Int)<(ae.length:Int):=by omega
  have hkb:=decide_eq_true hk;rw [Zaw.eq_2] at hm;refine go ?_;refine Yd (congrArg Value.bool hkb)<|go ?_;refine lI an (ac.addr an)<|lW (ac.atInt an) ?_;refine go ?_;refine Zsn (fun n f ay=>∃ (ao:Zd) (ak:Nat) (ai:Option Addr) (aj:Nat) (al:List Int) (ag:Int) (az:List Int),n=az.length∧ab.drop ak=az∧Zde ab af (Zaw N ab bp) am az ak al ag=some r∧St w0 (Zf col) ao ay∧Sl rU ao ay au av ab∧Sl rU ao ay a4 a5 ae∧Zc rU 45 1 ao ay ai aj al∧f 30=(.int .i64 ak)∧f 1=(.slice au ab.length av)∧f 21=(.slice a4 ae.length a5)∧f 22=(.int .i64 ae.length)∧f 23=(.int .i64 af)∧f 28=(.slice au ab.length av)∧f 29=(.int .i64 ab.length)∧f 5=(.slice ai al.length aj)∧f 6=(.int .i64 af)∧f 7=(.int .u32 am)∧f 8=(.int .u64 ag)∧f 1000000=(enc [])) ab.length ⟨ah,0,a7,a8,aw,0,ab,rfl,rfl,hm,aa,ad,ac,bw,rfl,rfl,rfl,rfl,rfl,rfl,rfl,rfl,rfl,rfl,rfl,rfl⟩ ?_;clear hm;intro n f ay hI;obtain ⟨ao,ak,ai,aj,al,ag,az,hn,hl,hm,aa,ad,ac,aq,cd,bi,bj,bk,bh,ce,cf,bm,cg,ch,ci,bn⟩:=hI;subst hn;refine .lD 30 cd<|.lD 1 bi<|.lD 21 bj<|.lD 22 bk<|.lD 23 bh<|.lD 28 ce<|.lD 29 cf<|.lD 5 bm<|.lD 6 cg<|.lD 7 ch<|.lD 8 ci<|.lD 1000000 bn ?_
  cases az with
  | nil=>
   have hk:¬ ((ak:Int)<(ab.length:Int)):=by have:=aM.1 hl;omega
   have hkb:=decide_eq_false hk;rw [Zde.eq_1] at hm;refine go ?_;refine Yc (congrArg Value.bool hkb)<|go ?_;obtain ⟨cw,bq,hm⟩:=bZ hm;refine lI bq (aq.addr bq) ?_;obtain ⟨ba,bb,hm⟩:=bZ hm;have bb:ba=al.set (aA (i64.wrap ((af:Int)+(ab.length:Int)))) (u32.wrap ag):=(Option.some.inj bb).symm;refine Wa (x1:=u32.wrap ag) aq bq ?_;intro cx br cj bx;rw [← bb] at bx;refine .ld (d:=5) (v:=(.slice ai ba.length aj)) (congrArg (fun n=>Value.slice ai n aj) (show al.length=ba.length by rw [bb,nS])) ?_;refine go ?_;replace ad:=ad.kp br;replace ac:=ac.kp br;replace aa:=aa.kp br cj;exact ⟨bp.length,by simp,⟨ao,(af+1),ai,aj,ba,bp,rfl,cb,hm,aa,ad,ac,bx,(congrArg (Value.int .i64) (Yx (aK cc ac.1.1))),rfl,rfl,rfl,rfl,rfl⟩⟩
  | cons a2 bz=>
   obtain ⟨an,ck,cl⟩:=Yu hl;have hk:(ak:Int)<(ab.length:Int):=by omega
   have hkb:=decide_eq_true hk;rw [Zde.eq_2] at hm;refine go ?_;refine Yd (congrArg Value.bool hkb)<|go ?_;refine lI an (ad.addr an)<|lW (ad.atInt an) ?_;refine go ?_;obtain ⟨a3,ar,hm⟩:=bZ hm;refine lI ar (aq.addr ar)<|lW (aq.atInt ar) ?_;refine go ?_;refine lI ar (aq.addr ar) ?_;obtain ⟨bc,bd,hm⟩:=bZ hm;have bd:bc=al.set (aA (i64.wrap ((af:Int)+(ak:Int)))) (u32.wrap (u64.wrap (ag+(u64.wrap ((u64.wrap ((u64.wrap am) * (u64.wrap a2)))+(u64.wrap a3)))))):=(Option.some.inj bd).symm;refine Wa (x1:=u32.wrap (u64.wrap (ag+(u64.wrap ((u64.wrap ((u64.wrap am) * (u64.wrap a2)))+(u64.wrap a3)))))) aq ar ?_;intro cy bs cn b0;rw [← bd] at b0;refine .ld (d:=5) (v:=(.slice ai bc.length aj)) (congrArg (fun n=>Value.slice ai n aj) (show al.length=bc.length by rw [bd,nS])) ?_;refine go ?_;refine lV (.int .u64 (Yq .u64 (u64.wrap (ag+(u64.wrap ((u64.wrap ((u64.wrap am) * (u64.wrap a2)))+(u64.wrap a3))))) 32)) (Qi (u64.wrap (ag+(u64.wrap ((u64.wrap ((u64.wrap am) * (u64.wrap a2)))+(u64.wrap a3))))) 32 rfl rfl (by decide))<|go ?_;replace ad:=ad.kp bs;exact ⟨bz.length,by simp,⟨ao,(ak+1),ai,aj,bc,(Yq .u64 (u64.wrap (ag+(u64.wrap ((u64.wrap ((u64.wrap am) * (u64.wrap a2)))+(u64.wrap a3))))) 32),bz,rfl,ck,hm,aa.kp bs cn,ad,ac.kp bs,b0,(congrArg (Value.int .i64) (Yx (aK cl ad.1.1))),rfl,rfl,rfl,rfl,rfl,rfl,rfl,rfl,rfl,rfl,rfl⟩⟩
def Zbs (N:Nat) (aa:Int):Option R2:=
  (Uv N [u32.wrap aa,u32.wrap (Yq .u64 aa 32)]).bind fun ab=>some ab
theorem Zj9 {N:Nat} {col:Zd} {w0:World} {aa:Int} {r:R2} (c1:Nat) (hm:Zbs N aa=some r):
    Calls prog 130 #[.int .u64 aa] w0 (W2 .u32 45 c1 col w0 r):=by
 refine Z6 2 (m:=10) func130 rfl rfl rfl rfl rfl ?_;rw [Zbs.eq_1] at hm;have ab:=St.start col w0;refine go ?_;refine lV (.int .u64 (Yq .u64 aa 32)) (Qi aa 32 rfl rfl (by decide))<|go ?_;refine Wj (col:=(Zf col)) [u32.wrap aa,u32.wrap (Yq .u64 aa 32)] 1 ?_;intro ak af ad ag ah;obtain ⟨al,ai,hm⟩:=bZ hm;refine Zk (Sn 2 ai (ah.toSlF (Zh.int .u32))) fun _ am ⟨aj,an,ao,e',ac,ae⟩=>⟨_,e',?_⟩;replace ae:=ae.thaw (Z3 .u32) ac ((Fz.refl (col:=ad)).froz 1);replace ac:=ac.thawR (col:=ad);generalize Xj af.heap.size ad aj=ap at *;refine go ?_;cases hm;replace ab:=(ab.grow ag).grow ac;exact ⟨rfl,_,_,_,rfl,ab.fin (cm [(2,c1)]),ab.fo ae⟩
def Zfd (N:Nat) (aa:List Int):Option R2:=
  (Uv N aa).bind fun ab=>some ab
theorem Zp5 {N ac:Nat} {a0:Option Addr} {col:Zd} {w0:World} {ab r:R2} (c1:Nat) (hm:Zfd N ab=some r) (h0:Sl rU col w0 a0 ac ab):
    Calls prog 139 #[.slice a0 ab.length ac] w0 (W2 .u32 45 c1 col w0 r):=by
 refine Z6 2 (m:=5) func139 rfl rfl rfl rfl rfl ?_;rw [Zfd.eq_1] at hm;have aa:=St.start col w0;refine go ?_;obtain ⟨ag,ad,hm⟩:=bZ hm;refine Zk (Sn 1 ad (h0.k0.ks aa)) ?_;rintro _ ah ⟨ai,aj,ak,rfl,ae,af⟩;refine ⟨_,rfl,go ?_⟩;cases hm;replace aa:=aa.grow ae;exact ⟨rfl,_,_,_,rfl,aa.fin (cm [(1,c1)]),aa.fo af⟩
theorem Zpk (N:Nat):∀ (n:Nat) (a:List Int),Zo a→a.length<n→a.length<4611686018427387904→Se N n a=some (Ze (Zb a))
 | 0,a,_,h,_=>by omega
 | n+1,a,h,f,g=>by
  rw [Se.eq_2]
  by_cases h0:0<a.length
  ·have e:(a.length:Int) - 1=((a.length - 1:Nat):Int):=by omega
   rw [if_pos (by simpa using h0),Zr (by omega),e,Zu (by omega),oB,Zbu,Zr (by omega),e]
   by_cases hx:a[a.length - 1]=0
   ·rw [if_pos (by simpa using hx),Zx (by omega),aB,Zpk N n _ (h.take _) (by rw [nK];omega) (by rw [nK];omega)]
    conv=>rhs;rw [← Zhj h0,hx,Zxi]
   ·rw [if_neg (by simpa using hx)]
    have b:=Zhj h0
    have c:=Z7k (a:=a.take (a.length - 1)) (x:=a[a.length - 1]) (by rw [b];exact h) hx
    rw [b] at c
    rw [c]
  ·have d:a=[]:=cH (by omega)
   subst d
   rw [if_neg (by simp),Zbu,if_neg (by decide),Yn,Ve]
theorem Ql {N:Nat} {a:List Int} (h:Zo a) (hn:a.length<N) (hb:a.length≤35184372088000):Uw N a=some (Ze (Zb a)):=by
 rw [Uw];exact Zpk N N a h hn (by omega)
theorem Zqi {a:List Int} (hb:a.length≤35184372088832):Zgy a=some a:=by
 rw [Zgy,Zx (by simp only [nN,maxLen];omega),bL]
theorem Qf {N:Nat} {a:List Int} (h:Zo a) (hn:a.length<N) (hb:a.length≤35184372088000):Uv N a=some (Ze (Zb a)):=by
 rw [Uv,Ql h hn hb,oB]
 have b:=Yh h
 by_cases h0:Ze (Zb a)=[]
 ·rw [h0,if_pos (by decide)]
 ·have:0<(Ze (Zb a)).length:=cB.2 h0
  rw [if_neg (by simp;exact h0),Zqi (by omega),oB]
theorem Zri {N:Nat} {a:List Int} (h:Zo a) (hn:a.length<N) (hb:a.length≤35184372088000):Zfd N a=some (Ze (Zb a)):=by
 rw [Zfd,Qf h hn hb,oB]
theorem Zl3 {N:Nat} {u:Int} (h:0≤u∧u<18446744073709551616) (hn:2<N):Zbs N u=some (Ze u.toNat):=by
 have e:Zb [u32.wrap u,u32.wrap (Yq .u64 u 32)]=u.toNat:=by
  rw [Zg6,Wq,Wq,Yn,IntKind.wrap_u32,IntKind.wrap_u32];omega
 have a:Zo [u32.wrap u,u32.wrap (Yq .u64 u 32)]:=by
  rw [Zg6,IntKind.wrap_u32,IntKind.wrap_u32]
  exact .cons (by omega) (.cons (by omega) .nil)
 rw [Zbs,Qf a (by simpa using hn) (by simp),oB,e]
theorem Zt3 (N:Nat) (a b:List Int) (ha:Zo a) (hb:Zo b) (hl:a.length=b.length) (hs:a.length<4611686018427387904):∀ (n i:Nat),i≤a.length→i<n→a.drop i=b.drop i→Zfa N a b n ((i:Int) - 1)=some (if Zb a<Zb b then -1 else if Zb b<Zb a then 1 else 0)
 | 0,i,_,h,_=>by omega
 | n+1,i,q,r,c=>by
  rw [Zfa.eq_2]
  by_cases h0:i=0
  ·subst h0
   rw [if_neg (by decide)]
   rw [aR,aR] at c
   subst c
   rw [if_neg (by omega),if_neg (by omega)]
  ·have e:(i:Int) - 1=((i - 1:Nat):Int):=by omega
   have d:i - 1<a.length:=by omega
   have f:i - 1<b.length:=by omega
   have j:i - 1+1=i:=by omega
   rw [if_pos (by simp;omega),e,Zu d,oB,Zu f,oB]
   have s:=ha.get d
   have t:=hb.get f
   have k:=Td a (i - 1)
   have l:=Td b (i - 1)
   rw [Uh d,j] at k
   rw [Uh f,j,← c] at l
   have m:=Qe (ha.take (i - 1))
   have o:=Qe (hb.take (i - 1))
   rw [nK,aS (by omega)] at m o
   have g:∀ x y:Nat,x<y→4294967296 ^ (i - 1) * (x+4294967296 * Zb (a.drop i))+4294967296 ^ (i - 1)≤4294967296 ^ (i - 1) * (y+4294967296 * Zb (a.drop i)):=fun x y p=>by
    rw [← Nat.mul_succ];exact aU _ (by omega)
   by_cases hlt:a[i - 1]<b[i - 1]
   ·have:=g _ _ (show (a[i - 1]).toNat<(b[i - 1]).toNat by omega)
    rw [if_pos (by simpa using hlt),if_pos (by omega)]
   ·rw [if_neg (by simpa using hlt)]
    by_cases hgt:b[i - 1]<a[i - 1]
    ·have:=g _ _ (show (b[i - 1]).toNat<(a[i - 1]).toNat by omega)
     rw [if_pos (by simpa using hgt),if_neg (by omega),if_pos (by omega)]
    ·rw [if_neg (by simpa using hgt),Zr (by omega)]
     have:=Zt3 N a b ha hb hl hs n (i - 1) (by omega) (by omega) (by
      rw [aL d,aL f,j,c]
      congr 1;omega)
     exact this
theorem Zwp {m n:Nat} (h:(Ze m).length<(Ze n).length):m<n:=by
 have a:=W7 (k:=(Ze m).length) (n:=m)
 have b:=W7 (k:=(Ze m).length) (n:=n)
 have:=a.1 (bB _)
 have d:¬ n<4294967296 ^ (Ze m).length:=fun c=>by have:=b.2 c;omega
 omega
theorem Zqk {N:Nat} {a b:List Int} (ha:Zo a) (hb:Zo b) (h1:a.length<N) (h2:b.length<N) (h3:a.length≤35184372088000) (h4:b.length≤35184372088000):
  Ze9 N a b=some (if Zb a<Zb b then -1 else if Zb b<Zb a then 1 else 0):=by
 have c:=Yh ha
 have d:=Yh hb
 rw [Ze9,Ql ha h1 h3,oB,Ql hb h2 h4,oB]
 by_cases he:(Ze (Zb a)).length=(Ze (Zb b)).length
 ·rw [if_neg (by simp [he]),Zr (by omega)]
  have:=Zt3 N (Ze (Zb a)) (Ze (Zb b)) (Xc _) (Xc _) he (by omega) N (Ze (Zb a)).length (bB _) (by omega) (by
   rw [aG (bB _),aG (by omega)])
  rw [this,Xd,Xd]
 ·rw [if_pos (by simp;omega)]
  by_cases hlt:(Ze (Zb a)).length<(Ze (Zb b)).length
  ·rw [if_pos (by simpa using hlt),if_pos (Zwp hlt)]
  ·have:=Zwp (m:=Zb b) (n:=Zb a) (by omega)
   rw [if_neg (by simpa using hlt),if_neg (by omega),if_pos this]
def Xy (b:List Int) (k:Nat):Nat:=(b.getD k 0).toNat
theorem Uy (b:List Int) (k:Nat):Zb (b.drop k)=Xy b k+4294967296 * Zb (b.drop (k+1)):=by
 by_cases h:k<b.length
 ·rw [Uh h,Xy,aF,aI h,dC]
 ·rw [aG (by omega),aG (by omega),Xy,aF,cY (by omega)];rfl
theorem Zer {b:List Int} (h:Zo b) (k:Nat):Xy b k<4294967296:=by
 rw [Xy,aF]
 by_cases hk:k<b.length
 ·have:=h.get hk
  rw [aI hk,dC];omega
 ·rw [cY (by omega)];decide
theorem drop_zero {l:List Int} {k:Nat} (h:Zo l) (hk:k<l.length) (h0:Zb (l.drop k)=0):l[k]=0∧Zb (l.drop (k+1))=0:=by
 have:=h.get hk
 rw [Uh hk] at h0
 omega
theorem Qp {l:List Int} {k j:Nat} (v:Int) (h:k<j):(l.set k v).drop j=l.drop j:=by
 rw [List.drop_set,if_pos h]
theorem Z2e (S S' Q c x y v c' L D:Nat) (h1:S'=S+Q * v) (h2:c+x+y=v+4294967296 * c'):S'+Q * 4294967296 * (c'+L+D)=S+Q * (c+(x+4294967296 * L)+(y+4294967296 * D)):=by
 subst h1
 have:Q * (c+x+y)=Q * (v+4294967296 * c'):=by rw [h2]
 grind
theorem Zsu (N:Nat) (a b:List Int) (ha:Zo a) (hb:Zo b) (hab:b.length≤a.length) (hN:a.length+1<N) (hs:a.length<35184372088000):∀ (l:List Int) (k:Nat) (sum:List Int) (c:Int),Zo l→a.length=k+l.length→sum.length=a.length+1→Zo sum→Zb (sum.drop k)=0→0≤c∧c≤1→
  S1 N a b l k sum c=some (Ze (Zb sum+4294967296 ^ k * (c.toNat+Zb l+Zb (b.drop k))))
 | [],k,sum,c,_,j,n,d,m,t=>by
  have o:k=a.length:=by simpa using j.symm
  subst o
  rw [S1.eq_1,Zu (by omega),oB,oB,aB,Ua (by omega),
   Qf (d.set _ (by omega)) (by rw [nS];omega) (by rw [nS];omega),oB]
  have f:=Tc (l:=sum) (k:=a.length) (by omega) c
  have u:=(drop_zero d (by omega) m).1
  rw [u] at f
  rw [Yn,aG (by omega),Yn]
  have v:Zb (sum.set a.length c)=Zb sum+4294967296 ^ a.length * c.toNat:=by simpa using f
  rw [v];rfl
 | x :: l,k,sum,c,p,j,n,d,m,t=>by
  have q:a.length=k+1+l.length:=by rw [j,nC];omega
  have A:=p.head
  have g:=drop_zero d (by omega) m
  have B:=Zer hb k
  have r:sum[k]'(by omega)=0:=g.1
  -- the sum of one place
  have step:∀ s:Int,s=c+x+(Xy b k:Int)→Zib k sum (S1 N a b l) s=some (Ze (Zb sum+4294967296 ^ k * (c.toNat+Zb (x :: l)+Zb (b.drop k)))):=fun s y=>by
   rw [Zib,Zu (by omega),oB,oB,Znx,aB,Zg6]
   have w:0≤u32.wrap s∧u32.wrap s<4294967296:=by rw [IntKind.wrap_u32];omega
   rw [Zsu N a b ha hb hab hN hs l (k+1) _ _ p.tail q (by rw [nS];exact n) (d.set _ w) (by rw [Qp _ (by omega)];exact g.2) (by omega)]
   have f:=Tc (l:=sum) (k:=k) (by omega) (u32.wrap s)
   rw [r] at f
   rw [aZ,Wq,Uy b k]
   congr 2
   exact Z2e _ _ _ _ _ _ (u32.wrap s).toNat _ _ _ (by simpa using f) (by rw [IntKind.wrap_u32];omega)
  rw [S1.eq_2]
  have i:u64.wrap (c+u64.wrap x)=c+x:=by rw [Xs (x:=x) (by omega),Xs (by omega)]
  by_cases hkb:k<b.length
  ·have e:Xy b k=(b[k]).toNat:=by rw [Xy,aF,aI hkb,dC]
   have:=hb.get hkb
   rw [if_pos (by simpa using hkb),Zu hkb,oB,i,Xs (x:=b[k]) (by omega),Xs (by omega)]
   exact step _ (by omega)
  ·have e:Xy b k=0:=by rw [Xy,aF,cY (by omega)];rfl
   rw [if_neg (by simpa using hkb),i]
   exact step _ (by omega)
theorem Zst {N:Nat} {a b:List Int} (ha:Zo a) (hb:Zo b) (hab:b.length≤a.length) (hN:a.length+1<N) (hs:a.length<35184372088000):Zia N a b=some (Ze (Zb a+Zb b)):=by
 rw [Zia,Zr (by omega),Zx (by simp only [maxLen];omega),Zsu N a b ha hb hab hN hs a 0 _ 0 ha (by omega) (by rw [aN];omega) (.zeros _) (by rw [aR];exact Tt _) (by omega),Tt,aR]
 simp
theorem Z2f {N:Nat} {a b:List Int} (ha:Zo a) (hb:Zo b) (h1:a.length+1<N) (h2:b.length+1<N) (h3:a.length<35184372088000) (h4:b.length<35184372088000):Zku N a b=some (Ze (Zb a+Zb b)):=by
 have c:=Yh ha
 have d:=Yh hb
 rw [Zku,Ql ha (by omega) (by omega),oB,Ql hb (by omega) (by omega),oB]
 by_cases h:(Ze (Zb a)).length<(Ze (Zb b)).length
 ·rw [if_pos (by simpa using h),Zst (Xc _) (Xc _) (by omega) (by omega) (by omega),Xd,Xd,kD]
 ·rw [if_neg (by simpa using h),Zst (Xc _) (Xc _) (by omega) (by omega) (by omega),Xd,Xd]
theorem Zwj (N:Nat) (a b:List Int) (ha:Zo a) (hb:Zo b) (hs:a.length<35184372088000):∀ (n k:Nat) (r:List Int) (c:Int),k≤a.length→a.length<n+k→r.length=a.length→Zo r→0≤c∧c≤1→r.drop k=a.drop k→
  4294967296 ^ k * (c.toNat+Zb (b.drop k))≤4294967296 ^ k * Zb (a.drop k)→
  ∃ r',Sd N a b n r c (k:Int)=some r'∧r'.length=a.length∧Zo r'∧Zb r'+4294967296 ^ k * (c.toNat+Zb (b.drop k))=Zb r
 | 0,k,r,c,s,u,_,_,_,_,_=>by omega
 | n+1,k,r,c,s,u,i,j,E,m,o=>by
  have v:0<4294967296 ^ k:=eW (by decide)
  have f:c.toNat+Zb (b.drop k)≤Zb (a.drop k):=Nat.le_of_mul_le_mul_left o v
  rw [Sd.eq_2]
  by_cases h0:k<a.length
  ·have F:=ha.get h0
   have g:r[k]'(by omega)=a[k]:=by
    have:(r.drop k)[0]'(by simp;omega)=(a.drop k)[0]'(by simp;omega):=by simp only [m]
    simpa using this
   have G:=Zer hb k
   rw [Uy b k,Uh h0] at f
   have step:∀ t:Int,t=c+(Xy b k:Int)→∃ r',Zig r (k:Int) (Sd N a b n) t=some r'∧r'.length=a.length∧Zo r'∧Zb r'+4294967296 ^ k * (c.toNat+Zb (b.drop k))=Zb r:=fun t H=>by
    have w:0≤u32.wrap (a[k] - u32.wrap t)∧u32.wrap (a[k] - u32.wrap t)<4294967296:=by rw [IntKind.wrap_u32];omega
    have fin:∀ d:Int,0≤d∧d≤1→a[k]+4294967296 * d=t+u32.wrap (a[k] - u32.wrap t)→∃ r',Zih r (k:Int) (Sd N a b n) t d=some r'∧r'.length=a.length∧Zo r'∧Zb r'+4294967296 ^ k * (c.toNat+Zb (b.drop k))=Zb r:=fun d p I=>by
     rw [Zih,Zu (by omega),oB,oB,Zn1,g,Zr (by omega),aB]
     obtain ⟨r',q1,y,A,B⟩:=Zwj N a b ha hb hs n (k+1) (r.set k (u32.wrap (a[k] - u32.wrap t))) d (by omega) (by omega) (by rw [nS];exact i) (j.set _ w) p (by
      rw [Qp _ (by omega)]
      have:=congrArg (List.drop 1) m
      simpa [eR,kD] using this) (aU _ (by omega))
     refine ⟨r',q1,y,A,?_⟩
     have C:=Tc (l:=r) (k:=k) (by omega) (u32.wrap (a[k] - u32.wrap t))
     rw [g] at C
     rw [Uy b k]
     rw [aZ] at B
     have q:(a[k]).toNat+4294967296 * d.toNat=c.toNat+Xy b k+(u32.wrap (a[k] - u32.wrap t)).toNat:=by omega
     have D:4294967296 ^ k * ((a[k]).toNat+4294967296 * d.toNat)=4294967296 ^ k * (c.toNat+Xy b k+(u32.wrap (a[k] - u32.wrap t)).toNat):=by rw [q]
     grind
    rw [Zig,Zu (by omega),oB,g,Xs (x:=a[k]) (by omega)]
    by_cases hlt:a[k]<t
    ·rw [if_pos (by simpa using hlt)]
     exact fin 1 (by omega) (by rw [IntKind.wrap_u32,IntKind.wrap_u32];omega)
    ·rw [if_neg (by simpa using hlt)]
     exact fin 0 (by omega) (by rw [IntKind.wrap_u32,IntKind.wrap_u32];omega)
   rw [if_pos (by simpa using h0)]
   by_cases hkb:k<b.length
   ·have e:Xy b k=(b[k]).toNat:=by rw [Xy,aF,aI hkb,dC]
    have:=hb.get hkb
    rw [if_pos (by simpa using hkb),Zu hkb,oB,Xs (x:=b[k]) (by omega),Xs (by omega)]
    exact step _ (by omega)
   ·have e:Xy b k=0:=by rw [Xy,aF,cY (by omega)];rfl
    rw [if_neg (by simpa using hkb)]
    exact step _ (by omega)
  ·rw [if_neg (by simpa using h0)]
   rw [aG (show a.length≤k by omega),Yn] at f
   exact ⟨r,rfl,i,j,by rw [show c.toNat+Zb (b.drop k)=0 by omega];simp⟩
theorem Z1q {N:Nat} {a b:List Int} (ha:Zo a) (hb:Zo b) (h1:a.length+1<N) (h2:b.length+1<N) (h3:a.length<35184372088000) (h4:b.length<35184372088000):
  Zid N a b=some (if Zb a<Zb b then ([],false) else (Ze (Zb a - Zb b),true)):=by
 have e:=Yh ha
 have f:=Yh hb
 rw [Zid,Zqk ha hb (by omega) (by omega) (by omega) (by omega),oB]
 by_cases h:Zb a<Zb b
 ·rw [if_pos h,if_pos (by decide),if_pos h]
 ·rw [if_neg h,if_neg (by split <;> decide),if_neg h,Ql ha (by omega) (by omega),oB,Zqi (by omega),oB,Ql hb (by omega) (by omega),oB,Zn0]
  obtain ⟨g,q1,i,c,d⟩:=Zwj N (Ze (Zb a)) (Ze (Zb b)) (Xc _) (Xc _) (by omega) N 0 (Ze (Zb a)) 0 (by omega) (by omega) rfl (Xc _) (by omega) rfl (by simp [Xd];omega)
  rw [show ((0:Nat):Int)=0 from rfl] at q1
  rw [q1,oB,Qf c (by omega) (by omega),oB]
  simp [Xd] at d
  congr 3
  omega
theorem Zxa (P P' Q c x y e v c' L:Nat) (h1:P'+Q * e=P+Q * v) (h2:c+(x * y+e)=v+4294967296 * c'):P'+Q * 4294967296 * (c'+x * L)=P+Q * (c+x * (y+4294967296 * L)):=by
 have:Q * (c+(x * y+e))=Q * (v+4294967296 * c'):=by rw [h2]
 grind
theorem Zw9 (b:List Int) (hb:Zo b) (i:Nat) (kk:Nat→List Int→Option R2) (x:Int) (hx:0≤x∧x<4294967296):∀ (l:List Int) (j:Nat) (p:List Int) (c:Int),Zo l→j+l.length=b.length→i+b.length<p.length→p.length<4611686018427387904→Zo p→0≤c∧c<4294967296→Zb (p.drop (i+b.length))=0→
  ∃ p',Zde b i kk x l j p c=kk (i+1) p'∧p'.length=p.length∧Zo p'∧Zb p'=Zb p+4294967296 ^ (i+j) * (c.toNat+x.toNat * Zb l)∧Zb (p'.drop (i+b.length+1))=0
 | [],j,p,c,_,g,a,n,d,k,m=>by
  have o:j=b.length:=by simpa using g
  subst o
  have f:=drop_zero d a m
  rw [Zde.eq_1,Zr (by omega),show (i:Int)+(b.length:Int)=((i+b.length:Nat):Int) by omega,Zu a,oB,oB,aB,Ua k]
  refine ⟨_,rfl,by rw [nS],d.set _ k,?_,?_⟩
  ·have q:=Tc a c
   rw [f.1] at q
   rw [Yn,dI,bO]
   simpa using q
  ·rw [Qp _ (by omega)];exact f.2
 | y :: l,j,p,c,r,g,a,n,d,k,m=>by
  have t:=r.head
  have u:j+1+l.length=b.length:=by rw [← g,nC];omega
  have e:i+j<p.length:=by omega
  have E:=d.get e
  have F:x * y≤4294967295 * 4294967295:=jQ (by omega) (by omega) (by omega) (by omega)
  have D:0≤x * y:=jR hx.1 t.1
  rw [Zde.eq_2,Zr (by omega),show (i:Int)+(j:Int)=((i+j:Nat):Int) by omega,Zu e,oB,oB,aB,Xs (x:=x) (by omega),Xs (x:=y) (by omega),Xs (x:=p[i+j]) (by omega),Xs (x:=x * y) (by omega),Xs (x:=x * y+p[i+j]) (by omega),Xs (by omega),Zg6]
  generalize hs':c+(x * y+p[i+j])=s
  have v:0≤u32.wrap s∧u32.wrap s<4294967296:=by rw [IntKind.wrap_u32];omega
  obtain ⟨p',q1,w,A,B,C⟩:=Zw9 b hb i kk x hx l (j+1) (p.set (i+j) (u32.wrap s)) (s / 4294967296) r.tail u (by rw [nS];exact a) (by rw [nS];exact n) (d.set _ v) (by omega) (by rw [Qp _ (by omega)];exact m)
  refine ⟨p',q1,by rw [w,nS],A,?_,C⟩
  rw [B,← dU i j 1,aZ,Wq]
  refine Zxa _ _ _ _ _ _ (p[i+j]).toNat (u32.wrap s).toNat _ _ (Tc e _) ?_
  rw [IntKind.wrap_u32]
  have G:((x.toNat * y.toNat:Nat):Int)=x * y:=by rw [bQ,bJ hx.1,bJ t.1]
  omega
theorem Zw8 (N:Nat) (b:List Int) (hb:Zo b):∀ (l:List Int) (i:Nat) (p:List Int),Zo l→p.length=i+l.length+b.length→p.length<N→p.length<35184372088000→Zo p→Zb (p.drop (i+b.length))=0→
  Zaw N b l i p=some (Ze (Zb p+4294967296 ^ i * (Zb l * Zb b)))
 | [],i,p,_,c,d,g,a,e=>by
  rw [Zaw.eq_1,Qf a d (by omega),oB,Yn];simp
 | x :: l,i,p,f,c,d,g,a,e=>by
  rw [nC] at c
  obtain ⟨j,q1,o,k,m,n⟩:=Zw9 b hb i (Zaw N b l) x f.head b 0 p 0 hb (by omega) (by omega) (by omega) a (by omega) e
  rw [Zaw.eq_2,q1,Zw8 N b hb l (i+1) j f.tail (by omega) (by omega) (by omega) k (by rw [show i+1+b.length=i+b.length+1 by omega];exact n),m,Wq,aZ]
  congr 2
  simp only [bO,eQ,cS]
  grind
theorem Zrf {N:Nat} {a b:List Int} (ha:Zo a) (hb:Zo b) (h1:a.length+b.length<N) (h3:a.length+b.length<35184372088000):Zbr N a b=some (Ze (Zb a * Zb b)):=by
 have c:=Yh ha
 have d:=Yh hb
 rw [Zbr,Ql ha (by omega) (by omega),oB,Ql hb (by omega) (by omega),oB,Zr (by omega),Zx (by simp only [maxLen];omega),
  Zw8 N _ (Xc _) _ 0 _ (Xc _) (by rw [aN];omega) (by rw [aN];omega) (by rw [aN];omega) (.zeros _) (by
   rw [fV];exact Tt _),Tt,Xd,Xd]
 simp
def Zfg (N:Nat) (aa:Int):Nat→R2→Int→Int→Option Ra
  | 0,_,_,_=>none
  | af+1,ac,ad,ab=>if (decide (0≤ab))=true then ((Zi ac ab).bind fun ae=>Zt ((u64.wrap aa)≠0) ((some (ac.set (aA ab) (u32.wrap (u64.wrap (aV (Wi .u64 (X6 .u64 ad 32) (u64.wrap ae)) (u64.wrap aa)))))).bind fun ag=>Zt ((u64.wrap aa)≠0) ((Zfg N aa af) ag (bI (Wi .u64 (X6 .u64 ad 32) (u64.wrap ae)) (u64.wrap aa)) (i64.wrap (ab - 1))))) else (some (u32.wrap ad,ac))
def Zk1 (N:Nat) (aa:List Int) (ab:Int):Option Ra:=
  Zfg N ab N aa 0 (i64.wrap ((aa.length:Int) - 1))
theorem Z3k {N ad:Nat} {a0:Option Addr} {col:Zd} {w0:World} {ae:R2} {ab:Int} {r:Ra} (qc0:Nat) (hm:Zk1 N ae ab=some r) (hd:Tm [qc0]=true) (h0:Zc rU 45 qc0 col w0 a0 ad ae):
    Calls prog 188 #[.slice a0 ae.length ad,.int .u32 ab] w0 (fun e w'=>∃ col',e= .returned ((.int .u32 r.1))∧Z5 (pS [qc0]) col w0 col' w'∧Zc rU 45 qc0 col' w' a0 ad r.2∧r.2.length=ae.length):=by
 refine Z6 4 (m:=36) func188 rfl rfl rfl rfl rfl ?_;rw [Zk1.eq_1] at hm;have af:=St.startL (l:=[qc0]) rfl col w0;refine go ?_;refine Zs [1,1000000] (fun n f an=>∃ ao ac aa am ag,ag=n∧Zfg N ab ag ac aa am=some r∧St w0 (Xp [qc0] col) ao an∧Zc rU 45 440 ao an a0 ad ac∧ac.length=ae.length∧ac.length=ae.length∧[0,5,6].map f=[.slice a0 ac.length ad,.int .u64 aa,.int .i64 am]) N ⟨_,_,0,_,_,rfl,hm,af,h0.startL (Sr hd 0 rfl) (Sq hd 0 rfl),rfl,rfl,rfl⟩ ?_;clear hm;intro n f an hI;obtain ⟨ao,ac,aa,am,ag,hn,hm,af,aj,ar,au,hs⟩:=hI;subst hn;refine .lL [0,5,6] hs ?_
 cases ag with
 | zero=>rw [Zfg.eq_1] at hm;cases hm
 | succ ag=>
  rw [Zfg.eq_2] at hm;refine go ?_;refine Zm hm (fun hb hm=>go ?_) fun hb hm=>go ?_
  ·refine lV (.int .u64 (X6 .u64 aa 32)) (Zg5 aa 32 rfl rfl (by decide))<|go ?_;obtain ⟨ah,ai,hm⟩:=bZ hm;refine lI ai (aj.addr ai)<|lW (aj.atInt ai) ?_;refine go ?_;obtain ⟨av,hm⟩:=Zv hm;refine lV (.int .u64 (u64.wrap (aV (Wi .u64 (X6 .u64 aa 32) (u64.wrap ah)) (u64.wrap ab)))) (V3 (Wi .u64 (X6 .u64 aa 32) (u64.wrap ah)) (u64.wrap ab) rfl rfl av)<|go ?_;refine lI ai (aj.addr ai) ?_;obtain ⟨ak,al,hm⟩:=bZ hm;have al:ak=ac.set (aA am) (u32.wrap (u64.wrap (aV (Wi .u64 (X6 .u64 aa 32) (u64.wrap ah)) (u64.wrap ab)))):=(Option.some.inj al).symm;refine Wa (x1:=u32.wrap (u64.wrap (aV (Wi .u64 (X6 .u64 aa 32) (u64.wrap ah)) (u64.wrap ab)))) aj ai ?_;intro az aw ax ap;rw [← al] at ap;have aq:ak.length=ae.length:=(show ac.length=ak.length by rw [al,nS]).symm.trans ar;refine .ld (d:=0) (v:=(.slice a0 ak.length ad)) (congrArg (fun n=>Value.slice a0 n ad) (show ac.length=ak.length by rw [al,nS])) ?_;refine go ?_;obtain ⟨ay,hm⟩:=Zv hm;refine lV (.int .u64 (bI (Wi .u64 (X6 .u64 aa 32) (u64.wrap ah)) (u64.wrap ab))) (Qh (Wi .u64 (X6 .u64 aa 32) (u64.wrap ah)) (u64.wrap ab) rfl rfl ay)<|go ?_;replace af:=af.kp aw ax;exact ⟨ag,by omega,rfl,⟨_,_,_,_,_,rfl,hm,af,ap,aq,aq,rfl⟩⟩
  cases hm;exact ⟨rfl,_,rfl,af.finL rfl (cm [(440,qc0)]),af.foL aj,au⟩
def Ze3 (aa ab:Int):Option Int:=
  (Zmw (⟨#[0,1,2,2,3,3,3,3,4,4,4,4,4,4,4,4,5,5,5,5,5,5,5,5,5,5,5,5,5,5,5,5,6,6,6,6,6,6,6,6,6,6,6,6,6,6,6,6,6,6,6,6,6,6,6,6,6,6,6,6,6,6,6,6,7,7,7,7,7,7,7,7,7,7,7,7,7,7,7,7,7,7,7,7,7,7,7,7,7,7,7,7,7,7,7,7,7,7,7,7,7,7,7,7,7,7,7,7,7,7,7,7,7,7,7,7,7,7,7,7,7,7,7,7,7,7,7,7,8,8,8,8,8,8,8,8,8,8,8,8,8,8,8,8,8,8,8,8,8,8,8,8,8,8,8,8,8,8,8,8,8,8,8,8,8,8,8,8,8,8,8,8,8,8,8,8,8,8,8,8,8,8,8,8,8,8,8,8,8,8,8,8,8,8,8,8,8,8,8,8,8,8,8,8,8,8,8,8,8,8,8,8,8,8,8,8,8,8,8,8,8,8,8,8,8,8,8,8,8,8,8,8,8,8,8,8,8,8,8,8,8,8,8,8,8,8,8,8,8,8,8,8,8,8,8,8]⟩) (u8.wrap aa)).bind fun ac=>some (i64.wrap (ab+(i64.wrap ac)))
def Zh1 (aa ab:Int):Option Int:=
  if (decide (256≤aa))=true then (Ze3 (Yq .u32 aa 8) (i64.wrap (ab+8))) else (Ze3 aa ab)
def Zh0 (aa:Int):Option Int:=
  if (decide (65536≤aa))=true then (Zh1 (Yq .u32 aa 16) 16) else (Zh1 aa 0)
theorem Zs4 {col:Zd} {w0:World} {ac r:Int} (hm:Zh0 ac=some r):
    Calls prog 185 #[.int .u32 ac] w0 (W5 w0 r):=by
 refine Z6 2 (m:=19) func185 rfl rfl rfl rfl rfl ?_;rw [Zh0.eq_1] at hm;have aa:=St.start col w0;refine Z0<|Wy<|Y4 rfl<|Zl<|Z0 ?_;refine Wp.cutK [1000000] (fun f ag=>∃ ah ab ad,Zh1 ab ad=some r∧St w0 (Zf col) ah ag∧[0,2].map f=[.int .u32 ab,.int .i64 ad]) ?_ ?_
 ·intro f ag hJ;obtain ⟨ah,ab,ad,hm,aa,hs⟩:=hJ;rw [Zh1.eq_1] at hm;refine .lL [0,2] hs<|Z0 ?_;refine Wp.cutK [1000000] (fun f ai=>∃ aj ae af,Ze3 ae af=some r∧St w0 (Zf col) aj ai∧[0,2].map f=[.int .u32 ae,.int .i64 af]) ?_ ?_
  ·intro f ai hJ;obtain ⟨aj,ae,af,hm,aa,hs⟩:=hJ;rw [Ze3.eq_1] at hm;refine .lL [0,2] hs<|go ?_;obtain ⟨ak,al,hm⟩:=bZ hm;refine lV (.int .u8 ak) (Z8v (s:=(⟨#[0,1,2,2,3,3,3,3,4,4,4,4,4,4,4,4,5,5,5,5,5,5,5,5,5,5,5,5,5,5,5,5,6,6,6,6,6,6,6,6,6,6,6,6,6,6,6,6,6,6,6,6,6,6,6,6,6,6,6,6,6,6,6,6,7,7,7,7,7,7,7,7,7,7,7,7,7,7,7,7,7,7,7,7,7,7,7,7,7,7,7,7,7,7,7,7,7,7,7,7,7,7,7,7,7,7,7,7,7,7,7,7,7,7,7,7,7,7,7,7,7,7,7,7,7,7,7,7,8,8,8,8,8,8,8,8,8,8,8,8,8,8,8,8,8,8,8,8,8,8,8,8,8,8,8,8,8,8,8,8,8,8,8,8,8,8,8,8,8,8,8,8,8,8,8,8,8,8,8,8,8,8,8,8,8,8,8,8,8,8,8,8,8,8,8,8,8,8,8,8,8,8,8,8,8,8,8,8,8,8,8,8,8,8,8,8,8,8,8,8,8,8,8,8,8,8,8,8,8,8,8,8,8,8,8,8,8,8,8,8,8,8,8,8,8,8,8,8,8,8,8,8,8,8,8,8]⟩)) underlying9 rfl rfl al)<|go ?_;cases hm;exact ⟨rfl,rfl,aa.below⟩
  refine go ?_;refine Zm hm (fun hb hm=>go ?_) fun hb hm=>?_
  ·refine lV (.int .u32 (Yq .u32 ab 8)) (Qi ab 8 rfl rfl (by decide))<|go ?_;exact ⟨rfl,_,_,_,hm,aa,rfl⟩
  refine Yj ?_;exact ⟨rfl,_,_,_,hm,aa,rfl⟩
 refine go ?_;refine Zm hm (fun hb hm=>go ?_) fun hb hm=>?_
 ·refine lV (.int .u32 (Yq .u32 ac 16)) (Qi ac 16 rfl rfl (by decide))<|go ?_;exact ⟨rfl,_,_,16,hm,aa,rfl⟩
 refine Yj ?_;exact ⟨rfl,_,_,0,hm,aa,rfl⟩
def Zkr (aa:Int):Option Int:=
  (Zh0 aa).bind fun ab=>some (i64.wrap (32 - ab))
theorem Z27 {col:Zd} {w0:World} {ac r:Int} (hm:Zkr ac=some r):
    Calls prog 189 #[.int .u32 ac] w0 (W5 w0 r):=by
 refine Z6 2 (m:=6) func189 rfl rfl rfl rfl rfl ?_;rw [Zkr.eq_1] at hm;have aa:=St.start col w0;refine go ?_;obtain ⟨af,ad,hm⟩:=bZ hm;refine Zk (Zs4 (col:=(Zf col)) ad) fun _ ae ⟨e',ab⟩=>⟨_,e',?_⟩;replace ab:Zn (Zf col) w0 (Zf col) ae:=.of_below ab;refine go ?_;cases hm;exact ⟨rfl,rfl,(aa.grow ab).below⟩
def Zdg (ab:Int):List Int→Nat→R2→Option R2
  | [],aa,ac=>some ac
  | ad :: af,aa,ac=>(Zi ac (aa:Int)).bind fun ag=>Zt (0≤ab) ((some (ac.set (aA (aa:Int)) (Wi .u32 ag (X6 .u32 ad ab)))).bind fun ae=>Zt (0≤ab) ((Zi ae (i64.wrap ((aa:Int)+1))).bind fun ai=>(some (ae.set (aA (i64.wrap ((aa:Int)+1))) (u32.wrap (Yq .u64 (X6 .u64 (u64.wrap ad) ab) 32)))).bind fun ah=>(Zdg ab af) (aa+1) ah))
def Zif (aa:List Int) (ab:Int):Option R2:=
  Zt ((aA (i64.wrap ((aa.length:Int)+1))) * 4≤281474976710656∧(aA (i64.wrap ((aa.length:Int)+1)))≤maxLen∧0≤(i64.wrap ((aa.length:Int)+1))) (Zdg ab aa 0 (aC (aA (i64.wrap ((aa.length:Int)+1))) (0:Int)))
theorem Zs9 {ay:Nat} {a0:Option Addr} {col:Zd} {w0:World} {ad:R2} {aa:Int} {r:R2} (c1:Nat) (hm:Zif ad aa=some r) (h0:Sl rU col w0 a0 ay ad):
    Calls prog 190 #[.slice a0 ad.length ay,.int .i64 aa] w0 (W2 .u32 45 c1 col w0 r):=by
 refine Z6 4 (m:=40) func190 rfl rfl rfl rfl rfl ?_;rw [Zif.eq_1] at hm;have ab:=St.start col w0;refine go ?_;obtain ⟨ao,hm⟩:=Zv hm;refine Sv (col:=(Zf col)) (w:=w0) (r:=rU) (n:=(aA (i64.wrap ((ad.length:Int)+1)))) (x0:=0) 1 rfl underlying38 Tryz.t45 rfl rfl rfl rfl rfl (congrArg (Value.int _) (bJ ao.2.2).symm) (congrArg (Value.int _) (bJ ao.2.2).symm) ao.1 ao.2.1 (Vn .u32 0) ?_;intro bc bd be a1 a2;refine go ?_;replace ab:=ab.grow a1;refine Zs [1,12,13,1000000] (fun n f au=>∃ ae af ah ai ak al,n=al.length∧ad.drop af=al∧Zdg aa al af ak=some r∧St w0 (Zf col) ae au∧Zc rU 45 1 ae au ah ai ak∧[14,5].map f=[.int .i64 af,.slice ah ak.length ai]) ad.length ⟨_,0,_,_,_,_,rfl,rfl,hm,ab,a2,rfl⟩ ?_;clear hm;intro n f au hI;obtain ⟨ae,af,ah,ai,ak,al,hn,hl,hm,ab,aj,hs⟩:=hI;subst hn;refine .lL [14,5] hs ?_;replace h0:=h0.k0
 cases al with
 | nil=>
  have hk:¬ ((af:Int)<(ad.length:Int)):=by have:=aM.1 hl;omega
  have hkb:=decide_eq_false hk;rw [Zdg.eq_1] at hm;refine go ?_;refine Yc (congrArg Value.bool hkb)<|go ?_;cases hm;exact ⟨rfl,_,_,_,rfl,ab.fin (cm [(1,c1)]),ab.fo aj⟩
 | cons ac a3=>
  obtain ⟨av,a4,a5⟩:=Yu hl;have hk:(af:Int)<(ad.length:Int):=by omega
  have hkb:=decide_eq_true hk;rw [Zdg.eq_2] at hm;refine go ?_;refine Yd (congrArg Value.bool hkb)<|go ?_;refine lI av ((h0.ks ab).addr av)<|lW ((h0.ks ab).atInt av) ?_;refine go ?_;refine Wc (col:=ae) [(0,1),(1,1),(2,1),(3,0),(4,1),(5,1),(6,1),(7,1),(8,1),(9,2)] (by kernel_rfl) (by kernel_rfl)<|xu rfl rfl (fun _=>Va rfl) ?_;refine xu rfl rfl (fun _=>Yz rfl) ?_;obtain ⟨ap,ag,hm⟩:=bZ hm;refine xu rfl rfl (fun _=>Yv underlying38 sizeOf45 rfl rfl (Xe ag).1 (Xe ag).2.1 (aj.addr ag)) ?_;refine xW (fun _ hC=>(aj.gr (hC.bl ae)).atInt ag) ?_;refine xu rfl rfl (fun _=>Yz rfl) ?_;refine xu rfl rfl (fun _=>Yz rfl) ?_;obtain ⟨a6,hm⟩:=Zv hm;refine xu (v:=(.int .u32 (X6 .u32 ac aa))) rfl rfl (fun _=>Zg5 ac aa rfl rfl a6) ?_;refine xu (v:=(.int .u32 (Wi .u32 ap (X6 .u32 ac aa)))) rfl rfl (fun _=>Zry ap (X6 .u32 ac aa) rfl rfl) ?_;refine xu rfl rfl (fun _=>Yv underlying38 sizeOf45 rfl rfl (Xe ag).1 (Xe ag).2.1 (aj.addr ag)) ?_;refine xe rfl rfl ?_;intro bf hC0;have hC:=hC0.bl ae;obtain ⟨am,aq,hm⟩:=bZ hm;have aq:am=ak.set (aA (af:Int)) (Wi .u32 ap (X6 .u32 ac aa)):=(Option.some.inj aq).symm;refine Wa (x1:=Wi .u32 ap (X6 .u32 ac aa)) (aj.gr hC) ag ?_;intro bg a7 a8 an;rw [← aq] at an;refine .ld (d:=5) (v:=(.slice ah am.length ai)) (congrArg (fun n=>Value.slice ah n ai) (show ak.length=am.length by rw [aq,nS])) ?_;refine Zl<|xk ae<|Y0 ?_;replace ab:=(ab.grow hC).kp a7 a8;intro bh hC;replace hC:=hC.bl ae;refine go ?_;obtain ⟨a9,hm⟩:=Zv hm;refine lV (.int .u64 (X6 .u64 (u64.wrap ac) aa)) (Zg5 (u64.wrap ac) aa rfl rfl a9)<|lV (.int .u64 (Yq .u64 (X6 .u64 (u64.wrap ac) aa) 32)) (Qi (X6 .u64 (u64.wrap ac) aa) 32 rfl rfl (by decide))<|go ?_;obtain ⟨bi,aw,hm⟩:=bZ hm;replace an:=an.gr hC;refine lI aw (an.addr aw) ?_;obtain ⟨ax,ar,hm⟩:=bZ hm;have ar:ax=am.set (aA (i64.wrap ((af:Int)+1))) (u32.wrap (Yq .u64 (X6 .u64 (u64.wrap ac) aa) 32)):=(Option.some.inj ar).symm;refine Wa (x1:=u32.wrap (Yq .u64 (X6 .u64 (u64.wrap ac) aa) 32)) an aw ?_;intro bj ba bb az;rw [← ar] at az;refine .ld (d:=5) (v:=(.slice ah ax.length ai)) (congrArg (fun n=>Value.slice ah n ai) (show am.length=ax.length by rw [ar,nS])) ?_;refine go ?_;replace ab:=(ab.grow hC).kp ba bb
  exact ⟨a3.length,by simp,rfl,⟨_,_,_,_,_,_,rfl,a4,hm,ab,az,(Y2 (congrArg (Value.int .i64) (Yx (aK a5 (h0.ks ab).1.1))) rfl)⟩⟩
def Zk2 (aa:List Int) (kk_L1:(List Int→Option R2)) (ab:Bool):Option R2:=
  if ab=true then (Zt ((0:Int)≤(i64.wrap ((aa.length:Int) - 1))∧(i64.wrap ((aa.length:Int) - 1))≤(aa.length:Int)) (kk_L1 (aa.take (aA (i64.wrap ((aa.length:Int) - 1)))))) else (some aa)
def Zbv (N:Nat):Nat→R2→Option R2
  | 0,_=>none
  | ab+1,aa=>if (decide (0<(aa.length:Int)))=true then ((Zi aa (i64.wrap ((aa.length:Int) - 1))).bind fun ac=>Zk2 aa (Zbv N ab) (decide (ac=0))) else (Zk2 aa (Zbv N ab) false)
def Zfh (N:Nat) (aa:List Int):Option R2:=
  Zbv N N aa
theorem Zta {N ap:Nat} {a0:Option Addr} {col:Zd} {w0:World} {ag r:R2} (qc0:Nat) (hm:Zfh N ag=some r) (hd:Tm [qc0]=true) (h0:Zc rU 45 qc0 col w0 a0 ap ag):
    Calls prog 159 #[.slice a0 ag.length ap] w0 (fun e w'=>∃ col' ra1 rc2,e= .returned ((.slice ra1 r.length rc2))∧Z5 (pS [qc0]) col w0 col' w'∧Zc rU 45 qc0 col' w' ra1 rc2 r):=by
 refine Z6 2 (m:=21) func159 rfl rfl rfl rfl rfl ?_;rw [Zfh.eq_1] at hm;have ab:=St.startL (l:=[qc0]) rfl col w0;refine go ?_;refine Zs [1000000] (fun n f ah=>∃ ai ad ae aa af,af=n∧Zbv N af aa=some r∧St w0 (Xp [qc0] col) ai ah∧Zc rU 45 440 ai ah ad ae aa∧[0].map f=[.slice ad aa.length ae]) N ⟨_,_,_,_,_,rfl,hm,ab,h0.startL (Sr hd 0 rfl) (Sq hd 0 rfl),rfl⟩ ?_;clear hm;intro n f ah hI;obtain ⟨ai,ad,ae,aa,af,hn,hm,ab,ac,hs⟩:=hI;subst hn;refine .lL [0] hs ?_
 cases af with
 | zero=>rw [Zbv.eq_1] at hm;cases hm
 | succ af=>
  rw [Zbv.eq_2] at hm;refine Z0<|Z0 ?_;refine Wp.cutK [0,1000000] (fun f aj=>∃ ak al,Zk2 aa (Zbv N af) al=some r∧St w0 (Xp [qc0] col) ak aj∧Zc rU 45 440 ak aj ad ae aa∧[14].map f=[.bool al]) ?_ ?_
  ·intro f aj hJ;obtain ⟨ak,al,hm,ab,ac,hs⟩:=hJ;rw [Zk2.eq_1] at hm;refine .lL [14] hs ?_;refine Zm hm (fun hb hm=>go ?_) fun hb hm=>go ?_
   ·obtain ⟨am,hm⟩:=Zv hm;refine lv (v:=.slice ad (aA (i64.wrap ((aa.length:Int) - 1))) ae) rfl rfl (Vt underlying38 sizeOf45 rfl rfl am.1 (by have:=ac.lecap;have:=am.2;omega))<|.ld (d:=19) (v:=(.slice ad ((aa.take (aA (i64.wrap ((aa.length:Int) - 1)))).length) ae)) (congrArg (fun n=>Value.slice ad n ae) (bE (show (aA (i64.wrap ((aa.length:Int) - 1)))≤aa.length by have:=am.2;omega)).symm) ?_;refine go ?_;exact ⟨af,by omega,rfl,⟨_,_,_,_,_,rfl,hm,ab,(ac.take (aA (i64.wrap ((aa.length:Int) - 1)))),rfl⟩⟩
   cases hm;exact ⟨rfl,_,_,_,rfl,ab.finL rfl (cm [(440,qc0)]),ab.foL ac⟩
  refine go ?_;refine Xn hm (fun an hm=>go ?_) fun an hm=>go ?_
  ·obtain ⟨aq,ao,hm⟩:=bZ hm;refine lI ao (ac.addr ao) ?_;refine go ?_;refine lW (ac.atInt ao)<|go ?_;refine lV (.bool (decide (aq=0))) (Zw (congrArg Value.bool an) rfl)<|Zl ?_;exact ⟨rfl,_,_,hm,ab,ac,rfl⟩
  refine lV (.bool false) (Xk (congrArg Value.bool an) rfl)<|Zl ?_;exact ⟨rfl,_,_,hm,ab,ac,rfl⟩
def Zky (aa:Int) (ab:List Int):Option Ra:=
  some (u32.wrap aa,ab)
def Zdf (j0 n0:Nat) (ab:List Int) (ae:Int):List Int→Nat→R2→Int→Option Ra
  | [],aa,ac,ad=>Zt (0≤(ab.length:Int)∧(ab.length:Int)<(n0:Int)) ((Zi ac ((j0:Int)+(ab.length:Int))).bind fun ah=>Zt (0≤(ab.length:Int)∧(ab.length:Int)<(n0:Int)) ((Zi ac ((j0:Int)+(ab.length:Int))).bind fun al=>(some (ac.set (aA ((j0:Int)+(ab.length:Int))) (u32.wrap (ah+(u32.wrap ad))))).bind fun ai=>Zky (u64.wrap ((u64.wrap (ae - 1)) - 1)) ai))
  | af :: aj,aa,ac,ad=>Zt (0≤(aa:Int)∧(aa:Int)<(n0:Int)) ((Zi ac ((j0:Int)+(aa:Int))).bind fun ag=>Zt (0≤(aa:Int)∧(aa:Int)<(n0:Int)) ((Zi ac ((j0:Int)+(aa:Int))).bind fun am=>(some (ac.set (aA ((j0:Int)+(aa:Int))) (u32.wrap (u64.wrap (ad+(u64.wrap ((u64.wrap ag)+(u64.wrap af)))))))).bind fun ak=>(Zdf j0 n0 ab ae aj) (aa+1) ak (Yq .u64 (u64.wrap (ad+(u64.wrap ((u64.wrap ag)+(u64.wrap af))))) 32)))
def Znz (aa:Nat) (kk_L2:(Nat→R2→Int→Int→Option Ra)) (ab:List Int) (ac ad:Int):Option Ra:=
  kk_L2 (aa+1) ab ac ad
def Zkz (j0 n0:Nat) (ac:Int) (ab:List Int) (af:Int) (aa:Nat) (ad:Int) (kk_L2:(Nat→R2→Int→Int→Option Ra)) (ae ag:Int):Option Ra:=
  Zt (0≤(aa:Int)∧(aa:Int)<(n0:Int)) ((Zi ab ((j0:Int)+(aa:Int))).bind fun ah=>Zt (0≤(aa:Int)∧(aa:Int)<(n0:Int)) ((Zi ab ((j0:Int)+(aa:Int))).bind fun aj=>(some (ab.set (aA ((j0:Int)+(aa:Int))) (u32.wrap (ah - (u32.wrap (u64.wrap ((To .u64 (u64.wrap (ad+(u64.wrap ((u64.wrap (ac - 1)) * (u64.wrap ae))))) 4294967295)+af))))))).bind fun ai=>Znz aa kk_L2 ai ag (Yq .u64 (u64.wrap (ad+(u64.wrap ((u64.wrap (ac - 1)) * (u64.wrap ae))))) 32)))
def Q3 (j0 n0:Nat) (aa:List Int) (ac:Int):List Int→Nat→R2→Int→Int→Option Ra
  | [],ad,ab,ae,af=>Zt (0≤(aa.length:Int)∧(aa.length:Int)<(n0:Int)) ((Zi ab ((j0:Int)+(aa.length:Int))).bind fun aj=>Zt (0≤(aa.length:Int)∧(aa.length:Int)<(n0:Int)) ((Zi ab ((j0:Int)+(aa.length:Int))).bind fun ak=>Zt (0≤(aa.length:Int)∧(aa.length:Int)<(n0:Int)) ((Zi ab ((j0:Int)+(aa.length:Int))).bind fun am=>(some (ab.set (aA ((j0:Int)+(aa.length:Int))) (u32.wrap (ak - (u32.wrap (u64.wrap (af+ae))))))).bind fun ah=>if (decide ((u64.wrap aj)<(u64.wrap (af+ae))))=true then (Zdf j0 n0 aa ac aa 0 ah 0) else (Zky (u64.wrap (ac - 1)) ah))))
  | ag :: ai,ad,ab,ae,af=>Zt (0≤(ad:Int)∧(ad:Int)<(n0:Int)) ((Zi ab ((j0:Int)+(ad:Int))).bind fun al=>if (decide ((u64.wrap al)<(u64.wrap ((To .u64 (u64.wrap (af+(u64.wrap ((u64.wrap (ac - 1)) * (u64.wrap ag))))) 4294967295)+ae))))=true then (Zkz j0 n0 ac ab ae ad af (Q3 j0 n0 aa ac ai) ag 1) else (Zkz j0 n0 ac ab ae ad af (Q3 j0 n0 aa ac ai) ag 0))
def Zkx (j0 n0:Nat) (ae aa:List Int) (ab ac:Int) (kk_L1:(Int→Int→Option Ra)):Option Ra:=
  (Zi aa (i64.wrap ((aa.length:Int) - 1))).bind fun ad=>if (decide (4294967295<(u64.wrap (ac+(u64.wrap ad)))))=true then (Q3 j0 n0 aa ab aa 0 ae 0 0) else (kk_L1 (u64.wrap (ab - 1)) (u64.wrap (ac+(u64.wrap ad))))
def Zbt (aa:Int) (ab:List Int):Option Ra:=
  some (u32.wrap aa,ab)
def Sc (j0 n0:Nat) (ab:List Int) (ae:Int):List Int→Nat→R2→Int→Option Ra
  | [],aa,ac,ad=>Zt (0≤(ab.length:Int)∧(ab.length:Int)<(n0:Int)) ((Zi ac ((j0:Int)+(ab.length:Int))).bind fun ah=>Zt (0≤(ab.length:Int)∧(ab.length:Int)<(n0:Int)) ((Zi ac ((j0:Int)+(ab.length:Int))).bind fun al=>(some (ac.set (aA ((j0:Int)+(ab.length:Int))) (u32.wrap (ah+(u32.wrap ad))))).bind fun ai=>Zbt (u64.wrap (ae - 1)) ai))
  | af :: aj,aa,ac,ad=>Zt (0≤(aa:Int)∧(aa:Int)<(n0:Int)) ((Zi ac ((j0:Int)+(aa:Int))).bind fun ag=>Zt (0≤(aa:Int)∧(aa:Int)<(n0:Int)) ((Zi ac ((j0:Int)+(aa:Int))).bind fun am=>(some (ac.set (aA ((j0:Int)+(aa:Int))) (u32.wrap (u64.wrap (ad+(u64.wrap ((u64.wrap ag)+(u64.wrap af)))))))).bind fun ak=>(Sc j0 n0 ab ae aj) (aa+1) ak (Yq .u64 (u64.wrap (ad+(u64.wrap ((u64.wrap ag)+(u64.wrap af))))) 32)))
def Zk0 (aa:Nat) (kk_L4:(Nat→R2→Int→Int→Option Ra)) (ab:List Int) (ac ad:Int):Option Ra:=
  kk_L4 (aa+1) ab ac ad
def Zff (j0 n0:Nat) (ac:Int) (ab:List Int) (af:Int) (aa:Nat) (ad:Int) (kk_L4:(Nat→R2→Int→Int→Option Ra)) (ae ag:Int):Option Ra:=
  Zt (0≤(aa:Int)∧(aa:Int)<(n0:Int)) ((Zi ab ((j0:Int)+(aa:Int))).bind fun ah=>Zt (0≤(aa:Int)∧(aa:Int)<(n0:Int)) ((Zi ab ((j0:Int)+(aa:Int))).bind fun aj=>(some (ab.set (aA ((j0:Int)+(aa:Int))) (u32.wrap (ah - (u32.wrap (u64.wrap ((To .u64 (u64.wrap (ad+(u64.wrap (ac * (u64.wrap ae))))) 4294967295)+af))))))).bind fun ai=>Zk0 aa kk_L4 ai ag (Yq .u64 (u64.wrap (ad+(u64.wrap (ac * (u64.wrap ae))))) 32)))
def Uf (j0 n0:Nat) (aa:List Int) (ac:Int):List Int→Nat→R2→Int→Int→Option Ra
  | [],ad,ab,ae,af=>Zt (0≤(aa.length:Int)∧(aa.length:Int)<(n0:Int)) ((Zi ab ((j0:Int)+(aa.length:Int))).bind fun aj=>Zt (0≤(aa.length:Int)∧(aa.length:Int)<(n0:Int)) ((Zi ab ((j0:Int)+(aa.length:Int))).bind fun ak=>Zt (0≤(aa.length:Int)∧(aa.length:Int)<(n0:Int)) ((Zi ab ((j0:Int)+(aa.length:Int))).bind fun am=>(some (ab.set (aA ((j0:Int)+(aa.length:Int))) (u32.wrap (ak - (u32.wrap (u64.wrap (af+ae))))))).bind fun ah=>if (decide ((u64.wrap aj)<(u64.wrap (af+ae))))=true then (Sc j0 n0 aa ac aa 0 ah 0) else (Zbt ac ah))))
  | ag :: ai,ad,ab,ae,af=>Zt (0≤(ad:Int)∧(ad:Int)<(n0:Int)) ((Zi ab ((j0:Int)+(ad:Int))).bind fun al=>if (decide ((u64.wrap al)<(u64.wrap ((To .u64 (u64.wrap (af+(u64.wrap (ac * (u64.wrap ag))))) 4294967295)+ae))))=true then (Zff j0 n0 ac ab ae ad af (Uf j0 n0 aa ac ai) ag 1) else (Zff j0 n0 ac ab ae ad af (Uf j0 n0 aa ac ai) ag 0))
def Zfe (j0 n0:Nat) (ab aa:List Int) (ac ad:Int) (kk_L1:(Int→Int→Option Ra)) (ae:Bool):Option Ra:=
  if ae=true then (Zkx j0 n0 ab aa ac ad kk_L1) else (Uf j0 n0 aa ac aa 0 ab 0 0)
def S4 (N j0 n0:Nat) (ab aa:List Int):Nat→Int→Int→Option Ra
  | 0,_,_=>none
  | ae+1,ac,ad=>if (decide (4294967295<ac))=true then (Zfe j0 n0 ab aa ac ad (S4 N j0 n0 ab aa ae) true) else (if (decide (ad≤4294967295))=true then ((Zi aa (i64.wrap ((aa.length:Int) - 2))).bind fun af=>Zt (0≤(i64.wrap ((aa.length:Int) - 2))∧(i64.wrap ((aa.length:Int) - 2))<(n0:Int)) ((Zi ab ((j0:Int)+(i64.wrap ((aa.length:Int) - 2)))).bind fun ag=>Zfe j0 n0 ab aa ac ad (S4 N j0 n0 ab aa ae) (decide ((Wi .u64 (X6 .u64 ad 32) (u64.wrap ag))<(u64.wrap (ac * (u64.wrap af))))))) else (Zfe j0 n0 ab aa ac ad (S4 N j0 n0 ab aa ae) false))
def Zie (N j0 n0:Nat) (ac aa:List Int):Option Ra:=
  Zt (0≤(aa.length:Int)∧(aa.length:Int)<(n0:Int)) ((Zi ac ((j0:Int)+(aa.length:Int))).bind fun ad=>Zt (0≤(i64.wrap ((aa.length:Int) - 1))∧(i64.wrap ((aa.length:Int) - 1))<(n0:Int)) ((Zi ac ((j0:Int)+(i64.wrap ((aa.length:Int) - 1)))).bind fun ae=>(Zi aa (i64.wrap ((aa.length:Int) - 1))).bind fun ab=>Zt ((u64.wrap ab)≠0) (Zt ((u64.wrap ab)≠0) (S4 N j0 n0 ac aa N (u64.wrap (aV (Wi .u64 (X6 .u64 (u64.wrap ad) 32) (u64.wrap ae)) (u64.wrap ab))) (bI (Wi .u64 (X6 .u64 (u64.wrap ad) 32) (u64.wrap ae)) (u64.wrap ab))))))
theorem Z3i {N ae j0 n0 cp0 de:Nat} {a0 a1:Option Addr} {col:Zd} {w0:World} {ac ab:R2} {r:Ra} (qc0:Nat) (hm:Zie N j0 n0 ac ab=some r) (hd:Tm [qc0]=true) (h0:Zc rU 45 qc0 col w0 a0 ae ac) (h1:Sl rU col w0 a1 de ab):
    Calls prog 191 #[.slice (a0.map (·.add (j0 * 1))) n0 cp0,.slice a1 ab.length de] w0 (fun e w'=>∃ col',e= .returned ((.int .u32 r.1))∧Z5 (pS [qc0]) col w0 col' w'∧Zc rU 45 qc0 col' w' a0 ae r.2∧r.2.length=ac.length):=by
 refine Z6 4 (m:=178) func191 rfl rfl rfl rfl rfl ?_;rw [Zie.eq_1] at hm;have aa:=St.startL (l:=[qc0]) rfl col w0;replace h0:=h0.startL (Sr hd 0 rfl) (Sq hd 0 rfl);refine go ?_;refine Y7 (col:=(Xp [qc0] col)) (by kernel_rfl) (by kernel_rfl)<|go ?_;obtain ⟨df,hm⟩:=Zv hm;obtain ⟨a7,dg,hm⟩:=bZ hm;refine qv (v:=(X9 a0 (aA ((j0:Int)+(ab.length:Int)) * 1))) rfl (fun _ hC=>Vk underlying38 sizeOf45 rfl rfl df.1 df.2 (h0.addr dg)) ?_;refine qW (fun _ hC=>(h0.gr (hC.bl (Xp [qc0] col))).atInt dg) ?_;refine go ?_;refine qv (v:=(.int .u64 (X6 .u64 (u64.wrap a7) 32))) rfl (fun _ hC=>Zg5 (u64.wrap a7) 32 rfl rfl (by decide)) ?_;refine go ?_;obtain ⟨dh,hm⟩:=Zv hm;obtain ⟨bf,di,hm⟩:=bZ hm;refine qv (v:=(X9 a0 (aA ((j0:Int)+(i64.wrap ((ab.length:Int) - 1))) * 1))) rfl (fun _ hC=>Vk underlying38 sizeOf45 rfl rfl dh.1 dh.2 (h0.addr di)) ?_;refine qW (fun _ hC=>(h0.gr (hC.bl (Xp [qc0] col))).atInt di) ?_;refine go ?_;refine X2 ?_;intro gm hC;replace h1:=h1.keep (Yg.startL [qc0] col w0);replace hC:=hC.bl (Xp [qc0] col);refine go ?_;obtain ⟨bg,a8,hm⟩:=bZ hm;replace aa:=aa.grow hC;refine lI a8 ((h1.ks aa).addr a8)<|lW ((h1.ks aa).atInt a8) ?_;refine go ?_;obtain ⟨fc,hm⟩:=Zv hm;refine lV (.int .u64 (u64.wrap (aV (Wi .u64 (X6 .u64 (u64.wrap a7) 32) (u64.wrap bf)) (u64.wrap bg)))) (V3 (Wi .u64 (X6 .u64 (u64.wrap a7) 32) (u64.wrap bf)) (u64.wrap bg) rfl rfl fc)<|go ?_;refine lI a8 ((h1.ks aa).addr a8)<|lW ((h1.ks aa).atInt a8) ?_;refine go ?_;obtain ⟨fd,hm⟩:=Zv hm;refine lV (.int .u64 (bI (Wi .u64 (X6 .u64 (u64.wrap a7) 32) (u64.wrap bf)) (u64.wrap bg))) (Qh (Wi .u64 (X6 .u64 (u64.wrap a7) 32) (u64.wrap bf)) (u64.wrap bg) rfl rfl fd)<|go ?_;replace h0:=h0.gr hC;refine Zs [0,1,5,1000000] (fun n f bx=>∃ ao ad ap a2,a2=n∧S4 N j0 n0 ac ab a2 ad ap=some r∧St w0 (Xp [qc0] col) ao bx∧Zc rU 45 440 ao bx a0 ae ac∧[7,8].map f=[.int .u64 ad,.int .u64 ap]) N ⟨_,_,_,_,rfl,hm,aa,h0,rfl⟩ ?_;clear hm;intro n f bx hI;obtain ⟨ao,ad,ap,a2,hn,hm,aa,h0,hs⟩:=hI;subst hn;refine .lL [7,8] hs ?_
 cases a2 with
 | zero=>rw [S4.eq_1] at hm;cases hm
 | succ a2=>
  rw [S4.eq_2] at hm;refine Z0 ?_;refine Wp.cutK [0,1,5,7,8,1000000] (fun f bz=>∃ b0,Zkx j0 n0 ac ab ad ap (S4 N j0 n0 ac ab a2)=some r∧St w0 (Xp [qc0] col) b0 bz∧Zc rU 45 440 b0 bz a0 ae ac) ?_ ?_
  ·intro f bz hJ;obtain ⟨b0,hm,aa,h0⟩:=hJ;rw [Zkx.eq_1] at hm;refine go ?_;obtain ⟨gp,b1,hm⟩:=bZ hm;refine lI b1 ((h1.ks aa).addr b1)<|lW ((h1.ks aa).atInt b1) ?_;refine go ?_;refine Zm hm (fun hb hm=>?_) fun hb hm=>?_
   ·refine Zjz (Z6z rfl (Zhh ?_));refine go ?_;refine Zs [0,1,5,7,87,88,1000000] (fun n f b2=>∃ b3 am a3 ai aj a9,n=a9.length∧ab.drop ai=a9∧Q3 j0 n0 ab ad a9 ai am a3 aj=some r∧St w0 (Xp [qc0] col) b3 b2∧Zc rU 45 440 b3 b2 a0 ae am∧am.length=ac.length∧am.length=ac.length∧[89,10,9].map f=[.int .i64 ai,.int .u64 a3,.int .u64 aj]) ab.length ⟨_,_,0,0,0,_,rfl,rfl,hm,aa,h0,rfl,rfl,rfl⟩ ?_;clear hm;intro n f b2 hI;obtain ⟨b3,am,a3,ai,aj,a9,hn,hl,hm,aa,af,dj,gs,hs⟩:=hI;subst hn;refine .lL [89,10,9] hs ?_
    cases a9 with
    | nil=>
     have hk:¬ ((ai:Int)<(ab.length:Int)):=by have:=aM.1 hl;omega
     have hkb:=decide_eq_false hk;rw [Q3.eq_1] at hm;refine go ?_;refine Yc (congrArg Value.bool hkb)<|go ?_;obtain ⟨dk,hm⟩:=Zv hm;obtain ⟨gt,dl,hm⟩:=bZ hm;refine lV (X9 a0 (aA ((j0:Int)+(ab.length:Int)) * 1)) (Vk underlying38 sizeOf45 rfl rfl dk.1 dk.2 (af.addr dl))<|lW (af.atInt dl)<|go ?_;obtain ⟨dm,hm⟩:=Zv hm;obtain ⟨dn,dp,hm⟩:=bZ hm;refine lV (X9 a0 (aA ((j0:Int)+(ab.length:Int)) * 1)) (Vk underlying38 sizeOf45 rfl rfl dm.1 dm.2 (af.addr dp))<|lW (af.atInt dp)<|go ?_;obtain ⟨dq,hm⟩:=Zv hm;obtain ⟨gu,dr,hm⟩:=bZ hm;refine lV (X9 a0 (aA ((j0:Int)+(ab.length:Int)) * 1)) (Vk underlying38 sizeOf45 rfl rfl dq.1 dq.2 (af.addr dr)) ?_;obtain ⟨b4,bh,hm⟩:=bZ hm;have bh:b4=am.set (aA ((j0:Int)+(ab.length:Int))) (u32.wrap (dn - (u32.wrap (u64.wrap (aj+a3))))):=(Option.some.inj bh).symm;refine Wa (x1:=u32.wrap (dn - (u32.wrap (u64.wrap (aj+a3))))) af dr ?_;intro gv fe ff b5;rw [← bh] at b5;have b6:b4.length=ac.length:=(show am.length=b4.length by rw [bh,nS]).symm.trans dj;refine Zl<|Z0 ?_;replace aa:=aa.kp fe ff;refine Wp.cutK [1000000] (fun f b7=>∃ b8 b9 bi,Zky b9 bi=some r∧St w0 (Xp [qc0] col) b8 b7∧Zc rU 45 440 b8 b7 a0 ae bi∧bi.length=ac.length∧[7].map f=[.int .u64 b9]) ?_ ?_
     ·intro f b7 hJ;obtain ⟨b8,b9,bi,hm,aa,fg,fh,hs⟩:=hJ;rw [Zky.eq_1] at hm;refine .lL [7] hs<|go ?_;cases hm;exact ⟨rfl,_,rfl,aa.finL rfl (cm [(440,qc0)]),aa.foL fg,fh⟩
     refine go ?_;refine Zm hm (fun hb hm=>go ?_) fun hb hm=>?_
     ·refine Zs [0,143,144,5,7,1000000] (fun n f ca=>∃ cb aq ar au ba,n=ba.length∧ab.drop ar=ba∧Zdf j0 n0 ab ad ba ar aq au=some r∧St w0 (Xp [qc0] col) cb ca∧Zc rU 45 440 cb ca a0 ae aq∧aq.length=ac.length∧aq.length=ac.length∧[145,9].map f=[.int .i64 ar,.int .u64 au]) ab.length ⟨_,_,0,0,_,rfl,rfl,hm,aa,b5,b6,b6,rfl⟩ ?_;clear hm;intro n f ca hI;obtain ⟨cb,aq,ar,au,ba,hn,hl,hm,aa,a4,fi,fj,hs⟩:=hI;subst hn;refine .lL [145,9] hs ?_
      cases ba with
      | nil=>
       have hk:¬ ((ar:Int)<(ab.length:Int)):=by have:=aM.1 hl;omega
       have hkb:=decide_eq_false hk;rw [Zdf.eq_1] at hm;refine go ?_;refine Yc (congrArg Value.bool hkb)<|go ?_;obtain ⟨ds,hm⟩:=Zv hm;obtain ⟨dt,du,hm⟩:=bZ hm;refine lV (X9 a0 (aA ((j0:Int)+(ab.length:Int)) * 1)) (Vk underlying38 sizeOf45 rfl rfl ds.1 ds.2 (a4.addr du))<|lW (a4.atInt du)<|go ?_;obtain ⟨dv,hm⟩:=Zv hm;obtain ⟨gw,dw,hm⟩:=bZ hm;refine lV (X9 a0 (aA ((j0:Int)+(ab.length:Int)) * 1)) (Vk underlying38 sizeOf45 rfl rfl dv.1 dv.2 (a4.addr dw)) ?_;obtain ⟨cc,bj,hm⟩:=bZ hm;have bj:cc=aq.set (aA ((j0:Int)+(ab.length:Int))) (u32.wrap (dt+(u32.wrap au))):=(Option.some.inj bj).symm;refine Wa (x1:=u32.wrap (dt+(u32.wrap au))) a4 dw ?_;intro gx fk fl dx;rw [← bj] at dx;have fm:cc.length=ac.length:=(show aq.length=cc.length by rw [bj,nS]).symm.trans fj;refine Zl ?_;replace aa:=aa.kp fk fl;exact ⟨rfl,_,_,_,hm,aa,dx,fm,rfl⟩
      | cons bk fn=>
       obtain ⟨ag,fp,fq⟩:=Yu hl;have hk:(ar:Int)<(ab.length:Int):=by omega
       have hkb:=decide_eq_true hk;rw [Zdf.eq_2] at hm;refine go ?_;refine Yd (congrArg Value.bool hkb)<|go ?_;refine lI ag ((h1.ks aa).addr ag)<|lW ((h1.ks aa).atInt ag) ?_;refine go ?_;obtain ⟨dy,hm⟩:=Zv hm;obtain ⟨bm,dz,hm⟩:=bZ hm;refine lV (X9 a0 (aA ((j0:Int)+(ar:Int)) * 1)) (Vk underlying38 sizeOf45 rfl rfl dy.1 dy.2 (a4.addr dz))<|lW (a4.atInt dz)<|go ?_;obtain ⟨d0,hm⟩:=Zv hm;obtain ⟨gy,d1,hm⟩:=bZ hm;refine lV (X9 a0 (aA ((j0:Int)+(ar:Int)) * 1)) (Vk underlying38 sizeOf45 rfl rfl d0.1 d0.2 (a4.addr d1)) ?_;obtain ⟨cd,bn,hm⟩:=bZ hm;have bn:cd=aq.set (aA ((j0:Int)+(ar:Int))) (u32.wrap (u64.wrap (au+(u64.wrap ((u64.wrap bm)+(u64.wrap bk)))))):=(Option.some.inj bn).symm;refine Wa (x1:=u32.wrap (u64.wrap (au+(u64.wrap ((u64.wrap bm)+(u64.wrap bk)))))) a4 d1 ?_;intro gz fr ft d2;rw [← bn] at d2;have d3:cd.length=ac.length:=(show aq.length=cd.length by rw [bn,nS]).symm.trans fi;refine go ?_;refine lV (.int .u64 (Yq .u64 (u64.wrap (au+(u64.wrap ((u64.wrap bm)+(u64.wrap bk))))) 32)) (Qi (u64.wrap (au+(u64.wrap ((u64.wrap bm)+(u64.wrap bk))))) 32 rfl rfl (by decide))<|go ?_;replace aa:=aa.kp fr ft;exact ⟨fn.length,by simp,rfl,⟨_,_,_,_,_,rfl,fp,hm,aa,d2,d3,d3,(Y2 (congrArg (Value.int .i64) (Yx (aK fq (h1.ks aa).1.1))) rfl)⟩⟩
     refine Yj ?_;exact ⟨rfl,_,_,_,hm,aa,b5,b6,rfl⟩
    | cons av ce=>
     obtain ⟨ag,fu,fv⟩:=Yu hl;have hk:(ai:Int)<(ab.length:Int):=by omega
     have hkb:=decide_eq_true hk;rw [Q3.eq_2] at hm;refine go ?_;refine Yd (congrArg Value.bool hkb)<|Yj<|Z0 ?_;refine Wp.cutK [0,1,5,7,87,88,89,1000000] (fun f cf=>∃ cg bb ch ci,Znz ai (Q3 j0 n0 ab ad ce) bb ch ci=some r∧St w0 (Xp [qc0] col) cg cf∧Zc rU 45 440 cg cf a0 ae bb∧bb.length=ac.length∧bb.length=ac.length∧[10,9].map f=[.int .u64 ch,.int .u64 ci]) ?_ ?_
     ·intro f cf hJ;obtain ⟨cg,bb,ch,ci,hm,aa,fw,fx,fy,hs⟩:=hJ;rw [Znz.eq_1] at hm;refine .lL [10,9] hs<|go ?_;exact ⟨ce.length,by simp,rfl,⟨_,_,_,_,_,_,rfl,fu,hm,aa,fw,fx,fy,(Y2 (congrArg (Value.int .i64) (Yx (aK fv (h1.ks aa).1.1))) rfl)⟩⟩
     refine go ?_;refine lI ag ((h1.ks aa).addr ag)<|lW ((h1.ks aa).atInt ag)<|Y4 rfl<|Y4 rfl<|Zl<|Z0<|Wy<|Xr rfl<|Xr rfl<|Xr rfl<|lV (.int .u64 (u64.wrap av)) (Zmb av ⟨_,underlying45⟩ underlying144 rfl)<|lV _ (Zjs _ _ rfl rfl)<|lV _ (Zah _ _ rfl rfl)<|Y4 rfl<|Zl<|Z0<|Wy<|Xr rfl<|lV (.int .u64 (To .u64 (u64.wrap (aj+(u64.wrap ((u64.wrap (ad - 1)) * (u64.wrap av))))) 4294967295)) (Zo1 (u64.wrap (aj+(u64.wrap ((u64.wrap (ad - 1)) * (u64.wrap av))))) 4294967295 rfl rfl)<|Xr rfl<|lV _ (Zah _ _ rfl rfl)<|Y4 rfl<|Zl<|Z0<|Wy<|Y4 rfl<|Zl<|Z0 ?_;refine Wp.cutK [0,1,11,13,5,7,87,88,89,9,1000000] (fun f cj=>∃ ck cl,Zkz j0 n0 ad am a3 ai aj (Q3 j0 n0 ab ad ce) av cl=some r∧St w0 (Xp [qc0] col) ck cj∧Zc rU 45 440 ck cj a0 ae am∧[10].map f=[.int .u64 cl]) ?_ ?_
     ·intro f cj hJ;obtain ⟨ck,cl,hm,aa,af,hs⟩:=hJ;rw [Zkz.eq_1] at hm;refine .lL [10] hs<|go ?_;obtain ⟨d4,hm⟩:=Zv hm;obtain ⟨d5,d6,hm⟩:=bZ hm;refine lV (X9 a0 (aA ((j0:Int)+(ai:Int)) * 1)) (Vk underlying38 sizeOf45 rfl rfl d4.1 d4.2 (af.addr d6))<|lW (af.atInt d6)<|go ?_;obtain ⟨d7,hm⟩:=Zv hm;obtain ⟨g0,d8,hm⟩:=bZ hm;refine lV (X9 a0 (aA ((j0:Int)+(ai:Int)) * 1)) (Vk underlying38 sizeOf45 rfl rfl d7.1 d7.2 (af.addr d8)) ?_;obtain ⟨cn,bo,hm⟩:=bZ hm;have bo:cn=am.set (aA ((j0:Int)+(ai:Int))) (u32.wrap (d5 - (u32.wrap (u64.wrap ((To .u64 (u64.wrap (aj+(u64.wrap ((u64.wrap (ad - 1)) * (u64.wrap av))))) 4294967295)+a3))))):=(Option.some.inj bo).symm;refine Wa (x1:=u32.wrap (d5 - (u32.wrap (u64.wrap ((To .u64 (u64.wrap (aj+(u64.wrap ((u64.wrap (ad - 1)) * (u64.wrap av))))) 4294967295)+a3))))) af d8 ?_;intro g1 fz f0 d9;rw [← bo] at d9;have ea:cn.length=ac.length:=(show am.length=cn.length by rw [bo,nS]).symm.trans dj;refine go ?_;refine lV (.int .u64 (Yq .u64 (u64.wrap (aj+(u64.wrap ((u64.wrap (ad - 1)) * (u64.wrap av))))) 32)) (Qi (u64.wrap (aj+(u64.wrap ((u64.wrap (ad - 1)) * (u64.wrap av))))) 32 rfl rfl (by decide))<|go ?_;replace aa:=aa.kp fz f0;exact ⟨rfl,_,_,_,_,hm,aa,d9,ea,ea,rfl⟩
     refine go ?_;obtain ⟨eb,hm⟩:=Zv hm;obtain ⟨g2,ec,hm⟩:=bZ hm;refine lV (X9 a0 (aA ((j0:Int)+(ai:Int)) * 1)) (Vk underlying38 sizeOf45 rfl rfl eb.1 eb.2 (af.addr ec))<|lW (af.atInt ec)<|go ?_;refine Zm hm (fun hb hm=>go ?_) fun hb hm=>?_
     ·exact ⟨rfl,_,1,hm,aa,af,rfl⟩
     refine Yj ?_;exact ⟨rfl,_,0,hm,aa,af,rfl⟩
   refine Yj ?_;exact ⟨a2,by omega,rfl,⟨_,_,_,_,rfl,hm,aa,h0,rfl⟩⟩
  refine Z0 ?_;refine Wp.cutK [0,1,5,7,8,1000000] (fun f co=>∃ cp cq,Zfe j0 n0 ac ab ad ap (S4 N j0 n0 ac ab a2) cq=some r∧St w0 (Xp [qc0] col) cp co∧Zc rU 45 440 cp co a0 ae ac∧[74].map f=[.bool cq]) ?_ ?_
  ·intro f co hJ;obtain ⟨cp,cq,hm,aa,h0,hs⟩:=hJ;rw [Zfe.eq_1] at hm;refine .lL [74] hs ?_;refine Zm hm (fun hb hm=>?_) fun hb hm=>go ?_
   ·refine Yj ?_;exact ⟨rfl,_,hm,aa,h0⟩
   refine Zs [0,1,5,7,87,88,1000000] (fun n f cr=>∃ cs an a5 ak al bc,n=bc.length∧ab.drop ak=bc∧Uf j0 n0 ab ad bc ak an a5 al=some r∧St w0 (Xp [qc0] col) cs cr∧Zc rU 45 440 cs cr a0 ae an∧an.length=ac.length∧an.length=ac.length∧[89,10,9].map f=[.int .i64 ak,.int .u64 a5,.int .u64 al]) ab.length ⟨_,_,0,0,0,_,rfl,rfl,hm,aa,h0,rfl,rfl,rfl⟩ ?_;clear hm;intro n f cr hI;obtain ⟨cs,an,a5,ak,al,bc,hn,hl,hm,aa,ah,ed,g3,hs⟩:=hI;subst hn;refine .lL [89,10,9] hs ?_
   cases bc with
   | nil=>
    have hk:¬ ((ak:Int)<(ab.length:Int)):=by have:=aM.1 hl;omega
    have hkb:=decide_eq_false hk;rw [Uf.eq_1] at hm;refine go ?_;refine Yc (congrArg Value.bool hkb)<|go ?_;obtain ⟨ee,hm⟩:=Zv hm;obtain ⟨g4,ef,hm⟩:=bZ hm;refine lV (X9 a0 (aA ((j0:Int)+(ab.length:Int)) * 1)) (Vk underlying38 sizeOf45 rfl rfl ee.1 ee.2 (ah.addr ef))<|lW (ah.atInt ef)<|go ?_;obtain ⟨eg,hm⟩:=Zv hm;obtain ⟨eh,ei,hm⟩:=bZ hm;refine lV (X9 a0 (aA ((j0:Int)+(ab.length:Int)) * 1)) (Vk underlying38 sizeOf45 rfl rfl eg.1 eg.2 (ah.addr ei))<|lW (ah.atInt ei)<|go ?_;obtain ⟨ej,hm⟩:=Zv hm;obtain ⟨g5,ek,hm⟩:=bZ hm;refine lV (X9 a0 (aA ((j0:Int)+(ab.length:Int)) * 1)) (Vk underlying38 sizeOf45 rfl rfl ej.1 ej.2 (ah.addr ek)) ?_;obtain ⟨ct,bp,hm⟩:=bZ hm;have bp:ct=an.set (aA ((j0:Int)+(ab.length:Int))) (u32.wrap (eh - (u32.wrap (u64.wrap (al+a5))))):=(Option.some.inj bp).symm;refine Wa (x1:=u32.wrap (eh - (u32.wrap (u64.wrap (al+a5))))) ah ek ?_;intro g6 f1 f2 cu;rw [← bp] at cu;have cv:ct.length=ac.length:=(show an.length=ct.length by rw [bp,nS]).symm.trans ed;refine Zl<|Z0 ?_;replace aa:=aa.kp f1 f2;refine Wp.cutK [1000000] (fun f cw=>∃ cx cy bq,Zbt cy bq=some r∧St w0 (Xp [qc0] col) cx cw∧Zc rU 45 440 cx cw a0 ae bq∧bq.length=ac.length∧[7].map f=[.int .u64 cy]) ?_ ?_
    ·intro f cw hJ;obtain ⟨cx,cy,bq,hm,aa,f3,f4,hs⟩:=hJ;rw [Zbt.eq_1] at hm;refine .lL [7] hs<|go ?_;cases hm;exact ⟨rfl,_,rfl,aa.finL rfl (cm [(440,qc0)]),aa.foL f3,f4⟩
    refine go ?_;refine Zm hm (fun hb hm=>go ?_) fun hb hm=>?_
    ·refine Zs [0,143,144,5,7,1000000] (fun n f cz=>∃ c0 aw ax ay bd,n=bd.length∧ab.drop ax=bd∧Sc j0 n0 ab ad bd ax aw ay=some r∧St w0 (Xp [qc0] col) c0 cz∧Zc rU 45 440 c0 cz a0 ae aw∧aw.length=ac.length∧aw.length=ac.length∧[145,9].map f=[.int .i64 ax,.int .u64 ay]) ab.length ⟨_,_,0,0,_,rfl,rfl,hm,aa,cu,cv,cv,rfl⟩ ?_;clear hm;intro n f cz hI;obtain ⟨c0,aw,ax,ay,bd,hn,hl,hm,aa,a6,f5,f6,hs⟩:=hI;subst hn;refine .lL [145,9] hs ?_
     cases bd with
     | nil=>
      have hk:¬ ((ax:Int)<(ab.length:Int)):=by have:=aM.1 hl;omega
      have hkb:=decide_eq_false hk;rw [Sc.eq_1] at hm;refine go ?_;refine Yc (congrArg Value.bool hkb)<|go ?_;obtain ⟨el,hm⟩:=Zv hm;obtain ⟨em,en,hm⟩:=bZ hm;refine lV (X9 a0 (aA ((j0:Int)+(ab.length:Int)) * 1)) (Vk underlying38 sizeOf45 rfl rfl el.1 el.2 (a6.addr en))<|lW (a6.atInt en)<|go ?_;obtain ⟨eo,hm⟩:=Zv hm;obtain ⟨g7,ep,hm⟩:=bZ hm;refine lV (X9 a0 (aA ((j0:Int)+(ab.length:Int)) * 1)) (Vk underlying38 sizeOf45 rfl rfl eo.1 eo.2 (a6.addr ep)) ?_;obtain ⟨c1,br,hm⟩:=bZ hm;have br:c1=aw.set (aA ((j0:Int)+(ab.length:Int))) (u32.wrap (em+(u32.wrap ay))):=(Option.some.inj br).symm;refine Wa (x1:=u32.wrap (em+(u32.wrap ay))) a6 ep ?_;intro g8 f7 f8 eq;rw [← br] at eq;have f9:c1.length=ac.length:=(show aw.length=c1.length by rw [br,nS]).symm.trans f6;refine Zl ?_;replace aa:=aa.kp f7 f8;exact ⟨rfl,_,_,_,hm,aa,eq,f9,rfl⟩
     | cons bs ga=>
      obtain ⟨ag,gb,gc⟩:=Yu hl;have hk:(ax:Int)<(ab.length:Int):=by omega
      have hkb:=decide_eq_true hk;rw [Sc.eq_2] at hm;refine go ?_;refine Yd (congrArg Value.bool hkb)<|go ?_;refine lI ag ((h1.ks aa).addr ag)<|lW ((h1.ks aa).atInt ag) ?_;refine go ?_;obtain ⟨er,hm⟩:=Zv hm;obtain ⟨bt,es,hm⟩:=bZ hm;refine lV (X9 a0 (aA ((j0:Int)+(ax:Int)) * 1)) (Vk underlying38 sizeOf45 rfl rfl er.1 er.2 (a6.addr es))<|lW (a6.atInt es)<|go ?_;obtain ⟨et,hm⟩:=Zv hm;obtain ⟨g9,eu,hm⟩:=bZ hm;refine lV (X9 a0 (aA ((j0:Int)+(ax:Int)) * 1)) (Vk underlying38 sizeOf45 rfl rfl et.1 et.2 (a6.addr eu)) ?_;obtain ⟨c2,bu,hm⟩:=bZ hm;have bu:c2=aw.set (aA ((j0:Int)+(ax:Int))) (u32.wrap (u64.wrap (ay+(u64.wrap ((u64.wrap bt)+(u64.wrap bs)))))):=(Option.some.inj bu).symm;refine Wa (x1:=u32.wrap (u64.wrap (ay+(u64.wrap ((u64.wrap bt)+(u64.wrap bs)))))) a6 eu ?_;intro ha gd ge ew;rw [← bu] at ew;have ey:c2.length=ac.length:=(show aw.length=c2.length by rw [bu,nS]).symm.trans f5;refine go ?_;refine lV (.int .u64 (Yq .u64 (u64.wrap (ay+(u64.wrap ((u64.wrap bt)+(u64.wrap bs))))) 32)) (Qi (u64.wrap (ay+(u64.wrap ((u64.wrap bt)+(u64.wrap bs))))) 32 rfl rfl (by decide))<|go ?_;replace aa:=aa.kp gd ge;exact ⟨ga.length,by simp,rfl,⟨_,_,_,_,_,rfl,gb,hm,aa,ew,ey,ey,(Y2 (congrArg (Value.int .i64) (Yx (aK gc (h1.ks aa).1.1))) rfl)⟩⟩
    refine Yj ?_;exact ⟨rfl,_,_,_,hm,aa,cu,cv,rfl⟩
   | cons az c3=>
    obtain ⟨ag,gf,gg⟩:=Yu hl;have hk:(ak:Int)<(ab.length:Int):=by omega
    have hkb:=decide_eq_true hk;rw [Uf.eq_2] at hm;refine go ?_;refine Yd (congrArg Value.bool hkb)<|Yj<|Z0 ?_;refine Wp.cutK [0,1,5,7,87,88,89,1000000] (fun f c4=>∃ c5 be c6 c7,Zk0 ak (Uf j0 n0 ab ad c3) be c6 c7=some r∧St w0 (Xp [qc0] col) c5 c4∧Zc rU 45 440 c5 c4 a0 ae be∧be.length=ac.length∧be.length=ac.length∧[10,9].map f=[.int .u64 c6,.int .u64 c7]) ?_ ?_
    ·intro f c4 hJ;obtain ⟨c5,be,c6,c7,hm,aa,gh,gi,gj,hs⟩:=hJ;rw [Zk0.eq_1] at hm;refine .lL [10,9] hs<|go ?_;exact ⟨c3.length,by simp,rfl,⟨_,_,_,_,_,_,rfl,gf,hm,aa,gh,gi,gj,(Y2 (congrArg (Value.int .i64) (Yx (aK gg (h1.ks aa).1.1))) rfl)⟩⟩
    refine go ?_;refine lI ag ((h1.ks aa).addr ag)<|lW ((h1.ks aa).atInt ag)<|Y4 rfl<|Y4 rfl<|Zl<|Z0<|Wy<|Xr rfl<|Xr rfl<|Xr rfl<|lV (.int .u64 (u64.wrap az)) (Zmb az ⟨_,underlying45⟩ underlying144 rfl)<|lV _ (Zjs _ _ rfl rfl)<|lV _ (Zah _ _ rfl rfl)<|Y4 rfl<|Zl<|Z0<|Wy<|Xr rfl<|lV (.int .u64 (To .u64 (u64.wrap (al+(u64.wrap (ad * (u64.wrap az))))) 4294967295)) (Zo1 (u64.wrap (al+(u64.wrap (ad * (u64.wrap az))))) 4294967295 rfl rfl)<|Xr rfl<|lV _ (Zah _ _ rfl rfl)<|Y4 rfl<|Zl<|Z0<|Wy<|Y4 rfl<|Zl<|Z0 ?_;refine Wp.cutK [0,1,11,13,5,7,87,88,89,9,1000000] (fun f c8=>∃ c9 da,Zff j0 n0 ad an a5 ak al (Uf j0 n0 ab ad c3) az da=some r∧St w0 (Xp [qc0] col) c9 c8∧Zc rU 45 440 c9 c8 a0 ae an∧[10].map f=[.int .u64 da]) ?_ ?_
    ·intro f c8 hJ;obtain ⟨c9,da,hm,aa,ah,hs⟩:=hJ;rw [Zff.eq_1] at hm;refine .lL [10] hs<|go ?_;obtain ⟨ez,hm⟩:=Zv hm;obtain ⟨e0,e1,hm⟩:=bZ hm;refine lV (X9 a0 (aA ((j0:Int)+(ak:Int)) * 1)) (Vk underlying38 sizeOf45 rfl rfl ez.1 ez.2 (ah.addr e1))<|lW (ah.atInt e1)<|go ?_;obtain ⟨e2,hm⟩:=Zv hm;obtain ⟨hc,e3,hm⟩:=bZ hm;refine lV (X9 a0 (aA ((j0:Int)+(ak:Int)) * 1)) (Vk underlying38 sizeOf45 rfl rfl e2.1 e2.2 (ah.addr e3)) ?_;obtain ⟨db,bv,hm⟩:=bZ hm;have bv:db=an.set (aA ((j0:Int)+(ak:Int))) (u32.wrap (e0 - (u32.wrap (u64.wrap ((To .u64 (u64.wrap (al+(u64.wrap (ad * (u64.wrap az))))) 4294967295)+a5))))):=(Option.some.inj bv).symm;refine Wa (x1:=u32.wrap (e0 - (u32.wrap (u64.wrap ((To .u64 (u64.wrap (al+(u64.wrap (ad * (u64.wrap az))))) 4294967295)+a5))))) ah e3 ?_;intro he gk gl e4;rw [← bv] at e4;have e5:db.length=ac.length:=(show an.length=db.length by rw [bv,nS]).symm.trans ed;refine go ?_;refine lV (.int .u64 (Yq .u64 (u64.wrap (al+(u64.wrap (ad * (u64.wrap az))))) 32)) (Qi (u64.wrap (al+(u64.wrap (ad * (u64.wrap az))))) 32 rfl rfl (by decide))<|go ?_;replace aa:=aa.kp gk gl;exact ⟨rfl,_,_,_,_,hm,aa,e4,e5,e5,rfl⟩
    refine go ?_;obtain ⟨e6,hm⟩:=Zv hm;obtain ⟨hf,e7,hm⟩:=bZ hm;refine lV (X9 a0 (aA ((j0:Int)+(ak:Int)) * 1)) (Vk underlying38 sizeOf45 rfl rfl e6.1 e6.2 (ah.addr e7))<|lW (ah.atInt e7)<|go ?_;refine Zm hm (fun hb hm=>go ?_) fun hb hm=>?_
    ·exact ⟨rfl,_,1,hm,aa,ah,rfl⟩
    refine Yj ?_;exact ⟨rfl,_,0,hm,aa,ah,rfl⟩
  refine Y7 (col:=ao) (by kernel_rfl) (by kernel_rfl)<|go ?_;refine Xn hm (fun bw hm=>go ?_) fun bw hm=>go ?_
  ·refine Ui 54 rfl rfl rfl rfl<|Ui 54 rfl rfl rfl rfl<|Ui 54 rfl rfl rfl rfl<|Ui 54 rfl rfl rfl rfl<|Ui 54 rfl rfl rfl rfl<|Ui 54 rfl rfl rfl rfl<|Ui 54 rfl rfl rfl rfl<|Ui 54 rfl rfl rfl rfl<|Ui 54 rfl rfl rfl rfl<|Ui 54 rfl rfl rfl rfl<|Ui 54 rfl rfl rfl rfl<|Ui 54 rfl rfl rfl rfl<|Ui 54 rfl rfl rfl rfl<|Ui 54 rfl rfl rfl rfl<|Ui 54 rfl rfl rfl rfl<|Ui 54 rfl rfl rfl rfl<|Ui 54 rfl rfl rfl rfl<|Ui 54 rfl rfl rfl rfl<|go ?_;refine qv (v:=(.bool true)) rfl (fun _ hC=>Zw (congrArg Value.bool bw) rfl) ?_;refine X2 ?_;intro hg hC;replace hC:=hC.bl ao;replace h0:=h0.gr hC;replace aa:=aa.grow hC;exact ⟨rfl,_,_,hm,aa,h0,rfl⟩
  refine Xn hm (fun dc hm=>go ?_) fun dc hm=>go ?_
  ·obtain ⟨e8,dd,hm⟩:=bZ hm;refine qI dd ((h1.ks aa).addr dd) ?_;refine go ?_;refine qW (fun _ hC=>((h1.ks aa).gr (hC.bl ao)).atInt dd) ?_;refine go ?_;refine qv (v:=(.int .u64 (X6 .u64 ap 32))) rfl (fun _ hC=>Zg5 ap 32 rfl rfl (by decide)) ?_;refine go ?_;obtain ⟨e9,hm⟩:=Zv hm;obtain ⟨fa,fb,hm⟩:=bZ hm;refine qv (v:=(X9 a0 (aA ((j0:Int)+(i64.wrap ((ab.length:Int) - 2))) * 1))) rfl (fun _ hC=>Vk underlying38 sizeOf45 rfl rfl e9.1 e9.2 (h0.addr fb)) ?_;refine go ?_;refine qW (fun _ hC=>(h0.gr (hC.bl ao)).atInt fb) ?_;refine go ?_;refine qv (v:=(.bool (decide ((Wi .u64 (X6 .u64 ap 32) (u64.wrap fa))<(u64.wrap (ad * (u64.wrap e8))))))) rfl (fun _ hC=>Zw (congrArg Value.bool dc) rfl) ?_;refine qv (v:=(.bool (decide ((Wi .u64 (X6 .u64 ap 32) (u64.wrap fa))<(u64.wrap (ad * (u64.wrap e8))))))) rfl (fun _ hC=>Xk (congrArg Value.bool bw) rfl) ?_;refine X2 ?_;intro hh hC;replace hC:=hC.bl ao;replace h0:=h0.gr hC;replace aa:=aa.grow hC;exact ⟨rfl,_,_,hm,aa,h0,rfl⟩
  refine qv (v:=(.bool false)) rfl (fun _ hC=>Xk (congrArg Value.bool dc) rfl) ?_;refine qv (v:=(.bool false)) rfl (fun _ hC=>Xk (congrArg Value.bool bw) rfl) ?_;refine X2 ?_;intro hi hC;replace hC:=hC.bl ao;exact ⟨rfl,_,_,hm,aa.grow hC,h0.gr hC,rfl⟩
def Zny (aa:Int) (kk_L2:(List Int→Int→Option Rf)) (ab:List Int):Option Rf:=
  kk_L2 ab (i64.wrap (aa+1))
def Zic (ab:Int) (ac:List Int) (aa:Int) (kk_L2:(List Int→Int→Option Rf)) (ad:Int):Option Rf:=
  (Zi ac aa).bind fun ae=>Zt (0≤ab) ((some (ac.set (aA aa) (u32.wrap (Yq .u64 (Wi .u64 (X6 .u64 (u64.wrap ad) 32) (u64.wrap ae)) ab)))).bind fun af=>Zny aa kk_L2 af)
def S3 (N:Nat) (ac:Int) (ad ae:List Int):Nat→R2→Int→Option Rf
  | 0,_,_=>none
  | af+1,aa,ab=>if (decide (ab<(ae.length:Int)))=true then (if (decide ((i64.wrap (ab+1))<(aa.length:Int)))=true then ((Zi aa (i64.wrap (ab+1))).bind fun ag=>Zic ac aa ab (S3 N ac ad ae af) ag) else (Zic ac aa ab (S3 N ac ad ae af) 0)) else ((Uv N ad).bind fun ah=>(Uv N aa).bind fun ai=>some (ah,ai,0))
def Zfc (N:Nat) (ae:Int) (ab:List Int):Nat→R2→R2→Int→Option Rf
  | 0,_,_,_=>none
  | ah+1,ac,ad,aa=>if (decide (0≤aa))=true then (Zt ((0:Int)≤aa∧aa<(i64.wrap ((i64.wrap (aa+(ab.length:Int)))+1))∧(i64.wrap ((i64.wrap (aa+(ab.length:Int)))+1))≤(ac.length:Int)) ((Zie N (aA aa) ((aA (i64.wrap ((i64.wrap (aa+(ab.length:Int)))+1))) - (aA aa)) ac ab).bind fun af=>(Zi ad aa).bind fun aj=>(some (ad.set (aA aa) af.1)).bind fun ai=>(Zfc N ae ab ah) af.2 ai (i64.wrap (aa - 1)))) else ((Zfh N ac).bind fun ag=>S3 N ae ad ag N ag 0)
def Zfb (N:Nat) (ae af:List Int):Option Rf:=
  (Uw N ae).bind fun ab=>(Uw N af).bind fun aa=>if (decide ((aa.length:Int)=0))=true then (some (([]:List Int),([]:List Int),11)) else ((Ze9 N ab aa).bind fun ag=>if (decide (ag<0))=true then ((Uv N ab).bind fun ah=>some (([]:List Int),ah,0)) else (if (decide ((aa.length:Int)=1))=true then ((Zgy ab).bind fun ai=>(Zi aa 0).bind fun aj=>(Zk1 N ai aj).bind fun ad=>(Uv N ad.2).bind fun ak=>(Uv N [ad.1]).bind fun al=>some (ak,al,0)) else ((Zi aa (i64.wrap ((aa.length:Int) - 1))).bind fun am=>(Zkr am).bind fun ac=>(Zif ab ac).bind fun an=>(Zif aa ac).bind fun ao=>(Zfh N ao).bind fun ap=>Zt ((aA (i64.wrap ((i64.wrap ((ab.length:Int) - (aa.length:Int)))+1))) * 4≤281474976710656∧(aA (i64.wrap ((i64.wrap ((ab.length:Int) - (aa.length:Int)))+1)))≤maxLen∧0≤(i64.wrap ((i64.wrap ((ab.length:Int) - (aa.length:Int)))+1))) (Zfc N ac ap N an (aC (aA (i64.wrap ((i64.wrap ((ab.length:Int) - (aa.length:Int)))+1))) (0:Int)) (i64.wrap (((aC (aA (i64.wrap ((i64.wrap ((ab.length:Int) - (aa.length:Int)))+1))) (0:Int)).length:Int) - 1))))))
theorem Zp4 {N bu bv:Nat} {a0 a1:Option Addr} {col:Zd} {w0:World} {be bf:R2} {r:Rf} (c1 c2:Nat) (hm:Zfb N be bf=some r) (h0:Sl rU col w0 a0 bu be) (h1:Sl rU col w0 a1 bv bf):
    Calls prog 157 #[.slice a0 be.length bu,.slice a1 bf.length bv] w0 (fun e w'=>∃ col' ra1 rc2 ra4 rc5,e= .returned (.tuple #[.slice ra1 r.1.length rc2,.slice ra4 r.2.1.length rc5,.int .i64 r.2.2])∧Zn col w0 col' w'∧Zc rU 45 c1 col' w' ra1 rc2 r.1∧Zc rU 45 c2 col' w' ra4 rc5 r.2.1):=by
 refine Zts 4 5 6 (m:=122) (args:=[.slice a0 be.length bu,.slice a1 bf.length bv]) func157 rfl rfl rfl rfl rfl ?_;rw [Zfb.eq_1] at hm;have aa:=St.start col w0;refine go ?_;obtain ⟨cx,cy,hm⟩:=bZ hm;refine Zk (So cy (h0.k0.ks aa)) fun _ ea ⟨eb,ec,ed,e',cz,af⟩=>⟨_,e',?_⟩;refine Wo rfl ?_;obtain ⟨c0,c3,hm⟩:=bZ hm;replace aa:=aa.grow cz;refine Zk (So c3 (h1.k0.ks aa)) ?_;rintro _ c4 ⟨ay,ee,ef,rfl,cj,ac⟩;refine ⟨_,rfl,go ?_⟩;replace af:=af.gr cj;replace aa:=aa.grow cj;refine Zm hm (fun hb hm=>go ?_) fun hb hm=>go ?_
 ·cases hm;exact ⟨rfl,_,none,0,none,0,rfl,aa.fin (cm []),Zc.nil,Zc.nil⟩
 obtain ⟨eg,c5,hm⟩:=bZ hm;refine Zk (Zp3 c5 af ac) fun _ ck ⟨e',az⟩=>⟨_,e',?_⟩;replace az:Zn ay c4 ay ck:=.of_below az;refine go ?_;replace af:=af.gr az;replace ac:=ac.gr az;replace aa:=aa.grow az;refine Zm hm (fun hb hm=>go ?_) fun hb hm=>go ?_
 ·obtain ⟨eh,c6,hm⟩:=bZ hm;refine Zk (Sn 1 c6 af) ?_;rintro _ ei ⟨ej,ek,el,rfl,c7,c8⟩;refine ⟨_,rfl,go ?_⟩;cases hm;replace aa:=aa.grow c7;exact ⟨rfl,_,none,0,_,_,rfl,aa.fin (cm [(1,c2)]),Zc.nil,aa.fo c8⟩
 refine Zm hm (fun hb hm=>go ?_) fun hb hm=>go ?_
 ·obtain ⟨cl,c9,hm⟩:=bZ hm;refine Zk (Zqc 2 c9 af) ?_;rintro _ em ⟨en,bg,bh,rfl,cn,da⟩;refine ⟨_,rfl,go ?_⟩;obtain ⟨eo,bw,hm⟩:=bZ hm;replace ac:=ac.gr cn;refine lI bw (ac.addr bw)<|lW (ac.atInt bw) ?_;obtain ⟨a2,db,hm⟩:=bZ hm;refine Zk (Z3k 2 db rfl da) fun _ dc ⟨bx,e',dd,de,co⟩=>⟨_,e',?_⟩;refine .ld (d:=7) (v:=(.slice bg a2.2.length bh)) (congrArg (fun n=>Value.slice bg n bh) (show cl.length=a2.2.length from co.symm)) ?_;refine .ld (d:=34) (v:=(.slice bg a2.2.length bh)) (congrArg (fun n=>Value.slice bg n bh) (show cl.length=a2.2.length from co.symm)) ?_;refine go ?_;obtain ⟨ep,df,hm⟩:=bZ hm;refine Zk (Sn 3 df (de.toSlF (Zh.int .u32))) fun _ eq ⟨dg,er,es,e',bi,a3⟩=>⟨_,e',?_⟩;replace a3:=a3.thaw (Z3 .u32) bi ((Fz.refl (col:=bx)).froz 2);replace bi:=bi.thawR (col:=bx);generalize Xj dc.heap.size bx dg=dh at *;refine Xr rfl<|Wj (col:=dh) [a2.1] 4 ?_;intro et di bz cp dj;obtain ⟨eu,dk,hm⟩:=bZ hm;refine Zk (Sn 5 dk (dj.toSlF (Zh.int .u32))) fun _ ew ⟨dl,ey,ez,e',a4,b0⟩=>⟨_,e',?_⟩;replace b0:=b0.thaw (Z3 .u32) a4 ((Fz.refl (col:=bz)).froz 4);replace a4:=a4.thawR (col:=bz);generalize Xj di.heap.size bz dl=e0 at *;refine go ?_;cases hm;replace aa:=((((aa.grow cn).kpp dd).grow bi).grow cp).grow a4;exact ⟨rfl,_,_,_,_,_,rfl,aa.fin (cm [(3,c1),(5,c2)]),aa.fo ((a3.gr cp).gr a4),aa.fo b0⟩
 obtain ⟨e1,b1,hm⟩:=bZ hm;refine lI b1 (ac.addr b1)<|lW (ac.atInt b1) ?_;obtain ⟨ah,dm,hm⟩:=bZ hm;refine Zk (Z27 (col:=ay) dm) fun _ dn ⟨e',a5⟩=>⟨_,e',?_⟩;replace a5:Zn ay ck ay dn:=.of_below a5;refine go ?_;obtain ⟨e2,dp,hm⟩:=bZ hm;refine Zk (Zs9 6 dp (af.gr a5)) ?_;rintro _ e3 ⟨e4,e5,e6,rfl,cq,a6⟩;refine ⟨_,rfl,go ?_⟩;obtain ⟨e7,dq,hm⟩:=bZ hm;refine Zk (Zs9 7 dq ((ac.gr a5).gr cq)) fun _ e8 ⟨e9,fa,fb,e',cr,dr⟩=>⟨_,e',?_⟩;obtain ⟨b2,ds,hm⟩:=bZ hm;refine Zk (Zta 7 ds rfl dr) ?_;rintro _ dt ⟨du,dv,dw,rfl,cs,ag⟩;refine ⟨_,rfl,go ?_⟩;obtain ⟨bj,hm⟩:=Zv hm;refine Sv (col:=du) (w:=dt) (r:=rU) (n:=(aA (i64.wrap ((i64.wrap ((cx.length:Int) - (c0.length:Int)))+1)))) (x0:=0) 8 rfl underlying38 Tryz.t45 rfl rfl rfl rfl rfl (congrArg (Value.int _) (bJ bj.2.2).symm) (congrArg (Value.int _) (bJ bj.2.2).symm) bj.1 bj.2.1 (Vn .u32 0) ?_;intro fc fd fe b3 b4;refine go ?_;replace a6:=((a6.gr cr).kpp cs).gr b3;replace ag:=ag.gr b3;replace ag:=(ag).toSlF (Zh.int .u32);replace aa:=((((aa.grow a5).grow cq).grow cr).kpp cs).grow b3;replace aa:=aa.froz 7 (by decide) (by decide);refine Zs [11,9,1000000] (fun n f a7=>∃ a8 ap aq a9 aj ak ad al ar,ar=n∧Zfc N ah b2 ar a9 ad al=some r∧St w0 (Zf col) a8 a7∧Zc rU 45 6 a8 a7 ap aq a9∧Sl rU a8 a7 dv dw b2∧Zc rU 45 8 a8 a7 aj ak ad∧[10,12,13].map f=[.slice ap a9.length aq,.slice aj ad.length ak,.int .i64 al]) N ⟨_,_,_,_,_,_,_,_,_,rfl,hm,aa,a6.froz 7,ag,b4.froz 7,rfl⟩ ?_;clear hm;intro n f a7 hI;obtain ⟨a8,ap,aq,a9,aj,ak,ad,al,ar,hn,hm,aa,b5,ag,ab,hs⟩:=hI;subst hn;refine .lL [10,12,13] hs ?_
 cases ar with
 | zero=>rw [Zfc.eq_1] at hm;cases hm
 | succ ar=>
  rw [Zfc.eq_2] at hm;refine go ?_;refine Zm hm (fun hb hm=>go ?_) fun hb hm=>go ?_
  ·obtain ⟨b6,hm⟩:=Zv hm;refine lV (.slice (ap.map (·.add ((aA al) * 1))) ((aA (i64.wrap ((i64.wrap (al+(b2.length:Int)))+1))) - (aA al)) (aq - (aA al))) (Z83 underlying38 sizeOf45 rfl rfl rfl b6.1 b6.2.1 (by have:=b5.lecap;have:=b6.2.2;omega))<|Wo rfl ?_;obtain ⟨bk,dx,hm⟩:=bZ hm;refine Zk (Z3i 6 dx rfl b5 ag) fun _ ff ⟨fg,e',b7,b8,dy⟩=>⟨_,e',?_⟩;refine .ld (d:=10) (v:=(.slice ap bk.2.length aq)) (congrArg (fun n=>Value.slice ap n aq) (show a9.length=bk.2.length from dy.symm)) ?_;obtain ⟨fh,b9,hm⟩:=bZ hm;replace ab:=ab.kpp b7;refine lI b9 (ab.addr b9) ?_;obtain ⟨ca,bm,hm⟩:=bZ hm;have bm:ca=ad.set (aA al) bk.1:=(Option.some.inj bm).symm;refine Wa (x1:=bk.1) ab b9 ?_;intro fi cb dz ct;rw [← bm] at ct;refine .ld (d:=12) (v:=(.slice aj ca.length ak)) (congrArg (fun n=>Value.slice aj n ak) (show ad.length=ca.length by rw [bm,nS])) ?_;refine go ?_;replace aa:=(aa.kpp b7).kp cb dz;exact ⟨ar,by omega,rfl,⟨_,_,_,_,_,_,_,_,_,rfl,hm,aa,b8.kp cb,(ag.kpp b7).kp cb,ct,rfl⟩⟩
  obtain ⟨cc,d0,hm⟩:=bZ hm;refine Zk (Zta 6 d0 rfl b5) ?_;rintro _ fj ⟨fk,fl,fm,rfl,cu,d1⟩;refine ⟨_,rfl,go ?_⟩;replace ab:=ab.kpp cu;replace aa:=aa.kpp cu;refine Zs [12,88,9,1000000] (fun n f ba=>∃ ao au av am aw an,an=n∧S3 N ah ad cc an am aw=some r∧St w0 (Zf col) ao ba∧Zc rU 45 6 ao ba au av am∧Zc rU 45 8 ao ba aj ak ad∧[10,89].map f=[.slice au am.length av,.int .i64 aw]) N ⟨_,_,_,_,0,_,rfl,hm,aa,d1,ab,rfl⟩ ?_;clear hm;intro n f ba hI;obtain ⟨ao,au,av,am,aw,an,hn,hm,aa,ae,ab,hs⟩:=hI;subst hn;refine .lL [10,89] hs ?_
  cases an with
  | zero=>rw [S3.eq_1] at hm;cases hm
  | succ an=>
   rw [S3.eq_2] at hm;refine go ?_;refine Zm hm (fun hb hm=>?_) fun hb hm=>go ?_
   ·refine Yj<|Z0 ?_;refine Wp.cutK [12,88,89,9,1000000] (fun f bn=>∃ bo cd ce bp,Zny aw (S3 N ah ad cc an) bp=some r∧St w0 (Zf col) bo bn∧Zc rU 45 6 bo bn cd ce bp∧Zc rU 45 8 bo bn aj ak ad∧[10].map f=[.slice cd bp.length ce]) ?_ ?_
    ·intro f bn hJ;obtain ⟨bo,cd,ce,bp,hm,aa,d2,ab,hs⟩:=hJ;rw [Zny.eq_1] at hm;refine .lL [10] hs<|go ?_;exact ⟨an,by omega,rfl,⟨_,_,_,_,_,_,rfl,hm,aa,d2,ab,rfl⟩⟩
    refine Zjy<|Z0<|Wy<|Xr rfl<|Y4 rfl<|Zl<|Z0<|Wy<|Y4 rfl<|Zl<|Z0 ?_;refine Wp.cutK [10,12,14,88,89,9,1000000] (fun f bq=>∃ br ai,Zic ah am aw (S3 N ah ad cc an) ai=some r∧St w0 (Zf col) br bq∧Zc rU 45 6 br bq au av am∧Zc rU 45 8 br bq aj ak ad∧[15].map f=[.int .u32 ai]) ?_ ?_
    ·intro f bq hJ;obtain ⟨br,ai,hm,aa,ae,ab,hs⟩:=hJ;rw [Zic.eq_1] at hm;refine .lL [15] hs<|go ?_;refine lV (.int .u64 (X6 .u64 (u64.wrap ai) 32)) (Zg5 (u64.wrap ai) 32 rfl rfl (by decide))<|go ?_;obtain ⟨bs,ax,hm⟩:=bZ hm;refine lI ax (ae.addr ax)<|lW (ae.atInt ax) ?_;refine go ?_;obtain ⟨d3,hm⟩:=Zv hm;refine lV (.int .u64 (Yq .u64 (Wi .u64 (X6 .u64 (u64.wrap ai) 32) (u64.wrap bs)) ah)) (Qi (Wi .u64 (X6 .u64 (u64.wrap ai) 32) (u64.wrap bs)) ah rfl rfl d3)<|go ?_;refine lI ax (ae.addr ax) ?_;obtain ⟨cf,bt,hm⟩:=bZ hm;have bt:cf=am.set (aA aw) (u32.wrap (Yq .u64 (Wi .u64 (X6 .u64 (u64.wrap ai) 32) (u64.wrap bs)) ah)):=(Option.some.inj bt).symm;refine Wa (x1:=u32.wrap (Yq .u64 (Wi .u64 (X6 .u64 (u64.wrap ai) 32) (u64.wrap bs)) ah)) ae ax ?_;intro fn cv d4 cw;rw [← bt] at cw;refine .ld (d:=10) (v:=(.slice au cf.length av)) (congrArg (fun n=>Value.slice au n av) (show am.length=cf.length by rw [bt,nS])) ?_;refine Zl ?_;replace ab:=ab.kp cv;replace aa:=aa.kp cv d4;exact ⟨rfl,_,_,_,_,hm,aa,cw,ab,rfl⟩
    refine go ?_;refine Zm hm (fun hb hm=>go ?_) fun hb hm=>?_
    ·obtain ⟨fp,cg,hm⟩:=bZ hm;refine lI cg (ae.addr cg)<|lW (ae.atInt cg) ?_;refine go ?_;exact ⟨rfl,_,_,hm,aa,ae,ab,rfl⟩
    refine Yj ?_;exact ⟨rfl,_,0,hm,aa,ae,ab,rfl⟩
   obtain ⟨fq,d5,hm⟩:=bZ hm;refine Zk (Sn 9 d5 (ab.toSlF (Zh.int .u32))) fun _ d6 ⟨d7,fr,ft,e',bb,bc⟩=>⟨_,e',?_⟩;replace bc:=bc.thaw (Z3 .u32) bb ((Fz.refl (col:=ao)).froz 8);replace bb:=bb.thawR (col:=ao);generalize Xj ba.heap.size ao d7=ch at *;refine Wo rfl ?_;obtain ⟨fu,d8,hm⟩:=bZ hm;refine Zk (Sn 10 d8 ((ae.gr bb).toSlF (Zh.int .u32))) fun _ fv ⟨d9,fw,fx,e',bd,ci⟩=>⟨_,e',?_⟩;replace ci:=ci.thaw (Z3 .u32) bd ((Fz.refl (col:=ch)).froz 6);replace bd:=bd.thawR (col:=ch);generalize Xj d6.heap.size ch d9=fy at *;refine go ?_;cases hm;replace aa:=(aa.grow bb).grow bd;exact ⟨rfl,_,_,_,_,_,rfl,aa.fin (cm [(9,c1),(10,c2)]),aa.fo (bc.gr bd),aa.fo ci⟩
def Zkv (N:Nat) (ab:List Int):Option Int:=
  (Uw N ab).bind fun aa=>if (decide ((aa.length:Int)=0))=true then (some 0) else ((Zi aa (i64.wrap ((aa.length:Int) - 1))).bind fun ac=>(Zh0 ac).bind fun ad=>some (i64.wrap ((i64.wrap (32 * (i64.wrap ((aa.length:Int) - 1))))+ad)))
theorem Z3g {N af:Nat} {a0:Option Addr} {col:Zd} {w0:World} {ab:R2} {r:Int} (hm:Zkv N ab=some r) (h0:Sl rU col w0 a0 af ab):
    Calls prog 155 #[.slice a0 ab.length af] w0 (W5 w0 r):=by
 refine Z6 2 (m:=20) func155 rfl rfl rfl rfl rfl ?_;rw [Zkv.eq_1] at hm;have aa:=St.start col w0;refine go ?_;obtain ⟨am,ah,hm⟩:=bZ hm;refine Zk (So ah (h0.k0.ks aa)) ?_;rintro _ ai ⟨ac,an,ao,rfl,aj,ag⟩;refine ⟨_,rfl,go ?_⟩;replace aa:=aa.grow aj;refine Zm hm (fun hb hm=>go ?_) fun hb hm=>go ?_
 ·cases hm;exact ⟨rfl,rfl,aa.below⟩
 obtain ⟨ap,ad,hm⟩:=bZ hm;refine lI ad (ag.addr ad)<|lW (ag.atInt ad) ?_;obtain ⟨aq,ak,hm⟩:=bZ hm;refine Zk (Zs4 (col:=ac) ak) fun _ al ⟨e',ae⟩=>⟨_,e',?_⟩;replace ae:Zn ac ai ac al:=.of_below ae;refine go ?_;cases hm;exact ⟨rfl,rfl,(aa.grow ae).below⟩
def Xo (n:Nat):Nat:=if n=0 then 0 else n.log2+1
theorem Zhb:Xo 0=0:=rfl
theorem Zsw {n k:Nat} (h:2 ^ k≤n) (h2:n<2 ^ (k+1)):Xo n=k+1:=by
 have a:n≠0:=by have:=bY k;omega
 rw [Xo,if_neg a,(jM a).2 ⟨h,h2⟩]
theorem Zm2 {n:Nat} (h:n≠0):∃ k,Xo n=k+1∧2 ^ k≤n∧n<2 ^ (k+1):=by
 refine ⟨n.log2,by rw [Xo,if_neg h],?_⟩
 exact (jM h).1 rfl
theorem V7 {n k:Nat}:Xo n≤k↔n<2 ^ k:=by
 by_cases h:n=0
 ·subst h;simp [Zhb,bY]
 ·obtain ⟨j,e,c,d⟩:=Zm2 h
  rw [e]
  constructor
  ·intro b;exact aK d (fS (by decide) b)
  ·intro b
   have:=(Nat.pow_lt_pow_iff_right (a:=2) (by decide)).1 (dX c b)
   omega
theorem Zj8 (n k:Nat):Xo (n / 2 ^ k)=Xo n - k:=by
 by_cases h:n / 2 ^ k=0
 ·have a:n<2 ^ k:=by
   have:=bY k
   rcases Nat.div_eq_zero_iff.1 h with h | h
   ·omega
   ·exact h
  have:=V7.2 a
  rw [h,Zhb];omega
 ·obtain ⟨j,e,a,c⟩:=Zm2 h
  have b:=bY k
  have d:2 ^ (j+k)≤n:=by
   rw [cW]
   exact (eC b).1 a
  have f:n<2 ^ (j+k+1):=by
   have:=(dE b).1 c
   rw [show j+k+1=(j+1)+k by omega,cW];exact this
  rw [e,Zsw d f];omega
theorem Z7h:∀ x:Fin 256,Ze3 (x.val:Int) 0=some ((Xo x.val:Nat):Int):=by decide+kernel
theorem Zwi {x:Nat} (h:x<256) {n:Int} (hn:0≤n∧n≤24):Ze3 (x:Int) n=some (n+(Xo x:Int)):=by
 have a:=Z7h ⟨x,h⟩
 have c:Xo x≤8:=V7.2 h
 rw [Ze3] at a ⊢
 revert a
 generalize Zmw _ _=o
 intro a
 cases o with
 | none=>cases a
 | some e=>
  rw [oB] at a ⊢
  have b:=Option.some.inj a
  rw [IntKind.wrap_i64,IntKind.wrap_i64] at b ⊢
  congr 1
  simp only at b
  omega
theorem Zpe (i:IntKind) (x k:Nat) (hk:k≤i.bits):Yq i (x:Int) (k:Int)=((x / 2 ^ k:Nat):Int):=by
 rw [Yq,aB,aS hk,gS _ (Int.le_of_lt (Int.pow_pos (by decide)))]
 norm_cast
theorem Zwc {x:Nat} (h:x<4294967296):Zh0 (x:Int)=some ((Xo x:Nat):Int):=by
 have b:∀ (y:Nat) (n:Int),y<65536→0≤n∧n≤16→Zh1 (y:Int) n=some (n+(Xo y:Int)):=fun y n d f=>by
  rw [Zh1]
  by_cases h1:256≤y
  ·have e:=Zpe .u32 y 8 (by decide)
   have a:=Zj8 y 8
   have c:8≤Xo y:=by
    have:¬ Xo y≤7:=fun h=>by have:=V7.1 h;omega
    omega
   rw [if_pos (by simp;omega),show (8:Int)=((8:Nat):Int) from rfl,e,Zwi (by omega) (by rw [Zr (by omega)];omega),Zr (by omega),a]
   congr 1;omega
  ·rw [if_neg (by simp;omega),Zwi (by omega) (by omega)]
 rw [Zh0]
 by_cases h1:65536≤x
 ·have e:=Zpe .u32 x 16 (by decide)
  have a:=Zj8 x 16
  have c:16≤Xo x:=by
   have:¬ Xo x≤15:=fun h=>by have:=V7.1 h;omega
   omega
  rw [if_pos (by simp;omega),show (16:Int)=((16:Nat):Int) from rfl,e,b _ _ (by omega) (by omega),a]
  congr 1;omega
 ·rw [if_neg (by simp;omega),b _ _ (by omega) (by omega)]
  congr 1;omega
theorem Zsy {a:List Int} {x:Int} (ha:Zo a) (hx:0<x∧x<4294967296):Xo (Zb (a++[x]))=32 * a.length+Xo x.toNat:=by
 obtain ⟨k,e,d,g⟩:=Zm2 (show x.toNat≠0 by omega)
 have f:=Qe ha
 have c:Zb (a++[x])=Zb a+4294967296 ^ a.length * x.toNat:=by rw [Qd,Wq,Yn];simp
 have b:(4294967296:Nat) ^ a.length=2 ^ (32 * a.length):=by rw [show (4294967296:Nat)=2 ^ 32 by decide,← Nat.pow_mul]
 rw [e]
 have:=Zsw (n:=Zb (a++[x])) (k:=32 * a.length+k) (by
   rw [c,b,cW]
   have:=aU (2 ^ (32 * a.length)) d
   omega) (by
   rw [c,show 32 * a.length+k+1=32 * a.length+(k+1) by omega,cW,b]
   have:=aU (2 ^ (32 * a.length)) (show x.toNat+1≤2 ^ (k+1) by omega)
   rw [dS] at this
   rw [b] at f
   omega)
 rw [this];omega
theorem Zm0 (n:Nat):32 * ((Ze n).length - 1)≤Xo n∧Xo n≤32 * (Ze n).length:=by
 have e:∀ k,(4294967296:Nat) ^ k=2 ^ (32 * k):=fun k=>by rw [show (4294967296:Nat)=2 ^ 32 by decide,← Nat.pow_mul]
 constructor
 ·by_cases h:32 * ((Ze n).length - 1)≤Xo n
  ·exact h
  ·exfalso
   have a:=V7.1 (show Xo n≤32 * ((Ze n).length - 1) by omega)
   rw [← e] at a
   have:=W7.2 a
   omega
 ·have:=W7.1 (bB (Ze n).length)
  rw [e] at this
  exact V7.2 this
theorem Z2l {N:Nat} {a:List Int} (h:Zo a) (hn:a.length<N) (hb:a.length≤35184372088000):Zkv N a=some ((Xo (Zb a):Nat):Int):=by
 have i:=Yh h
 rw [Zkv,Ql h hn hb,oB]
 by_cases h0:(Ze (Zb a)).length=0
 ·have:Zb a=0:=Zhk.1 (cH h0)
  rw [if_pos (by simp [h0]),this,Zhb];rfl
 ·have b:0<(Ze (Zb a)).length:=by omega
  have e:((Ze (Zb a)).length:Int) - 1=(((Ze (Zb a)).length - 1:Nat):Int):=by omega
  have j:=(Xc (Zb a)).get (k:=(Ze (Zb a)).length - 1) (by omega)
  have f:=Znp b
  have c:=Zhj b
  have d:(Ze (Zb a))[(Ze (Zb a)).length - 1]=(((Ze (Zb a))[(Ze (Zb a)).length - 1]).toNat:Int):=by omega
  rw [if_neg (by simpa using h0),Zr (by omega),e,Zu (by omega),oB,d,Zwc (by omega),oB]
  have hb:=Zsy (a:=(Ze (Zb a)).take ((Ze (Zb a)).length - 1)) (x:=(Ze (Zb a))[(Ze (Zb a)).length - 1]) ((Xc _).take _) (by omega)
  rw [c,Xd,nK,aS (by omega)] at hb
  have g:Xo ((Ze (Zb a))[(Ze (Zb a)).length - 1]).toNat≤32:=V7.2 (by omega)
  rw [Zr (x:=32 * _) (by omega),Zr (by omega),hb]
  congr 1
theorem Zhc (w x:Nat) (h:x<2 ^ w):(BitVec.ofInt w (x:Int)).toNat=x:=by
 rw [BitVec.toNat_ofInt]
 have:((2 ^ w:Nat):Int)=(2:Int) ^ w:=by norm_cast
 rw [← jF,aB,dJ h]
theorem or64 (k a b:Nat) (h:b<2 ^ k) (hs:2 ^ k * a+b<18446744073709551616):Wi .u64 ((2 ^ k * a:Nat):Int) (b:Int)=((2 ^ k * a+b:Nat):Int):=by
 rw [Wi,BitVec.toNat_or,Zhc _ _ (by simp only [IntKind.bits];omega),Zhc _ _ (by simp only [IntKind.bits];omega),← gM h,IntKind.wrap_u64]
 omega
theorem or32 (k a b:Nat) (h:b<2 ^ k) (hs:2 ^ k * a+b<4294967296):Wi .u32 (b:Int) ((2 ^ k * a:Nat):Int)=((2 ^ k * a+b:Nat):Int):=by
 rw [Wi,BitVec.toNat_or,Zhc _ _ (by simp only [IntKind.bits];omega),Zhc _ _ (by simp only [IntKind.bits];omega),Nat.or_comm,← gM h,IntKind.wrap_u32]
 omega
theorem Z9w {x:Int} (h:0≤x∧x<4294967296):X6 .u64 x 32=x * 4294967296:=by
 have:(min (32:Int).toNat u64.bits)=32:=by decide
 rw [X6,this,IntKind.wrap_u64]
 omega
theorem Zpl {r e:Int} (hr:0≤r∧r<4294967296) (he:0≤e∧e<4294967296):Wi .u64 (X6 .u64 r 32) e=r * 4294967296+e:=by
 rw [Z9w hr]
 have:=or64 32 r.toNat e.toNat (by omega) (by omega)
 rw [show ((2 ^ 32 * r.toNat:Nat):Int)=r * 4294967296 by omega,show ((e.toNat:Nat):Int)=e by omega] at this
 rw [this];omega
theorem Zeh {l:List Int} {k j:Nat} (v:Int) (h:j≤k):(l.set k v).take j=l.take j:=by
 rw [List.take_set,List.set_eq_of_length_le]
 rw [nK];omega
theorem Z1m (N:Nat) (d:Int) (hd:0<d∧d<4294967296):∀ (n j:Nat) (r:List Int) (c:Int),j≤r.length→j<n→r.length<4611686018427387904→Zo r→0≤c∧c<d→
  ∃ c' r',Zfg N d n r c ((j:Int) - 1)=some (c',r')∧r'.length=r.length∧Zo r'∧0≤c'∧c'<d∧d.toNat * Zb r'+c'.toNat=Zb (r.take j)+4294967296 ^ j * (c.toNat+d.toNat * Zb (r.drop j))
 | 0,j,r,c,_,h,_,_,_=>by omega
 | n+1,j,r,c,E,F,q,f,k=>by
  rw [Zfg.eq_2]
  by_cases h0:j=0
  ·subst h0
   rw [if_neg (by decide),Ua (by omega)]
   refine ⟨c,r,rfl,rfl,f,k.1,k.2,?_⟩
   rw [List.take_zero,aR,Yn];omega
  ·have e:(j:Int) - 1=((j - 1:Nat):Int):=by omega
   have b:j - 1<r.length:=by omega
   have g:=f.get b
   rw [if_pos (by simp;omega),e,Zu b,oB,Xs (x:=d) (by omega),Zx (by omega),oB,Zx (by omega),aB,Xs (x:=r[j - 1]) (by omega),Zpl (by omega) (by omega)]
   generalize hcur:c * 4294967296+r[j - 1]=a
   have B:(c+1) * 4294967296≤d * 4294967296:=by omega
   have i:0≤a / d∧a / d<4294967296:=⟨Int.ediv_nonneg (by omega) (by omega),Int.ediv_lt_of_lt_mul hd.1 (by rw [Int.mul_comm];omega)⟩
   have s:=Int.emod_nonneg a (show d≠0 by omega)
   have l:=Int.emod_lt_of_pos a hd.1
   have C:=Int.mul_ediv_add_emod a d
   rw [bW (by omega),cD (by omega),Xs (by omega),Ua i,Zr (by omega)]
   obtain ⟨c',r',q1,t,u,v,w,y⟩:=Z1m N d hd n (j - 1) (r.set (j - 1) (a / d)) (a % d) (by rw [nS];omega) (by omega) (by rw [nS];exact q) (f.set _ i) ⟨s,l⟩
   refine ⟨c',r',q1,by rw [t,nS],u,v,w,?_⟩
   rw [y,Zeh _ (bB _)]
   have m:=Zrj b
   have o:Zb ((r.set (j - 1) (a / d)).drop (j - 1))=(a / d).toNat+4294967296 * Zb (r.drop (j - 1+1)):=by
    rw [Uh (by rw [nS];exact b),fQ,Qp _ (by omega)]
   rw [show j - 1+1=j by omega] at m o
   rw [m,o]
   have A:(4294967296:Nat) ^ j=4294967296 ^ (j - 1) * 4294967296:=by rw [← aZ,show (j - 1).succ=j by omega]
   rw [A]
   have p:d.toNat * (a / d).toNat+(a % d).toNat=c.toNat * 4294967296+(r[j - 1]).toNat:=by
    have:((d.toNat * (a / d).toNat:Nat):Int)=d * (a / d):=by rw [bQ,bJ (by omega),bJ i.1]
    omega
   generalize hQ:4294967296 ^ (j - 1)=Q
   have D:Q * (d.toNat * (a / d).toNat+(a % d).toNat)=Q * (c.toNat * 4294967296+(r[j - 1]).toNat):=by rw [p]
   grind
theorem Z90 {N:Nat} {a:List Int} {d:Int} (hd:0<d∧d<4294967296) (ha:Zo a) (hn:a.length<N) (hs:a.length≤35184372088000):
  ∃ q,Zk1 N a d=some (((Zb a % d.toNat:Nat):Int),q)∧q.length=a.length∧Zo q∧Zb q=Zb a / d.toNat:=by
 obtain ⟨b,r',q1,g,i,l,m,c⟩:=Z1m N d hd N a.length a 0 (bB _) hn (by omega) ha (by omega)
 have e:0<d.toNat:=by omega
 rw [List.take_length,eE,Yn] at c
 have f:Zb a=b.toNat+d.toNat * Zb r':=by simp at c;omega
 have j:Zb a % d.toNat=b.toNat:=by rw [f,gW,dJ (by omega)]
 have k:Zb a / d.toNat=Zb r':=by rw [f,fW _ _ e,dV (by omega),cS]
 refine ⟨r',?_,g,i,k.symm⟩
 rw [Zk1,Zr (by omega),q1,j]
 congr 2;omega
theorem Zsc {i:IntKind} {x s:Nat} (hs:s<32) (hi:i= .u32∨i= .u64):X6 i (x:Int) (s:Int)=i.wrap ((x * 2 ^ s:Nat):Int):=by
 rw [X6,aB,aS (by rcases hi with rfl | rfl <;> simp only [IntKind.bits] <;> omega)]
 norm_cast
theorem Z2a (n:Nat):u32.wrap (n:Int)=((n % 4294967296:Nat):Int):=by rw [IntKind.wrap_u32];omega
theorem Zwa (s:Nat) (hs:s<32):∀ (l:List Int) (k:Nat) (out:List Int),Zo l→out.length=k+l.length+1→out.length<4611686018427387904→Zo out→Zb (out.drop (k+1))=0→(∀ h:k<out.length,(out[k]).toNat<2 ^ s)→
  ∃ out',Zdg (s:Int) l k out=some out'∧out'.length=out.length∧Zo out'∧Zb out'=Zb out+4294967296 ^ k * (2 ^ s * Zb l)∧(∀ h:out'.length - 1<out'.length,(out'[out'.length - 1]).toNat<2 ^ s)
 | [],k,out,_,c,_,a,_,m=>by
  rw [Zdg.eq_1]
  rw [nN] at c
  refine ⟨out,rfl,rfl,a,by rw [Yn];omega,fun h=>?_⟩
  have:=m (by omega)
  simpa [c] using this
 | x :: l,k,out,q,c,y,a,C,m=>by
  rw [nC] at c
  have d:k<out.length:=by omega
  have o:k+1<out.length:=by omega
  have P:=q.head
  have R:=a.get d
  have D:=m d
  have g:=drop_zero a o C
  have E:i64.wrap ((k:Int)+1)=((k+1:Nat):Int):=by rw [Zr (by omega)];omega
  have ex:x=(x.toNat:Int):=by omega
  have F:out[k]=((out[k]).toNat:Int):=by omega
  have p:(2:Nat) ^ s * 2 ^ (32 - s)=4294967296:=by rw [← cW,show s+(32 - s)=32 by omega]
  have r:=bY s
  have i:=bY (32 - s)
  -- the lower and the upper limb
  have t:x.toNat * 2 ^ s<4294967296 * 2 ^ s:=gN (by omega) r
  have G:2 ^ s≤2147483648:=by
   have:=fS (n:=2) (by decide) (show s≤31 by omega)
   omega
  have b:(x.toNat * 2 ^ s) % 4294967296=2 ^ s * (x.toNat % 2 ^ (32 - s)):=by
   rw [← p,bS x.toNat,iJ]
  have u:Wi .u32 out[k] (X6 .u32 x (s:Int))=(((x.toNat * 2 ^ s) % 4294967296+(out[k]).toNat:Nat):Int):=by
   rw [ex,Zsc hs (.inl rfl),Z2a,F]
   simp only [aB]
   rw [b]
   refine or32 s _ _ D ?_
   have:2 ^ s * (x.toNat % 2 ^ (32 - s)+1)≤2 ^ s * 2 ^ (32 - s):=aU _ (dR _ i)
   rw [p,dS] at this
   omega
  have v:u32.wrap (Yq .u64 (X6 .u64 (u64.wrap x) (s:Int)) 32)=((x.toNat * 2 ^ s / 4294967296:Nat):Int):=by
   rw [Xs (x:=x) (by omega),ex,Zsc hs (.inr rfl),Zg6,Xs (by omega)]
   simp only [aB]
   rw [Ua (by omega)]
   omega
  have j:x.toNat * 2 ^ s / 4294967296<2 ^ s:=(dE (by decide)).2 (by rw [bS (2 ^ s)];exact t)
  have e:(x.toNat * 2 ^ s) % 4294967296+(out[k]).toNat<4294967296:=by
   rw [b]
   have:2 ^ s * (x.toNat % 2 ^ (32 - s)+1)≤2 ^ s * 2 ^ (32 - s):=aU _ (dR _ i)
   rw [p,dS] at this
   omega
  rw [Zdg.eq_2,Zu d,oB,Zx (by omega),oB,Zx (by omega),E,aB,aB,
   Zu (by rw [nS];exact o),oB,oB,u,v]
  generalize hA:(x.toNat * 2 ^ s) % 4294967296+(out[k]).toNat=A at e
  generalize hB:x.toNat * 2 ^ s / 4294967296=B at j
  have H:Zo (out.set k (A:Int)):=a.set _ (by omega)
  have I:Zo ((out.set k (A:Int)).set (k+1) (B:Int)):=H.set _ (by omega)
  obtain ⟨out',q1,J,K,L,M⟩:=Zwa s hs l (k+1) ((out.set k (A:Int)).set (k+1) (B:Int)) q.tail (by rw [nS,nS];omega) (by rw [nS,nS];exact y) I (by
   rw [Qp _ (by omega),Qp _ (by omega)];exact g.2) (fun h=>by rw [fQ];simpa using j)
  refine ⟨out',q1,by rw [J,nS,nS],K,?_,M⟩
  have N:=Tc d (A:Int)
  have f:=Tc (l:=out.set k (A:Int)) (k:=k+1) (by rw [nS];exact o) (B:Int)
  rw [List.getElem_set_ne (by omega),g.1] at f
  rw [aB] at N f
  rw [eQ,dI,bO] at f
  rw [L,Wq]
  rw [aZ] at f ⊢
  have w:A+4294967296 * B=(out[k]).toNat+x.toNat * 2 ^ s:=by omega
  generalize 4294967296 ^ k=Q at *
  have O:Q * (A+4294967296 * B)=Q * ((out[k]).toNat+x.toNat * 2 ^ s):=by rw [w]
  grind
theorem Zwb {a:List Int} {s:Nat} (hs:s<32) (ha:Zo a) (hb:a.length<35184372088000):
  ∃ o,Zif a (s:Int)=some o∧o.length=a.length+1∧Zo o∧Zb o=2 ^ s * Zb a∧∀ h:o.length - 1<o.length,(o[o.length - 1]).toNat<2 ^ s:=by
 rw [Zif,Zr (by omega),Zx (by simp only [maxLen];omega)]
 have e:aA ((a.length:Int)+1)=a.length+1:=by omega
 rw [e]
 obtain ⟨o,q1,b,c,d,f⟩:=Zwa s hs a 0 (aC (a.length+1) 0) ha (by rw [aN];omega) (by rw [aN];omega) (.zeros _) (by rw [fV];exact Tt _) (fun h=>by
  rw [List.getElem_replicate];exact bY s)
 refine ⟨o,q1,by rw [b,aN],c,?_,f⟩
 rw [d,Tt,dH];omega
theorem Z5n (g:Int) (u:List Int):Zky g u=Zbt g u:=rfl
theorem Zuh (j0 n0:Nat) (v:List Int) (g:Int):∀ (l:List Int) (k:Nat) (u:List Int) (c:Int),Zdf j0 n0 v g l k u c=Sc j0 n0 v (u64.wrap (g - 1)) l k u c
 | [],k,u,c=>by rw [Zdf.eq_1,Sc.eq_1];rfl
 | x :: l,k,u,c=>by
  rw [Zdf.eq_2,Sc.eq_2]
  simp only [Zuh j0 n0 v g l]
theorem Zug (j0 n0:Nat) (v:List Int) (g:Int):∀ (l:List Int) (k:Nat) (u:List Int) (b c:Int),Q3 j0 n0 v g l k u b c=Uf j0 n0 v (u64.wrap (g - 1)) l k u b c
 | [],k,u,b,c=>by
  rw [Q3.eq_1,Uf.eq_1]
  simp only [Zuh,Z5n]
 | x :: l,k,u,b,c=>by
  rw [Q3.eq_2,Uf.eq_2]
  simp only [Zkz,Zff,Znz,Zk0,Zug j0 n0 v g l]
theorem Zwu {x:Int} (h:0≤x∧x<18446744073709551616):To .u64 x 4294967295=x % 4294967296:=by
 have e:x=(x.toNat:Int):=by omega
 rw [To,BitVec.toNat_and,e,Zhc _ _ (by simp only [IntKind.bits];omega),show (4294967295:Int)=((2 ^ 32 - 1:Nat):Int) by decide,Zhc _ _ (by simp only [IntKind.bits];omega),Nat.and_two_pow_sub_one_eq_mod,IntKind.wrap_u64]
 omega
theorem Z2i (S S' S2 Q e v x c c' L T:Nat) (h1:S'+Q * e=S+Q * v) (h2:c+(e+x)=v+4294967296 * c') (h3:S2+T=S'+Q * 4294967296 * (c'+L)):S2+T=S+Q * (c+(x+4294967296 * L)):=by
 have:Q * (c+(e+x))=Q * (v+4294967296 * c'):=by rw [h2]
 grind
theorem Zkf {l:List Int} {k j:Nat} (v:Int) (h:k<j):(l.set k v).drop j=l.drop j:=Qp v h
theorem Zuj (j0:Nat) (v:List Int) (g:Int):∀ (l:List Int) (k:Nat) (u:List Int) (c:Int),Zo l→k+l.length=v.length→Zo u→j0+v.length<u.length→0≤c∧c≤1→
  ∃ u' co,Sc j0 (v.length+1) v g l k u c=some (u32.wrap (u64.wrap (g - 1)),u')∧u'.length=u.length∧Zo u'∧u'.take j0=u.take j0∧u'.drop (j0+v.length+1)=u.drop (j0+v.length+1)∧Zb u'+co * 4294967296 ^ (j0+v.length+1)=Zb u+4294967296 ^ (j0+k) * (c.toNat+Zb l)
 | [],k,u,c,_,e,a,b,n=>by
  have i:k=v.length:=by simpa using e
  subst i
  have o:=a.get b
  rw [Sc.eq_1,Zx (by omega),show (j0:Int)+(v.length:Int)=((j0+v.length:Nat):Int) by omega,Zu b,oB,Zx (by omega),oB,oB,aB,Zbt,Ua (x:=c) (by omega)]
  have f:0≤u32.wrap (u[j0+v.length]+c)∧u32.wrap (u[j0+v.length]+c)<4294967296:=by rw [IntKind.wrap_u32];omega
  refine ⟨_,((u[j0+v.length]+c) / 4294967296).toNat,rfl,by rw [nS],a.set _ f,Zeh _ (by omega),Zkf _ (by omega),?_⟩
  have A:=Tc b (u32.wrap (u[j0+v.length]+c))
  have p:(u[j0+v.length]).toNat+c.toNat=(u32.wrap (u[j0+v.length]+c)).toNat+4294967296 * ((u[j0+v.length]+c) / 4294967296).toNat:=by rw [IntKind.wrap_u32];omega
  rw [aZ,Yn]
  generalize 4294967296 ^ (j0+v.length)=Q at *
  have B:Q * ((u[j0+v.length]).toNat+c.toNat)=Q * ((u32.wrap (u[j0+v.length]+c)).toNat+4294967296 * ((u[j0+v.length]+c) / 4294967296).toNat):=by rw [p]
  grind
 | x :: l,k,u,c,j,e,a,b,n=>by
  rw [nC] at e
  have d:j0+k<u.length:=by omega
  have o:=a.get d
  have C:=j.head
  rw [Sc.eq_2,Zx (by omega),show (j0:Int)+(k:Int)=((j0+k:Nat):Int) by omega,Zu d,oB,Zx (by omega),oB,oB,aB,Xs (x:=u[j0+k]) (by omega),Xs (x:=x) (by omega),Xs (x:=u[j0+k]+x) (by omega),Xs (by omega),Zg6]
  generalize hs:c+(u[j0+k]+x)=s
  have f:0≤u32.wrap s∧u32.wrap s<4294967296:=by rw [IntKind.wrap_u32];omega
  obtain ⟨u',co,q1,q,r,w,y,m⟩:=Zuj j0 v g l (k+1) (u.set (j0+k) (u32.wrap s)) (s / 4294967296) j.tail (by omega) (a.set _ f) (by rw [nS];exact b) (by omega)
  refine ⟨u',co,q1,by rw [q,nS],r,by rw [w,Zeh _ (by omega)],by rw [y,Zkf _ (by omega)],?_⟩
  rw [Wq]
  rw [← dU j0 k 1,aZ] at m
  exact Z2i _ _ _ _ _ _ _ _ _ _ _ (Tc d _) (by rw [IntKind.wrap_u32];omega) m
theorem Z8d (S S' S2 Q e w x g b b' c c' t L T:Nat) (h1:S'+Q * e=S+Q * w) (h2:c+g * x=t+4294967296 * c') (h3:e+4294967296 * b'=t+b+w) (h4:S2+Q * 4294967296 * (c'+b'+g * L)=S'+T):S2+Q * (c+b+g * (x+4294967296 * L))=S+T:=by
 have a:Q * (c+g * x)=Q * (t+4294967296 * c'):=by rw [h2]
 have d:Q * (e+4294967296 * b')=Q * (t+b+w):=by rw [h3]
 grind
theorem Zui (j0:Nat) (v:List Int) (g:Int) (hg:0≤g∧g<4294967296):∀ (l:List Int) (k:Nat) (u:List Int) (b c:Int),Zo l→k+l.length=v.length→Zo u→j0+v.length<u.length→0≤b∧b≤1→0≤c∧c<4294967296→
  ∃ u' over,over≤1∧Uf j0 (v.length+1) v g l k u b c=(if over=1 then Sc j0 (v.length+1) v g v 0 u' 0 else Zbt g u')∧u'.length=u.length∧Zo u'∧u'.take j0=u.take j0∧u'.drop (j0+v.length+1)=u.drop (j0+v.length+1)∧
   Zb u'+4294967296 ^ (j0+k) * (c.toNat+b.toNat+g.toNat * Zb l)=Zb u+over * 4294967296 ^ (j0+v.length+1)
 | [],k,u,b,c,_,m,e,i,s,w=>by
  have n:k=v.length:=by simpa using m
  subst n
  have y:=e.get i
  rw [Uf.eq_1,Zx (by omega),show (j0:Int)+(v.length:Int)=((j0+v.length:Nat):Int) by omega,Zu i,oB,Zx (by omega),oB,Zx (by omega),oB,oB,aB,Xs (x:=c+b) (by omega),Xs (x:=u[j0+v.length]) (by omega)]
  have j:0≤u32.wrap (u[j0+v.length] - u32.wrap (c+b))∧u32.wrap (u[j0+v.length] - u32.wrap (c+b))<4294967296:=by rw [IntKind.wrap_u32];omega
  have J:=Tc i (u32.wrap (u[j0+v.length] - u32.wrap (c+b)))
  have fin:∀ over:Nat,(u[j0+v.length]).toNat+4294967296 * over=c.toNat+b.toNat+(u32.wrap (u[j0+v.length] - u32.wrap (c+b))).toNat→Zb (u.set (j0+v.length) (u32.wrap (u[j0+v.length] - u32.wrap (c+b))))+4294967296 ^ (j0+v.length) * (c.toNat+b.toNat+g.toNat * Zb [])=Zb u+over * 4294967296 ^ (j0+v.length+1):=fun over A=>by
   rw [aZ,Yn]
   generalize 4294967296 ^ (j0+v.length)=Q at *
   have B:Q * ((u[j0+v.length]).toNat+4294967296 * over)=Q * (c.toNat+b.toNat+(u32.wrap (u[j0+v.length] - u32.wrap (c+b))).toNat):=by rw [A]
   grind
  by_cases hlt:u[j0+v.length]<c+b
  ·refine ⟨_,1,bB _,by rw [if_pos (by simpa using hlt),if_pos rfl],by rw [nS],e.set _ j,Zeh _ (by omega),Zkf _ (by omega),fin 1 (by rw [IntKind.wrap_u32,IntKind.wrap_u32];omega)⟩
  ·refine ⟨_,0,by decide,by rw [if_neg (by simpa using hlt),if_neg (by decide)],by rw [nS],e.set _ j,Zeh _ (by omega),Zkf _ (by omega),fin 0 (by rw [IntKind.wrap_u32,IntKind.wrap_u32];omega)⟩
 | x :: l,k,u,b,c,o,m,e,i,s,w=>by
  rw [nC] at m
  have d:j0+k<u.length:=by omega
  have y:=e.get d
  have p:=o.head
  have K:g * x≤4294967295 * 4294967295:=jQ (by omega) (by omega) (by omega) (by omega)
  have H:0≤g * x:=jR hg.1 p.1
  have I:((g.toNat * x.toNat:Nat):Int)=g * x:=by rw [bQ,bJ hg.1,bJ p.1]
  rw [Uf.eq_2,Zx (by omega),show (j0:Int)+(k:Int)=((j0+k:Nat):Int) by omega,Zu d,oB,Xs (x:=u[j0+k]) (by omega),Xs (x:=x) (by omega),Xs (x:=g * x) (by omega),Xs (x:=c+g * x) (by omega),Zwu (by omega)]
  generalize ht0:c+g * x=a
  rw [Xs (x:=a % 4294967296+b) (by omega)]
  have fin:∀ f:Int,0≤f∧f≤1→u[j0+k]+4294967296 * f=a % 4294967296+b+u32.wrap (u[j0+k] - u32.wrap (a % 4294967296+b))→
    ∃ u' over,over≤1∧Zff j0 (v.length+1) g u b k c (Uf j0 (v.length+1) v g l) x f=(if over=1 then Sc j0 (v.length+1) v g v 0 u' 0 else Zbt g u')∧u'.length=u.length∧Zo u'∧u'.take j0=u.take j0∧u'.drop (j0+v.length+1)=u.drop (j0+v.length+1)∧
     Zb u'+4294967296 ^ (j0+k) * (c.toNat+b.toNat+g.toNat * Zb (x :: l))=Zb u+over * 4294967296 ^ (j0+v.length+1):=fun f q B=>by
   have j:0≤u32.wrap (u[j0+k] - u32.wrap (a % 4294967296+b))∧u32.wrap (u[j0+k] - u32.wrap (a % 4294967296+b))<4294967296:=by rw [IntKind.wrap_u32];omega
   obtain ⟨u',over,q0,q1,C,D,F,G,r⟩:=Zui j0 v g hg l (k+1) (u.set (j0+k) (u32.wrap (u[j0+k] - u32.wrap (a % 4294967296+b)))) f (a / 4294967296) o.tail (by omega) (e.set _ j) (by rw [nS];exact i) q (by omega)
   refine ⟨u',over,q0,?_,by rw [C,nS],D,by rw [F,Zeh _ (by omega)],by rw [G,Zkf _ (by omega)],?_⟩
   ·rw [Zff,Zx (by omega),show (j0:Int)+(k:Int)=((j0+k:Nat):Int) by omega,Zu d,oB,Zx (by omega),oB,oB,aB,Xs (x:=x) (by omega),Xs (x:=g * x) (by omega),Xs (x:=c+g * x) (by omega),Zwu (by omega),ht0,Xs (x:=a % 4294967296+b) (by omega),Zg6,Zk0]
    exact q1
   ·rw [Wq]
    rw [← dU j0 k 1,aZ] at r
    exact Z8d _ _ _ _ _ _ _ _ _ _ _ _ (a % 4294967296).toNat _ _ (Tc d _) (by omega) (by omega) r
  by_cases hlt:u[j0+k]<a % 4294967296+b
  ·rw [if_pos (by simpa using hlt)]
   exact fin 1 (by omega) (by rw [IntKind.wrap_u32,IntKind.wrap_u32];omega)
  ·rw [if_neg (by simpa using hlt)]
   exact fin 0 (by omega) (by rw [IntKind.wrap_u32,IntKind.wrap_u32];omega)
structure Zj5 (U V E v1 v2 u2 top lU lV:Nat):Prop where
 hU:U=lU+E * (u2+4294967296 * top)
 hV:V=lV+E * (v2+4294967296 * v1)
 lu:lU<E
 lv:lV<E
 b2:u2<4294967296
 c2:v2<4294967296
 c1:v1<4294967296
 big:2147483648≤v1
 lt:U<4294967296 * V
namespace Zj5
variable {U V E v1 v2 u2 top lU lV:Nat} (t:Zj5 U V E v1 v2 u2 top lU lV)
include t
theorem Vpos:0<V:=by
 have:=t.lt
 have:=t.lu
 omega
theorem uE:U<E * 4294967296 * (top+1):=by
 have a:E * (u2+1)≤E * 4294967296:=aU _ t.b2
 have b:=t.hU;have:=t.lu
 have e:E * (u2+4294967296 * top)=E * u2+E * 4294967296 * top:=by grind
 rw [e] at b
 rw [dS] at a ⊢
 omega
theorem Eu:E * 4294967296 * top≤U:=by
 have a:=t.hU
 have e:E * (u2+4294967296 * top)=E * u2+E * 4294967296 * top:=by grind
 omega
theorem vE:V<E * 4294967296 * (v1+1):=by
 have a:E * (v2+1)≤E * 4294967296:=aU _ t.c2
 have b:=t.hV;have:=t.lv
 have e:E * (v2+4294967296 * v1)=E * v2+E * 4294967296 * v1:=by grind
 rw [dS] at a ⊢
 omega
theorem Ev:E * 4294967296 * v1≤V:=by
 have a:=t.hV
 have e:E * (v2+4294967296 * v1)=E * v2+E * 4294967296 * v1:=by grind
 omega
theorem Epos:0<E:=by have:=t.lu;omega
theorem first:U / V≤top / v1:=by
 have a:0<v1:=by have:=t.big;omega
 rw [eC a]
 have c:U / V * V≤U:=Nat.div_mul_le_self U V
 have d:U / V * (E * 4294967296 * v1)≤U / V * V:=aU _ t.Ev
 have b:E * 4294967296 * (U / V * v1)<E * 4294967296 * (top+1):=by
  have e:E * 4294967296 * (U / V * v1)=U / V * (E * 4294967296 * v1):=by
   generalize U / V=q
   grind
  rw [e]
  have:=t.uE
  omega
 have:=eU b
 omega
theorem quo:U / V<4294967296:=(dE t.Vpos).2 t.lt
theorem great {g r:Nat} (h:g * v1+r=top) (h2:r * 4294967296+u2<g * v2):U / V<g:=by
 rw [dE t.Vpos]
 have a:u2+4294967296 * top+1≤g * (v2+4294967296 * v1):=by
  have:4294967296 * (g * v1+r)=4294967296 * top:=by rw [h]
  have e:g * (v2+4294967296 * v1)=g * v2+4294967296 * (g * v1):=by grind
  rw [e];omega
 have b:=aU E a
 have c:E * (g * (v2+4294967296 * v1))≤g * V:=by
  have:=t.hV
  have e:g * V=g * lV+E * (g * (v2+4294967296 * v1)):=by rw [this];grind
  omega
 have:=t.hU;have:=t.lu
 rw [dS] at b
 omega
theorem fine {g r:Nat} (hg:g<4294967296) (h:g * v1+r=top) (h2:g * v2≤r * 4294967296+u2):g * V<U+V:=by
 have a:g * (v2+4294967296 * v1)≤u2+4294967296 * top:=by
  have:4294967296 * (g * v1+r)=4294967296 * top:=by rw [h]
  have e:g * (v2+4294967296 * v1)=g * v2+4294967296 * (g * v1):=by grind
  rw [e];omega
 have b:=aU E a
 have e:g * V=g * lV+E * (g * (v2+4294967296 * v1)):=by rw [t.hV];grind
 have c:g * lV≤4294967295 * E:=jS (by omega) (by have:=t.lv;omega)
 have d:E * 4294967296 * 1≤E * 4294967296 * v1:=aU _ (by have:=t.big;omega)
 have:=t.Ev;have:=t.hU;have:=t.Epos
 omega
theorem topv:top / 4294967296≤v1:=by
 have b:=t.Eu
 have c:=t.lt
 have d:=t.vE
 have a:E * 4294967296 * top<E * 4294967296 * (4294967296 * (v1+1)):=by
  have:E * 4294967296 * (4294967296 * (v1+1))=4294967296 * (E * 4294967296 * (v1+1)):=by grind
  omega
 have:=eU a
 omega
theorem over {g r:Nat} (h:g * v1+r=top) (hr:4294967296≤r):g<4294967296:=by
 have b:=t.topv
 have a:g * v1<4294967296 * v1:=by omega
 exact Nat.lt_of_mul_lt_mul_right a
theorem stop {g r:Nat} (h:g * v1+r=top) (hr:4294967296≤r):g * V<U+V:=by
 have b:=t.over h hr
 have a:=t.vE
 have c:g * V≤g * (E * 4294967296 * (v1+1)):=aU _ (iP a)
 have e:g * (E * 4294967296 * (v1+1))=E * 4294967296 * (g * v1+g):=by grind
 have d:E * 4294967296 * (g * v1+g)≤E * 4294967296 * top:=aU _ (by omega)
 have:=t.Eu;have:=t.Vpos
 omega
end Zj5
def Zsr (X:Option Ra) (R:Nat→Option Ra) (q U V:Nat):Prop:=∃ g:Nat,X=R g∧q≤g∧g<4294967296∧g * V<U+V
theorem Zuf (N j0:Nat) (u v:List Int) (hu:Zo u) (hv:Zo v) (hn:2≤v.length) (hl:j0+v.length<u.length) (hs:v.length<4611686018427387904) {U V E lU lV top q:Nat} (hq:U / V=q)
  (t:Zj5 U V E (v[v.length - 1]).toNat (v[v.length - 2]).toNat (u[j0+v.length - 2]).toNat top lU lV) (htop:top<18446744073709551616):
  ∀ (n g r:Nat),g * (v[v.length - 1]).toNat+r=top→q≤g→r<4294967296→4294967296≤r+2147483648 * n→
  Zsr (S4 N j0 (v.length+1) u v n (g:Int) (r:Int)) (fun g'=>Uf j0 (v.length+1) v (g':Int) v 0 u 0 0) q U V
 | 0,g,r,_,_,k,l=>by omega
 | n+1,g,r,c,m,k,l=>by
  have e:v.length - 1<v.length:=by omega
  have f:v.length - 2<v.length:=by omega
  have i:j0+v.length - 2<u.length:=by omega
  have A:=hv.get e
  have B:=hv.get f
  have C:=hu.get i
  have o:=t.big
  have w:g≤top:=by
   have:g * 1≤g * (v[v.length - 1]).toNat:=aU _ (by omega)
   omega
  -- one a
  have a:q<g→Zsr (Zkx j0 (v.length+1) u v (g:Int) (r:Int) (S4 N j0 (v.length+1) u v n)) (fun g'=>Uf j0 (v.length+1) v (g':Int) v 0 u 0 0) q U V:=fun y=>by
   have b:(g - 1) * (v[v.length - 1]).toNat+(r+(v[v.length - 1]).toNat)=top:=by
    have:(g - 1+1) * (v[v.length - 1]).toNat+r=top:=by rw [show g - 1+1=g by omega];exact c
    rw [bM] at this
    omega
   have j:u64.wrap ((g:Int) - 1)=((g - 1:Nat):Int):=by rw [Xs (by omega)];omega
   have p:u64.wrap ((r:Int)+u64.wrap v[v.length - 1])=((r+(v[v.length - 1]).toNat:Nat):Int):=by rw [Xs (x:=v[v.length - 1]) (by omega),Xs (by omega)];omega
   rw [Zkx,Zr (by omega),show (v.length:Int) - 1=((v.length - 1:Nat):Int) by omega,Zu e,oB,p,j]
   by_cases hb:4294967296≤r+(v[v.length - 1]).toNat
   ·rw [if_pos (dT (by omega)),Zug,j]
    exact ⟨g - 1,rfl,by omega,t.over b hb,t.stop b hb⟩
   ·rw [if_neg (dF (by omega))]
    exact Zuf N j0 u v hu hv hn hl hs hq t htop n (g - 1) (r+(v[v.length - 1]).toNat) b (by omega) (by omega) (by omega)
  have d:=t.quo
  rw [hq] at d
  rw [S4.eq_2]
  by_cases hgb2:4294967295<g
  ·rw [if_pos (dT (by omega)),Zfe,if_pos rfl]
   exact a (by omega)
  ·have D:g * (v[v.length - 2]).toNat≤4294967295 * 4294967295:=jS (by omega) (by omega)
   have s:(g:Int) * v[v.length - 2]=((g * (v[v.length - 2]).toNat:Nat):Int):=by
    rw [bQ];congr 1;omega
   rw [if_neg (dF (by omega)),if_pos (dT (by omega)),Zr (by omega),show (v.length:Int) - 2=((v.length - 2:Nat):Int) by omega,Zu f,oB,Zx (by omega),show (j0:Int)+((v.length - 2:Nat):Int)=((j0+v.length - 2:Nat):Int) by omega,Zu i,oB,Zfe,
    Xs (x:=u[j0+v.length - 2]) (by omega),Zpl (by omega) (by omega),Xs (x:=v[v.length - 2]) (by omega),s,Xs (by omega)]
   by_cases hc:r * 4294967296+(u[j0+v.length - 2]).toNat<g * (v[v.length - 2]).toNat
   ·rw [if_pos (dT (by omega))]
    exact a (by rw [← hq];exact t.great c hc)
   ·rw [if_neg (dF (by omega))]
    exact ⟨g,rfl,m,by omega,t.fine (by omega) c (by omega)⟩
theorem Zqo {u w:List Int} {j0 n P:Nat} (hP:4294967296 ^ (n+1)=P) (hl:j0+n<u.length) (hz:Zb (u.drop (j0+n+1))=0) (h1:w.length=u.length) (h2:Zo w) (h3:w.drop (j0+n+1)=u.drop (j0+n+1)):Zb (w.drop j0)<P:=by
 have:=Qe ((h2.drop j0).take (n+1))
 rw [nK,cG,aS (by omega),hP] at this
 have e:=Td (w.drop j0) (n+1)
 rw [hP,eR,← dU,h3,hz] at e
 omega
theorem Zuk {u w:List Int} {j0 n P Q x y:Nat} (hP:4294967296 ^ (n+1)=P) (hQ:4294967296 ^ j0=Q) (h4:w.take j0=u.take j0) (h:Zb w+Q * x=Zb u+y * 4294967296 ^ (j0+n+1)):Zb (w.drop j0)+x=Zb (u.drop j0)+y * P:=by
 have c:(4294967296:Nat) ^ (j0+n+1)=Q * P:=by rw [← hQ,← hP,← cW,dU]
 have d:0<Q:=by rw [← hQ];exact eW (by decide)
 have b:=Td u j0
 have a:=Td w j0
 rw [h4] at a
 rw [hQ] at b a
 rw [c,b,a] at h
 clear c hP hQ b a h4
 refine Nat.eq_of_mul_eq_mul_left d ?_
 grind
theorem Z5o {U V P q g over P1:Nat} (hq:U / V=q) (hV:0<V) (hg1:q≤g) (hg3:g * V<U+V) (k1:P1+g * V=U+over * P) (p1:P1<P):
  (over=0→g=q∧P1=U % V)∧(over=1→g=q+1∧∀ P2 co,V<P→P2<P→P2+co * P=P1+V→P2=U % V):=by
 have d:V * q+U % V=U:=by rw [← hq];exact gJ _ _
 have j:=dR U hV
 have a:∀ x y:Nat,x<y→x * V+V≤y * V:=fun x y e=>by
  have:=bH V (show x+1≤y from e)
  rw [bM,bR] at this;exact this
 rw [bS] at d
 constructor
 ·intro c
  subst c
  have b:g=q:=by
   have i:¬ q<g:=fun h=>by
    have:=a _ _ h
    omega
   omega
  subst b
  exact ⟨rfl,by omega⟩
 ·intro c
  subst c
  have b:g=q+1:=by
   have m:¬ g≤q:=fun h=>by
    have:=bH V h
    omega
   have i:¬ q+1<g:=fun h=>by
    have:=a _ _ h
    rw [bM,bR] at this
    omega
   omega
  refine ⟨b,fun P2 co k p2 n=>?_⟩
  have l:g * V=q * V+V:=by rw [b,bM,bR]
  have f:co=1:=by
   rcases Nat.lt_trichotomy co 1 with h | h | h
   ·have:co=0:=by omega
    subst this;omega
   ·exact h
   ·have:=bH P (show 2≤co from h)
    omega
  subst f
  omega
theorem Z5p {N j0:Nat} {u v:List Int} (hN:2≤N) (hu:Zo u) (hv:Zo v) (hn:2≤v.length) (hl:j0+v.length<u.length) (hs:u.length<4611686018427387904)
  (hz:Zb (u.drop (j0+v.length+1))=0) (hbig:2147483648≤(v[v.length - 1]).toNat) (hlt:Zb (u.drop j0)<4294967296 * Zb v):
  ∃ u',Zie N j0 (v.length+1) u v=some (((Zb (u.drop j0) / Zb v:Nat):Int),u')∧u'.length=u.length∧Zo u'∧u'.take j0=u.take j0∧Zb (u'.drop j0)=Zb (u.drop j0) % Zb v∧Zb (u.drop j0) / Zb v<4294967296:=by
 have f:v.length - 1<v.length:=by omega
 have r:v.length - 2<v.length:=by omega
 have s:j0+v.length - 2<u.length:=by omega
 have i:j0+v.length - 1<u.length:=by omega
 have c1:=hv.get f
 have c2:=hv.get r
 have c3:=hu.get s
 have c4:=hu.get i
 have c5:=hu.get hl
 -- the Ze above
 have O:Zb v=Zb (v.take (v.length - 2))+4294967296 ^ (v.length - 2) * ((v[v.length - 2]).toNat+4294967296 * (v[v.length - 1]).toNat):=by
  rw [Td v (v.length - 2),Uh r,show v.length - 2+1=v.length - 1 by omega,Uh f,show v.length - 1+1=v.length by omega,eE,Yn];simp
 have R:Zb (u.drop j0)=Zb ((u.drop j0).take (v.length - 2))+4294967296 ^ (v.length - 2) * ((u[j0+v.length - 2]).toNat+4294967296 * ((u[j0+v.length]).toNat * 4294967296+(u[j0+v.length - 1]).toNat)):=by
  have S:j0+(v.length - 2)=j0+v.length - 2:=by omega
  rw [Td (u.drop j0) (v.length - 2),eR,S,Uh s,show j0+v.length - 2+1=j0+v.length - 1 by omega,Uh i,show j0+v.length - 1+1=j0+v.length by omega,Uh hl,hz]
  congr 3
  omega
 have lV:=Qe (hv.take (v.length - 2))
 have lU:=Qe ((hu.drop j0).take (v.length - 2))
 rw [nK,aS (by omega)] at lV
 rw [nK,cG,aS (by omega)] at lU
 have t:Zj5 (Zb (u.drop j0)) (Zb v) (4294967296 ^ (v.length - 2)) (v[v.length - 1]).toNat (v[v.length - 2]).toNat (u[j0+v.length - 2]).toNat ((u[j0+v.length]).toNat * 4294967296+(u[j0+v.length - 1]).toNat) _ _:=
  ⟨R,O,lU,lV,by omega,by omega,by omega,hbig,hlt⟩
 have T:=t.Vpos
 have b:(u[j0+v.length]).toNat * 4294967296+(u[j0+v.length - 1]).toNat<18446744073709551616:=by omega
 obtain ⟨q,d⟩:∃ q,Zb (u.drop j0) / Zb v=q:=⟨_,rfl⟩
 obtain ⟨g,A,B,a2,C⟩:=Zuf N j0 u v hu hv hn hl (by omega) d t b N _ _ (Nat.div_add_mod' _ _) (by rw [← d];exact t.first) (aK (dR _ (by omega)) (by omega)) (by omega)
 have W:Zie N j0 (v.length+1) u v=Uf j0 (v.length+1) v (g:Int) v 0 u 0 0:=by
  refine Eq.trans ?_ A
  rw [Zie,Zx (by omega),show (j0:Int)+(v.length:Int)=((j0+v.length:Nat):Int) by omega,Zu hl,oB,Zr (by omega),show (v.length:Int) - 1=((v.length - 1:Nat):Int) by omega,Zx (by omega),
   show (j0:Int)+((v.length - 1:Nat):Int)=((j0+v.length - 1:Nat):Int) by omega,Zu i,oB,Zu f,oB,Xs (x:=v[v.length - 1]) (by omega),Zx (by omega),Zx (by omega),Xs (x:=u[j0+v.length]) (by omega),Xs (x:=u[j0+v.length - 1]) (by omega),Zpl (by omega) (by omega)]
  have ev:v[v.length - 1]=((v[v.length - 1]).toNat:Int):=by omega
  have X:u[j0+v.length] * 4294967296+u[j0+v.length - 1]=(((u[j0+v.length]).toNat * 4294967296+(u[j0+v.length - 1]).toNat:Nat):Int):=by omega
  rw [X,ev,bW (by omega),cD (by omega),← gO,← jF,aB]
  rw [Xs ⟨dZ _,eI.2 (dX (cM _ _) b)⟩]
 obtain ⟨j,over,q0,q1,D,k,l,F,m⟩:=Zui j0 v (g:Int) (by omega) v 0 u 0 0 hv (by omega) hu hl (by omega) (by omega)
 have a:=t.quo
 rw [d] at a ⊢
 rw [W,q1]
 obtain ⟨P,c⟩:∃ P:Nat,4294967296 ^ (v.length+1)=P:=⟨_,rfl⟩
 obtain ⟨Q,e⟩:∃ Q:Nat,4294967296 ^ j0=Q:=⟨_,rfl⟩
 simp only [bO,eQ,aB,cS] at m
 rw [e] at m
 have Y:=Zuk c e l m
 have p1:=Zqo c hl hz D k F
 have G:Zb v<P:=by
  have:=Qe hv
  have H:=Zqo (u:=v++[0]) (w:=v++[0]) (j0:=0) (n:=v.length) c (by simp) (by simp [Zb]) rfl (hv.app (.cons (by decide) .nil)) rfl
  rw [aR,Zxi] at H
  exact H
 have I:=Z5o d T B C Y p1
 by_cases ho:over=1
 ·obtain ⟨J,o⟩:=I.2 ho
  subst ho
  rw [if_pos rfl]
  obtain ⟨u2,K,Z,r2,L,M,r5,p⟩:=Zuj j0 v (g:Int) v 0 j 0 hv (by omega) k (by omega) (by omega)
  have p2:=Zqo c hl hz (by omega) L (by rw [r5,F])
  simp only [bO,eQ,cS] at p
  rw [e] at p
  have k2:=Zuk (u:=u2) (w:=j) (x:=Zb v) (y:=K) c e (by rw [M]) p.symm
  refine ⟨u2,?_,by omega,L,by rw [M,l],o _ K G p2 k2.symm,a⟩
  rw [Z,Xs (by omega),Ua (by omega)]
  congr 2;omega
 ·obtain ⟨J,o⟩:=I.1 (by omega)
  rw [if_neg ho,Zbt,Ua (by omega)]
  exact ⟨j,by rw [J],D,k,l,o,a⟩
def Zdd (N:Nat):Nat→R2→R2→Option R2
  | 0,_,_=>none
  | ac+1,ab,aa=>if (decide (0<(aa.length:Int)))=true then ((Zfb N ab aa).bind fun ad=>(Zdd N ac) aa ad.2.1) else (some ab)
def Zkw (N:Nat) (aa ab:List Int):Option R2:=
  (Uv N aa).bind fun ac=>(Uv N ab).bind fun ad=>Zdd N N ac ad
theorem Z3h {N ar au:Nat} {a0 a1:Option Addr} {col:Zd} {w0:World} {ak al r:R2} (c1:Nat) (hm:Zkw N ak al=some r) (h0:Sl rU col w0 a0 ar ak) (h1:Sl rU col w0 a1 au al):
    Calls prog 156 #[.slice a0 ak.length ar,.slice a1 al.length au] w0 (W2 .u32 45 c1 col w0 r):=by
 refine Z6 4 (m:=25) func156 rfl rfl rfl rfl rfl ?_;rw [Zkw.eq_1] at hm;have aa:=St.start col w0;refine go ?_;obtain ⟨a9,a3,hm⟩:=bZ hm;refine Zk (Sn 1 a3 (h0.k0.ks aa)) fun _ ba ⟨bb,bc,bd,e',a4,am⟩=>⟨_,e',?_⟩;refine Wo rfl ?_;obtain ⟨be,a5,hm⟩:=bZ hm;replace aa:=aa.grow a4;refine Zk (Sn 2 a5 (h1.k0.ks aa)) ?_;rintro _ bf ⟨bg,bh,bi,rfl,av,a6⟩;refine ⟨_,rfl,go ?_⟩;replace aa:=aa.grow av;refine Zs [1000000] (fun n f ag=>∃ ac an ao ai ap aq aj ae,ae=n∧Zdd N ae ai aj=some r∧St w0 (Zf col) ac ag∧Zc rU 45 1 ac ag an ao ai∧Zc rU 45 2 ac ag ap aq aj∧[0,1].map f=[.slice an ai.length ao,.slice ap aj.length aq]) N ⟨_,_,_,_,_,_,_,_,rfl,hm,aa,am.gr av,a6,rfl⟩ ?_;clear hm;intro n f ag hI;obtain ⟨ac,an,ao,ai,ap,aq,aj,ae,hn,hm,aa,aw,ab,hs⟩:=hI;subst hn;refine .lL [0,1] hs ?_
 cases ae with
 | zero=>rw [Zdd.eq_1] at hm;cases hm
 | succ ae=>
  rw [Zdd.eq_2] at hm;refine go ?_;refine Zm hm (fun hb hm=>go ?_) fun hb hm=>go ?_
  ·obtain ⟨af,a7,hm⟩:=bZ hm;refine Zk (Zp4 3 4 a7 ((aw.toSlF (Zh.int .u32)).froz 2) ((ab.froz 1).toSlF (Zh.int .u32))) fun _ bj ⟨a8,ax,ay,az,a2,e',ah,bk,ad⟩=>⟨_,e',?_⟩;replace ad:=ad.thaw (Z3 .u32) ah (((Fz.refl (col:=ac)).froz 1).froz 2);replace ah:=ah.thawR (col:=ac);generalize Xj ag.heap.size ac a8=bm at *;refine lM (.tuple #[.slice ax af.1.length ay,.slice az af.2.1.length a2,.int .i64 af.2.2])<|lV (.slice ax af.1.length ay) (Xu rfl rfl)<|lV (.slice az af.2.1.length a2) (Xu rfl rfl)<|lV (.int .i64 af.2.2) (Xu rfl rfl)<|go ?_;replace ab:=ab.gr ah;replace ab:=ab.recolSelf 1 (by decide);replace ad:=ad.recol 2 1;replace aa:=aa.grow ah;replace aa:=aa.recol 2 1 (by decide) (by decide);replace ad:=ad.recolSelf 2 (by decide);replace aa:=aa.recol 4 2 (by decide) (by decide);exact ⟨ae,by omega,rfl,⟨_,_,_,_,_,_,_,_,rfl,hm,aa,ab.recol 4 2,ad,rfl⟩⟩
  cases hm;exact ⟨rfl,_,_,_,rfl,aa.fin (cm [(1,c1)]),aa.fo aw⟩
theorem Z11 (N:Nat):∀ (n:Nat) (a:List Int),Zbv N n a=Se N n a
 | 0,a=>rfl
 | n+1,a=>by
  rw [Zbv.eq_2,Se.eq_2]
  simp only [Zk2,Zbu,Z11 N n]
theorem Z12 {N:Nat} {a:List Int} (h:Zo a) (hn:a.length<N) (hb:a.length≤35184372088000):Zfh N a=some (Ze (Zb a)):=by
 rw [Zfh,Z11];exact Zpk N N a h hn (by omega)
theorem Z9x {x L nx s:Nat} (hs:s<32) (hx:x<4294967296) (hn:nx=L % 4294967296):(x+4294967296 * L) / 2 ^ s=(x+4294967296 * nx) / 2 ^ s % 4294967296+4294967296 * (L / 2 ^ s):=by
 have a:(2:Nat) ^ s * 2 ^ (32 - s)=4294967296:=by rw [← cW,show s+(32 - s)=32 by omega]
 have b:=bY s
 generalize 2 ^ s=p at *
 generalize 2 ^ (32 - s)=r at *
 have c:(x+4294967296 * L) / p / 4294967296=L / p:=by
  rw [eD,bS p,← eD]
  congr 1
  omega
 have d:(x+4294967296 * L) / p % 4294967296=(x+4294967296 * nx) / p % 4294967296:=by
  have e:x+4294967296 * L=x+4294967296 * nx+p * (4294967296 * (r * (L / 4294967296))):=by
   have g:L=nx+4294967296 * (L / 4294967296):=by omega
   have f:p * (4294967296 * (r * (L / 4294967296)))=4294967296 * (p * r) * (L / 4294967296):=by grind
   rw [f,a]
   omega
  rw [e,fW _ _ b,gW]
 rw [← c,← d]
 omega
theorem Zun (N s:Nat) (hs:s<32) (q r:List Int) (hq:Zo q) (hr:Zo r) (hN:q.length<N∧r.length<N) (hb:q.length≤35184372088000∧r.length≤35184372088000):∀ (n i:Nat) (u d:List Int),i≤r.length→r.length<n+i→u=d++r.drop i→d.length=i→Zo d→Zb d+4294967296 ^ i * (Zb (r.drop i) / 2 ^ s)=Zb r / 2 ^ s→
  S3 N (s:Int) q r n u (i:Int)=some (Ze (Zb q),Ze (Zb r / 2 ^ s),0)
 | 0,i,u,d,m,o,_,_,_,_=>by omega
 | n+1,i,u,d,m,o,b,c,e,j=>by
  have y:u.length=r.length:=by rw [b,nA,cG];omega
  rw [S3.eq_2]
  by_cases hi:i<r.length
  ·have f:=aL hi
   have g:=hr.get hi
   have p:u[i]'(by omega)=r[i]:=by
    subst b
    rw [eX (by omega)]
    simp [c]
   have step:∀ a:Nat,a=Zb (r.drop (i+1)) % 4294967296→Zic (s:Int) u (i:Int) (S3 N (s:Int) q r n) (a:Int)=some (Ze (Zb q),Ze (Zb r / 2 ^ s),0):=fun a l=>by
    have t:u32.wrap (Yq .u64 (Wi .u64 (X6 .u64 (u64.wrap (a:Int)) 32) (u64.wrap r[i])) (s:Int))=(((r[i]).toNat+4294967296 * a) / 2 ^ s % 4294967296:Nat):=by
     rw [Xs (x:=(a:Int)) (by omega),Xs (x:=r[i]) (by omega),Zpl (by omega) (by omega),show (a:Int) * 4294967296+r[i]=(((r[i]).toNat+4294967296 * a:Nat):Int) by omega,Zpe _ _ _ (by simp only [IntKind.bits];omega),Z2a]
    have k:u.set i ((((r[i]).toNat+4294967296 * a) / 2 ^ s % 4294967296:Nat):Int)=(d++[((((r[i]).toNat+4294967296 * a) / 2 ^ s % 4294967296:Nat):Int)])++r.drop (i+1):=by
     subst b
     rw [f,eJ _ _ (by omega),c,fB,fX]
     simp
    rw [Zic,Zu (by omega),oB,Zx (by omega),p,t,oB,Zny,Zr (by omega),aB,k]
    have v:=Zun N s hs q r hq hr hN hb n (i+1) _ (d++[((((r[i]).toNat+4294967296 * a) / 2 ^ s % 4294967296:Nat):Int)]) (by omega) (by omega) rfl (by simp [c]) (e.app (.cons (by omega) .nil)) (by
     rw [Qd,c,Wq,Yn,aB,← j,f,Wq,Z9x hs (by omega) l,aZ]
     generalize ((r[i]).toNat+4294967296 * a) / 2 ^ s % 4294967296=A
     generalize Zb (r.drop (i+1)) / 2 ^ s=C
     grind)
    exact v
   rw [if_pos (dT (by omega)),Zr (by omega)]
   by_cases hi1:i+1<r.length
   ·have w:u[i+1]'(by omega)=r[i+1]:=by
     subst b
     rw [eX (by omega)]
     simp [c]
    have B:=hr.get hi1
    rw [if_pos (dT (by omega)),show (i:Int)+1=((i+1:Nat):Int) by omega,Zu (by omega),oB,w,show r[i+1]=((r[i+1]).toNat:Int) by omega]
    exact step _ (by rw [Uh hi1];omega)
   ·rw [if_neg (dF (by omega))]
    have:=step 0 (by rw [aG (by omega)];rfl)
    exact this
  ·have:i=r.length:=by omega
   subst this
   rw [if_neg (dF (by omega))]
   rw [eE,cL] at b
   rw [eE,Yn,Nat.zero_div,dI,bO] at j
   subst b
   rw [Qf hq hN.1 hb.1,oB,Qf e (by omega) (by omega),oB,j]
theorem Zum (N s:Nat) (v:List Int) (hN:2≤N) (hv:Zo v) (hn:2≤v.length) (hbig:2147483648≤(v[v.length - 1]).toNat):∀ (n j:Nat) (u q:List Int),j≤q.length→j<n→u.length=q.length+v.length→u.length<4611686018427387904→Zo u→Zo q→Zb (u.drop j)<Zb v→Zb (q.take j)=0→
  ∃ u' q',Zfc N (s:Int) v n u q ((j:Int) - 1)=((Zfh N u').bind fun r=>S3 N (s:Int) q' r N r 0)∧u'.length=u.length∧q'.length=q.length∧Zo u'∧Zo q'∧Zb u'<Zb v∧Zb v * Zb q'+Zb u'=Zb v * Zb q+Zb u
 | 0,j,u,q,_,h,_,_,_,_,_,_=>by omega
 | n+1,j,u,q,Z,Y,C,D,d,e,f,E=>by
  rw [Zfc.eq_2]
  by_cases h0:j=0
  ·subst h0
   rw [if_neg (by decide)]
   exact ⟨u,q,rfl,rfl,rfl,d,e,by simpa using f,rfl⟩
  ·have i:j - 1+1=j:=by omega
   have k:j - 1<u.length:=by omega
   have c:j - 1<q.length:=by omega
   have g:=d.get k
   have lv:=Qe hv
   have F:=Td (u.drop j) v.length
   rw [eR] at F
   have l:Zb (u.drop (j - 1+v.length+1))=0:=by
    rw [show j - 1+v.length+1=j+v.length by omega]
    rcases eY (Zb (u.drop (j+v.length))) with h | h
    ·exact h
    ·have:=aU (4294967296 ^ v.length) h
     generalize 4294967296 ^ v.length=P at *
     omega
   have G:=Uh k
   rw [i] at G
   obtain ⟨u',q1,m,H,I,o,J⟩:=Z5p (N:=N) (j0:=j - 1) hN d hv hn (by omega) D l hbig (by omega)
   have p:0≤((Zb (u.drop (j - 1)) / Zb v:Nat):Int)∧((Zb (u.drop (j - 1)) / Zb v:Nat):Int)<4294967296:=⟨dZ _,eI.2 J⟩
   rw [if_pos (dT (by omega)),show (j:Int) - 1=((j - 1:Nat):Int) by omega,Zr (x:=((j - 1:Nat):Int)+(v.length:Int)) (by omega),Zr (by omega),Zx (by omega),aB,
    show aA (((j - 1:Nat):Int)+(v.length:Int)+1) - (j - 1)=v.length+1 by omega,q1,oB,Zu c,oB,oB,Zr (by omega)]
   have K:0<Zb v:=by omega
   -- the quotient's limb was 0
   have t:q[j - 1]=0∧Zb (q.take (j - 1))=0:=by
    have:=Zrj c
    rw [i,E] at this
    have g2:=e.get c
    have hp:0<4294967296 ^ (j - 1):=eW (by decide)
    have L:4294967296 ^ (j - 1) * (q[j - 1]).toNat=0:=by omega
    rcases Nat.mul_eq_zero.1 L with h | h
    ·omega
    ·exact ⟨by omega,by omega⟩
   obtain ⟨M,w,O,R,S,T,U,V,W⟩:=Zum N s v hN hv hn hbig n (j - 1) u' (q.set (j - 1) ((Zb (u.drop (j - 1)) / Zb v:Nat):Int)) (by rw [nS];omega) (by omega) (by rw [nS,m];exact C) (by omega) H (e.set _ p) (by rw [o];exact dR _ K) (by rw [Zeh _ (bB _)];exact t.2)
   refine ⟨M,w,O,by rw [R,m],by rw [S,nS],T,U,V,?_⟩
   rw [W]
   have X:=Td u (j - 1)
   have y:=Td u' (j - 1)
   rw [I,o] at y
   have A:=Tc c ((Zb (u.drop (j - 1)) / Zb v:Nat):Int)
   rw [t.1,eQ,dI,bO,aB] at A
   rw [y,A,X]
   have B:=gJ (Zb (u.drop (j - 1))) (Zb v)
   generalize Zb (u.drop (j - 1)) / Zb v=a at *
   generalize Zb (u.drop (j - 1)) % Zb v=b at *
   rw [← B]
   generalize 4294967296 ^ (j - 1)=Q at *
   grind
theorem Z1y {l:List Int} (h:0<l.length):Zb l=Zb (l.take (l.length - 1))+4294967296 ^ (l.length - 1) * (l[l.length - 1]).toNat:=by
 conv=>lhs;rw [← Zhj h,Qd,Wq,Yn]
 rw [nK,aS (by omega),dI,bO]
theorem Z1z {l:List Int} (hl:Zo l):Zb (l.take (l.length - 1))<4294967296 ^ (l.length - 1):=by
 have:=Qe (hl.take (l.length - 1))
 rw [nK,aS (by omega)] at this
 exact this
theorem Z5s {u:List Int} {k n S:Nat} (hu:Zo u) (hk:k+n=u.length) (hn:0<n) (ht:∀ h:u.length - 1<u.length,(u[u.length - 1]).toNat<S):Zb (u.drop k)<4294967296 ^ (n - 1) * S:=by
 have a:(u.drop k).length=n:=by rw [cG];omega
 have b:=Z1y (l:=u.drop k) (by omega)
 have c:=Z1z (hu.drop k)
 have d:((u.drop k)[(u.drop k).length - 1]'(by omega))=u[u.length - 1]'(by omega):=by
  have:(u.drop k)[(u.drop k).length - 1]?=u[u.length - 1]?:=by rw [List.getElem?_drop,a];congr 1;omega
  rw [aI (by omega),aI (by omega)] at this
  exact Option.some.inj this
 rw [d] at b
 rw [a] at b c
 have e:=ht (by omega)
 have f:=aU (4294967296 ^ (n - 1)) (show (u[u.length - 1]'(by omega)).toNat+1≤S from e)
 rw [dS] at f
 omega
theorem Zng {N:Nat} {a b:List Int} (ha:Zo a) (hb:Zo b) (hN:a.length+b.length+4<N) (hs:a.length+b.length≤35184372088000):
  Zfb N a b=some (if Zb b=0 then ([],[],11) else (Ze (Zb a / Zb b),Ze (Zb a % Zb b),0)):=by
 have la:=Yh ha
 have lb:=Yh hb
 rw [Zfb,Ql ha (by omega) (by omega),oB,Ql hb (by omega) (by omega),oB]
 generalize hA:Zb a=A at *
 generalize hB:Zb b=B at *
 by_cases h0:B=0
 ·subst h0
  rw [Ve,if_pos (by decide),if_pos rfl]
 ·have f:0<(Ze B).length:=cB.2 (fun h=>h0 (Zhk.1 h))
  rw [if_neg (dF (by omega)),if_neg h0,Zqk (Xc _) (Xc _) (by omega) (by omega) (by omega) (by omega),oB,Xd,Xd]
  by_cases hlt:A<B
  ·rw [if_pos hlt,if_pos (by decide),Qf (Xc _) (by omega) (by omega),oB,Xd,dV hlt,dJ hlt,Ve]
  ·rw [if_neg hlt,if_neg (by split <;> decide)]
   have a5:(Ze B).length≤(Ze A).length:=by
    have i:=W7 (k:=(Ze A).length) (n:=B)
    have c:=W7 (k:=(Ze A).length) (n:=A)
    have:=c.1 (bB _)
    exact i.2 (by omega)
   by_cases i:(Ze B).length=1
   ·have g:=(Xc B).get f
    have v:=Znp f
    have e0:(Ze B).length - 1=0:=by omega
    have a7:(Ze B)[0]≠0:=by
     have:(Ze B)[(Ze B).length - 1]?=(Ze B)[0]?:=by rw [e0]
     rw [aI (by omega),aI (by omega)] at this
     rw [← Option.some.inj this];exact v
    have I:((Ze B)[0]).toNat=B:=by
     have c:=Xd B
     have C:=Uh (l:=Ze B) (k:=0) f
     rw [aR,c,aG (by omega),Yn] at C
     omega
    obtain ⟨q,q1,q2,q3,J⟩:=Z90 (N:=N) (a:=Ze A) (d:=(Ze B)[0]) (by omega) (Xc _) (by omega) (by omega)
    rw [I,Xd] at q1 J
    have hm:=dR A (show 0<B by omega)
    have D:B<4294967296:=by omega
    have K:Zo [((A % B:Nat):Int)]:=.cons ⟨dZ _,eI.2 (kE hm D)⟩ .nil
    rw [if_pos (dT (by omega)),Zqi (by omega),oB,show (0:Int)=((0:Nat):Int) from rfl,Zu f,oB,q1,oB,Qf q3 (by omega) (by omega),oB,Qf K (by simp;omega) (by simp),oB,J,Wq,Yn,aB,dI,bO]
   ·have L:0<(Ze B).length:=f
    have M:(Ze B).length - 1<(Ze B).length:=by omega
    have g:=(Xc B).get M
    have v:=Znp f
    obtain ⟨k,ek,k1,k2⟩:=Zm2 (show ((Ze B)[(Ze B).length - 1]).toNat≠0 by omega)
    have hk:k≤31:=by
     have:Xo ((Ze B)[(Ze B).length - 1]).toNat≤32:=V7.2 (by omega)
     omega
    obtain ⟨s,O⟩:∃ s,s=31 - k:=⟨_,rfl⟩
    have Q:Zkr (Ze B)[(Ze B).length - 1]=some (s:Int):=by
     rw [Zkr,show (Ze B)[(Ze B).length - 1]=(((Ze B)[(Ze B).length - 1]).toNat:Int) by omega,Zwc (by omega),oB,ek,Zr (by omega)]
     congr 1;omega
    obtain ⟨u,u1,u2,R,S,u5⟩:=Zwb (a:=Ze A) (s:=s) (by omega) (Xc _) (by omega)
    obtain ⟨w,w1,w2,w3,T,w5⟩:=Zwb (a:=Ze B) (s:=s) (by omega) (Xc _) (by omega)
    rw [Xd] at S T
    have j:=bY s
    -- the divisor, its highest Yt set
    have U:=Zhj L
    have V:=Qe ((Xc B).take ((Ze B).length - 1))
    rw [nK,aS (by omega)] at V
    have I:B=Zb ((Ze B).take ((Ze B).length - 1))+4294967296 ^ ((Ze B).length - 1) * ((Ze B)[(Ze B).length - 1]).toNat:=by
     conv=>lhs;rw [← Xd B,← U,Qd,Wq,Yn]
     rw [nK,aS (by omega)];simp
    have W:2 ^ k * 2 ^ s=2147483648:=by rw [← cW,O,show k+(31 - k)=31 by omega]
    have X:2 ^ (k+1) * 2 ^ s=4294967296:=by rw [aZ,Nat.mul_right_comm,W]
    have c2:0<4294967296 ^ ((Ze B).length - 1):=eW (by decide)
    have b7:(Ze B).length - 1+1=(Ze B).length:=by omega
    have Y:(4294967296:Nat) ^ (Ze B).length=4294967296 ^ ((Ze B).length - 1) * 4294967296:=by rw [← aZ];congr 1;omega
    generalize hPe:4294967296 ^ ((Ze B).length - 1)=P at *
    have b8:P * 2147483648≤2 ^ s * B:=by
     have i:=aU P k1
     have c:=bH (2 ^ s) (show P * 2 ^ k≤B by omega)
     rw [bP,W] at c
     rw [bS (2 ^ s)];exact c
    have E:2 ^ s * B<P * 4294967296:=by
     have i:=aU P (show ((Ze B)[(Ze B).length - 1]).toNat+1≤2 ^ (k+1) from k2)
     rw [dS] at i
     have c:=gN (show B<P * 2 ^ (k+1) by omega) j
     rw [bP,X] at c
     rw [bS (2 ^ s)];exact c
    have Z:(Ze (2 ^ s * B)).length=(Ze B).length:=by
     have i:(Ze (2 ^ s * B)).length≤(Ze B).length:=W7.2 (by rw [Y];exact E)
     have c:¬ (Ze (2 ^ s * B)).length≤(Ze B).length - 1:=fun h=>by
      have:=W7.1 h
      rw [hPe] at this
      have:P * 1≤P * 2147483648:=aU _ (by decide)
      omega
     omega
    have a0:0<(Ze (2 ^ s * B)).length:=by omega
    have F:2147483648≤((Ze (2 ^ s * B))[(Ze (2 ^ s * B)).length - 1]).toNat:=by
     have a1:=Z1z (Xc (2 ^ s * B))
     have e:=Z1y a0
     have y:(4294967296:Nat) ^ ((Ze (2 ^ s * B)).length - 1)=P:=by rw [Z];exact hPe
     rw [Xd,y] at e
     rw [y] at a1
     generalize Zb ((Ze (2 ^ s * B)).take ((Ze (2 ^ s * B)).length - 1))=lo at *
     generalize ((Ze (2 ^ s * B))[(Ze (2 ^ s * B)).length - 1]).toNat=t at *
     have C:P * 2147483648<P * (t+1):=by rw [dS];omega
     have:=eU C
     omega
    obtain ⟨q,m⟩:∃ q,q=aC ((Ze A).length - (Ze B).length+1) (0:Int):=⟨_,rfl⟩
    have lq:q.length=(Ze A).length - (Ze B).length+1:=by rw [m,aN]
    rw [if_neg (dF (by omega)),Zr (x:=((Ze B).length:Int) - 1) (by omega),show ((Ze B).length:Int) - 1=(((Ze B).length - 1:Nat):Int) by omega,Zu M,oB,Q,oB,u1,oB,w1,oB,
     Z12 w3 (by omega) (by omega),oB,T,Zr (x:=((Ze A).length:Int) - ((Ze B).length:Int)) (by omega),Zr (x:=((Ze A).length:Int) - ((Ze B).length:Int)+1) (by omega),Zx (by simp only [maxLen];omega),
     show aA (((Ze A).length:Int) - ((Ze B).length:Int)+1)=(Ze A).length - (Ze B).length+1 by omega,← m,Zr (x:=(q.length:Int) - 1) (by omega)]
    obtain ⟨u',q',r1,r2,r3,r4,r5,G,p⟩:=Zum N s (Ze (2 ^ s * B)) (by omega) (Xc _) (by omega) F N q.length u q (bB _) (by omega) (by omega) (by omega) R (by rw [m];exact .zeros _) (by
     -- the highest Ze are below the divisor
     rw [Xd]
     have i:=Z5s (k:=q.length) (n:=(Ze B).length) R (by omega) L u5
     rw [hPe] at i
     have H:2 ^ s≤2147483648:=by
      have:=fS (n:=2) (by decide) (show s≤31 by omega)
      omega
     have h8:=aU P H
     omega) (by rw [m,List.take_replicate];exact Tt _)
    rw [r1,Z12 r4 (by omega) (by omega),oB]
    rw [Xd] at G p
    have zq:Zb q=0:=by rw [m];exact Tt _
    rw [zq,S,dI,cS] at p
    have ll:=Yh r4
    have o:=Zun N s (by omega) q' (Ze (Zb u')) r5 (Xc _) (by omega) (by omega) N 0 (Ze (Zb u')) [] (by omega) (by omega) (by simp) rfl .nil (by rw [Yn,aR,dH];omega)
    rw [show ((0:Nat):Int)=0 from rfl] at o
    rw [o,Xd]
    have a3:Zb q'=A / B:=by
     have r:2 ^ s * A / (2 ^ s * B)=Zb q':=by
      rw [← p,jK (by omega),dV G,bO]
     rw [← r,Nat.mul_div_mul_left _ _ j]
    have a4:Zb u' / 2 ^ s=A % B:=by
     have r:2 ^ s * A % (2 ^ s * B)=Zb u':=by
      rw [← p,jL,dJ G]
     rw [iJ] at r
     rw [← r,Nat.mul_div_cancel_left _ j]
    rw [a3,a4]
theorem Z6w {x y:Nat} (h:y≤x) (hy:0<y):y * (x % y)≤x * y / 2:=by
 have c:x % y+y≤x:=by
  have:=Nat.mod_add_div x y
  have a:y * 1≤y * (x / y):=aU _ (Nat.div_pos h hy)
  omega
 have a:=dR x hy
 have b:y * (2 * (x % y))≤y * x:=aU _ (by omega)
 rw [eC (by decide),bS x y,bP,bS (x % y) 2]
 exact b
theorem Zqu (N:Nat):∀ (n x y:Nat),y≤x→Xo (x * y)<n→(Ze x).length+(Ze y).length+4<N→(Ze x).length+(Ze y).length≤35184372088000→Zdd N n (Ze x) (Ze y)=some (Ze (cR x y))
 | 0,x,y,_,h,_,_=>by omega
 | n+1,x,y,a,i,c,d=>by
  rw [Zdd.eq_2]
  by_cases h0:y=0
  ·subst h0
   rw [Ve,if_neg (by decide),Nat.gcd_zero_right]
  ·have j:0<(Ze y).length:=cB.2 (fun h=>h0 (Zhk.1 h))
   have b:=dR x (show 0<y by omega)
   have k:(Ze (x % y)).length≤(Ze y).length:=W7.2 (kE b (W7.1 (bB _)))
   have l:(Ze y).length≤(Ze x).length:=W7.2 (dX a (W7.1 (bB _)))
   rw [if_pos (dT (by omega)),Zng (Xc _) (Xc _) c d,oB,Xd,Xd,if_neg h0]
   have e:Xo (y * (x % y))<n:=by
    have f:=Z6w a (by omega)
    have g:Xo (y * (x % y))≤Xo (x * y / 2 ^ 1):=V7.2 (dX (by rw [Nat.pow_one];exact f) (V7.1 (bB _)))
    rw [Zj8] at g
    have m:0<x * y:=gG (by omega) (by omega)
    have o:0<Xo (x * y):=by
     rcases eY (Xo (x * y)) with h | h
     ·have:=V7.1 (show Xo (x * y)≤0 by omega)
      omega
     ·exact h
    omega
   have:=Zqu N n y (x % y) (iP b) e (by omega) (by omega)
   rw [this,eS x y,Nat.gcd_rec y x,eS]
theorem Zsx (x y:Nat):Xo (x * y)≤Xo x+Xo y:=by
 refine V7.2 ?_
 rw [cW]
 have a:=V7.1 (bB (Xo x))
 have b:=V7.1 (bB (Xo y))
 exact jG a b
theorem Z6v {N:Nat} {a b:List Int} (ha:Zo a) (hb:Zo b) (hN:32 * (a.length+b.length)+8<N) (hs:a.length+b.length≤35184372088000):Zkw N a b=some (Ze (cR (Zb a) (Zb b))):=by
 have e:=Yh ha
 have f:=Yh hb
 have g:=(Zm0 (Zb a)).2
 have i:=(Zm0 (Zb b)).2
 rw [Zkw,Qf ha (by omega) (by omega),oB,Qf hb (by omega) (by omega),oB]
 by_cases h:Zb b≤Zb a
 ·have:=Zsx (Zb a) (Zb b)
  exact Zqu N N _ _ h (by omega) (by omega) (by omega)
 ·have d:Zb a<Zb b:=by omega
  have j:=Zsx (Zb b) (Zb a)
  have k:0<(Ze (Zb b)).length:=cB.2 (fun h=>by have:=Zhk.1 h;omega)
  obtain ⟨c,rfl⟩:∃ c,N=c+1:=⟨N - 1,by omega⟩
  rw [Zdd.eq_2,if_pos (dT (by omega)),Zng (Xc _) (Xc _) (by omega) (by omega),oB,Xd,Xd,if_neg (by omega),dJ d,
   Zqu (c+1) c _ _ (by omega) (by omega) (by omega) (by omega),eS]
abbrev ZV:=Bool×List Int
abbrev QV:=R4×List Int
def Zz (a:ZV):Int:=if a.1=true then -(Zb a.2:Int) else (Zb a.2:Int)
def Xv (z:Int):ZV:=(decide (z<0),Ze z.natAbs)
def Yf (l:List Int):Nat:=if Zb l=0 then 1 else Zb l
def Xm (a:QV):Rat:=mkRat (Zz a.1) (Yf a.2)
def Z2 (q:Rat):QV:=(Xv q.num,Ze q.den)
structure RV (k:Nat) (a:QV):Prop where
 m:Zo a.1.2
 d:Zo a.2
 lm:a.1.2.length≤k
 ld:a.2.length≤k
def qs (q:Rat):Nat:=max (Ze q.num.natAbs).length (Ze q.den).length
def Xg (N s:Nat):Prop:=200 * (s+4)<N∧s≤1066000000000
theorem Zcj (a:ZV):(Zz a).natAbs=Zb a.2:=by
 rw [Zz];split <;> omega
theorem Ub (z:Int):Zz (Xv z)=z:=by
 rw [Zz,Xv]
 simp only [Xd,decide_eq_true_eq]
 split <;> omega
theorem Zl2 (n:Bool) (m:List Int):Xv (Zz (n,m))=(n&&decide (Zb m≠0),Ze (Zb m)):=by
 rw [Xv,Zcj]
 congr 1
 rw [Zz]
 cases n
 ·rw [if_neg (fun h=>by cases h),Bool.false_and]
  exact decide_eq_false (by omega)
 ·rw [if_pos rfl,Bool.true_and]
  exact decide_eq_decide.2 (by simp only;omega)
theorem Ue (z:Int):Zo (Xv z).2:=Xc _
theorem U6 (l:List Int):Yf l≠0:=by rw [Yf];split <;> omega
theorem Z5t {n:Nat} (h:n≠0):Yf (Ze n)=n:=by rw [Yf,Xd,if_neg h]
theorem Te (q:Rat):Xm (Z2 q)=q:=by
 rw [Xm,Z2]
 simp only [Ub,Z5t q.den_nz]
 exact Rat.mkRat_self q
theorem Zsa (q:Rat):RV (qs q) (Z2 q):=⟨Xc _,Xc _,dM _ _,dD _ _⟩
theorem RV.mono {k l:Nat} {a:QV} (h:RV k a) (hl:k≤l):RV l a:=⟨h.m,h.d,aY h.lm hl,aY h.ld hl⟩
theorem Zcf {q:Rat} {k:Nat} (h:qs q≤k):RV k (Z2 q):=(Zsa q).mono h
theorem Xg.mono {N s t:Nat} (h:Xg N t) (hs:s≤t):Xg N s:=by
 obtain ⟨a,b⟩:=h
 exact ⟨by omega,by omega⟩
theorem Vi {m n:Nat} (h:m≤n):(Ze m).length≤(Ze n).length:=W7.2 (dX h (W7.1 (bB _)))
theorem Tp (m n:Nat):(Ze (m * n)).length≤(Ze m).length+(Ze n).length:=by
 refine W7.2 ?_
 rw [cW]
 exact jG (W7.1 (bB _)) (W7.1 (bB _))
theorem Znn {m n k:Nat} (hm:(Ze m).length≤k) (hn:(Ze n).length≤k):(Ze (m+n)).length≤k+1:=by
 refine W7.2 ?_
 have a:=W7.1 hm
 have b:=W7.1 hn
 rw [aZ]
 omega
theorem T9 {n:Nat} (h:n≠0):1≤(Ze n).length:=cB.2 (fun e=>h (Zhk.1 e))
theorem Z8m (q:Rat):1≤qs q:=aY (T9 q.den_nz) (dD _ _)
theorem Zoy {z:Int} {d k:Nat} (hz:(Ze z.natAbs).length≤k) (hd:(Ze d).length≤k) (hk:1≤k):qs (mkRat z d)≤k:=by
 rw [qs,jV,jW]
 by_cases h:d=0
 ·rw [if_pos h,if_pos h]
  simp only [jN,Ve,Qx]
  simp;omega
 ·rw [if_neg h,if_neg h]
  refine Nat.max_le.2 ⟨aY (Vi ?_) hz,aY (Vi (cM _ _)) hd⟩
  exact Int.natAbs_ediv_le_natAbs _ _
theorem Zyw {k:Nat} {a:QV} (h:RV k a):qs (Xm a)≤max k 1:=by
 refine Zoy ?_ ?_ (dD _ _)
 ·rw [Zcj]
  exact aY (Yh h.m) (aY h.lm (dM _ _))
 ·rw [Yf]
  split
  ·rw [Qx];exact dD _ _
  ·exact aY (Yh h.d) (aY h.ld (dM _ _))
theorem Zyv (a b:Rat):qs (a * b)≤qs a+qs b:=by
 rw [Rat.mul_def']
 have:=Z8m a
 refine Zoy ?_ ?_ (by omega)
 ·rw [eZ]
  exact aY (Tp _ _) (jT (dM _ _) (dM _ _))
 ·exact aY (Tp _ _) (jT (dD _ _) (dD _ _))
theorem Zyu (a b:Rat):qs (a+b)≤qs a+qs b+1:=by
 rw [Rat.add_def']
 have c:(Ze a.num.natAbs).length≤qs a:=dM _ _
 have d:(Ze a.den).length≤qs a:=dD _ _
 have e:(Ze b.num.natAbs).length≤qs b:=dM _ _
 have f:(Ze b.den).length≤qs b:=dD _ _
 refine Zoy (aY (Vi (Int.natAbs_add_le _ _)) (Znn ?_ ?_)) ?_ (by omega)
 ·rw [eZ,gA]
  have:=Tp a.num.natAbs b.den
  omega
 ·rw [eZ,gA]
  have:=Tp b.num.natAbs a.den
  omega
 ·have:=Tp a.den b.den
  omega
theorem Zru:qs 0=1:=by
 rw [qs]
 simp only [Rat.zero_num,Rat.zero_den,jN,Ve,Qx]
 simp
theorem Zrs:qs 1=1:=by
 rw [qs]
 simp only [Rat.one_num,Rat.one_den,Int.natAbs_one,Qx]
 simp
theorem Zxr {neg:Bool} {num den:List Int} (hd:Zb den≠0):
  Z2 (mkRat (Zz (neg,num)) (Zb den))=((neg&&decide (Zb num / cR (Zb num) (Zb den)≠0),Ze (Zb num / cR (Zb num) (Zb den))),Ze (Zb den / cR (Zb num) (Zb den))):=by
 rw [Z2,jV,jW,if_neg hd,if_neg hd,Zcj,eS (Zb den) (Zb num)]
 have a:cR (Zb num) (Zb den)≠0:=fun h=>hd (Nat.gcd_eq_zero_iff.1 h).2
 congr 1
 have e:Zz (neg,num) / ((cR (Zb num) (Zb den):Nat):Int)=Zz (neg,Ze (Zb num / cR (Zb num) (Zb den))):=by
  rw [Zz,Zz]
  simp only [Xd]
  cases neg
  ·simp
  ·simp only [if_true]
   rw [Int.neg_ediv_of_dvd (Int.natCast_dvd_natCast.2 (Nat.gcd_dvd_left _ _)),gO]
 rw [e,Zl2,Xd]
theorem Zoo {a b:Int} {c d:Nat} (hc:c≠0) (hd:d≠0):mkRat a c<mkRat b d↔a * d<b * c:=by
 have f:(0:Rat)<(c:Rat):=jO.2 (by omega)
 have g:(0:Rat)<(d:Rat):=jO.2 (by omega)
 rw [dN,dN,Rat.div_lt_iff f]
 have e:(b:Rat) / d * c=(b:Rat) * c / d:=by
  rw [Rat.div_def,Rat.div_def,jX,jX,Rat.mul_comm (d:Rat)⁻¹]
 rw [e,Rat.lt_div_iff g]
 have i:((a:Rat) * (d:Rat))=((a * (d:Int):Int):Rat):=by rw [gX];rfl
 have j:((b:Rat) * (c:Rat))=((b * (c:Int):Int):Rat):=by rw [gX];rfl
 rw [i,j,Rat.intCast_lt_intCast]
theorem Zw3 {a b:Int} {c d:Nat} (hc:c≠0) (hd:d≠0):mkRat a c=mkRat b d↔a * d=b * c:=Rat.mkRat_eq_iff hc hd
def Zbb (a b:Rat):Int:=if a<b then -1 else if b<a then 1 else 0
def Zaj (a b:Int):Int:=if a<b then -1 else if b<a then 1 else 0
def Zed (a:Rat):Int:=Zbb a 0
theorem Zrp {a b:Int} {c d:Nat} (hc:c≠0) (hd:d≠0):Zbb (mkRat a c) (mkRat b d)=Zaj (a * d) (b * c):=by
 unfold Zbb Zaj
 simp only [Zoo hc hd,Zoo hd hc]
theorem Zpq (a:Int):Zaj a 0=a.sign:=by
 unfold Zaj
 rcases Int.lt_trichotomy a 0 with h | h | h
 ·rw [if_pos h,Int.sign_eq_neg_one_of_neg h]
 ·rw [h];rfl
 ·rw [if_neg (by omega),if_pos h,Int.sign_eq_one_of_pos h]
theorem Zyx (a:QV):Zed (Xm a)=(Zz a.1).sign:=by
 rw [Zed,Xm,show (0:Rat)=mkRat 0 1 by rw [Rat.zero_mkRat],Zrp (U6 _) (by decide),← Zpq]
 simp
theorem Zoz {a:Rat}:Zed a<0↔a<0:=by
 rw [Zed,Zbb]
 by_cases h:a<0
 ·rw [if_pos h];simp [h]
 ·rw [if_neg h];simp only [h,iff_false];split <;> decide
def Sy (N:Nat) (ab:R1):Option R2:=
  (Zfd N ab.2).bind fun aa=>if (decide (0<(aa.length:Int)))=true then (some aa) else ((Zbs N 1).bind fun ac=>some ac)
theorem Zcl {N ad ae:Nat} {af ag:Option Addr} {col:Zd} {w0:World} {ab:R1} {r:R2} (c1:Nat) (hm:Sy N ab=some r) (aq:Sl rU col w0 af ad ab.1.2) (ac:Sl rU col w0 ag ae ab.2):
    Calls prog 121 #[(.agg #[.bool ab.1.1,.slice af ab.1.2.length ad,.slice ag ab.2.length ae])] w0 (W2 .u32 45 c1 col w0 r):=by
 refine Z6 2 (m:=12) func121 rfl rfl rfl rfl rfl ?_;rw [Sy.eq_1] at hm;have aa:=St.start col w0;refine go ?_;refine Xl (col:=(Zf col)) 1 rfl ?_;intro ar au av ah ai;refine go ?_;refine Z1 ai ?_;obtain ⟨aw,aj,hm⟩:=bZ hm;replace aa:=aa.grow ah;refine Zk (Zp5 2 aj (ac.k0.ks aa)) ?_;rintro _ ax ⟨ak,ay,az,rfl,al,am⟩;refine ⟨_,rfl,go ?_⟩;replace aa:=aa.grow al;refine Zm hm (fun hb hm=>go ?_) fun hb hm=>go ?_
 ·cases hm;exact ⟨rfl,_,_,_,rfl,aa.fin (cm [(2,c1)]),aa.fo am⟩
 obtain ⟨a0,an,hm⟩:=bZ hm;refine Zk (Zj9 (col:=ak) 3 an) ?_;rintro _ a1 ⟨a2,a3,a4,rfl,ao,ap⟩;refine ⟨_,rfl,go ?_⟩;cases hm;replace aa:=aa.grow ao;exact ⟨rfl,_,_,_,rfl,aa.fin (cm [(3,c1)]),aa.fo ap⟩
def Zjp (aa:Bool) (ab:List Int):Option R4:=
  some (aa,ab)
def Zae (N:Nat) (ab:Bool) (ac:List Int):Option R4:=
  (Zfd N ac).bind fun aa=>if ab=true then (Zjp (decide (0<(aa.length:Int))) aa) else (Zjp false aa)
theorem Zeo {N ao:Nat} {a1:Option Addr} {col:Zd} {w0:World} {ap:Bool} {ah:R2} {r:R4} (c1:Nat) (hm:Zae N ap ah=some r) (h1:Sl rU col w0 a1 ao ah):
    Calls prog 161 #[.bool ap,.slice a1 ah.length ao] w0 (Sg 45 c1 col w0 r):=by
 refine We (m:=16) func161 rfl rfl rfl ?_;rw [Zae.eq_1] at hm;have aa:=St.start col w0;refine go ?_;refine Xx (col:=(Zf col)) #[.bool false,(nI)] 1 zeroValue40 ?_;intro ax a4 a5 ay ac;refine go ?_;obtain ⟨ad,az,hm⟩:=bZ hm;replace aa:=aa.grow ay;refine Zk (Zp5 2 az (h1.k0.ks aa)) fun _ a6 ⟨a7,aq,ar,e',au,ab⟩=>⟨_,e',?_⟩;refine Zbe rfl<|Zl<|Z0 ?_;replace ac:=ac.gr au;replace aa:=aa.grow au;refine Wp.cutK [4,1000000] (fun f ae=>∃ af ai aj ak ag,Zjp ai ag=some r∧St w0 (Zf col) af ae∧Zc rU 45 3 af ae aj ak ag∧Zj 40 1 af ae ax #[.bool ai,.slice aj ag.length ak]) ?_ ?_
 ·intro f ae hJ;obtain ⟨af,ai,aj,ak,ag,hm,aa,a0,ac⟩:=hJ;rw [Zjp.eq_1] at hm;refine Wh ?_;cases hm;exact ⟨rfl,_,ra ac.atN,_,_,_,rfl,aa.fin (cm [(3,c1)]),aa.fo a0⟩
 refine go ?_;refine Xn hm (fun al hm=>go ?_) fun al hm=>go ?_
 ·refine lV (.bool (decide (0<(ad.length:Int)))) (Zw (congrArg Value.bool al) rfl)<|Wo rfl<|lV (.agg #[.bool (decide (0<(ad.length:Int))),.slice aq ad.length ar]) (Wl (l:=[_,_]) (qs:=[(0,1),(1,1)]) underlying40 zeroValue40 ⟨rfl,sizeOf4,rfl,sizeOf38,trivial⟩ rfl)<|Xf ac ?_;intro a8 av a2 am;refine Zl ?_;replace ab:=ab.kp av;replace ab:=ab.recolSelf 3 (by decide);replace aa:=aa.kp av a2;replace aa:=aa.recol 2 3 (by decide) (by decide);exact ⟨rfl,_,_,_,_,_,hm,aa,ab,am.recol 2 3⟩
 refine lV (.bool false) (Xk (congrArg Value.bool al) rfl)<|Wo rfl<|lV (.agg #[.bool false,.slice aq ad.length ar]) (Wl (l:=[_,_]) (qs:=[(0,1),(1,1)]) underlying40 zeroValue40 ⟨rfl,sizeOf4,rfl,sizeOf38,trivial⟩ rfl)<|Xf ac ?_;intro a9 aw a3 an;refine Zl ?_;replace ab:=ab.kp aw;replace ab:=ab.recolSelf 3 (by decide);replace aa:=aa.kp aw a3;replace aa:=aa.recol 2 3 (by decide) (by decide);exact ⟨rfl,_,_,_,_,_,hm,aa,ab,an.recol 2 3⟩
def Zly (N:Nat) (aa:R4) (ab:R4):Option R4:=
  (Zbr N aa.2 ab.2).bind fun ad=>(Zae N (!decide (aa.1=ab.1)) ad).bind fun ac=>some (ac.1,ac.2)
theorem Z46 {N ar au:Nat} {av aw:Option Addr} {col:Zd} {w0:World} {ag ah r:R4} (c1:Nat) (hm:Zly N ag ah=some r) (al:Sl rU col w0 av ar ag.2) (am:Sl rU col w0 aw au ah.2):
    Calls prog 164 #[(.agg #[.bool ag.1,.slice av ag.2.length ar]),(.agg #[.bool ah.1,.slice aw ah.2.length au])] w0 (Sg 45 c1 col w0 r):=by
 refine We (m:=16) func164 rfl rfl rfl ?_;rw [Zly.eq_1] at hm;have aa:=St.start col w0;refine go ?_;refine Xl (col:=(Zf col)) 1 rfl ?_;intro a7 a8 az a0 ai;refine Xl (col:=az) 2 rfl ?_;intro a9 ba a1 ax aj;refine Xx (col:=a1) #[.bool false,(nI)] 3 zeroValue40 ?_;intro bb bc ad an ab;refine go ?_;refine Wc (col:=ad) [(0,1),(1,0),(2,1),(3,0),(4,1),(5,1),(6,0),(7,1),(8,0),(9,3),(10,3),(11,2)] (by kernel_rfl) (by kernel_rfl)<|xF ⟨_,_,rfl⟩ ?_;replace ai:=(ai.gr ax).gr an;refine xW (fun _ hC=>((ai.atN).nth (q:=0) rfl).gr (hC.bl ad)) ?_;refine xF ⟨_,_,rfl⟩ ?_;replace aj:=aj.gr an;refine xW (fun _ hC=>((aj.atN).nth (q:=0) rfl).gr (hC.bl ad)) ?_;refine xu rfl rfl (fun _=>Zmc _ _ underlying4 rfl rfl) ?_;refine xF ⟨_,_,rfl⟩ ?_;refine xW (fun _ hC=>((ai.atN).nth (q:=1) rfl).gr (hC.bl ad)) ?_;refine xF ⟨_,_,rfl⟩ ?_;refine xW (fun _ hC=>((aj.atN).nth (q:=1) rfl).gr (hC.bl ad)) ?_;refine xe rfl rfl ?_;intro bd hC0;have hC:=hC0.bl ad;obtain ⟨be,a2,hm⟩:=bZ hm;replace aa:=(((aa.grow a0).grow ax).grow an).grow hC;refine Zk (Zm5 4 a2 (al.k0.ks aa) (am.k0.ks aa)) fun _ bf ⟨af,bg,bh,e',ao,ap⟩=>⟨_,e',?_⟩;refine Zl<|Xt af hC0 ao<|xe rfl rfl ?_;intro a3 hC0;replace ab:=(ab.gr hC).gr ao;have hC:=hC0.bl af;obtain ⟨bi,a4,hm⟩:=bZ hm;refine Zk (Zeo 5 a4 ((ap.gr hC).toSlF (Zh.int .u32))) fun _ bj ⟨a5,bk,bm,e',ae,ac⟩=>⟨_,e',?_⟩;replace ac:=ac.thaw (Z3 .u32) ae ((Fz.refl (col:=af)).froz 4);replace ae:=ae.thawR (col:=af);generalize Xj a3.heap.size af a5=ak at *;refine Zl<|Xt ak hC0 ae<|xe rfl rfl ?_;intro bn hC0;replace aa:=((aa.grow ao).grow hC).grow ae;replace ab:=(ab.gr hC).gr ae;have hC:=hC0.bl ak;refine Xf (ab.gr hC) ?_;intro bo ay a6 aq;refine Zl<|xk ak<|Y0 ?_;replace ac:=(ac.gr hC).kp ay;replace aa:=(aa.grow hC).kp ay a6;intro bp hC;replace hC:=hC.bl ak;refine Wh ?_;cases hm;replace aa:=aa.grow hC;exact ⟨rfl,_,ra (aq.gr hC).atN,_,_,_,rfl,aa.fin (cm [(5,c1)]),aa.fo (ac.gr hC)⟩
def Zc1 (N:Nat) (aa:R4) (ac:List Int):Option R4:=
  (Zly N (aa.1,aa.2) (false,ac)).bind fun ab=>some (ab.1,ab.2)
theorem Zm3 {N ai ad:Nat} {aj a1:Option Addr} {col:Zd} {w0:World} {ab:R4} {ac:R2} {r:R4} (c1:Nat) (hm:Zc1 N ab ac=some r) (ae:Sl rU col w0 aj ai ab.2) (h1:Sl rU col w0 a1 ad ac):
    Calls prog 123 #[(.agg #[.bool ab.1,.slice aj ab.2.length ai]),.slice a1 ac.length ad] w0 (Sg 45 c1 col w0 r):=by
 refine We (m:=9) func123 rfl rfl rfl ?_;rw [Zc1.eq_1] at hm;have aa:=St.start col w0;refine go ?_;refine Xl (col:=(Zf col)) 1 rfl ?_;intro au av an ao af;refine Xx (col:=an) #[.bool false,(nI)] 2 zeroValue40 ?_;intro aw ax ay ak ag;refine go ?_;refine lV _ (Z9 isAgg40 sizeOf40 (af.gr ak))<|Wo rfl<|lV (.agg #[.bool false,.slice a1 ac.length ad]) (Wl (l:=[_,_]) (qs:=[(0,1),(1,1)]) underlying40 zeroValue40 ⟨rfl,sizeOf4,rfl,sizeOf38,trivial⟩ rfl) ?_;obtain ⟨az,ap,hm⟩:=bZ hm;replace aa:=(aa.grow ao).grow ak;refine Zk (Z46 3 ap (ae.k0.ks aa) (h1.k0.ks aa)) fun _ a0 ⟨a2,a3,a4,e',al,ah⟩=>⟨_,e',?_⟩;refine Xf (ag.gr al) ?_;intro a5 am aq ar;refine go ?_;cases hm;replace aa:=(aa.grow al).kp am aq;exact ⟨rfl,_,ra ar.atN,_,_,_,rfl,aa.fin (cm [(3,c1)]),aa.fo (ah.kp am)⟩

end Go.Proofs.YthclpfhncgpnmaaGreat
