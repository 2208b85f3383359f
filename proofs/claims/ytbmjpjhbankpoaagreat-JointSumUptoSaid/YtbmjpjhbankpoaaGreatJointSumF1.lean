/-
  What functions of the program compute, as plain Lean functions (m_..), and proofs that they compute it (c_..). Printed by a program of the author; no conditions.
-/
import Derived.Test.YtbmjpjhbankpoaaGreatJointSumBFloat
import Derived.Test.YtbmjpjhbankpoaaGreatProg
import Derived.Test.YtbmjpjhbankpoaaGreatJointSumBBrief
import Derived.Test.YtbmjpjhbankpoaaGreatJointSumBPiece
set_option linter.unusedVariables false
set_option maxRecDepth 100000
set_option maxHeartbeats 2000000
namespace Go.Proofs.YtbmjpjhbankpoaaGreat
open Go Go.RowKit
open Go.IntKind (i8 i16 i32 i64 u8 u16 u32 u64)
open Go.Proofs.Tryz
abbrev R7:=List ByteArray
abbrev R2:=List Int
abbrev Rd:=List R2
abbrev R4:=Bool×List Int
abbrev R1:=R4×List Int
abbrev R8:=List R1
abbrev R0:=ByteArray×List ByteArray×(List R7)×Rd×(List R8)
abbrev R9:=Nat×List ByteArray
abbrev R6:=Nat×List Int
abbrev Rb:=Nat×(List ((Bool×R6)×R6))
abbrev R3:=ByteArray×R9×(List R9)×(List R6)×(List Rb)
abbrev R5:=Int×Int
abbrev Ra:=Int×List Int
abbrev Rc:=List R5
abbrev Re:=List Int×List Int×Int
abbrev Rf:=List Int×Int
abbrev Rg:=List Int×Bool
abbrev Rh:=Bool×R8
abbrev Ri:=List Int×R1
theorem oB {α β:Type} {a:α} {f:α→Option β}:(some a).bind f=f a:=rfl
theorem dT {p:Prop} [i:Decidable p] (h:p):decide p=true:=decide_eq_true h
theorem dF {p:Prop} [i:Decidable p] (h:¬p):¬(decide p=true):=fun q=>h (of_decide_eq_true q)
theorem nA {α:Type _} {a b:List α}:(a++b).length=a.length+b.length:=List.length_append
theorem nC {α:Type _} {a:α} {b:List α}:(a :: b).length=b.length+1:=rfl
theorem nS {α:Type _} {a:List α} {i:Nat} {b:α}:(a.set i b).length=a.length:=List.length_set
theorem nK {α:Type _} {i:Nat} {a:List α}:(a.take i).length=min i a.length:=List.length_take
theorem nN {α:Type _}:([]:List α).length=0:=rfl

theorem Zr {x:Int} (h:-9223372036854775808≤x∧x≤9223372036854775807):i64.wrap x=x:=by rw [IntKind.wrap_i64];omega
theorem Zz {α:Type} {c:Prop} [Decidable c] {x:Option α} (h:c):Zv c x=x:=if_pos h
theorem Zy {α:Type} {xs:List α} {k:Nat} (h:k<xs.length):Zj xs (k:Int)=some xs[k]:=by rw [V1];exact List.getElem?_eq_getElem h
theorem wS {k:Nat} (h:k<9223372036854775807):i64.wrap ((k:Int)+1)=((k+1:Nat):Int):=by rw [Zr (by omega)];rfl
theorem Zku {α:Type} [DecidableEq α]:∀ {l r:List α},l.Nodup→(∀ x ∈ l,x ∈ r)→l.length≤r.length
 | [],_,_,_=>Nat.zero_le _
 | x :: l,r,h,hs=>by
  have h1:=List.nodup_cons.1 h
  have hx:=hs x List.mem_cons_self
  have h2:=Zku (r:=r.erase x) h1.2 fun y hy=>(List.mem_erase_of_ne (fun e=>h1.1 (by rw [← e];exact hy))).2 (hs y (List.mem_cons_of_mem _ hy))
  rw [List.length_erase_of_mem hx] at h2
  have:=List.length_pos_of_mem hx
  rw [nC];omega
section
variable {K V:Type} [DecidableEq K]
theorem Zf0 (p:K×V) (es:List (K×V)) (k:K):Wq (p :: es) k=if p.1=k then some p.2 else Wq es k:=by
 rw [Wq,List.find?_cons]
 by_cases h:p.1=k
 ·rw [if_pos h,decide_eq_true h];rfl
 ·rw [if_neg h,decide_eq_false h];rfl
theorem Z4s (es:List (K×V)) (k k':K) (v:V) (h:Wq es k=none):Wq (es++[(k,v)]) k'=if k'=k then some v else Wq es k':=by
 induction es with
 | nil=>
  rw [List.nil_append,Zf0]
  by_cases hk:k=k'
  ·subst hk;simp
  ·rw [if_neg hk,if_neg (Ne.symm hk)]
 | cons p es ih=>
  rw [Zf0] at h
  split at h
  ·cases h
  ·rename_i hp
   rw [List.cons_append,Zf0,Zf0,ih h]
   by_cases h1:p.1=k'
   ·rw [if_pos h1,if_pos h1,if_neg (fun e=>hp (h1.trans e))]
   ·rw [if_neg h1,if_neg h1]
theorem Z4t (es:List (K×V)) (k k':K) (v:V):Wq (es.map fun p=>if p.1=k then (k,v) else p) k'=if k'=k then (Wq es k).map fun _=>v else Wq es k':=by
 induction es with
 | nil=>simp [Wq]
 | cons p es ih=>
  rw [List.map_cons,Zf0,Zf0,Zf0,ih]
  by_cases h1:p.1=k
  ·rw [if_pos h1,if_pos h1]
   by_cases h2:k'=k
   ·subst h2;rw [if_pos rfl,if_pos rfl];rfl
   ·rw [if_neg (Ne.symm h2),if_neg h2,if_neg h2,if_neg (fun e=>h2 (e.symm.trans h1))]
  ·rw [if_neg h1,if_neg h1]
   by_cases h3:p.1=k'
   ·rw [if_pos h3,if_pos h3,if_neg (fun e=>h1 (h3.trans e))]
   ·rw [if_neg h3,if_neg h3]
theorem Zu3 (es:List (K×V)) (k k':K) (v:V):Wq (Su es k v) k'=if k'=k then some v else Wq es k':=by
 rw [Su]
 by_cases h:(Wq es k).isSome=true
 ·rw [if_pos h,Z4t]
  obtain ⟨u,hu⟩:=Option.isSome_iff_exists.1 h
  rw [hu];rfl
 ·rw [if_neg h]
  exact Z4s es k k' v (by simpa using h)
end
theorem Z29:Wf prog 3 1 8:=⟨Tryz.t3,_,rfl,rfl,rfl,rfl,rfl⟩
def Zdd (aa:List Int):Option R2:=
  Zv ((([]:List Int).length+aa.length) * 8≤140737488355328∧([]:List Int).length+aa.length≤maxLen) (some (([]:List Int)++aa))
theorem Zos {ad:Nat} {a0:Option Addr} {col:Zd} {w0:World} {ac r:R2} (c1:Nat) (hm:Zdd ac=some r) (h0:Sl (Za.int .i64) col w0 a0 ad ac):
    Calls prog 143 #[.slice a0 ac.length ad] w0 (fun e w'=>∃ (col':Zd) (ra1:Option Addr) (rc2:Nat),e= .returned ((.slice ra1 r.length rc2))∧Zg col w0 col' w'∧Zc (Za.int .i64) 3 c1 col' w' ra1 rc2 r):=by
 refine Xc 2 (m:=8) func143 rfl rfl rfl rfl rfl ?_;rw [Zdd.eq_1] at hm;have aa:=St.start col w0;refine go ?_;replace h0:=h0.keep (Zf.start col w0);rcases Zm9 h0 with ab | ab
 ·replace hm:some ([]:List Int)=some r:=by have h0:=ab.2;subst h0;simpa [Zv,maxLen] using hm
  refine lv (v:=.bool a0.isNone) rfl rfl (Zdh underlying40 rfl)<|.ld (d:=4) (v:=.bool true) (congrArg Value.bool ab.1)<|Zk<|Yg rfl<|go ?_;cases hm;exact ⟨rfl,_,none,0,rfl,aa.fin (cm []),Zc.nil⟩
 refine lv (v:=.bool a0.isNone) rfl rfl (Zdh underlying40 rfl)<|.ld (d:=4) (v:=.bool false) (congrArg Value.bool ab)<|Zk<|Yf rfl<|go ?_;refine Zl7 (col:=(Zh col)) (r:=(Za.int .i64)) 1 rfl underlying40 Z29 rfl ?_;intro aj ak al ae af;refine Yr rfl ?_;obtain ⟨ag,hm⟩:=Zx hm;replace h0:=h0.gr ae;refine Y3 af h0.srcC ag ?_;intro am an ao ap ah ai;refine go ?_;cases hm;replace aa:=(aa.grow ae).kpp ah;exact ⟨rfl,_,_,_,rfl,aa.fin (cm [(1,c1)]),aa.fo ai⟩
def Ss:List Int→Int→Option R5
  | [],aa=>some (aa,0)
  | ab :: ac,aa=>Zv (aa≠0) (if (decide ((i64.wrap (Int.tdiv 2147483647 aa))<ab))=true then (some (0,4)) else ((Ss ac) (i64.wrap (aa * ab))))
termination_by structural x=>x
def Zkk (kk_L1:(Bool→Option R5)) (aa:Bool):Option R5:=
  kk_L1 aa
def Zap (aa:List Int):List Int→Bool→Option R5
  | [],ab=>if ab=true then (some (0,0)) else (Ss aa 1)
  | ac :: ad,ab=>if (decide (ac<0))=true then (some (0,3)) else (if ab=true then (Zkk (Zap aa ad) true) else (Zkk (Zap aa ad) (decide (ac=0))))
termination_by structural x=>x
def Zc9 (aa:List Int):Option R5:=
  Zap aa aa false
theorem Zrx {ai:Nat} {a0:Option Addr} {col:Zd} {w0:World} {ab:R2} {r:R5} (hm:Zc9 ab=some r) (h0:Sl (Za.int .i64) col w0 a0 ai ab):
    Calls prog 169 #[.slice a0 ab.length ai] w0 (fun e w'=>e= .returned (.tuple #[.int .i64 r.1,.int .i64 r.2])∧Below w0.heap.size w0 w'):=by
 refine Zdr 2 3 (m:=40) (args:=[.slice a0 ab.length ai]) func169 rfl rfl rfl rfl rfl ?_;rw [Zc9.eq_1] at hm;have aa:=St.start col w0;refine go ?_;refine Zw [0,10,11,1000000] (fun n f am=>∃ an ad aj ae,n=ae.length∧ab.drop ad=ae∧Zap ab ae aj=some r∧St w0 (Zh col) an am∧[12,4].map f=[.int .i64 ad,.bool aj]) ab.length ⟨_,0,_,_,rfl,rfl,hm,aa,rfl⟩ ?_;clear hm;intro n f am hI;obtain ⟨an,ad,aj,ae,hn,hl,hm,aa,hs⟩:=hI;subst hn;refine .lL [12,4] hs ?_;replace h0:=h0.keep (Zf.start col w0)
 cases ae with
 | nil=>
  have hk:¬ ((ad:Int)<(ab.length:Int)):=by have:=List.drop_eq_nil_iff.1 hl;omega
  have hkb:=decide_eq_false hk;rw [Zap.eq_1] at hm;refine go ?_;refine Yf (congrArg Value.bool hkb)<|go ?_;refine Zo hm (fun hb hm=>go ?_) fun hb hm=>go ?_
  ·cases hm;exact ⟨rfl,rfl,aa.below⟩
  refine Zw [25,26,1000000] (fun n f ao=>∃ ap af ag ah,n=ah.length∧ab.drop af=ah∧Ss ah ag=some r∧St w0 (Zh col) ap ao∧[27,7].map f=[.int .i64 af,.int .i64 ag]) ab.length ⟨_,0,1,_,rfl,rfl,hm,aa,rfl⟩ ?_;clear hm;intro n f ao hI;obtain ⟨ap,af,ag,ah,hn,hl,hm,aa,hs⟩:=hI;subst hn;refine .lL [27,7] hs ?_
  cases ah with
  | nil=>
   have hk:¬ ((af:Int)<(ab.length:Int)):=by have:=List.drop_eq_nil_iff.1 hl;omega
   have hkb:=decide_eq_false hk;rw [Ss.eq_1] at hm;refine go ?_;refine Yf (congrArg Value.bool hkb)<|go ?_;cases hm;exact ⟨rfl,rfl,aa.below⟩
  | cons a3 av=>
   obtain ⟨ac,aw,ax⟩:=Yw hl;have hk:(af:Int)<(ab.length:Int):=by omega
   have hkb:=decide_eq_true hk;rw [Ss.eq_2] at hm;refine go ?_;refine Yg (congrArg Value.bool hkb)<|go ?_;refine lI ac ((h0.ks aa).addr ac)<|lW ((h0.ks aa).atInt ac) ?_;refine go ?_;obtain ⟨ay,hm⟩:=Zx hm;refine lV (.int .i64 (i64.wrap (Int.tdiv 2147483647 ag))) (Vw 2147483647 ag rfl rfl ay)<|go ?_;refine Zo hm (fun hb hm=>go ?_) fun hb hm=>go ?_
   ·cases hm;exact ⟨rfl,rfl,aa.below⟩
   exact ⟨av.length,by simp,rfl,⟨_,_,_,_,rfl,aw,hm,aa,(Y1 (congrArg (Value.int .i64) (Yy (Nat.lt_of_lt_of_le ax (h0.ks aa).1.1))) rfl)⟩⟩
 | cons az aq=>
  obtain ⟨ac,a1,a2⟩:=Yw hl;have hk:(ad:Int)<(ab.length:Int):=by omega
  have hkb:=decide_eq_true hk;rw [Zap.eq_2] at hm;refine go ?_;refine Yg (congrArg Value.bool hkb)<|X9<|Z0 ?_;refine Wp.cutK [0,10,11,12,1000000] (fun f ar=>∃ au ak,Zkk (Zap ab aq) ak=some r∧St w0 (Zh col) au ar∧[4].map f=[.bool ak]) ?_ ?_
  ·intro f ar hJ;obtain ⟨au,ak,hm,aa,hs⟩:=hJ;rw [Zkk.eq_1] at hm;refine .lL [4] hs<|go ?_;exact ⟨aq.length,by simp,rfl,⟨_,_,_,_,rfl,a1,hm,aa,(Y1 (congrArg (Value.int .i64) (Yy (Nat.lt_of_lt_of_le a2 (h0.ks aa).1.1))) rfl)⟩⟩
  refine go ?_;refine lI ac ((h0.ks aa).addr ac)<|lW ((h0.ks aa).atInt ac) ?_;refine go ?_;refine Zo hm (fun hb hm=>go ?_) fun hb hm=>go ?_
  ·cases hm;exact ⟨rfl,rfl,aa.below⟩
  refine Xt hm (fun al hm=>go ?_) fun al hm=>go ?_
  ·refine lV (.bool true) (Xb (congrArg Value.bool al) rfl)<|go ?_;exact ⟨rfl,_,_,hm,aa,rfl⟩
  refine lV (.bool (decide (az=0))) (Xm (congrArg Value.bool al) rfl)<|go ?_;exact ⟨rfl,_,_,hm,aa,rfl⟩
def Zdb (N:Nat) (ab:List Int):Nat→Int→Option Rc
  | 0,_=>none
  | ac+1,aa=>if (decide (0≤aa))=true then ((Zj ab aa).bind fun ad=>((Zdb N ab ac) (i64.wrap (aa - 1))).bind fun ae=>some ((aa,ad) :: ae)) else (some [])
termination_by structural x=>x
def Zmx (N:Nat) (aa:List Int):Option Rc:=
  Zdb N aa N (i64.wrap ((aa.length:Int) - 1))
theorem Z15 (N:Nat) (col:Zd) (w0:World) (g0:Nat) (af0:Option Addr) (capf0:Nat) (ab:List Int) (hf0:Sl (Za.int .i64) col w0 af0 capf0 ab) (hb0:Zm 40 450 col w0 g0 #[.slice af0 ab.length capf0]) (r:List R5) (hm:Zmx N ab=some r):
    Zgb prog 1 293 [.pointer (some ⟨g0,0,none⟩)] (fun (y:Int×Int) (col:Zd) (w:World) (args:List Value)=>args=[.int .i64 y.1,.int .i64 y.2]) r col w0:=by
 intro l J X hjs hxs hy aa;refine Zjd (m:=19) (args:=[.func (.yield l) #[] #[],.pointer (some ⟨g0,0,none⟩)]) func293 rfl rfl rfl rfl ?_;rw [Zmx.eq_1] at hm;refine go ?_;refine lW hb0.at1<|go ?_;refine Zw [0,1,1000000] (fun n f ad=>∃ ae r af ac,ac=n∧Zdb N ab ac af=some r∧J r ae ad∧Sl (Za.int .i64) ae ad af0 capf0 ab∧Zm 40 450 ae ad g0 #[.slice af0 ab.length capf0]∧[3].map f=[.int .i64 af]) N ⟨_,_,_,_,rfl,hm,aa,hf0,hb0,rfl⟩ ?_;clear hm;intro n f ad hI;obtain ⟨ae,r,af,ac,hn,hm,aa,hf0,hb0,hs⟩:=hI;subst hn;refine .lL [3] hs ?_
 cases ac with
 | zero=>rw [Zdb.eq_1] at hm;cases hm
 | succ ac=>
  rw [Zdb.eq_2] at hm;refine go ?_;refine Zo hm (fun hb hm=>go ?_) fun hb hm=>go ?_
  ·refine lM (.func (.yield l) #[] #[])<|Xo rfl<|lW hb0.at1<|Xo rfl ?_;obtain ⟨ai,ag,hm⟩:=bZ hm;refine lI ag (hf0.addr ag)<|lW (hf0.atInt ag) ?_;obtain ⟨ak,hc_8m,aj⟩:=bZ hm;cases aj;have hm:=hc_8m;refine ly2 rfl rfl rfl rfl (hy _ _ _ _ [.int .i64 af,.int .i64 ai] aa rfl) ?_;rintro _ al ⟨am,ah,⟨rfl,hJ⟩ | ⟨rfl,hX⟩⟩
   ·refine ⟨_,rfl,?_⟩;have aa:=hJ;refine go ?_;refine Yf rfl<|go ?_;replace hf0:=hf0.kpp ah;replace hb0:=hb0.kpp ah;exact ⟨ac,by omega,rfl,⟨_,_,_,_,rfl,hm,aa,hf0,hb0,rfl⟩⟩
   refine ⟨_,rfl,?_⟩;have aa:=hX;refine go ?_;refine Yg rfl<|We ?_;exact ⟨rfl,⟨_,rfl⟩,_,.inr aa⟩
  cases hm;exact ⟨rfl,⟨_,rfl⟩,_,.inl aa⟩
def Zmw (N:Nat) (aa:List Int):Option Rc:=
  Zmx N aa
theorem Z14 {N ac:Nat} {a0:Option Addr} {col:Zd} {w0:World} {aa:R2} {r:Rc} (hm:Zmw N aa=some r) (h0:Sl (Za.int .i64) col w0 a0 ac aa):
    Calls prog 279 #[.slice a0 aa.length ac] w0 (fun e w'=>∃ (col':Zd) (rv1:Value),e= .returned (rv1)∧Zg col w0 col' w'∧It prog 1 rv1 (fun (y:Int×Int) (col:Zd) (w:World) (args:List Value)=>args=[.int .i64 y.1,.int .i64 y.2]) r q0 col' w'):=by
 refine Xc 2 (m:=4) func279 rfl rfl rfl rfl rfl ?_;rw [Zmw.eq_1] at hm;have ab:=St.start col w0;refine go ?_;refine Zdt (col:=(Zh col)) (v:=(.slice a0 aa.length ac)) 1 rfl rfl ?_;intro ad ai ag aj ae;replace ae:Zm 40 1 ag ai ad #[.slice a0 aa.length ac]:=ae;refine lv (v:=_) rfl rfl (U0 rfl)<|go ?_;refine lV (.func (.func 293) #[] #[.pointer (some ⟨ad,0,none⟩)]) (Z5p rfl)<|lA (.func (.func 293) #[] #[.pointer (some ⟨ad,0,none⟩)])<|go ?_;replace ab:=ab.grow aj;have af:=ab.finBox (G:=(fun n=>bif Nat.beq n 1 then 450 else 0)) ae (by decide) (by decide) (show (fun n=>bif Nat.beq n 1 then 450 else 0) 1=450 from rfl);replace h0:=h0.keep (Zf.start col w0);have h0f:=ab.finSl (g:=(fun n=>bif Nat.beq n 1 then 450 else 0)) rfl (h0.ks ab);refine ⟨rfl,Vq w0.heap.size col ag (fun n=>bif Nat.beq n 1 then 450 else 0),_,rfl,ab.fin (fun n=>bif Nat.beq n 1 then 450 else 0),293,[.pointer (some ⟨ad,0,none⟩)],rfl,call293,?_⟩;intro col9 w9 ah hk9;replace af:=af.itk ah hk9 rfl;replace h0f:=h0f.itk ah hk9 rfl;exact Z15 N col9 w9 ad a0 ac aa h0f af r hm
def Zda:List R5→Int→R2→Option R2
  | [],ac,ab=>some ab
  | aa :: ad,ac,ab=>Zv (aa.2≠0) ((Zj ab aa.1).bind fun af=>(some (ab.set (Int.toNat aa.1) (Int.tmod ac aa.2))).bind fun ae=>Zv (aa.2≠0) ((Zda ad) (i64.wrap (Int.tdiv ac aa.2)) ae))
termination_by structural x=>x
def Zkl (N:Nat) (aa:List Int) (ab:Int):Option R2:=
  if (decide ((aa.length:Int)=0))=true then (some ([]:List Int)) else (Zv (aa.length * 8≤281474976710656∧aa.length≤maxLen) ((Zmw N aa).bind fun ac=>Zda ac ab (List.replicate aa.length (0:Int))))
theorem Z13 {N a1:Nat} {a0:Option Addr} {col:Zd} {w0:World} {ag:R2} {am:Int} {r:R2} (c1:Nat) (hm:Zkl N ag am=some r) (h0:Sl (Za.int .i64) col w0 a0 a1 ag):
    Calls prog 240 #[.slice a0 ag.length a1,.int .i64 am] w0 (fun e w'=>∃ (col':Zd) (ra1:Option Addr) (rc2:Nat),e= .returned ((.slice ra1 r.length rc2))∧Zg col w0 col' w'∧Zc (Za.int .i64) 3 c1 col' w' ra1 rc2 r):=by
 refine Z2h 4 (mc:=499) (m:=28) (args:=[.slice a0 ag.length a1,.int .i64 am]) func240 rfl rfl rfl rfl rfl ?_;rw [Zkl.eq_1] at hm;have aa:=St.start col w0;replace h0:=h0.keep (Zf.start col w0);have hmk:Yv 499 (Zh col) w0 []:=.nil;refine go ?_;refine Zdt (col:=(Zh col)) (v:=(.int .i64 am)) 1 rfl rfl ?_;intro a2 a9 a3 ba ac;replace ac:Zm 3 1 a3 a9 a2 #[.int .i64 am]:=ac;refine go ?_;replace hmk:=hmk.gr ba;replace aa:=aa.grow ba;refine Zo hm (fun hb hm=>go ?_) fun hb hm=>go ?_
 ·cases hm;refine ⟨_,[],rfl,hmk,?_⟩;intro bz bh bi;replace aa:=aa.kp bh bi;exact ⟨Vq w0.heap.size col a3 (fun n=>0),none,0,rfl,aa.fin (fun n=>0),Zc.nil⟩
 obtain ⟨bb,hm⟩:=Zx hm;refine Sf (col:=a3) (w:=a9) (r:=(Za.int .i64)) (n:=ag.length) (x0:=0) 2 rfl underlying40 Tryz.t3 rfl rfl rfl rfl rfl rfl rfl bb.1 bb.2 (Uf .i64 0) ?_;intro a4 b0 bj a5 a6;refine Zds (col:=bj) (v:=(.slice none (([]:List Int).length) 0)) 3 rfl zeroValue40 ?_;intro ar bk bc au a7;replace a7:Zm 40 3 bc bk ar #[.slice none (([]:List Int).length) 0]:=a7;refine Q5 (v:=(.slice a4 ((List.replicate ag.length (0:Int)).length) ag.length)) a7 sizeOf40 rfl rfl (by intro u hu;simp only [Value.cells,List.mem_cons,List.not_mem_nil,or_false] at hu;subst hu;rfl) rfl rfl ?_;intro bm av bn ab;replace ab:Zm 40 3 bc bm ar #[.slice a4 ((List.replicate ag.length (0:Int)).length) ag.length]:=ab;refine go ?_;obtain ⟨bo,bp,hm⟩:=bZ hm;replace aa:=((aa.grow a5).grow au).kp av bn;refine Zi (Z14 bp (h0.ks aa)) ?_;rintro _ b1 ⟨bq,b2,rfl,aq,br⟩;refine ⟨_,rfl,go ?_⟩;replace ac:=(((ac.gr a5).gr au).kp av).gr aq;replace hmk:=(((hmk.gr a5).gr au).kp av).gr aq;replace a6:=((a6.gr au).kp av).gr aq;replace ab:=ab.gr aq;replace aa:=aa.grow aq;refine Zn3 (psl:=[16,17]) (arr:=(fun (y:Int×Int) (col:Zd) (w:World) (args:List Value)=>args=[.int .i64 y.1,.int .i64 y.2])) (ys:=bo) (col:=bq) 498 rfl br rfl hmk rfl rfl (by rintro _ _ _ _ rfl;rfl) (fun ys_ ad al=>∃ (ae:Int) (ai:Option Addr) (aj:Nat) (ak:List Int),Zda ys_ ae ak=some r∧St w0 (Zh col) ad al∧Zm 3 1 ad al a2 #[.int .i64 ae]∧Zc (Za.int .i64) 3 2 ad al ai aj ak∧Zm 40 3 ad al ar #[.slice ai ak.length aj]) (fun _ _ _=>False) ?_ ?_ ⟨am,a4,ag.length,(List.replicate ag.length (0:Int)),hm,aa,ac,a6,ab⟩ ?_ ?_ ?_
 ·intro ys_ ad al col2_ w2_ hJ hk;obtain ⟨ae,ai,aj,ak,hm,aa,ac,af,ab⟩:=hJ;exact ⟨ae,ai,aj,ak,hm,aa.kpp hk rfl rfl,ac.kpp hk rfl,af.kpp hk rfl rfl,ab.kpp hk rfl⟩
 ·intro _ _ _ _ _ h _;exact h
 ·intro b3 b4 b5 ah b6 ad al args hJ hrec hmk harr;obtain ⟨ae,ai,aj,ak,hm,aa,ac,af,ab⟩:=hJ;rw [Zda.eq_2] at hm;have hki:=Z1.refl (pC 1) ad al;subst harr;refine go ?_;refine ⟨_,hrec,?_⟩;intro b7 b8 an bd hrec2;have hrec:=hrec2;refine go ?_;refine Wh (col:=ad) [(0,0),(1,1),(2,0),(3,1),(4,1),(5,1),(6,2)] (by kernel_rfl) (by kernel_rfl) ?_;replace ab:=ab.kp an;refine xW (fun _ hC=>ab.at1.gr (hC.bl ad)) ?_;refine xu rfl rfl (fun _=>Wj rfl) ?_;replace ac:=ac.kp an;refine xW (fun _ hC=>ac.at1.gr (hC.bl ad)) ?_;refine xu rfl rfl (fun _=>Wj rfl) ?_;obtain ⟨bs,hm⟩:=Zx hm;refine xu (v:=(.int .i64 (Int.tmod ae ah.2))) rfl rfl (fun _=>Sz ae ah.2 rfl rfl bs) ?_;obtain ⟨b9,aw,hm⟩:=bZ hm;replace af:=af.kp an;refine xu rfl rfl (fun _=>Wi underlying40 sizeOf3 rfl rfl (Xn aw).1 (Xn aw).2.1 (af.addr aw)) ?_;refine xe rfl rfl ?_;intro ca hC0;have hC:=hC0.bl ad;obtain ⟨ax,ay,hm⟩:=bZ hm;have ay:ax=ak.set (Int.toNat ah.1) (Int.tmod ae ah.2):=(Option.some.inj ay).symm;replace af:=af.gr hC;refine Wb (x1:=Int.tmod ae ah.2) af aw ?_;intro bt ao be az;rw [← ay] at az;replace ab:=(ab.gr hC).kp ao;replace ab:Zm 40 3 ad bt ar #[.slice ai ax.length aj]:=by rw [← (show ak.length=ax.length by rw [ay,nS])];exact ab
  refine Zk<|xk ad<|Y9 ?_;replace hmk:=((hmk.kp an).gr hC).kp ao;replace hki:=((hki.kp an bd rfl).gr hC).kp ao be rfl;replace aa:=((aa.kp an bd).grow hC).kp ao be;replace ac:=(ac.gr hC).kp ao;replace hrec:=(hrec.gr hC).kp ao;intro cb hC;replace hC:=hC.bl ad;refine Wk ?_;replace ac:=ac.gr hC;refine lW ac.at1<|Xo rfl ?_;obtain ⟨bu,hm⟩:=Zx hm;refine lV (.int .i64 (i64.wrap (Int.tdiv ae ah.2))) (Vw ae ah.2 rfl rfl bu)<|Q5 (v:=(.int .i64 (i64.wrap (Int.tdiv ae ah.2)))) ac sizeOf3 rfl rfl (by intro u hu;simp only [Value.cells,List.mem_cons,List.not_mem_nil,or_false] at hu;subst hu;rfl) rfl rfl ?_;intro bv ap bf a8;replace a8:Zm 3 1 ad bv a2 #[.int .i64 (i64.wrap (Int.tdiv ae ah.2))]:=a8;refine Zk ?_;replace az:=(az.gr hC).kp ap;replace ab:=(ab.gr hC).kp ap;replace hrec:=(hrec.gr hC).kp ap;replace hmk:=(hmk.gr hC).kp ap;replace hki:=(hki.gr hC).kp ap bf rfl;replace aa:=(aa.grow hC).kp ap bf;exact ⟨_,hki,⟨(i64.wrap (Int.tdiv ae ah.2)),ai,aj,ax,hm,aa,a8,az,ab⟩,hrec,hmk⟩
 ·intro bw ad al hJ hmk;obtain ⟨ae,ai,aj,ak,hm,aa,ac,af,ab⟩:=hJ;rw [Zda.eq_1] at hm;refine go ?_;refine lW ab.at1<|go ?_;cases hm;refine ⟨_,(bw :: []),rfl,hmk,?_⟩;intro cc bg bx;replace af:=af.kp bg;replace aa:=aa.kp bg bx;exact ⟨Vq w0.heap.size col ad (fun n=>bif Nat.beq n 2 then c1 else 0),ai,aj,rfl,aa.fin (fun n=>bif Nat.beq n 2 then c1 else 0),aa.finOwn (g:=(fun n=>bif Nat.beq n 2 then c1 else 0)) rfl af (by decide) (by decide) rfl⟩
 intro _ _ _ _ h;exact h.elim
def Zc8 (N:Nat) (ab:Int) (ac:List Int):Nat→Int→Option (List Ra)
  | 0,_=>none
  | ad+1,aa=>if (decide (aa<ab))=true then ((Zkl N ac aa).bind fun ae=>((Zc8 N ab ac ad) (i64.wrap (aa+1))).bind fun af=>some ((aa,ae) :: af)) else (some [])
termination_by structural x=>x
def Zmv (N:Nat) (aa:Int) (ab:List Int):Option (List Ra):=
  Zc8 N aa ab N 0
theorem Z12 (N:Nat) (cy:Nat) (col:Zd) (w0:World) (g0:Nat) (ah:Int) (hb0:Zm 3 450 col w0 g0 #[.int .i64 ah]) (g1:Nat) (af1:Option Addr) (capf1:Nat) (ad:List Int) (hf1:Zc (Za.int .i64) 3 450 col w0 af1 capf1 ad) (hb1:Zm 40 450 col w0 g1 #[.slice af1 ad.length capf1]) (r:List Ra) (hm:Zmv N ah ad=some r):
    Zgb prog 1 239 [.pointer (some ⟨g0,0,none⟩),.pointer (some ⟨g1,0,none⟩)] (fun (y:Int×List Int) (col:Zd) (w:World) (args:List Value)=>∃ (a1:Option Addr) (ak:Nat),args=[.int .i64 y.1,.slice a1 y.2.length ak]∧Zc (Za.int .i64) 3 cy col w a1 ak y.2) r col w0:=by
 intro l J X hjs hxs hy aa;refine Zjd (m:=17) (args:=[.func (.yield l) #[] #[],.pointer (some ⟨g0,0,none⟩),.pointer (some ⟨g1,0,none⟩)]) func239 rfl rfl rfl rfl ?_;rw [Zmv.eq_1] at hm;refine go ?_;refine lW hb0.at1<|go ?_;refine Zw [0,2,5,1000000] (fun n f ae=>∃ ab r ai af,af=n∧Zc8 N ah ad af ai=some r∧J r ab ae∧Zc (Za.int .i64) 3 450 ab ae af1 capf1 ad∧Zm 40 450 ab ae g1 #[.slice af1 ad.length capf1]∧Zm 3 450 ab ae g0 #[.int .i64 ah]∧[6].map f=[.int .i64 ai]) N ⟨_,_,0,_,rfl,hm,aa,hf1,hb1,hb0,rfl⟩ ?_;clear hm;intro n f ae hI;obtain ⟨ab,r,ai,af,hn,hm,aa,hf1,hb1,hb0,hs⟩:=hI;subst hn;refine .lL [6] hs ?_
 cases af with
 | zero=>rw [Zc8.eq_1] at hm;cases hm
 | succ af=>
  rw [Zc8.eq_2] at hm;refine go ?_;refine Zo hm (fun hb hm=>go ?_) fun hb hm=>go ?_
  ·refine lM (.func (.yield l) #[] #[])<|Xo rfl<|lW hb1.at1<|Xo rfl ?_;obtain ⟨an,ao,hm⟩:=bZ hm;refine Zi (Z13 501 ao (hf1.toSlF (Zn.int .i64))) ?_;rintro _ ar ⟨ap,al,am,rfl,ac,ag⟩;refine ⟨_,rfl,?_⟩;replace ag:=ag.thaw (Z3 .i64) ac ((Fz.refl (col:=ab)).froz 450) (by decide);replace ac:=ac.thawR (col:=ab);generalize Xf ae.heap.size ab ap=au at *;replace hf1:=hf1.gr ac;replace hb1:=hb1.gr ac;replace hb0:=hb0.gr ac;replace aa:=hjs _ _ _ _ _ aa ac.toP;replace hf1:=hf1.recol 501 cy (by decide);replace ag:=ag.recolSelf cy (by decide);replace hb1:=hb1.recol 501 cy (by decide);replace hb0:=hb0.recol 501 cy (by decide);replace aa:=hjs _ _ _ _ _ aa ((Z1.refl _ _ _).recol 501 cy rfl);obtain ⟨av,hc_15m,aq⟩:=bZ hm;cases aq;have hm:=hc_15m;refine ly2 rfl rfl rfl rfl (hy _ _ _ _ [.int .i64 ai,.slice al an.length am] aa ⟨al,am,rfl,ag⟩) ?_;rintro _ aw ⟨ax,aj,⟨rfl,hJ⟩ | ⟨rfl,hX⟩⟩
   ·refine ⟨_,rfl,?_⟩;have aa:=hJ;refine go ?_;refine Yf rfl<|go ?_;replace hf1:=hf1.kpp aj;replace hb1:=hb1.kpp aj;replace hb0:=hb0.kpp aj;exact ⟨af,by omega,rfl,⟨_,_,_,_,rfl,hm,aa,hf1,hb1,hb0,rfl⟩⟩
   refine ⟨_,rfl,?_⟩;have aa:=hX;refine go ?_;refine Yg rfl<|We ?_;exact ⟨rfl,⟨_,rfl⟩,_,.inr aa⟩
  cases hm;exact ⟨rfl,⟨_,rfl⟩,_,.inl aa⟩
def Zkj (N:Nat) (ab:List Int):Option (List Ra):=
  (Zdd ab).bind fun aa=>(Zc9 aa).bind fun ac=>Zmv N ac.1 aa
theorem Z11 {N ay:Nat} {a0:Option Addr} {col:Zd} {w0:World} {ai:R2} {r:(List Ra)} (cy:Nat) (hm:Zkj N ai=some r) (h0:Sl (Za.int .i64) col w0 a0 ay ai):
    Calls prog 142 #[.slice a0 ai.length ay] w0 (fun e w'=>∃ (col':Zd) (rv1:Value),e= .returned (rv1)∧Zg col w0 col' w'∧It prog 1 rv1 (fun (y:Int×List Int) (col:Zd) (w:World) (args:List Value)=>∃ (a1:Option Addr) (az:Nat),args=[.int .i64 y.1,.slice a1 y.2.length az]∧Zc (Za.int .i64) 3 cy col w a1 az y.2) r q1 col' w'):=by
 refine Xc 2 (m:=14) func142 rfl rfl rfl rfl rfl ?_;rw [Zkj.eq_1] at hm;have aa:=St.start col w0;refine go ?_;refine lv (v:=_) rfl rfl (U0 rfl)<|go ?_;obtain ⟨aj,a5,hm⟩:=bZ hm;replace h0:=h0.keep (Zf.start col w0);refine Zi (Zos 1 a5 (h0.ks aa)) ?_;rintro _ bf ⟨a6,ak,al,rfl,a7,ac⟩;refine ⟨_,rfl,?_⟩;refine Zds (col:=a6) (v:=(.slice none (([]:List Int).length) 0)) 2 rfl zeroValue40 ?_;intro ad a8 ag a2 am;replace am:Zm 40 2 ag a8 ad #[.slice none (([]:List Int).length) 0]:=am;refine Q5 (v:=(.slice ak aj.length al)) am sizeOf40 rfl rfl (by intro u hu;simp only [Value.cells,List.mem_cons,List.not_mem_nil,or_false] at hu;subst hu;rfl) rfl rfl ?_;intro a3 a4 a9 ae;replace ae:Zm 40 2 ag a3 ad #[.slice ak aj.length al]:=ae;refine go ?_;refine lW ae.at1 ?_;obtain ⟨ab,ba,hm⟩:=bZ hm;replace ac:=(ac.gr a2).kp a4;refine Zi (Zrx ba (ac.toSlF (Zn.int .i64))) ?_;rintro _ bb ⟨rfl,ah⟩;refine ⟨_,rfl,?_⟩;replace ah:Zg ag a3 ag bb:=.of_below ah;refine lM (.tuple #[.int .i64 ab.1,.int .i64 ab.2])<|lV (.int .i64 ab.1) (Xv rfl rfl)<|lV (.int .i64 ab.2) (Xv rfl rfl)<|Zds (col:=ag) (v:=(.int .i64 0)) 3 rfl zeroValue3 ?_;intro af bc an ao ap;replace ap:Zm 3 3 an bc af #[.int .i64 0]:=ap;refine Q5 (v:=(.int .i64 ab.1)) ap sizeOf3 rfl rfl (by intro u hu;simp only [Value.cells,List.mem_cons,List.not_mem_nil,or_false] at hu;subst hu;rfl) rfl rfl ?_;intro bd aq be ar;replace ar:Zm 3 3 an bd af #[.int .i64 ab.1]:=ar;refine go ?_;refine lV (.func (.func 239) #[] #[.pointer (some ⟨af,0,none⟩),.pointer (some ⟨ad,0,none⟩)]) (Zp5 rfl rfl)<|lA (.func (.func 239) #[] #[.pointer (some ⟨af,0,none⟩),.pointer (some ⟨ad,0,none⟩)])<|go ?_;replace aa:=(((((aa.grow a7).grow a2).kp a4 a9).grow ah).grow ao).kp aq be;have au:=aa.finBox (G:=(fun n=>bif Nat.beq n 3 then 450 else bif Nat.beq n 2 then 450 else bif Nat.beq n 1 then 450 else 0)) ar (by decide) (by decide) (show (fun n=>bif Nat.beq n 3 then 450 else bif Nat.beq n 2 then 450 else bif Nat.beq n 1 then 450 else 0) 3=450 from rfl);replace ae:=((ae.gr ah).gr ao).kp aq;have av:=aa.finBox (G:=(fun n=>bif Nat.beq n 3 then 450 else bif Nat.beq n 2 then 450 else bif Nat.beq n 1 then 450 else 0)) ae (by decide) (by decide) (show (fun n=>bif Nat.beq n 3 then 450 else bif Nat.beq n 2 then 450 else bif Nat.beq n 1 then 450 else 0) 2=450 from rfl);replace ac:=((ac.gr ah).gr ao).kp aq
 have aw:=aa.finOwn (g:=(fun n=>bif Nat.beq n 3 then 450 else bif Nat.beq n 2 then 450 else bif Nat.beq n 1 then 450 else 0)) rfl ac (by decide) (by decide) (show (fun n=>bif Nat.beq n 3 then 450 else bif Nat.beq n 2 then 450 else bif Nat.beq n 1 then 450 else 0) 1=450 from rfl);refine ⟨rfl,Vq w0.heap.size col an (fun n=>bif Nat.beq n 3 then 450 else bif Nat.beq n 2 then 450 else bif Nat.beq n 1 then 450 else 0),_,rfl,aa.fin (fun n=>bif Nat.beq n 3 then 450 else bif Nat.beq n 2 then 450 else bif Nat.beq n 1 then 450 else 0),239,[.pointer (some ⟨af,0,none⟩),.pointer (some ⟨ad,0,none⟩)],rfl,call239,?_⟩;intro col9 w9 ax hk9;replace au:=au.itk ax hk9 rfl;replace av:=av.itk ax hk9 rfl;replace aw:=aw.itk ax hk9 rfl (Z3 .i64);exact Z12 N cy col9 w9 af ab.1 au ad ak al aj aw av r hm
def Z6:List Nat→Nat
 | []=>1
 | s :: ss=>s * Z6 ss
def X4:List Nat→Nat→List Int
 | [],_=>[]
 | s :: ss,a=>((a / Z6 ss:Nat):Int) :: X4 ss (a % Z6 ss)
def Wu:List Nat→List Int→Nat
 | s :: ss,d :: w=>d.toNat * Z6 ss+Wu ss w
 | _,_=>0
theorem Zf2:∀ ss:List Nat,(∀ s ∈ ss,0<s)→0<Z6 ss
 | [],_=>by rw [Z6];decide
 | s :: ss,h=>Nat.mul_pos (h s List.mem_cons_self) (Zf2 ss fun x hx=>h x (List.mem_cons_of_mem _ hx))
def S6:List Nat→List Int→Prop
 | [],[]=>True
 | s :: ss,d :: w=>(0≤d∧d<(s:Int))∧S6 ss w
 | _,_=>False
theorem Zjf:∀ (ss:List Nat) (a:Nat),(∀ s ∈ ss,0<s)→a<Z6 ss→S6 ss (X4 ss a)
 | [],_,_,_=>trivial
 | s :: ss,a,h,ha=>by
  have hp:=Zf2 ss fun x hx=>h x (List.mem_cons_of_mem _ hx)
  rw [Z6] at ha
  refine ⟨⟨Int.natCast_nonneg _,Int.ofNat_lt.2 ((Nat.div_lt_iff_lt_mul hp).2 ha)⟩,Zjf ss _ (fun x hx=>h x (List.mem_cons_of_mem _ hx)) (Nat.mod_lt _ hp)⟩
theorem Zv9:∀ (ss:List Nat) (a:Nat),(∀ s ∈ ss,0<s)→a<Z6 ss→Wu ss (X4 ss a)=a
 | [],a,_,ha=>by rw [Z6] at ha;rw [X4,Wu];omega;intro s ss d w h;cases h
 | s :: ss,a,h,ha=>by
  have hp:=Zf2 ss fun x hx=>h x (List.mem_cons_of_mem _ hx)
  rw [X4,Wu,Int.toNat_natCast,Zv9 ss _ (fun x hx=>h x (List.mem_cons_of_mem _ hx)) (Nat.mod_lt _ hp),Nat.mul_comm]
  exact Nat.div_add_mod a (Z6 ss)
theorem Zpt:∀ (ss:List Nat) (w:List Int),S6 ss w→Wu ss w<Z6 ss
 | [],[],_=>by rw [Wu,Z6];decide;intro s ss d w h;cases h
 | s :: ss,d :: w,h=>by
  have h1:=Zpt ss w h.2
  have h2:d.toNat+1≤s:=by have:=h.1;omega
  have h3:=Nat.mul_le_mul_right (Z6 ss) h2
  rw [Nat.add_mul,Nat.one_mul] at h3
  rw [Wu,Z6];omega
theorem Zss:∀ (ss:List Nat) (w:List Int),S6 ss w→X4 ss (Wu ss w)=w
 | [],[],_=>rfl
 | s :: ss,d :: w,h=>by
  have h1:=Zpt ss w h.2
  have hp:0<Z6 ss:=by omega
  have e1:(d.toNat * Z6 ss+Wu ss w) / Z6 ss=d.toNat:=by
   rw [Nat.mul_comm,Nat.mul_add_div hp,Nat.div_eq_of_lt h1,Nat.add_zero]
  have e2:(d.toNat * Z6 ss+Wu ss w) % Z6 ss=Wu ss w:=by
   rw [Nat.mul_comm,Nat.mul_add_mod,Nat.mod_eq_of_lt h1]
  rw [Wu,X4,e1,e2,Zss ss w h.2]
  have:=h.1
  congr 1;omega
/-! the program -/
def X8 (ss:List Nat):List Int:=ss.map fun s:Nat=>(s:Int)
theorem Zox {l:List Int} (h:l.length≤1099511627776):Zdd l=some l:=by
 rw [Zdd,Zz (by simp only [nN,maxLen];omega),List.nil_append]
theorem Zyt:∀ (ss:List Nat) (c:Nat),0<c→(∀ s ∈ ss,0<s)→c * Z6 ss≤65536→Ss (X8 ss) (c:Int)=some (((c * Z6 ss:Nat):Int),0)
 | [],c,_,_,_=>by rw [X8,List.map_nil,Ss.eq_1,Z6,Nat.mul_one]
 | s :: ss,c,hc,hs,hb=>by
  have hp:=Zf2 ss fun x hx=>hs x (List.mem_cons_of_mem _ hx)
  have h0:=hs s List.mem_cons_self
  rw [Z6,← Nat.mul_assoc] at hb ⊢
  have h1:c * s≤c * s * Z6 ss:=Nat.le_mul_of_pos_right _ hp
  have e:Int.tdiv 2147483647 (c:Int)=((2147483647 / c:Nat):Int):=rfl
  have h2:s≤2147483647 / c:=by
   rw [Nat.le_div_iff_mul_le hc,Nat.mul_comm];omega
  have h3:2147483647 / c≤2147483647:=Nat.div_le_self _ _
  have e2:(c:Int) * (s:Int)=((c * s:Nat):Int):=(Int.natCast_mul c s).symm
  rw [X8,List.map_cons,Ss.eq_2,Zz (by omega),e,Zr (x:=((2147483647 / c:Nat):Int)) (by omega),if_neg (dF (by omega)),e2,Zr (by omega)]
  exact Zyt ss (c * s) (Nat.mul_pos hc h0) (fun x hx=>hs x (List.mem_cons_of_mem _ hx)) hb
theorem Zqj (p:List Int):∀ (ss:List Nat),(∀ s ∈ ss,0<s)→Zap p (X8 ss) false=Ss p 1
 | [],_=>by rw [X8,List.map_nil,Zap.eq_1,if_neg (by decide)]
 | s :: ss,hs=>by
  have h0:=hs s List.mem_cons_self
  rw [X8,List.map_cons,Zap.eq_2,if_neg (dF (by omega)),if_neg (by decide),Zkk,decide_eq_false (by omega)]
  exact Zqj p ss fun x hx=>hs x (List.mem_cons_of_mem _ hx)
theorem Zyu {ss:List Nat} (hs:∀ s ∈ ss,0<s) (hb:Z6 ss≤65536):Zc9 (X8 ss)=some ((Z6 ss:Int),0):=by
 have:=Zyt ss 1 (by decide) hs (by rw [Nat.one_mul];exact hb)
 rw [Zc9,Zqj _ ss hs,show (1:Int)=((1:Nat):Int) from rfl,this,Nat.one_mul]
def Zgg (ss:List Nat):Nat→List R5
 | 0=>[]
 | k+1=>((k:Int),((ss.getD k 0:Nat):Int)) :: Zgg ss k
theorem Zy9 {ss:List Nat} {k:Nat} (h:k<ss.length):Zj (X8 ss) (k:Int)=some ((ss.getD k 0:Nat):Int):=by
 rw [V1,X8,List.getElem?_map,List.getElem?_eq_getElem h,List.getD_eq_getElem?_getD,List.getElem?_eq_getElem h];rfl
theorem Zys (N:Nat) (ss:List Nat) (hl:ss.length≤1099511627776):∀ (f k:Nat),k≤ss.length→k<f→Zdb N (X8 ss) f ((k:Int) - 1)=some (Zgg ss k)
 | 0,k,_,h=>by omega
 | f+1,0,h1,h2=>by rw [Zdb.eq_2,if_neg (by decide)];rfl
 | f+1,k+1,h1,h2=>by
  rw [Zdb.eq_2,show ((k+1:Nat):Int) - 1=(k:Int) by omega,if_pos (dT (by omega)),Zy9 (by omega),oB,Zr (by omega),Zys N ss hl f k (by omega) (by omega),oB,Zgg]
theorem Zyv (ss:List Nat) (hs:∀ s ∈ ss,0<s) (a:Nat) (ha:a<4611686018427387904):∀ k,k≤ss.length→Zda (Zgg ss k) ((a / Z6 (ss.drop k):Nat):Int) (List.replicate k 0++X4 (ss.drop k) (a % Z6 (ss.drop k)))=some (X4 ss (a % Z6 ss))
 | 0,_=>by rw [Zgg,Zda.eq_1,List.drop_zero];rfl
 | k+1,hk=>by
  have hkl:k<ss.length:=by omega
  have hdr:ss.drop k=ss.getD k 0 :: ss.drop (k+1):=by
   rw [List.drop_eq_getElem_cons hkl,List.getD_eq_getElem?_getD,List.getElem?_eq_getElem hkl];rfl
  have ih:=Zyv ss hs a ha k (by omega)
  have h0:0<ss.getD k 0:=by
   rw [List.getD_eq_getElem?_getD,List.getElem?_eq_getElem hkl]
   exact hs _ (List.getElem_mem hkl)
  rw [hdr,Z6,X4,Nat.mod_mul_left_mod,Nat.mul_comm,Nat.mod_mul_right_div_self,← Nat.div_div_eq_div_mul] at ih
  have hle:=Nat.div_le_self a (Z6 (ss.drop (k+1)))
  generalize a / Z6 (ss.drop (k+1))=q at *
  generalize X4 (ss.drop (k+1)) (a % Z6 (ss.drop (k+1)))=D at *
  have e1:Int.tmod (q:Int) ((ss.getD k 0:Nat):Int)=((q % ss.getD k 0:Nat):Int):=rfl
  have e2:Int.tdiv (q:Int) ((ss.getD k 0:Nat):Int)=((q / ss.getD k 0:Nat):Int):=rfl
  have h4:q / ss.getD k 0≤q:=Nat.div_le_self _ _
  have e3:(List.replicate (k+1) (0:Int)++D).set k ((q % ss.getD k 0:Nat):Int)=List.replicate k 0++((q % ss.getD k 0:Nat):Int) :: D:=by
   rw [List.replicate_succ',List.append_assoc,List.set_append_right (i:=k) _ (by rw [List.length_replicate];exact Nat.le_refl _),List.length_replicate,Nat.sub_self];rfl
  generalize q / ss.getD k 0=z at *
  rw [Zgg,Zda.eq_2,Zz (by simp only;omega)]
  dsimp only
  rw [Zy (by rw [nA,List.length_replicate];omega),oB,e1,e2,Int.toNat_natCast,e3,oB,Zz (by omega),Zr (by omega)]
  exact ih
theorem Z21 {N:Nat} {ss:List Nat} (hs:∀ s ∈ ss,0<s) (hl:ss.length≤1048576) (hN:1048577<N) {a:Nat} (ha:a<Z6 ss) (hb:Z6 ss≤65536):Zkl N (X8 ss) (a:Int)=some (X4 ss a):=by
 have hlen:(X8 ss).length=ss.length:=by rw [X8,List.length_map]
 rw [Zkl,hlen]
 by_cases h0:ss.length=0
 ·have:ss=[]:=List.eq_nil_of_length_eq_zero h0
  rw [if_pos (dT (by omega)),this,X4]
 ·have hb2:=Zys N ss (by omega) N ss.length (Nat.le_refl _) (by omega)
  have hd:=Zyv ss hs a (by omega) ss.length (Nat.le_refl _)
  rw [List.drop_length,Z6,Nat.div_one,X4,List.append_nil,Nat.mod_eq_of_lt ha] at hd
  rw [if_neg (dF (by omega)),Zz (by simp only [maxLen];omega),Zmw,Zmx,hlen,Zr (by omega),hb2,oB]
  exact hd
def Zgj (ss:List Nat):Nat→Nat→List Ra
 | _,0=>[]
 | k,m+1=>((k:Int),X4 ss k) :: Zgj ss (k+1) m
theorem Zw9 {N:Nat} {ss:List Nat} (hs:∀ s ∈ ss,0<s) (hl:ss.length≤1048576) (hN:1048577<N) (hb:Z6 ss≤65536):∀ (m k f:Nat),k+m=Z6 ss→m<f→Zc8 N (Z6 ss:Int) (X8 ss) f (k:Int)=some (Zgj ss k m)
 | m,k,0,_,h=>by omega
 | 0,k,f+1,h1,h2=>by rw [Zc8.eq_2,if_neg (dF (by omega))];rfl
 | m+1,k,f+1,h1,h2=>by
  rw [Zc8.eq_2,if_pos (dT (by omega)),Z21 hs hl hN (by omega) hb,oB,wS (by omega),Zw9 hs hl hN hb m (k+1) f (by omega) (by omega),oB,Zgj]
theorem Z52 {N:Nat} {ss:List Nat} (hs:∀ s ∈ ss,0<s) (hl:ss.length≤1048576) (hN:1048577<N) (hb:Z6 ss≤65536):Zkj N (X8 ss)=some (Zgj ss 0 (Z6 ss)):=by
 have hlen:(X8 ss).length=ss.length:=by rw [X8,List.length_map]
 rw [Zkj,Zox (by omega),oB,Zyu hs hb,oB,Zmv]
 exact Zw9 hs hl hN hb (Z6 ss) 0 N (by omega) (by omega)
def Zb:List Int→Nat
 | []=>0
 | x :: l=>x.toNat+4294967296 * Zb l
def Zp (l:List Int):Prop:=∀ x ∈ l,0≤x∧x<4294967296
def Ze (n:Nat):List Int:=if n=0 then [] else ((n % 4294967296:Nat):Int) :: Ze (n / 4294967296)
termination_by n
decreasing_by omega
theorem Zp.nil:Zp []:=by simp [Zp]
theorem Zp.cons {x:Int} {l:List Int} (h:0≤x∧x<4294967296) (hl:Zp l):Zp (x :: l):=fun y hy=>by
 rcases List.mem_cons.1 hy with rfl | hy
 ·exact h
 ·exact hl y hy
theorem Zp.head {x:Int} {l:List Int} (h:Zp (x :: l)):0≤x∧x<4294967296:=h x List.mem_cons_self
theorem Zp.tail {x:Int} {l:List Int} (h:Zp (x :: l)):Zp l:=fun y hy=>h y (List.mem_cons_of_mem _ hy)
theorem Zp.app {a b:List Int} (ha:Zp a) (hb:Zp b):Zp (a++b):=fun y hy=>by
 rcases List.mem_append.1 hy with h | h
 ·exact ha y h
 ·exact hb y h
theorem Zp.take {a:List Int} (h:Zp a) (k:Nat):Zp (a.take k):=fun y hy=>h y (List.mem_of_mem_take hy)
theorem Zp.drop {a:List Int} (h:Zp a) (k:Nat):Zp (a.drop k):=fun y hy=>h y (List.mem_of_mem_drop hy)
theorem Zp.zeros (k:Nat):Zp (List.replicate k 0):=fun y hy=>by
 rw [List.eq_of_mem_replicate hy];decide
theorem Zp.set {a:List Int} (h:Zp a) (k:Nat) {v:Int} (hv:0≤v∧v<4294967296):Zp (a.set k v):=fun y hy=>by
 rcases List.mem_or_eq_of_mem_set hy with h1 | rfl
 ·exact h y h1
 ·exact hv
theorem Zp.get {a:List Int} (h:Zp a) {k:Nat} (hk:k<a.length):0≤a[k]∧a[k]<4294967296:=h _ (List.getElem_mem hk)
theorem Yk:Zb []=0:=rfl
theorem Wg (x:Int) (l:List Int):Zb (x :: l)=x.toNat+4294967296 * Zb l:=rfl
theorem Sv (a b:List Int):Zb (a++b)=Zb a+4294967296 ^ a.length * Zb b:=by
 induction a with
 | nil=>simp [Zb]
 | cons x a ih=>
  rw [List.cons_append,Wg,Wg,ih,nC,Nat.pow_succ]
  grind
theorem Tm (k:Nat):Zb (List.replicate k 0)=0:=by
 induction k with
 | zero=>rfl
 | succ k ih=>rw [List.replicate_succ,Wg,ih];rfl
theorem Sw {l:List Int} (h:Zp l):Zb l<4294967296 ^ l.length:=by
 induction l with
 | nil=>simp [Zb]
 | cons x l ih=>
  have h1:=h.head
  have h2:=ih h.tail
  rw [Wg,nC,Nat.pow_succ]
  have h3:(Zb l+1) * 4294967296≤4294967296 ^ l.length * 4294967296:=Nat.mul_le_mul_right _ h2
  omega
theorem Z9 (n:Nat):Zb (Ze n)=n:=by
 induction n using Nat.strongRecOn with
 | ind n ih=>
  rw [Ze]
  split
  ·rename_i h;rw [h];rfl
  ·rename_i h
   rw [Wg,ih (n / 4294967296) (by omega)]
   omega
theorem W2:Ze 0=[]:=by rw [Ze,if_pos rfl]
theorem Zdx {n:Nat} (h:n≠0):Ze n=((n % 4294967296:Nat):Int) :: Ze (n / 4294967296):=by rw [Ze,if_neg h]
theorem Sg:Ze 1=[1]:=by rw [Zdx (by decide)];simp [W2]
theorem Z8 (n:Nat):Zp (Ze n):=by
 induction n using Nat.strongRecOn with
 | ind n ih=>
  rw [Ze]
  split
  ·exact .nil
  ·exact .cons (by omega) (ih (n / 4294967296) (by omega))
theorem Wv {k n:Nat}:(Ze n).length≤k↔n<4294967296 ^ k:=by
 induction k generalizing n with
 | zero=>
  by_cases h:n=0
  ·subst h;simp [W2]
  ·rw [Zdx h];simp;omega
 | succ k ih=>
  by_cases h:n=0
  ·subst h;simp [W2];exact Nat.pow_pos (by decide)
  ·rw [Zdx h,nC,Nat.add_le_add_iff_right,ih,Nat.pow_succ]
   omega
theorem Yc {l:List Int} (h:Zp l):(Ze (Zb l)).length≤l.length:=Wv.2 (Sw h)
theorem Zgl {n:Nat}:Ze n=[]↔n=0:=by
 by_cases h:n=0
 ·subst h;simp [W2]
 ·rw [Zdx h];simp [h]
theorem Zus {x:Int} {l:List Int} (h:0≤x∧x<4294967296) (h0:x=0→Zb l≠0):Ze (Zb (x :: l))=x :: Ze (Zb l):=by
 have hn:Zb (x :: l)≠0:=by
  rw [Wg]
  by_cases hx:x=0
  ·have:=h0 hx;omega
  ·omega
 rw [Zdx hn,Wg]
 congr 1
 ·omega
 ·congr 1;omega
theorem Z5a {a:List Int} {x:Int} (h:0<x):Zb (a++[x])≠0:=by
 rw [Sv,Wg,Yk]
 have:0<4294967296 ^ a.length * (x.toNat+4294967296 * 0):=Nat.mul_pos (Nat.pow_pos (by decide)) (by omega)
 omega
theorem Z4m {a:List Int} {x:Int} (h:Zp (a++[x])) (hx:x≠0):Ze (Zb (a++[x]))=a++[x]:=by
 induction a with
 | nil=>
  have:=h.head
  rw [List.nil_append,Zus this (fun e=>absurd e hx),Yk,W2]
 | cons y a ih=>
  have h1:0≤x∧x<4294967296:=h x (by simp)
  rw [List.cons_append,Zus h.head fun _=>Z5a (by omega),ih h.tail]
theorem Zvl (a:List Int):Zb (a++[0])=Zb a:=by rw [Sv];simp [Zb]
theorem Zgk {l:List Int} (h:0<l.length):l.take (l.length - 1)++[l[l.length - 1]]=l:=by
 have:=List.take_append_drop (l.length - 1) l
 rw [List.drop_eq_getElem_cons (by omega),List.drop_eq_nil_of_le (by omega)] at this
 exact this
theorem Zl9 {n:Nat} (h:0<(Ze n).length):(Ze n)[(Ze n).length - 1]≠0:=by
 induction n using Nat.strongRecOn with
 | ind n ih=>
  by_cases h0:n=0
  ·subst h0;simp [W2] at h
  ·have e:=Zdx h0
   by_cases h1:n / 4294967296=0
   ·have:Ze n=[((n % 4294967296:Nat):Int)]:=by rw [e,h1,W2]
    simp only [this,List.length_singleton,Nat.sub_self,List.getElem_cons_zero]
    omega
   ·have h2:0<(Ze (n / 4294967296)).length:=by
     rw [Zdx h1];simp
    have:=ih (n / 4294967296) (by omega) h2
    have e2:(Ze n).length - 1=(Ze (n / 4294967296)).length - 1+1:=by rw [e];simp;omega
    have e3:(Ze n)[(Ze n).length - 1]?=(Ze (n / 4294967296))[(Ze (n / 4294967296)).length - 1]?:=by
     rw [e2]
     conv=>lhs;rw [e]
     rw [List.getElem?_cons_succ]
    rw [List.getElem?_eq_getElem (by omega),List.getElem?_eq_getElem (by omega)] at e3
    rw [Option.some.inj e3]
    exact this
theorem U6 {l:List Int} {k:Nat} (hk:k<l.length) (v:Int):Zb (l.set k v)+4294967296 ^ k * (l[k]).toNat=Zb l+4294967296 ^ k * v.toNat:=by
 induction l generalizing k with
 | nil=>simp at hk
 | cons x l ih=>
  cases k with
  | zero=>simp only [List.set_cons_zero,Wg,List.getElem_cons_zero,Nat.pow_zero,Nat.one_mul];omega
  | succ k=>
   have h:=ih (k:=k) (by simpa using hk)
   simp only [List.set_cons_succ,Wg,List.getElem_cons_succ,Nat.pow_succ]
   grind
theorem Zpp {l:List Int} {k:Nat} (hk:k<l.length):Zb (l.take (k+1))=Zb (l.take k)+4294967296 ^ k * (l[k]).toNat:=by
 rw [List.take_add_one,List.getElem?_eq_getElem hk,Sv,Option.toList_some,Wg,Yk,nK,Nat.min_eq_left (by omega)]
 simp
theorem Ud {l:List Int} {k:Nat} (hk:k<l.length):Zb (l.drop k)=(l[k]).toNat+4294967296 * Zb (l.drop (k+1)):=by
 rw [List.drop_eq_getElem_cons hk,Wg]
theorem U7 (l:List Int) (k:Nat):Zb l=Zb (l.take k)+4294967296 ^ k * Zb (l.drop k):=by
 by_cases h:k≤l.length
 ·conv=>lhs;rw [← List.take_append_drop k l]
  rw [Sv,nK,Nat.min_eq_left h]
 ·rw [List.take_of_length_le (by omega),List.drop_eq_nil_of_le (by omega)];simp [Zb]
theorem V6 {x:Int} (h:0≤x∧x<4294967296):u32.wrap x=x:=by rw [IntKind.wrap_u32];omega
theorem Xj {x:Int} (h:0≤x∧x<18446744073709551616):u64.wrap x=x:=by rw [IntKind.wrap_u64];omega
theorem Zf7 {x:Int}:Yn .u64 x 32=x / 4294967296:=by
 have:(min (32:Int).toNat u64.bits)=32:=by decide
 rw [Yn,this]
 exact Int.fdiv_eq_ediv_of_nonneg _ (by decide)
def Zbe (aa:List Int) (kk_L1:(List Int→Option R2)) (ab:Bool):Option R2:=
  if ab=true then (Zv ((0:Int)≤(i64.wrap ((aa.length:Int) - 1))∧(i64.wrap ((aa.length:Int) - 1))≤(aa.length:Int)) (kk_L1 (aa.take (Int.toNat (i64.wrap ((aa.length:Int) - 1)))))) else (some aa)
def Tz (N:Nat):Nat→R2→Option R2
  | 0,_=>none
  | ab+1,aa=>if (decide (0<(aa.length:Int)))=true then ((Zj aa (i64.wrap ((aa.length:Int) - 1))).bind fun ac=>Zbe aa (Tz N ab) (decide (ac=0))) else (Zbe aa (Tz N ab) false)
termination_by structural x=>x
def Uw (N:Nat) (aa:List Int):Option R2:=
  Tz N N aa
theorem Sb {N ap:Nat} {a0:Option Addr} {col:Zd} {w0:World} {ag r:R2} (hm:Uw N ag=some r) (h0:Sl (Za.int .u32) col w0 a0 ap ag):
    Calls prog 217 #[.slice a0 ag.length ap] w0 (fun e w'=>∃ (col':Zd) (ra1:Option Addr) (rc2:Nat),e= .returned ((.slice ra1 r.length rc2))∧Zg col w0 col' w'∧Sl (Za.int .u32) col' w' ra1 rc2 r):=by
 refine Xc 2 (m:=21) func217 rfl rfl rfl rfl rfl ?_;rw [Uw.eq_1] at hm;have ab:=St.start col w0;refine go ?_;replace h0:=h0.keep (Zf.start col w0);refine Zw [1000000] (fun n f ah=>∃ ai ad ae aa af,af=n∧Tz N af aa=some r∧St w0 (Zh col) ai ah∧Sl (Za.int .u32) ai ah ad ae aa∧[0].map f=[.slice ad aa.length ae]) N ⟨_,_,_,_,_,rfl,hm,ab,(h0.ks ab),rfl⟩ ?_;clear hm;intro n f ah hI;obtain ⟨ai,ad,ae,aa,af,hn,hm,ab,ac,hs⟩:=hI;subst hn;refine .lL [0] hs ?_
 cases af with
 | zero=>rw [Tz.eq_1] at hm;cases hm
 | succ af=>
  rw [Tz.eq_2] at hm;refine Z0<|Z0 ?_;refine Wp.cutK [0,1000000] (fun f aj=>∃ ak al,Zbe aa (Tz N af) al=some r∧St w0 (Zh col) ak aj∧Sl (Za.int .u32) ak aj ad ae aa∧[14].map f=[.bool al]) ?_ ?_
  ·intro f aj hJ;obtain ⟨ak,al,hm,ab,ac,hs⟩:=hJ;rw [Zbe.eq_1] at hm;refine .lL [14] hs ?_;refine Zo hm (fun hb hm=>go ?_) fun hb hm=>go ?_
   ·obtain ⟨am,hm⟩:=Zx hm;refine lv (v:=.slice ad (Int.toNat (i64.wrap ((aa.length:Int) - 1))) ae) rfl rfl (V5 underlying43 sizeOf79 rfl rfl am.1 (by have:=ac.1.2;have:=am.2;omega))<|.ld (d:=19) (v:=(.slice ad ((aa.take (Int.toNat (i64.wrap ((aa.length:Int) - 1)))).length) ae)) (congrArg (fun n=>Value.slice ad n ae) (List.length_take_of_le (show (Int.toNat (i64.wrap ((aa.length:Int) - 1)))≤aa.length by have:=am.2;omega)).symm) ?_;refine go ?_;exact ⟨af,by omega,rfl,⟨_,_,_,_,_,rfl,hm,ab,(ac.take (Int.toNat (i64.wrap ((aa.length:Int) - 1)))),rfl⟩⟩
   cases hm;exact ⟨rfl,_,_,_,rfl,ab.fin (cm []),ab.fs ac⟩
  refine go ?_;refine Xt hm (fun an hm=>go ?_) fun an hm=>go ?_
  ·obtain ⟨aq,ao,hm⟩:=bZ hm;refine lI ao (ac.addr ao) ?_;refine go ?_;refine lW (ac.atInt ao)<|go ?_;refine lV (.bool (decide (aq=0))) (Xb (congrArg Value.bool an) rfl)<|Zk ?_;exact ⟨rfl,_,_,hm,ab,ac,rfl⟩
  refine lV (.bool false) (Xm (congrArg Value.bool an) rfl)<|Zk ?_;exact ⟨rfl,_,_,hm,ab,ac,rfl⟩
def Zeg (N:Nat) (ab:List Int) (ac:List Int):Nat→Int→Option Int
  | 0,_=>none
  | af+1,aa=>if (decide (0≤aa))=true then ((Zj ab aa).bind fun ad=>(Zj ac aa).bind fun ae=>if (decide (ad<ae))=true then (some (-1)) else (if (decide (ae<ad))=true then (some 1) else ((Zeg N ab ac af) (i64.wrap (aa - 1))))) else (some 0)
termination_by structural x=>x
def Zef (N:Nat) (ac:List Int) (ad:List Int):Option Int:=
  (Uw N ac).bind fun aa=>(Uw N ad).bind fun ab=>if (!decide ((aa.length:Int)=(ab.length:Int)))=true then (if (decide ((aa.length:Int)<(ab.length:Int)))=true then (some (-1)) else (some 1)) else (Zeg N aa ab N (i64.wrap ((aa.length:Int) - 1)))
theorem Zoi {N al am:Nat} {a0 a1:Option Addr} {col:Zd} {w0:World} {ai aj:R2} {r:Int} (hm:Zef N ai aj=some r) (h0:Sl (Za.int .u32) col w0 a0 al ai) (h1:Sl (Za.int .u32) col w0 a1 am aj):
    Calls prog 250 #[.slice a0 ai.length al,.slice a1 aj.length am] w0 (fun e w'=>e= .returned ((.int .i64 r))∧Below w0.heap.size w0 w'):=by
 refine Xc 4 (m:=45) func250 rfl rfl rfl rfl rfl ?_;rw [Zef.eq_1] at hm;have aa:=St.start col w0;refine go ?_;obtain ⟨an,aq,hm⟩:=bZ hm;replace h0:=h0.keep (Zf.start col w0);refine Zi (Sb aq (h0.ks aa)) ?_;rintro _ az ⟨a2,ar,au,rfl,av,ab⟩;refine ⟨_,rfl,?_⟩;refine Yr rfl ?_;obtain ⟨ao,aw,hm⟩:=bZ hm;replace h1:=h1.keep (Zf.start col w0);replace aa:=aa.grow av;refine Zi (Sb aw (h1.ks aa)) ?_;rintro _ a3 ⟨a4,ax,ay,rfl,ap,ad⟩;refine ⟨_,rfl,go ?_⟩;replace ab:=ab.gr ap;replace aa:=aa.grow ap;refine Zo hm (fun hb hm=>go ?_) fun hb hm=>go ?_
 ·refine Zo hm (fun hb hm=>go ?_) fun hb hm=>go ?_
  ·cases hm;exact ⟨rfl,rfl,aa.below⟩
  cases hm;exact ⟨rfl,rfl,aa.below⟩
 refine Zw [0,1,1000000] (fun n f ah=>∃ ac ak ae,ae=n∧Zeg N an ao ae ak=some r∧St w0 (Zh col) ac ah∧Sl (Za.int .u32) ac ah ar au an∧Sl (Za.int .u32) ac ah ax ay ao∧[5].map f=[.int .i64 ak]) N ⟨_,_,_,rfl,hm,aa,ab,ad,rfl⟩ ?_;clear hm;intro n f ah hI;obtain ⟨ac,ak,ae,hn,hm,aa,ab,ad,hs⟩:=hI;subst hn;refine .lL [5] hs ?_
 cases ae with
 | zero=>rw [Zeg.eq_1] at hm;cases hm
 | succ ae=>
  rw [Zeg.eq_2] at hm;refine go ?_;refine Zo hm (fun hb hm=>go ?_) fun hb hm=>go ?_
  ·refine Wd (col:=ac) (by kernel_rfl) (by kernel_rfl)<|go ?_;obtain ⟨a5,af,hm⟩:=bZ hm;refine qI af (ab.addr af)<|qW (fun _ hC=>(ab.gr (hC.bl ac)).atInt af) ?_;refine go ?_;obtain ⟨a6,ag,hm⟩:=bZ hm;refine qI ag (ad.addr ag)<|qW (fun _ hC=>(ad.gr (hC.bl ac)).atInt ag) ?_;refine go ?_;refine X7 ?_;intro a7 hC;replace hC:=hC.bl ac;replace ab:=ab.gr hC;replace ad:=ad.gr hC;replace aa:=aa.grow hC;refine Zo hm (fun hb hm=>go ?_) fun hb hm=>go ?_
   ·cases hm;exact ⟨rfl,rfl,aa.below⟩
   refine Wd (col:=ac) (by kernel_rfl) (by kernel_rfl)<|go ?_;refine qI af (ab.addr af)<|qW (fun _ hC=>(ab.gr (hC.bl ac)).atInt af) ?_;refine go ?_;refine qI ag (ad.addr ag)<|qW (fun _ hC=>(ad.gr (hC.bl ac)).atInt ag) ?_;refine go ?_;refine X7 ?_;intro a8 hC;replace hC:=hC.bl ac;replace ab:=ab.gr hC;replace ad:=ad.gr hC;replace aa:=aa.grow hC;refine Zo hm (fun hb hm=>go ?_) fun hb hm=>go ?_
   ·cases hm;exact ⟨rfl,rfl,aa.below⟩
   exact ⟨ae,by omega,rfl,⟨_,_,_,rfl,hm,aa,ab,ad,rfl⟩⟩
  cases hm;exact ⟨rfl,rfl,aa.below⟩
theorem Z3h:Wf prog 79 1 4:=⟨Tryz.t79,_,rfl,rfl,rfl,rfl,rfl⟩
def Zfw (aa:List Int):Option R2:=
  Zv ((([]:List Int).length+aa.length) * 4≤140737488355328∧([]:List Int).length+aa.length≤maxLen) (some (([]:List Int)++aa))
theorem Zor {ad:Nat} {a0:Option Addr} {col:Zd} {w0:World} {ac r:R2} (c1:Nat) (hm:Zfw ac=some r) (h0:Sl (Za.int .u32) col w0 a0 ad ac):
    Calls prog 273 #[.slice a0 ac.length ad] w0 (fun e w'=>∃ (col':Zd) (ra1:Option Addr) (rc2:Nat),e= .returned ((.slice ra1 r.length rc2))∧Zg col w0 col' w'∧Zc (Za.int .u32) 79 c1 col' w' ra1 rc2 r):=by
 refine Xc 2 (m:=8) func273 rfl rfl rfl rfl rfl ?_;rw [Zfw.eq_1] at hm;have aa:=St.start col w0;refine go ?_;replace h0:=h0.keep (Zf.start col w0);rcases Zm9 h0 with ab | ab
 ·replace hm:some ([]:List Int)=some r:=by have h0:=ab.2;subst h0;simpa [Zv,maxLen] using hm
  refine lv (v:=.bool a0.isNone) rfl rfl (Zdh underlying43 rfl)<|.ld (d:=4) (v:=.bool true) (congrArg Value.bool ab.1)<|Zk<|Yg rfl<|go ?_;cases hm;exact ⟨rfl,_,none,0,rfl,aa.fin (cm []),Zc.nil⟩
 refine lv (v:=.bool a0.isNone) rfl rfl (Zdh underlying43 rfl)<|.ld (d:=4) (v:=.bool false) (congrArg Value.bool ab)<|Zk<|Yf rfl<|go ?_;refine Zl7 (col:=(Zh col)) (r:=(Za.int .u32)) 1 rfl underlying43 Z3h rfl ?_;intro aj ak al ae af;refine Yr rfl ?_;obtain ⟨ag,hm⟩:=Zx hm;replace h0:=h0.gr ae;refine Y3 af h0.srcC ag ?_;intro am an ao ap ah ai;refine go ?_;cases hm;replace aa:=(aa.grow ae).kpp ah;exact ⟨rfl,_,_,_,rfl,aa.fin (cm [(1,c1)]),aa.fo ai⟩
def Zmm (aa:Int) (kk_L1:(List Int→Int→Int→Option R2)) (ab:List Int) (ac:Int):Option R2:=
  kk_L1 ab ac (i64.wrap (aa+1))
def Zhk (ab:List Int) (aa:Int) (kk_L1:(List Int→Int→Int→Option R2)) (ac:Int) (ad:Int):Option R2:=
  (Zj ab aa).bind fun ae=>(some (ab.set (Int.toNat aa) (u32.wrap (ae - (u32.wrap ac))))).bind fun af=>Zmm aa kk_L1 af ad
def Zhj (aa:List Int) (ab:Int) (kk_L1:(List Int→Int→Int→Option R2)) (ac:Int):Option R2:=
  (Zj aa ab).bind fun ad=>if (decide ((u64.wrap ad)<ac))=true then (Zhk aa ab kk_L1 ac 1) else (Zhk aa ab kk_L1 ac 0)
def Ty (N:Nat) (ac:List Int) (ab:List Int):Nat→R2→Int→Int→Option R2
  | 0,_,_,_=>none
  | ae+1,ad,af,aa=>if (decide (aa<(ac.length:Int)))=true then (if (decide (aa<(ab.length:Int)))=true then ((Zj ab aa).bind fun ag=>Zhj ad aa (Ty N ac ab ae) (u64.wrap (af+(u64.wrap ag)))) else (Zhj ad aa (Ty N ac ab ae) af)) else (some ad)
termination_by structural x=>x
def Zml (N:Nat) (aa:List Int) (ab:List Int):Option R2:=
  Ty N aa ab N aa 0 0
theorem Z00 {N ae an:Nat} {a0 a1:Option Addr} {col:Zd} {w0:World} {ab ag r:R2} (qc0:Nat) (hm:Zml N ab ag=some r) (hd:Qb [qc0]=true) (h0:Zc (Za.int .u32) 79 qc0 col w0 a0 ae ab) (h1:Sl (Za.int .u32) col w0 a1 an ag):
    Calls prog 286 #[.slice a0 ab.length ae,.slice a1 ag.length an] w0 (fun e w'=>∃ (col':Zd),e= .returned (.tuple #[])∧Z1 (pS [qc0]) col w0 col' w'∧Zc (Za.int .u32) 79 qc0 col' w' a0 ae r∧r.length=ab.length):=by
 refine Zjd (m:=40) (args:=[.slice a0 ab.length ae,.slice a1 ag.length an]) func286 rfl rfl rfl rfl ?_;rw [Zml.eq_1] at hm;have aa:=St.startL (l:=[qc0]) rfl col w0;replace h0:=h0.startL (Zaz hd 0 rfl) (Zay hd 0 rfl);refine go ?_;refine Zw [1,8,1000000] (fun n f ao=>∃ ap ac aq ah af,af=n∧Ty N ab ag af ac aq ah=some r∧St w0 (Xu [qc0] col) ap ao∧Zc (Za.int .u32) 79 440 ap ao a0 ae ac∧ac.length=ab.length∧ac.length=ab.length∧[0,4,9].map f=[.slice a0 ac.length ae,.int .u64 aq,.int .i64 ah]) N ⟨_,_,0,0,_,rfl,hm,aa,h0,rfl,rfl,rfl⟩ ?_;clear hm;intro n f ao hI;obtain ⟨ap,ac,aq,ah,af,hn,hm,aa,ad,a8,a9,hs⟩:=hI;subst hn;refine .lL [0,4,9] hs ?_;replace h1:=h1.keep (Zf.startL [qc0] col w0)
 cases af with
 | zero=>rw [Ty.eq_1] at hm;cases hm
 | succ af=>
  rw [Ty.eq_2] at hm;refine go ?_;refine Zo hm (fun hb hm=>?_) fun hb hm=>go ?_
  ·refine X9<|Z0 ?_;refine Wp.cutK [1,8,9,1000000] (fun f ar=>∃ au ai av,Zmm ah (Ty N ab ag af) ai av=some r∧St w0 (Xu [qc0] col) au ar∧Zc (Za.int .u32) 79 440 au ar a0 ae ai∧ai.length=ab.length∧ai.length=ab.length∧[0,4].map f=[.slice a0 ai.length ae,.int .u64 av]) ?_ ?_
   ·intro f ar hJ;obtain ⟨au,ai,av,hm,aa,ba,bb,bc,hs⟩:=hJ;rw [Zmm.eq_1] at hm;refine .lL [0,4] hs<|go ?_;exact ⟨af,by omega,rfl,⟨_,_,_,_,_,rfl,hm,aa,ba,bb,bc,rfl⟩⟩
   refine Ziz<|Z0<|Wk<|Xo rfl<|Y8 rfl<|Zk<|Z0<|Wk<|Xo rfl<|Y8 rfl<|Zk<|Z0 ?_;refine Wp.cutK [0,1,5,8,9,1000000] (fun f aw=>∃ ax aj,Zhj ac ah (Ty N ab ag af) aj=some r∧St w0 (Xu [qc0] col) ax aw∧Zc (Za.int .u32) 79 440 ax aw a0 ae ac∧[6].map f=[.int .u64 aj]) ?_ ?_
   ·intro f aw hJ;obtain ⟨ax,aj,hm,aa,ad,hs⟩:=hJ;rw [Zhj.eq_1] at hm;refine .lL [6] hs<|Z0<|Wk<|Y8 rfl<|Zk<|Z0 ?_;refine Wp.cutK [0,1,5,6,8,9,1000000] (fun f ay=>∃ az a2,Zhk ac ah (Ty N ab ag af) aj a2=some r∧St w0 (Xu [qc0] col) az ay∧Zc (Za.int .u32) 79 440 az ay a0 ae ac∧[4].map f=[.int .u64 a2]) ?_ ?_
    ·intro f ay hJ;obtain ⟨az,a2,hm,aa,ad,hs⟩:=hJ;rw [Zhk.eq_1] at hm;refine .lL [4] hs<|go ?_;obtain ⟨a5,ak,hm⟩:=bZ hm;refine lI ak (ad.addr ak)<|lW (ad.atInt ak) ?_;refine go ?_;refine lI ak (ad.addr ak) ?_;obtain ⟨al,am,hm⟩:=bZ hm;have am:al=ac.set (Int.toNat ah) (u32.wrap (a5 - (u32.wrap aj))):=(Option.some.inj am).symm;refine Wb (x1:=u32.wrap (a5 - (u32.wrap aj))) ad ak ?_;intro bf bd be a6;rw [← am] at a6;have a7:al.length=ab.length:=(show ac.length=al.length by rw [am,nS]).symm.trans a8;refine .ld (d:=0) (v:=(.slice a0 al.length ae)) (congrArg (fun n=>Value.slice a0 n ae) (show ac.length=al.length by rw [am,nS])) ?_;refine Zk ?_;replace aa:=aa.kp bd be;exact ⟨rfl,_,_,_,hm,aa,a6,a7,a7,rfl⟩
    refine go ?_;obtain ⟨bg,a3,hm⟩:=bZ hm;refine lI a3 (ad.addr a3)<|lW (ad.atInt a3) ?_;refine go ?_;refine Zo hm (fun hb hm=>go ?_) fun hb hm=>?_
    ·exact ⟨rfl,_,1,hm,aa,ad,rfl⟩
    refine X9 ?_;exact ⟨rfl,_,0,hm,aa,ad,rfl⟩
   refine go ?_;refine Zo hm (fun hb hm=>go ?_) fun hb hm=>?_
   ·obtain ⟨bh,a4,hm⟩:=bZ hm;refine lI a4 ((h1.ks aa).addr a4)<|lW ((h1.ks aa).atInt a4) ?_;refine go ?_;exact ⟨rfl,_,_,hm,aa,ad,rfl⟩
   refine X9 ?_;exact ⟨rfl,_,_,hm,aa,ad,rfl⟩
  cases hm;exact ⟨rfl,_,rfl,aa.finL rfl (cm [(440,qc0)]),aa.foL ad,a9⟩
def Uv (N:Nat) (ab:List Int):Option R2:=
  (Uw N ab).bind fun aa=>if (decide ((aa.length:Int)=0))=true then (some ([]:List Int)) else ((Zfw aa).bind fun ac=>some ac)
theorem Sa {N ac:Nat} {a0:Option Addr} {col:Zd} {w0:World} {ab r:R2} (c1:Nat) (hm:Uv N ab=some r) (h0:Sl (Za.int .u32) col w0 a0 ac ab):
    Calls prog 218 #[.slice a0 ab.length ac] w0 (fun e w'=>∃ (col':Zd) (ra1:Option Addr) (rc2:Nat),e= .returned ((.slice ra1 r.length rc2))∧Zg col w0 col' w'∧Zc (Za.int .u32) 79 c1 col' w' ra1 rc2 r):=by
 refine Xc 2 (m:=10) func218 rfl rfl rfl rfl rfl ?_;rw [Uv.eq_1] at hm;have aa:=St.start col w0;refine go ?_;obtain ⟨aj,ad,hm⟩:=bZ hm;replace h0:=h0.keep (Zf.start col w0);refine Zi (Sb ad (h0.ks aa)) ?_;rintro _ ak ⟨al,am,an,rfl,ae,af⟩;refine ⟨_,rfl,go ?_⟩;replace aa:=aa.grow ae;refine Zo hm (fun hb hm=>go ?_) fun hb hm=>go ?_
 ·cases hm;exact ⟨rfl,_,none,0,rfl,aa.fin (cm []),Zc.nil⟩
 obtain ⟨ao,ag,hm⟩:=bZ hm;refine Zi (Zor 1 ag af) ?_;rintro _ ap ⟨aq,ar,au,rfl,ah,ai⟩;refine ⟨_,rfl,go ?_⟩;cases hm;replace aa:=aa.grow ah;exact ⟨rfl,_,_,_,rfl,aa.fin (cm [(1,c1)]),aa.fo ai⟩
def Zhg (N:Nat) (aa:List Int) (ab:List Int):Option Rg:=
  (Zef N aa ab).bind fun ac=>if (decide (ac<0))=true then (some (([]:List Int),false)) else ((Uw N aa).bind fun ad=>(Zfw ad).bind fun ae=>(Uw N ab).bind fun af=>(Zml N ae af).bind fun ag=>(Uv N ag).bind fun ah=>some (ah,true))
theorem Zre {N ah ai:Nat} {a0 a1:Option Addr} {col:Zd} {w0:World} {ab ac:R2} {r:Rg} (c1:Nat) (hm:Zhg N ab ac=some r) (h0:Sl (Za.int .u32) col w0 a0 ah ab) (h1:Sl (Za.int .u32) col w0 a1 ai ac):
    Calls prog 258 #[.slice a0 ab.length ah,.slice a1 ac.length ai] w0 (fun e w'=>∃ (col':Zd) (ra1:Option Addr) (rc2:Nat),e= .returned (.tuple #[.slice ra1 r.1.length rc2,.bool r.2])∧Zg col w0 col' w'∧Zc (Za.int .u32) 79 c1 col' w' ra1 rc2 r.1):=by
 refine Zdr 4 5 (m:=20) (args:=[.slice a0 ab.length ah,.slice a1 ac.length ai]) func258 rfl rfl rfl rfl rfl ?_;rw [Zhg.eq_1] at hm;have aa:=St.start col w0;refine go ?_;obtain ⟨a9,aq,hm⟩:=bZ hm;replace h0:=h0.keep (Zf.start col w0);replace h1:=h1.keep (Zf.start col w0);refine Zi (Zoi aq (h0.ks aa) (h1.ks aa)) ?_;rintro _ ar ⟨rfl,aj⟩;refine ⟨_,rfl,?_⟩;replace aj:Zg (Zh col) w0 (Zh col) ar:=.of_below aj;refine go ?_;replace aa:=aa.grow aj;refine Zo hm (fun hb hm=>go ?_) fun hb hm=>go ?_
 ·cases hm;exact ⟨rfl,_,none,0,rfl,aa.fin (cm []),Zc.nil⟩
 obtain ⟨ba,au,hm⟩:=bZ hm;refine Zi (Sb au (h0.ks aa)) ?_;rintro _ bb ⟨bc,bd,be,rfl,av,aw⟩;refine ⟨_,rfl,?_⟩;obtain ⟨an,ax,hm⟩:=bZ hm;refine Zi (Zor 1 ax aw) ?_;rintro _ bf ⟨bg,ad,ae,rfl,ay,ak⟩;refine ⟨_,rfl,go ?_⟩;obtain ⟨bh,az,hm⟩:=bZ hm;replace aa:=(aa.grow av).grow ay;refine Zi (Sb az (h1.ks aa)) ?_;rintro _ bi ⟨bj,bk,bm,rfl,ao,a2⟩;refine ⟨_,rfl,?_⟩;obtain ⟨af,a3,hm⟩:=bZ hm;replace ak:=ak.gr ao;refine Zi (Z00 1 a3 rfl ak a2) ?_;rintro _ a4 ⟨al,rfl,a5,a6,ap⟩;refine ⟨_,rfl,?_⟩;refine .ld (d:=6) (v:=(.slice ad af.length ae)) (congrArg (fun n=>Value.slice ad n ae) (show an.length=af.length from ap.symm)) ?_;refine .ld (d:=14) (v:=(.slice ad af.length ae)) (congrArg (fun n=>Value.slice ad n ae) (show an.length=af.length from ap.symm)) ?_;refine go ?_;obtain ⟨bn,a7,hm⟩:=bZ hm;refine Zi (Sa 2 a7 (a6.toSlF (Zn.int .u32))) ?_;rintro _ bo ⟨a8,bp,bq,rfl,ag,am⟩;refine ⟨_,rfl,?_⟩;replace am:=am.thaw (Z3 .u32) ag ((Fz.refl (col:=al)).froz 1) (by decide);replace ag:=ag.thawR (col:=al);generalize Xf a4.heap.size al a8=br at *;refine go ?_;cases hm;replace aa:=((aa.grow ao).kpp a5).grow ag;exact ⟨rfl,_,_,_,rfl,aa.fin (cm [(2,c1)]),aa.fo am⟩
def Zmi (aa:Nat) (kk_L1:(Nat→R2→Int→Option R2)) (ab:List Int) (ac:Int):Option R2:=
  kk_L1 (aa+1) ab ac
def Zhe (aa:Nat) (ab:List Int) (kk_L1:(Nat→R2→Int→Option R2)) (ac:Int):Option R2:=
  (Zj ab (aa:Int)).bind fun ae=>(some (ab.set (Int.toNat (aa:Int)) (u32.wrap ac))).bind fun ad=>Zmi aa kk_L1 ad (Yn .u64 ac 32)
def Sk (N:Nat) (ac:List Int) (ad:List Int):List Int→Nat→R2→Int→Option R2
  | [],aa,ab,ae=>(Zj ab (ac.length:Int)).bind fun ak=>(some (ab.set (Int.toNat (ac.length:Int)) (u32.wrap ae))).bind fun ah=>(Uv N ah).bind fun ai=>some ai
  | af :: ag,aa,ab,ae=>if (decide ((aa:Int)<(ad.length:Int)))=true then ((Zj ad (aa:Int)).bind fun aj=>Zhe aa ab (Sk N ac ad ag) (u64.wrap ((u64.wrap (ae+(u64.wrap af)))+(u64.wrap aj)))) else (Zhe aa ab (Sk N ac ad ag) (u64.wrap (ae+(u64.wrap af))))
termination_by structural x=>x
def Zhd (N:Nat) (aa:List Int) (ab:List Int):Option R2:=
  Zv ((Int.toNat (i64.wrap ((aa.length:Int)+1))) * 4≤281474976710656∧(Int.toNat (i64.wrap ((aa.length:Int)+1)))≤maxLen∧0≤(i64.wrap ((aa.length:Int)+1))) (Sk N aa ab aa 0 (List.replicate (Int.toNat (i64.wrap ((aa.length:Int)+1))) (0:Int)) 0)
def Zjs (N:Nat) (ac:List Int) (ad:List Int):Option R2:=
  (Uw N ac).bind fun aa=>(Uw N ad).bind fun ab=>if (decide ((aa.length:Int)<(ab.length:Int)))=true then (Zhd N ab aa) else (Zhd N aa ab)
theorem Z0w {N bp bq:Nat} {a0 a1:Option Addr} {col:Zd} {w0:World} {a9 ba r:R2} (c1:Nat) (hm:Zjs N a9 ba=some r) (h0:Sl (Za.int .u32) col w0 a0 bp a9) (h1:Sl (Za.int .u32) col w0 a1 bq ba):
    Calls prog 257 #[.slice a0 a9.length bp,.slice a1 ba.length bq] w0 (fun e w'=>∃ (col':Zd) (ra1:Option Addr) (rc2:Nat),e= .returned ((.slice ra1 r.length rc2))∧Zg col w0 col' w'∧Zc (Za.int .u32) 79 c1 col' w' ra1 rc2 r):=by
 refine Xc 4 (m:=62) func257 rfl rfl rfl rfl rfl ?_;rw [Zjs.eq_1] at hm;have aa:=St.start col w0;refine go ?_;obtain ⟨ca,bw,hm⟩:=bZ hm;replace h0:=h0.keep (Zf.start col w0);refine Zi (Sb bw (h0.ks aa)) ?_;rintro _ cb ⟨cc,cd,ce,rfl,bx,a3⟩;refine ⟨_,rfl,?_⟩;refine Yr rfl ?_;obtain ⟨cf,bz,hm⟩:=bZ hm;replace h1:=h1.keep (Zf.start col w0);replace aa:=aa.grow bx;refine Zi (Sb bz (h1.ks aa)) ?_;rintro _ cg ⟨ch,ci,cj,rfl,br,bs⟩;refine ⟨_,rfl,?_⟩;refine Za0 rfl<|Za0 rfl<|Zk<|Z0 ?_;replace a3:=a3.gr br;replace aa:=aa.grow br;refine Wp.cutK [1000000] (fun f aq=>∃ ar am an ab ao ap ae,Zhd N ab ae=some r∧St w0 (Zh col) ar aq∧Sl (Za.int .u32) ar aq am an ab∧Sl (Za.int .u32) ar aq ao ap ae∧[0,1].map f=[.slice am ab.length an,.slice ao ae.length ap]) ?_ ?_
 ·intro f aq hJ;obtain ⟨ar,am,an,ab,ao,ap,ae,hm,aa,ac,ad,hs⟩:=hJ;rw [Zhd.eq_1] at hm;refine .lL [0,1] hs<|go ?_;obtain ⟨a4,hm⟩:=Zx hm;refine Sf (col:=ar) (w:=aq) (r:=(Za.int .u32)) (n:=(Int.toNat (i64.wrap ((ab.length:Int)+1)))) (x0:=0) 1 rfl underlying43 Tryz.t79 rfl rfl rfl rfl rfl (congrArg (Value.int _) (Int.toNat_of_nonneg a4.2.2).symm) (congrArg (Value.int _) (Int.toNat_of_nonneg a4.2.2).symm) a4.1 a4.2.1 (Uf .u32 0) ?_;intro ck cl cn bb b0;refine go ?_;replace ac:=ac.gr bb;replace ad:=ad.gr bb;replace aa:=aa.grow bb;refine Zw [0,1,24,25,1000000] (fun n f au=>∃ ah ag ai aj af av aw,n=aw.length∧ab.drop ag=aw∧Sk N ab ae aw ag af av=some r∧St w0 (Zh col) ah au∧Sl (Za.int .u32) ah au am an ab∧Sl (Za.int .u32) ah au ao ap ae∧Zc (Za.int .u32) 79 1 ah au ai aj af∧[26,5,6].map f=[.int .i64 ag,.slice ai af.length aj,.int .u64 av]) ab.length ⟨_,0,_,_,_,0,_,rfl,rfl,hm,aa,ac,ad,b0,rfl⟩ ?_;clear hm;intro n f au hI;obtain ⟨ah,ag,ai,aj,af,av,aw,hn,hl,hm,aa,ac,ad,ak,hs⟩:=hI;subst hn;refine .lL [26,5,6] hs ?_
  cases aw with
  | nil=>
   have hk:¬ ((ag:Int)<(ab.length:Int)):=by have:=List.drop_eq_nil_iff.1 hl;omega
   have hkb:=decide_eq_false hk;rw [Sk.eq_1] at hm;refine go ?_;refine Yf (congrArg Value.bool hkb)<|go ?_;obtain ⟨co,bc,hm⟩:=bZ hm;refine lI bc (ak.addr bc) ?_;obtain ⟨bd,a5,hm⟩:=bZ hm;have a5:bd=af.set (Int.toNat (ab.length:Int)) (u32.wrap av):=(Option.some.inj a5).symm;refine Wb (x1:=u32.wrap av) ak bc ?_;intro b1 b2 b3 bt;rw [← a5] at bt;refine .ld (d:=5) (v:=(.slice ai bd.length aj)) (congrArg (fun n=>Value.slice ai n aj) (show af.length=bd.length by rw [a5,nS])) ?_;refine go ?_;obtain ⟨cp,b4,hm⟩:=bZ hm;refine Zi (Sa 2 b4 (bt.toSlF (Zn.int .u32))) ?_;rintro _ cq ⟨b5,cr,cs,rfl,a6,be⟩;refine ⟨_,rfl,?_⟩;replace be:=be.thaw (Z3 .u32) a6 ((Fz.refl (col:=ah)).froz 1) (by decide);replace a6:=a6.thawR (col:=ah);generalize Xf b1.heap.size ah b5=ct at *;refine go ?_;cases hm;replace aa:=(aa.kp b2 b3).grow a6;exact ⟨rfl,_,_,_,rfl,aa.fin (cm [(2,c1)]),aa.fo be⟩
  | cons bu bf=>
   obtain ⟨bg,b6,b7⟩:=Yw hl;have hk:(ag:Int)<(ab.length:Int):=by omega
   have hkb:=decide_eq_true hk;rw [Sk.eq_2] at hm;refine go ?_;refine Yg (congrArg Value.bool hkb)<|X9<|Z0 ?_;refine Wp.cutK [0,1,24,25,26,1000000] (fun f ax=>∃ ay bh bi a7 bj,Zmi ag (Sk N ab ae bf) a7 bj=some r∧St w0 (Zh col) ay ax∧Sl (Za.int .u32) ay ax am an ab∧Sl (Za.int .u32) ay ax ao ap ae∧Zc (Za.int .u32) 79 1 ay ax bh bi a7∧[5,6].map f=[.slice bh a7.length bi,.int .u64 bj]) ?_ ?_
   ·intro f ax hJ;obtain ⟨ay,bh,bi,a7,bj,hm,aa,ac,ad,b8,hs⟩:=hJ;rw [Zmi.eq_1] at hm;refine .lL [5,6] hs<|go ?_;exact ⟨bf.length,by simp,rfl,⟨_,_,_,_,_,_,_,rfl,b6,hm,aa,ac,ad,b8,(Y1 (congrArg (Value.int .i64) (Yy (Nat.lt_of_lt_of_le b7 ac.1.1))) rfl)⟩⟩
   refine go ?_;refine lI bg (ac.addr bg)<|lW (ac.atInt bg)<|Y8 rfl<|Y8 rfl<|Zk<|Z0<|Wk<|Xo rfl<|Xo rfl<|lV (.int .u64 (u64.wrap bu)) (Zky bu ⟨_,underlying79⟩ underlying193 rfl)<|lV _ (Qy _ _ rfl rfl)<|Y8 rfl<|Zk<|Z0 ?_;refine Wp.cutK [0,1,24,25,26,5,7,1000000] (fun f az=>∃ a2 al,Zhe ag af (Sk N ab ae bf) al=some r∧St w0 (Zh col) a2 az∧Sl (Za.int .u32) a2 az am an ab∧Sl (Za.int .u32) a2 az ao ap ae∧Zc (Za.int .u32) 79 1 a2 az ai aj af∧[6].map f=[.int .u64 al]) ?_ ?_
   ·intro f az hJ;obtain ⟨a2,al,hm,aa,ac,ad,ak,hs⟩:=hJ;rw [Zhe.eq_1] at hm;refine .lL [6] hs<|go ?_;obtain ⟨cu,bk,hm⟩:=bZ hm;refine lI bk (ak.addr bk) ?_;obtain ⟨bm,a8,hm⟩:=bZ hm;have a8:bm=af.set (Int.toNat (ag:Int)) (u32.wrap al):=(Option.some.inj a8).symm;refine Wb (x1:=u32.wrap al) ak bk ?_;intro cv bn b9 bv;rw [← a8] at bv;refine .ld (d:=5) (v:=(.slice ai bm.length aj)) (congrArg (fun n=>Value.slice ai n aj) (show af.length=bm.length by rw [a8,nS])) ?_;refine go ?_;refine lV (.int .u64 (Yn .u64 al 32)) (S0 al 32 rfl rfl (by decide))<|go ?_;replace ac:=ac.kp bn;replace ad:=ad.kp bn;replace aa:=aa.kp bn b9;exact ⟨rfl,_,_,_,_,_,hm,aa,ac,ad,bv,rfl⟩
   refine go ?_;refine Zo hm (fun hb hm=>go ?_) fun hb hm=>?_
   ·obtain ⟨cw,bo,hm⟩:=bZ hm;refine lI bo (ad.addr bo)<|lW (ad.atInt bo) ?_;refine go ?_;exact ⟨rfl,_,_,hm,aa,ac,ad,ak,rfl⟩
   refine X9 ?_;exact ⟨rfl,_,_,hm,aa,ac,ad,ak,rfl⟩
 refine go ?_;refine Zo hm (fun hb hm=>go ?_) fun hb hm=>?_
 ·exact ⟨rfl,_,_,_,_,_,_,_,hm,aa,bs,a3,rfl⟩
 refine X9 ?_;exact ⟨rfl,_,_,_,_,_,_,_,hm,aa,a3,bs,rfl⟩
def Zco (ae:List Int) (aa:Nat) (kk_L1:(Nat→R2→Option R2)) (af:Int):List Int→Nat→R2→Int→Option R2
  | [],ac,ab,ad=>(Zj ab (i64.wrap ((aa:Int)+(ae.length:Int)))).bind fun al=>(some (ab.set (Int.toNat (i64.wrap ((aa:Int)+(ae.length:Int)))) (u32.wrap ad))).bind fun ai=>kk_L1 (aa+1) ai
  | ag :: aj,ac,ab,ad=>(Zj ab (i64.wrap ((aa:Int)+(ac:Int)))).bind fun ah=>(some (ab.set (Int.toNat (i64.wrap ((aa:Int)+(ac:Int)))) (u32.wrap (u64.wrap (ad+(u64.wrap ((u64.wrap ((u64.wrap af) * (u64.wrap ag)))+(u64.wrap ah)))))))).bind fun ak=>(Zco ae aa kk_L1 af aj) (ac+1) ak (Yn .u64 (u64.wrap (ad+(u64.wrap ((u64.wrap ((u64.wrap af) * (u64.wrap ag)))+(u64.wrap ah))))) 32)
termination_by structural x=>x
def Zaf (N:Nat) (aa:List Int):List Int→Nat→R2→Option R2
  | [],ac,ab=>(Uv N ab).bind fun ad=>some ad
  | ae :: af,ac,ab=>Zco aa ac (Zaf N aa af) ae aa 0 ab 0
termination_by structural x=>x
def Ql (N:Nat) (ac:List Int) (ad:List Int):Option R2:=
  (Uw N ac).bind fun aa=>(Uw N ad).bind fun ab=>Zv ((Int.toNat (i64.wrap ((aa.length:Int)+(ab.length:Int)))) * 4≤281474976710656∧(Int.toNat (i64.wrap ((aa.length:Int)+(ab.length:Int))))≤maxLen∧0≤(i64.wrap ((aa.length:Int)+(ab.length:Int)))) (Zaf N ab aa 0 (List.replicate (Int.toNat (i64.wrap ((aa.length:Int)+(ab.length:Int)))) (0:Int)))
theorem Zgh {N bt bu:Nat} {a0 a1:Option Addr} {col:Zd} {w0:World} {be bf r:R2} (c1:Nat) (hm:Ql N be bf=some r) (h0:Sl (Za.int .u32) col w0 a0 bt be) (h1:Sl (Za.int .u32) col w0 a1 bu bf):
    Calls prog 113 #[.slice a0 be.length bt,.slice a1 bf.length bu] w0 (fun e w'=>∃ (col':Zd) (ra1:Option Addr) (rc2:Nat),e= .returned ((.slice ra1 r.length rc2))∧Zg col w0 col' w'∧Zc (Za.int .u32) 79 c1 col' w' ra1 rc2 r):=by
 refine Xc 4 (m:=71) func113 rfl rfl rfl rfl rfl ?_;rw [Ql.eq_1] at hm;have aa:=St.start col w0;refine go ?_;obtain ⟨ae,b1,hm⟩:=bZ hm;replace h0:=h0.keep (Zf.start col w0);refine Zi (Sb b1 (h0.ks aa)) ?_;rintro _ co ⟨cp,a4,a5,rfl,b2,ac⟩;refine ⟨_,rfl,?_⟩;refine Yr rfl ?_;obtain ⟨ab,b3,hm⟩:=bZ hm;replace h1:=h1.keep (Zf.start col w0);replace aa:=aa.grow b2;refine Zi (Sb b3 (h1.ks aa)) ?_;rintro _ b4 ⟨b5,au,av,rfl,bv,ad⟩;refine ⟨_,rfl,go ?_⟩;obtain ⟨a6,hm⟩:=Zx hm;refine Sf (col:=b5) (w:=b4) (r:=(Za.int .u32)) (n:=(Int.toNat (i64.wrap ((ae.length:Int)+(ab.length:Int))))) (x0:=0) 1 rfl underlying43 Tryz.t79 rfl rfl rfl rfl rfl (congrArg (Value.int _) (Int.toNat_of_nonneg a6.2.2).symm) (congrArg (Value.int _) (Int.toNat_of_nonneg a6.2.2).symm) a6.1 a6.2.1 (Uf .u32 0) ?_;intro b6 cq b7 bg b8;refine go ?_;replace ac:=(ac.gr bv).gr bg;replace aa:=(aa.grow bv).grow bg;replace ad:=ad.gr bg;refine Zqt (fun n f ap=>∃ (ah:Zd) (af:Nat) (a7:Option Addr) (a8:Nat) (aw:List Int) (ax:List Int),n=ax.length∧ae.drop af=ax∧Zaf N ab ax af aw=some r∧St w0 (Zh col) ah ap∧Sl (Za.int .u32) ah ap au av ab∧Sl (Za.int .u32) ah ap a4 a5 ae∧Zc (Za.int .u32) 79 1 ah ap a7 a8 aw∧f 23=(.int .i64 af)∧f 1=(.slice au ab.length av)∧f 21=(.slice a4 ae.length a5)∧f 22=(.int .i64 ae.length)∧f 5=(.slice a7 aw.length a8)∧f 1000000=(enc [])) ae.length ⟨b7,0,b6,(Int.toNat (i64.wrap ((ae.length:Int)+(ab.length:Int)))),(List.replicate (Int.toNat (i64.wrap ((ae.length:Int)+(ab.length:Int)))) (0:Int)),ae,rfl,rfl,hm,aa,ad,ac,b8,rfl,rfl,rfl,rfl,rfl,rfl⟩ ?_;clear hm;intro n f ap hI;obtain ⟨ah,af,a7,a8,aw,ax,hn,hl,hm,aa,ad,ac,bw,bh,bi,bj,bk,bm,bn⟩:=hI;subst hn;refine .lD 23 bh<|.lD 1 bi<|.lD 21 bj<|.lD 22 bk<|.lD 5 bm<|.lD 1000000 bn ?_
 cases ax with
 | nil=>
  have hk:¬ ((af:Int)<(ae.length:Int)):=by have:=List.drop_eq_nil_iff.1 hl;omega
  have hkb:=decide_eq_false hk;rw [Zaf.eq_1] at hm;refine go ?_;refine Yf (congrArg Value.bool hkb)<|go ?_;obtain ⟨cr,b9,hm⟩:=bZ hm;refine Zi (Sa 2 b9 (bw.toSlF (Zn.int .u32))) ?_;rintro _ cs ⟨ca,ct,cu,rfl,a9,bo⟩;refine ⟨_,rfl,?_⟩;replace bo:=bo.thaw (Z3 .u32) a9 ((Fz.refl (col:=ah)).froz 1) (by decide);replace a9:=a9.thawR (col:=ah);generalize Xf ap.heap.size ah ca=cv at *;refine go ?_;cases hm;replace aa:=aa.grow a9;exact ⟨rfl,_,_,_,rfl,aa.fin (cm [(2,c1)]),aa.fo bo⟩
 | cons am bp=>
  obtain ⟨an,cb,cc⟩:=Yw hl;have hk:(af:Int)<(ae.length:Int):=by omega
  have hkb:=decide_eq_true hk;rw [Zaf.eq_2] at hm;refine go ?_;refine Yg (congrArg Value.bool hkb)<|go ?_;refine lI an (ac.addr an)<|lW (ac.atInt an) ?_;refine go ?_;refine Zqt (fun n f ay=>∃ (ao:Zd) (ak:Nat) (ai:Option Addr) (aj:Nat) (al:List Int) (ag:Int) (az:List Int),n=az.length∧ab.drop ak=az∧Zco ab af (Zaf N ab bp) am az ak al ag=some r∧St w0 (Zh col) ao ay∧Sl (Za.int .u32) ao ay au av ab∧Sl (Za.int .u32) ao ay a4 a5 ae∧Zc (Za.int .u32) 79 1 ao ay ai aj al∧f 30=(.int .i64 ak)∧f 1=(.slice au ab.length av)∧f 21=(.slice a4 ae.length a5)∧f 22=(.int .i64 ae.length)∧f 23=(.int .i64 af)∧f 28=(.slice au ab.length av)∧f 29=(.int .i64 ab.length)∧f 5=(.slice ai al.length aj)∧f 6=(.int .i64 af)∧f 7=(.int .u32 am)∧f 8=(.int .u64 ag)∧f 1000000=(enc [])) ab.length ⟨ah,0,a7,a8,aw,0,ab,rfl,rfl,hm,aa,ad,ac,bw,rfl,rfl,rfl,rfl,rfl,rfl,rfl,rfl,rfl,rfl,rfl,rfl⟩ ?_;clear hm;intro n f ay hI;obtain ⟨ao,ak,ai,aj,al,ag,az,hn,hl,hm,aa,ad,ac,aq,cd,bi,bj,bk,bh,ce,cf,bm,cg,ch,ci,bn⟩:=hI;subst hn;refine .lD 30 cd<|.lD 1 bi<|.lD 21 bj<|.lD 22 bk<|.lD 23 bh<|.lD 28 ce<|.lD 29 cf<|.lD 5 bm<|.lD 6 cg<|.lD 7 ch<|.lD 8 ci<|.lD 1000000 bn ?_
  cases az with
  | nil=>
   have hk:¬ ((ak:Int)<(ab.length:Int)):=by have:=List.drop_eq_nil_iff.1 hl;omega
   have hkb:=decide_eq_false hk;rw [Zco.eq_1] at hm;refine go ?_;refine Yf (congrArg Value.bool hkb)<|go ?_;obtain ⟨cw,bq,hm⟩:=bZ hm;refine lI bq (aq.addr bq) ?_;obtain ⟨ba,bb,hm⟩:=bZ hm;have bb:ba=al.set (Int.toNat (i64.wrap ((af:Int)+(ab.length:Int)))) (u32.wrap ag):=(Option.some.inj bb).symm;refine Wb (x1:=u32.wrap ag) aq bq ?_;intro cx br cj bx;rw [← bb] at bx;refine .ld (d:=5) (v:=(.slice ai ba.length aj)) (congrArg (fun n=>Value.slice ai n aj) (show al.length=ba.length by rw [bb,nS])) ?_;refine go ?_;replace ad:=ad.kp br;replace ac:=ac.kp br;replace aa:=aa.kp br cj;exact ⟨bp.length,by simp,⟨ao,(af+1),ai,aj,ba,bp,rfl,cb,hm,aa,ad,ac,bx,(congrArg (Value.int .i64) (Yy (Nat.lt_of_lt_of_le cc ac.1.1))),rfl,rfl,rfl,rfl,rfl⟩⟩
  | cons a2 bz=>
   obtain ⟨an,ck,cl⟩:=Yw hl;have hk:(ak:Int)<(ab.length:Int):=by omega
   have hkb:=decide_eq_true hk;rw [Zco.eq_2] at hm;refine go ?_;refine Yg (congrArg Value.bool hkb)<|go ?_;refine lI an (ad.addr an)<|lW (ad.atInt an) ?_;refine go ?_;obtain ⟨a3,ar,hm⟩:=bZ hm;refine lI ar (aq.addr ar)<|lW (aq.atInt ar) ?_;refine go ?_;refine lI ar (aq.addr ar) ?_;obtain ⟨bc,bd,hm⟩:=bZ hm;have bd:bc=al.set (Int.toNat (i64.wrap ((af:Int)+(ak:Int)))) (u32.wrap (u64.wrap (ag+(u64.wrap ((u64.wrap ((u64.wrap am) * (u64.wrap a2)))+(u64.wrap a3)))))):=(Option.some.inj bd).symm;refine Wb (x1:=u32.wrap (u64.wrap (ag+(u64.wrap ((u64.wrap ((u64.wrap am) * (u64.wrap a2)))+(u64.wrap a3)))))) aq ar ?_;intro cy bs cn b0;rw [← bd] at b0;refine .ld (d:=5) (v:=(.slice ai bc.length aj)) (congrArg (fun n=>Value.slice ai n aj) (show al.length=bc.length by rw [bd,nS])) ?_;refine go ?_;refine lV (.int .u64 (Yn .u64 (u64.wrap (ag+(u64.wrap ((u64.wrap ((u64.wrap am) * (u64.wrap a2)))+(u64.wrap a3))))) 32)) (S0 (u64.wrap (ag+(u64.wrap ((u64.wrap ((u64.wrap am) * (u64.wrap a2)))+(u64.wrap a3))))) 32 rfl rfl (by decide))<|go ?_;replace ad:=ad.kp bs;replace ac:=ac.kp bs;replace aa:=aa.kp bs cn;exact ⟨bz.length,by simp,⟨ao,(ak+1),ai,aj,bc,(Yn .u64 (u64.wrap (ag+(u64.wrap ((u64.wrap ((u64.wrap am) * (u64.wrap a2)))+(u64.wrap a3))))) 32),bz,rfl,ck,hm,aa,ad,ac,b0,(congrArg (Value.int .i64) (Yy (Nat.lt_of_lt_of_le cl ad.1.1))),rfl,rfl,rfl,rfl,rfl,rfl,rfl,rfl,rfl,rfl,rfl⟩⟩
def Zbc (N:Nat) (aa:Int):Option R2:=
  (Uv N [u32.wrap aa,u32.wrap (Yn .u64 aa 32)]).bind fun ab=>some ab
theorem Zjb {N:Nat} {col:Zd} {w0:World} {aa:Int} {r:R2} (c1:Nat) (hm:Zbc N aa=some r):
    Calls prog 181 #[.int .u64 aa] w0 (fun e w'=>∃ (col':Zd) (ra1:Option Addr) (rc2:Nat),e= .returned ((.slice ra1 r.length rc2))∧Zg col w0 col' w'∧Zc (Za.int .u32) 79 c1 col' w' ra1 rc2 r):=by
 refine Xc 2 (m:=10) func181 rfl rfl rfl rfl rfl ?_;rw [Zbc.eq_1] at hm;have ab:=St.start col w0;refine go ?_;refine lV (.int .u64 (Yn .u64 aa 32)) (S0 aa 32 rfl rfl (by decide))<|go ?_;refine W1 (col:=(Zh col)) [u32.wrap aa,u32.wrap (Yn .u64 aa 32)] 1 ?_;intro ak af ad ag ah;obtain ⟨al,ai,hm⟩:=bZ hm;refine Zi (Sa 2 ai (ah.toSlF (Zn.int .u32))) ?_;rintro _ am ⟨aj,an,ao,rfl,ac,ae⟩;refine ⟨_,rfl,?_⟩;replace ae:=ae.thaw (Z3 .u32) ac ((Fz.refl (col:=ad)).froz 1) (by decide);replace ac:=ac.thawR (col:=ad);generalize Xf af.heap.size ad aj=ap at *;refine go ?_;cases hm;replace ab:=(ab.grow ag).grow ac;exact ⟨rfl,_,_,_,rfl,ab.fin (cm [(2,c1)]),ab.fo ae⟩
def Zej (N:Nat) (aa:List Int):Option R2:=
  (Uv N aa).bind fun ab=>some ab
theorem Zok {N ac:Nat} {a0:Option Addr} {col:Zd} {w0:World} {ab r:R2} (c1:Nat) (hm:Zej N ab=some r) (h0:Sl (Za.int .u32) col w0 a0 ac ab):
    Calls prog 255 #[.slice a0 ab.length ac] w0 (fun e w'=>∃ (col':Zd) (ra1:Option Addr) (rc2:Nat),e= .returned ((.slice ra1 r.length rc2))∧Zg col w0 col' w'∧Zc (Za.int .u32) 79 c1 col' w' ra1 rc2 r):=by
 refine Xc 2 (m:=5) func255 rfl rfl rfl rfl rfl ?_;rw [Zej.eq_1] at hm;have aa:=St.start col w0;refine go ?_;obtain ⟨ag,ad,hm⟩:=bZ hm;replace h0:=h0.keep (Zf.start col w0);refine Zi (Sa 1 ad (h0.ks aa)) ?_;rintro _ ah ⟨ai,aj,ak,rfl,ae,af⟩;refine ⟨_,rfl,go ?_⟩;cases hm;replace aa:=aa.grow ae;exact ⟨rfl,_,_,_,rfl,aa.fin (cm [(1,c1)]),aa.fo af⟩
theorem Znz (N:Nat):∀ (n:Nat) (a:List Int),Zp a→a.length<n→a.length<4611686018427387904→Tz N n a=some (Ze (Zb a))
 | 0,a,_,h,_=>by omega
 | n+1,a,h,hn,hb=>by
  rw [Tz.eq_2]
  by_cases h0:0<a.length
  ·have e:(a.length:Int) - 1=((a.length - 1:Nat):Int):=by omega
   rw [if_pos (by simpa using h0),Zr (by omega),e,Zy (by omega),oB,Zbe,Zr (by omega),e]
   by_cases hx:a[a.length - 1]=0
   ·rw [if_pos (by simpa using hx),Zz (by omega),Int.toNat_natCast,Znz N n _ (h.take _) (by rw [nK];omega) (by rw [nK];omega)]
    conv=>rhs;rw [← Zgk h0,hx,Zvl]
   ·rw [if_neg (by simpa using hx)]
    have e2:=Zgk h0
    have e3:=Z4m (a:=a.take (a.length - 1)) (x:=a[a.length - 1]) (by rw [e2];exact h) hx
    rw [e2] at e3
    rw [e3]
  ·have h1:a=[]:=List.eq_nil_of_length_eq_zero (by omega)
   subst h1
   rw [if_neg (by simp),Zbe,if_neg (by decide),Yk,W2]
theorem S5 {N:Nat} {a:List Int} (h:Zp a) (hn:a.length<N) (hb:a.length≤1099511627776):Uw N a=some (Ze (Zb a)):=by
 rw [Uw];exact Znz N N a h hn (by omega)
theorem Zow {a:List Int} (hb:a.length≤2199023255552):Zfw a=some a:=by
 rw [Zfw,Zz (by simp only [nN,maxLen];omega),List.nil_append]
theorem Sx {N:Nat} {a:List Int} (h:Zp a) (hn:a.length<N) (hb:a.length≤1099511627776):Uv N a=some (Ze (Zb a)):=by
 rw [Uv,S5 h hn hb,oB]
 have hl:=Yc h
 by_cases h0:Ze (Zb a)=[]
 ·rw [h0,if_pos (by decide)]
 ·have:0<(Ze (Zb a)).length:=List.length_pos_iff.2 h0
  rw [if_neg (by simp;exact h0),Zow (by omega),oB]
theorem Zpo {N:Nat} {a:List Int} (h:Zp a) (hn:a.length<N) (hb:a.length≤1099511627776):Zej N a=some (Ze (Zb a)):=by
 rw [Zej,Sx h hn hb,oB]
theorem Zkw {N:Nat} {u:Int} (h:0≤u∧u<18446744073709551616) (hn:2<N):Zbc N u=some (Ze u.toNat):=by
 have e:Zb [u32.wrap u,u32.wrap (Yn .u64 u 32)]=u.toNat:=by
  rw [Zf7,Wg,Wg,Yk,IntKind.wrap_u32,IntKind.wrap_u32];omega
 have hl:Zp [u32.wrap u,u32.wrap (Yn .u64 u 32)]:=by
  rw [Zf7,IntKind.wrap_u32,IntKind.wrap_u32]
  exact .cons (by omega) (.cons (by omega) .nil)
 rw [Zbc,Sx hl (by simpa using hn) (by simp),oB,e]
theorem Zsa (N:Nat) (a b:List Int) (ha:Zp a) (hb:Zp b) (hl:a.length=b.length) (hs:a.length<4611686018427387904):∀ (n i:Nat),i≤a.length→i<n→a.drop i=b.drop i→Zeg N a b n ((i:Int) - 1)=some (if Zb a<Zb b then -1 else if Zb b<Zb a then 1 else 0)
 | 0,i,_,h,_=>by omega
 | n+1,i,hi,hn,he=>by
  rw [Zeg.eq_2]
  by_cases h0:i=0
  ·subst h0
   rw [if_neg (by decide)]
   rw [List.drop_zero,List.drop_zero] at he
   subst he
   rw [if_neg (by omega),if_neg (by omega)]
  ·have e:(i:Int) - 1=((i - 1:Nat):Int):=by omega
   have h1:i - 1<a.length:=by omega
   have h2:i - 1<b.length:=by omega
   have e1:i - 1+1=i:=by omega
   rw [if_pos (by simp;omega),e,Zy h1,oB,Zy h2,oB]
   have g1:=ha.get h1
   have g2:=hb.get h2
   have va:=U7 a (i - 1)
   have vb:=U7 b (i - 1)
   rw [Ud h1,e1] at va
   rw [Ud h2,e1,← he] at vb
   have la:=Sw (ha.take (i - 1))
   have lb:=Sw (hb.take (i - 1))
   rw [nK,Nat.min_eq_left (by omega)] at la lb
   have key:∀ x y:Nat,x<y→4294967296 ^ (i - 1) * (x+4294967296 * Zb (a.drop i))+4294967296 ^ (i - 1)≤4294967296 ^ (i - 1) * (y+4294967296 * Zb (a.drop i)):=fun x y hxy=>by
    rw [← Nat.mul_succ];exact Nat.mul_le_mul_left _ (by omega)
   by_cases hlt:a[i - 1]<b[i - 1]
   ·have:=key _ _ (show (a[i - 1]).toNat<(b[i - 1]).toNat by omega)
    rw [if_pos (by simpa using hlt),if_pos (by omega)]
   ·rw [if_neg (by simpa using hlt)]
    by_cases hgt:b[i - 1]<a[i - 1]
    ·have:=key _ _ (show (b[i - 1]).toNat<(a[i - 1]).toNat by omega)
     rw [if_pos (by simpa using hgt),if_neg (by omega),if_pos (by omega)]
    ·rw [if_neg (by simpa using hgt),Zr (by omega)]
     have:=Zsa N a b ha hb hl hs n (i - 1) (by omega) (by omega) (by
      rw [List.drop_eq_getElem_cons h1,List.drop_eq_getElem_cons h2,e1,he]
      congr 1;omega)
     exact this
theorem Zut {m n:Nat} (h:(Ze m).length<(Ze n).length):m<n:=by
 have h1:=Wv (k:=(Ze m).length) (n:=m)
 have h2:=Wv (k:=(Ze m).length) (n:=n)
 have:=h1.1 (Nat.le_refl _)
 have h3:¬ n<4294967296 ^ (Ze m).length:=fun h4=>by have:=h2.2 h4;omega
 omega
theorem Zoy {N:Nat} {a b:List Int} (ha:Zp a) (hb:Zp b) (h1:a.length<N) (h2:b.length<N) (h3:a.length≤1099511627776) (h4:b.length≤1099511627776):
  Zef N a b=some (if Zb a<Zb b then -1 else if Zb b<Zb a then 1 else 0):=by
 have la:=Yc ha
 have lb:=Yc hb
 rw [Zef,S5 ha h1 h3,oB,S5 hb h2 h4,oB]
 by_cases he:(Ze (Zb a)).length=(Ze (Zb b)).length
 ·rw [if_neg (by simp [he]),Zr (by omega)]
  have:=Zsa N (Ze (Zb a)) (Ze (Zb b)) (Z8 _) (Z8 _) he (by omega) N (Ze (Zb a)).length (Nat.le_refl _) (by omega) (by
   rw [List.drop_eq_nil_of_le (Nat.le_refl _),List.drop_eq_nil_of_le (by omega)])
  rw [this,Z9,Z9]
 ·rw [if_pos (by simp;omega)]
  by_cases hlt:(Ze (Zb a)).length<(Ze (Zb b)).length
  ·rw [if_pos (by simpa using hlt),if_pos (Zut hlt)]
  ·have:=Zut (m:=Zb b) (n:=Zb a) (by omega)
   rw [if_neg (by simpa using hlt),if_neg (by omega),if_pos this]
def Xy (b:List Int) (k:Nat):Nat:=(b.getD k 0).toNat
theorem Uz (b:List Int) (k:Nat):Zb (b.drop k)=Xy b k+4294967296 * Zb (b.drop (k+1)):=by
 by_cases h:k<b.length
 ·rw [Ud h,Xy,List.getD_eq_getElem?_getD,List.getElem?_eq_getElem h,Option.getD_some]
 ·rw [List.drop_eq_nil_of_le (by omega),List.drop_eq_nil_of_le (by omega),Xy,List.getD_eq_getElem?_getD,List.getElem?_eq_none (by omega)];rfl
theorem Zdv {b:List Int} (h:Zp b) (k:Nat):Xy b k<4294967296:=by
 rw [Xy,List.getD_eq_getElem?_getD]
 by_cases hk:k<b.length
 ·have:=h.get hk
  rw [List.getElem?_eq_getElem hk,Option.getD_some];omega
 ·rw [List.getElem?_eq_none (by omega)];decide
theorem drop_zero {l:List Int} {k:Nat} (h:Zp l) (hk:k<l.length) (h0:Zb (l.drop k)=0):l[k]=0∧Zb (l.drop (k+1))=0:=by
 have:=h.get hk
 rw [Ud hk] at h0
 omega
theorem Qa {l:List Int} {k j:Nat} (v:Int) (h:k<j):(l.set k v).drop j=l.drop j:=by
 rw [List.drop_set,if_pos h]
theorem Zzv (S S' Q c x y v c' L D:Nat) (h1:S'=S+Q * v) (h2:c+x+y=v+4294967296 * c'):S'+Q * 4294967296 * (c'+L+D)=S+Q * (c+(x+4294967296 * L)+(y+4294967296 * D)):=by
 subst h1
 have:Q * (c+x+y)=Q * (v+4294967296 * c'):=by rw [h2]
 grind
theorem Zqx (N:Nat) (a b:List Int) (ha:Zp a) (hb:Zp b) (hab:b.length≤a.length) (hN:a.length+1<N) (hs:a.length<1099511627776):∀ (l:List Int) (k:Nat) (sum:List Int) (c:Int),Zp l→a.length=k+l.length→sum.length=a.length+1→Zp sum→Zb (sum.drop k)=0→0≤c∧c≤1→
  Sk N a b l k sum c=some (Ze (Zb sum+4294967296 ^ k * (c.toNat+Zb l+Zb (b.drop k))))
 | [],k,sum,c,_,hk,hl,hL,hz,hc=>by
  have hk':k=a.length:=by simpa using hk.symm
  subst hk'
  rw [Sk.eq_1,Zy (by omega),oB,oB,Int.toNat_natCast,V6 (by omega),
   Sx (hL.set _ (by omega)) (by rw [nS];omega) (by rw [nS];omega),oB]
  have h1:=U6 (l:=sum) (k:=a.length) (by omega) c
  have h2:=(drop_zero hL (by omega) hz).1
  rw [h2] at h1
  rw [Yk,List.drop_eq_nil_of_le (by omega),Yk]
  have h3:Zb (sum.set a.length c)=Zb sum+4294967296 ^ a.length * c.toNat:=by simpa using h1
  rw [h3];rfl
 | x :: l,k,sum,c,hx,hk,hl,hL,hz,hc=>by
  have hk1:a.length=k+1+l.length:=by rw [hk,nC];omega
  have h0:=hx.head
  have hz':=drop_zero hL (by omega) hz
  have hy:=Zdv hb k
  have hsz:sum[k]'(by omega)=0:=hz'.1
  -- the sum of one place
  have step:∀ s:Int,s=c+x+(Xy b k:Int)→Zhe k sum (Sk N a b l) s=some (Ze (Zb sum+4294967296 ^ k * (c.toNat+Zb (x :: l)+Zb (b.drop k)))):=fun s hs'=>by
   rw [Zhe,Zy (by omega),oB,oB,Zmi,Int.toNat_natCast,Zf7]
   have hw:0≤u32.wrap s∧u32.wrap s<4294967296:=by rw [IntKind.wrap_u32];omega
   rw [Zqx N a b ha hb hab hN hs l (k+1) _ _ hx.tail hk1 (by rw [nS];exact hl) (hL.set _ hw) (by rw [Qa _ (by omega)];exact hz'.2) (by omega)]
   have h1:=U6 (l:=sum) (k:=k) (by omega) (u32.wrap s)
   rw [hsz] at h1
   rw [Nat.pow_succ,Wg,Uz b k]
   congr 2
   exact Zzv _ _ _ _ _ _ (u32.wrap s).toNat _ _ _ (by simpa using h1) (by rw [IntKind.wrap_u32];omega)
  rw [Sk.eq_2]
  have hcx:u64.wrap (c+u64.wrap x)=c+x:=by rw [Xj (x:=x) (by omega),Xj (by omega)]
  by_cases hkb:k<b.length
  ·have e:Xy b k=(b[k]).toNat:=by rw [Xy,List.getD_eq_getElem?_getD,List.getElem?_eq_getElem hkb,Option.getD_some]
   have:=hb.get hkb
   rw [if_pos (by simpa using hkb),Zy hkb,oB,hcx,Xj (x:=b[k]) (by omega),Xj (by omega)]
   exact step _ (by omega)
  ·have e:Xy b k=0:=by rw [Xy,List.getD_eq_getElem?_getD,List.getElem?_eq_none (by omega)];rfl
   rw [if_neg (by simpa using hkb),hcx]
   exact step _ (by omega)
theorem Zqw {N:Nat} {a b:List Int} (ha:Zp a) (hb:Zp b) (hab:b.length≤a.length) (hN:a.length+1<N) (hs:a.length<1099511627776):Zhd N a b=some (Ze (Zb a+Zb b)):=by
 rw [Zhd,Zr (by omega),Zz (by simp only [maxLen];omega),Zqx N a b ha hb hab hN hs a 0 _ 0 ha (by omega) (by rw [List.length_replicate];omega) (.zeros _) (by rw [List.drop_zero];exact Tm _) (by omega),Tm,List.drop_zero]
 simp
theorem Zzw {N:Nat} {a b:List Int} (ha:Zp a) (hb:Zp b) (h1:a.length+1<N) (h2:b.length+1<N) (h3:a.length<1099511627776) (h4:b.length<1099511627776):Zjs N a b=some (Ze (Zb a+Zb b)):=by
 have la:=Yc ha
 have lb:=Yc hb
 rw [Zjs,S5 ha (by omega) (by omega),oB,S5 hb (by omega) (by omega),oB]
 by_cases h:(Ze (Zb a)).length<(Ze (Zb b)).length
 ·rw [if_pos (by simpa using h),Zqw (Z8 _) (Z8 _) (by omega) (by omega) (by omega),Z9,Z9,Nat.add_comm]
 ·rw [if_neg (by simpa using h),Zqw (Z8 _) (Z8 _) (by omega) (by omega) (by omega),Z9,Z9]
theorem Zun (N:Nat) (a b:List Int) (ha:Zp a) (hb:Zp b) (hs:a.length<1099511627776):∀ (n k:Nat) (r:List Int) (c:Int),k≤a.length→a.length<n+k→r.length=a.length→Zp r→0≤c∧c≤1→r.drop k=a.drop k→
  4294967296 ^ k * (c.toNat+Zb (b.drop k))≤4294967296 ^ k * Zb (a.drop k)→
  ∃ r',Ty N a b n r c (k:Int)=some r'∧r'.length=a.length∧Zp r'∧Zb r'+4294967296 ^ k * (c.toNat+Zb (b.drop k))=Zb r
 | 0,k,r,c,hk,hn,_,_,_,_,_=>by omega
 | n+1,k,r,c,hk,hn,hl,hr,hc,he,hle=>by
  have hQ:0<4294967296 ^ k:=Nat.pow_pos (by decide)
  have hle':c.toNat+Zb (b.drop k)≤Zb (a.drop k):=Nat.le_of_mul_le_mul_left hle hQ
  rw [Ty.eq_2]
  by_cases h0:k<a.length
  ·have ga:=ha.get h0
   have hrk:r[k]'(by omega)=a[k]:=by
    have:(r.drop k)[0]'(by simp;omega)=(a.drop k)[0]'(by simp;omega):=by simp only [he]
    simpa using this
   have hy:=Zdv hb k
   rw [Uz b k,Ud h0] at hle'
   have step:∀ t:Int,t=c+(Xy b k:Int)→∃ r',Zhj r (k:Int) (Ty N a b n) t=some r'∧r'.length=a.length∧Zp r'∧Zb r'+4294967296 ^ k * (c.toNat+Zb (b.drop k))=Zb r:=fun t ht=>by
    have hw:0≤u32.wrap (a[k] - u32.wrap t)∧u32.wrap (a[k] - u32.wrap t)<4294967296:=by rw [IntKind.wrap_u32];omega
    have fin:∀ c':Int,0≤c'∧c'≤1→a[k]+4294967296 * c'=t+u32.wrap (a[k] - u32.wrap t)→∃ r',Zhk r (k:Int) (Ty N a b n) t c'=some r'∧r'.length=a.length∧Zp r'∧Zb r'+4294967296 ^ k * (c.toNat+Zb (b.drop k))=Zb r:=fun c' hc' hv=>by
     rw [Zhk,Zy (by omega),oB,oB,Zmm,hrk,Zr (by omega),Int.toNat_natCast]
     obtain ⟨r',q1,q2,q3,q4⟩:=Zun N a b ha hb hs n (k+1) (r.set k (u32.wrap (a[k] - u32.wrap t))) c' (by omega) (by omega) (by rw [nS];exact hl) (hr.set _ hw) hc' (by
      rw [Qa _ (by omega)]
      have:=congrArg (List.drop 1) he
      simpa [List.drop_drop,Nat.add_comm] using this) (Nat.mul_le_mul_left _ (by omega))
     refine ⟨r',q1,q2,q3,?_⟩
     have h1:=U6 (l:=r) (k:=k) (by omega) (u32.wrap (a[k] - u32.wrap t))
     rw [hrk] at h1
     rw [Uz b k]
     rw [Nat.pow_succ] at q4
     have hv':(a[k]).toNat+4294967296 * c'.toNat=c.toNat+Xy b k+(u32.wrap (a[k] - u32.wrap t)).toNat:=by omega
     have hv2:4294967296 ^ k * ((a[k]).toNat+4294967296 * c'.toNat)=4294967296 ^ k * (c.toNat+Xy b k+(u32.wrap (a[k] - u32.wrap t)).toNat):=by rw [hv']
     grind
    rw [Zhj,Zy (by omega),oB,hrk,Xj (x:=a[k]) (by omega)]
    by_cases hlt:a[k]<t
    ·rw [if_pos (by simpa using hlt)]
     exact fin 1 (by omega) (by rw [IntKind.wrap_u32,IntKind.wrap_u32];omega)
    ·rw [if_neg (by simpa using hlt)]
     exact fin 0 (by omega) (by rw [IntKind.wrap_u32,IntKind.wrap_u32];omega)
   rw [if_pos (by simpa using h0)]
   by_cases hkb:k<b.length
   ·have e:Xy b k=(b[k]).toNat:=by rw [Xy,List.getD_eq_getElem?_getD,List.getElem?_eq_getElem hkb,Option.getD_some]
    have:=hb.get hkb
    rw [if_pos (by simpa using hkb),Zy hkb,oB,Xj (x:=b[k]) (by omega),Xj (by omega)]
    exact step _ (by omega)
   ·have e:Xy b k=0:=by rw [Xy,List.getD_eq_getElem?_getD,List.getElem?_eq_none (by omega)];rfl
    rw [if_neg (by simpa using hkb)]
    exact step _ (by omega)
  ·rw [if_neg (by simpa using h0)]
   rw [List.drop_eq_nil_of_le (show a.length≤k by omega),Yk] at hle'
   exact ⟨r,rfl,hl,hr,by rw [show c.toNat+Zb (b.drop k)=0 by omega];simp⟩
theorem Zy7 {N:Nat} {a b:List Int} (ha:Zp a) (hb:Zp b) (h1:a.length+1<N) (h2:b.length+1<N) (h3:a.length<1099511627776) (h4:b.length<1099511627776):
  Zhg N a b=some (if Zb a<Zb b then ([],false) else (Ze (Zb a - Zb b),true)):=by
 have la:=Yc ha
 have lb:=Yc hb
 rw [Zhg,Zoy ha hb (by omega) (by omega) (by omega) (by omega),oB]
 by_cases h:Zb a<Zb b
 ·rw [if_pos h,if_pos (by decide),if_pos h]
 ·rw [if_neg h,if_neg (by split <;> decide),if_neg h,S5 ha (by omega) (by omega),oB,Zow (by omega),oB,S5 hb (by omega) (by omega),oB,Zml]
  obtain ⟨r',q1,q2,q3,q4⟩:=Zun N (Ze (Zb a)) (Ze (Zb b)) (Z8 _) (Z8 _) (by omega) N 0 (Ze (Zb a)) 0 (by omega) (by omega) rfl (Z8 _) (by omega) rfl (by simp [Z9];omega)
  rw [show ((0:Nat):Int)=0 from rfl] at q1
  rw [q1,oB,Sx q3 (by omega) (by omega),oB]
  simp [Z9] at q4
  congr 3
  omega
theorem Zvd (P P' Q c x y e v c' L:Nat) (h1:P'+Q * e=P+Q * v) (h2:c+(x * y+e)=v+4294967296 * c'):P'+Q * 4294967296 * (c'+x * L)=P+Q * (c+x * (y+4294967296 * L)):=by
 have:Q * (c+(x * y+e))=Q * (v+4294967296 * c'):=by rw [h2]
 grind
theorem Zvc (b:List Int) (hb:Zp b) (i:Nat) (kk:Nat→List Int→Option R2) (x:Int) (hx:0≤x∧x<4294967296):∀ (l:List Int) (j:Nat) (p:List Int) (c:Int),Zp l→j+l.length=b.length→i+b.length<p.length→p.length<4611686018427387904→Zp p→0≤c∧c<4294967296→Zb (p.drop (i+b.length))=0→
  ∃ p',Zco b i kk x l j p c=kk (i+1) p'∧p'.length=p.length∧Zp p'∧Zb p'=Zb p+4294967296 ^ (i+j) * (c.toNat+x.toNat * Zb l)∧Zb (p'.drop (i+b.length+1))=0
 | [],j,p,c,_,hj,hp,hs,hL,hc,hz=>by
  have hj':j=b.length:=by simpa using hj
  subst hj'
  have hz':=drop_zero hL hp hz
  rw [Zco.eq_1,Zr (by omega),show (i:Int)+(b.length:Int)=((i+b.length:Nat):Int) by omega,Zy hp,oB,oB,Int.toNat_natCast,V6 hc]
  refine ⟨_,rfl,by rw [nS],hL.set _ hc,?_,?_⟩
  ·have h1:=U6 hp c
   rw [hz'.1] at h1
   rw [Yk,Nat.mul_zero,Nat.add_zero]
   simpa using h1
  ·rw [Qa _ (by omega)];exact hz'.2
 | y :: l,j,p,c,hl,hj,hp,hs,hL,hc,hz=>by
  have hy:=hl.head
  have hj1:j+1+l.length=b.length:=by rw [← hj,nC];omega
  have hij:i+j<p.length:=by omega
  have hg:=hL.get hij
  have hm:x * y≤4294967295 * 4294967295:=Int.mul_le_mul (by omega) (by omega) (by omega) (by omega)
  have hm0:0≤x * y:=Int.mul_nonneg hx.1 hy.1
  rw [Zco.eq_2,Zr (by omega),show (i:Int)+(j:Int)=((i+j:Nat):Int) by omega,Zy hij,oB,oB,Int.toNat_natCast,Xj (x:=x) (by omega),Xj (x:=y) (by omega),Xj (x:=p[i+j]) (by omega),Xj (x:=x * y) (by omega),Xj (x:=x * y+p[i+j]) (by omega),Xj (by omega),Zf7]
  generalize hs':c+(x * y+p[i+j])=s
  have hw:0≤u32.wrap s∧u32.wrap s<4294967296:=by rw [IntKind.wrap_u32];omega
  obtain ⟨p',q1,q2,q3,q4,q5⟩:=Zvc b hb i kk x hx l (j+1) (p.set (i+j) (u32.wrap s)) (s / 4294967296) hl.tail hj1 (by rw [nS];exact hp) (by rw [nS];exact hs) (hL.set _ hw) (by omega) (by rw [Qa _ (by omega)];exact hz)
  refine ⟨p',q1,by rw [q2,nS],q3,?_,q5⟩
  rw [q4,← Nat.add_assoc i j 1,Nat.pow_succ,Wg]
  refine Zvd _ _ _ _ _ _ (p[i+j]).toNat (u32.wrap s).toNat _ _ (U6 hij _) ?_
  rw [IntKind.wrap_u32]
  have e1:((x.toNat * y.toNat:Nat):Int)=x * y:=by rw [Int.natCast_mul,Int.toNat_of_nonneg hx.1,Int.toNat_of_nonneg hy.1]
  omega
theorem Zvb (N:Nat) (b:List Int) (hb:Zp b):∀ (l:List Int) (i:Nat) (p:List Int),Zp l→p.length=i+l.length+b.length→p.length<N→p.length<1099511627776→Zp p→Zb (p.drop (i+b.length))=0→
  Zaf N b l i p=some (Ze (Zb p+4294967296 ^ i * (Zb l * Zb b)))
 | [],i,p,_,hl,hn,hs,hp,hz=>by
  rw [Zaf.eq_1,Sx hp hn (by omega),oB,Yk];simp
 | x :: l,i,p,hx,hl,hn,hs,hp,hz=>by
  rw [nC] at hl
  obtain ⟨p',q1,q2,q3,q4,q5⟩:=Zvc b hb i (Zaf N b l) x hx.head b 0 p 0 hb (by omega) (by omega) (by omega) hp (by omega) hz
  rw [Zaf.eq_2,q1,Zvb N b hb l (i+1) p' hx.tail (by omega) (by omega) (by omega) q3 (by rw [show i+1+b.length=i+b.length+1 by omega];exact q5),q4,Wg,Nat.pow_succ]
  congr 2
  simp only [Nat.add_zero,Int.toNat_zero,Nat.zero_add]
  grind
theorem Zkt {N:Nat} {a b:List Int} (ha:Zp a) (hb:Zp b) (h1:a.length+b.length<N) (h3:a.length+b.length<1099511627776):Ql N a b=some (Ze (Zb a * Zb b)):=by
 have la:=Yc ha
 have lb:=Yc hb
 rw [Ql,S5 ha (by omega) (by omega),oB,S5 hb (by omega) (by omega),oB,Zr (by omega),Zz (by simp only [maxLen];omega),
  Zvb N _ (Z8 _) _ 0 _ (Z8 _) (by rw [List.length_replicate];omega) (by rw [List.length_replicate];omega) (by rw [List.length_replicate];omega) (.zeros _) (by
   rw [List.drop_replicate];exact Tm _),Tm,Z9,Z9]
 simp
def Zem (N:Nat) (aa:Int):Nat→R2→Int→Int→Option Ra
  | 0,_,_,_=>none
  | af+1,ac,ad,ab=>if (decide (0≤ab))=true then ((Zj ac ab).bind fun ae=>Zv ((u64.wrap aa)≠0) ((some (ac.set (Int.toNat ab) (u32.wrap (u64.wrap (Int.tdiv (Y7 .u64 (X6 .u64 ad 32) (u64.wrap ae)) (u64.wrap aa)))))).bind fun ag=>Zv ((u64.wrap aa)≠0) ((Zem N aa af) ag (Int.tmod (Y7 .u64 (X6 .u64 ad 32) (u64.wrap ae)) (u64.wrap aa)) (i64.wrap (ab - 1))))) else (some (u32.wrap ad,ac))
termination_by structural x=>x
def Zjz (N:Nat) (aa:List Int) (ab:Int):Option Ra:=
  Zem N ab N aa 0 (i64.wrap ((aa.length:Int) - 1))
theorem Z01 {N ad:Nat} {a0:Option Addr} {col:Zd} {w0:World} {ae:R2} {ab:Int} {r:Ra} (qc0:Nat) (hm:Zjz N ae ab=some r) (hd:Qb [qc0]=true) (h0:Zc (Za.int .u32) 79 qc0 col w0 a0 ad ae):
    Calls prog 283 #[.slice a0 ae.length ad,.int .u32 ab] w0 (fun e w'=>∃ (col':Zd),e= .returned ((.int .u32 r.1))∧Z1 (pS [qc0]) col w0 col' w'∧Zc (Za.int .u32) 79 qc0 col' w' a0 ad r.2∧r.2.length=ae.length):=by
 refine Xc 4 (m:=36) func283 rfl rfl rfl rfl rfl ?_;rw [Zjz.eq_1] at hm;have af:=St.startL (l:=[qc0]) rfl col w0;replace h0:=h0.startL (Zaz hd 0 rfl) (Zay hd 0 rfl);refine go ?_;refine Zw [1,1000000] (fun n f an=>∃ ao ac aa am ag,ag=n∧Zem N ab ag ac aa am=some r∧St w0 (Xu [qc0] col) ao an∧Zc (Za.int .u32) 79 440 ao an a0 ad ac∧ac.length=ae.length∧ac.length=ae.length∧[0,5,6].map f=[.slice a0 ac.length ad,.int .u64 aa,.int .i64 am]) N ⟨_,_,0,_,_,rfl,hm,af,h0,rfl,rfl,rfl⟩ ?_;clear hm;intro n f an hI;obtain ⟨ao,ac,aa,am,ag,hn,hm,af,aj,ar,au,hs⟩:=hI;subst hn;refine .lL [0,5,6] hs ?_
 cases ag with
 | zero=>rw [Zem.eq_1] at hm;cases hm
 | succ ag=>
  rw [Zem.eq_2] at hm;refine go ?_;refine Zo hm (fun hb hm=>go ?_) fun hb hm=>go ?_
  ·refine lV (.int .u64 (X6 .u64 aa 32)) (Zf4 aa 32 rfl rfl (by decide))<|go ?_;obtain ⟨ah,ai,hm⟩:=bZ hm;refine lI ai (aj.addr ai)<|lW (aj.atInt ai) ?_;refine go ?_;obtain ⟨av,hm⟩:=Zx hm;refine lV (.int .u64 (u64.wrap (Int.tdiv (Y7 .u64 (X6 .u64 aa 32) (u64.wrap ah)) (u64.wrap ab)))) (Vw (Y7 .u64 (X6 .u64 aa 32) (u64.wrap ah)) (u64.wrap ab) rfl rfl av)<|go ?_;refine lI ai (aj.addr ai) ?_;obtain ⟨ak,al,hm⟩:=bZ hm;have al:ak=ac.set (Int.toNat am) (u32.wrap (u64.wrap (Int.tdiv (Y7 .u64 (X6 .u64 aa 32) (u64.wrap ah)) (u64.wrap ab)))):=(Option.some.inj al).symm;refine Wb (x1:=u32.wrap (u64.wrap (Int.tdiv (Y7 .u64 (X6 .u64 aa 32) (u64.wrap ah)) (u64.wrap ab)))) aj ai ?_;intro az aw ax ap;rw [← al] at ap;have aq:ak.length=ae.length:=(show ac.length=ak.length by rw [al,nS]).symm.trans ar;refine .ld (d:=0) (v:=(.slice a0 ak.length ad)) (congrArg (fun n=>Value.slice a0 n ad) (show ac.length=ak.length by rw [al,nS])) ?_;refine go ?_;obtain ⟨ay,hm⟩:=Zx hm;refine lV (.int .u64 (Int.tmod (Y7 .u64 (X6 .u64 aa 32) (u64.wrap ah)) (u64.wrap ab))) (Sz (Y7 .u64 (X6 .u64 aa 32) (u64.wrap ah)) (u64.wrap ab) rfl rfl ay)<|go ?_;replace af:=af.kp aw ax;exact ⟨ag,by omega,rfl,⟨_,_,_,_,_,rfl,hm,af,ap,aq,aq,rfl⟩⟩
  cases hm;exact ⟨rfl,_,rfl,af.finL rfl (cm [(440,qc0)]),af.foL aj,au⟩
def Zd9 (aa:Int) (ab:Int):Option Int:=
  (Zli (⟨#[0,1,2,2,3,3,3,3,4,4,4,4,4,4,4,4,5,5,5,5,5,5,5,5,5,5,5,5,5,5,5,5,6,6,6,6,6,6,6,6,6,6,6,6,6,6,6,6,6,6,6,6,6,6,6,6,6,6,6,6,6,6,6,6,7,7,7,7,7,7,7,7,7,7,7,7,7,7,7,7,7,7,7,7,7,7,7,7,7,7,7,7,7,7,7,7,7,7,7,7,7,7,7,7,7,7,7,7,7,7,7,7,7,7,7,7,7,7,7,7,7,7,7,7,7,7,7,7,8,8,8,8,8,8,8,8,8,8,8,8,8,8,8,8,8,8,8,8,8,8,8,8,8,8,8,8,8,8,8,8,8,8,8,8,8,8,8,8,8,8,8,8,8,8,8,8,8,8,8,8,8,8,8,8,8,8,8,8,8,8,8,8,8,8,8,8,8,8,8,8,8,8,8,8,8,8,8,8,8,8,8,8,8,8,8,8,8,8,8,8,8,8,8,8,8,8,8,8,8,8,8,8,8,8,8,8,8,8,8,8,8,8,8,8,8,8,8,8,8,8,8,8,8,8,8,8]⟩) (u8.wrap aa)).bind fun ac=>some (i64.wrap (ab+(i64.wrap ac)))
def Zg4 (aa:Int) (ab:Int):Option Int:=
  if (decide (256≤aa))=true then (Zd9 (Yn .u32 aa 8) (i64.wrap (ab+8))) else (Zd9 aa ab)
def Zg3 (aa:Int):Option Int:=
  if (decide (65536≤aa))=true then (Zg4 (Yn .u32 aa 16) 16) else (Zg4 aa 0)
theorem Zra {col:Zd} {w0:World} {ac r:Int} (hm:Zg3 ac=some r):
    Calls prog 232 #[.int .u32 ac] w0 (fun e w'=>e= .returned ((.int .i64 r))∧Below w0.heap.size w0 w'):=by
 refine Xc 2 (m:=19) func232 rfl rfl rfl rfl rfl ?_;rw [Zg3.eq_1] at hm;have aa:=St.start col w0;refine Z0<|Wk<|Y8 rfl<|Zk<|Z0 ?_;refine Wp.cutK [1000000] (fun f ag=>∃ ah ab ad,Zg4 ab ad=some r∧St w0 (Zh col) ah ag∧[0,2].map f=[.int .u32 ab,.int .i64 ad]) ?_ ?_
 ·intro f ag hJ;obtain ⟨ah,ab,ad,hm,aa,hs⟩:=hJ;rw [Zg4.eq_1] at hm;refine .lL [0,2] hs<|Z0 ?_;refine Wp.cutK [1000000] (fun f ai=>∃ aj ae af,Zd9 ae af=some r∧St w0 (Zh col) aj ai∧[0,2].map f=[.int .u32 ae,.int .i64 af]) ?_ ?_
  ·intro f ai hJ;obtain ⟨aj,ae,af,hm,aa,hs⟩:=hJ;rw [Zd9.eq_1] at hm;refine .lL [0,2] hs<|go ?_;obtain ⟨ak,al,hm⟩:=bZ hm;refine lV (.int .u8 ak) (Z5s (s:=(⟨#[0,1,2,2,3,3,3,3,4,4,4,4,4,4,4,4,5,5,5,5,5,5,5,5,5,5,5,5,5,5,5,5,6,6,6,6,6,6,6,6,6,6,6,6,6,6,6,6,6,6,6,6,6,6,6,6,6,6,6,6,6,6,6,6,7,7,7,7,7,7,7,7,7,7,7,7,7,7,7,7,7,7,7,7,7,7,7,7,7,7,7,7,7,7,7,7,7,7,7,7,7,7,7,7,7,7,7,7,7,7,7,7,7,7,7,7,7,7,7,7,7,7,7,7,7,7,7,7,8,8,8,8,8,8,8,8,8,8,8,8,8,8,8,8,8,8,8,8,8,8,8,8,8,8,8,8,8,8,8,8,8,8,8,8,8,8,8,8,8,8,8,8,8,8,8,8,8,8,8,8,8,8,8,8,8,8,8,8,8,8,8,8,8,8,8,8,8,8,8,8,8,8,8,8,8,8,8,8,8,8,8,8,8,8,8,8,8,8,8,8,8,8,8,8,8,8,8,8,8,8,8,8,8,8,8,8,8,8,8,8,8,8,8,8,8,8,8,8,8,8,8,8,8,8,8,8]⟩)) underlying9 rfl rfl al)<|go ?_;cases hm;exact ⟨rfl,rfl,aa.below⟩
  refine go ?_;refine Zo hm (fun hb hm=>go ?_) fun hb hm=>?_
  ·refine lV (.int .u32 (Yn .u32 ab 8)) (S0 ab 8 rfl rfl (by decide))<|go ?_;exact ⟨rfl,_,_,_,hm,aa,rfl⟩
  refine X9 ?_;exact ⟨rfl,_,_,_,hm,aa,rfl⟩
 refine go ?_;refine Zo hm (fun hb hm=>go ?_) fun hb hm=>?_
 ·refine lV (.int .u32 (Yn .u32 ac 16)) (S0 ac 16 rfl rfl (by decide))<|go ?_;exact ⟨rfl,_,_,16,hm,aa,rfl⟩
 refine X9 ?_;exact ⟨rfl,_,_,0,hm,aa,rfl⟩
def Zjp (aa:Int):Option Int:=
  (Zg3 aa).bind fun ab=>some (i64.wrap (32 - ab))
theorem Z0o {col:Zd} {w0:World} {ac r:Int} (hm:Zjp ac=some r):
    Calls prog 287 #[.int .u32 ac] w0 (fun e w'=>e= .returned ((.int .i64 r))∧Below w0.heap.size w0 w'):=by
 refine Xc 2 (m:=6) func287 rfl rfl rfl rfl rfl ?_;rw [Zjp.eq_1] at hm;have aa:=St.start col w0;refine go ?_;obtain ⟨af,ad,hm⟩:=bZ hm;refine Zi (Zra (col:=(Zh col)) ad) ?_;rintro _ ae ⟨rfl,ab⟩;refine ⟨_,rfl,?_⟩;replace ab:Zg (Zh col) w0 (Zh col) ae:=.of_below ab;refine go ?_;cases hm;replace aa:=aa.grow ab;exact ⟨rfl,rfl,aa.below⟩
def Zcq (ab:Int):List Int→Nat→R2→Option R2
  | [],aa,ac=>some ac
  | ad :: af,aa,ac=>(Zj ac (aa:Int)).bind fun ag=>Zv (0≤ab) ((some (ac.set (Int.toNat (aa:Int)) (Y7 .u32 ag (X6 .u32 ad ab)))).bind fun ae=>Zv (0≤ab) ((Zj ae (i64.wrap ((aa:Int)+1))).bind fun ai=>(some (ae.set (Int.toNat (i64.wrap ((aa:Int)+1))) (u32.wrap (Yn .u64 (X6 .u64 (u64.wrap ad) ab) 32)))).bind fun ah=>(Zcq ab af) (aa+1) ah))
termination_by structural x=>x
def Zhi (aa:List Int) (ab:Int):Option R2:=
  Zv ((Int.toNat (i64.wrap ((aa.length:Int)+1))) * 4≤281474976710656∧(Int.toNat (i64.wrap ((aa.length:Int)+1)))≤maxLen∧0≤(i64.wrap ((aa.length:Int)+1))) (Zcq ab aa 0 (List.replicate (Int.toNat (i64.wrap ((aa.length:Int)+1))) (0:Int)))
theorem Zrf {ay:Nat} {a0:Option Addr} {col:Zd} {w0:World} {ad:R2} {aa:Int} {r:R2} (c1:Nat) (hm:Zhi ad aa=some r) (h0:Sl (Za.int .u32) col w0 a0 ay ad):
    Calls prog 277 #[.slice a0 ad.length ay,.int .i64 aa] w0 (fun e w'=>∃ (col':Zd) (ra1:Option Addr) (rc2:Nat),e= .returned ((.slice ra1 r.length rc2))∧Zg col w0 col' w'∧Zc (Za.int .u32) 79 c1 col' w' ra1 rc2 r):=by
 refine Xc 4 (m:=40) func277 rfl rfl rfl rfl rfl ?_;rw [Zhi.eq_1] at hm;have ab:=St.start col w0;refine go ?_;obtain ⟨ao,hm⟩:=Zx hm;refine Sf (col:=(Zh col)) (w:=w0) (r:=(Za.int .u32)) (n:=(Int.toNat (i64.wrap ((ad.length:Int)+1)))) (x0:=0) 1 rfl underlying43 Tryz.t79 rfl rfl rfl rfl rfl (congrArg (Value.int _) (Int.toNat_of_nonneg ao.2.2).symm) (congrArg (Value.int _) (Int.toNat_of_nonneg ao.2.2).symm) ao.1 ao.2.1 (Uf .u32 0) ?_;intro bc bd be a1 a2;refine go ?_;replace ab:=ab.grow a1;refine Zw [1,12,13,1000000] (fun n f au=>∃ ae af ah ai ak al,n=al.length∧ad.drop af=al∧Zcq aa al af ak=some r∧St w0 (Zh col) ae au∧Zc (Za.int .u32) 79 1 ae au ah ai ak∧[14,5].map f=[.int .i64 af,.slice ah ak.length ai]) ad.length ⟨_,0,_,_,_,_,rfl,rfl,hm,ab,a2,rfl⟩ ?_;clear hm;intro n f au hI;obtain ⟨ae,af,ah,ai,ak,al,hn,hl,hm,ab,aj,hs⟩:=hI;subst hn;refine .lL [14,5] hs ?_;replace h0:=h0.keep (Zf.start col w0)
 cases al with
 | nil=>
  have hk:¬ ((af:Int)<(ad.length:Int)):=by have:=List.drop_eq_nil_iff.1 hl;omega
  have hkb:=decide_eq_false hk;rw [Zcq.eq_1] at hm;refine go ?_;refine Yf (congrArg Value.bool hkb)<|go ?_;cases hm;exact ⟨rfl,_,_,_,rfl,ab.fin (cm [(1,c1)]),ab.fo aj⟩
 | cons ac a3=>
  obtain ⟨av,a4,a5⟩:=Yw hl;have hk:(af:Int)<(ad.length:Int):=by omega
  have hkb:=decide_eq_true hk;rw [Zcq.eq_2] at hm;refine go ?_;refine Yg (congrArg Value.bool hkb)<|go ?_;refine lI av ((h0.ks ab).addr av)<|lW ((h0.ks ab).atInt av) ?_;refine go ?_;refine Wh (col:=ae) [(0,1),(1,1),(2,1),(3,0),(4,1),(5,1),(6,1),(7,1),(8,1),(9,2)] (by kernel_rfl) (by kernel_rfl)<|xu rfl rfl (fun _=>Vf rfl) ?_;refine xu rfl rfl (fun _=>Wj rfl) ?_;obtain ⟨ap,ag,hm⟩:=bZ hm;refine xu rfl rfl (fun _=>Wi underlying43 sizeOf79 rfl rfl (Xn ag).1 (Xn ag).2.1 (aj.addr ag)) ?_;refine xW (fun _ hC=>(aj.gr (hC.bl ae)).atInt ag) ?_;refine xu rfl rfl (fun _=>Wj rfl) ?_;refine xu rfl rfl (fun _=>Wj rfl) ?_;obtain ⟨a6,hm⟩:=Zx hm;refine xu (v:=(.int .u32 (X6 .u32 ac aa))) rfl rfl (fun _=>Zf4 ac aa rfl rfl a6) ?_;refine xu (v:=(.int .u32 (Y7 .u32 ap (X6 .u32 ac aa)))) rfl rfl (fun _=>Zp7 ap (X6 .u32 ac aa) rfl rfl) ?_;refine xu rfl rfl (fun _=>Wi underlying43 sizeOf79 rfl rfl (Xn ag).1 (Xn ag).2.1 (aj.addr ag)) ?_;refine xe rfl rfl ?_;intro bf hC0;have hC:=hC0.bl ae;obtain ⟨am,aq,hm⟩:=bZ hm;have aq:am=ak.set (Int.toNat (af:Int)) (Y7 .u32 ap (X6 .u32 ac aa)):=(Option.some.inj aq).symm;replace aj:=aj.gr hC;refine Wb (x1:=Y7 .u32 ap (X6 .u32 ac aa)) aj ag ?_;intro bg a7 a8 an;rw [← aq] at an;refine .ld (d:=5) (v:=(.slice ah am.length ai)) (congrArg (fun n=>Value.slice ah n ai) (show ak.length=am.length by rw [aq,nS])) ?_;refine Zk<|xk ae<|Y9 ?_;replace ab:=(ab.grow hC).kp a7 a8;intro bh hC;replace hC:=hC.bl ae;refine go ?_;obtain ⟨a9,hm⟩:=Zx hm;refine lV (.int .u64 (X6 .u64 (u64.wrap ac) aa)) (Zf4 (u64.wrap ac) aa rfl rfl a9)<|lV (.int .u64 (Yn .u64 (X6 .u64 (u64.wrap ac) aa) 32)) (S0 (X6 .u64 (u64.wrap ac) aa) 32 rfl rfl (by decide))<|go ?_;obtain ⟨bi,aw,hm⟩:=bZ hm;replace an:=an.gr hC;refine lI aw (an.addr aw) ?_;obtain ⟨ax,ar,hm⟩:=bZ hm;have ar:ax=am.set (Int.toNat (i64.wrap ((af:Int)+1))) (u32.wrap (Yn .u64 (X6 .u64 (u64.wrap ac) aa) 32)):=(Option.some.inj ar).symm;refine Wb (x1:=u32.wrap (Yn .u64 (X6 .u64 (u64.wrap ac) aa) 32)) an aw ?_;intro bj ba bb az;rw [← ar] at az;refine .ld (d:=5) (v:=(.slice ah ax.length ai)) (congrArg (fun n=>Value.slice ah n ai) (show am.length=ax.length by rw [ar,nS])) ?_;refine go ?_;replace ab:=(ab.grow hC).kp ba bb
  exact ⟨a3.length,by simp,rfl,⟨_,_,_,_,_,_,rfl,a4,hm,ab,az,(Y1 (congrArg (Value.int .i64) (Yy (Nat.lt_of_lt_of_le a5 (h0.ks ab).1.1))) rfl)⟩⟩
def Zj0 (aa:List Int) (kk_L1:(List Int→Option R2)) (ab:Bool):Option R2:=
  if ab=true then (Zv ((0:Int)≤(i64.wrap ((aa.length:Int) - 1))∧(i64.wrap ((aa.length:Int) - 1))≤(aa.length:Int)) (kk_L1 (aa.take (Int.toNat (i64.wrap ((aa.length:Int) - 1)))))) else (some aa)
def Zbf (N:Nat):Nat→R2→Option R2
  | 0,_=>none
  | ab+1,aa=>if (decide (0<(aa.length:Int)))=true then ((Zj aa (i64.wrap ((aa.length:Int) - 1))).bind fun ac=>Zj0 aa (Zbf N ab) (decide (ac=0))) else (Zj0 aa (Zbf N ab) false)
termination_by structural x=>x
def Zen (N:Nat) (aa:List Int):Option R2:=
  Zbf N N aa
theorem Zrg {N ap:Nat} {a0:Option Addr} {col:Zd} {w0:World} {ag r:R2} (qc0:Nat) (hm:Zen N ag=some r) (hd:Qb [qc0]=true) (h0:Zc (Za.int .u32) 79 qc0 col w0 a0 ap ag):
    Calls prog 217 #[.slice a0 ag.length ap] w0 (fun e w'=>∃ (col':Zd) (ra1:Option Addr) (rc2:Nat),e= .returned ((.slice ra1 r.length rc2))∧Z1 (pS [qc0]) col w0 col' w'∧Zc (Za.int .u32) 79 qc0 col' w' ra1 rc2 r):=by
 refine Xc 2 (m:=21) func217 rfl rfl rfl rfl rfl ?_;rw [Zen.eq_1] at hm;have ab:=St.startL (l:=[qc0]) rfl col w0;replace h0:=h0.startL (Zaz hd 0 rfl) (Zay hd 0 rfl);refine go ?_;refine Zw [1000000] (fun n f ah=>∃ ai ad ae aa af,af=n∧Zbf N af aa=some r∧St w0 (Xu [qc0] col) ai ah∧Zc (Za.int .u32) 79 440 ai ah ad ae aa∧[0].map f=[.slice ad aa.length ae]) N ⟨_,_,_,_,_,rfl,hm,ab,h0,rfl⟩ ?_;clear hm;intro n f ah hI;obtain ⟨ai,ad,ae,aa,af,hn,hm,ab,ac,hs⟩:=hI;subst hn;refine .lL [0] hs ?_
 cases af with
 | zero=>rw [Zbf.eq_1] at hm;cases hm
 | succ af=>
  rw [Zbf.eq_2] at hm;refine Z0<|Z0 ?_;refine Wp.cutK [0,1000000] (fun f aj=>∃ ak al,Zj0 aa (Zbf N af) al=some r∧St w0 (Xu [qc0] col) ak aj∧Zc (Za.int .u32) 79 440 ak aj ad ae aa∧[14].map f=[.bool al]) ?_ ?_
  ·intro f aj hJ;obtain ⟨ak,al,hm,ab,ac,hs⟩:=hJ;rw [Zj0.eq_1] at hm;refine .lL [14] hs ?_;refine Zo hm (fun hb hm=>go ?_) fun hb hm=>go ?_
   ·obtain ⟨am,hm⟩:=Zx hm;refine lv (v:=.slice ad (Int.toNat (i64.wrap ((aa.length:Int) - 1))) ae) rfl rfl (V5 underlying43 sizeOf79 rfl rfl am.1 (by have:=ac.lecap;have:=am.2;omega))<|.ld (d:=19) (v:=(.slice ad ((aa.take (Int.toNat (i64.wrap ((aa.length:Int) - 1)))).length) ae)) (congrArg (fun n=>Value.slice ad n ae) (List.length_take_of_le (show (Int.toNat (i64.wrap ((aa.length:Int) - 1)))≤aa.length by have:=am.2;omega)).symm) ?_;refine go ?_;exact ⟨af,by omega,rfl,⟨_,_,_,_,_,rfl,hm,ab,(ac.take (Int.toNat (i64.wrap ((aa.length:Int) - 1)))),rfl⟩⟩
   cases hm;exact ⟨rfl,_,_,_,rfl,ab.finL rfl (cm [(440,qc0)]),ab.foL ac⟩
  refine go ?_;refine Xt hm (fun an hm=>go ?_) fun an hm=>go ?_
  ·obtain ⟨aq,ao,hm⟩:=bZ hm;refine lI ao (ac.addr ao) ?_;refine go ?_;refine lW (ac.atInt ao)<|go ?_;refine lV (.bool (decide (aq=0))) (Xb (congrArg Value.bool an) rfl)<|Zk ?_;exact ⟨rfl,_,_,hm,ab,ac,rfl⟩
  refine lV (.bool false) (Xm (congrArg Value.bool an) rfl)<|Zk ?_;exact ⟨rfl,_,_,hm,ab,ac,rfl⟩
def Zjw (aa:Int) (ab:List Int):Option Ra:=
  some (u32.wrap aa,ab)
def Zcp (j0:Nat) (n0:Nat) (ab:List Int) (ae:Int):List Int→Nat→R2→Int→Option Ra
  | [],aa,ac,ad=>Zv (0≤(ab.length:Int)∧(ab.length:Int)<(n0:Int)) ((Zj ac ((j0:Int)+(ab.length:Int))).bind fun ah=>Zv (0≤(ab.length:Int)∧(ab.length:Int)<(n0:Int)) ((Zj ac ((j0:Int)+(ab.length:Int))).bind fun al=>(some (ac.set (Int.toNat ((j0:Int)+(ab.length:Int))) (u32.wrap (ah+(u32.wrap ad))))).bind fun ai=>Zjw (u64.wrap ((u64.wrap (ae - 1)) - 1)) ai))
  | af :: aj,aa,ac,ad=>Zv (0≤(aa:Int)∧(aa:Int)<(n0:Int)) ((Zj ac ((j0:Int)+(aa:Int))).bind fun ag=>Zv (0≤(aa:Int)∧(aa:Int)<(n0:Int)) ((Zj ac ((j0:Int)+(aa:Int))).bind fun am=>(some (ac.set (Int.toNat ((j0:Int)+(aa:Int))) (u32.wrap (u64.wrap (ad+(u64.wrap ((u64.wrap ag)+(u64.wrap af)))))))).bind fun ak=>(Zcp j0 n0 ab ae aj) (aa+1) ak (Yn .u64 (u64.wrap (ad+(u64.wrap ((u64.wrap ag)+(u64.wrap af))))) 32)))
termination_by structural x=>x
def Zmk (aa:Nat) (kk_L2:(Nat→R2→Int→Int→Option Ra)) (ab:List Int) (ac:Int) (ad:Int):Option Ra:=
  kk_L2 (aa+1) ab ac ad
def Zjx (j0:Nat) (n0:Nat) (ac:Int) (ab:List Int) (af:Int) (aa:Nat) (ad:Int) (kk_L2:(Nat→R2→Int→Int→Option Ra)) (ae:Int) (ag:Int):Option Ra:=
  Zv (0≤(aa:Int)∧(aa:Int)<(n0:Int)) ((Zj ab ((j0:Int)+(aa:Int))).bind fun ah=>Zv (0≤(aa:Int)∧(aa:Int)<(n0:Int)) ((Zj ab ((j0:Int)+(aa:Int))).bind fun aj=>(some (ab.set (Int.toNat ((j0:Int)+(aa:Int))) (u32.wrap (ah - (u32.wrap (u64.wrap ((Tf .u64 (u64.wrap (ad+(u64.wrap ((u64.wrap (ac - 1)) * (u64.wrap ae))))) 4294967295)+af))))))).bind fun ai=>Zmk aa kk_L2 ai ag (Yn .u64 (u64.wrap (ad+(u64.wrap ((u64.wrap (ac - 1)) * (u64.wrap ae))))) 32)))
def Qm (j0:Nat) (n0:Nat) (aa:List Int) (ac:Int):List Int→Nat→R2→Int→Int→Option Ra
  | [],ad,ab,ae,af=>Zv (0≤(aa.length:Int)∧(aa.length:Int)<(n0:Int)) ((Zj ab ((j0:Int)+(aa.length:Int))).bind fun aj=>Zv (0≤(aa.length:Int)∧(aa.length:Int)<(n0:Int)) ((Zj ab ((j0:Int)+(aa.length:Int))).bind fun ak=>Zv (0≤(aa.length:Int)∧(aa.length:Int)<(n0:Int)) ((Zj ab ((j0:Int)+(aa.length:Int))).bind fun am=>(some (ab.set (Int.toNat ((j0:Int)+(aa.length:Int))) (u32.wrap (ak - (u32.wrap (u64.wrap (af+ae))))))).bind fun ah=>if (decide ((u64.wrap aj)<(u64.wrap (af+ae))))=true then (Zcp j0 n0 aa ac aa 0 ah 0) else (Zjw (u64.wrap (ac - 1)) ah))))
  | ag :: ai,ad,ab,ae,af=>Zv (0≤(ad:Int)∧(ad:Int)<(n0:Int)) ((Zj ab ((j0:Int)+(ad:Int))).bind fun al=>if (decide ((u64.wrap al)<(u64.wrap ((Tf .u64 (u64.wrap (af+(u64.wrap ((u64.wrap (ac - 1)) * (u64.wrap ag))))) 4294967295)+ae))))=true then (Zjx j0 n0 ac ab ae ad af (Qm j0 n0 aa ac ai) ag 1) else (Zjx j0 n0 ac ab ae ad af (Qm j0 n0 aa ac ai) ag 0))
termination_by structural x=>x
def Zjv (j0:Nat) (n0:Nat) (ae:List Int) (aa:List Int) (ab:Int) (ac:Int) (kk_L1:(Int→Int→Option Ra)):Option Ra:=
  (Zj aa (i64.wrap ((aa.length:Int) - 1))).bind fun ad=>if (decide (4294967295<(u64.wrap (ac+(u64.wrap ad)))))=true then (Qm j0 n0 aa ab aa 0 ae 0 0) else (kk_L1 (u64.wrap (ab - 1)) (u64.wrap (ac+(u64.wrap ad))))
def Zbd (aa:Int) (ab:List Int):Option Ra:=
  some (u32.wrap aa,ab)
def Tx (j0:Nat) (n0:Nat) (ab:List Int) (ae:Int):List Int→Nat→R2→Int→Option Ra
  | [],aa,ac,ad=>Zv (0≤(ab.length:Int)∧(ab.length:Int)<(n0:Int)) ((Zj ac ((j0:Int)+(ab.length:Int))).bind fun ah=>Zv (0≤(ab.length:Int)∧(ab.length:Int)<(n0:Int)) ((Zj ac ((j0:Int)+(ab.length:Int))).bind fun al=>(some (ac.set (Int.toNat ((j0:Int)+(ab.length:Int))) (u32.wrap (ah+(u32.wrap ad))))).bind fun ai=>Zbd (u64.wrap (ae - 1)) ai))
  | af :: aj,aa,ac,ad=>Zv (0≤(aa:Int)∧(aa:Int)<(n0:Int)) ((Zj ac ((j0:Int)+(aa:Int))).bind fun ag=>Zv (0≤(aa:Int)∧(aa:Int)<(n0:Int)) ((Zj ac ((j0:Int)+(aa:Int))).bind fun am=>(some (ac.set (Int.toNat ((j0:Int)+(aa:Int))) (u32.wrap (u64.wrap (ad+(u64.wrap ((u64.wrap ag)+(u64.wrap af)))))))).bind fun ak=>(Tx j0 n0 ab ae aj) (aa+1) ak (Yn .u64 (u64.wrap (ad+(u64.wrap ((u64.wrap ag)+(u64.wrap af))))) 32)))
termination_by structural x=>x
def Zjy (aa:Nat) (kk_L4:(Nat→R2→Int→Int→Option Ra)) (ab:List Int) (ac:Int) (ad:Int):Option Ra:=
  kk_L4 (aa+1) ab ac ad
def Zel (j0:Nat) (n0:Nat) (ac:Int) (ab:List Int) (af:Int) (aa:Nat) (ad:Int) (kk_L4:(Nat→R2→Int→Int→Option Ra)) (ae:Int) (ag:Int):Option Ra:=
  Zv (0≤(aa:Int)∧(aa:Int)<(n0:Int)) ((Zj ab ((j0:Int)+(aa:Int))).bind fun ah=>Zv (0≤(aa:Int)∧(aa:Int)<(n0:Int)) ((Zj ab ((j0:Int)+(aa:Int))).bind fun aj=>(some (ab.set (Int.toNat ((j0:Int)+(aa:Int))) (u32.wrap (ah - (u32.wrap (u64.wrap ((Tf .u64 (u64.wrap (ad+(u64.wrap (ac * (u64.wrap ae))))) 4294967295)+af))))))).bind fun ai=>Zjy aa kk_L4 ai ag (Yn .u64 (u64.wrap (ad+(u64.wrap (ac * (u64.wrap ae))))) 32)))
def Ub (j0:Nat) (n0:Nat) (aa:List Int) (ac:Int):List Int→Nat→R2→Int→Int→Option Ra
  | [],ad,ab,ae,af=>Zv (0≤(aa.length:Int)∧(aa.length:Int)<(n0:Int)) ((Zj ab ((j0:Int)+(aa.length:Int))).bind fun aj=>Zv (0≤(aa.length:Int)∧(aa.length:Int)<(n0:Int)) ((Zj ab ((j0:Int)+(aa.length:Int))).bind fun ak=>Zv (0≤(aa.length:Int)∧(aa.length:Int)<(n0:Int)) ((Zj ab ((j0:Int)+(aa.length:Int))).bind fun am=>(some (ab.set (Int.toNat ((j0:Int)+(aa.length:Int))) (u32.wrap (ak - (u32.wrap (u64.wrap (af+ae))))))).bind fun ah=>if (decide ((u64.wrap aj)<(u64.wrap (af+ae))))=true then (Tx j0 n0 aa ac aa 0 ah 0) else (Zbd ac ah))))
  | ag :: ai,ad,ab,ae,af=>Zv (0≤(ad:Int)∧(ad:Int)<(n0:Int)) ((Zj ab ((j0:Int)+(ad:Int))).bind fun al=>if (decide ((u64.wrap al)<(u64.wrap ((Tf .u64 (u64.wrap (af+(u64.wrap (ac * (u64.wrap ag))))) 4294967295)+ae))))=true then (Zel j0 n0 ac ab ae ad af (Ub j0 n0 aa ac ai) ag 1) else (Zel j0 n0 ac ab ae ad af (Ub j0 n0 aa ac ai) ag 0))
termination_by structural x=>x
def Zek (j0:Nat) (n0:Nat) (ab:List Int) (aa:List Int) (ac:Int) (ad:Int) (kk_L1:(Int→Int→Option Ra)) (ae:Bool):Option Ra:=
  if ae=true then (Zjv j0 n0 ab aa ac ad kk_L1) else (Ub j0 n0 aa ac aa 0 ab 0 0)
def Sn (N:Nat) (j0:Nat) (n0:Nat) (ab:List Int) (aa:List Int):Nat→Int→Int→Option Ra
  | 0,_,_=>none
  | ae+1,ac,ad=>if (decide (4294967295<ac))=true then (Zek j0 n0 ab aa ac ad (Sn N j0 n0 ab aa ae) true) else (if (decide (ad≤4294967295))=true then ((Zj aa (i64.wrap ((aa.length:Int) - 2))).bind fun af=>Zv (0≤(i64.wrap ((aa.length:Int) - 2))∧(i64.wrap ((aa.length:Int) - 2))<(n0:Int)) ((Zj ab ((j0:Int)+(i64.wrap ((aa.length:Int) - 2)))).bind fun ag=>Zek j0 n0 ab aa ac ad (Sn N j0 n0 ab aa ae) (decide ((Y7 .u64 (X6 .u64 ad 32) (u64.wrap ag))<(u64.wrap (ac * (u64.wrap af))))))) else (Zek j0 n0 ab aa ac ad (Sn N j0 n0 ab aa ae) false))
termination_by structural x=>x
def Zhh (N:Nat) (j0:Nat) (n0:Nat) (ac:List Int) (aa:List Int):Option Ra:=
  Zv (0≤(aa.length:Int)∧(aa.length:Int)<(n0:Int)) ((Zj ac ((j0:Int)+(aa.length:Int))).bind fun ad=>Zv (0≤(i64.wrap ((aa.length:Int) - 1))∧(i64.wrap ((aa.length:Int) - 1))<(n0:Int)) ((Zj ac ((j0:Int)+(i64.wrap ((aa.length:Int) - 1)))).bind fun ae=>(Zj aa (i64.wrap ((aa.length:Int) - 1))).bind fun ab=>Zv ((u64.wrap ab)≠0) (Zv ((u64.wrap ab)≠0) (Sn N j0 n0 ac aa N (u64.wrap (Int.tdiv (Y7 .u64 (X6 .u64 (u64.wrap ad) 32) (u64.wrap ae)) (u64.wrap ab))) (Int.tmod (Y7 .u64 (X6 .u64 (u64.wrap ad) 32) (u64.wrap ae)) (u64.wrap ab))))))
theorem Z0z {N ae j0 n0 cp0 de:Nat} {a0 a1:Option Addr} {col:Zd} {w0:World} {ac ab:R2} {r:Ra} (qc0:Nat) (hm:Zhh N j0 n0 ac ab=some r) (hd:Qb [qc0]=true) (h0:Zc (Za.int .u32) 79 qc0 col w0 a0 ae ac) (h1:Sl (Za.int .u32) col w0 a1 de ab):
    Calls prog 288 #[.slice (a0.map (·.add (j0 * 1))) n0 cp0,.slice a1 ab.length de] w0 (fun e w'=>∃ (col':Zd),e= .returned ((.int .u32 r.1))∧Z1 (pS [qc0]) col w0 col' w'∧Zc (Za.int .u32) 79 qc0 col' w' a0 ae r.2∧r.2.length=ac.length):=by
 refine Xc 4 (m:=178) func288 rfl rfl rfl rfl rfl ?_;rw [Zhh.eq_1] at hm;have aa:=St.startL (l:=[qc0]) rfl col w0;replace h0:=h0.startL (Zaz hd 0 rfl) (Zay hd 0 rfl);refine go ?_;refine Wd (col:=(Xu [qc0] col)) (by kernel_rfl) (by kernel_rfl)<|go ?_;obtain ⟨df,hm⟩:=Zx hm;obtain ⟨a7,dg,hm⟩:=bZ hm;refine qv (v:=(Yd a0 (Int.toNat ((j0:Int)+(ab.length:Int)) * 1))) rfl (fun _ hC=>Vc underlying43 sizeOf79 rfl rfl df.1 df.2 (h0.addr dg)) ?_;refine qW (fun _ hC=>(h0.gr (hC.bl (Xu [qc0] col))).atInt dg) ?_;refine go ?_;refine qv (v:=(.int .u64 (X6 .u64 (u64.wrap a7) 32))) rfl (fun _ hC=>Zf4 (u64.wrap a7) 32 rfl rfl (by decide)) ?_;refine go ?_;obtain ⟨dh,hm⟩:=Zx hm;obtain ⟨bf,di,hm⟩:=bZ hm;refine qv (v:=(Yd a0 (Int.toNat ((j0:Int)+(i64.wrap ((ab.length:Int) - 1))) * 1))) rfl (fun _ hC=>Vc underlying43 sizeOf79 rfl rfl dh.1 dh.2 (h0.addr di)) ?_;refine qW (fun _ hC=>(h0.gr (hC.bl (Xu [qc0] col))).atInt di) ?_;refine go ?_;refine X7 ?_;intro gm hC;replace h1:=h1.keep (Zf.startL [qc0] col w0);replace hC:=hC.bl (Xu [qc0] col);refine go ?_;obtain ⟨bg,a8,hm⟩:=bZ hm;replace aa:=aa.grow hC;refine lI a8 ((h1.ks aa).addr a8)<|lW ((h1.ks aa).atInt a8) ?_;refine go ?_;obtain ⟨fc,hm⟩:=Zx hm;refine lV (.int .u64 (u64.wrap (Int.tdiv (Y7 .u64 (X6 .u64 (u64.wrap a7) 32) (u64.wrap bf)) (u64.wrap bg)))) (Vw (Y7 .u64 (X6 .u64 (u64.wrap a7) 32) (u64.wrap bf)) (u64.wrap bg) rfl rfl fc)<|go ?_;refine lI a8 ((h1.ks aa).addr a8)<|lW ((h1.ks aa).atInt a8) ?_;refine go ?_;obtain ⟨fd,hm⟩:=Zx hm;refine lV (.int .u64 (Int.tmod (Y7 .u64 (X6 .u64 (u64.wrap a7) 32) (u64.wrap bf)) (u64.wrap bg))) (Sz (Y7 .u64 (X6 .u64 (u64.wrap a7) 32) (u64.wrap bf)) (u64.wrap bg) rfl rfl fd)<|go ?_;replace h0:=h0.gr hC;refine Zw [0,1,5,1000000] (fun n f bx=>∃ ao ad ap a2,a2=n∧Sn N j0 n0 ac ab a2 ad ap=some r∧St w0 (Xu [qc0] col) ao bx∧Zc (Za.int .u32) 79 440 ao bx a0 ae ac∧[7,8].map f=[.int .u64 ad,.int .u64 ap]) N ⟨_,_,_,_,rfl,hm,aa,h0,rfl⟩ ?_;clear hm;intro n f bx hI;obtain ⟨ao,ad,ap,a2,hn,hm,aa,h0,hs⟩:=hI;subst hn;refine .lL [7,8] hs ?_
 cases a2 with
 | zero=>rw [Sn.eq_1] at hm;cases hm
 | succ a2=>
  rw [Sn.eq_2] at hm;refine Z0 ?_;refine Wp.cutK [0,1,5,7,8,1000000] (fun f bz=>∃ b0,Zjv j0 n0 ac ab ad ap (Sn N j0 n0 ac ab a2)=some r∧St w0 (Xu [qc0] col) b0 bz∧Zc (Za.int .u32) 79 440 b0 bz a0 ae ac) ?_ ?_
  ·intro f bz hJ;obtain ⟨b0,hm,aa,h0⟩:=hJ;rw [Zjv.eq_1] at hm;refine go ?_;obtain ⟨gp,b1,hm⟩:=bZ hm;refine lI b1 ((h1.ks aa).addr b1)<|lW ((h1.ks aa).atInt b1) ?_;refine go ?_;refine Zo hm (fun hb hm=>?_) fun hb hm=>?_
   ·refine Zk9 (Z33 rfl (Zji ?_));refine go ?_;refine Zw [0,1,5,7,87,88,1000000] (fun n f b2=>∃ b3 am a3 ai aj a9,n=a9.length∧ab.drop ai=a9∧Qm j0 n0 ab ad a9 ai am a3 aj=some r∧St w0 (Xu [qc0] col) b3 b2∧Zc (Za.int .u32) 79 440 b3 b2 a0 ae am∧am.length=ac.length∧am.length=ac.length∧[89,10,9].map f=[.int .i64 ai,.int .u64 a3,.int .u64 aj]) ab.length ⟨_,_,0,0,0,_,rfl,rfl,hm,aa,h0,rfl,rfl,rfl⟩ ?_;clear hm;intro n f b2 hI;obtain ⟨b3,am,a3,ai,aj,a9,hn,hl,hm,aa,af,dj,gs,hs⟩:=hI;subst hn;refine .lL [89,10,9] hs ?_
    cases a9 with
    | nil=>
     have hk:¬ ((ai:Int)<(ab.length:Int)):=by have:=List.drop_eq_nil_iff.1 hl;omega
     have hkb:=decide_eq_false hk;rw [Qm.eq_1] at hm;refine go ?_;refine Yf (congrArg Value.bool hkb)<|go ?_;obtain ⟨dk,hm⟩:=Zx hm;obtain ⟨gt,dl,hm⟩:=bZ hm;refine lV (Yd a0 (Int.toNat ((j0:Int)+(ab.length:Int)) * 1)) (Vc underlying43 sizeOf79 rfl rfl dk.1 dk.2 (af.addr dl))<|lW (af.atInt dl)<|go ?_;obtain ⟨dm,hm⟩:=Zx hm;obtain ⟨dn,dp,hm⟩:=bZ hm;refine lV (Yd a0 (Int.toNat ((j0:Int)+(ab.length:Int)) * 1)) (Vc underlying43 sizeOf79 rfl rfl dm.1 dm.2 (af.addr dp))<|lW (af.atInt dp)<|go ?_;obtain ⟨dq,hm⟩:=Zx hm;obtain ⟨gu,dr,hm⟩:=bZ hm;refine lV (Yd a0 (Int.toNat ((j0:Int)+(ab.length:Int)) * 1)) (Vc underlying43 sizeOf79 rfl rfl dq.1 dq.2 (af.addr dr)) ?_;obtain ⟨b4,bh,hm⟩:=bZ hm;have bh:b4=am.set (Int.toNat ((j0:Int)+(ab.length:Int))) (u32.wrap (dn - (u32.wrap (u64.wrap (aj+a3))))):=(Option.some.inj bh).symm;refine Wb (x1:=u32.wrap (dn - (u32.wrap (u64.wrap (aj+a3))))) af dr ?_;intro gv fe ff b5;rw [← bh] at b5;have b6:b4.length=ac.length:=(show am.length=b4.length by rw [bh,nS]).symm.trans dj;refine Zk<|Z0 ?_;replace aa:=aa.kp fe ff;refine Wp.cutK [1000000] (fun f b7=>∃ b8 b9 bi,Zjw b9 bi=some r∧St w0 (Xu [qc0] col) b8 b7∧Zc (Za.int .u32) 79 440 b8 b7 a0 ae bi∧bi.length=ac.length∧[7].map f=[.int .u64 b9]) ?_ ?_
     ·intro f b7 hJ;obtain ⟨b8,b9,bi,hm,aa,fg,fh,hs⟩:=hJ;rw [Zjw.eq_1] at hm;refine .lL [7] hs<|go ?_;cases hm;exact ⟨rfl,_,rfl,aa.finL rfl (cm [(440,qc0)]),aa.foL fg,fh⟩
     refine go ?_;refine Zo hm (fun hb hm=>go ?_) fun hb hm=>?_
     ·refine Zw [0,143,144,5,7,1000000] (fun n f ca=>∃ cb aq ar au ba,n=ba.length∧ab.drop ar=ba∧Zcp j0 n0 ab ad ba ar aq au=some r∧St w0 (Xu [qc0] col) cb ca∧Zc (Za.int .u32) 79 440 cb ca a0 ae aq∧aq.length=ac.length∧aq.length=ac.length∧[145,9].map f=[.int .i64 ar,.int .u64 au]) ab.length ⟨_,_,0,0,_,rfl,rfl,hm,aa,b5,b6,b6,rfl⟩ ?_;clear hm;intro n f ca hI;obtain ⟨cb,aq,ar,au,ba,hn,hl,hm,aa,a4,fi,fj,hs⟩:=hI;subst hn;refine .lL [145,9] hs ?_
      cases ba with
      | nil=>
       have hk:¬ ((ar:Int)<(ab.length:Int)):=by have:=List.drop_eq_nil_iff.1 hl;omega
       have hkb:=decide_eq_false hk;rw [Zcp.eq_1] at hm;refine go ?_;refine Yf (congrArg Value.bool hkb)<|go ?_;obtain ⟨ds,hm⟩:=Zx hm;obtain ⟨dt,du,hm⟩:=bZ hm;refine lV (Yd a0 (Int.toNat ((j0:Int)+(ab.length:Int)) * 1)) (Vc underlying43 sizeOf79 rfl rfl ds.1 ds.2 (a4.addr du))<|lW (a4.atInt du)<|go ?_;obtain ⟨dv,hm⟩:=Zx hm;obtain ⟨gw,dw,hm⟩:=bZ hm;refine lV (Yd a0 (Int.toNat ((j0:Int)+(ab.length:Int)) * 1)) (Vc underlying43 sizeOf79 rfl rfl dv.1 dv.2 (a4.addr dw)) ?_;obtain ⟨cc,bj,hm⟩:=bZ hm;have bj:cc=aq.set (Int.toNat ((j0:Int)+(ab.length:Int))) (u32.wrap (dt+(u32.wrap au))):=(Option.some.inj bj).symm;refine Wb (x1:=u32.wrap (dt+(u32.wrap au))) a4 dw ?_;intro gx fk fl dx;rw [← bj] at dx;have fm:cc.length=ac.length:=(show aq.length=cc.length by rw [bj,nS]).symm.trans fj;refine Zk ?_;replace aa:=aa.kp fk fl;exact ⟨rfl,_,_,_,hm,aa,dx,fm,rfl⟩
      | cons bk fn=>
       obtain ⟨ag,fp,fq⟩:=Yw hl;have hk:(ar:Int)<(ab.length:Int):=by omega
       have hkb:=decide_eq_true hk;rw [Zcp.eq_2] at hm;refine go ?_;refine Yg (congrArg Value.bool hkb)<|go ?_;refine lI ag ((h1.ks aa).addr ag)<|lW ((h1.ks aa).atInt ag) ?_;refine go ?_;obtain ⟨dy,hm⟩:=Zx hm;obtain ⟨bm,dz,hm⟩:=bZ hm;refine lV (Yd a0 (Int.toNat ((j0:Int)+(ar:Int)) * 1)) (Vc underlying43 sizeOf79 rfl rfl dy.1 dy.2 (a4.addr dz))<|lW (a4.atInt dz)<|go ?_;obtain ⟨d0,hm⟩:=Zx hm;obtain ⟨gy,d1,hm⟩:=bZ hm;refine lV (Yd a0 (Int.toNat ((j0:Int)+(ar:Int)) * 1)) (Vc underlying43 sizeOf79 rfl rfl d0.1 d0.2 (a4.addr d1)) ?_;obtain ⟨cd,bn,hm⟩:=bZ hm;have bn:cd=aq.set (Int.toNat ((j0:Int)+(ar:Int))) (u32.wrap (u64.wrap (au+(u64.wrap ((u64.wrap bm)+(u64.wrap bk)))))):=(Option.some.inj bn).symm;refine Wb (x1:=u32.wrap (u64.wrap (au+(u64.wrap ((u64.wrap bm)+(u64.wrap bk)))))) a4 d1 ?_;intro gz fr ft d2;rw [← bn] at d2;have d3:cd.length=ac.length:=(show aq.length=cd.length by rw [bn,nS]).symm.trans fi;refine go ?_;refine lV (.int .u64 (Yn .u64 (u64.wrap (au+(u64.wrap ((u64.wrap bm)+(u64.wrap bk))))) 32)) (S0 (u64.wrap (au+(u64.wrap ((u64.wrap bm)+(u64.wrap bk))))) 32 rfl rfl (by decide))<|go ?_;replace aa:=aa.kp fr ft;exact ⟨fn.length,by simp,rfl,⟨_,_,_,_,_,rfl,fp,hm,aa,d2,d3,d3,(Y1 (congrArg (Value.int .i64) (Yy (Nat.lt_of_lt_of_le fq (h1.ks aa).1.1))) rfl)⟩⟩
     refine X9 ?_;exact ⟨rfl,_,_,_,hm,aa,b5,b6,rfl⟩
    | cons av ce=>
     obtain ⟨ag,fu,fv⟩:=Yw hl;have hk:(ai:Int)<(ab.length:Int):=by omega
     have hkb:=decide_eq_true hk;rw [Qm.eq_2] at hm;refine go ?_;refine Yg (congrArg Value.bool hkb)<|X9<|Z0 ?_;refine Wp.cutK [0,1,5,7,87,88,89,1000000] (fun f cf=>∃ cg bb ch ci,Zmk ai (Qm j0 n0 ab ad ce) bb ch ci=some r∧St w0 (Xu [qc0] col) cg cf∧Zc (Za.int .u32) 79 440 cg cf a0 ae bb∧bb.length=ac.length∧bb.length=ac.length∧[10,9].map f=[.int .u64 ch,.int .u64 ci]) ?_ ?_
     ·intro f cf hJ;obtain ⟨cg,bb,ch,ci,hm,aa,fw,fx,fy,hs⟩:=hJ;rw [Zmk.eq_1] at hm;refine .lL [10,9] hs<|go ?_;exact ⟨ce.length,by simp,rfl,⟨_,_,_,_,_,_,rfl,fu,hm,aa,fw,fx,fy,(Y1 (congrArg (Value.int .i64) (Yy (Nat.lt_of_lt_of_le fv (h1.ks aa).1.1))) rfl)⟩⟩
     refine go ?_;refine lI ag ((h1.ks aa).addr ag)<|lW ((h1.ks aa).atInt ag)<|Y8 rfl<|Y8 rfl<|Zk<|Z0<|Wk<|Xo rfl<|Xo rfl<|Xo rfl<|lV (.int .u64 (u64.wrap av)) (Zky av ⟨_,underlying79⟩ underlying193 rfl)<|lV _ (Ziv _ _ rfl rfl)<|lV _ (Qy _ _ rfl rfl)<|Y8 rfl<|Zk<|Z0<|Wk<|Xo rfl<|lV (.int .u64 (Tf .u64 (u64.wrap (aj+(u64.wrap ((u64.wrap (ad - 1)) * (u64.wrap av))))) 4294967295)) (Znl (u64.wrap (aj+(u64.wrap ((u64.wrap (ad - 1)) * (u64.wrap av))))) 4294967295 rfl rfl)<|Xo rfl<|lV _ (Qy _ _ rfl rfl)<|Y8 rfl<|Zk<|Z0<|Wk<|Y8 rfl<|Zk<|Z0 ?_;refine Wp.cutK [0,1,11,13,5,7,87,88,89,9,1000000] (fun f cj=>∃ ck cl,Zjx j0 n0 ad am a3 ai aj (Qm j0 n0 ab ad ce) av cl=some r∧St w0 (Xu [qc0] col) ck cj∧Zc (Za.int .u32) 79 440 ck cj a0 ae am∧[10].map f=[.int .u64 cl]) ?_ ?_
     ·intro f cj hJ;obtain ⟨ck,cl,hm,aa,af,hs⟩:=hJ;rw [Zjx.eq_1] at hm;refine .lL [10] hs<|go ?_;obtain ⟨d4,hm⟩:=Zx hm;obtain ⟨d5,d6,hm⟩:=bZ hm;refine lV (Yd a0 (Int.toNat ((j0:Int)+(ai:Int)) * 1)) (Vc underlying43 sizeOf79 rfl rfl d4.1 d4.2 (af.addr d6))<|lW (af.atInt d6)<|go ?_;obtain ⟨d7,hm⟩:=Zx hm;obtain ⟨g0,d8,hm⟩:=bZ hm;refine lV (Yd a0 (Int.toNat ((j0:Int)+(ai:Int)) * 1)) (Vc underlying43 sizeOf79 rfl rfl d7.1 d7.2 (af.addr d8)) ?_;obtain ⟨cn,bo,hm⟩:=bZ hm;have bo:cn=am.set (Int.toNat ((j0:Int)+(ai:Int))) (u32.wrap (d5 - (u32.wrap (u64.wrap ((Tf .u64 (u64.wrap (aj+(u64.wrap ((u64.wrap (ad - 1)) * (u64.wrap av))))) 4294967295)+a3))))):=(Option.some.inj bo).symm;refine Wb (x1:=u32.wrap (d5 - (u32.wrap (u64.wrap ((Tf .u64 (u64.wrap (aj+(u64.wrap ((u64.wrap (ad - 1)) * (u64.wrap av))))) 4294967295)+a3))))) af d8 ?_;intro g1 fz f0 d9;rw [← bo] at d9;have ea:cn.length=ac.length:=(show am.length=cn.length by rw [bo,nS]).symm.trans dj;refine go ?_;refine lV (.int .u64 (Yn .u64 (u64.wrap (aj+(u64.wrap ((u64.wrap (ad - 1)) * (u64.wrap av))))) 32)) (S0 (u64.wrap (aj+(u64.wrap ((u64.wrap (ad - 1)) * (u64.wrap av))))) 32 rfl rfl (by decide))<|go ?_;replace aa:=aa.kp fz f0;exact ⟨rfl,_,_,_,_,hm,aa,d9,ea,ea,rfl⟩
     refine go ?_;obtain ⟨eb,hm⟩:=Zx hm;obtain ⟨g2,ec,hm⟩:=bZ hm;refine lV (Yd a0 (Int.toNat ((j0:Int)+(ai:Int)) * 1)) (Vc underlying43 sizeOf79 rfl rfl eb.1 eb.2 (af.addr ec))<|lW (af.atInt ec)<|go ?_;refine Zo hm (fun hb hm=>go ?_) fun hb hm=>?_
     ·exact ⟨rfl,_,1,hm,aa,af,rfl⟩
     refine X9 ?_;exact ⟨rfl,_,0,hm,aa,af,rfl⟩
   refine X9 ?_;exact ⟨a2,by omega,rfl,⟨_,_,_,_,rfl,hm,aa,h0,rfl⟩⟩
  refine Z0 ?_;refine Wp.cutK [0,1,5,7,8,1000000] (fun f co=>∃ cp cq,Zek j0 n0 ac ab ad ap (Sn N j0 n0 ac ab a2) cq=some r∧St w0 (Xu [qc0] col) cp co∧Zc (Za.int .u32) 79 440 cp co a0 ae ac∧[74].map f=[.bool cq]) ?_ ?_
  ·intro f co hJ;obtain ⟨cp,cq,hm,aa,h0,hs⟩:=hJ;rw [Zek.eq_1] at hm;refine .lL [74] hs ?_;refine Zo hm (fun hb hm=>?_) fun hb hm=>go ?_
   ·refine X9 ?_;exact ⟨rfl,_,hm,aa,h0⟩
   refine Zw [0,1,5,7,87,88,1000000] (fun n f cr=>∃ cs an a5 ak al bc,n=bc.length∧ab.drop ak=bc∧Ub j0 n0 ab ad bc ak an a5 al=some r∧St w0 (Xu [qc0] col) cs cr∧Zc (Za.int .u32) 79 440 cs cr a0 ae an∧an.length=ac.length∧an.length=ac.length∧[89,10,9].map f=[.int .i64 ak,.int .u64 a5,.int .u64 al]) ab.length ⟨_,_,0,0,0,_,rfl,rfl,hm,aa,h0,rfl,rfl,rfl⟩ ?_;clear hm;intro n f cr hI;obtain ⟨cs,an,a5,ak,al,bc,hn,hl,hm,aa,ah,ed,g3,hs⟩:=hI;subst hn;refine .lL [89,10,9] hs ?_
   cases bc with
   | nil=>
    have hk:¬ ((ak:Int)<(ab.length:Int)):=by have:=List.drop_eq_nil_iff.1 hl;omega
    have hkb:=decide_eq_false hk;rw [Ub.eq_1] at hm;refine go ?_;refine Yf (congrArg Value.bool hkb)<|go ?_;obtain ⟨ee,hm⟩:=Zx hm;obtain ⟨g4,ef,hm⟩:=bZ hm;refine lV (Yd a0 (Int.toNat ((j0:Int)+(ab.length:Int)) * 1)) (Vc underlying43 sizeOf79 rfl rfl ee.1 ee.2 (ah.addr ef))<|lW (ah.atInt ef)<|go ?_;obtain ⟨eg,hm⟩:=Zx hm;obtain ⟨eh,ei,hm⟩:=bZ hm;refine lV (Yd a0 (Int.toNat ((j0:Int)+(ab.length:Int)) * 1)) (Vc underlying43 sizeOf79 rfl rfl eg.1 eg.2 (ah.addr ei))<|lW (ah.atInt ei)<|go ?_;obtain ⟨ej,hm⟩:=Zx hm;obtain ⟨g5,ek,hm⟩:=bZ hm;refine lV (Yd a0 (Int.toNat ((j0:Int)+(ab.length:Int)) * 1)) (Vc underlying43 sizeOf79 rfl rfl ej.1 ej.2 (ah.addr ek)) ?_;obtain ⟨ct,bp,hm⟩:=bZ hm;have bp:ct=an.set (Int.toNat ((j0:Int)+(ab.length:Int))) (u32.wrap (eh - (u32.wrap (u64.wrap (al+a5))))):=(Option.some.inj bp).symm;refine Wb (x1:=u32.wrap (eh - (u32.wrap (u64.wrap (al+a5))))) ah ek ?_;intro g6 f1 f2 cu;rw [← bp] at cu;have cv:ct.length=ac.length:=(show an.length=ct.length by rw [bp,nS]).symm.trans ed;refine Zk<|Z0 ?_;replace aa:=aa.kp f1 f2;refine Wp.cutK [1000000] (fun f cw=>∃ cx cy bq,Zbd cy bq=some r∧St w0 (Xu [qc0] col) cx cw∧Zc (Za.int .u32) 79 440 cx cw a0 ae bq∧bq.length=ac.length∧[7].map f=[.int .u64 cy]) ?_ ?_
    ·intro f cw hJ;obtain ⟨cx,cy,bq,hm,aa,f3,f4,hs⟩:=hJ;rw [Zbd.eq_1] at hm;refine .lL [7] hs<|go ?_;cases hm;exact ⟨rfl,_,rfl,aa.finL rfl (cm [(440,qc0)]),aa.foL f3,f4⟩
    refine go ?_;refine Zo hm (fun hb hm=>go ?_) fun hb hm=>?_
    ·refine Zw [0,143,144,5,7,1000000] (fun n f cz=>∃ c0 aw ax ay bd,n=bd.length∧ab.drop ax=bd∧Tx j0 n0 ab ad bd ax aw ay=some r∧St w0 (Xu [qc0] col) c0 cz∧Zc (Za.int .u32) 79 440 c0 cz a0 ae aw∧aw.length=ac.length∧aw.length=ac.length∧[145,9].map f=[.int .i64 ax,.int .u64 ay]) ab.length ⟨_,_,0,0,_,rfl,rfl,hm,aa,cu,cv,cv,rfl⟩ ?_;clear hm;intro n f cz hI;obtain ⟨c0,aw,ax,ay,bd,hn,hl,hm,aa,a6,f5,f6,hs⟩:=hI;subst hn;refine .lL [145,9] hs ?_
     cases bd with
     | nil=>
      have hk:¬ ((ax:Int)<(ab.length:Int)):=by have:=List.drop_eq_nil_iff.1 hl;omega
      have hkb:=decide_eq_false hk;rw [Tx.eq_1] at hm;refine go ?_;refine Yf (congrArg Value.bool hkb)<|go ?_;obtain ⟨el,hm⟩:=Zx hm;obtain ⟨em,en,hm⟩:=bZ hm;refine lV (Yd a0 (Int.toNat ((j0:Int)+(ab.length:Int)) * 1)) (Vc underlying43 sizeOf79 rfl rfl el.1 el.2 (a6.addr en))<|lW (a6.atInt en)<|go ?_;obtain ⟨eo,hm⟩:=Zx hm;obtain ⟨g7,ep,hm⟩:=bZ hm;refine lV (Yd a0 (Int.toNat ((j0:Int)+(ab.length:Int)) * 1)) (Vc underlying43 sizeOf79 rfl rfl eo.1 eo.2 (a6.addr ep)) ?_;obtain ⟨c1,br,hm⟩:=bZ hm;have br:c1=aw.set (Int.toNat ((j0:Int)+(ab.length:Int))) (u32.wrap (em+(u32.wrap ay))):=(Option.some.inj br).symm;refine Wb (x1:=u32.wrap (em+(u32.wrap ay))) a6 ep ?_;intro g8 f7 f8 eq;rw [← br] at eq;have f9:c1.length=ac.length:=(show aw.length=c1.length by rw [br,nS]).symm.trans f6;refine Zk ?_;replace aa:=aa.kp f7 f8;exact ⟨rfl,_,_,_,hm,aa,eq,f9,rfl⟩
     | cons bs ga=>
      obtain ⟨ag,gb,gc⟩:=Yw hl;have hk:(ax:Int)<(ab.length:Int):=by omega
      have hkb:=decide_eq_true hk;rw [Tx.eq_2] at hm;refine go ?_;refine Yg (congrArg Value.bool hkb)<|go ?_;refine lI ag ((h1.ks aa).addr ag)<|lW ((h1.ks aa).atInt ag) ?_;refine go ?_;obtain ⟨er,hm⟩:=Zx hm;obtain ⟨bt,es,hm⟩:=bZ hm;refine lV (Yd a0 (Int.toNat ((j0:Int)+(ax:Int)) * 1)) (Vc underlying43 sizeOf79 rfl rfl er.1 er.2 (a6.addr es))<|lW (a6.atInt es)<|go ?_;obtain ⟨et,hm⟩:=Zx hm;obtain ⟨g9,eu,hm⟩:=bZ hm;refine lV (Yd a0 (Int.toNat ((j0:Int)+(ax:Int)) * 1)) (Vc underlying43 sizeOf79 rfl rfl et.1 et.2 (a6.addr eu)) ?_;obtain ⟨c2,bu,hm⟩:=bZ hm;have bu:c2=aw.set (Int.toNat ((j0:Int)+(ax:Int))) (u32.wrap (u64.wrap (ay+(u64.wrap ((u64.wrap bt)+(u64.wrap bs)))))):=(Option.some.inj bu).symm;refine Wb (x1:=u32.wrap (u64.wrap (ay+(u64.wrap ((u64.wrap bt)+(u64.wrap bs)))))) a6 eu ?_;intro ha gd ge ew;rw [← bu] at ew;have ey:c2.length=ac.length:=(show aw.length=c2.length by rw [bu,nS]).symm.trans f5;refine go ?_;refine lV (.int .u64 (Yn .u64 (u64.wrap (ay+(u64.wrap ((u64.wrap bt)+(u64.wrap bs))))) 32)) (S0 (u64.wrap (ay+(u64.wrap ((u64.wrap bt)+(u64.wrap bs))))) 32 rfl rfl (by decide))<|go ?_;replace aa:=aa.kp gd ge;exact ⟨ga.length,by simp,rfl,⟨_,_,_,_,_,rfl,gb,hm,aa,ew,ey,ey,(Y1 (congrArg (Value.int .i64) (Yy (Nat.lt_of_lt_of_le gc (h1.ks aa).1.1))) rfl)⟩⟩
    refine X9 ?_;exact ⟨rfl,_,_,_,hm,aa,cu,cv,rfl⟩
   | cons az c3=>
    obtain ⟨ag,gf,gg⟩:=Yw hl;have hk:(ak:Int)<(ab.length:Int):=by omega
    have hkb:=decide_eq_true hk;rw [Ub.eq_2] at hm;refine go ?_;refine Yg (congrArg Value.bool hkb)<|X9<|Z0 ?_;refine Wp.cutK [0,1,5,7,87,88,89,1000000] (fun f c4=>∃ c5 be c6 c7,Zjy ak (Ub j0 n0 ab ad c3) be c6 c7=some r∧St w0 (Xu [qc0] col) c5 c4∧Zc (Za.int .u32) 79 440 c5 c4 a0 ae be∧be.length=ac.length∧be.length=ac.length∧[10,9].map f=[.int .u64 c6,.int .u64 c7]) ?_ ?_
    ·intro f c4 hJ;obtain ⟨c5,be,c6,c7,hm,aa,gh,gi,gj,hs⟩:=hJ;rw [Zjy.eq_1] at hm;refine .lL [10,9] hs<|go ?_;exact ⟨c3.length,by simp,rfl,⟨_,_,_,_,_,_,rfl,gf,hm,aa,gh,gi,gj,(Y1 (congrArg (Value.int .i64) (Yy (Nat.lt_of_lt_of_le gg (h1.ks aa).1.1))) rfl)⟩⟩
    refine go ?_;refine lI ag ((h1.ks aa).addr ag)<|lW ((h1.ks aa).atInt ag)<|Y8 rfl<|Y8 rfl<|Zk<|Z0<|Wk<|Xo rfl<|Xo rfl<|Xo rfl<|lV (.int .u64 (u64.wrap az)) (Zky az ⟨_,underlying79⟩ underlying193 rfl)<|lV _ (Ziv _ _ rfl rfl)<|lV _ (Qy _ _ rfl rfl)<|Y8 rfl<|Zk<|Z0<|Wk<|Xo rfl<|lV (.int .u64 (Tf .u64 (u64.wrap (al+(u64.wrap (ad * (u64.wrap az))))) 4294967295)) (Znl (u64.wrap (al+(u64.wrap (ad * (u64.wrap az))))) 4294967295 rfl rfl)<|Xo rfl<|lV _ (Qy _ _ rfl rfl)<|Y8 rfl<|Zk<|Z0<|Wk<|Y8 rfl<|Zk<|Z0 ?_;refine Wp.cutK [0,1,11,13,5,7,87,88,89,9,1000000] (fun f c8=>∃ c9 da,Zel j0 n0 ad an a5 ak al (Ub j0 n0 ab ad c3) az da=some r∧St w0 (Xu [qc0] col) c9 c8∧Zc (Za.int .u32) 79 440 c9 c8 a0 ae an∧[10].map f=[.int .u64 da]) ?_ ?_
    ·intro f c8 hJ;obtain ⟨c9,da,hm,aa,ah,hs⟩:=hJ;rw [Zel.eq_1] at hm;refine .lL [10] hs<|go ?_;obtain ⟨ez,hm⟩:=Zx hm;obtain ⟨e0,e1,hm⟩:=bZ hm;refine lV (Yd a0 (Int.toNat ((j0:Int)+(ak:Int)) * 1)) (Vc underlying43 sizeOf79 rfl rfl ez.1 ez.2 (ah.addr e1))<|lW (ah.atInt e1)<|go ?_;obtain ⟨e2,hm⟩:=Zx hm;obtain ⟨hc,e3,hm⟩:=bZ hm;refine lV (Yd a0 (Int.toNat ((j0:Int)+(ak:Int)) * 1)) (Vc underlying43 sizeOf79 rfl rfl e2.1 e2.2 (ah.addr e3)) ?_;obtain ⟨db,bv,hm⟩:=bZ hm;have bv:db=an.set (Int.toNat ((j0:Int)+(ak:Int))) (u32.wrap (e0 - (u32.wrap (u64.wrap ((Tf .u64 (u64.wrap (al+(u64.wrap (ad * (u64.wrap az))))) 4294967295)+a5))))):=(Option.some.inj bv).symm;refine Wb (x1:=u32.wrap (e0 - (u32.wrap (u64.wrap ((Tf .u64 (u64.wrap (al+(u64.wrap (ad * (u64.wrap az))))) 4294967295)+a5))))) ah e3 ?_;intro he gk gl e4;rw [← bv] at e4;have e5:db.length=ac.length:=(show an.length=db.length by rw [bv,nS]).symm.trans ed;refine go ?_;refine lV (.int .u64 (Yn .u64 (u64.wrap (al+(u64.wrap (ad * (u64.wrap az))))) 32)) (S0 (u64.wrap (al+(u64.wrap (ad * (u64.wrap az))))) 32 rfl rfl (by decide))<|go ?_;replace aa:=aa.kp gk gl;exact ⟨rfl,_,_,_,_,hm,aa,e4,e5,e5,rfl⟩
    refine go ?_;obtain ⟨e6,hm⟩:=Zx hm;obtain ⟨hf,e7,hm⟩:=bZ hm;refine lV (Yd a0 (Int.toNat ((j0:Int)+(ak:Int)) * 1)) (Vc underlying43 sizeOf79 rfl rfl e6.1 e6.2 (ah.addr e7))<|lW (ah.atInt e7)<|go ?_;refine Zo hm (fun hb hm=>go ?_) fun hb hm=>?_
    ·exact ⟨rfl,_,1,hm,aa,ah,rfl⟩
    refine X9 ?_;exact ⟨rfl,_,0,hm,aa,ah,rfl⟩
  refine Wd (col:=ao) (by kernel_rfl) (by kernel_rfl)<|go ?_;refine Xt hm (fun bw hm=>go ?_) fun bw hm=>go ?_
  ·refine Ue 54 rfl rfl rfl rfl<|Ue 54 rfl rfl rfl rfl<|Ue 54 rfl rfl rfl rfl<|Ue 54 rfl rfl rfl rfl<|Ue 54 rfl rfl rfl rfl<|Ue 54 rfl rfl rfl rfl<|Ue 54 rfl rfl rfl rfl<|Ue 54 rfl rfl rfl rfl<|Ue 54 rfl rfl rfl rfl<|Ue 54 rfl rfl rfl rfl<|Ue 54 rfl rfl rfl rfl<|Ue 54 rfl rfl rfl rfl<|Ue 54 rfl rfl rfl rfl<|Ue 54 rfl rfl rfl rfl<|Ue 54 rfl rfl rfl rfl<|Ue 54 rfl rfl rfl rfl<|Ue 54 rfl rfl rfl rfl<|Ue 54 rfl rfl rfl rfl<|go ?_;refine qv (v:=(.bool true)) rfl (fun _ hC=>Xb (congrArg Value.bool bw) rfl) ?_;refine X7 ?_;intro hg hC;replace hC:=hC.bl ao;replace h0:=h0.gr hC;replace aa:=aa.grow hC;exact ⟨rfl,_,_,hm,aa,h0,rfl⟩
  refine Xt hm (fun dc hm=>go ?_) fun dc hm=>go ?_
  ·obtain ⟨e8,dd,hm⟩:=bZ hm;refine qI dd ((h1.ks aa).addr dd) ?_;refine go ?_;refine qW (fun _ hC=>((h1.ks aa).gr (hC.bl ao)).atInt dd) ?_;refine go ?_;refine qv (v:=(.int .u64 (X6 .u64 ap 32))) rfl (fun _ hC=>Zf4 ap 32 rfl rfl (by decide)) ?_;refine go ?_;obtain ⟨e9,hm⟩:=Zx hm;obtain ⟨fa,fb,hm⟩:=bZ hm;refine qv (v:=(Yd a0 (Int.toNat ((j0:Int)+(i64.wrap ((ab.length:Int) - 2))) * 1))) rfl (fun _ hC=>Vc underlying43 sizeOf79 rfl rfl e9.1 e9.2 (h0.addr fb)) ?_;refine go ?_;refine qW (fun _ hC=>(h0.gr (hC.bl ao)).atInt fb) ?_;refine go ?_;refine qv (v:=(.bool (decide ((Y7 .u64 (X6 .u64 ap 32) (u64.wrap fa))<(u64.wrap (ad * (u64.wrap e8))))))) rfl (fun _ hC=>Xb (congrArg Value.bool dc) rfl) ?_;refine qv (v:=(.bool (decide ((Y7 .u64 (X6 .u64 ap 32) (u64.wrap fa))<(u64.wrap (ad * (u64.wrap e8))))))) rfl (fun _ hC=>Xm (congrArg Value.bool bw) rfl) ?_;refine X7 ?_;intro hh hC;replace hC:=hC.bl ao;replace h0:=h0.gr hC;replace aa:=aa.grow hC;exact ⟨rfl,_,_,hm,aa,h0,rfl⟩
  refine qv (v:=(.bool false)) rfl (fun _ hC=>Xm (congrArg Value.bool dc) rfl) ?_;refine qv (v:=(.bool false)) rfl (fun _ hC=>Xm (congrArg Value.bool bw) rfl) ?_;refine X7 ?_;intro hi hC;replace hC:=hC.bl ao;replace h0:=h0.gr hC;replace aa:=aa.grow hC;exact ⟨rfl,_,_,hm,aa,h0,rfl⟩
def Zmj (aa:Int) (kk_L2:(List Int→Int→Option Re)) (ab:List Int):Option Re:=
  kk_L2 ab (i64.wrap (aa+1))
def Zhf (ab:Int) (ac:List Int) (aa:Int) (kk_L2:(List Int→Int→Option Re)) (ad:Int):Option Re:=
  (Zj ac aa).bind fun ae=>Zv (0≤ab) ((some (ac.set (Int.toNat aa) (u32.wrap (Yn .u64 (Y7 .u64 (X6 .u64 (u64.wrap ad) 32) (u64.wrap ae)) ab)))).bind fun af=>Zmj aa kk_L2 af)
def Sm (N:Nat) (ac:Int) (ad:List Int) (ae:List Int):Nat→R2→Int→Option Re
  | 0,_,_=>none
  | af+1,aa,ab=>if (decide (ab<(ae.length:Int)))=true then (if (decide ((i64.wrap (ab+1))<(aa.length:Int)))=true then ((Zj aa (i64.wrap (ab+1))).bind fun ag=>Zhf ac aa ab (Sm N ac ad ae af) ag) else (Zhf ac aa ab (Sm N ac ad ae af) 0)) else ((Uv N ad).bind fun ah=>(Uv N aa).bind fun ai=>some (ah,ai,0))
termination_by structural x=>x
def Zei (N:Nat) (ae:Int) (ab:List Int):Nat→R2→R2→Int→Option Re
  | 0,_,_,_=>none
  | ah+1,ac,ad,aa=>if (decide (0≤aa))=true then (Zv ((0:Int)≤aa∧aa<(i64.wrap ((i64.wrap (aa+(ab.length:Int)))+1))∧(i64.wrap ((i64.wrap (aa+(ab.length:Int)))+1))≤(ac.length:Int)) ((Zhh N (Int.toNat aa) ((Int.toNat (i64.wrap ((i64.wrap (aa+(ab.length:Int)))+1))) - (Int.toNat aa)) ac ab).bind fun af=>(Zj ad aa).bind fun aj=>(some (ad.set (Int.toNat aa) af.1)).bind fun ai=>(Zei N ae ab ah) af.2 ai (i64.wrap (aa - 1)))) else ((Zen N ac).bind fun ag=>Sm N ae ad ag N ag 0)
termination_by structural x=>x
def Zeh (N:Nat) (ae:List Int) (af:List Int):Option Re:=
  (Uw N ae).bind fun ab=>(Uw N af).bind fun aa=>if (decide ((aa.length:Int)=0))=true then (some (([]:List Int),([]:List Int),11)) else ((Zef N ab aa).bind fun ag=>if (decide (ag<0))=true then ((Uv N ab).bind fun ah=>some (([]:List Int),ah,0)) else (if (decide ((aa.length:Int)=1))=true then ((Zfw ab).bind fun ai=>(Zj aa 0).bind fun aj=>(Zjz N ai aj).bind fun ad=>(Uv N ad.2).bind fun ak=>(Uv N [ad.1]).bind fun al=>some (ak,al,0)) else ((Zj aa (i64.wrap ((aa.length:Int) - 1))).bind fun am=>(Zjp am).bind fun ac=>(Zhi ab ac).bind fun an=>(Zhi aa ac).bind fun ao=>(Zen N ao).bind fun ap=>Zv ((Int.toNat (i64.wrap ((i64.wrap ((ab.length:Int) - (aa.length:Int)))+1))) * 4≤281474976710656∧(Int.toNat (i64.wrap ((i64.wrap ((ab.length:Int) - (aa.length:Int)))+1)))≤maxLen∧0≤(i64.wrap ((i64.wrap ((ab.length:Int) - (aa.length:Int)))+1))) (Zei N ac ap N an (List.replicate (Int.toNat (i64.wrap ((i64.wrap ((ab.length:Int) - (aa.length:Int)))+1))) (0:Int)) (i64.wrap (((List.replicate (Int.toNat (i64.wrap ((i64.wrap ((ab.length:Int) - (aa.length:Int)))+1))) (0:Int)).length:Int) - 1))))))
theorem Zoj {N bu bv:Nat} {a0 a1:Option Addr} {col:Zd} {w0:World} {be bf:R2} {r:Re} (c1 c2:Nat) (hm:Zeh N be bf=some r) (h0:Sl (Za.int .u32) col w0 a0 bu be) (h1:Sl (Za.int .u32) col w0 a1 bv bf):
    Calls prog 260 #[.slice a0 be.length bu,.slice a1 bf.length bv] w0 (fun e w'=>∃ (col':Zd) (ra1:Option Addr) (rc2:Nat) (ra4:Option Addr) (rc5:Nat),e= .returned (.tuple #[.slice ra1 r.1.length rc2,.slice ra4 r.2.1.length rc5,.int .i64 r.2.2])∧Zg col w0 col' w'∧Zc (Za.int .u32) 79 c1 col' w' ra1 rc2 r.1∧Zc (Za.int .u32) 79 c2 col' w' ra4 rc5 r.2.1):=by
 refine Zr0 4 5 6 (m:=122) (args:=[.slice a0 be.length bu,.slice a1 bf.length bv]) func260 rfl rfl rfl rfl rfl ?_;rw [Zeh.eq_1] at hm;have aa:=St.start col w0;refine go ?_;obtain ⟨cx,cy,hm⟩:=bZ hm;replace h0:=h0.keep (Zf.start col w0);refine Zi (Sb cy (h0.ks aa)) ?_;rintro _ ea ⟨eb,ec,ed,rfl,cz,af⟩;refine ⟨_,rfl,?_⟩;refine Yr rfl ?_;obtain ⟨c0,c3,hm⟩:=bZ hm;replace h1:=h1.keep (Zf.start col w0);replace aa:=aa.grow cz;refine Zi (Sb c3 (h1.ks aa)) ?_;rintro _ c4 ⟨ay,ee,ef,rfl,cj,ac⟩;refine ⟨_,rfl,go ?_⟩;replace af:=af.gr cj;replace aa:=aa.grow cj;refine Zo hm (fun hb hm=>go ?_) fun hb hm=>go ?_
 ·cases hm;exact ⟨rfl,_,none,0,none,0,rfl,aa.fin (cm []),Zc.nil,Zc.nil⟩
 obtain ⟨eg,c5,hm⟩:=bZ hm;refine Zi (Zoi c5 af ac) ?_;rintro _ ck ⟨rfl,az⟩;refine ⟨_,rfl,?_⟩;replace az:Zg ay c4 ay ck:=.of_below az;refine go ?_;replace af:=af.gr az;replace ac:=ac.gr az;replace aa:=aa.grow az;refine Zo hm (fun hb hm=>go ?_) fun hb hm=>go ?_
 ·obtain ⟨eh,c6,hm⟩:=bZ hm;refine Zi (Sa 1 c6 af) ?_;rintro _ ei ⟨ej,ek,el,rfl,c7,c8⟩;refine ⟨_,rfl,go ?_⟩;cases hm;replace aa:=aa.grow c7;exact ⟨rfl,_,none,0,_,_,rfl,aa.fin (cm [(1,c2)]),Zc.nil,aa.fo c8⟩
 refine Zo hm (fun hb hm=>go ?_) fun hb hm=>go ?_
 ·obtain ⟨cl,c9,hm⟩:=bZ hm;refine Zi (Zor 2 c9 af) ?_;rintro _ em ⟨en,bg,bh,rfl,cn,da⟩;refine ⟨_,rfl,go ?_⟩;obtain ⟨eo,bw,hm⟩:=bZ hm;replace ac:=ac.gr cn;refine lI bw (ac.addr bw)<|lW (ac.atInt bw) ?_;obtain ⟨a2,db,hm⟩:=bZ hm;refine Zi (Z01 2 db rfl da) ?_;rintro _ dc ⟨bx,rfl,dd,de,co⟩;refine ⟨_,rfl,?_⟩;refine .ld (d:=7) (v:=(.slice bg a2.2.length bh)) (congrArg (fun n=>Value.slice bg n bh) (show cl.length=a2.2.length from co.symm)) ?_;refine .ld (d:=34) (v:=(.slice bg a2.2.length bh)) (congrArg (fun n=>Value.slice bg n bh) (show cl.length=a2.2.length from co.symm)) ?_;refine go ?_;obtain ⟨ep,df,hm⟩:=bZ hm;refine Zi (Sa 3 df (de.toSlF (Zn.int .u32))) ?_;rintro _ eq ⟨dg,er,es,rfl,bi,a3⟩;refine ⟨_,rfl,?_⟩;replace a3:=a3.thaw (Z3 .u32) bi ((Fz.refl (col:=bx)).froz 2) (by decide);replace bi:=bi.thawR (col:=bx);generalize Xf dc.heap.size bx dg=dh at *;refine Xo rfl<|W1 (col:=dh) [a2.1] 4 ?_;intro et di bz cp dj;obtain ⟨eu,dk,hm⟩:=bZ hm;refine Zi (Sa 5 dk (dj.toSlF (Zn.int .u32))) ?_;rintro _ ew ⟨dl,ey,ez,rfl,a4,b0⟩;refine ⟨_,rfl,?_⟩;replace b0:=b0.thaw (Z3 .u32) a4 ((Fz.refl (col:=bz)).froz 4) (by decide);replace a4:=a4.thawR (col:=bz);generalize Xf di.heap.size bz dl=e0 at *;refine go ?_;cases hm;replace aa:=((((aa.grow cn).kpp dd).grow bi).grow cp).grow a4;replace a3:=(a3.gr cp).gr a4;exact ⟨rfl,_,_,_,_,_,rfl,aa.fin (cm [(3,c1),(5,c2)]),aa.fo a3,aa.fo b0⟩
 obtain ⟨e1,b1,hm⟩:=bZ hm;refine lI b1 (ac.addr b1)<|lW (ac.atInt b1) ?_;obtain ⟨ah,dm,hm⟩:=bZ hm;refine Zi (Z0o (col:=ay) dm) ?_;rintro _ dn ⟨rfl,a5⟩;refine ⟨_,rfl,?_⟩;replace a5:Zg ay ck ay dn:=.of_below a5;refine go ?_;obtain ⟨e2,dp,hm⟩:=bZ hm;replace af:=af.gr a5;refine Zi (Zrf 6 dp af) ?_;rintro _ e3 ⟨e4,e5,e6,rfl,cq,a6⟩;refine ⟨_,rfl,go ?_⟩;obtain ⟨e7,dq,hm⟩:=bZ hm;replace ac:=(ac.gr a5).gr cq;refine Zi (Zrf 7 dq ac) ?_;rintro _ e8 ⟨e9,fa,fb,rfl,cr,dr⟩;refine ⟨_,rfl,?_⟩;obtain ⟨b2,ds,hm⟩:=bZ hm;refine Zi (Zrg 7 ds rfl dr) ?_;rintro _ dt ⟨du,dv,dw,rfl,cs,ag⟩;refine ⟨_,rfl,go ?_⟩;obtain ⟨bj,hm⟩:=Zx hm;refine Sf (col:=du) (w:=dt) (r:=(Za.int .u32)) (n:=(Int.toNat (i64.wrap ((i64.wrap ((cx.length:Int) - (c0.length:Int)))+1)))) (x0:=0) 8 rfl underlying43 Tryz.t79 rfl rfl rfl rfl rfl (congrArg (Value.int _) (Int.toNat_of_nonneg bj.2.2).symm) (congrArg (Value.int _) (Int.toNat_of_nonneg bj.2.2).symm) bj.1 bj.2.1 (Uf .u32 0) ?_;intro fc fd fe b3 b4;refine go ?_;replace a6:=((a6.gr cr).kpp cs).gr b3;replace a6:=a6.froz 7 (by decide);replace ag:=ag.gr b3;replace ag:=(ag).toSlF (Zn.int .u32);replace b4:=b4.froz 7 (by decide);replace aa:=((((aa.grow a5).grow cq).grow cr).kpp cs).grow b3;replace aa:=aa.froz 7 (by decide) (by decide);refine Zw [11,9,1000000] (fun n f a7=>∃ a8 ap aq a9 aj ak ad al ar,ar=n∧Zei N ah b2 ar a9 ad al=some r∧St w0 (Zh col) a8 a7∧Zc (Za.int .u32) 79 6 a8 a7 ap aq a9∧Sl (Za.int .u32) a8 a7 dv dw b2∧Zc (Za.int .u32) 79 8 a8 a7 aj ak ad∧[10,12,13].map f=[.slice ap a9.length aq,.slice aj ad.length ak,.int .i64 al]) N ⟨_,_,_,_,_,_,_,_,_,rfl,hm,aa,a6,ag,b4,rfl⟩ ?_;clear hm;intro n f a7 hI;obtain ⟨a8,ap,aq,a9,aj,ak,ad,al,ar,hn,hm,aa,b5,ag,ab,hs⟩:=hI;subst hn;refine .lL [10,12,13] hs ?_
 cases ar with
 | zero=>rw [Zei.eq_1] at hm;cases hm
 | succ ar=>
  rw [Zei.eq_2] at hm;refine go ?_;refine Zo hm (fun hb hm=>go ?_) fun hb hm=>go ?_
  ·obtain ⟨b6,hm⟩:=Zx hm;refine lV (.slice (ap.map (·.add ((Int.toNat al) * 1))) ((Int.toNat (i64.wrap ((i64.wrap (al+(b2.length:Int)))+1))) - (Int.toNat al)) (aq - (Int.toNat al))) (Z51 underlying43 sizeOf79 rfl rfl rfl b6.1 b6.2.1 (by have:=b5.lecap;have:=b6.2.2;omega))<|Yr rfl ?_;obtain ⟨bk,dx,hm⟩:=bZ hm;refine Zi (Z0z 6 dx rfl b5 ag) ?_;rintro _ ff ⟨fg,rfl,b7,b8,dy⟩;refine ⟨_,rfl,?_⟩;refine .ld (d:=10) (v:=(.slice ap bk.2.length aq)) (congrArg (fun n=>Value.slice ap n aq) (show a9.length=bk.2.length from dy.symm)) ?_;obtain ⟨fh,b9,hm⟩:=bZ hm;replace ab:=ab.kpp b7;refine lI b9 (ab.addr b9) ?_;obtain ⟨ca,bm,hm⟩:=bZ hm;have bm:ca=ad.set (Int.toNat al) bk.1:=(Option.some.inj bm).symm;refine Wb (x1:=bk.1) ab b9 ?_;intro fi cb dz ct;rw [← bm] at ct;refine .ld (d:=12) (v:=(.slice aj ca.length ak)) (congrArg (fun n=>Value.slice aj n ak) (show ad.length=ca.length by rw [bm,nS])) ?_;refine go ?_;replace ag:=(ag.kpp b7).kp cb;replace aa:=(aa.kpp b7).kp cb dz;replace b8:=b8.kp cb;exact ⟨ar,by omega,rfl,⟨_,_,_,_,_,_,_,_,_,rfl,hm,aa,b8,ag,ct,rfl⟩⟩
  obtain ⟨cc,d0,hm⟩:=bZ hm;refine Zi (Zrg 6 d0 rfl b5) ?_;rintro _ fj ⟨fk,fl,fm,rfl,cu,d1⟩;refine ⟨_,rfl,go ?_⟩;replace ab:=ab.kpp cu;replace aa:=aa.kpp cu;refine Zw [12,88,9,1000000] (fun n f ba=>∃ ao au av am aw an,an=n∧Sm N ah ad cc an am aw=some r∧St w0 (Zh col) ao ba∧Zc (Za.int .u32) 79 6 ao ba au av am∧Zc (Za.int .u32) 79 8 ao ba aj ak ad∧[10,89].map f=[.slice au am.length av,.int .i64 aw]) N ⟨_,_,_,_,0,_,rfl,hm,aa,d1,ab,rfl⟩ ?_;clear hm;intro n f ba hI;obtain ⟨ao,au,av,am,aw,an,hn,hm,aa,ae,ab,hs⟩:=hI;subst hn;refine .lL [10,89] hs ?_
  cases an with
  | zero=>rw [Sm.eq_1] at hm;cases hm
  | succ an=>
   rw [Sm.eq_2] at hm;refine go ?_;refine Zo hm (fun hb hm=>?_) fun hb hm=>go ?_
   ·refine X9<|Z0 ?_;refine Wp.cutK [12,88,89,9,1000000] (fun f bn=>∃ bo cd ce bp,Zmj aw (Sm N ah ad cc an) bp=some r∧St w0 (Zh col) bo bn∧Zc (Za.int .u32) 79 6 bo bn cd ce bp∧Zc (Za.int .u32) 79 8 bo bn aj ak ad∧[10].map f=[.slice cd bp.length ce]) ?_ ?_
    ·intro f bn hJ;obtain ⟨bo,cd,ce,bp,hm,aa,d2,ab,hs⟩:=hJ;rw [Zmj.eq_1] at hm;refine .lL [10] hs<|go ?_;exact ⟨an,by omega,rfl,⟨_,_,_,_,_,_,rfl,hm,aa,d2,ab,rfl⟩⟩
    refine Ziz<|Z0<|Wk<|Xo rfl<|Y8 rfl<|Zk<|Z0<|Wk<|Y8 rfl<|Zk<|Z0 ?_;refine Wp.cutK [10,12,14,88,89,9,1000000] (fun f bq=>∃ br ai,Zhf ah am aw (Sm N ah ad cc an) ai=some r∧St w0 (Zh col) br bq∧Zc (Za.int .u32) 79 6 br bq au av am∧Zc (Za.int .u32) 79 8 br bq aj ak ad∧[15].map f=[.int .u32 ai]) ?_ ?_
    ·intro f bq hJ;obtain ⟨br,ai,hm,aa,ae,ab,hs⟩:=hJ;rw [Zhf.eq_1] at hm;refine .lL [15] hs<|go ?_;refine lV (.int .u64 (X6 .u64 (u64.wrap ai) 32)) (Zf4 (u64.wrap ai) 32 rfl rfl (by decide))<|go ?_;obtain ⟨bs,ax,hm⟩:=bZ hm;refine lI ax (ae.addr ax)<|lW (ae.atInt ax) ?_;refine go ?_;obtain ⟨d3,hm⟩:=Zx hm;refine lV (.int .u64 (Yn .u64 (Y7 .u64 (X6 .u64 (u64.wrap ai) 32) (u64.wrap bs)) ah)) (S0 (Y7 .u64 (X6 .u64 (u64.wrap ai) 32) (u64.wrap bs)) ah rfl rfl d3)<|go ?_;refine lI ax (ae.addr ax) ?_;obtain ⟨cf,bt,hm⟩:=bZ hm;have bt:cf=am.set (Int.toNat aw) (u32.wrap (Yn .u64 (Y7 .u64 (X6 .u64 (u64.wrap ai) 32) (u64.wrap bs)) ah)):=(Option.some.inj bt).symm;refine Wb (x1:=u32.wrap (Yn .u64 (Y7 .u64 (X6 .u64 (u64.wrap ai) 32) (u64.wrap bs)) ah)) ae ax ?_;intro fn cv d4 cw;rw [← bt] at cw;refine .ld (d:=10) (v:=(.slice au cf.length av)) (congrArg (fun n=>Value.slice au n av) (show am.length=cf.length by rw [bt,nS])) ?_;refine Zk ?_;replace ab:=ab.kp cv;replace aa:=aa.kp cv d4;exact ⟨rfl,_,_,_,_,hm,aa,cw,ab,rfl⟩
    refine go ?_;refine Zo hm (fun hb hm=>go ?_) fun hb hm=>?_
    ·obtain ⟨fp,cg,hm⟩:=bZ hm;refine lI cg (ae.addr cg)<|lW (ae.atInt cg) ?_;refine go ?_;exact ⟨rfl,_,_,hm,aa,ae,ab,rfl⟩
    refine X9 ?_;exact ⟨rfl,_,0,hm,aa,ae,ab,rfl⟩
   obtain ⟨fq,d5,hm⟩:=bZ hm;refine Zi (Sa 9 d5 (ab.toSlF (Zn.int .u32))) ?_;rintro _ d6 ⟨d7,fr,ft,rfl,bb,bc⟩;refine ⟨_,rfl,?_⟩;replace bc:=bc.thaw (Z3 .u32) bb ((Fz.refl (col:=ao)).froz 8) (by decide);replace bb:=bb.thawR (col:=ao);generalize Xf ba.heap.size ao d7=ch at *;refine Yr rfl ?_;obtain ⟨fu,d8,hm⟩:=bZ hm;replace ae:=ae.gr bb;refine Zi (Sa 10 d8 (ae.toSlF (Zn.int .u32))) ?_;rintro _ fv ⟨d9,fw,fx,rfl,bd,ci⟩;refine ⟨_,rfl,?_⟩;replace ci:=ci.thaw (Z3 .u32) bd ((Fz.refl (col:=ch)).froz 6) (by decide);replace bd:=bd.thawR (col:=ch);generalize Xf d6.heap.size ch d9=fy at *;refine go ?_;cases hm;replace aa:=(aa.grow bb).grow bd;replace bc:=bc.gr bd;exact ⟨rfl,_,_,_,_,_,rfl,aa.fin (cm [(9,c1),(10,c2)]),aa.fo bc,aa.fo ci⟩
def Zjt (N:Nat) (ab:List Int):Option Int:=
  (Uw N ab).bind fun aa=>if (decide ((aa.length:Int)=0))=true then (some 0) else ((Zj aa (i64.wrap ((aa.length:Int) - 1))).bind fun ac=>(Zg3 ac).bind fun ad=>some (i64.wrap ((i64.wrap (32 * (i64.wrap ((aa.length:Int) - 1))))+ad)))
theorem Z0x {N af:Nat} {a0:Option Addr} {col:Zd} {w0:World} {ab:R2} {r:Int} (hm:Zjt N ab=some r) (h0:Sl (Za.int .u32) col w0 a0 af ab):
    Calls prog 128 #[.slice a0 ab.length af] w0 (fun e w'=>e= .returned ((.int .i64 r))∧Below w0.heap.size w0 w'):=by
 refine Xc 2 (m:=20) func128 rfl rfl rfl rfl rfl ?_;rw [Zjt.eq_1] at hm;have aa:=St.start col w0;refine go ?_;obtain ⟨am,ah,hm⟩:=bZ hm;replace h0:=h0.keep (Zf.start col w0);refine Zi (Sb ah (h0.ks aa)) ?_;rintro _ ai ⟨ac,an,ao,rfl,aj,ag⟩;refine ⟨_,rfl,go ?_⟩;replace aa:=aa.grow aj;refine Zo hm (fun hb hm=>go ?_) fun hb hm=>go ?_
 ·cases hm;exact ⟨rfl,rfl,aa.below⟩
 obtain ⟨ap,ad,hm⟩:=bZ hm;refine lI ad (ag.addr ad)<|lW (ag.atInt ad) ?_;obtain ⟨aq,ak,hm⟩:=bZ hm;refine Zi (Zra (col:=ac) ak) ?_;rintro _ al ⟨rfl,ae⟩;refine ⟨_,rfl,?_⟩;replace ae:Zg ac ai ac al:=.of_below ae;refine go ?_;cases hm;replace aa:=aa.grow ae;exact ⟨rfl,rfl,aa.below⟩
def Xi (n:Nat):Nat:=if n=0 then 0 else n.log2+1
theorem Zgd:Xi 0=0:=rfl
theorem Zq0 {n k:Nat} (h:2 ^ k≤n) (h2:n<2 ^ (k+1)):Xi n=k+1:=by
 have h0:n≠0:=by have:=Nat.two_pow_pos k;omega
 rw [Xi,if_neg h0,(Nat.log2_eq_iff h0).2 ⟨h,h2⟩]
theorem Zlo {n:Nat} (h:n≠0):∃ k,Xi n=k+1∧2 ^ k≤n∧n<2 ^ (k+1):=by
 refine ⟨n.log2,by rw [Xi,if_neg h],?_⟩
 exact (Nat.log2_eq_iff h).1 rfl
theorem V2 {n k:Nat}:Xi n≤k↔n<2 ^ k:=by
 by_cases h:n=0
 ·subst h;simp [Zgd,Nat.two_pow_pos]
 ·obtain ⟨j,e,h1,h2⟩:=Zlo h
  rw [e]
  constructor
  ·intro hk;exact Nat.lt_of_lt_of_le h2 (Nat.pow_le_pow_right (by decide) hk)
  ·intro hk
   have:=(Nat.pow_lt_pow_iff_right (a:=2) (by decide)).1 (Nat.lt_of_le_of_lt h1 hk)
   omega
theorem Zja (n k:Nat):Xi (n / 2 ^ k)=Xi n - k:=by
 by_cases h:n / 2 ^ k=0
 ·have h1:n<2 ^ k:=by
   have:=Nat.two_pow_pos k
   rcases Nat.div_eq_zero_iff.1 h with h | h
   ·omega
   ·exact h
  have:=V2.2 h1
  rw [h,Zgd];omega
 ·obtain ⟨j,e,h1,h2⟩:=Zlo h
  have hp:=Nat.two_pow_pos k
  have h3:2 ^ (j+k)≤n:=by
   rw [Nat.pow_add]
   exact (Nat.le_div_iff_mul_le hp).1 h1
  have h4:n<2 ^ (j+k+1):=by
   have:=(Nat.div_lt_iff_lt_mul hp).1 h2
   rw [show j+k+1=(j+1)+k by omega,Nat.pow_add];exact this
  rw [e,Zq0 h3 h4];omega
theorem Z4j:∀ x:Fin 256,Zd9 (x.val:Int) 0=some ((Xi x.val:Nat):Int):=by decide+kernel
theorem Zum {x:Nat} (h:x<256) {n:Int} (hn:0≤n∧n≤24):Zd9 (x:Int) n=some (n+(Xi x:Int)):=by
 have h0:=Z4j ⟨x,h⟩
 have hb:Xi x≤8:=V2.2 h
 rw [Zd9] at h0 ⊢
 revert h0
 generalize Zli _ _=o
 intro h0
 cases o with
 | none=>cases h0
 | some e=>
  rw [oB] at h0 ⊢
  have h1:=Option.some.inj h0
  rw [IntKind.wrap_i64,IntKind.wrap_i64] at h1 ⊢
  congr 1
  simp only at h1
  omega
theorem Znw (i:IntKind) (x k:Nat) (hk:k≤i.bits):Yn i (x:Int) (k:Int)=((x / 2 ^ k:Nat):Int):=by
 rw [Yn,Int.toNat_natCast,Nat.min_eq_left hk,Int.fdiv_eq_ediv_of_nonneg _ (Int.le_of_lt (Int.pow_pos (by decide)))]
 norm_cast
theorem Zug {x:Nat} (h:x<4294967296):Zg3 (x:Int)=some ((Xi x:Nat):Int):=by
 have j1:∀ (y:Nat) (n:Int),y<65536→0≤n∧n≤16→Zg4 (y:Int) n=some (n+(Xi y:Int)):=fun y n hy hn=>by
  rw [Zg4]
  by_cases h1:256≤y
  ·have e:=Znw .u32 y 8 (by decide)
   have hb:=Zja y 8
   have hb8:8≤Xi y:=by
    have:¬ Xi y≤7:=fun h=>by have:=V2.1 h;omega
    omega
   rw [if_pos (by simp;omega),show (8:Int)=((8:Nat):Int) from rfl,e,Zum (by omega) (by rw [Zr (by omega)];omega),Zr (by omega),hb]
   congr 1;omega
  ·rw [if_neg (by simp;omega),Zum (by omega) (by omega)]
 rw [Zg3]
 by_cases h1:65536≤x
 ·have e:=Znw .u32 x 16 (by decide)
  have hb:=Zja x 16
  have hb8:16≤Xi x:=by
   have:¬ Xi x≤15:=fun h=>by have:=V2.1 h;omega
   omega
  rw [if_pos (by simp;omega),show (16:Int)=((16:Nat):Int) from rfl,e,j1 _ _ (by omega) (by omega),hb]
  congr 1;omega
 ·rw [if_neg (by simp;omega),j1 _ _ (by omega) (by omega)]
  congr 1;omega
theorem Zq2 {a:List Int} {x:Int} (ha:Zp a) (hx:0<x∧x<4294967296):Xi (Zb (a++[x]))=32 * a.length+Xi x.toNat:=by
 obtain ⟨k,e,h1,h2⟩:=Zlo (show x.toNat≠0 by omega)
 have hl:=Sw ha
 have e1:Zb (a++[x])=Zb a+4294967296 ^ a.length * x.toNat:=by rw [Sv,Wg,Yk];simp
 have e2:(4294967296:Nat) ^ a.length=2 ^ (32 * a.length):=by rw [show (4294967296:Nat)=2 ^ 32 by decide,← Nat.pow_mul]
 rw [e]
 have:=Zq0 (n:=Zb (a++[x])) (k:=32 * a.length+k) (by
   rw [e1,e2,Nat.pow_add]
   have:=Nat.mul_le_mul_left (2 ^ (32 * a.length)) h1
   omega) (by
   rw [e1,show 32 * a.length+k+1=32 * a.length+(k+1) by omega,Nat.pow_add,e2]
   have:=Nat.mul_le_mul_left (2 ^ (32 * a.length)) (show x.toNat+1≤2 ^ (k+1) by omega)
   rw [Nat.mul_add] at this
   rw [e2] at hl
   omega)
 rw [this];omega
theorem Zlm (n:Nat):32 * ((Ze n).length - 1)≤Xi n∧Xi n≤32 * (Ze n).length:=by
 have e:∀ k,(4294967296:Nat) ^ k=2 ^ (32 * k):=fun k=>by rw [show (4294967296:Nat)=2 ^ 32 by decide,← Nat.pow_mul]
 constructor
 ·by_cases h:32 * ((Ze n).length - 1)≤Xi n
  ·exact h
  ·exfalso
   have h1:=V2.1 (show Xi n≤32 * ((Ze n).length - 1) by omega)
   rw [← e] at h1
   have:=Wv.2 h1
   omega
 ·have:=Wv.1 (Nat.le_refl (Ze n).length)
  rw [e] at this
  exact V2.2 this
theorem Zz2 {N:Nat} {a:List Int} (h:Zp a) (hn:a.length<N) (hb:a.length≤1099511627776):Zjt N a=some ((Xi (Zb a):Nat):Int):=by
 have hl:=Yc h
 rw [Zjt,S5 h hn hb,oB]
 by_cases h0:(Ze (Zb a)).length=0
 ·have:Zb a=0:=Zgl.1 (List.eq_nil_of_length_eq_zero h0)
  rw [if_pos (by simp [h0]),this,Zgd];rfl
 ·have hp:0<(Ze (Zb a)).length:=by omega
  have e:((Ze (Zb a)).length:Int) - 1=(((Ze (Zb a)).length - 1:Nat):Int):=by omega
  have hx:=(Z8 (Zb a)).get (k:=(Ze (Zb a)).length - 1) (by omega)
  have hne:=Zl9 hp
  have hs:=Zgk hp
  have e2:(Ze (Zb a))[(Ze (Zb a)).length - 1]=(((Ze (Zb a))[(Ze (Zb a)).length - 1]).toNat:Int):=by omega
  rw [if_neg (by simpa using h0),Zr (by omega),e,Zy (by omega),oB,e2,Zug (by omega),oB]
  have hb:=Zq2 (a:=(Ze (Zb a)).take ((Ze (Zb a)).length - 1)) (x:=(Ze (Zb a))[(Ze (Zb a)).length - 1]) ((Z8 _).take _) (by omega)
  rw [hs,Z9,nK,Nat.min_eq_left (by omega)] at hb
  have hb2:Xi ((Ze (Zb a))[(Ze (Zb a)).length - 1]).toNat≤32:=V2.2 (by omega)
  rw [Zr (x:=32 * _) (by omega),Zr (by omega),hb]
  congr 1
theorem Zgf (w x:Nat) (h:x<2 ^ w):(BitVec.ofInt w (x:Int)).toNat=x:=by
 rw [BitVec.toNat_ofInt]
 have:((2 ^ w:Nat):Int)=(2:Int) ^ w:=by norm_cast
 rw [← Int.natCast_emod,Int.toNat_natCast,Nat.mod_eq_of_lt h]
theorem or64 (k a b:Nat) (h:b<2 ^ k) (hs:2 ^ k * a+b<18446744073709551616):Y7 .u64 ((2 ^ k * a:Nat):Int) (b:Int)=((2 ^ k * a+b:Nat):Int):=by
 rw [Y7,BitVec.toNat_or,Zgf _ _ (by simp only [IntKind.bits];omega),Zgf _ _ (by simp only [IntKind.bits];omega),← Nat.two_pow_add_eq_or_of_lt h,IntKind.wrap_u64]
 omega
theorem or32 (k a b:Nat) (h:b<2 ^ k) (hs:2 ^ k * a+b<4294967296):Y7 .u32 (b:Int) ((2 ^ k * a:Nat):Int)=((2 ^ k * a+b:Nat):Int):=by
 rw [Y7,BitVec.toNat_or,Zgf _ _ (by simp only [IntKind.bits];omega),Zgf _ _ (by simp only [IntKind.bits];omega),Nat.or_comm,← Nat.two_pow_add_eq_or_of_lt h,IntKind.wrap_u32]
 omega
theorem Z6p {x:Int} (h:0≤x∧x<4294967296):X6 .u64 x 32=x * 4294967296:=by
 have:(min (32:Int).toNat u64.bits)=32:=by decide
 rw [X6,this,IntKind.wrap_u64]
 omega
theorem Zn0 {r e:Int} (hr:0≤r∧r<4294967296) (he:0≤e∧e<4294967296):Y7 .u64 (X6 .u64 r 32) e=r * 4294967296+e:=by
 rw [Z6p hr]
 have:=or64 32 r.toNat e.toNat (by omega) (by omega)
 rw [show ((2 ^ 32 * r.toNat:Nat):Int)=r * 4294967296 by omega,show ((e.toNat:Nat):Int)=e by omega] at this
 rw [this];omega
theorem Zdj {l:List Int} {k j:Nat} (v:Int) (h:j≤k):(l.set k v).take j=l.take j:=by
 rw [List.take_set,List.set_eq_of_length_le]
 rw [nK];omega
theorem Zy3 (N:Nat) (d:Int) (hd:0<d∧d<4294967296):∀ (n j:Nat) (r:List Int) (c:Int),j≤r.length→j<n→r.length<4611686018427387904→Zp r→0≤c∧c<d→
  ∃ c' r',Zem N d n r c ((j:Int) - 1)=some (c',r')∧r'.length=r.length∧Zp r'∧0≤c'∧c'<d∧d.toNat * Zb r'+c'.toNat=Zb (r.take j)+4294967296 ^ j * (c.toNat+d.toNat * Zb (r.drop j))
 | 0,j,r,c,_,h,_,_,_=>by omega
 | n+1,j,r,c,hj,hn,hs,hr,hc=>by
  rw [Zem.eq_2]
  by_cases h0:j=0
  ·subst h0
   rw [if_neg (by decide),V6 (by omega)]
   refine ⟨c,r,rfl,rfl,hr,hc.1,hc.2,?_⟩
   rw [List.take_zero,List.drop_zero,Yk];omega
  ·have e:(j:Int) - 1=((j - 1:Nat):Int):=by omega
   have hk:j - 1<r.length:=by omega
   have g:=hr.get hk
   rw [if_pos (by simp;omega),e,Zy hk,oB,Xj (x:=d) (by omega),Zz (by omega),oB,Zz (by omega),Int.toNat_natCast,Xj (x:=r[j - 1]) (by omega),Zn0 (by omega) (by omega)]
   generalize hcur:c * 4294967296+r[j - 1]=cur
   have hcd:(c+1) * 4294967296≤d * 4294967296:=by omega
   have hq:0≤cur / d∧cur / d<4294967296:=⟨Int.ediv_nonneg (by omega) (by omega),Int.ediv_lt_of_lt_mul hd.1 (by rw [Int.mul_comm];omega)⟩
   have hm:=Int.emod_nonneg cur (show d≠0 by omega)
   have hm2:=Int.emod_lt_of_pos cur hd.1
   have hdm:=Int.mul_ediv_add_emod cur d
   rw [Int.tdiv_eq_ediv_of_nonneg (by omega),Int.tmod_eq_emod_of_nonneg (by omega),Xj (by omega),V6 hq,Zr (by omega)]
   obtain ⟨c',r',q1,q2,q3,q4,q5,q6⟩:=Zy3 N d hd n (j - 1) (r.set (j - 1) (cur / d)) (cur % d) (by rw [nS];omega) (by omega) (by rw [nS];exact hs) (hr.set _ hq) ⟨hm,hm2⟩
   refine ⟨c',r',q1,by rw [q2,nS],q3,q4,q5,?_⟩
   rw [q6,Zdj _ (Nat.le_refl _)]
   have t1:=Zpp hk
   have t2:Zb ((r.set (j - 1) (cur / d)).drop (j - 1))=(cur / d).toNat+4294967296 * Zb (r.drop (j - 1+1)):=by
    rw [Ud (by rw [nS];exact hk),List.getElem_set_self,Qa _ (by omega)]
   rw [show j - 1+1=j by omega] at t1 t2
   rw [t1,t2]
   have hp:(4294967296:Nat) ^ j=4294967296 ^ (j - 1) * 4294967296:=by rw [← Nat.pow_succ,show (j - 1).succ=j by omega]
   rw [hp]
   have hn1:d.toNat * (cur / d).toNat+(cur % d).toNat=c.toNat * 4294967296+(r[j - 1]).toNat:=by
    have:((d.toNat * (cur / d).toNat:Nat):Int)=d * (cur / d):=by rw [Int.natCast_mul,Int.toNat_of_nonneg (by omega),Int.toNat_of_nonneg hq.1]
    omega
   generalize hQ:4294967296 ^ (j - 1)=Q
   have hn2:Q * (d.toNat * (cur / d).toNat+(cur % d).toNat)=Q * (c.toNat * 4294967296+(r[j - 1]).toNat):=by rw [hn1]
   grind
theorem Z6s {N:Nat} {a:List Int} {d:Int} (hd:0<d∧d<4294967296) (ha:Zp a) (hn:a.length<N) (hs:a.length≤1099511627776):
  ∃ q,Zjz N a d=some (((Zb a % d.toNat:Nat):Int),q)∧q.length=a.length∧Zp q∧Zb q=Zb a / d.toNat:=by
 obtain ⟨c',r',q1,q2,q3,q4,q5,q6⟩:=Zy3 N d hd N a.length a 0 (Nat.le_refl _) hn (by omega) ha (by omega)
 have hd':0<d.toNat:=by omega
 rw [List.take_length,List.drop_length,Yk] at q6
 have h1:Zb a=c'.toNat+d.toNat * Zb r':=by simp at q6;omega
 have h2:Zb a % d.toNat=c'.toNat:=by rw [h1,Nat.add_mul_mod_self_left,Nat.mod_eq_of_lt (by omega)]
 have h3:Zb a / d.toNat=Zb r':=by rw [h1,Nat.add_mul_div_left _ _ hd',Nat.div_eq_of_lt (by omega),Nat.zero_add]
 refine ⟨r',?_,q2,q3,h3.symm⟩
 rw [Zjz,Zr (by omega),q1,h2]
 congr 2;omega
theorem Zqk {i:IntKind} {x s:Nat} (hs:s<32) (hi:i= .u32∨i= .u64):X6 i (x:Int) (s:Int)=i.wrap ((x * 2 ^ s:Nat):Int):=by
 rw [X6,Int.toNat_natCast,Nat.min_eq_left (by rcases hi with rfl | rfl <;> simp only [IntKind.bits] <;> omega)]
 norm_cast
theorem Zzr (n:Nat):u32.wrap (n:Int)=((n % 4294967296:Nat):Int):=by rw [IntKind.wrap_u32];omega
theorem Zue (s:Nat) (hs:s<32):∀ (l:List Int) (k:Nat) (out:List Int),Zp l→out.length=k+l.length+1→out.length<4611686018427387904→Zp out→Zb (out.drop (k+1))=0→(∀ h:k<out.length,(out[k]).toNat<2 ^ s)→
  ∃ out',Zcq (s:Int) l k out=some out'∧out'.length=out.length∧Zp out'∧Zb out'=Zb out+4294967296 ^ k * (2 ^ s * Zb l)∧(∀ h:out'.length - 1<out'.length,(out'[out'.length - 1]).toNat<2 ^ s)
 | [],k,out,_,hl,_,ho,_,hk=>by
  rw [Zcq.eq_1]
  rw [nN] at hl
  refine ⟨out,rfl,rfl,ho,by rw [Yk];omega,fun h=>?_⟩
  have:=hk (by omega)
  simpa [hl] using this
 | x :: l,k,out,hx,hl,hz,ho,hd,hk=>by
  rw [nC] at hl
  have h0:k<out.length:=by omega
  have h1:k+1<out.length:=by omega
  have gx:=hx.head
  have gk:=ho.get h0
  have gs:=hk h0
  have hz1:=drop_zero ho h1 hd
  have e1:i64.wrap ((k:Int)+1)=((k+1:Nat):Int):=by rw [Zr (by omega)];omega
  have ex:x=(x.toNat:Int):=by omega
  have ek:out[k]=((out[k]).toNat:Int):=by omega
  have pw:(2:Nat) ^ s * 2 ^ (32 - s)=4294967296:=by rw [← Nat.pow_add,show s+(32 - s)=32 by omega]
  have hps:=Nat.two_pow_pos s
  have hp2:=Nat.two_pow_pos (32 - s)
  -- the lower and the upper limb
  have hxs:x.toNat * 2 ^ s<4294967296 * 2 ^ s:=Nat.mul_lt_mul_of_pos_right (by omega) hps
  have hs31:2 ^ s≤2147483648:=by
   have:=Nat.pow_le_pow_right (n:=2) (by decide) (show s≤31 by omega)
   omega
  have hlow:(x.toNat * 2 ^ s) % 4294967296=2 ^ s * (x.toNat % 2 ^ (32 - s)):=by
   rw [← pw,Nat.mul_comm x.toNat,Nat.mul_mod_mul_left]
  have hlo:Y7 .u32 out[k] (X6 .u32 x (s:Int))=(((x.toNat * 2 ^ s) % 4294967296+(out[k]).toNat:Nat):Int):=by
   rw [ex,Zqk hs (.inl rfl),Zzr,ek]
   simp only [Int.toNat_natCast]
   rw [hlow]
   refine or32 s _ _ gs ?_
   have:2 ^ s * (x.toNat % 2 ^ (32 - s)+1)≤2 ^ s * 2 ^ (32 - s):=Nat.mul_le_mul_left _ (Nat.mod_lt _ hp2)
   rw [pw,Nat.mul_add] at this
   omega
  have hhi:u32.wrap (Yn .u64 (X6 .u64 (u64.wrap x) (s:Int)) 32)=((x.toNat * 2 ^ s / 4294967296:Nat):Int):=by
   rw [Xj (x:=x) (by omega),ex,Zqk hs (.inr rfl),Zf7,Xj (by omega)]
   simp only [Int.toNat_natCast]
   rw [V6 (by omega)]
   omega
  have hhs:x.toNat * 2 ^ s / 4294967296<2 ^ s:=(Nat.div_lt_iff_lt_mul (by decide)).2 (by rw [Nat.mul_comm (2 ^ s)];exact hxs)
  have hlow2:(x.toNat * 2 ^ s) % 4294967296+(out[k]).toNat<4294967296:=by
   rw [hlow]
   have:2 ^ s * (x.toNat % 2 ^ (32 - s)+1)≤2 ^ s * 2 ^ (32 - s):=Nat.mul_le_mul_left _ (Nat.mod_lt _ hp2)
   rw [pw,Nat.mul_add] at this
   omega
  rw [Zcq.eq_2,Zy h0,oB,Zz (by omega),oB,Zz (by omega),e1,Int.toNat_natCast,Int.toNat_natCast,
   Zy (by rw [nS];exact h1),oB,oB,hlo,hhi]
  generalize hA:(x.toNat * 2 ^ s) % 4294967296+(out[k]).toNat=A at hlow2
  generalize hB:x.toNat * 2 ^ s / 4294967296=B at hhs
  have o1:Zp (out.set k (A:Int)):=ho.set _ (by omega)
  have o2:Zp ((out.set k (A:Int)).set (k+1) (B:Int)):=o1.set _ (by omega)
  obtain ⟨out',q1,q2,q3,q4,q5⟩:=Zue s hs l (k+1) ((out.set k (A:Int)).set (k+1) (B:Int)) hx.tail (by rw [nS,nS];omega) (by rw [nS,nS];exact hz) o2 (by
   rw [Qa _ (by omega),Qa _ (by omega)];exact hz1.2) (fun h=>by rw [List.getElem_set_self];simpa using hhs)
  refine ⟨out',q1,by rw [q2,nS,nS],q3,?_,q5⟩
  have v1:=U6 h0 (A:Int)
  have v2:=U6 (l:=out.set k (A:Int)) (k:=k+1) (by rw [nS];exact h1) (B:Int)
  rw [List.getElem_set_ne (by omega),hz1.1] at v2
  rw [Int.toNat_natCast] at v1 v2
  rw [Int.toNat_zero,Nat.mul_zero,Nat.add_zero] at v2
  rw [q4,Wg]
  rw [Nat.pow_succ] at v2 ⊢
  have key:A+4294967296 * B=(out[k]).toNat+x.toNat * 2 ^ s:=by omega
  generalize 4294967296 ^ k=Q at *
  have key2:Q * (A+4294967296 * B)=Q * ((out[k]).toNat+x.toNat * 2 ^ s):=by rw [key]
  grind
theorem Zuf {a:List Int} {s:Nat} (hs:s<32) (ha:Zp a) (hb:a.length<1099511627776):
  ∃ o,Zhi a (s:Int)=some o∧o.length=a.length+1∧Zp o∧Zb o=2 ^ s * Zb a∧∀ h:o.length - 1<o.length,(o[o.length - 1]).toNat<2 ^ s:=by
 rw [Zhi,Zr (by omega),Zz (by simp only [maxLen];omega)]
 have e:Int.toNat ((a.length:Int)+1)=a.length+1:=by omega
 rw [e]
 obtain ⟨o,q1,q2,q3,q4,q5⟩:=Zue s hs a 0 (List.replicate (a.length+1) 0) ha (by rw [List.length_replicate];omega) (by rw [List.length_replicate];omega) (.zeros _) (by rw [List.drop_replicate];exact Tm _) (fun h=>by
  rw [List.getElem_replicate];exact Nat.two_pow_pos s)
 refine ⟨o,q1,by rw [q2,List.length_replicate],q3,?_,q5⟩
 rw [q4,Tm,Nat.pow_zero];omega
theorem Z2y (g:Int) (u:List Int):Zjw g u=Zbd g u:=rfl
theorem Zso (j0 n0:Nat) (v:List Int) (g:Int):∀ (l:List Int) (k:Nat) (u:List Int) (c:Int),Zcp j0 n0 v g l k u c=Tx j0 n0 v (u64.wrap (g - 1)) l k u c
 | [],k,u,c=>by rw [Zcp.eq_1,Tx.eq_1];rfl
 | x :: l,k,u,c=>by
  rw [Zcp.eq_2,Tx.eq_2]
  simp only [Zso j0 n0 v g l]
theorem Zsn (j0 n0:Nat) (v:List Int) (g:Int):∀ (l:List Int) (k:Nat) (u:List Int) (b c:Int),Qm j0 n0 v g l k u b c=Ub j0 n0 v (u64.wrap (g - 1)) l k u b c
 | [],k,u,b,c=>by
  rw [Qm.eq_1,Ub.eq_1]
  simp only [Zso,Z2y]
 | x :: l,k,u,b,c=>by
  rw [Qm.eq_2,Ub.eq_2]
  simp only [Zjx,Zel,Zmk,Zjy,Zsn j0 n0 v g l]
theorem Zuy {x:Int} (h:0≤x∧x<18446744073709551616):Tf .u64 x 4294967295=x % 4294967296:=by
 have e:x=(x.toNat:Int):=by omega
 rw [Tf,BitVec.toNat_and,e,Zgf _ _ (by simp only [IntKind.bits];omega),show (4294967295:Int)=((2 ^ 32 - 1:Nat):Int) by decide,Zgf _ _ (by simp only [IntKind.bits];omega),Nat.and_two_pow_sub_one_eq_mod,IntKind.wrap_u64]
 omega
theorem Zzz (S S' S2 Q e v x c c' L T:Nat) (h1:S'+Q * e=S+Q * v) (h2:c+(e+x)=v+4294967296 * c') (h3:S2+T=S'+Q * 4294967296 * (c'+L)):S2+T=S+Q * (c+(x+4294967296 * L)):=by
 have:Q * (c+(e+x))=Q * (v+4294967296 * c'):=by rw [h2]
 grind
theorem Zjh {l:List Int} {k j:Nat} (v:Int) (h:k<j):(l.set k v).drop j=l.drop j:=Qa v h
theorem Zsq (j0:Nat) (v:List Int) (g:Int):∀ (l:List Int) (k:Nat) (u:List Int) (c:Int),Zp l→k+l.length=v.length→Zp u→j0+v.length<u.length→0≤c∧c≤1→
  ∃ u' co,Tx j0 (v.length+1) v g l k u c=some (u32.wrap (u64.wrap (g - 1)),u')∧u'.length=u.length∧Zp u'∧u'.take j0=u.take j0∧u'.drop (j0+v.length+1)=u.drop (j0+v.length+1)∧Zb u'+co * 4294967296 ^ (j0+v.length+1)=Zb u+4294967296 ^ (j0+k) * (c.toNat+Zb l)
 | [],k,u,c,_,hk,hu,hl,hc=>by
  have hk':k=v.length:=by simpa using hk
  subst hk'
  have g0:=hu.get hl
  rw [Tx.eq_1,Zz (by omega),show (j0:Int)+(v.length:Int)=((j0+v.length:Nat):Int) by omega,Zy hl,oB,Zz (by omega),oB,oB,Int.toNat_natCast,Zbd,V6 (x:=c) (by omega)]
  have hw:0≤u32.wrap (u[j0+v.length]+c)∧u32.wrap (u[j0+v.length]+c)<4294967296:=by rw [IntKind.wrap_u32];omega
  refine ⟨_,((u[j0+v.length]+c) / 4294967296).toNat,rfl,by rw [nS],hu.set _ hw,Zdj _ (by omega),Zjh _ (by omega),?_⟩
  have h1:=U6 hl (u32.wrap (u[j0+v.length]+c))
  have h2:(u[j0+v.length]).toNat+c.toNat=(u32.wrap (u[j0+v.length]+c)).toNat+4294967296 * ((u[j0+v.length]+c) / 4294967296).toNat:=by rw [IntKind.wrap_u32];omega
  rw [Nat.pow_succ,Yk]
  generalize 4294967296 ^ (j0+v.length)=Q at *
  have h3:Q * ((u[j0+v.length]).toNat+c.toNat)=Q * ((u32.wrap (u[j0+v.length]+c)).toNat+4294967296 * ((u[j0+v.length]+c) / 4294967296).toNat):=by rw [h2]
  grind
 | x :: l,k,u,c,hx,hk,hu,hl,hc=>by
  rw [nC] at hk
  have hjk:j0+k<u.length:=by omega
  have g0:=hu.get hjk
  have gx:=hx.head
  rw [Tx.eq_2,Zz (by omega),show (j0:Int)+(k:Int)=((j0+k:Nat):Int) by omega,Zy hjk,oB,Zz (by omega),oB,oB,Int.toNat_natCast,Xj (x:=u[j0+k]) (by omega),Xj (x:=x) (by omega),Xj (x:=u[j0+k]+x) (by omega),Xj (by omega),Zf7]
  generalize hs:c+(u[j0+k]+x)=s
  have hw:0≤u32.wrap s∧u32.wrap s<4294967296:=by rw [IntKind.wrap_u32];omega
  obtain ⟨u',co,q1,q2,q3,q4,q5,q6⟩:=Zsq j0 v g l (k+1) (u.set (j0+k) (u32.wrap s)) (s / 4294967296) hx.tail (by omega) (hu.set _ hw) (by rw [nS];exact hl) (by omega)
  refine ⟨u',co,q1,by rw [q2,nS],q3,by rw [q4,Zdj _ (by omega)],by rw [q5,Zjh _ (by omega)],?_⟩
  rw [Wg]
  rw [← Nat.add_assoc j0 k 1,Nat.pow_succ] at q6
  exact Zzz _ _ _ _ _ _ _ _ _ _ _ (U6 hjk _) (by rw [IntKind.wrap_u32];omega) q6
theorem Z5d (S S' S2 Q e w x g b b' c c' t L T:Nat) (h1:S'+Q * e=S+Q * w) (h2:c+g * x=t+4294967296 * c') (h3:e+4294967296 * b'=t+b+w) (h4:S2+Q * 4294967296 * (c'+b'+g * L)=S'+T):S2+Q * (c+b+g * (x+4294967296 * L))=S+T:=by
 have e1:Q * (c+g * x)=Q * (t+4294967296 * c'):=by rw [h2]
 have e2:Q * (e+4294967296 * b')=Q * (t+b+w):=by rw [h3]
 grind
theorem Zsp (j0:Nat) (v:List Int) (g:Int) (hg:0≤g∧g<4294967296):∀ (l:List Int) (k:Nat) (u:List Int) (b c:Int),Zp l→k+l.length=v.length→Zp u→j0+v.length<u.length→0≤b∧b≤1→0≤c∧c<4294967296→
  ∃ u' over,over≤1∧Ub j0 (v.length+1) v g l k u b c=(if over=1 then Tx j0 (v.length+1) v g v 0 u' 0 else Zbd g u')∧u'.length=u.length∧Zp u'∧u'.take j0=u.take j0∧u'.drop (j0+v.length+1)=u.drop (j0+v.length+1)∧
   Zb u'+4294967296 ^ (j0+k) * (c.toNat+b.toNat+g.toNat * Zb l)=Zb u+over * 4294967296 ^ (j0+v.length+1)
 | [],k,u,b,c,_,hk,hu,hl,hb,hc=>by
  have hk':k=v.length:=by simpa using hk
  subst hk'
  have g0:=hu.get hl
  rw [Ub.eq_1,Zz (by omega),show (j0:Int)+(v.length:Int)=((j0+v.length:Nat):Int) by omega,Zy hl,oB,Zz (by omega),oB,Zz (by omega),oB,oB,Int.toNat_natCast,Xj (x:=c+b) (by omega),Xj (x:=u[j0+v.length]) (by omega)]
  have hw:0≤u32.wrap (u[j0+v.length] - u32.wrap (c+b))∧u32.wrap (u[j0+v.length] - u32.wrap (c+b))<4294967296:=by rw [IntKind.wrap_u32];omega
  have h1:=U6 hl (u32.wrap (u[j0+v.length] - u32.wrap (c+b)))
  have fin:∀ over:Nat,(u[j0+v.length]).toNat+4294967296 * over=c.toNat+b.toNat+(u32.wrap (u[j0+v.length] - u32.wrap (c+b))).toNat→Zb (u.set (j0+v.length) (u32.wrap (u[j0+v.length] - u32.wrap (c+b))))+4294967296 ^ (j0+v.length) * (c.toNat+b.toNat+g.toNat * Zb [])=Zb u+over * 4294967296 ^ (j0+v.length+1):=fun over h2=>by
   rw [Nat.pow_succ,Yk]
   generalize 4294967296 ^ (j0+v.length)=Q at *
   have h3:Q * ((u[j0+v.length]).toNat+4294967296 * over)=Q * (c.toNat+b.toNat+(u32.wrap (u[j0+v.length] - u32.wrap (c+b))).toNat):=by rw [h2]
   grind
  by_cases hlt:u[j0+v.length]<c+b
  ·refine ⟨_,1,Nat.le_refl _,by rw [if_pos (by simpa using hlt),if_pos rfl],by rw [nS],hu.set _ hw,Zdj _ (by omega),Zjh _ (by omega),fin 1 (by rw [IntKind.wrap_u32,IntKind.wrap_u32];omega)⟩
  ·refine ⟨_,0,by decide,by rw [if_neg (by simpa using hlt),if_neg (by decide)],by rw [nS],hu.set _ hw,Zdj _ (by omega),Zjh _ (by omega),fin 0 (by rw [IntKind.wrap_u32,IntKind.wrap_u32];omega)⟩
 | x :: l,k,u,b,c,hx,hk,hu,hl,hb,hc=>by
  rw [nC] at hk
  have hjk:j0+k<u.length:=by omega
  have g0:=hu.get hjk
  have gx:=hx.head
  have hm:g * x≤4294967295 * 4294967295:=Int.mul_le_mul (by omega) (by omega) (by omega) (by omega)
  have hm0:0≤g * x:=Int.mul_nonneg hg.1 gx.1
  have hgx:((g.toNat * x.toNat:Nat):Int)=g * x:=by rw [Int.natCast_mul,Int.toNat_of_nonneg hg.1,Int.toNat_of_nonneg gx.1]
  rw [Ub.eq_2,Zz (by omega),show (j0:Int)+(k:Int)=((j0+k:Nat):Int) by omega,Zy hjk,oB,Xj (x:=u[j0+k]) (by omega),Xj (x:=x) (by omega),Xj (x:=g * x) (by omega),Xj (x:=c+g * x) (by omega),Zuy (by omega)]
  generalize ht0:c+g * x=t0
  rw [Xj (x:=t0 % 4294967296+b) (by omega)]
  have fin:∀ b':Int,0≤b'∧b'≤1→u[j0+k]+4294967296 * b'=t0 % 4294967296+b+u32.wrap (u[j0+k] - u32.wrap (t0 % 4294967296+b))→
    ∃ u' over,over≤1∧Zel j0 (v.length+1) g u b k c (Ub j0 (v.length+1) v g l) x b'=(if over=1 then Tx j0 (v.length+1) v g v 0 u' 0 else Zbd g u')∧u'.length=u.length∧Zp u'∧u'.take j0=u.take j0∧u'.drop (j0+v.length+1)=u.drop (j0+v.length+1)∧
     Zb u'+4294967296 ^ (j0+k) * (c.toNat+b.toNat+g.toNat * Zb (x :: l))=Zb u+over * 4294967296 ^ (j0+v.length+1):=fun b' hb' h3=>by
   have hw:0≤u32.wrap (u[j0+k] - u32.wrap (t0 % 4294967296+b))∧u32.wrap (u[j0+k] - u32.wrap (t0 % 4294967296+b))<4294967296:=by rw [IntKind.wrap_u32];omega
   obtain ⟨u',over,q0,q1,q2,q3,q4,q5,q6⟩:=Zsp j0 v g hg l (k+1) (u.set (j0+k) (u32.wrap (u[j0+k] - u32.wrap (t0 % 4294967296+b)))) b' (t0 / 4294967296) hx.tail (by omega) (hu.set _ hw) (by rw [nS];exact hl) hb' (by omega)
   refine ⟨u',over,q0,?_,by rw [q2,nS],q3,by rw [q4,Zdj _ (by omega)],by rw [q5,Zjh _ (by omega)],?_⟩
   ·rw [Zel,Zz (by omega),show (j0:Int)+(k:Int)=((j0+k:Nat):Int) by omega,Zy hjk,oB,Zz (by omega),oB,oB,Int.toNat_natCast,Xj (x:=x) (by omega),Xj (x:=g * x) (by omega),Xj (x:=c+g * x) (by omega),Zuy (by omega),ht0,Xj (x:=t0 % 4294967296+b) (by omega),Zf7,Zjy]
    exact q1
   ·rw [Wg]
    rw [← Nat.add_assoc j0 k 1,Nat.pow_succ] at q6
    exact Z5d _ _ _ _ _ _ _ _ _ _ _ _ (t0 % 4294967296).toNat _ _ (U6 hjk _) (by omega) (by omega) q6
  by_cases hlt:u[j0+k]<t0 % 4294967296+b
  ·rw [if_pos (by simpa using hlt)]
   exact fin 1 (by omega) (by rw [IntKind.wrap_u32,IntKind.wrap_u32];omega)
  ·rw [if_neg (by simpa using hlt)]
   exact fin 0 (by omega) (by rw [IntKind.wrap_u32,IntKind.wrap_u32];omega)
structure Zi7 (U V E v1 v2 u2 top lU lV:Nat):Prop where
 hU:U=lU+E * (u2+4294967296 * top)
 hV:V=lV+E * (v2+4294967296 * v1)
 lu:lU<E
 lv:lV<E
 b2:u2<4294967296
 c2:v2<4294967296
 c1:v1<4294967296
 big:2147483648≤v1
 lt:U<4294967296 * V
namespace Zi7
variable {U V E v1 v2 u2 top lU lV:Nat} (t:Zi7 U V E v1 v2 u2 top lU lV)
include t
theorem Vpos:0<V:=by
 have:=t.lt
 have:=t.lu
 omega
theorem uE:U<E * 4294967296 * (top+1):=by
 have h1:E * (u2+1)≤E * 4294967296:=Nat.mul_le_mul_left _ t.b2
 have h2:=t.hU;have:=t.lu
 have e:E * (u2+4294967296 * top)=E * u2+E * 4294967296 * top:=by grind
 rw [e] at h2
 rw [Nat.mul_add] at h1 ⊢
 omega
theorem Eu:E * 4294967296 * top≤U:=by
 have h2:=t.hU
 have e:E * (u2+4294967296 * top)=E * u2+E * 4294967296 * top:=by grind
 omega
theorem vE:V<E * 4294967296 * (v1+1):=by
 have h1:E * (v2+1)≤E * 4294967296:=Nat.mul_le_mul_left _ t.c2
 have h2:=t.hV;have:=t.lv
 have e:E * (v2+4294967296 * v1)=E * v2+E * 4294967296 * v1:=by grind
 rw [Nat.mul_add] at h1 ⊢
 omega
theorem Ev:E * 4294967296 * v1≤V:=by
 have h2:=t.hV
 have e:E * (v2+4294967296 * v1)=E * v2+E * 4294967296 * v1:=by grind
 omega
theorem Epos:0<E:=by have:=t.lu;omega
theorem first:U / V≤top / v1:=by
 have hv:0<v1:=by have:=t.big;omega
 rw [Nat.le_div_iff_mul_le hv]
 have h1:U / V * V≤U:=Nat.div_mul_le_self U V
 have h2:U / V * (E * 4294967296 * v1)≤U / V * V:=Nat.mul_le_mul_left _ t.Ev
 have h3:E * 4294967296 * (U / V * v1)<E * 4294967296 * (top+1):=by
  have e:E * 4294967296 * (U / V * v1)=U / V * (E * 4294967296 * v1):=by
   generalize U / V=q
   grind
  rw [e]
  have:=t.uE
  omega
 have:=Nat.lt_of_mul_lt_mul_left h3
 omega
theorem quo:U / V<4294967296:=(Nat.div_lt_iff_lt_mul t.Vpos).2 t.lt
theorem great {g r:Nat} (h:g * v1+r=top) (h2:r * 4294967296+u2<g * v2):U / V<g:=by
 rw [Nat.div_lt_iff_lt_mul t.Vpos]
 have h3:u2+4294967296 * top+1≤g * (v2+4294967296 * v1):=by
  have:4294967296 * (g * v1+r)=4294967296 * top:=by rw [h]
  have e:g * (v2+4294967296 * v1)=g * v2+4294967296 * (g * v1):=by grind
  rw [e];omega
 have h4:=Nat.mul_le_mul_left E h3
 have h5:E * (g * (v2+4294967296 * v1))≤g * V:=by
  have:=t.hV
  have e:g * V=g * lV+E * (g * (v2+4294967296 * v1)):=by rw [this];grind
  omega
 have:=t.hU;have:=t.lu
 rw [Nat.mul_add] at h4
 omega
theorem fine {g r:Nat} (hg:g<4294967296) (h:g * v1+r=top) (h2:g * v2≤r * 4294967296+u2):g * V<U+V:=by
 have h3:g * (v2+4294967296 * v1)≤u2+4294967296 * top:=by
  have:4294967296 * (g * v1+r)=4294967296 * top:=by rw [h]
  have e:g * (v2+4294967296 * v1)=g * v2+4294967296 * (g * v1):=by grind
  rw [e];omega
 have h4:=Nat.mul_le_mul_left E h3
 have e:g * V=g * lV+E * (g * (v2+4294967296 * v1)):=by rw [t.hV];grind
 have h5:g * lV≤4294967295 * E:=Nat.mul_le_mul (by omega) (by have:=t.lv;omega)
 have h6:E * 4294967296 * 1≤E * 4294967296 * v1:=Nat.mul_le_mul_left _ (by have:=t.big;omega)
 have:=t.Ev;have:=t.hU;have:=t.Epos
 omega
theorem topv:top / 4294967296≤v1:=by
 have h1:=t.Eu
 have h2:=t.lt
 have h3:=t.vE
 have h4:E * 4294967296 * top<E * 4294967296 * (4294967296 * (v1+1)):=by
  have:E * 4294967296 * (4294967296 * (v1+1))=4294967296 * (E * 4294967296 * (v1+1)):=by grind
  omega
 have:=Nat.lt_of_mul_lt_mul_left h4
 omega
theorem over {g r:Nat} (h:g * v1+r=top) (hr:4294967296≤r):g<4294967296:=by
 have h1:=t.topv
 have h2:g * v1<4294967296 * v1:=by omega
 exact Nat.lt_of_mul_lt_mul_right h2
theorem stop {g r:Nat} (h:g * v1+r=top) (hr:4294967296≤r):g * V<U+V:=by
 have hg:=t.over h hr
 have h1:=t.vE
 have h2:g * V≤g * (E * 4294967296 * (v1+1)):=Nat.mul_le_mul_left _ (Nat.le_of_lt h1)
 have e:g * (E * 4294967296 * (v1+1))=E * 4294967296 * (g * v1+g):=by grind
 have h3:E * 4294967296 * (g * v1+g)≤E * 4294967296 * top:=Nat.mul_le_mul_left _ (by omega)
 have:=t.Eu;have:=t.Vpos
 omega
end Zi7
def Zqu (X:Option Ra) (R:Nat→Option Ra) (q U V:Nat):Prop:=∃ g:Nat,X=R g∧q≤g∧g<4294967296∧g * V<U+V
theorem Zsm (N j0:Nat) (u v:List Int) (hu:Zp u) (hv:Zp v) (hn:2≤v.length) (hl:j0+v.length<u.length) (hs:v.length<4611686018427387904) {U V E lU lV top q:Nat} (hq:U / V=q)
  (t:Zi7 U V E (v[v.length - 1]).toNat (v[v.length - 2]).toNat (u[j0+v.length - 2]).toNat top lU lV) (htop:top<18446744073709551616):
  ∀ (n g r:Nat),g * (v[v.length - 1]).toNat+r=top→q≤g→r<4294967296→4294967296≤r+2147483648 * n→
  Zqu (Sn N j0 (v.length+1) u v n (g:Int) (r:Int)) (fun g'=>Ub j0 (v.length+1) v (g':Int) v 0 u 0 0) q U V
 | 0,g,r,_,_,h3,h4=>by omega
 | n+1,g,r,h1,h2,h3,h4=>by
  have i1:v.length - 1<v.length:=by omega
  have i2:v.length - 2<v.length:=by omega
  have i3:j0+v.length - 2<u.length:=by omega
  have c1:=hv.get i1
  have c2:=hv.get i2
  have c3:=hu.get i3
  have hbig:=t.big
  have hgb:g≤top:=by
   have:g * 1≤g * (v[v.length - 1]).toNat:=Nat.mul_le_mul_left _ (by omega)
   omega
  -- one less
  have less:q<g→Zqu (Zjv j0 (v.length+1) u v (g:Int) (r:Int) (Sn N j0 (v.length+1) u v n)) (fun g'=>Ub j0 (v.length+1) v (g':Int) v 0 u 0 0) q U V:=fun hlt=>by
   have hg1:(g - 1) * (v[v.length - 1]).toNat+(r+(v[v.length - 1]).toNat)=top:=by
    have:(g - 1+1) * (v[v.length - 1]).toNat+r=top:=by rw [show g - 1+1=g by omega];exact h1
    rw [Nat.add_mul] at this
    omega
   have ew:u64.wrap ((g:Int) - 1)=((g - 1:Nat):Int):=by rw [Xj (by omega)];omega
   have er:u64.wrap ((r:Int)+u64.wrap v[v.length - 1])=((r+(v[v.length - 1]).toNat:Nat):Int):=by rw [Xj (x:=v[v.length - 1]) (by omega),Xj (by omega)];omega
   rw [Zjv,Zr (by omega),show (v.length:Int) - 1=((v.length - 1:Nat):Int) by omega,Zy i1,oB,er,ew]
   by_cases hb:4294967296≤r+(v[v.length - 1]).toNat
   ·rw [if_pos (dT (by omega)),Zsn,ew]
    exact ⟨g - 1,rfl,by omega,t.over hg1 hb,t.stop hg1 hb⟩
   ·rw [if_neg (dF (by omega))]
    exact Zsm N j0 u v hu hv hn hl hs hq t htop n (g - 1) (r+(v[v.length - 1]).toNat) hg1 (by omega) (by omega) (by omega)
  have hquo:=t.quo
  rw [hq] at hquo
  rw [Sn.eq_2]
  by_cases hgb2:4294967295<g
  ·rw [if_pos (dT (by omega)),Zek,if_pos rfl]
   exact less (by omega)
  ·have hm:g * (v[v.length - 2]).toNat≤4294967295 * 4294967295:=Nat.mul_le_mul (by omega) (by omega)
   have em:(g:Int) * v[v.length - 2]=((g * (v[v.length - 2]).toNat:Nat):Int):=by
    rw [Int.natCast_mul];congr 1;omega
   rw [if_neg (dF (by omega)),if_pos (dT (by omega)),Zr (by omega),show (v.length:Int) - 2=((v.length - 2:Nat):Int) by omega,Zy i2,oB,Zz (by omega),show (j0:Int)+((v.length - 2:Nat):Int)=((j0+v.length - 2:Nat):Int) by omega,Zy i3,oB,Zek,
    Xj (x:=u[j0+v.length - 2]) (by omega),Zn0 (by omega) (by omega),Xj (x:=v[v.length - 2]) (by omega),em,Xj (by omega)]
   by_cases hc:r * 4294967296+(u[j0+v.length - 2]).toNat<g * (v[v.length - 2]).toNat
   ·rw [if_pos (dT (by omega))]
    exact less (by rw [← hq];exact t.great h1 hc)
   ·rw [if_neg (dF (by omega))]
    exact ⟨g,rfl,h2,by omega,t.fine (by omega) h1 (by omega)⟩
theorem Zo1 {u w:List Int} {j0 n P:Nat} (hP:4294967296 ^ (n+1)=P) (hl:j0+n<u.length) (hz:Zb (u.drop (j0+n+1))=0) (h1:w.length=u.length) (h2:Zp w) (h3:w.drop (j0+n+1)=u.drop (j0+n+1)):Zb (w.drop j0)<P:=by
 have:=Sw ((h2.drop j0).take (n+1))
 rw [nK,List.length_drop,Nat.min_eq_left (by omega),hP] at this
 have e:=U7 (w.drop j0) (n+1)
 rw [hP,List.drop_drop,← Nat.add_assoc,h3,hz] at e
 omega
theorem Zsr {u w:List Int} {j0 n P Q x y:Nat} (hP:4294967296 ^ (n+1)=P) (hQ:4294967296 ^ j0=Q) (h4:w.take j0=u.take j0) (h:Zb w+Q * x=Zb u+y * 4294967296 ^ (j0+n+1)):Zb (w.drop j0)+x=Zb (u.drop j0)+y * P:=by
 have pw:(4294967296:Nat) ^ (j0+n+1)=Q * P:=by rw [← hQ,← hP,← Nat.pow_add,Nat.add_assoc]
 have hp:0<Q:=by rw [← hQ];exact Nat.pow_pos (by decide)
 have s0:=U7 u j0
 have s1:=U7 w j0
 rw [h4] at s1
 rw [hQ] at s0 s1
 rw [pw,s0,s1] at h
 clear pw hP hQ s0 s1 h4
 refine Nat.eq_of_mul_eq_mul_left hp ?_
 grind
theorem Z2z {U V P q g over P1:Nat} (hq:U / V=q) (hV:0<V) (hg1:q≤g) (hg3:g * V<U+V) (k1:P1+g * V=U+over * P) (p1:P1<P):
  (over=0→g=q∧P1=U % V)∧(over=1→g=q+1∧∀ P2 co,V<P→P2<P→P2+co * P=P1+V→P2=U % V):=by
 have hq0:V * q+U % V=U:=by rw [← hq];exact Nat.div_add_mod _ _
 have hq1:=Nat.mod_lt U hV
 have hmono:∀ x y:Nat,x<y→x * V+V≤y * V:=fun x y hxy=>by
  have:=Nat.mul_le_mul_right V (show x+1≤y from hxy)
  rw [Nat.add_mul,Nat.one_mul] at this;exact this
 rw [Nat.mul_comm] at hq0
 constructor
 ·intro ho
  subst ho
  have hgq:g=q:=by
   have a2:¬ q<g:=fun h=>by
    have:=hmono _ _ h
    omega
   omega
  subst hgq
  exact ⟨rfl,by omega⟩
 ·intro ho
  subst ho
  have hgq:g=q+1:=by
   have a1:¬ g≤q:=fun h=>by
    have:=Nat.mul_le_mul_right V h
    omega
   have a2:¬ q+1<g:=fun h=>by
    have:=hmono _ _ h
    rw [Nat.add_mul,Nat.one_mul] at this
    omega
   omega
  refine ⟨hgq,fun P2 co hvP p2 k2=>?_⟩
  have hgv:g * V=q * V+V:=by rw [hgq,Nat.add_mul,Nat.one_mul]
  have hco:co=1:=by
   rcases Nat.lt_trichotomy co 1 with h | h | h
   ·have:co=0:=by omega
    subst this;omega
   ·exact h
   ·have:=Nat.mul_le_mul_right P (show 2≤co from h)
    omega
  subst hco
  omega
theorem Z20 {N j0:Nat} {u v:List Int} (hN:2≤N) (hu:Zp u) (hv:Zp v) (hn:2≤v.length) (hl:j0+v.length<u.length) (hs:u.length<4611686018427387904)
  (hz:Zb (u.drop (j0+v.length+1))=0) (hbig:2147483648≤(v[v.length - 1]).toNat) (hlt:Zb (u.drop j0)<4294967296 * Zb v):
  ∃ u',Zhh N j0 (v.length+1) u v=some (((Zb (u.drop j0) / Zb v:Nat):Int),u')∧u'.length=u.length∧Zp u'∧u'.take j0=u.take j0∧Zb (u'.drop j0)=Zb (u.drop j0) % Zb v∧Zb (u.drop j0) / Zb v<4294967296:=by
 have i1:v.length - 1<v.length:=by omega
 have i2:v.length - 2<v.length:=by omega
 have i3:j0+v.length - 2<u.length:=by omega
 have i4:j0+v.length - 1<u.length:=by omega
 have c1:=hv.get i1
 have c2:=hv.get i2
 have c3:=hu.get i3
 have c4:=hu.get i4
 have c5:=hu.get hl
 -- the Ze above
 have dV:Zb v=Zb (v.take (v.length - 2))+4294967296 ^ (v.length - 2) * ((v[v.length - 2]).toNat+4294967296 * (v[v.length - 1]).toNat):=by
  rw [U7 v (v.length - 2),Ud i2,show v.length - 2+1=v.length - 1 by omega,Ud i1,show v.length - 1+1=v.length by omega,List.drop_length,Yk];simp
 have dU:Zb (u.drop j0)=Zb ((u.drop j0).take (v.length - 2))+4294967296 ^ (v.length - 2) * ((u[j0+v.length - 2]).toNat+4294967296 * ((u[j0+v.length]).toNat * 4294967296+(u[j0+v.length - 1]).toNat)):=by
  have e3:j0+(v.length - 2)=j0+v.length - 2:=by omega
  rw [U7 (u.drop j0) (v.length - 2),List.drop_drop,e3,Ud i3,show j0+v.length - 2+1=j0+v.length - 1 by omega,Ud i4,show j0+v.length - 1+1=j0+v.length by omega,Ud hl,hz]
  congr 3
  omega
 have lV:=Sw (hv.take (v.length - 2))
 have lU:=Sw ((hu.drop j0).take (v.length - 2))
 rw [nK,Nat.min_eq_left (by omega)] at lV
 rw [nK,List.length_drop,Nat.min_eq_left (by omega)] at lU
 have t:Zi7 (Zb (u.drop j0)) (Zb v) (4294967296 ^ (v.length - 2)) (v[v.length - 1]).toNat (v[v.length - 2]).toNat (u[j0+v.length - 2]).toNat ((u[j0+v.length]).toNat * 4294967296+(u[j0+v.length - 1]).toNat) _ _:=
  ⟨dU,dV,lU,lV,by omega,by omega,by omega,hbig,hlt⟩
 have hV:=t.Vpos
 have htop:(u[j0+v.length]).toNat * 4294967296+(u[j0+v.length - 1]).toNat<18446744073709551616:=by omega
 obtain ⟨q,hq⟩:∃ q,Zb (u.drop j0) / Zb v=q:=⟨_,rfl⟩
 obtain ⟨g,hg0,hg1,hg2,hg3⟩:=Zsm N j0 u v hu hv hn hl (by omega) hq t htop N _ _ (Nat.div_add_mod' _ _) (by rw [← hq];exact t.first) (Nat.lt_of_lt_of_le (Nat.mod_lt _ (by omega)) (by omega)) (by omega)
 have e0:Zhh N j0 (v.length+1) u v=Ub j0 (v.length+1) v (g:Int) v 0 u 0 0:=by
  refine Eq.trans ?_ hg0
  rw [Zhh,Zz (by omega),show (j0:Int)+(v.length:Int)=((j0+v.length:Nat):Int) by omega,Zy hl,oB,Zr (by omega),show (v.length:Int) - 1=((v.length - 1:Nat):Int) by omega,Zz (by omega),
   show (j0:Int)+((v.length - 1:Nat):Int)=((j0+v.length - 1:Nat):Int) by omega,Zy i4,oB,Zy i1,oB,Xj (x:=v[v.length - 1]) (by omega),Zz (by omega),Zz (by omega),Xj (x:=u[j0+v.length]) (by omega),Xj (x:=u[j0+v.length - 1]) (by omega),Zn0 (by omega) (by omega)]
  have ev:v[v.length - 1]=((v[v.length - 1]).toNat:Int):=by omega
  have et:u[j0+v.length] * 4294967296+u[j0+v.length - 1]=(((u[j0+v.length]).toNat * 4294967296+(u[j0+v.length - 1]).toNat:Nat):Int):=by omega
  rw [et,ev,Int.tdiv_eq_ediv_of_nonneg (by omega),Int.tmod_eq_emod_of_nonneg (by omega),← Int.natCast_ediv,← Int.natCast_emod,Int.toNat_natCast]
  rw [Xj ⟨Int.natCast_nonneg _,Int.ofNat_lt.2 (Nat.lt_of_le_of_lt (Nat.div_le_self _ _) htop)⟩]
 obtain ⟨u1,over,q0,q1,q2,q3,q4,q5,q6⟩:=Zsp j0 v (g:Int) (by omega) v 0 u 0 0 hv (by omega) hu hl (by omega) (by omega)
 have hquo:=t.quo
 rw [hq] at hquo ⊢
 rw [e0,q1]
 obtain ⟨P,hP⟩:∃ P:Nat,4294967296 ^ (v.length+1)=P:=⟨_,rfl⟩
 obtain ⟨Q,hQ⟩:∃ Q:Nat,4294967296 ^ j0=Q:=⟨_,rfl⟩
 simp only [Nat.add_zero,Int.toNat_zero,Int.toNat_natCast,Nat.zero_add] at q6
 rw [hQ] at q6
 have k1:=Zsr hP hQ q4 q6
 have p1:=Zo1 hP hl hz q2 q3 q5
 have hvP:Zb v<P:=by
  have:=Sw hv
  have h2:=Zo1 (u:=v++[0]) (w:=v++[0]) (j0:=0) (n:=v.length) hP (by simp) (by simp [Zb]) rfl (hv.app (.cons (by decide) .nil)) rfl
  rw [List.drop_zero,Zvl] at h2
  exact h2
 have k3:=Z2z hq hV hg1 hg3 k1 p1
 by_cases ho:over=1
 ·obtain ⟨e1,e2⟩:=k3.2 ho
  subst ho
  rw [if_pos rfl]
  obtain ⟨u2,co,r1,r2,r3,r4,r5,r6⟩:=Zsq j0 v (g:Int) v 0 u1 0 hv (by omega) q3 (by omega) (by omega)
  have p2:=Zo1 hP hl hz (by omega) r3 (by rw [r5,q5])
  simp only [Nat.add_zero,Int.toNat_zero,Nat.zero_add] at r6
  rw [hQ] at r6
  have k2:=Zsr (u:=u2) (w:=u1) (x:=Zb v) (y:=co) hP hQ (by rw [r4]) r6.symm
  refine ⟨u2,?_,by omega,r3,by rw [r4,q4],e2 _ co hvP p2 k2.symm,hquo⟩
  rw [r1,Xj (by omega),V6 (by omega)]
  congr 2;omega
 ·obtain ⟨e1,e2⟩:=k3.1 (by omega)
  rw [if_neg ho,Zbd,V6 (by omega)]
  exact ⟨u1,by rw [e1],q2,q3,q4,e2,hquo⟩
def Zcn (N:Nat):Nat→R2→R2→Option R2
  | 0,_,_=>none
  | ac+1,ab,aa=>if (decide (0<(aa.length:Int)))=true then ((Zeh N ab aa).bind fun ad=>(Zcn N ac) aa ad.2.1) else (some ab)
termination_by structural x=>x
def Zju (N:Nat) (aa:List Int) (ab:List Int):Option R2:=
  (Uv N aa).bind fun ac=>(Uv N ab).bind fun ad=>Zcn N N ac ad
theorem Z0y {N ar au:Nat} {a0 a1:Option Addr} {col:Zd} {w0:World} {ak al r:R2} (c1:Nat) (hm:Zju N ak al=some r) (h0:Sl (Za.int .u32) col w0 a0 ar ak) (h1:Sl (Za.int .u32) col w0 a1 au al):
    Calls prog 259 #[.slice a0 ak.length ar,.slice a1 al.length au] w0 (fun e w'=>∃ (col':Zd) (ra1:Option Addr) (rc2:Nat),e= .returned ((.slice ra1 r.length rc2))∧Zg col w0 col' w'∧Zc (Za.int .u32) 79 c1 col' w' ra1 rc2 r):=by
 refine Xc 4 (m:=25) func259 rfl rfl rfl rfl rfl ?_;rw [Zju.eq_1] at hm;have aa:=St.start col w0;refine go ?_;obtain ⟨a9,a3,hm⟩:=bZ hm;replace h0:=h0.keep (Zf.start col w0);refine Zi (Sa 1 a3 (h0.ks aa)) ?_;rintro _ ba ⟨bb,bc,bd,rfl,a4,am⟩;refine ⟨_,rfl,?_⟩;refine Yr rfl ?_;obtain ⟨be,a5,hm⟩:=bZ hm;replace h1:=h1.keep (Zf.start col w0);replace aa:=aa.grow a4;refine Zi (Sa 2 a5 (h1.ks aa)) ?_;rintro _ bf ⟨bg,bh,bi,rfl,av,a6⟩;refine ⟨_,rfl,go ?_⟩;replace am:=am.gr av;replace aa:=aa.grow av;refine Zw [1000000] (fun n f ag=>∃ ac an ao ai ap aq aj ae,ae=n∧Zcn N ae ai aj=some r∧St w0 (Zh col) ac ag∧Zc (Za.int .u32) 79 1 ac ag an ao ai∧Zc (Za.int .u32) 79 2 ac ag ap aq aj∧[0,1].map f=[.slice an ai.length ao,.slice ap aj.length aq]) N ⟨_,_,_,_,_,_,_,_,rfl,hm,aa,am,a6,rfl⟩ ?_;clear hm;intro n f ag hI;obtain ⟨ac,an,ao,ai,ap,aq,aj,ae,hn,hm,aa,aw,ab,hs⟩:=hI;subst hn;refine .lL [0,1] hs ?_
 cases ae with
 | zero=>rw [Zcn.eq_1] at hm;cases hm
 | succ ae=>
  rw [Zcn.eq_2] at hm;refine go ?_;refine Zo hm (fun hb hm=>go ?_) fun hb hm=>go ?_
  ·obtain ⟨af,a7,hm⟩:=bZ hm;refine Zi (Zoj 3 4 a7 ((aw.toSlF (Zn.int .u32)).froz 2) ((ab.froz 1 (by decide)).toSlF (Zn.int .u32))) ?_;rintro _ bj ⟨a8,ax,ay,az,a2,rfl,ah,bk,ad⟩;refine ⟨_,rfl,?_⟩;replace ad:=ad.thaw (Z3 .u32) ah (((Fz.refl (col:=ac)).froz 1).froz 2) (by decide);replace ah:=ah.thawR (col:=ac);generalize Xf ag.heap.size ac a8=bm at *;refine lM (.tuple #[.slice ax af.1.length ay,.slice az af.2.1.length a2,.int .i64 af.2.2])<|lV (.slice ax af.1.length ay) (Xv rfl rfl)<|lV (.slice az af.2.1.length a2) (Xv rfl rfl)<|lV (.int .i64 af.2.2) (Xv rfl rfl)<|go ?_;replace ab:=ab.gr ah;replace ab:=ab.recolSelf 1 (by decide);replace ad:=ad.recol 2 1 (by decide);replace aa:=aa.grow ah;replace aa:=aa.recol 2 1 (by decide) (by decide);replace ab:=ab.recol 4 2 (by decide);replace ad:=ad.recolSelf 2 (by decide);replace aa:=aa.recol 4 2 (by decide) (by decide);exact ⟨ae,by omega,rfl,⟨_,_,_,_,_,_,_,_,rfl,hm,aa,ab,ad,rfl⟩⟩
  cases hm;exact ⟨rfl,_,_,_,rfl,aa.fin (cm [(1,c1)]),aa.fo aw⟩
theorem Zzi (N:Nat):∀ (n:Nat) (a:List Int),Zbf N n a=Tz N n a
 | 0,a=>rfl
 | n+1,a=>by
  rw [Zbf.eq_2,Tz.eq_2]
  simp only [Zj0,Zbe,Zzi N n]
theorem Zzj {N:Nat} {a:List Int} (h:Zp a) (hn:a.length<N) (hb:a.length≤1099511627776):Zen N a=some (Ze (Zb a)):=by
 rw [Zen,Zzi];exact Znz N N a h hn (by omega)
theorem Z6q {x L nx s:Nat} (hs:s<32) (hx:x<4294967296) (hn:nx=L % 4294967296):(x+4294967296 * L) / 2 ^ s=(x+4294967296 * nx) / 2 ^ s % 4294967296+4294967296 * (L / 2 ^ s):=by
 have pw:(2:Nat) ^ s * 2 ^ (32 - s)=4294967296:=by rw [← Nat.pow_add,show s+(32 - s)=32 by omega]
 have hp:=Nat.two_pow_pos s
 generalize 2 ^ s=p at *
 generalize 2 ^ (32 - s)=r at *
 have h1:(x+4294967296 * L) / p / 4294967296=L / p:=by
  rw [Nat.div_div_eq_div_mul,Nat.mul_comm p,← Nat.div_div_eq_div_mul]
  congr 1
  omega
 have h2:(x+4294967296 * L) / p % 4294967296=(x+4294967296 * nx) / p % 4294967296:=by
  have e:x+4294967296 * L=x+4294967296 * nx+p * (4294967296 * (r * (L / 4294967296))):=by
   have e1:L=nx+4294967296 * (L / 4294967296):=by omega
   have e2:p * (4294967296 * (r * (L / 4294967296)))=4294967296 * (p * r) * (L / 4294967296):=by grind
   rw [e2,pw]
   omega
  rw [e,Nat.add_mul_div_left _ _ hp,Nat.add_mul_mod_self_left]
 rw [← h1,← h2]
 omega
theorem Zsv (N s:Nat) (hs:s<32) (q r:List Int) (hq:Zp q) (hr:Zp r) (hN:q.length<N∧r.length<N) (hb:q.length≤1099511627776∧r.length≤1099511627776):∀ (n i:Nat) (u d:List Int),i≤r.length→r.length<n+i→u=d++r.drop i→d.length=i→Zp d→Zb d+4294967296 ^ i * (Zb (r.drop i) / 2 ^ s)=Zb r / 2 ^ s→
  Sm N (s:Int) q r n u (i:Int)=some (Ze (Zb q),Ze (Zb r / 2 ^ s),0)
 | 0,i,u,d,h1,h2,_,_,_,_=>by omega
 | n+1,i,u,d,h1,h2,hu,hd,hld,hv=>by
  have hul:u.length=r.length:=by rw [hu,nA,List.length_drop];omega
  rw [Sm.eq_2]
  by_cases hi:i<r.length
  ·have hdr:=List.drop_eq_getElem_cons hi
   have g:=hr.get hi
   have ui:u[i]'(by omega)=r[i]:=by
    subst hu
    rw [List.getElem_append_right (by omega)]
    simp [hd]
   have step:∀ nx:Nat,nx=Zb (r.drop (i+1)) % 4294967296→Zhf (s:Int) u (i:Int) (Sm N (s:Int) q r n) (nx:Int)=some (Ze (Zb q),Ze (Zb r / 2 ^ s),0):=fun nx hnx=>by
    have hw:u32.wrap (Yn .u64 (Y7 .u64 (X6 .u64 (u64.wrap (nx:Int)) 32) (u64.wrap r[i])) (s:Int))=(((r[i]).toNat+4294967296 * nx) / 2 ^ s % 4294967296:Nat):=by
     rw [Xj (x:=(nx:Int)) (by omega),Xj (x:=r[i]) (by omega),Zn0 (by omega) (by omega),show (nx:Int) * 4294967296+r[i]=(((r[i]).toNat+4294967296 * nx:Nat):Int) by omega,Znw _ _ _ (by simp only [IntKind.bits];omega),Zzr]
    have hset:u.set i ((((r[i]).toNat+4294967296 * nx) / 2 ^ s % 4294967296:Nat):Int)=(d++[((((r[i]).toNat+4294967296 * nx) / 2 ^ s % 4294967296:Nat):Int)])++r.drop (i+1):=by
     subst hu
     rw [hdr,List.set_append_right _ _ (by omega),hd,Nat.sub_self,List.set_cons_zero]
     simp
    rw [Zhf,Zy (by omega),oB,Zz (by omega),ui,hw,oB,Zmj,Zr (by omega),Int.toNat_natCast,hset]
    have ih:=Zsv N s hs q r hq hr hN hb n (i+1) _ (d++[((((r[i]).toNat+4294967296 * nx) / 2 ^ s % 4294967296:Nat):Int)]) (by omega) (by omega) rfl (by simp [hd]) (hld.app (.cons (by omega) .nil)) (by
     rw [Sv,hd,Wg,Yk,Int.toNat_natCast,← hv,hdr,Wg,Z6q hs (by omega) hnx,Nat.pow_succ]
     generalize ((r[i]).toNat+4294967296 * nx) / 2 ^ s % 4294967296=A
     generalize Zb (r.drop (i+1)) / 2 ^ s=C
     grind)
    exact ih
   rw [if_pos (dT (by omega)),Zr (by omega)]
   by_cases hi1:i+1<r.length
   ·have u1:u[i+1]'(by omega)=r[i+1]:=by
     subst hu
     rw [List.getElem_append_right (by omega)]
     simp [hd]
    have g1:=hr.get hi1
    rw [if_pos (dT (by omega)),show (i:Int)+1=((i+1:Nat):Int) by omega,Zy (by omega),oB,u1,show r[i+1]=((r[i+1]).toNat:Int) by omega]
    exact step _ (by rw [Ud hi1];omega)
   ·rw [if_neg (dF (by omega))]
    have:=step 0 (by rw [List.drop_eq_nil_of_le (by omega)];rfl)
    exact this
  ·have:i=r.length:=by omega
   subst this
   rw [if_neg (dF (by omega))]
   rw [List.drop_length,List.append_nil] at hu
   rw [List.drop_length,Yk,Nat.zero_div,Nat.mul_zero,Nat.add_zero] at hv
   subst hu
   rw [Sx hq hN.1 hb.1,oB,Sx hld (by omega) (by omega),oB,hv]
theorem Zsu (N s:Nat) (v:List Int) (hN:2≤N) (hv:Zp v) (hn:2≤v.length) (hbig:2147483648≤(v[v.length - 1]).toNat):∀ (n j:Nat) (u q:List Int),j≤q.length→j<n→u.length=q.length+v.length→u.length<4611686018427387904→Zp u→Zp q→Zb (u.drop j)<Zb v→Zb (q.take j)=0→
  ∃ u' q',Zei N (s:Int) v n u q ((j:Int) - 1)=((Zen N u').bind fun r=>Sm N (s:Int) q' r N r 0)∧u'.length=u.length∧q'.length=q.length∧Zp u'∧Zp q'∧Zb u'<Zb v∧Zb v * Zb q'+Zb u'=Zb v * Zb q+Zb u
 | 0,j,u,q,_,h,_,_,_,_,_,_=>by omega
 | n+1,j,u,q,hj,hjn,hl,hs,hu,hq,hlt,hz=>by
  rw [Zei.eq_2]
  by_cases h0:j=0
  ·subst h0
   rw [if_neg (by decide)]
   exact ⟨u,q,rfl,rfl,rfl,hu,hq,by simpa using hlt,rfl⟩
  ·have e1:j - 1+1=j:=by omega
   have hi:j - 1<u.length:=by omega
   have hqi:j - 1<q.length:=by omega
   have g:=hu.get hi
   have lv:=Sw hv
   have sp:=U7 (u.drop j) v.length
   rw [List.drop_drop] at sp
   have hz2:Zb (u.drop (j - 1+v.length+1))=0:=by
    rw [show j - 1+v.length+1=j+v.length by omega]
    rcases Nat.eq_zero_or_pos (Zb (u.drop (j+v.length))) with h | h
    ·exact h
    ·have:=Nat.mul_le_mul_left (4294967296 ^ v.length) h
     generalize 4294967296 ^ v.length=P at *
     omega
   have d1:=Ud hi
   rw [e1] at d1
   obtain ⟨u',q1,q2,q3,q4,q5,q6⟩:=Z20 (N:=N) (j0:=j - 1) hN hu hv hn (by omega) hs hz2 hbig (by omega)
   have hqs:0≤((Zb (u.drop (j - 1)) / Zb v:Nat):Int)∧((Zb (u.drop (j - 1)) / Zb v:Nat):Int)<4294967296:=⟨Int.natCast_nonneg _,Int.ofNat_lt.2 q6⟩
   rw [if_pos (dT (by omega)),show (j:Int) - 1=((j - 1:Nat):Int) by omega,Zr (x:=((j - 1:Nat):Int)+(v.length:Int)) (by omega),Zr (by omega),Zz (by omega),Int.toNat_natCast,
    show Int.toNat (((j - 1:Nat):Int)+(v.length:Int)+1) - (j - 1)=v.length+1 by omega,q1,oB,Zy hqi,oB,oB,Zr (by omega)]
   have vp:0<Zb v:=by omega
   -- the quotient's limb was 0
   have zq:q[j - 1]=0∧Zb (q.take (j - 1))=0:=by
    have:=Zpp hqi
    rw [e1,hz] at this
    have g2:=hq.get hqi
    have hp:0<4294967296 ^ (j - 1):=Nat.pow_pos (by decide)
    have h3:4294967296 ^ (j - 1) * (q[j - 1]).toNat=0:=by omega
    rcases Nat.mul_eq_zero.1 h3 with h | h
    ·omega
    ·exact ⟨by omega,by omega⟩
   obtain ⟨u2,q2',r1,r2,r3,r4,r5,r6,r7⟩:=Zsu N s v hN hv hn hbig n (j - 1) u' (q.set (j - 1) ((Zb (u.drop (j - 1)) / Zb v:Nat):Int)) (by rw [nS];omega) (by omega) (by rw [nS,q2];exact hl) (by omega) q3 (hq.set _ hqs) (by rw [q5];exact Nat.mod_lt _ vp) (by rw [Zdj _ (Nat.le_refl _)];exact zq.2)
   refine ⟨u2,q2',r1,by rw [r2,q2],by rw [r3,nS],r4,r5,r6,?_⟩
   rw [r7]
   have s0:=U7 u (j - 1)
   have s1:=U7 u' (j - 1)
   rw [q4,q5] at s1
   have s2:=U6 hqi ((Zb (u.drop (j - 1)) / Zb v:Nat):Int)
   rw [zq.1,Int.toNat_zero,Nat.mul_zero,Nat.add_zero,Int.toNat_natCast] at s2
   rw [s1,s2,s0]
   have hdm:=Nat.div_add_mod (Zb (u.drop (j - 1))) (Zb v)
   generalize Zb (u.drop (j - 1)) / Zb v=a at *
   generalize Zb (u.drop (j - 1)) % Zb v=b at *
   rw [← hdm]
   generalize 4294967296 ^ (j - 1)=Q at *
   grind
theorem Zzf {l:List Int} (h:0<l.length):Zb l=Zb (l.take (l.length - 1))+4294967296 ^ (l.length - 1) * (l[l.length - 1]).toNat:=by
 conv=>lhs;rw [← Zgk h,Sv,Wg,Yk]
 rw [nK,Nat.min_eq_left (by omega),Nat.mul_zero,Nat.add_zero]
theorem Zzg {l:List Int} (hl:Zp l):Zb (l.take (l.length - 1))<4294967296 ^ (l.length - 1):=by
 have:=Sw (hl.take (l.length - 1))
 rw [nK,Nat.min_eq_left (by omega)] at this
 exact this
theorem Z23 {u:List Int} {k n S:Nat} (hu:Zp u) (hk:k+n=u.length) (hn:0<n) (ht:∀ h:u.length - 1<u.length,(u[u.length - 1]).toNat<S):Zb (u.drop k)<4294967296 ^ (n - 1) * S:=by
 have hl:(u.drop k).length=n:=by rw [List.length_drop];omega
 have h1:=Zzf (l:=u.drop k) (by omega)
 have h2:=Zzg (hu.drop k)
 have h3:((u.drop k)[(u.drop k).length - 1]'(by omega))=u[u.length - 1]'(by omega):=by
  have:(u.drop k)[(u.drop k).length - 1]?=u[u.length - 1]?:=by rw [List.getElem?_drop,hl];congr 1;omega
  rw [List.getElem?_eq_getElem (by omega),List.getElem?_eq_getElem (by omega)] at this
  exact Option.some.inj this
 rw [h3] at h1
 rw [hl] at h1 h2
 have h4:=ht (by omega)
 have h5:=Nat.mul_le_mul_left (4294967296 ^ (n - 1)) (show (u[u.length - 1]'(by omega)).toNat+1≤S from h4)
 rw [Nat.mul_add] at h5
 omega
theorem Zl0 {N:Nat} {a b:List Int} (ha:Zp a) (hb:Zp b) (hN:a.length+b.length+4<N) (hs:a.length+b.length≤549755813888):
  Zeh N a b=some (if Zb b=0 then ([],[],11) else (Ze (Zb a / Zb b),Ze (Zb a % Zb b),0)):=by
 have la:=Yc ha
 have lb:=Yc hb
 rw [Zeh,S5 ha (by omega) (by omega),oB,S5 hb (by omega) (by omega),oB]
 generalize hA:Zb a=A at *
 generalize hB:Zb b=B at *
 by_cases h0:B=0
 ·subst h0
  rw [W2,if_pos (by decide),if_pos rfl]
 ·have hbp:0<(Ze B).length:=List.length_pos_iff.2 (fun h=>h0 (Zgl.1 h))
  rw [if_neg (dF (by omega)),if_neg h0,Zoy (Z8 _) (Z8 _) (by omega) (by omega) (by omega) (by omega),oB,Z9,Z9]
  by_cases hlt:A<B
  ·rw [if_pos hlt,if_pos (by decide),Sx (Z8 _) (by omega) (by omega),oB,Z9,Nat.div_eq_of_lt hlt,Nat.mod_eq_of_lt hlt,W2]
  ·rw [if_neg hlt,if_neg (by split <;> decide)]
   have hlen:(Ze B).length≤(Ze A).length:=by
    have h1:=Wv (k:=(Ze A).length) (n:=B)
    have h2:=Wv (k:=(Ze A).length) (n:=A)
    have:=h2.1 (Nat.le_refl _)
    exact h1.2 (by omega)
   by_cases h1:(Ze B).length=1
   ·have g:=(Z8 B).get hbp
    have hne:=Zl9 hbp
    have e0:(Ze B).length - 1=0:=by omega
    have hne0:(Ze B)[0]≠0:=by
     have:(Ze B)[(Ze B).length - 1]?=(Ze B)[0]?:=by rw [e0]
     rw [List.getElem?_eq_getElem (by omega),List.getElem?_eq_getElem (by omega)] at this
     rw [← Option.some.inj this];exact hne
    have eB:((Ze B)[0]).toNat=B:=by
     have h2:=Z9 B
     have h3:=Ud (l:=Ze B) (k:=0) hbp
     rw [List.drop_zero,h2,List.drop_eq_nil_of_le (by omega),Yk] at h3
     omega
    obtain ⟨q,q1,q2,q3,q4⟩:=Z6s (N:=N) (a:=Ze A) (d:=(Ze B)[0]) (by omega) (Z8 _) (by omega) (by omega)
    rw [eB,Z9] at q1 q4
    have hm:=Nat.mod_lt A (show 0<B by omega)
    have hB32:B<4294967296:=by omega
    have hml:Zp [((A % B:Nat):Int)]:=.cons ⟨Int.natCast_nonneg _,Int.ofNat_lt.2 (Nat.lt_trans hm hB32)⟩ .nil
    rw [if_pos (dT (by omega)),Zow (by omega),oB,show (0:Int)=((0:Nat):Int) from rfl,Zy hbp,oB,q1,oB,Sx q3 (by omega) (by omega),oB,Sx hml (by simp;omega) (by simp),oB,q4,Wg,Yk,Int.toNat_natCast,Nat.mul_zero,Nat.add_zero]
   ·have hp:0<(Ze B).length:=hbp
    have i1:(Ze B).length - 1<(Ze B).length:=by omega
    have g:=(Z8 B).get i1
    have hne:=Zl9 hbp
    obtain ⟨k,ek,k1,k2⟩:=Zlo (show ((Ze B)[(Ze B).length - 1]).toNat≠0 by omega)
    have hk:k≤31:=by
     have:Xi ((Ze B)[(Ze B).length - 1]).toNat≤32:=V2.2 (by omega)
     omega
    obtain ⟨s,hs'⟩:∃ s,s=31 - k:=⟨_,rfl⟩
    have hlz:Zjp (Ze B)[(Ze B).length - 1]=some (s:Int):=by
     rw [Zjp,show (Ze B)[(Ze B).length - 1]=(((Ze B)[(Ze B).length - 1]).toNat:Int) by omega,Zug (by omega),oB,ek,Zr (by omega)]
     congr 1;omega
    obtain ⟨u,u1,u2,u3,u4,u5⟩:=Zuf (a:=Ze A) (s:=s) (by omega) (Z8 _) (by omega)
    obtain ⟨w,w1,w2,w3,w4,w5⟩:=Zuf (a:=Ze B) (s:=s) (by omega) (Z8 _) (by omega)
    rw [Z9] at u4 w4
    have hps:=Nat.two_pow_pos s
    -- the divisor, its highest Yp set
    have hsp:=Zgk hp
    have htl:=Sw ((Z8 B).take ((Ze B).length - 1))
    rw [nK,Nat.min_eq_left (by omega)] at htl
    have eB:B=Zb ((Ze B).take ((Ze B).length - 1))+4294967296 ^ ((Ze B).length - 1) * ((Ze B)[(Ze B).length - 1]).toNat:=by
     conv=>lhs;rw [← Z9 B,← hsp,Sv,Wg,Yk]
     rw [nK,Nat.min_eq_left (by omega)];simp
    have pk:2 ^ k * 2 ^ s=2147483648:=by rw [← Nat.pow_add,hs',show k+(31 - k)=31 by omega]
    have pk1:2 ^ (k+1) * 2 ^ s=4294967296:=by rw [Nat.pow_succ,Nat.mul_right_comm,pk]
    have hPp:0<4294967296 ^ ((Ze B).length - 1):=Nat.pow_pos (by decide)
    have hlb1:(Ze B).length - 1+1=(Ze B).length:=by omega
    have pwl:(4294967296:Nat) ^ (Ze B).length=4294967296 ^ ((Ze B).length - 1) * 4294967296:=by rw [← Nat.pow_succ];congr 1;omega
    generalize hPe:4294967296 ^ ((Ze B).length - 1)=P at *
    have top1:P * 2147483648≤2 ^ s * B:=by
     have h1:=Nat.mul_le_mul_left P k1
     have h2:=Nat.mul_le_mul_right (2 ^ s) (show P * 2 ^ k≤B by omega)
     rw [Nat.mul_assoc,pk] at h2
     rw [Nat.mul_comm (2 ^ s)];exact h2
    have top2:2 ^ s * B<P * 4294967296:=by
     have h1:=Nat.mul_le_mul_left P (show ((Ze B)[(Ze B).length - 1]).toNat+1≤2 ^ (k+1) from k2)
     rw [Nat.mul_add] at h1
     have h2:=Nat.mul_lt_mul_of_pos_right (show B<P * 2 ^ (k+1) by omega) hps
     rw [Nat.mul_assoc,pk1] at h2
     rw [Nat.mul_comm (2 ^ s)];exact h2
    have hv0:(Ze (2 ^ s * B)).length=(Ze B).length:=by
     have h1:(Ze (2 ^ s * B)).length≤(Ze B).length:=Wv.2 (by rw [pwl];exact top2)
     have h2:¬ (Ze (2 ^ s * B)).length≤(Ze B).length - 1:=fun h=>by
      have:=Wv.1 h
      rw [hPe] at this
      have:P * 1≤P * 2147483648:=Nat.mul_le_mul_left _ (by decide)
      omega
     omega
    have hvp:0<(Ze (2 ^ s * B)).length:=by omega
    have hbig:2147483648≤((Ze (2 ^ s * B))[(Ze (2 ^ s * B)).length - 1]).toNat:=by
     have tl':=Zzg (Z8 (2 ^ s * B))
     have e:=Zzf hvp
     have ePP:(4294967296:Nat) ^ ((Ze (2 ^ s * B)).length - 1)=P:=by rw [hv0];exact hPe
     rw [Z9,ePP] at e
     rw [ePP] at tl'
     generalize Zb ((Ze (2 ^ s * B)).take ((Ze (2 ^ s * B)).length - 1))=lo at *
     generalize ((Ze (2 ^ s * B))[(Ze (2 ^ s * B)).length - 1]).toNat=t at *
     have h3:P * 2147483648<P * (t+1):=by rw [Nat.mul_add];omega
     have:=Nat.lt_of_mul_lt_mul_left h3
     omega
    obtain ⟨q,hq⟩:∃ q,q=List.replicate ((Ze A).length - (Ze B).length+1) (0:Int):=⟨_,rfl⟩
    have lq:q.length=(Ze A).length - (Ze B).length+1:=by rw [hq,List.length_replicate]
    rw [if_neg (dF (by omega)),Zr (x:=((Ze B).length:Int) - 1) (by omega),show ((Ze B).length:Int) - 1=(((Ze B).length - 1:Nat):Int) by omega,Zy i1,oB,hlz,oB,u1,oB,w1,oB,
     Zzj w3 (by omega) (by omega),oB,w4,Zr (x:=((Ze A).length:Int) - ((Ze B).length:Int)) (by omega),Zr (x:=((Ze A).length:Int) - ((Ze B).length:Int)+1) (by omega),Zz (by simp only [maxLen];omega),
     show Int.toNat (((Ze A).length:Int) - ((Ze B).length:Int)+1)=(Ze A).length - (Ze B).length+1 by omega,← hq,Zr (x:=(q.length:Int) - 1) (by omega)]
    obtain ⟨u',q',r1,r2,r3,r4,r5,r6,r7⟩:=Zsu N s (Ze (2 ^ s * B)) (by omega) (Z8 _) (by omega) hbig N q.length u q (Nat.le_refl _) (by omega) (by omega) (by omega) u3 (by rw [hq];exact .zeros _) (by
     -- the highest Ze are below the divisor
     rw [Z9]
     have h1:=Z23 (k:=q.length) (n:=(Ze B).length) u3 (by omega) hp u5
     rw [hPe] at h1
     have hs31:2 ^ s≤2147483648:=by
      have:=Nat.pow_le_pow_right (n:=2) (by decide) (show s≤31 by omega)
      omega
     have h8:=Nat.mul_le_mul_left P hs31
     omega) (by rw [hq,List.take_replicate];exact Tm _)
    rw [r1,Zzj r4 (by omega) (by omega),oB]
    rw [Z9] at r6 r7
    have zq:Zb q=0:=by rw [hq];exact Tm _
    rw [zq,u4,Nat.mul_zero,Nat.zero_add] at r7
    have ll:=Yc r4
    have hfin:=Zsv N s (by omega) q' (Ze (Zb u')) r5 (Z8 _) (by omega) (by omega) N 0 (Ze (Zb u')) [] (by omega) (by omega) (by simp) rfl .nil (by rw [Yk,List.drop_zero,Nat.pow_zero];omega)
    rw [show ((0:Nat):Int)=0 from rfl] at hfin
    rw [hfin,Z9]
    have hqv:Zb q'=A / B:=by
     have h9:2 ^ s * A / (2 ^ s * B)=Zb q':=by
      rw [← r7,Nat.mul_add_div (by omega),Nat.div_eq_of_lt r6,Nat.add_zero]
     rw [← h9,Nat.mul_div_mul_left _ _ hps]
    have hrv:Zb u' / 2 ^ s=A % B:=by
     have h9:2 ^ s * A % (2 ^ s * B)=Zb u':=by
      rw [← r7,Nat.mul_add_mod,Nat.mod_eq_of_lt r6]
     rw [Nat.mul_mod_mul_left] at h9
     rw [← h9,Nat.mul_div_cancel_left _ hps]
    rw [hqv,hrv]
theorem Z30 {x y:Nat} (h:y≤x) (hy:0<y):y * (x % y)≤x * y / 2:=by
 have h1:x % y+y≤x:=by
  have:=Nat.mod_add_div x y
  have h2:y * 1≤y * (x / y):=Nat.mul_le_mul_left _ (Nat.div_pos h hy)
  omega
 have h2:=Nat.mod_lt x hy
 have h3:y * (2 * (x % y))≤y * x:=Nat.mul_le_mul_left _ (by omega)
 rw [Nat.le_div_iff_mul_le (by decide),Nat.mul_comm x y,Nat.mul_assoc,Nat.mul_comm (x % y) 2]
 exact h3
theorem Zo7 (N:Nat):∀ (n x y:Nat),y≤x→Xi (x * y)<n→(Ze x).length+(Ze y).length+4<N→(Ze x).length+(Ze y).length≤549755813888→Zcn N n (Ze x) (Ze y)=some (Ze (Nat.gcd x y))
 | 0,x,y,_,h,_,_=>by omega
 | n+1,x,y,hxy,hn,hN,hs=>by
  rw [Zcn.eq_2]
  by_cases h0:y=0
  ·subst h0
   rw [W2,if_neg (by decide),Nat.gcd_zero_right]
  ·have hp:0<(Ze y).length:=List.length_pos_iff.2 (fun h=>h0 (Zgl.1 h))
   have hm:=Nat.mod_lt x (show 0<y by omega)
   have lm:(Ze (x % y)).length≤(Ze y).length:=Wv.2 (Nat.lt_trans hm (Wv.1 (Nat.le_refl _)))
   have ly:(Ze y).length≤(Ze x).length:=Wv.2 (Nat.lt_of_le_of_lt hxy (Wv.1 (Nat.le_refl _)))
   rw [if_pos (dT (by omega)),Zl0 (Z8 _) (Z8 _) hN hs,oB,Z9,Z9,if_neg h0]
   have hb:Xi (y * (x % y))<n:=by
    have h1:=Z30 hxy (by omega)
    have h2:Xi (y * (x % y))≤Xi (x * y / 2 ^ 1):=V2.2 (Nat.lt_of_le_of_lt (by rw [Nat.pow_one];exact h1) (V2.1 (Nat.le_refl _)))
    rw [Zja] at h2
    have h3:0<x * y:=Nat.mul_pos (by omega) (by omega)
    have h4:0<Xi (x * y):=by
     rcases Nat.eq_zero_or_pos (Xi (x * y)) with h | h
     ·have:=V2.1 (show Xi (x * y)≤0 by omega)
      omega
     ·exact h
    omega
   have:=Zo7 N n y (x % y) (Nat.le_of_lt hm) hb (by omega) (by omega)
   rw [this,Nat.gcd_comm x y,Nat.gcd_rec y x,Nat.gcd_comm]
theorem Zq1 (x y:Nat):Xi (x * y)≤Xi x+Xi y:=by
 refine V2.2 ?_
 rw [Nat.pow_add]
 have h1:=V2.1 (Nat.le_refl (Xi x))
 have h2:=V2.1 (Nat.le_refl (Xi y))
 exact Nat.mul_lt_mul'' h1 h2
theorem Z3z {N:Nat} {a b:List Int} (ha:Zp a) (hb:Zp b) (hN:32 * (a.length+b.length)+8<N) (hs:a.length+b.length≤549755813888):Zju N a b=some (Ze (Nat.gcd (Zb a) (Zb b))):=by
 have la:=Yc ha
 have lb:=Yc hb
 have ba:=(Zlm (Zb a)).2
 have bb:=(Zlm (Zb b)).2
 rw [Zju,Sx ha (by omega) (by omega),oB,Sx hb (by omega) (by omega),oB]
 by_cases h:Zb b≤Zb a
 ·have:=Zq1 (Zb a) (Zb b)
  exact Zo7 N N _ _ h (by omega) (by omega) (by omega)
 ·have h':Zb a<Zb b:=by omega
  have hm:=Zq1 (Zb b) (Zb a)
  have hp:0<(Ze (Zb b)).length:=List.length_pos_iff.2 (fun h=>by have:=Zgl.1 h;omega)
  obtain ⟨N',rfl⟩:∃ N',N=N'+1:=⟨N - 1,by omega⟩
  rw [Zcn.eq_2,if_pos (dT (by omega)),Zl0 (Z8 _) (Z8 _) (by omega) (by omega),oB,Z9,Z9,if_neg (by omega),Nat.mod_eq_of_lt h',
   Zo7 (N'+1) N' _ _ (by omega) (by omega) (by omega) (by omega),Nat.gcd_comm]
abbrev ZV:=Bool×List Int
abbrev QV:=R4×List Int
def Zt (a:ZV):Int:=if a.1=true then -(Zb a.2:Int) else (Zb a.2:Int)
def Xr (z:Int):ZV:=(decide (z<0),Ze z.natAbs)
def Xw (l:List Int):Nat:=if Zb l=0 then 1 else Zb l
def Z5 (a:QV):Rat:=mkRat (Zt a.1) (Xw a.2)
def Zs (q:Rat):QV:=(Xr q.num,Ze q.den)
structure RV (k:Nat) (a:QV):Prop where
 m:Zp a.1.2
 d:Zp a.2
 lm:a.1.2.length≤k
 ld:a.2.length≤k
def qs (q:Rat):Nat:=max (Ze q.num.natAbs).length (Ze q.den).length
def Xh (N s:Nat):Prop:=200 * (s+4)<N∧s≤17179869184
theorem Zaw (a:ZV):(Zt a).natAbs=Zb a.2:=by
 rw [Zt];split <;> omega
theorem V7 (z:Int):Zt (Xr z)=z:=by
 rw [Zt,Xr]
 simp only [Z9,decide_eq_true_eq]
 split <;> omega
theorem Zkv (n:Bool) (m:List Int):Xr (Zt (n,m))=(n&&decide (Zb m≠0),Ze (Zb m)):=by
 rw [Xr,Zaw]
 congr 1
 rw [Zt]
 cases n
 ·rw [if_neg (fun h=>by cases h),Bool.false_and]
  exact decide_eq_false (by omega)
 ·rw [if_pos rfl,Bool.true_and]
  exact decide_eq_decide.2 (by simp only;omega)
theorem Ua (z:Int):Zp (Xr z).2:=Z8 _
theorem Uk (l:List Int):Xw l≠0:=by rw [Xw];split <;> omega
theorem Z24 {n:Nat} (h:n≠0):Xw (Ze n)=n:=by rw [Xw,Z9,if_neg h]
theorem V4 (q:Rat):Z5 (Zs q)=q:=by
 rw [Z5,Zs]
 simp only [V7,Z24 q.den_nz]
 exact Rat.mkRat_self q
theorem Zqi (q:Rat):RV (qs q) (Zs q):=⟨Z8 _,Z8 _,Nat.le_max_left _ _,Nat.le_max_right _ _⟩
theorem RV.mono {k l:Nat} {a:QV} (h:RV k a) (hl:k≤l):RV l a:=⟨h.m,h.d,Nat.le_trans h.lm hl,Nat.le_trans h.ld hl⟩
theorem T4 {q:Rat} {k:Nat} (h:qs q≤k):RV k (Zs q):=(Zqi q).mono h
theorem Xh.mono {N s t:Nat} (h:Xh N t) (hs:s≤t):Xh N s:=by
 obtain ⟨h1,h2⟩:=h
 exact ⟨by omega,by omega⟩
theorem W6 {m n:Nat} (h:m≤n):(Ze m).length≤(Ze n).length:=Wv.2 (Nat.lt_of_le_of_lt h (Wv.1 (Nat.le_refl _)))
theorem Uu (m n:Nat):(Ze (m * n)).length≤(Ze m).length+(Ze n).length:=by
 refine Wv.2 ?_
 rw [Nat.pow_add]
 exact Nat.mul_lt_mul'' (Wv.1 (Nat.le_refl _)) (Wv.1 (Nat.le_refl _))
theorem Zl8 {m n k:Nat} (hm:(Ze m).length≤k) (hn:(Ze n).length≤k):(Ze (m+n)).length≤k+1:=by
 refine Wv.2 ?_
 have h1:=Wv.1 hm
 have h2:=Wv.1 hn
 rw [Nat.pow_succ]
 omega
theorem Tu {n:Nat} (h:n≠0):1≤(Ze n).length:=List.length_pos_iff.2 (fun e=>h (Zgl.1 e))
theorem Zwo (q:Rat):1≤qs q:=Nat.le_trans (Tu q.den_nz) (Nat.le_max_right _ _)
theorem Zni {z:Int} {d k:Nat} (hz:(Ze z.natAbs).length≤k) (hd:(Ze d).length≤k) (hk:1≤k):qs (mkRat z d)≤k:=by
 rw [qs,Rat.num_mkRat,Rat.den_mkRat]
 by_cases h:d=0
 ·rw [if_pos h,if_pos h]
  simp only [Int.natAbs_zero,W2,Sg]
  simp;omega
 ·rw [if_neg h,if_neg h]
  refine Nat.max_le.2 ⟨Nat.le_trans (W6 ?_) hz,Nat.le_trans (W6 (Nat.div_le_self _ _)) hd⟩
  exact Int.natAbs_ediv_le_natAbs _ _
theorem Zwp {k:Nat} {a:QV} (h:RV k a):qs (Z5 a)≤max k 1:=by
 refine Zni ?_ ?_ (Nat.le_max_right _ _)
 ·rw [Zaw]
  exact Nat.le_trans (Yc h.m) (Nat.le_trans h.lm (Nat.le_max_left _ _))
 ·rw [Xw]
  split
  ·rw [Sg];exact Nat.le_max_right _ _
  ·exact Nat.le_trans (Yc h.d) (Nat.le_trans h.ld (Nat.le_max_left _ _))
theorem Zpz (a b:Rat):qs (a * b)≤qs a+qs b:=by
 rw [Rat.mul_def']
 have:=Zwo a
 refine Zni ?_ ?_ (by omega)
 ·rw [Int.natAbs_mul]
  exact Nat.le_trans (Uu _ _) (Nat.add_le_add (Nat.le_max_left _ _) (Nat.le_max_left _ _))
 ·exact Nat.le_trans (Uu _ _) (Nat.add_le_add (Nat.le_max_right _ _) (Nat.le_max_right _ _))
theorem Zwn (a b:Rat):qs (a+b)≤qs a+qs b+1:=by
 rw [Rat.add_def']
 have an:(Ze a.num.natAbs).length≤qs a:=Nat.le_max_left _ _
 have ad:(Ze a.den).length≤qs a:=Nat.le_max_right _ _
 have bn:(Ze b.num.natAbs).length≤qs b:=Nat.le_max_left _ _
 have bd:(Ze b.den).length≤qs b:=Nat.le_max_right _ _
 refine Zni (Nat.le_trans (W6 (Int.natAbs_add_le _ _)) (Zl8 ?_ ?_)) ?_ (by omega)
 ·rw [Int.natAbs_mul,Int.natAbs_natCast]
  have:=Uu a.num.natAbs b.den
  omega
 ·rw [Int.natAbs_mul,Int.natAbs_natCast]
  have:=Uu b.num.natAbs a.den
  omega
 ·have:=Uu a.den b.den
  omega
theorem Z5i (a b:Rat):qs (a / b)≤qs a+qs b:=by
 rw [Rat.div_def]
 have h:qs b⁻¹≤qs b:=by
  rw [qs,Rat.num_inv,Rat.den_inv]
  have bn:(Ze b.num.natAbs).length≤qs b:=Nat.le_max_left _ _
  have bd:(Ze b.den).length≤qs b:=Nat.le_max_right _ _
  have bp:=Zwo b
  refine Nat.max_le.2 ⟨?_,?_⟩
  ·rw [Int.natAbs_mul,Int.natAbs_natCast]
   refine Nat.le_trans (W6 ?_) bd
   rcases Int.lt_trichotomy b.num 0 with h | h | h
   ·rw [Int.sign_eq_neg_one_of_neg h];simp
   ·rw [h];simp
   ·rw [Int.sign_eq_one_of_pos h];simp
  ·split
   ·rw [Sg];exact bp
   ·exact bn
 exact Nat.le_trans (Zpz _ _) (by omega)
theorem Zp2:qs 0=1:=by
 rw [qs]
 simp only [Rat.zero_num,Rat.zero_den,Int.natAbs_zero,W2,Sg]
 simp
theorem Zp0:qs 1=1:=by
 rw [qs]
 simp only [Rat.one_num,Rat.one_den,Int.natAbs_one,Sg]
 simp
theorem Zvn {neg:Bool} {num den:List Int} (hd:Zb den≠0):
  Zs (mkRat (Zt (neg,num)) (Zb den))=((neg&&decide (Zb num / Nat.gcd (Zb num) (Zb den)≠0),Ze (Zb num / Nat.gcd (Zb num) (Zb den))),Ze (Zb den / Nat.gcd (Zb num) (Zb den))):=by
 rw [Zs,Rat.num_mkRat,Rat.den_mkRat,if_neg hd,if_neg hd,Zaw,Nat.gcd_comm (Zb den) (Zb num)]
 have hg:Nat.gcd (Zb num) (Zb den)≠0:=fun h=>hd (Nat.gcd_eq_zero_iff.1 h).2
 congr 1
 have e:Zt (neg,num) / ((Nat.gcd (Zb num) (Zb den):Nat):Int)=Zt (neg,Ze (Zb num / Nat.gcd (Zb num) (Zb den))):=by
  rw [Zt,Zt]
  simp only [Z9]
  cases neg
  ·simp
  ·simp only [if_true]
   rw [Int.neg_ediv_of_dvd (Int.natCast_dvd_natCast.2 (Nat.gcd_dvd_left _ _)),Int.natCast_ediv]
 rw [e,Zkv,Z9]
theorem Zm7 {a b:Int} {c d:Nat} (hc:c≠0) (hd:d≠0):mkRat a c<mkRat b d↔a * d<b * c:=by
 have h1:(0:Rat)<(c:Rat):=Rat.natCast_pos.2 (by omega)
 have h2:(0:Rat)<(d:Rat):=Rat.natCast_pos.2 (by omega)
 rw [Rat.mkRat_eq_div,Rat.mkRat_eq_div,Rat.div_lt_iff h1]
 have e:(b:Rat) / d * c=(b:Rat) * c / d:=by
  rw [Rat.div_def,Rat.div_def,Rat.mul_assoc,Rat.mul_assoc,Rat.mul_comm (d:Rat)⁻¹]
 rw [e,Rat.lt_div_iff h2]
 have e1:((a:Rat) * (d:Rat))=((a * (d:Int):Int):Rat):=by rw [Rat.intCast_mul];rfl
 have e2:((b:Rat) * (c:Rat))=((b * (c:Int):Int):Rat):=by rw [Rat.intCast_mul];rfl
 rw [e1,e2,Rat.intCast_lt_intCast]
theorem Zu6 {a b:Int} {c d:Nat} (hc:c≠0) (hd:d≠0):mkRat a c=mkRat b d↔a * d=b * c:=Rat.mkRat_eq_iff hc hd
def Qx (a b:Rat):Int:=if a<b then -1 else if b<a then 1 else 0
def Q0 (a b:Int):Int:=if a<b then -1 else if b<a then 1 else 0
def Zau (a:Rat):Int:=Qx a 0
theorem Zpw {a b:Int} {c d:Nat} (hc:c≠0) (hd:d≠0):Qx (mkRat a c) (mkRat b d)=Q0 (a * d) (b * c):=by
 unfold Qx Q0
 simp only [Zm7 hc hd,Zm7 hd hc]
theorem Zn5 (a:Int):Q0 a 0=a.sign:=by
 unfold Q0
 rcases Int.lt_trichotomy a 0 with h | h | h
 ·rw [if_pos h,Int.sign_eq_neg_one_of_neg h]
 ·rw [h];rfl
 ·rw [if_neg (by omega),if_pos h,Int.sign_eq_one_of_pos h]
theorem Zwq (a:QV):Zau (Z5 a)=(Zt a.1).sign:=by
 rw [Zau,Z5,show (0:Rat)=mkRat 0 1 by rw [Rat.zero_mkRat],Zpw (Uk _) (by decide),← Zn5]
 simp
theorem Zws (a:QV):Z5 a=0↔Zb a.1.2=0:=by
 rw [Z5,Rat.mkRat_eq_zero (Uk _),← Zaw]
 omega
theorem Zwr {a:Rat}:Zau a=0↔a=0:=by
 rw [Zau,Qx]
 constructor
 ·intro h
  split at h
  ·cases h
  ·split at h
   ·cases h
   ·rename_i h1 h2
    exact Rat.le_antisymm (Rat.not_lt.1 h2) (Rat.not_lt.1 h1)
 ·rintro rfl
  rw [if_neg Rat.lt_irrefl,if_neg Rat.lt_irrefl]
theorem Znj {a:Rat}:Zau a<0↔a<0:=by
 rw [Zau,Qx]
 by_cases h:a<0
 ·rw [if_pos h];simp [h]
 ·rw [if_neg h];simp only [h,iff_false];split <;> decide
def Ti (N:Nat) (ab:R1):Option R2:=
  (Zej N ab.2).bind fun aa=>if (decide (0<(aa.length:Int)))=true then (some aa) else ((Zbc N 1).bind fun ac=>some ac)
theorem Q3 {N ad ae:Nat} {af ag:Option Addr} {col:Zd} {w0:World} {ab:R1} {r:R2} (c1:Nat) (hm:Ti N ab=some r) (aq:Sl (Za.int .u32) col w0 af ad ab.1.2) (ac:Sl (Za.int .u32) col w0 ag ae ab.2):
    Calls prog 186 #[(.agg #[.bool ab.1.1,.slice af ab.1.2.length ad,.slice ag ab.2.length ae])] w0 (fun e w'=>∃ (col':Zd) (ra1:Option Addr) (rc2:Nat),e= .returned ((.slice ra1 r.length rc2))∧Zg col w0 col' w'∧Zc (Za.int .u32) 79 c1 col' w' ra1 rc2 r):=by
 refine Xc 2 (m:=12) func186 rfl rfl rfl rfl rfl ?_;rw [Ti.eq_1] at hm;have aa:=St.start col w0;refine go ?_;refine Xg (col:=(Zh col)) 1 rfl ?_;intro ar au av ah ai;refine go ?_;refine Xa ai ?_;obtain ⟨aw,aj,hm⟩:=bZ hm;replace ac:=ac.keep (Zf.start col w0);replace aa:=aa.grow ah;refine Zi (Zok 2 aj (ac.ks aa)) ?_;rintro _ ax ⟨ak,ay,az,rfl,al,am⟩;refine ⟨_,rfl,go ?_⟩;replace aa:=aa.grow al;refine Zo hm (fun hb hm=>go ?_) fun hb hm=>go ?_
 ·cases hm;exact ⟨rfl,_,_,_,rfl,aa.fin (cm [(2,c1)]),aa.fo am⟩
 obtain ⟨a0,an,hm⟩:=bZ hm;refine Zi (Zjb (col:=ak) 3 an) ?_;rintro _ a1 ⟨a2,a3,a4,rfl,ao,ap⟩;refine ⟨_,rfl,go ?_⟩;cases hm;replace aa:=aa.grow ao;exact ⟨rfl,_,_,_,rfl,aa.fin (cm [(3,c1)]),aa.fo ap⟩
def Zis (aa:Bool) (ab:List Int):Option R4:=
  some (aa,ab)
def Qv (N:Nat) (ab:Bool) (ac:List Int):Option R4:=
  (Zej N ac).bind fun aa=>if ab=true then (Zis (decide (0<(aa.length:Int))) aa) else (Zis false aa)
theorem Zdq {N ao:Nat} {a1:Option Addr} {col:Zd} {w0:World} {ap:Bool} {ah:R2} {r:R4} (c1:Nat) (hm:Qv N ap ah=some r) (h1:Sl (Za.int .u32) col w0 a1 ao ah):
    Calls prog 234 #[.bool ap,.slice a1 ah.length ao] w0 (fun e w'=>∃ (col':Zd) (ra1:Option Addr) (rc2:Nat),e= .returned ((.agg #[.bool r.1,.slice ra1 r.2.length rc2]))∧Zg col w0 col' w'∧Zc (Za.int .u32) 79 c1 col' w' ra1 rc2 r.2):=by
 refine Ym (m:=16) func234 rfl rfl rfl ?_;rw [Qv.eq_1] at hm;have aa:=St.start col w0;refine go ?_;refine Xl (col:=(Zh col)) #[.bool false,.slice none (([]:List Int).length) 0] 1 zeroValue45 ?_;intro ax a4 a5 ay ac;refine go ?_;obtain ⟨ad,az,hm⟩:=bZ hm;replace h1:=h1.keep (Zf.start col w0);replace aa:=aa.grow ay;refine Zi (Zok 2 az (h1.ks aa)) ?_;rintro _ a6 ⟨a7,aq,ar,rfl,au,ab⟩;refine ⟨_,rfl,?_⟩;refine Za0 rfl<|Zk<|Z0 ?_;replace ac:=ac.gr au;replace aa:=aa.grow au;refine Wp.cutK [4,1000000] (fun f ae=>∃ af ai aj ak ag,Zis ai ag=some r∧St w0 (Zh col) af ae∧Zc (Za.int .u32) 79 3 af ae aj ak ag∧Zm 45 1 af ae ax #[.bool ai,.slice aj ag.length ak]) ?_ ?_
 ·intro f ae hJ;obtain ⟨af,ai,aj,ak,ag,hm,aa,a0,ac⟩:=hJ;rw [Zis.eq_1] at hm;refine We ?_;cases hm;exact ⟨rfl,_,ra ac.atN,_,_,_,rfl,aa.fin (cm [(3,c1)]),aa.fo a0⟩
 refine go ?_;refine Xt hm (fun al hm=>go ?_) fun al hm=>go ?_
 ·refine lV (.bool (decide (0<(ad.length:Int)))) (Xb (congrArg Value.bool al) rfl)<|Yr rfl<|lV (.agg #[.bool (decide (0<(ad.length:Int))),.slice aq ad.length ar]) (Yz (l:=[_,_]) (qs:=[(0,1),(1,1)]) underlying45 zeroValue45 ⟨rfl,sizeOf4,rfl,sizeOf43,trivial⟩ rfl)<|Z4 ac ?_;intro a8 av a2 am;refine Zk ?_;replace ab:=ab.kp av;replace ab:=ab.recolSelf 3 (by decide);replace am:=am.recol 2 3 (by decide);replace aa:=aa.kp av a2;replace aa:=aa.recol 2 3 (by decide) (by decide);exact ⟨rfl,_,_,_,_,_,hm,aa,ab,am⟩
 refine lV (.bool false) (Xm (congrArg Value.bool al) rfl)<|Yr rfl<|lV (.agg #[.bool false,.slice aq ad.length ar]) (Yz (l:=[_,_]) (qs:=[(0,1),(1,1)]) underlying45 zeroValue45 ⟨rfl,sizeOf4,rfl,sizeOf43,trivial⟩ rfl)<|Z4 ac ?_;intro a9 aw a3 an;refine Zk ?_;replace ab:=ab.kp aw;replace ab:=ab.recolSelf 3 (by decide);replace an:=an.recol 2 3 (by decide);replace aa:=aa.kp aw a3;replace aa:=aa.recol 2 3 (by decide) (by decide);exact ⟨rfl,_,_,_,_,_,hm,aa,ab,an⟩

end Go.Proofs.YtbmjpjhbankpoaaGreat
