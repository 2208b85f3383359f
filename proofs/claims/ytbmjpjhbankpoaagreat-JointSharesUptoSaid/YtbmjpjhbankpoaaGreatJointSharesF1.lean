/-
  What functions of the program compute, as plain Lean functions (m_..), and proofs that they compute it (c_..). Printed by a program of the author; no conditions.
-/
import Derived.Test.YtbmjpjhbankpoaaGreatJointSharesBFloat
import Derived.Test.YtbmjpjhbankpoaaGreatProg
import Derived.Test.YtbmjpjhbankpoaaGreatJointSharesBBrief
import Derived.Test.YtbmjpjhbankpoaaGreatJointSharesBPiece
set_option linter.unusedVariables false
set_option maxRecDepth 100000
set_option maxHeartbeats 2000000
namespace Go.Proofs.YtbmjpjhbankpoaaGreat
open Go Go.RowKit
open Go.IntKind (i8 i16 i32 i64 u8 u16 u32 u64)
open Go.Proofs.Tryz
abbrev R5:=List ByteArray
abbrev R2:=List Int
abbrev Rb:=List R2
abbrev R4:=Bool×List Int
abbrev R1:=R4×List Int
abbrev R8:=List R1
abbrev R0:=ByteArray×List ByteArray×(List R5)×Rb×(List R8)
abbrev R3:=Int×Int
abbrev R6:=Int×List Int
abbrev R7:=(List Int×List Int×R8)×Int
abbrev R9:=List R3
abbrev Ra:=List Int×List Int×Int
abbrev Rc:=List Int×Int
abbrev Rd:=List Int×Bool
abbrev Re:=List Int×R1
theorem oB {α β:Type} {a:α} {f:α→Option β}:(some a).bind f=f a:=rfl
theorem dT {p:Prop} [i:Decidable p] (h:p):decide p=true:=decide_eq_true h
theorem dF {p:Prop} [i:Decidable p] (h:¬p):¬(decide p=true):=fun q=>h (of_decide_eq_true q)
theorem nA {α:Type _} {a b:List α}:(a++b).length=a.length+b.length:=List.length_append
theorem nC {α:Type _} {a:α} {b:List α}:(a :: b).length=b.length+1:=rfl
theorem nS {α:Type _} {a:List α} {i:Nat} {b:α}:(a.set i b).length=a.length:=List.length_set
theorem nK {α:Type _} {i:Nat} {a:List α}:(a.take i).length=min i a.length:=List.length_take
theorem nN {α:Type _}:([]:List α).length=0:=rfl

theorem Z2 {x:Int} (h:-9223372036854775808≤x∧x≤9223372036854775807):i64.wrap x=x:=by rw [IntKind.wrap_i64];omega
theorem Z7 {α:Type} {c:Prop} [Decidable c] {x:Option α} (h:c):Zz c x=x:=if_pos h
theorem Xg {α:Type} {xs:List α} {k:Nat} (h:k<xs.length):Zq xs (k:Int)=some xs[k]:=by rw [Zed];exact List.getElem?_eq_getElem h
theorem wS {k:Nat} (h:k<9223372036854775807):i64.wrap ((k:Int)+1)=((k+1:Nat):Int):=by rw [Z2 (by omega)];rfl
theorem Zim {α:Type} [DecidableEq α]:∀ {l r:List α},l.Nodup→(∀ x ∈ l,x ∈ r)→l.length≤r.length
 | [],_,_,_=>Nat.zero_le _
 | x :: l,r,h,hs=>by
  have h1:=List.nodup_cons.1 h
  have hx:=hs x List.mem_cons_self
  have h2:=Zim (r:=r.erase x) h1.2 fun y hy=>(List.mem_erase_of_ne (fun e=>h1.1 (by rw [← e];exact hy))).2 (hs y (List.mem_cons_of_mem _ hy))
  rw [List.length_erase_of_mem hx] at h2
  have:=List.length_pos_of_mem hx
  rw [nC];omega
section
variable {K V:Type} [DecidableEq K]
theorem Zd2 (p:K×V) (es:List (K×V)) (k:K):Wf (p :: es) k=if p.1=k then some p.2 else Wf es k:=by
 rw [Wf,List.find?_cons]
 by_cases h:p.1=k
 ·rw [if_pos h,decide_eq_true h];rfl
 ·rw [if_neg h,decide_eq_false h];rfl
theorem Z0p (es:List (K×V)) (k k':K) (v:V) (h:Wf es k=none):Wf (es++[(k,v)]) k'=if k'=k then some v else Wf es k':=by
 induction es with
 | nil=>
  rw [List.nil_append,Zd2]
  by_cases hk:k=k'
  ·subst hk;simp
  ·rw [if_neg hk,if_neg (Ne.symm hk)]
 | cons p es ih=>
  rw [Zd2] at h
  split at h
  ·cases h
  ·rename_i hp
   rw [List.cons_append,Zd2,Zd2,ih h]
   by_cases h1:p.1=k'
   ·rw [if_pos h1,if_pos h1,if_neg (fun e=>hp (h1.trans e))]
   ·rw [if_neg h1,if_neg h1]
theorem Z0q (es:List (K×V)) (k k':K) (v:V):Wf (es.map fun p=>if p.1=k then (k,v) else p) k'=if k'=k then (Wf es k).map fun _=>v else Wf es k':=by
 induction es with
 | nil=>simp [Wf]
 | cons p es ih=>
  rw [List.map_cons,Zd2,Zd2,Zd2,ih]
  by_cases h1:p.1=k
  ·rw [if_pos h1,if_pos h1]
   by_cases h2:k'=k
   ·subst h2;rw [if_pos rfl,if_pos rfl];rfl
   ·rw [if_neg (Ne.symm h2),if_neg h2,if_neg h2,if_neg (fun e=>h2 (e.symm.trans h1))]
  ·rw [if_neg h1,if_neg h1]
   by_cases h3:p.1=k'
   ·rw [if_pos h3,if_pos h3,if_neg (fun e=>h1 (h3.trans e))]
   ·rw [if_neg h3,if_neg h3]
theorem Zsj (es:List (K×V)) (k k':K) (v:V):Wf (Sf es k v) k'=if k'=k then some v else Wf es k':=by
 rw [Sf]
 by_cases h:(Wf es k).isSome=true
 ·rw [if_pos h,Z0q]
  obtain ⟨u,hu⟩:=Option.isSome_iff_exists.1 h
  rw [hu];rfl
 ·rw [if_neg h]
  exact Z0p es k k' v (by simpa using h)
end
theorem Zy5:Y4 prog 3 1 8:=⟨Tryz.t3,_,rfl,rfl,rfl,rfl,rfl⟩
def Zcf (aa:List Int):Option R2:=
  Zz ((([]:List Int).length+aa.length) * 8≤140737488355328∧([]:List Int).length+aa.length≤maxLen) (some (([]:List Int)++aa))
theorem Zmn {ad:Nat} {a0:Option Addr} {col:Zd} {w0:World} {ac r:R2} (c1:Nat) (hm:Zcf ac=some r) (h0:Sl (Za.int .i64) col w0 a0 ad ac):
    Calls prog 143 #[.slice a0 ac.length ad] w0 (fun e w'=>∃ (col':Zd) (ra1:Option Addr) (rc2:Nat),e= .returned ((.slice ra1 r.length rc2))∧Zi col w0 col' w'∧Zc (Za.int .i64) 3 c1 col' w' ra1 rc2 r):=by
 refine Xk 2 (m:=8) func143 rfl rfl rfl rfl rfl ?_;rw [Zcf.eq_1] at hm;have aa:=St.start col w0;refine go ?_;replace h0:=h0.keep (Zl.start col w0);rcases Zlb h0 with ab | ab
 ·replace hm:some ([]:List Int)=some r:=by have h0:=ab.2;subst h0;simpa [Zz,maxLen] using hm
  refine lv (v:=.bool a0.isNone) rfl rfl (Zci underlying40 rfl)<|.ld (d:=4) (v:=.bool true) (congrArg Value.bool ab.1)<|Zm<|X4 rfl<|go ?_;cases hm;exact ⟨rfl,_,none,0,rfl,aa.fin (cm []),Zc.nil⟩
 refine lv (v:=.bool a0.isNone) rfl rfl (Zci underlying40 rfl)<|.ld (d:=4) (v:=.bool false) (congrArg Value.bool ab)<|Zm<|X3 rfl<|go ?_;refine Zg4 (col:=(Zj col)) (r:=(Za.int .i64)) 1 rfl underlying40 Zy5 rfl ?_;intro aj ak al ae af;refine Y0 rfl ?_;obtain ⟨ag,hm⟩:=Z3 hm;replace h0:=h0.gr ae;refine Vq af h0.srcC ag ?_;intro am an ao ap ah ai;refine go ?_;cases hm;replace aa:=(aa.grow ae).kpp ah;exact ⟨rfl,_,_,_,rfl,aa.fin (cm [(1,c1)]),aa.fo ai⟩
def Se:List Int→Int→Option R3
  | [],aa=>some (aa,0)
  | ab :: ac,aa=>Zz (aa≠0) (if (decide ((i64.wrap (Int.tdiv 2147483647 aa))<ab))=true then (some (0,4)) else ((Se ac) (i64.wrap (aa * ab))))
termination_by structural x=>x
def Zh9 (kk_L1:(Bool→Option R3)) (aa:Bool):Option R3:=
  kk_L1 aa
def Q6 (aa:List Int):List Int→Bool→Option R3
  | [],ab=>if ab=true then (some (0,0)) else (Se aa 1)
  | ac :: ad,ab=>if (decide (ac<0))=true then (some (0,3)) else (if ab=true then (Zh9 (Q6 aa ad) true) else (Zh9 (Q6 aa ad) (decide (ac=0))))
termination_by structural x=>x
def Q5 (aa:List Int):Option R3:=
  Q6 aa aa false
theorem Zjp {ai:Nat} {a0:Option Addr} {col:Zd} {w0:World} {ab:R2} {r:R3} (hm:Q5 ab=some r) (h0:Sl (Za.int .i64) col w0 a0 ai ab):
    Calls prog 169 #[.slice a0 ab.length ai] w0 (fun e w'=>e= .returned (.tuple #[.int .i64 r.1,.int .i64 r.2])∧Below w0.heap.size w0 w'):=by
 refine Zep 2 3 (m:=40) (args:=[.slice a0 ab.length ai]) func169 rfl rfl rfl rfl rfl ?_;rw [Q5.eq_1] at hm;have aa:=St.start col w0;refine go ?_;refine Z8 [0,10,11,1000000] (fun n f am=>∃ an ad aj ae,n=ae.length∧ab.drop ad=ae∧Q6 ab ae aj=some r∧St w0 (Zj col) an am∧[12,4].map f=[.int .i64 ad,.bool aj]) ab.length ⟨_,0,_,_,rfl,rfl,hm,aa,rfl⟩ ?_;clear hm;intro n f am hI;obtain ⟨an,ad,aj,ae,hn,hl,hm,aa,hs⟩:=hI;subst hn;refine .lL [12,4] hs ?_;replace h0:=h0.keep (Zl.start col w0)
 cases ae with
 | nil=>
  have hk:¬ ((ad:Int)<(ab.length:Int)):=by have:=List.drop_eq_nil_iff.1 hl;omega
  have hkb:=decide_eq_false hk;rw [Q6.eq_1] at hm;refine go ?_;refine X3 (congrArg Value.bool hkb)<|go ?_;refine Zr hm (fun hb hm=>go ?_) fun hb hm=>go ?_
  ·cases hm;exact ⟨rfl,rfl,aa.below⟩
  refine Z8 [25,26,1000000] (fun n f ao=>∃ ap af ag ah,n=ah.length∧ab.drop af=ah∧Se ah ag=some r∧St w0 (Zj col) ap ao∧[27,7].map f=[.int .i64 af,.int .i64 ag]) ab.length ⟨_,0,1,_,rfl,rfl,hm,aa,rfl⟩ ?_;clear hm;intro n f ao hI;obtain ⟨ap,af,ag,ah,hn,hl,hm,aa,hs⟩:=hI;subst hn;refine .lL [27,7] hs ?_
  cases ah with
  | nil=>
   have hk:¬ ((af:Int)<(ab.length:Int)):=by have:=List.drop_eq_nil_iff.1 hl;omega
   have hkb:=decide_eq_false hk;rw [Se.eq_1] at hm;refine go ?_;refine X3 (congrArg Value.bool hkb)<|go ?_;cases hm;exact ⟨rfl,rfl,aa.below⟩
  | cons a3 av=>
   obtain ⟨ac,aw,ax⟩:=Yk hl;have hk:(af:Int)<(ab.length:Int):=by omega
   have hkb:=decide_eq_true hk;rw [Se.eq_2] at hm;refine go ?_;refine X4 (congrArg Value.bool hkb)<|go ?_;refine lI ac ((h0.ks aa).addr ac)<|lW ((h0.ks aa).atInt ac) ?_;refine go ?_;obtain ⟨ay,hm⟩:=Z3 hm;refine lV (.int .i64 (i64.wrap (Int.tdiv 2147483647 ag))) (V2 2147483647 ag rfl rfl ay)<|go ?_;refine Zr hm (fun hb hm=>go ?_) fun hb hm=>go ?_
   ·cases hm;exact ⟨rfl,rfl,aa.below⟩
   exact ⟨av.length,by simp,rfl,⟨_,_,_,_,rfl,aw,hm,aa,(Yo (congrArg (Value.int .i64) (Yn (Nat.lt_of_lt_of_le ax (h0.ks aa).1.1))) rfl)⟩⟩
 | cons az aq=>
  obtain ⟨ac,a1,a2⟩:=Yk hl;have hk:(ad:Int)<(ab.length:Int):=by omega
  have hkb:=decide_eq_true hk;rw [Q6.eq_2] at hm;refine go ?_;refine X4 (congrArg Value.bool hkb)<|X8<|Zw ?_;refine Wp.cutK [0,10,11,12,1000000] (fun f ar=>∃ au ak,Zh9 (Q6 ab aq) ak=some r∧St w0 (Zj col) au ar∧[4].map f=[.bool ak]) ?_ ?_
  ·intro f ar hJ;obtain ⟨au,ak,hm,aa,hs⟩:=hJ;rw [Zh9.eq_1] at hm;refine .lL [4] hs<|go ?_;exact ⟨aq.length,by simp,rfl,⟨_,_,_,_,rfl,a1,hm,aa,(Yo (congrArg (Value.int .i64) (Yn (Nat.lt_of_lt_of_le a2 (h0.ks aa).1.1))) rfl)⟩⟩
  refine go ?_;refine lI ac ((h0.ks aa).addr ac)<|lW ((h0.ks aa).atInt ac) ?_;refine go ?_;refine Zr hm (fun hb hm=>go ?_) fun hb hm=>go ?_
  ·cases hm;exact ⟨rfl,rfl,aa.below⟩
  refine X1 hm (fun al hm=>go ?_) fun al hm=>go ?_
  ·refine lV (.bool true) (Xs (congrArg Value.bool al) rfl)<|go ?_;exact ⟨rfl,_,_,hm,aa,rfl⟩
  refine lV (.bool (decide (az=0))) (Xl (congrArg Value.bool al) rfl)<|go ?_;exact ⟨rfl,_,_,hm,aa,rfl⟩
def Zcd (N:Nat) (ab:List Int):Nat→Int→Option R9
  | 0,_=>none
  | ac+1,aa=>if (decide (0≤aa))=true then ((Zq ab aa).bind fun ad=>((Zcd N ab ac) (i64.wrap (aa - 1))).bind fun ae=>some ((aa,ad) :: ae)) else (some [])
termination_by structural x=>x
def Zkz (N:Nat) (aa:List Int):Option R9:=
  Zcd N aa N (i64.wrap ((aa.length:Int) - 1))
theorem Zxy (N:Nat) (col:Zd) (w0:World) (g0:Nat) (af0:Option Addr) (capf0:Nat) (ab:List Int) (hf0:Sl (Za.int .i64) col w0 af0 capf0 ab) (hb0:Zk 40 450 col w0 g0 #[.slice af0 ab.length capf0]) (r:List R3) (hm:Zkz N ab=some r):
    Zcr prog 1 293 [.pointer (some ⟨g0,0,none⟩)] (fun (y:Int×Int) (col:Zd) (w:World) (args:List Value)=>args=[.int .i64 y.1,.int .i64 y.2]) r col w0:=by
 intro l J X hjs hxs hy aa;refine Zcu (m:=19) (args:=[.func (.yield l) #[] #[],.pointer (some ⟨g0,0,none⟩)]) func293 rfl rfl rfl rfl ?_;rw [Zkz.eq_1] at hm;refine go ?_;refine lW hb0.at1<|go ?_;refine Z8 [0,1,1000000] (fun n f ad=>∃ ae r af ac,ac=n∧Zcd N ab ac af=some r∧J r ae ad∧Sl (Za.int .i64) ae ad af0 capf0 ab∧Zk 40 450 ae ad g0 #[.slice af0 ab.length capf0]∧[3].map f=[.int .i64 af]) N ⟨_,_,_,_,rfl,hm,aa,hf0,hb0,rfl⟩ ?_;clear hm;intro n f ad hI;obtain ⟨ae,r,af,ac,hn,hm,aa,hf0,hb0,hs⟩:=hI;subst hn;refine .lL [3] hs ?_
 cases ac with
 | zero=>rw [Zcd.eq_1] at hm;cases hm
 | succ ac=>
  rw [Zcd.eq_2] at hm;refine go ?_;refine Zr hm (fun hb hm=>go ?_) fun hb hm=>go ?_
  ·refine lM (.func (.yield l) #[] #[])<|Yd rfl<|lW hb0.at1<|Yd rfl ?_;obtain ⟨ai,ag,hm⟩:=bZ hm;refine lI ag (hf0.addr ag)<|lW (hf0.atInt ag) ?_;obtain ⟨ak,hc_8m,aj⟩:=bZ hm;cases aj;have hm:=hc_8m;refine ly2 rfl rfl rfl rfl (hy _ _ _ _ [.int .i64 af,.int .i64 ai] aa rfl) ?_;rintro _ al ⟨am,ah,⟨rfl,hJ⟩ | ⟨rfl,hX⟩⟩
   ·refine ⟨_,rfl,?_⟩;have aa:=hJ;refine go ?_;refine X3 rfl<|go ?_;replace hf0:=hf0.kpp ah;replace hb0:=hb0.kpp ah;exact ⟨ac,by omega,rfl,⟨_,_,_,_,rfl,hm,aa,hf0,hb0,rfl⟩⟩
   refine ⟨_,rfl,?_⟩;have aa:=hX;refine go ?_;refine X4 rfl<|W7 ?_;exact ⟨rfl,⟨_,rfl⟩,_,.inr aa⟩
  cases hm;exact ⟨rfl,⟨_,rfl⟩,_,.inl aa⟩
def Zky (N:Nat) (aa:List Int):Option R9:=
  Zkz N aa
theorem Zxx {N ac:Nat} {a0:Option Addr} {col:Zd} {w0:World} {aa:R2} {r:R9} (hm:Zky N aa=some r) (h0:Sl (Za.int .i64) col w0 a0 ac aa):
    Calls prog 279 #[.slice a0 aa.length ac] w0 (fun e w'=>∃ (col':Zd) (rv1:Value),e= .returned (rv1)∧Zi col w0 col' w'∧It prog 1 rv1 (fun (y:Int×Int) (col:Zd) (w:World) (args:List Value)=>args=[.int .i64 y.1,.int .i64 y.2]) r q0 col' w'):=by
 refine Xk 2 (m:=4) func279 rfl rfl rfl rfl rfl ?_;rw [Zky.eq_1] at hm;have ab:=St.start col w0;refine go ?_;refine Qm (col:=(Zj col)) (v:=(.slice a0 aa.length ac)) 1 rfl rfl ?_;intro ad ai ag aj ae;replace ae:Zk 40 1 ag ai ad #[.slice a0 aa.length ac]:=ae;refine lv (v:=_) rfl rfl (Uk rfl)<|go ?_;refine lV (.func (.func 293) #[] #[.pointer (some ⟨ad,0,none⟩)]) (Zud rfl)<|lA (.func (.func 293) #[] #[.pointer (some ⟨ad,0,none⟩)])<|go ?_;replace ab:=ab.grow aj;have af:=ab.finBox (G:=(fun n=>bif Nat.beq n 1 then 450 else 0)) ae (by decide) (by decide) (show (fun n=>bif Nat.beq n 1 then 450 else 0) 1=450 from rfl);replace h0:=h0.keep (Zl.start col w0);have h0f:=ab.finSl (g:=(fun n=>bif Nat.beq n 1 then 450 else 0)) rfl (h0.ks ab);refine ⟨rfl,Ww w0.heap.size col ag (fun n=>bif Nat.beq n 1 then 450 else 0),_,rfl,ab.fin (fun n=>bif Nat.beq n 1 then 450 else 0),293,[.pointer (some ⟨ad,0,none⟩)],rfl,call293,?_⟩;intro col9 w9 ah hk9;replace af:=af.itk ah hk9 rfl;replace h0f:=h0f.itk ah hk9 rfl;exact Zxy N col9 w9 ad a0 ac aa h0f af r hm
def Zcb:List R3→Int→R2→Option R2
  | [],ac,ab=>some ab
  | aa :: ad,ac,ab=>Zz (aa.2≠0) ((Zq ab aa.1).bind fun af=>(some (ab.set (Int.toNat aa.1) (Int.tmod ac aa.2))).bind fun ae=>Zz (aa.2≠0) ((Zcb ad) (i64.wrap (Int.tdiv ac aa.2)) ae))
termination_by structural x=>x
def Zia (N:Nat) (aa:List Int) (ab:Int):Option R2:=
  if (decide ((aa.length:Int)=0))=true then (some ([]:List Int)) else (Zz (aa.length * 8≤281474976710656∧aa.length≤maxLen) ((Zky N aa).bind fun ac=>Zcb ac ab (List.replicate aa.length (0:Int))))
theorem Zxv {N a1:Nat} {a0:Option Addr} {col:Zd} {w0:World} {ag:R2} {am:Int} {r:R2} (c1:Nat) (hm:Zia N ag am=some r) (h0:Sl (Za.int .i64) col w0 a0 a1 ag):
    Calls prog 240 #[.slice a0 ag.length a1,.int .i64 am] w0 (fun e w'=>∃ (col':Zd) (ra1:Option Addr) (rc2:Nat),e= .returned ((.slice ra1 r.length rc2))∧Zi col w0 col' w'∧Zc (Za.int .i64) 3 c1 col' w' ra1 rc2 r):=by
 refine Zp2 4 (mc:=499) (m:=28) (args:=[.slice a0 ag.length a1,.int .i64 am]) func240 rfl rfl rfl rfl rfl ?_;rw [Zia.eq_1] at hm;have aa:=St.start col w0;replace h0:=h0.keep (Zl.start col w0);have hmk:Yf 499 (Zj col) w0 []:=.nil;refine go ?_;refine Qm (col:=(Zj col)) (v:=(.int .i64 am)) 1 rfl rfl ?_;intro a2 a9 a3 ba ac;replace ac:Zk 3 1 a3 a9 a2 #[.int .i64 am]:=ac;refine go ?_;replace hmk:=hmk.gr ba;replace aa:=aa.grow ba;refine Zr hm (fun hb hm=>go ?_) fun hb hm=>go ?_
 ·cases hm;refine ⟨_,[],rfl,hmk,?_⟩;intro bz bh bi;replace aa:=aa.kp bh bi;exact ⟨Ww w0.heap.size col a3 (fun n=>0),none,0,rfl,aa.fin (fun n=>0),Zc.nil⟩
 obtain ⟨bb,hm⟩:=Z3 hm;refine Qo (col:=a3) (w:=a9) (r:=(Za.int .i64)) (n:=ag.length) (x0:=0) 2 rfl underlying40 Tryz.t3 rfl rfl rfl rfl rfl rfl rfl bb.1 bb.2 (V3 .i64 0) ?_;intro a4 b0 bj a5 a6;refine Zcx (col:=bj) (v:=(.slice none (([]:List Int).length) 0)) 3 rfl zeroValue40 ?_;intro ar bk bc au a7;replace a7:Zk 40 3 bc bk ar #[.slice none (([]:List Int).length) 0]:=a7;refine Sy (v:=(.slice a4 ((List.replicate ag.length (0:Int)).length) ag.length)) a7 sizeOf40 rfl rfl (by intro u hu;simp only [Value.cells,List.mem_cons,List.not_mem_nil,or_false] at hu;subst hu;rfl) rfl rfl ?_;intro bm av bn ab;replace ab:Zk 40 3 bc bm ar #[.slice a4 ((List.replicate ag.length (0:Int)).length) ag.length]:=ab;refine go ?_;obtain ⟨bo,bp,hm⟩:=bZ hm;replace aa:=((aa.grow a5).grow au).kp av bn;refine Zh (Zxx bp (h0.ks aa)) ?_;rintro _ b1 ⟨bq,b2,rfl,aq,br⟩;refine ⟨_,rfl,go ?_⟩;replace ac:=(((ac.gr a5).gr au).kp av).gr aq;replace hmk:=(((hmk.gr a5).gr au).kp av).gr aq;replace a6:=((a6.gr au).kp av).gr aq;replace ab:=ab.gr aq;replace aa:=aa.grow aq;refine Zgo (psl:=[16,17]) (arr:=(fun (y:Int×Int) (col:Zd) (w:World) (args:List Value)=>args=[.int .i64 y.1,.int .i64 y.2])) (ys:=bo) (col:=bq) 498 rfl br rfl hmk rfl rfl (by rintro _ _ _ _ rfl;rfl) (fun ys_ ad al=>∃ (ae:Int) (ai:Option Addr) (aj:Nat) (ak:List Int),Zcb ys_ ae ak=some r∧St w0 (Zj col) ad al∧Zk 3 1 ad al a2 #[.int .i64 ae]∧Zc (Za.int .i64) 3 2 ad al ai aj ak∧Zk 40 3 ad al ar #[.slice ai ak.length aj]) (fun _ _ _=>False) ?_ ?_ ⟨am,a4,ag.length,(List.replicate ag.length (0:Int)),hm,aa,ac,a6,ab⟩ ?_ ?_ ?_
 ·intro ys_ ad al col2_ w2_ hJ hk;obtain ⟨ae,ai,aj,ak,hm,aa,ac,af,ab⟩:=hJ;exact ⟨ae,ai,aj,ak,hm,aa.kpp hk rfl rfl,ac.kpp hk rfl,af.kpp hk rfl rfl,ab.kpp hk rfl⟩
 ·intro _ _ _ _ _ h _;exact h
 ·intro b3 b4 b5 ah b6 ad al args hJ hrec hmk harr;obtain ⟨ae,ai,aj,ak,hm,aa,ac,af,ab⟩:=hJ;rw [Zcb.eq_2] at hm;have hki:=Zx.refl (pC 1) ad al;subst harr;refine go ?_;refine ⟨_,hrec,?_⟩;intro b7 b8 an bd hrec2;have hrec:=hrec2;refine go ?_;refine Wk (col:=ad) [(0,0),(1,1),(2,0),(3,1),(4,1),(5,1),(6,2)] (by kernel_rfl) (by kernel_rfl) ?_;replace ab:=ab.kp an;refine xW (fun _ hC=>ab.at1.gr (hC.bl ad)) ?_;refine xu rfl rfl (fun _=>Yw rfl) ?_;replace ac:=ac.kp an;refine xW (fun _ hC=>ac.at1.gr (hC.bl ad)) ?_;refine xu rfl rfl (fun _=>Yw rfl) ?_;obtain ⟨bs,hm⟩:=Z3 hm;refine xu (v:=(.int .i64 (Int.tmod ae ah.2))) rfl rfl (fun _=>Sn ae ah.2 rfl rfl bs) ?_;obtain ⟨b9,aw,hm⟩:=bZ hm;replace af:=af.kp an;refine xu rfl rfl (fun _=>Y9 underlying40 sizeOf3 rfl rfl (Xj aw).1 (Xj aw).2.1 (af.addr aw)) ?_;refine xe rfl rfl ?_;intro ca hC0;have hC:=hC0.bl ad;obtain ⟨ax,ay,hm⟩:=bZ hm;have ay:ax=ak.set (Int.toNat ah.1) (Int.tmod ae ah.2):=(Option.some.inj ay).symm;replace af:=af.gr hC;refine Wd (x1:=Int.tmod ae ah.2) af aw ?_;intro bt ao be az;rw [← ay] at az;replace ab:=(ab.gr hC).kp ao;replace ab:Zk 40 3 ad bt ar #[.slice ai ax.length aj]:=by rw [← (show ak.length=ax.length by rw [ay,nS])];exact ab
  refine Zm<|xk ad<|Y7 ?_;replace hmk:=((hmk.kp an).gr hC).kp ao;replace hki:=((hki.kp an bd rfl).gr hC).kp ao be rfl;replace aa:=((aa.kp an bd).grow hC).kp ao be;replace ac:=(ac.gr hC).kp ao;replace hrec:=(hrec.gr hC).kp ao;intro cb hC;replace hC:=hC.bl ad;refine Wr ?_;replace ac:=ac.gr hC;refine lW ac.at1<|Yd rfl ?_;obtain ⟨bu,hm⟩:=Z3 hm;refine lV (.int .i64 (i64.wrap (Int.tdiv ae ah.2))) (V2 ae ah.2 rfl rfl bu)<|Sy (v:=(.int .i64 (i64.wrap (Int.tdiv ae ah.2)))) ac sizeOf3 rfl rfl (by intro u hu;simp only [Value.cells,List.mem_cons,List.not_mem_nil,or_false] at hu;subst hu;rfl) rfl rfl ?_;intro bv ap bf a8;replace a8:Zk 3 1 ad bv a2 #[.int .i64 (i64.wrap (Int.tdiv ae ah.2))]:=a8;refine Zm ?_;replace az:=(az.gr hC).kp ap;replace ab:=(ab.gr hC).kp ap;replace hrec:=(hrec.gr hC).kp ap;replace hmk:=(hmk.gr hC).kp ap;replace hki:=(hki.gr hC).kp ap bf rfl;replace aa:=(aa.grow hC).kp ap bf;exact ⟨_,hki,⟨(i64.wrap (Int.tdiv ae ah.2)),ai,aj,ax,hm,aa,a8,az,ab⟩,hrec,hmk⟩
 ·intro bw ad al hJ hmk;obtain ⟨ae,ai,aj,ak,hm,aa,ac,af,ab⟩:=hJ;rw [Zcb.eq_1] at hm;refine go ?_;refine lW ab.at1<|go ?_;cases hm;refine ⟨_,(bw :: []),rfl,hmk,?_⟩;intro cc bg bx;replace af:=af.kp bg;replace aa:=aa.kp bg bx;exact ⟨Ww w0.heap.size col ad (fun n=>bif Nat.beq n 2 then c1 else 0),ai,aj,rfl,aa.fin (fun n=>bif Nat.beq n 2 then c1 else 0),aa.finOwn (g:=(fun n=>bif Nat.beq n 2 then c1 else 0)) rfl af (by decide) (by decide) rfl⟩
 intro _ _ _ _ h;exact h.elim
def Zca (N:Nat) (ab:Int) (ac:List Int):Nat→Int→Option (List R6)
  | 0,_=>none
  | ad+1,aa=>if (decide (aa<ab))=true then ((Zia N ac aa).bind fun ae=>((Zca N ab ac ad) (i64.wrap (aa+1))).bind fun af=>some ((aa,ae) :: af)) else (some [])
termination_by structural x=>x
def Zkw (N:Nat) (aa:Int) (ab:List Int):Option (List R6):=
  Zca N aa ab N 0
theorem Zxt (N:Nat) (cy:Nat) (col:Zd) (w0:World) (g0:Nat) (ah:Int) (hb0:Zk 3 450 col w0 g0 #[.int .i64 ah]) (g1:Nat) (af1:Option Addr) (capf1:Nat) (ad:List Int) (hf1:Zc (Za.int .i64) 3 450 col w0 af1 capf1 ad) (hb1:Zk 40 450 col w0 g1 #[.slice af1 ad.length capf1]) (r:List R6) (hm:Zkw N ah ad=some r):
    Zcr prog 1 239 [.pointer (some ⟨g0,0,none⟩),.pointer (some ⟨g1,0,none⟩)] (fun (y:Int×List Int) (col:Zd) (w:World) (args:List Value)=>∃ (a1:Option Addr) (ak:Nat),args=[.int .i64 y.1,.slice a1 y.2.length ak]∧Zc (Za.int .i64) 3 cy col w a1 ak y.2) r col w0:=by
 intro l J X hjs hxs hy aa;refine Zcu (m:=17) (args:=[.func (.yield l) #[] #[],.pointer (some ⟨g0,0,none⟩),.pointer (some ⟨g1,0,none⟩)]) func239 rfl rfl rfl rfl ?_;rw [Zkw.eq_1] at hm;refine go ?_;refine lW hb0.at1<|go ?_;refine Z8 [0,2,5,1000000] (fun n f ae=>∃ ab r ai af,af=n∧Zca N ah ad af ai=some r∧J r ab ae∧Zc (Za.int .i64) 3 450 ab ae af1 capf1 ad∧Zk 40 450 ab ae g1 #[.slice af1 ad.length capf1]∧Zk 3 450 ab ae g0 #[.int .i64 ah]∧[6].map f=[.int .i64 ai]) N ⟨_,_,0,_,rfl,hm,aa,hf1,hb1,hb0,rfl⟩ ?_;clear hm;intro n f ae hI;obtain ⟨ab,r,ai,af,hn,hm,aa,hf1,hb1,hb0,hs⟩:=hI;subst hn;refine .lL [6] hs ?_
 cases af with
 | zero=>rw [Zca.eq_1] at hm;cases hm
 | succ af=>
  rw [Zca.eq_2] at hm;refine go ?_;refine Zr hm (fun hb hm=>go ?_) fun hb hm=>go ?_
  ·refine lM (.func (.yield l) #[] #[])<|Yd rfl<|lW hb1.at1<|Yd rfl ?_;obtain ⟨an,ao,hm⟩:=bZ hm;refine Zh (Zxv 501 ao (hf1.toSlF (Zg.int .i64))) ?_;rintro _ ar ⟨ap,al,am,rfl,ac,ag⟩;refine ⟨_,rfl,?_⟩;replace ag:=ag.thaw (Z0 .i64) ac ((Fz.refl (col:=ab)).froz 450) (by decide);replace ac:=ac.thawR (col:=ab);generalize Xc ae.heap.size ab ap=au at *;replace hf1:=hf1.gr ac;replace hb1:=hb1.gr ac;replace hb0:=hb0.gr ac;replace aa:=hjs _ _ _ _ _ aa ac.toP;replace hf1:=hf1.recol 501 cy (by decide);replace ag:=ag.recolSelf cy (by decide);replace hb1:=hb1.recol 501 cy (by decide);replace hb0:=hb0.recol 501 cy (by decide);replace aa:=hjs _ _ _ _ _ aa ((Zx.refl _ _ _).recol 501 cy rfl);obtain ⟨av,hc_15m,aq⟩:=bZ hm;cases aq;have hm:=hc_15m;refine ly2 rfl rfl rfl rfl (hy _ _ _ _ [.int .i64 ai,.slice al an.length am] aa ⟨al,am,rfl,ag⟩) ?_;rintro _ aw ⟨ax,aj,⟨rfl,hJ⟩ | ⟨rfl,hX⟩⟩
   ·refine ⟨_,rfl,?_⟩;have aa:=hJ;refine go ?_;refine X3 rfl<|go ?_;replace hf1:=hf1.kpp aj;replace hb1:=hb1.kpp aj;replace hb0:=hb0.kpp aj;exact ⟨af,by omega,rfl,⟨_,_,_,_,rfl,hm,aa,hf1,hb1,hb0,rfl⟩⟩
   refine ⟨_,rfl,?_⟩;have aa:=hX;refine go ?_;refine X4 rfl<|W7 ?_;exact ⟨rfl,⟨_,rfl⟩,_,.inr aa⟩
  cases hm;exact ⟨rfl,⟨_,rfl⟩,_,.inl aa⟩
def Zh6 (N:Nat) (ab:List Int):Option (List R6):=
  (Zcf ab).bind fun aa=>(Q5 aa).bind fun ac=>Zkw N ac.1 aa
theorem Zxs {N ay:Nat} {a0:Option Addr} {col:Zd} {w0:World} {ai:R2} {r:(List R6)} (cy:Nat) (hm:Zh6 N ai=some r) (h0:Sl (Za.int .i64) col w0 a0 ay ai):
    Calls prog 142 #[.slice a0 ai.length ay] w0 (fun e w'=>∃ (col':Zd) (rv1:Value),e= .returned (rv1)∧Zi col w0 col' w'∧It prog 1 rv1 (fun (y:Int×List Int) (col:Zd) (w:World) (args:List Value)=>∃ (a1:Option Addr) (az:Nat),args=[.int .i64 y.1,.slice a1 y.2.length az]∧Zc (Za.int .i64) 3 cy col w a1 az y.2) r q1 col' w'):=by
 refine Xk 2 (m:=14) func142 rfl rfl rfl rfl rfl ?_;rw [Zh6.eq_1] at hm;have aa:=St.start col w0;refine go ?_;refine lv (v:=_) rfl rfl (Uk rfl)<|go ?_;obtain ⟨aj,a5,hm⟩:=bZ hm;replace h0:=h0.keep (Zl.start col w0);refine Zh (Zmn 1 a5 (h0.ks aa)) ?_;rintro _ bf ⟨a6,ak,al,rfl,a7,ac⟩;refine ⟨_,rfl,?_⟩;refine Zcx (col:=a6) (v:=(.slice none (([]:List Int).length) 0)) 2 rfl zeroValue40 ?_;intro ad a8 ag a2 am;replace am:Zk 40 2 ag a8 ad #[.slice none (([]:List Int).length) 0]:=am;refine Sy (v:=(.slice ak aj.length al)) am sizeOf40 rfl rfl (by intro u hu;simp only [Value.cells,List.mem_cons,List.not_mem_nil,or_false] at hu;subst hu;rfl) rfl rfl ?_;intro a3 a4 a9 ae;replace ae:Zk 40 2 ag a3 ad #[.slice ak aj.length al]:=ae;refine go ?_;refine lW ae.at1 ?_;obtain ⟨ab,ba,hm⟩:=bZ hm;replace ac:=(ac.gr a2).kp a4;refine Zh (Zjp ba (ac.toSlF (Zg.int .i64))) ?_;rintro _ bb ⟨rfl,ah⟩;refine ⟨_,rfl,?_⟩;replace ah:Zi ag a3 ag bb:=.of_below ah;refine lM (.tuple #[.int .i64 ab.1,.int .i64 ab.2])<|lV (.int .i64 ab.1) (Xe rfl rfl)<|lV (.int .i64 ab.2) (Xe rfl rfl)<|Zcx (col:=ag) (v:=(.int .i64 0)) 3 rfl zeroValue3 ?_;intro af bc an ao ap;replace ap:Zk 3 3 an bc af #[.int .i64 0]:=ap;refine Sy (v:=(.int .i64 ab.1)) ap sizeOf3 rfl rfl (by intro u hu;simp only [Value.cells,List.mem_cons,List.not_mem_nil,or_false] at hu;subst hu;rfl) rfl rfl ?_;intro bd aq be ar;replace ar:Zk 3 3 an bd af #[.int .i64 ab.1]:=ar;refine go ?_;refine lV (.func (.func 239) #[] #[.pointer (some ⟨af,0,none⟩),.pointer (some ⟨ad,0,none⟩)]) (Zoe rfl rfl)<|lA (.func (.func 239) #[] #[.pointer (some ⟨af,0,none⟩),.pointer (some ⟨ad,0,none⟩)])<|go ?_;replace aa:=(((((aa.grow a7).grow a2).kp a4 a9).grow ah).grow ao).kp aq be;have au:=aa.finBox (G:=(fun n=>bif Nat.beq n 3 then 450 else bif Nat.beq n 2 then 450 else bif Nat.beq n 1 then 450 else 0)) ar (by decide) (by decide) (show (fun n=>bif Nat.beq n 3 then 450 else bif Nat.beq n 2 then 450 else bif Nat.beq n 1 then 450 else 0) 3=450 from rfl);replace ae:=((ae.gr ah).gr ao).kp aq;have av:=aa.finBox (G:=(fun n=>bif Nat.beq n 3 then 450 else bif Nat.beq n 2 then 450 else bif Nat.beq n 1 then 450 else 0)) ae (by decide) (by decide) (show (fun n=>bif Nat.beq n 3 then 450 else bif Nat.beq n 2 then 450 else bif Nat.beq n 1 then 450 else 0) 2=450 from rfl);replace ac:=((ac.gr ah).gr ao).kp aq
 have aw:=aa.finOwn (g:=(fun n=>bif Nat.beq n 3 then 450 else bif Nat.beq n 2 then 450 else bif Nat.beq n 1 then 450 else 0)) rfl ac (by decide) (by decide) (show (fun n=>bif Nat.beq n 3 then 450 else bif Nat.beq n 2 then 450 else bif Nat.beq n 1 then 450 else 0) 1=450 from rfl);refine ⟨rfl,Ww w0.heap.size col an (fun n=>bif Nat.beq n 3 then 450 else bif Nat.beq n 2 then 450 else bif Nat.beq n 1 then 450 else 0),_,rfl,aa.fin (fun n=>bif Nat.beq n 3 then 450 else bif Nat.beq n 2 then 450 else bif Nat.beq n 1 then 450 else 0),239,[.pointer (some ⟨af,0,none⟩),.pointer (some ⟨ad,0,none⟩)],rfl,call239,?_⟩;intro col9 w9 ax hk9;replace au:=au.itk ax hk9 rfl;replace av:=av.itk ax hk9 rfl;replace aw:=aw.itk ax hk9 rfl (Z0 .i64);exact Zxt N cy col9 w9 af ab.1 au ad ak al aj aw av r hm
def Zo:List Nat→Nat
 | []=>1
 | s :: ss=>s * Zo ss
def Xq:List Nat→Nat→List Int
 | [],_=>[]
 | s :: ss,a=>((a / Zo ss:Nat):Int) :: Xq ss (a % Zo ss)
def Vz:List Nat→List Int→Nat
 | s :: ss,d :: w=>d.toNat * Zo ss+Vz ss w
 | _,_=>0
theorem Zgi:∀ ss:List Nat,(∀ s ∈ ss,0<s)→0<Zo ss
 | [],_=>by rw [Zo];decide
 | s :: ss,h=>Nat.mul_pos (h s List.mem_cons_self) (Zgi ss fun x hx=>h x (List.mem_cons_of_mem _ hx))
theorem Zg1:∀ (ss:List Nat) (a:Nat),(Xq ss a).length=ss.length
 | [],_=>rfl
 | s :: ss,a=>by rw [Xq,nC,nC,Zg1 ss]
def Qi:List Nat→List Int→Prop
 | [],[]=>True
 | s :: ss,d :: w=>(0≤d∧d<(s:Int))∧Qi ss w
 | _,_=>False
theorem Tz:∀ (ss:List Nat) (a:Nat),(∀ s ∈ ss,0<s)→a<Zo ss→Qi ss (Xq ss a)
 | [],_,_,_=>trivial
 | s :: ss,a,h,ha=>by
  have hp:=Zgi ss fun x hx=>h x (List.mem_cons_of_mem _ hx)
  rw [Zo] at ha
  refine ⟨⟨Int.natCast_nonneg _,Int.ofNat_lt.2 ((Nat.div_lt_iff_lt_mul hp).2 ha)⟩,Tz ss _ (fun x hx=>h x (List.mem_cons_of_mem _ hx)) (Nat.mod_lt _ hp)⟩
theorem Zir:∀ (ss:List Nat) (w:List Int),Qi ss w→Vz ss w<Zo ss
 | [],[],_=>by rw [Vz,Zo];decide;intro s ss d w h;cases h
 | s :: ss,d :: w,h=>by
  have h1:=Zir ss w h.2
  have h2:d.toNat+1≤s:=by have:=h.1;omega
  have h3:=Nat.mul_le_mul_right (Zo ss) h2
  rw [Nat.add_mul,Nat.one_mul] at h3
  rw [Vz,Zo];omega
def Xb (ss:List Nat):List Int:=ss.map fun s:Nat=>(s:Int)
theorem Zmt {l:List Int} (h:l.length≤1099511627776):Zcf l=some l:=by
 rw [Zcf,Z7 (by simp only [nN,maxLen];omega),List.nil_append]
theorem Zvh:∀ (ss:List Nat) (c:Nat),0<c→(∀ s ∈ ss,0<s)→c * Zo ss≤65536→Se (Xb ss) (c:Int)=some (((c * Zo ss:Nat):Int),0)
 | [],c,_,_,_=>by rw [Xb,List.map_nil,Se.eq_1,Zo,Nat.mul_one]
 | s :: ss,c,hc,hs,hb=>by
  have hp:=Zgi ss fun x hx=>hs x (List.mem_cons_of_mem _ hx)
  have h0:=hs s List.mem_cons_self
  rw [Zo,← Nat.mul_assoc] at hb ⊢
  have h1:c * s≤c * s * Zo ss:=Nat.le_mul_of_pos_right _ hp
  have e:Int.tdiv 2147483647 (c:Int)=((2147483647 / c:Nat):Int):=rfl
  have h2:s≤2147483647 / c:=by
   rw [Nat.le_div_iff_mul_le hc,Nat.mul_comm];omega
  have h3:2147483647 / c≤2147483647:=Nat.div_le_self _ _
  have e2:(c:Int) * (s:Int)=((c * s:Nat):Int):=(Int.natCast_mul c s).symm
  rw [Xb,List.map_cons,Se.eq_2,Z7 (by omega),e,Z2 (x:=((2147483647 / c:Nat):Int)) (by omega),if_neg (dF (by omega)),e2,Z2 (by omega)]
  exact Zvh ss (c * s) (Nat.mul_pos hc h0) (fun x hx=>hs x (List.mem_cons_of_mem _ hx)) hb
theorem Zoq (p:List Int):∀ (ss:List Nat),(∀ s ∈ ss,0<s)→Q6 p (Xb ss) false=Se p 1
 | [],_=>by rw [Xb,List.map_nil,Q6.eq_1,if_neg (by decide)]
 | s :: ss,hs=>by
  have h0:=hs s List.mem_cons_self
  rw [Xb,List.map_cons,Q6.eq_2,if_neg (dF (by omega)),if_neg (by decide),Zh9,decide_eq_false (by omega)]
  exact Zoq p ss fun x hx=>hs x (List.mem_cons_of_mem _ hx)
theorem Zlt {ss:List Nat} (hs:∀ s ∈ ss,0<s) (hb:Zo ss≤65536):Q5 (Xb ss)=some ((Zo ss:Int),0):=by
 have:=Zvh ss 1 (by decide) hs (by rw [Nat.one_mul];exact hb)
 rw [Q5,Zoq _ ss hs,show (1:Int)=((1:Nat):Int) from rfl,this,Nat.one_mul]
def Zei (ss:List Nat):Nat→List R3
 | 0=>[]
 | k+1=>((k:Int),((ss.getD k 0:Nat):Int)) :: Zei ss k
theorem Ziy {ss:List Nat} {k:Nat} (h:k<ss.length):Zq (Xb ss) (k:Int)=some ((ss.getD k 0:Nat):Int):=by
 rw [Zed,Xb,List.getElem?_map,List.getElem?_eq_getElem h,List.getD_eq_getElem?_getD,List.getElem?_eq_getElem h];rfl
theorem Zvg (N:Nat) (ss:List Nat) (hl:ss.length≤1099511627776):∀ (f k:Nat),k≤ss.length→k<f→Zcd N (Xb ss) f ((k:Int) - 1)=some (Zei ss k)
 | 0,k,_,h=>by omega
 | f+1,0,h1,h2=>by rw [Zcd.eq_2,if_neg (by decide)];rfl
 | f+1,k+1,h1,h2=>by
  rw [Zcd.eq_2,show ((k+1:Nat):Int) - 1=(k:Int) by omega,if_pos (dT (by omega)),Ziy (by omega),oB,Z2 (by omega),Zvg N ss hl f k (by omega) (by omega),oB,Zei]
theorem Zvi (ss:List Nat) (hs:∀ s ∈ ss,0<s) (a:Nat) (ha:a<4611686018427387904):∀ k,k≤ss.length→Zcb (Zei ss k) ((a / Zo (ss.drop k):Nat):Int) (List.replicate k 0++Xq (ss.drop k) (a % Zo (ss.drop k)))=some (Xq ss (a % Zo ss))
 | 0,_=>by rw [Zei,Zcb.eq_1,List.drop_zero];rfl
 | k+1,hk=>by
  have hkl:k<ss.length:=by omega
  have hdr:ss.drop k=ss.getD k 0 :: ss.drop (k+1):=by
   rw [List.drop_eq_getElem_cons hkl,List.getD_eq_getElem?_getD,List.getElem?_eq_getElem hkl];rfl
  have ih:=Zvi ss hs a ha k (by omega)
  have h0:0<ss.getD k 0:=by
   rw [List.getD_eq_getElem?_getD,List.getElem?_eq_getElem hkl]
   exact hs _ (List.getElem_mem hkl)
  rw [hdr,Zo,Xq,Nat.mod_mul_left_mod,Nat.mul_comm,Nat.mod_mul_right_div_self,← Nat.div_div_eq_div_mul] at ih
  have hle:=Nat.div_le_self a (Zo (ss.drop (k+1)))
  generalize a / Zo (ss.drop (k+1))=q at *
  generalize Xq (ss.drop (k+1)) (a % Zo (ss.drop (k+1)))=D at *
  have e1:Int.tmod (q:Int) ((ss.getD k 0:Nat):Int)=((q % ss.getD k 0:Nat):Int):=rfl
  have e2:Int.tdiv (q:Int) ((ss.getD k 0:Nat):Int)=((q / ss.getD k 0:Nat):Int):=rfl
  have h4:q / ss.getD k 0≤q:=Nat.div_le_self _ _
  have e3:(List.replicate (k+1) (0:Int)++D).set k ((q % ss.getD k 0:Nat):Int)=List.replicate k 0++((q % ss.getD k 0:Nat):Int) :: D:=by
   rw [List.replicate_succ',List.append_assoc,List.set_append_right (i:=k) _ (by rw [List.length_replicate];exact Nat.le_refl _),List.length_replicate,Nat.sub_self];rfl
  generalize q / ss.getD k 0=z at *
  rw [Zei,Zcb.eq_2,Z7 (by simp only;omega)]
  dsimp only
  rw [Xg (by rw [nA,List.length_replicate];omega),oB,e1,e2,Int.toNat_natCast,e3,oB,Z7 (by omega),Z2 (by omega)]
  exact ih
theorem Zyz {N:Nat} {ss:List Nat} (hs:∀ s ∈ ss,0<s) (hl:ss.length≤1048576) (hN:1048577<N) {a:Nat} (ha:a<Zo ss) (hb:Zo ss≤65536):Zia N (Xb ss) (a:Int)=some (Xq ss a):=by
 have hlen:(Xb ss).length=ss.length:=by rw [Xb,List.length_map]
 rw [Zia,hlen]
 by_cases h0:ss.length=0
 ·have:ss=[]:=List.eq_nil_of_length_eq_zero h0
  rw [if_pos (dT (by omega)),this,Xq]
 ·have hb2:=Zvg N ss (by omega) N ss.length (Nat.le_refl _) (by omega)
  have hd:=Zvi ss hs a (by omega) ss.length (Nat.le_refl _)
  rw [List.drop_length,Zo,Nat.div_one,Xq,List.append_nil,Nat.mod_eq_of_lt ha] at hd
  rw [if_neg (dF (by omega)),Z7 (by simp only [maxLen];omega),Zky,Zkz,hlen,Z2 (by omega),hb2,oB]
  exact hd
def Zer (ss:List Nat):Nat→Nat→List R6
 | _,0=>[]
 | k,m+1=>((k:Int),Xq ss k) :: Zer ss (k+1) m
theorem Zuk {N:Nat} {ss:List Nat} (hs:∀ s ∈ ss,0<s) (hl:ss.length≤1048576) (hN:1048577<N) (hb:Zo ss≤65536):∀ (m k f:Nat),k+m=Zo ss→m<f→Zca N (Zo ss:Int) (Xb ss) f (k:Int)=some (Zer ss k m)
 | m,k,0,_,h=>by omega
 | 0,k,f+1,h1,h2=>by rw [Zca.eq_2,if_neg (dF (by omega))];rfl
 | m+1,k,f+1,h1,h2=>by
  rw [Zca.eq_2,if_pos (dT (by omega)),Zyz hs hl hN (by omega) hb,oB,wS (by omega),Zuk hs hl hN hb m (k+1) f (by omega) (by omega),oB,Zer]
theorem Z18 {N:Nat} {ss:List Nat} (hs:∀ s ∈ ss,0<s) (hl:ss.length≤1048576) (hN:1048577<N) (hb:Zo ss≤65536):Zh6 N (Xb ss)=some (Zer ss 0 (Zo ss)):=by
 have hlen:(Xb ss).length=ss.length:=by rw [Xb,List.length_map]
 rw [Zh6,Zmt (by omega),oB,Zlt hs hb,oB,Zkw]
 exact Zuk hs hl hN hb (Zo ss) 0 N (by omega) (by omega)
def Zb:List Int→Nat
 | []=>0
 | x :: l=>x.toNat+4294967296 * Zb l
def Zn (l:List Int):Prop:=∀ x ∈ l,0≤x∧x<4294967296
def Ze (n:Nat):List Int:=if n=0 then [] else ((n % 4294967296:Nat):Int) :: Ze (n / 4294967296)
termination_by n
decreasing_by omega
theorem Zn.nil:Zn []:=by simp [Zn]
theorem Zn.cons {x:Int} {l:List Int} (h:0≤x∧x<4294967296) (hl:Zn l):Zn (x :: l):=fun y hy=>by
 rcases List.mem_cons.1 hy with rfl | hy
 ·exact h
 ·exact hl y hy
theorem Zn.head {x:Int} {l:List Int} (h:Zn (x :: l)):0≤x∧x<4294967296:=h x List.mem_cons_self
theorem Zn.tail {x:Int} {l:List Int} (h:Zn (x :: l)):Zn l:=fun y hy=>h y (List.mem_cons_of_mem _ hy)
theorem Zn.app {a b:List Int} (ha:Zn a) (hb:Zn b):Zn (a++b):=fun y hy=>by
 rcases List.mem_append.1 hy with h | h
 ·exact ha y h
 ·exact hb y h
theorem Zn.take {a:List Int} (h:Zn a) (k:Nat):Zn (a.take k):=fun y hy=>h y (List.mem_of_mem_take hy)
theorem Zn.drop {a:List Int} (h:Zn a) (k:Nat):Zn (a.drop k):=fun y hy=>h y (List.mem_of_mem_drop hy)
theorem Zn.zeros (k:Nat):Zn (List.replicate k 0):=fun y hy=>by
 rw [List.eq_of_mem_replicate hy];decide
theorem Zn.set {a:List Int} (h:Zn a) (k:Nat) {v:Int} (hv:0≤v∧v<4294967296):Zn (a.set k v):=fun y hy=>by
 rcases List.mem_or_eq_of_mem_set hy with h1 | rfl
 ·exact h y h1
 ·exact hv
theorem Zn.get {a:List Int} (h:Zn a) {k:Nat} (hk:k<a.length):0≤a[k]∧a[k]<4294967296:=h _ (List.getElem_mem hk)
theorem Ym:Zb []=0:=rfl
theorem Y3 (x:Int) (l:List Int):Zb (x :: l)=x.toNat+4294967296 * Zb l:=rfl
theorem Sg (a b:List Int):Zb (a++b)=Zb a+4294967296 ^ a.length * Zb b:=by
 induction a with
 | nil=>simp [Zb]
 | cons x a ih=>
  rw [List.cons_append,Y3,Y3,ih,nC,Nat.pow_succ]
  grind
theorem Si (k:Nat):Zb (List.replicate k 0)=0:=by
 induction k with
 | zero=>rfl
 | succ k ih=>rw [List.replicate_succ,Y3,ih];rfl
theorem Sh {l:List Int} (h:Zn l):Zb l<4294967296 ^ l.length:=by
 induction l with
 | nil=>simp [Zb]
 | cons x l ih=>
  have h1:=h.head
  have h2:=ih h.tail
  rw [Y3,nC,Nat.pow_succ]
  have h3:(Zb l+1) * 4294967296≤4294967296 ^ l.length * 4294967296:=Nat.mul_le_mul_right _ h2
  omega
theorem Z4 (n:Nat):Zb (Ze n)=n:=by
 induction n using Nat.strongRecOn with
 | ind n ih=>
  rw [Ze]
  split
  ·rename_i h;rw [h];rfl
  ·rename_i h
   rw [Y3,ih (n / 4294967296) (by omega)]
   omega
theorem Wt:Ze 0=[]:=by rw [Ze,if_pos rfl]
theorem Zc0 {n:Nat} (h:n≠0):Ze n=((n % 4294967296:Nat):Int) :: Ze (n / 4294967296):=by rw [Ze,if_neg h]
theorem Th:Ze 1=[1]:=by rw [Zc0 (by decide)];simp [Wt]
theorem Z9 (n:Nat):Zn (Ze n):=by
 induction n using Nat.strongRecOn with
 | ind n ih=>
  rw [Ze]
  split
  ·exact .nil
  ·exact .cons (by omega) (ih (n / 4294967296) (by omega))
theorem Wq {k n:Nat}:(Ze n).length≤k↔n<4294967296 ^ k:=by
 induction k generalizing n with
 | zero=>
  by_cases h:n=0
  ·subst h;simp [Wt]
  ·rw [Zc0 h];simp;omega
 | succ k ih=>
  by_cases h:n=0
  ·subst h;simp [Wt];exact Nat.pow_pos (by decide)
  ·rw [Zc0 h,nC,Nat.add_le_add_iff_right,ih,Nat.pow_succ]
   omega
theorem Ys {l:List Int} (h:Zn l):(Ze (Zb l)).length≤l.length:=Wq.2 (Sh h)
theorem Zet {n:Nat}:Ze n=[]↔n=0:=by
 by_cases h:n=0
 ·subst h;simp [Wt]
 ·rw [Zc0 h];simp [h]
theorem Zr7 {x:Int} {l:List Int} (h:0≤x∧x<4294967296) (h0:x=0→Zb l≠0):Ze (Zb (x :: l))=x :: Ze (Zb l):=by
 have hn:Zb (x :: l)≠0:=by
  rw [Y3]
  by_cases hx:x=0
  ·have:=h0 hx;omega
  ·omega
 rw [Zc0 hn,Y3]
 congr 1
 ·omega
 ·congr 1;omega
theorem Z07 {a:List Int} {x:Int} (h:0<x):Zb (a++[x])≠0:=by
 rw [Sg,Y3,Ym]
 have:0<4294967296 ^ a.length * (x.toNat+4294967296 * 0):=Nat.mul_pos (Nat.pow_pos (by decide)) (by omega)
 omega
theorem Z0k {a:List Int} {x:Int} (h:Zn (a++[x])) (hx:x≠0):Ze (Zb (a++[x]))=a++[x]:=by
 induction a with
 | nil=>
  have:=h.head
  rw [List.nil_append,Zr7 this (fun e=>absurd e hx),Ym,Wt]
 | cons y a ih=>
  have h1:0≤x∧x<4294967296:=h x (by simp)
  rw [List.cons_append,Zr7 h.head fun _=>Z07 (by omega),ih h.tail]
theorem Zsz (a:List Int):Zb (a++[0])=Zb a:=by rw [Sg];simp [Zb]
theorem Zes {l:List Int} (h:0<l.length):l.take (l.length - 1)++[l[l.length - 1]]=l:=by
 have:=List.take_append_drop (l.length - 1) l
 rw [List.drop_eq_getElem_cons (by omega),List.drop_eq_nil_of_le (by omega)] at this
 exact this
theorem Zj8 {n:Nat} (h:0<(Ze n).length):(Ze n)[(Ze n).length - 1]≠0:=by
 induction n using Nat.strongRecOn with
 | ind n ih=>
  by_cases h0:n=0
  ·subst h0;simp [Wt] at h
  ·have e:=Zc0 h0
   by_cases h1:n / 4294967296=0
   ·have:Ze n=[((n % 4294967296:Nat):Int)]:=by rw [e,h1,Wt]
    simp only [this,List.length_singleton,Nat.sub_self,List.getElem_cons_zero]
    omega
   ·have h2:0<(Ze (n / 4294967296)).length:=by
     rw [Zc0 h1];simp
    have:=ih (n / 4294967296) (by omega) h2
    have e2:(Ze n).length - 1=(Ze (n / 4294967296)).length - 1+1:=by rw [e];simp;omega
    have e3:(Ze n)[(Ze n).length - 1]?=(Ze (n / 4294967296))[(Ze (n / 4294967296)).length - 1]?:=by
     rw [e2]
     conv=>lhs;rw [e]
     rw [List.getElem?_cons_succ]
    rw [List.getElem?_eq_getElem (by omega),List.getElem?_eq_getElem (by omega)] at e3
    rw [Option.some.inj e3]
    exact this
theorem To {l:List Int} {k:Nat} (hk:k<l.length) (v:Int):Zb (l.set k v)+4294967296 ^ k * (l[k]).toNat=Zb l+4294967296 ^ k * v.toNat:=by
 induction l generalizing k with
 | nil=>simp at hk
 | cons x l ih=>
  cases k with
  | zero=>simp only [List.set_cons_zero,Y3,List.getElem_cons_zero,Nat.pow_zero,Nat.one_mul];omega
  | succ k=>
   have h:=ih (k:=k) (by simpa using hk)
   simp only [List.set_cons_succ,Y3,List.getElem_cons_succ,Nat.pow_succ]
   grind
theorem Znw {l:List Int} {k:Nat} (hk:k<l.length):Zb (l.take (k+1))=Zb (l.take k)+4294967296 ^ k * (l[k]).toNat:=by
 rw [List.take_add_one,List.getElem?_eq_getElem hk,Sg,Option.toList_some,Y3,Ym,nK,Nat.min_eq_left (by omega)]
 simp
theorem Ua {l:List Int} {k:Nat} (hk:k<l.length):Zb (l.drop k)=(l[k]).toNat+4294967296 * Zb (l.drop (k+1)):=by
 rw [List.drop_eq_getElem_cons hk,Y3]
theorem Ut (l:List Int) (k:Nat):Zb l=Zb (l.take k)+4294967296 ^ k * Zb (l.drop k):=by
 by_cases h:k≤l.length
 ·conv=>lhs;rw [← List.take_append_drop k l]
  rw [Sg,nK,Nat.min_eq_left h]
 ·rw [List.take_of_length_le (by omega),List.drop_eq_nil_of_le (by omega)];simp [Zb]
theorem V4 {x:Int} (h:0≤x∧x<4294967296):u32.wrap x=x:=by rw [IntKind.wrap_u32];omega
theorem Xo {x:Int} (h:0≤x∧x<18446744073709551616):u64.wrap x=x:=by rw [IntKind.wrap_u64];omega
theorem Zd8 {x:Int}:Yh .u64 x 32=x / 4294967296:=by
 have:(min (32:Int).toNat u64.bits)=32:=by decide
 rw [Yh,this]
 exact Int.fdiv_eq_ediv_of_nonneg _ (by decide)
def Za0 (aa:List Int) (kk_L1:(List Int→Option R2)) (ab:Bool):Option R2:=
  if ab=true then (Zz ((0:Int)≤(i64.wrap ((aa.length:Int) - 1))∧(i64.wrap ((aa.length:Int) - 1))≤(aa.length:Int)) (kk_L1 (aa.take (Int.toNat (i64.wrap ((aa.length:Int) - 1)))))) else (some aa)
def Tn (N:Nat):Nat→R2→Option R2
  | 0,_=>none
  | ab+1,aa=>if (decide (0<(aa.length:Int)))=true then ((Zq aa (i64.wrap ((aa.length:Int) - 1))).bind fun ac=>Za0 aa (Tn N ab) (decide (ac=0))) else (Za0 aa (Tn N ab) false)
termination_by structural x=>x
def Ui (N:Nat) (aa:List Int):Option R2:=
  Tn N N aa
theorem Tx {N ap:Nat} {a0:Option Addr} {col:Zd} {w0:World} {ag r:R2} (hm:Ui N ag=some r) (h0:Sl (Za.int .u32) col w0 a0 ap ag):
    Calls prog 217 #[.slice a0 ag.length ap] w0 (fun e w'=>∃ (col':Zd) (ra1:Option Addr) (rc2:Nat),e= .returned ((.slice ra1 r.length rc2))∧Zi col w0 col' w'∧Sl (Za.int .u32) col' w' ra1 rc2 r):=by
 refine Xk 2 (m:=21) func217 rfl rfl rfl rfl rfl ?_;rw [Ui.eq_1] at hm;have ab:=St.start col w0;refine go ?_;replace h0:=h0.keep (Zl.start col w0);refine Z8 [1000000] (fun n f ah=>∃ ai ad ae aa af,af=n∧Tn N af aa=some r∧St w0 (Zj col) ai ah∧Sl (Za.int .u32) ai ah ad ae aa∧[0].map f=[.slice ad aa.length ae]) N ⟨_,_,_,_,_,rfl,hm,ab,(h0.ks ab),rfl⟩ ?_;clear hm;intro n f ah hI;obtain ⟨ai,ad,ae,aa,af,hn,hm,ab,ac,hs⟩:=hI;subst hn;refine .lL [0] hs ?_
 cases af with
 | zero=>rw [Tn.eq_1] at hm;cases hm
 | succ af=>
  rw [Tn.eq_2] at hm;refine Zw<|Zw ?_;refine Wp.cutK [0,1000000] (fun f aj=>∃ ak al,Za0 aa (Tn N af) al=some r∧St w0 (Zj col) ak aj∧Sl (Za.int .u32) ak aj ad ae aa∧[14].map f=[.bool al]) ?_ ?_
  ·intro f aj hJ;obtain ⟨ak,al,hm,ab,ac,hs⟩:=hJ;rw [Za0.eq_1] at hm;refine .lL [14] hs ?_;refine Zr hm (fun hb hm=>go ?_) fun hb hm=>go ?_
   ·obtain ⟨am,hm⟩:=Z3 hm;refine lv (v:=.slice ad (Int.toNat (i64.wrap ((aa.length:Int) - 1))) ae) rfl rfl (Zgk underlying43 sizeOf79 rfl rfl am.1 (by have:=ac.1.2;have:=am.2;omega))<|.ld (d:=19) (v:=(.slice ad ((aa.take (Int.toNat (i64.wrap ((aa.length:Int) - 1)))).length) ae)) (congrArg (fun n=>Value.slice ad n ae) (List.length_take_of_le (show (Int.toNat (i64.wrap ((aa.length:Int) - 1)))≤aa.length by have:=am.2;omega)).symm) ?_;refine go ?_;exact ⟨af,by omega,rfl,⟨_,_,_,_,_,rfl,hm,ab,(ac.take (Int.toNat (i64.wrap ((aa.length:Int) - 1)))),rfl⟩⟩
   cases hm;exact ⟨rfl,_,_,_,rfl,ab.fin (cm []),ab.fs ac⟩
  refine go ?_;refine X1 hm (fun an hm=>go ?_) fun an hm=>go ?_
  ·obtain ⟨aq,ao,hm⟩:=bZ hm;refine lI ao (ac.addr ao) ?_;refine go ?_;refine lW (ac.atInt ao)<|go ?_;refine lV (.bool (decide (aq=0))) (Xs (congrArg Value.bool an) rfl)<|Zm ?_;exact ⟨rfl,_,_,hm,ab,ac,rfl⟩
  refine lV (.bool false) (Xl (congrArg Value.bool an) rfl)<|Zm ?_;exact ⟨rfl,_,_,hm,ab,ac,rfl⟩
def Zdh (N:Nat) (ab:List Int) (ac:List Int):Nat→Int→Option Int
  | 0,_=>none
  | af+1,aa=>if (decide (0≤aa))=true then ((Zq ab aa).bind fun ad=>(Zq ac aa).bind fun ae=>if (decide (ad<ae))=true then (some (-1)) else (if (decide (ae<ad))=true then (some 1) else ((Zdh N ab ac af) (i64.wrap (aa - 1))))) else (some 0)
termination_by structural x=>x
def Zb1 (N:Nat) (ac:List Int) (ad:List Int):Option Int:=
  (Ui N ac).bind fun aa=>(Ui N ad).bind fun ab=>if (!decide ((aa.length:Int)=(ab.length:Int)))=true then (if (decide ((aa.length:Int)<(ab.length:Int)))=true then (some (-1)) else (some 1)) else (Zdh N aa ab N (i64.wrap ((aa.length:Int) - 1)))
theorem Zjm {N al am:Nat} {a0 a1:Option Addr} {col:Zd} {w0:World} {ai aj:R2} {r:Int} (hm:Zb1 N ai aj=some r) (h0:Sl (Za.int .u32) col w0 a0 al ai) (h1:Sl (Za.int .u32) col w0 a1 am aj):
    Calls prog 250 #[.slice a0 ai.length al,.slice a1 aj.length am] w0 (fun e w'=>e= .returned ((.int .i64 r))∧Below w0.heap.size w0 w'):=by
 refine Xk 4 (m:=45) func250 rfl rfl rfl rfl rfl ?_;rw [Zb1.eq_1] at hm;have aa:=St.start col w0;refine go ?_;obtain ⟨an,aq,hm⟩:=bZ hm;replace h0:=h0.keep (Zl.start col w0);refine Zh (Tx aq (h0.ks aa)) ?_;rintro _ az ⟨a2,ar,au,rfl,av,ab⟩;refine ⟨_,rfl,?_⟩;refine Y0 rfl ?_;obtain ⟨ao,aw,hm⟩:=bZ hm;replace h1:=h1.keep (Zl.start col w0);replace aa:=aa.grow av;refine Zh (Tx aw (h1.ks aa)) ?_;rintro _ a3 ⟨a4,ax,ay,rfl,ap,ad⟩;refine ⟨_,rfl,go ?_⟩;replace ab:=ab.gr ap;replace aa:=aa.grow ap;refine Zr hm (fun hb hm=>go ?_) fun hb hm=>go ?_
 ·refine Zr hm (fun hb hm=>go ?_) fun hb hm=>go ?_
  ·cases hm;exact ⟨rfl,rfl,aa.below⟩
  cases hm;exact ⟨rfl,rfl,aa.below⟩
 refine Z8 [0,1,1000000] (fun n f ah=>∃ ac ak ae,ae=n∧Zdh N an ao ae ak=some r∧St w0 (Zj col) ac ah∧Sl (Za.int .u32) ac ah ar au an∧Sl (Za.int .u32) ac ah ax ay ao∧[5].map f=[.int .i64 ak]) N ⟨_,_,_,rfl,hm,aa,ab,ad,rfl⟩ ?_;clear hm;intro n f ah hI;obtain ⟨ac,ak,ae,hn,hm,aa,ab,ad,hs⟩:=hI;subst hn;refine .lL [5] hs ?_
 cases ae with
 | zero=>rw [Zdh.eq_1] at hm;cases hm
 | succ ae=>
  rw [Zdh.eq_2] at hm;refine go ?_;refine Zr hm (fun hb hm=>go ?_) fun hb hm=>go ?_
  ·refine Tq (col:=ac) (by kernel_rfl) (by kernel_rfl)<|go ?_;obtain ⟨a5,af,hm⟩:=bZ hm;refine qI af (ab.addr af)<|qW (fun _ hC=>(ab.gr (hC.bl ac)).atInt af) ?_;refine go ?_;obtain ⟨a6,ag,hm⟩:=bZ hm;refine qI ag (ad.addr ag)<|qW (fun _ hC=>(ad.gr (hC.bl ac)).atInt ag) ?_;refine go ?_;refine Vh ?_;intro a7 hC;replace hC:=hC.bl ac;replace ab:=ab.gr hC;replace ad:=ad.gr hC;replace aa:=aa.grow hC;refine Zr hm (fun hb hm=>go ?_) fun hb hm=>go ?_
   ·cases hm;exact ⟨rfl,rfl,aa.below⟩
   refine Tq (col:=ac) (by kernel_rfl) (by kernel_rfl)<|go ?_;refine qI af (ab.addr af)<|qW (fun _ hC=>(ab.gr (hC.bl ac)).atInt af) ?_;refine go ?_;refine qI ag (ad.addr ag)<|qW (fun _ hC=>(ad.gr (hC.bl ac)).atInt ag) ?_;refine go ?_;refine Vh ?_;intro a8 hC;replace hC:=hC.bl ac;replace ab:=ab.gr hC;replace ad:=ad.gr hC;replace aa:=aa.grow hC;refine Zr hm (fun hb hm=>go ?_) fun hb hm=>go ?_
   ·cases hm;exact ⟨rfl,rfl,aa.below⟩
   exact ⟨ae,by omega,rfl,⟨_,_,_,rfl,hm,aa,ab,ad,rfl⟩⟩
  cases hm;exact ⟨rfl,rfl,aa.below⟩
theorem Zzf:Y4 prog 79 1 4:=⟨Tryz.t79,_,rfl,rfl,rfl,rfl,rfl⟩
def Zdy (aa:List Int):Option R2:=
  Zz ((([]:List Int).length+aa.length) * 4≤140737488355328∧([]:List Int).length+aa.length≤maxLen) (some (([]:List Int)++aa))
theorem Zmm {ad:Nat} {a0:Option Addr} {col:Zd} {w0:World} {ac r:R2} (c1:Nat) (hm:Zdy ac=some r) (h0:Sl (Za.int .u32) col w0 a0 ad ac):
    Calls prog 273 #[.slice a0 ac.length ad] w0 (fun e w'=>∃ (col':Zd) (ra1:Option Addr) (rc2:Nat),e= .returned ((.slice ra1 r.length rc2))∧Zi col w0 col' w'∧Zc (Za.int .u32) 79 c1 col' w' ra1 rc2 r):=by
 refine Xk 2 (m:=8) func273 rfl rfl rfl rfl rfl ?_;rw [Zdy.eq_1] at hm;have aa:=St.start col w0;refine go ?_;replace h0:=h0.keep (Zl.start col w0);rcases Zlb h0 with ab | ab
 ·replace hm:some ([]:List Int)=some r:=by have h0:=ab.2;subst h0;simpa [Zz,maxLen] using hm
  refine lv (v:=.bool a0.isNone) rfl rfl (Zci underlying43 rfl)<|.ld (d:=4) (v:=.bool true) (congrArg Value.bool ab.1)<|Zm<|X4 rfl<|go ?_;cases hm;exact ⟨rfl,_,none,0,rfl,aa.fin (cm []),Zc.nil⟩
 refine lv (v:=.bool a0.isNone) rfl rfl (Zci underlying43 rfl)<|.ld (d:=4) (v:=.bool false) (congrArg Value.bool ab)<|Zm<|X3 rfl<|go ?_;refine Zg4 (col:=(Zj col)) (r:=(Za.int .u32)) 1 rfl underlying43 Zzf rfl ?_;intro aj ak al ae af;refine Y0 rfl ?_;obtain ⟨ag,hm⟩:=Z3 hm;replace h0:=h0.gr ae;refine Vq af h0.srcC ag ?_;intro am an ao ap ah ai;refine go ?_;cases hm;replace aa:=(aa.grow ae).kpp ah;exact ⟨rfl,_,_,_,rfl,aa.fin (cm [(1,c1)]),aa.fo ai⟩
def Zkk (aa:Int) (kk_L1:(List Int→Int→Int→Option R2)) (ab:List Int) (ac:Int):Option R2:=
  kk_L1 ab ac (i64.wrap (aa+1))
def Zfu (ab:List Int) (aa:Int) (kk_L1:(List Int→Int→Int→Option R2)) (ac:Int) (ad:Int):Option R2:=
  (Zq ab aa).bind fun ae=>(some (ab.set (Int.toNat aa) (u32.wrap (ae - (u32.wrap ac))))).bind fun af=>Zkk aa kk_L1 af ad
def Zft (aa:List Int) (ab:Int) (kk_L1:(List Int→Int→Int→Option R2)) (ac:Int):Option R2:=
  (Zq aa ab).bind fun ad=>if (decide ((u64.wrap ad)<ac))=true then (Zfu aa ab kk_L1 ac 1) else (Zfu aa ab kk_L1 ac 0)
def Tm (N:Nat) (ac:List Int) (ab:List Int):Nat→R2→Int→Int→Option R2
  | 0,_,_,_=>none
  | ae+1,ad,af,aa=>if (decide (aa<(ac.length:Int)))=true then (if (decide (aa<(ab.length:Int)))=true then ((Zq ab aa).bind fun ag=>Zft ad aa (Tm N ac ab ae) (u64.wrap (af+(u64.wrap ag)))) else (Zft ad aa (Tm N ac ab ae) af)) else (some ad)
termination_by structural x=>x
def Zkj (N:Nat) (aa:List Int) (ab:List Int):Option R2:=
  Tm N aa ab N aa 0 0
theorem Zxi {N ae an:Nat} {a0 a1:Option Addr} {col:Zd} {w0:World} {ab ag r:R2} (qc0:Nat) (hm:Zkj N ab ag=some r) (hd:Te [qc0]=true) (h0:Zc (Za.int .u32) 79 qc0 col w0 a0 ae ab) (h1:Sl (Za.int .u32) col w0 a1 an ag):
    Calls prog 286 #[.slice a0 ab.length ae,.slice a1 ag.length an] w0 (fun e w'=>∃ (col':Zd),e= .returned (.tuple #[])∧Zx (pS [qc0]) col w0 col' w'∧Zc (Za.int .u32) 79 qc0 col' w' a0 ae r∧r.length=ab.length):=by
 refine Zcu (m:=40) (args:=[.slice a0 ab.length ae,.slice a1 ag.length an]) func286 rfl rfl rfl rfl ?_;rw [Zkj.eq_1] at hm;have aa:=St.startL (l:=[qc0]) rfl col w0;replace h0:=h0.startL (Zaf hd 0 rfl) (Zae hd 0 rfl);refine go ?_;refine Z8 [1,8,1000000] (fun n f ao=>∃ ap ac aq ah af,af=n∧Tm N ab ag af ac aq ah=some r∧St w0 (Xt [qc0] col) ap ao∧Zc (Za.int .u32) 79 440 ap ao a0 ae ac∧ac.length=ab.length∧ac.length=ab.length∧[0,4,9].map f=[.slice a0 ac.length ae,.int .u64 aq,.int .i64 ah]) N ⟨_,_,0,0,_,rfl,hm,aa,h0,rfl,rfl,rfl⟩ ?_;clear hm;intro n f ao hI;obtain ⟨ap,ac,aq,ah,af,hn,hm,aa,ad,a8,a9,hs⟩:=hI;subst hn;refine .lL [0,4,9] hs ?_;replace h1:=h1.keep (Zl.startL [qc0] col w0)
 cases af with
 | zero=>rw [Tm.eq_1] at hm;cases hm
 | succ af=>
  rw [Tm.eq_2] at hm;refine go ?_;refine Zr hm (fun hb hm=>?_) fun hb hm=>go ?_
  ·refine X8<|Zw ?_;refine Wp.cutK [1,8,9,1000000] (fun f ar=>∃ au ai av,Zkk ah (Tm N ab ag af) ai av=some r∧St w0 (Xt [qc0] col) au ar∧Zc (Za.int .u32) 79 440 au ar a0 ae ai∧ai.length=ab.length∧ai.length=ab.length∧[0,4].map f=[.slice a0 ai.length ae,.int .u64 av]) ?_ ?_
   ·intro f ar hJ;obtain ⟨au,ai,av,hm,aa,ba,bb,bc,hs⟩:=hJ;rw [Zkk.eq_1] at hm;refine .lL [0,4] hs<|go ?_;exact ⟨af,by omega,rfl,⟨_,_,_,_,_,rfl,hm,aa,ba,bb,bc,rfl⟩⟩
   refine Zlz<|Zw<|Wr<|Yd rfl<|Yr rfl<|Zm<|Zw<|Wr<|Yd rfl<|Yr rfl<|Zm<|Zw ?_;refine Wp.cutK [0,1,5,8,9,1000000] (fun f aw=>∃ ax aj,Zft ac ah (Tm N ab ag af) aj=some r∧St w0 (Xt [qc0] col) ax aw∧Zc (Za.int .u32) 79 440 ax aw a0 ae ac∧[6].map f=[.int .u64 aj]) ?_ ?_
   ·intro f aw hJ;obtain ⟨ax,aj,hm,aa,ad,hs⟩:=hJ;rw [Zft.eq_1] at hm;refine .lL [6] hs<|Zw<|Wr<|Yr rfl<|Zm<|Zw ?_;refine Wp.cutK [0,1,5,6,8,9,1000000] (fun f ay=>∃ az a2,Zfu ac ah (Tm N ab ag af) aj a2=some r∧St w0 (Xt [qc0] col) az ay∧Zc (Za.int .u32) 79 440 az ay a0 ae ac∧[4].map f=[.int .u64 a2]) ?_ ?_
    ·intro f ay hJ;obtain ⟨az,a2,hm,aa,ad,hs⟩:=hJ;rw [Zfu.eq_1] at hm;refine .lL [4] hs<|go ?_;obtain ⟨a5,ak,hm⟩:=bZ hm;refine lI ak (ad.addr ak)<|lW (ad.atInt ak) ?_;refine go ?_;refine lI ak (ad.addr ak) ?_;obtain ⟨al,am,hm⟩:=bZ hm;have am:al=ac.set (Int.toNat ah) (u32.wrap (a5 - (u32.wrap aj))):=(Option.some.inj am).symm;refine Wd (x1:=u32.wrap (a5 - (u32.wrap aj))) ad ak ?_;intro bf bd be a6;rw [← am] at a6;have a7:al.length=ab.length:=(show ac.length=al.length by rw [am,nS]).symm.trans a8;refine .ld (d:=0) (v:=(.slice a0 al.length ae)) (congrArg (fun n=>Value.slice a0 n ae) (show ac.length=al.length by rw [am,nS])) ?_;refine Zm ?_;replace aa:=aa.kp bd be;exact ⟨rfl,_,_,_,hm,aa,a6,a7,a7,rfl⟩
    refine go ?_;obtain ⟨bg,a3,hm⟩:=bZ hm;refine lI a3 (ad.addr a3)<|lW (ad.atInt a3) ?_;refine go ?_;refine Zr hm (fun hb hm=>go ?_) fun hb hm=>?_
    ·exact ⟨rfl,_,1,hm,aa,ad,rfl⟩
    refine X8 ?_;exact ⟨rfl,_,0,hm,aa,ad,rfl⟩
   refine go ?_;refine Zr hm (fun hb hm=>go ?_) fun hb hm=>?_
   ·obtain ⟨bh,a4,hm⟩:=bZ hm;refine lI a4 ((h1.ks aa).addr a4)<|lW ((h1.ks aa).atInt a4) ?_;refine go ?_;exact ⟨rfl,_,_,hm,aa,ad,rfl⟩
   refine X8 ?_;exact ⟨rfl,_,_,hm,aa,ad,rfl⟩
  cases hm;exact ⟨rfl,_,rfl,aa.finL rfl (cm [(440,qc0)]),aa.foL ad,a9⟩
def V9 (N:Nat) (ab:List Int):Option R2:=
  (Ui N ab).bind fun aa=>if (decide ((aa.length:Int)=0))=true then (some ([]:List Int)) else ((Zdy aa).bind fun ac=>some ac)
theorem Tb {N ac:Nat} {a0:Option Addr} {col:Zd} {w0:World} {ab r:R2} (c1:Nat) (hm:V9 N ab=some r) (h0:Sl (Za.int .u32) col w0 a0 ac ab):
    Calls prog 218 #[.slice a0 ab.length ac] w0 (fun e w'=>∃ (col':Zd) (ra1:Option Addr) (rc2:Nat),e= .returned ((.slice ra1 r.length rc2))∧Zi col w0 col' w'∧Zc (Za.int .u32) 79 c1 col' w' ra1 rc2 r):=by
 refine Xk 2 (m:=10) func218 rfl rfl rfl rfl rfl ?_;rw [V9.eq_1] at hm;have aa:=St.start col w0;refine go ?_;obtain ⟨aj,ad,hm⟩:=bZ hm;replace h0:=h0.keep (Zl.start col w0);refine Zh (Tx ad (h0.ks aa)) ?_;rintro _ ak ⟨al,am,an,rfl,ae,af⟩;refine ⟨_,rfl,go ?_⟩;replace aa:=aa.grow ae;refine Zr hm (fun hb hm=>go ?_) fun hb hm=>go ?_
 ·cases hm;exact ⟨rfl,_,none,0,rfl,aa.fin (cm []),Zc.nil⟩
 obtain ⟨ao,ag,hm⟩:=bZ hm;refine Zh (Zmm 1 ag af) ?_;rintro _ ap ⟨aq,ar,au,rfl,ah,ai⟩;refine ⟨_,rfl,go ?_⟩;cases hm;replace aa:=aa.grow ah;exact ⟨rfl,_,_,_,rfl,aa.fin (cm [(1,c1)]),aa.fo ai⟩
def Zfq (N:Nat) (aa:List Int) (ab:List Int):Option Rd:=
  (Zb1 N aa ab).bind fun ac=>if (decide (ac<0))=true then (some (([]:List Int),false)) else ((Ui N aa).bind fun ad=>(Zdy ad).bind fun ae=>(Ui N ab).bind fun af=>(Zkj N ae af).bind fun ag=>(V9 N ag).bind fun ah=>some (ah,true))
theorem Zpp {N ah ai:Nat} {a0 a1:Option Addr} {col:Zd} {w0:World} {ab ac:R2} {r:Rd} (c1:Nat) (hm:Zfq N ab ac=some r) (h0:Sl (Za.int .u32) col w0 a0 ah ab) (h1:Sl (Za.int .u32) col w0 a1 ai ac):
    Calls prog 258 #[.slice a0 ab.length ah,.slice a1 ac.length ai] w0 (fun e w'=>∃ (col':Zd) (ra1:Option Addr) (rc2:Nat),e= .returned (.tuple #[.slice ra1 r.1.length rc2,.bool r.2])∧Zi col w0 col' w'∧Zc (Za.int .u32) 79 c1 col' w' ra1 rc2 r.1):=by
 refine Zep 4 5 (m:=20) (args:=[.slice a0 ab.length ah,.slice a1 ac.length ai]) func258 rfl rfl rfl rfl rfl ?_;rw [Zfq.eq_1] at hm;have aa:=St.start col w0;refine go ?_;obtain ⟨a9,aq,hm⟩:=bZ hm;replace h0:=h0.keep (Zl.start col w0);replace h1:=h1.keep (Zl.start col w0);refine Zh (Zjm aq (h0.ks aa) (h1.ks aa)) ?_;rintro _ ar ⟨rfl,aj⟩;refine ⟨_,rfl,?_⟩;replace aj:Zi (Zj col) w0 (Zj col) ar:=.of_below aj;refine go ?_;replace aa:=aa.grow aj;refine Zr hm (fun hb hm=>go ?_) fun hb hm=>go ?_
 ·cases hm;exact ⟨rfl,_,none,0,rfl,aa.fin (cm []),Zc.nil⟩
 obtain ⟨ba,au,hm⟩:=bZ hm;refine Zh (Tx au (h0.ks aa)) ?_;rintro _ bb ⟨bc,bd,be,rfl,av,aw⟩;refine ⟨_,rfl,?_⟩;obtain ⟨an,ax,hm⟩:=bZ hm;refine Zh (Zmm 1 ax aw) ?_;rintro _ bf ⟨bg,ad,ae,rfl,ay,ak⟩;refine ⟨_,rfl,go ?_⟩;obtain ⟨bh,az,hm⟩:=bZ hm;replace aa:=(aa.grow av).grow ay;refine Zh (Tx az (h1.ks aa)) ?_;rintro _ bi ⟨bj,bk,bm,rfl,ao,a2⟩;refine ⟨_,rfl,?_⟩;obtain ⟨af,a3,hm⟩:=bZ hm;replace ak:=ak.gr ao;refine Zh (Zxi 1 a3 rfl ak a2) ?_;rintro _ a4 ⟨al,rfl,a5,a6,ap⟩;refine ⟨_,rfl,?_⟩;refine .ld (d:=6) (v:=(.slice ad af.length ae)) (congrArg (fun n=>Value.slice ad n ae) (show an.length=af.length from ap.symm)) ?_;refine .ld (d:=14) (v:=(.slice ad af.length ae)) (congrArg (fun n=>Value.slice ad n ae) (show an.length=af.length from ap.symm)) ?_;refine go ?_;obtain ⟨bn,a7,hm⟩:=bZ hm;refine Zh (Tb 2 a7 (a6.toSlF (Zg.int .u32))) ?_;rintro _ bo ⟨a8,bp,bq,rfl,ag,am⟩;refine ⟨_,rfl,?_⟩;replace am:=am.thaw (Z0 .u32) ag ((Fz.refl (col:=al)).froz 1) (by decide);replace ag:=ag.thawR (col:=al);generalize Xc a4.heap.size al a8=br at *;refine go ?_;cases hm;replace aa:=((aa.grow ao).kpp a5).grow ag;exact ⟨rfl,_,_,_,rfl,aa.fin (cm [(2,c1)]),aa.fo am⟩
def Zkg (aa:Nat) (kk_L1:(Nat→R2→Int→Option R2)) (ab:List Int) (ac:Int):Option R2:=
  kk_L1 (aa+1) ab ac
def Zfo (aa:Nat) (ab:List Int) (kk_L1:(Nat→R2→Int→Option R2)) (ac:Int):Option R2:=
  (Zq ab (aa:Int)).bind fun ae=>(some (ab.set (Int.toNat (aa:Int)) (u32.wrap ac))).bind fun ad=>Zkg aa kk_L1 ad (Yh .u64 ac 32)
def Sa (N:Nat) (ac:List Int) (ad:List Int):List Int→Nat→R2→Int→Option R2
  | [],aa,ab,ae=>(Zq ab (ac.length:Int)).bind fun ak=>(some (ab.set (Int.toNat (ac.length:Int)) (u32.wrap ae))).bind fun ah=>(V9 N ah).bind fun ai=>some ai
  | af :: ag,aa,ab,ae=>if (decide ((aa:Int)<(ad.length:Int)))=true then ((Zq ad (aa:Int)).bind fun aj=>Zfo aa ab (Sa N ac ad ag) (u64.wrap ((u64.wrap (ae+(u64.wrap af)))+(u64.wrap aj)))) else (Zfo aa ab (Sa N ac ad ag) (u64.wrap (ae+(u64.wrap af))))
termination_by structural x=>x
def Zfn (N:Nat) (aa:List Int) (ab:List Int):Option R2:=
  Zz ((Int.toNat (i64.wrap ((aa.length:Int)+1))) * 4≤281474976710656∧(Int.toNat (i64.wrap ((aa.length:Int)+1)))≤maxLen∧0≤(i64.wrap ((aa.length:Int)+1))) (Sa N aa ab aa 0 (List.replicate (Int.toNat (i64.wrap ((aa.length:Int)+1))) (0:Int)) 0)
def Zhg (N:Nat) (ac:List Int) (ad:List Int):Option R2:=
  (Ui N ac).bind fun aa=>(Ui N ad).bind fun ab=>if (decide ((aa.length:Int)<(ab.length:Int)))=true then (Zfn N ab aa) else (Zfn N aa ab)
theorem Zxe {N bp bq:Nat} {a0 a1:Option Addr} {col:Zd} {w0:World} {a9 ba r:R2} (c1:Nat) (hm:Zhg N a9 ba=some r) (h0:Sl (Za.int .u32) col w0 a0 bp a9) (h1:Sl (Za.int .u32) col w0 a1 bq ba):
    Calls prog 257 #[.slice a0 a9.length bp,.slice a1 ba.length bq] w0 (fun e w'=>∃ (col':Zd) (ra1:Option Addr) (rc2:Nat),e= .returned ((.slice ra1 r.length rc2))∧Zi col w0 col' w'∧Zc (Za.int .u32) 79 c1 col' w' ra1 rc2 r):=by
 refine Xk 4 (m:=62) func257 rfl rfl rfl rfl rfl ?_;rw [Zhg.eq_1] at hm;have aa:=St.start col w0;refine go ?_;obtain ⟨ca,bw,hm⟩:=bZ hm;replace h0:=h0.keep (Zl.start col w0);refine Zh (Tx bw (h0.ks aa)) ?_;rintro _ cb ⟨cc,cd,ce,rfl,bx,a3⟩;refine ⟨_,rfl,?_⟩;refine Y0 rfl ?_;obtain ⟨cf,bz,hm⟩:=bZ hm;replace h1:=h1.keep (Zl.start col w0);replace aa:=aa.grow bx;refine Zh (Tx bz (h1.ks aa)) ?_;rintro _ cg ⟨ch,ci,cj,rfl,br,bs⟩;refine ⟨_,rfl,?_⟩;refine Zj4 rfl<|Zj4 rfl<|Zm<|Zw ?_;replace a3:=a3.gr br;replace aa:=aa.grow br;refine Wp.cutK [1000000] (fun f aq=>∃ ar am an ab ao ap ae,Zfn N ab ae=some r∧St w0 (Zj col) ar aq∧Sl (Za.int .u32) ar aq am an ab∧Sl (Za.int .u32) ar aq ao ap ae∧[0,1].map f=[.slice am ab.length an,.slice ao ae.length ap]) ?_ ?_
 ·intro f aq hJ;obtain ⟨ar,am,an,ab,ao,ap,ae,hm,aa,ac,ad,hs⟩:=hJ;rw [Zfn.eq_1] at hm;refine .lL [0,1] hs<|go ?_;obtain ⟨a4,hm⟩:=Z3 hm;refine Qo (col:=ar) (w:=aq) (r:=(Za.int .u32)) (n:=(Int.toNat (i64.wrap ((ab.length:Int)+1)))) (x0:=0) 1 rfl underlying43 Tryz.t79 rfl rfl rfl rfl rfl (congrArg (Value.int _) (Int.toNat_of_nonneg a4.2.2).symm) (congrArg (Value.int _) (Int.toNat_of_nonneg a4.2.2).symm) a4.1 a4.2.1 (V3 .u32 0) ?_;intro ck cl cn bb b0;refine go ?_;replace ac:=ac.gr bb;replace ad:=ad.gr bb;replace aa:=aa.grow bb;refine Z8 [0,1,24,25,1000000] (fun n f au=>∃ ah ag ai aj af av aw,n=aw.length∧ab.drop ag=aw∧Sa N ab ae aw ag af av=some r∧St w0 (Zj col) ah au∧Sl (Za.int .u32) ah au am an ab∧Sl (Za.int .u32) ah au ao ap ae∧Zc (Za.int .u32) 79 1 ah au ai aj af∧[26,5,6].map f=[.int .i64 ag,.slice ai af.length aj,.int .u64 av]) ab.length ⟨_,0,_,_,_,0,_,rfl,rfl,hm,aa,ac,ad,b0,rfl⟩ ?_;clear hm;intro n f au hI;obtain ⟨ah,ag,ai,aj,af,av,aw,hn,hl,hm,aa,ac,ad,ak,hs⟩:=hI;subst hn;refine .lL [26,5,6] hs ?_
  cases aw with
  | nil=>
   have hk:¬ ((ag:Int)<(ab.length:Int)):=by have:=List.drop_eq_nil_iff.1 hl;omega
   have hkb:=decide_eq_false hk;rw [Sa.eq_1] at hm;refine go ?_;refine X3 (congrArg Value.bool hkb)<|go ?_;obtain ⟨co,bc,hm⟩:=bZ hm;refine lI bc (ak.addr bc) ?_;obtain ⟨bd,a5,hm⟩:=bZ hm;have a5:bd=af.set (Int.toNat (ab.length:Int)) (u32.wrap av):=(Option.some.inj a5).symm;refine Wd (x1:=u32.wrap av) ak bc ?_;intro b1 b2 b3 bt;rw [← a5] at bt;refine .ld (d:=5) (v:=(.slice ai bd.length aj)) (congrArg (fun n=>Value.slice ai n aj) (show af.length=bd.length by rw [a5,nS])) ?_;refine go ?_;obtain ⟨cp,b4,hm⟩:=bZ hm;refine Zh (Tb 2 b4 (bt.toSlF (Zg.int .u32))) ?_;rintro _ cq ⟨b5,cr,cs,rfl,a6,be⟩;refine ⟨_,rfl,?_⟩;replace be:=be.thaw (Z0 .u32) a6 ((Fz.refl (col:=ah)).froz 1) (by decide);replace a6:=a6.thawR (col:=ah);generalize Xc b1.heap.size ah b5=ct at *;refine go ?_;cases hm;replace aa:=(aa.kp b2 b3).grow a6;exact ⟨rfl,_,_,_,rfl,aa.fin (cm [(2,c1)]),aa.fo be⟩
  | cons bu bf=>
   obtain ⟨bg,b6,b7⟩:=Yk hl;have hk:(ag:Int)<(ab.length:Int):=by omega
   have hkb:=decide_eq_true hk;rw [Sa.eq_2] at hm;refine go ?_;refine X4 (congrArg Value.bool hkb)<|X8<|Zw ?_;refine Wp.cutK [0,1,24,25,26,1000000] (fun f ax=>∃ ay bh bi a7 bj,Zkg ag (Sa N ab ae bf) a7 bj=some r∧St w0 (Zj col) ay ax∧Sl (Za.int .u32) ay ax am an ab∧Sl (Za.int .u32) ay ax ao ap ae∧Zc (Za.int .u32) 79 1 ay ax bh bi a7∧[5,6].map f=[.slice bh a7.length bi,.int .u64 bj]) ?_ ?_
   ·intro f ax hJ;obtain ⟨ay,bh,bi,a7,bj,hm,aa,ac,ad,b8,hs⟩:=hJ;rw [Zkg.eq_1] at hm;refine .lL [5,6] hs<|go ?_;exact ⟨bf.length,by simp,rfl,⟨_,_,_,_,_,_,_,rfl,b6,hm,aa,ac,ad,b8,(Yo (congrArg (Value.int .i64) (Yn (Nat.lt_of_lt_of_le b7 ac.1.1))) rfl)⟩⟩
   refine go ?_;refine lI bg (ac.addr bg)<|lW (ac.atInt bg)<|Yr rfl<|Yr rfl<|Zm<|Zw<|Wr<|Yd rfl<|Yd rfl<|lV (.int .u64 (u64.wrap bu)) (Zis bu ⟨_,underlying79⟩ underlying193 rfl)<|lV _ (Qf _ _ rfl rfl)<|Yr rfl<|Zm<|Zw ?_;refine Wp.cutK [0,1,24,25,26,5,7,1000000] (fun f az=>∃ a2 al,Zfo ag af (Sa N ab ae bf) al=some r∧St w0 (Zj col) a2 az∧Sl (Za.int .u32) a2 az am an ab∧Sl (Za.int .u32) a2 az ao ap ae∧Zc (Za.int .u32) 79 1 a2 az ai aj af∧[6].map f=[.int .u64 al]) ?_ ?_
   ·intro f az hJ;obtain ⟨a2,al,hm,aa,ac,ad,ak,hs⟩:=hJ;rw [Zfo.eq_1] at hm;refine .lL [6] hs<|go ?_;obtain ⟨cu,bk,hm⟩:=bZ hm;refine lI bk (ak.addr bk) ?_;obtain ⟨bm,a8,hm⟩:=bZ hm;have a8:bm=af.set (Int.toNat (ag:Int)) (u32.wrap al):=(Option.some.inj a8).symm;refine Wd (x1:=u32.wrap al) ak bk ?_;intro cv bn b9 bv;rw [← a8] at bv;refine .ld (d:=5) (v:=(.slice ai bm.length aj)) (congrArg (fun n=>Value.slice ai n aj) (show af.length=bm.length by rw [a8,nS])) ?_;refine go ?_;refine lV (.int .u64 (Yh .u64 al 32)) (So al 32 rfl rfl (by decide))<|go ?_;replace ac:=ac.kp bn;replace ad:=ad.kp bn;replace aa:=aa.kp bn b9;exact ⟨rfl,_,_,_,_,_,hm,aa,ac,ad,bv,rfl⟩
   refine go ?_;refine Zr hm (fun hb hm=>go ?_) fun hb hm=>?_
   ·obtain ⟨cw,bo,hm⟩:=bZ hm;refine lI bo (ad.addr bo)<|lW (ad.atInt bo) ?_;refine go ?_;exact ⟨rfl,_,_,hm,aa,ac,ad,ak,rfl⟩
   refine X8 ?_;exact ⟨rfl,_,_,hm,aa,ac,ad,ak,rfl⟩
 refine go ?_;refine Zr hm (fun hb hm=>go ?_) fun hb hm=>?_
 ·exact ⟨rfl,_,_,_,_,_,_,_,hm,aa,bs,a3,rfl⟩
 refine X8 ?_;exact ⟨rfl,_,_,_,_,_,_,_,hm,aa,a3,bs,rfl⟩
def Zb3 (ae:List Int) (aa:Nat) (kk_L1:(Nat→R2→Option R2)) (af:Int):List Int→Nat→R2→Int→Option R2
  | [],ac,ab,ad=>(Zq ab (i64.wrap ((aa:Int)+(ae.length:Int)))).bind fun al=>(some (ab.set (Int.toNat (i64.wrap ((aa:Int)+(ae.length:Int)))) (u32.wrap ad))).bind fun ai=>kk_L1 (aa+1) ai
  | ag :: aj,ac,ab,ad=>(Zq ab (i64.wrap ((aa:Int)+(ac:Int)))).bind fun ah=>(some (ab.set (Int.toNat (i64.wrap ((aa:Int)+(ac:Int)))) (u32.wrap (u64.wrap (ad+(u64.wrap ((u64.wrap ((u64.wrap af) * (u64.wrap ag)))+(u64.wrap ah)))))))).bind fun ak=>(Zb3 ae aa kk_L1 af aj) (ac+1) ak (Yh .u64 (u64.wrap (ad+(u64.wrap ((u64.wrap ((u64.wrap af) * (u64.wrap ag)))+(u64.wrap ah))))) 32)
termination_by structural x=>x
def Q0 (N:Nat) (aa:List Int):List Int→Nat→R2→Option R2
  | [],ac,ab=>(V9 N ab).bind fun ad=>some ad
  | ae :: af,ac,ab=>Zb3 aa ac (Q0 N aa af) ae aa 0 ab 0
termination_by structural x=>x
def S8 (N:Nat) (ac:List Int) (ad:List Int):Option R2:=
  (Ui N ac).bind fun aa=>(Ui N ad).bind fun ab=>Zz ((Int.toNat (i64.wrap ((aa.length:Int)+(ab.length:Int)))) * 4≤281474976710656∧(Int.toNat (i64.wrap ((aa.length:Int)+(ab.length:Int))))≤maxLen∧0≤(i64.wrap ((aa.length:Int)+(ab.length:Int)))) (Q0 N ab aa 0 (List.replicate (Int.toNat (i64.wrap ((aa.length:Int)+(ab.length:Int)))) (0:Int)))
theorem Zem {N bt bu:Nat} {a0 a1:Option Addr} {col:Zd} {w0:World} {be bf r:R2} (c1:Nat) (hm:S8 N be bf=some r) (h0:Sl (Za.int .u32) col w0 a0 bt be) (h1:Sl (Za.int .u32) col w0 a1 bu bf):
    Calls prog 113 #[.slice a0 be.length bt,.slice a1 bf.length bu] w0 (fun e w'=>∃ (col':Zd) (ra1:Option Addr) (rc2:Nat),e= .returned ((.slice ra1 r.length rc2))∧Zi col w0 col' w'∧Zc (Za.int .u32) 79 c1 col' w' ra1 rc2 r):=by
 refine Xk 4 (m:=71) func113 rfl rfl rfl rfl rfl ?_;rw [S8.eq_1] at hm;have aa:=St.start col w0;refine go ?_;obtain ⟨ae,b1,hm⟩:=bZ hm;replace h0:=h0.keep (Zl.start col w0);refine Zh (Tx b1 (h0.ks aa)) ?_;rintro _ co ⟨cp,a4,a5,rfl,b2,ac⟩;refine ⟨_,rfl,?_⟩;refine Y0 rfl ?_;obtain ⟨ab,b3,hm⟩:=bZ hm;replace h1:=h1.keep (Zl.start col w0);replace aa:=aa.grow b2;refine Zh (Tx b3 (h1.ks aa)) ?_;rintro _ b4 ⟨b5,au,av,rfl,bv,ad⟩;refine ⟨_,rfl,go ?_⟩;obtain ⟨a6,hm⟩:=Z3 hm;refine Qo (col:=b5) (w:=b4) (r:=(Za.int .u32)) (n:=(Int.toNat (i64.wrap ((ae.length:Int)+(ab.length:Int))))) (x0:=0) 1 rfl underlying43 Tryz.t79 rfl rfl rfl rfl rfl (congrArg (Value.int _) (Int.toNat_of_nonneg a6.2.2).symm) (congrArg (Value.int _) (Int.toNat_of_nonneg a6.2.2).symm) a6.1 a6.2.1 (V3 .u32 0) ?_;intro b6 cq b7 bg b8;refine go ?_;replace ac:=(ac.gr bv).gr bg;replace aa:=(aa.grow bv).grow bg;replace ad:=ad.gr bg;refine Zo3 (fun n f ap=>∃ (ah:Zd) (af:Nat) (a7:Option Addr) (a8:Nat) (aw:List Int) (ax:List Int),n=ax.length∧ae.drop af=ax∧Q0 N ab ax af aw=some r∧St w0 (Zj col) ah ap∧Sl (Za.int .u32) ah ap au av ab∧Sl (Za.int .u32) ah ap a4 a5 ae∧Zc (Za.int .u32) 79 1 ah ap a7 a8 aw∧f 23=(.int .i64 af)∧f 1=(.slice au ab.length av)∧f 21=(.slice a4 ae.length a5)∧f 22=(.int .i64 ae.length)∧f 5=(.slice a7 aw.length a8)∧f 1000000=(enc [])) ae.length ⟨b7,0,b6,(Int.toNat (i64.wrap ((ae.length:Int)+(ab.length:Int)))),(List.replicate (Int.toNat (i64.wrap ((ae.length:Int)+(ab.length:Int)))) (0:Int)),ae,rfl,rfl,hm,aa,ad,ac,b8,rfl,rfl,rfl,rfl,rfl,rfl⟩ ?_;clear hm;intro n f ap hI;obtain ⟨ah,af,a7,a8,aw,ax,hn,hl,hm,aa,ad,ac,bw,bh,bi,bj,bk,bm,bn⟩:=hI;subst hn;refine .lD 23 bh<|.lD 1 bi<|.lD 21 bj<|.lD 22 bk<|.lD 5 bm<|.lD 1000000 bn ?_
 cases ax with
 | nil=>
  have hk:¬ ((af:Int)<(ae.length:Int)):=by have:=List.drop_eq_nil_iff.1 hl;omega
  have hkb:=decide_eq_false hk;rw [Q0.eq_1] at hm;refine go ?_;refine X3 (congrArg Value.bool hkb)<|go ?_;obtain ⟨cr,b9,hm⟩:=bZ hm;refine Zh (Tb 2 b9 (bw.toSlF (Zg.int .u32))) ?_;rintro _ cs ⟨ca,ct,cu,rfl,a9,bo⟩;refine ⟨_,rfl,?_⟩;replace bo:=bo.thaw (Z0 .u32) a9 ((Fz.refl (col:=ah)).froz 1) (by decide);replace a9:=a9.thawR (col:=ah);generalize Xc ap.heap.size ah ca=cv at *;refine go ?_;cases hm;replace aa:=aa.grow a9;exact ⟨rfl,_,_,_,rfl,aa.fin (cm [(2,c1)]),aa.fo bo⟩
 | cons am bp=>
  obtain ⟨an,cb,cc⟩:=Yk hl;have hk:(af:Int)<(ae.length:Int):=by omega
  have hkb:=decide_eq_true hk;rw [Q0.eq_2] at hm;refine go ?_;refine X4 (congrArg Value.bool hkb)<|go ?_;refine lI an (ac.addr an)<|lW (ac.atInt an) ?_;refine go ?_;refine Zo3 (fun n f ay=>∃ (ao:Zd) (ak:Nat) (ai:Option Addr) (aj:Nat) (al:List Int) (ag:Int) (az:List Int),n=az.length∧ab.drop ak=az∧Zb3 ab af (Q0 N ab bp) am az ak al ag=some r∧St w0 (Zj col) ao ay∧Sl (Za.int .u32) ao ay au av ab∧Sl (Za.int .u32) ao ay a4 a5 ae∧Zc (Za.int .u32) 79 1 ao ay ai aj al∧f 30=(.int .i64 ak)∧f 1=(.slice au ab.length av)∧f 21=(.slice a4 ae.length a5)∧f 22=(.int .i64 ae.length)∧f 23=(.int .i64 af)∧f 28=(.slice au ab.length av)∧f 29=(.int .i64 ab.length)∧f 5=(.slice ai al.length aj)∧f 6=(.int .i64 af)∧f 7=(.int .u32 am)∧f 8=(.int .u64 ag)∧f 1000000=(enc [])) ab.length ⟨ah,0,a7,a8,aw,0,ab,rfl,rfl,hm,aa,ad,ac,bw,rfl,rfl,rfl,rfl,rfl,rfl,rfl,rfl,rfl,rfl,rfl,rfl⟩ ?_;clear hm;intro n f ay hI;obtain ⟨ao,ak,ai,aj,al,ag,az,hn,hl,hm,aa,ad,ac,aq,cd,bi,bj,bk,bh,ce,cf,bm,cg,ch,ci,bn⟩:=hI;subst hn;refine .lD 30 cd<|.lD 1 bi<|.lD 21 bj<|.lD 22 bk<|.lD 23 bh<|.lD 28 ce<|.lD 29 cf<|.lD 5 bm<|.lD 6 cg<|.lD 7 ch<|.lD 8 ci<|.lD 1000000 bn ?_
  cases az with
  | nil=>
   have hk:¬ ((ak:Int)<(ab.length:Int)):=by have:=List.drop_eq_nil_iff.1 hl;omega
   have hkb:=decide_eq_false hk;rw [Zb3.eq_1] at hm;refine go ?_;refine X3 (congrArg Value.bool hkb)<|go ?_;obtain ⟨cw,bq,hm⟩:=bZ hm;refine lI bq (aq.addr bq) ?_;obtain ⟨ba,bb,hm⟩:=bZ hm;have bb:ba=al.set (Int.toNat (i64.wrap ((af:Int)+(ab.length:Int)))) (u32.wrap ag):=(Option.some.inj bb).symm;refine Wd (x1:=u32.wrap ag) aq bq ?_;intro cx br cj bx;rw [← bb] at bx;refine .ld (d:=5) (v:=(.slice ai ba.length aj)) (congrArg (fun n=>Value.slice ai n aj) (show al.length=ba.length by rw [bb,nS])) ?_;refine go ?_;replace ad:=ad.kp br;replace ac:=ac.kp br;replace aa:=aa.kp br cj;exact ⟨bp.length,by simp,⟨ao,(af+1),ai,aj,ba,bp,rfl,cb,hm,aa,ad,ac,bx,(congrArg (Value.int .i64) (Yn (Nat.lt_of_lt_of_le cc ac.1.1))),rfl,rfl,rfl,rfl,rfl⟩⟩
  | cons a2 bz=>
   obtain ⟨an,ck,cl⟩:=Yk hl;have hk:(ak:Int)<(ab.length:Int):=by omega
   have hkb:=decide_eq_true hk;rw [Zb3.eq_2] at hm;refine go ?_;refine X4 (congrArg Value.bool hkb)<|go ?_;refine lI an (ad.addr an)<|lW (ad.atInt an) ?_;refine go ?_;obtain ⟨a3,ar,hm⟩:=bZ hm;refine lI ar (aq.addr ar)<|lW (aq.atInt ar) ?_;refine go ?_;refine lI ar (aq.addr ar) ?_;obtain ⟨bc,bd,hm⟩:=bZ hm;have bd:bc=al.set (Int.toNat (i64.wrap ((af:Int)+(ak:Int)))) (u32.wrap (u64.wrap (ag+(u64.wrap ((u64.wrap ((u64.wrap am) * (u64.wrap a2)))+(u64.wrap a3)))))):=(Option.some.inj bd).symm;refine Wd (x1:=u32.wrap (u64.wrap (ag+(u64.wrap ((u64.wrap ((u64.wrap am) * (u64.wrap a2)))+(u64.wrap a3)))))) aq ar ?_;intro cy bs cn b0;rw [← bd] at b0;refine .ld (d:=5) (v:=(.slice ai bc.length aj)) (congrArg (fun n=>Value.slice ai n aj) (show al.length=bc.length by rw [bd,nS])) ?_;refine go ?_;refine lV (.int .u64 (Yh .u64 (u64.wrap (ag+(u64.wrap ((u64.wrap ((u64.wrap am) * (u64.wrap a2)))+(u64.wrap a3))))) 32)) (So (u64.wrap (ag+(u64.wrap ((u64.wrap ((u64.wrap am) * (u64.wrap a2)))+(u64.wrap a3))))) 32 rfl rfl (by decide))<|go ?_;replace ad:=ad.kp bs;replace ac:=ac.kp bs;replace aa:=aa.kp bs cn;exact ⟨bz.length,by simp,⟨ao,(ak+1),ai,aj,bc,(Yh .u64 (u64.wrap (ag+(u64.wrap ((u64.wrap ((u64.wrap am) * (u64.wrap a2)))+(u64.wrap a3))))) 32),bz,rfl,ck,hm,aa,ad,ac,b0,(congrArg (Value.int .i64) (Yn (Nat.lt_of_lt_of_le cl ad.1.1))),rfl,rfl,rfl,rfl,rfl,rfl,rfl,rfl,rfl,rfl,rfl⟩⟩
def Q1 (N:Nat) (aa:Int):Option R2:=
  (V9 N [u32.wrap aa,u32.wrap (Yh .u64 aa 32)]).bind fun ab=>some ab
theorem Zen {N:Nat} {col:Zd} {w0:World} {aa:Int} {r:R2} (c1:Nat) (hm:Q1 N aa=some r):
    Calls prog 181 #[.int .u64 aa] w0 (fun e w'=>∃ (col':Zd) (ra1:Option Addr) (rc2:Nat),e= .returned ((.slice ra1 r.length rc2))∧Zi col w0 col' w'∧Zc (Za.int .u32) 79 c1 col' w' ra1 rc2 r):=by
 refine Xk 2 (m:=10) func181 rfl rfl rfl rfl rfl ?_;rw [Q1.eq_1] at hm;have ab:=St.start col w0;refine go ?_;refine lV (.int .u64 (Yh .u64 aa 32)) (So aa 32 rfl rfl (by decide))<|go ?_;refine Vr (col:=(Zj col)) [u32.wrap aa,u32.wrap (Yh .u64 aa 32)] 1 ?_;intro ak af ad ag ah;obtain ⟨al,ai,hm⟩:=bZ hm;refine Zh (Tb 2 ai (ah.toSlF (Zg.int .u32))) ?_;rintro _ am ⟨aj,an,ao,rfl,ac,ae⟩;refine ⟨_,rfl,?_⟩;replace ae:=ae.thaw (Z0 .u32) ac ((Fz.refl (col:=ad)).froz 1) (by decide);replace ac:=ac.thawR (col:=ad);generalize Xc af.heap.size ad aj=ap at *;refine go ?_;cases hm;replace ab:=(ab.grow ag).grow ac;exact ⟨rfl,_,_,_,rfl,ab.fin (cm [(2,c1)]),ab.fo ae⟩
def Zdk (N:Nat) (aa:List Int):Option R2:=
  (V9 N aa).bind fun ab=>some ab
theorem Zmg {N ac:Nat} {a0:Option Addr} {col:Zd} {w0:World} {ab r:R2} (c1:Nat) (hm:Zdk N ab=some r) (h0:Sl (Za.int .u32) col w0 a0 ac ab):
    Calls prog 255 #[.slice a0 ab.length ac] w0 (fun e w'=>∃ (col':Zd) (ra1:Option Addr) (rc2:Nat),e= .returned ((.slice ra1 r.length rc2))∧Zi col w0 col' w'∧Zc (Za.int .u32) 79 c1 col' w' ra1 rc2 r):=by
 refine Xk 2 (m:=5) func255 rfl rfl rfl rfl rfl ?_;rw [Zdk.eq_1] at hm;have aa:=St.start col w0;refine go ?_;obtain ⟨ag,ad,hm⟩:=bZ hm;replace h0:=h0.keep (Zl.start col w0);refine Zh (Tb 1 ad (h0.ks aa)) ?_;rintro _ ah ⟨ai,aj,ak,rfl,ae,af⟩;refine ⟨_,rfl,go ?_⟩;cases hm;replace aa:=aa.grow ae;exact ⟨rfl,_,_,_,rfl,aa.fin (cm [(1,c1)]),aa.fo af⟩
theorem Zlw (N:Nat):∀ (n:Nat) (a:List Int),Zn a→a.length<n→a.length<4611686018427387904→Tn N n a=some (Ze (Zb a))
 | 0,a,_,h,_=>by omega
 | n+1,a,h,hn,hb=>by
  rw [Tn.eq_2]
  by_cases h0:0<a.length
  ·have e:(a.length:Int) - 1=((a.length - 1:Nat):Int):=by omega
   rw [if_pos (by simpa using h0),Z2 (by omega),e,Xg (by omega),oB,Za0,Z2 (by omega),e]
   by_cases hx:a[a.length - 1]=0
   ·rw [if_pos (by simpa using hx),Z7 (by omega),Int.toNat_natCast,Zlw N n _ (h.take _) (by rw [nK];omega) (by rw [nK];omega)]
    conv=>rhs;rw [← Zes h0,hx,Zsz]
   ·rw [if_neg (by simpa using hx)]
    have e2:=Zes h0
    have e3:=Z0k (a:=a.take (a.length - 1)) (x:=a[a.length - 1]) (by rw [e2];exact h) hx
    rw [e2] at e3
    rw [e3]
  ·have h1:a=[]:=List.eq_nil_of_length_eq_zero (by omega)
   subst h1
   rw [if_neg (by simp),Za0,if_neg (by decide),Ym,Wt]
theorem Sr {N:Nat} {a:List Int} (h:Zn a) (hn:a.length<N) (hb:a.length≤1099511627776):Ui N a=some (Ze (Zb a)):=by
 rw [Ui];exact Zlw N N a h hn (by omega)
theorem Zms {a:List Int} (hb:a.length≤2199023255552):Zdy a=some a:=by
 rw [Zdy,Z7 (by simp only [nN,maxLen];omega),List.nil_append]
theorem Sk {N:Nat} {a:List Int} (h:Zn a) (hn:a.length<N) (hb:a.length≤1099511627776):V9 N a=some (Ze (Zb a)):=by
 rw [V9,Sr h hn hb,oB]
 have hl:=Ys h
 by_cases h0:Ze (Zb a)=[]
 ·rw [h0,if_pos (by decide)]
 ·have:0<(Ze (Zb a)).length:=List.length_pos_iff.2 h0
  rw [if_neg (by simp;exact h0),Zms (by omega),oB]
theorem Znv {N:Nat} {a:List Int} (h:Zn a) (hn:a.length<N) (hb:a.length≤1099511627776):Zdk N a=some (Ze (Zb a)):=by
 rw [Zdk,Sk h hn hb,oB]
theorem Zgh {N:Nat} {u:Int} (h:0≤u∧u<18446744073709551616) (hn:2<N):Q1 N u=some (Ze u.toNat):=by
 have e:Zb [u32.wrap u,u32.wrap (Yh .u64 u 32)]=u.toNat:=by
  rw [Zd8,Y3,Y3,Ym,IntKind.wrap_u32,IntKind.wrap_u32];omega
 have hl:Zn [u32.wrap u,u32.wrap (Yh .u64 u 32)]:=by
  rw [Zd8,IntKind.wrap_u32,IntKind.wrap_u32]
  exact .cons (by omega) (.cons (by omega) .nil)
 rw [Q1,Sk hl (by simpa using hn) (by simp),oB,e]
theorem Zp9 (N:Nat) (a b:List Int) (ha:Zn a) (hb:Zn b) (hl:a.length=b.length) (hs:a.length<4611686018427387904):∀ (n i:Nat),i≤a.length→i<n→a.drop i=b.drop i→Zdh N a b n ((i:Int) - 1)=some (if Zb a<Zb b then -1 else if Zb b<Zb a then 1 else 0)
 | 0,i,_,h,_=>by omega
 | n+1,i,hi,hn,he=>by
  rw [Zdh.eq_2]
  by_cases h0:i=0
  ·subst h0
   rw [if_neg (by decide)]
   rw [List.drop_zero,List.drop_zero] at he
   subst he
   rw [if_neg (by omega),if_neg (by omega)]
  ·have e:(i:Int) - 1=((i - 1:Nat):Int):=by omega
   have h1:i - 1<a.length:=by omega
   have h2:i - 1<b.length:=by omega
   have e1:i - 1+1=i:=by omega
   rw [if_pos (by simp;omega),e,Xg h1,oB,Xg h2,oB]
   have g1:=ha.get h1
   have g2:=hb.get h2
   have va:=Ut a (i - 1)
   have vb:=Ut b (i - 1)
   rw [Ua h1,e1] at va
   rw [Ua h2,e1,← he] at vb
   have la:=Sh (ha.take (i - 1))
   have lb:=Sh (hb.take (i - 1))
   rw [nK,Nat.min_eq_left (by omega)] at la lb
   have key:∀ x y:Nat,x<y→4294967296 ^ (i - 1) * (x+4294967296 * Zb (a.drop i))+4294967296 ^ (i - 1)≤4294967296 ^ (i - 1) * (y+4294967296 * Zb (a.drop i)):=fun x y hxy=>by
    rw [← Nat.mul_succ];exact Nat.mul_le_mul_left _ (by omega)
   by_cases hlt:a[i - 1]<b[i - 1]
   ·have:=key _ _ (show (a[i - 1]).toNat<(b[i - 1]).toNat by omega)
    rw [if_pos (by simpa using hlt),if_pos (by omega)]
   ·rw [if_neg (by simpa using hlt)]
    by_cases hgt:b[i - 1]<a[i - 1]
    ·have:=key _ _ (show (b[i - 1]).toNat<(a[i - 1]).toNat by omega)
     rw [if_pos (by simpa using hgt),if_neg (by omega),if_pos (by omega)]
    ·rw [if_neg (by simpa using hgt),Z2 (by omega)]
     have:=Zp9 N a b ha hb hl hs n (i - 1) (by omega) (by omega) (by
      rw [List.drop_eq_getElem_cons h1,List.drop_eq_getElem_cons h2,e1,he]
      congr 1;omega)
     exact this
theorem Zr8 {m n:Nat} (h:(Ze m).length<(Ze n).length):m<n:=by
 have h1:=Wq (k:=(Ze m).length) (n:=m)
 have h2:=Wq (k:=(Ze m).length) (n:=n)
 have:=h1.1 (Nat.le_refl _)
 have h3:¬ n<4294967296 ^ (Ze m).length:=fun h4=>by have:=h2.2 h4;omega
 omega
theorem Zmu {N:Nat} {a b:List Int} (ha:Zn a) (hb:Zn b) (h1:a.length<N) (h2:b.length<N) (h3:a.length≤1099511627776) (h4:b.length≤1099511627776):
  Zb1 N a b=some (if Zb a<Zb b then -1 else if Zb b<Zb a then 1 else 0):=by
 have la:=Ys ha
 have lb:=Ys hb
 rw [Zb1,Sr ha h1 h3,oB,Sr hb h2 h4,oB]
 by_cases he:(Ze (Zb a)).length=(Ze (Zb b)).length
 ·rw [if_neg (by simp [he]),Z2 (by omega)]
  have:=Zp9 N (Ze (Zb a)) (Ze (Zb b)) (Z9 _) (Z9 _) he (by omega) N (Ze (Zb a)).length (Nat.le_refl _) (by omega) (by
   rw [List.drop_eq_nil_of_le (Nat.le_refl _),List.drop_eq_nil_of_le (by omega)])
  rw [this,Z4,Z4]
 ·rw [if_pos (by simp;omega)]
  by_cases hlt:(Ze (Zb a)).length<(Ze (Zb b)).length
  ·rw [if_pos (by simpa using hlt),if_pos (Zr8 hlt)]
  ·have:=Zr8 (m:=Zb b) (n:=Zb a) (by omega)
   rw [if_neg (by simpa using hlt),if_neg (by omega),if_pos this]
def Xw (b:List Int) (k:Nat):Nat:=(b.getD k 0).toNat
theorem Us (b:List Int) (k:Nat):Zb (b.drop k)=Xw b k+4294967296 * Zb (b.drop (k+1)):=by
 by_cases h:k<b.length
 ·rw [Ua h,Xw,List.getD_eq_getElem?_getD,List.getElem?_eq_getElem h,Option.getD_some]
 ·rw [List.drop_eq_nil_of_le (by omega),List.drop_eq_nil_of_le (by omega),Xw,List.getD_eq_getElem?_getD,List.getElem?_eq_none (by omega)];rfl
theorem Zcy {b:List Int} (h:Zn b) (k:Nat):Xw b k<4294967296:=by
 rw [Xw,List.getD_eq_getElem?_getD]
 by_cases hk:k<b.length
 ·have:=h.get hk
  rw [List.getElem?_eq_getElem hk,Option.getD_some];omega
 ·rw [List.getElem?_eq_none (by omega)];decide
theorem drop_zero {l:List Int} {k:Nat} (h:Zn l) (hk:k<l.length) (h0:Zb (l.drop k)=0):l[k]=0∧Zb (l.drop (k+1))=0:=by
 have:=h.get hk
 rw [Ua hk] at h0
 omega
theorem Zad {l:List Int} {k j:Nat} (v:Int) (h:k<j):(l.set k v).drop j=l.drop j:=by
 rw [List.drop_set,if_pos h]
theorem Zwj (S S' Q c x y v c' L D:Nat) (h1:S'=S+Q * v) (h2:c+x+y=v+4294967296 * c'):S'+Q * 4294967296 * (c'+L+D)=S+Q * (c+(x+4294967296 * L)+(y+4294967296 * D)):=by
 subst h1
 have:Q * (c+x+y)=Q * (v+4294967296 * c'):=by rw [h2]
 grind
theorem Zpa (N:Nat) (a b:List Int) (ha:Zn a) (hb:Zn b) (hab:b.length≤a.length) (hN:a.length+1<N) (hs:a.length<1099511627776):∀ (l:List Int) (k:Nat) (sum:List Int) (c:Int),Zn l→a.length=k+l.length→sum.length=a.length+1→Zn sum→Zb (sum.drop k)=0→0≤c∧c≤1→
  Sa N a b l k sum c=some (Ze (Zb sum+4294967296 ^ k * (c.toNat+Zb l+Zb (b.drop k))))
 | [],k,sum,c,_,hk,hl,hL,hz,hc=>by
  have hk':k=a.length:=by simpa using hk.symm
  subst hk'
  rw [Sa.eq_1,Xg (by omega),oB,oB,Int.toNat_natCast,V4 (by omega),
   Sk (hL.set _ (by omega)) (by rw [nS];omega) (by rw [nS];omega),oB]
  have h1:=To (l:=sum) (k:=a.length) (by omega) c
  have h2:=(drop_zero hL (by omega) hz).1
  rw [h2] at h1
  rw [Ym,List.drop_eq_nil_of_le (by omega),Ym]
  have h3:Zb (sum.set a.length c)=Zb sum+4294967296 ^ a.length * c.toNat:=by simpa using h1
  rw [h3];rfl
 | x :: l,k,sum,c,hx,hk,hl,hL,hz,hc=>by
  have hk1:a.length=k+1+l.length:=by rw [hk,nC];omega
  have h0:=hx.head
  have hz':=drop_zero hL (by omega) hz
  have hy:=Zcy hb k
  have hsz:sum[k]'(by omega)=0:=hz'.1
  -- the sum of one place
  have step:∀ s:Int,s=c+x+(Xw b k:Int)→Zfo k sum (Sa N a b l) s=some (Ze (Zb sum+4294967296 ^ k * (c.toNat+Zb (x :: l)+Zb (b.drop k)))):=fun s hs'=>by
   rw [Zfo,Xg (by omega),oB,oB,Zkg,Int.toNat_natCast,Zd8]
   have hw:0≤u32.wrap s∧u32.wrap s<4294967296:=by rw [IntKind.wrap_u32];omega
   rw [Zpa N a b ha hb hab hN hs l (k+1) _ _ hx.tail hk1 (by rw [nS];exact hl) (hL.set _ hw) (by rw [Zad _ (by omega)];exact hz'.2) (by omega)]
   have h1:=To (l:=sum) (k:=k) (by omega) (u32.wrap s)
   rw [hsz] at h1
   rw [Nat.pow_succ,Y3,Us b k]
   congr 2
   exact Zwj _ _ _ _ _ _ (u32.wrap s).toNat _ _ _ (by simpa using h1) (by rw [IntKind.wrap_u32];omega)
  rw [Sa.eq_2]
  have hcx:u64.wrap (c+u64.wrap x)=c+x:=by rw [Xo (x:=x) (by omega),Xo (by omega)]
  by_cases hkb:k<b.length
  ·have e:Xw b k=(b[k]).toNat:=by rw [Xw,List.getD_eq_getElem?_getD,List.getElem?_eq_getElem hkb,Option.getD_some]
   have:=hb.get hkb
   rw [if_pos (by simpa using hkb),Xg hkb,oB,hcx,Xo (x:=b[k]) (by omega),Xo (by omega)]
   exact step _ (by omega)
  ·have e:Xw b k=0:=by rw [Xw,List.getD_eq_getElem?_getD,List.getElem?_eq_none (by omega)];rfl
   rw [if_neg (by simpa using hkb),hcx]
   exact step _ (by omega)
theorem Zo9 {N:Nat} {a b:List Int} (ha:Zn a) (hb:Zn b) (hab:b.length≤a.length) (hN:a.length+1<N) (hs:a.length<1099511627776):Zfn N a b=some (Ze (Zb a+Zb b)):=by
 rw [Zfn,Z2 (by omega),Z7 (by simp only [maxLen];omega),Zpa N a b ha hb hab hN hs a 0 _ 0 ha (by omega) (by rw [List.length_replicate];omega) (.zeros _) (by rw [List.drop_zero];exact Si _) (by omega),Si,List.drop_zero]
 simp
theorem Zwk {N:Nat} {a b:List Int} (ha:Zn a) (hb:Zn b) (h1:a.length+1<N) (h2:b.length+1<N) (h3:a.length<1099511627776) (h4:b.length<1099511627776):Zhg N a b=some (Ze (Zb a+Zb b)):=by
 have la:=Ys ha
 have lb:=Ys hb
 rw [Zhg,Sr ha (by omega) (by omega),oB,Sr hb (by omega) (by omega),oB]
 by_cases h:(Ze (Zb a)).length<(Ze (Zb b)).length
 ·rw [if_pos (by simpa using h),Zo9 (Z9 _) (Z9 _) (by omega) (by omega) (by omega),Z4,Z4,Nat.add_comm]
 ·rw [if_neg (by simpa using h),Zo9 (Z9 _) (Z9 _) (by omega) (by omega) (by omega),Z4,Z4]
theorem Zr2 (N:Nat) (a b:List Int) (ha:Zn a) (hb:Zn b) (hs:a.length<1099511627776):∀ (n k:Nat) (r:List Int) (c:Int),k≤a.length→a.length<n+k→r.length=a.length→Zn r→0≤c∧c≤1→r.drop k=a.drop k→
  4294967296 ^ k * (c.toNat+Zb (b.drop k))≤4294967296 ^ k * Zb (a.drop k)→
  ∃ r',Tm N a b n r c (k:Int)=some r'∧r'.length=a.length∧Zn r'∧Zb r'+4294967296 ^ k * (c.toNat+Zb (b.drop k))=Zb r
 | 0,k,r,c,hk,hn,_,_,_,_,_=>by omega
 | n+1,k,r,c,hk,hn,hl,hr,hc,he,hle=>by
  have hQ:0<4294967296 ^ k:=Nat.pow_pos (by decide)
  have hle':c.toNat+Zb (b.drop k)≤Zb (a.drop k):=Nat.le_of_mul_le_mul_left hle hQ
  rw [Tm.eq_2]
  by_cases h0:k<a.length
  ·have ga:=ha.get h0
   have hrk:r[k]'(by omega)=a[k]:=by
    have:(r.drop k)[0]'(by simp;omega)=(a.drop k)[0]'(by simp;omega):=by simp only [he]
    simpa using this
   have hy:=Zcy hb k
   rw [Us b k,Ua h0] at hle'
   have step:∀ t:Int,t=c+(Xw b k:Int)→∃ r',Zft r (k:Int) (Tm N a b n) t=some r'∧r'.length=a.length∧Zn r'∧Zb r'+4294967296 ^ k * (c.toNat+Zb (b.drop k))=Zb r:=fun t ht=>by
    have hw:0≤u32.wrap (a[k] - u32.wrap t)∧u32.wrap (a[k] - u32.wrap t)<4294967296:=by rw [IntKind.wrap_u32];omega
    have fin:∀ c':Int,0≤c'∧c'≤1→a[k]+4294967296 * c'=t+u32.wrap (a[k] - u32.wrap t)→∃ r',Zfu r (k:Int) (Tm N a b n) t c'=some r'∧r'.length=a.length∧Zn r'∧Zb r'+4294967296 ^ k * (c.toNat+Zb (b.drop k))=Zb r:=fun c' hc' hv=>by
     rw [Zfu,Xg (by omega),oB,oB,Zkk,hrk,Z2 (by omega),Int.toNat_natCast]
     obtain ⟨r',q1,q2,q3,q4⟩:=Zr2 N a b ha hb hs n (k+1) (r.set k (u32.wrap (a[k] - u32.wrap t))) c' (by omega) (by omega) (by rw [nS];exact hl) (hr.set _ hw) hc' (by
      rw [Zad _ (by omega)]
      have:=congrArg (List.drop 1) he
      simpa [List.drop_drop,Nat.add_comm] using this) (Nat.mul_le_mul_left _ (by omega))
     refine ⟨r',q1,q2,q3,?_⟩
     have h1:=To (l:=r) (k:=k) (by omega) (u32.wrap (a[k] - u32.wrap t))
     rw [hrk] at h1
     rw [Us b k]
     rw [Nat.pow_succ] at q4
     have hv':(a[k]).toNat+4294967296 * c'.toNat=c.toNat+Xw b k+(u32.wrap (a[k] - u32.wrap t)).toNat:=by omega
     have hv2:4294967296 ^ k * ((a[k]).toNat+4294967296 * c'.toNat)=4294967296 ^ k * (c.toNat+Xw b k+(u32.wrap (a[k] - u32.wrap t)).toNat):=by rw [hv']
     grind
    rw [Zft,Xg (by omega),oB,hrk,Xo (x:=a[k]) (by omega)]
    by_cases hlt:a[k]<t
    ·rw [if_pos (by simpa using hlt)]
     exact fin 1 (by omega) (by rw [IntKind.wrap_u32,IntKind.wrap_u32];omega)
    ·rw [if_neg (by simpa using hlt)]
     exact fin 0 (by omega) (by rw [IntKind.wrap_u32,IntKind.wrap_u32];omega)
   rw [if_pos (by simpa using h0)]
   by_cases hkb:k<b.length
   ·have e:Xw b k=(b[k]).toNat:=by rw [Xw,List.getD_eq_getElem?_getD,List.getElem?_eq_getElem hkb,Option.getD_some]
    have:=hb.get hkb
    rw [if_pos (by simpa using hkb),Xg hkb,oB,Xo (x:=b[k]) (by omega),Xo (by omega)]
    exact step _ (by omega)
   ·have e:Xw b k=0:=by rw [Xw,List.getD_eq_getElem?_getD,List.getElem?_eq_none (by omega)];rfl
    rw [if_neg (by simpa using hkb)]
    exact step _ (by omega)
  ·rw [if_neg (by simpa using h0)]
   rw [List.drop_eq_nil_of_le (show a.length≤k by omega),Ym] at hle'
   exact ⟨r,rfl,hl,hr,by rw [show c.toNat+Zb (b.drop k)=0 by omega];simp⟩
theorem Zvp {N:Nat} {a b:List Int} (ha:Zn a) (hb:Zn b) (h1:a.length+1<N) (h2:b.length+1<N) (h3:a.length<1099511627776) (h4:b.length<1099511627776):
  Zfq N a b=some (if Zb a<Zb b then ([],false) else (Ze (Zb a - Zb b),true)):=by
 have la:=Ys ha
 have lb:=Ys hb
 rw [Zfq,Zmu ha hb (by omega) (by omega) (by omega) (by omega),oB]
 by_cases h:Zb a<Zb b
 ·rw [if_pos h,if_pos (by decide),if_pos h]
 ·rw [if_neg h,if_neg (by split <;> decide),if_neg h,Sr ha (by omega) (by omega),oB,Zms (by omega),oB,Sr hb (by omega) (by omega),oB,Zkj]
  obtain ⟨r',q1,q2,q3,q4⟩:=Zr2 N (Ze (Zb a)) (Ze (Zb b)) (Z9 _) (Z9 _) (by omega) N 0 (Ze (Zb a)) 0 (by omega) (by omega) rfl (Z9 _) (by omega) rfl (by simp [Z4];omega)
  rw [show ((0:Nat):Int)=0 from rfl] at q1
  rw [q1,oB,Sk q3 (by omega) (by omega),oB]
  simp [Z4] at q4
  congr 3
  omega
theorem Z0x (P P' Q c x y e v c' L:Nat) (h1:P'+Q * e=P+Q * v) (h2:c+(x * y+e)=v+4294967296 * c'):P'+Q * 4294967296 * (c'+x * L)=P+Q * (c+x * (y+4294967296 * L)):=by
 have:Q * (c+(x * y+e))=Q * (v+4294967296 * c'):=by rw [h2]
 grind
theorem Zsr (b:List Int) (hb:Zn b) (i:Nat) (kk:Nat→List Int→Option R2) (x:Int) (hx:0≤x∧x<4294967296):∀ (l:List Int) (j:Nat) (p:List Int) (c:Int),Zn l→j+l.length=b.length→i+b.length<p.length→p.length<4611686018427387904→Zn p→0≤c∧c<4294967296→Zb (p.drop (i+b.length))=0→
  ∃ p',Zb3 b i kk x l j p c=kk (i+1) p'∧p'.length=p.length∧Zn p'∧Zb p'=Zb p+4294967296 ^ (i+j) * (c.toNat+x.toNat * Zb l)∧Zb (p'.drop (i+b.length+1))=0
 | [],j,p,c,_,hj,hp,hs,hL,hc,hz=>by
  have hj':j=b.length:=by simpa using hj
  subst hj'
  have hz':=drop_zero hL hp hz
  rw [Zb3.eq_1,Z2 (by omega),show (i:Int)+(b.length:Int)=((i+b.length:Nat):Int) by omega,Xg hp,oB,oB,Int.toNat_natCast,V4 hc]
  refine ⟨_,rfl,by rw [nS],hL.set _ hc,?_,?_⟩
  ·have h1:=To hp c
   rw [hz'.1] at h1
   rw [Ym,Nat.mul_zero,Nat.add_zero]
   simpa using h1
  ·rw [Zad _ (by omega)];exact hz'.2
 | y :: l,j,p,c,hl,hj,hp,hs,hL,hc,hz=>by
  have hy:=hl.head
  have hj1:j+1+l.length=b.length:=by rw [← hj,nC];omega
  have hij:i+j<p.length:=by omega
  have hg:=hL.get hij
  have hm:x * y≤4294967295 * 4294967295:=Int.mul_le_mul (by omega) (by omega) (by omega) (by omega)
  have hm0:0≤x * y:=Int.mul_nonneg hx.1 hy.1
  rw [Zb3.eq_2,Z2 (by omega),show (i:Int)+(j:Int)=((i+j:Nat):Int) by omega,Xg hij,oB,oB,Int.toNat_natCast,Xo (x:=x) (by omega),Xo (x:=y) (by omega),Xo (x:=p[i+j]) (by omega),Xo (x:=x * y) (by omega),Xo (x:=x * y+p[i+j]) (by omega),Xo (by omega),Zd8]
  generalize hs':c+(x * y+p[i+j])=s
  have hw:0≤u32.wrap s∧u32.wrap s<4294967296:=by rw [IntKind.wrap_u32];omega
  obtain ⟨p',q1,q2,q3,q4,q5⟩:=Zsr b hb i kk x hx l (j+1) (p.set (i+j) (u32.wrap s)) (s / 4294967296) hl.tail hj1 (by rw [nS];exact hp) (by rw [nS];exact hs) (hL.set _ hw) (by omega) (by rw [Zad _ (by omega)];exact hz)
  refine ⟨p',q1,by rw [q2,nS],q3,?_,q5⟩
  rw [q4,← Nat.add_assoc i j 1,Nat.pow_succ,Y3]
  refine Z0x _ _ _ _ _ _ (p[i+j]).toNat (u32.wrap s).toNat _ _ (To hij _) ?_
  rw [IntKind.wrap_u32]
  have e1:((x.toNat * y.toNat:Nat):Int)=x * y:=by rw [Int.natCast_mul,Int.toNat_of_nonneg hx.1,Int.toNat_of_nonneg hy.1]
  omega
theorem Zsq (N:Nat) (b:List Int) (hb:Zn b):∀ (l:List Int) (i:Nat) (p:List Int),Zn l→p.length=i+l.length+b.length→p.length<N→p.length<1099511627776→Zn p→Zb (p.drop (i+b.length))=0→
  Q0 N b l i p=some (Ze (Zb p+4294967296 ^ i * (Zb l * Zb b)))
 | [],i,p,_,hl,hn,hs,hp,hz=>by
  rw [Q0.eq_1,Sk hp hn (by omega),oB,Ym];simp
 | x :: l,i,p,hx,hl,hn,hs,hp,hz=>by
  rw [nC] at hl
  obtain ⟨p',q1,q2,q3,q4,q5⟩:=Zsr b hb i (Q0 N b l) x hx.head b 0 p 0 hb (by omega) (by omega) (by omega) hp (by omega) hz
  rw [Q0.eq_2,q1,Zsq N b hb l (i+1) p' hx.tail (by omega) (by omega) (by omega) q3 (by rw [show i+1+b.length=i+b.length+1 by omega];exact q5),q4,Y3,Nat.pow_succ]
  congr 2
  simp only [Nat.add_zero,Int.toNat_zero,Nat.zero_add]
  grind
theorem Zil {N:Nat} {a b:List Int} (ha:Zn a) (hb:Zn b) (h1:a.length+b.length<N) (h3:a.length+b.length<1099511627776):S8 N a b=some (Ze (Zb a * Zb b)):=by
 have la:=Ys ha
 have lb:=Ys hb
 rw [S8,Sr ha (by omega) (by omega),oB,Sr hb (by omega) (by omega),oB,Z2 (by omega),Z7 (by simp only [maxLen];omega),
  Zsq N _ (Z9 _) _ 0 _ (Z9 _) (by rw [List.length_replicate];omega) (by rw [List.length_replicate];omega) (by rw [List.length_replicate];omega) (.zeros _) (by
   rw [List.drop_replicate];exact Si _),Si,Z4,Z4]
 simp
def Zdn (N:Nat) (aa:Int):Nat→R2→Int→Int→Option R6
  | 0,_,_,_=>none
  | af+1,ac,ad,ab=>if (decide (0≤ab))=true then ((Zq ac ab).bind fun ae=>Zz ((u64.wrap aa)≠0) ((some (ac.set (Int.toNat ab) (u32.wrap (u64.wrap (Int.tdiv (Yz .u64 (Xy .u64 ad 32) (u64.wrap ae)) (u64.wrap aa)))))).bind fun ag=>Zz ((u64.wrap aa)≠0) ((Zdn N aa af) ag (Int.tmod (Yz .u64 (Xy .u64 ad 32) (u64.wrap ae)) (u64.wrap aa)) (i64.wrap (ab - 1))))) else (some (u32.wrap ad,ac))
termination_by structural x=>x
def Zfv (N:Nat) (aa:List Int) (ab:Int):Option R6:=
  Zdn N ab N aa 0 (i64.wrap ((aa.length:Int) - 1))
theorem Zpr {N ad:Nat} {a0:Option Addr} {col:Zd} {w0:World} {ae:R2} {ab:Int} {r:R6} (qc0:Nat) (hm:Zfv N ae ab=some r) (hd:Te [qc0]=true) (h0:Zc (Za.int .u32) 79 qc0 col w0 a0 ad ae):
    Calls prog 283 #[.slice a0 ae.length ad,.int .u32 ab] w0 (fun e w'=>∃ (col':Zd),e= .returned ((.int .u32 r.1))∧Zx (pS [qc0]) col w0 col' w'∧Zc (Za.int .u32) 79 qc0 col' w' a0 ad r.2∧r.2.length=ae.length):=by
 refine Xk 4 (m:=36) func283 rfl rfl rfl rfl rfl ?_;rw [Zfv.eq_1] at hm;have af:=St.startL (l:=[qc0]) rfl col w0;replace h0:=h0.startL (Zaf hd 0 rfl) (Zae hd 0 rfl);refine go ?_;refine Z8 [1,1000000] (fun n f an=>∃ ao ac aa am ag,ag=n∧Zdn N ab ag ac aa am=some r∧St w0 (Xt [qc0] col) ao an∧Zc (Za.int .u32) 79 440 ao an a0 ad ac∧ac.length=ae.length∧ac.length=ae.length∧[0,5,6].map f=[.slice a0 ac.length ad,.int .u64 aa,.int .i64 am]) N ⟨_,_,0,_,_,rfl,hm,af,h0,rfl,rfl,rfl⟩ ?_;clear hm;intro n f an hI;obtain ⟨ao,ac,aa,am,ag,hn,hm,af,aj,ar,au,hs⟩:=hI;subst hn;refine .lL [0,5,6] hs ?_
 cases ag with
 | zero=>rw [Zdn.eq_1] at hm;cases hm
 | succ ag=>
  rw [Zdn.eq_2] at hm;refine go ?_;refine Zr hm (fun hb hm=>go ?_) fun hb hm=>go ?_
  ·refine lV (.int .u64 (Xy .u64 aa 32)) (Zd6 aa 32 rfl rfl (by decide))<|go ?_;obtain ⟨ah,ai,hm⟩:=bZ hm;refine lI ai (aj.addr ai)<|lW (aj.atInt ai) ?_;refine go ?_;obtain ⟨av,hm⟩:=Z3 hm;refine lV (.int .u64 (u64.wrap (Int.tdiv (Yz .u64 (Xy .u64 aa 32) (u64.wrap ah)) (u64.wrap ab)))) (V2 (Yz .u64 (Xy .u64 aa 32) (u64.wrap ah)) (u64.wrap ab) rfl rfl av)<|go ?_;refine lI ai (aj.addr ai) ?_;obtain ⟨ak,al,hm⟩:=bZ hm;have al:ak=ac.set (Int.toNat am) (u32.wrap (u64.wrap (Int.tdiv (Yz .u64 (Xy .u64 aa 32) (u64.wrap ah)) (u64.wrap ab)))):=(Option.some.inj al).symm;refine Wd (x1:=u32.wrap (u64.wrap (Int.tdiv (Yz .u64 (Xy .u64 aa 32) (u64.wrap ah)) (u64.wrap ab)))) aj ai ?_;intro az aw ax ap;rw [← al] at ap;have aq:ak.length=ae.length:=(show ac.length=ak.length by rw [al,nS]).symm.trans ar;refine .ld (d:=0) (v:=(.slice a0 ak.length ad)) (congrArg (fun n=>Value.slice a0 n ad) (show ac.length=ak.length by rw [al,nS])) ?_;refine go ?_;obtain ⟨ay,hm⟩:=Z3 hm;refine lV (.int .u64 (Int.tmod (Yz .u64 (Xy .u64 aa 32) (u64.wrap ah)) (u64.wrap ab))) (Sn (Yz .u64 (Xy .u64 aa 32) (u64.wrap ah)) (u64.wrap ab) rfl rfl ay)<|go ?_;replace af:=af.kp aw ax;exact ⟨ag,by omega,rfl,⟨_,_,_,_,_,rfl,hm,af,ap,aq,aq,rfl⟩⟩
  cases hm;exact ⟨rfl,_,rfl,af.finL rfl (cm [(440,qc0)]),af.foL aj,au⟩
def Zdb (aa:Int) (ab:Int):Option Int:=
  (Zjb (⟨#[0,1,2,2,3,3,3,3,4,4,4,4,4,4,4,4,5,5,5,5,5,5,5,5,5,5,5,5,5,5,5,5,6,6,6,6,6,6,6,6,6,6,6,6,6,6,6,6,6,6,6,6,6,6,6,6,6,6,6,6,6,6,6,6,7,7,7,7,7,7,7,7,7,7,7,7,7,7,7,7,7,7,7,7,7,7,7,7,7,7,7,7,7,7,7,7,7,7,7,7,7,7,7,7,7,7,7,7,7,7,7,7,7,7,7,7,7,7,7,7,7,7,7,7,7,7,7,7,8,8,8,8,8,8,8,8,8,8,8,8,8,8,8,8,8,8,8,8,8,8,8,8,8,8,8,8,8,8,8,8,8,8,8,8,8,8,8,8,8,8,8,8,8,8,8,8,8,8,8,8,8,8,8,8,8,8,8,8,8,8,8,8,8,8,8,8,8,8,8,8,8,8,8,8,8,8,8,8,8,8,8,8,8,8,8,8,8,8,8,8,8,8,8,8,8,8,8,8,8,8,8,8,8,8,8,8,8,8,8,8,8,8,8,8,8,8,8,8,8,8,8,8,8,8,8,8]⟩) (u8.wrap aa)).bind fun ac=>some (i64.wrap (ab+(i64.wrap ac)))
def Zfe (aa:Int) (ab:Int):Option Int:=
  if (decide (256≤aa))=true then (Zdb (Yh .u32 aa 8) (i64.wrap (ab+8))) else (Zdb aa ab)
def Zfd (aa:Int):Option Int:=
  if (decide (65536≤aa))=true then (Zfe (Yh .u32 aa 16) 16) else (Zfe aa 0)
theorem Zpm {col:Zd} {w0:World} {ac r:Int} (hm:Zfd ac=some r):
    Calls prog 232 #[.int .u32 ac] w0 (fun e w'=>e= .returned ((.int .i64 r))∧Below w0.heap.size w0 w'):=by
 refine Xk 2 (m:=19) func232 rfl rfl rfl rfl rfl ?_;rw [Zfd.eq_1] at hm;have aa:=St.start col w0;refine Zw<|Wr<|Yr rfl<|Zm<|Zw ?_;refine Wp.cutK [1000000] (fun f ag=>∃ ah ab ad,Zfe ab ad=some r∧St w0 (Zj col) ah ag∧[0,2].map f=[.int .u32 ab,.int .i64 ad]) ?_ ?_
 ·intro f ag hJ;obtain ⟨ah,ab,ad,hm,aa,hs⟩:=hJ;rw [Zfe.eq_1] at hm;refine .lL [0,2] hs<|Zw ?_;refine Wp.cutK [1000000] (fun f ai=>∃ aj ae af,Zdb ae af=some r∧St w0 (Zj col) aj ai∧[0,2].map f=[.int .u32 ae,.int .i64 af]) ?_ ?_
  ·intro f ai hJ;obtain ⟨aj,ae,af,hm,aa,hs⟩:=hJ;rw [Zdb.eq_1] at hm;refine .lL [0,2] hs<|go ?_;obtain ⟨ak,al,hm⟩:=bZ hm;refine lV (.int .u8 ak) (Z1y (s:=(⟨#[0,1,2,2,3,3,3,3,4,4,4,4,4,4,4,4,5,5,5,5,5,5,5,5,5,5,5,5,5,5,5,5,6,6,6,6,6,6,6,6,6,6,6,6,6,6,6,6,6,6,6,6,6,6,6,6,6,6,6,6,6,6,6,6,7,7,7,7,7,7,7,7,7,7,7,7,7,7,7,7,7,7,7,7,7,7,7,7,7,7,7,7,7,7,7,7,7,7,7,7,7,7,7,7,7,7,7,7,7,7,7,7,7,7,7,7,7,7,7,7,7,7,7,7,7,7,7,7,8,8,8,8,8,8,8,8,8,8,8,8,8,8,8,8,8,8,8,8,8,8,8,8,8,8,8,8,8,8,8,8,8,8,8,8,8,8,8,8,8,8,8,8,8,8,8,8,8,8,8,8,8,8,8,8,8,8,8,8,8,8,8,8,8,8,8,8,8,8,8,8,8,8,8,8,8,8,8,8,8,8,8,8,8,8,8,8,8,8,8,8,8,8,8,8,8,8,8,8,8,8,8,8,8,8,8,8,8,8,8,8,8,8,8,8,8,8,8,8,8,8,8,8,8,8,8,8]⟩)) underlying9 rfl rfl al)<|go ?_;cases hm;exact ⟨rfl,rfl,aa.below⟩
  refine go ?_;refine Zr hm (fun hb hm=>go ?_) fun hb hm=>?_
  ·refine lV (.int .u32 (Yh .u32 ab 8)) (So ab 8 rfl rfl (by decide))<|go ?_;exact ⟨rfl,_,_,_,hm,aa,rfl⟩
  refine X8 ?_;exact ⟨rfl,_,_,_,hm,aa,rfl⟩
 refine go ?_;refine Zr hm (fun hb hm=>go ?_) fun hb hm=>?_
 ·refine lV (.int .u32 (Yh .u32 ac 16)) (So ac 16 rfl rfl (by decide))<|go ?_;exact ⟨rfl,_,_,16,hm,aa,rfl⟩
 refine X8 ?_;exact ⟨rfl,_,_,0,hm,aa,rfl⟩
def Zhd (aa:Int):Option Int:=
  (Zfd aa).bind fun ab=>some (i64.wrap (32 - ab))
theorem Zw6 {col:Zd} {w0:World} {ac r:Int} (hm:Zhd ac=some r):
    Calls prog 287 #[.int .u32 ac] w0 (fun e w'=>e= .returned ((.int .i64 r))∧Below w0.heap.size w0 w'):=by
 refine Xk 2 (m:=6) func287 rfl rfl rfl rfl rfl ?_;rw [Zhd.eq_1] at hm;have aa:=St.start col w0;refine go ?_;obtain ⟨af,ad,hm⟩:=bZ hm;refine Zh (Zpm (col:=(Zj col)) ad) ?_;rintro _ ae ⟨rfl,ab⟩;refine ⟨_,rfl,?_⟩;replace ab:Zi (Zj col) w0 (Zj col) ae:=.of_below ab;refine go ?_;cases hm;replace aa:=aa.grow ab;exact ⟨rfl,rfl,aa.below⟩
def Zb5 (ab:Int):List Int→Nat→R2→Option R2
  | [],aa,ac=>some ac
  | ad :: af,aa,ac=>(Zq ac (aa:Int)).bind fun ag=>Zz (0≤ab) ((some (ac.set (Int.toNat (aa:Int)) (Yz .u32 ag (Xy .u32 ad ab)))).bind fun ae=>Zz (0≤ab) ((Zq ae (i64.wrap ((aa:Int)+1))).bind fun ai=>(some (ae.set (Int.toNat (i64.wrap ((aa:Int)+1))) (u32.wrap (Yh .u64 (Xy .u64 (u64.wrap ad) ab) 32)))).bind fun ah=>(Zb5 ab af) (aa+1) ah))
termination_by structural x=>x
def Zfs (aa:List Int) (ab:Int):Option R2:=
  Zz ((Int.toNat (i64.wrap ((aa.length:Int)+1))) * 4≤281474976710656∧(Int.toNat (i64.wrap ((aa.length:Int)+1)))≤maxLen∧0≤(i64.wrap ((aa.length:Int)+1))) (Zb5 ab aa 0 (List.replicate (Int.toNat (i64.wrap ((aa.length:Int)+1))) (0:Int)))
theorem Zpq {ay:Nat} {a0:Option Addr} {col:Zd} {w0:World} {ad:R2} {aa:Int} {r:R2} (c1:Nat) (hm:Zfs ad aa=some r) (h0:Sl (Za.int .u32) col w0 a0 ay ad):
    Calls prog 277 #[.slice a0 ad.length ay,.int .i64 aa] w0 (fun e w'=>∃ (col':Zd) (ra1:Option Addr) (rc2:Nat),e= .returned ((.slice ra1 r.length rc2))∧Zi col w0 col' w'∧Zc (Za.int .u32) 79 c1 col' w' ra1 rc2 r):=by
 refine Xk 4 (m:=40) func277 rfl rfl rfl rfl rfl ?_;rw [Zfs.eq_1] at hm;have ab:=St.start col w0;refine go ?_;obtain ⟨ao,hm⟩:=Z3 hm;refine Qo (col:=(Zj col)) (w:=w0) (r:=(Za.int .u32)) (n:=(Int.toNat (i64.wrap ((ad.length:Int)+1)))) (x0:=0) 1 rfl underlying43 Tryz.t79 rfl rfl rfl rfl rfl (congrArg (Value.int _) (Int.toNat_of_nonneg ao.2.2).symm) (congrArg (Value.int _) (Int.toNat_of_nonneg ao.2.2).symm) ao.1 ao.2.1 (V3 .u32 0) ?_;intro bc bd be a1 a2;refine go ?_;replace ab:=ab.grow a1;refine Z8 [1,12,13,1000000] (fun n f au=>∃ ae af ah ai ak al,n=al.length∧ad.drop af=al∧Zb5 aa al af ak=some r∧St w0 (Zj col) ae au∧Zc (Za.int .u32) 79 1 ae au ah ai ak∧[14,5].map f=[.int .i64 af,.slice ah ak.length ai]) ad.length ⟨_,0,_,_,_,_,rfl,rfl,hm,ab,a2,rfl⟩ ?_;clear hm;intro n f au hI;obtain ⟨ae,af,ah,ai,ak,al,hn,hl,hm,ab,aj,hs⟩:=hI;subst hn;refine .lL [14,5] hs ?_;replace h0:=h0.keep (Zl.start col w0)
 cases al with
 | nil=>
  have hk:¬ ((af:Int)<(ad.length:Int)):=by have:=List.drop_eq_nil_iff.1 hl;omega
  have hkb:=decide_eq_false hk;rw [Zb5.eq_1] at hm;refine go ?_;refine X3 (congrArg Value.bool hkb)<|go ?_;cases hm;exact ⟨rfl,_,_,_,rfl,ab.fin (cm [(1,c1)]),ab.fo aj⟩
 | cons ac a3=>
  obtain ⟨av,a4,a5⟩:=Yk hl;have hk:(af:Int)<(ad.length:Int):=by omega
  have hkb:=decide_eq_true hk;rw [Zb5.eq_2] at hm;refine go ?_;refine X4 (congrArg Value.bool hkb)<|go ?_;refine lI av ((h0.ks ab).addr av)<|lW ((h0.ks ab).atInt av) ?_;refine go ?_;refine Wk (col:=ae) [(0,1),(1,1),(2,1),(3,0),(4,1),(5,1),(6,1),(7,1),(8,1),(9,2)] (by kernel_rfl) (by kernel_rfl)<|xu rfl rfl (fun _=>Vt rfl) ?_;refine xu rfl rfl (fun _=>Yw rfl) ?_;obtain ⟨ap,ag,hm⟩:=bZ hm;refine xu rfl rfl (fun _=>Y9 underlying43 sizeOf79 rfl rfl (Xj ag).1 (Xj ag).2.1 (aj.addr ag)) ?_;refine xW (fun _ hC=>(aj.gr (hC.bl ae)).atInt ag) ?_;refine xu rfl rfl (fun _=>Yw rfl) ?_;refine xu rfl rfl (fun _=>Yw rfl) ?_;obtain ⟨a6,hm⟩:=Z3 hm;refine xu (v:=(.int .u32 (Xy .u32 ac aa))) rfl rfl (fun _=>Zd6 ac aa rfl rfl a6) ?_;refine xu (v:=(.int .u32 (Yz .u32 ap (Xy .u32 ac aa)))) rfl rfl (fun _=>Zoi ap (Xy .u32 ac aa) rfl rfl) ?_;refine xu rfl rfl (fun _=>Y9 underlying43 sizeOf79 rfl rfl (Xj ag).1 (Xj ag).2.1 (aj.addr ag)) ?_;refine xe rfl rfl ?_;intro bf hC0;have hC:=hC0.bl ae;obtain ⟨am,aq,hm⟩:=bZ hm;have aq:am=ak.set (Int.toNat (af:Int)) (Yz .u32 ap (Xy .u32 ac aa)):=(Option.some.inj aq).symm;replace aj:=aj.gr hC;refine Wd (x1:=Yz .u32 ap (Xy .u32 ac aa)) aj ag ?_;intro bg a7 a8 an;rw [← aq] at an;refine .ld (d:=5) (v:=(.slice ah am.length ai)) (congrArg (fun n=>Value.slice ah n ai) (show ak.length=am.length by rw [aq,nS])) ?_;refine Zm<|xk ae<|Y7 ?_;replace ab:=(ab.grow hC).kp a7 a8;intro bh hC;replace hC:=hC.bl ae;refine go ?_;obtain ⟨a9,hm⟩:=Z3 hm;refine lV (.int .u64 (Xy .u64 (u64.wrap ac) aa)) (Zd6 (u64.wrap ac) aa rfl rfl a9)<|lV (.int .u64 (Yh .u64 (Xy .u64 (u64.wrap ac) aa) 32)) (So (Xy .u64 (u64.wrap ac) aa) 32 rfl rfl (by decide))<|go ?_;obtain ⟨bi,aw,hm⟩:=bZ hm;replace an:=an.gr hC;refine lI aw (an.addr aw) ?_;obtain ⟨ax,ar,hm⟩:=bZ hm;have ar:ax=am.set (Int.toNat (i64.wrap ((af:Int)+1))) (u32.wrap (Yh .u64 (Xy .u64 (u64.wrap ac) aa) 32)):=(Option.some.inj ar).symm;refine Wd (x1:=u32.wrap (Yh .u64 (Xy .u64 (u64.wrap ac) aa) 32)) an aw ?_;intro bj ba bb az;rw [← ar] at az;refine .ld (d:=5) (v:=(.slice ah ax.length ai)) (congrArg (fun n=>Value.slice ah n ai) (show am.length=ax.length by rw [ar,nS])) ?_;refine go ?_;replace ab:=(ab.grow hC).kp ba bb
  exact ⟨a3.length,by simp,rfl,⟨_,_,_,_,_,_,rfl,a4,hm,ab,az,(Yo (congrArg (Value.int .i64) (Yn (Nat.lt_of_lt_of_le a5 (h0.ks ab).1.1))) rfl)⟩⟩
def Zhp (aa:List Int) (kk_L1:(List Int→Option R2)) (ab:Bool):Option R2:=
  if ab=true then (Zz ((0:Int)≤(i64.wrap ((aa.length:Int) - 1))∧(i64.wrap ((aa.length:Int) - 1))≤(aa.length:Int)) (kk_L1 (aa.take (Int.toNat (i64.wrap ((aa.length:Int) - 1)))))) else (some aa)
def Za1 (N:Nat):Nat→R2→Option R2
  | 0,_=>none
  | ab+1,aa=>if (decide (0<(aa.length:Int)))=true then ((Zq aa (i64.wrap ((aa.length:Int) - 1))).bind fun ac=>Zhp aa (Za1 N ab) (decide (ac=0))) else (Zhp aa (Za1 N ab) false)
termination_by structural x=>x
def Zb6 (N:Nat) (aa:List Int):Option R2:=
  Za1 N N aa
theorem Zmi {N ap:Nat} {a0:Option Addr} {col:Zd} {w0:World} {ag r:R2} (qc0:Nat) (hm:Zb6 N ag=some r) (hd:Te [qc0]=true) (h0:Zc (Za.int .u32) 79 qc0 col w0 a0 ap ag):
    Calls prog 217 #[.slice a0 ag.length ap] w0 (fun e w'=>∃ (col':Zd) (ra1:Option Addr) (rc2:Nat),e= .returned ((.slice ra1 r.length rc2))∧Zx (pS [qc0]) col w0 col' w'∧Zc (Za.int .u32) 79 qc0 col' w' ra1 rc2 r):=by
 refine Xk 2 (m:=21) func217 rfl rfl rfl rfl rfl ?_;rw [Zb6.eq_1] at hm;have ab:=St.startL (l:=[qc0]) rfl col w0;replace h0:=h0.startL (Zaf hd 0 rfl) (Zae hd 0 rfl);refine go ?_;refine Z8 [1000000] (fun n f ah=>∃ ai ad ae aa af,af=n∧Za1 N af aa=some r∧St w0 (Xt [qc0] col) ai ah∧Zc (Za.int .u32) 79 440 ai ah ad ae aa∧[0].map f=[.slice ad aa.length ae]) N ⟨_,_,_,_,_,rfl,hm,ab,h0,rfl⟩ ?_;clear hm;intro n f ah hI;obtain ⟨ai,ad,ae,aa,af,hn,hm,ab,ac,hs⟩:=hI;subst hn;refine .lL [0] hs ?_
 cases af with
 | zero=>rw [Za1.eq_1] at hm;cases hm
 | succ af=>
  rw [Za1.eq_2] at hm;refine Zw<|Zw ?_;refine Wp.cutK [0,1000000] (fun f aj=>∃ ak al,Zhp aa (Za1 N af) al=some r∧St w0 (Xt [qc0] col) ak aj∧Zc (Za.int .u32) 79 440 ak aj ad ae aa∧[14].map f=[.bool al]) ?_ ?_
  ·intro f aj hJ;obtain ⟨ak,al,hm,ab,ac,hs⟩:=hJ;rw [Zhp.eq_1] at hm;refine .lL [14] hs ?_;refine Zr hm (fun hb hm=>go ?_) fun hb hm=>go ?_
   ·obtain ⟨am,hm⟩:=Z3 hm;refine lv (v:=.slice ad (Int.toNat (i64.wrap ((aa.length:Int) - 1))) ae) rfl rfl (Zgk underlying43 sizeOf79 rfl rfl am.1 (by have:=ac.lecap;have:=am.2;omega))<|.ld (d:=19) (v:=(.slice ad ((aa.take (Int.toNat (i64.wrap ((aa.length:Int) - 1)))).length) ae)) (congrArg (fun n=>Value.slice ad n ae) (List.length_take_of_le (show (Int.toNat (i64.wrap ((aa.length:Int) - 1)))≤aa.length by have:=am.2;omega)).symm) ?_;refine go ?_;exact ⟨af,by omega,rfl,⟨_,_,_,_,_,rfl,hm,ab,(ac.take (Int.toNat (i64.wrap ((aa.length:Int) - 1)))),rfl⟩⟩
   cases hm;exact ⟨rfl,_,_,_,rfl,ab.finL rfl (cm [(440,qc0)]),ab.foL ac⟩
  refine go ?_;refine X1 hm (fun an hm=>go ?_) fun an hm=>go ?_
  ·obtain ⟨aq,ao,hm⟩:=bZ hm;refine lI ao (ac.addr ao) ?_;refine go ?_;refine lW (ac.atInt ao)<|go ?_;refine lV (.bool (decide (aq=0))) (Xs (congrArg Value.bool an) rfl)<|Zm ?_;exact ⟨rfl,_,_,hm,ab,ac,rfl⟩
  refine lV (.bool false) (Xl (congrArg Value.bool an) rfl)<|Zm ?_;exact ⟨rfl,_,_,hm,ab,ac,rfl⟩
def Zhm (aa:Int) (ab:List Int):Option R6:=
  some (u32.wrap aa,ab)
def Zb4 (j0:Nat) (n0:Nat) (ab:List Int) (ae:Int):List Int→Nat→R2→Int→Option R6
  | [],aa,ac,ad=>Zz (0≤(ab.length:Int)∧(ab.length:Int)<(n0:Int)) ((Zq ac ((j0:Int)+(ab.length:Int))).bind fun ah=>Zz (0≤(ab.length:Int)∧(ab.length:Int)<(n0:Int)) ((Zq ac ((j0:Int)+(ab.length:Int))).bind fun al=>(some (ac.set (Int.toNat ((j0:Int)+(ab.length:Int))) (u32.wrap (ah+(u32.wrap ad))))).bind fun ai=>Zhm (u64.wrap ((u64.wrap (ae - 1)) - 1)) ai))
  | af :: aj,aa,ac,ad=>Zz (0≤(aa:Int)∧(aa:Int)<(n0:Int)) ((Zq ac ((j0:Int)+(aa:Int))).bind fun ag=>Zz (0≤(aa:Int)∧(aa:Int)<(n0:Int)) ((Zq ac ((j0:Int)+(aa:Int))).bind fun am=>(some (ac.set (Int.toNat ((j0:Int)+(aa:Int))) (u32.wrap (u64.wrap (ad+(u64.wrap ((u64.wrap ag)+(u64.wrap af)))))))).bind fun ak=>(Zb4 j0 n0 ab ae aj) (aa+1) ak (Yh .u64 (u64.wrap (ad+(u64.wrap ((u64.wrap ag)+(u64.wrap af))))) 32)))
termination_by structural x=>x
def Zki (aa:Nat) (kk_L2:(Nat→R2→Int→Int→Option R6)) (ab:List Int) (ac:Int) (ad:Int):Option R6:=
  kk_L2 (aa+1) ab ac ad
def Zhn (j0:Nat) (n0:Nat) (ac:Int) (ab:List Int) (af:Int) (aa:Nat) (ad:Int) (kk_L2:(Nat→R2→Int→Int→Option R6)) (ae:Int) (ag:Int):Option R6:=
  Zz (0≤(aa:Int)∧(aa:Int)<(n0:Int)) ((Zq ab ((j0:Int)+(aa:Int))).bind fun ah=>Zz (0≤(aa:Int)∧(aa:Int)<(n0:Int)) ((Zq ab ((j0:Int)+(aa:Int))).bind fun aj=>(some (ab.set (Int.toNat ((j0:Int)+(aa:Int))) (u32.wrap (ah - (u32.wrap (u64.wrap ((U0 .u64 (u64.wrap (ad+(u64.wrap ((u64.wrap (ac - 1)) * (u64.wrap ae))))) 4294967295)+af))))))).bind fun ai=>Zki aa kk_L2 ai ag (Yh .u64 (u64.wrap (ad+(u64.wrap ((u64.wrap (ac - 1)) * (u64.wrap ae))))) 32)))
def S9 (j0:Nat) (n0:Nat) (aa:List Int) (ac:Int):List Int→Nat→R2→Int→Int→Option R6
  | [],ad,ab,ae,af=>Zz (0≤(aa.length:Int)∧(aa.length:Int)<(n0:Int)) ((Zq ab ((j0:Int)+(aa.length:Int))).bind fun aj=>Zz (0≤(aa.length:Int)∧(aa.length:Int)<(n0:Int)) ((Zq ab ((j0:Int)+(aa.length:Int))).bind fun ak=>Zz (0≤(aa.length:Int)∧(aa.length:Int)<(n0:Int)) ((Zq ab ((j0:Int)+(aa.length:Int))).bind fun am=>(some (ab.set (Int.toNat ((j0:Int)+(aa.length:Int))) (u32.wrap (ak - (u32.wrap (u64.wrap (af+ae))))))).bind fun ah=>if (decide ((u64.wrap aj)<(u64.wrap (af+ae))))=true then (Zb4 j0 n0 aa ac aa 0 ah 0) else (Zhm (u64.wrap (ac - 1)) ah))))
  | ag :: ai,ad,ab,ae,af=>Zz (0≤(ad:Int)∧(ad:Int)<(n0:Int)) ((Zq ab ((j0:Int)+(ad:Int))).bind fun al=>if (decide ((u64.wrap al)<(u64.wrap ((U0 .u64 (u64.wrap (af+(u64.wrap ((u64.wrap (ac - 1)) * (u64.wrap ag))))) 4294967295)+ae))))=true then (Zhn j0 n0 ac ab ae ad af (S9 j0 n0 aa ac ai) ag 1) else (Zhn j0 n0 ac ab ae ad af (S9 j0 n0 aa ac ai) ag 0))
termination_by structural x=>x
def Zhl (j0:Nat) (n0:Nat) (ae:List Int) (aa:List Int) (ab:Int) (ac:Int) (kk_L1:(Int→Int→Option R6)):Option R6:=
  (Zq aa (i64.wrap ((aa.length:Int) - 1))).bind fun ad=>if (decide (4294967295<(u64.wrap (ac+(u64.wrap ad)))))=true then (S9 j0 n0 aa ab aa 0 ae 0 0) else (kk_L1 (u64.wrap (ab - 1)) (u64.wrap (ac+(u64.wrap ad))))
def Zaz (aa:Int) (ab:List Int):Option R6:=
  some (u32.wrap aa,ab)
def Tl (j0:Nat) (n0:Nat) (ab:List Int) (ae:Int):List Int→Nat→R2→Int→Option R6
  | [],aa,ac,ad=>Zz (0≤(ab.length:Int)∧(ab.length:Int)<(n0:Int)) ((Zq ac ((j0:Int)+(ab.length:Int))).bind fun ah=>Zz (0≤(ab.length:Int)∧(ab.length:Int)<(n0:Int)) ((Zq ac ((j0:Int)+(ab.length:Int))).bind fun al=>(some (ac.set (Int.toNat ((j0:Int)+(ab.length:Int))) (u32.wrap (ah+(u32.wrap ad))))).bind fun ai=>Zaz (u64.wrap (ae - 1)) ai))
  | af :: aj,aa,ac,ad=>Zz (0≤(aa:Int)∧(aa:Int)<(n0:Int)) ((Zq ac ((j0:Int)+(aa:Int))).bind fun ag=>Zz (0≤(aa:Int)∧(aa:Int)<(n0:Int)) ((Zq ac ((j0:Int)+(aa:Int))).bind fun am=>(some (ac.set (Int.toNat ((j0:Int)+(aa:Int))) (u32.wrap (u64.wrap (ad+(u64.wrap ((u64.wrap ag)+(u64.wrap af)))))))).bind fun ak=>(Tl j0 n0 ab ae aj) (aa+1) ak (Yh .u64 (u64.wrap (ad+(u64.wrap ((u64.wrap ag)+(u64.wrap af))))) 32)))
termination_by structural x=>x
def Zho (aa:Nat) (kk_L4:(Nat→R2→Int→Int→Option R6)) (ab:List Int) (ac:Int) (ad:Int):Option R6:=
  kk_L4 (aa+1) ab ac ad
def Zdm (j0:Nat) (n0:Nat) (ac:Int) (ab:List Int) (af:Int) (aa:Nat) (ad:Int) (kk_L4:(Nat→R2→Int→Int→Option R6)) (ae:Int) (ag:Int):Option R6:=
  Zz (0≤(aa:Int)∧(aa:Int)<(n0:Int)) ((Zq ab ((j0:Int)+(aa:Int))).bind fun ah=>Zz (0≤(aa:Int)∧(aa:Int)<(n0:Int)) ((Zq ab ((j0:Int)+(aa:Int))).bind fun aj=>(some (ab.set (Int.toNat ((j0:Int)+(aa:Int))) (u32.wrap (ah - (u32.wrap (u64.wrap ((U0 .u64 (u64.wrap (ad+(u64.wrap (ac * (u64.wrap ae))))) 4294967295)+af))))))).bind fun ai=>Zho aa kk_L4 ai ag (Yh .u64 (u64.wrap (ad+(u64.wrap (ac * (u64.wrap ae))))) 32)))
def Vw (j0:Nat) (n0:Nat) (aa:List Int) (ac:Int):List Int→Nat→R2→Int→Int→Option R6
  | [],ad,ab,ae,af=>Zz (0≤(aa.length:Int)∧(aa.length:Int)<(n0:Int)) ((Zq ab ((j0:Int)+(aa.length:Int))).bind fun aj=>Zz (0≤(aa.length:Int)∧(aa.length:Int)<(n0:Int)) ((Zq ab ((j0:Int)+(aa.length:Int))).bind fun ak=>Zz (0≤(aa.length:Int)∧(aa.length:Int)<(n0:Int)) ((Zq ab ((j0:Int)+(aa.length:Int))).bind fun am=>(some (ab.set (Int.toNat ((j0:Int)+(aa.length:Int))) (u32.wrap (ak - (u32.wrap (u64.wrap (af+ae))))))).bind fun ah=>if (decide ((u64.wrap aj)<(u64.wrap (af+ae))))=true then (Tl j0 n0 aa ac aa 0 ah 0) else (Zaz ac ah))))
  | ag :: ai,ad,ab,ae,af=>Zz (0≤(ad:Int)∧(ad:Int)<(n0:Int)) ((Zq ab ((j0:Int)+(ad:Int))).bind fun al=>if (decide ((u64.wrap al)<(u64.wrap ((U0 .u64 (u64.wrap (af+(u64.wrap (ac * (u64.wrap ag))))) 4294967295)+ae))))=true then (Zdm j0 n0 ac ab ae ad af (Vw j0 n0 aa ac ai) ag 1) else (Zdm j0 n0 ac ab ae ad af (Vw j0 n0 aa ac ai) ag 0))
termination_by structural x=>x
def Zdl (j0:Nat) (n0:Nat) (ab:List Int) (aa:List Int) (ac:Int) (ad:Int) (kk_L1:(Int→Int→Option R6)) (ae:Bool):Option R6:=
  if ae=true then (Zhl j0 n0 ab aa ac ad kk_L1) else (Vw j0 n0 aa ac aa 0 ab 0 0)
def Sc (N:Nat) (j0:Nat) (n0:Nat) (ab:List Int) (aa:List Int):Nat→Int→Int→Option R6
  | 0,_,_=>none
  | ae+1,ac,ad=>if (decide (4294967295<ac))=true then (Zdl j0 n0 ab aa ac ad (Sc N j0 n0 ab aa ae) true) else (if (decide (ad≤4294967295))=true then ((Zq aa (i64.wrap ((aa.length:Int) - 2))).bind fun af=>Zz (0≤(i64.wrap ((aa.length:Int) - 2))∧(i64.wrap ((aa.length:Int) - 2))<(n0:Int)) ((Zq ab ((j0:Int)+(i64.wrap ((aa.length:Int) - 2)))).bind fun ag=>Zdl j0 n0 ab aa ac ad (Sc N j0 n0 ab aa ae) (decide ((Yz .u64 (Xy .u64 ad 32) (u64.wrap ag))<(u64.wrap (ac * (u64.wrap af))))))) else (Zdl j0 n0 ab aa ac ad (Sc N j0 n0 ab aa ae) false))
termination_by structural x=>x
def Zfr (N:Nat) (j0:Nat) (n0:Nat) (ac:List Int) (aa:List Int):Option R6:=
  Zz (0≤(aa.length:Int)∧(aa.length:Int)<(n0:Int)) ((Zq ac ((j0:Int)+(aa.length:Int))).bind fun ad=>Zz (0≤(i64.wrap ((aa.length:Int) - 1))∧(i64.wrap ((aa.length:Int) - 1))<(n0:Int)) ((Zq ac ((j0:Int)+(i64.wrap ((aa.length:Int) - 1)))).bind fun ae=>(Zq aa (i64.wrap ((aa.length:Int) - 1))).bind fun ab=>Zz ((u64.wrap ab)≠0) (Zz ((u64.wrap ab)≠0) (Sc N j0 n0 ac aa N (u64.wrap (Int.tdiv (Yz .u64 (Xy .u64 (u64.wrap ad) 32) (u64.wrap ae)) (u64.wrap ab))) (Int.tmod (Yz .u64 (Xy .u64 (u64.wrap ad) 32) (u64.wrap ae)) (u64.wrap ab))))))
theorem Zxh {N ae j0 n0 cp0 de:Nat} {a0 a1:Option Addr} {col:Zd} {w0:World} {ac ab:R2} {r:R6} (qc0:Nat) (hm:Zfr N j0 n0 ac ab=some r) (hd:Te [qc0]=true) (h0:Zc (Za.int .u32) 79 qc0 col w0 a0 ae ac) (h1:Sl (Za.int .u32) col w0 a1 de ab):
    Calls prog 288 #[.slice (a0.map (·.add (j0 * 1))) n0 cp0,.slice a1 ab.length de] w0 (fun e w'=>∃ (col':Zd),e= .returned ((.int .u32 r.1))∧Zx (pS [qc0]) col w0 col' w'∧Zc (Za.int .u32) 79 qc0 col' w' a0 ae r.2∧r.2.length=ac.length):=by
 refine Xk 4 (m:=178) func288 rfl rfl rfl rfl rfl ?_;rw [Zfr.eq_1] at hm;have aa:=St.startL (l:=[qc0]) rfl col w0;replace h0:=h0.startL (Zaf hd 0 rfl) (Zae hd 0 rfl);refine go ?_;refine Tq (col:=(Xt [qc0] col)) (by kernel_rfl) (by kernel_rfl)<|go ?_;obtain ⟨df,hm⟩:=Z3 hm;obtain ⟨a7,dg,hm⟩:=bZ hm;refine qv (v:=(X2 a0 (Int.toNat ((j0:Int)+(ab.length:Int)) * 1))) rfl (fun _ hC=>W0 underlying43 sizeOf79 rfl rfl df.1 df.2 (h0.addr dg)) ?_;refine qW (fun _ hC=>(h0.gr (hC.bl (Xt [qc0] col))).atInt dg) ?_;refine go ?_;refine qv (v:=(.int .u64 (Xy .u64 (u64.wrap a7) 32))) rfl (fun _ hC=>Zd6 (u64.wrap a7) 32 rfl rfl (by decide)) ?_;refine go ?_;obtain ⟨dh,hm⟩:=Z3 hm;obtain ⟨bf,di,hm⟩:=bZ hm;refine qv (v:=(X2 a0 (Int.toNat ((j0:Int)+(i64.wrap ((ab.length:Int) - 1))) * 1))) rfl (fun _ hC=>W0 underlying43 sizeOf79 rfl rfl dh.1 dh.2 (h0.addr di)) ?_;refine qW (fun _ hC=>(h0.gr (hC.bl (Xt [qc0] col))).atInt di) ?_;refine go ?_;refine Vh ?_;intro gm hC;replace h1:=h1.keep (Zl.startL [qc0] col w0);replace hC:=hC.bl (Xt [qc0] col);refine go ?_;obtain ⟨bg,a8,hm⟩:=bZ hm;replace aa:=aa.grow hC;refine lI a8 ((h1.ks aa).addr a8)<|lW ((h1.ks aa).atInt a8) ?_;refine go ?_;obtain ⟨fc,hm⟩:=Z3 hm;refine lV (.int .u64 (u64.wrap (Int.tdiv (Yz .u64 (Xy .u64 (u64.wrap a7) 32) (u64.wrap bf)) (u64.wrap bg)))) (V2 (Yz .u64 (Xy .u64 (u64.wrap a7) 32) (u64.wrap bf)) (u64.wrap bg) rfl rfl fc)<|go ?_;refine lI a8 ((h1.ks aa).addr a8)<|lW ((h1.ks aa).atInt a8) ?_;refine go ?_;obtain ⟨fd,hm⟩:=Z3 hm;refine lV (.int .u64 (Int.tmod (Yz .u64 (Xy .u64 (u64.wrap a7) 32) (u64.wrap bf)) (u64.wrap bg))) (Sn (Yz .u64 (Xy .u64 (u64.wrap a7) 32) (u64.wrap bf)) (u64.wrap bg) rfl rfl fd)<|go ?_;replace h0:=h0.gr hC;refine Z8 [0,1,5,1000000] (fun n f bx=>∃ ao ad ap a2,a2=n∧Sc N j0 n0 ac ab a2 ad ap=some r∧St w0 (Xt [qc0] col) ao bx∧Zc (Za.int .u32) 79 440 ao bx a0 ae ac∧[7,8].map f=[.int .u64 ad,.int .u64 ap]) N ⟨_,_,_,_,rfl,hm,aa,h0,rfl⟩ ?_;clear hm;intro n f bx hI;obtain ⟨ao,ad,ap,a2,hn,hm,aa,h0,hs⟩:=hI;subst hn;refine .lL [7,8] hs ?_
 cases a2 with
 | zero=>rw [Sc.eq_1] at hm;cases hm
 | succ a2=>
  rw [Sc.eq_2] at hm;refine Zw ?_;refine Wp.cutK [0,1,5,7,8,1000000] (fun f bz=>∃ b0,Zhl j0 n0 ac ab ad ap (Sc N j0 n0 ac ab a2)=some r∧St w0 (Xt [qc0] col) b0 bz∧Zc (Za.int .u32) 79 440 b0 bz a0 ae ac) ?_ ?_
  ·intro f bz hJ;obtain ⟨b0,hm,aa,h0⟩:=hJ;rw [Zhl.eq_1] at hm;refine go ?_;obtain ⟨gp,b1,hm⟩:=bZ hm;refine lI b1 ((h1.ks aa).addr b1)<|lW ((h1.ks aa).atInt b1) ?_;refine go ?_;refine Zr hm (fun hb hm=>?_) fun hb hm=>?_
   ·refine Zeb (Zz0 rfl (Zcv ?_));refine go ?_;refine Z8 [0,1,5,7,87,88,1000000] (fun n f b2=>∃ b3 am a3 ai aj a9,n=a9.length∧ab.drop ai=a9∧S9 j0 n0 ab ad a9 ai am a3 aj=some r∧St w0 (Xt [qc0] col) b3 b2∧Zc (Za.int .u32) 79 440 b3 b2 a0 ae am∧am.length=ac.length∧am.length=ac.length∧[89,10,9].map f=[.int .i64 ai,.int .u64 a3,.int .u64 aj]) ab.length ⟨_,_,0,0,0,_,rfl,rfl,hm,aa,h0,rfl,rfl,rfl⟩ ?_;clear hm;intro n f b2 hI;obtain ⟨b3,am,a3,ai,aj,a9,hn,hl,hm,aa,af,dj,gs,hs⟩:=hI;subst hn;refine .lL [89,10,9] hs ?_
    cases a9 with
    | nil=>
     have hk:¬ ((ai:Int)<(ab.length:Int)):=by have:=List.drop_eq_nil_iff.1 hl;omega
     have hkb:=decide_eq_false hk;rw [S9.eq_1] at hm;refine go ?_;refine X3 (congrArg Value.bool hkb)<|go ?_;obtain ⟨dk,hm⟩:=Z3 hm;obtain ⟨gt,dl,hm⟩:=bZ hm;refine lV (X2 a0 (Int.toNat ((j0:Int)+(ab.length:Int)) * 1)) (W0 underlying43 sizeOf79 rfl rfl dk.1 dk.2 (af.addr dl))<|lW (af.atInt dl)<|go ?_;obtain ⟨dm,hm⟩:=Z3 hm;obtain ⟨dn,dp,hm⟩:=bZ hm;refine lV (X2 a0 (Int.toNat ((j0:Int)+(ab.length:Int)) * 1)) (W0 underlying43 sizeOf79 rfl rfl dm.1 dm.2 (af.addr dp))<|lW (af.atInt dp)<|go ?_;obtain ⟨dq,hm⟩:=Z3 hm;obtain ⟨gu,dr,hm⟩:=bZ hm;refine lV (X2 a0 (Int.toNat ((j0:Int)+(ab.length:Int)) * 1)) (W0 underlying43 sizeOf79 rfl rfl dq.1 dq.2 (af.addr dr)) ?_;obtain ⟨b4,bh,hm⟩:=bZ hm;have bh:b4=am.set (Int.toNat ((j0:Int)+(ab.length:Int))) (u32.wrap (dn - (u32.wrap (u64.wrap (aj+a3))))):=(Option.some.inj bh).symm;refine Wd (x1:=u32.wrap (dn - (u32.wrap (u64.wrap (aj+a3))))) af dr ?_;intro gv fe ff b5;rw [← bh] at b5;have b6:b4.length=ac.length:=(show am.length=b4.length by rw [bh,nS]).symm.trans dj;refine Zm<|Zw ?_;replace aa:=aa.kp fe ff;refine Wp.cutK [1000000] (fun f b7=>∃ b8 b9 bi,Zhm b9 bi=some r∧St w0 (Xt [qc0] col) b8 b7∧Zc (Za.int .u32) 79 440 b8 b7 a0 ae bi∧bi.length=ac.length∧[7].map f=[.int .u64 b9]) ?_ ?_
     ·intro f b7 hJ;obtain ⟨b8,b9,bi,hm,aa,fg,fh,hs⟩:=hJ;rw [Zhm.eq_1] at hm;refine .lL [7] hs<|go ?_;cases hm;exact ⟨rfl,_,rfl,aa.finL rfl (cm [(440,qc0)]),aa.foL fg,fh⟩
     refine go ?_;refine Zr hm (fun hb hm=>go ?_) fun hb hm=>?_
     ·refine Z8 [0,143,144,5,7,1000000] (fun n f ca=>∃ cb aq ar au ba,n=ba.length∧ab.drop ar=ba∧Zb4 j0 n0 ab ad ba ar aq au=some r∧St w0 (Xt [qc0] col) cb ca∧Zc (Za.int .u32) 79 440 cb ca a0 ae aq∧aq.length=ac.length∧aq.length=ac.length∧[145,9].map f=[.int .i64 ar,.int .u64 au]) ab.length ⟨_,_,0,0,_,rfl,rfl,hm,aa,b5,b6,b6,rfl⟩ ?_;clear hm;intro n f ca hI;obtain ⟨cb,aq,ar,au,ba,hn,hl,hm,aa,a4,fi,fj,hs⟩:=hI;subst hn;refine .lL [145,9] hs ?_
      cases ba with
      | nil=>
       have hk:¬ ((ar:Int)<(ab.length:Int)):=by have:=List.drop_eq_nil_iff.1 hl;omega
       have hkb:=decide_eq_false hk;rw [Zb4.eq_1] at hm;refine go ?_;refine X3 (congrArg Value.bool hkb)<|go ?_;obtain ⟨ds,hm⟩:=Z3 hm;obtain ⟨dt,du,hm⟩:=bZ hm;refine lV (X2 a0 (Int.toNat ((j0:Int)+(ab.length:Int)) * 1)) (W0 underlying43 sizeOf79 rfl rfl ds.1 ds.2 (a4.addr du))<|lW (a4.atInt du)<|go ?_;obtain ⟨dv,hm⟩:=Z3 hm;obtain ⟨gw,dw,hm⟩:=bZ hm;refine lV (X2 a0 (Int.toNat ((j0:Int)+(ab.length:Int)) * 1)) (W0 underlying43 sizeOf79 rfl rfl dv.1 dv.2 (a4.addr dw)) ?_;obtain ⟨cc,bj,hm⟩:=bZ hm;have bj:cc=aq.set (Int.toNat ((j0:Int)+(ab.length:Int))) (u32.wrap (dt+(u32.wrap au))):=(Option.some.inj bj).symm;refine Wd (x1:=u32.wrap (dt+(u32.wrap au))) a4 dw ?_;intro gx fk fl dx;rw [← bj] at dx;have fm:cc.length=ac.length:=(show aq.length=cc.length by rw [bj,nS]).symm.trans fj;refine Zm ?_;replace aa:=aa.kp fk fl;exact ⟨rfl,_,_,_,hm,aa,dx,fm,rfl⟩
      | cons bk fn=>
       obtain ⟨ag,fp,fq⟩:=Yk hl;have hk:(ar:Int)<(ab.length:Int):=by omega
       have hkb:=decide_eq_true hk;rw [Zb4.eq_2] at hm;refine go ?_;refine X4 (congrArg Value.bool hkb)<|go ?_;refine lI ag ((h1.ks aa).addr ag)<|lW ((h1.ks aa).atInt ag) ?_;refine go ?_;obtain ⟨dy,hm⟩:=Z3 hm;obtain ⟨bm,dz,hm⟩:=bZ hm;refine lV (X2 a0 (Int.toNat ((j0:Int)+(ar:Int)) * 1)) (W0 underlying43 sizeOf79 rfl rfl dy.1 dy.2 (a4.addr dz))<|lW (a4.atInt dz)<|go ?_;obtain ⟨d0,hm⟩:=Z3 hm;obtain ⟨gy,d1,hm⟩:=bZ hm;refine lV (X2 a0 (Int.toNat ((j0:Int)+(ar:Int)) * 1)) (W0 underlying43 sizeOf79 rfl rfl d0.1 d0.2 (a4.addr d1)) ?_;obtain ⟨cd,bn,hm⟩:=bZ hm;have bn:cd=aq.set (Int.toNat ((j0:Int)+(ar:Int))) (u32.wrap (u64.wrap (au+(u64.wrap ((u64.wrap bm)+(u64.wrap bk)))))):=(Option.some.inj bn).symm;refine Wd (x1:=u32.wrap (u64.wrap (au+(u64.wrap ((u64.wrap bm)+(u64.wrap bk)))))) a4 d1 ?_;intro gz fr ft d2;rw [← bn] at d2;have d3:cd.length=ac.length:=(show aq.length=cd.length by rw [bn,nS]).symm.trans fi;refine go ?_;refine lV (.int .u64 (Yh .u64 (u64.wrap (au+(u64.wrap ((u64.wrap bm)+(u64.wrap bk))))) 32)) (So (u64.wrap (au+(u64.wrap ((u64.wrap bm)+(u64.wrap bk))))) 32 rfl rfl (by decide))<|go ?_;replace aa:=aa.kp fr ft;exact ⟨fn.length,by simp,rfl,⟨_,_,_,_,_,rfl,fp,hm,aa,d2,d3,d3,(Yo (congrArg (Value.int .i64) (Yn (Nat.lt_of_lt_of_le fq (h1.ks aa).1.1))) rfl)⟩⟩
     refine X8 ?_;exact ⟨rfl,_,_,_,hm,aa,b5,b6,rfl⟩
    | cons av ce=>
     obtain ⟨ag,fu,fv⟩:=Yk hl;have hk:(ai:Int)<(ab.length:Int):=by omega
     have hkb:=decide_eq_true hk;rw [S9.eq_2] at hm;refine go ?_;refine X4 (congrArg Value.bool hkb)<|X8<|Zw ?_;refine Wp.cutK [0,1,5,7,87,88,89,1000000] (fun f cf=>∃ cg bb ch ci,Zki ai (S9 j0 n0 ab ad ce) bb ch ci=some r∧St w0 (Xt [qc0] col) cg cf∧Zc (Za.int .u32) 79 440 cg cf a0 ae bb∧bb.length=ac.length∧bb.length=ac.length∧[10,9].map f=[.int .u64 ch,.int .u64 ci]) ?_ ?_
     ·intro f cf hJ;obtain ⟨cg,bb,ch,ci,hm,aa,fw,fx,fy,hs⟩:=hJ;rw [Zki.eq_1] at hm;refine .lL [10,9] hs<|go ?_;exact ⟨ce.length,by simp,rfl,⟨_,_,_,_,_,_,rfl,fu,hm,aa,fw,fx,fy,(Yo (congrArg (Value.int .i64) (Yn (Nat.lt_of_lt_of_le fv (h1.ks aa).1.1))) rfl)⟩⟩
     refine go ?_;refine lI ag ((h1.ks aa).addr ag)<|lW ((h1.ks aa).atInt ag)<|Yr rfl<|Yr rfl<|Zm<|Zw<|Wr<|Yd rfl<|Yd rfl<|Yd rfl<|lV (.int .u64 (u64.wrap av)) (Zis av ⟨_,underlying79⟩ underlying193 rfl)<|lV _ (Zd4 _ _ rfl rfl)<|lV _ (Qf _ _ rfl rfl)<|Yr rfl<|Zm<|Zw<|Wr<|Yd rfl<|lV (.int .u64 (U0 .u64 (u64.wrap (aj+(u64.wrap ((u64.wrap (ad - 1)) * (u64.wrap av))))) 4294967295)) (Zlm (u64.wrap (aj+(u64.wrap ((u64.wrap (ad - 1)) * (u64.wrap av))))) 4294967295 rfl rfl)<|Yd rfl<|lV _ (Qf _ _ rfl rfl)<|Yr rfl<|Zm<|Zw<|Wr<|Yr rfl<|Zm<|Zw ?_;refine Wp.cutK [0,1,11,13,5,7,87,88,89,9,1000000] (fun f cj=>∃ ck cl,Zhn j0 n0 ad am a3 ai aj (S9 j0 n0 ab ad ce) av cl=some r∧St w0 (Xt [qc0] col) ck cj∧Zc (Za.int .u32) 79 440 ck cj a0 ae am∧[10].map f=[.int .u64 cl]) ?_ ?_
     ·intro f cj hJ;obtain ⟨ck,cl,hm,aa,af,hs⟩:=hJ;rw [Zhn.eq_1] at hm;refine .lL [10] hs<|go ?_;obtain ⟨d4,hm⟩:=Z3 hm;obtain ⟨d5,d6,hm⟩:=bZ hm;refine lV (X2 a0 (Int.toNat ((j0:Int)+(ai:Int)) * 1)) (W0 underlying43 sizeOf79 rfl rfl d4.1 d4.2 (af.addr d6))<|lW (af.atInt d6)<|go ?_;obtain ⟨d7,hm⟩:=Z3 hm;obtain ⟨g0,d8,hm⟩:=bZ hm;refine lV (X2 a0 (Int.toNat ((j0:Int)+(ai:Int)) * 1)) (W0 underlying43 sizeOf79 rfl rfl d7.1 d7.2 (af.addr d8)) ?_;obtain ⟨cn,bo,hm⟩:=bZ hm;have bo:cn=am.set (Int.toNat ((j0:Int)+(ai:Int))) (u32.wrap (d5 - (u32.wrap (u64.wrap ((U0 .u64 (u64.wrap (aj+(u64.wrap ((u64.wrap (ad - 1)) * (u64.wrap av))))) 4294967295)+a3))))):=(Option.some.inj bo).symm;refine Wd (x1:=u32.wrap (d5 - (u32.wrap (u64.wrap ((U0 .u64 (u64.wrap (aj+(u64.wrap ((u64.wrap (ad - 1)) * (u64.wrap av))))) 4294967295)+a3))))) af d8 ?_;intro g1 fz f0 d9;rw [← bo] at d9;have ea:cn.length=ac.length:=(show am.length=cn.length by rw [bo,nS]).symm.trans dj;refine go ?_;refine lV (.int .u64 (Yh .u64 (u64.wrap (aj+(u64.wrap ((u64.wrap (ad - 1)) * (u64.wrap av))))) 32)) (So (u64.wrap (aj+(u64.wrap ((u64.wrap (ad - 1)) * (u64.wrap av))))) 32 rfl rfl (by decide))<|go ?_;replace aa:=aa.kp fz f0;exact ⟨rfl,_,_,_,_,hm,aa,d9,ea,ea,rfl⟩
     refine go ?_;obtain ⟨eb,hm⟩:=Z3 hm;obtain ⟨g2,ec,hm⟩:=bZ hm;refine lV (X2 a0 (Int.toNat ((j0:Int)+(ai:Int)) * 1)) (W0 underlying43 sizeOf79 rfl rfl eb.1 eb.2 (af.addr ec))<|lW (af.atInt ec)<|go ?_;refine Zr hm (fun hb hm=>go ?_) fun hb hm=>?_
     ·exact ⟨rfl,_,1,hm,aa,af,rfl⟩
     refine X8 ?_;exact ⟨rfl,_,0,hm,aa,af,rfl⟩
   refine X8 ?_;exact ⟨a2,by omega,rfl,⟨_,_,_,_,rfl,hm,aa,h0,rfl⟩⟩
  refine Zw ?_;refine Wp.cutK [0,1,5,7,8,1000000] (fun f co=>∃ cp cq,Zdl j0 n0 ac ab ad ap (Sc N j0 n0 ac ab a2) cq=some r∧St w0 (Xt [qc0] col) cp co∧Zc (Za.int .u32) 79 440 cp co a0 ae ac∧[74].map f=[.bool cq]) ?_ ?_
  ·intro f co hJ;obtain ⟨cp,cq,hm,aa,h0,hs⟩:=hJ;rw [Zdl.eq_1] at hm;refine .lL [74] hs ?_;refine Zr hm (fun hb hm=>?_) fun hb hm=>go ?_
   ·refine X8 ?_;exact ⟨rfl,_,hm,aa,h0⟩
   refine Z8 [0,1,5,7,87,88,1000000] (fun n f cr=>∃ cs an a5 ak al bc,n=bc.length∧ab.drop ak=bc∧Vw j0 n0 ab ad bc ak an a5 al=some r∧St w0 (Xt [qc0] col) cs cr∧Zc (Za.int .u32) 79 440 cs cr a0 ae an∧an.length=ac.length∧an.length=ac.length∧[89,10,9].map f=[.int .i64 ak,.int .u64 a5,.int .u64 al]) ab.length ⟨_,_,0,0,0,_,rfl,rfl,hm,aa,h0,rfl,rfl,rfl⟩ ?_;clear hm;intro n f cr hI;obtain ⟨cs,an,a5,ak,al,bc,hn,hl,hm,aa,ah,ed,g3,hs⟩:=hI;subst hn;refine .lL [89,10,9] hs ?_
   cases bc with
   | nil=>
    have hk:¬ ((ak:Int)<(ab.length:Int)):=by have:=List.drop_eq_nil_iff.1 hl;omega
    have hkb:=decide_eq_false hk;rw [Vw.eq_1] at hm;refine go ?_;refine X3 (congrArg Value.bool hkb)<|go ?_;obtain ⟨ee,hm⟩:=Z3 hm;obtain ⟨g4,ef,hm⟩:=bZ hm;refine lV (X2 a0 (Int.toNat ((j0:Int)+(ab.length:Int)) * 1)) (W0 underlying43 sizeOf79 rfl rfl ee.1 ee.2 (ah.addr ef))<|lW (ah.atInt ef)<|go ?_;obtain ⟨eg,hm⟩:=Z3 hm;obtain ⟨eh,ei,hm⟩:=bZ hm;refine lV (X2 a0 (Int.toNat ((j0:Int)+(ab.length:Int)) * 1)) (W0 underlying43 sizeOf79 rfl rfl eg.1 eg.2 (ah.addr ei))<|lW (ah.atInt ei)<|go ?_;obtain ⟨ej,hm⟩:=Z3 hm;obtain ⟨g5,ek,hm⟩:=bZ hm;refine lV (X2 a0 (Int.toNat ((j0:Int)+(ab.length:Int)) * 1)) (W0 underlying43 sizeOf79 rfl rfl ej.1 ej.2 (ah.addr ek)) ?_;obtain ⟨ct,bp,hm⟩:=bZ hm;have bp:ct=an.set (Int.toNat ((j0:Int)+(ab.length:Int))) (u32.wrap (eh - (u32.wrap (u64.wrap (al+a5))))):=(Option.some.inj bp).symm;refine Wd (x1:=u32.wrap (eh - (u32.wrap (u64.wrap (al+a5))))) ah ek ?_;intro g6 f1 f2 cu;rw [← bp] at cu;have cv:ct.length=ac.length:=(show an.length=ct.length by rw [bp,nS]).symm.trans ed;refine Zm<|Zw ?_;replace aa:=aa.kp f1 f2;refine Wp.cutK [1000000] (fun f cw=>∃ cx cy bq,Zaz cy bq=some r∧St w0 (Xt [qc0] col) cx cw∧Zc (Za.int .u32) 79 440 cx cw a0 ae bq∧bq.length=ac.length∧[7].map f=[.int .u64 cy]) ?_ ?_
    ·intro f cw hJ;obtain ⟨cx,cy,bq,hm,aa,f3,f4,hs⟩:=hJ;rw [Zaz.eq_1] at hm;refine .lL [7] hs<|go ?_;cases hm;exact ⟨rfl,_,rfl,aa.finL rfl (cm [(440,qc0)]),aa.foL f3,f4⟩
    refine go ?_;refine Zr hm (fun hb hm=>go ?_) fun hb hm=>?_
    ·refine Z8 [0,143,144,5,7,1000000] (fun n f cz=>∃ c0 aw ax ay bd,n=bd.length∧ab.drop ax=bd∧Tl j0 n0 ab ad bd ax aw ay=some r∧St w0 (Xt [qc0] col) c0 cz∧Zc (Za.int .u32) 79 440 c0 cz a0 ae aw∧aw.length=ac.length∧aw.length=ac.length∧[145,9].map f=[.int .i64 ax,.int .u64 ay]) ab.length ⟨_,_,0,0,_,rfl,rfl,hm,aa,cu,cv,cv,rfl⟩ ?_;clear hm;intro n f cz hI;obtain ⟨c0,aw,ax,ay,bd,hn,hl,hm,aa,a6,f5,f6,hs⟩:=hI;subst hn;refine .lL [145,9] hs ?_
     cases bd with
     | nil=>
      have hk:¬ ((ax:Int)<(ab.length:Int)):=by have:=List.drop_eq_nil_iff.1 hl;omega
      have hkb:=decide_eq_false hk;rw [Tl.eq_1] at hm;refine go ?_;refine X3 (congrArg Value.bool hkb)<|go ?_;obtain ⟨el,hm⟩:=Z3 hm;obtain ⟨em,en,hm⟩:=bZ hm;refine lV (X2 a0 (Int.toNat ((j0:Int)+(ab.length:Int)) * 1)) (W0 underlying43 sizeOf79 rfl rfl el.1 el.2 (a6.addr en))<|lW (a6.atInt en)<|go ?_;obtain ⟨eo,hm⟩:=Z3 hm;obtain ⟨g7,ep,hm⟩:=bZ hm;refine lV (X2 a0 (Int.toNat ((j0:Int)+(ab.length:Int)) * 1)) (W0 underlying43 sizeOf79 rfl rfl eo.1 eo.2 (a6.addr ep)) ?_;obtain ⟨c1,br,hm⟩:=bZ hm;have br:c1=aw.set (Int.toNat ((j0:Int)+(ab.length:Int))) (u32.wrap (em+(u32.wrap ay))):=(Option.some.inj br).symm;refine Wd (x1:=u32.wrap (em+(u32.wrap ay))) a6 ep ?_;intro g8 f7 f8 eq;rw [← br] at eq;have f9:c1.length=ac.length:=(show aw.length=c1.length by rw [br,nS]).symm.trans f6;refine Zm ?_;replace aa:=aa.kp f7 f8;exact ⟨rfl,_,_,_,hm,aa,eq,f9,rfl⟩
     | cons bs ga=>
      obtain ⟨ag,gb,gc⟩:=Yk hl;have hk:(ax:Int)<(ab.length:Int):=by omega
      have hkb:=decide_eq_true hk;rw [Tl.eq_2] at hm;refine go ?_;refine X4 (congrArg Value.bool hkb)<|go ?_;refine lI ag ((h1.ks aa).addr ag)<|lW ((h1.ks aa).atInt ag) ?_;refine go ?_;obtain ⟨er,hm⟩:=Z3 hm;obtain ⟨bt,es,hm⟩:=bZ hm;refine lV (X2 a0 (Int.toNat ((j0:Int)+(ax:Int)) * 1)) (W0 underlying43 sizeOf79 rfl rfl er.1 er.2 (a6.addr es))<|lW (a6.atInt es)<|go ?_;obtain ⟨et,hm⟩:=Z3 hm;obtain ⟨g9,eu,hm⟩:=bZ hm;refine lV (X2 a0 (Int.toNat ((j0:Int)+(ax:Int)) * 1)) (W0 underlying43 sizeOf79 rfl rfl et.1 et.2 (a6.addr eu)) ?_;obtain ⟨c2,bu,hm⟩:=bZ hm;have bu:c2=aw.set (Int.toNat ((j0:Int)+(ax:Int))) (u32.wrap (u64.wrap (ay+(u64.wrap ((u64.wrap bt)+(u64.wrap bs)))))):=(Option.some.inj bu).symm;refine Wd (x1:=u32.wrap (u64.wrap (ay+(u64.wrap ((u64.wrap bt)+(u64.wrap bs)))))) a6 eu ?_;intro ha gd ge ew;rw [← bu] at ew;have ey:c2.length=ac.length:=(show aw.length=c2.length by rw [bu,nS]).symm.trans f5;refine go ?_;refine lV (.int .u64 (Yh .u64 (u64.wrap (ay+(u64.wrap ((u64.wrap bt)+(u64.wrap bs))))) 32)) (So (u64.wrap (ay+(u64.wrap ((u64.wrap bt)+(u64.wrap bs))))) 32 rfl rfl (by decide))<|go ?_;replace aa:=aa.kp gd ge;exact ⟨ga.length,by simp,rfl,⟨_,_,_,_,_,rfl,gb,hm,aa,ew,ey,ey,(Yo (congrArg (Value.int .i64) (Yn (Nat.lt_of_lt_of_le gc (h1.ks aa).1.1))) rfl)⟩⟩
    refine X8 ?_;exact ⟨rfl,_,_,_,hm,aa,cu,cv,rfl⟩
   | cons az c3=>
    obtain ⟨ag,gf,gg⟩:=Yk hl;have hk:(ak:Int)<(ab.length:Int):=by omega
    have hkb:=decide_eq_true hk;rw [Vw.eq_2] at hm;refine go ?_;refine X4 (congrArg Value.bool hkb)<|X8<|Zw ?_;refine Wp.cutK [0,1,5,7,87,88,89,1000000] (fun f c4=>∃ c5 be c6 c7,Zho ak (Vw j0 n0 ab ad c3) be c6 c7=some r∧St w0 (Xt [qc0] col) c5 c4∧Zc (Za.int .u32) 79 440 c5 c4 a0 ae be∧be.length=ac.length∧be.length=ac.length∧[10,9].map f=[.int .u64 c6,.int .u64 c7]) ?_ ?_
    ·intro f c4 hJ;obtain ⟨c5,be,c6,c7,hm,aa,gh,gi,gj,hs⟩:=hJ;rw [Zho.eq_1] at hm;refine .lL [10,9] hs<|go ?_;exact ⟨c3.length,by simp,rfl,⟨_,_,_,_,_,_,rfl,gf,hm,aa,gh,gi,gj,(Yo (congrArg (Value.int .i64) (Yn (Nat.lt_of_lt_of_le gg (h1.ks aa).1.1))) rfl)⟩⟩
    refine go ?_;refine lI ag ((h1.ks aa).addr ag)<|lW ((h1.ks aa).atInt ag)<|Yr rfl<|Yr rfl<|Zm<|Zw<|Wr<|Yd rfl<|Yd rfl<|Yd rfl<|lV (.int .u64 (u64.wrap az)) (Zis az ⟨_,underlying79⟩ underlying193 rfl)<|lV _ (Zd4 _ _ rfl rfl)<|lV _ (Qf _ _ rfl rfl)<|Yr rfl<|Zm<|Zw<|Wr<|Yd rfl<|lV (.int .u64 (U0 .u64 (u64.wrap (al+(u64.wrap (ad * (u64.wrap az))))) 4294967295)) (Zlm (u64.wrap (al+(u64.wrap (ad * (u64.wrap az))))) 4294967295 rfl rfl)<|Yd rfl<|lV _ (Qf _ _ rfl rfl)<|Yr rfl<|Zm<|Zw<|Wr<|Yr rfl<|Zm<|Zw ?_;refine Wp.cutK [0,1,11,13,5,7,87,88,89,9,1000000] (fun f c8=>∃ c9 da,Zdm j0 n0 ad an a5 ak al (Vw j0 n0 ab ad c3) az da=some r∧St w0 (Xt [qc0] col) c9 c8∧Zc (Za.int .u32) 79 440 c9 c8 a0 ae an∧[10].map f=[.int .u64 da]) ?_ ?_
    ·intro f c8 hJ;obtain ⟨c9,da,hm,aa,ah,hs⟩:=hJ;rw [Zdm.eq_1] at hm;refine .lL [10] hs<|go ?_;obtain ⟨ez,hm⟩:=Z3 hm;obtain ⟨e0,e1,hm⟩:=bZ hm;refine lV (X2 a0 (Int.toNat ((j0:Int)+(ak:Int)) * 1)) (W0 underlying43 sizeOf79 rfl rfl ez.1 ez.2 (ah.addr e1))<|lW (ah.atInt e1)<|go ?_;obtain ⟨e2,hm⟩:=Z3 hm;obtain ⟨hc,e3,hm⟩:=bZ hm;refine lV (X2 a0 (Int.toNat ((j0:Int)+(ak:Int)) * 1)) (W0 underlying43 sizeOf79 rfl rfl e2.1 e2.2 (ah.addr e3)) ?_;obtain ⟨db,bv,hm⟩:=bZ hm;have bv:db=an.set (Int.toNat ((j0:Int)+(ak:Int))) (u32.wrap (e0 - (u32.wrap (u64.wrap ((U0 .u64 (u64.wrap (al+(u64.wrap (ad * (u64.wrap az))))) 4294967295)+a5))))):=(Option.some.inj bv).symm;refine Wd (x1:=u32.wrap (e0 - (u32.wrap (u64.wrap ((U0 .u64 (u64.wrap (al+(u64.wrap (ad * (u64.wrap az))))) 4294967295)+a5))))) ah e3 ?_;intro he gk gl e4;rw [← bv] at e4;have e5:db.length=ac.length:=(show an.length=db.length by rw [bv,nS]).symm.trans ed;refine go ?_;refine lV (.int .u64 (Yh .u64 (u64.wrap (al+(u64.wrap (ad * (u64.wrap az))))) 32)) (So (u64.wrap (al+(u64.wrap (ad * (u64.wrap az))))) 32 rfl rfl (by decide))<|go ?_;replace aa:=aa.kp gk gl;exact ⟨rfl,_,_,_,_,hm,aa,e4,e5,e5,rfl⟩
    refine go ?_;obtain ⟨e6,hm⟩:=Z3 hm;obtain ⟨hf,e7,hm⟩:=bZ hm;refine lV (X2 a0 (Int.toNat ((j0:Int)+(ak:Int)) * 1)) (W0 underlying43 sizeOf79 rfl rfl e6.1 e6.2 (ah.addr e7))<|lW (ah.atInt e7)<|go ?_;refine Zr hm (fun hb hm=>go ?_) fun hb hm=>?_
    ·exact ⟨rfl,_,1,hm,aa,ah,rfl⟩
    refine X8 ?_;exact ⟨rfl,_,0,hm,aa,ah,rfl⟩
  refine Tq (col:=ao) (by kernel_rfl) (by kernel_rfl)<|go ?_;refine X1 hm (fun bw hm=>go ?_) fun bw hm=>go ?_
  ·refine V1 54 rfl rfl rfl rfl<|V1 54 rfl rfl rfl rfl<|V1 54 rfl rfl rfl rfl<|V1 54 rfl rfl rfl rfl<|V1 54 rfl rfl rfl rfl<|V1 54 rfl rfl rfl rfl<|V1 54 rfl rfl rfl rfl<|V1 54 rfl rfl rfl rfl<|V1 54 rfl rfl rfl rfl<|V1 54 rfl rfl rfl rfl<|V1 54 rfl rfl rfl rfl<|V1 54 rfl rfl rfl rfl<|V1 54 rfl rfl rfl rfl<|V1 54 rfl rfl rfl rfl<|V1 54 rfl rfl rfl rfl<|V1 54 rfl rfl rfl rfl<|V1 54 rfl rfl rfl rfl<|V1 54 rfl rfl rfl rfl<|go ?_;refine qv (v:=(.bool true)) rfl (fun _ hC=>Xs (congrArg Value.bool bw) rfl) ?_;refine Vh ?_;intro hg hC;replace hC:=hC.bl ao;replace h0:=h0.gr hC;replace aa:=aa.grow hC;exact ⟨rfl,_,_,hm,aa,h0,rfl⟩
  refine X1 hm (fun dc hm=>go ?_) fun dc hm=>go ?_
  ·obtain ⟨e8,dd,hm⟩:=bZ hm;refine qI dd ((h1.ks aa).addr dd) ?_;refine go ?_;refine qW (fun _ hC=>((h1.ks aa).gr (hC.bl ao)).atInt dd) ?_;refine go ?_;refine qv (v:=(.int .u64 (Xy .u64 ap 32))) rfl (fun _ hC=>Zd6 ap 32 rfl rfl (by decide)) ?_;refine go ?_;obtain ⟨e9,hm⟩:=Z3 hm;obtain ⟨fa,fb,hm⟩:=bZ hm;refine qv (v:=(X2 a0 (Int.toNat ((j0:Int)+(i64.wrap ((ab.length:Int) - 2))) * 1))) rfl (fun _ hC=>W0 underlying43 sizeOf79 rfl rfl e9.1 e9.2 (h0.addr fb)) ?_;refine go ?_;refine qW (fun _ hC=>(h0.gr (hC.bl ao)).atInt fb) ?_;refine go ?_;refine qv (v:=(.bool (decide ((Yz .u64 (Xy .u64 ap 32) (u64.wrap fa))<(u64.wrap (ad * (u64.wrap e8))))))) rfl (fun _ hC=>Xs (congrArg Value.bool dc) rfl) ?_;refine qv (v:=(.bool (decide ((Yz .u64 (Xy .u64 ap 32) (u64.wrap fa))<(u64.wrap (ad * (u64.wrap e8))))))) rfl (fun _ hC=>Xl (congrArg Value.bool bw) rfl) ?_;refine Vh ?_;intro hh hC;replace hC:=hC.bl ao;replace h0:=h0.gr hC;replace aa:=aa.grow hC;exact ⟨rfl,_,_,hm,aa,h0,rfl⟩
  refine qv (v:=(.bool false)) rfl (fun _ hC=>Xl (congrArg Value.bool dc) rfl) ?_;refine qv (v:=(.bool false)) rfl (fun _ hC=>Xl (congrArg Value.bool bw) rfl) ?_;refine Vh ?_;intro hi hC;replace hC:=hC.bl ao;replace h0:=h0.gr hC;replace aa:=aa.grow hC;exact ⟨rfl,_,_,hm,aa,h0,rfl⟩
def Zkh (aa:Int) (kk_L2:(List Int→Int→Option Ra)) (ab:List Int):Option Ra:=
  kk_L2 ab (i64.wrap (aa+1))
def Zfp (ab:Int) (ac:List Int) (aa:Int) (kk_L2:(List Int→Int→Option Ra)) (ad:Int):Option Ra:=
  (Zq ac aa).bind fun ae=>Zz (0≤ab) ((some (ac.set (Int.toNat aa) (u32.wrap (Yh .u64 (Yz .u64 (Xy .u64 (u64.wrap ad) 32) (u64.wrap ae)) ab)))).bind fun af=>Zkh aa kk_L2 af)
def Sb (N:Nat) (ac:Int) (ad:List Int) (ae:List Int):Nat→R2→Int→Option Ra
  | 0,_,_=>none
  | af+1,aa,ab=>if (decide (ab<(ae.length:Int)))=true then (if (decide ((i64.wrap (ab+1))<(aa.length:Int)))=true then ((Zq aa (i64.wrap (ab+1))).bind fun ag=>Zfp ac aa ab (Sb N ac ad ae af) ag) else (Zfp ac aa ab (Sb N ac ad ae af) 0)) else ((V9 N ad).bind fun ah=>(V9 N aa).bind fun ai=>some (ah,ai,0))
termination_by structural x=>x
def Zdj (N:Nat) (ae:Int) (ab:List Int):Nat→R2→R2→Int→Option Ra
  | 0,_,_,_=>none
  | ah+1,ac,ad,aa=>if (decide (0≤aa))=true then (Zz ((0:Int)≤aa∧aa<(i64.wrap ((i64.wrap (aa+(ab.length:Int)))+1))∧(i64.wrap ((i64.wrap (aa+(ab.length:Int)))+1))≤(ac.length:Int)) ((Zfr N (Int.toNat aa) ((Int.toNat (i64.wrap ((i64.wrap (aa+(ab.length:Int)))+1))) - (Int.toNat aa)) ac ab).bind fun af=>(Zq ad aa).bind fun aj=>(some (ad.set (Int.toNat aa) af.1)).bind fun ai=>(Zdj N ae ab ah) af.2 ai (i64.wrap (aa - 1)))) else ((Zb6 N ac).bind fun ag=>Sb N ae ad ag N ag 0)
termination_by structural x=>x
def Zdi (N:Nat) (ae:List Int) (af:List Int):Option Ra:=
  (Ui N ae).bind fun ab=>(Ui N af).bind fun aa=>if (decide ((aa.length:Int)=0))=true then (some (([]:List Int),([]:List Int),11)) else ((Zb1 N ab aa).bind fun ag=>if (decide (ag<0))=true then ((V9 N ab).bind fun ah=>some (([]:List Int),ah,0)) else (if (decide ((aa.length:Int)=1))=true then ((Zdy ab).bind fun ai=>(Zq aa 0).bind fun aj=>(Zfv N ai aj).bind fun ad=>(V9 N ad.2).bind fun ak=>(V9 N [ad.1]).bind fun al=>some (ak,al,0)) else ((Zq aa (i64.wrap ((aa.length:Int) - 1))).bind fun am=>(Zhd am).bind fun ac=>(Zfs ab ac).bind fun an=>(Zfs aa ac).bind fun ao=>(Zb6 N ao).bind fun ap=>Zz ((Int.toNat (i64.wrap ((i64.wrap ((ab.length:Int) - (aa.length:Int)))+1))) * 4≤281474976710656∧(Int.toNat (i64.wrap ((i64.wrap ((ab.length:Int) - (aa.length:Int)))+1)))≤maxLen∧0≤(i64.wrap ((i64.wrap ((ab.length:Int) - (aa.length:Int)))+1))) (Zdj N ac ap N an (List.replicate (Int.toNat (i64.wrap ((i64.wrap ((ab.length:Int) - (aa.length:Int)))+1))) (0:Int)) (i64.wrap (((List.replicate (Int.toNat (i64.wrap ((i64.wrap ((ab.length:Int) - (aa.length:Int)))+1))) (0:Int)).length:Int) - 1))))))
theorem Zmf {N bu bv:Nat} {a0 a1:Option Addr} {col:Zd} {w0:World} {be bf:R2} {r:Ra} (c1 c2:Nat) (hm:Zdi N be bf=some r) (h0:Sl (Za.int .u32) col w0 a0 bu be) (h1:Sl (Za.int .u32) col w0 a1 bv bf):
    Calls prog 260 #[.slice a0 be.length bu,.slice a1 bf.length bv] w0 (fun e w'=>∃ (col':Zd) (ra1:Option Addr) (rc2:Nat) (ra4:Option Addr) (rc5:Nat),e= .returned (.tuple #[.slice ra1 r.1.length rc2,.slice ra4 r.2.1.length rc5,.int .i64 r.2.2])∧Zi col w0 col' w'∧Zc (Za.int .u32) 79 c1 col' w' ra1 rc2 r.1∧Zc (Za.int .u32) 79 c2 col' w' ra4 rc5 r.2.1):=by
 refine Zp0 4 5 6 (m:=122) (args:=[.slice a0 be.length bu,.slice a1 bf.length bv]) func260 rfl rfl rfl rfl rfl ?_;rw [Zdi.eq_1] at hm;have aa:=St.start col w0;refine go ?_;obtain ⟨cx,cy,hm⟩:=bZ hm;replace h0:=h0.keep (Zl.start col w0);refine Zh (Tx cy (h0.ks aa)) ?_;rintro _ ea ⟨eb,ec,ed,rfl,cz,af⟩;refine ⟨_,rfl,?_⟩;refine Y0 rfl ?_;obtain ⟨c0,c3,hm⟩:=bZ hm;replace h1:=h1.keep (Zl.start col w0);replace aa:=aa.grow cz;refine Zh (Tx c3 (h1.ks aa)) ?_;rintro _ c4 ⟨ay,ee,ef,rfl,cj,ac⟩;refine ⟨_,rfl,go ?_⟩;replace af:=af.gr cj;replace aa:=aa.grow cj;refine Zr hm (fun hb hm=>go ?_) fun hb hm=>go ?_
 ·cases hm;exact ⟨rfl,_,none,0,none,0,rfl,aa.fin (cm []),Zc.nil,Zc.nil⟩
 obtain ⟨eg,c5,hm⟩:=bZ hm;refine Zh (Zjm c5 af ac) ?_;rintro _ ck ⟨rfl,az⟩;refine ⟨_,rfl,?_⟩;replace az:Zi ay c4 ay ck:=.of_below az;refine go ?_;replace af:=af.gr az;replace ac:=ac.gr az;replace aa:=aa.grow az;refine Zr hm (fun hb hm=>go ?_) fun hb hm=>go ?_
 ·obtain ⟨eh,c6,hm⟩:=bZ hm;refine Zh (Tb 1 c6 af) ?_;rintro _ ei ⟨ej,ek,el,rfl,c7,c8⟩;refine ⟨_,rfl,go ?_⟩;cases hm;replace aa:=aa.grow c7;exact ⟨rfl,_,none,0,_,_,rfl,aa.fin (cm [(1,c2)]),Zc.nil,aa.fo c8⟩
 refine Zr hm (fun hb hm=>go ?_) fun hb hm=>go ?_
 ·obtain ⟨cl,c9,hm⟩:=bZ hm;refine Zh (Zmm 2 c9 af) ?_;rintro _ em ⟨en,bg,bh,rfl,cn,da⟩;refine ⟨_,rfl,go ?_⟩;obtain ⟨eo,bw,hm⟩:=bZ hm;replace ac:=ac.gr cn;refine lI bw (ac.addr bw)<|lW (ac.atInt bw) ?_;obtain ⟨a2,db,hm⟩:=bZ hm;refine Zh (Zpr 2 db rfl da) ?_;rintro _ dc ⟨bx,rfl,dd,de,co⟩;refine ⟨_,rfl,?_⟩;refine .ld (d:=7) (v:=(.slice bg a2.2.length bh)) (congrArg (fun n=>Value.slice bg n bh) (show cl.length=a2.2.length from co.symm)) ?_;refine .ld (d:=34) (v:=(.slice bg a2.2.length bh)) (congrArg (fun n=>Value.slice bg n bh) (show cl.length=a2.2.length from co.symm)) ?_;refine go ?_;obtain ⟨ep,df,hm⟩:=bZ hm;refine Zh (Tb 3 df (de.toSlF (Zg.int .u32))) ?_;rintro _ eq ⟨dg,er,es,rfl,bi,a3⟩;refine ⟨_,rfl,?_⟩;replace a3:=a3.thaw (Z0 .u32) bi ((Fz.refl (col:=bx)).froz 2) (by decide);replace bi:=bi.thawR (col:=bx);generalize Xc dc.heap.size bx dg=dh at *;refine Yd rfl<|Vr (col:=dh) [a2.1] 4 ?_;intro et di bz cp dj;obtain ⟨eu,dk,hm⟩:=bZ hm;refine Zh (Tb 5 dk (dj.toSlF (Zg.int .u32))) ?_;rintro _ ew ⟨dl,ey,ez,rfl,a4,b0⟩;refine ⟨_,rfl,?_⟩;replace b0:=b0.thaw (Z0 .u32) a4 ((Fz.refl (col:=bz)).froz 4) (by decide);replace a4:=a4.thawR (col:=bz);generalize Xc di.heap.size bz dl=e0 at *;refine go ?_;cases hm;replace aa:=((((aa.grow cn).kpp dd).grow bi).grow cp).grow a4;replace a3:=(a3.gr cp).gr a4;exact ⟨rfl,_,_,_,_,_,rfl,aa.fin (cm [(3,c1),(5,c2)]),aa.fo a3,aa.fo b0⟩
 obtain ⟨e1,b1,hm⟩:=bZ hm;refine lI b1 (ac.addr b1)<|lW (ac.atInt b1) ?_;obtain ⟨ah,dm,hm⟩:=bZ hm;refine Zh (Zw6 (col:=ay) dm) ?_;rintro _ dn ⟨rfl,a5⟩;refine ⟨_,rfl,?_⟩;replace a5:Zi ay ck ay dn:=.of_below a5;refine go ?_;obtain ⟨e2,dp,hm⟩:=bZ hm;replace af:=af.gr a5;refine Zh (Zpq 6 dp af) ?_;rintro _ e3 ⟨e4,e5,e6,rfl,cq,a6⟩;refine ⟨_,rfl,go ?_⟩;obtain ⟨e7,dq,hm⟩:=bZ hm;replace ac:=(ac.gr a5).gr cq;refine Zh (Zpq 7 dq ac) ?_;rintro _ e8 ⟨e9,fa,fb,rfl,cr,dr⟩;refine ⟨_,rfl,?_⟩;obtain ⟨b2,ds,hm⟩:=bZ hm;refine Zh (Zmi 7 ds rfl dr) ?_;rintro _ dt ⟨du,dv,dw,rfl,cs,ag⟩;refine ⟨_,rfl,go ?_⟩;obtain ⟨bj,hm⟩:=Z3 hm;refine Qo (col:=du) (w:=dt) (r:=(Za.int .u32)) (n:=(Int.toNat (i64.wrap ((i64.wrap ((cx.length:Int) - (c0.length:Int)))+1)))) (x0:=0) 8 rfl underlying43 Tryz.t79 rfl rfl rfl rfl rfl (congrArg (Value.int _) (Int.toNat_of_nonneg bj.2.2).symm) (congrArg (Value.int _) (Int.toNat_of_nonneg bj.2.2).symm) bj.1 bj.2.1 (V3 .u32 0) ?_;intro fc fd fe b3 b4;refine go ?_;replace a6:=((a6.gr cr).kpp cs).gr b3;replace a6:=a6.froz 7 (by decide);replace ag:=ag.gr b3;replace ag:=(ag).toSlF (Zg.int .u32);replace b4:=b4.froz 7 (by decide);replace aa:=((((aa.grow a5).grow cq).grow cr).kpp cs).grow b3;replace aa:=aa.froz 7 (by decide) (by decide);refine Z8 [11,9,1000000] (fun n f a7=>∃ a8 ap aq a9 aj ak ad al ar,ar=n∧Zdj N ah b2 ar a9 ad al=some r∧St w0 (Zj col) a8 a7∧Zc (Za.int .u32) 79 6 a8 a7 ap aq a9∧Sl (Za.int .u32) a8 a7 dv dw b2∧Zc (Za.int .u32) 79 8 a8 a7 aj ak ad∧[10,12,13].map f=[.slice ap a9.length aq,.slice aj ad.length ak,.int .i64 al]) N ⟨_,_,_,_,_,_,_,_,_,rfl,hm,aa,a6,ag,b4,rfl⟩ ?_;clear hm;intro n f a7 hI;obtain ⟨a8,ap,aq,a9,aj,ak,ad,al,ar,hn,hm,aa,b5,ag,ab,hs⟩:=hI;subst hn;refine .lL [10,12,13] hs ?_
 cases ar with
 | zero=>rw [Zdj.eq_1] at hm;cases hm
 | succ ar=>
  rw [Zdj.eq_2] at hm;refine go ?_;refine Zr hm (fun hb hm=>go ?_) fun hb hm=>go ?_
  ·obtain ⟨b6,hm⟩:=Z3 hm;refine lV (.slice (ap.map (·.add ((Int.toNat al) * 1))) ((Int.toNat (i64.wrap ((i64.wrap (al+(b2.length:Int)))+1))) - (Int.toNat al)) (aq - (Int.toNat al))) (Z16 underlying43 sizeOf79 rfl rfl rfl b6.1 b6.2.1 (by have:=b5.lecap;have:=b6.2.2;omega))<|Y0 rfl ?_;obtain ⟨bk,dx,hm⟩:=bZ hm;refine Zh (Zxh 6 dx rfl b5 ag) ?_;rintro _ ff ⟨fg,rfl,b7,b8,dy⟩;refine ⟨_,rfl,?_⟩;refine .ld (d:=10) (v:=(.slice ap bk.2.length aq)) (congrArg (fun n=>Value.slice ap n aq) (show a9.length=bk.2.length from dy.symm)) ?_;obtain ⟨fh,b9,hm⟩:=bZ hm;replace ab:=ab.kpp b7;refine lI b9 (ab.addr b9) ?_;obtain ⟨ca,bm,hm⟩:=bZ hm;have bm:ca=ad.set (Int.toNat al) bk.1:=(Option.some.inj bm).symm;refine Wd (x1:=bk.1) ab b9 ?_;intro fi cb dz ct;rw [← bm] at ct;refine .ld (d:=12) (v:=(.slice aj ca.length ak)) (congrArg (fun n=>Value.slice aj n ak) (show ad.length=ca.length by rw [bm,nS])) ?_;refine go ?_;replace ag:=(ag.kpp b7).kp cb;replace aa:=(aa.kpp b7).kp cb dz;replace b8:=b8.kp cb;exact ⟨ar,by omega,rfl,⟨_,_,_,_,_,_,_,_,_,rfl,hm,aa,b8,ag,ct,rfl⟩⟩
  obtain ⟨cc,d0,hm⟩:=bZ hm;refine Zh (Zmi 6 d0 rfl b5) ?_;rintro _ fj ⟨fk,fl,fm,rfl,cu,d1⟩;refine ⟨_,rfl,go ?_⟩;replace ab:=ab.kpp cu;replace aa:=aa.kpp cu;refine Z8 [12,88,9,1000000] (fun n f ba=>∃ ao au av am aw an,an=n∧Sb N ah ad cc an am aw=some r∧St w0 (Zj col) ao ba∧Zc (Za.int .u32) 79 6 ao ba au av am∧Zc (Za.int .u32) 79 8 ao ba aj ak ad∧[10,89].map f=[.slice au am.length av,.int .i64 aw]) N ⟨_,_,_,_,0,_,rfl,hm,aa,d1,ab,rfl⟩ ?_;clear hm;intro n f ba hI;obtain ⟨ao,au,av,am,aw,an,hn,hm,aa,ae,ab,hs⟩:=hI;subst hn;refine .lL [10,89] hs ?_
  cases an with
  | zero=>rw [Sb.eq_1] at hm;cases hm
  | succ an=>
   rw [Sb.eq_2] at hm;refine go ?_;refine Zr hm (fun hb hm=>?_) fun hb hm=>go ?_
   ·refine X8<|Zw ?_;refine Wp.cutK [12,88,89,9,1000000] (fun f bn=>∃ bo cd ce bp,Zkh aw (Sb N ah ad cc an) bp=some r∧St w0 (Zj col) bo bn∧Zc (Za.int .u32) 79 6 bo bn cd ce bp∧Zc (Za.int .u32) 79 8 bo bn aj ak ad∧[10].map f=[.slice cd bp.length ce]) ?_ ?_
    ·intro f bn hJ;obtain ⟨bo,cd,ce,bp,hm,aa,d2,ab,hs⟩:=hJ;rw [Zkh.eq_1] at hm;refine .lL [10] hs<|go ?_;exact ⟨an,by omega,rfl,⟨_,_,_,_,_,_,rfl,hm,aa,d2,ab,rfl⟩⟩
    refine Zlz<|Zw<|Wr<|Yd rfl<|Yr rfl<|Zm<|Zw<|Wr<|Yr rfl<|Zm<|Zw ?_;refine Wp.cutK [10,12,14,88,89,9,1000000] (fun f bq=>∃ br ai,Zfp ah am aw (Sb N ah ad cc an) ai=some r∧St w0 (Zj col) br bq∧Zc (Za.int .u32) 79 6 br bq au av am∧Zc (Za.int .u32) 79 8 br bq aj ak ad∧[15].map f=[.int .u32 ai]) ?_ ?_
    ·intro f bq hJ;obtain ⟨br,ai,hm,aa,ae,ab,hs⟩:=hJ;rw [Zfp.eq_1] at hm;refine .lL [15] hs<|go ?_;refine lV (.int .u64 (Xy .u64 (u64.wrap ai) 32)) (Zd6 (u64.wrap ai) 32 rfl rfl (by decide))<|go ?_;obtain ⟨bs,ax,hm⟩:=bZ hm;refine lI ax (ae.addr ax)<|lW (ae.atInt ax) ?_;refine go ?_;obtain ⟨d3,hm⟩:=Z3 hm;refine lV (.int .u64 (Yh .u64 (Yz .u64 (Xy .u64 (u64.wrap ai) 32) (u64.wrap bs)) ah)) (So (Yz .u64 (Xy .u64 (u64.wrap ai) 32) (u64.wrap bs)) ah rfl rfl d3)<|go ?_;refine lI ax (ae.addr ax) ?_;obtain ⟨cf,bt,hm⟩:=bZ hm;have bt:cf=am.set (Int.toNat aw) (u32.wrap (Yh .u64 (Yz .u64 (Xy .u64 (u64.wrap ai) 32) (u64.wrap bs)) ah)):=(Option.some.inj bt).symm;refine Wd (x1:=u32.wrap (Yh .u64 (Yz .u64 (Xy .u64 (u64.wrap ai) 32) (u64.wrap bs)) ah)) ae ax ?_;intro fn cv d4 cw;rw [← bt] at cw;refine .ld (d:=10) (v:=(.slice au cf.length av)) (congrArg (fun n=>Value.slice au n av) (show am.length=cf.length by rw [bt,nS])) ?_;refine Zm ?_;replace ab:=ab.kp cv;replace aa:=aa.kp cv d4;exact ⟨rfl,_,_,_,_,hm,aa,cw,ab,rfl⟩
    refine go ?_;refine Zr hm (fun hb hm=>go ?_) fun hb hm=>?_
    ·obtain ⟨fp,cg,hm⟩:=bZ hm;refine lI cg (ae.addr cg)<|lW (ae.atInt cg) ?_;refine go ?_;exact ⟨rfl,_,_,hm,aa,ae,ab,rfl⟩
    refine X8 ?_;exact ⟨rfl,_,0,hm,aa,ae,ab,rfl⟩
   obtain ⟨fq,d5,hm⟩:=bZ hm;refine Zh (Tb 9 d5 (ab.toSlF (Zg.int .u32))) ?_;rintro _ d6 ⟨d7,fr,ft,rfl,bb,bc⟩;refine ⟨_,rfl,?_⟩;replace bc:=bc.thaw (Z0 .u32) bb ((Fz.refl (col:=ao)).froz 8) (by decide);replace bb:=bb.thawR (col:=ao);generalize Xc ba.heap.size ao d7=ch at *;refine Y0 rfl ?_;obtain ⟨fu,d8,hm⟩:=bZ hm;replace ae:=ae.gr bb;refine Zh (Tb 10 d8 (ae.toSlF (Zg.int .u32))) ?_;rintro _ fv ⟨d9,fw,fx,rfl,bd,ci⟩;refine ⟨_,rfl,?_⟩;replace ci:=ci.thaw (Z0 .u32) bd ((Fz.refl (col:=ch)).froz 6) (by decide);replace bd:=bd.thawR (col:=ch);generalize Xc d6.heap.size ch d9=fy at *;refine go ?_;cases hm;replace aa:=(aa.grow bb).grow bd;replace bc:=bc.gr bd;exact ⟨rfl,_,_,_,_,_,rfl,aa.fin (cm [(9,c1),(10,c2)]),aa.fo bc,aa.fo ci⟩
def Zhh (N:Nat) (ab:List Int):Option Int:=
  (Ui N ab).bind fun aa=>if (decide ((aa.length:Int)=0))=true then (some 0) else ((Zq aa (i64.wrap ((aa.length:Int) - 1))).bind fun ac=>(Zfd ac).bind fun ad=>some (i64.wrap ((i64.wrap (32 * (i64.wrap ((aa.length:Int) - 1))))+ad)))
theorem Zxf {N af:Nat} {a0:Option Addr} {col:Zd} {w0:World} {ab:R2} {r:Int} (hm:Zhh N ab=some r) (h0:Sl (Za.int .u32) col w0 a0 af ab):
    Calls prog 128 #[.slice a0 ab.length af] w0 (fun e w'=>e= .returned ((.int .i64 r))∧Below w0.heap.size w0 w'):=by
 refine Xk 2 (m:=20) func128 rfl rfl rfl rfl rfl ?_;rw [Zhh.eq_1] at hm;have aa:=St.start col w0;refine go ?_;obtain ⟨am,ah,hm⟩:=bZ hm;replace h0:=h0.keep (Zl.start col w0);refine Zh (Tx ah (h0.ks aa)) ?_;rintro _ ai ⟨ac,an,ao,rfl,aj,ag⟩;refine ⟨_,rfl,go ?_⟩;replace aa:=aa.grow aj;refine Zr hm (fun hb hm=>go ?_) fun hb hm=>go ?_
 ·cases hm;exact ⟨rfl,rfl,aa.below⟩
 obtain ⟨ap,ad,hm⟩:=bZ hm;refine lI ad (ag.addr ad)<|lW (ag.atInt ad) ?_;obtain ⟨aq,ak,hm⟩:=bZ hm;refine Zh (Zpm (col:=ac) ak) ?_;rintro _ al ⟨rfl,ae⟩;refine ⟨_,rfl,?_⟩;replace ae:Zi ac ai ac al:=.of_below ae;refine go ?_;cases hm;replace aa:=aa.grow ae;exact ⟨rfl,rfl,aa.below⟩
def Xd (n:Nat):Nat:=if n=0 then 0 else n.log2+1
theorem Zef:Xd 0=0:=rfl
theorem Zpc {n k:Nat} (h:2 ^ k≤n) (h2:n<2 ^ (k+1)):Xd n=k+1:=by
 have h0:n≠0:=by have:=Nat.two_pow_pos k;omega
 rw [Xd,if_neg h0,(Nat.log2_eq_iff h0).2 ⟨h,h2⟩]
theorem Zji {n:Nat} (h:n≠0):∃ k,Xd n=k+1∧2 ^ k≤n∧n<2 ^ (k+1):=by
 refine ⟨n.log2,by rw [Xd,if_neg h],?_⟩
 exact (Nat.log2_eq_iff h).1 rfl
theorem Vo {n k:Nat}:Xd n≤k↔n<2 ^ k:=by
 by_cases h:n=0
 ·subst h;simp [Zef,Nat.two_pow_pos]
 ·obtain ⟨j,e,h1,h2⟩:=Zji h
  rw [e]
  constructor
  ·intro hk;exact Nat.lt_of_lt_of_le h2 (Nat.pow_le_pow_right (by decide) hk)
  ·intro hk
   have:=(Nat.pow_lt_pow_iff_right (a:=2) (by decide)).1 (Nat.lt_of_le_of_lt h1 hk)
   omega
theorem Zgx (n k:Nat):Xd (n / 2 ^ k)=Xd n - k:=by
 by_cases h:n / 2 ^ k=0
 ·have h1:n<2 ^ k:=by
   have:=Nat.two_pow_pos k
   rcases Nat.div_eq_zero_iff.1 h with h | h
   ·omega
   ·exact h
  have:=Vo.2 h1
  rw [h,Zef];omega
 ·obtain ⟨j,e,h1,h2⟩:=Zji h
  have hp:=Nat.two_pow_pos k
  have h3:2 ^ (j+k)≤n:=by
   rw [Nat.pow_add]
   exact (Nat.le_div_iff_mul_le hp).1 h1
  have h4:n<2 ^ (j+k+1):=by
   have:=(Nat.div_lt_iff_lt_mul hp).1 h2
   rw [show j+k+1=(j+1)+k by omega,Nat.pow_add];exact this
  rw [e,Zpc h3 h4];omega
theorem Z0h:∀ x:Fin 256,Zdb (x.val:Int) 0=some ((Xd x.val:Nat):Int):=by decide+kernel
theorem Zr1 {x:Nat} (h:x<256) {n:Int} (hn:0≤n∧n≤24):Zdb (x:Int) n=some (n+(Xd x:Int)):=by
 have h0:=Z0h ⟨x,h⟩
 have hb:Xd x≤8:=Vo.2 h
 rw [Zdb] at h0 ⊢
 revert h0
 generalize Zjb _ _=o
 intro h0
 cases o with
 | none=>cases h0
 | some e=>
  rw [oB] at h0 ⊢
  have h1:=Option.some.inj h0
  rw [IntKind.wrap_i64,IntKind.wrap_i64] at h1 ⊢
  congr 1
  simp only at h1
  omega
theorem Zlu (i:IntKind) (x k:Nat) (hk:k≤i.bits):Yh i (x:Int) (k:Int)=((x / 2 ^ k:Nat):Int):=by
 rw [Yh,Int.toNat_natCast,Nat.min_eq_left hk,Int.fdiv_eq_ediv_of_nonneg _ (Int.le_of_lt (Int.pow_pos (by decide)))]
 norm_cast
theorem Zr0 {x:Nat} (h:x<4294967296):Zfd (x:Int)=some ((Xd x:Nat):Int):=by
 have j1:∀ (y:Nat) (n:Int),y<65536→0≤n∧n≤16→Zfe (y:Int) n=some (n+(Xd y:Int)):=fun y n hy hn=>by
  rw [Zfe]
  by_cases h1:256≤y
  ·have e:=Zlu .u32 y 8 (by decide)
   have hb:=Zgx y 8
   have hb8:8≤Xd y:=by
    have:¬ Xd y≤7:=fun h=>by have:=Vo.1 h;omega
    omega
   rw [if_pos (by simp;omega),show (8:Int)=((8:Nat):Int) from rfl,e,Zr1 (by omega) (by rw [Z2 (by omega)];omega),Z2 (by omega),hb]
   congr 1;omega
  ·rw [if_neg (by simp;omega),Zr1 (by omega) (by omega)]
 rw [Zfd]
 by_cases h1:65536≤x
 ·have e:=Zlu .u32 x 16 (by decide)
  have hb:=Zgx x 16
  have hb8:16≤Xd x:=by
   have:¬ Xd x≤15:=fun h=>by have:=Vo.1 h;omega
   omega
  rw [if_pos (by simp;omega),show (16:Int)=((16:Nat):Int) from rfl,e,j1 _ _ (by omega) (by omega),hb]
  congr 1;omega
 ·rw [if_neg (by simp;omega),j1 _ _ (by omega) (by omega)]
  congr 1;omega
theorem Zpe {a:List Int} {x:Int} (ha:Zn a) (hx:0<x∧x<4294967296):Xd (Zb (a++[x]))=32 * a.length+Xd x.toNat:=by
 obtain ⟨k,e,h1,h2⟩:=Zji (show x.toNat≠0 by omega)
 have hl:=Sh ha
 have e1:Zb (a++[x])=Zb a+4294967296 ^ a.length * x.toNat:=by rw [Sg,Y3,Ym];simp
 have e2:(4294967296:Nat) ^ a.length=2 ^ (32 * a.length):=by rw [show (4294967296:Nat)=2 ^ 32 by decide,← Nat.pow_mul]
 rw [e]
 have:=Zpc (n:=Zb (a++[x])) (k:=32 * a.length+k) (by
   rw [e1,e2,Nat.pow_add]
   have:=Nat.mul_le_mul_left (2 ^ (32 * a.length)) h1
   omega) (by
   rw [e1,show 32 * a.length+k+1=32 * a.length+(k+1) by omega,Nat.pow_add,e2]
   have:=Nat.mul_le_mul_left (2 ^ (32 * a.length)) (show x.toNat+1≤2 ^ (k+1) by omega)
   rw [Nat.mul_add] at this
   rw [e2] at hl
   omega)
 rw [this];omega
theorem Zjg (n:Nat):32 * ((Ze n).length - 1)≤Xd n∧Xd n≤32 * (Ze n).length:=by
 have e:∀ k,(4294967296:Nat) ^ k=2 ^ (32 * k):=fun k=>by rw [show (4294967296:Nat)=2 ^ 32 by decide,← Nat.pow_mul]
 constructor
 ·by_cases h:32 * ((Ze n).length - 1)≤Xd n
  ·exact h
  ·exfalso
   have h1:=Vo.1 (show Xd n≤32 * ((Ze n).length - 1) by omega)
   rw [← e] at h1
   have:=Wq.2 h1
   omega
 ·have:=Wq.1 (Nat.le_refl (Ze n).length)
  rw [e] at this
  exact Vo.2 this
theorem Zwq {N:Nat} {a:List Int} (h:Zn a) (hn:a.length<N) (hb:a.length≤1099511627776):Zhh N a=some ((Xd (Zb a):Nat):Int):=by
 have hl:=Ys h
 rw [Zhh,Sr h hn hb,oB]
 by_cases h0:(Ze (Zb a)).length=0
 ·have:Zb a=0:=Zet.1 (List.eq_nil_of_length_eq_zero h0)
  rw [if_pos (by simp [h0]),this,Zef];rfl
 ·have hp:0<(Ze (Zb a)).length:=by omega
  have e:((Ze (Zb a)).length:Int) - 1=(((Ze (Zb a)).length - 1:Nat):Int):=by omega
  have hx:=(Z9 (Zb a)).get (k:=(Ze (Zb a)).length - 1) (by omega)
  have hne:=Zj8 hp
  have hs:=Zes hp
  have e2:(Ze (Zb a))[(Ze (Zb a)).length - 1]=(((Ze (Zb a))[(Ze (Zb a)).length - 1]).toNat:Int):=by omega
  rw [if_neg (by simpa using h0),Z2 (by omega),e,Xg (by omega),oB,e2,Zr0 (by omega),oB]
  have hb:=Zpe (a:=(Ze (Zb a)).take ((Ze (Zb a)).length - 1)) (x:=(Ze (Zb a))[(Ze (Zb a)).length - 1]) ((Z9 _).take _) (by omega)
  rw [hs,Z4,nK,Nat.min_eq_left (by omega)] at hb
  have hb2:Xd ((Ze (Zb a))[(Ze (Zb a)).length - 1]).toNat≤32:=Vo.2 (by omega)
  rw [Z2 (x:=32 * _) (by omega),Z2 (by omega),hb]
  congr 1
theorem Zeh (w x:Nat) (h:x<2 ^ w):(BitVec.ofInt w (x:Int)).toNat=x:=by
 rw [BitVec.toNat_ofInt]
 have:((2 ^ w:Nat):Int)=(2:Int) ^ w:=by norm_cast
 rw [← Int.natCast_emod,Int.toNat_natCast,Nat.mod_eq_of_lt h]
theorem or64 (k a b:Nat) (h:b<2 ^ k) (hs:2 ^ k * a+b<18446744073709551616):Yz .u64 ((2 ^ k * a:Nat):Int) (b:Int)=((2 ^ k * a+b:Nat):Int):=by
 rw [Yz,BitVec.toNat_or,Zeh _ _ (by simp only [IntKind.bits];omega),Zeh _ _ (by simp only [IntKind.bits];omega),← Nat.two_pow_add_eq_or_of_lt h,IntKind.wrap_u64]
 omega
theorem or32 (k a b:Nat) (h:b<2 ^ k) (hs:2 ^ k * a+b<4294967296):Yz .u32 (b:Int) ((2 ^ k * a:Nat):Int)=((2 ^ k * a+b:Nat):Int):=by
 rw [Yz,BitVec.toNat_or,Zeh _ _ (by simp only [IntKind.bits];omega),Zeh _ _ (by simp only [IntKind.bits];omega),Nat.or_comm,← Nat.two_pow_add_eq_or_of_lt h,IntKind.wrap_u32]
 omega
theorem Z2o {x:Int} (h:0≤x∧x<4294967296):Xy .u64 x 32=x * 4294967296:=by
 have:(min (32:Int).toNat u64.bits)=32:=by decide
 rw [Xy,this,IntKind.wrap_u64]
 omega
theorem Zlx {r e:Int} (hr:0≤r∧r<4294967296) (he:0≤e∧e<4294967296):Yz .u64 (Xy .u64 r 32) e=r * 4294967296+e:=by
 rw [Z2o hr]
 have:=or64 32 r.toNat e.toNat (by omega) (by omega)
 rw [show ((2 ^ 32 * r.toNat:Nat):Int)=r * 4294967296 by omega,show ((e.toNat:Nat):Int)=e by omega] at this
 rw [this];omega
theorem Zcm {l:List Int} {k j:Nat} (v:Int) (h:j≤k):(l.set k v).take j=l.take j:=by
 rw [List.take_set,List.set_eq_of_length_le]
 rw [nK];omega
theorem Zvn (N:Nat) (d:Int) (hd:0<d∧d<4294967296):∀ (n j:Nat) (r:List Int) (c:Int),j≤r.length→j<n→r.length<4611686018427387904→Zn r→0≤c∧c<d→
  ∃ c' r',Zdn N d n r c ((j:Int) - 1)=some (c',r')∧r'.length=r.length∧Zn r'∧0≤c'∧c'<d∧d.toNat * Zb r'+c'.toNat=Zb (r.take j)+4294967296 ^ j * (c.toNat+d.toNat * Zb (r.drop j))
 | 0,j,r,c,_,h,_,_,_=>by omega
 | n+1,j,r,c,hj,hn,hs,hr,hc=>by
  rw [Zdn.eq_2]
  by_cases h0:j=0
  ·subst h0
   rw [if_neg (by decide),V4 (by omega)]
   refine ⟨c,r,rfl,rfl,hr,hc.1,hc.2,?_⟩
   rw [List.take_zero,List.drop_zero,Ym];omega
  ·have e:(j:Int) - 1=((j - 1:Nat):Int):=by omega
   have hk:j - 1<r.length:=by omega
   have g:=hr.get hk
   rw [if_pos (by simp;omega),e,Xg hk,oB,Xo (x:=d) (by omega),Z7 (by omega),oB,Z7 (by omega),Int.toNat_natCast,Xo (x:=r[j - 1]) (by omega),Zlx (by omega) (by omega)]
   generalize hcur:c * 4294967296+r[j - 1]=cur
   have hcd:(c+1) * 4294967296≤d * 4294967296:=by omega
   have hq:0≤cur / d∧cur / d<4294967296:=⟨Int.ediv_nonneg (by omega) (by omega),Int.ediv_lt_of_lt_mul hd.1 (by rw [Int.mul_comm];omega)⟩
   have hm:=Int.emod_nonneg cur (show d≠0 by omega)
   have hm2:=Int.emod_lt_of_pos cur hd.1
   have hdm:=Int.mul_ediv_add_emod cur d
   rw [Int.tdiv_eq_ediv_of_nonneg (by omega),Int.tmod_eq_emod_of_nonneg (by omega),Xo (by omega),V4 hq,Z2 (by omega)]
   obtain ⟨c',r',q1,q2,q3,q4,q5,q6⟩:=Zvn N d hd n (j - 1) (r.set (j - 1) (cur / d)) (cur % d) (by rw [nS];omega) (by omega) (by rw [nS];exact hs) (hr.set _ hq) ⟨hm,hm2⟩
   refine ⟨c',r',q1,by rw [q2,nS],q3,q4,q5,?_⟩
   rw [q6,Zcm _ (Nat.le_refl _)]
   have t1:=Znw hk
   have t2:Zb ((r.set (j - 1) (cur / d)).drop (j - 1))=(cur / d).toNat+4294967296 * Zb (r.drop (j - 1+1)):=by
    rw [Ua (by rw [nS];exact hk),List.getElem_set_self,Zad _ (by omega)]
   rw [show j - 1+1=j by omega] at t1 t2
   rw [t1,t2]
   have hp:(4294967296:Nat) ^ j=4294967296 ^ (j - 1) * 4294967296:=by rw [← Nat.pow_succ,show (j - 1).succ=j by omega]
   rw [hp]
   have hn1:d.toNat * (cur / d).toNat+(cur % d).toNat=c.toNat * 4294967296+(r[j - 1]).toNat:=by
    have:((d.toNat * (cur / d).toNat:Nat):Int)=d * (cur / d):=by rw [Int.natCast_mul,Int.toNat_of_nonneg (by omega),Int.toNat_of_nonneg hq.1]
    omega
   generalize hQ:4294967296 ^ (j - 1)=Q
   have hn2:Q * (d.toNat * (cur / d).toNat+(cur % d).toNat)=Q * (c.toNat * 4294967296+(r[j - 1]).toNat):=by rw [hn1]
   grind
theorem Z2q {N:Nat} {a:List Int} {d:Int} (hd:0<d∧d<4294967296) (ha:Zn a) (hn:a.length<N) (hs:a.length≤1099511627776):
  ∃ q,Zfv N a d=some (((Zb a % d.toNat:Nat):Int),q)∧q.length=a.length∧Zn q∧Zb q=Zb a / d.toNat:=by
 obtain ⟨c',r',q1,q2,q3,q4,q5,q6⟩:=Zvn N d hd N a.length a 0 (Nat.le_refl _) hn (by omega) ha (by omega)
 have hd':0<d.toNat:=by omega
 rw [List.take_length,List.drop_length,Ym] at q6
 have h1:Zb a=c'.toNat+d.toNat * Zb r':=by simp at q6;omega
 have h2:Zb a % d.toNat=c'.toNat:=by rw [h1,Nat.add_mul_mod_self_left,Nat.mod_eq_of_lt (by omega)]
 have h3:Zb a / d.toNat=Zb r':=by rw [h1,Nat.add_mul_div_left _ _ hd',Nat.div_eq_of_lt (by omega),Nat.zero_add]
 refine ⟨r',?_,q2,q3,h3.symm⟩
 rw [Zfv,Z2 (by omega),q1,h2]
 congr 2;omega
theorem Zot {i:IntKind} {x s:Nat} (hs:s<32) (hi:i= .u32∨i= .u64):Xy i (x:Int) (s:Int)=i.wrap ((x * 2 ^ s:Nat):Int):=by
 rw [Xy,Int.toNat_natCast,Nat.min_eq_left (by rcases hi with rfl | rfl <;> simp only [IntKind.bits] <;> omega)]
 norm_cast
theorem Zwf (n:Nat):u32.wrap (n:Int)=((n % 4294967296:Nat):Int):=by rw [IntKind.wrap_u32];omega
theorem Zry (s:Nat) (hs:s<32):∀ (l:List Int) (k:Nat) (out:List Int),Zn l→out.length=k+l.length+1→out.length<4611686018427387904→Zn out→Zb (out.drop (k+1))=0→(∀ h:k<out.length,(out[k]).toNat<2 ^ s)→
  ∃ out',Zb5 (s:Int) l k out=some out'∧out'.length=out.length∧Zn out'∧Zb out'=Zb out+4294967296 ^ k * (2 ^ s * Zb l)∧(∀ h:out'.length - 1<out'.length,(out'[out'.length - 1]).toNat<2 ^ s)
 | [],k,out,_,hl,_,ho,_,hk=>by
  rw [Zb5.eq_1]
  rw [nN] at hl
  refine ⟨out,rfl,rfl,ho,by rw [Ym];omega,fun h=>?_⟩
  have:=hk (by omega)
  simpa [hl] using this
 | x :: l,k,out,hx,hl,hz,ho,hd,hk=>by
  rw [nC] at hl
  have h0:k<out.length:=by omega
  have h1:k+1<out.length:=by omega
  have gx:=hx.head
  have gk:=ho.get h0
  have gs:=hk h0
  have hz1:=drop_zero ho h1 hd
  have e1:i64.wrap ((k:Int)+1)=((k+1:Nat):Int):=by rw [Z2 (by omega)];omega
  have ex:x=(x.toNat:Int):=by omega
  have ek:out[k]=((out[k]).toNat:Int):=by omega
  have pw:(2:Nat) ^ s * 2 ^ (32 - s)=4294967296:=by rw [← Nat.pow_add,show s+(32 - s)=32 by omega]
  have hps:=Nat.two_pow_pos s
  have hp2:=Nat.two_pow_pos (32 - s)
  -- the lower and the upper limb
  have hxs:x.toNat * 2 ^ s<4294967296 * 2 ^ s:=Nat.mul_lt_mul_of_pos_right (by omega) hps
  have hs31:2 ^ s≤2147483648:=by
   have:=Nat.pow_le_pow_right (n:=2) (by decide) (show s≤31 by omega)
   omega
  have hlow:(x.toNat * 2 ^ s) % 4294967296=2 ^ s * (x.toNat % 2 ^ (32 - s)):=by
   rw [← pw,Nat.mul_comm x.toNat,Nat.mul_mod_mul_left]
  have hlo:Yz .u32 out[k] (Xy .u32 x (s:Int))=(((x.toNat * 2 ^ s) % 4294967296+(out[k]).toNat:Nat):Int):=by
   rw [ex,Zot hs (.inl rfl),Zwf,ek]
   simp only [Int.toNat_natCast]
   rw [hlow]
   refine or32 s _ _ gs ?_
   have:2 ^ s * (x.toNat % 2 ^ (32 - s)+1)≤2 ^ s * 2 ^ (32 - s):=Nat.mul_le_mul_left _ (Nat.mod_lt _ hp2)
   rw [pw,Nat.mul_add] at this
   omega
  have hhi:u32.wrap (Yh .u64 (Xy .u64 (u64.wrap x) (s:Int)) 32)=((x.toNat * 2 ^ s / 4294967296:Nat):Int):=by
   rw [Xo (x:=x) (by omega),ex,Zot hs (.inr rfl),Zd8,Xo (by omega)]
   simp only [Int.toNat_natCast]
   rw [V4 (by omega)]
   omega
  have hhs:x.toNat * 2 ^ s / 4294967296<2 ^ s:=(Nat.div_lt_iff_lt_mul (by decide)).2 (by rw [Nat.mul_comm (2 ^ s)];exact hxs)
  have hlow2:(x.toNat * 2 ^ s) % 4294967296+(out[k]).toNat<4294967296:=by
   rw [hlow]
   have:2 ^ s * (x.toNat % 2 ^ (32 - s)+1)≤2 ^ s * 2 ^ (32 - s):=Nat.mul_le_mul_left _ (Nat.mod_lt _ hp2)
   rw [pw,Nat.mul_add] at this
   omega
  rw [Zb5.eq_2,Xg h0,oB,Z7 (by omega),oB,Z7 (by omega),e1,Int.toNat_natCast,Int.toNat_natCast,
   Xg (by rw [nS];exact h1),oB,oB,hlo,hhi]
  generalize hA:(x.toNat * 2 ^ s) % 4294967296+(out[k]).toNat=A at hlow2
  generalize hB:x.toNat * 2 ^ s / 4294967296=B at hhs
  have o1:Zn (out.set k (A:Int)):=ho.set _ (by omega)
  have o2:Zn ((out.set k (A:Int)).set (k+1) (B:Int)):=o1.set _ (by omega)
  obtain ⟨out',q1,q2,q3,q4,q5⟩:=Zry s hs l (k+1) ((out.set k (A:Int)).set (k+1) (B:Int)) hx.tail (by rw [nS,nS];omega) (by rw [nS,nS];exact hz) o2 (by
   rw [Zad _ (by omega),Zad _ (by omega)];exact hz1.2) (fun h=>by rw [List.getElem_set_self];simpa using hhs)
  refine ⟨out',q1,by rw [q2,nS,nS],q3,?_,q5⟩
  have v1:=To h0 (A:Int)
  have v2:=To (l:=out.set k (A:Int)) (k:=k+1) (by rw [nS];exact h1) (B:Int)
  rw [List.getElem_set_ne (by omega),hz1.1] at v2
  rw [Int.toNat_natCast] at v1 v2
  rw [Int.toNat_zero,Nat.mul_zero,Nat.add_zero] at v2
  rw [q4,Y3]
  rw [Nat.pow_succ] at v2 ⊢
  have key:A+4294967296 * B=(out[k]).toNat+x.toNat * 2 ^ s:=by omega
  generalize 4294967296 ^ k=Q at *
  have key2:Q * (A+4294967296 * B)=Q * ((out[k]).toNat+x.toNat * 2 ^ s):=by rw [key]
  grind
theorem Zrz {a:List Int} {s:Nat} (hs:s<32) (ha:Zn a) (hb:a.length<1099511627776):
  ∃ o,Zfs a (s:Int)=some o∧o.length=a.length+1∧Zn o∧Zb o=2 ^ s * Zb a∧∀ h:o.length - 1<o.length,(o[o.length - 1]).toNat<2 ^ s:=by
 rw [Zfs,Z2 (by omega),Z7 (by simp only [maxLen];omega)]
 have e:Int.toNat ((a.length:Int)+1)=a.length+1:=by omega
 rw [e]
 obtain ⟨o,q1,q2,q3,q4,q5⟩:=Zry s hs a 0 (List.replicate (a.length+1) 0) ha (by rw [List.length_replicate];omega) (by rw [List.length_replicate];omega) (.zeros _) (by rw [List.drop_replicate];exact Si _) (fun h=>by
  rw [List.getElem_replicate];exact Nat.two_pow_pos s)
 refine ⟨o,q1,by rw [q2,List.length_replicate],q3,?_,q5⟩
 rw [q4,Si,Nat.pow_zero];omega
theorem Zyw (g:Int) (u:List Int):Zhm g u=Zaz g u:=rfl
theorem Zqn (j0 n0:Nat) (v:List Int) (g:Int):∀ (l:List Int) (k:Nat) (u:List Int) (c:Int),Zb4 j0 n0 v g l k u c=Tl j0 n0 v (u64.wrap (g - 1)) l k u c
 | [],k,u,c=>by rw [Zb4.eq_1,Tl.eq_1];rfl
 | x :: l,k,u,c=>by
  rw [Zb4.eq_2,Tl.eq_2]
  simp only [Zqn j0 n0 v g l]
theorem Zqm (j0 n0:Nat) (v:List Int) (g:Int):∀ (l:List Int) (k:Nat) (u:List Int) (b c:Int),S9 j0 n0 v g l k u b c=Vw j0 n0 v (u64.wrap (g - 1)) l k u b c
 | [],k,u,b,c=>by
  rw [S9.eq_1,Vw.eq_1]
  simp only [Zqn,Zyw]
 | x :: l,k,u,b,c=>by
  rw [S9.eq_2,Vw.eq_2]
  simp only [Zhn,Zdm,Zki,Zho,Zqm j0 n0 v g l]
theorem Zse {x:Int} (h:0≤x∧x<18446744073709551616):U0 .u64 x 4294967295=x % 4294967296:=by
 have e:x=(x.toNat:Int):=by omega
 rw [U0,BitVec.toNat_and,e,Zeh _ _ (by simp only [IntKind.bits];omega),show (4294967295:Int)=((2 ^ 32 - 1:Nat):Int) by decide,Zeh _ _ (by simp only [IntKind.bits];omega),Nat.and_two_pow_sub_one_eq_mod,IntKind.wrap_u64]
 omega
theorem Zwn (S S' S2 Q e v x c c' L T:Nat) (h1:S'+Q * e=S+Q * v) (h2:c+(e+x)=v+4294967296 * c') (h3:S2+T=S'+Q * 4294967296 * (c'+L)):S2+T=S+Q * (c+(x+4294967296 * L)):=by
 have:Q * (c+(e+x))=Q * (v+4294967296 * c'):=by rw [h2]
 grind
theorem Zg2 {l:List Int} {k j:Nat} (v:Int) (h:k<j):(l.set k v).drop j=l.drop j:=Zad v h
theorem Zqp (j0:Nat) (v:List Int) (g:Int):∀ (l:List Int) (k:Nat) (u:List Int) (c:Int),Zn l→k+l.length=v.length→Zn u→j0+v.length<u.length→0≤c∧c≤1→
  ∃ u' co,Tl j0 (v.length+1) v g l k u c=some (u32.wrap (u64.wrap (g - 1)),u')∧u'.length=u.length∧Zn u'∧u'.take j0=u.take j0∧u'.drop (j0+v.length+1)=u.drop (j0+v.length+1)∧Zb u'+co * 4294967296 ^ (j0+v.length+1)=Zb u+4294967296 ^ (j0+k) * (c.toNat+Zb l)
 | [],k,u,c,_,hk,hu,hl,hc=>by
  have hk':k=v.length:=by simpa using hk
  subst hk'
  have g0:=hu.get hl
  rw [Tl.eq_1,Z7 (by omega),show (j0:Int)+(v.length:Int)=((j0+v.length:Nat):Int) by omega,Xg hl,oB,Z7 (by omega),oB,oB,Int.toNat_natCast,Zaz,V4 (x:=c) (by omega)]
  have hw:0≤u32.wrap (u[j0+v.length]+c)∧u32.wrap (u[j0+v.length]+c)<4294967296:=by rw [IntKind.wrap_u32];omega
  refine ⟨_,((u[j0+v.length]+c) / 4294967296).toNat,rfl,by rw [nS],hu.set _ hw,Zcm _ (by omega),Zg2 _ (by omega),?_⟩
  have h1:=To hl (u32.wrap (u[j0+v.length]+c))
  have h2:(u[j0+v.length]).toNat+c.toNat=(u32.wrap (u[j0+v.length]+c)).toNat+4294967296 * ((u[j0+v.length]+c) / 4294967296).toNat:=by rw [IntKind.wrap_u32];omega
  rw [Nat.pow_succ,Ym]
  generalize 4294967296 ^ (j0+v.length)=Q at *
  have h3:Q * ((u[j0+v.length]).toNat+c.toNat)=Q * ((u32.wrap (u[j0+v.length]+c)).toNat+4294967296 * ((u[j0+v.length]+c) / 4294967296).toNat):=by rw [h2]
  grind
 | x :: l,k,u,c,hx,hk,hu,hl,hc=>by
  rw [nC] at hk
  have hjk:j0+k<u.length:=by omega
  have g0:=hu.get hjk
  have gx:=hx.head
  rw [Tl.eq_2,Z7 (by omega),show (j0:Int)+(k:Int)=((j0+k:Nat):Int) by omega,Xg hjk,oB,Z7 (by omega),oB,oB,Int.toNat_natCast,Xo (x:=u[j0+k]) (by omega),Xo (x:=x) (by omega),Xo (x:=u[j0+k]+x) (by omega),Xo (by omega),Zd8]
  generalize hs:c+(u[j0+k]+x)=s
  have hw:0≤u32.wrap s∧u32.wrap s<4294967296:=by rw [IntKind.wrap_u32];omega
  obtain ⟨u',co,q1,q2,q3,q4,q5,q6⟩:=Zqp j0 v g l (k+1) (u.set (j0+k) (u32.wrap s)) (s / 4294967296) hx.tail (by omega) (hu.set _ hw) (by rw [nS];exact hl) (by omega)
  refine ⟨u',co,q1,by rw [q2,nS],q3,by rw [q4,Zcm _ (by omega)],by rw [q5,Zg2 _ (by omega)],?_⟩
  rw [Y3]
  rw [← Nat.add_assoc j0 k 1,Nat.pow_succ] at q6
  exact Zwn _ _ _ _ _ _ _ _ _ _ _ (To hjk _) (by rw [IntKind.wrap_u32];omega) q6
theorem Z1b (S S' S2 Q e w x g b b' c c' t L T:Nat) (h1:S'+Q * e=S+Q * w) (h2:c+g * x=t+4294967296 * c') (h3:e+4294967296 * b'=t+b+w) (h4:S2+Q * 4294967296 * (c'+b'+g * L)=S'+T):S2+Q * (c+b+g * (x+4294967296 * L))=S+T:=by
 have e1:Q * (c+g * x)=Q * (t+4294967296 * c'):=by rw [h2]
 have e2:Q * (e+4294967296 * b')=Q * (t+b+w):=by rw [h3]
 grind
theorem Zqo (j0:Nat) (v:List Int) (g:Int) (hg:0≤g∧g<4294967296):∀ (l:List Int) (k:Nat) (u:List Int) (b c:Int),Zn l→k+l.length=v.length→Zn u→j0+v.length<u.length→0≤b∧b≤1→0≤c∧c<4294967296→
  ∃ u' over,over≤1∧Vw j0 (v.length+1) v g l k u b c=(if over=1 then Tl j0 (v.length+1) v g v 0 u' 0 else Zaz g u')∧u'.length=u.length∧Zn u'∧u'.take j0=u.take j0∧u'.drop (j0+v.length+1)=u.drop (j0+v.length+1)∧
   Zb u'+4294967296 ^ (j0+k) * (c.toNat+b.toNat+g.toNat * Zb l)=Zb u+over * 4294967296 ^ (j0+v.length+1)
 | [],k,u,b,c,_,hk,hu,hl,hb,hc=>by
  have hk':k=v.length:=by simpa using hk
  subst hk'
  have g0:=hu.get hl
  rw [Vw.eq_1,Z7 (by omega),show (j0:Int)+(v.length:Int)=((j0+v.length:Nat):Int) by omega,Xg hl,oB,Z7 (by omega),oB,Z7 (by omega),oB,oB,Int.toNat_natCast,Xo (x:=c+b) (by omega),Xo (x:=u[j0+v.length]) (by omega)]
  have hw:0≤u32.wrap (u[j0+v.length] - u32.wrap (c+b))∧u32.wrap (u[j0+v.length] - u32.wrap (c+b))<4294967296:=by rw [IntKind.wrap_u32];omega
  have h1:=To hl (u32.wrap (u[j0+v.length] - u32.wrap (c+b)))
  have fin:∀ over:Nat,(u[j0+v.length]).toNat+4294967296 * over=c.toNat+b.toNat+(u32.wrap (u[j0+v.length] - u32.wrap (c+b))).toNat→Zb (u.set (j0+v.length) (u32.wrap (u[j0+v.length] - u32.wrap (c+b))))+4294967296 ^ (j0+v.length) * (c.toNat+b.toNat+g.toNat * Zb [])=Zb u+over * 4294967296 ^ (j0+v.length+1):=fun over h2=>by
   rw [Nat.pow_succ,Ym]
   generalize 4294967296 ^ (j0+v.length)=Q at *
   have h3:Q * ((u[j0+v.length]).toNat+4294967296 * over)=Q * (c.toNat+b.toNat+(u32.wrap (u[j0+v.length] - u32.wrap (c+b))).toNat):=by rw [h2]
   grind
  by_cases hlt:u[j0+v.length]<c+b
  ·refine ⟨_,1,Nat.le_refl _,by rw [if_pos (by simpa using hlt),if_pos rfl],by rw [nS],hu.set _ hw,Zcm _ (by omega),Zg2 _ (by omega),fin 1 (by rw [IntKind.wrap_u32,IntKind.wrap_u32];omega)⟩
  ·refine ⟨_,0,by decide,by rw [if_neg (by simpa using hlt),if_neg (by decide)],by rw [nS],hu.set _ hw,Zcm _ (by omega),Zg2 _ (by omega),fin 0 (by rw [IntKind.wrap_u32,IntKind.wrap_u32];omega)⟩
 | x :: l,k,u,b,c,hx,hk,hu,hl,hb,hc=>by
  rw [nC] at hk
  have hjk:j0+k<u.length:=by omega
  have g0:=hu.get hjk
  have gx:=hx.head
  have hm:g * x≤4294967295 * 4294967295:=Int.mul_le_mul (by omega) (by omega) (by omega) (by omega)
  have hm0:0≤g * x:=Int.mul_nonneg hg.1 gx.1
  have hgx:((g.toNat * x.toNat:Nat):Int)=g * x:=by rw [Int.natCast_mul,Int.toNat_of_nonneg hg.1,Int.toNat_of_nonneg gx.1]
  rw [Vw.eq_2,Z7 (by omega),show (j0:Int)+(k:Int)=((j0+k:Nat):Int) by omega,Xg hjk,oB,Xo (x:=u[j0+k]) (by omega),Xo (x:=x) (by omega),Xo (x:=g * x) (by omega),Xo (x:=c+g * x) (by omega),Zse (by omega)]
  generalize ht0:c+g * x=t0
  rw [Xo (x:=t0 % 4294967296+b) (by omega)]
  have fin:∀ b':Int,0≤b'∧b'≤1→u[j0+k]+4294967296 * b'=t0 % 4294967296+b+u32.wrap (u[j0+k] - u32.wrap (t0 % 4294967296+b))→
    ∃ u' over,over≤1∧Zdm j0 (v.length+1) g u b k c (Vw j0 (v.length+1) v g l) x b'=(if over=1 then Tl j0 (v.length+1) v g v 0 u' 0 else Zaz g u')∧u'.length=u.length∧Zn u'∧u'.take j0=u.take j0∧u'.drop (j0+v.length+1)=u.drop (j0+v.length+1)∧
     Zb u'+4294967296 ^ (j0+k) * (c.toNat+b.toNat+g.toNat * Zb (x :: l))=Zb u+over * 4294967296 ^ (j0+v.length+1):=fun b' hb' h3=>by
   have hw:0≤u32.wrap (u[j0+k] - u32.wrap (t0 % 4294967296+b))∧u32.wrap (u[j0+k] - u32.wrap (t0 % 4294967296+b))<4294967296:=by rw [IntKind.wrap_u32];omega
   obtain ⟨u',over,q0,q1,q2,q3,q4,q5,q6⟩:=Zqo j0 v g hg l (k+1) (u.set (j0+k) (u32.wrap (u[j0+k] - u32.wrap (t0 % 4294967296+b)))) b' (t0 / 4294967296) hx.tail (by omega) (hu.set _ hw) (by rw [nS];exact hl) hb' (by omega)
   refine ⟨u',over,q0,?_,by rw [q2,nS],q3,by rw [q4,Zcm _ (by omega)],by rw [q5,Zg2 _ (by omega)],?_⟩
   ·rw [Zdm,Z7 (by omega),show (j0:Int)+(k:Int)=((j0+k:Nat):Int) by omega,Xg hjk,oB,Z7 (by omega),oB,oB,Int.toNat_natCast,Xo (x:=x) (by omega),Xo (x:=g * x) (by omega),Xo (x:=c+g * x) (by omega),Zse (by omega),ht0,Xo (x:=t0 % 4294967296+b) (by omega),Zd8,Zho]
    exact q1
   ·rw [Y3]
    rw [← Nat.add_assoc j0 k 1,Nat.pow_succ] at q6
    exact Z1b _ _ _ _ _ _ _ _ _ _ _ _ (t0 % 4294967296).toNat _ _ (To hjk _) (by omega) (by omega) q6
  by_cases hlt:u[j0+k]<t0 % 4294967296+b
  ·rw [if_pos (by simpa using hlt)]
   exact fin 1 (by omega) (by rw [IntKind.wrap_u32,IntKind.wrap_u32];omega)
  ·rw [if_neg (by simpa using hlt)]
   exact fin 0 (by omega) (by rw [IntKind.wrap_u32,IntKind.wrap_u32];omega)
structure Zgu (U V E v1 v2 u2 top lU lV:Nat):Prop where
 hU:U=lU+E * (u2+4294967296 * top)
 hV:V=lV+E * (v2+4294967296 * v1)
 lu:lU<E
 lv:lV<E
 b2:u2<4294967296
 c2:v2<4294967296
 c1:v1<4294967296
 big:2147483648≤v1
 lt:U<4294967296 * V
namespace Zgu
variable {U V E v1 v2 u2 top lU lV:Nat} (t:Zgu U V E v1 v2 u2 top lU lV)
include t
theorem Vpos:0<V:=by
 have:=t.lt
 have:=t.lu
 omega
theorem uE:U<E * 4294967296 * (top+1):=by
 have h1:E * (u2+1)≤E * 4294967296:=Nat.mul_le_mul_left _ t.b2
 have h2:=t.hU;have:=t.lu
 have e:E * (u2+4294967296 * top)=E * u2+E * 4294967296 * top:=by grind
 rw [e] at h2
 rw [Nat.mul_add] at h1 ⊢
 omega
theorem Eu:E * 4294967296 * top≤U:=by
 have h2:=t.hU
 have e:E * (u2+4294967296 * top)=E * u2+E * 4294967296 * top:=by grind
 omega
theorem vE:V<E * 4294967296 * (v1+1):=by
 have h1:E * (v2+1)≤E * 4294967296:=Nat.mul_le_mul_left _ t.c2
 have h2:=t.hV;have:=t.lv
 have e:E * (v2+4294967296 * v1)=E * v2+E * 4294967296 * v1:=by grind
 rw [Nat.mul_add] at h1 ⊢
 omega
theorem Ev:E * 4294967296 * v1≤V:=by
 have h2:=t.hV
 have e:E * (v2+4294967296 * v1)=E * v2+E * 4294967296 * v1:=by grind
 omega
theorem Epos:0<E:=by have:=t.lu;omega
theorem first:U / V≤top / v1:=by
 have hv:0<v1:=by have:=t.big;omega
 rw [Nat.le_div_iff_mul_le hv]
 have h1:U / V * V≤U:=Nat.div_mul_le_self U V
 have h2:U / V * (E * 4294967296 * v1)≤U / V * V:=Nat.mul_le_mul_left _ t.Ev
 have h3:E * 4294967296 * (U / V * v1)<E * 4294967296 * (top+1):=by
  have e:E * 4294967296 * (U / V * v1)=U / V * (E * 4294967296 * v1):=by
   generalize U / V=q
   grind
  rw [e]
  have:=t.uE
  omega
 have:=Nat.lt_of_mul_lt_mul_left h3
 omega
theorem quo:U / V<4294967296:=(Nat.div_lt_iff_lt_mul t.Vpos).2 t.lt
theorem great {g r:Nat} (h:g * v1+r=top) (h2:r * 4294967296+u2<g * v2):U / V<g:=by
 rw [Nat.div_lt_iff_lt_mul t.Vpos]
 have h3:u2+4294967296 * top+1≤g * (v2+4294967296 * v1):=by
  have:4294967296 * (g * v1+r)=4294967296 * top:=by rw [h]
  have e:g * (v2+4294967296 * v1)=g * v2+4294967296 * (g * v1):=by grind
  rw [e];omega
 have h4:=Nat.mul_le_mul_left E h3
 have h5:E * (g * (v2+4294967296 * v1))≤g * V:=by
  have:=t.hV
  have e:g * V=g * lV+E * (g * (v2+4294967296 * v1)):=by rw [this];grind
  omega
 have:=t.hU;have:=t.lu
 rw [Nat.mul_add] at h4
 omega
theorem fine {g r:Nat} (hg:g<4294967296) (h:g * v1+r=top) (h2:g * v2≤r * 4294967296+u2):g * V<U+V:=by
 have h3:g * (v2+4294967296 * v1)≤u2+4294967296 * top:=by
  have:4294967296 * (g * v1+r)=4294967296 * top:=by rw [h]
  have e:g * (v2+4294967296 * v1)=g * v2+4294967296 * (g * v1):=by grind
  rw [e];omega
 have h4:=Nat.mul_le_mul_left E h3
 have e:g * V=g * lV+E * (g * (v2+4294967296 * v1)):=by rw [t.hV];grind
 have h5:g * lV≤4294967295 * E:=Nat.mul_le_mul (by omega) (by have:=t.lv;omega)
 have h6:E * 4294967296 * 1≤E * 4294967296 * v1:=Nat.mul_le_mul_left _ (by have:=t.big;omega)
 have:=t.Ev;have:=t.hU;have:=t.Epos
 omega
theorem topv:top / 4294967296≤v1:=by
 have h1:=t.Eu
 have h2:=t.lt
 have h3:=t.vE
 have h4:E * 4294967296 * top<E * 4294967296 * (4294967296 * (v1+1)):=by
  have:E * 4294967296 * (4294967296 * (v1+1))=4294967296 * (E * 4294967296 * (v1+1)):=by grind
  omega
 have:=Nat.lt_of_mul_lt_mul_left h4
 omega
theorem over {g r:Nat} (h:g * v1+r=top) (hr:4294967296≤r):g<4294967296:=by
 have h1:=t.topv
 have h2:g * v1<4294967296 * v1:=by omega
 exact Nat.lt_of_mul_lt_mul_right h2
theorem stop {g r:Nat} (h:g * v1+r=top) (hr:4294967296≤r):g * V<U+V:=by
 have hg:=t.over h hr
 have h1:=t.vE
 have h2:g * V≤g * (E * 4294967296 * (v1+1)):=Nat.mul_le_mul_left _ (Nat.le_of_lt h1)
 have e:g * (E * 4294967296 * (v1+1))=E * 4294967296 * (g * v1+g):=by grind
 have h3:E * 4294967296 * (g * v1+g)≤E * 4294967296 * top:=Nat.mul_le_mul_left _ (by omega)
 have:=t.Eu;have:=t.Vpos
 omega
end Zgu
def Zo7 (X:Option R6) (R:Nat→Option R6) (q U V:Nat):Prop:=∃ g:Nat,X=R g∧q≤g∧g<4294967296∧g * V<U+V
theorem Zql (N j0:Nat) (u v:List Int) (hu:Zn u) (hv:Zn v) (hn:2≤v.length) (hl:j0+v.length<u.length) (hs:v.length<4611686018427387904) {U V E lU lV top q:Nat} (hq:U / V=q)
  (t:Zgu U V E (v[v.length - 1]).toNat (v[v.length - 2]).toNat (u[j0+v.length - 2]).toNat top lU lV) (htop:top<18446744073709551616):
  ∀ (n g r:Nat),g * (v[v.length - 1]).toNat+r=top→q≤g→r<4294967296→4294967296≤r+2147483648 * n→
  Zo7 (Sc N j0 (v.length+1) u v n (g:Int) (r:Int)) (fun g'=>Vw j0 (v.length+1) v (g':Int) v 0 u 0 0) q U V
 | 0,g,r,_,_,h3,h4=>by omega
 | n+1,g,r,h1,h2,h3,h4=>by
  have i1:v.length - 1<v.length:=by omega
  have i2:v.length - 2<v.length:=by omega
  have i3:j0+v.length - 2<u.length:=by omega
  have c1:=hv.get i1
  have c2:=hv.get i2
  have c3:=hu.get i3
  have hbig:=t.big
  have hgb:g≤top:=by
   have:g * 1≤g * (v[v.length - 1]).toNat:=Nat.mul_le_mul_left _ (by omega)
   omega
  -- one less
  have less:q<g→Zo7 (Zhl j0 (v.length+1) u v (g:Int) (r:Int) (Sc N j0 (v.length+1) u v n)) (fun g'=>Vw j0 (v.length+1) v (g':Int) v 0 u 0 0) q U V:=fun hlt=>by
   have hg1:(g - 1) * (v[v.length - 1]).toNat+(r+(v[v.length - 1]).toNat)=top:=by
    have:(g - 1+1) * (v[v.length - 1]).toNat+r=top:=by rw [show g - 1+1=g by omega];exact h1
    rw [Nat.add_mul] at this
    omega
   have ew:u64.wrap ((g:Int) - 1)=((g - 1:Nat):Int):=by rw [Xo (by omega)];omega
   have er:u64.wrap ((r:Int)+u64.wrap v[v.length - 1])=((r+(v[v.length - 1]).toNat:Nat):Int):=by rw [Xo (x:=v[v.length - 1]) (by omega),Xo (by omega)];omega
   rw [Zhl,Z2 (by omega),show (v.length:Int) - 1=((v.length - 1:Nat):Int) by omega,Xg i1,oB,er,ew]
   by_cases hb:4294967296≤r+(v[v.length - 1]).toNat
   ·rw [if_pos (dT (by omega)),Zqm,ew]
    exact ⟨g - 1,rfl,by omega,t.over hg1 hb,t.stop hg1 hb⟩
   ·rw [if_neg (dF (by omega))]
    exact Zql N j0 u v hu hv hn hl hs hq t htop n (g - 1) (r+(v[v.length - 1]).toNat) hg1 (by omega) (by omega) (by omega)
  have hquo:=t.quo
  rw [hq] at hquo
  rw [Sc.eq_2]
  by_cases hgb2:4294967295<g
  ·rw [if_pos (dT (by omega)),Zdl,if_pos rfl]
   exact less (by omega)
  ·have hm:g * (v[v.length - 2]).toNat≤4294967295 * 4294967295:=Nat.mul_le_mul (by omega) (by omega)
   have em:(g:Int) * v[v.length - 2]=((g * (v[v.length - 2]).toNat:Nat):Int):=by
    rw [Int.natCast_mul];congr 1;omega
   rw [if_neg (dF (by omega)),if_pos (dT (by omega)),Z2 (by omega),show (v.length:Int) - 2=((v.length - 2:Nat):Int) by omega,Xg i2,oB,Z7 (by omega),show (j0:Int)+((v.length - 2:Nat):Int)=((j0+v.length - 2:Nat):Int) by omega,Xg i3,oB,Zdl,
    Xo (x:=u[j0+v.length - 2]) (by omega),Zlx (by omega) (by omega),Xo (x:=v[v.length - 2]) (by omega),em,Xo (by omega)]
   by_cases hc:r * 4294967296+(u[j0+v.length - 2]).toNat<g * (v[v.length - 2]).toNat
   ·rw [if_pos (dT (by omega))]
    exact less (by rw [← hq];exact t.great h1 hc)
   ·rw [if_neg (dF (by omega))]
    exact ⟨g,rfl,h2,by omega,t.fine (by omega) h1 (by omega)⟩
theorem Zmz {u w:List Int} {j0 n P:Nat} (hP:4294967296 ^ (n+1)=P) (hl:j0+n<u.length) (hz:Zb (u.drop (j0+n+1))=0) (h1:w.length=u.length) (h2:Zn w) (h3:w.drop (j0+n+1)=u.drop (j0+n+1)):Zb (w.drop j0)<P:=by
 have:=Sh ((h2.drop j0).take (n+1))
 rw [nK,List.length_drop,Nat.min_eq_left (by omega),hP] at this
 have e:=Ut (w.drop j0) (n+1)
 rw [hP,List.drop_drop,← Nat.add_assoc,h3,hz] at e
 omega
theorem Zqq {u w:List Int} {j0 n P Q x y:Nat} (hP:4294967296 ^ (n+1)=P) (hQ:4294967296 ^ j0=Q) (h4:w.take j0=u.take j0) (h:Zb w+Q * x=Zb u+y * 4294967296 ^ (j0+n+1)):Zb (w.drop j0)+x=Zb (u.drop j0)+y * P:=by
 have pw:(4294967296:Nat) ^ (j0+n+1)=Q * P:=by rw [← hQ,← hP,← Nat.pow_add,Nat.add_assoc]
 have hp:0<Q:=by rw [← hQ];exact Nat.pow_pos (by decide)
 have s0:=Ut u j0
 have s1:=Ut w j0
 rw [h4] at s1
 rw [hQ] at s0 s1
 rw [pw,s0,s1] at h
 clear pw hP hQ s0 s1 h4
 refine Nat.eq_of_mul_eq_mul_left hp ?_
 grind
theorem Zyx {U V P q g over P1:Nat} (hq:U / V=q) (hV:0<V) (hg1:q≤g) (hg3:g * V<U+V) (k1:P1+g * V=U+over * P) (p1:P1<P):
  (over=0→g=q∧P1=U % V)∧(over=1→g=q+1∧∀ P2 co,V<P→P2<P→P2+co * P=P1+V→P2=U % V):=by
 have hq0:V * q+U % V=U:=by rw [← hq];exact Nat.div_add_mod _ _
 have hq1:=Nat.mod_lt U hV
 have hmono:∀ x y:Nat,x<y→x * V+V≤y * V:=fun x y hxy=>by
  have:=Nat.mul_le_mul_right V (show x+1≤y from hxy)
  rw [Nat.add_mul,Nat.one_mul] at this;exact this
 rw [Nat.mul_comm] at hq0
 constructor
 ·intro ho
  subst ho
  have hgq:g=q:=by
   have a2:¬ q<g:=fun h=>by
    have:=hmono _ _ h
    omega
   omega
  subst hgq
  exact ⟨rfl,by omega⟩
 ·intro ho
  subst ho
  have hgq:g=q+1:=by
   have a1:¬ g≤q:=fun h=>by
    have:=Nat.mul_le_mul_right V h
    omega
   have a2:¬ q+1<g:=fun h=>by
    have:=hmono _ _ h
    rw [Nat.add_mul,Nat.one_mul] at this
    omega
   omega
  refine ⟨hgq,fun P2 co hvP p2 k2=>?_⟩
  have hgv:g * V=q * V+V:=by rw [hgq,Nat.add_mul,Nat.one_mul]
  have hco:co=1:=by
   rcases Nat.lt_trichotomy co 1 with h | h | h
   ·have:co=0:=by omega
    subst this;omega
   ·exact h
   ·have:=Nat.mul_le_mul_right P (show 2≤co from h)
    omega
  subst hco
  omega
theorem Zyy {N j0:Nat} {u v:List Int} (hN:2≤N) (hu:Zn u) (hv:Zn v) (hn:2≤v.length) (hl:j0+v.length<u.length) (hs:u.length<4611686018427387904)
  (hz:Zb (u.drop (j0+v.length+1))=0) (hbig:2147483648≤(v[v.length - 1]).toNat) (hlt:Zb (u.drop j0)<4294967296 * Zb v):
  ∃ u',Zfr N j0 (v.length+1) u v=some (((Zb (u.drop j0) / Zb v:Nat):Int),u')∧u'.length=u.length∧Zn u'∧u'.take j0=u.take j0∧Zb (u'.drop j0)=Zb (u.drop j0) % Zb v∧Zb (u.drop j0) / Zb v<4294967296:=by
 have i1:v.length - 1<v.length:=by omega
 have i2:v.length - 2<v.length:=by omega
 have i3:j0+v.length - 2<u.length:=by omega
 have i4:j0+v.length - 1<u.length:=by omega
 have c1:=hv.get i1
 have c2:=hv.get i2
 have c3:=hu.get i3
 have c4:=hu.get i4
 have c5:=hu.get hl
 -- the Ze above
 have dV:Zb v=Zb (v.take (v.length - 2))+4294967296 ^ (v.length - 2) * ((v[v.length - 2]).toNat+4294967296 * (v[v.length - 1]).toNat):=by
  rw [Ut v (v.length - 2),Ua i2,show v.length - 2+1=v.length - 1 by omega,Ua i1,show v.length - 1+1=v.length by omega,List.drop_length,Ym];simp
 have dU:Zb (u.drop j0)=Zb ((u.drop j0).take (v.length - 2))+4294967296 ^ (v.length - 2) * ((u[j0+v.length - 2]).toNat+4294967296 * ((u[j0+v.length]).toNat * 4294967296+(u[j0+v.length - 1]).toNat)):=by
  have e3:j0+(v.length - 2)=j0+v.length - 2:=by omega
  rw [Ut (u.drop j0) (v.length - 2),List.drop_drop,e3,Ua i3,show j0+v.length - 2+1=j0+v.length - 1 by omega,Ua i4,show j0+v.length - 1+1=j0+v.length by omega,Ua hl,hz]
  congr 3
  omega
 have lV:=Sh (hv.take (v.length - 2))
 have lU:=Sh ((hu.drop j0).take (v.length - 2))
 rw [nK,Nat.min_eq_left (by omega)] at lV
 rw [nK,List.length_drop,Nat.min_eq_left (by omega)] at lU
 have t:Zgu (Zb (u.drop j0)) (Zb v) (4294967296 ^ (v.length - 2)) (v[v.length - 1]).toNat (v[v.length - 2]).toNat (u[j0+v.length - 2]).toNat ((u[j0+v.length]).toNat * 4294967296+(u[j0+v.length - 1]).toNat) _ _:=
  ⟨dU,dV,lU,lV,by omega,by omega,by omega,hbig,hlt⟩
 have hV:=t.Vpos
 have htop:(u[j0+v.length]).toNat * 4294967296+(u[j0+v.length - 1]).toNat<18446744073709551616:=by omega
 obtain ⟨q,hq⟩:∃ q,Zb (u.drop j0) / Zb v=q:=⟨_,rfl⟩
 obtain ⟨g,hg0,hg1,hg2,hg3⟩:=Zql N j0 u v hu hv hn hl (by omega) hq t htop N _ _ (Nat.div_add_mod' _ _) (by rw [← hq];exact t.first) (Nat.lt_of_lt_of_le (Nat.mod_lt _ (by omega)) (by omega)) (by omega)
 have e0:Zfr N j0 (v.length+1) u v=Vw j0 (v.length+1) v (g:Int) v 0 u 0 0:=by
  refine Eq.trans ?_ hg0
  rw [Zfr,Z7 (by omega),show (j0:Int)+(v.length:Int)=((j0+v.length:Nat):Int) by omega,Xg hl,oB,Z2 (by omega),show (v.length:Int) - 1=((v.length - 1:Nat):Int) by omega,Z7 (by omega),
   show (j0:Int)+((v.length - 1:Nat):Int)=((j0+v.length - 1:Nat):Int) by omega,Xg i4,oB,Xg i1,oB,Xo (x:=v[v.length - 1]) (by omega),Z7 (by omega),Z7 (by omega),Xo (x:=u[j0+v.length]) (by omega),Xo (x:=u[j0+v.length - 1]) (by omega),Zlx (by omega) (by omega)]
  have ev:v[v.length - 1]=((v[v.length - 1]).toNat:Int):=by omega
  have et:u[j0+v.length] * 4294967296+u[j0+v.length - 1]=(((u[j0+v.length]).toNat * 4294967296+(u[j0+v.length - 1]).toNat:Nat):Int):=by omega
  rw [et,ev,Int.tdiv_eq_ediv_of_nonneg (by omega),Int.tmod_eq_emod_of_nonneg (by omega),← Int.natCast_ediv,← Int.natCast_emod,Int.toNat_natCast]
  rw [Xo ⟨Int.natCast_nonneg _,Int.ofNat_lt.2 (Nat.lt_of_le_of_lt (Nat.div_le_self _ _) htop)⟩]
 obtain ⟨u1,over,q0,q1,q2,q3,q4,q5,q6⟩:=Zqo j0 v (g:Int) (by omega) v 0 u 0 0 hv (by omega) hu hl (by omega) (by omega)
 have hquo:=t.quo
 rw [hq] at hquo ⊢
 rw [e0,q1]
 obtain ⟨P,hP⟩:∃ P:Nat,4294967296 ^ (v.length+1)=P:=⟨_,rfl⟩
 obtain ⟨Q,hQ⟩:∃ Q:Nat,4294967296 ^ j0=Q:=⟨_,rfl⟩
 simp only [Nat.add_zero,Int.toNat_zero,Int.toNat_natCast,Nat.zero_add] at q6
 rw [hQ] at q6
 have k1:=Zqq hP hQ q4 q6
 have p1:=Zmz hP hl hz q2 q3 q5
 have hvP:Zb v<P:=by
  have:=Sh hv
  have h2:=Zmz (u:=v++[0]) (w:=v++[0]) (j0:=0) (n:=v.length) hP (by simp) (by simp [Zb]) rfl (hv.app (.cons (by decide) .nil)) rfl
  rw [List.drop_zero,Zsz] at h2
  exact h2
 have k3:=Zyx hq hV hg1 hg3 k1 p1
 by_cases ho:over=1
 ·obtain ⟨e1,e2⟩:=k3.2 ho
  subst ho
  rw [if_pos rfl]
  obtain ⟨u2,co,r1,r2,r3,r4,r5,r6⟩:=Zqp j0 v (g:Int) v 0 u1 0 hv (by omega) q3 (by omega) (by omega)
  have p2:=Zmz hP hl hz (by omega) r3 (by rw [r5,q5])
  simp only [Nat.add_zero,Int.toNat_zero,Nat.zero_add] at r6
  rw [hQ] at r6
  have k2:=Zqq (u:=u2) (w:=u1) (x:=Zb v) (y:=co) hP hQ (by rw [r4]) r6.symm
  refine ⟨u2,?_,by omega,r3,by rw [r4,q4],e2 _ co hvP p2 k2.symm,hquo⟩
  rw [r1,Xo (by omega),V4 (by omega)]
  congr 2;omega
 ·obtain ⟨e1,e2⟩:=k3.1 (by omega)
  rw [if_neg ho,Zaz,V4 (by omega)]
  exact ⟨u1,by rw [e1],q2,q3,q4,e2,hquo⟩
def Zb2 (N:Nat):Nat→R2→R2→Option R2
  | 0,_,_=>none
  | ac+1,ab,aa=>if (decide (0<(aa.length:Int)))=true then ((Zdi N ab aa).bind fun ad=>(Zb2 N ac) aa ad.2.1) else (some ab)
termination_by structural x=>x
def Zhi (N:Nat) (aa:List Int) (ab:List Int):Option R2:=
  (V9 N aa).bind fun ac=>(V9 N ab).bind fun ad=>Zb2 N N ac ad
theorem Zxg {N ar au:Nat} {a0 a1:Option Addr} {col:Zd} {w0:World} {ak al r:R2} (c1:Nat) (hm:Zhi N ak al=some r) (h0:Sl (Za.int .u32) col w0 a0 ar ak) (h1:Sl (Za.int .u32) col w0 a1 au al):
    Calls prog 259 #[.slice a0 ak.length ar,.slice a1 al.length au] w0 (fun e w'=>∃ (col':Zd) (ra1:Option Addr) (rc2:Nat),e= .returned ((.slice ra1 r.length rc2))∧Zi col w0 col' w'∧Zc (Za.int .u32) 79 c1 col' w' ra1 rc2 r):=by
 refine Xk 4 (m:=25) func259 rfl rfl rfl rfl rfl ?_;rw [Zhi.eq_1] at hm;have aa:=St.start col w0;refine go ?_;obtain ⟨a9,a3,hm⟩:=bZ hm;replace h0:=h0.keep (Zl.start col w0);refine Zh (Tb 1 a3 (h0.ks aa)) ?_;rintro _ ba ⟨bb,bc,bd,rfl,a4,am⟩;refine ⟨_,rfl,?_⟩;refine Y0 rfl ?_;obtain ⟨be,a5,hm⟩:=bZ hm;replace h1:=h1.keep (Zl.start col w0);replace aa:=aa.grow a4;refine Zh (Tb 2 a5 (h1.ks aa)) ?_;rintro _ bf ⟨bg,bh,bi,rfl,av,a6⟩;refine ⟨_,rfl,go ?_⟩;replace am:=am.gr av;replace aa:=aa.grow av;refine Z8 [1000000] (fun n f ag=>∃ ac an ao ai ap aq aj ae,ae=n∧Zb2 N ae ai aj=some r∧St w0 (Zj col) ac ag∧Zc (Za.int .u32) 79 1 ac ag an ao ai∧Zc (Za.int .u32) 79 2 ac ag ap aq aj∧[0,1].map f=[.slice an ai.length ao,.slice ap aj.length aq]) N ⟨_,_,_,_,_,_,_,_,rfl,hm,aa,am,a6,rfl⟩ ?_;clear hm;intro n f ag hI;obtain ⟨ac,an,ao,ai,ap,aq,aj,ae,hn,hm,aa,aw,ab,hs⟩:=hI;subst hn;refine .lL [0,1] hs ?_
 cases ae with
 | zero=>rw [Zb2.eq_1] at hm;cases hm
 | succ ae=>
  rw [Zb2.eq_2] at hm;refine go ?_;refine Zr hm (fun hb hm=>go ?_) fun hb hm=>go ?_
  ·obtain ⟨af,a7,hm⟩:=bZ hm;refine Zh (Zmf 3 4 a7 ((aw.toSlF (Zg.int .u32)).froz 2) ((ab.froz 1 (by decide)).toSlF (Zg.int .u32))) ?_;rintro _ bj ⟨a8,ax,ay,az,a2,rfl,ah,bk,ad⟩;refine ⟨_,rfl,?_⟩;replace ad:=ad.thaw (Z0 .u32) ah (((Fz.refl (col:=ac)).froz 1).froz 2) (by decide);replace ah:=ah.thawR (col:=ac);generalize Xc ag.heap.size ac a8=bm at *;refine lM (.tuple #[.slice ax af.1.length ay,.slice az af.2.1.length a2,.int .i64 af.2.2])<|lV (.slice ax af.1.length ay) (Xe rfl rfl)<|lV (.slice az af.2.1.length a2) (Xe rfl rfl)<|lV (.int .i64 af.2.2) (Xe rfl rfl)<|go ?_;replace ab:=ab.gr ah;replace ab:=ab.recolSelf 1 (by decide);replace ad:=ad.recol 2 1 (by decide);replace aa:=aa.grow ah;replace aa:=aa.recol 2 1 (by decide) (by decide);replace ab:=ab.recol 4 2 (by decide);replace ad:=ad.recolSelf 2 (by decide);replace aa:=aa.recol 4 2 (by decide) (by decide);exact ⟨ae,by omega,rfl,⟨_,_,_,_,_,_,_,_,rfl,hm,aa,ab,ad,rfl⟩⟩
  cases hm;exact ⟨rfl,_,_,_,rfl,aa.fin (cm [(1,c1)]),aa.fo aw⟩
theorem Zv4 (N:Nat):∀ (n:Nat) (a:List Int),Za1 N n a=Tn N n a
 | 0,a=>rfl
 | n+1,a=>by
  rw [Za1.eq_2,Tn.eq_2]
  simp only [Zhp,Za0,Zv4 N n]
theorem Zv5 {N:Nat} {a:List Int} (h:Zn a) (hn:a.length<N) (hb:a.length≤1099511627776):Zb6 N a=some (Ze (Zb a)):=by
 rw [Zb6,Zv4];exact Zlw N N a h hn (by omega)
theorem Z2p {x L nx s:Nat} (hs:s<32) (hx:x<4294967296) (hn:nx=L % 4294967296):(x+4294967296 * L) / 2 ^ s=(x+4294967296 * nx) / 2 ^ s % 4294967296+4294967296 * (L / 2 ^ s):=by
 have pw:(2:Nat) ^ s * 2 ^ (32 - s)=4294967296:=by rw [← Nat.pow_add,show s+(32 - s)=32 by omega]
 have hp:=Nat.two_pow_pos s
 generalize 2 ^ s=p at *
 generalize 2 ^ (32 - s)=r at *
 have h1:(x+4294967296 * L) / p / 4294967296=L / p:=by
  rw [Nat.div_div_eq_div_mul,Nat.mul_comm p,← Nat.div_div_eq_div_mul]
  congr 1
  omega
 have h2:(x+4294967296 * L) / p % 4294967296=(x+4294967296 * nx) / p % 4294967296:=by
  have e:x+4294967296 * L=x+4294967296 * nx+p * (4294967296 * (r * (L / 4294967296))):=by
   have e1:L=nx+4294967296 * (L / 4294967296):=by omega
   have e2:p * (4294967296 * (r * (L / 4294967296)))=4294967296 * (p * r) * (L / 4294967296):=by grind
   rw [e2,pw]
   omega
  rw [e,Nat.add_mul_div_left _ _ hp,Nat.add_mul_mod_self_left]
 rw [← h1,← h2]
 omega
theorem Zqs (N s:Nat) (hs:s<32) (q r:List Int) (hq:Zn q) (hr:Zn r) (hN:q.length<N∧r.length<N) (hb:q.length≤1099511627776∧r.length≤1099511627776):∀ (n i:Nat) (u d:List Int),i≤r.length→r.length<n+i→u=d++r.drop i→d.length=i→Zn d→Zb d+4294967296 ^ i * (Zb (r.drop i) / 2 ^ s)=Zb r / 2 ^ s→
  Sb N (s:Int) q r n u (i:Int)=some (Ze (Zb q),Ze (Zb r / 2 ^ s),0)
 | 0,i,u,d,h1,h2,_,_,_,_=>by omega
 | n+1,i,u,d,h1,h2,hu,hd,hld,hv=>by
  have hul:u.length=r.length:=by rw [hu,nA,List.length_drop];omega
  rw [Sb.eq_2]
  by_cases hi:i<r.length
  ·have hdr:=List.drop_eq_getElem_cons hi
   have g:=hr.get hi
   have ui:u[i]'(by omega)=r[i]:=by
    subst hu
    rw [List.getElem_append_right (by omega)]
    simp [hd]
   have step:∀ nx:Nat,nx=Zb (r.drop (i+1)) % 4294967296→Zfp (s:Int) u (i:Int) (Sb N (s:Int) q r n) (nx:Int)=some (Ze (Zb q),Ze (Zb r / 2 ^ s),0):=fun nx hnx=>by
    have hw:u32.wrap (Yh .u64 (Yz .u64 (Xy .u64 (u64.wrap (nx:Int)) 32) (u64.wrap r[i])) (s:Int))=(((r[i]).toNat+4294967296 * nx) / 2 ^ s % 4294967296:Nat):=by
     rw [Xo (x:=(nx:Int)) (by omega),Xo (x:=r[i]) (by omega),Zlx (by omega) (by omega),show (nx:Int) * 4294967296+r[i]=(((r[i]).toNat+4294967296 * nx:Nat):Int) by omega,Zlu _ _ _ (by simp only [IntKind.bits];omega),Zwf]
    have hset:u.set i ((((r[i]).toNat+4294967296 * nx) / 2 ^ s % 4294967296:Nat):Int)=(d++[((((r[i]).toNat+4294967296 * nx) / 2 ^ s % 4294967296:Nat):Int)])++r.drop (i+1):=by
     subst hu
     rw [hdr,List.set_append_right _ _ (by omega),hd,Nat.sub_self,List.set_cons_zero]
     simp
    rw [Zfp,Xg (by omega),oB,Z7 (by omega),ui,hw,oB,Zkh,Z2 (by omega),Int.toNat_natCast,hset]
    have ih:=Zqs N s hs q r hq hr hN hb n (i+1) _ (d++[((((r[i]).toNat+4294967296 * nx) / 2 ^ s % 4294967296:Nat):Int)]) (by omega) (by omega) rfl (by simp [hd]) (hld.app (.cons (by omega) .nil)) (by
     rw [Sg,hd,Y3,Ym,Int.toNat_natCast,← hv,hdr,Y3,Z2p hs (by omega) hnx,Nat.pow_succ]
     generalize ((r[i]).toNat+4294967296 * nx) / 2 ^ s % 4294967296=A
     generalize Zb (r.drop (i+1)) / 2 ^ s=C
     grind)
    exact ih
   rw [if_pos (dT (by omega)),Z2 (by omega)]
   by_cases hi1:i+1<r.length
   ·have u1:u[i+1]'(by omega)=r[i+1]:=by
     subst hu
     rw [List.getElem_append_right (by omega)]
     simp [hd]
    have g1:=hr.get hi1
    rw [if_pos (dT (by omega)),show (i:Int)+1=((i+1:Nat):Int) by omega,Xg (by omega),oB,u1,show r[i+1]=((r[i+1]).toNat:Int) by omega]
    exact step _ (by rw [Ua hi1];omega)
   ·rw [if_neg (dF (by omega))]
    have:=step 0 (by rw [List.drop_eq_nil_of_le (by omega)];rfl)
    exact this
  ·have:i=r.length:=by omega
   subst this
   rw [if_neg (dF (by omega))]
   rw [List.drop_length,List.append_nil] at hu
   rw [List.drop_length,Ym,Nat.zero_div,Nat.mul_zero,Nat.add_zero] at hv
   subst hu
   rw [Sk hq hN.1 hb.1,oB,Sk hld (by omega) (by omega),oB,hv]
theorem Zqr (N s:Nat) (v:List Int) (hN:2≤N) (hv:Zn v) (hn:2≤v.length) (hbig:2147483648≤(v[v.length - 1]).toNat):∀ (n j:Nat) (u q:List Int),j≤q.length→j<n→u.length=q.length+v.length→u.length<4611686018427387904→Zn u→Zn q→Zb (u.drop j)<Zb v→Zb (q.take j)=0→
  ∃ u' q',Zdj N (s:Int) v n u q ((j:Int) - 1)=((Zb6 N u').bind fun r=>Sb N (s:Int) q' r N r 0)∧u'.length=u.length∧q'.length=q.length∧Zn u'∧Zn q'∧Zb u'<Zb v∧Zb v * Zb q'+Zb u'=Zb v * Zb q+Zb u
 | 0,j,u,q,_,h,_,_,_,_,_,_=>by omega
 | n+1,j,u,q,hj,hjn,hl,hs,hu,hq,hlt,hz=>by
  rw [Zdj.eq_2]
  by_cases h0:j=0
  ·subst h0
   rw [if_neg (by decide)]
   exact ⟨u,q,rfl,rfl,rfl,hu,hq,by simpa using hlt,rfl⟩
  ·have e1:j - 1+1=j:=by omega
   have hi:j - 1<u.length:=by omega
   have hqi:j - 1<q.length:=by omega
   have g:=hu.get hi
   have lv:=Sh hv
   have sp:=Ut (u.drop j) v.length
   rw [List.drop_drop] at sp
   have hz2:Zb (u.drop (j - 1+v.length+1))=0:=by
    rw [show j - 1+v.length+1=j+v.length by omega]
    rcases Nat.eq_zero_or_pos (Zb (u.drop (j+v.length))) with h | h
    ·exact h
    ·have:=Nat.mul_le_mul_left (4294967296 ^ v.length) h
     generalize 4294967296 ^ v.length=P at *
     omega
   have d1:=Ua hi
   rw [e1] at d1
   obtain ⟨u',q1,q2,q3,q4,q5,q6⟩:=Zyy (N:=N) (j0:=j - 1) hN hu hv hn (by omega) hs hz2 hbig (by omega)
   have hqs:0≤((Zb (u.drop (j - 1)) / Zb v:Nat):Int)∧((Zb (u.drop (j - 1)) / Zb v:Nat):Int)<4294967296:=⟨Int.natCast_nonneg _,Int.ofNat_lt.2 q6⟩
   rw [if_pos (dT (by omega)),show (j:Int) - 1=((j - 1:Nat):Int) by omega,Z2 (x:=((j - 1:Nat):Int)+(v.length:Int)) (by omega),Z2 (by omega),Z7 (by omega),Int.toNat_natCast,
    show Int.toNat (((j - 1:Nat):Int)+(v.length:Int)+1) - (j - 1)=v.length+1 by omega,q1,oB,Xg hqi,oB,oB,Z2 (by omega)]
   have vp:0<Zb v:=by omega
   -- the quotient's limb was 0
   have zq:q[j - 1]=0∧Zb (q.take (j - 1))=0:=by
    have:=Znw hqi
    rw [e1,hz] at this
    have g2:=hq.get hqi
    have hp:0<4294967296 ^ (j - 1):=Nat.pow_pos (by decide)
    have h3:4294967296 ^ (j - 1) * (q[j - 1]).toNat=0:=by omega
    rcases Nat.mul_eq_zero.1 h3 with h | h
    ·omega
    ·exact ⟨by omega,by omega⟩
   obtain ⟨u2,q2',r1,r2,r3,r4,r5,r6,r7⟩:=Zqr N s v hN hv hn hbig n (j - 1) u' (q.set (j - 1) ((Zb (u.drop (j - 1)) / Zb v:Nat):Int)) (by rw [nS];omega) (by omega) (by rw [nS,q2];exact hl) (by omega) q3 (hq.set _ hqs) (by rw [q5];exact Nat.mod_lt _ vp) (by rw [Zcm _ (Nat.le_refl _)];exact zq.2)
   refine ⟨u2,q2',r1,by rw [r2,q2],by rw [r3,nS],r4,r5,r6,?_⟩
   rw [r7]
   have s0:=Ut u (j - 1)
   have s1:=Ut u' (j - 1)
   rw [q4,q5] at s1
   have s2:=To hqi ((Zb (u.drop (j - 1)) / Zb v:Nat):Int)
   rw [zq.1,Int.toNat_zero,Nat.mul_zero,Nat.add_zero,Int.toNat_natCast] at s2
   rw [s1,s2,s0]
   have hdm:=Nat.div_add_mod (Zb (u.drop (j - 1))) (Zb v)
   generalize Zb (u.drop (j - 1)) / Zb v=a at *
   generalize Zb (u.drop (j - 1)) % Zb v=b at *
   rw [← hdm]
   generalize 4294967296 ^ (j - 1)=Q at *
   grind
theorem Zv1 {l:List Int} (h:0<l.length):Zb l=Zb (l.take (l.length - 1))+4294967296 ^ (l.length - 1) * (l[l.length - 1]).toNat:=by
 conv=>lhs;rw [← Zes h,Sg,Y3,Ym]
 rw [nK,Nat.min_eq_left (by omega),Nat.mul_zero,Nat.add_zero]
theorem Zv2 {l:List Int} (hl:Zn l):Zb (l.take (l.length - 1))<4294967296 ^ (l.length - 1):=by
 have:=Sh (hl.take (l.length - 1))
 rw [nK,Nat.min_eq_left (by omega)] at this
 exact this
theorem Zy0 {u:List Int} {k n S:Nat} (hu:Zn u) (hk:k+n=u.length) (hn:0<n) (ht:∀ h:u.length - 1<u.length,(u[u.length - 1]).toNat<S):Zb (u.drop k)<4294967296 ^ (n - 1) * S:=by
 have hl:(u.drop k).length=n:=by rw [List.length_drop];omega
 have h1:=Zv1 (l:=u.drop k) (by omega)
 have h2:=Zv2 (hu.drop k)
 have h3:((u.drop k)[(u.drop k).length - 1]'(by omega))=u[u.length - 1]'(by omega):=by
  have:(u.drop k)[(u.drop k).length - 1]?=u[u.length - 1]?:=by rw [List.getElem?_drop,hl];congr 1;omega
  rw [List.getElem?_eq_getElem (by omega),List.getElem?_eq_getElem (by omega)] at this
  exact Option.some.inj this
 rw [h3] at h1
 rw [hl] at h1 h2
 have h4:=ht (by omega)
 have h5:=Nat.mul_le_mul_left (4294967296 ^ (n - 1)) (show (u[u.length - 1]'(by omega)).toNat+1≤S from h4)
 rw [Nat.mul_add] at h5
 omega
theorem Zjs {N:Nat} {a b:List Int} (ha:Zn a) (hb:Zn b) (hN:a.length+b.length+4<N) (hs:a.length+b.length≤549755813888):
  Zdi N a b=some (if Zb b=0 then ([],[],11) else (Ze (Zb a / Zb b),Ze (Zb a % Zb b),0)):=by
 have la:=Ys ha
 have lb:=Ys hb
 rw [Zdi,Sr ha (by omega) (by omega),oB,Sr hb (by omega) (by omega),oB]
 generalize hA:Zb a=A at *
 generalize hB:Zb b=B at *
 by_cases h0:B=0
 ·subst h0
  rw [Wt,if_pos (by decide),if_pos rfl]
 ·have hbp:0<(Ze B).length:=List.length_pos_iff.2 (fun h=>h0 (Zet.1 h))
  rw [if_neg (dF (by omega)),if_neg h0,Zmu (Z9 _) (Z9 _) (by omega) (by omega) (by omega) (by omega),oB,Z4,Z4]
  by_cases hlt:A<B
  ·rw [if_pos hlt,if_pos (by decide),Sk (Z9 _) (by omega) (by omega),oB,Z4,Nat.div_eq_of_lt hlt,Nat.mod_eq_of_lt hlt,Wt]
  ·rw [if_neg hlt,if_neg (by split <;> decide)]
   have hlen:(Ze B).length≤(Ze A).length:=by
    have h1:=Wq (k:=(Ze A).length) (n:=B)
    have h2:=Wq (k:=(Ze A).length) (n:=A)
    have:=h2.1 (Nat.le_refl _)
    exact h1.2 (by omega)
   by_cases h1:(Ze B).length=1
   ·have g:=(Z9 B).get hbp
    have hne:=Zj8 hbp
    have e0:(Ze B).length - 1=0:=by omega
    have hne0:(Ze B)[0]≠0:=by
     have:(Ze B)[(Ze B).length - 1]?=(Ze B)[0]?:=by rw [e0]
     rw [List.getElem?_eq_getElem (by omega),List.getElem?_eq_getElem (by omega)] at this
     rw [← Option.some.inj this];exact hne
    have eB:((Ze B)[0]).toNat=B:=by
     have h2:=Z4 B
     have h3:=Ua (l:=Ze B) (k:=0) hbp
     rw [List.drop_zero,h2,List.drop_eq_nil_of_le (by omega),Ym] at h3
     omega
    obtain ⟨q,q1,q2,q3,q4⟩:=Z2q (N:=N) (a:=Ze A) (d:=(Ze B)[0]) (by omega) (Z9 _) (by omega) (by omega)
    rw [eB,Z4] at q1 q4
    have hm:=Nat.mod_lt A (show 0<B by omega)
    have hB32:B<4294967296:=by omega
    have hml:Zn [((A % B:Nat):Int)]:=.cons ⟨Int.natCast_nonneg _,Int.ofNat_lt.2 (Nat.lt_trans hm hB32)⟩ .nil
    rw [if_pos (dT (by omega)),Zms (by omega),oB,show (0:Int)=((0:Nat):Int) from rfl,Xg hbp,oB,q1,oB,Sk q3 (by omega) (by omega),oB,Sk hml (by simp;omega) (by simp),oB,q4,Y3,Ym,Int.toNat_natCast,Nat.mul_zero,Nat.add_zero]
   ·have hp:0<(Ze B).length:=hbp
    have i1:(Ze B).length - 1<(Ze B).length:=by omega
    have g:=(Z9 B).get i1
    have hne:=Zj8 hbp
    obtain ⟨k,ek,k1,k2⟩:=Zji (show ((Ze B)[(Ze B).length - 1]).toNat≠0 by omega)
    have hk:k≤31:=by
     have:Xd ((Ze B)[(Ze B).length - 1]).toNat≤32:=Vo.2 (by omega)
     omega
    obtain ⟨s,hs'⟩:∃ s,s=31 - k:=⟨_,rfl⟩
    have hlz:Zhd (Ze B)[(Ze B).length - 1]=some (s:Int):=by
     rw [Zhd,show (Ze B)[(Ze B).length - 1]=(((Ze B)[(Ze B).length - 1]).toNat:Int) by omega,Zr0 (by omega),oB,ek,Z2 (by omega)]
     congr 1;omega
    obtain ⟨u,u1,u2,u3,u4,u5⟩:=Zrz (a:=Ze A) (s:=s) (by omega) (Z9 _) (by omega)
    obtain ⟨w,w1,w2,w3,w4,w5⟩:=Zrz (a:=Ze B) (s:=s) (by omega) (Z9 _) (by omega)
    rw [Z4] at u4 w4
    have hps:=Nat.two_pow_pos s
    -- the divisor, its highest Yj set
    have hsp:=Zes hp
    have htl:=Sh ((Z9 B).take ((Ze B).length - 1))
    rw [nK,Nat.min_eq_left (by omega)] at htl
    have eB:B=Zb ((Ze B).take ((Ze B).length - 1))+4294967296 ^ ((Ze B).length - 1) * ((Ze B)[(Ze B).length - 1]).toNat:=by
     conv=>lhs;rw [← Z4 B,← hsp,Sg,Y3,Ym]
     rw [nK,Nat.min_eq_left (by omega)];simp
    have pk:2 ^ k * 2 ^ s=2147483648:=by rw [← Nat.pow_add,hs',show k+(31 - k)=31 by omega]
    have pk1:2 ^ (k+1) * 2 ^ s=4294967296:=by rw [Nat.pow_succ,Nat.mul_right_comm,pk]
    have hPp:0<4294967296 ^ ((Ze B).length - 1):=Nat.pow_pos (by decide)
    have hlb1:(Ze B).length - 1+1=(Ze B).length:=by omega
    have pwl:(4294967296:Nat) ^ (Ze B).length=4294967296 ^ ((Ze B).length - 1) * 4294967296:=by rw [← Nat.pow_succ];congr 1;omega
    generalize hPe:4294967296 ^ ((Ze B).length - 1)=P at *
    have top1:P * 2147483648≤2 ^ s * B:=by
     have h1:=Nat.mul_le_mul_left P k1
     have h2:=Nat.mul_le_mul_right (2 ^ s) (show P * 2 ^ k≤B by omega)
     rw [Nat.mul_assoc,pk] at h2
     rw [Nat.mul_comm (2 ^ s)];exact h2
    have top2:2 ^ s * B<P * 4294967296:=by
     have h1:=Nat.mul_le_mul_left P (show ((Ze B)[(Ze B).length - 1]).toNat+1≤2 ^ (k+1) from k2)
     rw [Nat.mul_add] at h1
     have h2:=Nat.mul_lt_mul_of_pos_right (show B<P * 2 ^ (k+1) by omega) hps
     rw [Nat.mul_assoc,pk1] at h2
     rw [Nat.mul_comm (2 ^ s)];exact h2
    have hv0:(Ze (2 ^ s * B)).length=(Ze B).length:=by
     have h1:(Ze (2 ^ s * B)).length≤(Ze B).length:=Wq.2 (by rw [pwl];exact top2)
     have h2:¬ (Ze (2 ^ s * B)).length≤(Ze B).length - 1:=fun h=>by
      have:=Wq.1 h
      rw [hPe] at this
      have:P * 1≤P * 2147483648:=Nat.mul_le_mul_left _ (by decide)
      omega
     omega
    have hvp:0<(Ze (2 ^ s * B)).length:=by omega
    have hbig:2147483648≤((Ze (2 ^ s * B))[(Ze (2 ^ s * B)).length - 1]).toNat:=by
     have tl':=Zv2 (Z9 (2 ^ s * B))
     have e:=Zv1 hvp
     have ePP:(4294967296:Nat) ^ ((Ze (2 ^ s * B)).length - 1)=P:=by rw [hv0];exact hPe
     rw [Z4,ePP] at e
     rw [ePP] at tl'
     generalize Zb ((Ze (2 ^ s * B)).take ((Ze (2 ^ s * B)).length - 1))=lo at *
     generalize ((Ze (2 ^ s * B))[(Ze (2 ^ s * B)).length - 1]).toNat=t at *
     have h3:P * 2147483648<P * (t+1):=by rw [Nat.mul_add];omega
     have:=Nat.lt_of_mul_lt_mul_left h3
     omega
    obtain ⟨q,hq⟩:∃ q,q=List.replicate ((Ze A).length - (Ze B).length+1) (0:Int):=⟨_,rfl⟩
    have lq:q.length=(Ze A).length - (Ze B).length+1:=by rw [hq,List.length_replicate]
    rw [if_neg (dF (by omega)),Z2 (x:=((Ze B).length:Int) - 1) (by omega),show ((Ze B).length:Int) - 1=(((Ze B).length - 1:Nat):Int) by omega,Xg i1,oB,hlz,oB,u1,oB,w1,oB,
     Zv5 w3 (by omega) (by omega),oB,w4,Z2 (x:=((Ze A).length:Int) - ((Ze B).length:Int)) (by omega),Z2 (x:=((Ze A).length:Int) - ((Ze B).length:Int)+1) (by omega),Z7 (by simp only [maxLen];omega),
     show Int.toNat (((Ze A).length:Int) - ((Ze B).length:Int)+1)=(Ze A).length - (Ze B).length+1 by omega,← hq,Z2 (x:=(q.length:Int) - 1) (by omega)]
    obtain ⟨u',q',r1,r2,r3,r4,r5,r6,r7⟩:=Zqr N s (Ze (2 ^ s * B)) (by omega) (Z9 _) (by omega) hbig N q.length u q (Nat.le_refl _) (by omega) (by omega) (by omega) u3 (by rw [hq];exact .zeros _) (by
     -- the highest Ze are below the divisor
     rw [Z4]
     have h1:=Zy0 (k:=q.length) (n:=(Ze B).length) u3 (by omega) hp u5
     rw [hPe] at h1
     have hs31:2 ^ s≤2147483648:=by
      have:=Nat.pow_le_pow_right (n:=2) (by decide) (show s≤31 by omega)
      omega
     have h8:=Nat.mul_le_mul_left P hs31
     omega) (by rw [hq,List.take_replicate];exact Si _)
    rw [r1,Zv5 r4 (by omega) (by omega),oB]
    rw [Z4] at r6 r7
    have zq:Zb q=0:=by rw [hq];exact Si _
    rw [zq,u4,Nat.mul_zero,Nat.zero_add] at r7
    have ll:=Ys r4
    have hfin:=Zqs N s (by omega) q' (Ze (Zb u')) r5 (Z9 _) (by omega) (by omega) N 0 (Ze (Zb u')) [] (by omega) (by omega) (by simp) rfl .nil (by rw [Ym,List.drop_zero,Nat.pow_zero];omega)
    rw [show ((0:Nat):Int)=0 from rfl] at hfin
    rw [hfin,Z4]
    have hqv:Zb q'=A / B:=by
     have h9:2 ^ s * A / (2 ^ s * B)=Zb q':=by
      rw [← r7,Nat.mul_add_div (by omega),Nat.div_eq_of_lt r6,Nat.add_zero]
     rw [← h9,Nat.mul_div_mul_left _ _ hps]
    have hrv:Zb u' / 2 ^ s=A % B:=by
     have h9:2 ^ s * A % (2 ^ s * B)=Zb u':=by
      rw [← r7,Nat.mul_add_mod,Nat.mod_eq_of_lt r6]
     rw [Nat.mul_mod_mul_left] at h9
     rw [← h9,Nat.mul_div_cancel_left _ hps]
    rw [hqv,hrv]
theorem Zzv {x y:Nat} (h:y≤x) (hy:0<y):y * (x % y)≤x * y / 2:=by
 have h1:x % y+y≤x:=by
  have:=Nat.mod_add_div x y
  have h2:y * 1≤y * (x / y):=Nat.mul_le_mul_left _ (Nat.div_pos h hy)
  omega
 have h2:=Nat.mod_lt x hy
 have h3:y * (2 * (x % y))≤y * x:=Nat.mul_le_mul_left _ (by omega)
 rw [Nat.le_div_iff_mul_le (by decide),Nat.mul_comm x y,Nat.mul_assoc,Nat.mul_comm (x % y) 2]
 exact h3
theorem Zm6 (N:Nat):∀ (n x y:Nat),y≤x→Xd (x * y)<n→(Ze x).length+(Ze y).length+4<N→(Ze x).length+(Ze y).length≤549755813888→Zb2 N n (Ze x) (Ze y)=some (Ze (Nat.gcd x y))
 | 0,x,y,_,h,_,_=>by omega
 | n+1,x,y,hxy,hn,hN,hs=>by
  rw [Zb2.eq_2]
  by_cases h0:y=0
  ·subst h0
   rw [Wt,if_neg (by decide),Nat.gcd_zero_right]
  ·have hp:0<(Ze y).length:=List.length_pos_iff.2 (fun h=>h0 (Zet.1 h))
   have hm:=Nat.mod_lt x (show 0<y by omega)
   have lm:(Ze (x % y)).length≤(Ze y).length:=Wq.2 (Nat.lt_trans hm (Wq.1 (Nat.le_refl _)))
   have ly:(Ze y).length≤(Ze x).length:=Wq.2 (Nat.lt_of_le_of_lt hxy (Wq.1 (Nat.le_refl _)))
   rw [if_pos (dT (by omega)),Zjs (Z9 _) (Z9 _) hN hs,oB,Z4,Z4,if_neg h0]
   have hb:Xd (y * (x % y))<n:=by
    have h1:=Zzv hxy (by omega)
    have h2:Xd (y * (x % y))≤Xd (x * y / 2 ^ 1):=Vo.2 (Nat.lt_of_le_of_lt (by rw [Nat.pow_one];exact h1) (Vo.1 (Nat.le_refl _)))
    rw [Zgx] at h2
    have h3:0<x * y:=Nat.mul_pos (by omega) (by omega)
    have h4:0<Xd (x * y):=by
     rcases Nat.eq_zero_or_pos (Xd (x * y)) with h | h
     ·have:=Vo.1 (show Xd (x * y)≤0 by omega)
      omega
     ·exact h
    omega
   have:=Zm6 N n y (x % y) (Nat.le_of_lt hm) hb (by omega) (by omega)
   rw [this,Nat.gcd_comm x y,Nat.gcd_rec y x,Nat.gcd_comm]
theorem Zpd (x y:Nat):Xd (x * y)≤Xd x+Xd y:=by
 refine Vo.2 ?_
 rw [Nat.pow_add]
 have h1:=Vo.1 (Nat.le_refl (Xd x))
 have h2:=Vo.1 (Nat.le_refl (Xd y))
 exact Nat.mul_lt_mul'' h1 h2
theorem Zzu {N:Nat} {a b:List Int} (ha:Zn a) (hb:Zn b) (hN:32 * (a.length+b.length)+8<N) (hs:a.length+b.length≤549755813888):Zhi N a b=some (Ze (Nat.gcd (Zb a) (Zb b))):=by
 have la:=Ys ha
 have lb:=Ys hb
 have ba:=(Zjg (Zb a)).2
 have bb:=(Zjg (Zb b)).2
 rw [Zhi,Sk ha (by omega) (by omega),oB,Sk hb (by omega) (by omega),oB]
 by_cases h:Zb b≤Zb a
 ·have:=Zpd (Zb a) (Zb b)
  exact Zm6 N N _ _ h (by omega) (by omega) (by omega)
 ·have h':Zb a<Zb b:=by omega
  have hm:=Zpd (Zb b) (Zb a)
  have hp:0<(Ze (Zb b)).length:=List.length_pos_iff.2 (fun h=>by have:=Zet.1 h;omega)
  obtain ⟨N',rfl⟩:∃ N',N=N'+1:=⟨N - 1,by omega⟩
  rw [Zb2.eq_2,if_pos (dT (by omega)),Zjs (Z9 _) (Z9 _) (by omega) (by omega),oB,Z4,Z4,if_neg (by omega),Nat.mod_eq_of_lt h',
   Zm6 (N'+1) N' _ _ (by omega) (by omega) (by omega) (by omega),Nat.gcd_comm]
abbrev ZV:=Bool×List Int
abbrev QV:=R4×List Int
def Zt (a:ZV):Int:=if a.1=true then -(Zb a.2:Int) else (Zb a.2:Int)
def X5 (z:Int):ZV:=(decide (z<0),Ze z.natAbs)
def Yq (l:List Int):Nat:=if Zb l=0 then 1 else Zb l
def Xn (a:QV):Rat:=mkRat (Zt a.1) (Yq a.2)
def Zp (q:Rat):QV:=(X5 q.num,Ze q.den)
structure RV (k:Nat) (a:QV):Prop where
 m:Zn a.1.2
 d:Zn a.2
 lm:a.1.2.length≤k
 ld:a.2.length≤k
def qs (q:Rat):Nat:=max (Ze q.num.natAbs).length (Ze q.den).length
def Xm (N s:Nat):Prop:=200 * (s+4)<N∧s≤17179869184
theorem Zgr (a:ZV):(Zt a).natAbs=Zb a.2:=by
 rw [Zt];split <;> omega
theorem Qh (z:Int):Zt (X5 z)=z:=by
 rw [Zt,X5]
 simp only [Z4,decide_eq_true_eq]
 split <;> omega
theorem Zin (n:Bool) (m:List Int):X5 (Zt (n,m))=(n&&decide (Zb m≠0),Ze (Zb m)):=by
 rw [X5,Zgr]
 congr 1
 rw [Zt]
 cases n
 ·rw [if_neg (fun h=>by cases h),Bool.false_and]
  exact decide_eq_false (by omega)
 ·rw [if_pos rfl,Bool.true_and]
  exact decide_eq_decide.2 (by simp only;omega)
theorem Qp (z:Int):Zn (X5 z).2:=Z9 _
theorem Tf (l:List Int):Yq l≠0:=by rw [Yq];split <;> omega
theorem Zy1 {n:Nat} (h:n≠0):Yq (Ze n)=n:=by rw [Yq,Z4,if_neg h]
theorem Wx (q:Rat):Xn (Zp q)=q:=by
 rw [Xn,Zp]
 simp only [Qh,Zy1 q.den_nz]
 exact Rat.mkRat_self q
theorem Zvd (q:Rat):RV (qs q) (Zp q):=⟨Z9 _,Z9 _,Nat.le_max_left _ _,Nat.le_max_right _ _⟩
theorem RV.mono {k l:Nat} {a:QV} (h:RV k a) (hl:k≤l):RV l a:=⟨h.m,h.d,Nat.le_trans h.lm hl,Nat.le_trans h.ld hl⟩
theorem W5 {q:Rat} {k:Nat} (h:qs q≤k):RV k (Zp q):=(Zvd q).mono h
theorem Xm.mono {N s t:Nat} (h:Xm N t) (hs:s≤t):Xm N s:=by
 obtain ⟨h1,h2⟩:=h
 exact ⟨by omega,by omega⟩
theorem W4 {m n:Nat} (h:m≤n):(Ze m).length≤(Ze n).length:=Wq.2 (Nat.lt_of_le_of_lt h (Wq.1 (Nat.le_refl _)))
theorem U1 (m n:Nat):(Ze (m * n)).length≤(Ze m).length+(Ze n).length:=by
 refine Wq.2 ?_
 rw [Nat.pow_add]
 exact Nat.mul_lt_mul'' (Wq.1 (Nat.le_refl _)) (Wq.1 (Nat.le_refl _))
theorem Zng {m n k:Nat} (hm:(Ze m).length≤k) (hn:(Ze n).length≤k):(Ze (m+n)).length≤k+1:=by
 refine Wq.2 ?_
 have h1:=Wq.1 hm
 have h2:=Wq.1 hn
 rw [Nat.pow_succ]
 omega
theorem T5 {n:Nat} (h:n≠0):1≤(Ze n).length:=List.length_pos_iff.2 (fun e=>h (Zet.1 e))
theorem Zt2 (q:Rat):1≤qs q:=Nat.le_trans (T5 q.den_nz) (Nat.le_max_right _ _)
theorem Zlj {z:Int} {d k:Nat} (hz:(Ze z.natAbs).length≤k) (hd:(Ze d).length≤k) (hk:1≤k):qs (mkRat z d)≤k:=by
 rw [qs,Rat.num_mkRat,Rat.den_mkRat]
 by_cases h:d=0
 ·rw [if_pos h,if_pos h]
  simp only [Int.natAbs_zero,Wt,Th]
  simp;omega
 ·rw [if_neg h,if_neg h]
  refine Nat.max_le.2 ⟨Nat.le_trans (W4 ?_) hz,Nat.le_trans (W4 (Nat.div_le_self _ _)) hd⟩
  exact Int.natAbs_ediv_le_natAbs _ _
theorem Zt4 {k:Nat} {a:QV} (h:RV k a):qs (Xn a)≤max k 1:=by
 refine Zlj ?_ ?_ (Nat.le_max_right _ _)
 ·rw [Zgr]
  exact Nat.le_trans (Ys h.m) (Nat.le_trans h.lm (Nat.le_max_left _ _))
 ·rw [Yq]
  split
  ·rw [Th];exact Nat.le_max_right _ _
  ·exact Nat.le_trans (Ys h.d) (Nat.le_trans h.ld (Nat.le_max_left _ _))
theorem Zt1 (a b:Rat):qs (a * b)≤qs a+qs b:=by
 rw [Rat.mul_def']
 have:=Zt2 a
 refine Zlj ?_ ?_ (by omega)
 ·rw [Int.natAbs_mul]
  exact Nat.le_trans (U1 _ _) (Nat.add_le_add (Nat.le_max_left _ _) (Nat.le_max_left _ _))
 ·exact Nat.le_trans (U1 _ _) (Nat.add_le_add (Nat.le_max_right _ _) (Nat.le_max_right _ _))
theorem Z1m (a b:Rat):qs (a+b)≤qs a+qs b+1:=by
 rw [Rat.add_def']
 have an:(Ze a.num.natAbs).length≤qs a:=Nat.le_max_left _ _
 have ad:(Ze a.den).length≤qs a:=Nat.le_max_right _ _
 have bn:(Ze b.num.natAbs).length≤qs b:=Nat.le_max_left _ _
 have bd:(Ze b.den).length≤qs b:=Nat.le_max_right _ _
 refine Zlj (Nat.le_trans (W4 (Int.natAbs_add_le _ _)) (Zng ?_ ?_)) ?_ (by omega)
 ·rw [Int.natAbs_mul,Int.natAbs_natCast]
  have:=U1 a.num.natAbs b.den
  omega
 ·rw [Int.natAbs_mul,Int.natAbs_natCast]
  have:=U1 b.num.natAbs a.den
  omega
 ·have:=U1 a.den b.den
  omega
theorem Zoa (a b:Rat):qs (a / b)≤qs a+qs b:=by
 rw [Rat.div_def]
 have h:qs b⁻¹≤qs b:=by
  rw [qs,Rat.num_inv,Rat.den_inv]
  have bn:(Ze b.num.natAbs).length≤qs b:=Nat.le_max_left _ _
  have bd:(Ze b.den).length≤qs b:=Nat.le_max_right _ _
  have bp:=Zt2 b
  refine Nat.max_le.2 ⟨?_,?_⟩
  ·rw [Int.natAbs_mul,Int.natAbs_natCast]
   refine Nat.le_trans (W4 ?_) bd
   rcases Int.lt_trichotomy b.num 0 with h | h | h
   ·rw [Int.sign_eq_neg_one_of_neg h];simp
   ·rw [h];simp
   ·rw [Int.sign_eq_one_of_pos h];simp
  ·split
   ·rw [Th];exact bp
   ·exact bn
 exact Nat.le_trans (Zt1 _ _) (by omega)
theorem Zlk:qs 0=1:=by
 rw [qs]
 simp only [Rat.zero_num,Rat.zero_den,Int.natAbs_zero,Wt,Th]
 simp
theorem Zob:qs 1=1:=by
 rw [qs]
 simp only [Rat.one_num,Rat.one_den,Int.natAbs_one,Th]
 simp
theorem Zs0 {neg:Bool} {num den:List Int} (hd:Zb den≠0):
  Zp (mkRat (Zt (neg,num)) (Zb den))=((neg&&decide (Zb num / Nat.gcd (Zb num) (Zb den)≠0),Ze (Zb num / Nat.gcd (Zb num) (Zb den))),Ze (Zb den / Nat.gcd (Zb num) (Zb den))):=by
 rw [Zp,Rat.num_mkRat,Rat.den_mkRat,if_neg hd,if_neg hd,Zgr,Nat.gcd_comm (Zb den) (Zb num)]
 have hg:Nat.gcd (Zb num) (Zb den)≠0:=fun h=>hd (Nat.gcd_eq_zero_iff.1 h).2
 congr 1
 have e:Zt (neg,num) / ((Nat.gcd (Zb num) (Zb den):Nat):Int)=Zt (neg,Ze (Zb num / Nat.gcd (Zb num) (Zb den))):=by
  rw [Zt,Zt]
  simp only [Z4]
  cases neg
  ·simp
  ·simp only [if_true]
   rw [Int.neg_ediv_of_dvd (Int.natCast_dvd_natCast.2 (Nat.gcd_dvd_left _ _)),Int.natCast_ediv]
 rw [e,Zin,Z4]
theorem Zla {a b:Int} {c d:Nat} (hc:c≠0) (hd:d≠0):mkRat a c<mkRat b d↔a * d<b * c:=by
 have h1:(0:Rat)<(c:Rat):=Rat.natCast_pos.2 (by omega)
 have h2:(0:Rat)<(d:Rat):=Rat.natCast_pos.2 (by omega)
 rw [Rat.mkRat_eq_div,Rat.mkRat_eq_div,Rat.div_lt_iff h1]
 have e:(b:Rat) / d * c=(b:Rat) * c / d:=by
  rw [Rat.div_def,Rat.div_def,Rat.mul_assoc,Rat.mul_assoc,Rat.mul_comm (d:Rat)⁻¹]
 rw [e,Rat.lt_div_iff h2]
 have e1:((a:Rat) * (d:Rat))=((a * (d:Int):Int):Rat):=by rw [Rat.intCast_mul];rfl
 have e2:((b:Rat) * (c:Rat))=((b * (c:Int):Int):Rat):=by rw [Rat.intCast_mul];rfl
 rw [e1,e2,Rat.intCast_lt_intCast]
theorem Zsm {a b:Int} {c d:Nat} (hc:c≠0) (hd:d≠0):mkRat a c=mkRat b d↔a * d=b * c:=Rat.mkRat_eq_iff hc hd
def Sm (a b:Rat):Int:=if a<b then -1 else if b<a then 1 else 0
def Zcp (a b:Int):Int:=if a<b then -1 else if b<a then 1 else 0
def Q9 (a:Rat):Int:=Sm a 0
theorem Ztx {a b:Int} {c d:Nat} (hc:c≠0) (hd:d≠0):Sm (mkRat a c) (mkRat b d)=Zcp (a * d) (b * c):=by
 unfold Sm Zcp
 simp only [Zla hc hd,Zla hd hc]
theorem Zo6 (a:Int):Zcp a 0=a.sign:=by
 unfold Zcp
 rcases Int.lt_trichotomy a 0 with h | h | h
 ·rw [if_pos h,Int.sign_eq_neg_one_of_neg h]
 ·rw [h];rfl
 ·rw [if_neg (by omega),if_pos h,Int.sign_eq_one_of_pos h]
theorem Z1n (a:QV):Q9 (Xn a)=(Zt a.1).sign:=by
 rw [Q9,Xn,show (0:Rat)=mkRat 0 1 by rw [Rat.zero_mkRat],Ztx (Tf _) (by decide),← Zo6]
 simp
theorem Zt6 (a:QV):Xn a=0↔Zb a.1.2=0:=by
 rw [Xn,Rat.mkRat_eq_zero (Tf _),← Zgr]
 omega
theorem Zll {a:Rat}:Q9 a=0↔a=0:=by
 rw [Q9,Sm]
 constructor
 ·intro h
  split at h
  ·cases h
  ·split at h
   ·cases h
   ·rename_i h1 h2
    exact Rat.le_antisymm (Rat.not_lt.1 h2) (Rat.not_lt.1 h1)
 ·rintro rfl
  rw [if_neg Rat.lt_irrefl,if_neg Rat.lt_irrefl]
theorem Zt5 {a:Rat}:Q9 a<0↔a<0:=by
 rw [Q9,Sm]
 by_cases h:a<0
 ·rw [if_pos h];simp [h]
 ·rw [if_neg h];simp only [h,iff_false];split <;> decide
def Uo (N:Nat) (ab:R1):Option R2:=
  (Zdk N ab.2).bind fun aa=>if (decide (0<(aa.length:Int)))=true then (some aa) else ((Q1 N 1).bind fun ac=>some ac)
theorem Su {N ad ae:Nat} {af ag:Option Addr} {col:Zd} {w0:World} {ab:R1} {r:R2} (c1:Nat) (hm:Uo N ab=some r) (aq:Sl (Za.int .u32) col w0 af ad ab.1.2) (ac:Sl (Za.int .u32) col w0 ag ae ab.2):
    Calls prog 186 #[(.agg #[.bool ab.1.1,.slice af ab.1.2.length ad,.slice ag ab.2.length ae])] w0 (fun e w'=>∃ (col':Zd) (ra1:Option Addr) (rc2:Nat),e= .returned ((.slice ra1 r.length rc2))∧Zi col w0 col' w'∧Zc (Za.int .u32) 79 c1 col' w' ra1 rc2 r):=by
 refine Xk 2 (m:=12) func186 rfl rfl rfl rfl rfl ?_;rw [Uo.eq_1] at hm;have aa:=St.start col w0;refine go ?_;refine Ye (col:=(Zj col)) 1 rfl ?_;intro ar au av ah ai;refine go ?_;refine Xu ai ?_;obtain ⟨aw,aj,hm⟩:=bZ hm;replace ac:=ac.keep (Zl.start col w0);replace aa:=aa.grow ah;refine Zh (Zmg 2 aj (ac.ks aa)) ?_;rintro _ ax ⟨ak,ay,az,rfl,al,am⟩;refine ⟨_,rfl,go ?_⟩;replace aa:=aa.grow al;refine Zr hm (fun hb hm=>go ?_) fun hb hm=>go ?_
 ·cases hm;exact ⟨rfl,_,_,_,rfl,aa.fin (cm [(2,c1)]),aa.fo am⟩
 obtain ⟨a0,an,hm⟩:=bZ hm;refine Zh (Zen (col:=ak) 3 an) ?_;rintro _ a1 ⟨a2,a3,a4,rfl,ao,ap⟩;refine ⟨_,rfl,go ?_⟩;cases hm;replace aa:=aa.grow ao;exact ⟨rfl,_,_,_,rfl,aa.fin (cm [(3,c1)]),aa.fo ap⟩
def Zgf (aa:Bool) (ab:List Int):Option R4:=
  some (aa,ab)
def Qd (N:Nat) (ab:Bool) (ac:List Int):Option R4:=
  (Zdk N ac).bind fun aa=>if ab=true then (Zgf (decide (0<(aa.length:Int))) aa) else (Zgf false aa)
theorem Zct {N ao:Nat} {a1:Option Addr} {col:Zd} {w0:World} {ap:Bool} {ah:R2} {r:R4} (c1:Nat) (hm:Qd N ap ah=some r) (h1:Sl (Za.int .u32) col w0 a1 ao ah):
    Calls prog 234 #[.bool ap,.slice a1 ah.length ao] w0 (fun e w'=>∃ (col':Zd) (ra1:Option Addr) (rc2:Nat),e= .returned ((.agg #[.bool r.1,.slice ra1 r.2.length rc2]))∧Zi col w0 col' w'∧Zc (Za.int .u32) 79 c1 col' w' ra1 rc2 r.2):=by
 refine Wi (m:=16) func234 rfl rfl rfl ?_;rw [Qd.eq_1] at hm;have aa:=St.start col w0;refine go ?_;refine Xr (col:=(Zj col)) #[.bool false,.slice none (([]:List Int).length) 0] 1 zeroValue45 ?_;intro ax a4 a5 ay ac;refine go ?_;obtain ⟨ad,az,hm⟩:=bZ hm;replace h1:=h1.keep (Zl.start col w0);replace aa:=aa.grow ay;refine Zh (Zmg 2 az (h1.ks aa)) ?_;rintro _ a6 ⟨a7,aq,ar,rfl,au,ab⟩;refine ⟨_,rfl,?_⟩;refine Zj4 rfl<|Zm<|Zw ?_;replace ac:=ac.gr au;replace aa:=aa.grow au;refine Wp.cutK [4,1000000] (fun f ae=>∃ af ai aj ak ag,Zgf ai ag=some r∧St w0 (Zj col) af ae∧Zc (Za.int .u32) 79 3 af ae aj ak ag∧Zk 45 1 af ae ax #[.bool ai,.slice aj ag.length ak]) ?_ ?_
 ·intro f ae hJ;obtain ⟨af,ai,aj,ak,ag,hm,aa,a0,ac⟩:=hJ;rw [Zgf.eq_1] at hm;refine W7 ?_;cases hm;exact ⟨rfl,_,ra ac.atN,_,_,_,rfl,aa.fin (cm [(3,c1)]),aa.fo a0⟩
 refine go ?_;refine X1 hm (fun al hm=>go ?_) fun al hm=>go ?_
 ·refine lV (.bool (decide (0<(ad.length:Int)))) (Xs (congrArg Value.bool al) rfl)<|Y0 rfl<|lV (.agg #[.bool (decide (0<(ad.length:Int))),.slice aq ad.length ar]) (Wg (l:=[_,_]) (qs:=[(0,1),(1,1)]) underlying45 zeroValue45 ⟨rfl,sizeOf4,rfl,sizeOf43,trivial⟩ rfl)<|Z5 ac ?_;intro a8 av a2 am;refine Zm ?_;replace ab:=ab.kp av;replace ab:=ab.recolSelf 3 (by decide);replace am:=am.recol 2 3 (by decide);replace aa:=aa.kp av a2;replace aa:=aa.recol 2 3 (by decide) (by decide);exact ⟨rfl,_,_,_,_,_,hm,aa,ab,am⟩
 refine lV (.bool false) (Xl (congrArg Value.bool al) rfl)<|Y0 rfl<|lV (.agg #[.bool false,.slice aq ad.length ar]) (Wg (l:=[_,_]) (qs:=[(0,1),(1,1)]) underlying45 zeroValue45 ⟨rfl,sizeOf4,rfl,sizeOf43,trivial⟩ rfl)<|Z5 ac ?_;intro a9 aw a3 an;refine Zm ?_;replace ab:=ab.kp aw;replace ab:=ab.recolSelf 3 (by decide);replace an:=an.recol 2 3 (by decide);replace aa:=aa.kp aw a3;replace aa:=aa.recol 2 3 (by decide) (by decide);exact ⟨rfl,_,_,_,_,_,hm,aa,ab,an⟩
def Zii (N:Nat) (aa:R4) (ab:R4):Option R4:=
  (S8 N aa.2 ab.2).bind fun ad=>(Qd N (!decide (aa.1=ab.1)) ad).bind fun ac=>some (ac.1,ac.2)
theorem Zye {N ar au:Nat} {av aw:Option Addr} {col:Zd} {w0:World} {ag ah r:R4} (c1:Nat) (hm:Zii N ag ah=some r) (al:Sl (Za.int .u32) col w0 av ar ag.2) (am:Sl (Za.int .u32) col w0 aw au ah.2):
    Calls prog 256 #[(.agg #[.bool ag.1,.slice av ag.2.length ar]),(.agg #[.bool ah.1,.slice aw ah.2.length au])] w0 (fun e w'=>∃ (col':Zd) (ra1:Option Addr) (rc2:Nat),e= .returned ((.agg #[.bool r.1,.slice ra1 r.2.length rc2]))∧Zi col w0 col' w'∧Zc (Za.int .u32) 79 c1 col' w' ra1 rc2 r.2):=by
 refine Wi (m:=16) func256 rfl rfl rfl ?_;rw [Zii.eq_1] at hm;have aa:=St.start col w0;refine go ?_;refine Ye (col:=(Zj col)) 1 rfl ?_;intro a7 a8 az a0 ai;refine Ye (col:=az) 2 rfl ?_;intro a9 ba a1 ax aj;refine Xr (col:=a1) #[.bool false,.slice none (([]:List Int).length) 0] 3 zeroValue45 ?_;intro bb bc ad an ab;refine go ?_;refine Wk (col:=ad) [(0,1),(1,0),(2,1),(3,0),(4,1),(5,1),(6,0),(7,1),(8,0),(9,3),(10,3),(11,2)] (by kernel_rfl) (by kernel_rfl)<|xF ⟨_,_,rfl⟩ ?_;replace ai:=(ai.gr ax).gr an;refine xW (fun _ hC=>((ai.atN).nth (q:=0) rfl).gr (hC.bl ad)) ?_;refine xF ⟨_,_,rfl⟩ ?_;replace aj:=aj.gr an;refine xW (fun _ hC=>((aj.atN).nth (q:=0) rfl).gr (hC.bl ad)) ?_;refine xu rfl rfl (fun _=>Zit _ _ underlying4 rfl rfl) ?_;refine xF ⟨_,_,rfl⟩ ?_;refine xW (fun _ hC=>((ai.atN).nth (q:=1) rfl).gr (hC.bl ad)) ?_;refine xF ⟨_,_,rfl⟩ ?_;refine xW (fun _ hC=>((aj.atN).nth (q:=1) rfl).gr (hC.bl ad)) ?_;refine xe rfl rfl ?_;intro bd hC0;have hC:=hC0.bl ad;obtain ⟨be,a2,hm⟩:=bZ hm;replace al:=al.keep (Zl.start col w0);replace am:=am.keep (Zl.start col w0);replace aa:=(((aa.grow a0).grow ax).grow an).grow hC;refine Zh (Zem 4 a2 (al.ks aa) (am.ks aa)) ?_;rintro _ bf ⟨af,bg,bh,rfl,ao,ap⟩;refine ⟨_,rfl,?_⟩;refine Zm<|X0 af hC0 ao<|xe rfl rfl ?_;intro a3 hC0;replace ab:=(ab.gr hC).gr ao;have hC:=hC0.bl af;obtain ⟨bi,a4,hm⟩:=bZ hm;replace ap:=ap.gr hC;refine Zh (Zct 5 a4 (ap.toSlF (Zg.int .u32))) ?_;rintro _ bj ⟨a5,bk,bm,rfl,ae,ac⟩;refine ⟨_,rfl,?_⟩;replace ac:=ac.thaw (Z0 .u32) ae ((Fz.refl (col:=af)).froz 4) (by decide);replace ae:=ae.thawR (col:=af);generalize Xc a3.heap.size af a5=ak at *;refine Zm<|X0 ak hC0 ae<|xe rfl rfl ?_;intro bn hC0;replace aa:=((aa.grow ao).grow hC).grow ae;replace ab:=(ab.gr hC).gr ae;have hC:=hC0.bl ak;replace ab:=ab.gr hC;refine Z5 ab ?_;intro bo ay a6 aq;refine Zm<|xk ak<|Y7 ?_;replace ac:=(ac.gr hC).kp ay;replace aa:=(aa.grow hC).kp ay a6;intro bp hC;replace hC:=hC.bl ak;refine W7 ?_;cases hm;replace ac:=ac.gr hC;replace aq:=aq.gr hC;replace aa:=aa.grow hC;exact ⟨rfl,_,ra aq.atN,_,_,_,rfl,aa.fin (cm [(5,c1)]),aa.fo ac⟩

end Go.Proofs.YtbmjpjhbankpoaaGreat
