/-
  What functions of the program compute, as plain Lean functions (m_..), and proofs that they compute it (c_..). Printed by a program of the author; no conditions.
-/
import Derived.Test.YtpkknichfgooaaaGreatTopBitsBFloat
import Derived.Test.YtpkknichfgooaaaGreatProg
import Derived.Test.YtpkknichfgooaaaGreatTopBitsBBrief
import Derived.Test.YtpkknichfgooaaaGreatTopBitsBMixD
import Derived.Test.YtpkknichfgooaaaGreatTopBitsBThree
import Derived.Test.YtpkknichfgooaaaGreatTopBitsF4
set_option linter.unusedVariables false
set_option maxRecDepth 100000
set_option maxHeartbeats 2000000
namespace Go.Proofs.YtpkknichfgooaaaGreat
open Go Go.RowKit
open Int renaming toNat→aA,ediv_emod_unique→fR,mul_one→eZ,sign_eq_one_of_pos→fN,sign_eq_neg_one_of_neg→gX,tmod→aS,tdiv→aM,toNat_of_nonneg→bA,tdiv_eq_ediv_of_nonneg→bM,tmod_eq_emod_of_nonneg→bS,toNat_natCast→aB,natCast_add→cS
open List renaming replicate→aC,drop_eq_nil_iff→aF,length_take→cC,map→eG,getD_eq_getElem?_getD→aD,getElem?_map→cI,map_take→jW,map_drop→jX,length_map→bE,any_map→kD,mem_map→cD,length_singleton→aL,map_nil→cX,append_nil→dA,mem_cons_self→aK,mem_cons_of_mem→aE,append_assoc→bB,getElem_mem→aJ,nil_append→cB,take_succ_eq_append_getElem→bC,take_of_length_le→bG,take_zero→gS,length→fV,length_replicate→aT
open Nat renaming lt_of_lt_of_le→aG,beq→aH,le_trans→aN,div_le_self→bY,mul_assoc→bJ,le_refl→aV,pow_pos→dO,one_mul→bO,pow_succ→aW,pos_iff_ne_zero→fX
open Rat renaming mkRat_one→gF,mkRat_self→dH,not_lt→bQ,mkRat_mul_mkRat→eI
open Go.IntKind (i8 i16 i32 i64 u8 u16 u32 u64)
open Go.Proofs.Tryz

theorem Z6u:Wk prog 3 1 8:=⟨Tryz.t3,_,rfl,rfl,rfl,rfl,rfl⟩
def Zls (a:List Int) (b:Bool):Option R9:=
  if b=true then (some (([]:List Int),4)) else (some (a,0))
def Ziq (a:List Int):List Int→(List Bool)→Option R9
  | [],b=>(Zj3 a).bind fun c=>if (!decide (c.2=0))=true then (Zls a true) else (Zls a (decide (65536<c.1)))
  | d :: e,b=>(Zn b d).bind fun f=>if f=true then (some (([]:List Int),40)) else ((some (b.set (aA d) true)).bind fun g=>(Ziq a e) g)
def Zip (b:List Int):List Rb→R2→Option R9
  | [],a=>Ziq b a (aC b.length (false:Bool))
  | c :: d,a=>Z1 ((0:Int)≤0∧0≤(a.length:Int)∧(a.length:Int)≤(a.length:Int)∧(a.length:Int)≤(a.length:Int)) (Z1 (((a.take (aA (a.length:Int))).length+[c.1].length) * 8≤140737488355328∧(a.take (aA (a.length:Int))).length+[c.1].length≤maxLen) ((Zip b d) ((a.take (aA (a.length:Int)))++[c.1])))
def Zov (kk_L2:(Option R9)) (a:Bool):Option R9:=
  if a=true then (some (([]:List Int),3)) else kk_L2
def Zdy (b:Rg) (c a:List Int):List Int→Option R9
  | []=>Z1 (a.length * 1≤281474976710656∧a.length≤maxLen) (Zip a b c)
  | d :: e=>if (decide (d<0))=true then (Zov (Zdy b c a e) true) else (Zov (Zdy b c a e) (decide ((a.length:Int)≤d)))
def Zio (kk_L1:(Option R9)) (a:Bool):Option R9:=
  if a=true then (some (([]:List Int),3)) else kk_L1
def Zbj (c:Rg) (b a:List Int):List Rb→Option R9
  | []=>Zdy c b a b
  | d :: e=>if (decide (d.1<0))=true then (Zio (Zbj c b a e) true) else (if (decide ((a.length:Int)≤d.1))=true then (Zio (Zbj c b a e) true) else (if (decide (d.2<0))=true then (Zio (Zbj c b a e) true) else ((Zn a d.1).bind fun f=>Zio (Zbj c b a e) (decide (f≤d.2)))))
def Zft (N:Nat) (a:R1) (b:Rg) (d:List Int):Option R9:=
  (Ue N (a.1,a.2.1,a.2.2.1,a.2.2.2.1,a.2.2.2.2)).bind fun c=>if (!decide (c=0))=true then (some (([]:List Int),c)) else ((Zlv (a.1,a.2.1,a.2.2.1,a.2.2.2.1,a.2.2.2.2)).bind fun e=>Zbj b d e b)
theorem Zuw {N ax ay az a0 a3 a4:Nat} {V I a7 a8 a1 a2:Option Addr} {col:Zg} {h:World} {s:R1} {p:Rg} {u:R2} {r:R9} (c1:Nat) (a:Zft N s p u=some r) (T:Sl Zc.str col h V ax s.2.1) (af:Sl rV col h I ay s.2.2.1) (S:Sl rP col h a7 az s.2.2.2.1) (R:Sl (Zc.slice rQ) col h a8 a0 s.2.2.2.2) (v:Sl (Zc.pair rI rI) col h a1 a3 p) (z:Sl rI col h a2 a4 u):
    Calls prog 22 #[(.agg (Rt s V ax I ay a7 az a8 a0)),.slice a1 p.length a3,.slice a2 u.length a4] h (fun e w'=>∃ (col':Zg) (E:Option Addr) (D:Nat),e= .returned (.tuple #[.slice E r.1.length D,.int .i64 r.2])∧Zl col h col' w'∧Zb rI 3 c1 col' w' E D r.1):=by
 refine Zde 6 7 (m:=121) (args:=[(.agg (Rt s V ax I ay a7 az a8 a0)),.slice a1 p.length a3,.slice a2 u.length a4]) func22 O O O O O ?_;rw [Zft.eq_1] at a;have b:=St.start col h;refine go ?_;refine Xj (col:=(Zk col)) 1 O fun _ _ I E ai=>go ?_;refine lV _ (Zz isAgg27 sizeOf27 ai) ?_;obtain ⟨_,D,a⟩:=bZ a;replace T:=T.k0;replace af:=af.k0;replace S:=S.k0;replace R:=R.k0;replace b:=b.grow E;refine Zh (Zkx D (T.ks b) (af.ks b) (S.ks b) (R.ks b)) fun _ _ ⟨e',J⟩=>⟨_,e',?_⟩;replace J:=Ru I J;refine go ?_;replace v:=v.k0;replace z:=z.k0;replace b:=b.grow J;refine Zp a (fun o a=>go ?_) fun o a=>go ?_
 ·cases a;exact ⟨O,_,none,0,O,b.fin (cm []),Zb.nil⟩
 refine lV _ (Zz isAgg27 sizeOf27 (ai.gr J)) ?_;obtain ⟨m,V,a⟩:=bZ a;refine Zh (Z4b 2 V (T.ks b) (af.ks b) (S.ks b) (R.ks b)) ?_;rintro _ dd ⟨de,B,C,rfl,cb,f⟩;refine ⟨_,O,go ?_⟩;replace b:=b.grow cb;refine Z0 [1,2,28,29,9,1000000] (fun t k R=>∃ Y bl b6,t=b6.length∧p.drop bl=b6∧Zbj p u m b6=some r∧St h (Zk col) Y R∧Zb rI 3 2 Y R B C m∧[30].map k=[.int .i64 bl]) p.length ⟨_,0,_,O,O,a,b,f,O⟩ ?_;clear a;intro t k R Z;obtain ⟨Y,bl,b6,w,l,a,b,f,j⟩:=Z;subst w;refine .lL [30] j ?_
 cases b6 with
 | nil=>
  have i:¬ ((bl:Int)<(p.length:Int)):=by have:=aF.1 l;omega
  have d:=decide_eq_false i;rw [Zbj.eq_1] at a;refine go ?_;refine Yd (congrArg Value.bool d)<|go ?_;refine Z0 [1,2,60,61,9,1000000] (fun t k M=>∃ L b9 ce,t=ce.length∧u.drop b9=ce∧Zdy p u m ce=some r∧St h (Zk col) L M∧Zb rI 3 2 L M B C m∧[62].map k=[.int .i64 b9]) u.length ⟨_,0,_,O,O,a,b,f,O⟩ ?_;clear a;intro t k M Z;obtain ⟨L,b9,ce,w,l,a,b,f,j⟩:=Z;subst w;refine .lL [62] j ?_
  cases ce with
  | nil=>
   have i:¬ ((b9:Int)<(u.length:Int)):=by have:=aF.1 l;omega
   have d:=decide_eq_false i;rw [Zdy.eq_1] at a;refine go ?_;refine Yd (congrArg Value.bool d)<|go ?_;obtain ⟨R,a⟩:=Z5 a;refine T6 (col:=L) (w:=M) (r:=Zc.bool) (n:=m.length) (x0:=false) 3 O underlying98 Tryz.t4 O O O O O O O R.1 R.2 (Se false) fun M _ _ J A=>go ?_;replace f:=f.gr J;replace b:=b.grow J;refine Z0 [14,78,79,9,1000000] (fun t k E=>∃ U n P g db dc,t=dc.length∧p.drop db=dc∧Zip m dc g=some r∧St h (Zk col) U E∧Zb Zc.bool 4 3 U E M m.length (aC m.length (false:Bool))∧Sl rI U E n P g∧Zb rI 3 2 U E B C m∧[80,2].map k=[.int .i64 db,.slice n g.length P]) p.length ⟨_,_,_,_,0,_,O,O,a,b,A,(z.ks b),f,O⟩ ?_;clear a;intro t k E Z;obtain ⟨U,n,P,g,db,dc,w,l,a,b,A,x,f,j⟩:=Z;subst w;refine .lL [80,2] j ?_
   cases dc with
   | nil=>
    have i:¬ ((db:Int)<(p.length:Int)):=by have:=aF.1 l;omega
    have d:=decide_eq_false i;rw [Zip.eq_1] at a;refine go ?_;refine Yd (congrArg Value.bool d)<|go ?_;refine Z0 [9,95,96,1000000] (fun t k D=>∃ K df dg Q dh di,t=di.length∧g.drop dh=di∧Ziq m di Q=some r∧St h (Zk col) K D∧Zb Zc.bool 4 3 K D df dg Q∧Zb rI 3 2 K D B C m∧Sl rI K D n P g∧[97,14].map k=[.int .i64 dh,.slice df Q.length dg]) g.length ⟨_,_,_,_,0,_,O,O,a,b,A,f,x,O⟩ ?_;clear a;intro t k D Z;obtain ⟨K,df,dg,Q,dh,di,w,l,a,b,W,f,x,j⟩:=Z;subst w;refine .lL [97,14] j ?_
    cases di with
    | nil=>
     have i:¬ ((dh:Int)<(g.length:Int)):=by have:=aF.1 l;omega
     have d:=decide_eq_false i;rw [Ziq.eq_1] at a;refine go ?_;refine Yd (congrArg Value.bool d)<|go ?_;obtain ⟨dj,L,a⟩:=bZ a;refine Zh (Zve L (f.toSlF (Ze.int .i64))) fun _ _ ⟨e',I⟩=>⟨_,e',?_⟩;replace I:=Ru K I;refine lM (.tuple #[.int .i64 dj.1,.int .i64 dj.2])<|lV (.int .i64 dj.1) (Xl O O)<|lV (.int .i64 dj.2) (Xl O O)<|Yr O<|Yr O<|Zj<|Zw ?_;replace f:=f.gr I;replace b:=b.grow I;refine Wp.cutK [9,1000000] (fun k D=>∃ E I,Zls m I=some r∧St h (Zk col) E D∧Zb rI 3 2 E D B C m∧[119].map k=[.bool I]) ?_ ?_
     ·intro k D dk;obtain ⟨E,I,a,b,f,j⟩:=dk;rw [Zls.eq_1] at a;refine .lL [119] j ?_;refine Zp a (fun o a=>go ?_) fun o a=>go ?_
      ·cases a;exact ⟨O,_,none,0,O,b.fin (cm []),Zb.nil⟩
      cases a;exact ⟨O,_,_,_,O,b.fin (cm [(2,c1)]),b.fo f⟩
     refine go ?_;refine X9 a (fun L a=>go ?_) fun L a=>go ?_
     ·refine lV (.bool true) (Xw (congrArg Value.bool L) O)<|Zj ?_;exact ⟨O,_,_,a,b,f,O⟩
     refine lV (.bool (decide (65536<dj.1))) (X0 (congrArg Value.bool L) O)<|Zj ?_;exact ⟨O,_,_,a,b,f,O⟩
    | cons cf cg=>
     obtain ⟨q,ch,ci⟩:=Yo l;have i:(dh:Int)<(g.length:Int):=by omega
     have d:=decide_eq_true i;rw [Ziq.eq_2] at a;refine go ?_;refine Ye (congrArg Value.bool d)<|go ?_;refine lI q (x.addr q)<|lW (x.atInt q) ?_;refine go ?_;obtain ⟨_,F,a⟩:=bZ a;refine lI F (W.addr F)<|lW (W.atBool F)<|Zj ?_;refine Zp a (fun o a=>go ?_) fun o a=>go ?_
     ·cases a;exact ⟨O,_,none,0,O,b.fin (cm []),Zb.nil⟩
     refine lI F (W.addr F) ?_;obtain ⟨P,K,a⟩:=bZ a;have K:P=Q.set (aA cf) true:=(Option.some.inj K).symm;refine Zx2 (x1:=true) (v:=(.bool true)) W F O sizeOf4 (Se true) O O (by decide) ?_;intro _ M S w;rw [← K] at w;refine .ld (d:=14) (v:=(.slice df P.length dg)) (congrArg (fun t=>Value.slice df t dg) (show Q.length=P.length by rw [K,nS])) ?_;refine go ?_;replace f:=f.kp M;replace x:=x.kp M;replace b:=b.kp M S;exact ⟨cg.length,by simp,O,⟨_,_,_,_,_,_,O,ch,a,b,w,f,x,(Yv (congrArg (Value.int .i64) (Yp (aG ci x.1.1))) O)⟩⟩
   | cons X ck=>
    obtain ⟨q,cl,cn⟩:=Yo l;have i:(db:Int)<(p.length:Int):=by omega
    have d:=decide_eq_true i;rw [Zip.eq_2] at a;refine go ?_;refine Ye (congrArg Value.bool d)<|go ?_;refine lI q ((v.ks b).addr q) ?_;obtain ⟨_,co,cp⟩:=(v.ks b).atN q;obtain ⟨_,_,rfl,cq,cr⟩:=Yw co;obtain ⟨rfl,_⟩:=cq;obtain ⟨rfl,_⟩:=cr;refine lV (.agg #[.int .i64 X.1,.int .i64 X.2]) (Xi isAgg62 sizeOf62 O O cp)<|Xc (col:=U) #[.int .i64 0,.int .i64 0] 4 zeroValue62 ?_;intro _ _ Q V F;refine Zs F fun _ U Z P=>Zj<|Ym (col:=Q) [(0,1),(1,1),(2,1),(3,1),(4,1),(5,1),(6,1),(7,0),(8,3),(9,2),(10,1)] (by kernel_rfl) (by kernel_rfl)<|xu O O (fun _=>V8 O) ?_;refine xu O O (fun _=>V8 O) ?_;refine xu O O (fun _=>Q4 underlying28 O) ?_;refine xu O O (fun _=>V8 O) ?_;refine xu O O (fun _=>Q4 underlying28 O) ?_;obtain ⟨W,a⟩:=Z5 a;replace x:=(x.gr V).kp U;have w:=(x.take (aA (g.length:Int))).recap (show (g.take (aA (g.length:Int))).length≤(aA (g.length:Int)) by rw [cC (i:=(aA (g.length:Int))) (l:=g)];have:=W.2;omega);refine xu (v:=.slice n (aA (g.length:Int)) (aA (g.length:Int))) O O (fun _=>Z90 underlying28 sizeOf3 O O O W.2.1 W.2.2.1 (by have:=x.1.2;have:=W.2.2.2;omega)) ?_;refine .ld (d:=89) (v:=(.slice n ((g.take (aA (g.length:Int))).length) (aA (g.length:Int)))) (congrArg (fun t=>Value.slice n t (aA (g.length:Int))) (show (aA (g.length:Int))=(g.take (aA (g.length:Int))).length by rw [cC (i:=(aA (g.length:Int))) (l:=g)];have:=W.2;omega)) ?_;refine xF ⟨_,_,O⟩ ?_;refine xW (fun _ c=>((P.atN).nth (q:=0) O).gr (c.bl Q)) ?_;refine xe O O ?_;intro _ n;have c:=n.bl Q;refine Vn (col:=Q) [X.1] 5 fun _ _ T F K=>Zj<|Xb T n F<|xe O O ?_;intro x n;replace A:=(((A.gr V).kp U).gr c).gr F;replace f:=(((f.gr V).kp U).gr c).gr F;replace b:=(((b.grow V).kp U Z).grow c).grow F;replace w:=(w.gr c).gr F;have c:=n.bl T;obtain ⟨n,a⟩:=Z5 a;replace w:=w.gr c;have t:(aA (g.length:Int))=(g.take (aA (g.length:Int))).length:=by have:=w.1.2;rw [cC (i:=(aA (g.length:Int))) (l:=g)] at this ⊢;omega
    refine Z70 (col:=T) (w:=x) (r:=rI) (c:=6) (c2:=6) 6 (xs:=g.take (aA (g.length:Int))) (ys:=[X.1]) w t (NB.int (k:=.i64)) (by simp) ((K.gr c).srcN (NB.int (k:=.i64))) O underlying28 Z6u O O O n.1 n.2 fun _ _ _ Z J S=>Zj<|xk Z<|xu O O (fun _=>Zm6 O) ?_;refine Yf ?_;replace A:=(A.gr c).gr J;replace f:=(f.gr c).gr J;replace b:=(b.grow c).grow J;intro _ c;replace c:=c.bl Z;refine go ?_;replace A:=A.gr c;replace S:=S.gr c;replace f:=f.gr c;replace f:=f.froz 6;replace b:=b.grow c;replace b:=b.froz 6 (by decide) (by decide);exact ⟨ck.length,by simp,O,⟨_,_,_,_,_,_,O,cl,a,b,A.froz 6,(S).toSlF (Ze.int .i64),f,(Yv (congrArg (Value.int .i64) (Yp (aG cn (v.ks b).1.1))) O)⟩⟩
  | cons cx b2=>
   obtain ⟨q,cy,cz⟩:=Yo l;have i:(b9:Int)<(u.length:Int):=by omega
   have d:=decide_eq_true i;rw [Zdy.eq_2] at a;refine go ?_;refine Ye (congrArg Value.bool d)<|go ?_;refine lI q ((z.ks b).addr q)<|lW ((z.ks b).atInt q)<|Yr O<|Zj<|Zw ?_;refine Wp.cutK [1,2,60,61,62,9,1000000] (fun k t=>∃ x A,Zov (Zdy p u m b2) A=some r∧St h (Zk col) x t∧Zb rI 3 2 x t B C m∧[73].map k=[.bool A]) ?_ ?_
   ·intro k t dk;obtain ⟨x,A,a,b,f,j⟩:=dk;rw [Zov.eq_1] at a;refine .lL [73] j ?_;refine Zp a (fun o a=>go ?_) fun o a=>go ?_
    ·cases a;exact ⟨O,_,none,0,O,b.fin (cm []),Zb.nil⟩
    exact ⟨b2.length,by simp,O,⟨_,_,_,O,cy,a,b,f,(Yv (congrArg (Value.int .i64) (Yp (aG cz (z.ks b).1.1))) O)⟩⟩
   refine go ?_;refine X9 a (fun z a=>go ?_) fun z a=>go ?_
   ·refine lV (.bool true) (Xw (congrArg Value.bool z) O)<|Zj ?_;exact ⟨O,_,_,a,b,f,O⟩
   refine lV (.bool (decide ((m.length:Int)≤cx))) (X0 (congrArg Value.bool z) O)<|Zj ?_;exact ⟨O,_,_,a,b,f,O⟩
 | cons H b3=>
  obtain ⟨q,c0,c3⟩:=Yo l;have i:(bl:Int)<(p.length:Int):=by omega
  have d:=decide_eq_true i;rw [Zbj.eq_2] at a;refine go ?_;refine Ye (congrArg Value.bool d)<|go ?_;refine lI q ((v.ks b).addr q) ?_;obtain ⟨_,c4,c5⟩:=(v.ks b).atN q;obtain ⟨_,_,rfl,c6,c7⟩:=Yw c4;obtain ⟨rfl,_⟩:=c6;obtain ⟨rfl,_⟩:=c7;refine lV (.agg #[.int .i64 H.1,.int .i64 H.2]) (Xi isAgg62 sizeOf62 O O c5)<|Xc (col:=Y) #[.int .i64 0,.int .i64 0] 7 zeroValue62 ?_;intro _ _ y X Y;refine Zs Y fun _ q d G=>Zj<|Zw ?_;replace f:=(f.gr X).kp q;replace b:=(b.grow X).kp q d;refine Wp.cutK [1,2,28,29,30,9,1000000] (fun k g=>∃ i l,Zio (Zbj p u m b3) l=some r∧St h (Zk col) i g∧Zb rI 3 2 i g B C m∧[58].map k=[.bool l]) ?_ ?_
  ·intro k g dk;obtain ⟨i,l,a,b,f,j⟩:=dk;rw [Zio.eq_1] at a;refine .lL [58] j ?_;refine Zp a (fun o a=>go ?_) fun o a=>go ?_
   ·cases a;exact ⟨O,_,none,0,O,b.fin (cm []),Zb.nil⟩
   exact ⟨b3.length,by simp,O,⟨_,_,_,O,c0,a,b,f,(Yv (congrArg (Value.int .i64) (Yp (aG c3 (v.ks b).1.1))) O)⟩⟩
  refine Vp (col:=y) (by kernel_rfl) (by kernel_rfl)<|qF ⟨_,_,O⟩ ?_;refine qW (fun _ c=>((G.atN).nth (q:=0) O).gr (c.bl y)) ?_;refine go ?_;refine X9 a (fun k a=>go ?_) fun k a=>go ?_
  ·refine qv (v:=(.bool true)) O (fun _ c=>Xw (congrArg Value.bool k) O) ?_;refine go ?_;refine qP 44 O O<|qP 44 O O<|qP 44 O O<|qv (v:=(.bool true)) O (fun _ c=>Xw O O) ?_;refine go ?_;refine qP 49 O O<|qP 49 O O<|qP 49 O O<|qP 49 O O<|qP 49 O O<|qP 49 O O<|qP 49 O O<|qP 49 O O<|qv (v:=(.bool true)) O (fun _ c=>Xw O O) ?_;refine Wj ?_;intro _ c;replace c:=c.bl y;replace f:=f.gr c;replace b:=b.grow c;exact ⟨O,_,_,a,b,f,O⟩
  refine qF ⟨_,_,O⟩ ?_;refine go ?_;refine qW (fun _ c=>((G.atN).nth (q:=0) O).gr (c.bl y)) ?_;refine go ?_;refine qv (v:=(.bool (decide ((m.length:Int)≤H.1)))) O (fun _ c=>X0 (congrArg Value.bool k) O) ?_;refine go ?_;refine X9 a (fun h a=>go ?_) fun h a=>go ?_
  ·refine qv (v:=(.bool true)) O (fun _ c=>Xw (congrArg Value.bool h) O) ?_;refine go ?_;refine qP 49 O O<|qP 49 O O<|qP 49 O O<|qP 49 O O<|qP 49 O O<|qP 49 O O<|qP 49 O O<|qP 49 O O<|qv (v:=(.bool true)) O (fun _ c=>Xw O O) ?_;refine Wj ?_;intro _ c;replace c:=c.bl y;replace f:=f.gr c;replace b:=b.grow c;exact ⟨O,_,_,a,b,f,O⟩
  refine qF ⟨_,_,O⟩ ?_;refine go ?_;refine qW (fun _ c=>((G.atN).nth (q:=1) O).gr (c.bl y)) ?_;refine go ?_;refine qv (v:=(.bool (decide (H.2<0)))) O (fun _ c=>X0 (congrArg Value.bool h) O) ?_;refine go ?_;refine X9 a (fun j a=>go ?_) fun j a=>go ?_
  ·refine qv (v:=(.bool true)) O (fun _ c=>Xw (congrArg Value.bool j) O) ?_;refine Wj ?_;intro _ c;replace c:=c.bl y;replace f:=f.gr c;replace b:=b.grow c;exact ⟨O,_,_,a,b,f,O⟩
  refine qF ⟨_,_,O⟩ ?_;refine go ?_;refine qW (fun _ c=>((G.atN).nth (q:=1) O).gr (c.bl y)) ?_;refine go ?_;refine qF ⟨_,_,O⟩ ?_;refine go ?_;refine qW (fun _ c=>((G.atN).nth (q:=0) O).gr (c.bl y)) ?_;refine go ?_;obtain ⟨m,d,a⟩:=bZ a;refine qI d (f.addr d) ?_;refine go ?_;refine qW (fun _ c=>(f.gr (c.bl y)).atInt d) ?_;refine go ?_;refine qv (v:=(.bool (decide (m≤H.2)))) O (fun _ c=>X0 (congrArg Value.bool j) O) ?_;refine Wj ?_;intro _ c;replace c:=c.bl y;exact ⟨O,_,_,a,b.grow c,f.gr c,O⟩
def Zr9:Option (List Re):=
  some []
theorem Z33 (cy:Nat) (col:Zg) (w0:World) (r:List Re) (hm:Zr9=some r):
    Zg9 prog 2 23 [] (fun (y:List Int×R0) (col:Zg) (w:World) (args:List Value)=>∃ a0 b a1_0_1 c1_0_1 c d,args=[.slice a0 y.1.length b,.agg #[.bool y.2.1.1,.slice a1_0_1 y.2.1.2.length c1_0_1,.slice c y.2.2.length d]]∧Zb rI 3 cy col w a0 b y.1∧Sl rU col w a1_0_1 c1_0_1 y.2.1.2∧Sl rU col w c d y.2.2) r col w0:=by
 intro l J X hjs hxs hy a;refine Zvh (mc:=1998) (m:=2) (args:=[.func (.yield l) #[] #[]]) func23 rfl rfl rfl rfl ?_;rw [Zr9.eq_1] at hm;have hmk:Yq 1998 col w0 []:=.nil;refine X1 ?_;cases hm;refine ⟨_,[],rfl,hmk,?_⟩;intro g e f;replace a:=hjs _ _ _ _ _ a (e.toP f rfl);exact ⟨⟨_,rfl⟩,_,.inl a⟩
theorem Z61:Wk prog 9 1 16:=⟨Tryz.t9,_,rfl,rfl,rfl,rfl,rfl⟩
def Zgr (a:List ByteArray):Option R4:=
  Z1 ((([]:List ByteArray).length+a.length) * 16≤140737488355328∧([]:List ByteArray).length+a.length≤maxLen) (some (([]:List ByteArray)++a))
theorem Zvf {f:Nat} {i:Option Addr} {col:Zg} {h:World} {c r:R4} (l:Nat) (a:Zgr c=some r) (b:Sl Zc.str col h i f c):
    Calls prog 61 #[.slice i c.length f] h (fun e w'=>∃ (col':Zg) (g:Option Addr) (d:Nat),e= .returned ((.slice g r.length d))∧Zl col h col' w'∧Zb Zc.str 9 l col' w' g d r):=by
 refine Xk 2 (m:=8) func61 O O O O O ?_;rw [Zgr.eq_1] at a;have j:=St.start col h;refine go ?_;replace b:=b.k0;rcases Zso b with k | k
 ·replace a:some ([]:List ByteArray)=some r:=by have b:=k.2;subst b;simpa [Z1,maxLen] using a
  refine lv (v:=.bool i.isNone) O O (Zke underlying22 O)<|.ld (d:=4) (v:=.bool true) (congrArg Value.bool k.1)<|Zj<|Ye O<|go ?_;cases a;exact ⟨O,_,none,0,O,j.fin (cm []),Zb.nil⟩
 refine lv (v:=.bool i.isNone) O O (Zke underlying22 O)<|.ld (d:=4) (v:=.bool false) (congrArg Value.bool k)<|Zj<|Yd O<|go ?_;refine Zr2 (col:=(Zk col)) (r:=Zc.str) 1 O underlying22 Z61 O fun _ _ _ m o=>Wg O ?_;obtain ⟨n,a⟩:=Z5 a;refine Vw o (b.gr m).srcC n fun _ _ _ _ p q=>go ?_;cases a;replace j:=(j.grow m).kpp p;exact ⟨O,_,_,_,O,j.fin (cm [(1,l)]),j.fo q⟩
theorem Z6o:Wk prog 22 1 24:=⟨Tryz.t22,_,rfl,rfl,rfl,rfl,rfl⟩
theorem Z6q:Wk prog 28 1 24:=⟨Tryz.t28,_,rfl,rfl,rfl,rfl,rfl⟩
theorem Z6z:Wk prog 58 1 24:=⟨Tryz.t58,_,rfl,rfl,rfl,rfl,rfl⟩
def Zdz (N:Nat) (e:Int) (f:ByteArray) (g:List ByteArray) (i:List R4) (j:List R2) (c:List R6) (kk_L1:(Int→ByteArray→R4→(List R4)→R8→Ri→Option R1)) (k:List ByteArray) (l:List Int):List R0→R6→Option R1
  | [],b=>Z1 ((c.length+[b].length) * 24≤140737488355328∧c.length+[b].length≤maxLen) (kk_L1 (i64.wrap (e+1)) f g (i++[k]) (j++[l]) (c++[b]))
  | d :: m,b=>(Uk N ((d.1.1,d.1.2),d.2) ((false,([]:List Int)),([]:List Int))).bind fun a=>Z1 ((b.length+[((a.1.1,a.1.2),a.2)].length) * 56≤140737488355328∧b.length+[((a.1.1,a.1.2),a.2)].length≤maxLen) ((Zdz N e f g i j c kk_L1 k l m) (b++[((a.1.1,a.1.2),a.2)]))
def Zcc (N:Nat) (a:R1):Nat→Int→ByteArray→R4→(List R4)→R8→Ri→Option R1
  | 0,_,_,_,_,_,_=>none
  | k+1,b,g,i,c,d,j=>if (decide (b<(a.2.1.length:Int)))=true then ((Zn a.2.2.1 b).bind fun l=>(Zgr l).bind fun e=>Z1 ((c.length+[e].length) * 24≤140737488355328∧c.length+[e].length≤maxLen) ((Zn a.2.2.2.1 b).bind fun m=>(Zer m).bind fun f=>Z1 ((d.length+[f].length) * 24≤140737488355328∧d.length+[f].length≤maxLen) ((Zn a.2.2.2.2 b).bind fun n=>Zdz N b g i c d j (Zcc N a k) e f n ([]:List R0)))) else (some (g,i,c,d,j))
def Zir (N:Nat) (a:R1):Option R1:=
  (Zgr a.2.1).bind fun b=>Zcc N a N 0 a.1 b ([]:List R4) ([]:List R2) ([]:List R6)
theorem Z36 {N ba aw Z af:Nat} {bb ax Y I:Option Addr} {col:Zg} {m:World} {k r:R1} (c1 c2 c3 c4:Nat) (b:Zir N k=some r) (E:Sl Zc.str col m bb ba k.2.1) (bc:Sl rV col m ax aw k.2.2.1) (bd:Sl rP col m Y Z k.2.2.2.1) (be:Sl (Zc.slice rQ) col m I af k.2.2.2.2):
    Calls prog 24 #[(.agg (Rt k bb ba ax aw Y Z I af))] m (fun e w'=>∃ (col':Zg) (z:Option Addr) (y:Nat) (B:Option Addr) (A:Nat) (D:Option Addr) (C:Nat) (q:Option Addr) (p:Nat),e= .returned ((.agg (Rt r z y B A D C q p)))∧Zl col m col' w'∧Zb Zc.str 9 c1 col' w' z y r.2.1∧Zb (Zc.row 9 Zc.str) 22 c2 col' w' B A r.2.2.1∧Zb (Zc.row 3 rI) 28 c3 col' w' D C r.2.2.2.1∧Zb (Zc.row 42 (rO 119)) 58 c4 col' w' q p r.2.2.2.2):=by
 refine Yb (m:=69) func24 O O O ?_;rw [Zir.eq_1] at b;have d:=St.start col m;refine go ?_;refine Xj (col:=(Zk col)) 1 O fun cl _ B C f=>Xc (col:=B) #[.string (⟨#[]⟩),.slice none (([]:List ByteArray).length) 0,.slice none (([]:List R4).length) 0,.slice none (([]:List R2).length) 0,(.slice none (([]:List R6).length) 0)] 2 zeroValue27 fun cn _ q z g=>go ?_;replace f:=f.gr z;refine lV _ (Zz isAgg27 sizeOf27 f)<|Xc (col:=q) #[.string (⟨#[]⟩),.slice none (([]:List ByteArray).length) 0,.slice none (([]:List R4).length) 0,.slice none (([]:List R2).length) 0,(.slice none (([]:List R6).length) 0)] 3 zeroValue27 ?_;intro bl _ _ bs A;refine Zs A fun _ bt B R=>go ?_;refine Xt ⟨_,_,O⟩ ?_;replace f:=(f.gr bs).kp bt;refine lW ((f.atN).nth (q:=1) O) ?_;obtain ⟨A,y,b⟩:=bZ b;replace d:=(((d.grow C).grow z).grow bs).kp bt B;refine Zh (Zvf 4 y (E.k0.ks d)) fun _ _ ⟨C,y,z,J,E,bv⟩=>⟨_,J,?_⟩;refine Xt ⟨_,_,O⟩ ?_;refine Qo (off:=1) (v:=(.slice y A.length z)) (R.gr E) sizeOf22 O O (Rv O O) O O ?_;intro R B de D;replace D:Zi 27 3 C R bl #[.string k.1,.slice y A.length z,.slice ax k.2.2.1.length aw,.slice Y k.2.2.2.1.length Z,.slice I k.2.2.2.2.length af]:=D;refine go ?_;refine Xt ⟨_,_,O⟩ ?_;refine Qo (off:=2) (v:=(.slice none (([]:List R4).length) 0)) D sizeOf23 O O (Rv O O) O O ?_;intro D q dg p;replace p:Zi 27 3 C D bl #[.string k.1,.slice y A.length z,.slice none (([]:List R4).length) 0,.slice Y k.2.2.2.1.length Z,.slice I k.2.2.2.2.length af]:=p;refine Xt ⟨_,_,O⟩ ?_;refine Qo (off:=3) (v:=(.slice none (([]:List R2).length) 0)) p sizeOf24 O O (Rv O O) O O ?_;intro D R di p
 replace p:Zi 27 3 C D bl #[.string k.1,.slice y A.length z,.slice none (([]:List R4).length) 0,.slice none (([]:List R2).length) 0,.slice I k.2.2.2.2.length af]:=p;refine Xt ⟨_,_,O⟩ ?_;refine Qo (off:=4) (v:=(.slice none (([]:List R6).length) 0)) p sizeOf25 O O (Rv O O) O O ?_;intro p D dl o;replace o:Zi 27 3 C p bl #[.string k.1,.slice y A.length z,.slice none (([]:List R4).length) 0,.slice none (([]:List R2).length) 0,(.slice none (([]:List R6).length) 0)]:=o;refine go ?_;refine Xt ⟨_,_,O⟩ ?_;replace f:=((((f.gr E).kp B).kp q).kp R).kp D;refine lW ((f.atN).nth (q:=1) O)<|go ?_;replace g:=((((((g.gr bs).kp bt).gr E).kp B).kp q).kp R).kp D;replace d:=((((d.grow E).kp B de).kp q dg).kp R di).kp D dl;refine Z0 [1,18,2,3,1000000] (fun dk ex p=>∃ t bm u v w L z A S bn bo T F G U H,H=dk∧Zcc N k H bm u L S T U=some r∧St m (Zk col) t p∧Zi 27 1 t p cl (Rt k bb ba ax aw Y Z I af)∧Zi 27 2 t p cn #[.string (⟨#[]⟩),.slice none (([]:List ByteArray).length) 0,.slice none (([]:List R4).length) 0,.slice none (([]:List R2).length) 0,(.slice none (([]:List R6).length) 0)]∧Zb Zc.str 9 4 t p v w L∧Zb (Zc.row 9 Zc.str) 22 5 t p z A S∧Zb (Zc.row 3 rI) 28 6 t p bn bo T∧Zb (Zc.row 42 (rO 119)) 58 7 t p F G U∧Zi 27 3 t p bl #[.string u,.slice v L.length w,.slice z S.length A,.slice bn T.length bo,.slice F U.length G]∧[19].map ex=[.int .i64 bm]) N ⟨_,0,_,_,_,_,none,0,_,none,0,_,none,0,_,_,O,b,d,f,g,(((bv.kp B).kp q).kp R).kp D,Zb.nil,Zb.nil,Zb.nil,o,O⟩ ?_;clear b;intro dk ex p hI;obtain ⟨t,bm,u,v,w,L,z,A,S,bn,bo,T,F,G,U,H,hn,b,d,f,g,h,e2,l,i,o,hs⟩:=hI;subst hn;refine .lL [19] hs ?_;replace bc:=bc.k0
 replace bd:=bd.k0;replace be:=be.k0
 cases H with
 | zero=>rw [Zcc.eq_1] at b;cases b
 | succ H=>
  rw [Zcc.eq_2] at b;refine go ?_;refine Zp b (fun C b=>go ?_) fun C b=>go ?_
  ·refine Ym (col:=t) [(0,1),(1,0),(2,1),(3,0),(4,1),(5,1),(6,0),(7,3),(8,3),(9,2),(10,1),(11,2)] (by kernel_rfl) (by kernel_rfl)<|xF ⟨_,_,O⟩ ?_;refine xW (fun _ a=>((o.atN).nth (q:=2) O).gr (a.bl t)) ?_;refine xF ⟨_,_,O⟩ ?_;refine xW (fun _ a=>((f.atN).nth (q:=2) O).gr (a.bl t)) ?_;refine xu O O (fun _=>Wu O) ?_;obtain ⟨_,B,b⟩:=bZ b;refine xu O O (fun _=>Wd underlying23 sizeOf22 O O (Xo B).1 (Xo B).2.1 ((bc.ks d).addr B)) ?_;obtain ⟨_,dm,dn⟩:=(bc.ks d).atN B;obtain ⟨⟨_,_,rfl,b2⟩,_⟩:=dm;refine xW (fun _ a=>dn.one.gr (a.bl t)) ?_;refine xe O O ?_;intro _ c;have a:=c.bl t;obtain ⟨K,D,b⟩:=bZ b;refine Zh (Zvf 8 D (b2.gr a)) fun _ _ ⟨t,R,y,J,E,p⟩=>⟨_,J,?_⟩;refine Zj<|Xb t c E<|xe O O ?_;intro _ c;replace h:=(h.gr a).gr E;replace e2:=(e2.gr a).gr E;replace l:=(l.gr a).gr E;replace i:=(i.gr a).gr E;replace f:=(f.gr a).gr E;replace g:=(g.gr a).gr E;replace o:=(o.gr a).gr E;replace d:=(d.grow a).grow E;have a:=c.bl t;refine Ui (col:=t) (r:=(Zc.row 9 Zc.str)) (xs:=[K]) [.slice R K.length y] 8 (Wf.cons1 (cs:=[.slice R K.length y]) (p.gr a).has Rows.nil0) fun _ _ y p q=>Zj<|Xb y c p<|xe O O ?_;intro t c;replace h:=(h.gr a).gr p;replace e2:=(e2.gr a).gr p;replace l:=(l.gr a).gr p;replace i:=(i.gr a).gr p;replace f:=(f.gr a).gr p;replace g:=(g.gr a).gr p;replace o:=(o.gr a).gr p;replace d:=(d.grow a).grow p;have a:=c.bl y;obtain ⟨E,b⟩:=Z5 b;replace e2:=e2.gr a;refine Zad (col:=y) (w:=t) (r:=(Zc.row 9 Zc.str)) (c:=5) (c2:=8) (e2.ex) ((q.gr a).srcC (by decide)) O underlying23 Z6o O O O E.1 E.2 (by decide) fun W X _ s y t=>Zj<|xk s<|xF ⟨_,_,O⟩ ?_;refine xe O O ?_;intro _ c;replace h:=(h.gr a).kpp y;replace l:=(l.gr a).kpp y;replace i:=(i.gr a).kpp y;replace f:=(f.gr a).kpp y;replace g:=(g.gr a).kpp y;replace o:=(o.gr a).kpp y;replace d:=(d.grow a).kpp y;have a:=c.bl s;replace o:=o.gr a
   refine Qo (off:=2) (v:=(.slice W ((S++[K]).length) X)) o sizeOf23 O O (Rv O O) O O ?_;intro E A C M;replace M:Zi 27 3 s E bl #[.string u,.slice v L.length w,.slice W ((S++[K]).length) X,.slice bn T.length bo,.slice F U.length G]:=M;refine Zj<|xk s ?_;have j:=((t.gr a).kp A).new;refine Yf ?_;replace h:=(h.gr a).kp A;replace l:=(l.gr a).kp A;replace i:=(i.gr a).kp A;replace f:=(f.gr a).kp A;replace g:=(g.gr a).kp A;replace d:=(d.grow a).kp A C;intro _ a;replace a:=a.bl s;refine Zw<|Ym (col:=s) [(0,1),(1,0),(2,1),(3,0),(4,1),(5,1),(6,0),(7,3),(8,3),(9,2),(10,1),(11,2)] (by kernel_rfl) (by kernel_rfl)<|xF ⟨_,_,O⟩ ?_;replace M:=M.gr a;refine xW (fun _ a=>((M.atN).nth (q:=3) O).gr (a.bl s)) ?_;refine xF ⟨_,_,O⟩ ?_;replace f:=f.gr a;refine xW (fun _ a=>((f.atN).nth (q:=3) O).gr (a.bl s)) ?_;refine xu O O (fun _=>Wu O) ?_;obtain ⟨_,t,b⟩:=bZ b;replace d:=d.grow a;refine xu O O (fun _=>Wd underlying24 sizeOf28 O O (Xo t).1 (Xo t).2.1 ((bd.ks d).addr t)) ?_;obtain ⟨_,dt,du⟩:=(bd.ks d).atN t;obtain ⟨⟨_,_,rfl,b8⟩,_⟩:=dt;refine xW (fun _ a=>du.one.gr (a.bl s)) ?_;refine xe O O ?_;intro _ c;replace h:=h.gr a;replace j:=j.gr a;replace l:=l.gr a;replace i:=i.gr a;replace g:=g.gr a;have a:=c.bl s;obtain ⟨e3,s,b⟩:=bZ b;refine Zh (Zq6 9 s (b8.gr a)) fun _ _ ⟨s,q,t,J,R,E⟩=>⟨_,J,?_⟩;refine Zj<|Xb s c R<|xe O O ?_;intro _ c;replace h:=(h.gr a).gr R;replace j:=(j.gr a).gr R;replace l:=(l.gr a).gr R;replace i:=(i.gr a).gr R;replace f:=(f.gr a).gr R;replace g:=(g.gr a).gr R;replace M:=(M.gr a).gr R;replace d:=(d.grow a).grow R;have a:=c.bl s;refine Ui (col:=s) (r:=(Zc.row 3 rI)) (xs:=[e3]) [.slice q e3.length t] 9 (Wf.cons1 (cs:=[.slice q e3.length t]) (E.gr a).has Rows.nil0) fun _ _ s q A=>Zj<|Xb s c q<|xe O O ?_;intro z c;replace h:=(h.gr a).gr q;replace j:=(j.gr a).gr q
   replace l:=(l.gr a).gr q;replace i:=(i.gr a).gr q;replace f:=(f.gr a).gr q;replace g:=(g.gr a).gr q;replace M:=(M.gr a).gr q;replace d:=(d.grow a).grow q;have a:=c.bl s;obtain ⟨C,b⟩:=Z5 b;replace l:=l.gr a;refine Zad (col:=s) (w:=z) (r:=(Zc.row 3 rI)) (c:=6) (c2:=9) (l.ex) ((A.gr a).srcC (by decide)) O underlying24 Z6q O O O C.1 C.2 (by decide) fun a1 a2 _ q z s=>Zj<|xk q<|xF ⟨_,_,O⟩ ?_;refine xe O O ?_;intro _ c;replace h:=(h.gr a).kpp z;replace j:=(j.gr a).kpp z;replace i:=(i.gr a).kpp z;replace f:=(f.gr a).kpp z;replace g:=(g.gr a).kpp z;replace M:=(M.gr a).kpp z;replace d:=(d.grow a).kpp z;have a:=c.bl q;refine Qo (off:=3) (v:=(.slice a1 ((T++[e3]).length) a2)) (M.gr a) sizeOf24 O O (Rv O O) O O ?_;intro c B M n;replace n:Zi 27 3 q c bl #[.string u,.slice v L.length w,.slice W ((S++[K]).length) X,.slice a1 ((T++[e3]).length) a2,.slice F U.length G]:=n;refine Zj<|xk q ?_;have Q:=((s.gr a).kp B).new;refine Yf ?_;replace h:=(h.gr a).kp B;replace j:=(j.gr a).kp B;replace i:=(i.gr a).kp B;replace f:=(f.gr a).kp B;replace g:=(g.gr a).kp B;replace d:=(d.grow a).kp B M;intro _ a;replace a:=a.bl q;refine go ?_;refine Xt ⟨_,_,O⟩ ?_;replace f:=f.gr a;refine lW ((f.atN).nth (q:=4) O)<|Xy O ?_;obtain ⟨a4,M,b⟩:=bZ b;replace d:=d.grow a;refine lI M ((be.ks d).addr M) ?_;obtain ⟨_,dz,d0⟩:=(be.ks d).atN M;obtain ⟨⟨d1,d2,rfl,P⟩,_⟩:=dz;refine lW d0.one<|go ?_;replace h:=h.gr a;replace j:=j.gr a;replace Q:=Q.gr a;replace i:=i.gr a;replace g:=g.gr a;replace n:=n.gr a
   refine Z0 [1,18,19,2,3,48,49,1000000] (fun dk ex R=>∃ x a5 a6 e4 a7 a8,dk=a8.length∧a4.drop a7=a8∧Zdz N bm u L S T U (Zcc N k H) K e3 a8 e4=some r∧St m (Zk col) x R∧Zi 27 1 x R cl (Rt k bb ba ax aw Y Z I af)∧Zi 27 2 x R cn #[.string (⟨#[]⟩),.slice none (([]:List ByteArray).length) 0,.slice none (([]:List R4).length) 0,.slice none (([]:List R2).length) 0,(.slice none (([]:List R6).length) 0)]∧Zb Zc.str 9 4 x R v w L∧Zb (Zc.row 9 Zc.str) 22 5 x R W X (S++[K])∧Zb (Zc.row 3 rI) 28 6 x R a1 a2 (T++[e3])∧Zb (Zc.row 42 (rO 119)) 58 7 x R F G U∧Zi 27 3 x R bl #[.string u,.slice v L.length w,.slice W ((S++[K]).length) X,.slice a1 ((T++[e3]).length) a2,.slice F U.length G]∧Sl rQ x R d1 d2 a4∧Zb (rO 119) 42 10 x R a5 a6 e4∧[50,5].map ex=[.int .i64 a7,.slice a5 e4.length a6]) a4.length ⟨_,none,0,_,0,_,O,O,b,d,f,g,h,j,Q,i,n,P,Zb.nil,O⟩ ?_;clear b;intro dk ex R hI;obtain ⟨x,a5,a6,e4,a7,a8,hn,hl,b,d,f,g,h,j,Q,i,n,P,V,hs⟩:=hI;subst hn;refine .lL [50,5] hs ?_
   cases a8 with
   | nil=>
    have G:¬ ((a7:Int)<(a4.length:Int)):=by have:=aF.1 hl;omega
    have E:=decide_eq_false G;rw [Zdz.eq_1] at b;refine go ?_;refine Yd (congrArg Value.bool E)<|go ?_;refine Xp n<|Wg O<|Ui (col:=x) (r:=(Zc.row 42 (rO 119))) (xs:=[e4]) [.slice a5 e4.length a6] 10 (Wf.cons1 (cs:=[.slice a5 e4.length a6]) V.has Rows.nil0) ?_;intro _ F m s M;obtain ⟨I,b⟩:=Z5 b;replace i:=i.gr s;refine Zad (col:=m) (w:=F) (r:=(Zc.row 42 (rO 119))) (c:=7) (c2:=10) (i.ex) (M.srcC (by decide)) O underlying25 Z6z O O O I.1 I.2 (by decide) fun Y Z _ I D c=>Xt ⟨_,_,O⟩ ?_;replace n:=(n.gr s).kpp D;refine Qo (off:=4) (v:=(.slice Y ((U++[e4]).length) Z)) n sizeOf25 O O (Rv O O) O O ?_;intro a C m F;replace F:Zi 27 3 I a bl #[.string u,.slice v L.length w,.slice W ((S++[K]).length) X,.slice a1 ((T++[e3]).length) a2,.slice Y ((U++[e4]).length) Z]:=F;have v:=(c.kp C).new;refine go ?_;replace h:=((h.gr s).kpp D).kp C;replace j:=((j.gr s).kpp D).kp C;replace Q:=((Q.gr s).kpp D).kp C;replace f:=((f.gr s).kpp D).kp C;replace g:=((g.gr s).kpp D).kp C;replace d:=((d.grow s).kpp D).kp C m;exact ⟨H,by omega,O,⟨_,_,_,_,_,_,_,_,_,_,_,_,_,_,_,_,O,b,d,f,g,h,j,Q,v,F,O⟩⟩
   | cons ch ea=>
    obtain ⟨u,eb,ec⟩:=Yo hl;have G:(a7:Int)<(a4.length:Int):=by omega
    have E:=decide_eq_true G;rw [Zdz.eq_2] at b;refine go ?_;refine Ye (congrArg Value.bool E)<|go ?_;refine lI u (P.addr u) ?_;obtain ⟨_,ed,ee⟩:=P.atN u;obtain ⟨_,_,rfl,ef,eg⟩:=Yw ed;obtain ⟨_,_,rfl,eh,ei⟩:=Yw ef;obtain ⟨rfl,_⟩:=eh;obtain ⟨⟨ej,ek,rfl,cj⟩,_⟩:=ei;obtain ⟨⟨el,em,rfl,ck⟩,_⟩:=eg;refine lV (.agg #[.bool ch.1.1,.slice ej ch.1.2.length ek,.slice el ch.2.length em]) (Xi isAgg42 sizeOf42 O O ee)<|Xc (col:=x) #[.bool false,(nI),(nI)] 11 zeroValue42 ?_;intro _ _ _ L S;refine Zs S fun _ K S U=>go ?_;refine lV _ (Zz isAgg42 sizeOf42 U)<|lV (.agg #[.bool false,(nI),(nI)]) (Yc (l:=[_,_]) (qs:=[(0,2),(2,1)]) underlying42 zeroValue42 ⟨O,sizeOf40,O,sizeOf38,trivial⟩ O) ?_;obtain ⟨m,T,b⟩:=bZ b;refine Zh (Zb3 12 13 T ((cj.gr L).kp K) ((ck.gr L).kp K) Sl.nil Sl.nil) fun _ _ ⟨G,v,w,x,H,J,c,W,X⟩=>⟨_,J,?_⟩;have J:=Ys.join (Ys.joinL (Se m.1.1) W.has) X.has (by decide) (by decide);replace h:=((h.gr L).kp K).gr c;replace h:=h.recol 13 12;replace j:=((j.gr L).kp K).gr c;replace j:=j.recol 13 12;replace Q:=((Q.gr L).kp K).gr c;replace Q:=Q.recol 13 12;replace i:=((i.gr L).kp K).gr c;replace i:=i.recol 13 12;replace P:=((P.gr L).kp K).gr c;replace P:=P.recol 13 12;replace V:=((V.gr L).kp K).gr c;replace V:=V.recol 13 12;replace f:=((f.gr L).kp K).gr c;replace f:=f.recol 13 12;replace g:=((g.gr L).kp K).gr c;replace g:=g.recol 13 12;replace n:=((n.gr L).kp K).gr c;replace n:=n.recol 13 12;replace d:=((d.grow L).kp K S).grow c;replace d:=d.recol 13 12 (by decide) (by decide)
    refine Ui (col:=(Xq 13 12 G)) (r:=(rO 119)) (xs:=[((m.1.1,m.1.2),m.2)]) [(.agg #[.bool m.1.1,.slice v m.1.2.length w,.slice x m.2.length H])] 12 (Wf.cons1 (cs:=[.bool m.1.1,.slice v m.1.2.length w,.slice x m.2.length H]) J Rows.nil0) ?_;intro _ _ _ a J;obtain ⟨u,b⟩:=Z5 b;refine Vw (c:=10) (c2:=12) (V.gr a) (J.srcC (by decide)) u fun _ _ _ _ t V=>go ?_;replace h:=(h.gr a).kpp t;replace i:=(i.gr a).kpp t;replace P:=(P.gr a).kpp t;replace g:=(g.gr a).kpp t;replace d:=(d.grow a).kpp t;exact ⟨ea.length,by simp,O,⟨_,_,_,_,_,_,O,eb,b,d,(f.gr a).kpp t,g,h,(j.gr a).kpp t,(Q.gr a).kpp t,i,(n.gr a).kpp t,P,V,(Yv (congrArg (Value.int .i64) (Yp (aG ec P.1.1))) O)⟩⟩
  refine lV _ (Zz isAgg27 sizeOf27 o)<|Zs g ?_;intro _ a9 e0 e1;refine go ?_;cases b;replace d:=d.kp a9 e0;exact ⟨O,_,ra e1.atN,_,_,_,_,_,_,_,_,_,O,d.fin (cm [(4,c1),(5,c2),(6,c3),(7,c4)]),d.fo (h.kp a9),d.fo (e2.kp a9),d.fo (l.kp a9),d.fo (i.kp a9)⟩
def Zfs (N:Nat) (a:R1):List R5→Option (List Re)
  | []=>some []
  | c :: d=>(Ziv N (a.1,a.2.1,a.2.2.1,a.2.2.2.1,a.2.2.2.2) c.2).bind fun b=>(Zer c.2).bind fun e=>((Zfs N a d)).bind fun f=>some ((e,((b.1.1.1,b.1.1.2),b.1.2)) :: f)
def Zou (N:Nat) (a:List Int) (b:R1):Option (List Re):=
  (Zmn N a).bind fun c=>Zfs N b c
theorem Z34 (N s:Nat) (col:Zg) (H:World) (S:Nat) (I:Option Addr) (p:Nat) (T:List Int) (i:Sl rI col H I p T) (h:Zi 28 450 col H S #[.slice I T.length p]) (G:Nat) (ba:Option Addr) (K:Nat) (L:Option Addr) (M:Nat) (bb:Option Addr) (P:Nat) (Q:Option Addr) (R:Nat) (j:R1) (c:Sl Zc.str col H ba K j.2.1) (d:Sl rV col H L M j.2.2.1) (e:Sl rP col H bb P j.2.2.2.1) (f:Sl (Zc.slice rQ) col H Q R j.2.2.2.2) (g:Zi 27 450 col H G (Rt j ba K L M bb P Q R)) (r:List Re) (q:Zou N T j=some r):
    Zg9 prog 2 25 [.pointer (some ⟨S,0,none⟩),.pointer (some ⟨G,0,none⟩)] (fun (y:List Int×R0) (col:Zg) (w:World) (args:List Value)=>∃ Y U t v V D,args=[.slice Y y.1.length U,.agg #[.bool y.2.1.1,.slice t y.2.1.2.length v,.slice V y.2.2.length D]]∧Zb rI 3 s col w Y U y.1∧Sl rU col w t v y.2.1.2∧Sl rU col w V D y.2.2) r col H:=by
 intro bc bd be m X hy n;refine Zvh (mc:=1998) (m:=24) (args:=[.func (.yield bc) #[] #[],.pointer (some ⟨S,0,none⟩),.pointer (some ⟨G,0,none⟩)]) func25 O O O O ?_;rw [Zou.eq_1] at q;have b:Yq 1998 col H []:=.nil;refine go ?_;refine Zdn (col:=col) (v:=(.func (.yield bc) #[] #[])) 1001 O O ?_;intro ab U H v o;replace i:=i.gr v;replace c:=c.gr v;replace d:=d.gr v;replace e:=e.gr v;replace f:=f.gr v;replace h:=h.gr v;replace g:=g.gr v;replace b:=b.gr v;replace n:=m _ _ _ _ _ n v.toP;replace o:Zi 66 1001 H U ab #[(.func (.yield bc) #[] #[])]:=o;refine go ?_;refine lW h.at1 ?_;obtain ⟨D,t,q⟩:=bZ q;refine Zh (Z49 1002 t i) fun _ _ ⟨Y,_,e',t,v⟩=>⟨_,e',?_⟩;replace c:=c.gr t;replace d:=d.gr t;replace e:=e.gr t;replace f:=f.gr t;replace i:=i.gr t;replace h:=h.gr t;replace g:=g.gr t;replace o:=o.gr t;replace b:=b.gr t;replace n:=m _ _ _ _ _ n t.toP;refine go ?_;refine Znk (psl:=[10,11]) (arr:=(fun (y:Int×List Int) (col:Zg) (w:World) (args:List Value)=>∃ U V,args=[.int .i64 y.1,.slice U y.2.length V]∧Zb rI 3 1002 col w U V y.2)) (ys:=D) (col:=Y) 1999 O v O b O O (by rintro _ _ _ _ ⟨_,_,rfl,_⟩;rfl) (fun D x E=>∃ (r:List Re),Zfs N j D=some r∧bd r x E∧Sl Zc.str x E ba K j.2.1∧Sl rV x E L M j.2.2.1∧Sl rP x E bb P j.2.2.2.1∧Sl (Zc.slice rQ) x E Q R j.2.2.2.2∧Zi 27 450 x E G (Rt j ba K L M bb P Q R)∧Zi 66 1001 x E ab #[(.func (.yield bc) #[] #[])]∧Sl rI x E I p T∧Zi 28 450 x E S #[.slice I T.length p]) (fun c_ x E=>(c_= .ret∧be x E)) ?_ ?_ ⟨r,q,n,c,d,e,f,g,o,i,h⟩ ?_ ?_ ?_
 ·intro D x E U H bf z;obtain ⟨r,q,n,c,d,e,f,g,o,i,h⟩:=bf;exact ⟨r,q,(m _ _ _ _ _ n (z.mono fun _=>Zzl)),c.kpp z O,d.kpp z O,e.kpp z O,f.kpp z O,g.kpp z O,o.kpp z O,i.kpp z O,h.kpp z O⟩
 ·intro c_ x E U H J z;obtain ⟨rfl,J⟩:=J;exact ⟨O,X _ _ _ _ J (z.mono fun _=>Zzl)⟩
 ·intro _ _ _ _ _ x E args bf a b C;obtain ⟨r,q,n,c,d,e,f,g,o,i,h⟩:=bf;rw [Zfs.eq_2] at q;have k:=Zu.refl (pC 1) x E;obtain ⟨_,_,rfl,Z⟩:=C;refine go ?_;refine ⟨_,a,?_⟩;intro T _ Y z V;replace c:=c.kp Y;replace d:=d.kp Y;replace e:=e.kp Y;replace f:=f.kp Y;replace Z:=Z.kp Y;replace i:=i.kp Y;replace g:=g.kp Y;replace o:=o.kp Y;replace h:=h.kp Y;replace b:=b.kp Y;replace k:=k.kp Y z O;replace n:=m _ _ _ _ _ n (Y.toP z O);have a:=V;refine go ?_;refine lV _ (Zz isAgg27 sizeOf27 g)<|Wg O ?_;obtain ⟨bg,p,q⟩:=bZ q;refine Zh (Z4a 1003 1004 p (c.froz 1002) (d.froz 1002) (e.froz 1002) (f.froz 1002) (Z.toSlF (Ze.int .i64))) fun _ _ ⟨C,bh,bi,bj,bk,e',D,A,B⟩=>⟨_,e',?_⟩;replace A:=A.thaw (Zt .u32) D ((Fz.refl (col:=x)).froz 1002);replace B:=B.thaw (Zt .u32) D ((Fz.refl (col:=x)).froz 1002);replace D:=D.thawR (col:=x);generalize Z2 T.heap.size x C=I at *;replace c:=c.gr D;replace d:=d.gr D;replace e:=e.gr D;replace f:=f.gr D;replace Z:=Z.gr D;replace i:=i.gr D;replace g:=g.gr D;replace o:=o.gr D;replace h:=h.gr D;replace a:=a.gr D;replace b:=b.gr D;replace k:=k.gr D;replace n:=m _ _ _ _ _ n D.toP;refine lM (.tuple #[(.agg #[.bool bg.1.1.1,.slice bh bg.1.1.2.length bi,.slice bj bg.1.2.length bk]),.int .i64 bg.2])<|lV (.agg #[.bool bg.1.1.1,.slice bh bg.1.1.2.length bi,.slice bj bg.1.2.length bk]) (Xl O O)<|lV (.int .i64 bg.2) (Xl O O)<|Xc (col:=I) #[.bool false,(nI),(nI)] 1005 zeroValue42 ?_;intro _ _ p S G;replace c:=c.gr S;replace d:=d.gr S;replace e:=e.gr S;replace f:=f.gr S;replace Z:=Z.gr S;replace A:=A.gr S;replace B:=B.gr S;replace i:=i.gr S;replace g:=g.gr S;replace o:=o.gr S;replace h:=h.gr S;replace a:=a.gr S;replace b:=b.gr S;replace k:=k.gr S;replace n:=m _ _ _ _ _ n S.toP;refine Zs G ?_;intro _ T I V
  replace c:=c.kp T;replace d:=d.kp T;replace e:=e.kp T;replace f:=f.kp T;replace Z:=Z.kp T;replace A:=A.kp T;replace B:=B.kp T;replace i:=i.kp T;replace g:=g.kp T;replace o:=o.kp T;replace h:=h.kp T;replace a:=a.kp T;replace b:=b.kp T;replace k:=k.kp T I O;replace n:=m _ _ _ _ _ n (T.toP I O);refine go ?_;refine Ym (col:=p) [(0,0),(1,1),(3,0),(2,3),(4,2),(5,1)] (by kernel_rfl) (by kernel_rfl)<|xW (fun _ l=>o.at1.gr (l.bl p)) ?_;refine xu O O (fun _=>V8 O) ?_;refine xv O O (fun _ l=>Zz isAgg42 sizeOf42 (V.gr (l.bl p))) ?_;refine xe O O ?_;intro S G;have l:=G.bl p;replace c:=c.gr l;replace d:=d.gr l;replace e:=e.gr l;replace f:=f.gr l;replace Z:=Z.gr l;replace A:=A.gr l;replace B:=B.gr l;replace i:=i.gr l;replace g:=g.gr l;replace o:=o.gr l;replace h:=h.gr l;replace a:=a.gr l;replace b:=b.gr l;replace k:=k.gr l;replace n:=m _ _ _ _ _ n l.toP;obtain ⟨ax,v,q⟩:=bZ q;refine Zh (Zq6 1006 v (Z.toSlF (Ze.int .i64))) fun _ _ ⟨z,af,ag,e',C,bl⟩=>⟨_,e',?_⟩;replace bl:=bl.thaw (Zt .i64) C ((Fz.refl (col:=p)).froz 1002);replace C:=C.thawR (col:=p);generalize Z2 S.heap.size p z=Z at *;replace c:=c.gr C;replace d:=d.gr C;replace e:=e.gr C;replace f:=f.gr C;replace A:=A.gr C;replace B:=B.gr C;replace i:=i.gr C;replace g:=g.gr C;replace o:=o.gr C;replace h:=h.gr C;replace a:=a.gr C;replace b:=b.gr C;replace k:=k.gr C;replace n:=m _ _ _ _ _ n C.toP;refine Zj<|Xb Z G C<|xe O O ?_;intro _ G;have l:=G.bl Z;replace c:=c.gr l;replace d:=d.gr l;replace e:=e.gr l;replace f:=f.gr l;replace A:=A.gr l;replace B:=B.gr l;replace bl:=bl.gr l;replace i:=i.gr l;replace g:=g.gr l;replace o:=o.gr l;replace h:=h.gr l;replace a:=a.gr l;replace b:=b.gr l;replace k:=k.gr l;replace n:=m _ _ _ _ _ n l.toP;replace c:=c.froz 1003;replace d:=d.froz 1003;replace e:=e.froz 1003;replace f:=f.froz 1003;replace A:=(A).toSlF (Ze.int .u32);replace B:=B.froz 1003;replace bl:=bl.froz 1003;replace i:=i.froz 1003
  replace g:=g.froz 1003;replace o:=o.froz 1003;replace h:=h.froz 1003;replace a:=a.froz 1003;replace b:=b.froz 1003 (by decide);replace k:=k.froz 1003 O;replace n:=m _ _ _ _ _ n ((Zu.refl _ _ _).froz 1003 O);replace c:=c.froz 1004;replace d:=d.froz 1004;replace e:=e.froz 1004;replace f:=f.froz 1004;replace A:=A.froz 1004;replace B:=(B).toSlF (Ze.int .u32);replace bl:=bl.froz 1004;replace i:=i.froz 1004;replace g:=g.froz 1004;replace o:=o.froz 1004;replace h:=h.froz 1004;replace a:=a.froz 1004;replace b:=b.froz 1004 (by decide);replace k:=k.froz 1004 O;replace n:=m _ _ _ _ _ n ((Zu.refl _ _ _).froz 1004 O);replace c:=c.recol 1006 s (by decide);replace d:=d.recol 1006 s (by decide);replace e:=e.recol 1006 s (by decide);replace f:=f.recol 1006 s (by decide);replace A:=A.recol 1006 s (by decide);replace B:=B.recol 1006 s (by decide);replace bl:=bl.recolSelf s (by decide);replace i:=i.recol 1006 s (by decide);replace g:=g.recol 1006 s (by decide);replace o:=o.recol 1006 s (by decide);replace h:=h.recol 1006 s (by decide);replace a:=a.recol 1006 s (by decide);replace b:=b.recol 1006 s (by decide);replace k:=k.recol 1006 s O;replace n:=m _ _ _ _ _ n ((Zu.refl _ _ _).recol 1006 s O);obtain ⟨a2,F,a3⟩:=bZ q;cases a3;have q:=F;refine ly2 O O O O (hy _ _ _ _ [.slice af ax.length ag,(.agg #[.bool bg.1.1.1,.slice bh bg.1.1.2.length bi,.slice bj bg.1.2.length bk])] n ⟨af,ag,bh,bi,bj,bk,O,bl,A,B⟩) ?_;rintro _ br ⟨W,u,⟨rfl,bf⟩ | ⟨rfl,J⟩⟩
  ·refine ⟨_,O,?_⟩;replace c:=c.kpp u;replace d:=d.kpp u;replace e:=e.kpp u;replace f:=f.kpp u;replace i:=i.kpp u;replace g:=g.kpp u;replace o:=o.kpp u;replace h:=h.kpp u;replace a:=a.kpp u;replace b:=b.kpp u;replace k:=k.trans (u.mono (by first | exact Zbt O | exact Zbs O | exact pCo_pS O | exact fun _=>Zbr | exact fun _ s=>s | exact fun _ _=>O));have n:=bf;refine Zj<|xk W<|xu O O (fun _=>Zg2 _ O) ?_;refine Yf ?_;intro _ l;replace l:=l.bl W;replace c:=c.gr l;replace d:=d.gr l;replace e:=e.gr l;replace f:=f.gr l;replace i:=i.gr l;replace g:=g.gr l;replace o:=o.gr l;replace h:=h.gr l;replace a:=a.gr l;replace b:=b.gr l;replace k:=k.gr l;replace n:=m _ _ _ _ _ n l.toP;refine Yd O<|X1 ?_;exact ⟨_,k,⟨a2,q,n,c,d,e,f,g,o,i,h⟩,a,b⟩
  refine ⟨_,O,?_⟩;replace a:=a.kpp u;replace b:=b.kpp u;replace k:=k.trans (u.mono (by first | exact Zbt O | exact Zbs O | exact pCo_pS O | exact fun _=>Zbr | exact fun _ s=>s | exact fun _ _=>O));have n:=J;refine Zj<|xk W<|xu O O (fun _=>Zg2 _ O) ?_;refine Yf ?_;intro _ l;replace l:=l.bl W;replace a:=a.gr l;replace b:=b.gr l;replace k:=k.gr l;replace n:=X _ _ _ _ n l.toP;refine Ye O<|Y5 ?_;exact ⟨_,k,⟨O,n⟩,a,b⟩
 ·intro a4 x E bf b;obtain ⟨r,q,n,c,d,e,f,g,o,i,h⟩:=bf;rw [Zfs.eq_1] at q;cases q;refine ⟨_,(a4 :: []),O,b,?_⟩;intro _ g h;replace n:=m _ _ _ _ _ n (g.toP h O);exact ⟨⟨_,O⟩,_,.inl n⟩
 intro c_ a7 x E J b;obtain ⟨rfl,J⟩:=J;have n:=J;refine Y5 ?_;refine ⟨_,(a7 :: []),O,b,?_⟩;intro _ a b;replace n:=X _ _ _ _ n (a.toP b O);exact ⟨⟨_,O⟩,_,.inr n⟩
def Zfr (N:Nat) (a:R1):Option (List Re):=
  (Zft N (a.1,a.2.1,a.2.2.1,a.2.2.2.1,a.2.2.2.2) ([]:List Rb) ([]:List Int)).bind fun c=>if (!decide (c.2=0))=true then Zr9 else ((Zir N (a.1,a.2.1,a.2.2.1,a.2.2.2.1,a.2.2.2.2)).bind fun b=>Zou N c.1 (b.1,b.2.1,b.2.2.1,b.2.2.2.1,b.2.2.2.2))
theorem Zuv {N W X b p:Nat} {M P Q R:Option Addr} {col:Zg} {i:World} {l:R1} {r:(List Re)} (E:Nat) (h:Zfr N l=some r) (C:Sl Zc.str col i M W l.2.1) (D:Sl rV col i P X l.2.2.1) (U:Sl rP col i Q b l.2.2.2.1) (T:Sl (Zc.slice rQ) col i R p l.2.2.2.2):
    Calls prog 7 #[(.agg (Rt l M W P X Q b R p))] i (fun e w'=>∃ (col':Zg) (q:Value),e= .returned (q)∧Zl col i col' w'∧It prog 2 q (fun (y:List Int×R0) (col:Zg) (w:World) (args:List Value)=>∃ I J d f K L,args=[.slice I y.1.length J,.agg #[.bool y.2.1.1,.slice d y.2.1.2.length f,.slice K y.2.2.length L]]∧Zb rI 3 E col w I J y.1∧Sl rU col w d f y.2.1.2∧Sl rU col w K L y.2.2) r q0 col' w'):=by
 refine Xk 2 (m:=16) func7 O O O O O ?_;rw [Zfr.eq_1] at h;have b:=St.start col i;refine go ?_;refine Xj (col:=(Zk col)) 1 O fun _ _ _ m v=>lv (v:=_) O O (Uf O)<|go ?_;refine lV _ (Zz isAgg27 sizeOf27 v) ?_;obtain ⟨x,j,h⟩:=bZ h;replace C:=C.k0;replace D:=D.k0;replace U:=U.k0;replace T:=T.k0;replace b:=b.grow m;refine Zh (Zuw 2 j (C.ks b) (D.ks b) (U.ks b) (T.ks b) Sl.nil Sl.nil) fun _ _ ⟨o,G,H,A,S,m⟩=>⟨_,A,?_⟩;refine lM (.tuple #[.slice G x.1.length H,.int .i64 x.2])<|lV (.slice G x.1.length H) (Xl O O)<|lV (.int .i64 x.2) (Xl O O)<|Za5 (col:=o) (v:=(nI)) 3 O zeroValue28 ?_;intro z c Z f Y;replace Y:Zi 28 3 Z c z #[(nI)]:=Y;refine Ur (v:=(.slice G x.1.length H)) Y sizeOf28 O O (Rv O O) O O ?_;intro g d n j;replace j:Zi 28 3 Z g z #[.slice G x.1.length H]:=j;refine go ?_;replace b:=((b.grow S).grow f).kp d n;replace m:=(m.gr f).kp d;refine Zp h (fun a h=>go ?_) fun a h=>go ?_
 ·refine lA (.func (.func 23) #[] #[])<|go ?_;refine ⟨O,Uc i.heap.size col Z (fun a=>0),_,O,b.fin (fun a=>0),23,[],O,call23,?_⟩;intro g B t c;exact Z33 E g B r h
 refine lV _ (Zz isAgg27 sizeOf27 (((v.gr S).gr f).kp d)) ?_;obtain ⟨F,k,h⟩:=bZ h;refine Zh (Z36 4 5 6 7 k (C.ks b) (D.ks b) (U.ks b) (T.ks b)) fun _ _ ⟨u,J,K,L,M,P,Q,R,S,A,q,n,o,k,p⟩=>⟨_,A,?_⟩;refine Xc (col:=u) #[.string (⟨#[]⟩),.slice none (([]:List ByteArray).length) 0,.slice none (([]:List R4).length) 0,.slice none (([]:List R2).length) 0,(.slice none (([]:List R6).length) 0)] 8 zeroValue27 fun V _ I v s=>Zs s fun _ u A s=>go ?_;refine lV (.func (.func 25) #[] #[.pointer (some ⟨z,0,none⟩),.pointer (some ⟨V,0,none⟩)]) (Zs8 O O)<|lA (.func (.func 25) #[] #[.pointer (some ⟨z,0,none⟩),.pointer (some ⟨V,0,none⟩)])<|go ?_;replace m:=((m.gr q).gr v).kp u;replace m:=(m).toSlF (Ze.int .i64);replace n:=(n.gr v).kp u;replace n:=n.froz 2;replace o:=(o.gr v).kp u;replace o:=o.froz 2;replace k:=(k.gr v).kp u;replace k:=k.froz 2;replace p:=(p.gr v).kp u;replace p:=p.froz 2;replace j:=((j.gr q).gr v).kp u;replace j:=j.froz 2;replace s:=s.froz 2;replace b:=((b.grow q).grow v).kp u A;replace b:=b.froz 2 (by decide) (by decide);replace m:=m.froz 4;replace n:=(n).toSlF Ze.str;replace o:=o.froz 4;replace k:=k.froz 4;replace p:=p.froz 4;replace j:=j.froz 4;replace s:=s.froz 4;replace b:=b.froz 4 (by decide) (by decide);replace m:=m.froz 5;replace n:=n.froz 5;replace o:=(o).toSlF (Ze.row Ze.str);replace k:=k.froz 5;replace p:=p.froz 5;replace j:=j.froz 5;replace s:=s.froz 5;replace b:=b.froz 5 (by decide) (by decide);replace m:=m.froz 6;replace n:=n.froz 6;replace o:=o.froz 6;replace k:=(k).toSlF (Ze.row (Ze.int .i64));replace p:=p.froz 6;replace j:=j.froz 6;replace s:=s.froz 6;replace b:=b.froz 6 (by decide) (by decide);replace k:=k.froz 7
 replace b:=b.froz 7 (by decide) (by decide);have q:=b.finBox (G:=(fun a=>bif aH a 3 then 450 else bif aH a 8 then 450 else 0)) (j.froz 7) (by decide) (by decide) (show (fun a=>bif aH a 3 then 450 else bif aH a 8 then 450 else 0) 3=450 from O);have d:=b.finSl (g:=(fun a=>bif aH a 3 then 450 else bif aH a 8 then 450 else 0)) O (m.froz 7);have f:=b.finBox (G:=(fun a=>bif aH a 3 then 450 else bif aH a 8 then 450 else 0)) (s.froz 7) (by decide) (by decide) (show (fun a=>bif aH a 3 then 450 else bif aH a 8 then 450 else 0) 8=450 from O);have Z:=b.finSl (g:=(fun a=>bif aH a 3 then 450 else bif aH a 8 then 450 else 0)) O (n.froz 7);have Y:=b.finSl (g:=(fun a=>bif aH a 3 then 450 else bif aH a 8 then 450 else 0)) O (o.froz 7);have U:=b.finSl (g:=(fun a=>bif aH a 3 then 450 else bif aH a 8 then 450 else 0)) O k;have T:=b.finSl (g:=(fun a=>bif aH a 3 then 450 else bif aH a 8 then 450 else 0)) O ((p).toSlF (Ze.row (Ze.pair (Ze.pair Ze.bool (Ze.row (Ze.int .u32))) (Ze.row (Ze.int .u32)))));refine ⟨O,Uc i.heap.size col (Xg 7 (Xg 6 (Xg 5 (Xg 4 (Xg 2 I))))) (fun a=>bif aH a 3 then 450 else bif aH a 8 then 450 else 0),_,O,b.fin (fun a=>bif aH a 3 then 450 else bif aH a 8 then 450 else 0),25,[.pointer (some ⟨z,0,none⟩),.pointer (some ⟨V,0,none⟩)],O,call25,?_⟩;intro g B t c;exact Z34 N E g B z G H x.1 (d.itk t c O) (q.itk t c O) V J K L M P Q R S (F.1,F.2.1,F.2.2.1,F.2.2.2.1,F.2.2.2.2) (Z.itk t c O) (Y.itk t c O) (U.itk t c O) (T.itk t c O) (f.itk t c O) r h
/-! b network whose lists are its own -/
def Vd (x:QV):QV:=Zm (Zq x)
def Uh (n:Z4):Z4:=(n.1,n.2.1,n.2.2.1,n.2.2.2.1,n.2.2.2.2.map (eG Vd))
theorem Zri (x:QV):Zq (Vd x)=Zq x:=Xz _
theorem Zrh (T:List (List QV)) (v:Nat):(T.map (eG Vd)).getD v []=(T.getD v []).map Vd:=by
 rw [aD,aD,cI]
 cases T[v]? with
 | none=>rfl
 | some t=>rfl
theorem Z56 (l:List QV):Y1 (l.map Vd)=Y1 l:=by
 rw [Y1,Y1,List.map_map]
 congr 1
 exact List.map_congr_left fun x _=>Zri x
theorem Zv0 (c:Nat):∀ (m:Nat) (l:List QV),Um c m (l.map Vd)=Um c m l
 | 0,l=>rfl
 | m+1,l=>by rw [Um,Um,← jW,← jX,Z56,Zv0 c m]
theorem Zv3 (vals:List R4) (P:List R2) (T:List (List QV)):∀ m v,Th vals P (T.map (eG Vd)) m v=Th vals P T m v
 | 0,v=>rfl
 | m+1,v=>by rw [Th,Th,Zrh,bE,Zv3 vals P T m]
theorem Zv4 (vals:List R4) (P:List R2) (T:List (List QV)):∀ m v,Q6 vals P (T.map (eG Vd)) m v=Q6 vals P T m v
 | 0,v=>rfl
 | m+1,v=>by rw [Q6,Q6,Zrh,Zv0,Zv4 vals P T m]
theorem Z53 (T:List (List QV)):Zaa (T.map (eG Vd))=Zaa T:=by
 rw [Zaa,Zaa,kD]
 congr 1
 funext t
 show (t.map Vd).any Vk=t.any Vk
 rw [kD]
 congr 1
 funext x
 show Vk (Vd x)=Vk x
 rw [Vk,Vk,Zri]
theorem Z55 {N:Nat} {n:Z4} (hf:Y7 N n):Y7 N (Uh n) where
 ev:=⟨hf.ev.v,hf.ev.p,by show (n.2.2.2.2.map (eG Vd)).length=_;rw [bE];exact hf.ev.t,hf.ev.i,hf.ev.ne⟩
 le:=hf.le
 nm:=hf.nm
 sh:=(Zv3 _ _ _ _ _).trans hf.sh
 en:=(Z53 _).trans hf.en
 su:=(Zv4 _ _ _ _ _).trans hf.su
 tw:=hf.tw
 or:=hf.or
theorem Z57 {n:Z4} {W:Nat} (hs:Ww n W) (hq:∀ t ∈ n.2.2.2.2,Ya (t.map Vd)≤W):Ww (Uh n) W:=by
 refine ⟨hs.nm,hs.vl,hs.pn,fun t a=>?_,fun t a=>?_,fun t a x c=>?_⟩
 ·obtain ⟨u,b,rfl⟩:=cD.1 a
  rw [bE];exact hs.tl u b
 ·obtain ⟨u,b,rfl⟩:=cD.1 a
  exact hq u b
 ·obtain ⟨u,b,rfl⟩:=cD.1 a
  obtain ⟨y,d,rfl⟩:=cD.1 c
  exact ⟨Z9 _,Z9 _⟩
theorem Z54 (n:Z4) (w:List Int) (v:Nat):ent (Uh n) w v=ent n w v:=by
 have hr:∀ (a:List Int) (r:Nat),Sf (Uh n) w a r=Sf n w a r:=fun a=>by
  induction a with
  | nil=>intro r;rfl
  | cons p a b=>intro r;rw [Sf,Sf,b];rfl
 have c:Wb (Uh n) w v=Wb n w v:=hr _ _
 have d:Z7 (Uh n) w v=(Z7 n w v).map Vd:=by
  rw [Z7,Z7,c,jW,jX]
  show List.take (cnt n v) (List.drop (Wb n w v * cnt n v) ((n.2.2.2.2.map (eG Vd)).getD v []))=_
  rw [Zrh]
 rw [ent,ent,d]
 generalize (w.getD v 0).toNat=j
 rw [aD,aD,cI]
 cases (Z7 n w v)[j]? with
 | none=>rfl
 | some x=>exact Zri x
theorem Zv1 (n:Z4) (w:List Int):∀ m k q,Y9 (Uh n) w m k q=Y9 n w m k q
 | 0,k,q=>rfl
 | m+1,k,q=>by rw [Y9,Y9,Z54,Zv1 n w m]
section
variable {N W K:Nat} {n:Z4} (hf:Y7 N n) (hs:Ww n W) (hr:Z8 N (8 * K+40)) (hWK:1025 * (W+2)+4≤K) (hN:2000000<N)
include hf hs hr hWK hN
omit hf hs hN in
theorem Zvv (v:Int) (m1:ByteArray) (m2:List ByteArray) (m3:List R4) (m4:List R2) (m5:List (List QV)) (h5:m5.length≤1048576) (kk:Int→ByteArray→List ByteArray→List R4→List R2→List (List QV)→Option Z4) (r1:List ByteArray) (r2:List Int):∀ (l out:List QV),(∀ x ∈ l,Va x∧max x.1.2.length x.2.length≤W)→out.length+l.length≤1048576→
  Zdz N v m1 m2 m3 m4 m5 kk r1 r2 l out=kk (i64.wrap (v+1)) m1 m2 (m3++[r1]) (m4++[r2]) (m5++[out++l.map Vd])
 | [],out,_,a=>by
  rw [Zdz.eq_1,Xh (by simp only [aL,maxLen];omega),cX,dA]
 | x :: l,out,b,a=>by
  obtain ⟨c,f⟩:=b x aK
  have g:RV 0 ((false,([]:List Int)),([]:List Int)):=⟨by simp [Zo],by simp [Zo],by simp,by simp⟩
  have d:Zq ((false,([]:List Int)),([]:List Int))=0:=by rw [Zq];simp [Zr,Za]
  have i:Uk N ((x.1.1,x.1.2),x.2) ((false,([]:List Int)),([]:List Int))=some (Vd x):=by
   have:=Ze4 ((Zbw c.1 c.2).mono f) g (hr.mono (by omega))
   rwa [d,Rat.add_zero] at this
  rw [nC] at a
  rw [Zdz.eq_2,i,oB,Xh (by simp only [aL,maxLen];omega)]
  have e:=Zvv v m1 m2 m3 m4 m5 h5 kk r1 r2 l (out++[Vd x]) (fun y j=>b y (aE _ j)) (by rw [nA,aL];omega)
  rw [bB] at e
  exact e
omit hN in
theorem Zvu:∀ (f v:Nat),v≤n.2.1.length→n.2.1.length<f+v→Zcc N n f (v:Int) n.1 n.2.1 (n.2.2.1.take v) (n.2.2.2.1.take v) ((n.2.2.2.2.take v).map (eG Vd))=some (Uh n)
 | 0,v,g,i=>by omega
 | f+1,v,g,i=>by
  have q:=hf.ev.v;have r:=hf.ev.p;have s:=hf.ev.t;have o:=hf.le
  rw [Zcc.eq_2]
  by_cases hk:v<n.2.1.length
  ·have b:v<n.2.2.1.length:=by omega
   have c:v<n.2.2.2.1.length:=by omega
   have a:v<n.2.2.2.2.length:=by omega
   have j:Zgr n.2.2.1[v]=some n.2.2.1[v]:=by
    have:=hs.vl _ (aJ b)
    rw [Zgr,Xh (by simp only [nN,maxLen];omega),cB]
   have k:Zer n.2.2.2.1[v]=some n.2.2.2.1[v]:=Zre (by have:=hs.pn.ls _ (aJ c);omega)
   have d:=fun x l=>Zhm hf hs hk x (by rw [Yj a];exact l)
   have m:=Zvv hr hWK (v:Int) n.1 n.2.1 (n.2.2.1.take v) (n.2.2.2.1.take v) ((n.2.2.2.2.take v).map (eG Vd)) (by rw [bE,nK];omega) (Zcc N n f) n.2.2.1[v] n.2.2.2.1[v] n.2.2.2.2[v] [] d (by have:=hs.tl _ (aJ a);simpa using this)
   have e:=Zvu f (v+1) (by omega) (by omega)
   rw [bC b,bC c,bC a,List.map_append,List.map_singleton] at e
   rw [if_pos (dT (by omega)),Xd b,oB,j,oB,Xh (by simp only [nK,aL,maxLen];omega),Xd c,oB,k,oB,Xh (by simp only [nK,aL,maxLen];omega),Xd a,oB,m,wS (by omega),cB]
   exact e
  ·rw [if_neg (dF (by omega)),bG (by omega),bG (by omega),bG (by omega)];rfl
theorem Z52:Zir N n=some (Uh n):=by
 have a:=hf.le
 have h:=Zvu hf hs hr hWK N 0 (Nat.zero_le _) (by omega)
 rw [gS,gS,gS,cX] at h
 rw [Zir,Zgr,Xh (by simp only [nN,maxLen];omega),oB,cB]
 exact h
/-! how many -/
def Yx (n:Z4):List Nat:=n.2.2.1.map fV
omit hs hr hWK hN in
theorem Znf:∀ s ∈ Yx n,0<s:=fun s h=>by
 obtain ⟨l,a,rfl⟩:=cD.1 h
 exact List.length_pos_iff.2 (hf.ev.ne l a)
omit hr hWK hf hN hs in
theorem Zxy:∀ (l:List R4) (out:List Int),out.length+l.length≤1048576→Zd1 l out=some (out++Vt (l.map fV))
 | [],out,_=>by rw [Zd1.eq_1,cX,Vt,cX,dA]
 | x :: l,out,h=>by
  rw [nC] at h
  rw [Zd1.eq_2,Xh (by simp only [aL,maxLen];omega),Zxy l _ (by rw [nA,aL];omega),bB];rfl
theorem Z7y (hb:X2 (Yx n)≤65536):Zft N n [] []=some (Vt (Yx n),0):=by
 have b:=hf.ev.v;have f:=hf.le
 have c:Ue N (n.1,n.2.1,n.2.2.1,n.2.2.2.1,n.2.2.2.2)=some 0:=Zvn hf hs (hr.mono (by omega)) hN
 have d:Zlv (n.1,n.2.1,n.2.2.1,n.2.2.2.1,n.2.2.2.2)=some (Vt (Yx n)):=by
  have:=Zxy n.2.2.1 [] (by simp only [nN];omega)
  rw [cB] at this
  rw [Zlv];exact this
 have a:(Vt (Yx n)).length=n.2.1.length:=by rw [Vt,Yx,bE,bE,b]
 have e:=Z1j (Znf hf) hb
 rw [Zft,c,oB,if_neg (by decide),d,oB,Zbj.eq_1,Zdy.eq_1,Xh (by rw [a];simp only [maxLen];omega),Zip.eq_1,Ziq.eq_1,e,oB]
 dsimp only
 rw [if_neg (show ¬ (!decide ((0:Int)=0))=true by decide),decide_eq_false (by omega),Zls,if_neg (by decide)]
omit hs hr hWK hN in
theorem Zrm {w:List Int} (h:Zc8 (Yx n) w):Xr n w:=by
 have f:∀ (L:List R4) (w:List Int),Zc8 (L.map fV) w→w.length=L.length∧∀ i,i<w.length→0≤w.getD i 0∧w.getD i 0<((L.getD i []).length:Int):=by
  intro L
  induction L with
  | nil=>
   intro w a
   cases w with
   | nil=>exact ⟨rfl,fun i b=>by simp at b⟩
   | cons d w=>exact a.elim
  | cons l L g=>
   intro w a
   cases w with
   | nil=>exact a.elim
   | cons d w=>
    obtain ⟨c,e⟩:=g w a.2
    refine ⟨by rw [nC,nC,c],fun i b=>?_⟩
    cases i with
    | zero=>exact a.1
    | succ i=>exact e i (by simpa using b)
 obtain ⟨c,e⟩:=f n.2.2.1 w h
 exact ⟨by rw [c,hf.ev.v],e⟩
omit hs hr hWK hN in
theorem Z2o {w:List Int} (h:Xr n w):Zc8 (Yx n) w:=by
 have c:∀ (L:List R4) (w:List Int),w.length=L.length→(∀ i,i<w.length→0≤w.getD i 0∧w.getD i 0<((L.getD i []).length:Int))→Zc8 (L.map fV) w:=by
  intro L
  induction L with
  | nil=>
   intro w a _
   cases w with
   | nil=>trivial
   | cons d w=>simp at a
  | cons l L e=>
   intro w a b
   cases w with
   | nil=>simp at a
   | cons d w=>
    refine ⟨b 0 (by simp),e w (by simpa using a) fun i f=>?_⟩
    have:=b (i+1) (by simpa using f)
    simpa using this
 exact c n.2.2.1 w (by rw [h.len,hf.ev.v]) h.ok
def Zc9 (n:Z4):Nat→Nat→List (List Int×QV)
 | _,0=>[]
 | k,m+1=>(W6 (Yx n) k,Zm (Y9 n (W6 (Yx n) k) n.2.1.length 0 1)) :: Zc9 n (k+1) m
theorem Zuh (hq:∀ t ∈ n.2.2.2.2,Ya (t.map Vd)≤W) (hb:X2 (Yx n)≤65536):∀ (m k:Nat),k+m=X2 (Yx n)→Zfs N (Uh n) (Zhs (Yx n) k m)=some (Zc9 n k m)
 | 0,k,_=>rfl
 | m+1,k,h=>by
  have c:=Z55 hf
  have d:=Z57 hs hq
  have i:=Zvn c d (hr.mono (by omega)) hN
  have D:=hf.le
  have f:=Zrm hf (Zob (Yx n) k (Znf hf) (by omega))
  obtain ⟨p,e,w,y⟩:=Z5t c d hr hWK hN i (W6 (Yx n) k)
  have o:(decide ((W6 (Yx n) k).length=(Uh n).2.1.length)&&Vr (Uh n) (W6 (Yx n) k) 0)=true:=by
   have:∀ (l:List Int) (j:Nat),(W6 (Yx n) k).drop j=l→Vr (Uh n) l j=true:=by
    intro l
    induction l with
    | nil=>intro j _;rfl
    | cons x l q=>
     intro j b
     have a:j<(W6 (Yx n) k).length:=by
      rcases Nat.lt_or_ge j (W6 (Yx n) k).length with h | h
      ·exact h
      ·rw [List.drop_eq_nil_of_le h] at b;cases b
     rw [List.drop_eq_getElem_cons a] at b
     obtain ⟨A,B⟩:=List.cons.inj b
     have r:=f.ok j a
     rw [Yj a,A] at r
     have s:cnt (Uh n) j=cnt n j:=rfl
     rw [Vr,q (j+1) B,s,decide_eq_false (by omega),decide_eq_false (by omega)];rfl
   rw [this (W6 (Yx n) k) 0 (by rw [List.drop_zero]),Bool.and_true]
   exact decide_eq_true f.len
  rcases y with ⟨_,u⟩ | ⟨_,_,C⟩
  ·rw [o] at u;cases u
  ·have v:Ziv N ((Uh n).1,(Uh n).2.1,(Uh n).2.2.1,(Uh n).2.2.2.1,(Uh n).2.2.2.2) (W6 (Yx n) k)=some (p,e):=w
   have g:(W6 (Yx n) k).length≤1099511627776:=by rw [f.len];omega
   rw [Zhs,Zfs.eq_2]
   dsimp only
   rw [v,oB,Zre g,oB,Zuh hq hb m (k+1) (by omega),oB,C,Zv1]
   rfl
theorem Z7x (hq:∀ t ∈ n.2.2.2.2,Ya (t.map Vd)≤W) (hb:X2 (Yx n)≤65536):Zfr N n=some (Zc9 n 0 (X2 (Yx n))):=by
 have c:=hf.le;have d:=hf.ev.v
 have a:Zft N (n.1,n.2.1,n.2.2.1,n.2.2.2.1,n.2.2.2.2) [] []=some (Vt (Yx n),0):=Z7y hf hs hr hWK hN hb
 have b:Zir N (n.1,n.2.1,n.2.2.1,n.2.2.2.1,n.2.2.2.2)=some (Uh n):=Z52 hf hs hr hWK hN
 have ra:=Z94 (N:=N) (Znf hf) (by rw [Yx,bE];omega) (by omega) hb
 rw [Zfr,a,oB]
 dsimp only
 rw [if_neg (show ¬ (!decide ((0:Int)=0))=true by decide),b,oB,Zou,ra,oB]
 exact Zuh hf hs hr hWK hN hq hb (X2 (Yx n)) 0 (by omega)
end
def Zj6 (N:Nat) (b:R3) (c:R3):Option (R3×R3×Int):=
  (Zd5 N b.2 c.2).bind fun a=>if (!decide (a.2.2=0))=true then (some ((false,([]:List Int)),(false,([]:List Int)),a.2.2)) else ((Sr N (!decide (b.1=c.1)) a.1).bind fun d=>(Sr N b.1 a.2.1).bind fun e=>some ((d.1,d.2),(e.1,e.2),0))
theorem Z5p {N o K:Nat} {L M:Option Addr} {col:Zg} {k:World} {x y:R3} {r:(R3×R3×Int)} (F c2:Nat) (d:Zj6 N x y=some r) (D:Sl rU col k L o x.2) (P:Sl rU col k M K y.2):
    Calls prog 160 #[(.agg #[.bool x.1,.slice L x.2.length o]),(.agg #[.bool y.1,.slice M y.2.length K])] k (fun e w'=>∃ (col':Zg) (i:Option Addr) (g:Nat) (j:Option Addr) (h:Nat),e= .returned (.tuple #[(.agg #[.bool r.1.1,.slice i r.1.2.length g]),(.agg #[.bool r.2.1.1,.slice j r.2.1.2.length h]),.int .i64 r.2.2])∧Zl col k col' w'∧Zb rU 119 F col' w' i g r.1.2∧Zb rU 119 c2 col' w' j h r.2.1.2):=by
 refine Yb (m:=35) func160 O O O ?_;rw [Zj6.eq_1] at d;have c:=St.start col k;refine go ?_;refine Xj (col:=(Zk col)) 1 O fun _ _ u J t=>Xj (col:=u) 2 O fun _ _ v k E=>Xc (col:=v) #[.bool false,(nI)] 3 zeroValue40 fun _ _ w G q=>Xc (col:=w) #[.bool false,(nI)] 4 zeroValue40 fun _ _ _ C f=>go ?_;refine Xt ⟨_,_,O⟩ ?_;replace t:=((t.gr k).gr G).gr C;refine lW ((t.atN).nth (q:=1) O)<|Xt ⟨_,_,O⟩ ?_;replace E:=(E.gr G).gr C;refine lW ((E.atN).nth (q:=1) O) ?_;obtain ⟨u,A,d⟩:=bZ d;replace c:=(((c.grow J).grow k).grow G).grow C;refine Zh (Zn3 5 6 A (D.k0.ks c) (P.k0.ks c)) fun _ _ ⟨p,g,h,i,j,m,z,Q,I⟩=>⟨_,m,?_⟩;refine lM (.tuple #[.slice g u.1.length h,.slice i u.2.1.length j,.int .i64 u.2.2])<|lV (.slice g u.1.length h) (Xl O O)<|lV (.slice i u.2.1.length j) (Xl O O)<|lV (.int .i64 u.2.2) (Xl O O)<|go ?_;replace q:=(q.gr C).gr z;replace t:=t.gr z;replace f:=f.gr z;replace c:=c.grow z;refine Zp d (fun J d=>go ?_) fun J d=>go ?_
 ·refine lV (.agg #[.bool false,(nI)]) (Yc (l:=[_,_]) (qs:=[(0,1),(1,1)]) underlying40 zeroValue40 ⟨O,sizeOf4,O,sizeOf38,trivial⟩ O)<|lV (.agg #[.bool false,(nI)]) (Yc (l:=[_,_]) (qs:=[(0,1),(1,1)]) underlying40 zeroValue40 ⟨O,sizeOf4,O,sizeOf38,trivial⟩ O)<|Xy O<|Zs q ?_;intro _ b S B;replace f:=f.kp b;refine Zs f fun _ n R V=>go ?_;cases d;replace c:=(c.kp b S).kp n R;exact ⟨O,_,Zp3 O O isAgg40 sizeOf40 O O (B.kp n).atN O isAgg40 sizeOf40 O O V.atN O O,_,none,0,none,0,O,c.fin (cm []),Zb.nil,Zb.nil⟩
 refine Ym (col:=p) [(0,1),(1,0),(2,1),(3,0),(4,1),(5,1),(7,1),(8,0),(9,1),(6,3),(10,3),(11,2),(12,2),(13,1)] (by kernel_rfl) (by kernel_rfl)<|xF ⟨_,_,O⟩ ?_;refine xW (fun _ a=>((t.atN).nth (q:=0) O).gr (a.bl p)) ?_;refine xF ⟨_,_,O⟩ ?_;refine xW (fun _ a=>(((E.gr z).atN).nth (q:=0) O).gr (a.bl p)) ?_;refine xu O O (fun _=>Zkf _ _ underlying4 O O) ?_;refine xu O O (fun _=>V8 O) ?_;refine xF ⟨_,_,O⟩ ?_;refine xW (fun _ a=>((t.atN).nth (q:=0) O).gr (a.bl p)) ?_;refine xu O O (fun _=>V8 O) ?_;refine xe O O ?_;intro Y b;have a:=b.bl p;obtain ⟨_,P,d⟩:=bZ d;refine Zh (Za3 7 P ((Q.gr a).toSlF (Ze.int .u32))) fun _ _ ⟨T,_,_,m,o,l⟩=>⟨_,m,?_⟩;replace l:=l.thaw (Zt .u32) o ((Fz.refl (col:=p)).froz 5);replace o:=o.thawR (col:=p);generalize Z2 Y.heap.size p T=w at *;refine Zj<|Xb w b o<|xe O O ?_;intro Z b;replace I:=(I.gr a).gr o;replace q:=(q.gr a).gr o;replace f:=(f.gr a).gr o;replace c:=(c.grow a).grow o;have a:=b.bl w;obtain ⟨_,Q,d⟩:=bZ d;refine Zh (Za3 8 Q ((I.gr a).toSlF (Ze.int .u32))) fun _ _ ⟨U,_,_,m,n,s⟩=>⟨_,m,?_⟩;replace s:=s.thaw (Zt .u32) n ((Fz.refl (col:=w)).froz 6);replace n:=n.thawR (col:=w);generalize Z2 Z.heap.size w U=v at *;refine Zj<|Xb v b n<|xe O O ?_;intro _ b;replace l:=(l.gr a).gr n;replace q:=(q.gr a).gr n;replace f:=(f.gr a).gr n;replace c:=(c.grow a).grow n;have a:=b.bl v;refine Zs (q.gr a) fun _ A W H=>Zj<|xk v<|xe O O ?_;intro _ b;replace l:=(l.gr a).kp A;replace s:=(s.gr a).kp A;replace f:=(f.gr a).kp A;replace c:=(c.grow a).kp A W;have a:=b.bl v;refine Zs (f.gr a) fun _ B X al=>Zj<|xk v<|xu O O (fun _=>Zgz O) ?_;refine Yf ?_;replace l:=(l.gr a).kp B;replace s:=(s.gr a).kp B;replace H:=(H.gr a).kp B;replace c:=(c.grow a).kp B X;intro _ a;replace a:=a.bl v;refine Y5 ?_;cases d;replace c:=c.grow a
 exact ⟨O,_,Zp3 O O isAgg40 sizeOf40 O O (H.gr a).atN O isAgg40 sizeOf40 O O (al.gr a).atN O O,_,_,_,_,_,O,c.fin (cm [(7,F),(8,c2)]),c.fo (l.gr a),c.fo (s.gr a)⟩
def Zj4 (N:Nat) (b:R3) (a:(R3×R3×Int)) (f:Bool):Option (R3×R3×Int):=
  if f=true then (some ((a.1.1,a.1.2),(a.2.1.1,a.2.1.2),a.2.2)) else ((Zet N 1).bind fun c=>(Zgu N (a.1.1,a.1.2) (c.1,c.2)).bind fun d=>(Zes N (a.2.1.1,a.2.1.2) (b.1,b.2)).bind fun e=>some ((d.1,d.2),(e.1,e.2),0))
def Zms (N:Nat) (c:R3) (a:R3):Option (R3×R3×Int):=
  (Zj6 N (c.1,c.2) (a.1,a.2)).bind fun b=>if (!decide (b.2.2=0))=true then (Zj4 N a b true) else ((Q1 N (b.2.1.1,b.2.1.2)).bind fun d=>(Q1 N (a.1,a.2)).bind fun e=>Zj4 N a b (decide (0≤(i64.wrap (d * e)))))
theorem Z5l {N j W:Nat} {g X:Option Addr} {col:Zg} {p:World} {Q w:R3} {r:(R3×R3×Int)} (R c2:Nat) (c:Zms N Q w=some r) (V:Sl rU col p g j Q.2) (bk:Sl rU col p X W w.2):
    Calls prog 143 #[(.agg #[.bool Q.1,.slice g Q.2.length j]),(.agg #[.bool w.1,.slice X w.2.length W])] p (fun e j=>∃ (col':Zg) (u:Option Addr) (s:Nat) (v:Option Addr) (t:Nat),e= .returned (.tuple #[(.agg #[.bool r.1.1,.slice u r.1.2.length s]),(.agg #[.bool r.2.1.1,.slice v r.2.1.2.length t]),.int .i64 r.2.2])∧Zl col p col' j∧Zb rU 119 R col' j u s r.1.2∧Zb rU 119 c2 col' j v t r.2.1.2):=by
 refine Yb (m:=36) func143 O O O ?_;rw [Zms.eq_1] at c;have d:=St.start col p;refine go ?_;refine Xj (col:=(Zk col)) 1 O fun _ _ E D M=>Xj (col:=E) 2 O fun z _ I t o=>Xc (col:=I) #[.bool false,(nI)] 3 zeroValue40 fun U _ L K l=>Xc (col:=L) #[.bool false,(nI)] 4 zeroValue40 fun S _ _ H h=>go ?_;refine lV _ (Zz isAgg40 sizeOf40 (((M.gr t).gr K).gr H)) ?_;replace o:=(o.gr K).gr H;refine lV _ (Zz isAgg40 sizeOf40 o) ?_;obtain ⟨g,s,c⟩:=bZ c;replace bk:=bk.k0;replace d:=(((d.grow D).grow t).grow K).grow H;refine Zh (Z5p 5 6 s (V.k0.ks d) (bk.ks d)) fun _ _ ⟨C,V,Y,Z,s,n,A,k,i⟩=>⟨_,n,?_⟩;refine lM (.tuple #[(.agg #[.bool g.1.1,.slice V g.1.2.length Y]),(.agg #[.bool g.2.1.1,.slice Z g.2.1.2.length s]),.int .i64 g.2.2])<|lV (.agg #[.bool g.1.1,.slice V g.1.2.length Y]) (Xl O O)<|lV (.agg #[.bool g.2.1.1,.slice Z g.2.1.2.length s]) (Xl O O)<|lV (.int .i64 g.2.2) (Xl O O)<|Xc (col:=C) #[.bool false,(nI)] 7 zeroValue40 ?_;intro L _ K I q;refine Xc (col:=K) #[.bool false,(nI)] 8 zeroValue40 fun K _ G E M=>Zs (q.gr E) fun _ D v y=>Zs (M.kp D) fun _ C u B=>Yr O<|Zj<|Zw<|Zw ?_;replace l:=(((((l.gr H).gr A).gr I).gr E).kp D).kp C;replace o:=((((o.gr A).gr I).gr E).kp D).kp C;replace h:=((((h.gr A).gr I).gr E).kp D).kp C;replace d:=((((d.grow A).grow I).grow E).kp D v).kp C u;replace k:=(((k.gr I).gr E).kp D).kp C;replace i:=(((i.gr I).gr E).kp D).kp C;replace y:=y.kp C
 refine Wp.cutK [3,4,5,7,8,9,1000000] (fun H q=>∃ f M,Zj4 N w g M=some r∧St p (Zk col) f q∧Zi 40 2 f q z #[.bool w.1,.slice X w.2.length W]∧Zi 40 3 f q U #[.bool false,(nI)]∧Zi 40 4 f q S #[.bool false,(nI)]∧Zb rU 119 5 f q V Y g.1.2∧Zi 40 7 f q L #[.bool g.1.1,.slice V g.1.2.length Y]∧Zb rU 119 6 f q Z s g.2.1.2∧Zi 40 8 f q K #[.bool g.2.1.1,.slice Z g.2.1.2.length s]∧[26].map H=[.bool M]) ?_ ?_
 ·intro H q S;obtain ⟨f,M,c,d,o,l,h,k,y,i,B,U⟩:=S;rw [Zj4.eq_1] at c;refine .lL [26] U ?_;refine Zp c (fun D c=>?_) fun D c=>go ?_
  ·refine Zw<|Xa9 (col:=f) (pS [3]) [(0,0),(1,5),(2,1),(3,4),(4,2),(5,1)] (by kernel_rfl) (by kernel_rfl)<|xvD (v:=(.agg #[.bool g.1.1,.slice V g.1.2.length Y])) O O (fun _ a=>Xi isAgg40 sizeOf40 O O (y.atN.gr (a.bl f))) ?_;refine xsD (v:=(.agg #[.bool g.2.1.1,.slice Z g.2.1.2.length s])) O O (fun _ a=>Xi isAgg40 sizeOf40 O O (B.dk a O O).atN) ?_;refine xuD (v:=(.int .i64 g.2.2)) O O (fun _=>Wn O) ?_;refine xeD O O ?_;intro p b;have a:=b.bl f;replace k:=k.gr a;replace i:=i.gr a;replace l:=l.gr a;replace h:=h.gr a;replace d:=d.grow a;have t:Zu (pS [3]) f q f p:=a.toP;refine Zs l fun p U z J=>Zj ?_;refine ⟨fun j=>Zl f p f j,fun j=>∃ L,Zu (pS [3]) f p L j,Zl.refl _ _,fun _ m=>⟨_,m.toP⟩,fun m=>absurd m (by decide),fun _ _ ⟨C,m⟩=>⟨C,(t.kp U z O).trans m⟩,?_⟩;refine xeD O O ?_;intro _ b;have a:=b.bl f;replace h:=(h.kp U).gr a;refine Zs h fun q u A T=>Zj ?_;refine ⟨fun j=>Zl f q f j,fun j=>∃ L,Zu (pS [3]) f q L j,Zl.refl _ _,fun _ m=>⟨_,m.toP⟩,fun m=>absurd m (by decide),fun m=>absurd m (by decide),?_⟩;refine xuD (v:=(.int .i64 g.2.2)) O O (fun _=>Uf O) ?_;refine Xbg ?_;replace k:=((k.kp U).gr a).kp u;replace i:=((i.kp U).gr a).kp u;replace d:=((d.kp U z).grow a).kp u A;replace J:=(J.gr a).kp u;intro _ a;replace a:=a.bl f;refine Y5 ?_;cases c;replace k:=k.gr a;replace i:=i.gr a;replace d:=d.grow a;exact ⟨O,_,Zp3 O O isAgg40 sizeOf40 O O (J.gr a).atN O isAgg40 sizeOf40 O O (T.gr a).atN O O,_,_,_,_,_,O,d.fin (cm [(5,R),(6,c2)]),d.fo k,d.fo i⟩
  refine Ym (col:=f) [(0,0),(3,0),(4,0),(1,3),(2,3),(5,3),(6,2),(7,2),(8,1)] (by kernel_rfl) (by kernel_rfl)<|xv O O (fun _ a=>Zz isAgg40 sizeOf40 (y.gr (a.bl f))) ?_;refine xv O O (fun _ a=>Zz isAgg40 sizeOf40 (B.gr (a.bl f))) ?_;refine xv O O (fun _ a=>Zz isAgg40 sizeOf40 (o.gr (a.bl f))) ?_;refine xe O O ?_;intro _ b;have a:=b.bl f;obtain ⟨_,T,c⟩:=bZ c;refine Zh (Zq8 (col:=f) 9 T) fun _ _ ⟨T,_,_,n,H,z⟩=>⟨_,n,?_⟩;refine Zj<|Xb T b H<|xe O O ?_;intro I b;replace k:=(k.gr a).gr H;replace i:=(i.gr a).gr H;replace l:=(l.gr a).gr H;replace h:=(h.gr a).gr H;replace d:=(d.grow a).grow H;have a:=b.bl T;obtain ⟨_,V,c⟩:=bZ c;replace k:=k.gr a;refine Zh (Zvg 10 V ((k.toSlF (Ze.int .u32)).froz 9) (((z.gr a).froz 5).toSlF (Ze.int .u32))) fun _ _ ⟨g,_,_,n,z,x⟩=>⟨_,n,?_⟩;replace x:=x.thaw (Zt .u32) z (((Fz.refl (col:=T)).froz 5).froz 9);replace z:=z.thawR (col:=T);generalize Z2 I.heap.size T g=S at *;refine Zj<|Xb S b z<|xe O O ?_;intro E b;replace i:=(i.gr a).gr z;replace l:=(l.gr a).gr z;replace h:=(h.gr a).gr z;replace d:=(d.grow a).grow z;have a:=b.bl S;obtain ⟨_,Y,c⟩:=bZ c;replace i:=i.gr a;replace d:=d.grow a;refine Zh (Zq7 11 Y (i.toSlF (Ze.int .u32)) ((bk.ks d).froz 6)) fun _ _ ⟨f,_,_,n,A,F⟩=>⟨_,n,?_⟩;replace F:=F.thaw (Zt .u32) A ((Fz.refl (col:=S)).froz 6);replace A:=A.thawR (col:=S);generalize Z2 E.heap.size S f=J at *;refine Zj<|Xb J b A<|xe O O ?_;intro _ b;replace x:=(x.gr a).gr A;replace l:=(l.gr a).gr A;replace h:=(h.gr a).gr A;have a:=b.bl J;replace l:=l.gr a;refine Zs l fun _ f Z P=>Zj<|xk J<|xe O O ?_;intro _ b;replace d:=((d.grow A).grow a).kp f Z;replace x:=(x.gr a).kp f;replace F:=(F.gr a).kp f;replace h:=(h.gr a).kp f;have a:=b.bl J;replace h:=h.gr a;refine Zs h ?_
  intro _ b j ah;refine Zj<|xk J<|xu O O (fun _=>Zgz O) ?_;refine Yf ?_;replace x:=(x.gr a).kp b;replace F:=(F.gr a).kp b;replace P:=(P.gr a).kp b;replace d:=(d.grow a).kp b j;intro _ a;replace a:=a.bl J;refine Y5 ?_;cases c;replace d:=d.grow a;exact ⟨O,_,Zp3 O O isAgg40 sizeOf40 O O (P.gr a).atN O isAgg40 sizeOf40 O O (ah.gr a).atN O O,_,_,_,_,_,O,d.fin (cm [(10,R),(11,c2)]),d.fo (x.gr a),d.fo (F.gr a)⟩
 refine Vp (col:=G) (by kernel_rfl) (by kernel_rfl)<|go ?_;refine X9 c (fun P c=>go ?_) fun P c=>go ?_
 ·refine qv (v:=(.bool true)) O (fun _ a=>Xw (congrArg Value.bool P) O) ?_;refine Wj ?_;intro _ a;replace a:=a.bl G;replace k:=k.gr a;replace i:=i.gr a;replace o:=o.gr a;replace l:=l.gr a;replace h:=h.gr a;replace y:=y.gr a;replace B:=B.gr a;replace d:=d.grow a;exact ⟨O,_,_,c,d,o,l,h,k,y,i,B,O⟩
 refine qv O (fun _ a=>Zz isAgg40 sizeOf40 (B.gr (a.bl G))) ?_;refine go ?_;obtain ⟨v,x,c⟩:=bZ c;refine qc (v:=(.int .i64 v)) O (fun _ a=>⟨_,_,Zg0 call93 O,(Zhl x ((i.gr (a.bl G)).toSlF (Ze.int .u32)):).mono fun _ _ m=>⟨m.1,a.trans (.of_below m.2)⟩⟩) ?_;refine go ?_;refine qv O (fun _ a=>Zz isAgg40 sizeOf40 (o.gr (a.bl G))) ?_;refine go ?_;obtain ⟨n,F,c⟩:=bZ c;refine qc (v:=(.int .i64 n)) O (fun _ a=>⟨_,_,Zg0 call93 O,(Zhl F ((bk.ks d).gr (a.bl G)):).mono fun _ _ m=>⟨m.1,a.trans (.of_below m.2)⟩⟩) ?_;refine go ?_;refine qv (v:=(.bool (decide (0≤(i64.wrap (v * n)))))) O (fun _ a=>X0 (congrArg Value.bool P) O) ?_;refine Wj ?_;intro _ a;replace a:=a.bl G;exact ⟨O,_,_,c,d.grow a,o.gr a,l.gr a,h.gr a,k.gr a,y.gr a,i.gr a,B.gr a,O⟩
def Zlp (N:Nat) (a:R0):Option R3:=
  (Ut N ((a.1.1,a.1.2),a.2)).bind fun c=>(Zms N (a.1.1,a.1.2) (false,c)).bind fun b=>some (b.1.1,b.1.2)
theorem Z3z {N T b:Nat} {S P:Option Addr} {col:Zg} {p:World} {n:R0} {r:R3} (U:Nat) (o:Zlp N n=some r) (G:Sl rU col p S T n.1.2) (Q:Sl rU col p P b n.2):
    Calls prog 100 #[(.agg #[.bool n.1.1,.slice S n.1.2.length T,.slice P n.2.length b])] p (Tt 119 U col p r):=by
 refine Yb (m:=17) func100 O O O ?_;rw [Zlp.eq_1] at o;have h:=St.start col p;refine go ?_;refine Xj (col:=(Zk col)) 1 O fun m _ a x M=>Xc (col:=a) #[.bool false,(nI)] 2 zeroValue40 fun _ R C y s=>go ?_;have d:=Zu.clip (fun _=>false) C R;refine Zbz (col:=C) [(0,1),(1,0),(2,0),(3,3),(4,1),(5,3),(6,1),(7,1),(8,1),(9,1),(10,4),(11,4),(12,2),(13,2),(14,1)] (by kernel_rfl) (by kernel_rfl) ⟨fun a=>absurd a (by decide),fun a=>absurd a (by decide),fun a=>absurd a (by decide),fun a=>absurd a (by decide),fun a=>absurd a (by decide),fun a=>absurd a (by decide),fun a=>absurd a (by decide),fun a=>absurd a (by decide),fun a=>absurd a (by decide),fun a=>absurd a (by decide),fun _=>⟨_,_,_,O,V5 zeroValue40⟩,fun _=>⟨_,_,_,O,V5 zeroValue40⟩,fun a=>absurd a (by decide),fun a=>absurd a (by decide),fun a=>absurd a (by decide),trivial⟩<|X3 (v:=(.pointer ((some (⟨m,0,none⟩:Addr)).map (·.add 0)))) O O (fun _=>Un (sz:=2) (off:=0) underlying42 O sizeOf40 (by decide) O O ⟨_,_,O⟩) ?_;replace M:=(M.gr y).kpp d;refine Wa (v:=(.agg #[.bool n.1.1,.slice S n.1.2.length T])) O O (fun _ c=>Xi isAgg40 sizeOf40 O O (((M.atN).part 0 2 _ O).gr (c.bl (Zd R C)))) ?_;refine Wa (v:=(.agg #[.bool n.1.1,.slice S n.1.2.length T,.slice P n.2.length b])) O O (fun _ c=>Xi isAgg42 sizeOf42 O O (M.atN.gr (c.bl (Zd R C)))) ?_;refine Y6 O O ?_;intro _ b;have c:=b.bl (Zd R C);obtain ⟨C,f,o⟩:=bZ o;replace G:=G.k0;replace h:=(((h.grow x).grow y).kpp d).grow c;refine Zh (Sj 3 f (G.ks h) (Q.k0.ks h)) fun _ q ⟨u,l,v,x,A,H⟩=>⟨_,x,?_⟩;refine Zj ?_;refine ⟨fun k=>Zl (Zd q u) q (Zd q u) k,fun m=>(Zd q u) m=497,Zl.refl _ _,Y3,fun _=>⟨fun _ a=>Wt b A a,fun Z z=>A.below.block Z z,fun m y j=>Wy A m y (by first | exact j | (simp only [Xg,j];rfl) | (simp only [Xg,Xq,j];rfl))⟩,?_⟩;have W:=Zu.clip (fun _=>false) u q;refine X3 (v:=(.agg #[.bool false,.slice l C.length v])) O O (fun _=>Yc (l:=[_,_]) (qs:=[(0,1),(1,1)]) underlying40 zeroValue40 ⟨O,sizeOf4,O,sizeOf38,trivial⟩ O) ?_;refine Y6 O O ?_;intro B b
 replace s:=(((s.kpp d).gr c).gr A).kpp W;have c:=b.bl (Zd q u);obtain ⟨l,e,o⟩:=bZ o;replace h:=((h.grow A).kpp W).grow c;refine Zh (Z5l 4 5 e ((G.ks h).froz 3) (((H.kpp W).gr c).toSlF (Ze.int .u32))) fun _ d ⟨g,A,E,F,L,x,v,w,_⟩=>⟨_,x,?_⟩;replace w:=w.thaw (Zt .u32) v ((Fz.refl (col:=(Zd q u))).froz 3);replace v:=v.thawR (col:=(Zd q u));generalize Z2 B.heap.size (Zd q u) g=e at *;refine Zj ?_;refine ⟨fun k=>Zl (Zd d e) d (Zd d e) k,fun m=>(Zd d e) m=497,Zl.refl _ _,Y3,fun _=>⟨fun _ a=>Wt b v a,fun Z z=>v.below.block Z z,fun m y j=>Wy v m y (by first | exact j | (simp only [Xg,j];rfl) | (simp only [Xg,Xq,j];rfl))⟩,?_⟩;have p:=Zu.clip (fun _=>false) e d;refine X3 (v:=(.tuple #[(.agg #[.bool l.1.1,.slice A l.1.2.length E]),(.agg #[.bool l.2.1.1,.slice F l.2.1.2.length L]),.int .i64 l.2.2])) O O (fun _=>Wn O) ?_;refine X3 (v:=(.agg #[.bool l.1.1,.slice A l.1.2.length E])) O O (fun _=>Xl O O) ?_;refine X3 (v:=(.agg #[.bool l.2.1.1,.slice F l.2.1.2.length L])) O O (fun _=>Xl O O) ?_;refine X3 (v:=(.int .i64 l.2.2)) O O (fun _=>Xl O O) ?_;refine Zaw O O (V5 zeroValue40) fun f i=>Zaw O O (V5 zeroValue40) fun g F=>Y6 O O ?_;intro H ⟨⟨b,hZ0⟩,hZ1⟩;replace s:=((s.gr c).gr v).kpp p;have c:=b.bl (Zd d e);obtain ⟨X,V⟩:=Q7 (col:=(Zd d e)) 6 hZ0 i;replace V:Zi 40 6 (Zx f 6 (Zd d e)) H f #[.bool false,(nI)]:=V;obtain ⟨K,Y⟩:=Q7 (col:=(Zx f 6 (Zd d e))) 7 hZ1 ((if_neg F.2:Zx f 6 _ g=_).trans F.1);replace Y:Zi 40 7 (Zx g 7 (Zx f 6 (Zd d e))) H g #[.bool false,(nI)]:=Y;refine Zs (V.kpp K) fun i J t j=>Zj ?_;refine ⟨fun k=>Zl (Zd i (Zx g 7 (Zx f 6 (Zd d e)))) i (Zd i (Zx g 7 (Zx f 6 (Zd d e)))) k,fun m=>(Zd i (Zx g 7 (Zx f 6 (Zd d e)))) m=497,Zl.refl _ _,Y3,fun a=>absurd a (by decide),?_⟩;have B:=Zu.clip (fun _=>false) (Zx g 7 (Zx f 6 (Zd d e))) i
 refine Y6 O O ?_;intro q b;replace h:=((((((h.grow v).kpp p).grow c).kpp X).kpp K).kp J t).kpp B;replace w:=(((((w.kpp p).gr c).kpp X).kpp K).kp J).kpp B;replace s:=((((s.gr c).kpp X).kpp K).kp J).kpp B;have c:Zl (Zd i (Zx g 7 (Zx f 6 (Zd d e)))) i (Zd i (Zx g 7 (Zx f 6 (Zd d e)))) q:=.of_below b.below;refine Zs (((Y.kp J).kpp B).gr c) fun t I u _=>Zj ?_;refine ⟨fun k=>Zl (Zd t (Zd i (Zx g 7 (Zx f 6 (Zd d e))))) t (Zd t (Zd i (Zx g 7 (Zx f 6 (Zd d e))))) k,fun m=>(Zd t (Zd i (Zx g 7 (Zx f 6 (Zd d e))))) m=497,Zl.refl _ _,Y3,fun a=>absurd a (by decide),?_⟩;have E:=Zu.clip (fun _=>false) (Zd i (Zx g 7 (Zx f 6 (Zd d e)))) t;refine X3 (v:=(.int .i64 l.2.2)) O O (fun _=>Uf O) ?_;refine Zb1 ?_;replace j:=(((j.kpp B).gr c).kp I).kpp E;replace w:=((w.gr c).kp I).kpp E;replace s:=((s.gr c).kp I).kpp E;replace h:=((h.grow c).kp I u).kpp E;intro k c;replace c:Zl (Zd t (Zd i (Zx g 7 (Zx f 6 (Zd d e))))) t (Zd t (Zd i (Zx g 7 (Zx f 6 (Zd d e))))) k:=.of_below c.below;refine go ?_;refine lV _ (Zz isAgg40 sizeOf40 (j.gr c)) ?_;refine Zs (s.gr c) fun _ D av aw=>go ?_;cases o;replace h:=(h.grow c).kp D av;exact ⟨O,_,ra aw.atN,_,_,_,O,h.fin (cm [(4,U)]),h.fo ((w.gr c).kp D)⟩
theorem Z6i (s:Bool) (n d:Nat) (hd:d≠0):(if Zr (s,Zf (n % d))<0 then Zr (s,Zf (n / d)) - 1 else Zr (s,Zf (n / d)))=Zr (s,Zf n) / (d:Int):=by
 have b:=Nat.div_add_mod n d
 have c:=Nat.mod_lt n (Nat.pos_of_ne_zero hd)
 generalize hq:n / d=q at *
 generalize hr:n % d=r at *
 have e:(n:Int)=(d:Int) * (q:Int)+(r:Int):=by rw [← b];simp
 simp only [Zr,Z6]
 cases s with
 | false=>
  simp only [Bool.false_eq_true,↓reduceIte]
  rw [if_neg (by omega)]
  refine ((fR (a:=(n:Int)) (r:=(r:Int)) (q:=(q:Int)) (show (0:Int)<d by omega)).2 ⟨?_,by omega,by omega⟩).1.symm
  rw [e,Int.add_comm]
 | true=>
  rw [if_pos rfl,if_pos rfl,if_pos rfl]
  by_cases h0:r=0
  ·subst h0
   rw [if_neg (by omega)]
   refine ((fR (a:= -(n:Int)) (r:=0) (q:= -(q:Int)) (show (0:Int)<d by omega)).2 ⟨?_,by omega,by omega⟩).1.symm
   rw [e,Int.mul_neg];omega
  ·rw [if_pos (by omega)]
   refine ((fR (a:= -(n:Int)) (r:=(d:Int) - r) (q:= -(q:Int) - 1) (show (0:Int)<d by omega)).2 ⟨?_,by omega,by omega⟩).1.symm
   rw [e,Int.mul_sub,Int.mul_neg,eZ];omega
theorem Xbj (a:ZV):Zr (a.1,Zf (Za a.2))=Zr a:=by
 simp only [Zr,Z6]
theorem Zyb (s:Bool) (n:Nat):(Xa (Zr (s,Zf n))).2.length≤(Zf n).length:=Zr6 (a:=(s,Zf n)) (Z9 _)
section
variable {N k l:Nat} {a:ZV} {d:Nat} (hm:Zo a.2) (hk:a.2.length≤k) (hd:d≠0) (hl:(Zf d).length≤l) (hr:Z8 N (k+l+8))
include hm hk hd hl hr
theorem Xbf:Zj6 N a (false,Zf d)=some (Xa (Zr (a.1,Zf (Za a.2 / d))),Xa (Zr (a.1,Zf (Za a.2 % d))),0):=by
 have b:(Zf (Za a.2 / d)).length≤k:=aN (Ws (bY _ _)) (aN (Yk hm) hk)
 have c:(Zf (Za a.2 % d)).length≤k:=aN (Ws (Nat.mod_le _ _)) (aN (Yk hm) hk)
 have e:=Zk7 (N:=N) hm (Z9 d) (by have:=hr.1;omega) (by have:=hr.2;omega)
 have f:(!decide (a.1=false))=a.1:=by cases a.1 <;> rfl
 rw [Z6,if_neg hd] at e
 rw [Zj6,e,oB,if_neg (show ¬ (!decide ((0:Int)=0))=true by decide),f,Zb0 (Z9 _) b (hr.mono (by omega)),oB,Zb0 (Z9 _) c (hr.mono (by omega)),oB]
theorem Xa8:∃ t,Zms N a (false,Zf d)=some (Xa (Zr a / (d:Int)),t):=by
 have j:(Zf (Za a.2 / d)).length≤k:=aN (Ws (bY _ _)) (aN (Yk hm) hk)
 have m:(Zf (Za a.2 % d)).length≤k:=aN (Ws (Nat.mod_le _ _)) (aN (Yk hm) hk)
 have n:=aN (Zyb a.1 (Za a.2 / d)) j
 have c:=aN (Zyb a.1 (Za a.2 % d)) m
 have h:=Z6i a.1 (Za a.2) d hd
 rw [Xbj] at h
 have o:Zj6 N (a.1,a.2) ((false,Zf d).1,(false,Zf d).2)=_:=Xbf hm hk hd hl hr
 have p:Q1 N (((Xa (Zr (a.1,Zf (Za a.2 % d)))).1,(Xa (Zr (a.1,Zf (Za a.2 % d)))).2))=some (Zr (a.1,Zf (Za a.2 % d))).sign:=by
  have:=Zkl (N:=N) (a:=Xa (Zr (a.1,Zf (Za a.2 % d)))) (Wz _) c (hr.mono (by omega))
  rwa [W2] at this
 have q:Q1 N (((false,Zf d):ZV).1,((false,Zf d):ZV).2)=some 1:=by
  have:=Zkl (N:=N) (a:=(false,Zf d)) (Z9 _) hl (hr.mono (by omega))
  rw [Znl,fN (by omega)] at this
  exact this
 have v:-1≤(Zr (a.1,Zf (Za a.2 % d))).sign∧(Zr (a.1,Zf (Za a.2 % d))).sign≤1:=by
  rcases Int.lt_trichotomy (Zr (a.1,Zf (Za a.2 % d))) 0 with g | g | g
  ·rw [gX g];decide
  ·rw [g];decide
  ·rw [fN g];decide
 rw [Zms,o,oB,if_neg (show ¬ (!decide ((0:Int)=0))=true by decide),p,oB,q,oB,eZ,Zy (by omega)]
 by_cases hn:Zr (a.1,Zf (Za a.2 % d))<0
 ·rw [if_pos hn] at h
  have r:Zet N 1=some (Xa 1):=Zt8 (by omega) (hr.mono (by omega))
  have s:(Xa 1).2.length≤1:=by rw [Qp];simp [Uj]
  have e:=Z2n (N:=N) (a:=Xa (Zr (a.1,Zf (Za a.2 / d)))) (b:=Xa 1) (Wz _) (Wz _) n s (hr.mono (by omega))
  have u:=Zt5 (N:=N) (a:=Xa (Zr (a.1,Zf (Za a.2 % d)))) (b:=(false,Zf d)) (Wz _) (Z9 _) c hl (hr.mono (by omega))
  rw [W2,W2,h] at e
  have f:Zgu N ((Xa (Zr (a.1,Zf (Za a.2 / d)))).1,(Xa (Zr (a.1,Zf (Za a.2 / d)))).2) ((Xa 1).1,(Xa 1).2)=_:=e
  have i:Zes N ((Xa (Zr (a.1,Zf (Za a.2 % d)))).1,(Xa (Zr (a.1,Zf (Za a.2 % d)))).2) (((false,Zf d):ZV).1,((false,Zf d):ZV).2)=_:=u
  rw [gX hn,Zj4,if_neg (by decide),r,oB,f,oB,i,oB]
  exact ⟨_,rfl⟩
 ·rw [if_neg hn] at h
  rw [decide_eq_true (Int.sign_nonneg_iff.2 (by omega)),Zj4,if_pos rfl,h]
  exact ⟨_,rfl⟩
end
def Ud (q:Rat):Int:=q.num / (q.den:Int)
theorem Z84 (q:Rat):Zr (Zm q).1=q.num:=by
 rw [Zm];exact W2 _
theorem Z83 (q:Rat):X4 (Zm q).2=q.den:=by
 rw [Zm];exact Zwv q.den_nz
theorem Z68 {N k:Nat} {q:Rat} (hq:qs q≤k) (hr:Z8 N (2 * k+16)):Zlp N (((Zm q).1.1,(Zm q).1.2),(Zm q).2)=some (Xa (Ud q)):=by
 have b:=Yi hq
 have u:Ut N (((Zm q).1.1,(Zm q).1.2),(Zm q).2)=some (Zf q.den):=by
  have:=Zby b (N:=N) (hr.mono (by omega))
  rwa [Z83] at this
 have hl:(Zf q.den).length≤k:=aN (Nat.le_max_right _ _) hq
 obtain ⟨t,c⟩:=Xa8 (N:=N) (a:=((Zm q).1.1,(Zm q).1.2)) b.m b.lm q.den_nz hl (hr.mono (by omega))
 rw [Zlp,u,oB,c,oB]
 have:Zr ((Zm q).1.1,(Zm q).1.2)=q.num:=Z84 q
 rw [this];rfl
theorem Z7g (q:Rat):q<(Ud q:Rat)+1:=by
 have hd:(0:Int)<q.den:=by have:=q.den_nz;omega
 have h:q.num<(Ud q+1) * (q.den:Int):=by
  have b:=Int.emod_lt_of_pos q.num hd
  have c:=Int.mul_ediv_add_emod q.num q.den
  rw [Ud,Int.add_mul,Int.one_mul,Int.mul_comm];omega
 have e:(Ud q:Rat)+1=mkRat (Ud q+1) 1:=by
  rw [gF];simp
 rw [e]
 conv=>lhs;rw [← dH q]
 rw [Vs q.den_nz (by decide)]
 simpa using h
theorem Zxh (q:Rat):(Xa (Ud q)).2.length≤qs q+1:=by
 rw [Qp]
 have hd:(0:Int)<q.den:=by have:=q.den_nz;omega
 have h:(Ud q).natAbs≤q.num.natAbs+1:=by
  have b:=Int.natAbs_ediv_le_natAbs q.num q.den
  rw [Ud];omega
 refine aN (Ws h) (Zhv (Nat.le_max_left _ _) ?_)
 rw [Uj]
 exact Zz1 q
def Zse (a:Int) (kk_L1:(Int→R2→Option R9)) (b:List Int):Option R9:=
  kk_L1 (i64.wrap (a+1)) b
def Zoy (b a:Int) (c:List Int) (kk_L1:(Int→R2→Option R9)) (d:Int):Option R9:=
  (Zn c a).bind fun e=>Z1 (0≤(aS (i64.wrap (-b)) 32)) ((some (c.set (aA a) (u32.wrap (Yl .u64 (Y4 .u64 (Xx .u64 d 32) (u64.wrap e)) (aS (i64.wrap (-b)) 32))))).bind fun f=>Zse a kk_L1 f)
def Zd8 (N:Nat) (c:Int) (d:List Int):Nat→Int→R2→Option R9
  | 0,_,_=>none
  | e+1,a,b=>if (decide (a<(d.length:Int)))=true then (if (decide ((i64.wrap (a+1))<(b.length:Int)))=true then ((Zn b (i64.wrap (a+1))).bind fun f=>Zoy c a b (Zd8 N c d e) (u64.wrap f)) else (Zoy c a b (Zd8 N c d e) 0)) else ((U4 N b).bind fun g=>some (g,0))
def Zl1 (N:Nat) (e:List Int) (a:Int) (f:Bool):Option R9:=
  if f=true then (some (([]:List Int),3)) else ((Tf N e).bind fun b=>if (decide (0≤a))=true then (Z1 (((aA (i64.wrap ((i64.wrap ((i64.wrap (aM a 32))+(b.length:Int)))+1))) * 4≤281474976710656∧(aA (i64.wrap ((i64.wrap ((i64.wrap (aM a 32))+(b.length:Int)))+1)))≤maxLen∧0≤(i64.wrap ((i64.wrap ((i64.wrap (aM a 32))+(b.length:Int)))+1)))∧0≤(i64.wrap (aM a 32))∧(aA (i64.wrap (aM a 32)))≤(aA (i64.wrap ((i64.wrap ((i64.wrap (aM a 32))+(b.length:Int)))+1)))) ((Zf5 b (aS a 32)).bind fun c=>Z1 (((aC (aA (i64.wrap (aM a 32))) (0:Int)).length+c.length) * 4≤140737488355328∧(aC (aA (i64.wrap (aM a 32))) (0:Int)).length+c.length≤maxLen) ((U4 N ((aC (aA (i64.wrap (aM a 32))) (0:Int))++c)).bind fun g=>some (g,0)))) else (if (decide ((b.length:Int)≤(i64.wrap (aM (i64.wrap (-a)) 32))))=true then (some (([]:List Int),0)) else (Z1 ((0:Int)≤(i64.wrap (aM (i64.wrap (-a)) 32))∧(i64.wrap (aM (i64.wrap (-a)) 32))≤(b.length:Int)) ((Zeq (b.drop (aA (i64.wrap (aM (i64.wrap (-a)) 32))))).bind fun d=>Zd8 N a d N 0 d))))
def Zl0 (N:Nat) (b:List Int) (a:Int):Option R9:=
  if (decide (a<(-262144)))=true then (Zl1 N b a true) else (Zl1 N b a (decide (262144<a)))
theorem Z4j {N L:Nat} {z:Option Addr} {col:Zg} {f:World} {x:R2} {a:Int} {r:R9} (B:Nat) (b:Zl0 N x a=some r) (p:Sl rU col f z L x):
    Calls prog 141 #[.slice z x.length L,.int .i64 a] f (fun e w'=>∃ (col':Zg) (k:Option Addr) (j:Nat),e= .returned (.tuple #[.slice k r.1.length j,.int .i64 r.2])∧Zl col f col' w'∧Zb rU 119 B col' w' k j r.1):=by
 refine Zde 4 5 (m:=82) (args:=[.slice z x.length L,.int .i64 a]) func141 O O O O O ?_;rw [Zl0.eq_1] at b;have c:=St.start col f;refine Zw<|Wv<|So O<|Yr O<|Zj<|Zw<|Zw ?_;refine Wp.cutK [0,1,1000000] (fun h F=>∃ G Y,Zl1 N x a Y=some r∧St f (Zk col) G F∧[15].map h=[.bool Y]) ?_ ?_
 ·intro h F E;obtain ⟨G,Y,b,c,g⟩:=E;rw [Zl1.eq_1] at b;refine .lL [15] g ?_;refine Zp b (fun d b=>go ?_) fun d b=>go ?_
  ·cases b;exact ⟨O,_,none,0,O,c.fin (cm []),Zb.nil⟩
  obtain ⟨W,C,b⟩:=bZ b;refine Zh (S0 C (p.k0.ks c)) ?_;rintro _ ak ⟨al,D,A,rfl,am,U⟩;refine ⟨_,O,go ?_⟩;replace c:=c.grow am;refine Zp b (fun d b=>go ?_) fun d b=>go ?_
  ·refine lV (.int .i64 (i64.wrap (aM a 32))) (Vm a 32 O O (by decide))<|Xy O<|lV (.int .i64 (i64.wrap (aM a 32))) (Vm a 32 O O (by decide))<|go ?_;obtain ⟨C,b⟩:=Z5 b;refine Z76 (col:=al) (w:=ak) (r:=rU) (l:=(aA (i64.wrap (aM a 32)))) (n:=(aA (i64.wrap ((i64.wrap ((i64.wrap (aM a 32))+(W.length:Int)))+1)))) (x0:=0) 1 O underlying38 Tryz.t119 O O O O O (congrArg (Value.int _) (bA C.2.1).symm) (congrArg (Value.int _) (bA C.1.2.2).symm) C.1.1 C.1.2.1 C.2.2 (Tx .u32 0) fun _ _ _ S k=>go ?_;refine lV (.int .i64 (aS a 32)) (Tv a 32 O O (by decide)) ?_;obtain ⟨_,T,b⟩:=bZ b;replace U:=U.gr S;refine Zh (Zqz 2 T U) fun _ _ ⟨_,_,_,m,R,X⟩=>⟨_,m,?_⟩;obtain ⟨Y,b⟩:=Z5 b;refine Vw (k.gr R) (X.srcN (NB.int (k:=.u32))) Y ?_;intro _ _ j z l P;obtain ⟨_,F,b⟩:=bZ b;refine Zh (Sk 3 F (P.toSlF (Ze.int .u32))) fun _ _ ⟨Z,_,_,m,M,H⟩=>⟨_,m,?_⟩;replace H:=H.thaw (Zt .u32) M ((Fz.refl (col:=z)).froz 1);replace M:=M.thawR (col:=z);generalize Z2 j.heap.size z Z=w at *;refine go ?_;cases b;replace c:=(((c.grow S).grow R).kpp l).grow M;exact ⟨O,_,_,_,O,c.fin (cm [(3,B)]),c.fo H⟩
  refine lV (.int .i64 (i64.wrap (aM (i64.wrap (-a)) 32))) (Vm (i64.wrap (-a)) 32 O O (by decide))<|go ?_;refine Zp b (fun d b=>go ?_) fun d b=>go ?_
  ·cases b;exact ⟨O,_,none,0,O,c.fin (cm []),Zb.nil⟩
  refine lV (.int .i64 (i64.wrap (aM (i64.wrap (-a)) 32))) (Vm (i64.wrap (-a)) 32 O O (by decide)) ?_;obtain ⟨P,b⟩:=Z5 b;have R:=U.drop (sz:=1) O (aA (i64.wrap (aM (i64.wrap (-a)) 32)));refine lv (v:=.slice (if A=(aA (i64.wrap (aM (i64.wrap (-a)) 32))) then D else D.map (·.add ((aA (i64.wrap (aM (i64.wrap (-a)) 32))) * 1))) (W.length - (aA (i64.wrap (aM (i64.wrap (-a)) 32)))) (A - (aA (i64.wrap (aM (i64.wrap (-a)) 32))))) O O (Zz9 underlying38 sizeOf119 O O P.1 P.2) ?_;generalize (if A=(aA (i64.wrap (aM (i64.wrap (-a)) 32))) then D else D.map (·.add ((aA (i64.wrap (aM (i64.wrap (-a)) 32))) * 1)))=I at *;refine .ld (d:=46) (v:=(.slice I ((W.drop (aA (i64.wrap (aM (i64.wrap (-a)) 32)))).length) (A - (aA (i64.wrap (aM (i64.wrap (-a)) 32)))))) (congrArg (fun u=>Value.slice I u (A - (aA (i64.wrap (aM (i64.wrap (-a)) 32))))) (List.length_drop (i:=(aA (i64.wrap (aM (i64.wrap (-a)) 32)))) (l:=W)).symm) ?_;obtain ⟨K,G,b⟩:=bZ b;refine Zh (Zn9 4 G R) ?_;rintro _ bo ⟨bp,bq,br,rfl,az,a1⟩;refine ⟨_,O,go ?_⟩;replace c:=c.grow az;refine Z0 [1,49,1000000] (fun u h V=>∃ v q s t o n,n=u∧Zd8 N a K n q o=some r∧St f (Zk col) v V∧Zb rU 119 4 v V s t o∧[50,7].map h=[.int .i64 q,.slice s o.length t]) N ⟨_,0,_,_,_,_,O,b,c,a1,O⟩ ?_;clear b;intro u h V I;obtain ⟨v,q,s,t,o,n,Q,b,c,i,g⟩:=I;subst Q;refine .lL [50,7] g ?_
  cases n with
  | zero=>rw [Zd8.eq_1] at b;cases b
  | succ n=>
   rw [Zd8.eq_2] at b;refine go ?_;refine Zp b (fun d b=>?_) fun d b=>go ?_
   ·refine X1<|Zw ?_;refine Wp.cutK [1,49,50,1000000] (fun h k=>∃ l p w H,Zse q (Zd8 N a K n) H=some r∧St f (Zk col) l k∧Zb rU 119 4 l k p w H∧[7].map h=[.slice p H.length w]) ?_ ?_
    ·intro h k E;obtain ⟨l,p,w,H,b,c,M,g⟩:=E;rw [Zse.eq_1] at b;refine .lL [7] g<|go ?_;exact ⟨n,by omega,O,⟨_,_,_,_,_,_,O,b,c,M,O⟩⟩
    refine Zg7<|Zw<|Wv<|Xy O<|Yr O<|Zj<|Zw<|Wv<|Yr O<|Zj<|Zw ?_;refine Wp.cutK [1,49,50,7,8,1000000] (fun h Z=>∃ j l,Zoy a q o (Zd8 N a K n) l=some r∧St f (Zk col) j Z∧Zb rU 119 4 j Z s t o∧[9].map h=[.int .u64 l]) ?_ ?_
    ·intro h Z E;obtain ⟨j,l,b,c,i,g⟩:=E;rw [Zoy.eq_1] at b;refine .lL [9] g<|go ?_;refine lV (.int .u64 (Xx .u64 l 32)) (Zex l 32 O O (by decide))<|go ?_;obtain ⟨T,p,b⟩:=bZ b;refine lI p (i.addr p)<|lW (i.atInt p) ?_;refine go ?_;refine lV (.int .i64 (aS (i64.wrap (-a)) 32)) (Tv (i64.wrap (-a)) 32 O O (by decide)) ?_;obtain ⟨E,b⟩:=Z5 b;refine lV (.int .u64 (Yl .u64 (Y4 .u64 (Xx .u64 l 32) (u64.wrap T)) (aS (i64.wrap (-a)) 32))) (Sw (Y4 .u64 (Xx .u64 l 32) (u64.wrap T)) (aS (i64.wrap (-a)) 32) O O E)<|go ?_;refine lI p (i.addr p) ?_;obtain ⟨f,Q,b⟩:=bZ b;have Q:f=o.set (aA q) (u32.wrap (Yl .u64 (Y4 .u64 (Xx .u64 l 32) (u64.wrap T)) (aS (i64.wrap (-a)) 32))):=(Option.some.inj Q).symm;refine Wc (x1:=u32.wrap (Yl .u64 (Y4 .u64 (Xx .u64 l 32) (u64.wrap T)) (aS (i64.wrap (-a)) 32))) i p ?_;intro _ h n K;rw [← Q] at K;refine .ld (d:=7) (v:=(.slice s f.length t)) (congrArg (fun u=>Value.slice s u t) (show o.length=f.length by rw [Q,nS])) ?_;refine Zj ?_;replace c:=c.kp h n;exact ⟨O,_,_,_,_,b,c,K,O⟩
    refine go ?_;refine Zp b (fun d b=>go ?_) fun d b=>?_
    ·obtain ⟨_,X,b⟩:=bZ b;refine lI X (i.addr X)<|lW (i.atInt X) ?_;refine go ?_;exact ⟨O,_,_,b,c,i,O⟩
    refine X1 ?_;exact ⟨O,_,0,b,c,i,O⟩
   obtain ⟨_,d,b⟩:=bZ b;refine Zh (Sk 5 d (i.toSlF (Ze.int .u32))) fun _ _ ⟨g,_,_,m,J,y⟩=>⟨_,m,?_⟩;replace y:=y.thaw (Zt .u32) J ((Fz.refl (col:=v)).froz 4);replace J:=J.thawR (col:=v);generalize Z2 V.heap.size v g=i at *;refine go ?_;cases b;replace c:=c.grow J;exact ⟨O,_,_,_,O,c.fin (cm [(5,B)]),c.fo y⟩
 refine go ?_;refine X9 b (fun w b=>go ?_) fun w b=>go ?_
 ·refine lV (.bool true) (Xw (congrArg Value.bool w) O)<|Zj ?_;exact ⟨O,_,_,b,c,O⟩
 refine lV (.bool (decide (262144<a))) (X0 (congrArg Value.bool w) O)<|Zj ?_;exact ⟨O,_,_,b,c,O⟩
def Zfe (N:Nat):Nat→Int→R2→Option R0
  | 0,_,_=>none
  | c+1,a,b=>if (decide (0<a))=true then ((Zl0 N b (if 262144<a then 262144 else a)).bind fun d=>(Zfe N c) (i64.wrap (a - (if 262144<a then 262144 else a))) d.1) else (some ((false,b),[1]))
def Zld (N:Nat) (a:Int):Option R0:=
  Zfe N N a [1]
theorem Z3i {N:Nat} {col:Zg} {e:World} {x:Int} {r:R0} (o c2:Nat) (a:Zld N x=some r):
    Calls prog 98 #[.int .i64 x] e (V7 119 o c2 col e r):=by
 refine Yb (m:=23) func98 O O O ?_;rw [Zld.eq_1] at a;have b:=St.start col e;refine go ?_;refine Xc (col:=(Zk col)) #[.bool false,(nI),(nI)] 1 zeroValue42 fun L _ D J c=>go ?_;refine Vn (col:=D) [1] 2 fun _ _ _ w M=>go ?_;replace b:=(b.grow J).grow w;replace c:=c.gr w;refine Z0 [2,1000000] (fun z A k=>∃ d f l m h g,g=z∧Zfe N g f h=some r∧St e (Zk col) d k∧Zi 42 1 d k L #[.bool false,(nI),(nI)]∧Zb rU 119 2 d k l m h∧[0,3].map A=[.int .i64 f,.slice l h.length m]) N ⟨_,_,_,1,_,_,O,a,b,c,M,O⟩ ?_;clear a;intro z A k F;obtain ⟨d,f,l,m,h,g,u,a,b,c,C,v⟩:=F;subst u;refine .lL [0,3] v ?_
 cases g with
 | zero=>rw [Zfe.eq_1] at a;cases a
 | succ g=>
  rw [Zfe.eq_2] at a;refine go ?_;refine Zp a (fun t a=>go ?_) fun t a=>go ?_
  ·refine lV (.int .i64 (if 262144<f then 262144 else f)) (Ztb f 262144 O O)<|go ?_;obtain ⟨n,E,a⟩:=bZ a;refine Zh (Z4j 3 E (C.toSlF (Ze.int .u32))) fun _ _ ⟨K,y,B,s,i,j⟩=>⟨_,s,?_⟩;replace j:=j.thaw (Zt .u32) i ((Fz.refl (col:=d)).froz 2);replace i:=i.thawR (col:=d);generalize Z2 k.heap.size d K=Q at *;refine lM (.tuple #[.slice y n.1.length B,.int .i64 n.2])<|lV (.slice y n.1.length B) (Xl O O)<|lV (.int .i64 n.2) (Xl O O)<|go ?_;replace j:=j.recolSelf 2 (by decide);replace c:=c.gr i;replace c:=c.recol 3 2;replace b:=b.grow i;replace b:=b.recol 3 2 (by decide) (by decide);exact ⟨g,by omega,O,⟨_,_,_,_,_,_,O,a,b,c,j,O⟩⟩
  refine lV (.agg #[.bool false,.slice l h.length m]) (Yc (l:=[_,_]) (qs:=[(0,1),(1,1)]) underlying40 zeroValue40 ⟨O,sizeOf4,O,sizeOf38,trivial⟩ O)<|Vn (col:=d) [1] 4 ?_;intro I _ _ q P;refine lV (.agg #[.bool false,.slice l h.length m,.slice I ([1].length) 1]) (Yc (l:=[_,_]) (qs:=[(0,2),(2,1)]) underlying42 zeroValue42 ⟨O,sizeOf40,O,sizeOf38,trivial⟩ O) ?_;refine Zs (c.gr q) fun _ p G H=>go ?_;cases a;replace b:=(b.grow q).kp p G;exact ⟨O,_,ra H.atN,_,_,_,_,1,O,b.fin (cm [(2,o),(4,c2)]),b.fo ((C.gr q).kp p),b.fo (P.kp p)⟩
theorem Xan {N x n:Nat} (hn:n≤262144) (hx:(Zf x).length+8400≤1099511627776) (hN:(Zf x).length+8400<N):Zl0 N (Zf x) (n:Int)=some (Zf (x * 2 ^ n),0):=by
 have d:i64.wrap (aM (n:Int) 32)=((n / 32:Nat):Int):=by rw [bM (by omega),Zy (by omega)];omega
 have e:aS (n:Int) 32=((n % 32:Nat):Int):=by rw [bS (by omega)];omega
 have f:i64.wrap (i64.wrap (((n / 32:Nat):Int)+((Zf x).length:Int))+1)=((n / 32+(Zf x).length+1:Nat):Int):=by
  rw [Zy (x:=((n / 32:Nat):Int)+((Zf x).length:Int)) (by omega),Zy (by omega)];omega
 obtain ⟨o,g,b,i,j,_⟩:=Zr4 (a:=Zf x) (s:=n % 32) (by omega) (Z9 _) (by omega)
 have c:=Qc (N:=N) (a:=aC (n / 32) 0++o) ((Zo.zeros _).app i) (by rw [nA,aT,b];omega) (by rw [nA,aT,b];omega)
 have v:Za (aC (n / 32) 0++o)=x * 2 ^ n:=by
  rw [Qb,Sc,aT,j,Z6,Nat.zero_add,show (4294967296:Nat)=2 ^ 32 from rfl,← Nat.pow_mul,← bJ,← Nat.pow_add,show 32 * (n / 32)+n % 32=n by omega,Nat.mul_comm]
 rw [v] at c
 rw [Zl0,if_neg (dF (by omega)),decide_eq_false (show ¬ 262144<(n:Int) by omega),Zl1,if_neg (by decide),Qh (Z9 _) (by omega) (by omega),Z6,oB,if_pos (dT (by omega)),d,e,f,aB,aB,
  Xh (by simp only [maxLen];omega),g,oB,Xh (by simp only [aT,b,maxLen];omega),c,oB]
theorem Zzs {N:Nat}:∀ (f k x:Nat),k<f→k<4611686018427387904→(Zf (x * 2 ^ k)).length+8400≤1099511627776→(Zf (x * 2 ^ k)).length+8400<N→Zfe N f (k:Int) (Zf x)=some ((false,Zf (x * 2 ^ k)),[1])
 | 0,k,x,c,_,_,_=>by omega
 | f+1,k,x,c,l,d,g=>by
  rw [Zfe.eq_2]
  by_cases hk:0<k
  ·obtain ⟨s,i,j,m,n⟩:∃ s:Nat,(if 262144<(k:Int) then 262144 else (k:Int))=(s:Int)∧s≤262144∧s≤k∧0<s:=by
    by_cases h:262144<(k:Int)
    ·rw [if_pos h];exact ⟨262144,rfl,aV _,by omega,by decide⟩
    ·rw [if_neg h];exact ⟨k,rfl,by omega,aV _,hk⟩
   have a:x≤x * 2 ^ k:=Nat.le_mul_of_pos_right _ (dO (by decide))
   have o:=Ws a
   have e:x * 2 ^ s * 2 ^ (k - s)=x * 2 ^ k:=by rw [bJ,← Nat.pow_add,show s+(k - s)=k by omega]
   have b:=Zzs (N:=N) f (k - s) (x * 2 ^ s) (by omega) (by omega) (by rw [e];exact d) (by rw [e];exact g)
   rw [e] at b
   rw [if_pos (dT (by omega)),i,Xan j (by omega) (by omega),oB,Zy (x:=(k:Int) - (s:Int)) (by omega),show (k:Int) - (s:Int)=((k - s:Nat):Int) by omega]
   exact b
  ·have:k=0:=by omega
   subst this
   rw [if_neg (dF (by omega)),Nat.pow_zero,Nat.mul_one]
theorem Zpq (k:Nat):(Zf (2 ^ k)).length≤k / 32+1:=by
 rw [W0,show (4294967296:Nat)=2 ^ 32 from rfl,← Nat.pow_mul]
 exact Nat.pow_lt_pow_right (by decide) (by omega)
def pw (k:Nat):QV:=((false,Zf (2 ^ k)),[1])
theorem Z9e {N k:Nat} (hk:k≤1099511627776) (hN:2199023255552<N):Zld N (k:Int)=some (pw k):=by
 have h:=Zpq k
 have:=Zzs (N:=N) N k 1 (by omega) (by omega) (by rw [bO];omega) (by rw [bO];omega)
 rw [Uj,bO] at this
 rw [Zld,this];rfl
theorem Xam (k:Nat):RV (k / 32+1) (pw k):=⟨Z9 _,by simp [Zo,pw],Zpq k,by simp [pw]⟩
theorem Z9j (k:Nat):Zq (pw k)=mkRat ((2 ^ k:Nat):Int) 1:=by
 have:Zr (false,Zf (2 ^ k))=((2 ^ k:Nat):Int):=by simp only [Zr,Z6];rfl
 rw [Zq,pw,this];rfl
def Zh3 (a:Int) (kk_L1:(Int→R2→Option ByteArray)) (b:List Int):Option ByteArray:=
  kk_L1 (i64.wrap (a+1)) b
def Zh4 (a:Int) (kk_L1:(Int→R2→Option ByteArray)) (b:List Int) (c:Bool):Option ByteArray:=
  if c=true then ((Zn b a).bind fun e=>(some (b.set (aA a) 49)).bind fun d=>Zh3 a kk_L1 d) else (Zh3 a kk_L1 b)
def Qq (N:Nat) (c:List Int) (b:Int):Nat→Int→R2→Option ByteArray
  | 0,_,_=>none
  | e+1,a,d=>if (decide (a<((aC (aA b) (0:Int)).length:Int)))=true then ((Zn d a).bind fun i=>(some (d.set (aA a) 48)).bind fun f=>if (decide ((i64.wrap (aM (i64.wrap ((i64.wrap (b - 1)) - a)) 32))<(c.length:Int)))=true then ((Zn c (i64.wrap (aM (i64.wrap ((i64.wrap (b - 1)) - a)) 32))).bind fun g=>Z1 (0≤(aS (i64.wrap ((i64.wrap (b - 1)) - a)) 32)) (Zh4 a (Qq N c b e) f (decide ((Uz .u32 (Yl .u32 g (aS (i64.wrap ((i64.wrap (b - 1)) - a)) 32)) 1)=1)))) else (Zh4 a (Qq N c b e) f false)) else (some (Vc d))
def Zh2 (N:Nat) (b:List Int) (a:Int):Option ByteArray:=
  Z1 ((aA a) * 1≤281474976710656∧(aA a)≤maxLen∧0≤a) (Qq N b a N 0 (aC (aA a) (0:Int)))
theorem Z3g {N R:Nat} {t:Option Addr} {col:Zg} {d:World} {q:R2} {g:Int} {r:ByteArray} (a:Zh2 N q g=some r) (l:Sl rU col d t R q):
    Calls prog 102 #[.slice t q.length R,.int .i64 g] d (fun e w'=>e= .returned ((.string r))∧Below d.heap.size d w'):=by
 refine Xk 4 (m:=45) func102 O O O O O ?_;rw [Zh2.eq_1] at a;have b:=St.start col d;refine go ?_;obtain ⟨v,a⟩:=Z5 a;refine T6 (col:=(Zk col)) (w:=d) (r:=(Zc.int .u8)) (n:=(aA g)) (x0:=0) 1 O underlying159 Tryz.t5 O O O O O (congrArg (Value.int _) (bA v.2.2).symm) (congrArg (Value.int _) (bA v.2.2).symm) v.1 v.2.1 (Tx .u8 0) fun _ _ _ W m=>go ?_;replace b:=b.grow W;refine Z0 [0,1,11,1000000] (fun p i I=>∃ J c j k o h,h=p∧Qq N q g h c o=some r∧St d (Zk col) J I∧Zb (Zc.int .u8) 5 1 J I j k o∧[12,5].map i=[.int .i64 c,.slice j o.length k]) N ⟨_,0,_,_,_,_,O,a,b,m,O⟩ ?_;clear a;intro p i I X;obtain ⟨J,c,j,k,o,h,S,a,b,Q,f⟩:=X;subst S;refine .lL [12,5] f ?_;replace l:=l.k0
 cases h with
 | zero=>rw [Qq.eq_1] at a;cases a
 | succ h=>
  rw [Qq.eq_2] at a;refine go ?_;refine Zp a (fun s a=>?_) fun s a=>go ?_
  ·refine X1<|Zw ?_;refine Wp.cutK [0,1,11,12,1000000] (fun i E=>∃ F G H u,Zh3 c (Qq N q g h) u=some r∧St d (Zk col) F E∧Zb (Zc.int .u8) 5 1 F E G H u∧[5].map i=[.slice G u.length H]) ?_ ?_
   ·intro i E M;obtain ⟨F,G,H,u,a,b,Y,f⟩:=M;rw [Zh3.eq_1] at a;refine .lL [5] f<|go ?_;exact ⟨h,by omega,O,⟨_,_,_,_,_,_,O,a,b,Y,O⟩⟩
   refine go ?_;obtain ⟨_,A,a⟩:=bZ a;refine lI A (Q.addr A) ?_;obtain ⟨m,w,a⟩:=bZ a;have w:m=o.set (aA c) 48:=(Option.some.inj w).symm;refine Wc (x1:=48) Q A ?_;intro _ t u n;rw [← w] at n;refine .ld (d:=5) (v:=(.slice j m.length k)) (congrArg (fun p=>Value.slice j p k) (show o.length=m.length by rw [w,nS])) ?_;refine Zj<|Zw ?_;replace b:=b.kp t u;refine Wp.cutK [0,1,11,12,5,6,1000000] (fun i z=>∃ C D,Zh4 c (Qq N q g h) m D=some r∧St d (Zk col) C z∧Zb (Zc.int .u8) 5 1 C z j k m∧[38].map i=[.bool D]) ?_ ?_
   ·intro i z M;obtain ⟨C,D,a,b,n,f⟩:=M;rw [Zh4.eq_1] at a;refine .lL [38] f ?_;refine Zp a (fun s a=>go ?_) fun s a=>?_
    ·obtain ⟨_,B,a⟩:=bZ a;refine lI B (n.addr B) ?_;obtain ⟨K,x,a⟩:=bZ a;have x:K=m.set (aA c) 49:=(Option.some.inj x).symm;refine Wc (x1:=49) n B ?_;intro _ Z U V;rw [← x] at V;refine .ld (d:=5) (v:=(.slice j K.length k)) (congrArg (fun p=>Value.slice j p k) (show m.length=K.length by rw [x,nS])) ?_;refine Zj ?_;replace b:=b.kp Z U;exact ⟨O,_,_,_,_,a,b,V,O⟩
    refine X1 ?_;exact ⟨O,_,_,_,_,a,b,n,O⟩
   refine go ?_;refine lV (.int .i64 (i64.wrap (aM (i64.wrap ((i64.wrap (g - 1)) - c)) 32))) (Vm (i64.wrap ((i64.wrap (g - 1)) - c)) 32 O O (by decide))<|go ?_;refine X9 a (fun P a=>go ?_) fun P a=>go ?_
   ·refine lV (.int .i64 (i64.wrap (aM (i64.wrap ((i64.wrap (g - 1)) - c)) 32))) (Vm (i64.wrap ((i64.wrap (g - 1)) - c)) 32 O O (by decide))<|go ?_;obtain ⟨L,y,a⟩:=bZ a;refine lI y ((l.ks b).addr y) ?_;refine go ?_;refine lW ((l.ks b).atInt y)<|go ?_;refine lV (.int .i64 (aS (i64.wrap ((i64.wrap (g - 1)) - c)) 32)) (Tv (i64.wrap ((i64.wrap (g - 1)) - c)) 32 O O (by decide))<|go ?_;obtain ⟨T,a⟩:=Z5 a;refine lV (.int .u32 (Yl .u32 L (aS (i64.wrap ((i64.wrap (g - 1)) - c)) 32))) (Sw L (aS (i64.wrap ((i64.wrap (g - 1)) - c)) 32) O O T)<|go ?_;refine lV (.bool (decide ((Uz .u32 (Yl .u32 L (aS (i64.wrap ((i64.wrap (g - 1)) - c)) 32)) 1)=1))) (Xw (congrArg Value.bool P) O)<|Zj ?_;exact ⟨O,_,_,a,b,n,O⟩
   refine lV (.bool false) (X0 (congrArg Value.bool P) O)<|Zj ?_;exact ⟨O,_,_,a,b,n,O⟩
  refine lV (.string (Vc o)) (Z9o (c:=1) (c2:=1) (Q.srcN NB.int) underlying159 underlying5 underlying9 O)<|go ?_;cases a;exact ⟨O,O,b.below⟩
def Wq (v:Nat):Nat→List Int
 | 0=>[]
 | m+1=>(48+((v / 2 ^ m % 2:Nat):Int)) :: Wq v m
theorem Z25 {a:List Int} (h:Zo a) (i:Nat):Za a / 2 ^ i % 2=Xu a (i / 32) / 2 ^ (i % 32) % 2:=by
 have b:=Zuj (Za (a.take (i / 32))) (Xu a (i / 32)) (Za (a.drop (i / 32+1))) (i / 32) (i % 32) (Zmw h _) (by omega)
 rwa [← Tg a,← Ts,show 32 * (i / 32)+i % 32=i by omega] at b
theorem Z2w {y:Nat} (h:y<4294967296):Uz .u32 (y:Int) 1=((y % 2:Nat):Int):=by
 rw [Uz,BitVec.toNat_and,Zda _ _ (by simp only [IntKind.bits];omega),show (1:Int)=((1:Nat):Int) from rfl,Zda _ _ (by simp only [IntKind.bits];omega),Nat.and_one_is_mod,Zua]
 omega
theorem Zwq {N k:Nat} {a:List Int} (ha:Zo a) (hk:k≤1099511627776) (hl:a.length≤1099511627776):∀ (f m:Nat) (pre:List Int),pre.length+m=k→m<f→
  Qq N a (k:Int) f (pre.length:Int) (pre++aC m 0)=some (Vc (pre++Wq (Za a) m))
 | 0,m,pre,n,o=>by omega
 | f+1,0,pre,n,o=>by
  rw [Qq.eq_2,aT,aB,if_neg (dF (by omega))];rfl
 | f+1,m+1,pre,n,o=>by
  have r:i64.wrap (i64.wrap ((k:Int) - 1) - (pre.length:Int))=(m:Int):=by
   rw [Zy (x:=(k:Int) - 1) (by omega),Zy (by omega)];omega
  have s:i64.wrap (aM (m:Int) 32)=((m / 32:Nat):Int):=by rw [bM (by omega),Zy (by omega)];omega
  have t:aS (m:Int) 32=((m % 32:Nat):Int):=by rw [bS (by omega)];omega
  have e:∀ x c:Int,(pre++x :: aC m 0).set pre.length c=(pre++[c])++aC m 0:=fun x c=>by
   rw [List.set_append_right (i:=pre.length) c (aV _),Nat.sub_self,List.set_cons_zero,bB];rfl
  have l:=fun c:Int=>Zwq (N:=N) ha hk hl f m (pre++[c]) (by rw [nA,aL];omega) (by omega)
  simp only [nA,aL] at l
  have p:∀ b:Bool,(b=decide (Za a / 2 ^ m % 2=1))→Zh4 (pre.length:Int) (Qq N a (k:Int) f) ((pre++[48])++aC m 0) b=some (Vc (pre++Wq (Za a) (m+1))):=by
   intro b j
   rw [Zh4,Wq]
   by_cases h:Za a / 2 ^ m % 2=1
   ·rw [decide_eq_true h] at j
    rw [if_pos j,Xd (by rw [nA,nA,aL];omega),oB,aB,bB,List.singleton_append,e,oB,Zh3,wS (by omega),l 49,h,bB];rfl
   ·rw [decide_eq_false h] at j
    have u:Za a / 2 ^ m % 2=0:=by omega
    rw [if_neg (by rw [j];decide),Zh3,wS (by omega),l 48,u,bB];rfl
  rw [Qq.eq_2,aT,aB,if_pos (dT (by omega)),Xd (by rw [nA,aT];omega),oB,aB,List.replicate_succ,e,oB,r,s,t]
  have d:=Z25 ha m
  by_cases hp:m / 32<a.length
  ·have v:=ha.get hp
   obtain ⟨y,q⟩:∃ y:Nat,a[m / 32]=(y:Int):=⟨(a[m / 32]).toNat,by omega⟩
   have g:Xu a (m / 32)=y:=by rw [Xu,aD,List.getElem?_eq_getElem hp,Option.getD_some,q,aB]
   rw [g] at d
   have w:=bY y (2 ^ (m % 32))
   rw [if_pos (dT (by omega)),Xd hp,q,oB,Xh (by omega),Znd _ _ _ (by simp only [IntKind.bits];omega)]
   refine p _ ?_
   rw [d]
   generalize y / 2 ^ (m % 32)=z at *
   rw [Z2w (by omega)]
   rw [Bool.eq_iff_iff,decide_eq_true_iff,decide_eq_true_iff]
   omega
  ·have g:Xu a (m / 32)=0:=by rw [Xu,aD,List.getElem?_eq_none (by omega)];rfl
   rw [g,Nat.zero_div] at d
   rw [if_neg (dF (by omega))]
   refine p _ ?_
   rw [d];rfl
theorem Z6g {N k:Nat} {a:List Int} (ha:Zo a) (hk:k≤1099511627776) (hl:a.length≤1099511627776) (hN:k<N):Zh2 N a (k:Int)=some (Vc (Wq (Za a) k)):=by
 rw [Zh2,Xh (by rw [aB];simp only [maxLen];omega),aB]
 exact Zwq ha hk hl N k [] (by simp) hN
def Zb6 (N:Nat) (a:Rh):Nat→Int→Option Rj
  | 0,_=>none
  | l+1,c=>(Zld N c).bind fun b=>(U2 N ((a.1.1.1.1,a.1.1.1.2),a.1.1.2) ((b.1.1,b.1.2),b.2)).bind fun d=>(Zin N ((d.1.1,d.1.2),d.2)).bind fun e=>(Zlp N ((e.1.1,e.1.2),e.2)).bind fun k=>(Zj5 N (k.1,k.2)).bind fun f=>(Za9).bind fun g=>(Uk N ((f.1,f.2),[1]) ((g.1.1,g.1.2),g.2)).bind fun i=>(U2 N ((a.1.2.1.1,a.1.2.1.2),a.1.2.2) ((b.1.1,b.1.2),b.2)).bind fun j=>(U1 N ((i.1.1,i.1.2),i.2) ((j.1.1,j.1.2),j.2)).bind fun m=>if (decide (m≤0))=true then ((Zh2 N f.2 c).bind fun n=>some (n,0)) else ((Zb6 N a l) (i64.wrap (c+1)))
def S5 (N:Nat) (b:R1) (f:List Int):Option Rj:=
  (Za8 N (b.1,b.2.1,b.2.2.1,b.2.2.2.1,b.2.2.2.2) f).bind fun a=>if (!decide (a.2=0))=true then (some (⟨#[]⟩,a.2)) else ((Qu N ((a.1.2.1.1,a.1.2.1.2),a.1.2.2) ((a.1.1.1.1,a.1.1.1.2),a.1.1.2)).bind fun c=>(Zbh N ((c.1.1,c.1.2),c.2)).bind fun g=>if (decide (g≤0))=true then (some (⟨#[]⟩,52)) else ((Zcj N c.2).bind fun d=>(Zcj N c.1.2).bind fun e=>Zb6 N a N (if 0>(i64.wrap ((i64.wrap (d - e)) - 1)) then 0 else (i64.wrap ((i64.wrap (d - e)) - 1)))))
theorem Z3b {N x L R S a4:Nat} {V W c t u:Option Addr} {col:Zg} {m:World} {o:R1} {p:R2} {r:Rj} (b:S5 N o p=some r) (a9:Sl Zc.str col m V x o.2.1) (ba:Sl rV col m W L o.2.2.1) (bb:Sl rP col m c R o.2.2.2.1) (bc:Sl (Zc.slice rQ) col m t S o.2.2.2.2) (h1:Sl rI col m u a4 p):
    Calls prog 49 #[(.agg (Rt o V x W L c R t S)),.slice u p.length a4] m (fun e w'=>e= .returned (.tuple #[.string r.1,.int .i64 r.2])∧Below m.heap.size m w'):=by
 refine Zde 4 5 (m:=66) (args:=[(.agg (Rt o V x W L c R t S)),.slice u p.length a4]) func49 O O O O O ?_;rw [S5.eq_1] at b;have g:=St.start col m;refine go ?_;refine Xj (col:=(Zk col)) 1 O fun _ _ _ L p=>go ?_;refine lV _ (Zz isAgg27 sizeOf27 p)<|Wg O ?_;obtain ⟨f,u,b⟩:=bZ b;replace g:=g.grow L;refine Zh (Zuq 2 3 4 5 u (a9.k0.ks g) (ba.k0.ks g) (bb.k0.ks g) (bc.k0.ks g) (h1.k0.ks g)) fun _ _ ⟨S,C,D,M,F,G,H,I,J,d,W,i,j,k,l⟩=>⟨_,d,?_⟩;refine lM (.tuple #[(.agg #[.bool f.1.1.1.1,.slice C f.1.1.1.2.length D,.slice M f.1.1.2.length F,.bool f.1.2.1.1,.slice G f.1.2.1.2.length H,.slice I f.1.2.2.length J]),.int .i64 f.2])<|lV (.agg #[.bool f.1.1.1.1,.slice C f.1.1.1.2.length D,.slice M f.1.1.2.length F,.bool f.1.2.1.1,.slice G f.1.2.1.2.length H,.slice I f.1.2.2.length J]) (Xl O O)<|lV (.int .i64 f.2) (Xl O O)<|Xc (col:=S) #[.bool false,(nI),(nI),.bool false,(nI),(nI)] 6 zeroValue44 ?_;intro bv _ w S V;refine Zs V fun bx R t h=>go ?_;replace g:=((g.grow W).grow S).kp R t;replace i:=(i.gr S).kp R;replace j:=(j.gr S).kp R;replace k:=(k.gr S).kp R;replace l:=(l.gr S).kp R;refine Zp b (fun U b=>go ?_) fun U b=>go ?_
 ·cases b;exact ⟨O,O,g.below⟩
 refine Xt ⟨_,_,O⟩ ?_;refine lV (.agg #[.bool f.1.2.1.1,.slice G f.1.2.1.2.length H,.slice I f.1.2.2.length J]) (Xi isAgg42 sizeOf42 O O ((h.atN).part 3 3 _ O))<|Xt ⟨_,_,O⟩ ?_;refine lV (.agg #[.bool f.1.1.1.1,.slice C f.1.1.1.2.length D,.slice M f.1.1.2.length F]) (Xi isAgg42 sizeOf42 O O ((h.atN).part 0 3 _ O)) ?_;obtain ⟨_,c,b⟩:=bZ b;refine Zh (Zn2 7 8 c ((((k.toSlF (Ze.int .u32)).froz 5).froz 2).froz 3) ((((l.froz 4).toSlF (Ze.int .u32)).froz 2).froz 3) ((((i.froz 4).froz 5).toSlF (Ze.int .u32)).froz 3) ((((j.froz 4).froz 5).froz 2).toSlF (Ze.int .u32))) fun _ _ ⟨R,_,_,_,_,d,L,B,A⟩=>⟨_,d,?_⟩;replace B:=B.thaw (Zt .u32) L (((((Fz.refl (col:=w)).froz 4).froz 5).froz 2).froz 3) (by decide);replace A:=A.thaw (Zt .u32) L (((((Fz.refl (col:=w)).froz 4).froz 5).froz 2).froz 3) (by decide);replace L:=L.thawR (col:=w);generalize Z2 bx.heap.size w R=W at *;refine Xc (col:=W) #[.bool false,(nI),(nI)] 9 zeroValue42 fun _ _ z W w=>Zs w fun _ V c T=>go ?_;refine lV _ (Zz isAgg42 sizeOf42 T) ?_;obtain ⟨_,w,b⟩:=bZ b;replace B:=(B.gr W).kp V;replace A:=(A.gr W).kp V;refine Zh (Zqu w ((B.toSlF (Ze.int .u32)).froz 8) ((A.froz 7).toSlF (Ze.int .u32))) fun _ _ ⟨d,y⟩=>⟨_,d,?_⟩;replace y:=Ru z y;refine go ?_;replace i:=(((i.gr L).gr W).kp V).gr y;replace j:=(((j.gr L).gr W).kp V).gr y;replace k:=(((k.gr L).gr W).kp V).gr y;replace l:=(((l.gr L).gr W).kp V).gr y;replace h:=(((h.gr L).gr W).kp V).gr y;replace g:=(((g.grow L).grow W).kp V c).grow y;replace T:=T.gr y;refine Zp b (fun U b=>go ?_) fun U b=>go ?_
 ·cases b;exact ⟨O,O,g.below⟩
 refine Vp (col:=z) (by kernel_rfl) (by kernel_rfl)<|qF ⟨_,_,O⟩ ?_;refine qW (fun _ a=>((T.atN).nth (q:=2) O).gr (a.bl z)) ?_;obtain ⟨t,x,b⟩:=bZ b;refine qc (v:=(.int .i64 t)) O (fun _ a=>⟨_,_,Zg0 call97 O,(Zqw x (((A.gr y).gr (a.bl z)).toSlF (Ze.int .u32)):).mono fun _ _ p=>⟨p.1,a.trans (.of_below p.2)⟩⟩) ?_;refine qF ⟨_,_,O⟩ ?_;refine qF (Q5 ⟨_,_,O⟩) ?_;refine qW (fun _ a=>((((T.atN).part 0 2 _ O)).nth (q:=1) O).gr (a.bl z)) ?_;obtain ⟨c,A,b⟩:=bZ b;refine qc (v:=(.int .i64 c)) O (fun _ a=>⟨_,_,Zg0 call97 O,(Zqw A (((B.gr y).gr (a.bl z)).toSlF (Ze.int .u32)):).mono fun _ _ p=>⟨p.1,a.trans (.of_below p.2)⟩⟩) ?_;refine go ?_;refine qv (v:=(.int .i64 (if 0>(i64.wrap ((i64.wrap (t - c)) - 1)) then 0 else (i64.wrap ((i64.wrap (t - c)) - 1))))) O (fun _ a=>Z9z (i64.wrap ((i64.wrap (t - c)) - 1)) 0 O O) ?_;refine go ?_;refine Wj ?_;intro _ a;replace a:=a.bl z;refine Zg7 ?_;replace i:=i.gr a;replace j:=j.gr a;replace k:=k.gr a;replace l:=l.gr a;replace h:=h.gr a;replace g:=g.grow a;refine Z0 [6,1000000] (fun V p x=>∃ X T K,K=V∧Zb6 N f K T=some r∧St m (Zk col) X x∧Zb rU 119 2 X x C D f.1.1.1.2∧Zb rU 119 3 X x M F f.1.1.2∧Zb rU 119 4 X x G H f.1.2.1.2∧Zb rU 119 5 X x I J f.1.2.2∧Zi 44 6 X x bv #[.bool f.1.1.1.1,.slice C f.1.1.1.2.length D,.slice M f.1.1.2.length F,.bool f.1.2.1.1,.slice G f.1.2.1.2.length H,.slice I f.1.2.2.length J]∧[9].map p=[.int .i64 T]) N ⟨_,_,_,O,b,g,i,j,k,l,h,O⟩ ?_;clear b;intro V p x m;obtain ⟨X,T,K,hn,b,g,i,j,k,l,h,hs⟩:=m;subst hn;refine .lL [9] hs ?_
 cases K with
 | zero=>rw [Zb6.eq_1] at b;cases b
 | succ K=>
  rw [Zb6.eq_2] at b;refine go ?_;obtain ⟨_,T,b⟩:=bZ b;refine Zh (Z3i (col:=X) 10 11 T) fun _ _ ⟨X,_,_,_,_,d,E,n,Q⟩=>⟨_,d,?_⟩;refine Xc (col:=X) #[.bool false,(nI),(nI)] 12 zeroValue42 fun _ _ u Z y=>Zs y fun T Y ce ax=>go ?_;refine Xt ⟨_,_,O⟩ ?_;replace h:=((h.gr E).gr Z).kp Y;refine lV (.agg #[.bool f.1.1.1.1,.slice C f.1.1.1.2.length D,.slice M f.1.1.2.length F]) (Xi isAgg42 sizeOf42 O O ((h.atN).part 0 3 _ O))<|lV _ (Zz isAgg42 sizeOf42 ax) ?_;obtain ⟨_,y,b⟩:=bZ b;replace i:=((i.gr E).gr Z).kp Y;replace j:=((j.gr E).gr Z).kp Y;replace n:=(n.gr Z).kp Y;replace Q:=(Q.gr Z).kp Y;refine Zh (Ze1 13 14 y ((((i.toSlF (Ze.int .u32)).froz 3).froz 10).froz 11) ((((j.froz 2).toSlF (Ze.int .u32)).froz 10).froz 11) ((((n.froz 2).froz 3).toSlF (Ze.int .u32)).froz 11) ((((Q.froz 2).froz 3).froz 10).toSlF (Ze.int .u32))) fun _ M ⟨D,_,_,_,_,d,s,R,S⟩=>⟨_,d,?_⟩;replace R:=R.thaw (Zt .u32) s (((((Fz.refl (col:=u)).froz 2).froz 3).froz 10).froz 11) (by decide);replace S:=S.thaw (Zt .u32) s (((((Fz.refl (col:=u)).froz 2).froz 3).froz 10).froz 11) (by decide);replace s:=s.thawR (col:=u);generalize Z2 T.heap.size u D=m at *;obtain ⟨_,D,b⟩:=bZ b;refine Zh (Z30 15 16 D ((R.toSlF (Ze.int .u32)).froz 14) ((S.froz 13).toSlF (Ze.int .u32))) fun _ cj ⟨B,_,_,_,_,d,q,F,L⟩=>⟨_,d,?_⟩;replace F:=F.thaw (Zt .u32) q (((Fz.refl (col:=m)).froz 13).froz 14);replace L:=L.thaw (Zt .u32) q (((Fz.refl (col:=m)).froz 13).froz 14);replace q:=q.thawR (col:=m);generalize Z2 M.heap.size m B=bi at *;obtain ⟨_,B,b⟩:=bZ b;refine Zh (Z3z 17 B ((F.toSlF (Ze.int .u32)).froz 16) ((L.froz 15).toSlF (Ze.int .u32))) ?_
  rintro _ cn ⟨co,eb,ec,rfl,v,P⟩;refine ⟨_,O,?_⟩;replace P:=P.thaw (Zt .u32) v (((Fz.refl (col:=bi)).froz 15).froz 16);replace v:=v.thawR (col:=bi);generalize Z2 cj.heap.size bi co=y at *;obtain ⟨m,C,b⟩:=bZ b;refine Zh (Z5n 18 C (P.toSlF (Ze.int .u32))) fun _ _ ⟨M,z,C,d,u,w⟩=>⟨_,d,?_⟩;replace w:=w.thaw (Zt .u32) u ((Fz.refl (col:=y)).froz 17);replace u:=u.thawR (col:=y);generalize Z2 cn.heap.size y M=A at *;refine Vn (col:=A) [1] 19 fun F _ P M X=>lV (.agg #[.bool m.1,.slice z m.2.length C,.slice F ([1].length) 1]) (Yc (l:=[_,_]) (qs:=[(0,2),(2,1)]) underlying42 zeroValue42 ⟨O,sizeOf40,O,sizeOf38,trivial⟩ O)<|Xc (col:=P) #[.bool false,(nI),(nI)] 20 zeroValue42 ?_;intro _ _ B A z;refine Zs z fun _ z F P=>go ?_;refine Ym (col:=B) [(0,0),(3,1),(4,0),(5,0),(1,3),(2,3),(6,3),(7,3),(8,1)] (by kernel_rfl) (by kernel_rfl)<|xv O O (fun _ a=>Zz isAgg42 sizeOf42 (P.gr (a.bl B))) ?_;refine xF ⟨_,_,O⟩ ?_;replace h:=((((((h.gr s).gr q).gr v).gr u).gr M).gr A).kp z;refine xv (v:=(.agg #[.bool f.1.2.1.1,.slice G f.1.2.1.2.length H,.slice I f.1.2.2.length J])) O O (fun _ a=>Xi isAgg42 sizeOf42 O O (((h.atN).part 3 3 _ O).gr (a.bl B))) ?_;refine xv O O (fun _ a=>Zz isAgg42 sizeOf42 ((((((((ax.gr s).gr q).gr v).gr u).gr M).gr A).kp z).gr (a.bl B))) ?_;refine xe O O ?_;intro _ c;have a:=c.bl B;obtain ⟨_,J,b⟩:=bZ b;refine lc O O (Sv call47) (Zhg (col:=B) 21 22 J:) fun _ _ ⟨D,_,_,_,_,d,t,G,H⟩=>⟨_,d,?_⟩;refine Zj<|Xb D c t<|xe O O ?_;intro J c;replace k:=(((((((((((k.gr E).gr Z).kp Y).gr s).gr q).gr v).gr u).gr M).gr A).kp z).gr a).gr t;replace l:=(((((((((((l.gr E).gr Z).kp Y).gr s).gr q).gr v).gr u).gr M).gr A).kp z).gr a).gr t
  replace g:=(((((((((((g.grow E).grow Z).kp Y ce).grow s).grow q).grow v).grow u).grow M).grow A).kp z F).grow a).grow t;replace i:=((((((((i.gr s).gr q).gr v).gr u).gr M).gr A).kp z).gr a).gr t;replace j:=((((((((j.gr s).gr q).gr v).gr u).gr M).gr A).kp z).gr a).gr t;replace n:=((((((((n.gr s).gr q).gr v).gr u).gr M).gr A).kp z).gr a).gr t;replace Q:=((((((((Q.gr s).gr q).gr v).gr u).gr M).gr A).kp z).gr a).gr t;replace w:=((((w.gr M).gr A).kp z).gr a).gr t;replace X:=(((X.gr A).kp z).gr a).gr t;replace h:=(h.gr a).gr t;replace P:=(P.gr a).gr t;have a:=c.bl D;obtain ⟨_,I,b⟩:=bZ b;replace w:=w.gr a;refine Zh (Zb3 23 24 I ((((w.toSlF (Ze.int .u32)).froz 19).froz 21).froz 22) (((((X.gr a).froz 18).toSlF (Ze.int .u32)).froz 21).froz 22) (((((G.gr a).froz 18).froz 19).toSlF (Ze.int .u32)).froz 22) (((((H.gr a).froz 18).froz 19).froz 21).toSlF (Ze.int .u32))) fun _ _ ⟨Z,_,_,_,_,d,p,v,E⟩=>⟨_,d,?_⟩;replace v:=v.thaw (Zt .u32) p (((((Fz.refl (col:=D)).froz 18).froz 19).froz 21).froz 22) (by decide);replace E:=E.thaw (Zt .u32) p (((((Fz.refl (col:=D)).froz 18).froz 19).froz 21).froz 22) (by decide);replace p:=p.thawR (col:=D);generalize Z2 J.heap.size D Z=C at *;refine Zj<|Xb C c p<|xe O O ?_;intro f c;replace i:=(i.gr a).gr p;replace j:=(j.gr a).gr p;replace k:=(k.gr a).gr p;replace l:=(l.gr a).gr p;replace n:=(n.gr a).gr p;replace Q:=(Q.gr a).gr p;replace h:=(h.gr a).gr p;replace P:=(P.gr a).gr p;replace g:=(g.grow a).grow p;have a:=c.bl C;obtain ⟨_,Y,b⟩:=bZ b;replace k:=k.gr a;replace l:=l.gr a;replace Q:=Q.gr a
  refine Zh (Ze1 25 26 Y ((((k.toSlF (Ze.int .u32)).froz 5).froz 10).froz 11) ((((l.froz 4).toSlF (Ze.int .u32)).froz 10).froz 11) (((((n.gr a).froz 4).froz 5).toSlF (Ze.int .u32)).froz 11) ((((Q.froz 4).froz 5).froz 10).toSlF (Ze.int .u32))) fun _ _ ⟨Q,_,_,_,_,d,n,q,s⟩=>⟨_,d,?_⟩;replace q:=q.thaw (Zt .u32) n (((((Fz.refl (col:=C)).froz 4).froz 5).froz 10).froz 11) (by decide);replace s:=s.thaw (Zt .u32) n (((((Fz.refl (col:=C)).froz 4).froz 5).froz 10).froz 11) (by decide);replace n:=n.thawR (col:=C);generalize Z2 f.heap.size C Q=f at *;refine Zj<|Xb f c n<|xe O O ?_;intro _ c;replace w:=((w.gr p).gr a).gr n;replace i:=(i.gr a).gr n;replace j:=(j.gr a).gr n;replace v:=(v.gr a).gr n;replace E:=(E.gr a).gr n;replace h:=(h.gr a).gr n;replace P:=(P.gr a).gr n;replace g:=(g.grow a).grow n;have a:=c.bl f;obtain ⟨_,G,b⟩:=bZ b;refine Zh (Zdb G (((((v.gr a).toSlF (Ze.int .u32)).froz 24).froz 25).froz 26) (((((E.gr a).froz 23).toSlF (Ze.int .u32)).froz 25).froz 26) (((((q.gr a).froz 23).froz 24).toSlF (Ze.int .u32)).froz 26) (((((s.gr a).froz 23).froz 24).froz 25).toSlF (Ze.int .u32))) fun _ _ ⟨d,x⟩=>⟨_,d,?_⟩;replace x:=Ru f x;refine Zj<|Xb f c x<|xu O O (fun _=>Zta _ _ O O) ?_;refine Yf ?_;replace k:=((k.gr n).gr a).gr x;replace l:=((l.gr n).gr a).gr x;replace i:=(i.gr a).gr x;replace j:=(j.gr a).gr x;replace w:=(w.gr a).gr x;replace h:=(h.gr a).gr x;replace P:=(P.gr a).gr x;replace g:=(g.grow a).grow x;intro _ a;replace a:=a.bl f;replace g:=g.grow a
  refine Zp b (fun U b=>go ?_) fun U b=>go ?_
  ·refine Xt ⟨_,_,O⟩ ?_;refine Xt (Q5 ⟨_,_,O⟩) ?_;refine lW (((((P.gr a).atN).part 0 2 _ O)).nth (q:=1) O)<|Xy O ?_;obtain ⟨_,H,b⟩:=bZ b;refine Zh (Z3g H ((w.gr a).toSlF (Ze.int .u32))) fun _ _ ⟨d,bo⟩=>⟨_,d,?_⟩;replace bo:=Ru f bo;refine go ?_;cases b;replace g:=g.grow bo;exact ⟨O,O,g.below⟩
  exact ⟨K,by omega,O,⟨_,_,_,O,b,g,i.gr a,j.gr a,k.gr a,l.gr a,h.gr a,O⟩⟩
theorem Zpt {a b:Rat}:Vf a b≤0↔a≤b:=by
 rw [Vf,← bQ]
 by_cases h:a<b
 ·rw [if_pos h];exact ⟨fun _ g=>absurd (Rat.le_of_lt h) (Rat.not_le.2 g),fun _=>by decide⟩
 ·rw [if_neg h]
  by_cases g:b<a
  ·rw [if_pos g];exact ⟨fun e=>absurd e (by decide),fun e=>absurd g e⟩
  ·rw [if_neg g];exact ⟨fun _=>g,fun _=>by decide⟩
theorem Z9h {a b:Rat}:0≤Vf a b↔b≤a:=by
 rw [Vf,← bQ]
 by_cases h:a<b
 ·rw [if_pos h];exact ⟨fun e=>absurd e (by decide),fun e=>absurd h e⟩
 ·rw [if_neg h]
  by_cases g:b<a
  ·rw [if_pos g];exact ⟨fun _=>h,fun _=>by decide⟩
  ·rw [if_neg g];exact ⟨fun _=>h,fun _=>by decide⟩
abbrev We (k:Nat):Rat:=mkRat ((2 ^ k:Nat):Int) 1
def bN (f:Rat) (k:Nat):Int:= -Ud (-(f * We k))
theorem Z80 (b:Int):mkRat b 1+1=mkRat (b+1) 1:=Zph b 1 (D:=1) (by decide)
theorem Zrr {b:Int} {t:Rat} {Z:Nat} (hZ:Z≠0):Vf (mkRat b 1+1) (t * mkRat (Z:Int) 1)≤0↔mkRat (b+1) Z≤t:=by
 have ht:=dH t
 have a:=t.den_nz
 generalize t.num=n at ht
 generalize t.den=d at ht a
 subst ht
 rw [Zpt,Z80,eI,← bQ,← bQ,Vs (by omega) (by decide),Vs a hZ]
 simp
theorem Z24 {q:Rat} (h:0<q) {Z:Nat} (hZ:2 * q.den≤Z):2≤q * mkRat (Z:Int) 1:=by
 have a:mkRat 0 1<mkRat q.num q.den:=by rw [dH];exact h
 rw [Vs (by decide) q.den_nz] at a
 have ht:=dH q
 have c:=q.den_nz
 generalize q.num=n at *
 generalize q.den=d at *
 subst ht
 rw [eI,← bQ,show (2:Rat)=mkRat 2 1 from rfl,Vs (by omega) (by decide)]
 have g:1 * (Z:Int)≤n * (Z:Int):=Int.mul_le_mul_of_nonneg_right (by simp at a;omega) (by omega)
 have e:((d * 1:Nat):Int)=(d:Int):=by rw [Nat.mul_one]
 rw [e]
 have b:((1:Nat):Int)=1:=rfl
 rw [b,eZ]
 omega
theorem Z7e {f t:Rat} (h:f<t):mkRat (bN f (Xf (t - f).den+1)+1) (2 ^ (Xf (t - f).den+1))≤t:=by
 have b:0<t - f:=by grind
 have c:2 * (t - f).den≤2 ^ (Xf (t - f).den+1):=by
  have:=V4.1 (aV (Xf (t - f).den))
  rw [aW];omega
 have d:=Z24 b c
 have a:(2 ^ (Xf (t - f).den+1):Nat)≠0:=fX.1 (dO (by decide))
 rw [← Zrr a,Zpt,bN]
 generalize (Xf (t - f).den+1)=k at *
 have g:=Z7g (-(f * We k))
 generalize hF:Ud (-(f * We k))=F at *
 have e:mkRat (-F) 1= -(F:Rat):=by rw [gF];simp
 rw [e]
 have i:2≤t * We k - f * We k:=by
  have j:t * We k - f * We k=(t - f) * We k:=by grind
  rw [j];exact d
 generalize f * We k=x at *
 generalize t * We k=y at *
 have l:2≤y - x:=i
 have m:-x<(F:Rat)+1:=g
 show -(F:Rat)+1≤y
 grind
section
variable {N K:Nat} {f t:Rat} (hf:qs f≤K) (ht:qs t≤K) (hr:Z8 N (13 * K+64)) {k:Nat} (hk:k / 32+1≤2 * K+3) (hKc:K≤17000000000)
theorem Zz2 (k:Nat):qs (We k)≤k / 32+1:=by
 refine Zc4 ?_ ?_ (by omega)
 ·rw [Int.natAbs_natCast];exact Zpq k
 ·rw [Uj];simp
include hf hr hk
omit hr in
theorem Z20:(Xa (bN f k)).2.length≤3 * K+4:=by
 have a:=Zxh (-(f * We k))
 rw [Zm4] at a
 have b:=Zgy f (We k)
 have c:=Zz2 k
 rw [Qp] at a ⊢
 rw [bN,Int.natAbs_neg]
 omega
include hKc
include ht
theorem Zw1 (hN:2199023255552<N) (g:Nat):Zb6 N ((Zm f,Zm t),0) (g+1) (k:Int)=if mkRat (bN f k+1) (2 ^ k)≤t then some (Vc (Wq (bN f k).natAbs k),0) else Zb6 N ((Zm f,Zm t),0) g ((k+1:Nat):Int):=by
 have j:=hr.2
 have c:=hr.1
 have d:=Z20 (f:=f) hf hk
 have x:=Zz2 k
 have y:=Zgy f (We k)
 have A:=Zgy t (We k)
 have l:RV (2 * K+3) (pw k):=(Xam k).mono hk
 have mul:∀ q:Rat,qs q≤K→U2 N (((Zm q).1.1,(Zm q).1.2),(Zm q).2) (((pw k).1.1,(pw k).1.2),(pw k).2)=some (Zm (q * We k)):=fun q m=>by
  have:=Zk9 (Yi m) l (hr.mono (by omega))
  rwa [Xz,Z9j] at this
 have n:Zin N (((Zm (f * We k)).1.1,(Zm (f * We k)).1.2),(Zm (f * We k)).2)=some (Zm (-(f * We k))):=by
  have:=Z7i (Yi (aV (qs (f * We k)))) (hr.mono (by omega))
  rwa [Xz] at this
 have o:=Z68 (N:=N) (q:= -(f * We k)) (aV _) (hr.mono (by rw [Zm4];omega))
 have p:Zj5 N ((Xa (Ud (-(f * We k)))).1,(Xa (Ud (-(f * We k)))).2)=some (Xa (bN f k)):=by
  have i:=Zxh (-(f * We k))
  rw [Zm4] at i
  have:=Xbb (N:=N) (a:=Xa (Ud (-(f * We k)))) (Wz _) i (hr.mono (by omega))
  rwa [W2] at this
 have r:RV (3 * K+4) (Xa (bN f k),[1]):=⟨Wz _,by simp [Zo],d,by simp⟩
 have s:Zq (Xa (bN f k),[1])=mkRat (bN f k) 1:=by
  rw [Zq];simp only [W2];rfl
 have u:Uk N (((Xa (bN f k)).1,(Xa (bN f k)).2),[1]) (((Zm 1).1.1,(Zm 1).1.2),(Zm 1).2)=some (Zm (mkRat (bN f k) 1+1)):=by
  have:=Ze4 r (Yi (Nat.le_of_eq Zkd)) (hr.mono (by omega))
  rwa [Xz,s] at this
 have q1:qs (mkRat (bN f k) 1+1)≤3 * K+6:=by
  have v:=Zkc (mkRat (bN f k) 1) 1
  rw [Zkd] at v
  have B:qs (mkRat (bN f k) 1)≤3 * K+4:=Zc4 (by rwa [Qp] at d) (by rw [Uj];simp) (by omega)
  omega
 have cm:U1 N (((Zm (mkRat (bN f k) 1+1)).1.1,(Zm (mkRat (bN f k) 1+1)).1.2),(Zm (mkRat (bN f k) 1+1)).2) (((Zm (t * We k)).1.1,(Zm (t * We k)).1.2),(Zm (t * We k)).2)=some (Vf (mkRat (bN f k) 1+1) (t * We k)):=by
  have:=Zdk (Yi q1) (Yi (k:=3 * K+3) (q:=t * We k) (by omega)) (hr.mono (by omega))
  rwa [Xz,Xz] at this
 have w:Zh2 N (Xa (bN f k)).2 (k:Int)=some (Vc (Wq (bN f k).natAbs k)):=by
  have:=Z6g (N:=N) (k:=k) (a:=(Xa (bN f k)).2) (Wz _) (by omega) (by omega) (by omega)
  rwa [Qp,Z6] at this
 have b:(2 ^ k:Nat)≠0:=fX.1 (dO (by decide))
 rw [Zb6.eq_2,Z9e (by omega) (by omega),oB]
 dsimp only
 rw [mul f hf,oB,n,oB,o,oB,p,oB,Zhn,oB,u,oB,mul t ht,oB,cm,oB]
 by_cases h:mkRat (bN f k+1) (2 ^ k)≤t
 ·rw [if_pos (dT ((Zrr b).2 h)),if_pos h,w,oB]
 ·rw [if_neg (by rw [decide_eq_false (fun e=>h ((Zrr b).1 e))];decide),if_neg h,wS (by omega)]
end
def Zh6 (a:Nat) (kk_L1:(Nat→Option Int)):Option Int:=
  kk_L1 (a+1)
def Zds (a:Nat) (kk_L1:(Nat→Option Int)) (b:Bool):Option Int:=
  if b=true then (some (a:Int)) else (Zh6 a kk_L1)
def Zai (N:Nat) (b:(R0×R0)):List (R0×R0)→Nat→Option Int
  | [],c=>some (-1)
  | a :: d,c=>(U1 N ((a.1.1.1,a.1.1.2),a.1.2) ((b.1.1.1,b.1.1.2),b.1.2)).bind fun e=>if (decide (e≤0))=true then ((U1 N ((b.2.1.1,b.2.1.2),b.2.2) ((a.2.1.1,a.2.1.2),a.2.2)).bind fun f=>if (decide (f≤0))=true then ((U1 N ((a.1.1.1,a.1.1.2),a.1.2) ((a.2.1.1,a.2.1.2),a.2.2)).bind fun g=>Zds c (Zai N b d) (decide (g<0))) else (Zds c (Zai N b d) false)) else (Zds c (Zai N b d) false)
def Zop (N:Nat) (c:Int) (a:Rc) (b:(R0×R0)):Option Int:=
  Zai N b a 0
theorem Z3k (N:Nat) (col:Zg) (e:World) (j:Nat) (h:j≠0) (af:Int) (V:Option Addr) (U:Nat) (q:Rc) (n:Nat) (a:(R0×R0)) (s:Option Addr) (t:Nat) (u:Option Addr) (v:Nat) (w:Option Addr) (x:Nat) (y:Option Addr) (G:Nat) (m:Sl (Zc.pair rQ rQ) col e V U q) (ah:Sl rU col e s t a.1.1.2) (ai:Sl rU col e u v a.1.2) (a0:Sl rU col e w x a.2.1.2) (K:Sl rU col e y G a.2.2) (b:Zi 44 j col e n #[.bool a.1.1.1,.slice s a.1.1.2.length t,.slice u a.1.2.length v,.bool a.2.1.1,.slice w a.2.1.2.length x,.slice y a.2.2.length G]) (r:Int) (c:Zop N af q a=some r):
    Calls prog 144 #[.int .i64 af,.slice V q.length U,.pointer (some ⟨n,0,none⟩)] e (W8 e r):=by
 refine Xk 5 (m:=39) func144 O O O O O ?_;rw [Zop.eq_1] at c;have d:=St.start col e;replace b:=b.start0 h;refine go ?_;refine Z0 [2,8,9,1000000] (fun V z Z=>∃ W o R,V=R.length∧q.drop o=R∧Zai N a R o=some r∧St e (Zk col) W Z∧Zi 44 999 W Z n #[.bool a.1.1.1,.slice s a.1.1.2.length t,.slice u a.1.2.length v,.bool a.2.1.1,.slice w a.2.1.2.length x,.slice y a.2.2.length G]∧[10].map z=[.int .i64 o]) q.length ⟨_,0,_,O,O,c,d,b,O⟩ ?_;clear c;intro V z Z H;obtain ⟨W,o,R,l,T,c,d,b,Q⟩:=H;subst l;refine .lL [10] Q ?_;replace m:=m.k0;replace K:=K.k0
 cases R with
 | nil=>
  have L:¬ ((o:Int)<(q.length:Int)):=by have:=aF.1 T;omega
  have g:=decide_eq_false L;rw [Zai.eq_1] at c;refine go ?_;refine Yd (congrArg Value.bool g)<|go ?_;cases c;exact ⟨O,O,d.below⟩
 | cons f k=>
  obtain ⟨h,R,U⟩:=Yo T;have L:(o:Int)<(q.length:Int):=by omega
  have g:=decide_eq_true L;rw [Zai.eq_2] at c;refine go ?_;refine Ye (congrArg Value.bool g)<|X1<|Zw ?_;refine Wp.cutK [10,2,8,9,1000000] (fun z X=>∃ Y,Zh6 o (Zai N a k)=some r∧St e (Zk col) Y X∧Zi 44 999 Y X n #[.bool a.1.1.1,.slice s a.1.1.2.length t,.slice u a.1.2.length v,.bool a.2.1.1,.slice w a.2.1.2.length x,.slice y a.2.2.length G]) ?_ ?_
  ·intro z X i;obtain ⟨Y,c,d,b⟩:=i;rw [Zh6.eq_1] at c;refine go ?_;exact ⟨k.length,by simp,O,⟨_,_,_,O,R,c,d,b,(Yv (congrArg (Value.int .i64) (Yp (aG U (m.ks d).1.1))) O)⟩⟩
  refine go ?_;refine lI h ((m.ks d).addr h) ?_;obtain ⟨_,P,am⟩:=(m.ks d).atN h;obtain ⟨_,_,rfl,I,ao⟩:=Yw P;obtain ⟨_,_,rfl,J,aq⟩:=Yw I;obtain ⟨_,_,rfl,A,au⟩:=Yw J;obtain ⟨rfl,_⟩:=A;obtain ⟨⟨a8,a9,rfl,F⟩,_⟩:=au;obtain ⟨⟨S,ba,rfl,E⟩,_⟩:=aq;obtain ⟨_,_,rfl,M,aw⟩:=Yw ao;obtain ⟨_,_,rfl,B,ay⟩:=Yw M;obtain ⟨rfl,_⟩:=B;obtain ⟨⟨bb,bc,rfl,D⟩,_⟩:=ay;obtain ⟨⟨bd,be,rfl,C⟩,_⟩:=aw;refine lV (.agg #[.bool f.1.1.1,.slice a8 f.1.1.2.length a9,.slice S f.1.2.length ba,.bool f.2.1.1,.slice bb f.2.1.2.length bc,.slice bd f.2.2.length be]) (Xi isAgg44 sizeOf44 O O am)<|Xc (col:=W) #[.bool false,(nI),(nI),.bool false,(nI),(nI)] 1 zeroValue44 ?_;intro _ _ bf B g;refine Yr O<|Zs g ?_;intro _ A L p;refine Zj<|Zw ?_;replace F:=(F.gr B).kp A;replace E:=(E.gr B).kp A;replace D:=(D.gr B).kp A;replace C:=(C.gr B).kp A;replace b:=(b.gr B).kp A;replace d:=(d.grow B).kp A L;refine Wp.cutK [10,2,6,8,9,1000000] (fun z H=>∃ I J,Zds o (Zai N a k) J=some r∧St e (Zk col) I H∧Zi 44 999 I H n #[.bool a.1.1.1,.slice s a.1.1.2.length t,.slice u a.1.2.length v,.bool a.2.1.1,.slice w a.2.1.2.length x,.slice y a.2.2.length G]∧[36].map z=[.bool J]) ?_ ?_
  ·intro z H i;obtain ⟨I,J,c,d,b,Q⟩:=i;rw [Zds.eq_1] at c;refine .lL [36] Q ?_;refine Zp c (fun e c=>go ?_) fun e c=>?_
   ·cases c;exact ⟨O,O,d.below⟩
   refine X1 ?_;exact ⟨O,_,c,d,b⟩
  refine Wv<|Xt ⟨_,_,O⟩ ?_;refine lV (.agg #[.bool f.1.1.1,.slice a8 f.1.1.2.length a9,.slice S f.1.2.length ba]) (Xi isAgg42 sizeOf42 O O ((p.atN).part 0 3 _ O))<|Xt ⟨_,_,O⟩ ?_;refine lV (.agg #[.bool a.1.1.1,.slice s a.1.1.2.length t,.slice u a.1.2.length v]) (Xi isAgg42 sizeOf42 O O ((b.atN).part 0 3 _ O)) ?_;obtain ⟨_,j,c⟩:=bZ c;refine Zh (Zdb j F E (ah.k0.ks d) (ai.k0.ks d)) fun _ _ ⟨l,i⟩=>⟨_,l,?_⟩;replace i:=Ru bf i;refine go ?_;replace F:=F.gr i;replace E:=E.gr i;replace D:=D.gr i;replace C:=C.gr i;replace b:=b.gr i;replace p:=p.gr i;replace d:=d.grow i;refine X9 c (fun P c=>go ?_) fun P c=>go ?_
  ·refine Xt ⟨_,_,O⟩ ?_;refine go ?_;refine lV (.agg #[.bool a.2.1.1,.slice w a.2.1.2.length x,.slice y a.2.2.length G]) (Xi isAgg42 sizeOf42 O O ((b.atN).part 3 3 _ O))<|go ?_;refine Xt ⟨_,_,O⟩ ?_;refine go ?_;refine lV (.agg #[.bool f.2.1.1,.slice bb f.2.1.2.length bc,.slice bd f.2.2.length be]) (Xi isAgg42 sizeOf42 O O ((p.atN).part 3 3 _ O))<|go ?_;obtain ⟨n,m,c⟩:=bZ c;refine Zh (Zdb m (a0.k0.ks d) (K.ks d) D C) fun _ _ ⟨l,k⟩=>⟨_,l,?_⟩;replace k:=Ru bf k;refine go ?_;refine lV (.bool (decide (n≤0))) (Xw (congrArg Value.bool P) O)<|Td O ?_;replace b:=b.gr k;replace p:=p.gr k;replace d:=d.grow k;refine X9 c (fun M c=>go ?_) fun M c=>go ?_
   ·refine Xt ⟨_,_,O⟩ ?_;refine go ?_;refine lV (.agg #[.bool f.1.1.1,.slice a8 f.1.1.2.length a9,.slice S f.1.2.length ba]) (Xi isAgg42 sizeOf42 O O ((p.atN).part 0 3 _ O))<|go ?_;refine Xt ⟨_,_,O⟩ ?_;refine go ?_;refine lV (.agg #[.bool f.2.1.1,.slice bb f.2.1.2.length bc,.slice bd f.2.2.length be]) (Xi isAgg42 sizeOf42 O O ((p.atN).part 3 3 _ O))<|go ?_;obtain ⟨o,f,c⟩:=bZ c;refine Zh (Zdb f (F.gr k) (E.gr k) (D.gr k) (C.gr k)) fun _ _ ⟨l,S⟩=>⟨_,l,?_⟩;replace S:=Ru bf S;refine go ?_;refine lV (.bool (decide (o<0))) (Xw (congrArg Value.bool M) O)<|Zj ?_;replace b:=b.gr S;replace d:=d.grow S;exact ⟨O,_,_,c,d,b,O⟩
   refine lV (.bool false) (X0 (congrArg Value.bool M) O)<|Zj ?_;exact ⟨O,_,_,c,d,b,O⟩
  refine lV (.bool false) (X0 (congrArg Value.bool P) O)<|Td O<|lP 29 O O<|lP 29 O O<|lP 29 O O<|lP 29 O O<|lP 29 O O<|lP 29 O O<|lV (.bool false) (X0 O O)<|Zj ?_;exact ⟨O,_,_,c,d,b,O⟩
def Zfb (N:Nat) (j:R1) (k:Bool) (l m:List Int) (n:Bool) (o p:List Int) (v:Bool) (w y:List Int) (A:Bool) (B C q:List Int) (kk_L1:(Bool→R2→R2→Bool→R2→R2→Bool→R2→R2→Bool→R2→R2→Bool→R2→R2→Bool→R2→R2→R2→Option R7)) (b D:Int) (e:R0) (E:List ByteArray):Nat→Bool→R2→R2→Rc→Int→Option R7
  | 0,_,_,_,_,_=>none
  | F+1,f,g,i,d,r=>if (decide (r<(E.length:Int)))=true then ((Zn j.2.2.2.2 b).bind fun G=>(Zn j.2.2.1 b).bind fun H=>(Zn G (i64.wrap ((i64.wrap (D * (H.length:Int)))+r))).bind fun s=>(U2 N ((e.1.1,e.1.2),e.2) ((s.1.1,s.1.2),s.2)).bind fun t=>(Uk N ((f,g),i) ((t.1.1,t.1.2),t.2)).bind fun a=>Z1 ((d.length+[(((f,g),i),((a.1.1,a.1.2),a.2))].length) * 112≤140737488355328∧d.length+[(((f,g),i),((a.1.1,a.1.2),a.2))].length≤maxLen) ((Zfb N j k l m n o p v w y A B C q kk_L1 b D e E F) a.1.1 a.1.2 a.2 (d++[(((f,g),i),((a.1.1,a.1.2),a.2))]) (i64.wrap (r+1)))) else ((Zop N b d (((k,l),m),((n,o),p))).bind fun u=>if (decide (u<0))=true then (some (([]:List Int),(((false,([]:List Int)),([]:List Int)),((false,([]:List Int)),([]:List Int))),false)) else ((Zn d u).bind fun c=>(Zn q b).bind fun J=>(some (q.set (aA b) u)).bind fun I=>kk_L1 c.1.1.1 c.1.1.2 c.1.2 c.2.1.1 c.2.1.2 c.2.2 k l m n o p v w y A B C I))
termination_by structural x=>x
def Zdp (N:Nat) (a:R1) (b:Bool) (c d:List Int) (i:Bool) (j k:List Int) (l:Bool) (m n:List Int) (o:Bool) (p q:List Int) (r:Bool) (s t:List Int) (u:Bool) (v w e:List Int) (kk_L1:(Bool→R2→R2→Bool→R2→R2→Bool→R2→R2→Bool→R2→R2→Bool→R2→R2→Bool→R2→R2→R2→Option R7)) (f:Int):List Int→Int→Option R7
  | [],g=>(Qu N ((i,j),k) ((b,c),d)).bind fun A=>(Zn a.2.2.1 f).bind fun B=>Zfb N a l m n o p q r s t u v w e kk_L1 f g A B N b c d ([]:List (R0×R0)) 0
  | y :: C,g=>(Zn a.2.2.1 y).bind fun D=>(Zn e y).bind fun E=>(Zdp N a b c d i j k l m n o p q r s t u v w e kk_L1 f C) (i64.wrap ((i64.wrap (g * (D.length:Int)))+E))
termination_by structural x=>x
def Zaf (N:Nat) (a:R1):List Int→Bool→R2→R2→Bool→R2→R2→Bool→R2→R2→Bool→R2→R2→Bool→R2→R2→Bool→R2→R2→R2→Option R7
  | [],b,c,d,e,f,g,j,k,l,m,n,o,p,q,r,s,t,u,i=>some (i,(((b,c),d),((e,f),g)),true)
  | v :: w,b,c,d,e,f,g,j,k,l,m,n,o,p,q,r,s,t,u,i=>(Zn a.2.2.2.1 v).bind fun y=>Zdp N a b c d e f g j k l m n o p q r s t u i (Zaf N a w) v y 0
termination_by structural x=>x
def Zdo (N:Nat) (b:R1) (e:List Int) (a:(R0×R0)):Option R7:=
  Z1 (b.2.1.length * 8≤281474976710656∧b.2.1.length≤maxLen) ((Zam N ([]:List R0)).bind fun c=>(Za9).bind fun d=>Zaf N b e c.1.1 c.1.2 c.2 d.1.1 d.1.2 d.2 a.1.1.1 a.1.1.2 a.1.2 a.2.1.1 a.2.1.2 a.2.2 false ([]:List Int) ([]:List Int) false ([]:List Int) ([]:List Int) (aC b.2.1.length (0:Int)))
theorem Z3d {N dc ci dd cj e4 g3 e5 e6 e7 e8:Nat} {de bx df bz a1 e9 fa fb fc:Option Addr} {col:Zg} {Q:World} {s:R1} {ck:R2} {G:(R0×R0)} {r:R7} (c1 q:Nat) (c:Zdo N s ck G=some r) (hqqc3:q≠0) (ir:Sl Zc.str col Q de dc s.2.1) (b0:Sl rV col Q bx ci s.2.2.1) (ds:Sl rP col Q df dd s.2.2.2.1) (dt:Sl (Zc.slice rQ) col Q bz cj s.2.2.2.2) (h1:Sl rI col Q a1 e4 ck) (d2:Sl rU col Q e9 e5 G.1.1.2) (d3:Sl rU col Q fa e6 G.1.2) (d4:Sl rU col Q fb e7 G.2.1.2) (d5:Sl rU col Q fc e8 G.2.2) (b:Zi 44 q col Q g3 #[.bool G.1.1.1,.slice e9 G.1.1.2.length e5,.slice fa G.1.2.length e6,.bool G.2.1.1,.slice fb G.2.1.2.length e7,.slice fc G.2.2.length e8]):
    Calls prog 32 #[(.agg (Rt s de dc bx ci df dd bz cj)),.slice a1 ck.length e4,(.func (.func 144) #[] #[.pointer (some ⟨g3,0,none⟩)])] Q (fun e D=>∃ (col':Zg) (ra1:Option Addr) (rc2:Nat) (ra4:Option Addr) (rc5:Nat) (ra7:Option Addr) (rc8:Nat) (ra10:Option Addr) (q:Nat) (ra13:Option Addr) (G:Nat),e= .returned (.tuple #[.slice ra1 r.1.length rc2,(.agg #[.bool r.2.1.1.1.1,.slice ra4 r.2.1.1.1.2.length rc5,.slice ra7 r.2.1.1.2.length rc8,.bool r.2.1.2.1.1,.slice ra10 r.2.1.2.1.2.length q,.slice ra13 r.2.1.2.2.length G]),.bool r.2.2])∧Zl col Q col' D∧Zb rI 3 c1 col' D ra1 rc2 r.1∧Sl rU col' D ra4 rc5 r.2.1.1.1.2∧Sl rU col' D ra7 rc8 r.2.1.1.2∧Sl rU col' D ra10 q r.2.1.2.1.2∧Sl rU col' D ra13 G r.2.1.2.2):=by
 refine Yb (m:=122) func32 O O O ?_;rw [Zdo.eq_1] at c;have d:=St.start col Q;replace b:=b.start0 hqqc3;refine go ?_;refine Xj (col:=(Zk col)) 1 O fun dg _ G fd g=>So O<|Xc (col:=G) #[.bool false,(nI),(nI),.bool false,(nI),(nI)] 2 zeroValue44 ?_;intro d6 fi q d7 i;refine go ?_;refine Xt ⟨_,_,O⟩ ?_;replace g:=g.gr d7;refine lW ((g.atN).nth (q:=1) O)<|go ?_;obtain ⟨G,c⟩:=Z5 c;refine T6 (col:=q) (w:=fi) (r:=rI) (n:=s.2.1.length) (x0:=0) 3 O underlying28 Tryz.t3 O O O O O O O G.1 G.2 (Tx .i64 0) fun _ _ fk du ax=>go ?_;obtain ⟨q,G,c⟩:=bZ c;refine Zh (Zhj (col:=fk) 4 5 G Sl.nil) fun _ _ ⟨fm,fn,fp,fq,fr,e',dh,ay,az⟩=>⟨_,e',?_⟩;obtain ⟨G,ft,c⟩:=bZ c;refine lc O O (Sv call47) (Zhg (col:=fm) 6 7 ft:) fun _ _ ⟨fu,fv,fw,fx,fy,e',cl,a0,a2⟩=>⟨_,e',?_⟩;refine lV (.agg #[.bool q.1.1,.slice fn q.1.2.length fp,.slice fq q.2.length fr,.bool G.1.1,.slice fv G.1.2.length fw,.slice fx G.2.length fy]) (Yc (l:=[_,_]) (qs:=[(0,3),(3,3)]) underlying44 zeroValue44 ⟨O,sizeOf42,O,sizeOf42,trivial⟩ O)<|Xc (col:=fu) #[.bool false,(nI),(nI),.bool false,(nI),(nI)] 8 zeroValue44 ?_;intro ea _ _ G q;refine Zs q fun _ q f0 h=>go ?_;replace ax:=(((ax.gr dh).gr cl).gr G).kp q;replace ax:=ax.froz 4;replace ay:=((ay.gr cl).gr G).kp q;replace ay:=(ay).toSlF (Ze.int .u32);replace az:=((az.gr cl).gr G).kp q;replace az:=az.froz 4;replace a0:=(a0.gr G).kp q;replace a0:=a0.froz 4;replace a2:=(a2.gr G).kp q;replace a2:=a2.froz 4;replace b:=((((((b.gr fd).gr d7).gr du).gr dh).gr cl).gr G).kp q;replace b:=b.froz 4;replace g:=((((g.gr du).gr dh).gr cl).gr G).kp q;replace g:=g.froz 4;replace i:=((((i.gr du).gr dh).gr cl).gr G).kp q;replace i:=i.froz 4;replace h:=h.froz 4
 replace d:=((((((d.grow fd).grow d7).grow du).grow dh).grow cl).grow G).kp q f0;replace d:=d.froz 4 (by decide) (by decide);replace ax:=ax.froz 5;replace ay:=ay.froz 5;replace az:=(az).toSlF (Ze.int .u32);replace a0:=a0.froz 5;replace a2:=a2.froz 5;replace b:=b.froz 5;replace g:=g.froz 5;replace i:=i.froz 5;replace h:=h.froz 5;replace d:=d.froz 5 (by decide) (by decide);replace ax:=ax.froz 6;replace ay:=ay.froz 6;replace az:=az.froz 6;replace a0:=(a0).toSlF (Ze.int .u32);replace a2:=a2.froz 6;replace b:=b.froz 6;replace g:=g.froz 6;replace i:=i.froz 6;replace h:=h.froz 6;replace d:=d.froz 6 (by decide) (by decide);replace b:=b.froz 7;replace g:=g.froz 7;replace i:=i.froz 7;replace h:=h.froz 7;replace d:=d.froz 7 (by decide) (by decide);replace d5:=d5.k0
 refine Z0 [10,2,29,3,30,7,1000000] (fun bl dk q=>∃ m b1 bp bq P br bs R cn b2 b3 S b4 b5 T b6 b7 b8 a5 b9 ca a6 cb cc cd a7 ce cf a8 di co cp cq U cr ct Z cu cv cw bd cx cy be cz c0 bf dj,bl=dj.length∧ck.drop di=dj∧Zaf N s dj b1 P R cn S T b6 a5 a6 cb a7 a8 co U Z cu bd be bf=some r∧St Q (Zk col) m q∧Sl rU m q bp bq P∧Sl rU m q br bs R∧Sl rU m q b2 b3 S∧Sl rU m q b4 b5 T∧Zi 44 8 m q ea #[.bool b1,.slice bp P.length bq,.slice br R.length bs,.bool cn,.slice b2 S.length b3,.slice b4 T.length b5]∧Sl rU m q b7 b8 a5∧Sl rU m q b9 ca a6∧Sl rU m q cc cd a7∧Sl rU m q ce cf a8∧Zi 44 999 m q g3 #[.bool b6,.slice b7 a5.length b8,.slice b9 a6.length ca,.bool cb,.slice cc a7.length cd,.slice ce a8.length cf]∧Zi 27 1 m q dg (Rt s de dc bx ci df dd bz cj)∧Zb rU 119 9 m q cp cq U∧Zb rU 119 10 m q cr ct Z∧Zb rU 119 11 m q cv cw bd∧Zb rU 119 12 m q cx cy be∧Zi 44 2 m q d6 #[.bool co,.slice cp U.length cq,.slice cr Z.length ct,.bool cu,.slice cv bd.length cw,.slice cx be.length cy]∧Zb rI 3 3 m q cz c0 bf∧[31,9].map dk=[.int .i64 di,.slice cz bf.length c0]) ck.length ⟨_,_,_,_,_,_,_,_,_,_,_,_,_,_,_,_,_,_,_,_,_,_,_,_,_,_,_,_,_,0,_,none,0,_,none,0,_,_,none,0,_,none,0,_,_,_,_,_,O,O,c,d,ay.froz 7,az.froz 7,a0.froz 7,(a2).toSlF (Ze.int .u32),h,(d2.k0.ks d),(d3.k0.ks d),(d4.k0.ks d),(d5.ks d),b,g,Zb.nil,Zb.nil,Zb.nil,Zb.nil,i,ax.froz 7,O⟩ ?_;clear c;intro bl dk q hI;obtain ⟨m,b1,bp,bq,P,br,bs,R,cn,b2,b3,S,b4,b5,T,b6,b7,b8,a5,b9,ca,a6,cb,cc,cd,a7,ce,cf,a8,di,co,cp,cq,U,cr,ct,Z,cu,cv,cw,bd,cx,cy,be,cz,c0,bf,dj,hn,hl,c,d,E,F,H,I,h,J,K,L,M,b,g,V,W,X,Y,i,t,hs⟩:=hI;subst hn
 refine .lL [31,9] hs ?_;replace b0:=b0.k0;replace ds:=ds.k0;replace dt:=dt.k0;replace h1:=h1.k0
 cases dj with
 | nil=>
  have hk:¬ ((di:Int)<(ck.length:Int)):=by have:=aF.1 hl;omega
  have hkb:=decide_eq_false hk;rw [Zaf.eq_1] at c;refine go ?_;refine Yd (congrArg Value.bool hkb)<|go ?_;refine Ym (col:=m) [(0,1),(1,0),(2,1),(3,2),(4,1)] (by kernel_rfl) (by kernel_rfl)<|xu O O (fun _=>V8 O) ?_;refine xv O O (fun _ a=>Zz isAgg44 sizeOf44 (h.gr (a.bl m))) ?_;refine xu O O (fun _=>Zm6 O) ?_;refine xe O O ?_;intro _ w;have a:=w.bl m;replace i:=i.gr a;refine Zs i fun _ q G eb=>Zj<|xk m<|xu O O (fun _=>Zbv O) ?_;refine Yf ?_;replace E:=(E.gr a).kp q;replace F:=(F.gr a).kp q;replace H:=(H.gr a).kp q;replace I:=(I.gr a).kp q;replace t:=(t.gr a).kp q;replace d:=(d.grow a).kp q G;intro _ a;replace a:=a.bl m;refine Y5 ?_;cases c;replace E:=E.gr a;replace F:=F.gr a;replace H:=H.gr a;replace I:=I.gr a;replace t:=t.gr a;replace d:=d.grow a;exact ⟨O,_,Zki O O O O isAgg44 sizeOf44 O O (eb.gr a).atN O O,_,_,_,_,_,_,_,_,_,_,_,O,d.fin (cm [(3,c1)]),d.fo t,d.fs E,d.fs F,d.fs H,d.fs I⟩
 | cons cg ec=>
  obtain ⟨c2,f2,f3⟩:=Yo hl;have hk:(di:Int)<(ck.length:Int):=by omega
  have hkb:=decide_eq_true hk;rw [Zaf.eq_2] at c;refine go ?_;refine Ye (congrArg Value.bool hkb)<|go ?_;refine lI c2 ((h1.ks d).addr c2)<|lW ((h1.ks d).atInt c2) ?_;refine go ?_;refine Xp g<|Xy O ?_;obtain ⟨dl,m,c⟩:=bZ c;refine lI m ((ds.ks d).addr m) ?_;obtain ⟨_,f4,f5⟩:=(ds.ks d).atN m;obtain ⟨⟨f6,f7,rfl,ch⟩,_⟩:=f4;refine lW f5.one<|go ?_;refine Z0 [10,12,2,29,3,30,31,39,40,7,9,1000000] (fun bl dk m=>∃ ex bg dm dn,bl=dn.length∧dl.drop dm=dn∧Zdp N s b1 P R cn S T b6 a5 a6 cb a7 a8 co U Z cu bd be bf (Zaf N s ec) cg dn bg=some r∧St Q (Zk col) ex m∧Sl rU ex m bp bq P∧Sl rU ex m br bs R∧Sl rU ex m b2 b3 S∧Sl rU ex m b4 b5 T∧Zi 44 8 ex m ea #[.bool b1,.slice bp P.length bq,.slice br R.length bs,.bool cn,.slice b2 S.length b3,.slice b4 T.length b5]∧Sl rU ex m b7 b8 a5∧Sl rU ex m b9 ca a6∧Sl rU ex m cc cd a7∧Sl rU ex m ce cf a8∧Zi 44 999 ex m g3 #[.bool b6,.slice b7 a5.length b8,.slice b9 a6.length ca,.bool cb,.slice cc a7.length cd,.slice ce a8.length cf]∧Zi 27 1 ex m dg (Rt s de dc bx ci df dd bz cj)∧Sl rI ex m f6 f7 dl∧Zb rU 119 9 ex m cp cq U∧Zb rU 119 10 ex m cr ct Z∧Zb rU 119 11 ex m cv cw bd∧Zb rU 119 12 ex m cx cy be∧Zi 44 2 ex m d6 #[.bool co,.slice cp U.length cq,.slice cr Z.length ct,.bool cu,.slice cv bd.length cw,.slice cx be.length cy]∧Zb rI 3 3 ex m cz c0 bf∧[41,13].map dk=[.int .i64 dm,.int .i64 bg]) dl.length ⟨_,0,0,_,O,O,c,d,E,F,H,I,h,J,K,L,M,b,g,ch,V,W,X,Y,i,t,O⟩ ?_;clear c;intro bl dk m hI;obtain ⟨ex,bg,dm,dn,hn,hl,c,d,E,F,H,I,h,J,K,L,M,b,g,ch,V,W,X,Y,i,t,hs⟩:=hI;subst hn;refine .lL [41,13] hs ?_
  cases dn with
  | nil=>
   have hk:¬ ((dm:Int)<(dl.length:Int)):=by have:=aF.1 hl;omega
   have hkb:=decide_eq_false hk;rw [Zdp.eq_1] at c;refine go ?_;refine Yd (congrArg Value.bool hkb)<|go ?_;refine Xt ⟨_,_,O⟩ ?_;refine lV (.agg #[.bool cn,.slice b2 S.length b3,.slice b4 T.length b5]) (Xi isAgg42 sizeOf42 O O ((h.atN).part 3 3 _ O))<|Xt ⟨_,_,O⟩ ?_;refine lV (.agg #[.bool b1,.slice bp P.length bq,.slice br R.length bs]) (Xi isAgg42 sizeOf42 O O ((h.atN).part 0 3 _ O)) ?_;obtain ⟨bt,m,c⟩:=bZ c;refine Zh (Zn2 13 14 m H I E F) fun _ _ ⟨m,ee,ef,eg,eh,e',y,z,A⟩=>⟨_,e',?_⟩;refine Xc (col:=m) #[.bool false,(nI),(nI)] 15 zeroValue42 fun ga _ q o m=>Zs m fun _ n gd fo=>go ?_;refine Xt ⟨_,_,O⟩ ?_;replace h:=((h.gr y).gr o).kp n;refine lV (.agg #[.bool b1,.slice bp P.length bq,.slice br R.length bs]) (Xi isAgg42 sizeOf42 O O ((h.atN).part 0 3 _ O))<|Xc (col:=q) #[.bool false,(nI),(nI)] 16 zeroValue42 ?_;intro ge _ _ v G;refine Zs G fun _ l q x=>go ?_;refine Xt ⟨_,_,O⟩ ?_;replace g:=((((g.gr y).gr o).kp n).gr v).kp l;refine lW ((g.atN).nth (q:=2) O)<|Xy O ?_;obtain ⟨gh,m,c⟩:=bZ c;replace d:=((((d.grow y).grow o).kp n gd).grow v).kp l q;refine lI m ((b0.ks d).addr m) ?_;obtain ⟨_,gi,gj⟩:=(b0.ks d).atN m;obtain ⟨⟨_,_,rfl,_⟩,_⟩:=gi;refine lW gj.one<|go ?_;replace E:=((((E.gr y).gr o).kp n).gr v).kp l;replace F:=((((F.gr y).gr o).kp n).gr v).kp l;replace H:=((((H.gr y).gr o).kp n).gr v).kp l;replace I:=((((I.gr y).gr o).kp n).gr v).kp l;replace J:=((((J.gr y).gr o).kp n).gr v).kp l;replace K:=((((K.gr y).gr o).kp n).gr v).kp l;replace L:=((((L.gr y).gr o).kp n).gr v).kp l;replace M:=((((M.gr y).gr o).kp n).gr v).kp l;replace V:=((((V.gr y).gr o).kp n).gr v).kp l;replace W:=((((W.gr y).gr o).kp n).gr v).kp l;replace X:=((((X.gr y).gr o).kp n).gr v).kp l
   replace Y:=((((Y.gr y).gr o).kp n).gr v).kp l;replace t:=((((t.gr y).gr o).kp n).gr v).kp l;replace b:=((((b.gr y).gr o).kp n).gr v).kp l;replace i:=((((i.gr y).gr o).kp n).gr v).kp l;replace z:=(((z.gr o).kp n).gr v).kp l;replace A:=(((A.gr o).kp n).gr v).kp l;replace h:=(h.gr v).kp l;replace fo:=(fo.gr v).kp l
   refine Z0 [10,12,13,16,17,2,29,3,30,31,7,71,9,1000000] (fun bl dk k=>∃ j bh c3 c4 bi c5 c6 bj dv dw dp c7 da,da=bl∧Zfb N s b6 a5 a6 cb a7 a8 co U Z cu bd be bf (Zaf N s ec) cg bg bt gh da bh bi bj dp c7=some r∧St Q (Zk col) j k∧Sl rU j k bp bq P∧Sl rU j k br bs R∧Sl rU j k b2 b3 S∧Sl rU j k b4 b5 T∧Zi 44 8 j k ea #[.bool b1,.slice bp P.length bq,.slice br R.length bs,.bool cn,.slice b2 S.length b3,.slice b4 T.length b5]∧Zb rU 119 13 j k ee ef bt.1.2∧Zb rU 119 14 j k eg eh bt.2∧Zi 42 15 j k ga #[.bool bt.1.1,.slice ee bt.1.2.length ef,.slice eg bt.2.length eh]∧Sl rU j k c3 c4 bi∧Sl rU j k c5 c6 bj∧Zi 42 16 j k ge #[.bool bh,.slice c3 bi.length c4,.slice c5 bj.length c6]∧Zb (Zc.pair rQ rQ) 44 17 j k dv dw dp∧Sl rU j k b7 b8 a5∧Sl rU j k b9 ca a6∧Sl rU j k cc cd a7∧Sl rU j k ce cf a8∧Zi 44 999 j k g3 #[.bool b6,.slice b7 a5.length b8,.slice b9 a6.length ca,.bool cb,.slice cc a7.length cd,.slice ce a8.length cf]∧Zi 27 1 j k dg (Rt s de dc bx ci df dd bz cj)∧Zb rU 119 9 j k cp cq U∧Zb rU 119 10 j k cr ct Z∧Zb rU 119 11 j k cv cw bd∧Zb rU 119 12 j k cx cy be∧Zi 44 2 j k d6 #[.bool co,.slice cp U.length cq,.slice cr Z.length ct,.bool cu,.slice cv bd.length cw,.slice cx be.length cy]∧Zb rI 3 3 j k cz c0 bf∧[18,72].map dk=[.slice dv dp.length dw,.int .i64 c7]) N ⟨_,_,_,_,_,_,_,_,none,0,_,0,_,O,c,d,E,F,H,I,h,z,A,fo,E,F,x,Zb.nil,J,K,L,M,b,g,V,W,X,Y,i,t,O⟩ ?_
   clear c;intro bl dk k hI;obtain ⟨j,bh,c3,c4,bi,c5,c6,bj,dv,dw,dp,c7,da,hn,c,d,E,F,H,I,h,z,A,fo,B,C,x,p,J,K,L,M,b,g,V,W,X,Y,i,t,hs⟩:=hI;subst hn;refine .lL [18,72] hs ?_
   cases da with
   | zero=>rw [Zfb.eq_1] at c;cases c
   | succ da=>
    rw [Zfb.eq_2] at c;refine go ?_;refine Zp c (fun hb c=>go ?_) fun hb c=>go ?_
    ·have u:=Zu.clip (fun _=>false) j k;refine Zbz (col:=j) [(0,0),(1,0),(2,1),(3,0),(4,1),(5,1),(6,0),(7,1),(8,1),(9,0),(10,1),(11,1),(12,0),(13,1),(14,1),(15,1),(16,1),(17,1),(18,0),(19,3),(20,3),(21,4),(22,2)] (by kernel_rfl) (by kernel_rfl) ⟨fun f=>absurd f (by decide),fun f=>absurd f (by decide),fun f=>absurd f (by decide),fun f=>absurd f (by decide),fun f=>absurd f (by decide),fun f=>absurd f (by decide),fun f=>absurd f (by decide),fun f=>absurd f (by decide),fun f=>absurd f (by decide),fun f=>absurd f (by decide),fun f=>absurd f (by decide),fun f=>absurd f (by decide),fun f=>absurd f (by decide),fun f=>absurd f (by decide),fun f=>absurd f (by decide),fun f=>absurd f (by decide),fun f=>absurd f (by decide),fun f=>absurd f (by decide),fun f=>absurd f (by decide),fun f=>absurd f (by decide),fun f=>absurd f (by decide),fun _=>⟨_,_,_,O,V5 zeroValue42⟩,fun f=>absurd f (by decide),trivial⟩ ?_;replace x:=x.kpp u;refine Wa (v:=(.agg #[.bool bh,.slice c3 bi.length c4,.slice c5 bj.length c6])) O O (fun _ a=>Xi isAgg42 sizeOf42 O O (x.atN.gr (a.bl (Zd k j)))) ?_;replace fo:=fo.kpp u;refine Wa (v:=(.agg #[.bool bt.1.1,.slice ee bt.1.2.length ef,.slice eg bt.2.length eh])) O O (fun _ a=>Xi isAgg42 sizeOf42 O O (fo.atN.gr (a.bl (Zd k j)))) ?_;refine X3 (v:=(.pointer ((some (⟨dg,0,none⟩:Addr)).map (·.add 4)))) O O (fun _=>Un (sz:=1) (off:=4) underlying27 O sizeOf25 (by decide) O O ⟨_,_,O⟩) ?_;replace g:=g.kpp u;refine Wa (v:=(.slice bz s.2.2.2.2.length cj)) O O (fun _ a=>Tu isAgg25 O (((g.atN).nth (q:=4) (v:=(.slice bz s.2.2.2.2.length cj)) O).gr (a.bl (Zd k j)))) ?_;refine X3 (v:=(.int .i64 cg)) O O (fun _=>Wn O) ?_;obtain ⟨gk,o,c⟩:=bZ c;replace d:=d.kpp u;refine X3 (v:=(X5 bz (aA cg * 1))) O O (fun _=>Wd underlying25 sizeOf58 O O (Xo o).1 (Xo o).2.1 ((dt.ks d).addr o)) ?_;obtain ⟨_,gl,gm⟩:=(dt.ks d).atN o;obtain ⟨⟨ff,gp,rfl,fg⟩,_⟩:=gl;refine Wa (v:=(.slice ff gk.length gp)) O O (fun _ a=>Tu isAgg58 O (gm.one.gr (a.bl (Zd k j)))) ?_;refine X3 (v:=(.int .i64 bg)) O O (fun _=>Wn O) ?_;refine X3 (v:=(.pointer ((some (⟨dg,0,none⟩:Addr)).map (·.add 2)))) O O (fun _=>Un (sz:=1) (off:=2) underlying27 O sizeOf23 (by decide) O O ⟨_,_,O⟩) ?_
     refine Wa (v:=(.slice bx s.2.2.1.length ci)) O O (fun _ a=>Tu isAgg23 O (((g.atN).nth (q:=2) (v:=(.slice bx s.2.2.1.length ci)) O).gr (a.bl (Zd k j)))) ?_;refine X3 (v:=(.int .i64 cg)) O O (fun _=>Wn O) ?_;obtain ⟨c8,n,c⟩:=bZ c;refine X3 (v:=(X5 bx (aA cg * 1))) O O (fun _=>Wd underlying23 sizeOf22 O O (Xo n).1 (Xo n).2.1 ((b0.ks d).addr n)) ?_;obtain ⟨_,gs,gt⟩:=(b0.ks d).atN n;obtain ⟨⟨gu,gv,rfl,_⟩,_⟩:=gs;refine Wa (v:=(.slice gu c8.length gv)) O O (fun _ a=>Tu isAgg22 O (gt.one.gr (a.bl (Zd k j)))) ?_;refine X3 (v:=(.int .i64 c8.length)) O O (fun _=>Q4 underlying22 O) ?_;refine X3 (v:=(.int .i64 (i64.wrap (bg * (c8.length:Int))))) O O (fun _=>Zew bg (c8.length:Int) O O) ?_;refine X3 (v:=(.int .i64 c7)) O O (fun _=>Wn O) ?_;refine X3 (v:=(.int .i64 (i64.wrap ((i64.wrap (bg * (c8.length:Int)))+c7)))) O O (fun _=>Qg (i64.wrap (bg * (c8.length:Int))) c7 O O) ?_;obtain ⟨ej,v,c⟩:=bZ c;refine X3 (v:=(X5 ff (aA (i64.wrap ((i64.wrap (bg * (c8.length:Int)))+c7)) * 3))) O O (fun _=>Wd underlying58 sizeOf42 O O (Xo v).1 (Xo v).2.1 (fg.addr v)) ?_;obtain ⟨_,gw,gx⟩:=fg.atN v;obtain ⟨_,_,rfl,gy,gz⟩:=Yw gw;obtain ⟨_,_,rfl,g0,g1⟩:=Yw gy;obtain ⟨rfl,_⟩:=g0;obtain ⟨⟨g2,g4,rfl,ek⟩,_⟩:=g1;obtain ⟨⟨g5,g6,rfl,el⟩,_⟩:=gz;refine Wa (v:=(.agg #[.bool ej.1.1,.slice g2 ej.1.2.length g4,.slice g5 ej.2.length g6])) O O (fun _ a=>Xi isAgg42 sizeOf42 O O (gx.gr (a.bl (Zd k j)))) ?_;refine Y6 O O ?_;intro U w;have a:=w.bl (Zd k j);obtain ⟨_,P,c⟩:=bZ c;replace z:=(z.kpp u).gr a;replace A:=(A.kpp u).gr a;refine Zh (Ze1 18 19 P ((z.toSlF (Ze.int .u32)).froz 14) ((A.froz 13).toSlF (Ze.int .u32)) (((ek.gr a).froz 13).froz 14) (((el.gr a).froz 13).froz 14)) fun _ y ⟨Q,_,_,_,_,e',v,S,T⟩=>⟨_,e',?_⟩;replace S:=S.thaw (Zt .u32) v (((Fz.refl (col:=(Zd k j))).froz 13).froz 14)
     replace T:=T.thaw (Zt .u32) v (((Fz.refl (col:=(Zd k j))).froz 13).froz 14);replace v:=v.thawR (col:=(Zd k j));generalize Z2 U.heap.size (Zd k j) Q=Q at *;refine Zj ?_;refine ⟨fun D=>Zl (Zd y Q) y (Zd y Q) D,fun Z=>(Zd y Q) Z=497,Zl.refl _ _,Y3,fun _=>⟨fun _ f=>Wt w v f,fun m hb=>v.below.block m hb,fun Z l R=>Wy v Z l (by first | exact R | (simp only [Xg,R];rfl) | (simp only [Xg,Xq,R];rfl))⟩,?_⟩;have U:=Zu.clip (fun _=>false) Q y;refine Y6 O O ?_;intro G w;replace E:=(((E.kpp u).gr a).gr v).kpp U;replace F:=(((F.kpp u).gr a).gr v).kpp U;replace H:=(((H.kpp u).gr a).gr v).kpp U;replace I:=(((I.kpp u).gr a).gr v).kpp U;replace B:=(((B.kpp u).gr a).gr v).kpp U;replace C:=(((C.kpp u).gr a).gr v).kpp U;replace p:=(((p.kpp u).gr a).gr v).kpp U;replace J:=(((J.kpp u).gr a).gr v).kpp U;replace K:=(((K.kpp u).gr a).gr v).kpp U;replace L:=(((L.kpp u).gr a).gr v).kpp U;replace M:=(((M.kpp u).gr a).gr v).kpp U;replace V:=(((V.kpp u).gr a).gr v).kpp U;replace W:=(((W.kpp u).gr a).gr v).kpp U;replace X:=(((X.kpp u).gr a).gr v).kpp U;replace Y:=(((Y.kpp u).gr a).gr v).kpp U;replace t:=(((t.kpp u).gr a).gr v).kpp U;replace h:=(((h.kpp u).gr a).gr v).kpp U;replace b:=(((b.kpp u).gr a).gr v).kpp U;replace i:=(((i.kpp u).gr a).gr v).kpp U;replace fo:=((fo.gr a).gr v).kpp U;replace x:=((x.gr a).gr v).kpp U;replace g:=((g.gr a).gr v).kpp U;replace d:=((d.grow a).grow v).kpp U;have a:=w.bl (Zd y Q);obtain ⟨P,k,c⟩:=bZ c;replace B:=B.gr a;replace C:=C.gr a;refine Zh (Zb3 20 21 k ((B.froz 18).froz 19) ((C.froz 18).froz 19) ((((S.kpp U).gr a).toSlF (Ze.int .u32)).froz 19) ((((T.kpp U).gr a).froz 18).toSlF (Ze.int .u32))) fun _ k ⟨n,em,en,eo,ep,e',u,o,q⟩=>⟨_,e',?_⟩;replace o:=o.thaw (Zt .u32) u (((Fz.refl (col:=(Zd y Q))).froz 18).froz 19)
     replace q:=q.thaw (Zt .u32) u (((Fz.refl (col:=(Zd y Q))).froz 18).froz 19);replace u:=u.thawR (col:=(Zd y Q));generalize Z2 G.heap.size (Zd y Q) n=n at *;refine Zj ?_;refine ⟨fun D=>Zl (Zd k n) k (Zd k n) D,fun Z=>(Zd k n) Z=497,Zl.refl _ _,Y3,fun _=>⟨fun _ f=>Wt w u f,fun m hb=>u.below.block m hb,fun Z l R=>Wy u Z l (by first | exact R | (simp only [Xg,R];rfl) | (simp only [Xg,Xq,R];rfl))⟩,?_⟩;have S:=Zu.clip (fun _=>false) n k;refine Zaw O O (V5 zeroValue42) fun l y=>Y6 O O ?_;intro Q ⟨w,hZ0⟩;replace z:=((((z.gr v).kpp U).gr a).gr u).kpp S;replace A:=((((A.gr v).kpp U).gr a).gr u).kpp S;replace E:=((E.gr a).gr u).kpp S;replace F:=((F.gr a).gr u).kpp S;replace H:=((H.gr a).gr u).kpp S;replace I:=((I.gr a).gr u).kpp S;replace p:=((p.gr a).gr u).kpp S;replace J:=((J.gr a).gr u).kpp S;replace K:=((K.gr a).gr u).kpp S;replace L:=((L.gr a).gr u).kpp S;replace M:=((M.gr a).gr u).kpp S;replace V:=((V.gr a).gr u).kpp S;replace W:=((W.gr a).gr u).kpp S;replace X:=((X.gr a).gr u).kpp S;replace Y:=((Y.gr a).gr u).kpp S;replace t:=((t.gr a).gr u).kpp S;replace h:=((h.gr a).gr u).kpp S;replace fo:=((fo.gr a).gr u).kpp S;replace x:=((x.gr a).gr u).kpp S;replace b:=((b.gr a).gr u).kpp S;replace g:=((g.gr a).gr u).kpp S;replace i:=((i.gr a).gr u).kpp S;replace d:=((d.grow a).grow u).kpp S;have a:=w.bl (Zd k n);obtain ⟨T,w⟩:=Q7 (col:=(Zd k n)) 22 hZ0 y;replace w:Zi 42 22 (Zx l 22 (Zd k n)) Q l #[.bool false,(nI),(nI)]:=w;refine Zs w fun w R v m=>Zj ?_;refine ⟨fun D=>Zl (Zd w (Zx l 22 (Zd k n))) w (Zd w (Zx l 22 (Zd k n))) D,fun Z=>(Zd w (Zx l 22 (Zd k n))) Z=497,Zl.refl _ _,Y3,fun f=>absurd f (by decide),?_⟩;have G:=Zu.clip (fun _=>false) (Zx l 22 (Zd k n)) w;refine Zb1 ?_;replace B:=(((((B.gr u).kpp S).gr a).kpp T).kp R).kpp G
     replace C:=(((((C.gr u).kpp S).gr a).kpp T).kp R).kpp G;replace o:=((((o.kpp S).gr a).kpp T).kp R).kpp G;replace q:=((((q.kpp S).gr a).kpp T).kp R).kpp G;replace E:=(((E.gr a).kpp T).kp R).kpp G;replace F:=(((F.gr a).kpp T).kp R).kpp G;replace H:=(((H.gr a).kpp T).kp R).kpp G;replace I:=(((I.gr a).kpp T).kp R).kpp G;replace z:=(((z.gr a).kpp T).kp R).kpp G;replace A:=(((A.gr a).kpp T).kp R).kpp G;replace p:=(((p.gr a).kpp T).kp R).kpp G;replace J:=(((J.gr a).kpp T).kp R).kpp G;replace K:=(((K.gr a).kpp T).kp R).kpp G;replace L:=(((L.gr a).kpp T).kp R).kpp G;replace M:=(((M.gr a).kpp T).kp R).kpp G;replace V:=(((V.gr a).kpp T).kp R).kpp G;replace W:=(((W.gr a).kpp T).kp R).kpp G;replace X:=(((X.gr a).kpp T).kp R).kpp G;replace Y:=(((Y.gr a).kpp T).kp R).kpp G;replace t:=(((t.gr a).kpp T).kp R).kpp G;replace h:=(((h.gr a).kpp T).kp R).kpp G;replace fo:=(((fo.gr a).kpp T).kp R).kpp G;replace x:=(((x.gr a).kpp T).kp R).kpp G;replace b:=(((b.gr a).kpp T).kp R).kpp G;replace g:=(((g.gr a).kpp T).kp R).kpp G;replace i:=(((i.gr a).kpp T).kp R).kpp G;replace d:=(((d.grow a).kpp T).kp R v).kpp G;intro y a;replace a:Zl (Zd w (Zx l 22 (Zd k n))) w (Zd w (Zx l 22 (Zd k n))) y:=.of_below a.below;refine go ?_;replace x:=x.gr a;refine lV _ (Zz isAgg42 sizeOf42 x) ?_;replace m:=(m.kpp G).gr a;refine lV _ (Zz isAgg42 sizeOf42 m)<|lV (.agg #[.bool bh,.slice c3 bi.length c4,.slice c5 bj.length c6,.bool P.1.1,.slice em P.1.2.length en,.slice eo P.2.length ep]) (Yc (l:=[_,_]) (qs:=[(0,3),(3,3)]) underlying44 zeroValue44 ⟨O,sizeOf42,O,sizeOf42,trivial⟩ O) ?_;replace E:=E.gr a;replace E:=E.froz 21;replace F:=F.gr a;replace F:=F.froz 21;replace H:=H.gr a;replace H:=H.froz 21;replace I:=I.gr a;replace I:=I.froz 21;replace z:=z.gr a;replace z:=z.froz 21;replace A:=A.gr a;replace A:=A.froz 21;replace B:=B.gr a;replace B:=B.froz 21;replace C:=C.gr a;replace C:=C.froz 21
     replace J:=J.gr a;replace J:=J.froz 21;replace K:=K.gr a;replace K:=K.froz 21;replace L:=L.gr a;replace L:=L.froz 21;replace M:=M.gr a;replace M:=M.froz 21;replace V:=V.gr a;replace V:=V.froz 21;replace W:=W.gr a;replace W:=W.froz 21;replace X:=X.gr a;replace X:=X.froz 21;replace Y:=Y.gr a;replace Y:=Y.froz 21;replace t:=t.gr a;replace t:=t.froz 21;replace o:=o.gr a;replace o:=o.froz 21;replace q:=q.gr a;replace q:=(q).toSlF (Ze.int .u32);replace p:=p.gr a;replace p:=p.froz 21;replace h:=h.gr a;replace h:=h.froz 21;replace fo:=fo.gr a;replace fo:=fo.froz 21;replace x:=x.froz 21;replace b:=b.gr a;replace b:=b.froz 21;replace g:=g.gr a;replace g:=g.froz 21;replace i:=i.gr a;replace i:=i.froz 21;replace m:=m.froz 21;replace d:=d.grow a;replace d:=d.froz 21 (by decide) (by decide);replace E:=E.froz 20;replace F:=F.froz 20;replace H:=H.froz 20;replace I:=I.froz 20;replace z:=z.froz 20;replace A:=A.froz 20;replace J:=J.froz 20;replace K:=K.froz 20;replace L:=L.froz 20;replace M:=M.froz 20;replace V:=V.froz 20;replace W:=W.froz 20;replace X:=X.froz 20;replace Y:=Y.froz 20;replace t:=t.froz 20;replace o:=(o).toSlF (Ze.int .u32);replace q:=q.froz 20;replace p:=p.froz 20;replace h:=h.froz 20;replace fo:=fo.froz 20;replace x:=x.froz 20;replace b:=b.froz 20;replace g:=g.froz 20;replace i:=i.froz 20;replace m:=m.froz 20;replace d:=d.froz 20 (by decide) (by decide)
     refine Ui (col:=(Xg 20 (Xg 21 (Zd w (Zx l 22 (Zd k n)))))) (r:=(Zc.pair rQ rQ)) (xs:=[(((bh,bi),bj),((P.1.1,P.1.2),P.2))]) [(.agg #[.bool bh,.slice c3 bi.length c4,.slice c5 bj.length c6,.bool P.1.1,.slice em P.1.2.length en,.slice eo P.2.length ep])] 23 (Wf.ofF (Rows.consF (r:=(Zc.pair rQ rQ)) (x:=(((bh,bi),bj),((P.1.1,P.1.2),P.2))) (cs:=[.bool bh,.slice c3 bi.length c4,.slice c5 bj.length c6,.bool P.1.1,.slice em P.1.2.length en,.slice eo P.2.length ep]) (Vz (Vz (Vz (Se bh) (Uv (B.froz 20))) (Uv (C.froz 20))) (Vz (Vz (Se P.1.1) (Uv o)) (Uv q))) Rows.nil0)) ?_;intro _ _ _ Z u;obtain ⟨B,c⟩:=Z5 c;replace p:=p.gr Z;refine Vw p (u.srcN (NB.pair (NB.pair (NB.pair NB.bool NB.slice) NB.slice) (NB.pair (NB.pair NB.bool NB.slice) NB.slice))) B fun _ _ _ _ f u=>go ?_;refine lV _ (Zz isAgg42 sizeOf42 ((m.gr Z).kpp f)) ?_;refine Zs ((x.gr Z).kpp f) fun _ l C D=>go ?_;replace E:=((E.gr Z).kpp f).kp l;replace F:=((F.gr Z).kpp f).kp l;replace H:=((H.gr Z).kpp f).kp l;replace I:=((I.gr Z).kpp f).kp l;replace J:=((J.gr Z).kpp f).kp l;replace K:=((K.gr Z).kpp f).kp l;replace L:=((L.gr Z).kpp f).kp l;replace M:=((M.gr Z).kpp f).kp l;replace V:=((V.gr Z).kpp f).kp l;replace W:=((W.gr Z).kpp f).kp l;replace X:=((X.gr Z).kpp f).kp l;replace Y:=((Y.gr Z).kpp f).kp l;replace t:=((t.gr Z).kpp f).kp l;replace h:=((h.gr Z).kpp f).kp l;replace b:=((b.gr Z).kpp f).kp l;replace g:=((g.gr Z).kpp f).kp l
     replace i:=((i.gr Z).kpp f).kp l;replace d:=((d.grow Z).kpp f).kp l C;exact ⟨da,by omega,O,⟨_,_,_,_,_,_,_,_,_,_,_,_,_,O,c,d,E,F,H,I,h,((z.gr Z).kpp f).kp l,((A.gr Z).kpp f).kp l,((fo.gr Z).kpp f).kp l,((o.gr Z).kpp f).kp l,((q.gr Z).kpp f).kp l,D,u.kp l,J,K,L,M,b,g,V,W,X,Y,i,t,O⟩⟩
    refine lM (.func (.func 144) #[] #[.pointer (some ⟨g3,0,none⟩)])<|go ?_;obtain ⟨es,x,c⟩:=bZ c;refine lc O O (Zs7 call144 O O O) (Z3k N (Xg 17 j) _ 999 (by decide) cg dv dw dp g3 (((b6,a5),a6),((cb,a7),a8)) b7 b8 b9 ca cc cd ce cf (p.toSlF (Ze.pair (Ze.pair (Ze.pair Ze.bool Ze.slice) Ze.slice) (Ze.pair (Ze.pair Ze.bool Ze.slice) Ze.slice))) (J.froz 17) (K.froz 17) (L.froz 17) (M.froz 17) (b.froz 17) es x) fun _ _ ⟨e',B⟩=>⟨_,e',?_⟩;replace B:=Ru j B;refine go ?_;replace p:=p.gr B;replace J:=J.gr B;replace K:=K.gr B;replace L:=L.gr B;replace M:=M.gr B;replace V:=V.gr B;replace W:=W.gr B;replace X:=X.gr B;replace Y:=Y.gr B;replace t:=t.gr B;replace h:=h.gr B;replace b:=b.gr B;replace g:=g.gr B;replace i:=i.gr B;replace d:=d.grow B;refine Zp c (fun hb c=>go ?_) fun hb c=>go ?_
    ·refine lV (.agg #[.bool false,(nI),(nI),.bool false,(nI),(nI)]) (Yc (l:=[_,_]) (qs:=[(0,3),(3,3)]) underlying44 zeroValue44 ⟨O,sizeOf42,O,sizeOf42,trivial⟩ O)<|So O<|Zs i ?_;intro _ ht hu hv;refine go ?_;cases c;replace d:=d.kp ht hu;exact ⟨O,_,Zki O O O O isAgg44 sizeOf44 O O hv.atN O O,_,none,0,none,0,none,0,none,0,none,0,O,d.fin (cm []),Zb.nil,Sl.nil,Sl.nil,Sl.nil,Sl.nil⟩
    obtain ⟨db,x,c⟩:=bZ c;refine lI x (p.addr x) ?_;obtain ⟨_,hw,hx⟩:=p.atN x;obtain ⟨_,_,rfl,hy,hz⟩:=hw.parts;obtain ⟨_,_,rfl,h0,h2⟩:=hy.parts;obtain ⟨_,_,rfl,h3,h4⟩:=h0.parts;obtain rfl:=h3.bool;obtain ⟨h5,h6,rfl,eu⟩:=h4.slice;obtain ⟨h7,h8,rfl,ew⟩:=h2.slice;obtain ⟨_,_,rfl,h9,ia⟩:=hz.parts;obtain ⟨_,_,rfl,ib,ic⟩:=h9.parts;obtain rfl:=ib.bool;obtain ⟨id,ie,rfl,ey⟩:=ic.slice;obtain ⟨ig,ih,rfl,ez⟩:=ia.slice;refine lV (.agg #[.bool db.1.1.1,.slice h5 db.1.1.2.length h6,.slice h7 db.1.2.length h8,.bool db.2.1.1,.slice id db.2.1.2.length ie,.slice ig db.2.2.length ih]) (Xi isAgg44 sizeOf44 O O hx) ?_;obtain ⟨_,A,c⟩:=bZ c;refine lI A (t.addr A) ?_;obtain ⟨f,j,c⟩:=bZ c;have j:f=bf.set (aA cg) es:=(Option.some.inj j).symm;refine Wc (x1:=es) t A ?_;intro _ D p k;rw [← j] at k;refine .ld (d:=9) (v:=(.slice cz f.length c0)) (congrArg (fun bl=>Value.slice cz bl c0) (show bf.length=f.length by rw [j,nS])) ?_;replace h:=h.kp D;refine Zs h fun _ C j z=>go ?_;replace J:=(J.kp D).kp C;replace K:=(K.kp D).kp C;replace L:=(L.kp D).kp C;replace M:=(M.kp D).kp C;replace V:=(V.kp D).kp C;replace W:=(W.kp D).kp C;replace X:=(X.kp D).kp C;replace Y:=(Y.kp D).kp C;replace b:=(b.kp D).kp C;replace g:=(g.kp D).kp C;replace i:=(i.kp D).kp C;replace d:=(d.kp D p).kp C j;exact ⟨ec.length,by simp,O,⟨_,_,_,_,_,_,_,_,_,_,_,_,_,_,_,_,_,_,_,_,_,_,_,_,_,_,_,_,_,_,_,_,_,_,_,_,_,_,_,_,_,_,_,_,_,_,_,_,O,f2,c,d,(eu.kp D).kp C,(ew.kp D).kp C,(ey.kp D).kp C,(ez.kp D).kp C,z,J,K,L,M,b,g,V,W,X,Y,i,k.kp C,(Yv (congrArg (Value.int .i64) (Yp (aG f3 (h1.ks d).1.1))) O)⟩⟩
  | cons A il=>
   obtain ⟨c2,im,io⟩:=Yo hl;have hk:(dm:Int)<(dl.length:Int):=by omega
   have hkb:=decide_eq_true hk;rw [Zdp.eq_2] at c;refine go ?_;refine Ye (congrArg Value.bool hkb)<|go ?_;refine lI c2 (ch.addr c2)<|lW (ch.atInt c2) ?_;refine go ?_;refine Vp (col:=ex) (by kernel_rfl) (by kernel_rfl)<|go ?_;refine qF ⟨_,_,O⟩ ?_;refine qW (fun _ a=>((g.atN).nth (q:=2) O).gr (a.bl ex)) ?_;refine go ?_;obtain ⟨_,z,c⟩:=bZ c;refine qI z ((b0.ks d).addr z) ?_;obtain ⟨_,ip,iq⟩:=(b0.ks d).atN z;obtain ⟨⟨_,_,rfl,_⟩,_⟩:=ip;refine qW (fun _ a=>iq.one.gr (a.bl ex)) ?_;refine go ?_;obtain ⟨_,p,c⟩:=bZ c;refine qI p (t.addr p)<|qW (fun _ a=>(t.gr (a.bl ex)).atInt p) ?_;refine go ?_;refine Wj ?_;intro _ a;replace a:=a.bl ex;refine go ?_;replace ch:=ch.gr a;exact ⟨il.length,by simp,O,⟨_,_,_,_,O,im,c,d.grow a,E.gr a,F.gr a,H.gr a,I.gr a,h.gr a,J.gr a,K.gr a,L.gr a,M.gr a,b.gr a,g.gr a,ch,V.gr a,W.gr a,X.gr a,Y.gr a,i.gr a,t.gr a,(Yv (congrArg (Value.int .i64) (Yp (aG io ch.1.1))) O)⟩⟩
section
variable (N:Nat) (n:Z4) (X V:QV×QV)
abbrev Zk3:Int→List (QV×QV)→Option Int:=fun x P=>Zop N x P X
theorem Zwd (w:List Int) (kk:Bool→List Int→List Int→Bool→List Int→List Int→Bool→List Int→List Int→Bool→List Int→List Int→Bool→List Int→List Int→Bool→List Int→List Int→List Int→T3) (x row:Int) (d:QV) (e:List ByteArray):∀ (f:Nat) (a:QV) (ps:List (QV×QV)) (k:Int),
  Zfb N n X.1.1.1 X.1.1.2 X.1.2 X.2.1.1 X.2.1.2 X.2.2 V.1.1.1 V.1.1.2 V.1.2 V.2.1.1 V.2.1.2 V.2.2 w kk x row d e f a.1.1 a.1.2 a.2 ps k=
   Zdm N n (Zk3 N X) w (fun a b xs=>kk a.1.1 a.1.2 a.2 b.1.1 b.1.2 b.2 X.1.1.1 X.1.1.2 X.1.2 X.2.1.1 X.2.1.2 X.2.2 V.1.1.1 V.1.1.2 V.1.2 V.2.1.1 V.2.1.2 V.2.2 xs) x row d e f a ps k
 | 0,a,ps,k=>rfl
 | f+1,a,ps,k=>by
  have c:=Zwd w kk x row d e f
  rw [Zfb.eq_2,Zdm]
  simp only [c]
theorem Zwc (s:QV×QV) (w:List Int) (kk:Bool→List Int→List Int→Bool→List Int→List Int→Bool→List Int→List Int→Bool→List Int→List Int→Bool→List Int→List Int→Bool→List Int→List Int→List Int→T3) (x:Int):∀ (ps:List Int) (row:Int),
  Zdp N n s.1.1.1 s.1.1.2 s.1.2 s.2.1.1 s.2.1.2 s.2.2 X.1.1.1 X.1.1.2 X.1.2 X.2.1.1 X.2.1.2 X.2.2 V.1.1.1 V.1.1.2 V.1.2 V.2.1.1 V.2.1.2 V.2.2 w kk x ps row=
   Qn N n (Zk3 N X) s w (fun a b xs=>kk a.1.1 a.1.2 a.2 b.1.1 b.1.2 b.2 X.1.1.1 X.1.1.2 X.1.2 X.2.1.1 X.2.1.2 X.2.2 V.1.1.1 V.1.1.2 V.1.2 V.2.1.1 V.2.1.2 V.2.2 xs) x ps row
 | [],row=>by
  rw [Zdp.eq_1,Qn]
  simp only [Zwd]
 | p :: ps,row=>by
  rw [Zdp.eq_2,Qn]
  simp only [Zwc s w kk x ps]
theorem Zwb:∀ (l:List Int) (a b:QV) (w:List Int),
  Zaf N n l a.1.1 a.1.2 a.2 b.1.1 b.1.2 b.2 X.1.1.1 X.1.1.2 X.1.2 X.2.1.1 X.2.1.2 X.2.2 V.1.1.1 V.1.1.2 V.1.2 V.2.1.1 V.2.1.2 V.2.2 w=Zac N n (Zk3 N X) l a b w
 | [],a,b,w=>rfl
 | x :: l,a,b,w=>by
  rw [Zaf.eq_2,Zac]
  have e:(fun a b c=>Zaf N n l a.1.1 a.1.2 a.2 b.1.1 b.1.2 b.2 X.1.1.1 X.1.1.2 X.1.2 X.2.1.1 X.2.1.2 X.2.2 V.1.1.1 V.1.1.2 V.1.2 V.2.1.1 V.2.1.2 V.2.2 c)=Zac N n (Zk3 N X) l:=by
   funext a b c
   exact Zwb l a b c
  have h:=fun d=>Zwc N n X V (a,b) w (Zaf N n l) x d 0
  rw [e] at h
  simp only [h]
end
def Zhq (x:Rat×Rat) (p:Rat×Rat):Bool:=decide (p.1≤x.1)&&decide (x.2≤p.2)&&decide (p.1<p.2)
theorem Zhr {x p:Rat×Rat}:Zhq x p=true↔p.1≤x.1∧x.2≤p.2∧p.1<p.2:=by simp [Zhq,and_assoc]
theorem Z2t {x:Rat×Rat} (h:x.1<x.2):Znm x (Zhq x):=by
 refine ⟨fun p b=>?_,fun p _ _ q a=>?_⟩
 ·rw [Bool.eq_iff_iff,Zhr,S3]
  exact ⟨fun g=>⟨g.1,Std.lt_of_lt_of_le h g.2.1,g.2.1⟩,fun g=>⟨g.1,g.2.2,Std.lt_of_le_of_lt g.1 g.2.1⟩⟩
 ·rw [Bool.eq_false_iff]
  intro g
  exact absurd (Zhr.1 g).1 (Rat.not_le.2 a)
section
variable {N K:Nat} (hr:Z8 N (8 * K+40)) {x:Rat×Rat} {X:QV×QV} (q1:RV K X.1) (q2:RV K X.2) (v1:Zq X.1=x.1) (v2:Zq X.2=x.2)
include hr q1 q2 v1 v2
theorem Zvj:∀ (P:List (Rat×Rat)) (k:Nat),(∀ p ∈ P,qs p.1≤K∧qs p.2≤K)→Zai N X (P.map Xn) k=some (Tb (Zhq x) P k)
 | [],k,_=>rfl
 | p :: P,k,h=>by
  have a:=h p aK
  have b:=Zvj P (k+1) fun q c=>h q (aE _ c)
  have d:U1 N (((Xn p).1.1.1,(Xn p).1.1.2),(Xn p).1.2) ((X.1.1.1,X.1.1.2),X.1.2)=some (Vf p.1 x.1):=by
   have:=Zdk (Yi a.1) q1 (hr.mono (by omega))
   rwa [Xz,v1] at this
  have f:U1 N ((X.2.1.1,X.2.1.2),X.2.2) (((Xn p).2.1.1,(Xn p).2.1.2),(Xn p).2.2)=some (Vf x.2 p.2):=by
   have:=Zdk q2 (Yi a.2) (hr.mono (by omega))
   rwa [Xz,v2] at this
  have g:U1 N (((Xn p).1.1.1,(Xn p).1.1.2),(Xn p).1.2) (((Xn p).2.1.1,(Xn p).2.1.2),(Xn p).2.2)=some (Vf p.1 p.2):=by
   have:=Zdk (Yi a.1) (Yi a.2) (hr.mono (by omega))
   rwa [Xz,Xz] at this
  rw [List.map_cons,Zai.eq_2,d,oB,Tb]
  by_cases a1:p.1≤x.1
  ·rw [if_pos (dT (Zps.2 a1)),f,oB]
   by_cases a2:x.2≤p.2
   ·rw [if_pos (dT (Zps.2 a2)),g,oB,Zds]
    by_cases a3:p.1<p.2
    ·rw [if_pos (dT (Zm2.2 a3)),if_pos (Zhr.2 ⟨a1,a2,a3⟩)]
    ·rw [if_neg (dF (fun e=>a3 (Zm2.1 e))),Zh6,b,if_neg (fun e=>a3 (Zhr.1 e).2.2)]
   ·rw [if_neg (dF (fun e=>a2 (Zps.1 e))),Zds,if_neg (by decide),Zh6,b,if_neg (fun e=>a2 (Zhr.1 e).2.1)]
  ·rw [if_neg (dF (fun e=>a1 (Zps.1 e))),Zds,if_neg (by decide),Zh6,b,if_neg (fun e=>a1 (Zhr.1 e).1)]
end
section
variable {N W K:Nat} {n:Z4} (hf:Y7 N n) (hs:Ww n W) (hr:Z8 N (8 * K+40)) (hWK:1025 * (W+2)+4≤K) (hN:1048577<N) {ord:List Int} (ho:Ug n.2.2.2.1 ord) (hol:ord.length≤1024)
variable {x:Rat×Rat} {X:QV×QV} (q1:RV K X.1) (q2:RV K X.2) (v1:Zq X.1=x.1) (v2:Zq X.2=x.2)
include hf hs hr hWK hN ho hol q1 q2 v1 v2
theorem Z6a:Zdo N n ord X=Ze3 (Vi n (fun P=>Tb (Zhq x) P 0) ord (aC n.2.1.length 0) (0,1)):=by
 have c:=hf.le
 have a:ord.length * (W+2)≤1024 * (W+2):=Nat.mul_le_mul_right _ hol
 have d:(Zf 1).length=1:=by rw [Uj];rfl
 have h:=Zrx hf hs hr (by omega) ho (Zw5 (Zhq x)) (ch:=Zk3 N X) (by omega) (fun v P b _=>Zvj hr q1 q2 v1 v2 P 0 b) ord (aC n.2.1.length 0) (0,1) 1 1 (fun _ h=>h) (Xr.zero hf.ev) Tj.zero (by omega)
 rw [← Zwb N n X ((((false,[]),[]),((false,[]),[]))) ord] at h
 rw [Zdo,Xh (by simp only [maxLen];omega),Zoe (hr.mono (by omega)),oB,Zhn,oB]
 exact h
end
def Zh5 (N:Nat) (a:(R0×R0)) (d:Bool):Option (R0×R0):=
  (Uk N ((a.1.1.1,a.1.1.2),a.1.2) ((a.2.1.1,a.2.1.2),a.2.2)).bind fun c=>(U2 N ((c.1.1,c.1.2),c.2) ((false,[1]),[2])).bind fun b=>if d=true then (some (((b.1.1,b.1.2),b.2),((a.2.1.1,a.2.1.2),a.2.2))) else (some (((a.1.1.1,a.1.1.2),a.1.2),((b.1.1,b.1.2),b.2)))
theorem Z3h {N k n o p:Nat} {q s t u:Option Addr} {col:Zg} {i:World} {b:(R0×R0)} {Q:Bool} {r:(R0×R0)} (c:Zh5 N b Q=some r) (D:Sl rU col i q k b.1.1.2) (P:Sl rU col i s n b.1.2) (M:Sl rU col i t o b.2.1.2) (G:Sl rU col i u p b.2.2):
    Calls prog 104 #[(.agg #[.bool b.1.1.1,.slice q b.1.1.2.length k,.slice s b.1.2.length n,.bool b.2.1.1,.slice t b.2.1.2.length o,.slice u b.2.2.length p]),.bool Q] i (fun e w'=>∃ (col':Zg) (v:Option Addr) (j:Nat) (w:Option Addr) (l:Nat) (x:Option Addr) (m:Nat) (h:Option Addr) (g:Nat),e= .returned ((.agg #[.bool r.1.1.1,.slice v r.1.1.2.length j,.slice w r.1.2.length l,.bool r.2.1.1,.slice x r.2.1.2.length m,.slice h r.2.2.length g]))∧Zl col i col' w'∧Sl rU col' w' v j r.1.1.2∧Sl rU col' w' w l r.1.2∧Sl rU col' w' x m r.2.1.2∧Sl rU col' w' h g r.2.2):=by
 refine Yb (m:=27) func104 O O O ?_;rw [Zh5.eq_1] at c;have a:=St.start col i;refine go ?_;refine Xj (col:=(Zk col)) 1 O fun _ _ H I y=>Xc (col:=H) #[.bool false,(nI),(nI),.bool false,(nI),(nI)] 2 zeroValue44 fun _ _ _ A L=>go ?_;refine Xt ⟨_,_,O⟩ ?_;replace y:=y.gr A;refine lV (.agg #[.bool b.1.1.1,.slice q b.1.1.2.length k,.slice s b.1.2.length n]) (Xi isAgg42 sizeOf42 O O ((y.atN).part 0 3 _ O))<|Xt ⟨_,_,O⟩ ?_;refine lV (.agg #[.bool b.2.1.1,.slice t b.2.1.2.length o,.slice u b.2.2.length p]) (Xi isAgg42 sizeOf42 O O ((y.atN).part 3 3 _ O)) ?_;obtain ⟨_,v,c⟩:=bZ c;replace D:=D.k0;replace P:=P.k0;replace M:=M.k0;replace G:=G.k0;replace a:=(a.grow I).grow A;refine Zh (Zb3 3 4 v (D.ks a) (P.ks a) (M.ks a) (G.ks a)) fun _ _ ⟨i,_,_,_,_,C,W,Y,Z⟩=>⟨_,C,?_⟩;refine Xc (col:=i) #[.bool false,(nI),(nI)] 5 zeroValue42 fun _ _ m J X=>Zs X fun _ I S h=>go ?_;refine lV _ (Zz isAgg42 sizeOf42 h)<|Vn (col:=m) [1] 6 ?_;intro X _ z H V;refine lV (.agg #[.bool false,.slice X ([1].length) 1]) (Yc (l:=[_,_]) (qs:=[(0,1),(1,1)]) underlying40 zeroValue40 ⟨O,sizeOf4,O,sizeOf38,trivial⟩ O)<|Vn (col:=z) [2] 7 ?_;intro l R K A F;refine lV (.agg #[.bool false,.slice X ([1].length) 1,.slice l ([2].length) 1]) (Yc (l:=[_,_]) (qs:=[(0,2),(2,1)]) underlying42 zeroValue42 ⟨O,sizeOf40,O,sizeOf38,trivial⟩ O) ?_;obtain ⟨B,j,c⟩:=bZ c;replace V:=V.gr A
 refine Zh (Ze1 8 9 j ((((((((Y.gr J).kp I).gr H).gr A).toSlF (Ze.int .u32)).froz 4).froz 6).froz 7) ((((((((Z.gr J).kp I).gr H).gr A).froz 3).toSlF (Ze.int .u32)).froz 6).froz 7) ((((V.froz 3).froz 4).toSlF (Ze.int .u32)).froz 7) ((((F.froz 3).froz 4).froz 6).toSlF (Ze.int .u32))) fun _ _ ⟨E,ar,au,av,aw,C,z,d,f⟩=>⟨_,C,?_⟩;replace d:=d.thaw (Zt .u32) z (((((Fz.refl (col:=K)).froz 3).froz 4).froz 6).froz 7) (by decide);replace f:=f.thaw (Zt .u32) z (((((Fz.refl (col:=K)).froz 3).froz 4).froz 6).froz 7) (by decide);replace z:=z.thawR (col:=K);generalize Z2 R.heap.size K E=g at *;refine Xc (col:=g) #[.bool false,(nI),(nI)] 10 zeroValue42 fun _ _ _ F Y=>Zs Y fun _ E C ax=>go ?_;replace y:=(((((((y.gr W).gr J).kp I).gr H).gr A).gr z).gr F).kp E;replace L:=(((((((L.gr W).gr J).kp I).gr H).gr A).gr z).gr F).kp E;replace a:=(((((((a.grow W).grow J).kp I S).grow H).grow A).grow z).grow F).kp E C;replace d:=(d.gr F).kp E;replace f:=(f.gr F).kp E;refine Zp c (fun Z c=>go ?_) fun Z c=>go ?_
 ·refine lV _ (Zz isAgg42 sizeOf42 ax)<|Xt ⟨_,_,O⟩ ?_;refine lV (.agg #[.bool b.2.1.1,.slice t b.2.1.2.length o,.slice u b.2.2.length p]) (Xi isAgg42 sizeOf42 O O ((y.atN).part 3 3 _ O))<|lV (.agg #[.bool B.1.1,.slice ar B.1.2.length au,.slice av B.2.length aw,.bool b.2.1.1,.slice t b.2.1.2.length o,.slice u b.2.2.length p]) (Yc (l:=[_,_]) (qs:=[(0,3),(3,3)]) underlying44 zeroValue44 ⟨O,sizeOf42,O,sizeOf42,trivial⟩ O)<|Zs L ?_;intro _ R w U;refine go ?_;replace d:=d.kp R;replace d:=(d).toSlF (Ze.int .u32);replace f:=f.kp R;replace f:=f.froz 8;replace U:=U.froz 8;replace a:=a.kp R w;replace a:=a.froz 8 (by decide) (by decide);replace d:=d.froz 9;replace f:=(f).toSlF (Ze.int .u32);replace a:=a.froz 9 (by decide) (by decide);cases c;exact ⟨O,_,ra (U.froz 9).atN,_,_,_,_,_,_,_,_,_,O,a.fin (cm []),a.fs d,a.fs f,a.fs (M.ks a),a.fs (G.ks a)⟩
 refine Xt ⟨_,_,O⟩ ?_;refine lV (.agg #[.bool b.1.1.1,.slice q b.1.1.2.length k,.slice s b.1.2.length n]) (Xi isAgg42 sizeOf42 O O ((y.atN).part 0 3 _ O))<|lV _ (Zz isAgg42 sizeOf42 ax)<|lV (.agg #[.bool b.1.1.1,.slice q b.1.1.2.length k,.slice s b.1.2.length n,.bool B.1.1,.slice ar B.1.2.length au,.slice av B.2.length aw]) (Yc (l:=[_,_]) (qs:=[(0,3),(3,3)]) underlying44 zeroValue44 ⟨O,sizeOf42,O,sizeOf42,trivial⟩ O)<|Zs L ?_;intro _ S x T;refine go ?_;replace d:=d.kp S;replace d:=(d).toSlF (Ze.int .u32);replace f:=f.kp S;replace f:=f.froz 8;replace T:=T.froz 8;replace a:=a.kp S x;replace a:=a.froz 8 (by decide) (by decide);replace a:=a.froz 9 (by decide) (by decide);cases c;exact ⟨O,_,ra (T.froz 9).atN,_,_,_,_,_,_,_,_,_,O,a.fin (cm []),a.fs (D.ks a),a.fs (P.ks a),a.fs (d.froz 9),a.fs ((f).toSlF (Ze.int .u32))⟩
/-! the number that bits tell -/
def Zb2 (s:ByteArray) (i:Nat):Nat:=if Si s (i:Int)=some 49 then 1 else 0
def Wr (s:ByteArray):Nat→Nat
 | 0=>0
 | i+1=>Wr s i+Wr s i+Zb2 s i
def Xe (s:ByteArray) (i:Nat):Rat×Rat:=(mkRat (Wr s i:Int) (2 ^ i),mkRat ((Wr s i:Int)+1) (2 ^ i))
theorem Zwx (s:ByteArray):∀ i,Wr s i+1≤2 ^ i
 | 0=>by rw [Wr];decide
 | i+1=>by
  have h:=Zwx s i
  have a:Zb2 s i≤1:=by rw [Zb2];split <;> omega
  rw [Wr,aW]
  generalize (2 ^ i:Nat)=Z at *
  omega
theorem Zc3 (i:Nat):(2 ^ i:Nat)≠0:=fX.1 (dO (by decide))
theorem Zrn (s:ByteArray) (i:Nat):(Xe s i).1<(Xe s i).2:=by
 have h:=Zc3 i
 rw [Xe,Vs h h]
 generalize (2 ^ i:Nat)=Z at *
 exact Int.mul_lt_mul_of_pos_right (by omega) (by omega)
theorem Zwy (s:ByteArray) (i:Nat):0≤(Xe s i).1:=by
 rw [Xe,← bQ,show (0:Rat)=mkRat 0 1 from rfl,Vs (Zc3 i) (by decide)]
 intro h
 rw [Int.zero_mul] at h
 omega
theorem Zw0 (s:ByteArray):Xe s 0=(0,1):=by
 rw [Xe,Wr]
 decide
theorem Z7t {n:Int} {Z:Nat} (hZ:Z≠0):(mkRat n Z+mkRat (n+1) Z) * mkRat 1 2=mkRat (n+n+1) (Z * 2):=by
 rw [Zph _ _ hZ,eI,eZ,Int.add_assoc]
theorem Zxq {n:Int} {Z:Nat} (hZ:Z≠0):mkRat n Z=mkRat (n+n) (Z * 2):=by
 rw [Zsi hZ (by omega),Int.natCast_mul]
 grind
theorem Z7s {N L:Nat} (hr:Z8 N (4 * L+16)) (s:ByteArray) {i:Nat} (q1:qs (Xe s i).1≤L) (q2:qs (Xe s i).2≤L) {c:Int} (hc:Si s (i:Int)=some c):Zh5 N (Xn (Xe s i)) (decide (c=49))=some (Xn (Xe s (i+1))):=by
 have a:=Zc3 i
 have d:Uk N (((Xn (Xe s i)).1.1.1,(Xn (Xe s i)).1.1.2),(Xn (Xe s i)).1.2) (((Xn (Xe s i)).2.1.1,(Xn (Xe s i)).2.1.2),(Xn (Xe s i)).2.2)=some (Zm ((Xe s i).1+(Xe s i).2)):=by
  have:=Ze4 (Yi q1) (Yi q2) (hr.mono (by omega))
  rwa [Xz,Xz] at this
 have f:RV 1 ((false,[1]),[2]):=⟨by simp [Zo],by simp [Zo],by simp,by simp⟩
 have g:Zq ((false,[1]),[2])=mkRat 1 2:=by simp [Zq,Zr,X4,Za]
 have m:=Zkc (Xe s i).1 (Xe s i).2
 have j:U2 N ((Zm ((Xe s i).1+(Xe s i).2))) ((false,[1]),[2])=some (Zm (((Xe s i).1+(Xe s i).2) * mkRat 1 2)):=by
  have:=Zk9 (Yi (q:=(Xe s i).1+(Xe s i).2) (k:=2 * L+1) (by omega)) f (hr.mono (by omega))
  rwa [Xz,g] at this
 have b:U2 N (((Zm ((Xe s i).1+(Xe s i).2)).1.1,(Zm ((Xe s i).1+(Xe s i).2)).1.2),(Zm ((Xe s i).1+(Xe s i).2)).2) ((false,[1]),[2])=_:=j
 have l:((Xe s i).1+(Xe s i).2) * mkRat 1 2=mkRat ((Wr s i:Int)+Wr s i+1) (2 ^ i * 2):=Z7t a
 rw [Zh5,d,oB,b,oB,l]
 by_cases h:c=49
 ·have e:Wr s (i+1)=Wr s i+Wr s i+1:=by rw [Wr,Zb2,hc,h,if_pos rfl]
  have r:Xe s (i+1)=(mkRat ((Wr s i:Int)+Wr s i+1) (2 ^ i * 2),(Xe s i).2):=by
   rw [Xe,e,aW]
   refine Prod.ext ?_ ?_
   ·simp only [cS];rfl
   ·rw [Xe]
    simp only
    rw [Zxq (n:=(Wr s i:Int)+1) a]
    congr 1
    omega
  rw [if_pos (dT h),r];rfl
 ·have e:Wr s (i+1)=Wr s i+Wr s i:=by rw [Wr,Zb2,hc,if_neg (by simpa using h),Nat.add_zero]
  have r:Xe s (i+1)=((Xe s i).1,mkRat ((Wr s i:Int)+Wr s i+1) (2 ^ i * 2)):=by
   rw [Xe,e,aW]
   refine Prod.ext ?_ ?_
   ·rw [Xe]
    simp only
    rw [Zxq (n:=(Wr s i:Int)) a]
    simp only [cS]
   ·simp only [cS]
  rw [if_neg (dF h),r];rfl
def Zle (a:(R0×R0)):Option (R0×R0):=
  some ((((a.1.1.1,a.1.1.2),a.1.2),((a.2.1.1,a.2.1.2),a.2.2)))
theorem Z3j {c d f i:Nat} {j k l o:Option Addr} {col:Zg} {m:World} {b r:(R0×R0)} (n:Nat) (C:Zle b=some r) (p:Sl rU col m j c b.1.1.2) (q:Sl rU col m k d b.1.2) (s:Sl rU col m l f b.2.1.2) (t:Sl rU col m o i b.2.2):
    Calls prog 103 #[(.agg #[.bool b.1.1.1,.slice j b.1.1.2.length c,.slice k b.1.2.length d,.bool b.2.1.1,.slice l b.2.1.2.length f,.slice o b.2.2.length i])] m (fun e w'=>∃ (col':Zg) (w:Nat) (z:Option Addr) (x:Nat) (A:Option Addr) (y:Nat) (B:Option Addr) (a:Nat) (h:Option Addr) (g:Nat),e= .returned ((.func (.func 144) #[] #[.pointer (some ⟨w,0,none⟩)]))∧Zl col m col' w'∧Zi 44 n col' w' w #[.bool r.1.1.1,.slice z r.1.1.2.length x,.slice A r.1.2.length y,.bool r.2.1.1,.slice B r.2.1.2.length a,.slice h r.2.2.length g]∧Sl rU col' w' z x r.1.1.2∧Sl rU col' w' A y r.1.2∧Sl rU col' w' B a r.2.1.2∧Sl rU col' w' h g r.2.2):=by
 refine Xk 2 (m:=4) func103 O O O O O ?_;rw [Zle.eq_1] at C;have v:=St.start col m;refine go ?_;refine Xj (col:=(Zk col)) 1 O fun D _ F E G=>lv (v:=_) O O (Uf O)<|go ?_;refine lV (.func (.func 144) #[] #[.pointer (some ⟨D,0,none⟩)]) (Zpx O)<|lA (.func (.func 144) #[] #[.pointer (some ⟨D,0,none⟩)])<|go ?_;cases C;replace v:=v.grow E;exact ⟨O,Uc m.heap.size col F (fun u=>bif aH u 1 then n else 0),D,j,c,k,d,l,f,o,i,O,v.fin (fun u=>bif aH u 1 then n else 0),v.finBox (G:=(fun u=>bif aH u 1 then n else 0)) G (by decide) (by decide) O,v.finSl (g:=(fun u=>bif aH u 1 then n else 0)) O (p.k0.ks v),v.finSl (g:=(fun u=>bif aH u 1 then n else 0)) O (q.k0.ks v),v.finSl (g:=(fun u=>bif aH u 1 then n else 0)) O (s.k0.ks v),v.finSl (g:=(fun u=>bif aH u 1 then n else 0)) O (t.k0.ks v)⟩
def Zon (a:Int) (kk_L1:(Bool→R2→R2→Bool→R2→R2→Int→Option Rd)) (b:Bool) (c d:List Int) (e:Bool) (f g:List Int):Option Rd:=
  kk_L1 b c d e f g (i64.wrap (a+1))
def Zoo (N:Nat) (c:ByteArray) (d:Bool) (e f:List Int) (g:Bool) (i j:List Int) (b:Int) (kk_L1:(Bool→R2→R2→Bool→R2→R2→Int→Option Rd)):Option Rd:=
  (Si c b).bind fun k=>(Zh5 N (((d,e),f),((g,i),j)) (decide (k=49))).bind fun a=>Zon b kk_L1 a.1.1.1 a.1.1.2 a.1.2 a.2.1.1 a.2.1.2 a.2.2
def Zfa (N:Nat) (a:ByteArray) (b:Bool) (c d:List Int) (e:Bool) (f g:List Int) (i:Int) (kk_L1:(Bool→R2→R2→Bool→R2→R2→Int→Option Rd)) (j:Bool):Option Rd:=
  if j=true then (some (([]:List Int),0,70)) else (Zoo N a b c d e f g i kk_L1)
def Sp (N:Nat) (b:R1) (a:ByteArray) (e:R9):Nat→Bool→R2→R2→Bool→R2→R2→Int→Option Rd
  | 0,_,_,_,_,_,_,_=>none
  | m+1,f,g,i,j,k,l,c=>(Zle (((f,g),i),((j,k),l))).bind fun d=>(Zdo N (b.1,b.2.1,b.2.2.1,b.2.2.2.1,b.2.2.2.2) e.1 (((d.1.1.1,d.1.1.2),d.1.2),((d.2.1.1,d.2.1.2),d.2.2))).bind fun n=>if n.2.2=true then (some (n.1,c,0)) else (if (decide (c=(a.size:Int)))=true then (Zfa N a f g i j k l c (Sp N b a e m) true) else ((Si a c).bind fun o=>if (!decide (o=48))=true then ((Si a c).bind fun p=>Zfa N a f g i j k l c (Sp N b a e m) (!decide (p=49))) else (Zfa N a f g i j k l c (Sp N b a e m) false)))
def Ze9 (N:Nat) (a:R1) (e:ByteArray):Option Rd:=
  (Ue N (a.1,a.2.1,a.2.2.1,a.2.2.2.1,a.2.2.2.2)).bind fun d=>if (!decide (d=0))=true then (some (([]:List Int),0,d)) else ((Tr N a.2.2.2.1).bind fun f=>(Zam N ([]:List R0)).bind fun b=>(Za9).bind fun c=>Sp N a e f N b.1.1 b.1.2 b.2 c.1.1 c.1.2 c.2 0)
theorem Z3a {N M P Q R:Nat} {J af K L:Option Addr} {col:Zg} {l:World} {d:R1} {bl:ByteArray} {r:Rd} (c1:Nat) (a:Ze9 N d bl=some r) (bd:Sl Zc.str col l J M d.2.1) (be:Sl rV col l af P d.2.2.1) (a4:Sl rP col l K Q d.2.2.2.1) (bf:Sl (Zc.slice rQ) col l L R d.2.2.2.2):
    Calls prog 50 #[(.agg (Rt d J M af P K Q L R)),.string bl] l (fun e y=>∃ (col':Zg) (W:Option Addr) (T:Nat),e= .returned (.tuple #[.slice W r.1.length T,.int .i64 r.2.1,.int .i64 r.2.2])∧Zl col l col' y∧Zb rI 3 c1 col' y W T r.1):=by
 refine Zra 4 5 6 (m:=65) (args:=[(.agg (Rt d J M af P K Q L R)),.string bl]) func50 O O O O O ?_;rw [Ze9.eq_1] at a;have c:=St.start col l;refine go ?_;refine Xj (col:=(Zk col)) 1 O fun bg _ T w f=>go ?_;refine lV _ (Zz isAgg27 sizeOf27 f) ?_;obtain ⟨_,Z,a⟩:=bZ a;replace bd:=bd.k0;replace be:=be.k0;replace a4:=a4.k0;replace bf:=bf.k0;replace c:=c.grow w;refine Zh (Zkx Z (bd.ks c) (be.ks c) (a4.ks c) (bf.ks c)) fun _ _ ⟨k,t⟩=>⟨_,k,?_⟩;replace t:=Ru T t;refine go ?_;replace f:=f.gr t;replace c:=c.grow t;refine Zp a (fun s a=>go ?_) fun s a=>go ?_
 ·cases a;exact ⟨O,_,none,0,O,c.fin (cm []),Zb.nil⟩
 refine Xp f ?_;obtain ⟨V,j,a⟩:=bZ a;refine Zh (Zn1 2 j (a4.ks c)) fun _ _ ⟨S,ax,ay,k,T,h⟩=>⟨_,k,?_⟩;refine lM (.tuple #[.slice ax V.1.length ay,.int .i64 V.2])<|lV (.slice ax V.1.length ay) (Xl O O)<|lV (.int .i64 V.2) (Xl O O)<|go ?_;obtain ⟨t,m,a⟩:=bZ a;refine Zh (Zhj (col:=S) 3 4 m Sl.nil) fun _ _ ⟨j,cz,c0,c2,c3,k,v,w,S⟩=>⟨_,k,?_⟩;obtain ⟨Z,X,a⟩:=bZ a;refine lc O O (Sv call47) (Zhg (col:=j) 5 6 X:) fun _ _ ⟨c5,W,X,Y,c9,k,j,m,u⟩=>⟨_,k,?_⟩;refine lV (.agg #[.bool t.1.1,.slice cz t.1.2.length c0,.slice c2 t.2.length c3,.bool Z.1.1,.slice W Z.1.2.length X,.slice Y Z.2.length c9]) (Yc (l:=[_,_]) (qs:=[(0,3),(3,3)]) underlying44 zeroValue44 ⟨O,sizeOf42,O,sizeOf42,trivial⟩ O)<|Xc (col:=c5) #[.bool false,(nI),(nI),.bool false,(nI),(nI)] 7 zeroValue44 ?_;intro bi _ _ Y W;refine Zs W fun _ X t i=>go ?_;replace h:=(((h.gr v).gr j).gr Y).kp X;replace h:=h.froz 3;replace w:=((w.gr j).gr Y).kp X;replace w:=(w).toSlF (Ze.int .u32);replace S:=((S.gr j).gr Y).kp X;replace S:=S.froz 3;replace m:=(m.gr Y).kp X;replace m:=m.froz 3;replace u:=(u.gr Y).kp X;replace u:=u.froz 3;replace f:=((((f.gr T).gr v).gr j).gr Y).kp X;replace f:=f.froz 3;replace i:=i.froz 3;replace c:=((((c.grow T).grow v).grow j).grow Y).kp X t;replace c:=c.froz 3 (by decide) (by decide);replace h:=h.froz 4;replace w:=w.froz 4;replace S:=(S).toSlF (Ze.int .u32);replace m:=m.froz 4;replace u:=u.froz 4;replace f:=f.froz 4;replace i:=i.froz 4;replace c:=c.froz 4 (by decide) (by decide);replace h:=h.froz 5;replace w:=w.froz 5;replace S:=S.froz 5;replace m:=(m).toSlF (Ze.int .u32);replace u:=u.froz 5;replace f:=f.froz 5;replace i:=i.froz 5
 replace c:=c.froz 5 (by decide) (by decide);replace h:=h.froz 6;replace w:=w.froz 6;replace S:=S.froz 6;replace m:=m.froz 6;replace u:=(u).toSlF (Ze.int .u32);replace f:=f.froz 6;replace i:=i.froz 6;replace c:=c.froz 6 (by decide) (by decide);replace h:=(h).toSlF (Ze.int .i64);replace f:=f.froz 2;replace i:=i.froz 2;replace c:=c.froz 2 (by decide) (by decide);refine Z0 [1,10,2,8,1000000] (fun j cr U=>∃ x z A B cu C D dk E F G dv H I dw a2 dx,dx=j∧Sp N d bl V dx z cu dk E dv dw a2=some r∧St l (Zk col) x U∧Sl rU x U A B cu∧Sl rU x U C D dk∧Sl rU x U F G dv∧Sl rU x U H I dw∧Zi 44 7 x U bi #[.bool z,.slice A cu.length B,.slice C dk.length D,.bool E,.slice F dv.length G,.slice H dw.length I]∧Zi 27 1 x U bg (Rt d J M af P K Q L R)∧Sl rI x U ax ay V.1∧[11].map cr=[.int .i64 a2]) N ⟨_,_,_,_,_,_,_,_,_,_,_,_,_,_,_,0,_,O,a,c,w.froz 2,S.froz 2,m.froz 2,u.froz 2,i,f,h,O⟩ ?_;clear a;intro j cr U w;obtain ⟨x,z,A,B,cu,C,D,dk,E,F,G,dv,H,I,dw,a2,dx,hn,a,c,n,o,p,q,i,f,h,hs⟩:=w;subst hn;refine .lL [11] hs ?_
 cases dx with
 | zero=>rw [Sp.eq_1] at a;cases a
 | succ dx=>
  rw [Sp.eq_2] at a;refine Zw ?_;refine Wp.cutK [1,10,11,2,8,1000000] (fun cr X=>∃ Y j m S u W Z v t b0 b1 w b2 b3 T,Zon a2 (Sp N d bl V dx) j u v t w T=some r∧St l (Zk col) Y X∧Sl rU Y X m S u∧Sl rU Y X W Z v∧Sl rU Y X b0 b1 w∧Sl rU Y X b2 b3 T∧Zi 44 7 Y X bi #[.bool j,.slice m u.length S,.slice W v.length Z,.bool t,.slice b0 w.length b1,.slice b2 T.length b3]∧Zi 27 1 Y X bg (Rt d J M af P K Q L R)∧Sl rI Y X ax ay V.1) ?_ ?_
  ·intro cr X hJ;obtain ⟨Y,j,m,S,u,W,Z,v,t,b0,b1,w,b2,b3,T,a,c,m,t,u,v,i,f,h⟩:=hJ;rw [Zon.eq_1] at a;refine go ?_;exact ⟨dx,by omega,O,⟨_,_,_,_,_,_,_,_,_,_,_,_,_,_,_,_,_,O,a,c,m,t,u,v,i,f,h,O⟩⟩
  refine go ?_;have v:=Zu.clip (fun _=>false) x U;refine Zbz (col:=x) [(0,0),(1,1),(2,0),(3,3),(4,3),(5,1),(6,1),(7,1),(8,1),(9,4),(10,1),(11,2),(12,1)] (by kernel_rfl) (by kernel_rfl) ⟨fun j=>absurd j (by decide),fun j=>absurd j (by decide),fun j=>absurd j (by decide),fun j=>absurd j (by decide),fun j=>absurd j (by decide),fun j=>absurd j (by decide),fun j=>absurd j (by decide),fun j=>absurd j (by decide),fun j=>absurd j (by decide),fun _=>⟨_,_,_,O,V5 zeroValue44⟩,fun j=>absurd j (by decide),fun j=>absurd j (by decide),fun j=>absurd j (by decide),trivial⟩ ?_;replace f:=f.kpp v;refine Wa (v:=(.agg (Rt d J M af P K Q L R))) O O (fun _ b=>Xi isAgg27 sizeOf27 O O (f.atN.gr (b.bl (Zd U x)))) ?_;refine X3 (v:=(.slice ax V.1.length ay)) O O (fun _=>Wn O) ?_;replace i:=i.kpp v;refine Wa (v:=(.agg #[.bool z,.slice A cu.length B,.slice C dk.length D,.bool E,.slice F dv.length G,.slice H dw.length I])) O O (fun _ b=>Xi isAgg44 sizeOf44 O O (i.atN.gr (b.bl (Zd U x)))) ?_;refine Y6 O O ?_;intro _ g;have b:=g.bl (Zd U x);obtain ⟨_,U,a⟩:=bZ a;replace n:=(n.kpp v).gr b;replace o:=(o.kpp v).gr b;replace p:=(p.kpp v).gr b;replace q:=(q.kpp v).gr b;refine Zh (Z3j 8 U n o p q) fun _ x ⟨m,_,_,_,_,_,_,_,_,_,k,t,b4,u,w,X,T⟩=>⟨_,k,?_⟩;refine Zj ?_;refine ⟨fun y=>Zl (Zd x m) x (Zd x m) y,fun W=>(Zd x m) W=497,Zl.refl _ _,Y3,fun _=>⟨fun _ j=>Wt g t j,fun dy s=>t.below.block dy s,fun W U Z=>Wy t W U (by first | exact Z | (simp only [Xg,Z];rfl) | (simp only [Xg,Xq,Z];rfl))⟩,?_⟩;have S:=Zu.clip (fun _=>false) m x;refine Y6 O O ?_;intro _ g;replace h:=(((h.kpp v).gr b).gr t).kpp S;replace c:=(((c.kpp v).grow b).grow t).kpp S;replace i:=((i.gr b).gr t).kpp S;replace f:=((f.gr b).gr t).kpp S;have b:=g.bl (Zd x m);obtain ⟨m,Y,a⟩:=bZ a;replace T:=(T.kpp S).gr b
  replace h:=h.gr b;replace c:=c.grow b;refine Zh (Z3d 9 8 Y (by decide) (bd.ks c) (be.ks c) (a4.ks c) (bf.ks c) h ((u.kpp S).gr b) ((w.kpp S).gr b) ((X.kpp S).gr b) T ((b4.kpp S).gr b)) fun _ w ⟨T,X,Y,u,x,ck,cl,cn,co,cp,cq,k,v,a7,_,_,_,_⟩=>⟨_,k,?_⟩;refine Zj ?_;refine ⟨fun y=>Zl (Zd w T) w (Zd w T) y,fun W=>(Zd w T) W=497,Zl.refl _ _,Y3,fun _=>⟨fun _ j=>Wt g v j,fun dy s=>v.below.block dy s,fun W U Z=>Wy v W U (by first | exact Z | (simp only [Xg,Z];rfl) | (simp only [Xg,Xq,Z];rfl))⟩,?_⟩;have U:=Zu.clip (fun _=>false) T w;refine X3 (v:=(.tuple #[.slice X m.1.length Y,(.agg #[.bool m.2.1.1.1.1,.slice u m.2.1.1.1.2.length x,.slice ck m.2.1.1.2.length cl,.bool m.2.1.2.1.1,.slice cn m.2.1.2.1.2.length co,.slice cp m.2.1.2.2.length cq]),.bool m.2.2])) O O (fun _=>Wn O) ?_;refine X3 (v:=(.slice X m.1.length Y)) O O (fun _=>Xl O O) ?_;refine X3 (v:=(.agg #[.bool m.2.1.1.1.1,.slice u m.2.1.1.1.2.length x,.slice ck m.2.1.1.2.length cl,.bool m.2.1.2.1.1,.slice cn m.2.1.2.1.2.length co,.slice cp m.2.1.2.2.length cq])) O O (fun _=>Xl O O) ?_;refine X3 (v:=(.bool m.2.2)) O O (fun _=>Xl O O) ?_;refine Zaw O O (V5 zeroValue44) fun u Z=>X3 (v:=(.slice X m.1.length Y)) O O (fun _=>Uf O) ?_;refine Y6 O O ?_;intro x ⟨g,hZ0⟩;replace n:=((((n.gr t).kpp S).gr b).gr v).kpp U;replace o:=((((o.gr t).kpp S).gr b).gr v).kpp U;replace p:=((((p.gr t).kpp S).gr b).gr v).kpp U;replace q:=((((q.gr t).kpp S).gr b).gr v).kpp U;replace i:=((i.gr b).gr v).kpp U;replace f:=((f.gr b).gr v).kpp U;have b:=g.bl (Zd w T);obtain ⟨S,Y⟩:=Q7 (col:=(Zd w T)) 10 hZ0 Z
  replace Y:Zi 44 10 (Zx u 10 (Zd w T)) x u #[.bool false,(nI),(nI),.bool false,(nI),(nI)]:=Y;refine Zs Y fun t x X _=>Zj ?_;refine ⟨fun y=>Zl (Zd t (Zx u 10 (Zd w T))) t (Zd t (Zx u 10 (Zd w T))) y,fun W=>(Zd t (Zx u 10 (Zd w T))) W=497,Zl.refl _ _,Y3,fun j=>absurd j (by decide),?_⟩;have Z:=Zu.clip (fun _=>false) (Zx u 10 (Zd w T)) t;refine X3 (v:=(.bool m.2.2)) O O (fun _=>Uf O) ?_;refine Zb1 ?_;replace h:=(((((h.gr v).kpp U).gr b).kpp S).kp x).kpp Z;replace c:=(((((c.grow v).kpp U).grow b).kpp S).kp x X).kpp Z;replace a7:=((((a7.kpp U).gr b).kpp S).kp x).kpp Z;replace n:=(((n.gr b).kpp S).kp x).kpp Z;replace o:=(((o.gr b).kpp S).kp x).kpp Z;replace p:=(((p.gr b).kpp S).kp x).kpp Z;replace q:=(((q.gr b).kpp S).kp x).kpp Z;replace i:=(((i.gr b).kpp S).kp x).kpp Z;replace f:=(((f.gr b).kpp S).kp x).kpp Z;intro y b;replace b:Zl (Zd t (Zx u 10 (Zd w T))) t (Zd t (Zx u 10 (Zd w T))) y:=.of_below b.below;refine go ?_;replace n:=n.gr b;replace o:=o.gr b;replace p:=p.gr b;replace q:=q.gr b;replace h:=h.gr b;replace i:=i.gr b;replace f:=f.gr b;replace c:=c.grow b;refine Zp a (fun s a=>go ?_) fun s a=>?_
  ·cases a;exact ⟨O,_,_,_,O,c.fin (cm [(9,c1)]),c.fo (a7.gr b)⟩
  refine X1<|Zw ?_;refine Wp.cutK [1,10,11,2,8,1000000] (fun cr U=>∃ j,Zoo N bl z cu dk E dv dw a2 (Sp N d bl V dx)=some r∧St l (Zk col) j U∧Sl rU j U A B cu∧Sl rU j U C D dk∧Sl rU j U F G dv∧Sl rU j U H I dw∧Zi 44 7 j U bi #[.bool z,.slice A cu.length B,.slice C dk.length D,.bool E,.slice F dv.length G,.slice H dw.length I]∧Zi 27 1 j U bg (Rt d J M af P K Q L R)∧Sl rI j U ax ay V.1) ?_ ?_
  ·intro cr U hJ;obtain ⟨j,a,c,n,o,p,q,i,f,h⟩:=hJ;rw [Zoo.eq_1] at a;refine Ym (col:=j) [(0,0),(1,1),(2,1),(3,0),(4,1),(5,3),(6,2)] (by kernel_rfl) (by kernel_rfl)<|xv O O (fun _ b=>Zz isAgg44 sizeOf44 (i.gr (b.bl j))) ?_;refine xu O O (fun _=>r_mT O) ?_;refine xu O O (fun _=>Wu O) ?_;obtain ⟨y,S,a⟩:=bZ a;refine xv (v:=(.int .u8 y)) O O (fun _ b=>Zpz (s:=bl) underlying9 O O S) ?_;refine xu O O (fun _=>Zpw _ _ O O) ?_;refine xe O O ?_;intro _ g;have b:=g.bl j;obtain ⟨_,y,a⟩:=bZ a;replace n:=n.gr b;replace o:=o.gr b;replace p:=p.gr b;replace q:=q.gr b;refine Zh (Z3h y n o p q) fun _ _ ⟨X,_,_,_,_,_,_,_,_,k,y,u,v,w,x⟩=>⟨_,k,?_⟩;refine Zj<|Xb X g y<|xe O O ?_;intro _ g;replace h:=(h.gr b).gr y;replace i:=(i.gr b).gr y;replace f:=(f.gr b).gr y;replace c:=(c.grow b).grow y;have b:=g.bl X;replace i:=i.gr b;refine Zs i fun _ W g k=>Zj<|xk X<|Yf ?_;replace h:=(h.gr b).kp W;replace u:=(u.gr b).kp W;replace v:=(v.gr b).kp W;replace w:=(w.gr b).kp W;replace x:=(x.gr b).kp W;replace f:=(f.gr b).kp W;replace c:=(c.grow b).kp W g;intro _ b;replace b:=b.bl X;replace h:=h.gr b;replace f:=f.gr b;replace c:=c.grow b;exact ⟨O,_,_,_,_,_,_,_,_,_,_,_,_,_,_,_,a,c,u.gr b,v.gr b,w.gr b,x.gr b,k.gr b,f,h⟩
  refine Zw ?_;refine Wp.cutK [1,10,11,2,8,1000000] (fun cr b=>∃ g k,Zfa N bl z cu dk E dv dw a2 (Sp N d bl V dx) k=some r∧St l (Zk col) g b∧Sl rU g b A B cu∧Sl rU g b C D dk∧Sl rU g b F G dv∧Sl rU g b H I dw∧Zi 44 7 g b bi #[.bool z,.slice A cu.length B,.slice C dk.length D,.bool E,.slice F dv.length G,.slice H dw.length I]∧Zi 27 1 g b bg (Rt d J M af P K Q L R)∧Sl rI g b ax ay V.1∧[58].map cr=[.bool k]) ?_ ?_
  ·intro cr b hJ;obtain ⟨g,k,a,c,n,o,p,q,i,f,h,hs⟩:=hJ;rw [Zfa.eq_1] at a;refine .lL [58] hs ?_;refine Zp a (fun s a=>go ?_) fun s a=>?_
   ·cases a;exact ⟨O,_,none,0,O,c.fin (cm []),Zb.nil⟩
   refine X1 ?_;exact ⟨O,_,a,c,n,o,p,q,i,f,h⟩
  refine go ?_;refine X9 a (fun k a=>go ?_) fun k a=>go ?_
  ·refine Zol 52 O O O O<|Zol 52 O O O O<|Zol 52 O O O O<|Zol 52 O O O O<|go ?_;refine lV (.bool true) (Xw (congrArg Value.bool k) O)<|Zj ?_;exact ⟨O,_,_,a,c,n,o,p,q,i,f,h,O⟩
  obtain ⟨z,A,a⟩:=bZ a;refine lV (.int .u8 z) (Zpz (s:=bl) underlying9 O O A)<|go ?_;refine X9 a (fun s a=>go ?_) fun s a=>go ?_
  ·obtain ⟨l,B,a⟩:=bZ a;refine lV (.int .u8 l) (Zpz (s:=bl) underlying9 O O B)<|go ?_;refine lV (.bool (!decide (l=49))) (Xw (congrArg Value.bool s) O)<|lV (.bool (!decide (l=49))) (X0 (congrArg Value.bool k) O)<|Zj ?_;exact ⟨O,_,_,a,c,n,o,p,q,i,f,h,O⟩
  refine lV (.bool false) (X0 (congrArg Value.bool s) O)<|lV (.bool false) (X0 (congrArg Value.bool k) O)<|Zj ?_;exact ⟨O,_,_,a,c,n,o,p,q,i,f,h,O⟩

end Go.Proofs.YtpkknichfgooaaaGreat
