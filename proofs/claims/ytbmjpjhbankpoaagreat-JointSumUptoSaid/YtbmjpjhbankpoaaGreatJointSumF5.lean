/-
  What functions of the program compute, as plain Lean functions (m_..), and proofs that they compute it (c_..). Printed by a program of the author; no conditions.
-/
import Derived.Test.YtbmjpjhbankpoaaGreatJointSumBFloat
import Derived.Test.YtbmjpjhbankpoaaGreatProg
import Derived.Test.YtbmjpjhbankpoaaGreatJointSumBBrief
import Derived.Test.YtbmjpjhbankpoaaGreatJointSumBView
import Derived.Test.YtbmjpjhbankpoaaGreatJointSumF4
set_option linter.unusedVariables false
set_option maxRecDepth 100000
set_option maxHeartbeats 2000000
namespace Go.Proofs.YtbmjpjhbankpoaaGreat
open Go Go.RowKit
open Go.IntKind (i8 i16 i32 i64 u8 u16 u32 u64)
open Go.Proofs.Tryz

def Zig (ad:List Int) (ac:Int) (aa:List Int) (kk_L2:(Int→R2→Option Int)) (ae:Bool):Option Int:=
  if ae=true then (some 3) else ((Zj ad ac).bind fun ab=>Zv ((aa.length+[ab].length) * 8≤140737488355328∧aa.length+[ab].length≤maxLen) (kk_L2 (i64.wrap (ac+1)) (aa++[ab])))
def Zfc (N:Nat) (ab:List Int) (aa:Int) (kk_L3:(Int→Option Int)):Nat→Int→Option Int
  | 0,_=>none
  | ad+1,ac=>if (decide (ac<aa))=true then ((Zj ab aa).bind fun ae=>(Zj ab ac).bind fun af=>if (decide (ae=af))=true then (some 40) else ((Zfc N ab aa kk_L3 ad) (i64.wrap (ac+1)))) else (kk_L3 (i64.wrap (aa+1)))
termination_by structural x=>x
def Zfd (N:Nat) (aa:R0):Nat→Int→Int→Option Int
  | 0,_,_=>none
  | ae+1,ac,ab=>if (decide (ab<(aa.2.1.length:Int)))=true then ((Zj aa.2.2.1 ab).bind fun ad=>if (decide (65536<(i64.wrap (ac * (ad.length:Int)))))=true then (some 4) else ((Zfd N aa ae) (i64.wrap (ac * (ad.length:Int))) (i64.wrap (ab+1)))) else (some 0)
termination_by structural x=>x
def Zbu (N:Nat) (ab:R0) (aa:List Int):Nat→Int→Option Int
  | 0,_=>none
  | ad+1,ac=>if (decide (ac<(aa.length:Int)))=true then (Zfc N aa ac (Zbu N ab aa ad) N 0) else (Zfd N ab N 1 0)
termination_by structural x=>x
def Zbt (N:Nat) (ab:R0) (aa:List Int):Nat→Int→R2→Option Int
  | 0,_,_=>none
  | ae+1,ac,ad=>if (decide (ac<(aa.length:Int)))=true then ((Zj aa ac).bind fun af=>if (decide (af<0))=true then (Zig aa ac ad (Zbt N ab aa ae) true) else (Zig aa ac ad (Zbt N ab aa ae) (decide ((ab.2.1.length:Int)≤af)))) else (Zbu N ab ad N 0)
termination_by structural x=>x
def Zfb (N:Nat) (aa:R0) (ad:Rc) (af:List Int):Nat→R2→Int→Option Int
  | 0,_,_=>none
  | ag+1,ac,ae=>if (decide (ae<(ad.length:Int)))=true then ((Zj ad ae).bind fun ab=>(Zip (aa.1,aa.2.1,aa.2.2.1,aa.2.2.2.1,aa.2.2.2.2) (ab.1,ab.2)).bind fun ah=>if ah=true then (some 3) else (Zv ((ac.length+[ab.1].length) * 8≤140737488355328∧ac.length+[ab.1].length≤maxLen) ((Zfb N aa ad af ag) (ac++[ab.1]) (i64.wrap (ae+1))))) else (Zbt N aa af N 0 ac)
termination_by structural x=>x
def Vt (N:Nat) (aa:R0) (ac:Rc) (ad:List Int):Option Int:=
  (Zcy N (aa.1,aa.2.1,aa.2.2.1,aa.2.2.2.1,aa.2.2.2.2)).bind fun ab=>if (!decide (ab=0))=true then (some ab) else (Zfb N aa ac ad N ([]:List Int) 0)
theorem Zlw {N ah ai aj ak b5 b6:Nat} {al am an ao a1 a2:Option Addr} {col:Zd} {w0:World} {ab:R0} {a8:Rc} {aq:R2} {r:Int} (hm:Vt N ab a8 aq=some r) (a9:Sl Za.str col w0 al ah ab.2.1) (aw:Sl (Za.slice Za.str) col w0 am ai ab.2.2.1) (ba:Sl (Za.slice (Za.int .i64)) col w0 an aj ab.2.2.2.1) (bb:Sl (Za.slice (Za.pair (Za.pair Za.bool (Za.slice (Za.int .u32))) (Za.slice (Za.int .u32)))) col w0 ao ak ab.2.2.2.2) (h1:Sl (Za.pair (Za.int .i64) (Za.int .i64)) col w0 a1 b5 a8) (h2:Sl (Za.int .i64) col w0 a2 b6 aq):
    Calls prog 135 #[(.agg #[.string ab.1,.slice al ab.2.1.length ah,.slice am ab.2.2.1.length ai,.slice an ab.2.2.2.1.length aj,.slice ao ab.2.2.2.2.length ak]),.slice a1 a8.length b5,.slice a2 aq.length b6] w0 (fun e w'=>e= .returned ((.int .i64 r))∧Below w0.heap.size w0 w'):=by
 refine Xc 6 (m:=107) func135 rfl rfl rfl rfl rfl ?_;rw [Vt.eq_1] at hm;have aa:=St.start col w0;refine go ?_;refine Xg (col:=(Zh col)) 1 rfl ?_;intro ax ca b7 cb ac;refine go ?_;refine lV _ (Z7 isAgg27 sizeOf27 ac) ?_;obtain ⟨cz,cc,hm⟩:=bZ hm;replace a9:=a9.keep (Zf.start col w0);replace aw:=aw.keep (Zf.start col w0);replace ba:=ba.keep (Zf.start col w0);replace bb:=bb.keep (Zf.start col w0);replace aa:=aa.grow cb;refine Zi (Z1i cc (a9.ks aa) (aw.ks aa) (ba.ks aa) (bb.ks aa)) ?_;rintro _ cd ⟨rfl,bc⟩;refine ⟨_,rfl,?_⟩;replace bc:Zg b7 ca b7 cd:=.of_below bc;refine go ?_;replace h1:=h1.keep (Zf.start col w0);replace h2:=h2.keep (Zf.start col w0);replace ac:=ac.gr bc;replace aa:=aa.grow bc;refine Zo hm (fun hb hm=>go ?_) fun hb hm=>go ?_
 ·cases hm;exact ⟨rfl,rfl,aa.below⟩
 refine Zw [1,2,3,1000000] (fun n f bd=>∃ ae bn bo be bp ay,ay=n∧Zfb N ab a8 aq ay be bp=some r∧St w0 (Zh col) ae bd∧Zm 27 1 ae bd ax #[.string ab.1,.slice al ab.2.1.length ah,.slice am ab.2.2.1.length ai,.slice an ab.2.2.2.1.length aj,.slice ao ab.2.2.2.2.length ak]∧Zc (Za.int .i64) 3 2 ae bd bn bo be∧[8,9].map f=[.slice bn be.length bo,.int .i64 bp]) N ⟨_,none,0,_,0,_,rfl,hm,aa,ac,Zc.nil,rfl⟩ ?_;clear hm;intro n f bd hI;obtain ⟨ae,bn,bo,be,bp,ay,hn,hm,aa,ac,az,hs⟩:=hI;subst hn;refine .lL [8,9] hs ?_
 cases ay with
 | zero=>rw [Zfb.eq_1] at hm;cases hm
 | succ ay=>
  rw [Zfb.eq_2] at hm;refine go ?_;refine Zo hm (fun hb hm=>go ?_) fun hb hm=>go ?_
  ·refine Wd (col:=ae) (by kernel_rfl) (by kernel_rfl)<|qv rfl (fun _ hC=>Z7 isAgg27 sizeOf27 (ac.gr (hC.bl ae))) ?_;refine go ?_;obtain ⟨bq,ar,hm⟩:=bZ hm;refine qI ar ((h1.ks aa).addr ar) ?_;obtain ⟨_,ce,cf⟩:=(h1.ks aa).atN ar;obtain ⟨_,_,rfl,cg,ch⟩:=Yi ce;obtain ⟨rfl,_⟩:=cg;obtain ⟨rfl,_⟩:=ch;refine qv (v:=(.agg #[.int .i64 bq.1,.int .i64 bq.2])) rfl (fun _ hC=>Yj isAgg97 sizeOf97 rfl rfl (cf.gr (hC.bl ae))) ?_;obtain ⟨ci,cj,hm⟩:=bZ hm;refine qc (v:=(.bool ci)) rfl (fun _ hC=>⟨_,_,Zbx call236 rfl rfl,(Z10 cj ((a9.ks aa).gr (hC.bl ae)) ((aw.ks aa).gr (hC.bl ae)) ((ba.ks aa).gr (hC.bl ae)) ((bb.ks aa).gr (hC.bl ae)):).mono fun _ _ h=>⟨h.1,hC.trans (.of_below h.2)⟩⟩) ?_;refine go ?_;refine X7 ?_;intro c0 hC;replace hC:=hC.bl ae;refine go ?_;replace az:=az.gr hC;replace ac:=ac.gr hC;replace aa:=aa.grow hC;refine Zo hm (fun hb hm=>go ?_) fun hb hm=>go ?_
   ·cases hm;exact ⟨rfl,rfl,aa.below⟩
   refine lI ar ((h1.ks aa).addr ar)<|Xd (X2 ((h1.ks aa).addr ar)) ?_;obtain ⟨_,ck,cl⟩:=(h1.ks aa).atN ar;obtain ⟨_,_,rfl,cn,co⟩:=Yi ck;obtain ⟨rfl,_⟩:=cn;obtain ⟨rfl,_⟩:=co;refine lW ((cl).nth (q:=0) rfl)<|W1 (col:=ae) [bq.1] 3 ?_;intro c1 c2 c3 br cp;obtain ⟨cq,hm⟩:=Zx hm;replace az:=az.gr br;refine Y3 az (cp.srcN (NB.int (k:=.i64))) cq ?_;intro c4 c5 c6 c7 b8 cr;refine go ?_;replace ac:=(ac.gr br).kpp b8;replace aa:=(aa.grow br).kpp b8;exact ⟨ay,by omega,rfl,⟨_,_,_,_,_,_,rfl,hm,aa,ac,cr,rfl⟩⟩
  refine Zw [2,3,1000000] (fun n f bf=>∃ ag bg a0 a3 af au,au=n∧Zbt N ab aq au bg af=some r∧St w0 (Zh col) ag bf∧Zm 27 1 ag bf ax #[.string ab.1,.slice al ab.2.1.length ah,.slice am ab.2.2.1.length ai,.slice an ab.2.2.2.1.length aj,.slice ao ab.2.2.2.2.length ak]∧Zc (Za.int .i64) 3 2 ag bf a0 a3 af∧[11,8].map f=[.int .i64 bg,.slice a0 af.length a3]) N ⟨_,0,_,_,_,_,rfl,hm,aa,ac,az,rfl⟩ ?_;clear hm;intro n f bf hI;obtain ⟨ag,bg,a0,a3,af,au,hn,hm,aa,ac,ad,hs⟩:=hI;subst hn;refine .lL [11,8] hs ?_
  cases au with
  | zero=>rw [Zbt.eq_1] at hm;cases hm
  | succ au=>
   rw [Zbt.eq_2] at hm;refine go ?_;refine Zo hm (fun hb hm=>?_) fun hb hm=>go ?_
   ·refine X9<|Z0<|Ziz<|Z0<|Z0 ?_;refine Wp.cutK [11,2,3,8,1000000] (fun f bh=>∃ a7 bs,Zig aq bg af (Zbt N ab aq au) bs=some r∧St w0 (Zh col) a7 bh∧Zm 27 1 a7 bh ax #[.string ab.1,.slice al ab.2.1.length ah,.slice am ab.2.2.1.length ai,.slice an ab.2.2.2.1.length aj,.slice ao ab.2.2.2.2.length ak]∧Zc (Za.int .i64) 3 2 a7 bh a0 a3 af∧[62].map f=[.bool bs]) ?_ ?_
    ·intro f bh hJ;obtain ⟨a7,bs,hm,aa,ac,ad,hs⟩:=hJ;rw [Zig.eq_1] at hm;refine .lL [62] hs ?_;refine Zo hm (fun hb hm=>go ?_) fun hb hm=>go ?_
     ·cases hm;exact ⟨rfl,rfl,aa.below⟩
     obtain ⟨cs,bt,hm⟩:=bZ hm;refine lI bt ((h2.ks aa).addr bt)<|lW ((h2.ks aa).atInt bt)<|W1 (col:=a7) [cs] 4 ?_;intro c8 c9 da bu ct;obtain ⟨cu,hm⟩:=Zx hm;replace ad:=ad.gr bu;refine Y3 ad (ct.srcN (NB.int (k:=.i64))) cu ?_;intro db dc dd de b9 cv;refine go ?_;replace ac:=(ac.gr bu).kpp b9;replace aa:=(aa.grow bu).kpp b9;exact ⟨au,by omega,rfl,⟨_,_,_,_,_,_,rfl,hm,aa,ac,cv,rfl⟩⟩
    refine Wd (col:=ag) (by kernel_rfl) (by kernel_rfl)<|go ?_;obtain ⟨cw,a4,hm⟩:=bZ hm;refine qI a4 ((h2.ks aa).addr a4)<|qW (fun _ hC=>((h2.ks aa).gr (hC.bl ag)).atInt a4) ?_;refine go ?_;refine Xt hm (fun bv hm=>go ?_) fun bv hm=>go ?_
    ·refine qv (v:=(.bool true)) rfl (fun _ hC=>Xb (congrArg Value.bool bv) rfl) ?_;refine X7 ?_;intro df hC;replace hC:=hC.bl ag;replace ad:=ad.gr hC;replace ac:=ac.gr hC;replace aa:=aa.grow hC;exact ⟨rfl,_,_,hm,aa,ac,ad,rfl⟩
    refine qI a4 ((h2.ks aa).addr a4) ?_;refine go ?_;refine qW (fun _ hC=>((h2.ks aa).gr (hC.bl ag)).atInt a4) ?_;refine go ?_;refine qF ⟨_,_,rfl⟩ ?_;refine go ?_;refine qW (fun _ hC=>((ac.atN).nth (q:=1) rfl).gr (hC.bl ag)) ?_;refine go ?_;refine qv (v:=(.bool (decide ((ab.2.1.length:Int)≤cw)))) rfl (fun _ hC=>Xm (congrArg Value.bool bv) rfl) ?_;refine X7 ?_;intro dg hC;replace hC:=hC.bl ag;replace ad:=ad.gr hC;replace ac:=ac.gr hC;replace aa:=aa.grow hC;exact ⟨rfl,_,_,hm,aa,ac,ad,rfl⟩
   refine Zw [3,8,1000000] (fun n f bi=>∃ bj bk av,av=n∧Zbu N ab af av bk=some r∧St w0 (Zh col) bj bi∧Zm 27 1 bj bi ax #[.string ab.1,.slice al ab.2.1.length ah,.slice am ab.2.2.1.length ai,.slice an ab.2.2.2.1.length aj,.slice ao ab.2.2.2.2.length ak]∧Zc (Za.int .i64) 3 2 bj bi a0 a3 af∧[12].map f=[.int .i64 bk]) N ⟨_,0,_,rfl,hm,aa,ac,ad,rfl⟩ ?_;clear hm;intro n f bi hI;obtain ⟨bj,bk,av,hn,hm,aa,ac,ad,hs⟩:=hI;subst hn;refine .lL [12] hs ?_
   cases av with
   | zero=>rw [Zbu.eq_1] at hm;cases hm
   | succ av=>
    rw [Zbu.eq_2] at hm;refine go ?_;refine Zo hm (fun hb hm=>go ?_) fun hb hm=>go ?_
    ·refine Zw [12,3,8,1000000] (fun n f bm=>∃ ap bw a5,a5=n∧Zfc N af bk (Zbu N ab af av) a5 bw=some r∧St w0 (Zh col) ap bm∧Zm 27 1 ap bm ax #[.string ab.1,.slice al ab.2.1.length ah,.slice am ab.2.2.1.length ai,.slice an ab.2.2.2.1.length aj,.slice ao ab.2.2.2.2.length ak]∧Zc (Za.int .i64) 3 2 ap bm a0 a3 af∧[13].map f=[.int .i64 bw]) N ⟨_,0,_,rfl,hm,aa,ac,ad,rfl⟩ ?_;clear hm;intro n f bm hI;obtain ⟨ap,bw,a5,hn,hm,aa,ac,ad,hs⟩:=hI;subst hn;refine .lL [13] hs ?_
     cases a5 with
     | zero=>rw [Zfc.eq_1] at hm;cases hm
     | succ a5=>
      rw [Zfc.eq_2] at hm;refine go ?_;refine Zo hm (fun hb hm=>go ?_) fun hb hm=>go ?_
      ·refine Wd (col:=ap) (by kernel_rfl) (by kernel_rfl)<|go ?_;obtain ⟨dh,bx,hm⟩:=bZ hm;refine qI bx (ad.addr bx)<|qW (fun _ hC=>(ad.gr (hC.bl ap)).atInt bx) ?_;refine go ?_;obtain ⟨di,bz,hm⟩:=bZ hm;refine qI bz (ad.addr bz)<|qW (fun _ hC=>(ad.gr (hC.bl ap)).atInt bz) ?_;refine go ?_;refine X7 ?_;intro dj hC;replace hC:=hC.bl ap;replace ad:=ad.gr hC;replace ac:=ac.gr hC;replace aa:=aa.grow hC;refine Zo hm (fun hb hm=>go ?_) fun hb hm=>go ?_
       ·cases hm;exact ⟨rfl,rfl,aa.below⟩
       exact ⟨a5,by omega,rfl,⟨_,_,_,rfl,hm,aa,ac,ad,rfl⟩⟩
      exact ⟨av,by omega,rfl,⟨_,_,_,rfl,hm,aa,ac,ad,rfl⟩⟩
    refine Zw [3,1000000] (fun n f b0=>∃ b1 b2 b3 a6,a6=n∧Zfd N ab a6 b2 b3=some r∧St w0 (Zh col) b1 b0∧Zm 27 1 b1 b0 ax #[.string ab.1,.slice al ab.2.1.length ah,.slice am ab.2.2.1.length ai,.slice an ab.2.2.2.1.length aj,.slice ao ab.2.2.2.2.length ak]∧[14,15].map f=[.int .i64 b2,.int .i64 b3]) N ⟨_,1,0,_,rfl,hm,aa,ac,rfl⟩ ?_;clear hm;intro n f b0 hI;obtain ⟨b1,b2,b3,a6,hn,hm,aa,ac,hs⟩:=hI;subst hn;refine .lL [14,15] hs ?_
    cases a6 with
    | zero=>rw [Zfd.eq_1] at hm;cases hm
    | succ a6=>
     rw [Zfd.eq_2] at hm;refine go ?_;refine Xa ac ?_;refine go ?_;refine Zo hm (fun hb hm=>go ?_) fun hb hm=>go ?_
     ·refine Xa ac<|Xo rfl ?_;obtain ⟨dk,b4,hm⟩:=bZ hm;refine lI b4 ((aw.ks aa).addr b4) ?_;obtain ⟨_,cx,cy⟩:=(aw.ks aa).atN b4;obtain ⟨⟨dl,dm,rfl,dn⟩,_⟩:=cx;refine lW cy.one<|go ?_;refine Zo hm (fun hb hm=>go ?_) fun hb hm=>go ?_
      ·cases hm;exact ⟨rfl,rfl,aa.below⟩
      exact ⟨a6,by omega,rfl,⟨_,_,_,_,rfl,hm,aa,ac,rfl⟩⟩
     cases hm;exact ⟨rfl,rfl,aa.below⟩
def Vu (n:Xe) (f:Int×Int):Bool:=decide (0≤f.1)&&(decide (f.1<(n.2.1.length:Int))&&(decide (0≤f.2)&&decide (f.2<(cnt n f.1.toNat:Int))))
def Zdg (n:Xe) (v:Int):Bool:=decide (0≤v)&&decide (v<(n.2.1.length:Int))
def Ug (n:Xe) (F:List R5) (V:List Int):Int:=
 if F.all (Vu n)=true then if V.all (Zdg n)=true then if (F.map (·.1)++V).Nodup then if 65536<Z6 (Zq n) then 4 else 0 else 40 else 3 else 3
section
variable {N W K:Nat} {n:Xe} (hf:Y4 N n) (hs:W4 n W)
include hf hs
/-! the document -/
omit hs in
theorem Z47 (f:Int×Int):Zip n f=some (!Vu n f):=by
 have hv:=hf.ev.v
 rw [Zip,Vu]
 by_cases h1:f.1<0
 ·rw [if_pos (dT h1),decide_eq_false (show ¬ 0≤f.1 by omega)];rfl
 ·rw [if_neg (dF h1),decide_eq_true (show 0≤f.1 by omega),Bool.true_and]
  by_cases h2:(n.2.1.length:Int)≤f.1
  ·rw [if_pos (dT h2),decide_eq_false (show ¬ f.1<(n.2.1.length:Int) by omega)];rfl
  ·rw [if_neg (dF h2),decide_eq_true (show f.1<(n.2.1.length:Int) by omega),Bool.true_and]
   by_cases h3:f.2<0
   ·rw [if_pos (dT h3),decide_eq_false (show ¬ 0≤f.2 by omega)];rfl
   ·have hat:Zj n.2.2.1 f.1=some (n.2.2.1.getD f.1.toNat []):=by
     have:=Vk (l:=n.2.2.1) [] (j:=f.1.toNat) (by omega)
     rwa [show ((f.1.toNat:Nat):Int)=f.1 by omega] at this
    rw [if_neg (dF h3),decide_eq_true (show 0≤f.2 by omega),Bool.true_and,hat,oB,Zft]
    rw [show ((n.2.2.1.getD f.1.toNat []).length:Int)=(cnt n f.1.toNat:Int) from rfl]
    by_cases h4:f.2<(cnt n f.1.toNat:Int)
    ·rw [decide_eq_true h4,decide_eq_false (by omega)];rfl
    ·rw [decide_eq_false h4,decide_eq_true (by omega)];rfl
theorem Zxe:∀ (f v c:Nat),v≤n.2.1.length→n.2.1.length<f+v→0<c→c≤65536→Zfd N n f (c:Int) (v:Int)=some (if 65536<c * Z6 ((Zq n).drop v) then 4 else 0)
 | 0,v,c,h1,h2,_,_=>by omega
 | f+1,v,c,h1,h2,h0,h3=>by
  have hv:=hf.ev.v;have hle:=hf.le
  have hsz:(Zq n).length=n.2.1.length:=by rw [Zq,List.length_map,hv]
  rw [Zfd.eq_2]
  by_cases hk:v<n.2.1.length
  ·have hk1:v<n.2.2.1.length:=by omega
   have hl:=hs.vl _ (List.getElem_mem hk1)
   have hne:=List.length_pos_iff.2 (hf.ev.ne _ (List.getElem_mem hk1))
   have hm:c * n.2.2.1[v].length≤65536 * 1048576:=Nat.mul_le_mul h3 hl
   have e:(c:Int) * (n.2.2.1[v].length:Int)=((c * n.2.2.1[v].length:Nat):Int):=(Int.natCast_mul _ _).symm
   have hdr:(Zq n).drop v=n.2.2.1[v].length :: (Zq n).drop (v+1):=by
    rw [List.drop_eq_getElem_cons (by omega)]
    simp only [Zq,List.getElem_map]
   have hpp:=Zf2 ((Zq n).drop (v+1)) fun s h=>S4 hf s (List.mem_of_mem_drop h)
   have hpos:0<c * n.2.2.1[v].length:=Nat.mul_pos h0 hne
   rw [if_pos (dT (by omega)),Zy hk1,oB,e,Zr (by omega),hdr,Z6,← Nat.mul_assoc]
   by_cases h4:65536<((c * n.2.2.1[v].length:Nat):Int)
   ·have:c * n.2.2.1[v].length≤c * n.2.2.1[v].length * Z6 ((Zq n).drop (v+1)):=Nat.le_mul_of_pos_right _ hpp
    rw [if_pos (dT h4),if_pos (by omega)]
   ·rw [if_neg (dF h4),wS (by omega)]
    exact Zxe f (v+1) _ (by omega) (by omega) hpos (by omega)
  ·rw [if_neg (dF (by omega)),List.drop_eq_nil_of_le (by omega),Z6,Nat.mul_one,if_neg (by omega)]
omit hf hs in
theorem Zyp (all:List Int) (hl:all.length≤4194304) (i:Nat) (hi:i<all.length) (kk:Int→Option Int):∀ (f k:Nat),k≤i→i<f+k→all[i] ∉ all.take k→Zfc N all (i:Int) kk f (k:Int)=if all[i] ∈ all.take i then some 40 else kk ((i:Int)+1)
 | 0,k,h1,h2,_=>by omega
 | f+1,k,h1,h2,h3=>by
  rw [Zfc.eq_2]
  by_cases hk:k<i
  ·rw [if_pos (dT (by omega)),Zy hi,oB,Zy (show k<all.length by omega),oB]
   by_cases he:all[i]=all[k]
   ·have:all[i] ∈ all.take i:=by
     rw [he,List.mem_take_iff_getElem]
     exact ⟨k,by omega,rfl⟩
    rw [if_pos (dT he),if_pos this]
   ·rw [if_neg (dF he),wS (by omega)]
    refine Zyp all hl i hi kk f (k+1) (by omega) (by omega) ?_
    rw [List.take_succ_eq_append_getElem (show k<all.length by omega),List.mem_append,List.mem_singleton]
    exact fun h=>h.elim h3 he
  ·have:k=i:=by omega
   subst this
   rw [if_neg (dF (by omega)),if_neg h3,wS (by omega)]
   rfl
theorem Zyo (all:List Int) (hl:all.length≤4194304) (hNl:4194305<N):∀ (f i:Nat),i≤all.length→all.length<f+i→(all.take i).Nodup→Zbu N n all f (i:Int)=some (if all.Nodup then if 65536<Z6 (Zq n) then 4 else 0 else 40)
 | 0,i,h1,h2,_=>by omega
 | f+1,i,h1,h2,h3=>by
  rw [Zbu.eq_2]
  by_cases hi:i<all.length
  ·have h4:=Zyp (N:=N) all hl i hi (Zbu N n all f) N 0 (Nat.zero_le _) (by omega) (by simp)
   rw [show ((0:Nat):Int)=0 from rfl] at h4
   have hst:=Zvk all i hi
   rw [if_pos (dT (by omega)),h4]
   by_cases hm:all[i] ∈ all.take i
   ·have:¬ all.Nodup:=fun h=>(hst.1 (h.sublist (List.take_sublist _ _))).2 hm
    rw [if_pos hm,if_neg this]
   ·rw [if_neg hm,show (i:Int)+1=((i+1:Nat):Int) by omega]
    exact Zyo all hl hNl f (i+1) (by omega) (by omega) (hst.2 ⟨h3,hm⟩)
  ·have hle:=hf.le
   have h5:=Zxe hf hs N 0 1 (Nat.zero_le _) (by omega) (by decide) (by decide)
   rw [List.drop_zero,Nat.one_mul] at h5
   rw [List.take_of_length_le (by omega)] at h3
   rw [if_neg (dF (by omega)),if_pos h3]
   exact h5
theorem Zyq (V:List Int) (hV:V.length≤1048576) (hNl:4194305<N):∀ (f i:Nat) (all:List Int),i≤V.length→V.length<f+i→all.length≤3145728+i→Zbt N n V f (i:Int) all=some (if (V.drop i).all (Zdg n)=true then if (all++V.drop i).Nodup then if 65536<Z6 (Zq n) then 4 else 0 else 40 else 3)
 | 0,i,all,h1,h2,_=>by omega
 | f+1,i,all,h1,h2,h3=>by
  rw [Zbt.eq_2]
  by_cases hi:i<V.length
  ·rw [if_pos (dT (by omega)),Zy hi,oB,List.drop_eq_getElem_cons hi,List.all_cons,Zdg]
   by_cases g1:V[i]<0
   ·rw [if_pos (dT g1),Zig,if_pos rfl,decide_eq_false (show ¬ 0≤V[i] by omega)];rfl
   ·rw [if_neg (by rw [decide_eq_false g1];decide),decide_eq_true (show 0≤V[i] by omega),Bool.true_and,Zig]
    by_cases g2:(n.2.1.length:Int)≤V[i]
    ·rw [if_pos (dT g2),decide_eq_false (show ¬ V[i]<(n.2.1.length:Int) by omega)];rfl
    ·rw [if_neg (by rw [decide_eq_false g2];decide),decide_eq_true (show V[i]<(n.2.1.length:Int) by omega),Bool.true_and,Zy hi,oB,Zz (by simp only [List.length_singleton,maxLen];omega),wS (by omega),
      Zyq V hV hNl f (i+1) (all++[V[i]]) (by omega) (by omega) (by rw [nA,List.length_singleton];omega),List.append_assoc,List.singleton_append]
  ·have h5:=Zyo hf hs all (by omega) hNl N 0 (Nat.zero_le _) (by omega) (by simp)
   rw [if_neg (dF (by omega)),List.drop_eq_nil_of_le (by omega),List.all_nil,if_pos rfl,List.append_nil]
   exact h5
theorem Zxt (F:List R5) (V:List Int) (hF:F.length≤2097152) (hV:V.length≤1048576) (hNl:4194305<N):∀ (f i:Nat) (all:List Int),i≤F.length→F.length<f+i→all.length=i→Zfb N n F V f all (i:Int)=some (if (F.drop i).all (Vu n)=true then if V.all (Zdg n)=true then if (all++(F.drop i).map (·.1)++V).Nodup then if 65536<Z6 (Zq n) then 4 else 0 else 40 else 3 else 3)
 | 0,i,all,h1,h2,_=>by omega
 | f+1,i,all,h1,h2,h3=>by
  rw [Zfb.eq_2]
  by_cases hi:i<F.length
  ·have hn:Zip (n.1,n.2.1,n.2.2.1,n.2.2.2.1,n.2.2.2.2) (F[i].1,F[i].2)=some (!Vu n F[i]):=Z47 hf F[i]
   rw [if_pos (dT (by omega)),Zy hi,oB,hn,oB,List.drop_eq_getElem_cons hi,List.all_cons,List.map_cons]
   by_cases g:Vu n F[i]=true
   ·rw [if_neg (by rw [g];decide),Zz (by simp only [List.length_singleton,maxLen];omega),wS (by omega),g,Bool.true_and,Zxt F V hF hV hNl f (i+1) (all++[F[i].1]) (by omega) (by omega) (by rw [nA,List.length_singleton];omega),List.append_assoc all,List.singleton_append]
   ·have g':Vu n F[i]=false:=by simpa using g
    rw [if_pos (by rw [g'];rfl),g',Bool.false_and];rfl
  ·have h5:=Zyq hf hs V hV hNl N 0 all (Nat.zero_le _) (by omega) (by omega)
   rw [List.drop_zero] at h5
   rw [if_neg (dF (by omega)),List.drop_eq_nil_of_le (by omega),List.all_nil,if_pos rfl,List.map_nil,List.append_nil]
   exact h5
/-! the program -/
omit hf hs in
theorem Zv6:∀ (ss:List Nat) (c:Nat),0<c→c≤2147483647→(∀ s ∈ ss,0<s)→∃ a b,Ss (X8 ss) (c:Int)=some (a,b)∧((b=0∧a=((c * Z6 ss:Nat):Int))∨(b≠0∧65536<c * Z6 ss))
 | [],c,_,_,_=>⟨_,_,by rw [X8,List.map_nil,Ss.eq_1],.inl ⟨rfl,by rw [Z6,Nat.mul_one]⟩⟩
 | s :: ss,c,hc,hcm,hs=>by
  have hp:=Zf2 ss fun x hx=>hs x (List.mem_cons_of_mem _ hx)
  have h0:=hs s List.mem_cons_self
  have e:Int.tdiv 2147483647 (c:Int)=((2147483647 / c:Nat):Int):=rfl
  have h3:2147483647 / c≤2147483647:=Nat.div_le_self _ _
  have e2:(c:Int) * (s:Int)=((c * s:Nat):Int):=(Int.natCast_mul c s).symm
  have hw:i64.wrap ((2147483647 / c:Nat):Int)=((2147483647 / c:Nat):Int):=by
   generalize 2147483647 / c=z at h3 ⊢
   exact Zr (by omega)
  rw [X8,List.map_cons,Ss.eq_2,Zz (by omega),e,hw,Z6,← Nat.mul_assoc]
  by_cases h:2147483647 / c<s
  ·have h4:2147483647<c * s:=by
    have:=(Nat.div_lt_iff_lt_mul hc).1 h
    rwa [Nat.mul_comm] at this
   have h5:c * s≤c * s * Z6 ss:=Nat.le_mul_of_pos_right _ hp
   rw [if_pos (dT (Int.ofNat_lt.2 h))]
   exact ⟨_,_,rfl,.inr ⟨by decide,by omega⟩⟩
  ·have h4:c * s≤2147483647:=by
    have:=(Nat.le_div_iff_mul_le hc).1 (Nat.not_lt.1 h)
    rwa [Nat.mul_comm] at this
   rw [if_neg (by rw [decide_eq_false fun g=>h (Int.ofNat_lt.1 g)];decide),e2,Zr (by omega)]
   exact Zv6 ss (c * s) (Nat.mul_pos hc h0) h4 fun x hx=>hs x (List.mem_cons_of_mem _ hx)
omit hs in
theorem Zv5:∀ (l S:List Int) (seen:List Bool),seen.length=n.2.1.length→(∀ x ∈ l,0≤x∧x<(n.2.1.length:Int))→S.Nodup→(∀ i,i<n.2.1.length→(seen.getD i false=true↔(i:Int) ∈ S))→
  ∃ a e,Qj (X8 (Zq n)) l seen=some (a,e)∧e=(if (S++l).Nodup then if 65536<Z6 (Zq n) then 4 else 0 else 40)∧(e=0→a=X8 (Zq n))
 | [],S,seen,hsl,hl,hS,hseen=>by
  obtain ⟨a,b,c1,c2⟩:=Zv6 (Zq n) 1 (by decide) (by decide) (S4 hf)
  rw [Nat.one_mul] at c2
  have ct:Zc9 (X8 (Zq n))=some (a,b):=by
   rw [Zc9,Zqj _ (Zq n) (S4 hf)];exact c1
  rw [Qj.eq_1,ct,oB,List.append_nil,if_pos hS]
  dsimp only
  rcases c2 with ⟨hb,ha⟩ | ⟨hb,hlt⟩
  ·subst hb ha
   rw [if_neg (show ¬ (!decide ((0:Int)=0))=true by decide)]
   by_cases h:65536<Z6 (Zq n)
   ·rw [decide_eq_true (by omega),Zcg,if_pos rfl,if_pos h]
    exact ⟨_,_,rfl,rfl,fun h=>by cases h⟩
   ·rw [decide_eq_false (by omega),Zcg,if_neg (by decide),if_neg h]
    exact ⟨_,_,rfl,rfl,fun _=>rfl⟩
  ·rw [if_pos (by rw [decide_eq_false hb];rfl),Zcg,if_pos rfl,if_pos hlt]
   exact ⟨_,_,rfl,rfl,fun h=>by cases h⟩
 | x :: l,S,seen,hsl,hl,hS,hseen=>by
  have hx:=hl x List.mem_cons_self
  obtain ⟨i,rfl⟩:∃ i:Nat,x=(i:Int):=⟨x.toNat,by omega⟩
  have hi:i<n.2.1.length:=by omega
  have hiff:=hseen i hi
  rw [Qj.eq_2,Vk false (by omega),oB]
  by_cases hm:(i:Int) ∈ S
  ·rw [if_pos (hiff.2 hm),if_neg (fun h=>by
    rw [List.nodup_append] at h
    exact h.2.2 _ hm _ List.mem_cons_self rfl)]
   exact ⟨_,_,rfl,rfl,fun h=>by cases h⟩
  ·have hs':seen.getD i false=false:=by
    cases h:seen.getD i false with
    | false=>rfl
    | true=>exact absurd (hiff.1 h) hm
   rw [if_neg (by rw [hs'];decide),oB,Int.toNat_natCast]
   have ih:=Zv5 l (S++[(i:Int)]) (seen.set i true) (by rw [nS];exact hsl) (fun y hy=>hl y (List.mem_cons_of_mem _ hy)) (by
    rw [List.nodup_append]
    refine ⟨hS,by simp,fun a ha b hb=>?_⟩
    rw [List.mem_singleton] at hb
    intro e
    exact hm (by rw [← hb,← e];exact ha)) fun j hj=>by
    rw [Qh seen false i _ _ (by omega),List.mem_append,List.mem_singleton]
    by_cases e:j=i
    ·rw [if_pos e]
     exact ⟨fun _=>.inr (by rw [e]),fun _=>rfl⟩
    ·rw [if_neg e,hseen j hj]
     exact ⟨.inl,fun h=>h.elim id fun h=>absurd (by omega) e⟩
   rwa [List.append_assoc,List.singleton_append] at ih
omit hs in
theorem Zv4:∀ (F:List R5) (V:List Int),V.length+F.length≤4194304→Za3 (X8 (Zq n)) F V=Qj (X8 (Zq n)) (V++F.map (·.1)) (List.replicate (X8 (Zq n)).length false)
 | [],V,_=>by rw [Za3.eq_1,List.map_nil,List.append_nil]
 | f :: F,V,h=>by
  have hv:=hf.ev.v;have hle:=hf.le
  rw [nC] at h
  have tk:V.take (Int.toNat (V.length:Int))=V:=by rw [Int.toNat_natCast,List.take_length]
  rw [Za3.eq_2,tk,Zz (by omega),Zz (by simp only [List.length_singleton,maxLen];omega),Zv4 F (V++[f.1]) (by rw [nA,List.length_singleton];omega),List.append_assoc,List.map_cons,List.singleton_append]
omit hs in
theorem Zv3 (F:List R5) (V:List Int) (hl:V.length+F.length≤4194304):∀ l:List Int,Sj F V (X8 (Zq n)) l=if l.all (Zdg n)=true then Qj (X8 (Zq n)) (V++F.map (·.1)) (List.replicate (X8 (Zq n)).length false) else some ([],3)
 | []=>by
  have hv:=hf.ev.v;have hle:=hf.le
  have hlen:(X8 (Zq n)).length=n.2.1.length:=by rw [X8,Zq,List.length_map,List.length_map,hv]
  rw [Sj.eq_1,Zz (by rw [hlen];simp only [maxLen];omega),Zv4 hf F V hl,List.all_nil,if_pos rfl]
 | x :: l=>by
  have hv:=hf.ev.v
  have hlen:(X8 (Zq n)).length=n.2.1.length:=by rw [X8,Zq,List.length_map,List.length_map,hv]
  have ih:=Zv3 F V hl l
  rw [hlen] at ih
  rw [Sj.eq_2,List.all_cons,Zdg,hlen]
  by_cases g1:x<0
  ·rw [if_pos (dT g1),Zgz,if_pos rfl,decide_eq_false (show ¬ 0≤x by omega)];rfl
  ·rw [if_neg (by rw [decide_eq_false g1];decide),decide_eq_true (show 0≤x by omega),Bool.true_and,Zgz]
   by_cases g2:(n.2.1.length:Int)≤x
   ·rw [if_pos (dT g2),decide_eq_false (show ¬ x<(n.2.1.length:Int) by omega)];rfl
   ·rw [if_neg (by rw [decide_eq_false g2];decide),decide_eq_true (show x<(n.2.1.length:Int) by omega),Bool.true_and]
    exact ih
omit hs in
theorem Zv2 (F:List R5) (V:List Int):∀ l:List R5,Tv F V (X8 (Zq n)) l=if l.all (Vu n)=true then Sj F V (X8 (Zq n)) V else some ([],3)
 | []=>by rw [Tv.eq_1,List.all_nil,if_pos rfl]
 | f :: l=>by
  have hv:=hf.ev.v
  have hlen:(X8 (Zq n)).length=n.2.1.length:=by rw [X8,Zq,List.length_map,List.length_map,hv]
  have ih:=Zv2 F V l
  rw [Tv.eq_2,List.all_cons,Vu,hlen]
  by_cases h1:f.1<0
  ·rw [if_pos (dT h1),Zad,if_pos rfl,decide_eq_false (show ¬ 0≤f.1 by omega)];rfl
  ·rw [if_neg (dF h1),decide_eq_true (show 0≤f.1 by omega),Bool.true_and]
   by_cases h2:(n.2.1.length:Int)≤f.1
   ·rw [if_pos (dT h2),Zad,if_pos rfl,decide_eq_false (show ¬ f.1<(n.2.1.length:Int) by omega)];rfl
   ·rw [if_neg (dF h2),decide_eq_true (show f.1<(n.2.1.length:Int) by omega),Bool.true_and]
    by_cases h3:f.2<0
    ·rw [if_pos (dT h3),Zad,if_pos rfl,decide_eq_false (show ¬ 0≤f.2 by omega)];rfl
    ·have hk:f.1.toNat<(Zq n).length:=by rw [Zq,List.length_map];omega
     have hat:Zj (X8 (Zq n)) f.1=some (cnt n f.1.toNat:Int):=by
      have h:=Zy9 hk
      rw [show ((f.1.toNat:Nat):Int)=f.1 by omega] at h
      rw [h]
      have hk1:f.1.toNat<n.2.2.1.length:=by omega
      congr 2
      rw [cnt,Yb hk,Yb hk1]
      simp only [Zq,List.getElem_map]
     rw [if_neg (dF h3),decide_eq_true (show 0≤f.2 by omega),Bool.true_and,hat,oB,Zad]
     by_cases h4:f.2<(cnt n f.1.toNat:Int)
     ·rw [decide_eq_true h4,decide_eq_false (by omega),if_neg (by decide),Bool.true_and]
      exact ih
     ·rw [decide_eq_false h4,decide_eq_true (by omega),if_pos rfl];rfl
theorem Zl6 (hr:Xh N (8 * W+40)) (hN:4194305<N) (F:List R5) (V:List Int) (hF:F.length≤2097152) (hV:V.length≤1048576) (hR:Zcy N n=some 0):
  Vt N n F V=some (Ug n F V)∧∃ a,Tj N n F V=some (a,Ug n F V)∧(Ug n F V=0→a=X8 (Zq n)):=by
 have hv:=hf.ev.v;have hle:=hf.le
 have hlen:(X8 (Zq n)).length=n.2.1.length:=by rw [X8,Zq,List.length_map,List.length_map,hv]
 constructor
 ·have hR':Zcy N (n.1,n.2.1,n.2.2.1,n.2.2.2.1,n.2.2.2.2)=some 0:=hR
  have h:=Zxt hf hs F V hF hV hN N 0 [] (Nat.zero_le _) (by omega) rfl
  rw [List.drop_zero,List.nil_append] at h
  rw [Vt,hR',oB,if_neg (by decide)]
  exact h
 ·have hC:Tw N (n.1,n.2.1,n.2.2.1,n.2.2.2.1,n.2.2.2.2)=some 0:=Zou hf hs hr (by omega)
  have sz:Zea (n.1,n.2.1,n.2.2.1,n.2.2.2.1,n.2.2.2.2)=some (X8 (Zq n)):=by
   have:=Zpa n.2.2.1 [] (by simp only [nN];omega)
   rw [List.nil_append] at this
   rw [Zea];exact this
  rw [Tj,hC,oB,if_neg (by decide),sz,oB,Zv2 hf,Ug]
  by_cases g1:F.all (Vu n)=true
  ·rw [if_pos g1,if_pos g1,Zv3 hf F V (by omega)]
   by_cases g2:V.all (Zdg n)=true
   ·rw [if_pos g2,if_pos g2]
    have hrg:∀ x ∈ V++F.map (·.1),0≤x∧x<(n.2.1.length:Int):=fun x hx=>by
     rcases List.mem_append.1 hx with h | h
     ·have:=List.all_eq_true.1 g2 x h
      simp only [Zdg,Bool.and_eq_true,decide_eq_true_eq] at this
      exact this
     ·obtain ⟨f,hf',rfl⟩:=List.mem_map.1 h
      have:=List.all_eq_true.1 g1 f hf'
      simp only [Vu,Bool.and_eq_true,decide_eq_true_eq] at this
      exact ⟨this.1,this.2.1⟩
    obtain ⟨a,e,h1,h2,h3⟩:=Zv5 hf (V++F.map (·.1)) [] (List.replicate (X8 (Zq n)).length false) (by rw [List.length_replicate,hlen]) hrg List.nodup_nil fun i hi=>by
     rw [List.getD_eq_getElem?_getD,List.getElem?_replicate,hlen,if_pos hi]
     simp
    have hsw:(V++F.map (·.1)).Nodup↔(F.map (·.1)++V).Nodup:=List.perm_append_comm.nodup_iff
    rw [List.nil_append] at h2
    simp only [hsw] at h2
    subst h2
    exact ⟨a,h1,h3⟩
   ·rw [if_neg g2,if_neg g2]
    exact ⟨_,rfl,fun h=>by cases h⟩
  ·rw [if_neg g1,if_neg g1]
   exact ⟨_,rfl,fun h=>by cases h⟩
end
/-! the probability is the interval's length -/
/-! a common denominator -/
def Uj:List (List QV)→Nat
 | []=>1
 | t :: T=>Ts t * Uj T
theorem Zly:∀ T:List (List QV),Uj T≠0
 | []=>by simp [Uj]
 | t :: T=>Nat.mul_ne_zero (Zl1 t) (Zly T)
theorem Zsl {W:Nat}:∀ T:List (List QV),(∀ t ∈ T,Xz t≤W∧∀ x ∈ t,Wy x)→(Ze (Uj T)).length≤T.length * (W+1)+1
 | [],_=>by rw [Uj,Sg];simp
 | t :: T,h=>by
  obtain ⟨h1,h2⟩:=h t List.mem_cons_self
  have h3:=Zsx t h2
  have h4:=Zsl T fun u hu=>h u (List.mem_cons_of_mem _ hu)
  have h5:=Uu (Ts t) (Uj T)
  rw [Uj,nC,Nat.add_mul,Nat.one_mul];omega
theorem Zsw {x:QV}:∀ t:List QV,x ∈ t→∃ E,E≠0∧Ts t=Xw x.2 * E
 | y :: t,h=>by
  rcases List.mem_cons.1 h with rfl | h
  ·exact ⟨Ts t,Zl1 t,rfl⟩
  ·obtain ⟨E,h1,h2⟩:=Zsw t h
   exact ⟨Xw y.2 * E,Nat.mul_ne_zero (Uk _) h1,by rw [Ts,h2,Nat.mul_left_comm]⟩
section
variable {N:Nat} {n:Xe} (hf:Y4 N n)
include hf
theorem Zwc {w:List Int} (hw:Uq n w):∀ (T:List (List QV)) (k:Nat) (q:Rat) (D:Nat),n.2.2.2.2.drop k=T→D≠0→Bd D 1 q→Bd (D * Uj T) 1 (Vv n w T.length k q)
 | [],k,q,D,_,_,h=>by rw [Uj,Nat.mul_one];exact h
 | t :: T,k,q,D,hd,hD,h=>by
  have hk:k<n.2.2.2.2.length:=by
   rcases Nat.lt_or_ge k n.2.2.2.2.length with h | h
   ·exact h
   ·rw [List.drop_eq_nil_of_le h] at hd;cases hd
  have hv:k<n.2.1.length:=by have:=hf.ev.t;omega
  rw [List.drop_eq_getElem_cons hk] at hd
  obtain ⟨e1,e2⟩:=List.cons.inj hd
  have hwk:=hw.ok k (by rw [hw.len];exact hv)
  have hq:(w.getD k 0).toNat<(Vo n w k).length:=by rw [hf.rowT_len hw hv];omega
  have hmem:=Zm4 (List.getElem_mem hq)
  have hent:=hf.ent hv _ hmem
  rw [Yb hk,e1] at hmem
  obtain ⟨E,h1,h2⟩:=Zsw t hmem
  have hb:=(Zz0 hent.1 hent.2).lift E (Uk _) h1
  rw [← h2] at hb
  have he:ent n w k=Z5 (Vo n w k)[(w.getD k 0).toNat]:=by rw [ent,Yb hq]
  have hm:=h.mul hb
  rw [Nat.one_mul,← he] at hm
  have:=Zwc hw T (k+1) (q * ent n w k) (D * Ts t) e2 (Nat.mul_ne_zero hD (Zl1 t)) hm
  rw [nC,Vv,Uj,← Nat.mul_assoc]
  exact this
theorem Zwd {w:List Int} (hw:Uq n w):Bd (Uj n.2.2.2.2) 1 (Vv n w n.2.1.length 0 1):=by
 have:=Zwc hf hw n.2.2.2.2 0 1 1 (by rw [List.drop_zero]) (by decide) Bd.one
 rw [hf.ev.t,Nat.one_mul] at this
 exact this
end
def Zc1 (N:Nat) (aa:R0):Nat→Rd→R8→R2→Bool→Option (Rd×R8)
  | 0,_,_,_,_=>none
  | ag+1,ad,ae,ac,ah=>if ah=true then (Zv ((ad.length+[ac].length) * 24≤140737488355328∧ad.length+[ac].length≤maxLen) ((Zif N (aa.1,aa.2.1,aa.2.2.1,aa.2.2.2.1,aa.2.2.2.2) ac).bind fun ab=>Zv ((ae.length+[((ab.1.1,ab.1.2),ab.2)].length) * 56≤140737488355328∧ae.length+[((ab.1.1,ab.1.2),ab.2)].length≤maxLen) ((Zim N (aa.1,aa.2.1,aa.2.2.1,aa.2.2.2.1,aa.2.2.2.2) ac).bind fun af=>(Zc1 N aa ag) (ad++[ac]) (ae++[((ab.1.1,ab.1.2),ab.2)]) af.1 af.2))) else (some (ad,ae))
termination_by structural x=>x
def Zie (N:Nat) (aa:R0):Option (Rd×R8):=
  (Vt N (aa.1,aa.2.1,aa.2.2.1,aa.2.2.2.1,aa.2.2.2.2) ([]:List R5) ([]:List Int)).bind fun ab=>if (!decide (ab=0))=true then (some (([]:List R2),([]:List R1))) else (Zv (aa.2.1.length * 8≤281474976710656∧aa.2.1.length≤maxLen) (Zc1 N aa N ([]:List R2) ([]:List R1) (List.replicate aa.2.1.length (0:Int)) true))
theorem Z1o {N ay az a0 a1:Nat} {a2 a3 a4 a5:Option Addr} {col:Zd} {w0:World} {ac:R0} {r:(Rd×R8)} (c1 c2:Nat) (hm:Zie N ac=some r) (am:Sl Za.str col w0 a2 ay ac.2.1) (an:Sl (Za.slice Za.str) col w0 a3 az ac.2.2.1) (ao:Sl (Za.slice (Za.int .i64)) col w0 a4 a0 ac.2.2.2.1) (ap:Sl (Za.slice (Za.pair (Za.pair Za.bool (Za.slice (Za.int .u32))) (Za.slice (Za.int .u32)))) col w0 a5 a1 ac.2.2.2.2):
    Calls prog 48 #[(.agg #[.string ac.1,.slice a2 ac.2.1.length ay,.slice a3 ac.2.2.1.length az,.slice a4 ac.2.2.2.1.length a0,.slice a5 ac.2.2.2.2.length a1])] w0 (fun e w'=>∃ (col':Zd) (ra1:Option Addr) (rc2:Nat) (ra4:Option Addr) (rc5:Nat),e= .returned (.tuple #[.slice ra1 r.1.length rc2,.slice ra4 r.2.length rc5])∧Zg col w0 col' w'∧Zc (Za.slice (Za.int .i64)) 40 c1 col' w' ra1 rc2 r.1∧Zc (Za.pair (Za.pair Za.bool (Za.row 79 (Za.int .u32))) (Za.row 79 (Za.int .u32))) 47 c2 col' w' ra4 rc5 r.2):=by
 refine Zdr 2 3 (m:=34) (args:=[(.agg #[.string ac.1,.slice a2 ac.2.1.length ay,.slice a3 ac.2.2.1.length az,.slice a4 ac.2.2.2.1.length a0,.slice a5 ac.2.2.2.2.length a1])]) func48 rfl rfl rfl rfl rfl ?_;rw [Zie.eq_1] at hm;have aa:=St.start col w0;refine go ?_;refine Xg (col:=(Zh col)) 1 rfl ?_;intro bu bv bd bw ab;refine go ?_;refine lV _ (Z7 isAgg27 sizeOf27 ab) ?_;obtain ⟨ca,bx,hm⟩:=bZ hm;replace am:=am.keep (Zf.start col w0);replace an:=an.keep (Zf.start col w0);replace ao:=ao.keep (Zf.start col w0);replace ap:=ap.keep (Zf.start col w0);replace aa:=aa.grow bw;refine Zi (Zlw bx (am.ks aa) (an.ks aa) (ao.ks aa) (ap.ks aa) Sl.nil Sl.nil) ?_;rintro _ bk ⟨rfl,a6⟩;refine ⟨_,rfl,?_⟩;replace a6:Zg bd bv bd bk:=.of_below a6;refine go ?_;replace ab:=ab.gr a6;replace aa:=aa.grow a6;refine Zo hm (fun hb hm=>go ?_) fun hb hm=>go ?_
 ·cases hm;exact ⟨rfl,_,none,0,none,0,rfl,aa.fin (cm []),Zc.nil,Zc.nil⟩
 refine Xa ab ?_;refine go ?_;obtain ⟨bm,hm⟩:=Zx hm;refine Sf (col:=bd) (w:=bk) (r:=(Za.int .i64)) (n:=ac.2.1.length) (x0:=0) 2 rfl underlying40 Tryz.t3 rfl rfl rfl rfl rfl rfl rfl bm.1 bm.2 (Uf .i64 0) ?_;intro cb cc cd bn bz;refine go ?_;replace ab:=ab.gr bn;replace aa:=aa.grow bn;refine Zw [1,1000000] (fun n f aj=>∃ ai be bf a7 bg bh a8 aq ar ah bi ak,ak=n∧Zc1 N ac ak a7 a8 ah bi=some r∧St w0 (Zh col) ai aj∧Zm 27 1 ai aj bu #[.string ac.1,.slice a2 ac.2.1.length ay,.slice a3 ac.2.2.1.length az,.slice a4 ac.2.2.2.1.length a0,.slice a5 ac.2.2.2.2.length a1]∧Zc (Za.slice (Za.int .i64)) 40 3 ai aj be bf a7∧Zc (Za.pair (Za.pair Za.bool (Za.row 79 (Za.int .u32))) (Za.row 79 (Za.int .u32))) 47 4 ai aj bg bh a8∧Zc (Za.int .i64) 3 2 ai aj aq ar ah∧[4,5,6,7].map f=[.slice be a7.length bf,.slice bg a8.length bh,.slice aq ah.length ar,.bool bi]) N ⟨_,none,0,_,none,0,_,_,_,_,_,_,rfl,hm,aa,ab,Zc.nil,Zc.nil,bz,rfl⟩ ?_;clear hm;intro n f aj hI;obtain ⟨ai,be,bf,a7,bg,bh,a8,aq,ar,ah,bi,ak,hn,hm,aa,ab,al,ae,ad,hs⟩:=hI;subst hn;refine .lL [4,5,6,7] hs ?_
 cases ak with
 | zero=>rw [Zc1.eq_1] at hm;cases hm
 | succ ak=>
  rw [Zc1.eq_2] at hm;refine go ?_;refine Zo hm (fun hb hm=>go ?_) fun hb hm=>go ?_
  ·replace ae:=ae.froz 2 (by decide);replace ad:=(ad).toSlF (Zn.int .i64);replace al:=al.froz 2 (by decide);replace ab:=ab.froz 2 (by decide);replace aa:=aa.froz 2 (by decide) (by decide);refine Th (col:=(Xq 2 ai)) (r:=(Za.slice (Za.int .i64))) (xs:=[ah]) [.slice aq ah.length ar] 5 (Wm.ofF (Rows.consF (r:=(Za.slice (Za.int .i64))) (x:=ah) (cs:=[.slice aq ah.length ar]) (Zqa ad) Rows.nil0)) ?_;intro ce cf cg au b0;obtain ⟨b1,hm⟩:=Zx hm;replace al:=al.gr au;refine Y3 al (b0.srcN NB.slice) b1 ?_;intro ch ci cj ck a9 ag;refine go ?_;replace ab:=(ab.gr au).kpp a9;refine lV _ (Z7 isAgg27 sizeOf27 ab)<|Yr rfl ?_;obtain ⟨af,b2,hm⟩:=bZ hm;replace ad:=(ad.gr au).kpp a9;replace aa:=(aa.grow au).kpp a9;refine Zi (Z1q 6 7 b2 (am.ks aa) (an.ks aa) (ao.ks aa) (ap.ks aa) ad) ?_;rintro _ cl ⟨b3,bo,bp,bq,br,rfl,av,b4,b5⟩;refine ⟨_,rfl,?_⟩;have b6:=X0.join (X0.joinL (T3 af.1.1) b4.has) b5.has (by decide) (by decide);replace ad:=ad.gr av;replace ad:=ad.recol 7 6 (by decide);replace ag:=ag.gr av;replace ag:=ag.recol 7 6 (by decide);replace ae:=((ae.gr au).kpp a9).gr av;replace ae:=ae.recol 7 6 (by decide);replace ab:=ab.gr av;replace ab:=ab.recol 7 6 (by decide);replace aa:=aa.grow av;replace aa:=aa.recol 7 6 (by decide) (by decide);refine Th (col:=(Xx 7 6 b3)) (r:=(Za.pair (Za.pair Za.bool (Za.row 79 (Za.int .u32))) (Za.row 79 (Za.int .u32)))) (xs:=[((af.1.1,af.1.2),af.2)]) [(.agg #[.bool af.1.1,.slice bo af.1.2.length bp,.slice bq af.2.length br])] 6 (Wm.cons1 (cs:=[.bool af.1.1,.slice bo af.1.2.length bp,.slice bq af.2.length br]) b6 Rows.nil0) ?_;intro cn co cp aw b7;obtain ⟨b8,hm⟩:=Zx hm;replace ae:=ae.gr aw;refine Y3 (c:=4) (c2:=6) ae (b7.srcC (by decide)) b8 ?_;intro cq cr ct cu ba ax;refine go ?_;replace ab:=(ab.gr aw).kpp ba;refine lV _ (Z7 isAgg27 sizeOf27 ab)<|Yr rfl ?_;obtain ⟨bb,b9,hm⟩:=bZ hm;replace ad:=(ad.gr aw).kpp ba;replace aa:=(aa.grow aw).kpp ba;refine Zi (Z1w 8 b9 (am.ks aa) (an.ks aa) (ao.ks aa) (ap.ks aa) ad) ?_;rintro _ cv ⟨cw,bs,bt,rfl,bc,bj⟩;refine ⟨_,rfl,?_⟩
   refine lM (.tuple #[.slice bs bb.1.length bt,.bool bb.2])<|lV (.slice bs bb.1.length bt) (Xv rfl rfl)<|lV (.bool bb.2) (Xv rfl rfl)<|go ?_;replace ag:=((ag.gr aw).kpp ba).gr bc;replace ag:=ag.recol 8 2 (by decide);replace ax:=ax.gr bc;replace ax:=ax.recol 8 2 (by decide);replace bj:=bj.recolSelf 2 (by decide);replace ab:=ab.gr bc;replace ab:=ab.recol 8 2 (by decide);replace aa:=aa.grow bc;replace aa:=aa.recol 8 2 (by decide) (by decide);exact ⟨ak,by omega,rfl,⟨_,_,_,_,_,_,_,_,_,_,_,_,rfl,hm,aa,ab,ag,ax,bj,rfl⟩⟩
  cases hm;exact ⟨rfl,_,_,_,_,_,rfl,aa.fin (cm [(3,c1),(4,c2)]),aa.fo al,aa.fo ae⟩
def Zfs (N:Nat) (ac:List Int) (aa:Rc):Nat→Int→Option Bool
  | 0,_=>none
  | ae+1,ab=>if (decide (ab<(aa.length:Int)))=true then ((Zj aa ab).bind fun ad=>(Zj ac ad.1).bind fun af=>if (!decide (af=ad.2))=true then (some false) else ((Zfs N ac aa ae) (i64.wrap (ab+1)))) else (some true)
termination_by structural x=>x
def Zmu (N:Nat) (aa:List Int) (ab:Rc):Option Bool:=
  Zfs N aa ab N 0
theorem Z1z {N ai aj:Nat} {a0 a1:Option Addr} {col:Zd} {w0:World} {ae:R2} {af:Rc} {r:Bool} (hm:Zmu N ae af=some r) (h0:Sl (Za.int .i64) col w0 a0 ai ae) (h1:Sl (Za.pair (Za.int .i64) (Za.int .i64)) col w0 a1 aj af):
    Calls prog 166 #[.slice a0 ae.length ai,.slice a1 af.length aj] w0 (fun e w'=>e= .returned ((.bool r))∧Below w0.heap.size w0 w'):=by
 refine Xc 4 (m:=26) func166 rfl rfl rfl rfl rfl ?_;rw [Zmu.eq_1] at hm;have aa:=St.start col w0;refine go ?_;refine Zw [0,1,1000000] (fun n f ak=>∃ ac ag ad,ad=n∧Zfs N ae af ad ag=some r∧St w0 (Zh col) ac ak∧[5].map f=[.int .i64 ag]) N ⟨_,0,_,rfl,hm,aa,rfl⟩ ?_;clear hm;intro n f ak hI;obtain ⟨ac,ag,ad,hn,hm,aa,hs⟩:=hI;subst hn;refine .lL [5] hs ?_;replace h0:=h0.keep (Zf.start col w0);replace h1:=h1.keep (Zf.start col w0)
 cases ad with
 | zero=>rw [Zfs.eq_1] at hm;cases hm
 | succ ad=>
  rw [Zfs.eq_2] at hm;refine go ?_;refine Zo hm (fun hb hm=>go ?_) fun hb hm=>go ?_
  ·refine Wd (col:=ac) (by kernel_rfl) (by kernel_rfl)<|go ?_;obtain ⟨av,ab,hm⟩:=bZ hm;refine qI ab ((h1.ks aa).addr ab)<|qF (X2 ((h1.ks aa).addr ab)) ?_;obtain ⟨_,al,am⟩:=(h1.ks aa).atN ab;obtain ⟨_,_,rfl,an,ao⟩:=Yi al;obtain ⟨rfl,_⟩:=an;obtain ⟨rfl,_⟩:=ao;refine qW (fun _ hC=>((am).nth (q:=0) rfl).gr (hC.bl ac)) ?_;obtain ⟨aw,ah,hm⟩:=bZ hm;refine qI ah ((h0.ks aa).addr ah)<|qW (fun _ hC=>((h0.ks aa).gr (hC.bl ac)).atInt ah) ?_;refine go ?_;refine qI ab ((h1.ks aa).addr ab)<|qF (X2 ((h1.ks aa).addr ab)) ?_;obtain ⟨_,ap,aq⟩:=(h1.ks aa).atN ab;obtain ⟨_,_,rfl,ar,au⟩:=Yi ap;obtain ⟨rfl,_⟩:=ar;obtain ⟨rfl,_⟩:=au;refine qW (fun _ hC=>((aq).nth (q:=1) rfl).gr (hC.bl ac)) ?_;refine go ?_;refine X7 ?_;intro ax hC;replace hC:=hC.bl ac;replace aa:=aa.grow hC;refine Zo hm (fun hb hm=>go ?_) fun hb hm=>go ?_
   ·cases hm;exact ⟨rfl,rfl,aa.below⟩
   exact ⟨ad,by omega,rfl,⟨_,_,_,rfl,hm,aa,rfl⟩⟩
  cases hm;exact ⟨rfl,rfl,aa.below⟩
def Ziq (aa:Int) (kk_L1:(Bool→R2→R2→Int→Option R1)) (ab:Bool) (ac:List Int) (ad:List Int):Option R1:=
  kk_L1 ab ac ad (i64.wrap (aa+1))
def Zao (N:Nat) (ac:Rc) (aa:(Rd×R8)):Nat→Bool→R2→R2→Int→Option R1
  | 0,_,_,_,_=>none
  | ai+1,ad,ae,af,ab=>if (decide (ab<(aa.1.length:Int)))=true then ((Zj aa.1 ab).bind fun aj=>(Zmu N aj ac).bind fun ak=>if ak=true then ((Zj aa.2 ab).bind fun ag=>(Zey N ((ad,ae),af) ((ag.1.1,ag.1.2),ag.2)).bind fun ah=>Ziq ab (Zao N ac aa ai) ah.1.1 ah.1.2 ah.2) else (Ziq ab (Zao N ac aa ai) ad ae af)) else (some ((ad,ae),af))
termination_by structural x=>x
def Zan (N:Nat) (aa:R0) (ac:Rc):Option R1:=
  (Zie N (aa.1,aa.2.1,aa.2.2.1,aa.2.2.2.1,aa.2.2.2.2)).bind fun ad=>(Zah N 0 1).bind fun ab=>Zao N ac ad N ab.1.1 ab.1.2 ab.2 0
theorem Zoq {N b0 b1 b2 b3 b4:Nat} {b5 b6 b7 b8 a1:Option Addr} {col:Zd} {w0:World} {ai:R0} {ay:Rc} {r:R1} (c1 c2:Nat) (hm:Zan N ai ay=some r) (bc:Sl Za.str col w0 b5 b0 ai.2.1) (bd:Sl (Za.slice Za.str) col w0 b6 b1 ai.2.2.1) (be:Sl (Za.slice (Za.int .i64)) col w0 b7 b2 ai.2.2.2.1) (bf:Sl (Za.slice (Za.pair (Za.pair Za.bool (Za.slice (Za.int .u32))) (Za.slice (Za.int .u32)))) col w0 b8 b3 ai.2.2.2.2) (h1:Sl (Za.pair (Za.int .i64) (Za.int .i64)) col w0 a1 b4 ay):
    Calls prog 147 #[(.agg #[.string ai.1,.slice b5 ai.2.1.length b0,.slice b6 ai.2.2.1.length b1,.slice b7 ai.2.2.2.1.length b2,.slice b8 ai.2.2.2.2.length b3]),.slice a1 ay.length b4] w0 (fun e w'=>∃ (col':Zd) (ra1:Option Addr) (rc2:Nat) (ra4:Option Addr) (rc5:Nat),e= .returned ((.agg #[.bool r.1.1,.slice ra1 r.1.2.length rc2,.slice ra4 r.2.length rc5]))∧Zg col w0 col' w'∧Zc (Za.int .u32) 79 c1 col' w' ra1 rc2 r.1.2∧Zc (Za.int .u32) 79 c2 col' w' ra4 rc5 r.2):=by
 refine Ym (m:=36) func147 rfl rfl rfl ?_;rw [Zan.eq_1] at hm;have aa:=St.start col w0;refine go ?_;refine Xg (col:=(Zh col)) 1 rfl ?_;intro db dc cd ce bg;refine Xl (col:=cd) #[.bool false,.slice none (([]:List Int).length) 0,.slice none (([]:List Int).length) 0] 2 zeroValue47 ?_;intro b9 dd de ca ad;refine go ?_;replace bg:=bg.gr ca;refine lV _ (Z7 isAgg27 sizeOf27 bg) ?_;obtain ⟨aj,cf,hm⟩:=bZ hm;replace bc:=bc.keep (Zf.start col w0);replace bd:=bd.keep (Zf.start col w0);replace be:=be.keep (Zf.start col w0);replace bf:=bf.keep (Zf.start col w0);replace aa:=(aa.grow ce).grow ca;refine Zi (Z1o 3 4 cf (bc.ks aa) (bd.ks aa) (be.ks aa) (bf.ks aa)) ?_;rintro _ df ⟨cg,az,a0,a2,a3,rfl,cb,ab,ac⟩;refine ⟨_,rfl,?_⟩;refine lM (.tuple #[.slice az aj.1.length a0,.slice a2 aj.2.length a3])<|lV (.slice az aj.1.length a0) (Xv rfl rfl)<|lV (.slice a2 aj.2.length a3) (Xv rfl rfl)<|go ?_;obtain ⟨dg,ch,hm⟩:=bZ hm;refine Zi (Zlu (col:=cg) 5 6 ch) ?_;rintro _ dh ⟨ci,di,dj,dk,dl,rfl,a4,bh,bi⟩;refine ⟨_,rfl,?_⟩;refine Xl (col:=ci) #[.bool false,.slice none (([]:List Int).length) 0,.slice none (([]:List Int).length) 0] 7 zeroValue47 ?_;intro cc dm dn av cj;refine Z4 cj ?_;intro dp aw ck af;refine go ?_;replace ad:=(((ad.gr cb).gr a4).gr av).kp aw;replace aa:=(((aa.grow cb).grow a4).grow av).kp aw ck;replace ab:=((ab.gr a4).gr av).kp aw;replace ac:=((ac.gr a4).gr av).kp aw;replace bh:=(bh.gr av).kp aw;replace bi:=(bi.gr av).kp aw;refine Zw [1,4,5,6,7,1000000] (fun n f al=>∃ ae bj bk bm a5 bn bo a6 a7 ar,ar=n∧Zao N ay aj ar bj a5 a6 a7=some r∧St w0 (Zh col) ae al∧Zm 47 2 ae al b9 #[.bool false,.slice none (([]:List Int).length) 0,.slice none (([]:List Int).length) 0]∧Zc (Za.slice (Za.int .i64)) 40 3 ae al az a0 aj.1∧Zc (Za.pair (Za.pair Za.bool (Za.row 79 (Za.int .u32))) (Za.row 79 (Za.int .u32))) 47 4 ae al a2 a3 aj.2∧Zc (Za.int .u32) 79 5 ae al bk bm a5∧Zc (Za.int .u32) 79 6 ae al bn bo a6∧Zm 47 7 ae al cc #[.bool bj,.slice bk a5.length bm,.slice bn a6.length bo]∧[8].map f=[.int .i64 a7]) N ⟨_,_,_,_,_,_,_,_,0,_,rfl,hm,aa,ad,ab,ac,bh,bi,af,rfl⟩ ?_
 clear hm;intro n f al hI;obtain ⟨ae,bj,bk,bm,a5,bn,bo,a6,a7,ar,hn,hm,aa,ad,ab,ac,am,an,af,hs⟩:=hI;subst hn;refine .lL [8] hs ?_;replace h1:=h1.keep (Zf.start col w0)
 cases ar with
 | zero=>rw [Zao.eq_1] at hm;cases hm
 | succ ar=>
  rw [Zao.eq_2] at hm;refine go ?_;refine Zo hm (fun hb hm=>?_) fun hb hm=>go ?_
  ·refine X9<|Z0 ?_;refine Wp.cutK [1,4,5,6,7,8,1000000] (fun f ap=>∃ aq bp bq br a8 bs bt a9,Ziq a7 (Zao N ay aj ar) bp a8 a9=some r∧St w0 (Zh col) aq ap∧Zm 47 2 aq ap b9 #[.bool false,.slice none (([]:List Int).length) 0,.slice none (([]:List Int).length) 0]∧Zc (Za.slice (Za.int .i64)) 40 3 aq ap az a0 aj.1∧Zc (Za.pair (Za.pair Za.bool (Za.row 79 (Za.int .u32))) (Za.row 79 (Za.int .u32))) 47 4 aq ap a2 a3 aj.2∧Zc (Za.int .u32) 79 5 aq ap bq br a8∧Zc (Za.int .u32) 79 6 aq ap bs bt a9∧Zm 47 7 aq ap cc #[.bool bp,.slice bq a8.length br,.slice bs a9.length bt]) ?_ ?_
   ·intro f ap hJ;obtain ⟨aq,bp,bq,br,a8,bs,bt,a9,hm,aa,ad,ab,ac,cl,cn,af⟩:=hJ;rw [Ziq.eq_1] at hm;refine go ?_;exact ⟨ar,by omega,rfl,⟨_,_,_,_,_,_,_,_,_,_,rfl,hm,aa,ad,ab,ac,cl,cn,af,rfl⟩⟩
   refine go ?_;obtain ⟨dq,bu,hm⟩:=bZ hm;refine lI bu (ab.addr bu) ?_;obtain ⟨_,co,cp⟩:=ab.atN bu;obtain ⟨dr,ds,rfl,cq⟩:=co.slice;refine lW cp.one<|Yr rfl ?_;obtain ⟨dt,cr,hm⟩:=bZ hm;refine Zi (Z1z cr cq (h1.ks aa)) ?_;rintro _ cs ⟨rfl,ao⟩;refine ⟨_,rfl,?_⟩;replace ao:Zg ae al ae cs:=.of_below ao;refine go ?_;replace ab:=ab.gr ao;replace ac:=ac.gr ao;replace am:=am.gr ao;replace an:=an.gr ao;replace ad:=ad.gr ao;replace af:=af.gr ao;replace aa:=aa.grow ao;refine Zo hm (fun hb hm=>?_) fun hb hm=>?_
   ·refine Wh (col:=ae) [(0,0),(1,1),(2,1),(3,1),(4,0),(5,3),(6,2)] (by kernel_rfl) (by kernel_rfl)<|xv rfl rfl (fun _ hC=>Z7 isAgg47 sizeOf47 (af.gr (hC.bl ae))) ?_;refine xu rfl rfl (fun _=>Vf rfl) ?_;refine xu rfl rfl (fun _=>Wj rfl) ?_;obtain ⟨bv,ba,hm⟩:=bZ hm;refine xu rfl rfl (fun _=>Wi underlying56 sizeOf47 rfl rfl (Xn ba).1 (Xn ba).2.1 (ac.addr ba)) ?_;obtain ⟨_,ct,cu⟩:=ac.atN ba;obtain ⟨_,_,rfl,cv,cw⟩:=ct.parts;obtain ⟨_,_,rfl,cx,cy⟩:=cv.parts;obtain rfl:=cx.bool;obtain ⟨cz,c0,rfl,bw⟩:=cy.row;obtain ⟨c3,c4,rfl,bx⟩:=cw.row;refine xv (v:=(.agg #[.bool bv.1.1,.slice cz bv.1.2.length c0,.slice c3 bv.2.length c4])) rfl rfl (fun _ hC=>Yj isAgg47 sizeOf47 rfl rfl (cu.gr (hC.bl ae))) ?_;refine xe rfl rfl ?_;intro c5 hC0;have hC:=hC0.bl ae;obtain ⟨du,c6,hm⟩:=bZ hm;replace am:=am.gr hC;replace an:=an.gr hC;replace bw:=bw.gr hC;replace bx:=bx.gr hC;refine Zi (Zrp 8 9 c6 (((am.toSlF (Zn.int .u32)).froz 6).froz 4) (((an.froz 5 (by decide)).toSlF (Zn.int .u32)).froz 4) (((bw.froz 5 (by decide)).froz 6 (by decide)).toSlF (Zn.int .u32)) (((bx.froz 5 (by decide)).froz 6 (by decide)).toSlF (Zn.int .u32))) ?_;rintro _ dv ⟨c7,dw,dx,dy,dz,rfl,ak,ag,ah⟩;refine ⟨_,rfl,?_⟩;replace ag:=ag.thaw (Z3 .u32) ak ((((Fz.refl (col:=ae)).froz 5).froz 6).froz 4) (by decide);replace ah:=ah.thaw (Z3 .u32) ak ((((Fz.refl (col:=ae)).froz 5).froz 6).froz 4) (by decide);replace ak:=ak.thawR (col:=ae);generalize Xf c5.heap.size ae c7=bb at *;refine Zk<|Xp bb hC0 ak<|xe rfl rfl ?_;intro d0 hC0;replace ab:=(ab.gr hC).gr ak;replace ac:=(ac.gr hC).gr ak;replace ad:=(ad.gr hC).gr ak;replace af:=(af.gr hC).gr ak;replace aa:=(aa.grow hC).grow ak;have hC:=hC0.bl bb;replace af:=af.gr hC;refine Z4 af ?_;intro d1 ax c8 au;refine Zk<|xk bb<|Y9 ?_;replace ab:=(ab.gr hC).kp ax;replace ac:=(ac.gr hC).kp ax;replace ag:=(ag.gr hC).kp ax;replace ah:=(ah.gr hC).kp ax;replace ad:=(ad.gr hC).kp ax;replace aa:=(aa.grow hC).kp ax c8;intro d2 hC;replace hC:=hC.bl bb;replace ab:=ab.gr hC;replace ab:=ab.recol 8 5 (by decide);replace ac:=ac.gr hC;replace ac:=ac.recol 8 5 (by decide);replace ag:=ag.gr hC;replace ag:=ag.recolSelf 5 (by decide);replace ah:=ah.gr hC
    replace ah:=ah.recol 8 5 (by decide);replace ad:=ad.gr hC;replace ad:=ad.recol 8 5 (by decide);replace au:=au.gr hC;replace au:=au.recol 8 5 (by decide);replace aa:=aa.grow hC;replace aa:=aa.recol 8 5 (by decide) (by decide);replace ab:=ab.recol 9 6 (by decide);replace ac:=ac.recol 9 6 (by decide);replace ag:=ag.recol 9 6 (by decide);replace ah:=ah.recolSelf 6 (by decide);replace ad:=ad.recol 9 6 (by decide);replace au:=au.recol 9 6 (by decide);replace aa:=aa.recol 9 6 (by decide) (by decide);exact ⟨rfl,_,_,_,_,_,_,_,_,hm,aa,ad,ab,ac,ag,ah,au⟩
   refine X9 ?_;exact ⟨rfl,_,_,_,_,_,_,_,_,hm,aa,ad,ab,ac,am,an,af⟩
  refine lV _ (Z7 isAgg47 sizeOf47 af)<|Z4 ad ?_;intro d3 bz c9 da;refine go ?_;cases hm;replace am:=am.kp bz;replace an:=an.kp bz;replace aa:=aa.kp bz c9;exact ⟨rfl,_,ra da.atN,_,_,_,_,_,rfl,aa.fin (cm [(5,c1),(6,c2)]),aa.fo am,aa.fo an⟩
def Zc7 (N:Nat) (aa:R0) (ac:Rc):Option (R1×Int):=
  (Vt N (aa.1,aa.2.1,aa.2.2.1,aa.2.2.2.1,aa.2.2.2.2) ac ([]:List Int)).bind fun ad=>if (!decide (ad=0))=true then (some (((false,([]:List Int)),([]:List Int)),ad)) else ((Zan N (aa.1,aa.2.1,aa.2.2.1,aa.2.2.2.1,aa.2.2.2.2) ac).bind fun ab=>some (((ab.1.1,ab.1.2),ab.2),0))
theorem Z1y {N an ao ap aq ar:Nat} {au av aw ax a1:Option Addr} {col:Zd} {w0:World} {ab:R0} {aj:Rc} {r:(R1×Int)} (c1 c2:Nat) (hm:Zc7 N ab aj=some r) (af:Sl Za.str col w0 au an ab.2.1) (ag:Sl (Za.slice Za.str) col w0 av ao ab.2.2.1) (ah:Sl (Za.slice (Za.int .i64)) col w0 aw ap ab.2.2.2.1) (ai:Sl (Za.slice (Za.pair (Za.pair Za.bool (Za.slice (Za.int .u32))) (Za.slice (Za.int .u32)))) col w0 ax aq ab.2.2.2.2) (h1:Sl (Za.pair (Za.int .i64) (Za.int .i64)) col w0 a1 ar aj):
    Calls prog 54 #[(.agg #[.string ab.1,.slice au ab.2.1.length an,.slice av ab.2.2.1.length ao,.slice aw ab.2.2.2.1.length ap,.slice ax ab.2.2.2.2.length aq]),.slice a1 aj.length ar] w0 (fun e w'=>∃ (col':Zd) (ra1:Option Addr) (rc2:Nat) (ra4:Option Addr) (rc5:Nat),e= .returned (.tuple #[(.agg #[.bool r.1.1.1,.slice ra1 r.1.1.2.length rc2,.slice ra4 r.1.2.length rc5]),.int .i64 r.2])∧Zg col w0 col' w'∧Zc (Za.int .u32) 79 c1 col' w' ra1 rc2 r.1.1.2∧Zc (Za.int .u32) 79 c2 col' w' ra4 rc5 r.1.2):=by
 refine Ym (m:=17) func54 rfl rfl rfl ?_;rw [Zc7.eq_1] at hm;have aa:=St.start col w0;refine go ?_;refine Xg (col:=(Zh col)) 1 rfl ?_;intro bd be a2 a3 ac;refine Xl (col:=a2) #[.bool false,.slice none (([]:List Int).length) 0,.slice none (([]:List Int).length) 0] 2 zeroValue47 ?_;intro bf a4 ay az ad;refine go ?_;replace ac:=ac.gr az;refine lV _ (Z7 isAgg27 sizeOf27 ac)<|Yr rfl ?_;obtain ⟨bg,a5,hm⟩:=bZ hm;replace af:=af.keep (Zf.start col w0);replace ag:=ag.keep (Zf.start col w0);replace ah:=ah.keep (Zf.start col w0);replace ai:=ai.keep (Zf.start col w0);replace h1:=h1.keep (Zf.start col w0);replace aa:=(aa.grow a3).grow az;refine Zi (Zlw a5 (af.ks aa) (ag.ks aa) (ah.ks aa) (ai.ks aa) (h1.ks aa) Sl.nil) ?_;rintro _ a6 ⟨rfl,ae⟩;refine ⟨_,rfl,?_⟩;replace ae:Zg ay a4 ay a6:=.of_below ae;refine go ?_;replace ac:=ac.gr ae;replace ad:=ad.gr ae;replace aa:=aa.grow ae;refine Zo hm (fun hb hm=>go ?_) fun hb hm=>go ?_
 ·refine lV (.agg #[.bool false,.slice none (([]:List Int).length) 0,.slice none (([]:List Int).length) 0]) (Yz (l:=[_,_]) (qs:=[(0,2),(2,1)]) underlying47 zeroValue47 ⟨rfl,sizeOf45,rfl,sizeOf43,trivial⟩ rfl)<|Xo rfl<|Z4 ad ?_;intro bh a7 a8 a9;refine go ?_;cases hm;replace aa:=aa.kp a7 a8;exact ⟨rfl,_,W7 a9.atN,_,none,0,none,0,rfl,aa.fin (cm []),Zc.nil,Zc.nil⟩
 refine lV _ (Z7 isAgg27 sizeOf27 ac)<|Yr rfl ?_;obtain ⟨bi,ba,hm⟩:=bZ hm;refine Zi (Zoq 3 4 ba (af.ks aa) (ag.ks aa) (ah.ks aa) (ai.ks aa) (h1.ks aa)) ?_;rintro _ bj ⟨bk,bm,bn,bo,bp,rfl,a0,ak,al⟩;refine ⟨_,rfl,?_⟩;replace ad:=ad.gr a0;refine Z4 ad ?_;intro bq am bb bc;refine go ?_;cases hm;replace aa:=(aa.grow a0).kp am bb;replace ak:=ak.kp am;replace al:=al.kp am;exact ⟨rfl,_,W7 bc.atN,_,_,_,_,_,rfl,aa.fin (cm [(3,c1),(4,c2)]),aa.fo ak,aa.fo al⟩
def Zc2 (N:Nat) (aa:R0) (ab:Rc) (ac:Rc):Option (R1×Int):=
  Zv ((([]:List R5).length+ab.length) * 16≤140737488355328∧([]:List R5).length+ab.length≤maxLen) (Zv (((([]:List R5)++ab).length+ac.length) * 16≤140737488355328∧(([]:List R5)++ab).length+ac.length≤maxLen) ((Vt N (aa.1,aa.2.1,aa.2.2.1,aa.2.2.2.1,aa.2.2.2.2) ((([]:List R5)++ab)++ac) ([]:List Int)).bind fun ag=>if (!decide (ag=0))=true then (some (((false,([]:List Int)),([]:List Int)),ag)) else ((Zan N (aa.1,aa.2.1,aa.2.2.1,aa.2.2.2.1,aa.2.2.2.2) ((([]:List R5)++ab)++ac)).bind fun ae=>(Zan N (aa.1,aa.2.1,aa.2.2.1,aa.2.2.2.1,aa.2.2.2.2) ac).bind fun af=>(Zh2 N ((ae.1.1,ae.1.2),ae.2) ((af.1.1,af.1.2),af.2)).bind fun ad=>if (!decide (ad.2=0))=true then (some (((false,([]:List Int)),([]:List Int)),52)) else (some (((ad.1.1.1,ad.1.1.2),ad.1.2),0)))))
theorem Z1p {N a9 ba bb bc bw bo:Nat} {bd be bf bg a1 a2:Option Addr} {col:Zd} {w0:World} {ab:R0} {bh a0:Rc} {r:(R1×Int)} (c1 c2:Nat) (hm:Zc2 N ab bh a0=some r) (a3:Sl Za.str col w0 bd a9 ab.2.1) (a4:Sl (Za.slice Za.str) col w0 be ba ab.2.2.1) (a5:Sl (Za.slice (Za.int .i64)) col w0 bf bb ab.2.2.2.1) (a6:Sl (Za.slice (Za.pair (Za.pair Za.bool (Za.slice (Za.int .u32))) (Za.slice (Za.int .u32)))) col w0 bg bc ab.2.2.2.2) (h1:Sl (Za.pair (Za.int .i64) (Za.int .i64)) col w0 a1 bw bh) (h2:Sl (Za.pair (Za.int .i64) (Za.int .i64)) col w0 a2 bo a0):
    Calls prog 55 #[(.agg #[.string ab.1,.slice bd ab.2.1.length a9,.slice be ab.2.2.1.length ba,.slice bf ab.2.2.2.1.length bb,.slice bg ab.2.2.2.2.length bc]),.slice a1 bh.length bw,.slice a2 a0.length bo] w0 (fun e w'=>∃ (col':Zd) (ra1:Option Addr) (rc2:Nat) (ra4:Option Addr) (rc5:Nat),e= .returned (.tuple #[(.agg #[.bool r.1.1.1,.slice ra1 r.1.1.2.length rc2,.slice ra4 r.1.2.length rc5]),.int .i64 r.2])∧Zg col w0 col' w'∧Zc (Za.int .u32) 79 c1 col' w' ra1 rc2 r.1.1.2∧Zc (Za.int .u32) 79 c2 col' w' ra4 rc5 r.1.2):=by
 refine Ym (m:=38) func55 rfl rfl rfl ?_;rw [Zc2.eq_1] at hm;have aa:=St.start col w0;refine go ?_;refine Xg (col:=(Zh col)) 1 rfl ?_;intro cw cx b3 b4 ah;refine Xl (col:=b3) #[.bool false,.slice none (([]:List Int).length) 0,.slice none (([]:List Int).length) 0] 2 zeroValue47 ?_;intro cy cz c0 bx ac;refine go ?_;obtain ⟨b5,hm⟩:=Zx hm;replace h1:=h1.keep (Zf.start col w0);replace aa:=(aa.grow b4).grow bx;refine Y3 (c:=3) Zc.nil (h1.ks aa).srcC b5 ?_;intro c3 c4 c5 c6 bp b6;refine go ?_;obtain ⟨b7,hm⟩:=Zx hm;replace h2:=h2.keep (Zf.start col w0);replace aa:=aa.kpp bp;refine Y3 b6 (h2.ks aa).srcC b7 ?_;intro b8 b9 ca af bq aw;refine go ?_;replace ah:=((ah.gr bx).kpp bp).kpp bq;refine lV _ (Z7 isAgg27 sizeOf27 ah)<|Yr rfl ?_;obtain ⟨c7,cb,hm⟩:=bZ hm;replace a3:=a3.keep (Zf.start col w0);replace a4:=a4.keep (Zf.start col w0);replace a5:=a5.keep (Zf.start col w0);replace a6:=a6.keep (Zf.start col w0);replace aa:=aa.kpp bq;refine Zi (Zlw cb ((a3.ks aa).froz 3) ((a4.ks aa).froz 3) ((a5.ks aa).froz 3) ((a6.ks aa).froz 3) (aw.toSlF (Zn.pair (Zn.int .i64) (Zn.int .i64))) Sl.nil) ?_;rintro _ ai ⟨rfl,ax⟩;refine ⟨_,rfl,?_⟩;replace ax:Zg af ca af ai:=.of_below ax;refine go ?_;replace ac:=((ac.kpp bp).kpp bq).gr ax;replace aw:=aw.gr ax;replace ah:=ah.gr ax;replace aa:=aa.grow ax;refine Zo hm (fun hb hm=>go ?_) fun hb hm=>go ?_
 ·refine lV (.agg #[.bool false,.slice none (([]:List Int).length) 0,.slice none (([]:List Int).length) 0]) (Yz (l:=[_,_]) (qs:=[(0,2),(2,1)]) underlying47 zeroValue47 ⟨rfl,sizeOf45,rfl,sizeOf43,trivial⟩ rfl)<|Xo rfl<|Z4 ac ?_;intro c8 cc cd ce;refine go ?_;cases hm;replace aa:=aa.kp cc cd;exact ⟨rfl,_,W7 ce.atN,_,none,0,none,0,rfl,aa.fin (cm []),Zc.nil,Zc.nil⟩
 have bi:=Z1.clip (fun _=>false) af ai;refine Zi0 (col:=af) [(0,0),(1,1),(3,0),(4,1),(2,3),(5,3),(6,3),(7,1),(8,1),(9,1),(10,4),(11,2),(12,1)] (by kernel_rfl) (by kernel_rfl) ⟨fun h=>absurd h (by decide),fun h=>absurd h (by decide),fun h=>absurd h (by decide),fun h=>absurd h (by decide),fun h=>absurd h (by decide),fun h=>absurd h (by decide),fun h=>absurd h (by decide),fun h=>absurd h (by decide),fun h=>absurd h (by decide),fun h=>absurd h (by decide),fun _=>⟨_,_,_,rfl,Sd zeroValue47⟩,fun h=>absurd h (by decide),fun h=>absurd h (by decide),trivial⟩ ?_;replace ah:=ah.kpp bi;refine Tc (v:=(.agg #[.string ab.1,.slice bd ab.2.1.length a9,.slice be ab.2.2.1.length ba,.slice bf ab.2.2.2.1.length bb,.slice bg ab.2.2.2.2.length bc])) rfl rfl (fun _ hC=>Yj isAgg27 sizeOf27 rfl rfl (ah.atN.gr (hC.bl (Zl ai af)))) ?_;refine Vg (v:=(.slice b8 (((([]:List R5)++bh)++a0).length) b9)) rfl rfl (fun _=>Un rfl) ?_;refine Tc (v:=(.agg #[.string ab.1,.slice bd ab.2.1.length a9,.slice be ab.2.2.1.length ba,.slice bf ab.2.2.2.1.length bb,.slice bg ab.2.2.2.2.length bc])) rfl rfl (fun _ hC=>Yj isAgg27 sizeOf27 rfl rfl (ah.atN.gr (hC.bl (Zl ai af)))) ?_;refine Vg (v:=(.slice a2 a0.length bo)) rfl rfl (fun _=>Un rfl) ?_;refine W8 rfl rfl ?_;intro cf hC0;have hC:=hC0.bl (Zl ai af);obtain ⟨c9,cg,hm⟩:=bZ hm;replace aw:=(aw.kpp bi).gr hC;replace aa:=(aa.kpp bi).grow hC;refine Zi (Zoq 4 5 cg ((a3.ks aa).froz 3) ((a4.ks aa).froz 3) ((a5.ks aa).froz 3) ((a6.ks aa).froz 3) (aw.toSlF (Zn.pair (Zn.int .i64) (Zn.int .i64)))) ?_;rintro _ ay ⟨ch,da,db,dc,dd,rfl,aj,ar,au⟩;refine ⟨_,rfl,?_⟩;replace ar:=ar.thaw (Z3 .u32) aj ((Fz.refl (col:=(Zl ai af))).froz 3) (by decide);replace au:=au.thaw (Z3 .u32) aj ((Fz.refl (col:=(Zl ai af))).froz 3) (by decide);replace aj:=aj.thawR (col:=(Zl ai af));generalize Xf cf.heap.size (Zl ai af) ch=a7 at *;refine Zk ?_;refine ⟨fun w'=>Zg (Zl ay a7) ay (Zl ay a7) w',fun g=>(Zl ay a7) g=497,Zg.refl _ _,W0,fun _=>⟨fun _ h=>V3 hC0 aj h,fun b hb=>aj.below.block b hb,fun g x1 x2=>V8 aj g x1 (by first | exact x2 | (simp only [Xq,x2];rfl) | (simp only [Xq,Xx,x2];rfl))⟩,?_⟩;have bj:=Z1.clip (fun _=>false) a7 ay
 refine W8 rfl rfl ?_;intro de hC0;replace ac:=(((ac.kpp bi).gr hC).gr aj).kpp bj;have hC:=hC0.bl (Zl ay a7);obtain ⟨df,ci,hm⟩:=bZ hm;replace aa:=((aa.grow aj).kpp bj).grow hC;refine Zi (Zoq 6 7 ci (a3.ks aa) (a4.ks aa) (a5.ks aa) (a6.ks aa) (h2.ks aa)) ?_;rintro _ ag ⟨ak,dg,dh,di,dj,rfl,av,br,bs⟩;refine ⟨_,rfl,?_⟩;refine Zk ?_;refine ⟨fun w'=>Zg (Zl ag ak) ag (Zl ag ak) w',fun g=>(Zl ag ak) g=497,Zg.refl _ _,W0,fun _=>⟨fun _ h=>V3 hC0 av h,fun b hb=>av.below.block b hb,fun g x1 x2=>V8 av g x1 (by first | exact x2 | (simp only [Xq,x2];rfl) | (simp only [Xq,Xx,x2];rfl))⟩,?_⟩;have az:=Z1.clip (fun _=>false) ak ag;refine W8 rfl rfl ?_;intro cj hC0;replace ar:=(((ar.kpp bj).gr hC).gr av).kpp az;replace au:=(((au.kpp bj).gr hC).gr av).kpp az;replace ac:=((ac.gr hC).gr av).kpp az;have hC:=hC0.bl (Zl ag ak);obtain ⟨al,ck,hm⟩:=bZ hm;replace br:=(br.kpp az).gr hC;replace bs:=(bs.kpp az).gr hC;replace ar:=ar.gr hC;replace au:=au.gr hC;refine Zi (Z09 8 9 ck ((((ar.toSlF (Zn.int .u32)).froz 5).froz 6).froz 7) ((((au.froz 4 (by decide)).toSlF (Zn.int .u32)).froz 6).froz 7) ((((br.froz 4 (by decide)).froz 5 (by decide)).toSlF (Zn.int .u32)).froz 7) ((((bs.froz 4 (by decide)).froz 5 (by decide)).froz 6 (by decide)).toSlF (Zn.int .u32))) ?_;rintro _ ad ⟨cl,bz,b0,b1,b2,rfl,am,an,ao⟩;refine ⟨_,rfl,?_⟩;replace an:=an.thaw (Z3 .u32) am (((((Fz.refl (col:=(Zl ag ak))).froz 4).froz 5).froz 6).froz 7) (by decide);replace ao:=ao.thaw (Z3 .u32) am (((((Fz.refl (col:=(Zl ag ak))).froz 4).froz 5).froz 6).froz 7) (by decide);replace am:=am.thawR (col:=(Zl ag ak));generalize Xf cj.heap.size (Zl ag ak) cl=ae at *;refine Zk ?_;refine ⟨fun w'=>Zg (Zl ad ae) ad (Zl ad ae) w',fun g=>(Zl ad ae) g=497,Zg.refl _ _,W0,fun _=>⟨fun _ h=>V3 hC0 am h,fun b hb=>am.below.block b hb,fun g x1 x2=>V8 am g x1 (by first | exact x2 | (simp only [Xq,x2];rfl) | (simp only [Xq,Xx,x2];rfl))⟩,?_⟩;have bk:=Z1.clip (fun _=>false) ae ad
 refine Vg (v:=(.tuple #[(.agg #[.bool al.1.1.1,.slice bz al.1.1.2.length b0,.slice b1 al.1.2.length b2]),.int .i64 al.2])) rfl rfl (fun _=>Un rfl) ?_;refine Vg (v:=(.agg #[.bool al.1.1.1,.slice bz al.1.1.2.length b0,.slice b1 al.1.2.length b2])) rfl rfl (fun _=>Xv rfl rfl) ?_;refine Vg (v:=(.int .i64 al.2)) rfl rfl (fun _=>Xv rfl rfl) ?_;refine Zi1 rfl rfl (Sd zeroValue47) ?_;intro ap cn;refine W8 rfl rfl ?_;intro co ⟨hC0,hZ0⟩;replace aa:=((((aa.grow av).kpp az).grow hC).grow am).kpp bk;replace ac:=((ac.gr hC).gr am).kpp bk;have hC:=hC0.bl (Zl ad ae);obtain ⟨bm,bt⟩:=Zge (col:=(Zl ad ae)) 10 hZ0 cn;replace bt:Zm 47 10 (Xk ap 10 (Zl ad ae)) co ap #[.bool false,.slice none (([]:List Int).length) 0,.slice none (([]:List Int).length) 0]:=bt;refine Z4 bt ?_;intro aq bn cp bu;refine Zk ?_;refine ⟨fun w'=>Zg (Zl aq (Xk ap 10 (Zl ad ae))) aq (Zl aq (Xk ap 10 (Zl ad ae))) w',fun g=>(Zl aq (Xk ap 10 (Zl ad ae))) g=497,Zg.refl _ _,W0,fun h=>absurd h (by decide),?_⟩;have a8:=Z1.clip (fun _=>false) (Xk ap 10 (Zl ad ae)) aq;refine Vg (v:=(.int .i64 al.2)) rfl rfl (fun _=>U0 rfl) ?_;refine Zi2 ?_;replace an:=((((an.kpp bk).gr hC).kpp bm).kp bn).kpp a8;replace ao:=((((ao.kpp bk).gr hC).kpp bm).kp bn).kpp a8;replace ac:=(((ac.gr hC).kpp bm).kp bn).kpp a8;replace aa:=(((aa.grow hC).kpp bm).kp bn cp).kpp a8;intro cq hC;replace hC:Zg (Zl aq (Xk ap 10 (Zl ad ae))) aq (Zl aq (Xk ap 10 (Zl ad ae))) cq:=.of_below hC.below;refine go ?_;replace bu:=(bu.kpp a8).gr hC;replace an:=an.gr hC;replace ao:=ao.gr hC;replace ac:=ac.gr hC;replace aa:=aa.grow hC;refine Zo hm (fun hb hm=>go ?_) fun hb hm=>go ?_
 ·refine lV (.agg #[.bool false,.slice none (([]:List Int).length) 0,.slice none (([]:List Int).length) 0]) (Yz (l:=[_,_]) (qs:=[(0,2),(2,1)]) underlying47 zeroValue47 ⟨rfl,sizeOf45,rfl,sizeOf43,trivial⟩ rfl)<|Z4 ac ?_;intro dk cr cs ct;refine go ?_;cases hm;replace aa:=aa.kp cr cs;exact ⟨rfl,_,W7 ct.atN,_,none,0,none,0,rfl,aa.fin (cm []),Zc.nil,Zc.nil⟩
 refine lV _ (Z7 isAgg47 sizeOf47 bu)<|Z4 ac ?_;intro dl bv cu cv;refine go ?_;cases hm;replace an:=an.kp bv;replace ao:=ao.kp bv;replace aa:=aa.kp bv cu;exact ⟨rfl,_,W7 cv.atN,_,_,_,_,_,rfl,aa.fin (cm [(8,c1),(9,c2)]),aa.fo an,aa.fo ao⟩
def Zd3 (aa:List Int):List R5→Option Bool
  | []=>some true
  | ab :: ac=>(Zj aa ab.1).bind fun ad=>if (!decide (ad=ab.2))=true then (some false) else (Zd3 aa ac)
termination_by structural x=>x
def Zmc (aa:List Int) (ab:Rc):Option Bool:=
  Zd3 aa ab
theorem Z0j {aj ak:Nat} {a0 a1:Option Addr} {col:Zd} {w0:World} {af:R2} {ab:Rc} {r:Bool} (hm:Zmc af ab=some r) (h0:Sl (Za.int .i64) col w0 a0 aj af) (h1:Sl (Za.pair (Za.int .i64) (Za.int .i64)) col w0 a1 ak ab):
    Calls prog 170 #[.slice a0 af.length aj,.slice a1 ab.length ak] w0 (fun e w'=>e= .returned ((.bool r))∧Below w0.heap.size w0 w'):=by
 refine Xc 4 (m:=22) func170 rfl rfl rfl rfl rfl ?_;rw [Zmc.eq_1] at hm;have aa:=St.start col w0;refine go ?_;refine Zw [0,7,8,1000000] (fun n f al=>∃ ag ac ad,n=ad.length∧ab.drop ac=ad∧Zd3 af ad=some r∧St w0 (Zh col) ag al∧[9].map f=[.int .i64 ac]) ab.length ⟨_,0,_,rfl,rfl,hm,aa,rfl⟩ ?_;clear hm;intro n f al hI;obtain ⟨ag,ac,ad,hn,hl,hm,aa,hs⟩:=hI;subst hn;refine .lL [9] hs ?_;replace h0:=h0.keep (Zf.start col w0);replace h1:=h1.keep (Zf.start col w0)
 cases ad with
 | nil=>
  have hk:¬ ((ac:Int)<(ab.length:Int)):=by have:=List.drop_eq_nil_iff.1 hl;omega
  have hkb:=decide_eq_false hk;rw [Zd3.eq_1] at hm;refine go ?_;refine Yf (congrArg Value.bool hkb)<|go ?_;cases hm;exact ⟨rfl,rfl,aa.below⟩
 | cons am ao=>
  obtain ⟨ah,ap,aq⟩:=Yw hl;have hk:(ac:Int)<(ab.length:Int):=by omega
  have hkb:=decide_eq_true hk;rw [Zd3.eq_2] at hm;refine go ?_;refine Yg (congrArg Value.bool hkb)<|go ?_;refine lI ah ((h1.ks aa).addr ah) ?_;obtain ⟨_,ar,au⟩:=(h1.ks aa).atN ah;obtain ⟨_,_,rfl,av,aw⟩:=Yi ar;obtain ⟨rfl,_⟩:=av;obtain ⟨rfl,_⟩:=aw;refine lV (.agg #[.int .i64 am.1,.int .i64 am.2]) (Yj isAgg97 sizeOf97 rfl rfl au)<|Xl (col:=ag) #[.int .i64 0,.int .i64 0] 1 zeroValue97 ?_;intro a3 a4 ae ax ay;refine Z4 ay ?_;intro a5 az a2 an;refine go ?_;refine Wd (col:=ae) (by kernel_rfl) (by kernel_rfl)<|go ?_;refine qF ⟨_,_,rfl⟩ ?_;refine qW (fun _ hC=>((an.atN).nth (q:=0) rfl).gr (hC.bl ae)) ?_;obtain ⟨a6,ai,hm⟩:=bZ hm;replace aa:=(aa.grow ax).kp az a2;refine qI ai ((h0.ks aa).addr ai)<|qW (fun _ hC=>((h0.ks aa).gr (hC.bl ae)).atInt ai) ?_;refine qF ⟨_,_,rfl⟩ ?_;refine qW (fun _ hC=>((an.atN).nth (q:=1) rfl).gr (hC.bl ae)) ?_;refine go ?_;refine X7 ?_;intro a7 hC;replace hC:=hC.bl ae;replace aa:=aa.grow hC;refine Zo hm (fun hb hm=>go ?_) fun hb hm=>go ?_
  ·cases hm;exact ⟨rfl,rfl,aa.below⟩
  exact ⟨ao.length,by simp,rfl,⟨_,_,_,rfl,ap,hm,aa,(Y1 (congrArg (Value.int .i64) (Yy (Nat.lt_of_lt_of_le aq (h1.ks aa).1.1))) rfl)⟩⟩
def Za5 (N:Nat) (ae:Rc):List Ri→Bool→R2→R2→Option R1
  | [],aa,ab,ac=>some ((aa,ab),ac)
  | ad :: ag,aa,ab,ac=>(Zmc ad.1 ae).bind fun ah=>if ah=true then ((Zac N ((aa,ab),ac) ((ad.2.1.1,ad.2.1.2),ad.2.2)).bind fun af=>(Za5 N ae ag) af.1.1 af.1.2 af.2) else ((Za5 N ae ag) aa ab ac)
termination_by structural x=>x
def Zae (N:Nat) (aa:R0) (ac:Rc):Option R1:=
  (Zdz N ([]:List R1)).bind fun ab=>(Zgy N (aa.1,aa.2.1,aa.2.2.1,aa.2.2.2.1,aa.2.2.2.2)).bind fun ad=>Za5 N ac ad ab.1.1 ab.1.2 ab.2
theorem Zog {N be bf bg bh a5:Nat} {bi bj bk bm a1:Option Addr} {col:Zd} {w0:World} {ad:R0} {ao:Rc} {r:R1} (c1 c2:Nat) (hm:Zae N ad ao=some r) (bn:Sl Za.str col w0 bi be ad.2.1) (bo:Sl (Za.slice Za.str) col w0 bj bf ad.2.2.1) (bp:Sl (Za.slice (Za.int .i64)) col w0 bk bg ad.2.2.2.1) (bq:Sl (Za.slice (Za.pair (Za.pair Za.bool (Za.slice (Za.int .u32))) (Za.slice (Za.int .u32)))) col w0 bm bh ad.2.2.2.2) (h1:Sl (Za.pair (Za.int .i64) (Za.int .i64)) col w0 a1 a5 ao):
    Calls prog 144 #[(.agg #[.string ad.1,.slice bi ad.2.1.length be,.slice bj ad.2.2.1.length bf,.slice bk ad.2.2.2.1.length bg,.slice bm ad.2.2.2.2.length bh]),.slice a1 ao.length a5] w0 (fun e w'=>∃ (col':Zd) (ra1:Option Addr) (rc2:Nat) (ra4:Option Addr) (rc5:Nat),e= .returned ((.agg #[.bool r.1.1,.slice ra1 r.1.2.length rc2,.slice ra4 r.2.length rc5]))∧Zg col w0 col' w'∧Zc (Za.int .u32) 79 c1 col' w' ra1 rc2 r.1.2∧Zc (Za.int .u32) 79 c2 col' w' ra4 rc5 r.2):=by
 refine Zr2 (m:=20) (args:=[(.agg #[.string ad.1,.slice bi ad.2.1.length be,.slice bj ad.2.2.1.length bf,.slice bk ad.2.2.2.1.length bg,.slice bm ad.2.2.2.2.length bh]),.slice a1 ao.length a5]) func144 rfl rfl rfl ?_;rw [Zae.eq_1] at hm;have aa:=St.start col w0;replace bn:=bn.keep (Zf.start col w0);replace bo:=bo.keep (Zf.start col w0);replace bp:=bp.keep (Zf.start col w0);replace bq:=bq.keep (Zf.start col w0);replace h1:=h1.keep (Zf.start col w0);have hmk:Yv 499 (Zh col) w0 []:=.nil;refine go ?_;refine Xg (col:=(Zh col)) 1 rfl ?_;intro c8 c9 cc br bs;refine Zdt (col:=cc) (v:=(.slice a1 ao.length a5)) 2 rfl rfl ?_;intro b3 cd b4 bb ab;replace ab:Zm 82 2 b4 cd b3 #[.slice a1 ao.length a5]:=ab;refine Xl (col:=b4) #[.bool false,.slice none (([]:List Int).length) 0,.slice none (([]:List Int).length) 0] 3 zeroValue47 ?_;intro ce da cf a9 ac;refine go ?_;obtain ⟨bt,cg,hm⟩:=bZ hm;refine Zi (Zq7 (col:=cf) 4 5 cg Sl.nil) ?_;rintro _ db ⟨ch,ci,cj,ck,cl,rfl,a7,bu,bv⟩;refine ⟨_,rfl,?_⟩;refine Xl (col:=ch) #[.bool false,.slice none (([]:List Int).length) 0,.slice none (([]:List Int).length) 0] 6 zeroValue47 ?_;intro cn dc dd au co;refine Z4 co ?_;intro de av cp ae;refine go ?_;replace bs:=((((bs.gr bb).gr a9).gr a7).gr au).kp av;refine lV _ (Z7 isAgg27 sizeOf27 bs) ?_;obtain ⟨cq,cr,hm⟩:=bZ hm;replace aa:=(((((aa.grow br).grow bb).grow a9).grow a7).grow au).kp av cp;refine Zi (Z0d 7 cr (bn.ks aa) (bo.ks aa) (bp.ks aa) (bq.ks aa)) ?_;rintro _ df ⟨cs,dg,rfl,aw,ct⟩;refine ⟨_,rfl,go ?_⟩;replace h1:=((((((h1.gr br).gr bb).gr a9).gr a7).gr au).kp av).gr aw;replace hmk:=((((((hmk.gr br).gr bb).gr a9).gr a7).gr au).kp av).gr aw;replace ab:=((((ab.gr a9).gr a7).gr au).kp av).gr aw;replace ac:=(((ac.gr a7).gr au).kp av).gr aw;replace bu:=((bu.gr au).kp av).gr aw;replace bv:=((bv.gr au).kp av).gr aw;replace ae:=ae.gr aw;replace aa:=aa.grow aw
 refine Zn3 (psl:=[11,12]) (arr:=(fun (y:List Int×R1) (col:Zd) (w:World) (args:List Value)=>∃ (a0:Option Addr) (b5:Nat) (a1_0_1:Option Addr) (c1_0_1:Nat) (b6:Option Addr) (b7:Nat),args=[.slice a0 y.1.length b5,.agg #[.bool y.2.1.1,.slice a1_0_1 y.2.1.2.length c1_0_1,.slice b6 y.2.2.length b7]]∧Zc (Za.int .i64) 3 7 col w a0 b5 y.1∧Sl (Za.int .u32) col w a1_0_1 c1_0_1 y.2.1.2∧Sl (Za.int .u32) col w b6 b7 y.2.2)) (ys:=cq) (col:=cs) 498 rfl ct rfl hmk rfl rfl (by rintro _ _ _ _ ⟨_,_,_,_,_,_,rfl,_⟩;rfl) (fun ys_ ag al=>∃ (a6:Bool) (ax:Option Addr) (ay:Nat) (az:List Int) (a2:Option Addr) (a3:Nat) (a4:List Int),Za5 N ao ys_ a6 az a4=some r∧St w0 (Zh col) ag al∧Sl (Za.pair (Za.int .i64) (Za.int .i64)) ag al a1 a5 ao∧Zm 82 2 ag al b3 #[.slice a1 ao.length a5]∧Zm 47 3 ag al ce #[.bool false,.slice none (([]:List Int).length) 0,.slice none (([]:List Int).length) 0]∧Zc (Za.int .u32) 79 4 ag al ax ay az∧Zc (Za.int .u32) 79 5 ag al a2 a3 a4∧Zm 47 6 ag al cn #[.bool a6,.slice ax az.length ay,.slice a2 a4.length a3]) (fun _ _ _=>False) ?_ ?_ ⟨bt.1.1,ci,cj,bt.1.2,ck,cl,bt.2,hm,aa,h1,ab,ac,bu,bv,ae⟩ ?_ ?_ ?_
 ·intro ys_ ag al col2_ w2_ hJ hk;obtain ⟨a6,ax,ay,az,a2,a3,a4,hm,aa,h1,ab,ac,am,an,ae⟩:=hJ;exact ⟨a6,ax,ay,az,a2,a3,a4,hm,aa.kpp hk rfl rfl,h1.kpp hk rfl,ab.kpp hk rfl,ac.kpp hk rfl,am.kpp hk rfl rfl,an.kpp hk rfl rfl,ae.kpp hk rfl⟩
 ·intro _ _ _ _ _ h _;exact h
 ·intro dh di dj dk dl ag al args hJ hrec hmk harr;obtain ⟨a6,ax,ay,az,a2,a3,a4,hm,aa,h1,ab,ac,am,an,ae⟩:=hJ;rw [Za5.eq_2] at hm;have hki:=Z1.refl (pC 2) ag al;obtain ⟨dm,dn,dp,dq,dr,ds,rfl,bw,bx,bz⟩:=harr;refine go ?_;refine Xl (col:=ag) #[.bool false,.slice none (([]:List Int).length) 0,.slice none (([]:List Int).length) 0] 8 zeroValue47 ?_;intro dt du a8 ah cu;refine Z4 cu ?_;intro dv ai b8 b0;refine Zk ?_;replace hrec:=(hrec.gr ah).kp ai;refine ⟨_,hrec,?_⟩;intro cv dw aj b9 hrec2;have hrec:=hrec2;refine go ?_;replace ab:=((ab.gr ah).kp ai).kp aj;refine lW ab.at1 ?_;obtain ⟨dx,cw,hm⟩:=bZ hm;replace h1:=((h1.gr ah).kp ai).kp aj;replace bw:=((bw.gr ah).kp ai).kp aj;refine Zi (Z0j cw (bw.toSlF (Zn.int .i64)) (h1.froz 7)) ?_;rintro _ ca ⟨rfl,af⟩;refine ⟨_,rfl,?_⟩;replace af:Zg a8 cv a8 ca:=.of_below af;refine Zk ?_;replace am:=(((am.gr ah).kp ai).kp aj).gr af;replace an:=(((an.gr ah).kp ai).kp aj).gr af;replace bx:=(((bx.gr ah).kp ai).kp aj).gr af;replace bz:=(((bz.gr ah).kp ai).kp aj).gr af;replace ac:=(((ac.gr ah).kp ai).kp aj).gr af;replace ae:=(((ae.gr ah).kp ai).kp aj).gr af;replace hmk:=(((hmk.gr ah).kp ai).kp aj).gr af;replace hki:=(((hki.gr ah).kp ai b8 rfl).kp aj b9 rfl).gr af;replace aa:=(((aa.grow ah).kp ai b8).kp aj b9).grow af;replace b0:=(b0.kp aj).gr af;replace h1:=h1.gr af;replace ab:=ab.gr af;replace hrec:=hrec.gr af;refine Zo hm (fun hb hm=>?_) fun hb hm=>?_
  ·refine Wk<|lV _ (Z7 isAgg47 sizeOf47 ae)<|lV _ (Z7 isAgg47 sizeOf47 b0) ?_;obtain ⟨b1,cx,hm⟩:=bZ hm;refine Zi (Zoe 9 10 cx ((am.toSlF (Zn.int .u32)).froz 5) ((an.froz 4 (by decide)).toSlF (Zn.int .u32)) ((bx.froz 4).froz 5) ((bz.froz 4).froz 5)) ?_;rintro _ dy ⟨cy,cz,c0,c3,c4,rfl,ak,ap,aq⟩;refine ⟨_,rfl,?_⟩;replace ap:=ap.thaw (Z3 .u32) ak (((Fz.refl (col:=a8)).froz 4).froz 5) (by decide);replace aq:=aq.thaw (Z3 .u32) ak (((Fz.refl (col:=a8)).froz 4).froz 5) (by decide);replace ak:=ak.thawR (col:=a8);generalize Xf ca.heap.size a8 cy=dz at *;replace ae:=ae.gr ak;refine Z4 ae ?_;intro d0 ar cb ba;refine Zk ?_;replace h1:=(h1.gr ak).kp ar;replace h1:=h1.recol 9 4 (by decide);replace ap:=ap.kp ar;replace ap:=ap.recolSelf 4 (by decide);replace aq:=aq.kp ar;replace aq:=aq.recol 9 4 (by decide);replace ab:=(ab.gr ak).kp ar;replace ab:=ab.recol 9 4 (by decide);replace ac:=(ac.gr ak).kp ar;replace ac:=ac.recol 9 4 (by decide);replace ba:=ba.recol 9 4 (by decide);replace hrec:=(hrec.gr ak).kp ar;replace hrec:=hrec.recol 9 4 (by decide);replace hmk:=(hmk.gr ak).kp ar;replace hmk:=hmk.recol 9 4 (by decide);replace hki:=(hki.gr ak).kp ar cb rfl;replace hki:=hki.recol 9 4 rfl;replace aa:=(aa.grow ak).kp ar cb;replace aa:=aa.recol 9 4 (by decide) (by decide);replace h1:=h1.recol 10 5 (by decide);replace ap:=ap.recol 10 5 (by decide);replace aq:=aq.recolSelf 5 (by decide);replace ab:=ab.recol 10 5 (by decide);replace ac:=ac.recol 10 5 (by decide);replace ba:=ba.recol 10 5 (by decide);replace hrec:=hrec.recol 10 5 (by decide);replace hmk:=hmk.recol 10 5 (by decide);replace hki:=hki.recol 10 5 rfl;replace aa:=aa.recol 10 5 (by decide) (by decide);exact ⟨_,hki,⟨b1.1.1,cz,c0,b1.1.2,c3,c4,b1.2,hm,aa,h1,ab,ac,ap,aq,ba⟩,hrec,hmk⟩
  refine X9 ?_;exact ⟨_,hki,⟨a6,ax,ay,az,a2,a3,a4,hm,aa,h1,ab,ac,am,an,ae⟩,hrec,hmk⟩
 ·intro c5 ag al hJ hmk;obtain ⟨a6,ax,ay,az,a2,a3,a4,hm,aa,h1,ab,ac,am,an,ae⟩:=hJ;rw [Za5.eq_1] at hm;refine go ?_;refine lV _ (Z7 isAgg47 sizeOf47 ae)<|Z4 ac ?_;intro d1 bc c6 b2;refine go ?_;cases hm;replace hmk:=hmk.kp bc;refine ⟨_,(c5 :: []),rfl,hmk,?_⟩;intro d2 bd c7;replace am:=(am.kp bc).kp bd;replace an:=(an.kp bc).kp bd;replace aa:=(aa.kp bc c6).kp bd c7;replace b2:=b2.kp bd;exact ⟨_,Zxp rfl rfl isAgg47 sizeOf47 rfl rfl b2.atN,Vq w0.heap.size col ag (fun n=>bif Nat.beq n 4 then c1 else bif Nat.beq n 5 then c2 else 0),ax,ay,a2,a3,rfl,aa.fin (fun n=>bif Nat.beq n 4 then c1 else bif Nat.beq n 5 then c2 else 0),aa.finOwn (g:=(fun n=>bif Nat.beq n 4 then c1 else bif Nat.beq n 5 then c2 else 0)) rfl am (by decide) (by decide) rfl,aa.finOwn (g:=(fun n=>bif Nat.beq n 4 then c1 else bif Nat.beq n 5 then c2 else 0)) rfl an (by decide) (by decide) rfl⟩
 intro _ _ _ _ h;exact h.elim
def Zd2 (N:Nat) (aa:R0) (ac:Rc):Option (R1×Int):=
  (Tj N (aa.1,aa.2.1,aa.2.2.1,aa.2.2.2.1,aa.2.2.2.2) ac ([]:List Int)).bind fun ad=>if (!decide (ad.2=0))=true then (some (((false,([]:List Int)),([]:List Int)),ad.2)) else ((Zae N (aa.1,aa.2.1,aa.2.2.1,aa.2.2.2.1,aa.2.2.2.2) ac).bind fun ab=>some (((ab.1.1,ab.1.2),ab.2),0))
theorem Z0h {N ao ap aq ar au:Nat} {av aw ax ay a1:Option Addr} {col:Zd} {w0:World} {ab:R0} {aj:Rc} {r:(R1×Int)} (c1 c2:Nat) (hm:Zd2 N ab aj=some r) (ae:Sl Za.str col w0 av ao ab.2.1) (af:Sl (Za.slice Za.str) col w0 aw ap ab.2.2.1) (ag:Sl (Za.slice (Za.int .i64)) col w0 ax aq ab.2.2.2.1) (ah:Sl (Za.slice (Za.pair (Za.pair Za.bool (Za.slice (Za.int .u32))) (Za.slice (Za.int .u32)))) col w0 ay ar ab.2.2.2.2) (h1:Sl (Za.pair (Za.int .i64) (Za.int .i64)) col w0 a1 au aj):
    Calls prog 52 #[(.agg #[.string ab.1,.slice av ab.2.1.length ao,.slice aw ab.2.2.1.length ap,.slice ax ab.2.2.2.1.length aq,.slice ay ab.2.2.2.2.length ar]),.slice a1 aj.length au] w0 (fun e w'=>∃ (col':Zd) (ra1:Option Addr) (rc2:Nat) (ra4:Option Addr) (rc5:Nat),e= .returned (.tuple #[(.agg #[.bool r.1.1.1,.slice ra1 r.1.1.2.length rc2,.slice ra4 r.1.2.length rc5]),.int .i64 r.2])∧Zg col w0 col' w'∧Zc (Za.int .u32) 79 c1 col' w' ra1 rc2 r.1.1.2∧Zc (Za.int .u32) 79 c2 col' w' ra4 rc5 r.1.2):=by
 refine Ym (m:=21) func52 rfl rfl rfl ?_;rw [Zd2.eq_1] at hm;have aa:=St.start col w0;refine go ?_;refine Xg (col:=(Zh col)) 1 rfl ?_;intro bd be a4 a5 ac;refine Xl (col:=a4) #[.bool false,.slice none (([]:List Int).length) 0,.slice none (([]:List Int).length) 0] 2 zeroValue47 ?_;intro bf bg bh az ad;refine go ?_;replace ac:=ac.gr az;refine lV _ (Z7 isAgg27 sizeOf27 ac)<|Yr rfl ?_;obtain ⟨ai,a6,hm⟩:=bZ hm;replace ae:=ae.keep (Zf.start col w0);replace af:=af.keep (Zf.start col w0);replace ag:=ag.keep (Zf.start col w0);replace ah:=ah.keep (Zf.start col w0);replace h1:=h1.keep (Zf.start col w0);replace aa:=(aa.grow a5).grow az;refine Zi (Zof 3 a6 (ae.ks aa) (af.ks aa) (ag.ks aa) (ah.ks aa) (h1.ks aa) Sl.nil) ?_;rintro _ bi ⟨bj,a0,a2,rfl,ak,bk⟩;refine ⟨_,rfl,?_⟩;refine lM (.tuple #[.slice a0 ai.1.length a2,.int .i64 ai.2])<|lV (.slice a0 ai.1.length a2) (Xv rfl rfl)<|lV (.int .i64 ai.2) (Xv rfl rfl)<|go ?_;replace ac:=ac.gr ak;replace ad:=ad.gr ak;replace aa:=aa.grow ak;refine Zo hm (fun hb hm=>go ?_) fun hb hm=>go ?_
 ·refine lV (.agg #[.bool false,.slice none (([]:List Int).length) 0,.slice none (([]:List Int).length) 0]) (Yz (l:=[_,_]) (qs:=[(0,2),(2,1)]) underlying47 zeroValue47 ⟨rfl,sizeOf45,rfl,sizeOf43,trivial⟩ rfl)<|Xo rfl<|Z4 ad ?_;intro bm a7 a8 a9;refine go ?_;cases hm;replace aa:=aa.kp a7 a8;exact ⟨rfl,_,W7 a9.atN,_,none,0,none,0,rfl,aa.fin (cm []),Zc.nil,Zc.nil⟩
 refine lV _ (Z7 isAgg27 sizeOf27 ac)<|Yr rfl ?_;obtain ⟨bn,ba,hm⟩:=bZ hm;refine Zi (Zog 4 5 ba (ae.ks aa) (af.ks aa) (ag.ks aa) (ah.ks aa) (h1.ks aa)) ?_;rintro _ bo ⟨bp,bq,br,bs,bt,rfl,a3,al,am⟩;refine ⟨_,rfl,?_⟩;replace ad:=ad.gr a3;refine Z4 ad ?_;intro bu an bb bc;refine go ?_;cases hm;replace aa:=(aa.grow a3).kp an bb;replace al:=al.kp an;replace am:=am.kp an;exact ⟨rfl,_,W7 bc.atN,_,_,_,_,_,rfl,aa.fin (cm [(4,c1),(5,c2)]),aa.fo al,aa.fo am⟩
theorem Z3i:Wf prog 97 2 16:=⟨Tryz.t97,_,rfl,rfl,rfl,rfl,rfl⟩
def Zkm (aa:Rc):Option Rc:=
  Zv ((([]:List R5).length+aa.length) * 16≤140737488355328∧([]:List R5).length+aa.length≤maxLen) (some (([]:List R5)++aa))
theorem Z18 {ad:Nat} {a0:Option Addr} {col:Zd} {w0:World} {ac r:Rc} (c1:Nat) (hm:Zkm ac=some r) (h0:Sl (Za.pair (Za.int .i64) (Za.int .i64)) col w0 a0 ad ac):
    Calls prog 145 #[.slice a0 ac.length ad] w0 (fun e w'=>∃ (col':Zd) (ra1:Option Addr) (rc2:Nat),e= .returned ((.slice ra1 r.length rc2))∧Zg col w0 col' w'∧Zc (Za.pair (Za.int .i64) (Za.int .i64)) 97 c1 col' w' ra1 rc2 r):=by
 refine Xc 2 (m:=8) func145 rfl rfl rfl rfl rfl ?_;rw [Zkm.eq_1] at hm;have aa:=St.start col w0;refine go ?_;replace h0:=h0.keep (Zf.start col w0);rcases Zm9 h0 with ab | ab
 ·replace hm:some ([]:List R5)=some r:=by have h0:=ab.2;subst h0;simpa [Zv,maxLen] using hm
  refine lv (v:=.bool a0.isNone) rfl rfl (Zdh underlying82 rfl)<|.ld (d:=4) (v:=.bool true) (congrArg Value.bool ab.1)<|Zk<|Yg rfl<|go ?_;cases hm;exact ⟨rfl,_,none,0,rfl,aa.fin (cm []),Zc.nil⟩
 refine lv (v:=.bool a0.isNone) rfl rfl (Zdh underlying82 rfl)<|.ld (d:=4) (v:=.bool false) (congrArg Value.bool ab)<|Zk<|Yf rfl<|go ?_;refine Zl7 (col:=(Zh col)) (r:=(Za.pair (Za.int .i64) (Za.int .i64))) 1 rfl underlying82 Z3i rfl ?_;intro aj ak al ae af;refine Yr rfl ?_;obtain ⟨ag,hm⟩:=Zx hm;replace h0:=h0.gr ae;refine Y3 af h0.srcC ag ?_;intro am an ao ap ah ai;refine go ?_;cases hm;replace aa:=(aa.grow ae).kpp ah;exact ⟨rfl,_,_,_,rfl,aa.fin (cm [(1,c1)]),aa.fo ai⟩
def Zd1 (N:Nat) (aa:R0) (ah:Rc) (ab:Rc):Option (R1×Int):=
  (Zkm ah).bind fun ac=>Zv ((ac.length+ab.length) * 16≤140737488355328∧ac.length+ab.length≤maxLen) ((Tj N (aa.1,aa.2.1,aa.2.2.1,aa.2.2.2.1,aa.2.2.2.2) (ac++ab) ([]:List Int)).bind fun ag=>if (!decide (ag.2=0))=true then (some (((false,([]:List Int)),([]:List Int)),ag.2)) else ((Zae N (aa.1,aa.2.1,aa.2.2.1,aa.2.2.2.1,aa.2.2.2.2) (ac++ab)).bind fun ae=>(Zae N (aa.1,aa.2.1,aa.2.2.1,aa.2.2.2.1,aa.2.2.2.2) ab).bind fun af=>(Zgw N ((ae.1.1,ae.1.2),ae.2) ((af.1.1,af.1.2),af.2)).bind fun ad=>if (!decide (ad.2=0))=true then (some (((false,([]:List Int)),([]:List Int)),52)) else (some (((ad.1.1.1,ad.1.1.2),ad.1.2),0))))
theorem Z0g {N a9 ba bb bc bx bo:Nat} {bd be bf bg a1 a2:Option Addr} {col:Zd} {w0:World} {ab:R0} {bp a0:Rc} {r:(R1×Int)} (c1 c2:Nat) (hm:Zd1 N ab bp a0=some r) (a3:Sl Za.str col w0 bd a9 ab.2.1) (a4:Sl (Za.slice Za.str) col w0 be ba ab.2.2.1) (a5:Sl (Za.slice (Za.int .i64)) col w0 bf bb ab.2.2.2.1) (a6:Sl (Za.slice (Za.pair (Za.pair Za.bool (Za.slice (Za.int .u32))) (Za.slice (Za.int .u32)))) col w0 bg bc ab.2.2.2.2) (h1:Sl (Za.pair (Za.int .i64) (Za.int .i64)) col w0 a1 bx bp) (h2:Sl (Za.pair (Za.int .i64) (Za.int .i64)) col w0 a2 bo a0):
    Calls prog 53 #[(.agg #[.string ab.1,.slice bd ab.2.1.length a9,.slice be ab.2.2.1.length ba,.slice bf ab.2.2.2.1.length bb,.slice bg ab.2.2.2.2.length bc]),.slice a1 bp.length bx,.slice a2 a0.length bo] w0 (fun e w'=>∃ (col':Zd) (ra1:Option Addr) (rc2:Nat) (ra4:Option Addr) (rc5:Nat),e= .returned (.tuple #[(.agg #[.bool r.1.1.1,.slice ra1 r.1.1.2.length rc2,.slice ra4 r.1.2.length rc5]),.int .i64 r.2])∧Zg col w0 col' w'∧Zc (Za.int .u32) 79 c1 col' w' ra1 rc2 r.1.1.2∧Zc (Za.int .u32) 79 c2 col' w' ra4 rc5 r.1.2):=by
 refine Ym (m:=41) func53 rfl rfl rfl ?_;rw [Zd1.eq_1] at hm;have aa:=St.start col w0;refine go ?_;refine Xg (col:=(Zh col)) 1 rfl ?_;intro c4 c5 b7 b8 ag;refine Xl (col:=b7) #[.bool false,.slice none (([]:List Int).length) 0,.slice none (([]:List Int).length) 0] 2 zeroValue47 ?_;intro c6 c7 c8 bz ac;refine go ?_;obtain ⟨b9,ca,hm⟩:=bZ hm;replace h1:=h1.keep (Zf.start col w0);replace aa:=(aa.grow b8).grow bz;refine Zi (Z18 3 ca (h1.ks aa)) ?_;rintro _ c9 ⟨da,db,dc,rfl,bq,cb⟩;refine ⟨_,rfl,?_⟩;refine Yr rfl ?_;obtain ⟨cc,hm⟩:=Zx hm;replace h2:=h2.keep (Zf.start col w0);replace aa:=aa.grow bq;refine Y3 cb (h2.ks aa).srcC cc ?_;intro cd ce cf b0 br aw;refine go ?_;replace ag:=((ag.gr bz).gr bq).kpp br;refine lV _ (Z7 isAgg27 sizeOf27 ag)<|Yr rfl ?_;obtain ⟨bh,cg,hm⟩:=bZ hm;replace a3:=a3.keep (Zf.start col w0);replace a4:=a4.keep (Zf.start col w0);replace a5:=a5.keep (Zf.start col w0);replace a6:=a6.keep (Zf.start col w0);replace aa:=aa.kpp br;refine Zi (Zof 4 cg ((a3.ks aa).froz 3) ((a4.ks aa).froz 3) ((a5.ks aa).froz 3) ((a6.ks aa).froz 3) (aw.toSlF (Zn.pair (Zn.int .i64) (Zn.int .i64))) Sl.nil) ?_;rintro _ ao ⟨ch,b1,b2,rfl,ax,dd⟩;refine ⟨_,rfl,?_⟩;replace ax:=ax.thawR (col:=b0);generalize Xf cf.heap.size b0 ch=ah at *;refine lM (.tuple #[.slice b1 bh.1.length b2,.int .i64 bh.2])<|lV (.slice b1 bh.1.length b2) (Xv rfl rfl)<|lV (.int .i64 bh.2) (Xv rfl rfl)<|go ?_;replace ac:=((ac.gr bq).kpp br).gr ax;replace aw:=aw.gr ax;replace ag:=ag.gr ax;replace aa:=aa.grow ax;refine Zo hm (fun hb hm=>go ?_) fun hb hm=>go ?_
 ·refine lV (.agg #[.bool false,.slice none (([]:List Int).length) 0,.slice none (([]:List Int).length) 0]) (Yz (l:=[_,_]) (qs:=[(0,2),(2,1)]) underlying47 zeroValue47 ⟨rfl,sizeOf45,rfl,sizeOf43,trivial⟩ rfl)<|Xo rfl<|Z4 ac ?_;intro de ci cj ck;refine go ?_;cases hm;replace aa:=aa.kp ci cj;exact ⟨rfl,_,W7 ck.atN,_,none,0,none,0,rfl,aa.fin (cm []),Zc.nil,Zc.nil⟩
 have bi:=Z1.clip (fun _=>false) ah ao;refine Zi0 (col:=ah) [(0,0),(1,1),(3,0),(4,1),(2,3),(5,3),(6,3),(7,1),(8,1),(9,1),(10,4),(11,2),(12,1)] (by kernel_rfl) (by kernel_rfl) ⟨fun h=>absurd h (by decide),fun h=>absurd h (by decide),fun h=>absurd h (by decide),fun h=>absurd h (by decide),fun h=>absurd h (by decide),fun h=>absurd h (by decide),fun h=>absurd h (by decide),fun h=>absurd h (by decide),fun h=>absurd h (by decide),fun h=>absurd h (by decide),fun _=>⟨_,_,_,rfl,Sd zeroValue47⟩,fun h=>absurd h (by decide),fun h=>absurd h (by decide),trivial⟩ ?_;replace ag:=ag.kpp bi;refine Tc (v:=(.agg #[.string ab.1,.slice bd ab.2.1.length a9,.slice be ab.2.2.1.length ba,.slice bf ab.2.2.2.1.length bb,.slice bg ab.2.2.2.2.length bc])) rfl rfl (fun _ hC=>Yj isAgg27 sizeOf27 rfl rfl (ag.atN.gr (hC.bl (Zl ao ah)))) ?_;refine Vg (v:=(.slice cd ((b9++a0).length) ce)) rfl rfl (fun _=>Un rfl) ?_;refine Tc (v:=(.agg #[.string ab.1,.slice bd ab.2.1.length a9,.slice be ab.2.2.1.length ba,.slice bf ab.2.2.2.1.length bb,.slice bg ab.2.2.2.2.length bc])) rfl rfl (fun _ hC=>Yj isAgg27 sizeOf27 rfl rfl (ag.atN.gr (hC.bl (Zl ao ah)))) ?_;refine Vg (v:=(.slice a2 a0.length bo)) rfl rfl (fun _=>Un rfl) ?_;refine W8 rfl rfl ?_;intro cl hC0;have hC:=hC0.bl (Zl ao ah);obtain ⟨df,cn,hm⟩:=bZ hm;replace aw:=(aw.kpp bi).gr hC;replace aa:=(aa.kpp bi).grow hC;refine Zi (Zog 5 6 cn ((a3.ks aa).froz 3) ((a4.ks aa).froz 3) ((a5.ks aa).froz 3) ((a6.ks aa).froz 3) (aw.toSlF (Zn.pair (Zn.int .i64) (Zn.int .i64)))) ?_;rintro _ ay ⟨co,dg,dh,di,dj,rfl,ai,ar,au⟩;refine ⟨_,rfl,?_⟩;replace ar:=ar.thaw (Z3 .u32) ai ((Fz.refl (col:=(Zl ao ah))).froz 3) (by decide);replace au:=au.thaw (Z3 .u32) ai ((Fz.refl (col:=(Zl ao ah))).froz 3) (by decide);replace ai:=ai.thawR (col:=(Zl ao ah));generalize Xf cl.heap.size (Zl ao ah) co=a7 at *;refine Zk ?_;refine ⟨fun w'=>Zg (Zl ay a7) ay (Zl ay a7) w',fun g=>(Zl ay a7) g=497,Zg.refl _ _,W0,fun _=>⟨fun _ h=>V3 hC0 ai h,fun b hb=>ai.below.block b hb,fun g x1 x2=>V8 ai g x1 (by first | exact x2 | (simp only [Xq,x2];rfl) | (simp only [Xq,Xx,x2];rfl))⟩,?_⟩;have bj:=Z1.clip (fun _=>false) a7 ay;refine W8 rfl rfl ?_;intro dk hC0
 replace ac:=(((ac.kpp bi).gr hC).gr ai).kpp bj;have hC:=hC0.bl (Zl ay a7);obtain ⟨dl,cp,hm⟩:=bZ hm;replace aa:=((aa.grow ai).kpp bj).grow hC;refine Zi (Zog 7 8 cp (a3.ks aa) (a4.ks aa) (a5.ks aa) (a6.ks aa) (h2.ks aa)) ?_;rintro _ af ⟨aj,dm,dn,dp,dq,rfl,av,bs,bt⟩;refine ⟨_,rfl,?_⟩;refine Zk ?_;refine ⟨fun w'=>Zg (Zl af aj) af (Zl af aj) w',fun g=>(Zl af aj) g=497,Zg.refl _ _,W0,fun _=>⟨fun _ h=>V3 hC0 av h,fun b hb=>av.below.block b hb,fun g x1 x2=>V8 av g x1 (by first | exact x2 | (simp only [Xq,x2];rfl) | (simp only [Xq,Xx,x2];rfl))⟩,?_⟩;have az:=Z1.clip (fun _=>false) aj af;refine W8 rfl rfl ?_;intro cq hC0;replace ar:=(((ar.kpp bj).gr hC).gr av).kpp az;replace au:=(((au.kpp bj).gr hC).gr av).kpp az;replace ac:=((ac.gr hC).gr av).kpp az;have hC:=hC0.bl (Zl af aj);obtain ⟨ak,cr,hm⟩:=bZ hm;replace bs:=(bs.kpp az).gr hC;replace bt:=(bt.kpp az).gr hC;replace ar:=ar.gr hC;replace au:=au.gr hC;refine Zi (Zz9 9 10 cr ((((ar.toSlF (Zn.int .u32)).froz 6).froz 7).froz 8) ((((au.froz 5 (by decide)).toSlF (Zn.int .u32)).froz 7).froz 8) ((((bs.froz 5 (by decide)).froz 6 (by decide)).toSlF (Zn.int .u32)).froz 8) ((((bt.froz 5 (by decide)).froz 6 (by decide)).froz 7 (by decide)).toSlF (Zn.int .u32))) ?_;rintro _ ad ⟨cs,b3,b4,b5,b6,rfl,al,am,an⟩;refine ⟨_,rfl,?_⟩;replace am:=am.thaw (Z3 .u32) al (((((Fz.refl (col:=(Zl af aj))).froz 5).froz 6).froz 7).froz 8) (by decide);replace an:=an.thaw (Z3 .u32) al (((((Fz.refl (col:=(Zl af aj))).froz 5).froz 6).froz 7).froz 8) (by decide);replace al:=al.thawR (col:=(Zl af aj));generalize Xf cq.heap.size (Zl af aj) cs=ae at *;refine Zk ?_;refine ⟨fun w'=>Zg (Zl ad ae) ad (Zl ad ae) w',fun g=>(Zl ad ae) g=497,Zg.refl _ _,W0,fun _=>⟨fun _ h=>V3 hC0 al h,fun b hb=>al.below.block b hb,fun g x1 x2=>V8 al g x1 (by first | exact x2 | (simp only [Xq,x2];rfl) | (simp only [Xq,Xx,x2];rfl))⟩,?_⟩;have bk:=Z1.clip (fun _=>false) ae ad;refine Vg (v:=(.tuple #[(.agg #[.bool ak.1.1.1,.slice b3 ak.1.1.2.length b4,.slice b5 ak.1.2.length b6]),.int .i64 ak.2])) rfl rfl (fun _=>Un rfl) ?_
 refine Vg (v:=(.agg #[.bool ak.1.1.1,.slice b3 ak.1.1.2.length b4,.slice b5 ak.1.2.length b6])) rfl rfl (fun _=>Xv rfl rfl) ?_;refine Vg (v:=(.int .i64 ak.2)) rfl rfl (fun _=>Xv rfl rfl) ?_;refine Zi1 rfl rfl (Sd zeroValue47) ?_;intro ap ct;refine W8 rfl rfl ?_;intro cu ⟨hC0,hZ0⟩;replace aa:=((((aa.grow av).kpp az).grow hC).grow al).kpp bk;replace ac:=((ac.gr hC).gr al).kpp bk;have hC:=hC0.bl (Zl ad ae);obtain ⟨bm,bu⟩:=Zge (col:=(Zl ad ae)) 11 hZ0 ct;replace bu:Zm 47 11 (Xk ap 11 (Zl ad ae)) cu ap #[.bool false,.slice none (([]:List Int).length) 0,.slice none (([]:List Int).length) 0]:=bu;refine Z4 bu ?_;intro aq bn cv bv;refine Zk ?_;refine ⟨fun w'=>Zg (Zl aq (Xk ap 11 (Zl ad ae))) aq (Zl aq (Xk ap 11 (Zl ad ae))) w',fun g=>(Zl aq (Xk ap 11 (Zl ad ae))) g=497,Zg.refl _ _,W0,fun h=>absurd h (by decide),?_⟩;have a8:=Z1.clip (fun _=>false) (Xk ap 11 (Zl ad ae)) aq;refine Vg (v:=(.int .i64 ak.2)) rfl rfl (fun _=>U0 rfl) ?_;refine Zi2 ?_;replace am:=((((am.kpp bk).gr hC).kpp bm).kp bn).kpp a8;replace an:=((((an.kpp bk).gr hC).kpp bm).kp bn).kpp a8;replace ac:=(((ac.gr hC).kpp bm).kp bn).kpp a8;replace aa:=(((aa.grow hC).kpp bm).kp bn cv).kpp a8;intro cw hC;replace hC:Zg (Zl aq (Xk ap 11 (Zl ad ae))) aq (Zl aq (Xk ap 11 (Zl ad ae))) cw:=.of_below hC.below;refine go ?_;replace bv:=(bv.kpp a8).gr hC;replace am:=am.gr hC;replace an:=an.gr hC;replace ac:=ac.gr hC;replace aa:=aa.grow hC;refine Zo hm (fun hb hm=>go ?_) fun hb hm=>go ?_
 ·refine lV (.agg #[.bool false,.slice none (([]:List Int).length) 0,.slice none (([]:List Int).length) 0]) (Yz (l:=[_,_]) (qs:=[(0,2),(2,1)]) underlying47 zeroValue47 ⟨rfl,sizeOf45,rfl,sizeOf43,trivial⟩ rfl)<|Z4 ac ?_;intro dr cx cy cz;refine go ?_;cases hm;replace aa:=aa.kp cx cy;exact ⟨rfl,_,W7 cz.atN,_,none,0,none,0,rfl,aa.fin (cm []),Zc.nil,Zc.nil⟩
 refine lV _ (Z7 isAgg47 sizeOf47 bv)<|Z4 ac ?_;intro ds bw c0 c3;refine go ?_;cases hm;replace am:=am.kp bw;replace an:=an.kp bw;replace aa:=aa.kp bw c0;exact ⟨rfl,_,W7 c3.atN,_,_,_,_,_,rfl,aa.fin (cm [(9,c1),(10,c2)]),aa.fo am,aa.fo an⟩
def Vb (n:Xe) (k:Nat):Rat:=Vv n (X4 (Zq n) k) n.2.1.length 0 1
def Qe (w:List Int) (F:List R5):Bool:=F.all fun f=>decide (w.getD f.1.toNat 0=f.2)
def Zb0 (n:Xe) (F:List R5):Nat→Nat→Rat→Rat
 | _,0,q=>q
 | k,m+1,q=>Zb0 n F (k+1) m (if Qe (X4 (Zq n) k) F=true then q+Vb n k else q)
section
variable {N W K:Nat} {n:Xe} (hf:Y4 N n)
include hf
theorem Z6i {w:List Int} (hw:S6 (Zq n) w) (hP:Z6 (Zq n)≤65536) (hN:2000000<N):Zim N n w=some (if Wu (Zq n) w+1<Z6 (Zq n) then (X4 (Zq n) (Wu (Zq n) w+1),true) else ([],false)):=by
 have hle:=hf.le;have hv:=hf.ev.v
 obtain ⟨g1,_⟩:=Zst hw
 have hsz:(Zq n).length=n.2.1.length:=by rw [Zq,List.length_map,hv]
 have h:=Zx9 hf hw hP w.length N (Nat.le_refl _) (by omega) (by
  rw [List.drop_eq_nil_of_le (by omega),List.drop_length];rfl)
 rw [List.take_length,Nat.sub_self,List.replicate_zero,List.append_nil] at h
 rw [Zim,Zz (by simp only [nN,maxLen];omega),List.nil_append,Zr (by omega)]
 exact h
variable (hs:W4 n W) (hr:Xh N (8 * K+40)) (hWK:1025 * (W+2)+15≤K) (hN:4611686018427387903<N) (hP:Z6 (Zq n)≤65536)
include hs hr hWK hN hP
theorem Zxa:∀ (m k f:Nat),k+(m+1)=Z6 (Zq n)→m+1<f→Zc1 N n f ((List.range k).map (X4 (Zq n))) ((List.range k).map fun j=>Zs (Vb n j)) (X4 (Zq n) k) true=some ((List.range (Z6 (Zq n))).map (X4 (Zq n)),(List.range (Z6 (Zq n))).map fun j=>Zs (Vb n j))
 | m,k,0,_,h=>by omega
 | m,k,f+1,hk,hfu=>by
  have hd:=Zjf (Zq n) k (S4 hf) (by omega)
  have hch:Zif N (n.1,n.2.1,n.2.2.1,n.2.2.2.1,n.2.2.2.2) (X4 (Zq n) k)=some (Zs (Vb n k)):=Z56 hf (Zjg hf hd) hs hr (by omega) (by omega)
  have hnx:Zim N (n.1,n.2.1,n.2.2.1,n.2.2.2.1,n.2.2.2.2) (X4 (Zq n) k)=_:=Z6i hf hd hP (by omega)
  have e1:(List.range k).map (X4 (Zq n))++[X4 (Zq n) k]=(List.range (k+1)).map (X4 (Zq n)):=by rw [List.range_succ,List.map_append,List.map_singleton]
  have e2:((List.range k).map fun j=>Zs (Vb n j))++[Zs (Vb n k)]=(List.range (k+1)).map fun j=>Zs (Vb n j):=by rw [List.range_succ,List.map_append,List.map_singleton]
  rw [Zc1.eq_2,if_pos rfl,Zz (by simp only [List.length_map,List.length_range,List.length_singleton,maxLen];omega),hch,oB,Zz (by simp only [List.length_map,List.length_range,List.length_singleton,maxLen];omega),hnx,oB,Zv9 (Zq n) k (S4 hf) (by omega)]
  cases m with
  | zero=>
   rw [if_neg (by omega)]
   obtain ⟨f,rfl⟩:∃ f',f=f'+1:=⟨f - 1,by omega⟩
   rw [Zc1.eq_2]
   dsimp only
   rw [if_neg (by decide),e1,← hk]
   exact congrArg (fun z=>some ((List.range (k+1)).map (X4 (Zq n)),z)) e2
  | succ m=>
   rw [if_pos (by omega),e1]
   dsimp only
   have ih:=Zxa m (k+1) f (by omega) (by omega)
   rw [← e2] at ih
   exact ih
theorem Z53 (hA:Vt N n [] []=some 0):Zie N n=some ((List.range (Z6 (Zq n))).map (X4 (Zq n)),(List.range (Z6 (Zq n))).map fun j=>Zs (Vb n j)):=by
 have hA':Vt N (n.1,n.2.1,n.2.2.1,n.2.2.2.1,n.2.2.2.2) [] []=some 0:=hA
 have hle:=hf.le;have hv:=hf.ev.v
 have hpos:=Zf2 (Zq n) (S4 hf)
 have h:=Zxa hf hs hr hWK hN hP (Z6 (Zq n) - 1) 0 N (by omega) (by omega)
 have hz:X4 (Zq n) 0=List.replicate n.2.1.length 0:=by
  have hl:(Zq n).length=n.2.1.length:=by rw [Zq,List.length_map,hv]
  rw [← hl]
  generalize Zq n=ss
  induction ss with
  | nil=>rfl
  | cons s ss ih=>rw [X4,Nat.zero_div,Nat.zero_mod,ih,nC,List.replicate_succ];rfl
 rw [hz] at h
 rw [Zie,hA',oB,if_neg (by decide),Zz (by simp only [maxLen];omega)]
 exact h
omit hf hs hr hWK hP hN in
theorem Zv8 {w:List Int} (hw:Uq n w):∀ F:List R5,F.all (Vu n)=true→Zd3 w F=some (Qe w F)
 | [],_=>rfl
 | f :: F,h=>by
  rw [List.all_cons,Bool.and_eq_true] at h
  have h1:=h.1
  simp only [Vu,Bool.and_eq_true,decide_eq_true_eq] at h1
  have hat:Zj w f.1=some (w.getD f.1.toNat 0):=by
   have:=Vk (l:=w) 0 (j:=f.1.toNat) (by rw [hw.len];omega)
   rwa [show ((f.1.toNat:Nat):Int)=f.1 by omega] at this
  have ih:=Zv8 hw F h.2
  rw [Zd3.eq_2,hat,oB,Qe,List.all_cons]
  by_cases he:w.getD f.1.toNat 0=f.2
  ·rw [if_neg (by rw [decide_eq_true he];decide),ih,decide_eq_true he,Bool.true_and,Qe]
  ·rw [if_pos (by rw [decide_eq_false he];rfl),decide_eq_false he,Bool.false_and]
omit hf hs hr hWK hP hN in
theorem Zx4 {w:List Int} (hw:Uq n w) (F:List R5) (hF:F.all (Vu n)=true) (hl:F.length≤4194304):∀ (f i:Nat),i≤F.length→F.length<f+i→Zfs N w F f (i:Int)=some (Qe w (F.drop i))
 | 0,i,h1,h2=>by omega
 | f+1,i,h1,h2=>by
  rw [Zfs.eq_2]
  by_cases hi:i<F.length
  ·have h1:=List.all_eq_true.1 hF _ (List.getElem_mem hi)
   simp only [Vu,Bool.and_eq_true,decide_eq_true_eq] at h1
   have hat:Zj w F[i].1=some (w.getD F[i].1.toNat 0):=by
    have:=Vk (l:=w) 0 (j:=F[i].1.toNat) (by rw [hw.len];omega)
    rwa [show ((F[i].1.toNat:Nat):Int)=F[i].1 by omega] at this
   rw [if_pos (dT (by omega)),Zy hi,oB,hat,oB,List.drop_eq_getElem_cons hi,Qe,List.all_cons]
   by_cases he:w.getD F[i].1.toNat 0=F[i].2
   ·rw [if_neg (by rw [decide_eq_true he];decide),wS (by omega),Zx4 hw F hF hl f (i+1) (by omega) (by omega),decide_eq_true he,Bool.true_and,Qe]
   ·rw [if_pos (by rw [decide_eq_false he];rfl),decide_eq_false he,Bool.false_and]
  ·rw [if_neg (dF (by omega)),List.drop_eq_nil_of_le (by omega)];rfl
variable (h6:Z6 (Zq n)≤600)
include h6
omit hN hP hr h6 in
theorem Zk3 {q:Rat} {j:Nat} (hj:j≤600) (h:Bd (Uj n.2.2.2.2) j q):qs q≤K:=by
 have ht:=hf.ev.t;have hle:=hf.le
 have hD:=Zly n.2.2.2.2
 have h2:=(h.up (K:=600) hj).qs hD (by decide)
 have h3:=Uu 600 (Uj n.2.2.2.2)
 have h4:=Zsl (W:=W) n.2.2.2.2 fun t h=>⟨hs.tq t h,hs.lim t h⟩
 have h5:(Ze 600).length≤1:=Wv.2 (by decide)
 have h6:n.2.2.2.2.length * (W+1)≤1024 * (W+1):=Nat.mul_le_mul_right _ (by omega)
 omega
omit hN in
theorem Zpu (F:List R5) (hF:F.all (Vu n)=true):∀ (m k:Nat) (q:Rat),k+m=Z6 (Zq n)→Bd (Uj n.2.2.2.2) k q→Za5 N F (Zdo n k m) (Zs q).1.1 (Zs q).1.2 (Zs q).2=some (Zs (Zb0 n F k m q))∧qs (Zb0 n F k m q)≤K
 | 0,k,q,hk,hb=>⟨by rw [Zdo,Za5.eq_1,Zb0],by rw [Zb0];exact Zk3 hf hs hWK (by omega) hb⟩
 | m+1,k,q,hk,hb=>by
  have hd:=Zjg hf (Zjf (Zq n) k (S4 hf) (by omega))
  have hh:Zmc (X4 (Zq n) k) F=some (Qe (X4 (Zq n) k) F):=Zv8 hd F hF
  have hpb:Bd (Uj n.2.2.2.2) 1 (Vb n k):=Zwd hf hd
  have q1:=Zk3 hf hs hWK (by omega) hb
  have q2:=Zk3 hf hs hWK (by decide) hpb
  rw [Zdo,Za5.eq_2]
  dsimp only
  rw [hh,oB,Zb0]
  cases hb2:Qe (X4 (Zq n) k) F with
  | true=>
   have ad:Zac N (((Zs q).1.1,(Zs q).1.2),(Zs q).2) (((Zs (Vb n k)).1.1,(Zs (Vb n k)).1.2),(Zs (Vb n k)).2)=some (Zs (q+Vb n k)):=by
    have:=Zo3 (T4 q1) (T4 q2) (hr.mono (by omega))
    rwa [V4,V4] at this
   have hD:=Zly n.2.2.2.2
   have ih:=Zpu F hF m (k+1) (q+Vb n k) (by omega) (hb.add hpb hD)
   have ad':Zac N (((Zs q).1.1,(Zs q).1.2),(Zs q).2) (((Zs (Vv n (X4 (Zq n) k) n.2.1.length 0 1)).1.1,(Zs (Vv n (X4 (Zq n) k) n.2.1.length 0 1)).1.2),(Zs (Vv n (X4 (Zq n) k) n.2.1.length 0 1)).2)=some (Zs (q+Vb n k)):=ad
   rw [if_pos rfl,if_pos rfl,ad',oB]
   exact ih
  | false=>
   rw [if_neg (by decide),if_neg (by decide)]
   exact Zpu F hF m (k+1) q (by omega) (hb.up (by omega))
theorem Zqh (F:List R5) (hF:F.all (Vu n)=true) (hl:F.length≤4194304):∀ (m k f:Nat) (q:Rat),k+m=Z6 (Zq n)→m<f→Bd (Uj n.2.2.2.2) k q→Zao N F ((List.range (Z6 (Zq n))).map (X4 (Zq n)),(List.range (Z6 (Zq n))).map fun j=>Zs (Vb n j)) f (Zs q).1.1 (Zs q).1.2 (Zs q).2 (k:Int)=some (Zs (Zb0 n F k m q))
 | m,k,0,q,_,h,_=>by omega
 | 0,k,f+1,q,hk,_,hb=>by
  rw [Zao.eq_2,List.length_map,List.length_range,if_neg (dF (by omega)),Zb0]
 | m+1,k,f+1,q,hk,hfu,hb=>by
  have hd:=Zjg hf (Zjf (Zq n) k (S4 hf) (by omega))
  have hh:Zmu N (X4 (Zq n) k) F=some (Qe (X4 (Zq n) k) F):=by
   have:=Zx4 (N:=N) hd F hF hl N 0 (Nat.zero_le _) (by omega)
   rw [List.drop_zero] at this
   exact this
  have hpb:Bd (Uj n.2.2.2.2) 1 (Vb n k):=Zwd hf hd
  have q1:=Zk3 hf hs hWK (by omega) hb
  have q2:=Zk3 hf hs hWK (by decide) hpb
  have a1:Zj ((List.range (Z6 (Zq n))).map (X4 (Zq n))) (k:Int)=some (X4 (Zq n) k):=by
   rw [Zy (by rw [List.length_map,List.length_range];omega),List.getElem_map,List.getElem_range]
  have a2:Zj ((List.range (Z6 (Zq n))).map fun j=>Zs (Vb n j)) (k:Int)=some (Zs (Vb n k)):=by
   rw [Zy (by rw [List.length_map,List.length_range];omega),List.getElem_map,List.getElem_range]
  rw [Zao.eq_2,List.length_map,List.length_range,if_pos (dT (by omega))]
  dsimp only
  rw [a1,oB,hh,oB,Zb0]
  cases hb2:Qe (X4 (Zq n) k) F with
  | true=>
   have ad:Zey N (((Zs q).1.1,(Zs q).1.2),(Zs q).2) (((Zs (Vb n k)).1.1,(Zs (Vb n k)).1.2),(Zs (Vb n k)).2)=some (Zs (q+Vb n k)):=by
    have:=Zxr (T4 q1) (T4 q2) (hr.mono (by omega))
    rwa [V4,V4] at this
   have hD:=Zly n.2.2.2.2
   rw [if_pos rfl,if_pos rfl,a2,oB,ad,oB,Ziq,wS (by omega)]
   exact Zqh F hF hl m (k+1) f _ (by omega) (by omega) (hb.add hpb hD)
  | false=>
   rw [if_neg (by decide),if_neg (by decide),Ziq,wS (by omega)]
   exact Zqh F hF hl m (k+1) f q (by omega) (by omega) (hb.up (by omega))
theorem Zqn (hq:∀ t ∈ n.2.2.2.2,Xz (t.map Ws)≤W) (hA:Vt N n [] []=some 0) (F:List R5) (hF:F.all (Vu n)=true) (hl:F.length≤4194304):∃ q,Zae N n F=some (Zs q)∧Zan N n F=some (Zs q)∧qs q≤K:=by
 have ja:Zgy N (n.1,n.2.1,n.2.2.1,n.2.2.2.1,n.2.2.2.2)=some (Zdo n 0 (Z6 (Zq n))):=Z36 hf hs hr (by omega) (by omega) hq hP
 have ra:Zie N (n.1,n.2.1,n.2.2.1,n.2.2.2.1,n.2.2.2.2)=_:=Z53 hf hs hr hWK hN hP hA
 obtain ⟨p1,p2⟩:=Zpu hf hs hr hWK hP h6 F hF (Z6 (Zq n)) 0 0 (by omega) (Bd.zero _ _)
 have r1:=Zqh hf hs hr hWK hN hP h6 F hF hl (Z6 (Zq n)) 0 N 0 (by omega) (by omega) (Bd.zero _ _)
 refine ⟨_,?_,?_,p2⟩
 ·rw [Zae,Z3y (hr.mono (by omega)),oB,ja,oB]
  exact p1
 ·rw [Zan,ra,oB,Zy5 (hr.mono (by omega)),oB]
  exact r1
omit hf hs hr hWK hN hP h6 in
theorem Zvo {F:List R5} {V:List Int} (h:Ug n F V=0):F.all (Vu n)=true:=by
 rw [Ug] at h
 split at h
 ·assumption
 ·cases h
end
def Zih (aa:R1):Option ((Bool×R6)×R6):=
  Zv ((([]:List Int).length+aa.1.2.length) * 4≤140737488355328∧([]:List Int).length+aa.1.2.length≤maxLen) (Zv (((([]:List Int)++aa.1.2).length+[901,902].length) * 4≤140737488355328∧(([]:List Int)++aa.1.2).length+[901,902].length≤maxLen) (Zv ((([]:List Int).length+aa.2.length) * 4≤140737488355328∧([]:List Int).length+aa.2.length≤maxLen) (Zv (((([]:List Int)++aa.2).length+[903,904].length) * 4≤140737488355328∧(([]:List Int)++aa.2).length+[903,904].length≤maxLen) (Zv ((0:Int)≤(aa.1.2.length:Int)∧(aa.1.2.length:Int)≤(((([]:List Int)++aa.1.2)++[901,902]).length:Int)) (Zv ((0:Int)≤(aa.2.length:Int)∧(aa.2.length:Int)≤(((([]:List Int)++aa.2)++[903,904]).length:Int)) (some ((aa.1.1,((Int.toNat (aa.1.2.length:Int)),(([]:List Int)++aa.1.2)++[901,902])),((Int.toNat (aa.2.length:Int)),(([]:List Int)++aa.2)++[903,904]))))))))
theorem Z1r {a1 a2:Nat} {a3 a4:Option Addr} {col:Zd} {w0:World} {aa:R1} {r:((Bool×R6)×R6)} (hm:Zih aa=some r) (ap:Sl (Za.int .u32) col w0 a3 a1 aa.1.2) (aq:Sl (Za.int .u32) col w0 a4 a2 aa.2):
    Calls prog 29 #[(.agg #[.bool aa.1.1,.slice a3 aa.1.2.length a1,.slice a4 aa.2.length a2])] w0 (fun e w'=>∃ (col':Zd) (ra1:Option Addr) (rc2:Nat) (ra4:Option Addr) (rc5:Nat),e= .returned ((.agg #[.bool r.1.1,.slice ra1 ((r.1.2.2.take r.1.2.1).length) rc2,.slice ra4 ((r.2.2.take r.2.1).length) rc5]))∧Zg col w0 col' w'∧Sl (Za.int .u32) col' w' ra1 rc2 r.1.2.2∧Sl (Za.int .u32) col' w' ra4 rc5 r.2.2):=by
 refine Ym (m:=36) func29 rfl rfl rfl ?_;rw [Zih.eq_1] at hm;have ab:=St.start col w0;refine go ?_;refine Xg (col:=(Zh col)) 1 rfl ?_;intro bh bi a6 a7 ad;refine Xl (col:=a6) #[.bool false,.slice none (([]:List Int).length) 0,.slice none (([]:List Int).length) 0] 2 zeroValue47 ?_;intro bj bk bm a5 ar;refine go ?_;refine Xd ⟨_,_,rfl⟩ ?_;refine Xd (X2 ⟨_,_,rfl⟩) ?_;replace ad:=ad.gr a5;refine lW ((((ad.atN).part 0 2 _ rfl)).nth (q:=1) rfl) ?_;obtain ⟨a8,hm⟩:=Zx hm;replace ap:=ap.keep (Zf.start col w0);replace ab:=(ab.grow a7).grow a5;refine Y3 (c:=3) Zc.nil (ap.ks ab).srcC a8 ?_;intro bn bo bp a9 au av;refine go ?_;refine W1 (col:=a9) [901,902] 4 ?_;intro bq br bs ak ba;obtain ⟨bb,hm⟩:=Zx hm;replace av:=av.gr ak;refine Y3 av (ba.srcN (NB.int (k:=.u32))) bb ?_;intro ah ai bt bu aw ac;refine go ?_;refine Xd ⟨_,_,rfl⟩ ?_;replace ad:=((ad.kpp au).gr ak).kpp aw;refine lW ((ad.atN).nth (q:=2) rfl) ?_;obtain ⟨bc,hm⟩:=Zx hm;replace aq:=aq.keep (Zf.start col w0);replace ab:=((ab.kpp au).grow ak).kpp aw;refine Y3 (c:=5) Zc.nil (aq.ks ab).srcC bc ?_;intro bv bw bx bd al ax;refine go ?_;refine W1 (col:=bd) [903,904] 6 ?_;intro bz b0 b1 aj be;obtain ⟨bf,hm⟩:=Zx hm;replace ax:=ax.gr aj;refine Y3 ax (be.srcN (NB.int (k:=.u32))) bf ?_;intro am an b2 af ao ae;refine go ?_;refine Wh (col:=af) [(0,1),(1,1),(2,0),(3,1),(4,1),(5,1),(6,0),(7,1),(8,1),(9,1),(10,1),(11,1),(12,0),(13,1),(14,1),(15,1),(16,2)] (by kernel_rfl) (by kernel_rfl)<|xF ⟨_,_,rfl⟩ ?_;refine xF (X2 ⟨_,_,rfl⟩) ?_;replace ad:=((ad.kpp al).gr aj).kpp ao;refine xW (fun _ hC=>((((ad.atN).part 0 2 _ rfl)).nth (q:=0) rfl).gr (hC.bl af)) ?_;refine xu rfl rfl (fun _=>Vf rfl) ?_;refine xF ⟨_,_,rfl⟩ ?_;refine xF (X2 ⟨_,_,rfl⟩) ?_;refine xW (fun _ hC=>((((ad.atN).part 0 2 _ rfl)).nth (q:=1) rfl).gr (hC.bl af)) ?_;refine xu rfl rfl (fun _=>U9 underlying43 rfl) ?_;obtain ⟨ay,hm⟩:=Zx hm;replace ac:=((ac.kpp al).gr aj).kpp ao;refine xu (v:=.slice ah (Int.toNat (aa.1.2.length:Int)) ai) rfl rfl (fun _=>V5 underlying43 sizeOf79 rfl rfl ay.1 (by have:=ac.lecap;have:=ay.2;omega)) ?_;refine .ld (d:=28) (v:=(.slice ah ((((([]:List Int)++aa.1.2)++[901,902]).take (Int.toNat (aa.1.2.length:Int))).length) ai)) (congrArg (fun n=>Value.slice ah n ai) (List.length_take_of_le (show (Int.toNat (aa.1.2.length:Int))≤((([]:List Int)++aa.1.2)++[901,902]).length by have:=ay.2;omega)).symm) ?_
 refine xu (v:=(.agg #[.bool aa.1.1,(.slice ah ((((([]:List Int)++aa.1.2)++[901,902]).take (Int.toNat (aa.1.2.length:Int))).length) ai)])) rfl rfl (fun _=>Yz (l:=[_,_]) (qs:=[(0,1),(1,1)]) underlying45 zeroValue45 ⟨rfl,sizeOf4,rfl,sizeOf43,trivial⟩ rfl) ?_;refine xu rfl rfl (fun _=>Vf rfl) ?_;refine xF ⟨_,_,rfl⟩ ?_;refine xW (fun _ hC=>((ad.atN).nth (q:=2) rfl).gr (hC.bl af)) ?_;refine xu rfl rfl (fun _=>U9 underlying43 rfl) ?_;obtain ⟨az,hm⟩:=Zx hm;refine xu (v:=.slice am (Int.toNat (aa.2.length:Int)) an) rfl rfl (fun _=>V5 underlying43 sizeOf79 rfl rfl az.1 (by have:=ae.lecap;have:=az.2;omega)) ?_;refine .ld (d:=34) (v:=(.slice am ((((([]:List Int)++aa.2)++[903,904]).take (Int.toNat (aa.2.length:Int))).length) an)) (congrArg (fun n=>Value.slice am n an) (List.length_take_of_le (show (Int.toNat (aa.2.length:Int))≤((([]:List Int)++aa.2)++[903,904]).length by have:=az.2;omega)).symm) ?_;refine xu (v:=(.agg #[.bool aa.1.1,(.slice ah ((((([]:List Int)++aa.1.2)++[901,902]).take (Int.toNat (aa.1.2.length:Int))).length) ai),(.slice am ((((([]:List Int)++aa.2)++[903,904]).take (Int.toNat (aa.2.length:Int))).length) an)])) rfl rfl (fun _=>Yz (l:=[_,_]) (qs:=[(0,2),(2,1)]) underlying47 zeroValue47 ⟨rfl,sizeOf45,rfl,sizeOf43,trivial⟩ rfl) ?_;refine xe rfl rfl ?_;intro b3 hC0;have hC:=hC0.bl af;replace ar:=((((((ar.kpp au).gr ak).kpp aw).kpp al).gr aj).kpp ao).gr hC;refine Z4 ar ?_;intro b4 a0 bg ag;refine Zk<|xk af<|Y9 ?_;replace ab:=((((ab.kpp al).grow aj).kpp ao).grow hC).kp a0 bg;replace ac:=(ac.gr hC).kp a0;replace ae:=(ae.gr hC).kp a0;intro b5 hC;replace hC:=hC.bl af;refine We ?_;replace ac:=ac.gr hC;replace ac:=(ac).toSlF (Zn.int .u32);replace ae:=ae.gr hC;replace ae:=ae.froz 3 (by decide);replace ag:=ag.gr hC;replace ag:=ag.froz 3 (by decide);replace ab:=ab.grow hC;replace ab:=ab.froz 3 (by decide) (by decide);replace ac:=ac.froz 5;replace ae:=(ae).toSlF (Zn.int .u32);replace ag:=ag.froz 5 (by decide);replace ab:=ab.froz 5 (by decide) (by decide);cases hm;exact ⟨rfl,_,ra ag.atN,_,_,_,_,_,rfl,ab.fin (cm []),ab.fs ac,ab.fs ae⟩
theorem Z3j:Wf prog 9 1 16:=⟨Tryz.t9,_,rfl,rfl,rfl,rfl,rfl⟩
theorem Z27:Wf prog 22 1 24:=⟨Tryz.t22,_,rfl,rfl,rfl,rfl,rfl⟩
theorem Z3d:Wf prog 40 1 24:=⟨Tryz.t40,_,rfl,rfl,rfl,rfl,rfl⟩
theorem Z3g:Wf prog 56 1 24:=⟨Tryz.t56,_,rfl,rfl,rfl,rfl,rfl⟩
def Zfp (N:Nat) (ah:R0) (ai:ByteArray) (aj:List ByteArray) (ak:List R9) (al:List R6) (ad:List Rb) (ae:Int) (kk_L3:(ByteArray→R7→(List R9)→(List R6)→(List Rb)→Int→Option R3)):Nat→Int→(List ((Bool×R6)×R6))→Option R3
  | 0,_,_=>none
  | am+1,af,ab=>(Zj ah.2.2.2.2 ae).bind fun ac=>if (decide (af<(ac.length:Int)))=true then ((Zj ac af).bind fun ag=>(Zih ((ag.1.1,ag.1.2),ag.2)).bind fun aa=>Zv ((ab.length+[((aa.1.1,(aa.1.2.1,aa.1.2.2)),(aa.2.1,aa.2.2))].length) * 56≤140737488355328∧ab.length+[((aa.1.1,(aa.1.2.1,aa.1.2.2)),(aa.2.1,aa.2.2))].length≤maxLen) ((Zfp N ah ai aj ak al ad ae kk_L3 am) (i64.wrap (af+1)) (ab++[((aa.1.1,(aa.1.2.1,aa.1.2.2)),(aa.2.1,aa.2.2))]))) else (Zv ((ab.length+[((false,(0,([]:List Int))),([97].length,[97])),((false,(0,([]:List Int))),([98].length,[98]))].length) * 56≤140737488355328∧ab.length+[((false,(0,([]:List Int))),([97].length,[97])),((false,(0,([]:List Int))),([98].length,[98]))].length≤maxLen) (Zv ((0:Int)≤(ac.length:Int)∧(ac.length:Int)≤((ab++[((false,(0,([]:List Int))),([97].length,[97])),((false,(0,([]:List Int))),([98].length,[98]))]).length:Int)) (Zv ((ad.length+[((Int.toNat (ac.length:Int)),ab++[((false,(0,([]:List Int))),([97].length,[97])),((false,(0,([]:List Int))),([98].length,[98]))])].length) * 24≤140737488355328∧ad.length+[((Int.toNat (ac.length:Int)),ab++[((false,(0,([]:List Int))),([97].length,[97])),((false,(0,([]:List Int))),([98].length,[98]))])].length≤maxLen) (kk_L3 ai aj ak al (ad++[((Int.toNat (ac.length:Int)),ab++[((false,(0,([]:List Int))),([97].length,[97])),((false,(0,([]:List Int))),([98].length,[98]))])]) (i64.wrap (ae+1))))))
termination_by structural x=>x
def Zc5 (N:Nat) (aa:R0):Nat→ByteArray→R7→(List R9)→(List R6)→(List Rb)→Int→Option R3
  | 0,_,_,_,_,_,_=>none
  | ah+1,ab,ac,ad,ae,af,ag=>if (decide (ag<(aa.2.2.2.2.length:Int)))=true then (Zfp N aa ab ac ad ae af ag (Zc5 N aa ah) N 0 ([]:List ((Bool×R6)×R6))) else (some (ab,((Int.toNat (aa.2.1.length:Int)),ac),ad,ae,af))
termination_by structural x=>x
def Zfo (N:Nat) (ab:R0):Nat→ByteArray→R7→(List R9)→(List R6)→(List Rb)→Int→Option R3
  | 0,_,_,_,_,_,_=>none
  | ai+1,ae,af,ag,ac,ah,ad=>if (decide (ad<(ab.2.2.2.1.length:Int)))=true then ((Zj ab.2.2.2.1 ad).bind fun aa=>Zv ((([]:List Int).length+aa.length) * 8≤140737488355328∧([]:List Int).length+aa.length≤maxLen) (Zv (((([]:List Int)++aa).length+[(-95),(-96)].length) * 8≤140737488355328∧(([]:List Int)++aa).length+[(-95),(-96)].length≤maxLen) (Zv ((0:Int)≤(aa.length:Int)∧(aa.length:Int)≤(((([]:List Int)++aa)++[(-95),(-96)]).length:Int)) (Zv ((ac.length+[((Int.toNat (aa.length:Int)),(([]:List Int)++aa)++[(-95),(-96)])].length) * 24≤140737488355328∧ac.length+[((Int.toNat (aa.length:Int)),(([]:List Int)++aa)++[(-95),(-96)])].length≤maxLen) ((Zfo N ab ai) ae af ag (ac++[((Int.toNat (aa.length:Int)),(([]:List Int)++aa)++[(-95),(-96)])]) ah (i64.wrap (ad+1))))))) else (Zc5 N ab N ae af ag ac ah 0)
termination_by structural x=>x
def Zfn (N:Nat) (ab:R0):Nat→ByteArray→R7→(List R9)→(List R6)→(List Rb)→Int→Option R3
  | 0,_,_,_,_,_,_=>none
  | ai+1,ae,af,ac,ag,ah,ad=>if (decide (ad<(ab.2.2.1.length:Int)))=true then ((Zj ab.2.2.1 ad).bind fun aa=>Zv ((([]:List ByteArray).length+aa.length) * 16≤140737488355328∧([]:List ByteArray).length+aa.length≤maxLen) (Zv (((([]:List ByteArray)++aa).length+([⟨#[35,51]⟩,⟨#[35,52]⟩]:List ByteArray).length) * 16≤140737488355328∧(([]:List ByteArray)++aa).length+([⟨#[35,51]⟩,⟨#[35,52]⟩]:List ByteArray).length≤maxLen) (Zv ((0:Int)≤(aa.length:Int)∧(aa.length:Int)≤(((([]:List ByteArray)++aa)++([⟨#[35,51]⟩,⟨#[35,52]⟩]:List ByteArray)).length:Int)) (Zv ((ac.length+([((Int.toNat (aa.length:Int)),(([]:List ByteArray)++aa)++([⟨#[35,51]⟩,⟨#[35,52]⟩]:List ByteArray))]:List R9).length) * 24≤140737488355328∧ac.length+([((Int.toNat (aa.length:Int)),(([]:List ByteArray)++aa)++([⟨#[35,51]⟩,⟨#[35,52]⟩]:List ByteArray))]:List R9).length≤maxLen) ((Zfn N ab ai) ae af (ac++([((Int.toNat (aa.length:Int)),(([]:List ByteArray)++aa)++([⟨#[35,51]⟩,⟨#[35,52]⟩]:List ByteArray))]:List R9)) ag ah (i64.wrap (ad+1))))))) else (Zfo N ab N ae af ac ag ah 0)
termination_by structural x=>x
def Zik (N:Nat) (aa:R0):Option R3:=
  Zv ((([]:List ByteArray).length+aa.2.1.length) * 16≤140737488355328∧([]:List ByteArray).length+aa.2.1.length≤maxLen) (Zv (((([]:List ByteArray)++aa.2.1).length+([⟨#[35,49]⟩,⟨#[35,50]⟩]:List ByteArray).length) * 16≤140737488355328∧(([]:List ByteArray)++aa.2.1).length+([⟨#[35,49]⟩,⟨#[35,50]⟩]:List ByteArray).length≤maxLen) (Zv ((0:Int)≤(aa.2.1.length:Int)∧(aa.2.1.length:Int)≤(((([]:List ByteArray)++aa.2.1)++([⟨#[35,49]⟩,⟨#[35,50]⟩]:List ByteArray)).length:Int)) (Zfn N aa N aa.1 ((([]:List ByteArray)++aa.2.1)++([⟨#[35,49]⟩,⟨#[35,50]⟩]:List ByteArray)) ([]:List R9) ([]:List R6) ([]:List Rb) 0)))
theorem Z1u {N b9 ca cb cc:Nat} {cd ce cf cg:Option Addr} {col:Zd} {w0:World} {ac:R0} {r:R3} (hm:Zik N ac=some r) (ei:Sl Za.str col w0 cd b9 ac.2.1) (ch:Sl (Za.slice Za.str) col w0 ce ca ac.2.2.1) (ci:Sl (Za.slice (Za.int .i64)) col w0 cf cb ac.2.2.2.1) (bj:Sl (Za.slice (Za.pair (Za.pair Za.bool (Za.slice (Za.int .u32))) (Za.slice (Za.int .u32)))) col w0 cg cc ac.2.2.2.2):
    Calls prog 15 #[(.agg #[.string ac.1,.slice cd ac.2.1.length b9,.slice ce ac.2.2.1.length ca,.slice cf ac.2.2.2.1.length cb,.slice cg ac.2.2.2.2.length cc])] w0 (fun e w'=>∃ (col':Zd) (ra1:Option Addr) (rc2:Nat) (ra4:Option Addr) (rc5:Nat) (ra7:Option Addr) (rc8:Nat) (ra10:Option Addr) (rc11:Nat),e= .returned ((.agg #[.string r.1,.slice ra1 ((r.2.1.2.take r.2.1.1).length) rc2,.slice ra4 r.2.2.1.length rc5,.slice ra7 r.2.2.2.1.length rc8,.slice ra10 r.2.2.2.2.length rc11]))∧Zg col w0 col' w'∧Sl Za.str col' w' ra1 rc2 r.2.1.2∧Sl (Za.view Za.str) col' w' ra4 rc5 r.2.2.1∧Sl (Za.view (Za.int .i64)) col' w' ra7 rc8 r.2.2.2.1∧Sl (Za.view (Za.pair (Za.pair Za.bool (Za.view (Za.int .u32))) (Za.view (Za.int .u32)))) col' w' ra10 rc11 r.2.2.2.2):=by
 refine Ym (m:=142) func15 rfl rfl rfl ?_;rw [Zik.eq_1] at hm;have aa:=St.start col w0;refine go ?_;refine Xg (col:=(Zh col)) 1 rfl ?_;intro dt ig f6 f7 ab;refine Xl (col:=f6) #[.string (⟨#[]⟩),.slice none (([]:List ByteArray).length) 0,.slice none (([]:List R9).length) 0,.slice none (([]:List R6).length) 0,(.slice none (([]:List Rb).length) 0)] 2 zeroValue27 ?_;intro du ih f8 fk ae;refine go ?_;refine Xd ⟨_,_,rfl⟩ ?_;replace ab:=ab.gr fk;refine lW ((ab.atN).nth (q:=0) rfl)<|lV (.agg #[.string ac.1,.slice none (([]:List ByteArray).length) 0,.slice none (([]:List R9).length) 0,.slice none (([]:List R6).length) 0,(.slice none (([]:List Rb).length) 0)]) (Yz (l:=[_,_,_,_,_]) (qs:=[(0,1),(1,1),(2,1),(3,1),(4,1)]) underlying27 zeroValue27 ⟨rfl,sizeOf9,rfl,sizeOf22,rfl,sizeOf23,rfl,sizeOf24,rfl,sizeOf25,trivial⟩ rfl)<|Xl (col:=f8) #[.string (⟨#[]⟩),.slice none (([]:List ByteArray).length) 0,.slice none (([]:List R9).length) 0,.slice none (([]:List R6).length) 0,(.slice none (([]:List Rb).length) 0)] 3 zeroValue27 ?_;intro ax ii ij ej f9;refine Z4 f9 ?_;intro ik ek ga dv;refine go ?_;refine Xa dv<|Xd ⟨_,_,rfl⟩ ?_;replace ab:=(ab.gr ej).kp ek;refine lW ((ab.atN).nth (q:=1) rfl) ?_;obtain ⟨gb,hm⟩:=Zx hm;replace ei:=ei.keep (Zf.start col w0);replace aa:=(((aa.grow f7).grow fk).grow ej).kp ek ga;refine Y3 (c:=4) Zc.nil (ei.ks aa).srcC gb ?_;intro fl fm il fn dw el;refine Xd ⟨_,_,rfl⟩ ?_;replace dv:=dv.kpp dw;refine Tg (off:=1) (v:=(.slice fl ((([]:List ByteArray)++ac.2.1).length) fm)) dv sizeOf22 rfl rfl (by intro u hu;simp only [Value.cells,List.mem_cons,List.not_mem_nil,or_false] at hu;subst hu;rfl) rfl rfl ?_;intro gc dx gd cj;replace cj:Zm 27 3 fn gc ax #[.string ac.1,.slice fl ((([]:List ByteArray)++ac.2.1).length) fm,.slice none (([]:List R9).length) 0,.slice none (([]:List R6).length) 0,(.slice none (([]:List Rb).length) 0)]:=cj;refine go ?_;refine Xa cj<|Zt7 (col:=fn) ([⟨#[35,49]⟩,⟨#[35,50]⟩]:List ByteArray) 5 ?_;intro im ge gf c5 gg;obtain ⟨fp,hm⟩:=Zx hm;replace el:=(el.kp dx).gr c5
 refine Qf (col:=gf) (w:=ge) (r:=Za.str) (c:=4) (c2:=4) (el.ex) (gg.srcN NB.str) rfl underlying22 Z3j rfl rfl rfl fp.1 fp.2 (by decide) ?_;intro bw bx io fq dy em;refine Xd ⟨_,_,rfl⟩ ?_;replace cj:=(cj.gr c5).kpp dy;refine Tg (off:=1) (v:=(.slice bw (((([]:List ByteArray)++ac.2.1)++([⟨#[35,49]⟩,⟨#[35,50]⟩]:List ByteArray)).length) bx)) cj sizeOf22 rfl rfl (by intro u hu;simp only [Value.cells,List.mem_cons,List.not_mem_nil,or_false] at hu;subst hu;rfl) rfl rfl ?_;intro gh dz gi d0;replace d0:Zm 27 3 fq gh ax #[.string ac.1,(.slice bw (((([]:List ByteArray)++ac.2.1)++([⟨#[35,49]⟩,⟨#[35,50]⟩]:List ByteArray)).length) bx),.slice none (([]:List R9).length) 0,.slice none (([]:List R6).length) 0,(.slice none (([]:List Rb).length) 0)]:=d0;replace em:=em.kp dz;have d1:=em.new;refine go ?_;refine Xa d0<|Xd ⟨_,_,rfl⟩ ?_;replace ab:=((((ab.kpp dw).kp dx).gr c5).kpp dy).kp dz;refine lW ((ab.atN).nth (q:=1) rfl)<|go ?_;obtain ⟨en,hm⟩:=Zx hm;refine lv (v:=.slice bw (Int.toNat (ac.2.1.length:Int)) bx) rfl rfl (V5 underlying22 sizeOf9 rfl rfl en.1 (by have:=d1.lecap;have:=en.2;omega))<|.ld (d:=30) (v:=(.slice bw ((((([]:List ByteArray)++ac.2.1)++([⟨#[35,49]⟩,⟨#[35,50]⟩]:List ByteArray)).take (Int.toNat (ac.2.1.length:Int))).length) bx)) (congrArg (fun n=>Value.slice bw n bx) (List.length_take_of_le (show (Int.toNat (ac.2.1.length:Int))≤((([]:List ByteArray)++ac.2.1)++([⟨#[35,49]⟩,⟨#[35,50]⟩]:List ByteArray)).length by have:=en.2;omega)).symm) ?_;refine Xd ⟨_,_,rfl⟩ ?_;refine Tg (off:=1) (v:=(.slice bw ((((([]:List ByteArray)++ac.2.1)++([⟨#[35,49]⟩,⟨#[35,50]⟩]:List ByteArray)).take (Int.toNat (ac.2.1.length:Int))).length) bx)) d0 sizeOf22 rfl rfl (by intro u hu;simp only [Value.cells,List.mem_cons,List.not_mem_nil,or_false] at hu;subst hu;rfl) rfl rfl ?_;intro gj d2 gk ad;replace ad:Zm 27 3 fq gj ax #[.string ac.1,(.slice bw ((((([]:List ByteArray)++ac.2.1)++([⟨#[35,49]⟩,⟨#[35,50]⟩]:List ByteArray)).take (Int.toNat (ac.2.1.length:Int))).length) bx),.slice none (([]:List R9).length) 0,.slice none (([]:List R6).length) 0,(.slice none (([]:List Rb).length) 0)]:=ad;refine go ?_;replace ae:=(((((((ae.gr ej).kp ek).kpp dw).kp dx).gr c5).kpp dy).kp dz).kp d2;replace aa:=(((((aa.kpp dw).kp dx gd).grow c5).kpp dy).kp dz gi).kp d2 gk
 replace d1:=d1.kp d2;replace ab:=ab.kp d2;refine Zw [1,2,3,1000000] (fun n f a1=>∃ a2 d3 d4 d5 c6 eo ep ck d6 d7 c7 d8 d9 c8 eq cl,cl=n∧Zfn N ac cl d3 c6 ck c7 c8 eq=some r∧St w0 (Zh col) a2 a1∧Zm 27 1 a2 a1 dt #[.string ac.1,.slice cd ac.2.1.length b9,.slice ce ac.2.2.1.length ca,.slice cf ac.2.2.2.1.length cb,.slice cg ac.2.2.2.2.length cc]∧Zm 27 2 a2 a1 du #[.string (⟨#[]⟩),.slice none (([]:List ByteArray).length) 0,.slice none (([]:List R9).length) 0,.slice none (([]:List R6).length) 0,(.slice none (([]:List Rb).length) 0)]∧Zc Za.str 9 4 a2 a1 d4 d5 c6∧Zc (Za.view Za.str) 22 6 a2 a1 eo ep ck∧Zc (Za.view (Za.int .i64)) 40 7 a2 a1 d6 d7 c7∧Zc (Za.view (Za.pair (Za.pair Za.bool (Za.view (Za.int .u32))) (Za.view (Za.int .u32)))) 56 8 a2 a1 d8 d9 c8∧Zm 27 3 a2 a1 ax #[.string d3,(.slice d4 ((c6.take (Int.toNat (ac.2.1.length:Int))).length) d5),.slice eo ck.length ep,.slice d6 c7.length d7,.slice d8 c8.length d9]∧[4].map f=[.int .i64 eq]) N ⟨_,_,_,_,_,none,0,_,none,0,_,none,0,_,0,_,rfl,hm,aa,ab,ae,d1,Zc.nil,Zc.nil,Zc.nil,ad,rfl⟩ ?_;clear hm;intro n f a1 hI;obtain ⟨a2,d3,d4,d5,c6,eo,ep,ck,d6,d7,c7,d8,d9,c8,eq,cl,hn,hm,aa,ab,ae,am,bk,an,ao,ad,hs⟩:=hI;subst hn;refine .lL [4] hs ?_;replace ch:=ch.keep (Zf.start col w0);replace ci:=ci.keep (Zf.start col w0);replace bj:=bj.keep (Zf.start col w0)
 cases cl with
 | zero=>rw [Zfn.eq_1] at hm;cases hm
 | succ cl=>
  rw [Zfn.eq_2] at hm;refine go ?_;refine Xa ab ?_;refine go ?_;refine Zo hm (fun hb hm=>go ?_) fun hb hm=>go ?_
  ·refine Xa ab<|Xo rfl ?_;obtain ⟨ak,bz,hm⟩:=bZ hm;refine lI bz ((ch.ks aa).addr bz) ?_;obtain ⟨_,gl,gm⟩:=(ch.ks aa).atN bz;obtain ⟨⟨ip,iq,rfl,gp⟩,_⟩:=gl;refine lW gm.one ?_;obtain ⟨gs,hm⟩:=Zx hm;refine Y3 (c:=9) Zc.nil gp.srcC gs ?_;intro ir it iu gt bm er;refine go ?_;refine Zt7 (col:=gt) ([⟨#[35,51]⟩,⟨#[35,52]⟩]:List ByteArray) 10 ?_;intro iv iw ix a3 gu;obtain ⟨gv,hm⟩:=Zx hm;replace er:=er.gr a3;refine Y3 er (gu.srcN NB.str) gv ?_;intro c9 da iy cn bn co;refine go ?_;refine Wh (col:=cn) [(0,1),(1,0),(2,1),(3,1),(4,0),(5,1),(6,1),(7,0),(8,1),(9,1),(10,3),(11,2),(12,1),(13,2)] (by kernel_rfl) (by kernel_rfl)<|xF ⟨_,_,rfl⟩ ?_;replace ad:=((ad.kpp bm).gr a3).kpp bn;refine xW (fun _ hC=>((ad.atN).nth (q:=2) rfl).gr (hC.bl cn)) ?_;refine xu rfl rfl (fun _=>Vf rfl) ?_;refine xF ⟨_,_,rfl⟩ ?_;replace ab:=((ab.kpp bm).gr a3).kpp bn;refine xW (fun _ hC=>((ab.atN).nth (q:=2) rfl).gr (hC.bl cn)) ?_;refine xu rfl rfl (fun _=>Wj rfl) ?_;replace aa:=((aa.kpp bm).grow a3).kpp bn;refine xu rfl rfl (fun _=>Wi underlying23 sizeOf22 rfl rfl (Xn bz).1 (Xn bz).2.1 ((ch.ks aa).addr bz)) ?_;obtain ⟨_,gw,gx⟩:=(ch.ks aa).atN bz;obtain ⟨⟨iz,i0,rfl,i1⟩,_⟩:=gw;refine xW (fun _ hC=>gx.one.gr (hC.bl cn)) ?_;refine xu rfl rfl (fun _=>U9 underlying22 rfl) ?_;obtain ⟨es,hm⟩:=Zx hm;refine xu (v:=.slice c9 (Int.toNat (ak.length:Int)) da) rfl rfl (fun _=>V5 underlying22 sizeOf9 rfl rfl es.1 (by have:=co.lecap;have:=es.2;omega)) ?_;refine .ld (d:=58) (v:=(.slice c9 ((((([]:List ByteArray)++ak)++([⟨#[35,51]⟩,⟨#[35,52]⟩]:List ByteArray)).take (Int.toNat (ak.length:Int))).length) da)) (congrArg (fun n=>Value.slice c9 n da) (List.length_take_of_le (show (Int.toNat (ak.length:Int))≤((([]:List ByteArray)++ak)++([⟨#[35,51]⟩,⟨#[35,52]⟩]:List ByteArray)).length by have:=es.2;omega)).symm) ?_;refine xe rfl rfl ?_;intro i2 hC0;have hC:=hC0.bl cn;replace am:=(((am.kpp bm).gr a3).kpp bn).gr hC;replace am:=am.froz 9 (by decide);replace bk:=(((bk.kpp bm).gr a3).kpp bn).gr hC;replace bk:=bk.froz 9 (by decide);replace an:=(((an.kpp bm).gr a3).kpp bn).gr hC;replace an:=an.froz 9 (by decide);replace ao:=(((ao.kpp bm).gr a3).kpp bn).gr hC;replace ao:=ao.froz 9 (by decide);replace co:=co.gr hC;replace co:=(co).toSlF Zn.str;replace ab:=ab.gr hC;replace ab:=ab.froz 9 (by decide);replace ae:=(((ae.kpp bm).gr a3).kpp bn).gr hC
   replace ae:=ae.froz 9 (by decide);replace ad:=ad.gr hC;replace ad:=ad.froz 9 (by decide);replace aa:=aa.grow hC;replace aa:=aa.froz 9 (by decide) (by decide);refine Th (col:=(Xq 9 cn)) (r:=(Za.view Za.str)) (xs:=([((Int.toNat (ak.length:Int)),(([]:List ByteArray)++ak)++([⟨#[35,51]⟩,⟨#[35,52]⟩]:List ByteArray))]:List R9)) [(.slice c9 ((((([]:List ByteArray)++ak)++([⟨#[35,51]⟩,⟨#[35,52]⟩]:List ByteArray)).take (Int.toNat (ak.length:Int))).length) da)] 11 (Wm.ofF (Rows.consF (r:=(Za.view Za.str)) (x:=((Int.toNat (ak.length:Int)),(([]:List ByteArray)++ak)++([⟨#[35,51]⟩,⟨#[35,52]⟩]:List ByteArray))) (cs:=[(.slice c9 ((((([]:List ByteArray)++ak)++([⟨#[35,51]⟩,⟨#[35,52]⟩]:List ByteArray)).take (Int.toNat (ak.length:Int))).length) da)]) (Zk0 co) Rows.nil0)) ?_;intro i3 i4 et a4 eu;refine Zk<|Xp et hC0 a4<|xe rfl rfl ?_;intro gy hC0;have hC:=hC0.bl et;obtain ⟨fr,hm⟩:=Zx hm;replace bk:=(bk.gr a4).gr hC;replace eu:=eu.gr hC;refine Qf (col:=et) (w:=gy) (r:=(Za.view Za.str)) (c:=6) (c2:=6) (bk.ex) (eu.srcN NB.view) rfl underlying23 Z27 rfl rfl rfl fr.1 fr.2 (by decide) ?_;intro ft fu i5 db b0 ew;refine Zk<|xk db<|xF ⟨_,_,rfl⟩ ?_;refine xe rfl rfl ?_;intro i6 hC0;replace am:=((am.gr a4).gr hC).kpp b0;replace an:=((an.gr a4).gr hC).kpp b0;replace ao:=((ao.gr a4).gr hC).kpp b0;replace ab:=((ab.gr a4).gr hC).kpp b0;replace ae:=((ae.gr a4).gr hC).kpp b0;replace ad:=((ad.gr a4).gr hC).kpp b0;replace aa:=((aa.grow a4).grow hC).kpp b0;have hC:=hC0.bl db;replace ad:=ad.gr hC;refine Tg (off:=2) (v:=(.slice ft ((ck++([((Int.toNat (ak.length:Int)),(([]:List ByteArray)++ak)++([⟨#[35,51]⟩,⟨#[35,52]⟩]:List ByteArray))]:List R9)).length) fu)) ad sizeOf23 rfl rfl (by intro u hu;simp only [Value.cells,List.mem_cons,List.not_mem_nil,or_false] at hu;subst hu;rfl) rfl rfl ?_;intro gz b1 g0 dc;replace dc:Zm 27 3 db gz ax #[.string d3,(.slice d4 ((c6.take (Int.toNat (ac.2.1.length:Int))).length) d5),(.slice ft ((ck++([((Int.toNat (ak.length:Int)),(([]:List ByteArray)++ak)++([⟨#[35,51]⟩,⟨#[35,52]⟩]:List ByteArray))]:List R9)).length) fu),.slice d6 c7.length d7,.slice d8 c8.length d9]:=dc;refine Zk<|xk db ?_;replace ew:=(ew.gr hC).kp b1;have ey:=ew.new;refine Y9 ?_;replace am:=(am.gr hC).kp b1;replace an:=(an.gr hC).kp b1;replace ao:=(ao.gr hC).kp b1
   replace ab:=(ab.gr hC).kp b1;replace ae:=(ae.gr hC).kp b1;replace aa:=(aa.grow hC).kp b1 g0;intro i7 hC;replace hC:=hC.bl db;refine go ?_;replace am:=am.gr hC;replace ey:=ey.gr hC;replace an:=an.gr hC;replace ao:=ao.gr hC;replace ab:=ab.gr hC;replace ae:=ae.gr hC;replace dc:=dc.gr hC;replace aa:=aa.grow hC;exact ⟨cl,by omega,rfl,⟨_,_,_,_,_,_,_,_,_,_,_,_,_,_,_,_,rfl,hm,aa,ab,ae,am,ey,an,ao,dc,rfl⟩⟩
  refine Zw [1,2,3,1000000] (fun n f a5=>∃ a6 ea eb ec dd ed ee de ez e0 cp ef eg df e1 cq,cq=n∧Zfo N ac cq ea dd de cp df e1=some r∧St w0 (Zh col) a6 a5∧Zm 27 1 a6 a5 dt #[.string ac.1,.slice cd ac.2.1.length b9,.slice ce ac.2.2.1.length ca,.slice cf ac.2.2.2.1.length cb,.slice cg ac.2.2.2.2.length cc]∧Zm 27 2 a6 a5 du #[.string (⟨#[]⟩),.slice none (([]:List ByteArray).length) 0,.slice none (([]:List R9).length) 0,.slice none (([]:List R6).length) 0,(.slice none (([]:List Rb).length) 0)]∧Zc Za.str 9 4 a6 a5 eb ec dd∧Zc (Za.view Za.str) 22 6 a6 a5 ed ee de∧Zc (Za.view (Za.int .i64)) 40 7 a6 a5 ez e0 cp∧Zc (Za.view (Za.pair (Za.pair Za.bool (Za.view (Za.int .u32))) (Za.view (Za.int .u32)))) 56 8 a6 a5 ef eg df∧Zm 27 3 a6 a5 ax #[.string ea,(.slice eb ((dd.take (Int.toNat (ac.2.1.length:Int))).length) ec),.slice ed de.length ee,.slice ez cp.length e0,.slice ef df.length eg]∧[6].map f=[.int .i64 e1]) N ⟨_,_,_,_,_,_,_,_,_,_,_,_,_,_,0,_,rfl,hm,aa,ab,ae,am,bk,an,ao,ad,rfl⟩ ?_;clear hm;intro n f a5 hI;obtain ⟨a6,ea,eb,ec,dd,ed,ee,de,ez,e0,cp,ef,eg,df,e1,cq,hn,hm,aa,ab,ae,ap,aq,bo,ar,ad,hs⟩:=hI;subst hn;refine .lL [6] hs ?_
  cases cq with
  | zero=>rw [Zfo.eq_1] at hm;cases hm
  | succ cq=>
   rw [Zfo.eq_2] at hm;refine go ?_;refine Xa ab ?_;refine go ?_;refine Zo hm (fun hb hm=>go ?_) fun hb hm=>go ?_
   ·refine Xa ab<|Xo rfl ?_;obtain ⟨al,b2,hm⟩:=bZ hm;refine lI b2 ((ci.ks aa).addr b2) ?_;obtain ⟨_,g1,g2⟩:=(ci.ks aa).atN b2;obtain ⟨⟨i8,i9,rfl,g3⟩,_⟩:=g1;refine lW g2.one ?_;obtain ⟨g4,hm⟩:=Zx hm;refine Y3 (c:=12) Zc.nil g3.srcC g4 ?_;intro ja jb jc g5 bp e2;refine go ?_;refine W1 (col:=g5) [(-95),(-96)] 13 ?_;intro jd je jf a7 g6;obtain ⟨g7,hm⟩:=Zx hm;replace e2:=e2.gr a7;refine Y3 e2 (g6.srcN (NB.int (k:=.i64))) g7 ?_;intro dg dh jg cr bq ct;refine go ?_;refine Wh (col:=cr) [(0,1),(1,0),(2,1),(3,1),(4,0),(5,1),(6,1),(7,0),(8,1),(9,1),(10,3),(11,2),(12,1),(13,2)] (by kernel_rfl) (by kernel_rfl)<|xF ⟨_,_,rfl⟩ ?_;replace ad:=((ad.kpp bp).gr a7).kpp bq;refine xW (fun _ hC=>((ad.atN).nth (q:=3) rfl).gr (hC.bl cr)) ?_;refine xu rfl rfl (fun _=>Vf rfl) ?_;refine xF ⟨_,_,rfl⟩ ?_;replace ab:=((ab.kpp bp).gr a7).kpp bq;refine xW (fun _ hC=>((ab.atN).nth (q:=3) rfl).gr (hC.bl cr)) ?_;refine xu rfl rfl (fun _=>Wj rfl) ?_;replace aa:=((aa.kpp bp).grow a7).kpp bq;refine xu rfl rfl (fun _=>Wi underlying24 sizeOf40 rfl rfl (Xn b2).1 (Xn b2).2.1 ((ci.ks aa).addr b2)) ?_;obtain ⟨_,g8,g9⟩:=(ci.ks aa).atN b2;obtain ⟨⟨jh,ji,rfl,jj⟩,_⟩:=g8;refine xW (fun _ hC=>g9.one.gr (hC.bl cr)) ?_;refine xu rfl rfl (fun _=>U9 underlying40 rfl) ?_;obtain ⟨e3,hm⟩:=Zx hm;refine xu (v:=.slice dg (Int.toNat (al.length:Int)) dh) rfl rfl (fun _=>V5 underlying40 sizeOf3 rfl rfl e3.1 (by have:=ct.lecap;have:=e3.2;omega)) ?_;refine .ld (d:=88) (v:=(.slice dg ((((([]:List Int)++al)++[(-95),(-96)]).take (Int.toNat (al.length:Int))).length) dh)) (congrArg (fun n=>Value.slice dg n dh) (List.length_take_of_le (show (Int.toNat (al.length:Int))≤((([]:List Int)++al)++[(-95),(-96)]).length by have:=e3.2;omega)).symm) ?_;refine xe rfl rfl ?_;intro jk hC0;have hC:=hC0.bl cr;replace ap:=(((ap.kpp bp).gr a7).kpp bq).gr hC;replace ap:=ap.froz 12 (by decide);replace aq:=(((aq.kpp bp).gr a7).kpp bq).gr hC;replace aq:=aq.froz 12 (by decide);replace bo:=(((bo.kpp bp).gr a7).kpp bq).gr hC;replace bo:=bo.froz 12 (by decide);replace ar:=(((ar.kpp bp).gr a7).kpp bq).gr hC;replace ar:=ar.froz 12 (by decide);replace ct:=ct.gr hC;replace ct:=(ct).toSlF (Zn.int .i64);replace ab:=ab.gr hC;replace ab:=ab.froz 12 (by decide);replace ae:=(((ae.kpp bp).gr a7).kpp bq).gr hC
    replace ae:=ae.froz 12 (by decide);replace ad:=ad.gr hC;replace ad:=ad.froz 12 (by decide);replace aa:=aa.grow hC;replace aa:=aa.froz 12 (by decide) (by decide);refine Th (col:=(Xq 12 cr)) (r:=(Za.view (Za.int .i64))) (xs:=[((Int.toNat (al.length:Int)),(([]:List Int)++al)++[(-95),(-96)])]) [(.slice dg ((((([]:List Int)++al)++[(-95),(-96)]).take (Int.toNat (al.length:Int))).length) dh)] 14 (Wm.ofF (Rows.consF (r:=(Za.view (Za.int .i64))) (x:=((Int.toNat (al.length:Int)),(([]:List Int)++al)++[(-95),(-96)])) (cs:=[(.slice dg ((((([]:List Int)++al)++[(-95),(-96)]).take (Int.toNat (al.length:Int))).length) dh)]) (Zk0 ct) Rows.nil0)) ?_;intro jl jm e4 a8 e5;refine Zk<|Xp e4 hC0 a8<|xe rfl rfl ?_;intro ha hC0;have hC:=hC0.bl e4;obtain ⟨fv,hm⟩:=Zx hm;replace bo:=(bo.gr a8).gr hC;replace e5:=e5.gr hC;refine Qf (col:=e4) (w:=ha) (r:=(Za.view (Za.int .i64))) (c:=7) (c2:=7) (bo.ex) (e5.srcN NB.view) rfl underlying24 Z3d rfl rfl rfl fv.1 fv.2 (by decide) ?_;intro fw fx jn di b3 e6;refine Zk<|xk di<|xF ⟨_,_,rfl⟩ ?_;refine xe rfl rfl ?_;intro jo hC0;replace ap:=((ap.gr a8).gr hC).kpp b3;replace aq:=((aq.gr a8).gr hC).kpp b3;replace ar:=((ar.gr a8).gr hC).kpp b3;replace ab:=((ab.gr a8).gr hC).kpp b3;replace ae:=((ae.gr a8).gr hC).kpp b3;replace ad:=((ad.gr a8).gr hC).kpp b3;replace aa:=((aa.grow a8).grow hC).kpp b3;have hC:=hC0.bl di;replace ad:=ad.gr hC;refine Tg (off:=3) (v:=(.slice fw ((cp++[((Int.toNat (al.length:Int)),(([]:List Int)++al)++[(-95),(-96)])]).length) fx)) ad sizeOf24 rfl rfl (by intro u hu;simp only [Value.cells,List.mem_cons,List.not_mem_nil,or_false] at hu;subst hu;rfl) rfl rfl ?_;intro hc b4 hd dj;replace dj:Zm 27 3 di hc ax #[.string ea,(.slice eb ((dd.take (Int.toNat (ac.2.1.length:Int))).length) ec),.slice ed de.length ee,(.slice fw ((cp++[((Int.toNat (al.length:Int)),(([]:List Int)++al)++[(-95),(-96)])]).length) fx),.slice ef df.length eg]:=dj;refine Zk<|xk di ?_;replace e6:=(e6.gr hC).kp b4;have e7:=e6.new;refine Y9 ?_;replace ap:=(ap.gr hC).kp b4;replace aq:=(aq.gr hC).kp b4;replace ar:=(ar.gr hC).kp b4;replace ab:=(ab.gr hC).kp b4;replace ae:=(ae.gr hC).kp b4;replace aa:=(aa.grow hC).kp b4 hd;intro jp hC;replace hC:=hC.bl di;refine go ?_;replace ap:=ap.gr hC;replace aq:=aq.gr hC;replace e7:=e7.gr hC
    replace ar:=ar.gr hC;replace ab:=ab.gr hC;replace ae:=ae.gr hC;replace dj:=dj.gr hC;replace aa:=aa.grow hC;exact ⟨cq,by omega,rfl,⟨_,_,_,_,_,_,_,_,_,_,_,_,_,_,_,_,rfl,hm,aa,ab,ae,ap,aq,e7,ar,dj,rfl⟩⟩
   refine Zw [1,2,3,1000000] (fun n f a9=>∃ ba cu cv cw br cx cy bs cz c0 bt dk dl bb eh b5,b5=n∧Zc5 N ac b5 cu br bs bt bb eh=some r∧St w0 (Zh col) ba a9∧Zm 27 1 ba a9 dt #[.string ac.1,.slice cd ac.2.1.length b9,.slice ce ac.2.2.1.length ca,.slice cf ac.2.2.2.1.length cb,.slice cg ac.2.2.2.2.length cc]∧Zm 27 2 ba a9 du #[.string (⟨#[]⟩),.slice none (([]:List ByteArray).length) 0,.slice none (([]:List R9).length) 0,.slice none (([]:List R6).length) 0,(.slice none (([]:List Rb).length) 0)]∧Zc Za.str 9 4 ba a9 cv cw br∧Zc (Za.view Za.str) 22 6 ba a9 cx cy bs∧Zc (Za.view (Za.int .i64)) 40 7 ba a9 cz c0 bt∧Zc (Za.view (Za.pair (Za.pair Za.bool (Za.view (Za.int .u32))) (Za.view (Za.int .u32)))) 56 8 ba a9 dk dl bb∧Zm 27 3 ba a9 ax #[.string cu,(.slice cv ((br.take (Int.toNat (ac.2.1.length:Int))).length) cw),.slice cx bs.length cy,.slice cz bt.length c0,.slice dk bb.length dl]∧[8].map f=[.int .i64 eh]) N ⟨_,_,_,_,_,_,_,_,_,_,_,_,_,_,0,_,rfl,hm,aa,ab,ae,ap,aq,bo,ar,ad,rfl⟩ ?_;clear hm;intro n f a9 hI;obtain ⟨ba,cu,cv,cw,br,cx,cy,bs,cz,c0,bt,dk,dl,bb,eh,b5,hn,hm,aa,ab,ae,af,ag,ah,ai,ad,hs⟩:=hI;subst hn;refine .lL [8] hs ?_
   cases b5 with
   | zero=>rw [Zc5.eq_1] at hm;cases hm
   | succ b5=>
    rw [Zc5.eq_2] at hm;refine go ?_;refine Xa ab ?_;refine go ?_;refine Zo hm (fun hb hm=>go ?_) fun hb hm=>go ?_
    ·refine Zw [1,2,3,8,1000000] (fun n f ay=>∃ aw e8 e9 fa au c1,c1=n∧Zfp N ac cu br bs bt bb eh (Zc5 N ac b5) c1 e8 au=some r∧St w0 (Zh col) aw ay∧Zm 27 1 aw ay dt #[.string ac.1,.slice cd ac.2.1.length b9,.slice ce ac.2.2.1.length ca,.slice cf ac.2.2.2.1.length cb,.slice cg ac.2.2.2.2.length cc]∧Zm 27 2 aw ay du #[.string (⟨#[]⟩),.slice none (([]:List ByteArray).length) 0,.slice none (([]:List R9).length) 0,.slice none (([]:List R6).length) 0,(.slice none (([]:List Rb).length) 0)]∧Zc Za.str 9 4 aw ay cv cw br∧Zc (Za.view Za.str) 22 6 aw ay cx cy bs∧Zc (Za.view (Za.int .i64)) 40 7 aw ay cz c0 bt∧Zc (Za.view (Za.pair (Za.pair Za.bool (Za.view (Za.int .u32))) (Za.view (Za.int .u32)))) 56 8 aw ay dk dl bb∧Zm 27 3 aw ay ax #[.string cu,(.slice cv ((br.take (Int.toNat (ac.2.1.length:Int))).length) cw),.slice cx bs.length cy,.slice cz bt.length c0,.slice dk bb.length dl]∧Zc (Za.pair (Za.pair Za.bool (Za.view (Za.int .u32))) (Za.view (Za.int .u32))) 47 15 aw ay e9 fa au∧[10,9].map f=[.int .i64 e8,.slice e9 au.length fa]) N ⟨_,0,none,0,_,_,rfl,hm,aa,ab,ae,af,ag,ah,ai,ad,Zc.nil,rfl⟩ ?_;clear hm;intro n f ay hI;obtain ⟨aw,e8,e9,fa,au,c1,hn,hm,aa,ab,ae,af,ag,ah,ai,ad,av,hs⟩:=hI;subst hn;refine .lL [10,9] hs ?_
     cases c1 with
     | zero=>rw [Zfp.eq_1] at hm;cases hm
     | succ c1=>
      rw [Zfp.eq_2] at hm;refine go ?_;refine Xa ab<|Xo rfl ?_;obtain ⟨bc,az,hm⟩:=bZ hm;refine lI az ((bj.ks aa).addr az) ?_;obtain ⟨_,he,hf⟩:=(bj.ks aa).atN az;obtain ⟨⟨jq,jr,rfl,js⟩,_⟩:=he;refine lW hf.one<|go ?_;refine Zo hm (fun hb hm=>go ?_) fun hb hm=>go ?_
      ·refine Xa ab<|Xo rfl<|lI az ((bj.ks aa).addr az) ?_;obtain ⟨_,hg,hh⟩:=(bj.ks aa).atN az;obtain ⟨⟨jt,ju,rfl,fy⟩,_⟩:=hg;refine lW hh.one<|Xo rfl ?_;obtain ⟨fb,fc,hm⟩:=bZ hm;refine lI fc (fy.addr fc) ?_;obtain ⟨_,hi,hj⟩:=fy.atN fc;obtain ⟨_,_,rfl,hk,hl⟩:=Yi hi;obtain ⟨_,_,rfl,ho,hp⟩:=Yi hk;obtain ⟨rfl,_⟩:=ho;obtain ⟨⟨hq,hr,rfl,ht⟩,_⟩:=hp;obtain ⟨⟨hv,hw,rfl,hx⟩,_⟩:=hl;refine lV (.agg #[.bool fb.1.1,.slice hq fb.1.2.length hr,.slice hv fb.2.length hw]) (Yj isAgg47 sizeOf47 rfl rfl hj) ?_;obtain ⟨aj,hy,hm⟩:=bZ hm;refine Zi (Z1r hy ht hx) ?_;rintro _ jv ⟨hz,fz,f0,f1,f2,rfl,bd,h0,h1⟩;refine ⟨_,rfl,?_⟩;refine Th (col:=hz) (r:=(Za.pair (Za.pair Za.bool (Za.view (Za.int .u32))) (Za.view (Za.int .u32)))) (xs:=[((aj.1.1,(aj.1.2.1,aj.1.2.2)),(aj.2.1,aj.2.2))]) [(.agg #[.bool aj.1.1,.slice fz ((aj.1.2.2.take aj.1.2.1).length) f0,.slice f1 ((aj.2.2.take aj.2.1).length) f2])] 16 (Wm.ofF (Rows.consF (r:=(Za.pair (Za.pair Za.bool (Za.view (Za.int .u32))) (Za.view (Za.int .u32)))) (x:=((aj.1.1,(aj.1.2.1,aj.1.2.2)),(aj.2.1,aj.2.2))) (cs:=[.bool aj.1.1,.slice fz ((aj.1.2.2.take aj.1.2.1).length) f0,.slice f1 ((aj.2.2.take aj.2.1).length) f2]) (S1 (S1 (T3 aj.1.1) (Zk0 h0)) (Zk0 h1)) Rows.nil0)) ?_;intro jw jx jy be h2;obtain ⟨h3,hm⟩:=Zx hm;replace av:=(av.gr bd).gr be;refine Y3 av (h2.srcN (NB.pair (NB.pair NB.bool NB.view) NB.view)) h3 ?_;intro jz j0 j1 j2 bu h4;refine go ?_;replace af:=((af.gr bd).gr be).kpp bu;replace ag:=((ag.gr bd).gr be).kpp bu;replace ah:=((ah.gr bd).gr be).kpp bu;replace ai:=((ai.gr bd).gr be).kpp bu;replace ab:=((ab.gr bd).gr be).kpp bu;replace ae:=((ae.gr bd).gr be).kpp bu;replace ad:=((ad.gr bd).gr be).kpp bu;replace aa:=((aa.grow bd).grow be).kpp bu;exact ⟨c1,by omega,rfl,⟨_,_,_,_,_,_,rfl,hm,aa,ab,ae,af,ag,ah,ai,ad,h4,rfl⟩⟩
      refine W1 (col:=aw) [97] 17 ?_;intro fd j3 h5 bf b6;refine lV (.agg #[.bool false,.slice none (([]:List Int).length) 0,.slice fd ([97].length) 1]) (Yz (l:=[_,_]) (qs:=[(0,2),(2,1)]) underlying47 zeroValue47 ⟨rfl,sizeOf45,rfl,sizeOf43,trivial⟩ rfl)<|W1 (col:=h5) [98] 18 ?_;intro fe j4 h6 a0 dm;refine lV (.agg #[.bool false,.slice none (([]:List Int).length) 0,.slice fe ([98].length) 1]) (Yz (l:=[_,_]) (qs:=[(0,2),(2,1)]) underlying47 zeroValue47 ⟨rfl,sizeOf45,rfl,sizeOf43,trivial⟩ rfl) ?_;replace af:=(af.gr bf).gr a0;replace af:=af.froz 17 (by decide);replace ag:=(ag.gr bf).gr a0;replace ag:=ag.froz 17 (by decide);replace ah:=(ah.gr bf).gr a0;replace ah:=ah.froz 17 (by decide);replace ai:=(ai.gr bf).gr a0;replace ai:=ai.froz 17 (by decide);replace av:=(av.gr bf).gr a0;replace av:=av.froz 17 (by decide);replace b6:=b6.gr a0;replace b6:=(b6).toSlF (Zn.int .u32);replace dm:=dm.froz 17 (by decide);replace ab:=(ab.gr bf).gr a0;replace ab:=ab.froz 17 (by decide);replace ae:=(ae.gr bf).gr a0;replace ae:=ae.froz 17 (by decide);replace ad:=(ad.gr bf).gr a0;replace ad:=ad.froz 17 (by decide);replace aa:=(aa.grow bf).grow a0;replace aa:=aa.froz 17 (by decide) (by decide);replace af:=af.froz 18 (by decide);replace ag:=ag.froz 18 (by decide);replace ah:=ah.froz 18 (by decide);replace ai:=ai.froz 18 (by decide);replace av:=av.froz 18 (by decide);replace b6:=b6.froz 18;replace dm:=(dm).toSlF (Zn.int .u32);replace ab:=ab.froz 18 (by decide);replace ae:=ae.froz 18 (by decide);replace ad:=ad.froz 18 (by decide);replace aa:=aa.froz 18 (by decide) (by decide)
      refine Th (col:=(Xq 18 (Xq 17 h6))) (r:=(Za.pair (Za.pair Za.bool (Za.view (Za.int .u32))) (Za.view (Za.int .u32)))) (xs:=[((false,(0,([]:List Int))),([97].length,[97])),((false,(0,([]:List Int))),([98].length,[98]))]) [(.agg #[.bool false,.slice none (([]:List Int).length) 0,.slice fd ([97].length) 1]),(.agg #[.bool false,.slice none (([]:List Int).length) 0,.slice fe ([98].length) 1])] 19 (Wm.ofF (Rows.consF (r:=(Za.pair (Za.pair Za.bool (Za.view (Za.int .u32))) (Za.view (Za.int .u32)))) (x:=((false,(0,([]:List Int))),([97].length,[97]))) (cs:=[.bool false,.slice none (([]:List Int).length) 0,.slice fd ([97].length) 1]) (S1 (S1 (T3 false) Zxg) (Zxh b6)) (Rows.consF (r:=(Za.pair (Za.pair Za.bool (Za.view (Za.int .u32))) (Za.view (Za.int .u32)))) (x:=((false,(0,([]:List Int))),([98].length,[98]))) (cs:=[.bool false,.slice none (([]:List Int).length) 0,.slice fe ([98].length) 1]) (S1 (S1 (T3 false) Zxg) (Zxh dm)) Rows.nil0))) ?_;intro j5 j6 j7 bg h7;obtain ⟨h8,hm⟩:=Zx hm;replace av:=av.gr bg;refine Y3 av (h7.srcN (NB.pair (NB.pair NB.bool NB.view) NB.view)) h8 ?_;intro dn dp j8 c3 bv c4;refine go ?_;refine Wh (col:=c3) [(0,1),(1,0),(2,1),(3,1),(4,0),(5,1),(6,1),(7,0),(8,1),(9,1),(10,3),(11,2),(12,1),(13,2)] (by kernel_rfl) (by kernel_rfl)<|xF ⟨_,_,rfl⟩ ?_;replace ad:=(ad.gr bg).kpp bv;refine xW (fun _ hC=>((ad.atN).nth (q:=4) rfl).gr (hC.bl c3)) ?_;refine xu rfl rfl (fun _=>Vf rfl) ?_;refine xF ⟨_,_,rfl⟩ ?_;replace ab:=(ab.gr bg).kpp bv;refine xW (fun _ hC=>((ab.atN).nth (q:=4) rfl).gr (hC.bl c3)) ?_;refine xu rfl rfl (fun _=>Wj rfl) ?_;replace aa:=(aa.grow bg).kpp bv;refine xu rfl rfl (fun _=>Wi underlying25 sizeOf56 rfl rfl (Xn az).1 (Xn az).2.1 ((bj.ks aa).addr az)) ?_;obtain ⟨_,h9,ia⟩:=(bj.ks aa).atN az;obtain ⟨⟨j9,ka,rfl,kb⟩,_⟩:=h9;refine xW (fun _ hC=>ia.one.gr (hC.bl c3)) ?_;refine xu rfl rfl (fun _=>U9 underlying56 rfl) ?_;obtain ⟨ff,hm⟩:=Zx hm;refine xu (v:=.slice dn (Int.toNat (bc.length:Int)) dp) rfl rfl (fun _=>V5 underlying56 sizeOf47 rfl rfl ff.1 (by have:=c4.lecap;have:=ff.2;omega)) ?_
      refine .ld (d:=137) (v:=(.slice dn (((au++[((false,(0,([]:List Int))),([97].length,[97])),((false,(0,([]:List Int))),([98].length,[98]))]).take (Int.toNat (bc.length:Int))).length) dp)) (congrArg (fun n=>Value.slice dn n dp) (List.length_take_of_le (show (Int.toNat (bc.length:Int))≤(au++[((false,(0,([]:List Int))),([97].length,[97])),((false,(0,([]:List Int))),([98].length,[98]))]).length by have:=ff.2;omega)).symm) ?_;refine xe rfl rfl ?_;intro kc hC0;have hC:=hC0.bl c3;replace af:=((af.gr bg).kpp bv).gr hC;replace af:=af.froz 15 (by decide);replace ag:=((ag.gr bg).kpp bv).gr hC;replace ag:=ag.froz 15 (by decide);replace ah:=((ah.gr bg).kpp bv).gr hC;replace ah:=ah.froz 15 (by decide);replace ai:=((ai.gr bg).kpp bv).gr hC;replace ai:=ai.froz 15 (by decide);replace c4:=c4.gr hC;replace c4:=(c4).toSlF (Zn.pair (Zn.pair Zn.bool Zn.view) Zn.view);replace ab:=ab.gr hC;replace ab:=ab.froz 15 (by decide);replace ae:=((ae.gr bg).kpp bv).gr hC;replace ae:=ae.froz 15 (by decide);replace ad:=ad.gr hC;replace ad:=ad.froz 15 (by decide);replace aa:=aa.grow hC;replace aa:=aa.froz 15 (by decide) (by decide);refine Th (col:=(Xq 15 c3)) (r:=(Za.view (Za.pair (Za.pair Za.bool (Za.view (Za.int .u32))) (Za.view (Za.int .u32))))) (xs:=[((Int.toNat (bc.length:Int)),au++[((false,(0,([]:List Int))),([97].length,[97])),((false,(0,([]:List Int))),([98].length,[98]))])]) [(.slice dn (((au++[((false,(0,([]:List Int))),([97].length,[97])),((false,(0,([]:List Int))),([98].length,[98]))]).take (Int.toNat (bc.length:Int))).length) dp)] 20 (Wm.ofF (Rows.consF (r:=(Za.view (Za.pair (Za.pair Za.bool (Za.view (Za.int .u32))) (Za.view (Za.int .u32))))) (x:=((Int.toNat (bc.length:Int)),au++[((false,(0,([]:List Int))),([97].length,[97])),((false,(0,([]:List Int))),([98].length,[98]))])) (cs:=[(.slice dn (((au++[((false,(0,([]:List Int))),([97].length,[97])),((false,(0,([]:List Int))),([98].length,[98]))]).take (Int.toNat (bc.length:Int))).length) dp)]) (Zk0 c4) Rows.nil0)) ?_;intro kd ke fg bh fh;refine Zk<|Xp fg hC0 bh<|xe rfl rfl ?_;intro ib hC0;have hC:=hC0.bl fg;obtain ⟨f3,hm⟩:=Zx hm;replace ai:=(ai.gr bh).gr hC;replace fh:=fh.gr hC;refine Qf (col:=fg) (w:=ib) (r:=(Za.view (Za.pair (Za.pair Za.bool (Za.view (Za.int .u32))) (Za.view (Za.int .u32))))) (c:=8) (c2:=8) (ai.ex) (fh.srcN NB.view) rfl underlying25 Z3g rfl rfl rfl f3.1 f3.2 (by decide) ?_;intro f4 f5 kf dq b7 fi
      refine Zk<|xk dq<|xF ⟨_,_,rfl⟩ ?_;refine xe rfl rfl ?_;intro kg hC0;replace af:=((af.gr bh).gr hC).kpp b7;replace ag:=((ag.gr bh).gr hC).kpp b7;replace ah:=((ah.gr bh).gr hC).kpp b7;replace ab:=((ab.gr bh).gr hC).kpp b7;replace ae:=((ae.gr bh).gr hC).kpp b7;replace ad:=((ad.gr bh).gr hC).kpp b7;replace aa:=((aa.grow bh).grow hC).kpp b7;have hC:=hC0.bl dq;replace ad:=ad.gr hC;refine Tg (off:=4) (v:=(.slice f4 ((bb++[((Int.toNat (bc.length:Int)),au++[((false,(0,([]:List Int))),([97].length,[97])),((false,(0,([]:List Int))),([98].length,[98]))])]).length) f5)) ad sizeOf25 rfl rfl (by intro u hu;simp only [Value.cells,List.mem_cons,List.not_mem_nil,or_false] at hu;subst hu;rfl) rfl rfl ?_;intro ic b8 id dr;replace dr:Zm 27 3 dq ic ax #[.string cu,(.slice cv ((br.take (Int.toNat (ac.2.1.length:Int))).length) cw),.slice cx bs.length cy,.slice cz bt.length c0,(.slice f4 ((bb++[((Int.toNat (bc.length:Int)),au++[((false,(0,([]:List Int))),([97].length,[97])),((false,(0,([]:List Int))),([98].length,[98]))])]).length) f5)]:=dr;refine Zk<|xk dq ?_;replace fi:=(fi.gr hC).kp b8;have fj:=fi.new;refine Y9 ?_;replace af:=(af.gr hC).kp b8;replace ag:=(ag.gr hC).kp b8;replace ah:=(ah.gr hC).kp b8;replace ab:=(ab.gr hC).kp b8;replace ae:=(ae.gr hC).kp b8;replace aa:=(aa.grow hC).kp b8 id;intro kh hC;replace hC:=hC.bl dq;refine go ?_;replace af:=af.gr hC;replace ag:=ag.gr hC;replace ah:=ah.gr hC;replace fj:=fj.gr hC;replace ab:=ab.gr hC;replace ae:=ae.gr hC;replace dr:=dr.gr hC;replace aa:=aa.grow hC;exact ⟨b5,by omega,rfl,⟨_,_,_,_,_,_,_,_,_,_,_,_,_,_,_,_,rfl,hm,aa,ab,ae,af,ag,ah,fj,dr,rfl⟩⟩
    refine lV _ (Z7 isAgg27 sizeOf27 ad)<|Z4 ae ?_;intro ki ds ie bi;refine go ?_;replace af:=af.kp ds;replace af:=(af).toSlF Zn.str;replace ag:=ag.kp ds;replace ag:=ag.froz 4 (by decide);replace ah:=ah.kp ds;replace ah:=ah.froz 4 (by decide);replace ai:=ai.kp ds;replace ai:=ai.froz 4 (by decide);replace bi:=bi.froz 4 (by decide);replace aa:=aa.kp ds ie;replace aa:=aa.froz 4 (by decide) (by decide);replace af:=af.froz 6;replace ag:=(ag).toSlF Zn.view;replace ah:=ah.froz 6 (by decide);replace ai:=ai.froz 6 (by decide);replace bi:=bi.froz 6 (by decide);replace aa:=aa.froz 6 (by decide) (by decide);replace af:=af.froz 7;replace ag:=ag.froz 7;replace ah:=(ah).toSlF Zn.view;replace ai:=ai.froz 7 (by decide);replace bi:=bi.froz 7 (by decide);replace aa:=aa.froz 7 (by decide) (by decide);replace af:=af.froz 8;replace ag:=ag.froz 8;replace ah:=ah.froz 8;replace ai:=(ai).toSlF Zn.view;replace bi:=bi.froz 8 (by decide);replace aa:=aa.froz 8 (by decide) (by decide);cases hm;exact ⟨rfl,_,ra bi.atN,_,_,_,_,_,_,_,_,_,rfl,aa.fin (cm []),aa.fs af,aa.fs ag,aa.fs ah,aa.fs ai⟩
def Zki (aa:Bool):Option Bool:=
  some aa
def Zfv (N:Nat) (n0:Nat) (aa:List ByteArray) (ac:List ByteArray) (ad:ByteArray) (ae:ByteArray):Nat→Int→Option Bool
  | 0,_=>none
  | af+1,ab=>if (decide (ab<(ac.length:Int)))=true then ((Zj (aa.take n0) ab).bind fun ag=>(Zj ac ab).bind fun ah=>if (!decide (ag=ah))=true then (some false) else ((Zfv N n0 aa ac ad ae af) (i64.wrap (ab+1)))) else (Zv ((0:Int)≤(i64.wrap (((aa.take n0).length:Int)+2))∧(i64.wrap (((aa.take n0).length:Int)+2))≤(aa.length:Int)) ((Zj (aa.take (Int.toNat (i64.wrap (((aa.take n0).length:Int)+2)))) ((aa.take n0).length:Int)).bind fun ai=>if (decide (ai=ad))=true then ((Zj (aa.take (Int.toNat (i64.wrap (((aa.take n0).length:Int)+2)))) (i64.wrap (((aa.take n0).length:Int)+1))).bind fun aj=>Zki (decide (aj=ae))) else (Zki false)))
termination_by structural x=>x
def Zfu (N:Nat) (n0:Nat) (aa:List ByteArray) (ab:List ByteArray) (ac:ByteArray) (ad:ByteArray):Option Bool:=
  if (!decide (((aa.take n0).length:Int)=(ab.length:Int)))=true then (some false) else (Zfv N n0 aa ab ac ad N 0)
theorem Zrw {N ae n0 aq:Nat} {a0 a1:Option Addr} {col:Zd} {w0:World} {ab af:R7} {ah ag:ByteArray} {r:Bool} (hm:Zfu N n0 ab af ah ag=some r) (h0:Sl Za.str col w0 a0 ae ab) (h1:Sl Za.str col w0 a1 aq af):
    Calls prog 82 #[.slice a0 ((ab.take n0).length) ae,.slice a1 af.length aq,.string ah,.string ag] w0 (fun e w'=>e= .returned ((.bool r))∧Below w0.heap.size w0 w'):=by
 refine Xc 8 (m:=53) func82 rfl rfl rfl rfl rfl ?_;rw [Zfu.eq_1] at hm;have aa:=St.start col w0;refine go ?_;replace h0:=h0.keep (Zf.start col w0);replace h1:=h1.keep (Zf.start col w0);refine Zo hm (fun hb hm=>go ?_) fun hb hm=>go ?_
 ·cases hm;exact ⟨rfl,rfl,aa.below⟩
 refine Zw [0,1,2,3,1000000] (fun n f ar=>∃ ac ai ad,ad=n∧Zfv N n0 ab af ah ag ad ai=some r∧St w0 (Zh col) ac ar∧[9].map f=[.int .i64 ai]) N ⟨_,0,_,rfl,hm,aa,rfl⟩ ?_;clear hm;intro n f ar hI;obtain ⟨ac,ai,ad,hn,hm,aa,hs⟩:=hI;subst hn;refine .lL [9] hs ?_
 cases ad with
 | zero=>rw [Zfv.eq_1] at hm;cases hm
 | succ ad=>
  rw [Zfv.eq_2] at hm;refine go ?_;refine Zo hm (fun hb hm=>go ?_) fun hb hm=>go ?_
  ·refine Wd (col:=ac) (by kernel_rfl) (by kernel_rfl)<|go ?_;obtain ⟨ax,aj,hm⟩:=bZ hm;refine qI aj (((h0.ks aa).take n0).addr aj)<|qW (fun _ hC=>(((h0.ks aa).take n0).gr (hC.bl ac)).atStr aj) ?_;refine go ?_;obtain ⟨ay,ak,hm⟩:=bZ hm;refine qI ak ((h1.ks aa).addr ak)<|qW (fun _ hC=>((h1.ks aa).gr (hC.bl ac)).atStr ak) ?_;refine go ?_;refine X7 ?_;intro az hC;replace hC:=hC.bl ac;replace aa:=aa.grow hC;refine Zo hm (fun hb hm=>go ?_) fun hb hm=>go ?_
   ·cases hm;exact ⟨rfl,rfl,aa.below⟩
   exact ⟨ad,by omega,rfl,⟨_,_,_,rfl,hm,aa,rfl⟩⟩
  obtain ⟨al,hm⟩:=Zx hm;refine lv (v:=.slice a0 (Int.toNat (i64.wrap (((ab.take n0).length:Int)+2))) ae) rfl rfl (V5 underlying22 sizeOf9 rfl rfl al.1 (by have:=(h0.ks aa).1.2;have:=al.2;omega))<|.ld (d:=35) (v:=(.slice a0 ((ab.take (Int.toNat (i64.wrap (((ab.take n0).length:Int)+2)))).length) ae)) (congrArg (fun n=>Value.slice a0 n ae) (List.length_take_of_le (show (Int.toNat (i64.wrap (((ab.take n0).length:Int)+2)))≤ab.length by have:=al.2;omega)).symm) ?_;refine Za0 rfl<|Zk<|Z0 ?_;refine Wp.cutK [1000000] (fun f au=>∃ av am,Zki am=some r∧St w0 (Zh col) av au∧[8].map f=[.bool am]) ?_ ?_
  ·intro f au hJ;obtain ⟨av,am,hm,aa,hs⟩:=hJ;rw [Zki.eq_1] at hm;refine .lL [8] hs<|We ?_;cases hm;exact ⟨rfl,rfl,aa.below⟩
  refine go ?_;obtain ⟨a2,an,hm⟩:=bZ hm;refine lI an (((h0.ks aa).take (Int.toNat (i64.wrap (((ab.take n0).length:Int)+2)))).addr an)<|lW (((h0.ks aa).take (Int.toNat (i64.wrap (((ab.take n0).length:Int)+2)))).atStr an) ?_;refine go ?_;refine Xt hm (fun ao hm=>go ?_) fun ao hm=>go ?_
  ·obtain ⟨aw,ap,hm⟩:=bZ hm;refine lI ap (((h0.ks aa).take (Int.toNat (i64.wrap (((ab.take n0).length:Int)+2)))).addr ap) ?_;refine go ?_;refine lW (((h0.ks aa).take (Int.toNat (i64.wrap (((ab.take n0).length:Int)+2)))).atStr ap)<|go ?_;refine lV (.bool (decide (aw=ag))) (Xb (congrArg Value.bool ao) rfl)<|go ?_;exact ⟨rfl,_,_,hm,aa,rfl⟩
  refine lV (.bool false) (Xm (congrArg Value.bool ao) rfl)<|go ?_;exact ⟨rfl,_,_,hm,aa,rfl⟩
def Zfr (N:Nat) (ab:R1) (ac:R1):Nat→Int→Option Bool
  | 0,_=>none
  | ad+1,aa=>if (decide (aa<(ab.1.2.length:Int)))=true then ((Zj ab.1.2 aa).bind fun ae=>(Zj ac.1.2 aa).bind fun af=>if (!decide (ae=af))=true then (some false) else ((Zfr N ab ac ad) (i64.wrap (aa+1)))) else (some true)
termination_by structural x=>x
def Zfq (N:Nat) (aa:R1) (ac:R1):Nat→Int→Option Bool
  | 0,_=>none
  | ad+1,ab=>if (decide (ab<(aa.2.length:Int)))=true then ((Zj aa.2 ab).bind fun ae=>(Zj ac.2 ab).bind fun af=>if (!decide (ae=af))=true then (some false) else ((Zfq N aa ac ad) (i64.wrap (ab+1)))) else (Zfr N aa ac N 0)
termination_by structural x=>x
def Zio (N:Nat) (aa:R1) (ab:R1) (ac:Bool):Option Bool:=
  if ac=true then (some false) else (Zfq N aa ab N 0)
def Zin (N:Nat) (aa:R1) (ab:R1):Option Bool:=
  if (!decide (aa.1.1=ab.1.1))=true then (Zio N aa ab true) else (if (!decide ((aa.1.2.length:Int)=(ab.1.2.length:Int)))=true then (Zio N aa ab true) else (Zio N aa ab (!decide ((aa.2.length:Int)=(ab.2.length:Int)))))
theorem Z1x {N aj ak al am:Nat} {an ao ap aq:Option Addr} {col:Zd} {w0:World} {ac ad:R1} {r:Bool} (hm:Zin N ac ad=some r) (ar:Sl (Za.int .u32) col w0 an aj ac.1.2) (au:Sl (Za.int .u32) col w0 ao ak ac.2) (av:Sl (Za.int .u32) col w0 ap al ad.1.2) (aw:Sl (Za.int .u32) col w0 aq am ad.2):
    Calls prog 25 #[(.agg #[.bool ac.1.1,.slice an ac.1.2.length aj,.slice ao ac.2.length ak]),(.agg #[.bool ad.1.1,.slice ap ad.1.2.length al,.slice aq ad.2.length am])] w0 (fun e w'=>e= .returned ((.bool r))∧Below w0.heap.size w0 w'):=by
 refine Xc 4 (m:=73) func25 rfl rfl rfl rfl rfl ?_;rw [Zin.eq_1] at hm;have aa:=St.start col w0;refine go ?_;refine Xg (col:=(Zh col)) 1 rfl ?_;intro a1 bf bd be ab;refine Xg (col:=bd) 2 rfl ?_;intro a2 bg bh bc ae;refine Q4 rfl<|Zk<|Z0<|Z0 ?_;replace ar:=ar.keep (Zf.start col w0);replace au:=au.keep (Zf.start col w0);replace av:=av.keep (Zf.start col w0);replace aw:=aw.keep (Zf.start col w0);replace aa:=(aa.grow be).grow bc;replace ab:=ab.gr bc;refine Wp.cutK [2,3,1000000] (fun f ax=>∃ ay a3,Zio N ac ad a3=some r∧St w0 (Zh col) ay ax∧Zm 47 1 ay ax a1 #[.bool ac.1.1,.slice an ac.1.2.length aj,.slice ao ac.2.length ak]∧Zm 47 2 ay ax a2 #[.bool ad.1.1,.slice ap ad.1.2.length al,.slice aq ad.2.length am]∧[33].map f=[.bool a3]) ?_ ?_
 ·intro f ax hJ;obtain ⟨ay,a3,hm,aa,ab,ae,hs⟩:=hJ;rw [Zio.eq_1] at hm;refine .lL [33] hs ?_;refine Zo hm (fun hb hm=>go ?_) fun hb hm=>go ?_
  ·cases hm;exact ⟨rfl,rfl,aa.below⟩
  refine Zw [2,3,1000000] (fun n f az=>∃ af a4 ah,ah=n∧Zfq N ac ad ah a4=some r∧St w0 (Zh col) af az∧Zm 47 1 af az a1 #[.bool ac.1.1,.slice an ac.1.2.length aj,.slice ao ac.2.length ak]∧Zm 47 2 af az a2 #[.bool ad.1.1,.slice ap ad.1.2.length al,.slice aq ad.2.length am]∧[5].map f=[.int .i64 a4]) N ⟨_,0,_,rfl,hm,aa,ab,ae,rfl⟩ ?_;clear hm;intro n f az hI;obtain ⟨af,a4,ah,hn,hm,aa,ab,ae,hs⟩:=hI;subst hn;refine .lL [5] hs ?_
  cases ah with
  | zero=>rw [Zfq.eq_1] at hm;cases hm
  | succ ah=>
   rw [Zfq.eq_2] at hm;refine go ?_;refine Xa ab ?_;refine go ?_;refine Zo hm (fun hb hm=>go ?_) fun hb hm=>go ?_
   ·refine Wd (col:=af) (by kernel_rfl) (by kernel_rfl)<|qF ⟨_,_,rfl⟩ ?_;refine qW (fun _ hC=>((ab.atN).nth (q:=2) rfl).gr (hC.bl af)) ?_;refine go ?_;obtain ⟨bi,a5,hm⟩:=bZ hm;refine qI a5 ((au.ks aa).addr a5)<|qW (fun _ hC=>((au.ks aa).gr (hC.bl af)).atInt a5) ?_;refine qF ⟨_,_,rfl⟩ ?_;refine qW (fun _ hC=>((ae.atN).nth (q:=2) rfl).gr (hC.bl af)) ?_;refine go ?_;obtain ⟨bj,a6,hm⟩:=bZ hm;refine qI a6 ((aw.ks aa).addr a6)<|qW (fun _ hC=>((aw.ks aa).gr (hC.bl af)).atInt a6) ?_;refine go ?_;refine X7 ?_;intro bk hC;replace hC:=hC.bl af;replace ab:=ab.gr hC;replace ae:=ae.gr hC;replace aa:=aa.grow hC;refine Zo hm (fun hb hm=>go ?_) fun hb hm=>go ?_
    ·cases hm;exact ⟨rfl,rfl,aa.below⟩
    exact ⟨ah,by omega,rfl,⟨_,_,_,rfl,hm,aa,ab,ae,rfl⟩⟩
   refine Zw [2,3,1000000] (fun n f a0=>∃ ag a7 ai,ai=n∧Zfr N ac ad ai a7=some r∧St w0 (Zh col) ag a0∧Zm 47 1 ag a0 a1 #[.bool ac.1.1,.slice an ac.1.2.length aj,.slice ao ac.2.length ak]∧Zm 47 2 ag a0 a2 #[.bool ad.1.1,.slice ap ad.1.2.length al,.slice aq ad.2.length am]∧[6].map f=[.int .i64 a7]) N ⟨_,0,_,rfl,hm,aa,ab,ae,rfl⟩ ?_;clear hm;intro n f a0 hI;obtain ⟨ag,a7,ai,hn,hm,aa,ab,ae,hs⟩:=hI;subst hn;refine .lL [6] hs ?_
   cases ai with
   | zero=>rw [Zfr.eq_1] at hm;cases hm
   | succ ai=>
    rw [Zfr.eq_2] at hm;refine go ?_;refine Xd ⟨_,_,rfl⟩ ?_;refine Xd (X2 ⟨_,_,rfl⟩) ?_;refine lW ((((ab.atN).part 0 2 _ rfl)).nth (q:=1) rfl)<|go ?_;refine Zo hm (fun hb hm=>go ?_) fun hb hm=>go ?_
    ·refine Wd (col:=ag) (by kernel_rfl) (by kernel_rfl)<|qF ⟨_,_,rfl⟩ ?_;refine qF (X2 ⟨_,_,rfl⟩) ?_;refine qW (fun _ hC=>((((ab.atN).part 0 2 _ rfl)).nth (q:=1) rfl).gr (hC.bl ag)) ?_;refine go ?_;obtain ⟨bm,a8,hm⟩:=bZ hm;refine qI a8 ((ar.ks aa).addr a8)<|qW (fun _ hC=>((ar.ks aa).gr (hC.bl ag)).atInt a8) ?_;refine qF ⟨_,_,rfl⟩ ?_;refine qF (X2 ⟨_,_,rfl⟩) ?_;refine qW (fun _ hC=>((((ae.atN).part 0 2 _ rfl)).nth (q:=1) rfl).gr (hC.bl ag)) ?_;refine go ?_;obtain ⟨bn,a9,hm⟩:=bZ hm;refine qI a9 ((av.ks aa).addr a9)<|qW (fun _ hC=>((av.ks aa).gr (hC.bl ag)).atInt a9) ?_;refine go ?_;refine X7 ?_;intro bo hC;replace hC:=hC.bl ag;replace ab:=ab.gr hC;replace ae:=ae.gr hC;replace aa:=aa.grow hC;refine Zo hm (fun hb hm=>go ?_) fun hb hm=>go ?_
     ·cases hm;exact ⟨rfl,rfl,aa.below⟩
     exact ⟨ai,by omega,rfl,⟨_,_,_,rfl,hm,aa,ab,ae,rfl⟩⟩
    cases hm;exact ⟨rfl,rfl,aa.below⟩
 refine Wk<|Xd ⟨_,_,rfl⟩ ?_;refine Xd (X2 ⟨_,_,rfl⟩) ?_;refine lW ((((ab.atN).part 0 2 _ rfl)).nth (q:=0) rfl)<|Xd ⟨_,_,rfl⟩ ?_;refine Xd (X2 ⟨_,_,rfl⟩) ?_;refine lW ((((ae.atN).part 0 2 _ rfl)).nth (q:=0) rfl)<|go ?_;refine Xt hm (fun ba hm=>go ?_) fun ba hm=>go ?_
 ·refine lV (.bool true) (Xb (congrArg Value.bool ba) rfl)<|Y2 rfl<|lP 25 rfl rfl<|lP 25 rfl rfl<|lP 25 rfl rfl<|lP 25 rfl rfl<|lP 25 rfl rfl<|lP 25 rfl rfl<|lP 25 rfl rfl<|lV (.bool true) (Xb rfl rfl)<|Zk ?_;exact ⟨rfl,_,_,hm,aa,ab,ae,rfl⟩
 refine Xd ⟨_,_,rfl⟩ ?_;refine go ?_;refine Xd (X2 ⟨_,_,rfl⟩) ?_;refine go ?_;refine lW ((((ab.atN).part 0 2 _ rfl)).nth (q:=1) rfl)<|go ?_;refine Xd ⟨_,_,rfl⟩ ?_;refine go ?_;refine Xd (X2 ⟨_,_,rfl⟩) ?_;refine go ?_;refine lW ((((ae.atN).part 0 2 _ rfl)).nth (q:=1) rfl)<|go ?_;refine lV (.bool (!decide ((ac.1.2.length:Int)=(ad.1.2.length:Int)))) (Xm (congrArg Value.bool ba) rfl)<|Y2 rfl ?_;refine Xt hm (fun bb hm=>go ?_) fun bb hm=>go ?_
 ·refine lV (.bool true) (Xb (congrArg Value.bool bb) rfl)<|Zk ?_;exact ⟨rfl,_,_,hm,aa,ab,ae,rfl⟩
 refine Xd ⟨_,_,rfl⟩ ?_;refine go ?_;refine lW ((ab.atN).nth (q:=2) rfl)<|go ?_;refine Xd ⟨_,_,rfl⟩ ?_;refine go ?_;refine lW ((ae.atN).nth (q:=2) rfl)<|go ?_;refine lV (.bool (!decide ((ac.2.length:Int)=(ad.2.length:Int)))) (Xm (congrArg Value.bool bb) rfl)<|Zk ?_;exact ⟨rfl,_,_,hm,aa,ab,ae,rfl⟩
def Zkh (aa:Int) (kk_L2:(Int→Option Bool)) (ab:Bool):Option Bool:=
  if ab=true then (some false) else (kk_L2 (i64.wrap (aa+1)))
def Zfm (N:Nat) (ad:R3) (af:R0) (ab:Int) (kk_L2:(Int→Option Bool)) (aa:List Int):Nat→Int→Option Bool
  | 0,_=>none
  | ah+1,ac=>if (decide (ac<(aa.length:Int)))=true then ((Zj ad.2.2.2.1 ab).bind fun ag=>(Zj (ag.2.take ag.1) ac).bind fun ai=>(Zj af.2.2.2.1 ab).bind fun aj=>(Zj aj ac).bind fun ak=>if (!decide (ai=ak))=true then (some false) else ((Zfm N ad af ab kk_L2 aa ah) (i64.wrap (ac+1)))) else ((Zj ad.2.2.2.1 ab).bind fun ae=>Zv ((0:Int)≤(i64.wrap ((aa.length:Int)+2))∧(i64.wrap ((aa.length:Int)+2))≤(ae.2.length:Int)) ((Zj (ae.2.take (Int.toNat (i64.wrap ((aa.length:Int)+2)))) (aa.length:Int)).bind fun al=>if (!decide (al=(-95)))=true then (Zkh ab kk_L2 true) else ((Zj (ae.2.take (Int.toNat (i64.wrap ((aa.length:Int)+2)))) (i64.wrap ((aa.length:Int)+1))).bind fun am=>Zkh ab kk_L2 (!decide (am=(-96))))))
termination_by structural x=>x
def Zc4 (aa:Int) (kk_L5:(Int→Option Bool)) (ab:Bool):Option Bool:=
  if ab=true then (some false) else (kk_L5 (i64.wrap (aa+1)))
def Zfk (aa:Int) (kk_L4:(Int→Option Bool)) (ab:Bool):Option Bool:=
  if ab=true then (some false) else (kk_L4 (i64.wrap (aa+1)))
def Sr (N:Nat) (ae:R3) (af:R0) (ab:Int) (kk_L4:(Int→Option Bool)) (ac:R8):Nat→Int→Option Bool
  | 0,_=>none
  | ag+1,ad=>if (decide (ad<(ac.length:Int)))=true then ((Zj ae.2.2.2.2 ab).bind fun al=>(Zj (al.2.take al.1) ad).bind fun aa=>Zv ((0:Int)≤(i64.wrap (((aa.1.2.2.take aa.1.2.1).length:Int)+2))∧(i64.wrap (((aa.1.2.2.take aa.1.2.1).length:Int)+2))≤(aa.1.2.2.length:Int)) (Zv ((0:Int)≤(i64.wrap (((aa.2.2.take aa.2.1).length:Int)+2))∧(i64.wrap (((aa.2.2.take aa.2.1).length:Int)+2))≤(aa.2.2.length:Int)) ((Zj af.2.2.2.2 ab).bind fun am=>(Zj am ad).bind fun aj=>(Zin N ((aa.1.1,aa.1.2.2.take aa.1.2.1),aa.2.2.take aa.2.1) ((aj.1.1,aj.1.2),aj.2)).bind fun an=>if (!an)=true then (Zc4 ad (Sr N ae af ab kk_L4 ac ag) true) else ((Zj (aa.1.2.2.take (Int.toNat (i64.wrap (((aa.1.2.2.take aa.1.2.1).length:Int)+2)))) (i64.wrap (((aa.1.2.2.take (Int.toNat (i64.wrap (((aa.1.2.2.take aa.1.2.1).length:Int)+2)))).length:Int) - 1))).bind fun ao=>if (!decide (ao=902))=true then (Zc4 ad (Sr N ae af ab kk_L4 ac ag) true) else ((Zj (aa.1.2.2.take (Int.toNat (i64.wrap (((aa.1.2.2.take aa.1.2.1).length:Int)+2)))) (i64.wrap (((aa.1.2.2.take (Int.toNat (i64.wrap (((aa.1.2.2.take aa.1.2.1).length:Int)+2)))).length:Int) - 2))).bind fun ap=>if (!decide (ap=901))=true then (Zc4 ad (Sr N ae af ab kk_L4 ac ag) true) else ((Zj (aa.2.2.take (Int.toNat (i64.wrap (((aa.2.2.take aa.2.1).length:Int)+2)))) (i64.wrap (((aa.2.2.take (Int.toNat (i64.wrap (((aa.2.2.take aa.2.1).length:Int)+2)))).length:Int) - 1))).bind fun aq=>if (!decide (aq=904))=true then (Zc4 ad (Sr N ae af ab kk_L4 ac ag) true) else ((Zj (aa.2.2.take (Int.toNat (i64.wrap (((aa.2.2.take aa.2.1).length:Int)+2)))) (i64.wrap (((aa.2.2.take (Int.toNat (i64.wrap (((aa.2.2.take aa.2.1).length:Int)+2)))).length:Int) - 2))).bind fun ar=>Zc4 ad (Sr N ae af ab kk_L4 ac ag) (!decide (ar=903))))))))) else ((Zj ae.2.2.2.2 ab).bind fun ak=>Zv ((0:Int)≤(i64.wrap ((ac.length:Int)+2))∧(i64.wrap ((ac.length:Int)+2))≤(ak.2.length:Int)) ((Zj (ak.2.take (Int.toNat (i64.wrap ((ac.length:Int)+2)))) (ac.length:Int)).bind fun ah=>if (!decide (((ah.2.2.take ah.2.1).length:Int)=1))=true then (Zfk ab kk_L4 true) else ((Zj (ah.2.2.take ah.2.1) 0).bind fun au=>if (!decide (au=97))=true then (Zfk ab kk_L4 true) else ((Zj (ak.2.take (Int.toNat (i64.wrap ((ac.length:Int)+2)))) (i64.wrap ((ac.length:Int)+1))).bind fun ai=>if (!decide (((ai.2.2.take ai.2.1).length:Int)=1))=true then (Zfk ab kk_L4 true) else ((Zj (ai.2.2.take ai.2.1) 0).bind fun av=>Zfk ab kk_L4 (!decide (av=98)))))))
termination_by structural x=>x
def Qt (N:Nat) (ac:R3) (aa:R0):Nat→Int→Option Bool
  | 0,_=>none
  | af+1,ab=>if (decide (ab<(aa.2.2.2.2.length:Int)))=true then ((Zj aa.2.2.2.2 ab).bind fun ad=>(Zj ac.2.2.2.2 ab).bind fun ae=>if (!decide (((ae.2.take ae.1).length:Int)=(ad.length:Int)))=true then (some false) else (Sr N ac aa ab (Qt N ac aa af) ad N 0)) else (some true)
termination_by structural x=>x
def Zam (N:Nat) (ab:R3) (aa:R0):Nat→Int→Option Bool
  | 0,_=>none
  | af+1,ac=>if (decide (ac<(aa.2.2.2.1.length:Int)))=true then ((Zj aa.2.2.2.1 ac).bind fun ad=>(Zj ab.2.2.2.1 ac).bind fun ae=>if (!decide (((ae.2.take ae.1).length:Int)=(ad.length:Int)))=true then (some false) else (Zfm N ab aa ac (Zam N ab aa af) ad N 0)) else (Qt N ab aa N 0)
termination_by structural x=>x
def Zfl (N:Nat) (ac:R3) (aa:R0):Nat→Int→Option Bool
  | 0,_=>none
  | ae+1,ab=>if (decide (ab<(aa.2.2.1.length:Int)))=true then ((Zj ac.2.2.1 ab).bind fun ad=>(Zj aa.2.2.1 ab).bind fun af=>(Zfu N ad.1 ad.2 af (⟨#[35,51]⟩) (⟨#[35,52]⟩)).bind fun ag=>if (!ag)=true then (some false) else ((Zfl N ac aa ae) (i64.wrap (ab+1)))) else (Zam N ac aa N 0)
termination_by structural x=>x
def Zc3 (N:Nat) (aa:R3) (ab:R0) (ac:Bool):Option Bool:=
  if ac=true then (some false) else (Zfl N aa ab N 0)
def Zij (N:Nat) (aa:R3) (ab:R0):Option Bool:=
  if (!decide (aa.1=ab.1))=true then (Zc3 N aa ab true) else (if (!decide ((aa.2.2.1.length:Int)=(ab.2.2.1.length:Int)))=true then (Zc3 N aa ab true) else (if (!decide ((aa.2.2.2.1.length:Int)=(ab.2.2.2.1.length:Int)))=true then (Zc3 N aa ab true) else (if (!decide ((aa.2.2.2.2.length:Int)=(ab.2.2.2.2.length:Int)))=true then (Zc3 N aa ab true) else ((Zfu N aa.2.1.1 aa.2.1.2 ab.2.1 (⟨#[35,49]⟩) (⟨#[35,50]⟩)).bind fun ac=>Zc3 N aa ab (!ac)))))
theorem Z1t {N al am an ao ap aq ar au:Nat} {av aw ax ay az a0 a1 a2:Option Addr} {col:Zd} {w0:World} {ab:R3} {ac:R0} {r:Bool} (hm:Zij N ab ac=some r) (cp:Sl Za.str col w0 av al ab.2.1.2) (b1:Sl (Za.view Za.str) col w0 aw am ab.2.2.1) (ba:Sl (Za.view (Za.int .i64)) col w0 ax an ab.2.2.2.1) (bb:Sl (Za.view (Za.pair (Za.pair Za.bool (Za.view (Za.int .u32))) (Za.view (Za.int .u32)))) col w0 ay ao ab.2.2.2.2) (cq:Sl Za.str col w0 az ap ac.2.1) (b2:Sl (Za.slice Za.str) col w0 a0 aq ac.2.2.1) (bi:Sl (Za.slice (Za.int .i64)) col w0 a1 ar ac.2.2.2.1) (bj:Sl (Za.slice (Za.pair (Za.pair Za.bool (Za.slice (Za.int .u32))) (Za.slice (Za.int .u32)))) col w0 a2 au ac.2.2.2.2):
    Calls prog 19 #[(.agg #[.string ab.1,.slice av ((ab.2.1.2.take ab.2.1.1).length) al,.slice aw ab.2.2.1.length am,.slice ax ab.2.2.2.1.length an,.slice ay ab.2.2.2.2.length ao]),(.agg #[.string ac.1,.slice az ac.2.1.length ap,.slice a0 ac.2.2.1.length aq,.slice a1 ac.2.2.2.1.length ar,.slice a2 ac.2.2.2.2.length au])] w0 (fun e w'=>e= .returned ((.bool r))∧Below w0.heap.size w0 w'):=by
 refine Xc 4 (m:=283) func19 rfl rfl rfl rfl rfl ?_;rw [Zij.eq_1] at hm;have aa:=St.start col w0;refine go ?_;refine Xg (col:=(Zh col)) 1 rfl ?_;intro a7 ha ed ee ad;refine Xg (col:=ed) 2 rfl ?_;intro a8 ef d9 ea ae;refine Q4 rfl<|Zk<|Z0<|Z0 ?_;replace cp:=cp.keep (Zf.start col w0);replace b1:=b1.keep (Zf.start col w0);replace ba:=ba.keep (Zf.start col w0);replace bb:=bb.keep (Zf.start col w0);replace cq:=cq.keep (Zf.start col w0);replace b2:=b2.keep (Zf.start col w0);replace bi:=bi.keep (Zf.start col w0);replace bj:=bj.keep (Zf.start col w0);replace aa:=(aa.grow ee).grow ea;replace ad:=ad.gr ea;refine Wp.cutK [2,3,1000000] (fun f b3=>∃ b4 cr,Zc3 N ab ac cr=some r∧St w0 (Zh col) b4 b3∧Zm 27 1 b4 b3 a7 #[.string ab.1,.slice av ((ab.2.1.2.take ab.2.1.1).length) al,.slice aw ab.2.2.1.length am,.slice ax ab.2.2.2.1.length an,.slice ay ab.2.2.2.2.length ao]∧Zm 27 2 b4 b3 a8 #[.string ac.1,.slice az ac.2.1.length ap,.slice a0 ac.2.2.1.length aq,.slice a1 ac.2.2.2.1.length ar,.slice a2 ac.2.2.2.2.length au]∧[56].map f=[.bool cr]) ?_ ?_
 ·intro f b3 hJ;obtain ⟨b4,cr,hm,aa,ad,ae,hs⟩:=hJ;rw [Zc3.eq_1] at hm;refine .lL [56] hs ?_;refine Zo hm (fun hb hm=>go ?_) fun hb hm=>go ?_
  ·cases hm;exact ⟨rfl,rfl,aa.below⟩
  refine Zw [2,3,1000000] (fun n f bp=>∃ ak cs bk,bk=n∧Zfl N ab ac bk cs=some r∧St w0 (Zh col) ak bp∧Zm 27 1 ak bp a7 #[.string ab.1,.slice av ((ab.2.1.2.take ab.2.1.1).length) al,.slice aw ab.2.2.1.length am,.slice ax ab.2.2.2.1.length an,.slice ay ab.2.2.2.2.length ao]∧Zm 27 2 ak bp a8 #[.string ac.1,.slice az ac.2.1.length ap,.slice a0 ac.2.2.1.length aq,.slice a1 ac.2.2.2.1.length ar,.slice a2 ac.2.2.2.2.length au]∧[5].map f=[.int .i64 cs]) N ⟨_,0,_,rfl,hm,aa,ad,ae,rfl⟩ ?_;clear hm;intro n f bp hI;obtain ⟨ak,cs,bk,hn,hm,aa,ad,ae,hs⟩:=hI;subst hn;refine .lL [5] hs ?_
  cases bk with
  | zero=>rw [Zfl.eq_1] at hm;cases hm
  | succ bk=>
   rw [Zfl.eq_2] at hm;refine go ?_;refine Xa ae ?_;refine go ?_;refine Zo hm (fun hb hm=>go ?_) fun hb hm=>go ?_
   ·refine Wd (col:=ak) (by kernel_rfl) (by kernel_rfl)<|qF ⟨_,_,rfl⟩ ?_;refine qW (fun _ hC=>((ad.atN).nth (q:=2) rfl).gr (hC.bl ak)) ?_;refine go ?_;obtain ⟨eg,ct,hm⟩:=bZ hm;refine qI ct ((b1.ks aa).addr ct) ?_;obtain ⟨_,eh,ei⟩:=(b1.ks aa).atN ct;obtain ⟨⟨ej,ek,rfl,cu⟩,_⟩:=eh;replace cu:Sl Za.str ak bp ej ek eg.2:=cu;refine qW (fun _ hC=>ei.one.gr (hC.bl ak)) ?_;refine qF ⟨_,_,rfl⟩ ?_;refine qW (fun _ hC=>((ae.atN).nth (q:=2) rfl).gr (hC.bl ak)) ?_;refine go ?_;obtain ⟨hc,cv,hm⟩:=bZ hm;refine qI cv ((b2.ks aa).addr cv) ?_;obtain ⟨_,el,em⟩:=(b2.ks aa).atN cv;obtain ⟨⟨hd,he,rfl,en⟩,_⟩:=el;refine qW (fun _ hC=>em.one.gr (hC.bl ak)) ?_;obtain ⟨eo,ep,hm⟩:=bZ hm;refine qc (v:=(.bool eo)) rfl (fun _ hC=>⟨_,_,Zwu call82 rfl rfl rfl rfl,(Zrw ep (cu.gr (hC.bl ak)) (en.gr (hC.bl ak)):).mono fun _ _ h=>⟨h.1,hC.trans (.of_below h.2)⟩⟩) ?_;refine go ?_;refine X7 ?_;intro hf hC;replace hC:=hC.bl ak;replace ad:=ad.gr hC;replace ae:=ae.gr hC;replace aa:=aa.grow hC;refine Zo hm (fun hb hm=>go ?_) fun hb hm=>go ?_
    ·cases hm;exact ⟨rfl,rfl,aa.below⟩
    exact ⟨bk,by omega,rfl,⟨_,_,_,rfl,hm,aa,ad,ae,rfl⟩⟩
   refine Zw [2,3,1000000] (fun n f b5=>∃ b6 bq bc,bc=n∧Zam N ab ac bc bq=some r∧St w0 (Zh col) b6 b5∧Zm 27 1 b6 b5 a7 #[.string ab.1,.slice av ((ab.2.1.2.take ab.2.1.1).length) al,.slice aw ab.2.2.1.length am,.slice ax ab.2.2.2.1.length an,.slice ay ab.2.2.2.2.length ao]∧Zm 27 2 b6 b5 a8 #[.string ac.1,.slice az ac.2.1.length ap,.slice a0 ac.2.2.1.length aq,.slice a1 ac.2.2.2.1.length ar,.slice a2 ac.2.2.2.2.length au]∧[6].map f=[.int .i64 bq]) N ⟨_,0,_,rfl,hm,aa,ad,ae,rfl⟩ ?_;clear hm;intro n f b5 hI;obtain ⟨b6,bq,bc,hn,hm,aa,ad,ae,hs⟩:=hI;subst hn;refine .lL [6] hs ?_
   cases bc with
   | zero=>rw [Zam.eq_1] at hm;cases hm
   | succ bc=>
    rw [Zam.eq_2] at hm;refine go ?_;refine Xa ae ?_;refine go ?_;refine Zo hm (fun hb hm=>go ?_) fun hb hm=>go ?_
    ·refine Xa ae<|Xo rfl ?_;obtain ⟨bd,cw,hm⟩:=bZ hm;refine lI cw ((bi.ks aa).addr cw) ?_;obtain ⟨_,eq,er⟩:=(bi.ks aa).atN cw;obtain ⟨⟨hg,hh,rfl,hi⟩,_⟩:=eq;refine lW er.one<|go ?_;refine Xa ad<|Xo rfl ?_;obtain ⟨hj,cx,hm⟩:=bZ hm;refine lI cx ((ba.ks aa).addr cx) ?_;obtain ⟨_,es,et⟩:=(ba.ks aa).atN cx;obtain ⟨⟨hk,hl,rfl,ho⟩,_⟩:=es;refine lW et.one<|go ?_;refine Zo hm (fun hb hm=>go ?_) fun hb hm=>go ?_
     ·cases hm;exact ⟨rfl,rfl,aa.below⟩
     refine Zw [2,3,6,7,1000000] (fun n f bm=>∃ aj cy bn,bn=n∧Zfm N ab ac bq (Zam N ab ac bc) bd bn cy=some r∧St w0 (Zh col) aj bm∧Zm 27 1 aj bm a7 #[.string ab.1,.slice av ((ab.2.1.2.take ab.2.1.1).length) al,.slice aw ab.2.2.1.length am,.slice ax ab.2.2.2.1.length an,.slice ay ab.2.2.2.2.length ao]∧Zm 27 2 aj bm a8 #[.string ac.1,.slice az ac.2.1.length ap,.slice a0 ac.2.2.1.length aq,.slice a1 ac.2.2.2.1.length ar,.slice a2 ac.2.2.2.2.length au]∧[8].map f=[.int .i64 cy]) N ⟨_,0,_,rfl,hm,aa,ad,ae,rfl⟩ ?_;clear hm;intro n f bm hI;obtain ⟨aj,cy,bn,hn,hm,aa,ad,ae,hs⟩:=hI;subst hn;refine .lL [8] hs ?_
     cases bn with
     | zero=>rw [Zfm.eq_1] at hm;cases hm
     | succ bn=>
      rw [Zfm.eq_2] at hm;refine go ?_;refine Zo hm (fun hb hm=>go ?_) fun hb hm=>go ?_
      ·refine Wd (col:=aj) (by kernel_rfl) (by kernel_rfl)<|qF ⟨_,_,rfl⟩ ?_;refine qW (fun _ hC=>((ad.atN).nth (q:=3) rfl).gr (hC.bl aj)) ?_;refine go ?_;obtain ⟨cz,c0,hm⟩:=bZ hm;refine qI c0 ((ba.ks aa).addr c0) ?_;obtain ⟨_,eu,ew⟩:=(ba.ks aa).atN c0;obtain ⟨⟨ey,ez,rfl,b7⟩,_⟩:=eu;replace b7:Sl (Za.int .i64) aj bm ey ez cz.2:=b7;refine qW (fun _ hC=>ew.one.gr (hC.bl aj)) ?_;refine go ?_;obtain ⟨hp,c1,hm⟩:=bZ hm;refine qI c1 ((b7.take cz.1).addr c1)<|qW (fun _ hC=>((b7.take cz.1).gr (hC.bl aj)).atInt c1) ?_;refine qF ⟨_,_,rfl⟩ ?_;refine qW (fun _ hC=>((ae.atN).nth (q:=3) rfl).gr (hC.bl aj)) ?_;refine go ?_;obtain ⟨hq,c2,hm⟩:=bZ hm;refine qI c2 ((bi.ks aa).addr c2) ?_;obtain ⟨_,e0,e1⟩:=(bi.ks aa).atN c2;obtain ⟨⟨hr,ht,rfl,eb⟩,_⟩:=e0;refine qW (fun _ hC=>e1.one.gr (hC.bl aj)) ?_;refine go ?_;obtain ⟨hu,c3,hm⟩:=bZ hm;refine qI c3 (eb.addr c3)<|qW (fun _ hC=>(eb.gr (hC.bl aj)).atInt c3) ?_;refine go ?_;refine X7 ?_;intro hv hC;replace hC:=hC.bl aj;replace ad:=ad.gr hC;replace ae:=ae.gr hC;replace aa:=aa.grow hC;refine Zo hm (fun hb hm=>go ?_) fun hb hm=>go ?_
       ·cases hm;exact ⟨rfl,rfl,aa.below⟩
       exact ⟨bn,by omega,rfl,⟨_,_,_,rfl,hm,aa,ad,ae,rfl⟩⟩
      refine Xa ad<|Xo rfl ?_;obtain ⟨c4,c5,hm⟩:=bZ hm;refine lI c5 ((ba.ks aa).addr c5) ?_;obtain ⟨_,e2,e3⟩:=(ba.ks aa).atN c5;obtain ⟨⟨b8,b9,rfl,bg⟩,_⟩:=e2;replace bg:Sl (Za.int .i64) aj bm b8 b9 c4.2:=bg;refine lW e3.one<|go ?_;obtain ⟨c6,hm⟩:=Zx hm;refine lv (v:=.slice b8 (Int.toNat (i64.wrap ((bd.length:Int)+2))) b9) rfl rfl (V5 underlying40 sizeOf3 rfl rfl c6.1 (by have:=bg.1.2;have:=c6.2;omega))<|.ld (d:=126) (v:=(.slice b8 ((c4.2.take (Int.toNat (i64.wrap ((bd.length:Int)+2)))).length) b9)) (congrArg (fun n=>Value.slice b8 n b9) (List.length_take_of_le (show (Int.toNat (i64.wrap ((bd.length:Int)+2)))≤c4.2.length by have:=c6.2;omega)).symm) ?_;refine Za0 rfl<|Zk<|Z0 ?_;refine Wp.cutK [2,3,6,1000000] (fun f ca=>∃ cb c7,Zkh bq (Zam N ab ac bc) c7=some r∧St w0 (Zh col) cb ca∧Zm 27 1 cb ca a7 #[.string ab.1,.slice av ((ab.2.1.2.take ab.2.1.1).length) al,.slice aw ab.2.2.1.length am,.slice ax ab.2.2.2.1.length an,.slice ay ab.2.2.2.2.length ao]∧Zm 27 2 cb ca a8 #[.string ac.1,.slice az ac.2.1.length ap,.slice a0 ac.2.2.1.length aq,.slice a1 ac.2.2.2.1.length ar,.slice a2 ac.2.2.2.2.length au]∧[139].map f=[.bool c7]) ?_ ?_
      ·intro f ca hJ;obtain ⟨cb,c7,hm,aa,ad,ae,hs⟩:=hJ;rw [Zkh.eq_1] at hm;refine .lL [139] hs ?_;refine Zo hm (fun hb hm=>go ?_) fun hb hm=>go ?_
       ·cases hm;exact ⟨rfl,rfl,aa.below⟩
       exact ⟨bc,by omega,rfl,⟨_,_,_,rfl,hm,aa,ad,ae,rfl⟩⟩
      refine go ?_;obtain ⟨hw,c8,hm⟩:=bZ hm;refine lI c8 ((bg.take (Int.toNat (i64.wrap ((bd.length:Int)+2)))).addr c8)<|lW ((bg.take (Int.toNat (i64.wrap ((bd.length:Int)+2)))).atInt c8) ?_;refine go ?_;refine Xt hm (fun c9 hm=>go ?_) fun c9 hm=>go ?_
      ·refine lV (.bool true) (Xb (congrArg Value.bool c9) rfl)<|Zk ?_;exact ⟨rfl,_,_,hm,aa,ad,ae,rfl⟩
      obtain ⟨e4,da,hm⟩:=bZ hm;refine lI da ((bg.take (Int.toNat (i64.wrap ((bd.length:Int)+2)))).addr da) ?_;refine go ?_;refine lW ((bg.take (Int.toNat (i64.wrap ((bd.length:Int)+2)))).atInt da)<|go ?_;refine lV (.bool (!decide (e4=(-96)))) (Xm (congrArg Value.bool c9) rfl)<|Zk ?_;exact ⟨rfl,_,_,hm,aa,ad,ae,rfl⟩
    refine Zw [2,3,1000000] (fun n f cc=>∃ cd bo a9,a9=n∧Qt N ab ac a9 bo=some r∧St w0 (Zh col) cd cc∧Zm 27 1 cd cc a7 #[.string ab.1,.slice av ((ab.2.1.2.take ab.2.1.1).length) al,.slice aw ab.2.2.1.length am,.slice ax ab.2.2.2.1.length an,.slice ay ab.2.2.2.2.length ao]∧Zm 27 2 cd cc a8 #[.string ac.1,.slice az ac.2.1.length ap,.slice a0 ac.2.2.1.length aq,.slice a1 ac.2.2.2.1.length ar,.slice a2 ac.2.2.2.2.length au]∧[10].map f=[.int .i64 bo]) N ⟨_,0,_,rfl,hm,aa,ad,ae,rfl⟩ ?_;clear hm;intro n f cc hI;obtain ⟨cd,bo,a9,hn,hm,aa,ad,ae,hs⟩:=hI;subst hn;refine .lL [10] hs ?_
    cases a9 with
    | zero=>rw [Qt.eq_1] at hm;cases hm
    | succ a9=>
     rw [Qt.eq_2] at hm;refine go ?_;refine Xa ae ?_;refine go ?_;refine Zo hm (fun hb hm=>go ?_) fun hb hm=>go ?_
     ·refine Xa ae<|Xo rfl ?_;obtain ⟨ah,db,hm⟩:=bZ hm;refine lI db ((bj.ks aa).addr db) ?_;obtain ⟨_,e5,e6⟩:=(bj.ks aa).atN db;obtain ⟨⟨hx,hy,rfl,hz⟩,_⟩:=e5;refine lW e6.one<|go ?_;refine Xa ad<|Xo rfl ?_;obtain ⟨h0,dc,hm⟩:=bZ hm;refine lI dc ((bb.ks aa).addr dc) ?_;obtain ⟨_,e7,e8⟩:=(bb.ks aa).atN dc;obtain ⟨⟨h1,h2,rfl,h3⟩,_⟩:=e7;refine lW e8.one<|go ?_;refine Zo hm (fun hb hm=>go ?_) fun hb hm=>go ?_
      ·cases hm;exact ⟨rfl,rfl,aa.below⟩
      refine Zw [10,11,2,3,1000000] (fun n f a4=>∃ a3 ce bh,bh=n∧Sr N ab ac bo (Qt N ab ac a9) ah bh ce=some r∧St w0 (Zh col) a3 a4∧Zm 27 1 a3 a4 a7 #[.string ab.1,.slice av ((ab.2.1.2.take ab.2.1.1).length) al,.slice aw ab.2.2.1.length am,.slice ax ab.2.2.2.1.length an,.slice ay ab.2.2.2.2.length ao]∧Zm 27 2 a3 a4 a8 #[.string ac.1,.slice az ac.2.1.length ap,.slice a0 ac.2.2.1.length aq,.slice a1 ac.2.2.2.1.length ar,.slice a2 ac.2.2.2.2.length au]∧[12].map f=[.int .i64 ce]) N ⟨_,0,_,rfl,hm,aa,ad,ae,rfl⟩ ?_;clear hm;intro n f a4 hI;obtain ⟨a3,ce,bh,hn,hm,aa,ad,ae,hs⟩:=hI;subst hn;refine .lL [12] hs ?_
      cases bh with
      | zero=>rw [Sr.eq_1] at hm;cases hm
      | succ bh=>
       rw [Sr.eq_2] at hm;refine go ?_;refine Zo hm (fun hb hm=>go ?_) fun hb hm=>go ?_
       ·refine Xa ad<|Xo rfl ?_;obtain ⟨dd,de,hm⟩:=bZ hm;refine lI de ((bb.ks aa).addr de) ?_;obtain ⟨_,e9,fa⟩:=(bb.ks aa).atN de;obtain ⟨⟨fb,fc,rfl,cf⟩,_⟩:=e9;replace cf:Sl (Za.pair (Za.pair Za.bool (Za.view (Za.int .u32))) (Za.view (Za.int .u32))) a3 a4 fb fc dd.2:=cf;refine lW fa.one<|Xo rfl ?_;obtain ⟨af,df,hm⟩:=bZ hm;refine lI df ((cf.take dd.1).addr df) ?_;obtain ⟨_,fd,fe⟩:=(cf.take dd.1).atN df;obtain ⟨_,_,rfl,ff,fg⟩:=Yi fd;obtain ⟨_,_,rfl,fh,fi⟩:=Yi ff;obtain ⟨rfl,_⟩:=fh;obtain ⟨⟨br,bs,rfl,a5⟩,_⟩:=fi;replace a5:Sl (Za.int .u32) a3 a4 br bs af.1.2.2:=a5;obtain ⟨⟨bt,bu,rfl,a6⟩,_⟩:=fg;replace a6:Sl (Za.int .u32) a3 a4 bt bu af.2.2:=a6;refine lV (.agg #[.bool af.1.1,.slice br ((af.1.2.2.take af.1.2.1).length) bs,.slice bt ((af.2.2.take af.2.1).length) bu]) (Yj isAgg47 sizeOf47 rfl rfl fe)<|Xl (col:=a3) #[.bool false,.slice none (([]:List Int).length) 0,.slice none (([]:List Int).length) 0] 3 zeroValue47 ?_;intro h4 h5 ag bv fj;refine Z4 fj ?_;intro h6 bw fk bx;refine go ?_;refine Xd ⟨_,_,rfl⟩ ?_;refine Xd (X2 ⟨_,_,rfl⟩) ?_;refine lW ((((bx.atN).part 0 2 _ rfl)).nth (q:=1) rfl)<|Xd ⟨_,_,rfl⟩ ?_;refine Xd (X2 ⟨_,_,rfl⟩) ?_;refine lW ((((bx.atN).part 0 2 _ rfl)).nth (q:=1) rfl)<|go ?_;obtain ⟨dg,hm⟩:=Zx hm;replace a5:=(a5.gr bv).kp bw;refine lv (v:=.slice br (Int.toNat (i64.wrap (((af.1.2.2.take af.1.2.1).length:Int)+2))) bs) rfl rfl (V5 underlying43 sizeOf79 rfl rfl dg.1 (by have:=a5.1.2;have:=dg.2;omega))<|.ld (d:=182) (v:=(.slice br ((af.1.2.2.take (Int.toNat (i64.wrap (((af.1.2.2.take af.1.2.1).length:Int)+2)))).length) bs)) (congrArg (fun n=>Value.slice br n bs) (List.length_take_of_le (show (Int.toNat (i64.wrap (((af.1.2.2.take af.1.2.1).length:Int)+2)))≤af.1.2.2.length by have:=dg.2;omega)).symm) ?_;refine go ?_;refine Xa bx<|Xa bx ?_;refine go ?_;obtain ⟨dh,hm⟩:=Zx hm;replace a6:=(a6.gr bv).kp bw
        refine lv (v:=.slice bt (Int.toNat (i64.wrap (((af.2.2.take af.2.1).length:Int)+2))) bu) rfl rfl (V5 underlying43 sizeOf79 rfl rfl dh.1 (by have:=a6.1.2;have:=dh.2;omega))<|.ld (d:=189) (v:=(.slice bt ((af.2.2.take (Int.toNat (i64.wrap (((af.2.2.take af.2.1).length:Int)+2)))).length) bu)) (congrArg (fun n=>Value.slice bt n bu) (List.length_take_of_le (show (Int.toNat (i64.wrap (((af.2.2.take af.2.1).length:Int)+2)))≤af.2.2.length by have:=dh.2;omega)).symm) ?_;refine Za0 rfl<|Zk<|Z0 ?_;replace ad:=(ad.gr bv).kp bw;replace ae:=(ae.gr bv).kp bw;replace aa:=(aa.grow bv).kp bw fk;refine Wp.cutK [10,11,12,2,3,1000000] (fun f cg=>∃ ch di,Zc4 ce (Sr N ab ac bo (Qt N ab ac a9) ah bh) di=some r∧St w0 (Zh col) ch cg∧Zm 27 1 ch cg a7 #[.string ab.1,.slice av ((ab.2.1.2.take ab.2.1.1).length) al,.slice aw ab.2.2.1.length am,.slice ax ab.2.2.2.1.length an,.slice ay ab.2.2.2.2.length ao]∧Zm 27 2 ch cg a8 #[.string ac.1,.slice az ac.2.1.length ap,.slice a0 ac.2.2.1.length aq,.slice a1 ac.2.2.2.1.length ar,.slice a2 ac.2.2.2.2.length au]∧[236].map f=[.bool di]) ?_ ?_
        ·intro f cg hJ;obtain ⟨ch,di,hm,aa,ad,ae,hs⟩:=hJ;rw [Zc4.eq_1] at hm;refine .lL [236] hs ?_;refine Zo hm (fun hb hm=>go ?_) fun hb hm=>go ?_
         ·cases hm;exact ⟨rfl,rfl,aa.below⟩
         exact ⟨bh,by omega,rfl,⟨_,_,_,rfl,hm,aa,ad,ae,rfl⟩⟩
        refine Wd (col:=ag) (by kernel_rfl) (by kernel_rfl)<|qv rfl (fun _ hC=>Z7 isAgg47 sizeOf47 (bx.gr (hC.bl ag))) ?_;refine qF ⟨_,_,rfl⟩ ?_;refine qW (fun _ hC=>((ae.atN).nth (q:=4) rfl).gr (hC.bl ag)) ?_;refine go ?_;obtain ⟨h7,dj,hm⟩:=bZ hm;refine qI dj ((bj.ks aa).addr dj) ?_;obtain ⟨_,fl,fm⟩:=(bj.ks aa).atN dj;obtain ⟨⟨h8,h9,rfl,ec⟩,_⟩:=fl;refine qW (fun _ hC=>fm.one.gr (hC.bl ag)) ?_;refine go ?_;obtain ⟨dk,dl,hm⟩:=bZ hm;refine qI dl (ec.addr dl) ?_;obtain ⟨_,fn,fp⟩:=ec.atN dl;obtain ⟨_,_,rfl,fq,fr⟩:=Yi fn;obtain ⟨_,_,rfl,ft,fu⟩:=Yi fq;obtain ⟨rfl,_⟩:=ft;obtain ⟨⟨fv,fw,rfl,fx⟩,_⟩:=fu;obtain ⟨⟨fy,fz,rfl,f0⟩,_⟩:=fr;refine qv (v:=(.agg #[.bool dk.1.1,.slice fv dk.1.2.length fw,.slice fy dk.2.length fz])) rfl (fun _ hC=>Yj isAgg47 sizeOf47 rfl rfl (fp.gr (hC.bl ag))) ?_;obtain ⟨f1,f2,hm⟩:=bZ hm;refine qc (v:=(.bool f1)) rfl (fun _ hC=>⟨_,_,Zbx call25 rfl rfl,(Z1x f2 ((a5.take af.1.2.1).gr (hC.bl ag)) ((a6.take af.2.1).gr (hC.bl ag)) (fx.gr (hC.bl ag)) (f0.gr (hC.bl ag)):).mono fun _ _ h=>⟨h.1,hC.trans (.of_below h.2)⟩⟩) ?_;refine go ?_;refine Xt hm (fun dm hm=>go ?_) fun dm hm=>go ?_
        ·refine qv (v:=(.bool true)) rfl (fun _ hC=>Xb (congrArg Value.bool dm) rfl) ?_;refine go ?_;refine qP 210 rfl rfl<|qP 210 rfl rfl<|qP 210 rfl rfl<|qP 210 rfl rfl<|qP 210 rfl rfl<|qP 210 rfl rfl<|qP 210 rfl rfl<|qv (v:=(.bool true)) rfl (fun _ hC=>Xb rfl rfl) ?_;refine go ?_;refine qP 219 rfl rfl<|qP 219 rfl rfl<|qP 219 rfl rfl<|qP 219 rfl rfl<|qP 219 rfl rfl<|qP 219 rfl rfl<|qP 219 rfl rfl<|qv (v:=(.bool true)) rfl (fun _ hC=>Xb rfl rfl) ?_;refine go ?_;refine qP 228 rfl rfl<|qP 228 rfl rfl<|qP 228 rfl rfl<|qP 228 rfl rfl<|qP 228 rfl rfl<|qP 228 rfl rfl<|qP 228 rfl rfl<|qv (v:=(.bool true)) rfl (fun _ hC=>Xb rfl rfl) ?_;refine X7 ?_;intro ia hC;replace hC:=hC.bl ag;replace ad:=ad.gr hC;replace ae:=ae.gr hC;replace aa:=aa.grow hC;exact ⟨rfl,_,_,hm,aa,ad,ae,rfl⟩
        obtain ⟨f3,dn,hm⟩:=bZ hm;refine qI dn ((a5.take (Int.toNat (i64.wrap (((af.1.2.2.take af.1.2.1).length:Int)+2)))).addr dn) ?_;refine go ?_;refine qW (fun _ hC=>((a5.take (Int.toNat (i64.wrap (((af.1.2.2.take af.1.2.1).length:Int)+2)))).gr (hC.bl ag)).atInt dn) ?_;refine go ?_;refine qv (v:=(.bool (!decide (f3=902)))) rfl (fun _ hC=>Xm (congrArg Value.bool dm) rfl) ?_;refine go ?_;refine Xt hm (fun dp hm=>go ?_) fun dp hm=>go ?_
        ·refine qv (v:=(.bool true)) rfl (fun _ hC=>Xb (congrArg Value.bool dp) rfl) ?_;refine go ?_;refine qP 219 rfl rfl<|qP 219 rfl rfl<|qP 219 rfl rfl<|qP 219 rfl rfl<|qP 219 rfl rfl<|qP 219 rfl rfl<|qP 219 rfl rfl<|qv (v:=(.bool true)) rfl (fun _ hC=>Xb rfl rfl) ?_;refine go ?_;refine qP 228 rfl rfl<|qP 228 rfl rfl<|qP 228 rfl rfl<|qP 228 rfl rfl<|qP 228 rfl rfl<|qP 228 rfl rfl<|qP 228 rfl rfl<|qv (v:=(.bool true)) rfl (fun _ hC=>Xb rfl rfl) ?_;refine X7 ?_;intro ib hC;replace hC:=hC.bl ag;replace ad:=ad.gr hC;replace ae:=ae.gr hC;replace aa:=aa.grow hC;exact ⟨rfl,_,_,hm,aa,ad,ae,rfl⟩
        obtain ⟨f4,dq,hm⟩:=bZ hm;refine qI dq ((a5.take (Int.toNat (i64.wrap (((af.1.2.2.take af.1.2.1).length:Int)+2)))).addr dq) ?_;refine go ?_;refine qW (fun _ hC=>((a5.take (Int.toNat (i64.wrap (((af.1.2.2.take af.1.2.1).length:Int)+2)))).gr (hC.bl ag)).atInt dq) ?_;refine go ?_;refine qv (v:=(.bool (!decide (f4=901)))) rfl (fun _ hC=>Xm (congrArg Value.bool dp) rfl) ?_;refine go ?_;refine Xt hm (fun dr hm=>go ?_) fun dr hm=>go ?_
        ·refine qv (v:=(.bool true)) rfl (fun _ hC=>Xb (congrArg Value.bool dr) rfl) ?_;refine go ?_;refine qP 228 rfl rfl<|qP 228 rfl rfl<|qP 228 rfl rfl<|qP 228 rfl rfl<|qP 228 rfl rfl<|qP 228 rfl rfl<|qP 228 rfl rfl<|qv (v:=(.bool true)) rfl (fun _ hC=>Xb rfl rfl) ?_;refine X7 ?_;intro ic hC;replace hC:=hC.bl ag;replace ad:=ad.gr hC;replace ae:=ae.gr hC;replace aa:=aa.grow hC;exact ⟨rfl,_,_,hm,aa,ad,ae,rfl⟩
        obtain ⟨f5,ds,hm⟩:=bZ hm;refine qI ds ((a6.take (Int.toNat (i64.wrap (((af.2.2.take af.2.1).length:Int)+2)))).addr ds) ?_;refine go ?_;refine qW (fun _ hC=>((a6.take (Int.toNat (i64.wrap (((af.2.2.take af.2.1).length:Int)+2)))).gr (hC.bl ag)).atInt ds) ?_;refine go ?_;refine qv (v:=(.bool (!decide (f5=904)))) rfl (fun _ hC=>Xm (congrArg Value.bool dr) rfl) ?_;refine go ?_;refine Xt hm (fun dt hm=>go ?_) fun dt hm=>go ?_
        ·refine qv (v:=(.bool true)) rfl (fun _ hC=>Xb (congrArg Value.bool dt) rfl) ?_;refine X7 ?_;intro id hC;replace hC:=hC.bl ag;replace ad:=ad.gr hC;replace ae:=ae.gr hC;replace aa:=aa.grow hC;exact ⟨rfl,_,_,hm,aa,ad,ae,rfl⟩
        obtain ⟨f6,du,hm⟩:=bZ hm;refine qI du ((a6.take (Int.toNat (i64.wrap (((af.2.2.take af.2.1).length:Int)+2)))).addr du) ?_;refine go ?_;refine qW (fun _ hC=>((a6.take (Int.toNat (i64.wrap (((af.2.2.take af.2.1).length:Int)+2)))).gr (hC.bl ag)).atInt du) ?_;refine go ?_;refine qv (v:=(.bool (!decide (f6=903)))) rfl (fun _ hC=>Xm (congrArg Value.bool dt) rfl) ?_;refine X7 ?_;intro ie hC;replace hC:=hC.bl ag;replace ad:=ad.gr hC;replace ae:=ae.gr hC;replace aa:=aa.grow hC;exact ⟨rfl,_,_,hm,aa,ad,ae,rfl⟩
       refine Xa ad<|Xo rfl ?_;obtain ⟨dv,dw,hm⟩:=bZ hm;refine lI dw ((bb.ks aa).addr dw) ?_;obtain ⟨_,f7,f8⟩:=(bb.ks aa).atN dw;obtain ⟨⟨ci,cj,rfl,ai⟩,_⟩:=f7;replace ai:Sl (Za.pair (Za.pair Za.bool (Za.view (Za.int .u32))) (Za.view (Za.int .u32))) a3 a4 ci cj dv.2:=ai;refine lW f8.one<|go ?_;obtain ⟨dx,hm⟩:=Zx hm;refine lv (v:=.slice ci (Int.toNat (i64.wrap ((ah.length:Int)+2))) cj) rfl rfl (V5 underlying56 sizeOf47 rfl rfl dx.1 (by have:=ai.1.2;have:=dx.2;omega))<|.ld (d:=244) (v:=(.slice ci ((dv.2.take (Int.toNat (i64.wrap ((ah.length:Int)+2)))).length) cj)) (congrArg (fun n=>Value.slice ci n cj) (List.length_take_of_le (show (Int.toNat (i64.wrap ((ah.length:Int)+2)))≤dv.2.length by have:=dx.2;omega)).symm) ?_;refine Za0 rfl<|Zk<|Z0 ?_;refine Wp.cutK [10,2,3,1000000] (fun f ck=>∃ cl dy,Zfk bo (Qt N ab ac a9) dy=some r∧St w0 (Zh col) cl ck∧Zm 27 1 cl ck a7 #[.string ab.1,.slice av ((ab.2.1.2.take ab.2.1.1).length) al,.slice aw ab.2.2.1.length am,.slice ax ab.2.2.2.1.length an,.slice ay ab.2.2.2.2.length ao]∧Zm 27 2 cl ck a8 #[.string ac.1,.slice az ac.2.1.length ap,.slice a0 ac.2.2.1.length aq,.slice a1 ac.2.2.2.1.length ar,.slice a2 ac.2.2.2.2.length au]∧[282].map f=[.bool dy]) ?_ ?_
       ·intro f ck hJ;obtain ⟨cl,dy,hm,aa,ad,ae,hs⟩:=hJ;rw [Zfk.eq_1] at hm;refine .lL [282] hs ?_;refine Zo hm (fun hb hm=>go ?_) fun hb hm=>go ?_
        ·cases hm;exact ⟨rfl,rfl,aa.below⟩
        exact ⟨a9,by omega,rfl,⟨_,_,_,rfl,hm,aa,ad,ae,rfl⟩⟩
       refine go ?_;obtain ⟨dz,be,hm⟩:=bZ hm;refine lI be ((ai.take (Int.toNat (i64.wrap ((ah.length:Int)+2)))).addr be)<|Xd (X2 ((ai.take (Int.toNat (i64.wrap ((ah.length:Int)+2)))).addr be)) ?_;obtain ⟨_,f9,ga⟩:=(ai.take (Int.toNat (i64.wrap ((ah.length:Int)+2)))).atN be;obtain ⟨_,_,rfl,gb,gc⟩:=Yi f9;obtain ⟨_,_,rfl,gd,ge⟩:=Yi gb;obtain ⟨rfl,_⟩:=gd;obtain ⟨⟨ig,ih,rfl,ii⟩,_⟩:=ge;obtain ⟨⟨ij,ik,rfl,il⟩,_⟩:=gc;refine lW ((ga).nth (q:=2) rfl)<|go ?_;refine Xt hm (fun d0 hm=>go ?_) fun d0 hm=>go ?_
       ·refine lV (.bool true) (Xb (congrArg Value.bool d0) rfl)<|Y2 rfl<|lP 262 rfl rfl<|lP 262 rfl rfl<|lP 262 rfl rfl<|lP 262 rfl rfl<|lP 262 rfl rfl<|lP 262 rfl rfl<|lP 262 rfl rfl<|lP 262 rfl rfl<|lV (.bool true) (Xb rfl rfl)<|Y2 rfl<|lP 272 rfl rfl<|lP 272 rfl rfl<|lP 272 rfl rfl<|lP 272 rfl rfl<|lP 272 rfl rfl<|lP 272 rfl rfl<|lP 272 rfl rfl<|lP 272 rfl rfl<|lP 272 rfl rfl<|lV (.bool true) (Xb rfl rfl)<|Zk ?_;exact ⟨rfl,_,_,hm,aa,ad,ae,rfl⟩
       refine lI be ((ai.take (Int.toNat (i64.wrap ((ah.length:Int)+2)))).addr be) ?_;refine go ?_;refine Xd (X2 ((ai.take (Int.toNat (i64.wrap ((ah.length:Int)+2)))).addr be)) ?_;refine go ?_;obtain ⟨_,gf,gg⟩:=(ai.take (Int.toNat (i64.wrap ((ah.length:Int)+2)))).atN be;obtain ⟨_,_,rfl,gh,gi⟩:=Yi gf;obtain ⟨_,_,rfl,gj,gk⟩:=Yi gh;obtain ⟨rfl,_⟩:=gj;obtain ⟨⟨im,io,rfl,ip⟩,_⟩:=gk;obtain ⟨⟨gl,gm,rfl,cn⟩,_⟩:=gi;replace cn:Sl (Za.int .u32) a3 a4 gl gm dz.2.2:=cn;refine lW ((gg).nth (q:=2) rfl)<|go ?_;obtain ⟨gp,d1,hm⟩:=bZ hm;refine lI d1 ((cn.take dz.2.1).addr d1) ?_;refine go ?_;refine lW ((cn.take dz.2.1).atInt d1)<|go ?_;refine lV (.bool (!decide (gp=97))) (Xm (congrArg Value.bool d0) rfl)<|Y2 rfl ?_;refine Xt hm (fun d2 hm=>go ?_) fun d2 hm=>go ?_
       ·refine lV (.bool true) (Xb (congrArg Value.bool d2) rfl)<|Y2 rfl<|lP 272 rfl rfl<|lP 272 rfl rfl<|lP 272 rfl rfl<|lP 272 rfl rfl<|lP 272 rfl rfl<|lP 272 rfl rfl<|lP 272 rfl rfl<|lP 272 rfl rfl<|lP 272 rfl rfl<|lV (.bool true) (Xb rfl rfl)<|Zk ?_;exact ⟨rfl,_,_,hm,aa,ad,ae,rfl⟩
       obtain ⟨bz,bf,hm⟩:=bZ hm;refine lI bf ((ai.take (Int.toNat (i64.wrap ((ah.length:Int)+2)))).addr bf) ?_;refine go ?_;refine Xd (X2 ((ai.take (Int.toNat (i64.wrap ((ah.length:Int)+2)))).addr bf)) ?_;refine go ?_;obtain ⟨_,gs,gt⟩:=(ai.take (Int.toNat (i64.wrap ((ah.length:Int)+2)))).atN bf;obtain ⟨_,_,rfl,gu,gv⟩:=Yi gs;obtain ⟨_,_,rfl,gw,gx⟩:=Yi gu;obtain ⟨rfl,_⟩:=gw;obtain ⟨⟨iq,ir,rfl,it⟩,_⟩:=gx;obtain ⟨⟨iu,iv,rfl,iw⟩,_⟩:=gv;refine lW ((gt).nth (q:=2) rfl)<|go ?_;refine lV (.bool (!decide (((bz.2.2.take bz.2.1).length:Int)=1))) (Xm (congrArg Value.bool d2) rfl)<|Y2 rfl ?_;refine Xt hm (fun d3 hm=>go ?_) fun d3 hm=>go ?_
       ·refine lV (.bool true) (Xb (congrArg Value.bool d3) rfl)<|Zk ?_;exact ⟨rfl,_,_,hm,aa,ad,ae,rfl⟩
       refine lI bf ((ai.take (Int.toNat (i64.wrap ((ah.length:Int)+2)))).addr bf) ?_;refine go ?_;refine Xd (X2 ((ai.take (Int.toNat (i64.wrap ((ah.length:Int)+2)))).addr bf)) ?_;refine go ?_;obtain ⟨_,gy,gz⟩:=(ai.take (Int.toNat (i64.wrap ((ah.length:Int)+2)))).atN bf;obtain ⟨_,_,rfl,g0,g1⟩:=Yi gy;obtain ⟨_,_,rfl,g2,g3⟩:=Yi g0;obtain ⟨rfl,_⟩:=g2;obtain ⟨⟨ix,iy,rfl,iz⟩,_⟩:=g3;obtain ⟨⟨g4,g5,rfl,co⟩,_⟩:=g1;replace co:Sl (Za.int .u32) a3 a4 g4 g5 bz.2.2:=co;refine lW ((gz).nth (q:=2) rfl)<|go ?_;obtain ⟨g6,d4,hm⟩:=bZ hm;refine lI d4 ((co.take bz.2.1).addr d4) ?_;refine go ?_;refine lW ((co.take bz.2.1).atInt d4)<|go ?_;refine lV (.bool (!decide (g6=98))) (Xm (congrArg Value.bool d3) rfl)<|Zk ?_;exact ⟨rfl,_,_,hm,aa,ad,ae,rfl⟩
     cases hm;exact ⟨rfl,rfl,aa.below⟩
 refine Wk<|Xa ad<|Xa ae ?_;refine go ?_;refine Xt hm (fun d5 hm=>go ?_) fun d5 hm=>go ?_
 ·refine lV (.bool true) (Xb (congrArg Value.bool d5) rfl)<|Y2 rfl<|lP 31 rfl rfl<|lP 31 rfl rfl<|lP 31 rfl rfl<|lP 31 rfl rfl<|lP 31 rfl rfl<|lP 31 rfl rfl<|lP 31 rfl rfl<|lV (.bool true) (Xb rfl rfl)<|Y2 rfl<|lP 40 rfl rfl<|lP 40 rfl rfl<|lP 40 rfl rfl<|lP 40 rfl rfl<|lP 40 rfl rfl<|lP 40 rfl rfl<|lP 40 rfl rfl<|lV (.bool true) (Xb rfl rfl)<|Y2 rfl<|lP 49 rfl rfl<|lP 49 rfl rfl<|lP 49 rfl rfl<|lP 49 rfl rfl<|lP 49 rfl rfl<|lP 49 rfl rfl<|lV (.bool true) (Xb rfl rfl)<|Zk ?_;exact ⟨rfl,_,_,hm,aa,ad,ae,rfl⟩
 refine Xd ⟨_,_,rfl⟩ ?_;refine go ?_;refine lW ((ad.atN).nth (q:=2) rfl)<|go ?_;refine Xd ⟨_,_,rfl⟩ ?_;refine go ?_;refine lW ((ae.atN).nth (q:=2) rfl)<|go ?_;refine lV (.bool (!decide ((ab.2.2.1.length:Int)=(ac.2.2.1.length:Int)))) (Xm (congrArg Value.bool d5) rfl)<|Y2 rfl ?_;refine Xt hm (fun d6 hm=>go ?_) fun d6 hm=>go ?_
 ·refine lV (.bool true) (Xb (congrArg Value.bool d6) rfl)<|Y2 rfl<|lP 40 rfl rfl<|lP 40 rfl rfl<|lP 40 rfl rfl<|lP 40 rfl rfl<|lP 40 rfl rfl<|lP 40 rfl rfl<|lP 40 rfl rfl<|lV (.bool true) (Xb rfl rfl)<|Y2 rfl<|lP 49 rfl rfl<|lP 49 rfl rfl<|lP 49 rfl rfl<|lP 49 rfl rfl<|lP 49 rfl rfl<|lP 49 rfl rfl<|lV (.bool true) (Xb rfl rfl)<|Zk ?_;exact ⟨rfl,_,_,hm,aa,ad,ae,rfl⟩
 refine Xd ⟨_,_,rfl⟩ ?_;refine go ?_;refine lW ((ad.atN).nth (q:=3) rfl)<|go ?_;refine Xd ⟨_,_,rfl⟩ ?_;refine go ?_;refine lW ((ae.atN).nth (q:=3) rfl)<|go ?_;refine lV (.bool (!decide ((ab.2.2.2.1.length:Int)=(ac.2.2.2.1.length:Int)))) (Xm (congrArg Value.bool d6) rfl)<|Y2 rfl ?_;refine Xt hm (fun d7 hm=>go ?_) fun d7 hm=>go ?_
 ·refine lV (.bool true) (Xb (congrArg Value.bool d7) rfl)<|Y2 rfl<|lP 49 rfl rfl<|lP 49 rfl rfl<|lP 49 rfl rfl<|lP 49 rfl rfl<|lP 49 rfl rfl<|lP 49 rfl rfl<|lV (.bool true) (Xb rfl rfl)<|Zk ?_;exact ⟨rfl,_,_,hm,aa,ad,ae,rfl⟩
 refine Xd ⟨_,_,rfl⟩ ?_;refine go ?_;refine lW ((ad.atN).nth (q:=4) rfl)<|go ?_;refine Xd ⟨_,_,rfl⟩ ?_;refine go ?_;refine lW ((ae.atN).nth (q:=4) rfl)<|go ?_;refine lV (.bool (!decide ((ab.2.2.2.2.length:Int)=(ac.2.2.2.2.length:Int)))) (Xm (congrArg Value.bool d7) rfl)<|Y2 rfl ?_;refine Xt hm (fun d8 hm=>go ?_) fun d8 hm=>go ?_
 ·refine lV (.bool true) (Xb (congrArg Value.bool d8) rfl)<|Zk ?_;exact ⟨rfl,_,_,hm,aa,ad,ae,rfl⟩
 refine Xd ⟨_,_,rfl⟩ ?_;refine go ?_;refine lW ((ad.atN).nth (q:=1) rfl)<|go ?_;refine Xd ⟨_,_,rfl⟩ ?_;refine go ?_;refine lW ((ae.atN).nth (q:=1) rfl)<|go ?_;obtain ⟨g7,g8,hm⟩:=bZ hm;refine Zi (Zrw g8 (cp.ks aa) (cq.ks aa)) ?_;rintro _ g9 ⟨rfl,b0⟩;refine ⟨_,rfl,?_⟩;replace b0:Zg d9 ef d9 g9:=.of_below b0;refine go ?_;refine lV (.bool (!g7)) (Xm (congrArg Value.bool d8) rfl)<|Zk ?_;replace ad:=ad.gr b0;replace ae:=ae.gr b0;replace aa:=aa.grow b0;exact ⟨rfl,_,_,hm,aa,ad,ae,rfl⟩
abbrev Zi6:=ByteArray×List ByteArray×List R7×List R2×List (List QV)
abbrev VQ:=(Bool×R6)×R6
def Yx {α:Type} (ms l:List α):Nat×List α:=(l.length,l++ms)
def Vl (x:QV):VQ:=((x.1.1,Yx [901,902] x.1.2),Yx [903,904] x.2)
def Zar (k:Int):VQ:=((false,(0,[])),([k].length,[k]))
def W9 (t:List QV):Nat×List VQ:=(t.length,t.map Vl++[Zar 97,Zar 98])
def Wc (n:Zi6):ByteArray×R9×List R9×List R6×List (Nat×List VQ):=
 (n.1,Yx [⟨#[35,49]⟩,⟨#[35,50]⟩] n.2.1,n.2.2.1.map (Yx [⟨#[35,51]⟩,⟨#[35,52]⟩]),n.2.2.2.1.map (Yx [-95,-96]),n.2.2.2.2.map W9)
structure Zle (n:Zi6):Prop where
 nm:n.2.1.length≤1048576
 vn:n.2.2.1.length≤1048576
 vl:∀ l ∈ n.2.2.1,l.length≤1048576
 pn:n.2.2.2.1.length≤1048576
 pl:∀ l ∈ n.2.2.2.1,l.length≤1048576
 tn:n.2.2.2.2.length≤1048576
 tl:∀ t ∈ n.2.2.2.2,t.length≤1048576
 tm:∀ t ∈ n.2.2.2.2,∀ x ∈ t,x.1.2.length≤1048576∧x.2.length≤1048576
theorem Ziy {α:Type} (ms l:List α):X3 (Yx ms l)=l:=by rw [X3,Yx];exact List.take_left
theorem Z4p {α:Type} (ms:List α) (L:List (List α)):(L.map (Yx ms)).map X3=L:=by
 rw [List.map_map]
 conv=>rhs;rw [← List.map_id L]
 exact List.map_congr_left fun l _=>Ziy ms l
theorem Z60 (x:QV):Prod.map (Prod.map id X3) X3 (Vl x)=x:=by
 rw [Vl];simp only [Prod.map,id,Ziy]
theorem Z61 (t:List QV):U2 (Prod.map (Prod.map id X3) X3) (W9 t)=t:=by
 rw [U2,W9]
 show List.map _ (List.take t.length (t.map Vl++_))=t
 rw [show t.length=(t.map Vl).length by rw [List.length_map],List.take_left,List.map_map]
 conv=>rhs;rw [← List.map_id t]
 exact List.map_congr_left fun x _=>Z60 x
theorem Z4q (T:List (List QV)):(T.map W9).map (U2 (Prod.map (Prod.map id X3) X3))=T:=by
 rw [List.map_map]
 conv=>rhs;rw [← List.map_id T]
 exact List.map_congr_left fun t _=>Z61 t
theorem Z6z (n:Zi6):((Wc n).1,(Wc n).2.1.2.take (Wc n).2.1.1,(Wc n).2.2.1.map X3,(Wc n).2.2.2.1.map X3,(Wc n).2.2.2.2.map (U2 (Prod.map (Prod.map id X3) X3)))=n:=by
 rw [Wc]
 simp only [Z4p,Z4q]
 have:=Ziy [⟨#[35,49]⟩,⟨#[35,50]⟩] n.2.1
 rw [X3] at this
 rw [this]
theorem Z2s {x:QV} (h1:x.1.2.length≤1048576) (h2:x.2.length≤1048576):Zih x=some (Vl x):=by
 rw [Zih,Zz (by simp only [nN,maxLen];omega),Zz (by simp only [nA,nN,nC,maxLen];omega),Zz (by simp only [nN,maxLen];omega),Zz (by simp only [nA,nN,nC,maxLen];omega),Zz (by simp only [nA,nN,nC];omega),Zz (by simp only [nA,nN,nC];omega),Vl,Yx,Yx,List.nil_append,List.nil_append,Int.toNat_natCast,Int.toNat_natCast]
section
variable {N:Nat} {n:Zi6} (hs:Zle n) (hN:1048577<N)
include hs hN
omit hN in
theorem Zul {m4:ByteArray} {m5:List ByteArray} {m9:List R9} {m13:List R6} {m17:List (Nat×List VQ)} {i:Nat} (hi:i<n.2.2.2.2.length) (hm:m17.length≤1048576) (hib:i≤1048576) (kk:ByteArray→List ByteArray→List R9→List R6→List (Nat×List VQ)→Int→Option (ByteArray×R9×List R9×List R6×List (Nat×List VQ))):∀ (f k:Nat) (l:List VQ),k≤n.2.2.2.2[i].length→n.2.2.2.2[i].length<f+k→l=(n.2.2.2.2[i].take k).map Vl→
  Zfp N n m4 m5 m9 m13 m17 (i:Int) kk f (k:Int) l=kk m4 m5 m9 m13 (m17++[W9 n.2.2.2.2[i]]) ((i:Int)+1)
 | 0,k,l,h1,h2,_=>by omega
 | f+1,k,l,h1,h2,h3=>by
  have ht:=hs.tl _ (List.getElem_mem hi)
  have hl:l.length=k:=by rw [h3,List.length_map,nK];omega
  rw [Zfp.eq_2,Zy hi,oB]
  by_cases hk:k<n.2.2.2.2[i].length
  ·obtain ⟨x1,x2⟩:=hs.tm _ (List.getElem_mem hi) _ (List.getElem_mem hk)
   have hc:Zih (((n.2.2.2.2[i][k]).1.1,(n.2.2.2.2[i][k]).1.2),(n.2.2.2.2[i][k]).2)=some (Vl n.2.2.2.2[i][k]):=Z2s (x:=n.2.2.2.2[i][k]) x1 x2
   rw [if_pos (dT (by omega)),Zy hk,oB,hc,oB,Zz (by simp only [List.length_singleton,maxLen];omega),Zr (by omega)]
   exact Zul hi hm hib kk f (k+1) _ (by omega) (by omega) (by rw [h3,List.take_add_one,List.getElem?_eq_getElem hk,Option.toList_some,List.map_append];rfl)
  ·have hk2:k=n.2.2.2.2[i].length:=by omega
   rw [if_neg (dF (by omega)),Zz (by simp only [nC,nN,maxLen];omega),Zz (by simp only [nA,nC,nN];omega),Zz (by simp only [List.length_singleton,maxLen];omega),Zr (by omega),Int.toNat_natCast,h3,hk2,List.take_length]
   rfl
theorem Zuk {m4:ByteArray} {m5:List ByteArray} {m9:List R9} {m13:List R6}:∀ (f i:Nat) (m17:List (Nat×List VQ)),i≤n.2.2.2.2.length→n.2.2.2.2.length<f+i→m17=(n.2.2.2.2.take i).map W9→
  Zc5 N n f m4 m5 m9 m13 m17 (i:Int)=some (m4,(n.2.1.length,m5),m9,m13,n.2.2.2.2.map W9)
 | 0,i,m17,h1,h2,_=>by omega
 | f+1,i,m17,h1,h2,h3=>by
  have htn:=hs.tn
  have hl:m17.length=i:=by rw [h3,List.length_map,nK];omega
  rw [Zc5.eq_2]
  by_cases hi:i<n.2.2.2.2.length
  ·have ht:=hs.tl _ (List.getElem_mem hi)
   rw [if_pos (dT (by omega)),show (0:Int)=((0:Nat):Int) from rfl,Zul hs hi (by omega) (by omega) _ N 0 [] (by omega) (by omega) (by simp)]
   exact Zuk f (i+1) _ (by omega) (by omega) (by rw [h3,List.take_add_one,List.getElem?_eq_getElem hi,Option.toList_some,List.map_append];rfl)
  ·rw [if_neg (dF (by omega)),h3,List.take_of_length_le (by omega),Int.toNat_natCast]
theorem Zuj {m4:ByteArray} {m5:List ByteArray} {m9:List R9}:∀ (f i:Nat) (m13:List R6),i≤n.2.2.2.1.length→n.2.2.2.1.length<f+i→m13=(n.2.2.2.1.take i).map (Yx [-95,-96])→
  Zfo N n f m4 m5 m9 m13 [] (i:Int)=some (m4,(n.2.1.length,m5),m9,n.2.2.2.1.map (Yx [-95,-96]),n.2.2.2.2.map W9)
 | 0,i,m13,h1,h2,_=>by omega
 | f+1,i,m13,h1,h2,h3=>by
  have hpn:=hs.pn;have htn:=hs.tn
  have hl:m13.length=i:=by rw [h3,List.length_map,nK];omega
  rw [Zfo.eq_2]
  by_cases hi:i<n.2.2.2.1.length
  ·have ht:=hs.pl _ (List.getElem_mem hi)
   rw [if_pos (dT (by omega)),Zy hi,oB,Zz (by simp only [nN,maxLen];omega),Zz (by simp only [nA,nN,nC,maxLen];omega),Zz (by simp only [nA,nN,nC];omega),Zz (by simp only [List.length_singleton,maxLen];omega),Zr (by omega)]
   exact Zuj f (i+1) _ (by omega) (by omega) (by rw [h3,List.take_add_one,List.getElem?_eq_getElem hi,Option.toList_some,List.map_append];rfl)
  ·rw [if_neg (dF (by omega)),show (0:Int)=((0:Nat):Int) from rfl,Zuk hs hN N 0 [] (by omega) (by omega) (by simp),h3,List.take_of_length_le (by omega)]
theorem Zui {m4:ByteArray} {m5:List ByteArray}:∀ (f i:Nat) (m9:List R9),i≤n.2.2.1.length→n.2.2.1.length<f+i→m9=(n.2.2.1.take i).map (Yx [⟨#[35,51]⟩,⟨#[35,52]⟩])→
  Zfn N n f m4 m5 m9 [] [] (i:Int)=some (m4,(n.2.1.length,m5),n.2.2.1.map (Yx [⟨#[35,51]⟩,⟨#[35,52]⟩]),n.2.2.2.1.map (Yx [-95,-96]),n.2.2.2.2.map W9)
 | 0,i,m9,h1,h2,_=>by omega
 | f+1,i,m9,h1,h2,h3=>by
  have hpn:=hs.vn;have htn:=hs.pn
  have hl:m9.length=i:=by rw [h3,List.length_map,nK];omega
  rw [Zfn.eq_2]
  by_cases hi:i<n.2.2.1.length
  ·have ht:=hs.vl _ (List.getElem_mem hi)
   rw [if_pos (dT (by omega)),Zy hi,oB,Zz (by simp only [nN,maxLen];omega),Zz (by simp only [nA,nN,nC,maxLen];omega),Zz (by simp only [nA,nN,nC];omega),Zz (by simp only [List.length_singleton,maxLen];omega),Zr (by omega)]
   exact Zui f (i+1) _ (by omega) (by omega) (by rw [h3,List.take_add_one,List.getElem?_eq_getElem hi,Option.toList_some,List.map_append];rfl)
  ·rw [if_neg (dF (by omega)),show (0:Int)=((0:Nat):Int) from rfl,Zuj hs hN N 0 [] (by omega) (by omega) (by simp),h3,List.take_of_length_le (by omega)]
theorem Z4i:Zik N n=some (Wc n):=by
 have hnm:=hs.nm;have hvn:=hs.vn
 rw [Zik,Zz (by simp only [nN,maxLen];omega),Zz (by simp only [nA,nN,nC,maxLen];omega),Zz (by simp only [nA,nN,nC];omega),show (0:Int)=((0:Nat):Int) from rfl,Zui hs hN N 0 [] (by omega) (by omega) (by simp)]
 rfl
end
theorem Zk5 {α:Type} (ms l:List α):(Yx ms l).2.take (Yx ms l).1=l:=Ziy ms l
theorem Zpe {α:Type} (ms l:List α):(Yx ms l).2.length=l.length+ms.length:=by rw [Yx];exact List.length_append
theorem Zb2 {α:Type} {ms l:List α} {j k:Nat} (hj:j<ms.length) (hk:l.length+j<k):Zj ((l++ms).take k) ((l.length+j:Nat):Int)=some ms[j]:=by
 rw [V1,List.getElem?_take,if_pos hk,List.getElem?_append_right (by omega),show l.length+j - l.length=j by omega,List.getElem?_eq_getElem hj]
theorem Zzc {N:Nat} {l:List ByteArray} {one two:ByteArray} (hl:l.length≤1048576):∀ (f i:Nat),i≤l.length→l.length<f+i→Zfv N l.length (l++[one,two]) l one two f (i:Int)=some true
 | 0,i,h1,h2=>by omega
 | f+1,i,h1,h2=>by
  have e:(l++[one,two]).take l.length=l:=List.take_left
  rw [Zfv.eq_2,e]
  by_cases hi:i<l.length
  ·rw [if_pos (dT (by omega)),Zy hi,oB,oB,if_neg (by rw [decide_eq_true rfl];decide),Zr (by omega)]
   exact Zzc hl f (i+1) (by omega) (by omega)
  ·have a0:=Zb2 (ms:=[one,two]) (l:=l) (j:=0) (k:=l.length+2) (by simp) (by omega)
   have a1:=Zb2 (ms:=[one,two]) (l:=l) (j:=1) (k:=l.length+2) (by simp) (by omega)
   rw [if_neg (dF (by omega)),Zr (x:=(l.length:Int)+2) (by omega),Zz (by simp only [nA,nC,nN];omega),show Int.toNat ((l.length:Int)+2)=l.length+2 by omega]
   simp only [Nat.add_zero] at a0
   rw [a0,oB,show [one,two][0]=one from rfl,if_pos (dT rfl),Zr (by omega),show (l.length:Int)+1=((l.length+1:Nat):Int) by omega,a1,oB,Zki]
   simp
theorem Zzd {N:Nat} {l:List ByteArray} {one two:ByteArray} (hl:l.length≤1048576) (hN:1048577<N):Zfu N (Yx [one,two] l).1 (Yx [one,two] l).2 l one two=some true:=by
 have e:(l++[one,two]).take l.length=l:=List.take_left
 rw [Zfu,Yx,e,if_neg (by rw [decide_eq_true rfl];decide)]
 exact Zzc hl N 0 (by omega) (by omega)
theorem Zy0 {N:Nat} {x:QV} (h1:x.1.2.length≤1048576):∀ (f i:Nat),i≤x.1.2.length→x.1.2.length<f+i→Zfr N x x f (i:Int)=some true
 | 0,i,g1,g2=>by omega
 | f+1,i,g1,g2=>by
  rw [Zfr.eq_2]
  by_cases hi:i<x.1.2.length
  ·rw [if_pos (dT (by omega)),Zy hi,oB,oB,if_neg (by rw [decide_eq_true rfl];decide),Zr (by omega)]
   exact Zy0 h1 f (i+1) (by omega) (by omega)
  ·rw [if_neg (dF (by omega))]
theorem Zyz {N:Nat} {x:QV} (h1:x.1.2.length≤1048576) (h2:x.2.length≤1048576) (hN:1048577<N):∀ (f i:Nat),i≤x.2.length→x.2.length<f+i→Zfq N x x f (i:Int)=some true
 | 0,i,g1,g2=>by omega
 | f+1,i,g1,g2=>by
  rw [Zfq.eq_2]
  by_cases hi:i<x.2.length
  ·rw [if_pos (dT (by omega)),Zy hi,oB,oB,if_neg (by rw [decide_eq_true rfl];decide),Zr (by omega)]
   exact Zyz h1 h2 hN f (i+1) (by omega) (by omega)
  ·rw [if_neg (dF (by omega))]
   exact Zy0 h1 N 0 (by omega) (by omega)
theorem Z6m {N:Nat} {x:QV} (h1:x.1.2.length≤1048576) (h2:x.2.length≤1048576) (hN:1048577<N):Zin N x x=some true:=by
 rw [Zin,if_neg (by rw [decide_eq_true rfl];decide),if_neg (by rw [decide_eq_true rfl];decide),Zio,if_neg (by rw [decide_eq_true rfl];decide)]
 exact Zyz h1 h2 hN N 0 (by omega) (by omega)
section
variable {N:Nat} {n:Zi6} (hs:Zle n) (hN:1048577<N)
include hs hN
theorem Zt4 {i:Nat} (hi:i<n.2.2.2.2.length) (kk:Int→Option Bool):∀ (f j:Nat),j≤n.2.2.2.2[i].length→n.2.2.2.2[i].length<f+j→
  Sr N (Wc n) n (i:Int) kk n.2.2.2.2[i] f (j:Int)=kk ((i:Int)+1)
 | 0,j,h1,h2=>by omega
 | f+1,j,h1,h2=>by
  have ht:=hs.tl _ (List.getElem_mem hi)
  have htn:=hs.tn
  have hm:Zj (Wc n).2.2.2.2 (i:Int)=some (W9 n.2.2.2.2[i]):=by
   rw [V1]
   show (n.2.2.2.2.map W9)[i]?=_
   rw [List.getElem?_map,List.getElem?_eq_getElem hi];rfl
  rw [Sr.eq_2,hm,oB,oB]
  generalize hT:n.2.2.2.2[i]=t at *
  by_cases hj:j<t.length
  ·have hmem:t ∈ n.2.2.2.2:=by rw [← hT];exact List.getElem_mem hi
   obtain ⟨x1,x2⟩:=hs.tm _ hmem _ (List.getElem_mem hj)
   have e1:Zj ((W9 t).2.take (W9 t).1) (j:Int)=some (Vl t[j]):=by
    rw [V1,W9,List.getElem?_take,if_pos hj,List.getElem?_append_left (by rw [List.length_map];exact hj),List.getElem?_map,List.getElem?_eq_getElem hj];rfl
   rw [if_pos (dT (by omega)),e1,oB]
   obtain ⟨x,hx⟩:∃ x,x=t[j]:=⟨_,rfl⟩
   rw [← hx] at x1 x2 ⊢
   have v1:(Vl x).1.2.2.take (Vl x).1.2.1=x.1.2:=Ziy _ _
   have v2:(Vl x).2.2.take (Vl x).2.1=x.2:=Ziy _ _
   have l1:(Vl x).1.2.2.length=x.1.2.length+2:=Zpe _ _
   have l2:(Vl x).2.2.length=x.2.length+2:=Zpe _ _
   have hat:Zj n.2.2.2.2 (i:Int)=some t:=by rw [Zy hi,hT]
   have sm:Zin N (((Vl x).1.1,x.1.2),x.2) ((x.1.1,x.1.2),x.2)=some true:=Z6m (x:=x) x1 x2 hN
   have t1:(Vl x).1.2.2.take (x.1.2.length+2)=x.1.2++[901,902]:=List.take_of_length_le (by rw [l1];omega)
   have t2:(Vl x).2.2.take (x.2.length+2)=x.2++[903,904]:=List.take_of_length_le (by rw [l2];omega)
   have q:∀ (l:List Int) (a b:Int),Zj (l++[a,b]) ((l.length:Int)+2 - 1)=some b∧Zj (l++[a,b]) ((l.length:Int)+2 - 2)=some a:=fun l a b=>by
    constructor
    ·rw [show (l.length:Int)+2 - 1=((l.length+1:Nat):Int) by omega,V1,List.getElem?_append_right (by omega),show l.length+1 - l.length=1 by omega];rfl
    ·rw [show (l.length:Int)+2 - 2=((l.length:Nat):Int) by omega,V1,List.getElem?_append_right (by omega),show l.length - l.length=0 by omega];rfl
   have ql:∀ (l:List Int) (a b:Int),((l++[a,b]).length:Int)=(l.length:Int)+2:=fun l a b=>by simp
   rw [v1,v2,l1,l2,Zr (x:=(x.1.2.length:Int)+2) (by omega),Zr (x:=(x.2.length:Int)+2) (by omega),Zz (by omega),Zz (by omega),hat,oB,Zy hj,oB,← hx,sm,oB,if_neg (by decide),
    show Int.toNat ((x.1.2.length:Int)+2)=x.1.2.length+2 by omega,show Int.toNat ((x.2.length:Int)+2)=x.2.length+2 by omega,t1,t2,ql,ql,Zr (x:=(x.1.2.length:Int)+2 - 1) (by omega),Zr (x:=(x.1.2.length:Int)+2 - 2) (by omega),Zr (x:=(x.2.length:Int)+2 - 1) (by omega),Zr (x:=(x.2.length:Int)+2 - 2) (by omega),
    (q x.1.2 901 902).1,oB,if_neg (by decide),(q x.1.2 901 902).2,oB,if_neg (by decide),(q x.2 903 904).1,oB,if_neg (by decide),(q x.2 903 904).2,oB,Zc4,if_neg (by decide),Zr (by omega)]
   have ih:=Zt4 hi kk f (j+1) (by rw [hT];omega) (by rw [hT];omega)
   rw [hT] at ih
   exact ih
  ·have b0:Zj ((W9 t).2.take (t.length+2)) (t.length:Int)=some (Zar 97):=by
    have:=Zb2 (ms:=[Zar 97,Zar 98]) (l:=t.map Vl) (j:=0) (k:=t.length+2) (by simp) (by rw [List.length_map];omega)
    rw [List.length_map,Nat.add_zero] at this
    exact this
   have b1:Zj ((W9 t).2.take (t.length+2)) ((t.length:Int)+1)=some (Zar 98):=by
    have:=Zb2 (ms:=[Zar 97,Zar 98]) (l:=t.map Vl) (j:=1) (k:=t.length+2) (by simp) (by rw [List.length_map];omega)
    rw [List.length_map] at this
    exact this
   have bl:(W9 t).2.length=t.length+2:=by rw [W9];simp
   have c0:∀ k:Int,(Zar k).2.2.take (Zar k).2.1=[k]:=fun k=>rfl
   rw [if_neg (dF (by omega)),Zr (x:=(t.length:Int)+2) (by omega),Zz (by omega),show Int.toNat ((t.length:Int)+2)=t.length+2 by omega,b0,oB,c0,if_neg (by decide),show Zj [(97:Int)] 0=some 97 from rfl,oB,if_neg (by decide),Zr (x:=(t.length:Int)+1) (by omega),b1,oB,c0,if_neg (by decide),show Zj [(98:Int)] 0=some 98 from rfl,oB,Zfk,if_neg (by decide),Zr (by omega)]
theorem Zt3:∀ (f i:Nat),i≤n.2.2.2.2.length→n.2.2.2.2.length<f+i→Qt N (Wc n) n f (i:Int)=some true
 | 0,i,h1,h2=>by omega
 | f+1,i,h1,h2=>by
  have htn:=hs.tn
  rw [Qt.eq_2]
  by_cases hi:i<n.2.2.2.2.length
  ·have ht:=hs.tl _ (List.getElem_mem hi)
   have hm:Zj (Wc n).2.2.2.2 (i:Int)=some (W9 n.2.2.2.2[i]):=by
    rw [V1]
    show (n.2.2.2.2.map W9)[i]?=_
    rw [List.getElem?_map,List.getElem?_eq_getElem hi];rfl
   have hl:((W9 n.2.2.2.2[i]).2.take (W9 n.2.2.2.2[i]).1).length=n.2.2.2.2[i].length:=by rw [W9,nK];simp
   have h5:=Zt4 hs hN hi (Qt N (Wc n) n f) N 0 (by omega) (by omega)
   rw [show ((0:Nat):Int)=0 from rfl] at h5
   rw [if_pos (dT (by omega)),Zy hi,oB,hm,oB,hl,if_neg (by rw [decide_eq_true rfl];decide),h5]
   exact Zt3 f (i+1) (by omega) (by omega)
  ·rw [if_neg (dF (by omega))]
omit hN in
theorem Zt2 {i:Nat} (hi:i<n.2.2.2.1.length) (kk:Int→Option Bool):∀ (f j:Nat),j≤n.2.2.2.1[i].length→n.2.2.2.1[i].length<f+j→Zfm N (Wc n) n (i:Int) kk n.2.2.2.1[i] f (j:Int)=kk ((i:Int)+1)
 | 0,j,h1,h2=>by omega
 | f+1,j,h1,h2=>by
  have ht:=hs.pl _ (List.getElem_mem hi)
  have hpn:=hs.pn
  have hm:Zj (Wc n).2.2.2.1 (i:Int)=some (Yx [-95,-96] n.2.2.2.1[i]):=by
   rw [V1]
   show (n.2.2.2.1.map (Yx [-95,-96]))[i]?=_
   rw [List.getElem?_map,List.getElem?_eq_getElem hi];rfl
  rw [Zfm.eq_2,hm,oB,oB,Zk5]
  by_cases hj:j<n.2.2.2.1[i].length
  ·rw [if_pos (dT (by omega)),Zy hj,oB,Zy hi,oB,Zy hj,oB,if_neg (by rw [decide_eq_true rfl];decide),Zr (by omega)]
   exact Zt2 hi kk f (j+1) (by omega) (by omega)
  ·have a0:=Zb2 (ms:=[-95,-96]) (l:=n.2.2.2.1[i]) (j:=0) (k:=n.2.2.2.1[i].length+2) (by simp) (by omega)
   have a1:=Zb2 (ms:=[-95,-96]) (l:=n.2.2.2.1[i]) (j:=1) (k:=n.2.2.2.1[i].length+2) (by simp) (by omega)
   simp only [Nat.add_zero] at a0
   have hl:(Yx [-95,-96] n.2.2.2.1[i]).2=n.2.2.2.1[i]++[-95,-96]:=rfl
   rw [if_neg (dF (by omega)),Zr (x:=(n.2.2.2.1[i].length:Int)+2) (by omega),Zz (by rw [Zpe];simp only [nC,nN];omega),show Int.toNat ((n.2.2.2.1[i].length:Int)+2)=n.2.2.2.1[i].length+2 by omega,hl,a0,oB,if_neg (by decide),Zr (by omega),show (n.2.2.2.1[i].length:Int)+1=((n.2.2.2.1[i].length+1:Nat):Int) by omega,a1,oB,Zkh,if_neg (by decide),Zr (by omega)]
theorem Zt1:∀ (f i:Nat),i≤n.2.2.2.1.length→n.2.2.2.1.length<f+i→Zam N (Wc n) n f (i:Int)=some true
 | 0,i,h1,h2=>by omega
 | f+1,i,h1,h2=>by
  have htn:=hs.pn;have htn2:=hs.tn
  rw [Zam.eq_2]
  by_cases hi:i<n.2.2.2.1.length
  ·have ht:=hs.pl _ (List.getElem_mem hi)
   have hm:Zj (Wc n).2.2.2.1 (i:Int)=some (Yx [-95,-96] n.2.2.2.1[i]):=by
    rw [V1]
    show (n.2.2.2.1.map (Yx [-95,-96]))[i]?=_
    rw [List.getElem?_map,List.getElem?_eq_getElem hi];rfl
   have h5:=Zt2 (N:=N) hs hi (Zam N (Wc n) n f) N 0 (by omega) (by omega)
   rw [show ((0:Nat):Int)=0 from rfl] at h5
   rw [if_pos (dT (by omega)),Zy hi,oB,hm,oB,Zk5,if_neg (by rw [decide_eq_true rfl];decide),h5]
   exact Zt1 f (i+1) (by omega) (by omega)
  ·rw [if_neg (dF (by omega))]
   exact Zt3 hs hN N 0 (by omega) (by omega)
theorem Zt0:∀ (f i:Nat),i≤n.2.2.1.length→n.2.2.1.length<f+i→Zfl N (Wc n) n f (i:Int)=some true
 | 0,i,h1,h2=>by omega
 | f+1,i,h1,h2=>by
  have htn:=hs.vn;have htn2:=hs.pn
  rw [Zfl.eq_2]
  by_cases hi:i<n.2.2.1.length
  ·have ht:=hs.vl _ (List.getElem_mem hi)
   have hm:Zj (Wc n).2.2.1 (i:Int)=some (Yx [⟨#[35,51]⟩,⟨#[35,52]⟩] n.2.2.1[i]):=by
    rw [V1]
    show (n.2.2.1.map (Yx [⟨#[35,51]⟩,⟨#[35,52]⟩]))[i]?=_
    rw [List.getElem?_map,List.getElem?_eq_getElem hi];rfl
   rw [if_pos (dT (by omega)),hm,oB,Zy hi,oB,Zzd ht hN,oB,if_neg (by decide),Zr (by omega)]
   exact Zt0 f (i+1) (by omega) (by omega)
  ·rw [if_neg (dF (by omega))]
   exact Zt1 hs hN N 0 (by omega) (by omega)
theorem Z38:Zij N (Wc n) n=some true:=by
 have h1:=hs.nm;have h2:=hs.vn
 have l1:(Wc n).2.2.1.length=n.2.2.1.length:=by show (n.2.2.1.map _).length=_;rw [List.length_map]
 have l2:(Wc n).2.2.2.1.length=n.2.2.2.1.length:=by show (n.2.2.2.1.map _).length=_;rw [List.length_map]
 have l3:(Wc n).2.2.2.2.length=n.2.2.2.2.length:=by show (n.2.2.2.2.map _).length=_;rw [List.length_map]
 have t1:Zfu N (Wc n).2.1.1 (Wc n).2.1.2 n.2.1 (⟨#[35,49]⟩) (⟨#[35,50]⟩)=some true:=Zzd h1 hN
 rw [Zij,l1,l2,l3,if_neg (by rw [show (Wc n).1=n.1 from rfl,decide_eq_true rfl];decide),if_neg (by rw [decide_eq_true rfl];decide),if_neg (by rw [decide_eq_true rfl];decide),if_neg (by rw [decide_eq_true rfl];decide),t1,oB,Zc3,if_neg (by decide)]
 exact Zt0 hs hN N 0 (by omega) (by omega)
end

end Go.Proofs.YtbmjpjhbankpoaaGreat
