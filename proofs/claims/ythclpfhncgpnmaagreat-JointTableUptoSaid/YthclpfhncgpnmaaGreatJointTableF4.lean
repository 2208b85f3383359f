/-
  What functions of the program compute, as plain Lean functions (m_..), and proofs that they compute it (c_..). Printed by a program of the author; no conditions.
-/
import Derived.Test.YthclpfhncgpnmaaGreatJointTableBFloat
import Derived.Test.YthclpfhncgpnmaaGreatProg
import Derived.Test.YthclpfhncgpnmaaGreatJointTableBBrief
import Derived.Test.YthclpfhncgpnmaaGreatJointTableBThree
import Derived.Test.YthclpfhncgpnmaaGreatJointTableF3
set_option linter.unusedVariables false
set_option maxRecDepth 100000
set_option maxHeartbeats 2000000
namespace Go.Proofs.YthclpfhncgpnmaaGreat
open Go Go.RowKit
open List renaming mem_cons_self→aQ,mem_cons_of_mem→aO,mem_cons→aP,take_add_one→dQ,getElem?_eq_getElem→aI,nodup_append→cI,mem_singleton→bN,mem_iff_getElem→iH,getElem_take→fC,append_nil→cL,append_assoc→bK,nil_append→bL,drop_eq_nil_of_le→aG,drop_eq_getElem_cons→aL,getElem_mem→aD,length_map→aE,length_singleton→aH,map_append→bV,take_of_length_le→bD,getElem_map→bU,length_pos_iff→cB,map_cons→cP,take_append_drop→fP,any_cons→dP,mem_map→cA,drop_zero→aR,length_drop→cG,drop_take→jP,drop_drop→eR,map_map→gB,map_congr_left→dW,map_take→gY,map_drop→gZ,mem_of_mem_take→eL,mem_of_mem_drop→eH,any_eq_false→iZ,map_nil→dO,drop_eq_nil_iff→aM,replicate→aC,length_take→cE,not_mem_nil→bA,map→eN,getD_eq_getElem?_getD→aF,getElem?_map→bT,any_map→kA,take_succ_eq_append_getElem→bF,take_zero→eO,length→gL,take_succ_cons→iK,drop_succ_cons→iL,replicate_succ→iM,length_replicate→aN,set_append_right→eJ,set_cons_zero→fX
open Option renaming toList_some→cV
open Nat renaming lt_or_ge→cO,min_eq_right→dL,min_eq_left→aS,div_le_self→cM,div_lt_iff_lt_mul→dE,add_mul→bM,one_mul→bR,le_mul_of_pos_right→dB,le_trans→aY,min_le_right→jJ,mul_le_mul_right→bH,zero_le→aT,lt_of_lt_of_le→aK,add_zero→bO,zero_add→cS,beq→aJ,add_assoc→dU,sub_self→fB,zero_mul→gQ
open Int renaming toNat_natCast→aB,natCast_mul→bQ,tdiv_eq_ediv_of_nonneg→bW,natCast_ediv→gO,natCast_nonneg→dZ,ofNat_lt→eI,natCast_add→fN,toNat→aA
open Rat renaming not_lt→gU,lt_irrefl→jZ
open Go.IntKind (i8 i16 i32 i64 u8 u16 u32 u64)
open Go.Proofs.Tryz

def Zi5 (aa:Int) (kk_L2:(Bool→Int→Option Int)) (ab:Bool):Option Int:=
  kk_L2 ab (i64.wrap (aa+1))
def Zb4 (N:Nat) (ad:R0) (ab:Int) (kk_L1:(Int→Option Int)):Nat→Bool→Int→Option Int
  | 0,_,_=>none
  | ae+1,af,aa=>(Zi ad.2.2.1 ab).bind fun ac=>if (decide (aa<(ac.length:Int)))=true then (if af=true then (Zi5 aa (Zb4 N ad ab kk_L1 ae) true) else ((Zi ac aa).bind fun ag=>(Zli N ac ag).bind fun ah=>Zi5 aa (Zb4 N ad ab kk_L1 ae) (decide (ah<aa)))) else (if af=true then (some 40) else (if (decide ((ac.length:Int)=0))=true then (some 43) else (kk_L1 (i64.wrap (ab+1)))))
def Zf0 (N:Nat) (ad:R0) (aa:Int) (kk_L4:(Int→Option Int)):Nat→Int→Option Int
  | 0,_=>none
  | af+1,ab=>(Zi ad.2.2.2.2 aa).bind fun ae=>if (decide (ab<(ae.length:Int)))=true then ((Zi ae ab).bind fun ac=>(Zi8 N ((ac.1.1,ac.1.2),ac.2)).bind fun ag=>if ag=true then (some 45) else ((Zf0 N ad aa kk_L4 af) (i64.wrap (ab+1)))) else (kk_L4 (i64.wrap (aa+1)))
def Zb6 (N:Nat) (ab:R0) (ac:List Int):Nat→Int→Option Int
  | 0,_=>none
  | ad+1,aa=>if (decide (aa<(ab.2.1.length:Int)))=true then ((Zi ab.2.2.2.2 aa).bind fun ae=>(Zi ac aa).bind fun af=>(Zn7 N ae af).bind fun ag=>if (!ag)=true then (some 46) else ((Zb6 N ab ac ad) (i64.wrap (aa+1)))) else (some 0)
def Za1 (N:Nat) (aa:R0) (ab:List Int):Nat→Int→Option Int
  | 0,_=>none
  | ad+1,ac=>if (decide (ac<(aa.2.1.length:Int)))=true then (Zf0 N aa ac (Za1 N aa ab ad) N 0) else (Zb6 N aa ab N 0)
def Zb5 (N:Nat) (aa:R0) (ac:List Int):Nat→Int→Option Int
  | 0,_=>none
  | af+1,ab=>if (decide (ab<(aa.2.1.length:Int)))=true then ((Zi aa.2.2.2.1 ab).bind fun ag=>(Zlh N ag ac).bind fun ad=>(Zi ac ab).bind fun ae=>(Zlj ad ae).bind fun ah=>if ah=true then (some 4) else ((Zi aa.2.2.2.2 ab).bind fun ai=>if (!decide ((ai.length:Int)=(i64.wrap (ad * ae))))=true then (some 60) else ((Zb5 N aa ac af) (i64.wrap (ab+1))))) else (Za1 N aa ac N 0)
def S8 (N:Nat) (aa:R0):Nat→Int→Option Int
  | 0,_=>none
  | ad+1,ab=>if (decide (ab<(aa.2.1.length:Int)))=true then ((Zi aa.2.1 ab).bind fun ae=>(Zli N aa.2.1 ae).bind fun af=>Zb4 N aa ab (S8 N aa ad) N (decide (af<ab)) 0) else ((Q6 N aa.2.2.2.1).bind fun ac=>if (!decide (ac=0))=true then (some ac) else ((Zf3 N (aa.1,aa.2.1,aa.2.2.1,aa.2.2.2.1,aa.2.2.2.2)).bind fun ag=>Zb5 N aa ag N 0))
def Zdo (N:Nat) (aa:R0) (ab:Bool):Option Int:=
  if ab=true then (some 60) else (if (decide (1024<(aa.2.1.length:Int)))=true then (some 4) else (S8 N aa N 0))
def Zdn (N:Nat) (aa:R0):Option Int:=
  if (!decide ((aa.2.2.1.length:Int)=(aa.2.1.length:Int)))=true then (Zdo N aa true) else (if (!decide ((aa.2.2.2.1.length:Int)=(aa.2.1.length:Int)))=true then (Zdo N aa true) else (Zdo N aa (!decide ((aa.2.2.2.2.length:Int)=(aa.2.1.length:Int)))))
theorem Z34 {N ak al am an:Nat} {ao ap aq ar:Option Addr} {col:Zd} {w0:World} {ab:R0} {r:Int} (hm:Zdn N ab=some r) (a0:Sl Za.str col w0 ao ak ab.2.1) (ah:Sl rV col w0 ap al ab.2.2.1) (a1:Sl rP col w0 aq am ab.2.2.2.1) (ai:Sl (Za.slice rQ) col w0 ar an ab.2.2.2.2):
    Calls prog 47 #[(.agg #[.string ab.1,.slice ao ab.2.1.length ak,.slice ap ab.2.2.1.length al,.slice aq ab.2.2.2.1.length am,.slice ar ab.2.2.2.2.length an])] w0 (W5 w0 r):=by
 refine Z6 2 (m:=175) func47 rfl rfl rfl rfl rfl ?_;rw [Zdn.eq_1] at hm;have aa:=St.start col w0;refine go ?_;refine Xl (col:=(Zf col)) 1 rfl ?_;intro av dt du cg ac;refine go ?_;refine Z1 ac<|lV _ (Uz underlying22 rfl)<|Y4 rfl<|Zl<|Z0<|Z0 ?_;replace a0:=a0.k0;replace ah:=ah.k0;replace a1:=a1.k0;replace ai:=ai.k0;replace aa:=aa.grow cg;refine Wp.cutK [1,3,1000000] (fun f bo=>∃ bp bq,Zdo N ab bq=some r∧St w0 (Zf col) bp bo∧Zj 27 1 bp bo av #[.string ab.1,.slice ao ab.2.1.length ak,.slice ap ab.2.2.1.length al,.slice aq ab.2.2.2.1.length am,.slice ar ab.2.2.2.2.length an]∧[38].map f=[.bool bq]) ?_ ?_
 ·intro f bo hJ;obtain ⟨bp,bq,hm,aa,ac,hs⟩:=hJ;rw [Zdo.eq_1] at hm;refine .lL [38] hs ?_;refine Zm hm (fun hb hm=>go ?_) fun hb hm=>go ?_
  ·cases hm;exact ⟨rfl,rfl,aa.below⟩
  refine Zm hm (fun hb hm=>go ?_) fun hb hm=>go ?_
  ·cases hm;exact ⟨rfl,rfl,aa.below⟩
  refine Zs [1,3,1000000] (fun n f bf=>∃ aj a8 aw,aw=n∧S8 N ab aw a8=some r∧St w0 (Zf col) aj bf∧Zj 27 1 aj bf av #[.string ab.1,.slice ao ab.2.1.length ak,.slice ap ab.2.2.1.length al,.slice aq ab.2.2.2.1.length am,.slice ar ab.2.2.2.2.length an]∧[4].map f=[.int .i64 a8]) N ⟨_,0,_,rfl,hm,aa,ac,rfl⟩ ?_;clear hm;intro n f bf hI;obtain ⟨aj,a8,aw,hn,hm,aa,ac,hs⟩:=hI;subst hn;refine .lL [4] hs ?_
  cases aw with
  | zero=>rw [S8.eq_1] at hm;cases hm
  | succ aw=>
   rw [S8.eq_2] at hm;refine go ?_;refine Zm hm (fun hb hm=>go ?_) fun hb hm=>go ?_
   ·refine Y7 (col:=aj) (by kernel_rfl) (by kernel_rfl)<|qF ⟨_,_,rfl⟩ ?_;refine qW (fun _ hC=>((ac.atN).nth (q:=1) rfl).gr (hC.bl aj)) ?_;refine qF ⟨_,_,rfl⟩ ?_;refine qW (fun _ hC=>((ac.atN).nth (q:=1) rfl).gr (hC.bl aj)) ?_;refine go ?_;obtain ⟨dv,br,hm⟩:=bZ hm;refine qI br ((a0.ks aa).addr br)<|qW (fun _ hC=>((a0.ks aa).gr (hC.bl aj)).atStr br) ?_;obtain ⟨ch,ci,hm⟩:=bZ hm;refine qc (v:=(.int .i64 ch)) rfl (fun _ hC=>⟨_,_,Zce call96 rfl rfl,(Ztl ci ((a0.ks aa).gr (hC.bl aj)):).mono fun _ _ h=>⟨h.1,hC.trans (.of_below h.2)⟩⟩) ?_;refine go ?_;refine X2 ?_;intro dw hC;replace hC:=hC.bl aj;refine go ?_;replace ac:=ac.gr hC;replace aa:=aa.grow hC;refine Zs [1,3,4,1000000] (fun n f bs=>∃ af bt a9 ay,ay=n∧Zb4 N ab a8 (S8 N ab aw) ay bt a9=some r∧St w0 (Zf col) af bs∧Zj 27 1 af bs av #[.string ab.1,.slice ao ab.2.1.length ak,.slice ap ab.2.2.1.length al,.slice aq ab.2.2.2.1.length am,.slice ar ab.2.2.2.2.length an]∧[5,6].map f=[.bool bt,.int .i64 a9]) N ⟨_,_,0,_,rfl,hm,aa,ac,rfl⟩ ?_;clear hm;intro n f bs hI;obtain ⟨af,bt,a9,ay,hn,hm,aa,ac,hs⟩:=hI;subst hn;refine .lL [5,6] hs ?_
    cases ay with
    | zero=>rw [Zb4.eq_1] at hm;cases hm
    | succ ay=>
     rw [Zb4.eq_2] at hm;refine go ?_;refine Z1 ac<|Xr rfl ?_;obtain ⟨dx,ag,hm⟩:=bZ hm;refine lI ag ((ah.ks aa).addr ag) ?_;obtain ⟨_,cj,ck⟩:=(ah.ks aa).atN ag;obtain ⟨⟨dy,dz,rfl,d0⟩,_⟩:=cj;refine lW ck.one<|go ?_;refine Zm hm (fun hb hm=>?_) fun hb hm=>go ?_
     ·refine Yj<|Z0 ?_;refine Wp.cutK [1,3,4,6,1000000] (fun f bu=>∃ bv bw,Zi5 a9 (Zb4 N ab a8 (S8 N ab aw) ay) bw=some r∧St w0 (Zf col) bv bu∧Zj 27 1 bv bu av #[.string ab.1,.slice ao ab.2.1.length ak,.slice ap ab.2.2.1.length al,.slice aq ab.2.2.2.1.length am,.slice ar ab.2.2.2.2.length an]∧[5].map f=[.bool bw]) ?_ ?_
      ·intro f bu hJ;obtain ⟨bv,bw,hm,aa,ac,hs⟩:=hJ;rw [Zi5.eq_1] at hm;refine .lL [5] hs<|go ?_;exact ⟨ay,by omega,rfl,⟨_,_,_,_,rfl,hm,aa,ac,rfl⟩⟩
      refine Zjy<|Y7 (col:=af) (by kernel_rfl) (by kernel_rfl)<|go ?_;refine Xn hm (fun bx hm=>go ?_) fun bx hm=>go ?_
      ·refine qv (v:=(.bool true)) rfl (fun _ hC=>Zw (congrArg Value.bool bx) rfl) ?_;refine go ?_;refine X2 ?_;intro d1 hC;replace hC:=hC.bl af;replace ac:=ac.gr hC;replace aa:=aa.grow hC;exact ⟨rfl,_,_,hm,aa,ac,rfl⟩
      refine qF ⟨_,_,rfl⟩ ?_;refine go ?_;refine qW (fun _ hC=>((ac.atN).nth (q:=2) rfl).gr (hC.bl af)) ?_;refine go ?_;refine qI ag ((ah.ks aa).addr ag) ?_;refine go ?_;obtain ⟨_,cl,cn⟩:=(ah.ks aa).atN ag;obtain ⟨⟨d2,d3,rfl,co⟩,_⟩:=cl;refine qW (fun _ hC=>cn.one.gr (hC.bl af)) ?_;refine go ?_;refine qF ⟨_,_,rfl⟩ ?_;refine go ?_;refine qW (fun _ hC=>((ac.atN).nth (q:=2) rfl).gr (hC.bl af)) ?_;refine go ?_;refine qI ag ((ah.ks aa).addr ag) ?_;refine go ?_;obtain ⟨_,cp,cq⟩:=(ah.ks aa).atN ag;obtain ⟨⟨d4,d5,rfl,cb⟩,_⟩:=cp;refine qW (fun _ hC=>cq.one.gr (hC.bl af)) ?_;refine go ?_;obtain ⟨d6,bz,hm⟩:=bZ hm;refine qI bz (cb.addr bz) ?_;refine go ?_;refine qW (fun _ hC=>(cb.gr (hC.bl af)).atStr bz) ?_;refine go ?_;obtain ⟨cc,cr,hm⟩:=bZ hm;refine qc (v:=(.int .i64 cc)) rfl (fun _ hC=>⟨_,_,Zce call96 rfl rfl,(Ztl cr (co.gr (hC.bl af)):).mono fun _ _ h=>⟨h.1,hC.trans (.of_below h.2)⟩⟩) ?_;refine go ?_;refine qv (v:=(.bool (decide (cc<a9)))) rfl (fun _ hC=>Xk (congrArg Value.bool bx) rfl) ?_;refine go ?_;refine X2 ?_;intro d7 hC;replace hC:=hC.bl af;replace ac:=ac.gr hC;replace aa:=aa.grow hC;exact ⟨rfl,_,_,hm,aa,ac,rfl⟩
     refine Zm hm (fun hb hm=>go ?_) fun hb hm=>go ?_
     ·cases hm;exact ⟨rfl,rfl,aa.below⟩
     refine Z1 ac<|Xr rfl<|lI ag ((ah.ks aa).addr ag) ?_;obtain ⟨_,cs,ct⟩:=(ah.ks aa).atN ag;obtain ⟨⟨d8,d9,rfl,ea⟩,_⟩:=cs;refine lW ct.one<|go ?_;refine Zm hm (fun hb hm=>go ?_) fun hb hm=>go ?_
     ·cases hm;exact ⟨rfl,rfl,aa.below⟩
     exact ⟨aw,by omega,rfl,⟨_,_,_,rfl,hm,aa,ac,rfl⟩⟩
   refine Z1 ac ?_;obtain ⟨eb,cu,hm⟩:=bZ hm;refine Zk (Z30 cu (a1.ks aa)) fun _ cv ⟨e',bg⟩=>⟨_,e',?_⟩;replace bg:Zn aj bf aj cv:=.of_below bg;refine go ?_;replace ac:=ac.gr bg;replace aa:=aa.grow bg;refine Zm hm (fun hb hm=>go ?_) fun hb hm=>go ?_
   ·cases hm;exact ⟨rfl,rfl,aa.below⟩
   refine lV _ (Z9 isAgg27 sizeOf27 ac) ?_;obtain ⟨ax,cw,hm⟩:=bZ hm;refine Zk (Z38 2 cw (a0.ks aa) (ah.ks aa) (a1.ks aa) (ai.ks aa)) ?_;rintro _ ec ⟨ed,bh,bi,rfl,cd,ad⟩;refine ⟨_,rfl,go ?_⟩;replace ac:=ac.gr cd;replace aa:=aa.grow cd;refine Zs [1,3,8,1000000] (fun n f ba=>∃ ae b0 a2,a2=n∧Zb5 N ab ax a2 b0=some r∧St w0 (Zf col) ae ba∧Zj 27 1 ae ba av #[.string ab.1,.slice ao ab.2.1.length ak,.slice ap ab.2.2.1.length al,.slice aq ab.2.2.2.1.length am,.slice ar ab.2.2.2.2.length an]∧Zc rI 3 2 ae ba bh bi ax∧[9].map f=[.int .i64 b0]) N ⟨_,0,_,rfl,hm,aa,ac,ad,rfl⟩ ?_;clear hm;intro n f ba hI;obtain ⟨ae,b0,a2,hn,hm,aa,ac,ad,hs⟩:=hI;subst hn;refine .lL [9] hs ?_
   cases a2 with
   | zero=>rw [Zb5.eq_1] at hm;cases hm
   | succ a2=>
    rw [Zb5.eq_2] at hm;refine go ?_;refine Zm hm (fun hb hm=>go ?_) fun hb hm=>go ?_
    ·refine Z1 ac<|Xr rfl ?_;obtain ⟨ee,b1,hm⟩:=bZ hm;refine lI b1 ((a1.ks aa).addr b1) ?_;obtain ⟨_,cx,cy⟩:=(a1.ks aa).atN b1;obtain ⟨⟨ef,eg,rfl,cz⟩,_⟩:=cx;refine lW cy.one<|Wo rfl ?_;obtain ⟨eh,c0,hm⟩:=bZ hm;refine Zk (Z35 c0 (cz.froz 2) (ad.toSlF (Zh.int .i64))) fun _ ce ⟨e',bb⟩=>⟨_,e',?_⟩;replace bb:Zn ae ba ae ce:=.of_below bb;refine go ?_;obtain ⟨ei,a3,hm⟩:=bZ hm;replace ad:=ad.gr bb;refine lI a3 (ad.addr a3)<|lW (ad.atInt a3) ?_;obtain ⟨ej,c1,hm⟩:=bZ hm;refine Zk (Z37 (col:=ae) c1) fun _ c2 ⟨e',bc⟩=>⟨_,e',?_⟩;replace bc:Zn ae ce ae c2:=.of_below bc;refine go ?_;replace ac:=(ac.gr bb).gr bc;replace aa:=(aa.grow bb).grow bc;replace ad:=ad.gr bc;refine Zm hm (fun hb hm=>go ?_) fun hb hm=>go ?_
     ·cases hm;exact ⟨rfl,rfl,aa.below⟩
     refine Y7 (col:=ae) (by kernel_rfl) (by kernel_rfl)<|qF ⟨_,_,rfl⟩ ?_;refine qW (fun _ hC=>((ac.atN).nth (q:=4) rfl).gr (hC.bl ae)) ?_;refine go ?_;obtain ⟨ek,b2,hm⟩:=bZ hm;refine qI b2 ((ai.ks aa).addr b2) ?_;obtain ⟨_,c3,c4⟩:=(ai.ks aa).atN b2;obtain ⟨⟨el,em,rfl,en⟩,_⟩:=c3;refine qW (fun _ hC=>c4.one.gr (hC.bl ae)) ?_;refine go ?_;refine qI a3 (ad.addr a3)<|qW (fun _ hC=>(ad.gr (hC.bl ae)).atInt a3) ?_;refine go ?_;refine X2 ?_;intro eo hC;replace hC:=hC.bl ae;replace ad:=ad.gr hC;replace ac:=ac.gr hC;replace aa:=aa.grow hC;refine Zm hm (fun hb hm=>go ?_) fun hb hm=>go ?_
     ·cases hm;exact ⟨rfl,rfl,aa.below⟩
     exact ⟨a2,by omega,rfl,⟨_,_,_,rfl,hm,aa,ac,ad,rfl⟩⟩
    refine Zs [1,3,8,1000000] (fun n f bj=>∃ bk bm az,az=n∧Za1 N ab ax az bm=some r∧St w0 (Zf col) bk bj∧Zj 27 1 bk bj av #[.string ab.1,.slice ao ab.2.1.length ak,.slice ap ab.2.2.1.length al,.slice aq ab.2.2.2.1.length am,.slice ar ab.2.2.2.2.length an]∧Zc rI 3 2 bk bj bh bi ax∧[12].map f=[.int .i64 bm]) N ⟨_,0,_,rfl,hm,aa,ac,ad,rfl⟩ ?_;clear hm;intro n f bj hI;obtain ⟨bk,bm,az,hn,hm,aa,ac,ad,hs⟩:=hI;subst hn;refine .lL [12] hs ?_
    cases az with
    | zero=>rw [Za1.eq_1] at hm;cases hm
    | succ az=>
     rw [Za1.eq_2] at hm;refine go ?_;refine Zm hm (fun hb hm=>go ?_) fun hb hm=>go ?_
     ·refine Zs [1,12,3,8,1000000] (fun n f bd=>∃ a4 b3 a5,a5=n∧Zf0 N ab bm (Za1 N ab ax az) a5 b3=some r∧St w0 (Zf col) a4 bd∧Zj 27 1 a4 bd av #[.string ab.1,.slice ao ab.2.1.length ak,.slice ap ab.2.2.1.length al,.slice aq ab.2.2.2.1.length am,.slice ar ab.2.2.2.2.length an]∧Zc rI 3 2 a4 bd bh bi ax∧[13].map f=[.int .i64 b3]) N ⟨_,0,_,rfl,hm,aa,ac,ad,rfl⟩ ?_;clear hm;intro n f bd hI;obtain ⟨a4,b3,a5,hn,hm,aa,ac,ad,hs⟩:=hI;subst hn;refine .lL [13] hs ?_
      cases a5 with
      | zero=>rw [Zf0.eq_1] at hm;cases hm
      | succ a5=>
       rw [Zf0.eq_2] at hm;refine go ?_;refine Z1 ac<|Xr rfl ?_;obtain ⟨ep,a6,hm⟩:=bZ hm;refine lI a6 ((ai.ks aa).addr a6) ?_;obtain ⟨_,c5,c6⟩:=(ai.ks aa).atN a6;obtain ⟨⟨eq,er,rfl,es⟩,_⟩:=c5;refine lW c6.one<|go ?_;refine Zm hm (fun hb hm=>go ?_) fun hb hm=>go ?_
       ·refine Z1 ac<|Xr rfl<|lI a6 ((ai.ks aa).addr a6) ?_;obtain ⟨_,c7,c8⟩:=(ai.ks aa).atN a6;obtain ⟨⟨et,eu,rfl,cf⟩,_⟩:=c7;refine lW c8.one<|Xr rfl ?_;obtain ⟨b4,b5,hm⟩:=bZ hm;refine lI b5 (cf.addr b5) ?_;obtain ⟨_,c9,da⟩:=cf.atN b5;obtain ⟨_,_,rfl,db,dc⟩:=Yb c9;obtain ⟨_,_,rfl,dd,de⟩:=Yb db;obtain ⟨rfl,_⟩:=dd;obtain ⟨⟨df,dg,rfl,dh⟩,_⟩:=de;obtain ⟨⟨di,dj,rfl,dk⟩,_⟩:=dc;refine lV (.agg #[.bool b4.1.1,.slice df b4.1.2.length dg,.slice di b4.2.length dj]) (Ym isAgg42 sizeOf42 rfl rfl da) ?_;obtain ⟨ew,dl,hm⟩:=bZ hm;refine Zk (Z36 dl dh dk) fun _ dm ⟨e',be⟩=>⟨_,e',?_⟩;replace be:Zn a4 bd a4 dm:=.of_below be;refine go ?_;replace ad:=ad.gr be;replace ac:=ac.gr be;replace aa:=aa.grow be;refine Zm hm (fun hb hm=>go ?_) fun hb hm=>go ?_
        ·cases hm;exact ⟨rfl,rfl,aa.below⟩
        exact ⟨a5,by omega,rfl,⟨_,_,_,rfl,hm,aa,ac,ad,rfl⟩⟩
       exact ⟨az,by omega,rfl,⟨_,_,_,rfl,hm,aa,ac,ad,rfl⟩⟩
     refine Zs [1,3,8,1000000] (fun n f bn=>∃ au b6 a7,a7=n∧Zb6 N ab ax a7 b6=some r∧St w0 (Zf col) au bn∧Zj 27 1 au bn av #[.string ab.1,.slice ao ab.2.1.length ak,.slice ap ab.2.2.1.length al,.slice aq ab.2.2.2.1.length am,.slice ar ab.2.2.2.2.length an]∧Zc rI 3 2 au bn bh bi ax∧[15].map f=[.int .i64 b6]) N ⟨_,0,_,rfl,hm,aa,ac,ad,rfl⟩ ?_;clear hm;intro n f bn hI;obtain ⟨au,b6,a7,hn,hm,aa,ac,ad,hs⟩:=hI;subst hn;refine .lL [15] hs ?_
     cases a7 with
     | zero=>rw [Zb6.eq_1] at hm;cases hm
     | succ a7=>
      rw [Zb6.eq_2] at hm;refine go ?_;refine Zm hm (fun hb hm=>go ?_) fun hb hm=>go ?_
      ·refine Y7 (col:=au) (by kernel_rfl) (by kernel_rfl)<|qF ⟨_,_,rfl⟩ ?_;refine qW (fun _ hC=>((ac.atN).nth (q:=4) rfl).gr (hC.bl au)) ?_;refine go ?_;obtain ⟨ey,b7,hm⟩:=bZ hm;refine qI b7 ((ai.ks aa).addr b7) ?_;obtain ⟨_,dn,dp⟩:=(ai.ks aa).atN b7;obtain ⟨⟨ez,e0,rfl,dq⟩,_⟩:=dn;refine qW (fun _ hC=>dp.one.gr (hC.bl au)) ?_;refine go ?_;obtain ⟨e1,b8,hm⟩:=bZ hm;refine qI b8 (ad.addr b8)<|qW (fun _ hC=>(ad.gr (hC.bl au)).atInt b8) ?_;obtain ⟨dr,ds,hm⟩:=bZ hm;refine qc (v:=(.bool dr)) rfl (fun _ hC=>⟨_,_,Zce call101 rfl rfl,(Z39 ds (dq.gr (hC.bl au)):).mono fun _ _ h=>⟨h.1,hC.trans (.of_below h.2)⟩⟩) ?_;refine go ?_;refine X2 ?_;intro e2 hC;replace hC:=hC.bl au;refine go ?_;replace ac:=ac.gr hC;replace aa:=aa.grow hC;refine Zm hm (fun hb hm=>go ?_) fun hb hm=>go ?_
       ·cases hm;exact ⟨rfl,rfl,aa.below⟩
       exact ⟨a7,by omega,rfl,⟨_,_,_,rfl,hm,aa,ac,ad.gr hC,rfl⟩⟩
      cases hm;exact ⟨rfl,rfl,aa.below⟩
 refine Wy<|Z1 ac ?_;refine go ?_;refine Xn hm (fun b9 hm=>go ?_) fun b9 hm=>go ?_
 ·refine lV (.bool true) (Zw (congrArg Value.bool b9) rfl)<|Xq rfl<|lP 32 rfl rfl<|lP 32 rfl rfl<|lP 32 rfl rfl<|lP 32 rfl rfl<|lP 32 rfl rfl<|lV (.bool true) (Zw rfl rfl)<|Zl ?_;exact ⟨rfl,_,_,hm,aa,ac,rfl⟩
 refine Z7 ⟨_,_,rfl⟩ ?_;refine go ?_;refine lW ((ac.atN).nth (q:=3) rfl)<|go ?_;refine lV (.bool (!decide ((ab.2.2.2.1.length:Int)=(ab.2.1.length:Int)))) (Xk (congrArg Value.bool b9) rfl)<|Xq rfl ?_;refine Xn hm (fun ca hm=>go ?_) fun ca hm=>go ?_
 ·refine lV (.bool true) (Zw (congrArg Value.bool ca) rfl)<|Zl ?_;exact ⟨rfl,_,_,hm,aa,ac,rfl⟩
 refine Z7 ⟨_,_,rfl⟩ ?_;refine go ?_;refine lW ((ac.atN).nth (q:=4) rfl)<|go ?_;refine lV (.bool (!decide ((ab.2.2.2.2.length:Int)=(ab.2.1.length:Int)))) (Xk (congrArg Value.bool ca) rfl)<|Zl ?_;exact ⟨rfl,_,_,hm,aa,ac,rfl⟩
abbrev Xa:=ByteArray×List ByteArray×List R8×List R2×List (List QV)
instance decMemB:∀ (s:ByteArray) (l:List ByteArray),Decidable (s ∈ l)
 | _,[]=>isFalse (by simp)
 | s,x :: l=>if h:s=x then isTrue (by rw [h];exact aQ) else match decMemB s l with
  | isTrue h2=>isTrue (aO _ h2)
  | isFalse h2=>isFalse (by rw [aP];rintro (h3 | h3) <;> contradiction)
theorem Zxh {α:Type} (l:List α) (k:Nat) (hk:k<l.length):(l.take (k+1)).Nodup↔(l.take k).Nodup∧l[k] ∉ l.take k:=by
 rw [dQ,aI hk,cV,cI]
 constructor
 ·rintro ⟨c,_,f⟩
  exact ⟨c,fun g=>f _ g _ (by simp) rfl⟩
 ·rintro ⟨c,i⟩
  refine ⟨c,by simp,fun a j b d e=>?_⟩
  rw [bN] at d
  subst d;subst e
  exact i j
theorem Zuv (N:Nat) (l:List ByteArray) (hl:l.length<4611686018427387904) (v:Nat) (hv:v<l.length):∀ (n k:Nat),k≤v→v<n+k→l[v] ∉ l.take k→∃ j:Nat,Zf2 N l l[v] n (k:Int)=some (j:Int)∧j≤v∧(j<v↔l[v] ∈ l.take v)
 | 0,k,b,e,_=>by omega
 | n+1,k,b,e,c=>by
  have d:k<l.length:=by omega
  rw [Zf2.eq_2,if_pos (dT (by omega)),Zu d,oB]
  by_cases he:l[k]=l[v]
  ·rw [if_pos (dT he)]
   refine ⟨k,rfl,b,fun h=>?_,fun h=>?_⟩
   ·rw [← he]
    exact iH.2 ⟨k,by rw [nK];omega,by rw [fC]⟩
   ·rcases cO k v with a | a
    ·exact a
    ·have:k=v:=by omega
     subst this;exact absurd h c
  ·have f:k<v:=by
    rcases cO k v with a | a
    ·exact a
    ·have:k=v:=by omega
     subst this;exact absurd rfl he
   rw [if_neg (dF he),Zr (by omega)]
   have:=Zuv N l hl v hv n (k+1) (by omega) (by omega) (by
    rw [dQ,aI d,cV,List.mem_append,bN]
    rintro (h | h)
    ·exact c h
    ·exact he h.symm)
   exact this
theorem Zuw {N:Nat} {l:List ByteArray} (hl:l.length<4611686018427387904) {v:Nat} (hv:v<l.length) (hN:l.length<N):∃ j:Nat,Zli N l l[v]=some (j:Int)∧(j<v↔l[v] ∈ l.take v):=by
 obtain ⟨j,a,_,b⟩:=Zuv N l hl v hv N 0 (by omega) (by omega) (by simp)
 exact ⟨j,a,b⟩
theorem Zvm (s:ByteArray):∀ (l:List ByteArray) (k:Nat),∃ j:Int,Zg1 s l k=some j∧(0≤j↔s ∈ l)
 | [],k=>⟨-1,rfl,by simp⟩
 | x :: l,k=>by
  rw [Zg1.eq_2]
  by_cases h:s=x
  ·rw [if_pos (dT h)];exact ⟨_,rfl,by simp [h]⟩
  ·rw [if_neg (dF h)]
   obtain ⟨j,a,b⟩:=Zvm s l (k+1)
   exact ⟨j,a,by rw [b,aP];simp [h]⟩
theorem Z5e (s:ByteArray) (l:List ByteArray):Zlt l s=some (decide (s ∈ l)):=by
 obtain ⟨j,a,b⟩:=Zvm s l 0
 rw [Zlt,Zol,a,oB]
 congr 1
 exact decide_eq_decide.2 b
theorem Zw7:∀ (l:List ByteArray) (seen:List (ByteArray×Int)) (S:List ByteArray),S.Nodup→(∀ k,Wv seen k=if k ∈ S then some 1 else none)→Zdc l seen=some (!decide (S++l).Nodup)
 | [],seen,S,c,d=>by rw [Zdc.eq_1,cL,decide_eq_true c];rfl
 | x :: l,seen,S,c,d=>by
  rw [Zdc.eq_2,d x]
  by_cases hx:x ∈ S
  ·rw [if_pos hx,if_pos (by decide),decide_eq_false]
   ·rfl
   intro h
   exact (cI.1 h).2.2 x hx x aQ rfl
  ·rw [if_neg hx,if_neg (by decide),oB,Zw7 l _ (S++[x]) (by
    rw [cI]
    refine ⟨c,by simp,fun a g b f e=>?_⟩
    rw [bN] at f;subst f;subst e;exact hx g) (fun k=>by
    rw [Zwz,d k]
    by_cases hk:k=x
    ·subst hk;rw [if_pos rfl,if_pos (by simp)]
    ·rw [if_neg hk]
     by_cases hs:k ∈ S
     ·rw [if_pos hs,if_pos (by simp [hs])]
     ·rw [if_neg hs,if_neg (by simp [hs,hk])])]
   rw [bK];rfl
theorem Z7y (l:List ByteArray):Zks l=some (!decide l.Nodup):=by
 rw [Zks,Zw7 l [] [] .nil (fun k=>by simp [Wv]),bL]
def Ts (names:List ByteArray) (vals:List R8):Nat→Nat→Int
 | 0,_=>0
 | m+1,v=>if names.getD v ⟨#[]⟩ ∈ names.take v∨¬ (vals.getD v []).Nodup then 40 else if vals.getD v []=[] then 43 else Ts names vals m (v+1)
theorem Zxc (n:Xa) (hl:n.2.2.1.length=n.2.1.length):∀ (l:List ByteArray) (k:Nat),n.2.1.drop k=l→k≤n.2.1.length→Zbq n l k=some (Ts n.2.1 n.2.2.1 l.length k)
 | [],k,_,_=>rfl
 | x :: l,k,c,f=>by
  have a:k<n.2.1.length:=by
   rcases cO k n.2.1.length with h | h
   ·exact h
   ·rw [aG h] at c;cases c
  have b:=aL a
  rw [c] at b
  obtain ⟨e,d⟩:=List.cons.inj b
  rw [Zbq.eq_2,Zx (by omega),aB,Z5e,oB,nC,Ts,X4 a,← e,X4 (by omega)]
  by_cases h1:x ∈ n.2.1.take k
  ·rw [if_pos (dT h1),Zh6,if_pos rfl,if_pos (.inl h1)]
  ·rw [if_neg (dF h1),Zu (by omega),oB,Z7y,oB,Zh6]
   by_cases h2:(n.2.2.1[k]'(by omega)).Nodup
   ·rw [decide_eq_true h2,if_neg (by decide),if_neg (by simp [h1,h2]),Zu (by omega),oB]
    by_cases h3:n.2.2.1[k]'(by omega)=[]
    ·rw [if_pos (by rw [h3];decide),if_pos h3]
    ·rw [if_neg (by simpa using h3),if_neg h3]
     exact Zxc n hl l (k+1) d.symm (by omega)
   ·rw [decide_eq_false h2,if_pos (by decide),if_pos (.inr h2)]
theorem Zxd (n:Xa) (hl:n.2.2.1.length=n.2.1.length):Ze5 n=some (Ts n.2.1 n.2.2.1 n.2.1.length 0):=by
 rw [Ze5];exact Zxc n hl n.2.1 0 (by simp) (by omega)
theorem Zr5 (N:Nat) (n:Xa) (v:Nat) (hv:v<n.2.2.1.length) (hb:n.2.2.1[v].length≤1048576) (hN:1048577<N) (hvb:v<4611686018427387904) (kk:Int→Option Int) (A:Prop) [Decidable A]:∀ (m i:Nat) (a:Bool),i≤n.2.2.1[v].length→n.2.2.1[v].length<m+i→(a=true→A∨¬ (n.2.2.1[v]).Nodup)→(a=false→¬ A∧((n.2.2.1[v]).take i).Nodup)→
  Zb4 N n (v:Int) kk m a (i:Int)=if A∨¬ (n.2.2.1[v]).Nodup then some 40 else if n.2.2.1[v]=[] then some 43 else kk ((v:Int)+1)
 | 0,i,a,o,p,_,_=>by omega
 | m+1,i,a,o,p,e,f=>by
  rw [Zb4.eq_2,Zu hv,oB]
  by_cases hi:i<n.2.2.1[v].length
  ·rw [if_pos (dT (by omega))]
   cases a with
   | true=>
    rw [if_pos rfl,Zi5,Zr (by omega)]
    exact Zr5 N n v hv hb hN hvb kk A m (i+1) true (by omega) (by omega) e (fun h=>by cases h)
   | false=>
    obtain ⟨j,q,g⟩:=Zuw (N:=N) (l:=n.2.2.1[v]) (by omega) hi (by omega)
    have st:=Zxh n.2.2.1[v] i hi
    have c:=f rfl
    rw [if_neg (by decide),Zu hi,oB,q,oB,Zi5,Zr (by omega)]
    have:=Zr5 N n v hv hb hN hvb kk A m (i+1) (decide ((j:Int)<(i:Int))) (by omega) (by omega) (fun h=>.inr fun r=>by
     have d:=of_decide_eq_true h
     have b:=(r.sublist (List.take_sublist (i+1) _))
     exact (st.1 b).2 (g.1 (by omega))) (fun h=>⟨c.1,st.2 ⟨c.2,fun s=>by
     have d:=of_decide_eq_false h
     have:=g.2 s
     omega⟩⟩)
    exact this
  ·have k:i=n.2.2.1[v].length:=by omega
   rw [if_neg (dF (by omega))]
   cases a with
   | true=>rw [if_pos rfl,if_pos (e rfl)]
   | false=>
    obtain ⟨c,d⟩:=f rfl
    rw [k,List.take_length] at d
    have t:¬ (A∨¬ (n.2.2.1[v]).Nodup):=fun h=>h.elim c (fun h=>h d)
    rw [if_neg (by decide),if_neg t,Zr (by omega)]
    by_cases b:n.2.2.1[v]=[]
    ·rw [if_pos (by rw [b];decide),if_pos b]
    ·rw [if_neg (by simpa using b),if_neg b]
theorem Z0h (N:Nat) (n:Xa) (hl:n.2.2.1.length=n.2.1.length) (hn:n.2.1.length≤1048576) (hb:∀ l ∈ n.2.2.1,l.length≤1048576) (hN:1048577<N):∀ (m fuel v:Nat),m+v=n.2.1.length→m<fuel→
  S8 N n fuel (v:Int)=if Ts n.2.1 n.2.2.1 m v=0 then S8 N n (fuel - m) (n.2.1.length:Int) else some (Ts n.2.1 n.2.2.1 m v)
 | 0,fuel,v,c,_=>by
  have:v=n.2.1.length:=by omega
  rw [Ts,if_pos rfl,this,Nat.sub_zero]
 | m+1,0,v,c,f=>by omega
 | m+1,fuel+1,v,c,f=>by
  have b:v<n.2.1.length:=by omega
  have a:v<n.2.2.1.length:=by omega
  obtain ⟨j,g,d⟩:=Zuw (N:=N) (l:=n.2.1) (by omega) b (by omega)
  rw [S8.eq_2,if_pos (dT (by omega)),Zu b,oB,g,oB,Ts,X4 b,X4 a,show (0:Int)=((0:Nat):Int) from rfl,
   Zr5 N n v a (hb _ (aD a)) hN (by omega) (S8 N n fuel) (n.2.1[v] ∈ n.2.1.take v) N 0 _ (by omega) (by have:=hb _ (aD a);omega) (fun h=>.inl (d.1 (by have:=of_decide_eq_true h;omega))) (fun h=>⟨fun i=>by have:=of_decide_eq_false h;have:=d.2 i;omega,by simp⟩)]
  by_cases h3:n.2.1[v] ∈ n.2.1.take v∨¬ (n.2.2.1[v]).Nodup
  ·rw [if_pos h3,if_pos h3,if_neg (by decide)]
  ·rw [if_neg h3,if_neg h3]
   by_cases h4:n.2.2.1[v]=[]
   ·rw [if_pos h4,if_pos h4,if_neg (by decide)]
   ·rw [if_neg h4,if_neg h4]
    have e:=Z0h N n hl hn hb hN m fuel (v+1) (by omega) (by omega)
    rw [show ((v+1:Nat):Int)=(v:Int)+1 by omega] at e
    rw [e,show fuel+1 - (m+1)=fuel - m by omega]
    rfl
theorem Zxf {names:List ByteArray} {vals:List R8}:∀ (m v:Nat),Ts names vals m v=0→∀ i,v≤i→i<v+m→vals.getD i []≠[]∧(vals.getD i []).Nodup∧names.getD i ⟨#[]⟩ ∉ names.take i
 | 0,v,_,i,a,b=>by omega
 | m+1,v,h,i,a,b=>by
  rw [Ts] at h
  by_cases h3:names.getD v ⟨#[]⟩ ∈ names.take v∨¬ (vals.getD v []).Nodup
  ·rw [if_pos h3] at h;cases h
  ·rw [if_neg h3] at h
   by_cases h4:vals.getD v []=[]
   ·rw [if_pos h4] at h;cases h
   ·rw [if_neg h4] at h
    rcases cO v i with c | c
    ·exact Zxf m (v+1) h i (by omega) (by omega)
    ·have:i=v:=by omega
     subst this
     exact ⟨h4,by simpa using (not_or.1 h3).2,(not_or.1 h3).1⟩
def Yw (vals:List R8):List Int→Nat→Nat
 | [],k=>k
 | p :: ps,k=>Yw vals ps (min (k * (vals.getD p.toNat []).length) 1099511627776)
theorem Zr7 (vals:List R8):∀ (ps:List Int) (k:Nat),k≤1099511627776→Yw vals ps k≤1099511627776
 | [],k,h=>h
 | p :: ps,k,h=>Zr7 vals ps _ (by omega)
theorem Zop {a b:Nat} (h:a≤1099511627776) (g:b≤1048576):a * b≤1152921504606846976:=by
 have:=Nat.mul_le_mul h g
 simpa using this
theorem Zw6 (n:Xa) (hb:∀ l ∈ n.2.2.1,l.length≤1048576):∀ (ps:List Int) (k:Nat),k≤1099511627776→(∀ p ∈ ps,0≤p∧p<(n.2.2.1.length:Int))→Ze7 n ps (k:Int)=some (Yw n.2.2.1 ps k:Int)
 | [],k,_,_=>rfl
 | p :: ps,k,c,b=>by
  have g:=b p aQ
  have a:p.toNat<n.2.2.1.length:=by omega
  have d:=hb _ (aD a)
  have i:=Zop c d
  rw [Ze7.eq_2,show p=((p.toNat:Nat):Int) by omega,Zu a,oB,Yw,aB,X4 a,← bQ,Zr (by omega)]
  have e:=Zw6 n hb ps (min (k * n.2.2.1[p.toNat].length) 1099511627776) (by omega) (fun q f=>b q (aO _ f))
  rw [← e]
  congr 1
  by_cases h5:1099511627776<k * n.2.2.1[p.toNat].length
  ·rw [if_pos (by omega),dL (by omega)];rfl
  ·rw [if_neg (by omega),aS (by omega)]
theorem Z1l (N:Nat) (n:Xa) (hl:n.2.2.1.length≤1048576):∀ (m i:Nat) (out:List Int),i≤n.2.2.1.length→n.2.2.1.length<m+i→out=(n.2.2.1.take i).map (fun l=>(l.length:Int))→Zf4 N n m out (i:Int)=some (n.2.2.1.map fun l=>(l.length:Int))
 | 0,i,out,b,c,_=>by omega
 | m+1,i,out,b,c,a=>by
  rw [Zf4.eq_2]
  have d:out.length=i:=by rw [a,aE,nK];omega
  by_cases hi:i<n.2.2.1.length
  ·rw [if_pos (dT (by omega)),Zu hi,oB,Zx (by simp only [aH,maxLen];omega),Zr (by omega)]
   exact Z1l N n hl m (i+1) _ (by omega) (by omega) (by rw [a,dQ,aI hi,cV,bV];rfl)
  ·rw [if_neg (dF (by omega)),a,bD (by omega)]
theorem Z9y {N:Nat} {n:Xa} (hl:n.2.2.1.length≤1048576) (hN:1048576<N):Zf3 N n=some (n.2.2.1.map fun l=>(l.length:Int)):=by
 rw [Zf3]
 exact Z1l N n hl N 0 [] (by omega) (by omega) (by simp)
theorem Zpf {vals:List R8} {i:Nat} (h:i<vals.length):Zi (vals.map fun l=>(l.length:Int)) (i:Int)=some (vals[i].length:Int):=by
 rw [Zu (by rw [aE];exact h),bU]
theorem Zqh (N:Nat) (ps:List Int) (vals:List R8) (hb:∀ l ∈ vals,l.length≤1048576) (hne:∀ l ∈ vals,l≠[]) (hp:∀ p ∈ ps,0≤p∧p<(vals.length:Int)) (hps:ps.length≤1048576):∀ (m i k:Nat),i≤ps.length→ps.length<m+i→k≤1099511627776→
  Zb7 N ps (vals.map fun l=>(l.length:Int)) m (k:Int) (i:Int)=some (Yw vals (ps.drop i) k:Int)
 | 0,i,k,c,d,_=>by omega
 | m+1,i,k,c,d,f=>by
  rw [Zb7.eq_2]
  by_cases hi:i<ps.length
  ·have n:=hp _ (aD hi)
   have a:(ps[i]).toNat<vals.length:=by omega
   have g:=hb _ (aD a)
   have j:0<vals[(ps[i]).toNat].length:=cB.2 (hne _ (aD a))
   have o:=Zop f g
   rw [if_pos (dT (by omega)),Zu hi,oB]
   conv=>lhs;rw [show ps[i]=(((ps[i]).toNat:Nat):Int) by omega]
   rw [Zpf a,oB,Zx (by omega),aL hi,Yw,X4 a]
   have e:i64.wrap (Int.tdiv 1099511627776 (vals[(ps[i]).toNat].length:Int))=((1099511627776 / vals[(ps[i]).toNat].length:Nat):Int):=by
    rw [bW (by decide),show (1099511627776:Int)=((1099511627776:Nat):Int) from rfl,← gO]
    refine Zr ⟨by have:=dZ (1099511627776 / vals[(ps[i]).toNat].length);omega,?_⟩
    have:=cM 1099511627776 vals[(ps[i]).toNat].length
    omega
   rw [e]
   have b:1099511627776 / vals[(ps[i]).toNat].length<k↔1099511627776<k * vals[(ps[i]).toNat].length:=dE j
   by_cases h9:1099511627776<k * vals[(ps[i]).toNat].length
   ·rw [if_pos (dT (eI.2 (b.2 h9))),Zi6,Zr (by omega),dL (by omega)]
    exact Zqh N ps vals hb hne hp hps m (i+1) 1099511627776 (by omega) (by omega) (by omega)
   ·rw [if_neg (by rw [decide_eq_false (fun h=>h9 (b.1 (eI.1 h)))];decide),Zi6,← bQ,Zr (by omega),Zr (by omega),aS (by omega)]
    exact Zqh N ps vals hb hne hp hps m (i+1) _ (by omega) (by omega) (by omega)
  ·rw [if_neg (dF (by omega)),aG (by omega),Yw]
theorem Zt1 (N:Nat) (ps:List Int) (vals:List R8) (hb:∀ l ∈ vals,l.length≤1048576) (hne:∀ l ∈ vals,l≠[]) (hp:∀ p ∈ ps,0≤p∧p<(vals.length:Int)) (hps:ps.length≤1048576) (hN:1048577<N):∀ (m i:Nat),i≤ps.length→ps.length<m+i→
  Zf1 N ps (vals.map fun l=>(l.length:Int)) m (i:Int)=some (Yw vals ps 1:Int)
 | 0,i,b,c=>by omega
 | m+1,i,b,c=>by
  rw [Zf1.eq_2]
  by_cases hi:i<ps.length
  ·have d:=hp _ (aD hi)
   have a:(ps[i]).toNat<vals.length:=by omega
   have e:0<vals[(ps[i]).toNat].length:=cB.2 (hne _ (aD a))
   rw [if_pos (dT (by omega)),Zu hi,oB]
   conv=>lhs;rw [show ps[i]=(((ps[i]).toNat:Nat):Int) by omega]
   rw [Zpf a,oB,if_neg (dF (by omega)),Zr (by omega)]
   exact Zt1 N ps vals hb hne hp hps hN m (i+1) (by omega) (by omega)
  ·rw [if_neg (dF (by omega))]
   exact Zqh N ps vals hb hne hp hps N 0 1 (by omega) (by omega) (by omega)
theorem Z5b {N:Nat} {ps:List Int} {vals:List R8} (hb:∀ l ∈ vals,l.length≤1048576) (hne:∀ l ∈ vals,l≠[]) (hp:∀ p ∈ ps,0≤p∧p<(vals.length:Int)) (hps:ps.length≤1048576) (hN:1048577<N):Zlh N ps (vals.map fun l=>(l.length:Int))=some (Yw vals ps 1:Int):=by
 rw [Zlh]
 exact Zt1 N ps vals hb hne hp hps hN N 0 (by omega) (by omega)
theorem Z8f {r c:Nat} (hc:0<c):Zlj (r:Int) (c:Int)=some (decide (65536<r * c)):=by
 have e:i64.wrap (Int.tdiv 65536 (c:Int))=((65536 / c:Nat):Int):=by
  rw [bW (by decide),show (65536:Int)=((65536:Nat):Int) from rfl,← gO]
  refine Zr ⟨by have:=dZ (65536 / c);omega,?_⟩
  have:=cM 65536 c
  omega
 rw [Zlj,if_pos (dT (by omega)),Zx (by omega),e,Zlk]
 congr 1
 refine decide_eq_decide.2 ?_
 rw [eI]
 exact dE hc
def Ur (vals:List R8) (P:List R2) (T:List (List QV)):Nat→Nat→Int
 | 0,_=>0
 | m+1,v=>if 65536<Yw vals (P.getD v []) 1 * (vals.getD v []).length then 4 else if Yw vals (P.getD v []) 1 * (vals.getD v []).length≠(T.getD v []).length then 60 else Ur vals P T m (v+1)
structure W6 (n:Xa) (W:Nat):Prop where
 nm:n.2.1.length≤1048575
 vl:∀ l ∈ n.2.2.1,l.length≤1048576
 pn:Zmq n.2.2.2.1
 tl:∀ t ∈ n.2.2.2.2,t.length≤1048576
 tq:∀ t ∈ n.2.2.2.2,Xz t≤W
 lim:∀ t ∈ n.2.2.2.2,∀ x ∈ t,Vc x
structure Tk (n:Xa):Prop where
 v:n.2.2.1.length=n.2.1.length
 p:n.2.2.2.1.length=n.2.1.length
 t:n.2.2.2.2.length=n.2.1.length
 i:Un n.2.2.2.1.length n.2.2.2.1=true
 ne:∀ l ∈ n.2.2.1,l≠[]
theorem Tk.par {n:Xa} (h:Tk n) {ps:List Int} (hp:ps ∈ n.2.2.2.1):∀ p ∈ ps,0≤p∧p<(n.2.2.1.length:Int):=by
 have:=Zvn h.i ps hp
 rw [h.p] at this
 rw [h.v];exact this
theorem Zrd {N W:Nat} {n:Xa} (hs:W6 n W) (he:Tk n):∀ (l:List (List QV)) (k:Nat),n.2.2.2.2.drop k=l→k≤n.2.1.length→Zbo N n l k=if Ur n.2.2.1 n.2.2.2.1 n.2.2.2.2 l.length k=0 then Zbp N n n.2.2.2.2 else some (Ur n.2.2.1 n.2.2.2.1 n.2.2.2.2 l.length k)
 | [],k,_,_=>by rw [Zbo.eq_1];rfl
 | t :: l,k,d,o=>by
  have q:=he.t;have r:=he.v;have s:=he.p
  have b:k<n.2.2.2.2.length:=by
   rcases cO k n.2.2.2.2.length with h | h
   ·exact h
   ·rw [aG h] at d;cases d
  have c:=aL b
  rw [d] at c
  obtain ⟨i,g⟩:=List.cons.inj c
  have e:k<n.2.2.1.length:=by omega
  have kp:k<n.2.2.2.1.length:=by omega
  have j:=Zr7 n.2.2.1 (n.2.2.2.1[k]) 1 (by omega)
  have m:=hs.vl _ (aD e)
  have u:=Zop j m
  have f:Zh9 n (k:Int)=some (Yw n.2.2.1 n.2.2.2.1[k] 1:Int):=by
   rw [Zh9,Zu kp,oB]
   exact Zw6 n hs.vl _ 1 (by omega) (he.par (aD kp))
  rw [Zbo.eq_2]
  have a:Zh9 (n.1,n.2.1,n.2.2.1,n.2.2.2.1,n.2.2.2.2) (k:Int)=some (Yw n.2.2.1 n.2.2.2.1[k] 1:Int):=f
  rw [a,oB,Zu e,oB,← bQ,Zr (by omega),nC,Ur,X4 kp,X4 e,X4 b,← i]
  generalize Yw n.2.2.1 n.2.2.2.1[k] 1 * n.2.2.1[k].length=rc at *
  by_cases h1:65536<rc
  ·rw [if_pos (dT (by omega)),if_pos h1,if_neg (by decide)]
  ·rw [if_neg (dF (by omega)),if_neg h1]
   by_cases h2:rc=t.length
   ·rw [if_neg (by rw [decide_eq_true (by omega)];decide),if_neg (show ¬ rc≠t.length from fun h=>h h2)]
    exact Zrd hs he l (k+1) g.symm (by omega)
   ·rw [if_pos (by rw [decide_eq_false (by omega)];decide),if_pos h2,if_neg (by decide)]
theorem Z0w {N W:Nat} {n:Xa} (hN:1048577<N) (hs:W6 n W) (he:Tk n):∀ (m fuel v:Nat),m+v=n.2.1.length→m<fuel→
  Zb5 N n (n.2.2.1.map fun l=>(l.length:Int)) fuel (v:Int)=if Ur n.2.2.1 n.2.2.2.1 n.2.2.2.2 m v=0 then Za1 N n (n.2.2.1.map fun l=>(l.length:Int)) N 0 else some (Ur n.2.2.1 n.2.2.2.1 n.2.2.2.2 m v)
 | 0,0,v,_,h=>by omega
 | 0,fuel+1,v,c,_=>by
  rw [Zb5.eq_2,if_neg (dF (by omega))];rfl
 | m+1,0,v,_,h=>by omega
 | m+1,fuel+1,v,c,i=>by
  have j:=he.t;have k:=he.v;have o:=he.p;have g:=hs.nm
  have b:v<n.2.2.2.2.length:=by omega
  have a:v<n.2.2.1.length:=by omega
  have kp:v<n.2.2.2.1.length:=by omega
  have d:=Zr7 n.2.2.1 (n.2.2.2.1[v]) 1 (by omega)
  have e:=hs.vl _ (aD a)
  have f:0<n.2.2.1[v].length:=cB.2 (he.ne _ (aD a))
  have q:=Zop d e
  rw [Zb5.eq_2,if_pos (dT (by omega)),Zu kp,oB,Z5b hs.vl he.ne (he.par (aD kp)) (hs.pn.ls _ (aD kp)) hN,oB,Zpf a,oB,Z8f f,oB,Ur,X4 kp,X4 a,X4 b,← bQ,Zr (by omega)]
  generalize Yw n.2.2.1 n.2.2.2.1[v] 1 * n.2.2.1[v].length=rc at *
  by_cases h3:65536<rc
  ·rw [if_pos (dT (by omega)),if_pos h3,if_neg (by decide)]
  ·rw [if_neg (dF (by omega)),if_neg h3,Zu b,oB]
   by_cases h4:rc=n.2.2.2.2[v].length
   ·rw [if_neg (by rw [decide_eq_true (by omega)];decide),if_neg (show ¬ rc≠n.2.2.2.2[v].length from fun h=>h h4),Zr (by omega)]
    exact Z0w hN hs he m fuel (v+1) (by omega) (by omega)
   ·rw [if_pos (by rw [decide_eq_false (by omega)];decide),if_pos h4,if_neg (by decide)]
def W8 (x:QV):Bool:=decide (Xm x<0)||decide (1<Xm x)
theorem Zyo {a b:Rat}:0<Zbb a b↔b<a:=by
 rw [Zbb]
 by_cases h:a<b
 ·rw [if_pos h]
  constructor
  ·intro c;omega
  ·intro c;exact absurd (Rat.le_of_lt c) (Rat.not_le.2 h)
 ·rw [if_neg h]
  by_cases c:b<a
  ·simp [c]
  ·simp [c]
theorem Zox {a b:Rat}:Zbb a b=0↔a=b:=by
 rw [Zbb]
 constructor
 ·intro h
  split at h
  ·cases h
  ·split at h
   ·cases h
   ·rename_i c d
    exact Rat.le_antisymm (gU.1 d) (gU.1 c)
 ·rintro rfl
  rw [if_neg jZ,if_neg jZ]
theorem Zrc {N:Nat} (hr:Xg N 8):Ze6 N=some (Z2 1):=by
 rw [Ze6,Z6p (by omega) (by omega) (hr.mono (by omega)),oB,if_neg (by decide)]
 have:((1:Int):Rat) / ((1:Int):Rat)=1:=div_one _
 rw [this]
theorem Z0n {N:Nat} (hr:Xg N 8):Zi7 N=some (Z2 1):=by
 rw [Zi7,Z1n hr];rfl
theorem Zpa:RV 1 (Z2 1):=Zcf (by rw [Zrs];omega)
theorem Z7x {N k:Nat} {x:QV} (hx:RV k x) (hr:Xg N (2 * k+16)):Zh7 N x=some (W8 x):=by
 have c:Zhw N ((x.1.1,x.1.2),x.2)=some (Zed (Xm x)):=Z6t hx (hr.mono (by omega))
 rw [Zh7,c,oB,W8]
 by_cases h:Xm x<0
 ·rw [if_pos (dT (Zoz.2 h)),Zh8,decide_eq_true h,Bool.true_or]
 ·rw [if_neg (dF (fun d=>h (Zoz.1 d))),decide_eq_false h,Bool.false_or,Zrc (hr.mono (by omega)),oB,Zuu (a:=((x.1.1,x.1.2),x.2)) (b:=Z2 1) hx Zpa (hr.mono (by omega)),oB,Zh8,Te]
  congr 1
  exact decide_eq_decide.2 Zyo
theorem Z9n {N k:Nat} {x:QV} (hx:RV k x) (hr:Xg N (2 * k+16)):Zi8 N x=some (W8 x):=by
 have c:Ziz N ((x.1.1,x.1.2),x.2)=some (Zed (Xm x)):=Z9h hx (hr.mono (by omega))
 rw [Zi8,c,oB,W8]
 by_cases h:Xm x<0
 ·rw [if_pos (dT (Zoz.2 h)),Zi9,decide_eq_true h,Bool.true_or]
 ·rw [if_neg (dF (fun d=>h (Zoz.1 d))),decide_eq_false h,Bool.false_or,Z0n (hr.mono (by omega)),oB,Zz0 (a:=((x.1.1,x.1.2),x.2)) (b:=Z2 1) hx Zpa (hr.mono (by omega)),oB,Zi9,Te]
  congr 1
  exact decide_eq_decide.2 Zyo
def W3 (x:QV):QV:=if Zb x.2=0 then (x.1,[1]) else x
theorem Zux {x:QV} (h:Vc x):Vc (W3 x):=by
 rw [W3];split
 ·exact ⟨h.1,.cons (by decide) .nil⟩
 ·exact h
theorem Zqr (x:QV):Xm (W3 x)=Xm x:=by
 rw [W3];split
 ·rename_i h
  rw [Xm,Xm]
  show mkRat (Zz x.1) (Yf [1])=mkRat (Zz x.1) (Yf x.2)
  rw [Yf,Yf,if_pos h]
  congr 1
 ·rfl
theorem Z6j (x:QV):W8 (W3 x)=W8 x:=by rw [W8,W8,Zqr]
theorem Z6i (x:QV):max (W3 x).1.2.length (W3 x).2.length≤max x.1.2.length x.2.length+1:=by
 rw [W3];split
 ·show max x.1.2.length [(1:Int)].length≤_
  simp only [aH];omega
 ·omega
theorem Zrr:∀ l:List QV,2 * l.length≤Xz l
 | []=>by simp [Xz]
 | a :: l=>by rw [Xz,nC];have:=Zrr l;omega
theorem Zrq:∀ l:List QV,Xz (l.map W3)≤Xz l+l.length
 | []=>by simp [Xz]
 | a :: l=>by
  rw [cP,Xz,Xz,nC]
  have:=Zrq l;have:=Z6i a;omega
theorem Zyp (a b:List QV):Xz (a++b)=Xz a+Xz b:=by
 induction a with
 | nil=>simp [Xz]
 | cons x a c=>rw [List.cons_append,Xz,Xz,c];omega
theorem Zyt (l:List QV) (k:Nat):Xz (l.take k)≤Xz l:=by
 have:=Zyp (l.take k) (l.drop k)
 rw [fP] at this;omega
theorem Zyq (l:List QV) (k:Nat):Xz (l.drop k)≤Xz l:=by
 have:=Zyp (l.take k) (l.drop k)
 rw [fP] at this;omega
theorem Zys {l:List QV} {x:QV} (h:x ∈ l):max x.1.2.length x.2.length≤Xz l:=by
 induction l with
 | nil=>simp at h
 | cons y l a=>
  rw [Xz]
  rcases aP.1 h with rfl | h
  ·omega
  ·have:=a h;omega
theorem Zu2 {N k:Nat} {x:QV} (h:Vc x) (hk:max x.1.2.length x.2.length≤k) (hr:Xg N k):Zda N x=some (W3 x):=by
 obtain ⟨a,b⟩:=hr
 rw [Zda,Zri h.2 (by omega) (by omega),oB,W3]
 by_cases h0:Zb x.2=0
 ·rw [h0,Ve,if_pos (by decide),if_pos rfl,Zl3 (by decide) (by omega),oB,Zh4,show (1:Int).toNat=1 from rfl,Qx]
 ·have:=T9 h0
  rw [if_neg (dF (by omega)),if_neg h0,Zh4]
theorem Zu3 {N W:Nat} (hr:Xg N W):∀ (l out:List QV),(∀ x ∈ l,Vc x)→Xz l≤W→out.length+l.length≤1048576→Zdb N l out=some (out++l.map W3)
 | [],out,_,_,_=>by rw [Zdb.eq_1];simp
 | x :: l,out,b,c,a=>by
  rw [Xz] at c
  rw [nC] at a
  have d:Zda N ((x.1.1,x.1.2),x.2)=some (W3 x):=Zu2 (x:=x) (b x aQ) (k:=W) (by omega) hr
  rw [Zdb.eq_2,d,oB,Zx (by simp only [aH,maxLen];omega),Zu3 hr l _ (fun y e=>b y (aO _ e)) (by omega) (by simp only [nA,aH];omega)]
  simp
theorem Zu4 {N W:Nat} {l:List QV} (hr:Xg N W) (hl:∀ x ∈ l,Vc x) (hq:Xz l≤W) (hlen:l.length≤1048576):Zh5 N l=some (l.map W3):=by
 rw [Zh5,Zx (by simp only [maxLen];omega),Zu3 hr l [] hl hq (by simpa using hlen),bL]
theorem Zvk {N W:Nat} (hr:Xg N (2 * W+16)):∀ (l:List QV) (k:Nat),(∀ x ∈ l,Vc x)→Xz l≤W→∃ j:Int,Zg0 N l k=some j∧(0≤j↔l.any W8=true)
 | [],k,_,_=>⟨-1,rfl,by simp⟩
 | x :: l,k,b,d=>by
  rw [Xz] at d
  have c:=b x aQ
  have a:Zh7 N ((x.1.1,x.1.2),x.2)=some (W8 x):=Z7x (x:=x) (Zcg c.1 c.2) (hr.mono (by omega))
  rw [Zg0.eq_2,a,oB,dP]
  cases W8 x with
  | true=>rw [if_pos rfl];exact ⟨_,rfl,by simp⟩
  | false=>
   rw [if_neg (by decide)]
   obtain ⟨j,a,e⟩:=Zvk hr l (k+1) (fun y f=>b y (aO _ f)) (by omega)
   exact ⟨j,a,by rw [e];simp⟩
def Qq (T:List (List QV)):Bool:=T.any fun t=>t.any W8
theorem Z2h (l:List QV):(l.map W3).any W8=l.any W8:=by
 induction l with
 | nil=>rfl
 | cons x l a=>rw [cP,dP,dP,a,Z6j]
theorem Zq9 {N W:Nat} {n:Xa} (hr:Xg N (4 * W+16)):∀ l:List (List QV),(∀ t ∈ l,t.length≤1048576∧Xz t≤W∧∀ x ∈ t,Vc x)→Zbp N n l=if Qq l=true then some 45 else Zc8 N n n.2.2.2.2 0
 | [],_=>by rw [Zbp.eq_1];rfl
 | t :: l,h=>by
  obtain ⟨d,e,c⟩:=h t aQ
  have i:=Zrr t
  have k:=Zrq t
  obtain ⟨j,f,a⟩:=Zvk (N:=N) (W:=2 * W) (hr.mono (by omega)) (t.map W3) 0 (fun x b=>by
   obtain ⟨y,g,rfl⟩:=cA.1 b
   exact Zux (c y g)) (by omega)
  rw [Zbp.eq_2,Zu4 (W:=W) (hr.mono (by omega)) c e d,oB,Zoj,Zok,f,oB,oB,Qq,dP]
  rw [Z2h] at a
  by_cases ho:t.any W8=true
  ·rw [if_pos (dT (a.2 ho)),ho,Bool.true_or,if_pos rfl]
  ·rw [if_neg (dF (fun h=>ho (a.1 h))),Bool.eq_false_iff.2 ho,Bool.false_or]
   exact Zq9 hr l fun x b=>h x (aO _ b)
theorem Zzx {N W:Nat} {n:Xa} (sz:List Int) (hr:Xg N (4 * W+16)) {v:Nat} (hv:v<n.2.2.2.2.length) (hvs:v<1048576) (h1:n.2.2.2.2[v].length≤1048576) (h2:Xz n.2.2.2.2[v]≤W) (h3:∀ x ∈ n.2.2.2.2[v],Vc x) (kk:Int→Option Int):∀ (m i:Nat),i≤n.2.2.2.2[v].length→n.2.2.2.2[v].length<m+i→
  Zf0 N n (v:Int) kk m (i:Int)=if ((n.2.2.2.2[v]).drop i).any W8=true then some 45 else kk ((v:Int)+1)
 | 0,i,b,c=>by omega
 | m+1,i,b,c=>by
  rw [Zf0.eq_2,Zu hv,oB]
  by_cases hi:i<n.2.2.2.2[v].length
  ·have a:=h3 _ (aD hi)
   have d:=Zys (aD hi)
   have e:Zi8 N (((n.2.2.2.2[v][i]).1.1,(n.2.2.2.2[v][i]).1.2),(n.2.2.2.2[v][i]).2)=some (W8 n.2.2.2.2[v][i]):=Z9n (x:=n.2.2.2.2[v][i]) (Zcg a.1 a.2) (hr.mono (by omega))
   rw [if_pos (dT (by omega)),Zu hi,oB,e,oB,aL hi,dP]
   cases W8 n.2.2.2.2[v][i] with
   | true=>rw [if_pos rfl,Bool.true_or,if_pos rfl]
   | false=>
    rw [if_neg (by decide),Bool.false_or,Zr (by omega)]
    exact Zzx sz hr hv hvs h1 h2 h3 kk m (i+1) (by omega) (by omega)
  ·rw [if_neg (dF (by omega)),aG (by omega),List.any_nil,if_neg (by decide),Zr (by omega)]
theorem Zzw {N W:Nat} {n:Xa} (sz:List Int) (hs:W6 n W) (he:n.2.2.2.2.length=n.2.1.length) (hr:Xg N (4 * W+16)) (hN:1048577<N):∀ (m fuel v:Nat),m+v=n.2.1.length→m<fuel→
  Za1 N n sz fuel (v:Int)=if Qq (n.2.2.2.2.drop v)=true then some 45 else Zb6 N n sz N 0
 | 0,0,v,_,h=>by omega
 | 0,fuel+1,v,c,_=>by
  rw [Za1.eq_2,if_neg (dF (by omega)),aG (by omega)];rfl
 | m+1,0,v,_,h=>by omega
 | m+1,fuel+1,v,c,e=>by
  have b:v<n.2.2.2.2.length:=by omega
  have d:=hs.nm
  have a:=aD b
  rw [Za1.eq_2,if_pos (dT (by omega)),show (0:Int)=((0:Nat):Int) from rfl,Zzx sz hr b (by omega) (hs.tl _ a) (hs.tq _ a) (hs.lim _ a) _ N 0 (by omega) (by have:=hs.tl _ a;omega),aR,aL b,Qq,dP]
  cases n.2.2.2.2[v].any W8 with
  | true=>rw [if_pos rfl,Bool.true_or,if_pos rfl]
  | false=>
   rw [if_neg (by decide),Bool.false_or]
   exact Zzw sz hs he hr hN m fuel (v+1) (by omega) (by omega)
def Up (c:Nat):Nat→List QV→Bool
 | 0,_=>true
 | m+1,l=>decide (W9 (l.take c)=1)&&Up c m (l.drop c)
def Zkd (c:Nat):Nat→List QV→List (List QV)
 | 0,_=>[]
 | m+1,l=>l.take c :: Zkd c m (l.drop c)
theorem Zt2 (N:Nat) (l:List QV) (c:Nat) (hc:0<c) (hl:l.length≤1048576) (hcs:c≤1048576):∀ (m fuel i:Nat),i+m * c=l.length→m<fuel→Zd7 N l (c:Int) fuel (i:Int)=some (Zkd c m (l.drop i))
 | 0,0,i,_,h=>by omega
 | 0,fuel+1,i,a,_=>by
  rw [Zd7.eq_2,if_neg (dF (by omega))];rfl
 | m+1,0,i,_,h=>by omega
 | m+1,fuel+1,i,a,b=>by
  have d:i+c+m * c=l.length:=by rw [bM,bR] at a;omega
  have e:(if ((l.drop i).length:Int)<(c:Int) then ((l.drop i).length:Int) else (c:Int))=(c:Int):=by
   rw [cG]
   by_cases h:((l.length - i:Nat):Int)<(c:Int)
   ·omega
   ·rw [if_neg h]
  rw [Zd7.eq_2,if_pos (dT (by omega)),aB,e,Zr (by omega),Zx (by omega),Zx (by omega),show (i:Int)+(c:Int)=((i+c:Nat):Int) by omega,Zt2 N l c hc hl hcs m fuel (i+c) (by omega) (by omega),oB,aB,Zkd,jP,show i+c - i=c by omega,eR]
theorem Z8n (l:List QV):W9 (l.map W3)=W9 l:=by
 rw [W9,W9,gB]
 congr 1
 exact dW fun x _=>Zqr x
theorem Zxv (c:Nat):∀ (m:Nat) (l:List QV),Up c m (l.map W3)=Up c m l
 | 0,l=>rfl
 | m+1,l=>by rw [Up,Up,← gY,← gZ,Z8n,Zxv c m]
theorem Zxb {N W:Nat} (hr:Xg N (4 * W+40)) (c:Nat) (b:Bool):∀ (m:Nat) (l:List QV),(∀ x ∈ l,Vc x)→Xz l≤W→Ze8 N (Zkd c m l) b=some (Up c m l)
 | 0,l,_,_=>rfl
 | m+1,l,e,j=>by
  have k:=Zyt l c
  have n:=Zyq l c
  obtain ⟨f,g⟩:=Zqt (N:=N) (l:=l.take c) (fun x d=>e x (eL d)) (hr.mono (by omega))
  rw [Zkd,Ze8.eq_2,f,oB,Zrc (hr.mono (by omega)),oB,Zuu (a:=Z2 _) (b:=Z2 1) (Zcf g) Zpa (hr.mono (by omega)),oB,Te,Te,Up]
  by_cases h:W9 (l.take c)=1
  ·rw [if_neg (by rw [Zox.2 h];decide),decide_eq_true h,Bool.true_and]
   exact Zxb hr c b m _ (fun x d=>e x (eH d)) (by omega)
  ·rw [if_pos (by rw [decide_eq_false (fun i=>h (Zox.1 i))];decide),decide_eq_false h,Bool.false_and];rfl
theorem Z7z {N W c m:Nat} {l:List QV} (hr:Xg N (4 * W+40)) (hl:∀ x ∈ l,Vc x) (hq:Xz l≤W) (hc:0<c) (hcs:c≤1048576) (hll:l.length≤1048576) (hm:m * c=l.length) (hN:1048577<N):Zkt N l (c:Int)=some (Up c m l):=by
 have a:m≤l.length:=by rw [← hm];exact dB m hc
 rw [Zkt,Zof,if_neg (dF (by omega)),Zoh,Zog,show (0:Int)=((0:Nat):Int) from rfl,Zt2 N l c hc hll hcs m N 0 (by omega) (by omega),oB,aR]
 exact Zxb hr c false m l hl hq
theorem Z07 {N W c:Nat} {l:List QV} (hr:Xg N (4 * W+40)) (hl:∀ x ∈ l,Vc x) (hq:Xz l≤W) (hc:0<c) (hcs:c≤1048576) (hll:l.length≤1048576) (hN:1048577<N):∀ (m fuel i:Nat),i+m * c=l.length→m<fuel→Zdp N l (c:Int) fuel (i:Int)=some (Up c m (l.drop i))
 | 0,0,i,_,h=>by omega
 | 0,fuel+1,i,e,_=>by
  rw [Zdp.eq_2,if_neg (dF (by omega))];rfl
 | m+1,0,i,_,h=>by omega
 | m+1,fuel+1,i,e,f=>by
  have n:i+c+m * c=l.length:=by rw [bM,bR] at e;omega
  have o:=Zyt (l.drop i) c
  have p:=Zyq l i
  have d:∀ x ∈ (l.drop i).take c,Vc x:=fun x g=>hl x (eH (eL g))
  obtain ⟨_,j⟩:=Zqt (N:=N) (l:=(l.drop i).take c) d (hr.mono (by omega))
  have k:((l.drop i).take c).length≤1048576:=by rw [nK,cG];omega
  rw [Zdp.eq_2,if_pos (dT (by omega)),Zr (by omega),Zx (by omega),show (i:Int)+(c:Int)=((i+c:Nat):Int) by omega,aB,aB,jP,show i+c - i=c by omega,Z9i d (by omega) (by omega) (hr.mono (by omega)),oB,Z0n (hr.mono (by omega)),oB,Zz0 (a:=Z2 _) (b:=Z2 1) (Zcf j) Zpa (hr.mono (by omega)),oB,Te,Te,Up]
  by_cases h:W9 ((l.drop i).take c)=1
  ·rw [if_neg (by rw [Zox.2 h];decide),decide_eq_true h,Bool.true_and,eR]
   exact Z07 hr hl hq hc hcs hll hN m fuel (i+c) (by omega) (by omega)
  ·rw [if_pos (by rw [decide_eq_false (fun f=>h (Zox.1 f))];decide),decide_eq_false h,Bool.false_and]
def Zbc (vals:List R8) (P:List R2) (T:List (List QV)):Nat→Nat→Int
 | 0,_=>0
 | m+1,v=>if Up (vals.getD v []).length (Yw vals (P.getD v []) 1) (T.getD v [])=true then Zbc vals P T m (v+1) else 46
theorem Zpd {vals:List R8} {P:List R2} {T:List (List QV)}:∀ (m v:Nat),Ur vals P T m v=0→∀ i,v≤i→i<v+m→Yw vals (P.getD i []) 1 * (vals.getD i []).length=(T.getD i []).length∧(T.getD i []).length≤65536
 | 0,v,_,i,a,b=>by omega
 | m+1,v,h,i,a,b=>by
  rw [Ur] at h
  by_cases h3:65536<Yw vals (P.getD v []) 1 * (vals.getD v []).length
  ·rw [if_pos h3] at h;cases h
  ·rw [if_neg h3] at h
   by_cases h4:Yw vals (P.getD v []) 1 * (vals.getD v []).length=(T.getD v []).length
   ·rw [if_neg (show ¬ Yw vals (P.getD v []) 1 * (vals.getD v []).length≠(T.getD v []).length from fun h=>h h4)] at h
    rcases cO v i with c | c
    ·exact Zpd m (v+1) h i (by omega) (by omega)
    ·have:i=v:=by omega
     subst this
     exact ⟨h4,by omega⟩
   ·rw [if_pos h4] at h;cases h
theorem Zre {N W:Nat} {n:Xa} (hs:W6 n W) (he:Tk n) (hsh:Ur n.2.2.1 n.2.2.2.1 n.2.2.2.2 n.2.1.length 0=0) (hr:Xg N (8 * W+40)) (hN:1048577<N):∀ (l:List (List QV)) (k:Nat),n.2.2.2.2.drop k=l→k≤n.2.1.length→Zc8 N n l k=some (Zbc n.2.2.1 n.2.2.2.1 n.2.2.2.2 l.length k)
 | [],k,_,_=>rfl
 | t :: l,k,f,w=>by
  have A:=he.t;have B:=he.v;have C:=he.p
  have a:k<n.2.2.2.2.length:=by
   rcases cO k n.2.2.2.2.length with h | h
   ·exact h
   ·rw [aG h] at f;cases f
  have e:=aL a
  rw [f] at e
  obtain ⟨b,g⟩:=List.cons.inj e
  have c:k<n.2.2.1.length:=by omega
  have kp:k<n.2.2.2.1.length:=by omega
  have d:t ∈ n.2.2.2.2:=by rw [b];exact aD a
  have j:=hs.vl _ (aD c)
  have o:0<n.2.2.1[k].length:=cB.2 (he.ne _ (aD c))
  obtain ⟨i,q⟩:=Zpd _ 0 hsh k (by omega) (by omega)
  rw [X4 c,X4 a,← b] at i
  rw [X4 a,← b] at q
  have r:=hs.tq t d
  have u:=Zrr t
  have D:=Zrq t
  rw [Zc8.eq_2,Zu c,oB,Zu4 (W:=W) (hr.mono (by omega)) (hs.lim t d) r (hs.tl t d),oB,
   Z7z (W:=2 * W) (m:=Yw n.2.2.1 (n.2.2.2.1.getD k []) 1) (hr.mono (by omega)) (fun x b=>by
    obtain ⟨y,s,rfl⟩:=cA.1 b
    exact Zux (hs.lim t d y s)) (by omega) o j (by rw [aE];omega) (by rw [aE];exact i) hN,oB,Zxv,nC,Zbc,X4 c,X4 a,← b]
  cases Up n.2.2.1[k].length (Yw n.2.2.1 (n.2.2.2.1.getD k []) 1) t with
  | true=>
   rw [if_neg (by decide),if_pos rfl]
   exact Zre hs he hsh hr hN l (k+1) g.symm (by omega)
  | false=>rw [if_pos (by decide),if_neg (by decide)]
theorem Z0z {N W:Nat} {n:Xa} (hs:W6 n W) (he:Tk n) (hsh:Ur n.2.2.1 n.2.2.2.1 n.2.2.2.2 n.2.1.length 0=0) (hr:Xg N (8 * W+40)) (hN:1048577<N):∀ (m fuel v:Nat),m+v=n.2.1.length→m<fuel→
  Zb6 N n (n.2.2.1.map fun l=>(l.length:Int)) fuel (v:Int)=some (Zbc n.2.2.1 n.2.2.2.1 n.2.2.2.2 m v)
 | 0,0,v,_,h=>by omega
 | 0,fuel+1,v,i,_=>by
  rw [Zb6.eq_2,if_neg (dF (by omega))];rfl
 | m+1,0,v,_,h=>by omega
 | m+1,fuel+1,v,i,r=>by
  have s:=he.t;have u:=he.v;have w:=he.p;have o:=hs.nm
  have a:v<n.2.2.2.2.length:=by omega
  have b:v<n.2.2.1.length:=by omega
  have d:=aD a
  have j:=hs.vl _ (aD b)
  have e:0<n.2.2.1[v].length:=cB.2 (he.ne _ (aD b))
  obtain ⟨f,k⟩:=Zpd _ 0 hsh v (by omega) (by omega)
  rw [X4 b,X4 a] at f
  rw [X4 a] at k
  have q:Yw n.2.2.1 (n.2.2.2.1.getD v []) 1≤n.2.2.2.2[v].length:=by rw [← f];exact dB _ e
  have g:=Z07 (N:=N) (W:=W) (c:=n.2.2.1[v].length) (l:=n.2.2.2.2[v]) (hr.mono (by omega)) (hs.lim _ d) (hs.tq _ d) e j (hs.tl _ d) hN (Yw n.2.2.1 (n.2.2.2.1.getD v []) 1) N 0 (by omega) (by omega)
  rw [aR,show ((0:Nat):Int)=0 from rfl] at g
  rw [Zb6.eq_2,if_pos (dT (by omega)),Zu a,oB,Zpf b,oB,Zn7,g,oB,Zbc,X4 b,X4 a]
  cases Up n.2.2.1[v].length (Yw n.2.2.1 (n.2.2.2.1.getD v []) 1) n.2.2.2.2[v] with
  | true=>
   rw [if_neg (by decide),if_pos rfl,Zr (by omega)]
   exact Z0z hs he hsh hr hN m fuel (v+1) (by omega) (by omega)
  | false=>rw [if_pos (by decide),if_neg (by decide)]
structure Y8 (N:Nat) (n:Xa):Prop where
 ev:Tk n
 le:n.2.1.length≤1024
 nm:Ts n.2.1 n.2.2.1 n.2.1.length 0=0
 sh:Ur n.2.2.1 n.2.2.2.1 n.2.2.2.2 n.2.1.length 0=0
 en:Qq n.2.2.2.2=false
 su:Zbc n.2.2.1 n.2.2.2.1 n.2.2.2.2 n.2.1.length 0=0
 tw:Ti n.2.2.2.1=false
 or:∃ l,Zbg N n.2.2.2.1=some (l,0)∧Q7 N n.2.2.2.1=some l∧Q6 N n.2.2.2.1=some 0∧T3 n.2.2.2.1 l∧l.length=n.2.2.2.1.length
theorem Z49 {N W:Nat} {n:Xa} (hs:W6 n W) (hr:Xg N (8 * W+40)) (hN:2000000<N):∃ e,Sb N n=some e∧Zdn N n=some e∧(e=0→Y8 N n):=by
 have L:=hs.nm
 -- shapes of the lists
 have J:∀ b:Bool,(b=true→Zbn N n b=some 60∧Zdo N n b=some 60):=fun b u=>by
  subst u
  exact ⟨by rw [Zbn,if_pos rfl],by rw [Zdo,if_pos rfl]⟩
 have a:=J true rfl
 rw [Sb,Zdn]
 by_cases hv:n.2.2.1.length=n.2.1.length
 ·by_cases hp:n.2.2.2.1.length=n.2.1.length
  ·by_cases ht:n.2.2.2.2.length=n.2.1.length
   ·rw [if_neg (by rw [decide_eq_true (by omega)];decide),if_neg (by rw [decide_eq_true (by omega)];decide),if_neg (by rw [decide_eq_true (by omega)];decide),if_neg (by rw [decide_eq_true (by omega)];decide),show (!decide ((n.2.2.2.2.length:Int)=(n.2.1.length:Int)))=false by rw [decide_eq_true (by omega)];rfl,Zbn,Zdo,if_neg (show ¬ (false=true) by decide),if_neg (show ¬ (false=true) by decide)]
    by_cases hk:1024<n.2.1.length
    ·rw [if_pos (dT (by omega)),if_pos (dT (by omega))]
     exact ⟨4,rfl,rfl,fun h=>by cases h⟩
    ·rw [if_neg (dF (by omega)),if_neg (dF (by omega))]
     have v:Ze5 (n.1,n.2.1,n.2.2.1,n.2.2.2.1,n.2.2.2.2)=some (Ts n.2.1 n.2.2.1 n.2.1.length 0):=Zxd n hv
     have j:=Z0h N n hv (by omega) hs.vl (by omega) n.2.1.length N 0 (by omega) (by omega)
     rw [show ((0:Nat):Int)=0 from rfl] at j
     rw [v,oB,j]
     by_cases hnms:Ts n.2.1 n.2.2.1 n.2.1.length 0=0
     ·rw [if_neg (by rw [decide_eq_true hnms];decide),if_pos hnms]
      obtain ⟨f,w⟩:∃ f,N - n.2.1.length=f+1:=⟨N - n.2.1.length - 1,by omega⟩
      rw [w,S8.eq_2,if_neg (dF (by omega))]
      have k:∀ l ∈ n.2.2.1,l≠[]:=fun l x=>by
       obtain ⟨i,y,rfl⟩:=iH.1 x
       have:=(Zxf _ 0 hnms i (by omega) (by omega)).1
       rw [X4 y] at this;exact this
      have fin:∀ e,Qy N n.2.2.2.1=some e→Q6 N n.2.2.2.1=some e→e≠0→∃ e,((Qy N n.2.2.2.1).bind fun r_17=>if (!decide (r_17=0))=true then some r_17 else Zbo N n n.2.2.2.2 0)=some e∧((Q6 N n.2.2.2.1).bind fun r_76=>if (!decide (r_76=0))=true then some r_76 else (Zf3 N (n.1,n.2.1,n.2.2.1,n.2.2.2.1,n.2.2.2.2)).bind fun g=>Zb5 N n g N 0)=some e∧(e=0→Y8 N n):=fun e A B c=>by
       rw [A,B,oB,oB,if_pos (by rw [decide_eq_false c];decide),if_pos (by rw [decide_eq_false c];decide)]
       exact ⟨e,rfl,rfl,fun h=>absurd h c⟩
      rcases Z1i hs.pn hN with ⟨e,D,R,c⟩ | ⟨_,_,l,_,_,_,_,D,R⟩ | ⟨C,E,l,F,m,M,o,D,R⟩
      ·exact fin e (by rw [Qy,D];rfl) R (by rcases c with h | h <;> omega)
      ·exact fin 42 (by rw [Qy,D];rfl) R (by decide)
      ·have G:Qy N n.2.2.2.1=some 0:=by rw [Qy,D];rfl
       have d:Tk n:=⟨hv,hp,ht,C,k⟩
       have p:Zf3 N (n.1,n.2.1,n.2.2.1,n.2.2.2.1,n.2.2.2.2)=some (n.2.2.1.map fun l=>(l.length:Int)):=Z9y (n:=n) (by omega) (by omega)
       have H:=Zrd (N:=N) hs d n.2.2.2.2 0 (by simp) (by omega)
       have q:=Z0w (N:=N) (by omega) hs d n.2.1.length N 0 (by omega) (by omega)
       rw [show ((0:Nat):Int)=0 from rfl] at q
       rw [G,R,oB,oB,if_neg (by decide),if_neg (by decide),p,oB,H,q,ht]
       by_cases hsh:Ur n.2.2.1 n.2.2.2.1 n.2.2.2.2 n.2.1.length 0=0
       ·have I:=Zq9 (N:=N) (n:=n) (W:=W) (hr.mono (by omega)) n.2.2.2.2 (fun t h=>⟨hs.tl t h,hs.tq t h,hs.lim t h⟩)
        have r:=Zzw (N:=N) (n.2.2.1.map fun l=>(l.length:Int)) hs ht (hr.mono (by omega)) (by omega) n.2.1.length N 0 (by omega) (by omega)
        rw [show ((0:Nat):Int)=0 from rfl,aR] at r
        rw [if_pos hsh,if_pos hsh,I,r]
        by_cases hen:Qq n.2.2.2.2=true
        ·rw [if_pos hen,if_pos hen]
         exact ⟨45,rfl,rfl,fun h=>by cases h⟩
        ·have K:=Zre (N:=N) hs d hsh hr (by omega) n.2.2.2.2 0 (by simp) (by omega)
         have s:=Z0z (N:=N) hs d hsh hr (by omega) n.2.1.length N 0 (by omega) (by omega)
         rw [show ((0:Nat):Int)=0 from rfl] at s
         rw [if_neg hen,if_neg hen,K,s,ht]
         exact ⟨_,rfl,rfl,fun h=>⟨d,by omega,hnms,hsh,Bool.eq_false_iff.2 hen,h,E,l,D,F,R,m,o⟩⟩
       ·rw [if_neg hsh,if_neg hsh]
        exact ⟨_,rfl,rfl,fun h=>absurd h hsh⟩
     ·rw [if_pos (by rw [decide_eq_false hnms];decide),if_neg hnms]
      exact ⟨_,rfl,rfl,fun h=>absurd h hnms⟩
   ·rw [if_neg (by rw [decide_eq_true (by omega)];decide),if_neg (by rw [decide_eq_true (by omega)];decide),if_neg (by rw [decide_eq_true (by omega)];decide),if_neg (by rw [decide_eq_true (by omega)];decide),decide_eq_false (by omega)]
    exact ⟨60,a.1,a.2,fun h=>by cases h⟩
  ·rw [if_neg (by rw [decide_eq_true (by omega)];decide),if_pos (by rw [decide_eq_false (by omega)];decide),if_neg (by rw [decide_eq_true (by omega)];decide),if_pos (by rw [decide_eq_false (by omega)];decide)]
   exact ⟨60,a.1,a.2,fun h=>by cases h⟩
 ·rw [if_pos (by rw [decide_eq_false (by omega)];decide),if_pos (by rw [decide_eq_false (by omega)];decide)]
  exact ⟨60,a.1,a.2,fun h=>by cases h⟩
def cnt (n:Xa) (v:Nat):Nat:=(n.2.2.1.getD v []).length
def Qk (n:Xa) (w:List Int):List Int→Nat→Nat
 | [],r=>r
 | p :: ps,r=>Qk n w ps (r * cnt n p.toNat+(w.getD p.toNat 0).toNat)
def Vu (n:Xa) (w:List Int) (v:Nat):Nat:=Qk n w (n.2.2.2.1.getD v []) 0
def Vv (n:Xa) (w:List Int) (v:Nat):List QV:=((n.2.2.2.2.getD v []).drop (Vu n w v * cnt n v)).take (cnt n v)
structure Us (n:Xa) (w:List Int):Prop where
 len:w.length=n.2.1.length
 ok:∀ i,i<w.length→0≤w.getD i 0∧w.getD i 0<(cnt n i:Int)
theorem Zt5 {n:Xa} (he:Tk n) {v:Nat} (hv:v<n.2.1.length):0<cnt n v:=by
 have a:v<n.2.2.1.length:=by rw [he.v];exact hv
 rw [cnt,X4 a]
 exact cB.2 (he.ne _ (aD a))
theorem Z0s {n:Xa} (he:Tk n):∀ (ps:List Int) (k:Nat),(∀ p ∈ ps,0≤p∧p<(n.2.1.length:Int))→k≤1099511627776→k≤Yw n.2.2.1 ps k
 | [],k,_,_=>Nat.le_refl _
 | p :: ps,k,a,b=>by
  have f:=a p aQ
  have c:0<(n.2.2.1.getD p.toNat []).length:=Zt5 he (by omega)
  rw [Yw]
  have d:k≤min (k * (n.2.2.1.getD p.toNat []).length) 1099511627776:=Nat.le_min.2 ⟨dB k c,b⟩
  exact aY d (Z0s he ps _ (fun q e=>a q (aO _ e)) (jJ _ _))
theorem Zr6 {n:Xa} (he:Tk n) {w:List Int} (hw:Us n w) {p:Int} {ps:List Int} {r k:Nat} (hp:∀ q ∈ p :: ps,0≤q∧q<(n.2.1.length:Int)) (hr:r<k) (hk:k≤65536) (hb:Yw n.2.2.1 (p :: ps) k≤65536):
  r * cnt n p.toNat+(w.getD p.toNat 0).toNat<k * cnt n p.toNat∧k * cnt n p.toNat≤65536∧Yw n.2.2.1 ps (k * cnt n p.toNat)≤65536:=by
 have d:=hp p aQ
 have e:=hw.ok p.toNat (by rw [hw.len];omega)
 have f:r * cnt n p.toNat+cnt n p.toNat≤k * cnt n p.toNat:=by
  have:=bH (cnt n p.toNat) (show r+1≤k by omega)
  rwa [bM,bR] at this
 rw [Yw] at hb
 have a:=Z0s he ps (min (k * (n.2.2.1.getD p.toNat []).length) 1099511627776) (fun q b=>hp q (aO _ b)) (jJ _ _)
 have c:k * (n.2.2.1.getD p.toNat []).length≤1099511627776:=by
  rcases Nat.le_total (k * (n.2.2.1.getD p.toNat []).length) 1099511627776 with h | h
  ·exact h
  ·rw [dL h] at a hb;omega
 rw [aS c] at a hb
 exact ⟨by omega,aY a hb,hb⟩
theorem Z0p {n:Xa} (he:Tk n) {w:List Int} (hw:Us n w):∀ (ps:List Int) (r k:Nat),(∀ q ∈ ps,0≤q∧q<(n.2.1.length:Int))→r<k→k≤65536→Yw n.2.2.1 ps k≤65536→Qk n w ps r<Yw n.2.2.1 ps k
 | [],r,k,_,a,_,_=>a
 | p :: ps,r,k,b,a,d,e=>by
  obtain ⟨f,c,g⟩:=Zr6 he hw b a d e
  have:=Z0p he hw ps _ _ (fun q i=>b q (aO _ i)) f c g
  rw [Qk,Yw,aS (by rw [cnt] at c;omega)]
  exact this
section
variable {N:Nat} {n:Xa} (hf:Y8 N n)
include hf
theorem Y8.pars {v:Nat} (hv:v<n.2.1.length):∀ p ∈ n.2.2.2.1.getD v [],0≤p∧p<(n.2.1.length:Int):=fun p a=>by
 have b:v<n.2.2.2.1.length:=by rw [hf.ev.p];exact hv
 rw [X4 b] at a
 have:=hf.ev.par (aD b) p a
 rwa [hf.ev.v] at this
theorem Y8.rows {v:Nat} (hv:v<n.2.1.length):Yw n.2.2.1 (n.2.2.2.1.getD v []) 1 * cnt n v=(n.2.2.2.2.getD v []).length∧(n.2.2.2.2.getD v []).length≤65536∧Yw n.2.2.1 (n.2.2.2.1.getD v []) 1≤65536:=by
 have a:=Zpd _ 0 hf.sh v (aT _) (by omega)
 have b:=Zt5 hf.ev hv
 refine ⟨a.1,a.2,?_⟩
 have c:Yw n.2.2.1 (n.2.2.2.1.getD v []) 1≤Yw n.2.2.1 (n.2.2.2.1.getD v []) 1 * cnt n v:=dB _ b
 have d:Yw n.2.2.1 (n.2.2.2.1.getD v []) 1 * cnt n v≤65536:=by
  have:=a.1;rw [cnt,this];exact a.2
 omega
theorem Y8.row {w:List Int} (hw:Us n w) {v:Nat} (hv:v<n.2.1.length):Vu n w v * cnt n v+cnt n v≤(n.2.2.2.2.getD v []).length∧Vu n w v<65536:=by
 obtain ⟨d,e,a⟩:=hf.rows hv
 have b:=Z0p hf.ev hw _ 0 1 (hf.pars hv) (by omega) (by omega) a
 have c:=bH (cnt n v) (show Vu n w v+1≤Yw n.2.2.1 (n.2.2.2.1.getD v []) 1 from b)
 rw [bM,bR,d] at c
 exact ⟨c,aK b a⟩
theorem Y8.rowT_len {w:List Int} (hw:Us n w) {v:Nat} (hv:v<n.2.1.length):(Vv n w v).length=cnt n v:=by
 have:=(hf.row hw hv).1
 rw [Vv,nK,cG];omega
theorem Y8.ent {v:Nat} (hv:v<n.2.1.length):∀ x ∈ n.2.2.2.2.getD v [],0≤Xm x∧Xm x≤1:=fun x b=>by
 have c:v<n.2.2.2.2.length:=by rw [hf.ev.t];exact hv
 rw [X4 c] at b
 have d:=hf.en
 rw [Qq,iZ] at d
 have e:=d _ (aD c)
 rw [Bool.not_eq_true,iZ] at e
 have a:=e x b
 simp only [W8,Bool.or_eq_true,decide_eq_true_eq,not_or] at a
 exact ⟨gU.1 a.1,gU.1 a.2⟩
end
theorem Zon {n:Xa} {w:List Int} {v:Nat} {x:QV} (h:x ∈ Vv n w v):x ∈ n.2.2.2.2.getD v []:=eH (eL h)
theorem Z0o {n:Xa} {w:List Int} {v j:Nat} (hj:j<(Vv n w v).length):Zi (n.2.2.2.2.getD v []) ((Vu n w v * cnt n v+j:Nat):Int)=some (Vv n w v)[j]:=by
 have a:Vu n w v * cnt n v+j<(n.2.2.2.2.getD v []).length:=by
  rw [Vv,nK,cG] at hj;omega
 rw [Zu a]
 simp only [Vv,fC,List.getElem_drop]
section
variable {N W:Nat} {n:Xa} (hf:Y8 N n) (hs:W6 n W)
include hf hs
theorem Znj {v:Nat} (hv:v<n.2.1.length):∀ x ∈ n.2.2.2.2.getD v [],Vc x∧max x.1.2.length x.2.length≤W:=fun x a=>by
 have b:v<n.2.2.2.2.length:=by rw [hf.ev.t];exact hv
 rw [X4 b] at a
 have c:=hs.tq _ (aD b)
 exact ⟨hs.lim _ (aD b) x a,aY (Zys a) c⟩
end
theorem Zqg {N W:Nat} {n:Xa} (hf:Y8 N n) (hs:W6 n W) (hr:Xg N (8 * W+40)) (hN:2000000<N):Sb N n=some 0:=by
 obtain ⟨l,b,k,m,o,q⟩:=hf.or
 have c:=hf.ev.v;have r:=hf.ev.p;have a:=hf.ev.t;have j:=hf.le
 have d:Ze5 (n.1,n.2.1,n.2.2.1,n.2.2.2.1,n.2.2.2.2)=some (Ts n.2.1 n.2.2.1 n.2.1.length 0):=Zxd n c
 have e:Qy N n.2.2.2.1=some 0:=by rw [Qy,b];rfl
 have f:=Zrd (N:=N) hs hf.ev n.2.2.2.2 0 (by simp) (by omega)
 have g:=Zq9 (N:=N) (n:=n) (W:=W) (hr.mono (by omega)) n.2.2.2.2 (fun t h=>⟨hs.tl t h,hs.tq t h,hs.lim t h⟩)
 have i:=Zre (N:=N) hs hf.ev hf.sh hr (by omega) n.2.2.2.2 0 (by simp) (by omega)
 rw [Sb,if_neg (by rw [decide_eq_true (by omega)];decide),if_neg (by rw [decide_eq_true (by omega)];decide),show (!decide ((n.2.2.2.2.length:Int)=(n.2.1.length:Int)))=false by rw [decide_eq_true (by omega)];rfl,Zbn,if_neg (show ¬ (false=true) by decide),if_neg (dF (by omega)),
  d,oB,hf.nm,if_neg (by decide),e,oB,if_neg (by decide),f,a,if_pos hf.sh,g,hf.en,if_neg (by decide),i,a,hf.su]
theorem Z6u {N:Nat} (hr:Xg N 16):Zeu N ([]:List QV)=some (Z2 0):=by
 have:=(Zqt (N:=N) (l:=[]) (by simp) hr).1
 rwa [W9,dO,List.sum_nil] at this
/-! the document's loops -/
/-! a row's entries are 1 together -/
/-! parts side by side -/
def Su (n:Xa):List Int→Nat→Bool
 | [],_=>true
 | x :: l,k=>!decide (x<0)&&(!decide ((cnt n k:Int)≤x)&&Su n l (k+1))
theorem Zvl {n:Xa}:∀ (l:List Int) (k:Nat),Su n l k=true→∀ i,i<l.length→0≤l.getD i 0∧l.getD i 0<(cnt n (k+i):Int)
 | [],_,_,i,a=>by simp at a
 | x :: l,k,h,i,a=>by
  simp only [Su,Bool.and_eq_true,Bool.not_eq_true',decide_eq_false_iff_not] at h
  cases i with
  | zero=>rw [List.getD_cons_zero,bO];omega
  | succ i=>
   rw [List.getD_cons_succ,show k+(i+1)=k+1+i by omega]
   exact Zvl l (k+1) h.2.2 i (by simpa using a)
theorem Z60 {n:Xa} {w:List Int} (hl:w.length=n.2.1.length) (h:Su n w 0=true):Us n w:=⟨hl,fun i a=>by have:=Zvl w 0 h i a;rwa [cS] at this⟩
def Zbm (N:Nat) (ab:R0) (ac:List Int) (aa:Nat) (ah:Bool) (ai aj:List Int) (kk_L2:(Nat→Bool→R2→R2→Option (R1×Int))) (ak:R6):List Int→Int→Option (R1×Int)
  | [],ad=>(Zi ab.2.2.1 (aa:Int)).bind fun am=>(Zi ac (aa:Int)).bind fun an=>(Zi ak (i64.wrap ((i64.wrap (ad * (am.length:Int)))+an))).bind fun ae=>(Zda N ((ae.1.1,ae.1.2),ae.2)).bind fun af=>(Zhv N ((ah,ai),aj) ((af.1.1,af.1.2),af.2)).bind fun ag=>kk_L2 (aa+1) ag.1.1 ag.1.2 ag.2
  | al :: ao,ad=>(Zi ab.2.2.1 al).bind fun ap=>(Zi ac al).bind fun aq=>(Zbm N ab ac aa ah ai aj kk_L2 ak ao) (i64.wrap ((i64.wrap (ad * (ap.length:Int)))+aq))
def Zbl (N:Nat) (aa:R0) (af:List Int):List R6→Nat→Bool→R2→R2→Option (R1×Int)
  | [],ab,ac,ad,ae=>some (((ac,ad),ae),0)
  | ag :: ah,ab,ac,ad,ae=>(Zi aa.2.2.2.1 (ab:Int)).bind fun ai=>Zbm N aa af ab ac ad ae (Zbl N aa af ah) ag ai 0
def Zh3 (aa:Nat) (ab:Bool) (ac ad:List Int) (kk_L1:(Nat→Bool→R2→R2→Option (R1×Int))) (ae:Bool):Option (R1×Int):=
  if ae=true then (some (((false,([]:List Int)),([]:List Int)),3)) else (kk_L1 (aa+1) ab ac ad)
def Q2 (N:Nat) (aa:R0) (ac:List Int):List Int→Nat→Bool→R2→R2→Option (R1×Int)
  | [],ab,ad,ae,af=>(Ze6 N).bind fun ag=>Zbl N aa ac aa.2.2.2.2 0 ag.1.1 ag.1.2 ag.2
  | ah :: ai,ab,ad,ae,af=>if (decide (ah<0))=true then (Zh3 ab ad ae af (Q2 N aa ac ai) true) else ((Zi aa.2.2.1 (ab:Int)).bind fun aj=>Zh3 ab ad ae af (Q2 N aa ac ai) (decide ((aj.length:Int)≤ah)))
def Zh2 (N:Nat) (aa:R0) (ab:List Int):Option (R1×Int):=
  (Sb N (aa.1,aa.2.1,aa.2.2.1,aa.2.2.2.1,aa.2.2.2.2)).bind fun ac=>if (!decide (ac=0))=true then (some (((false,([]:List Int)),([]:List Int)),ac)) else (if (!decide ((ab.length:Int)=(aa.2.1.length:Int)))=true then (some (((false,([]:List Int)),([]:List Int)),60)) else (Q2 N aa ab ab 0 false ([]:List Int) ([]:List Int)))
theorem Z28 {N bf bg bh bi cu:Nat} {bj bk bm bn a1:Option Addr} {col:Zd} {w0:World} {ab:R0} {ak:R2} {r:(R1×Int)} (c1 c2:Nat) (hm:Zh2 N ab ak=some r) (cd:Sl Za.str col w0 bj bf ab.2.1) (au:Sl rV col w0 bk bg ab.2.2.1) (bt:Sl rP col w0 bm bh ab.2.2.2.1) (bo:Sl (Za.slice rQ) col w0 bn bi ab.2.2.2.2) (h1:Sl rI col w0 a1 cu ak):
    Calls prog 41 #[(.agg #[.string ab.1,.slice bj ab.2.1.length bf,.slice bk ab.2.2.1.length bg,.slice bm ab.2.2.2.1.length bh,.slice bn ab.2.2.2.2.length bi]),.slice a1 ak.length cu] w0 (Zl9 45 c1 c2 col w0 r):=by
 refine We (m:=103) func41 rfl rfl rfl ?_;rw [Zh2.eq_1] at hm;have aa:=St.start col w0;refine go ?_;refine Xl (col:=(Zf col)) 1 rfl ?_;intro b7 eq c3 c4 ac;refine Xx (col:=c3) #[.bool false,(nI),(nI)] 2 zeroValue42 ?_;intro b8 c5 cv cw ad;refine go ?_;replace ac:=ac.gr cw;refine lV _ (Z9 isAgg27 sizeOf27 ac) ?_;obtain ⟨er,c6,hm⟩:=bZ hm;replace au:=au.k0;replace bt:=bt.k0;replace bo:=bo.k0;replace aa:=(aa.grow c4).grow cw;refine Zk (Zs5 c6 (cd.k0.ks aa) (au.ks aa) (bt.ks aa) (bo.ks aa)) fun _ c7 ⟨e',bu⟩=>⟨_,e',?_⟩;replace bu:Zn cv c5 cv c7:=.of_below bu;refine go ?_;replace h1:=h1.k0;replace ac:=ac.gr bu;replace ad:=ad.gr bu;replace aa:=aa.grow bu;refine Zm hm (fun hb hm=>go ?_) fun hb hm=>go ?_
 ·refine lV (.agg #[.bool false,(nI),(nI)]) (Wl (l:=[_,_]) (qs:=[(0,2),(2,1)]) underlying42 zeroValue42 ⟨rfl,sizeOf40,rfl,sizeOf38,trivial⟩ rfl)<|Xr rfl<|Xf ad ?_;intro es c8 c9 da;refine go ?_;cases hm;replace aa:=aa.kp c8 c9;exact ⟨rfl,_,Qj da.atN,_,none,0,none,0,rfl,aa.fin (cm []),Zc.nil,Zc.nil⟩
 refine Z1 ac ?_;refine go ?_;refine Zm hm (fun hb hm=>go ?_) fun hb hm=>go ?_
 ·refine lV (.agg #[.bool false,(nI),(nI)]) (Wl (l:=[_,_]) (qs:=[(0,2),(2,1)]) underlying42 zeroValue42 ⟨rfl,sizeOf40,rfl,sizeOf38,trivial⟩ rfl)<|Xf ad ?_;intro et db dc dd;refine go ?_;cases hm;replace aa:=aa.kp db dc;exact ⟨rfl,_,Qj dd.atN,_,none,0,none,0,rfl,aa.fin (cm []),Zc.nil,Zc.nil⟩
 refine Zs [1,2,28,29,4,1000000] (fun n f bp=>∃ a4 a5 a6 av aw al ax ay am bv,n=bv.length∧ak.drop a5=bv∧Q2 N ab ak bv a5 a6 al am=some r∧St w0 (Zf col) a4 bp∧Zj 27 1 a4 bp b7 #[.string ab.1,.slice bj ab.2.1.length bf,.slice bk ab.2.2.1.length bg,.slice bm ab.2.2.2.1.length bh,.slice bn ab.2.2.2.2.length bi]∧Zc rU 45 3 a4 bp av aw al∧Zc rU 45 4 a4 bp ax ay am∧Zj 42 2 a4 bp b8 #[.bool a6,.slice av al.length aw,.slice ax am.length ay]∧[30].map f=[.int .i64 a5]) ak.length ⟨_,0,_,none,0,_,none,0,_,_,rfl,rfl,hm,aa,ac,Zc.nil,Zc.nil,ad,rfl⟩ ?_;clear hm;intro n f bp hI;obtain ⟨a4,a5,a6,av,aw,al,ax,ay,am,bv,hn,hl,hm,aa,ac,ae,af,ad,hs⟩:=hI;subst hn;refine .lL [30] hs ?_
 cases bv with
 | nil=>
  have hk:¬ ((a5:Int)<(ak.length:Int)):=by have:=aM.1 hl;omega
  have hkb:=decide_eq_false hk;rw [Q2.eq_1] at hm;refine go ?_;refine Yc (congrArg Value.bool hkb)<|go ?_;obtain ⟨eu,de,hm⟩:=bZ hm;refine lc rfl rfl (Zg4 call94) (Zp2 (col:=a4) 5 6 de:) fun _ ew ⟨df,ey,ez,e0,e1,e',bw,ce,cf⟩=>⟨_,e',?_⟩;refine Xx (col:=df) #[.bool false,(nI),(nI)] 7 zeroValue42 ?_;intro cx e2 e3 a7 dg;refine Xf dg ?_;intro e4 a8 dh ah;refine go ?_;refine Z7 ⟨_,_,rfl⟩ ?_;replace ac:=((ac.gr bw).gr a7).kp a8;refine lW ((ac.atN).nth (q:=4) rfl)<|go ?_;replace ae:=((ae.gr bw).gr a7).kp a8;replace af:=((af.gr bw).gr a7).kp a8;replace ad:=((ad.gr bw).gr a7).kp a8;replace aa:=((aa.grow bw).grow a7).kp a8 dh;refine Zs [1,2,4,51,52,9,1000000] (fun n f az=>∃ a0 a9 bx bz b0 ba b1 b2 bb b3,n=b3.length∧ab.2.2.2.2.drop a9=b3∧Zbl N ab ak b3 a9 bx ba bb=some r∧St w0 (Zf col) a0 az∧Zj 27 1 a0 az b7 #[.string ab.1,.slice bj ab.2.1.length bf,.slice bk ab.2.2.1.length bg,.slice bm ab.2.2.2.1.length bh,.slice bn ab.2.2.2.2.length bi]∧Zc rU 45 3 a0 az av aw al∧Zc rU 45 4 a0 az ax ay am∧Zj 42 2 a0 az b8 #[.bool a6,.slice av al.length aw,.slice ax am.length ay]∧Zc rU 45 5 a0 az bz b0 ba∧Zc rU 45 6 a0 az b1 b2 bb∧Zj 42 7 a0 az cx #[.bool bx,.slice bz ba.length b0,.slice b1 bb.length b2]∧[53].map f=[.int .i64 a9]) ab.2.2.2.2.length ⟨_,0,_,_,_,_,_,_,_,_,rfl,rfl,hm,aa,ac,ae,af,ad,(ce.gr a7).kp a8,(cf.gr a7).kp a8,ah,rfl⟩ ?_;clear hm;intro n f az hI;obtain ⟨a0,a9,bx,bz,b0,ba,b1,b2,bb,b3,hn,hl,hm,aa,ac,ae,af,ad,ai,aj,ah,hs⟩:=hI;subst hn;refine .lL [53] hs ?_
  cases b3 with
  | nil=>
   have hk:¬ ((a9:Int)<(ab.2.2.2.2.length:Int)):=by have:=aM.1 hl;omega
   have hkb:=decide_eq_false hk;rw [Zbl.eq_1] at hm;refine go ?_;refine Yc (congrArg Value.bool hkb)<|go ?_;refine lV _ (Z9 isAgg42 sizeOf42 ah)<|Xf ad ?_;intro e5 cg di dj;refine go ?_;cases hm;replace ai:=ai.kp cg;replace aj:=aj.kp cg;replace aa:=aa.kp cg di;exact ⟨rfl,_,Qj dj.atN,_,_,_,_,_,rfl,aa.fin (cm [(5,c1),(6,c2)]),aa.fo ai,aa.fo aj⟩
  | cons cy cz=>
   obtain ⟨an,dk,dl⟩:=Yu hl;have hk:(a9:Int)<(ab.2.2.2.2.length:Int):=by omega
   have hkb:=decide_eq_true hk;rw [Zbl.eq_2] at hm;refine go ?_;refine Yd (congrArg Value.bool hkb)<|go ?_;refine lI an ((bo.ks aa).addr an) ?_;obtain ⟨_,dm,dn⟩:=(bo.ks aa).atN an;obtain ⟨⟨dp,dq,rfl,bc⟩,_⟩:=dm;refine lW dn.one<|go ?_;refine Z1 ac<|Xr rfl ?_;obtain ⟨b4,ch,hm⟩:=bZ hm;refine lI ch ((bt.ks aa).addr ch) ?_;obtain ⟨_,dr,ds⟩:=(bt.ks aa).atN ch;obtain ⟨⟨dt,du,rfl,a3⟩,_⟩:=dr;refine lW ds.one<|go ?_;refine Zs [1,10,11,2,4,51,52,53,62,63,9,1000000] (fun n f ao=>∃ ag ci b5 b6,n=b6.length∧b4.drop b5=b6∧Zbm N ab ak a9 bx ba bb (Zbl N ab ak cz) cy b6 ci=some r∧St w0 (Zf col) ag ao∧Sl rQ ag ao dp dq cy∧Zj 27 1 ag ao b7 #[.string ab.1,.slice bj ab.2.1.length bf,.slice bk ab.2.2.1.length bg,.slice bm ab.2.2.2.1.length bh,.slice bn ab.2.2.2.2.length bi]∧Zc rU 45 3 ag ao av aw al∧Zc rU 45 4 ag ao ax ay am∧Zj 42 2 ag ao b8 #[.bool a6,.slice av al.length aw,.slice ax am.length ay]∧Sl rI ag ao dt du b4∧Zc rU 45 5 ag ao bz b0 ba∧Zc rU 45 6 ag ao b1 b2 bb∧Zj 42 7 ag ao cx #[.bool bx,.slice bz ba.length b0,.slice b1 bb.length b2]∧[64,12].map f=[.int .i64 b5,.int .i64 ci]) b4.length ⟨_,0,0,_,rfl,rfl,hm,aa,bc,ac,ae,af,ad,a3,ai,aj,ah,rfl⟩ ?_;clear hm;intro n f ao hI;obtain ⟨ag,ci,b5,b6,hn,hl,hm,aa,bc,ac,ae,af,ad,a3,ai,aj,ah,hs⟩:=hI;subst hn;refine .lL [64,12] hs ?_
   cases b6 with
   | nil=>
    have hk:¬ ((b5:Int)<(b4.length:Int)):=by have:=aM.1 hl;omega
    have hkb:=decide_eq_false hk;rw [Zbm.eq_1] at hm;refine go ?_;refine Yc (congrArg Value.bool hkb)<|go ?_;refine Wc (col:=ag) [(0,0),(1,1),(2,1),(3,1),(4,0),(5,1),(6,1),(7,0),(8,1),(9,1),(10,1),(11,1),(12,1),(13,0),(14,1),(15,1),(16,0),(17,3),(18,3),(19,2)] (by kernel_rfl) (by kernel_rfl)<|xv rfl rfl (fun _ hC=>Z9 isAgg42 sizeOf42 (ah.gr (hC.bl ag))) ?_;refine xu rfl rfl (fun _=>Va rfl) ?_;refine xu rfl rfl (fun _=>Yz rfl) ?_;refine xF ⟨_,_,rfl⟩ ?_;refine xW (fun _ hC=>((ac.atN).nth (q:=2) rfl).gr (hC.bl ag)) ?_;refine xu rfl rfl (fun _=>Yz rfl) ?_;obtain ⟨e6,b9,hm⟩:=bZ hm;refine xu rfl rfl (fun _=>Yv underlying23 sizeOf22 rfl rfl (Xe b9).1 (Xe b9).2.1 ((au.ks aa).addr b9)) ?_;obtain ⟨_,dv,dw⟩:=(au.ks aa).atN b9;obtain ⟨⟨e7,e8,rfl,e9⟩,_⟩:=dv;refine xW (fun _ hC=>dw.one.gr (hC.bl ag)) ?_;refine xu rfl rfl (fun _=>Uz underlying22 rfl) ?_;refine xu rfl rfl (fun _=>Zjs _ _ rfl rfl) ?_;refine xu rfl rfl (fun _=>Va rfl) ?_;refine xu rfl rfl (fun _=>Yz rfl) ?_;obtain ⟨fa,ca,hm⟩:=bZ hm;refine xu rfl rfl (fun _=>Yv underlying36 sizeOf3 rfl rfl (Xe ca).1 (Xe ca).2.1 ((h1.ks aa).addr ca)) ?_;refine xW (fun _ hC=>((h1.ks aa).gr (hC.bl ag)).atInt ca) ?_;refine xu rfl rfl (fun _=>Zah _ _ rfl rfl) ?_;obtain ⟨cj,cb,hm⟩:=bZ hm;refine xu rfl rfl (fun _=>Yv underlying29 sizeOf42 rfl rfl (Xe cb).1 (Xe cb).2.1 (bc.addr cb)) ?_;obtain ⟨_,dx,dy⟩:=bc.atN cb;obtain ⟨_,_,rfl,dz,d0⟩:=Yb dx;obtain ⟨_,_,rfl,d1,d2⟩:=Yb dz;obtain ⟨rfl,_⟩:=d1;obtain ⟨⟨d3,d4,rfl,ck⟩,_⟩:=d2;obtain ⟨⟨d5,d6,rfl,cl⟩,_⟩:=d0;refine xv (v:=(.agg #[.bool cj.1.1,.slice d3 cj.1.2.length d4,.slice d5 cj.2.length d6])) rfl rfl (fun _ hC=>Ym isAgg42 sizeOf42 rfl rfl (dy.gr (hC.bl ag))) ?_;refine xe rfl rfl ?_;intro fb hC0;have hC:=hC0.bl ag;obtain ⟨fc,d7,hm⟩:=bZ hm;refine Zk (Zs6 d7 (ck.gr hC) (cl.gr hC)) fun _ fd ⟨bq,fe,ff,fg,fh,e',a2,cn,co⟩=>⟨_,e',?_⟩;refine Zl<|Xt bq hC0 a2<|xe rfl rfl ?_;intro d8 hC0;replace ae:=(ae.gr hC).gr a2;replace af:=(af.gr hC).gr a2;replace ai:=(ai.gr hC).gr a2;replace aj:=(aj.gr hC).gr a2;replace ac:=(ac.gr hC).gr a2;replace ad:=(ad.gr hC).gr a2;replace ah:=(ah.gr hC).gr a2;replace aa:=(aa.grow hC).grow a2
    have hC:=hC0.bl bq;obtain ⟨fi,d9,hm⟩:=bZ hm;replace ai:=ai.gr hC;replace aj:=aj.gr hC;refine Zk (Z2s 8 9 d9 ((ai.toSlF (Zh.int .u32)).froz 6) ((aj.froz 5).toSlF (Zh.int .u32)) (((cn.gr hC).froz 5).froz 6) (((co.gr hC).froz 5).froz 6)) fun _ fj ⟨ea,fk,fl,fm,fn,e',ap,aq,ar⟩=>⟨_,e',?_⟩;replace aq:=aq.thaw (Z3 .u32) ap (((Fz.refl (col:=bq)).froz 5).froz 6);replace ar:=ar.thaw (Z3 .u32) ap (((Fz.refl (col:=bq)).froz 5).froz 6);replace ap:=ap.thawR (col:=bq);generalize Xj d8.heap.size bq ea=cc at *;refine Zl<|Xt cc hC0 ap<|xe rfl rfl ?_;intro fp hC0;replace ae:=(ae.gr hC).gr ap;replace af:=(af.gr hC).gr ap;replace ac:=(ac.gr hC).gr ap;replace ad:=(ad.gr hC).gr ap;replace ah:=(ah.gr hC).gr ap;replace aa:=(aa.grow hC).grow ap;have hC:=hC0.bl cc;replace ah:=ah.gr hC;refine Xf ah ?_;intro fq bd eb be;refine Zl<|xk cc<|Y0 ?_;replace ae:=(ae.gr hC).kp bd;replace af:=(af.gr hC).kp bd;replace aq:=(aq.gr hC).kp bd;replace ar:=(ar.gr hC).kp bd;replace ac:=(ac.gr hC).kp bd;replace ad:=(ad.gr hC).kp bd;replace aa:=(aa.grow hC).kp bd eb;intro fr hC;replace hC:=hC.bl cc;refine go ?_;replace ae:=ae.gr hC;replace ae:=ae.recol 8 5;replace af:=af.gr hC;replace af:=af.recol 8 5;replace aq:=aq.gr hC;replace aq:=aq.recolSelf 5 (by decide);replace ar:=ar.gr hC;replace ar:=ar.recol 8 5;replace ac:=ac.gr hC;replace ac:=ac.recol 8 5;replace ad:=ad.gr hC;replace ad:=ad.recol 8 5;replace be:=be.gr hC;replace be:=be.recol 8 5;replace aa:=aa.grow hC;replace aa:=aa.recol 8 5 (by decide) (by decide);replace ae:=ae.recol 9 6;replace af:=af.recol 9 6;replace ar:=ar.recolSelf 6 (by decide);replace ac:=ac.recol 9 6;replace ad:=ad.recol 9 6;replace aa:=aa.recol 9 6 (by decide) (by decide);exact ⟨cz.length,by simp,rfl,⟨_,_,_,_,_,_,_,_,_,_,rfl,dk,hm,aa,ac,ae,af,ad,aq.recol 9 6,ar,be.recol 9 6,(Y2 (congrArg (Value.int .i64) (Yx (aK dl (bo.ks aa).1.1))) rfl)⟩⟩
   | cons ft ec=>
    obtain ⟨an,ed,ee⟩:=Yu hl;have hk:(b5:Int)<(b4.length:Int):=by omega
    have hkb:=decide_eq_true hk;rw [Zbm.eq_2] at hm;refine go ?_;refine Yd (congrArg Value.bool hkb)<|go ?_;refine lI an (a3.addr an)<|lW (a3.atInt an) ?_;refine go ?_;refine Y7 (col:=ag) (by kernel_rfl) (by kernel_rfl)<|go ?_;refine qF ⟨_,_,rfl⟩ ?_;refine qW (fun _ hC=>((ac.atN).nth (q:=2) rfl).gr (hC.bl ag)) ?_;refine go ?_;obtain ⟨fu,cp,hm⟩:=bZ hm;refine qI cp ((au.ks aa).addr cp) ?_;obtain ⟨_,ef,eg⟩:=(au.ks aa).atN cp;obtain ⟨⟨fv,fw,rfl,fx⟩,_⟩:=ef;refine qW (fun _ hC=>eg.one.gr (hC.bl ag)) ?_;refine go ?_;obtain ⟨fy,cq,hm⟩:=bZ hm;refine qI cq ((h1.ks aa).addr cq)<|qW (fun _ hC=>((h1.ks aa).gr (hC.bl ag)).atInt cq) ?_;refine go ?_;refine X2 ?_;intro fz hC;replace hC:=hC.bl ag;refine go ?_;replace ae:=ae.gr hC;replace af:=af.gr hC;replace a3:=a3.gr hC;replace ac:=ac.gr hC;replace ad:=ad.gr hC;replace aa:=aa.grow hC;exact ⟨ec.length,by simp,rfl,⟨_,_,_,_,rfl,ed,hm,aa,bc.gr hC,ac,ae,af,ad,a3,ai.gr hC,aj.gr hC,ah.gr hC,(Y2 (congrArg (Value.int .i64) (Yx (aK ee a3.1.1))) rfl)⟩⟩
 | cons eh c0=>
  obtain ⟨an,ei,ej⟩:=Yu hl;have hk:(a5:Int)<(ak.length:Int):=by omega
  have hkb:=decide_eq_true hk;rw [Q2.eq_2] at hm;refine go ?_;refine Yd (congrArg Value.bool hkb)<|go ?_;refine lI an ((h1.ks aa).addr an)<|lW ((h1.ks aa).atInt an)<|Y4 rfl<|Y4 rfl<|Zl<|Z0 ?_;refine Wp.cutK [1,2,28,29,30,4,1000000] (fun f br=>∃ bs cr,Zh3 a5 a6 al am (Q2 N ab ak c0) cr=some r∧St w0 (Zf col) bs br∧Zj 27 1 bs br b7 #[.string ab.1,.slice bj ab.2.1.length bf,.slice bk ab.2.2.1.length bg,.slice bm ab.2.2.2.1.length bh,.slice bn ab.2.2.2.2.length bi]∧Zc rU 45 3 bs br av aw al∧Zc rU 45 4 bs br ax ay am∧Zj 42 2 bs br b8 #[.bool a6,.slice av al.length aw,.slice ax am.length ay]∧[46].map f=[.bool cr]) ?_ ?_
  ·intro f br hJ;obtain ⟨bs,cr,hm,aa,ac,ae,af,ad,hs⟩:=hJ;rw [Zh3.eq_1] at hm;refine .lL [46] hs ?_;refine Zm hm (fun hb hm=>go ?_) fun hb hm=>go ?_
   ·refine lV (.agg #[.bool false,(nI),(nI)]) (Wl (l:=[_,_]) (qs:=[(0,2),(2,1)]) underlying42 zeroValue42 ⟨rfl,sizeOf40,rfl,sizeOf38,trivial⟩ rfl)<|Xf ad ?_;intro f0 ek el em;refine go ?_;cases hm;replace aa:=aa.kp ek el;exact ⟨rfl,_,Qj em.atN,_,none,0,none,0,rfl,aa.fin (cm []),Zc.nil,Zc.nil⟩
   exact ⟨c0.length,by simp,rfl,⟨_,_,_,_,_,_,_,_,_,_,rfl,ei,hm,aa,ac,ae,af,ad,(Y2 (congrArg (Value.int .i64) (Yx (aK ej (h1.ks aa).1.1))) rfl)⟩⟩
  refine go ?_;refine Xn hm (fun cs hm=>go ?_) fun cs hm=>go ?_
  ·refine lV (.bool true) (Zw (congrArg Value.bool cs) rfl)<|Zl ?_;exact ⟨rfl,_,_,hm,aa,ac,ae,af,ad,rfl⟩
  refine Z7 ⟨_,_,rfl⟩ ?_;refine go ?_;refine lW ((ac.atN).nth (q:=2) rfl)<|go ?_;obtain ⟨en,ct,hm⟩:=bZ hm;refine lI ct ((au.ks aa).addr ct) ?_;refine go ?_;obtain ⟨_,eo,ep⟩:=(au.ks aa).atN ct;obtain ⟨⟨f1,f2,rfl,f3⟩,_⟩:=eo;refine lW ep.one<|go ?_;refine lV (.bool (decide ((en.length:Int)≤eh))) (Xk (congrArg Value.bool cs) rfl)<|Zl ?_;exact ⟨rfl,_,_,hm,aa,ac,ae,af,ad,rfl⟩
def ent (n:Xa) (w:List Int) (v:Nat):Rat:=Xm ((Vv n w v).getD (w.getD v 0).toNat ((false,[]),[]))
def Uq (n:Xa) (w:List Int):Nat→Nat→Rat→Rat
 | 0,_,q=>q
 | m+1,k,q=>Uq n w m (k+1) (q * ent n w k)
section
variable {N:Nat} {n:Xa} (hf:Y8 N n) {w:List Int} (hw:Us n w)
include hf hw
variable {W K:Nat} (hs:W6 n W) (hr:Xg N (8 * K+40)) (hWK:1025 * (W+2)+4≤K)
include hs hr hWK
omit hr hWK in
theorem Zut {k:Nat} (hk:k<n.2.1.length):qs (ent n w k)≤W+1:=by
 have c:=hw.ok k (by rw [hw.len];exact hk)
 have a:(w.getD k 0).toNat<(Vv n w k).length:=by rw [hf.rowT_len hw hk];omega
 rw [ent,X4 a]
 obtain ⟨b,d⟩:=Znj hf hs hk _ (Zon (aD a))
 have:=Zrt b
 omega
omit hs hr hWK in
theorem Zty {k:Nat} (hk:k<n.2.1.length) (a:Bool) (b c:List Int) (kk:Nat→Bool→List Int→List Int→Option (QV×Int)) (t:List QV):∀ (ps:List Int) (r kb:Nat),(∀ q ∈ ps,0≤q∧q<(n.2.1.length:Int))→r<kb→kb≤65536→Yw n.2.2.1 ps kb≤65536→
  Zbm N n w k a b c kk t ps (r:Int)=Zbm N n w k a b c kk t [] (Qk n w ps r:Int)
 | [],r,kb,_,_,_,_=>rfl
 | p :: ps,r,kb,d,e,f,g=>by
  obtain ⟨i,m,o⟩:=Zr6 hf.ev hw d e f g
  have A:=d p aQ
  have B:=hw.ok p.toNat (by rw [hw.len];omega)
  have C:r * cnt n p.toNat≤kb * cnt n p.toNat:=bH _ (by omega)
  have q1:Zi n.2.2.1 p=some (n.2.2.1.getD p.toNat []):=by
   have:=Vg (l:=n.2.2.1) [] (j:=p.toNat) (by rw [hf.ev.v];omega)
   rwa [show ((p.toNat:Nat):Int)=p by omega] at this
  have s:Zi w p=some (w.getD p.toNat 0):=by
   have:=Vg (l:=w) 0 (j:=p.toNat) (by rw [hw.len];omega)
   rwa [show ((p.toNat:Nat):Int)=p by omega] at this
  have u:i64.wrap ((r:Int) * ((n.2.2.1.getD p.toNat []).length:Int))=((r * cnt n p.toNat:Nat):Int):=by
   rw [show ((n.2.2.1.getD p.toNat []).length:Int)=((cnt n p.toNat:Nat):Int) from rfl,← bQ]
   exact Zr (by omega)
  have x:i64.wrap (((r * cnt n p.toNat:Nat):Int)+w.getD p.toNat 0)=((r * cnt n p.toNat+(w.getD p.toNat 0).toNat:Nat):Int):=by
   rw [fN,show (((w.getD p.toNat 0).toNat:Nat):Int)=w.getD p.toNat 0 by omega]
   exact Zr (by omega)
  rw [Zbm.eq_2,q1,oB,s,oB,u,x]
  exact Zty hk a b c kk t ps _ _ (fun q y=>d q (aO _ y)) i m o
theorem Ztx:∀ (l:List (List QV)) (k:Nat) (q:Rat),n.2.2.2.2.drop k=l→k≤n.2.1.length→qs q≤k * (W+1)+1→Zbl N n w l k (Z2 q).1.1 (Z2 q).1.2 (Z2 q).2=some (Z2 (Uq n w l.length k q),0)
 | [],k,q,_,_,_=>rfl
 | t :: l,k,q,c,P,s=>by
  have Q:=hf.ev.t
  have J:=hf.le
  have e:k<n.2.2.2.2.length:=by
   rcases cO k n.2.2.2.2.length with h | h
   ·exact h
   ·rw [aG h] at c;cases c
  have a:k<n.2.1.length:=by omega
  rw [aL e] at c
  obtain ⟨u,x⟩:=List.cons.inj c
  have j:n.2.2.2.2.getD k []=t:=by rw [X4 e];exact u
  have d:=hf.rows a
  have A:=hf.row hw a
  have L:=hw.ok k (by rw [hw.len];exact a)
  have m:=Zty hf hw a (Z2 q).1.1 (Z2 q).1.2 (Z2 q).2 (Zbl N n w l) t (n.2.2.2.1.getD k []) 0 1 (hf.pars a) (by omega) (by omega) d.2.2
  rw [show ((0:Nat):Int)=0 from rfl] at m
  have f:(w.getD k 0).toNat<(Vv n w k).length:=by rw [hf.rowT_len hw a];omega
  have B:i64.wrap ((Vu n w k:Int) * ((n.2.2.1.getD k []).length:Int))=((Vu n w k * cnt n k:Nat):Int):=by
   rw [show ((n.2.2.1.getD k []).length:Int)=((cnt n k:Nat):Int) from rfl,← bQ]
   exact Zr (by omega)
  have C:i64.wrap (((Vu n w k * cnt n k:Nat):Int)+w.getD k 0)=((Vu n w k * cnt n k+(w.getD k 0).toNat:Nat):Int):=by
   rw [fN,show (((w.getD k 0).toNat:Nat):Int)=w.getD k 0 by omega]
   exact Zr (by omega)
  have o:Zi t ((Vu n w k * cnt n k+(w.getD k 0).toNat:Nat):Int)=some (Vv n w k)[(w.getD k 0).toNat]:=by
   rw [← j];exact Z0o f
  obtain ⟨y,g⟩:∃ y,y=(Vv n w k)[(w.getD k 0).toNat]:=⟨_,rfl⟩
  obtain ⟨i,D⟩:=Znj hf hs a y (Zon (g ▸ aD f))
  have E:ent n w k=Xm y:=by rw [ent,X4 f,g]
  have F:k * (W+1)≤1024 * (W+1):=bH _ (by omega)
  have b:Vc (W3 y):=by
   rw [W3];split
   ·exact ⟨i.1,by simp [Zo]⟩
   ·exact i
  have r:RV (W+1) (W3 y):=by
   refine ⟨b.1,b.2,?_,?_⟩
   ·rw [W3];split
    ·simp only;omega
    ·omega
   ·rw [W3];split
    ·simp
    ·omega
  have G:Zda N ((y.1.1,y.1.2),y.2)=some (W3 y):=Zu2 i D (hr.mono (by omega))
  have H:Zhv N (((Z2 q).1.1,(Z2 q).1.2),(Z2 q).2) (((W3 y).1.1,(W3 y).1.2),(W3 y).2)=some (Z2 (q * ent n w k)):=by
   have:=Z6n (Zcf s) r (hr.mono (by omega))
   rwa [Te,Zqr,← E] at this
  have M:=Zyv q (ent n w k)
  have O:=Zut hf hw hs a
  have I:=Ztx l (k+1) (q * ent n w k) x (by omega) (by rw [bM,bR];omega)
  rw [Zbl.eq_2,Vg [] (by rw [hf.ev.p];exact a),oB,m,← Vu,Zbm.eq_1,Vg [] (by rw [hf.ev.v];exact a),oB,Vg 0 (by rw [hw.len];exact a),oB,B,C,o,← g,oB,G,oB,H,oB,nC,Uq]
  exact I
end
theorem Ztw {N:Nat} {n:Xa} (he:Tk n) (hl:n.2.1.length≤1048576) (w:List Int) (hw:w.length=n.2.1.length):∀ (l:List Int) (k:Nat) (b:Bool) (l1 l2:List Int),w.drop k=l→k≤w.length→Q2 N n w l k b l1 l2=if Su n l k=true then Q2 N n w [] w.length b l1 l2 else some (((false,([]:List Int)),([]:List Int)),3)
 | [],k,b,l1,l2,a,c=>by
  have:=aM.1 a
  rw [Su,if_pos rfl,show k=w.length by omega]
 | x :: l,k,b,l1,l2,a,c=>by
  have d:k<w.length:=by
   rcases cO k w.length with h | h
   ·exact h
   ·rw [aG h] at a;cases a
  rw [aL d] at a
  obtain ⟨f,e⟩:=List.cons.inj a
  rw [Q2.eq_2,Su]
  by_cases hx:x<0
  ·rw [if_pos (dT hx),Zh3,if_pos rfl,decide_eq_true hx];rfl
  ·rw [if_neg (dF hx),Vg [] (by rw [he.v];omega),oB,Zh3,decide_eq_false hx]
   by_cases hc:(cnt n k:Int)≤x
   ·rw [show ((n.2.2.1.getD k []).length:Int)=(cnt n k:Int) from rfl,decide_eq_true hc,if_pos rfl];rfl
   ·rw [show ((n.2.2.1.getD k []).length:Int)=(cnt n k:Int) from rfl,decide_eq_false hc,if_neg (by decide),Ztw he hl w hw l (k+1) b l1 l2 e (by omega)];rfl
theorem Z48 {N W K:Nat} {n:Xa} (hf:Y8 N n) (hs:W6 n W) (hr:Xg N (8 * K+40)) (hWK:1025 * (W+2)+4≤K) (hN:2000000<N) (hC:Sb N n=some 0) (w:List Int):
  ∃ p e,Zh2 N n w=some (p,e)∧((e≠0∧(decide (w.length=n.2.1.length)&&Su n w 0)=false)∨(e=0∧Us n w∧p=Z2 (Uq n w n.2.1.length 0 1))):=by
 have a:Sb N (n.1,n.2.1,n.2.2.1,n.2.2.2.1,n.2.2.2.2)=some 0:=hC
 have c:=hf.le
 rw [Zh2,a,oB,if_neg (by decide)]
 by_cases hlen:w.length=n.2.1.length
 ·rw [if_neg (show ¬ (!decide ((w.length:Int)=(n.2.1.length:Int)))=true by rw [decide_eq_true (by omega)];decide),Ztw hf.ev (by omega) w hlen w 0 false [] [] rfl (aT _)]
  cases hin:Su n w 0 with
  | false=>rw [if_neg (show ¬ false=true by decide)];exact ⟨_,3,rfl,.inl ⟨by decide,by simp⟩⟩
  | true=>
   have hw:=Z60 hlen hin
   have b:=Ztx hf hw hs hr hWK n.2.2.2.2 0 1 rfl (aT _) (by rw [Zrs];omega)
   rw [if_pos rfl,Q2.eq_1,Zrc (hr.mono (by omega)),oB,b,hf.ev.t]
   exact ⟨_,0,rfl,.inr ⟨rfl,hw,rfl⟩⟩
 ·rw [if_pos (show (!decide ((w.length:Int)=(n.2.1.length:Int)))=true by rw [decide_eq_false (by omega)];rfl)]
  exact ⟨_,60,rfl,.inl ⟨by decide,by rw [decide_eq_false hlen];rfl⟩⟩
def Zc9:List R8→R2→Option R2
  | [],aa=>some aa
  | ab :: ac,aa=>Zt ((aa.length+[(ab.length:Int)].length) * 8≤140737488355328∧aa.length+[(ab.length:Int)].length≤maxLen) ((Zc9 ac) (aa++[(ab.length:Int)]))
def Ze4 (aa:R0):Option R2:=
  Zc9 aa.2.2.1 ([]:List Int)
theorem Z29 {am an ao ap:Nat} {aq ar au av:Option Addr} {col:Zd} {w0:World} {aa:R0} {r:R2} (c1:Nat) (hm:Ze4 aa=some r) (a9:Sl Za.str col w0 aq am aa.2.1) (ac:Sl rV col w0 ar an aa.2.2.1) (ba:Sl rP col w0 au ao aa.2.2.2.1) (bb:Sl (Za.slice rQ) col w0 av ap aa.2.2.2.2):
    Calls prog 90 #[(.agg #[.string aa.1,.slice aq aa.2.1.length am,.slice ar aa.2.2.1.length an,.slice au aa.2.2.2.1.length ao,.slice av aa.2.2.2.2.length ap])] w0 (W2 .i64 3 c1 col w0 r):=by
 refine Z6 2 (m:=20) func90 rfl rfl rfl rfl rfl ?_;rw [Ze4.eq_1] at hm;have ab:=St.start col w0;refine go ?_;refine Xl (col:=(Zf col)) 1 rfl ?_;intro bc bd be ax ay;refine go ?_;refine Z1 ay ?_;refine go ?_;replace ab:=ab.grow ax;refine Zs [7,8,1000000] (fun n f ai=>∃ af aj ak ag ad ae,n=ae.length∧aa.2.2.1.drop ad=ae∧Zc9 ae ag=some r∧St w0 (Zf col) af ai∧Zc rI 3 2 af ai aj ak ag∧[9,3].map f=[.int .i64 ad,.slice aj ag.length ak]) aa.2.2.1.length ⟨_,none,0,_,0,_,rfl,rfl,hm,ab,Zc.nil,rfl⟩ ?_;clear hm;intro n f ai hI;obtain ⟨af,aj,ak,ag,ad,ae,hn,hl,hm,ab,ah,hs⟩:=hI;subst hn;refine .lL [9,3] hs ?_;replace ac:=ac.k0
 cases ae with
 | nil=>
  have hk:¬ ((ad:Int)<(aa.2.2.1.length:Int)):=by have:=aM.1 hl;omega
  have hkb:=decide_eq_false hk;rw [Zc9.eq_1] at hm;refine go ?_;refine Yc (congrArg Value.bool hkb)<|go ?_;cases hm;exact ⟨rfl,_,_,_,rfl,ab.fin (cm [(2,c1)]),ab.fo ah⟩
 | cons az a0=>
  obtain ⟨al,a1,a2⟩:=Yu hl;have hk:(ad:Int)<(aa.2.2.1.length:Int):=by omega
  have hkb:=decide_eq_true hk;rw [Zc9.eq_2] at hm;refine go ?_;refine Yd (congrArg Value.bool hkb)<|go ?_;refine lI al ((ac.ks ab).addr al) ?_;obtain ⟨_,a3,a4⟩:=(ac.ks ab).atN al;obtain ⟨⟨bf,bg,rfl,bh⟩,_⟩:=a3;refine lW a4.one<|go ?_;refine Wj (col:=af) [(az.length:Int)] 3 ?_;intro bi bj bk aw a5;obtain ⟨a6,hm⟩:=Zv hm;refine Yy (ah.gr aw) (a5.srcN (NB.int (k:=.i64))) a6 ?_;intro bm bn bo bp a7 a8;refine go ?_;replace ab:=(ab.grow aw).kpp a7;exact ⟨a0.length,by simp,rfl,⟨_,_,_,_,_,_,rfl,a1,hm,ab,a8,(Y2 (congrArg (Value.int .i64) (Yx (aK a2 (ac.ks ab).1.1))) rfl)⟩⟩
theorem Z56:Y1 prog 3 1 8:=⟨Tryz.t3,_,rfl,rfl,rfl,rfl,rfl⟩
def Zc4 (aa:List Int) (ab:Bool):Option Rh:=
  if ab=true then (some (([]:List Int),4)) else (some (aa,0))
def Q1 (aa:List Int):List Int→(List Bool)→Option Rh
  | [],ab=>(Za6 aa).bind fun ac=>if (!decide (ac.2=0))=true then (Zc4 aa true) else (Zc4 aa (decide (65536<ac.1)))
  | ad :: ae,ab=>(Zi ab ad).bind fun af=>if af=true then (some (([]:List Int),40)) else ((some (ab.set (aA ad) true)).bind fun ag=>(Q1 aa ae) ag)
def Zbj (ab:List Int):List R5→R2→Option Rh
  | [],aa=>Q1 ab aa (aC ab.length (false:Bool))
  | ac :: ad,aa=>Zt ((0:Int)≤0∧0≤(aa.length:Int)∧(aa.length:Int)≤(aa.length:Int)∧(aa.length:Int)≤(aa.length:Int)) (Zt (((aa.take (aA (aa.length:Int))).length+[ac.1].length) * 8≤140737488355328∧(aa.take (aA (aa.length:Int))).length+[ac.1].length≤maxLen) ((Zbj ab ad) ((aa.take (aA (aa.length:Int)))++[ac.1])))
def Zhx (kk_L2:(Option Rh)) (aa:Bool):Option Rh:=
  if aa=true then (some (([]:List Int),3)) else kk_L2
def Sz (ab:Re) (ac aa:List Int):List Int→Option Rh
  | []=>Zt (aa.length * 1≤281474976710656∧aa.length≤maxLen) (Zbj aa ab ac)
  | ad :: ae=>if (decide (ad<0))=true then (Zhx (Sz ab ac aa ae) true) else (Zhx (Sz ab ac aa ae) (decide ((aa.length:Int)≤ad)))
def Zau (kk_L1:(Option Rh)) (aa:Bool):Option Rh:=
  if aa=true then (some (([]:List Int),3)) else kk_L1
def Sa (ac:Re) (ab aa:List Int):List R5→Option Rh
  | []=>Sz ac ab aa ab
  | ad :: ae=>if (decide (ad.1<0))=true then (Zau (Sa ac ab aa ae) true) else (if (decide ((aa.length:Int)≤ad.1))=true then (Zau (Sa ac ab aa ae) true) else (if (decide (ad.2<0))=true then (Zau (Sa ac ab aa ae) true) else ((Zi aa ad.1).bind fun af=>Zau (Sa ac ab aa ae) (decide (af≤ad.2)))))
def Tq (N:Nat) (aa:R0) (ab:Re) (ad:List Int):Option Rh:=
  (Sb N (aa.1,aa.2.1,aa.2.2.1,aa.2.2.2.1,aa.2.2.2.2)).bind fun ac=>if (!decide (ac=0))=true then (some (([]:List Int),ac)) else ((Ze4 (aa.1,aa.2.1,aa.2.2.1,aa.2.2.2.1,aa.2.2.2.2)).bind fun ae=>Sa ab ad ae ab)
theorem Zs3 {N bx bz b0 b1 b2 b3:Nat} {b4 b5 b6 b7 a1 a2:Option Addr} {col:Zd} {w0:World} {af:R0} {ae:Re} {ah:R2} {r:Rh} (c1:Nat) (hm:Tq N af ae ah=some r) (bf:Sl Za.str col w0 b4 bx af.2.1) (bg:Sl rV col w0 b5 bz af.2.2.1) (bh:Sl rP col w0 b6 b0 af.2.2.2.1) (bi:Sl (Za.slice rQ) col w0 b7 b1 af.2.2.2.2) (h1:Sl (Za.pair rI rI) col w0 a1 b2 ae) (h2:Sl rI col w0 a2 b3 ah):
    Calls prog 36 #[(.agg #[.string af.1,.slice b4 af.2.1.length bx,.slice b5 af.2.2.1.length bz,.slice b6 af.2.2.2.1.length b0,.slice b7 af.2.2.2.2.length b1]),.slice a1 ae.length b2,.slice a2 ah.length b3] w0 (fun e w'=>∃ col' ra1 rc2,e= .returned (.tuple #[.slice ra1 r.1.length rc2,.int .i64 r.2])∧Zn col w0 col' w'∧Zc rI 3 c1 col' w' ra1 rc2 r.1):=by
 refine Zcp 6 7 (m:=121) (args:=[(.agg #[.string af.1,.slice b4 af.2.1.length bx,.slice b5 af.2.2.1.length bz,.slice b6 af.2.2.2.1.length b0,.slice b7 af.2.2.2.2.length b1]),.slice a1 ae.length b2,.slice a2 ah.length b3]) func36 rfl rfl rfl rfl rfl ?_;rw [Tq.eq_1] at hm;have aa:=St.start col w0;refine go ?_;refine Xl (col:=(Zf col)) 1 rfl ?_;intro d9 c6 cu c7 bj;refine go ?_;refine lV _ (Z9 isAgg27 sizeOf27 bj) ?_;obtain ⟨ea,c8,hm⟩:=bZ hm;replace bf:=bf.k0;replace bg:=bg.k0;replace bh:=bh.k0;replace bi:=bi.k0;replace aa:=aa.grow c7;refine Zk (Zs5 c8 (bf.ks aa) (bg.ks aa) (bh.ks aa) (bi.ks aa)) fun _ c9 ⟨e',bk⟩=>⟨_,e',?_⟩;replace bk:Zn cu c6 cu c9:=.of_below bk;refine go ?_;replace h1:=h1.k0;replace h2:=h2.k0;replace aa:=aa.grow bk;refine Zm hm (fun hb hm=>go ?_) fun hb hm=>go ?_
 ·cases hm;exact ⟨rfl,_,none,0,rfl,aa.fin (cm []),Zc.nil⟩
 refine lV _ (Z9 isAgg27 sizeOf27 (bj.gr bk)) ?_;obtain ⟨ad,da,hm⟩:=bZ hm;refine Zk (Z29 2 da (bf.ks aa) (bg.ks aa) (bh.ks aa) (bi.ks aa)) ?_;rintro _ eb ⟨ec,al,am,rfl,db,ab⟩;refine ⟨_,rfl,go ?_⟩;replace aa:=aa.grow db;refine Zs [1,2,28,29,9,1000000] (fun n f b8=>∃ bm aw ax,n=ax.length∧ae.drop aw=ax∧Sa ae ah ad ax=some r∧St w0 (Zf col) bm b8∧Zc rI 3 2 bm b8 al am ad∧[30].map f=[.int .i64 aw]) ae.length ⟨_,0,_,rfl,rfl,hm,aa,ab,rfl⟩ ?_;clear hm;intro n f b8 hI;obtain ⟨bm,aw,ax,hn,hl,hm,aa,ab,hs⟩:=hI;subst hn;refine .lL [30] hs ?_
 cases ax with
 | nil=>
  have hk:¬ ((aw:Int)<(ae.length:Int)):=by have:=aM.1 hl;omega
  have hkb:=decide_eq_false hk;rw [Sa.eq_1] at hm;refine go ?_;refine Yc (congrArg Value.bool hkb)<|go ?_;refine Zs [1,2,60,61,9,1000000] (fun n f bn=>∃ bo ay az,n=az.length∧ah.drop ay=az∧Sz ae ah ad az=some r∧St w0 (Zf col) bo bn∧Zc rI 3 2 bo bn al am ad∧[62].map f=[.int .i64 ay]) ah.length ⟨_,0,_,rfl,rfl,hm,aa,ab,rfl⟩ ?_;clear hm;intro n f bn hI;obtain ⟨bo,ay,az,hn,hl,hm,aa,ab,hs⟩:=hI;subst hn;refine .lL [62] hs ?_
  cases az with
  | nil=>
   have hk:¬ ((ay:Int)<(ah.length:Int)):=by have:=aM.1 hl;omega
   have hkb:=decide_eq_false hk;rw [Sz.eq_1] at hm;refine go ?_;refine Yc (congrArg Value.bool hkb)<|go ?_;obtain ⟨cv,hm⟩:=Zv hm;refine Sv (col:=bo) (w:=bn) (r:=Za.bool) (n:=ad.length) (x0:=false) 3 rfl underlying117 Tryz.t4 rfl rfl rfl rfl rfl rfl rfl cv.1 cv.2 (U0 false) ?_;intro dc ed ee cw ai;refine go ?_;replace ab:=ab.gr cw;replace aa:=aa.grow cw;refine Zs [14,78,79,9,1000000] (fun n f a0=>∃ ap an bp ac a3 a4,n=a4.length∧ae.drop a3=a4∧Zbj ad a4 ac=some r∧St w0 (Zf col) ap a0∧Zc Za.bool 4 3 ap a0 dc ad.length (aC ad.length (false:Bool))∧Sl rI ap a0 an bp ac∧Zc rI 3 2 ap a0 al am ad∧[80,2].map f=[.int .i64 a3,.slice an ac.length bp]) ae.length ⟨_,_,_,_,0,_,rfl,rfl,hm,aa,ai,(h2.ks aa),ab,rfl⟩ ?_;clear hm;intro n f a0 hI;obtain ⟨ap,an,bp,ac,a3,a4,hn,hl,hm,aa,ai,aj,ab,hs⟩:=hI;subst hn;refine .lL [80,2] hs ?_
   cases a4 with
   | nil=>
    have hk:¬ ((a3:Int)<(ae.length:Int)):=by have:=aM.1 hl;omega
    have hkb:=decide_eq_false hk;rw [Zbj.eq_1] at hm;refine go ?_;refine Yc (congrArg Value.bool hkb)<|go ?_;refine Zs [9,95,96,1000000] (fun n f aq=>∃ ao a5 a6 ar a7 a8,n=a8.length∧ac.drop a7=a8∧Q1 ad a8 ar=some r∧St w0 (Zf col) ao aq∧Zc Za.bool 4 3 ao aq a5 a6 ar∧Zc rI 3 2 ao aq al am ad∧Sl rI ao aq an bp ac∧[97,14].map f=[.int .i64 a7,.slice a5 ar.length a6]) ac.length ⟨_,_,_,_,0,_,rfl,rfl,hm,aa,ai,ab,aj,rfl⟩ ?_;clear hm;intro n f aq hI;obtain ⟨ao,a5,a6,ar,a7,a8,hn,hl,hm,aa,bq,ab,aj,hs⟩:=hI;subst hn;refine .lL [97,14] hs ?_
    cases a8 with
    | nil=>
     have hk:¬ ((a7:Int)<(ac.length:Int)):=by have:=aM.1 hl;omega
     have hkb:=decide_eq_false hk;rw [Q1.eq_1] at hm;refine go ?_;refine Yc (congrArg Value.bool hkb)<|go ?_;obtain ⟨a9,dd,hm⟩:=bZ hm;refine Zk (Znb dd (ab.toSlF (Zh.int .i64))) fun _ de ⟨e',br⟩=>⟨_,e',?_⟩;replace br:Zn ao aq ao de:=.of_below br;refine lM (.tuple #[.int .i64 a9.1,.int .i64 a9.2])<|lV (.int .i64 a9.1) (Xu rfl rfl)<|lV (.int .i64 a9.2) (Xu rfl rfl)<|Y4 rfl<|Y4 rfl<|Zl<|Z0 ?_;replace ab:=ab.gr br;replace aa:=aa.grow br;refine Wp.cutK [9,1000000] (fun f b9=>∃ ca cb,Zc4 ad cb=some r∧St w0 (Zf col) ca b9∧Zc rI 3 2 ca b9 al am ad∧[119].map f=[.bool cb]) ?_ ?_
     ·intro f b9 hJ;obtain ⟨ca,cb,hm,aa,ab,hs⟩:=hJ;rw [Zc4.eq_1] at hm;refine .lL [119] hs ?_;refine Zm hm (fun hb hm=>go ?_) fun hb hm=>go ?_
      ·cases hm;exact ⟨rfl,_,none,0,rfl,aa.fin (cm []),Zc.nil⟩
      cases hm;exact ⟨rfl,_,_,_,rfl,aa.fin (cm [(2,c1)]),aa.fo ab⟩
     refine go ?_;refine Xn hm (fun cc hm=>go ?_) fun cc hm=>go ?_
     ·refine lV (.bool true) (Zw (congrArg Value.bool cc) rfl)<|Zl ?_;exact ⟨rfl,_,_,hm,aa,ab,rfl⟩
     refine lV (.bool (decide (65536<a9.1))) (Xk (congrArg Value.bool cc) rfl)<|Zl ?_;exact ⟨rfl,_,_,hm,aa,ab,rfl⟩
    | cons df dg=>
     obtain ⟨ag,dh,di⟩:=Yu hl;have hk:(a7:Int)<(ac.length:Int):=by omega
     have hkb:=decide_eq_true hk;rw [Q1.eq_2] at hm;refine go ?_;refine Yd (congrArg Value.bool hkb)<|go ?_;refine lI ag (aj.addr ag)<|lW (aj.atInt ag) ?_;refine go ?_;obtain ⟨ef,au,hm⟩:=bZ hm;refine lI au (bq.addr au)<|lW (bq.atBool au)<|Zl ?_;refine Zm hm (fun hb hm=>go ?_) fun hb hm=>go ?_
     ·cases hm;exact ⟨rfl,_,none,0,rfl,aa.fin (cm []),Zc.nil⟩
     refine lI au (bq.addr au) ?_;obtain ⟨cd,bs,hm⟩:=bZ hm;have bs:cd=ar.set (aA df) true:=(Option.some.inj bs).symm;refine Znm (x1:=true) (v:=(.bool true)) bq au rfl sizeOf4 (U0 true) rfl rfl (by decide) ?_;intro eg ce dj cx;rw [← bs] at cx;refine .ld (d:=14) (v:=(.slice a5 cd.length a6)) (congrArg (fun n=>Value.slice a5 n a6) (show ar.length=cd.length by rw [bs,nS])) ?_;refine go ?_;replace ab:=ab.kp ce;replace aj:=aj.kp ce;replace aa:=aa.kp ce dj;exact ⟨dg.length,by simp,rfl,⟨_,_,_,_,_,_,rfl,dh,hm,aa,cx,ab,aj,(Y2 (congrArg (Value.int .i64) (Yx (aK di aj.1.1))) rfl)⟩⟩
   | cons bt dk=>
    obtain ⟨ag,dl,dm⟩:=Yu hl;have hk:(a3:Int)<(ae.length:Int):=by omega
    have hkb:=decide_eq_true hk;rw [Zbj.eq_2] at hm;refine go ?_;refine Yd (congrArg Value.bool hkb)<|go ?_;refine lI ag ((h1.ks aa).addr ag) ?_;obtain ⟨_,dn,dp⟩:=(h1.ks aa).atN ag;obtain ⟨_,_,rfl,dq,dr⟩:=Yb dn;obtain ⟨rfl,_⟩:=dq;obtain ⟨rfl,_⟩:=dr;refine lV (.agg #[.int .i64 bt.1,.int .i64 bt.2]) (Ym isAgg66 sizeOf66 rfl rfl dp)<|Xx (col:=ap) #[.int .i64 0,.int .i64 0] 4 zeroValue66 ?_;intro eh ei bu bv ds;refine Xf ds ?_;intro ej bw dt du;refine Zl<|Wc (col:=bu) [(0,1),(1,1),(2,1),(3,1),(4,1),(5,1),(6,1),(7,0),(8,3),(9,2),(10,1)] (by kernel_rfl) (by kernel_rfl)<|xu rfl rfl (fun _=>Va rfl) ?_;refine xu rfl rfl (fun _=>Va rfl) ?_;refine xu rfl rfl (fun _=>Uz underlying36 rfl) ?_;refine xu rfl rfl (fun _=>Va rfl) ?_;refine xu rfl rfl (fun _=>Uz underlying36 rfl) ?_;obtain ⟨ba,hm⟩:=Zv hm;replace aj:=(aj.gr bv).kp bw;have av:=(aj.take (aA (ac.length:Int))).recap (show (ac.take (aA (ac.length:Int))).length≤(aA (ac.length:Int)) by rw [cE (i:=(aA (ac.length:Int))) (l:=ac)];have:=ba.2;omega);refine xu (v:=.slice an (aA (ac.length:Int)) (aA (ac.length:Int))) rfl rfl (fun _=>Z81 underlying36 sizeOf3 rfl rfl rfl ba.2.1 ba.2.2.1 (by have:=aj.1.2;have:=ba.2.2.2;omega)) ?_;refine .ld (d:=89) (v:=(.slice an ((ac.take (aA (ac.length:Int))).length) (aA (ac.length:Int)))) (congrArg (fun n=>Value.slice an n (aA (ac.length:Int))) (show (aA (ac.length:Int))=(ac.take (aA (ac.length:Int))).length by rw [cE (i:=(aA (ac.length:Int))) (l:=ac)];have:=ba.2;omega)) ?_;refine xF ⟨_,_,rfl⟩ ?_;refine xW (fun _ hC=>((du.atN).nth (q:=0) rfl).gr (hC.bl bu)) ?_;refine xe rfl rfl ?_;intro ek hC0;have hC:=hC0.bl bu;refine Wj (col:=bu) [bt.1] 5 ?_;intro el em cf bb cg;refine Zl<|Xt cf hC0 bb<|xe rfl rfl ?_;intro dv hC0;replace ai:=(((ai.gr bv).kp bw).gr hC).gr bb;replace ab:=(((ab.gr bv).kp bw).gr hC).gr bb;replace aa:=(((aa.grow bv).kp bw dt).grow hC).grow bb;replace av:=(av.gr hC).gr bb;have hC:=hC0.bl cf;obtain ⟨cy,hm⟩:=Zv hm;replace av:=av.gr hC;have dw:(aA (ac.length:Int))=(ac.take (aA (ac.length:Int))).length:=by have:=av.1.2;rw [cE (i:=(aA (ac.length:Int))) (l:=ac)] at this ⊢;omega
    refine Z67 (col:=cf) (w:=dv) (r:=rI) (c:=6) (c2:=6) 6 (xs:=ac.take (aA (ac.length:Int))) (ys:=[bt.1]) av dw (NB.int (k:=.i64)) (by simp) ((cg.gr hC).srcN (NB.int (k:=.i64))) rfl underlying36 Z56 rfl rfl rfl cy.1 cy.2 ?_;intro en eo ep cz ch bc;refine Zl<|xk cz<|xu rfl rfl (fun _=>r_aS rfl) ?_;refine Y0 ?_;replace ai:=(ai.gr hC).gr ch;replace ab:=(ab.gr hC).gr ch;replace aa:=(aa.grow hC).grow ch;intro eq hC;replace hC:=hC.bl cz;refine go ?_;replace ai:=ai.gr hC;replace bc:=bc.gr hC;replace ab:=ab.gr hC;replace ab:=ab.froz 6;replace aa:=aa.grow hC;replace aa:=aa.froz 6 (by decide) (by decide);exact ⟨dk.length,by simp,rfl,⟨_,_,_,_,_,_,rfl,dl,hm,aa,ai.froz 6,(bc).toSlF (Zh.int .i64),ab,(Y2 (congrArg (Value.int .i64) (Yx (aK dm (h1.ks aa).1.1))) rfl)⟩⟩
  | cons dx c0=>
   obtain ⟨ag,dy,dz⟩:=Yu hl;have hk:(ay:Int)<(ah.length:Int):=by omega
   have hkb:=decide_eq_true hk;rw [Sz.eq_2] at hm;refine go ?_;refine Yd (congrArg Value.bool hkb)<|go ?_;refine lI ag ((h2.ks aa).addr ag)<|lW ((h2.ks aa).atInt ag)<|Y4 rfl<|Zl<|Z0 ?_;refine Wp.cutK [1,2,60,61,62,9,1000000] (fun f ci=>∃ cj ck,Zhx (Sz ae ah ad c0) ck=some r∧St w0 (Zf col) cj ci∧Zc rI 3 2 cj ci al am ad∧[73].map f=[.bool ck]) ?_ ?_
   ·intro f ci hJ;obtain ⟨cj,ck,hm,aa,ab,hs⟩:=hJ;rw [Zhx.eq_1] at hm;refine .lL [73] hs ?_;refine Zm hm (fun hb hm=>go ?_) fun hb hm=>go ?_
    ·cases hm;exact ⟨rfl,_,none,0,rfl,aa.fin (cm []),Zc.nil⟩
    exact ⟨c0.length,by simp,rfl,⟨_,_,_,rfl,dy,hm,aa,ab,(Y2 (congrArg (Value.int .i64) (Yx (aK dz (h2.ks aa).1.1))) rfl)⟩⟩
   refine go ?_;refine Xn hm (fun cl hm=>go ?_) fun cl hm=>go ?_
   ·refine lV (.bool true) (Zw (congrArg Value.bool cl) rfl)<|Zl ?_;exact ⟨rfl,_,_,hm,aa,ab,rfl⟩
   refine lV (.bool (decide ((ad.length:Int)≤dx))) (Xk (congrArg Value.bool cl) rfl)<|Zl ?_;exact ⟨rfl,_,_,hm,aa,ab,rfl⟩
 | cons bd c3=>
  obtain ⟨ag,d0,d1⟩:=Yu hl;have hk:(aw:Int)<(ae.length:Int):=by omega
  have hkb:=decide_eq_true hk;rw [Sa.eq_2] at hm;refine go ?_;refine Yd (congrArg Value.bool hkb)<|go ?_;refine lI ag ((h1.ks aa).addr ag) ?_;obtain ⟨_,d2,d3⟩:=(h1.ks aa).atN ag;obtain ⟨_,_,rfl,d4,d5⟩:=Yb d2;obtain ⟨rfl,_⟩:=d4;obtain ⟨rfl,_⟩:=d5;refine lV (.agg #[.int .i64 bd.1,.int .i64 bd.2]) (Ym isAgg66 sizeOf66 rfl rfl d3)<|Xx (col:=bm) #[.int .i64 0,.int .i64 0] 7 zeroValue66 ?_;intro er es ak c4 d6;refine Xf d6 ?_;intro et c5 d7 be;refine Zl<|Z0 ?_;replace ab:=(ab.gr c4).kp c5;replace aa:=(aa.grow c4).kp c5 d7;refine Wp.cutK [1,2,28,29,30,9,1000000] (fun f cn=>∃ co cp,Zau (Sa ae ah ad c3) cp=some r∧St w0 (Zf col) co cn∧Zc rI 3 2 co cn al am ad∧[58].map f=[.bool cp]) ?_ ?_
  ·intro f cn hJ;obtain ⟨co,cp,hm,aa,ab,hs⟩:=hJ;rw [Zau.eq_1] at hm;refine .lL [58] hs ?_;refine Zm hm (fun hb hm=>go ?_) fun hb hm=>go ?_
   ·cases hm;exact ⟨rfl,_,none,0,rfl,aa.fin (cm []),Zc.nil⟩
   exact ⟨c3.length,by simp,rfl,⟨_,_,_,rfl,d0,hm,aa,ab,(Y2 (congrArg (Value.int .i64) (Yx (aK d1 (h1.ks aa).1.1))) rfl)⟩⟩
  refine Y7 (col:=ak) (by kernel_rfl) (by kernel_rfl)<|qF ⟨_,_,rfl⟩ ?_;refine qW (fun _ hC=>((be.atN).nth (q:=0) rfl).gr (hC.bl ak)) ?_;refine go ?_;refine Xn hm (fun cq hm=>go ?_) fun cq hm=>go ?_
  ·refine qv (v:=(.bool true)) rfl (fun _ hC=>Zw (congrArg Value.bool cq) rfl) ?_;refine go ?_;refine qP 44 rfl rfl<|qP 44 rfl rfl<|qP 44 rfl rfl<|qv (v:=(.bool true)) rfl (fun _ hC=>Zw rfl rfl) ?_;refine go ?_;refine qP 49 rfl rfl<|qP 49 rfl rfl<|qP 49 rfl rfl<|qP 49 rfl rfl<|qP 49 rfl rfl<|qP 49 rfl rfl<|qP 49 rfl rfl<|qP 49 rfl rfl<|qv (v:=(.bool true)) rfl (fun _ hC=>Zw rfl rfl) ?_;refine X2 ?_;intro eu hC;replace hC:=hC.bl ak;replace ab:=ab.gr hC;replace aa:=aa.grow hC;exact ⟨rfl,_,_,hm,aa,ab,rfl⟩
  refine qF ⟨_,_,rfl⟩ ?_;refine go ?_;refine qW (fun _ hC=>((be.atN).nth (q:=0) rfl).gr (hC.bl ak)) ?_;refine go ?_;refine qv (v:=(.bool (decide ((ad.length:Int)≤bd.1)))) rfl (fun _ hC=>Xk (congrArg Value.bool cq) rfl) ?_;refine go ?_;refine Xn hm (fun cr hm=>go ?_) fun cr hm=>go ?_
  ·refine qv (v:=(.bool true)) rfl (fun _ hC=>Zw (congrArg Value.bool cr) rfl) ?_;refine go ?_;refine qP 49 rfl rfl<|qP 49 rfl rfl<|qP 49 rfl rfl<|qP 49 rfl rfl<|qP 49 rfl rfl<|qP 49 rfl rfl<|qP 49 rfl rfl<|qP 49 rfl rfl<|qv (v:=(.bool true)) rfl (fun _ hC=>Zw rfl rfl) ?_;refine X2 ?_;intro ew hC;replace hC:=hC.bl ak;replace ab:=ab.gr hC;replace aa:=aa.grow hC;exact ⟨rfl,_,_,hm,aa,ab,rfl⟩
  refine qF ⟨_,_,rfl⟩ ?_;refine go ?_;refine qW (fun _ hC=>((be.atN).nth (q:=1) rfl).gr (hC.bl ak)) ?_;refine go ?_;refine qv (v:=(.bool (decide (bd.2<0)))) rfl (fun _ hC=>Xk (congrArg Value.bool cr) rfl) ?_;refine go ?_;refine Xn hm (fun cs hm=>go ?_) fun cs hm=>go ?_
  ·refine qv (v:=(.bool true)) rfl (fun _ hC=>Zw (congrArg Value.bool cs) rfl) ?_;refine X2 ?_;intro ey hC;replace hC:=hC.bl ak;replace ab:=ab.gr hC;replace aa:=aa.grow hC;exact ⟨rfl,_,_,hm,aa,ab,rfl⟩
  refine qF ⟨_,_,rfl⟩ ?_;refine go ?_;refine qW (fun _ hC=>((be.atN).nth (q:=1) rfl).gr (hC.bl ak)) ?_;refine go ?_;refine qF ⟨_,_,rfl⟩ ?_;refine go ?_;refine qW (fun _ hC=>((be.atN).nth (q:=0) rfl).gr (hC.bl ak)) ?_;refine go ?_;obtain ⟨d8,ct,hm⟩:=bZ hm;refine qI ct (ab.addr ct) ?_;refine go ?_;refine qW (fun _ hC=>(ab.gr (hC.bl ak)).atInt ct) ?_;refine go ?_;refine qv (v:=(.bool (decide (d8≤bd.2)))) rfl (fun _ hC=>Xk (congrArg Value.bool cs) rfl) ?_;refine X2 ?_;intro ez hC;replace hC:=hC.bl ak;exact ⟨rfl,_,_,hm,aa.grow hC,ab.gr hC,rfl⟩
def Zq6:Option (List Rj):=
  some []
theorem Z2x (cy:Nat) (col:Zd) (w0:World) (r:List Rj) (hm:Zq6=some r):
    Zel prog 2 37 [] (fun (y:List Int×R1) (col:Zd) (w:World) (args:List Value)=>∃ a0 ab a1_0_1 c1_0_1 ac ad,args=[.slice a0 y.1.length ab,.agg #[.bool y.2.1.1,.slice a1_0_1 y.2.1.2.length c1_0_1,.slice ac y.2.2.length ad]]∧Zc rI 3 cy col w a0 ab y.1∧Sl rU col w a1_0_1 c1_0_1 y.2.1.2∧Sl rU col w ac ad y.2.2) r col w0:=by
 intro l J X hjs hxs hy aa;refine Ztt (mc:=1998) (m:=2) (args:=[.func (.yield l) #[] #[]]) func37 rfl rfl rfl rfl ?_;rw [Zq6.eq_1] at hm;have hmk:Yp 1998 col w0 []:=.nil;refine Yj ?_;cases hm;refine ⟨_,[],rfl,hmk,?_⟩;intro ag ae af;replace aa:=hjs _ _ _ _ _ aa (ae.toP af rfl);exact ⟨⟨_,rfl⟩,_,.inl aa⟩
theorem Z6e:Y1 prog 9 1 16:=⟨Tryz.t9,_,rfl,rfl,rfl,rfl,rfl⟩
def Zgz (aa:List ByteArray):Option R8:=
  Zt ((([]:List ByteArray).length+aa.length) * 16≤140737488355328∧([]:List ByteArray).length+aa.length≤maxLen) (some (([]:List ByteArray)++aa))
theorem Ztq {ad:Nat} {a0:Option Addr} {col:Zd} {w0:World} {ac r:R8} (c1:Nat) (hm:Zgz ac=some r) (h0:Sl Za.str col w0 a0 ad ac):
    Calls prog 91 #[.slice a0 ac.length ad] w0 (fun e w'=>∃ col' ra1 rc2,e= .returned ((.slice ra1 r.length rc2))∧Zn col w0 col' w'∧Zc Za.str 9 c1 col' w' ra1 rc2 r):=by
 refine Z6 2 (m:=8) func91 rfl rfl rfl rfl rfl ?_;rw [Zgz.eq_1] at hm;have aa:=St.start col w0;refine go ?_;replace h0:=h0.k0;rcases Zrg h0 with ab | ab
 ·replace hm:some ([]:List ByteArray)=some r:=by have h0:=ab.2;subst h0;simpa [Zt,maxLen] using hm
  refine lv (v:=.bool a0.isNone) rfl rfl (Zjr underlying22 rfl)<|.ld (d:=4) (v:=.bool true) (congrArg Value.bool ab.1)<|Zl<|Yd rfl<|go ?_;cases hm;exact ⟨rfl,_,none,0,rfl,aa.fin (cm []),Zc.nil⟩
 refine lv (v:=.bool a0.isNone) rfl rfl (Zjr underlying22 rfl)<|.ld (d:=4) (v:=.bool false) (congrArg Value.bool ab)<|Zl<|Yc rfl<|go ?_;refine Zq2 (col:=(Zf col)) (r:=Za.str) 1 rfl underlying22 Z6e rfl ?_;intro aj ak al ae af;refine Wo rfl ?_;obtain ⟨ag,hm⟩:=Zv hm;refine Yy af (h0.gr ae).srcC ag ?_;intro am an ao ap ah ai;refine go ?_;cases hm;replace aa:=(aa.grow ae).kpp ah;exact ⟨rfl,_,_,_,rfl,aa.fin (cm [(1,c1)]),aa.fo ai⟩
theorem Z5v:Y1 prog 22 1 24:=⟨Tryz.t22,_,rfl,rfl,rfl,rfl,rfl⟩
theorem Z5x:Y1 prog 29 1 24:=⟨Tryz.t29,_,rfl,rfl,rfl,rfl,rfl⟩
theorem Z5z:Y1 prog 36 1 24:=⟨Tryz.t36,_,rfl,rfl,rfl,rfl,rfl⟩
def Zc5 (N:Nat) (ae:Int) (af:ByteArray) (ag:List ByteArray) (ah:List R8) (ai:List R2) (ac:List R6) (kk_L1:(Int→ByteArray→R8→(List R8)→Rd→(List R6)→Option R0)) (aj:List ByteArray) (ak:List Int):List R1→R6→Option R0
  | [],ab=>Zt ((ac.length+[ab].length) * 24≤140737488355328∧ac.length+[ab].length≤maxLen) (kk_L1 (i64.wrap (ae+1)) af ag (ah++[aj]) (ai++[ak]) (ac++[ab]))
  | ad :: al,ab=>(Zbi N ((ad.1.1,ad.1.2),ad.2) ((false,([]:List Int)),([]:List Int))).bind fun aa=>Zt ((ab.length+[((aa.1.1,aa.1.2),aa.2)].length) * 56≤140737488355328∧ab.length+[((aa.1.1,aa.1.2),aa.2)].length≤maxLen) ((Zc5 N ae af ag ah ai ac kk_L1 aj ak al) (ab++[((aa.1.1,aa.1.2),aa.2)]))
def Zbk (N:Nat) (aa:R0):Nat→Int→ByteArray→R8→(List R8)→Rd→(List R6)→Option R0
  | 0,_,_,_,_,_,_=>none
  | aj+1,ab,ag,ah,ac,ad,ai=>if (decide (ab<(aa.2.1.length:Int)))=true then ((Zi aa.2.2.1 ab).bind fun ak=>(Zgz ak).bind fun ae=>Zt ((ac.length+[ae].length) * 24≤140737488355328∧ac.length+[ae].length≤maxLen) ((Zi aa.2.2.2.1 ab).bind fun al=>(Zd8 al).bind fun af=>Zt ((ad.length+[af].length) * 24≤140737488355328∧ad.length+[af].length≤maxLen) ((Zi aa.2.2.2.2 ab).bind fun am=>Zc5 N ab ag ah ac ad ai (Zbk N aa aj) ae af am ([]:List R1)))) else (some (ag,ah,ac,ad,ai))
def Zhy (N:Nat) (aa:R0):Option R0:=
  (Zgz aa.2.1).bind fun ab=>Zbk N aa N 0 aa.1 ab ([]:List R8) ([]:List R2) ([]:List R6)
theorem Z2z {N cd bz bu bi:Nat} {ce b0 bv bj:Option Addr} {col:Zd} {w0:World} {af r:R0} (c1 c2 c3 c4:Nat) (hm:Zhy N af=some r) (cv:Sl Za.str col w0 ce cd af.2.1) (cf:Sl rV col w0 b0 bz af.2.2.1) (cg:Sl rP col w0 bv bu af.2.2.2.1) (ch:Sl (Za.slice rQ) col w0 bj bi af.2.2.2.2):
    Calls prog 38 #[(.agg #[.string af.1,.slice ce af.2.1.length cd,.slice b0 af.2.2.1.length bz,.slice bv af.2.2.2.1.length bu,.slice bj af.2.2.2.2.length bi])] w0 (fun e w'=>∃ col' ra1 rc2 ra4 rc5 ra7 rc8 ra10 rc11,e= .returned ((.agg #[.string r.1,.slice ra1 r.2.1.length rc2,.slice ra4 r.2.2.1.length rc5,.slice ra7 r.2.2.2.1.length rc8,.slice ra10 r.2.2.2.2.length rc11]))∧Zn col w0 col' w'∧Zc Za.str 9 c1 col' w' ra1 rc2 r.2.1∧Zc (Za.row 9 Za.str) 22 c2 col' w' ra4 rc5 r.2.2.1∧Zc (Za.row 3 rI) 36 c3 col' w' ra7 rc8 r.2.2.2.1∧Zc (Za.row 42 (rO 45)) 29 c4 col' w' ra10 rc11 r.2.2.2.2):=by
 refine We (m:=69) func38 rfl rfl rfl ?_;rw [Zhy.eq_1] at hm;have aa:=St.start col w0;refine go ?_;refine Xl (col:=(Zf col)) 1 rfl ?_;intro dt f4 d9 ea ab;refine Xx (col:=d9) #[.string (⟨#[]⟩),.slice none (([]:List ByteArray).length) 0,.slice none (([]:List R8).length) 0,.slice none (([]:List R2).length) 0,(.slice none (([]:List R6).length) 0)] 2 zeroValue27 ?_;intro du f5 eb dv ac;refine go ?_;replace ab:=ab.gr dv;refine lV _ (Z9 isAgg27 sizeOf27 ab)<|Xx (col:=eb) #[.string (⟨#[]⟩),.slice none (([]:List ByteArray).length) 0,.slice none (([]:List R8).length) 0,.slice none (([]:List R2).length) 0,(.slice none (([]:List R6).length) 0)] 3 zeroValue27 ?_;intro a4 f6 f7 cw ec;refine Xf ec ?_;intro f8 cx ed cy;refine go ?_;refine Z7 ⟨_,_,rfl⟩ ?_;replace ab:=(ab.gr cw).kp cx;refine lW ((ab.atN).nth (q:=1) rfl) ?_;obtain ⟨b1,ee,hm⟩:=bZ hm;replace aa:=(((aa.grow ea).grow dv).grow cw).kp cx ed;refine Zk (Ztq 4 ee (cv.k0.ks aa)) fun _ f9 ⟨ci,b2,b3,e',cj,cz⟩=>⟨_,e',?_⟩;refine Z7 ⟨_,_,rfl⟩ ?_;refine Ud (off:=1) (v:=(.slice b2 b1.length b3)) (cy.gr cj) sizeOf22 rfl rfl (by intro u hu;simp only [Value.cells,aP,bA,or_false] at hu;subst hu;rfl) rfl rfl ?_;intro ef ck eg c0;replace c0:Zj 27 3 ci ef a4 #[.string af.1,.slice b2 b1.length b3,.slice b0 af.2.2.1.length bz,.slice bv af.2.2.2.1.length bu,.slice bj af.2.2.2.2.length bi]:=c0;refine go ?_;refine Z7 ⟨_,_,rfl⟩ ?_;refine Ud (off:=2) (v:=(.slice none (([]:List R8).length) 0)) c0 sizeOf23 rfl rfl (by intro u hu;simp only [Value.cells,aP,bA,or_false] at hu;subst hu;rfl) rfl rfl ?_;intro eh cl ei c5;replace c5:Zj 27 3 ci eh a4 #[.string af.1,.slice b2 b1.length b3,.slice none (([]:List R8).length) 0,.slice bv af.2.2.2.1.length bu,.slice bj af.2.2.2.2.length bi]:=c5;refine Z7 ⟨_,_,rfl⟩ ?_;refine Ud (off:=3) (v:=(.slice none (([]:List R2).length) 0)) c5 sizeOf24 rfl rfl (by intro u hu;simp only [Value.cells,aP,bA,or_false] at hu;subst hu;rfl) rfl rfl ?_;intro ej cn ek c6
 replace c6:Zj 27 3 ci ej a4 #[.string af.1,.slice b2 b1.length b3,.slice none (([]:List R8).length) 0,.slice none (([]:List R2).length) 0,.slice bj af.2.2.2.2.length bi]:=c6;refine Z7 ⟨_,_,rfl⟩ ?_;refine Ud (off:=4) (v:=(.slice none (([]:List R6).length) 0)) c6 sizeOf25 rfl rfl (by intro u hu;simp only [Value.cells,aP,bA,or_false] at hu;subst hu;rfl) rfl rfl ?_;intro el co em aj;replace aj:Zj 27 3 ci el a4 #[.string af.1,.slice b2 b1.length b3,.slice none (([]:List R8).length) 0,.slice none (([]:List R2).length) 0,(.slice none (([]:List R6).length) 0)]:=aj;refine go ?_;refine Z7 ⟨_,_,rfl⟩ ?_;replace ab:=((((ab.gr cj).kp ck).kp cl).kp cn).kp co;refine lW ((ab.atN).nth (q:=1) rfl)<|go ?_;replace ac:=((((((ac.gr cw).kp cx).gr cj).kp ck).kp cl).kp cn).kp co;replace aa:=((((aa.grow cj).kp ck eg).kp cl ei).kp cn ek).kp co em;refine Zs [1,18,2,3,1000000] (fun n f a5=>∃ ak cp bd be bf ax c7 c8 ar cq cr au bk bm av bn,bn=n∧Zbk N af bn cp bd ax ar au av=some r∧St w0 (Zf col) ak a5∧Zj 27 1 ak a5 dt #[.string af.1,.slice ce af.2.1.length cd,.slice b0 af.2.2.1.length bz,.slice bv af.2.2.2.1.length bu,.slice bj af.2.2.2.2.length bi]∧Zj 27 2 ak a5 du #[.string (⟨#[]⟩),.slice none (([]:List ByteArray).length) 0,.slice none (([]:List R8).length) 0,.slice none (([]:List R2).length) 0,(.slice none (([]:List R6).length) 0)]∧Zc Za.str 9 4 ak a5 be bf ax∧Zc (Za.row 9 Za.str) 22 5 ak a5 c7 c8 ar∧Zc (Za.row 3 rI) 36 6 ak a5 cq cr au∧Zc (Za.row 42 (rO 45)) 29 7 ak a5 bk bm av∧Zj 27 3 ak a5 a4 #[.string bd,.slice be ax.length bf,.slice c7 ar.length c8,.slice cq au.length cr,.slice bk av.length bm]∧[19].map f=[.int .i64 cp]) N ⟨_,0,_,_,_,_,none,0,_,none,0,_,none,0,_,_,rfl,hm,aa,ab,ac,(((cz.kp ck).kp cl).kp cn).kp co,Zc.nil,Zc.nil,Zc.nil,aj,rfl⟩ ?_;clear hm;intro n f a5 hI;obtain ⟨ak,cp,bd,be,bf,ax,c7,c8,ar,cq,cr,au,bk,bm,av,bn,hn,hm,aa,ab,ac,ad,ay,ah,ae,aj,hs⟩:=hI;subst hn;refine .lL [19] hs ?_;replace cf:=cf.k0
 replace cg:=cg.k0;replace ch:=ch.k0
 cases bn with
 | zero=>rw [Zbk.eq_1] at hm;cases hm
 | succ bn=>
  rw [Zbk.eq_2] at hm;refine go ?_;refine Zm hm (fun hb hm=>go ?_) fun hb hm=>go ?_
  ·refine Wc (col:=ak) [(0,1),(1,0),(2,1),(3,0),(4,1),(5,1),(6,0),(7,3),(8,3),(9,2),(10,1),(11,2)] (by kernel_rfl) (by kernel_rfl)<|xF ⟨_,_,rfl⟩ ?_;refine xW (fun _ hC=>((aj.atN).nth (q:=2) rfl).gr (hC.bl ak)) ?_;refine xF ⟨_,_,rfl⟩ ?_;refine xW (fun _ hC=>((ab.atN).nth (q:=2) rfl).gr (hC.bl ak)) ?_;refine xu rfl rfl (fun _=>Yz rfl) ?_;obtain ⟨ga,ct,hm⟩:=bZ hm;refine xu rfl rfl (fun _=>Yv underlying23 sizeOf22 rfl rfl (Xe ct).1 (Xe ct).2.1 ((cf.ks aa).addr ct)) ?_;obtain ⟨_,en,eo⟩:=(cf.ks aa).atN ct;obtain ⟨⟨gb,gc,rfl,c9⟩,_⟩:=en;refine xW (fun _ hC=>eo.one.gr (hC.bl ak)) ?_;refine xe rfl rfl ?_;intro gd hC0;have hC:=hC0.bl ak;obtain ⟨az,ep,hm⟩:=bZ hm;refine Zk (Ztq 8 ep (c9.gr hC)) fun _ ge ⟨da,dw,dx,e',a6,db⟩=>⟨_,e',?_⟩;refine Zl<|Xt da hC0 a6<|xe rfl rfl ?_;intro gf hC0;replace ad:=(ad.gr hC).gr a6;replace ay:=(ay.gr hC).gr a6;replace ah:=(ah.gr hC).gr a6;replace ae:=(ae.gr hC).gr a6;replace ab:=(ab.gr hC).gr a6;replace ac:=(ac.gr hC).gr a6;replace aj:=(aj.gr hC).gr a6;replace aa:=(aa.grow hC).grow a6;have hC:=hC0.bl da;refine Uo (col:=da) (r:=(Za.row 9 Za.str)) (xs:=[az]) [.slice dw az.length dx] 8 (W0.cons1 (cs:=[.slice dw az.length dx]) (db.gr hC).has Rows.nil0) ?_;intro gg gh dc a7 dd;refine Zl<|Xt dc hC0 a7<|xe rfl rfl ?_;intro eq hC0;replace ad:=(ad.gr hC).gr a7;replace ay:=(ay.gr hC).gr a7;replace ah:=(ah.gr hC).gr a7;replace ae:=(ae.gr hC).gr a7;replace ab:=(ab.gr hC).gr a7;replace ac:=(ac.gr hC).gr a7;replace aj:=(aj.gr hC).gr a7;replace aa:=(aa.grow hC).grow a7;have hC:=hC0.bl dc;obtain ⟨dy,hm⟩:=Zv hm;replace ay:=ay.gr hC;refine V8 (col:=dc) (w:=eq) (r:=(Za.row 9 Za.str)) (c:=5) (c2:=8) (ay.ex) ((dd.gr hC).srcC (by decide)) rfl underlying23 Z5v rfl rfl rfl dy.1 dy.2 (by decide) ?_;intro bw bx gi a0 bo de;refine Zl<|xk a0<|xF ⟨_,_,rfl⟩ ?_;refine xe rfl rfl ?_;intro gj hC0;replace ad:=(ad.gr hC).kpp bo;replace ah:=(ah.gr hC).kpp bo;replace ae:=(ae.gr hC).kpp bo;replace ab:=(ab.gr hC).kpp bo;replace ac:=(ac.gr hC).kpp bo;replace aj:=(aj.gr hC).kpp bo;replace aa:=(aa.grow hC).kpp bo;have hC:=hC0.bl a0;replace aj:=aj.gr hC
   refine Ud (off:=2) (v:=(.slice bw ((ar++[az]).length) bx)) aj sizeOf23 rfl rfl (by intro u hu;simp only [Value.cells,aP,bA,or_false] at hu;subst hu;rfl) rfl rfl ?_;intro er bp es al;replace al:Zj 27 3 a0 er a4 #[.string bd,.slice be ax.length bf,.slice bw ((ar++[az]).length) bx,.slice cq au.length cr,.slice bk av.length bm]:=al;refine Zl<|xk a0 ?_;have ag:=((de.gr hC).kp bp).new;refine Y0 ?_;replace ad:=(ad.gr hC).kp bp;replace ah:=(ah.gr hC).kp bp;replace ae:=(ae.gr hC).kp bp;replace ab:=(ab.gr hC).kp bp;replace ac:=(ac.gr hC).kp bp;replace aa:=(aa.grow hC).kp bp es;intro gk hC;replace hC:=hC.bl a0;refine Z0<|Wc (col:=a0) [(0,1),(1,0),(2,1),(3,0),(4,1),(5,1),(6,0),(7,3),(8,3),(9,2),(10,1),(11,2)] (by kernel_rfl) (by kernel_rfl)<|xF ⟨_,_,rfl⟩ ?_;replace al:=al.gr hC;refine xW (fun _ hC=>((al.atN).nth (q:=3) rfl).gr (hC.bl a0)) ?_;refine xF ⟨_,_,rfl⟩ ?_;replace ab:=ab.gr hC;refine xW (fun _ hC=>((ab.atN).nth (q:=3) rfl).gr (hC.bl a0)) ?_;refine xu rfl rfl (fun _=>Yz rfl) ?_;obtain ⟨gl,cu,hm⟩:=bZ hm;replace aa:=aa.grow hC;refine xu rfl rfl (fun _=>Yv underlying24 sizeOf36 rfl rfl (Xe cu).1 (Xe cu).2.1 ((cg.ks aa).addr cu)) ?_;obtain ⟨_,et,eu⟩:=(cg.ks aa).atN cu;obtain ⟨⟨gm,gp,rfl,df⟩,_⟩:=et;refine xW (fun _ hC=>eu.one.gr (hC.bl a0)) ?_;refine xe rfl rfl ?_;intro gs hC0;replace ad:=ad.gr hC;replace ag:=ag.gr hC;replace ah:=ah.gr hC;replace ae:=ae.gr hC;replace ac:=ac.gr hC;have hC:=hC0.bl a0;obtain ⟨a8,ew,hm⟩:=bZ hm;refine Zk (Zqd 9 ew (df.gr hC)) fun _ gt ⟨dg,dz,d0,e',a9,dh⟩=>⟨_,e',?_⟩;refine Zl<|Xt dg hC0 a9<|xe rfl rfl ?_;intro gu hC0;replace ad:=(ad.gr hC).gr a9;replace ag:=(ag.gr hC).gr a9;replace ah:=(ah.gr hC).gr a9;replace ae:=(ae.gr hC).gr a9;replace ab:=(ab.gr hC).gr a9;replace ac:=(ac.gr hC).gr a9;replace al:=(al.gr hC).gr a9;replace aa:=(aa.grow hC).grow a9;have hC:=hC0.bl dg;refine Uo (col:=dg) (r:=(Za.row 3 rI)) (xs:=[a8]) [.slice dz a8.length d0] 9 (W0.cons1 (cs:=[.slice dz a8.length d0]) (dh.gr hC).has Rows.nil0) ?_;intro gv gw di ba dj;refine Zl<|Xt di hC0 ba<|xe rfl rfl ?_;intro ey hC0;replace ad:=(ad.gr hC).gr ba;replace ag:=(ag.gr hC).gr ba
   replace ah:=(ah.gr hC).gr ba;replace ae:=(ae.gr hC).gr ba;replace ab:=(ab.gr hC).gr ba;replace ac:=(ac.gr hC).gr ba;replace al:=(al.gr hC).gr ba;replace aa:=(aa.grow hC).grow ba;have hC:=hC0.bl di;obtain ⟨d1,hm⟩:=Zv hm;replace ah:=ah.gr hC;refine V8 (col:=di) (w:=ey) (r:=(Za.row 3 rI)) (c:=6) (c2:=9) (ah.ex) ((dj.gr hC).srcC (by decide)) rfl underlying24 Z5z rfl rfl rfl d1.1 d1.2 (by decide) ?_;intro b4 b5 gx b6 bq dk;refine Zl<|xk b6<|xF ⟨_,_,rfl⟩ ?_;refine xe rfl rfl ?_;intro gy hC0;replace ad:=(ad.gr hC).kpp bq;replace ag:=(ag.gr hC).kpp bq;replace ae:=(ae.gr hC).kpp bq;replace ab:=(ab.gr hC).kpp bq;replace ac:=(ac.gr hC).kpp bq;replace al:=(al.gr hC).kpp bq;replace aa:=(aa.grow hC).kpp bq;have hC:=hC0.bl b6;refine Ud (off:=3) (v:=(.slice b4 ((au++[a8]).length) b5)) (al.gr hC) sizeOf24 rfl rfl (by intro u hu;simp only [Value.cells,aP,bA,or_false] at hu;subst hu;rfl) rfl rfl ?_;intro ez br e0 ai;replace ai:Zj 27 3 b6 ez a4 #[.string bd,.slice be ax.length bf,.slice bw ((ar++[az]).length) bx,.slice b4 ((au++[a8]).length) b5,.slice bk av.length bm]:=ai;refine Zl<|xk b6 ?_;have am:=((dk.gr hC).kp br).new;refine Y0 ?_;replace ad:=(ad.gr hC).kp br;replace ag:=(ag.gr hC).kp br;replace ae:=(ae.gr hC).kp br;replace ab:=(ab.gr hC).kp br;replace ac:=(ac.gr hC).kp br;replace aa:=(aa.grow hC).kp br e0;intro gz hC;replace hC:=hC.bl b6;refine go ?_;refine Z7 ⟨_,_,rfl⟩ ?_;replace ab:=ab.gr hC;refine lW ((ab.atN).nth (q:=4) rfl)<|Xr rfl ?_;obtain ⟨b7,dl,hm⟩:=bZ hm;replace aa:=aa.grow hC;refine lI dl ((ch.ks aa).addr dl) ?_;obtain ⟨_,e1,e2⟩:=(ch.ks aa).atN dl;obtain ⟨⟨e3,e4,rfl,ao⟩,_⟩:=e1;refine lW e2.one<|go ?_;replace ad:=ad.gr hC;replace ag:=ag.gr hC;replace am:=am.gr hC;replace ae:=ae.gr hC;replace ac:=ac.gr hC;replace ai:=ai.gr hC
   refine Zs [1,18,19,2,3,48,49,1000000] (fun n f aw=>∃ an b8 b9 bb ca cb,n=cb.length∧b7.drop ca=cb∧Zc5 N cp bd ax ar au av (Zbk N af bn) az a8 cb bb=some r∧St w0 (Zf col) an aw∧Zj 27 1 an aw dt #[.string af.1,.slice ce af.2.1.length cd,.slice b0 af.2.2.1.length bz,.slice bv af.2.2.2.1.length bu,.slice bj af.2.2.2.2.length bi]∧Zj 27 2 an aw du #[.string (⟨#[]⟩),.slice none (([]:List ByteArray).length) 0,.slice none (([]:List R8).length) 0,.slice none (([]:List R2).length) 0,(.slice none (([]:List R6).length) 0)]∧Zc Za.str 9 4 an aw be bf ax∧Zc (Za.row 9 Za.str) 22 5 an aw bw bx (ar++[az])∧Zc (Za.row 3 rI) 36 6 an aw b4 b5 (au++[a8])∧Zc (Za.row 42 (rO 45)) 29 7 an aw bk bm av∧Zj 27 3 an aw a4 #[.string bd,.slice be ax.length bf,.slice bw ((ar++[az]).length) bx,.slice b4 ((au++[a8]).length) b5,.slice bk av.length bm]∧Sl rQ an aw e3 e4 b7∧Zc (rO 45) 42 10 an aw b8 b9 bb∧[50,5].map f=[.int .i64 ca,.slice b8 bb.length b9]) b7.length ⟨_,none,0,_,0,_,rfl,rfl,hm,aa,ab,ac,ad,ag,am,ae,ai,ao,Zc.nil,rfl⟩ ?_;clear hm;intro n f aw hI;obtain ⟨an,b8,b9,bb,ca,cb,hn,hl,hm,aa,ab,ac,ad,ag,am,ae,ai,ao,bg,hs⟩:=hI;subst hn;refine .lL [50,5] hs ?_
   cases cb with
   | nil=>
    have hk:¬ ((ca:Int)<(b7.length:Int)):=by have:=aM.1 hl;omega
    have hkb:=decide_eq_false hk;rw [Zc5.eq_1] at hm;refine go ?_;refine Yc (congrArg Value.bool hkb)<|go ?_;refine Z1 ai<|Wo rfl<|Uo (col:=an) (r:=(Za.row 42 (rO 45))) (xs:=[bb]) [.slice b8 bb.length b9] 10 (W0.cons1 (cs:=[.slice b8 bb.length b9]) bg.has Rows.nil0) ?_;intro g0 e5 e6 bh e7;obtain ⟨d2,hm⟩:=Zv hm;replace ae:=ae.gr bh;refine V8 (col:=e6) (w:=e5) (r:=(Za.row 42 (rO 45))) (c:=7) (c2:=10) (ae.ex) (e7.srcC (by decide)) rfl underlying25 Z5x rfl rfl rfl d2.1 d2.2 (by decide) ?_;intro d3 d4 g1 e8 bs dm;refine Z7 ⟨_,_,rfl⟩ ?_;replace ai:=(ai.gr bh).kpp bs;refine Ud (off:=4) (v:=(.slice d3 ((av++[bb]).length) d4)) ai sizeOf25 rfl rfl (by intro u hu;simp only [Value.cells,aP,bA,or_false] at hu;subst hu;rfl) rfl rfl ?_;intro e9 bt fa dn;replace dn:Zj 27 3 e8 e9 a4 #[.string bd,.slice be ax.length bf,.slice bw ((ar++[az]).length) bx,.slice b4 ((au++[a8]).length) b5,.slice d3 ((av++[bb]).length) d4]:=dn;have fb:=(dm.kp bt).new;refine go ?_;replace ad:=((ad.gr bh).kpp bs).kp bt;replace ag:=((ag.gr bh).kpp bs).kp bt;replace am:=((am.gr bh).kpp bs).kp bt;replace ab:=((ab.gr bh).kpp bs).kp bt;replace ac:=((ac.gr bh).kpp bs).kp bt;replace aa:=((aa.grow bh).kpp bs).kp bt fa;exact ⟨bn,by omega,rfl,⟨_,_,_,_,_,_,_,_,_,_,_,_,_,_,_,_,rfl,hm,aa,ab,ac,ad,ag,am,fb,dn,rfl⟩⟩
   | cons dp fc=>
    obtain ⟨dq,fd,fe⟩:=Yu hl;have hk:(ca:Int)<(b7.length:Int):=by omega
    have hkb:=decide_eq_true hk;rw [Zc5.eq_2] at hm;refine go ?_;refine Yd (congrArg Value.bool hkb)<|go ?_;refine lI dq (ao.addr dq) ?_;obtain ⟨_,ff,fg⟩:=ao.atN dq;obtain ⟨_,_,rfl,fh,fi⟩:=Yb ff;obtain ⟨_,_,rfl,fj,fk⟩:=Yb fh;obtain ⟨rfl,_⟩:=fj;obtain ⟨⟨fl,fm,rfl,dr⟩,_⟩:=fk;obtain ⟨⟨fn,fp,rfl,ds⟩,_⟩:=fi;refine lV (.agg #[.bool dp.1.1,.slice fl dp.1.2.length fm,.slice fn dp.2.length fp]) (Ym isAgg42 sizeOf42 rfl rfl fg)<|Xx (col:=an) #[.bool false,(nI),(nI)] 11 zeroValue42 ?_;intro g2 g3 g4 ap fq;refine Xf fq ?_;intro g5 aq fr ft;refine go ?_;refine lV _ (Z9 isAgg42 sizeOf42 ft)<|lV (.agg #[.bool false,(nI),(nI)]) (Wl (l:=[_,_]) (qs:=[(0,2),(2,1)]) underlying42 zeroValue42 ⟨rfl,sizeOf40,rfl,sizeOf38,trivial⟩ rfl) ?_;obtain ⟨a1,fu,hm⟩:=bZ hm;refine Zk (Zp0 12 13 fu ((dr.gr ap).kp aq) ((ds.gr ap).kp aq) Sl.nil Sl.nil) fun _ g6 ⟨fv,d5,d6,d7,d8,e',a2,fw,fx⟩=>⟨_,e',?_⟩;have fy:=X0.join (X0.joinL (U0 a1.1.1) fw.has) fx.has (by decide) (by decide);replace ad:=((ad.gr ap).kp aq).gr a2;replace ad:=ad.recol 13 12;replace ag:=((ag.gr ap).kp aq).gr a2;replace ag:=ag.recol 13 12;replace am:=((am.gr ap).kp aq).gr a2;replace am:=am.recol 13 12;replace ae:=((ae.gr ap).kp aq).gr a2;replace ae:=ae.recol 13 12;replace ao:=((ao.gr ap).kp aq).gr a2;replace ao:=ao.recol 13 12;replace bg:=((bg.gr ap).kp aq).gr a2;replace bg:=bg.recol 13 12;replace ab:=((ab.gr ap).kp aq).gr a2;replace ab:=ab.recol 13 12;replace ac:=((ac.gr ap).kp aq).gr a2;replace ac:=ac.recol 13 12;replace ai:=((ai.gr ap).kp aq).gr a2;replace ai:=ai.recol 13 12;replace aa:=((aa.grow ap).kp aq fr).grow a2;replace aa:=aa.recol 13 12 (by decide) (by decide)
    refine Uo (col:=(X7 13 12 fv)) (r:=(rO 45)) (xs:=[((a1.1.1,a1.1.2),a1.2)]) [(.agg #[.bool a1.1.1,.slice d5 a1.1.2.length d6,.slice d7 a1.2.length d8])] 12 (W0.cons1 (cs:=[.bool a1.1.1,.slice d5 a1.1.2.length d6,.slice d7 a1.2.length d8]) fy Rows.nil0) ?_;intro g7 g8 g9 a3 fz;obtain ⟨f0,hm⟩:=Zv hm;refine Yy (c:=10) (c2:=12) (bg.gr a3) (fz.srcC (by decide)) f0 ?_;intro ha hc hd he bc f1;refine go ?_;replace ad:=(ad.gr a3).kpp bc;replace ae:=(ae.gr a3).kpp bc;replace ao:=(ao.gr a3).kpp bc;replace ac:=(ac.gr a3).kpp bc;replace aa:=(aa.grow a3).kpp bc;exact ⟨fc.length,by simp,rfl,⟨_,_,_,_,_,_,rfl,fd,hm,aa,(ab.gr a3).kpp bc,ac,ad,(ag.gr a3).kpp bc,(am.gr a3).kpp bc,ae,(ai.gr a3).kpp bc,ao,f1,(Y2 (congrArg (Value.int .i64) (Yx (aK fe ao.1.1))) rfl)⟩⟩
  refine lV _ (Z9 isAgg27 sizeOf27 aj)<|Xf ac ?_;intro hf cc f2 f3;refine go ?_;cases hm;replace aa:=aa.kp cc f2;exact ⟨rfl,_,ra f3.atN,_,_,_,_,_,_,_,_,_,rfl,aa.fin (cm [(4,c1),(5,c2),(6,c3),(7,c4)]),aa.fo (ad.kp cc),aa.fo (ay.kp cc),aa.fo (ah.kp cc),aa.fo (ae.kp cc)⟩
def Zex (N:Nat) (aa:R0):List Ra→Option (List Rj)
  | []=>some []
  | ac :: ad=>(Zh2 N (aa.1,aa.2.1,aa.2.2.1,aa.2.2.2.1,aa.2.2.2.2) ac.2).bind fun ab=>(Zd8 ac.2).bind fun ae=>((Zex N aa ad)).bind fun af=>some ((ae,((ab.1.1.1,ab.1.1.2),ab.1.2)) :: af)
def Znq (N:Nat) (aa:List Int) (ab:R0):Option (List Rj):=
  (Zlo N aa).bind fun ac=>Zex N ab ac
theorem Z2y (N cy:Nat) (col:Zd) (w0:World) (g0:Nat) (af0:Option Addr) (capf0:Nat) (az:List Int) (hf0:Sl rI col w0 af0 capf0 az) (hb0:Zj 36 450 col w0 g0 #[.slice af0 az.length capf0]) (g1:Nat) (a2:Option Addr) (a3:Nat) (a4:Option Addr) (a5:Nat) (a6:Option Addr) (a7:Nat) (a8:Option Addr) (a9:Nat) (ah:R0) (ab:Sl Za.str col w0 a2 a3 ah.2.1) (ac:Sl rV col w0 a4 a5 ah.2.2.1) (ad:Sl rP col w0 a6 a7 ah.2.2.2.1) (ae:Sl (Za.slice rQ) col w0 a8 a9 ah.2.2.2.2) (hb1:Zj 27 450 col w0 g1 #[.string ah.1,.slice a2 ah.2.1.length a3,.slice a4 ah.2.2.1.length a5,.slice a6 ah.2.2.2.1.length a7,.slice a8 ah.2.2.2.2.length a9]) (r:List Rj) (hm:Znq N az ah=some r):
    Zel prog 2 39 [.pointer (some ⟨g0,0,none⟩),.pointer (some ⟨g1,0,none⟩)] (fun (y:List Int×R1) (col:Zd) (w:World) (args:List Value)=>∃ a0 bf a1_0_1 c1_0_1 bg bh,args=[.slice a0 y.1.length bf,.agg #[.bool y.2.1.1,.slice a1_0_1 y.2.1.2.length c1_0_1,.slice bg y.2.2.length bh]]∧Zc rI 3 cy col w a0 bf y.1∧Sl rU col w a1_0_1 c1_0_1 y.2.1.2∧Sl rU col w bg bh y.2.2) r col w0:=by
 intro l J X hjs hxs hy aa;refine Ztt (mc:=1998) (m:=24) (args:=[.func (.yield l) #[] #[],.pointer (some ⟨g0,0,none⟩),.pointer (some ⟨g1,0,none⟩)]) func39 rfl rfl rfl rfl ?_;rw [Znq.eq_1] at hm;have hmk:Yp 1998 col w0 []:=.nil;refine go ?_;refine Zbf (col:=col) (v:=(.func (.yield l) #[] #[])) 1001 rfl rfl ?_;intro bi bq br ax af;replace hf0:=hf0.gr ax;replace ab:=ab.gr ax;replace ac:=ac.gr ax;replace ad:=ad.gr ax;replace ae:=ae.gr ax;replace hb0:=hb0.gr ax;replace hb1:=hb1.gr ax;replace hmk:=hmk.gr ax;replace aa:=hjs _ _ _ _ _ aa ax.toP;replace af:Zj 75 1001 br bq bi #[(.func (.yield l) #[] #[])]:=af;refine go ?_;refine lW hb0.at1 ?_;obtain ⟨bs,bt,hm⟩:=bZ hm;refine Zk (Z4m 1002 bt hf0) fun _ cf ⟨bu,cg,e',aw,bv⟩=>⟨_,e',?_⟩;replace ab:=ab.gr aw;replace ac:=ac.gr aw;replace ad:=ad.gr aw;replace ae:=ae.gr aw;replace hf0:=hf0.gr aw;replace hb0:=hb0.gr aw;replace hb1:=hb1.gr aw;replace af:=af.gr aw;replace hmk:=hmk.gr aw;replace aa:=hjs _ _ _ _ _ aa aw.toP;refine go ?_;refine Zmm (psl:=[10,11]) (arr:=(fun (y:Int×List Int) (col:Zd) (w:World) (args:List Value)=>∃ a1 bj,args=[.int .i64 y.1,.slice a1 y.2.length bj]∧Zc rI 3 1002 col w a1 bj y.2)) (ys:=bs) (col:=bu) 1999 rfl bv rfl hmk rfl rfl (by rintro _ _ _ _ ⟨_,_,rfl,_⟩;rfl) (fun ys_ ag al=>∃ (r:List Rj),Zex N ah ys_=some r∧J r ag al∧Sl Za.str ag al a2 a3 ah.2.1∧Sl rV ag al a4 a5 ah.2.2.1∧Sl rP ag al a6 a7 ah.2.2.2.1∧Sl (Za.slice rQ) ag al a8 a9 ah.2.2.2.2∧Zj 27 450 ag al g1 #[.string ah.1,.slice a2 ah.2.1.length a3,.slice a4 ah.2.2.1.length a5,.slice a6 ah.2.2.2.1.length a7,.slice a8 ah.2.2.2.2.length a9]∧Zj 75 1001 ag al bi #[(.func (.yield l) #[] #[])]∧Sl rI ag al af0 capf0 az∧Zj 36 450 ag al g0 #[.slice af0 az.length capf0]) (fun c_ ag al=>(c_= .ret∧X ag al)) ?_ ?_ ⟨r,hm,aa,ab,ac,ad,ae,hb1,af,hf0,hb0⟩ ?_ ?_ ?_
 ·intro ys_ ag al col2_ w2_ hJ hk;obtain ⟨r,hm,aa,ab,ac,ad,ae,hb1,af,hf0,hb0⟩:=hJ;exact ⟨r,hm,(hjs _ _ _ _ _ aa (hk.mono fun _=>Zx3)),ab.kpp hk rfl,ac.kpp hk rfl,ad.kpp hk rfl,ae.kpp hk rfl,hb1.kpp hk rfl,af.kpp hk rfl,hf0.kpp hk rfl,hb0.kpp hk rfl⟩
 ·intro c_ ag al col2_ w2_ hX hk;obtain ⟨rfl,hX⟩:=hX;exact ⟨rfl,hxs _ _ _ _ hX (hk.mono fun _=>Zx3)⟩
 ·intro ch ci cj ck cl ag al args hJ hrec hmk harr;obtain ⟨r,hm,aa,ab,ac,ad,ae,hb1,af,hf0,hb0⟩:=hJ;rw [Zex.eq_2] at hm;have hki:=Z5.refl (pC 1) ag al;obtain ⟨cn,co,rfl,aq⟩:=harr;refine go ?_;refine ⟨_,hrec,?_⟩;intro bw cp ar bk hrec2;replace ab:=ab.kp ar;replace ac:=ac.kp ar;replace ad:=ad.kp ar;replace ae:=ae.kp ar;replace aq:=aq.kp ar;replace hf0:=hf0.kp ar;replace hb1:=hb1.kp ar;replace af:=af.kp ar;replace hb0:=hb0.kp ar;replace hmk:=hmk.kp ar;replace hki:=hki.kp ar bk rfl;replace aa:=hjs _ _ _ _ _ aa (ar.toP bk rfl);have hrec:=hrec2;refine go ?_;refine lV _ (Z9 isAgg27 sizeOf27 hb1)<|Wo rfl ?_;obtain ⟨au,bx,hm⟩:=bZ hm;refine Zk (Z28 1003 1004 bx (ab.froz 1002) (ac.froz 1002) (ad.froz 1002) (ae.froz 1002) (aq.toSlF (Zh.int .i64))) fun _ cq ⟨bz,ba,bb,bc,bd,e',am,ai,aj⟩=>⟨_,e',?_⟩;replace ai:=ai.thaw (Z3 .u32) am ((Fz.refl (col:=ag)).froz 1002);replace aj:=aj.thaw (Z3 .u32) am ((Fz.refl (col:=ag)).froz 1002);replace am:=am.thawR (col:=ag);generalize Xj bw.heap.size ag bz=b0 at *;replace ab:=ab.gr am;replace ac:=ac.gr am;replace ad:=ad.gr am;replace ae:=ae.gr am;replace aq:=aq.gr am;replace hf0:=hf0.gr am;replace hb1:=hb1.gr am;replace af:=af.gr am;replace hb0:=hb0.gr am;replace hrec:=hrec.gr am;replace hmk:=hmk.gr am;replace hki:=hki.gr am;replace aa:=hjs _ _ _ _ _ aa am.toP;refine lM (.tuple #[(.agg #[.bool au.1.1.1,.slice ba au.1.1.2.length bb,.slice bc au.1.2.length bd]),.int .i64 au.2])<|lV (.agg #[.bool au.1.1.1,.slice ba au.1.1.2.length bb,.slice bc au.1.2.length bd]) (Xu rfl rfl)<|lV (.int .i64 au.2) (Xu rfl rfl)<|Xx (col:=b0) #[.bool false,(nI),(nI)] 1005 zeroValue42 ?_;intro cr cs ay an b1;replace ab:=ab.gr an;replace ac:=ac.gr an;replace ad:=ad.gr an;replace ae:=ae.gr an;replace aq:=aq.gr an;replace ai:=ai.gr an;replace aj:=aj.gr an;replace hf0:=hf0.gr an;replace hb1:=hb1.gr an;replace af:=af.gr an;replace hb0:=hb0.gr an;replace hrec:=hrec.gr an;replace hmk:=hmk.gr an;replace hki:=hki.gr an;replace aa:=hjs _ _ _ _ _ aa an.toP;refine Xf b1 ?_;intro ct ao bm b2
  replace ab:=ab.kp ao;replace ac:=ac.kp ao;replace ad:=ad.kp ao;replace ae:=ae.kp ao;replace aq:=aq.kp ao;replace ai:=ai.kp ao;replace aj:=aj.kp ao;replace hf0:=hf0.kp ao;replace hb1:=hb1.kp ao;replace af:=af.kp ao;replace hb0:=hb0.kp ao;replace hrec:=hrec.kp ao;replace hmk:=hmk.kp ao;replace hki:=hki.kp ao bm rfl;replace aa:=hjs _ _ _ _ _ aa (ao.toP bm rfl);refine go ?_;refine Wc (col:=ay) [(0,0),(1,1),(3,0),(2,3),(4,2),(5,1)] (by kernel_rfl) (by kernel_rfl)<|xW (fun _ hC=>af.at1.gr (hC.bl ay)) ?_;refine xu rfl rfl (fun _=>Va rfl) ?_;refine xv rfl rfl (fun _ hC=>Z9 isAgg42 sizeOf42 (b2.gr (hC.bl ay))) ?_;refine xe rfl rfl ?_;intro b3 hC0;have hC:=hC0.bl ay;replace ab:=ab.gr hC;replace ac:=ac.gr hC;replace ad:=ad.gr hC;replace ae:=ae.gr hC;replace aq:=aq.gr hC;replace ai:=ai.gr hC;replace aj:=aj.gr hC;replace hf0:=hf0.gr hC;replace hb1:=hb1.gr hC;replace af:=af.gr hC;replace hb0:=hb0.gr hC;replace hrec:=hrec.gr hC;replace hmk:=hmk.gr hC;replace hki:=hki.gr hC;replace aa:=hjs _ _ _ _ _ aa hC.toP;obtain ⟨b4,b5,hm⟩:=bZ hm;refine Zk (Zqd 1006 b5 (aq.toSlF (Zh.int .i64))) fun _ cu ⟨b6,bn,bo,e',ak,av⟩=>⟨_,e',?_⟩;replace av:=av.thaw (Z3 .i64) ak ((Fz.refl (col:=ay)).froz 1002);replace ak:=ak.thawR (col:=ay);generalize Xj b3.heap.size ay b6=bp at *;replace ab:=ab.gr ak;replace ac:=ac.gr ak;replace ad:=ad.gr ak;replace ae:=ae.gr ak;replace ai:=ai.gr ak;replace aj:=aj.gr ak;replace hf0:=hf0.gr ak;replace hb1:=hb1.gr ak;replace af:=af.gr ak;replace hb0:=hb0.gr ak;replace hrec:=hrec.gr ak;replace hmk:=hmk.gr ak;replace hki:=hki.gr ak;replace aa:=hjs _ _ _ _ _ aa ak.toP;refine Zl<|Xt bp hC0 ak<|xe rfl rfl ?_;intro cv hC0;have hC:=hC0.bl bp;replace ab:=ab.gr hC;replace ac:=ac.gr hC;replace ad:=ad.gr hC;replace ae:=ae.gr hC;replace ai:=ai.gr hC;replace aj:=aj.gr hC;replace av:=av.gr hC;replace hf0:=hf0.gr hC;replace hb1:=hb1.gr hC;replace af:=af.gr hC;replace hb0:=hb0.gr hC;replace hrec:=hrec.gr hC;replace hmk:=hmk.gr hC;replace hki:=hki.gr hC;replace aa:=hjs _ _ _ _ _ aa hC.toP;replace ab:=ab.froz 1003;replace ac:=ac.froz 1003;replace ad:=ad.froz 1003;replace ae:=ae.froz 1003;replace ai:=(ai).toSlF (Zh.int .u32);replace aj:=aj.froz 1003;replace av:=av.froz 1003;replace hf0:=hf0.froz 1003
  replace hb1:=hb1.froz 1003;replace af:=af.froz 1003;replace hb0:=hb0.froz 1003;replace hrec:=hrec.froz 1003;replace hmk:=hmk.froz 1003 (by decide);replace hki:=hki.froz 1003 rfl;replace aa:=hjs _ _ _ _ _ aa ((Z5.refl _ _ _).froz 1003 rfl);replace ab:=ab.froz 1004;replace ac:=ac.froz 1004;replace ad:=ad.froz 1004;replace ae:=ae.froz 1004;replace ai:=ai.froz 1004;replace aj:=(aj).toSlF (Zh.int .u32);replace av:=av.froz 1004;replace hf0:=hf0.froz 1004;replace hb1:=hb1.froz 1004;replace af:=af.froz 1004;replace hb0:=hb0.froz 1004;replace hrec:=hrec.froz 1004;replace hmk:=hmk.froz 1004 (by decide);replace hki:=hki.froz 1004 rfl;replace aa:=hjs _ _ _ _ _ aa ((Z5.refl _ _ _).froz 1004 rfl);replace ab:=ab.recol 1006 cy (by decide);replace ac:=ac.recol 1006 cy (by decide);replace ad:=ad.recol 1006 cy (by decide);replace ae:=ae.recol 1006 cy (by decide);replace ai:=ai.recol 1006 cy (by decide);replace aj:=aj.recol 1006 cy (by decide);replace av:=av.recolSelf cy (by decide);replace hf0:=hf0.recol 1006 cy (by decide);replace hb1:=hb1.recol 1006 cy (by decide);replace af:=af.recol 1006 cy (by decide);replace hb0:=hb0.recol 1006 cy (by decide);replace hrec:=hrec.recol 1006 cy (by decide);replace hmk:=hmk.recol 1006 cy (by decide);replace hki:=hki.recol 1006 cy rfl;replace aa:=hjs _ _ _ _ _ aa ((Z5.refl _ _ _).recol 1006 cy rfl);obtain ⟨b7,hc_68m,b8⟩:=bZ hm;cases b8;have hm:=hc_68m;refine ly2 rfl rfl rfl rfl (hy _ _ _ _ [.slice bn b4.length bo,(.agg #[.bool au.1.1.1,.slice ba au.1.1.2.length bb,.slice bc au.1.2.length bd])] aa ⟨bn,bo,ba,bb,bc,bd,rfl,av,ai,aj⟩) ?_;rintro _ cw ⟨be,ap,⟨rfl,hJ⟩ | ⟨rfl,hX⟩⟩
  ·refine ⟨_,rfl,?_⟩;replace ab:=ab.kpp ap;replace ac:=ac.kpp ap;replace ad:=ad.kpp ap;replace ae:=ae.kpp ap;replace hf0:=hf0.kpp ap;replace hb1:=hb1.kpp ap;replace af:=af.kpp ap;replace hb0:=hb0.kpp ap;replace hrec:=hrec.kpp ap;replace hmk:=hmk.kpp ap;replace hki:=hki.trans (ap.mono (by first | exact Zl7 rfl | exact pCo_p1 rfl | exact pCo_pS rfl | exact fun _=>Zl6 | exact fun _ h=>h | exact fun _ _=>rfl));have aa:=hJ;refine Zl<|xk be<|xu rfl rfl (fun _=>Zmd _ rfl) ?_;refine Y0 ?_;intro cx hC;replace hC:=hC.bl be;replace ab:=ab.gr hC;replace ac:=ac.gr hC;replace ad:=ad.gr hC;replace ae:=ae.gr hC;replace hf0:=hf0.gr hC;replace hb1:=hb1.gr hC;replace af:=af.gr hC;replace hb0:=hb0.gr hC;replace hrec:=hrec.gr hC;replace hmk:=hmk.gr hC;replace hki:=hki.gr hC;replace aa:=hjs _ _ _ _ _ aa hC.toP;refine Yc rfl<|Yj ?_;exact ⟨_,hki,⟨b7,hm,aa,ab,ac,ad,ae,hb1,af,hf0,hb0⟩,hrec,hmk⟩
  refine ⟨_,rfl,?_⟩;replace hrec:=hrec.kpp ap;replace hmk:=hmk.kpp ap;replace hki:=hki.trans (ap.mono (by first | exact Zl7 rfl | exact pCo_p1 rfl | exact pCo_pS rfl | exact fun _=>Zl6 | exact fun _ h=>h | exact fun _ _=>rfl));have aa:=hX;refine Zl<|xk be<|xu rfl rfl (fun _=>Zmd _ rfl) ?_;refine Y0 ?_;intro cz hC;replace hC:=hC.bl be;replace hrec:=hrec.gr hC;replace hmk:=hmk.gr hC;replace hki:=hki.gr hC;replace aa:=hxs _ _ _ _ aa hC.toP;refine Yd rfl<|Wh ?_;exact ⟨_,hki,⟨rfl,aa⟩,hrec,hmk⟩
 ·intro b9 ag al hJ hmk;obtain ⟨r,hm,aa,ab,ac,ad,ae,hb1,af,hf0,hb0⟩:=hJ;rw [Zex.eq_1] at hm;cases hm;refine ⟨_,(b9 :: []),rfl,hmk,?_⟩;intro c0 ca cb;replace aa:=hjs _ _ _ _ _ aa (ca.toP cb rfl);exact ⟨⟨_,rfl⟩,_,.inl aa⟩
 intro c_ cc ag al hX hmk;obtain ⟨rfl,hX⟩:=hX;have aa:=hX;refine Wh ?_;refine ⟨_,(cc :: []),rfl,hmk,?_⟩;intro c1 cd ce;replace aa:=hxs _ _ _ _ aa (cd.toP ce rfl);exact ⟨⟨_,rfl⟩,_,.inr aa⟩
def Zew (N:Nat) (aa:R0):Option (List Rj):=
  (Tq N (aa.1,aa.2.1,aa.2.2.1,aa.2.2.2.1,aa.2.2.2.2) ([]:List R5) ([]:List Int)).bind fun ac=>if (!decide (ac.2=0))=true then Zq6 else ((Zhy N (aa.1,aa.2.1,aa.2.2.1,aa.2.2.2.1,aa.2.2.2.2)).bind fun ab=>Znq N ac.1 (ab.1,ab.2.1,ab.2.2.1,ab.2.2.2.1,ab.2.2.2.2))
theorem Z2w {N bc bd be bf:Nat} {bg bh bi bj:Option Addr} {col:Zd} {w0:World} {ai:R0} {r:(List Rj)} (cy:Nat) (hm:Zew N ai=some r) (ar:Sl Za.str col w0 bg bc ai.2.1) (au:Sl rV col w0 bh bd ai.2.2.1) (av:Sl rP col w0 bi be ai.2.2.2.1) (aw:Sl (Za.slice rQ) col w0 bj bf ai.2.2.2.2):
    Calls prog 9 #[(.agg #[.string ai.1,.slice bg ai.2.1.length bc,.slice bh ai.2.2.1.length bd,.slice bi ai.2.2.2.1.length be,.slice bj ai.2.2.2.2.length bf])] w0 (fun e w'=>∃ (col':Zd) (rv1:Value),e= .returned (rv1)∧Zn col w0 col' w'∧It prog 2 rv1 (fun (y:List Int×R1) (col:Zd) (w:World) (args:List Value)=>∃ a0 bk a1_0_1 c1_0_1 bm bn,args=[.slice a0 y.1.length bk,.agg #[.bool y.2.1.1,.slice a1_0_1 y.2.1.2.length c1_0_1,.slice bm y.2.2.length bn]]∧Zc rI 3 cy col w a0 bk y.1∧Sl rU col w a1_0_1 c1_0_1 y.2.1.2∧Sl rU col w bm bn y.2.2) r q0 col' w'):=by
 refine Z6 2 (m:=16) func9 rfl rfl rfl rfl rfl ?_;rw [Zew.eq_1] at hm;have aa:=St.start col w0;refine go ?_;refine Xl (col:=(Zf col)) 1 rfl ?_;intro b9 ca cb bp ax;refine lv (v:=_) rfl rfl (Tf rfl)<|go ?_;refine lV _ (Z9 isAgg27 sizeOf27 ax) ?_;obtain ⟨ak,bq,hm⟩:=bZ hm;replace ar:=ar.k0;replace au:=au.k0;replace av:=av.k0;replace aw:=aw.k0;replace aa:=aa.grow bp;refine Zk (Zs3 2 bq (ar.ks aa) (au.ks aa) (av.ks aa) (aw.ks aa) Sl.nil Sl.nil) fun _ cc ⟨br,ao,ap,e',bo,ab⟩=>⟨_,e',?_⟩;refine lM (.tuple #[.slice ao ak.1.length ap,.int .i64 ak.2])<|lV (.slice ao ak.1.length ap) (Xu rfl rfl)<|lV (.int .i64 ak.2) (Xu rfl rfl)<|Zep (col:=br) (v:=(nI)) 3 rfl zeroValue36 ?_;intro an bs az a1 a2;replace a2:Zj 36 3 az bs an #[(nI)]:=a2;refine Qu (v:=(.slice ao ak.1.length ap)) a2 sizeOf36 rfl rfl (by intro u hu;simp only [Value.cells,aP,bA,or_false] at hu;subst hu;rfl) rfl rfl ?_;intro bt a3 bu ac;replace ac:Zj 36 3 az bt an #[.slice ao ak.1.length ap]:=ac;refine go ?_;replace aa:=((aa.grow bo).grow a1).kp a3 bu;replace ab:=(ab.gr a1).kp a3;refine Zm hm (fun hb hm=>go ?_) fun hb hm=>go ?_
 ·refine lA (.func (.func 37) #[] #[])<|go ?_;refine ⟨rfl,Vh w0.heap.size col az (fun n=>0),_,rfl,aa.fin (fun n=>0),37,[],rfl,call37,?_⟩;intro col9 w9 aj hk9;exact Z2x cy col9 w9 r hm
 refine lV _ (Z9 isAgg27 sizeOf27 (((ax.gr bo).gr a1).kp a3)) ?_;obtain ⟨aq,bv,hm⟩:=bZ hm;refine Zk (Z2z 4 5 6 7 bv (ar.ks aa) (au.ks aa) (av.ks aa) (aw.ks aa)) fun _ cd ⟨bw,bx,bz,b0,b1,b2,b3,b4,b5,e',a4,ad,ae,af,ag⟩=>⟨_,e',?_⟩;refine Xx (col:=bw) #[.string (⟨#[]⟩),.slice none (([]:List ByteArray).length) 0,.slice none (([]:List R8).length) 0,.slice none (([]:List R2).length) 0,(.slice none (([]:List R6).length) 0)] 8 zeroValue27 ?_;intro ay ce b6 al b7;refine Xf b7 ?_;intro cf am b8 ah;refine go ?_;refine lV (.func (.func 39) #[] #[.pointer (some ⟨an,0,none⟩),.pointer (some ⟨ay,0,none⟩)]) (Zrw rfl rfl)<|lA (.func (.func 39) #[] #[.pointer (some ⟨an,0,none⟩),.pointer (some ⟨ay,0,none⟩)])<|go ?_;replace ab:=((ab.gr a4).gr al).kp am;replace ab:=(ab).toSlF (Zh.int .i64);replace ad:=(ad.gr al).kp am;replace ad:=ad.froz 2;replace ae:=(ae.gr al).kp am;replace ae:=ae.froz 2;replace af:=(af.gr al).kp am;replace af:=af.froz 2;replace ag:=(ag.gr al).kp am;replace ag:=ag.froz 2;replace ac:=((ac.gr a4).gr al).kp am;replace ac:=ac.froz 2;replace ah:=ah.froz 2;replace aa:=((aa.grow a4).grow al).kp am b8;replace aa:=aa.froz 2 (by decide) (by decide);replace ab:=ab.froz 4;replace ad:=(ad).toSlF Zh.str;replace ae:=ae.froz 4;replace af:=af.froz 4;replace ag:=ag.froz 4;replace ac:=ac.froz 4;replace ah:=ah.froz 4;replace aa:=aa.froz 4 (by decide) (by decide);replace ab:=ab.froz 5;replace ad:=ad.froz 5;replace ae:=(ae).toSlF (Zh.row Zh.str);replace af:=af.froz 5;replace ag:=ag.froz 5;replace ac:=ac.froz 5;replace ah:=ah.froz 5;replace aa:=aa.froz 5 (by decide) (by decide);replace ab:=ab.froz 6;replace ad:=ad.froz 6;replace ae:=ae.froz 6;replace af:=(af).toSlF (Zh.row (Zh.int .i64));replace ag:=ag.froz 6;replace ac:=ac.froz 6;replace ah:=ah.froz 6;replace aa:=aa.froz 6 (by decide) (by decide);replace af:=af.froz 7
 replace aa:=aa.froz 7 (by decide) (by decide);have a5:=aa.finBox (G:=(fun n=>bif aJ n 3 then 450 else bif aJ n 8 then 450 else 0)) (ac.froz 7) (by decide) (by decide) (show (fun n=>bif aJ n 3 then 450 else bif aJ n 8 then 450 else 0) 3=450 from rfl);have a6:=aa.finSl (g:=(fun n=>bif aJ n 3 then 450 else bif aJ n 8 then 450 else 0)) rfl (ab.froz 7);have a7:=aa.finBox (G:=(fun n=>bif aJ n 3 then 450 else bif aJ n 8 then 450 else 0)) (ah.froz 7) (by decide) (by decide) (show (fun n=>bif aJ n 3 then 450 else bif aJ n 8 then 450 else 0) 8=450 from rfl);have a8:=aa.finSl (g:=(fun n=>bif aJ n 3 then 450 else bif aJ n 8 then 450 else 0)) rfl (ad.froz 7);have a9:=aa.finSl (g:=(fun n=>bif aJ n 3 then 450 else bif aJ n 8 then 450 else 0)) rfl (ae.froz 7);have ba:=aa.finSl (g:=(fun n=>bif aJ n 3 then 450 else bif aJ n 8 then 450 else 0)) rfl af;have bb:=aa.finSl (g:=(fun n=>bif aJ n 3 then 450 else bif aJ n 8 then 450 else 0)) rfl ((ag).toSlF (Zh.row (Zh.pair (Zh.pair Zh.bool (Zh.row (Zh.int .u32))) (Zh.row (Zh.int .u32)))));refine ⟨rfl,Vh w0.heap.size col (X5 7 (X5 6 (X5 5 (X5 4 (X5 2 b6))))) (fun n=>bif aJ n 3 then 450 else bif aJ n 8 then 450 else 0),_,rfl,aa.fin (fun n=>bif aJ n 3 then 450 else bif aJ n 8 then 450 else 0),39,[.pointer (some ⟨an,0,none⟩),.pointer (some ⟨ay,0,none⟩)],rfl,call39,?_⟩;intro col9 w9 aj hk9;exact Z2y N cy col9 w9 an ao ap ak.1 (a6.itk aj hk9 rfl) (a5.itk aj hk9 rfl) ay bx bz b0 b1 b2 b3 b4 b5 (aq.1,aq.2.1,aq.2.2.1,aq.2.2.2.1,aq.2.2.2.2) (a8.itk aj hk9 rfl) (a9.itk aj hk9 rfl) (ba.itk aj hk9 rfl) (bb.itk aj hk9 rfl) (a7.itk aj hk9 rfl) r hm
/-! a network whose lists are its Zl5 -/
def W1 (x:QV):QV:=Z2 (Xm x)
def V0 (n:Xa):Xa:=(n.1,n.2.1,n.2.2.1,n.2.2.2.1,n.2.2.2.2.map (eN W1))
theorem Zqm (x:QV):Xm (W1 x)=Xm x:=Te _
theorem Zql (T:List (List QV)) (v:Nat):(T.map (eN W1)).getD v []=(T.getD v []).map W1:=by
 rw [aF,aF,bT]
 cases T[v]? with
 | none=>rfl
 | some t=>rfl
theorem Z5l (l:List QV):W9 (l.map W1)=W9 l:=by
 rw [W9,W9,gB]
 congr 1
 exact dW fun x _=>Zqm x
theorem Zt9 (c:Nat):∀ (m:Nat) (l:List QV),Up c m (l.map W1)=Up c m l
 | 0,l=>rfl
 | m+1,l=>by rw [Up,Up,← gY,← gZ,Z5l,Zt9 c m]
theorem Zuc (vals:List R8) (P:List R2) (T:List (List QV)):∀ m v,Ur vals P (T.map (eN W1)) m v=Ur vals P T m v
 | 0,v=>rfl
 | m+1,v=>by rw [Ur,Ur,Zql,aE,Zuc vals P T m]
theorem Zud (vals:List R8) (P:List R2) (T:List (List QV)):∀ m v,Zbc vals P (T.map (eN W1)) m v=Zbc vals P T m v
 | 0,v=>rfl
 | m+1,v=>by rw [Zbc,Zbc,Zql,Zt9,Zud vals P T m]
theorem Z5i (T:List (List QV)):Qq (T.map (eN W1))=Qq T:=by
 rw [Qq,Qq,kA]
 congr 1
 funext t
 show (t.map W1).any W8=t.any W8
 rw [kA]
 congr 1
 funext x
 show W8 (W1 x)=W8 x
 rw [W8,W8,Zqm]
theorem Z5k {N:Nat} {n:Xa} (hf:Y8 N n):Y8 N (V0 n) where
 ev:=⟨hf.ev.v,hf.ev.p,by show (n.2.2.2.2.map (eN W1)).length=_;rw [aE];exact hf.ev.t,hf.ev.i,hf.ev.ne⟩
 le:=hf.le
 nm:=hf.nm
 sh:=(Zuc _ _ _ _ _).trans hf.sh
 en:=(Z5i _).trans hf.en
 su:=(Zud _ _ _ _ _).trans hf.su
 tw:=hf.tw
 or:=hf.or
theorem Z5m {n:Xa} {W:Nat} (hs:W6 n W) (hq:∀ t ∈ n.2.2.2.2,Xz (t.map W1)≤W):W6 (V0 n) W:=by
 refine ⟨hs.nm,hs.vl,hs.pn,fun t a=>?_,fun t a=>?_,fun t a x c=>?_⟩
 ·obtain ⟨u,b,rfl⟩:=cA.1 a
  rw [aE];exact hs.tl u b
 ·obtain ⟨u,b,rfl⟩:=cA.1 a
  exact hq u b
 ·obtain ⟨u,b,rfl⟩:=cA.1 a
  obtain ⟨y,d,rfl⟩:=cA.1 c
  exact ⟨Xc _,Xc _⟩
theorem Z5j (n:Xa) (w:List Int) (v:Nat):ent (V0 n) w v=ent n w v:=by
 have hr:∀ (a:List Int) (r:Nat),Qk (V0 n) w a r=Qk n w a r:=fun a=>by
  induction a with
  | nil=>intro r;rfl
  | cons p a b=>intro r;rw [Qk,Qk,b];rfl
 have c:Vu (V0 n) w v=Vu n w v:=hr _ _
 have d:Vv (V0 n) w v=(Vv n w v).map W1:=by
  rw [Vv,Vv,c,gY,gZ]
  show List.take (cnt n v) (List.drop (Vu n w v * cnt n v) ((n.2.2.2.2.map (eN W1)).getD v []))=_
  rw [Zql]
 rw [ent,ent,d]
 generalize (w.getD v 0).toNat=j
 rw [aF,aF,bT]
 cases (Vv n w v)[j]? with
 | none=>rfl
 | some x=>exact Zqm x
theorem Zua (n:Xa) (w:List Int):∀ m k q,Uq (V0 n) w m k q=Uq n w m k q
 | 0,k,q=>rfl
 | m+1,k,q=>by rw [Uq,Uq,Z5j,Zua n w m]
section
variable {N W K:Nat} {n:Xa} (hf:Y8 N n) (hs:W6 n W) (hr:Xg N (8 * K+40)) (hWK:1025 * (W+2)+4≤K) (hN:2000000<N)
include hf hs hr hWK hN
omit hf hs hN in
theorem Zt7 (v:Int) (m1:ByteArray) (m2:List ByteArray) (m3:List R8) (m4:List R2) (m5:List (List QV)) (h5:m5.length≤1048576) (kk:Int→ByteArray→List ByteArray→List R8→List R2→List (List QV)→Option Xa) (r1:List ByteArray) (r2:List Int):∀ (l out:List QV),(∀ x ∈ l,Vc x∧max x.1.2.length x.2.length≤W)→out.length+l.length≤1048576→
  Zc5 N v m1 m2 m3 m4 m5 kk r1 r2 l out=kk (i64.wrap (v+1)) m1 m2 (m3++[r1]) (m4++[r2]) (m5++[out++l.map W1])
 | [],out,_,a=>by
  rw [Zc5.eq_1,Zx (by simp only [aH,maxLen];omega),dO,cL]
 | x :: l,out,b,a=>by
  obtain ⟨c,f⟩:=b x aQ
  have g:RV 0 ((false,([]:List Int)),([]:List Int)):=⟨by simp [Zo],by simp [Zo],by simp,by simp⟩
  have d:Xm ((false,([]:List Int)),([]:List Int))=0:=by rw [Xm];simp [Zz,Zb]
  have i:Zbi N ((x.1.1,x.1.2),x.2) ((false,([]:List Int)),([]:List Int))=some (W1 x):=by
   have:=Zqq ((Zcg c.1 c.2).mono f) g (hr.mono (by omega))
   rwa [d,Rat.add_zero] at this
  rw [nC] at a
  rw [Zc5.eq_2,i,oB,Zx (by simp only [aH,maxLen];omega)]
  have e:=Zt7 v m1 m2 m3 m4 m5 h5 kk r1 r2 l (out++[W1 x]) (fun y j=>b y (aO _ j)) (by rw [nA,aH];omega)
  rw [bK] at e
  exact e
omit hN in
theorem Zt6:∀ (f v:Nat),v≤n.2.1.length→n.2.1.length<f+v→Zbk N n f (v:Int) n.1 n.2.1 (n.2.2.1.take v) (n.2.2.2.1.take v) ((n.2.2.2.2.take v).map (eN W1))=some (V0 n)
 | 0,v,g,i=>by omega
 | f+1,v,g,i=>by
  have q:=hf.ev.v;have r:=hf.ev.p;have s:=hf.ev.t;have o:=hf.le
  rw [Zbk.eq_2]
  by_cases hk:v<n.2.1.length
  ·have b:v<n.2.2.1.length:=by omega
   have c:v<n.2.2.2.1.length:=by omega
   have a:v<n.2.2.2.2.length:=by omega
   have j:Zgz n.2.2.1[v]=some n.2.2.1[v]:=by
    have:=hs.vl _ (aD b)
    rw [Zgz,Zx (by simp only [nN,maxLen];omega),bL]
   have k:Zd8 n.2.2.2.1[v]=some n.2.2.2.1[v]:=Zqj (by have:=hs.pn.ls _ (aD c);omega)
   have d:=fun x l=>Znj hf hs hk x (by rw [X4 a];exact l)
   have m:=Zt7 hr hWK (v:Int) n.1 n.2.1 (n.2.2.1.take v) (n.2.2.2.1.take v) ((n.2.2.2.2.take v).map (eN W1)) (by rw [aE,nK];omega) (Zbk N n f) n.2.2.1[v] n.2.2.2.1[v] n.2.2.2.2[v] [] d (by have:=hs.tl _ (aD a);simpa using this)
   have e:=Zt6 f (v+1) (by omega) (by omega)
   rw [bF b,bF c,bF a,bV,List.map_singleton] at e
   rw [if_pos (dT (by omega)),Zu b,oB,j,oB,Zx (by simp only [nK,aH,maxLen];omega),Zu c,oB,k,oB,Zx (by simp only [nK,aH,maxLen];omega),Zu a,oB,m,wS (by omega),bL]
   exact e
  ·rw [if_neg (dF (by omega)),bD (by omega),bD (by omega),bD (by omega)];rfl
theorem Z5g:Zhy N n=some (V0 n):=by
 have a:=hf.le
 have h:=Zt6 hf hs hr hWK N 0 (aT _) (by omega)
 rw [eO,eO,eO,dO] at h
 rw [Zhy,Zgz,Zx (by simp only [nN,maxLen];omega),oB,bL]
 exact h
/-! how many -/
def Zg (n:Xa):List Nat:=n.2.2.1.map gL
omit hs hr hWK hN in
theorem Vo:∀ s ∈ Zg n,0<s:=fun s h=>by
 obtain ⟨l,a,rfl⟩:=cA.1 h
 exact cB.2 (hf.ev.ne l a)
omit hr hWK hf hN hs in
theorem Zqz:∀ (l:List R8) (out:List Int),out.length+l.length≤1048576→Zc9 l out=some (out++Xb (l.map gL))
 | [],out,_=>by rw [Zc9.eq_1,dO,Xb,dO,cL]
 | x :: l,out,h=>by
  rw [nC] at h
  rw [Zc9.eq_2,Zx (by simp only [aH,maxLen];omega),Zqz l _ (by rw [nA,aH];omega),bK];rfl
theorem Z63 (hb:Zp (Zg n)≤65536):Tq N n [] []=some (Xb (Zg n),0):=by
 have b:=hf.ev.v;have f:=hf.le
 have c:Sb N (n.1,n.2.1,n.2.2.1,n.2.2.2.1,n.2.2.2.2)=some 0:=Zqg hf hs (hr.mono (by omega)) hN
 have d:Ze4 (n.1,n.2.1,n.2.2.1,n.2.2.2.1,n.2.2.2.2)=some (Xb (Zg n)):=by
  have:=Zqz n.2.2.1 [] (by simp only [nN];omega)
  rw [bL] at this
  rw [Ze4];exact this
 have a:(Xb (Zg n)).length=n.2.1.length:=by rw [Xb,Zg,aE,aE,b]
 have e:=Zpb (Vo hf) hb
 rw [Tq,c,oB,if_neg (by decide),d,oB,Sa.eq_1,Sz.eq_1,Zx (by rw [a];simp only [maxLen];omega),Zbj.eq_1,Q1.eq_1,e,oB]
 dsimp only
 rw [if_neg (show ¬ (!decide ((0:Int)=0))=true by decide),decide_eq_false (by omega),Zc4,if_neg (by decide)]
omit hs hr hWK hN in
theorem Zct {w:List Int} (h:U3 (Zg n) w):Us n w:=by
 have f:∀ (L:List R8) (w:List Int),U3 (L.map gL) w→w.length=L.length∧∀ i,i<w.length→0≤w.getD i 0∧w.getD i 0<((L.getD i []).length:Int):=by
  intro L
  induction L with
  | nil=>
   intro w a
   cases w with
   | nil=>exact ⟨rfl,fun i b=>by simp at b⟩
   | cons d w=>exact a.elim
  | cons l L g=>
   intro w a
   cases w with
   | nil=>exact a.elim
   | cons d w=>
    obtain ⟨c,e⟩:=g w a.2
    refine ⟨by rw [nC,nC,c],fun i b=>?_⟩
    cases i with
    | zero=>exact a.1
    | succ i=>exact e i (by simpa using b)
 obtain ⟨c,e⟩:=f n.2.2.1 w h
 exact ⟨by rw [c,hf.ev.v],e⟩
def Zbd (n:Xa):Nat→Nat→List (List Int×QV)
 | _,0=>[]
 | k,m+1=>(Xh (Zg n) k,Z2 (Uq n (Xh (Zg n) k) n.2.1.length 0 1)) :: Zbd n (k+1) m
theorem Zsv (hq:∀ t ∈ n.2.2.2.2,Xz (t.map W1)≤W) (hb:Zp (Zg n)≤65536):∀ (m k:Nat),k+m=Zp (Zg n)→Zex N (V0 n) (Zhi (Zg n) k m)=some (Zbd n k m)
 | 0,k,_=>rfl
 | m+1,k,h=>by
  have c:=Z5k hf
  have d:=Z5m hs hq
  have i:=Zqg c d (hr.mono (by omega)) hN
  have D:=hf.le
  have f:=Zct hf (Zcs (Zg n) k (Vo hf) (by omega))
  obtain ⟨p,e,w,y⟩:=Z48 c d hr hWK hN i (Xh (Zg n) k)
  have o:(decide ((Xh (Zg n) k).length=(V0 n).2.1.length)&&Su (V0 n) (Xh (Zg n) k) 0)=true:=by
   have:∀ (l:List Int) (j:Nat),(Xh (Zg n) k).drop j=l→Su (V0 n) l j=true:=by
    intro l
    induction l with
    | nil=>intro j _;rfl
    | cons x l q=>
     intro j b
     have a:j<(Xh (Zg n) k).length:=by
      rcases cO j (Xh (Zg n) k).length with h | h
      ·exact h
      ·rw [aG h] at b;cases b
     rw [aL a] at b
     obtain ⟨A,B⟩:=List.cons.inj b
     have r:=f.ok j a
     rw [X4 a,A] at r
     have s:cnt (V0 n) j=cnt n j:=rfl
     rw [Su,q (j+1) B,s,decide_eq_false (by omega),decide_eq_false (by omega)];rfl
   rw [this (Xh (Zg n) k) 0 (by rw [aR]),Bool.and_true]
   exact decide_eq_true f.len
  rcases y with ⟨_,u⟩ | ⟨_,_,C⟩
  ·rw [o] at u;cases u
  ·have v:Zh2 N ((V0 n).1,(V0 n).2.1,(V0 n).2.2.1,(V0 n).2.2.2.1,(V0 n).2.2.2.2) (Xh (Zg n) k)=some (p,e):=w
   have g:(Xh (Zg n) k).length≤1099511627776:=by rw [f.len];omega
   rw [Zhi,Zex.eq_2]
   dsimp only
   rw [v,oB,Zqj g,oB,Zsv hq hb m (k+1) (by omega),oB,C,Zua]
   rfl
theorem Z62 (hq:∀ t ∈ n.2.2.2.2,Xz (t.map W1)≤W) (hb:Zp (Zg n)≤65536):Zew N n=some (Zbd n 0 (Zp (Zg n))):=by
 have c:=hf.le;have d:=hf.ev.v
 have a:Tq N (n.1,n.2.1,n.2.2.1,n.2.2.2.1,n.2.2.2.2) [] []=some (Xb (Zg n),0):=Z63 hf hs hr hWK hN hb
 have b:Zhy N (n.1,n.2.1,n.2.2.1,n.2.2.2.1,n.2.2.2.2)=some (V0 n):=Z5g hf hs hr hWK hN
 have ra:=Z84 (N:=N) (Vo hf) (by rw [Zg,aE];omega) (by omega) hb
 rw [Zew,a,oB]
 dsimp only
 rw [if_neg (show ¬ (!decide ((0:Int)=0))=true by decide),b,oB,Znq,ra,oB]
 exact Zsv hf hs hr hWK hN hq hb (Zp (Zg n)) 0 (by omega)
end
def Zf6 (N:Nat) (ab:R0) (ac:List Int) (ag:Bool) (ah ai:List Int) (aa:Int) (kk_L1:(Bool→R2→R2→Int→Option R1)):Nat→Int→Int→Option R1
  | 0,_,_=>none
  | am+1,aj,ad=>(Zi ab.2.2.2.1 aa).bind fun ak=>if (decide (ad<(ak.length:Int)))=true then ((Zi ak ad).bind fun al=>(Zi ab.2.2.1 al).bind fun an=>(Zi ac al).bind fun ao=>(Zf6 N ab ac ag ah ai aa kk_L1 am) (i64.wrap ((i64.wrap (aj * (an.length:Int)))+ao)) (i64.wrap (ad+1))) else ((Zi ab.2.2.2.2 aa).bind fun ap=>(Zi ab.2.2.1 aa).bind fun aq=>(Zi ac aa).bind fun ar=>(Zi ap (i64.wrap ((i64.wrap (aj * (aq.length:Int)))+ar))).bind fun ae=>(Zft N ((ag,ah),ai) ((ae.1.1,ae.1.2),ae.2)).bind fun af=>kk_L1 af.1.1 af.1.2 af.2 (i64.wrap (aa+1)))
def Zb8 (N:Nat) (aa:R0) (ab:List Int):Nat→Bool→R2→R2→Int→Option R1
  | 0,_,_,_,_=>none
  | ag+1,ac,ad,ae,af=>if (decide (af<(aa.2.1.length:Int)))=true then (Zf6 N aa ab ac ad ae af (Zb8 N aa ab ag) N 0 0) else (some ((ac,ad),ae))
def Zja (N:Nat) (ab:R0) (ac:List Int):Option R1:=
  (Zay N 1 1).bind fun aa=>Zb8 N ab ac N aa.1.1 aa.1.2 aa.2 0
theorem Z4b {N a8 a9 ba bb b1:Nat} {bc bd be bf a1:Option Addr} {col:Zd} {w0:World} {ad:R0} {au:R2} {r:R1} (c1 c2:Nat) (hm:Zja N ad au=some r) (c8:Sl Za.str col w0 bc a8 ad.2.1) (av:Sl rV col w0 bd a9 ad.2.2.1) (aw:Sl rP col w0 be ba ad.2.2.2.1) (bg:Sl (Za.slice rQ) col w0 bf bb ad.2.2.2.2) (h1:Sl rI col w0 a1 b1 au):
    Calls prog 33 #[(.agg #[.string ad.1,.slice bc ad.2.1.length a8,.slice bd ad.2.2.1.length a9,.slice be ad.2.2.2.1.length ba,.slice bf ad.2.2.2.2.length bb]),.slice a1 au.length b1] w0 (Qg 45 c1 c2 col w0 r):=by
 refine We (m:=72) func33 rfl rfl rfl ?_;rw [Zja.eq_1] at hm;have aa:=St.start col w0;refine go ?_;refine Xl (col:=(Zf col)) 1 rfl ?_;intro b2 c9 b8 b9 ab;refine Xx (col:=b8) #[.bool false,(nI),(nI)] 2 zeroValue42 ?_;intro b3 da ca b4 ae;refine go ?_;obtain ⟨db,cb,hm⟩:=bZ hm;refine Zk (Zm9 (col:=ca) 3 4 cb) fun _ dc ⟨cc,dd,de,df,dg,e',bo,bp,bq⟩=>⟨_,e',?_⟩;refine Xx (col:=cc) #[.bool false,(nI),(nI)] 5 zeroValue42 ?_;intro b5 dh di az cd;refine Xf cd ?_;intro dj a0 ce af;refine go ?_;replace aa:=((((aa.grow b9).grow b4).grow bo).grow az).kp a0 ce;replace ab:=(((ab.gr b4).gr bo).gr az).kp a0;replace ae:=((ae.gr bo).gr az).kp a0;refine Zs [1,2,4,5,1000000] (fun n f al=>∃ am a2 a3 a4 an a5 a6 ao bh ap,ap=n∧Zb8 N ad au ap a2 an ao bh=some r∧St w0 (Zf col) am al∧Zj 27 1 am al b2 #[.string ad.1,.slice bc ad.2.1.length a8,.slice bd ad.2.2.1.length a9,.slice be ad.2.2.2.1.length ba,.slice bf ad.2.2.2.2.length bb]∧Zj 42 2 am al b3 #[.bool false,(nI),(nI)]∧Zc rU 45 3 am al a3 a4 an∧Zc rU 45 4 am al a5 a6 ao∧Zj 42 5 am al b5 #[.bool a2,.slice a3 an.length a4,.slice a5 ao.length a6]∧[6].map f=[.int .i64 bh]) N ⟨_,_,_,_,_,_,_,_,0,_,rfl,hm,aa,ab,ae,(bp.gr az).kp a0,(bq.gr az).kp a0,af,rfl⟩ ?_;clear hm;intro n f al hI;obtain ⟨am,a2,a3,a4,an,a5,a6,ao,bh,ap,hn,hm,aa,ab,ae,ag,ah,af,hs⟩:=hI;subst hn;refine .lL [6] hs ?_;replace av:=av.k0;replace aw:=aw.k0;replace bg:=bg.k0;replace h1:=h1.k0
 cases ap with
 | zero=>rw [Zb8.eq_1] at hm;cases hm
 | succ ap=>
  rw [Zb8.eq_2] at hm;refine go ?_;refine Z1 ab ?_;refine go ?_;refine Zm hm (fun hb hm=>go ?_) fun hb hm=>go ?_
  ·refine Zs [1,2,4,5,6,1000000] (fun n f aq=>∃ ac br bs ax,ax=n∧Zf6 N ad au a2 an ao bh (Zb8 N ad au ap) ax br bs=some r∧St w0 (Zf col) ac aq∧Zj 27 1 ac aq b2 #[.string ad.1,.slice bc ad.2.1.length a8,.slice bd ad.2.2.1.length a9,.slice be ad.2.2.2.1.length ba,.slice bf ad.2.2.2.2.length bb]∧Zj 42 2 ac aq b3 #[.bool false,(nI),(nI)]∧Zc rU 45 3 ac aq a3 a4 an∧Zc rU 45 4 ac aq a5 a6 ao∧Zj 42 5 ac aq b5 #[.bool a2,.slice a3 an.length a4,.slice a5 ao.length a6]∧[7,8].map f=[.int .i64 br,.int .i64 bs]) N ⟨_,0,0,_,rfl,hm,aa,ab,ae,ag,ah,af,rfl⟩ ?_;clear hm;intro n f aq hI;obtain ⟨ac,br,bs,ax,hn,hm,aa,ab,ae,ag,ah,af,hs⟩:=hI;subst hn;refine .lL [7,8] hs ?_
   cases ax with
   | zero=>rw [Zf6.eq_1] at hm;cases hm
   | succ ax=>
    rw [Zf6.eq_2] at hm;refine go ?_;refine Z1 ab<|Xr rfl ?_;obtain ⟨dk,ay,hm⟩:=bZ hm;refine lI ay ((aw.ks aa).addr ay) ?_;obtain ⟨_,cf,cg⟩:=(aw.ks aa).atN ay;obtain ⟨⟨dl,dm,rfl,dn⟩,_⟩:=cf;refine lW cg.one<|go ?_;refine Zm hm (fun hb hm=>go ?_) fun hb hm=>go ?_
    ·refine Z1 ab<|Xr rfl<|lI ay ((aw.ks aa).addr ay) ?_;obtain ⟨_,ch,ci⟩:=(aw.ks aa).atN ay;obtain ⟨⟨dp,dq,rfl,b6⟩,_⟩:=ch;refine lW ci.one<|Xr rfl ?_;obtain ⟨dr,bt,hm⟩:=bZ hm;refine lI bt (b6.addr bt)<|lW (b6.atInt bt) ?_;refine go ?_;refine Y7 (col:=ac) (by kernel_rfl) (by kernel_rfl)<|go ?_;refine qF ⟨_,_,rfl⟩ ?_;refine qW (fun _ hC=>((ab.atN).nth (q:=2) rfl).gr (hC.bl ac)) ?_;refine go ?_;obtain ⟨ds,bu,hm⟩:=bZ hm;refine qI bu ((av.ks aa).addr bu) ?_;obtain ⟨_,cj,ck⟩:=(av.ks aa).atN bu;obtain ⟨⟨dt,du,rfl,dv⟩,_⟩:=cj;refine qW (fun _ hC=>ck.one.gr (hC.bl ac)) ?_;refine go ?_;obtain ⟨dw,bv,hm⟩:=bZ hm;refine qI bv ((h1.ks aa).addr bv)<|qW (fun _ hC=>((h1.ks aa).gr (hC.bl ac)).atInt bv) ?_;refine go ?_;refine X2 ?_;intro dx hC;replace hC:=hC.bl ac;refine go ?_;replace ag:=ag.gr hC;replace ah:=ah.gr hC;replace ab:=ab.gr hC;replace ae:=ae.gr hC;replace af:=af.gr hC;replace aa:=aa.grow hC;exact ⟨ax,by omega,rfl,⟨_,_,_,_,rfl,hm,aa,ab,ae,ag,ah,af,rfl⟩⟩
    refine Wc (col:=ac) [(0,0),(1,1),(2,0),(3,1),(4,1),(5,0),(6,1),(7,1),(8,0),(9,1),(10,1),(11,0),(12,1),(13,1),(14,1),(15,1),(16,1),(17,0),(18,1),(19,1),(20,0),(21,3),(22,2)] (by kernel_rfl) (by kernel_rfl)<|xv rfl rfl (fun _ hC=>Z9 isAgg42 sizeOf42 (af.gr (hC.bl ac))) ?_;refine xF ⟨_,_,rfl⟩ ?_;refine xW (fun _ hC=>((ab.atN).nth (q:=4) rfl).gr (hC.bl ac)) ?_;refine xu rfl rfl (fun _=>Yz rfl) ?_;obtain ⟨dy,bi,hm⟩:=bZ hm;refine xu rfl rfl (fun _=>Yv underlying25 sizeOf29 rfl rfl (Xe bi).1 (Xe bi).2.1 ((bg.ks aa).addr bi)) ?_;obtain ⟨_,cl,cn⟩:=(bg.ks aa).atN bi;obtain ⟨⟨dz,d0,rfl,b7⟩,_⟩:=cl;refine xW (fun _ hC=>cn.one.gr (hC.bl ac)) ?_;refine xu rfl rfl (fun _=>Yz rfl) ?_;refine xF ⟨_,_,rfl⟩ ?_;refine xW (fun _ hC=>((ab.atN).nth (q:=2) rfl).gr (hC.bl ac)) ?_;refine xu rfl rfl (fun _=>Yz rfl) ?_;obtain ⟨d1,bj,hm⟩:=bZ hm;refine xu rfl rfl (fun _=>Yv underlying23 sizeOf22 rfl rfl (Xe bj).1 (Xe bj).2.1 ((av.ks aa).addr bj)) ?_;obtain ⟨_,co,cp⟩:=(av.ks aa).atN bj;obtain ⟨⟨d2,d3,rfl,d4⟩,_⟩:=co;refine xW (fun _ hC=>cp.one.gr (hC.bl ac)) ?_;refine xu rfl rfl (fun _=>Uz underlying22 rfl) ?_;refine xu rfl rfl (fun _=>Zjs _ _ rfl rfl) ?_;refine xu rfl rfl (fun _=>Va rfl) ?_;refine xu rfl rfl (fun _=>Yz rfl) ?_;obtain ⟨d5,bk,hm⟩:=bZ hm;refine xu rfl rfl (fun _=>Yv underlying36 sizeOf3 rfl rfl (Xe bk).1 (Xe bk).2.1 ((h1.ks aa).addr bk)) ?_;refine xW (fun _ hC=>((h1.ks aa).gr (hC.bl ac)).atInt bk) ?_;refine xu rfl rfl (fun _=>Zah _ _ rfl rfl) ?_;obtain ⟨bw,bm,hm⟩:=bZ hm;refine xu rfl rfl (fun _=>Yv underlying29 sizeOf42 rfl rfl (Xe bm).1 (Xe bm).2.1 (b7.addr bm)) ?_;obtain ⟨_,cq,cr⟩:=b7.atN bm;obtain ⟨_,_,rfl,cs,ct⟩:=Yb cq;obtain ⟨_,_,rfl,cu,cv⟩:=Yb cs;obtain ⟨rfl,_⟩:=cu;obtain ⟨⟨cw,cx,rfl,bx⟩,_⟩:=cv;obtain ⟨⟨cy,cz,rfl,bz⟩,_⟩:=ct;refine xv (v:=(.agg #[.bool bw.1.1,.slice cw bw.1.2.length cx,.slice cy bw.2.length cz])) rfl rfl (fun _ hC=>Ym isAgg42 sizeOf42 rfl rfl (cr.gr (hC.bl ac))) ?_;refine xe rfl rfl ?_;intro c0 hC0;have hC:=hC0.bl ac;obtain ⟨d6,c3,hm⟩:=bZ hm;replace ag:=ag.gr hC;replace ah:=ah.gr hC;replace bz:=bz.gr hC
    refine Zk (Z3s 6 7 c3 ((ag.toSlF (Zh.int .u32)).froz 4) ((ah.froz 3).toSlF (Zh.int .u32)) (((bx.gr hC).froz 3).froz 4) ((bz.froz 3).froz 4)) fun _ d7 ⟨c4,d8,d9,ea,eb,e',ak,ai,aj⟩=>⟨_,e',?_⟩;replace ai:=ai.thaw (Z3 .u32) ak (((Fz.refl (col:=ac)).froz 3).froz 4);replace aj:=aj.thaw (Z3 .u32) ak (((Fz.refl (col:=ac)).froz 3).froz 4);replace ak:=ak.thawR (col:=ac);generalize Xj c0.heap.size ac c4=bn at *;refine Zl<|Xt bn hC0 ak<|xe rfl rfl ?_;intro ec hC0;replace ab:=(ab.gr hC).gr ak;replace ae:=(ae.gr hC).gr ak;replace af:=(af.gr hC).gr ak;replace aa:=(aa.grow hC).grow ak;have hC:=hC0.bl bn;replace af:=af.gr hC;refine Xf af ?_;intro ed a7 c5 ar;refine Zl<|xk bn<|Y0 ?_;replace ai:=(ai.gr hC).kp a7;replace aj:=(aj.gr hC).kp a7;replace ab:=(ab.gr hC).kp a7;replace ae:=(ae.gr hC).kp a7;replace aa:=(aa.grow hC).kp a7 c5;intro ee hC;replace hC:=hC.bl bn;refine go ?_;replace ai:=ai.gr hC;replace ai:=ai.recolSelf 3 (by decide);replace aj:=aj.gr hC;replace aj:=aj.recol 6 3;replace ab:=ab.gr hC;replace ab:=ab.recol 6 3;replace ae:=ae.gr hC;replace ae:=ae.recol 6 3;replace ar:=ar.gr hC;replace ar:=ar.recol 6 3;replace aa:=aa.grow hC;replace aa:=aa.recol 6 3 (by decide) (by decide);replace aj:=aj.recolSelf 4 (by decide);replace ae:=ae.recol 7 4;replace aa:=aa.recol 7 4 (by decide) (by decide);exact ⟨ap,by omega,rfl,⟨_,_,_,_,_,_,_,_,_,_,rfl,hm,aa,ab.recol 7 4,ae,ai.recol 7 4,aj,ar.recol 7 4,rfl⟩⟩
  refine lV _ (Z9 isAgg42 sizeOf42 af)<|Xf ae ?_;intro ef b0 c6 c7;refine go ?_;cases hm;replace aa:=aa.kp b0 c6;exact ⟨rfl,_,ra c7.atN,_,_,_,_,_,rfl,aa.fin (cm [(3,c1),(4,c2)]),aa.fo (ag.kp b0),aa.fo (ah.kp b0)⟩
def Zdu (N:Nat) (ac:R0):Nat→R2→Int→Option Ri
  | 0,_,_=>none
  | ae+1,ad,aa=>if (decide (0≤aa))=true then ((Zi ad aa).bind fun af=>(some (ad.set (aA aa) (i64.wrap (af+1)))).bind fun ab=>(Zi ab aa).bind fun ag=>(Zi ac.2.2.1 aa).bind fun ah=>if (decide (ag<(ah.length:Int)))=true then (some (ab,true)) else ((some (ab.set (aA aa) 0)).bind fun ai=>(Zdu N ac ae) ai (i64.wrap (aa - 1)))) else (some (([]:List Int),false))
def Zjg (N:Nat) (ab:R0) (aa:List Int):Option Ri:=
  Zt ((([]:List Int).length+aa.length) * 8≤140737488355328∧([]:List Int).length+aa.length≤maxLen) (Zdu N ab N (([]:List Int)++aa) (i64.wrap (((([]:List Int)++aa).length:Int) - 1)))
theorem Z4g {N an ao ap aq a4:Nat} {ar au av aw a1:Option Addr} {col:Zd} {w0:World} {aa:R0} {ax:R2} {r:Ri} (c1:Nat) (hm:Zjg N aa ax=some r) (bk:Sl Za.str col w0 ar an aa.2.1) (ay:Sl rV col w0 au ao aa.2.2.1) (bm:Sl rP col w0 av ap aa.2.2.2.1) (bn:Sl (Za.slice rQ) col w0 aw aq aa.2.2.2.2) (h1:Sl rI col w0 a1 a4 ax):
    Calls prog 34 #[(.agg #[.string aa.1,.slice ar aa.2.1.length an,.slice au aa.2.2.1.length ao,.slice av aa.2.2.2.1.length ap,.slice aw aa.2.2.2.2.length aq]),.slice a1 ax.length a4] w0 (fun e w'=>∃ col' ra1 rc2,e= .returned (.tuple #[.slice ra1 r.1.length rc2,.bool r.2])∧Zn col w0 col' w'∧Zc rI 3 c1 col' w' ra1 rc2 r.1):=by
 refine Zcp 4 5 (m:=41) (args:=[(.agg #[.string aa.1,.slice ar aa.2.1.length an,.slice au aa.2.2.1.length ao,.slice av aa.2.2.2.1.length ap,.slice aw aa.2.2.2.2.length aq]),.slice a1 ax.length a4]) func34 rfl rfl rfl rfl rfl ?_;rw [Zjg.eq_1] at hm;have ab:=St.start col w0;refine go ?_;refine Xl (col:=(Zf col)) 1 rfl ?_;intro bc bo bp bd ac;refine go ?_;obtain ⟨be,hm⟩:=Zv hm;replace ab:=ab.grow bd;refine Yy (c:=2) Zc.nil (h1.k0.ks ab).srcC be ?_;intro bq br bs bt a7 bf;refine go ?_;replace ac:=ac.kpp a7;replace ab:=ab.kpp a7;refine Zs [2,1000000] (fun n f az=>∃ ad af ag ah al ai,ai=n∧Zdu N aa ai ah al=some r∧St w0 (Zf col) ad az∧Zj 27 1 ad az bc #[.string aa.1,.slice ar aa.2.1.length an,.slice au aa.2.2.1.length ao,.slice av aa.2.2.2.1.length ap,.slice aw aa.2.2.2.2.length aq]∧Zc rI 3 2 ad az af ag ah∧[6,7].map f=[.slice af ah.length ag,.int .i64 al]) N ⟨_,_,_,_,_,_,rfl,hm,ab,ac,bf,rfl⟩ ?_;clear hm;intro n f az hI;obtain ⟨ad,af,ag,ah,al,ai,hn,hm,ab,ac,a0,hs⟩:=hI;subst hn;refine .lL [6,7] hs ?_;replace ay:=ay.k0
 cases ai with
 | zero=>rw [Zdu.eq_1] at hm;cases hm
 | succ ai=>
  rw [Zdu.eq_2] at hm;refine go ?_;refine Zm hm (fun hb hm=>go ?_) fun hb hm=>go ?_
  ·obtain ⟨a8,aj,hm⟩:=bZ hm;refine lI aj (a0.addr aj)<|lW (a0.atInt aj) ?_;refine go ?_;refine lI aj (a0.addr aj) ?_;obtain ⟨am,a2,hm⟩:=bZ hm;have a2:am=ah.set (aA al) (i64.wrap (a8+1)):=(Option.some.inj a2).symm;refine Wa (x1:=i64.wrap (a8+1)) a0 aj ?_;intro bu a9 bg ae;rw [← a2] at ae;refine .ld (d:=6) (v:=(.slice af am.length ag)) (congrArg (fun n=>Value.slice af n ag) (show ah.length=am.length by rw [a2,nS])) ?_;refine go ?_;refine Y7 (col:=ad) (by kernel_rfl) (by kernel_rfl)<|go ?_;obtain ⟨bv,ak,hm⟩:=bZ hm;refine qI ak (ae.addr ak)<|qW (fun _ hC=>(ae.gr (hC.bl ad)).atInt ak) ?_;refine qF ⟨_,_,rfl⟩ ?_;replace ac:=ac.kp a9;refine qW (fun _ hC=>((ac.atN).nth (q:=2) rfl).gr (hC.bl ad)) ?_;refine go ?_;obtain ⟨bw,a5,hm⟩:=bZ hm;replace ab:=ab.kp a9 bg;refine qI a5 ((ay.ks ab).addr a5) ?_;obtain ⟨_,bh,bi⟩:=(ay.ks ab).atN a5;obtain ⟨⟨bx,bz,rfl,b0⟩,_⟩:=bh;refine qW (fun _ hC=>bi.one.gr (hC.bl ad)) ?_;refine go ?_;refine X2 ?_;intro b1 hC;replace hC:=hC.bl ad;replace ae:=ae.gr hC;replace ac:=ac.gr hC;replace ab:=ab.grow hC;refine Zm hm (fun hb hm=>go ?_) fun hb hm=>go ?_
   ·cases hm;exact ⟨rfl,_,_,_,rfl,ab.fin (cm [(2,c1)]),ab.fo ae⟩
   refine lI ak (ae.addr ak) ?_;obtain ⟨a6,a3,hm⟩:=bZ hm;have a3:a6=am.set (aA al) 0:=(Option.some.inj a3).symm;refine Wa (x1:=0) ae ak ?_;intro b2 ba bj bb;rw [← a3] at bb;refine .ld (d:=6) (v:=(.slice af a6.length ag)) (congrArg (fun n=>Value.slice af n ag) (show am.length=a6.length by rw [a3,nS])) ?_;refine go ?_;replace ab:=ab.kp ba bj;exact ⟨ai,by omega,rfl,⟨_,_,_,_,_,_,rfl,hm,ab,ac.kp ba,bb,rfl⟩⟩
  cases hm;exact ⟨rfl,_,none,0,rfl,ab.fin (cm []),Zc.nil⟩
section
variable {N W K:Nat} {n:Xa} (hf:Y8 N n) {w:List Int} (hw:Us n w)
include hf hw
theorem Zzl {v:Nat} (hv:v<n.2.1.length) (hps:(n.2.2.2.1.getD v []).length≤1048576) (a:Bool) (b c:List Int) (kk:Bool→List Int→List Int→Int→Option QV) {x:QV} (hx:Zi (n.2.2.2.2.getD v []) ((Vu n w v * cnt n v+(w.getD v 0).toNat:Nat):Int)=some x):∀ (f i r k:Nat),i≤(n.2.2.2.1.getD v []).length→(n.2.2.2.1.getD v []).length<f+i→r<k→k≤65536→Yw n.2.2.1 ((n.2.2.2.1.getD v []).drop i) k≤65536→Qk n w ((n.2.2.2.1.getD v []).drop i) r=Vu n w v→
  Zf6 N n w a b c (v:Int) kk f (r:Int) (i:Int)=(Zft N ((a,b),c) ((x.1.1,x.1.2),x.2)).bind fun r_104=>kk r_104.1.1 r_104.1.2 r_104.2 (i64.wrap ((v:Int)+1))
 | 0,i,r,k,o,s,_,_,_,_=>by omega
 | f+1,i,r,k,o,s,u,y,g,d=>by
  have L:=hw.ok v (by rw [hw.len];exact hv)
  rw [Zf6.eq_2,Vg [] (by rw [hf.ev.p];exact hv),oB]
  by_cases hi:i<(n.2.2.2.1.getD v []).length
  ·have e:∀ q ∈ (n.2.2.2.1.getD v []).drop i,0≤q∧q<(n.2.1.length:Int):=fun q A=>hf.pars hv q (eH A)
   rw [aL hi] at g e d
   obtain ⟨B,C,D⟩:=Zr6 hf.ev hw e u y g
   rw [Qk] at d
   generalize he:(n.2.2.2.1.getD v [])[i]=p at *
   have M:=e p aQ
   have O:=hw.ok p.toNat (by rw [hw.len];omega)
   have P:r * cnt n p.toNat≤k * cnt n p.toNat:=bH _ (by omega)
   have q1:Zi n.2.2.1 p=some (n.2.2.1.getD p.toNat []):=by
    have:=Vg (l:=n.2.2.1) [] (j:=p.toNat) (by rw [hf.ev.v];omega)
    rwa [show ((p.toNat:Nat):Int)=p by omega] at this
   have E:Zi w p=some (w.getD p.toNat 0):=by
    have:=Vg (l:=w) 0 (j:=p.toNat) (by rw [hw.len];omega)
    rwa [show ((p.toNat:Nat):Int)=p by omega] at this
   have F:i64.wrap ((r:Int) * ((n.2.2.1.getD p.toNat []).length:Int))=((r * cnt n p.toNat:Nat):Int):=by
    rw [show ((n.2.2.1.getD p.toNat []).length:Int)=((cnt n p.toNat:Nat):Int) from rfl,← bQ]
    exact Zr (by omega)
   have G:i64.wrap (((r * cnt n p.toNat:Nat):Int)+w.getD p.toNat 0)=((r * cnt n p.toNat+(w.getD p.toNat 0).toNat:Nat):Int):=by
    rw [fN,show (((w.getD p.toNat 0).toNat:Nat):Int)=w.getD p.toNat 0 by omega]
    exact Zr (by omega)
   rw [if_pos (dT (by omega)),Zu hi,he,oB,q1,oB,E,oB,F,G,wS (by omega)]
   exact Zzl hv hps a b c kk hx f (i+1) _ _ (by omega) (by omega) B C D d
  ·rw [aG (by omega),Qk] at d
   have H:=hf.row hw hv
   have m:=hf.rows hv
   have I:i64.wrap ((Vu n w v:Int) * ((n.2.2.1.getD v []).length:Int))=((Vu n w v * cnt n v:Nat):Int):=by
    rw [show ((n.2.2.1.getD v []).length:Int)=((cnt n v:Nat):Int) from rfl,← bQ]
    exact Zr (by omega)
   have J:i64.wrap (((Vu n w v * cnt n v:Nat):Int)+w.getD v 0)=((Vu n w v * cnt n v+(w.getD v 0).toNat:Nat):Int):=by
    rw [fN,show (((w.getD v 0).toNat:Nat):Int)=w.getD v 0 by omega]
    exact Zr (by omega)
   rw [if_neg (dF (by omega)),Vg [] (by rw [hf.ev.t];exact hv),oB,Vg [] (by rw [hf.ev.v];exact hv),oB,Vg 0 (by rw [hw.len];exact hv),oB,d,I,J,hx,oB]
variable (hs:W6 n W) (hr:Xg N (8 * K+40)) (hWK:1025 * (W+2)+4≤K) (hN:2000000<N)
include hs hr hWK hN
theorem Zzk:∀ (f k:Nat) (q:Rat),k≤n.2.1.length→n.2.1.length<f+k→qs q≤k * (W+1)+1→Zb8 N n w f (Z2 q).1.1 (Z2 q).1.2 (Z2 q).2 (k:Int)=some (Z2 (Uq n w (n.2.1.length - k) k q))
 | 0,k,q,j,l,_=>by omega
 | f+1,k,q,j,l,m=>by
  have v:=hf.le
  rw [Zb8.eq_2]
  by_cases hk:k<n.2.1.length
  ·have a:=hf.rows hk
   have e:(n.2.2.2.1.getD k []).length≤1048576:=by
    rw [X4 (by rw [hf.ev.p];exact hk)]
    exact hs.pn.ls _ (aD _)
   have x:=hw.ok k (by rw [hw.len];exact hk)
   have c:(w.getD k 0).toNat<(Vv n w k).length:=by rw [hf.rowT_len hw hk];omega
   have b:=Z0o (n:=n) (w:=w) c
   obtain ⟨y,d⟩:∃ y,y=(Vv n w k)[(w.getD k 0).toNat]:=⟨_,rfl⟩
   rw [← d] at b
   obtain ⟨g,o⟩:=Znj hf hs hk y (Zon (d ▸ aD c))
   have r:ent n w k=Xm y:=by rw [ent,X4 c,d]
   have s:k * (W+1)≤1024 * (W+1):=bH _ (by omega)
   have t:Zft N (((Z2 q).1.1,(Z2 q).1.2),(Z2 q).2) ((y.1.1,y.1.2),y.2)=some (Z2 (q * ent n w k)):=by
    have:=Z9g (Zcf m) ((Zcg g.1 g.2).mono o) (hr.mono (by omega))
    rwa [Te,← r] at this
   have i:=Zzl hf hw hk e (Z2 q).1.1 (Z2 q).1.2 (Z2 q).2 (Zb8 N n w f) b N 0 0 1 (aT _) (by omega) (by omega) (by omega) a.2.2 (by rw [aR];rfl)
   rw [show ((0:Nat):Int)=0 from rfl,t,oB,wS (by omega)] at i
   have A:=Zyv q (ent n w k)
   have B:=Zut hf hw hs hk
   have u:=Zzk f (k+1) (q * ent n w k) (by omega) (by omega) (by rw [bM,bR];omega)
   rw [if_pos (dT (by omega)),i,u,show n.2.1.length - k=(n.2.1.length - (k+1))+1 by omega,Uq]
  ·rw [if_neg (dF (by omega)),show n.2.1.length - k=0 by omega,Uq]
theorem Z88:Zja N n w=some (Z2 (Uq n w n.2.1.length 0 1)):=by
 have a:=hf.le
 have h:=Zzk hf hw hs hr hWK hN N 0 1 (aT _) (by omega) (by rw [Zrs];omega)
 rw [Zja,Z1n (hr.mono (by omega)),oB]
 exact h
end
/-! the next one -/
def Zqw:List Nat→List Int→Nat→Nat
 | s :: ss,d :: w,a=>Zqw ss w (a * s+d.toNat)
 | _,_,a=>a
theorem Zrm:∀ (ss:List Nat) (w:List Int) (v a:Nat),ss.length=w.length→v≤w.length→a * Zp ss+Yl ss w=Zqw (ss.take v) (w.take v) a * Zp (ss.drop v)+Yl (ss.drop v) (w.drop v)
 | ss,w,0,a,_,_=>by
  rw [eO,eO,aR,aR]
  rfl
 | [],[],v+1,a,_,h=>by simp at h
 | s :: ss,d :: w,v+1,a,b,c=>by
  have e:=Zrm ss w v (a * s+d.toNat) (by simpa using b) (by simpa using c)
  rw [iK,iK,iL,iL,Zqw,← e,Zp,Yl,bM,Nat.mul_assoc,dU]
theorem Zyd:∀ ss:List Nat,Yl ss (aC ss.length 0)=0
 | []=>rfl
 | s :: ss=>by rw [nC,iM,Yl,Zyd ss];simp
theorem Zke {ss:List Nat}:∀ {w:List Int},U3 ss w→ss.length=w.length∧∀ i,i<w.length→0≤w.getD i 0∧w.getD i 0<((ss.getD i 0:Nat):Int):=by
 induction ss with
 | nil=>
  intro w hw
  cases w with
  | nil=>exact ⟨rfl,fun i a=>by simp at a⟩
  | cons d w=>exact hw.elim
 | cons s ss b=>
  intro w hw
  cases w with
  | nil=>exact hw.elim
  | cons d w=>
   obtain ⟨c,e⟩:=b hw.2
   refine ⟨by rw [nC,nC,c],fun i a=>?_⟩
   cases i with
   | zero=>exact hw.1
   | succ i=>exact e i (by simpa using a)
theorem Z5r {ss:List Nat}:∀ {w:List Int},ss.length=w.length→(∀ i,i<w.length→0≤w.getD i 0∧w.getD i 0<((ss.getD i 0:Nat):Int))→U3 ss w:=by
 induction ss with
 | nil=>
  intro w hw _
  cases w with
  | nil=>trivial
  | cons d w=>simp at hw
 | cons s ss b=>
  intro w hw a
  cases w with
  | nil=>simp at hw
  | cons d w=>exact ⟨a 0 (by simp),b (by simpa using hw) fun i c=>by have:=a (i+1) (by simpa using c);simpa using this⟩
theorem Z0i {N:Nat} {n:Xa} (hf:Y8 N n) {w:List Int} (hw:U3 (Zg n) w) (hP:Zp (Zg n)≤65536):∀ (v f:Nat),v≤w.length→v<f→Yl ((Zg n).drop v) (w.drop v)+1=Zp ((Zg n).drop v)→
  Zdu N n f (w.take v++aC (w.length - v) 0) ((v:Int) - 1)=some (if Yl (Zg n) w+1<Zp (Zg n) then (Xh (Zg n) (Yl (Zg n) w+1),true) else ([],false))
 | v,0,_,h,_=>by omega
 | 0,f+1,H,I,m=>by
  rw [aR,aR] at m
  rw [Zdu.eq_2,if_neg (by decide),if_neg (by omega)]
 | v+1,f+1,H,I,m=>by
  obtain ⟨B,C⟩:=Zke hw
  have J:=hf.ev.v;have Q:=hf.le
  have R:(Zg n).length=n.2.1.length:=by rw [Zg,aE,J]
  have b:v<w.length:=by omega
  have q:v<n.2.2.1.length:=by omega
  have g:=C v b
  have r:(Zg n).getD v 0=n.2.2.1[v].length:=by
   rw [X4 (show v<(Zg n).length by omega)];simp only [Zg,bU]
  rw [r,X4 b] at g
  obtain ⟨d,o⟩:∃ d:Nat,w[v]=(d:Int):=⟨(w[v]).toNat,by omega⟩
  have j:(Zg n).drop v=n.2.2.1[v].length :: (Zg n).drop (v+1):=by
   rw [aL (show v<(Zg n).length by omega)]
   simp only [Zg,bU]
  have s:w.drop v=(d:Int) :: w.drop (v+1):=by rw [aL b,o]
  have L:(w.take (v+1)++aC (w.length - (v+1)) 0).length=w.length:=by
   rw [nA,nK,aN];omega
  have D:Zi (w.take (v+1)++aC (w.length - (v+1)) 0) (v:Int)=some (d:Int):=by
   rw [Zu (by omega),List.getElem_append_left (by rw [nK];omega),fC,o]
  have A:∀ c:Int,(w.take (v+1)++aC (w.length - (v+1)) 0).set v c=w.take v++c :: aC (w.length - (v+1)) 0:=fun c=>by
   rw [bF b,bK,eJ (i:=v) c (by rw [nK];omega),nK,aS (by omega),fB,List.singleton_append,fX]
  have a:Zi (w.take v++((d:Int)+1) :: aC (w.length - (v+1)) 0) (v:Int)=some ((d:Int)+1):=by
   rw [Zu (by rw [nA,nK,nC,aN];omega),List.getElem_append_right (by rw [nK];omega)]
   congr 1
   simp [cE,aS (show v≤w.length by omega)]
  have p:(w.take v++((d:Int)+1) :: aC (w.length - (v+1)) 0).set v 0=w.take v++aC (w.length - v) 0:=by
   rw [eJ (i:=v) 0 (by rw [nK];omega),nK,aS (by omega),fB,fX,show w.length - v=(w.length - (v+1))+1 by omega,iM]
  have S:d<4611686018427387904:=by
   have t:v<n.2.1.length:=by omega
   have T:=(hf.row (Zct hf hw) t).1
   have U:=(hf.rows t).2.1
   have V:cnt n v=n.2.2.1[v].length:=by rw [cnt,X4 q]
   rw [o] at g
   omega
  rw [Zdu.eq_2,show ((v+1:Nat):Int) - 1=(v:Int) by omega,if_pos (dT (by omega)),D,oB,aB,Zr (x:=(d:Int)+1) (by omega),A,oB,a,oB,Zu q,oB]
  have k:=Zrm (Zg n) w v 0 B (by omega)
  rw [gQ,cS,j,s,Zp,Yl,aB] at k
  by_cases hlt:(d:Int)+1<(n.2.2.1[v].length:Int)
  ·have E:U3 (Zg n) (w.take v++((d:Int)+1) :: aC (w.length - (v+1)) 0):=by
    refine Z5r (by rw [nA,nK,nC,aN];omega) fun i M=>?_
    rw [nA,nK,nC,aN] at M
    by_cases h:i<v
    ·have:=C i (by omega)
     rw [aF,List.getElem?_append_left (by rw [nK];omega),List.getElem?_take,if_pos h,← aF]
     exact this
    ·by_cases h':i=v
     ·subst h'
      have e:(w.take i++((d:Int)+1) :: aC (w.length - (i+1)) 0).getD i 0=(d:Int)+1:=by
       rw [Zu (by rw [nA,nK,nC,aN];omega),Option.some.injEq] at a
       rw [X4 (by rw [nA,nK,nC,aN];omega),a]
      rw [e,r];omega
     ·have e:(w.take v++((d:Int)+1) :: aC (w.length - (v+1)) 0).getD i 0=0:=by
       rw [aF,List.getElem?_append_right (by rw [nK];omega),nK,aS (by omega),show i - v=(i - v - 1)+1 by omega,List.getElem?_cons_succ,List.getElem?_replicate]
       split <;> rfl
      rw [e]
      have X:=Vo hf ((Zg n).getD i 0) (by rw [X4 (show i<(Zg n).length by omega)];exact aD _)
      omega
   have u:Yl (Zg n) (w.take v++((d:Int)+1) :: aC (w.length - (v+1)) 0)=Yl (Zg n) w+1:=by
    have y:=Zrm (Zg n) (w.take v++((d:Int)+1) :: aC (w.length - (v+1)) 0) v 0 (by rw [nA,nK,nC,aN];omega) (by rw [nA,nK,nC,aN];omega)
    have O:(w.take v++((d:Int)+1) :: aC (w.length - (v+1)) 0).take v=w.take v:=List.take_left' (by rw [nK];omega)
    have P:(w.take v++((d:Int)+1) :: aC (w.length - (v+1)) 0).drop v=((d:Int)+1) :: aC (w.length - (v+1)) 0:=List.drop_left' (by rw [nK];omega)
    have F:aC (w.length - (v+1)) (0:Int)=aC ((Zg n).drop (v+1)).length 0:=by rw [cG,B]
    rw [gQ,cS,O,P,j,Zp,Yl,F,Zyd,show ((d:Int)+1).toNat=d+1 by omega,bM,bR,bO] at y
    rw [F,y,k,← m];omega
   have l:=Zeb _ _ E
   rw [u] at l
   rw [if_pos (dT hlt),if_pos l,← u,Zul _ _ E]
  ·have G:d+1=n.2.2.1[v].length:=by rw [o] at g;omega
   rw [if_neg (dF hlt),p,oB,Zr (by omega)]
   refine Z0i hf hw hP v f (by omega) (by omega) ?_
   rw [j,s,Zp,Yl,aB,dU,m,← G,bM,bR]
def Zgu (aa:Bool):Option Bool:=
  some aa
def Zjm (ab:R0) (aa:R5):Option Bool:=
  if (decide (aa.1<0))=true then (Zgu true) else (if (decide ((ab.2.1.length:Int)≤aa.1))=true then (Zgu true) else (if (decide (aa.2<0))=true then (Zgu true) else ((Zi ab.2.2.1 aa.1).bind fun ac=>Zgu (decide ((ac.length:Int)≤aa.2)))))
theorem Z4k {am an ao ap:Nat} {aq ar au av:Option Addr} {col:Zd} {w0:World} {ac:R0} {ad:R5} {r:Bool} (hm:Zjm ac ad=some r) (a4:Sl Za.str col w0 aq am ac.2.1) (af:Sl rV col w0 ar an ac.2.2.1) (a5:Sl rP col w0 au ao ac.2.2.2.1) (a6:Sl (Za.slice rQ) col w0 av ap ac.2.2.2.2):
    Calls prog 87 #[(.agg #[.string ac.1,.slice aq ac.2.1.length am,.slice ar ac.2.2.1.length an,.slice au ac.2.2.2.1.length ao,.slice av ac.2.2.2.2.length ap]),(.agg #[.int .i64 ad.1,.int .i64 ad.2])] w0 (Wx w0 r):=by
 refine Z6 4 (m:=33) func87 rfl rfl rfl rfl rfl ?_;rw [Zjm.eq_1] at hm;have aa:=St.start col w0;refine go ?_;refine Xl (col:=(Zf col)) 1 rfl ?_;intro a7 a8 az a0 ag;refine Xl (col:=az) 2 rfl ?_;intro a9 ba ab aw ae;refine Qt rfl<|Zl<|Z0 ?_;replace af:=af.k0;replace aa:=(aa.grow a0).grow aw;replace ag:=ag.gr aw;refine Wp.cutK [1000000] (fun f ax=>∃ ay ah,Zgu ah=some r∧St w0 (Zf col) ay ax∧[4].map f=[.bool ah]) ?_ ?_
 ·intro f ax hJ;obtain ⟨ay,ah,hm,aa,hs⟩:=hJ;rw [Zgu.eq_1] at hm;refine .lL [4] hs<|Wh ?_;cases hm;exact ⟨rfl,rfl,aa.below⟩
 refine Y7 (col:=ab) (by kernel_rfl) (by kernel_rfl)<|qF ⟨_,_,rfl⟩ ?_;refine qW (fun _ hC=>((ae.atN).nth (q:=0) rfl).gr (hC.bl ab)) ?_;refine go ?_;refine Xn hm (fun ai hm=>go ?_) fun ai hm=>go ?_
 ·refine qv (v:=(.bool true)) rfl (fun _ hC=>Zw (congrArg Value.bool ai) rfl) ?_;refine go ?_;refine qP 16 rfl rfl<|qP 16 rfl rfl<|qP 16 rfl rfl<|qv (v:=(.bool true)) rfl (fun _ hC=>Zw rfl rfl) ?_;refine go ?_;refine qP 21 rfl rfl<|qP 21 rfl rfl<|qP 21 rfl rfl<|qP 21 rfl rfl<|qP 21 rfl rfl<|qP 21 rfl rfl<|qP 21 rfl rfl<|qP 21 rfl rfl<|qP 21 rfl rfl<|qP 21 rfl rfl<|qv (v:=(.bool true)) rfl (fun _ hC=>Zw rfl rfl) ?_;refine go ?_;refine X2 ?_;intro bb hC;replace hC:=hC.bl ab;replace aa:=aa.grow hC;exact ⟨rfl,_,_,hm,aa,rfl⟩
 refine qF ⟨_,_,rfl⟩ ?_;refine go ?_;refine qW (fun _ hC=>((ae.atN).nth (q:=0) rfl).gr (hC.bl ab)) ?_;refine go ?_;refine qF ⟨_,_,rfl⟩ ?_;refine go ?_;refine qW (fun _ hC=>((ag.atN).nth (q:=1) rfl).gr (hC.bl ab)) ?_;refine go ?_;refine qv (v:=(.bool (decide ((ac.2.1.length:Int)≤ad.1)))) rfl (fun _ hC=>Xk (congrArg Value.bool ai) rfl) ?_;refine go ?_;refine Xn hm (fun aj hm=>go ?_) fun aj hm=>go ?_
 ·refine qv (v:=(.bool true)) rfl (fun _ hC=>Zw (congrArg Value.bool aj) rfl) ?_;refine go ?_;refine qP 21 rfl rfl<|qP 21 rfl rfl<|qP 21 rfl rfl<|qP 21 rfl rfl<|qP 21 rfl rfl<|qP 21 rfl rfl<|qP 21 rfl rfl<|qP 21 rfl rfl<|qP 21 rfl rfl<|qP 21 rfl rfl<|qv (v:=(.bool true)) rfl (fun _ hC=>Zw rfl rfl) ?_;refine go ?_;refine X2 ?_;intro bc hC;replace hC:=hC.bl ab;replace aa:=aa.grow hC;exact ⟨rfl,_,_,hm,aa,rfl⟩
 refine qF ⟨_,_,rfl⟩ ?_;refine go ?_;refine qW (fun _ hC=>((ae.atN).nth (q:=1) rfl).gr (hC.bl ab)) ?_;refine go ?_;refine qv (v:=(.bool (decide (ad.2<0)))) rfl (fun _ hC=>Xk (congrArg Value.bool aj) rfl) ?_;refine go ?_;refine Xn hm (fun ak hm=>go ?_) fun ak hm=>go ?_
 ·refine qv (v:=(.bool true)) rfl (fun _ hC=>Zw (congrArg Value.bool ak) rfl) ?_;refine go ?_;refine X2 ?_;intro bd hC;replace hC:=hC.bl ab;replace aa:=aa.grow hC;exact ⟨rfl,_,_,hm,aa,rfl⟩
 refine qF ⟨_,_,rfl⟩ ?_;refine go ?_;refine qW (fun _ hC=>((ae.atN).nth (q:=1) rfl).gr (hC.bl ab)) ?_;refine go ?_;refine qF ⟨_,_,rfl⟩ ?_;refine go ?_;refine qW (fun _ hC=>((ag.atN).nth (q:=2) rfl).gr (hC.bl ab)) ?_;refine go ?_;refine qF ⟨_,_,rfl⟩ ?_;refine go ?_;refine qW (fun _ hC=>((ae.atN).nth (q:=0) rfl).gr (hC.bl ab)) ?_;refine go ?_;obtain ⟨a1,al,hm⟩:=bZ hm;refine qI al ((af.ks aa).addr al) ?_;refine go ?_;obtain ⟨_,a2,a3⟩:=(af.ks aa).atN al;obtain ⟨⟨be,bf,rfl,bg⟩,_⟩:=a2;refine qW (fun _ hC=>a3.one.gr (hC.bl ab)) ?_;refine go ?_;refine qv (v:=(.bool (decide ((a1.length:Int)≤ad.2)))) rfl (fun _ hC=>Xk (congrArg Value.bool ak) rfl) ?_;refine go ?_;refine X2 ?_;intro bh hC;exact ⟨rfl,_,_,hm,aa.grow (hC.bl ab),rfl⟩
def Zjb (ad:List Int) (ac:Int) (aa:List Int) (kk_L2:(Int→R2→Option Int)) (ae:Bool):Option Int:=
  if ae=true then (some 3) else ((Zi ad ac).bind fun ab=>Zt ((aa.length+[ab].length) * 8≤140737488355328∧aa.length+[ab].length≤maxLen) (kk_L2 (i64.wrap (ac+1)) (aa++[ab])))
def Zf8 (N:Nat) (ab:List Int) (aa:Int) (kk_L3:(Int→Option Int)):Nat→Int→Option Int
  | 0,_=>none
  | ad+1,ac=>if (decide (ac<aa))=true then ((Zi ab aa).bind fun ae=>(Zi ab ac).bind fun af=>if (decide (ae=af))=true then (some 40) else ((Zf8 N ab aa kk_L3 ad) (i64.wrap (ac+1)))) else (kk_L3 (i64.wrap (aa+1)))
def Zf9 (N:Nat) (aa:R0):Nat→Int→Int→Option Int
  | 0,_,_=>none
  | ae+1,ac,ab=>if (decide (ab<(aa.2.1.length:Int)))=true then ((Zi aa.2.2.1 ab).bind fun ad=>if (decide (65536<(i64.wrap (ac * (ad.length:Int)))))=true then (some 4) else ((Zf9 N aa ae) (i64.wrap (ac * (ad.length:Int))) (i64.wrap (ab+1)))) else (some 0)
def Zca (N:Nat) (ab:R0) (aa:List Int):Nat→Int→Option Int
  | 0,_=>none
  | ad+1,ac=>if (decide (ac<(aa.length:Int)))=true then (Zf8 N aa ac (Zca N ab aa ad) N 0) else (Zf9 N ab N 1 0)
def Zb9 (N:Nat) (ab:R0) (aa:List Int):Nat→Int→R2→Option Int
  | 0,_,_=>none
  | ae+1,ac,ad=>if (decide (ac<(aa.length:Int)))=true then ((Zi aa ac).bind fun af=>if (decide (af<0))=true then (Zjb aa ac ad (Zb9 N ab aa ae) true) else (Zjb aa ac ad (Zb9 N ab aa ae) (decide ((ab.2.1.length:Int)≤af)))) else (Zca N ab ad N 0)
def Zf7 (N:Nat) (aa:R0) (ad:Re) (af:List Int):Nat→R2→Int→Option Int
  | 0,_,_=>none
  | ag+1,ac,ae=>if (decide (ae<(ad.length:Int)))=true then ((Zi ad ae).bind fun ab=>(Zjm (aa.1,aa.2.1,aa.2.2.1,aa.2.2.2.1,aa.2.2.2.2) (ab.1,ab.2)).bind fun ah=>if ah=true then (some 3) else (Zt ((ac.length+[ab.1].length) * 8≤140737488355328∧ac.length+[ab.1].length≤maxLen) ((Zf7 N aa ad af ag) (ac++[ab.1]) (i64.wrap (ae+1))))) else (Zb9 N aa af N 0 ac)
def V9 (N:Nat) (aa:R0) (ac:Re) (ad:List Int):Option Int:=
  (Zdn N (aa.1,aa.2.1,aa.2.2.1,aa.2.2.2.1,aa.2.2.2.2)).bind fun ab=>if (!decide (ab=0))=true then (some ab) else (Zf7 N aa ac ad N ([]:List Int) 0)
theorem Zqb {N ah ai aj ak b5 b6:Nat} {al am an ao a1 a2:Option Addr} {col:Zd} {w0:World} {ab:R0} {a8:Re} {aq:R2} {r:Int} (hm:V9 N ab a8 aq=some r) (a9:Sl Za.str col w0 al ah ab.2.1) (aw:Sl rV col w0 am ai ab.2.2.1) (ba:Sl rP col w0 an aj ab.2.2.2.1) (bb:Sl (Za.slice rQ) col w0 ao ak ab.2.2.2.2) (h1:Sl (Za.pair rI rI) col w0 a1 b5 a8) (h2:Sl rI col w0 a2 b6 aq):
    Calls prog 32 #[(.agg #[.string ab.1,.slice al ab.2.1.length ah,.slice am ab.2.2.1.length ai,.slice an ab.2.2.2.1.length aj,.slice ao ab.2.2.2.2.length ak]),.slice a1 a8.length b5,.slice a2 aq.length b6] w0 (W5 w0 r):=by
 refine Z6 6 (m:=107) func32 rfl rfl rfl rfl rfl ?_;rw [V9.eq_1] at hm;have aa:=St.start col w0;refine go ?_;refine Xl (col:=(Zf col)) 1 rfl ?_;intro ax ca b7 cb ac;refine go ?_;refine lV _ (Z9 isAgg27 sizeOf27 ac) ?_;obtain ⟨cz,cc,hm⟩:=bZ hm;replace a9:=a9.k0;replace aw:=aw.k0;replace ba:=ba.k0;replace bb:=bb.k0;replace aa:=aa.grow cb;refine Zk (Z34 cc (a9.ks aa) (aw.ks aa) (ba.ks aa) (bb.ks aa)) fun _ cd ⟨e',bc⟩=>⟨_,e',?_⟩;replace bc:Zn b7 ca b7 cd:=.of_below bc;refine go ?_;replace h1:=h1.k0;replace h2:=h2.k0;replace ac:=ac.gr bc;replace aa:=aa.grow bc;refine Zm hm (fun hb hm=>go ?_) fun hb hm=>go ?_
 ·cases hm;exact ⟨rfl,rfl,aa.below⟩
 refine Zs [1,2,3,1000000] (fun n f bd=>∃ ae bn bo be bp ay,ay=n∧Zf7 N ab a8 aq ay be bp=some r∧St w0 (Zf col) ae bd∧Zj 27 1 ae bd ax #[.string ab.1,.slice al ab.2.1.length ah,.slice am ab.2.2.1.length ai,.slice an ab.2.2.2.1.length aj,.slice ao ab.2.2.2.2.length ak]∧Zc rI 3 2 ae bd bn bo be∧[8,9].map f=[.slice bn be.length bo,.int .i64 bp]) N ⟨_,none,0,_,0,_,rfl,hm,aa,ac,Zc.nil,rfl⟩ ?_;clear hm;intro n f bd hI;obtain ⟨ae,bn,bo,be,bp,ay,hn,hm,aa,ac,az,hs⟩:=hI;subst hn;refine .lL [8,9] hs ?_
 cases ay with
 | zero=>rw [Zf7.eq_1] at hm;cases hm
 | succ ay=>
  rw [Zf7.eq_2] at hm;refine go ?_;refine Zm hm (fun hb hm=>go ?_) fun hb hm=>go ?_
  ·refine Y7 (col:=ae) (by kernel_rfl) (by kernel_rfl)<|qv rfl (fun _ hC=>Z9 isAgg27 sizeOf27 (ac.gr (hC.bl ae))) ?_;refine go ?_;obtain ⟨bq,ar,hm⟩:=bZ hm;refine qI ar ((h1.ks aa).addr ar) ?_;obtain ⟨_,ce,cf⟩:=(h1.ks aa).atN ar;obtain ⟨_,_,rfl,cg,ch⟩:=Yb ce;obtain ⟨rfl,_⟩:=cg;obtain ⟨rfl,_⟩:=ch;refine qv (v:=(.agg #[.int .i64 bq.1,.int .i64 bq.2])) rfl (fun _ hC=>Ym isAgg66 sizeOf66 rfl rfl (cf.gr (hC.bl ae))) ?_;obtain ⟨ci,cj,hm⟩:=bZ hm;refine qc (v:=(.bool ci)) rfl (fun _ hC=>⟨_,_,Zce call87 rfl rfl,(Z4k cj ((a9.ks aa).gr (hC.bl ae)) ((aw.ks aa).gr (hC.bl ae)) ((ba.ks aa).gr (hC.bl ae)) ((bb.ks aa).gr (hC.bl ae)):).mono fun _ _ h=>⟨h.1,hC.trans (.of_below h.2)⟩⟩) ?_;refine go ?_;refine X2 ?_;intro c0 hC;replace hC:=hC.bl ae;refine go ?_;replace az:=az.gr hC;replace ac:=ac.gr hC;replace aa:=aa.grow hC;refine Zm hm (fun hb hm=>go ?_) fun hb hm=>go ?_
   ·cases hm;exact ⟨rfl,rfl,aa.below⟩
   refine lI ar ((h1.ks aa).addr ar)<|Z7 (X8 ((h1.ks aa).addr ar)) ?_;obtain ⟨_,ck,cl⟩:=(h1.ks aa).atN ar;obtain ⟨_,_,rfl,cn,co⟩:=Yb ck;obtain ⟨rfl,_⟩:=cn;obtain ⟨rfl,_⟩:=co;refine lW ((cl).nth (q:=0) rfl)<|Wj (col:=ae) [bq.1] 3 ?_;intro c1 c2 c3 br cp;obtain ⟨cq,hm⟩:=Zv hm;replace az:=az.gr br;refine Yy az (cp.srcN (NB.int (k:=.i64))) cq ?_;intro c4 c5 c6 c7 b8 cr;refine go ?_;replace ac:=(ac.gr br).kpp b8;replace aa:=(aa.grow br).kpp b8;exact ⟨ay,by omega,rfl,⟨_,_,_,_,_,_,rfl,hm,aa,ac,cr,rfl⟩⟩
  refine Zs [2,3,1000000] (fun n f bf=>∃ ag bg a0 a3 af au,au=n∧Zb9 N ab aq au bg af=some r∧St w0 (Zf col) ag bf∧Zj 27 1 ag bf ax #[.string ab.1,.slice al ab.2.1.length ah,.slice am ab.2.2.1.length ai,.slice an ab.2.2.2.1.length aj,.slice ao ab.2.2.2.2.length ak]∧Zc rI 3 2 ag bf a0 a3 af∧[11,8].map f=[.int .i64 bg,.slice a0 af.length a3]) N ⟨_,0,_,_,_,_,rfl,hm,aa,ac,az,rfl⟩ ?_;clear hm;intro n f bf hI;obtain ⟨ag,bg,a0,a3,af,au,hn,hm,aa,ac,ad,hs⟩:=hI;subst hn;refine .lL [11,8] hs ?_
  cases au with
  | zero=>rw [Zb9.eq_1] at hm;cases hm
  | succ au=>
   rw [Zb9.eq_2] at hm;refine go ?_;refine Zm hm (fun hb hm=>?_) fun hb hm=>go ?_
   ·refine Yj<|Z0<|Zjy<|Z0<|Z0 ?_;refine Wp.cutK [11,2,3,8,1000000] (fun f bh=>∃ a7 bs,Zjb aq bg af (Zb9 N ab aq au) bs=some r∧St w0 (Zf col) a7 bh∧Zj 27 1 a7 bh ax #[.string ab.1,.slice al ab.2.1.length ah,.slice am ab.2.2.1.length ai,.slice an ab.2.2.2.1.length aj,.slice ao ab.2.2.2.2.length ak]∧Zc rI 3 2 a7 bh a0 a3 af∧[62].map f=[.bool bs]) ?_ ?_
    ·intro f bh hJ;obtain ⟨a7,bs,hm,aa,ac,ad,hs⟩:=hJ;rw [Zjb.eq_1] at hm;refine .lL [62] hs ?_;refine Zm hm (fun hb hm=>go ?_) fun hb hm=>go ?_
     ·cases hm;exact ⟨rfl,rfl,aa.below⟩
     obtain ⟨cs,bt,hm⟩:=bZ hm;refine lI bt ((h2.ks aa).addr bt)<|lW ((h2.ks aa).atInt bt)<|Wj (col:=a7) [cs] 4 ?_;intro c8 c9 da bu ct;obtain ⟨cu,hm⟩:=Zv hm;replace ad:=ad.gr bu;refine Yy ad (ct.srcN (NB.int (k:=.i64))) cu ?_;intro db dc dd de b9 cv;refine go ?_;replace ac:=(ac.gr bu).kpp b9;replace aa:=(aa.grow bu).kpp b9;exact ⟨au,by omega,rfl,⟨_,_,_,_,_,_,rfl,hm,aa,ac,cv,rfl⟩⟩
    refine Y7 (col:=ag) (by kernel_rfl) (by kernel_rfl)<|go ?_;obtain ⟨cw,a4,hm⟩:=bZ hm;refine qI a4 ((h2.ks aa).addr a4)<|qW (fun _ hC=>((h2.ks aa).gr (hC.bl ag)).atInt a4) ?_;refine go ?_;refine Xn hm (fun bv hm=>go ?_) fun bv hm=>go ?_
    ·refine qv (v:=(.bool true)) rfl (fun _ hC=>Zw (congrArg Value.bool bv) rfl) ?_;refine X2 ?_;intro df hC;replace hC:=hC.bl ag;replace ad:=ad.gr hC;replace ac:=ac.gr hC;replace aa:=aa.grow hC;exact ⟨rfl,_,_,hm,aa,ac,ad,rfl⟩
    refine qI a4 ((h2.ks aa).addr a4) ?_;refine go ?_;refine qW (fun _ hC=>((h2.ks aa).gr (hC.bl ag)).atInt a4) ?_;refine go ?_;refine qF ⟨_,_,rfl⟩ ?_;refine go ?_;refine qW (fun _ hC=>((ac.atN).nth (q:=1) rfl).gr (hC.bl ag)) ?_;refine go ?_;refine qv (v:=(.bool (decide ((ab.2.1.length:Int)≤cw)))) rfl (fun _ hC=>Xk (congrArg Value.bool bv) rfl) ?_;refine X2 ?_;intro dg hC;replace hC:=hC.bl ag;replace ad:=ad.gr hC;replace ac:=ac.gr hC;replace aa:=aa.grow hC;exact ⟨rfl,_,_,hm,aa,ac,ad,rfl⟩
   refine Zs [3,8,1000000] (fun n f bi=>∃ bj bk av,av=n∧Zca N ab af av bk=some r∧St w0 (Zf col) bj bi∧Zj 27 1 bj bi ax #[.string ab.1,.slice al ab.2.1.length ah,.slice am ab.2.2.1.length ai,.slice an ab.2.2.2.1.length aj,.slice ao ab.2.2.2.2.length ak]∧Zc rI 3 2 bj bi a0 a3 af∧[12].map f=[.int .i64 bk]) N ⟨_,0,_,rfl,hm,aa,ac,ad,rfl⟩ ?_;clear hm;intro n f bi hI;obtain ⟨bj,bk,av,hn,hm,aa,ac,ad,hs⟩:=hI;subst hn;refine .lL [12] hs ?_
   cases av with
   | zero=>rw [Zca.eq_1] at hm;cases hm
   | succ av=>
    rw [Zca.eq_2] at hm;refine go ?_;refine Zm hm (fun hb hm=>go ?_) fun hb hm=>go ?_
    ·refine Zs [12,3,8,1000000] (fun n f bm=>∃ ap bw a5,a5=n∧Zf8 N af bk (Zca N ab af av) a5 bw=some r∧St w0 (Zf col) ap bm∧Zj 27 1 ap bm ax #[.string ab.1,.slice al ab.2.1.length ah,.slice am ab.2.2.1.length ai,.slice an ab.2.2.2.1.length aj,.slice ao ab.2.2.2.2.length ak]∧Zc rI 3 2 ap bm a0 a3 af∧[13].map f=[.int .i64 bw]) N ⟨_,0,_,rfl,hm,aa,ac,ad,rfl⟩ ?_;clear hm;intro n f bm hI;obtain ⟨ap,bw,a5,hn,hm,aa,ac,ad,hs⟩:=hI;subst hn;refine .lL [13] hs ?_
     cases a5 with
     | zero=>rw [Zf8.eq_1] at hm;cases hm
     | succ a5=>
      rw [Zf8.eq_2] at hm;refine go ?_;refine Zm hm (fun hb hm=>go ?_) fun hb hm=>go ?_
      ·refine Y7 (col:=ap) (by kernel_rfl) (by kernel_rfl)<|go ?_;obtain ⟨dh,bx,hm⟩:=bZ hm;refine qI bx (ad.addr bx)<|qW (fun _ hC=>(ad.gr (hC.bl ap)).atInt bx) ?_;refine go ?_;obtain ⟨di,bz,hm⟩:=bZ hm;refine qI bz (ad.addr bz)<|qW (fun _ hC=>(ad.gr (hC.bl ap)).atInt bz) ?_;refine go ?_;refine X2 ?_;intro dj hC;replace hC:=hC.bl ap;replace ad:=ad.gr hC;replace ac:=ac.gr hC;replace aa:=aa.grow hC;refine Zm hm (fun hb hm=>go ?_) fun hb hm=>go ?_
       ·cases hm;exact ⟨rfl,rfl,aa.below⟩
       exact ⟨a5,by omega,rfl,⟨_,_,_,rfl,hm,aa,ac,ad,rfl⟩⟩
      exact ⟨av,by omega,rfl,⟨_,_,_,rfl,hm,aa,ac,ad,rfl⟩⟩
    refine Zs [3,1000000] (fun n f b0=>∃ b1 b2 b3 a6,a6=n∧Zf9 N ab a6 b2 b3=some r∧St w0 (Zf col) b1 b0∧Zj 27 1 b1 b0 ax #[.string ab.1,.slice al ab.2.1.length ah,.slice am ab.2.2.1.length ai,.slice an ab.2.2.2.1.length aj,.slice ao ab.2.2.2.2.length ak]∧[14,15].map f=[.int .i64 b2,.int .i64 b3]) N ⟨_,1,0,_,rfl,hm,aa,ac,rfl⟩ ?_;clear hm;intro n f b0 hI;obtain ⟨b1,b2,b3,a6,hn,hm,aa,ac,hs⟩:=hI;subst hn;refine .lL [14,15] hs ?_
    cases a6 with
    | zero=>rw [Zf9.eq_1] at hm;cases hm
    | succ a6=>
     rw [Zf9.eq_2] at hm;refine go ?_;refine Z1 ac ?_;refine go ?_;refine Zm hm (fun hb hm=>go ?_) fun hb hm=>go ?_
     ·refine Z1 ac<|Xr rfl ?_;obtain ⟨dk,b4,hm⟩:=bZ hm;refine lI b4 ((aw.ks aa).addr b4) ?_;obtain ⟨_,cx,cy⟩:=(aw.ks aa).atN b4;obtain ⟨⟨dl,dm,rfl,dn⟩,_⟩:=cx;refine lW cy.one<|go ?_;refine Zm hm (fun hb hm=>go ?_) fun hb hm=>go ?_
      ·cases hm;exact ⟨rfl,rfl,aa.below⟩
      exact ⟨a6,by omega,rfl,⟨_,_,_,_,rfl,hm,aa,ac,rfl⟩⟩
     cases hm;exact ⟨rfl,rfl,aa.below⟩

end Go.Proofs.YthclpfhncgpnmaaGreat
